/- Texts of this claim, one behind the other (merged by a program of mine). -/
import Derived.Shelf.Lays
import Derived.Ground.NamesProg
import Derived.Test.YtbliejnpjpnahaaGreatDoorProg
import Derived.Shelf.Strings.Search2
import Derived.Shelf.Strings.OnBuilder
import Derived.Shelf.SortM.Plain
import Derived.Shelf.SortM.SortNone
import Derived.Ground.SlgmProg
import Derived.Shelf.SlGeneric
import Derived.Sort.OwnSortedInts
import Derived.Below
import Derived.StillTailTactics
import Derived.Laws.OwnMore
import Derived.Deep.AppendLies
import Derived.Deep.Draws
import Derived.Laws.Rows
import Derived.Shelf.SlicesG.Clone
import Derived.Shelf.SlicesG.CompactI
import Derived.Ground.SlgnProg
import Derived.BigCall
import Derived.Deep.RegionHeld3
import Derived.Shelf.Strings.Repeat
import Derived.Test.YtbliejnpjpnahaaGreatDoorGCz8
set_option linter.unusedSimpArgs false
set_option linter.unusedVariables false
namespace Go.Proofs
open Go.Shelf
def Tryz.layLaysn219_ren:Go.Shelf.Ren:=⟨fun | 219=>185 | 217=>246 | 225=>247 | 224=>248 | 267=>249 | 266=>280 | 314=>281 | n=>n,fun | 9=>9 | 3=>3 | 4=>4 | 5=>5 | 46=>124 | 146=>337 | 51=>336 | n=>n,fun | 1=>0 | n=>n⟩
theorem Tryz.layLaysn219:Go.Proofs.Lays.n219 Tryz.prog Tryz.layLaysn219_ren:={
 mixed:=by kernel_rfl
 f217:=Tryz.func246.trans (congrArg some (by kernel_rfl))
 f219:=Tryz.func185.trans (congrArg some (by kernel_rfl))
 f224:=Tryz.func248.trans (congrArg some (by kernel_rfl))
 f225:=Tryz.func247.trans (congrArg some (by kernel_rfl))
 f266:=Tryz.func280.trans (congrArg some (by kernel_rfl))
 f267:=Tryz.func249.trans (congrArg some (by kernel_rfl))
 f314:=Tryz.func281.trans (congrArg some (by kernel_rfl))
 t3:=Tryz.underlying3
 a3:=Tryz.isAgg3
 z3:=Tryz.sizeOf3
 v3:=Tryz.zeroValue3
 t4:=Tryz.underlying4
 a4:=Tryz.isAgg4
 z4:=Tryz.sizeOf4
 v4:=Tryz.zeroValue4
 t5:=Tryz.underlying5
 a5:=Tryz.isAgg5
 z5:=Tryz.sizeOf5
 v5:=Tryz.zeroValue5
 t9:=Tryz.underlying9
 a9:=Tryz.isAgg9
 z9:=Tryz.sizeOf9
 v9:=Tryz.zeroValue9
 t46:=Tryz.underlying124
 a46:=Tryz.isAgg124
 z46:=Tryz.sizeOf124
 v46:=Tryz.zeroValue124
 t51:=Tryz.underlying336
 a51:=Tryz.isAgg336
 z51:=Tryz.sizeOf336
 v51:=Tryz.zeroValue336
 t146:=Tryz.underlying337
 a146:=Tryz.isAgg337
 z146:=Tryz.sizeOf337
 v146:=Tryz.zeroValue337
 g1:=by kernel_rfl }
end Go.Proofs
namespace Go.Proofs.YtbliejnpjpnahaaGreatDoor
open Go.Shelf Go.RowKit
set_option linter.unusedVariables false
set_option maxRecDepth 100000
theorem aWx {s:ByteArray} {c:UInt8}:FnC Tryz.prog 185 [] [.d (.v (.string s)), .d (.v (.string ⟨#[c]⟩))] [] (.d (.v (.int .i64 (Lib.indexByte s.data.toList c)))) :=
 aSp (v := .int .i64 (Lib.indexByte s.data.toList c)) (by kernel_rfl) rfl fun W=>(Any.stringslite_Index_one Tryz.layLaysn219 s c W).mono (by rintro e w' ⟨rfl,rfl⟩;exact ⟨rfl,Below.refl _ _⟩)
end Go.Proofs.YtbliejnpjpnahaaGreatDoor
namespace Go.Proofs
open Go.Shelf
def Tryz.layLaysn156_ren:Go.Shelf.Ren:=⟨fun | 156=>50 | 165=>106 | 166=>28 | 169=>29 | 240=>58 | 241=>178 | 276=>116 | 277=>237 | n=>n,fun | 31=>24 | 9=>9 | 3=>3 | 4=>4 | 0=>0 | 20=>20 | 72=>71 | 76=>76 | 70=>69 | 37=>22 | 75=>75 | 127=>123 | 164=>199 | 5=>5 | 80=>78 | n=>n,fun | n=>n⟩
theorem Tryz.layLaysn156:Go.Proofs.Lays.n156 Tryz.prog Tryz.layLaysn156_ren:={
 mixed:=by kernel_rfl
 f156:=Tryz.func50.trans (congrArg some (by kernel_rfl))
 f165:=Tryz.func106.trans (congrArg some (by kernel_rfl))
 f166:=Tryz.func28.trans (congrArg some (by kernel_rfl))
 f169:=Tryz.func29.trans (congrArg some (by kernel_rfl))
 f240:=Tryz.func58.trans (congrArg some (by kernel_rfl))
 f241:=Tryz.func178.trans (congrArg some (by kernel_rfl))
 f276:=Tryz.func116.trans (congrArg some (by kernel_rfl))
 f277:=Tryz.func237.trans (congrArg some (by kernel_rfl))
 t0:=Tryz.underlying0
 a0:=Tryz.isAgg0
 z0:=Tryz.sizeOf0
 v0:=Tryz.zeroValue0
 t3:=Tryz.underlying3
 a3:=Tryz.isAgg3
 z3:=Tryz.sizeOf3
 v3:=Tryz.zeroValue3
 t4:=Tryz.underlying4
 a4:=Tryz.isAgg4
 z4:=Tryz.sizeOf4
 v4:=Tryz.zeroValue4
 t9:=Tryz.underlying9
 a9:=Tryz.isAgg9
 z9:=Tryz.sizeOf9
 v9:=Tryz.zeroValue9
 t20:=Tryz.underlying20
 a20:=Tryz.isAgg20
 z20:=Tryz.sizeOf20
 v20:=Tryz.zeroValue20
 t31:=Tryz.underlying24
 a31:=Tryz.isAgg24
 z31:=Tryz.sizeOf24
 v31:=Tryz.zeroValue24
 t37:=Tryz.underlying22
 a37:=Tryz.isAgg22
 z37:=Tryz.sizeOf22
 v37:=Tryz.zeroValue22
 t70:=Tryz.underlying69
 a70:=Tryz.isAgg69
 z70:=Tryz.sizeOf69
 v70:=Tryz.zeroValue69
 t72:=Tryz.underlying71
 a72:=Tryz.isAgg71
 z72:=Tryz.sizeOf71
 v72:=Tryz.zeroValue71
 t75:=Tryz.underlying75
 a75:=Tryz.isAgg75
 z75:=Tryz.sizeOf75
 v75:=Tryz.zeroValue75
 t76:=Tryz.underlying76
 a76:=Tryz.isAgg76
 z76:=Tryz.sizeOf76
 v76:=Tryz.zeroValue76
 t127:=Tryz.underlying123
 a127:=Tryz.isAgg123
 z127:=Tryz.sizeOf123
 v127:=Tryz.zeroValue123
 t164:=Tryz.underlying199
 a164:=Tryz.isAgg199
 z164:=Tryz.sizeOf199
 v164:=Tryz.zeroValue199 }
end Go.Proofs
namespace Go.Proofs.YtbliejnpjpnahaaGreatDoor
open Go.Shelf Go.RowKit
set_option linter.unusedVariables false
set_option maxRecDepth 100000
theorem aY2:Builder.Extra Tryz.prog Tryz.layLaysn156_ren:={
 sizeBuilder:=by kernel_rfl
 liesBuilder:=by kernel_rfl
 t5:=Tryz.underlying5
 a5:=Tryz.isAgg5
 z5:=Tryz.sizeOf5
 v5:=Tryz.zeroValue5
 infoByte:=by kernel_rfl
 cellsByte:=by kernel_rfl
 sizeByte:=by kernel_rfl
 neB5:=by decide }
theorem aT3 {w:World} {F:Nat→Prop} {v:Value} {s:ByteArray} (h:xV w F v (.v (.string s))):v = .string s:=by cases h;rfl
theorem aZz {xs:List ByteArray} {sep:ByteArray} (hN:xs.length≤140737488355328) (hlen:(aIf xs sep).size≤140737488355328):FnC Tryz.prog 50 [] [.d (.sl (xs.map cS)), .d (.v (.string sep))] [] (.d (.v (.string (aIf xs sep)))):=by
 refine ⟨by kernel_rfl,fun w F μ us gl H hs hr => ?_⟩
 obtain ⟨u0,u1,rfl⟩ : ∃ u0 u1,us = #[u0,u1]:=by
  obtain ⟨l⟩:=us
  match l,hs with
  | [a,b],_=>exact ⟨a,b,rfl⟩
 have e1:u1 = .string sep:=by
  have:=hr 1 u1 _ rfl rfl
  cases this with | d _ _ hd=>exact aT3 hd
 subst e1
 have h0:xV w F u0 (.sl (xs.map cS)):=by
  have:=hr 0 u0 _ rfl rfl
  cases this with | d _ _ hd=>exact hd
 generalize hes:xs.map cS=es at h0
 have done : ∀ (e:Ending) (w':World),(e = .returned (.string (aIf xs sep))∧Below w.heap.size w w') → ∃ v F' μ',e = .returned v∧iA ⟨w,F, μ,lks [],gl⟩ F' μ' (lks []) w'∧eP w' F' μ' (lks []) v (.d (.v (.string (aIf xs sep)))):=by
  rintro e w' ⟨rfl,hb⟩
  exact ⟨_,F, μ,rfl,H.of_below hb, .d _ _ (.v _ rfl)⟩
 cases h0 with
 | nil =>
  have:xs=[]:=List.map_eq_nil_iff.1 hes
  subst this
  exact (Any.strings_Join_none Tryz.layLaysn156 aY2 none 0 sep w).mono fun e w' h=>done e w' ⟨h.1,h.2 ▸ Below.refl _ _⟩
 | emp A c hm =>
  have:xs=[]:=List.map_eq_nil_iff.1 hes
  subst this
  exact (Any.strings_Join_none Tryz.layLaysn156 aY2 A c sep w).mono fun e w' h=>done e w' ⟨h.1,h.2 ▸ Below.refl _ _⟩
 | sl b off c sz es g hF hc hm hz hg hr2 =>
  subst hes
  have hl:(xs.map cS).length=xs.length:=List.length_map _
  rw [hl]
  refine (Any.strings_Join Tryz.layLaysn156 aY2 b off c xs sep w ?_ (H.fz b hF) hN (by omega) (by simpa [aIf,ByteArray.size] using hlen)).mono fun e w' h=>done e w' h
  intro j x hx
  have h1:(xs.map cS)[j]? = some (cS x):=by simp [hx]
  have h2:=hz j _ h1
  have h3:sz=1:=by rw [← h2];rfl
  subst h3
  have h4:=hg j _ 0 (.v (.string x)) h1 rfl
  have h5:=aT3 (hr2 j _ 0 (.v (.string x)) h1 rfl)
  rw [h5] at h4
  simpa using h4
end Go.Proofs.YtbliejnpjpnahaaGreatDoor
namespace Go.Proofs
open Go.Shelf
def Tryz.laySlLaysMn5_ren:Go.Shelf.Ren:=⟨fun | 5=>213 | 8=>268 | 7=>267 | 19=>296 | 20=>274 | 10=>287 | 11=>288 | 12=>289 | 13=>290 | 14=>291 | 15=>292 | 16=>293 | 17=>294 | 18=>295 | 30=>300 | 31=>301 | 32=>302 | 33=>303 | 34=>304 | 35=>251 | 40=>305 | n=>n,fun | 23=>34 | 25=>2 | 3=>3 | 32=>124 | 22=>34 | 0=>0 | 44=>336 | 46=>79 | 4=>4 | 36=>360 | 35=>359 | 41=>278 | 5=>5 | 9=>9 | 53=>369 | 57=>373 | 63=>377 | 64=>378 | n=>n,fun | n=>n⟩
theorem Tryz.laySlLaysMn5:Go.Proofs.SlLaysM.n5 Tryz.prog Tryz.laySlLaysMn5_ren:={
 mixed:=by kernel_rfl
 f5:=⟨Tryz.f213.name,by decide,Tryz.func213.trans (congrArg some (by kernel_rfl))⟩
 f7:=⟨Tryz.f267.name,by decide,Tryz.func267.trans (congrArg some (by kernel_rfl))⟩
 f8:=Tryz.func268.trans (congrArg some (by kernel_rfl))
 f10:=⟨Tryz.f287.name,by decide,Tryz.func287.trans (congrArg some (by kernel_rfl))⟩
 f11:=⟨Tryz.f288.name,by decide,Tryz.func288.trans (congrArg some (by kernel_rfl))⟩
 f12:=⟨Tryz.f289.name,by decide,Tryz.func289.trans (congrArg some (by kernel_rfl))⟩
 f13:=⟨Tryz.f290.name,by decide,Tryz.func290.trans (congrArg some (by kernel_rfl))⟩
 f14:=⟨Tryz.f291.name,by decide,Tryz.func291.trans (congrArg some (by kernel_rfl))⟩
 f15:=⟨Tryz.f292.name,by decide,Tryz.func292.trans (congrArg some (by kernel_rfl))⟩
 f16:=⟨Tryz.f293.name,by decide,Tryz.func293.trans (congrArg some (by kernel_rfl))⟩
 f17:=⟨Tryz.f294.name,by decide,Tryz.func294.trans (congrArg some (by kernel_rfl))⟩
 f18:=⟨Tryz.f295.name,by decide,Tryz.func295.trans (congrArg some (by kernel_rfl))⟩
 f19:=Tryz.func296.trans (congrArg some (by kernel_rfl))
 f20:=Tryz.func274.trans (congrArg some (by kernel_rfl))
 f30:=⟨Tryz.f300.name,by decide,Tryz.func300.trans (congrArg some (by kernel_rfl))⟩
 f31:=Tryz.func301.trans (congrArg some (by kernel_rfl))
 f32:=Tryz.func302.trans (congrArg some (by kernel_rfl))
 f33:=⟨Tryz.f303.name,by decide,Tryz.func303.trans (congrArg some (by kernel_rfl))⟩
 f34:=⟨Tryz.f304.name,by decide,Tryz.func304.trans (congrArg some (by kernel_rfl))⟩
 f35:=⟨Tryz.f251.name,by decide,Tryz.func251.trans (congrArg some (by kernel_rfl))⟩
 f40:=⟨Tryz.f305.name,by decide,Tryz.func305.trans (congrArg some (by kernel_rfl))⟩
 t0:=Tryz.underlying0
 a0:=Tryz.isAgg0
 z0:=Tryz.sizeOf0
 v0:=Tryz.zeroValue0
 t3:=Tryz.underlying3
 a3:=Tryz.isAgg3
 z3:=Tryz.sizeOf3
 v3:=Tryz.zeroValue3
 t4:=Tryz.underlying4
 a4:=Tryz.isAgg4
 z4:=Tryz.sizeOf4
 v4:=Tryz.zeroValue4
 t5:=Tryz.underlying5
 a5:=Tryz.isAgg5
 z5:=Tryz.sizeOf5
 v5:=Tryz.zeroValue5
 t9:=Tryz.underlying9
 a9:=Tryz.isAgg9
 z9:=Tryz.sizeOf9
 v9:=Tryz.zeroValue9
 t22:=Tryz.underlying34
 a22:=Tryz.isAgg34
 z22:=Tryz.sizeOf34
 v22:=Tryz.zeroValue34
 t23:=Tryz.underlying34
 a23:=Tryz.isAgg34
 z23:=Tryz.sizeOf34
 v23:=Tryz.zeroValue34
 t25:=Tryz.underlying2
 a25:=Tryz.isAgg2
 z25:=Tryz.sizeOf2
 v25:=Tryz.zeroValue2
 t32:=Tryz.underlying124
 a32:=Tryz.isAgg124
 z32:=Tryz.sizeOf124
 v32:=Tryz.zeroValue124
 t35:=Tryz.underlying359
 a35:=Tryz.isAgg359
 z35:=Tryz.sizeOf359
 v35:=Tryz.zeroValue359
 t36:=Tryz.underlying360
 a36:=Tryz.isAgg360
 z36:=Tryz.sizeOf360
 v36:=Tryz.zeroValue360
 t41:=Tryz.underlying278
 a41:=Tryz.isAgg278
 z41:=Tryz.sizeOf278
 v41:=Tryz.zeroValue278
 t44:=Tryz.underlying336
 a44:=Tryz.isAgg336
 z44:=Tryz.sizeOf336
 v44:=Tryz.zeroValue336
 t46:=Tryz.underlying79
 a46:=Tryz.isAgg79
 z46:=Tryz.sizeOf79
 v46:=Tryz.zeroValue79
 t53:=Tryz.underlying369
 a53:=Tryz.isAgg369
 z53:=Tryz.sizeOf369
 v53:=Tryz.zeroValue369
 t57:=Tryz.underlying373
 a57:=Tryz.isAgg373
 z57:=Tryz.sizeOf373
 v57:=Tryz.zeroValue373
 t63:=Tryz.underlying377
 a63:=Tryz.isAgg377
 z63:=Tryz.sizeOf377
 v63:=Tryz.zeroValue377
 t64:=Tryz.underlying378
 a64:=Tryz.isAgg378
 z64:=Tryz.sizeOf378
 v64:=Tryz.zeroValue378 }
end Go.Proofs
namespace Go.Proofs.YtbliejnpjpnahaaGreatDoor
open Go.Shelf Go.RowKit Go.Sort
set_option linter.unusedVariables false
set_option maxRecDepth 100000
theorem aW1 {w:World} {F:Nat→Prop} {μ:bJ} {h:dG} {cur:Array Value} {xs:List Int} (hat : ∀ i cells,(aX.data (xs.map fun x=>[DV.v (.int .i64 x)])).get i=some cells→cells.length=1 ∧ ∀ (j:Nat) (c:AV),cells[j]? = some c → ∃ u,cur[i*1+j]? = some u∧eP w F μ h u c):cur.toList.take xs.length=xs.map (Value.int .i64):=by
 apply List.ext_getElem?
 intro j
 by_cases hj:j<xs.length
 ·rw [List.getElem?_take_of_lt hj,Array.getElem?_toList,List.getElem?_map,List.getElem?_eq_getElem hj]
  obtain ⟨_,q⟩:=hat j [.d (.v (.int .i64 xs[j]))] (by simp [aX.get,List.getElem?_eq_getElem hj])
  obtain ⟨u,hu,hr⟩:=q 0 _ rfl
  cases hr with | d _ _ hd =>
  cases hd
  simpa using hu
 ·rw [List.getElem?_take_eq_none (by omega),List.getElem?_eq_none (by simp;omega)]
theorem bCc {ty:TypeId} {xs:List Int} (hxl:xs.length≤140737488355328):FnC Tryz.prog 213 [.live [⟨ty,1, .data (xs.map fun x=>[DV.v (.int .i64 x)])⟩]] [.own 0 0 xs.length] [.live [⟨ty,1, .data ((oA xs).map fun x=>[DV.v (.int .i64 x)])⟩]] (.tup []):=by
 refine ⟨by kernel_rfl,fun w F μ us gl H hs hus => ?_⟩
 obtain ⟨u0,rfl⟩ : ∃ u0,us = #[u0]:=by
  obtain ⟨l⟩:=us
  match l,hs with
  | [a],_=>exact ⟨a,rfl⟩
 have h1:=hus 0 u0 _ rfl rfl
 cases h1 with | own _ _ _ _ h11 hb hv =>
 obtain ⟨hn,hv⟩:=hv _ rfl
 have hlen:(aX.data (xs.map fun x=>[DV.v (.int .i64 x)])).len=xs.length:=by simp [aX.len]
 have hup : ∀ s s':fA,upd (lks [s]) 0 s'=lks [s']:=fun s s'=>by
  funext k
  cases k with
  | zero=>simp [upd,lks]
  | succ k=>rfl
 rcases hv hlen with ⟨m1,m2,rfl⟩ | ⟨b,c,cur,m1,rfl,m3,m4,m5,m6⟩
 ·have hx:xs=[]:=List.eq_nil_of_length_eq_zero m2
  subst hx
  rw [show oA []=[] from by simp [oA]]
  refine (AnyM.slices_Sort_int_none Tryz.laySlLaysMn5 none 0 w).mono ?_
  rintro e w' ⟨rfl,rfl⟩
  exact ⟨_,F, μ,rfl,H, .tup #[] [] rfl fun i v a h1 h2=>by simp at h1⟩
 ·have hob:=H.ob 0 0 _ rfl
  rcases hob with ⟨q,_⟩ | ⟨b',cur',q1,q2,q3⟩
  ·rw [m1] at q;cases q
  ·rw [m1] at q1
   injection q1 with q1
   subst q1
   rw [m3] at q2
   injection q2 with q2
   injection q2 with q2
   subst q2
   have hrow:=aW1 q3
   have hH:Holds (Value.int .i64) w b 0 xs.toArray:=holds_of_blockI m3 hrow
   have hbl:b<w.heap.size:=(Array.getElem?_eq_some_iff.1 m3).1
   have hcall:=AnyM.slices_Sort_int Tryz.laySlLaysMn5 b 0 c xs w hH hbl (by omega)
   rw [← aFn] at hcall
   refine hcall.mono ?_
   rintro e w' ⟨rfl,n,os,rfl⟩
   have hg:=grownBy_sortedI (w:=w) (g:=b) (n:=n) (os:=os) (oA xs).toArray
   have hc:=heap_sortedI (n:=n) (os:=os) (oA xs).toArray m3
   have hsl:=xU xs
   have m4':cur.size=c*1:=m4
   have htk:=take_putCellsI cur (oA xs) (by rw [hsl];omega)
   have hput:=H.put (w':=grow (putRow (Value.int .i64) (Sort.ahead w n) b 0 (oA xs).toArray) os) (k:=0) (f:=0) (l:=[⟨ty,1, .data (xs.map fun x=>[DV.v (.int .i64 x)])⟩]) (o:=⟨ty,1, .data (xs.map fun x=>[DV.v (.int .i64 x)])⟩) rfl rfl (o':=⟨ty,1, .data ((oA xs).map fun x=>[DV.v (.int .i64 x)])⟩) b _ hg.size hg.os hg.tape hg.output (fun b' hb' hne=>hg.block b' hb' fun e=>hne (by rw [m1,e])) (.inl m1) (Nat.lt_of_lt_of_le hbl hg.size) hc
    (.inr ⟨by simp [aX.len,hsl],rfl,rfl,m1,fun cur2 h2=>by rw [m3] at h2;injection h2 with h2;injection h2 with h2;rw [← h2];simp [putCells]⟩) (fun i cells hi=>by
     simp only [aX.get,List.getElem?_map,Option.map_map,Option.map_eq_some_iff] at hi
     obtain ⟨x,hx,rfl⟩:=hi
     refine ⟨rfl,fun j cc hj => ?_⟩
     match j with
     | 0 =>
      simp at hj
      subst hj
      have hi':i<xs.length:=by rw [← hsl];exact (List.getElem?_eq_some_iff.1 hx).1
      have:=congrArg (·[i]?) htk
      simp only [List.getElem?_take_of_lt (show i<(oA xs).length by omega),List.getElem?_map,hx,Array.getElem?_toList] at this
      exact ⟨.int .i64 x,by simpa using this, .d _ _ (.v _ rfl)⟩
     | j+1=>simp at hj)
   refine ⟨_,F,uH μ 0 0 (some b),rfl,?_, .tup #[] [] rfl fun i v a h1 h2=>by simp at h1⟩
   have:=hput.1
   rw [List.set_cons_zero,hup] at this
   exact this
end Go.Proofs.YtbliejnpjpnahaaGreatDoor
namespace Go.Proofs.YtbliejnpjpnahaaGreatDoor
open Go.RowKit
set_option linter.unusedVariables false
set_option maxRecDepth 100000
def Row (w:World) (A:Option Addr) (xs:List Value):Prop :=
 xs=[] ∨ ∃ b off,A=some ⟨b,off,none⟩ ∧ ∀ j (h:j<xs.length),w.cell? ⟨b,off+j,none⟩=some xs[j]
section
variable {w w':World} {A:Option Addr} {xs:List Value}
theorem Row.at_ (h:Row w A xs) (hp:0<xs.length) : ∃ b off,A=some ⟨b,off,none⟩∧b<w.heap.size ∧ ∀ j (h:j<xs.length),w.cell? ⟨b,off+j,none⟩=some xs[j]:=by
 rcases h with rfl | ⟨b,off,rfl,hc⟩
 ·simp at hp
 ·refine ⟨b,off,rfl,?_,hc⟩
  have h0:=hc 0 hp
  rcases Nat.lt_or_ge b w.heap.size with hlt | hge
  ·exact hlt
  ·unfold World.cell? at h0
   simp [Array.getElem?_eq_none hge] at h0
theorem Row.keep (h:Row w A xs) (hk : ∀ b o,b<w.heap.size→w'.cell? ⟨b,o,none⟩=w.cell? ⟨b,o,none⟩):Row w' A xs:=by
 rcases Nat.eq_zero_or_pos xs.length with h0 | h0
 ·exact .inl (List.eq_nil_of_length_eq_zero h0)
 ·obtain ⟨b,off,rfl,hb,hc⟩:=h.at_ h0
  exact .inr ⟨b,off,rfl,fun j hj=>(hk _ _ hb).trans (hc j hj)⟩
theorem Row.below (h:Row w A xs) (hb:Below w.heap.size w w'):Row w' A xs:=h.keep fun b o hlt=>hb.cell (p:=⟨b,o,none⟩) hlt
end
def Blk (w:World) (g:Nat) (t:TypeId) (cs:Array Value):Prop:=w.heap[g]? = some (.cells cs t (0,0))
section
variable {w w':World} {g:Nat} {t:TypeId} {cs:Array Value}
theorem Blk.lt (h:Blk w g t cs):g<w.heap.size:=by
 rcases Nat.lt_or_ge g w.heap.size with hlt | hge
 ·exact hlt
 ·unfold Blk at h;rw [Array.getElem?_eq_none hge] at h;cases h
theorem Blk.cell (h:Blk w g t cs) (i:Nat):w.cell? ⟨g,i,none⟩=cs[i]? := cell_of_row w g i cs t (0,0) h
theorem Blk.frozen (h:Blk w g t cs) (i:Nat):w.frozen? ⟨g,i,none⟩=false:=by
 unfold Blk at h
 simp [World.frozen?,h]
theorem Blk.new (w:World) (t:TypeId) (cs:Array Value):Blk (w.alloc (.cells cs t)) w.heap.size t cs:=heap_alloc_new w _
theorem Blk.alloc (h:Blk w g t cs) (o:Obj):Blk (w.alloc o) g t cs:=(Below.heap_alloc w o g h.lt).trans h
theorem Blk.set_ (h:Blk w g t cs) (i:Nat) (u:Value):Blk (w.setCell ⟨g,i,none⟩ u) g t (cs.setIfInBounds i u):=by
 unfold Blk at h ⊢
 simp [World.setCell,Array.getElem?_modify,h]
theorem Blk.far (h:Blk w g t cs) {p:Addr} (hp:g≠p.block) (u:Value):Blk (w.setCell p u) g t cs:=(Below.heap_setCell w p u g hp).trans h
theorem Blk.below {B:Nat} (h:Blk w g t cs) (hb:Below B w w') (hg:g<B):Blk w' g t cs:=(hb.block g hg).trans h
theorem Blk.row (h:Blk w g t cs):Row w (some ⟨g,0,none⟩) cs.toList :=
 .inr ⟨g,0,rfl,fun j hj=>by rw [Nat.zero_add,h.cell,Array.getElem?_eq_getElem (by simpa using hj)];simp⟩
end
section
variable {w w':World} {base size n c:Nat} {e:TypeId} {A:Option Addr} {xs:List Value}
end
def bBv (cs:Array Value) (o:Nat):List Value→Array Value
 | []=>cs
 | v :: vs=>bBv (cs.setIfInBounds o v) (o+1) vs
def bFl (w:World) (g:Nat) (o:Nat):List Value→World
 | []=>w
 | v :: vs=>bFl (w.setCell ⟨g,o,none⟩ v) g (o+1) vs
theorem Blk.put {g:Nat} {t:TypeId} (vs:List Value) : ∀ {w:World} {cs:Array Value} (o:Nat),Blk w g t cs→Blk (bFl w g o vs) g t (bBv cs o vs):=by
 induction vs with
 | nil=>intro w cs o h;exact h
 | cons v vs ih=>intro w cs o h;exact ih (o+1) (h.set_ o v)
theorem aSa {w:World} {a:Addr} {v:Value} (h:w.cell? a=some v):a.block<w.heap.size:=by
 rcases Nat.lt_or_ge a.block w.heap.size with hlt | hge
 ·exact hlt
 ·unfold World.cell? at h
  simp [Array.getElem?_eq_none hge] at h
theorem kf {w w':World} {a:Addr} {v:Value} {b:Bool} (hb:Below w.heap.size w w') (h:w.cell? a=some v) (hf:w.frozen? a=b):w'.frozen? a=b:=(hb.frozen (aSa h)).trans hf
theorem ka {w:World} {a:Addr} {v:Value} {o:Obj} (h:w.cell? a=some v):(w.alloc o).cell? a=some v:=(World.cell?_alloc_lt w o a (aSa h)).trans h
theorem kn (w:World) (t:TypeId) (cs:Array Value) (i:Nat) (v:Value) (h:cs[i]? = some v):(w.alloc (.cells cs t)).cell? ⟨w.heap.size,i,none⟩=some v:=((Blk.new w t cs).cell i).trans h
end Go.Proofs.YtbliejnpjpnahaaGreatDoor
namespace Go.Proofs
open Go.Shelf
def Tryz.laySlLaysNn41_ren:Go.Shelf.Ren:=⟨fun | 41=>92 | n=>n,fun | 22=>34 | 23=>2 | 4=>4 | n=>n,fun | n=>n⟩
theorem Tryz.laySlLaysNn41:Go.Proofs.SlLaysN.n41 Tryz.prog Tryz.laySlLaysNn41_ren:={
 mixed:=by kernel_rfl
 f41:=⟨Tryz.f92.name,by decide,Tryz.func92.trans (congrArg some (by kernel_rfl))⟩
 t4:=Tryz.underlying4
 a4:=Tryz.isAgg4
 z4:=Tryz.sizeOf4
 v4:=Tryz.zeroValue4
 t22:=Tryz.underlying34
 a22:=Tryz.isAgg34
 z22:=Tryz.sizeOf34
 v22:=Tryz.zeroValue34
 t23:=Tryz.underlying2
 a23:=Tryz.isAgg2
 z23:=Tryz.sizeOf2
 v23:=Tryz.zeroValue2
 i23:=by kernel_rfl }
def Tryz.laySlLaysNn43_ren:Go.Shelf.Ren:=⟨fun | 43=>216 | n=>n,fun | 22=>34 | 23=>2 | 3=>3 | 4=>4 | 0=>0 | n=>n,fun | n=>n⟩
theorem Tryz.laySlLaysNn43:Go.Proofs.SlLaysN.n43 Tryz.prog Tryz.laySlLaysNn43_ren:={
 mixed:=by kernel_rfl
 f43:=⟨Tryz.f216.name,by decide,Tryz.func216.trans (congrArg some (by kernel_rfl))⟩
 t0:=Tryz.underlying0
 a0:=Tryz.isAgg0
 z0:=Tryz.sizeOf0
 v0:=Tryz.zeroValue0
 t3:=Tryz.underlying3
 a3:=Tryz.isAgg3
 z3:=Tryz.sizeOf3
 v3:=Tryz.zeroValue3
 t4:=Tryz.underlying4
 a4:=Tryz.isAgg4
 z4:=Tryz.sizeOf4
 v4:=Tryz.zeroValue4
 t22:=Tryz.underlying34
 a22:=Tryz.isAgg34
 z22:=Tryz.sizeOf34
 v22:=Tryz.zeroValue34
 t23:=Tryz.underlying2
 a23:=Tryz.isAgg2
 z23:=Tryz.sizeOf2
 v23:=Tryz.zeroValue2
 i23:=by kernel_rfl }
end Go.Proofs
namespace Go.Proofs.YtbliejnpjpnahaaGreatDoor
open Go.Shelf Go.RowKit Go.Sort
set_option linter.unusedVariables false
set_option maxRecDepth 100000
set_option maxHeartbeats 2000000
theorem aP3 (a:Addr) (n c:Nat) (h:n≤c) (hc:c≤9223372036854775807) (w:World):Calls Tryz.prog 215 #[.slice (some a) n c] w fun e w'=>e = .returned (.slice (some a) n n)∧w'=w:=by
 go_enter Tryz.func215,Tryz.ntmps215
 go_wp2
 go_ret
 exact ⟨rfl,rfl⟩
theorem aVl {w w':World} {F F':Nat→Prop} (h1 : ∀ b,F b→w'.heap[b]? = w.heap[b]?) (h2 : ∀ b,F b→F' b):Evo w F (fun _ _=>none) (lks []) w' F' (fun _ _=>none) (lks []) :=
 ⟨h1,h2,fun _ h=>h,fun k f o' h _=>absurd rfl h⟩
theorem aR9 {f:FuncId} {aa:List AV} {x:Value} (hF:FnC Tryz.prog f [] aa [] (.d (.v x))) {w W:World} {F:Nat→Prop} (gl:aDi F w) (hfz : ∀ b,F b→b<w.heap.size) (hb:Below w.heap.size w W) {vs:Array Value} (hl:vs.size=aa.length) (hr : ∀ (i:Nat) v a,vs[i]? = some v→aa[i]? = some a→eP w F (fun _ _=>none) (lks []) v a) :
  Calls Tryz.prog f vs W fun e w'=>e = .returned x∧Below W.heap.size W w':=by
 have hs:=hb.size
 have k1 : ∀ b,F b→W.heap[b]? = w.heap[b]? := fun b h=>hb.block b (hfz b h)
 have k2 : ∀ b,F b→b<W.heap.size:=fun b h=>Nat.lt_of_lt_of_le (hfz b h) hs
 exact aOh hF W vs hl (fun i v a h1 h2=>(hr i v a h1 h2).evo (aVl k1 k2)) (gl.evo k1 k2)
theorem aXv {p:Prop} (h:p):Hid p:=h
theorem iA.of_new {w w':World} {F:Nat→Prop} {μ:bJ} {gl:aDi F w} (H:iA ⟨w,F, μ,lks [],gl⟩ F μ (lks []) w) (b:Below w.heap.size w w') (G:Nat→Prop) (hG : ∀ x,G x→w.heap.size≤x∧x<w'.heap.size):iA ⟨w,F, μ,lks [],gl⟩ (fun x=>F x∨G x) μ (lks []) w':=by
 have no : ∀ {k f o},lv (lks []) k f=some o→False:=fun hl=>by simp [lv,lks] at hl
 exact ⟨fun k f o hl=>(no hl).elim,fun k f o k' f' o' b hl=>(no hl).elim,fun k f o b hl=>(no hl).elim,fun k f o b hl=>(no hl).elim,fun x hx=>hx.elim (fun hx=>Nat.lt_of_lt_of_le (H.fz x hx) b.size) fun hx=>(hG x hx).2,fun x hx=>hx.elim .inl fun hx => .inr (.inr (hG x hx).1),
  ⟨fun x hx=>b.block x (H.fz x hx),fun _ hb => .inl hb,fun _ hb=>hb,fun k f o' hk ho'=>(no ho').elim⟩,b.os,b.tape,b.output,b.size,fun x hx _=>b.block x hx⟩
theorem aVk {w:World} {F:Nat→Prop} {g c:Nat} {cur:Array Value} {e:TypeId} {zs:List Int} (hF:F g) (hg:w.heap[g]? = some (.cells cur e (0,0))) (ht:cur.toList.take zs.length=zs.map (Value.int .i64)) (hc:zs.length≤c) (hm:c≤maxLen):xV w F (.slice (some ⟨g,0,none⟩) zs.length c) (.sl (zs.map fun x=>[DV.v (.int .i64 x)])):=by
 have hl:(zs.map fun x=>[DV.v (.int .i64 x)]).length=zs.length:=List.length_map _
 have:=xV.sl (w:=w) (F:=F) g 0 c 1 (zs.map fun x=>[DV.v (.int .i64 x)]) (fun i _ => .int .i64 (zs.getD i 0)) hF (by rw [hl];exact hc) hm (fun i e hi=>by
  simp only [List.getElem?_map,Option.map_eq_some_iff] at hi
  obtain ⟨x,_,rfl⟩:=hi;rfl) (fun i e j x hi hj=>by
  simp only [List.getElem?_map,Option.map_eq_some_iff] at hi
  obtain ⟨y,hy,rfl⟩:=hi
  match j with
  | 0 =>
   have hi':i<zs.length:=(List.getElem?_eq_some_iff.1 hy).1
   have q:=congrArg (·[i]?) ht
   simp only [List.getElem?_take_of_lt hi',List.getElem?_map,hy,Array.getElem?_toList,Option.map_some] at q
   simp [World.cell?,hg,q,List.getD,hy]
  | j+1=>simp at hj) (fun i e j x hi hj=>by
  simp only [List.getElem?_map,Option.map_eq_some_iff] at hi
  obtain ⟨y,hy,rfl⟩:=hi
  match j with
  | 0 =>
   simp at hj
   subst hj
   rw [List.getD_eq_getElem?_getD,hy]
   exact .v _ rfl
  | j+1=>simp at hj)
 rw [hl] at this
 exact this
theorem aEh (zs:List Int):(Go.Lib.compact zs).length≤zs.length:=by
 unfold Go.Lib.compact Go.Lib.compactUpTo
 rw [List.length_map]
 exact Nat.le_trans (List.length_filter_le _ _) (by simp)
def aHh (w:World) (g cap:Nat) (zs:List Int):Prop := ∃ cur,w.heap[g]? = some (.cells cur 2 (0,0))∧zs.length≤cap∧cap≤maxLen∧cur.size=cap*1∧cur.toList.take zs.length=zs.map (Value.int .i64)
theorem aRh {w:World} {g cap:Nat} {zs:List Int} (h:aHh w g cap zs) (hz:zs.length≤1048576):Calls Tryz.prog 213 #[.slice (some ⟨g,0,none⟩) zs.length cap] w fun e w'=>e = .returned (.tuple #[])∧aHh w' g cap (oA zs)∧w.grownBy w' (some g):=by
 obtain ⟨cur,hgb,r1,r2,r3,r4⟩:=h
 have hsl:=xU zs
 have hc:=AnyM.slices_Sort_int Tryz.laySlLaysMn5 g 0 cap zs w (holds_of_blockI hgb r4) (Array.getElem?_eq_some_iff.1 hgb).1 (by omega)
 rw [← aFn] at hc
 refine hc.mono ?_
 rintro e w' ⟨rfl,n,os,rfl⟩
 exact ⟨rfl,⟨_,heap_sortedI _ hgb,by rw [hsl];exact r1,r2,by simp [putCells,r3],take_putCellsI cur (oA zs) (by rw [hsl];omega)⟩,grownBy_sortedI _⟩
theorem aP6 {w:World} {g cap:Nat} {zs:List Int} (h:aHh w g cap zs) (hz:zs.length≤1048576):Calls Tryz.prog 216 #[.slice (some ⟨g,0,none⟩) zs.length cap] w fun e w'=>e = .returned (.slice (some ⟨g,0,none⟩) (Go.Lib.compact zs).length cap)∧aHh w' g cap (Go.Lib.compact zs)∧w.grownBy w' (some g):=by
 obtain ⟨cur,hgb,r1,r2,r3,r4⟩:=h
 have hcl:=aEh zs
 have hc:=AnyG.slices_Compact_int Tryz.laySlLaysNn43 g 0 cap zs w (holds_of_blockI hgb r4) (by omega) r1
 refine hc.mono ?_
 rintro e w' ⟨rfl,q,rfl⟩
 have e1:=heap_sortedI (n:=q) (os := #[]) (Go.Lib.compact zs++List.replicate (zs.length-(Go.Lib.compact zs).length) 0).toArray hgb
 have e2:=grownBy_sortedI (w:=w) (g:=g) (n:=q) (os := #[]) (Go.Lib.compact zs++List.replicate (zs.length-(Go.Lib.compact zs).length) 0).toArray
 rw [grow_empty] at e1 e2
 have e3:=take_putCellsI cur (Go.Lib.compact zs++List.replicate (zs.length-(Go.Lib.compact zs).length) 0) (by simp;omega)
 refine ⟨rfl,⟨_,e1,by omega,r2,by simp [putCells,r3],?_⟩,e2⟩
 have:=congrArg (List.take (Go.Lib.compact zs).length) e3
 rw [List.take_take,List.map_append,List.take_left' (by simp)] at this
 rw [← this]
 congr 1
 simp
theorem aMr {w:World} {b off c n m:Nat} {R2 R3 R4:World→Nat→Nat→Prop} {Q:Ending→World→Prop}
  (Hin:Hid (∀ W,Below w.heap.size w W→Calls Tryz.prog 105 #[.slice (some ⟨b,off,none⟩) n c] W fun e w'=>e = .returned (.bool true)∧Below W.heap.size W w'))
  (Hcl:Hid (∀ W,Below w.heap.size w W→Calls Tryz.prog 92 #[.slice (some ⟨b,off,none⟩) n c] W fun e w' => ∃ g cap,e = .returned (.slice (some ⟨g,0,none⟩) n cap)∧W.heap.size≤g∧R2 w' g cap∧Below W.heap.size W w'))
  (HS:Hid (∀ W g cap,R2 W g cap→Calls Tryz.prog 213 #[.slice (some ⟨g,0,none⟩) n cap] W fun e w'=>e = .returned (.tuple #[])∧R3 w' g cap∧W.grownBy w' (some g)))
  (HC:Hid (∀ W g cap,R3 W g cap→Calls Tryz.prog 216 #[.slice (some ⟨g,0,none⟩) n cap] W fun e w'=>e = .returned (.slice (some ⟨g,0,none⟩) m cap)∧R4 w' g cap∧W.grownBy w' (some g)))
  (HP:Hid (∀ W g cap,R4 W g cap→m≤cap∧cap≤9223372036854775807))
  (HQ:Hid (∀ g cap w',w.heap.size≤g→R4 w' g cap→Below w.heap.size w w'→Q (.returned (.tuple #[.slice (some ⟨g,0,none⟩) m m, .int .i64 0])) w')) :
  Calls Tryz.prog 144 #[.slice (some ⟨b,off,none⟩) n c] w Q:=by
 go_enter Tryz.func144,Tryz.ntmps144
 go_wp2_with (first
  | (go_at_call 105;refine (Hin.out _ (Below.refl _ _)).mono ?_;rintro e w1 ⟨rfl,hb1⟩)
  | (go_at_call 92;refine (Hcl.out _ hb1).mono ?_;rintro e w2 ⟨g,cap,rfl,hbase,hr2,hb2⟩)
  | (go_at_call 213;refine (HS.out _ _ _ hr2).mono ?_;rintro e w3 ⟨rfl,hr3,hg3⟩)
  | (go_at_call 216;refine (HC.out _ _ _ hr3).mono ?_;rintro e w4 ⟨rfl,hr4,hg4⟩)
  | (go_at_call 215;refine (aP3 _ _ _ (HP.out _ _ _ hr4).1 (HP.out _ _ _ hr4).2 _).mono ?_;rintro e w5 ⟨rfl,rfl⟩))
 have b1:=hb1.size
 have b2:Below w.heap.size w w2:=hb1.trans (hb2.mono b1)
 have b3:Below w.heap.size w w3:=b2.grown hg3 b2.size fun j hj=>by cases hj;omega
 exact HQ.out g cap _ (by omega) hr4 (b3.grown hg4 b3.size fun j hj=>by cases hj;omega)
theorem aKh {w:World} {b off c:Nat} {xs:List Int} (hxl:xs.length≤1048576) (hbl:b<w.heap.size)
  (hcells : ∀ j,j<xs.length→w.cell? ⟨b,off+j,none⟩=some (.int .i64 (xs.getD j 0)))
  (hin : ∀ W,Below w.heap.size w W→Calls Tryz.prog 105 #[.slice (some ⟨b,off,none⟩) xs.length c] W fun e w'=>e = .returned (.bool true)∧Below W.heap.size W w') (Q:Ending→World→Prop)
  (hQ : ∀ g cap w',w.heap.size≤g→aHh w' g cap (zL xs)→Below w.heap.size w w'→Q (.returned (.tuple #[.slice (some ⟨g,0,none⟩) (zL xs).length (zL xs).length, .int .i64 0])) w') :
  Calls Tryz.prog 144 #[.slice (some ⟨b,off,none⟩) xs.length c] w Q:=by
 have hclone : ∀ W,Below w.heap.size w W→Calls Tryz.prog 92 #[.slice (some ⟨b,off,none⟩) xs.length c] W fun e w' => ∃ g cap,e = .returned (.slice (some ⟨g,0,none⟩) xs.length cap)∧W.heap.size≤g∧aHh w' g cap xs∧Below W.heap.size W w':=fun W hW=>by
  have:=AnyG.slices_Clone_int Tryz.laySlLaysNn41 b off xs.length c xs W (Nat.le_refl _) (by omega) fun j hj=>(hW.cell (p:=⟨b,off+j,none⟩) hbl).trans (hcells j hj)
  refine this.mono ?_
  rintro e w' ⟨v',rfl,⟨_,hrow⟩,hnn,hb⟩
  rcases hrow with ⟨rfl,_⟩ | ⟨gb,cc,cur,rfl,hbase,hgb,r1,r2,r3,r4⟩
  ·exact absurd rfl hnn
  ·exact ⟨gb,cc,rfl,hbase,⟨cur,hgb,r1,r2,r3,by simpa using r4⟩,hb⟩
 have hsl:=xU xs
 have hcl:=aEh (oA xs)
 have elv:zL xs=Go.Lib.compact (oA xs):=rfl
 refine aMr (R2:=fun W g cap=>aHh W g cap xs) (R3:=fun W g cap=>aHh W g cap (oA xs)) (R4:=fun W g cap=>aHh W g cap (zL xs)) (aXv hin) (aXv hclone) (aXv fun W g cap h=>aRh h hxl) (aXv fun W g cap h => ?_) (aXv fun W g cap h => ?_) (aXv hQ)
 ·have:=aP6 h (by omega)
  rwa [hsl] at this
 ·obtain ⟨_,_,q,q2,_⟩:=h
  exact ⟨q,by unfold maxLen at q2;omega⟩
theorem aQq {w:World} {s0:Value} {Q:Ending→World→Prop} (Hin:Hid (∀ W,Below w.heap.size w W→Calls Tryz.prog 105 #[s0] W fun e w'=>e = .returned (.bool false)∧Below W.heap.size W w'))
  (HQ:Hid (∀ w',Below w.heap.size w w'→Q (.returned (.tuple #[.slice none 0 0, .int .i64 1])) w')):Calls Tryz.prog 144 #[s0] w Q:=by
 go_enter Tryz.func144,Tryz.ntmps144
 go_wp2_with (go_at_call 105;refine (Hin.out _ (Below.refl _ _)).mono ?_;rintro e w1 ⟨rfl,hb1⟩)
 exact HQ.out w1 hb1
theorem aV5 {xs:List Int} {bv:Bool} (hxl:xs.length≤1048576) (hne:bv=true→xs≠[]) (hv:FnC Tryz.prog 105 [] [.d (.sl (xs.map fun x=>[DV.v (.int .i64 x)]))] [] (.d (.v (.bool bv)))) :
  FnC Tryz.prog 144 [] [.d (.sl (xs.map fun x=>[DV.v (.int .i64 x)]))] [] (.tup [.d (.sl ((if bv=true then zL xs else []).map fun x=>[DV.v (.int .i64 x)])), .d (.v (.int .i64 (if bv=true then 0 else 1)))]):=by
 refine ⟨by kernel_rfl,fun w F μ us gl H hs hus => ?_⟩
 obtain ⟨s0,rfl⟩ : ∃ s0,us = #[s0]:=by
  obtain ⟨l⟩:=us
  match l,hs with
  | [a],_=>exact ⟨a,rfl⟩
 have h1:=hus 0 s0 _ rfl rfl
 cases h1 with | d _ _ h0 =>
 have hin : ∀ W,Below w.heap.size w W→Calls Tryz.prog 105 #[s0] W fun e w'=>e = .returned (.bool bv)∧Below W.heap.size W w':=fun W hW=>by
  refine aR9 hv gl H.fz hW rfl fun i v a h1 h2 => ?_
  match i with
  | 0=>simp at h1 h2;subst h1 h2;exact .d _ _ h0
  | i+1=>simp at h2
 cases bv
 ·refine aQq (aXv hin) (aXv fun w' hb=>⟨_,F, μ,rfl,H.of_below hb, .tup _ _ rfl fun i v a h1 h2 => ?_⟩)
  match i with
  | 0=>simp at h1 h2;subst h1 h2;exact .d _ _ .nil
  | 1=>simp at h1 h2;subst h1 h2;exact .d _ _ (.v _ rfl)
  | i+2=>simp at h2
 ·generalize hes:(xs.map fun x=>[DV.v (.int .i64 x)])=es at h0
  have hl:xs.length=es.length:=by rw [← hes,List.length_map]
  have hpos:0<xs.length:=by cases xs;exact absurd rfl (hne rfl);simp
  cases h0 with
  | nil=>have:=List.map_eq_nil_iff.1 hes;subst this;simp at hpos
  | emp A c hm=>have:=List.map_eq_nil_iff.1 hes;subst this;simp at hpos
  | sl b off c sz es g hF hc hm hz hg hr =>
   have hcells : ∀ j,j<xs.length→w.cell? ⟨b,off+j,none⟩=some (.int .i64 (xs.getD j 0)):=fun j hj=>by
    have h1:es[j]? = some [DV.v (.int .i64 xs[j])]:=by rw [← hes];simp [hj]
    have h3:sz=1:=by rw [← hz j _ h1];rfl
    subst h3
    have h4:=hg j _ 0 _ h1 rfl
    have h5:=hr j _ 0 _ h1 rfl
    rw [Nat.mul_one,Nat.add_zero] at h4
    rw [h4,List.getD_eq_getElem?_getD,List.getElem?_eq_getElem hj]
    generalize g j 0=y at h5
    cases h5;rfl
   rw [← hl] at *
   refine aKh hxl (H.fz b hF) hcells hin _ fun g cap w' hbase hrow hb => ?_
   obtain ⟨cur,hgb,r1,r2,r3,r4⟩:=hrow
   have hlt:g<w'.heap.size:=(Array.getElem?_eq_some_iff.1 hgb).1
   refine ⟨_,fun x=>F x∨x=g, μ,rfl,H.of_new hb (fun x=>x=g) fun x hx=>by rw [hx];exact ⟨hbase,hlt⟩, .tup _ _ rfl fun i v a h1 h2 => ?_⟩
   match i with
   | 0=>simp at h1 h2;subst h1 h2;exact .d _ _ (aVk (.inr rfl) hgb r4 (Nat.le_refl _) (Nat.le_trans r1 r2))
   | 1=>simp at h1 h2;subst h1 h2;exact .d _ _ (.v _ rfl)
   | i+2=>simp at h2
end Go.Proofs.YtbliejnpjpnahaaGreatDoor
namespace Go.Proofs.YtbliejnpjpnahaaGreatDoor
open Go.Shelf Go.RowKit Go.Sort Go.Maps
set_option linter.unusedVariables false
set_option maxRecDepth 100000
set_option maxHeartbeats 2000000
theorem kD {p:Prop} (h:p):Hid p:=h
theorem bDj:(Tryz.prog.info? 2).map (fun i=>(i.zero,i.size,i.bytes))=some (some (.int .i64 0),1,8):=by kernel_rfl
theorem bDk:(Tryz.prog.info? 34).map (fun i=>(i.zero,i.size,i.bytes))=some (some (.slice none 0 0),1,24):=by kernel_rfl
abbrev bC7 (w:World) (base:Nat) (v:Value) (l:List Int):Prop:=bCn 2 w base v l
abbrev aU4 (w:World) (base:Nat) (v:Value) (rows:List (List Int)):Prop:=zU 2 34 w base v rows
theorem aSe {w:World} {base:Nat} {x:Value} {l:List Int} (h:bC7 w base x l) (hl:l.length≤1000):Calls Tryz.prog 92 #[x] w fun e w' => ∃ v',e = .returned v'∧w'.ownsRow w.heap.size 2 1 v' l.length (l.map (Value.int .i64))∧Below w.heap.size w w':=by
 rcases h.2 with ⟨rfl,h0⟩ | ⟨g,cap,cur,rfl,h1,h2,h3,h4,h5,h6⟩
 ·have:l=[]:=List.eq_nil_of_length_eq_zero h0
  subst this
  refine (AnyG.slices_Clone_int_nil Tryz.laySlLaysNn41 _ _ w).mono ?_
  rintro e w' ⟨rfl,rfl⟩
  exact ⟨_,rfl,World.ownsRow_nil _ _ _ _,Below.refl _ _⟩
 ·have:=AnyG.slices_Clone_int Tryz.laySlLaysNn41 g 0 l.length cap l w (Nat.le_refl _) (by omega) fun j hj=>by
   have q:=congrArg (·[j]?) h6
   simp only [Nat.mul_one,List.getElem?_take_of_lt hj,List.getElem?_map,Array.getElem?_toList] at q
   simp [World.cell?,h2,q,List.getD,hj]
  refine this.mono ?_
  rintro e w' ⟨v',rfl,hrow,_,hb⟩
  rw [List.take_length] at hrow
  exact ⟨v',rfl,hrow,hb⟩
theorem aG3 {low high:Int} (k:Nat) : ∀ l ∈ bY low high k,l.length=k:=by
 induction k with
 | zero=>intro l h;simp [bY] at h;subst h;rfl
 | succ k ih =>
  intro l h
  simp only [bY,List.mem_flatMap] at h
  obtain ⟨l',h1,h2⟩:=h
  simp only [aFy,List.mem_map] at h2
  obtain ⟨i,_,rfl⟩:=h2
  simp [ih l' h1]
theorem aHt {low high:Int} (hlow:1≤low) (hh:low≤high) (k:Nat) : ∀ l ∈ bY low high k,low≤uR low l∧uR low l≤high:=by
 induction k with
 | zero=>intro l h;simp [bY] at h;subst h;simp [uR];exact hh
 | succ k ih =>
  intro l h
  simp only [bY,List.mem_flatMap] at h
  obtain ⟨l',h1,h2⟩:=h
  simp only [aFy,List.mem_map,List.mem_range] at h2
  obtain ⟨i,hi,rfl⟩:=h2
  have:=ih l' h1
  unfold uR at hi
  simp only [uR,List.getLast?_append,List.getLast?_singleton,Option.some_or,Option.getD_some] at this ⊢
  omega
theorem aYv {low high:Int} (h1:1≤low) (h2:high≤120) {l:List Int} (h3:low≤uR low l):(aFy low high l).length≤120:=by simp [aFy];omega
theorem aAt {low high:Int} (hlow:1≤low) (hh:low≤high) (hhi:high≤120) (k:Nat):1≤(bY low high k).length∧(bY low high k).length≤120 ^ k:=by
 induction k with
 | zero=>simp [bY]
 | succ k ih =>
  simp only [bY,List.length_flatMap]
  have hf:=aHt hlow hh k
  generalize bY low high k=ls at ih hf
  have key : ∀ ls:List (List Int),(∀ l ∈ ls,low≤uR low l∧uR low l≤high)→ls.length≤(ls.map fun l=>(aFy low high l).length).sum∧(ls.map fun l=>(aFy low high l).length).sum≤120*ls.length:=fun ls=>by
   induction ls with
   | nil=>simp
   | cons a ls ih =>
    intro h
    have h1:=ih fun l hl=>h l (List.mem_cons_of_mem _ hl)
    have h2:=h a (List.mem_cons_self ..)
    have h3:1≤(aFy low high a).length∧(aFy low high a).length≤120:=by simp [aFy];omega
    simp only [List.map_cons,List.sum_cons,List.length_cons]
    omega
  have:=key ls hf
  rw [Nat.pow_succ]
  omega
def Lev (low high:Int) (cnt:Nat) (w1:World) (i v:Value) (wr:World):Prop := ∃ j c:Nat,Hid (c+j=cnt)∧i = .int .i64 (c:Int)∧Hid (aU4 wr w1.heap.size v (bY low high j))∧Hid (Below w1.heap.size w1 wr)
def Mid (low high:Int) (wj:World) (ls:List (List Int)) (i v:Value) (wr:World):Prop := ∃ k:Nat,k≤ls.length∧i = .int .i64 (k:Int)∧Hid (aU4 wr wj.heap.size v ((ls.take k).flatMap (aFy low high)))∧Hid (Below wj.heap.size wj wr)
def Inn (low high:Int) (wj:World) (rows0:List (List Int)) (l:List Int) (f:Int) (i v:Value) (wr:World):Prop := ∃ m:Nat,f+m≤high+1∧i = .int .i64 (f+m)∧Hid (aU4 wr wj.heap.size v (rows0++(List.range m).map fun (i:Nat)=>l++[f+(i:Int)]))∧Hid (Below wj.heap.size wj wr)∧wj.heap.size≤wr.heap.size
theorem aS9 {low high:Int} {cnt n1:Nat} (w1:World) (hn:n1=w1.heap.size):Lev low high cnt w1 (.int .i64 (cnt:Int)) (.slice (some ⟨n1,0,none⟩) 1 1) (w1.alloc (.cells #[.slice none 0 0] 34)):=by
 subst hn
 refine ⟨0,cnt,kD rfl,rfl,kD ⟨[.slice none 0 0],⟨rfl, .inr ⟨w1.heap.size,1, #[.slice none 0 0],rfl,Nat.le_refl _,heap_alloc_new w1 _,Nat.le_refl _,by unfold maxLen;omega,rfl,rfl⟩⟩,fun i x r h1 h2 => ?_⟩,kD ((Below.refl _ _).alloc (Nat.le_refl _) _)⟩
 match i with
 | 0 =>
  simp [bY] at h1 h2
  subst h1 h2
  exact ⟨World.ownsRow_nil _ _ _ _, .inl rfl,fun _=>rfl⟩
 | i+1=>simp at h1
theorem cell_of_row {w:World} {b e n cap:Nat} {g:Nat} {vals:List Value} (h:w.ownsRow b e 1 (.slice (some ⟨g,0,none⟩) n cap) n vals) {k:Nat} {x:Value} (hx:vals[k]? = some x):w.cell? ⟨g,k,none⟩=some x:=by
 have:=h.cells (g:=g) rfl k x hx
 rwa [show (⟨g,0,none⟩:Addr).add k=⟨g,k,none⟩ from by simp only [Addr.add];split <;> simp_all] at this
theorem aDs {low high:Int} {wj wr:World} {ls:List (List Int)} {k:Nat} {l:List Int} {f:Int} {i v:Value} (hk:k<ls.length) (hl:ls[k]? = some l) (hf:uR low l=f) (hi:i = .int .i64 (high+1)) (h:Inn low high wj ((ls.take k).flatMap (aFy low high)) l f i v wr) :
  Mid low high wj ls (.int .i64 ((k:Int)+1)) v wr:=by
 obtain ⟨m,h1,h2,h3,h4,h5⟩:=h
 refine ⟨k+1,hk,by simp,kD ?_,h4⟩
 have hm:m=(high+1-f).toNat:=by
  rw [hi] at h2
  simp only [Value.int.injEq,true_and] at h2
  omega
 have he:ls[k]=l:=by rw [List.getElem?_eq_getElem hk] at hl;exact Option.some.inj hl
 rw [List.take_succ_eq_append_getElem hk,List.flatMap_append,he]
 have e2:[l].flatMap (aFy low high)=(List.range m).map fun (i:Nat)=>l++[f+(i:Int)]:=by
  simp only [List.flatMap_cons,List.flatMap_nil,List.append_nil,aFy,hf,hm]
 rw [e2]
 exact h3.out
theorem aT6 {low high:Int} {ls:List (List Int)} (h1:1≤low) (h2:high≤120) (hls : ∀ l ∈ ls,low≤uR low l) (k:Nat):((ls.take k).flatMap (aFy low high)).length≤120*ls.length:=by
 have key : ∀ ls:List (List Int),(∀ l ∈ ls,low≤uR low l)→(ls.flatMap (aFy low high)).length≤120*ls.length:=fun ls=>by
  induction ls with
  | nil=>simp
  | cons a ls ih =>
   intro h
   have q1:=ih fun l hl=>h l (List.mem_cons_of_mem _ hl)
   have q2:=aYv h1 h2 (h a (List.mem_cons_self ..))
   rw [List.flatMap_cons,List.length_append,List.length_cons]
   omega
 refine Nat.le_trans (key _ fun l hl=>hls l (List.mem_of_mem_take hl)) ?_
 rw [List.length_take]
 omega
theorem aDr {low high:Int} {wj wr w2 w3 w4:World} {rows0:List (List Int)} {l:List Int} {f:Int} {m:Nat} {v vc v1 v2:Value} {vals:List Value} {o o':Obj} (hm:f+m≤high) (hv:aBi 2 34 wr wj.heap.size v (rows0++(List.range m).map fun (i:Nat)=>l++[f+(i:Int)]) vals) (hB:Hid (Below wj.heap.size wj wr)) (hz:wj.heap.size≤wr.heap.size)
  (hb2:Below wr.heap.size wr w2) (hvc:w2.ownsRow wr.heap.size 2 1 vc l.length (l.map (Value.int .i64))) (hg1:(w2.alloc o).grownBy w3 vc.ownBlock) (ho1:w3.ownsRow wr.heap.size 2 1 v1 (l.length+1) (l.map (Value.int .i64)++[.int .i64 (f+m)]))
  (hg2:(w3.alloc o').grownBy w4 v.ownBlock) (ho2:w4.ownsRow wj.heap.size 34 1 v2 ((rows0++(List.range m).map fun (i:Nat)=>l++[f+(i:Int)]).length+1) (vals++[v1])) (hloc:v2.ownBlock=v.ownBlock∨v2.ownBlock=some (w3.alloc o').heap.size) :
  Inn low high wj rows0 l f (.int .i64 (f+m+1)) v2 w4:=by
 obtain ⟨q1,q2,q3⟩:=bB1 rfl hB.out hz hv hb2 hvc hg1 ho1 hg2 ho2 hloc
 refine ⟨m+1,by omega,by simp;omega,kD ?_,kD q2,q3⟩
 rw [List.range_succ,List.map_append, ← List.append_assoc]
 exact q1
theorem aV4 {low high:Int} {cnt j c k:Nat} {w1 wj wr:World} {v:Value} (hj:c+1+j=cnt) (hk:k=(bY low high j).length) (hN:Hid (aU4 wr wj.heap.size v (((bY low high j).take k).flatMap (aFy low high)))) (hB:Hid (Below wj.heap.size wj wr)) (h1:Hid (Below w1.heap.size w1 wj)) :
  Lev low high cnt w1 (.int .i64 (c:Int)) v wr:=by
 refine ⟨j+1,c,kD (by omega),rfl,kD ?_,kD ?_⟩
 ·have:=hN.out
  rw [hk,List.take_length] at this
  exact this.base_ h1.out.size
 ·exact h1.out.trans (hB.out.mono h1.out.size)
theorem aT5 {w:World} {b n:Nat} {e:TypeId} {v:Value} {xs:List Value} (h:w.ownsRow b e 1 v n xs):v.oneCell'=true:=by
 rcases h.2 with ⟨rfl,_⟩ | ⟨g,cap,cur,rfl,_⟩ <;> rfl
theorem aFf {w:World} {b n s:Nat} {e:TypeId} {v:Value} {xs:List Value} (h:w.ownsRow b e s v (n+1) xs) : ∃ g cap,v = .slice (some ⟨g,0,none⟩) (n+1) cap:=by
 rcases h.2 with ⟨_,h0⟩ | ⟨g,cap,cur,rfl,_⟩
 ·omega
 ·exact ⟨g,cap,rfl⟩
theorem aS6 {low:Int} {wj wk:World} {base g cap:Nat} {x:Value} {l:List Int} {f:Int} (hx:x = .slice (some ⟨g,0,none⟩) l.length cap) (hl:l≠[]) (h:bC7 wj base x l) (hB:Below wj.heap.size wj wk) (hf:uR low l=f):wk.cell? ⟨g,l.length-1,none⟩=some (.int .i64 f):=by
 subst hx
 have hlt:=(h.lt g rfl).2
 refine (hB.cell (p:=⟨g,l.length-1,none⟩) hlt).trans (cell_of_row h ?_)
 have hp:0<l.length:=List.length_pos_iff.2 hl
 simp only [uR,List.getLast?_eq_getElem?] at hf
 rw [List.getElem?_map,List.getElem?_eq_getElem (show l.length-1<l.length by omega)] at *
 simpa using hf
abbrev aPx (ls:List (List Int)) (vals:List Value) (wB:World) (kp k:Nat) (vP:Value) (val:Int→Value) (wr:World):Prop:=aJk Tryz.prog 2 2 34 275 ls vals wB wB.heap.size kp k vP val wr
def Grp (ls:List (List Int)) (vals:List Value) (wB:World) (i:Value) (wr:World):Prop := ∃ (k:Nat) (vP:Value) (val:Int→Value),k≤ls.length∧i = .int .i64 (k:Int)∧Hid (aPx ls vals wB k k vP val wr)
theorem aSw {ls:List (List Int)} {vals:List Value} {w:World}:Grp ls vals w (.int .i64 0) ((w.alloc (.map #[] 0)).alloc (.cells #[.slice none 0 0, .map (some w.heap.size)] 275)):=by
 have z:(w.alloc (.map #[] 0)).heap.size=w.heap.size+1:=by simp
 refine ⟨0, .slice none 0 0,fun _ => .slice none 0 0,Nat.zero_le _,rfl,kD ⟨((Below.refl _ _).alloc (Nat.le_refl _) _).alloc (by simp) _,by simp,?_,World.ownsRow_nil _ _ _ _,(aU9 w).same (Below.heap_alloc _ _ _ (by simp)),fun p=>World.ownsRow_nil _ _ _ _,fun p _=>rfl,fun p q _ => .inl rfl,fun p => .inl rfl⟩⟩
 have:=heap_alloc_new (w.alloc (.map #[] 0)) (.cells #[.slice none 0 0, .map (some w.heap.size)] 275)
 rwa [z] at this
theorem aNa : ∀ (l:List Int) (a:Int),l.foldl (· * ·) a=a*eK l
 | [],a=>by simp [eK]
 | x :: l,a=>by
  unfold eK
  rw [List.foldl_cons,List.foldl_cons,aNa l,aNa l (1*x)]
  rw [Int.one_mul,Int.mul_assoc]
theorem aTr (l:List Int) (x:Int):eK (l++[x])=eK l*x:=by unfold eK;rw [List.foldl_append];rfl
theorem aV8 {low high:Int} (hlow:1≤low) (hh:low≤high) (k:Nat) : ∀ l ∈ bY low high k, ∀ x ∈ l,low≤x∧x≤high:=by
 induction k with
 | zero=>intro l h x hx;simp [bY] at h;subst h;simp at hx
 | succ k ih =>
  intro l h x hx
  have hm:=h
  simp only [bY,List.mem_flatMap] at h
  obtain ⟨l',h1,h2⟩:=h
  simp only [aFy,List.mem_map,List.mem_range] at h2
  obtain ⟨i,hi,rfl⟩:=h2
  rcases List.mem_append.1 hx with hx | hx
  ·exact ih l' h1 x hx
  ·have:=aHt hlow hh (k+1) _ hm
   simp only [uR,List.getLast?_append,List.getLast?_singleton,Option.some_or,Option.getD_some] at this
   rw [List.mem_singleton.1 hx]
   simpa [uR] using this
theorem aNb {low high:Int} (hlow:1≤low) (hhi:high≤120) : ∀ (l:List Int),(∀ x ∈ l,low≤x∧x≤high)→1≤eK l∧eK l≤120 ^ l.length
 | [],_=>by simp [eK]
 | x :: l,h=>by
  obtain ⟨h1,h2⟩:=aNb hlow hhi l fun y hy=>h y (List.mem_cons_of_mem _ hy)
  have hx:=h x (List.mem_cons_self ..)
  have e:eK (x :: l)=x*eK l:=by
   show l.foldl (· * ·) (1*x)=_
   rw [aNa,Int.one_mul]
  rw [e,List.length_cons,Int.pow_succ]
  constructor
  ·have:=Int.mul_le_mul (show (1:Int)≤x by omega) h1 (by omega) (by omega)
   omega
  ·have:=Int.mul_le_mul (show x≤120 by omega) h2 (by omega) (by omega)
   rwa [Int.mul_comm (120 ^ l.length) 120]
theorem aTs {low high:Int} {l:List Int} {m:Nat} (hlow:1≤low) (hhi:high≤120) (hl : ∀ x ∈ l,low≤x∧x≤high) (h3:l.length≤3) (hm:m<l.length):eK (l.take (m+1))=eK (l.take m)*l.getD m 0∧1≤eK (l.take m)*l.getD m 0∧eK (l.take m)*l.getD m 0≤1728000:=by
 have e:eK (l.take (m+1))=eK (l.take m)*l.getD m 0:=by
  rw [List.take_succ_eq_append_getElem hm,aTr]
  simp [List.getD,hm]
 obtain ⟨h1,h2⟩:=aNb hlow hhi (l.take (m+1)) fun x hx=>hl x (List.mem_of_mem_take hx)
 rw [e] at h1 h2
 refine ⟨e,h1,Int.le_trans h2 ?_⟩
 have:(l.take (m+1)).length≤3:=by rw [List.length_take];omega
 rcases (show (l.take (m+1)).length=0∨(l.take (m+1)).length=1∨(l.take (m+1)).length=2∨(l.take (m+1)).length=3 by omega) with e | e | e | e <;> rw [e] <;> decide
theorem aWg {low high:Int} {l:List Int} (hlow:1≤low) (hhi:high≤120) (hl : ∀ x ∈ l,low≤x∧x≤high) (h3:l.length≤3):1≤eK l∧eK l≤1728000:=by
 obtain ⟨h1,h2⟩:=aNb hlow hhi l hl
 refine ⟨h1,Int.le_trans h2 ?_⟩
 rcases (show l.length=0∨l.length=1∨l.length=2∨l.length=3 by omega) with e | e | e | e <;> rw [e] <;> decide
def Prd (l:List Int) (w:World) (i v:Value) (wr:World):Prop := ∃ m:Nat,m≤l.length∧i = .int .i64 (m:Int)∧v = .int .i64 (eK (l.take m))∧wr=w
theorem aXb (w:World):(zeroValue 285).run Tryz.prog w = .ok (.slice none 0 0) w:=by kernel_rfl
theorem aSv {ls:List (List Int)} {vals:List Value} {wB wr:World} {k:Nat} {vP:Value} {val:Int→Value} {p:Int} (h:aPx ls vals wB k k vP val wr) (hlv:ls.length=vals.length) (hs:p ∈ iY (ls.take k)) :
  ∃ gp n cp,val p = .slice (some ⟨gp,0,none⟩) (n+1) cp∧Hid (n+1=(oV (ls.take k) (vals.take k) p).length):=by
 have hne:oV (ls.take k) (vals.take k) p≠[]:=fun e=>(aLp (by simp [hlv])).1 e hs
 have hp:0<(oV (ls.take k) (vals.take k) p).length:=List.length_pos_iff.2 hne
 rcases (h.row p).2 with ⟨_,h0⟩ | ⟨g,cap,cur,h1,_⟩
 ·omega
 ·exact ⟨g,(oV (ls.take k) (vals.take k) p).length-1,cap,by rw [h1];congr 1;omega,kD (by omega)⟩
theorem aIi {ls:List (List Int)} {vals:List Value} {wB wr W:World} {kp k:Nat} {vP v:Value} {val:Int→Value} {p:Int} (h:aPx ls vals wB kp k vP val wr) (hp:InK p) (hv:val p=v) (hW:W.heap[wB.heap.size]? = wr.heap[wB.heap.size]?):(Instr.lookup 273 (.map (some wB.heap.size)) (.int .i64 p) false).run Tryz.prog W = .ok v W:=by
 rw [← hv]
 exact (h.map.same hW).look Tryz.underlying273 Tryz.underlying2 (aXb _) hp
theorem aUs (ls:List (List Int)) (vals:List Value) (p:Int):(oV ls vals p).length≤ls.length:=by
 unfold oV
 rw [List.length_map]
 exact Nat.le_trans (List.length_filter_le _ _) (by rw [List.length_zip];omega)
theorem aOw {ls:List (List Int)} {vals:List Value} {wB wr w7:World} {kp k:Nat} {vP v:Value} {val:Int→Value} {p:Int} {o:Obj} (N:Nat) (h:aPx ls vals wB kp k vP val wr) (hp:InK p) (hv:val p=v) (hg:(wr.alloc o).drew.grownBy w7 v.ownBlock) (hlen:ls.length≤1728000) (hkl:k<ls.length) (g cap:Nat) :
  ∃ w8,(Instr.mapUpdate 273 (.map (some wB.heap.size)) (.int .i64 p) (.slice (some ⟨g,0,none⟩) N cap)).run Tryz.prog w7 = .ok () w8∧w7.cell? ⟨wB.heap.size+1,1,none⟩=some (.map (some wB.heap.size))∧w8.cell? ⟨wB.heap.size+1,1,none⟩=some (.map (some wB.heap.size)) ∧
   Hid (AtV Tryz.prog 2 w8 wB.heap.size (k+1) (fun q=>if q=p then .slice (some ⟨g,0,none⟩) N cap else val q)∧w7.grownBy w8 (some wB.heap.size)):=by
 have hrl : ∀ g,v.ownBlock=some g→wB.heap.size+2≤g:=fun g hg=>((h.row p).lt g (by rw [hv];exact hg)).1
 have hB : ∀ x,x≤wB.heap.size+1→w7.heap[x]? = wr.heap[x]? := fun x hx=>by
  have:=h.sz
  rw [hg.block x (by simp;omega) fun e=>by have:=hrl x e.symm;omega]
  exact Below.heap_alloc wr o x (by omega)
 obtain ⟨w8,h1,h2,h3⟩:=(h.map.same (hB wB.heap.size (by omega))).put Tryz.underlying273 Tryz.underlying2 (by unfold maxLen;omega) hp (.slice (some ⟨g,0,none⟩) N cap)
 have c7:w7.cell? ⟨wB.heap.size+1,1,none⟩=some (.map (some wB.heap.size)):=(World.cell?_of_block (hB _ (Nat.le_refl _))).trans h.c1
 refine ⟨w8,h1,c7,?_,kD ⟨h2,h3⟩⟩
 refine (World.cell?_of_block (h3.block _ ?_ (by simp))).trans c7
 have:=hg.size
 have:=h.sz
 simp at *
 omega
theorem aPh (ls:List (List Int)):(iY ls).length≤ls.length:=by
 have key : ∀ (ls:List (List Int)) (acc:List Int),(ls.foldl (fun acc l=>if eK l ∈ acc then acc else acc++[eK l]) acc).length≤acc.length+ls.length:=fun ls=>by
  induction ls with
  | nil=>simp
  | cons l ls ih =>
   intro acc
   rw [List.foldl_cons,List.length_cons]
   refine Nat.le_trans (ih _) ?_
   split
   ·omega
   ·simp;omega
 have:=key ls []
 simpa [iY] using this
theorem aSr {ls:List (List Int)} {vals:List Value} {wB wr w5:World} {kp k:Nat} {vP:Value} {val:Int→Value} {o:Obj} (h:aPx ls vals wB kp k vP val wr) (hg:(wr.alloc o).grownBy w5 vP.ownBlock) :
  w5.cell? ⟨wB.heap.size+1,0,none⟩=some vP∧w5.frozen? ⟨wB.heap.size+1,0,none⟩=false∧w5.heap[wB.heap.size+1]? = some (.cells #[vP, .map (some wB.heap.size)] 275 (0,0)):=by
 have hB:w5.heap[wB.heap.size+1]? = wr.heap[wB.heap.size+1]? := by
  have:=h.sz
  rw [hg.block _ (by simp;omega) fun e=>by have:=(h.prd.lt _ e.symm).1;omega]
  exact Below.heap_alloc wr o _ (by omega)
 refine ⟨(World.cell?_of_block hB).trans h.c0,(World.frozen?_of_block hB).trans h.f0,hB.trans h.cel⟩
theorem aNy {w:World} {b:Nat} {u m v:Value} {T:TypeId} (h:w.heap[b]? = some (.cells #[u,m] T (0,0))):(w.setCell ⟨b,0,none⟩ v).heap=w.heap.setIfInBounds b (.cells #[v,m] T (0,0)):=by
 apply Array.ext_getElem?
 intro i
 by_cases e:i=b
 ·subst e
  have hlt:=(Array.getElem?_eq_some_iff.1 h).1
  rw [Array.getElem?_setIfInBounds_self_of_lt hlt]
  simp [World.setCell,Array.getElem?_modify,h]
 ·rw [Array.getElem?_setIfInBounds_ne (fun q=>e q.symm)]
  simp [World.setCell,Array.getElem?_modify]
  exact fun q=>absurd q.symm e
theorem aVw {ls:List (List Int)} {vals:List Value} {wB wr w5 w6:World} {k:Nat} {vP vP':Value} {val:Int→Value} {p:Int} {l:List Int} {o:Obj} (h:aPx ls vals wB k k vP val wr) (hk:k<ls.length) (hl:ls[k]? = some l) (hp:eK l=p) (hs:p ∉ iY (ls.take k)) (ho:w5.ownsRow (wB.heap.size+2) 2 1 vP' ((iY (ls.take k)).length+1) ((iY (ls.take k)).map (Value.int .i64)++[.int .i64 p]))
  (hg:(wr.alloc o).grownBy w5 vP.ownBlock) (hloc:vP'.ownBlock=vP.ownBlock∨vP'.ownBlock=some (wr.alloc o).heap.size) (hc:w5.heap[wB.heap.size+1]? = some (.cells #[vP, .map (some wB.heap.size)] 275 (0,0))) (hw:w5.setCell ⟨wB.heap.size+1,0,none⟩ vP'=w6) :
  aPx ls vals wB (k+1) k vP' val w6:=by
 subst hp hw
 exact aJk.fresh h hk hl hs ho hg hloc (aNy hc) rfl rfl rfl
theorem aQz {ls:List (List Int)} {vals:List Value} {wB wr:World} {k:Nat} {vP:Value} {val:Int→Value} (h:aPx ls vals wB ls.length k vP val wr) (hp:1≤ls.length) :
  ∃ g N cap,vP = .slice (some ⟨g,0,none⟩) N cap∧Hid (N=(iY ls).length):=by
 have h1:=h.prd
 rw [List.take_length] at h1
 have hne:0<(iY ls).length:=by
  have:eK ls[0] ∈ iY ls:=aLe.2 ⟨ls[0],List.getElem_mem _,rfl⟩
  exact List.length_pos_of_mem this
 rcases h1.2 with ⟨_,h0⟩ | ⟨g,cap,cur,h1,_⟩
 ·omega
 ·exact ⟨g,_,cap,h1,kD rfl⟩
theorem aWh {ls:List (List Int)} {vals:List Value} {wB wr:World} {k g N cap:Nat} {val:Int→Value} (h:aPx ls vals wB ls.length k (.slice (some ⟨g,0,none⟩) N cap) val wr) (hN:N=(iY ls).length):wr.ownsRow (wB.heap.size+2) 2 1 (.slice (some ⟨g,0,none⟩) N cap) N ((iY (ls.take ls.length)).map (Value.int .i64)):=by
 have h1:=h.prd
 rw [List.take_length] at h1 ⊢
 subst hN
 exact h1
theorem aW0 {w:World} {b g N cap:Nat} {zs:List Int} (h:w.ownsRow b 2 1 (.slice (some ⟨g,0,none⟩) N cap) N (zs.map (Value.int .i64))) (hz:zs.length≤1728000):Calls Tryz.prog 213 #[.slice (some ⟨g,0,none⟩) N cap] w fun e w'=>e = .returned (.tuple #[])∧w'.ownsRow b 2 1 (.slice (some ⟨g,0,none⟩) N cap) N ((oA zs).map (Value.int .i64))∧w.grownBy w' (some g):=by
 have hN:N=zs.length:=by have:=h.1;simp at this;omega
 subst hN
 rcases h.2 with ⟨h0,_⟩ | ⟨g',cap',cur,h0,r0,hgb,r1,r2,r3,r4⟩
 ·cases h0
 cases h0
 have hsl:=xU zs
 rw [Nat.mul_one] at r4
 have hc:=AnyM.slices_Sort_int Tryz.laySlLaysMn5 g 0 cap zs w (holds_of_blockI hgb r4) (Array.getElem?_eq_some_iff.1 hgb).1 (by omega)
 rw [← aFn] at hc
 refine hc.mono ?_
 rintro e w' ⟨rfl,n,os,rfl⟩
 refine ⟨rfl,⟨by simp [hsl], .inr ⟨g,cap,_,rfl,r0,heap_sortedI _ hgb,r1,r2,by simp [putCells,r3],?_⟩⟩,grownBy_sortedI _⟩
 rw [Nat.mul_one]
 have:=take_putCellsI cur (oA zs) (by rw [hsl];omega)
 rwa [hsl] at this
theorem bDn {w wj wr:World} {T:TypeId} (h1:Below (w.alloc (.cells #[.slice none 0 0, .map none] T)).heap.size (w.alloc (.cells #[.slice none 0 0, .map none] T)) wj) (h2:Below wj.heap.size wj wr) :
  wr.cell? ⟨w.heap.size,0,none⟩=some (.slice none 0 0)∧wr.cell? ⟨w.heap.size,1,none⟩=some (.map none)∧wr.frozen? ⟨w.heap.size,0,none⟩=false∧wr.frozen? ⟨w.heap.size,1,none⟩=false:=by
 have z:(w.alloc (.cells #[.slice none 0 0, .map none] T)).heap.size=w.heap.size+1:=by simp
 have h:=h1.size
 rw [z] at h h1
 have e:wr.heap[w.heap.size]? = some (.cells #[.slice none 0 0, .map none] T (0,0)):=by
  rw [h2.block _ (by omega),h1.block _ (by omega)]
  exact heap_alloc_new w _
 simp [World.cell?,World.frozen?,e]
theorem aUl {ls:List (List Int)} {vals:List Value} {w wj wr wS:World} {kp k g N cap:Nat} {val:Int→Value} (h1:Below (w.alloc (.cells #[.slice none 0 0, .map none] 275)).heap.size (w.alloc (.cells #[.slice none 0 0, .map none] 275)) wj) (h:aPx ls vals wj kp k (.slice (some ⟨g,0,none⟩) N cap) val wr) (hg:wr.grownBy wS (some g)) :
  wS.cell? ⟨wj.heap.size+1,0,none⟩=some (.slice (some ⟨g,0,none⟩) N cap)∧wS.cell? ⟨wj.heap.size+1,1,none⟩=some (.map (some wj.heap.size))∧wS.cell? ⟨w.heap.size,0,none⟩=some (.slice none 0 0)∧wS.cell? ⟨w.heap.size,1,none⟩=some (.map none)∧wS.frozen? ⟨w.heap.size,0,none⟩=false∧wS.frozen? ⟨w.heap.size,1,none⟩=false:=by
 have hlt:=h.prd.lt g rfl
 have hsz:=h.sz
 have z:(w.alloc (.cells #[.slice none 0 0, .map none] 275)).heap.size=w.heap.size+1:=by simp
 have hz:=h1.size
 rw [z] at hz
 have hb : ∀ x,x<wj.heap.size+2→wS.heap[x]? = wr.heap[x]? := fun x hx=>hg.block x (by omega) (by simp;omega)
 obtain ⟨a,b,c,d⟩:=bDn h1 h.bel
 exact ⟨(World.cell?_of_block (hb _ (by simp))).trans h.c0,(World.cell?_of_block (hb _ (by simp))).trans h.c1,(World.cell?_of_block (hb _ (by simp;omega))).trans a,(World.cell?_of_block (hb _ (by simp;omega))).trans b,(World.frozen?_of_block (hb _ (by simp;omega))).trans c,(World.frozen?_of_block (hb _ (by simp;omega))).trans d⟩
theorem aDq {ls:List (List Int)} {vals:List Value} {wB wr w7 w8:World} {kp k gg cap N:Nat} {vP v x:Value} {val:Int→Value} {p:Int} {l:List Int} {o:Obj} (h:aPx ls vals wB kp k vP val wr) (hk:k<ls.length) (hl:ls[k]? = some l) (hx:vals[k]? = some x) (hlen:ls.length=vals.length) (hp:eK l=p) (hv:val p=v) (hn:N=(oV (ls.take k) (vals.take k) p).length+1)
  (ho7:w7.ownsRow (wB.heap.size+2) 34 1 (.slice (some ⟨gg,0,none⟩) N cap) N (oV (ls.take k) (vals.take k) p++[x])) (hg7:(wr.alloc o).drew.grownBy w7 v.ownBlock) (hat:v.ownBlock=some gg∨gg=wr.heap.size+1)
  (hm:Hid (AtV Tryz.prog 2 w8 wB.heap.size (k+1) (fun q=>if q=p then .slice (some ⟨gg,0,none⟩) N cap else val q)∧w7.grownBy w8 (some wB.heap.size))) :
  aPx ls vals wB kp (k+1) vP (fun q=>if q=p then .slice (some ⟨gg,0,none⟩) N cap else val q) w8:=by
 subst hp hn hv
 refine aJk.join (o:=o) h hk hl hx hlen ho7 ⟨hg7.os,hg7.tape,hg7.output,hg7.size,hg7.block⟩ ?_ hm.out.1 hm.out.2
 rcases hat with e | e
 ·exact .inl e.symm
 ·right
  rw [e]
  simp [Value.ownBlock]
def bCx (low high:Int) (cnt:Nat) (w:World) (vP:Value) (B:Nat) (w':World):Prop := ∃ (vals:List Value) (val:Int→Value) (n:Nat),Below w.heap.size w w'∧w.heap.size≤B∧w'.ownsRow w.heap.size 2 1 vP (iY (bY low high cnt)).length ((oA (iY (bY low high cnt))).map (Value.int .i64))∧AtV Tryz.prog 2 w' B n val ∧
 (∀ p,w'.ownsRow w.heap.size 34 1 (val p) (oV (bY low high cnt) vals p).length (oV (bY low high cnt) vals p))∧(∀ (i:Nat) x r,vals[i]? = some x→(bY low high cnt)[i]? = some r→bC7 w' w.heap.size x r)∧(bY low high cnt).length=vals.length
theorem aA5 {w:World} {b o:Nat} {v:Value} {x:Nat} (h:x≠b):(w.setCell ⟨b,o,none⟩ v).heap[x]? = w.heap[x]? := by
 simp [World.setCell,Array.getElem?_modify]
 exact fun q=>absurd q.symm h
theorem bBa {low high:Int} {j:Nat} {vals:List Value} {w wj wr wS:World} {g N cap:Nat} {val:Int→Value} {u:Value} (h1:Below (w.alloc (.cells #[.slice none 0 0, .map none] 275)).heap.size (w.alloc (.cells #[.slice none 0 0, .map none] 275)) wj) (h:aPx (bY low high j) vals wj (bY low high j).length (bY low high j).length (.slice (some ⟨g,0,none⟩) N cap) val wr) (hg:wr.grownBy wS (some g))
  (hN:N=(iY (bY low high j)).length) (ho:wS.ownsRow (wj.heap.size+2) 2 1 (.slice (some ⟨g,0,none⟩) N cap) N ((oA (iY ((bY low high j).take (bY low high j).length))).map (Value.int .i64)))
  (hv:aBi 2 34 wj (w.alloc (.cells #[.slice none 0 0, .map none] 275)).heap.size u (bY low high j) vals):bCx low high j w (.slice (some ⟨g,0,none⟩) N cap) wj.heap.size ((wS.setCell ⟨w.heap.size,0,none⟩ (.slice (some ⟨g,0,none⟩) N cap)).setCell ⟨w.heap.size,1,none⟩ (.map (some wj.heap.size))):=by
 have z:(w.alloc (.cells #[.slice none 0 0, .map none] 275)).heap.size=w.heap.size+1:=by simp
 have hz:=h1.size
 rw [z] at hz h1 hv
 have hlt:=h.prd.lt g rfl
 have hsz:=h.sz
 have hgs:=hg.size
 have hob : ∀ x,x≠w.heap.size→((wS.setCell ⟨w.heap.size,0,none⟩ (.slice (some ⟨g,0,none⟩) N cap)).setCell ⟨w.heap.size,1,none⟩ (.map (some wj.heap.size))).heap[x]? = wS.heap[x]? := fun x hx=>by rw [aA5 hx,aA5 hx]
 have hr : ∀ x,x<wr.heap.size→x≠w.heap.size→x≠g→((wS.setCell ⟨w.heap.size,0,none⟩ (.slice (some ⟨g,0,none⟩) N cap)).setCell ⟨w.heap.size,1,none⟩ (.map (some wj.heap.size))).heap[x]? = wr.heap[x]? := fun x h2 h3 h4=>(hob x h3).trans (hg.block x h2 (by simpa using h4))
 have e:(bY low high j).take (bY low high j).length=bY low high j:=List.take_length
 have e2:vals.take (bY low high j).length=vals:=by rw [← hv.len,List.take_length]
 rw [e] at ho
 subst hN
 refine ⟨vals,val,_,⟨?_,?_,?_,?_,fun x hx => ?_⟩,by omega,mS (fU ho fun x hx=>hob x ?_) (by omega),h.map.same (hr _ (by omega) (by omega) (by omega)),fun p => ?_,fun i x r q1 q2 => ?_,hv.len.symm⟩
 ·exact (hg.os.trans h.bel.os).trans h1.os
 ·exact (hg.tape.trans h.bel.tape).trans h1.tape
 ·exact (hg.output.trans h.bel.output).trans h1.output
 ·simp [World.setCell];omega
 ·rw [hr x (by omega) (by omega) (by omega),h.bel.block x (by omega),h1.block x (by omega)]
  exact Below.heap_alloc w _ x hx
 ·have:=ho.lt x hx;omega
 ·have h5:=h.row p
  rw [e,e2] at h5
  refine mS (fU h5 fun x hx => ?_) (by omega)
  have h6:=h5.lt x hx
  refine hr x h6.2 (by omega) fun e => ?_
  rcases h.sepP p with q | q
  ·rw [q] at hx;cases hx
  ·exact q (by rw [hx,e];rfl)
 ·obtain ⟨q3,_⟩:=hv.2 i x r q1 q2
  refine mS (fU q3 fun y hy => ?_) (by omega)
  have h6:=q3.lt y hy
  rw [hr y (by omega) (by omega) (by omega),h.bel.block y h6.2]
theorem aUg {w:World} {low high:Int} {cnt:Nat} (hlow:1≤low) (hh:low≤high) (hhi:high≤120) (hc:cnt≤3) (hc1:1≤cnt) (Q:Ending→World→Prop) (HQ:Hid (∀ vP B w',bCx low high cnt w vP B w'→Q (.returned (.agg #[vP, .map (some B)])) w')):Calls Tryz.prog 190 #[.int .i64 low, .int .i64 high, .int .i64 (cnt:Int)] w Q:=by
 have hmm := @run_makeMap Tryz.prog
 obtain ⟨iI,hiI,hI0,hI1,hI2⟩:=info_parts bDj
 obtain ⟨iS,hiS,hS0,hS1,hS2⟩:=info_parts bDk
 go_enter Tryz.func190,Tryz.ntmps190
 go_wp2
 go_loopw [2,7] (fun i v wr=>Lev low high cnt (w.alloc (.cells #[.slice none 0 0, .map none] 275)) i v wr) (fun i _ _=>(intOf i).toNat)
 case atStart=>exact aS9 _ (by simp)
 case round =>
  rename World=>wj
  obtain ⟨j,c,hj,rfl,hN,hB⟩:=hrel
  rcases c with _ | c
  ·have hjc:j=cnt:=by have:=hj.out;omega
   subst hjc
   rw [show ((0:Nat):Int)=0 from rfl]
   obtain ⟨vals,hv,hel⟩:=hN.out
   have hpos:=(aAt hlow hh hhi j).1
   have hcn:=(aAt hlow hh hhi j).2
   have hp3:120 ^ j≤1728000:=Nat.le_trans (Nat.pow_le_pow_right (by omega) hc) (by omega)
   rcases hv.2 with ⟨_,h0⟩ | ⟨g,cap,cur,rfl,r1,r2,r3,r4,r5,r6⟩
   ·omega
   clear r2 r5 r6
   have hlen:(bY low high j).length≤1728000:=by omega
   have Hv:=kD hv
   have Hel:=kD hel
   have hgl:=(hv.lt g rfl).2
   clear hv hel hcn hp3 r1
   go_wp2
   go_loopw [60] (fun i wr=>Grp (bY low high j) vals wj i wr) (fun i _=>(bY low high j).length-(intOf i).toNat)
   case atStart=>exact aSw
   case round =>
    rename World=>wk
    obtain ⟨k,vP,val,hk,rfl,HG⟩:=hrel
    rcases Nat.lt_or_ge k (bY low high j).length with hkl | hkl
    ·obtain ⟨l,hl⟩ : ∃ l,(bY low high j)[k]? = some l:=⟨_,List.getElem?_eq_getElem hkl⟩
     obtain ⟨x,hx⟩ : ∃ x,vals[k]? = some x:=⟨_,List.getElem?_eq_getElem (by rw [aBi.len ⟨Hv.out,Hel.out⟩];exact hkl)⟩
     have hlm:l ∈ bY low high j:=List.mem_of_getElem? hl
     have hll:=aG3 j l hlm
     have Hli:=kD (aV8 hlow hh j l hlm)
     have Hox:=kD (Hel.out k x l hx hl).1
     have cx:wk.cell? ⟨g,k,none⟩=some x:=(HG.out.bel.cell (p:=⟨g,k,none⟩) hgl).trans (cell_of_row Hv.out hx)
     obtain ⟨gx,capx,rfl⟩ : ∃ g cap,x = .slice (some ⟨g,0,none⟩) l.length cap:=by
      rcases Hox.out.2 with ⟨_,h0⟩ | ⟨g,cap,cur,rfl,_⟩
      ·omega
      ·exact ⟨g,cap,rfl⟩
     have Hcx:Hid (∀ m,m<l.length→wk.cell? ⟨gx,m,none⟩=some (.int .i64 (l.getD m 0))):=kD fun m hm=>(HG.out.bel.cell (p:=⟨gx,m,none⟩) (Hox.out.lt gx rfl).2).trans (cell_of_row Hox.out (by simp [List.getD,hm]))
     have hl3:l.length≤3:=by omega
     have hlv:(bY low high j).length=vals.length:=(aBi.len ⟨Hv.out,Hel.out⟩).symm
     have Hlv:=kD hlv
     clear hlm hll hlv
     go_wp2
     go_loopw [66,16] (fun i v wr=>Prd l wk i v wr) (fun i _ _=>l.length-(intOf i).toNat)
     case atStart=>exact ⟨0,Nat.zero_le _,rfl,rfl,rfl⟩
     case round =>
      obtain ⟨m,hm,rfl,rfl,rfl⟩:=hrel
      rcases Nat.lt_or_ge m l.length with hml | hml
      ·have c:=Hcx.out m hml
       have hb:=aTs hlow hhi Hli.out hl3 hml
       obtain ⟨y,hy⟩ : ∃ y,l.getD m 0=y:=⟨_,rfl⟩
       rw [hy] at c hb
       clear hy
       have hb1:=hb.2.1
       have hb2:=hb.2.2
       have Hbe:=kD hb.1
       clear hb
       go_wp2
       go_roundw
       case rel=>first | exact ⟨m+1,by omega,by go_num,by rw [Hbe.out],rfl⟩ | trace_state
       case measure=>simp [intOf];omega
      ·have hme:m=l.length:=by omega
       subst hme
       rw [List.take_length]
       have hpr:=aWg hlow hhi Hli.out hl3
       obtain ⟨p,hp⟩ : ∃ p,eK l=p:=⟨_,rfl⟩
       rw [hp] at hpr ⊢
       have Hp:=kD hp
       have Hpr:=kD hpr
       have hkc:InK p:=by unfold InK;omega
       have c1:=HG.out.c1
       have c0:=HG.out.c0
       have f0:=HG.out.f0
       clear hp hpr
       by_cases hs:p ∈ iY ((bY low high j).take k)
       ·obtain ⟨gp,n,cp,hv,Hn⟩ : ∃ gp n cp,val p = .slice (some ⟨gp,0,none⟩) (n+1) cp∧Hid (n+1=(oV ((bY low high j).take k) (vals.take k) p).length):=aSv HG.out (hlv:=by rw [aBi.len ⟨Hv.out,Hel.out⟩]) hs
        have hlook:=HG.out.map.look Tryz.underlying273 Tryz.underlying2 (aXb _) hkc
        rw [hv] at hlook
        have hL1:(Instr.lookup 273 (.map (some wj.heap.size)) (.int .i64 p) false).run Tryz.prog wr.drew = .ok (.slice (some ⟨gp,0,none⟩) (n+1) cp) wr.drew:=aIi HG.out hkc hv rfl
        have hL2:(Instr.lookup 273 (.map (some wj.heap.size)) (.int .i64 p) false).run Tryz.prog (wr.alloc (.cells #[.slice (some ⟨gx,0,none⟩) l.length capx] 34)).drew = .ok (.slice (some ⟨gp,0,none⟩) (n+1) cp) (wr.alloc (.cells #[.slice (some ⟨gx,0,none⟩) l.length capx] 34)).drew:=aIi HG.out hkc hv (Below.heap_alloc _ _ _ HG.out.map.lt)
        have hrow:=HG.out.row p
        rw [hv, ← Hn.out] at hrow
        have Hrow:=kD hrow
        clear hrow
        have hn1:n+1≤1728000:=by rw [Hn.out];exact Nat.le_trans (aUs _ _ _) (by rw [List.length_take];omega)
        have lB:=HG.out.sz
        go_wp2
        go_region_held3 (fun w'=>w'.cell? ⟨wj.heap.size+1,1,none⟩=some (.map (some wj.heap.size))) (first | go_keep | assumption)
         ((refine step_append_lies _ (by rfl) _ _ _ (by rfl) (wj.heap.size+2) 34 iS _ 1 24 Tryz.underlying285 hiS hS0 hS1 hS2 rfl (by omega) _ (n+1) _ (by rfl) ((Hrow.out.alloc _).drew) ⟨wr.heap.size,0,none⟩ 1 1 [.slice (some ⟨gx,0,none⟩) l.length capx] (by rfl) (by rfl) (World.news_of_block (cs := #[.slice (some ⟨gx,0,none⟩) l.length capx]) (t:=34) (fr:=(0,0)) (heap_alloc_new wr _)) (by simp [Value.oneCell']) (by omega) (by unfold maxLen;omega) (by omega) (by simp;omega) (wr.heap.size+1) (by simp) ?_;intro gg cap2 w7 ho7 hg7 hat7 hlt7;obtain ⟨w8,hr8,c17,c18,Hm8⟩:=aOw (n+1+1) HG.out hkc hv hg7 hlen hkl gg cap2))
        all_goals go_wp2
        all_goals go_roundw
        all_goals first
         | exact ⟨k+1,vP,_,hkl,by go_num,kD (aDq (HG.out.seen hkl hl (by rw [Hp.out];exact hs)) hkl hl hx Hlv.out Hp.out hv (by rw [← Hn.out]) ho7 hg7 hat7 Hm8)⟩
         | (simp [intOf];omega)
         | exact ⟨k+1,vP,_,hkl,by go_num,kD (aDq (HG.out.seen hkl hl (by rw [Hp.out];exact hs)) hkl hl hx Hlv.out Hp.out hv (by rw [← Hn.out]) ho7 hg7 hat7 Hm8)⟩
       ·have hve:=(aLp (ls:=(bY low high j).take k) (vals:=vals.take k) (p:=p) (by have:=Hlv.out;simp;omega)).2 hs
        have hv:val p = .slice none 0 0:=HG.out.nil p hve
        have hlook:=HG.out.map.look Tryz.underlying273 Tryz.underlying2 (aXb _) hkc
        rw [hv] at hlook
        have lB:=HG.out.sz
        have lP:(iY ((bY low high j).take k)).length≤1728000:=Nat.le_trans (aPh _) (by rw [List.length_take];omega)
        have Hve:=kD hve
        clear hve
        go_wp2_with (first
         | (at_builtin;refine wpList_append_own_at _ rfl _ _ 34 rfl (wj.heap.size+2) 2 iI (.int .i64 0) 1 8 Tryz.underlying34 hiI hI0 hI1 hI2 rfl (by decide) vP _ _ rfl (HG.out.prd.alloc _) ⟨wr.heap.size,0,none⟩ 1 1 [.int .i64 p] rfl rfl (cell_one_new _ _ _) (fun u hu=>by simp at hu;subst hu;rfl) (by unfold maxLen;omega) (by omega) (by simp;omega) ?_;intro vP2 w5 ho5 hg5 hnil5 hloc5;obtain ⟨g5,cap5,rfl⟩:=aFf ho5;obtain ⟨c50,f50,hc5⟩:=aSr HG.out hg5;have Ho5:=kD ho5;have Hg5:=kD hg5;have Hloc5:=kD hloc5;have Hc5:=kD hc5;clear ho5 hg5 hloc5 hnil5 hc5)
         | go_in)
        generalize hw6:w5.setCell ⟨wj.heap.size+1,0,none⟩ (.slice (some ⟨g5,0,none⟩) ((iY ((bY low high j).take k)).length+1) cap5)=w6
        have HG6:=kD (aVw HG.out hkl hl Hp.out hs Ho5.out Hg5.out Hloc5.out Hc5.out hw6)
        clear hw6 c50 f50 c0 c1 f0 hlook lB
        have c16:=HG6.out.c1
        have hL1:(Instr.lookup 273 (.map (some wj.heap.size)) (.int .i64 p) false).run Tryz.prog w6.drew = .ok (.slice none 0 0) w6.drew:=aIi HG6.out hkc hv rfl
        have hL2:(Instr.lookup 273 (.map (some wj.heap.size)) (.int .i64 p) false).run Tryz.prog (w6.alloc (.cells #[.slice (some ⟨gx,0,none⟩) l.length capx] 34)).drew = .ok (.slice none 0 0) (w6.alloc (.cells #[.slice (some ⟨gx,0,none⟩) l.length capx] 34)).drew:=aIi HG6.out hkc hv (Below.heap_alloc _ _ _ HG6.out.map.lt)
        have lB6:=HG6.out.sz
        have Hrow:=kD (show w6.ownsRow (wj.heap.size+2) 34 1 (.slice none 0 0) 0 [] from World.ownsRow_nil _ _ _ _)
        go_region_held3 (fun w'=>w'.cell? ⟨wj.heap.size+1,1,none⟩=some (.map (some wj.heap.size))) (first | go_keep | assumption)
         ((refine step_append_lies _ (by rfl) _ _ _ (by rfl) (wj.heap.size+2) 34 iS _ 1 24 Tryz.underlying285 hiS hS0 hS1 hS2 rfl (by omega) _ 0 _ (by rfl) ((Hrow.out.alloc _).drew) ⟨w6.heap.size,0,none⟩ 1 1 [.slice (some ⟨gx,0,none⟩) l.length capx] (by rfl) (by rfl) (World.news_of_block (cs := #[.slice (some ⟨gx,0,none⟩) l.length capx]) (t:=34) (fr:=(0,0)) (heap_alloc_new w6 _)) (by simp [Value.oneCell']) (by omega) (by unfold maxLen;omega) (by omega) (by simp;omega) (w6.heap.size+1) (by simp) ?_;intro gg cap2 w7 ho7 hg7 hat7 hlt7;obtain ⟨w8,hr8,c17,c18,Hm8⟩:=aOw (0+1) HG6.out hkc hv hg7 hlen hkl gg cap2))
        all_goals go_wp2
        all_goals go_roundw
        all_goals first
         | exact ⟨k+1,_,_,hkl,by go_num,kD (aDq (HG6.out) hkl hl hx Hlv.out Hp.out hv (by rw [Hve.out];rfl) (by rw [Hve.out];exact ho7) hg7 hat7 Hm8)⟩
         | (simp [intOf];omega)
         | exact ⟨k+1,_,_,hkl,by go_num,kD (aDq (HG6.out) hkl hl hx Hlv.out Hp.out hv (by rw [Hve.out];rfl) (by rw [Hve.out];exact ho7) hg7 hat7 Hm8)⟩
    ·have hke:k=(bY low high j).length:=by omega
     subst hke
     obtain ⟨gP,N,cP,hvP,HN⟩:=aQz HG.out hpos
     subst hvP
     have HS:=kD (aW0 (aWh HG.out HN.out) (by have:=aPh ((bY low high j).take (bY low high j).length);rw [List.length_take] at this;omega))
     have c0:=HG.out.c0
     go_wp2_with (first
      | (go_at_call 213;refine HS.out.mono ?_;rintro e wS ⟨rfl,hoS,hgS⟩;obtain ⟨s0,s1,t0,t1,q0,q1⟩:=aUl hB.out HG.out hgS)
      | go_in)
     refine bodyPost_ret (v := .agg #[.slice (some ⟨gP,0,none⟩) N cP, .map (some wj.heap.size)]) (by simp [results,Tryz.results190,go_sem, *]) rfl ?_
     exact HQ.out _ _ _ (bBa hB.out HG.out hgS HN.out hoS ⟨Hv.out,Hel.out⟩)
  ·obtain ⟨vals,hv,hel⟩:=hN.out
   have hpos:=(aAt hlow hh hhi j).1
   have hcn:=(aAt hlow hh hhi j).2
   have hp3:120 ^ j≤14400:=by
    have:j≤2:=by have:=hj.out;omega
    exact Nat.le_trans (Nat.pow_le_pow_right (by omega) this) (by omega)
   rcases hv.2 with ⟨_,h0⟩ | ⟨g,cap,cur,rfl,r1,r2,r3,r4,r5,r6⟩
   ·omega
   clear r2 r5 r6
   have hlen:(bY low high j).length≤14400:=by omega
   have Hv:=kD hv
   have Hel:=kD hel
   have hgl:=(hv.lt g rfl).2
   have hc3:c≤3:=by have:=hj.out;omega
   clear hv hel hcn hp3 r1
   go_wp2
   go_loopw [26,8] (fun i v wr=>Mid low high wj (bY low high j) i v wr) (fun i _ _=>(bY low high j).length-(intOf i).toNat)
   case atStart=>exact ⟨0,Nat.zero_le _,rfl,kD zU.nil,kD (Below.refl _ _)⟩
   case round =>
    rename World=>wk
    obtain ⟨k,hk,rfl,hN2,hB2⟩:=hrel
    rcases Nat.lt_or_ge k (bY low high j).length with hkl | hkl
    ·obtain ⟨l,hl⟩ : ∃ l,(bY low high j)[k]? = some l:=⟨_,List.getElem?_eq_getElem hkl⟩
     obtain ⟨x,hx⟩ : ∃ x,vals[k]? = some x:=⟨_,List.getElem?_eq_getElem (by rw [aBi.len ⟨Hv.out,Hel.out⟩];exact hkl)⟩
     have hlm:l ∈ bY low high j:=List.mem_of_getElem? hl
     obtain ⟨hf1,hf2⟩:=aHt hlow hh j l hlm
     have hll:=aG3 j l hlm
     have Hox:=kD (Hel.out k x l hx hl).1
     have Hne:=kD (Hel.out k x l hx hl).2.2
     have cx:wk.cell? ⟨g,k,none⟩=some x:=(hB2.out.cell (p:=⟨g,k,none⟩) hgl).trans (cell_of_row Hv.out hx)
     obtain ⟨f,hf⟩ : ∃ f,uR low l=f:=⟨_,rfl⟩
     rw [hf] at hf1 hf2
     have Hll:=kD (show l.length≤3 by have:=hj.out;omega)
     have Hf:=kD hf
     have Hrl:=kD (aT6 (k:=k) hlow hhi fun l' hl'=>(aHt hlow hh j l' hl').1)
     have Hlast:Hid (∀ g cap,x = .slice (some ⟨g,0,none⟩) l.length cap→l≠[]→wk.cell? ⟨g,l.length-1,none⟩=some (.int .i64 f)):=kD fun g cap hx0 hl0=>aS6 hx0 hl0 Hox.out hB2.out Hf.out
     have Hnil:Hid (l=[]→f=low):=kD fun h=>by have:=Hf.out;subst h;simpa [uR] using this.symm
     clear hf hll hlm hx
     have HC:Hid (∀ W,Below wj.heap.size wj W→Calls Tryz.prog 92 #[x] W fun e w' => ∃ v',e = .returned v'∧w'.ownsRow W.heap.size 2 1 v' l.length (l.map (Value.int .i64))∧Below W.heap.size W w'):=kD fun W hW=>aSe (w:=W) (l:=l) (fU Hox.out fun g hg=>hW.block g (Hox.out.lt g hg).2) (by have:=Hll.out;omega)
     have hwk:wj.heap.size≤wk.heap.size:=hB2.out.size
     rcases Hox.out.2 with ⟨rfl,h0⟩ | ⟨gx,capx,curx,rfl,x1,x2,x3,x4,x5,x6⟩
     ·have hl0:=List.eq_nil_of_length_eq_zero h0
      have Hf0:=kD (Hnil.out hl0)
      clear h0 Hlast Hnil hl0 Hne
      go_wp2
      go_loopw [12,8] (fun i v wr=>Inn low high wj (((bY low high j).take k).flatMap (aFy low high)) l f i v wr) (fun i _ _=>(high+1-intOf i).toNat)
      case atStart=>exact ⟨0,by omega,by rw [← Hf0.out];simp,kD (by simpa using hN2.out),hB2,hwk⟩
      case round =>
       obtain ⟨m,hm,rfl,hN3,hB3,hz3⟩:=hrel
       by_cases hmh:f+m≤high
       ·obtain ⟨vals3,hv3⟩:=hN3.out
        have Hc:=kD (HC.out wr hB3.out)
        have Hv3:=kD hv3
        have hl3':l.length≤3:=by have:=Hll.out;omega
        have hr3:(((bY low high j).take k).flatMap (aFy low high)++(List.range m).map fun (i:Nat)=>l++[f+(i:Int)]).length≤2000000:=by
         have:=Hrl.out
         rw [List.length_append,List.length_map,List.length_range]
         omega
        have Hl3':=kD hl3'
        have Hr3:=kD hr3
        clear hv3 hl3' hr3
        go_wp2_with (first
         | (go_at_call 92;refine Hc.out.mono ?_;rintro e w2 ⟨vc,rfl,hvc,hb2⟩;have Hvc:=kD hvc;have Hb2:=kD hb2;clear hvc hb2)
         | (at_builtin;refine wpList_append_own_at _ rfl _ _ 34 rfl wr.heap.size 2 iI (.int .i64 0) 1 8 Tryz.underlying34 hiI hI0 hI1 hI2 rfl (by decide) vc _ _ rfl (Hvc.out.alloc _) ⟨w2.heap.size,0,none⟩ 1 1 [.int .i64 (f+m)] rfl rfl (cell_one_new _ _ _) (fun u hu=>by simp at hu;subst hu;rfl) (by have:=Hl3'.out;unfold maxLen;omega) (by have:=Hl3'.out;omega) (by have:=Hb2.out.size;simp;omega) ?_;intro v1 w3 ho1 hg1 hnil1 hloc1;obtain ⟨g1,cap1,rfl⟩:=aFf ho1;have Ho1:=kD ho1;have Hg1:=kD hg1;clear ho1 hg1 hnil1 hloc1)
         | (at_builtin;refine wpList_append_own_at _ rfl _ _ 285 rfl wj.heap.size 34 iS (.slice none 0 0) 1 24 Tryz.underlying285 hiS hS0 hS1 hS2 rfl (by decide) _ _ vals3 rfl ((bFk (B:=0) Hv3.out.1 Hb2.out Hvc.out Hg1.out).alloc _) ⟨w3.heap.size,0,none⟩ 1 1 [.slice (some ⟨g1,0,none⟩) (l.length+1) cap1] rfl rfl (cell_one_new _ _ _) (fun u hu=>by simp at hu;subst hu;exact aT5 Ho1.out) (by have:=Hr3.out;unfold maxLen;omega) (by have:=Hr3.out;omega) (by have h1:=Hb2.out.size;have h2:=Hg1.out.size;simp at h2 ⊢;omega) ?_;intro v2 w4 ho2 hg2 hnil2 hloc2;have Ho2:=kD ho2;have Hg2:=kD hg2;have Hloc2:=kD hloc2;clear ho2 hg2 hnil2 hloc2)
         | go_in)
        go_roundw
        case rel=>first | exact aDr (low:=low) hmh Hv3.out hB3 hz3 Hb2.out Hvc.out Hg1.out Ho1.out Hg2.out Ho2.out Hloc2.out | exact ⟨_,_,_,_,_,_,_,_,_,_,_,_,_,_,_,aDr (low:=low) hmh Hv3.out hB3 hz3 Hb2.out Hvc.out Hg1.out Ho1.out Hg2.out Ho2.out Hloc2.out,rfl⟩
        case measure=>simp [intOf];omega
       ·have hme:f+m=high+1:=by omega
        go_wp2
        go_roundw
        case rel=>first | exact aDs hkl hl Hf.out (by rw [hme]) ⟨m,hm,rfl,hN3,hB3,hz3⟩ | exact ⟨_,_,_,_,_,aDs hkl hl Hf.out (by rw [hme]) ⟨m,hm,rfl,hN3,hB3,hz3⟩,rfl,rfl,rfl,rfl,rfl⟩
        case measure=>simp [intOf];omega
     ·clear x1 x2 x5 x6
      have hl0:l≠[]:=fun e=>by have:=Hne.out e;cases this
      have hc0:=Hlast.out gx capx rfl hl0
      have h0:0<l.length:=List.length_pos_iff.2 hl0
      have hl3:l.length≤3:=by have:=Hll.out;omega
      clear Hlast Hnil Hne
      go_wp2
      go_loopw [12,8] (fun i v wr=>Inn low high wj (((bY low high j).take k).flatMap (aFy low high)) l f i v wr) (fun i _ _=>(high+1-intOf i).toNat)
      case atStart=>exact ⟨0,by omega,by simp,kD (by simpa using hN2.out),hB2,hwk⟩
      case round =>
       obtain ⟨m,hm,rfl,hN3,hB3,hz3⟩:=hrel
       by_cases hmh:f+m≤high
       ·obtain ⟨vals3,hv3⟩:=hN3.out
        have Hc:=kD (HC.out wr hB3.out)
        have Hv3:=kD hv3
        have hl3':l.length≤3:=by have:=Hll.out;omega
        have hr3:(((bY low high j).take k).flatMap (aFy low high)++(List.range m).map fun (i:Nat)=>l++[f+(i:Int)]).length≤2000000:=by
         have:=Hrl.out
         rw [List.length_append,List.length_map,List.length_range]
         omega
        have Hl3':=kD hl3'
        have Hr3:=kD hr3
        clear hv3 hl3' hr3
        go_wp2_with (first
         | (go_at_call 92;refine Hc.out.mono ?_;rintro e w2 ⟨vc,rfl,hvc,hb2⟩;have Hvc:=kD hvc;have Hb2:=kD hb2;clear hvc hb2)
         | (at_builtin;refine wpList_append_own_at _ rfl _ _ 34 rfl wr.heap.size 2 iI (.int .i64 0) 1 8 Tryz.underlying34 hiI hI0 hI1 hI2 rfl (by decide) vc _ _ rfl (Hvc.out.alloc _) ⟨w2.heap.size,0,none⟩ 1 1 [.int .i64 (f+m)] rfl rfl (cell_one_new _ _ _) (fun u hu=>by simp at hu;subst hu;rfl) (by have:=Hl3'.out;unfold maxLen;omega) (by have:=Hl3'.out;omega) (by have:=Hb2.out.size;simp;omega) ?_;intro v1 w3 ho1 hg1 hnil1 hloc1;obtain ⟨g1,cap1,rfl⟩:=aFf ho1;have Ho1:=kD ho1;have Hg1:=kD hg1;clear ho1 hg1 hnil1 hloc1)
         | (at_builtin;refine wpList_append_own_at _ rfl _ _ 285 rfl wj.heap.size 34 iS (.slice none 0 0) 1 24 Tryz.underlying285 hiS hS0 hS1 hS2 rfl (by decide) _ _ vals3 rfl ((bFk (B:=0) Hv3.out.1 Hb2.out Hvc.out Hg1.out).alloc _) ⟨w3.heap.size,0,none⟩ 1 1 [.slice (some ⟨g1,0,none⟩) (l.length+1) cap1] rfl rfl (cell_one_new _ _ _) (fun u hu=>by simp at hu;subst hu;exact aT5 Ho1.out) (by have:=Hr3.out;unfold maxLen;omega) (by have:=Hr3.out;omega) (by have h1:=Hb2.out.size;have h2:=Hg1.out.size;simp at h2 ⊢;omega) ?_;intro v2 w4 ho2 hg2 hnil2 hloc2;have Ho2:=kD ho2;have Hg2:=kD hg2;have Hloc2:=kD hloc2;clear ho2 hg2 hnil2 hloc2)
         | go_in)
        go_roundw
        case rel=>first | exact aDr (low:=low) hmh Hv3.out hB3 hz3 Hb2.out Hvc.out Hg1.out Ho1.out Hg2.out Ho2.out Hloc2.out | exact ⟨_,_,_,_,_,_,_,_,_,_,_,_,_,_,_,aDr (low:=low) hmh Hv3.out hB3 hz3 Hb2.out Hvc.out Hg1.out Ho1.out Hg2.out Ho2.out Hloc2.out,rfl⟩
        case measure=>simp [intOf];omega
       ·have hme:f+m=high+1:=by omega
        go_wp2
        go_roundw
        case rel=>first | exact aDs hkl hl Hf.out (by rw [hme]) ⟨m,hm,rfl,hN3,hB3,hz3⟩ | exact ⟨_,_,_,_,_,aDs hkl hl Hf.out (by rw [hme]) ⟨m,hm,rfl,hN3,hB3,hz3⟩,rfl,rfl,rfl,rfl,rfl⟩
        case measure=>simp [intOf];omega
    ·have hke:k=(bY low high j).length:=by omega
     go_wp2
     go_roundw
     case rel=>exact aV4 hj.out hke hN2 hB2 hB
     case measure=>simp [intOf]
end Go.Proofs.YtbliejnpjpnahaaGreatDoor
namespace Go.Proofs.YtbliejnpjpnahaaGreatDoor
open Go.Shelf Go.RowKit Go.Sort Go.Maps
set_option linter.unusedVariables false
set_option maxRecDepth 100000
theorem aOq {w:World} {F:Nat→Prop} {base n:Nat} {e:TypeId} {v:Value} {vals:List Value} {es:List DV} (h:w.ownsRow base e 1 v n vals) (hF : ∀ g,base≤g→g<w.heap.size→F g) (hl:es.length=n) (hr : ∀ (i:Nat) x y,vals[i]? = some x→es[i]? = some y→xV w F x y):xV w F v (.sl (es.map fun y=>[y])):=by
 have hvl:vals.length=n:=by have:=h.1;omega
 rcases h.2 with ⟨rfl,h0⟩ | ⟨g,cap,cur,rfl,h1,h2,h3,h4,h5,h6⟩
 ·have:es=[]:=List.eq_nil_of_length_eq_zero (by omega)
  subst this
  exact .nil
 ·have hlm:(es.map fun y=>[y]).length=n:=by rw [List.length_map,hl]
  have hlt:=(Array.getElem?_eq_some_iff.1 h2).1
  have:=xV.sl (w:=w) (F:=F) g 0 cap 1 (es.map fun y=>[y]) (fun i _=>vals.getD i (.bool false)) (hF g h1 hlt) (by omega) h4 (fun i e hi=>by
   simp only [List.getElem?_map,Option.map_eq_some_iff] at hi
   obtain ⟨x,_,rfl⟩:=hi;rfl) (fun i e j x hi hj=>by
   simp only [List.getElem?_map,Option.map_eq_some_iff] at hi
   obtain ⟨y,hy,rfl⟩:=hi
   match j with
   | 0 =>
    have hi':i<vals.length:=by have:=(List.getElem?_eq_some_iff.1 hy).1;omega
    have:=h.cells (g:=g) rfl i vals[i] (List.getElem?_eq_getElem hi')
    simp only [List.getD_eq_getElem?_getD,List.getElem?_eq_getElem hi',Option.getD_some]
    simpa [Addr.add] using (cell_of_row h (List.getElem?_eq_getElem hi'))
   | j+1=>simp at hj) (fun i e j x hi hj=>by
   simp only [List.getElem?_map,Option.map_eq_some_iff] at hi
   obtain ⟨y,hy,rfl⟩:=hi
   match j with
   | 0 =>
    simp at hj
    subst hj
    have hi':i<vals.length:=by have:=(List.getElem?_eq_some_iff.1 hy).1;omega
    simp only [List.getD_eq_getElem?_getD,List.getElem?_eq_getElem hi',Option.getD_some]
    exact hr i _ _ (List.getElem?_eq_getElem hi') hy
   | j+1=>simp at hj)
  rw [hlm] at this
  exact this
theorem aJv {w:World} {F:Nat→Prop} {base:Nat} {e:TypeId} {v:Value} {l:List Int} {n:Nat} (hn:n=l.length) (h:w.ownsRow base e 1 v n (l.map (Value.int .i64))) (hF : ∀ g,base≤g→g<w.heap.size→F g):xV w F v (.sl (l.map fun x=>[DV.v (.int .i64 x)])):=by
 have:=aOq (es:=l.map fun x=>DV.v (.int .i64 x)) h hF (by simp [hn]) fun i x y hx hy=>by
  simp only [List.getElem?_map,Option.map_eq_some_iff] at hx hy
  obtain ⟨a,h1,rfl⟩:=hx
  obtain ⟨b,h2,rfl⟩:=hy
  rw [h1] at h2
  cases h2
  exact .v _ rfl
 rwa [List.map_map] at this
theorem aLu {ls:List (List Int)} {vals:List Value} (h:ls.length=vals.length) (p:Int):aRn ls p=((ls.zip vals).filter fun q=>decide (eK q.1=p)).map (·.1):=by
 unfold aRn
 induction ls generalizing vals with
 | nil=>rfl
 | cons l ls ih =>
  obtain ⟨v,vals,rfl⟩ : ∃ v vs,vals=v :: vs:=by cases vals;simp at h;exact ⟨_,_,rfl⟩
  rw [List.zip_cons_cons,List.filter_cons,List.filter_cons]
  have:=ih (vals:=vals) (by simpa using h)
  by_cases e:eK l=p <;> simp [e,this]
theorem aVq {low high:Int} {cnt B:Nat} {w w':World} {vP:Value} {F:Nat→Prop} (h:bCx low high cnt w vP B w') (hF : ∀ g,w.heap.size≤g→g<w'.heap.size→F g) :
  xV w' F vP (.sl ((oA (iY (bY low high cnt))).map fun x=>[DV.v (.int .i64 x)]))∧xV w' F (.map (some B)) (.mp (aRn (bY low high cnt))):=by
 obtain ⟨vals,val,n,h1,h2,h3,h4,h5,h6,h7⟩:=h
 refine ⟨aJv (xU _).symm h3 hF,?_⟩
 obtain ⟨clock,es,hb,hk⟩:=h4.key Tryz.underlying273 Tryz.underlying2 (aXb w')
 refine .mp B clock es _ val (hF B h2 h4.lt) hb (fun k k0 k1=>hk k ⟨k0,k1⟩) fun k k0 k1 => ?_
 have:=aOq (es:=(aRn (bY low high cnt) k).map fun r=>DV.sl (r.map fun x=>[DV.v (.int .i64 x)])) (h5 k) hF (by rw [List.length_map,aLu h7,List.length_map];unfold oV;rw [List.length_map]) fun i x y hx hy=>by
  rw [aLu h7] at hy
  unfold oV at hx
  simp only [List.getElem?_map,Option.map_eq_some_iff,List.map_map] at hx hy
  obtain ⟨q,hq,rfl⟩:=hx
  obtain ⟨q',hq',rfl⟩:=hy
  rw [hq] at hq'
  cases hq'
  have hm:=List.mem_of_getElem? hq
  have hz:=(List.mem_filter.1 hm).1
  obtain ⟨i',hi',e⟩:=List.getElem_of_mem hz
  rw [List.getElem_zip] at e
  subst e
  rw [List.length_zip] at hi'
  exact aJv rfl (h6 i' _ _ (List.getElem?_eq_getElem (by omega)) (List.getElem?_eq_getElem (by omega))) hF
 rw [List.map_map] at this
 exact this
theorem aZd {w w':World} {F:Nat→Prop} {μ:bJ} {gl:aDi F w} (H:iA ⟨w,F, μ,lks [],gl⟩ F μ (lks []) w) (b:Below w.heap.size w w') (G:Nat→Prop) (hG : ∀ x,G x→w.heap.size≤x∧x<w'.heap.size):iA ⟨w,F, μ,lks [],gl⟩ (fun x=>F x∨G x) μ (lks []) w':=by
 have no : ∀ {k f o},lv (lks []) k f=some o→False:=fun hl=>by simp [lv,lks] at hl
 exact ⟨fun k f o hl=>(no hl).elim,fun k f o k' f' o' b hl=>(no hl).elim,fun k f o b hl=>(no hl).elim,fun k f o b hl=>(no hl).elim,fun x hx=>hx.elim (fun hx=>Nat.lt_of_lt_of_le (H.fz x hx) b.size) fun hx=>(hG x hx).2,fun x hx=>hx.elim .inl fun hx => .inr (.inr (hG x hx).1),
  ⟨fun x hx=>b.block x (H.fz x hx),fun _ hb => .inl hb,fun _ hb=>hb,fun k f o' hk ho'=>(no ho').elim⟩,b.os,b.tape,b.output,b.size,fun x hx _=>b.block x hx⟩
theorem bB7 {low high cnt:Int} (h:1≤low∧low≤high∧high≤120∧1≤cnt∧cnt≤3):FnC Tryz.prog 190 [] [.d (.v (.int .i64 low)), .d (.v (.int .i64 high)), .d (.v (.int .i64 cnt))] [] (.agg [.d (.sl ((oA (iY (bY low high cnt.toNat))).map fun x=>[DV.v (.int .i64 x)])), .d (.mp (aRn (bY low high cnt.toNat)))]):=by
 obtain ⟨q1,q2,q3,q4,q5⟩:=h
 refine ⟨by kernel_rfl,fun w F μ us gl H hs hus => ?_⟩
 obtain ⟨s0,s1,s2,rfl⟩ : ∃ s0 s1 s2,us = #[s0,s1,s2]:=by
  obtain ⟨l⟩:=us
  match l,hs with
  | [a,b,c],_=>exact ⟨a,b,c,rfl⟩
 have e0:=gU (hus 0 s0 _ rfl rfl)
 have e1:=gU (hus 1 s1 _ rfl rfl)
 have e2:=gU (hus 2 s2 _ rfl rfl)
 subst e0 e1 e2
 obtain ⟨c,rfl⟩ : ∃ c:Nat,cnt=c:=⟨cnt.toNat,by omega⟩
 rw [Int.toNat_natCast]
 refine aUg q1 q2 q3 (by omega) (by omega) _ (kD fun vP B w' hf => ?_)
 obtain ⟨d1,d2⟩:=aVq (F:=fun x=>F x∨(w.heap.size≤x∧x<w'.heap.size)) hf fun g h1 h2 => .inr ⟨h1,h2⟩
 obtain ⟨vals,val,n,h1,_⟩:=hf
 refine ⟨_,fun x=>F x∨(w.heap.size≤x∧x<w'.heap.size), μ,rfl,aZd H h1 (fun x=>w.heap.size≤x∧x<w'.heap.size) fun x hx=>hx, .agg _ _ rfl fun i v a h1 h2 => ?_⟩
 match i with
 | 0=>simp at h1 h2;subst h1 h2;exact .d _ _ d1
 | 1=>simp at h1 h2;subst h1 h2;exact .d _ _ d2
 | i+2=>simp at h2
end Go.Proofs.YtbliejnpjpnahaaGreatDoor
namespace Go.Proofs
open Go.Shelf
def Tryz.layLaysn105_ren:Go.Shelf.Ren:=⟨fun | 105=>154 | 212=>223 | 99=>224 | 165=>106 | 166=>28 | 170=>225 | 169=>29 | 263=>269 | 264=>270 | 206=>260 | 240=>58 | 241=>178 | 276=>116 | 277=>237 | n=>n,fun | 9=>9 | 3=>3 | 4=>4 | 20=>20 | 0=>0 | 46=>124 | 109=>299 | 5=>5 | 72=>71 | 76=>76 | 51=>336 | 146=>337 | 53=>79 | 148=>339 | 70=>69 | 37=>22 | 75=>75 | 127=>123 | 164=>199 | 80=>78 | n=>n,fun | n=>n⟩
theorem Tryz.layLaysn105:Go.Proofs.Lays.n105 Tryz.prog Tryz.layLaysn105_ren:={
 mixed:=by kernel_rfl
 f99:=Tryz.func224.trans (congrArg some (by kernel_rfl))
 f105:=Tryz.func154.trans (congrArg some (by kernel_rfl))
 f165:=Tryz.func106.trans (congrArg some (by kernel_rfl))
 f166:=Tryz.func28.trans (congrArg some (by kernel_rfl))
 f169:=Tryz.func29.trans (congrArg some (by kernel_rfl))
 f170:=Tryz.func225.trans (congrArg some (by kernel_rfl))
 f206:=Tryz.func260.trans (congrArg some (by kernel_rfl))
 f212:=Tryz.func223.trans (congrArg some (by kernel_rfl))
 f240:=Tryz.func58.trans (congrArg some (by kernel_rfl))
 f241:=Tryz.func178.trans (congrArg some (by kernel_rfl))
 f263:=Tryz.func269.trans (congrArg some (by kernel_rfl))
 f264:=Tryz.func270.trans (congrArg some (by kernel_rfl))
 f276:=Tryz.func116.trans (congrArg some (by kernel_rfl))
 f277:=Tryz.func237.trans (congrArg some (by kernel_rfl))
 t0:=Tryz.underlying0
 a0:=Tryz.isAgg0
 z0:=Tryz.sizeOf0
 v0:=Tryz.zeroValue0
 t3:=Tryz.underlying3
 a3:=Tryz.isAgg3
 z3:=Tryz.sizeOf3
 v3:=Tryz.zeroValue3
 t4:=Tryz.underlying4
 a4:=Tryz.isAgg4
 z4:=Tryz.sizeOf4
 v4:=Tryz.zeroValue4
 t5:=Tryz.underlying5
 a5:=Tryz.isAgg5
 z5:=Tryz.sizeOf5
 v5:=Tryz.zeroValue5
 t9:=Tryz.underlying9
 a9:=Tryz.isAgg9
 z9:=Tryz.sizeOf9
 v9:=Tryz.zeroValue9
 t20:=Tryz.underlying20
 a20:=Tryz.isAgg20
 z20:=Tryz.sizeOf20
 v20:=Tryz.zeroValue20
 t37:=Tryz.underlying22
 a37:=Tryz.isAgg22
 z37:=Tryz.sizeOf22
 v37:=Tryz.zeroValue22
 t46:=Tryz.underlying124
 a46:=Tryz.isAgg124
 z46:=Tryz.sizeOf124
 v46:=Tryz.zeroValue124
 t51:=Tryz.underlying336
 a51:=Tryz.isAgg336
 z51:=Tryz.sizeOf336
 v51:=Tryz.zeroValue336
 t53:=Tryz.underlying79
 a53:=Tryz.isAgg79
 z53:=Tryz.sizeOf79
 v53:=Tryz.zeroValue79
 t70:=Tryz.underlying69
 a70:=Tryz.isAgg69
 z70:=Tryz.sizeOf69
 v70:=Tryz.zeroValue69
 t72:=Tryz.underlying71
 a72:=Tryz.isAgg71
 z72:=Tryz.sizeOf71
 v72:=Tryz.zeroValue71
 t75:=Tryz.underlying75
 a75:=Tryz.isAgg75
 z75:=Tryz.sizeOf75
 v75:=Tryz.zeroValue75
 t76:=Tryz.underlying76
 a76:=Tryz.isAgg76
 z76:=Tryz.sizeOf76
 v76:=Tryz.zeroValue76
 t109:=Tryz.underlying299
 a109:=Tryz.isAgg299
 z109:=Tryz.sizeOf299
 v109:=Tryz.zeroValue299
 t127:=Tryz.underlying123
 a127:=Tryz.isAgg123
 z127:=Tryz.sizeOf123
 v127:=Tryz.zeroValue123
 t146:=Tryz.underlying337
 a146:=Tryz.isAgg337
 z146:=Tryz.sizeOf337
 v146:=Tryz.zeroValue337
 t148:=Tryz.underlying339
 a148:=Tryz.isAgg339
 z148:=Tryz.sizeOf339
 v148:=Tryz.zeroValue339
 t164:=Tryz.underlying199
 a164:=Tryz.isAgg199
 z164:=Tryz.sizeOf199
 v164:=Tryz.zeroValue199 }
end Go.Proofs
namespace Go.Proofs
open Go.Shelf
def Tryz.layLaysn169_ren:Go.Shelf.Ren:=⟨fun | 169=>29 | n=>n,fun | 70=>69 | 9=>9 | 0=>0 | 72=>71 | 37=>22 | 127=>123 | 3=>3 | 5=>5 | n=>n,fun | n=>n⟩
theorem Tryz.layLaysn169:Go.Proofs.Lays.n169 Tryz.prog Tryz.layLaysn169_ren:={
 mixed:=by kernel_rfl
 f169:=Tryz.func29.trans (congrArg some (by kernel_rfl))
 t0:=Tryz.underlying0
 a0:=Tryz.isAgg0
 z0:=Tryz.sizeOf0
 v0:=Tryz.zeroValue0
 t3:=Tryz.underlying3
 a3:=Tryz.isAgg3
 z3:=Tryz.sizeOf3
 v3:=Tryz.zeroValue3
 t9:=Tryz.underlying9
 a9:=Tryz.isAgg9
 z9:=Tryz.sizeOf9
 v9:=Tryz.zeroValue9
 t37:=Tryz.underlying22
 a37:=Tryz.isAgg22
 z37:=Tryz.sizeOf22
 v37:=Tryz.zeroValue22
 t70:=Tryz.underlying69
 a70:=Tryz.isAgg69
 z70:=Tryz.sizeOf69
 v70:=Tryz.zeroValue69
 t72:=Tryz.underlying71
 a72:=Tryz.isAgg71
 z72:=Tryz.sizeOf71
 v72:=Tryz.zeroValue71
 t127:=Tryz.underlying123
 a127:=Tryz.isAgg123
 z127:=Tryz.sizeOf123
 v127:=Tryz.zeroValue123 }
end Go.Proofs
namespace Go.Proofs.YtbliejnpjpnahaaGreatDoor
open Go.Shelf Go.RowKit
set_option linter.unusedVariables false
set_option maxRecDepth 100000
def aS7:Go.Shelf.Ren:=⟨fun | 166=>28 | 240=>58 | 276=>116 | n=>n,
 fun | 0=>0 | 3=>3 | 4=>4 | 5=>5 | 9=>9 | 20=>20 | 37=>22 | 70=>69 | 72=>71 | 75=>75 | 80=>78 | 164=>199 | n=>n,fun | n=>n⟩
theorem bDo:Lays.n166 Tryz.prog aS7:={
 mixed:=by kernel_rfl
 f166:=Tryz.func28.trans (congrArg some (by kernel_rfl))
 f240:=Tryz.func58.trans (congrArg some (by kernel_rfl))
 f276:=Tryz.func116.trans (congrArg some (by kernel_rfl))
 t0:=Tryz.underlying0
 a0:=Tryz.isAgg0
 z0:=Tryz.sizeOf0
 v0:=Tryz.zeroValue0
 t3:=Tryz.underlying3
 a3:=Tryz.isAgg3
 z3:=Tryz.sizeOf3
 v3:=Tryz.zeroValue3
 t4:=Tryz.underlying4
 a4:=Tryz.isAgg4
 z4:=Tryz.sizeOf4
 v4:=Tryz.zeroValue4
 t9:=Tryz.underlying9
 a9:=Tryz.isAgg9
 z9:=Tryz.sizeOf9
 v9:=Tryz.zeroValue9
 t20:=Tryz.underlying20
 a20:=Tryz.isAgg20
 z20:=Tryz.sizeOf20
 v20:=Tryz.zeroValue20
 t37:=Tryz.underlying22
 a37:=Tryz.isAgg22
 z37:=Tryz.sizeOf22
 v37:=Tryz.zeroValue22
 t70:=Tryz.underlying69
 a70:=Tryz.isAgg69
 z70:=Tryz.sizeOf69
 v70:=Tryz.zeroValue69
 t72:=Tryz.underlying71
 a72:=Tryz.isAgg71
 z72:=Tryz.sizeOf71
 v72:=Tryz.zeroValue71
 t75:=Tryz.underlying75
 a75:=Tryz.isAgg75
 z75:=Tryz.sizeOf75
 v75:=Tryz.zeroValue75
 t164:=Tryz.underlying199
 a164:=Tryz.isAgg199
 z164:=Tryz.sizeOf199
 v164:=Tryz.zeroValue199 }
theorem bDb (ρ:Go.Shelf.Ren) (h5:ρ.t 5=5) (h72:ρ.t 72=71):Builder.Extra Tryz.prog ρ:={
 sizeBuilder:=by rw [h72];kernel_rfl
 liesBuilder:=by rw [h72];kernel_rfl
 t5:=by rw [h5];exact Tryz.underlying5
 a5:=by rw [h5];exact Tryz.isAgg5
 z5:=by rw [h5];exact Tryz.sizeOf5
 v5:=by rw [h5];exact Tryz.zeroValue5
 infoByte:=by rw [h5];kernel_rfl
 cellsByte:=by rw [h5];kernel_rfl
 sizeByte:=by rw [h5];kernel_rfl
 neB5:=by rw [h5,h72];decide }
theorem bFu:aRr Tryz.prog 71:=by
 have h1:Tryz.prog.cellsOf 71=2:=by kernel_rfl
 have h2:sameLayout Tryz.prog Tryz.prog.depth 71 71=true:=by kernel_rfl
 refine ⟨h1,fun c hc => ?_⟩
 obtain ⟨d,hd⟩ : ∃ d,Tryz.prog.depth=d+1:=⟨Tryz.prog.depth-1,by
  have:Tryz.prog.depth≠0:=by
   have:Nat.beq Tryz.prog.depth 0=false:=by kernel_rfl
   intro e;rw [e] at this;cases this
  omega⟩
 have h3:rowAt Tryz.prog (sameLayout Tryz.prog Tryz.prog.depth · 71) Tryz.prog.depth 71 c 0 1=true:=by
  generalize hf:(sameLayout Tryz.prog Tryz.prog.depth · 71)=f
  have hf2:f 71=true:=by rw [← hf];exact h2
  rw [hd]
  unfold rowAt
  simp only [h1,hf2]
  simp
  exact .inl hc
 have h4 : ∀ D,liesAt Tryz.prog (D+1) 71 c 0 71 1=true:=fun D=>by
  unfold liesAt
  rw [Bool.or_eq_true]
  exact .inl h3
 rw [hd]
 exact h4 d
section
variable {P:Program} {T:Tab} {L N:Nat} {ops:Array Oper} {E:Env} {t:Nat→AV} {h h':dG} {dst:Option Tmp} {ty:TypeId} {pos:String} {aft:Array Edge} {g:Option (Nat × Bool)} {x:Operand}
theorem bCp {k:Nat} {acc s:ByteArray} {args:Array Operand} {at_:Array TypeId} (hq:s.size≠0∧acc.size+s.size≤140737488355328) (hx:evA N ⟨t,h⟩ x = .fn 28 []) (ha:evL N ⟨t,h⟩ args.toList++[]=[.ptr k 0 1 0 0, .d (.v (.string s))]) (hk:h k=yG 71 5 k acc) :
  cQ Tryz.prog N ⟨dst, .call ⟨.value x,args,at_⟩,ty,pos,aft,g⟩ ⟨t,h⟩ (.tup [.d (.v (.int .i64 s.size)), .d (.v .nilIface)]) (upd h k (yG 71 5 k (acc++s))):=bFd bDo (bDb _ rfl rfl) bFu (by kernel_rfl) hq hx ha hk
theorem bA1 {k:Nat} {acc:ByteArray} {args:Array Operand} {at_:Array TypeId} (hx:evA N ⟨t,h⟩ x = .fn 29 []) (ha:evL N ⟨t,h⟩ args.toList++[]=[.ptr k 0 1 0 0]) (hk:h k=yG 71 5 k acc) :
  cQ Tryz.prog N ⟨dst, .call ⟨.value x,args,at_⟩,ty,pos,aft,g⟩ ⟨t,h⟩ (.d (.v (.string acc))) (upd h k .dead):=bCi Tryz.layLaysn169 (bDb _ rfl rfl) (by kernel_rfl) hx ha hk
end
end Go.Proofs.YtbliejnpjpnahaaGreatDoor
namespace Go.Proofs.YtbliejnpjpnahaaGreatDoor
open Go.Shelf Go.RowKit
set_option linter.unusedVariables false
set_option maxRecDepth 100000
theorem aUh {s:ByteArray} {n:Nat} (h0:0<s.size) (h1:n≤140737488355328) (h2:s.size*n≤140737488355328):FnC Tryz.prog 154 [] [.d (.v (.string s)), .d (.v (.int .i64 n))] [] (.d (.v (.string ⟨(Lib.repeatL s.data.toList n).toArray⟩))):=by
 refine aSp (v := .string ⟨(Lib.repeatL s.data.toList n).toArray⟩) (by kernel_rfl) rfl fun W => ?_
 match n,h1,h2 with
 | 0,_,_=>exact (Any.strings_Repeat_zero Tryz.layLaysn105 s W).mono (by rintro e w' ⟨rfl,rfl⟩;exact ⟨rfl,Below.refl _ _⟩)
 | 1,_,_=>exact (Any.strings_Repeat_one Tryz.layLaysn105 s W).mono (by rintro e w' ⟨rfl,rfl⟩;exact ⟨by simp [Lib.repeatL],Below.refl _ _⟩)
 | n+2,h1,h2=>exact (Any.strings_Repeat_main Tryz.layLaysn105 (bDb _ rfl rfl) s (n+2) W (by omega) (by omega) h2 h0).mono (by rintro e w' ⟨rfl,hb⟩;exact ⟨rfl,hb⟩)
end Go.Proofs.YtbliejnpjpnahaaGreatDoor
