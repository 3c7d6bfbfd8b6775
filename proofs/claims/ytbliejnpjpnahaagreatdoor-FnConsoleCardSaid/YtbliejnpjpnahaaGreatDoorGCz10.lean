/- Texts of this claim, one behind the other (merged by a program of mine). -/
import Derived.Shelf.Strconv.ParseIntPublic10
import Derived.Shelf.Strconv.ErrVarParseInt
import Derived.Shelf.Strings.Prefix
import Derived.BigCall
import Derived.Shelf.SlIterI.Sorted
import Derived.Ground.GgzProg
import Derived.Shelf.SlGeneric
import Derived.Test.YtbliejnpjpnahaaGreatDoorProg
import Derived.Sort.EveryDepth
import Derived.RangeFuncBox
import Derived.RangeFuncWrites
import Derived.RangeFuncOne
import Derived.RangeFuncLeaves
import Derived.Shelf.Abstract
import Derived.WalkKit
import Derived.OwnWalkIn
import Derived.TacticsInMore
import Derived.LoopNIn
import Derived.LoopIn
import Derived.Test.YtbliejnpjpnahaaGreatDoorGCz9
set_option linter.unusedSimpArgs false
set_option linter.unusedVariables false
namespace Go.Proofs.YtbliejnpjpnahaaGreatDoor
open Go.Shelf Go.RowKit
set_option linter.unusedVariables false
set_option maxRecDepth 100000
theorem aLn (s:ByteArray) (w:World):Calls Tryz.prog 134 #[.string s, .string aTc] w fun e w'=>e = .returned (.string (aAf s))∧w'=w:=Any.strings_TrimPrefix Tryz.layLaysn101 s aTc w
theorem bA5 {n : Int} (h0 : -9223372036854775808 ≤ n) (h1 : n ≤ 9223372036854775807) {w : World} (htab : Lib.TabIs Tryz.prog w "internal/strconv.uint64pow10" .u64 Lib.pow10Tab) :
  Calls Tryz.prog 51 #[.int .i64 n] w fun e w'=>e = .returned (.string (aSh n))∧Below w.heap.size w w':=by
 go_enter Tryz.func51,Tryz.ntmps51
 go_wp2_with (go_at_call 107;refine (Any.strconv_FormatInt_10 Tryz.layLaysMn173 n h0 h1 _ htab).mono ?_;rintro e w' ⟨rfl,k,os,rfl⟩)
 go_ret
 exact ⟨rfl,Lib.below_grow _ _ (Nat.le_refl _) _ _⟩
theorem bFv {W : World} {F : Nat → Prop} (gl : aDi F W) : (∃ tp p,W.var? Tryz.prog "strconv.ErrSyntax" = some #[.iface tp p]) ∧ ∃ tp p,W.var? Tryz.prog "strconv.ErrRange" = some #[.iface tp p] := by
 have h1 : Tryz.prog.globalNamed "strconv.ErrSyntax" = some 4 := by kernel_rfl
 have h2 : Tryz.prog.globalNamed "strconv.ErrRange" = some 5 := by kernel_rfl
 obtain ⟨-,tp,p,t,f,e⟩:=gl (bA6 4) (by simp [aQd])
 obtain ⟨-,tp2,p2,t2,f2,e2⟩:=gl (bA6 5) (by simp [aQd])
 refine ⟨⟨tp,p,?_⟩,tp2,p2,?_⟩
 ·unfold World.var?;rw [h1];simp [e]
 ·unfold World.var?;rw [h2];simp [e2]
theorem aFd {w w':World} {t:TypeId} (h:w'=w ∨ ∃ l,w'=Lib.bytesWorld w t l):Below w.heap.size w w':=by
 rcases h with rfl | ⟨l,rfl⟩
 ·exact Below.refl _ _
 ·exact Lib.bytesWorld_below _ _ _
theorem aZr {s:ByteArray} (hs:s.size≤281474976710656) {W:World} {F:Nat→Prop} (gl:aDi F W) (hF : ∀ b,F b→b<W.heap.size) :
  Calls Tryz.prog 71 #[.string s] W fun e w'=>e = .returned (.tuple #[.int .i64 (aNi s).1, .bool (aNi s).2])∧Below W.heap.size W w':=by
 obtain ⟨⟨tp,p,v1⟩,tp2,p2,v2⟩:=bFv gl
 by_cases hd:(aAf s).size<1∨18<(aAf s).size
 ·have e:aNi s=(0,false):=if_pos hd
  rw [e]
  go_enter Tryz.func71,Tryz.ntmps71
  go_wp2_with (go_at_call 134;refine (aLn s _).mono ?_;rintro e w' ⟨rfl,rfl⟩)
  all_goals (refine bodyPost_ret (v := .tuple #[.int .i64 0, .bool false]) (by simp [results,Tryz.results71,go_sem]) rfl ?_)
  all_goals exact ⟨rfl,Below.refl _ _⟩
 ·have e0:aNi s=_:=if_neg hd
  rcases hp:Lib.parseIntB 64 s.data.toList with n | _ | _
  ·skip
   have hb:=Lib.parseIntB_bounds hp
   rw [hp] at e0
   have go : ∀ r:Int × Bool,(if aSh n=s then (n,true) else (0,false))=r→Calls Tryz.prog 71 #[.string s] W fun e w'=>e = .returned (.tuple #[.int .i64 r.1, .bool r.2])∧Below W.heap.size W w':=by
    intro r hr
    by_cases hq:aSh n=s
    ·rw [if_pos hq] at hr
     subst hr
     go_enter Tryz.func71,Tryz.ntmps71
     go_wp2_with (first
      | (go_at_call 134;refine (aLn s _).mono ?_;rintro e w' ⟨rfl,rfl⟩)
      | (go_at_call 135;refine (Any.strconv_ParseInt_10_at64_ok Tryz.layLaysCn174 s (by omega) n hp _).mono ?_;rintro e w1 ⟨rfl,hw⟩;have hb1:Hid (Below _ _ w1):=aFd hw;clear hw)
      | (go_at_call 51;refine (bA5 (n:=n) (by omega) (by omega) (aJh (gl.evo (fun b hb=>hb1.out.block b (hF b hb)) (fun b h=>h)))).mono ?_;rintro e w2 ⟨rfl,hb2⟩))
     refine bodyPost_ret (v := .tuple #[.int .i64 n, .bool true]) (by simp [results,Tryz.results71,go_sem]) rfl ?_
     exact ⟨rfl,hb1.out.trans (hb2.mono hb1.out.size)⟩
    ·rw [if_neg hq] at hr
     subst hr
     go_enter Tryz.func71,Tryz.ntmps71
     go_wp2_with (first
      | (go_at_call 134;refine (aLn s _).mono ?_;rintro e w' ⟨rfl,rfl⟩)
      | (go_at_call 135;refine (Any.strconv_ParseInt_10_at64_ok Tryz.layLaysCn174 s (by omega) n hp _).mono ?_;rintro e w1 ⟨rfl,hw⟩;have hb1:Hid (Below _ _ w1):=aFd hw;clear hw)
      | (go_at_call 51;refine (bA5 (n:=n) (by omega) (by omega) (aJh (gl.evo (fun b hb=>hb1.out.block b (hF b hb)) (fun b h=>h)))).mono ?_;rintro e w2 ⟨rfl,hb2⟩))
     ·refine bodyPost_ret (v := .tuple #[.int .i64 0, .bool false]) (by simp [results,Tryz.results71,go_sem]) rfl ?_
      exact ⟨rfl,hb1.out.trans (hb2.mono hb1.out.size)⟩
     ·exfalso
      rename_i hx
      refine hq ?_
      have hy:(aSh n).toList=s.toList:=by simpa using hx
      rw [ByteArray.toList_eq,ByteArray.toList_eq] at hy
      exact ByteArray.ext (Array.toList_inj.1 hy)
   rw [e0]
   exact go _ rfl
  ·skip
   rw [hp] at e0
   rw [e0]
   go_enter Tryz.func71,Tryz.ntmps71
   go_wp2_with (first
    | (go_at_call 134;refine (aLn s _).mono ?_;rintro e w' ⟨rfl,rfl⟩)
    | (go_at_call 135;refine (Any.strconv_ParseInt_10_at64_syntax_var Tryz.layLaysCn174 s hs hp tp p _ v1).mono ?_;rintro e w1 ⟨N,rfl, -, -,hb⟩))
   refine bodyPost_ret (v := .tuple #[.int .i64 0, .bool false]) (by simp [results,Tryz.results71,go_sem]) rfl ?_
   exact ⟨rfl,hb⟩
  ·skip
   rw [hp] at e0
   rw [e0]
   go_enter Tryz.func71,Tryz.ntmps71
   go_wp2_with (first
    | (go_at_call 134;refine (aLn s _).mono ?_;rintro e w' ⟨rfl,rfl⟩)
    | (go_at_call 135;refine (Any.strconv_ParseInt_10_at64_range_var Tryz.layLaysCn174 s hs hp tp2 p2 _ v2).mono ?_;rintro e w1 ⟨N,rfl, -, -,hb⟩))
   refine bodyPost_ret (v := .tuple #[.int .i64 0, .bool false]) (by simp [results,Tryz.results71,go_sem]) rfl ?_
   exact ⟨rfl,hb⟩
theorem aZ0 {s:ByteArray} (hs:s.size≤281474976710656):FnC Tryz.prog 71 [] [.d (.v (.string s))] [] (.tup [.d (.v (.int .i64 (aNi s).1)), .d (.v (.bool (aNi s).2))]):=by
 refine ⟨by kernel_rfl,fun w F μ us gl H hs' hr => ?_⟩
 obtain ⟨u0,rfl⟩ : ∃ u0,us = #[u0]:=by
  obtain ⟨l⟩:=us
  match l,hs' with
  | [a],_=>exact ⟨a,rfl⟩
 have e1:u0 = .string s:=by
  have:=hr 0 u0 _ rfl rfl
  cases this with | d _ _ hd=>cases hd;rfl
 subst e1
 refine (aZr hs gl H.fz).mono ?_
 rintro e w' ⟨rfl,hb⟩
 refine ⟨_,F, μ,rfl,H.of_below hb, .tup _ _ rfl fun i v c h1 h2 => ?_⟩
 match i with
 | 0=>simp at h1 h2;subst h1 h2;exact .d _ _ (.v _ rfl)
 | 1=>simp at h1 h2;subst h1 h2;exact .d _ _ (.v _ rfl)
 | i+2=>simp at h2
end Go.Proofs.YtbliejnpjpnahaaGreatDoor
namespace Go.Proofs
open Go.Shelf
end Go.Proofs
namespace Go.Proofs.YtbliejnpjpnahaaGreatDoor
open Go.RowKit Go.Shelf
attribute [local go_sem] Oper.semAt_some
set_option linter.unusedVariables false
set_option maxRecDepth 100000
set_option maxHeartbeats 2000000
def aCc (n₀:Nat) (w:World) (A:Option Addr) (zs:List Int):Prop := ∀ j,j<zs.length → ∃ b off,A=some ⟨b,off,none⟩∧b<n₀∧w.cell? ⟨b,off+j,none⟩=some (.int .i64 (zs[j]?.getD 0))
theorem aW7 {zs:List Int} {k:Nat} (h:k<zs.length):zs.take (k+1)=zs.take k++[zs[k]?.getD 0]:=by
 rw [List.take_add_one,List.getElem?_eq_getElem h];rfl
theorem bAe (F:Fence) (n:Nat) (hf:F.fn 214) (hro:F.round=none) (hn:1≤n) (l Bs o n₀ cap:Nat) (A:Option Addr) (zs:List Int) (hz:zs.length≤1048576) (J Jx:List Int→World→Prop)
  (hY : ∀ pre x W,J pre W→pre.length<zs.length→YieldAt F (n-1) Tryz.prog l #[.int .i64 x] W fun e W'=>(e = .returned (.bool true)∧J (pre++[x]) W'∧Below n₀ W W')∨(e = .returned (.bool false)∧Jx (pre++[x]) W'))
  (W:World) (hBs:W.cell? ⟨Bs,o,none⟩=some (.slice A zs.length cap)) (hA:aCc n₀ W A zs) (h0:J [] W) :
  CallsIn F n Tryz.prog 214 #[.func (.yield l) #[] #[], .pointer (some ⟨Bs,o,none⟩)] W fun e W'=>(∃ v,e = .returned v)∧((∃ ys,ys=zs∧J ys W')∨(∃ pre,pre <+: zs∧Jx pre W')):=by
 refine callsIn_of_wp Tryz.func214 rfl hf ?_ hro
 simp only [Tryz.ntmps214,List.size_toArray,List.length_cons,List.length_nil,Nat.reduceAdd,Nat.reduceSub,Array.replicate_succ,Array.replicate_zero,List.push_toArray,List.append_toArray,List.nil_append,List.cons_append]
 gi_wp2
 gi_loopw [7] (fun i wr => ∃ k:Nat,k≤zs.length∧i = .int .i64 k∧J (zs.take k) wr∧Below n₀ W wr) (fun i _=>zs.length-(Go.RowKit.intOf i).toNat)
 case atStart=>exact ⟨0,Nat.zero_le _,rfl,h0,Below.refl _ _⟩
 case round =>
  obtain ⟨k,hk,rfl,hJs,hnx⟩:=hrel
  by_cases hlt:k<zs.length
  ·obtain ⟨b,off,rfl,hb,hc⟩:=hA k hlt
   have htk:=aW7 hlt
   obtain ⟨x,hx⟩ : ∃ x,x=zs[k]?.getD 0:=⟨_,rfl⟩
   rw [← hx] at hc htk
   have hcx:wr.cell? ⟨b,off+k,none⟩=some (.int .i64 x):=(hnx.cell (p:=⟨b,off+k,none⟩) hb).trans hc
   obtain ⟨fn,tmps,assign,body,hy,hR⟩:=hY _ x wr hJs (by rw [List.length_take];omega)
   clear hx hc
   gi_wp2
   refine hR.mono ?_
   rintro e W3 (⟨rfl,hJ3,hk3⟩ | ⟨rfl,hJx3⟩)
   ·gi_wp2
    go_roundw
    case rel=>exact ⟨k+1,by omega,by simp,by rw [htk];exact hJ3,hnx.trans hk3⟩
    case measure=>simp [Go.RowKit.intOf];omega
   ·gi_wp2
    refine bodyPost_ret (results_none rfl _ _ _) rfl ?_
    exact ⟨⟨_,rfl⟩, .inr ⟨_,by rw [← htk];exact List.take_prefix _ _,hJx3⟩⟩
  ·obtain rfl:k=zs.length:=by omega
   rw [List.take_length] at hJs
   gi_wp2
   go_end0
   exact ⟨⟨_,rfl⟩, .inl ⟨_,rfl,hJs⟩⟩
theorem aCc.below {n₀:Nat} {w W:World} {A:Option Addr} {zs:List Int} (h:aCc n₀ w A zs) (hb:Below n₀ w W):aCc n₀ W A zs:=fun j hj=>by
 obtain ⟨b,off,rfl,h1,h2⟩:=h j hj
 exact ⟨b,off,rfl,h1,(hb.cell (p:=⟨b,off+j,none⟩) h1).trans h2⟩
theorem aRm (F:Fence) (n:Nat) (hf:F.fn 214) (hro:F.round=none) (hn:1≤n) (Bs o n₀ cap:Nat) (A:Option Addr) (zs:List Int) (hz:zs.length≤1048576) (w:World) (hBl:Bs<w.heap.size) (hn₀:n₀≤w.heap.size) (hBs:w.cell? ⟨Bs,o,none⟩=some (.slice A zs.length cap)) (hA:aCc n₀ w A zs) :
  SeqStopsK F n Tryz.prog 214 #[.pointer (some ⟨Bs,o,none⟩)] (fun x:Int => #[Value.int .i64 x]) (Below n₀) (fun ys=>ys=zs) (fun pre=>pre <+: zs) zs.length w:=fun l J Jx W hW _ _ hY h0 =>
 bAe F n hf hro hn l Bs o n₀ cap A zs hz J Jx hY W ((hW.cell (p:=⟨Bs,o,none⟩) hBl).trans hBs) (hA.below (hW.mono hn₀)) h0
theorem aRw (F:Fence) (n:Nat) (hg:F.fn 266) (hf:F.fn 214) (hro:F.round=none) (hn:3≤n) (Bs o cap:Nat) (A:Option Addr) (zs:List Int) (hz:zs.length≤1048576) (w:World) (hBl:Bs<w.heap.size) (hBs:w.cell? ⟨Bs,o,none⟩=some (.slice A zs.length cap)) (hA:aCc w.heap.size w A zs) :
  CallsIn F n Tryz.prog 266 #[.slice none 0 0, .func (.func 214) #[] #[.pointer (some ⟨Bs,o,none⟩)]] w fun e W' => ∃ v,e = .returned v∧W'.ownsRow w.heap.size 2 1 v zs.length (zs.map (Value.int .i64))∧(v = .slice none 0 0 ↔ zs=[])∧Below w.heap.size w W':=by
 have h1:1≤n:=by omega
 obtain ⟨i0,hi,hz0,hz1,hz2⟩:=info_parts (P:=Tryz.prog) (e:=2) (z := .int .i64 0) (size:=1) (bytes:=8) (by kernel_rfl)
 refine callsIn_of_wp_marks Tryz.func266 rfl hg ?_ hro
 simp only [Tryz.ntmps266,List.size_toArray,List.length_cons,List.length_nil,Nat.reduceAdd,Nat.reduceSub,Array.replicate_succ,Array.replicate_zero,List.push_toArray,List.append_toArray,List.nil_append,List.cons_append]
 gi_wp2
 have bO:=Boxed.new w 34 (.slice none 0 0)
 have hB0:Below w.heap.size w (w.alloc (.cells #[.slice none 0 0] 34)):=(Below.refl _ w).alloc (Nat.le_refl _) _
 refine wpIn_rangeFunc_ownG hro h1 (gf:=214) (lb := #[.pointer (some ⟨Bs,o,none⟩)]) rfl hf (enters_of Tryz.func214 (by kernel_rfl) rfl)
  (aRm F (n-1) hf hro (by omega) Bs o w.heap.size cap A zs hz _ (by simp;omega) (by simp) ((hB0.cell (p:=⟨Bs,o,none⟩) hBl).trans hBs) (hA.below hB0)) belowK_t (belowK_b (by simp)) (Below.refl _ _) (fun _=>rfl)
  (fun pre W=>(∃ v,Boxed W w.heap.size 34 v∧W.ownsRow w.heap.size 2 1 v pre.length (pre.map (Value.int .i64))∧(v = .slice none 0 0 ↔ pre=[]))∧Below w.heap.size w W)
  (fun _ _ _=>False)
  (OwnFrom.and (Own.from (holdsRow_own w.heap.size w.heap.size 34 2 1 (fun pre=>pre.length) (fun pre=>pre.map (Value.int .i64)) (fun pre v=>v = .slice none 0 0 ↔ pre=[])) _) (ownFrom_below (Nat.le_refl _) (by simp)))
  (fun _ _ _ _ _ hs _ _=>hs)
  ⟨⟨_,bO,World.ownsRow_nil _ _ _ _,by simp⟩,hB0⟩
  (fun x=>{ tmps := #[.slice none 0 0, .func (.func 214) #[] #[.pointer (some ⟨Bs,o,none⟩)], .pointer (some ⟨w.heap.size,0,none⟩),undef, .slice none 0 0, .int .i64 x, .func (.func 214) #[] #[.pointer (some ⟨Bs,o,none⟩)], .int .i64 x,undef,undef,undef,undef,undef],defers:=[] }) ?assign ?body ?done ?stop
 case assign =>
  intro l x W K hK
  gi_wp2
  exact hK
 case body =>
  rintro l pre x W ⟨⟨v,hv,hrow,hnil⟩,hB⟩ hlt
  have hc:=hv.cell
  gi_wp2_with (gi_at_builtin;refine wpListIn_append_own _ rfl _ _ 34 rfl w.heap.size 2 i0 (.int .i64 0) 1 8 Tryz.underlying34 hi hz0 hz1 hz2 rfl (by decide) _ _ _ rfl (hrow.alloc _) ⟨W.heap.size,0,none⟩ 1 1 [.int .i64 x] rfl rfl (cell_one_new _ _ _) (by simp [Value.oneCell']) (by unfold maxLen;omega) (by omega) (by have:=hB.size;simp;omega) ?_;intro v' w1 hown' hgrow _;obtain ⟨g',cap',rfl⟩:=ownsRow_succ hown';obtain ⟨hv1,hv2,hr2,hk2,hb2⟩:=hv.appended (by decide) hrow hB.size (Nat.le_refl _) hown' hgrow;have hc1:=hv1.cell;have hf1:=hv1.frozen)
  exact ⟨hk2.from _,hb2,⟨_,hv2,by simpa using hr2,by simp⟩,hB.trans hb2⟩
 case done =>
  rintro D ys W hD rfl ⟨⟨v,hv,hrow,hnil⟩,hB⟩ hK
  have hc:=hv.cell
  gi_wp2
  refine ⟨by simp, .inl ⟨_,_,rfl,run_takeDeferred hK,?_⟩⟩
  exact ⟨_,results_tmp rfl _ _ _,v,rfl,ownsRow_putObj hrow _ hK rfl,hnil,hB.trans (belowK_b (w:=w) (Nat.le_refl _) W D _ _ (by simp at hD;omega) hK rfl rfl)⟩
 case stop =>
  rintro D c pre W _ _ h _
  exact h.elim
theorem aHq (Bs o cap:Nat) (A:Option Addr) (zs:List Int) (hz:zs.length≤1048576) (w:World) (hBl:Bs<w.heap.size) (hBs:w.cell? ⟨Bs,o,none⟩=some (.slice A zs.length cap)) (hA:aCc w.heap.size w A zs) :
  Calls Tryz.prog 212 #[.func (.func 214) #[] #[.pointer (some ⟨Bs,o,none⟩)]] w fun e W' => ∃ v,e = .returned v∧W'.ownsRow w.heap.size 2 1 v zs.length (zs.map (Value.int .i64))∧(v = .slice none 0 0 ↔ zs=[])∧Below w.heap.size w W':=by
 refine Go.calls_of_every_depth (L:=[212,266,214]) (n:=5) fun D => ?_
 refine callsIn_of_wp Tryz.func212 rfl (by simp [Fence.list]) ?_ rfl
 simp only [Tryz.ntmps212,List.size_toArray,List.length_cons,List.length_nil,Nat.reduceAdd,Nat.reduceSub,Array.replicate_succ,Array.replicate_zero,List.push_toArray,List.append_toArray,List.nil_append,List.cons_append]
 gi_wp2_with (gi_at_call 266;refine (aRw (Fence.list [212,266,214] (some D)) 4 (by simp [Fence.list]) (by simp [Fence.list]) rfl (by omega) Bs o cap A zs hz _ hBl hBs hA).mono ?_;rintro e w' ⟨v,rfl,hrow,hnil,hb⟩)
 go_ret
 exact ⟨v,rfl,hrow,hnil,hb⟩
theorem aY1 {w:World} {F:Nat→Prop} {v:Value} {xs:List Int} (hfz : ∀ b,F b→b<w.heap.size) (h:xV w F v (.sl (xs.map fun x=>[DV.v (.int .i64 x)]))) : ∃ A c,v = .slice A xs.length c∧aCc w.heap.size w A xs:=by
 generalize hes:(xs.map fun x=>[DV.v (.int .i64 x)])=es at h
 have hl:xs.length=es.length:=by rw [← hes,List.length_map]
 cases h with
 | nil=>exact ⟨none,0,by rw [hl];rfl,fun j hj=>by have:=List.map_eq_nil_iff.1 hes;subst this;simp at hj⟩
 | emp A c hm=>exact ⟨A,c,by rw [hl];rfl,fun j hj=>by have:=List.map_eq_nil_iff.1 hes;subst this;simp at hj⟩
 | sl b off c sz es g hF hc hm hz hg hr =>
  refine ⟨some ⟨b,off,none⟩,c,by rw [hl],fun j hj=>⟨b,off,rfl,hfz b hF,?_⟩⟩
  have h1:es[j]? = some [DV.v (.int .i64 xs[j])]:=by rw [← hes];simp [hj]
  have h3:sz=1:=by rw [← hz j _ h1];rfl
  subst h3
  have h4:=hg j _ 0 _ h1 rfl
  have h5:=hr j _ 0 _ h1 rfl
  rw [Nat.mul_one,Nat.add_zero] at h4
  rw [h4,List.getElem?_eq_getElem hj]
  generalize g j 0=y at h5
  cases h5;rfl
theorem aSf {xs:List Int} (hx:xs.length≤1048576):FnC Tryz.prog 212 [] [.fn 214 [.ref [.sl (xs.map fun x=>[DV.v (.int .i64 x)])]]] [.live [⟨2,1, .data (xs.map fun x=>[DV.v (.int .i64 x)])⟩]] (.own 0 0 xs.length):=by
 refine ⟨by kernel_rfl,fun w F μ us gl H hs hus => ?_⟩
 obtain ⟨u0,rfl⟩ : ∃ u0,us = #[u0]:=by
  obtain ⟨l⟩:=us
  match l,hs with
  | [a],_=>exact ⟨a,rfl⟩
 have h1:=hus 0 u0 _ rfl rfl
 cases h1 with | fn g vs cs hsz hrr =>
 obtain ⟨s0,rfl⟩ : ∃ s0,vs = #[s0]:=by
  obtain ⟨l⟩:=vs
  match l,hsz with
  | [a],_=>exact ⟨a,rfl⟩
 have h2:=hrr 0 s0 _ rfl rfl
 cases h2 with | ref b off cs g hF hg hr =>
 have h3:=hg 0 _ rfl
 have h4:=hr 0 _ rfl
 obtain ⟨A,c,hv,hA⟩:=aY1 H.fz h4
 rw [Nat.add_zero,hv] at h3
 refine (aHq b off c A xs hx w (H.fz b hF) h3 hA).mono ?_
 rintro e w' ⟨v,rfl,⟨hrl,hrow⟩,hnil,hb⟩
 have hup : ∀ s s':fA,upd (upd (lks []) 0 s) 0 s'=lks [s']:=fun s s'=>by
  funext k
  cases k with
  | zero=>simp [upd,lks]
  | succ k=>rfl
 have hup1 : ∀ s:fA,upd (lks []) 0 s=lks [s]:=fun s=>by
  funext k
  cases k with
  | zero=>simp [upd,lks]
  | succ k=>rfl
 rcases hrow with ⟨rfl,h0⟩ | ⟨gb,cc,cur,rfl,hbase,hgb,r1,r2,r3,r4⟩
 ·have hxs:xs=[]:=List.eq_nil_of_length_eq_zero h0
  subst hxs
  obtain ⟨H1,V1⟩:=(H.of_below hb).adopt 0 rfl ⟨2,1, .data []⟩ rfl
  rw [hup1] at H1
  refine ⟨_,F,uH μ 0 0 none,rfl,H1, .own _ _ _ _ rfl (by simp [lks]) fun o ho => ?_⟩
  simp [lv,lks] at ho
  subst ho
  exact ⟨by simp [aX.len],fun _ => .inl ⟨cE _ _ _ _,rfl,rfl⟩⟩
 ·have hne:xs≠[]:=fun e=>by have:=hnil.2 e;cases this
  have hpos:0<xs.length:=by cases xs;exact absurd rfl hne;simp
  obtain ⟨H1,V1⟩:=H.adopt 0 rfl ⟨2,1, .data []⟩ rfl
  have hput:=H1.put (w':=w') (k:=0) (f:=0) (l:=[⟨2,1, .data []⟩]) (o:=⟨2,1, .data []⟩) (by simp [upd]) rfl (o':=⟨2,1, .data (xs.map fun x=>[DV.v (.int .i64 x)])⟩) gb cur hb.size hb.os hb.tape hb.output (fun b' hb' _=>hb.block b' hb') (.inr hbase) (Array.getElem?_eq_some_iff.1 hgb).1 hgb
   (.inl (by simp [aX.len];omega)) (fun i cells hi=>by
    simp only [aX.get,List.getElem?_map,Option.map_map,Option.map_eq_some_iff] at hi
    obtain ⟨x,hxi,rfl⟩:=hi
    refine ⟨rfl,fun j cj hj => ?_⟩
    match j with
    | 0 =>
     simp at hj
     subst hj
     have hi':i<xs.length:=(List.getElem?_eq_some_iff.1 hxi).1
     have:=congrArg (·[i]?) r4
     simp only [Nat.mul_one,List.getElem?_take_of_lt hi',List.getElem?_map,hxi,Array.getElem?_toList] at this
     exact ⟨.int .i64 x,by simpa using this, .d _ _ (.v _ rfl)⟩
    | j+1=>simp at hj)
  refine ⟨_,F,uH (uH μ 0 0 none) 0 0 (some gb),rfl,?_, .own _ _ _ _ rfl (by simp [lks]) fun o ho => ?_⟩
  ·have:=hput.1
   rw [List.set_cons_zero,hup] at this
   exact this
  ·simp [lv,lks] at ho
   subst ho
   exact ⟨by simp [aX.len],fun _ => .inr ⟨gb,cc,cur,cE _ _ _ _,rfl,hgb,r3,r1,r2⟩⟩
end Go.Proofs.YtbliejnpjpnahaaGreatDoor
namespace Go.Proofs.YtbliejnpjpnahaaGreatDoor
open Go.RowKit
set_option linter.unusedVariables false
set_option maxRecDepth 100000
set_option maxHeartbeats 2000000
abbrev lH (x:cH):List AV:=[dS x.Movement.Name,(dL aF x.Movement.Works.Arbors),(dL bH x.Movement.Works.Meshes),(dI x.Movement.Minute),(dI x.Movement.Hour),(dI x.Movement.Escape),(dI x.Movement.Teeth),(dI x.Movement.Beats),(dS x.Movement.Calendar.Name),(dL aW x.Movement.Calendar.Months),(dL aM x.Movement.Calendar.Rules),(dI x.Movement.Calendar.Week),(dL cI x.Movement.Cam),(dI x.Movement.Strike),(dI x.Start.Year),(dI x.Start.Month),(dI x.Start.Day),(dI x.First),(dI x.Clock),(dL cI x.Dial.Cam),(dI x.Dial.Months),(dI x.Dial.Teeth),(dI x.Dial.At),(dI x.Dial.Day),(dI x.Dial.Week),(dI x.Dial.Weekday)]
abbrev kG (x:cH) (k0 k1 k2 k3 k4 k5:Nat):List AV:=[dS x.Movement.Name, .own k0 0 x.Movement.Works.Arbors.length, .own k1 0 x.Movement.Works.Meshes.length,(dI x.Movement.Minute),(dI x.Movement.Hour),(dI x.Movement.Escape),(dI x.Movement.Teeth),(dI x.Movement.Beats),(dS x.Movement.Calendar.Name), .own k2 0 x.Movement.Calendar.Months.length, .own k3 0 x.Movement.Calendar.Rules.length,(dI x.Movement.Calendar.Week), .own k4 0 x.Movement.Cam.length,(dI x.Movement.Strike),(dI x.Start.Year),(dI x.Start.Month),(dI x.Start.Day),(dI x.First),(dI x.Clock), .own k5 0 x.Dial.Cam.length,(dI x.Dial.Months),(dI x.Dial.Teeth),(dI x.Dial.At),(dI x.Dial.Day),(dI x.Dial.Week),(dI x.Dial.Weekday)]
abbrev cX (x:aG):List AV:=[dS x.Name,(dL aF x.Works.Arbors),(dL bH x.Works.Meshes),(dI x.Minute),(dI x.Hour),(dI x.Escape),(dI x.Teeth),(dI x.Beats),(dS x.Calendar.Name),(dL aW x.Calendar.Months),(dL aM x.Calendar.Rules),(dI x.Calendar.Week),(dL cI x.Cam),(dI x.Strike)]
abbrev aD9 (x:aG) (k0 k1 k2 k3 k4:Nat):List AV:=[dS x.Name, .own k0 0 x.Works.Arbors.length, .own k1 0 x.Works.Meshes.length,(dI x.Minute),(dI x.Hour),(dI x.Escape),(dI x.Teeth),(dI x.Beats),(dS x.Calendar.Name), .own k2 0 x.Calendar.Months.length, .own k3 0 x.Calendar.Rules.length,(dI x.Calendar.Week), .own k4 0 x.Cam.length,(dI x.Strike)]
abbrev xW (x:fS):List AV:=[dS x.word,(dL cI x.numbers),(dI x.ratio.Num),(dI x.ratio.Den),(dI x.date.Year),(dI x.date.Month),(dI x.date.Day),(dS x.text)]
abbrev aP2 (x:fS) (k0:Nat):List AV:=[dS x.word, .own k0 0 x.numbers.length,(dI x.ratio.Num),(dI x.ratio.Den),(dI x.date.Year),(dI x.date.Month),(dI x.date.Day),(dS x.text)]
abbrev cJ (x:aD):List AV:=[dL cI x.Cam,(dI x.Months),(dI x.Teeth),(dI x.At),(dI x.Day),(dI x.Week),(dI x.Weekday)]
abbrev sP (x:aD) (k0:Nat):List AV:=[.own k0 0 x.Cam.length,(dI x.Months),(dI x.Teeth),(dI x.At),(dI x.Day),(dI x.Week),(dI x.Weekday)]
abbrev zV (x:qX):List AV:=[dI x.LowDriver,(dI x.HighDriver),(dI x.LowDriven),(dI x.HighDriven),(dI x.Stages)]
abbrev aJ (x:aC):List AV:=[dS x.Name,(dL aW x.Months),(dL aM x.Rules),(dI x.Week)]
abbrev aL0 (x:aC) (k0 k1:Nat):List AV:=[dS x.Name, .own k0 0 x.Months.length, .own k1 0 x.Rules.length,(dI x.Week)]
abbrev aU6 (x:fT):List AV:=[dI x.Year,(dI x.Month),(dI x.Shown),(dI x.Right)]
abbrev oE (x:bM):List AV:=[dI x.A,(dI x.WheelA),(dI x.B),(dI x.WheelB)]
abbrev jL (x:eM):List AV:=[dL cU8 x.code,(dI x.at_), .d (.v (.int .u64 x.seed))]
abbrev dV (x:aS):List AV:=[dI x.Year,(dI x.Month),(dI x.Day)]
abbrev aHj (x:aY):List AV:=[dS x.Name,(dI x.Days),(dI x.Leap)]
abbrev qZ (x:uJ):List AV:=[dI x.p,(dI x.q),(dI x.far)]
abbrev aHi (x:aCb):List AV:=[dL eD x.Train,(dI x.Error.Num),(dI x.Error.Den)]
abbrev bFt:List AV:=[zl,z0, .d (.v (.int .u64 0))]
abbrev aXh:List AV:=[ze,z0,z0]
abbrev aU0:List AV:=[ze,zl,zl,z0]
abbrev bAn:List AV:=[z0,z0,(dB false)]
abbrev aVc:List AV:=[z0,z0,z0,z0]
abbrev xX:List AV:=[z0,z0,z0]
abbrev bAo:List AV:=[zl,z0,z0]
abbrev aRo:List AV:=[ze,zl,zl,z0,z0,z0,z0,z0,ze,zl,zl,z0,zl,z0]
abbrev bFg:List AV:=[z0,z0,z0,z0,z0]
abbrev aC7:List AV:=[zl,z0,z0,z0,z0,z0,z0]
abbrev fX:List AV:=[ze,zl,zl,z0,z0,z0,z0,z0,ze,zl,zl,z0,zl,z0,z0,z0,z0,z0,z0,zl,z0,z0,z0,z0,z0,z0]
abbrev aJo:List AV:=[ze,zl,z0,z0,z0,z0,z0,ze]
theorem aSj:Tryz.prog.eqGuardType Tryz.prog.depth 147=false:=by kernel_rfl
theorem aI0 {x y:Operand} (a b:bM) (w:World):(do eqGuard .eql 147 x y (.agg #[.int .i64 a.A, .int .i64 a.WheelA, .int .i64 a.B, .int .i64 a.WheelB]) (.agg #[.int .i64 b.A, .int .i64 b.WheelA, .int .i64 b.B, .int .i64 b.WheelB]);binOp .eql 147 (.agg #[.int .i64 a.A, .int .i64 a.WheelA, .int .i64 a.B, .int .i64 a.WheelB]) (.agg #[.int .i64 b.A, .int .i64 b.WheelA, .int .i64 b.B, .int .i64 b.WheelB]):Sem Value).run Tryz.prog w = .ok (.bool (decide (a=b))) w:=by
 have g:(eqGuard .eql 147 x y (.agg #[.int .i64 a.A, .int .i64 a.WheelA, .int .i64 a.B, .int .i64 a.WheelB]) (.agg #[.int .i64 b.A, .int .i64 b.WheelA, .int .i64 b.B, .int .i64 b.WheelB])).run Tryz.prog w = .ok () w:=by simp [eqGuard,aSj]
 rw [Sem.run_bind,g,Result.andThen_ok]
 obtain ⟨x0,x1,x2,x3⟩:=a
 obtain ⟨y0,y1,y2,y3⟩:=b
 simp [go_sem]
 (repeat' split) <;> simp_all [aEd]
theorem xI {N:Nat} {t:Nat→AV} {h:dG} {d:Tmp} {ty:TypeId} {pos:String} {aft:Array Edge} {g:Option (Nat × Bool)} {x y:Operand} {a b:bM} (hx:toV (evA N ⟨t,h⟩ x)=some (.agg #[.int .i64 a.A, .int .i64 a.WheelA, .int .i64 a.B, .int .i64 a.WheelB])) (hy:toV (evA N ⟨t,h⟩ y)=some (.agg #[.int .i64 b.A, .int .i64 b.WheelA, .int .i64 b.B, .int .i64 b.WheelB])):eC Tryz.prog N ⟨some d, .binOp .eql 147 x y 147,ty,pos,aft,g⟩ ⟨t,h⟩ (dB (decide (a=b))):=lU hx hy (fun w=>aI0 a b w)
theorem aGx:Tryz.prog.eqGuardType Tryz.prog.depth 92=false:=by kernel_rfl
theorem aGk {x y:Operand} (a b:aB) (w:World):(do eqGuard .eql 92 x y (.agg #[.int .i64 a.Num, .int .i64 a.Den]) (.agg #[.int .i64 b.Num, .int .i64 b.Den]);binOp .eql 92 (.agg #[.int .i64 a.Num, .int .i64 a.Den]) (.agg #[.int .i64 b.Num, .int .i64 b.Den]):Sem Value).run Tryz.prog w = .ok (.bool (decide (a=b))) w:=by
 have g:(eqGuard .eql 92 x y (.agg #[.int .i64 a.Num, .int .i64 a.Den]) (.agg #[.int .i64 b.Num, .int .i64 b.Den])).run Tryz.prog w = .ok () w:=by simp [eqGuard,aGx]
 rw [Sem.run_bind,g,Result.andThen_ok]
 obtain ⟨x0,x1⟩:=a
 obtain ⟨y0,y1⟩:=b
 simp [go_sem]
 (repeat' split) <;> simp_all [aEd]
theorem aIv {N:Nat} {t:Nat→AV} {h:dG} {d:Tmp} {ty:TypeId} {pos:String} {aft:Array Edge} {g:Option (Nat × Bool)} {x y:Operand} {a b:aB} (hx:toV (evA N ⟨t,h⟩ x)=some (.agg #[.int .i64 a.Num, .int .i64 a.Den])) (hy:toV (evA N ⟨t,h⟩ y)=some (.agg #[.int .i64 b.Num, .int .i64 b.Den])):eC Tryz.prog N ⟨some d, .binOp .eql 92 x y 92,ty,pos,aft,g⟩ ⟨t,h⟩ (dB (decide (a=b))):=lU hx hy (fun w=>aGk a b w)
theorem aGl {x y:Operand} (a b:aB) (w:World):(do eqGuard .neq 92 x y (.agg #[.int .i64 a.Num, .int .i64 a.Den]) (.agg #[.int .i64 b.Num, .int .i64 b.Den]);binOp .neq 92 (.agg #[.int .i64 a.Num, .int .i64 a.Den]) (.agg #[.int .i64 b.Num, .int .i64 b.Den]):Sem Value).run Tryz.prog w = .ok (.bool (decide (a≠b))) w:=by
 have g:(eqGuard .neq 92 x y (.agg #[.int .i64 a.Num, .int .i64 a.Den]) (.agg #[.int .i64 b.Num, .int .i64 b.Den])).run Tryz.prog w = .ok () w:=by simp [eqGuard,aGx]
 rw [Sem.run_bind,g,Result.andThen_ok]
 obtain ⟨x0,x1⟩:=a
 obtain ⟨y0,y1⟩:=b
 simp [go_sem]
 (repeat' split) <;> simp_all [aEd]
theorem vN {N:Nat} {t:Nat→AV} {h:dG} {d:Tmp} {ty:TypeId} {pos:String} {aft:Array Edge} {g:Option (Nat × Bool)} {x y:Operand} {a b:aB} (hx:toV (evA N ⟨t,h⟩ x)=some (.agg #[.int .i64 a.Num, .int .i64 a.Den])) (hy:toV (evA N ⟨t,h⟩ y)=some (.agg #[.int .i64 b.Num, .int .i64 b.Den])):eC Tryz.prog N ⟨some d, .binOp .neq 92 x y 92,ty,pos,aft,g⟩ ⟨t,h⟩ (dB (decide (a≠b))):=lU hx hy (fun w=>aGl a b w)
theorem aKe {p0:List Int} {r:Bool} (h0:sV p0=some r):FnC Tryz.prog 4 [] [dL cU8 p0,zl] [] (dB r):=by
 refine fi 13 tok Tryz.func4 ?_
 unfold sV at h0
 refine au 8 ?_
 refine rif 8 h0 ?_ ?_ <;> intro hc h0
 refine au 7 ?_
 cases h0
 exact r0t 4 rfl
 refine pm1 ?_
 refine rp rfl (w1 rfl rfl rfl) rfl (aQ2 tok rfl rfl rfl) (au 5 ?_)
 cases h0
 exact r0t 4 rfl
theorem aNl {p0:List Int} {r:eM} (h0:vQ p0=some r):FnC Tryz.prog 11 [] [dL cU8 p0] [(slB 81 3 (jL r))] (bA 0):=by
 refine fi 6 tok Tryz.func11 ?_
 unfold vQ at h0
 refine au 5 ?_
 refine rpb tok bFt ?_
 refine bxx 3 ?_
 refine au 3 ?_
 cases h0
 exact bV (rs:=[.tmp 2]) [3] rfl
theorem xG {p0:eM} {r:Int × eM} (h0:iW p0=some r):FnC Tryz.prog 30 [(slB 81 3 (jL p0))] [bA 0] [(slB 81 3 (jL r.2))] (dI r.1):=by
 refine fi 62 tok Tryz.func30 ?_
 unfold iW at h0
 refine au 6 ?_
 obtain ⟨v2,h1,h0⟩:=bnd h0
 refine aN ⟨aA (aA aH 0 (bA 0)) 3 (dI v2),lks [(slB 81 3 (jL p0)), .no, .no]⟩ ?_ ?_
 refine au 14 ?_
 refine aif h1 ?_ ?_ <;> intro hc h1
 refine au 9 ?_
 obtain ⟨v1,hv1,h1⟩:=bnd h1
 refine tP rfl (bS tok hv1 rfl rfl rfl rfl rfl rfl) (au 1 ?_)
 refine tP rfl (aNh tok rfl rfl rfl rfl rfl) (au 3 ?_)
 cases h1
 exact wk [0,1,2]
 refine sk ?_
 cases h1
 exact wk [0,1,2]
 refine au 16 ?_
 refine rP rfl (aTw rfl rfl) (pm ?_)
 refine rP rfl (aNe tok rfl rfl rfl rfl rfl) (rP rfl (aNc rfl rfl) (rP rfl (aNc rfl rfl) (au 19 ?_)))
 refine aif h0 ?_ ?_ <;> intro hc h0
 refine au 6 ?_
 cases h0
 exact nZ (rs:=[.tmp 2]) 1 rfl rfl
 refine au 6 ?_
 refine rP rfl (aX2 rfl rfl (by decide)) (rP rfl (bBn rfl rfl) (rP rfl (aNh tok rfl rfl rfl rfl rfl) (au 3 ?_)))
 cases h0
 exact nZ (rs:=[.tmp 2]) 1 rfl rfl
theorem rT {p0:eM} {p1:Int} {r:Int × eM} (h0:gT p0 p1=some r):FnC Tryz.prog 12 [(slB 81 3 (jL p0))] [bA 0,(dI p1)] [(slB 81 3 (jL r.2))] (dI r.1):=by
 refine fi 20 tok Tryz.func12 ?_
 unfold gT at h0
 refine au 8 ?_
 refine aif h0 ?_ ?_ <;> intro hc h0
 refine au 5 ?_
 cases h0
 exact nZ (rs:=[.tmp 4]) 1 rfl rfl
 refine au 3 ?_
 obtain ⟨v1,hv1,h0⟩:=bnd h0
 refine rw1 rfl w0 rfl (eS [0] 300 (xG hv1) rfl rfl) (au 2 ?_)
 obtain ⟨v3,h1,h0⟩:=bnd h0
 refine aN ⟨aA (aA aH 1 (dI p1)) 5 (dI v3.1),lks [(slB 81 3 (jL v3.2)), .no, .no]⟩ ?_ ?_
 refine au 4 ?_
 refine aif h1 ?_ ?_ <;> intro hc h1
 refine au 4 ?_
 obtain ⟨v2,hv2,h1⟩:=bnd h1
 refine rw1 rfl w0 rfl (eS [0] 300 (xG hv2) rfl rfl) (au 3 ?_)
 cases h1
 exact wk [0,1,2]
 refine sk ?_
 cases h1
 exact wk [0,1,2]
 refine au 3 ?_
 obtain ⟨hq4,h0⟩:=aT h0
 refine rP rfl (eW rfl rfl hq4) (au 3 ?_)
 cases h0
 exact nZ (rs:=[.tmp 4]) 1 rfl rfl
theorem eU {p0:eM} {p1:List ByteArray} {r:ByteArray × eM} (h0:dJ p0 p1=some r):FnC Tryz.prog 31 [(slB 81 3 (jL p0))] [bA 0,(dL cS p1)] [(slB 81 3 (jL r.2))] (dS r.1):=by
 refine fi 12 tok Tryz.func31 ?_
 unfold dJ at h0
 refine au 8 ?_
 obtain ⟨v1,hv1,h0⟩:=bnd h0
 refine rw1 rfl w0 rfl (eS [0] 300 (rT hv1) rfl rfl) ?_
 obtain ⟨v2,hv2,h0⟩:=bnd h0
 refine rP rfl (bS tok hv2 rfl rfl rfl rfl rfl rfl) (au 4 ?_)
 cases h0
 exact nZ (rs:=[.tmp 4]) 1 rfl rfl
theorem aJc {p0:eM} {r:ByteArray × eM} (h0:nR p0=some r):FnC Tryz.prog 13 [(slB 81 3 (jL p0))] [bA 0] [(slB 81 3 (jL r.2))] (dS r.1):=by
 refine fi 48 tok Tryz.func13 ?_
 unfold nR at h0
 refine au 6 ?_
 obtain ⟨v1,hv1,h0⟩:=bnd h0
 refine rw1 rfl w0 rfl (eS [0] 300 (rT hv1) rfl rfl) (au 6 ?_)
 refine aif h0 ?_ ?_ <;> intro hc h0
 refine au 2 ?_
 refine bsv tok cS [(⟨#[114,117,110,32,56,54,52,48,48]⟩:ByteArray),(⟨#[114,117,110,32,51,54,48,48]⟩:ByteArray),(⟨#[114,117,110,32,49]⟩:ByteArray),(⟨#[114,117,110,32,51,48,48,48,48,48,48]⟩:ByteArray),(⟨#[114,117,110,32,45,49]⟩:ByteArray),(⟨#[114,117,110,32,120]⟩:ByteArray),(⟨#[114,117,110,32,53,48,48,48,48]⟩:ByteArray)] ?_
 obtain ⟨v2,hv2,h0⟩:=bnd h0
 refine rw1 rfl w0 rfl (eS [0] 300 (eU hv2) rfl rfl) (au 5 ?_)
 cases h0
 exact nZ (rs:=[.tmp 2]) 1 rfl rfl
 refine au 4 ?_
 refine aif h0 ?_ ?_ <;> intro hc h0
 refine au 2 ?_
 refine bsv tok cS [(⟨#[100,101,115,105,103,110,32,49,56,48,48,48,32,49,53,32,106,117,108,105,97,110,32,52]⟩:ByteArray),(⟨#[100,101,115,105,103,110,32,51,54,48,48,32,51,48,32,102,105,120,101,100,32,49]⟩:ByteArray),(⟨#[100,101,115,105,103,110,32,51,57,54,49,32,51,48,32,106,117,108,105,97,110,32,49]⟩:ByteArray),(⟨#[100,101,115,105,103,110,32,55,50,48,48,32,49,53,32,110,111,110,101,32,49]⟩:ByteArray),(⟨#[100,101,115,105,103,110,32,120,32,49,53,32,106,117,108,105,97,110,32,49]⟩:ByteArray),(⟨#[100,101,115,105,103,110,32,51,54,48,48,32,51,48,32,101,103,121,112,116,105,97,110,32,48]⟩:ByteArray)] ?_
 obtain ⟨v3,hv3,h0⟩:=bnd h0
 refine rw1 rfl w0 rfl (eS [0] 300 (eU hv3) rfl rfl) (au 5 ?_)
 cases h0
 exact nZ (rs:=[.tmp 2]) 1 rfl rfl
 refine au 4 ?_
 refine aif h0 ?_ ?_ <;> intro hc h0
 refine au 2 ?_
 refine bsv tok cS [(⟨#[115,101,116,32,50,49,48,48,45,50,45,50,55,32,49]⟩:ByteArray),(⟨#[115,101,116,32,50,48,50,52,45,50,45,50,56,32,55]⟩:ByteArray),(⟨#[115,101,116,32,50,48,50,51,45,50,45,50,57,32,49]⟩:ByteArray),(⟨#[115,101,116,32,50,48,50,52,45,50,45,50,56,32,56]⟩:ByteArray),(⟨#[115,101,116,32,120,32,49]⟩:ByteArray),(⟨#[115,101,116,32,49,45,49,45,49,32,49]⟩:ByteArray)] ?_
 obtain ⟨v4,hv4,h0⟩:=bnd h0
 refine rw1 rfl w0 rfl (eS [0] 300 (eU hv4) rfl rfl) (au 5 ?_)
 cases h0
 exact nZ (rs:=[.tmp 2]) 1 rfl rfl
 refine au 4 ?_
 refine aif h0 ?_ ?_ <;> intro hc h0
 refine au 2 ?_
 refine bsv tok cS [(⟨#[112,117,115,104,32,49]⟩:ByteArray),(⟨#[112,117,115,104,32,50]⟩:ByteArray),(⟨#[112,117,115,104,32,51]⟩:ByteArray),(⟨#[112,117,115,104,32,52]⟩:ByteArray),(⟨#[99,111,114,114,101,99,116]⟩:ByteArray),(⟨#[99,111,114,114,101,99,116]⟩:ByteArray),(⟨#[114,105,103,104,116]⟩:ByteArray)] ?_
 obtain ⟨v5,hv5,h0⟩:=bnd h0
 refine rw1 rfl w0 rfl (eS [0] 300 (eU hv5) rfl rfl) (au 5 ?_)
 cases h0
 exact nZ (rs:=[.tmp 2]) 1 rfl rfl
 refine au 4 ?_
 refine aif h0 ?_ ?_ <;> intro hc h0
 refine au 2 ?_
 refine bsv tok cS [(⟨#[115,104,111,119]⟩:ByteArray),(⟨#[104,97,110,100,115]⟩:ByteArray),(⟨#[112,97,114,116,115]⟩:ByteArray),(⟨#[115,112,101,101,100,115]⟩:ByteArray),(⟨#[114,105,103,104,116]⟩:ByteArray)] ?_
 obtain ⟨v6,hv6,h0⟩:=bnd h0
 refine rw1 rfl w0 rfl (eS [0] 300 (eU hv6) rfl rfl) (au 5 ?_)
 cases h0
 exact nZ (rs:=[.tmp 2]) 1 rfl rfl
 refine au 4 ?_
 refine aif h0 ?_ ?_ <;> intro hc h0
 refine au 2 ?_
 refine bsv tok cS [(⟨#[102,97,117,108,116,115,32,49,56,57,48,32,49,57,49,48]⟩:ByteArray),(⟨#[102,97,117,108,116,115,32,48,32,51]⟩:ByteArray),(⟨#[102,97,117,108,116,115,32,53,32,49]⟩:ByteArray),(⟨#[102,97,117,108,116,115,32,48,32,57,57,57,57]⟩:ByteArray),(⟨#[119,114,111,110,103,32,51,48,48,48]⟩:ByteArray),(⟨#[119,114,111,110,103,32,52,48,48,48,48]⟩:ByteArray),(⟨#[119,114,111,110,103,32,45,49]⟩:ByteArray)] ?_
 obtain ⟨v7,hv7,h0⟩:=bnd h0
 refine rw1 rfl w0 rfl (eS [0] 300 (eU hv7) rfl rfl) (au 5 ?_)
 cases h0
 exact nZ (rs:=[.tmp 2]) 1 rfl rfl
 refine au 4 ?_
 refine aif h0 ?_ ?_ <;> intro hc h0
 refine au 2 ?_
 refine bsv tok cS [(⟨#[110,101,97,114,32,51,54,53,47,50,52,32,53]⟩:ByteArray),(⟨#[110,101,97,114,32,45,49,47,51,32,48]⟩:ByteArray),(⟨#[116,101,114,109,115,32,51,54,53,47,50,52]⟩:ByteArray),(⟨#[116,101,114,109,115,32,45,53,47,51]⟩:ByteArray),(⟨#[112,97,116,104,32,53,47,50]⟩:ByteArray),(⟨#[112,97,116,104,32,48]⟩:ByteArray),(⟨#[112,97,116,104,32,51,48,48]⟩:ByteArray),(⟨#[116,101,114,109,115,32,50,47,52]⟩:ByteArray),(⟨#[110,101,97,114,32,120,32,49]⟩:ByteArray)] ?_
 obtain ⟨v8,hv8,h0⟩:=bnd h0
 refine rw1 rfl w0 rfl (eS [0] 300 (eU hv8) rfl rfl) (au 5 ?_)
 cases h0
 exact nZ (rs:=[.tmp 2]) 1 rfl rfl
 refine au 4 ?_
 refine aif h0 ?_ ?_ <;> intro hc h0
 refine au 2 ?_
 refine bsv tok cS [(⟨#[116,114,97,105,110,32,49,50,32,51,48,32,51,54,32,56,32,49,50,32,50]⟩:ByteArray),(⟨#[116,114,97,105,110,32,50,57,47,49,50,32,50,48,32,52,48,32,56,32,49,50,32,49]⟩:ByteArray),(⟨#[116,114,97,105,110,32,49,32,53,32,54,32,55,32,56,32,49]⟩:ByteArray),(⟨#[116,114,97,105,110,32,48,32,51,48,32,51,54,32,56,32,49,50,32,49]⟩:ByteArray),(⟨#[116,114,97,105,110,32,120,32,49,32,50,32,51,32,52,32,53]⟩:ByteArray)] ?_
 obtain ⟨v9,hv9,h0⟩:=bnd h0
 refine rw1 rfl w0 rfl (eS [0] 300 (eU hv9) rfl rfl) (au 5 ?_)
 cases h0
 exact nZ (rs:=[.tmp 2]) 1 rfl rfl
 refine au 5 ?_
 refine bsv tok cS [(⟨#[]⟩:ByteArray),(⟨#[102,111,111]⟩:ByteArray),(⟨#[115,104,111,119,32,49]⟩:ByteArray),(⟨#[114,117,110]⟩:ByteArray),(⟨#[116,114,97,105,110,32,49,50,32,51,48,32,51,54,32,56,32,49,50]⟩:ByteArray),(⟨#[115,101,116,32,50,48,48,48,45,49,45,49]⟩:ByteArray),(⟨#[110,101,97,114,32,49]⟩:ByteArray)] ?_
 obtain ⟨v10,hv10,h0⟩:=bnd h0
 refine rw1 rfl w0 rfl (eS [0] 300 (eU hv10) rfl rfl) (au 3 ?_)
 cases h0
 exact nZ (rs:=[.tmp 2]) 1 rfl rfl
theorem aNk {p0:List Int} {r:List ByteArray} (h0:rY p0=some r):FnC Tryz.prog 5 [] [dL cU8 p0] [slD 9 1 cS r] (bI 0 r):=by
 refine fi 22 tok Tryz.func5 ?_
 unfold rY at h0
 refine au 5 ?_
 obtain ⟨v1,hv1,h0⟩:=bnd h0
 refine cll 3 (aNl hv1) ?_
 refine au 3 ?_
 refine rS rfl (kR 4 tok rfl rfl rfl rfl) (au 2 ?_)
 obtain ⟨v9,h1,h0⟩:=bnd h0
 refine aN ⟨aA aH 4 (bI 3 v9),lk3 [slD 9 1 cS v9]⟩ ?_ ?_
 refine au 2 ?_
 obtain ⟨v2,hv2,h1⟩:=bnd h1
 refine rw1 rfl w0 rfl (eS [3] 300 (rT hv2) rfl rfl) (au 4 ?_)
 refine aK (fun s6=>⟨aA (aA (aA aH 3 (bA 3)) 4 (bI 4 s6.2.2)) 5 (dI s6.1),lk3 [(slB 81 3 (jL s6.2.1)),slD 9 1 cS s6.2.2]⟩) h1 ?_ (fun s6 y h2 => ?_)
 exact wk [0,1,2,3,4]
 refine au 5 ?_
 refine aif h2 ?_ ?_ <;> intro hc h2
 refine au 6 ?_
 obtain ⟨v7,hv7,h2⟩:=bnd h2
 refine rw1 rfl w0 rfl (eS [3] 300 (aJc hv7) rfl rfl) (bsv tok cS [v7.1] ?_)
 obtain ⟨hq8,h2⟩:=aT h2
 refine rw1 rfl w0 rfl (fJ tok hq8 rfl rfl rfl rfl rfl rfl rfl rfl rfl rfl rfl rfl (fun _=>rfl)) (au 9 ?_)
 refine bD ?_
 cases h2
 refine ⟨_,rfl,?_⟩
 exact wk [0,1,2,3,4]
 refine au 2 ?_
 cases h2
 refine lpx fun e => ?_
 subst e
 refine au 2 ?_
 exact wk [0,1,2,4]
 refine au 5 ?_
 cases h0
 exact bV (rs:=[.tmp 2]) [3] rfl
theorem zR {p0 p1:Int} {r:ByteArray} (h0:mG p0 p1=some r):FnC Tryz.prog 107 [] [dI p0,(dI p1)] [] (dS r):=by
 obtain ⟨⟨q0,q1,q2⟩,h0⟩:=aT h0
 cases h0
 subst q2
 exact bB8 q0 q1
theorem bN {p0:Int} {r:ByteArray} (h0:bC p0=some r):FnC Tryz.prog 51 [] [dI p0] [] (dS r):=by
 refine fi 5 tok Tryz.func51 ?_
 unfold bC at h0
 refine au 5 ?_
 obtain ⟨v1,hv1,h0⟩:=bnd h0
 refine cll 3 (zR hv1) ?_
 refine au 3 ?_
 cases h0
 exact r0t 2 rfl
theorem aCp {p0:Int} {p1:Int} {r:List aY} (h0:sU p0 p1=some r):FnC Tryz.prog 59 [] [dI p0,(dI p1)] [slD 127 3 aW r] (bI 0 r):=by
 refine fi 22 tok Tryz.func59 ?_
 unfold sU at h0
 refine au 6 ?_
 obtain ⟨v9,h1,h0⟩:=bnd h0
 refine aN ⟨aA aH 5 (bI 3 v9),lk3 [slD 127 3 aW v9]⟩ ?_ ?_
 refine au 4 ?_
 refine aK (fun s5=>⟨aA (aA (aA (aA aH 0 (dI p0)) 1 (dI p1)) 5 (bI 3 s5.2)) 6 (dI s5.1),lk3 [slD 127 3 aW s5.2]⟩) h1 ?_ (fun s5 y h2 => ?_)
 refine lJ.trans_ (aR 3 rfl 127 3 (d:=5) rfl) ?_
 exact wk [0,1,2,3]
 refine au 6 ?_
 refine aif h2 ?_ ?_ <;> intro hc h2
 refine au 6 ?_
 obtain ⟨v6,hv6,h2⟩:=bnd h2
 refine cll 4 (bN hv6) ?_
 obtain ⟨hq7,h2⟩:=aT h2
 refine rP rfl (dK rfl rfl hq7) (au 2 ?_)
 refine rpb tok aXh ?_
 refine bsv tok aW [(⟨(⟨#[109]⟩:ByteArray)++v6,p1,p1⟩:aY)] ?_
 obtain ⟨hq8,h2⟩:=aT h2
 refine rw1 rfl w0 rfl (fJ tok hq8 rfl rfl rfl rfl rfl rfl rfl rfl rfl rfl rfl rfl (fun _=>rfl)) (au 9 ?_)
 refine bD ?_
 cases h2
 refine ⟨_,rfl,?_⟩
 exact wk [0,1,2,3]
 refine au 2 ?_
 cases h2
 refine lpx fun e => ?_
 subst e
 refine au 2 ?_
 exact wk [0,1,2,3]
 refine au 5 ?_
 cases h0
 exact bV (rs:=[.tmp 4]) [3] rfl
theorem aBo {p0:ByteArray} {r:aC × Int} (h0:oI p0=some r):FnC Tryz.prog 32 [] [dS p0] [(slD 127 3 aW r.1.Months),slD 129 3 aM r.1.Rules] (.tup [.agg (aL0 r.1 0 1),(dI r.2)]):=by
 refine fi 69 tok Tryz.func32 ?_
 unfold oI at h0
 refine au 1 ?_
 refine al 3 aU0 tok ?_
 refine au 4 ?_
 refine rpb tok aU0 ?_
 refine al 4 aU0 tok ?_
 refine au 2 ?_
 obtain ⟨v16x,h1,h0⟩:=bnd h0
 refine cF v16x (fun v16=>⟨aA (aA (aA aH 0 (dS p0)) 2 (bA 3)) 4 (bA 4),lk3 [(slB 33 4 aU0),(slB 33 4 [dS p0,bI 5 v16,zl,(dI 7)]),slD 127 3 aW v16]⟩) ?_ ?_
 refine au 8 ?_
 refine aif h1 ?_ ?_ <;> intro hc h1
 refine au 1 ?_
 obtain ⟨v1,hv1,h1⟩:=bnd h1
 refine cll 5 (aCp hv1) ?_
 refine rpb tok aXh ?_
 refine bsv tok aW [(⟨(⟨#[109,49,51]⟩:ByteArray),5,5⟩:aY)] ?_
 obtain ⟨hq2,h1⟩:=aT h1
 refine rw1 rfl w0 rfl (fJ tok hq2 rfl rfl rfl rfl rfl rfl rfl rfl rfl rfl rfl rfl (fun _=>rfl)) (au 12 ?_)
 refine wa 6 129 3 3 2 ?_
 refine au 2 ?_
 cases h1
 replace h0:=eO h0
 refine au 1 ?_
 cases h0
 exact bV (rs:=[.cell 2 33, .tmp 3]) [5,6] rfl
 refine au 4 ?_
 refine aif h1 ?_ ?_ <;> intro hc h1
 refine au 1 ?_
 obtain ⟨v3,hv3,h1⟩:=bnd h1
 refine cll 5 (aCp hv3) ?_
 refine rpb tok aXh ?_
 refine bsv tok aW [(⟨(⟨#[109,49,51]⟩:ByteArray),29,30⟩:aY)] ?_
 obtain ⟨hq4,h1⟩:=aT h1
 refine rw1 rfl w0 rfl (fJ tok hq4 rfl rfl rfl rfl rfl rfl rfl rfl rfl rfl rfl rfl (fun _=>rfl)) (au 5 ?_)
 cases h1
 refine ⟨_,rfl,?_⟩
 exact wk [0,1,2,3,4,5]
 obtain ⟨v5,h2,h1⟩:=bnd h1
 refine aN ⟨aA (aA (aA (aA aH 0 (dS p0)) 2 (bA 3)) 4 (bA 4)) 28 (dB v5),lk3 [(slB 33 4 aU0),(slB 33 4 [dS p0,zl,zl,(dI 7)])]⟩ ?_ ?_
 refine au 4 ?_
 refine aif h2 ?_ ?_ <;> intro hc h2
 refine sk ?_
 cases h2
 exact wk [0,1,2,3,4]
 refine au 4 ?_
 cases h2
 exact wk [0,1,2,3,4]
 refine aiB h1 ?_ ?_ <;> intro hc h1
 obtain ⟨v14,h2,h1⟩:=bnd h1
 refine aN ⟨aA (aA (aA aH 0 (dS p0)) 2 (bA 3)) 4 (bA 4),lk3 [(slB 33 4 aU0),(slB 33 4 [dS p0,bI 5 v14,zl,(dI 7)]),slD 127 3 aW v14]⟩ ?_ ?_
 refine au 1 ?_
 refine bso 5 tok cS [(⟨#[106,97,110]⟩:ByteArray),(⟨#[102,101,98]⟩:ByteArray),(⟨#[109,97,114]⟩:ByteArray),(⟨#[97,112,114]⟩:ByteArray),(⟨#[109,97,121]⟩:ByteArray),(⟨#[106,117,110]⟩:ByteArray),(⟨#[106,117,108]⟩:ByteArray),(⟨#[97,117,103]⟩:ByteArray),(⟨#[115,101,112]⟩:ByteArray),(⟨#[111,99,116]⟩:ByteArray),(⟨#[110,111,118]⟩:ByteArray),(⟨#[100,101,99]⟩:ByteArray)] ?_
 refine au 4 ?_
 refine aK (fun s10=>⟨aA (aA (aA (aA (aA (aA aH 0 (dS p0)) 2 (bA 3)) 4 (bA 4)) 31 (bI 5 ([(⟨#[106,97,110]⟩:ByteArray),(⟨#[102,101,98]⟩:ByteArray),(⟨#[109,97,114]⟩:ByteArray),(⟨#[97,112,114]⟩:ByteArray),(⟨#[109,97,121]⟩:ByteArray),(⟨#[106,117,110]⟩:ByteArray),(⟨#[106,117,108]⟩:ByteArray),(⟨#[97,117,103]⟩:ByteArray),(⟨#[115,101,112]⟩:ByteArray),(⟨#[111,99,116]⟩:ByteArray),(⟨#[110,111,118]⟩:ByteArray),(⟨#[100,101,99]⟩:ByteArray)]))) 32 (dI ([(⟨#[106,97,110]⟩:ByteArray),(⟨#[102,101,98]⟩:ByteArray),(⟨#[109,97,114]⟩:ByteArray),(⟨#[97,112,114]⟩:ByteArray),(⟨#[109,97,121]⟩:ByteArray),(⟨#[106,117,110]⟩:ByteArray),(⟨#[106,117,108]⟩:ByteArray),(⟨#[97,117,103]⟩:ByteArray),(⟨#[115,101,112]⟩:ByteArray),(⟨#[111,99,116]⟩:ByteArray),(⟨#[110,111,118]⟩:ByteArray),(⟨#[100,101,99]⟩:ByteArray)].length:Int))) 33 (dI s10.1),lk3 [(slB 33 4 aU0),(slB 33 4 [dS p0,bI 6 s10.2,zl,(dI 7)]), .live [⟨9,1, .data (List.map cS [(⟨#[106,97,110]⟩:ByteArray),(⟨#[102,101,98]⟩:ByteArray),(⟨#[109,97,114]⟩:ByteArray),(⟨#[97,112,114]⟩:ByteArray),(⟨#[109,97,121]⟩:ByteArray),(⟨#[106,117,110]⟩:ByteArray),(⟨#[106,117,108]⟩:ByteArray),(⟨#[97,117,103]⟩:ByteArray),(⟨#[115,101,112]⟩:ByteArray),(⟨#[111,99,116]⟩:ByteArray),(⟨#[110,111,118]⟩:ByteArray),(⟨#[100,101,99]⟩:ByteArray)])⟩],slD 127 3 aW s10.2]⟩) h2 ?_ (fun s10 y h3 => ?_)
 refine lJ.trans_ (yF 6 rfl 127 3 (kb:=4) (j:=1) rfl rfl (by repeat (first | exact Spl.z _ | apply Spl.t | apply Spl.d))) ?_
 exact wk (.range 7)
 refine au 4 ?_
 refine aif h3 ?_ ?_ <;> intro hc h3
 refine au 5 ?_
 obtain ⟨v11,hv11,h3⟩:=bnd h3
 refine rL rfl (eV tok hv11 rfl rfl rfl rfl rfl rfl rfl rfl) (rL rfl (gI tok (eE hv11).2.1 rfl rfl rfl rfl rfl rfl) (au 4 ?_))
 refine bso 7 tok cI [31,28,31,30,31,30,31,31,30,31,30,31] ?_
 refine pm ?_
 obtain ⟨v12,hv12,h3⟩:=bnd h3
 refine rL rfl (eV tok hv12 rfl rfl rfl rfl rfl rfl rfl rfl) (rL rfl (gI tok (eE hv12).2.1 rfl rfl rfl rfl rfl rfl) (au 8 ?_))
 refine rpb tok aXh ?_
 refine bsv tok aW [(⟨v11,v12,v12⟩:aY)] ?_
 obtain ⟨hq13,h3⟩:=aT h3
 refine rw1 rfl w0 rfl (fJ tok hq13 rfl rfl rfl rfl rfl rfl rfl rfl rfl rfl rfl rfl (fun _=>rfl)) (au 9 ?_)
 refine bD ?_
 cases h3
 refine ⟨_,rfl,?_⟩
 exact wk (.range 7)
 refine au 2 ?_
 cases h3
 refine lpx fun e => ?_
 subst e
 refine au 2 ?_
 exact wk [0,1,2,3,4,6]
 refine au 3 ?_
 obtain ⟨v15,hv15,h1⟩:=bnd h1
 refine rL rfl (eV tok hv15 rfl rfl rfl rfl rfl rfl rfl rfl) (rL rfl (aWq tok (eE hv15).2.1 rfl rfl rfl rfl rfl rfl rfl rfl) (rw0 rfl w0 (aA2 (cs:=[.d _]) tok (⟨v15.Name,v15.Days,29⟩:aY) (eE hv15).2.1 rfl rfl rfl rfl rfl rfl rfl rfl) (au 3 ?_)))
 cases h1
 refine ⟨_,rfl,?_⟩
 exact wk [0,1,2,3,4,5]
 refine au 1 ?_
 refine rpb tok aU0 ?_
 refine au 3 ?_
 refine wa 5 127 3 3 1 ?_
 refine wa 6 129 3 3 2 ?_
 refine au 2 ?_
 cases h1
 replace h0:=eO h0
 refine au 1 ?_
 cases h0
 exact bV (rs:=[.cell 2 33, .tmp 3]) [5,6] rfl
 rintro v16 rfl
 replace h0:=gO h0
 refine au 1 ?_
 refine rpb tok bAn ?_
 refine bso 6 tok aM [(⟨4,0,true⟩:aL)] ?_
 refine au 3 ?_
 obtain ⟨v18,h1,h0⟩:=bnd h0
 refine aN ⟨aA (aA aH 2 (bA 3)) 4 (bA 4),lk3 [(slB 33 4 aU0),(slB 33 4 [dS p0,bI 5 v16,bI 6 v18,(dI 7)]),slD 127 3 aW v16,slD 129 3 aM v18]⟩ ?_ ?_
 refine au 2 ?_
 refine rP rfl (aNg rfl rfl) (nx ?_)
 refine aif h1 ?_ ?_ <;> intro hc h1
 refine au 3 ?_
 refine rpb tok bAn ?_
 refine rpb tok bAn ?_
 refine bsv tok aM [(⟨100,0,false⟩:aL),(⟨400,0,true⟩:aL)] ?_
 obtain ⟨hq17,h1⟩:=aT h1
 refine rw1 rfl w0 rfl (fJ tok hq17 rfl rfl rfl rfl rfl rfl rfl rfl rfl rfl rfl rfl (fun _=>rfl)) (au 3 ?_)
 cases h1
 exact wk (.range 7)
 refine sk ?_
 cases h1
 exact wk (.range 7)
 refine au 6 ?_
 cases h0
 exact bV (rs:=[.cell 2 33, .tmp 3]) [5,6] rfl
theorem tT {p0:ByteArray} {r:Bool} (h0:kW p0=some r):FnC Tryz.prog 61 [] [dS p0] [] (dB r):=by
 refine fi 50 tok Tryz.func61 ?_
 unfold kW at h0
 refine au 4 ?_
 obtain ⟨v1,h1,h0⟩:=bnd h0
 refine aN ⟨aA (aA aH 0 (dS p0)) 14 (dB v1),lk3 []⟩ ?_ ?_
 refine au 5 ?_
 refine rif 10 h1 ?_ ?_ <;> intro hc h1
 refine au 5 ?_
 cases h1
 exact wk [0,1,2]
 refine au 5 ?_
 cases h1
 exact wk [0,1,2]
 refine aiB h0 ?_ ?_ <;> intro hc h0
 refine au 5 ?_
 cases h0
 exact r0t 2 rfl
 refine sk ?_
 obtain ⟨v13x,h1,h0⟩:=bnd h0
 refine cF v13x (fun v13=>⟨aH,lk3 []⟩) ?_ ?_
 refine au 2 ?_
 obtain ⟨hq2,h1⟩:=aT h1
 refine rS rfl (bA3 tok hq2 rfl rfl rfl rfl rfl rfl rfl) (au 4 ?_)
 refine aK (fun s8=>⟨aA (aA (aA aH 16 (dL cU8 (dC p0))) 17 (dI ((dC p0).length:Int))) 18 (dI s8),lk3 []⟩) h1 ?_ (fun s8 y h2 => ?_)
 exact wk [0,1,2]
 refine au 4 ?_
 refine aif h2 ?_ ?_ <;> intro hc h2
 refine au 5 ?_
 obtain ⟨v9,hv9,h2⟩:=bnd h2
 refine rP rfl (bS tok hv9 rfl rfl rfl rfl rfl rfl) (au 4 ?_)
 obtain ⟨v10,h3,h2⟩:=bnd h2
 refine aN ⟨aA (aA (aA (aA (aA (aA aH 3 (dI s8)) 4 (.d (.v (.int .u8 v9)))) 5 (dB v10)) 16 (dL cU8 (dC p0))) 17 (dI ((dC p0).length:Int))) 18 (dI s8),lk3 []⟩ ?_ ?_
 refine au 4 ?_
 refine rif 25 h3 ?_ ?_ <;> intro hc h3
 refine au 5 ?_
 cases h3
 exact wk [0,1,2]
 refine au 5 ?_
 cases h3
 exact wk [0,1,2]
 obtain ⟨v11,h3,h2⟩:=bnd h2
 refine aN ⟨aA (aA (aA (aA (aA (aA aH 3 (dI s8)) 5 (dB v10)) 6 (dB v11)) 16 (dL cU8 (dC p0))) 17 (dI ((dC p0).length:Int))) 18 (dI s8),lk3 []⟩ ?_ ?_
 refine au 4 ?_
 refine rif 31 h3 ?_ ?_ <;> intro hc h3
 refine au 4 ?_
 refine rif 35 h3 ?_ ?_ <;> intro hc h3
 refine au 5 ?_
 cases h3
 exact wk [0,1,2]
 refine au 5 ?_
 cases h3
 exact wk [0,1,2]
 refine au 9 ?_
 cases h3
 exact wk [0,1,2]
 obtain ⟨v12,h3,h2⟩:=bnd h2
 refine aN ⟨aA (aA (aA (aA aH 16 (dL cU8 (dC p0))) 17 (dI ((dC p0).length:Int))) 18 (dI s8)) 48 (dB v12),lk3 []⟩ ?_ ?_
 refine au 4 ?_
 refine riB 41 h3 ?_ ?_ <;> intro hc h3
 refine au 3 ?_
 refine rif 44 h3 ?_ ?_ <;> intro hc h3
 refine au 5 ?_
 cases h3
 exact wk [0,1,2]
 refine au 5 ?_
 cases h3
 exact wk [0,1,2]
 refine au 8 ?_
 cases h3
 exact wk [0,1,2]
 refine aiB h2 ?_ ?_ <;> intro hc h2
 refine au 6 ?_
 cases h2
 refine lpr fun e => ?_
 subst e
 refine au 1 ?_
 replace h0:=eO h0
 refine au 1 ?_
 cases h0
 exact r0t 2 rfl
 refine au 7 ?_
 refine bD ?_
 cases h2
 refine ⟨_,rfl,?_⟩
 exact wk [0,1,2]
 refine au 2 ?_
 cases h2
 refine lpx fun e => ?_
 subst e
 refine au 2 ?_
 refine ⟨_,rfl,?_⟩
 exact wk [0,1,2]
 rintro v13 rfl
 replace h0:=gO h0
 refine au 4 ?_
 cases h0
 exact r0t 2 rfl
theorem bK {p0:Int} {p1:Int} {p2:Int} {r:Bool} (h0:bB p0 p1 p2=some r):FnC Tryz.prog 62 [] [dI p0,(dI p1),(dI p2)] [] (dB r):=by
 refine fi 15 tok Tryz.func62 ?_
 unfold bB at h0
 refine au 8 ?_
 refine rif 10 h0 ?_ ?_ <;> intro hc h0
 refine au 7 ?_
 cases h0
 exact r0t 6 rfl
 refine au 7 ?_
 cases h0
 exact r0t 6 rfl
theorem zE {p0:aY} {p1:aY} {r:Bool} (h0:jF p0 p1=some r):FnC Tryz.prog 118 [] [.agg (aHj p0), .ref (aW p1)] [] (dB r):=by
 refine fi 9 tok Tryz.func118 ?_
 unfold jF at h0
 refine au 1 ?_
 refine bxx 3 ?_
 refine au 11 ?_
 cases h0
 exact r0t 3 rfl
theorem hJ {p0:List aY} {p1_0:aY} {r:Int} (h0:bT p0 p1_0=some r):FnC Tryz.prog 186 [] [dL aW p0, .fn 118 [.ref (aW p1_0)]] [] (dI r):=by
 refine fi 19 tok Tryz.func186 ?_
 unfold bT at h0
 refine au 3 ?_
 obtain ⟨v7x,h1,h0⟩:=bnd h0
 refine cF v7x (fun v7=>⟨aH,lk3 []⟩) ?_ ?_
 refine au 6 ?_
 refine aK (fun s4=>⟨aA (aA (aA (aA aH 0 (dL aW p0)) 1 (.fn 118 [.ref (aW p1_0)])) 7 (dI (p0.length:Int))) 8 (dI s4),lk3 []⟩) h1 ?_ (fun s4 y h2 => ?_)
 exact wk [0,1,2]
 refine au 4 ?_
 refine aif h2 ?_ ?_ <;> intro hc h2
 refine au 8 ?_
 refine rP rfl (gZ (r := .fn _ _) rfl) (au 2 ?_)
 obtain ⟨v5,hv5,h2⟩:=bnd h2
 refine rP rfl (bS tok hv5 rfl rfl rfl rfl rfl rfl) (au 1 ?_)
 obtain ⟨v6,hv6,h2⟩:=bnd h2
 refine cll 3 (zE hv6) (nx ?_)
 refine aiB h2 ?_ ?_ <;> intro hc h2
 refine au 7 ?_
 cases h2
 refine lpr fun e => ?_
 subst e
 refine au 1 ?_
 replace h0:=eO h0
 refine au 1 ?_
 cases h0
 exact r0t 4 rfl
 refine au 7 ?_
 refine bD ?_
 cases h2
 refine ⟨_,rfl,?_⟩
 exact wk [0,1,2]
 refine au 2 ?_
 cases h2
 refine lpx fun e => ?_
 subst e
 refine au 2 ?_
 refine ⟨_,rfl,?_⟩
 exact wk [0,1,2]
 rintro v7 rfl
 replace h0:=gO h0
 refine au 4 ?_
 cases h0
 exact r0t 4 rfl
theorem gQ {p0:List aY} {p1_0:aY} {r:Bool} (h0:aZ p0 p1_0=some r):FnC Tryz.prog 117 [] [dL aW p0, .fn 118 [.ref (aW p1_0)]] [] (dB r):=by
 refine fi 9 tok Tryz.func117 ?_
 unfold aZ at h0
 refine au 5 ?_
 refine rP rfl (gZ (r := .fn _ _) rfl) ?_
 obtain ⟨v1,hv1,h0⟩:=bnd h0
 refine cll 3 (hJ hv1) ?_
 refine au 4 ?_
 cases h0
 exact r0t 4 rfl
theorem aIb {p0:Int} {p1:Int} {r:Int} (h0:vD p0 p1=some r):FnC Tryz.prog 121 [] [dI p0,(dI p1)] [] (dI r):=by
 refine fi 16 tok Tryz.func121 ?_
 unfold vD at h0
 refine au 3 ?_
 obtain ⟨v5,h1,h0⟩:=bnd h0
 refine aN ⟨aA aH 0 (dI v5),lk3 []⟩ ?_ ?_
 refine au 1 ?_
 refine aK (fun s3=>⟨aA (aA aH 0 (dI s3.1)) 1 (dI s3.2),lk3 []⟩) h1 ?_ (fun s3 y h2 => ?_)
 exact wk [0,1,2]
 refine au 5 ?_
 refine aif h2 ?_ ?_ <;> intro hc h2
 refine au 6 ?_
 obtain ⟨hq4,h2⟩:=aT h2
 refine tP rfl (eW rfl rfl hq4) (au 4 ?_)
 refine bD ?_
 cases h2
 refine ⟨_,rfl,?_⟩
 exact wk [0,1,2]
 refine au 2 ?_
 cases h2
 refine lpx fun e => ?_
 subst e
 refine au 2 ?_
 exact wk [0,1,2]
 refine au 5 ?_
 refine aif h0 ?_ ?_ <;> intro hc h0
 refine au 7 ?_
 cases h0
 exact r0t 4 rfl
 refine au 6 ?_
 cases h0
 exact r0t 4 rfl
theorem tG {p0:List aL} {r:Int} (h0:iF p0=some r):FnC Tryz.prog 119 [] [dL aM p0] [] (dI r):=by
 refine fi 25 tok Tryz.func119 ?_
 unfold iF at h0
 refine au 6 ?_
 obtain ⟨v11,h1,h0⟩:=bnd h0
 refine aN ⟨aA aH 3 (dI v11),lk3 []⟩ ?_ ?_
 refine au 6 ?_
 refine aK (fun s6=>⟨aA (aA (aA (aA aH 3 (dI s6.1)) 6 (dL aM p0)) 7 (dI (p0.length:Int))) 8 (dI s6.2),lk3 []⟩) h1 ?_ (fun s6 y h2 => ?_)
 exact wk [0,1,2]
 refine au 4 ?_
 refine aif h2 ?_ ?_ <;> intro hc h2
 refine sk ?_
 obtain ⟨v10,h3,h2⟩:=bnd h2
 refine aN ⟨aA (aA (aA (aA aH 3 (dI v10)) 6 (dL aM p0)) 7 (dI (p0.length:Int))) 8 (dI s6.2),lk3 []⟩ ?_ ?_
 refine au 2 ?_
 obtain ⟨v7,hv7,h3⟩:=bnd h3
 refine rP rfl (bS tok hv7 rfl rfl rfl rfl rfl rfl) (au 1 ?_)
 refine al 3 bAn tok ?_
 refine au 6 ?_
 refine aif h3 ?_ ?_ <;> intro hc h3
 refine tdr [0,1,2,3,6,7,4,5,8,9] follows (au 6 ?_)
 obtain ⟨v8,hv8,h3⟩:=bnd h3
 refine clt 4 (aIb hv8) ?_
 obtain ⟨hq9,h3⟩:=aT h3
 refine tP rfl (lI rfl rfl hq9) (au 5 ?_)
 cases h3
 exact wk [0,1,2]
 refine au 3 ?_
 cases h3
 exact wk [0,1,2]
 refine au 4 ?_
 refine bD ?_
 cases h2
 refine ⟨_,rfl,?_⟩
 exact wk [0,1,2]
 refine au 2 ?_
 cases h2
 refine lpx fun e => ?_
 subst e
 refine au 2 ?_
 exact wk [0,1,2]
 refine au 5 ?_
 cases h0
 exact r0t 2 rfl
theorem fH {p0:aC} {r:Bool} (h0:cY p0=some r):FnC Tryz.prog 60 [] [.agg (aJ p0)] [] (dB r):=by
 refine fi 91 tok Tryz.func60 ?_
 unfold cY at h0
 refine au 1 ?_
 refine bxx 3 ?_
 refine au 3 ?_
 obtain ⟨v3,h1,h0⟩:=bnd h0
 refine aN ⟨aA (aA aH 1 (bA 3)) 34 (dB v3),lk3 [(slB 33 4 (aJ p0))]⟩ ?_ ?_
 refine au 3 ?_
 obtain ⟨v1,hv1,h1⟩:=bnd h1
 refine cll 4 (tT hv1) ?_
 refine au 2 ?_
 refine riB 11 h1 ?_ ?_ <;> intro hc h1
 refine au 24 ?_
 cases h1
 exact wk [0,1,2,3]
 refine au 6 ?_
 refine rif 17 h1 ?_ ?_ <;> intro hc h1
 refine au 18 ?_
 cases h1
 exact wk [0,1,2,3]
 refine au 6 ?_
 refine rif 23 h1 ?_ ?_ <;> intro hc h1
 refine au 12 ?_
 cases h1
 exact wk [0,1,2,3]
 refine au 6 ?_
 refine rif 29 h1 ?_ ?_ <;> intro hc h1
 refine au 6 ?_
 cases h1
 exact wk [0,1,2,3]
 refine au 2 ?_
 obtain ⟨v2,hv2,h1⟩:=bnd h1
 refine cl1 4 (bK hv2) ?_
 refine au 3 ?_
 cases h1
 exact wk [0,1,2,3]
 refine aiB h0 ?_ ?_ <;> intro hc h0
 refine au 5 ?_
 cases h0
 exact r0t 2 rfl
 refine sk ?_
 obtain ⟨v20x,h1,h0⟩:=bnd h0
 refine cF v20x (fun v20=>⟨aA aH 1 (bA 3),lk3 [(slB 33 4 (aJ p0))]⟩) ?_ ?_
 refine au 7 ?_
 refine aK (fun s12=>⟨aA (aA (aA (aA aH 1 (bA 3)) 36 (dL aW p0.Months)) 37 (dI (p0.Months.length:Int))) 38 (dI s12),lk3 [(slB 33 4 (aJ p0))]⟩) h1 ?_ (fun s12 y h2 => ?_)
 exact wk [0,1,2,3]
 refine au 4 ?_
 refine aif h2 ?_ ?_ <;> intro hc h2
 refine au 5 ?_
 obtain ⟨v13,hv13,h2⟩:=bnd h2
 refine rP rfl (bS tok hv13 rfl rfl rfl rfl rfl rfl) (au 1 ?_)
 refine al 4 aXh tok ?_
 refine au 4 ?_
 obtain ⟨v17,h3,h2⟩:=bnd h2
 refine aN ⟨aA (aA (aA (aA (aA (aA (aA aH 1 (bA 3)) 3 (dI s12)) 4 (bA 4)) 36 (dL aW p0.Months)) 37 (dI (p0.Months.length:Int))) 38 (dI s12)) 58 (dB v17),lk3 [(slB 33 4 (aJ p0)),(slB 127 3 (aHj v13))]⟩ ?_ ?_
 refine au 3 ?_
 obtain ⟨v14,hv14,h3⟩:=bnd h3
 refine cll 5 (tT hv14) ?_
 refine au 2 ?_
 refine riB 47 h3 ?_ ?_ <;> intro hc h3
 refine au 12 ?_
 cases h3
 exact wk [0,1,2,3,4]
 refine au 2 ?_
 obtain ⟨v15,hv15,h3⟩:=bnd h3
 refine cl1 5 (bK hv15) ?_
 refine au 3 ?_
 refine riB 53 h3 ?_ ?_ <;> intro hc h3
 refine au 6 ?_
 cases h3
 exact wk [0,1,2,3,4]
 refine au 2 ?_
 obtain ⟨v16,hv16,h3⟩:=bnd h3
 refine cl1 5 (bK hv16) ?_
 refine au 3 ?_
 cases h3
 exact wk [0,1,2,3,4]
 refine aiB h2 ?_ ?_ <;> intro hc h2
 refine au 7 ?_
 cases h2
 refine lpr fun e => ?_
 subst e
 refine au 1 ?_
 replace h0:=eO h0
 refine au 1 ?_
 cases h0
 exact r0t 2 rfl
 refine au 5 ?_
 obtain ⟨hq18,h2⟩:=aT h2
 refine rP rfl (aIx tok hq18 rfl (.inl ⟨rfl,rfl⟩) (.inr ⟨_,_,rfl,rfl⟩) rfl rfl rfl (fun _=>rfl)) (rP rfl (aIw rfl) ?_)
 obtain ⟨v19,hv19,h2⟩:=bnd h2
 refine rS rfl (fG 5 (gQ hv19) rfl rfl) (nx ?_)
 refine aiB h2 ?_ ?_ <;> intro hc h2
 refine au 6 ?_
 cases h2
 refine lpr fun e => ?_
 subst e
 refine au 1 ?_
 replace h0:=eO h0
 refine au 1 ?_
 cases h0
 exact r0t 2 rfl
 refine au 7 ?_
 refine bD ?_
 cases h2
 refine ⟨_,rfl,?_⟩
 exact wk [0,1,2,3]
 refine au 2 ?_
 cases h2
 refine lpx fun e => ?_
 subst e
 refine au 2 ?_
 refine ⟨_,rfl,?_⟩
 exact wk [0,1,2,3]
 rintro v20 rfl
 replace h0:=gO h0
 obtain ⟨v31x,h1,h0⟩:=bnd h0
 refine cF v31x (fun v31=>⟨aA aH 1 (bA 3),lk3 [(slB 33 4 (aJ p0))]⟩) ?_ ?_
 refine au 7 ?_
 refine aK (fun s26=>⟨aA (aA (aA (aA aH 1 (bA 3)) 67 (dL aM p0.Rules)) 68 (dI (p0.Rules.length:Int))) 69 (dI s26),lk3 [(slB 33 4 (aJ p0))]⟩) h1 ?_ (fun s26 y h2 => ?_)
 exact wk [0,1,2,3]
 refine au 4 ?_
 refine aif h2 ?_ ?_ <;> intro hc h2
 refine au 4 ?_
 obtain ⟨v27,hv27,h2⟩:=bnd h2
 refine rP rfl (bS tok hv27 rfl rfl rfl rfl rfl rfl) (au 1 ?_)
 refine al 4 bAn tok ?_
 refine au 2 ?_
 obtain ⟨v30,h3,h2⟩:=bnd h2
 refine aN ⟨aA (aA (aA (aA (aA aH 1 (bA 3)) 67 (dL aM p0.Rules)) 68 (dI (p0.Rules.length:Int))) 69 (dI s26)) 85 (dB v30),lk3 [(slB 33 4 (aJ p0))]⟩ ?_ ?_
 refine au 3 ?_
 obtain ⟨v28,hv28,h3⟩:=bnd h3
 refine cll 5 (bK hv28) ?_
 refine au 2 ?_
 refine riB 77 h3 ?_ ?_ <;> intro hc h3
 refine au 9 ?_
 cases h3
 exact wk [0,1,2,3]
 refine au 5 ?_
 obtain ⟨v29,hv29,h3⟩:=bnd h3
 refine cl1 5 (bK hv29) ?_
 refine au 3 ?_
 cases h3
 exact wk [0,1,2,3]
 refine aiB h2 ?_ ?_ <;> intro hc h2
 refine au 6 ?_
 cases h2
 refine lpr fun e => ?_
 subst e
 refine au 1 ?_
 replace h0:=eO h0
 refine au 1 ?_
 cases h0
 exact r0t 2 rfl
 refine au 7 ?_
 refine bD ?_
 cases h2
 refine ⟨_,rfl,?_⟩
 exact wk [0,1,2,3]
 refine au 2 ?_
 cases h2
 refine lpx fun e => ?_
 subst e
 refine au 2 ?_
 refine ⟨_,rfl,?_⟩
 exact wk [0,1,2,3]
 rintro v31 rfl
 replace h0:=gO h0
 refine au 3 ?_
 obtain ⟨v32,hv32,h0⟩:=bnd h0
 refine cll 4 (tG hv32) ?_
 refine au 4 ?_
 cases h0
 exact r0t 2 rfl
theorem rQ {p0:Int} {r:Bool} (h0:jH p0=some r):FnC Tryz.prog 63 [] [dI p0] [] (dB r):=by
 refine fi 5 tok Tryz.func63 ?_
 unfold jH at h0
 refine au 5 ?_
 obtain ⟨v1,hv1,h0⟩:=bnd h0
 refine cll 3 (bK hv1) ?_
 refine au 3 ?_
 cases h0
 exact r0t 2 rfl
theorem aMm {p0:aC} {p1:Int} {r:Bool} (h0:zI p0 p1=some r):FnC Tryz.prog 120 [] [.agg (aJ p0),(dI p1)] [] (dB r):=by
 refine fi 11 tok Tryz.func120 ?_
 unfold zI at h0
 refine au 1 ?_
 refine bxx 3 ?_
 refine au 7 ?_
 obtain ⟨hq1,h0⟩:=aT h0
 refine rP rfl (lI rfl rfl hq1) ?_
 obtain ⟨v2,hv2,h0⟩:=bnd h0
 refine cll 4 (bK hv2) ?_
 refine au 3 ?_
 cases h0
 exact r0t 4 rfl
theorem mP {p0:aC} {p1:Int} {r:Bool} (h0:gJ p0 p1=some r):FnC Tryz.prog 122 [] [.agg (aJ p0),(dI p1)] [] (dB r):=by
 refine fi 26 tok Tryz.func122 ?_
 unfold gJ at h0
 refine au 1 ?_
 refine bxx 3 ?_
 refine au 5 ?_
 obtain ⟨v9,h1,h0⟩:=bnd h0
 refine aN ⟨aA aH 5 (dB v9),lk3 []⟩ ?_ ?_
 refine au 7 ?_
 refine aK (fun s5=>⟨aA (aA (aA (aA (aA aH 1 (dI p1)) 5 (dB s5.1)) 9 (dL aM p0.Rules)) 10 (dI (p0.Rules.length:Int))) 11 (dI s5.2),lk3 []⟩) h1 ?_ (fun s5 y h2 => ?_)
 exact wk [0,1,2]
 refine au 4 ?_
 refine aif h2 ?_ ?_ <;> intro hc h2
 refine sk ?_
 obtain ⟨v8,h3,h2⟩:=bnd h2
 refine aN ⟨aA (aA (aA (aA (aA aH 1 (dI p1)) 5 (dB v8)) 9 (dL aM p0.Rules)) 10 (dI (p0.Rules.length:Int))) 11 (dI s5.2),lk3 []⟩ ?_ ?_
 refine au 2 ?_
 obtain ⟨v6,hv6,h3⟩:=bnd h3
 refine rP rfl (bS tok hv6 rfl rfl rfl rfl rfl rfl) (au 1 ?_)
 refine al 3 bAn tok ?_
 refine au 7 ?_
 obtain ⟨hq7,h3⟩:=aT h3
 refine tP rfl (eW rfl rfl hq7) (au 5 ?_)
 refine aif h3 ?_ ?_ <;> intro hc h3
 refine au 7 ?_
 cases h3
 exact wk [0,1,2]
 refine au 3 ?_
 cases h3
 exact wk [0,1,2]
 refine au 4 ?_
 refine bD ?_
 cases h2
 refine ⟨_,rfl,?_⟩
 exact wk [0,1,2]
 refine au 2 ?_
 cases h2
 refine lpx fun e => ?_
 subst e
 refine au 2 ?_
 exact wk [0,1,2]
 refine au 5 ?_
 cases h0
 exact r0t 4 rfl
theorem rI {p0:aC} {p1:List Int} {r:Int} (h0:iD p0 p1=some r):FnC Tryz.prog 130 [] [.agg (aJ p0),(dL cI p1)] [] (dI r):=by
 refine fi 18 tok Tryz.func130 ?_
 unfold iD at h0
 refine au 1 ?_
 refine bxx 3 ?_
 refine au 9 ?_
 obtain ⟨hq1,h0⟩:=aT h0
 refine rP rfl (eW rfl rfl hq1) (au 2 ?_)
 refine aif h0 ?_ ?_ <;> intro hc h0
 refine au 5 ?_
 cases h0
 exact r0t 4 rfl
 refine au 7 ?_
 obtain ⟨hq2,h0⟩:=aT h0
 refine rP rfl (lI rfl rfl hq2) (au 3 ?_)
 cases h0
 exact r0t 4 rfl
theorem iT {p0:aC} {p1:Bool} {p2:Int} {r:Int} (h0:dH p0 p1 p2=some r):FnC Tryz.prog 205 [] [.agg (aJ p0),(dB p1),(dI p2)] [] (dI r):=by
 refine fi 22 tok Tryz.func205 ?_
 unfold dH at h0
 refine au 1 ?_
 refine bxx 3 ?_
 refine au 6 ?_
 refine aiB h0 ?_ ?_ <;> intro hc h0
 refine au 5 ?_
 obtain ⟨v1,hv1,h0⟩:=bnd h0
 refine rP rfl (bS tok hv1 rfl rfl rfl rfl rfl rfl) (au 6 ?_)
 cases h0
 exact r0t 6 rfl
 refine au 6 ?_
 obtain ⟨v2,hv2,h0⟩:=bnd h0
 refine rP rfl (bS tok hv2 rfl rfl rfl rfl rfl rfl) (au 5 ?_)
 cases h0
 exact r0t 6 rfl
theorem aCm {p0:aC} {p1:List Int} {p2:Int} {r:List fT} (h0:mN p0 p1 p2=some r):FnC Tryz.prog 187 [] [.agg (aJ p0),(dL cI p1),(dI p2)] [slD 232 4 uN r] (bI 0 r):=by
 refine fi 57 tok Tryz.func187 ?_
 unfold mN at h0
 refine au 1 ?_
 refine bxx 3 ?_
 refine au 8 ?_
 obtain ⟨v1,hv1,h0⟩:=bnd h0
 refine cll 4 (mP hv1) ?_
 refine au 13 ?_
 obtain ⟨v2,hv2,h0⟩:=bnd h0
 refine cll 4 (rI hv2) ?_
 obtain ⟨hq3,h0⟩:=aT h0
 refine rP rfl (eW rfl rfl hq3) (au 2 ?_)
 obtain ⟨hq4,h0⟩:=aT h0
 refine rP rfl (aIx tok hq4 rfl (.inr ⟨_,_,rfl,rfl⟩) (.inl ⟨rfl,rfl⟩) rfl rfl rfl (fun _=>rfl)) (au 2 ?_)
 obtain ⟨v17,h1,h0⟩:=bnd h0
 refine aN ⟨aA aH 7 (bI 3 v17),lk3 [slD 232 4 uN v17]⟩ ?_ ?_
 refine au 4 ?_
 refine aK (fun s11=>⟨aA (aA (aA (aA (aA (aA (aA aH 2 (dI p2)) 3 (bA 3)) 7 (bI 4 s11.2)) 8 (dB v1)) 9 (dI (p0.Months.length:Int))) 10 (dL cI (aFu p1 (w64 ((p2.tmod v2)*(p0.Months.length:Int))) (p1.length:Int)))) 11 (dI s11.1),lk3 [(slB 33 4 (aJ p0)),slD 232 4 uN s11.2]⟩) h1 ?_ (fun s11 y h2 => ?_)
 refine lJ.trans_ (aR 4 rfl 232 4 (d:=7) rfl) ?_
 exact wk [0,1,2,3,4]
 refine au 6 ?_
 refine aif h2 ?_ ?_ <;> intro hc h2
 refine sk ?_
 obtain ⟨v16,h3,h2⟩:=bnd h2
 refine aN ⟨aA (aA (aA (aA (aA (aA (aA aH 2 (dI p2)) 3 (bA 3)) 7 (bI 4 v16)) 8 (dB v1)) 9 (dI (p0.Months.length:Int))) 10 (dL cI (aFu p1 (w64 ((p2.tmod v2)*(p0.Months.length:Int))) (p1.length:Int)))) 11 (dI s11.1),lk3 [(slB 33 4 (aJ p0)),slD 232 4 uN v16]⟩ ?_ ?_
 refine au 5 ?_
 obtain ⟨v12,hv12,h3⟩:=bnd h3
 refine cll 5 (iT hv12) ?_
 refine au 6 ?_
 obtain ⟨v13,hv13,h3⟩:=bnd h3
 refine rP rfl (bS tok hv13 rfl rfl rfl rfl rfl rfl) (au 4 ?_)
 refine aif h3 ?_ ?_ <;> intro hc h3
 refine au 7 ?_
 obtain ⟨v14,hv14,h3⟩:=bnd h3
 refine rP rfl (bS tok hv14 rfl rfl rfl rfl rfl rfl) (au 2 ?_)
 refine rpb tok aVc ?_
 refine bsv tok uN [(⟨p2,s11.1,v14,v12⟩:fT)] ?_
 obtain ⟨hq15,h3⟩:=aT h3
 refine rw1 rfl w0 rfl (fJ tok hq15 rfl rfl rfl rfl rfl rfl rfl rfl rfl rfl rfl rfl (fun _=>rfl)) (au 4 ?_)
 cases h3
 exact wk [0,1,2,3,4]
 refine au 3 ?_
 cases h3
 exact wk [0,1,2,3,4]
 refine au 5 ?_
 refine bD ?_
 cases h2
 refine ⟨_,rfl,?_⟩
 exact wk [0,1,2,3,4]
 refine au 2 ?_
 cases h2
 refine lpx fun e => ?_
 subst e
 refine au 2 ?_
 exact wk [0,1,2,4]
 refine au 5 ?_
 cases h0
 exact bV (rs:=[.tmp 6]) [3] rfl
theorem aGa {p0:aC} {p1:List Int} {r:Int} (h0:tH p0 p1=some r):FnC Tryz.prog 123 [] [.agg (aJ p0),(dL cI p1)] [] (dI r):=by
 refine fi 36 tok Tryz.func123 ?_
 unfold tH at h0
 refine au 1 ?_
 refine bxx 3 ?_
 refine au 3 ?_
 refine tdr [0,1,3,4,2,5,6,7] follows (au 4 ?_)
 obtain ⟨v1,hv1,h0⟩:=bnd h0
 refine clt 4 (rI hv1) ?_
 obtain ⟨v2,hv2,h0⟩:=bnd h0
 refine clt 4 (tG hv2) ?_
 refine au 8 ?_
 obtain ⟨v3,hv3,h0⟩:=bnd h0
 refine cll 4 (aIb hv3) ?_
 obtain ⟨hq4,h0⟩:=aT h0
 refine rP rfl (lI rfl rfl hq4) (au 7 ?_)
 obtain ⟨v9,h1,h0⟩:=bnd h0
 refine aN ⟨aA aH 8 (dI v9),lk3 []⟩ ?_ ?_
 refine au 4 ?_
 refine aK (fun s7=>⟨aA (aA (aA (aA (aA aH 1 (dL cI p1)) 2 (bA 3)) 7 (dI (w64 ((w64 (v1.tdiv v3))*v2)))) 8 (dI s7.1)) 9 (dI s7.2),lk3 [(slB 33 4 (aJ p0))]⟩) h1 ?_ (fun s7 y h2 => ?_)
 exact wk [0,1,2,3]
 refine au 6 ?_
 refine aif h2 ?_ ?_ <;> intro hc h2
 refine au 8 ?_
 obtain ⟨v8,hv8,h2⟩:=bnd h2
 refine cll 4 (aCm hv8) ?_
 refine au 11 ?_
 refine bD ?_
 cases h2
 refine ⟨_,rfl,?_⟩
 exact wk [0,1,2,3]
 refine au 2 ?_
 cases h2
 refine lpx fun e => ?_
 subst e
 refine au 2 ?_
 exact wk [0,1,2]
 refine au 5 ?_
 cases h0
 exact r0t 4 rfl
theorem aL9 {p0:aC} {p1:Int} {r:List Int × Int × Int} (h0:yZ p0 p1=some r):FnC Tryz.prog 64 [] [.agg (aJ p0),(dI p1)] [slD 2 1 cI r.1] (.tup [bI 0 r.1,(dI r.2.1),(dI r.2.2)]):=by
 refine fi 115 tok Tryz.func64 ?_
 unfold yZ at h0
 refine au 1 ?_
 refine bxx 3 ?_
 refine au 7 ?_
 obtain ⟨v1,hv1,h0⟩:=bnd h0
 refine cll 4 (fH hv1) ?_
 refine au 2 ?_
 refine aiB h0 ?_ ?_ <;> intro hc h0
 refine au 5 ?_
 refine bL (aR 4 rfl 2 1 (d:=4) rfl) (au 2 ?_)
 cases h0
 exact bV (rs:=[.tmp 4, .tmp 5, .tmp 6]) [4] rfl
 refine au 5 ?_
 obtain ⟨v2,hv2,h0⟩:=bnd h0
 refine cll 4 (aMm hv2) ?_
 refine au 2 ?_
 refine aiB h0 ?_ ?_ <;> intro hc h0
 refine au 5 ?_
 refine bL (aR 4 rfl 2 1 (d:=4) rfl) (au 2 ?_)
 cases h0
 exact bV (rs:=[.tmp 4, .tmp 5, .tmp 6]) [4] rfl
 refine au 4 ?_
 obtain ⟨v3,hv3,h0⟩:=bnd h0
 refine cll 4 (tG hv3) ?_
 refine au 6 ?_
 obtain ⟨v4,hv4,h0⟩:=bnd h0
 refine cll 4 (aIb hv4) ?_
 obtain ⟨hq5,h0⟩:=aT h0
 refine rP rfl (lI rfl rfl hq5) (au 5 ?_)
 refine tdr [0,2,1,4,3,5] follows (au 2 ?_)
 obtain ⟨hq6,h0⟩:=aT h0
 refine aDz rfl w0 rfl rfl (fun hx hk=>aG4 4 tok (c:=cI) 0 hq6 rfl rfl rfl rfl rfl rfl rfl rfl rfl rfl rfl hk rfl) (au 1 ?_)
 obtain ⟨hq7,h0⟩:=aT h0
 refine aDz rfl w0 rfl rfl (fun hx hk=>aG4 5 tok (c:=cI) 0 hq7 rfl rfl rfl rfl rfl rfl rfl rfl rfl rfl rfl hk rfl) (au 3 ?_)
 obtain ⟨v26,h1,h0⟩:=bnd h0
 refine aN ⟨aA (aA (aA aH 2 (bA 3)) 9 (bI 4 v26.1)) 10 (bI 5 v26.2),lk3 [(slB 33 4 (aJ p0)),slD 2 1 cI v26.1,slD 2 1 cI v26.2]⟩ ?_ ?_
 refine au 4 ?_
 refine aK (fun s17=>⟨aA (aA (aA (aA (aA (aA aH 1 (dI p1)) 2 (bA 3)) 8 (dI (w64 ((w64 (p1.tdiv v4))*v3)))) 9 (bI 4 s17.2.1)) 10 (bI 5 s17.2.2)) 11 (dI s17.1),lk3 [(slB 33 4 (aJ p0)),slD 2 1 cI s17.2.1,slD 2 1 cI s17.2.2]⟩) h1 ?_ (fun s17 y h2 => ?_)
 exact wk [0,1,2,3,4,5]
 refine au 6 ?_
 refine aif h2 ?_ ?_ <;> intro hc h2
 refine sk ?_
 obtain ⟨v25,h3,h2⟩:=bnd h2
 refine aN ⟨aA (aA (aA (aA (aA (aA aH 1 (dI p1)) 2 (bA 3)) 8 (dI (w64 ((w64 (p1.tdiv v4))*v3)))) 9 (bI 4 v25.1)) 10 (bI 5 v25.2)) 11 (dI s17.1),lk3 [(slB 33 4 (aJ p0)),slD 2 1 cI v25.1,slD 2 1 cI v25.2]⟩ ?_ ?_
 refine au 4 ?_
 obtain ⟨v18,hv18,h3⟩:=bnd h3
 refine cll 6 (mP hv18) (nx ?_)
 refine aiB h3 ?_ ?_ <;> intro hc h3
 refine au 4 ?_
 obtain ⟨hq19,h3⟩:=aT h3
 refine rP rfl (eW rfl rfl hq19) ?_
 obtain ⟨v20,hv20,h3⟩:=bnd h3
 refine rL rfl (eV tok hv20 rfl rfl rfl rfl rfl rfl rfl rfl) (rL rfl (gI tok (eE hv20).2.1 rfl rfl rfl rfl rfl rfl) (au 1 ?_))
 obtain ⟨v21,hv21,h3⟩:=bnd h3
 refine rL rfl (eV tok hv21 rfl rfl rfl rfl rfl rfl rfl rfl) (rw0 rfl w0 (aA2 (cs:=[.d _]) tok (w64 (v20+1)) (eE hv21).2.1 rfl rfl rfl rfl rfl rfl rfl rfl) (au 3 ?_))
 cases h3
 exact wk [0,1,2,3,4,5]
 refine au 4 ?_
 obtain ⟨hq22,h3⟩:=aT h3
 refine rP rfl (eW rfl rfl hq22) ?_
 obtain ⟨v23,hv23,h3⟩:=bnd h3
 refine rL rfl (eV tok hv23 rfl rfl rfl rfl rfl rfl rfl rfl) (rL rfl (gI tok (eE hv23).2.1 rfl rfl rfl rfl rfl rfl) (au 1 ?_))
 obtain ⟨v24,hv24,h3⟩:=bnd h3
 refine rL rfl (eV tok hv24 rfl rfl rfl rfl rfl rfl rfl rfl) (rw0 rfl w0 (aA2 (cs:=[.d _]) tok (w64 (v23+1)) (eE hv24).2.1 rfl rfl rfl rfl rfl rfl rfl rfl) (au 3 ?_))
 cases h3
 exact wk [0,1,2,3,4,5]
 refine au 5 ?_
 refine bD ?_
 cases h2
 refine ⟨_,rfl,?_⟩
 exact wk [0,1,2,3,4,5]
 refine au 2 ?_
 cases h2
 refine lpx fun e => ?_
 subst e
 refine au 2 ?_
 exact wk [0,1,2,3,4,5]
 refine au 3 ?_
 obtain ⟨v67,h1,h0⟩:=bnd h0
 refine aN ⟨aA (aA aH 2 (bA 3)) 12 (bI 4 v67),lk3 [(slB 33 4 (aJ p0)),slD 2 1 cI v67]⟩ ?_ ?_
 refine au 6 ?_
 refine aK (fun s47=>⟨aA (aA (aA (aA (aA (aA aH 2 (bA 3)) 9 (bI 4 v26.1)) 10 (bI 5 v26.2)) 12 (bI 6 s47.2)) 63 (dI (v26.1.length:Int))) 64 (dI s47.1),lk3 [(slB 33 4 (aJ p0)),slD 2 1 cI v26.1,slD 2 1 cI v26.2,slD 2 1 cI s47.2]⟩) h1 ?_ (fun s47 y h2 => ?_)
 refine lJ.trans_ (aR 6 rfl 2 1 (d:=12) rfl) ?_
 exact wk (.range 7)
 refine au 4 ?_
 refine aif h2 ?_ ?_ <;> intro hc h2
 refine sk ?_
 obtain ⟨v66,h3,h2⟩:=bnd h2
 refine aN ⟨aA (aA (aA (aA (aA (aA aH 2 (bA 3)) 9 (bI 4 v26.1)) 10 (bI 5 v26.2)) 12 (bI 6 v66)) 63 (dI (v26.1.length:Int))) 64 (dI s47.1),lk3 [(slB 33 4 (aJ p0)),slD 2 1 cI v26.1,slD 2 1 cI v26.2,slD 2 1 cI v66]⟩ ?_ ?_
 refine au 12 ?_
 refine aK (fun s57=>⟨aA (aA (aA (aA (aA (aA (aA (aA (aA (aA aH 2 (bA 3)) 9 (bI 4 v26.1)) 10 (bI 5 v26.2)) 12 (bI 6 s57.2)) 13 (dI s47.1)) 63 (dI (v26.1.length:Int))) 64 (dI s47.1)) 68 (dL aW p0.Months)) 69 (dI (p0.Months.length:Int))) 70 (dI s57.1),lk3 [(slB 33 4 (aJ p0)),slD 2 1 cI v26.1,slD 2 1 cI v26.2,slD 2 1 cI s57.2]⟩) h3 ?_ (fun s57 y h4 => ?_)
 exact wk (.range 7)
 refine au 4 ?_
 refine aif h4 ?_ ?_ <;> intro hc h4
 refine au 4 ?_
 obtain ⟨v58,hv58,h4⟩:=bnd h4
 refine rP rfl (bS tok hv58 rfl rfl rfl rfl rfl rfl) (au 1 ?_)
 refine al 7 aXh tok ?_
 refine au 7 ?_
 obtain ⟨v64,h5,h4⟩:=bnd h4
 refine aN ⟨aA (aA (aA (aA (aA (aA (aA (aA (aA (aA (aA aH 2 (bA 3)) 9 (bI 4 v26.1)) 10 (bI 5 v26.2)) 12 (bI 6 s57.2)) 13 (dI s47.1)) 16 (dI v64)) 63 (dI (v26.1.length:Int))) 64 (dI s47.1)) 68 (dL aW p0.Months)) 69 (dI (p0.Months.length:Int))) 70 (dI s57.1),lk3 [(slB 33 4 (aJ p0)),slD 2 1 cI v26.1,slD 2 1 cI v26.2,slD 2 1 cI s57.2]⟩ ?_ ?_
 obtain ⟨v63,h6,h5⟩:=bnd h5
 refine aN ⟨aA (aA (aA (aA (aA (aA (aA (aA (aA (aA (aA (aA (aA aH 2 (bA 3)) 9 (bI 4 v26.1)) 10 (bI 5 v26.2)) 12 (bI 6 s57.2)) 13 (dI s47.1)) 15 (bA 7)) 16 (dI v58.Days)) 63 (dI (v26.1.length:Int))) 64 (dI s47.1)) 68 (dL aW p0.Months)) 69 (dI (p0.Months.length:Int))) 70 (dI s57.1)) 102 (dB v63),lk3 [(slB 33 4 (aJ p0)),slD 2 1 cI v26.1,slD 2 1 cI v26.2,slD 2 1 cI s57.2,(slB 127 3 (aHj v58))]⟩ ?_ ?_
 refine au 3 ?_
 obtain ⟨v59,hv59,h6⟩:=bnd h6
 refine jX rfl w0 rfl (eV tok hv59 rfl rfl rfl rfl rfl rfl rfl rfl) rfl rfl rfl (jX rfl w0 rfl (gI tok (eE hv59).2.1 rfl rfl rfl rfl rfl rfl) rfl rfl rfl (au 2 ?_))
 obtain ⟨v60,hv60,h6⟩:=bnd h6
 refine jX rfl w0 rfl (eV tok hv60 rfl rfl rfl rfl rfl rfl rfl rfl) rfl rfl rfl (jX rfl w0 rfl (gI tok (eE hv60).2.1 rfl rfl rfl rfl rfl rfl) rfl rfl rfl (au 2 ?_))
 refine aFg (u:=85) h6 rfl (fun hc h6 => ?_) (fun hc h6 => ?_)
 refine au 19 ?_
 cases h6
 exact wk (.range 8)
 refine au 2 ?_
 obtain ⟨v61,hv61,h6⟩:=bnd h6
 refine jX rfl (w1 rfl rfl rfl) rfl (eV tok hv61 rfl rfl rfl rfl rfl rfl rfl rfl) rfl rfl rfl (jX rfl (w1 rfl rfl rfl) rfl (gI tok (eE hv61).2.1 rfl rfl rfl rfl rfl rfl) rfl rfl rfl (au 2 ?_))
 obtain ⟨v62,hv62,h6⟩:=bnd h6
 refine jX rfl (w1 rfl rfl rfl) rfl (eV tok hv62 rfl rfl rfl rfl rfl rfl rfl rfl) rfl rfl rfl (jX rfl (w1 rfl rfl rfl) rfl (gI tok (eE hv62).2.1 rfl rfl rfl rfl rfl rfl) rfl rfl rfl (au 2 ?_))
 refine aFg (u:=95) h6 rfl (fun hc h6 => ?_) (fun hc h6 => ?_)
 refine au 9 ?_
 cases h6
 exact wk (.range 8)
 refine au 9 ?_
 cases h6
 exact wk (.range 8)
 refine aiB h5 ?_ ?_ <;> intro hc h5
 refine au 5 ?_
 cases h5
 exact wk (.range 7)
 refine sk ?_
 cases h5
 exact wk (.range 7)
 refine au 3 ?_
 refine bsv tok cI [v64] ?_
 obtain ⟨hq65,h4⟩:=aT h4
 refine rw1 rfl w0 rfl (fJ tok hq65 rfl rfl rfl rfl rfl rfl rfl rfl rfl rfl rfl rfl (fun _=>rfl)) (au 8 ?_)
 refine bD ?_
 cases h4
 refine ⟨_,rfl,?_⟩
 exact wk (.range 7)
 refine au 2 ?_
 cases h4
 refine lpx fun e => ?_
 subst e
 refine au 3 ?_
 exact wk (.range 7)
 refine au 4 ?_
 refine bD ?_
 cases h2
 refine ⟨_,rfl,?_⟩
 exact wk (.range 7)
 refine au 2 ?_
 cases h2
 refine lpx fun e => ?_
 subst e
 refine au 2 ?_
 exact wk [0,1,2,3,6]
 refine au 4 ?_
 obtain ⟨v68,hv68,h0⟩:=bnd h0
 refine rS rfl (fG 5 (aGa hv68) rfl rfl) (au 5 ?_)
 cases h0
 exact bV (rs:=[.tmp 4, .tmp 5, .tmp 6]) [4] rfl
theorem aAp {p0:Int} {r:Int} (h0:lC p0=some r):FnC Tryz.prog 188 [] [dI p0] [] (.d (.v (.int .u64 r))):=by
 refine fi 10 tok Tryz.func188 ?_
 unfold lC at h0
 refine au 8 ?_
 refine aif h0 ?_ ?_ <;> intro hc h0
 refine au 2 ?_
 refine rP rfl (aNe tok rfl rfl rfl rfl rfl) (rP rfl (aTx rfl) (au 4 ?_))
 cases h0
 exact r0t 2 rfl
 refine au 3 ?_
 refine rP rfl (aNe tok rfl rfl rfl rfl rfl) (au 3 ?_)
 cases h0
 exact r0t 2 rfl
theorem aMn {p0:Int} {p1:Int} {r:aB × Bool} (h0:rO p0 p1=some r):FnC Tryz.prog 124 [] [dI p0,(dI p1)] [] (.tup [.agg [dI r.1.Num,(dI r.1.Den)],(dB r.2)]):=by
 refine fi 51 tok Tryz.func124 ?_
 unfold rO at h0
 refine au 1 ?_
 refine al 3 [z0,z0] tok ?_
 refine au 4 ?_
 obtain ⟨v1,hv1,h0⟩:=bnd h0
 refine cll 4 (aAp hv1) ?_
 refine pm ?_
 obtain ⟨v2,hv2,h0⟩:=bnd h0
 refine cll 4 (aAp hv2) ?_
 refine au 9 ?_
 obtain ⟨v7,h1,h0⟩:=bnd h0
 refine aN ⟨aA (aA (aA (aA (aA (aA aH 0 (dI p0)) 1 (dI p1)) 4 (bA 3)) 6 (.d (.v (.int .u64 v1)))) 7 (.d (.v (.int .u64 v2)))) 8 (.d (.v (.int .u64 v7))),lk3 [(slB 92 2 [z0,z0])]⟩ ?_ ?_
 refine au 1 ?_
 refine aK (fun s5=>⟨aA (aA (aA (aA (aA (aA (aA aH 0 (dI p0)) 1 (dI p1)) 4 (bA 3)) 6 (.d (.v (.int .u64 v1)))) 7 (.d (.v (.int .u64 v2)))) 8 (.d (.v (.int .u64 s5.1)))) 9 (.d (.v (.int .u64 s5.2))),lk3 [(slB 92 2 [z0,z0])]⟩) h1 ?_ (fun s5 y h2 => ?_)
 exact wk [0,1,2,3]
 refine au 5 ?_
 refine aif h2 ?_ ?_ <;> intro hc h2
 refine au 6 ?_
 obtain ⟨hq6,h2⟩:=aT h2
 refine tP rfl (eW rfl rfl hq6) (au 4 ?_)
 refine bD ?_
 cases h2
 refine ⟨_,rfl,?_⟩
 exact wk [0,1,2,3]
 refine au 2 ?_
 cases h2
 refine lpx fun e => ?_
 subst e
 refine au 2 ?_
 exact wk [0,1,2,3]
 refine au 4 ?_
 obtain ⟨hq8,h0⟩:=aT h0
 refine tP rfl (aFe rfl rfl hq8) (au 2 ?_)
 obtain ⟨hq9,h0⟩:=aT h0
 refine tP rfl (aFe rfl rfl hq9) (au 5 ?_)
 obtain ⟨v10,h1,h0⟩:=bnd h0
 refine aN ⟨aA (aA (aA (aA (aA (aA aH 0 (dI p0)) 1 (dI p1)) 4 (bA 3)) 6 (.d (.v (.int .u64 (IntKind.u64.wrap (v1.tdiv v7)))))) 7 (.d (.v (.int .u64 (IntKind.u64.wrap (v2.tdiv v7)))))) 34 (dB v10),lk3 [(slB 92 2 [z0,z0])]⟩ ?_ ?_
 refine au 4 ?_
 refine rif 31 h1 ?_ ?_ <;> intro hc h1
 refine au 4 ?_
 cases h1
 exact wk [0,1,2,3]
 refine au 4 ?_
 cases h1
 exact wk [0,1,2,3]
 refine aiB h0 ?_ ?_ <;> intro hc h0
 refine au 1 ?_
 refine rpb tok [z0,z0] ?_
 refine au 5 ?_
 cases h0
 exact cG (rs:=[.cell 4 92, .tmp 5]) rfl
 refine au 3 ?_
 refine rP rfl (aNh tok rfl rfl rfl rfl rfl) (pm ?_)
 refine rP rfl (aNh tok rfl rfl rfl rfl rfl) (rpb tok [z0,z0] ?_)
 refine al 4 [z0,z0] tok ?_
 refine au 2 ?_
 obtain ⟨v11,h1,h0⟩:=bnd h0
 refine aN ⟨aA (aA aH 4 (bA 3)) 10 (bA 4),lk3 [(slB 92 2 [z0,z0]),(slB 92 2 [dI v11.Num,(dI v11.Den)])]⟩ ?_ ?_
 refine au 5 ?_
 refine rP rfl (aTt tok rfl rfl rfl rfl) (nx ?_)
 refine aiB h1 ?_ ?_ <;> intro hc h1
 refine au 7 ?_
 cases h1
 exact wk [0,1,2,3,4]
 refine sk ?_
 cases h1
 exact wk [0,1,2,3,4]
 refine au 6 ?_
 cases h0
 exact cG (rs:=[.cell 4 92, .tmp 5]) rfl
theorem kX {p0:Int} {p1:Int} {r:aB × Int} (h0:fL p0 p1=some r):FnC Tryz.prog 65 [] [dI p0,(dI p1)] [] (.tup [.agg [dI r.1.Num,(dI r.1.Den)],(dI r.2)]):=by
 refine fi 21 tok Tryz.func65 ?_
 unfold fL at h0
 refine au 1 ?_
 refine al 3 [z0,z0] tok ?_
 refine au 7 ?_
 refine aif h0 ?_ ?_ <;> intro hc h0
 refine au 1 ?_
 refine rpb tok [z0,z0] ?_
 refine au 5 ?_
 cases h0
 exact cG (rs:=[.cell 4 92, .tmp 5]) rfl
 refine au 4 ?_
 obtain ⟨v1,hv1,h0⟩:=bnd h0
 refine cll 4 (aMn hv1) ?_
 refine au 3 ?_
 refine al 4 [z0,z0] tok ?_
 refine au 8 ?_
 refine aiB h0 ?_ ?_ <;> intro hc h0
 refine au 1 ?_
 refine rpb tok [z0,z0] ?_
 refine au 5 ?_
 cases h0
 exact cG (rs:=[.cell 4 92, .tmp 5]) rfl
 refine au 7 ?_
 cases h0
 exact cG (rs:=[.cell 4 92, .tmp 5]) rfl
theorem dD {p0:aB} {r:Bool} (h0:bZ p0=some r):FnC Tryz.prog 150 [] [.agg [dI p0.Num,(dI p0.Den)]] [] (dB r):=by
 refine fi 19 tok Tryz.func150 ?_
 unfold bZ at h0
 refine au 1 ?_
 refine bxx 3 ?_
 refine au 5 ?_
 obtain ⟨v1,hv1,h0⟩:=bnd h0
 refine cll 4 (bK hv1) ?_
 refine pm ?_
 refine riB 6 h0 ?_ ?_ <;> intro hc h0
 refine au 2 ?_
 obtain ⟨v2,hv2,h0⟩:=bnd h0
 refine cl1 4 (bK hv2) ?_
 refine au 2 ?_
 refine riB 11 h0 ?_ ?_ <;> intro hc h0
 refine au 4 ?_
 obtain ⟨v3,hv3,h0⟩:=bnd h0
 refine cl1 4 (aIb hv3) ?_
 refine au 5 ?_
 cases h0
 exact r0t 2 rfl
 refine au 10 ?_
 cases h0
 exact r0t 2 rfl
 refine au 15 ?_
 cases h0
 exact r0t 2 rfl
theorem aAr {p0:Int} {p1:Int} {r:Bool} (h0:qP p0 p1=some r):FnC Tryz.prog 250 [] [dI p0,(dI p1)] [] (dB r):=by
 refine fi 22 tok Tryz.func250 ?_
 unfold qP at h0
 refine au 7 ?_
 refine rif 7 h0 ?_ ?_ <;> intro hc h0
 refine au 4 ?_
 refine rif 11 h0 ?_ ?_ <;> intro hc h0
 refine au 5 ?_
 refine rif 16 h0 ?_ ?_ <;> intro hc h0
 refine au 8 ?_
 cases h0
 exact r0t 4 rfl
 refine au 8 ?_
 cases h0
 exact r0t 4 rfl
 refine au 13 ?_
 cases h0
 exact r0t 4 rfl
 refine au 17 ?_
 cases h0
 exact r0t 4 rfl
theorem aEr {p0:qX} {r:Bool} (h0:rH p0=some r):FnC Tryz.prog 189 [] [.agg (zV p0)] [] (dB r):=by
 refine fi 20 tok Tryz.func189 ?_
 unfold rH at h0
 refine au 1 ?_
 refine bxx 3 ?_
 refine au 7 ?_
 obtain ⟨v1,hv1,h0⟩:=bnd h0
 refine cll 4 (aAr hv1) ?_
 refine pm ?_
 refine riB 8 h0 ?_ ?_ <;> intro hc h0
 refine au 4 ?_
 obtain ⟨v2,hv2,h0⟩:=bnd h0
 refine cl1 4 (aAr hv2) ?_
 refine au 2 ?_
 refine riB 15 h0 ?_ ?_ <;> intro hc h0
 refine au 2 ?_
 obtain ⟨v3,hv3,h0⟩:=bnd h0
 refine cl1 4 (bK hv3) ?_
 refine au 4 ?_
 cases h0
 exact r0t 2 rfl
 refine au 7 ?_
 cases h0
 exact r0t 2 rfl
 refine au 14 ?_
 cases h0
 exact r0t 2 rfl
theorem aMi {p0:aB} {p1:qX} {r:Int} (h0:zF p0 p1=some r):FnC Tryz.prog 125 [] [.agg [dI p0.Num,(dI p0.Den)], .agg (zV p1)] [] (dI r):=by
 refine fi 28 tok Tryz.func125 ?_
 unfold zF at h0
 refine au 1 ?_
 refine bxx 3 ?_
 refine bxx 4 ?_
 refine au 4 ?_
 obtain ⟨v3,h1,h0⟩:=bnd h0
 refine aN ⟨aA (aA aH 2 (bA 3)) 5 (dB v3),lk3 [(slB 92 2 [dI p0.Num,(dI p0.Den)])]⟩ ?_ ?_
 refine au 2 ?_
 obtain ⟨v1,hv1,h1⟩:=bnd h1
 refine cll 5 (dD hv1) ?_
 refine au 2 ?_
 refine riB 9 h1 ?_ ?_ <;> intro hc h1
 refine au 6 ?_
 cases h1
 exact wk [0,1,2,3]
 refine au 1 ?_
 obtain ⟨v2,hv2,h1⟩:=bnd h1
 refine cl1 5 (aEr hv2) ?_
 refine au 4 ?_
 cases h1
 exact wk [0,1,2,3]
 refine aiB h0 ?_ ?_ <;> intro hc h0
 refine au 6 ?_
 cases h0
 exact r0t 4 rfl
 obtain ⟨v4,h1,h0⟩:=bnd h0
 refine aN ⟨aA aH 14 (dB v4),lk3 []⟩ ?_ ?_
 refine au 5 ?_
 refine rif 18 h1 ?_ ?_ <;> intro hc h1
 refine au 11 ?_
 cases h1
 exact wk [0,1,2]
 refine au 5 ?_
 refine rif 23 h1 ?_ ?_ <;> intro hc h1
 refine au 6 ?_
 cases h1
 exact wk [0,1,2]
 refine au 6 ?_
 cases h1
 exact wk [0,1,2]
 refine aiB h0 ?_ ?_ <;> intro hc h0
 refine au 6 ?_
 cases h0
 exact r0t 4 rfl
 refine au 7 ?_
 cases h0
 exact r0t 4 rfl
theorem aG1 {p0 p1 p2:Int} {r:aGq} (h0:aBw p0 p1 p2=some r):FnC Tryz.prog 190 [] [dI p0,(dI p1),(dI p2)] [] (.agg [dL cI r.products, .d (.mp r.lists)]):=by
 obtain ⟨q0,h0⟩:=aT h0
 cases h0
 exact bB7 q0
theorem tQ {p0:Int} {r:Bool} (h0:kU p0=some r):FnC Tryz.prog 251 [] [dI p0] [] (dB r):=by
 refine fi 6 tok Tryz.func251 ?_
 unfold kU at h0
 refine au 10 ?_
 cases h0
 exact r0t 2 rfl
theorem gS {p0:Int} {p1:Int} {r:Int} (h0:eN p0 p1=some r):FnC Tryz.prog 193 [] [dI p0,(dI p1)] [] (dI r):=by
 refine fi 20 tok Tryz.func193 ?_
 unfold eN at h0
 refine au 5 ?_
 obtain ⟨v1,hv1,h0⟩:=bnd h0
 refine cll 3 (tQ hv1) ?_
 refine au 4 ?_
 obtain ⟨v2,hv2,h0⟩:=bnd h0
 refine cll 3 (tQ hv2) ?_
 refine au 6 ?_
 refine aiB h0 ?_ ?_ <;> intro hc h0
 refine au 4 ?_
 refine aiB h0 ?_ ?_ <;> intro hc h0
 refine au 6 ?_
 cases h0
 exact r0t 4 rfl
 refine au 6 ?_
 cases h0
 exact r0t 4 rfl
 refine au 5 ?_
 refine aiB h0 ?_ ?_ <;> intro hc h0
 refine au 5 ?_
 cases h0
 exact r0t 4 rfl
 refine au 7 ?_
 refine aif h0 ?_ ?_ <;> intro hc h0
 refine au 5 ?_
 cases h0
 exact r0t 4 rfl
 refine au 7 ?_
 refine aif h0 ?_ ?_ <;> intro hc h0
 refine au 5 ?_
 cases h0
 exact r0t 4 rfl
 refine au 5 ?_
 cases h0
 exact r0t 4 rfl
theorem wY {p0:Int} {p1:Int} {p2:aB} {r:Int} (h0:nJ p0 p1 p2=some r):FnC Tryz.prog 192 [] [dI p0,(dI p1), .ref (dR p2)] [] (dI r):=by
 refine fi 15 tok Tryz.func192 ?_
 unfold nJ at h0
 refine au 12 ?_
 obtain ⟨v1,hv1,h0⟩:=bnd h0
 refine cll 3 (gS hv1) ?_
 refine au 3 ?_
 cases h0
 exact r0t 5 rfl
theorem fN {p0:List Int} {p1:Int} {p2_0:aB} {r:Int × Bool} (h0:bX p0 p1 p2_0=some r):FnC Tryz.prog 191 [] [dL cI p0,(dI p1), .fn 192 [.ref (dR p2_0)]] [] (.tup [dI r.1,(dB r.2)]):=by
 refine fi 49 tok Tryz.func191 ?_
 unfold bX at h0
 refine au 14 ?_
 obtain ⟨v9,h1,h0⟩:=bnd h0
 refine aN ⟨aA (aA (aA (aA (aA aH 0 (dL cI p0)) 1 (dI p1)) 2 (.fn 192 [.ref (dR p2_0)])) 8 (dI (p0.length:Int))) 9 (dI v9),lk3 []⟩ ?_ ?_
 refine au 1 ?_
 refine aK (fun s5=>⟨aA (aA (aA (aA (aA (aA aH 0 (dL cI p0)) 1 (dI p1)) 2 (.fn 192 [.ref (dR p2_0)])) 8 (dI (p0.length:Int))) 9 (dI s5.1)) 10 (dI s5.2),lk3 []⟩) h1 ?_ (fun s5 y h2 => ?_)
 exact wk [0,1,2]
 refine au 6 ?_
 refine aif h2 ?_ ?_ <;> intro hc h2
 refine au 6 ?_
 refine rP rfl (aNe tok rfl rfl rfl rfl rfl) (rP rfl (aX2 rfl rfl (by decide)) (rP rfl (aNh tok rfl rfl rfl rfl rfl) (au 3 ?_)))
 refine rP rfl (gZ (r := .fn _ _) rfl) (au 2 ?_)
 obtain ⟨v7,hv7,h2⟩:=bnd h2
 refine rP rfl (bS tok hv7 rfl rfl rfl rfl rfl rfl) (au 2 ?_)
 obtain ⟨v8,hv8,h2⟩:=bnd h2
 refine cll 3 (wY hv8) ?_
 refine au 2 ?_
 refine aif h2 ?_ ?_ <;> intro hc h2
 refine au 6 ?_
 refine bD ?_
 cases h2
 refine ⟨_,rfl,?_⟩
 exact wk [0,1,2]
 refine au 5 ?_
 refine bD ?_
 cases h2
 refine ⟨_,rfl,?_⟩
 exact wk [0,1,2]
 refine au 2 ?_
 cases h2
 refine lpx fun e => ?_
 subst e
 refine au 2 ?_
 exact wk [0,1,2]
 refine au 6 ?_
 refine rif 39 h0 ?_ ?_ <;> intro hc h0
 refine rp rfl (w1 rfl rfl rfl) rfl (gZ (r := .fn _ _) rfl) (au 2 ?_)
 obtain ⟨v10,hv10,h0⟩:=bnd h0
 refine rp rfl (w1 rfl rfl rfl) rfl (bS tok hv10 rfl rfl rfl rfl rfl rfl) (au 2 ?_)
 obtain ⟨v11,hv11,h0⟩:=bnd h0
 refine cl1 3 (wY hv11) ?_
 refine au 6 ?_
 cases h0
 exact cG (rs:=[.tmp 6, .tmp 7]) rfl
 refine au 13 ?_
 cases h0
 exact cG (rs:=[.tmp 6, .tmp 7]) rfl
theorem aH5 {p0:Int} {r:Int} (h0:wX p0=some r):FnC Tryz.prog 129 [] [dI p0] [] (dI r):=by
 refine fi 8 tok Tryz.func129 ?_
 unfold wX at h0
 refine au 8 ?_
 refine aif h0 ?_ ?_ <;> intro hc h0
 refine au 7 ?_
 cases h0
 exact r0t 2 rfl
 refine au 6 ?_
 cases h0
 exact r0t 2 rfl
theorem aQk {p0:Int} {p1:Int} {p2:aB} {r:uJ} (h0:aBu p0 p1 p2=some r):FnC Tryz.prog 194 [] [dI p0,(dI p1), .agg [dI p2.Num,(dI p2.Den)]] [] (.agg (qZ r)):=by
 refine fi 20 tok Tryz.func194 ?_
 unfold aBu at h0
 refine au 1 ?_
 refine bxx 3 ?_
 refine al 4 xX tok ?_
 refine au 13 ?_
 obtain ⟨v1,hv1,h0⟩:=bnd h0
 refine cll 5 (aH5 hv1) ?_
 refine rpb tok xX ?_
 refine au 3 ?_
 cases h0
 exact cG (rs:=[.cell 6 282]) rfl
theorem yT {p0:uJ} {p1:uJ} {r:Int} (h0:pA p0 p1=some r):FnC Tryz.prog 195 [] [.agg (qZ p0), .agg (qZ p1)] [] (dI r):=by
 refine fi 16 tok Tryz.func195 ?_
 unfold pA at h0
 refine au 1 ?_
 refine bxx 3 ?_
 refine bxx 4 ?_
 refine au 13 ?_
 obtain ⟨v1,hv1,h0⟩:=bnd h0
 refine cll 5 (gS hv1) ?_
 refine au 3 ?_
 cases h0
 exact r0t 4 rfl
theorem dY {p0:List Int} {r:List Int} (h0:bE p0=some r):FnC Tryz.prog 92 [] [dL cI p0] [slD 2 1 cI r] (bI 0 r):=by
 refine fi 8 tok Tryz.func92 ?_
 unfold bE at h0
 obtain ⟨hq1,h0⟩:=aT h0
 cases h0
 refine aDl (d:=0) rfl rfl (fun hne => ?_) (fun he A k hk => ?_)
 ·skip
  refine au 6 ?_
  refine rP rfl (rW tok rfl hne rfl rfl rfl) (au 1 ?_)
  refine pJ rfl (au 2 ?_)
  refine rS rfl (kR 3 tok rfl rfl rfl rfl) (au 1 ?_)
  refine rw1 rfl w0 rfl (fJ tok hq1 rfl rfl rfl rfl rfl rfl rfl rfl rfl rfl rfl rfl (fun _=>rfl)) (au 3 ?_)
  exact bV (rs:=[.tmp 2]) [3] rfl
 ·skip
  have he:p0=[]:=List.map_eq_nil_iff.1 he
  subst he
  cases A with
  | none =>
   refine au 6 ?_
   refine rP rfl (lE tok rfl rfl rfl rfl) (au 1 ?_)
   refine zX rfl (au 3 ?_)
   refine bL (aR 3 rfl 2 1 (d:=2) rfl) (au 2 ?_)
   exact bV (rs:=[.tmp 2]) [3] rfl
  | some a =>
   refine au 6 ?_
   refine rP rfl (lE tok rfl rfl rfl rfl) (au 1 ?_)
   refine pJ rfl (au 1 ?_)
   refine bL (aBe cI (d:=0) rfl hk) (au 1 ?_)
   refine rS rfl (kR 3 tok rfl rfl rfl rfl) (au 1 ?_)
   refine rw1 rfl w0 rfl (fJ tok hq1 rfl rfl rfl rfl rfl rfl rfl rfl rfl rfl rfl rfl (fun _=>rfl)) (au 3 ?_)
   exact bV (rs:=[.tmp 2]) [3] rfl
theorem oU {p0:List Int} {r:List Int} (h0:fI p0=some r):FnC Tryz.prog 252 [slD 2 1 cI p0] [bI 0 p0] [slD 2 1 cI r] (.tup []):=by
 refine fi 28 tok Tryz.func252 ?_
 unfold fI at h0
 refine au 8 ?_
 refine aK (fun s6=>⟨aA (aA (aA aH 0 (bI 0 s6.2.2)) 2 (dI s6.1)) 3 (dI s6.2.1),lks [(slD 2 1 cI s6.2.2), .no, .no]⟩) h0 ?_ (fun s6 y h1 => ?_)
 exact wk [0,1,2]
 refine au 6 ?_
 refine aif h1 ?_ ?_ <;> intro hc h1
 refine au 10 ?_
 obtain ⟨v7,hv7,h1⟩:=bnd h1
 refine jX rfl w0 rfl (eV tok hv7 rfl rfl rfl rfl rfl rfl rfl rfl) rfl rfl rfl (jX rfl w0 rfl (gI tok (eE hv7).2.1 rfl rfl rfl rfl rfl rfl) rfl rfl rfl (au 2 ?_))
 obtain ⟨v8,hv8,h1⟩:=bnd h1
 refine jX rfl w0 rfl (eV tok hv8 rfl rfl rfl rfl rfl rfl rfl rfl) rfl rfl rfl (jX rfl w0 rfl (gI tok (eE hv8).2.1 rfl rfl rfl rfl rfl rfl) rfl rfl rfl ?_)
 obtain ⟨v9,hv9,h1⟩:=bnd h1
 refine jX rfl w0 rfl (eV tok hv9 rfl rfl rfl rfl rfl rfl rfl rfl) rfl rfl rfl (aZs rfl w0 (aA2 (cs:=[.d _]) tok v7 (eE hv9).2.1 rfl rfl rfl rfl rfl rfl rfl rfl) ?_)
 obtain ⟨v10,hv10,h1⟩:=bnd h1
 refine jX rfl w0 rfl (eV tok hv10 rfl rfl rfl rfl rfl rfl (by first | (simp;done) | omega | (simp;omega)) rfl) rfl rfl rfl (aZs rfl w0 (aA2 (cs:=[.d _]) tok v8 (eE hv10).2.1 rfl rfl rfl rfl rfl rfl rfl (by first | (simp;done) | omega | (simp;omega))) (au 11 ?_))
 refine bD ?_
 cases h1
 refine ⟨_,rfl,?_⟩
 exact wk [0,1,2]
 refine au 2 ?_
 cases h1
 refine lpx fun e => ?_
 subst e
 refine au 1 ?_
 exact nZ (rs:=[]) 1 rfl rfl
theorem aQl {p0:List Int} {p1:List Int} {r:List dU} (h0:aBv p0 p1=some r):FnC Tryz.prog 253 [] [dL cI p0,(dL cI p1)] [slD 145 2 eD r] (bI 0 r):=by
 refine fi 26 tok Tryz.func253 ?_
 unfold aBv at h0
 refine au 6 ?_
 obtain ⟨v9,h1,h0⟩:=bnd h0
 refine aN ⟨aA aH 5 (bI 3 v9),lk3 [slD 145 2 eD v9]⟩ ?_ ?_
 refine au 6 ?_
 refine aK (fun s5=>⟨aA (aA (aA (aA (aA aH 0 (dL cI p0)) 1 (dL cI p1)) 5 (bI 3 s5.2)) 8 (dI (p0.length:Int))) 9 (dI s5.1),lk3 [slD 145 2 eD s5.2]⟩) h1 ?_ (fun s5 y h2 => ?_)
 refine lJ.trans_ (aR 3 rfl 145 2 (d:=5) rfl) ?_
 exact wk [0,1,2,3]
 refine au 4 ?_
 refine aif h2 ?_ ?_ <;> intro hc h2
 refine au 11 ?_
 obtain ⟨v6,hv6,h2⟩:=bnd h2
 refine tP rfl (bS tok hv6 rfl rfl rfl rfl rfl rfl) (au 3 ?_)
 obtain ⟨v7,hv7,h2⟩:=bnd h2
 refine tP rfl (bS tok hv7 rfl rfl rfl rfl rfl rfl) (au 1 ?_)
 refine tP rfl (pbl (C0:=[z0,z0]) tok rfl rfl rfl) (bDw rfl w0 rfl (aXn tok eD [(⟨v6,v7⟩:dU)] rfl rfl rfl (by repeat (first | exact Els.nil _ | apply Els.cons (cs:=[.d _]) rfl rfl rfl | apply Els.cons (cs:=_ :: _) rfl rfl rfl)) rfl rfl rfl (by repeat (first | exact pH.nil | (apply pH.cons; (repeat (first | exact aC6.nil | apply aC6.cons))))) rfl) ?_)
 obtain ⟨hq8,h2⟩:=aT h2
 refine aPe rfl w0 rfl (fJ tok hq8 rfl rfl rfl rfl rfl rfl rfl rfl rfl rfl rfl rfl (fun _=>rfl)) (au 8 ?_)
 refine bD ?_
 cases h2
 refine ⟨_,rfl,?_⟩
 exact wk [0,1,2,3]
 refine au 2 ?_
 cases h2
 refine lpx fun e => ?_
 subst e
 refine au 2 ?_
 exact wk [0,1,2,3]
 refine au 5 ?_
 cases h0
 exact bV (rs:=[.tmp 4]) [3] rfl
theorem aH7 {p0:List Int} {p1:List Int} {r:List dU} (h0:vB p0 p1=some r):FnC Tryz.prog 196 [] [dL cI p0,(dL cI p1)] [slD 145 2 eD r] (bI 0 r):=by
 refine fi 13 tok Tryz.func196 ?_
 unfold vB at h0
 refine au 5 ?_
 obtain ⟨v1,hv1,h0⟩:=bnd h0
 refine cll 3 (dY hv1) ?_
 refine au 4 ?_
 obtain ⟨v2,hv2,h0⟩:=bnd h0
 obtain ⟨hq3,h0⟩:=aT h0
 refine rw1 rfl w0 rfl (eS [3] 300 (oU hv2) rfl rfl) (au 4 ?_)
 obtain ⟨v4,hv4,h0⟩:=bnd h0
 refine rS rfl (fG 4 (aQl hv4) rfl rfl) (au 3 ?_)
 cases h0
 exact bV (rs:=[.tmp 4]) [4] rfl
theorem aE1 {p0:List dU} {r:Int} (h0:vG p0=some r):FnC Tryz.prog 254 [] [dL eD p0] [] (dI r):=by
 refine fi 21 tok Tryz.func254 ?_
 unfold vG at h0
 refine au 6 ?_
 obtain ⟨v5,h1,h0⟩:=bnd h0
 refine aN ⟨aA aH 3 (dI v5),lk3 []⟩ ?_ ?_
 refine au 6 ?_
 refine aK (fun s3=>⟨aA (aA (aA (aA aH 3 (dI s3.1)) 6 (dL eD p0)) 7 (dI (p0.length:Int))) 8 (dI s3.2),lk3 []⟩) h1 ?_ (fun s3 y h2 => ?_)
 exact wk [0,1,2]
 refine au 4 ?_
 refine aif h2 ?_ ?_ <;> intro hc h2
 refine au 4 ?_
 obtain ⟨v4,hv4,h2⟩:=bnd h2
 refine rP rfl (bS tok hv4 rfl rfl rfl rfl rfl rfl) (au 1 ?_)
 refine al 3 [z0,z0] tok ?_
 refine au 18 ?_
 refine bD ?_
 cases h2
 refine ⟨_,rfl,?_⟩
 exact wk [0,1,2]
 refine au 2 ?_
 cases h2
 refine lpx fun e => ?_
 subst e
 refine au 2 ?_
 exact wk [0,1,2]
 refine au 5 ?_
 cases h0
 exact r0t 2 rfl
theorem aJt {p0:List Int} {r:Int} (h0:wN p0=some r):FnC Tryz.prog 257 [] [dL cI p0] [] (dI r):=by
 refine fi 18 tok Tryz.func257 ?_
 unfold wN at h0
 refine au 6 ?_
 obtain ⟨v5x,h1,h0⟩:=bnd h0
 refine cF v5x (fun v5=>⟨aA aH 3 (z0),lk3 []⟩) ?_ ?_
 refine au 6 ?_
 refine aK (fun s3=>⟨aA (aA (aA (aA aH 3 (z0)) 6 (dL cI p0)) 7 (dI (p0.length:Int))) 8 (dI s3),lk3 []⟩) h1 ?_ (fun s3 y h2 => ?_)
 exact wk [0,1,2]
 refine au 4 ?_
 refine aif h2 ?_ ?_ <;> intro hc h2
 refine au 4 ?_
 obtain ⟨v4,hv4,h2⟩:=bnd h2
 refine rP rfl (bS tok hv4 rfl rfl rfl rfl rfl rfl) (au 8 ?_)
 refine aif h2 ?_ ?_ <;> intro hc h2
 refine au 7 ?_
 cases h2
 refine lpr fun e => ?_
 subst e
 refine au 1 ?_
 replace h0:=eO h0
 refine au 1 ?_
 cases h0
 exact r0t 2 rfl
 refine au 7 ?_
 refine bD ?_
 cases h2
 refine ⟨_,rfl,?_⟩
 exact wk [0,1,2]
 refine au 2 ?_
 cases h2
 refine lpx fun e => ?_
 subst e
 refine au 2 ?_
 refine ⟨_,rfl,?_⟩
 exact wk [0,1,2]
 rintro v5 rfl
 replace h0:=gO h0
 refine au 5 ?_
 cases h0
 exact r0t 2 rfl
end Go.Proofs.YtbliejnpjpnahaaGreatDoor
