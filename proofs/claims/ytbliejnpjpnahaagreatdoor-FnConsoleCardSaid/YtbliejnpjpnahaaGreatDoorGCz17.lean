/- Texts of this claim, one behind the other (merged by a program of mine). -/
import Derived.Test.YtbliejnpjpnahaaGreatDoorTie
import Derived.Lib.LaidTab
import Derived.Stop.LaidErr
import Derived.SevenTiedAt
import Derived.Test.YtbliejnpjpnahaaGreatDoorGCz16
set_option linter.unusedSimpArgs false
set_option linter.unusedVariables false
namespace Go.Proofs.YtbliejnpjpnahaaGreatDoor
set_option linter.unusedVariables false
set_option maxRecDepth 100000
def aBy (o:ByteArray) (ts:List ByteArray):ByteArray:=ts.foldl (fun o t=>o++(t++⟨#[10]⟩)) o
def aJq (x:cH × ByteArray) (l:ByteArray):cH × ByteArray:=match dX ⟨x.1⟩ l with
 | some r=>if r.2.2=7 then (x.1,x.2++⟨#[63,10]⟩) else (r.1.Sim,aBy x.2 r.2.1)
 | none=>x
def aL7 (s:cH) (ls:List ByteArray):cH × ByteArray:=ls.foldl aJq (s,⟨#[]⟩)
theorem aJ0 {α β:Type} (f:β→α→β) (a:β) {xs:List α} {i:Nat} (hi:i<xs.length):(xs.take (i+1)).foldl f a=f ((xs.take i).foldl f a) xs[i]:=by
 rw [List.take_succ_eq_append_getElem hi,List.foldl_append];rfl
theorem aIo:(⟨#[10]⟩:ByteArray).size=1:=rfl
theorem aWk:(⟨#[63,10]⟩:ByteArray).size=2:=rfl
theorem aAy : ∀ {ts:List ByteArray} (o:ByteArray),(∀ t ∈ ts,t.size≤1010)→(aBy o ts).size≤o.size+ts.length*1011
 | [],o,_=>Nat.le_refl _
 | t :: ts,o,h=>by
  have ih:=aAy (ts:=ts) (o++(t++⟨#[10]⟩)) (fun u hu=>h u (List.mem_cons_of_mem _ hu))
  have ht:=h t (List.mem_cons_self ..)
  rw [eI,eI,aIo] at ih
  show (aBy (o++(t++⟨#[10]⟩)) ts).size≤_
  simp only [List.length_cons]
  omega
theorem aFb {ts:List ByteArray} (h:Lns ts) (o:ByteArray) (i:Nat):(aBy o (ts.take i)).size≤o.size+1012011:=by
 have:=aAy (ts:=ts.take i) o (fun t ht=>h.2 t (List.mem_of_mem_take ht))
 have h1:=h.1
 have h2:(ts.take i).length≤1001:=by rw [List.length_take];omega
 omega
theorem aPa {ts:List ByteArray} (h:Lns ts) (o:ByteArray):(aBy o ts).size≤o.size+1012011:=by
 have:=aFb h o ts.length
 rwa [List.take_length] at this
theorem aAz {ts:List ByteArray} {i:Nat} (o:ByteArray) (hi:i<ts.length):aBy o (ts.take (i+1))=aBy o (ts.take i)++(ts[i]++⟨#[10]⟩):=aJ0 _ _ hi
theorem aXr {s:cH} (h:zT s) {l:ByteArray} (hl:l ∈ LN):Ok (dX ⟨s⟩ l) (fun r=>dX ⟨s⟩ l=some r∧Res r):=by
 obtain ⟨r,e,hr⟩:=aP5 h hl
 exact ⟨r,e,e,hr⟩
theorem aXl {s:cH} {o l:ByteArray} {r:jE × List ByteArray × Int} (h:dX ⟨s⟩ l=some r) (h7:r.2.2=7):aJq (s,o) l=(s,o++⟨#[63,10]⟩):=by
 unfold aJq;dsimp only;rw [h];exact if_pos h7
theorem aXk {s:cH} {o l:ByteArray} {r:jE × List ByteArray × Int} (h:dX ⟨s⟩ l=some r) (h0:r.2.2=0):aJq (s,o) l=(r.1.Sim,aBy o r.2.1):=by
 unfold aJq;dsimp only;rw [h];exact if_neg (by rw [h0];decide)
theorem aJz {ls:List ByteArray} {i:Nat} {s:cH} (hi:i<ls.length):aL7 s (ls.take (i+1))=aJq (aL7 s (ls.take i)) ls[i]:=aJ0 _ _ hi
theorem aU3:LN.all (fun l=>Nat.ble l.size 60 && !((tl l).contains 10))=true:=by kernel_rfl
theorem aQr {l:ByteArray} (h:l ∈ LN):l.size≤60∧(10:UInt8) ∉ tl l:=by
 have:=List.all_eq_true.1 aU3 l h
 simp only [Bool.and_eq_true,Nat.ble_eq,Bool.not_eq_true',List.contains_eq_mem,decide_eq_false_iff_not] at this
 exact this
def aJy (ts:List ByteArray):List UInt8:=ts.flatMap fun t=>tl t++[10]
theorem aN4 : ∀ (ts:List ByteArray) (o:ByteArray),tl (aBy o ts)=tl o++aJy ts
 | [],o=>by simp [aBy,aJy]
 | t :: ts,o=>by
  show tl (aBy (o++(t++⟨#[10]⟩)) ts)=_
  rw [aN4 ts,aLl,aLl]
  show _=tl o++((tl t++[10])++aJy ts)
  rw [List.append_assoc]
theorem aFo : ∀ {ts:List ByteArray} {l:List UInt8},(∀ t ∈ ts,(10:UInt8) ∉ tl t)→(10:UInt8) ∉ l→nU 10 (aJy ts++l)=ts.map tl++[l]
 | [],l,_,hl=>zQ hl
 | t :: ts,l,h,hl=>by
  have ih:=aFo (ts:=ts) (fun u hu=>h u (List.mem_cons_of_mem _ hu)) hl
  show nU 10 (((tl t++[10])++aJy ts)++l)=_
  rw [List.append_assoc,List.append_assoc]
  show nU 10 (tl t++10 :: (aJy ts++l))=_
  rw [aB6 (h t (List.mem_cons_self ..)),ih];rfl
theorem bAd {a:ByteArray} (h:a.size≤1048576):eF (a++⟨#[10]⟩) ⟨#[10]⟩=some a:=by
 unfold eF dO dT
 rw [eI,aIo,if_pos (by omega),show w64 (((a.size+1:Nat):Int)-((1:Nat):Int))=(a.size:Int) by rw [aQ (by omega) (by omega)];omega,eA (by omega),Option.bind_some]
 have n1:((a.size:Nat):Int).toNat=a.size:=by omega
 have n2:(((a.size+1:Nat):Int)).toNat=a.size+1:=by omega
 have hl:=aLm a
 have e1:(a++⟨#[10]⟩:ByteArray).extract ((a.size:Nat):Int).toNat (((a.size+1:Nat):Int)).toNat=⟨#[10]⟩:=aPt (by
  rw [n1,n2,aPs,aLl,List.take_of_length_le (by rw [List.length_append,hl];exact Nat.le_refl _), ← hl,List.drop_left])
 have e2:(a++⟨#[10]⟩:ByteArray).extract (0:Int).toNat ((a.size:Nat):Int).toNat=a:=aPt (by
  rw [n1,aPs,aLl, ← hl,List.take_left];rfl)
 rw [e1,if_pos (by simp),eA (by omega),e2,Option.bind_some]
theorem aMs {ls:List ByteArray} (h1:1≤ls.length) (h8:ls.length≤8) (hl : ∀ l ∈ ls,l ∈ LN):(eF (aBy ⟨#[]⟩ ls) ⟨#[10]⟩).bind (fun v2=>fQ v2 ⟨#[10]⟩)=some ls:=by
 obtain ⟨is,l,rfl⟩ : ∃ is l,ls=is++[l]:=⟨_,_,(List.dropLast_concat_getLast (List.ne_nil_of_length_pos h1)).symm⟩
 have e:aBy ⟨#[]⟩ (is++[l])=(aBy ⟨#[]⟩ is++l)++⟨#[10]⟩:=by
  show (is++[l]).foldl _ _=_
  rw [List.foldl_append]
  exact (ByteArray.append_assoc).symm
 have hs:=aAy (ts:=is) ⟨#[]⟩ (fun t ht=>Nat.le_trans (aQr (hl t (List.mem_append_left _ ht))).1 (by decide))
 have hz:=(aQr (hl l (by simp))).1
 have hi:is.length≤8:=by simp at h8;omega
 rw [aGw] at hs
 have hb:(aBy ⟨#[]⟩ is++l).size≤1048576:=by rw [eI];omega
 rw [e,bAd hb,Option.bind_some,aW2 hb,aLl,aN4]
 show some ((nU 10 (aJy is++tl l)).map ba)=_
 rw [aFo (fun t ht=>(aQr (hl t (List.mem_append_left _ ht))).2) (aQr (hl l (by simp))).2,List.map_append,List.map_map]
 show some (is.map (fun x=>ba (tl x))++[ba (tl l)])=_
 simp [aVd]
theorem bAb {ls:List ByteArray} (h1:1≤ls.length) : ¬ aBy ⟨#[]⟩ ls=⟨#[]⟩:=by
 intro e
 have:=congrArg tl e
 rw [aN4] at this
 match ls,h1 with
 | l :: ls,_=>simp [aJy] at this
theorem aQ6 {ls:List ByteArray} {d:jE} (hd:kL=some d) (hg:zT d.Sim) (h1:1≤ls.length) (h8:ls.length≤8) (hl : ∀ l ∈ ls,l ∈ LN):Ok (rF (aBy ⟨#[]⟩ ls)) (fun t=>t=(aL7 d.Sim ls).2):=by
 unfold rF
 rw [if_neg (bAb h1),hd,Option.bind_some]
 have hsp:=aMs h1 h8 hl
 refine aO (P:=fun t=>t=(aL7 d.Sim ls).2) ?_ fun t ht=>aI ht
 cases ht:eF (aBy ⟨#[]⟩ ls) ⟨#[10]⟩ with
 | none=>rw [ht] at hsp;exact absurd hsp (by simp)
 | some v2 =>
 rw [ht,Option.bind_some] at hsp
 rw [Option.bind_some,hsp,Option.bind_some]
 refine vM (I:=fun (st:Int × ByteArray × aU5) => ∃ (i:Nat) (s:cH) (o:ByteArray),i≤ls.length∧zT s∧o.size≤i*1012011∧aL7 d.Sim (ls.take i)=(s,o)∧st=((i:Int),o,aRk s)) (m:=fun st=>((ls.length:Int)-st.1).toNat) (fun st hI => ?_) _ ⟨0,d.Sim,⟨#[]⟩,by omega,hg,by simp [aGw],rfl,rfl⟩ (by dsimp only;omega)
 obtain ⟨i,s,o,hi,hs,ho,hf,rfl⟩:=hI
 dsimp only [aRk]
 refine cU (fun hlt => ?_) fun hge=>aI (.inr ⟨_,rfl,?_⟩)
 ·have hlt:i<ls.length:=by omega
  refine aO (P:=fun v => ∃ (s':cH) (o':ByteArray),v = .inl (o',aRk s')∧zT s'∧o'.size≤(i+1)*1012011∧aJq (s,o) ls[i]=(s',o')) ?_ fun v ⟨s',o',e,q1,q2,q3⟩ => ?_
  ·rw [eL hlt,Option.bind_some]
   refine cU (fun h60=>absurd h60 (by omega)) fun _ => ?_
   refine aO (aXr hs (hl _ (List.getElem_mem hlt))) fun r ⟨hr,hR⟩=>cU (fun hn => ?_) fun h0 => ?_
   ·rcases hR with h7 | ⟨h0,_⟩
    ·refine gX ⟨by decide,by rw [aWk];omega⟩ (aI ⟨s,_,rfl,hs,?_,aXl hr h7⟩)
     rw [eI,aWk];omega
    ·exact absurd h0 hn
   ·have h0:r.2.2=0:=Classical.not_not.1 h0
    rcases hR with h7 | ⟨_,hg',hl1,hL⟩
    ·rw [h0] at h7;exact absurd h7 (by decide)
    have hall:=aPa hL o
    refine vM (I:=fun (st:Int × ByteArray) => ∃ j:Nat,j≤r.2.1.length∧st=((j:Int),aBy o (r.2.1.take j))) (m:=fun st=>((r.2.1.length:Int)-st.1).toNat) (fun st hI => ?_) _ ⟨0,by omega,rfl⟩ (by have:=hL.1;dsimp only;omega)
    obtain ⟨j,hj,rfl⟩:=hI
    dsimp only
    refine cU (fun hlt => ?_) fun hge=>aI (.inr ⟨_,rfl,r.1.Sim,aBy o r.2.1,?_,hg',?_,aXk hr h0⟩)
    ·have hlt:j<r.2.1.length:=by omega
     have ht:=hL.2 _ (List.getElem_mem hlt)
     have hk:=aFb hL o j
     have hn:=hL.1
     rw [eL hlt,Option.bind_some]
     refine gX (by rw [aIo];omega) (gX ⟨by rw [eI,aIo];omega,by rw [eI,aIo];omega⟩ (aI (.inl ⟨_,rfl,⟨j+1,hlt,?_⟩,?_⟩)))
     ·rw [aAz o hlt,aQ (by omega) (by omega)];rfl
     ·dsimp only;rw [aQ (by omega) (by omega)];omega
    ·have:j=r.2.1.length:=by omega
     subst this
     rw [List.take_length];rfl
    ·omega
  ·subst e
   refine aI (.inl ⟨_,rfl,⟨i+1,s',o',hlt,q1,q2,?_,?_⟩,?_⟩)
   ·rw [aJz hlt,hf,q3]
   ·rw [aQ (by omega) (by omega)];rfl
   ·dsimp only;rw [aQ (by omega) (by omega)];omega
 ·have:i=ls.length:=by omega
  subst this
  rw [List.take_length] at hf
  rw [hf]
end Go.Proofs.YtbliejnpjpnahaaGreatDoor
namespace Go.Proofs.YtbliejnpjpnahaaGreatDoor
set_option linter.unusedVariables false
set_option maxRecDepth 100000
theorem aMq (p0:List Int) (k0:osL bAq p0):nM p0=some true:=by
 have key:Ok (nM p0) (fun b=>b=true):=by
  unfold nM sV
  refine aO (P:=fun b=>b=true∨p0.length≤3000) (cU (fun _=>aI (.inl rfl)) fun h=>aI (.inr (by omega))) fun b hb=>cU (fun _=>aI rfl) fun hn => ?_
  have hlen:p0.length≤3000:=hb.resolve_left hn
  refine aO (aV7 (by omega) (fun b hb=>k0.2 b hb)) fun ls ⟨h1,h8,hl⟩ => ?_
  obtain ⟨d,hd,hg⟩:=aQw
  rw [hd,Option.bind_some]
  refine aO (P:=fun x=>x = .inl (aBy ⟨#[]⟩ ls,(aL7 d.Sim ls).2)) ?_ fun x e => ?_
  ·refine vM (I:=fun (st:ByteArray × ByteArray × Int × aU5) => ∃ (i:Nat) (s:cH) (o:ByteArray),i≤ls.length∧zT s∧o.size≤i*1012011∧aL7 d.Sim (ls.take i)=(s,o)∧st=(aBy ⟨#[]⟩ (ls.take i),o,(i:Int),aRk s)) (m:=fun st=>((ls.length:Int)-st.2.2.1).toNat) (fun st hI => ?_) _ ⟨0,d.Sim,⟨#[]⟩,by omega,hg,by simp [aGw],rfl,rfl⟩ (by dsimp only;omega)
   obtain ⟨i,s,o,hi,hs,ho,hf,rfl⟩:=hI
   dsimp only [aRk]
   have hts:(aBy ⟨#[]⟩ (ls.take i)).size≤1012011:=by
    have:=aAy (ts:=ls.take i) ⟨#[]⟩ (fun t ht=>Nat.le_trans (aQr (hl t (List.mem_of_mem_take ht))).1 (by decide))
    have h2:(ls.take i).length≤8:=by rw [List.length_take];omega
    rw [aGw] at this
    omega
   refine cU (fun hlt => ?_) fun hge=>aI (.inr ⟨_,rfl,?_⟩)
   ·have hlt:i<ls.length:=by omega
    have hz:=(aQr (hl _ (List.getElem_mem hlt))).1
    refine aO (P:=fun v => ∃ (s':cH) (o':ByteArray),v = .inl (aBy ⟨#[]⟩ (ls.take (i+1)),o',aRk s')∧zT s'∧o'.size≤(i+1)*1012011∧aJq (s,o) ls[i]=(s',o')) ?_ fun v ⟨s',o',e,q1,q2,q3⟩ => ?_
    ·rw [eL hlt,Option.bind_some]
     refine gX (by rw [aIo];omega) (gX (by rw [eI,aIo];omega) ?_)
     rw [Option.bind_some]
     refine aO (aXr hs (hl _ (List.getElem_mem hlt))) fun r ⟨hr,hR⟩=>cU (fun h7 => ?_) fun hn7 => ?_
     ·refine gX (by rw [aWk];omega) (aI ⟨s,_,?_,hs,?_,aXl hr h7⟩)
      ·rw [aAz _ hlt];rfl
      ·rw [eI,aWk];omega
     ·rcases hR with h7 | ⟨h0,hg',hl1,hL⟩
      ·exact absurd h7 hn7
      refine aO (P:=fun b=>b=false) ?_ fun b hb => ?_
      ·refine cU (fun hn=>absurd h0 hn) fun _ => ?_
       unfold qQ
       rw [aRd hg'.1.1,hg'.1.2,Option.bind_some,Option.bind_some]
       refine cU (fun h=>absurd h (by decide)) fun _=>cU (fun h=>absurd h (by omega)) fun _ => ?_
       exact aO (aOp hg'.1) fun t ht=>aI (decide_eq_false ht.2)
      ·subst hb
       refine cU (fun h=>absurd h (by decide)) fun _ => ?_
       refine aO (P:=fun x=>x=aBy o r.2.1) ?_ fun x hx=>aI ⟨r.1.Sim,aBy o r.2.1,?_,hg',?_,aXk hr h0⟩
       ·refine vM (I:=fun (st:ByteArray × Int) => ∃ j:Nat,j≤r.2.1.length∧st=(aBy o (r.2.1.take j),(j:Int))) (m:=fun st=>((r.2.1.length:Int)-st.2).toNat) (fun st hI => ?_) _ ⟨0,by omega,rfl⟩ (by have:=hL.1;dsimp only;omega)
        obtain ⟨j,hj,rfl⟩:=hI
        dsimp only
        refine cU (fun hlt => ?_) fun hge=>aI (.inr ⟨_,rfl,?_⟩)
        ·have hlt:j<r.2.1.length:=by omega
         have ht:=hL.2 _ (List.getElem_mem hlt)
         have hk:=aFb hL o j
         have hn:=hL.1
         rw [eL hlt,Option.bind_some]
         refine gX (by rw [aIo];omega) (gX (by rw [eI,aIo];omega) (aI (.inl ⟨_,rfl,⟨j+1,hlt,?_⟩,?_⟩)))
         ·rw [aAz o hlt,aQ (by omega) (by omega)];rfl
         ·dsimp only;rw [aQ (by omega) (by omega)];omega
        ·have:j=r.2.1.length:=by omega
         subst this
         rw [List.take_length]
       ·rw [hx,aAz _ hlt];rfl
       ·have:=aPa hL o;omega
    ·subst e
     refine aI (.inl ⟨_,rfl,⟨i+1,s',o',hlt,q1,q2,?_,?_⟩,?_⟩)
     ·rw [aJz hlt,hf,q3]
     ·rw [aQ (by omega) (by omega)];rfl
     ·dsimp only;rw [aQ (by omega) (by omega)];omega
   ·have:i=ls.length:=by omega
    subst this
    rw [List.take_length] at hf
    rw [hf,List.take_length]
  ·subst e
   refine aO (aQ6 hd hg h1 h8 hl) fun t ht=>aI ?_
   simp [ht]
 obtain ⟨b,e,rfl⟩:=key
 exact e
end Go.Proofs.YtbliejnpjpnahaaGreatDoor
namespace Go.Proofs.YtbliejnpjpnahaaGreatDoor
open Go.ChangeShapes Go.WideShapes Go.ChangeAt Go.RowKit
set_option linter.unusedVariables false
set_option maxRecDepth 100000
theorem aLq {W:World} {n:String} {g:Nat} {cs:Array Value} (hg:Tryz.prog.globalNamed n=some g) (h:W.var? Tryz.prog n=some cs) : ∃ t f,W.heap[g]? = some (.cells cs t f)∧g<W.heap.size:=by
 unfold World.var? at h
 rw [hg] at h
 simp only [Option.bind_some] at h
 split at h
 ·rename_i cs' t f hh
  cases h
  exact ⟨t,f,hh,(Array.getElem?_eq_some_iff.1 hh).1⟩
 ·cases h
def bFj:DataW Unit→Value
 | .lit (.int k z) => .int k z
 | _ => .bool false
def bDp:DataW Unit→List Value
 | .agg l=>l.map bFj
 | x=>[bFj x]
def aLo:DataW Unit→Array Value
 | .agg l=>(l.flatMap bDp).toArray
 | _ => #[]
def aZq (cs:Array Value):Obj→Obj
 | .cells _ t f => .cells cs t f
 | o=>o
theorem aZg:(Rows.laid_internal_strconv_uint64pow10:DataW Unit)=Lib.tabData .u64 Lib.pow10Tab:=by kernel_rfl
def aAs : List (String × DataW Unit) := [("math/bits.deBruijn32tab",Rows.laid_math_bits_deBruijn32tab),("math/bits.deBruijn64tab",Rows.laid_math_bits_deBruijn64tab),("internal/strconv.uint64pow10",Rows.laid_internal_strconv_uint64pow10),("unicode/utf8.acceptRanges",Rows.laid_unicode_utf8_acceptRanges),("strconv.ErrRange",Rows.laid_strconv_ErrRange),("strconv.ErrSyntax",Rows.laid_strconv_ErrSyntax),("unicode/utf8.first",Rows.laid_unicode_utf8_first)]
theorem aLk : Tryz.prog.globalNamed "internal/strconv.uint64pow10" = some 1 := by kernel_rfl
theorem aVz {W : World} {rest : List (String × DataW Unit)} (h : laidMet Tryz.prog (("internal/strconv.uint64pow10",Rows.laid_internal_strconv_uint64pow10) :: rest) W) :
  (fun b=>b<W.heap.size) 1∧(bD2 1 (Lib.pow10Tab.map fun z=>Value.int .u64 z)).p W:=by
 rw [aZg] at h
 have:=Lib.tabIs_of_head (t:=343) (e:=79) (n:=20) aLk (by kernel_rfl) Tryz.underlying343 Tryz.underlying79 (by kernel_rfl) (by kernel_rfl) h
 obtain ⟨t,f,h1,h2⟩:=aLq aLk this
 exact ⟨h2,t,f,h1⟩
theorem aPp : "*" ++ "errors.errorString" = "*errors.errorString" := by decide
theorem aO9 (u : TypeId) (h : Tryz.prog.typeName? 3 u = some "*errors.errorString") : u = 366 :=
 typeName_ptr_named (nm := "errors.errorString") (by rw [aPp]; kernel_rfl) (by kernel_rfl) (by decide) u (by rw [aPp]; exact h)
theorem aOr {n nm:String} {text:List UInt8} {rest:List (String × DataW Unit)} {W:World} {g:Nat} {ti tp te ts:TypeId} {ms:Array (String × TypeId)} {f:Field} (h:laidMet Tryz.prog ((n, .iface nm (.ptr (.agg [.lit (.string text)]))) :: rest) W)
  (hg:Tryz.prog.globalNamed n=some g) (ht:(Tryz.prog.globals[g]?).map (·.type)=some ti) (hi:Tryz.prog.underlying ti=some (.interface ms)) (hrow : ∀ u,Tryz.prog.typeName? 3 u=some nm→u=tp)
  (hp:Tryz.prog.underlying tp=some (.pointer te)) (he:Tryz.prog.underlying te=some (.struct #[f])) (hft:f.type=ts) (hfo:f.offset=0) (hs:Tryz.prog.underlying ts=some .string) (hc:Tryz.prog.cellsOf te=1) (hcs:Tryz.prog.cellsOf ts=1) :
  (fun b=>b<W.heap.size) g∧(bA6 g).p W:=by
 obtain ⟨a,s,h1,_⟩:=laid_sentinel h hg ht hi hrow hp he hft hfo hs hc hcs
 obtain ⟨t,f,h2,h3⟩:=aLq hg h1
 exact ⟨h3,tp, .pointer (some a),t,f,h2⟩
theorem aJ1 {W:World} (h:laidMet Tryz.prog aAs W):aDi (fun b=>b<W.heap.size) W:=by
 intro x hx
 simp only [aQd,List.mem_cons,List.not_mem_nil,or_false] at hx
 rcases hx with rfl | rfl | rfl
 ·exact aVz h.tail.tail
 ·exact aOr (ti:=75) (tp:=366) (te:=368) h.tail.tail.tail.tail (by kernel_rfl) (by kernel_rfl) Tryz.underlying75 (fun u hu=>aO9 u hu) (by kernel_rfl) Tryz.underlying368 rfl rfl (by kernel_rfl) (by kernel_rfl) (by kernel_rfl)
 ·exact aOr (ti:=75) (tp:=366) (te:=368) h.tail.tail.tail.tail.tail (by kernel_rfl) (by kernel_rfl) Tryz.underlying75 (fun u hu=>aO9 u hu) (by kernel_rfl) Tryz.underlying368 rfl rfl (by kernel_rfl) (by kernel_rfl) (by kernel_rfl)
def bGc (h:Array Obj):Array Obj:=(h.modify 3 (aZq (aLo Rows.laid_unicode_utf8_acceptRanges))).modify 2 (aZq (aLo Rows.laid_unicode_utf8_first))
def aYb:DataW Unit→Value
 | .iface _ (.ptr (.agg [.lit (.string t)])) => .string ⟨t.toArray⟩
 | _ => .bool false
noncomputable def aKf (os:Os):World :=
 let w0:=World.holding Tryz.prog os ⟨#[], #[],[]⟩
 let h1:=bGc <| ((w0.heap.modify 6 (aZq (aLo Rows.laid_math_bits_deBruijn32tab))).modify 7 (aZq (aLo Rows.laid_math_bits_deBruijn64tab))).modify 1 (aZq (aLo Rows.laid_internal_strconv_uint64pow10))
 let b:=h1.size
 { w0 with heap:=(((h1.push (.cells #[aYb Rows.laid_strconv_ErrRange] 368)).push (.cells #[aYb Rows.laid_strconv_ErrSyntax] 368)).modify 5 (aZq #[.iface 366 (.pointer (some ⟨b,0,none⟩))])).modify 4 (aZq #[.iface 366 (.pointer (some ⟨b+1,0,none⟩))]) }
theorem aIh (os:Os) (args:Array Value):laidMet Tryz.prog aAs ((aKf os).forCall (fun _ _=>0) ⟨#[],args,[]⟩).memory :=
 laidMet_of_run' 8 (by kernel_rfl) (by kernel_rfl)
end Go.Proofs.YtbliejnpjpnahaaGreatDoor
