/- Texts of this claim, one behind the other (merged by a program of mine). -/
import Derived.Test.YtceknlcbfomdhaaGreatDoorTie
import Derived.Lib.LaidTab
import Derived.Stop.LaidErr
import Derived.SevenTiedAt
import Derived.Test.YtceknlcbfomdhaaGreatDoorGN8
set_option linter.unusedSimpArgs false
set_option linter.unusedVariables false
namespace Go.Proofs.YtceknlcbfomdhaaGreatDoor
set_option linter.unusedVariables false
set_option maxRecDepth 100000
theorem aVh {xs:List Int} (h : ∀ v ∈ xs,1≤v∧v≤60) (hl:1≤xs.length∧xs.length≤260):aLh xs=true:=by
 unfold aLh btw
 rw [Bool.and_eq_true,decide_eq_true_eq,List.all_eq_true]
 exact ⟨fun v hv=>decide_eq_true (h v hv),hl⟩
theorem aRn {c:aF} (hc:vC c=true) {a st ys m:Int} (a0:0≤a) (a1:a≤260) (s0:1≤st) (s1:st≤260) (y1:ys≤1000000) (m0:0≤m) (m1:m<c.Months.length):Ok (gH c a st ys m) (fun r=>1≤r∧r≤60):=by
 have hm:=yC (c:=c) m0 m1
 have hq:=aUv hc hm.2
 unfold gH
 refine bZ (P:=fun _=>True) ?_ fun v7 _ => ?_
 ·refine eI (I:=fun (s:Int × Int × Int)=>0≤s.2.2∧s.2.2≤1000260) (m:=fun s=>(1000260-s.2.2).toNat) ?_ _ ⟨a0,by dsimp only;omega⟩ (by dsimp only;omega)
  rintro ⟨l,al,y⟩ ⟨i0,i1⟩
  dsimp only at i0 i1 ⊢
  refine eH (fun hy => ?_) fun _=>aP (.inr ⟨_,rfl,trivial⟩)
  rw [xL hc i0,Option.bind_some]
  refine bZ (P:=fun _=>True) (eH (fun _=>aP trivial) fun _=>aP trivial) fun v6 _=>aP (.inl ⟨_,rfl,?_,?_⟩)
  ·dsimp only;rw [bD (x:=y+st) (by omega) (by omega)];omega
  ·dsimp only;rw [bD (x:=y+st) (by omega) (by omega)];omega
 ·rw [hm.1,Option.bind_some]
  refine eH (fun _=>aP hq.2) fun _=>eH (fun _=>aP hq.1) fun _ => ?_
  unfold uS
  refine bZ (P:=fun r=>1≤r∧r≤60) (eH (fun _=>aP hq.2) fun _=>aP hq.1) fun v h=>aP h
theorem aQk {c:aF} (hc:vC c=true) {y:Int} (y0:1≤y) (y1:y≤260):Ok (jZ c y) (fun r=>0≤r∧r≤520000):=by
 obtain ⟨_,_,hr,_,_,hb,hcy⟩:=fE hc
 obtain ⟨e,n0,n1,_⟩:=aLk hc
 have hg:=nY (n:=cyc c.Rules) (d:=y) (by omega)
 have hq:=uO (a:=cyc c.Rules) (g:=(Int.gcd (cyc c.Rules) y:Int)) (by omega) (by omega)
 unfold jZ
 rw [wA (by omega),if_pos ⟨hb,hcy⟩,Option.bind_some,vT (by dsimp only;omega) (by omega) (by omega),Option.bind_some]
 refine kK (by dsimp only;omega) (aP ?_)
 dsimp only
 rw [Int.tdiv_eq_ediv_of_nonneg (by omega),bD (x:=cyc c.Rules / _) (by omega) (by omega)]
 have h1:0≤cyc c.Rules / (Int.gcd (cyc c.Rules) y:Int)*y:=Int.mul_nonneg hq.1 (by omega)
 have h2:cyc c.Rules / (Int.gcd (cyc c.Rules) y:Int)*y≤2000*260:=Int.mul_le_mul (by omega) y1 (by omega) (by omega)
 rw [bD (by omega) (by omega)]
 omega
theorem aT2 {c:aF} {cam:List Int} (ha:aA7 c cam=0) {y m:Int} (y0:0≤y) (m0:0≤m) (m1:m<c.Months.length):qY c cam y m=some (⟨y,m+1,cam.getD (aCu c cam y (m+1)).toNat 0,aP1 c (jT c y) m⟩,decide (cam.getD (aCu c cam y (m+1)).toNat 0≠aP1 c (jT c y) m)):=by
 obtain ⟨hc,hm,h,k1,k2⟩:=rU ha
 have hl:=(xR hm).2
 have hq:=(fE hc).2.1
 have n:=aH5 ha (y:=y) (m:=m+1) (by omega) (by omega)
 unfold qY
 rw [fY (by omega),aCd hc y0 m0 m1,Option.bind_some,Int.tdiv_eq_ediv_of_nonneg (by omega),bD (x:=(cam.length:Int) / _) (by omega) (by omega),fY (by omega),Int.tmod_eq_emod_of_nonneg y0,bD (x:=_*_) (by omega) (by omega),bD (x:=_+m) (by omega) (by omega),bD (x:=m+1) (by omega) (by omega)]
 have e:y % ((cam.length:Int) / c.Months.length)*c.Months.length+m=aCu c cam y (m+1):=by unfold aCu;omega
 rw [e]
 have h3:atI cam (aCu c cam y (m+1))=some (cam.getD (aCu c cam y (m+1)).toNat 0):=by
  unfold atI
  rw [if_pos n.1,List.getElem?_eq_getElem (by omega)]
  simp [List.getD_eq_getElem?_getD,List.getElem?_eq_getElem (show (aCu c cam y (m+1)).toNat<cam.length by omega)]
 rw [h3,Option.bind_some]
theorem aTc {c:aF} {cam:List Int} (ha:aA7 c cam=0) {n:Int} (n1:n≤520000):Ok (nV c cam n) (fun _=>True):=by
 have hc:=(rU ha).1
 have hq:=(fE hc).2.1
 unfold nV
 refine bZ (P:=fun _=>True) ?_ fun v _=>aP trivial
 refine eI (I:=fun (s:Int × Int)=>0≤s.2∧s.2≤520000) (m:=fun s=>(520000-s.2).toNat) ?_ _ ⟨by dsimp only;omega,by dsimp only;omega⟩ (by dsimp only;omega)
 rintro ⟨k,y⟩ ⟨i0,i1⟩
 dsimp only at i0 i1 ⊢
 refine eH (fun hy => ?_) fun _=>aP (.inr ⟨_,rfl,trivial⟩)
 refine bZ (P:=fun _=>True) ?_ fun v16 _=>aP (.inl ⟨_,rfl,?_,?_⟩)
 ·refine eI (I:=fun (s:Int × Int)=>0≤s.2∧s.2≤c.Months.length) (m:=fun s=>(c.Months.length-s.2).toNat) ?_ _ ⟨by dsimp only;omega,by dsimp only;omega⟩ (by dsimp only;omega)
  rintro ⟨k2,m⟩ ⟨j0,j1⟩
  dsimp only at j0 j1 ⊢
  refine eH (fun hm => ?_) fun _=>aP (.inr ⟨_,rfl,trivial⟩)
  rw [aT2 ha i0 j0 hm,Option.bind_some]
  refine bZ (P:=fun _=>True) (eH (fun _=>aP trivial) fun _=>aP trivial) fun v15 _=>aP (.inl ⟨_,rfl,?_,?_⟩)
  ·dsimp only;rw [bD (x:=m+1) (by omega) (by omega)];omega
  ·dsimp only;rw [bD (x:=m+1) (by omega) (by omega)];omega
 ·dsimp only;rw [bD (x:=y+1) (by omega) (by omega)];omega
 ·dsimp only;rw [bD (x:=y+1) (by omega) (by omega)];omega
theorem aW1 {c:aF} {cam:List Int} (hc:vC c=true) (hm:aLh cam=true) (hz:(cam.length:Int) % c.Months.length=0):aA7 c cam=0:=by
 rw [aG1 hc hm,if_pos hz]
theorem aOr {c:aF} (hc:vC c=true) (y:Int):Ok (nB c y) (fun r=>r.2.2=0→aA7 c r.1=0):=by
 have hm:=(fE hc).2.1
 obtain ⟨_,_,hr,_⟩:=fE hc
 unfold nB qZ
 rw [uW (by omega) (by omega),hc,Option.bind_some,eO,Option.bind_some]
 simp only [Bool.not_true,Bool.false_eq_true,if_false]
 refine bZ (P:=fun b=>b=true→(1≤y∧y≤260)∧y*c.Months.length≤260) (eH (fun hb => ?_) fun hb=>aP (by simp)) fun b hb=>eH (fun hn=>aP (by simp)) fun hn => ?_
 ·have hy:=of_decide_eq_true hb
  have h1:0≤y*(c.Months.length:Int):=Int.mul_nonneg (by omega) (by omega)
  have h2:y*(c.Months.length:Int)≤260*20:=Int.mul_le_mul hy.2 (by omega) (by omega) (by omega)
  rw [bD (by omega) (by omega)]
  exact aP fun h=>⟨hy,of_decide_eq_true h⟩
 ·have hb':b=true:=by simpa using hn
  obtain ⟨⟨y0,y1⟩,y2⟩:=hb hb'
  refine bZ (aQk hc y0 y1) fun v3 h3 => ?_
  refine bZ (P:=fun xs=>(xs.length:Int)=y*c.Months.length ∧ ∀ v ∈ xs,1≤v∧v≤60) ?_ fun v20 h20 => ?_
  ·refine eI (I:=fun (s:Int × List Int)=>(0≤s.1∧s.1≤y)∧(s.2.length:Int)=s.1*c.Months.length ∧ ∀ v ∈ s.2,1≤v∧v≤60) (m:=fun s=>(y-s.1).toNat) ?_ _ ⟨⟨by dsimp only;omega,by dsimp only;omega⟩,by simp,fun v hv=>by cases hv⟩ (by dsimp only;omega)
   rintro ⟨k,xs⟩ ⟨⟨i0,i1⟩,il,iv⟩
   dsimp only at i0 i1 il iv ⊢
   refine eH (fun hk => ?_) fun hk=>aP (.inr ⟨_,rfl,?_,iv⟩)
   ·have kb:k*(c.Months.length:Int)≤(y-1)*c.Months.length:=Int.mul_le_mul_of_nonneg_right (by omega) (by omega)
    have knS:0≤k*(c.Months.length:Int):=Int.mul_nonneg i0 (by omega)
    rw [Int.sub_mul] at kb
    refine bZ (P:=fun (zs:List Int)=>(zs.length:Int)=k*c.Months.length+c.Months.length ∧ ∀ v ∈ zs,1≤v∧v≤60) ?_ fun v19 h19=>aP (.inl ⟨_,rfl,⟨⟨?_,?_⟩,?_,h19.2⟩,?_⟩)
    ·refine eI (I:=fun (s:Int × List Int)=>(0≤s.1∧s.1≤c.Months.length)∧(s.2.length:Int)=k*c.Months.length+s.1 ∧ ∀ v ∈ s.2,1≤v∧v≤60) (m:=fun s=>(c.Months.length-s.1).toNat) ?_ _ ⟨⟨by dsimp only;omega,by dsimp only;omega⟩,by dsimp only;omega,iv⟩ (by dsimp only;omega)
     rintro ⟨m,zs⟩ ⟨⟨j0,j1⟩,jl,jv⟩
     dsimp only at j0 j1 jl jv ⊢
     refine eH (fun hmm => ?_) fun hmm=>aP (.inr ⟨_,rfl,by omega,jv⟩)
     refine bZ (aRn hc i0 (by omega) y0 y1 (by omega) j0 hmm) fun v17 h17=>kK (by simp;omega) (aP (.inl ⟨_,rfl,⟨⟨?_,?_⟩,?_,?_⟩,?_⟩))
     all_goals (dsimp only;try rw [bD (x:=m+1) (by omega) (by omega)])
     ·omega
     ·omega
     ·simp;omega
     ·intro v hv
      rcases List.mem_append.1 hv with hv | hv
      ·exact jv v hv
      ·rw [List.mem_singleton.1 hv];exact h17
     ·omega
    all_goals (dsimp only;try rw [bD (x:=k+1) (by omega) (by omega)])
    ·omega
    ·omega
    ·rw [Int.add_mul,Int.one_mul];exact h19.1
    ·omega
   ·rw [il,show k=y by omega]
  ·have hp:0<y*(c.Months.length:Int):=Int.mul_pos (by omega) (by omega)
   have hcam:=aVh h20.2 (by omega)
   have ha:aA7 c v20=0:=aW1 hc hcam (by rw [h20.1,Int.mul_emod_left])
   exact bZ (aTc ha h3.2) fun v21 _=>aP fun _=>ha
end Go.Proofs.YtceknlcbfomdhaaGreatDoor
namespace Go.Proofs.YtceknlcbfomdhaaGreatDoor
set_option linter.unusedVariables false
set_option maxRecDepth 100000
theorem aA2 {α:Type} {xs:List α} {k:Nat}:zS xs (k:Int) (xs.length:Int)=xs.drop k:=by
 unfold zS
 rw [List.take_of_length_le (by simp)];simp
theorem uG {α:Type} {xs:List α} {k:Nat} (h:k<xs.length):xs.drop k=xs[k] :: xs.drop (k+1):=List.drop_eq_getElem_cons h
theorem uZ {α:Type} {xs:List α} {k:Nat} (h:k<xs.length):xs.take (k+1)=xs.take k++[xs[k]]:=by rw [List.take_succ_eq_append_getElem h]
theorem aUh {out:List Int} {x:Int} {k:Nat} (hs:out.Pairwise (· ≤ ·)) (h1 : ∀ a ∈ out.take k,a≤x) (h2 : ∀ b ∈ out.drop k,x<b):((out.take k++[x])++out.drop k).Pairwise (· ≤ ·)∧((out.take k++[x])++out.drop k).Perm (out++[x]):=by
 have hs':=hs
 rw [← List.take_append_drop k out,List.pairwise_append] at hs'
 obtain ⟨p1,p2,p3⟩:=hs'
 constructor
 ·rw [List.pairwise_append,List.pairwise_append]
  refine ⟨⟨p1,by simp,fun a ha b hb=>by rw [List.mem_singleton.1 hb];exact h1 a ha⟩,p2,fun a ha b hb => ?_⟩
  rcases List.mem_append.1 ha with ha | ha
  ·exact p3 a ha b hb
  ·rw [List.mem_singleton.1 ha];have:=h2 b hb;omega
 ·rw [List.append_assoc]
  have e:(out.take k++([x]++out.drop k)).Perm (out.take k++(out.drop k++[x])):=List.Perm.append_left _ List.perm_append_comm
  rw [← List.append_assoc (List.take k out) (List.drop k out),List.take_append_drop] at e
  exact e
theorem aSc {xs:List Int} (hl:xs.length≤1000):Ok (pL xs) (fun ys=>ys.Perm xs∧ys.Pairwise (· ≤ ·)):=by
 unfold pL
 refine bZ (P:=fun (ys:List Int)=>ys.Perm xs∧ys.Pairwise (· ≤ ·)) ?_ fun v h=>aP h
 refine eI (I:=fun (s:Int × List Int)=>(0≤s.1∧s.1≤xs.length)∧s.2.Perm (xs.take s.1.toNat)∧s.2.Pairwise (· ≤ ·)) (m:=fun s=>(xs.length-s.1).toNat) ?_ _ ⟨⟨by dsimp only;omega,by dsimp only;omega⟩,by simp, .nil⟩ (by dsimp only;omega)
 rintro ⟨i,out⟩ ⟨⟨i0,i1⟩,ip,is⟩
 dsimp only at i0 i1 ip is ⊢
 refine eH (fun hi => ?_) fun hi=>aP (.inr ⟨_,rfl,?_,is⟩)
 ·obtain ⟨n,rfl⟩ : ∃ n:Nat,i=n:=⟨i.toNat,by omega⟩
  have hn:n<xs.length:=by omega
  rw [Int.toNat_natCast] at ip
  have hol:out.length=n:=by have:=ip.length_eq;simp at this;omega
  simp only [dT hn,Option.bind_some]
  refine bZ (P:=fun (zs:List Int)=>zs.Perm (out++[xs[n]])∧zs.Pairwise (· ≤ ·)) ?_ fun v34 h34=>aP (.inl ⟨_,rfl,⟨⟨?_,?_⟩,?_,h34.2⟩,?_⟩)
  ·refine bZ (P:=fun (k:Int)=>(0≤k∧k≤out.length)∧(∀ b ∈ out.drop k.toNat,xs[n]<b) ∧ ∀ a ∈ out.take k.toNat,a≤xs[n]) ?_ fun k hk => ?_
   ·refine eI (I:=fun (k:Int)=>(0≤k∧k≤out.length) ∧ ∀ b ∈ out.drop k.toNat,xs[n]<b) (m:=fun k=>k.toNat) ?_ _ ⟨⟨by omega,by omega⟩,by simp⟩ (by omega)
    rintro k ⟨⟨k0,k1⟩,kd⟩
    refine bZ (P:=fun b=>b=decide (0<k∧xs[n]<out.getD (k-1).toNat 0)) (eH (fun hk => ?_) fun hk=>aP (by symm;exact decide_eq_false fun h=>hk h.1)) fun b hb => ?_
    ·rw [bD (x:=k-1) (by omega) (by omega),show k-1=((k-1).toNat:Int) by omega,dT (show (k-1).toNat<out.length by omega),Option.bind_some]
     refine aP ?_
     rw [show ((k-1).toNat:Int).toNat=(k-1).toNat by omega,List.getD_eq_getElem?_getD,List.getElem?_eq_getElem (show (k-1).toNat<out.length by omega),Option.getD_some,decide_eq_decide]
     omega
    ·subst hb
     refine eH (fun hb => ?_) fun hb=>aP (.inr ⟨_,rfl,⟨k0,k1⟩,kd,?_⟩)
     ·have hb':=of_decide_eq_true hb
      refine aP (.inl ⟨_,rfl,⟨⟨?_,?_⟩,?_⟩,?_⟩)
      all_goals try rw [bD (x:=k-1) (by omega) (by omega)]
      ·omega
      ·omega
      ·have hlt:(k-1).toNat<out.length:=by omega
       rw [uG hlt]
       intro b hb2
       rcases List.mem_cons.1 hb2 with rfl | hb2
       ·have:=hb'.2
        rwa [List.getD_eq_getElem?_getD,List.getElem?_eq_getElem hlt,Option.getD_some] at this
       ·rw [show (k-1).toNat+1=k.toNat by omega] at hb2;exact kd b hb2
      ·omega
     ·intro a ha
      have hk:k≠0:=by
       intro e;subst e;simp at ha
      have hlt:(k-1).toNat<out.length:=by omega
      have hx:out[(k-1).toNat]≤xs[n]:=by
       have : ¬ (0<k∧xs[n]<out.getD (k-1).toNat 0):=by simpa using hb
       rw [List.getD_eq_getElem?_getD,List.getElem?_eq_getElem hlt,Option.getD_some] at this
       omega
      rw [show k.toNat=(k-1).toNat+1 by omega,uZ hlt] at ha
      rcases List.mem_append.1 ha with ha | ha
      ·have hp:=is
       rw [← List.take_append_drop (k-1).toNat out,List.pairwise_append] at hp
       have:=hp.2.2 a ha out[(k-1).toNat] (by rw [uG hlt];exact List.mem_cons_self ..)
       omega
      ·rw [List.mem_singleton.1 ha];exact hx
   ·obtain ⟨⟨k0,k1⟩,kd,ka⟩:=hk
    obtain ⟨m,rfl⟩ : ∃ m:Nat,k=m:=⟨k.toNat,by omega⟩
    rw [Int.toNat_natCast] at kd ka
    refine kK (by omega) ?_
    rw [aSg,aA2,aK1 (by rw [List.length_take];omega),Option.bind_some]
    refine kK (by simp;omega) (kK (by omega) (kK (by simp;omega) (aP ?_)))
    have:=aUh is ka kd
    exact ⟨this.2,this.1⟩
  all_goals (dsimp only;try rw [bD (x:=(n:Int)+1) (by omega) (by omega)])
  ·omega
  ·omega
  ·rw [show ((n:Int)+1).toNat=n+1 by omega,uZ hn]
   exact h34.1.trans (ip.append_right _)
  ·omega
 ·rw [show i.toNat=xs.length by omega,List.take_length] at ip
  exact ip
end Go.Proofs.YtceknlcbfomdhaaGreatDoor
namespace Go.Proofs.YtceknlcbfomdhaaGreatDoor
set_option linter.unusedVariables false
set_option maxRecDepth 100000
abbrev nC (xs:List aV):Prop:=xs.Pairwise fun a b=>a.value≤b.value
theorem iW {xs:List aV} (h:nC xs) {i j:Nat} (hij:i≤j) (hj:j<xs.length):(xs[i]'(by omega)).value≤xs[j].value:=by
 rcases Nat.lt_or_ge i j with q | q
 ·exact List.pairwise_iff_getElem.1 h i j (by omega) hj q
 ·have:i=j:=by omega
  subst this;exact Int.le_refl _
theorem aC7 {α:Type} {xs:List α} {k:Nat} {x:α} (h:x ∈ xs.drop k) : ∃ (j:Nat) (hj:j<xs.length),k≤j∧xs[j]=x:=by
 obtain ⟨i,hi,rfl⟩:=List.getElem_of_mem h
 have hi':=hi
 rw [List.length_drop] at hi'
 exact ⟨k+i,by omega,by omega,by rw [List.getElem_drop]⟩
theorem aT1 {a b:List aV} (ha:nC a) (hb:nC b) (hl:a.length+b.length≤100000):Ok (qS a b) (fun r=>r.Perm (a++b)∧nC r):=by
 unfold qS
 have grow : ∀ {out:List aV} {x:aV},nC out→(∀ y ∈ out,y.value≤x.value)→nC (out++[x]):=fun {out x} h1 h2=>by
  show List.Pairwise _ _
  rw [List.pairwise_append]
  exact ⟨h1,by simp,fun y hy z hz=>by rw [List.mem_singleton.1 hz];exact h2 y hy⟩
 refine bZ (P:=fun (r:Int × List aV)=>(0≤r.1∧r.1≤a.length)∧r.2.Perm (a.take r.1.toNat++b)∧nC r.2 ∧ ∀ y ∈ r.2, ∀ z ∈ a.drop r.1.toNat,y.value≤z.value) ?_ fun v35 h35 => ?_
 ·refine eI (I:=fun (s:Int × Int × List aV)=>((0≤s.1∧s.1≤a.length)∧0≤s.2.1∧s.2.1≤b.length)∧s.2.2.Perm (a.take s.1.toNat++b.take s.2.1.toNat)∧nC s.2.2∧(∀ y ∈ s.2.2, ∀ z ∈ a.drop s.1.toNat,y.value≤z.value) ∧ ∀ y ∈ s.2.2, ∀ z ∈ b.drop s.2.1.toNat,y.value≤z.value) (m:=fun s=>(b.length-s.2.1).toNat) ?_ _ ⟨⟨⟨by dsimp only;omega,by dsimp only;omega⟩,by dsimp only;omega,by dsimp only;omega⟩,by simp, .nil,fun y hy=>by simp at hy,fun y hy=>by simp at hy⟩ (by dsimp only;omega)
  rintro ⟨i,k,out⟩ ⟨⟨⟨i0,i1⟩,k0,k1⟩,hp,hs,h1,h2⟩
  dsimp only at i0 i1 k0 k1 hp hs h1 h2 ⊢
  refine eH (fun hk => ?_) fun hk=>aP (.inr ⟨_,rfl,⟨i0,i1⟩,?_,hs,h1⟩)
  ·obtain ⟨m,rfl⟩ : ∃ m:Nat,k=m:=⟨k.toNat,by omega⟩
   have hm:m<b.length:=by omega
   rw [Int.toNat_natCast] at hp h2
   simp only [dT hm,Option.bind_some]
   refine bZ (P:=fun (r:Int × List aV)=>(0≤r.1∧r.1≤a.length)∧r.2.Perm (a.take r.1.toNat++b.take (m+1))∧nC r.2∧(∀ y ∈ r.2, ∀ z ∈ a.drop r.1.toNat,y.value≤z.value) ∧ ∀ y ∈ r.2, ∀ z ∈ b.drop (m+1),y.value≤z.value) ?_ fun v34 h34=>aP (.inl ⟨_,rfl,⟨⟨h34.1,?_,?_⟩,?_,h34.2.2.1,h34.2.2.2.1,?_⟩,?_⟩)
   ·refine bZ (P:=fun (r:Int × List aV)=>(0≤r.1∧r.1≤a.length)∧r.2.Perm (a.take r.1.toNat++b.take m)∧nC r.2∧(∀ y ∈ r.2, ∀ z ∈ a.drop r.1.toNat,y.value≤z.value)∧(∀ y ∈ r.2, ∀ z ∈ b.drop m,y.value≤z.value) ∧ ∀ z ∈ a.drop r.1.toNat,b[m].value≤z.value) ?_ fun v31 h31 => ?_
    ·refine eI (I:=fun (s:Int × List aV)=>(0≤s.1∧s.1≤a.length)∧s.2.Perm (a.take s.1.toNat++b.take m)∧nC s.2∧(∀ y ∈ s.2, ∀ z ∈ a.drop s.1.toNat,y.value≤z.value) ∧ ∀ y ∈ s.2, ∀ z ∈ b.drop m,y.value≤z.value) (m:=fun s=>(a.length-s.1).toNat) ?_ _ ⟨⟨i0,i1⟩,hp,hs,h1,h2⟩ (by dsimp only;omega)
     rintro ⟨i,out⟩ ⟨⟨i0,i1⟩,hp,hs,h1,h2⟩
     dsimp only at i0 i1 hp hs h1 h2 ⊢
     obtain ⟨n,rfl⟩ : ∃ n:Nat,i=n:=⟨i.toNat,by omega⟩
     rw [Int.toNat_natCast] at hp h1
     by_cases hi:n<a.length
     ·rw [if_pos (by omega)]
      simp only [dT hi,Option.bind_some]
      by_cases hc:a[n].value≤b[m].value
      ·rw [decide_eq_true hc,if_pos rfl]
       have hol:out.length=n+m:=by
        have:=hp.length_eq
        rw [List.length_append,List.length_take,List.length_take] at this
        omega
       refine kK (by simp;omega) (aP (.inl ⟨_,rfl,⟨⟨?_,?_⟩,?_,?_,?_,?_⟩,?_⟩))
       all_goals (dsimp only; (try rw [bD (x:=(n:Int)+1) (by omega) (by omega)]); (try rw [show ((n:Int)+1).toNat=n+1 by omega]))
       ·omega
       ·omega
       ·rw [uZ hi]
        have e:(out++[a[n]]).Perm ((a.take n++b.take m)++[a[n]]):=hp.append_right _
        refine e.trans ?_
        rw [List.append_assoc,List.append_assoc]
        exact List.Perm.append_left _ List.perm_append_comm
       ·exact grow hs fun y hy=>h1 y hy _ (by rw [uG hi];exact List.mem_cons_self ..)
       ·intro y hy z hz
        obtain ⟨j,hj,hjn,rfl⟩:=aC7 hz
        rcases List.mem_append.1 hy with hy | hy
        ·exact h1 y hy _ (by rw [uG hi];exact List.mem_cons_of_mem _ hz)
        ·rw [List.mem_singleton.1 hy];exact iW ha (by omega) hj
       ·intro y hy z hz
        rcases List.mem_append.1 hy with hy | hy
        ·exact h2 y hy z hz
        ·rw [List.mem_singleton.1 hy]
         obtain ⟨j,hj,hjn,rfl⟩:=aC7 hz
         have:=iW hb hjn hj
         omega
       ·omega
      ·rw [decide_eq_false hc,if_neg (by decide)]
       refine aP (.inr ⟨_,rfl,⟨i0,i1⟩,by rw [Int.toNat_natCast];exact hp,hs,by rw [Int.toNat_natCast];exact h1,h2,fun z hz => ?_⟩)
       rw [Int.toNat_natCast] at hz
       obtain ⟨j,hj,hjn,rfl⟩:=aC7 hz
       have:=iW ha hjn hj
       omega
     ·rw [if_neg (by omega)]
      refine aP (.inr ⟨_,rfl,⟨i0,i1⟩,by rw [Int.toNat_natCast];exact hp,hs,by rw [Int.toNat_natCast];exact h1,h2,fun z hz => ?_⟩)
      rw [Int.toNat_natCast,List.drop_of_length_le (by omega)] at hz
      cases hz
    ·obtain ⟨⟨q0,q1⟩,qp,qs,g1,g2,g3⟩:=h31
     have hol:v31.2.length=v31.1.toNat+m:=by
      have:=qp.length_eq
      rw [List.length_append,List.length_take,List.length_take] at this
      omega
     refine kK (by simp;omega) (aP ⟨⟨q0,q1⟩,?_,?_,?_,?_⟩)
     ·rw [uZ hm, ← List.append_assoc]
      exact qp.append_right _
     ·exact grow qs fun y hy=>g2 y hy _ (by rw [uG hm];exact List.mem_cons_self ..)
     ·intro y hy z hz
      rcases List.mem_append.1 hy with hy | hy
      ·exact g1 y hy z hz
      ·rw [List.mem_singleton.1 hy];exact g3 z hz
     ·intro y hy z hz
      rcases List.mem_append.1 hy with hy | hy
      ·exact g2 y hy z (by rw [uG hm];exact List.mem_cons_of_mem _ hz)
      ·rw [List.mem_singleton.1 hy]
       obtain ⟨j,hj,hjn,rfl⟩:=aC7 hz
       exact iW hb (by omega) hj
   all_goals (dsimp only;try rw [bD (x:=(m:Int)+1) (by omega) (by omega)])
   ·omega
   ·omega
   ·rw [show ((m:Int)+1).toNat=m+1 by omega];exact h34.2.1
   ·rw [show ((m:Int)+1).toNat=m+1 by omega];exact h34.2.2.2.2
   ·omega
  ·rw [show k.toNat=b.length by omega,List.take_length] at hp
   exact hp
 ·obtain ⟨⟨q0,q1⟩,qp,qs,g1⟩:=h35
  obtain ⟨n,hn⟩ : ∃ n:Nat,v35.1=n:=⟨v35.1.toNat,by omega⟩
  rw [hn,Int.toNat_natCast] at qp g1
  have hol:v35.2.length=n+b.length:=by
   have:=qp.length_eq
   rw [List.length_append,List.length_take] at this
   omega
  rw [hn]
  refine kK (by omega) ?_
  rw [aA2]
  refine kK (by simp;omega) (aP ⟨?_,?_⟩)
  ·have e:(v35.2++a.drop n).Perm ((a.take n++b)++a.drop n):=qp.append_right _
   refine e.trans ?_
   rw [List.append_assoc]
   have e2:(a.take n++(b++a.drop n)).Perm (a.take n++(a.drop n++b)):=List.Perm.append_left _ List.perm_append_comm
   rw [← List.append_assoc (a.take n) (a.drop n) b,List.take_append_drop] at e2
   exact e2
  ·show List.Pairwise _ _
   rw [List.pairwise_append]
   refine ⟨qs,?_,g1⟩
   have:=ha
   unfold nC at this
   rw [← List.take_append_drop n a,List.pairwise_append] at this
   exact this.2.1
theorem aIs : ∀ (f:Nat) {xs:List aV},xs.length≤f→xs.length≤100000→Ok (jY (f+1) xs) (fun r=>r.Perm xs∧nC r)
 | f,xs,hf,hl=>by
  unfold jY
  refine eH (fun h2=>aP ⟨.refl _,?_⟩) fun h2 => ?_
  ·match xs,h2 with
   | [],_=>exact .nil
   | [x],_=>exact List.pairwise_singleton ..
   | x :: y :: r,h=>simp at h;omega
  ·obtain ⟨m,hm⟩ : ∃ m:Nat,(xs.length:Int).tdiv 2=m:=⟨xs.length / 2,by rw [Int.tdiv_eq_ediv_of_nonneg (by omega)];omega⟩
   have hm2:m=xs.length / 2:=by rw [Int.tdiv_eq_ediv_of_nonneg (by omega)] at hm;omega
   rw [hm,bD (x:=(m:Int)) (by omega) (by omega)]
   refine kK (by omega) (kK (by omega) ?_)
   rw [aSg,aA2]
   obtain ⟨g,rfl⟩ : ∃ g,f=g+1:=⟨f-1,by omega⟩
   refine bZ (aIs g (xs:=xs.take m) (by rw [List.length_take];omega) (by rw [List.length_take];omega)) fun v4 h4 => ?_
   refine bZ (aIs g (xs:=xs.drop m) (by rw [List.length_drop];omega) (by rw [List.length_drop];omega)) fun v5 h5 => ?_
   have l4:=h4.1.length_eq
   have l5:=h5.1.length_eq
   rw [List.length_take] at l4
   rw [List.length_drop] at l5
   refine bZ (aT1 h4.2 h5.2 (by omega)) fun v6 h6=>aP ⟨?_,h6.2⟩
   have:=h6.1.trans ((h4.1.append h5.1))
   rwa [List.take_append_drop] at this
theorem aWh {xs:List aV} (hl:xs.length≤100000):Ok (jY aPf xs) (fun r=>r.Perm xs∧nC r):=by
 have e:aPf=(aPf-1)+1:=by unfold aPf;rfl
 rw [e]
 exact aIs _ (by unfold aPf;omega) hl
theorem aTi {xs:List aV} (hs:nC xs) (hl:xs.length≤100000) (v:Int):Ok (qR xs v) (fun k=>(0≤k∧k≤xs.length)∧(∀ (i:Nat) (hi:i<xs.length),(i:Int)<k→xs[i].value<v) ∧ ∀ (i:Nat) (hi:i<xs.length),k≤(i:Int)→v≤xs[i].value):=by
 unfold qR
 refine bZ (P:=fun (k:Int)=>(0≤k∧k≤xs.length)∧(∀ (i:Nat) (hi:i<xs.length),(i:Int)<k→xs[i].value<v) ∧ ∀ (i:Nat) (hi:i<xs.length),k≤(i:Int)→v≤xs[i].value) ?_ fun k h=>aP h
 refine eI (I:=fun (s:Int × Int)=>(0≤s.1∧s.1≤s.2∧s.2≤xs.length)∧(∀ (i:Nat) (hi:i<xs.length),(i:Int)<s.1→xs[i].value<v) ∧ ∀ (i:Nat) (hi:i<xs.length),s.2≤(i:Int)→v≤xs[i].value) (m:=fun s=>(s.2-s.1).toNat) ?_ _ ⟨⟨by dsimp only;omega,by dsimp only;omega,by dsimp only;omega⟩,fun i hi h=>by dsimp only at h;omega,fun i hi h=>by dsimp only at h;omega⟩ (by dsimp only;omega)
 rintro ⟨a,b⟩ ⟨⟨a0,ab,b1⟩,h1,h2⟩
 dsimp only at a0 ab b1 h1 h2 ⊢
 refine eH (fun h => ?_) fun h=>aP (.inr ⟨_,rfl,⟨a0,by omega⟩,h1,fun i hi hh=>h2 i hi (by omega)⟩)
 have e:w64 ((w64 (a+b)).tdiv 2)=(a+b) / 2:=by
  rw [bD (x:=a+b) (by omega) (by omega),Int.tdiv_eq_ediv_of_nonneg (by omega),bD (by omega) (by omega)]
 obtain ⟨m,hm⟩ : ∃ m:Nat,(a+b) / 2=m:=⟨((a+b) / 2).toNat,by omega⟩
 rw [e,hm,dT (show m<xs.length by omega),Option.bind_some,bD (x:=(m:Int)+1) (by omega) (by omega)]
 refine eH (fun hv=>aP (.inl ⟨_,rfl,⟨⟨by dsimp only;omega,by dsimp only;omega,b1⟩,fun i hi hh => ?_,h2⟩,by dsimp only;omega⟩)) fun hv=>aP (.inl ⟨_,rfl,⟨⟨a0,by dsimp only;omega,by dsimp only;omega⟩,h1,fun i hi hh => ?_⟩,by dsimp only;omega⟩)
 ·dsimp only at hh
  have:=iW hs (i:=i) (j:=m) (by omega) (by omega)
  omega
 ·dsimp only at hh
  have:=iW hs (i:=m) (j:=i) (by omega) hi
  omega
end Go.Proofs.YtceknlcbfomdhaaGreatDoor
namespace Go.Proofs.YtceknlcbfomdhaaGreatDoor
set_option linter.unusedVariables false
def gL (t:List bQ):Prop := ∃ a b c d:Int,t=[⟨b,c⟩,⟨a,d⟩]∧(60≤a∧a≤b∧b≤84)∧7≤c∧c≤d∧d≤10
def pT:List bQ→Int
 | [x,y]=>y.Driver*x.Driver
 | _=>1
def qT:List bQ→Int
 | [x,y]=>x.Driven*y.Driven
 | _=>1
def oX (r:aD) (p q:Int):Int:=fI (p*r.Den-q*r.Num)
def aFg (r:aD) (t:List bQ):Int:=oX r (pT t) (qT t)
def ltT:List bQ→List bQ→Prop
 | [x,y],[z,w]=>x.Driver+x.Driven+y.Driver+y.Driven<z.Driver+z.Driven+w.Driver+w.Driven∨(x.Driver+x.Driven+y.Driver+y.Driven=z.Driver+z.Driven+w.Driver+w.Driven∧(x.Driver<z.Driver∨(x.Driver=z.Driver∧(x.Driven<z.Driven∨(x.Driven=z.Driven∧(y.Driver<w.Driver∨(y.Driver=w.Driver∧y.Driven<w.Driven)))))))
 | _,_=>False
def sI (r:aD) (t u:List bQ):Prop:=aFg r t*qT u<aFg r u*qT t∨(aFg r t*qT u=aFg r u*qT t∧ltT t u)
theorem yW {a b:Int} {A B:Int} (ha:0<a) (hA:a≤A) (hb:0<b) (hB:b≤B):0<a*b∧a*b≤A*B:=by
 refine ⟨Int.mul_pos ha hb,?_⟩
 exact Int.mul_le_mul hA hB (by omega) (by omega)
theorem aDv {t:List bQ} (h:gL t):(0<pT t∧pT t≤7056)∧0<qT t∧qT t≤100:=by
 obtain ⟨a,b,c,d,rfl,⟨h1,h2,h3⟩,h4,h5,h6⟩:=h
 have q1:=yW (a:=a) (b:=b) (A:=84) (B:=84) (by omega) (by omega) (by omega) h3
 have q2:=yW (a:=c) (b:=d) (A:=10) (B:=10) (by omega) (by omega) (by omega) h6
 exact ⟨⟨q1.1,by show a*b≤7056;omega⟩,q2.1,by show c*d≤100;omega⟩
theorem aJj {r:aD} {p q:Int} (hn:0≤r.Num∧r.Num≤1000000) (hd:0≤r.Den∧r.Den≤1000000) (hp:0<p∧p≤7056) (hq:0<q∧q≤100):(0≤p*r.Den∧p*r.Den≤7056000000)∧(0≤q*r.Num∧q*r.Num≤100000000)∧0≤oX r p q∧oX r p q≤8000000000:=by
 have h1:p*r.Den≤7056*1000000:=Int.mul_le_mul hp.2 hd.2 hd.1 (by omega)
 have h2:q*r.Num≤100*1000000:=Int.mul_le_mul hq.2 hn.2 hn.1 (by omega)
 have h3:=Int.mul_nonneg (show 0≤p by omega) hd.1
 have h4:=Int.mul_nonneg (show 0≤q by omega) hn.1
 refine ⟨⟨h3,by omega⟩,⟨h4,by omega⟩,?_⟩
 unfold oX fI
 omega
theorem aTl {a b c p q s:Int} (hp:0<p) (hq:0<q) (hs:0<s) (h1:a*q≤b*p) (h2:b*s≤c*q):a*s≤c*p:=by
 refine Int.le_of_mul_le_mul_right (a:=q) ?_ hq
 have e1:=Int.mul_le_mul_of_nonneg_right h1 (show 0≤s by omega)
 have e2:=Int.mul_le_mul_of_nonneg_right h2 (show 0≤p by omega)
 have e3:a*s*q=a*q*s:=by rw [Int.mul_assoc,Int.mul_comm s q, ← Int.mul_assoc]
 have e4:c*p*q=c*q*p:=by rw [Int.mul_assoc,Int.mul_comm p q, ← Int.mul_assoc]
 have e5:b*p*s=b*s*p:=by rw [Int.mul_assoc,Int.mul_comm p s, ← Int.mul_assoc]
 rw [e3,e4]
 rw [e5] at e1
 omega
theorem aHb {a b c p q s:Int} (hp:0<p) (hq:0<q) (hs:0<s) (h1:a*q≤b*p) (h2:b*s≤c*q) (h:a*q<b*p∨b*s<c*q):a*s<c*p:=by
 refine Int.lt_of_mul_lt_mul_right (a:=q) ?_ (by omega)
 have e1:=Int.mul_le_mul_of_nonneg_right h1 (show 0≤s by omega)
 have e2:=Int.mul_le_mul_of_nonneg_right h2 (show 0≤p by omega)
 have e3:a*s*q=a*q*s:=by rw [Int.mul_assoc,Int.mul_comm s q, ← Int.mul_assoc]
 have e4:c*p*q=c*q*p:=by rw [Int.mul_assoc,Int.mul_comm p q, ← Int.mul_assoc]
 have e5:b*p*s=b*s*p:=by rw [Int.mul_assoc,Int.mul_comm p s, ← Int.mul_assoc]
 rw [e3,e4]
 rcases h with h | h
 ·have:=Int.mul_lt_mul_of_pos_right h hs
  omega
 ·have:=Int.mul_lt_mul_of_pos_right h hp
  omega
theorem aQ8 {t:List bQ} (h:gL t) : ¬ ltT t t:=by
 obtain ⟨a,b,c,d,rfl,_⟩:=h
 simp only [ltT]
 omega
theorem aXc {t u w:List bQ} (ht:gL t) (hu:gL u) (hw:gL w) (h1:ltT t u) (h2:ltT u w):ltT t w:=by
 obtain ⟨a,b,c,d,rfl,_⟩:=ht
 obtain ⟨e,f,g,h,rfl,_⟩:=hu
 obtain ⟨i,j,k,l,rfl,_⟩:=hw
 simp only [ltT] at h1 h2 ⊢
 omega
theorem aXb {t u:List bQ} (ht:gL t) (hu:gL u) (h1 : ¬ ltT t u) (h2 : ¬ ltT u t):t=u:=by
 obtain ⟨a,b,c,d,rfl,_⟩:=ht
 obtain ⟨e,f,g,h,rfl,_⟩:=hu
 simp only [ltT] at h1 h2
 have:b=f∧c=g∧a=e∧d=h:=by omega
 obtain ⟨rfl,rfl,rfl,rfl⟩:=this
 rfl
theorem aQ5 {r:aD} {t u w:List bQ} (ht:gL t) (hu:gL u) (hw:gL w) (h1:sI r t u) (h2:sI r u w):sI r t w:=by
 have q1:=(aDv ht).2.1
 have q2:=(aDv hu).2.1
 have q3:=(aDv hw).2.1
 unfold sI at h1 h2 ⊢
 rcases h1 with h1 | ⟨h1,l1⟩
 ·rcases h2 with h2 | ⟨h2,l2⟩
  ·exact .inl (aHb q1 q2 q3 (by omega) (by omega) (.inl h1))
  ·exact .inl (aHb q1 q2 q3 (by omega) (by omega) (.inl h1))
 ·rcases h2 with h2 | ⟨h2,l2⟩
  ·exact .inl (aHb q1 q2 q3 (by omega) (by omega) (.inr h2))
  ·refine .inr ⟨?_,aXc ht hu hw l1 l2⟩
   have a1:=aTl q1 q2 q3 (a:=aFg r t) (b:=aFg r u) (c:=aFg r w) (by omega) (by omega)
   have a2:=aTl q3 q2 q1 (a:=aFg r w) (b:=aFg r u) (c:=aFg r t) (by omega) (by omega)
   omega
theorem aTw {r:aD} {t u:List bQ} (ht:gL t) (hu:gL u) (h1 : ¬ sI r t u) (h2 : ¬ sI r u t):t=u:=by
 unfold sI at h1 h2
 refine aXb ht hu (fun h=>h1 (.inr ⟨?_,h⟩)) fun h=>h2 (.inr ⟨?_,h⟩) <;> omega
theorem aNx {r:aD} {t:List bQ} (ht:gL t) : ¬ sI r t t:=by
 rintro (h | ⟨_,h⟩)
 ·omega
 ·exact aQ8 ht h
theorem aVu {r:aD} {w u s:List bQ} (hw:gL w) (hu:gL u) (hs:gL s) (h:sI r w u) (k : ¬ sI r w s) : ¬ sI r u s:=fun h2=>k (aQ5 hw hu hs h h2)
theorem aS7 {r:aD} {t u:List bQ} (ht:gL t) (hu:gL u) (h1 : ∀ w,gL w → ¬ sI r w t) (h2 : ∀ w,gL w → ¬ sI r w u):t=u:=aTw ht hu (h2 t ht) (h1 u hu)
theorem aN2 {r:aD} {p q q':Int} (hp:0<p*r.Den) (h0:0≤r.Num) (hq:q<q') (h:q'*r.Num≤p*r.Den):oX r p q'*q<oX r p q*q':=by
 have e1:q*r.Num≤q'*r.Num:=Int.mul_le_mul_of_nonneg_right (by omega) h0
 have e2:oX r p q'=p*r.Den-q'*r.Num:=by unfold oX fI;omega
 have e3:oX r p q=p*r.Den-q*r.Num:=by unfold oX fI;omega
 rw [e2,e3,Int.sub_mul,Int.sub_mul]
 have e4:q*r.Num*q'=q'*r.Num*q:=by rw [Int.mul_assoc,Int.mul_comm r.Num, ← Int.mul_assoc,Int.mul_comm q q',Int.mul_assoc,Int.mul_comm q, ← Int.mul_assoc]
 have e5:=Int.mul_lt_mul_of_pos_left hq hp
 omega
theorem aJ6 {r:aD} {p q q':Int} (hp:0<p*r.Den) (h0:0≤r.Num) (hq:q'<q) (h:p*r.Den≤q'*r.Num):oX r p q'*q<oX r p q*q':=by
 have e1:q'*r.Num≤q*r.Num:=Int.mul_le_mul_of_nonneg_right (by omega) h0
 have e2:oX r p q'=q'*r.Num-p*r.Den:=by unfold oX fI;omega
 have e3:oX r p q=q*r.Num-p*r.Den:=by unfold oX fI;omega
 rw [e2,e3,Int.sub_mul,Int.sub_mul]
 have e4:q*r.Num*q'=q'*r.Num*q:=by rw [Int.mul_assoc,Int.mul_comm r.Num, ← Int.mul_assoc,Int.mul_comm q q',Int.mul_assoc,Int.mul_comm q, ← Int.mul_assoc]
 have e5:=Int.mul_lt_mul_of_pos_left hq hp
 omega
theorem aGj {lo hi:Int} {l:List Int}:l ∈ cH lo hi 2 ↔ ∃ a b:Int,l=[a,b]∧lo≤a∧a≤b∧b≤hi:=by
 have ext : ∀ (x l:List Int),l ∈ zZ lo hi x ↔ ∃ t:Int,l=x++[t]∧qG lo x≤t∧t≤hi:=fun x l=>by
  unfold zZ
  rw [List.mem_map]
  constructor
  ·rintro ⟨i,hi,rfl⟩
   rw [List.mem_range] at hi
   exact ⟨_,rfl,by omega,by omega⟩
  ·rintro ⟨t,rfl,h1,h2⟩
   exact ⟨(t-qG lo x).toNat,by rw [List.mem_range];omega,by congr 2;omega⟩
 unfold cH
 rw [List.mem_flatMap]
 constructor
 ·rintro ⟨x,hx,hl⟩
  unfold cH at hx
  rw [List.mem_flatMap] at hx
  obtain ⟨y,hy,hx⟩:=hx
  unfold cH at hy
  rw [List.mem_singleton] at hy
  subst hy
  obtain ⟨a,rfl,h1,h2⟩:=(ext _ _).1 hx
  obtain ⟨b,rfl,h3,h4⟩:=(ext _ _).1 hl
  simp [qG] at h1 h3
  exact ⟨a,b,rfl,h1,h3,h4⟩
 ·rintro ⟨a,b,rfl,h1,h2,h3⟩
  refine ⟨[a],?_,(ext _ _).2 ⟨b,rfl,by simpa [qG] using h2,h3⟩⟩
  unfold cH
  rw [List.mem_flatMap]
  exact ⟨[],by simp [cH],(ext _ _).2 ⟨a,rfl,by simpa [qG] using h1,by omega⟩⟩
end Go.Proofs.YtceknlcbfomdhaaGreatDoor
namespace Go.Proofs.YtceknlcbfomdhaaGreatDoor
set_option linter.unusedVariables false
set_option maxRecDepth 100000
def aWv (lo hi:Int) (n:Nat) (p:aV):Prop:=p.teeth.length=n ∧ ∀ t ∈ p.teeth,lo≤t∧t≤hi
def aVe (k:Int):Nat:=if k≤0 then 1 else if k=1 then 31 else if k=2 then 961 else 29791
theorem aQc {k:Int} (h0:0≤k) (h1:k<3):aVe (k+1)=31*aVe k∧aVe k≤961:=by
 have:k=0∨k=1∨k=2:=by omega
 rcases this with rfl | rfl | rfl <;> decide
def trI (t:List bQ):Prop:=t.length=2 ∧ ∀ p ∈ t,(60≤p.Driver∧p.Driver≤84)∧7≤p.Driven∧p.Driven≤10
end Go.Proofs.YtceknlcbfomdhaaGreatDoor
namespace Go.Proofs.YtceknlcbfomdhaaGreatDoor
set_option linter.unusedVariables false
set_option maxRecDepth 100000
def aSv (k:Int):Int:=if k≤0 then 1 else if k=1 then 120 else 14400
theorem aQd {k:Int} (h0:0≤k) (h1:k<2):aSv (k+1)=aSv k*120∧aSv k≤120:=by
 have:k=0∨k=1:=by omega
 rcases this with rfl | rfl <;> decide
theorem aPb (l:List Int) (t:Int):dF (l++[t])=dF l*t:=by unfold dF;rw [List.foldl_append];rfl
theorem aL7 (lo hi:Int) (k:Nat):cH lo hi (k+1)=(cH lo hi k).flatMap (zZ lo hi):=rfl
theorem aN8 {lo hi:Int} (l0:1≤lo) (lh:lo≤hi) (h1:hi≤120) (sp:hi≤lo+30):Ok (jL lo hi 2) (fun xs=>xs.length≤961∧xs.map (·.teeth)=cH lo hi 2 ∧ ∀ p ∈ xs,p.value=dF p.teeth):=by
 unfold jL
 refine bZ (P:=fun (xs:List aV)=>xs.length≤961∧xs.map (·.teeth)=cH lo hi 2 ∧ ∀ p ∈ xs,p.value=dF p.teeth) ?_ fun v h=>aP h
 refine eI (I:=fun (s:List aV × Int)=>(0≤s.2∧s.2≤2)∧s.1.length≤aVe s.2∧s.1.map (·.teeth)=cH lo hi s.2.toNat ∧ ∀ p ∈ s.1,aWv lo hi s.2.toNat p∧p.value=dF p.teeth∧1≤p.value∧p.value≤aSv s.2) (m:=fun s=>(2-s.2).toNat) ?_ _ ⟨⟨by dsimp only;omega,by dsimp only;omega⟩,by simp [aVe],by simp [cH],fun p hp=>by simp at hp;subst hp;exact ⟨⟨rfl,fun t ht=>by cases ht⟩,rfl,by decide,by decide⟩⟩ (by dsimp only;omega)
 rintro ⟨xs,k⟩ ⟨⟨k0,k1⟩,x1,xm,xp⟩
 dsimp only at k0 k1 x1 xm xp ⊢
 refine eH (fun hk => ?_) fun hk=>aP (.inr ⟨_,rfl,?_⟩)
 ·obtain ⟨bs,bb⟩:=aQc k0 (show k<3 by omega)
  obtain ⟨cs,cb⟩:=aQd k0 (show k<2 by omega)
  have kt:(k+1).toNat=k.toNat+1:=by omega
  refine bZ (P:=fun (ys:List aV)=>ys.length≤aVe (k+1)∧ys.map (·.teeth)=cH lo hi (k+1).toNat ∧ ∀ p ∈ ys,aWv lo hi (k+1).toNat p∧p.value=dF p.teeth∧1≤p.value∧p.value≤aSv (k+1)) ?_ fun v74 h74=>aP (.inl ⟨_,rfl,?_⟩)
  ·refine bZ (P:=fun (ys:List aV)=>ys.length≤aVe (k+1)∧ys.map (·.teeth)=cH lo hi (k+1).toNat ∧ ∀ p ∈ ys,aWv lo hi (k+1).toNat p∧p.value=dF p.teeth∧1≤p.value∧p.value≤aSv (k+1)) ?_ fun v h=>aP h
   refine eI (I:=fun (s:Int × List aV)=>(0≤s.1∧s.1≤xs.length)∧(s.2.length:Int)≤31*s.1∧s.2.map (·.teeth)=((xs.take s.1.toNat).map (·.teeth)).flatMap (zZ lo hi) ∧ ∀ p ∈ s.2,aWv lo hi (k+1).toNat p∧p.value=dF p.teeth∧1≤p.value∧p.value≤aSv (k+1)) (m:=fun s=>(xs.length-s.1).toNat) ?_ _ ⟨⟨by dsimp only;omega,by dsimp only;omega⟩,by simp,by simp,fun p hp=>by cases hp⟩ (by dsimp only;omega)
   rintro ⟨i,ys⟩ ⟨⟨i0,i1⟩,y0,ym,yp⟩
   dsimp only at i0 i1 y0 ym yp ⊢
   refine eH (fun hin => ?_) fun hin=>aP (.inr ⟨_,rfl,by omega,?_,yp⟩)
   ·obtain ⟨n,rfl⟩ : ∃ n:Nat,i=n:=⟨i.toNat,by omega⟩
    have hn:n<xs.length:=by omega
    obtain ⟨⟨pl,pt⟩,pv,pv1,pv2⟩:=xp _ (List.getElem_mem hn)
    rw [Int.toNat_natCast] at ym
    simp only [dT hn,Option.bind_some]
    refine bZ (P:=fun (zs:List aV)=>((zs.length:Int)≤31*(n+1))∧zs.map (·.teeth)=((xs.take (n+1)).map (·.teeth)).flatMap (zZ lo hi) ∧ ∀ p ∈ zs,aWv lo hi (k+1).toNat p∧p.value=dF p.teeth∧1≤p.value∧p.value≤aSv (k+1)) ?_ fun v72 h72=>aP (.inl ⟨_,rfl,?_⟩)
    ·refine bZ (P:=fun f=>f=qG lo xs[n].teeth∧lo≤f∧f≤hi) (eH (fun hk0 => ?_) fun hk0=>aP ⟨?_,Int.le_refl _,lh⟩) fun f hf => ?_
     ·rw [bD (x:=k-1) (by omega) (by omega)]
      refine bZ (aRp (i:=k-1) (by omega) (by rw [pl];omega)) fun v58 h58=>aP ⟨?_,pt _ h58.1⟩
      have e:=h58.2
      unfold qG
      rw [List.getLast?_eq_getElem?,show xs[n].teeth.length-1=(k-1).toNat by omega,e]
      rfl
     ·have:xs[n].teeth=[]:=List.length_eq_zero_iff.1 (by omega)
      rw [this];rfl
     ·obtain ⟨fe,f0,f1⟩:=hf
      refine eI (I:=fun (s:Int × List aV)=>(f≤s.1∧s.1≤hi+1)∧((s.2.length:Int)≤31*n+(s.1-f))∧s.2.map (·.teeth)=((xs.take n).map (·.teeth)).flatMap (zZ lo hi)++(List.range (s.1-f).toNat).map (fun (j:Nat)=>xs[n].teeth++[f+(j:Int)]) ∧ ∀ p ∈ s.2,aWv lo hi (k+1).toNat p∧p.value=dF p.teeth∧1≤p.value∧p.value≤aSv (k+1)) (m:=fun s=>(hi+1-s.1).toNat) ?_ _ ⟨⟨by dsimp only;omega,by dsimp only;omega⟩,by dsimp only;omega,by dsimp only;rw [Int.sub_self];simpa using ym,yp⟩ (by dsimp only;omega)
      rintro ⟨t,zs⟩ ⟨⟨t0,t1⟩,z0,zm,zp⟩
      dsimp only at t0 t1 z0 zm zp ⊢
      refine eH (fun ht => ?_) fun ht=>aP (.inr ⟨_,rfl,by omega,?_,zp⟩)
      ·have hb:=yW (a:=xs[n].value) (b:=t) (A:=aSv k) (B:=120) (by omega) pv2 (by omega) (by omega)
       rw [aK1 (by omega),Option.bind_some,bD (x:=xs[n].value*t) (by omega) (by omega)]
       refine kK (by simp;omega) (kK (by simp;omega) (aP (.inl ⟨_,rfl,?_⟩)))
       dsimp only
       rw [bD (x:=t+1) (by omega) (by omega)]
       refine ⟨⟨⟨by omega,by omega⟩,by simp;omega,?_,?_⟩,by omega⟩
       ·rw [show (t+1-f).toNat=(t-f).toNat+1 by omega,List.range_succ,List.map_append,List.map_append,zm,List.append_assoc]
        simp only [List.map_cons,List.map_nil]
        congr 6
        omega
       ·intro p hp
        rcases List.mem_append.1 hp with hp | hp
        ·exact zp p hp
        ·rw [List.mem_singleton.1 hp]
         refine ⟨⟨by simp [pl];omega,fun u hu => ?_⟩,?_,?_,?_⟩
         ·rcases List.mem_append.1 hu with hu | hu
          ·exact pt u hu
          ·rw [List.mem_singleton.1 hu];omega
         ·rw [aPb, ← pv]
         ·dsimp only;omega
         ·dsimp only;omega
      ·have te:t=hi+1:=by omega
       subst te
       rw [zm,uZ hn,List.map_append,List.flatMap_append]
       congr 1
       simp only [List.map_cons,List.map_nil,List.flatMap_cons,List.flatMap_nil,List.append_nil]
       unfold zZ
       rw [← fe]
    ·dsimp only
     rw [bD (x:=(n:Int)+1) (by omega) (by omega)]
     exact ⟨⟨⟨by omega,by omega⟩,h72.1,by rw [show ((n:Int)+1).toNat=n+1 by omega];exact h72.2.1,h72.2.2⟩,by omega⟩
   ·rw [kt,aL7, ← xm,ym,List.take_of_length_le (by omega)]
  ·dsimp only
   rw [bD (x:=k+1) (by omega) (by omega)]
   exact ⟨⟨⟨by omega,by omega⟩,h74.1,h74.2.1,h74.2.2⟩,by omega⟩
 ·have hk2:k=2:=by omega
  subst hk2
  exact ⟨x1,xm,fun p hp=>(xp p hp).2.1⟩
def aU5 (lo hi:Int) (p:aV):Prop := ∃ x y:Int,p.teeth=[x,y]∧p.value=x*y∧lo≤x∧x≤y∧y≤hi
theorem aU6 {lo hi:Int} {xs:List aV} (h:xs.map (·.teeth)=cH lo hi 2) (hv : ∀ p ∈ xs,p.value=dF p.teeth):(∀ p ∈ xs,aU5 lo hi p) ∧ ∀ x y:Int,lo≤x→x≤y→y≤hi → ∃ p ∈ xs,p.teeth=[x,y]:=by
 constructor
 ·intro p hp
  have:p.teeth ∈ cH lo hi 2:=by rw [← h];exact List.mem_map_of_mem hp
  obtain ⟨x,y,e,h1,h2,h3⟩:=aGj.1 this
  exact ⟨x,y,e,by rw [hv p hp,e];simp [dF],h1,h2,h3⟩
 ·intro x y h1 h2 h3
  have:[x,y] ∈ xs.map (·.teeth):=by rw [h];exact aGj.2 ⟨x,y,rfl,h1,h2,h3⟩
  obtain ⟨p,hp,e⟩:=List.mem_map.1 this
  exact ⟨p,hp,e⟩
def nF:List Int→List Int→List bQ
 | [x,y],[c,d]=>[⟨y,c⟩,⟨x,d⟩]
 | _,_=>[]
theorem aJa {p q:aV} (hp:aU5 60 84 p) (hq:aU5 7 10 q):gL (nF p.teeth q.teeth)∧pT (nF p.teeth q.teeth)=p.value∧qT (nF p.teeth q.teeth)=q.value:=by
 obtain ⟨x,y,e,v,h1,h2,h3⟩:=hp
 obtain ⟨c,d,f,w,h4,h5,h6⟩:=hq
 rw [e,f]
 exact ⟨⟨x,y,c,d,rfl,⟨h1,h2,h3⟩,h4,h5,h6⟩,v.symm,w.symm⟩
theorem aGu {x y:Int} (h:x≤y) {v:List Int} (hp:v.Perm [x,y]) (hs:v.Pairwise (· ≤ ·)):v=[x,y]:=by
 have hl:=hp.length_eq
 match v,hl with
 | [a,b],_ =>
  have hab:a≤b:=by simpa using hs
  have ha:=hp.mem_iff (a:=a)
  have hb:=hp.mem_iff (a:=b)
  have hx:=hp.mem_iff (a:=x)
  have hy:=hp.mem_iff (a:=y)
  simp at ha hb hx hy
  have:a=x∧b=y:=by omega
  rw [this.1,this.2]
theorem aTa {p q:aV} (hp:aU5 60 84 p) (hq:aU5 7 10 q):nR p.teeth q.teeth=some (nF p.teeth q.teeth):=by
 obtain ⟨x,y,e,v,h1,h2,h3⟩:=hp
 obtain ⟨c,d,f,w,h4,h5,h6⟩:=hq
 have key:Ok (nR p.teeth q.teeth) (fun t=>t=nF p.teeth q.teeth):=by
  rw [e,f]
  unfold nR
  refine bZ (aSc (by simp)) fun v1 k1=>bZ (aSc (by simp)) fun v2 k2 => ?_
  rw [aGu h2 k1.1 k1.2,aGu h5 k2.1 k2.2]
  refine bZ (P:=fun t=>t=nF [x,y] [c,d]) ?_ fun t h=>aP h
  refine eI (I:=fun (s:Int × List bQ)=>(0≤s.1∧s.1≤2)∧s.2=(nF [x,y] [c,d]).take s.1.toNat) (m:=fun s=>(2-s.1).toNat) ?_ _ ⟨⟨by dsimp only;omega,by dsimp only;omega⟩,by simp⟩ (by dsimp only;omega)
  rintro ⟨i,out⟩ ⟨⟨i0,i1⟩,io⟩
  dsimp only at i0 i1 io ⊢
  subst io
  have:i=0∨i=1∨i=2:=by omega
  rcases this with rfl | rfl | rfl
  ·exact aP (.inl ⟨_,rfl,⟨⟨by show 0≤w64 (0+1);decide,by show w64 (0+1)≤2;decide⟩,rfl⟩,by show (2-w64 (0+1)).toNat<(2-0:Int).toNat;decide⟩)
  ·exact aP (.inl ⟨_,rfl,⟨⟨by show 0≤w64 (1+1);decide,by show w64 (1+1)≤2;decide⟩,rfl⟩,by show (2-w64 (1+1)).toNat<(2-1:Int).toNat;decide⟩)
  ·exact aP (.inr ⟨_,rfl,rfl⟩)
 obtain ⟨t,ht,rfl⟩:=key
 exact ht
theorem aSi (x y:bQ) (hx:0≤x.Driver∧x.Driver≤240∧0≤x.Driven∧x.Driven≤240) (hy:0≤y.Driver∧y.Driver≤240∧0≤y.Driven∧y.Driven≤240):pM [x,y]=some (x.Driver+x.Driven+(y.Driver+y.Driven)):=by
 have key:Ok (pM [x,y]) (fun t=>t=x.Driver+x.Driven+(y.Driver+y.Driven)):=by
  unfold pM
  refine bZ (P:=fun t=>t=x.Driver+x.Driven+(y.Driver+y.Driven)) ?_ fun t h=>aP h
  refine eI (I:=fun (s:Int × Int)=>(s.2=0∧s.1=0)∨(s.2=1∧s.1=x.Driver+x.Driven)∨(s.2=2∧s.1=x.Driver+x.Driven+(y.Driver+y.Driven))) (m:=fun s=>(2-s.2).toNat) ?_ _ (.inl ⟨rfl,rfl⟩) (by decide)
  rintro ⟨k,i⟩ h
  dsimp only at h ⊢
  rcases h with ⟨rfl,rfl⟩ | ⟨rfl,rfl⟩ | ⟨rfl,rfl⟩
  ·show Ok (some (Sum.inl (w64 (0+w64 (x.Driver+x.Driven)),w64 (0+1)))) _
   rw [bD (x:=x.Driver+x.Driven) (by omega) (by omega),bD (x:=0+_) (by omega) (by omega)]
   exact aP (.inl ⟨_,rfl, .inr (.inl ⟨rfl,by dsimp only;omega⟩),by show (2-w64 (0+1)).toNat<(2-0:Int).toNat;decide⟩)
  ·show Ok (some (Sum.inl (w64 (x.Driver+x.Driven+w64 (y.Driver+y.Driven)),w64 (1+1)))) _
   rw [bD (x:=y.Driver+y.Driven) (by omega) (by omega),bD (x:=_+(_+_)) (by omega) (by omega)]
   exact aP (.inl ⟨_,rfl, .inr (.inr ⟨rfl,rfl⟩),by show (2-w64 (1+1)).toNat<(2-1:Int).toNat;decide⟩)
  ·exact aP (.inr ⟨_,rfl,rfl⟩)
 obtain ⟨t,ht,rfl⟩:=key
 exact ht
theorem aNu (x y:bQ) (v:Int) {step:Int × List Int→Option ((Int × List Int) ⊕ List Int)} (hstep : ∀ s,step s=if s.1<(([x,y]:List bQ).length:Int) then ((atI [x,y] s.1).bind fun v8=>((atI [x,y] s.1).bind fun v9=>(chk ((s.2.length+[v8.Driver,v9.Driven].length)*1*64≤140737488355328) (some (.inl (w64 (s.1+1),s.2++[v8.Driver,v9.Driven])))))) else some (.inr s.2)):cD step (0,[v])=some [v,x.Driver,x.Driven,y.Driver,y.Driven]:=by
 have key:Ok (cD step (0,[v])) (fun t=>t=[v,x.Driver,x.Driven,y.Driver,y.Driven]):=by
  refine eI (I:=fun (s:Int × List Int)=>(s.1=0∧s.2=[v])∨(s.1=1∧s.2=[v,x.Driver,x.Driven])∨(s.1=2∧s.2=[v,x.Driver,x.Driven,y.Driver,y.Driven])) (m:=fun s=>(2-s.1).toNat) ?_ _ (.inl ⟨rfl,rfl⟩) (by show (2-0:Int).toNat<1180591620717411303424;decide)
  rintro ⟨i,s⟩ h
  dsimp only at h ⊢
  rw [hstep]
  rcases h with ⟨rfl,rfl⟩ | ⟨rfl,rfl⟩ | ⟨rfl,rfl⟩
  ·exact aP (.inl ⟨_,rfl, .inr (.inl ⟨rfl,rfl⟩),by show (2-w64 (0+1)).toNat<(2-0:Int).toNat;decide⟩)
  ·exact aP (.inl ⟨_,rfl, .inr (.inr ⟨rfl,rfl⟩),by show (2-w64 (1+1)).toNat<(2-1:Int).toNat;decide⟩)
  ·exact aP (.inr ⟨_,rfl,rfl⟩)
 obtain ⟨t,ht,rfl⟩:=key
 exact ht
end Go.Proofs.YtceknlcbfomdhaaGreatDoor
namespace Go.Proofs.YtceknlcbfomdhaaGreatDoor
set_option linter.unusedVariables false
set_option maxRecDepth 100000
def aFf:List (Int × Int)→Int
 | []=>0
 | p :: r=>if p.1<p.2 then -1 else if p.2<p.1 then 1 else aFf r
def aXm:List bQ→List bQ→List (Int × Int)
 | [x,y],[z,w]=>[(x.Driver+x.Driven+(y.Driver+y.Driven),z.Driver+z.Driven+(w.Driver+w.Driven)),(x.Driver,z.Driver),(x.Driven,z.Driven),(y.Driver,w.Driver),(y.Driven,w.Driven)]
 | _,_=>[]
theorem aQi {t u:List bQ} (ht:gL t) (hu:gL u):aFf (aXm t u)<0 ↔ ltT t u:=by
 obtain ⟨a,b,c,d,rfl,_⟩:=ht
 obtain ⟨e,f,g,h,rfl,_⟩:=hu
 simp only [ltT,aXm,aFf]
 constructor
 ·intro q
  repeat' split at q
  all_goals omega
 ·intro q
  repeat' split
  all_goals omega
theorem aOs {t u:List bQ} (ht:gL t) (hu:gL u):mR t u=some (aFf (aXm t u)):=by
 obtain ⟨a,b,c,d,rfl,⟨a1,a2,a3⟩,a4,a5,a6⟩:=ht
 obtain ⟨e,f,g,h,rfl,⟨b1,b2,b3⟩,b4,b5,b6⟩:=hu
 unfold mR
 rw [aSi _ _ (by dsimp only;omega) (by dsimp only;omega),Option.bind_some,aSi _ _ (by dsimp only;omega) (by dsimp only;omega),Option.bind_some,aNu _ _ _ fun s=>rfl,Option.bind_some,aNu _ _ _ fun s=>rfl,Option.bind_some]
 show _=some (aFf [(b+c+(a+d),f+g+(e+h)),(b,f),(c,g),(a,e),(d,h)])
 dsimp only
 generalize b+c+(a+d)=S
 generalize f+g+(e+h)=T
 have key:=yA (xs:=[(S,T),(b,f),(c,g),(a,e),(d,h)]) (X:=Unit ⊕ Int) (S:=Int) (step:=fun s27 =>
 (((if s27<([S,b,c,a,d].length:Int) then
 some (decide (s27<([T,f,g,e,h].length:Int)))
 else
 some false):Option Bool).bind fun v28 =>
 (if v28=true then
 ((atI [S,b,c,a,d] s27).bind fun v29 =>
 ((atI [T,f,g,e,h] s27).bind fun v30 =>
 (if v29<v30 then
 some (.inr (.inr (-1)))
 else
 ((atI [S,b,c,a,d] s27).bind fun v31 =>
 ((atI [T,f,g,e,h] s27).bind fun v32 =>
 (if v32<v31 then
 some (.inr (.inr 1))
 else
 some (.inl (w64 (s27+1)))))))))
 else
 some (.inr (.inl ()))))) (fun i (_:Unit)=>i) (fun _ (p:Int × Int) _=>if p.1<p.2 then some (.inr (.inr (-1))) else if p.2<p.1 then some (.inr (.inr 1)) else some (.inl ())) (fun _ => .inl ()) (by simp) (fun i hi s=>by
  have hi5:i<5:=hi
  have:i=0∨i=1∨i=2∨i=3∨i=4:=by omega
  rcases this with rfl | rfl | rfl | rfl | rfl
  ·show (if S<T then some (Sum.inr (Sum.inr (-1))) else if T<S then some (Sum.inr (Sum.inr 1)) else some (Sum.inl (w64 (0+1))))=_
   simp only [List.getElem_cons_zero,List.getElem_cons_succ]
   split
   ·rfl
   ·split <;> rfl
  ·show (if b<f then some (Sum.inr (Sum.inr (-1))) else if f<b then some (Sum.inr (Sum.inr 1)) else some (Sum.inl (w64 (1+1))))=_
   simp only [List.getElem_cons_zero,List.getElem_cons_succ]
   split
   ·rfl
   ·split <;> rfl
  ·show (if c<g then some (Sum.inr (Sum.inr (-1))) else if g<c then some (Sum.inr (Sum.inr 1)) else some (Sum.inl (w64 (2+1))))=_
   simp only [List.getElem_cons_zero,List.getElem_cons_succ]
   split
   ·rfl
   ·split <;> rfl
  ·show (if a<e then some (Sum.inr (Sum.inr (-1))) else if e<a then some (Sum.inr (Sum.inr 1)) else some (Sum.inl (w64 (3+1))))=_
   simp only [List.getElem_cons_zero,List.getElem_cons_succ]
   split
   ·rfl
   ·split <;> rfl
  ·show (if d<h then some (Sum.inr (Sum.inr (-1))) else if h<d then some (Sum.inr (Sum.inr 1)) else some (Sum.inl (w64 (4+1))))=_
   simp only [List.getElem_cons_zero,List.getElem_cons_succ]
   split
   ·rfl
   ·split <;> rfl) (fun s=>rfl) ()
 refine (congrArg (fun (x:Option (Unit ⊕ Int))=>x.bind _) key).trans ?_
 simp only [aP0,aFf]
 by_cases h1:S<T
 ·rw [if_pos h1,if_pos h1];rfl
 rw [if_neg h1,if_neg h1]
 by_cases h2:T<S
 ·rw [if_pos h2,if_pos h2];rfl
 rw [if_neg h2,if_neg h2]
 simp only [Option.bind_some]
 by_cases h1:b<f
 ·rw [if_pos h1,if_pos h1];rfl
 rw [if_neg h1,if_neg h1]
 by_cases h2:f<b
 ·rw [if_pos h2,if_pos h2];rfl
 rw [if_neg h2,if_neg h2]
 simp only [Option.bind_some]
 by_cases h1:c<g
 ·rw [if_pos h1,if_pos h1];rfl
 rw [if_neg h1,if_neg h1]
 by_cases h2:g<c
 ·rw [if_pos h2,if_pos h2];rfl
 rw [if_neg h2,if_neg h2]
 simp only [Option.bind_some]
 by_cases h1:a<e
 ·rw [if_pos h1,if_pos h1];rfl
 rw [if_neg h1,if_neg h1]
 by_cases h2:e<a
 ·rw [if_pos h2,if_pos h2];rfl
 rw [if_neg h2,if_neg h2]
 simp only [Option.bind_some]
 by_cases h1:d<h
 ·rw [if_pos h1,if_pos h1];rfl
 rw [if_neg h1,if_neg h1]
 by_cases h2:h<d
 ·rw [if_pos h2,if_pos h2];rfl
 rw [if_neg h2,if_neg h2]
 rfl
def aS3 (r:aD):Prop:=(1≤r.Num∧r.Num≤1000000)∧1≤r.Den∧r.Den≤1000000
def yZ (r:aD) (U:List bQ→Prop) (s:eR):Prop:=(s.train=[] ∧ ∀ u, ¬ U u)∨(gL s.train∧s.driven=qT s.train∧s.off=aFg r s.train ∧ ∀ u,U u→gL u → ¬ sI r u s.train)
theorem nD {r:aD} {U V:List bQ→Prop} {s:eR} (h:yZ r U s) (k : ∀ u,V u→U u):yZ r V s:=by
 rcases h with ⟨h1,h2⟩ | ⟨h1,h2,h3,h4⟩
 ·exact .inl ⟨h1,fun u hu=>h2 u (k u hu)⟩
 ·exact .inr ⟨h1,h2,h3,fun u hu=>h4 u (k u hu)⟩
theorem aI7 {r:aD} {U V:List bQ→Prop} {s:eR} (h:yZ r U s) (k : ∀ u,V u→U u ∨ ∃ w,U w∧gL w∧sI r w u):yZ r V s:=by
 rcases h with ⟨h1,h2⟩ | ⟨h1,h2,h3,h4⟩
 ·refine .inl ⟨h1,fun u hu => ?_⟩
  rcases k u hu with q | ⟨w,q,_⟩
  ·exact h2 u q
  ·exact h2 w q
 ·refine .inr ⟨h1,h2,h3,fun u hu hc => ?_⟩
  rcases k u hu with q | ⟨w,q,hw,hl⟩
  ·exact h4 u q hc
  ·exact aVu hw hc h1 hl (h4 w q hw)
theorem aK7 {s:eR} {r:aD} {a b:aV} {U:List bQ→Prop} (hr:aS3 r) (ha:aU5 60 84 a) (hb:aU5 7 10 b) (hs:yZ r U s):Ok (hZ s r a b) (yZ r fun u=>U u∨u=nF a.teeth b.teeth):=by
 obtain ⟨hC,hp,hq⟩:=aJa ha hb
 have cb:=aDv hC
 obtain ⟨⟨p0,p1⟩,q0,q1⟩:=cb
 rw [hp] at p0 p1
 rw [hq] at q0 q1
 obtain ⟨⟨f0,f1⟩,⟨f2,f3⟩,f4,f5⟩:=aJj (r:=r) (p:=a.value) (q:=b.value) (by unfold aS3 at hr;omega) (by unfold aS3 at hr;omega) ⟨p0,p1⟩ ⟨q0,q1⟩
 have hF:oX r a.value b.value=aFg r (nF a.teeth b.teeth):=by unfold aFg;rw [hp,hq]
 unfold hZ
 rw [bD (x:=a.value*r.Den) (by omega) (by omega),bD (x:=b.value*r.Num) (by omega) (by omega),bD (x:=a.value*r.Den-b.value*r.Num) (by omega) (by omega),qP (by omega) (by omega),Option.bind_some,aTa ha hb]
 have e0:fI (a.value*r.Den-b.value*r.Num)=oX r a.value b.value:=rfl
 rw [e0]
 generalize nF a.teeth b.teeth=t at *
 rcases hs with ⟨h1,h2⟩ | ⟨h1,h2,h3,h4⟩
 ·rw [h1]
  simp only [List.length_nil,Int.natCast_zero,Int.lt_irrefl,if_false,Option.bind_some,Bool.false_eq_true,if_true]
  refine aP (.inr ⟨hC,hq.symm,hF,fun u hu hc => ?_⟩)
  rcases hu with hu | rfl
  ·exact absurd hu (h2 u)
  ·exact aNx hc
 ·have hl:s.train.length=2:=by
   obtain ⟨_,_,_,_,e,_⟩:=h1
   rw [e];rfl
  obtain ⟨⟨P0,P1⟩,Q0,Q1⟩:=aDv h1
  have F:=(aJj (r:=r) (p:=pT s.train) (q:=qT s.train) (by unfold aS3 at hr;omega) (by unfold aS3 at hr;omega) ⟨P0,P1⟩ ⟨Q0,Q1⟩).2.2
  have m1:oX r a.value b.value*s.driven≤8000000000*100:=Int.mul_le_mul f5 (by omega) (by omega) (by omega)
  have m2:0≤oX r a.value b.value*s.driven:=Int.mul_nonneg f4 (by omega)
  have hso:s.off=oX r (pT s.train) (qT s.train):=h3
  have m3:s.off*b.value≤8000000000*100:=Int.mul_le_mul (by omega) q1 (by omega) (by omega)
  have m4:0≤s.off*b.value:=Int.mul_nonneg (by omega) (by omega)
  rw [bD (x:=s.off*b.value) (by omega) (by omega),bD (x:=_*s.driven) (by omega) (by omega),hl,if_pos (by decide),Option.bind_some]
  have Fe:oX r a.value b.value*s.driven=aFg r t*qT s.train:=by rw [hF,h2]
  have Ge:s.off*b.value=aFg r s.train*qT t:=by rw [h3,hq]
  have keep : ¬ sI r t s.train→yZ r (fun u=>U u∨u=t) s:=fun hn => .inr ⟨h1,h2,h3,fun u hu hc=>by
   rcases hu with hu | rfl
   ·exact h4 u hu hc
   ·exact hn⟩
  have new:sI r t s.train→yZ r (fun u=>U u∨u=t) ⟨a.value,b.value,oX r a.value b.value,t⟩:=fun hn => .inr ⟨hC,hq.symm,hF,fun u hu hc=>by
   rcases hu with hu | rfl
   ·exact fun hx=>h4 u hu hc (aQ5 hc hC h1 hx hn)
   ·exact aNx hc⟩
  rw [Fe,Ge]
  refine eH (fun h=>aP (keep ?_)) fun h => ?_
  ·have h:=of_decide_eq_true h
   unfold sI
   rintro (q | ⟨q,_⟩) <;> omega
  ·have h : ¬ aFg r s.train*qT t<aFg r t*qT s.train:=fun q=>h (decide_eq_true q)
   rw [Option.bind_some]
   refine bZ (P:=fun b=>(b=true ↔ sI r t s.train)) (eH (fun hx=>absurd hx (by decide)) fun _=>eH (fun hx=>aP ⟨fun _ => .inl hx,fun _=>rfl⟩) fun hx => ?_) fun v5 h5=>eH (fun q=>aP (new (h5.1 q))) fun q=>aP (keep fun z=>q (h5.2 z))
   rw [aOs hC h1,Option.bind_some]
   refine aP ?_
   rw [decide_eq_true_eq,aQi hC h1]
   constructor
   ·exact fun q => .inr ⟨by omega,q⟩
   ·rintro (q | ⟨_,q⟩)
    ·exact absurd q hx
    ·exact q
theorem aNa {r:aD} (hr:aS3 r):Ok (lZ r ⟨60,84,7,10,2⟩) (fun t=>gL t ∧ ∀ u,gL u → ¬ sI r u t):=by
 have hr':=hr
 obtain ⟨⟨n0,n1⟩,d0,d1⟩:=hr'
 unfold lZ
 refine bZ (aN8 (lo:=60) (hi:=84) (by decide) (by decide) (by decide) (by decide)) fun v1 h1 => ?_
 refine bZ (aN8 (lo:=7) (hi:=10) (by decide) (by decide) (by decide) (by decide)) fun v2 h2 => ?_
 obtain ⟨p1,c1⟩:=aU6 h1.2.1 h1.2.2
 obtain ⟨p2,c2⟩:=aU6 h2.2.1 h2.2.2
 refine bZ (aWh (by omega)) fun v3 h3 => ?_
 have l3:=h3.1.length_eq
 have p3 : ∀ p ∈ v3,aU5 7 10 p:=fun p hp=>p2 p (h3.1.mem_iff.1 hp)
 have hS:=h3.2
 have full : ∀ u,gL u → ∃ (n:Nat) (hn:n<v1.length) (m:Nat) (hm:m<v3.length),u=nF v1[n].teeth v3[m].teeth:=by
  rintro u ⟨a,b,c,d,rfl,⟨u1,u2,u3⟩,u4,u5,u6⟩
  obtain ⟨p,hp,ep⟩:=c1 a b u1 u2 u3
  obtain ⟨q,hq,eq⟩:=c2 c d u4 u5 u6
  obtain ⟨n,hn,rfl⟩:=List.getElem_of_mem hp
  obtain ⟨m,hm,rfl⟩:=List.getElem_of_mem (h3.1.mem_iff.2 hq)
  exact ⟨n,hn,m,hm,by rw [ep,eq];rfl⟩
 have c0:gL [⟨60,7⟩,⟨60,7⟩]:=⟨60,60,7,7,rfl,by decide,by decide⟩
 refine bZ (P:=fun (s:eR)=>yZ r (fun u => ∃ (n:Nat) (hn:n<v1.length) (m:Nat) (hm:m<v3.length),u=nF v1[n].teeth v3[m].teeth) s) ?_ fun v70 h70=>aP ?_
 ·refine eI (I:=fun (s:Int × eR)=>(0≤s.1∧s.1≤v1.length)∧yZ r (fun u => ∃ (n:Nat) (hn:n<v1.length),(n:Int)<s.1 ∧ ∃ (m:Nat) (hm:m<v3.length),u=nF v1[n].teeth v3[m].teeth) s.2) (m:=fun s=>(v1.length-s.1).toNat) ?_ _ ⟨⟨by dsimp only;omega,by dsimp only;omega⟩, .inl ⟨rfl,fun u hu=>by obtain ⟨n,_,hn,_⟩:=hu;dsimp only at hn;omega⟩⟩ (by dsimp only;omega)
  rintro ⟨i,s⟩ ⟨⟨i0,i1⟩,hs⟩
  dsimp only at i0 i1 hs ⊢
  refine eH (fun hi => ?_) fun hi=>aP (.inr ⟨_,rfl,nD hs fun u hu => ?_⟩)
  ·obtain ⟨n,rfl⟩ : ∃ n:Nat,i=n:=⟨i.toNat,by omega⟩
   have hn:n<v1.length:=by omega
   have pn:=p1 _ (List.getElem_mem hn)
   simp only [dT hn,Option.bind_some]
   -- the trains with this driver
   obtain ⟨U,hU⟩ : ∃ U:List bQ→Prop,U=fun u => ∃ (k:Nat) (hk:k<v1.length),(k:Int)<n ∧ ∃ (m:Nat) (hm:m<v3.length),u=nF v1[k].teeth v3[m].teeth:=⟨_,rfl⟩
   rw [← hU] at hs
   obtain ⟨a,ea⟩ : ∃ a,a=v1[n]:=⟨_,rfl⟩
   rw [← ea] at pn ⊢
   have av:0<a.value∧a.value≤7056:=by
    obtain ⟨x,y,_,e,q⟩:=pn
    rw [e];exact yW (A:=84) (B:=84) (by omega) (by omega) (by omega) (by omega)
   have qv : ∀ (m:Nat) (hm:m<v3.length),0<v3[m].value∧v3[m].value≤100:=fun m hm=>by
    obtain ⟨x,y,_,e,q⟩:=p3 _ (List.getElem_mem hm)
    rw [e];exact yW (A:=10) (B:=10) (by omega) (by omega) (by omega) (by omega)
   have ad:0<a.value*r.Den∧a.value*r.Den≤7056*1000000:=yW av.1 av.2 d0 d1
   -- a nearer product on the same side is better
   have aYl : ∀ (m k:Nat) (hm:m<v3.length) (hk:k<v3.length),oX r a.value v3[k].value*v3[m].value<oX r a.value v3[m].value*v3[k].value→sI r (nF a.teeth v3[k].teeth) (nF a.teeth v3[m].teeth):=fun m k hm hk h=>by
    obtain ⟨_,x1,x2⟩:=aJa pn (p3 _ (List.getElem_mem hk))
    obtain ⟨_,y1,y2⟩:=aJa pn (p3 _ (List.getElem_mem hm))
    refine .inl ?_
    unfold aFg
    rw [x1,x2,y1,y2];exact h
   refine bZ (P:=fun (s:eR)=>yZ r (fun u=>U u ∨ ∃ (m:Nat) (hm:m<v3.length),u=nF a.teeth v3[m].teeth) s) ?_ fun v69 h69=>aP (.inl ⟨_,rfl,?_⟩)
   ·refine kK (by omega) ?_
    obtain ⟨w,hw⟩ : ∃ w:Int,w=a.value*r.Den / r.Num:=⟨_,rfl⟩
    have w0:0≤w:=by rw [hw];exact Int.ediv_nonneg (by omega) (by omega)
    have w1:w≤a.value*r.Den:=by rw [hw];exact Int.ediv_le_self _ (by omega)
    have wl : ∀ v:Int,v<w+1→v*r.Num≤a.value*r.Den:=fun v hv=>by
     have:=Int.mul_le_of_le_ediv (show 0<r.Num by omega) (show v≤a.value*r.Den / r.Num by omega)
     exact this
    have wh : ∀ v:Int,w+1≤v→a.value*r.Den≤v*r.Num:=fun v hv=>by
     have:=Int.lt_mul_of_ediv_lt (show 0<r.Num by omega) (show a.value*r.Den / r.Num<v by omega)
     omega
    rw [bD (x:=a.value*r.Den) (by omega) (by omega),Int.tdiv_eq_ediv_of_nonneg (by omega), ← hw,bD (x:=w) (by omega) (by omega),bD (x:=w+1) (by omega) (by omega)]
    refine bZ (aTi hS (by omega) _) fun k hk => ?_
    obtain ⟨⟨k0,k1⟩,kl,kh⟩:=hk
    obtain ⟨k,rfl⟩ : ∃ j:Nat,k=j:=⟨k.toNat,by omega⟩
    refine bZ (P:=fun (s:eR)=>yZ r (fun u=>U u ∨ ∃ (m:Nat) (hm:m<v3.length),m<k∧u=nF a.teeth v3[m].teeth) s) ?_ fun v54 h54 => ?_
    ·refine eH (fun hk => ?_) fun hk=>aP (nD hs fun u hu => ?_)
     ·obtain ⟨q,hq⟩ : ∃ q:Nat,(k:Int)-1=q:=⟨k-1,by omega⟩
      rw [bD (x:=(k:Int)-1) (by omega) (by omega),hq]
      have hq1:q<v3.length:=by omega
      rw [dT hq1,Option.bind_some]
      refine eI (I:=fun (x:Int × eR)=>(-1≤x.1∧x.1≤q)∧yZ r (fun u=>U u ∨ ∃ (m:Nat) (hm:m<v3.length),x.1<m∧m≤q∧u=nF a.teeth v3[m].teeth) x.2) (m:=fun x=>(x.1+1).toNat) ?_ _ ⟨⟨by dsimp only;omega,by dsimp only;omega⟩,nD hs fun u hu => ?_⟩ (by dsimp only;omega)
      ·rintro ⟨j,u⟩ ⟨⟨j0,j1⟩,hu⟩
       dsimp only at j0 j1 hu ⊢
       have stop:(∀ (m:Nat) (hm:m<v3.length),(m:Int)≤j→v3[m].value<v3[q].value)→(j<q)→yZ r (fun u=>U u ∨ ∃ (m:Nat) (hm:m<v3.length),m<k∧u=nF a.teeth v3[m].teeth) u:=fun hlow hjq=>aI7 hu fun x hx=>by
        rcases hx with hx | ⟨m,hm,mk,rfl⟩
        ·exact .inl (.inl hx)
        ·rcases Int.lt_or_le j m with hjm | hjm
         ·exact .inl (.inr ⟨m,hm,hjm,by omega,rfl⟩)
         ·refine .inr ⟨nF a.teeth v3[q].teeth, .inr ⟨q,hq1,hjq,Nat.le_refl _,rfl⟩,(aJa pn (p3 _ (List.getElem_mem hq1))).1,aYl m q hm hq1 ?_⟩
          exact aN2 ad.1 (by omega) (hlow m hm hjm) (wl _ (kl q hq1 (by omega)))
       by_cases hj:0≤j
       ·obtain ⟨m,rfl⟩ : ∃ m:Nat,j=m:=⟨j.toNat,by omega⟩
        have hm:m<v3.length:=by omega
        rw [if_pos hj]
        simp only [dT hm,Option.bind_some]
        refine eH (fun _=>bZ (aK7 hr pn (p3 _ (List.getElem_mem hm)) hu) fun w hw=>aP (.inl ⟨_,rfl,?_⟩)) fun hne=>aP (.inr ⟨_,rfl,stop ?_ ?_⟩)
        ·dsimp only
         rw [bD (x:=(m:Int)-1) (by omega) (by omega)]
         refine ⟨⟨⟨by omega,by omega⟩,nD hw fun x hx => ?_⟩,by omega⟩
         rcases hx with hx | ⟨m',hm',g1,g2,rfl⟩
         ·exact .inl (.inl hx)
         ·rcases Nat.lt_or_ge m m' with g | g
          ·exact .inl (.inr ⟨m',hm',by omega,g2,rfl⟩)
          ·have:m'=m:=by omega
           subst this
           exact .inr rfl
        ·intro m' hm' hle
         have a1:=iW hS (i:=m') (j:=m) (by omega) hm
         have a2:=iW hS (i:=m) (j:=q) (by omega) hq1
         have a3:v3[m].value≠v3[q].value:=fun e=>hne (decide_eq_true e)
         omega
        ·rcases Nat.lt_or_ge m q with g | g
         ·omega
         ·have:m=q:=by omega
          subst this
          exact absurd (decide_eq_true rfl) hne
       ·rw [if_neg hj,Option.bind_some,if_neg (by decide)]
        exact aP (.inr ⟨_,rfl,stop (fun m hm hle=>by omega) (by omega)⟩)
      ·rcases hu with hu | ⟨m,hm,g1,g2,rfl⟩
       ·exact hu
       ·dsimp only at g1;omega
     ·rcases hu with hu | ⟨m,hm,g,rfl⟩
      ·exact hu
      ·omega
    ·refine eI (I:=fun (x:Int × eR)=>(k≤x.1∧x.1≤v3.length)∧yZ r (fun u=>U u ∨ ∃ (m:Nat) (hm:m<v3.length),(m:Int)<x.1∧u=nF a.teeth v3[m].teeth) x.2) (m:=fun x=>(v3.length-x.1).toNat) ?_ _ ⟨⟨by dsimp only;omega,by dsimp only;omega⟩,nD h54 fun u hu => ?_⟩ (by dsimp only;omega)
     ·rintro ⟨j,u⟩ ⟨⟨j0,j1⟩,hu⟩
      dsimp only at j0 j1 hu ⊢
      by_cases hj:j<v3.length
      ·obtain ⟨m,rfl⟩ : ∃ m:Nat,j=m:=⟨j.toNat,by omega⟩
       have hm:m<v3.length:=by omega
       have hkl:k<v3.length:=by omega
       rw [if_pos hj]
       simp only [dT hm,dT hkl,Option.bind_some]
       refine eH (fun _=>bZ (aK7 hr pn (p3 _ (List.getElem_mem hm)) hu) fun w hw=>aP (.inl ⟨_,rfl,?_⟩)) fun hne=>aP (.inr ⟨_,rfl,?_⟩)
       ·dsimp only
        rw [bD (x:=(m:Int)+1) (by omega) (by omega)]
        refine ⟨⟨⟨by omega,by omega⟩,nD hw fun x hx => ?_⟩,by omega⟩
        rcases hx with hx | ⟨m',hm',g1,rfl⟩
        ·exact .inl (.inl hx)
        ·rcases Nat.lt_or_ge m' m with g | g
         ·exact .inl (.inr ⟨m',hm',by omega,rfl⟩)
         ·have:m'=m:=by omega
          subst this
          exact .inr rfl
       ·have a3:v3[m].value≠v3[k].value:=fun e=>hne (decide_eq_true e)
        have hkm:k<m:=by
         rcases Nat.lt_or_ge k m with g | g
         ·exact g
         ·have:m=k:=by omega
          subst this
          exact absurd rfl a3
        refine aI7 hu fun x hx => ?_
        rcases hx with hx | ⟨m',hm',rfl⟩
        ·exact .inl (.inl hx)
        ·rcases Nat.lt_or_ge m' m with g | g
         ·exact .inl (.inr ⟨m',hm',by omega,rfl⟩)
         ·refine .inr ⟨nF a.teeth v3[k].teeth, .inr ⟨k,hkl,by omega,rfl⟩,(aJa pn (p3 _ (List.getElem_mem hkl))).1,aYl m' k hm' hkl ?_⟩
          have a1:=iW hS (i:=k) (j:=m) (by omega) hm
          have a2:=iW hS (i:=m) (j:=m') (by omega) hm'
          exact aJ6 ad.1 (by omega) (by omega) (wh _ (kh k hkl (Int.le_refl _)))
      ·rw [if_neg hj,Option.bind_some,if_neg (by decide)]
       refine aP (.inr ⟨_,rfl,nD hu fun x hx => ?_⟩)
       rcases hx with hx | ⟨m',hm',rfl⟩
       ·exact .inl hx
       ·exact .inr ⟨m',hm',by omega,rfl⟩
     ·rcases hu with hu | ⟨m,hm,g,rfl⟩
      ·exact .inl hu
      ·dsimp only at g;exact .inr ⟨m,hm,by omega,rfl⟩
   ·dsimp only
    rw [bD (x:=(n:Int)+1) (by omega) (by omega)]
    refine ⟨⟨⟨by omega,by omega⟩,nD h69 fun u hu => ?_⟩,by omega⟩
    obtain ⟨k,hk,g,m,hm,rfl⟩:=hu
    rcases Nat.lt_or_ge k n with q | q
    ·left;rw [hU];exact ⟨k,hk,by omega,m,hm,rfl⟩
    ·have:k=n:=by omega
     subst this
     right;exact ⟨m,hm,by rw [ea]⟩
  ·obtain ⟨n,hn,m,hm,rfl⟩:=hu
   exact ⟨n,hn,by omega,m,hm,rfl⟩
 ·rcases h70 with ⟨_,h⟩ | ⟨g1,_,_,g4⟩
  ·exact absurd (full _ c0) (h _)
  ·exact ⟨g1,fun u hu=>g4 u (full u hu) hu⟩
end Go.Proofs.YtceknlcbfomdhaaGreatDoor
namespace Go.Proofs.YtceknlcbfomdhaaGreatDoor
set_option linter.unusedVariables false
set_option maxRecDepth 100000
def aDw (a b:Int):Int:=if a<b then -1 else if b<a then 1 else 0
theorem aG6 {a b:Int}:aDw a b<0 ↔ a<b:=by
 unfold aDw
 repeat' split
 all_goals omega
theorem aG5 {a b:Int}:aDw a b=0 ↔ a=b:=by
 unfold aDw
 repeat' split
 all_goals omega
theorem aJc (a b:Int):dY a b=some (aDw a b):=by
 unfold dY jB aDw
 simp only [ne_eq,not_true_eq_false,decide_false,Option.bind_some,Bool.false_eq_true,if_false]
 repeat' split
 all_goals rfl
theorem aYn (a b:Int):nG [a,b]=some (if a≠0 then a else b):=by
 have key:Ok (nG [a,b]) (fun r=>r=if a≠0 then a else b):=by
  unfold nG
  refine bZ (P:=fun (x:Unit ⊕ Int)=>x=if a≠0 then .inr a else if b≠0 then .inr b else .inl ()) ?_ fun x hx => ?_
  ·refine eI (I:=fun (s:Int)=>s=0∨(s=1∧a=0)∨(s=2∧a=0∧b=0)) (m:=fun s=>(2-s).toNat) ?_ _ (.inl rfl) (by decide)
   rintro s (rfl | ⟨rfl,rfl⟩ | ⟨rfl,rfl,rfl⟩)
   ·show Ok (if a≠0 then some (Sum.inr (Sum.inr a)) else some (Sum.inl (w64 (0+1)))) _
    refine eH (fun h=>aP (.inr ⟨_,rfl,by rw [if_pos h]⟩)) fun h=>aP (.inl ⟨_,rfl, .inr (.inl ⟨rfl,by omega⟩),by decide⟩)
   ·show Ok (if b≠0 then some (Sum.inr (Sum.inr b)) else some (Sum.inl (w64 (1+1)))) _
    refine eH (fun h=>aP (.inr ⟨_,rfl,by rw [if_neg (by decide),if_pos h]⟩)) fun h=>aP (.inl ⟨_,rfl, .inr (.inr ⟨rfl,rfl,by omega⟩),by decide⟩)
   ·exact aP (.inr ⟨_,rfl,rfl⟩)
  ·subst hx
   by_cases ha:a≠0
   ·rw [if_pos ha,if_pos ha];exact aP rfl
   ·rw [if_neg ha,if_neg ha]
    by_cases hb:b≠0
    ·rw [if_pos hb];exact aP rfl
    ·rw [if_neg hb];exact aP (by show (0:Int)=b;omega)
 obtain ⟨r,h,rfl⟩:=key
 exact h
theorem aN6 (p q:bQ):eX p q=some (if aDw p.Driver q.Driver≠0 then aDw p.Driver q.Driver else aDw p.Driven q.Driven):=by
 unfold eX
 rw [aJc,Option.bind_some,aJc,Option.bind_some,aYn,Option.bind_some]
theorem aK8 (x y:bQ) (hx:0≤x.Driver∧x.Driver≤240∧0≤x.Driven∧x.Driven≤240) (hy:0≤y.Driver∧y.Driver≤240∧0≤y.Driven∧y.Driven≤240):mY [x,y]=some (x.Driver+x.Driven+(y.Driver+y.Driven)):=by
 have key:Ok (mY [x,y]) (fun t=>t=x.Driver+x.Driven+(y.Driver+y.Driven)):=by
  unfold mY
  refine bZ (P:=fun t=>t=x.Driver+x.Driven+(y.Driver+y.Driven)) ?_ fun t h=>aP h
  refine eI (I:=fun (s:Int × Int)=>(s.2=0∧s.1=0)∨(s.2=1∧s.1=x.Driver+x.Driven)∨(s.2=2∧s.1=x.Driver+x.Driven+(y.Driver+y.Driven))) (m:=fun s=>(2-s.2).toNat) ?_ _ (.inl ⟨rfl,rfl⟩) (by decide)
  rintro ⟨k,i⟩ h
  dsimp only at h ⊢
  rcases h with ⟨rfl,rfl⟩ | ⟨rfl,rfl⟩ | ⟨rfl,rfl⟩
  ·show Ok (some (Sum.inl (w64 (0+w64 (x.Driver+x.Driven)),w64 (0+1)))) _
   rw [bD (x:=x.Driver+x.Driven) (by omega) (by omega),bD (x:=0+_) (by omega) (by omega)]
   exact aP (.inl ⟨_,rfl, .inr (.inl ⟨rfl,by dsimp only;omega⟩),by show (2-w64 (0+1)).toNat<(2-0:Int).toNat;decide⟩)
  ·show Ok (some (Sum.inl (w64 (x.Driver+x.Driven+w64 (y.Driver+y.Driven)),w64 (1+1)))) _
   rw [bD (x:=y.Driver+y.Driven) (by omega) (by omega),bD (x:=_+(_+_)) (by omega) (by omega)]
   exact aP (.inl ⟨_,rfl, .inr (.inr ⟨rfl,rfl⟩),by show (2-w64 (1+1)).toNat<(2-1:Int).toNat;decide⟩)
  ·exact aP (.inr ⟨_,rfl,rfl⟩)
 obtain ⟨t,ht,rfl⟩:=key
 exact ht
theorem aWf (x y z w:bQ):bL [x,y] [z,w]=some (aFf [(x.Driver,z.Driver),(x.Driven,z.Driven),(y.Driver,w.Driver),(y.Driven,w.Driven)]):=by
 have key:Ok (bL [x,y] [z,w]) (fun r=>r=aFf [(x.Driver,z.Driver),(x.Driven,z.Driven),(y.Driver,w.Driver),(y.Driven,w.Driven)]):=by
  have one : ∀ (p q:bQ) (r:List (Int × Int)),(if aDw p.Driver q.Driver≠0 then aDw p.Driver q.Driver else aDw p.Driven q.Driven)≠0→aFf ((p.Driver,q.Driver) :: (p.Driven,q.Driven) :: r)=if aDw p.Driver q.Driver≠0 then aDw p.Driver q.Driver else aDw p.Driven q.Driven:=fun p q r h=>by
   unfold aDw at h ⊢
   simp only [aFf]
   repeat' split
   all_goals first | rfl | omega | (exfalso;revert h;repeat' split;all_goals omega)
  have two : ∀ (p q:bQ) (r:List (Int × Int)), ¬ (if aDw p.Driver q.Driver≠0 then aDw p.Driver q.Driver else aDw p.Driven q.Driven)≠0→aFf ((p.Driver,q.Driver) :: (p.Driven,q.Driven) :: r)=aFf r:=fun p q r h=>by
   have h1:p.Driver=q.Driver∧p.Driven=q.Driven:=by
    by_cases g:aDw p.Driver q.Driver≠0
    ·rw [if_pos g] at h;exact absurd g h
    ·rw [if_neg g] at h
     exact ⟨aG5.1 (by omega),aG5.1 (by omega)⟩
   simp only [aFf,h1.1,h1.2,Int.lt_irrefl,if_false]
  unfold bL
  refine bZ (P:=fun (v:Unit ⊕ Int)=>(∃ r,v = .inr r∧r=aFf [(x.Driver,z.Driver),(x.Driven,z.Driven),(y.Driver,w.Driver),(y.Driven,w.Driven)])∨(v = .inl ()∧0=aFf [(x.Driver,z.Driver),(x.Driven,z.Driven),(y.Driver,w.Driver),(y.Driven,w.Driven)])) ?_ fun v hv => ?_
  ·refine eI (I:=fun (s:Int)=>s=0∨(s=1∧aFf [(x.Driver,z.Driver),(x.Driven,z.Driven),(y.Driver,w.Driver),(y.Driven,w.Driven)]=aFf [(y.Driver,w.Driver),(y.Driven,w.Driven)])∨(s=2∧aFf [(x.Driver,z.Driver),(x.Driven,z.Driven),(y.Driver,w.Driver),(y.Driven,w.Driven)]=0)) (m:=fun s=>(2-s).toNat) ?_ _ (.inl rfl) (by decide)
   rintro s (rfl | ⟨rfl,h⟩ | ⟨rfl,h⟩)
   ·show Ok ((eX x z).bind fun v8=>if v8≠0 then some (Sum.inr (Sum.inr v8)) else some (Sum.inl (w64 (0+1)))) _
    rw [aN6,Option.bind_some]
    refine eH (fun h=>aP (.inr ⟨_,rfl, .inl ⟨_,rfl,(one _ _ _ h).symm⟩⟩)) fun h=>aP (.inl ⟨_,rfl, .inr (.inl ⟨rfl,two _ _ _ h⟩),by decide⟩)
   ·show Ok ((eX y w).bind fun v8=>if v8≠0 then some (Sum.inr (Sum.inr v8)) else some (Sum.inl (w64 (1+1)))) _
    rw [aN6,Option.bind_some]
    refine eH (fun g=>aP (.inr ⟨_,rfl, .inl ⟨_,rfl,?_⟩⟩)) fun g=>aP (.inl ⟨_,rfl, .inr (.inr ⟨rfl,?_⟩),by decide⟩)
    ·rw [h];exact (one _ _ _ g).symm
    ·rw [h];exact two _ _ _ g
   ·exact aP (.inr ⟨_,rfl, .inr ⟨rfl,h.symm⟩⟩)
  ·rcases hv with ⟨r,rfl,rfl⟩ | ⟨rfl,h⟩
   ·exact aP rfl
   ·exact aP h
 obtain ⟨r,h,rfl⟩:=key
 exact h
theorem aJr {t u:List bQ} (ht:gL t) (hu:gL u):Ok (jE t u) (fun r=>r<0 ↔ ltT t u):=by
 rw [show (fun r:Int=>(r<0 ↔ ltT t u))=fun r=>(r<0 ↔ aFf (aXm t u)<0) from funext fun r=>by rw [aQi ht hu]]
 obtain ⟨a,b,c,d,rfl,⟨a1,a2,a3⟩,a4,a5,a6⟩:=ht
 obtain ⟨e,f,g,h,rfl,⟨b1,b2,b3⟩,b4,b5,b6⟩:=hu
 unfold jE
 rw [aK8 _ _ (by dsimp only;omega) (by dsimp only;omega),Option.bind_some,aK8 _ _ (by dsimp only;omega) (by dsimp only;omega),Option.bind_some,aJc,Option.bind_some,aWf,Option.bind_some]
 have e1:aFf (aXm [⟨b,c⟩,⟨a,d⟩] [⟨f,g⟩,⟨e,h⟩])=if b+c+(a+d)<f+g+(e+h) then -1 else if f+g+(e+h)<b+c+(a+d) then 1 else aFf [(b,f),(c,g),(a,e),(d,h)]:=rfl
 rw [e1]
 dsimp only
 unfold aDw
 repeat' split
 all_goals first | exact aP Iff.rfl | (exfalso;omega)
theorem aFk (x y c d:Int):jS [x,y] [c,d]=some (nF [x,y] [c,d]):=by
 have key:Ok (jS [x,y] [c,d]) (fun t=>t=nF [x,y] [c,d]):=by
  unfold jS
  rw [aHn (by simp),Option.bind_some]
  refine bZ (P:=fun v=>v=[y,x]) ?_ fun v hv => ?_
  ·unfold eK
   refine eI (I:=fun (s:Int × Int × List Int)=>(s.1=0∧s.2.1=1∧s.2.2=[x,y])∨(s.1=1∧s.2.1=0∧s.2.2=[y,x])) (m:=fun s=>(1-s.1).toNat) ?_ _ (.inl ⟨rfl,rfl,rfl⟩) (by show (1-0:Int).toNat<1180591620717411303424;decide)
   rintro ⟨i,j,v⟩ h
   dsimp only at h
   rcases h with ⟨rfl,rfl,rfl⟩ | ⟨rfl,rfl,rfl⟩
   ·exact aP (.inl ⟨_,rfl, .inr ⟨rfl,rfl,rfl⟩,by show (1-w64 (0+1)).toNat<(1-0:Int).toNat;decide⟩)
   ·exact aP (.inr ⟨_,rfl,rfl⟩)
  ·subst hv
   refine kK rfl (bZ (P:=fun t=>t=nF [x,y] [c,d]) ?_ fun t h=>aP h)
   unfold xW
   refine bZ (P:=fun t=>t=nF [x,y] [c,d]) ?_ fun t h=>aP h
   refine eI (I:=fun (s:Int × List bQ)=>(s.1=0∧s.2=[])∨(s.1=1∧s.2=[⟨y,c⟩])∨(s.1=2∧s.2=[⟨y,c⟩,⟨x,d⟩])) (m:=fun s=>(2-s.1).toNat) ?_ _ (.inl ⟨rfl,rfl⟩) (by show (2-0:Int).toNat<1180591620717411303424;decide)
   rintro ⟨i,v⟩ h
   dsimp only at h
   rcases h with ⟨rfl,rfl⟩ | ⟨rfl,rfl⟩ | ⟨rfl,rfl⟩
   ·exact aP (.inl ⟨_,rfl, .inr (.inl ⟨rfl,rfl⟩),by show (2-w64 (0+1)).toNat<(2-0:Int).toNat;decide⟩)
   ·exact aP (.inl ⟨_,rfl, .inr (.inr ⟨rfl,rfl⟩),by show (2-w64 (1+1)).toNat<(2-1:Int).toNat;decide⟩)
   ·exact aP (.inr ⟨_,rfl,rfl⟩)
 obtain ⟨t,h,rfl⟩:=key
 exact h
theorem aR8 {ls:List (List Int)} : ∀ {acc:List Int} {p:Int},p ∈ ls.foldl (fun acc l=>if dF l ∈ acc then acc else acc++[dF l]) acc ↔ p ∈ acc ∨ ∃ l ∈ ls,dF l=p:=by
 induction ls with
 | nil=>intro acc p;simp
 | cons l ls ih =>
  intro acc p
  rw [List.foldl_cons,ih]
  by_cases h:dF l ∈ acc
  ·rw [if_pos h]
   constructor
   ·rintro (q | ⟨m,hm,e⟩)
    ·exact .inl q
    ·exact .inr ⟨m,List.mem_cons_of_mem _ hm,e⟩
   ·rintro (q | ⟨m,hm,e⟩)
    ·exact .inl q
    ·rcases List.mem_cons.1 hm with rfl | hm
     ·exact .inl (e ▸ h)
     ·exact .inr ⟨m,hm,e⟩
  ·rw [if_neg h]
   constructor
   ·rintro (q | ⟨m,hm,e⟩)
    ·rcases List.mem_append.1 q with q | q
     ·exact .inl q
     ·exact .inr ⟨l,List.mem_cons_self ..,(List.mem_singleton.1 q).symm⟩
    ·exact .inr ⟨m,List.mem_cons_of_mem _ hm,e⟩
   ·rintro (q | ⟨m,hm,e⟩)
    ·exact .inl (List.mem_append.2 (.inl q))
    ·rcases List.mem_cons.1 hm with rfl | hm
     ·exact .inl (List.mem_append.2 (.inr (by rw [e];exact List.mem_singleton.2 rfl)))
     ·exact .inr ⟨m,hm,e⟩
theorem aR7 {ls:List (List Int)} : ∀ {acc:List Int},(ls.foldl (fun acc l=>if dF l ∈ acc then acc else acc++[dF l]) acc).length≤acc.length+ls.length:=by
 induction ls with
 | nil=>intro acc;simp
 | cons l ls ih =>
  intro acc
  rw [List.foldl_cons]
  refine Nat.le_trans ih ?_
  split
  ·simp
  ·simp;omega
def aCv (ls:List (List Int)):List Int:=aCy (gZ ls)
theorem yE {ls:List (List Int)} {p:Int}:p ∈ aCv ls ↔ ∃ l ∈ ls,dF l=p:=by
 unfold aCv aCy gZ
 rw [List.mem_mergeSort,aR8]
 simp
theorem aN7 (ls:List (List Int)):(aCv ls).length≤ls.length:=by
 unfold aCv
 rw [aE3]
 have:=aR7 (ls:=ls) (acc:=[])
 unfold gZ
 simpa using this
theorem aMm (ls:List (List Int)):(aCv ls).Pairwise (· ≤ ·):=by
 unfold aCv aCy
 have:=List.pairwise_mergeSort (le:=fun (x y:Int)=>decide (x≤y)) (fun a b c h1 h2=>by simp at *;omega) (fun a b=>by simp;omega) (gZ ls)
 exact this.imp fun h=>by simpa using h
theorem aN9 {xs:List Int} (h:xs.Pairwise (· ≤ ·)) {i j:Nat} (hij:i≤j) (hj:j<xs.length):xs[i]'(by omega)≤xs[j]:=by
 rcases Nat.lt_or_ge i j with q | q
 ·exact List.pairwise_iff_getElem.1 h i j (by omega) hj q
 ·have:i=j:=by omega
  subst this;exact Int.le_refl _
theorem aW2 {r:aD} (hr:aS3 r) {xs:List Int} (hs:xs.Pairwise (· ≤ ·)) (hx : ∀ x ∈ xs,0<x∧x≤100) (hl:xs.length≤1000) {p:Int} (hp:0<p∧p≤7056):Ok (bP xs p r) (fun k=>(0≤k.1∧k.1≤xs.length)∧(∀ (i:Nat) (hi:i<xs.length),(i:Int)<k.1→xs[i]*r.Num≤p*r.Den) ∧ ∀ (i:Nat) (hi:i<xs.length),k.1≤(i:Int)→p*r.Den≤xs[i]*r.Num):=by
 obtain ⟨⟨n0,n1⟩,d0,d1⟩:=hr
 have one : ∀ x,x ∈ xs→jD x p r=some (aDw (x*r.Num) (p*r.Den)):=fun x h=>by
  obtain ⟨⟨f0,f1⟩,⟨f2,f3⟩,_⟩:=aJj (r:=r) (p:=p) (q:=x) (by omega) (by omega) hp (hx x h)
  unfold jD
  rw [bD (x:=x*r.Num) (by omega) (by omega),bD (x:=p*r.Den) (by omega) (by omega),aJc,Option.bind_some]
 have mono : ∀ {a b:Int},a≤b→a*r.Num≤b*r.Num:=fun h=>Int.mul_le_mul_of_nonneg_right h (by omega)
 unfold bP
 refine bZ (P:=fun (k:Int)=>(0≤k∧k≤xs.length)∧(∀ (i:Nat) (hi:i<xs.length),(i:Int)<k→xs[i]*r.Num≤p*r.Den) ∧ ∀ (i:Nat) (hi:i<xs.length),k≤(i:Int)→p*r.Den≤xs[i]*r.Num) ?_ fun k hk=>eH (fun h => ?_) fun h=>aP hk
 ·refine eI (I:=fun (s:Int × Int)=>(0≤s.1∧s.1≤s.2∧s.2≤xs.length)∧(∀ (i:Nat) (hi:i<xs.length),(i:Int)<s.1→xs[i]*r.Num≤p*r.Den) ∧ ∀ (i:Nat) (hi:i<xs.length),s.2≤(i:Int)→p*r.Den≤xs[i]*r.Num) (m:=fun s=>(s.2-s.1).toNat) ?_ _ ⟨⟨by dsimp only;omega,by dsimp only;omega,by dsimp only;omega⟩,fun i hi h=>by dsimp only at h;omega,fun i hi h=>by dsimp only at h;omega⟩ (by dsimp only;omega)
  rintro ⟨a,b⟩ ⟨⟨a0,ab,b1⟩,h1,h2⟩
  dsimp only at a0 ab b1 h1 h2 ⊢
  refine eH (fun h => ?_) fun h=>aP (.inr ⟨_,rfl,⟨a0,by omega⟩,h1,fun i hi hh=>h2 i hi (by omega)⟩)
  have e:w64 (aU3 .u64 (IntKind.u64.wrap (w64 (a+b))) 1)=(a+b) / 2:=by
   rw [bD (x:=a+b) (by omega) (by omega),aLa (by omega) (by omega)]
   have:aU3 .u64 (a+b) 1=(a+b) / 2:=by
    unfold aU3
    exact Int.fdiv_eq_ediv_of_nonneg _ (by decide)
   rw [this,bD (by omega) (by omega)]
  obtain ⟨m,hm⟩ : ∃ m:Nat,(a+b) / 2=m:=⟨((a+b) / 2).toNat,by omega⟩
  have hml:m<xs.length:=by omega
  rw [e,hm,dT hml,Option.bind_some,one _ (List.getElem_mem hml),Option.bind_some,bD (x:=(m:Int)+1) (by omega) (by omega)]
  refine eH (fun hv=>aP (.inl ⟨_,rfl,⟨⟨by dsimp only;omega,by dsimp only;omega,b1⟩,fun i hi hh => ?_,h2⟩,by dsimp only;omega⟩)) fun hv=>aP (.inl ⟨_,rfl,⟨⟨a0,by dsimp only;omega,by dsimp only;omega⟩,h1,fun i hi hh => ?_⟩,by dsimp only;omega⟩)
  ·dsimp only at hh
   have hv:=aG6.1 hv
   have:=mono (aN9 hs (i:=i) (j:=m) (by omega) (by omega))
   omega
  ·dsimp only at hh
   have hv : ¬ xs[m]*r.Num<p*r.Den:=fun q=>hv (aG6.2 q)
   have:=mono (aN9 hs (i:=m) (j:=i) (by omega) hi)
   omega
 ·obtain ⟨j,rfl⟩ : ∃ j:Nat,k=j:=⟨k.toNat,by omega⟩
  have hj:j<xs.length:=by omega
  rw [dT hj,Option.bind_some,one _ (List.getElem_mem hj),Option.bind_some]
  exact aP hk
end Go.Proofs.YtceknlcbfomdhaaGreatDoor
namespace Go.Proofs.YtceknlcbfomdhaaGreatDoor
set_option linter.unusedVariables false
set_option maxRecDepth 100000
def okM (r:aD) (P Q:List Int) (m:kZ):Prop:=m.p ∈ P∧m.q ∈ Q∧m.far=oX r m.p m.q
def zV (r:aD) (P Q:List Int) (U:Int→Int→Prop) (B:List kZ):Prop :=
 (∀ m ∈ B,okM r P Q m)∧(∀ m ∈ B, ∀ m' ∈ B,m.far*m'.q=m'.far*m.q) ∧ ∀ p q,U p q→B≠[]∧(⟨p,q,oX r p q⟩ ∈ B ∨ ∀ m ∈ B,m.far*q<oX r p q*m.q)
theorem aQa {r:aD} {P Q:List Int} {U:Int→Int→Prop} (h : ∀ p q, ¬ U p q):zV r P Q U []:=⟨fun m hm=>(by cases hm),fun m hm=>(by cases hm),fun p q hu=>absurd hu (h p q)⟩
theorem aBc {r:aD} {P Q:List Int} {U V:Int→Int→Prop} {B:List kZ} (h:zV r P Q U B) (k : ∀ p q,V p q→U p q):zV r P Q V B:=⟨h.1,h.2.1,fun p q hv=>h.2.2 p q (k p q hv)⟩
theorem aP9 {r:aD} {P Q:List Int} (hQ : ∀ q ∈ Q,0<q) {U V:Int→Int→Prop} {B:List kZ} (h:zV r P Q U B) (k : ∀ p q,V p q→U p q∨(0<q ∧ ∃ q',U p q'∧0<q'∧oX r p q'*q<oX r p q*q')):zV r P Q V B:=⟨h.1,h.2.1,fun p q hv=>by
 rcases k p q hv with q1 | ⟨q0,q',hu,h0,hl⟩
 ·exact h.2.2 p q q1
 ·obtain ⟨hne,hb⟩:=h.2.2 p q' hu
  refine ⟨hne, .inr fun m hm => ?_⟩
  have mq:=hQ _ (h.1 m hm).2.1
  rcases hb with hb | hb
  ·have e:=h.2.1 m hm _ hb
   dsimp only at e
   exact aHb mq h0 q0 (by omega) (by omega) (.inr hl)
  ·have e:=hb m hm
   exact aHb mq h0 q0 (by omega) (by omega) (.inr hl)⟩
def aUp (m:kZ):List kZ→List kZ
 | []=>[m]
 | b :: r=>if m.far*b.q<b.far*m.q then [m] else if m.far*b.q=b.far*m.q then (b :: r)++[m] else b :: r
theorem aVa {r:aD} {P Q:List Int} (hQ : ∀ q ∈ Q,0<q) {U:Int→Int→Prop} {B:List kZ} (h:zV r P Q U B) {p q:Int} (hp:p ∈ P) (hq:q ∈ Q) (hU : ∀ p q,U p q→0<q):zV r P Q (fun p' q'=>U p' q'∨(p'=p∧q'=q)) (aUp ⟨p,q,oX r p q⟩ B):=by
 have q0:=hQ q hq
 obtain ⟨h1,h2,h3⟩:=h
 have hm:okM r P Q ⟨p,q,oX r p q⟩:=⟨hp,hq,rfl⟩
 match B,h1,h2,h3 with
 | [],h1,h2,h3 =>
  refine ⟨fun m hm' => ?_,fun m hm' m' hm'' => ?_,fun p' q' hu => ?_⟩
  ·rw [List.mem_singleton.1 hm'];exact hm
  ·rw [List.mem_singleton.1 hm',List.mem_singleton.1 hm'']
  ·rcases hu with hu | ⟨rfl,rfl⟩
   ·exact absurd rfl (h3 p' q' hu).1
   ·exact ⟨by simp [aUp], .inl (by simp [aUp])⟩
 | b :: B,h1,h2,h3 =>
  have bq:=hQ _ (h1 b (List.mem_cons_self ..)).2.1
  unfold aUp
  dsimp only
  by_cases c1:oX r p q*b.q<b.far*q
  ·rw [if_pos c1]
   refine ⟨fun m hm' => ?_,fun m hm' m' hm'' => ?_,fun p' q' hu=>⟨by simp,?_⟩⟩
   ·rw [List.mem_singleton.1 hm'];exact hm
   ·rw [List.mem_singleton.1 hm',List.mem_singleton.1 hm'']
   ·rcases hu with hu | ⟨rfl,rfl⟩
    ·right
     intro m hm'
     rw [List.mem_singleton.1 hm']
     dsimp only
     have q'0:=hU p' q' hu
     rcases (h3 p' q' hu).2 with e | e
     ·have e:=h2 _ e b (List.mem_cons_self ..)
      dsimp only at e
      exact aHb q0 bq q'0 (by omega) (by omega) (.inl c1)
     ·have e:=e b (List.mem_cons_self ..)
      exact aHb q0 bq q'0 (by omega) (by omega) (.inl c1)
    ·exact .inl (List.mem_singleton.2 rfl)
  ·rw [if_neg c1]
   by_cases c2:oX r p q*b.q=b.far*q
   ·rw [if_pos c2]
    have eqb : ∀ m ∈ b :: B,oX r p q*m.q=m.far*q:=fun m hm'=>by
     have mq:=hQ _ (h1 m hm').2.1
     have e:=h2 m hm' b (List.mem_cons_self ..)
     have a1:=aTl q0 bq mq (a:=oX r p q) (b:=b.far) (c:=m.far) (by omega) (by omega)
     have a2:=aTl mq bq q0 (a:=m.far) (b:=b.far) (c:=oX r p q) (by omega) (by omega)
     omega
    refine ⟨fun m hm' => ?_,fun m hm' m' hm'' => ?_,fun p' q' hu=>⟨by simp,?_⟩⟩
    ·rcases List.mem_append.1 hm' with g | g
     ·exact h1 m g
     ·rw [List.mem_singleton.1 g];exact hm
    ·rcases List.mem_append.1 hm' with g | g
     ·rcases List.mem_append.1 hm'' with g2 | g2
      ·exact h2 m g m' g2
      ·rw [List.mem_singleton.1 g2];exact (eqb m g).symm
     ·rw [List.mem_singleton.1 g]
      rcases List.mem_append.1 hm'' with g2 | g2
      ·exact eqb m' g2
      ·rw [List.mem_singleton.1 g2]
    ·rcases hu with hu | ⟨rfl,rfl⟩
     ·rcases (h3 p' q' hu).2 with e | e
      ·exact .inl (List.mem_append.2 (.inl e))
      ·right
       intro m hm'
       rcases List.mem_append.1 hm' with g | g
       ·exact e m g
       ·rw [List.mem_singleton.1 g]
        have e:=e b (List.mem_cons_self ..)
        exact aHb (a:=oX r p q) (b:=b.far) (c:=oX r p' q') (p:=q) (q:=b.q) q0 bq (hU p' q' hu) (by omega) (by omega) (.inr e)
     ·exact .inl (List.mem_append.2 (.inr (List.mem_singleton.2 rfl)))
   ·rw [if_neg c2]
    refine ⟨h1,h2,fun p' q' hu=>⟨by simp,?_⟩⟩
    rcases hu with hu | ⟨rfl,rfl⟩
    ·exact (h3 p' q' hu).2
    ·right
     intro m hm'
     have mq:=hQ _ (h1 m hm').2.1
     have e:=h2 m hm' b (List.mem_cons_self ..)
     exact aHb (a:=m.far) (b:=b.far) (p:=m.q) (q:=b.q) mq bq q0 (by omega) (by omega) (.inr (by omega))
theorem aS0 (m:kZ) (B:List kZ):(aUp m B).length≤B.length+1:=by
 unfold aUp
 split
 ·simp
 ·split
  ·simp
  ·split <;> simp
def aAl (W:List bQ→Prop) (t:List bQ):Prop:=(t=[] ∧ ∀ u, ¬ W u)∨(gL t∧W t ∧ ∀ u,W u → ¬ ltT u t)
theorem uN {W V:List bQ→Prop} {t:List bQ} (h:aAl W t) (k : ∀ u,W u ↔ V u):aAl V t:=by
 rcases h with ⟨h1,h2⟩ | ⟨h1,h2,h3⟩
 ·exact .inl ⟨h1,fun u hu=>h2 u ((k u).2 hu)⟩
 ·exact .inr ⟨h1,(k t).1 h2,fun u hu=>h3 u ((k u).2 hu)⟩
theorem aMi {α σ:Type} {xs:List α} {step:σ × Int→Option ((σ × Int) ⊕ σ)} (I:Nat→σ→Prop) (hl:xs.length≤1000000) (hS : ∀ (n:Nat) (hn:n<xs.length) s,I n s→Ok (step (s,(n:Int))) (fun y => ∃ s',y = .inl (s',w64 ((n:Int)+1))∧I (n+1) s')) (hE : ∀ s,step (s,(xs.length:Int))=some (.inr s)) {s0:σ} (h0:I 0 s0):Ok (cD step (s0,0)) (I xs.length):=by
 refine eI (I:=fun (s:σ × Int)=>(0≤s.2∧s.2≤xs.length)∧I s.2.toNat s.1) (m:=fun s=>(xs.length-s.2).toNat) ?_ _ ⟨⟨by dsimp only;omega,by dsimp only;omega⟩,h0⟩ (by dsimp only;omega)
 rintro ⟨s,i⟩ ⟨⟨i0,i1⟩,hs⟩
 dsimp only at i0 i1 hs ⊢
 obtain ⟨n,rfl⟩ : ∃ n:Nat,i=n:=⟨i.toNat,by omega⟩
 rw [Int.toNat_natCast] at hs
 rcases Nat.lt_or_ge n xs.length with hn | hn
 ·refine aH7 (hS n hn s hs) fun y hy => ?_
  obtain ⟨s',rfl,h⟩:=hy
  rw [bD (x:=(n:Int)+1) (by omega) (by omega)]
  exact .inl ⟨_,rfl,⟨⟨by dsimp only;omega,by dsimp only;omega⟩,by rw [show ((n:Int)+1).toNat=n+1 by omega];exact h⟩,by dsimp only;omega⟩
 ·have:n=xs.length:=by omega
  subst this
  rw [hE]
  exact aP (.inr ⟨_,rfl,hs⟩)
theorem qB {α:Type} {xs:List α} {n:Nat} (hn:n<xs.length) {x:α}:x ∈ xs.take (n+1) ↔ x ∈ xs.take n∨x=xs[n]:=by
 rw [uZ hn,List.mem_append,List.mem_singleton]
theorem aI9 {r:aD} (hr:aS3 r):Ok (lR r ⟨60,84,7,10,2⟩) (fun t=>gL t ∧ ∀ u,gL u → ¬ sI r u t):=by
  have hr':=hr
  obtain ⟨⟨n0,n1⟩,d0,d1⟩:=hr'
  obtain ⟨A,hA⟩ : ∃ A,A=cH 60 84 2:=⟨_,rfl⟩
  obtain ⟨C,hC⟩ : ∃ C,C=cH 7 10 2:=⟨_,rfl⟩
  have lA:A.length=325:=by rw [hA];decide
  have lC:C.length=10:=by rw [hC];decide
  have e1:pF 60 84 2=some ⟨aCv A,fH A⟩:=by rw [hA];unfold pF;exact fY (by decide)
  have e2:pF 7 10 2=some ⟨aCv C,fH C⟩:=by rw [hC];unfold pF;exact fY (by decide)
  have mA : ∀ l ∈ A, ∃ x y:Int,l=[x,y]∧60≤x∧x≤y∧y≤84:=fun l h=>aGj.1 (hA ▸ h)
  have mC : ∀ l ∈ C, ∃ x y:Int,l=[x,y]∧7≤x∧x≤y∧y≤10:=fun l h=>aGj.1 (hC ▸ h)
  have iA : ∀ x y:Int,60≤x→x≤y→y≤84→[x,y] ∈ A:=fun x y a b c=>by rw [hA];exact aGj.2 ⟨x,y,rfl,a,b,c⟩
  have iC : ∀ x y:Int,7≤x→x≤y→y≤10→[x,y] ∈ C:=fun x y a b c=>by rw [hC];exact aGj.2 ⟨x,y,rfl,a,b,c⟩
  clear hA hC
  have can : ∀ a ∈ A, ∀ b ∈ C,gL (nF a b)∧pT (nF a b)=dF a∧qT (nF a b)=dF b∧jS a b=some (nF a b):=fun a ha b hb=>by
    obtain ⟨x,y,rfl,h1,h2,h3⟩:=mA a ha
    obtain ⟨c,d,rfl,h4,h5,h6⟩:=mC b hb
    exact ⟨⟨x,y,c,d,rfl,⟨h1,h2,h3⟩,h4,h5,h6⟩,by simp [nF,pT,dF],by simp [nF,qT,dF],aFk x y c d⟩
  have pP : ∀ p ∈ aCv A,0<p∧p≤7056:=fun p hp=>by
    obtain ⟨l,hl,rfl⟩:=yE.1 hp
    obtain ⟨x,y,rfl,h1,h2,h3⟩:=mA l hl
    have:=yW (a:=x) (b:=y) (A:=84) (B:=84) (by omega) (by omega) (by omega) (by omega)
    simpa [dF] using this
  have pQ : ∀ q ∈ aCv C,0<q∧q≤100:=fun p hp=>by
    obtain ⟨l,hl,rfl⟩:=yE.1 hp
    obtain ⟨x,y,rfl,h1,h2,h3⟩:=mC l hl
    have:=yW (a:=x) (b:=y) (A:=10) (B:=10) (by omega) (by omega) (by omega) (by omega)
    simpa [dF] using this
  have lP:=aN7 A
  have lQ:=aN7 C
  have sQ:=aMm C
  obtain ⟨P,hP⟩ : ∃ P,P=aCv A:=⟨_,rfl⟩
  obtain ⟨Q,hQ⟩ : ∃ Q,Q=aCv C:=⟨_,rfl⟩
  have fP : ∀ l ∈ A,dF l ∈ P:=fun l h=>by rw [hP];exact yE.2 ⟨l,h,rfl⟩
  have fQ : ∀ l ∈ C,dF l ∈ Q:=fun l h=>by rw [hQ];exact yE.2 ⟨l,h,rfl⟩
  have gP : ∀ p ∈ P, ∃ l ∈ A,dF l=p:=fun p h=>yE.1 (hP ▸ h)
  have gQ : ∀ p ∈ Q, ∃ l ∈ C,dF l=p:=fun p h=>yE.1 (hQ ▸ h)
  unfold lR
  dsimp only
  rw [e1,Option.bind_some,e2,Option.bind_some]
  dsimp only
  rw [← hP] at pP lP ⊢
  rw [← hQ] at pQ lQ sQ ⊢
  clear hP hQ e1 e2
  have qpos : ∀ q ∈ Q,0<q:=fun q h=>(pQ q h).1
  -- the least misses
  refine bZ (P:=fun (B:List kZ)=>B.length≤1000000∧zV r P Q (fun p q=>p ∈ P∧q ∈ Q) B) ?_ fun B hB => ?_
  · refine eI (I:=fun (s:Int × List kZ)=>(0≤s.1∧s.1≤P.length)∧(s.2.length:Int)≤20*s.1∧zV r P Q (fun p q=>p ∈ P.take s.1.toNat∧q ∈ Q) s.2) (m:=fun s=>(P.length-s.1).toNat) ?_ _ ⟨⟨by dsimp only;omega,by dsimp only;omega⟩,by simp,aQa fun p q h=>by simp at h⟩ (by dsimp only;omega)
    rintro ⟨i,B⟩ ⟨⟨i0,i1⟩,bl,hB⟩
    dsimp only at i0 i1 bl hB ⊢
    refine eH (fun hi => ?_) fun hi=>aP (.inr ⟨_,rfl,by omega,?_⟩)
    · obtain ⟨n,rfl⟩ : ∃ n:Nat,i=n:=⟨i.toNat,by omega⟩
      have hn:n<P.length:=by omega
      rw [Int.toNat_natCast] at hB
      rw [dT hn,Option.bind_some]
      have hpn:=List.getElem_mem hn
      have bp:=pP _ hpn
      obtain ⟨p,hp⟩ : ∃ p,p=P[n]:=⟨_,rfl⟩
      rw [← hp] at hpn bp ⊢
      have pd:0<p*r.Den:=Int.mul_pos bp.1 (by omega)
      refine bZ (P:=fun (B:List kZ)=>(B.length:Int)≤20*(n+1)∧zV r P Q (fun p' q=>p' ∈ P.take (n+1)∧q ∈ Q) B) ?_ fun B' hB'=>aP (.inl ⟨_,rfl,?_⟩)
      · refine bZ (aW2 hr sQ pQ (by omega) bp) fun k hk => ?_
        obtain ⟨⟨k0,k1⟩,kl,kh⟩:=hk
        obtain ⟨k,kb⟩:=k
        dsimp only at k0 k1 kl kh ⊢
        obtain ⟨k,rfl⟩ : ∃ j:Nat,k=j:=⟨k.toNat,by omega⟩
        obtain ⟨j0,hj0⟩ : ∃ j0:Nat,max (w64 ((k:Int)-1)) 0=j0∧j0≤k∧(k≤j0+1)∧(0<k→j0+1=k):=by
          rw [bD (x:=(k:Int)-1) (by omega) (by omega)]
          exact ⟨k-1,by omega,by omega,by omega,by omega⟩
        obtain ⟨hj,jk,kj,kj2⟩:=hj0
        rw [hj]
        -- what is not tried is worse
        have fin : ∀ (j:Nat),(k<j∨Q.length≤j) → ∀ B',zV r P Q (fun p' q=>(p' ∈ P.take n∧q ∈ Q)∨(p'=p ∧ ∃ (m:Nat) (hm:m<Q.length),j0≤m∧m<j∧q=Q[m])) B'→zV r P Q (fun p' q=>p' ∈ P.take (n+1)∧q ∈ Q) B':=fun j hjk B' h=>by
          refine aP9 qpos h fun p' q hv => ?_
          obtain ⟨hv,hq⟩:=hv
          rcases (qB hn).1 hv with hv | hv
          · exact .inl (.inl ⟨hv,hq⟩)
          · rw [← hp] at hv
            subst hv
            obtain ⟨m,hm,rfl⟩:=List.getElem_of_mem hq
            have qm:=pQ _ hq
            have dec : ∀ (m':Nat) (hm':m'<Q.length),j0≤m'→m'<j→Q[m']≠Q[m]→((m'<k∧Q[m]<Q[m'])∨(k≤m'∧Q[m']<Q[m]))→(0<Q[m] ∧ ∃ q',((p' ∈ P.take n∧q' ∈ Q)∨(p'=p' ∧ ∃ (m:Nat) (hm:m<Q.length),j0≤m∧m<j∧q'=Q[m]))∧0<q'∧oX r p' q'*Q[m]<oX r p' Q[m]*q'):=fun m' hm' a1 a2 a3 a4=>by
              refine ⟨qm.1,Q[m'], .inr ⟨rfl,m',hm',a1,a2,rfl⟩,(pQ _ (List.getElem_mem hm')).1,?_⟩
              rcases a4 with ⟨b1,b2⟩ | ⟨b1,b2⟩
              · exact aN2 pd (by omega) b2 (kl m' hm' (by omega))
              · exact aJ6 pd (by omega) b2 (kh m' hm' (by omega))
            by_cases t1:j0≤m∧m<j
            · exact .inl (.inr ⟨rfl,m,hm,t1.1,t1.2,rfl⟩)
            · by_cases t2:m<j0
              · -- below: the one before k is nearer,or it is the same
                have hj0:j0<Q.length:=by omega
                have le:=aN9 sQ (i:=m) (j:=j0) (by omega) hj0
                by_cases e:Q[j0]=Q[m]
                · exact .inl (.inr ⟨rfl,j0,hj0,Nat.le_refl _,by omega,e.symm⟩)
                · exact .inr (dec j0 hj0 (Nat.le_refl _) (by omega) e (.inl ⟨by omega,by omega⟩))
              · have hkm:k<m:=by omega
                have hk:k<Q.length:=by omega
                have le:=aN9 sQ (i:=k) (j:=m) (by omega) hm
                by_cases e:Q[k]=Q[m]
                · exact .inl (.inr ⟨rfl,k,hk,by omega,by omega,e.symm⟩)
                · exact .inr (dec k hk (by omega) (by omega) e (.inr ⟨by omega,by omega⟩))
        refine eI (I:=fun (s:Int × List kZ)=>(j0≤s.1∧s.1≤Q.length+1∧s.1≤k+1)∧(s.2.length:Int)≤20*n+(s.1-j0)∧zV r P Q (fun p' q=>(p' ∈ P.take n∧q ∈ Q)∨(p'=p ∧ ∃ (m:Nat) (hm:m<Q.length),j0≤m∧(m:Int)<s.1∧q=Q[m])) s.2) (m:=fun s=>(Q.length+1-s.1).toNat) ?_ _ ⟨⟨by dsimp only;omega,by dsimp only;omega,by dsimp only;omega⟩,by dsimp only;omega,aBc hB fun p' q hv => ?_⟩ (by dsimp only;omega)
        · rintro ⟨j,B⟩ ⟨⟨a0,a1,a2⟩,bl,hB⟩
          dsimp only at a0 a1 a2 bl hB ⊢
          obtain ⟨j,rfl⟩ : ∃ m:Nat,j=m:=⟨j.toNat,by omega⟩
          by_cases hjj:j≤k∧j<Q.length
          · rw [if_pos (show (j:Int)≤k by omega),Option.bind_some,if_pos (decide_eq_true (show (j:Int)<Q.length by omega)),dT hjj.2,Option.bind_some]
            have hq:=List.getElem_mem hjj.2
            have bq:=pQ _ hq
            obtain ⟨⟨f0,f1⟩,⟨f2,f3⟩,f4,f5⟩:=aJj (r:=r) (p:=p) (q:=Q[j]) (by omega) (by omega) bp bq
            unfold xV
            rw [bD (x:=p*r.Den) (by omega) (by omega),bD (x:=Q[j]*r.Num) (by omega) (by omega),bD (x:=_-_) (by omega) (by omega),aDb (by omega) (by omega),Option.bind_some,Option.bind_some]
            have e0:fI (p*r.Den-Q[j]*r.Num)=oX r p Q[j]:=rfl
            rw [e0]
            have hx:=aVa qpos hB (p:=p) (q:=Q[j]) hpn hq (fun p' q' hv=>by
              rcases hv with ⟨_,hv⟩ | ⟨_,m,hm,_,_,rfl⟩
              · exact qpos _ hv
              · exact qpos _ (List.getElem_mem hm))
            have hln:=aS0 ⟨p,Q[j],oX r p Q[j]⟩ B
            have key:Ok ((((if 0<(B.length:Int) then
  ((atI B 0).bind fun v51 =>
  ((gG ⟨p,Q[j],oX r p Q[j]⟩ v51).bind fun v52 =>
  some (decide (v52<0))))
  else
  some false):Option Bool).bind fun v53 =>
  (if v53=true then
  some ([]:List kZ)
  else
  some B)).bind fun v54 =>
  (((if (v54.length:Int)=0 then
  some true
  else
  ((atI v54 0).bind fun v55 =>
  ((gG ⟨p,Q[j],oX r p Q[j]⟩ v55).bind fun v56 =>
  some (decide (v56=0))))):Option Bool).bind fun v57 =>
  (if v57=true then
  (chk ((v54.length+[(⟨p,Q[j],oX r p Q[j]⟩:kZ)].length)*3*64≤140737488355328) (
  some (v54++[(⟨p,Q[j],oX r p Q[j]⟩:kZ)])))
  else
  some v54))) (fun B'=>B'=aUp ⟨p,Q[j],oX r p Q[j]⟩ B):=by
              have cmpM : ∀ b ∈ B,gG ⟨p,Q[j],oX r p Q[j]⟩ b=some (aDw (oX r p Q[j]*b.q) (b.far*Q[j])):=fun b hb=>by
                obtain ⟨o1,o2,o3⟩:=hB.1 b hb
                have b1:=pP _ o1
                have b2:=pQ _ o2
                have F:=(aJj (r:=r) (p:=b.p) (q:=b.q) (by omega) (by omega) b1 b2).2.2
                have m1:oX r p Q[j]*b.q≤8000000000*100:=Int.mul_le_mul f5 b2.2 (by omega) (by omega)
                have m2:0≤oX r p Q[j]*b.q:=Int.mul_nonneg f4 (by omega)
                have m3:b.far*Q[j]≤8000000000*100:=Int.mul_le_mul (by omega) bq.2 (by omega) (by omega)
                have m4:0≤b.far*Q[j]:=Int.mul_nonneg (by omega) (by omega)
                unfold gG
                dsimp only
                rw [bD (x:=oX r p Q[j]*b.q) (by omega) (by omega),bD (x:=b.far*Q[j]) (by omega) (by omega),aJc,Option.bind_some]
              match B,cmpM,bl with
              | [],_,_=>exact aP rfl
              | b :: B,cmpM,bl =>
                have e3:atI (b :: B) 0=some b:=rfl
                have e4 : ¬ (((b :: B).length:Int)=0):=by simp;omega
                rw [if_pos (by simp),e3,Option.bind_some,cmpM b (List.mem_cons_self ..),Option.bind_some,Option.bind_some]
                unfold aUp
                dsimp only
                by_cases c1:oX r p Q[j]*b.q<b.far*Q[j]
                · rw [if_pos (decide_eq_true (aG6.2 c1)),if_pos c1]
                  exact aP rfl
                · rw [if_neg (fun q=>c1 (aG6.1 (of_decide_eq_true q))),if_neg c1,Option.bind_some,if_neg e4,e3,Option.bind_some,cmpM b (List.mem_cons_self ..),Option.bind_some,Option.bind_some]
                  by_cases c2:oX r p Q[j]*b.q=b.far*Q[j]
                  · rw [if_pos (decide_eq_true (aG5.2 c2)),if_pos c2]
                    refine kK ?_ (aP rfl)
                    simp only [List.length_cons,List.length_nil] at bl ⊢
                    omega
                  · rw [if_neg (fun q=>c2 (aG5.1 (of_decide_eq_true q))),if_neg c2]
                    exact aP rfl
            refine bZ key fun B' hB'=>aP (.inl ⟨_,rfl,?_⟩)
            subst hB'
            dsimp only
            rw [bD (x:=(j:Int)+1) (by omega) (by omega)]
            refine ⟨⟨⟨by omega,by omega,by omega⟩,by omega,aBc hx fun p' q hv => ?_⟩,by omega⟩
            rcases hv with hv | ⟨rfl,m,hm,g1,g2,rfl⟩
            · exact .inl (.inl hv)
            · rcases Nat.lt_or_ge m j with g | g
              · exact .inl (.inr ⟨rfl,m,hm,g1,by omega,rfl⟩)
              · have:m=j:=by omega
                subst this
                exact .inr ⟨rfl,rfl⟩
          · have stop:zV r P Q (fun p' q=>p' ∈ P.take (n+1)∧q ∈ Q) B:=fin j (by omega) B (aBc hB fun p' q hv=>by
              rcases hv with hv | ⟨rfl,m,hm,g1,g2,rfl⟩
              · exact .inl hv
              · exact .inr ⟨rfl,m,hm,g1,by omega,rfl⟩)
            by_cases h1:j≤k
            · rw [if_pos (show (j:Int)≤k by omega),Option.bind_some,if_neg (fun q=>by have:=of_decide_eq_true q;omega)]
              exact aP (.inr ⟨_,rfl,by omega,stop⟩)
            · rw [if_neg (show ¬ (j:Int)≤k by omega),Option.bind_some,if_neg (by decide)]
              exact aP (.inr ⟨_,rfl,by omega,stop⟩)
        · rcases hv with hv | ⟨_,m,hm,g1,g2,_⟩
          · exact hv
          · dsimp only at g2;omega
      · dsimp only
        rw [bD (x:=(n:Int)+1) (by omega) (by omega)]
        exact ⟨⟨⟨by omega,by omega⟩,hB'.1,by rw [show ((n:Int)+1).toNat=n+1 by omega];exact hB'.2⟩,by omega⟩
    · rw [List.take_of_length_le (by omega)] at hB
      exact hB
  · -- the least of their trains
    obtain ⟨bl,o1,o2,o3⟩:=hB
    have lw : ∀ (L:List (List Int)) (p:Int),(fH L p).length≤L.length:=fun L p=>List.length_filter_le ..
    have mw : ∀ {L:List (List Int)} {p:Int} {l:List Int},l ∈ fH L p ↔ l ∈ L∧dF l=p:=fun {L p l}=>by unfold fH;rw [List.mem_filter,decide_eq_true_eq]
    refine bZ (P:=aAl fun u => ∃ m ∈ B, ∃ a ∈ fH A m.p, ∃ b ∈ fH C m.q,u=nF a b) ?_ fun t ht=>aP ?_
    · refine aH7 (aMi (xs:=B) (I:=fun i t=>aAl (fun u => ∃ m ∈ B.take i, ∃ a ∈ fH A m.p, ∃ b ∈ fH C m.q,u=nF a b) t) bl (fun n hn s hs => ?_) (fun s=>by simp) (.inl ⟨rfl,fun u hu=>by simp at hu⟩)) fun t ht=>by rw [List.take_length] at ht;exact ht
      dsimp only
      rw [if_pos (by omega),dT hn,Option.bind_some]
      have hm:=o1 _ (List.getElem_mem hn)
      obtain ⟨m,em⟩ : ∃ m,m=B[n]:=⟨_,rfl⟩
      rw [← em] at hm ⊢
      have b1:=pP _ hm.1
      have b2:=pQ _ hm.2.1
      refine bZ (P:=aAl fun u=>(∃ m ∈ B.take n, ∃ a ∈ fH A m.p, ∃ b ∈ fH C m.q,u=nF a b) ∨ ∃ a ∈ fH A m.p, ∃ b ∈ fH C m.q,u=nF a b) ?_ fun t ht=>aP ⟨_,rfl,uN ht fun u => ?_⟩
      · refine kK (by omega) ?_
        have lA':=lw A m.p
        refine aH7 (aMi (xs:=fH A m.p) (I:=fun i t=>aAl (fun u=>(∃ m ∈ B.take n, ∃ a ∈ fH A m.p, ∃ b ∈ fH C m.q,u=nF a b) ∨ ∃ a ∈ (fH A m.p).take i, ∃ b ∈ fH C m.q,u=nF a b) t) (by omega) (fun n2 hn2 s hs => ?_) (fun s=>by simp) (uN hs fun u=>by simp)) fun t ht=>by rw [List.take_length] at ht;exact ht
        dsimp only
        rw [if_pos (by omega),dT hn2,Option.bind_some]
        have ha:=(mw.1 (List.getElem_mem hn2)).1
        obtain ⟨a,ea⟩ : ∃ a,a=(fH A m.p)[n2]:=⟨_,rfl⟩
        rw [← ea] at ha ⊢
        refine bZ (P:=aAl fun u=>((∃ m ∈ B.take n, ∃ a ∈ fH A m.p, ∃ b ∈ fH C m.q,u=nF a b) ∨ ∃ a ∈ (fH A m.p).take n2, ∃ b ∈ fH C m.q,u=nF a b) ∨ ∃ b ∈ fH C m.q,u=nF a b) ?_ fun t ht=>aP ⟨_,rfl,uN ht fun u => ?_⟩
        · refine kK (by omega) ?_
          have lC':=lw C m.q
          refine aH7 (aMi (xs:=fH C m.q) (I:=fun i t=>aAl (fun u=>((∃ m ∈ B.take n, ∃ a ∈ fH A m.p, ∃ b ∈ fH C m.q,u=nF a b) ∨ ∃ a ∈ (fH A m.p).take n2, ∃ b ∈ fH C m.q,u=nF a b) ∨ ∃ b ∈ (fH C m.q).take i,u=nF a b) t) (by omega) (fun n3 hn3 s hs => ?_) (fun s=>by simp) (uN hs fun u=>by simp)) fun t ht=>by rw [List.take_length] at ht;exact ht
          dsimp only
          rw [if_pos (by omega),dT hn3,Option.bind_some]
          have hb:=(mw.1 (List.getElem_mem hn3)).1
          obtain ⟨b,eb⟩ : ∃ b,b=(fH C m.q)[n3]:=⟨_,rfl⟩
          rw [← eb] at hb ⊢
          obtain ⟨cc,_,_,ce⟩:=can a ha b hb
          rw [ce,Option.bind_some]
          have wide : ∀ u,(((∃ m ∈ B.take n, ∃ a ∈ fH A m.p, ∃ b ∈ fH C m.q,u=nF a b) ∨ ∃ a ∈ (fH A m.p).take n2, ∃ b ∈ fH C m.q,u=nF a b) ∨ ∃ b ∈ (fH C m.q).take n3,u=nF a b)∨u=nF a b ↔ ((∃ m ∈ B.take n, ∃ a ∈ fH A m.p, ∃ b ∈ fH C m.q,u=nF a b) ∨ ∃ a ∈ (fH A m.p).take n2, ∃ b ∈ fH C m.q,u=nF a b) ∨ ∃ b ∈ (fH C m.q).take (n3+1),u=nF a b:=fun u=>by
            constructor
            · rintro ((h | ⟨b',hb',e⟩) | e)
              · exact .inl h
              · exact .inr ⟨b',(qB hn3).2 (.inl hb'),e⟩
              · exact .inr ⟨b,(qB hn3).2 (.inr eb),e⟩
            · rintro (h | ⟨b',hb',e⟩)
              · exact .inl (.inl h)
              · rcases (qB hn3).1 hb' with h | h
                · exact .inl (.inr ⟨b',h,e⟩)
                · rw [← eb] at h;subst h;exact .inr e
          have candW : ∀ u,(((∃ m ∈ B.take n, ∃ a ∈ fH A m.p, ∃ b ∈ fH C m.q,u=nF a b) ∨ ∃ a ∈ (fH A m.p).take n2, ∃ b ∈ fH C m.q,u=nF a b) ∨ ∃ b ∈ (fH C m.q).take n3,u=nF a b)→gL u:=fun u hu=>by
            rcases hu with (⟨m',_,a',ha',b',hb',rfl⟩ | ⟨a',ha',b',hb',rfl⟩) | ⟨b',hb',rfl⟩
            · exact (can a' (mw.1 ha').1 b' (mw.1 hb').1).1
            · exact (can a' (mw.1 (List.mem_of_mem_take ha')).1 b' (mw.1 hb').1).1
            · exact (can a ha b' (mw.1 (List.mem_of_mem_take hb')).1).1
          refine bZ (P:=fun t=>aAl (fun u=>(((∃ m ∈ B.take n, ∃ a ∈ fH A m.p, ∃ b ∈ fH C m.q,u=nF a b) ∨ ∃ a ∈ (fH A m.p).take n2, ∃ b ∈ fH C m.q,u=nF a b) ∨ ∃ b ∈ (fH C m.q).take n3,u=nF a b)∨u=nF a b) t) ?_ fun t ht=>aP ⟨_,rfl,uN ht wide⟩
          have hne:nF a b≠[]:=fun e=>by rw [e] at cc;obtain ⟨_,_,_,_,q,_⟩:=cc;cases q
          generalize nF a b=v at *
          rcases hs with ⟨s1,s2⟩ | ⟨s1,s2,s3⟩
          · rw [if_pos s1,Option.bind_some,if_pos rfl]
            refine kK hne (aP (.inr ⟨cc, .inr rfl,fun u hu => ?_⟩))
            rcases hu with hu | rfl
            · exact absurd hu (s2 u)
            · exact aQ8 cc
          · have sne:s≠[]:=fun e=>by rw [e] at s1;obtain ⟨_,_,_,_,q,_⟩:=s1;cases q
            rw [if_neg sne]
            refine bZ (P:=fun b=>(b=true ↔ ltT v s)) (bZ (aJr cc s1) fun c hc=>aP (by rw [decide_eq_true_eq];exact hc)) fun x hx=>eH (fun hb=>kK hne (aP (.inr ⟨cc, .inr rfl,fun u hu => ?_⟩))) fun hb=>aP (.inr ⟨s1, .inl s2,fun u hu => ?_⟩)
            · rcases hu with hu | rfl
              · exact fun q=>s3 u hu (aXc (candW u hu) cc s1 q (hx.1 hb))
              · exact aQ8 cc
            · rcases hu with hu | rfl
              · exact s3 u hu
              · exact fun q=>hb (hx.2 q)
        · constructor
          · rintro ((h | ⟨a',ha',h⟩) | h)
            · exact .inl h
            · exact .inr ⟨a',(qB hn2).2 (.inl ha'),h⟩
            · exact .inr ⟨a,(qB hn2).2 (.inr ea),h⟩
          · rintro (h | ⟨a',ha',h⟩)
            · exact .inl (.inl h)
            · rcases (qB hn2).1 ha' with g | g
              · exact .inl (.inr ⟨a',g,h⟩)
              · rw [← ea] at g;subst g;exact .inr h
      · constructor
        · rintro (⟨m',hm',h⟩ | h)
          · exact ⟨m',(qB hn).2 (.inl hm'),h⟩
          · exact ⟨m,(qB hn).2 (.inr em),h⟩
        · rintro ⟨m',hm',h⟩
          rcases (qB hn).1 hm' with g | g
          · exact .inl ⟨m',g,h⟩
          · rw [← em] at g;subst g;exact .inr h
    · -- it is the least of all
      have all : ∀ u,gL u→pT u ∈ P∧qT u ∈ Q∧(⟨pT u,qT u,oX r (pT u) (qT u)⟩ ∈ B → ∃ m ∈ B, ∃ a ∈ fH A m.p, ∃ b ∈ fH C m.q,u=nF a b):=fun u hu=>by
        obtain ⟨a,b,c,d,rfl,⟨u1,u2,u3⟩,u4,u5,u6⟩:=hu
        have ea:=iA a b u1 u2 u3
        have ec:=iC c d u4 u5 u6
        have pa:dF [a,b]=a*b:=by simp [dF]
        have pc:dF [c,d]=c*d:=by simp [dF]
        refine ⟨?_,?_,fun h=>⟨_,h,[a,b],mw.2 ⟨ea,pa⟩,[c,d],mw.2 ⟨ec,pc⟩,rfl⟩⟩
        · have:=fP _ ea;rw [pa] at this;exact this
        · have:=fQ _ ec;rw [pc] at this;exact this
      rcases ht with ⟨t1,t2⟩ | ⟨t1,t2,t3⟩
      · exfalso
        have c0:gL [⟨60,7⟩,⟨60,7⟩]:=⟨60,60,7,7,rfl,by decide,by decide⟩
        obtain ⟨g1,g2,_⟩:=all _ c0
        have hne:=(o3 _ _ ⟨g1,g2⟩).1
        match B,o1,t2,hne with
        | m :: B,o1,t2,_ =>
          obtain ⟨q1,q2,_⟩:=o1 m (List.mem_cons_self ..)
          obtain ⟨a,ha,pa⟩:=gP _ q1
          obtain ⟨b,hb,pb⟩:=gQ _ q2
          exact t2 _ ⟨m,List.mem_cons_self ..,a,mw.2 ⟨ha,pa⟩,b,mw.2 ⟨hb,pb⟩,rfl⟩
      · refine ⟨t1,fun u hu hl => ?_⟩
        obtain ⟨m,hm,a,ha,b,hb,et⟩:=t2
        obtain ⟨_,c1,c2,_⟩:=can a (mw.1 ha).1 b (mw.1 hb).1
        rw [← et] at c1 c2
        have c1:pT t=m.p:=c1.trans (mw.1 ha).2
        have c2:qT t=m.q:=c2.trans (mw.1 hb).2
        have ft:aFg r t=m.far:=by unfold aFg;rw [c1,c2];exact (o1 m hm).2.2.symm
        obtain ⟨g1,g2,g3⟩:=all u hu
        have fu:aFg r u=oX r (pT u) (qT u):=rfl
        unfold sI at hl
        rw [ft,c2,fu] at hl
        rcases (o3 _ _ ⟨g1,g2⟩).2 with e | e
        · have e2:=o2 m hm _ e
          dsimp only at e2
          rcases hl with hl | ⟨_,hl⟩
          · omega
          · exact t3 u (g3 e) hl
        · have e2:=e m hm
          rcases hl with hl | ⟨hl,_⟩ <;> omega
theorem aI8 {r:aD} (hr:aS3 r) : ∃ t,gL t∧lR r ⟨60,84,7,10,2⟩=some t∧lZ r ⟨60,84,7,10,2⟩=some t:=by
 obtain ⟨t,h1,h2,h3⟩:=aI9 hr
 obtain ⟨u,g1,g2,g3⟩:=aNa hr
 have:=aS7 h2 g2 h3 g3
 subst this
 exact ⟨t,h2,h1,g1⟩
end Go.Proofs.YtceknlcbfomdhaaGreatDoor
namespace Go.Proofs.YtceknlcbfomdhaaGreatDoor
set_option linter.unusedVariables false
set_option maxRecDepth 100000
def wK (f:Nat→Bool) (st j:Nat):Nat→Nat
 | 0=>0
 | y+1=>wK f st j y+if y % st=j∧f y=true then 1 else 0
theorem aDx (f:Nat→Bool) (st j:Nat) : ∀ y,wK f st j y≤y
 | 0=>Nat.le_refl _
 | y+1=>by
  have:=aDx f st j y
  unfold wK
  split <;> omega
theorem aC6 {f:Nat→Bool} {st j y:Nat} (h:y % st=j) : ∀ i,i<st→wK f st j (y+1+i)=wK f st j (y+1)
 | 0,_=>rfl
 | i+1,hi=>by
  have e:y+1+(i+1)=(y+1+i)+1:=by omega
  rw [e]
  conv=>lhs;unfold wK
  have hne : ¬ ((y+1+i) % st=j∧f (y+1+i)=true):=by
   rintro ⟨q,_⟩
   have d:=Nat.sub_mod_eq_zero_of_mod_eq (q.trans h.symm)
   have e2:y+1+i-y=i+1:=by omega
   rw [e2,Nat.mod_eq_of_lt hi] at d
   omega
  rw [if_neg hne,Nat.add_zero]
  exact aC6 h i (by omega)
theorem wR {f:Nat→Bool} {st j:Nat} (hj:j<st) : ∀ y,y≤j→wK f st j y=0
 | 0,_=>rfl
 | y+1,hy=>by
  unfold wK
  rw [wR hj y (by omega),if_neg]
  rintro ⟨q,_⟩
  rw [Nat.mod_eq_of_lt (by omega)] at q
  omega
theorem aNq (f:Nat→Bool) (st j:Nat) : ∀ y,wK (fun _=>true) st j y=wK f st j y+wK (fun n => !f n) st j y
 | 0=>rfl
 | y+1=>by
  unfold wK
  rw [aNq f st j y]
  by_cases h:y % st=j
  ·cases hf:f y <;> simp [h,hf] <;> omega
  ·simp [h]
def aEn (c:aF) (st Y j:Nat) (k:Int):Int :=
 if wK (fun n => !jT c n) st j Y<wK (fun n=>jT c n) st j Y∨(wK (fun n=>jT c n) st j Y=wK (fun n => !jT c n) st j Y∧(wL c k).Leap<(wL c k).Days) then (wL c k).Leap else (wL c k).Days
theorem aT4 {c:aF} (hc:vC c=true) {st a Y:Nat} (ha:a<st) (s1:st≤260) (y1:Y≤1000000) {m:Int} (m0:0≤m) (m1:m<c.Months.length):gH c a st Y m=some (aEn c st Y a m):=by
 have hm:=yC (c:=c) m0 m1
 have key:Ok (gH c a st Y m) (fun r=>r=aEn c st Y a m):=by
  unfold gH
  refine bZ (P:=fun (r:Int × Int)=>r.1=wK (fun n=>jT c n) st a Y∧r.2=wK (fun _=>true) st a Y) ?_ fun v7 h7 => ?_
  ·refine eI (I:=fun (s:Int × Int × Int) => ∃ n:Nat,s.2.2=n∧n % st=a∧n≤1000260∧s.1=wK (fun n=>jT c n) st a n∧s.2.1=wK (fun _=>true) st a n∧(n=a ∨ ∃ k,n=k+st∧k<Y∧k % st=a)) (m:=fun s=>(1000260-s.2.2).toNat) ?_ _ ⟨a,rfl,Nat.mod_eq_of_lt ha,by omega,by rw [wR ha a (Nat.le_refl _)];rfl,by rw [wR ha a (Nat.le_refl _)];rfl, .inl rfl⟩ (by dsimp only;omega)
   rintro ⟨l,al,y⟩ ⟨n,hn,hmod,hn1,hl,hal,hk⟩
   dsimp only at hn hl hal ⊢
   subst hn hl hal
   refine eH (fun hy => ?_) fun hy=>aP (.inr ⟨_,rfl,?_⟩)
   ·have c1:=aDx (fun n=>jT c n) st a n
    have c2:=aDx (fun _=>true) st a n
    have e1 : ∀ g:Nat→Bool,wK g st a (n+st)=wK g st a n+if g n=true then 1 else 0:=fun g=>by
     have:=aC6 (f:=g) hmod (st-1) (by omega)
     rw [show n+1+(st-1)=n+st by omega] at this
     rw [this]
     conv=>lhs;unfold wK
     simp [hmod]
    rw [xL hc (by omega),Option.bind_some,bD (x:=(wK (fun _=>true) st a n:Int)+1) (by omega) (by omega),bD (x:=(wK (fun n=>jT c n) st a n:Int)+1) (by omega) (by omega),bD (x:=(n:Int)+st) (by omega) (by omega)]
    cases hL:jT c n with
    | true =>
     exact aP (.inl ⟨_,rfl,⟨n+st,by simp,by rw [Nat.add_mod_right];exact hmod,by omega,by rw [e1];simp [hL],by rw [e1];simp, .inr ⟨n,rfl,by omega,hmod⟩⟩,by dsimp only;omega⟩)
    | false =>
     exact aP (.inl ⟨_,rfl,⟨n+st,by simp,by rw [Nat.add_mod_right];exact hmod,by omega,by rw [e1];simp [hL],by rw [e1];simp, .inr ⟨n,rfl,by omega,hmod⟩⟩,by dsimp only;omega⟩)
   ·have e2 : ∀ g:Nat→Bool,wK g st a n=wK g st a Y:=fun g=>by
     rcases hk with rfl | ⟨k,rfl,k1,k2⟩
     ·rw [wR ha _ (Nat.le_refl _),wR ha Y (by omega)]
     ·have a1:=aC6 (f:=g) k2 (st-1) (by omega)
      have a2:=aC6 (f:=g) k2 (Y-k-1) (by omega)
      rw [show k+1+(st-1)=k+st by omega] at a1
      rw [show k+1+(Y-k-1)=Y by omega] at a2
      rw [a1,a2]
    exact ⟨by dsimp only;rw [e2],by dsimp only;rw [e2]⟩
  ·obtain ⟨h1,h2⟩:=h7
   have c1:=aDx (fun n=>jT c n) st a Y
   have c2:=aNq (fun n=>jT c n) st a Y
   have c3:=aDx (fun _=>true) st a Y
   rw [hm.1,Option.bind_some,h1,h2,bD (by omega) (by omega)]
   unfold aEn
   refine eH (fun q=>aP ?_) fun q=>eH (fun q2=>aP ?_) fun q2 => ?_
   ·rw [if_pos];omega
   ·rw [if_neg];omega
   ·unfold uS
    refine bZ (P:=fun r=>r=min (wL c m).Leap (wL c m).Days) (eH (fun _=>aP ?_) fun _=>aP ?_) fun v h=>aP ?_
    ·omega
    ·omega
    ·rw [h]
     split <;> omega
 obtain ⟨x,e,rfl⟩:=key
 exact e
end Go.Proofs.YtceknlcbfomdhaaGreatDoor
namespace Go.Proofs.YtceknlcbfomdhaaGreatDoor
set_option linter.unusedVariables false
set_option maxRecDepth 100000
def aX7 (c:aF) (n Y:Nat):List Int:=(List.range n).flatMap fun j=>(List.range c.Months.length).flatMap fun (k:Nat)=>[aEn c n Y j (k:Int)]
theorem aOb {M:Nat} {g:Nat→Int} {xs:List Int} {step:Int × List Int→Option ((Int × List Int) ⊕ List Int)} (hS : ∀ (m:Nat) zs,m<M→zs.length≤xs.length+m→step ((m:Int),zs)=some (.inl ((m:Int)+1,zs++[g m]))) (hE : ∀ zs,step ((M:Int),zs)=some (.inr zs)) (hM:M≤1000000):cD step (0,xs)=some (xs++(List.range M).flatMap fun k=>[g k]):=by
 refine wQ (xs:=List.range M) (f:=fun k=>[g k]) (c:=1) (fun v _=>by simp) (fun i hi ys hy => ?_) (fun ys=>by rw [List.length_range];exact hE ys) (by rw [List.length_range];omega)
 rw [List.length_range] at hi
 rw [List.getElem_range]
 exact hS i ys hi (by omega)
theorem aRx {M:Nat} {g:Nat→Int}:((List.range M).flatMap fun k=>[g k]).length=M:=by
 have:((List.range M).flatMap fun k=>[g k])=(List.range M).map g:=by rw [List.map_eq_flatMap]
 rw [this];simp
def aG7 (f:Nat→Bool) (n y:Nat):List Int:=(List.range n).map fun j=>(wK f n j y:Int)
theorem aG8 {f:Nat→Bool} {n y j:Nat} (h:j<n):atI (aG7 f n y) (j:Int)=some (wK f n j y:Int):=by
 unfold aG7
 rw [dT (by simpa using h)]
 simp
theorem aNo {f:Nat→Bool} {n y:Nat} (hn:0<n) (hf:f y=true):(aG7 f n y).set (y % n) ((wK f n (y % n) y:Int)+1)=aG7 f n (y+1):=by
 unfold aG7
 refine List.ext_getElem (by simp) fun i h1 h2 => ?_
 rw [List.getElem_set]
 simp only [List.getElem_map,List.getElem_range]
 conv=>rhs;unfold wK
 by_cases h:y % n=i
 ·rw [if_pos h,if_pos ⟨h,hf⟩,h];rfl
 ·rw [if_neg h,if_neg fun q=>h q.1];rfl
theorem aQj {f:Nat→Bool} {n y:Nat} (hf:f y=false):aG7 f n y=aG7 f n (y+1):=by
 unfold aG7
 refine List.map_congr_left fun j _ => ?_
 conv=>rhs;unfold wK
 rw [if_neg (by rw [hf];simp)];rfl
theorem aJd (f:Nat→Bool) (n:Nat):List.replicate n (0:Int)=aG7 f n 0:=by
 unfold aG7
 refine List.ext_getElem (by simp) fun i h1 h2 => ?_
 simp [wK]
theorem aHp {c:aF} {cam:List Int} (ha:aA7 c cam=0) {y:Int} (y0:0≤y):Ok (qK c cam y) (fun _=>True):=by
 obtain ⟨hc,hm,h,k1,k2⟩:=rU ha
 have hl:=(xR hm).2
 obtain ⟨_,hq,_⟩:=fE hc
 have n1:=aH5 ha (y:=y) (m:=1) (by omega) (by omega)
 have nM:=aH5 ha (y:=y) (m:=c.Months.length) (by omega) (by omega)
 unfold aCu at n1 nM
 unfold qK
 rw [zJ hc y0,Option.bind_some,qJ (by omega) (by omega),if_pos h,Option.bind_some,Int.tmod_eq_emod_of_nonneg y0]
 refine kK (by omega) ?_
 rw [bD (x:=_*_) (by omega) (by omega)]
 obtain ⟨o,ho⟩ : ∃ o:Nat,y % ((cam.length:Int) / c.Months.length)*c.Months.length=o:=⟨(y % ((cam.length:Int) / c.Months.length)*c.Months.length).toNat,by omega⟩
 rw [ho] at n1 nM ⊢
 refine kK (by omega) ?_
 rw [aA2]
 refine bZ (P:=fun _=>True) ?_ fun v _=>aP trivial
 refine eI (I:=fun (s:Int × List rT)=>(1≤s.1∧s.1≤c.Months.length+1)∧(s.2.length:Int)≤s.1) (m:=fun s=>(c.Months.length+1-s.1).toNat) ?_ _ ⟨⟨by dsimp only;omega,by dsimp only;omega⟩,by simp⟩ (by dsimp only;omega)
 rintro ⟨m,fs⟩ ⟨⟨m0,m1⟩,fl⟩
 dsimp only at m0 m1 fl ⊢
 refine eH (fun hi => ?_) fun hi=>aP (.inr ⟨_,rfl,trivial⟩)
 rw [wF hc _ m0 hi,Option.bind_some,bD (x:=m-1) (by omega) (by omega)]
 refine bZ (P:=fun fs'=>fs'.length≤fs.length+1) ?_ fun v hv=>aP (.inl ⟨_,rfl,?_⟩)
 ·refine bZ (aRp (i:=m-1) (by omega) (by rw [List.length_drop];omega)) fun v13 _=>eH (fun _=>bZ (aRp (i:=m-1) (by omega) (by rw [List.length_drop];omega)) fun v14 _=>kK (by simp;omega) (aP (by simp))) fun _=>aP (by omega)
 ·dsimp only
  rw [bD (x:=m+1) (by omega) (by omega)]
  exact ⟨⟨⟨by omega,by omega⟩,by omega⟩,by omega⟩
theorem aD8 {c:aF} {cam:List Int} (ha:aA7 c cam=0):Ok (mI c cam) (fun _=>True):=by
 obtain ⟨hc,hm,h,k1,k2⟩:=rU ha
 have hl:=(xR hm).2
 obtain ⟨_,hq,hr,_,_,hb,hcy⟩:=fE hc
 obtain ⟨e,c0,c1,_⟩:=aLk hc
 have hg:=nY (n:=(cam.length:Int) / c.Months.length) (d:=cyc c.Rules) (by omega)
 have hq:=uO (a:=(cam.length:Int) / c.Months.length) (g:=(Int.gcd ((cam.length:Int) / c.Months.length) (cyc c.Rules):Int)) (by omega) (by omega)
 unfold mI
 rw [qJ (by omega) (by omega),if_pos h,Option.bind_some,sA (by omega) hb,Option.bind_some,aDc ⟨by omega,by omega⟩ (by omega) ⟨by omega,by omega⟩ (by omega),Option.bind_some]
 refine kK (by omega) ?_
 rw [Int.tdiv_eq_ediv_of_nonneg (by omega)]
 obtain ⟨q,hqe⟩ : ∃ q,q=(cam.length:Int) / c.Months.length / (Int.gcd ((cam.length:Int) / c.Months.length) (cyc c.Rules):Int):=⟨_,rfl⟩
 rw [← hqe] at hq ⊢
 have b1:q*cyc c.Rules≤260*2000:=Int.mul_le_mul (by omega) (by omega) (by omega) (by omega)
 have b0:0≤q*cyc c.Rules:=Int.mul_nonneg hq.1 (by omega)
 rw [bD (x:=q) (by omega) (by omega),bD (x:=q*_) (by omega) (by omega)]
 refine bZ (P:=fun _=>True) ?_ fun v _=>aP trivial
 refine eI (I:=fun (s:Int × Int)=>0≤s.2∧s.2≤520000) (m:=fun s=>(520000-s.2).toNat) ?_ _ ⟨by dsimp only;omega,by dsimp only;omega⟩ (by dsimp only;omega)
 rintro ⟨k,y⟩ ⟨i0,i1⟩
 dsimp only at i0 i1 ⊢
 refine eH (fun hy => ?_) fun _=>aP (.inr ⟨_,rfl,trivial⟩)
 refine bZ (aHp ha i0) fun v8 _=>aP (.inl ⟨_,rfl,?_⟩)
 dsimp only
 rw [bD (x:=y+1) (by omega) (by omega)]
 exact ⟨⟨by omega,by omega⟩,by omega⟩
theorem aUc {c:aF} (hc:vC c=true) {n Y:Nat} (n0:0<n) (n1:n≤260) (y1:Y≤1000000) {X:Int} (hX:X=n):cD (S:=Int × List Int) (X:=List Int) (fun s12 =>
 (if s12.1<X then
 ((cD (S:=Int × List Int) (X:=List Int) (fun s16 =>
 (if s16.1<(c.Months.length:Int) then
 ((gH c s12.1 X Y s16.1).bind fun v17 =>
 (chk ((s16.2.length+[v17].length)*1*64≤140737488355328) (
 some (.inl (w64 (s16.1+1),s16.2++[v17])))))
 else
 some (.inr s16.2))) (0,s12.2):Option (List Int)).bind fun v19 =>
 some (.inl (w64 (s12.1+1),v19)))
 else
 some (.inr s12.2))) (0,([]:List Int))=some (aX7 c n Y):=by
 subst hX
 have hM:=(fE hc).2.1
 have:=wQ (xs:=List.range n) (init:=([]:List Int)) (f:=fun j=>(List.range c.Months.length).flatMap fun (k:Nat)=>[aEn c n Y j (k:Int)]) (c:=20) (step:=(fun (s12:Int × List Int) =>
 (if s12.1<(n:Int) then
 ((cD (S:=Int × List Int) (X:=List Int) (fun s16 =>
 (if s16.1<(c.Months.length:Int) then
 ((gH c s12.1 (n:Int) Y s16.1).bind fun v17 =>
 (chk ((s16.2.length+[v17].length)*1*64≤140737488355328) (
 some (.inl (w64 (s16.1+1),s16.2++[v17])))))
 else
 some (.inr s16.2))) (0,s12.2):Option (List Int)).bind fun v19 =>
 some (.inl (w64 (s12.1+1),v19)))
 else
 some (.inr s12.2)))) (fun v _=>by rw [aRx (g:=fun k=>aEn c n Y v (k:Int))];omega) (fun i hi ys hy=>by
  rw [List.length_range] at hi
  rw [List.getElem_range,if_pos (by omega),aOb (xs:=ys) (g:=fun (k:Nat)=>aEn c n Y i (k:Int)) (M:=c.Months.length) (fun m zs hm hz=>by
   simp only [List.length_nil] at hy
   rw [if_pos (by omega),aT4 hc hi n1 y1 (by omega) (by omega),Option.bind_some,fY (by simp;omega),bD (x:=(m:Int)+1) (by omega) (by omega)]) (fun zs=>by simp) (by omega),Option.bind_some,bD (x:=(i:Int)+1) (by omega) (by omega)]) (fun ys=>by simp) (by rw [List.length_range];omega)
 rw [this];rfl
theorem aTv {c:aF} (hc:vC c=true) {n Y:Nat} (n0:0<n) (n1:n≤260) {a b:List Int} (ea:a=aG7 (fun n=>jT c n) n Y) (eb:b=aG7 (fun n => !jT c n) n Y):cD (S:=Int × List Int) (X:=List Int) (fun s47 =>
 (if s47.1<(a.length:Int) then
 ((cD (S:=Int × List Int) (X:=List Int) (fun s57 =>
 (if s57.1<(c.Months.length:Int) then
 ((atI c.Months s57.1).bind fun v58 =>
 ((((((atI a s47.1).bind fun v59 =>
 ((atI b s47.1).bind fun v60 =>
 (if v60<v59 then
 some true
 else
 ((atI a s47.1).bind fun v61 =>
 ((atI b s47.1).bind fun v62 =>
 (if v61=v62 then
 some (decide (v58.Leap<v58.Days))
 else
 some false)))))):Option Bool).bind fun v63 =>
 (if v63=true then
 some v58.Leap
 else
 some v58.Days)):Option Int).bind fun v64 =>
 (chk ((s57.2.length+[v64].length)*1*64≤140737488355328) (
 some (.inl (w64 (s57.1+1),s57.2++[v64]))))))
 else
 some (.inr s57.2))) (0,s47.2):Option (List Int)).bind fun v66 =>
 some (.inl (w64 (s47.1+1),v66)))
 else
 some (.inr s47.2))) (0,([]:List Int))=some (aX7 c n Y):=by
 have la:a.length=n:=by rw [ea];simp [aG7]
 have hM:=(fE hc).2.1
 rw [la]
 have:=wQ (xs:=List.range n) (init:=([]:List Int)) (f:=fun j=>(List.range c.Months.length).flatMap fun (k:Nat)=>[aEn c n Y j (k:Int)]) (c:=20) (step:=(fun (s47:Int × List Int) =>
 (if s47.1<(n:Int) then
 ((cD (S:=Int × List Int) (X:=List Int) (fun s57 =>
 (if s57.1<(c.Months.length:Int) then
 ((atI c.Months s57.1).bind fun v58 =>
 ((((((atI a s47.1).bind fun v59 =>
 ((atI b s47.1).bind fun v60 =>
 (if v60<v59 then
 some true
 else
 ((atI a s47.1).bind fun v61 =>
 ((atI b s47.1).bind fun v62 =>
 (if v61=v62 then
 some (decide (v58.Leap<v58.Days))
 else
 some false)))))):Option Bool).bind fun v63 =>
 (if v63=true then
 some v58.Leap
 else
 some v58.Days)):Option Int).bind fun v64 =>
 (chk ((s57.2.length+[v64].length)*1*64≤140737488355328) (
 some (.inl (w64 (s57.1+1),s57.2++[v64]))))))
 else
 some (.inr s57.2))) (0,s47.2):Option (List Int)).bind fun v66 =>
 some (.inl (w64 (s47.1+1),v66)))
 else
 some (.inr s47.2)))) (fun v _=>by rw [aRx (g:=fun k=>aEn c n Y v (k:Int))];omega) (fun i hi ys hy=>by
  rw [List.length_range] at hi
  rw [List.getElem_range,if_pos (by omega),aOb (xs:=ys) (g:=fun (k:Nat)=>aEn c n Y i (k:Int)) (M:=c.Months.length) (fun m zs hm hz=>by
   simp only [List.length_nil] at hy
   have hmo:=(yC (c:=c) (k:=(m:Int)) (by omega) (by omega)).1
   rw [if_pos (by omega),hmo,Option.bind_some,ea,eb,aG8 hi,Option.bind_some,aG8 hi,Option.bind_some]
   unfold aEn
   generalize wK (fun n=>jT c n) n i Y=x
   generalize wK (fun n => !jT c n) n i Y=y
   have hb:(if (y:Int)<x then some true else (some (x:Int)).bind fun v61=>(some (y:Int)).bind fun v62=>if v61=v62 then some (decide ((wL c m).Leap<(wL c m).Days)) else some false)=some (decide (y<x∨(x=y∧(wL c m).Leap<(wL c m).Days))):=by
    by_cases h1:y<x
    ·rw [if_pos (by omega),decide_eq_true (.inl h1)]
    ·rw [if_neg (by omega),Option.bind_some,Option.bind_some]
     by_cases h2:x=y
     ·rw [if_pos (by omega)]
      congr 1
      rw [Bool.eq_iff_iff,decide_eq_true_eq,decide_eq_true_eq]
      omega
     ·rw [if_neg (by omega)]
      congr 1
      exact (decide_eq_false (by omega)).symm
   rw [hb,Option.bind_some]
   by_cases h3:y<x∨(x=y∧(wL c m).Leap<(wL c m).Days)
   ·rw [decide_eq_true h3,if_pos rfl,if_pos h3,Option.bind_some,fY (by simp;omega),bD (x:=(m:Int)+1) (by omega) (by omega)]
   ·rw [decide_eq_false h3,if_neg (by decide),if_neg h3,Option.bind_some,fY (by simp;omega),bD (x:=(m:Int)+1) (by omega) (by omega)]) (fun zs=>by simp) (by omega),Option.bind_some,bD (x:=(i:Int)+1) (by omega) (by omega)]) (fun ys=>by simp) (by rw [List.length_range];omega)
 rw [this];rfl
theorem aI6 {c:aF} (hc:vC c=true) (y:Int) : ∃ cam code n n',rX c y=some (cam,n,code)∧nB c y=some (cam,n',code)∧(code=0→aA7 c cam=0)∧(code=0∨code=2)∧(y=1→code=0):=by
  obtain ⟨_,hM,hr,_,_,hb,hcy⟩:=fE hc
  obtain ⟨e,c0,c1,_⟩:=aLk hc
  have hbest:=aOr hc y
  have hd:(y≤260 / (c.Months.length:Int)) ↔ y*c.Months.length≤260:=Int.le_ediv_iff_mul_le (by omega)
  have h26:(260:Int) / (c.Months.length:Int)≤260:=Int.ediv_le_self _ (by decide)
  have h26':0≤(260:Int) / (c.Months.length:Int):=Int.ediv_nonneg (by decide) (by omega)
  unfold rX vN
  unfold nB qZ at hbest ⊢
  rw [uW (by omega) (by omega),hc,Option.bind_some,eO,Option.bind_some] at hbest ⊢
  rw [iG (by omega) (by omega),hc,Option.bind_some,fY (by omega),Int.tdiv_eq_ediv_of_nonneg (by decide),bD (x:=260 / _) (by omega) (by omega),fM,Option.bind_some,Option.bind_some]
  simp only [Bool.not_true,Bool.false_eq_true,if_false] at hbest ⊢
  by_cases hy:(1≤y∧y≤260)∧y*c.Months.length≤260
  · obtain ⟨⟨y0,y1⟩,y2⟩:=hy
    have yn:0≤y*(c.Months.length:Int):=Int.mul_nonneg (by omega) (by omega)
    have b1:btw y 1 (260 / (c.Months.length:Int))=true:=decide_eq_true ⟨y0,hd.2 y2⟩
    have b2:btw y 1 260=true:=decide_eq_true ⟨y0,y1⟩
    have b3:decide (w64 (y*(c.Months.length:Int))≤260)=true:=by rw [bD (by omega) (by omega)];exact decide_eq_true y2
    simp only [b2,b3,if_true,Option.bind_some,Bool.not_true,Bool.false_eq_true,if_false] at hbest
    simp only [b1,b2,b3,if_true,Option.bind_some,Bool.not_true,Bool.false_eq_true,if_false]
    rw [sA (by omega) hb,Option.bind_some,aDc ⟨by omega,by omega⟩ (by omega) ⟨by omega,by omega⟩ (by omega),Option.bind_some]
    have hg:=nY (n:=y) (d:=cyc c.Rules) (by omega)
    obtain ⟨n,rfl⟩ : ∃ n:Nat,y=n:=⟨y.toNat,by omega⟩
    -- the years after which both end together
    obtain ⟨Y,hY1,hY2,hY3⟩ : ∃ Y:Nat,((n:Int) / (Int.gcd n (cyc c.Rules):Int))*cyc c.Rules=Y∧cyc c.Rules / (Int.gcd (cyc c.Rules) n:Int)*n=Y∧Y≤520000:=by
      have q1:=uO (a:=(n:Int)) (g:=(Int.gcd n (cyc c.Rules):Int)) (by omega) (by omega)
      have p0:0≤((n:Int) / (Int.gcd n (cyc c.Rules):Int))*cyc c.Rules:=Int.mul_nonneg q1.1 (by omega)
      have p1:((n:Int) / (Int.gcd n (cyc c.Rules):Int))*cyc c.Rules≤260*2000:=Int.mul_le_mul (by omega) (by omega) (by omega) (by omega)
      refine ⟨(((n:Int) / (Int.gcd n (cyc c.Rules):Int))*cyc c.Rules).toNat,by omega,?_,by omega⟩
      rw [Int.toNat_of_nonneg p0,Int.gcd_comm]
      obtain ⟨u,hu⟩:=Int.gcd_dvd_left (n:Int) (cyc c.Rules)
      obtain ⟨v,hv⟩:=Int.gcd_dvd_right (n:Int) (cyc c.Rules)
      generalize (Int.gcd (n:Int) (cyc c.Rules))=g at *
      rw [hu,hv,Int.mul_ediv_cancel_left _ (by omega),Int.mul_ediv_cancel_left _ (by omega)]
      grind
    have q1:=uO (a:=(n:Int)) (g:=(Int.gcd n (cyc c.Rules):Int)) (by omega) (by omega)
    have q2:=uO (a:=cyc c.Rules) (g:=(Int.gcd (cyc c.Rules) n:Int)) (by omega) (by have:=nY (n:=cyc c.Rules) (d:=(n:Int)) (by omega);omega)
    have hcom:jZ c n=some (Y:Int):=by
      have hg2:=nY (n:=cyc c.Rules) (d:=(n:Int)) (by omega)
      unfold jZ
      rw [wA (by omega),if_pos ⟨hb,hcy⟩,Option.bind_some,vT (by dsimp only;omega) (by omega) (by omega),Option.bind_some]
      dsimp only
      rw [fY (by omega),Int.tdiv_eq_ediv_of_nonneg (by omega),bD (x:=cyc c.Rules / _) (by omega) (by omega),hY2,bD (by omega) (by omega)]
    rw [hcom,Option.bind_some,aUc hc (by omega) (by omega) (by omega) rfl,Option.bind_some] at hbest ⊢
    have hz:0≤(n:Int)∧True∧(n:Int).toNat*1*64≤281474976710656:=⟨by omega,trivial,by rw [Int.toNat_natCast];omega⟩
    rw [fY (show (Int.gcd (n:Int) (cyc c.Rules):Int)≠0 by omega),fY hz,fY hz,Int.tdiv_eq_ediv_of_nonneg (by omega),bD (x:=(n:Int) / _) (by omega) (by omega),hY1,bD (x:=(Y:Int)) (by omega) (by omega),Int.toNat_natCast]
    have loop:cD (S:=Int × List Int × List Int) (X:=List Int × List Int) (fun s17 =>
  (if s17.1<(Y:Int) then
  ((((lS c s17.1).bind fun v18 =>
  (if v18=true then
  (chk ((n:Int)≠0) (
  ((atI s17.2.1 (s17.1.tmod (n:Int))).bind fun v20 =>
  ((atI s17.2.1 (s17.1.tmod (n:Int))).bind fun v21 =>
  some (List.set s17.2.1 (s17.1.tmod (n:Int)).toNat (w64 (v20+1)),s17.2.2)))))
  else
  (chk ((n:Int)≠0) (
  ((atI s17.2.2 (s17.1.tmod (n:Int))).bind fun v23 =>
  ((atI s17.2.2 (s17.1.tmod (n:Int))).bind fun v24 =>
  some (s17.2.1,List.set s17.2.2 (s17.1.tmod (n:Int)).toNat (w64 (v23+1))))))))):Option (List Int × List Int)).bind fun v25 =>
  some (.inl (w64 (s17.1+1),v25.1,v25.2)))
  else
  some (.inr (s17.2.1,s17.2.2)))) (0,List.replicate n 0,List.replicate n 0)=some (aG7 (fun n=>jT c n) n Y,aG7 (fun n => !jT c n) n Y):=by
      have key:Ok (cD (S:=Int × List Int × List Int) (X:=List Int × List Int) (fun s17 =>
  (if s17.1<(Y:Int) then
  ((((lS c s17.1).bind fun v18 =>
  (if v18=true then
  (chk ((n:Int)≠0) (
  ((atI s17.2.1 (s17.1.tmod (n:Int))).bind fun v20 =>
  ((atI s17.2.1 (s17.1.tmod (n:Int))).bind fun v21 =>
  some (List.set s17.2.1 (s17.1.tmod (n:Int)).toNat (w64 (v20+1)),s17.2.2)))))
  else
  (chk ((n:Int)≠0) (
  ((atI s17.2.2 (s17.1.tmod (n:Int))).bind fun v23 =>
  ((atI s17.2.2 (s17.1.tmod (n:Int))).bind fun v24 =>
  some (s17.2.1,List.set s17.2.2 (s17.1.tmod (n:Int)).toNat (w64 (v23+1))))))))):Option (List Int × List Int)).bind fun v25 =>
  some (.inl (w64 (s17.1+1),v25.1,v25.2)))
  else
  some (.inr (s17.2.1,s17.2.2)))) (0,List.replicate n 0,List.replicate n 0)) (fun r=>r=(aG7 (fun n=>jT c n) n Y,aG7 (fun n => !jT c n) n Y)):=by
        refine eI (I:=fun (s:Int × List Int × List Int) => ∃ k:Nat,s.1=k∧k≤Y∧s.2.1=aG7 (fun n=>jT c n) n k∧s.2.2=aG7 (fun n => !jT c n) n k) (m:=fun s=>(Y-s.1).toNat) ?_ _ ⟨0,rfl,by omega,aJd _ _,aJd _ _⟩ (by dsimp only;omega)
        rintro ⟨i,a,b⟩ ⟨k,hk,hkY,ha,hb'⟩
        dsimp only at hk ha hb' ⊢
        subst hk ha hb'
        refine eH (fun hlt => ?_) fun hge=>aP (.inr ⟨_,rfl,by rw [show k=Y by omega]⟩)
        have hmod:(k:Int).tmod (n:Int)=((k % n:Nat):Int):=by rw [Int.tmod_eq_emod_of_nonneg (by omega)];rfl
        have hlt2:k % n<n:=Nat.mod_lt _ (by omega)
        rw [zJ hc (by omega),Option.bind_some,hmod,fY (by omega),fY (by omega),aG8 hlt2,aG8 hlt2,Int.toNat_natCast,bD (x:=(k:Int)+1) (by omega) (by omega)]
        simp only [Option.bind_some]
        have l1:=aDx (fun n=>jT c n) n (k % n) k
        have l2:=aDx (fun n => !jT c n) n (k % n) k
        rw [bD (x:=(wK (fun n=>jT c n) n (k % n) k:Int)+1) (by omega) (by omega),bD (x:=(wK (fun n => !jT c n) n (k % n) k:Int)+1) (by omega) (by omega)]
        cases hL:jT c k with
        | true =>
          exact aP (.inl ⟨_,rfl,⟨k+1,by simp,by omega,aNo (f:=fun n=>jT c n) (by omega) hL,aQj (f:=fun n => !jT c n) (by simp [hL])⟩,by dsimp only;omega⟩)
        | false =>
          exact aP (.inl ⟨_,rfl,⟨k+1,by simp,by omega,aQj (f:=fun n=>jT c n) hL,aNo (f:=fun n => !jT c n) (by omega) (by simp [hL])⟩,by dsimp only;omega⟩)
      obtain ⟨r,h,rfl⟩:=key
      exact h
    rw [loop,Option.bind_some]
    dsimp only
    rw [aTv hc (by omega) (by omega) rfl rfl,Option.bind_some]
    obtain ⟨r,hr1,hr2⟩:=hbest
    cases hcnt:nV c (aX7 c n Y) Y with
    | none=>rw [hcnt] at hr1;cases hr1
    | some w =>
      rw [hcnt,Option.bind_some] at hr1
      injection hr1 with hr1
      subst hr1
      have ha:=hr2 rfl
      obtain ⟨w',hw',_⟩:=aD8 ha
      rw [hw',Option.bind_some,Option.bind_some]
      exact ⟨aX7 c n Y,0,w',w,rfl,rfl,fun _=>ha, .inl rfl,fun _=>rfl⟩
  · have b1:btw y 1 (260 / (c.Months.length:Int))=false:=decide_eq_false fun q=>hy ⟨⟨q.1,by omega⟩,hd.1 q.2⟩
    have s1:(if btw y 1 260=true then some (decide (w64 (y*(c.Months.length:Int))≤260)) else some false)=some false:=by
      by_cases h1:btw y 1 260=true
      · have q:=of_decide_eq_true h1
        have m1:y*(c.Months.length:Int)≤260*20:=Int.mul_le_mul q.2 (by omega) (by omega) (by omega)
        have m0:0≤y*(c.Months.length:Int):=Int.mul_nonneg (by omega) (by omega)
        rw [if_pos h1,bD (by omega) (by omega),decide_eq_false fun z=>hy ⟨q,z⟩]
      · rw [if_neg h1]
    rw [s1,b1]
    refine ⟨[],2,0,0,rfl,rfl,fun h=>(by cases h), .inr rfl,fun h => ?_⟩
    exfalso
    subst h
    exact hy ⟨by decide,by omega⟩
end Go.Proofs.YtceknlcbfomdhaaGreatDoor
namespace Go.Proofs.YtceknlcbfomdhaaGreatDoor
set_option linter.unusedVariables false
set_option maxRecDepth 100000
def aRf:ByteArray:=⟨#[99,101,110,116,101,114]⟩
def aUw:ByteArray:=⟨#[116,104,105,114,100]⟩
def aRg:ByteArray:=⟨#[101,115,99,97,112,101]⟩
def aRh:ByteArray:=⟨#[109,105,110,117,116,101]⟩
def aXe:ByteArray:=⟨#[104,111,117,114]⟩
def wkT (a b c d:Int):bG:=⟨[⟨aRf,[a,12]⟩,⟨aUw,[b,c]⟩,⟨aRg,[d]⟩,⟨aRh,[36,10]⟩,⟨aXe,[40]⟩],[⟨0,0,1,0⟩,⟨1,1,2,0⟩,⟨0,1,3,0⟩,⟨3,1,4,0⟩]⟩
def v1T (a b:Int):aD:=(gB ⟨1,1⟩ a b).1
def v2T (a b c d:Int):aD:=(gB (v1T a b) c d).1
def tth (t:Int):Prop:=6≤t∧t≤240
theorem aX1 {a b c d:Int} (ha:tth a) (hb:tth b) (hc:tth c) (hd:tth d):aBw (wkT a b c d)=true:=by
 have n1:oH aRf=true:=by decide
 have n2:oH aUw=true:=by decide
 have n3:oH aRg=true:=by decide
 have n4:oH aRh=true:=by decide
 have n5:oH aXe=true:=by decide
 have t : ∀ x,tth x→iM x=true:=fun x h=>decide_eq_true h
 have ta:=t a ha
 have tb:=t b hb
 have tc:=t c hc
 have td:=t d hd
 have q1:iM 12=true:=by decide
 have q2:iM 36=true:=by decide
 have q3:iM 10=true:=by decide
 have q4:iM 40=true:=by decide
 refine mW.2 ⟨by simp [wkT],by simp [wkT],fun i hi => ?_,fun i hi => ?_⟩
 ·have:i=0∨i=1∨i=2∨i=3∨i=4:=by simp [wkT] at hi;omega
  rcases this with rfl | rfl | rfl | rfl | rfl
  ·exact ⟨by simp [aF9,wkT,n1,ta,q1],rfl⟩
  ·exact ⟨by simp [aF9,wkT,n2,tb,tc],rfl⟩
  ·exact ⟨by simp [aF9,wkT,n3,td],rfl⟩
  ·exact ⟨by simp [aF9,wkT,n4,q2,q3],rfl⟩
  ·exact ⟨by simp [aF9,wkT,n5,q4],rfl⟩
 ·have:i=0∨i=1∨i=2∨i=3:=by simp [wkT] at hi;omega
  rcases this with rfl | rfl | rfl | rfl
  ·exact ⟨kF.2 ⟨by simp [wkT],rfl,rfl⟩,rfl⟩
  ·exact ⟨kF.2 ⟨by simp [wkT],rfl,rfl⟩,rfl⟩
  ·exact ⟨kF.2 ⟨by simp [wkT],rfl,rfl⟩,rfl⟩
  ·exact ⟨kF.2 ⟨by simp [wkT],rfl,rfl⟩,rfl⟩
theorem aRc {n d:Int} (hd:0<d) (h:(mkR n d).2=true):(mkR n d).1.Num*d=n*(mkR n d).1.Den:=by
 unfold mkR at h ⊢
 split at h
 ·cases h
 ·rename_i hc
  rw [if_neg hc]
  have hg:0<Int.gcd n d:=nY (by omega)
  obtain ⟨x,hx⟩:=Int.gcd_dvd_left n d
  obtain ⟨y,hy⟩:=Int.gcd_dvd_right n d
  generalize (Int.gcd n d)=g at *
  have hg':(g:Int)≠0:=by omega
  have ed:fI d=(g:Int)*y:=by unfold fI;omega
  dsimp only
  rw [ed,Int.mul_ediv_cancel_left _ hg',decide_eq_false (show ¬ d<0 by omega)]
  by_cases hn:n<0
  ·have en:fI n=(g:Int)*(-x):=by rw [Int.mul_neg];unfold fI;omega
   rw [decide_eq_true hn,en,Int.mul_ediv_cancel_left _ hg']
   simp only [bne_iff_ne,ne_eq,Bool.true_eq_false,not_false_eq_true,if_true,Int.neg_neg]
   rw [hy,hx,Int.mul_comm (g:Int) x,Int.mul_comm (g:Int) y,Int.mul_assoc,Int.mul_comm (g:Int) y]
  ·have en:fI n=(g:Int)*x:=by unfold fI;omega
   rw [decide_eq_false hn,en,Int.mul_ediv_cancel_left _ hg']
   simp only [bne_self_eq_false,Bool.false_eq_true,if_false]
   grind
def mvT (nm:ByteArray) (a b c d teeth beats:Int) (cal:aF) (cam:List Int) (st:Int):aW:=⟨nm,wkT a b c d,0,4,2,teeth,beats,cal,cam,st⟩
theorem aXd {nm:ByteArray} {a b c d teeth beats:Int} {cal:aF} {cam:List Int} {st:Int} (hn:oH nm=true) (ha:tth a) (hb:tth b) (hc:tth c) (hd:tth d) (ht:tth teeth) (h0:1≤beats∧beats≤36000) (hk:aA7 cal cam=0) (hs:0≤st∧st≤2):aI1 (mvT nm a b c d teeth beats cal cam st)=true:=by
 obtain ⟨k1,k2,k3,_⟩:=rU hk
 have e1:iM teeth=true:=decide_eq_true ht
 have e2:btw beats 1 36000=true:=decide_eq_true h0
 have e3:btw st 0 2=true:=decide_eq_true hs
 have e4:=aX1 ha hb hc hd
 unfold aI1 mvT
 simp only [hn,e1,e2,e3,e4,k1,k2,Bool.and_true,Bool.true_and]
 rfl
end Go.Proofs.YtceknlcbfomdhaaGreatDoor
namespace Go.Proofs.YtceknlcbfomdhaaGreatDoor
set_option linter.unusedVariables false
set_option maxRecDepth 100000
theorem aRd {n d:Int} (hd:d≠0):fI (mkR n d).1.Num≤fI n∧fI (mkR n d).1.Den≤fI d:=by
 have hg:=nY (n:=n) hd
 have h1:=uO (a:=fI n) (g:=(Int.gcd n d:Int)) (rC n) (by omega)
 have h2:=uO (a:=fI d) (g:=(Int.gcd n d:Int)) (rC d) (by omega)
 have z:fI 0=0:=rfl
 unfold mkR
 generalize fI n / (Int.gcd n d:Int)=x at *
 generalize fI d / (Int.gcd n d:Int)=y at *
 have hx:fI x=x:=by unfold fI;omega
 have hy:fI y=y:=by unfold fI;omega
 have hxn:fI (-x)=x:=by unfold fI;omega
 split
 ·dsimp only;rw [z];omega
 ·dsimp only
  refine ⟨?_,by omega⟩
  split
  ·omega
  ·omega
end Go.Proofs.YtceknlcbfomdhaaGreatDoor
namespace Go.Proofs.YtceknlcbfomdhaaGreatDoor
set_option linter.unusedVariables false
set_option maxRecDepth 100000
theorem aDk {s:ByteArray} (h:oH s=true):smS s:=by
 unfold oH at h
 simp only [Bool.and_eq_true,decide_eq_true_eq] at h
 unfold smS;omega
theorem aOh {c:aF} (h:vC c=true):kA c:=by
 obtain ⟨h1,h2,h3,h4,h5,h6,h7⟩:=fE h
 refine ⟨aDk h1,⟨by omega,fun m hm=>⟨?_,trivial,trivial⟩⟩,⟨by omega,fun _ _=>⟨trivial,trivial,trivial⟩⟩,trivial⟩
 obtain ⟨i,hi,rfl⟩:=List.getElem_of_mem hm
 have:=aC0.1 h5 i hi
 rw [Bool.and_eq_true] at this
 have q:=this.1
 unfold aSw at q
 rw [Bool.and_eq_true] at q
 exact aDk q.1
theorem aXv {m:aW} (h:aI1 m=true):eD m:=by
 have hc:=aH3 h
 obtain ⟨hw,_⟩:=aH4 h
 have hn:oH m.Name=true:=by unfold aI1 at h;rw [Bool.and_eq_true] at h;exact h.1
 obtain ⟨w1,w2,w3,w4⟩:=mW.1 hw
 refine ⟨aDk hn,⟨⟨by omega,fun a ha => ?_⟩,⟨by omega,fun _ _=>⟨trivial,trivial,trivial,trivial⟩⟩⟩,trivial,trivial,trivial,trivial,trivial,aOh hc.1,⟨by have:=(xR hc.2).2.2;omega,fun _ _=>trivial⟩,trivial⟩
 have q:=aSt hw a ha
 unfold aF9 at q
 simp only [Bool.and_eq_true,decide_eq_true_eq] at q
 exact ⟨aDk q.2.1,by have:=q.2.2;omega,fun _ _=>trivial⟩
def aTs (t:List bQ) (v:aD):Prop := ∃ a b c d:Int,t=[⟨a,b⟩,⟨c,d⟩]∧(tth a∧tth b∧tth c∧tth d)∧(gB ⟨1,1⟩ a b).2=true∧(gB (v1T a b) c d).2=true∧v=v2T a b c d
theorem aWm {t:List bQ} (h:trI t) : ∃ a b c d:Int,t=[⟨a,b⟩,⟨c,d⟩]∧tth a∧tth b∧tth c∧tth d:=by
 obtain ⟨hl,hp⟩:=h
 match t,hl,hp with
 | [⟨a,b⟩,⟨c,d⟩],_,hp =>
  have h1:=hp ⟨a,b⟩ (by simp)
  have h2:=hp ⟨c,d⟩ (by simp)
  dsimp only at h1 h2
  exact ⟨a,b,c,d,rfl,⟨by omega,by omega⟩,⟨by omega,by omega⟩,⟨by omega,by omega⟩,⟨by omega,by omega⟩⟩
theorem aJ5 {v:aD} (hv:KnR v) {t u:Int} (ht:tth t) (hu:tth u):((fN (w64 (-t)) u).bind fun x=>kT v x.1)=some (gB v t u):=by
 obtain ⟨t0,t1⟩:=ht
 obtain ⟨u0,u1⟩:=hu
 obtain ⟨h1,h2,h3⟩:=tV t0 t1 u0 u1
 rw [bD (x := -t) (by omega) (by omega),lK ⟨by omega,by omega⟩ ⟨by omega,by omega⟩ (by omega),Option.bind_some,vU hv.1 h2];rfl
theorem aQv {t:List bQ} {v:aD} (h:aTs t v):KnR v:=by
 obtain ⟨a,b,c,d,rfl,⟨ha,hb,hc,hd⟩,h1,h2,rfl⟩:=h
 exact pG (pG ⟨by decide,by decide⟩ ha.1 ha.2 hb.1 hb.2 h1) hc.1 hc.2 hd.1 hd.2 h2
theorem aXz {t:List bQ} (h:trI t):xI t=some true:=by
 obtain ⟨a,b,c,d,rfl,ha,hb,hc,hd⟩:=aWm h
 have q1:iM a=true:=decide_eq_true ha
 have q2:iM b=true:=decide_eq_true hb
 have q3:iM c=true:=decide_eq_true hc
 have q4:iM d=true:=decide_eq_true hd
 unfold xI
 rw [xO (xs:=[(⟨a,b⟩:bQ),⟨c,d⟩]) (e := .inr false) (fun _ p=>iM p.Driver && iM p.Driven) (by simp) fun i hi => ?_]
 ·have:aLg [(⟨a,b⟩:bQ),⟨c,d⟩] (fun _ p=>iM p.Driver && iM p.Driven)=true:=by
   rw [aC0]
   intro i hi
   have:i=0∨i=1:=by simp at hi;omega
   rcases this with rfl | rfl
   ·simp [q1,q2]
   ·simp [q3,q4]
  rw [this];rfl
 ·rw [dT hi,Option.bind_some]
  unfold vV
  rw [oP,oP]
  simp only [Option.bind_some]
  cases iM [(⟨a,b⟩:bQ),⟨c,d⟩][i].Driver <;> cases iM [(⟨a,b⟩:bQ),⟨c,d⟩][i].Driven <;> rfl
theorem aYo {c:aF} (h:kA c):pS c=some c:=by
 have h1:=h.2.1.1
 have h2:=h.2.2.1.1
 unfold pS
 rw [fY (by simp;omega),fY (by simp;omega)]
 simp
end Go.Proofs.YtceknlcbfomdhaaGreatDoor
namespace Go.Proofs.YtceknlcbfomdhaaGreatDoor
set_option linter.unusedVariables false
set_option maxRecDepth 100000
theorem aBa {x B:Int} (h:fI x≤B) : -B≤x∧x≤B:=by unfold fI at h;omega
theorem aP4 {x B:Int} (h0 : -B≤x) (h1:x≤B):fI x≤B:=by unfold fI;omega
theorem aGl {v:aD} (hv:KnR v) {t u A B T U:Int} (ht:tth t) (hu:tth u) (hA:fI v.Num≤A) (hB:v.Den≤B) (hT:t≤T) (hU:u≤U) (hAT:A*T≤1000000000) (hBU:B*U≤1000000000):(gB v t u).2=true∧KnR (gB v t u).1∧fI (gB v t u).1.Num≤A*T∧(gB v t u).1.Den≤B*U:=by
 obtain ⟨t0,t1⟩:=ht
 obtain ⟨u0,u1⟩:=hu
 obtain ⟨s1,s2,s3⟩:=tV t0 t1 u0 u1
 have sl:=aRd (n := -t) (d:=u) (by omega)
 obtain ⟨d0,d1,n0,n1⟩:=wI s2
 obtain ⟨e0,e1,m0,m1⟩:=wI hv.1
 have an : -A≤v.Num∧v.Num≤A:=aBa hA
 have st:fI (-t)=t:=by unfold fI;omega
 have su:fI u=u:=by unfold fI;omega
 rw [st,su] at sl
 have hn:=aBa sl.1
 have hd:=aBa sl.2
 have b1:=aMa (a:=v.Num) (b:=(mkR (-t) u).1.Num) (A:=A) (B:=T) (by omega) (by omega) (by omega) (by omega)
 have b2:=yW (a:=v.Den) (b:=(mkR (-t) u).1.Den) (A:=B) (B:=U) (by omega) hB (by omega) (by omega)
 have hm:(gB v t u).2=true:=aAo (by omega) (by omega) (by omega) (by omega) (by omega)
 have hl:=aRd (n:=v.Num*(mkR (-t) u).1.Num) (d:=v.Den*(mkR (-t) u).1.Den) (by omega)
 have hk:=pG hv t0 t1 u0 u1 hm
 have q1:=aP4 b1.1 b1.2
 have q2:fI (v.Den*(mkR (-t) u).1.Den)≤B*U:=aP4 (by omega) b2.2
 refine ⟨hm,hk,Int.le_trans hl.1 q1,?_⟩
 exact (aBa (Int.le_trans hl.2 q2)).2
theorem aEa {v:aD} (hv:KnR v) {t u:Int} (ht:tth t) (hu:tth u):((eS (w64 (-t)) u).bind fun x=>iF v x.1)=some (yP (gB v t u)):=by
 obtain ⟨t0,t1⟩:=ht
 obtain ⟨u0,u1⟩:=hu
 obtain ⟨h1,h2,h3⟩:=tV t0 t1 u0 u1
 rw [bD (x := -t) (by omega) (by omega),mH ⟨by omega,by omega⟩ ⟨by omega,by omega⟩,Option.bind_some]
 have e:(aEj (-t) u).1=(mkR (-t) u).1:=by unfold aEj yP;rw [if_neg (by omega),if_pos h1]
 rw [e,aAc hv.1 h2];rfl
theorem aPd {t:List bQ} (h:gL t) : ∃ v,aTs t v∧fI v.Num≤7056∧v.Den≤100∧nS t=some (v,true)∧kR t=some (v,0):=by
 obtain ⟨a,b,c,d,rfl,⟨a1,a2,a3⟩,a4,a5,a6⟩:=h
 have ta:tth a:=⟨by omega,by omega⟩
 have tb:tth b:=⟨by omega,by omega⟩
 have tc:tth c:=⟨by omega,by omega⟩
 have td:tth d:=⟨by omega,by omega⟩
 have k0:KnR ⟨1,1⟩:=⟨by decide,by decide⟩
 obtain ⟨m1,k1,n1,e1⟩:=aGl k0 tb tc (A:=1) (B:=1) (T:=84) (U:=10) (by decide) (by decide) (by omega) (by omega) (by decide) (by decide)
 have k1:KnR (v1T b c):=k1
 have n1:fI (v1T b c).Num≤84:=n1
 have e1:(v1T b c).Den≤10:=e1
 obtain ⟨m2,k2,n2,e2⟩:=aGl (v:=v1T b c) k1 ta td (A:=84) (B:=10) (T:=84) (U:=10) (by omega) (by omega) (by omega) (by omega) (by decide) (by decide)
 refine ⟨v2T b c a d,⟨b,c,a,d,rfl,⟨tb,tc,ta,td⟩,m1,m2,rfl⟩,n2,e2,?_,?_⟩
 ·have key:Ok (nS [⟨b,c⟩,⟨a,d⟩]) (fun r=>r=(v2T b c a d,true)):=by
   unfold nS jP
   rw [Option.bind_some]
   refine bZ (P:=fun x=>x = .inl (v2T b c a d)) ?_ fun x hx=>by subst hx;exact aP rfl
   refine eI (I:=fun (s:Int × aD)=>s=(0,⟨1,1⟩)∨s=(1,v1T b c)∨s=(2,v2T b c a d)) (m:=fun s=>(2-s.1).toNat) ?_ _ (.inl rfl) (by show (2-0:Int).toNat<1180591620717411303424;decide)
   rintro s (rfl | rfl | rfl)
   ·show Ok ((fN (w64 (-b)) c).bind fun v10=>(kT ⟨1,1⟩ v10.1).bind fun v11=>if (!v11.2)=true then some (Sum.inr (Sum.inr ((⟨0,0⟩:aD),false))) else some (Sum.inl (w64 (0+1),v11.1))) _
    rw [← Option.bind_assoc,aJ5 k0 tb tc,Option.bind_some,m1]
    exact aP (.inl ⟨_,rfl, .inr (.inl rfl),by show (2-w64 (0+1)).toNat<(2-0:Int).toNat;decide⟩)
   ·show Ok ((fN (w64 (-a)) d).bind fun v10=>(kT (v1T b c) v10.1).bind fun v11=>if (!v11.2)=true then some (Sum.inr (Sum.inr ((⟨0,0⟩:aD),false))) else some (Sum.inl (w64 (1+1),v11.1))) _
    rw [← Option.bind_assoc,aJ5 k1 ta td,Option.bind_some,m2]
    exact aP (.inl ⟨_,rfl, .inr (.inr rfl),by show (2-w64 (1+1)).toNat<(2-1:Int).toNat;decide⟩)
   ·exact aP (.inr ⟨_,rfl,rfl⟩)
  obtain ⟨r,h,rfl⟩:=key
  exact h
 ·have key:Ok (kR [⟨b,c⟩,⟨a,d⟩]) (fun r=>r=(v2T b c a d,0)):=by
   unfold kR
   refine bZ (P:=fun x=>x = .inl (v2T b c a d)) ?_ fun x hx=>by subst hx;exact aP rfl
   refine eI (I:=fun (s:Int × aD)=>s=(0,⟨1,1⟩)∨s=(1,v1T b c)∨s=(2,v2T b c a d)) (m:=fun s=>(2-s.1).toNat) ?_ _ (.inl rfl) (by show (2-0:Int).toNat<1180591620717411303424;decide)
   have c1:yP (gB ⟨1,1⟩ b c)=(v1T b c,0):=by unfold yP;rw [if_pos m1];rfl
   have c2:yP (gB (v1T b c) a d)=(v2T b c a d,0):=by unfold yP;rw [if_pos m2];rfl
   rintro s (rfl | rfl | rfl)
   ·show Ok ((eS (w64 (-b)) c).bind fun v10=>(iF ⟨1,1⟩ v10.1).bind fun v11=>if v11.2≠0 then some (Sum.inr (Sum.inr ((⟨0,0⟩:aD),v11.2))) else some (Sum.inl (w64 (0+1),v11.1))) _
    rw [← Option.bind_assoc,aEa k0 tb tc,Option.bind_some,c1]
    exact aP (.inl ⟨_,rfl, .inr (.inl rfl),by show (2-w64 (0+1)).toNat<(2-0:Int).toNat;decide⟩)
   ·show Ok ((eS (w64 (-a)) d).bind fun v10=>(iF (v1T b c) v10.1).bind fun v11=>if v11.2≠0 then some (Sum.inr (Sum.inr ((⟨0,0⟩:aD),v11.2))) else some (Sum.inl (w64 (1+1),v11.1))) _
    rw [← Option.bind_assoc,aEa k1 ta td,Option.bind_some,c2]
    exact aP (.inl ⟨_,rfl, .inr (.inr rfl),by show (2-w64 (1+1)).toNat<(2-1:Int).toNat;decide⟩)
   ·exact aP (.inr ⟨_,rfl,rfl⟩)
  obtain ⟨r,h,rfl⟩:=key
  exact h
theorem aS9 {t:List bQ} (h:gL t):trI t:=by
 obtain ⟨a,b,c,d,rfl,⟨a1,a2,a3⟩,a4,a5,a6⟩:=h
 refine ⟨rfl,fun p hp => ?_⟩
 simp only [List.mem_cons,List.not_mem_nil,or_false] at hp
 rcases hp with rfl | rfl
 ·dsimp only;omega
 ·dsimp only;omega
theorem aO2 {t:List bQ} (h:gL t):kP t=some true:=by
 obtain ⟨a,b,c,d,rfl,⟨a1,a2,a3⟩,a4,a5,a6⟩:=h
 have q : ∀ x:Int,6≤x→x≤240→iQ x=some true:=fun x h0 h1=>by
  rw [tE];exact congrArg some (decide_eq_true ⟨h0,h1⟩)
 have q1:gD ⟨b,c⟩=some true:=by
  unfold gD
  rw [q b (by omega) (by omega),Option.bind_some,if_pos rfl,q c (by omega) (by omega)];rfl
 have q2:gD ⟨a,d⟩=some true:=by
  unfold gD
  rw [q a (by omega) (by omega),Option.bind_some,if_pos rfl,q d (by omega) (by omega)];rfl
 have key:Ok (kP [⟨b,c⟩,⟨a,d⟩]) (fun r=>r=true):=by
  unfold kP
  refine bZ (P:=fun x=>x = .inl ()) ?_ fun x hx=>by subst hx;exact aP rfl
  refine eI (I:=fun (s:Int)=>s=0∨s=1∨s=2) (m:=fun s=>(2-s).toNat) ?_ _ (.inl rfl) (by decide)
  rintro s (rfl | rfl | rfl)
  ·show Ok ((gD ⟨b,c⟩).bind fun v6=>if (!v6)=true then some (Sum.inr (Sum.inr false)) else some (Sum.inl (w64 (0+1)))) _
   rw [q1]
   exact aP (.inl ⟨_,rfl, .inr (.inl rfl),by decide⟩)
  ·show Ok ((gD ⟨a,d⟩).bind fun v6=>if (!v6)=true then some (Sum.inr (Sum.inr false)) else some (Sum.inl (w64 (1+1)))) _
   rw [q2]
   exact aP (.inl ⟨_,rfl, .inr (.inr rfl),by decide⟩)
  ·exact aP (.inr ⟨_,rfl,rfl⟩)
 obtain ⟨r,h,rfl⟩:=key
 exact h
theorem aOu {t:List bQ} (h:gL t) {r:aD} (hr:aDh r=true) (r0:1≤r.Num∧r.Num≤36000) (r1:r.Den≤480) : ∃ v e,aTs t v∧sM t r=some (e,0)∧rY t r=some (e,0)∧(e.Num=0→fI v.Num*r.Den=r.Num*v.Den):=by
 obtain ⟨v,hg,b1,b2,es,ei⟩:=aPd h
 have hv:=aQv hg
 obtain ⟨v0,v1,v2,v3⟩:=wI hv.1
 obtain ⟨d0,d1,_,_⟩:=wI hr
 have ha:0≤fI v.Num:=rC _
 have m1:fI v.Num*r.Den≤7056*480:=Int.mul_le_mul b1 r1 (by omega) (by omega)
 have m2:0≤fI v.Num*r.Den:=Int.mul_nonneg ha (by omega)
 have m3:r.Num*v.Den≤36000*100:=Int.mul_le_mul r0.2 b2 (by omega) (by omega)
 have m4:0≤r.Num*v.Den:=Int.mul_nonneg (by omega) (by omega)
 have m5:=yW (a:=v.Den) (b:=r.Den) (A:=100) (B:=480) (by omega) b2 (by omega) r1
 have hs:=aAo (n:=fI v.Num*r.Den-r.Num*v.Den) (d:=v.Den*r.Den) (by omega) (by omega) (by omega) (by omega) (by omega)
 have hx:=aH2 (n:=fI v.Num*r.Den-r.Num*v.Den) (d:=v.Den*r.Den) (by omega) hs
 obtain ⟨x,ex⟩ : ∃ x,mkR (fI v.Num*r.Den-r.Num*v.Den) (v.Den*r.Den)=(x,true):=⟨_,Prod.ext rfl hs⟩
 rw [ex] at hx
 change aDh x=true∧(x.Num=0 ↔ _) at hx
 obtain ⟨x0,x1,x2,x3⟩:=wI hx.1
 have hav:aDh ⟨fI v.Num,v.Den⟩=true:=by
  obtain ⟨q1,q2,q3⟩:=aDi.1 hv.1
  refine aDi.2 ⟨q1,⟨by dsimp only;omega,by dsimp only;omega⟩,?_⟩
  rw [← q3];unfold fI;simp [Int.gcd]
 refine ⟨v,⟨fI x.Num,x.Den⟩,hg,?_,?_,fun h0 => ?_⟩
 ·unfold sM vW
  rw [aXz (aS9 h),Option.bind_some,aGm,hr,es]
  simp only [Bool.not_true,Bool.false_eq_true,if_false,Option.bind_some]
  rw [qP (by omega) (by omega),Option.bind_some]
  unfold yI yH
  rw [bD (x := -r.Num) (by omega) (by omega),Option.bind_some]
  dsimp only
  have en : -r.Num*v.Den = -(r.Num*v.Den):=Int.neg_mul ..
  rw [bD (x:=fI v.Num*r.Den) (by omega) (by omega),en,bD (x := -(r.Num*v.Den)) (by omega) (by omega),bD (x:=_+_) (by omega) (by omega),bD (x:=v.Den*r.Den) (by omega) (by omega),show fI v.Num*r.Den + -(r.Num*v.Den)=fI v.Num*r.Den-r.Num*v.Den by omega,lK ⟨by omega,by omega⟩ ⟨by omega,by omega⟩ (by omega),ex]
  simp only [Bool.not_true,Bool.false_eq_true,if_false,Option.bind_some]
  rw [qP (by omega) (by omega),Option.bind_some]
 ·unfold rY mT
  rw [aO2 h,Option.bind_some,lD,hr,ei]
  simp only [Bool.not_true,Bool.false_eq_true,if_false,Option.bind_some,ne_eq,not_true_eq_false]
  rw [aDb (by omega) (by omega),Option.bind_some]
  unfold tB
  rw [lD,hav,lD,hr]
  simp only [Bool.not_true,Bool.false_eq_true,if_false,Option.bind_some]
  rw [bD (x:=fI v.Num*r.Den) (by omega) (by omega),bD (x:=r.Num*v.Den) (by omega) (by omega),bD (x:=_-_) (by omega) (by omega),bD (x:=v.Den*r.Den) (by omega) (by omega),mH ⟨by omega,by omega⟩ ⟨by omega,by omega⟩]
  have em:aEj (fI v.Num*r.Den-r.Num*v.Den) (v.Den*r.Den)=(x,0):=by unfold aEj yP;rw [if_neg (by omega),ex];rfl
  rw [em]
  simp only [Option.bind_some]
  rw [aDb (by omega) (by omega),Option.bind_some]
 ·have:x.Num=0:=by dsimp only at h0;unfold fI at h0;omega
  have:=hx.2.1 this
  omega
theorem aQb {r:aD} (hr:aDh r=true) (r0:1≤r.Num∧r.Num≤36000) (r1:r.Den≤480) : ∃ t v e,gL t∧aTs t v∧nZ r ⟨60,84,7,10,2⟩=some (⟨t,e⟩,0)∧oO r ⟨60,84,7,10,2⟩=some (⟨t,e⟩,0)∧(e.Num=0→fI v.Num*r.Den=r.Num*v.Den):=by
 obtain ⟨d0,d1,_,_⟩:=wI hr
 obtain ⟨t,hc,hi,hs⟩:=aI8 (r:=r) ⟨⟨by omega,by omega⟩,by omega,by omega⟩
 obtain ⟨v,e,hg,es,ei,hz⟩:=aOu hc hr r0 r1
 refine ⟨t,v,e,hc,hg,?_,?_,hz⟩
 ·have el:oC ⟨60,84,7,10,2⟩=some true:=by decide
  unfold nZ vJ
  rw [lD,hr,el]
  simp only [Bool.not_true,Bool.false_eq_true,if_false,Option.bind_some]
  rw [if_neg (by omega),if_neg (by omega),decide_eq_false (by omega)]
  simp only [Bool.false_eq_true,if_false,Option.bind_some,ne_eq,not_true_eq_false]
  rw [hi,Option.bind_some,ei];rfl
 ·have el:aAx ⟨60,84,7,10,2⟩=some true:=by decide
  have b1:btw r.Num 1 1000000=true:=decide_eq_true ⟨by omega,by omega⟩
  unfold oO yJ vX
  rw [aGm,hr,el,eO,b1]
  simp only [Bool.not_true,Bool.false_eq_true,if_false,if_true,Option.bind_some]
  rw [decide_eq_true (by omega)]
  simp only [Bool.not_true,Bool.false_eq_true,if_false,Option.bind_some]
  rw [hs,Option.bind_some,es];rfl
def aYg (nm:ByteArray) (beats teeth:Int) (c:aF) (m:aW):Prop := ∃ p q s u cam,m=mvT nm p q s u teeth beats c cam 2∧(tth p∧tth q∧tth s∧tth u)∧(gB ⟨1,1⟩ p q).2=true∧(gB (v1T p q) s u).2=true∧2*teeth*fI (v2T p q s u).Num=beats*(v2T p q s u).Den∧aA7 c cam=0
theorem aTe {c:aF} (h:kA c) (nm:ByteArray) (beats teeth y:Int) : ∃ r,iD nm beats teeth c y=some r∧iK nm beats teeth c y=some r∧eD r.1∧(oH nm=true→1≤beats∧beats≤36000→tth teeth→vC c=true→y=1→r.2=3∨(r.2=0∧aYg nm beats teeth c r.1)):=by
 have hz:eD aIy:=aIz.1
 have hm1:=h.2.1.1
 have hm2:=h.2.2.1.1
 unfold iD iK
 rw [iG (by omega) (by omega),uW (by omega) (by omega),Option.bind_some,Option.bind_some]
 cases hv:vC c
 ·exact ⟨(aIy,1),rfl,rfl,hz,fun _ _ _ h=>by cases h⟩
 simp only [Bool.not_true,Bool.false_eq_true,if_false]
 rw [vI,sN,Option.bind_some,Option.bind_some]
 cases hn:oH nm
 ·exact ⟨(aIy,7),rfl,rfl,hz,fun h=>by cases h⟩
 simp only [Bool.not_true,Bool.false_eq_true,if_false]
 rw [fM,eO,tE,oP]
 cases hb:btw beats 1 36000
 ·exact ⟨(aIy,2),rfl,rfl,hz,fun _ h=>by rw [show btw beats 1 36000=true from decide_eq_true h] at hb;cases hb⟩
 cases ht:iM teeth
 ·exact ⟨(aIy,2),rfl,rfl,hz,fun _ _ h=>by rw [show iM teeth=true from decide_eq_true h] at ht;cases ht⟩
 have hb':1≤beats∧beats≤36000:=of_decide_eq_true hb
 have ht':6≤teeth∧teeth≤240:=of_decide_eq_true ht
 obtain ⟨t0,t1⟩:=ht'
 simp only [Bool.not_true,Bool.false_eq_true,if_false,Option.bind_some]
 obtain ⟨cam,code,n,n',e1,e2,k1,k2,k3⟩:=aI6 hv y
 rw [e1,e2,Option.bind_some,Option.bind_some]
 rcases k2 with rfl | rfl
 ·have ha:=k1 rfl
  have hs:=aAo (n:=beats) (d:=2*teeth) (by omega) (by omega) (by omega) (by omega) (by omega)
  have hr:=(aH2 (show 2*teeth≠0 by omega) hs).1
  have hx:=aRc (n:=beats) (d:=2*teeth) (by omega) hs
  have hl:=aRd (n:=beats) (d:=2*teeth) (by omega)
  obtain ⟨r,er⟩ : ∃ r,mkR beats (2*teeth)=(r,true):=⟨_,Prod.ext rfl hs⟩
  have em:aEj beats (2*teeth)=(r,0):=by unfold aEj yP;rw [if_neg (by omega),er];rfl
  rw [er] at hr hx hl
  change aDh r=true at hr
  change r.Num*(2*teeth)=beats*r.Den at hx
  change fI r.Num≤_∧fI r.Den≤_ at hl
  obtain ⟨d0,d1,_,_⟩:=wI hr
  have ab:fI beats=beats:=by unfold fI;omega
  have at':fI (2*teeth)=2*teeth:=by unfold fI;omega
  rw [ab,at'] at hl
  have l1:=aBa hl.1
  have l2:=aBa hl.2
  have rn:1≤r.Num:=by
   rcases Int.lt_or_le 0 r.Num with q | q
   ·omega
   ·exfalso
    have a1:=Int.mul_pos (show 0<beats by omega) (show 0<r.Den by omega)
    have a2:=Int.mul_nonneg (show 0 ≤ -r.Num by omega) (show 0≤2*teeth by omega)
    rw [Int.neg_mul] at a2
    omega
  obtain ⟨t,v,e,hc,hg,bi,bs,hzr⟩:=aQb hr ⟨rn,by omega⟩ (by omega)
  have hlim:rK=some ⟨60,84,7,10,2⟩:=rfl
  simp only [ne_eq,not_true_eq_false,if_false]
  rw [bD (x:=2*teeth) (by omega) (by omega),mH ⟨by omega,by omega⟩ ⟨by omega,by omega⟩,em,lK ⟨by omega,by omega⟩ ⟨by omega,by omega⟩ (by omega),er,hlim,Option.bind_some,Option.bind_some,Option.bind_some]
  simp only [ne_eq,not_true_eq_false,if_false]
  rw [bi,bs,Option.bind_some,Option.bind_some]
  simp only [ne_eq,not_true_eq_false,if_false,Option.bind_some]
  by_cases he:e.Num=0
  ·have hg':=hg
   obtain ⟨p,q,s,u,rfl,⟨hp,hq,hS,hu⟩,m1,m2,rfl⟩:=hg'
   have hv2:=hzr he
   have hq2:2*teeth*fI (v2T p q s u).Num=beats*(v2T p q s u).Den:=by
    refine Int.eq_of_mul_eq_mul_right (a:=r.Den) (by omega) ?_
    grind
   have hmov:=aXd hn hp hq hS hu ⟨t0,t1⟩ hb' ha (st:=2) (by omega)
   have hsm:=aXv hmov
   have ew:tT [⟨p,q⟩,⟨s,u⟩]=some (wkT p q s u):=rfl
   rw [if_neg (by simp [he]),if_neg (by simp [he]),ew,Option.bind_some,aYo h,Option.bind_some]
   have a0:atI [(⟨p,q⟩:bQ),⟨s,u⟩] 0=some ⟨p,q⟩:=rfl
   have a1:atI [(⟨p,q⟩:bQ),⟨s,u⟩] 1=some ⟨s,u⟩:=rfl
   rw [a0,a1,Option.bind_some,Option.bind_some]
   have ec:=uK hsm
   refine ⟨(mvT nm p q s u teeth beats c cam 2,0),?_,rfl,hsm,fun _ _ _ _ _ => .inr ⟨rfl,p,q,s,u,cam,rfl,⟨hp,hq,hS,hu⟩,m1,m2,hq2,ha⟩⟩
   exact (congrArg (fun (x:Option aW)=>x.bind fun v11=>some (v11,(0:Int))) ec).trans rfl
  ·rw [if_pos he,if_pos (decide_eq_true he)]
   exact ⟨(aIy,3),rfl,rfl,hz,fun _ _ _ _ _ => .inl rfl⟩
 ·exact ⟨(aIy,2),rfl,rfl,hz,fun _ _ _ _ hy=>by have:=k3 hy;cases this⟩
end Go.Proofs.YtceknlcbfomdhaaGreatDoor
namespace Go.Proofs.YtceknlcbfomdhaaGreatDoor
set_option linter.unusedVariables false
theorem aMw {m:aW} (h:eD m) (d:gY) (wd:Int):uR m d wd=some (aVx m d wd):=by
 obtain ⟨c1,c2,c3⟩:=smC h
 unfold uR aVx wC
 rw [aPp h,Option.bind_some]
 cases hv:aI1 m
 ·rfl
 ·rw [aF3 h hv]
  simp only [Bool.not_true,Bool.false_eq_true,if_false,if_true,Option.bind_some,aQ4]
  by_cases hf:zD m=[]
  ·rw [if_neg (by simp [hf]),if_pos hf,aBo (by omega) (by omega) c3,Option.bind_some,Option.bind_some]
   by_cases hs:(aSa m.Calendar m.Cam d wd).2=0
   ·rw [if_neg (by simp [hs]),if_pos hs,aM6 h,Option.bind_some]
   ·rw [if_pos hs,if_neg hs];rfl
  ·rw [if_pos hf,if_neg hf];rfl
theorem aVy {m:aW} (h:eD m) (d:gY) (wd:Int):aE2 (aVx m d wd).1:=by
 have hl:=aUf (c:=m.Calendar) (smC h).2.2 d wd
 unfold aVx
 (repeat' split) <;> first | exact aIz | exact ⟨h,⟨trivial,trivial,trivial⟩,trivial,trivial,⟨hl,fun _ _=>trivial⟩,trivial,trivial,trivial,trivial,trivial,trivial⟩
end Go.Proofs.YtceknlcbfomdhaaGreatDoor
namespace Go.Proofs.YtceknlcbfomdhaaGreatDoor
set_option linter.unusedVariables false
set_option maxRecDepth 100000
def aVq:aF:=⟨⟨#[103,114,101,103,111,114,105,97,110]⟩,[⟨⟨#[106,97,110]⟩,31,31⟩,⟨⟨#[102,101,98]⟩,28,29⟩,⟨⟨#[109,97,114]⟩,31,31⟩,⟨⟨#[97,112,114]⟩,30,30⟩,⟨⟨#[109,97,121]⟩,31,31⟩,⟨⟨#[106,117,110]⟩,30,30⟩,⟨⟨#[106,117,108]⟩,31,31⟩,⟨⟨#[97,117,103]⟩,31,31⟩,⟨⟨#[115,101,112]⟩,30,30⟩,⟨⟨#[111,99,116]⟩,31,31⟩,⟨⟨#[110,111,118]⟩,30,30⟩,⟨⟨#[100,101,99]⟩,31,31⟩],[⟨4,0,true⟩,⟨100,0,false⟩,⟨400,0,true⟩],7⟩
theorem aW8:lN ⟨#[103,114,101,103,111,114,105,97,110]⟩=some (aVq,0):=by decide
theorem aXr:lW ⟨#[103,114,101,103,111,114,105,97,110]⟩=some (aVq,0):=by decide
theorem aVr:kA aVq:=aOh (by decide)
theorem aKa : ∃ d:rR,aIq d∧pE=some d∧sO=some d:=by
 obtain ⟨r,hi,hs,hm,_⟩:=aTe aVr ⟨#[99,108,111,99,107]⟩ 3600 30 4
 unfold pE vK sO yK yL
 rw [aW8,aXr]
 simp only [Option.bind_some,ne_eq,not_true_eq_false,if_false]
 rw [hi,hs]
 simp only [Option.bind_some]
 by_cases h0:r.2=0
 ·rw [if_neg (by simp [h0]),if_neg (by simp [h0]),aLv hm,aMw hm]
  exact ⟨⟨(aVx r.1 ⟨2000,1,1⟩ 6).1⟩,aVy hm _ _,rfl,rfl⟩
 ·rw [if_pos h0,if_pos h0]
  exact ⟨⟨aPx⟩,aIz,rfl,rfl⟩
theorem aL6:kW=some true:=by
 obtain ⟨x,h1,hi,hs⟩:=aKa
 have m1:=aL9 (x:=x) (k:=1) (by omega) (by omega) h1
 have d1:=aLr (x:=x) (k:=1) (by omega) (by omega) h1
 have b1:=zY (k:=1) h1.1.2.1.1
 unfold kW
 simp only [hs,hi,aLo h1,m1,d1,Option.bind_some,Bool.not_true,Bool.false_eq_true,if_false,List.length_map,List.length_range,fU,rH,ne_eq,not_true_eq_false,decide_false]
 repeat rw [if_neg (by omega)]
end Go.Proofs.YtceknlcbfomdhaaGreatDoor
namespace Go.Proofs.YtceknlcbfomdhaaGreatDoor
open Go.ChangeShapes Go.WideShapes Go.ChangeAt Go.RowKit
set_option linter.unusedVariables false
set_option maxRecDepth 100000
theorem aSo {W:World} {n:String} {g:Nat} {cs:Array Value} (hg:Tryz.prog.globalNamed n=some g) (h:W.var? Tryz.prog n=some cs) : ∃ t f,W.heap[g]? = some (.cells cs t f)∧g<W.heap.size:=by
 unfold World.var? at h
 rw [hg] at h
 simp only [Option.bind_some] at h
 split at h
 ·rename_i cs' t f hh
  cases h
  exact ⟨t,f,hh,(Array.getElem?_eq_some_iff.1 hh).1⟩
 ·cases h
def aZ4:DataW Unit→Value
 | .lit (.int k z) => .int k z
 | _ => .bool false
def aSm:DataW Unit→Array Value
 | .agg l=>(l.map aZ4).toArray
 | _ => #[]
def aYp (cs:Array Value):Obj→Obj
 | .cells _ t f => .cells cs t f
 | o=>o
theorem aV4:(Rows.laid_internal_strconv_uint64pow10:DataW Unit)=Lib.tabData .u64 Lib.pow10Tab:=by kernel_rfl
def aAk : List (String × DataW Unit) := [("math/bits.deBruijn32tab",Rows.laid_math_bits_deBruijn32tab),("math/bits.deBruijn64tab",Rows.laid_math_bits_deBruijn64tab),("internal/strconv.uint64pow10",Rows.laid_internal_strconv_uint64pow10)]
theorem aK6 : Tryz.prog.globalNamed "internal/strconv.uint64pow10" = some 0 := by kernel_rfl
theorem aTq {W : World} {rest : List (String × DataW Unit)} (h : laidMet Tryz.prog (("internal/strconv.uint64pow10",Rows.laid_internal_strconv_uint64pow10) :: rest) W) :
  (fun b=>b<W.heap.size) 0∧(aYr 0 (Lib.pow10Tab.map fun z=>Value.int .u64 z)).p W:=by
 rw [aV4] at h
 have:=Lib.tabIs_of_head (t:=262) (e:=154) (n:=20) aK6 (by kernel_rfl) Tryz.underlying262 Tryz.underlying154 (by kernel_rfl) (by kernel_rfl) h
 obtain ⟨t,f,h1,h2⟩:=aSo aK6 this
 exact ⟨h2,t,f,h1⟩
theorem aJl {W:World} (h:laidMet Tryz.prog aAk W):aFc (fun b=>b<W.heap.size) W:=by
 intro x hx
 simp only [aTr,List.mem_cons,List.not_mem_nil,or_false] at hx
 subst hx
 exact aTq h.tail.tail
noncomputable def aJy (os:Os):World :=
 let w0:=World.holding Tryz.prog os ⟨#[], #[],[]⟩
 { w0 with heap:=((w0.heap.modify 1 (aYp (aSm Rows.laid_math_bits_deBruijn32tab))).modify 2 (aYp (aSm Rows.laid_math_bits_deBruijn64tab))).modify 0 (aYp (aSm Rows.laid_internal_strconv_uint64pow10)) }
theorem aHw (os:Os) (args:Array Value):laidMet Tryz.prog aAk ((aJy os).forCall (fun _ _=>0) ⟨#[],args,[]⟩).memory :=
 laidMet_of_run' 8 (by kernel_rfl) (by kernel_rfl)
end Go.Proofs.YtceknlcbfomdhaaGreatDoor
