/- Texts of this claim, one behind the other (merged by a program of mine). -/
import Derived.Test.YtbliejnpjpnahaaGreatDoorGCz14
set_option linter.unusedSimpArgs false
set_option linter.unusedVariables false
namespace Go.Proofs.YtbliejnpjpnahaaGreatDoor
set_option linter.unusedVariables false
theorem bFi {xs ys:List Int} {step:Int→Option (Int ⊕ (Unit ⊕ Bool))} (h:xs.length=ys.length) (hl:xs.length≤9223372036854775807) :
  ((bQ (S:=Int) (X:=Unit ⊕ Bool) (fun s=>(if s<(xs.length:Int) then ((atI xs s).bind fun u=>((atI ys s).bind fun v=>(if u≠v then some (.inr (.inr false)) else some (.inl (w64 (s+1)))))) else some (.inr (.inl ())))) 0:Option (Unit ⊕ Bool)).bind fun x=>orE x fun _=>some true)=some (decide (xs=ys)):=by
 rw [wH (xs:=xs) (e := .inr false) (fun i u=>decide (some u=ys[i]?)) hl fun i hi => ?_,Option.bind_some]
 ·have e:aLy xs (fun i u=>decide (some u=ys[i]?))=decide (xs=ys):=by
   rw [Bool.eq_iff_iff,aDj,decide_eq_true_eq]
   constructor
   ·intro q
    refine List.ext_getElem? fun i => ?_
    by_cases hi:i<xs.length
    ·rw [List.getElem?_eq_getElem hi]
     exact of_decide_eq_true (q i hi)
    ·rw [List.getElem?_eq_none (by omega),List.getElem?_eq_none (by omega)]
   ·rintro rfl i hi
    rw [List.getElem?_eq_getElem hi]
    exact decide_eq_true rfl
  rw [e]
  cases decide (xs=ys) <;> rfl
 ·have hj:i<ys.length:=by omega
  rw [eL hi,Option.bind_some,eL hj,Option.bind_some,List.getElem?_eq_getElem hj]
  by_cases q:xs[i]=ys[i] <;> simp [q]
theorem aXx {xs ys:List Int} (h : ¬ xs.length=ys.length):decide (xs=ys)=false:=decide_eq_false fun e=>h (e ▸ rfl)
theorem bDi {xs ys:List Int} (hl:xs.length≤9223372036854775807):dZ xs ys=some (decide (xs=ys)):=by
 unfold dZ
 by_cases h:xs.length=ys.length
 ·rw [if_neg (by omega)]
  exact bFi (step:=fun _=>none) h hl
 ·rw [if_pos (by omega),aXx h]
theorem bDz {xs ys:List Int} (hl:xs.length≤9223372036854775807):rZ xs ys=some (decide (xs=ys)):=by
 unfold rZ
 by_cases h:xs.length=ys.length
 ·rw [if_neg (by omega)]
  exact bFi (step:=fun _=>none) h hl
 ·rw [if_pos (by omega),aXx h]
def aY4 (y:Int) (b:Bool) (r:aL):Bool:=if y % r.Every=r.Rest then r.Leap else b
def iM (c:aC) (y:Int):Bool:=c.Rules.foldl (aY4 y) false
theorem fC {c:aC} (h:sQ c=true):tZ c.Name=true∧(1≤c.Months.length∧c.Months.length≤20)∧c.Rules.length≤6∧(1≤c.Week∧c.Week≤12)∧aKn c.Months=true∧c.Rules.all rX=true∧cyc c.Rules≤2000:=by
 unfold sQ at h
 simp only [Bool.and_eq_true,decide_eq_true_eq] at h
 exact ⟨h.1,h.2.1,h.2.2.1,of_decide_eq_true h.2.2.2.1,h.2.2.2.2.1,h.2.2.2.2.2.1,h.2.2.2.2.2.2⟩
theorem aKg {c:aC} (h:sQ c=true) {y:Int} (y0:0≤y) {step:Bool × Int→Option ((Bool × Int) ⊕ Bool)} (hS : ∀ (i:Nat) (hi:i<c.Rules.length) b,c.Rules[i].Every≠0→step (b,(i:Int))=some (.inl ((if y.tmod c.Rules[i].Every=c.Rules[i].Rest then c.Rules[i].Leap else b),w64 ((i:Int)+1)))) (hE : ∀ b,step (b,(c.Rules.length:Int))=some (.inr b)) :
  bQ step (false,0)=some (iM c y):=by
 obtain ⟨_,_,hr,_,_,hb,_⟩:=fC h
 have:=aAu (xs:=c.Rules) (step:=step) (fun i b=>(b,i)) (fun _ r b=>some (.inl (aY4 y b r))) id (by omega) (fun i hi b=>by
  have hq:=xK.1 ((List.all_eq_true.1 hb) _ (List.getElem_mem hi))
  rw [hS i hi b (by omega),aQ (by omega) (by omega),Int.tmod_eq_emod_of_nonneg y0];rfl) (fun b=>hE b) false
 rw [this,rD (aY4 y) (fun _ _ _=>rfl)];rfl
theorem mD {c:aC} (h:sQ c=true) {y:Int} (y0:0≤y):gJ c y=some (iM c y):=by
 unfold gJ
 rw [aKg h y0 (fun i hi b he=>by
  have hi':(i:Int)<c.Rules.length:=by omega
  simp only [if_pos hi',eL hi,Option.bind_some,eA he]
  split <;> rfl) (fun b=>by simp)];rfl
theorem aLa {c:aC} (h:sQ c=true) {y:Int} (y0:0≤y):sF c y=some (iM c y):=by
 unfold sF
 rw [aKg h y0 (fun i hi b he=>by
  have hi':(i:Int)<c.Rules.length:=by omega
  simp only [if_pos hi',eL hi,Option.bind_some,eA he]
  split <;> rfl) (fun b=>by simp)];rfl
def aE8 (c:aC) (k:Int):aY:=c.Months.getD k.toNat ⟨⟨#[]⟩,0,0⟩
def uI (c:aC) (leap:Bool) (k:Int):Int:=if leap=true then (aE8 c k).Leap else (aE8 c k).Days
theorem xZ {c:aC} {k:Int} (h0:0≤k) (h1:k<c.Months.length):atI c.Months k=some (aE8 c k)∧aE8 c k ∈ c.Months:=by
 obtain ⟨e,he,hm,hg⟩:=qM h0 h1
 have:aE8 c k=e:=by unfold aE8;rw [List.getD_eq_getElem?_getD,hg];rfl
 rw [this];exact ⟨he,hm⟩
theorem aO1 {c:aC} (h:sQ c=true) {m:aY} (hm:m ∈ c.Months):(1≤m.Days∧m.Days≤60)∧1≤m.Leap∧m.Leap≤60:=by
 obtain ⟨_,_,_,_,hb,_⟩:=fC h
 obtain ⟨i,hi,rfl⟩:=List.getElem_of_mem hm
 have:=aDj.1 hb i hi
 unfold aWa btw at this
 simp only [Bool.and_eq_true,decide_eq_true_eq] at this
 exact ⟨this.1.2.1,this.1.2.2⟩
theorem oQ {c:aC} (h:sQ c=true) (l:Bool) {k:Int} (h0:0≤k) (h1:k<c.Months.length):1≤uI c l k∧uI c l k≤60:=by
 have:=aO1 h (xZ h0 h1).2
 unfold uI
 cases l <;> simp <;> omega
theorem jN {c:aC} (h:sQ c=true) (l:Bool) {m:Int} (h0:1≤m) (h1:m≤c.Months.length):dH c l m=some (uI c l (m-1)):=by
 have hc:=(fC h).2.1.2
 unfold dH uI
 rw [aQ (by omega) (by omega),(xZ (c:=c) (k:=m-1) (by omega) (by omega)).1]
 cases l <;> rfl
theorem aK9 {c:aC} (h:sQ c=true) {y:Int} (y0:0≤y) {k:Int} (h0:0≤k) (h1:k<c.Months.length):sE c y k=some (uI c (iM c y) k):=by
 unfold sE uI
 rw [aLa h y0,Option.bind_some,(xZ h0 h1).1]
 cases iM c y <;> rfl
def qB (c:aC) (d:aS):Bool:=btw d.Year 0 9999 && (btw d.Month 1 c.Months.length && btw d.Day 1 (uI c (iM c d.Year) (d.Month-1)))
theorem tE {c:aC} (hm:c.Months.length≤9223372036854775807) (hr:c.Rules.length≤9223372036854775807) (d:aS):jG c d=some (sQ c && qB c d):=by
 unfold jG qB
 rw [iC hm hr,Option.bind_some]
 cases h:sQ c
 ·rfl
 ·unfold gL mE
  simp only [cN,Option.bind_some]
  cases hy:btw d.Year 0 9999
  ·rfl
  ·cases hmo:btw d.Month 1 (c.Months.length:Int)
   ·rfl
   ·have hy:=of_decide_eq_true hy
    have hmo:=of_decide_eq_true hmo
    simp only [if_true]
    rw [mD h hy.1,Option.bind_some,jN h _ hmo.1 hmo.2];rfl
theorem aRa {c:aC} (h:sQ c=true) (d:aS):xN c d=some (qB c d):=by
 unfold xN qB vS
 simp only [eY,Option.bind_some]
 cases hy:btw d.Year 0 9999
 ·rfl
 ·cases hmo:btw d.Month 1 (c.Months.length:Int)
  ·rfl
  ·have hy:=of_decide_eq_true hy
   have hmo:=of_decide_eq_true hmo
   have hc:=(fC h).2.1.2
   simp only [Bool.not_true,Bool.false_eq_true,if_false,Option.bind_some]
   rw [aQ (by omega) (by omega),aK9 h hy.1 (by omega) (by omega)];rfl
theorem nB {xs:List Int} (h:aFx xs=true):(∀ v ∈ xs,1≤v∧v≤60)∧1≤xs.length∧xs.length≤260:=by
 unfold aFx at h
 simp only [Bool.and_eq_true,decide_eq_true_eq,List.all_eq_true] at h
 exact ⟨fun v hv=>of_decide_eq_true (h.1 v hv),h.2⟩
def aDk (c:aC) (cam:List Int):Int:=if (sQ c && aFx cam)=true then (if (cam.length:Int) % c.Months.length=0 then 0 else 6) else 1
theorem rA {c:aC} {cam:List Int} (h:aDk c cam=0):sQ c=true∧aFx cam=true∧(cam.length:Int) % c.Months.length=0∧1≤(cam.length:Int) / c.Months.length∧(cam.length:Int) / c.Months.length≤260:=by
 unfold aDk at h
 split at h
 ·rename_i h1
  rw [Bool.and_eq_true] at h1
  split at h
  ·rename_i h2
   have a:=(fC h1.1).2.1
   have b:=(nB h1.2).2
   have e:=Int.emod_add_mul_ediv (cam.length:Int) c.Months.length
   have q:=yU (a:=(cam.length:Int)) (g:=(c.Months.length:Int)) (by omega) (by omega)
   refine ⟨h1.1,h1.2,h2,?_,by omega⟩
   rcases Int.lt_or_le 0 ((cam.length:Int) / c.Months.length) with h | h
   ·omega
   ·have:(cam.length:Int) / c.Months.length=0:=by omega
    rw [this,h2] at e
    omega
  ·cases h
 ·cases h
theorem sS {c:aC} {cam:List Int} (h1:1≤c.Months.length) (h2:cam.length≤9223372036854775807):iD c cam=some (if (cam.length:Int) % c.Months.length=0 then (cam.length:Int) / c.Months.length else 0):=by
 unfold iD
 have q:=yU (a:=(cam.length:Int)) (g:=(c.Months.length:Int)) (by omega) (by omega)
 rw [eA (by omega),Int.tmod_eq_emod_of_nonneg (by omega),eA (by omega),Int.tdiv_eq_ediv_of_nonneg (by omega),aQ (by omega) (by omega)]
 by_cases h:(cam.length:Int) % c.Months.length=0
 ·rw [if_neg (by simp [h]),if_pos h]
 ·rw [if_pos h,if_neg h]
theorem aAo {c:aC} {cam:List Int} (hm:c.Months.length≤9223372036854775807) (hr:c.Rules.length≤9223372036854775807) (hl:cam.length≤9223372036854775807):mM c cam=some (aDk c cam):=by
 unfold mM
 simp only [iC hm hr,uX hl,Option.bind_some,itO]
 cases h1:sQ c
 ·unfold aDk;rw [h1];rfl
 ·cases h2:aFx cam
  ·unfold aDk;rw [h1,h2];rfl
  ·have a:=(fC h1).2.1
   simp only [Bool.not_true,Bool.or_self,Bool.false_eq_true,if_false]
   rw [sS a.1 hl,Option.bind_some]
   unfold aDk
   rw [h1,h2]
   by_cases h:(cam.length:Int) % c.Months.length=0
   ·have h0:aDk c cam=0:=by unfold aDk;rw [h1,h2,if_pos (show (true && true)=true from rfl),if_pos h]
    have:=rA h0
    rw [if_pos h,if_neg (by omega),if_pos (show (true && true)=true from rfl),if_pos h]
   ·rw [if_neg h,if_pos rfl,if_pos (show (true && true)=true from rfl),if_neg h]
theorem aFl {c:aC} {cam:List Int} (hm:c.Months.length≤9223372036854775807) (hr:c.Rules.length≤9223372036854775807) (hl:cam.length≤9223372036854775807):oT c cam=some (aDk c cam):=by
 unfold oT aDk
 simp only [aG8 hm hr,aB4 hl,Option.bind_some,itO]
 cases h1:sQ c
 ·rfl
 ·cases h2:aFx cam
  ·rfl
  ·have a:=(fC h1).2.1
   simp only [Bool.not_true,Bool.or_self,Bool.false_eq_true,if_false,Bool.and_self,if_true]
   rw [eA (by omega),Int.tmod_eq_emod_of_nonneg (by omega)]
   by_cases h:(cam.length:Int) % c.Months.length=0
   ·rw [if_neg (by simp [h]),if_pos h]
   ·rw [if_pos h,if_neg h]
def aQt (xs:List Int):Int:=xs.foldl max 0
def uG (t:Int) (m:aY):Int:=max (max t m.Days) m.Leap
def aBb (c:aC) (cam:List Int):Int:=c.Months.foldl uG (aQt cam)
theorem wQ {xs:List Int} : ∀ {a:Int},a≤xs.foldl max a∧(∀ v ∈ xs,v≤xs.foldl max a)∧(xs.foldl max a=a∨xs.foldl max a ∈ xs):=by
 induction xs with
 | nil=>intro a;exact ⟨Int.le_refl _,fun v hv=>by simp at hv, .inl rfl⟩
 | cons x xs ih =>
  intro a
  obtain ⟨h1,h2,h3⟩:=ih (a:=max a x)
  rw [List.foldl_cons]
  refine ⟨by omega,fun v hv => ?_,?_⟩
  ·rcases List.mem_cons.1 hv with rfl | hv
   ·omega
   ·exact h2 v hv
  ·rcases h3 with h3 | h3
   ·rw [h3]
    rcases Int.le_total a x with h | h
    ·rw [Int.max_eq_right h];exact .inr (List.mem_cons_self ..)
    ·rw [Int.max_eq_left h];exact .inl rfl
   ·exact .inr (List.mem_cons_of_mem _ h3)
theorem aZa {xs:List Int} {t:Int} (h0:0≤t):decide (t<aQt xs) = !(xs.all fun v=>decide (v≤t)):=by
 obtain ⟨h1,h2,h3⟩:=wQ (xs:=xs) (a:=0)
 rw [Bool.eq_iff_iff,decide_eq_true_eq,Bool.not_eq_true', ← Bool.not_eq_true,List.all_eq_true]
 unfold aQt
 constructor
 ·intro h q
  rcases h3 with h3 | h3
  ·omega
  ·have:=of_decide_eq_true (q _ h3);omega
 ·intro q
  refine Classical.byContradiction fun hn=>q fun v hv=>decide_eq_true ?_
  have:=h2 v hv
  omega
theorem aOt {xs:List Int} (h1:1≤xs.length) (h2:xs.length≤9223372036854775807) (h3 : ∀ v ∈ xs,0≤v):dM xs=some (aQt xs):=by
 unfold dM aQt
 rw [if_neg (by omega),Option.bind_some]
 cases xs with
 | nil=>simp at h1
 | cons x xs =>
  have e0:atI (x :: xs) 0=some x:=by rw [show (0:Int)=((0:Nat):Int) from rfl,aL2];rfl
  have hx:=h3 x (List.mem_cons_self ..)
  have hq:bQ (S:=Int × Int) (X:=Int) (fun s5=>(if s5.2<((x :: xs).length:Int) then ((atI (x :: xs) s5.2).bind fun v6=>some (.inl (max s5.1 v6,w64 (s5.2+1)))) else some (.inr s5.1))) (x,1)=some (xs.foldl max x):=by
   have:=aAu (xs:=xs) (step:=fun (s5:Int × Int)=>(if s5.2<((x :: xs).length:Int) then ((atI (x :: xs) s5.2).bind fun v6=>some (.inl (max s5.1 v6,w64 (s5.2+1)))) else some (.inr s5.1))) (fun i (s:Int)=>(s,i+1)) (fun _ v s=>some (.inl (max s v))) id (by simp at h2;omega) (fun i hi s=>by
    simp only [List.length_cons] at h2
    have hi':(i:Int)+1<((x :: xs).length:Int):=by simp;omega
    have ea:atI (x :: xs) ((i:Int)+1)=some xs[i]:=by
     rw [show (i:Int)+1=((i+1:Nat):Int) by omega,aL2,List.getElem?_cons_succ,List.getElem?_eq_getElem hi]
    simp only [if_pos hi',ea,Option.bind_some,aQ (x:=(i:Int)+1+1) (by omega) (by omega)];rfl) (fun s=>by simp) x
   rw [rD max (fun _ _ _=>rfl)] at this
   exact this
  rw [e0,Option.bind_some,hq,List.foldl_cons,Int.max_eq_right hx];rfl
theorem aFi (a b:Int):jV a b=some (max a b):=by
 unfold jV
 split
 ·congr 1;omega
 ·congr 1;omega
def aC5 (c:aC) (cam:List Int) (d:aS) (wd:Int):aD × Int :=
 if aDk c cam=0 then (if (qB c d && btw wd 1 c.Week)=true then (⟨cam,c.Months.length,aBb c cam,w64 ((w64 ((w64 ((d.Year.tmod ((cam.length:Int) / c.Months.length))*(c.Months.length:Int)))+d.Month))-1),d.Day,c.Week,wd⟩,0) else (⟨[],0,0,0,0,0,0⟩,2)) else (⟨[],0,0,0,0,0,0⟩,aDk c cam)
theorem aH8 {xs:List Int} (hl:xs.length≤1048576):bE xs=some xs:=by
 unfold bE
 rw [eA (by simp;omega),List.nil_append]
theorem bB5 {xs:List Int} (hl:xs.length≤1048576):uC xs=some xs:=by
 unfold uC
 rw [eA (by simp;omega),List.nil_append]
theorem oL {c:aC} {cam:List Int} (hm:c.Months.length≤9223372036854775807) (hr:c.Rules.length≤9223372036854775807) (hl:cam.length≤1048576) (d:aS) (wd:Int):fY c cam d wd=some (aC5 c cam d wd):=by
 unfold fY aC5
 rw [aAo hm hr (by omega),Option.bind_some]
 by_cases h:aDk c cam=0
 ·obtain ⟨h1,h2,h3,h4,h5⟩:=rA h
  have a:=(fC h1).2.1
  have b:=nB h2
  rw [if_neg (by simp [h]),if_pos h,tE hm hr,h1]
  simp only [Option.bind_some,Bool.true_and,cN,itO]
  cases hd:qB c d
  ·rfl
  ·cases hw:btw wd 1 c.Week
   ·rfl
   ·simp only [Bool.not_true,Bool.or_self,Bool.false_eq_true,if_false,Bool.and_self,if_true]
    have hq:=aAu (xs:=c.Months) (step:=fun (s8:Int × Int)=>(if s8.2<(c.Months.length:Int) then ((atI c.Months s8.2).bind fun v9=>some (.inl (max (max s8.1 v9.Days) v9.Leap,w64 (s8.2+1)))) else some (.inr s8.1))) (fun i (s:Int)=>(s,i)) (fun _ m s=>some (.inl (uG s m))) id hm (fun i hi s=>by
     have hi':(i:Int)<c.Months.length:=by omega
     simp only [if_pos hi',eL hi,Option.bind_some,aQ (x:=(i:Int)+1) (by omega) (by omega)];rfl) (fun s=>by simp) (aQt cam)
    rw [rD uG (fun _ _ _=>rfl)] at hq
    rw [aOt b.2.1 (by omega) (fun v hv=>by have:=b.1 v hv;omega),Option.bind_some,hq]
    simp only [Option.map_some,Option.bind_some,aH8 hl,sS a.1 (show cam.length≤9223372036854775807 by omega),if_pos h3]
    rw [eA (by omega)];rfl
 ·rw [if_pos h,if_neg h]
theorem aB2 {c:aC} {cam:List Int} (hm:c.Months.length≤9223372036854775807) (hr:c.Rules.length≤9223372036854775807) (hl:cam.length≤1048576) (d:aS) (wd:Int):jO c cam d wd=some (aC5 c cam d wd):=by
 unfold jO aC5
 rw [aFl hm hr (by omega),Option.bind_some]
 by_cases h:aDk c cam=0
 ·obtain ⟨h1,h2,h3,h4,h5⟩:=rA h
  have a:=(fC h1).2.1
  rw [if_neg (by simp [h]),if_pos h,aRa h1]
  simp only [Option.bind_some,eY,itO]
  cases hd:qB c d
  ·rfl
  ·cases hw:btw wd 1 c.Week
   ·rfl
   ·simp only [Bool.not_true,Bool.or_self,Bool.false_eq_true,if_false,Bool.and_self,if_true]
    have hk:w64 ((cam.length:Int).tdiv (c.Months.length:Int))=(cam.length:Int) / c.Months.length:=by rw [Int.tdiv_eq_ediv_of_nonneg (by omega),aQ (by omega) (by omega)]
    have hq1:=aAu (xs:=cam) (step:=fun (s11:Int × Int)=>(if s11.1<(cam.length:Int) then ((atI cam s11.1).bind fun v12=>((jV s11.2 v12).bind fun v13=>some (.inl (w64 (s11.1+1),v13)))) else some (.inr s11.2))) (fun i (s:Int)=>(i,s)) (fun _ v s=>some (.inl (max s v))) id (by omega) (fun i hi s=>by
     have hi':(i:Int)<cam.length:=by omega
     simp only [if_pos hi',eL hi,Option.bind_some,aFi,aQ (x:=(i:Int)+1) (by omega) (by omega)];rfl) (fun s=>by simp) 0
    rw [rD max (fun _ _ _=>rfl)] at hq1
    have hq2:=aAu (xs:=c.Months) (step:=fun (s20:Int × Int)=>(if s20.1<(c.Months.length:Int) then ((atI c.Months s20.1).bind fun v21=>((atI c.Months s20.1).bind fun v22=>((jV v21.Days v22.Leap).bind fun v23=>((jV s20.2 v23).bind fun v24=>some (.inl (w64 (s20.1+1),v24)))))) else some (.inr s20.2))) (fun i (s:Int)=>(i,s)) (fun _ m s=>some (.inl (uG s m))) id hm (fun i hi s=>by
     have hi':(i:Int)<c.Months.length:=by omega
     have e:max s (max c.Months[i].Days c.Months[i].Leap)=uG s c.Months[i]:=by unfold uG;omega
     simp only [if_pos hi',eL hi,Option.bind_some,aFi,e,aQ (x:=(i:Int)+1) (by omega) (by omega)];rfl) (fun s=>by simp) (aQt cam)
    rw [rD uG (fun _ _ _=>rfl)] at hq2
    rw [bB5 hl,Option.bind_some,hk,eA (by omega),eA (by omega),hq1]
    simp only [Option.map_some,Option.bind_some]
    have e0:Sum.elim id id (Sum.inl (cam.foldl max 0):Int ⊕ Int)=aQt cam:=rfl
    rw [e0,hq2];rfl
 ·rw [if_pos h,if_neg h]
def aDv (p:aD):Bool:=aFx p.Cam && (decide (1≤p.Months) && (decide ((p.Cam.length:Int) % p.Months=0) && (decide (p.Teeth≤60) && ((p.Cam.all fun v=>decide (v≤p.Teeth)) && (decide (0≤p.At∧p.At<p.Cam.length) && (btw p.Day 1 p.Teeth && (btw p.Week 1 12 && btw p.Weekday 1 p.Week)))))))
theorem aTp {p:aD} (h:aFx p.Cam=true) (t0:p.Teeth<1):(p.Cam.all fun v=>decide (v≤p.Teeth))=false:=by
 rw [← Bool.not_eq_true,List.all_eq_true]
 intro q
 obtain ⟨h1,h2,h3⟩:=nB h
 cases hc:p.Cam with
 | nil=>rw [hc] at h2;simp at h2
 | cons x xs =>
  have hx:x ∈ p.Cam:=by rw [hc];exact List.mem_cons_self ..
  have:=of_decide_eq_true (q x hx)
  have:=h1 x hx
  omega
theorem mB {p:aD} (hl:p.Cam.length≤9223372036854775807):eT p=some (aDv p):=by
 unfold eT aDv
 rw [uX hl,Option.bind_some]
 cases h1:aFx p.Cam
 ·rfl
 ·have b:=nB h1
  simp only [Bool.not_true,Bool.false_eq_true,if_false,Bool.true_and]
  by_cases h2:1≤p.Months
  ·rw [if_neg (by omega),eA (by omega),Option.bind_some,Int.tmod_eq_emod_of_nonneg (by omega),decide_eq_true h2,Bool.true_and]
   by_cases h3:(p.Cam.length:Int) % p.Months=0
   ·rw [decide_eq_false (by simp [h3]),if_neg (by decide),decide_eq_true h3,Bool.true_and]
    by_cases h4:p.Teeth≤60
    ·rw [if_neg (by omega),decide_eq_true h4,Bool.true_and,aOt b.2.1 hl (fun v hv=>by have:=b.1 v hv;omega),Option.bind_some,Option.bind_some]
     by_cases h5:p.Teeth<1
     ·have hx:p.Teeth<aQt p.Cam:=by
       obtain ⟨q1,q2,q3⟩:=wQ (xs:=p.Cam) (a:=0)
       cases hc:p.Cam with
       | nil=>rw [hc] at b;simp at b
       | cons x xs =>
        have hx:x ∈ p.Cam:=by rw [hc];exact List.mem_cons_self ..
        have:=b.1 x hx
        have:=q2 x hx
        rw [← hc]
        unfold aQt;omega
      rw [decide_eq_true hx,if_pos rfl,aTp h1 h5];rfl
     ·rw [aZa (by omega)]
      cases (p.Cam.all fun v=>decide (v≤p.Teeth))
      ·rfl
      ·simp only [Bool.not_true,Bool.false_eq_true,if_false,cN,Option.bind_some,itA,uM hl,Bool.true_and]
    ·rw [if_pos (by omega),Option.bind_some,if_pos rfl,decide_eq_false h4];rfl
   ·rw [decide_eq_true h3,if_pos rfl,decide_eq_false h3];rfl
  ·rw [if_pos (by omega),Option.bind_some,if_pos rfl,decide_eq_false h2];rfl
theorem aRb {p:aD} (hl:p.Cam.length≤9223372036854775807):xO p=some (aDv p):=by
 unfold xO aDv
 rw [aB4 hl,Option.bind_some]
 cases h1:aFx p.Cam
 ·rfl
 ·simp only [Bool.not_true,Bool.false_eq_true,if_false,Bool.true_and]
  by_cases h2:1≤p.Months
  ·rw [if_neg (by omega),eA (by omega),Int.tmod_eq_emod_of_nonneg (by omega),decide_eq_true h2,Bool.true_and]
   by_cases h3:(p.Cam.length:Int) % p.Months=0
   ·rw [if_neg (by simp [h3]),eY,decide_eq_true h3,Bool.true_and,Option.bind_some,Option.bind_some]
    by_cases h4:p.Teeth≤60
    ·by_cases h5:p.Teeth<1
     ·have e:btw p.Teeth 1 60=false:=decide_eq_false (by omega)
      rw [e,aTp h1 h5,decide_eq_true h4];rfl
     ·have e:btw p.Teeth 1 60=true:=decide_eq_true (by omega)
      rw [e,decide_eq_true h4,Bool.not_true,if_neg (by decide),Bool.true_and,
       wH (xs:=p.Cam) (e := .inr false) (fun _ v=>decide (v≤p.Teeth)) hl fun i hi => ?_,lW,Option.bind_some]
      ·cases (p.Cam.all fun v=>decide (v≤p.Teeth))
       ·rfl
       ·simp only [if_true,orE,eY,Option.bind_some,itA,uM hl,Bool.true_and]
      ·rw [eL hi,Option.bind_some]
       by_cases q:p.Cam[i]≤p.Teeth
       ·rw [if_neg (by omega),decide_eq_true q];rfl
       ·rw [if_pos (by omega),decide_eq_false q];rfl
    ·have e:btw p.Teeth 1 60=false:=decide_eq_false (by omega)
     rw [e,decide_eq_false h4];rfl
   ·rw [if_pos h3,decide_eq_false h3];rfl
  ·rw [if_pos (by omega),decide_eq_false h2];rfl
end Go.Proofs.YtbliejnpjpnahaaGreatDoor
namespace Go.Proofs.YtbliejnpjpnahaaGreatDoor
set_option linter.unusedVariables false
def aB8 (g:Nat→Int):Nat→Int
 | 0=>0
 | n+1=>aB8 g n+g n
theorem aHs (g:Nat→Int) : ∀ (n:Nat) (a:Int),(List.range n).foldl (fun s k=>s+g k) a=a+aB8 g n
 | 0,a=>by simp [aB8]
 | n+1,a=>by rw [List.range_succ,List.foldl_append,aHs g n];simp only [List.foldl_cons,List.foldl_nil,aB8];omega
theorem aN2 {g:Nat→Int} {lo hi:Int} {n:Nat} (h : ∀ k,k<n→lo≤g k∧g k≤hi):lo*n≤aB8 g n∧aB8 g n≤hi*n:=by
 induction n with
 | zero=>simp [aB8]
 | succ n ih =>
  have h1:=ih fun k hk=>h k (by omega)
  have h2:=h n (by omega)
  have e1:lo*((n+1:Nat):Int)=lo*n+lo:=by push_cast;rw [Int.mul_add];omega
  have e2:hi*((n+1:Nat):Int)=hi*n+hi:=by push_cast;rw [Int.mul_add];omega
  rw [e1,e2]
  unfold aB8
  omega
theorem aPr (g:Nat→Int) (m:Nat) : ∀ n,aB8 g (m+n)=aB8 g m+aB8 (fun k=>g (m+k)) n
 | 0=>by simp [aB8]
 | n+1=>by
  show aB8 g (m+n)+g (m+n)=_
  rw [aPr g m n]
  simp only [aB8];omega
theorem aLj {g:Nat→Int} (h : ∀ k,0≤g k) {m n:Nat} (hm:m≤n):aB8 g m≤aB8 g n:=by
 obtain ⟨k,rfl⟩ : ∃ k,n=m+k:=⟨n-m,by omega⟩
 rw [aPr]
 have:=(aN2 (g:=fun k=>g (m+k)) (lo:=0) (hi:=0+1) (n:=0) fun k hk=>by omega)
 have h2 : ∀ j,0≤aB8 (fun k=>g (m+k)) j:=fun j=>by
  induction j with
  | zero=>simp [aB8]
  | succ j ih=>have:=h (m+j);simp only [aB8];omega
 have:=h2 k
 omega
def aPq (c:aC) (l:Bool):Int:=aB8 (fun k=>uI c l (k:Int)) c.Months.length
def aGj (c:aC) (y:Nat):Int:=aPq c (iM c y)
def bef (c:aC) (y:Nat):Int:=aB8 (aGj c) y
theorem aY5 {c:aC} (h:sQ c=true) (l:Bool) (k:Nat):0≤uI c l k:=by
 by_cases hk:k<c.Months.length
 ·have:=oQ h l (k:=k) (by omega) (by omega);omega
 ·unfold uI aE8
  rw [List.getD_eq_getElem?_getD,List.getElem?_eq_none (by simpa using hk)]
  cases l <;> simp
theorem aZ9 {c:aC} (h:sQ c=true) (l:Bool):1≤aPq c l∧aPq c l≤1200:=by
 have hc:=(fC h).2.1
 have:=aN2 (g:=fun k=>uI c l (k:Int)) (lo:=1) (hi:=60) (n:=c.Months.length) fun k hk=>oQ h l (by omega) (by omega)
 unfold aPq
 omega
theorem zK {c:aC} (h:sQ c=true) (y:Nat):1≤aGj c y∧aGj c y≤1200:=aZ9 h _
theorem aEb {c:aC} (h:sQ c=true) (y:Nat):(y:Int)≤bef c y∧bef c y≤1200*y:=by
 have:=aN2 (g:=aGj c) (lo:=1) (hi:=1200) (n:=y) fun k _=>zK h k
 unfold bef
 omega
theorem aOf {c:aC} (h:sQ c=true) {m n:Nat} (hm:m≤n):bef c m≤bef c n:=aLj (fun k=>by have:=(zK h k).1;omega) hm
theorem aHn (c:aC) (y:Nat):bef c (y+1)=bef c y+aGj c y:=rfl
theorem vX {c:aC} (h:sQ c=true):iV c=some (aPq c false,aPq c true):=by
 have hc:=(fC h).2.1
 unfold iV
 rw [aSg (fun i (s:Int × Int)=>(s.1,s.2,i)) 0 c.Months.length (fun k s=>(s.1+uI c false k,s.2+uI c true k)) id (fun i s=>0≤s.1∧s.1≤60*i∧0≤s.2∧s.2≤60*i) (by omega) (fun i s hi hs => ?_) (fun i s hi hs => ?_) (fun s hs=>by simp) (0,0) ⟨by simp,by simp,by simp,by simp⟩]
 ·have : ∀ (n:Nat) (a b:Int),(List.range n).foldl (fun (s:Int × Int) (k:Nat)=>(s.1+uI c false (k:Int),s.2+uI c true (k:Int))) (a,b)=(a+aB8 (fun k=>uI c false (k:Int)) n,b+aB8 (fun k=>uI c true (k:Int)) n):=by
   intro n
   induction n with
   | zero=>intro a b;simp [aB8]
   | succ n ih =>
    intro a b
    rw [List.range_succ,List.foldl_append,ih]
    simp only [List.foldl_cons,List.foldl_nil,aB8]
    congr 1 <;> omega
  rw [this]
  simp [aPq]
 ·have hi':(i:Int)<c.Months.length:=by omega
  have hm:=xZ (c:=c) (k:=i) (by omega) hi'
  have hq:=aO1 h hm.2
  have e1:(aE8 c (i:Int)).Days=uI c false i:=rfl
  have e2:(aE8 c (i:Int)).Leap=uI c true i:=rfl
  simp only [Int.zero_add,if_pos hi',hm.1,Option.bind_some]
  rw [aQ (by omega) (by omega),aQ (by omega) (by omega),aQ (by omega) (by omega),e1,e2]
  congr 3
 ·have hm:=xZ (c:=c) (k:=i) (by omega) (by omega)
  have hq:=aO1 h hm.2
  have e1:(aE8 c (i:Int)).Days=uI c false i:=rfl
  have e2:(aE8 c (i:Int)).Leap=uI c true i:=rfl
  dsimp only
  rw [← e1, ← e2]
  omega
theorem xB {c:aC} (h:sQ c=true) {y:Int} (y0:0≤y) (y1:y≤10000):jT c y=some (bef c y.toNat):=by
 unfold jT
 rw [vX h,Option.bind_some]
 rw [aSg (fun i (s:Int)=>(s,i)) 0 y.toNat (fun k s=>s+aGj c k) id (fun i s=>0≤s∧s≤1200*i) (by omega) (fun i s hi hs => ?_) (fun i s hi hs => ?_) (fun s hs => ?_) 0 ⟨by simp,by simp⟩]
 ·rw [aHs];simp [bef]
 ·have hi':(i:Int)<y:=by omega
  have hq:=zK h i
  have e:(if iM c (i:Int)=true then some (w64 (s+aPq c true)) else some (w64 (s+aPq c false)))=some (s+aGj c i):=by
   unfold aGj at hq ⊢
   cases hl:iM c (i:Int)
   ·rw [hl] at hq;rw [if_neg (by decide),aQ (by omega) (by omega)]
   ·rw [hl] at hq;rw [if_pos rfl,aQ (by omega) (by omega)]
  simp only [Int.zero_add,if_pos hi',mD h (y:=(i:Int)) (by omega),Option.bind_some,e]
  rw [aQ (by omega) (by omega)]
  congr 3
 ·have hq:=zK h i
  omega
 ·have : ¬ ((0:Int)+(y.toNat:Int)<y):=by omega
  simp only [if_neg this];rfl
end Go.Proofs.YtbliejnpjpnahaaGreatDoor
namespace Go.Proofs.YtbliejnpjpnahaaGreatDoor
set_option linter.unusedVariables false
theorem aMy {a b A B:Int} (h1 : -A≤a) (h2:a≤A) (h3 : -B≤b) (h4:b≤B) : -(A*B)≤a*b∧a*b≤A*B:=by
 have h:(a*b).natAbs≤(A*B).natAbs:=by
  rw [Int.natAbs_mul,Int.natAbs_mul]
  exact Nat.mul_le_mul (by omega) (by omega)
 have hp:0≤A*B:=Int.mul_nonneg (by omega) (by omega)
 generalize a*b=x at *
 generalize A*B=y at *
 omega
theorem aMx {n d:Int} (hd:d≠0) (h:(mkR n d).2=true):aFz (mkR n d).1=true∧((mkR n d).1.Num=0 ↔ n=0):=by
 unfold mkR at h ⊢
 split at h
 ·cases h
 ·rename_i hc
  rw [if_neg hc]
  have hg:0<Int.gcd n d:=aBn hd
  have ea:qY n / (Int.gcd n d:Int)=((n.natAbs / Int.gcd n d:Nat):Int):=rfl
  have eb:qY d / (Int.gcd n d:Int)=((d.natAbs / Int.gcd n d:Nat):Int):=rfl
  have hco:Nat.Coprime (n.natAbs / Int.gcd n d) (d.natAbs / Int.gcd n d):=Nat.coprime_div_gcd_div_gcd hg
  have hb0:0<d.natAbs / Int.gcd n d:=Nat.div_pos (Nat.le_of_dvd (by omega) (Nat.gcd_dvd_right ..)) hg
  have ha0:n.natAbs / Int.gcd n d=0 ↔ n=0:=by
   constructor
   ·intro h0
    have:=Nat.eq_mul_of_div_eq_right (Nat.gcd_dvd_left n.natAbs d.natAbs) h0
    omega
   ·rintro rfl;simp
  rw [ea,eb] at hc ⊢
  generalize n.natAbs / Int.gcd n d=a at *
  generalize d.natAbs / Int.gcd n d=b at *
  refine ⟨aDw.2 ⟨⟨by show 1≤(b:Int);omega,by show (b:Int)≤_;omega⟩,?_,?_⟩,?_⟩
  ·dsimp only;split <;> omega
  ·dsimp only
   unfold Int.gcd
   split
   ·rw [Int.natAbs_neg,Int.natAbs_natCast,Int.natAbs_natCast];exact hco
   ·rw [Int.natAbs_natCast,Int.natAbs_natCast];exact hco
  ·dsimp only
   rw [← ha0]
   split <;> omega
theorem aKm {n d:Int} (hd:d≠0) (n0 : -1000000000≤n) (n1:n≤1000000000) (d0 : -1000000000≤d) (d1:d≤1000000000):(mkR n d).2=true:=by
 unfold mkR
 have hg:=aBn (n:=n) hd
 have h1:=(yU (a:=qY n) (g:=(Int.gcd n d:Int)) (wL n) (by omega)).2
 have h2:=(yU (a:=qY d) (g:=(Int.gcd n d:Int)) (wL d) (by omega)).2
 have h3:qY n≤1000000000:=by unfold qY;omega
 have h4:qY d≤1000000000:=by unfold qY;omega
 rw [if_neg (by omega)]
def aQu (a b:aB):aB × Bool:=mkR (a.Num*b.Num) (a.Den*b.Den)
theorem aCv {r:aB} (h:aFz r=true):1≤r.Den∧r.Den≤1000000000 ∧ -1000000000≤r.Num∧r.Num≤1000000000:=by
 obtain ⟨⟨d0,d1⟩,⟨n0,n1⟩,_⟩:=aDw.1 h;exact ⟨d0,d1,n0,n1⟩
theorem aTd {a b:aB} (ha:aFz a=true) (hb:aFz b=true):osI (a.Num*b.Num)∧osI (a.Den*b.Den)∧a.Den*b.Den≠0:=by
 obtain ⟨d0,d1,n0,n1⟩:=aCv ha
 obtain ⟨e0,e1,m0,m1⟩:=aCv hb
 have h1:=aMy n0 n1 m0 m1
 have h2:=aMy (a:=a.Den) (b:=b.Den) (A:=1000000000) (B:=1000000000) (by omega) d1 (by omega) e1
 have h3:a.Den*b.Den≠0:=Int.mul_ne_zero (by omega) (by omega)
 refine ⟨⟨by omega,by omega⟩,⟨by omega,by omega⟩,h3⟩
theorem aO2 {a b:aB} (ha:aFz a=true) (hb:aFz b=true) (h:(aQu a b).2=true):aFz (aQu a b).1=true∧((aQu a b).1.Num=0 ↔ a.Num*b.Num=0):=aMx (aTd ha hb).2.2 h
theorem aAk {a b:aB} (ha:aFz a=true) (hb:aFz b=true):kK a b=some (aEg (aQu a b)):=by
 unfold kK
 obtain ⟨h1,h2,h3⟩:=aTd ha hb
 simp only [nI,ha,hb,Option.bind_some,Bool.not_true,Bool.false_eq_true,if_false]
 rw [aQ h1.1 h1.2,aQ h2.1 h2.2,oY h1 h2,Option.bind_some]
 unfold aKi aQu
 rw [if_neg h3]
theorem zO {a b:aB} (ha:aFz a=true) (hb:aFz b=true):qV a b=some (aQu a b):=by
 unfold qV
 obtain ⟨h1,h2,h3⟩:=aTd ha hb
 rw [aQ h1.1 h1.2,aQ h2.1 h2.2,sX h1 h2 h3,Option.bind_some];rfl
end Go.Proofs.YtbliejnpjpnahaaGreatDoor
namespace Go.Proofs.YtbliejnpjpnahaaGreatDoor
set_option linter.unusedVariables false
def aB9 (w:aP) (a k:Int):Int:=(w.Arbors[a.toNat]?.bind fun b=>b.Wheels[k.toNat]?).getD 0
def eH (w:aP) (m:bM):dU:=⟨aB9 w m.A m.WheelA,aB9 w m.B m.WheelB⟩
theorem qT {w:aP} {a k:Int} (h:whB w a k=true):0≤a∧a<w.Arbors.length ∧ ∃ b t,atI w.Arbors a=some b∧b ∈ w.Arbors∧atI b.Wheels k=some t∧t ∈ b.Wheels∧aB9 w a k=t:=by
 unfold whB at h
 rw [Bool.and_eq_true,decide_eq_true_eq] at h
 obtain ⟨h1,h2⟩:=h
 obtain ⟨b,hb,hm,hg⟩:=qM h1.1 h1.2
 rw [hg] at h2
 have h2:=of_decide_eq_true h2
 obtain ⟨t,ht,htm,htg⟩:=qM h2.1 h2.2
 exact ⟨h1.1,h1.2,b,t,hb,hm,ht,htm,by unfold aB9;rw [hg];simp [htg]⟩
theorem pR {w:aP} {m:bM}:sO w m=true ↔ m.A≠m.B∧whB w m.A m.WheelA=true∧whB w m.B m.WheelB=true:=by
 unfold sO;simp only [Bool.and_eq_true,decide_eq_true_eq]
theorem pG {w:aP}:aBh w=true ↔ w.Arbors.length≤16∧w.Meshes.length≤24∧(∀ (i:Nat) (hi:i<w.Arbors.length),aL1 w.Arbors[i]=true∧((w.Arbors.take i).any fun b=>decide (b.Name=w.Arbors[i].Name))=false) ∧ ∀ (i:Nat) (hi:i<w.Meshes.length),sO w w.Meshes[i]=true∧((w.Meshes.take i).any fun n=>sH w.Meshes[i] n)=false:=by
 unfold aBh
 simp only [Bool.and_eq_true,decide_eq_true_eq,aDj,Bool.not_eq_true']
theorem nX {w:aP} (h:aBh w=true) : ∀ m ∈ w.Meshes,sO w m=true:=fun m hm=>by
 obtain ⟨i,hi,rfl⟩:=List.getElem_of_mem hm
 exact ((pG.1 h).2.2.2 i hi).1
theorem bAi {w:aP} (h:aBh w=true) : ∀ a ∈ w.Arbors,aL1 a=true:=fun m hm=>by
 obtain ⟨i,hi,rfl⟩:=List.getElem_of_mem hm
 exact ((pG.1 h).2.2.1 i hi).1
theorem pF {w:aP} (h:aBh w=true) {a k:Int} (hw:whB w a k=true):6≤aB9 w a k∧aB9 w a k≤240:=by
 obtain ⟨_,_,b,t,_,hb,_,ht,e⟩:=qT hw
 have hb:=bAi h b hb
 unfold aL1 at hb
 rw [Bool.and_eq_true,List.all_eq_true] at hb
 have:=hb.1 t ht
 unfold wD btw at this
 rw [e]
 exact of_decide_eq_true this
theorem aEx {w:aP} {m:bM} (h:sO w m=true):mR w m=some (eH w m):=by
 obtain ⟨_,h1,h2⟩:=pR.1 h
 obtain ⟨_,_,b,t,e1,_,e2,_,e3⟩:=qT h1
 obtain ⟨_,_,b',t',f1,_,f2,_,f3⟩:=qT h2
 unfold mR eH
 simp only [e1,e2,f1,f2,Option.bind_some,e3,f3]
theorem aC2 {w:aP} {m:bM} (h:sO w m=true):oS w m=some (eH w m):=by
 obtain ⟨_,h1,h2⟩:=pR.1 h
 obtain ⟨_,_,b,t,e1,_,e2,_,e3⟩:=qT h1
 obtain ⟨_,_,b',t',f1,_,f2,_,f3⟩:=qT h2
 unfold oS eH
 simp only [e1,e2,f1,f2,Option.bind_some,e3,f3]
def oC (v:aB) (t u:Int):aB × Bool:=aQu v (mkR (-t) u).1
theorem aA9 {t u:Int} (t0:6≤t) (t1:t≤240) (u0:6≤u) (u1:u≤240):(mkR (-t) u).2=true∧aFz (mkR (-t) u).1=true∧(mkR (-t) u).1.Num≠0:=by
 have h:=aKm (n := -t) (d:=u) (by omega) (by omega) (by omega) (by omega) (by omega)
 have h2:=aMx (n := -t) (d:=u) (by omega) h
 exact ⟨h,h2.1,fun e=>by have:=h2.2.1 e;omega⟩
def KnR (r:aB):Prop:=aFz r=true∧r.Num≠0
theorem KnR.den {r:aB} (h:KnR r):r.Den≠0:=by have:=aCv h.1;omega
theorem xY {v:aB} {t u:Int} (hv:KnR v) (t0:6≤t) (t1:t≤240) (u0:6≤u) (u1:u≤240) (h:(oC v t u).2=true):KnR (oC v t u).1:=by
 obtain ⟨_,h2,h3⟩:=aA9 t0 t1 u0 u1
 obtain ⟨h4,h5⟩:=aO2 hv.1 h2 h
 exact ⟨h4,fun e=>by
  rcases Int.mul_eq_zero.1 (h5.1 e) with h | h
  ·exact hv.2 h
  ·exact h3 h⟩
theorem zH {v:aB} {t u:Int} (hv:KnR v) (t0:6≤t) (t1:t≤240) (u0:6≤u) (u1:u≤240):mQ v t u=some (aEg (oC v t u)):=by
 unfold mQ
 obtain ⟨h1,h2,h3⟩:=aA9 t0 t1 u0 u1
 rw [aQ (by omega) (by omega),oY ⟨by omega,by omega⟩ ⟨by omega,by omega⟩,Option.bind_some]
 have e:(aKi (-t) u).1=(mkR (-t) u).1:=by unfold aKi aEg;rw [if_neg (by omega),if_pos h1]
 rw [e,aAk hv.1 h2];rfl
def SpI (w:aP) (sp:List aB):Prop:=sp.length=w.Arbors.length ∧ ∀ r ∈ sp,r=⟨0,0⟩∨KnR r
def mA (sp:List aB) (i:Int):aB:=sp.getD i.toNat ⟨0,0⟩
theorem oG {sp:List aB} {i:Int} (h0:0≤i) (h1:i<sp.length):atI sp i=some (mA sp i)∧mA sp i ∈ sp ∧ ∃ h:i.toNat<sp.length,sp[i.toNat]=mA sp i:=by
 obtain ⟨e,he,hm,hg⟩:=qM h0 h1
 have:mA sp i=e:=by unfold mA;rw [List.getD_eq_getElem?_getD,hg];rfl
 rw [this]
 exact ⟨he,hm,(List.getElem?_eq_some_iff.1 hg)⟩
def wG (w:aP) (m:bM) (s:Bool × List aB):(Bool × List aB) ⊕ Unit :=
 if decide ((mA s.2 m.A).Den=0)=decide ((mA s.2 m.B).Den=0) then .inl s
 else if (mA s.2 m.A).Den=0 then (if (oC (mA s.2 m.B) (eH w m).Driven (eH w m).Driver).2=true then .inl (true,s.2.set m.A.toNat (oC (mA s.2 m.B) (eH w m).Driven (eH w m).Driver).1) else .inr ())
 else (if (oC (mA s.2 m.A) (eH w m).Driver (eH w m).Driven).2=true then .inl (true,s.2.set m.B.toNat (oC (mA s.2 m.A) (eH w m).Driver (eH w m).Driven).1) else .inr ())
def nN (w:aP):List bM→Bool × List aB→(Bool × List aB) ⊕ Unit
 | [],s => .inl s
 | m :: ms,s=>match wG w m s with
  | .inl s'=>nN w ms s'
  | .inr u => .inr u
def wJ (sp:List aB):Nat:=sp.countP fun r=>decide (r.Den=0)
theorem SpI.den {w:aP} {sp:List aB} (h:SpI w sp) {i:Int} (h0:0≤i) (h1:i<w.Arbors.length) (hd:(mA sp i).Den≠0):KnR (mA sp i):=by
 obtain ⟨_,hm,_⟩:=oG (sp:=sp) h0 (by rw [h.1];exact h1)
 rcases h.2 _ hm with e | e
 ·rw [e] at hd;exact absurd rfl hd
 ·exact e
theorem SpI.set {w:aP} {sp:List aB} (h:SpI w sp) (i:Nat) {v:aB} (hv:KnR v):SpI w (sp.set i v):=by
 refine ⟨by rw [List.length_set];exact h.1,fun r hr => ?_⟩
 rcases List.mem_or_eq_of_mem_set hr with hr | rfl
 ·exact h.2 r hr
 ·exact .inr hv
theorem aOj {sp:List aB} {i:Int} (h0:0≤i) (h1:i<sp.length) (hd:(mA sp i).Den=0) {v:aB} (hv:v.Den≠0):wJ (sp.set i.toNat v)<wJ sp:=by
 obtain ⟨_,hm,hi,e⟩:=oG h0 h1
 unfold wJ
 have hp:0<sp.countP fun r=>decide (r.Den=0):=List.countP_pos_iff.2 ⟨_,hm,decide_eq_true hd⟩
 rw [List.countP_set hi]
 rw [e,decide_eq_true hd,decide_eq_false hv]
 simp
 omega
theorem aDy {w:aP} (hw:aBh w=true) {m:bM} (hm:sO w m=true) {s s':Bool × List aB} (h:SpI w s.2) (e:wG w m s = .inl s'):SpI w s'.2∧(s'=s∨(s'.1=true∧wJ s'.2<wJ s.2)):=by
 obtain ⟨_,j1,j2⟩:=pR.1 hm
 have a:=qT j1
 have b:=qT j2
 have ta:=pF hw j1
 have tb:=pF hw j2
 unfold wG at e
 split at e
 ·injection e with e;subst e;exact ⟨h, .inl rfl⟩
 ·rename_i hne
  split at e
  ·rename_i hA
   have hB:(mA s.2 m.B).Den≠0:=fun hB=>hne (by rw [decide_eq_true hA,decide_eq_true hB])
   split at e
   ·rename_i hv
    injection e with e;subst e
    have k:=xY (h.den b.1 b.2.1 hB) (t:=(eH w m).Driven) (u:=(eH w m).Driver) tb.1 tb.2 ta.1 ta.2 hv
    exact ⟨h.set _ k, .inr ⟨rfl,aOj a.1 (by rw [h.1];exact a.2.1) hA k.den⟩⟩
   ·cases e
  ·rename_i hA
   have hB:(mA s.2 m.B).Den=0:=Classical.byContradiction fun hB=>hne (by rw [decide_eq_false hA,decide_eq_false hB])
   split at e
   ·rename_i hv
    injection e with e;subst e
    have k:=xY (h.den a.1 a.2.1 hA) (t:=(eH w m).Driver) (u:=(eH w m).Driven) ta.1 ta.2 tb.1 tb.2 hv
    exact ⟨h.set _ k, .inr ⟨rfl,aOj b.1 (by rw [h.1];exact b.2.1) hB k.den⟩⟩
   ·cases e
theorem xJ {w:aP} (hw:aBh w=true) : ∀ {ms:List bM} (hm : ∀ m ∈ ms,sO w m=true) {s s':Bool × List aB} (h:SpI w s.2) (e:nN w ms s = .inl s'),SpI w s'.2∧wJ s'.2≤wJ s.2∧(s'.1=true→s.1=true∨wJ s'.2<wJ s.2)
 | [],hm,s,s',h,e=>by
  injection e with e;subst e
  exact ⟨h,Nat.le_refl _,fun h => .inl h⟩
 | m :: ms,hm,s,s',h,e=>by
  unfold nN at e
  cases e1:wG w m s with
  | inr u=>rw [e1] at e;cases e
  | inl s1 =>
   rw [e1] at e
   obtain ⟨h1,h2⟩:=aDy hw (hm m (List.mem_cons_self ..)) h e1
   obtain ⟨h3,h4,h5⟩:=xJ hw (fun m hm'=>hm m (List.mem_cons_of_mem _ hm')) h1 e
   refine ⟨h3,?_,fun ht => ?_⟩
   ·rcases h2 with rfl | h2 <;> omega
   ·rcases h2 with rfl | h2
    ·exact h5 ht
    ·right;omega
theorem aGy {w:aP} {X:Type} {g:Unit→X} {body:Nat→bM→Bool × List aB→Option ((Bool × List aB) ⊕ X)} (hb : ∀ i m s,body i m s=some (Sum.map id g (wG w m s))) : ∀ (ms:List bM) (k:Nat) (s:Bool × List aB),aSq body ms k s=some (Sum.map id g (nN w ms s))
 | [],k,s=>rfl
 | m :: ms,k,s=>by
  show (body k m s).bind _=_
  rw [hb,Option.bind_some]
  unfold nN
  cases wG w m s with
  | inr u=>rfl
  | inl s1=>exact aGy hb ms (k+1) s1
def jP (w:aP):Nat→List aB→List aB ⊕ Unit
 | 0,sp => .inl sp
 | n+1,sp=>match nN w w.Meshes (false,sp) with
  | .inr u => .inr u
  | .inl (true,sp')=>jP w n sp'
  | .inl (false,sp') => .inl sp'
theorem aFp {w:aP} (hw:aBh w=true) : ∀ {n m:Nat} {sp:List aB},SpI w sp→wJ sp<n→wJ sp<m→jP w n sp=jP w m sp
 | 0,_,_,_,h,_=>by omega
 | _+1,0,_,_,_,h=>by omega
 | n+1,m+1,sp,hs,h1,h2=>by
  unfold jP
  cases e:nN w w.Meshes (false,sp) with
  | inr u=>rfl
  | inl s =>
   obtain ⟨b,sp'⟩:=s
   cases b with
   | false=>rfl
   | true =>
    obtain ⟨h3,_,h5⟩:=xJ hw (nX hw) (s:=(false,sp)) hs e
    have h6:wJ sp'<wJ sp:=by
     rcases h5 rfl with h | h
     ·cases h
     ·exact h
    exact aFp hw h3 (by omega) (by omega)
def aZ5 (w:aP) (s:Bool × List aB):List aB ⊕ Unit:=if s.1=true then jP w (wJ s.2+1) s.2 else .inl s.2
theorem aKy {w:aP} (hw:aBh w=true) {S X:Type} {step:S→Option (S ⊕ X)} (mk:Bool × List aB→S) (un:S→Bool × List aB) (hun : ∀ s,un (mk s)=s) (good:List aB→X) (bad:List aB→X)
  (hbad : ∀ x y,bad x=bad y)
  (hT : ∀ sp,SpI w sp→step (mk (true,sp))=some (match nN w w.Meshes (false,sp) with
   | .inr _ => .inr (bad sp)
   | .inl s' => .inl (mk s'))) (hF : ∀ sp,SpI w sp→step (mk (false,sp))=some (.inr (good sp))) (sp:List aB) (h:SpI w sp) :
  bQ step (mk (true,sp))=some (match jP w (wJ sp+1) sp with
   | .inl sp'=>good sp'
   | .inr _=>bad sp):=by
 refine aOz (fun s => ∃ t:Bool × List aB,s=mk t∧SpI w t.2∧aZ5 w t=jP w (wJ sp+1) sp) (fun s=>2*wJ (un s).2+if (un s).1=true then 1 else 0) (fun s hI => ?_) ⟨(true,sp),rfl,h,rfl⟩ ?_
 ·obtain ⟨⟨b,q⟩,rfl,hq,e⟩:=hI
  cases b with
  | false =>
   right
   rw [hF q hq]
   have e:Sum.inl q=jP w (wJ sp+1) sp:=e
   rw [← e]
  | true =>
   rw [hT q hq]
   have e:jP w (wJ q+1) q=jP w (wJ sp+1) sp:=e
   unfold jP at e
   cases er:nN w w.Meshes (false,q) with
   | inr u =>
    right
    rw [er] at e
    have e:Sum.inr u=jP w (wJ sp+1) sp:=by unfold jP;exact e
    rw [← e]
    simp only [hbad q sp]
   | inl s' =>
    left
    obtain ⟨h3,h4,h5⟩:=xJ hw (nX hw) (s:=(false,q)) hq er
    refine ⟨_,rfl,⟨s',rfl,h3,?_⟩,?_⟩
    ·rw [er] at e
     obtain ⟨b,q'⟩:=s'
     cases b with
     | false=>unfold jP;exact e
     | true =>
      have h6:wJ q'<wJ q:=by
       rcases h5 rfl with h | h
       ·cases h
       ·exact h
      have e:jP w (wJ q) q'=jP w (wJ sp+1) sp:=e.trans (by rw [jP])
      rw [← e]
      exact aFp hw h3 (by show wJ q'<wJ q'+1;omega) h6
    ·simp only [hun]
     obtain ⟨b,q'⟩:=s'
     cases b with
     | false=>dsimp only at h4 ⊢;simp;omega
     | true =>
      have h6:wJ q'<wJ q:=by
       rcases h5 rfl with h | h
       ·cases h
       ·exact h
      simp;omega
 ·simp only [hun]
  have:wJ sp≤sp.length:=List.countP_le_length
  have h1:=h.1
  have h2:=(pG.1 hw).1
  simp;omega
def aVt (w:aP) (sp:List aB) (m:bM):Bool:=(oC (mA sp m.A) (eH w m).Driver (eH w m).Driven).2 && decide ((oC (mA sp m.A) (eH w m).Driver (eH w m).Driven).1=mA sp m.B)
def start (w:aP) (root:Int):List aB:=(List.replicate w.Arbors.length (⟨0,0⟩:aB)).set root.toNat ⟨1,1⟩
def fB (w:aP) (root:Int):List aB × Int :=
 if vJ w root=true then (match jP w (wJ (start w root)+1) (start w root) with
  | .inr _=>([],2)
  | .inl sp=>if sp.any (fun r=>decide (r.Den=0))=true then ([],6) else if w.Meshes.all (aVt w sp)=true then (sp,0) else ([],10))
 else ([],2)
theorem aA8 {w:aP} (root:Int):SpI w (start w root):=by
 refine SpI.set ⟨by simp,fun r hr => .inl (List.eq_of_mem_replicate hr)⟩ _ ⟨by decide,by decide⟩
theorem aA7 {w:aP} (hw:aBh w=true) : ∀ {n:Nat} {sp sp':List aB},SpI w sp→jP w n sp = .inl sp'→SpI w sp'
 | 0,_,_,h,e=>by injection e with e;subst e;exact h
 | n+1,sp,sp',h,e=>by
  unfold jP at e
  cases er:nN w w.Meshes (false,sp) with
  | inr u=>rw [er] at e;cases e
  | inl s =>
   rw [er] at e
   obtain ⟨h3,_,_⟩:=xJ hw (nX hw) (s:=(false,sp)) h er
   obtain ⟨b,q⟩:=s
   cases b with
   | false=>injection e with e;subst e;exact h3
   | true=>exact aA7 hw h3 e
theorem aRi {w:aP} (hw:aBh w=true) {root:Int} (h:(fB w root).2=0):(fB w root).1.length=w.Arbors.length ∧ ∀ r ∈ (fB w root).1,KnR r:=by
 unfold fB at h ⊢
 split
 ·rename_i hr
  rw [if_pos hr] at h
  cases e:jP w (wJ (start w root)+1) (start w root) with
  | inr u=>rw [e] at h;cases h
  | inl sp =>
   rw [e] at h
   have hs:=aA7 hw (aA8 root) e
   dsimp only at h ⊢
   split
   ·rename_i hn;rw [if_pos hn] at h;cases h
   ·rename_i hn
    rw [if_neg hn] at h
    split
    ·refine ⟨hs.1,fun r hr => ?_⟩
     rcases hs.2 r hr with rfl | h
     ·exact absurd (List.any_eq_true.2 ⟨_,hr,decide_eq_true rfl⟩) hn
     ·exact h
    ·rename_i hf;rw [if_neg hf] at h;cases h
 ·rename_i hr;rw [if_neg hr] at h;cases h
end Go.Proofs.YtbliejnpjpnahaaGreatDoor
namespace Go.Proofs.YtbliejnpjpnahaaGreatDoor
set_option linter.unusedVariables false
theorem uQ (x:aB × Bool):(x.2=true∧aEg x=(x.1,0))∨(x.2=false∧aEg x=(⟨0,0⟩,2)):=by
 unfold aEg
 cases h:x.2
 ·exact .inr ⟨rfl,by simp⟩
 ·exact .inl ⟨rfl,by simp⟩
theorem xF {w:aP} {m:bM} {sp:List aB} (hm:sO w m=true) (h:SpI w sp):0≤m.A∧m.A<sp.length∧0≤m.B∧m.B<sp.length:=by
 obtain ⟨_,j1,j2⟩:=pR.1 hm
 have a:=qT j1
 have b:=qT j2
 rw [h.1]
 exact ⟨a.1,a.2.1,b.1,b.2.1⟩
theorem aSc {n k:Nat} (h:n≤16) (hk:k≤2):0≤(n:Int)∧(n:Int)=(n:Int)∧((n:Int)).toNat*k*64≤281474976710656:=by
 refine ⟨by omega,rfl,?_⟩
 have:(n:Int).toNat*k≤16*2:=Nat.mul_le_mul (by omega) hk
 omega
theorem aQm {w:aP} (hw:aBh w=true) (sp:List aB) (h:SpI w sp) :
  bQ (S:=Bool × Int × List aB) (X:=(Bool × List aB) ⊕ ((List aB) ⊕ (List aB × Int))) (fun s41 =>
 (if s41.2.1<(w.Meshes.length:Int) then
 ((((atI w.Meshes s41.2.1).bind fun v42 =>
 ((mR w v42).bind fun v43 =>
 ((((atI s41.2.2 v42.A).bind fun v44 =>
 (if v44.Den=0 then
 some (v42.B,v42.A,(⟨v43.Driven,v43.Driver⟩:dU))
 else
 some (v42.A,v42.B,v43))):Option (Int × Int × dU)).bind fun v45 =>
 ((((atI s41.2.2 v45.1).bind fun v46 =>
 (if v46.Den=0 then
 some true
 else
 ((atI s41.2.2 v45.2.1).bind fun v47 =>
 some (decide (v47.Den≠0))))):Option Bool).bind fun v48 =>
 (if v48=true then
 some (.inl (s41.1,s41.2.2))
 else
 ((atI s41.2.2 v45.1).bind fun v49 =>
 ((mQ v49 v45.2.2.Driver v45.2.2.Driven).bind fun v50 =>
 (if v50.2≠0 then
 some (.inr (.inr (.inr (.inr (([]:List aB),v50.2)))))
 else
 ((atI s41.2.2 v45.2.1).bind fun v51 =>
 some (.inl (true,List.set s41.2.2 (v45.2.1).toNat v50.1))))))))))):Option ((Bool × List aB) ⊕ ((Bool × Int × List aB) ⊕ ((Bool × List aB) ⊕ ((List aB) ⊕ (List aB × Int)))))).bind fun v52x=>orE v52x fun v52 =>
 some (.inl (v52.1,w64 (s41.2.1+1),v52.2)))
 else
 some (.inr (.inl (s41.1,s41.2.2))))) (false,0,sp)=some (match nN w w.Meshes (false,sp) with
  | .inl s' => .inl s'
  | .inr _ => .inr (.inr ([],2))):=by
 have hl:=(pG.1 hw).2.1
 rw [aAv (xs:=w.Meshes) (fun i (s:Bool × List aB)=>(s.1,i,s.2)) (fun _ m s=>some (Sum.map id (fun _ => .inr (.inr ([],2))) (wG w m s))) (fun s => .inl s) (fun s=>SpI w s.2) (by omega) (fun i hi s hs => ?_) (fun i hi s s' hs e => ?_) (fun s hs=>by simp) (false,sp) h]
 ·rw [aGy (w:=w) (X:=(Bool × List aB) ⊕ ((List aB) ⊕ (List aB × Int))) (g:=fun _ => .inr (.inr ([],2))) (fun _ _ _=>rfl)]
  cases nN w w.Meshes (false,sp) <;> rfl
 ·have hi':(i:Int)<w.Meshes.length:=by omega
  have e1:w64 ((i:Int)+1)=i+1:=aQ (by omega) (by omega)
  have hj:=nX hw _ (List.getElem_mem hi)
  simp only [if_pos hi',eL hi,Option.bind_some,e1,aEx hj]
  generalize w.Meshes[i]=m at hj
  obtain ⟨_,j1,j2⟩:=pR.1 hj
  have ta:=pF hw j1
  have tb:=pF hw j2
  obtain ⟨a0,a1,b0,b1⟩:=xF hj hs
  obtain ⟨ga,_,_⟩:=oG a0 a1
  obtain ⟨gb,_,_⟩:=oG b0 b1
  have a1':m.A<w.Arbors.length:=by rw [← hs.1];exact a1
  have b1':m.B<w.Arbors.length:=by rw [← hs.1];exact b1
  unfold wG
  simp only [ga,Option.bind_some]
  by_cases dA:(mA s.2 m.A).Den=0
  ·simp only [if_pos dA,Option.bind_some,gb]
   by_cases dB:(mA s.2 m.B).Den=0
   ·simp only [if_pos dB,dA,dB,Option.bind_some,if_true];rfl
   ·have k:=hs.den b0 b1' dB
    simp only [if_neg dB,ga,gb,dA,dB,Option.bind_some]
    rw [zH k (t:=(eH w m).Driven) (u:=(eH w m).Driver) tb.1 tb.2 ta.1 ta.2]
    rcases uQ (oC (mA s.2 m.B) (eH w m).Driven (eH w m).Driver) with ⟨h1,h2⟩ | ⟨h1,h2⟩ <;> simp [h1,h2,orE]
  ·simp only [if_neg dA,Option.bind_some,ga,gb]
   by_cases dB:(mA s.2 m.B).Den=0
   ·have k:=hs.den a0 a1' dA
    simp only [ga,gb,dA,dB,Option.bind_some,if_false,ne_eq,not_true_eq_false,decide_false,Bool.false_eq_true]
    rw [zH k (t:=(eH w m).Driver) (u:=(eH w m).Driven) ta.1 ta.2 tb.1 tb.2]
    rcases uQ (oC (mA s.2 m.A) (eH w m).Driver (eH w m).Driven) with ⟨h1,h2⟩ | ⟨h1,h2⟩ <;> simp [h1,h2,orE]
   ·simp [dA,dB,orE]
 ·have e:wG w w.Meshes[i] s = .inl s':=by
   cases e2:wG w w.Meshes[i] s with
   | inr u=>rw [e2] at e;cases e
   | inl z=>rw [e2] at e;injection e with e;injection e with e;rw [← e];rfl
  exact (aDy hw (nX hw _ (List.getElem_mem hi)) hs e).1
theorem aE0 {w:aP} (hw:aBh w=true) {root:Int} (hr:vJ w root=true):lS w root=some (match jP w (wJ (start w root)+1) (start w root) with
  | .inl sp=>(sp,0)
  | .inr _=>([],2)):=by
 have hl:=(pG.1 hw).1
 have hr:=of_decide_eq_true hr
 unfold lS
 rw [eA (aSc hl (by omega))]
 simp only [Int.toNat_natCast]
 obtain ⟨e,he,_,_⟩:=qM (xs:=List.replicate w.Arbors.length (⟨0,0⟩:aB)) hr.1 (by rw [List.length_replicate];exact hr.2)
 rw [he,Option.bind_some]
 have:=aKy hw (S:=Bool × List aB) (X:=(List aB) ⊕ (List aB × Int)) (step:=fun s28=>(if s28.1=true then bQ (S:=Bool × Int × List aB) (X:=(Bool × List aB) ⊕ ((List aB) ⊕ (List aB × Int))) (fun s41 =>
 (if s41.2.1<(w.Meshes.length:Int) then
 ((((atI w.Meshes s41.2.1).bind fun v42 =>
 ((mR w v42).bind fun v43 =>
 ((((atI s41.2.2 v42.A).bind fun v44 =>
 (if v44.Den=0 then
 some (v42.B,v42.A,(⟨v43.Driven,v43.Driver⟩:dU))
 else
 some (v42.A,v42.B,v43))):Option (Int × Int × dU)).bind fun v45 =>
 ((((atI s41.2.2 v45.1).bind fun v46 =>
 (if v46.Den=0 then
 some true
 else
 ((atI s41.2.2 v45.2.1).bind fun v47 =>
 some (decide (v47.Den≠0))))):Option Bool).bind fun v48 =>
 (if v48=true then
 some (.inl (s41.1,s41.2.2))
 else
 ((atI s41.2.2 v45.1).bind fun v49 =>
 ((mQ v49 v45.2.2.Driver v45.2.2.Driven).bind fun v50 =>
 (if v50.2≠0 then
 some (.inr (.inr (.inr (.inr (([]:List aB),v50.2)))))
 else
 ((atI s41.2.2 v45.2.1).bind fun v51 =>
 some (.inl (true,List.set s41.2.2 (v45.2.1).toNat v50.1))))))))))):Option ((Bool × List aB) ⊕ ((Bool × Int × List aB) ⊕ ((Bool × List aB) ⊕ ((List aB) ⊕ (List aB × Int)))))).bind fun v52x=>orE v52x fun v52 =>
 some (.inl (v52.1,w64 (s41.2.1+1),v52.2)))
 else
 some (.inr (.inl (s41.1,s41.2.2))))) (false,0,s28.2) else some (.inr (.inl s28.2)))) (fun s=>s) (fun s=>s) (fun _=>rfl) (fun sp => .inl sp) (fun _ => .inr ([],2)) (fun _ _=>rfl) (fun sp h=>by
  simp only [if_true]
  rw [aQm hw sp h]
  cases nN w w.Meshes (false,sp) <;> rfl) (fun sp h=>by simp) (start w root) (aA8 root)
 unfold start at this
 unfold start
 rw [this,Option.bind_some]
 cases jP w (wJ ((List.replicate w.Arbors.length (⟨0,0⟩:aB)).set root.toNat ⟨1,1⟩)+1) ((List.replicate w.Arbors.length (⟨0,0⟩:aB)).set root.toNat ⟨1,1⟩) <;> rfl
theorem aAm {w:aP} (hl:w.Arbors.length≤9223372036854775807) (hws : ∀ b ∈ w.Arbors,b.Wheels.length≤9223372036854775807) (hm:w.Meshes.length≤9223372036854775807) (root:Int):mK w root=some (if aBh w=true then fB w root else ([],1)):=by
 unfold mK fB
 rw [wW hl hws hm,Option.bind_some]
 by_cases hw:aBh w=true
 ·have e0:btw root 0 (w64 ((w.Arbors.length:Int)-1))=vJ w root:=uM hl
  have hml:=(pG.1 hw).2.1
  rw [if_pos hw,hw,cN,e0,Option.bind_some]
  by_cases hr:vJ w root=true
  ·rw [if_pos hr,hr,aE0 hw hr]
   cases e:jP w (wJ (start w root)+1) (start w root) with
   | inr u=>rfl
   | inl sp =>
    have hs:=aA7 hw (aA8 root) e
    have hsl:=hs.1
    have hal:=(pG.1 hw).1
    simp only [Bool.not_true,Bool.false_eq_true,if_false,Option.bind_some,ne_eq,not_true_eq_false]
    have hc:bG sp=some (sp.any fun r=>decide (r.Den=0)):=by
     unfold bG cC
     rw [aVr (fun r=>decide (r.Den=0)) (by omega) fun i hi=>by rw [eL hi,Option.bind_some,oZ,Option.bind_some],Option.bind_some,aIu]
    rw [hc,Option.bind_some]
    by_cases hn:(sp.any fun r=>decide (r.Den=0))=true
    ·rw [if_pos hn,if_pos hn]
    ·rw [if_neg hn,if_neg hn,wH (e := .inr ([],10)) (fun _ m=>aVt w sp m) hm fun i hi => ?_,lW,Option.bind_some]
     ·cases w.Meshes.all (aVt w sp) <;> rfl
     ·have hj:=nX hw _ (List.getElem_mem hi)
      simp only [eL hi,Option.bind_some,aEx hj]
      generalize w.Meshes[i]=m at hj
      obtain ⟨_,j1,j2⟩:=pR.1 hj
      have ta:=pF hw j1
      have tb:=pF hw j2
      obtain ⟨a0,a1,b0,b1⟩:=xF hj hs
      obtain ⟨ga,gm,_⟩:=oG a0 a1
      obtain ⟨gb,_,_⟩:=oG b0 b1
      have k:KnR (mA sp m.A):=by
       rcases hs.2 _ gm with e | h
       ·exact absurd (List.any_eq_true.2 ⟨_,gm,decide_eq_true (by rw [e])⟩) hn
       ·exact h
      rw [ga,Option.bind_some,zH k (t:=(eH w m).Driver) (u:=(eH w m).Driven) ta.1 ta.2 tb.1 tb.2,gb]
      unfold aVt
      rcases uQ (oC (mA sp m.A) (eH w m).Driver (eH w m).Driven) with ⟨h1,h2⟩ | ⟨h1,h2⟩
      ·by_cases q:(oC (mA sp m.A) (eH w m).Driver (eH w m).Driven).1=mA sp m.B <;> simp [h1,h2,q]
      ·simp [h1,h2]
  ·rw [if_neg hr,Bool.not_eq_true] at *
   rw [hr];rfl
 ·rw [if_neg hw,Bool.not_eq_true] at *
  rw [hw];rfl
theorem aK6 {w:aP} (hw:aBh w=true) {sp:List aB} (hs:SpI w sp) {m:bM} (hj:sO w m=true) (k:KnR (mA sp m.A)):sC w m sp=some (aVt w sp m):=by
 obtain ⟨_,j1,j2⟩:=pR.1 hj
 have ta:=pF hw j1
 have tb:=pF hw j2
 obtain ⟨a0,a1,b0,b1⟩:=xF hj hs
 obtain ⟨ga,gm,_⟩:=oG a0 a1
 obtain ⟨gb,_,_⟩:=oG b0 b1
 have hv:=aA9 (t:=(eH w m).Driver) (u:=(eH w m).Driven) ta.1 ta.2 tb.1 tb.2
 have t0:6≤(eH w m).Driver:=ta.1
 have t1:(eH w m).Driver≤240:=ta.2
 have u0:6≤(eH w m).Driven:=tb.1
 have u1:(eH w m).Driven≤240:=tb.2
 unfold sC aVt oC
 rw [aC2 hj,Option.bind_some,aQ (by omega) (by omega),sX ⟨by omega,by omega⟩ ⟨by omega,by omega⟩ (by omega),Option.bind_some,ga,Option.bind_some,zO k.1 hv.2.1,Option.bind_some,gb]
 cases (aQu (mA sp m.A) (mkR (-(eH w m).Driver) (eH w m).Driven).1).2 <;> simp
def knS (sp:List aB):List Bool:=sp.map fun r=>decide (r.Den≠0)
theorem bBd {sp:List aB} {i:Int} (h0:0≤i) (h1:i<sp.length):atI (knS sp) i=some (decide ((mA sp i).Den≠0)):=by
 obtain ⟨_,_,hi,e⟩:=oG h0 h1
 unfold atI knS
 rw [if_pos h0,List.getElem?_map,List.getElem?_eq_getElem hi,e];rfl
theorem aS5 {sp:List aB} {i:Nat} {v:aB} (hv:v.Den≠0):knS (sp.set i v)=(knS sp).set i true:=by
 unfold knS
 rw [List.map_set,decide_eq_true hv]
theorem aEk {w:aP} (hw:aBh w=true) {X:Type} (g:Bool × List aB→X) : ∀ (ms:List bM) (hm : ∀ m ∈ ms,sO w m=true) (k:Nat) (s:Bool × List aB),SpI w s.2 → ∃ f,SpI w f.2∧aSq (fun _ m s=>some (match wG w m s with
  | .inl s' => .inl s'
  | .inr _ => .inr (g s))) ms k s=some (match nN w ms s with
  | .inl s' => .inl s'
  | .inr _ => .inr (g f))
 | [],_,k,s,h=>⟨s,h,rfl⟩
 | m :: ms,hm,k,s,h=>by
  cases e:wG w m s with
  | inr u =>
   refine ⟨s,h,?_⟩
   show (some (match wG w m s with
    | .inl s'=>_
    | .inr _=>_)).bind _=_
   unfold nN
   rw [e];rfl
  | inl s1 =>
   obtain ⟨f,hf,q⟩:=aEk hw g ms (fun m h=>hm m (List.mem_cons_of_mem _ h)) (k+1) s1 (aDy hw (hm m (List.mem_cons_self ..)) h e).1
   refine ⟨f,hf,?_⟩
   show (some (match wG w m s with
    | .inl s'=>_
    | .inr _=>_)).bind _=_
   unfold nN
   rw [e]
   exact q
theorem aRe {w:aP} (hw:aBh w=true) (sp:List aB) (h:SpI w sp) : ∃ f,SpI w f∧hZ w (knS sp) sp=some (match nN w w.Meshes (false,sp) with
  | .inl s'=>(s'.1,true,knS s'.2,s'.2)
  | .inr _=>(false,false,knS f,f)):=by
 have hl:=(pG.1 hw).2.1
 unfold hZ
 obtain ⟨f,hf,q⟩:=aEk hw (X:=(Bool × List Bool × List aB) ⊕ (Bool × Bool × List Bool × List aB)) (fun s => .inr (false,false,knS s.2,s.2)) w.Meshes (nX hw) 0 (false,sp) h
 refine ⟨f.2,hf,?_⟩
 rw [aAv (xs:=w.Meshes) (fun i (s:Bool × List aB)=>(s.1,i,knS s.2,s.2)) (fun _ m s=>some (match wG w m s with
  | .inl s' => .inl s'
  | .inr _ => .inr (.inr (false,false,knS s.2,s.2)))) (fun s => .inl (s.1,knS s.2,s.2)) (fun s=>SpI w s.2) (by omega) (fun i hi s hs => ?_) (fun i hi s s' hs e => ?_) (fun s hs=>by simp) (false,sp) h]
 ·rw [q]
  cases nN w w.Meshes (false,sp) <;> rfl
 ·have hi':(i:Int)<w.Meshes.length:=by omega
  have e1:w64 ((i:Int)+1)=i+1:=aQ (by omega) (by omega)
  have hj:=nX hw _ (List.getElem_mem hi)
  simp only [if_pos hi',eL hi,Option.bind_some,e1,aC2 hj]
  generalize w.Meshes[i]=m at hj
  obtain ⟨_,j1,j2⟩:=pR.1 hj
  have ta:=pF hw j1
  have tb:=pF hw j2
  have t0:6≤(eH w m).Driver:=ta.1
  have t1:(eH w m).Driver≤240:=ta.2
  have u0:6≤(eH w m).Driven:=tb.1
  have u1:(eH w m).Driven≤240:=tb.2
  obtain ⟨a0,a1,b0,b1⟩:=xF hj hs
  obtain ⟨ga,_,_⟩:=oG a0 a1
  obtain ⟨gb,_,_⟩:=oG b0 b1
  have ka:=bBd a0 a1
  have kb:=bBd b0 b1
  have a1':m.A<w.Arbors.length:=by rw [← hs.1];exact a1
  have b1':m.B<w.Arbors.length:=by rw [← hs.1];exact b1
  unfold wG
  simp only [ka,kb,Option.bind_some]
  by_cases dA:(mA s.2 m.A).Den=0
  ·by_cases dB:(mA s.2 m.B).Den=0
   ·simp [dA,dB,orE]
   ·have k:=hs.den b0 b1' dB
    have hv:=aA9 (t:=(eH w m).Driven) (u:=(eH w m).Driver) u0 u1 t0 t1
    have e2:(decide ((mA s.2 m.A).Den≠0) == decide ((mA s.2 m.B).Den≠0))=false:=by simp [dA,dB]
    have e3:decide ((mA s.2 m.A).Den=0)≠decide ((mA s.2 m.B).Den=0):=by simp [dA,dB]
    have e4:decide ((mA s.2 m.B).Den≠0)=true:=by simp [dB]
    rw [e2,if_neg (by decide),if_neg e3,if_pos dA,e4,if_pos rfl]
    simp only [Option.bind_some,ga,gb,ka,kb]
    rw [aQ (by omega) (by omega),sX ⟨by omega,by omega⟩ ⟨by omega,by omega⟩ (by omega)]
    simp only [Option.bind_some]
    rw [zO k.1 hv.2.1]
    have mv:=xY k (t:=(eH w m).Driven) (u:=(eH w m).Driver) u0 u1 t0 t1
    have em:aQu (mA s.2 m.B) (mkR (-(eH w m).Driven) (eH w m).Driver).1=oC (mA s.2 m.B) (eH w m).Driven (eH w m).Driver:=rfl
    rw [em]
    cases h2:(oC (mA s.2 m.B) (eH w m).Driven (eH w m).Driver).2
    ·simp [h2,orE]
    ·simp [h2,orE,aS5 (mv h2).den]
  ·by_cases dB:(mA s.2 m.B).Den=0
   ·have k:=hs.den a0 a1' dA
    have hv:=aA9 (t:=(eH w m).Driver) (u:=(eH w m).Driven) t0 t1 u0 u1
    have e2:(decide ((mA s.2 m.A).Den≠0) == decide ((mA s.2 m.B).Den≠0))=false:=by simp [dA,dB]
    have e3:decide ((mA s.2 m.A).Den=0)≠decide ((mA s.2 m.B).Den=0):=by simp [dA,dB]
    have e4:decide ((mA s.2 m.B).Den≠0)=false:=by simp [dB]
    rw [e2,if_neg (by decide),if_neg e3,if_neg dA,e4,if_neg (by decide)]
    simp only [Option.bind_some,ga,gb,ka,kb]
    rw [aQ (by omega) (by omega),sX ⟨by omega,by omega⟩ ⟨by omega,by omega⟩ (by omega)]
    simp only [Option.bind_some]
    rw [zO k.1 hv.2.1]
    have mv:=xY k (t:=(eH w m).Driver) (u:=(eH w m).Driven) t0 t1 u0 u1
    have em:aQu (mA s.2 m.A) (mkR (-(eH w m).Driver) (eH w m).Driven).1=oC (mA s.2 m.A) (eH w m).Driver (eH w m).Driven:=rfl
    rw [em]
    cases h2:(oC (mA s.2 m.A) (eH w m).Driver (eH w m).Driven).2
    ·simp [h2,orE]
    ·simp [h2,orE,aS5 (mv h2).den]
   ·simp [dA,dB,orE]
 ·have e:wG w w.Meshes[i] s = .inl s':=by
   cases e2:wG w w.Meshes[i] s with
   | inr u=>rw [e2] at e;cases e
   | inl z=>rw [e2] at e;injection e with e;injection e with e;rw [← e]
  exact (aDy hw (nX hw _ (List.getElem_mem hi)) hs e).1
theorem aS4 (sp:List aB):(knS sp).length=sp.length:=by unfold knS;simp
theorem aGm {w:aP} (hw:aBh w=true) (root:Int):nO w root=some (fB w root):=by
 have hal:=(pG.1 hw).1
 have hml:=(pG.1 hw).2.1
 unfold nO fB
 rw [aC3 (by omega),Option.bind_some]
 by_cases hr:vJ w root=true
 ·rw [if_pos hr,hr,if_neg (by decide),eA (aSc hal (by omega)),eA (aSc hal (by omega))]
  simp only [Int.toNat_natCast]
  have hrr:=of_decide_eq_true hr
  obtain ⟨e,he,_,_⟩:=qM (xs:=List.replicate w.Arbors.length (⟨0,0⟩:aB)) hrr.1 (by rw [List.length_replicate];exact hrr.2)
  obtain ⟨e',he',_,_⟩:=qM (xs:=List.replicate w.Arbors.length false) hrr.1 (by rw [List.length_replicate];exact hrr.2)
  rw [he',Option.bind_some,sY,Option.bind_some,he,Option.bind_some]
  have hk:knS (start w root)=(List.replicate w.Arbors.length false).set root.toNat true:=by
   unfold start
   rw [aS5 (by decide)]
   congr 1
   unfold knS
   rw [List.map_replicate];rfl
  have:=aKy hw (S:=Bool × List Bool × List aB) (X:=(List Bool × List aB) ⊕ (List aB × Int)) (step:=fun s11=>(if s11.1=true then ((hZ w s11.2.1 s11.2.2).bind fun v12=>(chk (v12.2.2.1.length=s11.2.1.length) (chk (v12.2.2.2.length=s11.2.2.length) (if (!v12.2.1)=true then some (.inr (.inr (([]:List aB),2))) else some (.inl (v12.1,v12.2.2.1,v12.2.2.2)))))) else some (.inr (.inl (s11.2.1,s11.2.2))))) (fun s=>(s.1,knS s.2,s.2)) (fun s=>(s.1,s.2.2)) (fun _=>rfl) (fun sp => .inl (knS sp,sp)) (fun _ => .inr ([],2)) (fun _ _=>rfl) (fun sp h=>by
   obtain ⟨f,hf,q⟩:=aRe hw sp h
   simp only [if_true,q,Option.bind_some]
   cases er:nN w w.Meshes (false,sp) with
   | inr u =>
    simp only [aS4,hf.1,h.1,aDm]
    simp
   | inl s' =>
    have h3:=(xJ hw (nX hw) (s:=(false,sp)) h er).1
    simp only [aS4,h3.1,h.1,aDm]
    simp) (fun sp h=>by simp) (start w root) (aA8 root)
  rw [hk] at this
  unfold start at this
  unfold start
  rw [this,Option.bind_some]
  cases e:jP w (wJ ((List.replicate w.Arbors.length (⟨0,0⟩:aB)).set root.toNat ⟨1,1⟩)+1) ((List.replicate w.Arbors.length (⟨0,0⟩:aB)).set root.toNat ⟨1,1⟩) with
  | inr u=>rfl
  | inl sp =>
   have hs:=aA7 hw (aA8 root) e
   have hsl:=hs.1
   show (orE (.inl (knS sp,sp)) _)=_
   simp only [orE]
   rw [wH (xs:=knS sp) (e := .inr ([],6)) (fun _ b=>b) (by rw [aS4];omega) fun i hi=>by rw [eL hi,Option.bind_some];cases (knS sp)[i] <;> rfl,lW,Option.bind_some]
   have e5:(knS sp).all (fun b=>b) = !(sp.any fun r=>decide (r.Den=0)):=by
    unfold knS
    rw [Bool.eq_iff_iff];simp
   rw [e5]
   by_cases hn:(sp.any fun r=>decide (r.Den=0))=true
   ·rw [hn];rfl
   ·rw [Bool.not_eq_true] at hn
    rw [hn]
    simp only [Bool.not_false,if_true,orE]
    rw [wH (xs:=w.Meshes) (e := .inr ([],10)) (fun _ m=>aVt w sp m) (by omega) fun i hi => ?_,lW,Option.bind_some]
    ·cases w.Meshes.all (aVt w sp) <;> rfl
    ·have hj:=nX hw _ (List.getElem_mem hi)
     obtain ⟨a0,a1,b0,b1⟩:=xF hj hs
     obtain ⟨_,gm,_⟩:=oG a0 a1
     have k:KnR (mA sp w.Meshes[i].A):=by
      rcases hs.2 _ gm with e | h
      ·have q:(sp.any fun r=>decide (r.Den=0))=true:=List.any_eq_true.2 ⟨_,gm,decide_eq_true (by rw [e])⟩
       rw [hn] at q;cases q
      ·exact h
     rw [eL hi,Option.bind_some,aK6 hw hs hj k,Option.bind_some]
     cases aVt w sp w.Meshes[i] <;> rfl
 ·rw [if_neg hr,Bool.not_eq_true] at *
  rw [hr];rfl
end Go.Proofs.YtbliejnpjpnahaaGreatDoor
namespace Go.Proofs.YtbliejnpjpnahaaGreatDoor
set_option linter.unusedVariables false
def yV (m:aG) (k:Int):aB × Int:=if aCs m=true then (if (fB m.Works m.Minute).2=0 then (if vJ m.Works k=true then (mA (fB m.Works m.Minute).1 k,0) else (⟨0,0⟩,2)) else (⟨0,0⟩,6)) else (⟨0,0⟩,1)
theorem aDt {m:aG} (h:aCs m=true):aBh m.Works=true∧vJ m.Works m.Minute=true∧vJ m.Works m.Hour=true∧vJ m.Works m.Escape=true:=by
 unfold aCs at h
 simp only [Bool.and_eq_true] at h
 exact ⟨h.2.1,h.2.2.1,h.2.2.2.1,h.2.2.2.2.1⟩
theorem qW {m:aG} {k:Int} (hw:aBh m.Works=true) (hs:(fB m.Works m.Minute).2=0) (hk:vJ m.Works k=true):atI (fB m.Works m.Minute).1 k=some (mA (fB m.Works m.Minute).1 k)∧KnR (mA (fB m.Works m.Minute).1 k):=by
 have h1:=aRi hw hs
 have h2:=of_decide_eq_true hk
 obtain ⟨g,gm,_⟩:=oG (sp:=(fB m.Works m.Minute).1) h2.1 (by rw [h1.1];exact h2.2)
 exact ⟨g,h1.2 _ gm⟩
theorem aJ6 {m:aG} (h:gB m) (k:Int):oM m k=some (yV m k):=by
 unfold oM yV
 obtain ⟨w1,w2,w3⟩:=smW h.2.1
 rw [jZ h,Option.bind_some]
 by_cases hv:aCs m=true
 ·obtain ⟨hw,_⟩:=aDt hv
  rw [if_pos hv,hv,aAm w1 w2 w3,if_pos hw]
  simp only [Bool.not_true,Bool.false_eq_true,if_false,Option.bind_some]
  by_cases hs:(fB m.Works m.Minute).2=0
  ·rw [if_neg (by simp [hs]),if_pos hs,aCo w1,Option.bind_some]
   by_cases hk:vJ m.Works k=true
   ·rw [if_pos hk,hk,(qW hw hs hk).1];rfl
   ·rw [if_neg hk,Bool.not_eq_true] at *
    rw [hk];rfl
  ·rw [if_pos hs,if_neg hs]
 ·rw [if_neg hv,Bool.not_eq_true] at *
  rw [hv];rfl
theorem aUm {m:aG} {k:Int} (h:(yV m k).2=0):KnR (yV m k).1:=by
 unfold yV at h ⊢
 by_cases hv:aCs m=true
 ·rw [if_pos hv] at h ⊢
  by_cases hs:(fB m.Works m.Minute).2=0
  ·rw [if_pos hs] at h ⊢
   by_cases hk:vJ m.Works k=true
   ·rw [if_pos hk];exact (qW (aDt hv).1 hs hk).2
   ·rw [if_neg hk] at h;cases h
  ·rw [if_neg hs] at h;cases h
 ·rw [if_neg hv] at h;cases h
def aYx (x:aB):aB × Bool:=mkR (x.Num-x.Num / x.Den*x.Den) x.Den
def atR (v:aB) (s:Int):aB × Bool:=if (aQu v (mkR s 3600).1).2=true then aYx (aQu v (mkR s 3600).1).1 else (⟨0,0⟩,false)
def aOa (m:aG) (k s:Int):aB × Int:=if (yV m k).2=0 then (if btw s 0 1000000000=true then aEg (atR (yV m k).1 s) else (⟨0,0⟩,2)) else (⟨0,0⟩,(yV m k).2)
theorem aVu {x:aB} (h:aFz x=true) : -1000000000≤x.Num / x.Den∧x.Num / x.Den≤1000000000 ∧ -1000000000000000000≤x.Num / x.Den*x.Den∧x.Num / x.Den*x.Den≤1000000000000000000:=by
 obtain ⟨d0,d1,n0,n1⟩:=aCv h
 have h1:=aHr d0 (L:=1000000000) (by omega) n0 n1
 have h2:=aMy (a:=x.Num / x.Den) (b:=x.Den) (A:=1000000000) (B:=1000000000) h1.1 h1.2 (by omega) d1
 omega
theorem aEn {x:aB} (h:aFz x=true):lM x=some (x.Num / x.Den):=by
 obtain ⟨d0,d1,n0,n1⟩:=aCv h
 unfold lM
 rw [nI,h,Option.bind_some,if_neg (by decide),aIa d0 (by omega) (by omega),Option.bind_some]
theorem aS0 {x:aB} (h:aFz x=true):mL x ⟨x.Num / x.Den,1⟩=some (aEg (aYx x)):=by
 obtain ⟨d0,d1,n0,n1⟩:=aCv h
 obtain ⟨f0,f1,f2,f3⟩:=aVu h
 have hb:aFz ⟨x.Num / x.Den,1⟩=true:=aDw.2 ⟨⟨by show (1:Int)≤1;omega,by show (1:Int)≤1000000000;omega⟩,⟨f0,f1⟩,by simp⟩
 unfold mL
 simp only [nI,h,hb,Option.bind_some,Bool.not_true,Bool.false_eq_true,if_false,Int.mul_one]
 rw [aQ (x:=x.Num) (by omega) (by omega),aQ (x:=x.Num / x.Den*x.Den) (by omega) (by omega),aQ (x:=x.Den) (by omega) (by omega),aQ (by omega) (by omega),oY ⟨by omega,by omega⟩ ⟨by omega,by omega⟩,Option.bind_some]
 unfold aKi aYx
 rw [if_neg (by omega)]
theorem aCg {m:aG} (h:gB m) (k s:Int):oH m k s=some (aOa m k s):=by
 unfold oH aOa
 rw [aJ6 h,Option.bind_some]
 by_cases hs:(yV m k).2=0
 ·rw [if_neg (by simp [hs]),if_pos hs,cN,Option.bind_some]
  by_cases hb:btw s 0 1000000000=true
  ·rw [if_pos hb,hb,if_neg (by decide)]
   have hk:=aUm hs
   generalize (yV m k).1=v at hk
   have hq:=of_decide_eq_true hb
   have h2:=aKm (n:=s) (d:=3600) (by omega) (by omega) (by omega) (by omega) (by omega)
   have h3:=(aMx (n:=s) (d:=3600) (by omega) h2).1
   have e1:aKi s 3600=((mkR s 3600).1,0):=by unfold aKi aEg;rw [if_neg (by omega),if_pos h2]
   rw [oY ⟨by omega,by omega⟩ ⟨by omega,by omega⟩,Option.bind_some,e1]
   simp only [ne_eq,not_true_eq_false,if_false]
   rw [aAk hk.1 h3,Option.bind_some]
   unfold atR
   rcases uQ (aQu v (mkR s 3600).1) with ⟨g1,g2⟩ | ⟨g1,g2⟩
   ·have hx:=(aO2 hk.1 h3 g1).1
    rw [g2,g1]
    simp only [ne_eq,not_true_eq_false,if_false,if_true]
    rw [aEn hx,Option.bind_some,aS0 hx,Option.bind_some]
   ·rw [g2,g1];rfl
  ·rw [if_neg hb,Bool.not_eq_true] at *
   rw [hb];rfl
 ·rw [if_pos hs,if_neg hs]
end Go.Proofs.YtbliejnpjpnahaaGreatDoor
namespace Go.Proofs.YtbliejnpjpnahaaGreatDoor
set_option linter.unusedVariables false
def aM3:ByteArray:=⟨#[119,111,114,107,115]⟩
def aTl:ByteArray:=⟨#[104,111,117,114]⟩
def aM2:ByteArray:=⟨#[98,101,97,116,115]⟩
def aTk:ByteArray:=⟨#[99,97,109]⟩
def bBj:ByteArray:=⟨#[109,111,118,101,109,101,110,116]⟩
def aR2 (m:aG) (v:aB):Bool:=decide (w64 (w64 (2*m.Teeth)*qY v.Num)=w64 (m.Beats*v.Den))
def rC (m:aG):List ByteArray :=
 (if (fB m.Works m.Minute).2=0 then (if mA (fB m.Works m.Minute).1 m.Hour=⟨1,12⟩ then [] else [aTl])++(if aR2 m (mA (fB m.Works m.Minute).1 m.Escape)=true then [] else [aM2]) else [aM3])++(if (m.Cam.length:Int) % m.Calendar.Months.length=0 then [] else [aTk])
theorem aIj {m:aG} (h:aCs m=true):sQ m.Calendar=true∧aFx m.Cam=true:=by
 unfold aCs at h
 simp only [Bool.and_eq_true] at h
 exact ⟨h.2.2.2.2.2.2.2.1,h.2.2.2.2.2.2.2.2.1⟩
theorem aOc {c:aC} {cam:List Int} (h1:sQ c=true) (h2:aFx cam=true):aDk c cam=if (cam.length:Int) % c.Months.length=0 then 0 else 6:=by
 unfold aDk;rw [h1,h2];rfl
theorem zC {m:aG} (h:gB m):iB m=some (if aCs m=true then rC m else [bBj]):=by
 unfold iB rC
 obtain ⟨w1,w2,w3⟩:=smW h.2.1
 have hcl:m.Cam.length≤1048576:=h.2.2.2.2.2.2.2.2.1.1
 rw [jZ h,Option.bind_some]
 by_cases hv:aCs m=true
 ·obtain ⟨hw,k1,k2,k3⟩:=aDt hv
  obtain ⟨c1,c2⟩:=aIj hv
  have cm:=(fC c1).2.1
  have hbel : ∀ (x y:Option (List ByteArray)),((iD m.Calendar m.Cam).bind fun v11=>if v11=0 then x else y)=if (m.Cam.length:Int) % m.Calendar.Months.length=0 then y else x:=by
   intro x y
   rw [sS cm.1 (by omega),Option.bind_some]
   by_cases h0:(m.Cam.length:Int) % m.Calendar.Months.length=0
   ·have:=rA (c:=m.Calendar) (cam:=m.Cam) (by rw [aOc c1 c2,if_pos h0])
    rw [if_pos h0,if_neg (by omega),if_pos h0]
   ·rw [if_neg h0,if_pos rfl,if_neg h0]
  rw [if_pos hv,hv,aAm w1 w2 w3,if_pos hw]
  simp only [Bool.not_true,Bool.false_eq_true,if_false,Option.bind_some,hbel]
  by_cases hs:(fB m.Works m.Minute).2=0
  ·have s2:=qW hw hs k2
   have s3:=qW hw hs k3
   have d3:=aCv s3.2.1
   rw [if_neg (by simp [hs]),if_pos hs,s2.1,s3.1]
   simp only [Option.bind_some]
   rw [aV0 (by omega) (by omega)]
   simp only [Option.bind_some]
   unfold aR2 aTl aM2 aTk
   by_cases b1:mA (fB m.Works m.Minute).1 m.Hour=⟨1,12⟩ <;> by_cases b2:w64 (w64 (2*m.Teeth)*qY (mA (fB m.Works m.Minute).1 m.Escape).Num)=w64 (m.Beats*(mA (fB m.Works m.Minute).1 m.Escape).Den) <;> by_cases b3:(m.Cam.length:Int) % m.Calendar.Months.length=0 <;> simp [b1,b2,b3,chk]
  ·rw [if_pos hs,if_neg hs]
   unfold aM3 aTk
   by_cases b3:(m.Cam.length:Int) % m.Calendar.Months.length=0 <;> simp [b3,chk]
 ·rw [if_neg hv,Bool.not_eq_true] at *
  rw [hv];rfl
theorem aGo {m:aG} (h:gB m) (hv:aCs m=true):nQ m=some (rC m):=by
 unfold nQ rC
 have hcl:m.Cam.length≤1048576:=h.2.2.2.2.2.2.2.2.1.1
 have hml:m.Calendar.Months.length≤1048576:=h.2.2.2.2.2.2.2.1.2.1.1
 have hrl:m.Calendar.Rules.length≤1048576:=h.2.2.2.2.2.2.2.1.2.2.1.1
 obtain ⟨hw,k1,k2,k3⟩:=aDt hv
 obtain ⟨c1,c2⟩:=aIj hv
 have hbel : ∀ (x y:Option (List ByteArray)),((oT m.Calendar m.Cam).bind fun v11=>if v11≠0 then x else y)=if (m.Cam.length:Int) % m.Calendar.Months.length=0 then y else x:=by
  intro x y
  rw [aFl (by omega) (by omega) (by omega),Option.bind_some,aOc c1 c2]
  by_cases h0:(m.Cam.length:Int) % m.Calendar.Months.length=0
  ·rw [if_pos h0,if_pos h0,if_neg (by decide)]
  ·rw [if_neg h0,if_neg h0,if_pos (by decide)]
 rw [aGm hw]
 simp only [Option.bind_some,hbel]
 by_cases hs:(fB m.Works m.Minute).2=0
 ·have s2:=qW hw hs k2
  have s3:=qW hw hs k3
  have d3:=aCv s3.2.1
  rw [if_neg (by simp [hs]),if_pos hs,s2.1,s3.1]
  unfold sZ
  simp only [Option.bind_some]
  rw [aK1 (by omega) (by omega)]
  simp only [Option.bind_some]
  unfold aR2 aTl aM2 aTk
  by_cases b1:mA (fB m.Works m.Minute).1 m.Hour=⟨1,12⟩ <;> by_cases b2:w64 (w64 (2*m.Teeth)*qY (mA (fB m.Works m.Minute).1 m.Escape).Num)=w64 (m.Beats*(mA (fB m.Works m.Minute).1 m.Escape).Den) <;> by_cases b3:(m.Cam.length:Int) % m.Calendar.Months.length=0 <;> simp [b1,b2,b3,chk]
 ·rw [if_pos hs,if_neg hs]
  unfold aM3 aTk
  by_cases b3:(m.Cam.length:Int) % m.Calendar.Months.length=0 <;> simp [b3,chk]
theorem aDn {α:Type} {xs:List α} {k:Nat} (hl:xs.length≤1048576) (hk:k≤100):(chk ((([]:List α).length+xs.length)*k*64≤140737488355328) (some (([]:List α)++xs)))=some xs:=by
 rw [eA ?_,List.nil_append]
 have:(([]:List α).length+xs.length)*k≤1048576*100:=Nat.mul_le_mul (by simpa using hl) hk
 omega
theorem aF9 {w:aP} (h:aJd w):nK w=some w:=by
 unfold nK
 have hl:=h.1.1
 rw [aR7 (xs:=w.Arbors) (f:=fun a=>[a]) (c:=1) (fun v _=>by simp) (fun i hi ys hy => ?_) (fun ys=>by simp) (by omega)]
 ·simp only [Option.bind_some]
  unfold fO
  rw [aDn h.2.1 (by omega)]
  simp
 ·have hi':(i:Int)<w.Arbors.length:=by omega
  have hw:=(h.1.2 _ (List.getElem_mem hi)).2.1
  simp only [if_pos hi',eL hi,Option.bind_some,aQ (x:=(i:Int)+1) (by omega) (by omega)]
  first | unfold bE | unfold slices_Clone_Lint64_int64_v_m
  rw [aDn hw (by omega),Option.bind_some,eA (by simp at hy ⊢;omega)]
theorem tV {m:aG} (h:gB m):fZ m=some m:=by
 unfold fZ
 rw [aF9 h.2.1,Option.bind_some]
 unfold eX dQ
 rw [aDn h.2.2.2.2.2.2.2.1.2.1.1 (by omega),Option.bind_some,aDn h.2.2.2.2.2.2.2.1.2.2.1.1 (by omega),Option.bind_some,aH8 h.2.2.2.2.2.2.2.2.1.1,Option.bind_some]
def bFe:aG:=⟨⟨#[]⟩,⟨[],[]⟩,0,0,0,0,0,⟨⟨#[]⟩,[],[],0⟩,[],0⟩
def bFf:aD:=⟨[],0,0,0,0,0,0⟩
def aLw:cH:=⟨bFe,⟨0,0,0⟩,0,0,bFf⟩
def bCv (m:aG) (d:aS) (wd:Int):cH × Int :=
 if aCs m=true then (if rC m=[] then (if (aC5 m.Calendar m.Cam d wd).2=0 then (⟨m,d,wd,0,(aC5 m.Calendar m.Cam d wd).1⟩,0) else (aLw,(aC5 m.Calendar m.Cam d wd).2)) else (aLw,6)) else (aLw,1)
theorem smC {m:aG} (h:gB m):m.Calendar.Months.length≤1048576∧m.Calendar.Rules.length≤1048576∧m.Cam.length≤1048576:=⟨h.2.2.2.2.2.2.2.1.2.1.1,h.2.2.2.2.2.2.2.1.2.2.1.1,h.2.2.2.2.2.2.2.2.1.1⟩
theorem aS8 {α:Type} {xs:List α}:(0<(xs.length:Int)) ↔ ¬ xs=[]:=by
 cases xs <;> simp
theorem aEp {m:aG} (h:gB m) (d:aS) (wd:Int):mJ m d wd=some (bCv m d wd):=by
 obtain ⟨c1,c2,c3⟩:=smC h
 unfold mJ bCv
 rw [jZ h,Option.bind_some]
 cases hv:aCs m
 ·rfl
 ·rw [zC h,hv]
  simp only [Bool.not_true,Bool.false_eq_true,if_false,if_true,Option.bind_some,aS8]
  by_cases hf:rC m=[]
  ·rw [if_neg (by simp [hf]),if_pos hf,oL (by omega) (by omega) c3,Option.bind_some]
   by_cases hs:(aC5 m.Calendar m.Cam d wd).2=0
   ·rw [if_neg (by simp [hs]),if_pos hs,tV h,Option.bind_some]
   ·rw [if_pos hs,if_neg hs];rfl
  ·rw [if_pos hf,if_neg hf];rfl
def aD0 (s:cH):Bool:=aCs s.Movement && (decide (rC s.Movement=[]) && (decide ((aC5 s.Movement.Calendar s.Movement.Cam s.Start s.First).2=0) && (btw s.Clock 0 1000000000 && (aDv s.Dial && (decide (s.Dial.Cam=s.Movement.Cam) && (decide (s.Dial.Months=(aC5 s.Movement.Calendar s.Movement.Cam s.Start s.First).1.Months) && (decide (s.Dial.Teeth=(aC5 s.Movement.Calendar s.Movement.Cam s.Start s.First).1.Teeth) && decide (s.Dial.Week=(aC5 s.Movement.Calendar s.Movement.Cam s.Start s.First).1.Week))))))))
theorem aWt {c:aC} {cam:List Int} {d:aS} {wd:Int} (h:(aC5 c cam d wd).2=0):(aC5 c cam d wd).1.Cam=cam:=by
 unfold aC5 at h ⊢
 split
 ·rename_i h1
  rw [if_pos h1] at h
  split
  ·rfl
  ·rename_i h2;rw [if_neg h2] at h;cases h
 ·rename_i h1
  rw [if_neg h1] at h
  exact absurd h h1
theorem lA {s:cH} (h:uF s):eQ s=some (aD0 s):=by
 obtain ⟨hm,_,_,_,hd⟩:=h
 have hdl:=hd.1.1
 unfold eQ aD0
 rw [aEp hm,Option.bind_some]
 unfold bCv
 cases hv:aCs s.Movement
 ·rfl
 ·by_cases hf:rC s.Movement=[]
  ·by_cases hs:(aC5 s.Movement.Calendar s.Movement.Cam s.Start s.First).2=0
   ·have hc:=aWt hs
    rw [if_pos rfl,if_pos hf,if_pos hs,decide_eq_true hf,decide_eq_true hs]
    simp only [ne_eq,not_true_eq_false,if_false,cN,Option.bind_some,mB (p:=s.Dial) (by omega),itO,hc,bDi (xs:=s.Dial.Cam) (ys:=s.Movement.Cam) (by omega),Bool.true_and]
    simp only [bDl,itA,Bool.decide_eq_true]
    cases btw s.Clock 0 1000000000
    ·rfl
    ·cases aDv s.Dial
     ·rfl
     ·simp only [Bool.not_true,Bool.or_self,Bool.false_eq_true,if_false,Bool.true_and]
   ·rw [if_pos rfl,if_pos hf,if_neg hs,if_pos hs,decide_eq_false hs,decide_eq_true hf];rfl
  ·rw [if_pos rfl,if_neg hf,decide_eq_false hf];rfl
theorem aRd {s:cH} (h:uF s):xR s=some (aD0 s):=by
 obtain ⟨hm,_,_,_,hd⟩:=h
 have hdl:=hd.1.1
 obtain ⟨c1,c2,c3⟩:=smC hm
 unfold xR aD0 vT
 rw [aRc hm,Option.bind_some]
 cases hv:aCs s.Movement
 ·rfl
 ·rw [aGo hm hv]
  simp only [Bool.not_true,Bool.false_eq_true,if_false,Option.bind_some,aS8]
  by_cases hf:rC s.Movement=[]
  ·rw [if_neg (by simp [hf]),decide_eq_true hf]
   simp only [eY,Option.bind_some,aRb (p:=s.Dial) (by omega),itO,aB2 (c:=s.Movement.Calendar) (cam:=s.Movement.Cam) (by omega) (by omega) c3,bDz (xs:=s.Dial.Cam) (ys:=s.Movement.Cam) (by omega),Bool.true_and]
   simp only [bDl,itA,Bool.decide_eq_true]
   cases btw s.Clock 0 1000000000
   ·cases decide ((aC5 s.Movement.Calendar s.Movement.Cam s.Start s.First).2=0) <;> rfl
   ·cases aDv s.Dial
    ·cases decide ((aC5 s.Movement.Calendar s.Movement.Cam s.Start s.First).2=0) <;> rfl
    ·simp only [Bool.not_true,Bool.or_self,Bool.false_eq_true,if_false,Bool.true_and]
     congr 1
     ac_rfl
  ·rw [if_pos hf,Option.bind_some,if_pos rfl,decide_eq_false hf];rfl
end Go.Proofs.YtbliejnpjpnahaaGreatDoor
namespace Go.Proofs.YtbliejnpjpnahaaGreatDoor
set_option linter.unusedVariables false
def aJp (c:aC) (y:Int) (k:Nat):Int:=aB8 (fun j=>uI c (iM c y) (j:Int)) k
def aBg (c:aC) (d:aS):Int:=bef c d.Year.toNat+(d.Day-1)+aJp c d.Year (d.Month-1).toNat
theorem zY {c:aC} (h:sQ c=true) (y:Int) {m n:Nat} (hm:m≤n):aJp c y m≤aJp c y n:=aLj (fun k=>aY5 h _ k) hm
theorem aHm {c:aC} (y:Int) (y0:0≤y):aJp c y c.Months.length=aGj c y.toNat:=by
 unfold aJp aGj aPq
 rw [show ((y.toNat:Nat):Int)=y by omega]
theorem zZ (c:aC) (y:Int) (k:Nat):aJp c y (k+1)=aJp c y k+uI c (iM c y) k:=rfl
theorem iO {c:aC} {d:aS}:qB c d=true ↔ (0≤d.Year∧d.Year≤9999)∧(1≤d.Month∧d.Month≤c.Months.length)∧1≤d.Day∧d.Day≤uI c (iM c d.Year) (d.Month-1):=by
 unfold qB btw
 simp only [Bool.and_eq_true,decide_eq_true_eq]
theorem bA4 {c:aC} (h:sQ c=true) {d:aS} (hd:qB c d=true):0≤aJp c d.Year (d.Month-1).toNat∧bef c d.Year.toNat≤aBg c d∧aBg c d<bef c (d.Year.toNat+1)∧aJp c d.Year (d.Month-1).toNat+d.Day≤aGj c d.Year.toNat:=by
 obtain ⟨⟨y0,y1⟩,⟨m0,m1⟩,d0,d1⟩:=iO.1 hd
 have e:(((d.Month-1).toNat:Nat):Int)=d.Month-1:=by omega
 have h1:=zY h d.Year (m:=0) (n:=(d.Month-1).toNat) (by omega)
 have h0:aJp c d.Year 0=0:=rfl
 have h2:=zY h d.Year (m:=(d.Month-1).toNat+1) (n:=c.Months.length) (by omega)
 rw [zZ,aHm d.Year y0,e] at h2
 rw [aHn]
 unfold aBg
 omega
def yrs (c:aC):Nat:=10000+0*c.Months.length
theorem aHg (c:aC):yrs c=10000:=by unfold yrs;omega
def aLx (c:aC):Int:=bef c (yrs c)
theorem aYr {c:aC} (h:sQ c=true) {d:aS} (hd:qB c d=true):0≤aBg c d∧aBg c d<aLx c∧aLx c≤12000000:=by
 obtain ⟨⟨y0,y1⟩,_⟩:=iO.1 hd
 have a:=bA4 h hd
 have b:=(aEb h d.Year.toNat).1
 have e:=aOf h (m:=d.Year.toNat+1) (n:=yrs c) (by rw [aHg];omega)
 have f:=(aEb h (yrs c)).2
 have g:=aHg c
 unfold aLx
 omega
theorem aQi {c:aC} (h:sQ c=true) {d:aS} (hd:qB c d=true):xA c d=some (aBg c d):=by
 obtain ⟨⟨y0,y1⟩,⟨m0,m1⟩,d0,d1⟩:=iO.1 hd
 have hc:=(fC h).2.1
 have b:=aEb h d.Year.toNat
 have hl:=oQ h (iM c d.Year) (k:=d.Month-1) (by omega) (by omega)
 unfold xA
 rw [xB h y0 (by omega),Option.bind_some,mD h y0,Option.bind_some,aQ (x:=bef c _+_) (by omega) (by omega),aQ (by omega) (by omega)]
 rw [aSg (fun i (s:Int)=>(s,i)) 1 (d.Month-1).toNat (fun k s=>s+uI c (iM c d.Year) k) id (fun i s=>0≤s∧s≤12001000+60*i) (by omega) (fun i s hi hs => ?_) (fun i s hi hs => ?_) (fun s hs => ?_) _ ⟨by omega,by simp;omega⟩]
 ·rw [aHs]
  unfold aBg aJp
  simp only [id,Option.bind_some]
  congr 1;try omega
 ·have hi':1+(i:Int)<d.Month:=by omega
  have hq:=oQ h (iM c d.Year) (k:=i) (by omega) (by omega)
  simp only [if_pos hi',jN h _ (m:=1+(i:Int)) (by omega) (by omega),Option.bind_some]
  rw [show 1+(i:Int)-1=i by omega,aQ (by omega) (by omega),aQ (by omega) (by omega)]
  congr 3;try omega
 ·have hq:=oQ h (iM c d.Year) (k:=i) (by omega) (by omega)
  omega
 ·have : ¬ (1+((d.Month-1).toNat:Int)<d.Month):=by omega
  simp only [if_neg this];rfl
def aCd (c:aC) (day:Int) (s:Int × aS):Prop:=s.2.Month=1∧s.2.Day=0∧0≤s.2.Year∧0≤s.1∧bef c s.2.Year.toNat+s.1=day
theorem aCd.bd {c:aC} (h:sQ c=true) {day:Int} {s:Int × aS} (hs:aCd c day s) (hd:day<aLx c):s.2.Year≤9999∧s.1≤12000000:=by
 obtain ⟨_,_,h3,h4,h5⟩:=hs
 have f:=(aEb h (yrs c)).2
 have g:=(aEb h s.2.Year.toNat).1
 have y:=aHg c
 unfold aLx at hd
 refine ⟨?_,by omega⟩
 refine Classical.byContradiction fun hn => ?_
 have:=aOf h (m:=yrs c) (n:=s.2.Year.toNat) (by omega)
 omega
theorem aUz {c:aC} (h:sQ c=true) {day:Int} (hd:day<aLx c) {step:Int × aS→Option ((Int × aS) ⊕ (Int × aS))}
  (hS : ∀ s,aCd c day s→step s=some (if aGj c s.2.Year.toNat≤s.1 then .inl (s.1-aGj c s.2.Year.toNat,⟨s.2.Year+1,s.2.Month,s.2.Day⟩) else .inr (s.1,s.2))) (s0:Int × aS) (h0:aCd c day s0) :
  ∃ x,bQ step s0=some x∧aCd c day x∧x.1<aGj c x.2.Year.toNat:=by
 refine sW (fun s=>aCd c day s) (fun s=>s.1.toNat) (fun x=>aCd c day x∧x.1<aGj c x.2.Year.toNat) (fun s hI => ?_) s0 h0 (by have:=(h0.bd h hd).2;omega)
 rw [hS s hI]
 have hq:=zK h s.2.Year.toNat
 obtain ⟨h1,h2,h3,h4,h5⟩:=hI
 by_cases hc:aGj c s.2.Year.toNat≤s.1
 ·left
  refine ⟨(s.1-aGj c s.2.Year.toNat,⟨s.2.Year+1,s.2.Month,s.2.Day⟩),by rw [if_pos hc],⟨h1,h2,by dsimp only;omega,by dsimp only;omega,?_⟩,by dsimp only;omega⟩
  dsimp only
  rw [show (s.2.Year+1).toNat=s.2.Year.toNat+1 by omega,aHn]
  omega
 ·right
  exact ⟨(s.1,s.2),by rw [if_neg hc],⟨h1,h2,h3,h4,h5⟩,by dsimp only;omega⟩
def aPz (c:aC) (y r:Int) (s:Int × aS):Prop:=s.2.Year=y∧1≤s.2.Month∧s.2.Month≤c.Months.length∧0≤s.1∧aJp c y (s.2.Month-1).toNat+s.1=r
theorem aWc {c:aC} (h:sQ c=true) {y r:Int} (y0:0≤y) (hr:r<aGj c y.toNat) {step:Int × aS→Option ((Int × aS) ⊕ (Int × aS))}
  (hS : ∀ s,aPz c y r s→step s=some (if uI c (iM c y) (s.2.Month-1)≤s.1 then .inl (s.1-uI c (iM c y) (s.2.Month-1),⟨s.2.Year,s.2.Month+1,s.2.Day⟩) else .inr (s.1,s.2))) (s0:Int × aS) (h0:aPz c y r s0) :
  ∃ x,bQ step s0=some x∧aPz c y r x∧x.1<uI c (iM c y) (x.2.Month-1):=by
 have hl:=zK h y.toNat
 have nn : ∀ k,0≤aJp c y k:=fun k=>zY h y (m:=0) (n:=k) (by omega)
 refine sW (fun s=>aPz c y r s) (fun s=>s.1.toNat) (fun x=>aPz c y r x∧x.1<uI c (iM c y) (x.2.Month-1)) (fun s hI => ?_) s0 h0 (by obtain ⟨_,_,_,h4,h5⟩:=h0;have:=nn (s0.2.Month-1).toNat;omega)
 rw [hS s hI]
 obtain ⟨h1,h2,h3,h4,h5⟩:=hI
 have hq:=oQ h (iM c y) (k:=s.2.Month-1) (by omega) (by omega)
 by_cases hc:uI c (iM c y) (s.2.Month-1)≤s.1
 ·left
  have e:(s.2.Month+1-1).toNat=(s.2.Month-1).toNat+1:=by omega
  have e2:(((s.2.Month-1).toNat:Nat):Int)=s.2.Month-1:=by omega
  refine ⟨(s.1-uI c (iM c y) (s.2.Month-1),⟨s.2.Year,s.2.Month+1,s.2.Day⟩),by rw [if_pos hc],⟨h1,by dsimp only;omega,?_,by dsimp only;omega,?_⟩,by dsimp only;omega⟩
  ·dsimp only
   refine Classical.byContradiction fun hn => ?_
   have e3:(s.2.Month-1).toNat+1=c.Months.length:=by omega
   have:=zZ c y (s.2.Month-1).toNat
   rw [e3,aHm y y0,e2] at this
   omega
  ·dsimp only
   rw [e,zZ,e2]
   omega
 ·right
  exact ⟨(s.1,s.2),by rw [if_neg hc],⟨h1,h2,h3,h4,h5⟩,by dsimp only;omega⟩
theorem aWb {c:aC} {day:Int} {x:Int × aS} (hx:aCd c day x) (hy:x.2.Year≤9999) {z:Int × aS} (hz:aPz c x.2.Year x.1 z) (hl:z.1<uI c (iM c x.2.Year) (z.2.Month-1)):qB c ⟨z.2.Year,z.2.Month,z.1+1⟩=true∧aBg c ⟨z.2.Year,z.2.Month,z.1+1⟩=day:=by
 obtain ⟨h1,h2,h3,h4,h5⟩:=hx
 obtain ⟨g1,g2,g3,g4,g5⟩:=hz
 refine ⟨iO.2 ⟨⟨?_,?_⟩,⟨g2,g3⟩,?_,?_⟩,?_⟩
 ·dsimp only;omega
 ·dsimp only;omega
 ·dsimp only;omega
 ·dsimp only;rw [g1];omega
 ·unfold aBg
  dsimp only
  rw [g1];omega
theorem aMj {c:aC} (h:sQ c=true) {day:Int} (h0:0≤day) (h1:day<aLx c) : ∃ d,tW c day=some d∧qB c d=true∧aBg c d=day:=by
 have hc:=(fC h).2.1
 have hA:aLx c≤12000000:=by have:=(aEb h (yrs c)).2;have:=aHg c;unfold aLx;omega
 unfold tW
 rw [vX h,Option.bind_some]
 obtain ⟨x,ex,hx,hxl⟩:=aUz h h1 (step:=fun (s5:Int × aS)=>((((gJ c s5.2.Year).bind fun v6=>(if v6=true then some (aPq c true) else some (aPq c false))):Option Int).bind fun v7=>(if s5.1<v7 then some (.inr (s5.1,s5.2)) else some (.inl (w64 (s5.1-v7),(⟨w64 (s5.2.Year+1),s5.2.Month,s5.2.Day⟩:aS)))))) (fun s hs=>by
  have hb:=hs.bd h h1
  obtain ⟨_,_,y0,r0,_⟩:=hs
  have hq:=zK h s.2.Year.toNat
  have e:(if iM c s.2.Year=true then some (aPq c true) else some (aPq c false))=some (aGj c s.2.Year.toNat):=by
   unfold aGj
   rw [show ((s.2.Year.toNat:Nat):Int)=s.2.Year by omega]
   cases iM c s.2.Year <;> rfl
  simp only [mD h y0,Option.bind_some,e]
  by_cases hl:s.1<aGj c s.2.Year.toNat
  ·rw [if_pos hl,if_neg (by omega)]
  ·rw [if_neg hl,if_pos (by omega),aQ (by omega) (by omega),aQ (by omega) (by omega)]) (day,⟨0,1,0⟩) ⟨rfl,rfl,by simp,h0,by simp [bef,aB8]⟩
 have hxb:=hx.bd h h1
 have hx':=hx
 obtain ⟨x1,x2,x3,x4,x5⟩:=hx'
 rw [ex,Option.bind_some,mD h x3]
 simp only [Option.bind_some]
 obtain ⟨z,ez,hz,hzl⟩:=aWc h x3 hxl (step:=fun (s13:Int × aS)=>((dH c (iM c x.2.Year) s13.2.Month).bind fun v14=>(if v14≤s13.1 then ((dH c (iM c x.2.Year) s13.2.Month).bind fun v15=>some (.inl (w64 (s13.1-v15),(⟨s13.2.Year,w64 (s13.2.Month+1),s13.2.Day⟩:aS)))) else some (.inr (s13.1,s13.2))))) (fun s hs=>by
  obtain ⟨s1,s2,s3,s4,s5⟩:=hs
  have hq:=oQ h (iM c x.2.Year) (k:=s.2.Month-1) (by omega) (by omega)
  have nn:0≤aJp c x.2.Year (s.2.Month-1).toNat:=zY h x.2.Year (m:=0) (n:=(s.2.Month-1).toNat) (by omega)
  simp only [jN h (iM c x.2.Year) s2 s3,Option.bind_some]
  by_cases hl:uI c (iM c x.2.Year) (s.2.Month-1)≤s.1
  ·rw [if_pos hl,if_pos hl,aQ (by omega) (by omega),aQ (by omega) (by omega)]
  ·rw [if_neg hl,if_neg hl]) (x.1,x.2) ⟨rfl,by dsimp only;omega,by dsimp only;omega,x4,by
   rw [x1]
   show aJp c x.2.Year 0+x.1=x.1
   have:aJp c x.2.Year 0=0:=rfl
   omega⟩
 rw [ez,Option.bind_some]
 obtain ⟨m1,m2,m3,m4,m5⟩:=hz
 have hq:=oQ h (iM c x.2.Year) (k:=z.2.Month-1) (by omega) (by omega)
 rw [aQ (by omega) (by omega)]
 exact ⟨_,rfl,aWb hx hxb.1 ⟨m1,m2,m3,m4,m5⟩ hzl⟩
theorem aJ7 {c:aC} (h:sQ c=true):rN c=some (aLx c-1):=by
 have hA:=aEb h (yrs c)
 have hy:=aHg c
 unfold rN
 have e:(10000:Int).toNat=yrs c:=by rw [aHg];rfl
 have:=xB h (y:=10000) (by omega) (by omega)
 rw [e] at this
 rw [this,Option.bind_some,aQ (by omega) (by omega)];rfl
end Go.Proofs.YtbliejnpjpnahaaGreatDoor
namespace Go.Proofs.YtbliejnpjpnahaaGreatDoor
set_option linter.unusedVariables false
theorem nS {s:cH} (h:aD0 s=true):aCs s.Movement=true∧rC s.Movement=[]∧(aC5 s.Movement.Calendar s.Movement.Cam s.Start s.First).2=0∧(0≤s.Clock∧s.Clock≤1000000000)∧aDv s.Dial=true:=by
 unfold aD0 at h
 simp only [Bool.and_eq_true,decide_eq_true_eq] at h
 exact ⟨h.1,h.2.1,h.2.2.1,of_decide_eq_true h.2.2.2.1,h.2.2.2.2.1⟩
theorem zP {c:aC} {cam:List Int} {d:aS} {wd:Int} (h:(aC5 c cam d wd).2=0):aDk c cam=0∧qB c d=true∧1≤wd∧wd≤c.Week:=by
 unfold aC5 at h
 split at h
 ·rename_i h1
  split at h
  ·rename_i h2
   rw [Bool.and_eq_true] at h2
   exact ⟨h1,h2.1,of_decide_eq_true h2.2⟩
  ·cases h
 ·rename_i h1;exact absurd h h1
theorem aA6 {s:cH} (h:aD0 s=true):sQ s.Movement.Calendar=true∧qB s.Movement.Calendar s.Start=true∧(1≤s.First∧s.First≤s.Movement.Calendar.Week)∧(1≤s.Movement.Calendar.Week∧s.Movement.Calendar.Week≤12)∧(0≤s.Clock∧s.Clock≤1000000000)∧aDv s.Dial=true:=by
 obtain ⟨h1,_,h3,h4,h5⟩:=nS h
 obtain ⟨_,g2,g3⟩:=zP h3
 have hc:=(aIj h1).1
 exact ⟨hc,g2,g3,(fC hc).2.2.2.1,h4,h5⟩
def bAt (s:cH) (r:Option aS):Prop :=
 (aBg s.Movement.Calendar s.Start+s.Clock / 86400<aLx s.Movement.Calendar ∧ ∃ d,r=some d∧qB s.Movement.Calendar d=true∧aBg s.Movement.Calendar d=aBg s.Movement.Calendar s.Start+s.Clock / 86400)∨(¬ aBg s.Movement.Calendar s.Start+s.Clock / 86400<aLx s.Movement.Calendar∧r=none)
def wdR (s:cH):Int:=w64 ((w64 (w64 (s.First-1)+s.Clock / 86400)).tmod s.Movement.Calendar.Week+1)
theorem vC {s:cH} (hs:uF s) (h:aD0 s=true) : ∃ r,bAt s r∧jD s=some (match r with
  | some d=>(d,wdR s,0)
  | none=>(⟨0,0,0⟩,0,2)):=by
 obtain ⟨c1,c2,_⟩:=smC hs.1
 obtain ⟨hc,hd,hf,hw,hk,_⟩:=aA6 h
 have hb:=aYr hc hd
 have hq:=yU (a:=s.Clock) (g:=86400) hk.1 (by omega)
 unfold jD uS aAh vF
 rw [Int.tdiv_eq_ediv_of_nonneg hk.1,aQ (x:=s.Clock / 86400) (by omega) (by omega),iC (by omega) (by omega),hc]
 simp only [Bool.not_true,Bool.false_eq_true,if_false,Option.bind_some,tE (show s.Movement.Calendar.Months.length≤9223372036854775807 by omega) (show s.Movement.Calendar.Rules.length≤9223372036854775807 by omega),hc,hd,Bool.and_self,aQi hc hd,ne_eq,not_true_eq_false,aJ7 hc,cN]
 rw [aQ (x := -aBg _ _) (by omega) (by omega),aQ (x:=aLx _-1-aBg _ _) (by omega) (by omega)]
 by_cases hl:aBg s.Movement.Calendar s.Start+s.Clock / 86400<aLx s.Movement.Calendar
 ·have e:btw (s.Clock / 86400) (-aBg s.Movement.Calendar s.Start) (aLx s.Movement.Calendar-1-aBg s.Movement.Calendar s.Start)=true:=decide_eq_true (by omega)
  obtain ⟨d,e1,e2,e3⟩:=aMj hc (day:=aBg s.Movement.Calendar s.Start+s.Clock / 86400) (by omega) hl
  refine ⟨some d, .inl ⟨hl,d,rfl,e2,e3⟩,?_⟩
  rw [e,Bool.not_true,if_neg (by decide),aQ (x:=aBg _ _+_) (by omega) (by omega),e1]
  simp only [Option.bind_some,not_true_eq_false,if_false]
  rw [eA (by omega)];rfl
 ·have e:btw (s.Clock / 86400) (-aBg s.Movement.Calendar s.Start) (aLx s.Movement.Calendar-1-aBg s.Movement.Calendar s.Start)=false:=decide_eq_false (by omega)
  refine ⟨none, .inr ⟨hl,rfl⟩,?_⟩
  rw [e];rfl
theorem aM7 {p:aD} (h:aDv p=true):1≤p.Months:=by
 unfold aDv at h
 simp only [Bool.and_eq_true,decide_eq_true_eq] at h
 exact h.2.1
end Go.Proofs.YtbliejnpjpnahaaGreatDoor
