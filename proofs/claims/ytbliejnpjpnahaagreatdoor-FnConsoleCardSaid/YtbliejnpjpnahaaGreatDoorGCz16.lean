/- Texts of this claim, one behind the other (merged by a program of mine). -/
import Derived.Lib.ItoaLen
import Derived.KernelRfl
import Derived.Test.YtbliejnpjpnahaaGreatDoorGCz15
set_option linter.unusedSimpArgs false
set_option linter.unusedVariables false
namespace Go.Proofs.YtbliejnpjpnahaaGreatDoor
set_option linter.unusedVariables false
def aB0 (p:aD):Prop:=(0≤p.At∧p.At<p.Cam.length∧p.Cam.length≤260)∧(1≤p.Day∧p.Day≤p.Teeth∧p.Teeth≤60)∧(1≤p.Week∧p.Week≤12)∧1≤p.Weekday∧p.Weekday≤p.Week
theorem aIt {p:aD} (h:aDv p=true):aB0 p:=by
 unfold aDv at h
 simp only [Bool.and_eq_true,decide_eq_true_eq] at h
 obtain ⟨h1,h2,h3,h4,h5,h6,h7,h8,h9⟩:=h
 have hl:=(nB h1).2.2
 unfold btw at h7 h8 h9
 simp only [decide_eq_true_eq] at h7 h8 h9
 exact ⟨⟨h6.1,h6.2,hl⟩,⟨h7.1,h7.2,h4⟩,⟨h8.1,h8.2⟩,h9.1,h9.2⟩
def aDd (p:aD) (n:Int):aD:=if p.Teeth<p.Day+n then ⟨p.Cam,p.Months,p.Teeth,(p.At+1).tmod p.Cam.length,p.Day+n-p.Teeth,p.Week,p.Weekday⟩ else ⟨p.Cam,p.Months,p.Teeth,p.At,p.Day+n,p.Week,p.Weekday⟩
def wA (p:aD):Int:=if p.Day=p.Cam.getD p.At.toNat 0 then p.Teeth+1-p.Day else 1
def aKo (p:aD):aD:=⟨p.Cam,p.Months,p.Teeth,(p.At+1).tmod p.Cam.length,p.Day,p.Week,p.Weekday⟩
def aLs (p:aD):aD:=⟨p.Cam,p.Months,p.Teeth,p.At,p.Day,p.Week,p.Weekday.tmod p.Week+1⟩
def aAx (p:aD):aD:=aLs (aDd p (wA p))
theorem aCa {a n:Int} (h0:0≤a) (hn:0<n):0≤a.tmod n∧a.tmod n<n:=by
 rw [Int.tmod_eq_emod_of_nonneg h0]
 exact ⟨Int.emod_nonneg _ (by omega),Int.emod_lt_of_pos _ hn⟩
theorem aFq {p:aD} (h:aB0 p):1≤wA p∧p.Day+wA p≤p.Teeth+1:=by
 obtain ⟨_,h2,_⟩:=h
 unfold wA
 split <;> omega
theorem aIk {p:aD} {n:Int} (h:aB0 p) (h1:1≤n) (h2:p.Day+n≤p.Teeth+1):aB0 (aDd p n):=by
 obtain ⟨⟨a1,a2,a3⟩,⟨b1,b2,b3⟩,hw⟩:=h
 have t:=aCa (a:=p.At+1) (n:=p.Cam.length) (by omega) (by omega)
 unfold aDd
 split
 ·exact ⟨⟨t.1,t.2,a3⟩,⟨by dsimp only;omega,by dsimp only;omega,b3⟩,hw⟩
 ·exact ⟨⟨a1,a2,a3⟩,⟨by dsimp only;omega,by dsimp only;omega,b3⟩,hw⟩
theorem aUu {p:aD} (h:aB0 p):aB0 (aLs p):=by
 obtain ⟨ha,hb,hc,d1,d2⟩:=h
 have t:=aCa (a:=p.Weekday) (n:=p.Week) (by omega) (by omega)
 exact ⟨ha,hb,hc,by unfold aLs;dsimp only;omega,by unfold aLs;dsimp only;omega⟩
theorem aWd {p:aD} (h:aB0 p):aB0 (aKo p):=by
 obtain ⟨⟨a1,a2,a3⟩,hb⟩:=h
 have t:=aCa (a:=p.At+1) (n:=p.Cam.length) (by omega) (by omega)
 exact ⟨⟨t.1,t.2,a3⟩,hb⟩
theorem aIn {p:aD} (h:aB0 p):aB0 (aAx p):=by
 have s:=aFq h
 exact aUu (aIk h s.1 s.2)
def aEi (s:cH) (p:aD):cH:=⟨s.Movement,s.Start,s.First,s.Clock,p⟩
theorem aW3 {p:aD} (h:aB0 p):atI p.Cam p.At=some (p.Cam.getD p.At.toNat 0):=by
 obtain ⟨⟨a1,a2,a3⟩,_⟩:=h
 unfold atI
 rw [if_pos a1,List.getElem?_eq_getElem (by omega)]
 simp [List.getD_eq_getElem?_getD,List.getElem?_eq_getElem (show p.At.toNat<p.Cam.length by omega)]
theorem sT {p:aD} (h:aB0 p):gM p=some (wA p):=by
 obtain ⟨_,⟨b1,b2,b3⟩,_⟩:=id h
 unfold gM wA
 rw [aW3 h,Option.bind_some,aQ (x:=p.Teeth+1) (by omega) (by omega),aQ (x:=p.Teeth+1-p.Day) (by omega) (by omega)]
 split <;> rfl
theorem yR {s:cH} (h:0≤s.Dial.At∧s.Dial.At<s.Dial.Cam.length∧s.Dial.Cam.length≤260):cW s=some (aEi s (aKo s.Dial)):=by
 unfold cW aEi aKo
 rw [eA (by omega),aQ (x:=s.Dial.At+1) (by omega) (by omega)]
theorem vW {s:cH} (h:aB0 s.Dial):cR s=some (aEi s (aLs s.Dial)):=by
 obtain ⟨_,_,hc,d1,d2⟩:=h
 have t:=aCa (a:=s.Dial.Weekday) (n:=s.Dial.Week) (by omega) (by omega)
 unfold cR aEi aLs
 rw [eA (by omega),aQ (by omega) (by omega)]
theorem aAq {s:cH} {n:Int} (h:aB0 s.Dial) (h1:1≤n) (h2:s.Dial.Day+n≤s.Dial.Teeth+1):dF s n=some (aEi s (aDd s.Dial n)):=by
 obtain ⟨ha,⟨b1,b2,b3⟩,hw⟩:=h
 unfold dF aDd
 rw [aQ (x:=s.Dial.Day+n) (by omega) (by omega),aQ (x:=s.Dial.Day+n-s.Dial.Teeth) (by omega) (by omega)]
 split
 ·rw [yR (by exact ha)];rfl
 ·rfl
theorem aId {s:cH} (h:aB0 s.Dial):cM s=some (aEi s (aAx s.Dial)):=by
 have hs:=aFq h
 unfold cM
 rw [sT h,Option.bind_some,aAq h hs.1 hs.2,Option.bind_some,vW (by exact aIk h hs.1 hs.2)];rfl
theorem pM {s:cH} (h:uF s):iE s=some s:=by
 have hd:=h.2.2.2.2.1.1
 unfold iE mX
 rw [tV h.1,Option.bind_some,aH8 hd];rfl
def aZp (s:cH) (k:Int):cH × Int :=
 if aD0 s=true then (if k=1 then (aEi s (aDd s.Dial 1),0) else if k=2 then (aEi s (aKo s.Dial),0) else if k=3 then (aEi s (aLs s.Dial),0) else (aLw,2)) else (aLw,1)
theorem yC {s:cH} (h:aD0 s=true):aDv s.Dial=true:=(nS h).2.2.2.2
theorem aJ3 {s:cH} (h:uF s) (k:Int):oK s k=some (aZp s k):=by
 unfold oK aZp
 rw [lA h,Option.bind_some]
 cases hv:aD0 s
 ·rfl
 ·have hp:=aIt (yC hv)
  have hb:=hp.2.1
  rw [pM h]
  simp only [Bool.not_true,Bool.false_eq_true,if_false,if_true,Option.bind_some]
  by_cases h1:k=1
  ·rw [if_pos h1,if_pos h1,aAq hp (by omega) (by omega)];rfl
  ·rw [if_neg h1,if_neg h1]
   by_cases h2:k=2
   ·rw [if_pos h2,if_pos h2,yR hp.1];rfl
   ·rw [if_neg h2,if_neg h2]
    by_cases h3:k=3
    ·rw [if_pos h3,if_pos h3,vW hp];rfl
    ·rw [if_neg h3,if_neg h3];rfl
theorem bCh {s:cH} (h:aD0 s=true):1≤wdR s∧wdR s≤s.Movement.Calendar.Week:=by
 obtain ⟨hc,hd,hf,hw,hk,_⟩:=aA6 h
 have hq:=yU (a:=s.Clock) (g:=86400) hk.1 (by omega)
 have e:w64 (w64 (s.First-1)+s.Clock / 86400)=s.First-1+s.Clock / 86400:=by
  rw [aQ (x:=s.First-1) (by omega) (by omega),aQ (by omega) (by omega)]
 have t:=aCa (a:=s.First-1+s.Clock / 86400) (n:=s.Movement.Calendar.Week) (by omega) (by omega)
 unfold wdR
 rw [e,aQ (x:=_+1) (by omega) (by omega)]
 omega
theorem aWu {s:cH} (h:aD0 s=true) {d:aS} (hd:bAt s (some d)):(aC5 s.Movement.Calendar s.Movement.Cam d (wdR s)).2=0:=by
 have hw:=bCh h
 have ha:=(zP (nS h).2.2.1).1
 rcases hd with ⟨_,e,h1,h2,_⟩ | ⟨_,h1⟩
 ·injection h1 with h1
  subst h1
  unfold aC5
  rw [if_pos ha,h2,show btw (wdR s) 1 s.Movement.Calendar.Week=true from decide_eq_true hw];rfl
 ·cases h1
def aO3 (s:cH):cH:=aEi s (aAx s.Dial)
def aZt:Nat→cH→cH
 | 0,s=>s
 | n+1,s=>aZt n (aO3 s)
abbrev aU5:Type:=ByteArray × Int × Int × Int × Int × Int × ByteArray × Int × Int × aS × Int × Int × Int × Int × Int × Int × Int × Int × List cD × List bM × List aY × List aL × List Int × List Int
def aRk (s:cH):aU5 :=
 (s.Movement.Name,s.Movement.Minute,s.Movement.Hour,s.Movement.Escape,s.Movement.Teeth,s.Movement.Beats,s.Movement.Calendar.Name,s.Movement.Calendar.Week,s.Movement.Strike,s.Start,s.First,s.Clock,s.Dial.Months,s.Dial.Teeth,s.Dial.At,s.Dial.Day,s.Dial.Week,s.Dial.Weekday,s.Movement.Works.Arbors,s.Movement.Works.Meshes,s.Movement.Calendar.Months,s.Movement.Calendar.Rules,s.Movement.Cam,s.Dial.Cam)
def unS (x:aU5):cH:=⟨⟨x.1,⟨x.2.2.2.2.2.2.2.2.2.2.2.2.2.2.2.2.2.2.1,x.2.2.2.2.2.2.2.2.2.2.2.2.2.2.2.2.2.2.2.1⟩,x.2.1,x.2.2.1,x.2.2.2.1,x.2.2.2.2.1,x.2.2.2.2.2.1,⟨x.2.2.2.2.2.2.1,x.2.2.2.2.2.2.2.2.2.2.2.2.2.2.2.2.2.2.2.2.1,x.2.2.2.2.2.2.2.2.2.2.2.2.2.2.2.2.2.2.2.2.2.1,x.2.2.2.2.2.2.2.1⟩,x.2.2.2.2.2.2.2.2.2.2.2.2.2.2.2.2.2.2.2.2.2.2.1,x.2.2.2.2.2.2.2.2.1⟩,x.2.2.2.2.2.2.2.2.2.1,x.2.2.2.2.2.2.2.2.2.2.1,x.2.2.2.2.2.2.2.2.2.2.2.1,⟨x.2.2.2.2.2.2.2.2.2.2.2.2.2.2.2.2.2.2.2.2.2.2.2,x.2.2.2.2.2.2.2.2.2.2.2.2.1,x.2.2.2.2.2.2.2.2.2.2.2.2.2.1,x.2.2.2.2.2.2.2.2.2.2.2.2.2.2.1,x.2.2.2.2.2.2.2.2.2.2.2.2.2.2.2.1,x.2.2.2.2.2.2.2.2.2.2.2.2.2.2.2.2.1,x.2.2.2.2.2.2.2.2.2.2.2.2.2.2.2.2.2.1⟩⟩
theorem aQx {X:Type} {f:cH→X} {C:Int} {c:Nat→Int} {step:Int × X→Option ((Int × X) ⊕ X)} (N:Nat) (hN:N<1180591620717411303424) (hS : ∀ (j:Nat) s,j<N→aB0 s.Dial→s.Clock=C→step (c (j+1),f s)=some (.inl (c j,f (aO3 s)))) (hE : ∀ s,s.Clock=C→step (c 0,f s)=some (.inr (f s))) {s:cH} (hp:aB0 s.Dial) (hC:s.Clock=C):bQ step (c N,f s)=some (f (aZt N s)):=by
 have key : ∀ (n m:Nat) (s:cH),n<m→n≤N→aB0 s.Dial→s.Clock=C→tY step m (c n,f s)=some (f (aZt n s)):=by
  intro n
  induction n with
  | zero =>
   intro m s hm _ _ hC
   cases m with
   | zero=>omega
   | succ m=>simp only [tY,hE s hC];rfl
  | succ n ih =>
   intro m s hm hn hp hC
   cases m with
   | zero=>omega
   | succ m =>
    simp only [tY,hS n s (by omega) hp hC]
    exact ih m (aO3 s) (by omega) (by omega) (aIn hp) hC
 exact key N aDp s hN (Nat.le_refl _) hp hC
def aJs (s:cH) (k:Int):cH:=⟨s.Movement,s.Start,s.First,k,s.Dial⟩
def xH (s:cH) (k:Int):Nat:=((s.Clock+k) / 86400-s.Clock / 86400).toNat
def bBc (st:Int × aU5):Option ((Int × aU5) ⊕ aU5):=if 0<st.1 then (cM (unS st.2)).bind fun v=>some (.inl (w64 (st.1-1),aRk v)) else some (.inr st.2)
theorem aMf (s:cH) (k:Int):tU s k=(eQ s).bind fun v1=>if (!v1)=true then some (aLw,0,1) else ((bB k 0 3000000).bind fun v2=>if (!v2)=true then some true else some (decide (1000000000<w64 (s.Clock+k)))).bind fun v3=>if v3=true then some (aLw,0,2) else
  (iE s).bind fun v4=>(bQ bBc (w64 (w64 ((w64 (v4.Clock+k)).tdiv 86400)-w64 (s.Clock.tdiv 86400)),aRk (aJs v4 (w64 (v4.Clock+k))))).bind fun v11=>(hU (unS v11).Movement.Strike s.Clock (unS v11).Clock).bind fun v12=>some (unS v11,v12.1,0):=rfl
end Go.Proofs.YtbliejnpjpnahaaGreatDoor
namespace Go.Proofs.YtbliejnpjpnahaaGreatDoor
set_option linter.unusedVariables false
theorem aIs {p:aD}:aDv p=true ↔ aFx p.Cam=true∧1≤p.Months∧(p.Cam.length:Int) % p.Months=0∧p.Teeth≤60∧(∀ v ∈ p.Cam,v≤p.Teeth)∧(0≤p.At∧p.At<p.Cam.length)∧(1≤p.Day∧p.Day≤p.Teeth)∧(1≤p.Week∧p.Week≤12)∧(1≤p.Weekday∧p.Weekday≤p.Week):=by
 unfold aDv btw
 simp only [Bool.and_eq_true,decide_eq_true_eq,List.all_eq_true]
def zJ (p q:aD):Prop:=q.Cam=p.Cam∧q.Months=p.Months∧q.Teeth=p.Teeth∧q.Week=p.Week
theorem zJ.refl (p:aD):zJ p p:=⟨rfl,rfl,rfl,rfl⟩
theorem zJ.trans {p q r:aD} (h:zJ p q) (k:zJ q r):zJ p r:=⟨k.1.trans h.1,k.2.1.trans h.2.1,k.2.2.1.trans h.2.2.1,k.2.2.2.trans h.2.2.2⟩
theorem aTo {p q:aD} (h:aDv p=true) (k:zJ p q) (i:aB0 q):aDv q=true:=by
 obtain ⟨h1,h2,h3,h4,h5,_,_,h8,_⟩:=aIs.1 h
 obtain ⟨k1,k2,k3,k4⟩:=k
 obtain ⟨⟨a1,a2,_⟩,⟨b1,b2,_⟩,_,d1,d2⟩:=i
 refine aIs.2 ⟨?_,?_,?_,?_,?_,⟨a1,a2⟩,⟨b1,b2⟩,?_,d1,d2⟩
 ·rw [k1];exact h1
 ·rw [k2];exact h2
 ·rw [k1,k2];exact h3
 ·rw [k3];exact h4
 ·rw [k1,k3];exact h5
 ·rw [k4];exact h8
theorem aKc (p:aD) (n:Int):zJ p (aDd p n):=by unfold aDd;split <;> exact ⟨rfl,rfl,rfl,rfl⟩
theorem aQo (p:aD):zJ p (aKo p):=⟨rfl,rfl,rfl,rfl⟩
theorem aKd (p:aD):zJ p (aLs p):=⟨rfl,rfl,rfl,rfl⟩
theorem aQp (p:aD):zJ p (aAx p):=(aKc p _).trans (aKd _)
def vY:Nat→aD→aD
 | 0,p=>p
 | n+1,p=>vY n (aAx p)
theorem aIm : ∀ (n:Nat) {p:aD},aB0 p→aB0 (vY n p)
 | 0,_,h=>h
 | n+1,_,h=>aIm n (aIn h)
theorem vK : ∀ (n:Nat) (p:aD),zJ p (vY n p)
 | 0,p => .refl p
 | n+1,p=>(aQp p).trans (vK n _)
theorem aG5 : ∀ (m n:Nat) (p:aD),vY (m+n) p=vY n (vY m p)
 | 0,n,p=>by rw [Nat.zero_add];rfl
 | m+1,n,p=>by rw [show m+1+n=(m+n)+1 by omega];exact aG5 m n (aAx p)
theorem aFa (n:Nat) (p:aD):vY (n+1) p=aAx (vY n p):=aG5 n 1 p
theorem aKz : ∀ (n:Nat) (s:cH),aZt n s=aEi s (vY n s.Dial)
 | 0,s=>rfl
 | n+1,s=>aKz n (aO3 s)
def atS (s:cH) (c:Int) (p:aD):cH:=⟨s.Movement,s.Start,s.First,c,p⟩
theorem aUi {s:cH} (h:aD0 s=true) {c:Int} {p:aD} (h0:0≤c) (h1:c≤1000000000) (k:zJ s.Dial p) (i:aB0 p):aD0 (atS s c p)=true:=by
 have hp:=aTo (yC h) k i
 obtain ⟨k1,k2,k3,k4⟩:=k
 unfold aD0 at h ⊢
 simp only [Bool.and_eq_true,decide_eq_true_eq] at h ⊢
 obtain ⟨g1,g2,g3,g4,g5,g6,g7,g8,g9⟩:=h
 exact ⟨g1,g2,g3,decide_eq_true ⟨h0,h1⟩,hp,k1.trans g6,k2.trans g7,k3.trans g8,k4.trans g9⟩
theorem aXg {s:cH} (h:uF s) {c:Int} {p:aD} (hp:p.Cam.length≤1048576):uF (atS s c p):=by
 obtain ⟨h1,h2,h3,h4,h5⟩:=h
 exact ⟨h1,h2,h3,h4,⟨hp,fun _ _=>trivial⟩,trivial,trivial,trivial,trivial,trivial,trivial⟩
def bDy (s:cH) (k:Int):cH:=atS s (s.Clock+k) (vY (xH s k) s.Dial)
theorem aZu (s:cH) (k:Int):aZt (xH s k) (aJs s (s.Clock+k))=bDy s k:=aKz _ _
theorem aZv {s:cH} (h:uF s) (k:Int):uF (bDy s k):=aXg h (by rw [(vK _ _).1];exact h.2.2.2.2.1.1)
theorem bB4 {s:cH} (h:aD0 s=true) {k:Int} (h0:0≤k) (h1:s.Clock+k≤1000000000):aD0 (bDy s k)=true:=by
 have hc:=(nS h).2.2.2.1
 exact aUi h (by omega) h1 (vK _ _) (aIm _ (aIt (yC h)))
theorem aN3 {ms:List aY} : ∀ {t:Int},t≤ms.foldl uG t∧(∀ m ∈ ms,m.Days≤ms.foldl uG t∧m.Leap≤ms.foldl uG t)∧(t≤60→(∀ m ∈ ms,m.Days≤60∧m.Leap≤60)→ms.foldl uG t≤60):=by
 induction ms with
 | nil=>intro t;exact ⟨by simp,fun m hm=>by simp at hm,fun h _=>h⟩
 | cons m ms ih =>
  intro t
  rw [List.foldl_cons]
  obtain ⟨h1,h2,h3⟩:=ih (t:=uG t m)
  have e:uG t m=max (max t m.Days) m.Leap:=rfl
  refine ⟨by omega,fun n hn => ?_,fun h0 hm => ?_⟩
  ·rcases List.mem_cons.1 hn with rfl | hn
   ·omega
   ·exact h2 n hn
  ·have:=hm m (List.mem_cons_self ..)
   exact h3 (by omega) fun n hn=>hm n (List.mem_cons_of_mem _ hn)
theorem aUo {c:aC} {cam:List Int} (hc:sQ c=true) (hm:aFx cam=true):(∀ v ∈ cam,v≤aBb c cam)∧(∀ m ∈ c.Months,m.Days≤aBb c cam∧m.Leap≤aBb c cam)∧aBb c cam≤60:=by
 obtain ⟨h1,h2,h3⟩:=nB hm
 have g:=wQ (xs:=cam) (a:=0)
 have hx:aQt cam≤60:=by
  rcases g.2.2 with e | e
  ·show cam.foldl max 0≤60;rw [e];decide
  ·exact (h1 _ e).2
 obtain ⟨t1,t2,t3⟩:=aN3 (ms:=c.Months) (t:=aQt cam)
 refine ⟨fun v hv => ?_,t2,t3 hx fun m hm => ?_⟩
 ·have:v≤aQt cam:=g.2.1 v hv
  exact Int.le_trans this t1
 ·have:=aO1 hc hm;omega
def aIp (c:aC) (cam:List Int) (y m:Int):Int:=y % ((cam.length:Int) / c.Months.length)*c.Months.length+m-1
theorem aYn {c:aC} {cam:List Int} (ha:aDk c cam=0):(cam.length:Int) / c.Months.length*c.Months.length=cam.length:=by
 obtain ⟨_,_,h,_⟩:=rA ha
 exact Int.ediv_mul_cancel (Int.dvd_of_emod_eq_zero h)
theorem aIq {c:aC} {cam:List Int} (ha:aDk c cam=0) {y m:Int} (h1:1≤m) (h2:m≤c.Months.length):0≤aIp c cam y m∧aIp c cam y m<cam.length∧0≤y % ((cam.length:Int) / c.Months.length)*c.Months.length∧y % ((cam.length:Int) / c.Months.length)*c.Months.length≤cam.length-c.Months.length∧aIp c cam y m % c.Months.length=m-1:=by
 obtain ⟨_,_,h,k1,k2⟩:=rA ha
 have e:=aYn ha
 unfold aIp
 have a1:=Int.emod_nonneg y (show (cam.length:Int) / c.Months.length≠0 by omega)
 have a2:=Int.emod_lt_of_pos y (show 0<(cam.length:Int) / c.Months.length by omega)
 generalize y % ((cam.length:Int) / c.Months.length)=q at *
 generalize (cam.length:Int) / c.Months.length=k at *
 have b1:0≤q*(c.Months.length:Int):=Int.mul_nonneg a1 (by omega)
 have b2:q*(c.Months.length:Int)≤(k-1)*c.Months.length:=Int.mul_le_mul_of_nonneg_right (by omega) (by omega)
 rw [Int.sub_mul,e] at b2
 refine ⟨by omega,by omega,b1,by omega,?_⟩
 rw [show q*(c.Months.length:Int)+m-1=(m-1)+q*(c.Months.length:Int) by omega,Int.add_mul_emod_self_right]
 exact Int.emod_eq_of_lt (by omega) (by omega)
def aU1 (c:aC) (cam:List Int) (d:aS) (wd:Int):aD:=⟨cam,c.Months.length,aBb c cam,aIp c cam d.Year d.Month,d.Day,c.Week,wd⟩
theorem aPi {c:aC} {cam:List Int} {d:aS} {wd:Int} (ha:aDk c cam=0) (hd:qB c d=true) (h1:1≤wd) (h2:wd≤c.Week):aC5 c cam d wd=(aU1 c cam d wd,0):=by
 obtain ⟨hc,hm,_⟩:=rA ha
 obtain ⟨g1,g2,g3⟩:=iO.1 hd
 obtain ⟨n1,n2,n3,n4,_⟩:=aIq ha (y:=d.Year) g2.1 g2.2
 have hl:=(nB hm).2.2
 have hw:btw wd 1 c.Week=true:=decide_eq_true ⟨h1,h2⟩
 unfold aC5 aU1 aIp
 rw [if_pos ha,hd,hw,Bool.and_self,if_pos rfl,Int.tmod_eq_emod_of_nonneg g1.1,aQ (x:=_*_) (by omega) (by omega),aQ (x:=_+_) (by omega) (by omega),aQ (x:=_-_) (by omega) (by omega)]
theorem aUf {c:aC} {cam:List Int} {d:aS} {wd:Int} (ha:aDk c cam=0) (hd:qB c d=true) (h1:1≤wd) (h2:wd≤c.Week):aB0 (aU1 c cam d wd)∧aDv (aU1 c cam d wd)=true:=by
 obtain ⟨hc,hm,hz,_⟩:=rA ha
 obtain ⟨g1,g2,g3⟩:=iO.1 hd
 obtain ⟨n1,n2,n3,n4,_⟩:=aIq ha (y:=d.Year) g2.1 g2.2
 have hl:=(nB hm).2.2
 obtain ⟨t1,t2,t3⟩:=aUo hc hm
 obtain ⟨_,m1,_,m2,_⟩:=fC hc
 have hq:uI c (iM c d.Year) (d.Month-1)≤aBb c cam:=by
  have:=t2 _ (xZ (c:=c) (k:=d.Month-1) (by omega) (by omega)).2
  unfold uI
  split
  ·exact this.2
  ·exact this.1
 refine ⟨⟨⟨n1,n2,hl⟩,⟨g3.1,by show d.Day≤aBb c cam;omega,t3⟩,m2,h1,h2⟩,aIs.2 ⟨hm,by show (1:Int)≤c.Months.length;omega,hz,t3,t1,⟨n1,n2⟩,⟨g3.1,by show d.Day≤aBb c cam;omega⟩,m2,h1,h2⟩⟩
end Go.Proofs.YtbliejnpjpnahaaGreatDoor
namespace Go.Proofs.YtbliejnpjpnahaaGreatDoor
set_option linter.unusedVariables false
def aIl (c:aC) (d:aS):aS:=if d.Day<uI c (iM c d.Year) (d.Month-1) then ⟨d.Year,d.Month,d.Day+1⟩ else if d.Month<c.Months.length then ⟨d.Year,d.Month+1,1⟩ else ⟨d.Year+1,1,1⟩
theorem aWe {c:aC} (hc:sQ c=true) {d:aS} (hd:qB c d=true):(d.Year≤(aIl c d).Year∧(aIl c d).Year≤d.Year+1)∧aBg c (aIl c d)=aBg c d+1∧((aIl c d).Year≤9999→qB c (aIl c d)=true):=by
 obtain ⟨⟨y0,y1⟩,⟨m0,m1⟩,⟨d0,d1⟩⟩:=iO.1 hd
 have hm:=(fC hc).2.1
 unfold aIl
 by_cases h1:d.Day<uI c (iM c d.Year) (d.Month-1)
 ·rw [if_pos h1]
  refine ⟨⟨Int.le_refl _,by dsimp only;omega⟩,?_,fun _=>iO.2 ⟨⟨y0,y1⟩,⟨m0,m1⟩,by dsimp only;omega⟩⟩
  unfold aBg
  dsimp only
  omega
 ·rw [if_neg h1]
  have e:d.Day=uI c (iM c d.Year) (d.Month-1):=by omega
  have es:=zZ c d.Year (d.Month-1).toNat
  have en:(((d.Month-1).toNat:Nat):Int)=d.Month-1:=by omega
  rw [en] at es
  by_cases h2:d.Month<c.Months.length
  ·rw [if_pos h2]
   have hl:=oQ hc (iM c d.Year) (k:=d.Month+1-1) (by omega) (by omega)
   refine ⟨⟨Int.le_refl _,by dsimp only;omega⟩,?_,fun _=>iO.2 ⟨⟨y0,y1⟩,⟨by dsimp only;omega,by dsimp only;omega⟩,by dsimp only;omega⟩⟩
   unfold aBg
   dsimp only
   rw [show (d.Month+1-1).toNat=(d.Month-1).toNat+1 by omega,es]
   omega
  ·rw [if_neg h2]
   have hl:=oQ hc (iM c (d.Year+1)) (k:=1-1) (by omega) (by omega)
   refine ⟨⟨by dsimp only;omega,Int.le_refl _⟩,?_,fun hy=>iO.2 ⟨⟨by dsimp only;omega,hy⟩,⟨by dsimp only;omega,by dsimp only;omega⟩,by dsimp only;omega⟩⟩
   have ea:=aHm (c:=c) d.Year y0
   rw [show c.Months.length=(d.Month-1).toNat+1 by omega,es] at ea
   have eb:=aHn c d.Year.toNat
   unfold aBg
   dsimp only
   rw [show (d.Year+1).toNat=d.Year.toNat+1 by omega,eb]
   have e0:aJp c (d.Year+1) (1-1:Int).toNat=0:=rfl
   rw [e0]
   omega
end Go.Proofs.YtbliejnpjpnahaaGreatDoor
namespace Go.Proofs.YtbliejnpjpnahaaGreatDoor
set_option linter.unusedVariables false
set_option maxRecDepth 100000
def Inv (s:cH):Prop:=uF s∧aD0 s=true
def rng (x:Int):Prop := -9223372036854775808≤x∧x≤9223372036854775807
theorem bAf (x:Int):rng (w64 x):=by
 show -9223372036854775808≤IntKind.i64.wrap x∧IntKind.i64.wrap x≤9223372036854775807
 rw [IntKind.wrap_i64]
 omega
theorem aRz {s:cH} (h:Inv s) {c:Int} {p:aD} (h0:0≤c) (h1:c≤1000000000) (k:zJ s.Dial p) (i:aB0 p):Inv (atS s c p) :=
 ⟨aXg h.1 (by rw [k.1];exact h.1.2.2.2.2.1.1),aUi h.2 h0 h1 k i⟩
theorem aR6 (a b c:Int):Ok (hU a b c) (fun r=>rng r.1):=by
 unfold hU lO
 refine aO (P:=fun _=>True) ?_ fun v _=>cU (fun _=>aI ⟨by decide,by decide⟩) fun _=>cU (fun _=>aI ⟨by decide,by decide⟩) fun _ => ?_
 ·simp only [cN,Option.bind_some]
  exact cU (fun _=>aI trivial) fun _=>cU (fun _=>aI trivial) fun _=>aI trivial
 ·simp only [Option.bind_some]
  exact aI (bAf _)
theorem aZw {s:cH} (h:Inv s) {k:Int} (k0 : -1≤k) (k1:k≤3000000):Ok (tU s k) (fun r=>rng r.2.1∧(r.2.2=0→Inv r.1∧r.1.Movement=s.Movement)):=by
 obtain ⟨hs,hb⟩:=h
 have z : ∀ c:Int,c≠0→Ok (some (aLw,0,c)) (fun (r:cH × Int × Int)=>rng r.2.1∧(r.2.2=0→Inv r.1∧r.1.Movement=s.Movement)):=fun c hc=>aI ⟨show rng 0 from ⟨by decide,by decide⟩,fun e=>absurd e hc⟩
 obtain ⟨hc,hd,hf,hw,hk,hpb⟩:=aA6 hb
 rw [aMf,lA hs,Option.bind_some,hb]
 simp only [cN,Option.bind_some,Bool.not_true,Bool.false_eq_true,if_false,pM hs]
 rw [aQ (x:=s.Clock+k) (by omega) (by omega)]
 by_cases n0:0≤k
 ·have h1:btw k 0 3000000=true:=decide_eq_true ⟨n0,k1⟩
  rw [h1]
  simp only [Bool.not_true,Bool.false_eq_true,if_false,Option.bind_some]
  refine cU (fun _=>z 2 (by decide)) fun far => ?_
  have k2:s.Clock+k≤1000000000:=by simpa using far
  have hp:=aIt hpb
  have q1:=yU (a:=s.Clock) (g:=86400) hk.1 (by omega)
  have q2:=yU (a:=s.Clock+k) (g:=86400) (by omega) (by omega)
  have q3:s.Clock / 86400≤(s.Clock+k) / 86400:=Int.ediv_le_ediv (by omega) (by omega)
  have e1:s.Clock.tdiv 86400=s.Clock / 86400:=Int.tdiv_eq_ediv_of_nonneg hk.1
  have e2:(s.Clock+k).tdiv 86400=(s.Clock+k) / 86400:=Int.tdiv_eq_ediv_of_nonneg (by omega)
  have w1:w64 (s.Clock / 86400)=s.Clock / 86400:=aQ (by omega) (by omega)
  have w2:w64 ((s.Clock+k) / 86400)=(s.Clock+k) / 86400:=aQ (by omega) (by omega)
  have hN:((xH s k:Nat):Int)=(s.Clock+k) / 86400-s.Clock / 86400:=by unfold xH;omega
  have L1:bQ bBc ((xH s k:Nat),aRk (aJs s (s.Clock+k)))=some (aRk (aZt (xH s k) (aJs s (s.Clock+k)))):=by
   refine aQx (f:=aRk) (C:=s.Clock+k) (c:=fun j=>(j:Int)) (xH s k) (by omega) (fun j u hj hu hc => ?_) (fun u hc => ?_) hp rfl
   ·show (if 0<((j+1:Nat):Int) then (cM u).bind fun v=>some (.inl (w64 (((j+1:Nat):Int)-1),aRk v)) else some (.inr (aRk u)):Option ((Int × aU5) ⊕ aU5))=_
    rw [if_pos (by omega),aId hu,Option.bind_some,aQ (by omega) (by omega),show ((j+1:Nat):Int)-1=(j:Int) by omega];rfl
   ·rfl
  simp only [e1,e2,w1,w2]
  rw [aQ (x:=_-_) (by omega) (by omega), ← hN,L1,Option.bind_some]
  refine aO (aR6 _ _ _) fun v hv=>aI ⟨hv,fun _ => ?_⟩
  show Inv (aZt (xH s k) (aJs s (s.Clock+k)))∧_
  rw [aZu]
  exact ⟨⟨aZv hs k,bB4 hb n0 k2⟩,rfl⟩
 ·have h1:btw k 0 3000000=false:=decide_eq_false fun e=>n0 e.1
  rw [h1]
  simp only [Bool.not_false,if_true,Option.bind_some]
  exact z 2 (by decide)
theorem aWj {s:cH} (h:Inv s) (k:Int):Ok (oK s k) (fun r=>r.2=0→Inv r.1∧r.1.Movement=s.Movement):=by
 obtain ⟨hs,hb⟩:=h
 have hp:=aIt (yC hb)
 have hk:=(nS hb).2.2.2.1
 rw [aJ3 hs]
 refine aI ?_
 unfold aZp
 rw [if_pos hb]
 have hd:=hp.2.1
 have q : ∀ p,zJ s.Dial p→aB0 p→(Inv (atS s s.Clock p)∧(atS s s.Clock p).Movement=s.Movement):=fun p a b=>⟨aRz ⟨hs,hb⟩ hk.1 hk.2 a b,rfl⟩
 by_cases h1:k=1
 ·rw [if_pos h1];exact fun _=>q _ (aKc _ _) (aIk hp (by omega) (by omega))
 ·rw [if_neg h1]
  by_cases h2:k=2
  ·rw [if_pos h2];exact fun _=>q _ (aQo _) (aWd hp)
  ·rw [if_neg h2]
   by_cases h3:k=3
   ·rw [if_pos h3];exact fun _=>q _ (aKd _) (aUu hp)
   ·rw [if_neg h3];exact fun e=>by cases e
theorem aVh {s:cH} (h:Inv s):Ok (lK s) (fun r=>r.2=0→Inv r.1∧r.1.Movement=s.Movement):=by
 obtain ⟨hs,hb⟩:=h
 obtain ⟨c1,c2,c3⟩:=smC hs.1
 have hk:=(nS hb).2.2.2.1
 unfold lK
 rw [lA hs,Option.bind_some,hb]
 simp only [Bool.not_true,Bool.false_eq_true,if_false]
 obtain ⟨a,a1,a2⟩:=vC hs hb
 rw [a2]
 cases a with
 | none=>exact aI fun e=>by cases e
 | some d =>
  have hz:=aWu hb a1
  simp only [Option.bind_some,oL (c:=s.Movement.Calendar) (cam:=s.Movement.Cam) (by omega) (by omega) c3,hz,pM hs]
  refine aI fun _=>⟨?_,rfl⟩
  obtain ⟨ha,hd,w1,w2⟩:=zP hz
  obtain ⟨_,hst,f1,f2⟩:=zP (nS hb).2.2.1
  have z0:=aPi ha hst f1 f2
  rw [aPi ha hd w1 w2]
  refine aRz ⟨hs,hb⟩ hk.1 hk.2 ?_ (aUf ha hd w1 w2).1
  unfold aD0 at hb
  simp only [Bool.and_eq_true,decide_eq_true_eq] at hb
  obtain ⟨_,_,_,_,_,g6,g7,g8,g9⟩:=hb
  rw [z0] at g7 g8 g9
  exact ⟨g6.symm,g7.symm,g8.symm,g9.symm⟩
theorem aZy {m:aG} (h:gB m) (d:aS) (w:Int):Ok (mJ m d w) (fun r=>r.2=0→Inv r.1∧r.1.Movement=m):=by
 rw [aEp h]
 refine aI fun e => ?_
 unfold bCv at e ⊢
 by_cases h1:aCs m=true
 ·rw [if_pos h1] at e ⊢
  by_cases h2:rC m=[]
  ·rw [if_pos h2] at e ⊢
   by_cases h3:(aC5 m.Calendar m.Cam d w).2=0
   ·rw [if_pos h3] at e ⊢
    obtain ⟨ha,hd,w1,w2⟩:=zP h3
    have z:=aPi ha hd w1 w2
    refine ⟨⟨⟨h,?_,trivial,trivial,?_⟩,?_⟩,rfl⟩
    ·exact ⟨trivial,trivial,trivial⟩
    ·rw [z];exact ⟨⟨(smC h).2.2,fun _ _=>trivial⟩,trivial,trivial,trivial,trivial,trivial,trivial⟩
    ·unfold aD0
     simp [z,h1,h2,btw,aU1]
     exact (aUf ha hd w1 w2).2
   ·rw [if_neg h3] at e;exact absurd e h3
  ·rw [if_neg h2] at e;cases e
 ·rw [if_neg h1] at e;cases e
theorem aFw {s:cH} (h:Inv s):eQ s=some true:=by rw [lA h.1,h.2]
theorem aT4 {s:cH} (h:Inv s):Ok (nE s) (fun _=>True):=by
 obtain ⟨hs,hb⟩:=h
 unfold nE
 rw [lA hs,Option.bind_some,hb]
 simp only [Bool.not_true,Bool.false_eq_true,if_false]
 obtain ⟨a,a1,a2⟩:=vC hs hb
 rw [a2,Option.bind_some]
 have hm:=aM7 (yC hb)
 refine cU (fun _=>aO (P:=fun _=>True) ?_ fun v _=>cU (fun _=>aI trivial) fun _=>aI trivial) fun _=>aI trivial
 unfold pQ iG
 exact cU (fun _=>aO (P:=fun _=>True) (gX (by omega) (aI trivial)) fun _ _=>aI trivial) fun _=>aI trivial
end Go.Proofs.YtbliejnpjpnahaaGreatDoor
namespace Go.Proofs.YtbliejnpjpnahaaGreatDoor
set_option linter.unusedVariables false
set_option maxRecDepth 100000
def aOn (n:Int):ByteArray:=⟨(Lib.itoa n).toArray⟩
theorem dW {n:Int} (h:osI n):(aOn n).size≤21:=by
 have:=Lib.itoa_length_le n h.1 h.2
 simpa [aOn,ByteArray.size] using this
theorem eZ {n:Int} (hn:osI n):bC n=some (aOn n):=by
 unfold bC mG
 rw [eA ⟨hn.1,hn.2,rfl⟩]
 rfl
end Go.Proofs.YtbliejnpjpnahaaGreatDoor
namespace Go.Proofs.YtbliejnpjpnahaaGreatDoor
set_option linter.unusedVariables false
set_option maxRecDepth 100000
def aP4:ByteArray:=⟨#[58]⟩
def two (n:Int):ByteArray:=aOn (n.tdiv 10)++aOn (n.tmod 10)
theorem aKq {n:Int} (h:osI n) (d:Int) (hd:2≤d):osI (n.tdiv d):=by
 have h1:(n.tdiv d).natAbs=n.natAbs / d.natAbs:=Int.natAbs_tdiv _ _
 have h2:n.natAbs / d.natAbs≤n.natAbs / 1:=Nat.div_le_div_left (by omega) (by omega)
 obtain ⟨a,b⟩:=h
 have h3:n.natAbs≤9223372036854775808:=by omega
 by_cases h4:n.natAbs=9223372036854775808
 ·have h5:n.natAbs / d.natAbs≤n.natAbs / 2:=Nat.div_le_div_left (by omega) (by omega)
  exact ⟨by omega,by omega⟩
 ·exact ⟨by omega,by omega⟩
theorem aKr {n:Int} (h:osI n) (d:Int) (hd:1≤d) (hd2:d≤9223372036854775807):osI (n.tmod d):=by
 have h1:(n.tmod d).natAbs=n.natAbs % d.natAbs:=Int.natAbs_tmod _ _
 have h2:n.natAbs % d.natAbs<d.natAbs:=Nat.mod_lt _ (by omega)
 exact ⟨by omega,by omega⟩
theorem eI (a b:ByteArray):(a++b).size=a.size+b.size:=ByteArray.size_append
theorem yD {n:Int} (h:osI n):(two n).size≤42:=by
 have h1:=dW (aKq h 10 (by omega))
 have h2:=dW (aKr h 10 (by omega) (by omega))
 rw [two,eI];omega
theorem tL {n:Int} (h:osI n):jI n=some (two n):=by
 have d1:=aKq h 10 (by omega)
 have d2:=aKr h 10 (by omega) (by omega)
 have h1:=dW d1
 have h2:=dW d2
 unfold jI
 rw [aQ d1.1 d1.2,eZ d1,eZ d2]
 simp only [Option.bind_some]
 rw [eA (by omega)]
 rfl
def aSd (c:Int):ByteArray:=if btw c 0 1000000000=true then (((two ((c.tmod 86400).tdiv 3600)++aP4)++two (((c.tmod 86400).tdiv 60).tmod 60))++aP4)++two ((c.tmod 86400).tmod 60) else ⟨#[]⟩
theorem aEf {c:Int} (h:osI c):osI ((c.tmod 86400).tdiv 3600)∧osI ((c.tmod 86400).tdiv 60)∧osI (((c.tmod 86400).tdiv 60).tmod 60)∧osI ((c.tmod 86400).tmod 60):=by
 have h1:=aKr h 86400 (by omega) (by omega)
 exact ⟨aKq h1 _ (by omega),aKq h1 _ (by omega),aKr (aKq h1 _ (by omega)) _ (by omega) (by omega),aKr h1 _ (by omega) (by omega)⟩
theorem aGv:aP4.size=1:=rfl
theorem aF4 {c:Int} (h:osI c):kV c=some (aSd c):=by
 obtain ⟨h1,h2,h3,h4⟩:=aEf h
 have z1:=yD h1
 have z3:=yD h3
 have z4:=yD h4
 unfold kV aSd
 rw [show (⟨#[58]⟩:ByteArray)=aP4 from rfl,cN,Option.bind_some,aQ h1.1 h1.2,aQ h2.1 h2.2,tL h1,tL h3,tL h4]
 cases btw c 0 1000000000
 ·rfl
 ·simp only [Option.bind_some,Bool.not_true,Bool.false_eq_true,if_false,if_true]
  simp only [eI,aGv]
  rw [eA (by omega),eA (by omega),eA (by omega),eA (by omega)]
end Go.Proofs.YtbliejnpjpnahaaGreatDoor
namespace Go.Proofs.YtbliejnpjpnahaaGreatDoor
set_option linter.unusedVariables false
set_option maxRecDepth 100000
def mH:ByteArray:=⟨#[32]⟩
theorem aYl (a b:ByteArray):(a++b).size=a.size+b.size:=ByteArray.size_append
theorem aTe {s:ByteArray} (h:tZ s=true):s.size≤12:=by
 simp only [tZ,Bool.and_eq_true,decide_eq_true_eq] at h
 exact h.1.1.2
theorem aRx {w:aP} {k:Int} (h:vJ w k=true) : ∃ a,w.Arbors[k.toNat]? = some a∧atI w.Arbors k=some a∧a ∈ w.Arbors:=by
 simp only [vJ,decide_eq_true_eq] at h
 have hl:k.toNat<w.Arbors.length:=by omega
 exact ⟨_,List.getElem?_eq_getElem hl,by rw [atI,if_pos h.1];exact List.getElem?_eq_getElem hl,List.getElem_mem hl⟩
theorem aHk {w:aP} (h:aBh w=true) {a:cD} (ha:a ∈ w.Arbors):a.Name.size≤12:=by
 simp only [aBh,Bool.and_eq_true,decide_eq_true_eq] at h
 obtain ⟨i,hi,rfl⟩:=List.getElem_of_mem ha
 have:=(aDj.1 h.2.2.1) i hi
 simp only [aL1,Bool.and_eq_true] at this
 exact aTe this.1.2.1
theorem aKp {m:aG} (h:aCs m=true):m.Name.size≤12∧osI m.Beats∧osI m.Teeth ∧ ∃ a b c,(atI m.Works.Arbors m.Minute=some a∧a.Name.size≤12)∧(atI m.Works.Arbors m.Hour=some b∧b.Name.size≤12)∧(atI m.Works.Arbors m.Escape=some c∧c.Name.size≤12):=by
 simp only [aCs,Bool.and_eq_true] at h
 obtain ⟨h1,h2,h3,h4,h5,h6,h7,_⟩:=h
 obtain ⟨a, -,a1,a2⟩:=aRx h3
 obtain ⟨b, -,b1,b2⟩:=aRx h4
 obtain ⟨c, -,c1,c2⟩:=aRx h5
 simp only [wD,btw,decide_eq_true_eq] at h6 h7
 exact ⟨aTe h1,⟨by omega,by omega⟩,⟨by omega,by omega⟩,a,b,c,⟨a1,aHk h2 a2⟩,⟨b1,aHk h2 b2⟩,⟨c1,aHk h2 c2⟩⟩
def aSu (x1 x2 x3 x4 x5 x6:ByteArray):ByteArray:=(((((((((x1++mH)++x2)++mH)++x3)++mH)++x4)++mH)++x5)++mH)++x6
theorem bDm (x1 x2 x3 x4 x5 x6:ByteArray):aIf [x1,x2,x3,x4,x5,x6] mH=aSu x1 x2 x3 x4 x5 x6:=by
 unfold aIf aSu Lib.join
 apply ByteArray.ext
 apply Array.ext'
 simp [List.intercalate,ByteArray.data_append]
def bCu (m:aG):ByteArray:=match atI m.Works.Arbors m.Minute,atI m.Works.Arbors m.Hour,atI m.Works.Arbors m.Escape with
 | some a,some b,some c=>if aCs m=true then aSu m.Name (aOn m.Beats) (aOn m.Teeth) a.Name b.Name c.Name else ⟨#[]⟩
 | _,_,_=>⟨#[]⟩
theorem aBp {m:aG} (h:gB m):jM m=some (bCu m):=by
 unfold jM bCu
 rw [jZ h,Option.bind_some]
 cases hb:aCs m
 ·simp only [Bool.not_false,if_true,Bool.false_eq_true,if_false]
  split <;> rfl
 ·obtain ⟨z1,o1,o2,a,b,c,⟨a1,a2⟩,⟨b1,b2⟩,c1,c2⟩:=aKp hb
  have z2:=dW o1
  have z3:=dW o2
  rw [a1,b1,c1,eZ o1,eZ o2]
  have zb:mH.size=1:=rfl
  simp only [Option.bind_some,Bool.not_true,Bool.false_eq_true,if_false,if_true]
  unfold jW
  rw [show (⟨#[32]⟩:ByteArray)=mH from rfl,bDm,eA ⟨by simp,by simp only [aSu,aYl,zb];omega⟩]
  rfl
end Go.Proofs.YtbliejnpjpnahaaGreatDoor
namespace Go.Proofs.YtbliejnpjpnahaaGreatDoor
set_option linter.unusedVariables false
set_option maxRecDepth 100000
def aP7:ByteArray:=⟨#[45]⟩
def aVj (d:aS):ByteArray:=(((aOn d.Year++aP7)++aOn d.Month)++aP7)++aOn d.Day
def yr (x:Int):Prop:=0≤x∧x≤9999
theorem aJj {x:Int} (h:yr x):osI x:=⟨by have:=h.1;omega,by have:=h.2;omega⟩
theorem aYq {c:aC} (hc:sQ c=true) (hl:c.Months.length≤9999) {d:aS} (h:qB c d=true):yr d.Year∧yr d.Month∧yr d.Day:=by
 obtain ⟨h1,h2,h3,h4⟩:=iO.1 h
 have:=oQ hc (iM c d.Year) (k:=d.Month-1) (by omega) (by omega)
 exact ⟨⟨by omega,by omega⟩,⟨by omega,by omega⟩,by omega,by omega⟩
theorem aP8 {d:aS} (h:yr d.Year∧yr d.Month∧yr d.Day):(aVj d).size≤65:=by
 have z1:=dW (aJj h.1)
 have z2:=dW (aJj h.2.1)
 have z3:=dW (aJj h.2.2)
 have zd:aP7.size=1:=rfl
 simp only [aVj,aYl,zd]
 omega
theorem aHx {d:aS} (h:yr d.Year∧yr d.Month∧yr d.Day):kJ d=some (aVj d):=by
 have z1:=dW (aJj h.1)
 have z2:=dW (aJj h.2.1)
 have z3:=dW (aJj h.2.2)
 have zd:aP7.size=1:=rfl
 have e1:btw d.Year 0 9999=true:=decide_eq_true h.1
 have e2:btw d.Month 0 9999=true:=decide_eq_true h.2.1
 have e3:btw d.Day 0 9999=true:=decide_eq_true h.2.2
 unfold kJ gL
 simp only [cN,e1,e2,e3,Option.bind_some,Bool.not_true,Bool.false_eq_true,if_false]
 rw [eZ (aJj h.1),eZ (aJj h.2.1),eZ (aJj h.2.2),show (⟨#[45]⟩:ByteArray)=aP7 from rfl]
 simp only [Option.bind_some,aYl,zd]
 rw [eA (by omega),eA (by omega),eA (by omega),eA (by omega)]
 rfl
def bCw (p:aD):ByteArray:=(((((aOn (p.At.tmod p.Months+1)++mH)++aOn p.Day)++mH)++aOn p.Weekday)++mH)++aOn p.At
theorem aX0 {p:aD} (h:aDv p=true):1≤p.Months∧osI (p.At.tmod p.Months+1)∧osI p.Day∧osI p.Weekday∧osI p.At:=by
 unfold aDv at h
 simp only [Bool.and_eq_true,decide_eq_true_eq,aFx,btw] at h
 obtain ⟨h1,h2,h3,h4,h5,h6,h7,h8,h9⟩:=h
 have hl:=h1.2.2
 have hm:=Int.tmod_nonneg p.Months h6.1
 have hm2:=Int.tmod_lt_of_pos p.At (show 0<p.Months by omega)
 have hm3:p.At.tmod p.Months≤p.At:=by
  rw [Int.tmod_eq_emod_of_nonneg h6.1]
  rcases Int.lt_or_le p.At p.Months with hh | hh
  ·rw [Int.emod_eq_of_lt h6.1 hh];omega
  ·rw [Int.tmod_eq_emod_of_nonneg h6.1] at hm2
   omega
 exact ⟨h2,⟨by omega,by omega⟩,⟨by omega,by omega⟩,⟨by omega,by omega⟩,⟨by omega,by omega⟩⟩
theorem aKu {p:aD} (h:aDv p=true):(bCw p).size≤87:=by
 obtain ⟨_,o1,o2,o3,o4⟩:=aX0 h
 have z1:=dW o1
 have z2:=dW o2
 have z3:=dW o3
 have z4:=dW o4
 have zb:mH.size=1:=rfl
 simp only [bCw,aYl,zb]
 omega
theorem aAl {p:aD} (hl:p.Cam.length≤9223372036854775807) (h:aDv p=true):iP p=some (bCw p):=by
 obtain ⟨hM,o1,o2,o3,o4⟩:=aX0 h
 have z1:=dW o1
 have z2:=dW o2
 have z3:=dW o3
 have z4:=dW o4
 have zb:mH.size=1:=rfl
 unfold iP iG
 rw [mB hl,h,eA (by omega),aQ o1.1 o1.2]
 simp only [Option.bind_some,Bool.not_true,Bool.false_eq_true,if_false]
 rw [eZ o1,eZ o2,eZ o3,eZ o4,show (⟨#[32]⟩:ByteArray)=mH from rfl]
 simp only [Option.bind_some,aYl,zb]
 rw [eA (by omega),eA (by omega),eA (by omega),eA (by omega),eA (by omega),eA (by omega)]
 rfl
def bDe (r:Option aS):ByteArray:=match r with
 | some d=>aVj d
 | none=>aP7
def aOi (c:Int):ByteArray:=(((two ((c.tmod 86400).tdiv 3600)++aP4)++two (((c.tmod 86400).tdiv 60).tmod 60))++aP4)++two ((c.tmod 86400).tmod 60)
def bD0 (s:cH) (r:Option aS):ByteArray:=(((bDe r++mH)++aOi s.Clock)++mH)++bCw s.Dial
theorem aEe {c:Int} (h:osI c):(aOi c).size≤128:=by
 obtain ⟨h1,h2,h3,h4⟩:=aEf h
 have z1:=yD h1
 have z3:=yD h3
 have z4:=yD h4
 simp only [aOi,aYl,aGv]
 omega
theorem aXs {s:cH} (hs:uF s) (h:aD0 s=true) {r:Option aS} (hr:bAt s r):(bDe r).size≤65 ∧ ∀ d,r=some d→yr d.Year∧yr d.Month∧yr d.Day:=by
 obtain ⟨hc,_⟩:=aA6 h
 have hl:s.Movement.Calendar.Months.length≤9999:=by
  have:=(fC hc).2.1
  omega
 rcases hr with ⟨_,d,rfl,d1,_⟩ | ⟨_,rfl⟩
 ·have:=aYq hc hl d1
  exact ⟨aP8 this,fun e he=>by cases he;exact this⟩
 ·exact ⟨by decide,fun e he=>by cases he⟩
theorem aJ5 {s:cH} (hs:uF s) (h:aD0 s=true) : ∃ r,bAt s r∧rG s=some (bD0 s r):=by
 obtain ⟨r,hr,e⟩:=vC hs h
 refine ⟨r,hr,?_⟩
 obtain ⟨z1,hd⟩:=aXs hs h hr
 obtain ⟨_,_,_,_,hk,hp⟩:=aA6 h
 have ok:osI s.Clock:=⟨by omega,by omega⟩
 have z2:=aEe ok
 have z3:=aKu hp
 have zb:mH.size=1:=rfl
 have hcl:s.Dial.Cam.length≤9223372036854775807:=by
  unfold aDv aFx at hp
  simp only [Bool.and_eq_true,decide_eq_true_eq] at hp
  have:=hp.1.2.2
  omega
 have ec:kV s.Clock=some (aOi s.Clock):=by
  rw [aF4 ok]
  have e1:btw s.Clock 0 1000000000=true:=decide_eq_true hk
  unfold aSd
  rw [if_pos e1]
  rfl
 have ed:(((jD s).bind fun v2=>(if v2.2.2=0 then ((kJ v2.1).bind fun v3=>some v3) else some (⟨#[45]⟩:ByteArray))):Option ByteArray)=some (bDe r):=by
  rw [e]
  cases r with
  | none=>rfl
  | some d=>simp only [Option.bind_some,if_true,aHx (hd d rfl)];rfl
 unfold rG
 rw [lA hs,h,ed,ec,aAl hcl hp,show (⟨#[32]⟩:ByteArray)=mH from rfl]
 simp only [Option.bind_some,Bool.not_true,Bool.false_eq_true,if_false,aYl,zb]
 rw [eA (by omega),eA (by omega),eA (by omega),eA (by omega)]
 rfl
end Go.Proofs.YtbliejnpjpnahaaGreatDoor
namespace Go.Proofs.YtbliejnpjpnahaaGreatDoor
set_option linter.unusedVariables false
set_option maxRecDepth 100000
theorem yM {x:Int} (h:rng x):Ok (bC x) (fun t=>t.size≤21):=by rw [eZ h];exact aI (dW h)
theorem aGw:(⟨#[]⟩:ByteArray).size=0:=rfl
theorem qJ (c:UInt8):(⟨#[c]⟩:ByteArray).size=1:=rfl
theorem aCw (r:aB):Ok (fM r) (fun t=>t.size≤50):=by
 unfold fM
 rw [nI,Option.bind_some]
 refine cU (fun _=>aI (by simp [aGw])) fun hv => ?_
 have hv:aFz r=true:=by simpa using hv
 obtain ⟨d0,n0,_⟩:=aDw.1 hv
 have hn:rng r.Num:=⟨by omega,by omega⟩
 have hd:rng r.Den:=⟨by omega,by omega⟩
 refine cU (fun _=>aO (yM hn) fun a ha=>aI (by omega)) fun _=>aO (yM hn) fun a ha=>gX (by rw [qJ];omega) (aO (yM hd) fun b hb=>gX (by rw [eI,qJ];omega) (aI (by rw [eI,eI,qJ];omega)))
theorem aSx {s:cH} (h:Inv s):Ok (rE s) (fun _=>True):=by
 unfold rE
 rw [aFw h,Option.bind_some,aCg h.1.1,Option.bind_some,aCg h.1.1,Option.bind_some]
 exact cU (fun _=>aI trivial) fun _=>cU (fun _=>aI trivial) fun _=>cU (fun _=>aI trivial) fun _=>aI trivial
theorem aZb {m:aG} (h:aCs m=true):(bCu m).size≤200:=by
 obtain ⟨n,b,t,x,y,z,⟨x1,x2⟩,⟨y1,y2⟩,⟨z1,z2⟩⟩:=aKp h
 unfold bCu
 rw [x1,y1,z1]
 dsimp only
 rw [if_pos h]
 have:=dW b
 have:=dW t
 simp only [aSu,eI,mH,qJ]
 omega
theorem aZ1 {s:cH} (h:Inv s) {r:Option aS} (hr:bAt s r):(bD0 s r).size≤400:=by
 have h1:=(aXs h.1 h.2 hr).1
 have h2:=aKu (yC h.2)
 have hk:=(nS h.2).2.2.2.1
 have h3:=aEe (c:=s.Clock) ⟨by omega,by omega⟩
 simp only [bD0,eI,mH,qJ]
 omega
theorem aOp {s:cH} (h:Inv s):Ok (mI ⟨s⟩) (fun t=>t.size≤1000∧t≠⟨#[]⟩):=by
 unfold mI kZ
 rw [aFw h,Option.bind_some,Option.bind_some]
 simp only [Bool.not_true,Bool.false_eq_true,if_false]
 rw [aBp h.1.1,Option.bind_some]
 obtain ⟨r,hr,e⟩:=aJ5 h.1 h.2
 have hm:=aZb (nS h.2).1
 have hs:=aZ1 h hr
 refine gX (by rw [qJ];omega) ?_
 rw [e,Option.bind_some]
 refine gX (by rw [eI,qJ];omega) (aI ⟨by rw [eI,eI,qJ];omega,fun e => ?_⟩)
 have:=congrArg ByteArray.size e
 rw [eI,eI,qJ,aGw] at this
 omega
end Go.Proofs.YtbliejnpjpnahaaGreatDoor
namespace Go.Proofs.YtbliejnpjpnahaaGreatDoor
set_option linter.unusedVariables false
set_option maxRecDepth 100000
def aWn (f:fT):Prop:=rng f.Year∧rng f.Month∧rng f.Shown∧rng f.Right
theorem aYo {cam:List Int} (h:aFx cam=true) (n:Nat):rng (cam.getD n 0):=by
 rw [List.getD_eq_getElem?_getD]
 cases e:cam[n]? with
 | none=>exact ⟨by simp,by simp⟩
 | some v =>
  have:=(nB h).1 v (List.mem_of_getElem? e)
  exact ⟨by simp;omega,by simp;omega⟩
theorem aQb {c:aC} {cam:List Int} (ha:aDk c cam=0) {y:Int} (y0:0≤y) (y1:y≤9999):Ok (mN c cam y) (fun xs=>xs.length≤20 ∧ ∀ f ∈ xs,aWn f):=by
 obtain ⟨hc,hcam,hz,k1,k2⟩:=rA ha
 have hm:=(fC hc).2.1
 have hl:=(nB hcam).2
 unfold mN
 rw [mD hc y0,Option.bind_some,sS hm.1 (by omega),if_pos hz,Option.bind_some,eA (by omega)]
 obtain ⟨n1,n2,n3,n4,n5⟩:=aIq ha (y:=y) (m:=1) (by omega) (by omega)
 have e1:y.tmod ((cam.length:Int) / c.Months.length)=y % ((cam.length:Int) / c.Months.length):=Int.tmod_eq_emod_of_nonneg y0
 rw [e1,aQ (x:=_*_) (by omega) (by omega),eA (by omega)]
 have hsub : ∀ j:Int,1≤j→j≤c.Months.length→atI (aFu cam (y % ((cam.length:Int) / c.Months.length)*c.Months.length) (cam.length:Int)) (j-1)=some (cam.getD (aIp c cam y j).toNat 0):=by
  intro j j0 j1
  obtain ⟨q,hq⟩ : ∃ q:Nat,y % ((cam.length:Int) / c.Months.length)*c.Months.length=q:=⟨(y % ((cam.length:Int) / c.Months.length)*c.Months.length).toNat,by omega⟩
  obtain ⟨i,hi⟩ : ∃ i:Nat,j-1=i:=⟨(j-1).toNat,by omega⟩
  have en:(aIp c cam y j).toNat=q+i:=by unfold aIp;omega
  have hlt:q+i<cam.length:=by omega
  rw [en,hq,hi]
  unfold atI aFu
  rw [if_pos (by omega),List.getD_eq_getElem?_getD,List.getElem?_eq_getElem hlt]
  have e2:((i:Int)).toNat=i:=by omega
  have e3:((q:Int)).toNat=q:=by omega
  rw [e2,e3]
  simp [List.getElem?_drop,List.getElem?_take,hlt]
  omega
 refine aO (P:=fun xs:List fT=>xs.length≤20 ∧ ∀ f ∈ xs,aWn f) ?_ fun v h=>aI h
 refine vM (I:=fun s:Int × List fT=>(1≤s.1∧s.1≤c.Months.length+1)∧(s.2.length:Int)≤s.1-1 ∧ ∀ f ∈ s.2,aWn f) (m:=fun s=>(c.Months.length+1-s.1).toNat) ?_ _ ⟨⟨by dsimp only;omega,by dsimp only;omega⟩,by simp,by simp⟩ (by dsimp only;omega)
 rintro ⟨j,xs⟩ ⟨⟨j0,j1⟩,jl,jv⟩
 dsimp only at j0 j1 jl jv ⊢
 refine cU (fun hj => ?_) fun hj=>aI (.inr ⟨_,rfl,by omega,jv⟩)
 rw [jN hc _ j0 hj,Option.bind_some,aQ (x:=j-1) (by omega) (by omega),hsub j j0 hj,Option.bind_some,Option.bind_some]
 have hlm:=oQ hc (iM c y) (k:=j-1) (by omega) (by omega)
 refine aO (P:=fun zs:List fT=>(zs.length:Int)≤j ∧ ∀ f ∈ zs,aWn f) ?_ fun zs hz=>aI (.inl ⟨_,rfl,⟨⟨?_,?_⟩,?_,hz.2⟩,?_⟩)
 ·refine cU (fun _=>gX (by simp;omega) (aI ⟨by simp;omega,fun f hf => ?_⟩)) fun he=>aI ⟨by omega,jv⟩
  rcases List.mem_append.1 hf with h | h
  ·exact jv f h
  ·rw [List.mem_singleton.1 h]
   exact ⟨⟨by dsimp only;omega,by dsimp only;omega⟩,⟨by dsimp only;omega,by dsimp only;omega⟩,aYo hcam _,⟨by dsimp only;omega,by dsimp only;omega⟩⟩
 all_goals (dsimp only;rw [aQ (x:=j+1) (by omega) (by omega)])
 ·omega
 ·omega
 ·omega
 ·omega
theorem aE5 (y:Int):gL y=some (btw y 0 9999):=by unfold gL;rw [cN];rfl
theorem aQn (c:aC) (m:Int):mE c m=some (btw m 1 c.Months.length):=by unfold mE;rw [cN];rfl
theorem aJr {c:aC} {cam:List Int} (ha:aDk c cam=0) (a b:Int):Ok (nC c cam a b) (fun r=>r.1.length≤40 ∧ ∀ f ∈ r.1,aWn f):=by
 obtain ⟨hc,hcam,hz,k1,k2⟩:=rA ha
 have hm:=(fC hc).2
 have hl:=(nB hcam).2
 have z : ∀ e:Int,Ok (some (([]:List fT),e)) (fun (r:List fT × Int)=>r.1.length≤40 ∧ ∀ f ∈ r.1,aWn f):=fun e=>aI ⟨by simp,by simp⟩
 unfold nC
 rw [aAo (by omega) (by omega) (by omega),Option.bind_some,ha,if_neg (by simp),aE5,aE5]
 simp only [Option.bind_some]
 refine aO (P:=fun q=>q=false→(0≤a∧a≤9999)∧(0≤b∧b≤9999)∧a≤b) ?_ fun q hq=>cU (fun _=>z 2) fun hn => ?_
 ·refine cU (fun _=>aI fun h=>by cases h) fun h1=>cU (fun _=>aI fun h=>by cases h) fun h2=>aI fun h3=>⟨of_decide_eq_true (show btw a 0 9999=true by simpa using h1),of_decide_eq_true (show btw b 0 9999=true by simpa using h2),by have:=of_decide_eq_false h3;omega⟩
 ·obtain ⟨⟨a0,a1⟩,⟨b0,b1⟩,hab⟩:=hq (by simpa using hn)
  refine aO (P:=fun x=>(∀ xs,x = .inl xs→xs.length≤40 ∧ ∀ f ∈ xs,aWn f) ∧ ∀ r:List fT × Int,x = .inr r→r.1=[]) ?_ fun x hx => ?_
  ·refine vM (I:=fun s:Int × List fT=>(a≤s.1∧s.1≤b+1)∧(s.2.length:Int)≤40 ∧ ∀ f ∈ s.2,aWn f) (m:=fun s=>(b+1-s.1).toNat) ?_ _ ⟨⟨by dsimp only;omega,by dsimp only;omega⟩,by simp,by simp⟩ (by dsimp only;omega)
   rintro ⟨y,xs⟩ ⟨⟨j0,j1⟩,jl,jv⟩
   dsimp only at j0 j1 jl jv ⊢
   refine cU (fun hy => ?_) fun hy=>aI (.inr ⟨_,rfl,fun zs e => ?_,fun r e=>by cases e⟩)
   ·refine aO (aQb ha (by omega) (by omega)) fun v hv=>gX (by omega) (cU (fun _=>aI (.inr ⟨_,rfl,fun zs e=>(by cases e),fun r e=>(by cases e;rfl)⟩)) fun h40=>aI (.inl ⟨_,rfl,⟨⟨?_,?_⟩,?_,?_⟩,?_⟩))
    all_goals (dsimp only;try rw [aQ (x:=y+1) (by omega) (by omega)])
    ·omega
    ·omega
    ·omega
    ·intro f hf
     rcases List.mem_append.1 hf with h | h
     ·exact jv f h
     ·exact hv.2 f h
    ·omega
   ·injection e with e
    subst e
    exact ⟨by omega,jv⟩
  ·cases x with
   | inl xs=>exact aI (hx.1 xs rfl)
   | inr r=>exact aI (by rw [hx.2 r rfl];exact ⟨by simp,by simp⟩)
theorem aM0 {c:aC} (hc:sQ c=true) {d:aS} (hd:qB c d=true):pO c d=some (aIl c d):=by
 obtain ⟨⟨y0,y1⟩,⟨m0,m1⟩,⟨d0,d1⟩⟩:=iO.1 hd
 have hm:=(fC hc).2.1
 have hl:=oQ hc (iM c d.Year) (k:=d.Month-1) (by omega) (by omega)
 unfold pO aIl
 rw [mD hc y0,Option.bind_some,jN hc _ m0 m1,Option.bind_some,aQ (x:=d.Day+1) (by omega) (by omega),aQ (x:=d.Month+1) (by omega) (by omega)]
 simp only [aQn,Option.bind_some]
 by_cases h1:d.Day<uI c (iM c d.Year) (d.Month-1)
 ·rw [if_pos h1,if_neg (by omega)]
  have e:btw d.Month 1 c.Months.length=true:=decide_eq_true (by omega)
  simp only [Option.bind_some,e];rfl
 ·rw [if_neg h1,if_pos (by omega)]
  simp only [Option.bind_some]
  by_cases h2:d.Month<c.Months.length
  ·have e:btw (d.Month+1) 1 c.Months.length=true:=decide_eq_true (by omega)
   rw [if_pos h2,e];rfl
  ·have e:btw (d.Month+1) 1 c.Months.length=false:=decide_eq_false (by omega)
   rw [if_neg h2,e,aQ (x:=d.Year+1) (by omega) (by omega)];rfl
theorem aMw {p:aD} (h:aB0 p):fD p=some (aAx p):=by
 have hs:=aFq h
 obtain ⟨ha,⟨b1,b2,b3⟩,hw⟩:=id h
 have e:fE p (wA p)=some (aDd p (wA p)):=by
  unfold fE gE aDd
  rw [aQ (x:=p.Day+wA p) (by omega) (by omega),aQ (x:=p.Day+wA p-p.Teeth) (by omega) (by omega)]
  dsimp only
  rw [eA (by omega),aQ (x:=p.At+1) (by omega) (by omega)]
  split <;> rfl
 have hI:=aIk h hs.1 hs.2
 obtain ⟨_,_,hc,d1,d2⟩:=id hI
 have t:=aCa (a:=(aDd p (wA p)).Weekday) (n:=(aDd p (wA p)).Week) (by omega) (by omega)
 unfold fD fK
 rw [sT h,Option.bind_some,e,Option.bind_some,eA (by omega),aQ (by omega) (by omega)]
 rfl
def shB (p:aD) (d:aS):Bool:=decide (p.Day=d.Day∧p.At % p.Months+1=d.Month)
theorem aX6 {p:aD} (hp:aB0 p) (hm:1≤p.Months) (d:aS):pQ p d.Month d.Day=some (shB p d):=by
 unfold pQ iG shB
 rw [eA (by omega),Int.tmod_eq_emod_of_nonneg hp.1.1]
 have hr:=Int.emod_nonneg p.At (show p.Months≠0 by omega)
 have hr2:p.At % p.Months≤p.At:=by
  by_cases q:p.At<p.Months
  ·rw [Int.emod_eq_of_lt hp.1.1 q];omega
  ·have:=Int.emod_lt_of_pos p.At (show 0<p.Months by omega);omega
 have hl:=hp.1
 rw [aQ (by omega) (by omega)]
 by_cases e1:p.Day=d.Day <;> by_cases e2:p.At % p.Months+1=d.Month <;> simp [e1,e2]
theorem aVs {c:aC} {cam:List Int} (ha:aDk c cam=0) {d:aS} {w:Int} (hd:qB c d=true) (h1:1≤w) (h2:w≤c.Week) (K:Int):Ok (lL c (aU1 c cam d w) d K) (fun r=>rng r.1):=by
 obtain ⟨hc,hcam,hz,k1,k2⟩:=rA ha
 have hm:=(fC hc).2
 obtain ⟨i1,i2⟩:=aUf (cam:=cam) ha hd h1 h2
 have hl:(aU1 c cam d w).Cam.length≤9223372036854775807:=by have:=i1.1.2.2;omega
 have hmo:1≤(aU1 c cam d w).Months:=by show (1:Int)≤c.Months.length;omega
 have z : ∀ e:Int,Ok (some ((0:Int),e)) (fun (r:Int × Int)=>rng r.1):=fun e=>aI ⟨by simp,by simp⟩
 unfold lL
 rw [iC (by omega) (by omega),Option.bind_some,hc,mB hl,i2,tE (by omega) (by omega),hc,hd,cN]
 simp only [Bool.not_true,Bool.false_eq_true,if_false,Option.bind_some,Bool.and_self]
 refine cU (fun _=>z 2) fun q => ?_
 have q:0≤K∧K≤200000:=of_decide_eq_true (show btw K 0 200000=true by simpa using q)
 rw [aX6 i1 hmo,Option.bind_some]
 refine cU (fun _=>z 6) fun _ => ?_
 refine aO (P:=fun x:Unit ⊕ (Int × Int) => ∀ r,x = .inr r→rng r.1) ?_ fun x hx => ?_
 ·refine vM (I:=fun s:Int × aD × aS => ∃ n:Nat,s.1=n+1∧n≤K∧s.2.1=vY n (aU1 c cam d w)∧qB c s.2.2=true) (m:=fun s=>(K+1-s.1).toNat) ?_ _ ⟨0,rfl,by simp;omega,rfl,hd⟩ (by dsimp only;omega)
  rintro ⟨k,p,e⟩ ⟨n,hk,hn,hp,he⟩
  dsimp only at hk hn hp he ⊢
  subst hp
  have pI:=aIm n i1
  refine cU (fun h3 => ?_) fun _=>aI (.inr ⟨_,rfl,fun r e=>by cases e⟩)
  rw [aMw pI,Option.bind_some,aM0 hc he,Option.bind_some,aE5,Option.bind_some]
  obtain ⟨⟨ny0,ny1⟩,nd,ng⟩:=aWe hc he
  obtain ⟨⟨y0,y1⟩,_⟩:=iO.1 he
  refine cU (fun _=>aI (.inr ⟨_,rfl,fun r e=>by cases e⟩)) fun hy => ?_
  have hy:=of_decide_eq_true (show btw (aIl c e).Year 0 9999=true by simpa using hy)
  have gd:=ng hy.2
  have kI:=aIn pI
  have km:1≤(aAx (vY n (aU1 c cam d w))).Months:=by rw [← aFa,(vK (n+1) _).2.1];exact hmo
  rw [aX6 kI km,Option.bind_some]
  refine cU (fun hs=>aI (.inr ⟨_,rfl,fun r e => ?_⟩)) fun hs=>aI (.inl ⟨_,rfl,⟨n+1,?_,by push_cast;omega,(aFa n _).symm,gd⟩,?_⟩)
  ·injection e with e
   subst e
   exact ⟨by dsimp only;omega,by dsimp only;omega⟩
  all_goals (dsimp only;rw [aQ (x:=k+1) (by omega) (by omega)])
  ·push_cast;omega
  ·omega
 ·cases x with
  | inl u=>exact z 3
  | inr r=>exact aI (hx r rfl)
theorem aUy {s:cH} (h:Inv s) (K:Int):Ok (lR s K) (fun r=>r.1.size≤21):=by
 obtain ⟨hs,hb⟩:=h
 obtain ⟨c1,c2,c3⟩:=smC hs.1
 obtain ⟨ha,hd,w1,w2⟩:=zP (nS hb).2.2.1
 unfold lR
 rw [oL (by omega) (by omega) c3,Option.bind_some,aPi ha hd w1 w2]
 simp only [ne_eq,not_true,if_false]
 exact aO (aVs ha hd w1 w2 K) fun r hr=>aO (yM hr) fun t ht=>aI ht
theorem aJw {f:fT} (h:aWn f):Ok (nF f) (fun t=>t.size≤100):=by
 unfold nF
 refine aO (yM h.1) fun a ha=>gX (by rw [qJ];omega) (aO (yM h.2.1) fun b hb=>gX (by rw [eI,qJ];omega) (gX (by rw [eI,eI,qJ];omega) (aO (yM h.2.2.1) fun e he=>gX ?_ (gX ?_ (aO (yM h.2.2.2) fun g hg=>gX ?_ (aI ?_))))))
 all_goals (simp only [eI,qJ];omega)
theorem aQc {s:cH} (h:Inv s) (a b:Int):Ok (lQ s.Movement a b) (fun r=>r.1.length≤40 ∧ ∀ t ∈ r.1,t.size≤100):=by
 have ha:=(zP (nS h.2).2.2.1).1
 unfold lQ
 refine aO (aJr ha a b) fun v hv=>aO ?_ fun x hx=>aI hx
 refine vM (I:=fun s:Int × List ByteArray=>0≤s.1∧s.1≤v.1.length∧(s.2.length:Int)=s.1 ∧ ∀ t ∈ s.2,t.size≤100) (m:=fun s=>(v.1.length-s.1).toNat) ?_ _ ⟨by simp,by simp,by simp,by simp⟩ (by dsimp only;omega)
 rintro ⟨i,xs⟩ ⟨i0,i1,i2,i3⟩
 dsimp only at i0 i1 i2 i3 ⊢
 refine cU (fun hi => ?_) fun hi=>aI (.inr ⟨_,rfl,by omega,i3⟩)
 refine aO (aO6 i0 hi) fun f hf=>aO (aJw (hv.2 f hf.1)) fun t ht=>gX (by simp;omega) (aI (.inl ⟨_,rfl,⟨?_,?_,?_,?_⟩,?_⟩))
 all_goals (dsimp only;try rw [aQ (by omega) (by omega)])
 ·omega
 ·omega
 ·simp;omega
 ·intro x hx
  rcases List.mem_append.1 hx with h | h
  ·exact i3 x h
  ·rw [List.mem_singleton.1 h];exact ht
 ·omega
end Go.Proofs.YtbliejnpjpnahaaGreatDoor
namespace Go.Proofs.YtbliejnpjpnahaaGreatDoor
set_option linter.unusedVariables false
set_option maxRecDepth 100000
def bD1 (s:cH):Bool:=Nat.ble s.Movement.Name.size 1048576 && (Nat.ble s.Movement.Works.Arbors.length 1048576 && (s.Movement.Works.Arbors.all (fun a=>Nat.ble a.Name.size 1048576 && Nat.ble a.Wheels.length 1048576) && (Nat.ble s.Movement.Works.Meshes.length 1048576 && (Nat.ble s.Movement.Calendar.Name.size 1048576 && (Nat.ble s.Movement.Calendar.Months.length 1048576 && (s.Movement.Calendar.Months.all (fun a=>Nat.ble a.Name.size 1048576) && (Nat.ble s.Movement.Calendar.Rules.length 1048576 && (Nat.ble s.Movement.Cam.length 1048576 && Nat.ble s.Dial.Cam.length 1048576))))))))
theorem aZ4 {s:cH} (h:bD1 s=true):uF s:=by
 unfold bD1 at h
 simp only [Bool.and_eq_true,List.all_eq_true,Nat.ble_eq] at h
 obtain ⟨h1,h2,h3,h4,h5,h6,h7,h8,h9,h10⟩:=h
 exact ⟨⟨h1,⟨⟨h2,fun a ha=>⟨(h3 a ha).1,(h3 a ha).2,fun _ _=>trivial⟩⟩,⟨h4,fun _ _=>⟨trivial,trivial,trivial,trivial⟩⟩⟩,trivial,trivial,trivial,trivial,trivial,⟨h5,⟨h6,fun a ha=>⟨h7 a ha,trivial,trivial⟩⟩,⟨h8,fun _ _=>⟨trivial,trivial,trivial⟩⟩,trivial⟩,⟨h9,fun _ _=>trivial⟩,trivial⟩,⟨trivial,trivial,trivial⟩,trivial,trivial,⟨⟨h10,fun _ _=>trivial⟩,trivial,trivial,trivial,trivial,trivial,trivial⟩⟩
def bCt (xs:List ByteArray):Bool:=Nat.ble xs.length 1000 && xs.all fun t=>Nat.ble t.size 1000
def pmB (m:aG):Bool:=match oJ m,jU m with
 | some a,some b=>bCt a.1 && bCt b.1
 | _,_=>false
def bAp (r:Option (cH × Int)):Bool:=match r with
 | some (s,c)=>if c=0 then bD1 s && (aD0 s && pmB s.Movement) else true
 | none=>false
def aSi:jE:=⟨⟨⟨⟨#[]⟩,⟨[],[]⟩,0,0,0,0,0,⟨⟨#[]⟩,[],[],0⟩,[],0⟩,⟨0,0,0⟩,0,0,⟨[],0,0,0,0,0,0⟩⟩⟩
def bCq:List ByteArray:=[⟨#[99,111,114,114,101,99,116]⟩,⟨#[100,101,115,105,103,110]⟩,⟨#[112,117,115,104]⟩,⟨#[114,117,110]⟩,⟨#[115,101,116]⟩]
def bCr (c:fS):Bool :=
 if c.word=(⟨#[100,101,115,105,103,110]⟩:ByteArray) then match c.numbers with
  | [a,b,d]=>bAp (oN a b c.text d 1)
  | _=>false
 else if c.word=(⟨#[115,101,116]⟩:ByteArray)∨c.word=(⟨#[112,117,115,104]⟩:ByteArray)∨c.word=(⟨#[119,114,111,110,103]⟩:ByteArray) then Nat.beq c.numbers.length 1
 else if c.word=(⟨#[114,117,110]⟩:ByteArray) then match c.numbers with
  | [k]=>decide (-1≤k) && decide (k≤3000000)
  | _=>false
 else if c.word=(⟨#[99,111,114,114,101,99,116]⟩:ByteArray)∨c.word=(⟨#[112,97,114,116,115]⟩:ByteArray)∨c.word=(⟨#[115,112,101,101,100,115]⟩:ByteArray)∨c.word=(⟨#[115,104,111,119]⟩:ByteArray)∨c.word=(⟨#[114,105,103,104,116]⟩:ByteArray)∨c.word=(⟨#[104,97,110,100,115]⟩:ByteArray) then true
 else if c.word=(⟨#[102,97,117,108,116,115]⟩:ByteArray) then Nat.beq c.numbers.length 2
 else match aE bCq c.word,lD aSi c with
  | some false,some r=>Nat.ble r.1.size 1000
  | _,_=>false
def bDa (v2:List ByteArray):Option Bool:=((atI v2 0).bind fun v3 =>
 ((qO).bind fun v4 =>
 ((aE v4 v3).bind fun v5 =>
 (if (!v5)=true then
 some true
 else
 ((atI v2 0).bind fun v6 =>
 ((rM v6).bind fun v7 =>
 some (decide ((v2.length:Int)≠(w64 (1+(v7.size:Int))))))))))) 
def aE6 (l:ByteArray):Bool:=match rR l with
 | some ws=>match bDa ws with
  | some true=>true
  | some false=>match iU ws with
   | some r=>if r.2=true then bCr r.1 else true
   | none=>false
  | none=>false
 | none=>false
theorem aTf:bAp (kL.map fun d=>(d.Sim,0))=true:=by kernel_rfl
theorem bCy:LN0.all aE6=true:=by kernel_rfl
theorem bCz:LN1.all aE6=true:=by kernel_rfl
theorem bC0:LN2.all aE6=true:=by kernel_rfl
theorem bC1:LN3.all aE6=true:=by kernel_rfl
theorem bC2:LN4.all aE6=true:=by kernel_rfl
theorem bC3:LN5.all aE6=true:=by kernel_rfl
theorem bC4:LN6.all aE6=true:=by kernel_rfl
theorem bC5:LN7.all aE6=true:=by kernel_rfl
theorem bC6:LN8.all aE6=true:=by kernel_rfl
theorem bBg {l:ByteArray} (h:l ∈ LN):aE6 l=true:=by
 simp only [LN,List.mem_append] at h
 rcases h with h | h | h | h | h | h | h | h | h
 ·exact List.all_eq_true.1 bCy l h
 ·exact List.all_eq_true.1 bCz l h
 ·exact List.all_eq_true.1 bC0 l h
 ·exact List.all_eq_true.1 bC1 l h
 ·exact List.all_eq_true.1 bC2 l h
 ·exact List.all_eq_true.1 bC3 l h
 ·exact List.all_eq_true.1 bC4 l h
 ·exact List.all_eq_true.1 bC5 l h
 ·exact List.all_eq_true.1 bC6 l h
end Go.Proofs.YtbliejnpjpnahaaGreatDoor
namespace Go.Proofs.YtbliejnpjpnahaaGreatDoor
set_option linter.unusedVariables false
set_option maxRecDepth 100000
def zT (s:cH):Prop:=Inv s∧pmB s.Movement=true
def Lns (xs:List ByteArray):Prop:=xs.length≤1001 ∧ ∀ t ∈ xs,t.size≤1010
theorem aOo {r:Option (cH × Int)} (h:bAp r=true):Ok r (fun x=>x.2=0→zT x.1):=by
 match r,h with
 | none,h=>exact absurd h (by decide)
 | some (s,c),h =>
  refine aI fun (e:c=0) => ?_
  subst e
  unfold bAp at h
  dsimp only at h
  rw [if_pos rfl] at h
  simp only [Bool.and_eq_true] at h
  exact ⟨⟨aZ4 h.1,h.2.1⟩,h.2.2⟩
theorem aXy {xs:List ByteArray} (h:bCt xs=true):xs.length≤1000 ∧ ∀ t ∈ xs,t.size≤1000:=by
 unfold bCt at h
 simp only [Bool.and_eq_true,List.all_eq_true,Nat.ble_eq] at h
 exact h
theorem aKt {m:aG} (h:pmB m=true):Ok (oJ m) (fun r=>r.1.length≤1000 ∧ ∀ t ∈ r.1,t.size≤1000)∧Ok (jU m) (fun r=>r.1.length≤1000 ∧ ∀ t ∈ r.1,t.size≤1000):=by
 unfold pmB at h
 cases ha:oJ m with
 | none=>rw [ha] at h;exact absurd h (by simp)
 | some a =>
  cases hb:jU m with
  | none=>rw [ha,hb] at h;exact absurd h (by simp)
  | some b =>
   rw [ha,hb] at h
   simp only [Bool.and_eq_true] at h
   exact ⟨aI (aXy h.1),aI (aXy h.2)⟩
theorem aGr {k:Int} (xs:List Int):atI (k :: xs) 0=some k:=rfl
theorem bFq {a b c:Int}:atI [a,b,c] 1=some b:=rfl
theorem bFr {a b c:Int}:atI [a,b,c] 2=some c:=rfl
theorem bFs {a b:Int}:atI [a,b] 1=some b:=rfl
theorem aY6 {xs:List Int} (h:Nat.beq xs.length 1=true) : ∃ k,xs=[k]:=by
 match xs,h with
 | [k],_=>exact ⟨k,rfl⟩
theorem aY7 {xs:List Int} (h:Nat.beq xs.length 2=true) : ∃ j k,xs=[j,k]:=by
 match xs,h with
 | [j,k],_=>exact ⟨j,k,rfl⟩
theorem aE7 {xs:List ByteArray} (h:xs.length≤1000 ∧ ∀ t ∈ xs,t.size≤1000):Ok (pN xs) (fun r=>1≤r.length∧Lns r):=by
 unfold pN
 refine aO (yM (x:=(xs.length:Int)) ⟨by omega,by omega⟩) fun t ht=>gX ?_ (gX (by simp;omega) (aI ⟨by simp,by simp;omega,fun x hx => ?_⟩))
 ·rw [show (⟨#[111,107,32]⟩:ByteArray).size=3 from rfl];omega
 ·rcases List.mem_append.1 hx with h' | h'
  ·exact Nat.le_trans (h.2 x h') (by decide)
  ·rw [List.mem_singleton.1 h',eI,show (⟨#[111,107,32]⟩:ByteArray).size=3 from rfl];omega
theorem aL4 (c:Int):Ok (pL c) (fun t=>t.size≤9):=by
 unfold pL
 refine aO (P:=fun b=>b=false→0≤c∧c<11) (cU (fun _=>aI (by simp)) fun h=>aI fun h' => ?_) fun b hb=>cU (fun _=>aI (by decide)) fun h => ?_
 ·have:=of_decide_eq_false h'
  simp at this
  omega
 ·have:=hb (by simpa using h)
  refine aO (aO6 (by omega) (by simpa using this.2)) fun e he=>aI ?_
  have : ∀ e ∈ [(⟨#[111,107]⟩:ByteArray),(⟨#[105,110,118,97,108,105,100]⟩:ByteArray),(⟨#[114,97,110,103,101]⟩:ByteArray),(⟨#[110,111,116,45,102,111,117,110,100]⟩:ByteArray),(⟨#[101,120,105,115,116,115]⟩:ByteArray),(⟨#[102,117,108,108]⟩:ByteArray),(⟨#[115,116,97,116,101]⟩:ByteArray),(⟨#[115,121,110,116,97,120]⟩:ByteArray),(⟨#[102,111,114,109,97,116]⟩:ByteArray),(⟨#[108,111,111,112]⟩:ByteArray),(⟨#[98,114,111,107,101,110]⟩:ByteArray)],e.size≤9:=by decide
  exact this e he.1
def ExR (r:jE × Bool × List ByteArray × Int):Prop:=r.2.2.2=0→(r.2.1=true→zT r.1.Sim)∧1≤r.2.2.1.length∧Lns r.2.2.1
theorem zM {t:ByteArray} (h:t.size≤1010):Lns [t]:=⟨by simp,fun x hx=>by rw [List.mem_singleton.1 hx];exact h⟩
theorem aO7:(⟨#[111,107]⟩:ByteArray).size≤1010:=by decide
theorem wM {s:cH} {c:fS} (h:Ok (iR s c) (fun r=>r.2.2=0→zT r.1∧r.2.1.size≤1010)):Ok (α:=jE × Bool × List ByteArray × Int) ((iR s c).bind fun v3=>some ((⟨v3.1⟩:jE),true,[v3.2.1],v3.2.2)) ExR :=
 aO h fun r hr=>aI fun h0=>⟨fun _=>(hr h0).1,by simp,zM (hr h0).2⟩
theorem aO5 {s r:cH} (h:zT s) {c:Int} (k:c=0→Inv r∧r.Movement=s.Movement) (h0:c=0):zT r:=⟨(k h0).1,by rw [(k h0).2];exact h.2⟩
def exM (s:cH) (c:fS):Option (jE × Bool × List ByteArray × Int) :=
 ((aE [(⟨#[99,111,114,114,101,99,116]⟩:ByteArray),(⟨#[100,101,115,105,103,110]⟩:ByteArray),(⟨#[112,117,115,104]⟩:ByteArray),(⟨#[114,117,110]⟩:ByteArray),(⟨#[115,101,116]⟩:ByteArray)] c.word).bind fun v2 =>
 (if v2=true then
 ((iR s c).bind fun v3 =>
 some ((⟨v3.1⟩:jE),true,[v3.2.1],v3.2.2))
 else
 ((lY s c).bind fun v4 =>
 (if v4.1=true then
 some (aSi,false,v4.2.1,v4.2.2)
 else
 ((lD ⟨s⟩ c).bind fun v5 =>
 some (aSi,false,[v5.1],v5.2))))))
theorem aSk {s:cH} (h:zT s) {tx:ByteArray} {a b d:Int} (hd:bAp (oN a b tx d 1)=true) (ra:aB) (da:aS):Ok (exM s ⟨⟨#[100,101,115,105,103,110]⟩,[a,b,d],ra,da,tx⟩) ExR:=by
 unfold exM
 rw [show aE [(⟨#[99,111,114,114,101,99,116]⟩:ByteArray),(⟨#[100,101,115,105,103,110]⟩:ByteArray),(⟨#[112,117,115,104]⟩:ByteArray),(⟨#[114,117,110]⟩:ByteArray),(⟨#[115,101,116]⟩:ByteArray)] (⟨#[100,101,115,105,103,110]⟩:ByteArray)=some true from by kernel_rfl,Option.bind_some]
 rw [if_pos rfl]
 refine wM ?_
 unfold iR
 dsimp only
 rw [if_pos rfl]
 rw [aGr,Option.bind_some,bFq,Option.bind_some,bFr,Option.bind_some]
 exact aO (aOo hd) fun x hx=>aI fun h0=>⟨hx h0,aO7⟩
theorem bA9 {s:cH} (h:zT s) (k:Int) (ra:aB) (da:aS) (tx:ByteArray):Ok (exM s ⟨⟨#[115,101,116]⟩,[k],ra,da,tx⟩) ExR:=by
 unfold exM
 rw [show aE [(⟨#[99,111,114,114,101,99,116]⟩:ByteArray),(⟨#[100,101,115,105,103,110]⟩:ByteArray),(⟨#[112,117,115,104]⟩:ByteArray),(⟨#[114,117,110]⟩:ByteArray),(⟨#[115,101,116]⟩:ByteArray)] (⟨#[115,101,116]⟩:ByteArray)=some true from by kernel_rfl,Option.bind_some]
 rw [if_pos rfl]
 refine wM ?_
 unfold iR
 dsimp only
 rw [if_neg (by decide),if_pos rfl]
 rw [aGr,Option.bind_some]
 exact aO (aZy h.1.1.1 da k) fun x hx=>aI fun h0=>⟨aO5 h hx h0,aO7⟩
theorem bA8 {s:cH} (h:zT s) {k:Int} (k0 : -1≤k) (k1:k≤3000000) (ra:aB) (da:aS) (tx:ByteArray):Ok (exM s ⟨⟨#[114,117,110]⟩,[k],ra,da,tx⟩) ExR:=by
 unfold exM
 rw [show aE [(⟨#[99,111,114,114,101,99,116]⟩:ByteArray),(⟨#[100,101,115,105,103,110]⟩:ByteArray),(⟨#[112,117,115,104]⟩:ByteArray),(⟨#[114,117,110]⟩:ByteArray),(⟨#[115,101,116]⟩:ByteArray)] (⟨#[114,117,110]⟩:ByteArray)=some true from by kernel_rfl,Option.bind_some]
 rw [if_pos rfl]
 refine wM ?_
 unfold iR
 dsimp only
 rw [if_neg (by decide),if_neg (by decide),if_pos rfl]
 rw [aGr,Option.bind_some]
 refine aO (aZw h.1 k0 k1) fun x hx=>aO (yM hx.1) fun t ht=>gX ?_ (aI fun h0=>⟨aO5 h hx.2 h0,?_⟩)
 ·rw [show (⟨#[98,108,111,119,115,32]⟩:ByteArray).size=6 from rfl];omega
 ·dsimp only;rw [eI,show (⟨#[98,108,111,119,115,32]⟩:ByteArray).size=6 from rfl];omega
theorem aYt {s:cH} (h:zT s) (k:Int) (ra:aB) (da:aS) (tx:ByteArray):Ok (exM s ⟨⟨#[112,117,115,104]⟩,[k],ra,da,tx⟩) ExR:=by
 unfold exM
 rw [show aE [(⟨#[99,111,114,114,101,99,116]⟩:ByteArray),(⟨#[100,101,115,105,103,110]⟩:ByteArray),(⟨#[112,117,115,104]⟩:ByteArray),(⟨#[114,117,110]⟩:ByteArray),(⟨#[115,101,116]⟩:ByteArray)] (⟨#[112,117,115,104]⟩:ByteArray)=some true from by kernel_rfl,Option.bind_some]
 rw [if_pos rfl]
 refine wM ?_
 unfold iR
 dsimp only
 rw [if_neg (by decide),if_neg (by decide),if_neg (by decide),if_pos rfl]
 rw [aGr,Option.bind_some]
 exact aO (aWj h.1 k) fun x hx=>aI fun h0=>⟨aO5 h hx h0,aO7⟩
theorem aP9 {s:cH} (h:zT s) (ns:List Int) (ra:aB) (da:aS) (tx:ByteArray):Ok (exM s ⟨⟨#[99,111,114,114,101,99,116]⟩,ns,ra,da,tx⟩) ExR:=by
 unfold exM
 rw [show aE [(⟨#[99,111,114,114,101,99,116]⟩:ByteArray),(⟨#[100,101,115,105,103,110]⟩:ByteArray),(⟨#[112,117,115,104]⟩:ByteArray),(⟨#[114,117,110]⟩:ByteArray),(⟨#[115,101,116]⟩:ByteArray)] (⟨#[99,111,114,114,101,99,116]⟩:ByteArray)=some true from by kernel_rfl,Option.bind_some]
 rw [if_pos rfl]
 refine wM ?_
 unfold iR
 dsimp only
 rw [if_neg (by decide),if_neg (by decide),if_neg (by decide),if_neg (by decide)]
 exact aO (aVh h.1) fun x hx=>aI fun h0=>⟨aO5 h hx h0,aO7⟩
theorem aVn {s:cH} (h:zT s) (ns:List Int) (ra:aB) (da:aS) (tx:ByteArray):Ok (exM s ⟨⟨#[112,97,114,116,115]⟩,ns,ra,da,tx⟩) ExR:=by
 unfold exM
 rw [show aE [(⟨#[99,111,114,114,101,99,116]⟩:ByteArray),(⟨#[100,101,115,105,103,110]⟩:ByteArray),(⟨#[112,117,115,104]⟩:ByteArray),(⟨#[114,117,110]⟩:ByteArray),(⟨#[115,101,116]⟩:ByteArray)] (⟨#[112,97,114,116,115]⟩:ByteArray)=some false from by kernel_rfl,Option.bind_some]
 rw [if_neg (by decide)]
 unfold lY
 dsimp only
 rw [if_pos rfl]
 refine aO (P:=fun v => ∃ r,v=(true,r)∧1≤r.1.length∧Lns r.1) ?_ fun v ⟨r,e,h1,h2⟩=>by rw [e];exact aI fun _=>⟨(fun h=>nomatch h),h1,h2⟩
 refine aO (P:=fun v => ∃ c xs,v = .inl (c,xs)∧xs.length≤1000 ∧ ∀ t ∈ xs,t.size≤1000) ?_ fun v ⟨c,xs,e,hx⟩=>by rw [e];exact aO (aE7 hx) fun r hr=>aI ⟨_,rfl,hr⟩
 exact aO (aKt h.2).1 fun r hr=>aI ⟨_,_,rfl,hr⟩
theorem aSm {s:cH} (h:zT s) (ns:List Int) (ra:aB) (da:aS) (tx:ByteArray):Ok (exM s ⟨⟨#[115,112,101,101,100,115]⟩,ns,ra,da,tx⟩) ExR:=by
 unfold exM
 rw [show aE [(⟨#[99,111,114,114,101,99,116]⟩:ByteArray),(⟨#[100,101,115,105,103,110]⟩:ByteArray),(⟨#[112,117,115,104]⟩:ByteArray),(⟨#[114,117,110]⟩:ByteArray),(⟨#[115,101,116]⟩:ByteArray)] (⟨#[115,112,101,101,100,115]⟩:ByteArray)=some false from by kernel_rfl,Option.bind_some]
 rw [if_neg (by decide)]
 unfold lY
 dsimp only
 rw [if_neg (by decide),if_pos rfl]
 refine aO (P:=fun v => ∃ r,v=(true,r)∧1≤r.1.length∧Lns r.1) ?_ fun v ⟨r,e,h1,h2⟩=>by rw [e];exact aI fun _=>⟨(fun h=>nomatch h),h1,h2⟩
 refine aO (P:=fun v => ∃ c xs,v = .inl (c,xs)∧xs.length≤1000 ∧ ∀ t ∈ xs,t.size≤1000) ?_ fun v ⟨c,xs,e,hx⟩=>by rw [e];exact aO (aE7 hx) fun r hr=>aI ⟨_,rfl,hr⟩
 exact aO (aKt h.2).2 fun r hr=>aI ⟨_,_,rfl,hr⟩
theorem aSl {s:cH} (h:zT s) (j k:Int) (ra:aB) (da:aS) (tx:ByteArray):Ok (exM s ⟨⟨#[102,97,117,108,116,115]⟩,[j,k],ra,da,tx⟩) ExR:=by
 unfold exM
 rw [show aE [(⟨#[99,111,114,114,101,99,116]⟩:ByteArray),(⟨#[100,101,115,105,103,110]⟩:ByteArray),(⟨#[112,117,115,104]⟩:ByteArray),(⟨#[114,117,110]⟩:ByteArray),(⟨#[115,101,116]⟩:ByteArray)] (⟨#[102,97,117,108,116,115]⟩:ByteArray)=some false from by kernel_rfl,Option.bind_some]
 rw [if_neg (by decide)]
 unfold lY
 dsimp only
 rw [if_neg (by decide),if_neg (by decide),if_pos rfl]
 refine aO (P:=fun v => ∃ r,v=(true,r)∧1≤r.1.length∧Lns r.1) ?_ fun v ⟨r,e,h1,h2⟩=>by rw [e];exact aI fun _=>⟨(fun h=>nomatch h),h1,h2⟩
 refine aO (P:=fun v => ∃ c xs,v = .inl (c,xs)∧xs.length≤1000 ∧ ∀ t ∈ xs,t.size≤1000) ?_ fun v ⟨c,xs,e,hx⟩=>by rw [e];exact aO (aE7 hx) fun r hr=>aI ⟨_,rfl,hr⟩
 rw [aGr,Option.bind_some,bFs,Option.bind_some]
 exact aO (aQc h.1 j k) fun r hr=>aI ⟨_,_,rfl,by omega,fun t ht=>Nat.le_trans (hr.2 t ht) (by decide)⟩
theorem aYu {s:cH} (h:zT s) (ns:List Int) (ra:aB) (da:aS) (tx:ByteArray):Ok (exM s ⟨⟨#[115,104,111,119]⟩,ns,ra,da,tx⟩) ExR:=by
 unfold exM
 rw [show aE [(⟨#[99,111,114,114,101,99,116]⟩:ByteArray),(⟨#[100,101,115,105,103,110]⟩:ByteArray),(⟨#[112,117,115,104]⟩:ByteArray),(⟨#[114,117,110]⟩:ByteArray),(⟨#[115,101,116]⟩:ByteArray)] (⟨#[115,104,111,119]⟩:ByteArray)=some false from by kernel_rfl,Option.bind_some]
 rw [if_neg (by decide)]
 unfold lY
 dsimp only
 rw [if_neg (by decide),if_neg (by decide),if_neg (by decide),Option.bind_some,aTm,Option.bind_some,if_neg (by decide)]
 unfold lD
 dsimp only
 rw [if_pos rfl]
 refine aO (P:=fun v=>v.1.size≤1010) ?_ fun v hv=>aI fun _=>⟨(fun h=>nomatch h),by simp,zM hv⟩
 refine aO (P:=fun v => ∃ r,v = .inr r∧r.1.size≤1010) ?_ fun v ⟨r,e,hr⟩=>by rw [e];exact aI hr
 exact aO (aOp h.1) fun r hr=>aI ⟨_,rfl,Nat.le_trans hr.1 (by decide)⟩
theorem aVo {s:cH} (h:zT s) (ns:List Int) (ra:aB) (da:aS) (tx:ByteArray):Ok (exM s ⟨⟨#[114,105,103,104,116]⟩,ns,ra,da,tx⟩) ExR:=by
 unfold exM
 rw [show aE [(⟨#[99,111,114,114,101,99,116]⟩:ByteArray),(⟨#[100,101,115,105,103,110]⟩:ByteArray),(⟨#[112,117,115,104]⟩:ByteArray),(⟨#[114,117,110]⟩:ByteArray),(⟨#[115,101,116]⟩:ByteArray)] (⟨#[114,105,103,104,116]⟩:ByteArray)=some false from by kernel_rfl,Option.bind_some]
 rw [if_neg (by decide)]
 unfold lY
 dsimp only
 rw [if_neg (by decide),if_neg (by decide),if_neg (by decide),Option.bind_some,aTm,Option.bind_some,if_neg (by decide)]
 unfold lD
 dsimp only
 rw [if_neg (by decide),if_pos rfl]
 refine aO (P:=fun v=>v.1.size≤1010) ?_ fun v hv=>aI fun _=>⟨(fun h=>nomatch h),by simp,zM hv⟩
 refine aO (P:=fun v => ∃ r,v = .inr r∧r.1.size≤1010) ?_ fun v ⟨r,e,hr⟩=>by rw [e];exact aI hr
 exact aO (aT4 h.1) fun r _=>cU (fun _=>aI ⟨_,rfl,by decide⟩) fun _=>aI ⟨_,rfl,by decide⟩
theorem aVm {s:cH} (h:zT s) (ns:List Int) (ra:aB) (da:aS) (tx:ByteArray):Ok (exM s ⟨⟨#[104,97,110,100,115]⟩,ns,ra,da,tx⟩) ExR:=by
 unfold exM
 rw [show aE [(⟨#[99,111,114,114,101,99,116]⟩:ByteArray),(⟨#[100,101,115,105,103,110]⟩:ByteArray),(⟨#[112,117,115,104]⟩:ByteArray),(⟨#[114,117,110]⟩:ByteArray),(⟨#[115,101,116]⟩:ByteArray)] (⟨#[104,97,110,100,115]⟩:ByteArray)=some false from by kernel_rfl,Option.bind_some]
 rw [if_neg (by decide)]
 unfold lY
 dsimp only
 rw [if_neg (by decide),if_neg (by decide),if_neg (by decide),Option.bind_some,aTm,Option.bind_some,if_neg (by decide)]
 unfold lD
 dsimp only
 rw [if_neg (by decide),if_neg (by decide),if_pos rfl]
 refine aO (P:=fun v=>v.1.size≤1010) ?_ fun v hv=>aI fun _=>⟨(fun h=>nomatch h),by simp,zM hv⟩
 refine aO (P:=fun v => ∃ r,v = .inr r∧r.1.size≤1010) ?_ fun v ⟨r,e,hr⟩=>by rw [e];exact aI hr
 refine aO (aSx h.1) fun r _=>aO (aCw _) fun a ha=>gX ?_ (aO (aCw _) fun b hb=>gX ?_ (aI ⟨_,rfl,?_⟩))
 ·rw [qJ];omega
 ·rw [eI,qJ];omega
 ·dsimp only;rw [eI,eI,qJ];omega
theorem aVp {s:cH} (h:zT s) (k:Int) (ra:aB) (da:aS) (tx:ByteArray):Ok (exM s ⟨⟨#[119,114,111,110,103]⟩,[k],ra,da,tx⟩) ExR:=by
 unfold exM
 rw [show aE [(⟨#[99,111,114,114,101,99,116]⟩:ByteArray),(⟨#[100,101,115,105,103,110]⟩:ByteArray),(⟨#[112,117,115,104]⟩:ByteArray),(⟨#[114,117,110]⟩:ByteArray),(⟨#[115,101,116]⟩:ByteArray)] (⟨#[119,114,111,110,103]⟩:ByteArray)=some false from by kernel_rfl,Option.bind_some]
 rw [if_neg (by decide)]
 unfold lY
 dsimp only
 rw [if_neg (by decide),if_neg (by decide),if_neg (by decide),Option.bind_some,aTm,Option.bind_some,if_neg (by decide)]
 unfold lD
 dsimp only
 rw [if_neg (by decide),if_neg (by decide),if_neg (by decide),if_pos rfl]
 refine aO (P:=fun v=>v.1.size≤1010) ?_ fun v hv=>aI fun _=>⟨(fun h=>nomatch h),by simp,zM hv⟩
 refine aO (P:=fun v => ∃ r,v = .inr r∧r.1.size≤1010) ?_ fun v ⟨r,e,hr⟩=>by rw [e];exact aI hr
 rw [aGr,Option.bind_some]
 exact aO (aUy h.1 k) fun r hr=>aI ⟨_,rfl,Nat.le_trans hr (by decide)⟩
theorem aUp {s:cH} {c:fS} (h0 : ¬ c.word=(⟨#[115,104,111,119]⟩:ByteArray)) (h1 : ¬ c.word=(⟨#[114,105,103,104,116]⟩:ByteArray)) (h2 : ¬ c.word=(⟨#[104,97,110,100,115]⟩:ByteArray)) (h3 : ¬ c.word=(⟨#[119,114,111,110,103]⟩:ByteArray)):lD ⟨s⟩ c=lD aSi c:=by
 unfold lD
 simp only [if_neg h0,if_neg h1,if_neg h2,if_neg h3]
theorem bDg {s:cH} (h:zT s) {c:fS} (hc:bCr c=true):Ok (exM s c) ExR:=by
 obtain ⟨w,ns,ra,da,tx⟩:=c
 unfold bCr at hc
 dsimp only at hc
 by_cases w1:w=(⟨#[100,101,115,105,103,110]⟩:ByteArray)
 ·subst w1
  rw [if_pos rfl] at hc
  match ns,hc with
  | [a,b,d],hc=>exact aSk h hc ra da
 rw [if_neg w1] at hc
 by_cases w2:w=(⟨#[115,101,116]⟩:ByteArray)∨w=(⟨#[112,117,115,104]⟩:ByteArray)∨w=(⟨#[119,114,111,110,103]⟩:ByteArray)
 ·rw [if_pos w2] at hc
  obtain ⟨k,rfl⟩:=aY6 hc
  rcases w2 with rfl | rfl | rfl
  ·exact bA9 h k ra da tx
  ·exact aYt h k ra da tx
  ·exact aVp h k ra da tx
 rw [if_neg w2] at hc
 by_cases w3:w=(⟨#[114,117,110]⟩:ByteArray)
 ·subst w3
  rw [if_pos rfl] at hc
  match ns,hc with
  | [k],hc =>
   dsimp only at hc
   simp only [Bool.and_eq_true,decide_eq_true_eq] at hc
   exact bA8 h hc.1 hc.2 ra da tx
 rw [if_neg w3] at hc
 by_cases w4:w=(⟨#[99,111,114,114,101,99,116]⟩:ByteArray)∨w=(⟨#[112,97,114,116,115]⟩:ByteArray)∨w=(⟨#[115,112,101,101,100,115]⟩:ByteArray)∨w=(⟨#[115,104,111,119]⟩:ByteArray)∨w=(⟨#[114,105,103,104,116]⟩:ByteArray)∨w=(⟨#[104,97,110,100,115]⟩:ByteArray)
 ·rcases w4 with rfl | rfl | rfl | rfl | rfl | rfl
  ·exact aP9 h ns ra da tx
  ·exact aVn h ns ra da tx
  ·exact aSm h ns ra da tx
  ·exact aYu h ns ra da tx
  ·exact aVo h ns ra da tx
  ·exact aVm h ns ra da tx
 rw [if_neg w4] at hc
 by_cases w5:w=(⟨#[102,97,117,108,116,115]⟩:ByteArray)
 ·subst w5
  rw [if_pos rfl] at hc
  obtain ⟨j,k,rfl⟩:=aY7 hc
  exact aSl h j k ra da tx
 rw [if_neg w5] at hc
 simp only [not_or] at w2 w4
 have ht:=aUp (s:=s) (c:=⟨w,ns,ra,da,tx⟩) w4.2.2.2.1 w4.2.2.2.2.1 w4.2.2.2.2.2 w2.2.2
 unfold exM
 dsimp only
 rw [ht]
 revert hc
 generalize lD aSi _=o
 show (match aE bCq w,o with
  | some false,some r=>Nat.ble r.1.size 1000
  | _,_=>false)=true→Ok ((aE bCq w).bind _) ExR
 generalize aE bCq w=q
 intro hc
 match q,o,hc with
 | some false,some r,hc =>
  rw [Option.bind_some,if_neg (by decide)]
  unfold lY
  dsimp only
  rw [if_neg w4.2.1,if_neg w4.2.2.1,if_neg w5,Option.bind_some,aTm,Option.bind_some,if_neg (by decide),Option.bind_some]
  exact aI fun _=>⟨(fun h=>nomatch h),by simp,zM (Nat.le_trans (Nat.le_of_ble_eq_true hc) (by decide))⟩
theorem aQa {s:cH} (h:zT s) {ws:List ByteArray} {c:fS × Bool} (hr:iU ws=some c) (hc:c.2=true→bCr c.1=true):Ok (rK ⟨s⟩ ws) ExR:=by
 unfold rK
 rw [hr,Option.bind_some]
 refine cU (fun _=>aI fun h=>absurd h (by decide)) fun hb => ?_
 exact bDg h (hc (by simpa using hb))
def Res (r:jE × List ByteArray × Int):Prop:=r.2.2=7∨(r.2.2=0∧zT r.1.Sim∧1≤r.2.1.length∧Lns r.2.1)
theorem aP5 {s:cH} (h:zT s) {l:ByteArray} (hl:l ∈ LN):Ok (dX ⟨s⟩ l) Res:=by
 have hb:=bBg hl
 unfold dX kZ
 rw [aFw h.1,Option.bind_some,Option.bind_some,if_neg (by decide)]
 unfold aE6 at hb
 cases hw:rR l with
 | none=>rw [hw] at hb;exact absurd hb (by simp)
 | some ws =>
  rw [hw] at hb
  dsimp only at hb
  rw [Option.bind_some]
  show Ok ((bDa ws).bind _) Res
  revert hb
  generalize bDa ws=q
  intro hb
  match q,hb with
  | some true,_=>rw [Option.bind_some,if_pos rfl];exact aI (.inl rfl)
  | some false,hb =>
   rw [Option.bind_some,if_neg (by decide)]
   dsimp only at hb
   cases hr:iU ws with
   | none=>rw [hr] at hb;exact absurd hb (by simp)
   | some c =>
    rw [hr] at hb
    dsimp only at hb
    refine aO (aQa h hr fun h2=>by rw [if_pos h2] at hb;exact hb) fun r hx=>cU (fun hn => ?_) fun h0 => ?_
    ·rw [pM h.1.1,Option.bind_some]
     refine aO (aL4 _) fun t ht=>gX ?_ (aI (.inr ⟨rfl,h,by simp,zM ?_⟩))
     ·rw [show (⟨#[101,114,114,111,114,32]⟩:ByteArray).size=6 from rfl];omega
     ·rw [eI,show (⟨#[101,114,114,111,114,32]⟩:ByteArray).size=6 from rfl];omega
    ·have hx:=hx (by simpa using h0)
     rw [pM h.1.1]
     refine aO (P:=fun v=>zT (⟨⟨v.1,⟨v.2.2.2.2.2.2.2.2.2.2.2.2.2.2.2.2.2.2.1,v.2.2.2.2.2.2.2.2.2.2.2.2.2.2.2.2.2.2.2.1⟩,v.2.1,v.2.2.1,v.2.2.2.1,v.2.2.2.2.1,v.2.2.2.2.2.1,⟨v.2.2.2.2.2.2.1,v.2.2.2.2.2.2.2.2.2.2.2.2.2.2.2.2.2.2.2.2.1,v.2.2.2.2.2.2.2.2.2.2.2.2.2.2.2.2.2.2.2.2.2.1,v.2.2.2.2.2.2.2.1⟩,v.2.2.2.2.2.2.2.2.2.2.2.2.2.2.2.2.2.2.2.2.2.2.1,v.2.2.2.2.2.2.2.2.1⟩,v.2.2.2.2.2.2.2.2.2.1,v.2.2.2.2.2.2.2.2.2.2.1,v.2.2.2.2.2.2.2.2.2.2.2.1,⟨v.2.2.2.2.2.2.2.2.2.2.2.2.2.2.2.2.2.2.2.2.2.2.2,v.2.2.2.2.2.2.2.2.2.2.2.2.1,v.2.2.2.2.2.2.2.2.2.2.2.2.2.1,v.2.2.2.2.2.2.2.2.2.2.2.2.2.2.1,v.2.2.2.2.2.2.2.2.2.2.2.2.2.2.2.1,v.2.2.2.2.2.2.2.2.2.2.2.2.2.2.2.2.1,v.2.2.2.2.2.2.2.2.2.2.2.2.2.2.2.2.2.1⟩⟩:cH)) ?_ fun v hv=>aI (.inr ⟨rfl,hv,hx.2⟩)
     refine cU (fun _=>aO (aI (P:=fun x=>x=s) rfl) fun x hx=>aI ?_) fun ht=>aI ?_
     ·dsimp only;rw [hx];exact h
     ·exact hx.1 (by simpa using ht)
theorem aQw:Ok kL (fun d=>zT d.Sim):=by
 have h:=aTf
 cases e:kL with
 | none=>rw [e] at h;exact absurd h (by simp [bAp])
 | some d =>
  rw [e] at h
  obtain ⟨x,hx,hg⟩:=aOo h
  refine aI ?_
  have:x=(d.Sim,0):=by simpa using hx.symm
  rw [this] at hg
  exact hg rfl
end Go.Proofs.YtbliejnpjpnahaaGreatDoor
namespace Go.Proofs.YtbliejnpjpnahaaGreatDoor
set_option linter.unusedVariables false
set_option maxRecDepth 100000
abbrev tl (s:ByteArray):List UInt8:=s.data.toList
def ba (l:List UInt8):ByteArray:=⟨l.toArray⟩
theorem aW8 (l:List UInt8):tl (ba l)=l:=rfl
theorem aVd (s:ByteArray):ba (tl s)=s:=rfl
theorem aPt {a b:ByteArray} (h:tl a=tl b):a=b:=by rw [← aVd a, ← aVd b,h]
theorem bAz (l:List UInt8):(ba l).size=l.length:=by simp [ba,ByteArray.size]
theorem aLm (s:ByteArray):(tl s).length=s.size:=by show s.data.toList.length=s.data.size;rw [Array.length_toList]
theorem aLl (a b:ByteArray):tl (a++b)=tl a++tl b:=by show (a++b).data.toList=_;rw [ByteArray.data_append,Array.toList_append]
theorem aPs (s:ByteArray) (i j:Nat):tl (s.extract i j)=((tl s).take j).drop i:=by
 simp [tl,ByteArray.data_extract,Array.toList_extract,List.extract_eq_take_drop]
 try rw [List.drop_take]
theorem aS2 {c:UInt8} : ∀ (a b:List UInt8),c ∉ a→Lib.indexByte (a++c :: b) c=a.length
 | [],b,_=>by simp [Lib.indexByte]
 | x :: a,b,h=>by
  have hx:(x == c)=false:=by simp at h ⊢;exact fun e=>h.1 e.symm
  have ih:=aS2 a b (fun hc=>h (List.mem_cons_of_mem _ hc))
  have hne:((a.length:Int) == -1)=false:=by simp
  simp only [List.cons_append,Lib.indexByte,hx,ih,hne,Bool.false_eq_true,if_false,List.length_cons]
  omega
def nU (c:UInt8):List UInt8→List (List UInt8)
 | []=>[[]]
 | b :: l=>if b=c then [] :: nU c l else (b :: (nU c l).headD []) :: (nU c l).tail
theorem zQ {c:UInt8} : ∀ {l:List UInt8},c ∉ l→nU c l=[l]
 | [],_=>rfl
 | b :: l,h=>by
  have ih:=zQ (l:=l) (fun hc=>h (List.mem_cons_of_mem _ hc))
  have hb:b≠c:=fun e=>h (by simp [e])
  unfold nU
  rw [if_neg hb,ih];rfl
theorem aB6 {c:UInt8} : ∀ {a b:List UInt8},c ∉ a→nU c (a++c :: b)=a :: nU c b
 | [],b,_=>by simp [nU]
 | x :: a,b,h=>by
  have ih:=aB6 (a:=a) (b:=b) (fun hc=>h (List.mem_cons_of_mem _ hc))
  have hb:x≠c:=fun e=>h (by simp [e])
  rw [List.cons_append,nU,if_neg hb,ih];rfl
theorem aV3 (s:ByteArray) (c:UInt8):iZ s ⟨#[c]⟩=some (Lib.indexByte (tl s) c):=by
 unfold iZ eR
 rw [eA (show (⟨#[c]⟩:ByteArray).size=1 from rfl)];rfl
theorem aRj {p:ByteArray} {c:UInt8} {n:Nat} (hn:n=(tl p).count c+1) (hp:p.size≤1048576) : ∃ x,bQ (S:=ByteArray × Int × List ByteArray) (X:=ByteArray × Int × List ByteArray) (fun s9 =>
  (if s9.2.1<(n:Int)-1 then
  ((iZ s9.1 ⟨#[c]⟩).bind fun v10 =>
  (if v10<0 then
  some (.inr (s9.1,s9.2.1,s9.2.2))
  else
  (chk (0≤(0:Int)∧(0:Int)≤(w64 (v10+0))∧(w64 (v10+0))≤(s9.1.size:Int)) (
  ((atI s9.2.2 s9.2.1).bind fun v12 =>
  (chk (0≤(w64 (v10+1))∧(w64 (v10+1))≤(s9.1.size:Int)∧(s9.1.size:Int)≤(s9.1.size:Int)) (
  some (.inl (s9.1.extract (w64 (v10+1)).toNat (s9.1.size:Int).toNat,w64 (s9.2.1+1),List.set s9.2.2 s9.2.1.toNat (s9.1.extract (0:Int).toNat (w64 (v10+0)).toNat))))))))))
  else
  some (.inr (s9.1,s9.2.1,s9.2.2)))) (p,0,List.replicate n (⟨#[]⟩:ByteArray))=some x∧x.2.1=(n:Int)-1 ∧ ∃ out:List (List UInt8),out.length+1=n∧nU c (tl p)=out++[tl x.1]∧x.2.2=out.map ba++[⟨#[]⟩]:=by
 have hcl:=List.count_le_length (a:=c) (l:=tl p)
 have hpl:=aLm p
 refine sW (fun (s:ByteArray × Int × List ByteArray) => ∃ out:List (List UInt8),s.2.1=(out.length:Int)∧out.length+(tl s.1).count c+1=n∧nU c (tl p)=out++nU c (tl s.1)∧s.2.2=out.map ba++List.replicate (n-out.length) ⟨#[]⟩∧s.1.size≤p.size) (fun s=>((n:Int)-s.2.1).toNat) _ (fun s hI => ?_) _ ⟨[],rfl,by show 0+(tl p).count c+1=n;omega,by simp,by simp,Nat.le_refl _⟩ ?_
 ·obtain ⟨t,i,a⟩:=s
  obtain ⟨out,h1,h2,h3,h4,h5⟩:=hI
  dsimp only at h1 h2 h3 h4 h5 ⊢
  subst h1
  have hlt:=aLm t
  by_cases hc:c ∈ tl t
  ·left
   have hcnt:0<(tl t).count c:=List.count_pos_iff.2 hc
   obtain ⟨u,v,huv,hu⟩:=List.eq_append_cons_of_mem hc
   have hidx:Lib.indexByte (tl t) c=(u.length:Int):=by rw [huv];exact aS2 u v hu
   have hsz:t.size=u.length+(v.length+1):=by rw [← hlt,huv];simp
   have hcv:(tl t).count c=v.count c+1:=by
    rw [huv,List.count_append,List.count_cons_self,List.count_eq_zero.2 hu];omega
   rw [if_pos (by omega),aV3,hidx,Option.bind_some,if_neg (by omega),aQ (x:=(u.length:Int)+0) (by omega) (by omega),aQ (x:=(u.length:Int)+1) (by omega) (by omega),eA (by omega)]
   have hat:atI a (out.length:Int)=some ⟨#[]⟩:=by
    rw [h4]
    have hl:out.length<(out.map ba++List.replicate (n-out.length) (⟨#[]⟩:ByteArray)).length:=by simp;omega
    rw [eL hl]
    simp
   rw [hat,Option.bind_some,eA (by omega),aQ (x:=(out.length:Int)+1) (by omega) (by omega)]
   have e1:t.extract ((u.length:Int)+1).toNat (t.size:Int).toNat=ba v:=by
    refine aPt ?_
    have q1:((u.length:Int)+1).toNat=u.length+1:=by omega
    have q2:(t.size:Int).toNat=t.size:=by omega
    rw [aPs,q1,q2, ← hlt,List.take_length,huv,aW8]
    simp [List.drop_append]
   have e2:t.extract (0:Int).toNat ((u.length:Int)+0).toNat=ba u:=by
    refine aPt ?_
    have q1:((u.length:Int)+0).toNat=u.length:=by omega
    rw [aPs,q1,huv,aW8]
    simp
   have e3:((out.length:Int)).toNat=out.length:=by omega
   rw [e1,e2,e3]
   refine ⟨_,rfl,⟨out++[u],by simp,?_,?_,?_,?_⟩,by dsimp only;omega⟩
   ·show (out++[u]).length+(tl (ba v)).count c+1=n
    rw [aW8,List.length_append,List.length_singleton];omega
   ·show nU c (tl p)=(out++[u])++nU c (tl (ba v))
    rw [h3,huv,aB6 hu,aW8,List.append_assoc];rfl
   ·show List.set a out.length (ba u)=(out++[u]).map ba++List.replicate (n-(out++[u]).length) ⟨#[]⟩
    obtain ⟨k,hk⟩ : ∃ k,n-out.length=k+1:=⟨n-out.length-1,by omega⟩
    have hk2:n-(out++[u]).length=k:=by simp;omega
    rw [h4,hk,hk2,List.replicate_succ,List.map_append]
    have hl:(out.map ba).length=out.length:=List.length_map _
    rw [List.set_append_right _ _ (by omega),hl,Nat.sub_self]
    simp
   ·show (ba v).size≤p.size
    rw [bAz];omega
  ·right
   have hcnt:(tl t).count c=0:=List.count_eq_zero.2 hc
   rw [if_neg (by omega)]
   refine ⟨_,rfl,by dsimp only;omega,out,by omega,?_,?_⟩
   ·rw [h3,zQ hc]
   ·dsimp only
    rw [h4,show n-out.length=1 by omega];rfl
 ·dsimp only
  have:=List.count_le_length (a:=c) (l:=tl p)
  have:=aLm p
  omega
theorem aW2 {p:ByteArray} {c:UInt8} (hp:p.size≤1048576):fQ p ⟨#[c]⟩=some ((nU c (tl p)).map ba):=by
 have hcl:=List.count_le_length (a:=c) (l:=tl p)
 have hpl:=aLm p
 unfold fQ kC
 have hne : ¬ ((⟨#[c]⟩:ByteArray)=⟨#[]⟩):=by
  intro h
  have:(⟨#[c]⟩:ByteArray).size=(⟨#[]⟩:ByteArray).size:=by rw [h]
  exact absurd this (by decide : ¬ (1:Nat)=0)
 have hcount:nV p ⟨#[c]⟩=some (((tl p).count c:Nat):Int):=by
  unfold nV
  rw [eA (show (⟨#[c]⟩:ByteArray).size=1 from rfl)];rfl
 have hone:((⟨#[c]⟩:ByteArray).size:Int)=1:=rfl
 rw [if_neg (by decide),if_neg hne,if_pos (by decide),hcount]
 simp only [Option.bind_some]
 have e1:w64 ((((tl p).count c:Nat):Int)+1)=(((tl p).count c+1:Nat):Int):=by rw [aQ (by omega) (by omega)];omega
 have e2:w64 ((p.size:Int)+1)=(p.size:Int)+1:=aQ (by omega) (by omega)
 rw [e1,e2]
 have e3:min (((tl p).count c+1:Nat):Int) ((p.size:Int)+1)=(((tl p).count c+1:Nat):Int):=by omega
 rw [e3,eA ⟨by omega,trivial,by omega⟩]
 have e4:w64 ((((tl p).count c+1:Nat):Int)-1)=(((tl p).count c+1:Nat):Int)-1:=aQ (by omega) (by omega)
 have e5:((((tl p).count c+1:Nat):Int)).toNat=(tl p).count c+1:=by omega
 rw [e4,e5,hone]
 obtain ⟨⟨t,i,a⟩,h1,h2,out,h3,h4,h5⟩:=aRj (p:=p) (c:=c) rfl hp
 rw [h1,Option.bind_some]
 dsimp only at h2 h4 h5 ⊢
 subst h2 h5
 have hi:(((tl p).count c+1:Nat):Int)-1=((out.length:Nat):Int):=by omega
 rw [hi]
 have hl:out.length<(out.map ba++[(⟨#[]⟩:ByteArray)]).length:=by simp
 have e6:((out.length:Int)).toNat=out.length:=by omega
 have e7:w64 ((out.length:Int)+1)=(out.length:Int)+1:=aQ (by omega) (by omega)
 have e8:((out.length:Int)+1).toNat=out.length+1:=by omega
 have e9:List.set (out.map ba++[(⟨#[]⟩:ByteArray)]) out.length t=out.map ba++[t]:=by
  rw [List.set_append_right _ _ (by simp)];simp
 rw [eL hl,Option.bind_some,e6,e7,e9,eA (by simp;omega),e8,Option.bind_some,h4]
 congr 1
 rw [List.take_of_length_le (by simp)]
 simp [aVd]
end Go.Proofs.YtbliejnpjpnahaaGreatDoor
