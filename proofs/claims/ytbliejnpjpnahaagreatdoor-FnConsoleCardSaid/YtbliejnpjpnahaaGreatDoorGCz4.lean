/- Texts of this claim, one behind the other (merged by a program of mine). -/
import Derived.Laws.DeepStrings4
import Derived.Laws.IdiomStrings
import Derived.Laws.BytesArg
import Derived.Laws.Cover3
import Derived.Lib.Join
import Derived.Test.YtbliejnpjpnahaaGreatDoorGCz3
set_option linter.unusedSimpArgs false
set_option linter.unusedVariables false
namespace Go.Proofs.YtbliejnpjpnahaaGreatDoor
open Go.RowKit
set_option linter.unusedVariables false
set_option maxRecDepth 100000
mutual
/-- handles to the object at k, seen as data from here on -/
inductive FzR (k:Nat) (X:Option (List (List DV))) (D:Option (List DV)):AV→AV→Prop
 | d (x:DV):FzR k X D (.d x) (.d x)
 | own {es:List (List DV)} {n:Nat} (hX:X=some es) (hn:n=es.length):FzR k X D (.own k 0 n) (.d (.sl es))
 | ptr {ds out:List DV} {j:Nat} (hD:D=some ds) (hj:Drp j ds out):FzR k X D (.ptr k 0 1 0 j) (.ref out)
 | own' {k' f n:Nat}:FzR k X D (.own k' f n) (.own k' f n)
 | ptr' {k' f n i j:Nat}:FzR k X D (.ptr k' f n i j) (.ptr k' f n i j)
 | ref (cs:List DV):FzR k X D (.ref cs) (.ref cs)
 | agg {cs ds:List AV} (h:aD4 k X D cs ds):FzR k X D (.agg cs) (.agg ds)
 | tup {cs ds:List AV} (h:aD4 k X D cs ds):FzR k X D (.tup cs) (.tup ds)
 | fn {g:FuncId} {cs ds:List AV} (h:aD4 k X D cs ds):FzR k X D (.fn g cs) (.fn g ds)
 | dead (a:AV):FzR k X D a .dead
inductive aD4 (k:Nat) (X:Option (List (List DV))) (D:Option (List DV)):List AV→List AV→Prop
 | nil:aD4 k X D [] []
 | cons {c d:AV} {cs ds:List AV} (h:FzR k X D c d) (q:aD4 k X D cs ds):aD4 k X D (c :: cs) (d :: ds)
end
theorem aD4.len_ {k:Nat} {X:Option (List (List DV))} {D:Option (List DV)} : ∀ {cs ds:List AV},aD4 k X D cs ds→cs.length=ds.length
 | _,_, .nil=>rfl
 | _,_, .cons _ q=>by simp [aD4.len_ q]
theorem aD4.get_ {k:Nat} {X:Option (List (List DV))} {D:Option (List DV)} : ∀ {cs ds:List AV},aD4 k X D cs ds → ∀ (i:Nat) c d,cs[i]? = some c→ds[i]? = some d→FzR k X D c d
 | _,_, .nil,i,c,d,h,_=>by simp at h
 | _,_, .cons h q,0,c,d,h1,h2=>by simp at h1 h2;subst h1 h2;exact h
 | _,_, .cons h q,i+1,c,d,h1,h2=>by simp at h1 h2;exact aD4.get_ q i c d h1 h2
section
variable {P:Program} {L N:Nat} {E:Env} {t:Nat→AV} {h h':dG} {k:Nat} {X:Option (List (List DV))} {D:Option (List DV)}
structure FzH (k:Nat) (X:Option (List (List DV))) (D:Option (List DV)) (h h':dG):Prop where
 at_ : ∃ o,h k = .live [o]∧(∀ es,X=some es→o.cs = .data es) ∧ ∀ ds,D=some ds→o.cs = .av [ds.map .d]
 dead:h' k = .dead
 oth : ∀ p,p≠k→h' p=h p ∨ ∃ ty sz cs ds,h p = .live [⟨ty,sz, .av [cs]⟩]∧h' p = .live [⟨ty,sz, .av [ds]⟩]∧aD4 k X D cs ds
theorem aSs {F:Nat→Prop} {μ:bJ} {w:World} (Z:FzH k X D h h'):Evo w F μ h w (fun b=>F b∨μ k 0=some b) μ h':=by
 refine ⟨fun _ _=>rfl,fun b hb => .inl hb,fun p hp => ?_,fun p f o' hp ho' => ?_⟩
 ·by_cases e:p=k
  ·subst e;rw [Z.dead];simp
  ·rcases Z.oth p e with e1 | ⟨ty,sz,cs,ds,e1,e2,_⟩
   ·rwa [e1]
   ·rw [e2];simp
 ·by_cases e:p=k
  ·subst e;simp [lv,Z.dead] at ho'
  ·rcases Z.oth p e with e1 | ⟨ty,sz,cs,ds,e1,e2,_⟩
   ·have:lv h p f=some o':=by unfold lv at ho' ⊢;rwa [← e1]
    exact ⟨o',this, .inr ⟨rfl,rfl,rfl,fun b cur _ hc=>⟨cur,hc,rfl⟩⟩⟩
   ·unfold lv at ho' ⊢
    rw [e2] at ho'
    rw [e1]
    cases f with
    | zero =>
     simp only [List.getElem?_cons_zero,Option.some.injEq] at ho'
     subst ho'
     exact ⟨_,rfl, .inr ⟨rfl,rfl,rfl,fun b cur _ hc=>⟨cur,hc,rfl⟩⟩⟩
    | succ f=>simp at ho'
theorem aSt {F:Nat→Prop} {μ:bJ} {w:World} (H:iA E F μ h w) (Z:FzH k X D h h') {v:Value} {a:AV} (r:eP w F μ h v a) : ∀ {a':AV},FzR k X D a a'→eP w (fun b=>F b∨μ k 0=some b) μ h' v a':=by
 have V:=aSs (F:=F) (μ:=μ) (w:=w) Z
 obtain ⟨o,hk,hX0,hD0⟩:=Z.at_
 have hlo:lv h k 0=some o:=by unfold lv;rw [hk];rfl
 induction r with
 | d v x hd=>intro a' z;cases z with | d=>exact (eP.d v x hd).evo V | dead=>exact .dead _
 | agg vs cs hs hr ih =>
  intro a' z
  cases z with
  | agg q =>
   refine .agg vs _ (hs.trans q.len_) fun i v d hv hd => ?_
   have hlt:i<cs.length:=by have:=(List.getElem?_eq_some_iff.1 hd).1;rw [q.len_];exact this
   exact ih i v _ hv (List.getElem?_eq_getElem hlt) (q.get_ i _ d (List.getElem?_eq_getElem hlt) hd)
  | dead=>exact .dead _
 | tup vs cs hs hr ih =>
  intro a' z
  cases z with
  | tup q =>
   refine .tup vs _ (hs.trans q.len_) fun i v d hv hd => ?_
   have hlt:i<cs.length:=by have:=(List.getElem?_eq_some_iff.1 hd).1;rw [q.len_];exact this
   exact ih i v _ hv (List.getElem?_eq_getElem hlt) (q.get_ i _ d (List.getElem?_eq_getElem hlt) hd)
  | dead=>exact .dead _
 | ref b off cs g hF hg hr=>intro a' z;cases z with | ref=>exact (eP.ref b off cs g hF hg hr).evo V | dead=>exact .dead _
 | ptr v k' f n i j h1 hb hv =>
  intro a' z
  cases z with
  | ptr'=>exact (eP.ptr v k' f n i j h1 hb hv).evo V
  | dead=>exact .dead _
  | ptr hD hj =>
   rename_i ds out
   have hc:=hD0 ds hD
   obtain ⟨b,cur,hm,hw,hob⟩ : ∃ b cur, μ k 0=some b∧w.heap[b]? = some (.cells cur o.ty (0,0)) ∧ ∀ (q:Nat) (x:DV),ds[q]? = some x → ∃ u,cur[q]? = some u∧eP w F μ h u (.d x):=by
    rcases H.ob k 0 o hlo with ⟨_,q⟩ | ⟨b,cur,q1,q2,q3⟩
    ·rw [hc] at q;simp [aX.len] at q
    ·refine ⟨b,cur,q1,q2,fun q x hx => ?_⟩
     obtain ⟨u,hu,hr⟩:=(q3 0 (ds.map .d) (by rw [hc];rfl)).2 q (.d x) (aO0 hx)
     exact ⟨u,by simpa using hu,hr⟩
   obtain ⟨b',hm',rfl⟩:=(hv o hlo).2 (by rw [hc];rfl)
   rw [hm] at hm'
   injection hm' with hm'
   subst hm'
   obtain ⟨rfl,hjl⟩:=hj.spec
   have hat : ∀ (q:Nat) x,(ds.drop j)[q]? = some x → ∃ u,cur[j+q]? = some u∧eP w F μ h u (.d x):=fun q x hx=>hob (j+q) x (by rwa [List.getElem?_drop] at hx)
   refine .ref b _ _ (fun q=>cur.getD (j+q) undef) (.inr hm) (fun q x hx => ?_) (fun q x hx => ?_)
   ·obtain ⟨u,hu,_⟩:=hat q x hx
    rw [cell_of_row w b _ cur o.ty (0,0) hw]
    simp [hu]
   ·obtain ⟨u,hu,hr⟩:=hat q x hx
    have e1:cur.getD (j+q) undef=u:=by simp [hu]
    rw [e1]
    cases hr with | d _ _ hd=>exact hd.mono (fun _ _=>rfl) (fun _ => .inl)
 | own v k' f n h1 hb hv =>
  intro a' z
  cases z with
  | own'=>exact (eP.own v k' f n h1 hb hv).evo V
  | dead=>exact .dead _
  | own hX hn =>
   rename_i es
   have hc:=hX0 es hX
   have hlen:o.cs.len=es.length:=by rw [hc];rfl
   rcases (hv o hlo).2 (by rw [hlen,hn]) with ⟨q1,q2,q3⟩ | ⟨b,c,cur,q1,q2,q3,q4,q5,q6⟩
   ·subst q3
    have:es=[]:=List.eq_nil_of_length_eq_zero (by omega)
    subst this
    exact .d _ _ .nil
   ·subst q2
    rcases H.ob k 0 o hlo with ⟨g1,_⟩ | ⟨b',cur',g1,g2,g3⟩
    ·rw [q1] at g1;cases g1
    ·rw [q1] at g1
     injection g1 with g1
     subst g1
     rw [q3] at g2
     injection g2 with g2
     injection g2 with g2
     subst g2
     have cellAt : ∀ (i:Nat) (e:List DV) (j:Nat) (x:DV),es[i]? = some e→e[j]? = some x → ∃ u,cur[i*o.sz+j]? = some u∧eP w F μ h u (.d x):=fun i e j x he hx =>
      (g3 i (e.map .d) (by rw [hc];simp [aX.get,he])).2 j (.d x) (by simp [hx])
     refine .d _ _ ?_
     rw [hn]
     refine .sl b 0 c o.sz es (fun i j=>cur.getD (i*o.sz+j) undef) (.inr q1) (by omega) q6 (fun i e he => ?_) (fun i e j x he hx => ?_) (fun i e j x he hx => ?_)
     ·have:=(g3 i (e.map .d) (by rw [hc];simp [aX.get,he])).1
      simpa using this
     ·obtain ⟨u,hu,_⟩:=cellAt i e j x he hx
      rw [Nat.zero_add,cell_of_row w b _ cur o.ty (0,0) q3,hu]
      simp [hu]
     ·obtain ⟨u,hu,hr⟩:=cellAt i e j x he hx
      have e1:cur.getD (i*o.sz+j) undef=u:=by simp [hu]
      rw [e1]
      cases hr with | d _ _ hd=>exact hd.mono (fun _ _=>rfl) (fun _ => .inl)
 | fn g vs cs hs hr ih =>
  intro a' z
  cases z with
  | fn q =>
   refine .fn g vs _ (hs.trans q.len_) fun i v d hv hd => ?_
   have hlt:i<cs.length:=by have:=(List.getElem?_eq_some_iff.1 hd).1;rw [q.len_];exact this
   exact ih i v _ hv (List.getElem?_eq_getElem hlt) (q.get_ i _ d (List.getElem?_eq_getElem hlt) hd)
  | dead=>exact .dead _
 | dead v=>intro a' z;cases z <;> exact .dead _
theorem aXt {F:Nat→Prop} {μ:bJ} {w:World} (H:iA E F μ h w) (Z:FzH k X D h h'):iA E (fun b=>F b∨μ k 0=some b) μ h' w:=by
 have V:=aSs (F:=F) (μ:=μ) (w:=w) Z
 obtain ⟨o,hk,hX0,hD0⟩:=Z.at_
 have hlo:lv h k 0=some o:=by unfold lv;rw [hk];rfl
 have back : ∀ {p f o'},lv h' p f=some o'→p≠k ∧ ∃ o1,lv h p f=some o1:=fun {p f o'} ho'=>by
  have hpk:p≠k:=fun e=>by subst e;simp [lv,Z.dead] at ho'
  refine ⟨hpk,?_⟩
  rcases Z.oth p hpk with e1 | ⟨ty,sz,cs,ds,e1,e2,_⟩
  ·exact ⟨o',by unfold lv at ho' ⊢;rwa [← e1]⟩
  ·unfold lv at ho' ⊢
   rw [e2] at ho';rw [e1]
   cases f with
   | zero=>exact ⟨_,rfl⟩
   | succ f=>simp at ho'
 refine ⟨fun p f o' ho' => ?_,fun p f o1 p' f' o2 b l1 l2 => ?_,fun p f o' b ho' hm hF => ?_,fun p f o' b ho' hm => ?_,fun b hb => ?_,fun b hb => ?_,?_,H.os,H.tape,H.output,H.size,H.keep⟩
 ·obtain ⟨hpk,_⟩:=back ho'
  rcases Z.oth p hpk with e1 | ⟨ty,sz,cs,ds,e1,e2,q⟩
  ·have:lv h p f=some o':=by unfold lv at ho' ⊢;rwa [← e1]
   exact (H.ob p f o' this).evo V fun _ _=>rfl
  ·unfold lv at ho'
   rw [e2] at ho'
   cases f with
   | succ f=>simp at ho'
   | zero =>
    simp only [List.getElem?_cons_zero,Option.some.injEq] at ho'
    subst ho'
    rcases H.ob p 0 ⟨ty,sz, .av [cs]⟩ (by unfold lv;rw [e1];rfl) with ⟨_,g⟩ | ⟨b,cur,g1,g2,g3⟩
    ·simp [aX.len] at g
    ·refine .inr ⟨b,cur,g1,g2,fun i cells hi => ?_⟩
     cases i with
     | succ i=>simp [aX.get] at hi
     | zero =>
      simp only [aX.get,List.getElem?_cons_zero,Option.some.injEq] at hi
      subst hi
      obtain ⟨g4,g5⟩:=g3 0 cs rfl
      refine ⟨q.len_.symm.trans g4,fun j c hj => ?_⟩
      have hlt:j<cs.length:=by have:=(List.getElem?_eq_some_iff.1 hj).1;rw [q.len_];exact this
      obtain ⟨u,hu,hr⟩:=g5 j _ (List.getElem?_eq_getElem hlt)
      exact ⟨u,hu,aSt H Z hr (q.get_ j _ c (List.getElem?_eq_getElem hlt) hj)⟩
 ·obtain ⟨_,_,x1⟩:=back l1
  obtain ⟨_,_,x2⟩:=back l2
  exact H.inj _ _ _ _ _ _ b x1 x2
 ·obtain ⟨hpk,o1,x1⟩:=back ho'
  rcases hF with hF | hF
  ·exact H.sep _ _ _ b x1 hm hF
  ·exact hpk (H.inj _ _ _ _ _ _ b x1 hlo hm hF).1
 ·obtain ⟨_,o1,x1⟩:=back ho'
  exact H.src _ _ _ b x1 hm
 ·rcases hb with hb | hb
  ·exact H.fz b hb
  ·exact H.lt hlo hb
 ·rcases hb with hb | hb
  ·exact H.fsrc b hb
  ·rcases H.src _ _ _ b hlo hb with h1 | h1
   ·exact .inr (.inl h1)
   ·exact .inr (.inr h1)
 ·exact H.ev.trans V
inductive FzT (k:Nat) (X:Option (List (List DV))) (D:Option (List DV)) (s:Nat→AV):(Nat→AV)→Prop
 | nil:FzT k X D s fun _ => .dead
 | upd {t:Nat→AV} {d:Nat} {r r':AV} (h:s d=r') (hr:FzR k X D r' r) (q:FzT k X D s t):FzT k X D s (aA t d r)
theorem FzT.spec {s t:Nat→AV} (z:FzT k X D s t) (d:Nat):FzR k X D (s d) (t d):=by
 induction z with
 | nil=>exact .dead _
 | upd h hr q ih =>
  rename_i t d' r r'
  by_cases e:d=d'
  ·subst e;rw [gC,h];exact hr
  ·rw [kS _ _ e];exact ih
theorem aUw {t':Nat→AV} (Z:FzH k X D h h') (zt:FzT k X D t t'):lJ L N ⟨t,h⟩ ⟨t',h'⟩:=fun E a w ⟨F, μ,A⟩ =>
 ⟨_,_,aXt A.H Z,A.df,A.sz,fun d hd=>aSt A.H Z (A.tm d hd) (zt.spec d),A.lim⟩
inductive FzL (k:Nat) (X:Option (List (List DV))) (D:Option (List DV)) (h:dG):dG→Prop
 | nil:FzL k X D h (upd h k .dead)
 | box {h':dG} {kb:Nat} {ty:TypeId} {sz:Nat} {cs ds:List AV} (hb:h kb = .live [⟨ty,sz, .av [cs]⟩]) (hne:Nat.beq kb k=false) (hr:aD4 k X D cs ds) (q:FzL k X D h h'):FzL k X D h (upd h' kb (.live [⟨ty,sz, .av [ds]⟩]))
theorem FzL.spec (z:FzL k X D h h'):h' k = .dead ∧ ∀ p,p≠k→h' p=h p ∨ ∃ ty sz cs ds,h p = .live [⟨ty,sz, .av [cs]⟩]∧h' p = .live [⟨ty,sz, .av [ds]⟩]∧aD4 k X D cs ds:=by
 induction z with
 | nil=>exact ⟨bR _ _ _,fun p hp => .inl (dE _ _ hp)⟩
 | box hb hne hr q ih =>
  rename_i kb ty sz cs ds
  have hne':kb≠k:=fun e=>by subst e;simp at hne
  refine ⟨by rw [dE _ _ (Ne.symm hne')];exact ih.1,fun p hp => ?_⟩
  by_cases e:p=kb
  ·subst e;exact .inr ⟨ty,sz,cs,ds,hb,bR _ _ _,hr⟩
  ·rw [dE _ _ e];exact ih.2 p hp
theorem aYz {ty:TypeId} {sz:Nat} {es:List (List DV)} (hk:h k = .live [⟨ty,sz, .data es⟩]) (z:FzL k (some es) none h h'):FzH k (some es) none h h' :=
 ⟨⟨_,hk,fun es' e=>by injection e with e;subst e;rfl,fun ds e=>by cases e⟩,z.spec.1,z.spec.2⟩
theorem bBb {ty:TypeId} {sz:Nat} {cells:List AV} {ds:List DV} (hk:h k = .live [⟨ty,sz, .av [cells]⟩]) (hd:aC6 cells ds) (z:FzL k none (some ds) h h'):FzH k none (some ds) h h' :=
 ⟨⟨_,hk,fun es' e=>by (cases e),fun ds' e=>by injection e with e;subst e;simp only;rw [hd.eq_]⟩,z.spec.1,z.spec.2⟩
end
end Go.Proofs.YtbliejnpjpnahaaGreatDoor
namespace Go.Proofs.YtbliejnpjpnahaaGreatDoor
open Go.RowKit
set_option linter.unusedVariables false
set_option maxRecDepth 100000
def cI (x:Int):List DV:=[.v (.int .i64 x)]
def cU8 (x:Int):List DV:=[.v (.int .u8 x)]
def cS (x:ByteArray):List DV:=[.v (.string x)]
def cB (x:Bool):List DV:=[.v (.bool x)]
def cL {α:Type} (c:α→List DV) (xs:List α):List DV:=[.sl (xs.map c)]
theorem qG {h:dG} {k:Nat} {o:jR} (hk:h k = .live [o]):lv h k 0=some o:=by unfold lv;rw [hk];rfl
theorem pD {α:Type} {c:α→List DV} {es:List α}:(aX.data (es.map c)).len=es.length:=by simp [aX.len]
theorem aDx {α:Type} {c:α→List DV} {es:List α} {m:Nat} {e:α} (he:es[m]? = some e):(aX.data (es.map c)).get m=some ((c e).map .d):=by simp [aX.get,he]
theorem aX5 : ∀ s ∈ ([]:List fA),aBj s:=fun s hs=>by cases hs
theorem xT {a:fA} {l:List fA} (h:aBj a) (k : ∀ s ∈ l,aBj s) : ∀ s ∈ a :: l,aBj s:=fun s hs=>by
 rcases List.mem_cons.1 hs with rfl | hs
 ·exact h
 ·exact k s hs
theorem aHc {α:Type} {t:TypeId} {z:Nat} {c:α→List DV} {es:List α} (hc : ∀ a,(c a).all DV.flat=true):aBj (.live [⟨t,z, .data (es.map c)⟩]):=by
 intro o ho
 simp only [List.mem_singleton] at ho
 subst ho
 intro e he x hx
 obtain ⟨a,_,rfl⟩:=List.mem_map.1 he
 exact List.all_eq_true.1 (hc a) x hx
theorem yA (kf i:Nat) : ∀ l:List DV,AV.flatL (kE kf i l)=true
 | []=>rfl
 | .v x :: l=>by simp [kE,AV.flatL,AV.flat,DV.flat,yA kf i l]
 | .sl es :: l=>by simp [kE,AV.flatL,AV.flat,yA kf i l]
 | .mp _ :: l=>by simp [kE,AV.flatL,AV.flat,yA kf i l]
theorem pT (kf i:Nat) : ∀ l:List DV,(kE kf i l).length=l.length
 | []=>rfl
 | .v x :: l=>by simp [kE,pT kf i l]
 | .sl es :: l=>by simp [kE,pT kf i l]
 | .mp _ :: l=>by simp [kE,pT kf i l]
def aQv (kf i:Nat):DV→AV
 | .v x => .d (.v x)
 | .sl es => .own kf i es.length
 | .mp _ => .dead
theorem pS (kf i:Nat) : ∀ (l:List DV) (j:Nat),(kE kf i l)[j]? = (l[j]?).map (aQv kf i)
 | [],j=>by simp [kE]
 | .v x :: l,0=>by simp [kE,aQv]
 | .sl es :: l,0=>by simp [kE,aQv]
 | .mp _ :: l,0=>by simp [kE,aQv]
 | .mp _ :: l,j+1=>by simp [kE,pS kf i l j]
 | .v x :: l,j+1=>by simp [kE,pS kf i l j]
 | .sl es :: l,j+1=>by simp [kE,pS kf i l j]
theorem aX8 : ∀ {l:List DV} {j:Nat} {es:List (List DV)},yH l=0→l[j]? = some (.sl es)→False
 | [],j,es,_,h=>by simp at h
 | .v x :: l,0,es,_,h=>by simp at h
 | .v x :: l,j+1,es,h0,h=>aX8 (l:=l) (by simpa [yH] using h0) (by simpa using h)
 | .sl x :: l,j,es,h0,h=>by simp [yH] at h0
 | .mp x :: l,j,es,h0,h=>by simp [yH] at h0
theorem aUj : ∀ {l:List DV} {j:Nat} {f},yH l≤1→l[j]? = some (.mp f)→False
 | [],j,f,_,h=>by simp at h
 | .v x :: l,0,f,_,h=>by simp at h
 | .v x :: l,j+1,f,h0,h=>aUj (l:=l) (by simpa [yH] using h0) (by simpa using h)
 | .sl x :: l,0,f,_,h=>by simp at h
 | .sl x :: l,j+1,f,h0,h=>aUj (l:=l) (by simp [yH] at h0;omega) (by simpa using h)
 | .mp x :: l,j,f,h0,h=>by simp [yH] at h0
theorem aUk : ∀ {l:List DV} {j:Nat} {es:List (List DV)},yH l=1→l[j]? = some (.sl es)→aPk l=es
 | [],j,es,_,h=>by simp at h
 | .v x :: l,0,es,_,h=>by simp at h
 | .v x :: l,j+1,es,h0,h=>by simpa [aPk] using aUk (l:=l) (by simpa [yH] using h0) (by simpa using h)
 | .sl x :: l,0,es,_,h=>by simp at h;simpa [aPk] using h
 | .sl x :: l,j+1,es,h0,h=>(aX8 (l:=l) (by simpa [yH] using h0) (by simpa using h)).elim
 | .mp x :: l,j,es,h0,h=>by simp [yH] at h0
theorem pU {α:Type} {kf:Nat} {c:α→List DV} {x:List α}:(tM kf c x).length=x.length:=by simp [tM]
theorem uA {α:Type} {kf:Nat} {c:α→List DV} {x:List α} {i:Nat}:(tM kf c x)[i]? = (x[i]?).map fun a=>kE kf i (c a):=by simp [tM,List.getElem?_mapIdx]
theorem aDo {α:Type} {ft:TypeId} {fz:Nat} {c:α→List DV} {x:List α} {i:Nat}:(aJl ft fz c x)[i]? = (x[i]?).map fun a=>(⟨ft,fz, .data (aPk (c a))⟩:jR):=by simp [aJl]
theorem aXz {α:Type} {h:dG} {kf:Nat} {ft:TypeId} {fz:Nat} {c:α→List DV} {x:List α} {m:Nat} {a:α} (hf:h kf = .live (aJl ft fz c x)) (he:x[m]? = some a):lv h kf m=some ⟨ft,fz, .data (aPk (c a))⟩:=by
 rw [iX hf,aDo,he];rfl
theorem aBc {α:Type} {h:dG} {k kf n:Nat} {bt ft:TypeId} {sz fz:Nat} {c:α→List DV} {x:List α} (hk:h k = .live [⟨bt,sz, .av (tM kf c x)⟩]) (hf:h kf = .live (aJl ft fz c x)) (hone : ∀ a,yH (c a)=1) (hn:n=x.length):sM h (.own k 0 n) (.d (.sl (x.map c))):=by
 refine .row k 0 n _ _ (qG hk) (by simp [aX.len,pU,hn]) (by simp [hn]) (fun i e he => ?_) fun i e cells j cc xx he hi hj hx => ?_
 ·rw [List.getElem?_map] at he
  obtain ⟨a,ha,rfl⟩:=Option.map_eq_some_iff.1 he
  exact ⟨kE kf i (c a),by simp [aX.get,uA,ha],pT _ _ _⟩
 ·rw [List.getElem?_map] at he
  obtain ⟨a,ha,rfl⟩:=Option.map_eq_some_iff.1 he
  simp only [aX.get,uA,ha,Option.map_some,Option.some.injEq] at hi
  subst hi
  rw [pS,hx] at hj
  simp only [Option.map_some,Option.some.injEq] at hj
  subst hj
  cases xx with
  | v x=>exact .d _
  | sl es=>exact sM.data (aXz hf ha) (by rw [aUk (hone a) hx]) rfl
  | mp f=>exact (aUj (Nat.le_of_eq (hone a)) hx).elim
theorem aPv {α:Type} {h:dG} {kf m n:Nat} {ft:TypeId} {fz:Nat} {c:α→List DV} {x:List α} {a:α} {es:List (List DV)} (hf:h kf = .live (aJl ft fz c x)) (he:x[m]? = some a) (hs:aPk (c a)=es) (hn:n=es.length):sM h (.own kf m n) (.d (.sl es)):=sM.data (aXz hf he) (by rw [hs]) hn.symm
theorem aHb {α:Type} {t:TypeId} {z kf:Nat} {c:α→List DV} {x:List α}:aBj (.live [⟨t,z, .av (tM kf c x)⟩]):=by
 intro o ho
 simp only [List.mem_singleton] at ho
 subst ho
 intro e he
 obtain ⟨i,hi⟩:=List.getElem?_of_mem he
 rw [uA] at hi
 obtain ⟨a,_,rfl⟩:=Option.map_eq_some_iff.1 hi
 exact yA _ _ _
theorem aLg {α:Type} {ft:TypeId} {fz:Nat} {c:α→List DV} {x:List α} (hc : ∀ a, ∃ (β:Type) (ys:List β) (d:β→List DV),aPk (c a)=ys.map d ∧ ∀ y,(d y).all DV.flat=true):aBj (.live (aJl ft fz c x)):=by
 intro o ho
 obtain ⟨a,_,rfl⟩:=List.mem_map.1 ho
 intro e he xx hx
 obtain ⟨β,ys,d,h1,h2⟩:=hc a
 have he:e ∈ aPk (c a):=he
 rw [h1] at he
 obtain ⟨y,_,rfl⟩:=List.mem_map.1 he
 exact List.all_eq_true.1 (h2 y) xx hx
theorem aLf {t:TypeId} {z:Nat} {cs:List AV} (hc:AV.flatL cs=true):aBj (.live [⟨t,z, .av [cs]⟩]):=by
 intro o ho
 simp only [List.mem_singleton] at ho
 subst ho
 intro e he
 simp only [List.mem_singleton] at he
 subst he
 exact hc
section
variable {P:Program} {T:Tab} {L N:Nat} {ops:Array Oper} {E:Env} {K:List (Nat × Cls)→AS→Prop} {i:Nat} {is:List Nat} {t:Nat→AV} {h h':dG} {d:Tmp} {dst:Option Tmp} {op:Op} {ty:TypeId} {pos:String} {aft:Array Edge} {g:Option (Nat × Bool)}
theorem aGu (B:Nat) {f:FuncId} {x:Operand} {args:Array Operand} {at_:Array TypeId} {caps as:List AV} {hs:List fA} {r r':AV} (hF:FnC P f [] as hs r) (hx:evA N ⟨t,h⟩ x = .fn f caps) (ha:evL N ⟨t,h⟩ args.toList++caps=as) (hfr:AV.freeL as=true)
  (hB:Abv h B:=by repeat (first | exact mZ _ | exact mY rfl | refine nA ?_ rfl))
  (hr:cZ (B + ·) r r':=by repeat (first | exact gF.nil | apply gF.cons | exact cZ.d _ | apply cZ.agg | apply cZ.tup | exact cZ.own _ _ _ _ rfl | exact cZ.ptr _ _ _ _ _ _ rfl | exact cZ.ref _ | apply cZ.fn | exact cZ.dead))
  (hb:yW (B + ·) B hs h h':=by repeat (first | exact yW.nil _ _ | (apply yW.cons; (first | exact gR.no | exact gR.dead | exact gR.data _ _ _ | exact gR.nest rfl | exact gR.fam | exact gR.gen _)))) :
  cQ P N ⟨dst, .call ⟨.value x,args,at_⟩,ty,pos,aft,g⟩ ⟨t,h⟩ r' h' ∧ ∀ k,h k ≠ .no→h' k=h k:=aUn B hx ha hfr hF hB hr hb
theorem kH (B:Nat) {f:FuncId} {x:Operand} {args:Array Operand} {at_:Array TypeId} {caps as:List AV} {hs:List fA} {r r':AV} (hF:FnC P f [] as hs r) (hx:evA N ⟨t,h⟩ x = .fn f caps) (ha:evL N ⟨t,h⟩ args.toList++caps=as) (hfr:AV.freeL as=true)
  (hB:Abv h B:=by repeat (first | exact mZ _ | exact mY rfl | refine nA ?_ rfl))
  (hr:cZ (B + ·) r r':=by repeat (first | exact gF.nil | apply gF.cons | exact cZ.d _ | apply cZ.agg | apply cZ.tup | exact cZ.own _ _ _ _ rfl | exact cZ.ptr _ _ _ _ _ _ rfl | exact cZ.ref _ | apply cZ.fn | exact cZ.dead))
  (hb:yW (B + ·) B hs h h':=by repeat (first | exact yW.nil _ _ | (apply yW.cons; (first | exact gR.no | exact gR.dead | exact gR.data _ _ _ | exact gR.nest rfl | exact gR.fam | exact gR.gen _)))) :
  Abv h B∧(∀ hx:dG,Abv hx B→(∀ p,h p ≠ .no→hx p=h p)→cQ P N ⟨dst, .call ⟨.value x,args,at_⟩,ty,pos,aft,g⟩ ⟨t,hx⟩ r' (aCt B hx h'))∧aCt B h h'=h':=aZx B hx ha hfr hF hB hr hb
theorem aBd {α:Type} {k f:Nat} {bt:TypeId} {sz:Nat} {c:α→List DV} {es:List α} (ho:lv h k f=some ⟨bt,sz, .data (es.map c)⟩):sM h (.own k f es.length) (.d (.sl (es.map c))):=sM.data ho rfl (by simp)
theorem yE {α:Type} {k f n:Nat} {bt:TypeId} {sz:Nat} {c:α→List DV} {es:List α} (ho:lv h k f=some ⟨bt,sz, .data (es.map c)⟩) (hn:n=es.length):sM h (.own k f n) (.d (.sl (es.map c))):=sM.data ho rfl (by simp [hn])
theorem fG (B:Nat) {f:FuncId} {x:Operand} {args:Array Operand} {at_:Array TypeId} {caps as:List AV} {hs:List fA} {r r':AV} (hF:FnC P f [] as hs r) (hx:evA N ⟨t,h⟩ x = .fn f caps) (hfl:r.flat=true)
  (ha:Vs h (evL N ⟨t,h⟩ args.toList++caps) as:=by repeat (first | exact Vs.nil | apply Vs.cons | exact sM.d _ | exact aBd rfl | exact yE rfl (by first | (simp;done) | omega | (simp;omega)) | exact aLr rfl (by (repeat (first | exact aN8.z _ | apply aN8.t | apply aN8.d));first | done | fail) | apply sM.agg_ | apply sM.fn_ | exact aD1 (by (repeat (first | exact Pre.z _ | apply Pre.t));first | done | fail) | exact aBc rfl rfl (fun _=>rfl) (by first | rfl | (simp;done) | omega | (simp;omega)) | exact aPv rfl (by assumption) rfl (by first | rfl | (simp;done) | omega | (simp;omega)) | exact aHd rfl (by (repeat (first | exact aGp.z _ | apply aGp.t (sM.d _) | apply aGp.t (aBd rfl) | apply aGp.t (yE rfl (by first | (simp;done) | omega | (simp;omega))) | apply aGp.t (aBc rfl rfl (fun _=>rfl) (by first | rfl | (simp;done) | omega | (simp;omega))) | apply aGp.d));first | done | fail)))
  (hfs : ∀ s ∈ hs,aBj s:=by repeat (first | exact aX5 | refine xT (aHc (fun _=>rfl)) ?_ | refine xT (aLf rfl) ?_ | refine xT aHb ?_ | refine xT (aLg fun _=>⟨_,_,_,rfl,fun _=>rfl⟩) ?_))
  (hB:Abv h B:=by repeat (first | exact mZ _ | exact mY rfl | refine nA ?_ rfl))
  (hr:cZ (B + ·) r r':=by repeat (first | exact gF.nil | apply gF.cons | exact cZ.d _ | apply cZ.agg | apply cZ.tup | exact cZ.own _ _ _ _ rfl | exact cZ.ptr _ _ _ _ _ _ rfl | exact cZ.ref _ | apply cZ.fn | exact cZ.dead))
  (hb:yW (B + ·) B hs h h':=by repeat (first | exact yW.nil _ _ | (apply yW.cons; (first | exact gR.no | exact gR.dead | exact gR.data _ _ _ | exact gR.nest rfl | exact gR.fam | exact gR.gen _)))) :
  cQ P N ⟨dst, .call ⟨.value x,args,at_⟩,ty,pos,aft,g⟩ ⟨t,h⟩ r' h' ∧ ∀ k,h k ≠ .no→h' k=h k:=aPn B hx ha hF hfl hfs hB hr hb
theorem aR1 (B:Nat) {f:FuncId} {x:Operand} {args:Array Operand} {at_:Array TypeId} {caps as:List AV} {hs:List fA} {r r':AV} (hF:FnC P f [] as hs r) (hx:evA N ⟨t,h⟩ x = .fn f caps) (hfl:r.flat=true)
  (ha:Vs h (evL N ⟨t,h⟩ args.toList++caps) as:=by repeat (first | exact Vs.nil | apply Vs.cons | exact sM.d _ | exact aBd rfl | exact yE rfl (by first | (simp;done) | omega | (simp;omega)) | exact aLr rfl (by (repeat (first | exact aN8.z _ | apply aN8.t | apply aN8.d));first | done | fail) | apply sM.agg_ | apply sM.fn_ | exact aD1 (by (repeat (first | exact Pre.z _ | apply Pre.t));first | done | fail) | exact aBc rfl rfl (fun _=>rfl) (by first | rfl | (simp;done) | omega | (simp;omega)) | exact aPv rfl (by assumption) rfl (by first | rfl | (simp;done) | omega | (simp;omega)) | exact aHd rfl (by (repeat (first | exact aGp.z _ | apply aGp.t (sM.d _) | apply aGp.t (aBd rfl) | apply aGp.t (yE rfl (by first | (simp;done) | omega | (simp;omega))) | apply aGp.t (aBc rfl rfl (fun _=>rfl) (by first | rfl | (simp;done) | omega | (simp;omega))) | apply aGp.d));first | done | fail)))
  (hfs : ∀ s ∈ hs,aBj s:=by repeat (first | exact aX5 | refine xT (aHc (fun _=>rfl)) ?_ | refine xT (aLf rfl) ?_ | refine xT aHb ?_ | refine xT (aLg fun _=>⟨_,_,_,rfl,fun _=>rfl⟩) ?_))
  (hB:Abv h B:=by repeat (first | exact mZ _ | exact mY rfl | refine nA ?_ rfl))
  (hr:cZ (B + ·) r r':=by repeat (first | exact gF.nil | apply gF.cons | exact cZ.d _ | apply cZ.agg | apply cZ.tup | exact cZ.own _ _ _ _ rfl | exact cZ.ptr _ _ _ _ _ _ rfl | exact cZ.ref _ | apply cZ.fn | exact cZ.dead))
  (hb:yW (B + ·) B hs h h':=by repeat (first | exact yW.nil _ _ | (apply yW.cons; (first | exact gR.no | exact gR.dead | exact gR.data _ _ _ | exact gR.nest rfl | exact gR.fam | exact gR.gen _)))) :
  Abv h B∧(∀ hx:dG,Abv hx B→(∀ p,h p ≠ .no→hx p=h p)→cQ P N ⟨dst, .call ⟨.value x,args,at_⟩,ty,pos,aft,g⟩ ⟨t,hx⟩ r' (aCt B hx h'))∧aCt B h h'=h':=aWr B hx ha hF hfl hfs hB hr hb
theorem aXo (hT:TOk P T) {lt bt:TypeId} {x:Operand} {k j sz:Nat} {cells:List AV} {c:AV} {ti:TI} (hx:evA N ⟨t,h⟩ x = .ptr k 0 1 0 j) (h1:T lt=some ti) (h2:aBx ti.desc=false) (hk:h k = .live [⟨bt,sz, .av [cells]⟩]) (hc:cells[j]? = some c) :
  jJ P N ⟨some d, .load lt x,ty,pos,aft,g⟩ ⟨t,h⟩ c:=aOx hT hx h1 h2 (qG hk) rfl rfl hc
theorem aXp (hT:TOk P T) {lt bt:TypeId} {x:Operand} {k j sz:Nat} {cells out:List AV} {ti:TI} (hx:evA N ⟨t,h⟩ x = .ptr k 0 1 0 j) (h1:T lt=some ti) (h2:aBx ti.desc=true) (hk:h k = .live [⟨bt,sz, .av [cells]⟩])
  (hc:Seg j ti.size cells out:=by repeat (first | exact Seg.z _ | apply Seg.t | apply Seg.d)) :
  jJ P N ⟨some d, .load lt x,ty,pos,aft,g⟩ ⟨t,h⟩ (.agg out):=aOy hT hx h1 h2 (qG hk) rfl rfl hc
theorem aYm (hT:TOk P T) {s bt:TypeId} {x:Operand} {q k j sz:Nat} {cells:List AV} {ti fi:TI} {fs:Array Field} {fld:Field} (hx:evA N ⟨t,h⟩ x = .ptr k 0 1 0 j) (h1:T s=some ti) (h2:ti.desc = .struct fs) (h3:fs[q]? = some fld)
  (h4:T fld.type=some fi) (h5:Nat.beq fi.size 0=false) (hk:h k = .live [⟨bt,sz, .av [cells]⟩]):jJ P N ⟨some d, .fieldAddr s x q,ty,pos,aft,g⟩ ⟨t,h⟩ (.ptr k 0 1 0 (j+fld.offset)):=aCr hT hx h1 h2 h3 h4 h5 (qG hk) rfl rfl
theorem aXq {bt:TypeId} {x:Operand} {k j sz:Nat} {cells:List AV} (hx:evA N ⟨t,h⟩ x = .ptr k 0 1 0 j) (hk:h k = .live [⟨bt,sz, .av [cells]⟩]):jJ P N ⟨some d, .nilCheck x,ty,pos,aft,g⟩ ⟨t,h⟩ (.ptr k 0 1 0 j):=bBf hx (qG hk) rfl rfl
theorem aR8 (hT:TOk P T) {bt bt':TypeId} {x y:Operand} {k j sz:Nat} {cells cs cells':List AV} {ti:TI} (hx:evA N ⟨t,h⟩ x = .ptr k 0 1 0 j) (hy:aAc (evA N ⟨t,h⟩ y)=cs) (ho:okL cs=true) (h1:T bt=some ti)
  (hl:Nat.beq cs.length ti.size=true) (hpos:Nat.blt 0 ti.size=true) (hk:h k = .live [⟨bt',sz, .av [cells]⟩]) (hs:Spl j cs cells cells':=by repeat (first | exact Spl.z _ | apply Spl.t | apply Spl.d)) :
  cQ P N ⟨dst, .store bt x y,ty,pos,aft,g⟩ ⟨t,h⟩ .dead (upd h k (.live [⟨bt',sz, .av [cells']⟩])):=aPw hT hx hy ho h1 hl hpos hk rfl rfl rfl hs (.box _ _) (.one _ _)
theorem bS {α:Type} (hT:TOk P T) {st_ e:TypeId} {x y:Operand} {kk:IntKind} {iv:Int} {c:α→List DV} {es:List α} {ed:α} {ti ei:TI} (he:atI es iv=some ed) (hx:evA N ⟨t,h⟩ x = .d (.sl (es.map c))) (hy:evA N ⟨t,h⟩ y = .d (.v (.int kk iv)))
  (h1:T st_=some ti) (h2:ti.desc = .slice e) (h3:T e=some ei) (hs:(c ed).length=ei.size):eC P N ⟨some d, .indexAddr st_ x y,ty,pos,aft,g⟩ ⟨t,h⟩ (.ref (c ed)) :=
 aNf hT hx hy (eE he).1 h1 h2 h3 (aO0 (eE he).2.1) hs
theorem eV {α:Type} (hT:TOk P T) {st_ e bt:TypeId} {x y:Operand} {kk:IntKind} {iv:Int} {k sz n:Nat} {c:α→List DV} {es:List α} {ed:α} {ti ei:TI} (he:atI es iv=some ed) (hx:evA N ⟨t,h⟩ x = .own k 0 n) (hy:evA N ⟨t,h⟩ y = .d (.v (.int kk iv)))
  (h1:T st_=some ti) (h2:ti.desc = .slice e) (h3:T e=some ei) (hk:h k = .live [⟨bt,sz, .data (es.map c)⟩]) (hn:n=es.length) (hs:sz=ei.size):jJ P N ⟨some d, .indexAddr st_ x y,ty,pos,aft,g⟩ ⟨t,h⟩ (.ptr k 0 n iv.toNat 0) :=
 aV6 hT hx hy (eE he).1 (hn ▸ (eE he).2.2) h1 h2 h3 (qG hk) (pD.trans hn.symm) hs
theorem gI {α:Type} (hT:TOk P T) {lt bt:TypeId} {x:Operand} {k n m j sz:Nat} {c:α→List DV} {es:List α} {ed:α} {u:DV} {ti:TI} (he:es[m]? = some ed) (hx:evA N ⟨t,h⟩ x = .ptr k 0 n m j) (h1:T lt=some ti) (h2:aBx ti.desc=false) (hk:h k = .live [⟨bt,sz, .data (es.map c)⟩]) (hn:n=es.length)
  (hc:(c ed)[j]? = some u):jJ P N ⟨some d, .load lt x,ty,pos,aft,g⟩ ⟨t,h⟩ (.d u):=aOx hT hx h1 h2 (qG hk) (pD.trans hn.symm) (aDx he) (aO0 hc)
theorem uB {α:Type} (hT:TOk P T) {lt bt:TypeId} {x:Operand} {k n m j sz:Nat} {c:α→List DV} {es:List α} {ed:α} {out:List AV} {ti:TI} (he:es[m]? = some ed) (hx:evA N ⟨t,h⟩ x = .ptr k 0 n m j) (h1:T lt=some ti) (h2:aBx ti.desc=true) (hk:h k = .live [⟨bt,sz, .data (es.map c)⟩]) (hn:n=es.length)
  (hc:Seg j ti.size ((c ed).map .d) out:=by repeat (first | exact Seg.z _ | apply Seg.t | apply Seg.d)):jJ P N ⟨some d, .load lt x,ty,pos,aft,g⟩ ⟨t,h⟩ (.agg out):=aOy hT hx h1 h2 (qG hk) (pD.trans hn.symm) (aDx he) hc
theorem aWq {α:Type} (hT:TOk P T) {s bt:TypeId} {x:Operand} {q k n m j sz:Nat} {c:α→List DV} {es:List α} {ti fi:TI} {fs:Array Field} {fld:Field} {ed:α} (he:es[m]? = some ed) (hx:evA N ⟨t,h⟩ x = .ptr k 0 n m j) (h1:T s=some ti) (h2:ti.desc = .struct fs) (h3:fs[q]? = some fld)
  (h4:T fld.type=some fi) (h5:Nat.beq fi.size 0=false) (hk:h k = .live [⟨bt,sz, .data (es.map c)⟩]) (hn:n=es.length):jJ P N ⟨some d, .fieldAddr s x q,ty,pos,aft,g⟩ ⟨t,h⟩ (.ptr k 0 n m (j+fld.offset)) :=
 aCr hT hx h1 h2 h3 h4 h5 (qG hk) (pD.trans hn.symm) (aDx he)
theorem aA2 {α:Type} (hT:TOk P T) {bt bt':TypeId} {x y:Operand} {k n m j sz:Nat} {c:α→List DV} {es:List α} {ed:α} (ed':α) {cs:List AV} {ti:TI} (he:es[m]? = some ed) (hx:evA N ⟨t,h⟩ x = .ptr k 0 n m j) (hy:aAc (evA N ⟨t,h⟩ y)=cs) (ho:okL cs=true) (h1:T bt=some ti)
  (hl:Nat.beq cs.length ti.size=true) (hpos:Nat.blt 0 ti.size=true) (hk:h k = .live [⟨bt',sz, .data (es.map c)⟩]) (hn:n=es.length) (hs:Spl j cs ((c ed).map .d) ((c ed').map .d):=by repeat (first | exact Spl.z _ | apply Spl.t | apply Spl.d)) :
  cQ P N ⟨dst, .store bt x y,ty,pos,aft,g⟩ ⟨t,h⟩ .dead (upd h k (.live [⟨bt',sz, .data ((es.set m ed').map c)⟩])):=by
 rw [List.map_set]
 refine aPw hT hx hy ho h1 hl hpos hk rfl (pD.trans hn.symm) (aDx he) hs (.data _ _ ?_) (.one _ _)
 generalize c ed'=l
 induction l with
 | nil=>exact .nil
 | cons x l ih=>exact .cons ih
theorem aTn {α:Type} (hT:TOk P T) {st_ e bt:TypeId} {x:Operand} {k n sz:Nat} {c:α→List DV} {es:List α} {ti:TI} (hx:evA N ⟨t,h⟩ x = .own k 0 n) (h1:T st_=some ti) (h2:ti.desc = .slice e) (hk:h k = .live [⟨bt,sz, .data (es.map c)⟩]) (hn:n=es.length) :
  jJ P N ⟨some d, .call ⟨.builtin .len, #[x], #[st_]⟩,ty,pos,aft,g⟩ ⟨t,h⟩ (.d (.v (.int .i64 (es.length:Int)))):=by
 subst hn
 exact bBe hT hx h1 h2 (qG hk) pD
theorem fJ {α:Type} (hT:TOk P T) {bt e bt':TypeId} {s x:Operand} {k n sz:Nat} {c:α→List DV} {es ns:List α} {ti ei:TI} (hb:(es.length+ns.length)*sz*64≤140737488355328) (hs:evA N ⟨t,h⟩ s = .own k 0 n) (hx:evA N ⟨t,h⟩ x = .d (.sl (ns.map c))) (h1:T bt=some ti) (h2:ti.desc = .slice e) (h3:T e=some ei)
  (hzs:Nat.beq ei.zero.cells.size ei.size=true) (hpos:Nat.blt 0 ei.size=true) (hsb:Nat.ble ei.bytes (ei.size*64)=true) (hk:h k = .live [⟨bt',sz, .data (es.map c)⟩]) (hn:n=es.length) (hty:bt'=e) (hsz:sz=ei.size) (hcl : ∀ a,(c a).length=ei.size) :
  cQ P N ⟨dst, .call ⟨.builtin .append, #[s,x], #[bt,bt]⟩,ty,pos,aft,g⟩ ⟨t,h⟩ (.own k 0 (es++ns).length) (upd h k (.live [⟨bt',sz, .data ((es++ns).map c)⟩])):=by
 subst hn
 have hle:=Nat.le_of_ble_eq_true hsb
 have hp:=oB hpos
 have e1:(es.length+ns.length)*ei.bytes≤(es.length+ns.length)*sz*64:=by
  rw [Nat.mul_assoc,hsz];exact Nat.mul_le_mul_left _ hle
 have e2:es.length+ns.length≤(es.length+ns.length)*sz:=Nat.le_mul_of_pos_right _ (by omega)
 have:=aUx (P:=P) (N:=N) (dst:=dst) (ty:=ty) (pos:=pos) (aft:=aft) (g:=g) (n:=es.length) hT hs hx h1 h2 h3 hzs hpos hk rfl pD hty hsz (fun x hx=>by obtain ⟨a,_,rfl⟩:=List.mem_map.1 hx;exact hcl a) (.data _ _) (.one _ _)
  (by rw [List.length_map];omega) (by rw [List.length_map];omega)
 rw [List.length_map, ← List.map_append, ← List.length_append] at this
 exact this
theorem bC8 {α:Type} (hT:TOk P T) {bt e bt' bt2:TypeId} {s x:Operand} {k k2 n n2 sz sz2:Nat} {c:α→List DV} {es ns:List α} {ti ei:TI} (hb:(es.length+ns.length)*sz*64≤140737488355328) (hs:evA N ⟨t,h⟩ s = .own k 0 n) (hx:evA N ⟨t,h⟩ x = .own k2 0 n2) (h1:T bt=some ti) (h2:ti.desc = .slice e) (h3:T e=some ei)
  (hzs:Nat.beq ei.zero.cells.size ei.size=true) (hpos:Nat.blt 0 ei.size=true) (hsb:Nat.ble ei.bytes (ei.size*64)=true) (hk:h k = .live [⟨bt',sz, .data (es.map c)⟩]) (hn:n=es.length) (hty:bt'=e) (hsz:sz=ei.size) (hk2:h k2 = .live [⟨bt2,sz2, .data (ns.map c)⟩]) (hn2:n2=ns.length) (hsz2:sz2=ei.size) :
  cQ P N ⟨dst, .call ⟨.builtin .append, #[s,x], #[bt,bt]⟩,ty,pos,aft,g⟩ ⟨t,h⟩ (.own k 0 (es++ns).length) (upd h k (.live [⟨bt',sz, .data ((es++ns).map c)⟩])):=by
 subst hn hn2
 have hle:=Nat.le_of_ble_eq_true hsb
 have hp:=oB hpos
 have e1:(es.length+ns.length)*ei.bytes≤(es.length+ns.length)*sz*64:=by
  rw [Nat.mul_assoc,hsz];exact Nat.mul_le_mul_left _ hle
 have e2:es.length+ns.length≤(es.length+ns.length)*sz:=Nat.le_mul_of_pos_right _ (by omega)
 have:=aBf (P:=P) (N:=N) (dst:=dst) (ty:=ty) (pos:=pos) (aft:=aft) (g:=g) (n:=es.length) (m:=ns.length) hT hs hx h1 h2 h3 hzs hpos hk rfl pD hty hsz (qG hk2) pD hsz2 trivial (.data _ _) (.one _ _)
  (by omega) (by omega)
 rw [← List.map_append, ← List.length_append] at this
 exact this
theorem aXf {α:Type} (k:Nat) (hT:TOk P T) {bt e:TypeId} {s x:Operand} {c:α→List DV} {ns:List α} {ti ei:TI} {sz:Nat} (hb:ns.length*sz*64≤140737488355328) (hs:evA N ⟨t,h⟩ s = .d (.v (.slice none 0 0))) (hx:evA N ⟨t,h⟩ x = .d (.sl (ns.map c))) (h1:T bt=some ti) (h2:ti.desc = .slice e) (h3:T e=some ei) (hsz:ei.size=sz)
  (hzs:Nat.beq ei.zero.cells.size ei.size=true) (hpos:Nat.blt 0 ei.size=true) (hsb:Nat.ble ei.bytes (ei.size*64)=true) (hk:h k = .no) (hcl : ∀ a,(c a).length=ei.size) :
  cQ P N ⟨dst, .call ⟨.builtin .append, #[s,x], #[bt,bt]⟩,ty,pos,aft,g⟩ ⟨t,h⟩ (.own k 0 ns.length) (upd h k (.live [⟨e,ei.size, .data (ns.map c)⟩])) ∧ ∀ k',h k' ≠ .no→upd h k (.live [⟨e,ei.size, .data (ns.map c)⟩]) k'=h k':=by
 subst hsz
 have hle:=Nat.le_of_ble_eq_true hsb
 have hp:=oB hpos
 have e1:ns.length*ei.bytes≤ns.length*ei.size*64:=by rw [Nat.mul_assoc];exact Nat.mul_le_mul_left _ hle
 have e2:ns.length≤ns.length*ei.size:=Nat.le_mul_of_pos_right _ (by omega)
 have:=aJe (P:=P) (N:=N) (dst:=dst) (ty:=ty) (pos:=pos) (aft:=aft) (g:=g) k hT hs hx h1 h2 h3 hzs hpos hk (fun x hx=>by obtain ⟨a,_,rfl⟩:=List.mem_map.1 hx;exact hcl a) (by rw [List.length_map];omega) (by rw [List.length_map];omega)
 rw [List.length_map] at this
 exact this
theorem aG4 {α:Type} (k:Nat) (hT:TOk P T) {bt e:TypeId} {x y:Operand} {kx ky:IntKind} {a b:Int} {ti ei:TI} {zs:List DV} {c:α→List DV} {sz:Nat} (z:α) (hb:0≤a∧a=b∧a.toNat*sz*64≤281474976710656) (hx:evA N ⟨t,h⟩ x = .d (.v (.int kx a))) (hy:evA N ⟨t,h⟩ y = .d (.v (.int ky b)))
  (h1:T bt=some ti) (h2:ti.desc = .slice e) (h3:T e=some ei) (hsz:ei.size=sz) (hz:dvL ei.zero.cells.toList=zs) (hone:bBl ei.zero.cells.toList=true) (hzs:Nat.beq zs.length ei.size=true) (hpos:Nat.blt 0 ei.size=true) (hsb:Nat.ble ei.bytes (ei.size*64)=true) (hk:h k = .no) (hcz:zs=c z) :
  cQ P N ⟨some d, .makeSlice bt x y,ty,pos,aft,g⟩ ⟨t,h⟩ (.own k 0 (List.replicate a.toNat z).length) (upd h k (.live [⟨e,ei.size, .data ((List.replicate a.toNat z).map c)⟩])) ∧ ∀ k',h k' ≠ .no→upd h k (.live [⟨e,ei.size, .data ((List.replicate a.toNat z).map c)⟩]) k'=h k':=by
 subst hsz
 obtain ⟨b1,rfl,b3⟩:=hb
 have hle:=Nat.le_of_ble_eq_true hsb
 have hp:=oB hpos
 have e1:ei.bytes*a.toNat≤a.toNat*ei.size*64:=by rw [Nat.mul_comm,Nat.mul_assoc];exact Nat.mul_le_mul_left _ hle
 have e2:a.toNat≤a.toNat*ei.size:=Nat.le_mul_of_pos_right _ (by omega)
 have:=aZ7 (P:=P) (N:=N) (d:=d) (ty:=ty) (pos:=pos) (aft:=aft) (g:=g) (l:=a.toNat) (c:=a.toNat) k hT hx hy (by omega) (by omega) (Nat.le_refl _) h1 h2 h3 hz hone hzs hpos (by omega) (by omega) hk
 rw [hcz, ← List.map_replicate] at this
 rw [List.length_replicate]
 exact this
theorem aXn {α:Type} (hT:TOk P T) {bt e:TypeId} {len:Nat} {parts:Array (Nat × Operand)} {ti ei:TI} {es:List (List AV)} {ds:List (List DV)} (c:α→List DV) (xs:List α) (h1:T bt=some ti) (h2:ti.desc = .slice e) (h3:T e=some ei)
  (hel:Els (evA N ⟨t,h⟩) ei.size 0 parts.toList es) (hlen:Nat.beq es.length len=true) (hpos:Nat.blt 0 (len*ei.size)=true) (hsm:Nat.ble (len*ei.size) 16777216=true) (hcc:pH es ds) (hxs:ds=xs.map c) :
  cQ P N ⟨some d, .buildSlice bt len parts,ty,pos,aft,g⟩ ⟨t,h⟩ (.d (.sl (xs.map c))) h ∧ ∀ k',h k' ≠ .no→h k'=h k':=by
 subst hxs
 exact aLi hT h1 h2 h3 hel hlen hpos hsm hcc
theorem aXm {α:Type} (k:Nat) (hT:TOk P T) {bt e:TypeId} {len:Nat} {parts:Array (Nat × Operand)} {ti ei:TI} {es:List (List AV)} {ds:List (List DV)} (c:α→List DV) (xs:List α) (h1:T bt=some ti) (h2:ti.desc = .slice e) (h3:T e=some ei)
  (hel:Els (evA N ⟨t,h⟩) ei.size 0 parts.toList es) (hlen:Nat.beq es.length len=true) (hpos:Nat.blt 0 (len*ei.size)=true) (hsm:Nat.ble (len*ei.size) 16777216=true) (hcc:pH es ds) (hxs:ds=xs.map c) (hk:h k = .no) :
  cQ P N ⟨some d, .buildSlice bt len parts,ty,pos,aft,g⟩ ⟨t,h⟩ (.own k 0 xs.length) (upd h k (.live [⟨e,ei.size, .data (xs.map c)⟩])) ∧ ∀ k',h k' ≠ .no→upd h k (.live [⟨e,ei.size, .data (xs.map c)⟩]) k'=h k':=by
 subst hxs
 have hl:len=xs.length:=by
  have h5:=Nat.eq_of_beq_eq_true hlen
  have h6:=congrArg List.length hcc.eq_
  simp at h6
  omega
 have:=aPo (P:=P) (N:=N) (d:=d) (ty:=ty) (pos:=pos) (aft:=aft) (g:=g) k hT h1 h2 h3 hel hlen hpos hsm (.data hcc) hk
 rw [hl] at this ⊢
 exact this
end
end Go.Proofs.YtbliejnpjpnahaaGreatDoor
namespace Go.Proofs.YtbliejnpjpnahaaGreatDoor
open Go.RowKit
set_option linter.unusedVariables false
set_option maxRecDepth 100000
def aJf (s:ByteArray) (i:Int):Option Int:=if 0≤i then (s[i.toNat]?).map (fun b=>(b.toNat:Int)) else none
def aFu {α:Type} (xs:List α) (a b:Int):List α:=(xs.drop a.toNat).take (b.toNat-a.toNat)
theorem eO {V Z:Type} {z r:Z} {f:V→Option Z} (h:orE (.inr z) f=some r):some z=some r:=h
theorem gO {V Z:Type} {v:V} {r:Z} {f:V→Option Z} (h:orE (.inl v) f=some r):f v=some r:=h
section
variable {P:Program} {T:Tab} {L N:Nat} {ops:Array Oper} {E:Env} {K:List (Nat × Cls)→AS→Prop} {i:Nat} {is:List Nat} {t:Nat→AV} {h h':dG} {d:Tmp} {dst:Option Tmp} {op:Op} {ty:TypeId} {pos:String} {aft:Array Edge} {g:Option (Nat × Bool)} {Q:qL→AS→Prop} {σ:AS} {xt yt:TypeId} {x y:Operand} {a b:Int}
theorem bBw (hx:evA N ⟨t,h⟩ x = .d (.v (.int .i64 a))) (hy:evA N ⟨t,h⟩ y = .d (.v (.int .i64 b))):eC P N ⟨some d, .binOp .add xt x y yt,ty,pos,aft,g⟩ ⟨t,h⟩ (.d (.v (.int .i64 (w64 (a+b))))):=aNc hx hy
theorem bBz (hx:evA N ⟨t,h⟩ x = .d (.v (.int .i64 a))) (hy:evA N ⟨t,h⟩ y = .d (.v (.int .i64 b))):eC P N ⟨some d, .binOp .sub xt x y yt,ty,pos,aft,g⟩ ⟨t,h⟩ (.d (.v (.int .i64 (w64 (a-b))))):=aZn hx hy
theorem bBx (hx:evA N ⟨t,h⟩ x = .d (.v (.int .i64 a))) (hy:evA N ⟨t,h⟩ y = .d (.v (.int .i64 b))):eC P N ⟨some d, .binOp .mul xt x y yt,ty,pos,aft,g⟩ ⟨t,h⟩ (.d (.v (.int .i64 (w64 (a*b))))):=aTw hx hy
theorem lI (hx:evA N ⟨t,h⟩ x = .d (.v (.int .i64 a))) (hy:evA N ⟨t,h⟩ y = .d (.v (.int .i64 b))) (hb:b≠0):eC P N ⟨some d, .binOp .quo xt x y yt,ty,pos,aft,g⟩ ⟨t,h⟩ (.d (.v (.int .i64 (w64 (a.tdiv b))))):=aFe hx hy hb
theorem bBy (hx:evA N ⟨t,h⟩ x = .d (.v (.int .i64 a))):eC P N ⟨some d, .unOp .neg xt x,ty,pos,aft,g⟩ ⟨t,h⟩ (.d (.v (.int .i64 (w64 (-a))))) :=
 aZo (by rw [hx];rfl) fun w=>by simp [Op.unary,Op.intArith,w64]
theorem aTx {kx:IntKind} (hx:evA N ⟨t,h⟩ x = .d (.v (.int kx a))):eC P N ⟨some d, .unOp .neg xt x,ty,pos,aft,g⟩ ⟨t,h⟩ (.d (.v (.int kx (kx.wrap (-a))))) :=
 aZo (by rw [hx];rfl) fun w=>by simp [Op.unary,Op.intArith]
theorem aNh (hT:TOk P T) {st_ dt:TypeId} {d1 d2:TI} {k1:IntKind} (h1:T st_=some d1) (h2:T dt=some d2) (e2:d2.desc = .int .i64) (hx:evA N ⟨t,h⟩ x = .d (.v (.int k1 a))) (e1:d1.desc = .int k1) :
  eC P N ⟨some d, .convert st_ dt x,ty,pos,aft,g⟩ ⟨t,h⟩ (.d (.v (.int .i64 (w64 a)))):=aNe hT h1 h2 e2 hx e1
theorem aIy (hT:TOk P T) {s:ByteArray} {kk:IntKind} {ti:TI} (hb:aJf s a=some b) (hx:evA N ⟨t,h⟩ x = .d (.v (.string s))) (hy:evA N ⟨t,h⟩ y = .d (.v (.int kk a))) (h1:T xt=some ti) (h2:ti.desc = .string) :
  eC P N ⟨some d, .index xt x y,ty,pos,aft,g⟩ ⟨t,h⟩ (.d (.v (.int .u8 b))):=fun w F μ hh ρ st=>by
 have e1:=gU (by have:=st x (by simp [Op.operands]);rw [hx] at this;exact this)
 have e2:=gU (by have:=st y (by simp [Op.operands]);rw [hy] at this;exact this)
 have hu:=(hT _ _ h1).1
 rw [h2] at hu
 refine ⟨.int .u8 b,?_, .d _ _ (.v _ rfl)⟩
 unfold aJf at hb
 split at hb
 ·rename_i h0
  obtain ⟨c,hc,rfl⟩:=Option.map_eq_some_iff.1 hb
  simp [execOp,Instr.index,e1,e2,asIntOf,run_underlying hu,h0,hc]
 ·cases hb
theorem aB1 (hT:TOk P T) {s:ByteArray} {lo hi:Option Operand} {ti:TI} (hab:0≤a∧a≤b∧b≤s.size) (hx:evA N ⟨t,h⟩ x = .d (.v (.string s))) (hlo:(lo=none∧a=0) ∨ ∃ o k,lo=some o∧evA N ⟨t,h⟩ o = .d (.v (.int k a)))
  (hhi:(hi=none∧b=s.size) ∨ ∃ o k,hi=some o∧evA N ⟨t,h⟩ o = .d (.v (.int k b))) (h1:T xt=some ti) (h2:ti.desc = .string):eC P N ⟨some d, .slice xt x lo hi none,ty,pos,aft,g⟩ ⟨t,h⟩ (.d (.v (.string (s.extract a.toNat b.toNat)))):=fun w F μ hh ρ st=>by
 have e1:=gU (by have:=st x (by simp [Op.operands]);rw [hx] at this;exact this)
 have hu:=(hT _ _ h1).1
 rw [h2] at hu
 obtain ⟨q0,q1,q2⟩:=hab
 refine ⟨.string (s.extract a.toNat b.toNat),?_, .d _ _ (.v _ rfl)⟩
 rcases hlo with ⟨rfl,rfl⟩ | ⟨o1,k1,rfl,g1⟩ <;> rcases hhi with ⟨rfl,rfl⟩ | ⟨o2,k2,rfl,g2⟩
 ·simp [execOp,Instr.sliceAt,Instr.slice,Instr.sliceBounds,e1,run_underlying hu]
 ·have f2:=gU (by have:=st o2 (by simp [Op.operands]);rw [g2] at this;exact this)
  simp [execOp,Instr.sliceAt,Instr.slice,Instr.sliceBounds,Instr.sliceBound,e1,f2,asIntOf,run_underlying hu,q1,q2]
 ·have f1:=gU (by have:=st o1 (by simp [Op.operands]);rw [g1] at this;exact this)
  simp [execOp,Instr.sliceAt,Instr.slice,Instr.sliceBounds,Instr.sliceBound,e1,f1,asIntOf,run_underlying hu,q0,q1]
 ·have f1:=gU (by have:=st o1 (by simp [Op.operands]);rw [g1] at this;exact this)
  have f2:=gU (by have:=st o2 (by simp [Op.operands]);rw [g2] at this;exact this)
  have q3:0≤b:=by omega
  simp [execOp,Instr.sliceAt,Instr.slice,Instr.sliceBounds,Instr.sliceBound,e1,f1,f2,asIntOf,run_underlying hu,q0,q1,q2,q3]
  try omega
theorem aIx {α:Type} (hT:TOk P T) {c:α→List DV} {es:List α} {lo hi:Option Operand} {e:TypeId} {ti ei:TI} (hab:0≤a∧a≤b∧b≤es.length) (hx:evA N ⟨t,h⟩ x = .d (.sl (es.map c))) (hlo:(lo=none∧a=0) ∨ ∃ o k,lo=some o∧evA N ⟨t,h⟩ o = .d (.v (.int k a)))
  (hhi:(hi=none∧b=es.length) ∨ ∃ o k,hi=some o∧evA N ⟨t,h⟩ o = .d (.v (.int k b))) (h1:T xt=some ti) (h2:ti.desc = .slice e) (h3:T e=some ei) (hcl : ∀ u,(c u).length=ei.size) :
  eC P N ⟨some d, .slice xt x lo hi none,ty,pos,aft,g⟩ ⟨t,h⟩ (.d (.sl ((aFu es a b).map c))):=fun w F μ hh ρ st=>by
 have hr:=st x (by simp [Op.operands])
 rw [hx] at hr
 have hu:=(hT _ _ h1).1
 rw [h2] at hu
 obtain ⟨q0,q1,q2⟩:=hab
 generalize hvx:ρ x=vx at hr
 cases hr with | d _ _ hd =>
 -- what the operation comes to
 have run : ∀ (A:Option Addr) (n cc:Nat),n=es.length→n≤cc→vx = .slice A n cc →
   (execOp ρ ⟨some d, .slice xt x lo hi none,ty,pos,aft,g⟩).run P w = .ok (.value (.slice (if cc=a.toNat then A else A.map (·.add (a.toNat*ei.size))) (b.toNat-a.toNat) (cc-a.toNat))) w:=by
  intro A n cc hn hc hv
  subst hn
  have q4:b≤(cc:Int):=by omega
  have q3:0≤b:=by omega
  rcases hlo with ⟨rfl,rfl⟩ | ⟨o1,k1,rfl,g1⟩ <;> rcases hhi with ⟨rfl,rfl⟩ | ⟨o2,k2,rfl,g2⟩
  ·simp [execOp,Instr.sliceAt,Instr.slice,Instr.sliceBounds,hvx,hv,run_underlying hu,fV hT h3]
  ·have f2:=gU (by have:=st o2 (by simp [Op.operands]);rw [g2] at this;exact this)
   simp [execOp,Instr.sliceAt,Instr.slice,Instr.sliceBounds,Instr.sliceBound,hvx,hv,f2,asIntOf,run_underlying hu,fV hT h3,q3,q4]
  ·have f1:=gU (by have:=st o1 (by simp [Op.operands]);rw [g1] at this;exact this)
   simp [execOp,Instr.sliceAt,Instr.slice,Instr.sliceBounds,Instr.sliceBound,hvx,hv,f1,asIntOf,run_underlying hu,fV hT h3,q0,q1]
  ·have f1:=gU (by have:=st o1 (by simp [Op.operands]);rw [g1] at this;exact this)
   have f2:=gU (by have:=st o2 (by simp [Op.operands]);rw [g2] at this;exact this)
   have q5:a.toNat≤b.toNat:=by omega
   simp [execOp,Instr.sliceAt,Instr.slice,Instr.sliceBounds,Instr.sliceBound,hvx,hv,f1,f2,asIntOf,run_underlying hu,fV hT h3,q0,q1,q3,q4,q5]
   intro hlt;omega
 have hlen:(aFu es a b).length=b.toNat-a.toNat:=by unfold aFu;simp;omega
 generalize hds:es.map c=ds at hd
 cases hd with
 | nil =>
  have:es=[]:=List.map_eq_nil_iff.1 hds
  subst this
  simp at q2
  have e1:a=0:=by omega
  have e2:b=0:=by omega
  subst e1 e2
  refine ⟨_,run none 0 0 rfl (Nat.le_refl _) rfl,?_⟩
  simp [aFu]
  exact .d _ _ .nil
 | emp A cc hm =>
  have:es=[]:=List.map_eq_nil_iff.1 hds
  subst this
  simp at q2
  have e1:a=0:=by omega
  have e2:b=0:=by omega
  subst e1 e2
  refine ⟨_,run A 0 cc rfl (Nat.zero_le _) rfl,?_⟩
  simp only [aFu,List.drop_nil,List.take_nil,List.map_nil]
  exact .d _ _ (.emp _ _ (by omega))
 | sl bk off cc sz es' gg hF hc hm hz hg hr =>
  subst hds
  refine ⟨_,run _ _ cc (by simp) hc rfl,?_⟩
  by_cases hempty:b.toNat-a.toNat=0
  ·have:aFu es a b=[]:=List.eq_nil_of_length_eq_zero (by omega)
   rw [this,hempty]
   exact .d _ _ (.emp _ _ (by omega))
  ·have hl:0<es.length:=by omega
   have hsz:sz=ei.size:=by
    have:=hz 0 (c es[0]) (by simp [hl])
    rw [hcl] at this;omega
   have hne : ¬ cc=a.toNat:=by
    have:(es.map c).length=es.length:=by simp
    omega
   rw [if_neg hne]
   have hget : ∀ (q:Nat) e,((aFu es a b).map c)[q]? = some e→(es.map c)[a.toNat+q]? = some e:=fun q e he=>by
    obtain ⟨u,hu',rfl⟩:=by simpa using he
    refine aO0 ?_
    unfold aFu at hu'
    rw [List.getElem?_take] at hu'
    split at hu'
    ·rw [List.getElem?_drop] at hu';exact hu'
    ·cases hu'
   have hl2:((aFu es a b).map c).length=b.toNat-a.toNat:=by simp [hlen]
   rw [← hl2]
   have e3:(Option.map (fun x=>x.add (a.toNat*ei.size)) (some (⟨bk,off,none⟩:Addr)))=some ⟨bk,off+a.toNat*ei.size,none⟩:=by simp [oW]
   rw [e3]
   refine .d _ _ (.sl bk _ _ sz _ (fun q j=>gg (a.toNat+q) j) hF ?_ (by omega) (fun q e he=>hz _ e (hget q e he)) (fun q e j v he hv => ?_) (fun q e j v he hv=>hr _ e j v (hget q e he) hv))
   ·have:(es.map c).length=es.length:=by simp
    omega
   ·have:=hg _ e j v (hget q e he) hv
    rw [← this,hsz]
    congr 2
    rw [Nat.add_mul];omega
theorem wk {t':Nat→AV} {ss:List fA} (ks:List Nat) (hnd:ks.Nodup:=by decide) (hlt : ∀ k ∈ ks,k<300:=by decide) (h3:(List.range L).all (fun p=>fR ks 300 p == p)=true:=by decide)
  (hB:Abv h 300:=by repeat (first | exact mZ _ | exact mY rfl | refine nA ?_ rfl))
  (wt:WT (fR ks 300) t t':=by repeat (first | exact WT.nil | refine WT.free_ rfl (by exact rfl) ?_ | refine WT.ren_ (r':=_) rfl (by repeat (first | exact gF.nil | apply gF.cons | exact cZ.d _ | apply cZ.agg | apply cZ.tup | exact cZ.own _ _ _ _ rfl | exact cZ.of_own (by first | rfl | (simp;done) | omega | (simp;omega)) rfl | exact cZ.ptr _ _ _ _ _ _ rfl | exact cZ.ref _ | apply cZ.fn | exact cZ.dead | exact cZ.nd _ _)) ?_))
  (wh:AtK (fR ks 300) h ks ss:=by repeat (first | exact AtK.nil | refine AtK.data_ (by exact rfl) ?_ | (apply AtK.cons rfl; (first | exact gR.no | exact gR.dead | exact gR.data _ _ _ | exact gR.nest rfl | exact gR.fam | (apply gR.box; (repeat (first | exact gF.nil | apply gF.cons | exact cZ.d _ | apply cZ.agg | apply cZ.tup | exact cZ.own _ _ _ _ rfl | exact cZ.of_own (by first | rfl | (simp;done) | omega | (simp;omega)) rfl | exact cZ.ptr _ _ _ _ _ _ rfl | exact cZ.ref _ | apply cZ.fn | exact cZ.dead))) | exact gR.bld rfl | exact gR.gen _)))):lJ L N ⟨t,h⟩ ⟨t',lks ss⟩:=bFc ks 300 hnd hlt h3 hB wt wh
theorem aXu {k:Nat} {ty:TypeId} {sz:Nat} {es:List (List DV)} {t':Nat→AV} (hk:h k = .live [⟨ty,sz, .data es⟩]) (z:FzL k (some es) none h h')
  (zt:FzT k (some es) none t t':=by repeat (first | exact FzT.nil | refine FzT.upd rfl (by repeat (first | exact aD4.nil | apply aD4.cons | exact FzR.own rfl (by first | rfl | (simp;done) | (simp;omega)) | exact FzR.d _ | exact FzR.own' | exact FzR.ptr' | exact FzR.ref _ | apply FzR.agg | apply FzR.tup | apply FzR.fn | exact FzR.dead _)) ?_)):lJ L N ⟨t,h⟩ ⟨t',h'⟩:=aUw (aYz hk z) zt
theorem bFw {k:Nat} {ty:TypeId} {sz:Nat} {cells:List AV} {ds:List DV} {t':Nat→AV} (hk:h k = .live [⟨ty,sz, .av [cells]⟩]) (z:FzL k none (some ds) h h') (hd:aC6 cells ds:=by repeat (first | exact aC6.nil | apply aC6.cons))
  (zt:FzT k none (some ds) t t':=by repeat (first | exact FzT.nil | refine FzT.upd rfl (by repeat (first | exact aD4.nil | apply aD4.cons | exact FzR.ptr rfl (by repeat (first | exact Drp.z _ | apply Drp.d)) | exact FzR.d _ | exact FzR.own' | exact FzR.ptr' | exact FzR.ref _ | apply FzR.agg | apply FzR.tup | apply FzR.fn | exact FzR.dead _)) ?_)):lJ L N ⟨t,h⟩ ⟨t',h'⟩:=aUw (bBb hk hd z) zt
theorem eS (ks:List Nat) (B:Nat) {f:FuncId} {x:Operand} {args:Array Operand} {at_:Array TypeId} {caps as as':List AV} {hin hout:List fA} {r r':AV} (hF:FnC P f hin as hout r) (hx:evA N ⟨t,h⟩ x = .fn f caps) (ha:evL N ⟨t,h⟩ args.toList++caps=as')
  (har:gF (fR ks B) as as':=by repeat (first | exact gF.nil | apply gF.cons | exact cZ.d _ | apply cZ.agg | apply cZ.tup | exact cZ.own _ _ _ _ rfl | exact cZ.of_own (by first | rfl | (simp;done) | omega | (simp;omega)) rfl | exact cZ.ptr _ _ _ _ _ _ rfl | exact cZ.ref _ | apply cZ.fn | exact cZ.dead))
  (hB:Abv h B:=by repeat (first | exact mZ _ | exact mY rfl | refine nA ?_ rfl)) (hnd:ks.Nodup:=by decide) (hlt : ∀ k ∈ ks,k<B:=by decide)
  (hk:AtK (fR ks B) h ks hin:=by repeat (first | exact AtK.nil | refine AtK.data_ (by exact rfl) ?_ | (apply AtK.cons rfl; (first | exact gR.no | exact gR.dead | exact gR.data _ _ _ | exact gR.nest rfl | exact gR.fam | (apply gR.box; (repeat (first | exact gF.nil | apply gF.cons | exact cZ.d _ | apply cZ.agg | apply cZ.tup | exact cZ.own _ _ _ _ rfl | exact cZ.ptr _ _ _ _ _ _ rfl | exact cZ.ref _ | apply cZ.fn | exact cZ.dead))) | exact gR.gen _))))
  (hb:aRt (fR ks B) h ks hout h':=by repeat (first | exact aRt.nil _ | (apply aRt.cons; (first | exact gR.no | exact gR.dead | exact gR.data _ _ _ | exact gR.nest rfl | exact gR.fam | (apply gR.box; (repeat (first | exact gF.nil | apply gF.cons | exact cZ.d _ | apply cZ.agg | apply cZ.tup | exact cZ.own _ _ _ _ rfl | exact cZ.ptr _ _ _ _ _ _ rfl | exact cZ.ref _ | apply cZ.fn | exact cZ.dead))) | exact gR.gen _))))
  (hr:cZ (fR ks B) r r':=by repeat (first | exact gF.nil | apply gF.cons | exact cZ.d _ | apply cZ.agg | apply cZ.tup | exact cZ.own _ _ _ _ rfl | exact cZ.ptr _ _ _ _ _ _ rfl | exact cZ.ref _ | apply cZ.fn | exact cZ.dead)) :
  cQ P N ⟨dst, .call ⟨.value x,args,at_⟩,ty,pos,aft,g⟩ ⟨t,h⟩ r' h':=aXa ks B hx ha har hF hB hnd hlt hk hb hr
theorem cG {fn:Func} {rs:List ResultVar} {as:List AV} {r:AV} (hrs:fn.results.toList=rs)
  (R:qA T N ⟨t,h⟩ rs as:=by repeat (first | exact qA.nil | apply qA.tmp (a := .d _) rfl | apply qA.tmp (a := .own _ _ _) rfl | apply qA.tmp (a := .agg _) rfl | apply qA.tmp (a := .ref _) rfl | apply qA.tmp (a := .ptr _ _ _ _ _) rfl | apply qA.cell1 rfl rfl rfl rfl (by first | rfl) (by first | rfl) rfl | apply qA.cellN rfl rfl rfl rfl (by first | rfl) (by first | rfl) (by repeat (first | exact Seg.z _ | apply Seg.t | apply Seg.d))))
  (hB:Abv h 300:=by repeat (first | exact mZ _ | exact mY rfl | refine nA ?_ rfl)) (e:aWm as=r:=by rfl) (hf:r.free=true:=by rfl):aF0 T N fn 0 [] r ⟨t,h⟩:=bFm 300 hrs R hB hf e
theorem bV {fn:Func} {rs:List ResultVar} {as:List AV} {r:AV} {hout:List fA} (ks:List Nat) (hrs:fn.results.toList=rs)
  (R:qA T N ⟨t,h⟩ rs as:=by repeat (first | exact qA.nil | apply qA.tmp (a := .d _) rfl | apply qA.tmp (a := .own _ _ _) rfl | apply qA.tmp (a := .agg _) rfl | apply qA.tmp (a := .ref _) rfl | apply qA.tmp (a := .ptr _ _ _ _ _) rfl | apply qA.cell1 rfl rfl rfl rfl (by first | rfl) (by first | rfl) rfl | apply qA.cellN rfl rfl rfl rfl (by first | rfl) (by first | rfl) (by repeat (first | exact Seg.z _ | apply Seg.t | apply Seg.d))))
  (hB:Abv h 300:=by repeat (first | exact mZ _ | exact mY rfl | refine nA ?_ rfl)) (hnd:ks.Nodup:=by decide) (hlt : ∀ k ∈ ks,k<300:=by decide)
  (hk:AtK (fR ks 300) h ks hout:=by repeat (first | exact AtK.nil | refine AtK.data_ (by exact rfl) ?_ | (apply AtK.cons rfl; (first | exact gR.no | exact gR.dead | exact gR.data _ _ _ | exact gR.nest rfl | exact gR.fam | exact gR.gen _))))
  (e:cZ (fR ks 300) r (aWm as):=by repeat (first | exact gF.nil | apply gF.cons | exact cZ.d _ | apply cZ.agg | apply cZ.tup | exact cZ.own _ _ _ _ rfl | exact cZ.of_own (by first | rfl | (simp;done) | omega | (simp;omega)) rfl | exact cZ.ptr _ _ _ _ _ _ rfl | exact cZ.ref _ | apply cZ.fn | exact cZ.dead)):aF0 T N fn 0 hout r ⟨t,h⟩:=bGf ks 300 hrs R hB hnd hlt hk e.eq_
theorem nZ {fn:Func} {rs:List ResultVar} {as:List AV} {r:AV} {hout:List fA} (m:Nat) (hm:Nat.beq hout.length m=true) (hrs:fn.results.toList=rs)
  (R:qA T N ⟨t,h⟩ rs as:=by repeat (first | exact qA.nil | apply qA.tmp (a := .d _) rfl | apply qA.tmp (a := .own _ _ _) rfl | apply qA.tmp (a := .agg _) rfl | apply qA.tmp (a := .ref _) rfl | apply qA.tmp (a := .ptr _ _ _ _ _) rfl | apply qA.cell1 rfl rfl rfl rfl (by first | rfl) (by first | rfl) rfl | apply qA.cellN rfl rfl rfl rfl (by first | rfl) (by first | rfl) (by repeat (first | exact Seg.z _ | apply Seg.t | apply Seg.d))))
  (hB:Abv h 300:=by repeat (first | exact mZ _ | exact mY rfl | refine nA ?_ rfl)) (hlt:Nat.blt m 300=true:=by rfl)
  (hk:AtK (fR (List.range m) 300) h (List.range m) hout:=by repeat (first | exact AtK.nil | refine AtK.data_ (by exact rfl) ?_ | (apply AtK.cons rfl; (first | exact gR.no | exact gR.dead | exact gR.data _ _ _ | exact gR.nest rfl | exact gR.fam | (apply gR.box; (repeat (first | exact gF.nil | apply gF.cons | exact cZ.d _ | apply cZ.agg | apply cZ.tup | exact cZ.own _ _ _ _ rfl | exact cZ.ptr _ _ _ _ _ _ rfl | exact cZ.ref _ | apply cZ.fn | exact cZ.dead))) | exact gR.gen _))))
  (e:cZ (fR (List.range m) 300) r (aWm as):=by repeat (first | exact gF.nil | apply gF.cons | exact cZ.d _ | apply cZ.agg | apply cZ.tup | exact cZ.own _ _ _ _ rfl | exact cZ.ptr _ _ _ _ _ _ rfl | exact cZ.ref _ | apply cZ.fn | exact cZ.dead)):aF0 T N fn m hout r ⟨t,h⟩:=bGg m 300 hm hrs R hB hlt hk e.eq_
end
end Go.Proofs.YtbliejnpjpnahaaGreatDoor
namespace Go.Proofs.YtbliejnpjpnahaaGreatDoor
open Go.RowKit
set_option linter.unusedVariables false
set_option maxRecDepth 100000
def dC (s:ByteArray):List Int:=s.data.toList.map fun b=>(b.toNat:Int)
theorem aBk (s:ByteArray):(dC s).length=s.size:=by simp [dC]
section
variable {P:Program} {T:Tab} {L N:Nat} {ops:Array Oper} {E:Env} {K:List (Nat × Cls)→AS→Prop} {i:Nat} {is:List Nat} {t:Nat→AV} {h h':dG} {d:Tmp} {dst:Option Tmp} {op:Op} {ty:TypeId} {pos:String} {aft:Array Edge} {g:Option (Nat × Bool)} {Q:qL→AS→Prop} {σ:AS} {x y:Operand}
theorem bA3 (hT:TOk P T) {st_ dt e:TypeId} {s:ByteArray} {d1 d2 d3:TI} (hb:s.size≤140737488355328) (hx:evA N ⟨t,h⟩ x = .d (.v (.string s))) (h1:T st_=some d1) (e1:d1.desc = .string) (h2:T dt=some d2) (e2:d2.desc = .slice e) (h3:T e=some d3) (e3:d3.desc = .int .u8) :
  cQ P N ⟨some d, .convert st_ dt x,ty,pos,aft,g⟩ ⟨t,h⟩ (.d (.sl ((dC s).map cU8))) h ∧ ∀ k',h k' ≠ .no→h k'=h k':=by
 refine ⟨fun E F μ w ρ H st => ?_,fun _ _=>rfl⟩
 have f1:=gU (by have:=st x (by simp [Op.operands]);rw [hx] at this;exact this)
 have u1:=(hT _ _ h1).1
 rw [e1] at u1
 have u2:=(hT _ _ h2).1
 rw [e2] at u2
 have u3:=(hT _ _ h3).1
 rw [e3] at u3
 have hrun:=run_bytes_of_string (P:=P) w st_ dt e s u1 u2 u3
 have e4:(execOp ρ ⟨some d, .convert st_ dt x,ty,pos,aft,g⟩).run P w = .ok (.value (.slice (some ⟨w.heap.size,0,none⟩) s.size (grownCap w s.size 0 e))) (w.drew.alloc (.cells (bytesRow s (grownCap w s.size 0 e)) e ((bytesRow s (grownCap w s.size 0 e)).size,(bytesRow s (grownCap w s.size 0 e)).size+1))):=by
  simp only [execOp,f1]
  rw [Sem.run_bind,hrun];rfl
 rw [e4]
 have hge:=grownCap_ge w s.size 0 e
 have hcm:=grownCap_le_maxLen w s.size 0 e (by unfold maxLen;omega)
 obtain ⟨H1,V1⟩:=H.drew
 obtain ⟨H',V⟩:=H1.ice (.cells (bytesRow s (grownCap w s.size 0 e)) e ((bytesRow s (grownCap w s.size 0 e)).size,(bytesRow s (grownCap w s.size 0 e)).size+1))
 refine ⟨_, μ,H',V1.trans V, .d _ _ ?_⟩
 have hl:((dC s).map cU8).length=s.size:=by rw [List.length_map,aBk]
 have hat : ∀ (q:Nat) (ed:List DV),((dC s).map cU8)[q]? = some ed → ∃ b:UInt8,s.data[q]? = some b∧ed=[.v (.int .u8 (b.toNat:Int))]:=fun q ed hq=>by
  simp only [List.getElem?_map,dC] at hq
  obtain ⟨v,hv,rfl⟩:=Option.map_eq_some_iff.1 hq
  obtain ⟨b,hb,rfl⟩:=Option.map_eq_some_iff.1 hv
  exact ⟨b,by simpa using hb,rfl⟩
 have hsl:xV (w.drew.alloc (.cells (bytesRow s (grownCap w s.size 0 e)) e ((bytesRow s (grownCap w s.size 0 e)).size,(bytesRow s (grownCap w s.size 0 e)).size+1))) (fun b=>F b∨b=w.drew.heap.size) (.slice (some ⟨w.heap.size,0,none⟩) ((dC s).map cU8).length (grownCap w s.size 0 e)) (.sl ((dC s).map cU8)):=by
  refine .sl w.heap.size 0 _ 1 _ (fun i j => .int .u8 (((s.data[i]?).getD 0).toNat:Int)) (.inr rfl) (by omega) hcm (fun q ed hq => ?_) (fun q ed j v hq hv => ?_) (fun q ed j v hq hv => ?_)
  ·obtain ⟨b,_,rfl⟩:=hat q ed hq;rfl
  ·obtain ⟨b,hb,rfl⟩:=hat q ed hq
   have hj:j=0:=by
    cases j with
    | zero=>rfl
    | succ j=>simp at hv
   subst hj
   have hcr:=cell_of_row _ w.heap.size (0+q*1+0) (bytesRow s (grownCap w s.size 0 e)) e _ (Go.heap_alloc_new w.drew (.cells (bytesRow s (grownCap w s.size 0 e)) e ((bytesRow s (grownCap w s.size 0 e)).size,(bytesRow s (grownCap w s.size 0 e)).size+1)))
   rw [hcr]
   have hlt:q<s.data.size:=(Array.getElem?_eq_some_iff.1 hb).1
   simp only [Nat.zero_add,Nat.mul_one,Nat.add_zero,bytesRow,hb,Option.getD_some]
   rw [Array.getElem?_append_left (by simpa using hlt),Array.getElem?_map,hb];rfl
  ·obtain ⟨b,hb,rfl⟩:=hat q ed hq
   have hj:j=0:=by
    cases j with
    | zero=>rfl
    | succ j=>simp at hv
   subst hj
   simp at hv
   subst hv
   simp only [hb,Option.getD_some]
   exact .v _ rfl
 rw [hl] at hsl
 exact hsl
theorem aPe {k0:Nat} {s:fA} {r:AV} (ho:ops[i]? = some ⟨some d,op,ty,pos,aft,g⟩) (hw:yX N ops ⟨some d,op,ty,pos,aft,g⟩ ⟨t,h⟩) (hd:Nat.blt d N=true) (hp:cQ P N ⟨some d,op,ty,pos,aft,g⟩ ⟨t,h⟩ r (upd h k0 s))
  (k:RT P N ops is (fun l σ'=>K ((i, .wk k0) :: l) σ') ⟨aA t d r,upd h k0 s⟩):RT P N ops (i :: is) K ⟨t,h⟩:=qH ho (.wk k0 (dN hd) hw r _ hp fun p hp=>dE _ _ hp) k
def bAm (k:IntKind) (a b:Int):Int:=k.wrap ((BitVec.ofInt k.bits a &&& BitVec.ofInt k.bits b).toNat:Int)
def aX7 (k:IntKind) (a b:Int):Int:=a.fdiv (2 ^ min b.toNat k.bits)
theorem bBn {k:IntKind} {a b:Int} {xt yt:TypeId} (hx:evA N ⟨t,h⟩ x = .d (.v (.int k a))) (hy:evA N ⟨t,h⟩ y = .d (.v (.int k b))):eC P N ⟨some d, .binOp .and xt x y yt,ty,pos,aft,g⟩ ⟨t,h⟩ (.d (.v (.int k (bAm k a b)))) :=
 lU (by rw [hx];rfl) (by rw [hy];rfl) fun w=>by simp [eqGuard,binOp,Op.intBits,bAm]
theorem aX2 {k k2:IntKind} {a b:Int} {xt yt:TypeId} (hx:evA N ⟨t,h⟩ x = .d (.v (.int k a))) (hy:evA N ⟨t,h⟩ y = .d (.v (.int k2 b))) (hb:0≤b):eC P N ⟨some d, .binOp .shr xt x y yt,ty,pos,aft,g⟩ ⟨t,h⟩ (.d (.v (.int k (aX7 k a b)))) :=
 lU (by rw [hx];rfl) (by rw [hy];rfl) fun w=>by simp [eqGuard,binOp,Op.shift,aX7,Int.not_lt.2 hb]
end
end Go.Proofs.YtbliejnpjpnahaaGreatDoor
namespace Go.Proofs.YtbliejnpjpnahaaGreatDoor
open Go.RowKit
set_option linter.unusedVariables false
set_option maxRecDepth 100000
section
variable {P:Program} {T:Tab} {L N:Nat} {ops:Array Oper} {E:Env} {K:List (Nat × Cls)→AS→Prop} {i:Nat} {is:List Nat} {t:Nat→AV} {h h':dG} {d:Tmp} {dst:Option Tmp} {op:Op} {ty:TypeId} {pos:String} {aft:Array Edge} {g:Option (Nat × Bool)} {Q:qL→AS→Prop} {σ:AS} {x y:Operand}
theorem iA.over_ {F:Nat→Prop} {μ:bJ} {w:World} (H:iA E F μ h w) {k k2:Nat} {o o':jR} (hk:h k = .live [o]) (hk2:h k2 = .no) (hty:o'.ty=o.ty) (hsz:o'.sz=o.sz) (hcs : ∀ i cells,o'.cs.get i=some cells→o.cs.get i=some cells) (hz:o.cs.len=0→o'.cs.len=0) :
  iA E F (uH μ k2 0 (μ k 0)) (upd (upd h k .dead) k2 (.live [o'])) w∧Evo w F μ h w F (uH μ k2 0 (μ k 0)) (upd (upd h k .dead) k2 (.live [o'])):=by
 have hne:k≠k2:=fun e=>by rw [e,hk2] at hk;cases hk
 have hlo:lv h k 0=some o:=qG hk
 have look : ∀ p f o1,lv (upd (upd h k .dead) k2 (.live [o'])) p f=some o1→(p=k2∧f=0∧o1=o')∨(p≠k2∧p≠k∧lv h p f=some o1):=fun p f o1 hl=>by
  by_cases e:p=k2
  ·subst e
   rw [cO] at hl
   cases f with
   | zero=>simp at hl;exact .inl ⟨rfl,rfl,hl.symm⟩
   | succ n=>simp at hl
  ·rw [eJ _ _ _ e] at hl
   by_cases e2:p=k
   ·subst e2;simp [lv,bR] at hl
   ·rw [eJ _ _ _ e2] at hl;exact .inr ⟨e,e2,hl⟩
 have mu : ∀ {p f},p≠k2→uH μ k2 0 (μ k 0) p f=μ p f:=fun e=>jY _ _ (fun ⟨e',_⟩=>e e')
 have V:Evo w F μ h w F (uH μ k2 0 (μ k 0)) (upd (upd h k .dead) k2 (.live [o'])):=by
  refine ⟨fun _ _=>rfl,fun _ hb=>hb,fun p hb => ?_,fun p f o1 hb ho1 => ?_⟩
  ·by_cases e:p=k2
   ·rw [e,hk2] at hb;exact absurd rfl hb
   ·rw [dE _ _ e]
    by_cases e2:p=k
    ·rw [e2,bR];simp
    ·rw [dE _ _ e2];exact hb
  ·rcases look p f o1 ho1 with ⟨e,_,_⟩ | ⟨e,e2,hl⟩
   ·rw [e,hk2] at hb;exact absurd rfl hb
   ·exact ⟨o1,hl, .inr ⟨rfl,rfl,mu e,fun b cur _ hc=>⟨cur,hc,rfl⟩⟩⟩
 have real : ∀ {p f o1 b},lv (upd (upd h k .dead) k2 (.live [o'])) p f=some o1→uH μ k2 0 (μ k 0) p f=some b → ∃ p' o2,lv h p' f=some o2∧μ p' f=some b∧(p'=if p=k2 then k else p):=fun {p f o1 b} hl hm=>by
  rcases look p f o1 hl with ⟨rfl,rfl,_⟩ | ⟨e,e2,hl⟩
  ·rw [cE] at hm
   exact ⟨k,o,hlo,hm,by simp⟩
  ·rw [mu e] at hm
   exact ⟨p,o1,hl,hm,by simp [e]⟩
 refine ⟨⟨fun p f o1 hl => ?_,fun p1 f1 o1 p2 f2 o2 b l1 l2 m1 m2 => ?_,fun p f o1 b hl hm => ?_,fun p f o1 b hl hm => ?_,H.fz,H.fsrc,H.ev.trans V,H.os,H.tape,H.output,H.size,H.keep⟩,V⟩
 ·rcases look p f o1 hl with ⟨rfl,rfl,rfl⟩ | ⟨e,e2,hl⟩
  ·rcases H.ob k 0 o hlo with ⟨g1,g2⟩ | ⟨b,cur,g1,g2,g3⟩
   ·exact .inl ⟨by rw [cE];exact g1,hz g2⟩
   ·refine .inr ⟨b,cur,by rw [cE];exact g1,by rw [hty];exact g2,fun i cells hi => ?_⟩
    obtain ⟨g4,g5⟩:=g3 i cells (hcs i cells hi)
    refine ⟨g4.trans hsz.symm,fun j c hj => ?_⟩
    obtain ⟨u,hu,hr⟩:=g5 j c hj
    exact ⟨u,by rw [hsz];exact hu,hr.evo V⟩
  ·rw [mu e];exact (H.ob p f o1 hl).evo V fun _ _=>rfl
 ·obtain ⟨q1,_,x1,y1,z1⟩:=real l1 m1
  obtain ⟨q2,_,x2,y2,z2⟩:=real l2 m2
  have:=H.inj _ _ _ _ _ _ b x1 x2 y1 y2
  refine ⟨?_,this.2⟩
  rcases look _ _ _ l1 with ⟨e1,_,_⟩ | ⟨e1,e1',_⟩ <;> rcases look _ _ _ l2 with ⟨e2,_,_⟩ | ⟨e2,e2',_⟩
  ·rw [e1,e2]
  ·rw [z1,z2,if_pos e1,if_neg e2] at this;exact absurd this.1.symm e2'
  ·rw [z1,z2,if_neg e1,if_pos e2] at this;exact absurd this.1 e1'
  ·rw [z1,z2,if_neg e1,if_neg e2] at this;exact this.1
 ·obtain ⟨q1,_,x1,y1,_⟩:=real hl hm
  exact H.sep _ _ _ b x1 y1
 ·obtain ⟨q1,_,x1,y1,_⟩:=real hl hm
  exact H.src _ _ _ b x1 y1
theorem bBm {α:Type} (k2:Nat) (hT:TOk P T) {xt e bt:TypeId} {k n sz:Nat} {c:α→List DV} {es:List α} {ti ei:TI} {b:Int} {o:Operand} {kk:IntKind} (hb:0≤b∧b≤es.length) (hx:evA N ⟨t,h⟩ x = .own k 0 n) (ho:evA N ⟨t,h⟩ o = .d (.v (.int kk b))) (h1:T xt=some ti) (h2:ti.desc = .slice e) (h3:T e=some ei) (hk:h k = .live [⟨bt,sz, .data (es.map c)⟩]) (hn:n=es.length) (hk2:h k2 = .no) :
  cQ P N ⟨some d, .slice xt x none (some o) none,ty,pos,aft,g⟩ ⟨t,h⟩ (.own k2 0 (es.take b.toNat).length) (upd (upd h k .dead) k2 (.live [⟨bt,sz, .data ((es.take b.toNat).map c)⟩])):=fun E F μ w ρ H st=>by
 subst hn
 have hr:=st x (by simp [Op.operands])
 rw [hx] at hr
 have f2:=gU (by have:=st o (by simp [Op.operands]);rw [ho] at this;exact this)
 have hu:=(hT _ _ h1).1
 rw [h2] at hu
 have hlo:lv h k 0=some (⟨bt,sz, .data (es.map c)⟩:jR):=qG hk
 obtain ⟨q0,q1⟩:=hb
 generalize hvs:ρ x=vs at hr
 cases hr with | own _ _ _ _ g1 hbn hv =>
 have hlen:(es.take b.toNat).length=b.toNat:=by rw [List.length_take];omega
 obtain ⟨H',V⟩:=H.over_ (k2:=k2) (o':=⟨bt,sz, .data ((es.take b.toNat).map c)⟩) hk hk2 rfl rfl (fun i cells hi=>by
  simp only [aX.get] at hi ⊢
  obtain ⟨e1,he1,rfl⟩:=Option.map_eq_some_iff.1 hi
  rw [List.getElem?_map] at he1
  obtain ⟨v,hv1,rfl⟩:=Option.map_eq_some_iff.1 he1
  rw [List.getElem?_take] at hv1
  split at hv1
  ·rw [List.getElem?_map,hv1];rfl
  ·cases hv1) (fun hz=>by simp [aX.len] at hz ⊢;simp [hz])
 rcases (hv _ hlo).2 pD with ⟨m1,m2,m3⟩ | ⟨bl,cc,cur,m1,m2,m3,m4,m5,m6⟩
 ·subst m3
  have hb0:b=0:=by omega
  subst hb0
  have e3:(execOp ρ ⟨some d, .slice xt x none (some o) none,ty,pos,aft,g⟩).run P w = .ok (.value (.slice none 0 0)) w:=by
   simp [execOp,Instr.sliceAt,Instr.slice,Instr.sliceBounds,Instr.sliceBound,hvs,f2,asIntOf,run_underlying hu,fV hT h3]
  rw [e3]
  refine ⟨F,_,H',V, .own _ _ _ _ rfl (by rw [bR];simp) fun o1 ho1 => ?_⟩
  rw [cO] at ho1
  simp at ho1
  subst ho1
  exact ⟨by simp [aX.len],fun _ => .inl ⟨by rw [cE];exact m1,by simp,rfl⟩⟩
 ·subst m2
  have e3:(execOp ρ ⟨some d, .slice xt x none (some o) none,ty,pos,aft,g⟩).run P w = .ok (.value (.slice (some ⟨bl,0,none⟩) b.toNat cc)) w:=by
   have q2:b≤(cc:Int):=by omega
   simp [execOp,Instr.sliceAt,Instr.slice,Instr.sliceBounds,Instr.sliceBound,hvs,f2,asIntOf,run_underlying hu,fV hT h3,q0,q2,oW]
  rw [e3]
  refine ⟨F,_,H',V, .own _ _ _ _ rfl (by rw [bR];simp) fun o1 ho1 => ?_⟩
  rw [cO] at ho1
  simp at ho1
  subst ho1
  exact ⟨by simp [aX.len],fun _ => .inr ⟨bl,cc,cur,by rw [cE];exact m1,by rw [hlen],m3,m4,by omega,m6⟩⟩
end
end Go.Proofs.YtbliejnpjpnahaaGreatDoor
namespace Go.Proofs.YtbliejnpjpnahaaGreatDoor
open Go.RowKit
set_option linter.unusedVariables false
set_option maxRecDepth 100000
def aIf (xs:List ByteArray) (sep:ByteArray):ByteArray:=⟨(Lib.join (xs.map (·.data.toList)) sep.data.toList).toArray⟩
section
variable {P:Program} {T:Tab} {L N:Nat} {ops:Array Oper} {E:Env} {K:List (Nat × Cls)→AS→Prop} {i:Nat} {is:List Nat} {t:Nat→AV} {h h':dG} {d:Tmp} {dst:Option Tmp} {op:Op} {ty:TypeId} {pos:String} {aft:Array Edge} {g:Option (Nat × Bool)} {Q:qL→AS→Prop} {σ:AS} {c:Code} {x y:Operand}
theorem lZ {d:Nat} {cs ds:List DV} (hd:t d = .ref cs) (hp:Pre cs ds):lJ L N ⟨t,h⟩ ⟨aA t d (.ref ds),h⟩:=by
 rintro E a w ⟨F, μ,A⟩
 refine ⟨F, μ,A.H,A.df,A.sz,fun d' hd' => ?_,A.lim⟩
 by_cases e:d'=d
 ·subst e
  have h1:=A.tm d' hd'
  dsimp only at h1 ⊢
  rw [hd] at h1
  rw [gC]
  have hp' : ∀ (j:Nat) (x:DV),ds[j]? = some x→cs[j]? = some x:=by
   cases aD1 (h:=h) hp with | ref _ _ q=>exact q
  generalize a.tmps.getD d' undef=v at h1
  cases h1 with | ref b off cs g hF hg hr=>exact .ref b off ds g hF (fun j x hx=>hg j x (hp' j x hx)) fun j x hx=>hr j x (hp' j x hx)
 ·dsimp only;rw [kS _ _ e]
  exact A.tm d' hd'
theorem aDl {d:Nat} {es:List (List DV)} (hN:Nat.blt d N=true) (hd:t d = .d (.sl es)) (h1:es≠[]→AW L P N c Q ⟨t,h⟩) (h2:es=[] → ∀ (A:Option Addr) (k:Nat),k≤maxLen→AW L P N c Q ⟨aA t d (.d (.v (.slice A 0 k))),h⟩):AW L P N c Q ⟨t,h⟩:=fun E a w A=>by
 by_cases e:es=[]
 ·subst e
  obtain ⟨F, μ,A⟩:=A
  have hdN:d<N:=oB hN
  obtain ⟨X,k,hk,hv⟩ : ∃ (X:Option Addr) (k:Nat),k≤maxLen∧a.tmps.getD d undef = .slice X 0 k:=by
   have h3:=A.tm d hdN
   dsimp only at h3
   rw [hd] at h3
   generalize a.tmps.getD d undef=v at h3
   cases h3 with | d _ _ h3 =>
   cases h3 with
   | nil=>exact ⟨none,0,by unfold maxLen;omega,rfl⟩
   | emp X k hk=>exact ⟨X,k,hk,rfl⟩
   | sl b off k sz _ gg hF hc hm hz hg hr=>exact ⟨_,k,hm,rfl⟩
  refine h2 rfl X k hk E a w ⟨F, μ,A.H,A.df,A.sz,fun d' hd' => ?_,A.lim⟩
  by_cases e:d'=d
  ·subst e
   dsimp only
   rw [gC,hv]
   exact .d _ _ (.v _ rfl)
  ·dsimp only;rw [kS _ _ e]
   exact A.tm d' hd'
 ·exact h1 e E a w A
theorem aW9 {d:Nat} {A:Option Addr} {k:Nat} (hd:t d = .d (.v (.slice A 0 k))) (hk:k≤maxLen):lJ L N ⟨t,h⟩ ⟨aA t d (.d (.sl [])),h⟩:=by
 rintro E a w ⟨F, μ,A⟩
 refine ⟨F, μ,A.H,A.df,A.sz,fun d' hd' => ?_,A.lim⟩
 by_cases e:d'=d
 ·subst e
  have h1:=A.tm d' hd'
  dsimp only at h1 ⊢
  rw [hd] at h1
  rw [gC,gU h1]
  exact .d _ _ (.emp _ _ hk)
 ·dsimp only;rw [kS _ _ e]
  exact A.tm d' hd'
theorem aBe {α:Type} (c:α→List DV) {d:Nat} {A:Option Addr} {k:Nat} (hd:t d = .d (.v (.slice A 0 k))) (hk:k≤maxLen):lJ L N ⟨t,h⟩ ⟨aA t d (.d (.sl (List.map c []))),h⟩:=aW9 hd hk
theorem lE (hT:TOk P T) {xt e:TypeId} {ti:TI} {A:Option Addr} {n k:Nat} {yt:TypeId} (hx:evA N ⟨t,h⟩ x = .d (.v (.slice A n k))) (h1:T xt=some ti) (h2:ti.desc = .slice e) (hy:evA N ⟨t,h⟩ y = .d (.v (.slice none 0 0))) :
  eC P N ⟨some d, .binOp .eql xt x y yt,ty,pos,aft,g⟩ ⟨t,h⟩ (.d (.v (.bool A.isNone))):=fun w F μ hh ρ st=>by
 have hr:=gU (by have:=st x (by simp [Op.operands]);rw [hx] at this;exact this)
 have hr2:=gU (by have:=st y (by simp [Op.operands]);rw [hy] at this;exact this)
 have hu:=(hT _ _ h1).1
 rw [h2] at hu
 refine ⟨.bool A.isNone,?_, .d _ _ (.v _ rfl)⟩
 simp [execOp,hr,hr2,eqGuard,binOp,Go.run_equal_slice_nil w xt e A n k hu]
theorem rW (hT:TOk P T) {xt e:TypeId} {ti:TI} {es:List (List DV)} {yt:TypeId} (hx:evA N ⟨t,h⟩ x = .d (.sl es)) (hne:es≠[]) (h1:T xt=some ti) (h2:ti.desc = .slice e) (hy:evA N ⟨t,h⟩ y = .d (.v (.slice none 0 0))) :
  eC P N ⟨some d, .binOp .eql xt x y yt,ty,pos,aft,g⟩ ⟨t,h⟩ (.d (.v (.bool false))):=fun w F μ hh ρ st=>by
 have hr:=st x (by simp [Op.operands])
 rw [hx] at hr
 have hr2:=gU (by have:=st y (by simp [Op.operands]);rw [hy] at this;exact this)
 have hu:=(hT _ _ h1).1
 rw [h2] at hu
 refine ⟨.bool false,?_, .d _ _ (.v _ rfl)⟩
 generalize hv:ρ x=v at hr
 cases hr with | d _ _ hd =>
 cases hd with
 | nil=>exact absurd rfl hne
 | emp A c hm=>exact absurd rfl hne
 | sl b off c sz es gg hF hc hm hz hg hr=>simp [execOp,hv,hr2,eqGuard,binOp,Go.run_equal_slice_nil w xt e _ _ _ hu]
theorem aZl {k:IntKind} {a b e:Int} {z:Operand} {at_:Array TypeId} (hx:evA N ⟨t,h⟩ x = .d (.v (.int k a))) (hy:evA N ⟨t,h⟩ y = .d (.v (.int k b))) (hz:evA N ⟨t,h⟩ z = .d (.v (.int k e))):eC P N ⟨some d, .call ⟨.builtin .max, #[x,y,z],at_⟩,ty,pos,aft,g⟩ ⟨t,h⟩ (.d (.v (.int k (max (max a b) e)))):=fun w F μ hh ρ st=>by
 have h1:=gU (by have:=st x (by simp [Op.operands,Call.operands]);rw [hx] at this;exact this)
 have h2:=gU (by have:=st y (by simp [Op.operands,Call.operands]);rw [hy] at this;exact this)
 have h3:=gU (by have:=st z (by simp [Op.operands,Call.operands]);rw [hz] at this;exact this)
 refine ⟨.int k (max (max a b) e),?_, .d _ _ (.v _ rfl)⟩
 have q1 : ∀ a b:Int,(if a<b then b else a)=max a b:=fun a b=>by split <;> omega
 simp [execOp,resolve,invoke,builtin,h1,h2,h3,Builtin.max_,Builtin.max2,q1]
inductive aD7:List AV→List AV→Prop
 | nil:aD7 [] []
 | same (a:AV) {as bs:List AV} (k:aD7 as bs):aD7 (a :: as) (a :: bs)
 | pre {cs ds:List DV} {as bs:List AV} (hp:Pre cs ds) (k:aD7 as bs):aD7 (.ref cs :: as) (.ref ds :: bs)
theorem aZh {w:World} {F:Nat→Prop} {μ:bJ} {hh:dG} {v:Value} {cs ds:List DV} (hp:Pre cs ds) (r:eP w F μ hh v (.ref cs)):eP w F μ hh v (.ref ds):=by
 have hp' : ∀ (j:Nat) (x:DV),ds[j]? = some x→cs[j]? = some x:=by
  cases aD1 (h:=hh) hp with | ref _ _ q=>exact q
 cases r with | ref b off cs g hF hg hr=>exact .ref b off ds g hF (fun j x hx=>hg j x (hp' j x hx)) fun j x hx=>hr j x (hp' j x hx)
theorem aD7.spec {as bs:List AV} (p:aD7 as bs):as.length=bs.length ∧ ∀ (i:Nat) b,bs[i]? = some b → ∃ a,as[i]? = some a∧(a=b ∨ ∃ cs ds,a = .ref cs∧b = .ref ds∧Pre cs ds):=by
 induction p with
 | nil=>exact ⟨rfl,fun i b h=>by simp at h⟩
 | same a k ih =>
  refine ⟨by simp [ih.1],fun i b h => ?_⟩
  cases i with
  | zero=>simp at h;exact ⟨a,by simp, .inl h⟩
  | succ i=>simpa using ih.2 i b (by simpa using h)
 | @pre cs ds as bs hp k ih =>
  refine ⟨by simp [ih.1],fun i b h => ?_⟩
  cases i with
  | zero=>simp at h;exact ⟨.ref cs,by simp, .inr ⟨cs,ds,rfl,h.symm,hp⟩⟩
  | succ i=>simpa using ih.2 i b (by simpa using h)
theorem tC {f:FuncId} {hin hout:List fA} {as as':List AV} {r:AV} (hF:FnC P f hin as hout r) (p:aD7 as' as:=by repeat (first | exact aD7.nil | apply aD7.same | (apply aD7.pre (by repeat (first | exact Pre.z _ | apply Pre.t))))):FnC P f hin as' hout r:=by
 refine ⟨hF.c,fun w F μ vs gl H hs hr=>hF.g w F μ vs gl H (hs.trans p.spec.1) fun i v a hv ha => ?_⟩
 obtain ⟨a',h1,rfl | ⟨cs,ds,rfl,rfl,hp⟩⟩:=p.spec.2 i a ha
 ·exact hr i v _ hv h1
 ·exact aZh hp (hr i v _ hv h1)
theorem pa {r:DV} (k:RA L P N ops is Q ⟨aA t d (.d r),h⟩) (ho:ops[i]? = some ⟨some d, .assign x,ty,pos,aft,none⟩:=by exact rfl) (hd:Nat.blt d N=true:=by exact rfl) (hx:evA N ⟨t,h⟩ x = .d r:=by exact rfl):RA L P N ops (i :: is) Q ⟨t,h⟩:=rp ho w0 hd (rV hx) k
theorem pm {r:DV} (k:RA L P N ops is Q ⟨aA t d (.d r),h⟩) (ho:ops[i]? = some ⟨some d, .move x,ty,pos,aft,none⟩:=by exact rfl) (hd:Nat.blt d N=true:=by exact rfl) (hx:evA N ⟨t,h⟩ x = .d r:=by exact rfl):RA L P N ops (i :: is) Q ⟨t,h⟩:=rp ho w0 hd (gZ hx) k
theorem tpm {r:DV} (k:RT P N ops is (fun l σ'=>K ((i, .pu) :: l) σ') ⟨aA t d (.d r),h⟩) (ho:ops[i]? = some ⟨some d, .move x,ty,pos,aft,none⟩:=by exact rfl) (hd:Nat.blt d N=true:=by exact rfl) (hx:evA N ⟨t,h⟩ x = .d r:=by exact rfl):RT P N ops (i :: is) K ⟨t,h⟩:=aWp ho w0 hd (gZ hx) k
theorem fr (hT:TOk P T) {s:TypeId} {q:Nat} {cs out:List DV} {ti fi:TI} {fs:Array Field} {fld:Field} (k:RA L P N ops is Q ⟨aA t d (.ref out),h⟩) (ho:ops[i]? = some ⟨some d, .fieldAddr s x q,ty,pos,aft,none⟩:=by exact rfl) (hd:Nat.blt d N=true:=by exact rfl) (hx:evA N ⟨t,h⟩ x = .ref cs:=by exact rfl) (h1:T s=some ti:=by exact rfl) (h2:ti.desc = .struct fs:=by exact rfl) (h3:fs[q]? = some fld:=by exact rfl) (h4:T fld.type=some fi:=by exact rfl) (h5:Nat.beq fi.size 0=false:=by exact rfl) (hp:Drp fld.offset cs out:=by repeat (first | exact Drp.z _ | apply Drp.d)):RA L P N ops (i :: is) Q ⟨t,h⟩:=rp ho w0 hd (vZ hT hx h1 h2 h3 h4 h5 hp) k
theorem pm1 {j u:Nat} {b:Bool} {r:DV} (k:RA L P N ops is Q ⟨aA t d (.d r),h⟩) (ho:ops[i]? = some ⟨some d, .move x,ty,pos,aft,some (j,b)⟩:=by exact rfl) (hj:(ops[j]?).bind (·.dst)=some u:=by exact rfl) (hu:Nat.blt u N=true:=by exact rfl) (hb:t u = .d (.v (.bool b)):=by exact rfl) (hd:Nat.blt d N=true:=by exact rfl) (hx:evA N ⟨t,h⟩ x = .d r:=by exact rfl):RA L P N ops (i :: is) Q ⟨t,h⟩:=rp ho (w1 hj hu hb) hd (gZ hx) k
theorem bGd {j u:Nat} {b:Bool} {r:List DV} (k:RA L P N ops is Q ⟨aA t d (.ref r),h⟩) (ho:ops[i]? = some ⟨some d, .move x,ty,pos,aft,some (j,b)⟩:=by exact rfl) (hj:(ops[j]?).bind (·.dst)=some u:=by exact rfl) (hu:Nat.blt u N=true:=by exact rfl) (hb:t u = .d (.v (.bool b)):=by exact rfl) (hd:Nat.blt d N=true:=by exact rfl) (hx:evA N ⟨t,h⟩ x = .ref r:=by exact rfl):RA L P N ops (i :: is) Q ⟨t,h⟩:=rp ho (w1 hj hu hb) hd (gZ hx) k
theorem k1 {j u:Nat} {want:Bool} (k:RA L P N ops is Q ⟨aA t d (.tup []),h⟩) (ho:ops[i]? = some ⟨some d,op,ty,pos,aft,some (j,want)⟩:=by exact rfl) (hj:(ops[j]?).bind (·.dst)=some u:=by exact rfl) (hu:Nat.blt u N=true:=by exact rfl) (hb:t u = .d (.v (.bool !want))∨t u = .tup []:=by first | exact .inl rfl | exact .inr rfl) (hd:Nat.blt d N=true:=by exact rfl):RA L P N ops (i :: is) Q ⟨t,h⟩:=rk ho hj hu hb hd k
theorem k2 {j u:Nat} {want:Bool} (k:RT P N ops is (fun l σ'=>K ((i, .pu) :: l) σ') ⟨aA t d (.tup []),h⟩) (ho:ops[i]? = some ⟨some d,op,ty,pos,aft,some (j,want)⟩:=by exact rfl) (hj:(ops[j]?).bind (·.dst)=some u:=by exact rfl) (hu:Nat.blt u N=true:=by exact rfl) (hb:t u = .d (.v (.bool !want))∨t u = .tup []:=by first | exact .inl rfl | exact .inr rfl) (hd:Nat.blt d N=true:=by exact rfl):RT P N ops (i :: is) K ⟨t,h⟩:=aT8 ho hj hu hb hd k
theorem nx {K':AS→Prop} (k:K' σ):RA L P N ops [] (zS K' Q) σ:=aX3 (aYc k)
theorem sk {K':AS→Prop} (k:K' σ):AW L P N .skip (zS K' Q) σ:=aR0 (aYc k)
end
end Go.Proofs.YtbliejnpjpnahaaGreatDoor
namespace Go.Proofs.YtbliejnpjpnahaaGreatDoor
open Go.RowKit
set_option linter.unusedVariables false
set_option maxRecDepth 100000
section
variable {E:Env} {F F':Nat→Prop} {μ μ':bJ} {h h':dG} {w:World}
theorem iA.recast (H:iA E F μ h w) (f1 : ∀ b,F b→F' b) (f2 : ∀ b,F' b→F b ∨ ∃ k f o,lv h k f=some o∧μ k f=some b) (born : ∀ k,h k ≠ .no→h' k ≠ .no)
  (old : ∀ k f o',h k ≠ .no→lv h' k f=some o' → ∃ o,lv h k f=some o∧o.cs.len=o'.cs.len∧o.sz=o'.sz∧o.ty=o'.ty∧μ' k f=μ k f)
  (g:Nat→Nat→Nat × Nat) (gs : ∀ k f o' b,lv h' k f=some o'→μ' k f=some b → ∃ o,lv h (g k f).1 (g k f).2=some o∧μ (g k f).1 (g k f).2=some b)
  (gi : ∀ k f k2 f2 o o2,lv h' k f=some o→lv h' k2 f2=some o2→g k f=g k2 f2→k=k2∧f=f2)
  (sep : ∀ k f o' b,lv h' k f=some o'→μ' k f=some b → ¬ F' b)
  (ob:Evo w F μ h w F' μ' h' → ∀ k f o',lv h' k f=some o'→wK w F' μ' h' (μ' k f) o'):iA E F' μ' h' w∧Evo w F μ h w F' μ' h':=by
 have V:Evo w F μ h w F' μ' h':=⟨fun _ _=>rfl,f1,born,fun k f o' hk ho'=>by
  obtain ⟨o,ho,a1,a2,a3,a4⟩:=old k f o' hk ho'
  exact ⟨o,ho, .inr ⟨a1,a2,a4,fun b cur hm hc=>⟨cur,by rw [← a3];exact hc,rfl⟩⟩⟩⟩
 refine ⟨⟨ob V,fun k f o k2 f2 o2 b l1 l2 m1 m2 => ?_,sep,fun k f o' b hl hm => ?_,fun b hb => ?_,fun b hb => ?_,H.ev.trans V,H.os,H.tape,H.output,H.size,H.keep⟩,V⟩
 ·obtain ⟨x1,y1,z1⟩:=gs _ _ _ _ l1 m1
  obtain ⟨x2,y2,z2⟩:=gs _ _ _ _ l2 m2
  have e:=H.inj _ _ _ _ _ _ b y1 y2 z1 z2
  exact gi _ _ _ _ _ _ l1 l2 (Prod.ext e.1 e.2)
 ·obtain ⟨x1,y1,z1⟩:=gs _ _ _ _ hl hm
  exact H.src _ _ _ b y1 z1
 ·rcases f2 b hb with h1 | ⟨k,f,o,h1,h2⟩
  ·exact H.fz b h1
  ·exact H.lt h1 h2
 ·rcases f2 b hb with h1 | ⟨k,f,o,h1,h2⟩
  ·exact H.fsrc b h1
  ·exact .inr (H.src _ _ _ b h1 h2)
end
section
variable {P:Program} {T:Tab} {L N:Nat} {ops:Array Oper} {E:Env} {K:List (Nat × Cls)→AS→Prop} {i:Nat} {is:List Nat} {t:Nat→AV} {h h':dG} {d:Tmp} {dst:Option Tmp} {op:Op} {ty:TypeId} {pos:String} {aft:Array Edge} {g:Option (Nat × Bool)} {Q:qL→AS→Prop} {σ:AS} {c:Code} {x y:Operand}
theorem lv4 {k kf k2 kn:Nat} {s:fA} {G':List jR} {p f:Nat} {o:jR} (hl:lv (upd (upd (upd (upd h k s) kf .dead) k2 .dead) kn (.live G')) p f=some o) :
  (p=kn∧G'[f]? = some o)∨(p≠kn∧p≠k2∧p≠kf∧p=k∧lv (upd h k s) k f=some o)∨(p≠kn∧p≠k2∧p≠kf∧p≠k∧lv h p f=some o):=by
 by_cases e1:p=kn
 ·subst e1;rw [cO] at hl;exact .inl ⟨rfl,hl⟩
 ·rw [eJ _ _ _ e1] at hl
  by_cases e2:p=k2
  ·subst e2;simp [lv,bR] at hl
  ·rw [eJ _ _ _ e2] at hl
   by_cases e3:p=kf
   ·subst e3;simp [lv,bR] at hl
   ·rw [eJ _ _ _ e3] at hl
    by_cases e4:p=k
    ·subst e4;exact .inr (.inl ⟨e1,e2,e3,rfl,hl⟩)
    ·rw [eJ _ _ _ e4] at hl;exact .inr (.inr ⟨e1,e2,e3,e4,hl⟩)
theorem aLt {k kf k2 kn m:Nat} {bt:TypeId} {sz:Nat} {R R':List (List AV)} {G G':List jR} {o2:jR} (hk:h k = .live [⟨bt,sz, .av R⟩]) (hf:h kf = .live G) (h2:h k2 = .live [o2]) (hn:h kn = .no) (hkf:k≠kf) (hk2:k≠k2) (hkk:kf≠k2)
  (hG : ∀ (f:Nat) o,G'[f]? = some o→(f=m∧o=o2)∨(f≠m∧G[f]? = some o)) (hl:R'.length=R.length)
  (hR : ∀ (i:Nat) cells',R'[i]? = some cells' → ∃ cells,R[i]? = some cells∧cells'.length=cells.length ∧ ∀ (j:Nat) c',cells'[j]? = some c' → ∃ c,cells[j]? = some c∧(c=c'∨(∃ f n,f≠m∧c = .own kf f n∧c' = .own kn f n) ∨ ∃ n,c = .own k2 0 n∧c' = .own kn m n)) :
  lJ L N ⟨t,h⟩ ⟨t,upd (upd (upd (upd h k (.live [⟨bt,sz, .av R'⟩])) kf .dead) k2 .dead) kn (.live G')⟩:=by
 rintro E a w ⟨F, μ,A⟩
 have H:=A.H
 dsimp only at H
 have n1:kn≠k:=fun e=>by rw [e,hk] at hn;cases hn
 have n2:kn≠kf:=fun e=>by rw [e,hf] at hn;cases hn
 have n3:kn≠k2:=fun e=>by rw [e,h2] at hn;cases hn
 have lk : ∀ {p f o},lv (upd h k (.live [⟨bt,sz, .av R'⟩])) k f=some o→p=k→f=0∧o=⟨bt,sz, .av R'⟩:=fun {p f o} hl _=>by
  rw [cO] at hl
  cases f with
  | zero=>simp at hl;exact ⟨rfl,hl.symm⟩
  | succ f=>simp at hl
 have hGs : ∀ {f:Nat} {o},G'[f]? = some o → ∃ o',lv h (if f=m then k2 else kf) (if f=m then 0 else f)=some o'∧o'=o:=fun {f o} hg=>by
  rcases hG f o hg with ⟨e,e2⟩ | ⟨e,e2⟩
  ·rw [if_pos e,if_pos e];exact ⟨o2,qG h2,e2.symm⟩
  ·rw [if_neg e,if_neg e];exact ⟨o,(iX hf f).trans e2,rfl⟩
 let μ':bJ:=fun p f=>if p=kn then μ (if f=m then k2 else kf) (if f=m then 0 else f) else μ p f
 have mkn : ∀ f, μ' kn f=μ (if f=m then k2 else kf) (if f=m then 0 else f):=fun f=>if_pos rfl
 have mne : ∀ {p} f,p≠kn→μ' p f=μ p f:=fun f e=>if_neg e
 have bornn : ∀ p,h p ≠ .no→upd (upd (upd (upd h k (.live [⟨bt,sz, .av R'⟩])) kf .dead) k2 .dead) kn (.live G') p ≠ .no:=fun p hp=>by
  by_cases e1:p=kn
  ·rw [e1,bR];intro e;cases e
  ·rw [dE _ _ e1]
   by_cases e2:p=k2
   ·rw [e2,bR];intro e;cases e
   ·rw [dE _ _ e2]
    by_cases e3:p=kf
    ·rw [e3,bR];intro e;cases e
    ·rw [dE _ _ e3]
     by_cases e4:p=k
     ·rw [e4,bR];intro e;cases e
     ·rw [dE _ _ e4];exact hp
 have bkn:upd (upd (upd (upd h k (.live [⟨bt,sz, .av R'⟩])) kf .dead) k2 .dead) kn (.live G') kn ≠ .no:=by rw [bR];intro e;cases e
 obtain ⟨H',V⟩:=H.recast (F':=F) (μ':=μ') (h':=upd (upd (upd (upd h k (.live [⟨bt,sz, .av R'⟩])) kf .dead) k2 .dead) kn (.live G')) (fun _ hb=>hb) (fun _ hb => .inl hb) bornn
  (fun p f o' hp ho'=>by
   rcases lv4 ho' with ⟨e,_⟩ | ⟨e1,_,_,e,hl⟩ | ⟨e1,_,_,_,hl⟩
   ·rw [e] at hp;exact absurd hn hp
   ·subst e
    obtain ⟨rfl,rfl⟩:=lk hl rfl
    exact ⟨_,qG hk,by simp [aX.len, *],rfl,rfl,mne _ e1⟩
   ·exact ⟨o',hl,rfl,rfl,rfl,mne _ e1⟩)
  (fun p f=>if p=kn then (if f=m then k2 else kf,if f=m then 0 else f) else (p,f))
  (fun p f o' b ho' hm=>by
   rcases lv4 ho' with ⟨e,hl⟩ | ⟨e1,_,_,e,hl⟩ | ⟨e1,_,_,_,hl⟩
   ·subst e
    rw [mkn] at hm
    obtain ⟨o,ho,_⟩:=hGs hl
    simp only [if_pos]
    exact ⟨o,ho,hm⟩
   ·subst e
    obtain ⟨rfl,rfl⟩:=lk hl rfl
    rw [mne _ e1] at hm
    simp only [if_neg e1]
    exact ⟨_,qG hk,hm⟩
   ·rw [mne _ e1] at hm
    simp only [if_neg e1]
    exact ⟨o',hl,hm⟩)
  (fun p f p2 f2 o oo l1 l2=>by
   have d1:=lv4 l1
   have d2:=lv4 l2
   have c1:p≠kn→p≠k2∧p≠kf:=fun e=>by rcases d1 with ⟨e',_⟩ | ⟨_,a,b,_⟩ | ⟨_,a,b,_⟩ <;> first | exact absurd e' e | exact ⟨a,b⟩
   have c2:p2≠kn→p2≠k2∧p2≠kf:=fun e=>by rcases d2 with ⟨e',_⟩ | ⟨_,a,b,_⟩ | ⟨_,a,b,_⟩ <;> first | exact absurd e' e | exact ⟨a,b⟩
   intro e
   by_cases q1:p=kn <;> by_cases q2:p2=kn
   ·rw [if_pos q1,if_pos q2] at e
    refine ⟨q1.trans q2.symm,?_⟩
    by_cases r1:f=m <;> by_cases r2:f2=m
    ·rw [r1,r2]
    ·rw [if_pos r1,if_neg r2] at e;exact absurd (Prod.ext_iff.1 e).1.symm hkk
    ·rw [if_neg r1,if_pos r2] at e;exact absurd (Prod.ext_iff.1 e).1 hkk
    ·simp only [if_neg r1,if_neg r2] at e;exact (Prod.ext_iff.1 e).2
   ·rw [if_pos q1,if_neg q2] at e
    have:=(Prod.ext_iff.1 e).1
    simp only at this
    obtain ⟨a,b⟩:=c2 q2
    split at this
    ·exact absurd this.symm a
    ·exact absurd this.symm b
   ·rw [if_neg q1,if_pos q2] at e
    have:=(Prod.ext_iff.1 e).1
    simp only at this
    obtain ⟨a,b⟩:=c1 q1
    split at this
    ·exact absurd this a
    ·exact absurd this b
   ·rw [if_neg q1,if_neg q2] at e
    exact ⟨(Prod.ext_iff.1 e).1,(Prod.ext_iff.1 e).2⟩)
  (fun p f o' b ho' hm=>by
   rcases lv4 ho' with ⟨e,hl⟩ | ⟨e1,_,_,e,hl⟩ | ⟨e1,_,_,_,hl⟩
   ·subst e
    rw [mkn] at hm
    obtain ⟨o,ho,_⟩:=hGs hl
    exact H.sep _ _ _ b ho hm
   ·subst e
    obtain ⟨rfl,rfl⟩:=lk hl rfl
    rw [mne _ e1] at hm
    exact H.sep _ _ _ b (qG hk) hm
   ·rw [mne _ e1] at hm
    exact H.sep _ _ _ b hl hm)
  (fun V p f o' ho'=>by
   rcases lv4 ho' with ⟨e,hl⟩ | ⟨e1,_,_,e,hl⟩ | ⟨e1,_,_,_,hl⟩
   ·subst e
    rw [mkn]
    obtain ⟨o,ho,rfl⟩:=hGs hl
    exact (H.ob _ _ _ ho).evo V fun _ _=>rfl
   ·subst e
    obtain ⟨rfl,rfl⟩:=lk hl rfl
    rw [mne _ e1]
    rcases H.ob p 0 _ (qG hk) with ⟨q1,q2⟩ | ⟨b,cur,q1,q2,q3⟩
    ·exact .inl ⟨q1,by simpa [aX.len, *] using q2⟩
    ·refine .inr ⟨b,cur,q1,q2,fun i cells' hi => ?_⟩
     obtain ⟨cells,r1,r2,r3⟩:=hR i cells' hi
     obtain ⟨s1,s2⟩:=q3 i cells r1
     refine ⟨r2.trans s1,fun j c' hj => ?_⟩
     obtain ⟨c,hc,hcc⟩:=r3 j c' hj
     obtain ⟨u,hu,hr⟩:=s2 j c hc
     refine ⟨u,hu,?_⟩
     rcases hcc with rfl | ⟨f,n,hfm,rfl,rfl⟩ | ⟨n,rfl,rfl⟩
     ·exact hr.evo V
     ·cases hr with | own _ _ _ _ g1 gb hv =>
      refine .own _ _ _ _ g1 bkn fun o ho => ?_
      rw [cO] at ho
      rcases hG f o ho with ⟨e,_⟩ | ⟨_,e⟩
      ·exact absurd e hfm
      ·rw [mkn,if_neg hfm,if_neg hfm]
       exact hv o ((iX hf f).trans e)
     ·cases hr with | own _ _ _ _ g1 gb hv =>
      refine .own _ _ _ _ g1 bkn fun o ho => ?_
      rw [cO] at ho
      rcases hG m o ho with ⟨_,e⟩ | ⟨e,_⟩
      ·rw [mkn,if_pos rfl,if_pos rfl,e]
       exact hv o2 (qG h2)
      ·exact absurd rfl e
   ·rw [mne _ e1]
    exact (H.ob _ _ _ hl).evo V fun _ _=>rfl)
 exact ⟨F, μ',H',A.df,A.sz,fun d hd=>(A.tm d hd).evo V,A.lim⟩
inductive aRs (kf i:Nat):List AV→List DV→Prop
 | nil:aRs kf i [] []
 | v {x:Value} {cs:List AV} {ds:List DV} (q:aRs kf i cs ds):aRs kf i (.d (.v x) :: cs) (.v x :: ds)
 | sl {n:Nat} {es:List (List DV)} {cs:List AV} {ds:List DV} (hn:n=es.length) (q:aRs kf i cs ds):aRs kf i (.own kf i n :: cs) (.sl es :: ds)
theorem aRs.eq_ {kf i:Nat} {cs:List AV} {ds:List DV} (q:aRs kf i cs ds):cs=kE kf i ds:=by
 induction q with
 | nil=>rfl
 | v q ih=>simp [kE,ih]
 | sl hn q ih=>simp [kE,ih,hn]
theorem aJm {α:Type} {kf kn k2 m i:Nat} {c:α→List DV} {a:α} (hi:i≠m) : ∀ (j:Nat) c',(kE kn i (c a))[j]? = some c' → ∃ c0,(kE kf i (c a))[j]? = some c0∧(c0=c'∨(∃ f n,f≠m∧c0 = .own kf f n∧c' = .own kn f n) ∨ ∃ n,c0 = .own k2 0 n∧c' = .own kn m n):=fun j c' hj=>by
 rw [pS] at hj
 obtain ⟨x,hx,rfl⟩:=Option.map_eq_some_iff.1 hj
 refine ⟨aQv kf i x,by rw [pS,hx];rfl,?_⟩
 cases x with
 | v x=>exact .inl rfl
 | sl es=>exact .inr (.inl ⟨i,es.length,hi,rfl,rfl⟩)
 | mp f=>exact .inl rfl
theorem aP1 {α:Type} {kf kn k2 m:Nat} {c:α→List DV} {a:α} : ∀ (j:Nat) c',(kE kn m (c a))[j]? = some c' → ∃ c0,(kE k2 0 (c a))[j]? = some c0∧(c0=c'∨(∃ f n,f≠m∧c0 = .own kf f n∧c' = .own kn f n) ∨ ∃ n,c0 = .own k2 0 n∧c' = .own kn m n):=fun j c' hj=>by
 rw [pS] at hj
 obtain ⟨x,hx,rfl⟩:=Option.map_eq_some_iff.1 hj
 refine ⟨aQv k2 0 x,by rw [pS,hx];rfl,?_⟩
 cases x with
 | v x=>exact .inl rfl
 | sl es=>exact .inr (.inr ⟨es.length,rfl,rfl⟩)
 | mp f=>exact .inl rfl
theorem aP0 {α:Type} (kn:Nat) {k kf k2:Nat} {bt ft ft2:TypeId} {sz fz fz2:Nat} {c:α→List DV} {xs:List α} (a:α) {cs:List AV} {es2:List (List DV)} (hk:h k = .live [⟨bt,sz, .av (tM kf c xs++[cs])⟩]) (hf:h kf = .live (aJl ft fz c xs)) (h2:h k2 = .live [⟨ft2,fz2, .data es2⟩]) (hn:h kn = .no)
  (hkf:Nat.beq k kf=false) (hk2:Nat.beq k k2=false) (hkk:Nat.beq kf k2=false) (hcs:aRs k2 0 cs (c a)) (hes:es2=aPk (c a)) (hft:ft2=ft) (hfz:fz2=fz) :
  lJ L N ⟨t,h⟩ ⟨t,upd (upd (upd (upd h k (.live [⟨bt,sz, .av (tM kn c (xs++[a]))⟩])) kf .dead) k2 .dead) kn (.live (aJl ft fz c (xs++[a])))⟩:=by
 subst hft hfz hes
 rw [hcs.eq_] at hk
 have split : ∀ (i:Nat) (b:α),(xs++[a])[i]? = some b→(i=xs.length∧b=a)∨(i≠xs.length∧xs[i]? = some b):=fun i b hb=>by
  rcases Nat.lt_or_ge i xs.length with hlt | hge
  ·rw [List.getElem?_append_left hlt] at hb;exact .inr ⟨by omega,hb⟩
  ·rw [List.getElem?_append_right hge] at hb
   cases e:i-xs.length with
   | zero=>rw [e] at hb;simp at hb;exact .inl ⟨by omega,hb.symm⟩
   | succ q=>rw [e] at hb;simp at hb
 refine aLt (m:=xs.length) hk hf h2 hn (Nat.ne_of_beq_eq_false hkf) (Nat.ne_of_beq_eq_false hk2) (Nat.ne_of_beq_eq_false hkk) (fun f o ho => ?_) (by simp [pU]) fun i cells' hi => ?_
 ·rw [aDo] at ho
  obtain ⟨b,hb,rfl⟩:=Option.map_eq_some_iff.1 ho
  rcases split f b hb with ⟨e,rfl⟩ | ⟨e,hb⟩
  ·exact .inl ⟨e,rfl⟩
  ·exact .inr ⟨e,by rw [aDo,hb];rfl⟩
 ·rw [uA] at hi
  obtain ⟨b,hb,rfl⟩:=Option.map_eq_some_iff.1 hi
  rcases split i b hb with ⟨rfl,rfl⟩ | ⟨e,hb⟩
  ·exact ⟨kE k2 0 (c b),by rw [List.getElem?_append_right (by rw [pU];exact Nat.le_refl _),pU];simp,by rw [pT,pT],aP1⟩
  ·have hlt:=(List.getElem?_eq_some_iff.1 hb).1
   exact ⟨kE kf i (c b),by rw [List.getElem?_append_left (by rw [pU];exact hlt),uA,hb];rfl,by rw [pT,pT],aJm e⟩
end
end Go.Proofs.YtbliejnpjpnahaaGreatDoor
namespace Go.Proofs.YtbliejnpjpnahaaGreatDoor
open Go.RowKit
set_option linter.unusedVariables false
set_option maxRecDepth 100000
section
variable {E:Env} {F F':Nat→Prop} {μ μ':bJ} {h h':dG} {w:World}
theorem lv2 {k kf:Nat} {o0:jR} {s:fA} {p f:Nat} {o:jR} (hne:k≠kf) (hl:lv (upd (upd h k (.live [o0])) kf s) p f=some o):(p=kf∧lv (upd (upd h k (.live [o0])) kf s) kf f=some o)∨(p≠kf∧p=k∧f=0∧o=o0)∨(p≠kf∧p≠k∧lv h p f=some o):=by
 by_cases e1:p=kf
 ·subst e1;exact .inl ⟨rfl,hl⟩
 ·rw [eJ _ _ _ e1] at hl
  by_cases e2:p=k
  ·subst e2
   rw [cO] at hl
   cases f with
   | zero=>simp at hl;exact .inr (.inl ⟨e1,rfl,rfl,hl.symm⟩)
   | succ f=>simp at hl
  ·rw [eJ _ _ _ e2] at hl;exact .inr (.inr ⟨e1,e2,hl⟩)
theorem bDc {k kf:Nat} {s s':fA} (h1:s ≠ .no) (h2:s' ≠ .no) : ∀ p,h p ≠ .no→upd (upd h k s) kf s' p ≠ .no:=fun p hp=>by
 by_cases e1:p=kf
 ·rw [e1,bR];exact h2
 ·rw [dE _ _ e1]
  by_cases e2:p=k
  ·rw [e2,bR];exact h1
  ·rw [dE _ _ e2];exact hp
inductive aYf:List AV→List DV→Prop
 | nil:aYf [] []
 | v {x:Value} {cs:List AV} {ds:List DV} (q:aYf cs ds):aYf (.d (.v x) :: cs) (.v x :: ds)
 | nl {cs:List AV} {ds:List DV} (q:aYf cs ds):aYf (.d (.v (.slice none 0 0)) :: cs) (.sl [] :: ds)
theorem aYf.spec {cs:List AV} {ds:List DV} (q:aYf cs ds):cs.length=ds.length∧aPk ds=[] ∧ ∀ (j:Nat) x,ds[j]? = some x→(∃ v,x = .v v∧cs[j]? = some (.d (.v v)))∨(x = .sl []∧cs[j]? = some (.d (.v (.slice none 0 0)))):=by
 induction q with
 | nil=>exact ⟨rfl,rfl,fun j x h=>by simp at h⟩
 | v q ih =>
  refine ⟨by simp [ih.1],by simpa [aPk] using ih.2.1,fun j x h => ?_⟩
  cases j with
  | zero=>simp at h;exact .inl ⟨_,h.symm,rfl⟩
  | succ j=>exact ih.2.2 j x (by simpa using h)
 | nl q ih =>
  refine ⟨by simp [ih.1],rfl,fun j x h => ?_⟩
  cases j with
  | zero=>simp at h;exact .inr ⟨h.symm,rfl⟩
  | succ j=>exact ih.2.2 j x (by simpa using h)
end
section
variable {P:Program} {T:Tab} {L N:Nat} {ops:Array Oper} {E:Env} {K:List (Nat × Cls)→AS→Prop} {i:Nat} {is:List Nat} {t:Nat→AV} {h h':dG} {d:Tmp} {dst:Option Tmp} {op:Op} {ty:TypeId} {pos:String} {aft:Array Edge} {g:Option (Nat × Bool)} {Q:qL→AS→Prop} {σ:AS} {x y:Operand}
theorem cT {α:Type} (kf:Nat) {k:Nat} {bt:TypeId} {sz:Nat} (ft:TypeId) (fz:Nat) (c:α→List DV) (hk:h k = .live [⟨bt,sz, .data []⟩]) (hf:h kf = .no) :
  lJ L N ⟨t,h⟩ ⟨t,upd (upd h k (.live [⟨bt,sz, .av (tM kf c [])⟩])) kf (.live (aJl ft fz c []))⟩:=by
 rintro E a w ⟨F, μ,A⟩
 have H:=A.H
 dsimp only at H
 have hne:k≠kf:=fun e=>by rw [← e,hk] at hf;cases hf
 have look : ∀ {p f o},lv (upd (upd h k (.live [⟨bt,sz, .av (tM kf c [])⟩])) kf (.live (aJl ft fz c []))) p f=some o→(p≠kf∧p=k∧f=0∧o=⟨bt,sz, .av (tM kf c [])⟩)∨(p≠kf∧p≠k∧lv h p f=some o):=fun {p f o} hl=>by
  rcases lv2 hne hl with ⟨rfl,hl⟩ | q | q
  ·rw [cO,aDo] at hl;simp at hl
  ·exact .inl q
  ·exact .inr q
 obtain ⟨H',V⟩:=H.recast (F':=F) (μ':=μ) (h':=upd (upd h k (.live [⟨bt,sz, .av (tM kf c [])⟩])) kf (.live (aJl ft fz c []))) (fun _ hb=>hb) (fun _ hb => .inl hb) (bDc (by simp) (by simp))
  (fun p f o' hp ho'=>by
   rcases look ho' with ⟨e1,rfl,rfl,rfl⟩ | ⟨e1,e2,hl⟩
   ·exact ⟨_,qG hk,by simp [aX.len,pU],rfl,rfl,rfl⟩
   ·exact ⟨o',hl,rfl,rfl,rfl,rfl⟩)
  (fun p f=>(p,f))
  (fun p f o' b ho' hm=>by
   rcases look ho' with ⟨e1,rfl,rfl,rfl⟩ | ⟨e1,e2,hl⟩
   ·exact ⟨_,qG hk,hm⟩
   ·exact ⟨o',hl,hm⟩)
  (fun p f p2 f2 o oo l1 l2 e=>⟨(Prod.ext_iff.1 e).1,(Prod.ext_iff.1 e).2⟩)
  (fun p f o' b ho' hm=>by
   rcases look ho' with ⟨e1,rfl,rfl,rfl⟩ | ⟨e1,e2,hl⟩
   ·exact H.sep _ _ _ b (qG hk) hm
   ·exact H.sep _ _ _ b hl hm)
  (fun V p f o' ho'=>by
   rcases look ho' with ⟨e1,rfl,rfl,rfl⟩ | ⟨e1,e2,hl⟩
   ·rcases H.ob p 0 _ (qG hk) with ⟨q1,q2⟩ | ⟨b,cur,q1,q2,q3⟩
    ·exact .inl ⟨q1,by simp [aX.len,pU]⟩
    ·exact .inr ⟨b,cur,q1,q2,fun i cells hi=>by simp [aX.get,uA] at hi⟩
   ·exact (H.ob _ _ _ hl).evo V fun _ _=>rfl)
 exact ⟨F, μ,H',A.df,A.sz,fun d hd=>(A.tm d hd).evo V,A.lim⟩
end
end Go.Proofs.YtbliejnpjpnahaaGreatDoor
