/- Texts of this claim, one behind the other (merged by a program of mine). -/
import Derived.Laws.Concat
import Derived.Laws.Strings
import Derived.Test.YtbliejnpjpnahaaGreatDoorGCz2
set_option linter.unusedSimpArgs false
set_option linter.unusedVariables false
namespace Go.Proofs.YtbliejnpjpnahaaGreatDoor
open Go.RowKit
set_option linter.unusedVariables false
set_option maxRecDepth 100000
inductive bAk:aX→Nat→List AV→aX→Prop
 | box (c c':List AV):bAk (.av [c]) 0 c' (.av [c'])
 | data (es:List (List DV)) (i:Nat) {c':List AV} {e':List DV} (h:aC6 c' e'):bAk (.data es) i c' (.data (es.set i e'))
 | av (es:List (List AV)) (i:Nat) (c':List AV):bAk (.av es) i c' (.av (es.set i c'))
theorem bAk.spec {c c':aX} {i:Nat} {x:List AV} (h:bAk c i x c'):c'.len=c.len∧(i<c.len→c'.get i=some x) ∧ ∀ i':Nat,i'≠i→c'.get i'=c.get i':=by
 cases h with
 | box c c'=>refine ⟨rfl,fun _=>rfl,fun i' hi => ?_⟩;cases i' with
  | zero=>exact absurd rfl hi
  | succ i=>rfl
 | data es i h =>
  refine ⟨by simp [aX.len],fun hi => ?_,fun i' hi => ?_⟩
  ·simp only [aX.get];rw [List.getElem?_set_self (by simpa [aX.len] using hi),h.eq_];rfl
  ·simp only [aX.get];rw [List.getElem?_set_ne (Ne.symm hi)]
 | av es i c' =>
  refine ⟨by simp [aX.len],fun hi => ?_,fun i' hi => ?_⟩
  ·simp only [aX.get];rw [List.getElem?_set_self (by simpa [aX.len] using hi)]
  ·simp only [aX.get];rw [List.getElem?_set_ne (Ne.symm hi)]
inductive aYg:List jR→Nat→jR→List jR→Prop
 | one (o o':jR):aYg [o] 0 o' [o']
 | gen (l:List jR) (f:Nat) (o':jR):aYg l f o' (l.set f o')
theorem aYg.eq_ {l l':List jR} {f:Nat} {o:jR} (h:aYg l f o l'):l'=l.set f o:=by cases h <;> rfl
theorem aTb {α:Type} (cur vs:List α) (off:Nat) (hf:off+vs.length≤cur.length) (q:Nat):(cur.take off++vs++cur.drop (off+vs.length))[q]? = if off≤q∧q<off+vs.length then vs[q-off]? else cur[q]? := by
 have h1:(cur.take off).length=off:=by simp;omega
 by_cases a:q<off
 ·rw [if_neg (by omega),List.append_assoc,List.getElem?_append_left (by omega),List.getElem?_take,if_pos a]
 ·by_cases b:q<off+vs.length
  ·rw [if_pos ⟨by omega,b⟩,List.append_assoc,List.getElem?_append_right (by omega),h1,List.getElem?_append_left (by omega)]
  ·rw [if_neg (by omega),List.getElem?_append_right (by simp;omega),List.getElem?_drop]
   congr 1
   simp
   omega
theorem bB2 {i i' j j' sz n:Nat} (hne:i'≠i) (h1:j'<sz) (h2:j+n≤sz) : ¬ (i*sz+j≤i'*sz+j'∧i'*sz+j'<i*sz+j+n):=by
 rcases Nat.lt_or_gt_of_ne hne with h | h
 ·have:(i'+1)*sz≤i*sz:=Nat.mul_le_mul_right _ h
  rw [Nat.add_mul] at this
  omega
 ·have:(i+1)*sz≤i'*sz:=Nat.mul_le_mul_right _ h
  rw [Nat.add_mul] at this
  omega
section
variable {P:Program} {T:Tab} {N:Nat} {ops:Array Oper} {E:Env} {K:List (Nat × Cls)→AS→Prop} {i:Nat} {is:List Nat} {t:Nat→AV} {h h':dG} {d:Tmp} {dst:Option Tmp} {op:Op} {ty:TypeId} {pos:String} {aft:Array Edge} {g:Option (Nat × Bool)}
theorem aPw (hT:TOk P T) {bt:TypeId} {x y:Operand} {k f n ix j:Nat} {l l':List jR} {o:jR} {cells cs cells':List AV} {cc':aX} {ti:TI} (hx:evA N ⟨t,h⟩ x = .ptr k f n ix j) (hy:aAc (evA N ⟨t,h⟩ y)=cs) (ho:okL cs=true) (h1:T bt=some ti)
  (hl:Nat.beq cs.length ti.size=true) (hpos:Nat.blt 0 ti.size=true) (hk:h k = .live l) (hf:l[f]? = some o) (hn:o.cs.len=n) (hi:o.cs.get ix=some cells) (hs:Spl j cs cells cells') (hc:bAk o.cs ix cells' cc') (hl':aYg l f ⟨o.ty,o.sz,cc'⟩ l') :
  cQ P N ⟨dst, .store bt x y,ty,pos,aft,g⟩ ⟨t,h⟩ .dead (upd h k (.live l')):=fun E F μ w ρ H st=>by
 have hr:=st x (by simp [Op.operands])
 have hr2:=st y (by simp [Op.operands])
 rw [hx] at hr
 obtain ⟨v1,v2,v3⟩:=hr2.cells_ hy ho
 have hlo:lv h k f=some o:=(iX hk f).trans hf
 obtain ⟨b,cur,hv,hm,hb,hlen,hcs⟩:=aCu H hr hlo hn hi
 obtain ⟨s1,s2,s3,s4⟩:=hs.spec
 obtain ⟨c1,c2,c3⟩:=hc.spec
 have hsz:cs.length=ti.size:=Nat.eq_of_beq_eq_true hl
 have hp:=oB hpos
 have hix:=aCf hi
 have hfit:ix*o.sz+j+cs.length≤cur.size:=by
  obtain ⟨u,hu,_⟩:=hcs (j+cs.length-1) _ (List.getElem?_eq_getElem (show j+cs.length-1<cells.length by omega))
  have:=(Array.getElem?_eq_some_iff.1 hu).1
  omega
 have hvl:(ρ y).cells.toList.length=cs.length:=by simpa using v1
 have hst:=run_storeCells_at P b (ix*o.sz+j) o.ty (ρ y).cells.toList 0 cur w hb (by omega) (fun v hv=>v3 v (by simpa using hv))
 simp only [Nat.add_zero] at hst
 have e:(execOp ρ ⟨dst, .store bt x y,ty,pos,aft,g⟩).run P w = .ok .skip (w.setRow b (cur.toList.take (ix*o.sz+j)++(ρ y).cells.toList++cur.toList.drop (ix*o.sz+j+(ρ y).cells.toList.length)).toArray):=by
  simp only [execOp,hv,Instr.storeAt,Instr.sureAddr,storeVar]
  simp [Sem.run_bind,fV hT h1,v1,hsz]
  have hst':=hst
  simp only [Array.length_toList,v1,hsz] at hst'
  rw [hst']
  simp
 rw [e]
 have hmid : ∀ q,((cur.toList.take (ix*o.sz+j)++(ρ y).cells.toList++cur.toList.drop (ix*o.sz+j+(ρ y).cells.toList.length)).toArray)[q]? = if ix*o.sz+j≤q∧q<ix*o.sz+j+cs.length then (ρ y).cells[q-(ix*o.sz+j)]? else cur[q]? := fun q=>by
  rw [List.getElem?_toArray,aTb _ _ _ (by rw [hvl];simpa using hfit),hvl,Array.getElem?_toList,Array.getElem?_toList]
 have hsize:(cur.toList.take (ix*o.sz+j)++(ρ y).cells.toList++cur.toList.drop (ix*o.sz+j+(ρ y).cells.toList.length)).toArray.size=cur.size:=by
  simp only [List.size_toArray,List.length_append,List.length_take,List.length_drop,hvl,Array.length_toList];omega
 obtain ⟨H',V⟩:=H.put (w':=w.setRow b (cur.toList.take (ix*o.sz+j)++(ρ y).cells.toList++cur.toList.drop (ix*o.sz+j+(ρ y).cells.toList.length)).toArray) hk hf (o':=⟨o.ty,o.sz,cc'⟩) b
  (cur.toList.take (ix*o.sz+j)++(ρ y).cells.toList++cur.toList.drop (ix*o.sz+j+(ρ y).cells.toList.length)).toArray (by simp) rfl rfl rfl (fun b' _ hne=>setRow_other w b b' _ (fun e=>hne (by rw [hm,e]))) (.inl hm) (by simp;exact (Array.getElem?_eq_some_iff.1 hb).1)
  (setRow_heap w b cur _ o.ty _ hb) (.inr ⟨c1.symm,rfl,rfl,hm,fun cur2 hc2=>by rw [hb] at hc2;injection hc2 with hc2;injection hc2 with hc2;rw [← hc2];exact hsize⟩) (fun i' cl hcl=>by
   obtain ⟨b0,cur0,hm0,hb0,hat⟩:=aKs H hlo (by omega)
   have e0:b0=b:=by rw [hm] at hm0;injection hm0 with hm0;exact hm0.symm
   subst e0
   have e1:cur0=cur:=by rw [hb] at hb0;injection hb0 with hb0;injection hb0 with hb0;exact hb0.symm
   subst e1
   by_cases e:i'=ix
   ·subst e
    rw [c2 hix] at hcl
    injection hcl with hcl
    subst hcl
    refine ⟨s1.trans hlen,fun j' a hj' => ?_⟩
    rw [hmid]
    by_cases hr:j≤j'∧j'<j+cs.length
    ·rw [if_pos (show i'*o.sz+j≤i'*o.sz+j'∧i'*o.sz+j'<i'*o.sz+j+cs.length by omega)]
     have:=s4 (j'-j) (by omega)
     rw [show j+(j'-j)=j' by omega,hj'] at this
     obtain ⟨u,hu,hru⟩:=v2 _ a this.symm
     exact ⟨u,by rw [show i'*o.sz+j'-(i'*o.sz+j)=j'-j by omega];exact hu,hru⟩
    ·rw [if_neg (show ¬ (i'*o.sz+j≤i'*o.sz+j'∧i'*o.sz+j'<i'*o.sz+j+cs.length) by omega)]
     rw [s3 j' (by omega)] at hj'
     exact hcs j' a hj'
   ·rw [c3 i' e] at hcl
    obtain ⟨a1,a2⟩:=hat i' cl hcl
    refine ⟨a1,fun j' a hj' => ?_⟩
    have hjl:j'<cl.length:=(List.getElem?_eq_some_iff.1 hj').1
    rw [hmid,if_neg (bB2 e (show j'<o.sz by omega) (by omega))]
    exact a2 j' a hj')
 rw [hl'.eq_]
 exact ⟨F,_,H',V, .dead _⟩
def aLz (w:World) (F:Nat→Prop) (μ:bJ) (h:dG) (v:Value) (sz:Nat) (xc:aX):Prop :=
 ∃ A c,v = .slice A xc.len c∧(xc.len=0 ∨ ∃ b off,A=some ⟨b,off,none⟩ ∧ ∀ i cells,xc.get i=some cells→cells.length=sz ∧ ∀ (j:Nat) a,cells[j]? = some a → ∃ u,w.cell? ⟨b,off+i*sz+j,none⟩=some u∧u.oneCell'=true∧eP w F μ h u a)
theorem aPc {F:Nat→Prop} {μ:bJ} {w:World} {v:Value} {sz:Nat} {es:List (List DV)} (r:eP w F μ h v (.d (.sl es))) (hs : ∀ e ∈ es,e.length=sz):aLz w F μ h v sz (.data es):=by
 cases r with | d _ _ hd =>
 cases hd with
 | nil=>exact ⟨none,0,rfl, .inl rfl⟩
 | emp A c hm=>exact ⟨A,c,rfl, .inl rfl⟩
 | sl b off c sz' es gg hF hc hm hz hg hr =>
  refine ⟨_,c,rfl, .inr ⟨b,off,rfl,fun i cells hi => ?_⟩⟩
  simp only [aX.get] at hi
  obtain ⟨e,he,rfl⟩:=Option.map_eq_some_iff.1 hi
  have h1:=hs e (List.mem_of_getElem? he)
  have h2:sz'=sz:=(hz i e he).symm.trans h1
  subst h2
  refine ⟨by rw [List.length_map];exact h1,fun j a hj => ?_⟩
  rw [List.getElem?_map] at hj
  obtain ⟨x,hx,rfl⟩:=Option.map_eq_some_iff.1 hj
  exact ⟨gg i j,hg i e j x he hx,(hr i e j x he hx).one_, .d _ _ (hr i e j x he hx)⟩
def aX.oks:aX→Prop
 | .data _=>True
 | .av es => ∀ e ∈ es,okL e=true
theorem aZe {c:aX} (hf:c.oks) {i:Nat} {cells:List AV} (hi:c.get i=some cells) {j:Nat} {a:AV} (hj:cells[j]? = some a):ok1 a=true:=by
 cases c with
 | data es =>
  simp only [aX.get] at hi
  obtain ⟨e,he,rfl⟩:=Option.map_eq_some_iff.1 hi
  simp only [List.getElem?_map] at hj
  obtain ⟨x,hx,rfl⟩:=Option.map_eq_some_iff.1 hj
  rfl
 | av es=>exact aIr (hf cells (List.mem_of_getElem? hi)) hj
theorem aT2 {F:Nat→Prop} {μ:bJ} {w:World} (H:iA E F μ h w) {v:Value} {k f n:Nat} {o:jR} (r:eP w F μ h v (.own k f n)) (ho:lv h k f=some o) (hn:o.cs.len=n) (hok:o.cs.oks):aLz w F μ h v o.sz o.cs:=by
 cases r with | own _ _ _ _ g1 hb hv =>
 rcases (hv o ho).2 hn with ⟨h1,h2,h3⟩ | ⟨b,c,cur,h1,h2,h3,h4,h5,h6⟩
 ·exact ⟨none,0,by rw [h3,hn,h2], .inl (by omega)⟩
 ·rcases Nat.eq_zero_or_pos o.cs.len with e | e
  ·exact ⟨_,c,by rw [h2,hn], .inl e⟩
  ·obtain ⟨b',cur',m1,m2,m3⟩:=aKs H ho e
   rw [h1] at m1
   injection m1 with m1
   subst m1
   rw [h3] at m2
   injection m2 with m2
   injection m2 with m2
   subst m2
   refine ⟨_,c,by rw [h2,hn], .inr ⟨b,0,rfl,fun i cells hi=>⟨(m3 i cells hi).1,fun j a hj => ?_⟩⟩⟩
   obtain ⟨u,hu,hr⟩:=(m3 i cells hi).2 j a hj
   exact ⟨u,by rw [Nat.zero_add,cell_of_row w b _ cur o.ty (0,0) h3,hu],hr.one_ (aZe hok hi hj),hr⟩
inductive App:aX→aX→aX→Prop
 | data (a b:List (List DV)):App (.data a) (.data b) (.data (a++b))
 | av (a b:List (List AV)):App (.av a) (.av b) (.av (a++b))
 | nil (b:List (List AV)):App (.data []) (.av b) (.av b)
theorem App.spec {a b c:aX} (h:App a b c):c.len=a.len+b.len∧(∀ i,i<a.len→c.get i=a.get i) ∧ ∀ i,c.get (a.len+i)=b.get i:=by
 cases h with
 | data a b =>
  refine ⟨by simp [aX.len],fun i hi => ?_,fun i => ?_⟩
  ·simp only [aX.get];rw [List.getElem?_append_left (by simpa [aX.len] using hi)]
  ·simp only [aX.get,aX.len];rw [List.getElem?_append_right (by omega),Nat.add_sub_cancel_left]
 | av a b =>
  refine ⟨by simp [aX.len],fun i hi => ?_,fun i => ?_⟩
  ·simp only [aX.get];rw [List.getElem?_append_left (by simpa [aX.len] using hi)]
  ·simp only [aX.get,aX.len];rw [List.getElem?_append_right (by omega),Nat.add_sub_cancel_left]
 | nil b=>exact ⟨by simp [aX.len],fun i hi=>by simp [aX.len] at hi,fun i=>by simp [aX.get,aX.len]⟩
theorem aQ5 {F:Nat→Prop} {μ:bJ} {w:World} {sz:Nat} {xc:aX} {b off:Nat} (hsz:0<sz) (hall : ∀ i,i<xc.len→(xc.get i).isSome=true)
  (hr : ∀ i cells,xc.get i=some cells→cells.length=sz ∧ ∀ (j:Nat) a,cells[j]? = some a → ∃ u,w.cell? ⟨b,off+i*sz+j,none⟩=some u∧u.oneCell'=true∧eP w F μ h u a) :
  ∃ nv:List Value,nv.length=xc.len*sz∧(∀ (q:Nat) u,nv[q]? = some u→w.cell? ((⟨b,off,none⟩:Addr).add q)=some u)∧(∀ u ∈ nv,u.oneCell'=true) ∧
   ∀ i cells,xc.get i=some cells → ∀ (j:Nat) a,cells[j]? = some a → ∃ u,nv[i*sz+j]? = some u∧eP w F μ h u a:=by
 have at_ : ∀ q,q<xc.len*sz → ∃ cells a u,xc.get (q / sz)=some cells∧cells[q % sz]? = some a∧w.cell? ⟨b,off+q,none⟩=some u∧u.oneCell'=true∧eP w F μ h u a:=fun q hq=>by
  have hi:q / sz<xc.len:=by rw [Nat.div_lt_iff_lt_mul hsz];exact hq
  obtain ⟨cells,hc⟩:=Option.isSome_iff_exists.1 (hall _ hi)
  have hm:q % sz<sz:=Nat.mod_lt _ hsz
  obtain ⟨h1,h2⟩:=hr _ cells hc
  obtain ⟨u,hu,ho,hr'⟩:=h2 (q % sz) _ (List.getElem?_eq_getElem (by omega))
  have hq2:q / sz*sz+q % sz=q:=by rw [Nat.mul_comm];exact Nat.div_add_mod q sz
  exact ⟨cells,_,u,hc,List.getElem?_eq_getElem (by omega),by rw [← hq2, ← Nat.add_assoc];exact hu,ho,hr'⟩
 refine ⟨(List.range (xc.len*sz)).map fun q=>(w.cell? ⟨b,off+q,none⟩).getD undef,by simp,fun q u hq => ?_,fun u hu => ?_,fun i cells hi j a hj => ?_⟩
 ·have hlt:q<xc.len*sz:=by have:=(List.getElem?_eq_some_iff.1 hq).1;simpa using this
  obtain ⟨_,_,u',_,_,hu',_,_⟩:=at_ q hlt
  rw [List.getElem?_map,List.getElem?_range hlt] at hq
  simp [hu'] at hq
  subst hq
  rw [oW];exact hu'
 ·obtain ⟨q,hq,rfl⟩:=List.mem_map.1 hu
  obtain ⟨_,_,u',_,_,hu',ho,_⟩:=at_ q (by simpa using hq)
  simp [hu',ho]
 ·have hil:=aCf hi
  obtain ⟨h1,h2⟩:=hr i cells hi
  have hjl:j<cells.length:=(List.getElem?_eq_some_iff.1 hj).1
  obtain ⟨u,hu,_,hr'⟩:=h2 j a hj
  have hlt:i*sz+j<xc.len*sz:=by
   have:(i+1)*sz≤xc.len*sz:=Nat.mul_le_mul_right _ hil
   rw [Nat.add_mul] at this
   omega
  refine ⟨u,?_,hr'⟩
  rw [List.getElem?_map,List.getElem?_range hlt]
  simp [← Nat.add_assoc,hu]
theorem aVy {c:aX} {i:Nat} (h:i<c.len):(c.get i).isSome=true:=by
 cases c with
 | data es=>simp only [aX.get,Option.isSome_map];simpa [aX.len] using h
 | av es=>simp only [aX.get];simpa [aX.len] using h
theorem yY (hT:TOk P T) {bt e ty:TypeId} {ti ei:TI} (h1:T bt=some ti) (h2:ti.desc = .slice e) (h3:T e=some ei) (hzs:Nat.beq ei.zero.cells.size ei.size=true) (hpos:Nat.blt 0 ei.size=true)
  {F:Nat→Prop} {μ:bJ} {w:World} (H:iA E F μ h w) {k f n:Nat} {l:List jR} {o:jR} {xc cc:aX} (hk:h k = .live l) (hf:l[f]? = some o) (hn:o.cs.len=n) (hty:o.ty=e) (hsz:o.sz=ei.size) {v x:Value} (hv:bAv w (μ k f) o n v) (hx:aLz w F μ h x ei.size xc)
  (happ:App o.cs xc cc) (hby:(n+xc.len)*ei.bytes≤140737488355328) (hm:n+xc.len≤140737488355328) :
  ∃ v' w',(Builtin.append_ #[bt,bt] ty #[v,x]).run P w = .ok v' w' ∧ ∃ F' μ',iA E F' μ' (upd h k (.live (l.set f ⟨o.ty,o.sz,cc⟩))) w'∧Evo w F μ h w' F' μ' (upd h k (.live (l.set f ⟨o.ty,o.sz,cc⟩)))∧eP w' F' μ' (upd h k (.live (l.set f ⟨o.ty,o.sz,cc⟩))) v' (.own k f (n+xc.len)):=by
 obtain ⟨hu,_⟩:=hT _ _ h1
 rw [h2] at hu
 obtain ⟨_,ie,hie,hisz,hib,hiz⟩:=hT _ _ h3
 have hzs':ei.zero.cells.size=ei.size:=Nat.eq_of_beq_eq_true hzs
 have hp:=oB hpos
 have hlo:lv h k f=some o:=(iX hk f).trans hf
 have hfl:f<l.length:=(List.getElem?_eq_some_iff.1 hf).1
 obtain ⟨a1,a2,a3⟩:=happ.spec
 obtain ⟨A,c0,rfl,hxx⟩:=hx
 have lvnew : ∀ o',lv (upd h k (.live (l.set f ⟨o.ty,o.sz,cc⟩))) k f=some o'→o'=⟨o.ty,o.sz,cc⟩:=fun o' ho'=>by
  rw [cO,List.getElem?_set_self hfl] at ho'
  injection ho' with ho'
  exact ho'.symm
 have bornn:upd h k (.live (l.set f ⟨o.ty,o.sz,cc⟩)) k ≠ .no:=by rw [bR];intro e;cases e
 by_cases hm0:xc.len=0
 ·-- nothing is appended
  have hcs : ∀ i,cc.get i=o.cs.get i:=fun i=>by
   rcases Nat.lt_or_ge i o.cs.len with hlt | hge
   ·exact a2 i hlt
   ·have e1:cc.get i=none:=by
     cases hc:cc.get i with
     | none=>rfl
     | some q=>have:=aCf hc;omega
    have e2:o.cs.get i=none:=by
     cases hc:o.cs.get i with
     | none=>rfl
     | some q=>have:=aCf hc;omega
    rw [e1,e2]
  have hlen:cc.len=o.cs.len:=by omega
  have hrun:(Builtin.append_ #[bt,bt] ty #[v, .slice A xc.len c0]).run P w = .ok v w:=by
   rw [hm0]
   rcases hv with ⟨_,h5,rfl⟩ | ⟨b,c,cur,_,rfl,_,_,h9,_⟩
   ·cases A <;> simp [Builtin.append_,run_underlying hu,sizeOf,typeInfo,hie,Builtin.lenOf,Builtin.firstCells,loadCells,loadCellsFrom]
   ·cases A <;> simp [Builtin.append_,run_underlying hu,sizeOf,typeInfo,hie,Builtin.lenOf,Builtin.firstCells,loadCells,loadCellsFrom,h9,storeCells]
  refine ⟨v,w,hrun,?_⟩
  have V:Evo w F μ h w F μ (upd h k (.live (l.set f ⟨o.ty,o.sz,cc⟩))):=by
   refine ⟨fun _ _=>rfl,fun _ hb=>hb,fun k' hb => ?_,fun k' f' o1 hb ho1 => ?_⟩
   ·by_cases e:k'=k
    ·subst e;exact bornn
    ·rw [dE _ _ e];exact hb
   ·by_cases e:k'=k
    ·subst e
     by_cases e2:f'=f
     ·subst e2
      rw [lvnew o1 ho1]
      exact ⟨o,hlo, .inr ⟨hlen.symm,rfl,rfl,fun b cur _ hc=>⟨cur,hc,rfl⟩⟩⟩
     ·rw [cO,List.getElem?_set_ne (Ne.symm e2)] at ho1
      exact ⟨o1,(iX hk f').trans ho1, .inr ⟨rfl,rfl,rfl,fun b cur _ hc=>⟨cur,hc,rfl⟩⟩⟩
    ·rw [eJ _ _ _ e] at ho1
     exact ⟨o1,ho1, .inr ⟨rfl,rfl,rfl,fun b cur _ hc=>⟨cur,hc,rfl⟩⟩⟩
  have back : ∀ {k' f' o1},lv (upd h k (.live (l.set f ⟨o.ty,o.sz,cc⟩))) k' f'=some o1 → ∃ o0,lv h k' f'=some o0:=fun {k' f' o1} ho1=>by
   by_cases e:k'=k
   ·subst e
    by_cases e2:f'=f
    ·subst e2;exact ⟨o,hlo⟩
    ·rw [cO,List.getElem?_set_ne (Ne.symm e2)] at ho1
     exact ⟨o1,(iX hk f').trans ho1⟩
   ·rw [eJ _ _ _ e] at ho1;exact ⟨o1,ho1⟩
  refine ⟨F, μ,⟨fun k' f' o1 ho1 => ?_,fun k1 f1 o1 k2 f2 o2 b l1 l2 => ?_,fun k' f' o1 b ho1 => ?_,fun k' f' o1 b ho1 => ?_,H.fz,H.fsrc,H.ev.trans V,H.os,H.tape,H.output,H.size,H.keep⟩,V, .own _ _ _ _ ?_ bornn fun o1 ho1 => ?_⟩
  ·by_cases e:k'=k∧f'=f
   ·obtain ⟨rfl,rfl⟩:=e
    rw [lvnew o1 ho1]
    rcases H.ob k' f' o hlo with ⟨q1,q2⟩ | ⟨b,cur,q1,q2,q3⟩
    ·exact .inl ⟨q1,hlen.trans q2⟩
    ·refine .inr ⟨b,cur,q1,q2,fun i cells hi => ?_⟩
     have hi':o.cs.get i=some cells:=by rw [← hcs];exact hi
     refine ⟨(q3 i cells hi').1,fun j a hj => ?_⟩
     obtain ⟨u,hu,hr⟩:=(q3 i cells hi').2 j a hj
     exact ⟨u,hu,hr.evo V⟩
   ·have ho1':lv h k' f'=some o1:=by
     by_cases e2:k'=k
     ·subst e2
      rw [cO,List.getElem?_set_ne (fun e3=>e ⟨rfl,e3.symm⟩)] at ho1
      exact (iX hk f').trans ho1
     ·rwa [eJ _ _ _ e2] at ho1
    exact (H.ob k' f' o1 ho1').evo V fun _ _=>rfl
  ·obtain ⟨x1,y1⟩:=back l1
   obtain ⟨x2,y2⟩:=back l2
   exact H.inj _ _ _ _ _ _ b y1 y2
  ·obtain ⟨x1,y1⟩:=back ho1
   exact H.sep _ _ _ b y1
  ·obtain ⟨x1,y1⟩:=back ho1
   exact H.src _ _ _ b y1
  ·rcases hv with ⟨_,_,rfl⟩ | ⟨b,c,cur,_,rfl,_⟩ <;> rfl
  ·rw [lvnew o1 ho1,hm0]
   refine ⟨by show n+0≤cc.len;omega,fun _ => ?_⟩
   simpa [bAv] using hv
 ·obtain ⟨b0,off,rfl,hrd⟩:=hxx.resolve_left hm0
  obtain ⟨nv,n1,n2,n3,n4⟩:=aQ5 (μ:=μ) (F:=F) (h:=h) (w:=w) hp (fun i hi=>aVy hi) hrd
  have hmax:n+xc.len≤maxLen:=by unfold maxLen;omega
  -- a new block
  have fresh : ∀ (old:List Value) (capN:Nat),old.length=n*ei.size→(∀ i cells,o.cs.get i=some cells→cells.length=o.sz ∧ ∀ (j:Nat) a,cells[j]? = some a → ∃ u,old[i*ei.size+j]? = some u∧eP w F μ h u a)→n+xc.len≤capN→capN≤maxLen →
    ∃ F' μ',iA E F' μ' (upd h k (.live (l.set f ⟨o.ty,o.sz,cc⟩))) (w.drew.alloc (.cells (old.toArray++nv.toArray++Builtin.zeroCells ei.zero.cells (capN-(n+xc.len))) e)) ∧
     Evo w F μ h (w.drew.alloc (.cells (old.toArray++nv.toArray++Builtin.zeroCells ei.zero.cells (capN-(n+xc.len))) e)) F' μ' (upd h k (.live (l.set f ⟨o.ty,o.sz,cc⟩))) ∧
     eP (w.drew.alloc (.cells (old.toArray++nv.toArray++Builtin.zeroCells ei.zero.cells (capN-(n+xc.len))) e)) F' μ' (upd h k (.live (l.set f ⟨o.ty,o.sz,cc⟩))) (.slice (some ⟨w.heap.size,0,none⟩) (n+xc.len) capN) (.own k f (n+xc.len)):=by
   intro old capN ho hold hcap hcm
   have hat:(w.drew.alloc (.cells (old.toArray++nv.toArray++Builtin.zeroCells ei.zero.cells (capN-(n+xc.len))) e)).heap[w.heap.size]? = some (.cells (old.toArray++nv.toArray++Builtin.zeroCells ei.zero.cells (capN-(n+xc.len))) e):=Go.heap_alloc_new w.drew _
   obtain ⟨H',V⟩:=H.put (w':=w.drew.alloc (.cells (old.toArray++nv.toArray++Builtin.zeroCells ei.zero.cells (capN-(n+xc.len))) e)) hk hf (o':=⟨o.ty,o.sz,cc⟩) w.heap.size (old.toArray++nv.toArray++Builtin.zeroCells ei.zero.cells (capN-(n+xc.len)))
    (by simp) rfl rfl rfl (fun b' hb' _=>Below.heap_alloc w.drew _ b' hb') (.inr (Nat.le_refl _)) (by simp) (by rw [hat,hty]) (.inl (by show o.cs.len<cc.len;omega)) (fun i cells hi=>by
     have hlook : ∀ q:Nat,q<n*ei.size+xc.len*ei.size→(old.toArray++nv.toArray++Builtin.zeroCells ei.zero.cells (capN-(n+xc.len)))[q]? = (old++nv)[q]? := fun q hq=>by
      rw [Array.getElem?_append_left (by simp;omega)]
      simp
     rcases Nat.lt_or_ge i o.cs.len with hlt | hge
     ·have hi':o.cs.get i=some cells:=by rw [← a2 i hlt];exact hi
      obtain ⟨q1,q2⟩:=hold i cells hi'
      refine ⟨q1,fun j a hj => ?_⟩
      obtain ⟨u,hu,hr⟩:=q2 j a hj
      have hb:=(List.getElem?_eq_some_iff.1 hu).1
      refine ⟨u,?_,hr⟩
      show (old.toArray++nv.toArray++Builtin.zeroCells ei.zero.cells (capN-(n+xc.len)))[i*o.sz+j]? = some u
      rw [hsz,hlook _ (by omega),List.getElem?_append_left hb]
      exact hu
     ·have hi':xc.get (i-o.cs.len)=some cells:=by rw [← a3,show o.cs.len+(i-o.cs.len)=i by omega];exact hi
      refine ⟨(hrd _ cells hi').1.trans hsz.symm,fun j a hj => ?_⟩
      obtain ⟨u,hu,hr⟩:=n4 _ cells hi' j a hj
      have hb:=(List.getElem?_eq_some_iff.1 hu).1
      refine ⟨u,?_,hr⟩
      show (old.toArray++nv.toArray++Builtin.zeroCells ei.zero.cells (capN-(n+xc.len)))[i*o.sz+j]? = some u
      have hix:i*ei.size+j=n*ei.size+((i-o.cs.len)*ei.size+j):=by
       rw [Nat.sub_mul, ← hn]
       have:o.cs.len*ei.size≤i*ei.size:=Nat.mul_le_mul_right _ hge
       omega
      rw [hsz,hix,hlook _ (by omega),List.getElem?_append_right (by omega),ho,Nat.add_sub_cancel_left]
      exact hu)
   refine ⟨F,_,H',V, .own _ _ _ _ rfl bornn fun o1 ho1 => ?_⟩
   rw [lvnew o1 ho1]
   refine ⟨by show n+xc.len≤cc.len;omega,fun _ => .inr ⟨w.heap.size,capN,_,cE _ _ _ _,rfl,by rw [hat,hty],?_,hcap,hcm⟩⟩
   show (old.toArray++nv.toArray++Builtin.zeroCells ei.zero.cells (capN-(n+xc.len))).size=capN*o.sz
   simp only [Array.size_append,List.size_toArray,size_zeroCells,hzs',ho,n1,hsz, ← Nat.add_mul]
   congr 1
   omega
  rcases hv with ⟨q1,q2,rfl⟩ | ⟨b,c,cur,q1,rfl,q3,q4,q5,q6⟩
  ·subst q2
   have hge:=grownCap_ge w (0+xc.len) 0 e
   have hcm:=grownCap_le_maxLen w (0+xc.len) 0 e hmax
   have hr:=run_append_nil (P:=P) w bt ty e ie ei.zero hu hie hiz ⟨b0,off,none⟩ xc.len c0 nv (by rw [hisz];exact n1) n2 (by omega) (by unfold maxLen at hmax;omega) (by rw [hib];simp only [Nat.zero_add] at hby;omega)
   rw [Nat.zero_add] at hge hcm
   have:=fresh [] (grownCap w xc.len 0 e) (by simp) (fun i cells hi=>by have:=aCf hi;omega) (by omega) hcm
   rw [show ([]:List Value).toArray = #[] from rfl,Array.empty_append] at this
   simp only [Nat.zero_add] at this ⊢
   exact ⟨_,_,hr,this⟩
  ·have hcurlt : ∀ i cells,o.cs.get i=some cells→cells.length=o.sz ∧ ∀ (j:Nat) a,cells[j]? = some a → ∃ u,(cur.toList.take (n*ei.size))[i*ei.size+j]? = some u∧eP w F μ h u a:=fun i cells hi=>by
    obtain ⟨b',cur',m1,m2,m3⟩:=aKs H hlo (by have:=aCf hi;omega)
    rw [q1] at m1
    injection m1 with m1
    subst m1
    rw [q3] at m2
    injection m2 with m2
    injection m2 with m2
    subst m2
    refine ⟨(m3 i cells hi).1,fun j a hj => ?_⟩
    obtain ⟨u,hu',hr⟩:=(m3 i cells hi).2 j a hj
    refine ⟨u,?_,hr⟩
    have hil:=aCf hi
    have hjl:j<cells.length:=(List.getElem?_eq_some_iff.1 hj).1
    have hlt:i*ei.size+j<n*ei.size:=by
     have h9:(i+1)*ei.size≤n*ei.size:=Nat.mul_le_mul_right _ (by omega)
     rw [Nat.add_mul] at h9
     have h10:=(m3 i cells hi).1
     omega
    rw [List.getElem?_take,if_pos hlt,Array.getElem?_toList, ← hsz]
    exact hu'
   have hcurl:(cur.toList.take (n*ei.size)).length=n*ei.size:=by
    have:n*ei.size≤c*ei.size:=Nat.mul_le_mul_right _ q5
    rw [hsz] at q4
    simp;omega
   rw [hty] at q3
   by_cases hroom:n+xc.len≤c
   ·have hfit:n*ie.size+nv.length≤cur.size:=by
     rw [hisz,n1,q4,hsz, ← Nat.add_mul];exact Nat.mul_le_mul_right _ hroom
    have hr:=run_append_room (P:=P) w bt ty e ie hu hie b n c cur q3 ⟨b0,off,none⟩ xc.len c0 nv (by rw [hisz];exact n1) n2 n3 hroom hfit
    refine ⟨_,_,hr,?_⟩
    rw [hisz] at hfit ⊢
    have hmid : ∀ q,((cur.toList.take (n*ei.size)++nv++cur.toList.drop (n*ei.size+nv.length)).toArray)[q]? = if n*ei.size≤q∧q<n*ei.size+nv.length then nv[q-n*ei.size]? else cur[q]? := fun q=>by
     rw [List.getElem?_toArray,aTb _ _ _ (by simpa using hfit)]
     simp only [Array.getElem?_toList]
    have hsize:(cur.toList.take (n*ei.size)++nv++cur.toList.drop (n*ei.size+nv.length)).toArray.size=cur.size:=by
     simp only [List.size_toArray,List.length_append,List.length_take,List.length_drop,Array.length_toList];omega
    have hset:=setRow_heap w b cur (cur.toList.take (n*ei.size)++nv++cur.toList.drop (n*ei.size+nv.length)).toArray e _ q3
    obtain ⟨H',V⟩:=H.put (w':=w.setRow b (cur.toList.take (n*ei.size)++nv++cur.toList.drop (n*ei.size+nv.length)).toArray) hk hf (o':=⟨o.ty,o.sz,cc⟩) b (cur.toList.take (n*ei.size)++nv++cur.toList.drop (n*ei.size+nv.length)).toArray
     (by simp) rfl rfl rfl (fun b' _ hne=>setRow_other w b b' _ (fun e=>hne (by rw [q1,e]))) (.inl q1) (by simp;exact (Array.getElem?_eq_some_iff.1 q3).1) (by rw [hset,hty]) (.inl (by show o.cs.len<cc.len;omega)) (fun i cells hi=>by
      rcases Nat.lt_or_ge i o.cs.len with hlt | hge
      ·have hi':o.cs.get i=some cells:=by rw [← a2 i hlt];exact hi
       obtain ⟨p1,p2⟩:=hcurlt i cells hi'
       refine ⟨p1,fun j a hj => ?_⟩
       obtain ⟨u,hu',hr'⟩:=p2 j a hj
       have hb:=(List.getElem?_eq_some_iff.1 hu').1
       rw [hcurl] at hb
       refine ⟨u,?_,hr'⟩
       rw [hmid]
       show (if n*ei.size≤i*o.sz+j∧i*o.sz+j<n*ei.size+nv.length then nv[i*o.sz+j-n*ei.size]? else cur[i*o.sz+j]?)=some u
       rw [hsz,if_neg (by omega)]
       rw [List.getElem?_take,if_pos hb,Array.getElem?_toList] at hu'
       exact hu'
      ·have hi':xc.get (i-o.cs.len)=some cells:=by rw [← a3,show o.cs.len+(i-o.cs.len)=i by omega];exact hi
       refine ⟨(hrd _ cells hi').1.trans hsz.symm,fun j a hj => ?_⟩
       obtain ⟨u,hu',hr'⟩:=n4 _ cells hi' j a hj
       have hb:=(List.getElem?_eq_some_iff.1 hu').1
       refine ⟨u,?_,hr'⟩
       have hix:i*ei.size+j=n*ei.size+((i-o.cs.len)*ei.size+j):=by
        rw [Nat.sub_mul, ← hn]
        have:o.cs.len*ei.size≤i*ei.size:=Nat.mul_le_mul_right _ hge
        omega
       rw [hmid]
       show (if n*ei.size≤i*o.sz+j∧i*o.sz+j<n*ei.size+nv.length then nv[i*o.sz+j-n*ei.size]? else cur[i*o.sz+j]?)=some u
       rw [hsz,hix,if_pos (by omega),Nat.add_sub_cancel_left]
       exact hu')
    refine ⟨F,_,H',V, .own _ _ _ _ rfl bornn fun o1 ho1 => ?_⟩
    rw [lvnew o1 ho1]
    exact ⟨by show n+xc.len≤cc.len;omega,fun _ => .inr ⟨b,c,_,cE _ _ _ _,rfl,by rw [hset,hty],hsize.trans q4,hroom,q6⟩⟩
   ·have hge:=grownCap_ge w (n+xc.len) c e
    have hcm:=grownCap_le_maxLen w (n+xc.len) c e hmax
    have hr:=run_append_grow (P:=P) w bt ty e ie ei.zero hu hie hiz ⟨b,0,none⟩ n c (cur.toList.take (n*ei.size)) (by rw [hisz];exact hcurl) (fun j v hj=>by
      rw [oW,Nat.zero_add,cell_of_row w b _ cur e (0,0) q3]
      have hlt:j<n*ei.size:=by have:=(List.getElem?_eq_some_iff.1 hj).1;omega
      rw [List.getElem?_take,if_pos hlt,Array.getElem?_toList] at hj
      exact hj) ⟨b0,off,none⟩ xc.len c0 nv (by rw [hisz];exact n1) n2 (by omega) (by unfold maxLen at hmax;omega) (growslice_fits (by omega) (by rw [hib];exact hby))
    exact ⟨_,_,hr,fresh _ _ hcurl hcurlt hge hcm⟩
end
end Go.Proofs.YtbliejnpjpnahaaGreatDoor
namespace Go.Proofs.YtbliejnpjpnahaaGreatDoor
open Go.RowKit
set_option linter.unusedVariables false
set_option maxRecDepth 100000
mutual
def AV.free:AV→Bool
 | .d _=>true
 | .agg cs=>AV.freeL cs
 | .tup cs=>AV.freeL cs
 | .ref _=>true
 | .ptr .. => false
 | .own .. => false
 | .fn _ cs=>AV.freeL cs
 | .dead=>true
def AV.freeL:List AV→Bool
 | []=>true
 | c :: cs=>c.free && AV.freeL cs
end
theorem wR : ∀ {cs:List AV},AV.freeL cs=true → ∀ {i:Nat} {c:AV},cs[i]? = some c→c.free=true
 | [],_,i,c,hc=>by simp at hc
 | x :: cs,h,0,c,hc=>by simp [AV.freeL] at h hc;rw [← hc];exact h.1
 | x :: cs,h,i+1,c,hc=>by simp [AV.freeL] at h hc;exact wR h.2 hc
theorem eP.free_ {w:World} {F:Nat→Prop} {μ μ2:bJ} {h h2:dG} {v:Value} {a:AV} (r:eP w F μ h v a):a.free=true→eP w F μ2 h2 v a:=by
 induction r with
 | d v x hd=>intro _;exact .d v x hd
 | agg vs cs hs hr ih=>intro hf;exact .agg vs cs hs fun i v c hv hc=>ih i v c hv hc (wR (by simpa [AV.free] using hf) hc)
 | tup vs cs hs hr ih=>intro hf;exact .tup vs cs hs fun i v c hv hc=>ih i v c hv hc (wR (by simpa [AV.free] using hf) hc)
 | ref b off cs g hF hg hr=>intro _;exact .ref b off cs g hF hg hr
 | ptr v k f n i j h1 hb hv=>intro hf;simp [AV.free] at hf
 | own v k f n h1 hb hv=>intro hf;simp [AV.free] at hf
 | fn g vs cs hs hr ih=>intro hf;exact .fn g vs cs hs fun i v c hv hc=>ih i v c hv hc (wR (by simpa [AV.free] using hf) hc)
 | dead v=>intro _;exact .dead v
mutual
inductive cZ (ι:Nat→Nat):AV→AV→Prop
 | d (x:DV):cZ ι (.d x) (.d x)
 | agg {cs ds:List AV} (h:gF ι cs ds):cZ ι (.agg cs) (.agg ds)
 | tup {cs ds:List AV} (h:gF ι cs ds):cZ ι (.tup cs) (.tup ds)
 | ref (cs:List DV):cZ ι (.ref cs) (.ref cs)
 | ptr (k f n i j k':Nat) (h:ι k=k'):cZ ι (.ptr k f n i j) (.ptr k' f n i j)
 | own (k f n k':Nat) (h:ι k=k'):cZ ι (.own k f n) (.own k' f n)
 | fn {g:FuncId} {cs ds:List AV} (h:gF ι cs ds):cZ ι (.fn g cs) (.fn g ds)
 | dead:cZ ι .dead .dead
inductive gF (ι:Nat→Nat):List AV→List AV→Prop
 | nil:gF ι [] []
 | cons {c d:AV} {cs ds:List AV} (h:cZ ι c d) (k:gF ι cs ds):gF ι (c :: cs) (d :: ds)
end
mutual
theorem cZ.eq_ {ι:Nat→Nat} : ∀ {a b:AV},cZ ι a b→b=a.ren ι
 | _,_, .d x=>rfl
 | _,_, .agg h=>by rw [AV.ren,gF.eq_ h]
 | _,_, .tup h=>by rw [AV.ren,gF.eq_ h]
 | _,_, .ref cs=>rfl
 | _,_, .ptr k f n i j k' h=>by rw [AV.ren,h]
 | _,_, .own k f n k' h=>by rw [AV.ren,h]
 | _,_, .fn h=>by rw [AV.ren,gF.eq_ h]
 | _,_, .dead=>rfl
theorem gF.eq_ {ι:Nat→Nat} : ∀ {a b:List AV},gF ι a b→b=AV.renL ι a
 | _,_, .nil=>rfl
 | _,_, .cons h k=>by rw [AV.renL,cZ.eq_ h,gF.eq_ k]
end
def aM1 {α:Type} (c:α→List DV):List α→AV
 | [] => .d (.v (.slice none 0 0))
 | x :: xs => .d (.sl (List.map c (x :: xs)))
theorem cZ.nd {ι:Nat→Nat} {α:Type} (c:α→List DV) (xs:List α):cZ ι (aM1 c xs) (aM1 c xs):=by cases xs <;> exact cZ.d _
inductive gR (ι:Nat→Nat):fA→fA→Prop
 | no:gR ι .no .no
 | dead:gR ι .dead .dead
 | data (ty:TypeId) (sz:Nat) (es:List (List DV)):gR ι (.live [⟨ty,sz, .data es⟩]) (.live [⟨ty,sz, .data es⟩])
 | box (ty:TypeId) (sz:Nat) {cs ds:List AV} (h:gF ι cs ds):gR ι (.live [⟨ty,sz, .av [cs]⟩]) (.live [⟨ty,sz, .av [ds]⟩])
 | gen (s:fA):gR ι s (s.ren ι)
theorem gR.eq_ {ι:Nat→Nat} {a b:fA} (h:gR ι a b):b=a.ren ι:=by
 cases h with
 | no=>rfl
 | dead=>rfl
 | data=>rfl
 | box ty sz h=>rw [h.eq_];rfl
 | gen=>rfl
def bU (s:ByteArray):List (List DV):=s.data.toList.map fun b=>[.v (.int .u8 b.toNat)]
def bP (k:Nat) (s:ByteArray):AV:=bif Nat.beq s.size 0 then .d (.v (.pointer none)) else .ptr k 0 1 0 0
def yG (tb te:TypeId) (k:Nat) (s:ByteArray):fA := .live [⟨tb,2, .av [[bP k s, .own k 1 s.size]]⟩,⟨te,1, .data (bU s)⟩]
theorem gR.bld {ι:Nat→Nat} {tb te:TypeId} {k k':Nat} {s:ByteArray} (h:ι k=k'):gR ι (yG tb te k s) (yG tb te k' s):=by
 have e:(yG tb te k s).ren ι=yG tb te k' s:=by
  subst h
  unfold yG bP
  cases Nat.beq s.size 0 <;> rfl
 rw [← e]
 exact .gen _
def kE (kf i:Nat):List DV→List AV
 | []=>[]
 | .v x :: l => .d (.v x) :: kE kf i l
 | .sl es :: l => .own kf i es.length :: kE kf i l
 | .mp _ :: l => .dead :: kE kf i l
def aPk:List DV→List (List DV)
 | []=>[]
 | .v _ :: l=>aPk l
 | .sl es :: _=>es
 | .mp _ :: l=>aPk l
def yH:List DV→Nat
 | []=>0
 | .v _ :: l=>yH l
 | .sl _ :: l=>yH l+1
 | .mp _ :: l=>yH l+2
def tM {α:Type} (kf:Nat) (c:α→List DV) (x:List α):List (List AV):=x.mapIdx fun i a=>kE kf i (c a)
def aJl {α:Type} (ft:TypeId) (fz:Nat) (c:α→List DV) (x:List α):List jR:=x.map fun a=>⟨ft,fz, .data (aPk (c a))⟩
theorem aAw {ι:Nat→Nat} (kf i:Nat) : ∀ l:List DV,AV.renL ι (kE kf i l)=kE (ι kf) i l
 | []=>rfl
 | .v x :: l=>by simp [kE,AV.renL,AV.ren,aAw kf i l]
 | .sl es :: l=>by simp [kE,AV.renL,AV.ren,aAw kf i l]
 | .mp _ :: l=>by simp [kE,AV.renL,AV.ren,aAw kf i l]
theorem gR.nest {ι:Nat→Nat} {α:Type} {ty:TypeId} {sz kf kf':Nat} {c:α→List DV} {x:List α} (hk:ι kf=kf'):gR ι (.live [⟨ty,sz, .av (tM kf c x)⟩]) (.live [⟨ty,sz, .av (tM kf' c x)⟩]):=by
 have e:(fA.live [⟨ty,sz, .av (tM kf' c x)⟩])=(fA.live [⟨ty,sz, .av (tM kf c x)⟩]).ren ι:=by
  subst hk
  simp only [fA.ren,List.map_cons,List.map_nil,jR.ren,aX.ren]
  congr 4
  apply List.ext_getElem?
  intro i
  simp only [tM,List.getElem?_map,List.getElem?_mapIdx]
  cases x[i]? <;> simp [aAw]
 rw [e];exact .gen _
theorem gR.fam {ι:Nat→Nat} {α:Type} {ft:TypeId} {fz:Nat} {c:α→List DV} {x:List α}:gR ι (.live (aJl ft fz c x)) (.live (aJl ft fz c x)):=by
 have e:(fA.live (aJl ft fz c x))=(fA.live (aJl ft fz c x)).ren ι:=by
  simp [fA.ren,aJl,jR.ren,aX.ren]
 have:=gR.gen (ι:=ι) (fA.live (aJl ft fz c x))
 rwa [← e] at this
inductive yW (ι:Nat→Nat):Nat→List fA→dG→dG→Prop
 | nil (B:Nat) (h:dG):yW ι B [] h h
 | cons {B:Nat} {s s':fA} {ss:List fA} {h h':dG} (hs:gR ι s s') (k:yW ι (B+1) ss (upd h B s') h'):yW ι B (s :: ss) h h'
theorem yW.eq_ {ι:Nat→Nat} {B:Nat} {ss:List fA} {h h':dG} (b:yW ι B ss h h'):h'=rB h B (ss.map (fA.ren ι)):=by
 induction b with
 | nil=>rfl
 | cons hs k ih=>rw [ih,hs.eq_];rfl
theorem aGt (h:dG) {B:Nat} (hB:Abv h B) (ss:List fA) (k:Nat) (hk:h k ≠ .no):rB h B ss k=h k:=by
 refine aAa h ss B k ?_
 rcases Nat.lt_or_ge k B with hlt | hge
 ·exact hlt
 ·exact absurd (hB k hge) hk
def aF2 (P:Program) (f:FuncId):Bool :=
 match P.funcs[f]? with
 | some fn => !(fn.name == "runtime.NumGoroutine") && fn.body.isSome
 | none=>false
structure FnC (P:Program) (f:FuncId) (hin:List fA) (args:List AV) (hout:List fA) (r:AV):Prop where
 c:aF2 P f=true
 g:FnG P f hin args hout r
section
variable {P:Program} {T:Tab} {L N:Nat} {ops:Array Oper} {E:Env} {K:List (Nat × Cls)→AS→Prop} {i:Nat} {is:List Nat} {t:Nat→AV} {h h':dG} {d:Tmp} {dst:Option Tmp} {op:Op} {ty:TypeId} {pos:String} {aft:Array Edge} {g:Option (Nat × Bool)}
theorem aUx (hT:TOk P T) {bt e:TypeId} {s x:Operand} {k f n:Nat} {news:List (List DV)} {l l':List jR} {o:jR} {cc:aX} {ti ei:TI} (hs:evA N ⟨t,h⟩ s = .own k f n) (hx:evA N ⟨t,h⟩ x = .d (.sl news)) (h1:T bt=some ti) (h2:ti.desc = .slice e) (h3:T e=some ei)
  (hzs:Nat.beq ei.zero.cells.size ei.size=true) (hpos:Nat.blt 0 ei.size=true) (hk:h k = .live l) (hf:l[f]? = some o) (hn:o.cs.len=n) (hty:o.ty=e) (hsz:o.sz=ei.size) (hnl : ∀ x ∈ news,x.length=ei.size) (happ:App o.cs (.data news) cc) (hl':aYg l f ⟨o.ty,o.sz,cc⟩ l')
  (hby:(n+news.length)*ei.bytes≤140737488355328) (hm:n+news.length≤140737488355328) :
  cQ P N ⟨dst, .call ⟨.builtin .append, #[s,x], #[bt,bt]⟩,ty,pos,aft,g⟩ ⟨t,h⟩ (.own k f (n+news.length)) (upd h k (.live l')):=fun E F μ w ρ H st=>by
 have hr:=st s (by simp [Op.operands,Call.operands])
 have hr2:=st x (by simp [Op.operands,Call.operands])
 rw [hs] at hr;rw [hx] at hr2
 have hlo:lv h k f=some o:=(iX hk f).trans hf
 generalize hvs:ρ s=vs at hr
 cases hr with | own _ _ _ _ g1 hb hv =>
 obtain ⟨v',w',q1,F', μ',q2,q3,q4⟩:=yY (ty:=ty) hT h1 h2 h3 hzs hpos H hk hf hn hty hsz ((hv o hlo).2 hn) (aPc hr2 hnl) happ hby hm
 rw [hl'.eq_]
 have e1:(execOp ρ ⟨dst, .call ⟨.builtin .append, #[s,x], #[bt,bt]⟩,ty,pos,aft,g⟩).run P w = .ok (.value v') w':=by
  simp [execOp,resolve,invoke,builtin,hvs,q1]
 rw [e1]
 exact ⟨F', μ',q2,q3,q4⟩
theorem aBf (hT:TOk P T) {bt e:TypeId} {s x:Operand} {k f n k2 f2 m:Nat} {l l':List jR} {o o2:jR} {cc:aX} {ti ei:TI} (hs:evA N ⟨t,h⟩ s = .own k f n) (hx:evA N ⟨t,h⟩ x = .own k2 f2 m) (h1:T bt=some ti) (h2:ti.desc = .slice e) (h3:T e=some ei)
  (hzs:Nat.beq ei.zero.cells.size ei.size=true) (hpos:Nat.blt 0 ei.size=true) (hk:h k = .live l) (hf:l[f]? = some o) (hn:o.cs.len=n) (hty:o.ty=e) (hsz:o.sz=ei.size) (ho2:lv h k2 f2=some o2) (hm2:o2.cs.len=m) (hs2:o2.sz=ei.size) (hok:o2.cs.oks) (happ:App o.cs o2.cs cc) (hl':aYg l f ⟨o.ty,o.sz,cc⟩ l')
  (hby:(n+m)*ei.bytes≤140737488355328) (hm:n+m≤140737488355328) :
  cQ P N ⟨dst, .call ⟨.builtin .append, #[s,x], #[bt,bt]⟩,ty,pos,aft,g⟩ ⟨t,h⟩ (.own k f (n+m)) (upd h k (.live l')):=fun E F μ w ρ H st=>by
 have hr:=st s (by simp [Op.operands,Call.operands])
 have hr2:=st x (by simp [Op.operands,Call.operands])
 rw [hs] at hr;rw [hx] at hr2
 have hlo:lv h k f=some o:=(iX hk f).trans hf
 generalize hvs:ρ s=vs at hr
 cases hr with | own _ _ _ _ g1 hb hv =>
 have hrd:=aT2 H hr2 ho2 hm2 hok
 rw [hs2] at hrd
 subst hm2
 obtain ⟨v',w',q1,F', μ',q2,q3,q4⟩:=yY (ty:=ty) hT h1 h2 h3 hzs hpos H hk hf hn hty hsz ((hv o hlo).2 hn) hrd happ hby hm
 rw [hl'.eq_]
 have e1:(execOp ρ ⟨dst, .call ⟨.builtin .append, #[s,x], #[bt,bt]⟩,ty,pos,aft,g⟩).run P w = .ok (.value v') w':=by
  simp [execOp,resolve,invoke,builtin,hvs,q1]
 rw [e1]
 exact ⟨F', μ',q2,q3,q4⟩
theorem aN5 (h:dG) (k:Nat) (s s':fA):upd (upd h k s) k s'=upd h k s':=by
 funext k'
 by_cases e:k'=k
 ·subst e;rw [bR,bR]
 ·rw [dE _ _ e,dE _ _ e,dE _ _ e]
theorem aJe (k:Nat) (hT:TOk P T) {bt e:TypeId} {s x:Operand} {news:List (List DV)} {ti ei:TI} (hs:evA N ⟨t,h⟩ s = .d (.v (.slice none 0 0))) (hx:evA N ⟨t,h⟩ x = .d (.sl news)) (h1:T bt=some ti) (h2:ti.desc = .slice e) (h3:T e=some ei)
  (hzs:Nat.beq ei.zero.cells.size ei.size=true) (hpos:Nat.blt 0 ei.size=true) (hk:h k = .no) (hnl : ∀ x ∈ news,x.length=ei.size) (hby:news.length*ei.bytes≤140737488355328) (hm:news.length≤140737488355328) :
  cQ P N ⟨dst, .call ⟨.builtin .append, #[s,x], #[bt,bt]⟩,ty,pos,aft,g⟩ ⟨t,h⟩ (.own k 0 news.length) (upd h k (.live [⟨e,ei.size, .data news⟩])) ∧ ∀ k',h k' ≠ .no→upd h k (.live [⟨e,ei.size, .data news⟩]) k'=h k':=by
 refine ⟨fun E F μ w ρ H st => ?_,wO hk⟩
 have hr:=gU (by have:=st s (by simp [Op.operands,Call.operands]);rw [hs] at this;exact this)
 have hr2:=st x (by simp [Op.operands,Call.operands])
 rw [hx] at hr2
 obtain ⟨H1,V1⟩:=H.adopt k hk ⟨e,ei.size, .data []⟩ rfl
 obtain ⟨v',w',q1,F', μ',q2,q3,q4⟩:=yY (ty:=ty) (n:=0) (f:=0) (v := .slice none 0 0) hT h1 h2 h3 hzs hpos H1 (bR h k _) rfl rfl rfl rfl (.inl ⟨cE _ _ _ _,rfl,rfl⟩) (aPc (hr2.evo V1) hnl) (.data [] news) (by simpa [aX.len] using hby) (by simpa [aX.len] using hm)
 rw [aN5] at q2 q3 q4
 have e1:(execOp ρ ⟨dst, .call ⟨.builtin .append, #[s,x], #[bt,bt]⟩,ty,pos,aft,g⟩).run P w = .ok (.value v') w':=by
  simp [execOp,resolve,invoke,builtin,hr,q1]
 rw [e1]
 refine ⟨F', μ',q2,V1.trans ?_,?_⟩
 ·have:=q3;simpa using this
 ·simpa [aX.len] using q4
theorem aAb {f:FuncId} {x:Operand} {args:Array Operand} {at_:Array TypeId} {ρ:Operand→Value} {cap:Array Value} {w:World} (hc:aF2 P f=true) (hx:ρ x = .func (.func f) #[] cap) :
  (execOp ρ ⟨dst, .call ⟨.value x,args,at_⟩,ty,pos,aft,g⟩).run P w = .ok (.enter f (args.map ρ++cap)) w:=by
 unfold aF2 at hc
 cases hf:P.funcs[f]? with
 | none=>simp [hf] at hc
 | some fn =>
  simp only [hf,Bool.and_eq_true,Bool.not_eq_true'] at hc
  obtain ⟨h1,h2⟩:=hc
  obtain ⟨bd,hbd⟩:=Option.isSome_iff_exists.1 h2
  have h4 : ¬ fn.name = "runtime.NumGoroutine" := by simpa using h1
  simp [execOp,resolve,hx,Deferred.ofValue,invoke,callFunc,hf,h4,hbd]
theorem zW {F:Nat→Prop} {μ:bJ} {w:World} {x:Operand} {args:Array Operand} {at_:Array TypeId} {ρ:Operand→Value} {f:FuncId} {caps:List AV} (st:aF1 N ⟨dst, .call ⟨.value x,args,at_⟩,ty,pos,aft,g⟩ ⟨t,h⟩ ρ w F μ h) (hx:evA N ⟨t,h⟩ x = .fn f caps) :
  ∃ cap, ρ x = .func (.func f) #[] cap∧(args.map ρ++cap).size=(evL N ⟨t,h⟩ args.toList++caps).length ∧ ∀ (i:Nat) v a,(args.map ρ++cap)[i]? = some v→(evL N ⟨t,h⟩ args.toList++caps)[i]? = some a→eP w F μ h v a:=by
 have hr:=st x (by simp [Op.operands,Call.operands])
 rw [hx] at hr
 generalize hv:ρ x=v at hr
 cases hr with | fn _ vs _ hs hr =>
 refine ⟨vs,rfl,by simp [aBm,hs],fun i v a h1 h2 => ?_⟩
 rw [aBm] at h2
 rw [Array.getElem?_append] at h1
 rw [List.getElem?_append] at h2
 simp only [Array.size_map,List.length_map,Array.length_toList] at h1 h2
 by_cases hi:i<args.size
 ·rw [if_pos hi] at h1 h2
  rw [Array.getElem?_map] at h1
  rw [List.getElem?_map,Array.getElem?_toList] at h2
  obtain ⟨y,hy,rfl⟩:=Option.map_eq_some_iff.1 h1
  rw [hy] at h2
  simp at h2
  subst h2
  exact st y (by simp only [Op.operands,Call.operands];exact Array.mem_append.2 (.inr (Array.mem_of_getElem? hy)))
 ·rw [if_neg hi] at h1 h2
  exact hr _ _ _ h1 h2
theorem aTa:lks []=fun _=>fA.no:=by funext p;rfl
theorem iA.start {F:Nat→Prop} {μ:bJ} {w:World} {gl:aDi F w} (hF : ∀ b,F b→b<w.heap.size):iA ⟨w,F, μ,lks [],gl⟩ F μ (lks []) w:=by
 have no : ∀ {k f o},lv (lks []) k f=some o→False:=fun hl=>by simp [lv,lks] at hl
 exact ⟨fun k f o hl=>(no hl).elim,fun k f o k' f' o' b hl=>(no hl).elim,fun k f o b hl=>(no hl).elim,fun k f o b hl=>(no hl).elim,hF,fun b hb => .inl hb,Evo.refl_,rfl,rfl,rfl,Nat.le_refl _,fun _ _ _=>rfl⟩
theorem aUn (B:Nat) {f:FuncId} {x:Operand} {args:Array Operand} {at_:Array TypeId} {caps as:List AV} {hs:List fA} {r r':AV} (hx:evA N ⟨t,h⟩ x = .fn f caps) (ha:evL N ⟨t,h⟩ args.toList++caps=as) (hfr:AV.freeL as=true) (hF:FnC P f [] as hs r) (hB:Abv h B)
  (hr:cZ (B + ·) r r') (hb:yW (B + ·) B hs h h'):cQ P N ⟨dst, .call ⟨.value x,args,at_⟩,ty,pos,aft,g⟩ ⟨t,h⟩ r' h' ∧ ∀ k,h k ≠ .no→h' k=h k:=by
 refine ⟨fun E F μ w ρ H st => ?_,fun k hk=>by rw [hb.eq_];exact aGt h hB _ k hk⟩
 obtain ⟨cap,c1,c2,c3⟩:=zW st hx
 rw [aAb hF.c c1]
 rw [ha] at c2 c3
 refine (hF.g w F (fun p f=>μ (B+p) f) _ H.glob (iA.start H.fz) c2 fun i v a h1 h2=>(c3 i v a h1 h2).free_ (wR hfr h2)).mono ?_
 rintro e w' ⟨v,F', μ1,rfl,H1,hv⟩
 obtain ⟨μ',J1,J2,J3⟩:=H.join0 hB H1
 refine ⟨v,rfl,F', μ',?_,?_,?_⟩
 ·rw [hb.eq_];exact J1
 ·rw [hb.eq_];exact J2
 ·rw [hb.eq_,hr.eq_];exact hv.ren J3
inductive Vs (h:dG):List AV→List AV→Prop
 | nil:Vs h [] []
 | cons {c d:AV} {cs ds:List AV} (hv:sM h c d) (k:Vs h cs ds):Vs h (c :: cs) (d :: ds)
theorem Vs.spec {cs ds:List AV} (v:Vs h cs ds):cs.length=ds.length ∧ ∀ (i:Nat) c d,cs[i]? = some c→ds[i]? = some d→sM h c d:=by
 induction v with
 | nil=>exact ⟨rfl,fun i c d h=>by simp at h⟩
 | cons hv k ih =>
  refine ⟨by simp [ih.1],fun i c d h1 h2 => ?_⟩
  cases i with
  | zero=>simp at h1 h2;subst h1 h2;exact hv
  | succ i=>simp at h1 h2;exact ih.2 i c d h1 h2
theorem sM.agg_ {cs ds:List AV} (v:Vs h cs ds):sM h (.agg cs) (.agg ds) := .agg cs ds v.spec.1 v.spec.2
theorem sM.fn_ {f:FuncId} {cs ds:List AV} (v:Vs h cs ds):sM h (.fn f cs) (.fn f ds) := .fn f cs ds v.spec.1 v.spec.2
def aBj:fA→Prop
 | .live l => ∀ o ∈ l,o.cs.flat
 | _=>True
theorem aWv {hs:List fA} (hf : ∀ s ∈ hs,aBj s) {p f:Nat} {o:jR} (hl:lv (lks hs) p f=some o):o.cs.flat:=by
 obtain ⟨l,h1,h2⟩:=aMu hl
 unfold lks at h1
 rw [List.getD_eq_getElem?_getD] at h1
 cases hp:hs[p]? with
 | none=>rw [hp] at h1;cases h1
 | some s =>
  rw [hp] at h1
  have h1:s = .live l:=h1
  subst h1
  exact hf _ (List.mem_of_getElem? hp) o (List.mem_of_getElem? h2)
theorem aPn (B:Nat) {f:FuncId} {x:Operand} {args:Array Operand} {at_:Array TypeId} {caps as:List AV} {hs:List fA} {r r':AV} (hx:evA N ⟨t,h⟩ x = .fn f caps) (ha:Vs h (evL N ⟨t,h⟩ args.toList++caps) as) (hF:FnC P f [] as hs r) (hfl:r.flat=true) (hfs : ∀ s ∈ hs,aBj s) (hB:Abv h B)
  (hr:cZ (B + ·) r r') (hb:yW (B + ·) B hs h h'):cQ P N ⟨dst, .call ⟨.value x,args,at_⟩,ty,pos,aft,g⟩ ⟨t,h⟩ r' h' ∧ ∀ k,h k ≠ .no→h' k=h k:=by
 refine ⟨fun E F μ w ρ H st => ?_,fun k hk=>by rw [hb.eq_];exact aGt h hB _ k hk⟩
 obtain ⟨cap,c1,c2,c3⟩:=zW st hx
 rw [aAb hF.c c1]
 obtain ⟨s1,s2⟩:=ha.spec
 have own_lt : ∀ b,bAj μ h b→b<w.heap.size:=fun b ⟨k,f,o,hl,hm⟩=>H.lt hl hm
 refine (hF.g w (fun b=>F b∨bAj μ h b) (fun p f=>μ (B+p) f) _ (H.glob.evo (fun _ _=>rfl) fun _ => .inl) (iA.start fun b hb=>hb.elim (H.fz b) (own_lt b)) (c2.trans s1) fun i v a h1 h2 => ?_).mono ?_
 ·have hlt:i<as.length:=(List.getElem?_eq_some_iff.1 h2).1
  have h3:=List.getElem?_eq_getElem (show i<(evL N ⟨t,h⟩ args.toList++caps).length by omega)
  exact eP.view H (s2 i _ a h3 h2) v (c3 i v _ h1 h3)
 ·rintro e w' ⟨v,F1, μ1,rfl,H1,hv⟩
  rw [aTa] at H1
  have H2:=H1.flatF (F:=F) (gl':=H.glob) (D:=bAj μ h) (fun b hb=>hb) (fun b hb=>⟨.inl hb,fun ⟨k,f,o,hl,hm⟩=>H.sep _ _ _ b hl hm hb⟩) (fun p f o hl=>aWv hfs hl) own_lt
  rw [← aTa] at H2
  obtain ⟨μ',J1,J2,J3⟩:=H.join0 hB H2
  refine ⟨v,rfl,fun b=>F1 b ∧ ¬ bAj μ h b, μ',?_,?_,?_⟩
  ·rw [hb.eq_];exact J1
  ·rw [hb.eq_];exact J2
  ·rw [hb.eq_,hr.eq_];exact (hv.reF hfl).ren J3
theorem sM.ext {h h2:dG} (he : ∀ p,h p ≠ .no→h2 p=h p) {c d:AV} (v:sM h c d):sM h2 c d:=by
 have lve : ∀ {k f o},lv h k f=some o→lv h2 k f=some o:=fun {k f o} hl=>by
  obtain ⟨l,h1,h3⟩:=aMu hl
  rw [iX ((he k (by rw [h1];intro e;cases e)).trans h1)];exact h3
 induction v with
 | d x=>exact .d x
 | agg cs ds hl hv ih=>exact .agg cs ds hl ih
 | tup cs ds hl hv ih=>exact .tup cs ds hl ih
 | fn g cs ds hl hv ih=>exact .fn g cs ds hl ih
 | ref cs ds hp=>exact .ref cs ds hp
 | row k f n o ds ho hn hd hc hv ih=>exact .row k f n o ds (lve ho) hn hd hc ih
 | ptr k f n i j o cells ds ho hn hi hl hv ih=>exact .ptr k f n i j o cells ds (lve ho) hn hi hl ih
theorem Vs.ext {h h2:dG} (he : ∀ p,h p ≠ .no→h2 p=h p) {cs ds:List AV} (v:Vs h cs ds):Vs h2 cs ds:=by
 induction v with
 | nil=>exact .nil
 | cons hv k ih=>exact .cons (hv.ext he) ih
theorem uL {h hx:dG} {B:Nat} (hB:Abv h B) (hxB:Abv hx B) (ss:List fA):rB hx B ss=aCt B hx (rB h B ss):=by
 funext p
 rcases Nat.lt_or_ge p B with hlt | hge
 ·rw [aBz hlt,aAa _ _ _ _ hlt]
 ·rw [aM5 hge]
  obtain ⟨q,rfl⟩:=Nat.le.dest hge
  rw [aEc _ _ _ _ hB,aEc _ _ _ _ hxB]
theorem aL3 {ι:Nat→Nat} : ∀ (hs:List fA) (B:Nat) (h:dG),yW ι B hs h (rB h B (hs.map (fA.ren ι)))
 | [],B,h => .nil B h
 | s :: ss,B,h => .cons (.gen s) (aL3 ss (B+1) _)
theorem aYs (x:Operand) (h2:dG):evA N ⟨t,h⟩ x=evA N ⟨t,h2⟩ x:=by cases x <;> rfl
theorem bA7 (xs:List Operand) (h2:dG):evL N ⟨t,h⟩ xs=evL N ⟨t,h2⟩ xs:=by
 rw [aBm,aBm];exact List.map_congr_left fun x _=>aYs x h2
theorem aZx (B:Nat) {f:FuncId} {x:Operand} {args:Array Operand} {at_:Array TypeId} {caps as:List AV} {hs:List fA} {r r':AV} (hx:evA N ⟨t,h⟩ x = .fn f caps) (ha:evL N ⟨t,h⟩ args.toList++caps=as) (hfr:AV.freeL as=true) (hF:FnC P f [] as hs r) (hB:Abv h B)
  (hr:cZ (B + ·) r r') (hb:yW (B + ·) B hs h h'):Abv h B∧(∀ h2:dG,Abv h2 B→(∀ p,h p ≠ .no→h2 p=h p)→cQ P N ⟨dst, .call ⟨.value x,args,at_⟩,ty,pos,aft,g⟩ ⟨t,h2⟩ r' (aCt B h2 h'))∧aCt B h h'=h':=by
 refine ⟨hB,fun h2 hB2 he => ?_,?_⟩
 ·rw [hb.eq_, ← uL hB hB2]
  exact (aUn B ((aYs x h).trans hx) (by rw [bA7 args.toList h];exact ha) hfr hF hB2 hr (aL3 hs B h2)).1
 ·rw [hb.eq_, ← uL hB hB]
theorem aWr (B:Nat) {f:FuncId} {x:Operand} {args:Array Operand} {at_:Array TypeId} {caps as:List AV} {hs:List fA} {r r':AV} (hx:evA N ⟨t,h⟩ x = .fn f caps) (ha:Vs h (evL N ⟨t,h⟩ args.toList++caps) as) (hF:FnC P f [] as hs r) (hfl:r.flat=true) (hfs : ∀ s ∈ hs,aBj s) (hB:Abv h B)
  (hr:cZ (B + ·) r r') (hb:yW (B + ·) B hs h h'):Abv h B∧(∀ h2:dG,Abv h2 B→(∀ p,h p ≠ .no→h2 p=h p)→cQ P N ⟨dst, .call ⟨.value x,args,at_⟩,ty,pos,aft,g⟩ ⟨t,h2⟩ r' (aCt B h2 h'))∧aCt B h h'=h':=by
 refine ⟨hB,fun h2 hB2 he => ?_,?_⟩
 ·rw [hb.eq_, ← uL hB hB2]
  exact (aPn B ((aYs x h).trans hx) (by rw [bA7 args.toList h];exact ha.ext he) hF hfl hfs hB2 hr (aL3 hs B h2)).1
 ·rw [hb.eq_, ← uL hB hB]
inductive qA (T:Tab) (N:Nat) (σ:AS):List ResultVar→List AV→Prop
 | nil:qA T N σ [] []
 | tmp {u:Tmp} {a:AV} {rs:List ResultVar} {as:List AV} (h:evA N σ (.tmp u)=a) (k:qA T N σ rs as):qA T N σ (.tmp u :: rs) (a :: as)
 | cell1 {u:Tmp} {ty:TypeId} {ti:TI} {k f n ix j:Nat} {o:jR} {cells:List AV} {c:AV} {rs:List ResultVar} {as:List AV} (hx:evA N σ (.tmp u) = .ptr k f n ix j) (h1:T ty=some ti) (h2:aBx ti.desc=false) (ho:lv σ.h k f=some o) (hn:o.cs.len=n)
   (hi:o.cs.get ix=some cells) (hc:cells[j]? = some c) (q:qA T N σ rs as):qA T N σ (.cell u ty :: rs) (c :: as)
 | cellN {u:Tmp} {ty:TypeId} {ti:TI} {k f n ix j:Nat} {o:jR} {cells out:List AV} {rs:List ResultVar} {as:List AV} (hx:evA N σ (.tmp u) = .ptr k f n ix j) (h1:T ty=some ti) (h2:aBx ti.desc=true) (ho:lv σ.h k f=some o) (hn:o.cs.len=n)
   (hi:o.cs.get ix=some cells) (hc:Seg j ti.size cells out) (q:qA T N σ rs as):qA T N σ (.cell u ty :: rs) (.agg out :: as)
def aWm:List AV→AV
 | [a]=>a
 | l => .tup l
def aCx (a:Act):ResultVar→Sem Value
 | .tmp t=>pure (a.tmps.getD t undef)
 | .cell p t=>do loadVar t (← asAddr (a.tmps.getD p undef))
theorem qA.run (hT:TOk P T) {σ:AS} {rs:List ResultVar} {as:List AV} (R:qA T N σ rs as) {F:Nat→Prop} {μ:bJ} {a:Act} {w:World} (A:aRp L E N F μ σ a w) :
  ∃ vs:List Value,(rs.mapM (aCx a)).run P w = .ok vs w∧vs.length=as.length ∧ ∀ (i:Nat) v c,vs[i]? = some v→as[i]? = some c→eP w F μ σ.h v c:=by
 have consOk : ∀ {rv:ResultVar} {rs:List ResultVar} {v:Value} {c:AV} {as:List AV},(aCx a rv).run P w = .ok v w→eP w F μ σ.h v c →
   (∃ vs:List Value,(rs.mapM (aCx a)).run P w = .ok vs w∧vs.length=as.length ∧ ∀ (i:Nat) v c,vs[i]? = some v→as[i]? = some c→eP w F μ σ.h v c) →
   ∃ vs:List Value,((rv :: rs).mapM (aCx a)).run P w = .ok vs w∧vs.length=(c :: as).length ∧ ∀ (i:Nat) v d,vs[i]? = some v→(c :: as)[i]? = some d→eP w F μ σ.h v d:=by
  rintro rv rs v c as h1 h2 ⟨vs,e1,e2,e3⟩
  refine ⟨v :: vs,by simp [List.mapM_cons,h1,e1],by simp [e2],fun i v' d h3 h4 => ?_⟩
  cases i with
  | zero=>simp at h3 h4;subst h3 h4;exact h2
  | succ i=>simp at h3 h4;exact e3 i v' d h3 h4
 induction R with
 | nil=>exact ⟨[],by simp,rfl,fun i v c h=>by simp at h⟩
 | tmp hh k ih =>
  rename_i u a' rs as
  exact consOk (v:=a.tmps.getD u undef) rfl (by rw [← hh];exact aEj A (.tmp _)) ih
 | cell1 hx h1 h2 ho hn hi hc q ih =>
  rename_i u0 ty ti k f n ix j o cells c rs as
  have hr:=aEj A (.tmp u0)
  rw [hx] at hr
  obtain ⟨b,cur,hv,hm,hb,hlen,hcs⟩:=aCu A.H hr ho hn hi
  obtain ⟨u,hu,hr2⟩:=hcs _ _ hc
  have hcell:=(cell_of_row w b _ cur _ (0,0) hb).trans hu
  refine consOk ?_ hr2 ih
  have hv':a.tmps.getD u0 undef = .pointer (some ⟨b,ix*o.sz+j,none⟩):=hv
  simp only [aCx,hv',asAddr,loadVar]
  simp [Sem.run_bind,aA1 hT h1,h2,hcell]
 | cellN hx h1 h2 ho hn hi hc q ih =>
  rename_i u ty ti k f n ix j o cells out rs as
  have hr:=aEj A (.tmp u)
  rw [hx] at hr
  obtain ⟨b,cur,hv,hm,hb,hlen,hcs⟩:=aCu A.H hr ho hn hi
  obtain ⟨s1,s2,s3⟩:=hc.spec
  have hall : ∀ q,q<ti.size → ∃ u,cur[ix*o.sz+j+q]? = some u ∧ ∀ c,out[q]? = some c→eP w F μ σ.h u c:=fun q hq=>by
   obtain ⟨u,hu,hr2⟩:=hcs (j+q) _ (s3 q _ (List.getElem?_eq_getElem (show q<out.length by omega)))
   exact ⟨u,by rw [Nat.add_assoc];exact hu,fun c hc=>by rw [List.getElem?_eq_getElem (show q<out.length by omega)] at hc;injection hc with hc;rw [← hc];exact hr2⟩
  obtain ⟨v1,v2⟩:=aOl cur (ix*o.sz+j) ti.size fun q hq=>by obtain ⟨u,hu,_⟩:=hall q hq;exact ⟨u,hu⟩
  have hrun:=aFh (P:=P) hT h1 h2 w b (ix*o.sz+j) ((cur.toList.drop (ix*o.sz+j)).take ti.size) v1 (fun q v hq=>by
   rw [cell_of_row w b _ cur o.ty (0,0) hb]
   exact (v2 q v hq).2)
  have hv':a.tmps.getD u undef = .pointer (some ⟨b,ix*o.sz+j,none⟩):=hv
  refine consOk (v := .agg ((cur.toList.drop (ix*o.sz+j)).take ti.size).toArray) ?_ (.agg _ out (by simp only [List.size_toArray];omega) fun q v c hq hc => ?_) ih
  ·simp only [aCx,hv',asAddr]
   have:=hrun
   simp only [Instr.loadAt,Instr.sureAddr] at this
   exact this
  ·have hq':((cur.toList.drop (ix*o.sz+j)).take ti.size)[q]? = some v:=by simpa using hq
   obtain ⟨hlt,hcur⟩:=v2 q v hq'
   obtain ⟨u,hu,hr2⟩:=hall q hlt
   rw [hcur] at hu
   injection hu with hu
   rw [hu]
   exact hr2 c hc
theorem aNj (hT:TOk P T) {fn:Func} {σ:AS} {rs:List ResultVar} {as:List AV} (hrs:fn.results.toList=rs) (R:qA T N σ rs as) {F:Nat→Prop} {μ:bJ} {a:Act} {w:World} (A:aRp L E N F μ σ a w) : ∃ v,(results fn a.tmps).run P w = .ok v w∧eP w F μ σ.h v (aWm as):=by
 obtain ⟨vs,e1,e2,e3⟩:=R.run hT A
 have hm:(fn.results.mapM (aCx a)).run P w = .ok vs.toArray w:=by
  rw [Array.mapM_eq_mapM_toList,hrs,Sem.run_map,e1];rfl
 have hres:(results fn a.tmps).run P w = .ok (if h:vs.toArray.size=1 then vs.toArray[0] else .tuple vs.toArray) w:=by
  have e:results fn a.tmps=fn.results.mapM (aCx a) >>= fun vs=>pure (if h:vs.size=1 then vs[0] else .tuple vs):=by
   unfold results
   congr 1
  rw [e,Sem.run_bind,hm];rfl
 refine ⟨_,hres,?_⟩
 rcases as with _ | ⟨c,_ | ⟨c2,cs⟩⟩
 ·have:vs=[]:=List.eq_nil_of_length_eq_zero (by simpa using e2)
  subst this
  exact .tup #[] [] rfl fun i v c h=>by simp at h
 ·obtain ⟨v,rfl⟩:=List.length_eq_one_iff.1 e2
  exact e3 0 v c rfl rfl
 ·have hne : ¬ vs.toArray.size=1:=by simp at e2 ⊢;omega
  rw [dif_neg hne]
  exact .tup _ _ (by simpa using e2) fun i v c h1 h2=>e3 i v c (by simpa using h1) h2
end
end Go.Proofs.YtbliejnpjpnahaaGreatDoor
namespace Go.Proofs.YtbliejnpjpnahaaGreatDoor
open Go.RowKit
set_option linter.unusedVariables false
set_option maxRecDepth 100000
section
variable {P:Program} {T:Tab} {L N:Nat} {ops:Array Oper} {E:Env} {F:Nat→Prop} {μ:bJ} {w:World} {i:Nat} {is:List Nat} {t:Nat→AV} {h h' hc:dG} {ι:Nat→Nat}
theorem wK.unren {μc:bJ} (R:Ren ι μc hc μ h) {p:Option Nat} {o:jR} (r:wK w F μ h p (o.ren ι)):wK w F μc hc p o:=by
 rcases r with ⟨h1,h2⟩ | ⟨b,cur,h1,h2,h3⟩
 ·exact .inl ⟨h1,by simpa [jR.ren,aX.ren_len] using h2⟩
 ·refine .inr ⟨b,cur,h1,h2,fun i cells hi => ?_⟩
  obtain ⟨q1,q2⟩:=h3 i (AV.renL ι cells) (by simp only [jR.ren,aX.ren_get,hi,Option.map_some])
  rw [pC] at q1
  refine ⟨q1,fun j c hj => ?_⟩
  obtain ⟨u,hu,hr⟩:=q2 j (c.ren ι) (by rw [pB,hj];rfl)
  exact ⟨u,hu,hr.unren R c rfl⟩
theorem iA.restrict (H:iA E F μ h w) (hι : ∀ p q, ι p=ι q→p=q) (R:Ren ι (fun p f=>μ (ι p) f) hc μ h) (hid : ∀ p,E.h0 p ≠ .no→ι p=p):iA E F (fun p f=>μ (ι p) f) hc w:=by
 have up : ∀ {p f o},lv hc p f=some o→lv h (ι p) f=some (o.ren ι):=fun hl=>by rw [R.lv_,hl];rfl
 refine ⟨fun k f o hl=>(H.ob _ _ _ (up hl)).unren R,fun k f o k' f' o' b h1 h2 m1 m2 => ?_,fun k f o b hl hm=>H.sep _ _ _ b (up hl) hm,fun k f o b hl hm=>H.src _ _ _ b (up hl) hm,H.fz,H.fsrc,⟨H.ev.fr,H.ev.fs,fun p hp => ?_,fun p f o' hp ho' => ?_⟩,H.os,H.tape,H.output,H.size,H.keep⟩
 ·obtain ⟨e1,e2⟩:=H.inj _ _ _ _ _ _ b (up h1) (up h2) m1 m2
  exact ⟨hι _ _ e1,e2⟩
 ·intro e
  have h1:=(R.no_ p).2 e
  rw [hid p hp] at h1
  exact H.ev.born p hp h1
 ·have h1:=up ho'
  rw [hid p hp] at h1
  obtain ⟨o,ho,hx⟩:=H.ev.live p f _ hp h1
  refine ⟨o,ho,?_⟩
  simp only [hid p hp]
  simpa [jR.ren,aX.ren_len] using hx
def fR (ks:List Nat) (B:Nat) (p:Nat):Nat:=match ks[p]? with | some k=>k | none=>B+p
theorem aE9 {ks:List Nat} {B:Nat} (hnd:ks.Nodup) (hlt : ∀ k ∈ ks,k<B) : ∀ p q,fR ks B p=fR ks B q→p=q:=fun p q e=>by
 unfold fR at e
 cases hp:ks[p]? with
 | none =>
  cases hq:ks[q]? with
  | none=>rw [hp,hq] at e;have e:B+p=B+q:=e;omega
  | some k=>rw [hp,hq] at e;have e:B+p=k:=e;have:=hlt k (List.mem_of_getElem? hq);omega
 | some k =>
  cases hq:ks[q]? with
  | none=>rw [hp,hq] at e;have e:k=B+q:=e;have:=hlt k (List.mem_of_getElem? hp);omega
  | some k' =>
   rw [hp,hq] at e
   have e:k=k':=e
   subst e
   exact (List.getElem?_inj (List.getElem?_eq_some_iff.1 hp).1 hnd).1 (hp.trans hq.symm)
inductive AtK (ι:Nat→Nat) (h:dG):List Nat→List fA→Prop
 | nil:AtK ι h [] []
 | cons {k:Nat} {s s':fA} {ks:List Nat} {ss:List fA} (hs:h k=s') (hr:gR ι s s') (q:AtK ι h ks ss):AtK ι h (k :: ks) (s :: ss)
theorem AtK.spec {ks:List Nat} {ss:List fA} (a:AtK ι h ks ss):ks.length=ss.length ∧ ∀ (p:Nat) k s,ks[p]? = some k→ss[p]? = some s→h k=s.ren ι:=by
 induction a with
 | nil=>exact ⟨rfl,fun p k s h=>by simp at h⟩
 | cons hs hr q ih =>
  refine ⟨by simp [ih.1],fun p k s h1 h2 => ?_⟩
  cases p with
  | zero=>simp at h1 h2;subst h1 h2;rw [hs,hr.eq_]
  | succ p=>simp at h1 h2;exact ih.2 p k s h1 h2
theorem AtK.ren_ {ks:List Nat} {B:Nat} {ss:List fA} (a:AtK (fR ks B) h ks ss) (hB:Abv h B):Ren (fR ks B) (fun p f=>μ (fR ks B p) f) (lks ss) μ h:=by
 refine ⟨fun p => ?_,fun p f=>rfl⟩
 obtain ⟨q1,q2⟩:=a.spec
 unfold lks
 rw [List.getD_eq_getElem?_getD]
 cases hp:ks[p]? with
 | none =>
  have:ss[p]? = none:=by rw [List.getElem?_eq_none_iff] at hp ⊢;omega
  rw [this]
  have e:fR ks B p=B+p:=by unfold fR;rw [hp]
  rw [e,hB _ (by omega)];rfl
 | some k =>
  have hlt:p<ss.length:=by have:=(List.getElem?_eq_some_iff.1 hp).1;omega
  have e:fR ks B p=k:=by unfold fR;rw [hp]
  rw [e,q2 p k _ hp (List.getElem?_eq_getElem hlt),List.getElem?_eq_getElem hlt];rfl
structure aF0 (T:Tab) (N:Nat) (fn:Func) (m:Nat) (hout:List fA) (r:AV) (σ:AS):Prop where
 ex : ∃ rs as r' ks B,fn.results.toList=rs∧qA T N σ rs as∧aWm as=r'∧ks.Nodup∧(∀ k ∈ ks,k<B)∧(∀ p,p<m→fR ks B p=p)∧Abv σ.h B∧AtK (fR ks B) σ.h ks hout∧r'=r.ren (fR ks B)
def bDv (T:Tab) (N:Nat) (fn:Func) (m:Nat) (hout:List fA) (r:AV):qL→AS→Prop
 | .normal, σ=>aF0 T N fn m hout r σ
 | .ret, σ=>aF0 T N fn m hout r σ
 | _,_=>False
def aU7:List AV→Nat→Nat→AV
 | [],_=>fun _ => .dead
 | a :: as,k=>aA (aU7 as (k+1)) k a
theorem aOb : ∀ (as:List AV) (k p:Nat),aU7 as k (k+p)=as.getD p .dead
 | [],k,p=>by simp [aU7]
 | a :: as,k,0=>by simp [aU7,gC]
 | a :: as,k,p+1=>by
  rw [aU7,kS _ _ (by omega),show k+(p+1)=k+1+p by omega,aOb as (k+1) p];simp
theorem aYi (as:List AV) (t:Nat):aU7 as 0 t=as.getD t .dead:=by have:=aOb as 0 t;rwa [Nat.zero_add] at this
theorem tR (hT:TOk P T) {f:FuncId} {fn:Func} {body:Code} {hin hout:List fA} {as:List AV} {r:AV} (hf:P.funcs[f]? = some fn) (hb:fn.body=some body) (hN:fn.ntmps=N) (hc:aF2 P f=true) (hl:Nat.ble as.length N=true) (hm:Nat.ble hin.length L=true)
    (hw:AW L P N body (bDv T N fn hin.length hout r) ⟨aU7 as 0,lks hin⟩):FnC P f hin as hout r:=by
  refine ⟨hc,fun w F μ vs gl H hs hr => ?_⟩
  have hle:=Nat.le_of_ble_eq_true hl
  refine calls_of_wp hf hb (wp_mono (hw ⟨w,F, μ,lks hin,gl⟩ _ w ⟨F, μ,H,rfl,?_,fun t ht => ?_,fun p hp => ?_⟩) fun e a w' q => ?_)
  · simp [hN];omega
  · simp only
    rw [aYi]
    rcases Nat.lt_or_ge t as.length with hlt | hge
    · have h1:as.getD t .dead=as[t]:=by simp [List.getD,hlt]
      have h2:(vs++Array.replicate (fn.ntmps-vs.size) undef).getD t undef=vs[t]'(by omega):=by
        have:t<vs.size:=by omega
        simp [Array.getElem?_append,this]
      rw [h1,h2]
      exact hr t _ _ (Array.getElem?_eq_getElem (by omega)) (List.getElem?_eq_getElem hlt)
    · have h1:as.getD t .dead = .dead:=by simp [List.getD,List.getElem?_eq_none hge]
      rw [h1]
      exact .dead _
  · have:=Nat.le_of_ble_eq_true hm
    show lks hin p = .no
    unfold lks
    simp [List.getD,List.getElem?_eq_none (show hin.length≤p by omega)]
  · have fin : ∀ σ,Abs L ⟨w,F, μ,lks hin,gl⟩ N σ a w'→aF0 T N fn hin.length hout r σ→a.defers=[] ∧ ∃ v,(results fn a.tmps).run P w' = .ok v w' ∧
        (∃ v' F' μ',Ending.returned v = .returned v'∧iA ⟨w,F, μ,lks hin,gl⟩ F' μ' (lks hout) w'∧eP w' F' μ' (lks hout) v' r):=by
      rintro σ ⟨F', μ',A⟩ ⟨rs,as',r',ks,B,q1,q2,q3,q4,q5,q6,q7,q8,q9⟩
      obtain ⟨v,hv,hr⟩:=aNj hT q1 q2 A
      have R:=q8.ren_ (μ:=μ') q7
      refine ⟨A.df,v,hv,v,F',_,rfl,A.H.restrict (aE9 q4 q5) R (fun p hp => ?_),?_⟩
      · refine q6 p ?_
        rcases Nat.lt_or_ge p hin.length with hlt | hge
        · exact hlt
        · exfalso
          apply hp
          show lks hin p = .no
          unfold lks
          simp [List.getD,List.getElem?_eq_none hge]
      · rw [q3] at hr
        exact hr.unren R r q9
    cases e with
    | normal=>obtain ⟨σ,A,q⟩:=q;exact fin σ A q
    | ret=>obtain ⟨σ,A,q⟩:=q;exact fin σ A q
    | exit i=>obtain ⟨σ,A,q⟩:=q;exact q.elim
    | goto l=>obtain ⟨σ,A,q⟩:=q;exact q.elim
    | panic c=>exact q.elim
    | outgrown=>exact q.elim
theorem aSo (hT:TOk P T) {f:FuncId} {fn:Func} {body:Code} {hin hout:List fA} {as:List AV} {r:AV} (hf:P.funcs[f]? = some fn) (hb:fn.body=some body) (hN:fn.ntmps=N) (hc:aF2 P f=true) (hl:Nat.ble as.length N=true) (hm:Nat.ble hin.length 3=true)
  (hw:AW 3 P N body (bDv T N fn hin.length hout r) ⟨aU7 as 0,lks hin⟩):FnC P f hin as hout r:=tR (L:=3) hT hf hb hN hc hl hm hw
theorem mY {ss:List fA} {B:Nat} (hl:Nat.ble ss.length B=true):Abv (lks ss) B:=fun k hk=>by
 have:=Nat.le_of_ble_eq_true hl
 unfold lks
 simp [List.getD,List.getElem?_eq_none (show ss.length≤k by omega)]
mutual
theorem aIz {ι:Nat→Nat} : ∀ {a:AV},a.free=true→a.ren ι=a
 | .d _,_=>rfl
 | .agg cs,h=>by rw [AV.ren,aA0 (by simpa [AV.free] using h)]
 | .tup cs,h=>by rw [AV.ren,aA0 (by simpa [AV.free] using h)]
 | .ref _,_=>rfl
 | .ptr ..,h=>by simp [AV.free] at h
 | .own ..,h=>by simp [AV.free] at h
 | .fn _ cs,h=>by rw [AV.ren,aA0 (by simpa [AV.free] using h)]
 | .dead,_=>rfl
theorem aA0 {ι:Nat→Nat} : ∀ {l:List AV},AV.freeL l=true→AV.renL ι l=l
 | [],_=>rfl
 | c :: cs,h=>by
  simp [AV.freeL] at h
  rw [AV.renL,aIz h.1,aA0 h.2]
end
theorem bFm {fn:Func} {rs:List ResultVar} {as:List AV} {r:AV} (B:Nat) (hrs:fn.results.toList=rs) (R:qA T N ⟨t,h⟩ rs as) (hB:Abv h B) (hf:r.free=true) (e:aWm as=r):aF0 T N fn 0 [] r ⟨t,h⟩ :=
 ⟨rs,as,r,[],B,hrs,R,e, .nil,fun k hk=>(by cases hk),fun p hp=>absurd hp (Nat.not_lt_zero p),hB, .nil,(aIz hf).symm⟩
theorem bGf {fn:Func} {rs:List ResultVar} {as:List AV} {r:AV} {hout:List fA} (ks:List Nat) (B:Nat) (hrs:fn.results.toList=rs) (R:qA T N ⟨t,h⟩ rs as) (hB:Abv h B) (hnd:ks.Nodup) (hlt : ∀ k ∈ ks,k<B) (hk:AtK (fR ks B) h ks hout) (e:aWm as=r.ren (fR ks B)):aF0 T N fn 0 hout r ⟨t,h⟩ :=
 ⟨rs,as,_,ks,B,hrs,R,rfl,hnd,hlt,fun p hp=>absurd hp (Nat.not_lt_zero p),hB,hk,e⟩
variable {c:Code} {Q:qL→AS→Prop}
theorem cZ.of_own {ι:Nat→Nat} {k k' f n n':Nat} (e:n=n') (h:ι k=k'):cZ ι (.own k f n) (.own k' f n'):=by subst e;exact .own _ _ _ _ h
inductive WT (ι:Nat→Nat) (s:Nat→AV):(Nat→AV)→Prop
 | nil:WT ι s fun _ => .dead
 | upd {t:Nat→AV} {d:Nat} {r r':AV} (h:s d=r') (hr:r'=r.ren ι) (k:WT ι s t):WT ι s (aA t d r)
theorem WT.spec {s t:Nat→AV} (wt:WT ι s t) (d:Nat):s d=(t d).ren ι∨t d = .dead:=by
 induction wt with
 | nil=>exact .inr rfl
 | upd h hr k ih =>
  rename_i t d' r r'
  by_cases e:d=d'
  ·subst e;rw [gC,h,hr];exact .inl rfl
  ·rw [kS _ _ e];exact ih
theorem WT.ren_ {s t:Nat→AV} {d:Nat} {r r':AV} (h:s d=r') (hr:cZ ι r r') (k:WT ι s t):WT ι s (aA t d r) := .upd h hr.eq_ k
theorem WT.free_ {s t:Nat→AV} {d:Nat} {r:AV} (hf:r.free=true) (h:s d=r) (k:WT ι s t):WT ι s (aA t d r) := .upd h (aIz hf).symm k
inductive WH (ι:Nat→Nat) (h:dG):Nat→List fA→Prop
 | nil (k:Nat):WH ι h k []
 | cons {k:Nat} {s s':fA} {ss:List fA} (hs:h k=s') (hr:gR ι s s') (q:WH ι h (k+1) ss):WH ι h k (s :: ss)
theorem WH.spec {k:Nat} {ss:List fA} (wh:WH ι h k ss) : ∀ (p:Nat) s,ss[p]? = some s→h (k+p)=s.ren ι:=by
 induction wh with
 | nil k=>intro p s h;simp at h
 | cons hs hr q ih =>
  intro p s hp
  cases p with
  | zero=>simp at hp;subst hp;rw [Nat.add_zero,hs,hr.eq_]
  | succ p=>simp at hp;have:=ih p s hp;rw [show ∀ k:Nat,k+(p+1)=k+1+p by omega];exact this
theorem WH.data_ {k:Nat} {ty:TypeId} {sz:Nat} {es:List (List DV)} {ss:List fA} (hs:h k = .live [⟨ty,sz, .data es⟩]) (q:WH ι h (k+1) ss):WH ι h k (.live [⟨ty,sz, .data es⟩] :: ss) := .cons hs (.data _ _ _) q
theorem AtK.data_ {k:Nat} {ty:TypeId} {sz:Nat} {es:List (List DV)} {ks:List Nat} {ss:List fA} (hs:h k = .live [⟨ty,sz, .data es⟩]) (q:AtK ι h ks ss):AtK ι h (k :: ks) (.live [⟨ty,sz, .data es⟩] :: ss) := .cons hs (.data _ _ _) q
theorem aR (k:Nat) (hk:h k = .no) (et:TypeId) (esz:Nat) {d:Nat} (hd:t d = .d (.v (.slice none 0 0))) :
  lJ L N ⟨t,h⟩ ⟨aA t d (.own k 0 0),upd h k (.live [⟨et,esz, .data []⟩])⟩:=by
 rintro E a w ⟨F, μ,A⟩
 obtain ⟨H1,V1⟩:=A.H.adopt k hk ⟨et,esz, .data []⟩ rfl
 refine ⟨F,_,H1,A.df,A.sz,fun d' hd' => ?_,A.lim⟩
 ·by_cases e:d'=d
  ·subst e
   have h1:=A.tm d' hd'
   dsimp only at h1 ⊢
   rw [hd] at h1
   have h6:=gU h1
   rw [h6,gC]
   refine .own _ _ _ _ rfl (by rw [bR];intro e;cases e) fun o ho => ?_
   rw [cO] at ho
   simp at ho
   subst ho
   exact ⟨Nat.le_refl _,fun _ => .inl ⟨cE _ _ _ _,rfl,rfl⟩⟩
  ·dsimp only;rw [kS _ _ e]
   exact (A.tm d' hd').evo V1
theorem yF (k:Nat) (hk:h k = .no) (et:TypeId) (esz:Nat) {kb:Nat} {bt:TypeId} {sz j:Nat} {cells cells':List AV} (hb:h kb = .live [⟨bt,sz, .av [cells]⟩]) (hj:cells[j]? = some (.d (.v (.slice none 0 0)))) (hs:Spl j [.own k 0 0] cells cells') :
  lJ L N ⟨t,h⟩ ⟨t,upd (upd h k (.live [⟨et,esz, .data []⟩])) kb (.live [⟨bt,sz, .av [cells']⟩])⟩:=by
 rintro E a w ⟨F, μ,A⟩
 obtain ⟨H1,V1⟩:=A.H.adopt k hk ⟨et,esz, .data []⟩ rfl
 have hkb:kb≠k:=fun e=>by rw [e,hk] at hb;cases hb
 have hb1:upd h k (.live [⟨et,esz, .data []⟩]) kb = .live [⟨bt,sz, .av [cells]⟩]:=by rw [dE _ _ hkb];exact hb
 obtain ⟨s1,s2,s3,s4⟩:=hs.spec
 have hl1:lv (upd h k (.live [⟨et,esz, .data []⟩])) kb 0=some ⟨bt,sz, .av [cells]⟩:=by rw [iX hb1];rfl
 obtain ⟨b,cur,hm,hcur,hat⟩:=aKs H1 hl1 (by simp [aX.len])
 obtain ⟨c1,c2⟩:=hat 0 cells rfl
 have hcurlt:b<w.heap.size:=(Array.getElem?_eq_some_iff.1 hcur).1
 obtain ⟨H2,V2⟩:=H1.put (w':=w) hb1 (f:=0) rfl (o':=⟨bt,sz, .av [cells']⟩) b cur (Nat.le_refl _) rfl rfl rfl (fun _ _ _=>rfl) (.inl hm) hcurlt hcur (.inr ⟨rfl,rfl,rfl,hm,fun cur2 h2=>by rw [hcur] at h2;injection h2 with h2;injection h2 with h2;rw [h2]⟩) (fun i cl hcl=>by
  cases i with
  | succ i=>simp [aX.get] at hcl
  | zero =>
   simp only [aX.get,List.getElem?_cons_zero,Option.some.injEq] at hcl
   subst hcl
   refine ⟨s1.trans c1,fun j' x hx => ?_⟩
   by_cases e:j'=j
   ·subst e
    obtain ⟨u,hu,hr⟩:=c2 j' _ hj
    refine ⟨u,hu,?_⟩
    have h5:=s4 0 (by simp)
    rw [Nat.add_zero,hx] at h5
    simp at h5
    subst h5
    have h6:=gU hr
    subst h6
    refine .own _ _ _ _ rfl (by rw [bR];intro e;cases e) fun o ho => ?_
    rw [cO] at ho
    simp at ho
    subst ho
    exact ⟨Nat.le_refl _,fun _ => .inl ⟨cE _ _ _ _,rfl,rfl⟩⟩
   ·rw [s3 j' (by simp;omega)] at hx
    exact c2 j' x hx)
 refine ⟨F,_,H2,A.df,A.sz,fun d hd => ?_,A.lim⟩
 exact ((A.tm d hd).evo V1).evo V2
end
end Go.Proofs.YtbliejnpjpnahaaGreatDoor
namespace Go.Proofs.YtbliejnpjpnahaaGreatDoor
open Go.RowKit
set_option linter.unusedVariables false
set_option maxRecDepth 100000
theorem aO0 {α β:Type} {f:α→β} {xs:List α} {k:Nat} {x:α} (h:xs[k]? = some x):(xs.map f)[k]? = some (f x):=by simp [h]
section
variable {P:Program} {T:Tab} {L N:Nat} {ops:Array Oper} {E:Env} {F:Nat→Prop} {μ:bJ} {w:World} {i:Nat} {is:List Nat} {t:Nat→AV} {h h' hc:dG} {ι:Nat→Nat} {d:Tmp} {dst:Option Tmp} {op:Op} {ty:TypeId} {pos:String} {aft:Array Edge} {g:Option (Nat × Bool)}
inductive aRt (ι:Nat→Nat):dG→List Nat→List fA→dG→Prop
 | nil (h:dG):aRt ι h [] [] h
 | cons {h h':dG} {k:Nat} {s s':fA} {ks:List Nat} {ss:List fA} (hs:gR ι s s') (q:aRt ι (upd h k s') ks ss h'):aRt ι h (k :: ks) (s :: ss) h'
theorem aRt.other {ks:List Nat} {ss:List fA} (u:aRt ι h ks ss h') (k:Nat) (hk:k ∉ ks):h' k=h k:=by
 induction u with
 | nil=>rfl
 | cons hs q ih =>
  simp only [List.mem_cons,not_or] at hk
  rw [ih hk.2,dE _ _ hk.1]
theorem aRt.at_ {ks:List Nat} {ss:List fA} (u:aRt ι h ks ss h') (hnd:ks.Nodup):ks.length=ss.length ∧ ∀ (p:Nat) k s,ks[p]? = some k→ss[p]? = some s→h' k=s.ren ι:=by
 induction u with
 | nil=>exact ⟨rfl,fun p k s h=>by simp at h⟩
 | cons hs q ih =>
  obtain ⟨h1,h2⟩:=List.nodup_cons.1 hnd
  obtain ⟨a1,a2⟩:=ih h2
  refine ⟨by simp [a1],fun p k s hp1 hp2 => ?_⟩
  cases p with
  | zero=>simp at hp1 hp2;subst hp1 hp2;rw [q.other _ h1,bR,hs.eq_]
  | succ p=>simp at hp1 hp2;exact a2 p k s hp1 hp2
theorem iA.hand {gl:aDi F w} (H:iA E F μ h w) (hι : ∀ p q, ι p=ι q→p=q) (R:Ren ι (fun p f=>μ (ι p) f) hc μ h):iA ⟨w,F,fun p f=>μ (ι p) f,hc,gl⟩ F (fun p f=>μ (ι p) f) hc w:=by
 have up : ∀ {p f o},lv hc p f=some o→lv h (ι p) f=some (o.ren ι):=fun hl=>by rw [R.lv_,hl];rfl
 refine ⟨fun k f o hl=>(H.ob _ _ _ (up hl)).unren R,fun k f o k' f' o' b h1 h2 m1 m2 => ?_,fun k f o b hl hm=>H.sep _ _ _ b (up hl) hm,fun k f o b hl hm => .inl ⟨k,f,o,hl,hm⟩,H.fz,fun b hb => .inl hb,Evo.refl_,rfl,rfl,rfl,Nat.le_refl _,fun _ _ _=>rfl⟩
 obtain ⟨e1,e2⟩:=H.inj _ _ _ _ _ _ b (up h1) (up h2) m1 m2
 exact ⟨hι _ _ e1,e2⟩
theorem gF.get {as bs:List AV} (r:gF ι as bs):bs=AV.renL ι as:=r.eq_
open Classical in
theorem aXa (ks:List Nat) (B:Nat) {f:FuncId} {x:Operand} {args:Array Operand} {at_:Array TypeId} {caps as as':List AV} {hin hout:List fA} {r r':AV} (hx:evA N ⟨t,h⟩ x = .fn f caps) (ha:evL N ⟨t,h⟩ args.toList++caps=as') (har:gF (fR ks B) as as') (hF:FnC P f hin as hout r)
  (hB:Abv h B) (hnd:ks.Nodup) (hlt : ∀ k ∈ ks,k<B) (hk:AtK (fR ks B) h ks hin) (hb:aRt (fR ks B) h ks hout h') (hr:cZ (fR ks B) r r'):cQ P N ⟨dst, .call ⟨.value x,args,at_⟩,ty,pos,aft,g⟩ ⟨t,h⟩ r' h':=fun E F μ w ρ H st=>by
 obtain ⟨cap,c1,c2,c3⟩:=zW st hx
 rw [aAb hF.c c1]
 rw [ha] at c2 c3
 have R:=hk.ren_ (μ:=μ) hB
 have inj:=aE9 hnd hlt
 refine (hF.g w F (fun p f=>μ (fR ks B p) f) _ H.glob (H.hand inj R) (by rw [c2,har.eq_,pC]) fun i v a h1 h2 => ?_).mono ?_
 ·have h3:as'[i]? = some (a.ren (fR ks B)):=by rw [har.eq_,pB,h2];rfl
  exact (c3 i v _ h1 h3).unren R a rfl
 ·rintro e w' ⟨v,F', μ1,rfl,H1,hv⟩
  obtain ⟨u1,u2⟩:=hb.at_ hnd
  have inks : ∀ p,p<ks.length→fR ks B p ∈ ks:=fun p hp=>by
   have:fR ks B p=ks[p]:=by unfold fR;rw [List.getElem?_eq_getElem hp]
   rw [this];exact List.getElem_mem hp
  have hi : ∀ p,ks.length≤p→fR ks B p=B+p:=fun p hp=>by unfold fR;rw [List.getElem?_eq_none hp]
  have R1:Ren (fR ks B) μ1 (lks hout) (fun k f=>if ∃ p,k=fR ks B p then μ1 (if hk : ∃ p,k=fR ks B p then hk.choose else 0) f else μ k f) h':=by
   refine ⟨fun p => ?_,fun p f => ?_⟩
   ·unfold lks
    rw [List.getD_eq_getElem?_getD]
    rcases Nat.lt_or_ge p ks.length with hp | hp
    ·have e1:fR ks B p=ks[p]:=by unfold fR;rw [List.getElem?_eq_getElem hp]
     rw [e1,u2 p _ _ (List.getElem?_eq_getElem hp) (List.getElem?_eq_getElem (show p<hout.length by omega)),List.getElem?_eq_getElem (show p<hout.length by omega)];rfl
    ·rw [hi p hp,hb.other _ (fun hm=>by have:=hlt _ hm;omega),hB _ (by omega),List.getElem?_eq_none (show hout.length≤p by omega)];rfl
   ·have hex : ∃ q,fR ks B p=fR ks B q:=⟨p,rfl⟩
    rw [if_pos hex,dif_pos hex,inj _ _ hex.choose_spec.symm]
  have hoth : ∀ k,(∀ p,k≠fR ks B p)→h' k=h k:=fun k hk=>hb.other k fun hm=>by
   obtain ⟨p,hp,e⟩:=List.mem_iff_getElem.1 hm
   refine hk p ?_
   unfold fR
   rw [List.getElem?_eq_getElem hp,e]
  obtain ⟨J1,J2⟩:=H.join inj R H1 R1 (fun k hk=>⟨hoth k hk,fun f=>by rw [if_neg (fun ⟨p,hp⟩=>hk p hp)]⟩)
  exact ⟨v,rfl,F',_,J1,J2,by rw [hr.eq_];exact hv.ren R1⟩
theorem bGg {fn:Func} {rs:List ResultVar} {as:List AV} {r:AV} {hout:List fA} (m B:Nat) (hm:Nat.beq hout.length m=true) (hrs:fn.results.toList=rs) (R:qA T N ⟨t,h⟩ rs as) (hB:Abv h B) (hlt:Nat.blt m B=true) (hk:AtK (fR (List.range m) B) h (List.range m) hout) (e:aWm as=r.ren (fR (List.range m) B)):aF0 T N fn m hout r ⟨t,h⟩:=by
 have hml:=oB hlt
 refine ⟨rs,as,_,List.range m,B,hrs,R,rfl,List.nodup_range,fun k hk => ?_,fun p hp => ?_,hB,hk,e⟩
 ·have:=List.mem_range.1 hk;omega
 ·unfold fR;rw [List.getElem?_range hp]
section ints
variable {xt yt:TypeId} {x y:Operand}
theorem dK {a b:ByteArray} (hx:evA N ⟨t,h⟩ x = .d (.v (.string a))) (hy:evA N ⟨t,h⟩ y = .d (.v (.string b))) (hs:a.size+b.size≤9223372036854775807):eC P N ⟨some d, .binOp .add xt x y yt,ty,pos,aft,g⟩ ⟨t,h⟩ (.d (.v (.string (a++b)))) :=
 lU (by rw [hx];rfl) (by rw [hy];rfl) fun w=>by
  have : ¬ (9223372036854775807:Int)<(a.size:Int)+(b.size:Int):=by omega
  simp [eqGuard,binOp,Op.stringOp,this]
theorem aHp (a b:ByteArray):(a.toList == b.toList)=decide (a=b):=by
 by_cases e:a=b
 ·subst e;simp
 ·rw [decide_eq_false e,beq_eq_false_iff_ne]
  rw [ByteArray.toList_eq,ByteArray.toList_eq]
  intro h
  apply e
  cases a;cases b;simp at h;simp [h]
theorem aEd (a b:ByteArray):(a.toList=b.toList)=(a=b):=by
 apply propext
 constructor
 ·intro e
  have:=aHp a b
  rw [e] at this
  simpa using this.symm
 ·intro e;rw [e]
theorem aZm {a b:ByteArray} (hx:evA N ⟨t,h⟩ x = .d (.v (.string a))) (hy:evA N ⟨t,h⟩ y = .d (.v (.string b))):eC P N ⟨some d, .binOp .eql xt x y yt,ty,pos,aft,g⟩ ⟨t,h⟩ (.d (.v (.bool (decide (a=b))))) :=
 lU (by rw [hx];rfl) (by rw [hy];rfl) fun w=>by simp [eqGuard,binOp,Op.stringOp,aHp]
theorem aNg {a b:ByteArray} (hx:evA N ⟨t,h⟩ x = .d (.v (.string a))) (hy:evA N ⟨t,h⟩ y = .d (.v (.string b))):eC P N ⟨some d, .binOp .neq xt x y yt,ty,pos,aft,g⟩ ⟨t,h⟩ (.d (.v (.bool (decide (a≠b))))) :=
 lU (by rw [hx];rfl) (by rw [hy];rfl) fun w=>by simp [eqGuard,binOp,Op.stringOp,aHp]
theorem aZi (hT:TOk P T) {a b:Bool} {ti:TI} (hx:evA N ⟨t,h⟩ x = .d (.v (.bool a))) (hy:evA N ⟨t,h⟩ y = .d (.v (.bool b))) (h1:T xt=some ti) (h2:ti.desc = .bool):eC P N ⟨some d, .binOp .eql xt x y yt,ty,pos,aft,g⟩ ⟨t,h⟩ (.d (.v (.bool (a == b)))) :=
 lU (by rw [hx];rfl) (by rw [hy];rfl) fun w=>by
  have hu:=(hT _ _ h1).1
  rw [h2] at hu
  have e : ∀ n,(Op.equalIn (n+1) xt (.bool a) (.bool b)).run P w = .ok (a == b) w:=fun n=>by simp [Op.equalIn,run_underlying hu]
  have e2:(Op.equal xt (.bool a) (.bool b)).run P w = .ok (a == b) w:=e 9999
  simp [eqGuard,binOp,e2]
theorem aTt (hT:TOk P T) {a b:Bool} {ti:TI} (hx:evA N ⟨t,h⟩ x = .d (.v (.bool a))) (hy:evA N ⟨t,h⟩ y = .d (.v (.bool b))) (h1:T xt=some ti) (h2:ti.desc = .bool):eC P N ⟨some d, .binOp .neq xt x y yt,ty,pos,aft,g⟩ ⟨t,h⟩ (.d (.v (.bool (a != b)))) :=
 lU (by rw [hx];rfl) (by rw [hy];rfl) fun w=>by
  have hu:=(hT _ _ h1).1
  rw [h2] at hu
  have e : ∀ n,(Op.equalIn (n+1) xt (.bool a) (.bool b)).run P w = .ok (a == b) w:=fun n=>by simp [Op.equalIn,run_underlying hu]
  have e2:(Op.equal xt (.bool a) (.bool b)).run P w = .ok (a == b) w:=e 9999
  simp [eqGuard,binOp,e2,bne]
theorem aTv {k:IntKind} {a b:Int} {at_:Array TypeId} (hx:evA N ⟨t,h⟩ x = .d (.v (.int k a))) (hy:evA N ⟨t,h⟩ y = .d (.v (.int k b))):eC P N ⟨some d, .call ⟨.builtin .min, #[x,y],at_⟩,ty,pos,aft,g⟩ ⟨t,h⟩ (.d (.v (.int k (min a b)))):=fun w F μ hh ρ st=>by
 have h1:=gU (by have:=st x (by simp [Op.operands,Call.operands]);rw [hx] at this;exact this)
 have h2:=gU (by have:=st y (by simp [Op.operands,Call.operands]);rw [hy] at this;exact this)
 refine ⟨.int k (min a b),?_, .d _ _ (.v _ rfl)⟩
 have:(if b<a then b else a)=min a b:=by split <;> omega
 simp [execOp,resolve,invoke,builtin,h1,h2,Builtin.min_,Builtin.min2,this]
theorem aX1 {k:IntKind} {a b:Int} {at_:Array TypeId} (hx:evA N ⟨t,h⟩ x = .d (.v (.int k a))) (hy:evA N ⟨t,h⟩ y = .d (.v (.int k b))):eC P N ⟨some d, .call ⟨.builtin .max, #[x,y],at_⟩,ty,pos,aft,g⟩ ⟨t,h⟩ (.d (.v (.int k (max a b)))):=fun w F μ hh ρ st=>by
 have h1:=gU (by have:=st x (by simp [Op.operands,Call.operands]);rw [hx] at this;exact this)
 have h2:=gU (by have:=st y (by simp [Op.operands,Call.operands]);rw [hy] at this;exact this)
 refine ⟨.int k (max a b),?_, .d _ _ (.v _ rfl)⟩
 have:(if a<b then b else a)=max a b:=by split <;> omega
 simp [execOp,resolve,invoke,builtin,h1,h2,Builtin.max_,Builtin.max2,this]
end ints
inductive Pre:List DV→List DV→Prop
 | z (l:List DV):Pre l []
 | t {a:DV} {l r:List DV} (h:Pre l r):Pre (a :: l) (a :: r)
theorem aD1 {cs ds:List DV} (hp:Pre cs ds):sM h (.ref cs) (.ref ds):=by
 refine .ref cs ds ?_
 induction hp with
 | z l=>intro j x hx;simp at hx
 | t k ih =>
  intro j x hx
  cases j with
  | zero=>exact hx
  | succ j=>exact ih j x hx
inductive aN8:Nat→List AV→List DV→Prop
 | z (l:List AV):aN8 0 l []
 | t {x:DV} {l:List AV} {r:List DV} (h:aN8 0 l r):aN8 0 (.d x :: l) (x :: r)
 | d {o:Nat} {a:AV} {l:List AV} {r:List DV} (h:aN8 o l r):aN8 (o+1) (a :: l) r
theorem aN8.spec {o:Nat} {l:List AV} {r:List DV} (h:aN8 o l r):o+r.length≤l.length ∧ ∀ (t:Nat) (c:AV) (x:DV),l[o+t]? = some c→r[t]? = some x→c = .d x:=by
 induction h with
 | z l=>exact ⟨by simp,fun t c x _ hx=>by simp at hx⟩
 | t k ih =>
  refine ⟨by simp;have:=ih.1;omega,fun t c x hc hx => ?_⟩
  cases t with
  | zero=>simp at hc hx;rw [← hc,hx]
  | succ t=>exact ih.2 t c x (by simpa using hc) (by simpa using hx)
 | @d o a l r k ih =>
  refine ⟨by simp;have:=ih.1;omega,fun t c x hc hx => ?_⟩
  rw [show o+1+t=o+t+1 by omega,List.getElem?_cons_succ] at hc
  exact ih.2 t c x hc hx
theorem aLr {k j:Nat} {ty:TypeId} {sz:Nat} {cells:List AV} {ds:List DV} (hk:h k = .live [⟨ty,sz, .av [cells]⟩]) (hd:aN8 j cells ds):sM h (.ptr k 0 1 0 j) (.ref ds):=by
 refine .ptr k 0 1 0 j ⟨ty,sz, .av [cells]⟩ cells ds (by rw [iX hk];rfl) rfl rfl (by have:=hd.spec.1;omega) fun t c x hc hx => ?_
 rw [hd.spec.2 t c x hc hx]
 exact .d x
inductive aGp (h:dG):Nat→List AV→List DV→Prop
 | z (l:List AV):aGp h 0 l []
 | t {c:AV} {x:DV} {l:List AV} {r:List DV} (hv:sM h c (.d x)) (k:aGp h 0 l r):aGp h 0 (c :: l) (x :: r)
 | d {o:Nat} {a:AV} {l:List AV} {r:List DV} (k:aGp h o l r):aGp h (o+1) (a :: l) r
theorem aGp.spec {o:Nat} {l:List AV} {r:List DV} (q:aGp h o l r):o+r.length≤l.length ∧ ∀ (t:Nat) (c:AV) (x:DV),l[o+t]? = some c→r[t]? = some x→sM h c (.d x):=by
 induction q with
 | z l=>exact ⟨by simp,fun t c x _ hx=>by simp at hx⟩
 | t hv k ih =>
  refine ⟨by simp;have:=ih.1;omega,fun t c x hc hx => ?_⟩
  cases t with
  | zero=>simp at hc hx;rw [← hc, ← hx];exact hv
  | succ t=>exact ih.2 t c x (by simpa using hc) (by simpa using hx)
 | @d o a l r k ih =>
  refine ⟨by simp;have:=ih.1;omega,fun t c x hc hx => ?_⟩
  rw [show o+1+t=o+t+1 by omega,List.getElem?_cons_succ] at hc
  exact ih.2 t c x hc hx
theorem aHd {k j:Nat} {ty:TypeId} {sz:Nat} {cells:List AV} {ds:List DV} (hk:h k = .live [⟨ty,sz, .av [cells]⟩]) (hd:aGp h j cells ds):sM h (.ptr k 0 1 0 j) (.ref ds):=by
 refine .ptr k 0 1 0 j ⟨ty,sz, .av [cells]⟩ cells ds (by rw [iX hk];rfl) rfl rfl (by have:=hd.spec.1;omega) fun t c x hc hx => ?_
 exact hd.spec.2 t c x hc hx
theorem aOh {f:FuncId} {as:List AV} {hs:List fA} {b:Value} (hF:FnC P f [] as hs (.d (.v b))) (W:World) (vs:Array Value) (hl:vs.size=as.length) (hr : ∀ (i:Nat) v a,vs[i]? = some v→as[i]? = some a→eP W (fun b=>b<W.heap.size) (fun _ _=>none) (lks []) v a)  (hgl:aDi (fun b=>b<W.heap.size) W:=by intro x hx;simp [aQd] at hx) :
  Calls P f vs W fun e w'=>e = .returned b∧Below W.heap.size W w':=by
 refine (hF.g W (fun b=>b<W.heap.size) (fun _ _=>none) vs hgl (iA.start fun b hb=>hb) hl hr).mono ?_
 rintro e w' ⟨v,F', μ',rfl,H,hv⟩
 rw [gU hv]
 exact ⟨rfl,H.os,H.tape,H.output,H.size,fun b hb=>H.keep b hb fun ⟨k,f,o,hl,_⟩=>by simp [lv,lks] at hl⟩
end
end Go.Proofs.YtbliejnpjpnahaaGreatDoor
namespace Go.Proofs.YtbliejnpjpnahaaGreatDoor
open Go.RowKit
set_option linter.unusedVariables false
set_option maxRecDepth 100000
section
variable {P:Program}
def bAr:List AV→Option (List Value)
 | []=>some []
 | a :: as=>match toV a,bAr as with
  | some v,some l=>some (v :: l)
  | _,_=>none
theorem aJi {w:World} {F:Nat→Prop} {μ:bJ} {h:dG} : ∀ {as:List AV} {l:List Value} (vs:List Value),bAr as=some l→vs.length=as.length→(∀ (i:Nat) v a,vs[i]? = some v→as[i]? = some a→eP w F μ h v a)→vs=l
 | [],l,vs,hl,hs,_=>by
  simp [bAr] at hl
  subst hl
  exact List.eq_nil_of_length_eq_zero hs
 | a :: as,l,vs,hl,hs,hr=>by
  match vs,hs with
  | v :: vs,hs =>
   unfold bAr at hl
   split at hl
   ·rename_i v' l' h1 h2
    injection hl with hl
    subst hl
    rw [aFv h1 (hr 0 v a rfl rfl),aJi vs h2 (by simpa using hs) fun i v a h3 h4=>hr (i+1) v a h3 h4]
   ·cases hl
theorem iA.of_below {w w':World} {F:Nat→Prop} {μ:bJ} {gl:aDi F w} (H:iA ⟨w,F, μ,lks [],gl⟩ F μ (lks []) w) (b:Below w.heap.size w w'):iA ⟨w,F, μ,lks [],gl⟩ F μ (lks []) w':=by
 have no : ∀ {k f o},lv (lks []) k f=some o→False:=fun hl=>by simp [lv,lks] at hl
 exact ⟨fun k f o hl=>(no hl).elim,fun k f o k' f' o' b hl=>(no hl).elim,fun k f o b hl=>(no hl).elim,fun k f o b hl=>(no hl).elim,fun x hx=>Nat.lt_of_lt_of_le (H.fz x hx) b.size,fun b hb => .inl hb,
  ⟨fun x hx=>b.block x (H.fz x hx),fun _ hb=>hb,fun _ hb=>hb,fun k f o' hk ho'=>(no ho').elim⟩,b.os,b.tape,b.output,b.size,fun x hx _=>b.block x hx⟩
theorem aSp {f:FuncId} {as:List AV} {vs:List Value} {v:Value} (hc:aF2 P f=true) (hv:bAr as=some vs) (h : ∀ W,Calls P f vs.toArray W fun e w'=>e = .returned v∧Below W.heap.size W w'):FnC P f [] as [] (aOk v):=by
 refine ⟨hc,fun w F μ us gl H hs hr => ?_⟩
 have e:us.toList=vs:=aJi us.toList hv (by simpa using hs) fun i u a h1 h2=>hr i u a (by simpa using h1) h2
 have e2:us=vs.toArray:=by rw [← e]
 rw [e2]
 refine (h w).mono ?_
 rintro e w' ⟨rfl,hb⟩
 exact ⟨v,F, μ,rfl,H.of_below hb,aBl v⟩
theorem aYw {f:FuncId} {as:List AV} {vs:List Value} {v:Value} (hc:aF2 P f=true) (hv:bAr as=some vs) (h : ∀ (W:World) (F:Nat→Prop),aDi F W→Calls P f vs.toArray W fun e w'=>e = .returned v∧Below W.heap.size W w'):FnC P f [] as [] (aOk v):=by
 refine ⟨hc,fun w F μ us gl H hs hr => ?_⟩
 have e:us.toList=vs:=aJi us.toList hv (by simpa using hs) fun i u a h1 h2=>hr i u a (by simpa using h1) h2
 have e2:us=vs.toArray:=by rw [← e]
 rw [e2]
 refine (h w F gl).mono ?_
 rintro e w' ⟨rfl,hb⟩
 exact ⟨v,F, μ,rfl,H.of_below hb,aBl v⟩
end
end Go.Proofs.YtbliejnpjpnahaaGreatDoor
namespace Go.Proofs.YtbliejnpjpnahaaGreatDoor
open Go.RowKit
set_option linter.unusedVariables false
set_option maxRecDepth 100000
def atI {α:Type} (xs:List α) (i:Int):Option α:=if 0≤i then xs[i.toNat]? else none
def chk {α:Type} (b:Prop) [Decidable b] (k:Option α):Option α:=if b then k else none
def w64 (x:Int):Int:=IntKind.i64.wrap x
theorem aQ {x:Int} (h0 : -9223372036854775808≤x) (h1:x≤9223372036854775807):w64 x=x:=bDf h0 h1
def aDp:Nat:=1180591620717411303424
def tY {S X:Type} (step:S→Option (S ⊕ X)):Nat→S→Option X
 | 0,_=>none
 | n+1,s=>match step s with
  | none=>none
  | some (.inl s')=>tY step n s'
  | some (.inr x)=>some x
def bQ {S X:Type} (step:S→Option (S ⊕ X)) (s:S):Option X:=tY step aDp s
def orE {V Z:Type} (x:V ⊕ Z) (f:V→Option Z):Option Z:=match x with
 | .inl v=>f v
 | .inr z=>some z
theorem aTm {V Z:Type} {z:Z} {f:V→Option Z}:orE (.inr z) f=some z:=rfl
theorem bnd {α β:Type} {x:Option α} {f:α→Option β} {r:β} (h:x.bind f=some r) : ∃ y,x=some y∧f y=some r:=by
 cases x with
 | none=>cases h
 | some y=>exact ⟨y,rfl,h⟩
theorem aT {α:Type} {b:Prop} [Decidable b] {k:Option α} {r:α} (h:chk b k=some r):b∧k=some r:=by
 unfold chk at h
 split at h
 ·exact ⟨by assumption,h⟩
 ·cases h
theorem eA {α:Type} {b:Prop} [Decidable b] {k:Option α} (h:b):chk b k=k:=if_pos h
theorem eE {α:Type} {xs:List α} {i:Int} {e:α} (h:atI xs i=some e):i=(i.toNat:Int)∧xs[i.toNat]? = some e∧i.toNat<xs.length:=by
 unfold atI at h
 split at h
 ·exact ⟨by omega,h,(List.getElem?_eq_some_iff.1 h).1⟩
 ·cases h
theorem aL2 {α:Type} {xs:List α} {k:Nat}:atI xs (k:Int)=xs[k]? := by
 unfold atI
 rw [if_pos (by omega),Int.toNat_natCast]
theorem sW {S X:Type} {step:S→Option (S ⊕ X)} (I:S→Prop) (m:S→Nat) (Post:X→Prop) (hs : ∀ s,I s→(∃ s',step s=some (.inl s')∧I s'∧m s'<m s) ∨ ∃ x,step s=some (.inr x)∧Post x) (s0:S) (h0:I s0) (hm:m s0<1180591620717411303424) :
  ∃ x,bQ step s0=some x∧Post x:=by
 have key : ∀ n s,I s→m s<n → ∃ x,tY step n s=some x∧Post x:=by
  intro n
  induction n with
  | zero=>intro s _ h;omega
  | succ n ih =>
   intro s hI hlt
   rcases hs s hI with ⟨s',h1,h2,h3⟩ | ⟨x,h1,h2⟩
   ·obtain ⟨x,h4,h5⟩:=ih s' h2 (by omega)
    exact ⟨x,by simp only [tY,h1];exact h4,h5⟩
   ·exact ⟨x,by simp only [tY,h1],h2⟩
 exact key aDp s0 h0 hm
theorem aOz {S X:Type} {step:S→Option (S ⊕ X)} {x:X} (I:S→Prop) (m:S→Nat) (hs : ∀ s,I s→(∃ s',step s=some (.inl s')∧I s'∧m s'<m s)∨step s=some (.inr x)) {s0:S} (h0:I s0) (hm:m s0<1180591620717411303424):bQ step s0=some x:=by
 obtain ⟨x',h1,rfl⟩:=sW I m (fun x'=>x'=x) (fun s hI=>(hs s hI).imp id fun h=>⟨x,h,rfl⟩) s0 h0 hm
 exact h1
section
variable {P:Program} {T:Tab} {L N:Nat} {ops:Array Oper} {E:Env} {K:List (Nat × Cls)→AS→Prop} {i:Nat} {is:List Nat} {t:Nat→AV} {h h':dG} {d:Tmp} {dst:Option Tmp} {op:Op} {ty:TypeId} {pos:String} {aft:Array Edge} {g:Option (Nat × Bool)} {Q:qL→AS→Prop} {σ:AS} {c x y:Code}
theorem aN (J:AS) (h1:AW L P N x (zS (fun σ'=>lJ L N σ' J) Q) σ) (h2:AW L P N y Q J):AW L P N (.seq x y) Q σ :=
 aOd (h1.mono fun e σ' q=>by cases e <;> first | exact bL q h2 | exact q)
theorem cF {V Y:Type} (v:V ⊕ Y) (J:V→AS) (h1:AW L P N x (zS (fun σ' => ∃ u,v = .inl u∧lJ L N σ' (J u)) Q) σ) (h2 : ∀ u,v = .inl u→AW L P N y Q (J u)):AW L P N (.seq x y) Q σ :=
 aOd (h1.mono fun e σ' q=>by
  cases e <;> first | exact q | skip
  obtain ⟨u,e,w⟩:=q
  exact bL w (h2 u e))
def aPy {S X:Type} (L N:Nat) (St:S→AS) (y:S ⊕ X) (x:X) (Q:qL→AS→Prop):qL→AS→Prop
 | .normal, σ' => ∃ s',y = .inl s'∧lJ L N σ' (St s')
 | e, σ' => ∃ x',y = .inr x'∧(x'=x→Q e σ')
theorem aK {S X:Type} {step:S→Option (S ⊕ X)} (St:S→AS) {s0:S} {x:X} (hx:bQ step s0=some x) (h0:lJ L N σ (St s0)) (round : ∀ s y,step s=some y→AW L P N c (aPy L N St y x Q) (St s)):AW L P N (.loop c) Q σ:=by
 refine aYk (ι:={p:Nat × S // tY step p.1 p.2=some x}) (fun p=>St p.1.2) (fun p=>p.1.1) ⟨(aDp,s0),hx⟩ h0 fun ⟨⟨n,s⟩,hn⟩ => ?_
 cases n with
 | zero=>simp [tY] at hn
 | succ n =>
  cases hst:step s with
  | none=>simp [tY,hst] at hn
  | some y =>
   refine (round s y hst).mono fun e σ' q => ?_
   simp only [tY,hst] at hn
   cases e with
   | normal =>
    obtain ⟨s',rfl,hw⟩:=q
    exact ⟨⟨(n,s'),hn⟩,Nat.lt_succ_self n,hw⟩
   | exit id=>obtain ⟨x',rfl,k⟩:=q;exact k (by simpa using hn)
   | goto l=>obtain ⟨x',rfl,k⟩:=q;exact k (by simpa using hn)
   | ret=>obtain ⟨x',rfl,k⟩:=q;exact k (by simpa using hn)
theorem bD {S X:Type} {St:S→AS} {y:S ⊕ X} {x:X} {σ':AS} (h : ∃ s',y = .inl s'∧lJ L N σ' (St s')):aPy L N St y x Q .normal σ':=h
theorem bBi {S X:Type} {St:S→AS} {y:S ⊕ X} {x:X} {σ':AS} {j:Nat} (h : ∃ x',y = .inr x'∧(x'=x→Q (.exit j) σ')):aPy L N St y x Q (.exit j) σ':=h
theorem bBh {S X:Type} {St:S→AS} {y:S ⊕ X} {x:X} {σ':AS} (h : ∃ x',y = .inr x'∧(x'=x→Q .ret σ')):aPy L N St y x Q .ret σ':=h
theorem bC9 {α:Type} {o:Operand} {p:Prop} [Decidable p] {a b r:α} (h:(if p then a else b)=r) (hb:evA N σ o = .d (.v (.bool (decide p)))) (ht:p→a=r→AW L P N x Q σ) (hf : ¬ p→b=r→AW L P N y Q σ):AW L P N (.cond o x y) Q σ :=
 aVb p hb (fun hp=>ht hp (by rwa [if_pos hp] at h)) (fun hp=>hf hp (by rwa [if_neg hp] at h))
theorem bAx {α:Type} {o:Operand} {p:Bool} {a b r:α} (h:(if p=true then a else b)=r) (hb:evA N σ o = .d (.v (.bool p))) (ht:p=true→a=r→AW L P N x Q σ) (hf : ¬ p=true→b=r→AW L P N y Q σ):AW L P N (.cond o x y) Q σ :=
 aHl p hb (fun hp=>ht hp (by rwa [if_pos hp] at h)) (fun hp=>hf (by simp [hp]) (by rwa [if_neg (by simp [hp])] at h))
theorem aFg {α:Type} {u:Nat} {p:Prop} [Decidable p] {a b r:α} (hh:(if p then a else b)=r) (hb:t u = .d (.v (.bool (decide p)))) (ht:p→a=r→RT P N ops is K ⟨aA t u (.d (.v (.bool true))),h⟩) (hf : ¬ p→b=r→RT P N ops is K ⟨aA t u (.d (.v (.bool false))),h⟩):RT P N ops is K ⟨t,h⟩ :=
 aWo hb (fun hp=>ht hp (by rwa [if_pos hp] at hh)) (fun hp=>hf hp (by rwa [if_neg hp] at hh))
theorem qK {α:Type} {u:Nat} {p:Bool} {a b r:α} (hh:(if p=true then a else b)=r) (hb:t u = .d (.v (.bool p))) (ht:p=true→a=r→RT P N ops is K ⟨aA t u (.d (.v (.bool true))),h⟩) (hf : ¬ p=true→b=r→RT P N ops is K ⟨aA t u (.d (.v (.bool false))),h⟩):RT P N ops is K ⟨t,h⟩ :=
 aT7 hb (fun hp=>ht hp (by rwa [if_pos hp] at hh)) (fun hp=>hf (by simp [hp]) (by rwa [if_neg (by simp [hp])] at hh))
theorem w0 {o:Op}:yX N ops ⟨dst,o,ty,pos,aft,none⟩ σ := .inl rfl
theorem w1 {o:Op} {j u:Nat} {b:Bool} (hj:(ops[j]?).bind (·.dst)=some u) (ht:Nat.blt u N=true) (hb:t u = .d (.v (.bool b))):yX N ops ⟨dst,o,ty,pos,aft,some (j,b)⟩ ⟨t,h⟩:=aUt rfl hj ht hb
theorem bFc {t':Nat→AV} {ss:List fA} (ks:List Nat) (B:Nat) (hnd:ks.Nodup:=by decide) (hlt : ∀ k ∈ ks,k<B:=by decide) (h3:(List.range L).all (fun p=>fR ks B p == p)=true:=by decide)
  (hB:Abv h B:=by repeat (first | exact mZ _ | exact mY rfl | refine nA ?_ rfl)) (wt:WT (fR ks B) t t') (wh:AtK (fR ks B) h ks ss):lJ L N ⟨t,h⟩ ⟨t',lks ss⟩:=by
 rintro E a w ⟨F, μ,A⟩
 have R:=wh.ren_ (μ:=μ) hB
 refine ⟨F,_,A.H.restrict (aE9 hnd hlt) R (fun p hp => ?_),A.df,A.sz,fun d hd => ?_,A.lim⟩
 ·rcases Nat.lt_or_ge p L with h1 | h1
  ·have:=List.all_eq_true.1 h3 p (by simpa using h1)
   simpa using this
  ·exact absurd (A.lim p h1) hp
 ·have hr:=A.tm d hd
  rcases wt.spec d with e | e
  ·have hr:eP w F μ h (a.tmps.getD d undef) (t d):=hr
   rw [e] at hr
   exact hr.unren R (t' d) rfl
  ·show eP w F _ _ _ (t' d)
   rw [e];exact .dead _
def RA (L:Nat) (P:Program) (N:Nat) (ops:Array Oper) (is:List Nat) (Q:qL→AS→Prop) (σ:AS):Prop := ∀ E a w,Abs L E N σ a w→wpOps P ops (bAl L E N Q) is a w
theorem aGs {id:Nat} {is:List Nat} (his:List.range ops.size=is) (h:RA L P N ops is Q σ):AW L P N (.region id ops false) Q σ:=fun E a w A=>wp_region (by rw [his];exact h E a w A)
theorem aX3 (h:Q .normal σ):RA L P N ops [] Q σ:=fun E a w A=>by
 show wpOps P ops (bAl L E N Q) [] a w
 unfold wpOps
 exact ⟨σ,A,h⟩
theorem tN {σ':AS} (hw:lJ L N σ σ') (k:RA L P N ops is Q σ'):RA L P N ops is Q σ:=fun E a w A=>k E a w (hw E a w A)
theorem aT1 {o:Oper} {cl:Cls} {σ1:AS} (ho:ops[i]? = some o) (hs:gD P N ops o σ cl σ1) (k:RA L P N ops is Q σ1):RA L P N ops (i :: is) Q σ:=fun E a w A=>by
 simp only [wpOps,ho]
 have:=hs.sound A (K:=wpOps P ops (bAl L E N Q) is) (Q:=bAl L E N Q) (fun a' w' A'=>k E a' w' A')
 split
 ·rename_i hw;rw [if_pos hw] at this;exact .inl this
 ·rename_i hw;rw [if_neg hw] at this;exact this
theorem aG6 (h:RT P N ops [i] (fun _ σ'=>RA L P N ops is Q σ') σ):RA L P N ops (i :: is) Q σ:=by
 obtain ⟨l, σ',e,C,hk⟩:=h
 cases C with
 | nil=>simp at e
 | cons j c l o _ σ1 _ ho hs hr =>
  simp only [List.map_cons,List.cons.injEq] at e
  obtain ⟨rfl,e⟩:=e
  have:l=[]:=List.map_eq_nil_iff.1 e
  subst this
  cases hr
  exact aT1 ho hs hk
theorem rp {r:AV} (ho:ops[i]? = some ⟨some d,op,ty,pos,aft,g⟩) (hw:yX N ops ⟨some d,op,ty,pos,aft,g⟩ ⟨t,h⟩) (hd:Nat.blt d N=true) (hp:eC P N ⟨some d,op,ty,pos,aft,g⟩ ⟨t,h⟩ r) (k:RA L P N ops is Q ⟨aA t d r,h⟩):RA L P N ops (i :: is) Q ⟨t,h⟩:=aG6 (aWp ho hw hd hp (aCy k))
theorem rl {r:AV} (ho:ops[i]? = some ⟨some d,op,ty,pos,aft,g⟩) (hw:yX N ops ⟨some d,op,ty,pos,aft,g⟩ ⟨t,h⟩) (hd:Nat.blt d N=true) (hp:jJ P N ⟨some d,op,ty,pos,aft,g⟩ ⟨t,h⟩ r) (k:RA L P N ops is Q ⟨aA t d r,h⟩):RA L P N ops (i :: is) Q ⟨t,h⟩:=aG6 (bGh ho hw hd hp (aCy k))
theorem rs {r:AV} (ho:ops[i]? = some ⟨some d,op,ty,pos,aft,g⟩) (hw:yX N ops ⟨some d,op,ty,pos,aft,g⟩ ⟨t,h⟩) (hd:Nat.blt d N=true) (hp:cQ P N ⟨some d,op,ty,pos,aft,g⟩ ⟨t,h⟩ r h' ∧ ∀ k,h k ≠ .no→h' k=h k) (k:RA L P N ops is Q ⟨aA t d r,h'⟩):RA L P N ops (i :: is) Q ⟨t,h⟩:=aG6 (bDw ho hw hd hp (aCy k))
theorem rw1 {r:AV} (ho:ops[i]? = some ⟨some d,op,ty,pos,aft,g⟩) (hw:yX N ops ⟨some d,op,ty,pos,aft,g⟩ ⟨t,h⟩) (hd:Nat.blt d N=true) (hp:cQ P N ⟨some d,op,ty,pos,aft,g⟩ ⟨t,h⟩ r h') (k:RA L P N ops is Q ⟨aA t d r,h'⟩):RA L P N ops (i :: is) Q ⟨t,h⟩:=aG6 (bGi ho hw hd hp (aCy k))
theorem rw0 {r:AV} (ho:ops[i]? = some ⟨none,op,ty,pos,aft,g⟩) (hw:yX N ops ⟨none,op,ty,pos,aft,g⟩ ⟨t,h⟩) (hp:cQ P N ⟨none,op,ty,pos,aft,g⟩ ⟨t,h⟩ r h') (k:RA L P N ops is Q ⟨t,h'⟩):RA L P N ops (i :: is) Q ⟨t,h⟩:=aG6 (bDx ho hw hp (aCy k))
theorem rk {j u:Nat} {want:Bool} (ho:ops[i]? = some ⟨some d,op,ty,pos,aft,some (j,want)⟩) (hj:(ops[j]?).bind (·.dst)=some u) (hu:Nat.blt u N=true) (hb:t u = .d (.v (.bool !want))∨t u = .tup []) (hd:Nat.blt d N=true) (k:RA L P N ops is Q ⟨aA t d (.tup []),h⟩):RA L P N ops (i :: is) Q ⟨t,h⟩:=aG6 (aT8 ho hj hu hb hd (aCy k))
theorem aT0 {u:Nat} {b:Bool} (hb:t u = .d (.v (.bool b))) (ht:b=true→RA L P N ops is Q ⟨aA t u (.d (.v (.bool true))),h⟩) (hf:b=false→RA L P N ops is Q ⟨aA t u (.d (.v (.bool false))),h⟩):RA L P N ops is Q ⟨t,h⟩:=by
 have e : ∀ x,t u=x→aA t u x=t:=fun x hx=>by
  funext t'
  by_cases e:t'=u
  ·subst e;rw [gC,hx]
  ·rw [kS _ _ e]
 cases b with
 | true=>have:=ht rfl;rwa [e _ hb] at this
 | false=>have:=hf rfl;rwa [e _ hb] at this
theorem bDt {α:Type} {u:Nat} {p:Prop} [Decidable p] {a b r:α} (hh:(if p then a else b)=r) (hb:t u = .d (.v (.bool (decide p)))) (ht:p→a=r→RA L P N ops is Q ⟨aA t u (.d (.v (.bool true))),h⟩) (hf : ¬ p→b=r→RA L P N ops is Q ⟨aA t u (.d (.v (.bool false))),h⟩):RA L P N ops is Q ⟨t,h⟩ :=
 aT0 hb (fun hp=>have hp:=of_decide_eq_true hp;ht hp (by rwa [if_pos hp] at hh)) (fun hp=>have hp:=of_decide_eq_false hp;hf hp (by rwa [if_neg hp] at hh))
theorem bB0 {α:Type} {u:Nat} {p:Bool} {a b r:α} (hh:(if p=true then a else b)=r) (hb:t u = .d (.v (.bool p))) (ht:p=true→a=r→RA L P N ops is Q ⟨aA t u (.d (.v (.bool true))),h⟩) (hf : ¬ p=true→b=r→RA L P N ops is Q ⟨aA t u (.d (.v (.bool false))),h⟩):RA L P N ops is Q ⟨t,h⟩ :=
 aT0 hb (fun hp=>ht hp (by rwa [if_pos hp] at hh)) (fun hp=>hf (by simp [hp]) (by rwa [if_neg (by simp [hp])] at hh))
end
end Go.Proofs.YtbliejnpjpnahaaGreatDoor
