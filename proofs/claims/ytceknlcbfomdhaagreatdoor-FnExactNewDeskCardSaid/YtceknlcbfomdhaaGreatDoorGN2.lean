/- Texts of this claim, one behind the other (merged by a program of mine). -/
import Derived.Laws.Concat
import Derived.Laws.Strings
import Derived.Laws.DeepStrings4
import Derived.Laws.IdiomStrings
import Derived.Laws.BytesArg
import Derived.Laws.Cover3
import Derived.Lib.Join
import Derived.Lib.SlicesCompact
import Derived.Test.YtceknlcbfomdhaaGreatDoorGN1
set_option linter.unusedSimpArgs false
set_option linter.unusedVariables false
namespace Go.Proofs.YtceknlcbfomdhaaGreatDoor
open Go.RowKit
set_option linter.unusedVariables false
set_option maxRecDepth 100000
mutual
def AV.free:AV→Bool
 | .d _=>true
 | .agg cs=>AV.freeL cs
 | .tup cs=>AV.freeL cs
 | .ref _=>true
 | .ptr .. => false
 | .own .. => false
 | .fn _ cs=>AV.freeL cs
 | .dead=>true
def AV.freeL:List AV→Bool
 | []=>true
 | c :: cs=>c.free && AV.freeL cs
end
theorem wU : ∀ {cs:List AV},AV.freeL cs=true → ∀ {i:Nat} {c:AV},cs[i]? = some c→c.free=true
 | [],_,i,c,hc=>by simp at hc
 | x :: cs,h,0,c,hc=>by simp [AV.freeL] at h hc;rw [← hc];exact h.1
 | x :: cs,h,i+1,c,hc=>by simp [AV.freeL] at h hc;exact wU h.2 hc
theorem fC.free_ {w:World} {F:Nat→Prop} {μ μ2:cT} {h h2:eB} {v:Value} {a:AV} (r:fC w F μ h v a):a.free=true→fC w F μ2 h2 v a:=by
 induction r with
 | d v x hd=>intro _;exact .d v x hd
 | agg vs cs hs hr ih=>intro hf;exact .agg vs cs hs fun i v c hv hc=>ih i v c hv hc (wU (by simpa [AV.free] using hf) hc)
 | tup vs cs hs hr ih=>intro hf;exact .tup vs cs hs fun i v c hv hc=>ih i v c hv hc (wU (by simpa [AV.free] using hf) hc)
 | ref b off cs g hF hg hr=>intro _;exact .ref b off cs g hF hg hr
 | ptr v k f n i j h1 hb hv=>intro hf;simp [AV.free] at hf
 | own v k f n h1 hb hv=>intro hf;simp [AV.free] at hf
 | fn g vs cs hs hr ih=>intro hf;exact .fn g vs cs hs fun i v c hv hc=>ih i v c hv hc (wU (by simpa [AV.free] using hf) hc)
 | dead v=>intro _;exact .dead v
mutual
inductive dQ (ι:Nat→Nat):AV→AV→Prop
 | d (x:DV):dQ ι (.d x) (.d x)
 | agg {cs ds:List AV} (h:fS ι cs ds):dQ ι (.agg cs) (.agg ds)
 | tup {cs ds:List AV} (h:fS ι cs ds):dQ ι (.tup cs) (.tup ds)
 | ref (cs:List DV):dQ ι (.ref cs) (.ref cs)
 | ptr (k f n i j k':Nat) (h:ι k=k'):dQ ι (.ptr k f n i j) (.ptr k' f n i j)
 | own (k f n k':Nat) (h:ι k=k'):dQ ι (.own k f n) (.own k' f n)
 | fn {g:FuncId} {cs ds:List AV} (h:fS ι cs ds):dQ ι (.fn g cs) (.fn g ds)
 | dead:dQ ι .dead .dead
inductive fS (ι:Nat→Nat):List AV→List AV→Prop
 | nil:fS ι [] []
 | cons {c d:AV} {cs ds:List AV} (h:dQ ι c d) (k:fS ι cs ds):fS ι (c :: cs) (d :: ds)
end
mutual
theorem dQ.eq_ {ι:Nat→Nat} : ∀ {a b:AV},dQ ι a b→b=a.ren ι
 | _,_, .d x=>rfl
 | _,_, .agg h=>by rw [AV.ren,fS.eq_ h]
 | _,_, .tup h=>by rw [AV.ren,fS.eq_ h]
 | _,_, .ref cs=>rfl
 | _,_, .ptr k f n i j k' h=>by rw [AV.ren,h]
 | _,_, .own k f n k' h=>by rw [AV.ren,h]
 | _,_, .fn h=>by rw [AV.ren,fS.eq_ h]
 | _,_, .dead=>rfl
theorem fS.eq_ {ι:Nat→Nat} : ∀ {a b:List AV},fS ι a b→b=AV.renL ι a
 | _,_, .nil=>rfl
 | _,_, .cons h k=>by rw [AV.renL,dQ.eq_ h,fS.eq_ k]
end
def aMd {α:Type} (c:α→List DV):List α→AV
 | [] => .d (.v (.slice none 0 0))
 | x :: xs => .d (.sl (List.map c (x :: xs)))
theorem dQ.nd {ι:Nat→Nat} {α:Type} (c:α→List DV) (xs:List α):dQ ι (aMd c xs) (aMd c xs):=by cases xs <;> exact dQ.d _
inductive hJ (ι:Nat→Nat):fT→fT→Prop
 | no:hJ ι .no .no
 | dead:hJ ι .dead .dead
 | data (ty:TypeId) (sz:Nat) (es:List (List DV)):hJ ι (.live [⟨ty,sz, .data es⟩]) (.live [⟨ty,sz, .data es⟩])
 | box (ty:TypeId) (sz:Nat) {cs ds:List AV} (h:fS ι cs ds):hJ ι (.live [⟨ty,sz, .av [cs]⟩]) (.live [⟨ty,sz, .av [ds]⟩])
 | gen (s:fT):hJ ι s (s.ren ι)
theorem hJ.eq_ {ι:Nat→Nat} {a b:fT} (h:hJ ι a b):b=a.ren ι:=by
 cases h with
 | no=>rfl
 | dead=>rfl
 | data=>rfl
 | box ty sz h=>rw [h.eq_];rfl
 | gen=>rfl
def gR (kf i:Nat):List DV→List AV
 | []=>[]
 | .v x :: l => .d (.v x) :: gR kf i l
 | .sl es :: l => .own kf i es.length :: gR kf i l
 | .mp _ :: l => .dead :: gR kf i l
def aF4:List DV→List (List DV)
 | []=>[]
 | .v _ :: l=>aF4 l
 | .sl es :: _=>es
 | .mp _ :: l=>aF4 l
def xQ:List DV→Nat
 | []=>0
 | .v _ :: l=>xQ l
 | .sl _ :: l=>xQ l+1
 | .mp _ :: l=>xQ l+2
def fA {α:Type} (kf:Nat) (c:α→List DV) (x:List α):List (List AV):=x.mapIdx fun i a=>gR kf i (c a)
def pC {α:Type} (ft:TypeId) (fz:Nat) (c:α→List DV) (x:List α):List kC:=x.map fun a=>⟨ft,fz, .data (aF4 (c a))⟩
theorem aAp {ι:Nat→Nat} (kf i:Nat) : ∀ l:List DV,AV.renL ι (gR kf i l)=gR (ι kf) i l
 | []=>rfl
 | .v x :: l=>by simp [gR,AV.renL,AV.ren,aAp kf i l]
 | .sl es :: l=>by simp [gR,AV.renL,AV.ren,aAp kf i l]
 | .mp _ :: l=>by simp [gR,AV.renL,AV.ren,aAp kf i l]
theorem hJ.nest {ι:Nat→Nat} {α:Type} {ty:TypeId} {sz kf kf':Nat} {c:α→List DV} {x:List α} (hk:ι kf=kf'):hJ ι (.live [⟨ty,sz, .av (fA kf c x)⟩]) (.live [⟨ty,sz, .av (fA kf' c x)⟩]):=by
 have e:(fT.live [⟨ty,sz, .av (fA kf' c x)⟩])=(fT.live [⟨ty,sz, .av (fA kf c x)⟩]).ren ι:=by
  subst hk
  simp only [fT.ren,List.map_cons,List.map_nil,kC.ren,cG.ren]
  congr 4
  apply List.ext_getElem?
  intro i
  simp only [fA,List.getElem?_map,List.getElem?_mapIdx]
  cases x[i]? <;> simp [aAp]
 rw [e];exact .gen _
theorem hJ.fam {ι:Nat→Nat} {α:Type} {ft:TypeId} {fz:Nat} {c:α→List DV} {x:List α}:hJ ι (.live (pC ft fz c x)) (.live (pC ft fz c x)):=by
 have e:(fT.live (pC ft fz c x))=(fT.live (pC ft fz c x)).ren ι:=by
  simp [fT.ren,pC,kC.ren,cG.ren]
 have:=hJ.gen (ι:=ι) (fT.live (pC ft fz c x))
 rwa [← e] at this
inductive aE9 (ι:Nat→Nat):Nat→List fT→eB→eB→Prop
 | nil (B:Nat) (h:eB):aE9 ι B [] h h
 | cons {B:Nat} {s s':fT} {ss:List fT} {h h':eB} (hs:hJ ι s s') (k:aE9 ι (B+1) ss (upd h B s') h'):aE9 ι B (s :: ss) h h'
theorem aE9.eq_ {ι:Nat→Nat} {B:Nat} {ss:List fT} {h h':eB} (b:aE9 ι B ss h h'):h'=rV h B (ss.map (fT.ren ι)):=by
 induction b with
 | nil=>rfl
 | cons hs k ih=>rw [ih,hs.eq_];rfl
theorem aGa (h:eB) {B:Nat} (hB:Abv h B) (ss:List fT) (k:Nat) (hk:h k ≠ .no):rV h B ss k=h k:=by
 refine zW h ss B k ?_
 rcases Nat.lt_or_ge k B with hlt | hge
 ·exact hlt
 ·exact absurd (hB k hge) hk
def aLj (P:Program) (f:FuncId):Bool :=
 match P.funcs[f]? with
 | some fn => !(fn.name == "runtime.NumGoroutine") && fn.body.isSome
 | none=>false
structure FnC (P:Program) (f:FuncId) (hin:List fT) (args:List AV) (hout:List fT) (r:AV):Prop where
 c:aLj P f=true
 g:FnG P f hin args hout r
section
variable {P:Program} {T:Tab} {L N:Nat} {ops:Array Oper} {E:Env} {K:List (Nat × Cls)→AS→Prop} {i:Nat} {is:List Nat} {t:Nat→AV} {h h':eB} {d:Tmp} {dst:Option Tmp} {op:Op} {ty:TypeId} {pos:String} {aft:Array Edge} {g:Option (Nat × Bool)}
theorem aSu (hT:TOk P T) {bt e:TypeId} {s x:Operand} {k f n:Nat} {news:List (List DV)} {l l':List kC} {o:kC} {cc:cG} {ti ei:TI} (hs:evA N ⟨t,h⟩ s = .own k f n) (hx:evA N ⟨t,h⟩ x = .d (.sl news)) (h1:T bt=some ti) (h2:ti.desc = .slice e) (h3:T e=some ei)
  (hzs:Nat.beq ei.zero.cells.size ei.size=true) (hpos:Nat.blt 0 ei.size=true) (hk:h k = .live l) (hf:l[f]? = some o) (hn:o.cs.len=n) (hty:o.ty=e) (hsz:o.sz=ei.size) (hnl : ∀ x ∈ news,x.length=ei.size) (happ:App o.cs (.data news) cc) (hl':aU9 l f ⟨o.ty,o.sz,cc⟩ l')
  (hby:(n+news.length)*ei.bytes≤140737488355328) (hm:n+news.length≤140737488355328) :
  dK P N ⟨dst, .call ⟨.builtin .append, #[s,x], #[bt,bt]⟩,ty,pos,aft,g⟩ ⟨t,h⟩ (.own k f (n+news.length)) (upd h k (.live l')):=fun E F μ w ρ H st=>by
 have hr:=st s (by simp [Op.operands,Call.operands])
 have hr2:=st x (by simp [Op.operands,Call.operands])
 rw [hs] at hr;rw [hx] at hr2
 have hlo:lv h k f=some o:=(jU hk f).trans hf
 generalize hvs:ρ s=vs at hr
 cases hr with | own _ _ _ _ g1 hb hv =>
 obtain ⟨v',w',q1,F', μ',q2,q3,q4⟩:=yY (ty:=ty) hT h1 h2 h3 hzs hpos H hk hf hn hty hsz ((hv o hlo).2 hn) (aOa hr2 hnl) happ hby hm
 rw [hl'.eq_]
 have e1:(execOp ρ ⟨dst, .call ⟨.builtin .append, #[s,x], #[bt,bt]⟩,ty,pos,aft,g⟩).run P w = .ok (.value v') w':=by
  simp [execOp,resolve,invoke,builtin,hvs,q1]
 rw [e1]
 exact ⟨F', μ',q2,q3,q4⟩
theorem aA6 (hT:TOk P T) {bt e:TypeId} {s x:Operand} {k f n k2 f2 m:Nat} {l l':List kC} {o o2:kC} {cc:cG} {ti ei:TI} (hs:evA N ⟨t,h⟩ s = .own k f n) (hx:evA N ⟨t,h⟩ x = .own k2 f2 m) (h1:T bt=some ti) (h2:ti.desc = .slice e) (h3:T e=some ei)
  (hzs:Nat.beq ei.zero.cells.size ei.size=true) (hpos:Nat.blt 0 ei.size=true) (hk:h k = .live l) (hf:l[f]? = some o) (hn:o.cs.len=n) (hty:o.ty=e) (hsz:o.sz=ei.size) (ho2:lv h k2 f2=some o2) (hm2:o2.cs.len=m) (hs2:o2.sz=ei.size) (hok:o2.cs.oks) (happ:App o.cs o2.cs cc) (hl':aU9 l f ⟨o.ty,o.sz,cc⟩ l')
  (hby:(n+m)*ei.bytes≤140737488355328) (hm:n+m≤140737488355328) :
  dK P N ⟨dst, .call ⟨.builtin .append, #[s,x], #[bt,bt]⟩,ty,pos,aft,g⟩ ⟨t,h⟩ (.own k f (n+m)) (upd h k (.live l')):=fun E F μ w ρ H st=>by
 have hr:=st s (by simp [Op.operands,Call.operands])
 have hr2:=st x (by simp [Op.operands,Call.operands])
 rw [hs] at hr;rw [hx] at hr2
 have hlo:lv h k f=some o:=(jU hk f).trans hf
 generalize hvs:ρ s=vs at hr
 cases hr with | own _ _ _ _ g1 hb hv =>
 have hrd:=aKf H hr2 ho2 hm2 hok
 rw [hs2] at hrd
 subst hm2
 obtain ⟨v',w',q1,F', μ',q2,q3,q4⟩:=yY (ty:=ty) hT h1 h2 h3 hzs hpos H hk hf hn hty hsz ((hv o hlo).2 hn) hrd happ hby hm
 rw [hl'.eq_]
 have e1:(execOp ρ ⟨dst, .call ⟨.builtin .append, #[s,x], #[bt,bt]⟩,ty,pos,aft,g⟩).run P w = .ok (.value v') w':=by
  simp [execOp,resolve,invoke,builtin,hvs,q1]
 rw [e1]
 exact ⟨F', μ',q2,q3,q4⟩
theorem aWn (h:eB) (k:Nat) (s s':fT):upd (upd h k s) k s'=upd h k s':=by
 funext k'
 by_cases e:k'=k
 ·subst e;rw [dE,dE]
 ·rw [dZ _ _ e,dZ _ _ e,dZ _ _ e]
theorem aIt (k:Nat) (hT:TOk P T) {bt e:TypeId} {s x:Operand} {news:List (List DV)} {ti ei:TI} (hs:evA N ⟨t,h⟩ s = .d (.v (.slice none 0 0))) (hx:evA N ⟨t,h⟩ x = .d (.sl news)) (h1:T bt=some ti) (h2:ti.desc = .slice e) (h3:T e=some ei)
  (hzs:Nat.beq ei.zero.cells.size ei.size=true) (hpos:Nat.blt 0 ei.size=true) (hk:h k = .no) (hnl : ∀ x ∈ news,x.length=ei.size) (hby:news.length*ei.bytes≤140737488355328) (hm:news.length≤140737488355328) :
  dK P N ⟨dst, .call ⟨.builtin .append, #[s,x], #[bt,bt]⟩,ty,pos,aft,g⟩ ⟨t,h⟩ (.own k 0 news.length) (upd h k (.live [⟨e,ei.size, .data news⟩])) ∧ ∀ k',h k' ≠ .no→upd h k (.live [⟨e,ei.size, .data news⟩]) k'=h k':=by
 refine ⟨fun E F μ w ρ H st => ?_,zC hk⟩
 have hr:=lV (by have:=st s (by simp [Op.operands,Call.operands]);rw [hs] at this;exact this)
 have hr2:=st x (by simp [Op.operands,Call.operands])
 rw [hx] at hr2
 obtain ⟨H1,V1⟩:=H.adopt k hk ⟨e,ei.size, .data []⟩ rfl
 obtain ⟨v',w',q1,F', μ',q2,q3,q4⟩:=yY (ty:=ty) (n:=0) (f:=0) (v := .slice none 0 0) hT h1 h2 h3 hzs hpos H1 (dE h k _) rfl rfl rfl rfl (.inl ⟨dV _ _ _ _,rfl,rfl⟩) (aOa (hr2.evo V1) hnl) (.data [] news) (by simpa [cG.len] using hby) (by simpa [cG.len] using hm)
 rw [aWn] at q2 q3 q4
 have e1:(execOp ρ ⟨dst, .call ⟨.builtin .append, #[s,x], #[bt,bt]⟩,ty,pos,aft,g⟩).run P w = .ok (.value v') w':=by
  simp [execOp,resolve,invoke,builtin,hr,q1]
 rw [e1]
 refine ⟨F', μ',q2,V1.trans ?_,?_⟩
 ·have:=q3;simpa using this
 ·simpa [cG.len] using q4
theorem aC4 {f:FuncId} {x:Operand} {args:Array Operand} {at_:Array TypeId} {ρ:Operand→Value} {cap:Array Value} {w:World} (hc:aLj P f=true) (hx:ρ x = .func (.func f) #[] cap) :
  (execOp ρ ⟨dst, .call ⟨.value x,args,at_⟩,ty,pos,aft,g⟩).run P w = .ok (.enter f (args.map ρ++cap)) w:=by
 unfold aLj at hc
 cases hf:P.funcs[f]? with
 | none=>simp [hf] at hc
 | some fn =>
  simp only [hf,Bool.and_eq_true,Bool.not_eq_true'] at hc
  obtain ⟨h1,h2⟩:=hc
  obtain ⟨bd,hbd⟩:=Option.isSome_iff_exists.1 h2
  have h4 : ¬ fn.name = "runtime.NumGoroutine" := by simpa using h1
  simp [execOp,resolve,hx,Deferred.ofValue,invoke,callFunc,hf,h4,hbd]
theorem aC1 {F:Nat→Prop} {μ:cT} {w:World} {x:Operand} {args:Array Operand} {at_:Array TypeId} {ρ:Operand→Value} {f:FuncId} {caps:List AV} (st:aFe N ⟨dst, .call ⟨.value x,args,at_⟩,ty,pos,aft,g⟩ ⟨t,h⟩ ρ w F μ h) (hx:evA N ⟨t,h⟩ x = .fn f caps) :
  ∃ cap, ρ x = .func (.func f) #[] cap∧(args.map ρ++cap).size=(evL N ⟨t,h⟩ args.toList++caps).length ∧ ∀ (i:Nat) v a,(args.map ρ++cap)[i]? = some v→(evL N ⟨t,h⟩ args.toList++caps)[i]? = some a→fC w F μ h v a:=by
 have hr:=st x (by simp [Op.operands,Call.operands])
 rw [hx] at hr
 generalize hv:ρ x=v at hr
 cases hr with | fn _ vs _ hs hr =>
 refine ⟨vs,rfl,by simp [aBe,hs],fun i v a h1 h2 => ?_⟩
 rw [aBe] at h2
 rw [Array.getElem?_append] at h1
 rw [List.getElem?_append] at h2
 simp only [Array.size_map,List.length_map,Array.length_toList] at h1 h2
 by_cases hi:i<args.size
 ·rw [if_pos hi] at h1 h2
  rw [Array.getElem?_map] at h1
  rw [List.getElem?_map,Array.getElem?_toList] at h2
  obtain ⟨y,hy,rfl⟩:=Option.map_eq_some_iff.1 h1
  rw [hy] at h2
  simp at h2
  subst h2
  exact st y (by simp only [Op.operands,Call.operands];exact Array.mem_append.2 (.inr (Array.mem_of_getElem? hy)))
 ·rw [if_neg hi] at h1 h2
  exact hr _ _ _ h1 h2
theorem aQ7:lks []=fun _=>fT.no:=by funext p;rfl
theorem iY.start {F:Nat→Prop} {μ:cT} {w:World} {gl:aFc F w} (hF : ∀ b,F b→b<w.heap.size):iY ⟨w,F, μ,lks [],gl⟩ F μ (lks []) w:=by
 have no : ∀ {k f o},lv (lks []) k f=some o→False:=fun hl=>by simp [lv,lks] at hl
 exact ⟨fun k f o hl=>(no hl).elim,fun k f o k' f' o' b hl=>(no hl).elim,fun k f o b hl=>(no hl).elim,fun k f o b hl=>(no hl).elim,hF,fun b hb => .inl hb,Evo.refl_,rfl,rfl,rfl,Nat.le_refl _,fun _ _ _=>rfl⟩
theorem aSe (B:Nat) {f:FuncId} {x:Operand} {args:Array Operand} {at_:Array TypeId} {caps as:List AV} {hs:List fT} {r r':AV} (hx:evA N ⟨t,h⟩ x = .fn f caps) (ha:evL N ⟨t,h⟩ args.toList++caps=as) (hfr:AV.freeL as=true) (hF:FnC P f [] as hs r) (hB:Abv h B)
  (hr:dQ (B + ·) r r') (hb:aE9 (B + ·) B hs h h'):dK P N ⟨dst, .call ⟨.value x,args,at_⟩,ty,pos,aft,g⟩ ⟨t,h⟩ r' h' ∧ ∀ k,h k ≠ .no→h' k=h k:=by
 refine ⟨fun E F μ w ρ H st => ?_,fun k hk=>by rw [hb.eq_];exact aGa h hB _ k hk⟩
 obtain ⟨cap,c1,c2,c3⟩:=aC1 st hx
 rw [aC4 hF.c c1]
 rw [ha] at c2 c3
 refine (hF.g w F (fun p f=>μ (B+p) f) _ H.glob (iY.start H.fz) c2 fun i v a h1 h2=>(c3 i v a h1 h2).free_ (wU hfr h2)).mono ?_
 rintro e w' ⟨v,F', μ1,rfl,H1,hv⟩
 obtain ⟨μ',J1,J2,J3⟩:=H.join0 hB H1
 refine ⟨v,rfl,F', μ',?_,?_,?_⟩
 ·rw [hb.eq_];exact J1
 ·rw [hb.eq_];exact J2
 ·rw [hb.eq_,hr.eq_];exact hv.ren J3
inductive Vs (h:eB):List AV→List AV→Prop
 | nil:Vs h [] []
 | cons {c d:AV} {cs ds:List AV} (hv:sX h c d) (k:Vs h cs ds):Vs h (c :: cs) (d :: ds)
theorem Vs.spec {cs ds:List AV} (v:Vs h cs ds):cs.length=ds.length ∧ ∀ (i:Nat) c d,cs[i]? = some c→ds[i]? = some d→sX h c d:=by
 induction v with
 | nil=>exact ⟨rfl,fun i c d h=>by simp at h⟩
 | cons hv k ih =>
  refine ⟨by simp [ih.1],fun i c d h1 h2 => ?_⟩
  cases i with
  | zero=>simp at h1 h2;subst h1 h2;exact hv
  | succ i=>simp at h1 h2;exact ih.2 i c d h1 h2
theorem sX.agg_ {cs ds:List AV} (v:Vs h cs ds):sX h (.agg cs) (.agg ds) := .agg cs ds v.spec.1 v.spec.2
theorem sX.fn_ {f:FuncId} {cs ds:List AV} (v:Vs h cs ds):sX h (.fn f cs) (.fn f ds) := .fn f cs ds v.spec.1 v.spec.2
def aA9:fT→Prop
 | .live l => ∀ o ∈ l,o.cs.flat
 | _=>True
theorem aUg {hs:List fT} (hf : ∀ s ∈ hs,aA9 s) {p f:Nat} {o:kC} (hl:lv (lks hs) p f=some o):o.cs.flat:=by
 obtain ⟨l,h1,h2⟩:=aL8 hl
 unfold lks at h1
 rw [List.getD_eq_getElem?_getD] at h1
 cases hp:hs[p]? with
 | none=>rw [hp] at h1;cases h1
 | some s =>
  rw [hp] at h1
  have h1:s = .live l:=h1
  subst h1
  exact hf _ (List.mem_of_getElem? hp) o (List.mem_of_getElem? h2)
theorem aOi (B:Nat) {f:FuncId} {x:Operand} {args:Array Operand} {at_:Array TypeId} {caps as:List AV} {hs:List fT} {r r':AV} (hx:evA N ⟨t,h⟩ x = .fn f caps) (ha:Vs h (evL N ⟨t,h⟩ args.toList++caps) as) (hF:FnC P f [] as hs r) (hfl:r.flat=true) (hfs : ∀ s ∈ hs,aA9 s) (hB:Abv h B)
  (hr:dQ (B + ·) r r') (hb:aE9 (B + ·) B hs h h'):dK P N ⟨dst, .call ⟨.value x,args,at_⟩,ty,pos,aft,g⟩ ⟨t,h⟩ r' h' ∧ ∀ k,h k ≠ .no→h' k=h k:=by
 refine ⟨fun E F μ w ρ H st => ?_,fun k hk=>by rw [hb.eq_];exact aGa h hB _ k hk⟩
 obtain ⟨cap,c1,c2,c3⟩:=aC1 st hx
 rw [aC4 hF.c c1]
 obtain ⟨s1,s2⟩:=ha.spec
 have own_lt : ∀ b,aWq μ h b→b<w.heap.size:=fun b ⟨k,f,o,hl,hm⟩=>H.lt hl hm
 refine (hF.g w (fun b=>F b∨aWq μ h b) (fun p f=>μ (B+p) f) _ (H.glob.evo (fun _ _=>rfl) fun _ => .inl) (iY.start fun b hb=>hb.elim (H.fz b) (own_lt b)) (c2.trans s1) fun i v a h1 h2 => ?_).mono ?_
 ·have hlt:i<as.length:=(List.getElem?_eq_some_iff.1 h2).1
  have h3:=List.getElem?_eq_getElem (show i<(evL N ⟨t,h⟩ args.toList++caps).length by omega)
  exact fC.view H (s2 i _ a h3 h2) v (c3 i v _ h1 h3)
 ·rintro e w' ⟨v,F1, μ1,rfl,H1,hv⟩
  rw [aQ7] at H1
  have H2:=H1.flatF (F:=F) (gl':=H.glob) (D:=aWq μ h) (fun b hb=>hb) (fun b hb=>⟨.inl hb,fun ⟨k,f,o,hl,hm⟩=>H.sep _ _ _ b hl hm hb⟩) (fun p f o hl=>aUg hfs hl) own_lt
  rw [← aQ7] at H2
  obtain ⟨μ',J1,J2,J3⟩:=H.join0 hB H2
  refine ⟨v,rfl,fun b=>F1 b ∧ ¬ aWq μ h b, μ',?_,?_,?_⟩
  ·rw [hb.eq_];exact J1
  ·rw [hb.eq_];exact J2
  ·rw [hb.eq_,hr.eq_];exact (hv.reF hfl).ren J3
theorem sX.ext {h h2:eB} (he : ∀ p,h p ≠ .no→h2 p=h p) {c d:AV} (v:sX h c d):sX h2 c d:=by
 have lve : ∀ {k f o},lv h k f=some o→lv h2 k f=some o:=fun {k f o} hl=>by
  obtain ⟨l,h1,h3⟩:=aL8 hl
  rw [jU ((he k (by rw [h1];intro e;cases e)).trans h1)];exact h3
 induction v with
 | d x=>exact .d x
 | agg cs ds hl hv ih=>exact .agg cs ds hl ih
 | tup cs ds hl hv ih=>exact .tup cs ds hl ih
 | fn g cs ds hl hv ih=>exact .fn g cs ds hl ih
 | ref cs ds hp=>exact .ref cs ds hp
 | row k f n o ds ho hn hd hc hv ih=>exact .row k f n o ds (lve ho) hn hd hc ih
 | ptr k f n i j o cells ds ho hn hi hl hv ih=>exact .ptr k f n i j o cells ds (lve ho) hn hi hl ih
theorem Vs.ext {h h2:eB} (he : ∀ p,h p ≠ .no→h2 p=h p) {cs ds:List AV} (v:Vs h cs ds):Vs h2 cs ds:=by
 induction v with
 | nil=>exact .nil
 | cons hv k ih=>exact .cons (hv.ext he) ih
theorem vD {h hx:eB} {B:Nat} (hB:Abv h B) (hxB:Abv hx B) (ss:List fT):rV hx B ss=aB5 B hx (rV h B ss):=by
 funext p
 rcases Nat.lt_or_ge p B with hlt | hge
 ·rw [aBm hlt,zW _ _ _ _ hlt]
 ·rw [aMj hge]
  obtain ⟨q,rfl⟩:=Nat.le.dest hge
  rw [aDs _ _ _ _ hB,aDs _ _ _ _ hxB]
theorem aLi {ι:Nat→Nat} : ∀ (hs:List fT) (B:Nat) (h:eB),aE9 ι B hs h (rV h B (hs.map (fT.ren ι)))
 | [],B,h => .nil B h
 | s :: ss,B,h => .cons (.gen s) (aLi ss (B+1) _)
theorem aVm (x:Operand) (h2:eB):evA N ⟨t,h⟩ x=evA N ⟨t,h2⟩ x:=by cases x <;> rfl
theorem aW5 (xs:List Operand) (h2:eB):evL N ⟨t,h⟩ xs=evL N ⟨t,h2⟩ xs:=by
 rw [aBe,aBe];exact List.map_congr_left fun x _=>aVm x h2
theorem aWg (B:Nat) {f:FuncId} {x:Operand} {args:Array Operand} {at_:Array TypeId} {caps as:List AV} {hs:List fT} {r r':AV} (hx:evA N ⟨t,h⟩ x = .fn f caps) (ha:evL N ⟨t,h⟩ args.toList++caps=as) (hfr:AV.freeL as=true) (hF:FnC P f [] as hs r) (hB:Abv h B)
  (hr:dQ (B + ·) r r') (hb:aE9 (B + ·) B hs h h'):Abv h B∧(∀ h2:eB,Abv h2 B→(∀ p,h p ≠ .no→h2 p=h p)→dK P N ⟨dst, .call ⟨.value x,args,at_⟩,ty,pos,aft,g⟩ ⟨t,h2⟩ r' (aB5 B h2 h'))∧aB5 B h h'=h':=by
 refine ⟨hB,fun h2 hB2 he => ?_,?_⟩
 ·rw [hb.eq_, ← vD hB hB2]
  exact (aSe B ((aVm x h).trans hx) (by rw [aW5 args.toList h];exact ha) hfr hF hB2 hr (aLi hs B h2)).1
 ·rw [hb.eq_, ← vD hB hB]
theorem aUd (B:Nat) {f:FuncId} {x:Operand} {args:Array Operand} {at_:Array TypeId} {caps as:List AV} {hs:List fT} {r r':AV} (hx:evA N ⟨t,h⟩ x = .fn f caps) (ha:Vs h (evL N ⟨t,h⟩ args.toList++caps) as) (hF:FnC P f [] as hs r) (hfl:r.flat=true) (hfs : ∀ s ∈ hs,aA9 s) (hB:Abv h B)
  (hr:dQ (B + ·) r r') (hb:aE9 (B + ·) B hs h h'):Abv h B∧(∀ h2:eB,Abv h2 B→(∀ p,h p ≠ .no→h2 p=h p)→dK P N ⟨dst, .call ⟨.value x,args,at_⟩,ty,pos,aft,g⟩ ⟨t,h2⟩ r' (aB5 B h2 h'))∧aB5 B h h'=h':=by
 refine ⟨hB,fun h2 hB2 he => ?_,?_⟩
 ·rw [hb.eq_, ← vD hB hB2]
  exact (aOi B ((aVm x h).trans hx) (by rw [aW5 args.toList h];exact ha.ext he) hF hfl hfs hB2 hr (aLi hs B h2)).1
 ·rw [hb.eq_, ← vD hB hB]
inductive rB (T:Tab) (N:Nat) (σ:AS):List ResultVar→List AV→Prop
 | nil:rB T N σ [] []
 | tmp {u:Tmp} {a:AV} {rs:List ResultVar} {as:List AV} (h:evA N σ (.tmp u)=a) (k:rB T N σ rs as):rB T N σ (.tmp u :: rs) (a :: as)
 | cell1 {u:Tmp} {ty:TypeId} {ti:TI} {k f n ix j:Nat} {o:kC} {cells:List AV} {c:AV} {rs:List ResultVar} {as:List AV} (hx:evA N σ (.tmp u) = .ptr k f n ix j) (h1:T ty=some ti) (h2:tZ ti.desc=false) (ho:lv σ.h k f=some o) (hn:o.cs.len=n)
   (hi:o.cs.get ix=some cells) (hc:cells[j]? = some c) (q:rB T N σ rs as):rB T N σ (.cell u ty :: rs) (c :: as)
 | cellN {u:Tmp} {ty:TypeId} {ti:TI} {k f n ix j:Nat} {o:kC} {cells out:List AV} {rs:List ResultVar} {as:List AV} (hx:evA N σ (.tmp u) = .ptr k f n ix j) (h1:T ty=some ti) (h2:tZ ti.desc=true) (ho:lv σ.h k f=some o) (hn:o.cs.len=n)
   (hi:o.cs.get ix=some cells) (hc:Seg j ti.size cells out) (q:rB T N σ rs as):rB T N σ (.cell u ty :: rs) (.agg out :: as)
def aUa:List AV→AV
 | [a]=>a
 | l => .tup l
def aB6 (a:Act):ResultVar→Sem Value
 | .tmp t=>pure (a.tmps.getD t undef)
 | .cell p t=>do loadVar t (← asAddr (a.tmps.getD p undef))
theorem rB.run (hT:TOk P T) {σ:AS} {rs:List ResultVar} {as:List AV} (R:rB T N σ rs as) {F:Nat→Prop} {μ:cT} {a:Act} {w:World} (A:aP2 L E N F μ σ a w) :
  ∃ vs:List Value,(rs.mapM (aB6 a)).run P w = .ok vs w∧vs.length=as.length ∧ ∀ (i:Nat) v c,vs[i]? = some v→as[i]? = some c→fC w F μ σ.h v c:=by
 have consOk : ∀ {rv:ResultVar} {rs:List ResultVar} {v:Value} {c:AV} {as:List AV},(aB6 a rv).run P w = .ok v w→fC w F μ σ.h v c →
   (∃ vs:List Value,(rs.mapM (aB6 a)).run P w = .ok vs w∧vs.length=as.length ∧ ∀ (i:Nat) v c,vs[i]? = some v→as[i]? = some c→fC w F μ σ.h v c) →
   ∃ vs:List Value,((rv :: rs).mapM (aB6 a)).run P w = .ok vs w∧vs.length=(c :: as).length ∧ ∀ (i:Nat) v d,vs[i]? = some v→(c :: as)[i]? = some d→fC w F μ σ.h v d:=by
  rintro rv rs v c as h1 h2 ⟨vs,e1,e2,e3⟩
  refine ⟨v :: vs,by simp [List.mapM_cons,h1,e1],by simp [e2],fun i v' d h3 h4 => ?_⟩
  cases i with
  | zero=>simp at h3 h4;subst h3 h4;exact h2
  | succ i=>simp at h3 h4;exact e3 i v' d h3 h4
 induction R with
 | nil=>exact ⟨[],by simp,rfl,fun i v c h=>by simp at h⟩
 | tmp hh k ih =>
  rename_i u a' rs as
  exact consOk (v:=a.tmps.getD u undef) rfl (by rw [← hh];exact aD1 A (.tmp _)) ih
 | cell1 hx h1 h2 ho hn hi hc q ih =>
  rename_i u0 ty ti k f n ix j o cells c rs as
  have hr:=aD1 A (.tmp u0)
  rw [hx] at hr
  obtain ⟨b,cur,hv,hm,hb,hlen,hcs⟩:=aEp A.H hr ho hn hi
  obtain ⟨u,hu,hr2⟩:=hcs _ _ hc
  have hcell:=(cell_of_row w b _ cur _ (0,0) hb).trans hu
  refine consOk ?_ hr2 ih
  have hv':a.tmps.getD u0 undef = .pointer (some ⟨b,ix*o.sz+j,none⟩):=hv
  simp only [aB6,hv',asAddr,loadVar]
  simp [Sem.run_bind,aAu hT h1,h2,hcell]
 | cellN hx h1 h2 ho hn hi hc q ih =>
  rename_i u ty ti k f n ix j o cells out rs as
  have hr:=aD1 A (.tmp u)
  rw [hx] at hr
  obtain ⟨b,cur,hv,hm,hb,hlen,hcs⟩:=aEp A.H hr ho hn hi
  obtain ⟨s1,s2,s3⟩:=hc.spec
  have hall : ∀ q,q<ti.size → ∃ u,cur[ix*o.sz+j+q]? = some u ∧ ∀ c,out[q]? = some c→fC w F μ σ.h u c:=fun q hq=>by
   obtain ⟨u,hu,hr2⟩:=hcs (j+q) _ (s3 q _ (List.getElem?_eq_getElem (show q<out.length by omega)))
   exact ⟨u,by rw [Nat.add_assoc];exact hu,fun c hc=>by rw [List.getElem?_eq_getElem (show q<out.length by omega)] at hc;injection hc with hc;rw [← hc];exact hr2⟩
  obtain ⟨v1,v2⟩:=aNr cur (ix*o.sz+j) ti.size fun q hq=>by obtain ⟨u,hu,_⟩:=hall q hq;exact ⟨u,hu⟩
  have hrun:=aEu (P:=P) hT h1 h2 w b (ix*o.sz+j) ((cur.toList.drop (ix*o.sz+j)).take ti.size) v1 (fun q v hq=>by
   rw [cell_of_row w b _ cur o.ty (0,0) hb]
   exact (v2 q v hq).2)
  have hv':a.tmps.getD u undef = .pointer (some ⟨b,ix*o.sz+j,none⟩):=hv
  refine consOk (v := .agg ((cur.toList.drop (ix*o.sz+j)).take ti.size).toArray) ?_ (.agg _ out (by simp only [List.size_toArray];omega) fun q v c hq hc => ?_) ih
  ·simp only [aB6,hv',asAddr]
   have:=hrun
   simp only [Instr.loadAt,Instr.sureAddr] at this
   exact this
  ·have hq':((cur.toList.drop (ix*o.sz+j)).take ti.size)[q]? = some v:=by simpa using hq
   obtain ⟨hlt,hcur⟩:=v2 q v hq'
   obtain ⟨u,hu,hr2⟩:=hall q hlt
   rw [hcur] at hu
   injection hu with hu
   rw [hu]
   exact hr2 c hc
theorem aMs (hT:TOk P T) {fn:Func} {σ:AS} {rs:List ResultVar} {as:List AV} (hrs:fn.results.toList=rs) (R:rB T N σ rs as) {F:Nat→Prop} {μ:cT} {a:Act} {w:World} (A:aP2 L E N F μ σ a w) : ∃ v,(results fn a.tmps).run P w = .ok v w∧fC w F μ σ.h v (aUa as):=by
 obtain ⟨vs,e1,e2,e3⟩:=R.run hT A
 have hm:(fn.results.mapM (aB6 a)).run P w = .ok vs.toArray w:=by
  rw [Array.mapM_eq_mapM_toList,hrs,Sem.run_map,e1];rfl
 have hres:(results fn a.tmps).run P w = .ok (if h:vs.toArray.size=1 then vs.toArray[0] else .tuple vs.toArray) w:=by
  have e:results fn a.tmps=fn.results.mapM (aB6 a) >>= fun vs=>pure (if h:vs.size=1 then vs[0] else .tuple vs):=by
   unfold results
   congr 1
  rw [e,Sem.run_bind,hm];rfl
 refine ⟨_,hres,?_⟩
 rcases as with _ | ⟨c,_ | ⟨c2,cs⟩⟩
 ·have:vs=[]:=List.eq_nil_of_length_eq_zero (by simpa using e2)
  subst this
  exact .tup #[] [] rfl fun i v c h=>by simp at h
 ·obtain ⟨v,rfl⟩:=List.length_eq_one_iff.1 e2
  exact e3 0 v c rfl rfl
 ·have hne : ¬ vs.toArray.size=1:=by simp at e2 ⊢;omega
  rw [dif_neg hne]
  exact .tup _ _ (by simpa using e2) fun i v c h1 h2=>e3 i v c (by simpa using h1) h2
end
end Go.Proofs.YtceknlcbfomdhaaGreatDoor
namespace Go.Proofs.YtceknlcbfomdhaaGreatDoor
open Go.RowKit
set_option linter.unusedVariables false
set_option maxRecDepth 100000
section
variable {P:Program} {T:Tab} {L N:Nat} {ops:Array Oper} {E:Env} {F:Nat→Prop} {μ:cT} {w:World} {i:Nat} {is:List Nat} {t:Nat→AV} {h h' hc:eB} {ι:Nat→Nat}
theorem sZ.unren {μc:cT} (R:Ren ι μc hc μ h) {p:Option Nat} {o:kC} (r:sZ w F μ h p (o.ren ι)):sZ w F μc hc p o:=by
 rcases r with ⟨h1,h2⟩ | ⟨b,cur,h1,h2,h3⟩
 ·exact .inl ⟨h1,by simpa [kC.ren,cG.ren_len] using h2⟩
 ·refine .inr ⟨b,cur,h1,h2,fun i cells hi => ?_⟩
  obtain ⟨q1,q2⟩:=h3 i (AV.renL ι cells) (by simp only [kC.ren,cG.ren_get,hi,Option.map_some])
  rw [qA] at q1
  refine ⟨q1,fun j c hj => ?_⟩
  obtain ⟨u,hu,hr⟩:=q2 j (c.ren ι) (by rw [pZ,hj];rfl)
  exact ⟨u,hu,hr.unren R c rfl⟩
theorem iY.restrict (H:iY E F μ h w) (hι : ∀ p q, ι p=ι q→p=q) (R:Ren ι (fun p f=>μ (ι p) f) hc μ h) (hid : ∀ p,E.h0 p ≠ .no→ι p=p):iY E F (fun p f=>μ (ι p) f) hc w:=by
 have up : ∀ {p f o},lv hc p f=some o→lv h (ι p) f=some (o.ren ι):=fun hl=>by rw [R.lv_,hl];rfl
 refine ⟨fun k f o hl=>(H.ob _ _ _ (up hl)).unren R,fun k f o k' f' o' b h1 h2 m1 m2 => ?_,fun k f o b hl hm=>H.sep _ _ _ b (up hl) hm,fun k f o b hl hm=>H.src _ _ _ b (up hl) hm,H.fz,H.fsrc,⟨H.ev.fr,H.ev.fs,fun p hp => ?_,fun p f o' hp ho' => ?_⟩,H.os,H.tape,H.output,H.size,H.keep⟩
 ·obtain ⟨e1,e2⟩:=H.inj _ _ _ _ _ _ b (up h1) (up h2) m1 m2
  exact ⟨hι _ _ e1,e2⟩
 ·intro e
  have h1:=(R.no_ p).2 e
  rw [hid p hp] at h1
  exact H.ev.born p hp h1
 ·have h1:=up ho'
  rw [hid p hp] at h1
  obtain ⟨o,ho,hx⟩:=H.ev.live p f _ hp h1
  refine ⟨o,ho,?_⟩
  simp only [hid p hp]
  simpa [kC.ren,cG.ren_len] using hx
def fK (ks:List Nat) (B:Nat) (p:Nat):Nat:=match ks[p]? with | some k=>k | none=>B+p
theorem aEm {ks:List Nat} {B:Nat} (hnd:ks.Nodup) (hlt : ∀ k ∈ ks,k<B) : ∀ p q,fK ks B p=fK ks B q→p=q:=fun p q e=>by
 unfold fK at e
 cases hp:ks[p]? with
 | none =>
  cases hq:ks[q]? with
  | none=>rw [hp,hq] at e;have e:B+p=B+q:=e;omega
  | some k=>rw [hp,hq] at e;have e:B+p=k:=e;have:=hlt k (List.mem_of_getElem? hq);omega
 | some k =>
  cases hq:ks[q]? with
  | none=>rw [hp,hq] at e;have e:k=B+q:=e;have:=hlt k (List.mem_of_getElem? hp);omega
  | some k' =>
   rw [hp,hq] at e
   have e:k=k':=e
   subst e
   exact (List.getElem?_inj (List.getElem?_eq_some_iff.1 hp).1 hnd).1 (hp.trans hq.symm)
inductive AtK (ι:Nat→Nat) (h:eB):List Nat→List fT→Prop
 | nil:AtK ι h [] []
 | cons {k:Nat} {s s':fT} {ks:List Nat} {ss:List fT} (hs:h k=s') (hr:hJ ι s s') (q:AtK ι h ks ss):AtK ι h (k :: ks) (s :: ss)
theorem AtK.spec {ks:List Nat} {ss:List fT} (a:AtK ι h ks ss):ks.length=ss.length ∧ ∀ (p:Nat) k s,ks[p]? = some k→ss[p]? = some s→h k=s.ren ι:=by
 induction a with
 | nil=>exact ⟨rfl,fun p k s h=>by simp at h⟩
 | cons hs hr q ih =>
  refine ⟨by simp [ih.1],fun p k s h1 h2 => ?_⟩
  cases p with
  | zero=>simp at h1 h2;subst h1 h2;rw [hs,hr.eq_]
  | succ p=>simp at h1 h2;exact ih.2 p k s h1 h2
theorem AtK.ren_ {ks:List Nat} {B:Nat} {ss:List fT} (a:AtK (fK ks B) h ks ss) (hB:Abv h B):Ren (fK ks B) (fun p f=>μ (fK ks B p) f) (lks ss) μ h:=by
 refine ⟨fun p => ?_,fun p f=>rfl⟩
 obtain ⟨q1,q2⟩:=a.spec
 unfold lks
 rw [List.getD_eq_getElem?_getD]
 cases hp:ks[p]? with
 | none =>
  have:ss[p]? = none:=by rw [List.getElem?_eq_none_iff] at hp ⊢;omega
  rw [this]
  have e:fK ks B p=B+p:=by unfold fK;rw [hp]
  rw [e,hB _ (by omega)];rfl
 | some k =>
  have hlt:p<ss.length:=by have:=(List.getElem?_eq_some_iff.1 hp).1;omega
  have e:fK ks B p=k:=by unfold fK;rw [hp]
  rw [e,q2 p k _ hp (List.getElem?_eq_getElem hlt),List.getElem?_eq_getElem hlt];rfl
structure aFd (T:Tab) (N:Nat) (fn:Func) (m:Nat) (hout:List fT) (r:AV) (σ:AS):Prop where
 ex : ∃ rs as r' ks B,fn.results.toList=rs∧rB T N σ rs as∧aUa as=r'∧ks.Nodup∧(∀ k ∈ ks,k<B)∧(∀ p,p<m→fK ks B p=p)∧Abv σ.h B∧AtK (fK ks B) σ.h ks hout∧r'=r.ren (fK ks B)
def aYq (T:Tab) (N:Nat) (fn:Func) (m:Nat) (hout:List fT) (r:AV):rQ→AS→Prop
 | .normal, σ=>aFd T N fn m hout r σ
 | .ret, σ=>aFd T N fn m hout r σ
 | _,_=>False
def aS1:List AV→Nat→Nat→AV
 | [],_=>fun _ => .dead
 | a :: as,k=>aC (aS1 as (k+1)) k a
theorem aNm : ∀ (as:List AV) (k p:Nat),aS1 as k (k+p)=as.getD p .dead
 | [],k,p=>by simp [aS1]
 | a :: as,k,0=>by simp [aS1,gC]
 | a :: as,k,p+1=>by
  rw [aS1,lM _ _ (by omega),show k+(p+1)=k+1+p by omega,aNm as (k+1) p];simp
theorem aVb (as:List AV) (t:Nat):aS1 as 0 t=as.getD t .dead:=by have:=aNm as 0 t;rwa [Nat.zero_add] at this
theorem xT (hT:TOk P T) {f:FuncId} {fn:Func} {body:Code} {hin hout:List fT} {as:List AV} {r:AV} (hf:P.funcs[f]? = some fn) (hb:fn.body=some body) (hN:fn.ntmps=N) (hc:aLj P f=true) (hl:Nat.ble as.length N=true) (hm:Nat.ble hin.length L=true)
    (hw:AW L P N body (aYq T N fn hin.length hout r) ⟨aS1 as 0,lks hin⟩):FnC P f hin as hout r:=by
  refine ⟨hc,fun w F μ vs gl H hs hr => ?_⟩
  have hle:=Nat.le_of_ble_eq_true hl
  refine calls_of_wp hf hb (wp_mono (hw ⟨w,F, μ,lks hin,gl⟩ _ w ⟨F, μ,H,rfl,?_,fun t ht => ?_,fun p hp => ?_⟩) fun e a w' q => ?_)
  · simp [hN];omega
  · simp only
    rw [aVb]
    rcases Nat.lt_or_ge t as.length with hlt | hge
    · have h1:as.getD t .dead=as[t]:=by simp [List.getD,hlt]
      have h2:(vs++Array.replicate (fn.ntmps-vs.size) undef).getD t undef=vs[t]'(by omega):=by
        have:t<vs.size:=by omega
        simp [Array.getElem?_append,this]
      rw [h1,h2]
      exact hr t _ _ (Array.getElem?_eq_getElem (by omega)) (List.getElem?_eq_getElem hlt)
    · have h1:as.getD t .dead = .dead:=by simp [List.getD,List.getElem?_eq_none hge]
      rw [h1]
      exact .dead _
  · have:=Nat.le_of_ble_eq_true hm
    show lks hin p = .no
    unfold lks
    simp [List.getD,List.getElem?_eq_none (show hin.length≤p by omega)]
  · have fin : ∀ σ,Abs L ⟨w,F, μ,lks hin,gl⟩ N σ a w'→aFd T N fn hin.length hout r σ→a.defers=[] ∧ ∃ v,(results fn a.tmps).run P w' = .ok v w' ∧
        (∃ v' F' μ',Ending.returned v = .returned v'∧iY ⟨w,F, μ,lks hin,gl⟩ F' μ' (lks hout) w'∧fC w' F' μ' (lks hout) v' r):=by
      rintro σ ⟨F', μ',A⟩ ⟨rs,as',r',ks,B,q1,q2,q3,q4,q5,q6,q7,q8,q9⟩
      obtain ⟨v,hv,hr⟩:=aMs hT q1 q2 A
      have R:=q8.ren_ (μ:=μ') q7
      refine ⟨A.df,v,hv,v,F',_,rfl,A.H.restrict (aEm q4 q5) R (fun p hp => ?_),?_⟩
      · refine q6 p ?_
        rcases Nat.lt_or_ge p hin.length with hlt | hge
        · exact hlt
        · exfalso
          apply hp
          show lks hin p = .no
          unfold lks
          simp [List.getD,List.getElem?_eq_none hge]
      · rw [q3] at hr
        exact hr.unren R r q9
    cases e with
    | normal=>obtain ⟨σ,A,q⟩:=q;exact fin σ A q
    | ret=>obtain ⟨σ,A,q⟩:=q;exact fin σ A q
    | exit i=>obtain ⟨σ,A,q⟩:=q;exact q.elim
    | goto l=>obtain ⟨σ,A,q⟩:=q;exact q.elim
    | panic c=>exact q.elim
    | outgrown=>exact q.elim
theorem aQr (hT:TOk P T) {f:FuncId} {fn:Func} {body:Code} {hin hout:List fT} {as:List AV} {r:AV} (hf:P.funcs[f]? = some fn) (hb:fn.body=some body) (hN:fn.ntmps=N) (hc:aLj P f=true) (hl:Nat.ble as.length N=true) (hm:Nat.ble hin.length 3=true)
  (hw:AW 3 P N body (aYq T N fn hin.length hout r) ⟨aS1 as 0,lks hin⟩):FnC P f hin as hout r:=xT (L:=3) hT hf hb hN hc hl hm hw
theorem oY {ss:List fT} {B:Nat} (hl:Nat.ble ss.length B=true):Abv (lks ss) B:=fun k hk=>by
 have:=Nat.le_of_ble_eq_true hl
 unfold lks
 simp [List.getD,List.getElem?_eq_none (show ss.length≤k by omega)]
mutual
theorem aIc {ι:Nat→Nat} : ∀ {a:AV},a.free=true→a.ren ι=a
 | .d _,_=>rfl
 | .agg cs,h=>by rw [AV.ren,aAs (by simpa [AV.free] using h)]
 | .tup cs,h=>by rw [AV.ren,aAs (by simpa [AV.free] using h)]
 | .ref _,_=>rfl
 | .ptr ..,h=>by simp [AV.free] at h
 | .own ..,h=>by simp [AV.free] at h
 | .fn _ cs,h=>by rw [AV.ren,aAs (by simpa [AV.free] using h)]
 | .dead,_=>rfl
theorem aAs {ι:Nat→Nat} : ∀ {l:List AV},AV.freeL l=true→AV.renL ι l=l
 | [],_=>rfl
 | c :: cs,h=>by
  simp [AV.freeL] at h
  rw [AV.renL,aIc h.1,aAs h.2]
end
theorem aZy {fn:Func} {rs:List ResultVar} {as:List AV} {r:AV} (B:Nat) (hrs:fn.results.toList=rs) (R:rB T N ⟨t,h⟩ rs as) (hB:Abv h B) (hf:r.free=true) (e:aUa as=r):aFd T N fn 0 [] r ⟨t,h⟩ :=
 ⟨rs,as,r,[],B,hrs,R,e, .nil,fun k hk=>(by cases hk),fun p hp=>absurd hp (Nat.not_lt_zero p),hB, .nil,(aIc hf).symm⟩
theorem aZ5 {fn:Func} {rs:List ResultVar} {as:List AV} {r:AV} {hout:List fT} (ks:List Nat) (B:Nat) (hrs:fn.results.toList=rs) (R:rB T N ⟨t,h⟩ rs as) (hB:Abv h B) (hnd:ks.Nodup) (hlt : ∀ k ∈ ks,k<B) (hk:AtK (fK ks B) h ks hout) (e:aUa as=r.ren (fK ks B)):aFd T N fn 0 hout r ⟨t,h⟩ :=
 ⟨rs,as,_,ks,B,hrs,R,rfl,hnd,hlt,fun p hp=>absurd hp (Nat.not_lt_zero p),hB,hk,e⟩
variable {c:Code} {Q:rQ→AS→Prop}
theorem dQ.of_own {ι:Nat→Nat} {k k' f n n':Nat} (e:n=n') (h:ι k=k'):dQ ι (.own k f n) (.own k' f n'):=by subst e;exact .own _ _ _ _ h
inductive WT (ι:Nat→Nat) (s:Nat→AV):(Nat→AV)→Prop
 | nil:WT ι s fun _ => .dead
 | upd {t:Nat→AV} {d:Nat} {r r':AV} (h:s d=r') (hr:r'=r.ren ι) (k:WT ι s t):WT ι s (aC t d r)
theorem WT.spec {s t:Nat→AV} (wt:WT ι s t) (d:Nat):s d=(t d).ren ι∨t d = .dead:=by
 induction wt with
 | nil=>exact .inr rfl
 | upd h hr k ih =>
  rename_i t d' r r'
  by_cases e:d=d'
  ·subst e;rw [gC,h,hr];exact .inl rfl
  ·rw [lM _ _ e];exact ih
theorem WT.ren_ {s t:Nat→AV} {d:Nat} {r r':AV} (h:s d=r') (hr:dQ ι r r') (k:WT ι s t):WT ι s (aC t d r) := .upd h hr.eq_ k
theorem WT.free_ {s t:Nat→AV} {d:Nat} {r:AV} (hf:r.free=true) (h:s d=r) (k:WT ι s t):WT ι s (aC t d r) := .upd h (aIc hf).symm k
inductive WH (ι:Nat→Nat) (h:eB):Nat→List fT→Prop
 | nil (k:Nat):WH ι h k []
 | cons {k:Nat} {s s':fT} {ss:List fT} (hs:h k=s') (hr:hJ ι s s') (q:WH ι h (k+1) ss):WH ι h k (s :: ss)
theorem WH.spec {k:Nat} {ss:List fT} (wh:WH ι h k ss) : ∀ (p:Nat) s,ss[p]? = some s→h (k+p)=s.ren ι:=by
 induction wh with
 | nil k=>intro p s h;simp at h
 | cons hs hr q ih =>
  intro p s hp
  cases p with
  | zero=>simp at hp;subst hp;rw [Nat.add_zero,hs,hr.eq_]
  | succ p=>simp at hp;have:=ih p s hp;rw [show ∀ k:Nat,k+(p+1)=k+1+p by omega];exact this
theorem WH.data_ {k:Nat} {ty:TypeId} {sz:Nat} {es:List (List DV)} {ss:List fT} (hs:h k = .live [⟨ty,sz, .data es⟩]) (q:WH ι h (k+1) ss):WH ι h k (.live [⟨ty,sz, .data es⟩] :: ss) := .cons hs (.data _ _ _) q
theorem AtK.data_ {k:Nat} {ty:TypeId} {sz:Nat} {es:List (List DV)} {ks:List Nat} {ss:List fT} (hs:h k = .live [⟨ty,sz, .data es⟩]) (q:AtK ι h ks ss):AtK ι h (k :: ks) (.live [⟨ty,sz, .data es⟩] :: ss) := .cons hs (.data _ _ _) q
theorem cW (k:Nat) (hk:h k = .no) (et:TypeId) (esz:Nat) {d:Nat} (hd:t d = .d (.v (.slice none 0 0))) :
  mG L N ⟨t,h⟩ ⟨aC t d (.own k 0 0),upd h k (.live [⟨et,esz, .data []⟩])⟩:=by
 rintro E a w ⟨F, μ,A⟩
 obtain ⟨H1,V1⟩:=A.H.adopt k hk ⟨et,esz, .data []⟩ rfl
 refine ⟨F,_,H1,A.df,A.sz,fun d' hd' => ?_,A.lim⟩
 ·by_cases e:d'=d
  ·subst e
   have h1:=A.tm d' hd'
   dsimp only at h1 ⊢
   rw [hd] at h1
   have h6:=lV h1
   rw [h6,gC]
   refine .own _ _ _ _ rfl (by rw [dE];intro e;cases e) fun o ho => ?_
   rw [eC] at ho
   simp at ho
   subst ho
   exact ⟨Nat.le_refl _,fun _ => .inl ⟨dV _ _ _ _,rfl,rfl⟩⟩
  ·dsimp only;rw [lM _ _ e]
   exact (A.tm d' hd').evo V1
theorem vA (k:Nat) (hk:h k = .no) (et:TypeId) (esz:Nat) {kb:Nat} {bt:TypeId} {sz j:Nat} {cells cells':List AV} (hb:h kb = .live [⟨bt,sz, .av [cells]⟩]) (hj:cells[j]? = some (.d (.v (.slice none 0 0)))) (hs:Spl j [.own k 0 0] cells cells') :
  mG L N ⟨t,h⟩ ⟨t,upd (upd h k (.live [⟨et,esz, .data []⟩])) kb (.live [⟨bt,sz, .av [cells']⟩])⟩:=by
 rintro E a w ⟨F, μ,A⟩
 obtain ⟨H1,V1⟩:=A.H.adopt k hk ⟨et,esz, .data []⟩ rfl
 have hkb:kb≠k:=fun e=>by rw [e,hk] at hb;cases hb
 have hb1:upd h k (.live [⟨et,esz, .data []⟩]) kb = .live [⟨bt,sz, .av [cells]⟩]:=by rw [dZ _ _ hkb];exact hb
 obtain ⟨s1,s2,s3,s4⟩:=hs.spec
 have hl1:lv (upd h k (.live [⟨et,esz, .data []⟩])) kb 0=some ⟨bt,sz, .av [cells]⟩:=by rw [jU hb1];rfl
 obtain ⟨b,cur,hm,hcur,hat⟩:=aKb H1 hl1 (by simp [cG.len])
 obtain ⟨c1,c2⟩:=hat 0 cells rfl
 have hcurlt:b<w.heap.size:=(Array.getElem?_eq_some_iff.1 hcur).1
 obtain ⟨H2,V2⟩:=H1.put (w':=w) hb1 (f:=0) rfl (o':=⟨bt,sz, .av [cells']⟩) b cur (Nat.le_refl _) rfl rfl rfl (fun _ _ _=>rfl) (.inl hm) hcurlt hcur (.inr ⟨rfl,rfl,rfl,hm,fun cur2 h2=>by rw [hcur] at h2;injection h2 with h2;injection h2 with h2;rw [h2]⟩) (fun i cl hcl=>by
  cases i with
  | succ i=>simp [cG.get] at hcl
  | zero =>
   simp only [cG.get,List.getElem?_cons_zero,Option.some.injEq] at hcl
   subst hcl
   refine ⟨s1.trans c1,fun j' x hx => ?_⟩
   by_cases e:j'=j
   ·subst e
    obtain ⟨u,hu,hr⟩:=c2 j' _ hj
    refine ⟨u,hu,?_⟩
    have h5:=s4 0 (by simp)
    rw [Nat.add_zero,hx] at h5
    simp at h5
    subst h5
    have h6:=lV hr
    subst h6
    refine .own _ _ _ _ rfl (by rw [dE];intro e;cases e) fun o ho => ?_
    rw [eC] at ho
    simp at ho
    subst ho
    exact ⟨Nat.le_refl _,fun _ => .inl ⟨dV _ _ _ _,rfl,rfl⟩⟩
   ·rw [s3 j' (by simp;omega)] at hx
    exact c2 j' x hx)
 refine ⟨F,_,H2,A.df,A.sz,fun d hd => ?_,A.lim⟩
 exact ((A.tm d hd).evo V1).evo V2
end
end Go.Proofs.YtceknlcbfomdhaaGreatDoor
namespace Go.Proofs.YtceknlcbfomdhaaGreatDoor
open Go.RowKit
set_option linter.unusedVariables false
set_option maxRecDepth 100000
theorem aN1 {α β:Type} {f:α→β} {xs:List α} {k:Nat} {x:α} (h:xs[k]? = some x):(xs.map f)[k]? = some (f x):=by simp [h]
section
variable {P:Program} {T:Tab} {L N:Nat} {ops:Array Oper} {E:Env} {F:Nat→Prop} {μ:cT} {w:World} {i:Nat} {is:List Nat} {t:Nat→AV} {h h' hc:eB} {ι:Nat→Nat} {d:Tmp} {dst:Option Tmp} {op:Op} {ty:TypeId} {pos:String} {aft:Array Edge} {g:Option (Nat × Bool)}
inductive aP3 (ι:Nat→Nat):eB→List Nat→List fT→eB→Prop
 | nil (h:eB):aP3 ι h [] [] h
 | cons {h h':eB} {k:Nat} {s s':fT} {ks:List Nat} {ss:List fT} (hs:hJ ι s s') (q:aP3 ι (upd h k s') ks ss h'):aP3 ι h (k :: ks) (s :: ss) h'
theorem aP3.other {ks:List Nat} {ss:List fT} (u:aP3 ι h ks ss h') (k:Nat) (hk:k ∉ ks):h' k=h k:=by
 induction u with
 | nil=>rfl
 | cons hs q ih =>
  simp only [List.mem_cons,not_or] at hk
  rw [ih hk.2,dZ _ _ hk.1]
theorem aP3.at_ {ks:List Nat} {ss:List fT} (u:aP3 ι h ks ss h') (hnd:ks.Nodup):ks.length=ss.length ∧ ∀ (p:Nat) k s,ks[p]? = some k→ss[p]? = some s→h' k=s.ren ι:=by
 induction u with
 | nil=>exact ⟨rfl,fun p k s h=>by simp at h⟩
 | cons hs q ih =>
  obtain ⟨h1,h2⟩:=List.nodup_cons.1 hnd
  obtain ⟨a1,a2⟩:=ih h2
  refine ⟨by simp [a1],fun p k s hp1 hp2 => ?_⟩
  cases p with
  | zero=>simp at hp1 hp2;subst hp1 hp2;rw [q.other _ h1,dE,hs.eq_]
  | succ p=>simp at hp1 hp2;exact a2 p k s hp1 hp2
theorem iY.hand {gl:aFc F w} (H:iY E F μ h w) (hι : ∀ p q, ι p=ι q→p=q) (R:Ren ι (fun p f=>μ (ι p) f) hc μ h):iY ⟨w,F,fun p f=>μ (ι p) f,hc,gl⟩ F (fun p f=>μ (ι p) f) hc w:=by
 have up : ∀ {p f o},lv hc p f=some o→lv h (ι p) f=some (o.ren ι):=fun hl=>by rw [R.lv_,hl];rfl
 refine ⟨fun k f o hl=>(H.ob _ _ _ (up hl)).unren R,fun k f o k' f' o' b h1 h2 m1 m2 => ?_,fun k f o b hl hm=>H.sep _ _ _ b (up hl) hm,fun k f o b hl hm => .inl ⟨k,f,o,hl,hm⟩,H.fz,fun b hb => .inl hb,Evo.refl_,rfl,rfl,rfl,Nat.le_refl _,fun _ _ _=>rfl⟩
 obtain ⟨e1,e2⟩:=H.inj _ _ _ _ _ _ b (up h1) (up h2) m1 m2
 exact ⟨hι _ _ e1,e2⟩
theorem fS.get {as bs:List AV} (r:fS ι as bs):bs=AV.renL ι as:=r.eq_
open Classical in
theorem aOo (ks:List Nat) (B:Nat) {f:FuncId} {x:Operand} {args:Array Operand} {at_:Array TypeId} {caps as as':List AV} {hin hout:List fT} {r r':AV} (hx:evA N ⟨t,h⟩ x = .fn f caps) (ha:evL N ⟨t,h⟩ args.toList++caps=as') (har:fS (fK ks B) as as') (hF:FnC P f hin as hout r)
  (hB:Abv h B) (hnd:ks.Nodup) (hlt : ∀ k ∈ ks,k<B) (hk:AtK (fK ks B) h ks hin) (hb:aP3 (fK ks B) h ks hout h') (hr:dQ (fK ks B) r r'):dK P N ⟨dst, .call ⟨.value x,args,at_⟩,ty,pos,aft,g⟩ ⟨t,h⟩ r' h':=fun E F μ w ρ H st=>by
 obtain ⟨cap,c1,c2,c3⟩:=aC1 st hx
 rw [aC4 hF.c c1]
 rw [ha] at c2 c3
 have R:=hk.ren_ (μ:=μ) hB
 have inj:=aEm hnd hlt
 refine (hF.g w F (fun p f=>μ (fK ks B p) f) _ H.glob (H.hand inj R) (by rw [c2,har.eq_,qA]) fun i v a h1 h2 => ?_).mono ?_
 ·have h3:as'[i]? = some (a.ren (fK ks B)):=by rw [har.eq_,pZ,h2];rfl
  exact (c3 i v _ h1 h3).unren R a rfl
 ·rintro e w' ⟨v,F', μ1,rfl,H1,hv⟩
  obtain ⟨u1,u2⟩:=hb.at_ hnd
  have inks : ∀ p,p<ks.length→fK ks B p ∈ ks:=fun p hp=>by
   have:fK ks B p=ks[p]:=by unfold fK;rw [List.getElem?_eq_getElem hp]
   rw [this];exact List.getElem_mem hp
  have hi : ∀ p,ks.length≤p→fK ks B p=B+p:=fun p hp=>by unfold fK;rw [List.getElem?_eq_none hp]
  have R1:Ren (fK ks B) μ1 (lks hout) (fun k f=>if ∃ p,k=fK ks B p then μ1 (if hk : ∃ p,k=fK ks B p then hk.choose else 0) f else μ k f) h':=by
   refine ⟨fun p => ?_,fun p f => ?_⟩
   ·unfold lks
    rw [List.getD_eq_getElem?_getD]
    rcases Nat.lt_or_ge p ks.length with hp | hp
    ·have e1:fK ks B p=ks[p]:=by unfold fK;rw [List.getElem?_eq_getElem hp]
     rw [e1,u2 p _ _ (List.getElem?_eq_getElem hp) (List.getElem?_eq_getElem (show p<hout.length by omega)),List.getElem?_eq_getElem (show p<hout.length by omega)];rfl
    ·rw [hi p hp,hb.other _ (fun hm=>by have:=hlt _ hm;omega),hB _ (by omega),List.getElem?_eq_none (show hout.length≤p by omega)];rfl
   ·have hex : ∃ q,fK ks B p=fK ks B q:=⟨p,rfl⟩
    rw [if_pos hex,dif_pos hex,inj _ _ hex.choose_spec.symm]
  have hoth : ∀ k,(∀ p,k≠fK ks B p)→h' k=h k:=fun k hk=>hb.other k fun hm=>by
   obtain ⟨p,hp,e⟩:=List.mem_iff_getElem.1 hm
   refine hk p ?_
   unfold fK
   rw [List.getElem?_eq_getElem hp,e]
  obtain ⟨J1,J2⟩:=H.join inj R H1 R1 (fun k hk=>⟨hoth k hk,fun f=>by rw [if_neg (fun ⟨p,hp⟩=>hk p hp)]⟩)
  exact ⟨v,rfl,F',_,J1,J2,by rw [hr.eq_];exact hv.ren R1⟩
theorem aZ6 {fn:Func} {rs:List ResultVar} {as:List AV} {r:AV} {hout:List fT} (m B:Nat) (hm:Nat.beq hout.length m=true) (hrs:fn.results.toList=rs) (R:rB T N ⟨t,h⟩ rs as) (hB:Abv h B) (hlt:Nat.blt m B=true) (hk:AtK (fK (List.range m) B) h (List.range m) hout) (e:aUa as=r.ren (fK (List.range m) B)):aFd T N fn m hout r ⟨t,h⟩:=by
 have hml:=qE hlt
 refine ⟨rs,as,_,List.range m,B,hrs,R,rfl,List.nodup_range,fun k hk => ?_,fun p hp => ?_,hB,hk,e⟩
 ·have:=List.mem_range.1 hk;omega
 ·unfold fK;rw [List.getElem?_range hp]
section ints
variable {xt yt:TypeId} {x y:Operand}
theorem aKd {a b:ByteArray} (hx:evA N ⟨t,h⟩ x = .d (.v (.string a))) (hy:evA N ⟨t,h⟩ y = .d (.v (.string b))) (hs:a.size+b.size≤9223372036854775807):eV P N ⟨some d, .binOp .add xt x y yt,ty,pos,aft,g⟩ ⟨t,h⟩ (.d (.v (.string (a++b)))) :=
 nP (by rw [hx];rfl) (by rw [hy];rfl) fun w=>by
  have : ¬ (9223372036854775807:Int)<(a.size:Int)+(b.size:Int):=by omega
  simp [eqGuard,binOp,Op.stringOp,this]
theorem aG4 (a b:ByteArray):(a.toList == b.toList)=decide (a=b):=by
 by_cases e:a=b
 ·subst e;simp
 ·rw [decide_eq_false e,beq_eq_false_iff_ne]
  rw [ByteArray.toList_eq,ByteArray.toList_eq]
  intro h
  apply e
  cases a;cases b;simp at h;simp [h]
theorem aDt (a b:ByteArray):(a.toList=b.toList)=(a=b):=by
 apply propext
 constructor
 ·intro e
  have:=aG4 a b
  rw [e] at this
  simpa using this.symm
 ·intro e;rw [e]
theorem pH {a b:ByteArray} (hx:evA N ⟨t,h⟩ x = .d (.v (.string a))) (hy:evA N ⟨t,h⟩ y = .d (.v (.string b))):eV P N ⟨some d, .binOp .eql xt x y yt,ty,pos,aft,g⟩ ⟨t,h⟩ (.d (.v (.bool (decide (a=b))))) :=
 nP (by rw [hx];rfl) (by rw [hy];rfl) fun w=>by simp [eqGuard,binOp,Op.stringOp,aG4]
theorem zO {a b:ByteArray} (hx:evA N ⟨t,h⟩ x = .d (.v (.string a))) (hy:evA N ⟨t,h⟩ y = .d (.v (.string b))):eV P N ⟨some d, .binOp .neq xt x y yt,ty,pos,aft,g⟩ ⟨t,h⟩ (.d (.v (.bool (decide (a≠b))))) :=
 nP (by rw [hx];rfl) (by rw [hy];rfl) fun w=>by simp [eqGuard,binOp,Op.stringOp,aG4]
theorem aV7 (hT:TOk P T) {a b:Bool} {ti:TI} (hx:evA N ⟨t,h⟩ x = .d (.v (.bool a))) (hy:evA N ⟨t,h⟩ y = .d (.v (.bool b))) (h1:T xt=some ti) (h2:ti.desc = .bool):eV P N ⟨some d, .binOp .eql xt x y yt,ty,pos,aft,g⟩ ⟨t,h⟩ (.d (.v (.bool (a == b)))) :=
 nP (by rw [hx];rfl) (by rw [hy];rfl) fun w=>by
  have hu:=(hT _ _ h1).1
  rw [h2] at hu
  have e : ∀ n,(Op.equalIn (n+1) xt (.bool a) (.bool b)).run P w = .ok (a == b) w:=fun n=>by simp [Op.equalIn,run_underlying hu]
  have e2:(Op.equal xt (.bool a) (.bool b)).run P w = .ok (a == b) w:=e 9999
  simp [eqGuard,binOp,e2]
theorem aIa (hT:TOk P T) {a b:Bool} {ti:TI} (hx:evA N ⟨t,h⟩ x = .d (.v (.bool a))) (hy:evA N ⟨t,h⟩ y = .d (.v (.bool b))) (h1:T xt=some ti) (h2:ti.desc = .bool):eV P N ⟨some d, .binOp .neq xt x y yt,ty,pos,aft,g⟩ ⟨t,h⟩ (.d (.v (.bool (a != b)))) :=
 nP (by rw [hx];rfl) (by rw [hy];rfl) fun w=>by
  have hu:=(hT _ _ h1).1
  rw [h2] at hu
  have e : ∀ n,(Op.equalIn (n+1) xt (.bool a) (.bool b)).run P w = .ok (a == b) w:=fun n=>by simp [Op.equalIn,run_underlying hu]
  have e2:(Op.equal xt (.bool a) (.bool b)).run P w = .ok (a == b) w:=e 9999
  simp [eqGuard,binOp,e2,bne]
theorem aUz {k:IntKind} {a b:Int} {at_:Array TypeId} (hx:evA N ⟨t,h⟩ x = .d (.v (.int k a))) (hy:evA N ⟨t,h⟩ y = .d (.v (.int k b))):eV P N ⟨some d, .call ⟨.builtin .max, #[x,y],at_⟩,ty,pos,aft,g⟩ ⟨t,h⟩ (.d (.v (.int k (max a b)))):=fun w F μ hh ρ st=>by
 have h1:=lV (by have:=st x (by simp [Op.operands,Call.operands]);rw [hx] at this;exact this)
 have h2:=lV (by have:=st y (by simp [Op.operands,Call.operands]);rw [hy] at this;exact this)
 refine ⟨.int k (max a b),?_, .d _ _ (.v _ rfl)⟩
 have:(if a<b then b else a)=max a b:=by split <;> omega
 simp [execOp,resolve,invoke,builtin,h1,h2,Builtin.max_,Builtin.max2,this]
end ints
inductive Pre:List DV→List DV→Prop
 | z (l:List DV):Pre l []
 | t {a:DV} {l r:List DV} (h:Pre l r):Pre (a :: l) (a :: r)
theorem aDl {cs ds:List DV} (hp:Pre cs ds):sX h (.ref cs) (.ref ds):=by
 refine .ref cs ds ?_
 induction hp with
 | z l=>intro j x hx;simp at hx
 | t k ih =>
  intro j x hx
  cases j with
  | zero=>exact hx
  | succ j=>exact ih j x hx
inductive aNj:Nat→List AV→List DV→Prop
 | z (l:List AV):aNj 0 l []
 | t {x:DV} {l:List AV} {r:List DV} (h:aNj 0 l r):aNj 0 (.d x :: l) (x :: r)
 | d {o:Nat} {a:AV} {l:List AV} {r:List DV} (h:aNj o l r):aNj (o+1) (a :: l) r
theorem aNj.spec {o:Nat} {l:List AV} {r:List DV} (h:aNj o l r):o+r.length≤l.length ∧ ∀ (t:Nat) (c:AV) (x:DV),l[o+t]? = some c→r[t]? = some x→c = .d x:=by
 induction h with
 | z l=>exact ⟨by simp,fun t c x _ hx=>by simp at hx⟩
 | t k ih =>
  refine ⟨by simp;have:=ih.1;omega,fun t c x hc hx => ?_⟩
  cases t with
  | zero=>simp at hc hx;rw [← hc,hx]
  | succ t=>exact ih.2 t c x (by simpa using hc) (by simpa using hx)
 | @d o a l r k ih =>
  refine ⟨by simp;have:=ih.1;omega,fun t c x hc hx => ?_⟩
  rw [show o+1+t=o+t+1 by omega,List.getElem?_cons_succ] at hc
  exact ih.2 t c x hc hx
theorem aLc {k j:Nat} {ty:TypeId} {sz:Nat} {cells:List AV} {ds:List DV} (hk:h k = .live [⟨ty,sz, .av [cells]⟩]) (hd:aNj j cells ds):sX h (.ptr k 0 1 0 j) (.ref ds):=by
 refine .ptr k 0 1 0 j ⟨ty,sz, .av [cells]⟩ cells ds (by rw [jU hk];rfl) rfl rfl (by have:=hd.spec.1;omega) fun t c x hc hx => ?_
 rw [hd.spec.2 t c x hc hx]
 exact .d x
inductive aF6 (h:eB):Nat→List AV→List DV→Prop
 | z (l:List AV):aF6 h 0 l []
 | t {c:AV} {x:DV} {l:List AV} {r:List DV} (hv:sX h c (.d x)) (k:aF6 h 0 l r):aF6 h 0 (c :: l) (x :: r)
 | d {o:Nat} {a:AV} {l:List AV} {r:List DV} (k:aF6 h o l r):aF6 h (o+1) (a :: l) r
theorem aF6.spec {o:Nat} {l:List AV} {r:List DV} (q:aF6 h o l r):o+r.length≤l.length ∧ ∀ (t:Nat) (c:AV) (x:DV),l[o+t]? = some c→r[t]? = some x→sX h c (.d x):=by
 induction q with
 | z l=>exact ⟨by simp,fun t c x _ hx=>by simp at hx⟩
 | t hv k ih =>
  refine ⟨by simp;have:=ih.1;omega,fun t c x hc hx => ?_⟩
  cases t with
  | zero=>simp at hc hx;rw [← hc, ← hx];exact hv
  | succ t=>exact ih.2 t c x (by simpa using hc) (by simpa using hx)
 | @d o a l r k ih =>
  refine ⟨by simp;have:=ih.1;omega,fun t c x hc hx => ?_⟩
  rw [show o+1+t=o+t+1 by omega,List.getElem?_cons_succ] at hc
  exact ih.2 t c x hc hx
theorem aGv {k j:Nat} {ty:TypeId} {sz:Nat} {cells:List AV} {ds:List DV} (hk:h k = .live [⟨ty,sz, .av [cells]⟩]) (hd:aF6 h j cells ds):sX h (.ptr k 0 1 0 j) (.ref ds):=by
 refine .ptr k 0 1 0 j ⟨ty,sz, .av [cells]⟩ cells ds (by rw [jU hk];rfl) rfl rfl (by have:=hd.spec.1;omega) fun t c x hc hx => ?_
 exact hd.spec.2 t c x hc hx
theorem aS8 {f:FuncId} {as:List AV} {hs:List fT} {b:Value} (hF:FnC P f [] as hs (.d (.v b))) (W:World) (vs:Array Value) (hl:vs.size=as.length) (hr : ∀ (i:Nat) v a,vs[i]? = some v→as[i]? = some a→fC W (fun b=>b<W.heap.size) (fun _ _=>none) (lks []) v a)  (hgl:aFc (fun b=>b<W.heap.size) W:=by intro x hx;simp [aTr] at hx) :
  Calls P f vs W fun e w'=>e = .returned b∧Below W.heap.size W w':=by
 refine (hF.g W (fun b=>b<W.heap.size) (fun _ _=>none) vs hgl (iY.start fun b hb=>hb) hl hr).mono ?_
 rintro e w' ⟨v,F', μ',rfl,H,hv⟩
 rw [lV hv]
 exact ⟨rfl,H.os,H.tape,H.output,H.size,fun b hb=>H.keep b hb fun ⟨k,f,o,hl,_⟩=>by simp [lv,lks] at hl⟩
end
end Go.Proofs.YtceknlcbfomdhaaGreatDoor
namespace Go.Proofs.YtceknlcbfomdhaaGreatDoor
open Go.RowKit
set_option linter.unusedVariables false
set_option maxRecDepth 100000
section
variable {P:Program}
def aXy:List AV→Option (List Value)
 | []=>some []
 | a :: as=>match toV a,aXy as with
  | some v,some l=>some (v :: l)
  | _,_=>none
theorem aOm {w:World} {F:Nat→Prop} {μ:cT} {h:eB} : ∀ {as:List AV} {l:List Value} (vs:List Value),aXy as=some l→vs.length=as.length→(∀ (i:Nat) v a,vs[i]? = some v→as[i]? = some a→fC w F μ h v a)→vs=l
 | [],l,vs,hl,hs,_=>by
  simp [aXy] at hl
  subst hl
  exact List.eq_nil_of_length_eq_zero hs
 | a :: as,l,vs,hl,hs,hr=>by
  match vs,hs with
  | v :: vs,hs =>
   unfold aXy at hl
   split at hl
   ·rename_i v' l' h1 h2
    injection hl with hl
    subst hl
    rw [aE7 h1 (hr 0 v a rfl rfl),aOm vs h2 (by simpa using hs) fun i v a h3 h4=>hr (i+1) v a h3 h4]
   ·cases hl
theorem iY.of_below {w w':World} {F:Nat→Prop} {μ:cT} {gl:aFc F w} (H:iY ⟨w,F, μ,lks [],gl⟩ F μ (lks []) w) (b:Below w.heap.size w w'):iY ⟨w,F, μ,lks [],gl⟩ F μ (lks []) w':=by
 have no : ∀ {k f o},lv (lks []) k f=some o→False:=fun hl=>by simp [lv,lks] at hl
 exact ⟨fun k f o hl=>(no hl).elim,fun k f o k' f' o' b hl=>(no hl).elim,fun k f o b hl=>(no hl).elim,fun k f o b hl=>(no hl).elim,fun x hx=>Nat.lt_of_lt_of_le (H.fz x hx) b.size,fun b hb => .inl hb,
  ⟨fun x hx=>b.block x (H.fz x hx),fun _ hb=>hb,fun _ hb=>hb,fun k f o' hk ho'=>(no ho').elim⟩,b.os,b.tape,b.output,b.size,fun x hx _=>b.block x hx⟩
theorem aVo {f:FuncId} {as:List AV} {vs:List Value} {v:Value} (hc:aLj P f=true) (hv:aXy as=some vs) (h : ∀ (W:World) (F:Nat→Prop),aFc F W→Calls P f vs.toArray W fun e w'=>e = .returned v∧Below W.heap.size W w'):FnC P f [] as [] (aQl v):=by
 refine ⟨hc,fun w F μ us gl H hs hr => ?_⟩
 have e:us.toList=vs:=aOm us.toList hv (by simpa using hs) fun i u a h1 h2=>hr i u a (by simpa using h1) h2
 have e2:us=vs.toArray:=by rw [← e]
 rw [e2]
 refine (h w F gl).mono ?_
 rintro e w' ⟨rfl,hb⟩
 exact ⟨v,F, μ,rfl,H.of_below hb,aGb v⟩
end
end Go.Proofs.YtceknlcbfomdhaaGreatDoor
namespace Go.Proofs.YtceknlcbfomdhaaGreatDoor
open Go.RowKit
set_option linter.unusedVariables false
set_option maxRecDepth 100000
def atI {α:Type} (xs:List α) (i:Int):Option α:=if 0≤i then xs[i.toNat]? else none
def chk {α:Type} (b:Prop) [Decidable b] (k:Option α):Option α:=if b then k else none
def w64 (x:Int):Int:=IntKind.i64.wrap x
theorem bD {x:Int} (h0 : -9223372036854775808≤x) (h1:x≤9223372036854775807):w64 x=x:=aYh h0 h1
def aTn:Nat:=1180591620717411303424
def aPf:Nat:=2000000
def zN {S X:Type} (step:S→Option (S ⊕ X)):Nat→S→Option X
 | 0,_=>none
 | n+1,s=>match step s with
  | none=>none
  | some (.inl s')=>zN step n s'
  | some (.inr x)=>some x
def cD {S X:Type} (step:S→Option (S ⊕ X)) (s:S):Option X:=zN step aTn s
def orE {V Z:Type} (x:V ⊕ Z) (f:V→Option Z):Option Z:=match x with
 | .inl v=>f v
 | .inr z=>some z
theorem bnd {α β:Type} {x:Option α} {f:α→Option β} {r:β} (h:x.bind f=some r) : ∃ y,x=some y∧f y=some r:=by
 cases x with
 | none=>cases h
 | some y=>exact ⟨y,rfl,h⟩
theorem cO {α:Type} {b:Prop} [Decidable b] {k:Option α} {r:α} (h:chk b k=some r):b∧k=some r:=by
 unfold chk at h
 split at h
 ·exact ⟨by assumption,h⟩
 ·cases h
theorem fY {α:Type} {b:Prop} [Decidable b] {k:Option α} (h:b):chk b k=k:=if_pos h
theorem dP {α:Type} {xs:List α} {i:Int} {e:α} (h:atI xs i=some e):i=(i.toNat:Int)∧xs[i.toNat]? = some e∧i.toNat<xs.length:=by
 unfold atI at h
 split at h
 ·exact ⟨by omega,h,(List.getElem?_eq_some_iff.1 h).1⟩
 ·cases h
theorem aBb {α:Type} {xs:List α} {k:Nat}:atI xs (k:Int)=xs[k]? := by
 unfold atI
 rw [if_pos (by omega),Int.toNat_natCast]
theorem xY {S X:Type} {step:S→Option (S ⊕ X)} (I:S→Prop) (m:S→Nat) (Post:X→Prop) (hs : ∀ s,I s→(∃ s',step s=some (.inl s')∧I s'∧m s'<m s) ∨ ∃ x,step s=some (.inr x)∧Post x) (s0:S) (h0:I s0) (hm:m s0<1180591620717411303424) :
  ∃ x,cD step s0=some x∧Post x:=by
 have key : ∀ n s,I s→m s<n → ∃ x,zN step n s=some x∧Post x:=by
  intro n
  induction n with
  | zero=>intro s _ h;omega
  | succ n ih =>
   intro s hI hlt
   rcases hs s hI with ⟨s',h1,h2,h3⟩ | ⟨x,h1,h2⟩
   ·obtain ⟨x,h4,h5⟩:=ih s' h2 (by omega)
    exact ⟨x,by simp only [zN,h1];exact h4,h5⟩
   ·exact ⟨x,by simp only [zN,h1],h2⟩
 exact key aTn s0 h0 hm
theorem tG {S X:Type} {step:S→Option (S ⊕ X)} {x:X} (I:S→Prop) (m:S→Nat) (hs : ∀ s,I s→(∃ s',step s=some (.inl s')∧I s'∧m s'<m s)∨step s=some (.inr x)) {s0:S} (h0:I s0) (hm:m s0<1180591620717411303424):cD step s0=some x:=by
 obtain ⟨x',h1,rfl⟩:=xY I m (fun x'=>x'=x) (fun s hI=>(hs s hI).imp id fun h=>⟨x,h,rfl⟩) s0 h0 hm
 exact h1
section
variable {P:Program} {T:Tab} {L N:Nat} {ops:Array Oper} {E:Env} {K:List (Nat × Cls)→AS→Prop} {i:Nat} {is:List Nat} {t:Nat→AV} {h h':eB} {d:Tmp} {dst:Option Tmp} {op:Op} {ty:TypeId} {pos:String} {aft:Array Edge} {g:Option (Nat × Bool)} {Q:rQ→AS→Prop} {σ:AS} {c x y:Code}
theorem bI (J:AS) (h1:AW L P N x (aFb (fun σ'=>mG L N σ' J) Q) σ) (h2:AW L P N y Q J):AW L P N (.seq x y) Q σ :=
 aB (h1.mono fun e σ' q=>by cases e <;> first | exact cN q h2 | exact q)
theorem dH {V Y:Type} (v:V ⊕ Y) (J:V→AS) (h1:AW L P N x (aFb (fun σ' => ∃ u,v = .inl u∧mG L N σ' (J u)) Q) σ) (h2 : ∀ u,v = .inl u→AW L P N y Q (J u)):AW L P N (.seq x y) Q σ :=
 aB (h1.mono fun e σ' q=>by
  cases e <;> first | exact q | skip
  obtain ⟨u,e,w⟩:=q
  exact cN w (h2 u e))
def aSy {S X:Type} (L N:Nat) (St:S→AS) (y:S ⊕ X) (x:X) (Q:rQ→AS→Prop):rQ→AS→Prop
 | .normal, σ' => ∃ s',y = .inl s'∧mG L N σ' (St s')
 | e, σ' => ∃ x',y = .inr x'∧(x'=x→Q e σ')
theorem aZ {S X:Type} {step:S→Option (S ⊕ X)} (St:S→AS) {s0:S} {x:X} (hx:cD step s0=some x) (h0:mG L N σ (St s0)) (round : ∀ s y,step s=some y→AW L P N c (aSy L N St y x Q) (St s)):AW L P N (.loop c) Q σ:=by
 refine aVc (ι:={p:Nat × S // zN step p.1 p.2=some x}) (fun p=>St p.1.2) (fun p=>p.1.1) ⟨(aTn,s0),hx⟩ h0 fun ⟨⟨n,s⟩,hn⟩ => ?_
 cases n with
 | zero=>simp [zN] at hn
 | succ n =>
  cases hst:step s with
  | none=>simp [zN,hst] at hn
  | some y =>
   refine (round s y hst).mono fun e σ' q => ?_
   simp only [zN,hst] at hn
   cases e with
   | normal =>
    obtain ⟨s',rfl,hw⟩:=q
    exact ⟨⟨(n,s'),hn⟩,Nat.lt_succ_self n,hw⟩
   | exit id=>obtain ⟨x',rfl,k⟩:=q;exact k (by simpa using hn)
   | goto l=>obtain ⟨x',rfl,k⟩:=q;exact k (by simpa using hn)
   | ret=>obtain ⟨x',rfl,k⟩:=q;exact k (by simpa using hn)
theorem bS {S X:Type} {St:S→AS} {y:S ⊕ X} {x:X} {σ':AS} (h : ∃ s',y = .inl s'∧mG L N σ' (St s')):aSy L N St y x Q .normal σ':=h
theorem bU {S X:Type} {St:S→AS} {y:S ⊕ X} {x:X} {σ':AS} {j:Nat} (h : ∃ x',y = .inr x'∧(x'=x→Q (.exit j) σ')):aSy L N St y x Q (.exit j) σ':=h
theorem dM {S X:Type} {St:S→AS} {y:S ⊕ X} {x:X} {σ':AS} (h : ∃ x',y = .inr x'∧(x'=x→Q .ret σ')):aSy L N St y x Q .ret σ':=h
theorem bC {α:Type} {o:Operand} {p:Prop} [Decidable p] {a b r:α} (h:(if p then a else b)=r) (hb:evA N σ o = .d (.v (.bool (decide p)))) (ht:p→a=r→AW L P N x Q σ) (hf : ¬ p→b=r→AW L P N y Q σ):AW L P N (.cond o x y) Q σ :=
 aS5 p hb (fun hp=>ht hp (by rwa [if_pos hp] at h)) (fun hp=>hf hp (by rwa [if_neg hp] at h))
theorem bM {α:Type} {o:Operand} {p:Bool} {a b r:α} (h:(if p=true then a else b)=r) (hb:evA N σ o = .d (.v (.bool p))) (ht:p=true→a=r→AW L P N x Q σ) (hf : ¬ p=true→b=r→AW L P N y Q σ):AW L P N (.cond o x y) Q σ :=
 aG3 p hb (fun hp=>ht hp (by rwa [if_pos hp] at h)) (fun hp=>hf (by simp [hp]) (by rwa [if_neg (by simp [hp])] at h))
theorem aKh {α:Type} {u:Nat} {p:Prop} [Decidable p] {a b r:α} (hh:(if p then a else b)=r) (hb:t u = .d (.v (.bool (decide p)))) (ht:p→a=r→RT P N ops is K ⟨aC t u (.d (.v (.bool true))),h⟩) (hf : ¬ p→b=r→RT P N ops is K ⟨aC t u (.d (.v (.bool false))),h⟩):RT P N ops is K ⟨t,h⟩ :=
 aUb hb (fun hp=>ht hp (by rwa [if_pos hp] at hh)) (fun hp=>hf hp (by rwa [if_neg hp] at hh))
theorem tL {α:Type} {u:Nat} {p:Bool} {a b r:α} (hh:(if p=true then a else b)=r) (hb:t u = .d (.v (.bool p))) (ht:p=true→a=r→RT P N ops is K ⟨aC t u (.d (.v (.bool true))),h⟩) (hf : ¬ p=true→b=r→RT P N ops is K ⟨aC t u (.d (.v (.bool false))),h⟩):RT P N ops is K ⟨t,h⟩ :=
 aR0 hb (fun hp=>ht hp (by rwa [if_pos hp] at hh)) (fun hp=>hf (by simp [hp]) (by rwa [if_neg (by simp [hp])] at hh))
theorem w0 {o:Op}:yR N ops ⟨dst,o,ty,pos,aft,none⟩ σ := .inl rfl
theorem w1 {o:Op} {j u:Nat} {b:Bool} (hj:(ops[j]?).bind (·.dst)=some u) (ht:Nat.blt u N=true) (hb:t u = .d (.v (.bool b))):yR N ops ⟨dst,o,ty,pos,aft,some (j,b)⟩ ⟨t,h⟩:=aSq rfl hj ht hb
theorem aZs {t':Nat→AV} {ss:List fT} (ks:List Nat) (B:Nat) (hnd:ks.Nodup:=by decide) (hlt : ∀ k ∈ ks,k<B:=by decide) (h3:(List.range L).all (fun p=>fK ks B p == p)=true:=by decide)
  (hB:Abv h B:=by repeat (first | exact oZ _ | exact oY rfl | refine pA ?_ rfl)) (wt:WT (fK ks B) t t') (wh:AtK (fK ks B) h ks ss):mG L N ⟨t,h⟩ ⟨t',lks ss⟩:=by
 rintro E a w ⟨F, μ,A⟩
 have R:=wh.ren_ (μ:=μ) hB
 refine ⟨F,_,A.H.restrict (aEm hnd hlt) R (fun p hp => ?_),A.df,A.sz,fun d hd => ?_,A.lim⟩
 ·rcases Nat.lt_or_ge p L with h1 | h1
  ·have:=List.all_eq_true.1 h3 p (by simpa using h1)
   simpa using this
  ·exact absurd (A.lim p h1) hp
 ·have hr:=A.tm d hd
  rcases wt.spec d with e | e
  ·have hr:fC w F μ h (a.tmps.getD d undef) (t d):=hr
   rw [e] at hr
   exact hr.unren R (t' d) rfl
  ·show fC w F _ _ _ (t' d)
   rw [e];exact .dead _
def RA (L:Nat) (P:Program) (N:Nat) (ops:Array Oper) (is:List Nat) (Q:rQ→AS→Prop) (σ:AS):Prop := ∀ E a w,Abs L E N σ a w→wpOps P ops (aWs L E N Q) is a w
theorem cF {id:Nat} {is:List Nat} (his:List.range ops.size=is) (h:RA L P N ops is Q σ):AW L P N (.region id ops false) Q σ:=fun E a w A=>wp_region (by rw [his];exact h E a w A)
theorem aY (h:Q .normal σ):RA L P N ops [] Q σ:=fun E a w A=>by
 show wpOps P ops (aWs L E N Q) [] a w
 unfold wpOps
 exact ⟨σ,A,h⟩
theorem oK {σ':AS} (hw:mG L N σ σ') (k:RA L P N ops is Q σ'):RA L P N ops is Q σ:=fun E a w A=>k E a w (hw E a w A)
theorem aWe {o:Oper} {cl:Cls} {σ1:AS} (ho:ops[i]? = some o) (hs:gK P N ops o σ cl σ1) (k:RA L P N ops is Q σ1):RA L P N ops (i :: is) Q σ:=fun E a w A=>by
 simp only [wpOps,ho]
 have:=hs.sound A (K:=wpOps P ops (aWs L E N Q) is) (Q:=aWs L E N Q) (fun a' w' A'=>k E a' w' A')
 split
 ·rename_i hw;rw [if_pos hw] at this;exact .inl this
 ·rename_i hw;rw [if_neg hw] at this;exact this
theorem aEr (h:RT P N ops [i] (fun _ σ'=>RA L P N ops is Q σ') σ):RA L P N ops (i :: is) Q σ:=by
 obtain ⟨l, σ',e,C,hk⟩:=h
 cases C with
 | nil=>simp at e
 | cons j c l o _ σ1 _ ho hs hr =>
  simp only [List.map_cons,List.cons.injEq] at e
  obtain ⟨rfl,e⟩:=e
  have:l=[]:=List.map_eq_nil_iff.1 e
  subst this
  cases hr
  exact aWe ho hs hk
theorem rp {r:AV} (ho:ops[i]? = some ⟨some d,op,ty,pos,aft,g⟩) (hw:yR N ops ⟨some d,op,ty,pos,aft,g⟩ ⟨t,h⟩) (hd:Nat.blt d N=true) (hp:eV P N ⟨some d,op,ty,pos,aft,g⟩ ⟨t,h⟩ r) (k:RA L P N ops is Q ⟨aC t d r,h⟩):RA L P N ops (i :: is) Q ⟨t,h⟩:=aEr (rF ho hw hd hp (bN k))
theorem rl {r:AV} (ho:ops[i]? = some ⟨some d,op,ty,pos,aft,g⟩) (hw:yR N ops ⟨some d,op,ty,pos,aft,g⟩ ⟨t,h⟩) (hd:Nat.blt d N=true) (hp:jO P N ⟨some d,op,ty,pos,aft,g⟩ ⟨t,h⟩ r) (k:RA L P N ops is Q ⟨aC t d r,h⟩):RA L P N ops (i :: is) Q ⟨t,h⟩:=aEr (aZ7 ho hw hd hp (bN k))
theorem rs {r:AV} (ho:ops[i]? = some ⟨some d,op,ty,pos,aft,g⟩) (hw:yR N ops ⟨some d,op,ty,pos,aft,g⟩ ⟨t,h⟩) (hd:Nat.blt d N=true) (hp:dK P N ⟨some d,op,ty,pos,aft,g⟩ ⟨t,h⟩ r h' ∧ ∀ k,h k ≠ .no→h' k=h k) (k:RA L P N ops is Q ⟨aC t d r,h'⟩):RA L P N ops (i :: is) Q ⟨t,h⟩:=aEr (aU1 ho hw hd hp (bN k))
theorem rw1 {r:AV} (ho:ops[i]? = some ⟨some d,op,ty,pos,aft,g⟩) (hw:yR N ops ⟨some d,op,ty,pos,aft,g⟩ ⟨t,h⟩) (hd:Nat.blt d N=true) (hp:dK P N ⟨some d,op,ty,pos,aft,g⟩ ⟨t,h⟩ r h') (k:RA L P N ops is Q ⟨aC t d r,h'⟩):RA L P N ops (i :: is) Q ⟨t,h⟩:=aEr (aZ8 ho hw hd hp (bN k))
theorem rw0 {r:AV} (ho:ops[i]? = some ⟨none,op,ty,pos,aft,g⟩) (hw:yR N ops ⟨none,op,ty,pos,aft,g⟩ ⟨t,h⟩) (hp:dK P N ⟨none,op,ty,pos,aft,g⟩ ⟨t,h⟩ r h') (k:RA L P N ops is Q ⟨t,h'⟩):RA L P N ops (i :: is) Q ⟨t,h⟩:=aEr (aXp ho hw hp (bN k))
theorem rn {r:AV} (ho:ops[i]? = some ⟨none,op,ty,pos,aft,g⟩) (hw:yR N ops ⟨none,op,ty,pos,aft,g⟩ ⟨t,h⟩) (hp:dK P N ⟨none,op,ty,pos,aft,g⟩ ⟨t,h⟩ r h' ∧ ∀ k,h k ≠ .no→h' k=h k) (k:RA L P N ops is Q ⟨t,h'⟩):RA L P N ops (i :: is) Q ⟨t,h⟩:=aEr (aXp ho hw hp.1 (bN k))
theorem rk {j u:Nat} {want:Bool} (ho:ops[i]? = some ⟨some d,op,ty,pos,aft,some (j,want)⟩) (hj:(ops[j]?).bind (·.dst)=some u) (hu:Nat.blt u N=true) (hb:t u = .d (.v (.bool !want))∨t u = .tup []) (hd:Nat.blt d N=true) (k:RA L P N ops is Q ⟨aC t d (.tup []),h⟩):RA L P N ops (i :: is) Q ⟨t,h⟩:=aEr (aR1 ho hj hu hb hd (bN k))
theorem aRw {u:Nat} {b:Bool} (hb:t u = .d (.v (.bool b))) (ht:b=true→RA L P N ops is Q ⟨aC t u (.d (.v (.bool true))),h⟩) (hf:b=false→RA L P N ops is Q ⟨aC t u (.d (.v (.bool false))),h⟩):RA L P N ops is Q ⟨t,h⟩:=by
 have e : ∀ x,t u=x→aC t u x=t:=fun x hx=>by
  funext t'
  by_cases e:t'=u
  ·subst e;rw [gC,hx]
  ·rw [lM _ _ e]
 cases b with
 | true=>have:=ht rfl;rwa [e _ hb] at this
 | false=>have:=hf rfl;rwa [e _ hb] at this
theorem iT {α:Type} {u:Nat} {p:Prop} [Decidable p] {a b r:α} (hh:(if p then a else b)=r) (hb:t u = .d (.v (.bool (decide p)))) (ht:p→a=r→RA L P N ops is Q ⟨aC t u (.d (.v (.bool true))),h⟩) (hf : ¬ p→b=r→RA L P N ops is Q ⟨aC t u (.d (.v (.bool false))),h⟩):RA L P N ops is Q ⟨t,h⟩ :=
 aRw hb (fun hp=>have hp:=of_decide_eq_true hp;ht hp (by rwa [if_pos hp] at hh)) (fun hp=>have hp:=of_decide_eq_false hp;hf hp (by rwa [if_neg hp] at hh))
theorem dU {α:Type} {u:Nat} {p:Bool} {a b r:α} (hh:(if p=true then a else b)=r) (hb:t u = .d (.v (.bool p))) (ht:p=true→a=r→RA L P N ops is Q ⟨aC t u (.d (.v (.bool true))),h⟩) (hf : ¬ p=true→b=r→RA L P N ops is Q ⟨aC t u (.d (.v (.bool false))),h⟩):RA L P N ops is Q ⟨t,h⟩ :=
 aRw hb (fun hp=>ht hp (by rwa [if_pos hp] at hh)) (fun hp=>hf (by simp [hp]) (by rwa [if_neg (by simp [hp])] at hh))
end
end Go.Proofs.YtceknlcbfomdhaaGreatDoor
namespace Go.Proofs.YtceknlcbfomdhaaGreatDoor
open Go.RowKit
set_option linter.unusedVariables false
set_option maxRecDepth 100000
mutual
/-- handles to the object at k, seen as data from here on -/
inductive FzR (k:Nat) (X:Option (List (List DV))) (D:Option (List DV)):AV→AV→Prop
 | d (x:DV):FzR k X D (.d x) (.d x)
 | own {es:List (List DV)} {n:Nat} (hX:X=some es) (hn:n=es.length):FzR k X D (.own k 0 n) (.d (.sl es))
 | ptr {ds out:List DV} {j:Nat} (hD:D=some ds) (hj:Drp j ds out):FzR k X D (.ptr k 0 1 0 j) (.ref out)
 | own' {k' f n:Nat}:FzR k X D (.own k' f n) (.own k' f n)
 | ptr' {k' f n i j:Nat}:FzR k X D (.ptr k' f n i j) (.ptr k' f n i j)
 | ref (cs:List DV):FzR k X D (.ref cs) (.ref cs)
 | agg {cs ds:List AV} (h:tW k X D cs ds):FzR k X D (.agg cs) (.agg ds)
 | tup {cs ds:List AV} (h:tW k X D cs ds):FzR k X D (.tup cs) (.tup ds)
 | fn {g:FuncId} {cs ds:List AV} (h:tW k X D cs ds):FzR k X D (.fn g cs) (.fn g ds)
 | dead (a:AV):FzR k X D a .dead
inductive tW (k:Nat) (X:Option (List (List DV))) (D:Option (List DV)):List AV→List AV→Prop
 | nil:tW k X D [] []
 | cons {c d:AV} {cs ds:List AV} (h:FzR k X D c d) (q:tW k X D cs ds):tW k X D (c :: cs) (d :: ds)
end
theorem tW.len_ {k:Nat} {X:Option (List (List DV))} {D:Option (List DV)} : ∀ {cs ds:List AV},tW k X D cs ds→cs.length=ds.length
 | _,_, .nil=>rfl
 | _,_, .cons _ q=>by simp [tW.len_ q]
theorem tW.get_ {k:Nat} {X:Option (List (List DV))} {D:Option (List DV)} : ∀ {cs ds:List AV},tW k X D cs ds → ∀ (i:Nat) c d,cs[i]? = some c→ds[i]? = some d→FzR k X D c d
 | _,_, .nil,i,c,d,h,_=>by simp at h
 | _,_, .cons h q,0,c,d,h1,h2=>by simp at h1 h2;subst h1 h2;exact h
 | _,_, .cons h q,i+1,c,d,h1,h2=>by simp at h1 h2;exact tW.get_ q i c d h1 h2
section
variable {P:Program} {L N:Nat} {E:Env} {t:Nat→AV} {h h':eB} {k:Nat} {X:Option (List (List DV))} {D:Option (List DV)}
structure FzH (k:Nat) (X:Option (List (List DV))) (D:Option (List DV)) (h h':eB):Prop where
 at_ : ∃ o,h k = .live [o]∧(∀ es,X=some es→o.cs = .data es) ∧ ∀ ds,D=some ds→o.cs = .av [ds.map .d]
 dead:h' k = .dead
 oth : ∀ p,p≠k→h' p=h p ∨ ∃ ty sz cs ds,h p = .live [⟨ty,sz, .av [cs]⟩]∧h' p = .live [⟨ty,sz, .av [ds]⟩]∧tW k X D cs ds
theorem aQt {F:Nat→Prop} {μ:cT} {w:World} (Z:FzH k X D h h'):Evo w F μ h w (fun b=>F b∨μ k 0=some b) μ h':=by
 refine ⟨fun _ _=>rfl,fun b hb => .inl hb,fun p hp => ?_,fun p f o' hp ho' => ?_⟩
 ·by_cases e:p=k
  ·subst e;rw [Z.dead];simp
  ·rcases Z.oth p e with e1 | ⟨ty,sz,cs,ds,e1,e2,_⟩
   ·rwa [e1]
   ·rw [e2];simp
 ·by_cases e:p=k
  ·subst e;simp [lv,Z.dead] at ho'
  ·rcases Z.oth p e with e1 | ⟨ty,sz,cs,ds,e1,e2,_⟩
   ·have:lv h p f=some o':=by unfold lv at ho' ⊢;rwa [← e1]
    exact ⟨o',this, .inr ⟨rfl,rfl,rfl,fun b cur _ hc=>⟨cur,hc,rfl⟩⟩⟩
   ·unfold lv at ho' ⊢
    rw [e2] at ho'
    rw [e1]
    cases f with
    | zero =>
     simp only [List.getElem?_cons_zero,Option.some.injEq] at ho'
     subst ho'
     exact ⟨_,rfl, .inr ⟨rfl,rfl,rfl,fun b cur _ hc=>⟨cur,hc,rfl⟩⟩⟩
    | succ f=>simp at ho'
theorem aQu {F:Nat→Prop} {μ:cT} {w:World} (H:iY E F μ h w) (Z:FzH k X D h h') {v:Value} {a:AV} (r:fC w F μ h v a) : ∀ {a':AV},FzR k X D a a'→fC w (fun b=>F b∨μ k 0=some b) μ h' v a':=by
 have V:=aQt (F:=F) (μ:=μ) (w:=w) Z
 obtain ⟨o,hk,hX0,hD0⟩:=Z.at_
 have hlo:lv h k 0=some o:=by unfold lv;rw [hk];rfl
 induction r with
 | d v x hd=>intro a' z;cases z with | d=>exact (fC.d v x hd).evo V | dead=>exact .dead _
 | agg vs cs hs hr ih =>
  intro a' z
  cases z with
  | agg q =>
   refine .agg vs _ (hs.trans q.len_) fun i v d hv hd => ?_
   have hlt:i<cs.length:=by have:=(List.getElem?_eq_some_iff.1 hd).1;rw [q.len_];exact this
   exact ih i v _ hv (List.getElem?_eq_getElem hlt) (q.get_ i _ d (List.getElem?_eq_getElem hlt) hd)
  | dead=>exact .dead _
 | tup vs cs hs hr ih =>
  intro a' z
  cases z with
  | tup q =>
   refine .tup vs _ (hs.trans q.len_) fun i v d hv hd => ?_
   have hlt:i<cs.length:=by have:=(List.getElem?_eq_some_iff.1 hd).1;rw [q.len_];exact this
   exact ih i v _ hv (List.getElem?_eq_getElem hlt) (q.get_ i _ d (List.getElem?_eq_getElem hlt) hd)
  | dead=>exact .dead _
 | ref b off cs g hF hg hr=>intro a' z;cases z with | ref=>exact (fC.ref b off cs g hF hg hr).evo V | dead=>exact .dead _
 | ptr v k' f n i j h1 hb hv =>
  intro a' z
  cases z with
  | ptr'=>exact (fC.ptr v k' f n i j h1 hb hv).evo V
  | dead=>exact .dead _
  | ptr hD hj =>
   rename_i ds out
   have hc:=hD0 ds hD
   obtain ⟨b,cur,hm,hw,hob⟩ : ∃ b cur, μ k 0=some b∧w.heap[b]? = some (.cells cur o.ty (0,0)) ∧ ∀ (q:Nat) (x:DV),ds[q]? = some x → ∃ u,cur[q]? = some u∧fC w F μ h u (.d x):=by
    rcases H.ob k 0 o hlo with ⟨_,q⟩ | ⟨b,cur,q1,q2,q3⟩
    ·rw [hc] at q;simp [cG.len] at q
    ·refine ⟨b,cur,q1,q2,fun q x hx => ?_⟩
     obtain ⟨u,hu,hr⟩:=(q3 0 (ds.map .d) (by rw [hc];rfl)).2 q (.d x) (aN1 hx)
     exact ⟨u,by simpa using hu,hr⟩
   obtain ⟨b',hm',rfl⟩:=(hv o hlo).2 (by rw [hc];rfl)
   rw [hm] at hm'
   injection hm' with hm'
   subst hm'
   obtain ⟨rfl,hjl⟩:=hj.spec
   have hat : ∀ (q:Nat) x,(ds.drop j)[q]? = some x → ∃ u,cur[j+q]? = some u∧fC w F μ h u (.d x):=fun q x hx=>hob (j+q) x (by rwa [List.getElem?_drop] at hx)
   refine .ref b _ _ (fun q=>cur.getD (j+q) undef) (.inr hm) (fun q x hx => ?_) (fun q x hx => ?_)
   ·obtain ⟨u,hu,_⟩:=hat q x hx
    rw [cell_of_row w b _ cur o.ty (0,0) hw]
    simp [hu]
   ·obtain ⟨u,hu,hr⟩:=hat q x hx
    have e1:cur.getD (j+q) undef=u:=by simp [hu]
    rw [e1]
    cases hr with | d _ _ hd=>exact hd.mono (fun _ _=>rfl) (fun _ => .inl)
 | own v k' f n h1 hb hv =>
  intro a' z
  cases z with
  | own'=>exact (fC.own v k' f n h1 hb hv).evo V
  | dead=>exact .dead _
  | own hX hn =>
   rename_i es
   have hc:=hX0 es hX
   have hlen:o.cs.len=es.length:=by rw [hc];rfl
   rcases (hv o hlo).2 (by rw [hlen,hn]) with ⟨q1,q2,q3⟩ | ⟨b,c,cur,q1,q2,q3,q4,q5,q6⟩
   ·subst q3
    have:es=[]:=List.eq_nil_of_length_eq_zero (by omega)
    subst this
    exact .d _ _ .nil
   ·subst q2
    rcases H.ob k 0 o hlo with ⟨g1,_⟩ | ⟨b',cur',g1,g2,g3⟩
    ·rw [q1] at g1;cases g1
    ·rw [q1] at g1
     injection g1 with g1
     subst g1
     rw [q3] at g2
     injection g2 with g2
     injection g2 with g2
     subst g2
     have cellAt : ∀ (i:Nat) (e:List DV) (j:Nat) (x:DV),es[i]? = some e→e[j]? = some x → ∃ u,cur[i*o.sz+j]? = some u∧fC w F μ h u (.d x):=fun i e j x he hx =>
      (g3 i (e.map .d) (by rw [hc];simp [cG.get,he])).2 j (.d x) (by simp [hx])
     refine .d _ _ ?_
     rw [hn]
     refine .sl b 0 c o.sz es (fun i j=>cur.getD (i*o.sz+j) undef) (.inr q1) (by omega) q6 (fun i e he => ?_) (fun i e j x he hx => ?_) (fun i e j x he hx => ?_)
     ·have:=(g3 i (e.map .d) (by rw [hc];simp [cG.get,he])).1
      simpa using this
     ·obtain ⟨u,hu,_⟩:=cellAt i e j x he hx
      rw [Nat.zero_add,cell_of_row w b _ cur o.ty (0,0) q3,hu]
      simp [hu]
     ·obtain ⟨u,hu,hr⟩:=cellAt i e j x he hx
      have e1:cur.getD (i*o.sz+j) undef=u:=by simp [hu]
      rw [e1]
      cases hr with | d _ _ hd=>exact hd.mono (fun _ _=>rfl) (fun _ => .inl)
 | fn g vs cs hs hr ih =>
  intro a' z
  cases z with
  | fn q =>
   refine .fn g vs _ (hs.trans q.len_) fun i v d hv hd => ?_
   have hlt:i<cs.length:=by have:=(List.getElem?_eq_some_iff.1 hd).1;rw [q.len_];exact this
   exact ih i v _ hv (List.getElem?_eq_getElem hlt) (q.get_ i _ d (List.getElem?_eq_getElem hlt) hd)
  | dead=>exact .dead _
 | dead v=>intro a' z;cases z <;> exact .dead _
theorem aUs {F:Nat→Prop} {μ:cT} {w:World} (H:iY E F μ h w) (Z:FzH k X D h h'):iY E (fun b=>F b∨μ k 0=some b) μ h' w:=by
 have V:=aQt (F:=F) (μ:=μ) (w:=w) Z
 obtain ⟨o,hk,hX0,hD0⟩:=Z.at_
 have hlo:lv h k 0=some o:=by unfold lv;rw [hk];rfl
 have back : ∀ {p f o'},lv h' p f=some o'→p≠k ∧ ∃ o1,lv h p f=some o1:=fun {p f o'} ho'=>by
  have hpk:p≠k:=fun e=>by subst e;simp [lv,Z.dead] at ho'
  refine ⟨hpk,?_⟩
  rcases Z.oth p hpk with e1 | ⟨ty,sz,cs,ds,e1,e2,_⟩
  ·exact ⟨o',by unfold lv at ho' ⊢;rwa [← e1]⟩
  ·unfold lv at ho' ⊢
   rw [e2] at ho';rw [e1]
   cases f with
   | zero=>exact ⟨_,rfl⟩
   | succ f=>simp at ho'
 refine ⟨fun p f o' ho' => ?_,fun p f o1 p' f' o2 b l1 l2 => ?_,fun p f o' b ho' hm hF => ?_,fun p f o' b ho' hm => ?_,fun b hb => ?_,fun b hb => ?_,?_,H.os,H.tape,H.output,H.size,H.keep⟩
 ·obtain ⟨hpk,_⟩:=back ho'
  rcases Z.oth p hpk with e1 | ⟨ty,sz,cs,ds,e1,e2,q⟩
  ·have:lv h p f=some o':=by unfold lv at ho' ⊢;rwa [← e1]
   exact (H.ob p f o' this).evo V fun _ _=>rfl
  ·unfold lv at ho'
   rw [e2] at ho'
   cases f with
   | succ f=>simp at ho'
   | zero =>
    simp only [List.getElem?_cons_zero,Option.some.injEq] at ho'
    subst ho'
    rcases H.ob p 0 ⟨ty,sz, .av [cs]⟩ (by unfold lv;rw [e1];rfl) with ⟨_,g⟩ | ⟨b,cur,g1,g2,g3⟩
    ·simp [cG.len] at g
    ·refine .inr ⟨b,cur,g1,g2,fun i cells hi => ?_⟩
     cases i with
     | succ i=>simp [cG.get] at hi
     | zero =>
      simp only [cG.get,List.getElem?_cons_zero,Option.some.injEq] at hi
      subst hi
      obtain ⟨g4,g5⟩:=g3 0 cs rfl
      refine ⟨q.len_.symm.trans g4,fun j c hj => ?_⟩
      have hlt:j<cs.length:=by have:=(List.getElem?_eq_some_iff.1 hj).1;rw [q.len_];exact this
      obtain ⟨u,hu,hr⟩:=g5 j _ (List.getElem?_eq_getElem hlt)
      exact ⟨u,hu,aQu H Z hr (q.get_ j _ c (List.getElem?_eq_getElem hlt) hj)⟩
 ·obtain ⟨_,_,x1⟩:=back l1
  obtain ⟨_,_,x2⟩:=back l2
  exact H.inj _ _ _ _ _ _ b x1 x2
 ·obtain ⟨hpk,o1,x1⟩:=back ho'
  rcases hF with hF | hF
  ·exact H.sep _ _ _ b x1 hm hF
  ·exact hpk (H.inj _ _ _ _ _ _ b x1 hlo hm hF).1
 ·obtain ⟨_,o1,x1⟩:=back ho'
  exact H.src _ _ _ b x1 hm
 ·rcases hb with hb | hb
  ·exact H.fz b hb
  ·exact H.lt hlo hb
 ·rcases hb with hb | hb
  ·exact H.fsrc b hb
  ·rcases H.src _ _ _ b hlo hb with h1 | h1
   ·exact .inr (.inl h1)
   ·exact .inr (.inr h1)
 ·exact H.ev.trans V
inductive FzT (k:Nat) (X:Option (List (List DV))) (D:Option (List DV)) (s:Nat→AV):(Nat→AV)→Prop
 | nil:FzT k X D s fun _ => .dead
 | upd {t:Nat→AV} {d:Nat} {r r':AV} (h:s d=r') (hr:FzR k X D r' r) (q:FzT k X D s t):FzT k X D s (aC t d r)
theorem FzT.spec {s t:Nat→AV} (z:FzT k X D s t) (d:Nat):FzR k X D (s d) (t d):=by
 induction z with
 | nil=>exact .dead _
 | upd h hr q ih =>
  rename_i t d' r r'
  by_cases e:d=d'
  ·subst e;rw [gC,h];exact hr
  ·rw [lM _ _ e];exact ih
theorem aSs {t':Nat→AV} (Z:FzH k X D h h') (zt:FzT k X D t t'):mG L N ⟨t,h⟩ ⟨t',h'⟩:=fun E a w ⟨F, μ,A⟩ =>
 ⟨_,_,aUs A.H Z,A.df,A.sz,fun d hd=>aQu A.H Z (A.tm d hd) (zt.spec d),A.lim⟩
inductive FzL (k:Nat) (X:Option (List (List DV))) (D:Option (List DV)) (h:eB):eB→Prop
 | nil:FzL k X D h (upd h k .dead)
 | box {h':eB} {kb:Nat} {ty:TypeId} {sz:Nat} {cs ds:List AV} (hb:h kb = .live [⟨ty,sz, .av [cs]⟩]) (hne:Nat.beq kb k=false) (hr:tW k X D cs ds) (q:FzL k X D h h'):FzL k X D h (upd h' kb (.live [⟨ty,sz, .av [ds]⟩]))
theorem FzL.spec (z:FzL k X D h h'):h' k = .dead ∧ ∀ p,p≠k→h' p=h p ∨ ∃ ty sz cs ds,h p = .live [⟨ty,sz, .av [cs]⟩]∧h' p = .live [⟨ty,sz, .av [ds]⟩]∧tW k X D cs ds:=by
 induction z with
 | nil=>exact ⟨dE _ _ _,fun p hp => .inl (dZ _ _ hp)⟩
 | box hb hne hr q ih =>
  rename_i kb ty sz cs ds
  have hne':kb≠k:=fun e=>by subst e;simp at hne
  refine ⟨by rw [dZ _ _ (Ne.symm hne')];exact ih.1,fun p hp => ?_⟩
  by_cases e:p=kb
  ·subst e;exact .inr ⟨ty,sz,cs,ds,hb,dE _ _ _,hr⟩
  ·rw [dZ _ _ e];exact ih.2 p hp
theorem aVp {ty:TypeId} {sz:Nat} {es:List (List DV)} (hk:h k = .live [⟨ty,sz, .data es⟩]) (z:FzL k (some es) none h h'):FzH k (some es) none h h' :=
 ⟨⟨_,hk,fun es' e=>by injection e with e;subst e;rfl,fun ds e=>by cases e⟩,z.spec.1,z.spec.2⟩
theorem aW7 {ty:TypeId} {sz:Nat} {cells:List AV} {ds:List DV} (hk:h k = .live [⟨ty,sz, .av [cells]⟩]) (hd:eZ cells ds) (z:FzL k none (some ds) h h'):FzH k none (some ds) h h' :=
 ⟨⟨_,hk,fun es' e=>by (cases e),fun ds' e=>by injection e with e;subst e;simp only;rw [hd.eq_]⟩,z.spec.1,z.spec.2⟩
end
end Go.Proofs.YtceknlcbfomdhaaGreatDoor
namespace Go.Proofs.YtceknlcbfomdhaaGreatDoor
open Go.RowKit
set_option linter.unusedVariables false
set_option maxRecDepth 100000
def cI (x:Int):List DV:=[.v (.int .i64 x)]
def cU8 (x:Int):List DV:=[.v (.int .u8 x)]
def cS (x:ByteArray):List DV:=[.v (.string x)]
def cB (x:Bool):List DV:=[.v (.bool x)]
def cL {α:Type} (c:α→List DV) (xs:List α):List DV:=[.sl (xs.map c)]
theorem mZ {h:eB} {k:Nat} {o:kC} (hk:h k = .live [o]):lv h k 0=some o:=by unfold lv;rw [hk];rfl
theorem oM {α:Type} {c:α→List DV} {es:List α}:(cG.data (es.map c)).len=es.length:=by simp [cG.len]
theorem aAt {α:Type} {c:α→List DV} {es:List α} {m:Nat} {e:α} (he:es[m]? = some e):(cG.data (es.map c)).get m=some ((c e).map .d):=by simp [cG.get,he]
theorem aU2 : ∀ s ∈ ([]:List fT),aA9 s:=fun s hs=>by cases hs
theorem xP {a:fT} {l:List fT} (h:aA9 a) (k : ∀ s ∈ l,aA9 s) : ∀ s ∈ a :: l,aA9 s:=fun s hs=>by
 rcases List.mem_cons.1 hs with rfl | hs
 ·exact h
 ·exact k s hs
theorem aGt {α:Type} {t:TypeId} {z:Nat} {c:α→List DV} {es:List α} (hc : ∀ a,(c a).all DV.flat=true):aA9 (.live [⟨t,z, .data (es.map c)⟩]):=by
 intro o ho
 simp only [List.mem_singleton] at ho
 subst ho
 intro e he x hx
 obtain ⟨a,_,rfl⟩:=List.mem_map.1 he
 exact List.all_eq_true.1 (hc a) x hx
theorem yD (kf i:Nat) : ∀ l:List DV,AV.flatL (gR kf i l)=true
 | []=>rfl
 | .v x :: l=>by simp [gR,AV.flatL,AV.flat,DV.flat,yD kf i l]
 | .sl es :: l=>by simp [gR,AV.flatL,AV.flat,yD kf i l]
 | .mp _ :: l=>by simp [gR,AV.flatL,AV.flat,yD kf i l]
theorem oJ (kf i:Nat) : ∀ l:List DV,(gR kf i l).length=l.length
 | []=>rfl
 | .v x :: l=>by simp [gR,oJ kf i l]
 | .sl es :: l=>by simp [gR,oJ kf i l]
 | .mp _ :: l=>by simp [gR,oJ kf i l]
def aMb (kf i:Nat):DV→AV
 | .v x => .d (.v x)
 | .sl es => .own kf i es.length
 | .mp _ => .dead
theorem oI (kf i:Nat) : ∀ (l:List DV) (j:Nat),(gR kf i l)[j]? = (l[j]?).map (aMb kf i)
 | [],j=>by simp [gR]
 | .v x :: l,0=>by simp [gR,aMb]
 | .sl es :: l,0=>by simp [gR,aMb]
 | .mp _ :: l,0=>by simp [gR,aMb]
 | .mp _ :: l,j+1=>by simp [gR,oI kf i l j]
 | .v x :: l,j+1=>by simp [gR,oI kf i l j]
 | .sl es :: l,j+1=>by simp [gR,oI kf i l j]
theorem aU4 : ∀ {l:List DV} {j:Nat} {es:List (List DV)},xQ l=0→l[j]? = some (.sl es)→False
 | [],j,es,_,h=>by simp at h
 | .v x :: l,0,es,_,h=>by simp at h
 | .v x :: l,j+1,es,h0,h=>aU4 (l:=l) (by simpa [xQ] using h0) (by simpa using h)
 | .sl x :: l,j,es,h0,h=>by simp [xQ] at h0
 | .mp x :: l,j,es,h0,h=>by simp [xQ] at h0
theorem aOg : ∀ {l:List DV} {j:Nat} {f},xQ l≤1→l[j]? = some (.mp f)→False
 | [],j,f,_,h=>by simp at h
 | .v x :: l,0,f,_,h=>by simp at h
 | .v x :: l,j+1,f,h0,h=>aOg (l:=l) (by simpa [xQ] using h0) (by simpa using h)
 | .sl x :: l,0,f,_,h=>by simp at h
 | .sl x :: l,j+1,f,h0,h=>aOg (l:=l) (by simp [xQ] at h0;omega) (by simpa using h)
 | .mp x :: l,j,f,h0,h=>by simp [xQ] at h0
theorem aNc : ∀ {l:List DV} {j:Nat} {es:List (List DV)},xQ l=1→l[j]? = some (.sl es)→aF4 l=es
 | [],j,es,_,h=>by simp at h
 | .v x :: l,0,es,_,h=>by simp at h
 | .v x :: l,j+1,es,h0,h=>by simpa [aF4] using aNc (l:=l) (by simpa [xQ] using h0) (by simpa using h)
 | .sl x :: l,0,es,_,h=>by simp at h;simpa [aF4] using h
 | .sl x :: l,j+1,es,h0,h=>(aU4 (l:=l) (by simpa [xQ] using h0) (by simpa using h)).elim
 | .mp x :: l,j,es,h0,h=>by simp [xQ] at h0
theorem jI {α:Type} {kf:Nat} {c:α→List DV} {x:List α}:(fA kf c x).length=x.length:=by simp [fA]
theorem lJ {α:Type} {kf:Nat} {c:α→List DV} {x:List α} {i:Nat}:(fA kf c x)[i]? = (x[i]?).map fun a=>gR kf i (c a):=by simp [fA,List.getElem?_mapIdx]
theorem vF {α:Type} {ft:TypeId} {fz:Nat} {c:α→List DV} {x:List α} {i:Nat}:(pC ft fz c x)[i]? = (x[i]?).map fun a=>(⟨ft,fz, .data (aF4 (c a))⟩:kC):=by simp [pC]
theorem aN0 {α:Type} {h:eB} {kf:Nat} {ft:TypeId} {fz:Nat} {c:α→List DV} {x:List α} {m:Nat} {a:α} (hf:h kf = .live (pC ft fz c x)) (he:x[m]? = some a):lv h kf m=some ⟨ft,fz, .data (aF4 (c a))⟩:=by
 rw [jU hf,vF,he];rfl
theorem aA3 {α:Type} {h:eB} {k kf n:Nat} {bt ft:TypeId} {sz fz:Nat} {c:α→List DV} {x:List α} (hk:h k = .live [⟨bt,sz, .av (fA kf c x)⟩]) (hf:h kf = .live (pC ft fz c x)) (hone : ∀ a,xQ (c a)=1) (hn:n=x.length):sX h (.own k 0 n) (.d (.sl (x.map c))):=by
 refine .row k 0 n _ _ (mZ hk) (by simp [cG.len,jI,hn]) (by simp [hn]) (fun i e he => ?_) fun i e cells j cc xx he hi hj hx => ?_
 ·rw [List.getElem?_map] at he
  obtain ⟨a,ha,rfl⟩:=Option.map_eq_some_iff.1 he
  exact ⟨gR kf i (c a),by simp [cG.get,lJ,ha],oJ _ _ _⟩
 ·rw [List.getElem?_map] at he
  obtain ⟨a,ha,rfl⟩:=Option.map_eq_some_iff.1 he
  simp only [cG.get,lJ,ha,Option.map_some,Option.some.injEq] at hi
  subst hi
  rw [oI,hx] at hj
  simp only [Option.map_some,Option.some.injEq] at hj
  subst hj
  cases xx with
  | v x=>exact .d _
  | sl es=>exact sX.data (aN0 hf ha) (by rw [aNc (hone a) hx]) rfl
  | mp f=>exact (aOg (Nat.le_of_eq (hone a)) hx).elim
theorem aOn {α:Type} {h:eB} {kf m n:Nat} {ft:TypeId} {fz:Nat} {c:α→List DV} {x:List α} {a:α} {es:List (List DV)} (hf:h kf = .live (pC ft fz c x)) (he:x[m]? = some a) (hs:aF4 (c a)=es) (hn:n=es.length):sX h (.own kf m n) (.d (.sl es)):=sX.data (aN0 hf he) (by rw [hs]) hn.symm
theorem aGs {α:Type} {t:TypeId} {z kf:Nat} {c:α→List DV} {x:List α}:aA9 (.live [⟨t,z, .av (fA kf c x)⟩]):=by
 intro o ho
 simp only [List.mem_singleton] at ho
 subst ho
 intro e he
 obtain ⟨i,hi⟩:=List.getElem?_of_mem he
 rw [lJ] at hi
 obtain ⟨a,_,rfl⟩:=Option.map_eq_some_iff.1 hi
 exact yD _ _ _
theorem aK4 {α:Type} {ft:TypeId} {fz:Nat} {c:α→List DV} {x:List α} (hc : ∀ a, ∃ (β:Type) (ys:List β) (d:β→List DV),aF4 (c a)=ys.map d ∧ ∀ y,(d y).all DV.flat=true):aA9 (.live (pC ft fz c x)):=by
 intro o ho
 obtain ⟨a,_,rfl⟩:=List.mem_map.1 ho
 intro e he xx hx
 obtain ⟨β,ys,d,h1,h2⟩:=hc a
 have he:e ∈ aF4 (c a):=he
 rw [h1] at he
 obtain ⟨y,_,rfl⟩:=List.mem_map.1 he
 exact List.all_eq_true.1 (h2 y) xx hx
theorem aK3 {t:TypeId} {z:Nat} {cs:List AV} (hc:AV.flatL cs=true):aA9 (.live [⟨t,z, .av [cs]⟩]):=by
 intro o ho
 simp only [List.mem_singleton] at ho
 subst ho
 intro e he
 simp only [List.mem_singleton] at he
 subst he
 exact hc
section
variable {P:Program} {T:Tab} {L N:Nat} {ops:Array Oper} {E:Env} {K:List (Nat × Cls)→AS→Prop} {i:Nat} {is:List Nat} {t:Nat→AV} {h h':eB} {d:Tmp} {dst:Option Tmp} {op:Op} {ty:TypeId} {pos:String} {aft:Array Edge} {g:Option (Nat × Bool)}
theorem aM (B:Nat) {f:FuncId} {x:Operand} {args:Array Operand} {at_:Array TypeId} {caps as:List AV} {hs:List fT} {r r':AV} (hF:FnC P f [] as hs r) (hx:evA N ⟨t,h⟩ x = .fn f caps) (ha:evL N ⟨t,h⟩ args.toList++caps=as) (hfr:AV.freeL as=true)
  (hB:Abv h B:=by repeat (first | exact oZ _ | exact oY rfl | refine pA ?_ rfl))
  (hr:dQ (B + ·) r r':=by repeat (first | exact fS.nil | apply fS.cons | exact dQ.d _ | apply dQ.agg | apply dQ.tup | exact dQ.own _ _ _ _ rfl | exact dQ.ptr _ _ _ _ _ _ rfl | exact dQ.ref _ | apply dQ.fn | exact dQ.dead))
  (hb:aE9 (B + ·) B hs h h':=by repeat (first | exact aE9.nil _ _ | (apply aE9.cons; (first | exact hJ.no | exact hJ.dead | exact hJ.data _ _ _ | exact hJ.nest rfl | exact hJ.fam | exact hJ.gen _)))) :
  dK P N ⟨dst, .call ⟨.value x,args,at_⟩,ty,pos,aft,g⟩ ⟨t,h⟩ r' h' ∧ ∀ k,h k ≠ .no→h' k=h k:=aSe B hx ha hfr hF hB hr hb
theorem cV (B:Nat) {f:FuncId} {x:Operand} {args:Array Operand} {at_:Array TypeId} {caps as:List AV} {hs:List fT} {r r':AV} (hF:FnC P f [] as hs r) (hx:evA N ⟨t,h⟩ x = .fn f caps) (ha:evL N ⟨t,h⟩ args.toList++caps=as) (hfr:AV.freeL as=true)
  (hB:Abv h B:=by repeat (first | exact oZ _ | exact oY rfl | refine pA ?_ rfl))
  (hr:dQ (B + ·) r r':=by repeat (first | exact fS.nil | apply fS.cons | exact dQ.d _ | apply dQ.agg | apply dQ.tup | exact dQ.own _ _ _ _ rfl | exact dQ.ptr _ _ _ _ _ _ rfl | exact dQ.ref _ | apply dQ.fn | exact dQ.dead))
  (hb:aE9 (B + ·) B hs h h':=by repeat (first | exact aE9.nil _ _ | (apply aE9.cons; (first | exact hJ.no | exact hJ.dead | exact hJ.data _ _ _ | exact hJ.nest rfl | exact hJ.fam | exact hJ.gen _)))) :
  Abv h B∧(∀ hx:eB,Abv hx B→(∀ p,h p ≠ .no→hx p=h p)→dK P N ⟨dst, .call ⟨.value x,args,at_⟩,ty,pos,aft,g⟩ ⟨t,hx⟩ r' (aB5 B hx h'))∧aB5 B h h'=h':=aWg B hx ha hfr hF hB hr hb
theorem aA4 {α:Type} {k f:Nat} {bt:TypeId} {sz:Nat} {c:α→List DV} {es:List α} (ho:lv h k f=some ⟨bt,sz, .data (es.map c)⟩):sX h (.own k f es.length) (.d (.sl (es.map c))):=sX.data ho rfl (by simp)
theorem yN {α:Type} {k f n:Nat} {bt:TypeId} {sz:Nat} {c:α→List DV} {es:List α} (ho:lv h k f=some ⟨bt,sz, .data (es.map c)⟩) (hn:n=es.length):sX h (.own k f n) (.d (.sl (es.map c))):=sX.data ho rfl (by simp [hn])
theorem eW (B:Nat) {f:FuncId} {x:Operand} {args:Array Operand} {at_:Array TypeId} {caps as:List AV} {hs:List fT} {r r':AV} (hF:FnC P f [] as hs r) (hx:evA N ⟨t,h⟩ x = .fn f caps) (hfl:r.flat=true)
  (ha:Vs h (evL N ⟨t,h⟩ args.toList++caps) as:=by repeat (first | exact Vs.nil | apply Vs.cons | exact sX.d _ | exact aA4 rfl | exact yN rfl (by first | (simp;done) | omega | (simp;omega)) | exact aLc rfl (by (repeat (first | exact aNj.z _ | apply aNj.t | apply aNj.d));first | done | fail) | apply sX.agg_ | apply sX.fn_ | exact aDl (by (repeat (first | exact Pre.z _ | apply Pre.t));first | done | fail) | exact aA3 rfl rfl (fun _=>rfl) (by first | rfl | (simp;done) | omega | (simp;omega)) | exact aOn rfl (by assumption) rfl (by first | rfl | (simp;done) | omega | (simp;omega)) | exact aGv rfl (by (repeat (first | exact aF6.z _ | apply aF6.t (sX.d _) | apply aF6.t (aA4 rfl) | apply aF6.t (yN rfl (by first | (simp;done) | omega | (simp;omega))) | apply aF6.t (aA3 rfl rfl (fun _=>rfl) (by first | rfl | (simp;done) | omega | (simp;omega))) | apply aF6.d));first | done | fail)))
  (hfs : ∀ s ∈ hs,aA9 s:=by repeat (first | exact aU2 | refine xP (aGt (fun _=>rfl)) ?_ | refine xP (aK3 rfl) ?_ | refine xP aGs ?_ | refine xP (aK4 fun _=>⟨_,_,_,rfl,fun _=>rfl⟩) ?_))
  (hB:Abv h B:=by repeat (first | exact oZ _ | exact oY rfl | refine pA ?_ rfl))
  (hr:dQ (B + ·) r r':=by repeat (first | exact fS.nil | apply fS.cons | exact dQ.d _ | apply dQ.agg | apply dQ.tup | exact dQ.own _ _ _ _ rfl | exact dQ.ptr _ _ _ _ _ _ rfl | exact dQ.ref _ | apply dQ.fn | exact dQ.dead))
  (hb:aE9 (B + ·) B hs h h':=by repeat (first | exact aE9.nil _ _ | (apply aE9.cons; (first | exact hJ.no | exact hJ.dead | exact hJ.data _ _ _ | exact hJ.nest rfl | exact hJ.fam | exact hJ.gen _)))) :
  dK P N ⟨dst, .call ⟨.value x,args,at_⟩,ty,pos,aft,g⟩ ⟨t,h⟩ r' h' ∧ ∀ k,h k ≠ .no→h' k=h k:=aOi B hx ha hF hfl hfs hB hr hb
theorem aVd (B:Nat) {f:FuncId} {x:Operand} {args:Array Operand} {at_:Array TypeId} {caps as:List AV} {hs:List fT} {r r':AV} (hF:FnC P f [] as hs r) (hx:evA N ⟨t,h⟩ x = .fn f caps) (hfl:r.flat=true)
  (ha:Vs h (evL N ⟨t,h⟩ args.toList++caps) as:=by repeat (first | exact Vs.nil | apply Vs.cons | exact sX.d _ | exact aA4 rfl | exact yN rfl (by first | (simp;done) | omega | (simp;omega)) | exact aLc rfl (by (repeat (first | exact aNj.z _ | apply aNj.t | apply aNj.d));first | done | fail) | apply sX.agg_ | apply sX.fn_ | exact aDl (by (repeat (first | exact Pre.z _ | apply Pre.t));first | done | fail) | exact aA3 rfl rfl (fun _=>rfl) (by first | rfl | (simp;done) | omega | (simp;omega)) | exact aOn rfl (by assumption) rfl (by first | rfl | (simp;done) | omega | (simp;omega)) | exact aGv rfl (by (repeat (first | exact aF6.z _ | apply aF6.t (sX.d _) | apply aF6.t (aA4 rfl) | apply aF6.t (yN rfl (by first | (simp;done) | omega | (simp;omega))) | apply aF6.t (aA3 rfl rfl (fun _=>rfl) (by first | rfl | (simp;done) | omega | (simp;omega))) | apply aF6.d));first | done | fail)))
  (hfs : ∀ s ∈ hs,aA9 s:=by repeat (first | exact aU2 | refine xP (aGt (fun _=>rfl)) ?_ | refine xP (aK3 rfl) ?_ | refine xP aGs ?_ | refine xP (aK4 fun _=>⟨_,_,_,rfl,fun _=>rfl⟩) ?_))
  (hB:Abv h B:=by repeat (first | exact oZ _ | exact oY rfl | refine pA ?_ rfl))
  (hr:dQ (B + ·) r r':=by repeat (first | exact fS.nil | apply fS.cons | exact dQ.d _ | apply dQ.agg | apply dQ.tup | exact dQ.own _ _ _ _ rfl | exact dQ.ptr _ _ _ _ _ _ rfl | exact dQ.ref _ | apply dQ.fn | exact dQ.dead))
  (hb:aE9 (B + ·) B hs h h':=by repeat (first | exact aE9.nil _ _ | (apply aE9.cons; (first | exact hJ.no | exact hJ.dead | exact hJ.data _ _ _ | exact hJ.nest rfl | exact hJ.fam | exact hJ.gen _)))) :
  Abv h B∧(∀ hx:eB,Abv hx B→(∀ p,h p ≠ .no→hx p=h p)→dK P N ⟨dst, .call ⟨.value x,args,at_⟩,ty,pos,aft,g⟩ ⟨t,hx⟩ r' (aB5 B hx h'))∧aB5 B h h'=h':=aUd B hx ha hF hfl hfs hB hr hb
theorem rG (hT:TOk P T) {lt bt:TypeId} {x:Operand} {k j sz:Nat} {cells:List AV} {c:AV} {ti:TI} (hx:evA N ⟨t,h⟩ x = .ptr k 0 1 0 j) (h1:T lt=some ti) (h2:tZ ti.desc=false) (hk:h k = .live [⟨bt,sz, .av [cells]⟩]) (hc:cells[j]? = some c) :
  jO P N ⟨some d, .load lt x,ty,pos,aft,g⟩ ⟨t,h⟩ c:=aHx hT hx h1 h2 (mZ hk) rfl rfl hc
theorem bA (hT:TOk P T) {lt bt:TypeId} {x:Operand} {k j sz:Nat} {cells out:List AV} {ti:TI} (hx:evA N ⟨t,h⟩ x = .ptr k 0 1 0 j) (h1:T lt=some ti) (h2:tZ ti.desc=true) (hk:h k = .live [⟨bt,sz, .av [cells]⟩])
  (hc:Seg j ti.size cells out:=by repeat (first | exact Seg.z _ | apply Seg.t | apply Seg.d)) :
  jO P N ⟨some d, .load lt x,ty,pos,aft,g⟩ ⟨t,h⟩ (.agg out):=aNz hT hx h1 h2 (mZ hk) rfl rfl hc
theorem yO (hT:TOk P T) {s bt:TypeId} {x:Operand} {q k j sz:Nat} {cells:List AV} {ti fi:TI} {fs:Array Field} {fld:Field} (hx:evA N ⟨t,h⟩ x = .ptr k 0 1 0 j) (h1:T s=some ti) (h2:ti.desc = .struct fs) (h3:fs[q]? = some fld)
  (h4:T fld.type=some fi) (h5:Nat.beq fi.size 0=false) (hk:h k = .live [⟨bt,sz, .av [cells]⟩]):jO P N ⟨some d, .fieldAddr s x q,ty,pos,aft,g⟩ ⟨t,h⟩ (.ptr k 0 1 0 (j+fld.offset)):=xD hT hx h1 h2 h3 h4 h5 (mZ hk) rfl rfl
theorem yS {bt:TypeId} {x:Operand} {k j sz:Nat} {cells:List AV} (hx:evA N ⟨t,h⟩ x = .ptr k 0 1 0 j) (hk:h k = .live [⟨bt,sz, .av [cells]⟩]):jO P N ⟨some d, .nilCheck x,ty,pos,aft,g⟩ ⟨t,h⟩ (.ptr k 0 1 0 j):=aXa hx (mZ hk) rfl rfl
theorem jA (hT:TOk P T) {bt bt':TypeId} {x y:Operand} {k j sz:Nat} {cells cs cells':List AV} {ti:TI} (hx:evA N ⟨t,h⟩ x = .ptr k 0 1 0 j) (hy:wD (evA N ⟨t,h⟩ y)=cs) (ho:okL cs=true) (h1:T bt=some ti)
  (hl:Nat.beq cs.length ti.size=true) (hpos:Nat.blt 0 ti.size=true) (hk:h k = .live [⟨bt',sz, .av [cells]⟩]) (hs:Spl j cs cells cells':=by repeat (first | exact Spl.z _ | apply Spl.t | apply Spl.d)) :
  dK P N ⟨dst, .store bt x y,ty,pos,aft,g⟩ ⟨t,h⟩ .dead (upd h k (.live [⟨bt',sz, .av [cells']⟩])):=aIx hT hx hy ho h1 hl hpos hk rfl rfl rfl hs (.box _ _) (.one _ _)
theorem cE {α:Type} (hT:TOk P T) {st_ e:TypeId} {x y:Operand} {kk:IntKind} {iv:Int} {c:α→List DV} {es:List α} {ed:α} {ti ei:TI} (he:atI es iv=some ed) (hx:evA N ⟨t,h⟩ x = .d (.sl (es.map c))) (hy:evA N ⟨t,h⟩ y = .d (.v (.int kk iv)))
  (h1:T st_=some ti) (h2:ti.desc = .slice e) (h3:T e=some ei) (hs:(c ed).length=ei.size):eV P N ⟨some d, .indexAddr st_ x y,ty,pos,aft,g⟩ ⟨t,h⟩ (.ref (c ed)) :=
 aMr hT hx hy (dP he).1 h1 h2 h3 (aN1 (dP he).2.1) hs
theorem fB {α:Type} (hT:TOk P T) {st_ e bt:TypeId} {x y:Operand} {kk:IntKind} {iv:Int} {k sz n:Nat} {c:α→List DV} {es:List α} {ed:α} {ti ei:TI} (he:atI es iv=some ed) (hx:evA N ⟨t,h⟩ x = .own k 0 n) (hy:evA N ⟨t,h⟩ y = .d (.v (.int kk iv)))
  (h1:T st_=some ti) (h2:ti.desc = .slice e) (h3:T e=some ei) (hk:h k = .live [⟨bt,sz, .data (es.map c)⟩]) (hn:n=es.length) (hs:sz=ei.size):jO P N ⟨some d, .indexAddr st_ x y,ty,pos,aft,g⟩ ⟨t,h⟩ (.ptr k 0 n iv.toNat 0) :=
 aNy hT hx hy (dP he).1 (hn ▸ (dP he).2.2) h1 h2 h3 (mZ hk) (oM.trans hn.symm) hs
theorem jK {α:Type} (hT:TOk P T) {lt bt:TypeId} {x:Operand} {k n m j sz:Nat} {c:α→List DV} {es:List α} {ed:α} {u:DV} {ti:TI} (he:es[m]? = some ed) (hx:evA N ⟨t,h⟩ x = .ptr k 0 n m j) (h1:T lt=some ti) (h2:tZ ti.desc=false) (hk:h k = .live [⟨bt,sz, .data (es.map c)⟩]) (hn:n=es.length)
  (hc:(c ed)[j]? = some u):jO P N ⟨some d, .load lt x,ty,pos,aft,g⟩ ⟨t,h⟩ (.d u):=aHx hT hx h1 h2 (mZ hk) (oM.trans hn.symm) (aAt he) (aN1 hc)
theorem xH {α:Type} (hT:TOk P T) {lt bt:TypeId} {x:Operand} {k n m j sz:Nat} {c:α→List DV} {es:List α} {ed:α} {out:List AV} {ti:TI} (he:es[m]? = some ed) (hx:evA N ⟨t,h⟩ x = .ptr k 0 n m j) (h1:T lt=some ti) (h2:tZ ti.desc=true) (hk:h k = .live [⟨bt,sz, .data (es.map c)⟩]) (hn:n=es.length)
  (hc:Seg j ti.size ((c ed).map .d) out:=by repeat (first | exact Seg.z _ | apply Seg.t | apply Seg.d)):jO P N ⟨some d, .load lt x,ty,pos,aft,g⟩ ⟨t,h⟩ (.agg out):=aNz hT hx h1 h2 (mZ hk) (oM.trans hn.symm) (aAt he) hc
theorem zP {α:Type} (hT:TOk P T) {s bt:TypeId} {x:Operand} {q k n m j sz:Nat} {c:α→List DV} {es:List α} {ti fi:TI} {fs:Array Field} {fld:Field} {ed:α} (he:es[m]? = some ed) (hx:evA N ⟨t,h⟩ x = .ptr k 0 n m j) (h1:T s=some ti) (h2:ti.desc = .struct fs) (h3:fs[q]? = some fld)
  (h4:T fld.type=some fi) (h5:Nat.beq fi.size 0=false) (hk:h k = .live [⟨bt,sz, .data (es.map c)⟩]) (hn:n=es.length):jO P N ⟨some d, .fieldAddr s x q,ty,pos,aft,g⟩ ⟨t,h⟩ (.ptr k 0 n m (j+fld.offset)) :=
 xD hT hx h1 h2 h3 h4 h5 (mZ hk) (oM.trans hn.symm) (aAt he)
theorem sL {α:Type} (hT:TOk P T) {bt bt':TypeId} {x y:Operand} {k n m j sz:Nat} {c:α→List DV} {es:List α} {ed:α} (ed':α) {cs:List AV} {ti:TI} (he:es[m]? = some ed) (hx:evA N ⟨t,h⟩ x = .ptr k 0 n m j) (hy:wD (evA N ⟨t,h⟩ y)=cs) (ho:okL cs=true) (h1:T bt=some ti)
  (hl:Nat.beq cs.length ti.size=true) (hpos:Nat.blt 0 ti.size=true) (hk:h k = .live [⟨bt',sz, .data (es.map c)⟩]) (hn:n=es.length) (hs:Spl j cs ((c ed).map .d) ((c ed').map .d):=by repeat (first | exact Spl.z _ | apply Spl.t | apply Spl.d)) :
  dK P N ⟨dst, .store bt x y,ty,pos,aft,g⟩ ⟨t,h⟩ .dead (upd h k (.live [⟨bt',sz, .data ((es.set m ed').map c)⟩])):=by
 rw [List.map_set]
 refine aIx hT hx hy ho h1 hl hpos hk rfl (oM.trans hn.symm) (aAt he) hs (.data _ _ ?_) (.one _ _)
 generalize c ed'=l
 induction l with
 | nil=>exact .nil
 | cons x l ih=>exact .cons ih
theorem mF {α:Type} (hT:TOk P T) {st_ e bt:TypeId} {x:Operand} {k n sz:Nat} {c:α→List DV} {es:List α} {ti:TI} (hx:evA N ⟨t,h⟩ x = .own k 0 n) (h1:T st_=some ti) (h2:ti.desc = .slice e) (hk:h k = .live [⟨bt,sz, .data (es.map c)⟩]) (hn:n=es.length) :
  jO P N ⟨some d, .call ⟨.builtin .len, #[x], #[st_]⟩,ty,pos,aft,g⟩ ⟨t,h⟩ (.d (.v (.int .i64 (es.length:Int)))):=by
 subst hn
 exact aUu hT hx h1 h2 (mZ hk) oM
theorem eU {α:Type} (hT:TOk P T) {bt e bt':TypeId} {s x:Operand} {k n sz:Nat} {c:α→List DV} {es ns:List α} {ti ei:TI} (hb:(es.length+ns.length)*sz*64≤140737488355328) (hs:evA N ⟨t,h⟩ s = .own k 0 n) (hx:evA N ⟨t,h⟩ x = .d (.sl (ns.map c))) (h1:T bt=some ti) (h2:ti.desc = .slice e) (h3:T e=some ei)
  (hzs:Nat.beq ei.zero.cells.size ei.size=true) (hpos:Nat.blt 0 ei.size=true) (hsb:Nat.ble ei.bytes (ei.size*64)=true) (hk:h k = .live [⟨bt',sz, .data (es.map c)⟩]) (hn:n=es.length) (hty:bt'=e) (hsz:sz=ei.size) (hcl : ∀ a,(c a).length=ei.size) :
  dK P N ⟨dst, .call ⟨.builtin .append, #[s,x], #[bt,bt]⟩,ty,pos,aft,g⟩ ⟨t,h⟩ (.own k 0 (es++ns).length) (upd h k (.live [⟨bt',sz, .data ((es++ns).map c)⟩])):=by
 subst hn
 have hle:=Nat.le_of_ble_eq_true hsb
 have hp:=qE hpos
 have e1:(es.length+ns.length)*ei.bytes≤(es.length+ns.length)*sz*64:=by
  rw [Nat.mul_assoc,hsz];exact Nat.mul_le_mul_left _ hle
 have e2:es.length+ns.length≤(es.length+ns.length)*sz:=Nat.le_mul_of_pos_right _ (by omega)
 have:=aSu (P:=P) (N:=N) (dst:=dst) (ty:=ty) (pos:=pos) (aft:=aft) (g:=g) (n:=es.length) hT hs hx h1 h2 h3 hzs hpos hk rfl oM hty hsz (fun x hx=>by obtain ⟨a,_,rfl⟩:=List.mem_map.1 hx;exact hcl a) (.data _ _) (.one _ _)
  (by rw [List.length_map];omega) (by rw [List.length_map];omega)
 rw [List.length_map, ← List.map_append, ← List.length_append] at this
 exact this
theorem aYe {α:Type} (hT:TOk P T) {bt e bt' bt2:TypeId} {s x:Operand} {k k2 n n2 sz sz2:Nat} {c:α→List DV} {es ns:List α} {ti ei:TI} (hb:(es.length+ns.length)*sz*64≤140737488355328) (hs:evA N ⟨t,h⟩ s = .own k 0 n) (hx:evA N ⟨t,h⟩ x = .own k2 0 n2) (h1:T bt=some ti) (h2:ti.desc = .slice e) (h3:T e=some ei)
  (hzs:Nat.beq ei.zero.cells.size ei.size=true) (hpos:Nat.blt 0 ei.size=true) (hsb:Nat.ble ei.bytes (ei.size*64)=true) (hk:h k = .live [⟨bt',sz, .data (es.map c)⟩]) (hn:n=es.length) (hty:bt'=e) (hsz:sz=ei.size) (hk2:h k2 = .live [⟨bt2,sz2, .data (ns.map c)⟩]) (hn2:n2=ns.length) (hsz2:sz2=ei.size) :
  dK P N ⟨dst, .call ⟨.builtin .append, #[s,x], #[bt,bt]⟩,ty,pos,aft,g⟩ ⟨t,h⟩ (.own k 0 (es++ns).length) (upd h k (.live [⟨bt',sz, .data ((es++ns).map c)⟩])):=by
 subst hn hn2
 have hle:=Nat.le_of_ble_eq_true hsb
 have hp:=qE hpos
 have e1:(es.length+ns.length)*ei.bytes≤(es.length+ns.length)*sz*64:=by
  rw [Nat.mul_assoc,hsz];exact Nat.mul_le_mul_left _ hle
 have e2:es.length+ns.length≤(es.length+ns.length)*sz:=Nat.le_mul_of_pos_right _ (by omega)
 have:=aA6 (P:=P) (N:=N) (dst:=dst) (ty:=ty) (pos:=pos) (aft:=aft) (g:=g) (n:=es.length) (m:=ns.length) hT hs hx h1 h2 h3 hzs hpos hk rfl oM hty hsz (mZ hk2) oM hsz2 trivial (.data _ _) (.one _ _)
  (by omega) (by omega)
 rw [← List.map_append, ← List.length_append] at this
 exact this
theorem aUq {α:Type} (k:Nat) (hT:TOk P T) {bt e:TypeId} {s x:Operand} {c:α→List DV} {ns:List α} {ti ei:TI} {sz:Nat} (hb:ns.length*sz*64≤140737488355328) (hs:evA N ⟨t,h⟩ s = .d (.v (.slice none 0 0))) (hx:evA N ⟨t,h⟩ x = .d (.sl (ns.map c))) (h1:T bt=some ti) (h2:ti.desc = .slice e) (h3:T e=some ei) (hsz:ei.size=sz)
  (hzs:Nat.beq ei.zero.cells.size ei.size=true) (hpos:Nat.blt 0 ei.size=true) (hsb:Nat.ble ei.bytes (ei.size*64)=true) (hk:h k = .no) (hcl : ∀ a,(c a).length=ei.size) :
  dK P N ⟨dst, .call ⟨.builtin .append, #[s,x], #[bt,bt]⟩,ty,pos,aft,g⟩ ⟨t,h⟩ (.own k 0 ns.length) (upd h k (.live [⟨e,ei.size, .data (ns.map c)⟩])) ∧ ∀ k',h k' ≠ .no→upd h k (.live [⟨e,ei.size, .data (ns.map c)⟩]) k'=h k':=by
 subst hsz
 have hle:=Nat.le_of_ble_eq_true hsb
 have hp:=qE hpos
 have e1:ns.length*ei.bytes≤ns.length*ei.size*64:=by rw [Nat.mul_assoc];exact Nat.mul_le_mul_left _ hle
 have e2:ns.length≤ns.length*ei.size:=Nat.le_mul_of_pos_right _ (by omega)
 have:=aIt (P:=P) (N:=N) (dst:=dst) (ty:=ty) (pos:=pos) (aft:=aft) (g:=g) k hT hs hx h1 h2 h3 hzs hpos hk (fun x hx=>by obtain ⟨a,_,rfl⟩:=List.mem_map.1 hx;exact hcl a) (by rw [List.length_map];omega) (by rw [List.length_map];omega)
 rw [List.length_map] at this
 exact this
theorem aJ7 {α:Type} (k:Nat) (hT:TOk P T) {bt e:TypeId} {x y:Operand} {kx ky:IntKind} {a b:Int} {ti ei:TI} {zs:List DV} {c:α→List DV} {sz:Nat} (z:α) (hb:0≤a∧a=b∧a.toNat*sz*64≤281474976710656) (hx:evA N ⟨t,h⟩ x = .d (.v (.int kx a))) (hy:evA N ⟨t,h⟩ y = .d (.v (.int ky b)))
  (h1:T bt=some ti) (h2:ti.desc = .slice e) (h3:T e=some ei) (hsz:ei.size=sz) (hz:dvL ei.zero.cells.toList=zs) (hone:aXi ei.zero.cells.toList=true) (hzs:Nat.beq zs.length ei.size=true) (hpos:Nat.blt 0 ei.size=true) (hsb:Nat.ble ei.bytes (ei.size*64)=true) (hk:h k = .no) (hcz:zs=c z) :
  dK P N ⟨some d, .makeSlice bt x y,ty,pos,aft,g⟩ ⟨t,h⟩ (.own k 0 (List.replicate a.toNat z).length) (upd h k (.live [⟨e,ei.size, .data ((List.replicate a.toNat z).map c)⟩])) ∧ ∀ k',h k' ≠ .no→upd h k (.live [⟨e,ei.size, .data ((List.replicate a.toNat z).map c)⟩]) k'=h k':=by
 subst hsz
 obtain ⟨b1,rfl,b3⟩:=hb
 have hle:=Nat.le_of_ble_eq_true hsb
 have hp:=qE hpos
 have e1:ei.bytes*a.toNat≤a.toNat*ei.size*64:=by rw [Nat.mul_comm,Nat.mul_assoc];exact Nat.mul_le_mul_left _ hle
 have e2:a.toNat≤a.toNat*ei.size:=Nat.le_mul_of_pos_right _ (by omega)
 have:=aWj (P:=P) (N:=N) (d:=d) (ty:=ty) (pos:=pos) (aft:=aft) (g:=g) (l:=a.toNat) (c:=a.toNat) k hT hx hy (by omega) (by omega) (Nat.le_refl _) h1 h2 h3 hz hone hzs hpos (by omega) (by omega) hk
 rw [hcz, ← List.map_replicate] at this
 rw [List.length_replicate]
 exact this
theorem iZ {α:Type} (hT:TOk P T) {bt e:TypeId} {len:Nat} {parts:Array (Nat × Operand)} {ti ei:TI} {es:List (List AV)} {ds:List (List DV)} (c:α→List DV) (xs:List α) (h1:T bt=some ti) (h2:ti.desc = .slice e) (h3:T e=some ei)
  (hel:Els (evA N ⟨t,h⟩) ei.size 0 parts.toList es) (hlen:Nat.beq es.length len=true) (hpos:Nat.blt 0 (len*ei.size)=true) (hsm:Nat.ble (len*ei.size) 16777216=true) (hcc:cR es ds) (hxs:ds=xs.map c) :
  dK P N ⟨some d, .buildSlice bt len parts,ty,pos,aft,g⟩ ⟨t,h⟩ (.d (.sl (xs.map c))) h ∧ ∀ k',h k' ≠ .no→h k'=h k':=by
 subst hxs
 exact aK5 hT h1 h2 h3 hel hlen hpos hsm hcc
theorem mE {α:Type} (k:Nat) (hT:TOk P T) {bt e:TypeId} {len:Nat} {parts:Array (Nat × Operand)} {ti ei:TI} {es:List (List AV)} {ds:List (List DV)} (c:α→List DV) (xs:List α) (h1:T bt=some ti) (h2:ti.desc = .slice e) (h3:T e=some ei)
  (hel:Els (evA N ⟨t,h⟩) ei.size 0 parts.toList es) (hlen:Nat.beq es.length len=true) (hpos:Nat.blt 0 (len*ei.size)=true) (hsm:Nat.ble (len*ei.size) 16777216=true) (hcc:cR es ds) (hxs:ds=xs.map c) (hk:h k = .no) :
  dK P N ⟨some d, .buildSlice bt len parts,ty,pos,aft,g⟩ ⟨t,h⟩ (.own k 0 xs.length) (upd h k (.live [⟨e,ei.size, .data (xs.map c)⟩])) ∧ ∀ k',h k' ≠ .no→upd h k (.live [⟨e,ei.size, .data (xs.map c)⟩]) k'=h k':=by
 subst hxs
 have hl:len=xs.length:=by
  have h5:=Nat.eq_of_beq_eq_true hlen
  have h6:=congrArg List.length hcc.eq_
  simp at h6
  omega
 have:=aOj (P:=P) (N:=N) (d:=d) (ty:=ty) (pos:=pos) (aft:=aft) (g:=g) k hT h1 h2 h3 hel hlen hpos hsm (.data hcc) hk
 rw [hl] at this ⊢
 exact this
end
end Go.Proofs.YtceknlcbfomdhaaGreatDoor
namespace Go.Proofs.YtceknlcbfomdhaaGreatDoor
open Go.RowKit
set_option linter.unusedVariables false
set_option maxRecDepth 100000
def aIu (s:ByteArray) (i:Int):Option Int:=if 0≤i then (s[i.toNat]?).map (fun b=>(b.toNat:Int)) else none
def zS {α:Type} (xs:List α) (a b:Int):List α:=(xs.drop a.toNat).take (b.toNat-a.toNat)
theorem eT {V Z:Type} {z r:Z} {f:V→Option Z} (h:orE (.inr z) f=some r):some z=some r:=h
theorem gS {V Z:Type} {v:V} {r:Z} {f:V→Option Z} (h:orE (.inl v) f=some r):f v=some r:=h
section
variable {P:Program} {T:Tab} {L N:Nat} {ops:Array Oper} {E:Env} {K:List (Nat × Cls)→AS→Prop} {i:Nat} {is:List Nat} {t:Nat→AV} {h h':eB} {d:Tmp} {dst:Option Tmp} {op:Op} {ty:TypeId} {pos:String} {aft:Array Edge} {g:Option (Nat × Bool)} {Q:rQ→AS→Prop} {σ:AS} {xt yt:TypeId} {x y:Operand} {a b:Int}
theorem bH (hx:evA N ⟨t,h⟩ x = .d (.v (.int .i64 a))) (hy:evA N ⟨t,h⟩ y = .d (.v (.int .i64 b))):eV P N ⟨some d, .binOp .add xt x y yt,ty,pos,aft,g⟩ ⟨t,h⟩ (.d (.v (.int .i64 (w64 (a+b))))):=aV6 hx hy
theorem gX (hx:evA N ⟨t,h⟩ x = .d (.v (.int .i64 a))) (hy:evA N ⟨t,h⟩ y = .d (.v (.int .i64 b))):eV P N ⟨some d, .binOp .sub xt x y yt,ty,pos,aft,g⟩ ⟨t,h⟩ (.d (.v (.int .i64 (w64 (a-b))))):=aWc hx hy
theorem eL (hx:evA N ⟨t,h⟩ x = .d (.v (.int .i64 a))) (hy:evA N ⟨t,h⟩ y = .d (.v (.int .i64 b))):eV P N ⟨some d, .binOp .mul xt x y yt,ty,pos,aft,g⟩ ⟨t,h⟩ (.d (.v (.int .i64 (w64 (a*b))))):=aWb hx hy
theorem tK (hx:evA N ⟨t,h⟩ x = .d (.v (.int .i64 a))) (hy:evA N ⟨t,h⟩ y = .d (.v (.int .i64 b))) (hb:b≠0):eV P N ⟨some d, .binOp .quo xt x y yt,ty,pos,aft,g⟩ ⟨t,h⟩ (.d (.v (.int .i64 (w64 (a.tdiv b))))):=aEq hx hy hb
theorem wH (hx:evA N ⟨t,h⟩ x = .d (.v (.int .i64 a))):eV P N ⟨some d, .unOp .neg xt x,ty,pos,aft,g⟩ ⟨t,h⟩ (.d (.v (.int .i64 (w64 (-a))))) :=
 aWd (by rw [hx];rfl) fun w=>by simp [Op.unary,Op.intArith,w64]
theorem aRu {kx:IntKind} (hx:evA N ⟨t,h⟩ x = .d (.v (.int kx a))):eV P N ⟨some d, .unOp .neg xt x,ty,pos,aft,g⟩ ⟨t,h⟩ (.d (.v (.int kx (kx.wrap (-a))))) :=
 aWd (by rw [hx];rfl) fun w=>by simp [Op.unary,Op.intArith]
theorem aRv (hT:TOk P T) {st_ dt:TypeId} {d1 d2:TI} {k1:IntKind} (h1:T st_=some d1) (h2:T dt=some d2) (e2:d2.desc = .int .i64) (hx:evA N ⟨t,h⟩ x = .d (.v (.int k1 a))) (e1:d1.desc = .int k1) :
  eV P N ⟨some d, .convert st_ dt x,ty,pos,aft,g⟩ ⟨t,h⟩ (.d (.v (.int .i64 (w64 a)))):=aKe hT h1 h2 e2 hx e1
theorem aIb (hT:TOk P T) {s:ByteArray} {kk:IntKind} {ti:TI} (hb:aIu s a=some b) (hx:evA N ⟨t,h⟩ x = .d (.v (.string s))) (hy:evA N ⟨t,h⟩ y = .d (.v (.int kk a))) (h1:T xt=some ti) (h2:ti.desc = .string) :
  eV P N ⟨some d, .index xt x y,ty,pos,aft,g⟩ ⟨t,h⟩ (.d (.v (.int .u8 b))):=fun w F μ hh ρ st=>by
 have e1:=lV (by have:=st x (by simp [Op.operands]);rw [hx] at this;exact this)
 have e2:=lV (by have:=st y (by simp [Op.operands]);rw [hy] at this;exact this)
 have hu:=(hT _ _ h1).1
 rw [h2] at hu
 refine ⟨.int .u8 b,?_, .d _ _ (.v _ rfl)⟩
 unfold aIu at hb
 split at hb
 ·rename_i h0
  obtain ⟨c,hc,rfl⟩:=Option.map_eq_some_iff.1 hb
  simp [execOp,Instr.index,e1,e2,asIntOf,run_underlying hu,h0,hc]
 ·cases hb
theorem vS {α:Type} (hT:TOk P T) {c:α→List DV} {es:List α} {lo hi:Option Operand} {e:TypeId} {ti ei:TI} (hab:0≤a∧a≤b∧b≤es.length) (hx:evA N ⟨t,h⟩ x = .d (.sl (es.map c))) (hlo:(lo=none∧a=0) ∨ ∃ o k,lo=some o∧evA N ⟨t,h⟩ o = .d (.v (.int k a)))
  (hhi:(hi=none∧b=es.length) ∨ ∃ o k,hi=some o∧evA N ⟨t,h⟩ o = .d (.v (.int k b))) (h1:T xt=some ti) (h2:ti.desc = .slice e) (h3:T e=some ei) (hcl : ∀ u,(c u).length=ei.size) :
  eV P N ⟨some d, .slice xt x lo hi none,ty,pos,aft,g⟩ ⟨t,h⟩ (.d (.sl ((zS es a b).map c))):=fun w F μ hh ρ st=>by
 have hr:=st x (by simp [Op.operands])
 rw [hx] at hr
 have hu:=(hT _ _ h1).1
 rw [h2] at hu
 obtain ⟨q0,q1,q2⟩:=hab
 generalize hvx:ρ x=vx at hr
 cases hr with | d _ _ hd =>
 -- what the operation comes to
 have run : ∀ (A:Option Addr) (n cc:Nat),n=es.length→n≤cc→vx = .slice A n cc →
   (execOp ρ ⟨some d, .slice xt x lo hi none,ty,pos,aft,g⟩).run P w = .ok (.value (.slice (if cc=a.toNat then A else A.map (·.add (a.toNat*ei.size))) (b.toNat-a.toNat) (cc-a.toNat))) w:=by
  intro A n cc hn hc hv
  subst hn
  have q4:b≤(cc:Int):=by omega
  have q3:0≤b:=by omega
  rcases hlo with ⟨rfl,rfl⟩ | ⟨o1,k1,rfl,g1⟩ <;> rcases hhi with ⟨rfl,rfl⟩ | ⟨o2,k2,rfl,g2⟩
  ·simp [execOp,Instr.sliceAt,Instr.slice,Instr.sliceBounds,hvx,hv,run_underlying hu,jJ hT h3]
  ·have f2:=lV (by have:=st o2 (by simp [Op.operands]);rw [g2] at this;exact this)
   simp [execOp,Instr.sliceAt,Instr.slice,Instr.sliceBounds,Instr.sliceBound,hvx,hv,f2,asIntOf,run_underlying hu,jJ hT h3,q3,q4]
  ·have f1:=lV (by have:=st o1 (by simp [Op.operands]);rw [g1] at this;exact this)
   simp [execOp,Instr.sliceAt,Instr.slice,Instr.sliceBounds,Instr.sliceBound,hvx,hv,f1,asIntOf,run_underlying hu,jJ hT h3,q0,q1]
  ·have f1:=lV (by have:=st o1 (by simp [Op.operands]);rw [g1] at this;exact this)
   have f2:=lV (by have:=st o2 (by simp [Op.operands]);rw [g2] at this;exact this)
   have q5:a.toNat≤b.toNat:=by omega
   simp [execOp,Instr.sliceAt,Instr.slice,Instr.sliceBounds,Instr.sliceBound,hvx,hv,f1,f2,asIntOf,run_underlying hu,jJ hT h3,q0,q1,q3,q4,q5]
   intro hlt;omega
 have hlen:(zS es a b).length=b.toNat-a.toNat:=by unfold zS;simp;omega
 generalize hds:es.map c=ds at hd
 cases hd with
 | nil =>
  have:es=[]:=List.map_eq_nil_iff.1 hds
  subst this
  simp at q2
  have e1:a=0:=by omega
  have e2:b=0:=by omega
  subst e1 e2
  refine ⟨_,run none 0 0 rfl (Nat.le_refl _) rfl,?_⟩
  simp [zS]
  exact .d _ _ .nil
 | emp A cc hm =>
  have:es=[]:=List.map_eq_nil_iff.1 hds
  subst this
  simp at q2
  have e1:a=0:=by omega
  have e2:b=0:=by omega
  subst e1 e2
  refine ⟨_,run A 0 cc rfl (Nat.zero_le _) rfl,?_⟩
  simp only [zS,List.drop_nil,List.take_nil,List.map_nil]
  exact .d _ _ (.emp _ _ (by omega))
 | sl bk off cc sz es' gg hF hc hm hz hg hr =>
  subst hds
  refine ⟨_,run _ _ cc (by simp) hc rfl,?_⟩
  by_cases hempty:b.toNat-a.toNat=0
  ·have:zS es a b=[]:=List.eq_nil_of_length_eq_zero (by omega)
   rw [this,hempty]
   exact .d _ _ (.emp _ _ (by omega))
  ·have hl:0<es.length:=by omega
   have hsz:sz=ei.size:=by
    have:=hz 0 (c es[0]) (by simp [hl])
    rw [hcl] at this;omega
   have hne : ¬ cc=a.toNat:=by
    have:(es.map c).length=es.length:=by simp
    omega
   rw [if_neg hne]
   have hget : ∀ (q:Nat) e,((zS es a b).map c)[q]? = some e→(es.map c)[a.toNat+q]? = some e:=fun q e he=>by
    obtain ⟨u,hu',rfl⟩:=by simpa using he
    refine aN1 ?_
    unfold zS at hu'
    rw [List.getElem?_take] at hu'
    split at hu'
    ·rw [List.getElem?_drop] at hu';exact hu'
    ·cases hu'
   have hl2:((zS es a b).map c).length=b.toNat-a.toNat:=by simp [hlen]
   rw [← hl2]
   have e3:(Option.map (fun x=>x.add (a.toNat*ei.size)) (some (⟨bk,off,none⟩:Addr)))=some ⟨bk,off+a.toNat*ei.size,none⟩:=by simp [tA]
   rw [e3]
   refine .d _ _ (.sl bk _ _ sz _ (fun q j=>gg (a.toNat+q) j) hF ?_ (by omega) (fun q e he=>hz _ e (hget q e he)) (fun q e j v he hv => ?_) (fun q e j v he hv=>hr _ e j v (hget q e he) hv))
   ·have:(es.map c).length=es.length:=by simp
    omega
   ·have:=hg _ e j v (hget q e he) hv
    rw [← this,hsz]
    congr 2
    rw [Nat.add_mul];omega
theorem wk {t':Nat→AV} {ss:List fT} (ks:List Nat) (hnd:ks.Nodup:=by decide) (hlt : ∀ k ∈ ks,k<300:=by decide) (h3:(List.range L).all (fun p=>fK ks 300 p == p)=true:=by decide)
  (hB:Abv h 300:=by repeat (first | exact oZ _ | exact oY rfl | refine pA ?_ rfl))
  (wt:WT (fK ks 300) t t':=by repeat (first | exact WT.nil | refine WT.free_ rfl (by exact rfl) ?_ | refine WT.ren_ (r':=_) rfl (by repeat (first | exact fS.nil | apply fS.cons | exact dQ.d _ | apply dQ.agg | apply dQ.tup | exact dQ.own _ _ _ _ rfl | exact dQ.of_own (by first | rfl | (simp;done) | omega | (simp;omega)) rfl | exact dQ.ptr _ _ _ _ _ _ rfl | exact dQ.ref _ | apply dQ.fn | exact dQ.dead | exact dQ.nd _ _)) ?_))
  (wh:AtK (fK ks 300) h ks ss:=by repeat (first | exact AtK.nil | refine AtK.data_ (by exact rfl) ?_ | (apply AtK.cons rfl; (first | exact hJ.no | exact hJ.dead | exact hJ.data _ _ _ | exact hJ.nest rfl | exact hJ.fam | (apply hJ.box; (repeat (first | exact fS.nil | apply fS.cons | exact dQ.d _ | apply dQ.agg | apply dQ.tup | exact dQ.own _ _ _ _ rfl | exact dQ.of_own (by first | rfl | (simp;done) | omega | (simp;omega)) rfl | exact dQ.ptr _ _ _ _ _ _ rfl | exact dQ.ref _ | apply dQ.fn | exact dQ.dead))) | exact hJ.gen _)))):mG L N ⟨t,h⟩ ⟨t',lks ss⟩:=aZs ks 300 hnd hlt h3 hB wt wh
theorem aFa {k:Nat} {ty:TypeId} {sz:Nat} {es:List (List DV)} {t':Nat→AV} (hk:h k = .live [⟨ty,sz, .data es⟩]) (z:FzL k (some es) none h h')
  (zt:FzT k (some es) none t t':=by repeat (first | exact FzT.nil | refine FzT.upd rfl (by repeat (first | exact tW.nil | apply tW.cons | exact FzR.own rfl (by first | rfl | (simp;done) | (simp;omega)) | exact FzR.d _ | exact FzR.own' | exact FzR.ptr' | exact FzR.ref _ | apply FzR.agg | apply FzR.tup | apply FzR.fn | exact FzR.dead _)) ?_)):mG L N ⟨t,h⟩ ⟨t',h'⟩:=aSs (aVp hk z) zt
theorem aZ1 {k:Nat} {ty:TypeId} {sz:Nat} {cells:List AV} {ds:List DV} {t':Nat→AV} (hk:h k = .live [⟨ty,sz, .av [cells]⟩]) (z:FzL k none (some ds) h h') (hd:eZ cells ds:=by repeat (first | exact eZ.nil | apply eZ.cons))
  (zt:FzT k none (some ds) t t':=by repeat (first | exact FzT.nil | refine FzT.upd rfl (by repeat (first | exact tW.nil | apply tW.cons | exact FzR.ptr rfl (by repeat (first | exact Drp.z _ | apply Drp.d)) | exact FzR.d _ | exact FzR.own' | exact FzR.ptr' | exact FzR.ref _ | apply FzR.agg | apply FzR.tup | apply FzR.fn | exact FzR.dead _)) ?_)):mG L N ⟨t,h⟩ ⟨t',h'⟩:=aSs (aW7 hk hd z) zt
theorem nX (ks:List Nat) (B:Nat) {f:FuncId} {x:Operand} {args:Array Operand} {at_:Array TypeId} {caps as as':List AV} {hin hout:List fT} {r r':AV} (hF:FnC P f hin as hout r) (hx:evA N ⟨t,h⟩ x = .fn f caps) (ha:evL N ⟨t,h⟩ args.toList++caps=as')
  (har:fS (fK ks B) as as':=by repeat (first | exact fS.nil | apply fS.cons | exact dQ.d _ | apply dQ.agg | apply dQ.tup | exact dQ.own _ _ _ _ rfl | exact dQ.of_own (by first | rfl | (simp;done) | omega | (simp;omega)) rfl | exact dQ.ptr _ _ _ _ _ _ rfl | exact dQ.ref _ | apply dQ.fn | exact dQ.dead))
  (hB:Abv h B:=by repeat (first | exact oZ _ | exact oY rfl | refine pA ?_ rfl)) (hnd:ks.Nodup:=by decide) (hlt : ∀ k ∈ ks,k<B:=by decide)
  (hk:AtK (fK ks B) h ks hin:=by repeat (first | exact AtK.nil | refine AtK.data_ (by exact rfl) ?_ | (apply AtK.cons rfl; (first | exact hJ.no | exact hJ.dead | exact hJ.data _ _ _ | exact hJ.nest rfl | exact hJ.fam | (apply hJ.box; (repeat (first | exact fS.nil | apply fS.cons | exact dQ.d _ | apply dQ.agg | apply dQ.tup | exact dQ.own _ _ _ _ rfl | exact dQ.ptr _ _ _ _ _ _ rfl | exact dQ.ref _ | apply dQ.fn | exact dQ.dead))) | exact hJ.gen _))))
  (hb:aP3 (fK ks B) h ks hout h':=by repeat (first | exact aP3.nil _ | (apply aP3.cons; (first | exact hJ.no | exact hJ.dead | exact hJ.data _ _ _ | exact hJ.nest rfl | exact hJ.fam | (apply hJ.box; (repeat (first | exact fS.nil | apply fS.cons | exact dQ.d _ | apply dQ.agg | apply dQ.tup | exact dQ.own _ _ _ _ rfl | exact dQ.ptr _ _ _ _ _ _ rfl | exact dQ.ref _ | apply dQ.fn | exact dQ.dead))) | exact hJ.gen _))))
  (hr:dQ (fK ks B) r r':=by repeat (first | exact fS.nil | apply fS.cons | exact dQ.d _ | apply dQ.agg | apply dQ.tup | exact dQ.own _ _ _ _ rfl | exact dQ.ptr _ _ _ _ _ _ rfl | exact dQ.ref _ | apply dQ.fn | exact dQ.dead)) :
  dK P N ⟨dst, .call ⟨.value x,args,at_⟩,ty,pos,aft,g⟩ ⟨t,h⟩ r' h':=aOo ks B hx ha har hF hB hnd hlt hk hb hr
theorem gU {fn:Func} {rs:List ResultVar} {as:List AV} {r:AV} (hrs:fn.results.toList=rs)
  (R:rB T N ⟨t,h⟩ rs as:=by repeat (first | exact rB.nil | apply rB.tmp (a := .d _) rfl | apply rB.tmp (a := .own _ _ _) rfl | apply rB.tmp (a := .agg _) rfl | apply rB.tmp (a := .ref _) rfl | apply rB.tmp (a := .ptr _ _ _ _ _) rfl | apply rB.cell1 rfl rfl rfl rfl (by first | rfl) (by first | rfl) rfl | apply rB.cellN rfl rfl rfl rfl (by first | rfl) (by first | rfl) (by repeat (first | exact Seg.z _ | apply Seg.t | apply Seg.d))))
  (hB:Abv h 300:=by repeat (first | exact oZ _ | exact oY rfl | refine pA ?_ rfl)) (e:aUa as=r:=by rfl) (hf:r.free=true:=by rfl):aFd T N fn 0 [] r ⟨t,h⟩:=aZy 300 hrs R hB hf e
theorem dG {fn:Func} {rs:List ResultVar} {as:List AV} {r:AV} {hout:List fT} (ks:List Nat) (hrs:fn.results.toList=rs)
  (R:rB T N ⟨t,h⟩ rs as:=by repeat (first | exact rB.nil | apply rB.tmp (a := .d _) rfl | apply rB.tmp (a := .own _ _ _) rfl | apply rB.tmp (a := .agg _) rfl | apply rB.tmp (a := .ref _) rfl | apply rB.tmp (a := .ptr _ _ _ _ _) rfl | apply rB.cell1 rfl rfl rfl rfl (by first | rfl) (by first | rfl) rfl | apply rB.cellN rfl rfl rfl rfl (by first | rfl) (by first | rfl) (by repeat (first | exact Seg.z _ | apply Seg.t | apply Seg.d))))
  (hB:Abv h 300:=by repeat (first | exact oZ _ | exact oY rfl | refine pA ?_ rfl)) (hnd:ks.Nodup:=by decide) (hlt : ∀ k ∈ ks,k<300:=by decide)
  (hk:AtK (fK ks 300) h ks hout:=by repeat (first | exact AtK.nil | refine AtK.data_ (by exact rfl) ?_ | (apply AtK.cons rfl; (first | exact hJ.no | exact hJ.dead | exact hJ.data _ _ _ | exact hJ.nest rfl | exact hJ.fam | exact hJ.gen _))))
  (e:dQ (fK ks 300) r (aUa as):=by repeat (first | exact fS.nil | apply fS.cons | exact dQ.d _ | apply dQ.agg | apply dQ.tup | exact dQ.own _ _ _ _ rfl | exact dQ.of_own (by first | rfl | (simp;done) | omega | (simp;omega)) rfl | exact dQ.ptr _ _ _ _ _ _ rfl | exact dQ.ref _ | apply dQ.fn | exact dQ.dead)):aFd T N fn 0 hout r ⟨t,h⟩:=aZ5 ks 300 hrs R hB hnd hlt hk e.eq_
theorem xF {fn:Func} {rs:List ResultVar} {as:List AV} {r:AV} {hout:List fT} (m:Nat) (hm:Nat.beq hout.length m=true) (hrs:fn.results.toList=rs)
  (R:rB T N ⟨t,h⟩ rs as:=by repeat (first | exact rB.nil | apply rB.tmp (a := .d _) rfl | apply rB.tmp (a := .own _ _ _) rfl | apply rB.tmp (a := .agg _) rfl | apply rB.tmp (a := .ref _) rfl | apply rB.tmp (a := .ptr _ _ _ _ _) rfl | apply rB.cell1 rfl rfl rfl rfl (by first | rfl) (by first | rfl) rfl | apply rB.cellN rfl rfl rfl rfl (by first | rfl) (by first | rfl) (by repeat (first | exact Seg.z _ | apply Seg.t | apply Seg.d))))
  (hB:Abv h 300:=by repeat (first | exact oZ _ | exact oY rfl | refine pA ?_ rfl)) (hlt:Nat.blt m 300=true:=by rfl)
  (hk:AtK (fK (List.range m) 300) h (List.range m) hout:=by repeat (first | exact AtK.nil | refine AtK.data_ (by exact rfl) ?_ | (apply AtK.cons rfl; (first | exact hJ.no | exact hJ.dead | exact hJ.data _ _ _ | exact hJ.nest rfl | exact hJ.fam | (apply hJ.box; (repeat (first | exact fS.nil | apply fS.cons | exact dQ.d _ | apply dQ.agg | apply dQ.tup | exact dQ.own _ _ _ _ rfl | exact dQ.ptr _ _ _ _ _ _ rfl | exact dQ.ref _ | apply dQ.fn | exact dQ.dead))) | exact hJ.gen _))))
  (e:dQ (fK (List.range m) 300) r (aUa as):=by repeat (first | exact fS.nil | apply fS.cons | exact dQ.d _ | apply dQ.agg | apply dQ.tup | exact dQ.own _ _ _ _ rfl | exact dQ.ptr _ _ _ _ _ _ rfl | exact dQ.ref _ | apply dQ.fn | exact dQ.dead)):aFd T N fn m hout r ⟨t,h⟩:=aZ6 m 300 hm hrs R hB hlt hk e.eq_
end
end Go.Proofs.YtceknlcbfomdhaaGreatDoor
namespace Go.Proofs.YtceknlcbfomdhaaGreatDoor
open Go.RowKit
set_option linter.unusedVariables false
set_option maxRecDepth 100000
def eG (s:ByteArray):List Int:=s.data.toList.map fun b=>(b.toNat:Int)
theorem aBd (s:ByteArray):(eG s).length=s.size:=by simp [eG]
section
variable {P:Program} {T:Tab} {L N:Nat} {ops:Array Oper} {E:Env} {K:List (Nat × Cls)→AS→Prop} {i:Nat} {is:List Nat} {t:Nat→AV} {h h':eB} {d:Tmp} {dst:Option Tmp} {op:Op} {ty:TypeId} {pos:String} {aft:Array Edge} {g:Option (Nat × Bool)} {Q:rQ→AS→Prop} {σ:AS} {x y:Operand}
theorem aYf (hT:TOk P T) {st_ dt e:TypeId} {s:ByteArray} {d1 d2 d3:TI} (hb:s.size≤140737488355328) (hx:evA N ⟨t,h⟩ x = .d (.v (.string s))) (h1:T st_=some d1) (e1:d1.desc = .string) (h2:T dt=some d2) (e2:d2.desc = .slice e) (h3:T e=some d3) (e3:d3.desc = .int .u8) :
  dK P N ⟨some d, .convert st_ dt x,ty,pos,aft,g⟩ ⟨t,h⟩ (.d (.sl ((eG s).map cU8))) h ∧ ∀ k',h k' ≠ .no→h k'=h k':=by
 refine ⟨fun E F μ w ρ H st => ?_,fun _ _=>rfl⟩
 have f1:=lV (by have:=st x (by simp [Op.operands]);rw [hx] at this;exact this)
 have u1:=(hT _ _ h1).1
 rw [e1] at u1
 have u2:=(hT _ _ h2).1
 rw [e2] at u2
 have u3:=(hT _ _ h3).1
 rw [e3] at u3
 have hrun:=run_bytes_of_string (P:=P) w st_ dt e s u1 u2 u3
 have e4:(execOp ρ ⟨some d, .convert st_ dt x,ty,pos,aft,g⟩).run P w = .ok (.value (.slice (some ⟨w.heap.size,0,none⟩) s.size (grownCap w s.size 0 e))) (w.drew.alloc (.cells (bytesRow s (grownCap w s.size 0 e)) e ((bytesRow s (grownCap w s.size 0 e)).size,(bytesRow s (grownCap w s.size 0 e)).size+1))):=by
  simp only [execOp,f1]
  rw [Sem.run_bind,hrun];rfl
 rw [e4]
 have hge:=grownCap_ge w s.size 0 e
 have hcm:=grownCap_le_maxLen w s.size 0 e (by unfold maxLen;omega)
 obtain ⟨H1,V1⟩:=H.drew
 obtain ⟨H',V⟩:=H1.ice (.cells (bytesRow s (grownCap w s.size 0 e)) e ((bytesRow s (grownCap w s.size 0 e)).size,(bytesRow s (grownCap w s.size 0 e)).size+1))
 refine ⟨_, μ,H',V1.trans V, .d _ _ ?_⟩
 have hl:((eG s).map cU8).length=s.size:=by rw [List.length_map,aBd]
 have hat : ∀ (q:Nat) (ed:List DV),((eG s).map cU8)[q]? = some ed → ∃ b:UInt8,s.data[q]? = some b∧ed=[.v (.int .u8 (b.toNat:Int))]:=fun q ed hq=>by
  simp only [List.getElem?_map,eG] at hq
  obtain ⟨v,hv,rfl⟩:=Option.map_eq_some_iff.1 hq
  obtain ⟨b,hb,rfl⟩:=Option.map_eq_some_iff.1 hv
  exact ⟨b,by simpa using hb,rfl⟩
 have hsl:aDo (w.drew.alloc (.cells (bytesRow s (grownCap w s.size 0 e)) e ((bytesRow s (grownCap w s.size 0 e)).size,(bytesRow s (grownCap w s.size 0 e)).size+1))) (fun b=>F b∨b=w.drew.heap.size) (.slice (some ⟨w.heap.size,0,none⟩) ((eG s).map cU8).length (grownCap w s.size 0 e)) (.sl ((eG s).map cU8)):=by
  refine .sl w.heap.size 0 _ 1 _ (fun i j => .int .u8 (((s.data[i]?).getD 0).toNat:Int)) (.inr rfl) (by omega) hcm (fun q ed hq => ?_) (fun q ed j v hq hv => ?_) (fun q ed j v hq hv => ?_)
  ·obtain ⟨b,_,rfl⟩:=hat q ed hq;rfl
  ·obtain ⟨b,hb,rfl⟩:=hat q ed hq
   have hj:j=0:=by
    cases j with
    | zero=>rfl
    | succ j=>simp at hv
   subst hj
   have hcr:=cell_of_row _ w.heap.size (0+q*1+0) (bytesRow s (grownCap w s.size 0 e)) e _ (Go.heap_alloc_new w.drew (.cells (bytesRow s (grownCap w s.size 0 e)) e ((bytesRow s (grownCap w s.size 0 e)).size,(bytesRow s (grownCap w s.size 0 e)).size+1)))
   rw [hcr]
   have hlt:q<s.data.size:=(Array.getElem?_eq_some_iff.1 hb).1
   simp only [Nat.zero_add,Nat.mul_one,Nat.add_zero,bytesRow,hb,Option.getD_some]
   rw [Array.getElem?_append_left (by simpa using hlt),Array.getElem?_map,hb];rfl
  ·obtain ⟨b,hb,rfl⟩:=hat q ed hq
   have hj:j=0:=by
    cases j with
    | zero=>rfl
    | succ j=>simp at hv
   subst hj
   simp at hv
   subst hv
   simp only [hb,Option.getD_some]
   exact .v _ rfl
 rw [hl] at hsl
 exact hsl
theorem aTd (hT:TOk P T) {st_ dt e:TypeId} {xs:List Int} {d1 d2 d3:TI} (h1:T st_=some d1) (e1:d1.desc = .slice e) (h2:T dt=some d2) (e2:d2.desc = .string) (h3:T e=some d3) (e3:d3.desc = .int .u8) {F:Nat→Prop} {μ:cT} {hh:eB} {w:World} {v:Value}
  (hr:aGy w F μ hh v 1 (.data (xs.map cU8))):(convert st_ dt v).run P w = .ok (.string (strOfNums xs)) w:=by
 have u1:=(hT _ _ h1).1
 rw [e1] at u1
 have u2:=(hT _ _ h2).1
 rw [e2] at u2
 have u3:=(hT _ _ h3).1
 rw [e3] at u3
 obtain ⟨A,c,rfl,hrd⟩:=hr
 have hlen:(cG.data (xs.map cU8)).len=xs.length:=oM
 rcases hrd with h0 | ⟨b,off,rfl,hrd⟩
 ·rw [hlen] at h0
  have:xs=[]:=List.eq_nil_of_length_eq_zero h0
  subst this
  cases A with
  | none=>rw [run_convert_bytes_nil w st_ e u1 u3 _ _ dt u2];rfl
  | some a =>
   have:=run_convert_bytes_string (P:=P) w st_ dt e (some a) 0 c u1 u3 u2
   have e4:=run_bytesToString (P:=P) w a 0 c [] (by have:=run_loadCells_list (P:=P) w a [] (fun j v hv=>by simp at hv);simpa using this)
   simp only [cG.len,List.map_nil,List.length_nil] at *
   rw [this,e4];rfl
 ·rw [hlen]
  refine run_convert_bytes_arg w st_ e u1 u3 b off xs.length c xs rfl (fun q hq => ?_) dt u2
  obtain ⟨_,h5⟩:=hrd q ((cU8 xs[q]).map .d) (aAt (List.getElem?_eq_getElem hq))
  obtain ⟨u,hu,_,hr⟩:=h5 0 (.d (.v (.int .u8 xs[q]))) rfl
  have hru:u = .int .u8 xs[q]:=lV hr
  rw [Nat.mul_one,Nat.add_zero] at hu
  rw [hu,hru]
  simp [List.getD,List.getElem?_eq_getElem hq]
theorem aVj (hT:TOk P T) {st_ dt e bt:TypeId} {k n sz:Nat} {xs:List Int} {d1 d2 d3:TI} (hx:evA N ⟨t,h⟩ x = .own k 0 n) (h1:T st_=some d1) (e1:d1.desc = .slice e) (h2:T dt=some d2) (e2:d2.desc = .string) (h3:T e=some d3) (e3:d3.desc = .int .u8) (hk:h k = .live [⟨bt,sz, .data (xs.map cU8)⟩]) (hn:n=xs.length) (hs:sz=1) :
  dK P N ⟨some d, .convert st_ dt x,ty,pos,aft,g⟩ ⟨t,h⟩ (.d (.v (.string (strOfNums xs)))) h ∧ ∀ k',h k' ≠ .no→h k'=h k':=by
 subst hn hs
 refine ⟨fun E F μ w ρ H st => ?_,fun _ _=>rfl⟩
 have hr:=st x (by simp [Op.operands])
 rw [hx] at hr
 have:=aTd (P:=P) hT h1 e1 h2 e2 h3 e3 (aKf H hr (mZ hk) oM trivial)
 have e4:(execOp ρ ⟨some d, .convert st_ dt x,ty,pos,aft,g⟩).run P w = .ok (.value (.string (strOfNums xs))) w:=by
  simp only [execOp]
  rw [Sem.run_bind,this];rfl
 rw [e4]
 exact ⟨F, μ,H,Evo.refl_, .d _ _ (.v _ rfl)⟩
theorem yX {k0:Nat} {s:fT} {r:AV} (ho:ops[i]? = some ⟨some d,op,ty,pos,aft,g⟩) (hw:yR N ops ⟨some d,op,ty,pos,aft,g⟩ ⟨t,h⟩) (hd:Nat.blt d N=true) (hp:dK P N ⟨some d,op,ty,pos,aft,g⟩ ⟨t,h⟩ r (upd h k0 s))
  (k:RT P N ops is (fun l σ'=>K ((i, .wk k0) :: l) σ') ⟨aC t d r,upd h k0 s⟩):RT P N ops (i :: is) K ⟨t,h⟩:=rE ho (.wk k0 (dN hd) hw r _ hp fun p hp=>dZ _ _ hp) k
theorem aXq {k0 B:Nat} {s:fT} {r:AV} (ho:ops[i]? = some ⟨some d,op,ty,pos,aft,g⟩) (hw:yR N ops ⟨some d,op,ty,pos,aft,g⟩ ⟨t,h⟩) (hd:Nat.blt d N=true) (hB:Abv h B) (hp : ∀ hx:eB,Abv hx B→hx k0=h k0→dK P N ⟨some d,op,ty,pos,aft,g⟩ ⟨t,hx⟩ r (upd hx k0 s))
  (k:RT P N ops is (fun l σ'=>K ((i, .wx k0 B) :: l) σ') ⟨aC t d r,upd h k0 s⟩):RT P N ops (i :: is) K ⟨t,h⟩:=rE ho (.wx k0 B (dN hd) hw r s hB hp) k
def aU3 (k:IntKind) (a b:Int):Int:=a.fdiv (2 ^ min b.toNat k.bits)
theorem aXj {k k2:IntKind} {a b:Int} {xt yt:TypeId} (hx:evA N ⟨t,h⟩ x = .d (.v (.int k a))) (hy:evA N ⟨t,h⟩ y = .d (.v (.int k2 b))) (hb:0≤b):eV P N ⟨some d, .binOp .shr xt x y yt,ty,pos,aft,g⟩ ⟨t,h⟩ (.d (.v (.int k (aU3 k a b)))) :=
 nP (by rw [hx];rfl) (by rw [hy];rfl) fun w=>by simp [eqGuard,binOp,Op.shift,aU3,Int.not_lt.2 hb]
end
end Go.Proofs.YtceknlcbfomdhaaGreatDoor
namespace Go.Proofs.YtceknlcbfomdhaaGreatDoor
open Go.RowKit
set_option linter.unusedVariables false
set_option maxRecDepth 100000
section
variable {P:Program} {T:Tab} {L N:Nat} {ops:Array Oper} {E:Env} {K:List (Nat × Cls)→AS→Prop} {i:Nat} {is:List Nat} {t:Nat→AV} {h h':eB} {d:Tmp} {dst:Option Tmp} {op:Op} {ty:TypeId} {pos:String} {aft:Array Edge} {g:Option (Nat × Bool)} {Q:rQ→AS→Prop} {σ:AS} {x y:Operand}
end
end Go.Proofs.YtceknlcbfomdhaaGreatDoor
namespace Go.Proofs.YtceknlcbfomdhaaGreatDoor
open Go.RowKit
set_option linter.unusedVariables false
set_option maxRecDepth 100000
section
variable {P:Program} {T:Tab} {L N:Nat} {ops:Array Oper} {E:Env} {K:List (Nat × Cls)→AS→Prop} {i:Nat} {is:List Nat} {t:Nat→AV} {h h':eB} {d:Tmp} {dst:Option Tmp} {op:Op} {ty:TypeId} {pos:String} {aft:Array Edge} {g:Option (Nat × Bool)} {Q:rQ→AS→Prop} {σ:AS} {c:Code} {x y:Operand}
theorem mB {d:Nat} {cs ds:List DV} (hd:t d = .ref cs) (hp:Pre cs ds):mG L N ⟨t,h⟩ ⟨aC t d (.ref ds),h⟩:=by
 rintro E a w ⟨F, μ,A⟩
 refine ⟨F, μ,A.H,A.df,A.sz,fun d' hd' => ?_,A.lim⟩
 by_cases e:d'=d
 ·subst e
  have h1:=A.tm d' hd'
  dsimp only at h1 ⊢
  rw [hd] at h1
  rw [gC]
  have hp' : ∀ (j:Nat) (x:DV),ds[j]? = some x→cs[j]? = some x:=by
   cases aDl (h:=h) hp with | ref _ _ q=>exact q
  generalize a.tmps.getD d' undef=v at h1
  cases h1 with | ref b off cs g hF hg hr=>exact .ref b off ds g hF (fun j x hx=>hg j x (hp' j x hx)) fun j x hx=>hr j x (hp' j x hx)
 ·dsimp only;rw [lM _ _ e]
  exact A.tm d' hd'
theorem aC2 {d:Nat} {es:List (List DV)} (hN:Nat.blt d N=true) (hd:t d = .d (.sl es)) (h1:es≠[]→AW L P N c Q ⟨t,h⟩) (h2:es=[] → ∀ (A:Option Addr) (k:Nat),k≤maxLen→AW L P N c Q ⟨aC t d (.d (.v (.slice A 0 k))),h⟩):AW L P N c Q ⟨t,h⟩:=fun E a w A=>by
 by_cases e:es=[]
 ·subst e
  obtain ⟨F, μ,A⟩:=A
  have hdN:d<N:=qE hN
  obtain ⟨X,k,hk,hv⟩ : ∃ (X:Option Addr) (k:Nat),k≤maxLen∧a.tmps.getD d undef = .slice X 0 k:=by
   have h3:=A.tm d hdN
   dsimp only at h3
   rw [hd] at h3
   generalize a.tmps.getD d undef=v at h3
   cases h3 with | d _ _ h3 =>
   cases h3 with
   | nil=>exact ⟨none,0,by unfold maxLen;omega,rfl⟩
   | emp X k hk=>exact ⟨X,k,hk,rfl⟩
   | sl b off k sz _ gg hF hc hm hz hg hr=>exact ⟨_,k,hm,rfl⟩
  refine h2 rfl X k hk E a w ⟨F, μ,A.H,A.df,A.sz,fun d' hd' => ?_,A.lim⟩
  by_cases e:d'=d
  ·subst e
   dsimp only
   rw [gC,hv]
   exact .d _ _ (.v _ rfl)
  ·dsimp only;rw [lM _ _ e]
   exact A.tm d' hd'
 ·exact h1 e E a w A
theorem aUl {d:Nat} {A:Option Addr} {k:Nat} (hd:t d = .d (.v (.slice A 0 k))) (hk:k≤maxLen):mG L N ⟨t,h⟩ ⟨aC t d (.d (.sl [])),h⟩:=by
 rintro E a w ⟨F, μ,A⟩
 refine ⟨F, μ,A.H,A.df,A.sz,fun d' hd' => ?_,A.lim⟩
 by_cases e:d'=d
 ·subst e
  have h1:=A.tm d' hd'
  dsimp only at h1 ⊢
  rw [hd] at h1
  rw [gC,lV h1]
  exact .d _ _ (.emp _ _ hk)
 ·dsimp only;rw [lM _ _ e]
  exact A.tm d' hd'
theorem aA5 {α:Type} (c:α→List DV) {d:Nat} {A:Option Addr} {k:Nat} (hd:t d = .d (.v (.slice A 0 k))) (hk:k≤maxLen):mG L N ⟨t,h⟩ ⟨aC t d (.d (.sl (List.map c []))),h⟩:=aUl hd hk
theorem lU (hT:TOk P T) {xt e:TypeId} {ti:TI} {A:Option Addr} {n k:Nat} {yt:TypeId} (hx:evA N ⟨t,h⟩ x = .d (.v (.slice A n k))) (h1:T xt=some ti) (h2:ti.desc = .slice e) (hy:evA N ⟨t,h⟩ y = .d (.v (.slice none 0 0))) :
  eV P N ⟨some d, .binOp .eql xt x y yt,ty,pos,aft,g⟩ ⟨t,h⟩ (.d (.v (.bool A.isNone))):=fun w F μ hh ρ st=>by
 have hr:=lV (by have:=st x (by simp [Op.operands]);rw [hx] at this;exact this)
 have hr2:=lV (by have:=st y (by simp [Op.operands]);rw [hy] at this;exact this)
 have hu:=(hT _ _ h1).1
 rw [h2] at hu
 refine ⟨.bool A.isNone,?_, .d _ _ (.v _ rfl)⟩
 simp [execOp,hr,hr2,eqGuard,binOp,Go.run_equal_slice_nil w xt e A n k hu]
theorem sK (hT:TOk P T) {xt e:TypeId} {ti:TI} {es:List (List DV)} {yt:TypeId} (hx:evA N ⟨t,h⟩ x = .d (.sl es)) (hne:es≠[]) (h1:T xt=some ti) (h2:ti.desc = .slice e) (hy:evA N ⟨t,h⟩ y = .d (.v (.slice none 0 0))) :
  eV P N ⟨some d, .binOp .eql xt x y yt,ty,pos,aft,g⟩ ⟨t,h⟩ (.d (.v (.bool false))):=fun w F μ hh ρ st=>by
 have hr:=st x (by simp [Op.operands])
 rw [hx] at hr
 have hr2:=lV (by have:=st y (by simp [Op.operands]);rw [hy] at this;exact this)
 have hu:=(hT _ _ h1).1
 rw [h2] at hu
 refine ⟨.bool false,?_, .d _ _ (.v _ rfl)⟩
 generalize hv:ρ x=v at hr
 cases hr with | d _ _ hd =>
 cases hd with
 | nil=>exact absurd rfl hne
 | emp A c hm=>exact absurd rfl hne
 | sl b off c sz es gg hF hc hm hz hg hr=>simp [execOp,hv,hr2,eqGuard,binOp,Go.run_equal_slice_nil w xt e _ _ _ hu]
theorem aWa {k:IntKind} {a b e:Int} {z:Operand} {at_:Array TypeId} (hx:evA N ⟨t,h⟩ x = .d (.v (.int k a))) (hy:evA N ⟨t,h⟩ y = .d (.v (.int k b))) (hz:evA N ⟨t,h⟩ z = .d (.v (.int k e))):eV P N ⟨some d, .call ⟨.builtin .max, #[x,y,z],at_⟩,ty,pos,aft,g⟩ ⟨t,h⟩ (.d (.v (.int k (max (max a b) e)))):=fun w F μ hh ρ st=>by
 have h1:=lV (by have:=st x (by simp [Op.operands,Call.operands]);rw [hx] at this;exact this)
 have h2:=lV (by have:=st y (by simp [Op.operands,Call.operands]);rw [hy] at this;exact this)
 have h3:=lV (by have:=st z (by simp [Op.operands,Call.operands]);rw [hz] at this;exact this)
 refine ⟨.int k (max (max a b) e),?_, .d _ _ (.v _ rfl)⟩
 have q1 : ∀ a b:Int,(if a<b then b else a)=max a b:=fun a b=>by split <;> omega
 simp [execOp,resolve,invoke,builtin,h1,h2,h3,Builtin.max_,Builtin.max2,q1]
inductive aDq:List AV→List AV→Prop
 | nil:aDq [] []
 | same (a:AV) {as bs:List AV} (k:aDq as bs):aDq (a :: as) (a :: bs)
 | pre {cs ds:List DV} {as bs:List AV} (hp:Pre cs ds) (k:aDq as bs):aDq (.ref cs :: as) (.ref ds :: bs)
theorem aV5 {w:World} {F:Nat→Prop} {μ:cT} {hh:eB} {v:Value} {cs ds:List DV} (hp:Pre cs ds) (r:fC w F μ hh v (.ref cs)):fC w F μ hh v (.ref ds):=by
 have hp' : ∀ (j:Nat) (x:DV),ds[j]? = some x→cs[j]? = some x:=by
  cases aDl (h:=hh) hp with | ref _ _ q=>exact q
 cases r with | ref b off cs g hF hg hr=>exact .ref b off ds g hF (fun j x hx=>hg j x (hp' j x hx)) fun j x hx=>hr j x (hp' j x hx)
theorem aDq.spec {as bs:List AV} (p:aDq as bs):as.length=bs.length ∧ ∀ (i:Nat) b,bs[i]? = some b → ∃ a,as[i]? = some a∧(a=b ∨ ∃ cs ds,a = .ref cs∧b = .ref ds∧Pre cs ds):=by
 induction p with
 | nil=>exact ⟨rfl,fun i b h=>by simp at h⟩
 | same a k ih =>
  refine ⟨by simp [ih.1],fun i b h => ?_⟩
  cases i with
  | zero=>simp at h;exact ⟨a,by simp, .inl h⟩
  | succ i=>simpa using ih.2 i b (by simpa using h)
 | @pre cs ds as bs hp k ih =>
  refine ⟨by simp [ih.1],fun i b h => ?_⟩
  cases i with
  | zero=>simp at h;exact ⟨.ref cs,by simp, .inr ⟨cs,ds,rfl,h.symm,hp⟩⟩
  | succ i=>simpa using ih.2 i b (by simpa using h)
theorem vG {f:FuncId} {hin hout:List fT} {as as':List AV} {r:AV} (hF:FnC P f hin as hout r) (p:aDq as' as:=by repeat (first | exact aDq.nil | apply aDq.same | (apply aDq.pre (by repeat (first | exact Pre.z _ | apply Pre.t))))):FnC P f hin as' hout r:=by
 refine ⟨hF.c,fun w F μ vs gl H hs hr=>hF.g w F μ vs gl H (hs.trans p.spec.1) fun i v a hv ha => ?_⟩
 obtain ⟨a',h1,rfl | ⟨cs,ds,rfl,rfl,hp⟩⟩:=p.spec.2 i a ha
 ·exact hr i v _ hv h1
 ·exact aV5 hp (hr i v _ hv h1)
theorem pa {r:DV} (k:RA L P N ops is Q ⟨aC t d (.d r),h⟩) (ho:ops[i]? = some ⟨some d, .assign x,ty,pos,aft,none⟩:=by exact rfl) (hd:Nat.blt d N=true:=by exact rfl) (hx:evA N ⟨t,h⟩ x = .d r:=by exact rfl):RA L P N ops (i :: is) Q ⟨t,h⟩:=rp ho w0 hd (aR hx) k
theorem tpa {r:DV} (k:RT P N ops is (fun l σ'=>K ((i, .pu) :: l) σ') ⟨aC t d (.d r),h⟩) (ho:ops[i]? = some ⟨some d, .assign x,ty,pos,aft,none⟩:=by exact rfl) (hd:Nat.blt d N=true:=by exact rfl) (hx:evA N ⟨t,h⟩ x = .d r:=by exact rfl):RT P N ops (i :: is) K ⟨t,h⟩:=rF ho w0 hd (aR hx) k
theorem par {r:List DV} (k:RA L P N ops is Q ⟨aC t d (.ref r),h⟩) (ho:ops[i]? = some ⟨some d, .assign x,ty,pos,aft,none⟩:=by exact rfl) (hd:Nat.blt d N=true:=by exact rfl) (hx:evA N ⟨t,h⟩ x = .ref r:=by exact rfl):RA L P N ops (i :: is) Q ⟨t,h⟩:=rp ho w0 hd (aR hx) k
theorem pm {r:DV} (k:RA L P N ops is Q ⟨aC t d (.d r),h⟩) (ho:ops[i]? = some ⟨some d, .move x,ty,pos,aft,none⟩:=by exact rfl) (hd:Nat.blt d N=true:=by exact rfl) (hx:evA N ⟨t,h⟩ x = .d r:=by exact rfl):RA L P N ops (i :: is) Q ⟨t,h⟩:=rp ho w0 hd (aL hx) k
theorem tpm {r:DV} (k:RT P N ops is (fun l σ'=>K ((i, .pu) :: l) σ') ⟨aC t d (.d r),h⟩) (ho:ops[i]? = some ⟨some d, .move x,ty,pos,aft,none⟩:=by exact rfl) (hd:Nat.blt d N=true:=by exact rfl) (hx:evA N ⟨t,h⟩ x = .d r:=by exact rfl):RT P N ops (i :: is) K ⟨t,h⟩:=rF ho w0 hd (aL hx) k
theorem pmr {r:List DV} (k:RA L P N ops is Q ⟨aC t d (.ref r),h⟩) (ho:ops[i]? = some ⟨some d, .move x,ty,pos,aft,none⟩:=by exact rfl) (hd:Nat.blt d N=true:=by exact rfl) (hx:evA N ⟨t,h⟩ x = .ref r:=by exact rfl):RA L P N ops (i :: is) Q ⟨t,h⟩:=rp ho w0 hd (aL hx) k
theorem yQ {r:List DV} (k:RT P N ops is (fun l σ'=>K ((i, .pu) :: l) σ') ⟨aC t d (.ref r),h⟩) (ho:ops[i]? = some ⟨some d, .move x,ty,pos,aft,none⟩:=by exact rfl) (hd:Nat.blt d N=true:=by exact rfl) (hx:evA N ⟨t,h⟩ x = .ref r:=by exact rfl):RT P N ops (i :: is) K ⟨t,h⟩:=rF ho w0 hd (aL hx) k
theorem pkt {z:Operand} {r:DV} (k:RA L P N ops is Q ⟨aC t d (.d r),h⟩) (ho:ops[i]? = some ⟨some d, .pick z x y,ty,pos,aft,none⟩:=by exact rfl) (hd:Nat.blt d N=true:=by exact rfl) (hz:evA N ⟨t,h⟩ z = .d (.v (.bool true)):=by exact rfl) (hx:evA N ⟨t,h⟩ x = .d r:=by exact rfl):RA L P N ops (i :: is) Q ⟨t,h⟩:=rp ho w0 hd (aAr hz hx) k
theorem aBv {z:Operand} {r:DV} (k:RT P N ops is (fun l σ'=>K ((i, .pu) :: l) σ') ⟨aC t d (.d r),h⟩) (ho:ops[i]? = some ⟨some d, .pick z x y,ty,pos,aft,none⟩:=by exact rfl) (hd:Nat.blt d N=true:=by exact rfl) (hz:evA N ⟨t,h⟩ z = .d (.v (.bool true)):=by exact rfl) (hx:evA N ⟨t,h⟩ x = .d r:=by exact rfl):RT P N ops (i :: is) K ⟨t,h⟩:=rF ho w0 hd (aAr hz hx) k
theorem pkf {z:Operand} {r:DV} (k:RA L P N ops is Q ⟨aC t d (.d r),h⟩) (ho:ops[i]? = some ⟨some d, .pick z x y,ty,pos,aft,none⟩:=by exact rfl) (hd:Nat.blt d N=true:=by exact rfl) (hz:evA N ⟨t,h⟩ z = .d (.v (.bool false)):=by exact rfl) (hx:evA N ⟨t,h⟩ y = .d r:=by exact rfl):RA L P N ops (i :: is) Q ⟨t,h⟩:=rp ho w0 hd (aAq hz hx) k
theorem aBu {z:Operand} {r:DV} (k:RT P N ops is (fun l σ'=>K ((i, .pu) :: l) σ') ⟨aC t d (.d r),h⟩) (ho:ops[i]? = some ⟨some d, .pick z x y,ty,pos,aft,none⟩:=by exact rfl) (hd:Nat.blt d N=true:=by exact rfl) (hz:evA N ⟨t,h⟩ z = .d (.v (.bool false)):=by exact rfl) (hx:evA N ⟨t,h⟩ y = .d r:=by exact rfl):RT P N ops (i :: is) K ⟨t,h⟩:=rF ho w0 hd (aAq hz hx) k
theorem nr {r:List DV} (k:RA L P N ops is Q ⟨aC t d (.ref r),h⟩) (ho:ops[i]? = some ⟨some d, .nilCheck x,ty,pos,aft,none⟩:=by exact rfl) (hd:Nat.blt d N=true:=by exact rfl) (hx:evA N ⟨t,h⟩ x = .ref r:=by exact rfl):RA L P N ops (i :: is) Q ⟨t,h⟩:=rp ho w0 hd (yG hx) k
theorem tnr {r:List DV} (k:RT P N ops is (fun l σ'=>K ((i, .pu) :: l) σ') ⟨aC t d (.ref r),h⟩) (ho:ops[i]? = some ⟨some d, .nilCheck x,ty,pos,aft,none⟩:=by exact rfl) (hd:Nat.blt d N=true:=by exact rfl) (hx:evA N ⟨t,h⟩ x = .ref r:=by exact rfl):RT P N ops (i :: is) K ⟨t,h⟩:=rF ho w0 hd (yG hx) k
theorem fa (hT:TOk P T) {s bt:TypeId} {q kk e sz:Nat} {cells:List AV} {ti fi:TI} {fs:Array Field} {fld:Field} (k:RA L P N ops is Q ⟨aC t d (.ptr kk 0 1 0 (e+fld.offset)),h⟩) (ho:ops[i]? = some ⟨some d, .fieldAddr s x q,ty,pos,aft,none⟩:=by exact rfl) (hd:Nat.blt d N=true:=by exact rfl) (hx:evA N ⟨t,h⟩ x = .ptr kk 0 1 0 e:=by exact rfl) (h1:T s=some ti:=by exact rfl) (h2:ti.desc = .struct fs:=by exact rfl) (h3:fs[q]? = some fld:=by exact rfl) (h4:T fld.type=some fi:=by exact rfl) (h5:Nat.beq fi.size 0=false:=by exact rfl) (hk:h kk = .live [⟨bt,sz, .av [cells]⟩]:=by exact rfl):RA L P N ops (i :: is) Q ⟨t,h⟩:=rl ho w0 hd (yO hT hx h1 h2 h3 h4 h5 hk) k
theorem ld (hT:TOk P T) {lt bt:TypeId} {kk e sz:Nat} {cells:List AV} {c0:AV} {ti:TI} (k:RA L P N ops is Q ⟨aC t d c0,h⟩) (ho:ops[i]? = some ⟨some d, .load lt x,ty,pos,aft,none⟩:=by exact rfl) (hd:Nat.blt d N=true:=by exact rfl) (hx:evA N ⟨t,h⟩ x = .ptr kk 0 1 0 e:=by exact rfl) (h1:T lt=some ti:=by exact rfl) (h2:tZ ti.desc=false:=by exact rfl) (hk:h kk = .live [⟨bt,sz, .av [cells]⟩]:=by exact rfl) (hc:cells[e]? = some c0:=by exact rfl):RA L P N ops (i :: is) Q ⟨t,h⟩:=rl ho w0 hd (rG hT hx h1 h2 hk hc) k
theorem fr (hT:TOk P T) {s:TypeId} {q:Nat} {cs out:List DV} {ti fi:TI} {fs:Array Field} {fld:Field} (k:RA L P N ops is Q ⟨aC t d (.ref out),h⟩) (ho:ops[i]? = some ⟨some d, .fieldAddr s x q,ty,pos,aft,none⟩:=by exact rfl) (hd:Nat.blt d N=true:=by exact rfl) (hx:evA N ⟨t,h⟩ x = .ref cs:=by exact rfl) (h1:T s=some ti:=by exact rfl) (h2:ti.desc = .struct fs:=by exact rfl) (h3:fs[q]? = some fld:=by exact rfl) (h4:T fld.type=some fi:=by exact rfl) (h5:Nat.beq fi.size 0=false:=by exact rfl) (hp:Drp fld.offset cs out:=by repeat (first | exact Drp.z _ | apply Drp.d)):RA L P N ops (i :: is) Q ⟨t,h⟩:=rp ho w0 hd (mU hT hx h1 h2 h3 h4 h5 hp) k
theorem tfr (hT:TOk P T) {s:TypeId} {q:Nat} {cs out:List DV} {ti fi:TI} {fs:Array Field} {fld:Field} (k:RT P N ops is (fun l σ'=>K ((i, .pu) :: l) σ') ⟨aC t d (.ref out),h⟩) (ho:ops[i]? = some ⟨some d, .fieldAddr s x q,ty,pos,aft,none⟩:=by exact rfl) (hd:Nat.blt d N=true:=by exact rfl) (hx:evA N ⟨t,h⟩ x = .ref cs:=by exact rfl) (h1:T s=some ti:=by exact rfl) (h2:ti.desc = .struct fs:=by exact rfl) (h3:fs[q]? = some fld:=by exact rfl) (h4:T fld.type=some fi:=by exact rfl) (h5:Nat.beq fi.size 0=false:=by exact rfl) (hp:Drp fld.offset cs out:=by repeat (first | exact Drp.z _ | apply Drp.d)):RT P N ops (i :: is) K ⟨t,h⟩:=rF ho w0 hd (mU hT hx h1 h2 h3 h4 h5 hp) k
theorem lr (hT:TOk P T) {lt:TypeId} {cs:List DV} {c0:DV} {ti:TI} (k:RA L P N ops is Q ⟨aC t d (.d c0),h⟩) (ho:ops[i]? = some ⟨some d, .load lt x,ty,pos,aft,none⟩:=by exact rfl) (hd:Nat.blt d N=true:=by exact rfl) (hx:evA N ⟨t,h⟩ x = .ref cs:=by exact rfl) (h1:T lt=some ti:=by exact rfl) (h2:tZ ti.desc=false:=by exact rfl) (hc:cs[0]? = some c0:=by exact rfl):RA L P N ops (i :: is) Q ⟨t,h⟩:=rp ho w0 hd (tJ hT hx h1 h2 hc) k
theorem tlr (hT:TOk P T) {lt:TypeId} {cs:List DV} {c0:DV} {ti:TI} (k:RT P N ops is (fun l σ'=>K ((i, .pu) :: l) σ') ⟨aC t d (.d c0),h⟩) (ho:ops[i]? = some ⟨some d, .load lt x,ty,pos,aft,none⟩:=by exact rfl) (hd:Nat.blt d N=true:=by exact rfl) (hx:evA N ⟨t,h⟩ x = .ref cs:=by exact rfl) (h1:T lt=some ti:=by exact rfl) (h2:tZ ti.desc=false:=by exact rfl) (hc:cs[0]? = some c0:=by exact rfl):RT P N ops (i :: is) K ⟨t,h⟩:=rF ho w0 hd (tJ hT hx h1 h2 hc) k
theorem pm1 {j u:Nat} {b:Bool} {r:DV} (k:RA L P N ops is Q ⟨aC t d (.d r),h⟩) (ho:ops[i]? = some ⟨some d, .move x,ty,pos,aft,some (j,b)⟩:=by exact rfl) (hj:(ops[j]?).bind (·.dst)=some u:=by exact rfl) (hu:Nat.blt u N=true:=by exact rfl) (hb:t u = .d (.v (.bool b)):=by exact rfl) (hd:Nat.blt d N=true:=by exact rfl) (hx:evA N ⟨t,h⟩ x = .d r:=by exact rfl):RA L P N ops (i :: is) Q ⟨t,h⟩:=rp ho (w1 hj hu hb) hd (aL hx) k
theorem aIv {j u:Nat} {b:Bool} {r:DV} (k:RT P N ops is (fun l σ'=>K ((i, .pu) :: l) σ') ⟨aC t d (.d r),h⟩) (ho:ops[i]? = some ⟨some d, .move x,ty,pos,aft,some (j,b)⟩:=by exact rfl) (hj:(ops[j]?).bind (·.dst)=some u:=by exact rfl) (hu:Nat.blt u N=true:=by exact rfl) (hb:t u = .d (.v (.bool b)):=by exact rfl) (hd:Nat.blt d N=true:=by exact rfl) (hx:evA N ⟨t,h⟩ x = .d r:=by exact rfl):RT P N ops (i :: is) K ⟨t,h⟩:=rF ho (w1 hj hu hb) hd (aL hx) k
theorem aKc {j u:Nat} {b:Bool} {r:List DV} (k:RA L P N ops is Q ⟨aC t d (.ref r),h⟩) (ho:ops[i]? = some ⟨some d, .move x,ty,pos,aft,some (j,b)⟩:=by exact rfl) (hj:(ops[j]?).bind (·.dst)=some u:=by exact rfl) (hu:Nat.blt u N=true:=by exact rfl) (hb:t u = .d (.v (.bool b)):=by exact rfl) (hd:Nat.blt d N=true:=by exact rfl) (hx:evA N ⟨t,h⟩ x = .ref r:=by exact rfl):RA L P N ops (i :: is) Q ⟨t,h⟩:=rp ho (w1 hj hu hb) hd (aL hx) k
theorem aE8 {j u:Nat} {b:Bool} {r:List DV} (k:RT P N ops is (fun l σ'=>K ((i, .pu) :: l) σ') ⟨aC t d (.ref r),h⟩) (ho:ops[i]? = some ⟨some d, .move x,ty,pos,aft,some (j,b)⟩:=by exact rfl) (hj:(ops[j]?).bind (·.dst)=some u:=by exact rfl) (hu:Nat.blt u N=true:=by exact rfl) (hb:t u = .d (.v (.bool b)):=by exact rfl) (hd:Nat.blt d N=true:=by exact rfl) (hx:evA N ⟨t,h⟩ x = .ref r:=by exact rfl):RT P N ops (i :: is) K ⟨t,h⟩:=rF ho (w1 hj hu hb) hd (aL hx) k
theorem aYa {j u:Nat} {b:Bool} {z:Operand} {r:DV} (k:RA L P N ops is Q ⟨aC t d (.d r),h⟩) (ho:ops[i]? = some ⟨some d, .pick z x y,ty,pos,aft,some (j,b)⟩:=by exact rfl) (hj:(ops[j]?).bind (·.dst)=some u:=by exact rfl) (hu:Nat.blt u N=true:=by exact rfl) (hb:t u = .d (.v (.bool b)):=by exact rfl) (hd:Nat.blt d N=true:=by exact rfl) (hz:evA N ⟨t,h⟩ z = .d (.v (.bool true)):=by exact rfl) (hx:evA N ⟨t,h⟩ x = .d r:=by exact rfl):RA L P N ops (i :: is) Q ⟨t,h⟩:=rp ho (w1 hj hu hb) hd (aAr hz hx) k
theorem aYt {j u:Nat} {b:Bool} {z:Operand} {r:DV} (k:RT P N ops is (fun l σ'=>K ((i, .pu) :: l) σ') ⟨aC t d (.d r),h⟩) (ho:ops[i]? = some ⟨some d, .pick z x y,ty,pos,aft,some (j,b)⟩:=by exact rfl) (hj:(ops[j]?).bind (·.dst)=some u:=by exact rfl) (hu:Nat.blt u N=true:=by exact rfl) (hb:t u = .d (.v (.bool b)):=by exact rfl) (hd:Nat.blt d N=true:=by exact rfl) (hz:evA N ⟨t,h⟩ z = .d (.v (.bool true)):=by exact rfl) (hx:evA N ⟨t,h⟩ x = .d r:=by exact rfl):RT P N ops (i :: is) K ⟨t,h⟩:=rF ho (w1 hj hu hb) hd (aAr hz hx) k
theorem aV3 {j u:Nat} {b:Bool} {z:Operand} {r:DV} (k:RA L P N ops is Q ⟨aC t d (.d r),h⟩) (ho:ops[i]? = some ⟨some d, .pick z x y,ty,pos,aft,some (j,b)⟩:=by exact rfl) (hj:(ops[j]?).bind (·.dst)=some u:=by exact rfl) (hu:Nat.blt u N=true:=by exact rfl) (hb:t u = .d (.v (.bool b)):=by exact rfl) (hd:Nat.blt d N=true:=by exact rfl) (hz:evA N ⟨t,h⟩ z = .d (.v (.bool false)):=by exact rfl) (hx:evA N ⟨t,h⟩ y = .d r:=by exact rfl):RA L P N ops (i :: is) Q ⟨t,h⟩:=rp ho (w1 hj hu hb) hd (aAq hz hx) k
theorem aYs {j u:Nat} {b:Bool} {z:Operand} {r:DV} (k:RT P N ops is (fun l σ'=>K ((i, .pu) :: l) σ') ⟨aC t d (.d r),h⟩) (ho:ops[i]? = some ⟨some d, .pick z x y,ty,pos,aft,some (j,b)⟩:=by exact rfl) (hj:(ops[j]?).bind (·.dst)=some u:=by exact rfl) (hu:Nat.blt u N=true:=by exact rfl) (hb:t u = .d (.v (.bool b)):=by exact rfl) (hd:Nat.blt d N=true:=by exact rfl) (hz:evA N ⟨t,h⟩ z = .d (.v (.bool false)):=by exact rfl) (hx:evA N ⟨t,h⟩ y = .d r:=by exact rfl):RT P N ops (i :: is) K ⟨t,h⟩:=rF ho (w1 hj hu hb) hd (aAq hz hx) k
theorem nr1 {j u:Nat} {b:Bool} {r:List DV} (k:RA L P N ops is Q ⟨aC t d (.ref r),h⟩) (ho:ops[i]? = some ⟨some d, .nilCheck x,ty,pos,aft,some (j,b)⟩:=by exact rfl) (hj:(ops[j]?).bind (·.dst)=some u:=by exact rfl) (hu:Nat.blt u N=true:=by exact rfl) (hb:t u = .d (.v (.bool b)):=by exact rfl) (hd:Nat.blt d N=true:=by exact rfl) (hx:evA N ⟨t,h⟩ x = .ref r:=by exact rfl):RA L P N ops (i :: is) Q ⟨t,h⟩:=rp ho (w1 hj hu hb) hd (yG hx) k
theorem aSj {j u:Nat} {b:Bool} {r:List DV} (k:RT P N ops is (fun l σ'=>K ((i, .pu) :: l) σ') ⟨aC t d (.ref r),h⟩) (ho:ops[i]? = some ⟨some d, .nilCheck x,ty,pos,aft,some (j,b)⟩:=by exact rfl) (hj:(ops[j]?).bind (·.dst)=some u:=by exact rfl) (hu:Nat.blt u N=true:=by exact rfl) (hb:t u = .d (.v (.bool b)):=by exact rfl) (hd:Nat.blt d N=true:=by exact rfl) (hx:evA N ⟨t,h⟩ x = .ref r:=by exact rfl):RT P N ops (i :: is) K ⟨t,h⟩:=rF ho (w1 hj hu hb) hd (yG hx) k
theorem fa1 {j u:Nat} {b:Bool} (hT:TOk P T) {s bt:TypeId} {q kk e sz:Nat} {cells:List AV} {ti fi:TI} {fs:Array Field} {fld:Field} (k:RA L P N ops is Q ⟨aC t d (.ptr kk 0 1 0 (e+fld.offset)),h⟩) (ho:ops[i]? = some ⟨some d, .fieldAddr s x q,ty,pos,aft,some (j,b)⟩:=by exact rfl) (hj:(ops[j]?).bind (·.dst)=some u:=by exact rfl) (hu:Nat.blt u N=true:=by exact rfl) (hb:t u = .d (.v (.bool b)):=by exact rfl) (hd:Nat.blt d N=true:=by exact rfl) (hx:evA N ⟨t,h⟩ x = .ptr kk 0 1 0 e:=by exact rfl) (h1:T s=some ti:=by exact rfl) (h2:ti.desc = .struct fs:=by exact rfl) (h3:fs[q]? = some fld:=by exact rfl) (h4:T fld.type=some fi:=by exact rfl) (h5:Nat.beq fi.size 0=false:=by exact rfl) (hk:h kk = .live [⟨bt,sz, .av [cells]⟩]:=by exact rfl):RA L P N ops (i :: is) Q ⟨t,h⟩:=rl ho (w1 hj hu hb) hd (yO hT hx h1 h2 h3 h4 h5 hk) k
theorem ld1 {j u:Nat} {b:Bool} (hT:TOk P T) {lt bt:TypeId} {kk e sz:Nat} {cells:List AV} {c0:AV} {ti:TI} (k:RA L P N ops is Q ⟨aC t d c0,h⟩) (ho:ops[i]? = some ⟨some d, .load lt x,ty,pos,aft,some (j,b)⟩:=by exact rfl) (hj:(ops[j]?).bind (·.dst)=some u:=by exact rfl) (hu:Nat.blt u N=true:=by exact rfl) (hb:t u = .d (.v (.bool b)):=by exact rfl) (hd:Nat.blt d N=true:=by exact rfl) (hx:evA N ⟨t,h⟩ x = .ptr kk 0 1 0 e:=by exact rfl) (h1:T lt=some ti:=by exact rfl) (h2:tZ ti.desc=false:=by exact rfl) (hk:h kk = .live [⟨bt,sz, .av [cells]⟩]:=by exact rfl) (hc:cells[e]? = some c0:=by exact rfl):RA L P N ops (i :: is) Q ⟨t,h⟩:=rl ho (w1 hj hu hb) hd (rG hT hx h1 h2 hk hc) k
theorem fr1 {j u:Nat} {b:Bool} (hT:TOk P T) {s:TypeId} {q:Nat} {cs out:List DV} {ti fi:TI} {fs:Array Field} {fld:Field} (k:RA L P N ops is Q ⟨aC t d (.ref out),h⟩) (ho:ops[i]? = some ⟨some d, .fieldAddr s x q,ty,pos,aft,some (j,b)⟩:=by exact rfl) (hj:(ops[j]?).bind (·.dst)=some u:=by exact rfl) (hu:Nat.blt u N=true:=by exact rfl) (hb:t u = .d (.v (.bool b)):=by exact rfl) (hd:Nat.blt d N=true:=by exact rfl) (hx:evA N ⟨t,h⟩ x = .ref cs:=by exact rfl) (h1:T s=some ti:=by exact rfl) (h2:ti.desc = .struct fs:=by exact rfl) (h3:fs[q]? = some fld:=by exact rfl) (h4:T fld.type=some fi:=by exact rfl) (h5:Nat.beq fi.size 0=false:=by exact rfl) (hp:Drp fld.offset cs out:=by repeat (first | exact Drp.z _ | apply Drp.d)):RA L P N ops (i :: is) Q ⟨t,h⟩:=rp ho (w1 hj hu hb) hd (mU hT hx h1 h2 h3 h4 h5 hp) k
theorem aK9 {j u:Nat} {b:Bool} (hT:TOk P T) {s:TypeId} {q:Nat} {cs out:List DV} {ti fi:TI} {fs:Array Field} {fld:Field} (k:RT P N ops is (fun l σ'=>K ((i, .pu) :: l) σ') ⟨aC t d (.ref out),h⟩) (ho:ops[i]? = some ⟨some d, .fieldAddr s x q,ty,pos,aft,some (j,b)⟩:=by exact rfl) (hj:(ops[j]?).bind (·.dst)=some u:=by exact rfl) (hu:Nat.blt u N=true:=by exact rfl) (hb:t u = .d (.v (.bool b)):=by exact rfl) (hd:Nat.blt d N=true:=by exact rfl) (hx:evA N ⟨t,h⟩ x = .ref cs:=by exact rfl) (h1:T s=some ti:=by exact rfl) (h2:ti.desc = .struct fs:=by exact rfl) (h3:fs[q]? = some fld:=by exact rfl) (h4:T fld.type=some fi:=by exact rfl) (h5:Nat.beq fi.size 0=false:=by exact rfl) (hp:Drp fld.offset cs out:=by repeat (first | exact Drp.z _ | apply Drp.d)):RT P N ops (i :: is) K ⟨t,h⟩:=rF ho (w1 hj hu hb) hd (mU hT hx h1 h2 h3 h4 h5 hp) k
theorem lr1 {j u:Nat} {b:Bool} (hT:TOk P T) {lt:TypeId} {cs:List DV} {c0:DV} {ti:TI} (k:RA L P N ops is Q ⟨aC t d (.d c0),h⟩) (ho:ops[i]? = some ⟨some d, .load lt x,ty,pos,aft,some (j,b)⟩:=by exact rfl) (hj:(ops[j]?).bind (·.dst)=some u:=by exact rfl) (hu:Nat.blt u N=true:=by exact rfl) (hb:t u = .d (.v (.bool b)):=by exact rfl) (hd:Nat.blt d N=true:=by exact rfl) (hx:evA N ⟨t,h⟩ x = .ref cs:=by exact rfl) (h1:T lt=some ti:=by exact rfl) (h2:tZ ti.desc=false:=by exact rfl) (hc:cs[0]? = some c0:=by exact rfl):RA L P N ops (i :: is) Q ⟨t,h⟩:=rp ho (w1 hj hu hb) hd (tJ hT hx h1 h2 hc) k
theorem aOl {j u:Nat} {b:Bool} (hT:TOk P T) {lt:TypeId} {cs:List DV} {c0:DV} {ti:TI} (k:RT P N ops is (fun l σ'=>K ((i, .pu) :: l) σ') ⟨aC t d (.d c0),h⟩) (ho:ops[i]? = some ⟨some d, .load lt x,ty,pos,aft,some (j,b)⟩:=by exact rfl) (hj:(ops[j]?).bind (·.dst)=some u:=by exact rfl) (hu:Nat.blt u N=true:=by exact rfl) (hb:t u = .d (.v (.bool b)):=by exact rfl) (hd:Nat.blt d N=true:=by exact rfl) (hx:evA N ⟨t,h⟩ x = .ref cs:=by exact rfl) (h1:T lt=some ti:=by exact rfl) (h2:tZ ti.desc=false:=by exact rfl) (hc:cs[0]? = some c0:=by exact rfl):RT P N ops (i :: is) K ⟨t,h⟩:=rF ho (w1 hj hu hb) hd (tJ hT hx h1 h2 hc) k
theorem k1 {j u:Nat} {want:Bool} (k:RA L P N ops is Q ⟨aC t d (.tup []),h⟩) (ho:ops[i]? = some ⟨some d,op,ty,pos,aft,some (j,want)⟩:=by exact rfl) (hj:(ops[j]?).bind (·.dst)=some u:=by exact rfl) (hu:Nat.blt u N=true:=by exact rfl) (hb:t u = .d (.v (.bool !want))∨t u = .tup []:=by first | exact .inl rfl | exact .inr rfl) (hd:Nat.blt d N=true:=by exact rfl):RA L P N ops (i :: is) Q ⟨t,h⟩:=rk ho hj hu hb hd k
theorem k2 {j u:Nat} {want:Bool} (k:RT P N ops is (fun l σ'=>K ((i, .pu) :: l) σ') ⟨aC t d (.tup []),h⟩) (ho:ops[i]? = some ⟨some d,op,ty,pos,aft,some (j,want)⟩:=by exact rfl) (hj:(ops[j]?).bind (·.dst)=some u:=by exact rfl) (hu:Nat.blt u N=true:=by exact rfl) (hb:t u = .d (.v (.bool !want))∨t u = .tup []:=by first | exact .inl rfl | exact .inr rfl) (hd:Nat.blt d N=true:=by exact rfl):RT P N ops (i :: is) K ⟨t,h⟩:=aR1 ho hj hu hb hd k
theorem nx {K':AS→Prop} (k:K' σ):RA L P N ops [] (aFb K' Q) σ:=aY (aG k)
theorem sk {K':AS→Prop} (k:K' σ):AW L P N .skip (aFb K' Q) σ:=cX (aG k)
theorem sq {id:Nat} {c':Code} (is:List Nat) (k:RA L P N ops is (aFb (fun σ=>AW L P N c' Q σ) Q) σ) (his:List.range ops.size=is:=by exact rfl):AW L P N (.seq (.region id ops false) c') Q σ:=aB (cF his k)
theorem sr {id:Nat} (is:List Nat) (k:RA L P N ops is Q σ) (his:List.range ops.size=is:=by exact rfl):AW L P N (.region id ops false) Q σ:=cF his k
end
end Go.Proofs.YtceknlcbfomdhaaGreatDoor
namespace Go.Proofs.YtceknlcbfomdhaaGreatDoor
open Go.RowKit
set_option linter.unusedVariables false
set_option maxRecDepth 100000
theorem aJ9 {α:Type} {kf m:Nat} {c:α→List DV} {x:List α} {a:α}:(fA kf c x).set m (gR kf m (c a))=fA kf c (x.set m a):=by
 apply List.ext_getElem?
 intro i
 rw [lJ]
 by_cases e:i=m
 ·subst e
  by_cases hl:i<x.length
  ·rw [List.getElem?_set_self (by rw [jI];exact hl),List.getElem?_set_self hl];rfl
  ·rw [List.getElem?_eq_none (by simp [jI];omega),List.getElem?_eq_none (by simp;omega)];rfl
 ·rw [List.getElem?_set_ne (Ne.symm e),List.getElem?_set_ne (Ne.symm e),lJ]
theorem aQp {α:Type} {ft:TypeId} {fz m:Nat} {c:α→List DV} {x:List α} {a a':α} (he:x[m]? = some a) (hs:aF4 (c a')=aF4 (c a)):pC ft fz c (x.set m a')=pC ft fz c x:=by
 apply List.ext_getElem?
 intro i
 rw [vF,vF]
 by_cases e:i=m
 ·subst e
  have hl:=(List.getElem?_eq_some_iff.1 he).1
  rw [List.getElem?_set_self hl,he];simp [hs]
 ·rw [List.getElem?_set_ne (Ne.symm e)]
theorem aO8 {α:Type} {kf m:Nat} {c:α→List DV} {x:List α} {a a':α} (he:x[m]? = some a) (hs:gR kf m (c a')=gR kf m (c a)):fA kf c (x.set m a')=fA kf c x:=by
 rw [← aJ9]
 apply List.ext_getElem?
 intro i
 by_cases e:i=m
 ·subst e
  have hl:=(List.getElem?_eq_some_iff.1 he).1
  rw [List.getElem?_set_self (by rw [jI];exact hl),lJ,he,hs];rfl
 ·rw [List.getElem?_set_ne (Ne.symm e)]
theorem aTf {α:Type} {ft:TypeId} {fz m:Nat} {c:α→List DV} {x:List α} {a:α}:pC ft fz c (x.set m a)=(pC ft fz c x).set m ⟨ft,fz, .data (aF4 (c a))⟩:=by simp [pC,List.map_set]
theorem aU7 (h:eB) {k:Nat} {s:fT} (hk:h k=s):upd h k s=h:=by
 funext p
 by_cases e:p=k
 ·subst e;rw [dE,hk]
 ·rw [dZ _ _ e]
section
variable {E:Env} {F F':Nat→Prop} {μ μ':cT} {h h':eB} {w:World}
theorem iY.recast (H:iY E F μ h w) (f1 : ∀ b,F b→F' b) (f2 : ∀ b,F' b→F b ∨ ∃ k f o,lv h k f=some o∧μ k f=some b) (born : ∀ k,h k ≠ .no→h' k ≠ .no)
  (old : ∀ k f o',h k ≠ .no→lv h' k f=some o' → ∃ o,lv h k f=some o∧o.cs.len=o'.cs.len∧o.sz=o'.sz∧o.ty=o'.ty∧μ' k f=μ k f)
  (g:Nat→Nat→Nat × Nat) (gs : ∀ k f o' b,lv h' k f=some o'→μ' k f=some b → ∃ o,lv h (g k f).1 (g k f).2=some o∧μ (g k f).1 (g k f).2=some b)
  (gi : ∀ k f k2 f2 o o2,lv h' k f=some o→lv h' k2 f2=some o2→g k f=g k2 f2→k=k2∧f=f2)
  (sep : ∀ k f o' b,lv h' k f=some o'→μ' k f=some b → ¬ F' b)
  (ob:Evo w F μ h w F' μ' h' → ∀ k f o',lv h' k f=some o'→sZ w F' μ' h' (μ' k f) o'):iY E F' μ' h' w∧Evo w F μ h w F' μ' h':=by
 have V:Evo w F μ h w F' μ' h':=⟨fun _ _=>rfl,f1,born,fun k f o' hk ho'=>by
  obtain ⟨o,ho,a1,a2,a3,a4⟩:=old k f o' hk ho'
  exact ⟨o,ho, .inr ⟨a1,a2,a4,fun b cur hm hc=>⟨cur,by rw [← a3];exact hc,rfl⟩⟩⟩⟩
 refine ⟨⟨ob V,fun k f o k2 f2 o2 b l1 l2 m1 m2 => ?_,sep,fun k f o' b hl hm => ?_,fun b hb => ?_,fun b hb => ?_,H.ev.trans V,H.os,H.tape,H.output,H.size,H.keep⟩,V⟩
 ·obtain ⟨x1,y1,z1⟩:=gs _ _ _ _ l1 m1
  obtain ⟨x2,y2,z2⟩:=gs _ _ _ _ l2 m2
  have e:=H.inj _ _ _ _ _ _ b y1 y2 z1 z2
  exact gi _ _ _ _ _ _ l1 l2 (Prod.ext e.1 e.2)
 ·obtain ⟨x1,y1,z1⟩:=gs _ _ _ _ hl hm
  exact H.src _ _ _ b y1 z1
 ·rcases f2 b hb with h1 | ⟨k,f,o,h1,h2⟩
  ·exact H.fz b h1
  ·exact H.lt h1 h2
 ·rcases f2 b hb with h1 | ⟨k,f,o,h1,h2⟩
  ·exact H.fsrc b h1
  ·exact .inr (H.src _ _ _ b h1 h2)
end
section
variable {P:Program} {T:Tab} {L N:Nat} {ops:Array Oper} {E:Env} {K:List (Nat × Cls)→AS→Prop} {i:Nat} {is:List Nat} {t:Nat→AV} {h h':eB} {d:Tmp} {dst:Option Tmp} {op:Op} {ty:TypeId} {pos:String} {aft:Array Edge} {g:Option (Nat × Bool)} {Q:rQ→AS→Prop} {σ:AS} {c:Code} {x y:Operand}
theorem lv4 {k kf k2 kn:Nat} {s:fT} {G':List kC} {p f:Nat} {o:kC} (hl:lv (upd (upd (upd (upd h k s) kf .dead) k2 .dead) kn (.live G')) p f=some o) :
  (p=kn∧G'[f]? = some o)∨(p≠kn∧p≠k2∧p≠kf∧p=k∧lv (upd h k s) k f=some o)∨(p≠kn∧p≠k2∧p≠kf∧p≠k∧lv h p f=some o):=by
 by_cases e1:p=kn
 ·subst e1;rw [eC] at hl;exact .inl ⟨rfl,hl⟩
 ·rw [gA _ _ _ e1] at hl
  by_cases e2:p=k2
  ·subst e2;simp [lv,dE] at hl
  ·rw [gA _ _ _ e2] at hl
   by_cases e3:p=kf
   ·subst e3;simp [lv,dE] at hl
   ·rw [gA _ _ _ e3] at hl
    by_cases e4:p=k
    ·subst e4;exact .inr (.inl ⟨e1,e2,e3,rfl,hl⟩)
    ·rw [gA _ _ _ e4] at hl;exact .inr (.inr ⟨e1,e2,e3,e4,hl⟩)
theorem aLd {k kf k2 kn m:Nat} {bt:TypeId} {sz:Nat} {R R':List (List AV)} {G G':List kC} {o2:kC} (hk:h k = .live [⟨bt,sz, .av R⟩]) (hf:h kf = .live G) (h2:h k2 = .live [o2]) (hn:h kn = .no) (hkf:k≠kf) (hk2:k≠k2) (hkk:kf≠k2)
  (hG : ∀ (f:Nat) o,G'[f]? = some o→(f=m∧o=o2)∨(f≠m∧G[f]? = some o)) (hl:R'.length=R.length)
  (hR : ∀ (i:Nat) cells',R'[i]? = some cells' → ∃ cells,R[i]? = some cells∧cells'.length=cells.length ∧ ∀ (j:Nat) c',cells'[j]? = some c' → ∃ c,cells[j]? = some c∧(c=c'∨(∃ f n,f≠m∧c = .own kf f n∧c' = .own kn f n) ∨ ∃ n,c = .own k2 0 n∧c' = .own kn m n)) :
  mG L N ⟨t,h⟩ ⟨t,upd (upd (upd (upd h k (.live [⟨bt,sz, .av R'⟩])) kf .dead) k2 .dead) kn (.live G')⟩:=by
 rintro E a w ⟨F, μ,A⟩
 have H:=A.H
 dsimp only at H
 have n1:kn≠k:=fun e=>by rw [e,hk] at hn;cases hn
 have n2:kn≠kf:=fun e=>by rw [e,hf] at hn;cases hn
 have n3:kn≠k2:=fun e=>by rw [e,h2] at hn;cases hn
 have lk : ∀ {p f o},lv (upd h k (.live [⟨bt,sz, .av R'⟩])) k f=some o→p=k→f=0∧o=⟨bt,sz, .av R'⟩:=fun {p f o} hl _=>by
  rw [eC] at hl
  cases f with
  | zero=>simp at hl;exact ⟨rfl,hl.symm⟩
  | succ f=>simp at hl
 have hGs : ∀ {f:Nat} {o},G'[f]? = some o → ∃ o',lv h (if f=m then k2 else kf) (if f=m then 0 else f)=some o'∧o'=o:=fun {f o} hg=>by
  rcases hG f o hg with ⟨e,e2⟩ | ⟨e,e2⟩
  ·rw [if_pos e,if_pos e];exact ⟨o2,mZ h2,e2.symm⟩
  ·rw [if_neg e,if_neg e];exact ⟨o,(jU hf f).trans e2,rfl⟩
 let μ':cT:=fun p f=>if p=kn then μ (if f=m then k2 else kf) (if f=m then 0 else f) else μ p f
 have mkn : ∀ f, μ' kn f=μ (if f=m then k2 else kf) (if f=m then 0 else f):=fun f=>if_pos rfl
 have mne : ∀ {p} f,p≠kn→μ' p f=μ p f:=fun f e=>if_neg e
 have bornn : ∀ p,h p ≠ .no→upd (upd (upd (upd h k (.live [⟨bt,sz, .av R'⟩])) kf .dead) k2 .dead) kn (.live G') p ≠ .no:=fun p hp=>by
  by_cases e1:p=kn
  ·rw [e1,dE];intro e;cases e
  ·rw [dZ _ _ e1]
   by_cases e2:p=k2
   ·rw [e2,dE];intro e;cases e
   ·rw [dZ _ _ e2]
    by_cases e3:p=kf
    ·rw [e3,dE];intro e;cases e
    ·rw [dZ _ _ e3]
     by_cases e4:p=k
     ·rw [e4,dE];intro e;cases e
     ·rw [dZ _ _ e4];exact hp
 have bkn:upd (upd (upd (upd h k (.live [⟨bt,sz, .av R'⟩])) kf .dead) k2 .dead) kn (.live G') kn ≠ .no:=by rw [dE];intro e;cases e
 obtain ⟨H',V⟩:=H.recast (F':=F) (μ':=μ') (h':=upd (upd (upd (upd h k (.live [⟨bt,sz, .av R'⟩])) kf .dead) k2 .dead) kn (.live G')) (fun _ hb=>hb) (fun _ hb => .inl hb) bornn
  (fun p f o' hp ho'=>by
   rcases lv4 ho' with ⟨e,_⟩ | ⟨e1,_,_,e,hl⟩ | ⟨e1,_,_,_,hl⟩
   ·rw [e] at hp;exact absurd hn hp
   ·subst e
    obtain ⟨rfl,rfl⟩:=lk hl rfl
    exact ⟨_,mZ hk,by simp [cG.len, *],rfl,rfl,mne _ e1⟩
   ·exact ⟨o',hl,rfl,rfl,rfl,mne _ e1⟩)
  (fun p f=>if p=kn then (if f=m then k2 else kf,if f=m then 0 else f) else (p,f))
  (fun p f o' b ho' hm=>by
   rcases lv4 ho' with ⟨e,hl⟩ | ⟨e1,_,_,e,hl⟩ | ⟨e1,_,_,_,hl⟩
   ·subst e
    rw [mkn] at hm
    obtain ⟨o,ho,_⟩:=hGs hl
    simp only [if_pos]
    exact ⟨o,ho,hm⟩
   ·subst e
    obtain ⟨rfl,rfl⟩:=lk hl rfl
    rw [mne _ e1] at hm
    simp only [if_neg e1]
    exact ⟨_,mZ hk,hm⟩
   ·rw [mne _ e1] at hm
    simp only [if_neg e1]
    exact ⟨o',hl,hm⟩)
  (fun p f p2 f2 o oo l1 l2=>by
   have d1:=lv4 l1
   have d2:=lv4 l2
   have c1:p≠kn→p≠k2∧p≠kf:=fun e=>by rcases d1 with ⟨e',_⟩ | ⟨_,a,b,_⟩ | ⟨_,a,b,_⟩ <;> first | exact absurd e' e | exact ⟨a,b⟩
   have c2:p2≠kn→p2≠k2∧p2≠kf:=fun e=>by rcases d2 with ⟨e',_⟩ | ⟨_,a,b,_⟩ | ⟨_,a,b,_⟩ <;> first | exact absurd e' e | exact ⟨a,b⟩
   intro e
   by_cases q1:p=kn <;> by_cases q2:p2=kn
   ·rw [if_pos q1,if_pos q2] at e
    refine ⟨q1.trans q2.symm,?_⟩
    by_cases r1:f=m <;> by_cases r2:f2=m
    ·rw [r1,r2]
    ·rw [if_pos r1,if_neg r2] at e;exact absurd (Prod.ext_iff.1 e).1.symm hkk
    ·rw [if_neg r1,if_pos r2] at e;exact absurd (Prod.ext_iff.1 e).1 hkk
    ·simp only [if_neg r1,if_neg r2] at e;exact (Prod.ext_iff.1 e).2
   ·rw [if_pos q1,if_neg q2] at e
    have:=(Prod.ext_iff.1 e).1
    simp only at this
    obtain ⟨a,b⟩:=c2 q2
    split at this
    ·exact absurd this.symm a
    ·exact absurd this.symm b
   ·rw [if_neg q1,if_pos q2] at e
    have:=(Prod.ext_iff.1 e).1
    simp only at this
    obtain ⟨a,b⟩:=c1 q1
    split at this
    ·exact absurd this a
    ·exact absurd this b
   ·rw [if_neg q1,if_neg q2] at e
    exact ⟨(Prod.ext_iff.1 e).1,(Prod.ext_iff.1 e).2⟩)
  (fun p f o' b ho' hm=>by
   rcases lv4 ho' with ⟨e,hl⟩ | ⟨e1,_,_,e,hl⟩ | ⟨e1,_,_,_,hl⟩
   ·subst e
    rw [mkn] at hm
    obtain ⟨o,ho,_⟩:=hGs hl
    exact H.sep _ _ _ b ho hm
   ·subst e
    obtain ⟨rfl,rfl⟩:=lk hl rfl
    rw [mne _ e1] at hm
    exact H.sep _ _ _ b (mZ hk) hm
   ·rw [mne _ e1] at hm
    exact H.sep _ _ _ b hl hm)
  (fun V p f o' ho'=>by
   rcases lv4 ho' with ⟨e,hl⟩ | ⟨e1,_,_,e,hl⟩ | ⟨e1,_,_,_,hl⟩
   ·subst e
    rw [mkn]
    obtain ⟨o,ho,rfl⟩:=hGs hl
    exact (H.ob _ _ _ ho).evo V fun _ _=>rfl
   ·subst e
    obtain ⟨rfl,rfl⟩:=lk hl rfl
    rw [mne _ e1]
    rcases H.ob p 0 _ (mZ hk) with ⟨q1,q2⟩ | ⟨b,cur,q1,q2,q3⟩
    ·exact .inl ⟨q1,by simpa [cG.len, *] using q2⟩
    ·refine .inr ⟨b,cur,q1,q2,fun i cells' hi => ?_⟩
     obtain ⟨cells,r1,r2,r3⟩:=hR i cells' hi
     obtain ⟨s1,s2⟩:=q3 i cells r1
     refine ⟨r2.trans s1,fun j c' hj => ?_⟩
     obtain ⟨c,hc,hcc⟩:=r3 j c' hj
     obtain ⟨u,hu,hr⟩:=s2 j c hc
     refine ⟨u,hu,?_⟩
     rcases hcc with rfl | ⟨f,n,hfm,rfl,rfl⟩ | ⟨n,rfl,rfl⟩
     ·exact hr.evo V
     ·cases hr with | own _ _ _ _ g1 gb hv =>
      refine .own _ _ _ _ g1 bkn fun o ho => ?_
      rw [eC] at ho
      rcases hG f o ho with ⟨e,_⟩ | ⟨_,e⟩
      ·exact absurd e hfm
      ·rw [mkn,if_neg hfm,if_neg hfm]
       exact hv o ((jU hf f).trans e)
     ·cases hr with | own _ _ _ _ g1 gb hv =>
      refine .own _ _ _ _ g1 bkn fun o ho => ?_
      rw [eC] at ho
      rcases hG m o ho with ⟨_,e⟩ | ⟨e,_⟩
      ·rw [mkn,if_pos rfl,if_pos rfl,e]
       exact hv o2 (mZ h2)
      ·exact absurd rfl e
   ·rw [mne _ e1]
    exact (H.ob _ _ _ hl).evo V fun _ _=>rfl)
 exact ⟨F, μ',H',A.df,A.sz,fun d hd=>(A.tm d hd).evo V,A.lim⟩
inductive aNi (kf i:Nat):List AV→List DV→Prop
 | nil:aNi kf i [] []
 | v {x:Value} {cs:List AV} {ds:List DV} (q:aNi kf i cs ds):aNi kf i (.d (.v x) :: cs) (.v x :: ds)
 | sl {n:Nat} {es:List (List DV)} {cs:List AV} {ds:List DV} (hn:n=es.length) (q:aNi kf i cs ds):aNi kf i (.own kf i n :: cs) (.sl es :: ds)
theorem aNi.eq_ {kf i:Nat} {cs:List AV} {ds:List DV} (q:aNi kf i cs ds):cs=gR kf i ds:=by
 induction q with
 | nil=>rfl
 | v q ih=>simp [gR,ih]
 | sl hn q ih=>simp [gR,ih,hn]
theorem aI4 {α:Type} {kf kn k2 m i:Nat} {c:α→List DV} {a:α} (hi:i≠m) : ∀ (j:Nat) c',(gR kn i (c a))[j]? = some c' → ∃ c0,(gR kf i (c a))[j]? = some c0∧(c0=c'∨(∃ f n,f≠m∧c0 = .own kf f n∧c' = .own kn f n) ∨ ∃ n,c0 = .own k2 0 n∧c' = .own kn m n):=fun j c' hj=>by
 rw [oI] at hj
 obtain ⟨x,hx,rfl⟩:=Option.map_eq_some_iff.1 hj
 refine ⟨aMb kf i x,by rw [oI,hx];rfl,?_⟩
 cases x with
 | v x=>exact .inl rfl
 | sl es=>exact .inr (.inl ⟨i,es.length,hi,rfl,rfl⟩)
 | mp f=>exact .inl rfl
theorem aOq {α:Type} {kf kn k2 m:Nat} {c:α→List DV} {a:α} : ∀ (j:Nat) c',(gR kn m (c a))[j]? = some c' → ∃ c0,(gR k2 0 (c a))[j]? = some c0∧(c0=c'∨(∃ f n,f≠m∧c0 = .own kf f n∧c' = .own kn f n) ∨ ∃ n,c0 = .own k2 0 n∧c' = .own kn m n):=fun j c' hj=>by
 rw [oI] at hj
 obtain ⟨x,hx,rfl⟩:=Option.map_eq_some_iff.1 hj
 refine ⟨aMb k2 0 x,by rw [oI,hx];rfl,?_⟩
 cases x with
 | v x=>exact .inl rfl
 | sl es=>exact .inr (.inr ⟨es.length,rfl,rfl⟩)
 | mp f=>exact .inl rfl
theorem aF8 {α:Type} (kn:Nat) {k kf k2:Nat} {bt ft ft2:TypeId} {sz fz fz2:Nat} {c:α→List DV} {xs:List α} (a:α) {cs:List AV} {es2:List (List DV)} (hk:h k = .live [⟨bt,sz, .av (fA kf c xs++[cs])⟩]) (hf:h kf = .live (pC ft fz c xs)) (h2:h k2 = .live [⟨ft2,fz2, .data es2⟩]) (hn:h kn = .no)
  (hkf:Nat.beq k kf=false) (hk2:Nat.beq k k2=false) (hkk:Nat.beq kf k2=false) (hcs:aNi k2 0 cs (c a)) (hes:es2=aF4 (c a)) (hft:ft2=ft) (hfz:fz2=fz) :
  mG L N ⟨t,h⟩ ⟨t,upd (upd (upd (upd h k (.live [⟨bt,sz, .av (fA kn c (xs++[a]))⟩])) kf .dead) k2 .dead) kn (.live (pC ft fz c (xs++[a])))⟩:=by
 subst hft hfz hes
 rw [hcs.eq_] at hk
 have split : ∀ (i:Nat) (b:α),(xs++[a])[i]? = some b→(i=xs.length∧b=a)∨(i≠xs.length∧xs[i]? = some b):=fun i b hb=>by
  rcases Nat.lt_or_ge i xs.length with hlt | hge
  ·rw [List.getElem?_append_left hlt] at hb;exact .inr ⟨by omega,hb⟩
  ·rw [List.getElem?_append_right hge] at hb
   cases e:i-xs.length with
   | zero=>rw [e] at hb;simp at hb;exact .inl ⟨by omega,hb.symm⟩
   | succ q=>rw [e] at hb;simp at hb
 refine aLd (m:=xs.length) hk hf h2 hn (Nat.ne_of_beq_eq_false hkf) (Nat.ne_of_beq_eq_false hk2) (Nat.ne_of_beq_eq_false hkk) (fun f o ho => ?_) (by simp [jI]) fun i cells' hi => ?_
 ·rw [vF] at ho
  obtain ⟨b,hb,rfl⟩:=Option.map_eq_some_iff.1 ho
  rcases split f b hb with ⟨e,rfl⟩ | ⟨e,hb⟩
  ·exact .inl ⟨e,rfl⟩
  ·exact .inr ⟨e,by rw [vF,hb];rfl⟩
 ·rw [lJ] at hi
  obtain ⟨b,hb,rfl⟩:=Option.map_eq_some_iff.1 hi
  rcases split i b hb with ⟨rfl,rfl⟩ | ⟨e,hb⟩
  ·exact ⟨gR k2 0 (c b),by rw [List.getElem?_append_right (by rw [jI];exact Nat.le_refl _),jI];simp,by rw [oJ,oJ],aOq⟩
  ·have hlt:=(List.getElem?_eq_some_iff.1 hb).1
   exact ⟨gR kf i (c b),by rw [List.getElem?_append_left (by rw [jI];exact hlt),lJ,hb];rfl,by rw [oJ,oJ],aI4 e⟩
end
end Go.Proofs.YtceknlcbfomdhaaGreatDoor
namespace Go.Proofs.YtceknlcbfomdhaaGreatDoor
open Go.RowKit
set_option linter.unusedVariables false
set_option maxRecDepth 100000
section
variable {E:Env} {F F':Nat→Prop} {μ μ':cT} {h h':eB} {w:World}
theorem aT6 (H:iY E F μ h w) {k f n:Nat} {v:Value} {o:kC} {es:List (List DV)} (r:fC w F μ h v (.own k f n)) (ho:lv h k f=some o) (hc:o.cs = .data es) (hn:n=es.length) (hF : ∀ b,F b→F' b) (hb : ∀ b, μ k f=some b→F' b):aDo w F' v (.sl es):=by
 cases r with | own _ _ _ _ h1 hbn hv =>
 have hlen:o.cs.len=es.length:=by rw [hc];rfl
 rcases (hv o ho).2 (by rw [hlen,hn]) with ⟨q1,q2,q3⟩ | ⟨b,c,cur,q1,q2,q3,q4,q5,q6⟩
 ·subst q3
  have:es=[]:=List.eq_nil_of_length_eq_zero (by omega)
  subst this
  exact .nil
 ·subst q2
  rcases H.ob k f o ho with ⟨g1,_⟩ | ⟨b',cur',g1,g2,g3⟩
  ·rw [q1] at g1;cases g1
  ·rw [q1] at g1
   injection g1 with g1
   subst g1
   rw [q3] at g2
   injection g2 with g2
   injection g2 with g2
   subst g2
   have cellAt : ∀ (i:Nat) (e:List DV) (j:Nat) (x:DV),es[i]? = some e→e[j]? = some x → ∃ u,cur[i*o.sz+j]? = some u∧fC w F μ h u (.d x):=fun i e j x he hx =>
    (g3 i (e.map .d) (by rw [hc];simp [cG.get,he])).2 j (.d x) (by simp [hx])
   rw [hn]
   refine .sl b 0 c o.sz es (fun i j=>cur.getD (i*o.sz+j) undef) (hb b q1) (by omega) q6 (fun i e he => ?_) (fun i e j x he hx => ?_) (fun i e j x he hx => ?_)
   ·have:=(g3 i (e.map .d) (by rw [hc];simp [cG.get,he])).1
    simpa using this
   ·obtain ⟨u,hu,_⟩:=cellAt i e j x he hx
    rw [Nat.zero_add,cell_of_row w b _ cur o.ty (0,0) q3,hu]
    simp [hu]
   ·obtain ⟨u,hu,hr⟩:=cellAt i e j x he hx
    have e1:cur.getD (i*o.sz+j) undef=u:=by simp [hu]
    rw [e1]
    cases hr with | d _ _ hd=>exact hd.mono (fun _ _=>rfl) hF
theorem lv2 {k kf:Nat} {o0:kC} {s:fT} {p f:Nat} {o:kC} (hne:k≠kf) (hl:lv (upd (upd h k (.live [o0])) kf s) p f=some o):(p=kf∧lv (upd (upd h k (.live [o0])) kf s) kf f=some o)∨(p≠kf∧p=k∧f=0∧o=o0)∨(p≠kf∧p≠k∧lv h p f=some o):=by
 by_cases e1:p=kf
 ·subst e1;exact .inl ⟨rfl,hl⟩
 ·rw [gA _ _ _ e1] at hl
  by_cases e2:p=k
  ·subst e2
   rw [eC] at hl
   cases f with
   | zero=>simp at hl;exact .inr (.inl ⟨e1,rfl,rfl,hl.symm⟩)
   | succ f=>simp at hl
  ·rw [gA _ _ _ e2] at hl;exact .inr (.inr ⟨e1,e2,hl⟩)
theorem aW3 {k kf:Nat} {s s':fT} (h1:s ≠ .no) (h2:s' ≠ .no) : ∀ p,h p ≠ .no→upd (upd h k s) kf s' p ≠ .no:=fun p hp=>by
 by_cases e1:p=kf
 ·rw [e1,dE];exact h2
 ·rw [dZ _ _ e1]
  by_cases e2:p=k
  ·rw [e2,dE];exact h1
  ·rw [dZ _ _ e2];exact hp
inductive aU8:List AV→List DV→Prop
 | nil:aU8 [] []
 | v {x:Value} {cs:List AV} {ds:List DV} (q:aU8 cs ds):aU8 (.d (.v x) :: cs) (.v x :: ds)
 | nl {cs:List AV} {ds:List DV} (q:aU8 cs ds):aU8 (.d (.v (.slice none 0 0)) :: cs) (.sl [] :: ds)
theorem aU8.spec {cs:List AV} {ds:List DV} (q:aU8 cs ds):cs.length=ds.length∧aF4 ds=[] ∧ ∀ (j:Nat) x,ds[j]? = some x→(∃ v,x = .v v∧cs[j]? = some (.d (.v v)))∨(x = .sl []∧cs[j]? = some (.d (.v (.slice none 0 0)))):=by
 induction q with
 | nil=>exact ⟨rfl,rfl,fun j x h=>by simp at h⟩
 | v q ih =>
  refine ⟨by simp [ih.1],by simpa [aF4] using ih.2.1,fun j x h => ?_⟩
  cases j with
  | zero=>simp at h;exact .inl ⟨_,h.symm,rfl⟩
  | succ j=>exact ih.2.2 j x (by simpa using h)
 | nl q ih =>
  refine ⟨by simp [ih.1],rfl,fun j x h => ?_⟩
  cases j with
  | zero=>simp at h;exact .inr ⟨h.symm,rfl⟩
  | succ j=>exact ih.2.2 j x (by simpa using h)
theorem sZ.dat {p:Option Nat} {ft:TypeId} {fz:Nat} {es:List (List DV)} {μ2:cT} {h2:eB} (r:sZ w F μ h p ⟨ft,fz, .data es⟩):sZ w F μ2 h2 p ⟨ft,fz, .data es⟩:=by
 rcases r with r | ⟨b,cur,h1,h2,h3⟩
 ·exact .inl r
 ·refine .inr ⟨b,cur,h1,h2,fun i cells hi=>⟨(h3 i cells hi).1,fun j c hj => ?_⟩⟩
  obtain ⟨u,hu,hr⟩:=(h3 i cells hi).2 j c hj
  refine ⟨u,hu,?_⟩
  simp only [cG.get] at hi
  obtain ⟨e,he,rfl⟩:=Option.map_eq_some_iff.1 hi
  rw [List.getElem?_map] at hj
  obtain ⟨x,hx,rfl⟩:=Option.map_eq_some_iff.1 hj
  cases hr with | d _ _ hd=>exact .d _ _ hd
theorem iY.joinF {gl:aFc F w} (H:iY E F μ h w) {F1:Nat→Prop} {μ1:cT} {w1:World} {kf m:Nat} {L0:List kC} {ft:TypeId} {fz:Nat} {es es':List (List DV)} (hk:h kf = .live L0) (hm:L0[m]? = some ⟨ft,fz, .data es⟩)
  (H1:iY ⟨w,F,fun p f=>if p=0∧f=0 then μ kf m else none,lks [.live [⟨ft,fz, .data es⟩]],gl⟩ F1 μ1 (lks [.live [⟨ft,fz, .data es'⟩]]) w1) :
  iY E F1 (aIw μ kf m (μ1 0 0)) (upd h kf (.live (L0.set m ⟨ft,fz, .data es'⟩))) w1∧Evo w F μ h w1 F1 (aIw μ kf m (μ1 0 0)) (upd h kf (.live (L0.set m ⟨ft,fz, .data es'⟩))):=by
 have hml:m<L0.length:=(List.getElem?_eq_some_iff.1 hm).1
 have hlo:lv h kf m=some ⟨ft,fz, .data es⟩:=(jU hk m).trans hm
 have lo1:lv (lks [.live [⟨ft,fz, .data es'⟩]]) 0 0=some ⟨ft,fz, .data es'⟩:=rfl
 have own : ∀ {b},Env.O0 ⟨w,F,fun p f=>if p=0∧f=0 then μ kf m else none,lks [.live [⟨ft,fz, .data es⟩]],gl⟩ b→μ kf m=some b:=fun {b} ⟨p,f,o,hl,hb⟩=>by
  dsimp only at hb
  split at hb
  ·exact hb
  ·cases hb
 have look : ∀ {p f o},lv (upd h kf (.live (L0.set m ⟨ft,fz, .data es'⟩))) p f=some o→(p=kf∧f=m∧o=⟨ft,fz, .data es'⟩)∨(¬ (p=kf∧f=m)∧lv h p f=some o):=fun {p f o} hl=>by
  by_cases e:p=kf
  ·subst e
   rw [eC] at hl
   by_cases e2:f=m
   ·subst e2
    rw [List.getElem?_set_self hml] at hl
    injection hl with hl
    exact .inl ⟨rfl,rfl,hl.symm⟩
   ·rw [List.getElem?_set_ne (Ne.symm e2)] at hl
    exact .inr ⟨fun ⟨_,q⟩=>e2 q,(jU hk f).trans hl⟩
  ·rw [gA _ _ _ e] at hl;exact .inr ⟨fun ⟨q,_⟩=>e q,hl⟩
 have stay : ∀ {p f o b}, ¬ (p=kf∧f=m)→lv h p f=some o→μ p f=some b→w1.heap[b]? = w.heap[b]? := fun hne hl hb =>
  H1.keep _ (H.lt hl hb) fun hO=>hne (H.inj _ _ _ _ _ _ _ hl hlo hb (own hO))
 have V:Evo w F μ h w1 F1 (aIw μ kf m (μ1 0 0)) (upd h kf (.live (L0.set m ⟨ft,fz, .data es'⟩))):=by
  refine ⟨H1.ev.fr,H1.ev.fs,fun p hp => ?_,fun p f o' hp ho' => ?_⟩
  ·by_cases e:p=kf
   ·subst e;rw [dE];intro e;cases e
   ·rw [dZ _ _ e];exact hp
  ·rcases look ho' with ⟨rfl,rfl,rfl⟩ | ⟨hne,hl⟩
   ·obtain ⟨o,ho,hx⟩:=H1.ev.live 0 0 _ (fun e=>by cases e) lo1
    have:o=⟨ft,fz, .data es⟩:=by
     have h5:some (⟨ft,fz, .data es⟩:kC)=some o:=ho
     injection h5 with h5;exact h5.symm
    subst this
    refine ⟨_,hlo,?_⟩
    rw [dV]
    simpa using hx
   ·exact ⟨o',hl, .inr ⟨rfl,rfl,kB _ _ hne,fun b cur hb hc=>⟨cur,by rw [stay hne hl hb];exact hc,rfl⟩⟩⟩
 refine ⟨⟨fun p f o hl => ?_,fun p f o p2 f2 o2 b l1 l2 m1 m2 => ?_,fun p f o b hl hb => ?_,fun p f o b hl hb => ?_,H1.fz,fun b hb => ?_,H.ev.trans V,H1.os.trans H.os,H1.tape.trans H.tape,H1.output.trans H.output,Nat.le_trans H.size H1.size,fun b hb1 hb2 => ?_⟩,V⟩
 ·rcases look hl with ⟨rfl,rfl,rfl⟩ | ⟨hne,hl⟩
  ·rw [dV];exact (H1.ob 0 0 _ lo1).dat
  ·rw [kB _ _ hne];exact (H.ob p f o hl).evo V fun b hb=>stay hne hl hb
 ·have mix : ∀ {q g oo}, ¬ (q=kf∧g=m)→lv h q g=some oo→μ q g=some b→μ1 0 0=some b→False:=fun hne hl hb hb1=>by
   rcases H1.src 0 0 _ b lo1 hb1 with hs | hs
   ·exact hne (H.inj _ _ _ _ _ _ b hl hlo hb (own hs))
   ·have:=H.lt hl hb;have hs:w.heap.size≤b:=hs;omega
  rcases look l1 with ⟨rfl,rfl,_⟩ | ⟨n1,r1⟩ <;> rcases look l2 with ⟨rfl,rfl,_⟩ | ⟨n2,r2⟩
  ·exact ⟨rfl,rfl⟩
  ·rw [dV] at m1;rw [kB _ _ n2] at m2;exact (mix n2 r2 m2 m1).elim
  ·rw [dV] at m2;rw [kB _ _ n1] at m1;exact (mix n1 r1 m1 m2).elim
  ·rw [kB _ _ n1] at m1;rw [kB _ _ n2] at m2;exact H.inj _ _ _ _ _ _ b r1 r2 m1 m2
 ·rcases look hl with ⟨rfl,rfl,rfl⟩ | ⟨hne,hl⟩
  ·rw [dV] at hb;exact H1.sep 0 0 _ b lo1 hb
  ·rw [kB _ _ hne] at hb
   intro hF
   rcases H1.fsrc b hF with hs | hs | hs
   ·exact H.sep _ _ _ b hl hb hs
   ·exact hne (H.inj _ _ _ _ _ _ b hl hlo hb (own hs))
   ·have:=H.lt hl hb;have hs:w.heap.size≤b:=hs;omega
 ·rcases look hl with ⟨rfl,rfl,rfl⟩ | ⟨hne,hl⟩
  ·rw [dV] at hb
   rcases H1.src 0 0 _ b lo1 hb with hs | hs
   ·exact H.src _ _ _ b hlo (own hs)
   ·have:=H.size;have hs:w.heap.size≤b:=hs;exact .inr (by omega)
  ·rw [kB _ _ hne] at hb;exact H.src _ _ _ b hl hb
 ·rcases H1.fsrc b hb with hs | hs | hs
  ·exact H.fsrc b hs
  ·exact .inr (H.src _ _ _ b hlo (own hs))
  ·have:=H.size;have hs:w.heap.size≤b:=hs;exact .inr (.inr (by omega))
 ·have:=H.size
  refine (H1.keep b (show b<w.heap.size by omega) fun hO => ?_).trans (H.keep b hb1 hb2)
  rcases H.src _ _ _ b hlo (own hO) with hs | hs
  ·exact hb2 hs
  ·omega
end
section
variable {P:Program} {T:Tab} {L N:Nat} {ops:Array Oper} {E:Env} {K:List (Nat × Cls)→AS→Prop} {i:Nat} {is:List Nat} {t:Nat→AV} {h h':eB} {d:Tmp} {dst:Option Tmp} {op:Op} {ty:TypeId} {pos:String} {aft:Array Edge} {g:Option (Nat × Bool)} {Q:rQ→AS→Prop} {σ:AS} {x y:Operand}
theorem vB {α:Type} {k kf:Nat} {bt ft:TypeId} {sz fz:Nat} {c:α→List DV} {xs:List α} (hk:h k = .live [⟨bt,sz, .av (fA kf c xs)⟩]) (hf:h kf = .live (pC ft fz c xs)) (hone : ∀ a,xQ (c a)=1) (hne:Nat.beq k kf=false) :
  mG L N ⟨t,h⟩ ⟨t,upd (upd h k (.live [⟨bt,sz, .data (xs.map c)⟩])) kf .dead⟩:=by
 rintro E a w ⟨F, μ,A⟩
 have H:=A.H
 dsimp only at H
 have hne:=Nat.ne_of_beq_eq_false hne
 have look : ∀ {p f o},lv (upd (upd h k (.live [⟨bt,sz, .data (xs.map c)⟩])) kf .dead) p f=some o→(p≠kf∧p=k∧f=0∧o=⟨bt,sz, .data (xs.map c)⟩)∨(p≠kf∧p≠k∧lv h p f=some o):=fun {p f o} hl=>by
  rcases lv2 hne hl with ⟨rfl,hl⟩ | q | q
  ·simp [lv,dE] at hl
  ·exact .inl q
  ·exact .inr q
 obtain ⟨H',V⟩:=H.recast (F':=fun b=>F b ∨ ∃ f o,lv h kf f=some o∧μ kf f=some b) (μ':=μ) (h':=upd (upd h k (.live [⟨bt,sz, .data (xs.map c)⟩])) kf .dead) (fun _ => .inl) (fun b hb=>hb.imp id fun ⟨f,o,q1,q2⟩=>⟨kf,f,o,q1,q2⟩) (aW3 (by simp) (by simp))
  (fun p f o' hp ho'=>by
   rcases look ho' with ⟨e1,rfl,rfl,rfl⟩ | ⟨e1,e2,hl⟩
   ·exact ⟨_,mZ hk,by simp [cG.len,jI],rfl,rfl,rfl⟩
   ·exact ⟨o',hl,rfl,rfl,rfl,rfl⟩)
  (fun p f=>(p,f))
  (fun p f o' b ho' hm=>by
   rcases look ho' with ⟨e1,rfl,rfl,rfl⟩ | ⟨e1,e2,hl⟩
   ·exact ⟨_,mZ hk,hm⟩
   ·exact ⟨o',hl,hm⟩)
  (fun p f p2 f2 o oo l1 l2 e=>⟨(Prod.ext_iff.1 e).1,(Prod.ext_iff.1 e).2⟩)
  (fun p f o' b ho' hm hF=>by
   obtain ⟨o1,ho1,e1⟩ : ∃ o1,lv h p f=some o1∧p≠kf:=by
    rcases look ho' with ⟨e1,rfl,rfl,rfl⟩ | ⟨e1,e2,hl⟩
    ·exact ⟨_,mZ hk,e1⟩
    ·exact ⟨o',hl,e1⟩
   rcases hF with hF | ⟨f2,o2,q1,q2⟩
   ·exact H.sep _ _ _ b ho1 hm hF
   ·exact e1 (H.inj _ _ _ _ _ _ b ho1 q1 hm q2).1)
  (fun V p f o' ho'=>by
   rcases look ho' with ⟨e1,rfl,rfl,rfl⟩ | ⟨e1,e2,hl⟩
   ·rcases H.ob p 0 _ (mZ hk) with ⟨q1,q2⟩ | ⟨b,cur,q1,q2,q3⟩
    ·exact .inl ⟨q1,by simpa [cG.len,jI] using q2⟩
    ·refine .inr ⟨b,cur,q1,q2,fun i cells hi => ?_⟩
     simp only [cG.get,List.getElem?_map] at hi
     obtain ⟨e,he,rfl⟩:=Option.map_eq_some_iff.1 hi
     obtain ⟨a',ha,rfl⟩:=Option.map_eq_some_iff.1 he
     obtain ⟨s1,s2⟩:=q3 i (gR kf i (c a')) (by simp [cG.get,lJ,ha])
     rw [oJ] at s1
     refine ⟨by simpa using s1,fun j cc hj => ?_⟩
     rw [List.getElem?_map] at hj
     obtain ⟨x,hx,rfl⟩:=Option.map_eq_some_iff.1 hj
     obtain ⟨u,hu,hr⟩:=s2 j (aMb kf i x) (by rw [oI,hx];rfl)
     refine ⟨u,hu,?_⟩
     cases x with
     | v x=>exact fC.evo V hr
     | sl es=>exact .d _ _ (aT6 H hr (aN0 hf ha) (by rw [aNc (hone a') hx]) rfl (fun _ => .inl) fun b hb => .inr ⟨i,_,aN0 hf ha,hb⟩)
     | mp f=>exact (aOg (Nat.le_of_eq (hone a')) hx).elim
   ·exact (H.ob _ _ _ hl).evo V fun _ _=>rfl)
 exact ⟨_, μ,H',A.df,A.sz,fun d hd=>(A.tm d hd).evo V,A.lim⟩
theorem dR {α:Type} (kf:Nat) {k:Nat} {bt:TypeId} {sz:Nat} (ft:TypeId) (fz:Nat) (c:α→List DV) (hk:h k = .live [⟨bt,sz, .data []⟩]) (hf:h kf = .no) :
  mG L N ⟨t,h⟩ ⟨t,upd (upd h k (.live [⟨bt,sz, .av (fA kf c [])⟩])) kf (.live (pC ft fz c []))⟩:=by
 rintro E a w ⟨F, μ,A⟩
 have H:=A.H
 dsimp only at H
 have hne:k≠kf:=fun e=>by rw [← e,hk] at hf;cases hf
 have look : ∀ {p f o},lv (upd (upd h k (.live [⟨bt,sz, .av (fA kf c [])⟩])) kf (.live (pC ft fz c []))) p f=some o→(p≠kf∧p=k∧f=0∧o=⟨bt,sz, .av (fA kf c [])⟩)∨(p≠kf∧p≠k∧lv h p f=some o):=fun {p f o} hl=>by
  rcases lv2 hne hl with ⟨rfl,hl⟩ | q | q
  ·rw [eC,vF] at hl;simp at hl
  ·exact .inl q
  ·exact .inr q
 obtain ⟨H',V⟩:=H.recast (F':=F) (μ':=μ) (h':=upd (upd h k (.live [⟨bt,sz, .av (fA kf c [])⟩])) kf (.live (pC ft fz c []))) (fun _ hb=>hb) (fun _ hb => .inl hb) (aW3 (by simp) (by simp))
  (fun p f o' hp ho'=>by
   rcases look ho' with ⟨e1,rfl,rfl,rfl⟩ | ⟨e1,e2,hl⟩
   ·exact ⟨_,mZ hk,by simp [cG.len,jI],rfl,rfl,rfl⟩
   ·exact ⟨o',hl,rfl,rfl,rfl,rfl⟩)
  (fun p f=>(p,f))
  (fun p f o' b ho' hm=>by
   rcases look ho' with ⟨e1,rfl,rfl,rfl⟩ | ⟨e1,e2,hl⟩
   ·exact ⟨_,mZ hk,hm⟩
   ·exact ⟨o',hl,hm⟩)
  (fun p f p2 f2 o oo l1 l2 e=>⟨(Prod.ext_iff.1 e).1,(Prod.ext_iff.1 e).2⟩)
  (fun p f o' b ho' hm=>by
   rcases look ho' with ⟨e1,rfl,rfl,rfl⟩ | ⟨e1,e2,hl⟩
   ·exact H.sep _ _ _ b (mZ hk) hm
   ·exact H.sep _ _ _ b hl hm)
  (fun V p f o' ho'=>by
   rcases look ho' with ⟨e1,rfl,rfl,rfl⟩ | ⟨e1,e2,hl⟩
   ·rcases H.ob p 0 _ (mZ hk) with ⟨q1,q2⟩ | ⟨b,cur,q1,q2,q3⟩
    ·exact .inl ⟨q1,by simp [cG.len,jI]⟩
    ·exact .inr ⟨b,cur,q1,q2,fun i cells hi=>by simp [cG.get,lJ] at hi⟩
   ·exact (H.ob _ _ _ hl).evo V fun _ _=>rfl)
 exact ⟨F, μ,H',A.df,A.sz,fun d hd=>(A.tm d hd).evo V,A.lim⟩
end
end Go.Proofs.YtceknlcbfomdhaaGreatDoor
namespace Go.Proofs.YtceknlcbfomdhaaGreatDoor
open Go.RowKit
set_option linter.unusedVariables false
set_option maxRecDepth 100000
theorem aMh {α:Type} {kf m:Nat} {c:α→List DV} {xs:List α} {a:α} (he:xs[m]? = some a):(cG.av (fA kf c xs)).get m=some (gR kf m (c a)):=by simp [cG.get,lJ,he]
theorem aO9 {α:Type} {kf:Nat} {c:α→List DV} {xs:List α}:(cG.av (fA kf c xs)).len=xs.length:=by simp [cG.len,jI]
inductive aPz (kf m:Nat):List AV→List AV→Prop
 | nil:aPz kf m [] []
 | own {n n':Nat} {as bs:List AV} (hn:n=n') (q:aPz kf m as bs):aPz kf m (.own 0 0 n :: as) (.own kf m n' :: bs)
 | free {a:AV} {as bs:List AV} (hf:a.free=true) (q:aPz kf m as bs):aPz kf m (a :: as) (a :: bs)
theorem aPz.spec {kf m:Nat} {as bs:List AV} (q:aPz kf m as bs):as.length=bs.length ∧ ∀ (i:Nat) a b,as[i]? = some a→bs[i]? = some b→(a=b∧a.free=true) ∨ ∃ n,a = .own 0 0 n∧b = .own kf m n:=by
 induction q with
 | nil=>exact ⟨rfl,fun i a b h=>by simp at h⟩
 | own hn q ih =>
  subst hn
  refine ⟨by simp [ih.1],fun i a b h1 h2 => ?_⟩
  cases i with
  | zero=>simp at h1 h2;exact .inr ⟨_,h1.symm,h2.symm⟩
  | succ i=>exact ih.2 i a b (by simpa using h1) (by simpa using h2)
 | free hf q ih =>
  refine ⟨by simp [ih.1],fun i a b h1 h2 => ?_⟩
  cases i with
  | zero=>simp at h1 h2;subst h1 h2;exact .inl ⟨rfl,hf⟩
  | succ i=>exact ih.2 i a b (by simpa using h1) (by simpa using h2)
section
variable {P:Program} {T:Tab} {L N:Nat} {ops:Array Oper} {E:Env} {K:List (Nat × Cls)→AS→Prop} {i:Nat} {is:List Nat} {t:Nat→AV} {h h':eB} {d:Tmp} {dst:Option Tmp} {op:Op} {ty:TypeId} {pos:String} {aft:Array Edge} {g:Option (Nat × Bool)} {Q:rQ→AS→Prop} {σ:AS} {x y:Operand}
theorem aV0 {α:Type} (hT:TOk P T) {st_ e bt:TypeId} {x:Operand} {k kf n sz:Nat} {c:α→List DV} {es:List α} {ti:TI} (hx:evA N ⟨t,h⟩ x = .own k 0 n) (h1:T st_=some ti) (h2:ti.desc = .slice e) (hk:h k = .live [⟨bt,sz, .av (fA kf c es)⟩]) (hn:n=es.length) :
  jO P N ⟨some d, .call ⟨.builtin .len, #[x], #[st_]⟩,ty,pos,aft,g⟩ ⟨t,h⟩ (.d (.v (.int .i64 (es.length:Int)))):=by
 subst hn
 exact aUu hT hx h1 h2 (mZ hk) aO9
theorem aUy {α:Type} (hT:TOk P T) {st_ e bt:TypeId} {x y:Operand} {kk:IntKind} {iv:Int} {k kf sz n:Nat} {c:α→List DV} {es:List α} {ed:α} {ti ei:TI} (he:atI es iv=some ed) (hx:evA N ⟨t,h⟩ x = .own k 0 n) (hy:evA N ⟨t,h⟩ y = .d (.v (.int kk iv)))
  (h1:T st_=some ti) (h2:ti.desc = .slice e) (h3:T e=some ei) (hk:h k = .live [⟨bt,sz, .av (fA kf c es)⟩]) (hn:n=es.length) (hs:sz=ei.size):jO P N ⟨some d, .indexAddr st_ x y,ty,pos,aft,g⟩ ⟨t,h⟩ (.ptr k 0 n iv.toNat 0) :=
 aNy hT hx hy (dP he).1 (hn ▸ (dP he).2.2) h1 h2 h3 (mZ hk) (aO9.trans hn.symm) hs
theorem aVz {α:Type} (hT:TOk P T) {lt bt:TypeId} {x:Operand} {k kf n m j sz:Nat} {c:α→List DV} {es:List α} {ed:α} {u:AV} {ti:TI} (he:es[m]? = some ed) (hx:evA N ⟨t,h⟩ x = .ptr k 0 n m j) (h1:T lt=some ti) (h2:tZ ti.desc=false) (hk:h k = .live [⟨bt,sz, .av (fA kf c es)⟩]) (hn:n=es.length)
  (hc:(gR kf m (c ed))[j]? = some u):jO P N ⟨some d, .load lt x,ty,pos,aft,g⟩ ⟨t,h⟩ u:=aHx hT hx h1 h2 (mZ hk) (aO9.trans hn.symm) (aMh he) hc
theorem aUx {α:Type} (hT:TOk P T) {s bt:TypeId} {x:Operand} {q k kf n m j sz:Nat} {c:α→List DV} {es:List α} {ti fi:TI} {fs:Array Field} {fld:Field} {ed:α} (he:es[m]? = some ed) (hx:evA N ⟨t,h⟩ x = .ptr k 0 n m j) (h1:T s=some ti) (h2:ti.desc = .struct fs) (h3:fs[q]? = some fld)
  (h4:T fld.type=some fi) (h5:Nat.beq fi.size 0=false) (hk:h k = .live [⟨bt,sz, .av (fA kf c es)⟩]) (hn:n=es.length):jO P N ⟨some d, .fieldAddr s x q,ty,pos,aft,g⟩ ⟨t,h⟩ (.ptr k 0 n m (j+fld.offset)) :=
 xD hT hx h1 h2 h3 h4 h5 (mZ hk) (aO9.trans hn.symm) (aMh he)
theorem aXg {α:Type} (hT:TOk P T) {bt bt' ft:TypeId} {x y:Operand} {k kf n m j sz fz:Nat} {c:α→List DV} {es:List α} {ed:α} (ed':α) {cs:List AV} {ti:TI} (he:es[m]? = some ed) (hx:evA N ⟨t,h⟩ x = .ptr k 0 n m j) (hy:wD (evA N ⟨t,h⟩ y)=cs) (ho:okL cs=true) (h1:T bt=some ti)
  (hl:Nat.beq cs.length ti.size=true) (hpos:Nat.blt 0 ti.size=true) (hk:h k = .live [⟨bt',sz, .av (fA kf c es)⟩]) (hf:h kf = .live (pC ft fz c es)) (hne:Nat.beq k kf=false) (hsl:aF4 (c ed')=aF4 (c ed)) (hn:n=es.length) (hs:Spl j cs (gR kf m (c ed)) (gR kf m (c ed')):=by repeat (first | exact Spl.z _ | apply Spl.t | apply Spl.d)) :
  dK P N ⟨dst, .store bt x y,ty,pos,aft,g⟩ ⟨t,h⟩ .dead (upd (upd h k (.live [⟨bt',sz, .av (fA kf c (es.set m ed'))⟩])) kf (.live (pC ft fz c (es.set m ed')))):=by
 have hne:=Nat.ne_of_beq_eq_false hne
 rw [aQp he hsl,aU7 _ (by rw [dZ _ _ (Ne.symm hne)];exact hf), ← aJ9]
 exact aIx hT hx hy ho h1 hl hpos hk rfl (aO9.trans hn.symm) (aMh he) hs (.av _ _ _) (.one _ _)
theorem aRo {α:Type} (hT:TOk P T) {bt e bt' bt2:TypeId} {s x:Operand} {k kf k2 n sz sz2:Nat} {c:α→List DV} {es:List α} {cs:List AV} {ti ei:TI} (a:α) (hb:(es.length+1)*sz*64≤140737488355328) (hs:evA N ⟨t,h⟩ s = .own k 0 n) (hx:evA N ⟨t,h⟩ x = .own k2 0 1) (h1:T bt=some ti) (h2:ti.desc = .slice e) (h3:T e=some ei)
  (hzs:Nat.beq ei.zero.cells.size ei.size=true) (hpos:Nat.blt 0 ei.size=true) (hsb:Nat.ble ei.bytes (ei.size*64)=true) (hk:h k = .live [⟨bt',sz, .av (fA kf c es)⟩]) (hn:n=es.length) (hty:bt'=e) (hsz:sz=ei.size) (hk2:h k2 = .live [⟨bt2,sz2, .av [cs]⟩]) (hsz2:sz2=ei.size) (hok:okL cs=true) :
  dK P N ⟨dst, .call ⟨.builtin .append, #[s,x], #[bt,bt]⟩,ty,pos,aft,g⟩ ⟨t,h⟩ (.own k 0 (es++[a]).length) (upd h k (.live [⟨bt',sz, .av (fA kf c es++[cs])⟩])):=by
 subst hn
 rw [List.length_append,List.length_singleton]
 have hle:=Nat.le_of_ble_eq_true hsb
 have hp:=qE hpos
 have e1:(es.length+1)*ei.bytes≤(es.length+1)*sz*64:=by
  rw [Nat.mul_assoc,hsz];exact Nat.mul_le_mul_left _ hle
 have e2:es.length+1≤(es.length+1)*sz:=Nat.le_mul_of_pos_right _ (by omega)
 exact aA6 (P:=P) (N:=N) (dst:=dst) (ty:=ty) (pos:=pos) (aft:=aft) (g:=g) (n:=es.length) (m:=1) hT hs hx h1 h2 h3 hzs hpos hk rfl aO9 hty hsz (mZ hk2) rfl hsz2 (fun e he=>by simp only [List.mem_singleton] at he;subst he;exact hok) (.av _ _) (.one _ _) (by omega) (by omega)
theorem aW4 (k:Nat) (hT:TOk P T) {bt e:TypeId} {len:Nat} {parts:Array (Nat × Operand)} {ti ei:TI} {es:List (List AV)} (h1:T bt=some ti) (h2:ti.desc = .slice e) (h3:T e=some ei)
  (hel:Els (evA N ⟨t,h⟩) ei.size 0 parts.toList es) (hlen:Nat.beq es.length len=true) (hpos:Nat.blt 0 (len*ei.size)=true) (hsm:Nat.ble (len*ei.size) 16777216=true) (hk:h k = .no) :
  dK P N ⟨some d, .buildSlice bt len parts,ty,pos,aft,g⟩ ⟨t,h⟩ (.own k 0 len) (upd h k (.live [⟨e,ei.size, .av es⟩])) ∧ ∀ k',h k' ≠ .no→upd h k (.live [⟨e,ei.size, .av es⟩]) k'=h k':=aOj k hT h1 h2 h3 hel hlen hpos hsm (.av es) hk
theorem aUm {kf m:Nat} {L0:List kC} {ft:TypeId} {fz:Nat} {es es':List (List DV)} {f:FuncId} {x:Operand} {args:Array Operand} {at_:Array TypeId} {caps as as':List AV} {r:AV} (hF:FnC P f [.live [⟨ft,fz, .data es⟩]] as [.live [⟨ft,fz, .data es'⟩]] r) (hx:evA N ⟨t,h⟩ x = .fn f caps) (ha:evL N ⟨t,h⟩ args.toList++caps=as')
  (hk:h kf = .live L0) (hm:L0[m]? = some ⟨ft,fz, .data es⟩) (hr:r.free=true) (har:aPz kf m as as'):dK P N ⟨dst, .call ⟨.value x,args,at_⟩,ty,pos,aft,g⟩ ⟨t,h⟩ r (upd h kf (.live (L0.set m ⟨ft,fz, .data es'⟩))):=fun E F μ w ρ H st=>by
 obtain ⟨cap,c1,c2,c3⟩:=aC1 st hx
 rw [aC4 hF.c c1]
 rw [ha] at c2 c3
 obtain ⟨a1,a2⟩:=har.spec
 have hlo:lv h kf m=some ⟨ft,fz, .data es⟩:=(jU hk m).trans hm
 have lo0 : ∀ {p f o},lv (lks [.live [⟨ft,fz, .data es⟩]]) p f=some o→p=0∧f=0∧o=⟨ft,fz, .data es⟩:=fun {p f o} hl=>by
  cases p with
  | zero=>cases f with
   | zero=>simp [lv,lks] at hl;exact ⟨rfl,rfl,hl.symm⟩
   | succ f=>simp [lv,lks] at hl
  | succ p=>simp [lv,lks] at hl
 have H0:iY ⟨w,F,fun p f=>if p=0∧f=0 then μ kf m else none,lks [.live [⟨ft,fz, .data es⟩]],H.glob⟩ F (fun p f=>if p=0∧f=0 then μ kf m else none) (lks [.live [⟨ft,fz, .data es⟩]]) w:=by
  refine ⟨fun p f o hl => ?_,fun p f o p2 f2 o2 b l1 l2 _ _ => ?_,fun p f o b hl hb => ?_,fun p f o b hl hb => .inl ⟨p,f,o,hl,hb⟩,H.fz,fun b hb => .inl hb,Evo.refl_,rfl,rfl,rfl,Nat.le_refl _,fun _ _ _=>rfl⟩
  ·obtain ⟨rfl,rfl,rfl⟩:=lo0 hl
   simp only [and_self,if_true]
   exact (H.ob _ _ _ hlo).dat
  ·obtain ⟨rfl,rfl,rfl⟩:=lo0 l1
   obtain ⟨rfl,rfl,rfl⟩:=lo0 l2
   exact ⟨rfl,rfl⟩
  ·obtain ⟨rfl,rfl,rfl⟩:=lo0 hl
   simp only [and_self,if_true] at hb
   exact H.sep _ _ _ b hlo hb
 refine (hF.g w F _ _ H.glob H0 (c2.trans a1.symm) fun i v a h1 h2 => ?_).mono ?_
 ·have hlt:i<as'.length:=by have:=(List.getElem?_eq_some_iff.1 h2).1;omega
  have h3:=List.getElem?_eq_getElem hlt
  have r3:=c3 i v _ h1 h3
  rcases a2 i a _ h2 h3 with ⟨e,hf⟩ | ⟨n,e1,e2⟩
  ·rw [← e] at r3;exact r3.free_ hf
  ·rw [e2] at r3
   rw [e1]
   cases r3 with | own _ _ _ _ g1 gb hv =>
   refine .own _ _ _ _ g1 (fun e=>by cases e) fun o ho => ?_
   obtain ⟨_,_,rfl⟩:=lo0 ho
   simp only [and_self,if_true]
   exact hv _ hlo
 ·rintro e w' ⟨v,F', μ1,rfl,H1,hv⟩
  obtain ⟨J1,J2⟩:=H.joinF hk hm H1
  exact ⟨v,rfl,F',_,J1,J2,hv.free_ hr⟩
theorem aVg {α:Type} {k kf m:Nat} {bt ft:TypeId} {sz fz:Nat} {cc:α→List DV} {xs:List α} {a:α} (a':α) {es es':List (List DV)} {f:FuncId} {x:Operand} {args:Array Operand} {at_:Array TypeId} {caps as as':List AV} {r:AV} (hF:FnC P f [.live [⟨ft,fz, .data es⟩]] as [.live [⟨ft,fz, .data es'⟩]] r) (he:xs[m]? = some a) (hrow:gR kf m (cc a')=gR kf m (cc a))
  (hx:evA N ⟨t,h⟩ x = .fn f caps) (ha:evL N ⟨t,h⟩ args.toList++caps=as') (hk:h k = .live [⟨bt,sz, .av (fA kf cc xs)⟩]) (hf:h kf = .live (pC ft fz cc xs)) (hes:aF4 (cc a)=es) (hes':aF4 (cc a')=es') (hr:r.free=true)
  (har:aPz kf m as as':=by repeat (first | exact aPz.nil | apply aPz.own (by first | rfl | (simp;done) | omega | (simp;omega)) | apply aPz.free rfl)) :
  dK P N ⟨dst, .call ⟨.value x,args,at_⟩,ty,pos,aft,g⟩ ⟨t,h⟩ r (upd (upd h k (.live [⟨bt,sz, .av (fA kf cc (xs.set m a'))⟩])) kf (.live (pC ft fz cc (xs.set m a')))):=by
 rw [aO8 he hrow,aU7 _ hk,aTf,hes']
 exact aUm hF hx ha hf (by rw [vF,he];simp [hes]) hr har
theorem pbl (hT:TOk P T) {bt:TypeId} {parts:Array (Nat × Operand)} {ti:TI} {fs:Array Field} {pl:List (Nat × Nat)} {C0 C:List AV} (h1:T bt=some ti) (h2:ti.desc = .struct fs) (h4:aBy ti.zero.cells.toList=C0)
  (h3:Plc T fs.toList pl:=by repeat (first | exact Plc.nil | apply Plc.cons rfl)) (h5:Bld (fun i=>pl[i]?) (evA N ⟨t,h⟩) C0 parts.toList C:=by repeat (first | exact Bld.nil _ | apply Bld.cons (cs:=[.d _]) rfl rfl rfl rfl (by repeat (first | exact Spl.z _ | apply Spl.t | apply Spl.d)) | apply Bld.cons (cs:=[.own _ _ _]) rfl rfl rfl rfl (by repeat (first | exact Spl.z _ | apply Spl.t | apply Spl.d)) | apply Bld.cons (cs:=[.ptr _ _ _ _ _]) rfl rfl rfl rfl (by repeat (first | exact Spl.z _ | apply Spl.t | apply Spl.d)) | apply Bld.cons (cs:=[.fn _ _]) rfl rfl rfl rfl (by repeat (first | exact Spl.z _ | apply Spl.t | apply Spl.d)) | apply Bld.cons (cs:=_ :: _) rfl rfl rfl rfl (by repeat (first | exact Spl.z _ | apply Spl.t | apply Spl.d)))):eV P N ⟨some d, .build bt parts,ty,pos,aft,g⟩ ⟨t,h⟩ (.agg C):=aT9 hT h1 h2 h3 h4 h5
theorem wP {id:Nat} {is:List Nat} (ms:List Nat) (hm:P.follows .mixedOrders=true) (hms:aRa ops.toList []=ms) (h:RT P N ops is (fun l σ'=>aQm ops ms l=true ∧ ∃ σ'',mG L N σ' σ''∧Q .normal σ'') σ):AW L P N (.region id ops true) Q σ:=fun E a w A =>
 wp_mono (aH (L:=L) (Q:=fun e σ'=>match e with | .normal => ∃ σ'',mG L N σ' σ''∧Q .normal σ'' | e=>Q e σ') ms hm hms h E a w A) fun e a w q=>by
  cases e with
  | normal=>obtain ⟨σ',A', σ'',hw,hq⟩:=q;exact ⟨σ'',hw E a w A',hq⟩
  | _=>exact q
inductive aPy:List AV→List DV→Prop
 | nil:aPy [] []
 | cons {x:DV} {cs:List AV} {ds:List DV} (h:aPy cs ds):aPy (.d x :: cs) (x :: ds)
 | niln {cs:List AV} {ds:List DV} (h:aPy cs ds):aPy (.d (.v (.slice none 0 0)) :: cs) (.sl [] :: ds)
inductive aI3:List (List AV)→List (List DV)→Prop
 | nil:aI3 [] []
 | cons {c:List AV} {x:List DV} {cs:List (List AV)} {ds:List (List DV)} (h:aPy c x) (k:aI3 cs ds):aI3 (c :: cs) (x :: ds)
theorem aN3 {w:World} {F:Nat→Prop} {μ:cT} {h:eB} {v:Value} (r:fC w F μ h v (.d (.v (.slice none 0 0)))):fC w F μ h v (.d (.sl [])):=by
 cases r with | d _ _ hd=>cases hd with | v _ h1=>exact .d _ _ .nil
theorem aPy.spec {cs:List AV} {ds:List DV} (q:aPy cs ds):cs.length=ds.length ∧ ∀ (j:Nat) y,ds[j]? = some y → ∃ c,cs[j]? = some c ∧ ∀ (w:World) F μ h v,fC w F μ h v c→fC w F μ h v (.d y):=by
 induction q with
 | nil=>exact ⟨rfl,fun j y hy=>by simp at hy⟩
 | cons h ih =>
  refine ⟨by simp [ih.1],fun j y hy => ?_⟩
  cases j with
  | zero=>simp at hy;subst hy;exact ⟨_,rfl,fun _ _ _ _ _ r=>r⟩
  | succ j=>simpa using ih.2 j y (by simpa using hy)
 | niln h ih =>
  refine ⟨by simp [ih.1],fun j y hy => ?_⟩
  cases j with
  | zero=>simp at hy;subst hy;exact ⟨_,rfl,fun _ _ _ _ _ r=>aN3 r⟩
  | succ j=>simpa using ih.2 j y (by simpa using hy)
theorem aI3.spec {cs:List (List AV)} {ds:List (List DV)} (q:aI3 cs ds):cs.length=ds.length ∧ ∀ (i:Nat) x,ds[i]? = some x → ∃ c,cs[i]? = some c∧aPy c x:=by
 induction q with
 | nil=>exact ⟨rfl,fun j y hy=>by simp at hy⟩
 | cons h k ih =>
  refine ⟨by simp [ih.1],fun j y hy => ?_⟩
  cases j with
  | zero=>simp at hy;subst hy;exact ⟨_,rfl,h⟩
  | succ j=>simpa using ih.2 j y (by simpa using hy)
theorem aVf {α:Type} (hT:TOk P T) {bt e:TypeId} {len:Nat} {parts:Array (Nat × Operand)} {ti ei:TI} {es:List (List AV)} {ds:List (List DV)} (c:α→List DV) (xs:List α) (h1:T bt=some ti) (h2:ti.desc = .slice e) (h3:T e=some ei)
  (hel:Els (evA N ⟨t,h⟩) ei.size 0 parts.toList es) (hlen:Nat.beq es.length len=true) (hpos:Nat.blt 0 (len*ei.size)=true) (hsm:Nat.ble (len*ei.size) 16777216=true) (hcc:aI3 es ds) (hxs:ds=xs.map c) :
  dK P N ⟨some d, .buildSlice bt len parts,ty,pos,aft,g⟩ ⟨t,h⟩ (.d (.sl (xs.map c))) h ∧ ∀ k',h k' ≠ .no→h k'=h k':=by
 subst hxs
 refine ⟨fun E F μ w ρ H st => ?_,fun _ _=>rfl⟩
 obtain ⟨out,o1,o2,o3⟩:=tX (d:=d) (ty:=ty) (pos:=pos) (aft:=aft) (g:=g) (ρ:=ρ) hT h1 h2 h3 hel hlen hpos hsm fun p hp=>st p.2 (by simp only [Op.operands];simp;exact ⟨p.1,by simpa using hp⟩)
 rw [o1]
 obtain ⟨H',V⟩:=H.ice (.cells out e)
 obtain ⟨q1,q2⟩:=hcc.spec
 generalize xs.map c=ds at q1 q2 ⊢
 have hl:ds.length=len:=by have:=Nat.eq_of_beq_eq_true hlen;omega
 have hs:=Nat.le_of_ble_eq_true hsm
 have hp:=qE hpos
 have hlm:len≤len*ei.size:=aBl hp
 have hat : ∀ (i:Nat) (x:List DV),ds[i]? = some x→x.length=ei.size ∧ ∀ (j:Nat) y,x[j]? = some y → ∃ u,out[i*ei.size+j]? = some u∧fC w F μ h u (.d y):=fun i x hx=>by
  obtain ⟨cs,hcs,hall⟩:=q2 i x hx
  obtain ⟨a1,_,a2⟩:=o3 i cs hcs
  obtain ⟨b1,b2⟩:=hall.spec
  refine ⟨by omega,fun j y hy => ?_⟩
  obtain ⟨c0,hc0,hw⟩:=b2 j y hy
  obtain ⟨u,hu,hr⟩:=a2 j c0 hc0
  exact ⟨u,hu,hw _ _ _ _ _ hr⟩
 refine ⟨_, μ,H',V, .d _ _ ?_⟩
 rw [← hl]
 refine .sl w.heap.size 0 ds.length ei.size ds (fun i j=>out.getD (i*ei.size+j) undef) (.inr rfl) (Nat.le_refl _) (by unfold maxLen;omega) (fun i x hx=>(hat i x hx).1) (fun i x j y hx hy => ?_) (fun i x j y hx hy => ?_)
 ·obtain ⟨u,hu,_⟩:=(hat i x hx).2 j y hy
  rw [Nat.zero_add,cell_of_row _ _ _ out e (0,0) (Go.heap_alloc_new w _),hu]
  simp [hu]
 ·obtain ⟨u,hu,hr⟩:=(hat i x hx).2 j y hy
  have e1:out.getD (i*ei.size+j) undef=u:=by simp [hu]
  rw [e1]
  have:=hr.evo V
  cases this with | d _ _ hd=>exact hd
theorem aRj {K K':Value→World→Prop} {r:Result Next} (h:aDp P K r) (m : ∀ u w',K u w'→K' u w'):aDp P K' r:=by
 unfold aDp at h ⊢
 revert h
 repeat' split
 all_goals first | exact fun h=>m _ _ h | exact fun h=>⟨h.1,m _ _ h.2⟩ | exact fun h=>Calls.mono h (fun e w1 ⟨v,e1,q⟩=>⟨v,e1,m _ _ q⟩) | exact fun h=>h.mono (fun e w1 ⟨v,e1,q⟩=>⟨v,e1,m _ _ q⟩) | exact fun h=>h
theorem aZu {α:Type} {k sz:Nat} {bt:TypeId} {c:α→List DV} {xs:List α} {o:Oper} (H1:dK P N o ⟨t,h⟩ (.own k 0 xs.length) (upd h k (.live [⟨bt,sz, .data (xs.map c)⟩]))):dK P N o ⟨t,h⟩ (.d (.sl (xs.map c))) (upd h k .dead):=by
 intro E F μ w ρ H st
 refine aRj (H1 E F μ w ρ H st) fun u w' ⟨F', μ',H',V,r⟩ => ?_
 have Z:FzH k (some (xs.map c)) none (upd h k (.live [⟨bt,sz, .data (xs.map c)⟩])) (upd h k .dead) :=
  ⟨⟨_,dE _ _ _,fun es e=>by injection e with e;subst e;rfl,fun ds e=>by cases e⟩,dE _ _ _,fun p hp => .inl (by rw [dZ _ _ hp,dZ _ _ hp])⟩
 exact ⟨_,_,aUs H' Z,V.trans (aQt Z),aQu H' Z r (.own rfl (by simp))⟩
theorem zX {α:Type} (k:Nat) (hT:TOk P T) {bt e:TypeId} {len:Nat} {parts:Array (Nat × Operand)} {ti ei:TI} {es:List (List AV)} {ds:List (List DV)} (c:α→List DV) (xs:List α) (h1:T bt=some ti) (h2:ti.desc = .slice e) (h3:T e=some ei)
  (hel:Els (evA N ⟨t,h⟩) ei.size 0 parts.toList es) (hlen:Nat.beq es.length len=true) (hpos:Nat.blt 0 (len*ei.size)=true) (hsm:Nat.ble (len*ei.size) 16777216=true) (hcc:cR es ds) (hxs:ds=xs.map c) (hk:h k = .no) :
  dK P N ⟨some d, .buildSlice bt len parts,ty,pos,aft,g⟩ ⟨t,h⟩ (.d (.sl (xs.map c))) (upd h k .dead) ∧ ∀ k',h k' ≠ .no→upd h k .dead k'=h k' :=
 ⟨aZu (mE k hT c xs h1 h2 h3 hel hlen hpos hsm hcc hxs hk).1,zC hk⟩
theorem aNn (k:Nat) {f:FuncId} {x:Operand} {args:Array Operand} {at_:Array TypeId} {caps as as':List AV} {hin hout s s0:fT} {r r':AV} (hF:FnC P f [hin] as [hout] r) (hx:evA N ⟨t,h⟩ x = .fn f caps) (ha:evL N ⟨t,h⟩ args.toList++caps=as') (h0:h k=s0)
  (har:fS (fK [k] 300) as as':=by repeat (first | exact fS.nil | apply fS.cons | exact dQ.d _ | apply dQ.agg | apply dQ.tup | exact dQ.own _ _ _ _ rfl | exact dQ.of_own (by first | rfl | (simp;done) | omega | (simp;omega)) rfl | exact dQ.ptr _ _ _ _ _ _ rfl | exact dQ.ref _ | apply dQ.fn | exact dQ.dead)) (hlt:Nat.blt k 300=true:=by rfl)
  (hk:hJ (fK [k] 300) hin s0:=by first | exact hJ.no | exact hJ.dead | exact hJ.data _ _ _ | exact hJ.nest rfl | exact hJ.fam | (apply hJ.box; (repeat (first | exact fS.nil | apply fS.cons | exact dQ.d _ | apply dQ.agg | apply dQ.tup | exact dQ.own _ _ _ _ rfl | exact dQ.ptr _ _ _ _ _ _ rfl | exact dQ.ref _ | apply dQ.fn | exact dQ.dead))) | exact hJ.gen _) (hb:hJ (fK [k] 300) hout s:=by first | exact hJ.no | exact hJ.dead | exact hJ.data _ _ _ | exact hJ.nest rfl | exact hJ.fam | (apply hJ.box; (repeat (first | exact fS.nil | apply fS.cons | exact dQ.d _ | apply dQ.agg | apply dQ.tup | exact dQ.own _ _ _ _ rfl | exact dQ.ptr _ _ _ _ _ _ rfl | exact dQ.ref _ | apply dQ.fn | exact dQ.dead))) | exact hJ.gen _)
  (hr:dQ (fK [k] 300) r r':=by repeat (first | exact fS.nil | apply fS.cons | exact dQ.d _ | apply dQ.agg | apply dQ.tup | exact dQ.own _ _ _ _ rfl | exact dQ.of_own (by first | rfl | (simp;done) | omega | (simp;omega)) rfl | exact dQ.ptr _ _ _ _ _ _ rfl | exact dQ.ref _ | apply dQ.fn | exact dQ.dead)) :
  ∀ hx:eB,Abv hx 300→hx k=h k→dK P N ⟨dst, .call ⟨.value x,args,at_⟩,ty,pos,aft,g⟩ ⟨t,hx⟩ r' (upd hx k s):=fun g0 hB hkx=>by
 have e1 : ∀ y,evA N ⟨t,g0⟩ y=evA N ⟨t,h⟩ y:=fun y=>by cases y <;> rfl
 have e2 : ∀ ys,evL N ⟨t,g0⟩ ys=evL N ⟨t,h⟩ ys:=fun ys=>by induction ys with | nil=>rfl | cons y ys ih=>unfold evL;rw [e1,ih]
 refine aOo [k] 300 ((e1 x).trans hx) (by rw [e2];exact ha) har hF hB (by simp) (fun p hp => ?_) (.cons (hkx.trans h0) hk .nil) (.cons hb (.nil _)) hr
 rw [List.mem_singleton] at hp;subst hp;exact Nat.le_of_ble_eq_true hlt
end
end Go.Proofs.YtceknlcbfomdhaaGreatDoor
namespace Go.Proofs.YtceknlcbfomdhaaGreatDoor
def aCy (xs:List Int):List Int:=xs.mergeSort fun x y=>decide (x≤y)
theorem aE3 (xs:List Int):(aCy xs).length=xs.length:=by simp [aCy]
end Go.Proofs.YtceknlcbfomdhaaGreatDoor
namespace Go.Proofs.YtceknlcbfomdhaaGreatDoor
def qG (low:Int) (l:List Int):Int:=l.getLast?.getD low
def zZ (low high:Int) (l:List Int):List (List Int):=(List.range (high+1-qG low l).toNat).map fun (i:Nat)=>l++[qG low l+(i:Int)]
def cH (low high:Int):Nat→List (List Int)
 | 0=>[[]]
 | k+1=>(cH low high k).flatMap (zZ low high)
def dF (l:List Int):Int:=l.foldl (· * ·) 1
def gZ (ls:List (List Int)):List Int:=ls.foldl (fun acc l=>if dF l ∈ acc then acc else acc++[dF l]) []
def fH (ls:List (List Int)) (p:Int):List (List Int):=ls.filter fun l=>decide (dF l=p)
end Go.Proofs.YtceknlcbfomdhaaGreatDoor
