/- Texts of this claim, one behind the other (merged by a program of mine). -/
import Derived.WalkKit
import Derived.WalkSpells
import Derived.WalkLawsBesides
import Derived.Lib.Hide
import Derived.Lib.ItoaNum
import Derived.Laws.AppendOwn
import Derived.Laws.MakeOwn
import Derived.Laws.CopyRow
import Derived.Orders
import Derived.Below
import Derived.Scope
import Derived.Laws.StructEq
import Derived.Laws.Tables
import Derived.Great.BuildSlice
import Derived.Laws.Slices
import Derived.Laws.Strings
set_option linter.unusedSimpArgs false
set_option linter.unusedVariables false
namespace Go.Proofs.YtceknlcbfomdhaaGreatDoor
open Go.RowKit
set_option linter.unusedVariables false
set_option maxRecDepth 100000
end Go.Proofs.YtceknlcbfomdhaaGreatDoor
namespace Go.Proofs.YtceknlcbfomdhaaGreatDoor
structure aWx where
 g:Nat
 p:World→Prop
 stay : ∀ w w':World,w'.heap[g]? = w.heap[g]? → p w→p w'
def aYr (g:Nat) (l:List Value):aWx:=⟨g,fun w => ∃ t f,w.heap[g]? = some (.cells l.toArray t f),fun w w' h ⟨t,f,e⟩=>⟨t,f,h.trans e⟩⟩
def aTr:List aWx:=[aYr 0 (Lib.pow10Tab.map fun z=>Value.int .u64 z)]
end Go.Proofs.YtceknlcbfomdhaaGreatDoor
namespace Go.Proofs.YtceknlcbfomdhaaGreatDoor
open Go.RowKit
set_option linter.unusedVariables false
set_option maxRecDepth 100000
inductive DV where
 | v (x:Value)
 | sl (es:List (List DV))
 | mp (f:Int→List (List Int))
inductive AV where
 | d (x:DV)
 | agg (cs:List AV)
 | tup (cs:List AV)
 | ref (cs:List DV)
 | ptr (k f n i j:Nat)
 | own (k f n:Nat)
 | fn (g:FuncId) (cap:List AV)
 | dead
inductive cG where
 | data (es:List (List DV))
 | av (es:List (List AV))
def cG.len:cG→Nat
 | .data es=>es.length
 | .av es=>es.length
def cG.get:cG→Nat→Option (List AV)
 | .data es,i=>(es[i]?).map (List.map AV.d)
 | .av es,i=>es[i]?
structure kC where
 ty:TypeId
 sz:Nat
 cs:cG
inductive fT where
 | no
 | dead
 | live (l:List kC)
abbrev eB:=Nat→fT
def lv (h:eB) (k f:Nat):Option kC :=
 match h k with
 | .live l=>l[f]?
 | _=>none
abbrev cT:=Nat→Nat→Option Nat
def aX4 (es:Array MapEntry) (k:Int) (v:Value):Prop:=(∃ i,Instr.findNow (.int .i64) (.int .i64 k) es.toList 0=some (some (i,v)))∨(Instr.findNow (.int .i64) (.int .i64 k) es.toList 0=some none∧v = .slice none 0 0)
def aXo (l:List (List Int)):List (List DV):=l.map fun r=>[.sl (r.map fun x=>[.v (.int .i64 x)])]
inductive aDo (w:World) (F:Nat→Prop):Value→DV→Prop
 | v (x:Value) (h1:x.oneCell'=true):aDo w F x (.v x)
 | nil:aDo w F (.slice none 0 0) (.sl [])
 | emp (A:Option Addr) (c:Nat) (hm:c≤maxLen):aDo w F (.slice A 0 c) (.sl [])
 | sl (b off c sz:Nat) (es:List (List DV)) (g:Nat→Nat→Value) (hF:F b) (hc:es.length≤c) (hm:c≤maxLen)
   (hz : ∀ (i:Nat) (e:List DV),es[i]? = some e→e.length=sz)
   (hg : ∀ (i:Nat) (e:List DV) (j:Nat) (x:DV),es[i]? = some e→e[j]? = some x→w.cell? ⟨b,off+i*sz+j,none⟩=some (g i j))
   (hr : ∀ (i:Nat) (e:List DV) (j:Nat) (x:DV),es[i]? = some e→e[j]? = some x→aDo w F (g i j) x) :
   aDo w F (.slice (some ⟨b,off,none⟩) es.length c) (.sl es)
 | mp (b clock:Nat) (es:Array MapEntry) (f:Int→List (List Int)) (g:Int→Value) (hF:F b) (hb:w.heap[b]? = some (.map es clock)) (hk : ∀ k:Int, -9223372036854775808≤k→k≤9223372036854775807→aX4 es k (g k))
   (hr : ∀ k:Int, -9223372036854775808≤k→k≤9223372036854775807→aDo w F (g k) (.sl (aXo (f k)))):aDo w F (.map (some b)) (.mp f)
theorem aDo.mono {w w':World} {F F':Nat→Prop} (hw : ∀ b,F b→w'.heap[b]? = w.heap[b]?) (hF : ∀ b,F b→F' b) {v:Value} {x:DV} (h:aDo w F v x):aDo w' F' v x:=by
 induction h with
 | v x h1=>exact .v x h1
 | nil=>exact .nil
 | emp A c hm=>exact .emp A c hm
 | sl b off c sz es g hb hc hm hz hg hr ih =>
  exact .sl b off c sz es g (hF b hb) hc hm hz (fun i e j x h1 h2=>(World.cell?_of_block (hw b hb)).trans (hg i e j x h1 h2)) ih
 | mp b clock es f g hb he hk hr ih=>exact .mp b clock es f g (hF b hb) ((hw b hb).trans he) hk ih
def aWz (w:World) (p:Option Nat) (o:kC) (n:Nat) (v:Value):Prop :=
 (p=none∧n=0∧v = .slice none 0 0) ∨
 ∃ b c cur,p=some b∧v = .slice (some ⟨b,0,none⟩) n c∧w.heap[b]? = some (.cells cur o.ty (0,0))∧cur.size=c*o.sz∧n≤c∧c≤maxLen
inductive fC (w:World) (F:Nat→Prop) (μ:cT) (h:eB):Value→AV→Prop
 | d (v:Value) (x:DV) (hd:aDo w F v x):fC w F μ h v (.d x)
 | agg (vs:Array Value) (cs:List AV) (hs:vs.size=cs.length) (hr : ∀ (i:Nat) (v:Value) (c:AV),vs[i]? = some v→cs[i]? = some c→fC w F μ h v c):fC w F μ h (.agg vs) (.agg cs)
 | tup (vs:Array Value) (cs:List AV) (hs:vs.size=cs.length) (hr : ∀ (i:Nat) (v:Value) (c:AV),vs[i]? = some v→cs[i]? = some c→fC w F μ h v c):fC w F μ h (.tuple vs) (.tup cs)
 | ref (b off:Nat) (cs:List DV) (g:Nat→Value) (hF:F b) (hg : ∀ (j:Nat) (x:DV),cs[j]? = some x→w.cell? ⟨b,off+j,none⟩=some (g j)) (hr : ∀ (j:Nat) (x:DV),cs[j]? = some x→aDo w F (g j) x) :
   fC w F μ h (.pointer (some ⟨b,off,none⟩)) (.ref cs)
 | ptr (v:Value) (k f n i j:Nat) (h1:v.oneCell'=true) (hb:h k ≠ .no) (hv : ∀ o,lv h k f=some o→n≤o.cs.len∧(o.cs.len=n → ∃ b, μ k f=some b∧v = .pointer (some ⟨b,i*o.sz+j,none⟩))) :
   fC w F μ h v (.ptr k f n i j)
 | own (v:Value) (k f n:Nat) (h1:v.oneCell'=true) (hb:h k ≠ .no) (hv : ∀ o,lv h k f=some o→n≤o.cs.len∧(o.cs.len=n→aWz w (μ k f) o n v)):fC w F μ h v (.own k f n)
 | fn (g:FuncId) (vs:Array Value) (cs:List AV) (hs:vs.size=cs.length) (hr : ∀ (i:Nat) (v:Value) (c:AV),vs[i]? = some v→cs[i]? = some c→fC w F μ h v c):fC w F μ h (.func (.func g) #[] vs) (.fn g cs)
 | dead (v:Value):fC w F μ h v .dead
structure Evo (w:World) (F:Nat→Prop) (μ:cT) (h:eB) (w':World) (F':Nat→Prop) (μ':cT) (h':eB):Prop where
 fr : ∀ b,F b→w'.heap[b]? = w.heap[b]?
 fs : ∀ b,F b→F' b
 born : ∀ k,h k ≠ .no→h' k ≠ .no
 live : ∀ k f o',h k ≠ .no→lv h' k f=some o' → ∃ o,lv h k f=some o∧(o.cs.len<o'.cs.len ∨
  (o.cs.len=o'.cs.len∧o.sz=o'.sz∧μ' k f=μ k f ∧ ∀ b cur, μ k f=some b→w.heap[b]? = some (.cells cur o.ty (0,0)) → ∃ cur',w'.heap[b]? = some (.cells cur' o'.ty (0,0))∧cur'.size=cur.size))
theorem fC.evo {w w':World} {F F':Nat→Prop} {μ μ':cT} {h h':eB} (E:Evo w F μ h w' F' μ' h') {v:Value} {a:AV} (r:fC w F μ h v a):fC w' F' μ' h' v a:=by
 induction r with
 | d v x hd=>exact .d v x (hd.mono E.fr E.fs)
 | agg vs cs hs hr ih=>exact .agg vs cs hs ih
 | tup vs cs hs hr ih=>exact .tup vs cs hs ih
 | ref b off cs g hF hg hr=>exact .ref b off cs g (E.fs b hF) (fun j x hx=>(World.cell?_of_block (E.fr b hF)).trans (hg j x hx)) (fun j x hx=>(hr j x hx).mono E.fr E.fs)
 | ptr v k f n i j h1 hb hv =>
  refine .ptr v k f n i j h1 (E.born k hb) fun o' ho' => ?_
  obtain ⟨o,ho,hlt | ⟨hl,hz,hm,_⟩⟩:=E.live k f o' hb ho'
  ·have:=(hv o ho).1
   exact ⟨by omega,fun he=>absurd he (by omega)⟩
  ·rw [← hl, ← hz,hm]
   exact hv o ho
 | own v k f n h1 hb hv =>
  refine .own v k f n h1 (E.born k hb) fun o' ho' => ?_
  obtain ⟨o,ho,hlt | ⟨hl,hz,hm,hcur⟩⟩:=E.live k f o' hb ho'
  ·have:=(hv o ho).1
   exact ⟨by omega,fun he=>absurd he (by omega)⟩
  ·refine ⟨by rw [← hl];exact (hv o ho).1,fun he => ?_⟩
   rcases (hv o ho).2 (hl.trans he) with ⟨h1,h2,h3⟩ | ⟨b,c,cur,h1,h2,h3,h4,h5,h6⟩
   ·exact .inl ⟨hm.trans h1,h2,h3⟩
   ·obtain ⟨cur',h7,h8⟩:=hcur b cur h1 h3
    exact .inr ⟨b,c,cur',hm.trans h1,h2,h7,by rw [h8,h4,hz],h5,h6⟩
 | fn g vs cs hs hr ih=>exact .fn g vs cs hs ih
 | dead v=>exact .dead v
def sZ (w:World) (F:Nat→Prop) (μ:cT) (h:eB) (p:Option Nat) (o:kC):Prop :=
 (p=none∧o.cs.len=0) ∨
 ∃ b cur,p=some b∧w.heap[b]? = some (.cells cur o.ty (0,0)) ∧
  ∀ i cells,o.cs.get i=some cells→cells.length=o.sz ∧ ∀ (j:Nat) (c:AV),cells[j]? = some c → ∃ u,cur[i*o.sz+j]? = some u∧fC w F μ h u c
theorem sZ.evo {w w':World} {F F':Nat→Prop} {μ μ':cT} {h h':eB} (E:Evo w F μ h w' F' μ' h') {p:Option Nat} {o:kC} (hk : ∀ b,p=some b→w'.heap[b]? = w.heap[b]?) (r:sZ w F μ h p o):sZ w' F' μ' h' p o:=by
 rcases r with r | ⟨b,cur,h1,h2,h3⟩
 ·exact .inl r
 ·refine .inr ⟨b,cur,h1,(hk b h1).trans h2,fun i cells hi=>⟨(h3 i cells hi).1,fun j c hj => ?_⟩⟩
  obtain ⟨u,hu,hr⟩:=(h3 i cells hi).2 j c hj
  exact ⟨u,hu,hr.evo E⟩
def aFc (F:Nat→Prop) (w:World):Prop := ∀ x ∈ aTr,F x.g∧x.p w
theorem aFc.evo {F F':Nat→Prop} {w w':World} (gl:aFc F w) (hw : ∀ b,F b→w'.heap[b]? = w.heap[b]?) (hF : ∀ b,F b→F' b):aFc F' w':=fun x hx=>⟨hF _ (gl x hx).1,x.stay w w' (hw _ (gl x hx).1) (gl x hx).2⟩
structure Env where
 w0:World
 F0:Nat→Prop
 μ0:cT
 h0:eB
 gl:aFc F0 w0
def aWq (μ:cT) (h:eB):Nat→Prop:=fun b => ∃ k f o,lv h k f=some o∧μ k f=some b
def Env.O0 (E:Env):Nat→Prop:=aWq E.μ0 E.h0
structure iY (E:Env) (F:Nat→Prop) (μ:cT) (h:eB) (w:World):Prop where
 ob : ∀ k f o,lv h k f=some o→sZ w F μ h (μ k f) o
 inj : ∀ k f o k' f' o' b,lv h k f=some o→lv h k' f'=some o'→μ k f=some b→μ k' f'=some b→k=k'∧f=f'
 sep : ∀ k f o b,lv h k f=some o→μ k f=some b → ¬ F b
 src : ∀ k f o b,lv h k f=some o→μ k f=some b→E.O0 b∨E.w0.heap.size≤b
 fz : ∀ b,F b→b<w.heap.size
 fsrc : ∀ b,F b→E.F0 b∨E.O0 b∨E.w0.heap.size≤b
 ev:Evo E.w0 E.F0 E.μ0 E.h0 w F μ h
 os:w.os=E.w0.os
 tape:w.tape=E.w0.tape
 output:w.output=E.w0.output
 size:E.w0.heap.size≤w.heap.size
 keep : ∀ b,b<E.w0.heap.size → ¬ E.O0 b→w.heap[b]? = E.w0.heap[b]?
theorem iY.glob {E:Env} {F:Nat→Prop} {μ:cT} {h:eB} {w:World} (H:iY E F μ h w):aFc F w:=E.gl.evo H.ev.fr H.ev.fs
theorem iY.lt {E:Env} {F:Nat→Prop} {μ:cT} {h:eB} {w:World} (H:iY E F μ h w) {k f:Nat} {o:kC} {b:Nat} (hl:lv h k f=some o) (hm:μ k f=some b):b<w.heap.size:=by
 rcases H.ob k f o hl with ⟨h1,_⟩ | ⟨b',cur,h1,h2,_⟩
 ·rw [hm] at h1;cases h1
 ·rw [hm] at h1
  injection h1 with h1
  subst h1
  exact (Array.getElem?_eq_some_iff.1 h2).1
end Go.Proofs.YtceknlcbfomdhaaGreatDoor
namespace Go.Proofs.YtceknlcbfomdhaaGreatDoor
open Go.RowKit
set_option linter.unusedVariables false
set_option maxRecDepth 100000
def upd (h:eB) (k:Nat) (s:fT):eB:=fun k'=>bif Nat.beq k' k then s else h k'
theorem dE (h:eB) (k:Nat) (s:fT):upd h k s k=s:=by simp [upd]
theorem dZ (h:eB) {k k':Nat} (s:fT) (hne:k'≠k):upd h k s k'=h k':=by
 have:Nat.beq k' k=false:=by rw [← Bool.not_eq_true,Nat.beq_eq];exact hne
 simp [upd,this]
def aIw (μ:cT) (k f:Nat) (p:Option Nat):cT:=fun k' f'=>if k'=k∧f'=f then p else μ k' f'
theorem dV (μ:cT) (k f:Nat) (p:Option Nat):aIw μ k f p k f=p:=by simp [aIw]
theorem kB (μ:cT) {k f k' f':Nat} (p:Option Nat) (hne : ¬ (k'=k∧f'=f)):aIw μ k f p k' f'=μ k' f':=by simp [aIw,hne]
theorem jU {h:eB} {k:Nat} {l:List kC} (hk:h k = .live l) (f:Nat):lv h k f=l[f]? := by simp [lv,hk]
theorem aL8 {h:eB} {k f:Nat} {o:kC} (hl:lv h k f=some o) : ∃ l,h k = .live l∧l[f]? = some o:=by
 unfold lv at hl
 split at hl
 ·rename_i l hk;exact ⟨l,hk,hl⟩
 ·cases hl
theorem aQ9 {h:eB} {k f:Nat} {o:kC} (hl:lv h k f=some o):h k ≠ .no:=by
 obtain ⟨l,hk,_⟩:=aL8 hl
 rw [hk];intro e;cases e
theorem eC (h:eB) (k:Nat) (l:List kC) (f:Nat):lv (upd h k (.live l)) k f=l[f]? := by simp [lv,dE]
theorem gA (h:eB) {k k':Nat} (s:fT) (f:Nat) (hne:k'≠k):lv (upd h k s) k' f=lv h k' f:=by simp [lv,dZ h s hne]
section
variable {E:Env} {F:Nat→Prop} {μ:cT} {h:eB} {w w':World}
theorem Evo.trans {w'':World} {F' F'':Nat→Prop} {μ' μ'':cT} {h' h'':eB} (A:Evo w F μ h w' F' μ' h') (B:Evo w' F' μ' h' w'' F'' μ'' h''):Evo w F μ h w'' F'' μ'' h'':=by
 refine ⟨fun b hb=>(B.fr b (A.fs b hb)).trans (A.fr b hb),fun b hb=>B.fs b (A.fs b hb),fun k hb=>B.born k (A.born k hb),fun k f o'' hb ho'' => ?_⟩
 obtain ⟨o',ho',hB⟩:=B.live k f o'' (A.born k hb) ho''
 obtain ⟨o,ho,hA⟩:=A.live k f o' hb ho'
 refine ⟨o,ho,?_⟩
 rcases hA with hA | ⟨a1,a2,a3,a4⟩
 ·rcases hB with hB | ⟨b1,b2,b3,b4⟩
  ·exact .inl (by omega)
  ·exact .inl (by omega)
 ·rcases hB with hB | ⟨b1,b2,b3,b4⟩
  ·exact .inl (by omega)
  ·refine .inr ⟨a1.trans b1,a2.trans b2,b3.trans a3,fun b cur hm hc => ?_⟩
   obtain ⟨c1,hc1,hs1⟩:=a4 b cur hm hc
   obtain ⟨c2,hc2,hs2⟩:=b4 b c1 (a3.trans hm) hc1
   exact ⟨c2,hc2,hs2.trans hs1⟩
theorem iY.same (H:iY E F μ h w) (hh:w'.heap=w.heap) (ho:w'.os=w.os) (ht:w'.tape=w.tape) (hp:w'.output=w.output):iY E F μ h w'∧Evo w F μ h w' F μ h:=by
 have V:Evo w F μ h w' F μ h:=⟨fun b _=>by rw [hh],fun _ hb=>hb,fun _ hb=>hb,fun k f o' hb ho'=>⟨o',ho', .inr ⟨rfl,rfl,rfl,fun b cur _ hc=>⟨cur,by rw [hh];exact hc,rfl⟩⟩⟩⟩
 exact ⟨⟨fun k f o hl=>(H.ob k f o hl).evo V (fun b _=>by rw [hh]),H.inj,H.sep,H.src,fun b hb=>by rw [hh];exact H.fz b hb,H.fsrc,(H.ev.trans V),ho.trans H.os,ht.trans H.tape,hp.trans H.output,by rw [hh];exact H.size,
  fun b h1 h2=>by rw [hh];exact H.keep b h1 h2⟩,V⟩
theorem iY.drew (H:iY E F μ h w):iY E F μ h w.drew∧Evo w F μ h w.drew F μ h:=H.same rfl rfl rfl rfl
theorem iY.alloc (H:iY E F μ h w) (k:Nat) (hk:h k = .no) (o:kC) (cs:Array Value)
  (hcs : ∀ i cells,o.cs.get i=some cells→cells.length=o.sz ∧ ∀ (j:Nat) (c:AV),cells[j]? = some c → ∃ u,cs[i*o.sz+j]? = some u∧fC w F μ h u c) :
  iY E F (aIw μ k 0 (some w.heap.size)) (upd h k (.live [o])) (w.alloc (.cells cs o.ty))∧Evo w F μ h (w.alloc (.cells cs o.ty)) F (aIw μ k 0 (some w.heap.size)) (upd h k (.live [o])):=by
 have hold : ∀ b,b<w.heap.size→(w.alloc (.cells cs o.ty)).heap[b]? = w.heap[b]? := fun b hb=>Below.heap_alloc w _ b hb
 have V:Evo w F μ h (w.alloc (.cells cs o.ty)) F (aIw μ k 0 (some w.heap.size)) (upd h k (.live [o])):=by
  refine ⟨fun b hb=>hold b (H.fz b hb),fun _ hb=>hb,fun k' hb => ?_,fun k' f o' hb ho' => ?_⟩
  ·by_cases e:k'=k
   ·rw [e] at hb;exact absurd hk hb
   ·rw [dZ _ _ e];exact hb
  ·have e:k'≠k:=fun e=>by rw [e] at hb;exact hb hk
   rw [gA _ _ _ e] at ho'
   refine ⟨o',ho', .inr ⟨rfl,rfl,kB _ _ (fun ⟨e',_⟩=>e e'),fun b cur hm hc=>⟨cur,?_,rfl⟩⟩⟩
   rw [hold b (H.lt ho' hm)];exact hc
 have look : ∀ k' f' o',lv (upd h k (.live [o])) k' f'=some o'→(k'=k∧f'=0∧o'=o)∨(k'≠k∧lv h k' f'=some o'):=fun k' f' o' hl=>by
  by_cases e:k'=k
  ·subst e
   rw [eC] at hl
   cases f' with
   | zero=>simp at hl;exact .inl ⟨rfl,rfl,hl.symm⟩
   | succ n=>simp at hl
  ·rw [gA _ _ _ e] at hl;exact .inr ⟨e,hl⟩
 have hne : ∀ {k' f'},k'≠k→aIw μ k 0 (some w.heap.size) k' f'=μ k' f':=fun e=>kB _ _ (fun ⟨e',_⟩=>e e')
 refine ⟨⟨fun k' f' o' hl => ?_,fun k1 f1 o1 k2 f2 o2 b h1 h2 m1 m2 => ?_,fun k' f' o' b hl hm => ?_,fun k' f' o' b hl hm => ?_,fun b hb => ?_,H.fsrc,(H.ev.trans V),H.os,H.tape,H.output,?_,fun b h1 h2 => ?_⟩,V⟩
 ·rcases look k' f' o' hl with ⟨rfl,rfl,rfl⟩ | ⟨e,hl⟩
  ·rw [dV]
   refine .inr ⟨_,cs,rfl,Go.heap_alloc_new w _,fun i cells hi=>⟨(hcs i cells hi).1,fun j c hj => ?_⟩⟩
   obtain ⟨u,hu,hr⟩:=(hcs i cells hi).2 j c hj
   exact ⟨u,hu,hr.evo V⟩
  ·rw [hne e]
   exact (H.ob k' f' o' hl).evo V fun b hm=>hold b (H.lt hl hm)
 ·rcases look _ _ _ h1 with ⟨rfl,rfl,rfl⟩ | ⟨e1,l1⟩
  ·rcases look _ _ _ h2 with ⟨rfl,rfl,rfl⟩ | ⟨e2,l2⟩
   ·exact ⟨rfl,rfl⟩
   ·rw [dV] at m1;rw [hne e2] at m2
    injection m1 with m1
    have:=H.lt l2 m2
    omega
  ·rcases look _ _ _ h2 with ⟨rfl,rfl,rfl⟩ | ⟨e2,l2⟩
   ·rw [dV] at m2;rw [hne e1] at m1
    injection m2 with m2
    have:=H.lt l1 m1
    omega
   ·rw [hne e1] at m1;rw [hne e2] at m2
    exact H.inj _ _ _ _ _ _ b l1 l2 m1 m2
 ·rcases look _ _ _ hl with ⟨rfl,rfl,rfl⟩ | ⟨e,hl⟩
  ·rw [dV] at hm
   injection hm with hm
   intro hb
   have:=H.fz b hb
   omega
  ·rw [hne e] at hm;exact H.sep _ _ _ b hl hm
 ·rcases look _ _ _ hl with ⟨rfl,rfl,rfl⟩ | ⟨e,hl⟩
  ·rw [dV] at hm
   injection hm with hm
   have:=H.size
   exact .inr (by omega)
  ·rw [hne e] at hm;exact H.src _ _ _ b hl hm
 ·have:=H.fz b hb
  simp;omega
 ·have:=H.size
  simp;omega
 ·have:=H.size
  exact (hold b (by omega)).trans (H.keep b h1 h2)
theorem iY.ice (H:iY E F μ h w) (ob:Obj) :
  iY E (fun b=>F b∨b=w.heap.size) μ h (w.alloc ob)∧Evo w F μ h (w.alloc ob) (fun b=>F b∨b=w.heap.size) μ h:=by
 have hold : ∀ b,b<w.heap.size→(w.alloc ob).heap[b]? = w.heap[b]? := fun b hb=>Below.heap_alloc w _ b hb
 have V:Evo w F μ h (w.alloc ob) (fun b=>F b∨b=w.heap.size) μ h:=by
  refine ⟨fun b hb=>hold b (H.fz b hb),fun _ hb => .inl hb,fun _ hb=>hb,fun k f o' hb ho'=>⟨o',ho', .inr ⟨rfl,rfl,rfl,fun b cur hm hc=>⟨cur,?_,rfl⟩⟩⟩⟩
  rw [hold b (H.lt ho' hm)];exact hc
 refine ⟨⟨fun k f o hl=>(H.ob k f o hl).evo V (fun b hm=>hold b (H.lt hl hm)),H.inj,fun k f o b hl hm hb => ?_,H.src,fun b hb => ?_,fun b hb => ?_,(H.ev.trans V),H.os,H.tape,H.output,?_,fun b h1 h2 => ?_⟩,V⟩
 ·rcases hb with hb | hb
  ·exact H.sep _ _ _ b hl hm hb
  ·have:=H.lt hl hm;omega
 ·rcases hb with hb | hb
  ·have:=H.fz b hb;simp;omega
  ·simp;omega
 ·rcases hb with hb | hb
  ·exact H.fsrc b hb
  ·have:=H.size;exact .inr (.inr (by omega))
 ·have:=H.size
  simp;omega
 ·have:=H.size
  exact (hold b (by omega)).trans (H.keep b h1 h2)
theorem iY.put (H:iY E F μ h w) {k f:Nat} {l:List kC} {o o':kC} (hk:h k = .live l) (hf:l[f]? = some o) (b':Nat) (cur':Array Value)
  (hsz:w.heap.size≤w'.heap.size) (hos:w'.os=w.os) (htp:w'.tape=w.tape) (hout:w'.output=w.output)
  (hoth : ∀ b,b<w.heap.size→μ k f≠some b→w'.heap[b]? = w.heap[b]?)
  (hnew:μ k f=some b'∨w.heap.size≤b') (hlt:b'<w'.heap.size) (hcur:w'.heap[b']? = some (.cells cur' o'.ty (0,0)))
  (hlen:o.cs.len<o'.cs.len∨(o.cs.len=o'.cs.len∧o.sz=o'.sz∧o.ty=o'.ty∧μ k f=some b' ∧ ∀ cur,w.heap[b']? = some (.cells cur o.ty (0,0))→cur'.size=cur.size))
  (hcs : ∀ i cells,o'.cs.get i=some cells→cells.length=o'.sz ∧ ∀ (j:Nat) (c:AV),cells[j]? = some c → ∃ u,cur'[i*o'.sz+j]? = some u∧fC w F μ h u c) :
  iY E F (aIw μ k f (some b')) (upd h k (.live (l.set f o'))) w'∧Evo w F μ h w' F (aIw μ k f (some b')) (upd h k (.live (l.set f o'))):=by
 have hlo:lv h k f=some o:=(jU hk f).trans hf
 have hfl:f<l.length:=(List.getElem?_eq_some_iff.1 hf).1
 have look : ∀ k' f' o1,lv (upd h k (.live (l.set f o'))) k' f'=some o1→(k'=k∧f'=f∧o1=o')∨(¬ (k'=k∧f'=f)∧lv h k' f'=some o1):=fun k' f' o1 hl=>by
  by_cases e:k'=k
  ·subst e
   rw [eC] at hl
   by_cases e2:f'=f
   ·subst e2
    rw [List.getElem?_set_self hfl] at hl
    injection hl with hl
    exact .inl ⟨rfl,rfl,hl.symm⟩
   ·rw [List.getElem?_set_ne (fun e=>e2 e.symm)] at hl
    exact .inr ⟨fun ⟨_,e3⟩=>e2 e3,(jU hk f').trans hl⟩
  ·rw [gA _ _ _ e] at hl;exact .inr ⟨fun ⟨e3,_⟩=>e e3,hl⟩
 have other : ∀ {k' f' o1 b}, ¬ (k'=k∧f'=f)→lv h k' f'=some o1→μ k' f'=some b→w'.heap[b]? = w.heap[b]? := fun hne hl hm =>
  hoth _ (H.lt hl hm) (fun e=>hne (H.inj _ _ _ _ _ _ _ hl hlo hm e))
 have frz : ∀ b,F b→w'.heap[b]? = w.heap[b]? := fun b hb=>hoth b (H.fz b hb) (fun e=>H.sep _ _ _ b hlo e hb)
 have V:Evo w F μ h w' F (aIw μ k f (some b')) (upd h k (.live (l.set f o'))):=by
  refine ⟨frz,fun _ hb=>hb,fun k' hb => ?_,fun k' f' o1 hb ho1 => ?_⟩
  ·by_cases e:k'=k
   ·subst e;rw [dE];intro e;cases e
   ·rw [dZ _ _ e];exact hb
  ·rcases look _ _ _ ho1 with ⟨rfl,rfl,rfl⟩ | ⟨hne,hl⟩
   ·refine ⟨o,hlo,hlen.imp id fun ⟨a1,a2,a3,a4,a5⟩=>⟨a1,a2,by rw [dV,a4],fun b cur hm hc => ?_⟩⟩
    rw [a4] at hm
    injection hm with hm
    subst hm
    exact ⟨cur',hcur,a5 cur hc⟩
   ·refine ⟨o1,hl, .inr ⟨rfl,rfl,kB _ _ hne,fun b cur hm hc=>⟨cur,?_,rfl⟩⟩⟩
    rw [other hne hl hm];exact hc
 refine ⟨⟨fun k' f' o1 hl => ?_,fun k1 f1 o1 k2 f2 o2 b h1 h2 m1 m2 => ?_,fun k' f' o1 b hl hm => ?_,fun k' f' o1 b hl hm => ?_,fun b hb => ?_,H.fsrc,(H.ev.trans V),hos.trans H.os,htp.trans H.tape,hout.trans H.output,?_,fun b h1 h2 => ?_⟩,V⟩
 ·rcases look _ _ _ hl with ⟨rfl,rfl,rfl⟩ | ⟨hne,hl⟩
  ·rw [dV]
   refine .inr ⟨b',cur',rfl,hcur,fun i cells hi=>⟨(hcs i cells hi).1,fun j c hj => ?_⟩⟩
   obtain ⟨u,hu,hr⟩:=(hcs i cells hi).2 j c hj
   exact ⟨u,hu,hr.evo V⟩
  ·rw [kB _ _ hne]
   exact (H.ob _ _ _ hl).evo V fun b hm=>other hne hl hm
 ·have two : ∀ {k' f' o1}, ¬ (k'=k∧f'=f)→lv h k' f'=some o1→μ k' f'=some b→b≠b':=fun hne hl hm e=>by
   rcases hnew with e2 | e2
   ·subst e;exact hne (H.inj _ _ _ _ _ _ _ hl hlo hm e2)
   ·have:=H.lt hl hm;omega
  rcases look _ _ _ h1 with ⟨rfl,rfl,rfl⟩ | ⟨e1,l1⟩
  ·rcases look _ _ _ h2 with ⟨rfl,rfl,rfl⟩ | ⟨e2,l2⟩
   ·exact ⟨rfl,rfl⟩
   ·rw [dV] at m1;rw [kB _ _ e2] at m2
    injection m1 with m1
    exact absurd m1.symm (two e2 l2 m2)
  ·rcases look _ _ _ h2 with ⟨rfl,rfl,rfl⟩ | ⟨e2,l2⟩
   ·rw [dV] at m2;rw [kB _ _ e1] at m1
    injection m2 with m2
    exact absurd m2.symm (two e1 l1 m1)
   ·rw [kB _ _ e1] at m1;rw [kB _ _ e2] at m2
    exact H.inj _ _ _ _ _ _ b l1 l2 m1 m2
 ·rcases look _ _ _ hl with ⟨rfl,rfl,rfl⟩ | ⟨hne,hl⟩
  ·rw [dV] at hm
   injection hm with hm
   subst hm
   rcases hnew with e2 | e2
   ·exact H.sep _ _ _ _ hlo e2
   ·intro hb;have:=H.fz _ hb;omega
  ·rw [kB _ _ hne] at hm;exact H.sep _ _ _ b hl hm
 ·rcases look _ _ _ hl with ⟨rfl,rfl,rfl⟩ | ⟨hne,hl⟩
  ·rw [dV] at hm
   injection hm with hm
   subst hm
   rcases hnew with e2 | e2
   ·exact H.src _ _ _ _ hlo e2
   ·have:=H.size;exact .inr (by omega)
  ·rw [kB _ _ hne] at hm;exact H.src _ _ _ b hl hm
 ·have:=H.fz b hb;omega
 ·have:=H.size;omega
 ·by_cases e:μ k f=some b
  ·rcases H.src _ _ _ _ hlo e with h3 | h3
   ·exact absurd h3 h2
   ·omega
  ·have:=H.size
   exact (hoth b (by omega) e).trans (H.keep b h1 h2)
theorem iY.drop (H:iY E F μ h w) (k:Nat) (hk:h k ≠ .no):iY E F μ (upd h k .dead) w∧Evo w F μ h w F μ (upd h k .dead):=by
 have look : ∀ k' f' o1,lv (upd h k .dead) k' f'=some o1→lv h k' f'=some o1:=fun k' f' o1 hl=>by
  by_cases e:k'=k
  ·subst e;simp [lv,dE] at hl
  ·rwa [gA _ _ _ e] at hl
 have V:Evo w F μ h w F μ (upd h k .dead):=by
  refine ⟨fun _ _=>rfl,fun _ hb=>hb,fun k' hb => ?_,fun k' f' o1 hb ho1=>⟨o1,look _ _ _ ho1, .inr ⟨rfl,rfl,rfl,fun b cur _ hc=>⟨cur,hc,rfl⟩⟩⟩⟩
  by_cases e:k'=k
  ·subst e;rw [dE];intro e;cases e
  ·rw [dZ _ _ e];exact hb
 exact ⟨⟨fun k' f' o1 hl=>(H.ob _ _ _ (look _ _ _ hl)).evo V (fun _ _=>rfl),fun k1 f1 o1 k2 f2 o2 b h1 h2=>H.inj _ _ _ _ _ _ b (look _ _ _ h1) (look _ _ _ h2),fun k' f' o1 b hl=>H.sep _ _ _ b (look _ _ _ hl),
  fun k' f' o1 b hl=>H.src _ _ _ b (look _ _ _ hl),H.fz,H.fsrc,(H.ev.trans V),H.os,H.tape,H.output,H.size,H.keep⟩,V⟩
theorem iY.adopt (H:iY E F μ h w) (k:Nat) (hk:h k = .no) (o:kC) (ho:o.cs.len=0):iY E F (aIw μ k 0 none) (upd h k (.live [o])) w∧Evo w F μ h w F (aIw μ k 0 none) (upd h k (.live [o])):=by
 have look : ∀ k' f' o',lv (upd h k (.live [o])) k' f'=some o'→(k'=k∧f'=0∧o'=o)∨(k'≠k∧lv h k' f'=some o'):=fun k' f' o' hl=>by
  by_cases e:k'=k
  ·subst e
   rw [eC] at hl
   cases f' with
   | zero=>simp at hl;exact .inl ⟨rfl,rfl,hl.symm⟩
   | succ n=>simp at hl
  ·rw [gA _ _ _ e] at hl;exact .inr ⟨e,hl⟩
 have hne : ∀ {k' f'},k'≠k→aIw μ k 0 none k' f'=μ k' f':=fun e=>kB _ _ (fun ⟨e',_⟩=>e e')
 have V:Evo w F μ h w F (aIw μ k 0 none) (upd h k (.live [o])):=by
  refine ⟨fun _ _=>rfl,fun _ hb=>hb,fun k' hb => ?_,fun k' f o' hb ho' => ?_⟩
  ·by_cases e:k'=k
   ·rw [e] at hb;exact absurd hk hb
   ·rw [dZ _ _ e];exact hb
  ·have e:k'≠k:=fun e=>by rw [e] at hb;exact hb hk
   rw [gA _ _ _ e] at ho'
   exact ⟨o',ho', .inr ⟨rfl,rfl,hne e,fun b cur _ hc=>⟨cur,hc,rfl⟩⟩⟩
 have real : ∀ {k' f' o' b},lv (upd h k (.live [o])) k' f'=some o'→aIw μ k 0 none k' f'=some b→lv h k' f'=some o'∧μ k' f'=some b:=fun hl hm=>by
  rcases look _ _ _ hl with ⟨rfl,rfl,rfl⟩ | ⟨e,hl⟩
  ·rw [dV] at hm;cases hm
  ·rw [hne e] at hm;exact ⟨hl,hm⟩
 refine ⟨⟨fun k' f' o' hl => ?_,fun k1 f1 o1 k2 f2 o2 b h1 h2 m1 m2=>H.inj _ _ _ _ _ _ b (real h1 m1).1 (real h2 m2).1 (real h1 m1).2 (real h2 m2).2,fun k' f' o' b hl hm=>H.sep _ _ _ b (real hl hm).1 (real hl hm).2,
  fun k' f' o' b hl hm=>H.src _ _ _ b (real hl hm).1 (real hl hm).2,H.fz,H.fsrc,(H.ev.trans V),H.os,H.tape,H.output,H.size,H.keep⟩,V⟩
 rcases look _ _ _ hl with ⟨rfl,rfl,rfl⟩ | ⟨e,hl⟩
 ·exact .inl ⟨dV _ _ _ _,ho⟩
 ·rw [hne e];exact (H.ob _ _ _ hl).evo V (fun _ _=>rfl)
end
end Go.Proofs.YtceknlcbfomdhaaGreatDoor
namespace Go.Proofs.YtceknlcbfomdhaaGreatDoor
open Go.RowKit
set_option linter.unusedVariables false
set_option maxRecDepth 100000
mutual
def AV.ren (ι:Nat→Nat):AV→AV
 | .d x => .d x
 | .agg cs => .agg (AV.renL ι cs)
 | .tup cs => .tup (AV.renL ι cs)
 | .ref cs => .ref cs
 | .ptr k f n i j => .ptr (ι k) f n i j
 | .own k f n => .own (ι k) f n
 | .fn g cs => .fn g (AV.renL ι cs)
 | .dead => .dead
def AV.renL (ι:Nat→Nat):List AV→List AV
 | []=>[]
 | c :: cs=>c.ren ι :: AV.renL ι cs
end
theorem pZ (ι:Nat→Nat) : ∀ (cs:List AV) (i:Nat),(AV.renL ι cs)[i]? = (cs[i]?).map (AV.ren ι)
 | [],i=>by simp [AV.renL]
 | c :: cs,0=>by simp [AV.renL]
 | c :: cs,i+1=>by simp [AV.renL,pZ ι cs i]
theorem qA (ι:Nat→Nat) : ∀ (cs:List AV),(AV.renL ι cs).length=cs.length
 | []=>rfl
 | c :: cs=>by simp [AV.renL,qA ι cs]
theorem aU0 (ι:Nat→Nat) : ∀ (xs:List DV),AV.renL ι (xs.map .d)=xs.map .d
 | []=>rfl
 | x :: xs=>by simp [AV.renL,AV.ren,aU0 ι xs]
def cG.ren (ι:Nat→Nat):cG→cG
 | .data es => .data es
 | .av es => .av (es.map (AV.renL ι))
theorem cG.ren_len (ι:Nat→Nat) (c:cG):(c.ren ι).len=c.len:=by cases c <;> simp [cG.ren,cG.len]
theorem cG.ren_get (ι:Nat→Nat) (c:cG) (i:Nat):(c.ren ι).get i=(c.get i).map (AV.renL ι):=by
 cases c with
 | data es=>simp only [cG.ren,cG.get];cases es[i]? <;> simp [aU0]
 | av es=>simp [cG.ren,cG.get]
def kC.ren (ι:Nat→Nat) (o:kC):kC:=⟨o.ty,o.sz,o.cs.ren ι⟩
def fT.ren (ι:Nat→Nat):fT→fT
 | .no => .no
 | .dead => .dead
 | .live l => .live (l.map (kC.ren ι))
structure Ren (ι:Nat→Nat) (μ:cT) (h:eB) (μ':cT) (h':eB):Prop where
 h : ∀ p,h' (ι p)=(h p).ren ι
 m : ∀ p f, μ' (ι p) f=μ p f
theorem Ren.lv_ {ι:Nat→Nat} {μ μ':cT} {h h':eB} (R:Ren ι μ h μ' h') (p f:Nat):lv h' (ι p) f=(lv h p f).map (kC.ren ι):=by
 unfold lv
 rw [R.h p]
 cases h p <;> simp [fT.ren]
theorem Ren.no_ {ι:Nat→Nat} {μ μ':cT} {h h':eB} (R:Ren ι μ h μ' h') (p:Nat):h' (ι p) = .no ↔ h p = .no:=by
 rw [R.h p]
 cases h p <;> simp [fT.ren]
theorem fC.ren {ι:Nat→Nat} {μ μ':cT} {h h':eB} (R:Ren ι μ h μ' h') {w:World} {F:Nat→Prop} {v:Value} {a:AV} (r:fC w F μ h v a):fC w F μ' h' v (a.ren ι):=by
 induction r with
 | d v x hd=>exact .d v x hd
 | agg vs cs hs hr ih =>
  refine .agg vs _ (by rw [hs,qA]) fun i v c hv hc => ?_
  rw [pZ] at hc
  obtain ⟨c',hc',rfl⟩:=Option.map_eq_some_iff.1 hc
  exact ih i v c' hv hc'
 | tup vs cs hs hr ih =>
  refine .tup vs _ (by rw [hs,qA]) fun i v c hv hc => ?_
  rw [pZ] at hc
  obtain ⟨c',hc',rfl⟩:=Option.map_eq_some_iff.1 hc
  exact ih i v c' hv hc'
 | ref b off cs g hF hg hr=>exact .ref b off cs g hF hg hr
 | ptr v k f n i j h1 hb hv =>
  refine .ptr v _ f n i j h1 (fun e=>hb ((R.no_ k).1 e)) fun o' ho' => ?_
  rw [R.lv_] at ho'
  obtain ⟨o,ho,rfl⟩:=Option.map_eq_some_iff.1 ho'
  rw [R.m]
  simpa [kC.ren,cG.ren_len] using hv o ho
 | own v k f n h1 hb hv =>
  refine .own v _ f n h1 (fun e=>hb ((R.no_ k).1 e)) fun o' ho' => ?_
  rw [R.lv_] at ho'
  obtain ⟨o,ho,rfl⟩:=Option.map_eq_some_iff.1 ho'
  rw [R.m]
  simpa [kC.ren,cG.ren_len,aWz] using hv o ho
 | fn g vs cs hs hr ih =>
  refine .fn g vs _ (by rw [hs,qA]) fun i v c hv hc => ?_
  rw [pZ] at hc
  obtain ⟨c',hc',rfl⟩:=Option.map_eq_some_iff.1 hc
  exact ih i v c' hv hc'
 | dead v=>exact .dead v
theorem fC.unren {ι:Nat→Nat} {μ μ':cT} {h h':eB} (R:Ren ι μ h μ' h') {w:World} {F:Nat→Prop} {v:Value} {b:AV} (r:fC w F μ' h' v b) : ∀ a:AV,b=a.ren ι→fC w F μ h v a:=by
 induction r with
 | d v x hd=>intro a e;cases a <;> simp [AV.ren] at e;subst e;exact .d v _ hd
 | agg vs cs hs hr ih =>
  intro a e
  cases a <;> simp [AV.ren] at e
  rename_i cs'
  subst e
  refine .agg vs _ (by rw [hs,qA]) fun i v c hv hc=>ih i v _ hv (by rw [pZ,hc];rfl) c rfl
 | tup vs cs hs hr ih =>
  intro a e
  cases a <;> simp [AV.ren] at e
  rename_i cs'
  subst e
  refine .tup vs _ (by rw [hs,qA]) fun i v c hv hc=>ih i v _ hv (by rw [pZ,hc];rfl) c rfl
 | ref b off cs g hF hg hr=>intro a e;cases a <;> simp [AV.ren] at e;subst e;exact .ref b off _ g hF hg hr
 | ptr v k f n i j h1 hb hv =>
  intro a e
  cases a <;> simp [AV.ren] at e
  rename_i k' f' n' i' j'
  obtain ⟨rfl,rfl,rfl,rfl,rfl⟩:=e
  refine .ptr v k' _ _ _ _ h1 (fun e=>hb ((R.no_ k').2 e)) fun o ho => ?_
  have:=hv (o.ren ι) (by rw [R.lv_,ho];rfl)
  rw [R.m] at this
  simpa [kC.ren,cG.ren_len] using this
 | own v k f n h1 hb hv =>
  intro a e
  cases a <;> simp [AV.ren] at e
  rename_i k' f' n'
  obtain ⟨rfl,rfl,rfl⟩:=e
  refine .own v k' _ _ h1 (fun e=>hb ((R.no_ k').2 e)) fun o ho => ?_
  have:=hv (o.ren ι) (by rw [R.lv_,ho];rfl)
  rw [R.m] at this
  simpa [kC.ren,cG.ren_len,aWz] using this
 | fn g vs cs hs hr ih =>
  intro a e
  cases a <;> simp [AV.ren] at e
  rename_i g' cs'
  obtain ⟨rfl,rfl⟩:=e
  refine .fn _ vs _ (by rw [hs,qA]) fun i v c hv hc=>ih i v _ hv (by rw [pZ,hc];rfl) c rfl
 | dead v=>intro a e;cases a <;> simp [AV.ren] at e;exact .dead v
def DV.flat:DV→Bool
 | .v _=>true
 | .sl _=>false
 | .mp _=>false
mutual
def AV.flat:AV→Bool
 | .d x=>x.flat
 | .agg cs=>AV.flatL cs
 | .tup cs=>AV.flatL cs
 | .ref _=>false
 | .fn _ cs=>AV.flatL cs
 | _=>true
def AV.flatL:List AV→Bool
 | []=>true
 | c :: cs=>c.flat && AV.flatL cs
end
theorem wT : ∀ {cs:List AV},AV.flatL cs=true → ∀ {i:Nat} {c:AV},cs[i]? = some c→c.flat=true
 | [],_,i,c,hc=>by simp at hc
 | x :: cs,h,0,c,hc=>by simp [AV.flatL] at h hc;rw [← hc];exact h.1
 | x :: cs,h,i+1,c,hc=>by simp [AV.flatL] at h hc;exact wT h.2 hc
theorem fC.reF {w:World} {F F':Nat→Prop} {μ:cT} {h:eB} {v:Value} {a:AV} (r:fC w F μ h v a):a.flat=true→fC w F' μ h v a:=by
 induction r with
 | d v x hd =>
  intro hf
  cases x with
  | v x=>cases hd with | v _ h1=>exact .d _ _ (.v _ h1)
  | sl es=>simp [AV.flat,DV.flat] at hf
  | mp f=>simp [AV.flat,DV.flat] at hf
 | agg vs cs hs hr ih=>intro hf;exact .agg vs cs hs fun i v c hv hc=>ih i v c hv hc (wT (by simpa [AV.flat] using hf) hc)
 | tup vs cs hs hr ih=>intro hf;exact .tup vs cs hs fun i v c hv hc=>ih i v c hv hc (wT (by simpa [AV.flat] using hf) hc)
 | ref b off cs g hF hg hr=>intro hf;simp [AV.flat] at hf
 | ptr v k f n i j h1 hb hv=>intro _;exact .ptr v k f n i j h1 hb hv
 | own v k f n h1 hb hv=>intro _;exact .own v k f n h1 hb hv
 | fn g vs cs hs hr ih=>intro hf;exact .fn g vs cs hs fun i v c hv hc=>ih i v c hv hc (wT (by simpa [AV.flat] using hf) hc)
 | dead v=>intro _;exact .dead v
def cG.flat:cG→Prop
 | .data es => ∀ e ∈ es, ∀ x ∈ e,DV.flat x=true
 | .av es => ∀ e ∈ es,AV.flatL e=true
theorem aP7 {c:cG} (hf:c.flat) {i:Nat} {cells:List AV} (hi:c.get i=some cells) {j:Nat} {a:AV} (hj:cells[j]? = some a):a.flat=true:=by
 cases c with
 | data es =>
  simp only [cG.get] at hi
  obtain ⟨e,he,rfl⟩:=Option.map_eq_some_iff.1 hi
  simp only [List.getElem?_map] at hj
  obtain ⟨x,hx,rfl⟩:=Option.map_eq_some_iff.1 hj
  exact hf e (List.mem_of_getElem? he) x (List.mem_of_getElem? hx)
 | av es=>exact wT (hf cells (List.mem_of_getElem? hi)) hj
inductive sX (h:eB):AV→AV→Prop
 | d (x:DV):sX h (.d x) (.d x)
 | agg (cs ds:List AV) (hl:cs.length=ds.length) (hv : ∀ (i:Nat) (c d:AV),cs[i]? = some c→ds[i]? = some d→sX h c d):sX h (.agg cs) (.agg ds)
 | tup (cs ds:List AV) (hl:cs.length=ds.length) (hv : ∀ (i:Nat) (c d:AV),cs[i]? = some c→ds[i]? = some d→sX h c d):sX h (.tup cs) (.tup ds)
 | fn (g:FuncId) (cs ds:List AV) (hl:cs.length=ds.length) (hv : ∀ (i:Nat) (c d:AV),cs[i]? = some c→ds[i]? = some d→sX h c d):sX h (.fn g cs) (.fn g ds)
 | ref (cs ds:List DV) (hp : ∀ (j:Nat) (x:DV),ds[j]? = some x→cs[j]? = some x):sX h (.ref cs) (.ref ds)
 | row (k f n:Nat) (o:kC) (ds:List (List DV)) (ho:lv h k f=some o) (hn:o.cs.len=n) (hd:ds.length=n)
   (hc : ∀ (i:Nat) (e:List DV),ds[i]? = some e → ∃ cells,o.cs.get i=some cells∧cells.length=e.length)
   (hv : ∀ (i:Nat) (e:List DV) (cells:List AV) (j:Nat) (c:AV) (x:DV),ds[i]? = some e→o.cs.get i=some cells→cells[j]? = some c→e[j]? = some x→sX h c (.d x)) :
   sX h (.own k f n) (.d (.sl ds))
 | ptr (k f n i j:Nat) (o:kC) (cells:List AV) (ds:List DV) (ho:lv h k f=some o) (hn:o.cs.len=n) (hi:o.cs.get i=some cells) (hl:ds.length≤cells.length-j)
   (hv : ∀ (t:Nat) (c:AV) (x:DV),cells[j+t]? = some c→ds[t]? = some x→sX h c (.d x)):sX h (.ptr k f n i j) (.ref ds)
theorem sX.data {h:eB} {k f n:Nat} {o:kC} {es:List (List DV)} (ho:lv h k f=some o) (hc:o.cs = .data es) (hn:es.length=n):sX h (.own k f n) (.d (.sl es)):=by
 refine .row k f n o es ho (by rw [hc];exact hn) hn (fun i e he=>⟨e.map .d,by rw [hc];simp [cG.get,he],by simp⟩) fun i e cells j c x he hi hj hx => ?_
 rw [hc] at hi
 simp only [cG.get,he,Option.map_some,Option.some.injEq] at hi
 subst hi
 simp only [List.getElem?_map,hx,Option.map_some,Option.some.injEq] at hj
 subst hj
 exact .d x
theorem fC.view {E:Env} {F:Nat→Prop} {μ:cT} {h:eB} {w:World} (H:iY E F μ h w) {μ2:cT} {h2:eB} {a a':AV} (V:sX h a a') :
  ∀ v,fC w F μ h v a→fC w (fun b=>F b∨aWq μ h b) μ2 h2 v a':=by
 induction V with
 | d x=>intro v r;cases r with | d v x hd=>exact .d v x (hd.mono (fun _ _=>rfl) (fun _ => .inl))
 | agg cs ds hl hv ih =>
  intro v r
  cases r with | agg vs cs hs hr =>
  refine .agg vs ds (hs.trans hl) fun i v d hi hd => ?_
  have hlt:i<ds.length:=(List.getElem?_eq_some_iff.1 hd).1
  exact ih i _ d (List.getElem?_eq_getElem (by omega)) hd v (hr i v _ hi (List.getElem?_eq_getElem (by omega)))
 | tup cs ds hl hv ih =>
  intro v r
  cases r with | tup vs cs hs hr =>
  refine .tup vs ds (hs.trans hl) fun i v d hi hd => ?_
  have hlt:i<ds.length:=(List.getElem?_eq_some_iff.1 hd).1
  exact ih i _ d (List.getElem?_eq_getElem (by omega)) hd v (hr i v _ hi (List.getElem?_eq_getElem (by omega)))
 | fn g cs ds hl hv ih =>
  intro v r
  cases r with | fn g vs cs hs hr =>
  refine .fn g vs ds (hs.trans hl) fun i v d hi hd => ?_
  have hlt:i<ds.length:=(List.getElem?_eq_some_iff.1 hd).1
  exact ih i _ d (List.getElem?_eq_getElem (by omega)) hd v (hr i v _ hi (List.getElem?_eq_getElem (by omega)))
 | ref cs ds hp=>intro v r;cases r with | ref b off cs g hF hg hr=>exact .ref b off ds g (.inl hF) (fun j x hx=>hg j x (hp j x hx)) fun j x hx=>(hr j x (hp j x hx)).mono (fun _ _=>rfl) (fun _ => .inl)
 | row k f n o ds ho hn hd hc hv ih =>
  intro v r
  cases r with | own v k f n h10 hb hv' =>
  rcases (hv' o ho).2 hn with ⟨h1,h2,h3⟩ | ⟨b,c,cur,h1,h2,h3,h4,h5,h6⟩
  ·subst h3
   have:ds=[]:=List.eq_nil_of_length_eq_zero (by omega)
   subst this
   exact .d _ _ .nil
  ·subst h2
   have hob:=H.ob k f o ho
   rcases hob with ⟨h7,_⟩ | ⟨b',cur',h7,h8,h9⟩
   ·rw [h1] at h7;cases h7
   ·rw [h1] at h7
    injection h7 with h7
    subst h7
    rw [h3] at h8
    injection h8 with h8
    injection h8 with h8
    subst h8
    refine .d _ _ ?_
    rw [← hd]
    have cellAt : ∀ (i:Nat) (e:List DV) (j:Nat) (x:DV),ds[i]? = some e→e[j]? = some x → ∃ cells c u,o.cs.get i=some cells∧cells[j]? = some c∧cur[i*o.sz+j]? = some u∧fC w F μ h u c:=by
     intro i e j x he hx
     obtain ⟨cells,hci,hcl⟩:=hc i e he
     have hj:j<e.length:=(List.getElem?_eq_some_iff.1 hx).1
     obtain ⟨u,hu,hr⟩:=(h9 i cells hci).2 j _ (List.getElem?_eq_getElem (show j<cells.length by omega))
     exact ⟨cells,_,u,hci,List.getElem?_eq_getElem (by omega),hu,hr⟩
    refine .sl b 0 c o.sz ds (fun i j=>cur.getD (i*o.sz+j) undef) (.inr ⟨k,f,o,ho,h1⟩) (by omega) h6 (fun i e he => ?_) (fun i e j x he hx => ?_) (fun i e j x he hx => ?_)
    ·obtain ⟨cells,hci,hcl⟩:=hc i e he
     exact hcl.symm.trans (h9 i cells hci).1
    ·obtain ⟨cells,c',u,_,_,hu,_⟩:=cellAt i e j x he hx
     rw [Nat.zero_add,cell_of_row w b _ cur o.ty (0,0) h3,hu]
     simp [hu]
    ·obtain ⟨cells,c',u,hci,hcj,hu,hr⟩:=cellAt i e j x he hx
     have:=ih i e cells j c' x he hci hcj hx u hr
     have e1:cur.getD (i*o.sz+j) undef=u:=by simp [hu]
     rw [e1]
     cases this with | d _ _ hd=>exact hd
 | ptr k f n i j o cells ds ho hn hi hl hv ih =>
  intro v r
  cases r with | ptr v k f n i j h10 hb hv' =>
  obtain ⟨b,h1,rfl⟩:=(hv' o ho).2 hn
  rcases H.ob k f o ho with ⟨h7,_⟩ | ⟨b',cur,h7,h8,h9⟩
  ·rw [h1] at h7;cases h7
  ·rw [h1] at h7
   injection h7 with h7
   subst h7
   have cellAt : ∀ (t:Nat) (x:DV),ds[t]? = some x → ∃ c u,cells[j+t]? = some c∧cur[i*o.sz+(j+t)]? = some u∧fC w F μ h u c:=by
    intro t x hx
    have ht:t<ds.length:=(List.getElem?_eq_some_iff.1 hx).1
    obtain ⟨u,hu,hr⟩:=(h9 i cells hi).2 (j+t) _ (List.getElem?_eq_getElem (show j+t<cells.length by omega))
    exact ⟨_,u,List.getElem?_eq_getElem (by omega),hu,hr⟩
   refine .ref b _ ds (fun t=>cur.getD (i*o.sz+(j+t)) undef) (.inr ⟨k,f,o,ho,h1⟩) (fun t x hx => ?_) (fun t x hx => ?_)
   ·obtain ⟨c,u,_,hu,_⟩:=cellAt t x hx
    rw [cell_of_row w b _ cur o.ty (0,0) h8,Nat.add_assoc,hu]
    simp [hu]
   ·obtain ⟨c,u,hcj,hu,hr⟩:=cellAt t x hx
    have:=ih t c x hcj hx u hr
    have e1:cur.getD (i*o.sz+(j+t)) undef=u:=by simp [hu]
    rw [e1]
    cases this with | d _ _ hd=>exact hd
def lks (hs:List fT):eB:=fun p=>hs.getD p .no
def FnG (P:Program) (f:FuncId) (hin:List fT) (args:List AV) (hout:List fT) (r:AV):Prop :=
 ∀ (w:World) (F:Nat→Prop) (μ:cT) (vs:Array Value) (gl:aFc F w),iY ⟨w,F, μ,lks hin,gl⟩ F μ (lks hin) w→vs.size=args.length →
  (∀ (i:Nat) v a,vs[i]? = some v→args[i]? = some a→fC w F μ (lks hin) v a) →
  Calls P f vs w fun e w' => ∃ v F' μ',e = .returned v∧iY ⟨w,F, μ,lks hin,gl⟩ F' μ' (lks hout) w'∧fC w' F' μ' (lks hout) v r
end Go.Proofs.YtceknlcbfomdhaaGreatDoor
namespace Go.Proofs.YtceknlcbfomdhaaGreatDoor
open Go.RowKit
set_option linter.unusedVariables false
set_option maxRecDepth 100000
section
variable {E:Env} {F Fc F1 F':Nat→Prop} {μ μ1 μ':cT} {h hc h1 h':eB} {w w1:World} {ι:Nat→Nat}
theorem sZ.ren (R:Ren ι μ h μ' h') {p:Option Nat} {o:kC} (r:sZ w F μ h p o):sZ w F μ' h' p (o.ren ι):=by
 rcases r with ⟨h1,h2⟩ | ⟨b,cur,h1,h2,h3⟩
 ·exact .inl ⟨h1,by simpa [kC.ren,cG.ren_len] using h2⟩
 ·refine .inr ⟨b,cur,h1,h2,fun i cells hi => ?_⟩
  simp only [kC.ren,cG.ren_get] at hi
  obtain ⟨c0,hc0,rfl⟩:=Option.map_eq_some_iff.1 hi
  refine ⟨by rw [qA];exact (h3 i c0 hc0).1,fun j c hj => ?_⟩
  rw [pZ] at hj
  obtain ⟨c1,hc1,rfl⟩:=Option.map_eq_some_iff.1 hj
  obtain ⟨u,hu,hr⟩:=(h3 i c0 hc0).2 j c1 hc1
  exact ⟨u,hu,hr.ren R⟩
theorem iY.join {gl:aFc F w} (H:iY E F μ h w) (hι : ∀ p q, ι p=ι q→p=q) (R:Ren ι (fun p f=>μ (ι p) f) hc μ h) (H1:iY ⟨w,F,fun p f=>μ (ι p) f,hc,gl⟩ F' μ1 h1 w1)
  (R1:Ren ι μ1 h1 μ' h') (hout : ∀ k,(∀ p,k≠ι p)→h' k=h k ∧ ∀ f, μ' k f=μ k f):iY E F' μ' h' w1∧Evo w F μ h w1 F' μ' h':=by
 have own : ∀ {b},Env.O0 ⟨w,F,fun p f=>μ (ι p) f,hc,gl⟩ b → ∃ p f o,lv h (ι p) f=some o∧μ (ι p) f=some b:=fun ⟨p,f,o,hl,hm⟩=>⟨p,f,_,by rw [R.lv_,hl];rfl,hm⟩
 have far : ∀ {k f o b},(∀ p,k≠ι p)→lv h k f=some o→μ k f=some b → ¬ Env.O0 ⟨w,F,fun p f=>μ (ι p) f,hc,gl⟩ b:=fun hk hl hm hO=>by
  obtain ⟨p,f',o',hl',hm'⟩:=own hO
  exact hk p (H.inj _ _ _ _ _ _ _ hl hl' hm hm').1
 have stay : ∀ {k f o b},(∀ p,k≠ι p)→lv h k f=some o→μ k f=some b→w1.heap[b]? = w.heap[b]? := fun hk hl hm=>H1.keep _ (H.lt hl hm) (far hk hl hm)
 have lvout : ∀ {k f},(∀ p,k≠ι p)→lv h' k f=lv h k f:=fun hk=>by simp [lv,(hout _ hk).1]
 have V:Evo w F μ h w1 F' μ' h':=by
  refine ⟨H1.ev.fr,H1.ev.fs,fun k hk => ?_,fun k f o' hk ho' => ?_⟩
  ·by_cases e : ∃ p,k=ι p
   ·obtain ⟨p,rfl⟩:=e
    intro e
    exact H1.ev.born p (fun e2=>hk ((R.no_ p).2 e2)) ((R1.no_ p).1 e)
   ·rw [(hout k (fun p hp=>e ⟨p,hp⟩)).1];exact hk
  ·by_cases e : ∃ p,k=ι p
   ·obtain ⟨p,rfl⟩:=e
    rw [R1.lv_] at ho'
    obtain ⟨o1,ho1,rfl⟩:=Option.map_eq_some_iff.1 ho'
    obtain ⟨o,ho,hx⟩:=H1.ev.live p f o1 (fun e2=>hk ((R.no_ p).2 e2)) ho1
    refine ⟨o.ren ι,by rw [R.lv_,ho];rfl,?_⟩
    rw [R1.m]
    simpa [kC.ren,cG.ren_len] using hx
   ·have hk' : ∀ p,k≠ι p:=fun p hp=>e ⟨p,hp⟩
    rw [lvout hk'] at ho'
    exact ⟨o',ho', .inr ⟨rfl,rfl,(hout k hk').2 f,fun b cur hm hcu=>⟨cur,(stay hk' ho' hm).trans hcu,rfl⟩⟩⟩
 refine ⟨⟨fun k f o hl => ?_,fun k f o k2 f2 o2 b l1 l2 m1 m2 => ?_,fun k f o b hl hm => ?_,fun k f o b hl hm => ?_,H1.fz,fun b hb => ?_,H.ev.trans V,H1.os.trans H.os,H1.tape.trans H.tape,H1.output.trans H.output,Nat.le_trans H.size H1.size,fun b hb1 hb2 => ?_⟩,V⟩
 ·by_cases e : ∃ p,k=ι p
  ·obtain ⟨p,rfl⟩:=e
   rw [R1.lv_] at hl
   obtain ⟨o1,ho1,rfl⟩:=Option.map_eq_some_iff.1 hl
   rw [R1.m]
   exact (H1.ob p f o1 ho1).ren R1
  ·have hk' : ∀ p,k≠ι p:=fun p hp=>e ⟨p,hp⟩
   rw [lvout hk'] at hl
   rw [(hout k hk').2]
   exact (H.ob k f o hl).evo V fun b hm=>stay hk' hl hm
 ·have mix : ∀ {p f o k2 f2 o2},lv h' (ι p) f=some o→(∀ q,k2≠ι q)→lv h' k2 f2=some o2→μ' (ι p) f=some b→μ' k2 f2=some b→False:=fun {p f o k2 f2 o2} l1 hk2 l2 m1 m2=>by
   rw [R1.lv_] at l1
   obtain ⟨o1,ho1,rfl⟩:=Option.map_eq_some_iff.1 l1
   rw [R1.m] at m1
   rw [lvout hk2] at l2
   rw [(hout _ hk2).2] at m2
   rcases H1.src p f o1 b ho1 m1 with hs | hs
   ·exact far hk2 l2 m2 hs
   ·have:=H.lt l2 m2;have hs:w.heap.size≤b:=hs;omega
  by_cases e : ∃ p,k=ι p
  ·obtain ⟨p,rfl⟩:=e
   by_cases e2 : ∃ q,k2=ι q
   ·obtain ⟨q,rfl⟩:=e2
    rw [R1.lv_] at l1 l2
    obtain ⟨o1,ho1,rfl⟩:=Option.map_eq_some_iff.1 l1
    obtain ⟨o3,ho3,rfl⟩:=Option.map_eq_some_iff.1 l2
    rw [R1.m] at m1 m2
    obtain ⟨rfl,rfl⟩:=H1.inj _ _ _ _ _ _ b ho1 ho3 m1 m2
    exact ⟨rfl,rfl⟩
   ·exact (mix l1 (fun q hq=>e2 ⟨q,hq⟩) l2 m1 m2).elim
  ·by_cases e2 : ∃ q,k2=ι q
   ·obtain ⟨q,rfl⟩:=e2
    exact (mix l2 (fun q hq=>e ⟨q,hq⟩) l1 m2 m1).elim
   ·have a1 : ∀ p,k≠ι p:=fun p hp=>e ⟨p,hp⟩
    have a2 : ∀ p,k2≠ι p:=fun p hp=>e2 ⟨p,hp⟩
    rw [lvout a1] at l1;rw [lvout a2] at l2
    rw [(hout _ a1).2] at m1;rw [(hout _ a2).2] at m2
    exact H.inj _ _ _ _ _ _ b l1 l2 m1 m2
 ·by_cases e : ∃ p,k=ι p
  ·obtain ⟨p,rfl⟩:=e
   rw [R1.lv_] at hl
   obtain ⟨o1,ho1,rfl⟩:=Option.map_eq_some_iff.1 hl
   rw [R1.m] at hm
   exact H1.sep p f o1 b ho1 hm
  ·have hk' : ∀ p,k≠ι p:=fun p hp=>e ⟨p,hp⟩
   rw [lvout hk'] at hl;rw [(hout _ hk').2] at hm
   intro hb
   rcases H1.fsrc b hb with hs | hs | hs
   ·exact H.sep _ _ _ b hl hm hs
   ·exact far hk' hl hm hs
   ·have:=H.lt hl hm;have hs:w.heap.size≤b:=hs;omega
 ·by_cases e : ∃ p,k=ι p
  ·obtain ⟨p,rfl⟩:=e
   rw [R1.lv_] at hl
   obtain ⟨o1,ho1,rfl⟩:=Option.map_eq_some_iff.1 hl
   rw [R1.m] at hm
   rcases H1.src p f o1 b ho1 hm with hs | hs
   ·obtain ⟨p',f',o',hl',hm'⟩:=own hs
    exact H.src _ _ _ b hl' hm'
   ·have:=H.size;have hs:w.heap.size≤b:=hs;exact .inr (by omega)
  ·have hk' : ∀ p,k≠ι p:=fun p hp=>e ⟨p,hp⟩
   rw [lvout hk'] at hl;rw [(hout _ hk').2] at hm
   exact H.src _ _ _ b hl hm
 ·rcases H1.fsrc b hb with hs | hs | hs
  ·exact H.fsrc b hs
  ·obtain ⟨p',f',o',hl',hm'⟩:=own hs
   exact .inr (H.src _ _ _ b hl' hm')
  ·have:=H.size;have hs:w.heap.size≤b:=hs;exact .inr (.inr (by omega))
 ·have:=H.size
  have hno : ¬ Env.O0 ⟨w,F,fun p f=>μ (ι p) f,hc,gl⟩ b:=fun hO=>by
   obtain ⟨p',f',o',hl',hm'⟩:=own hO
   rcases H.src _ _ _ b hl' hm' with hs | hs
   ·exact hb2 hs
   ·omega
  exact (H1.keep b (show b<w.heap.size by omega) hno).trans (H.keep b hb1 hb2)
theorem iY.flatF {gl:aFc Fc w} {gl':aFc F w} {D:Nat→Prop} (hD : ∀ b,Fc b→F b∨D b) (hF : ∀ b,F b→Fc b ∧ ¬ D b) (H1:iY ⟨w,Fc, μ,fun _ => .no,gl⟩ F1 μ1 h1 w1) (hfl : ∀ p f o,lv h1 p f=some o→o.cs.flat) (hlt : ∀ b,D b→b<w.heap.size) :
  iY ⟨w,F, μ,fun _ => .no,gl'⟩ (fun b=>F1 b ∧ ¬ D b) μ1 h1 w1:=by
 have noO : ∀ {F b} {gl:aFc F w}, ¬ Env.O0 ⟨w,F, μ,fun _ => .no,gl⟩ b:=fun ⟨_,_,_,hl,_⟩=>by simp [lv] at hl
 refine ⟨fun k f o hl => ?_,H1.inj,fun k f o b hl hm hb=>H1.sep k f o b hl hm hb.1,fun k f o b hl hm=>(H1.src k f o b hl hm).imp (fun hO=>absurd hO noO) id,fun b hb=>H1.fz b hb.1,fun b hb => ?_,?_,H1.os,H1.tape,H1.output,H1.size,
  fun b h1 h2=>H1.keep b h1 noO⟩
 ·rcases H1.ob k f o hl with r | ⟨b,cur,a1,a2,a3⟩
  ·exact .inl r
  ·refine .inr ⟨b,cur,a1,a2,fun i cells hi=>⟨(a3 i cells hi).1,fun j c hj => ?_⟩⟩
   obtain ⟨u,hu,hr⟩:=(a3 i cells hi).2 j c hj
   exact ⟨u,hu,hr.reF (aP7 (hfl k f o hl) hi hj)⟩
 ·rcases H1.fsrc b hb.1 with hs | hs | hs
  ·exact .inl ((hD b hs).resolve_right hb.2)
  ·exact absurd hs noO
  ·exact .inr (.inr hs)
 ·exact ⟨fun b hb=>H1.ev.fr b (hF b hb).1,fun b hb=>⟨H1.ev.fs b (hF b hb).1,(hF b hb).2⟩,fun k hk=>absurd rfl hk,fun k f o' hk=>absurd rfl hk⟩
def Abv (h:eB) (B:Nat):Prop := ∀ k,B≤k→h k = .no
theorem oZ (B:Nat):Abv (fun _ => .no) B:=fun _ _=>rfl
theorem pA {h:eB} {k B:Nat} {s:fT} (a:Abv h B) (hk:Nat.blt k B=true):Abv (upd h k s) B:=fun k' hk'=>by
 have:k<B:=by have:=hk;simp [Nat.blt] at this;omega
 rw [dZ _ _ (by omega)];exact a k' hk'
def rV (h:eB) (B:Nat):List fT→eB
 | []=>h
 | s :: ss=>rV (upd h B s) (B+1) ss
theorem zW (h:eB) : ∀ (ss:List fT) (B k:Nat),k<B→rV h B ss k=h k:=by
 intro ss
 induction ss generalizing h with
 | nil=>intro B k _;rfl
 | cons s ss ih=>intro B k hk;rw [rV,ih _ _ _ (by omega),dZ _ _ (by omega)]
theorem aDs (h:eB) : ∀ (ss:List fT) (B p:Nat),Abv h B→rV h B ss (B+p)=ss.getD p .no:=by
 intro ss
 induction ss generalizing h with
 | nil=>intro B p a;simp [rV,a (B+p) (by omega)]
 | cons s ss ih =>
  intro B p a
  rw [rV]
  cases p with
  | zero=>rw [zW _ _ _ _ (by omega),Nat.add_zero,dE];rfl
  | succ p =>
   rw [show B+(p+1)=B+1+p by omega,ih _ (B+1) p (fun k hk=>by rw [dZ _ _ (by omega)];exact a k (by omega))]
   simp
theorem aVv (ι:Nat→Nat) (hs:List fT) (p:Nat):(hs.map (fT.ren ι)).getD p .no=(lks hs p).ren ι:=by
 unfold lks
 simp only [List.getD_eq_getElem?_getD,List.getElem?_map]
 cases hs[p]? <;> rfl
theorem iY.join0 {gl:aFc F w} (H:iY E F μ h w) {B:Nat} (hB:Abv h B) {hs:List fT} (H1:iY ⟨w,F,fun p f=>μ (B+p) f,lks [],gl⟩ F' μ1 (lks hs) w1) :
  ∃ μ',iY E F' μ' (rV h B (hs.map (fT.ren (B + ·)))) w1∧Evo w F μ h w1 F' μ' (rV h B (hs.map (fT.ren (B + ·))))∧Ren (B + ·) μ1 (lks hs) μ' (rV h B (hs.map (fT.ren (B + ·)))):=by
 have R1:Ren (B + ·) μ1 (lks hs) (fun k f=>if B≤k then μ1 (k-B) f else μ k f) (rV h B (hs.map (fT.ren (B + ·)))) :=
  ⟨fun p=>by rw [aDs _ _ _ _ hB,aVv],fun p f=>by rw [if_pos (by omega)];congr 1;omega⟩
 refine ⟨fun k f=>if B≤k then μ1 (k-B) f else μ k f,?_⟩
 have J:=H.join (ι:=(B + ·)) (hc:=lks []) (fun p q e=>by have e:B+p=B+q:=e;omega) ⟨fun p=>by rw [hB _ (by omega)];rfl,fun p f=>rfl⟩ H1 R1 (fun k hk => ?_)
 ·exact ⟨J.1,J.2,R1⟩
 ·have:k<B:=by
   rcases Nat.lt_or_ge k B with hlt | hge
   ·exact hlt
   ·exact absurd (show k=B+(k-B) by omega) (hk (k-B))
  exact ⟨zW _ _ _ _ this,fun f=>by rw [if_neg (by omega)]⟩
end
end Go.Proofs.YtceknlcbfomdhaaGreatDoor
namespace Go.Proofs.YtceknlcbfomdhaaGreatDoor
open Go.RowKit
set_option linter.unusedVariables false
set_option maxRecDepth 100000
structure AS where
 t:Nat→AV
 h:eB
def aC (t:Nat→AV) (d:Nat) (r:AV):Nat→AV:=fun t'=>bif Nat.beq t' d then r else t t'
theorem gC (t:Nat→AV) (d:Nat) (r:AV):aC t d r d=r:=by simp [aC]
theorem lM (t:Nat→AV) {d t':Nat} (r:AV) (hne:t'≠d):aC t d r t'=t t':=by
 have:Nat.beq t' d=false:=by rw [← Bool.not_eq_true,Nat.beq_eq];exact hne
 simp [aC,this]
def AS.put (σ:AS) (dst:Option Tmp) (r:AV):AS :=
 match dst with
 | none=>σ
 | some d=>⟨aC σ.t d r, σ.h⟩
theorem AS.put_h (σ:AS) (dst:Option Tmp) (r:AV):(σ.put dst r).h=σ.h:=by cases dst <;> rfl
theorem AS.put_t (σ:AS) (dst:Option Tmp) (r:AV) {t:Nat} (hn : ∀ d,dst=some d→t≠d):(σ.put dst r).t t=σ.t t:=by
 cases dst with
 | none=>rfl
 | some d=>exact lM _ _ (hn d rfl)
theorem AS.put_comm (σ:AS) {x y:Option Tmp} (r s:AV) (hn : ∀ d,x=some d→y≠some d):(σ.put x r).put y s=(σ.put y s).put x r:=by
 cases x with
 | none=>cases y <;> rfl
 | some d =>
  cases y with
  | none=>rfl
  | some e =>
   have hne:e≠d:=fun he=>hn d rfl (by rw [he])
   simp only [AS.put]
   congr 1
   funext t
   by_cases h1:t=e
   ·subst h1;rw [gC,lM _ _ hne,gC]
   ·rw [lM _ _ h1]
    by_cases h2:t=d
    ·subst h2;rw [gC,gC]
    ·rw [lM _ _ h2,lM _ _ h2,lM _ _ h1]
structure aP2 (L:Nat) (E:Env) (N:Nat) (F:Nat→Prop) (μ:cT) (σ:AS) (a:Act) (w:World):Prop where
 H:iY E F μ σ.h w
 df:a.defers=[]
 sz:a.tmps.size=N
 tm : ∀ t,t<N→fC w F μ σ.h (a.tmps.getD t undef) (σ.t t)
 lim : ∀ p,L≤p→E.h0 p = .no
def Abs (L:Nat) (E:Env) (N:Nat) (σ:AS) (a:Act) (w:World):Prop := ∃ F μ,aP2 L E N F μ σ a w
def aXh (c:Value):AV:=bif c.oneCell' then .d (.v c) else .dead
theorem aDg {w:World} {F:Nat→Prop} {μ:cT} {h:eB} (v:Value):fC w F μ h v (aXh v):=by
 unfold aXh
 cases e:v.oneCell' with
 | true=>exact .d _ _ (.v _ e)
 | false=>exact .dead _
def aBy:List Value→List AV
 | []=>[]
 | c :: cs=>aXh c :: aBy cs
theorem pB : ∀ cs,aBy cs=cs.map aXh
 | []=>rfl
 | c :: cs=>by simp [aBy,pB cs]
def aQl:Value→AV
 | .agg cs => .agg (aBy cs.toList)
 | v=>aXh v
theorem aGb {w:World} {F:Nat→Prop} {μ:cT} {h:eB} (v:Value):fC w F μ h v (aQl v):=by
 cases v with
 | agg cs =>
  refine .agg cs _ (by simp [pB]) fun i v c hv hc => ?_
  simp only [pB,List.getElem?_map,Array.getElem?_toList,hv,Option.map_some,Option.some.injEq] at hc
  subst hc
  exact aDg v
 | _=>exact aDg _
def evA (N:Nat) (σ:AS):Operand→AV
 | .tmp t=>bif Nat.blt t N then σ.t t else .dead
 | .const v=>aQl v
 | .global g => .dead
 | .func f => .fn f []
theorem aD1 {E:Env} {L N:Nat} {F:Nat→Prop} {μ:cT} {σ:AS} {a:Act} {w:World} (A:aP2 L E N F μ σ a w) (x:Operand):fC w F μ σ.h (a.eval x) (evA N σ x):=by
 cases x with
 | tmp t =>
  simp only [evA]
  cases hb:Nat.blt t N with
  | false=>exact .dead _
  | true=>exact A.tm t (by have:=hb;simp [Nat.blt] at this;omega)
 | const v=>exact aGb v
 | global g=>exact .dead _
 | func f=>exact .fn f #[] [] rfl (fun i v c hv hc=>by simp at hc)
def aDp (P:Program) (K:Value→World→Prop):Result Next→Prop
 | .ok (.value v) w=>K v w
 | .ok .skip w=>K undef w
 | .ok (.enter f args) w=>Calls P f args w fun e w' => ∃ v,e = .returned v∧K v w'
 | _=>False
theorem mD {P:Program} {o:Oper} {a:Act} {w:World} {K:Value→World→Prop} {next:Act→World→Prop} {Q:Exit→Act→World→Prop} (h:aDp P K ((execOp a.eval o).run P w))
  (hk : ∀ v w',K v w'→next (a.put o.dst v) w'):o.wp P a w next Q:=by
 unfold Oper.wp
 generalize (execOp a.eval o).run P w=r at *
 cases r with
 | ok n w' =>
  cases n <;> simp only [aDp,Oper.upon] at h ⊢
  case value v=>exact hk _ _ h
  case skip=>exact hk _ _ h
  case enter f args =>
   refine h.mono ?_
   rintro e w'' ⟨v,rfl,hv⟩
   exact hk _ _ hv
 | halt x w'=>simp only [aDp] at h
def AV.key:AV→Option Nat
 | .ptr k .. => some k
 | .own k .. => some k
 | _=>none
def aFe (N:Nat) (o:Oper) (σ:AS) (ρ:Operand→Value) (w:World) (F:Nat→Prop) (μ:cT) (h:eB):Prop := ∀ x ∈ o.op.operands,fC w F μ h (ρ x) (evA N σ x)
def eV (P:Program) (N:Nat) (o:Oper) (σ:AS) (r:AV):Prop :=
 ∀ (w:World) F μ h ρ,aFe N o σ ρ w F μ h → ∃ u,(execOp ρ o).run P w = .ok (.value u) w∧fC w F μ h u r
def jO (P:Program) (N:Nat) (o:Oper) (σ:AS) (r:AV):Prop :=
 (∀ x ∈ o.op.operands, ∀ k,(evA N σ x).key=some k→σ.h k ≠ .no) ∧
 ∀ E F μ h (w:World) ρ,iY E F μ h w→aFe N o σ ρ w F μ h→(∀ x ∈ o.op.operands, ∀ k,(evA N σ x).key=some k→h k=σ.h k) → ∃ u,(execOp ρ o).run P w = .ok (.value u) w∧fC w F μ h u r
def dK (P:Program) (N:Nat) (o:Oper) (σ:AS) (r:AV) (h':eB):Prop :=
 ∀ E F μ (w:World) ρ,iY E F μ σ.h w→aFe N o σ ρ w F μ σ.h→aDp P (fun u w' => ∃ F' μ',iY E F' μ' h' w'∧Evo w F μ σ.h w' F' μ' h'∧fC w' F' μ' h' u r) ((execOp ρ o).run P w)
inductive Cls where
 | pu | li | st | wr
 | al (k:Nat)
 | sb (B:Nat)
 | lk (k:Nat)
 | wk (k:Nat)
 | wx (k B:Nat)
def aB5 (B:Nat) (h g:eB):eB:=fun p=>bif Nat.blt p B then h p else g p
def aWy (N:Nat) (o:Oper) (σ:AS) (k:Nat):Prop := ∀ x ∈ o.op.operands, ∀ k',(evA N σ x).key=some k'→k'=k
def yR (N:Nat) (ops:Array Oper) (o:Oper) (σ:AS):Prop :=
 o.guard=none ∨ ∃ j want t,o.guard=some (j,want)∧(ops[j]?).bind (·.dst)=some t∧t<N∧σ.t t = .d (.v (.bool want))
inductive gK (P:Program) (N:Nat) (ops:Array Oper) (o:Oper) (σ:AS):Cls→AS→Prop
 | skip (hd : ∀ d,o.dst=some d→d<N) (j:Nat) (want:Bool) (t:Nat) (hg:o.guard=some (j,want)) (hj:(ops[j]?).bind (·.dst)=some t) (ht:t<N) (hb:σ.t t = .d (.v (.bool !want))∨σ.t t = .tup []) :
   gK P N ops o σ .pu (σ.put o.dst (.tup []))
 | pure (hd : ∀ d,o.dst=some d→d<N) (hw:yR N ops o σ) (r:AV) (hp:eV P N o σ r):gK P N ops o σ .pu (σ.put o.dst r)
 | light (hd : ∀ d,o.dst=some d→d<N) (hw:yR N ops o σ) (r:AV) (hp:jO P N o σ r):gK P N ops o σ .li (σ.put o.dst r)
 | still (hd : ∀ d,o.dst=some d→d<N) (hw:yR N ops o σ) (r:AV) (h':eB) (hx : ∀ k, σ.h k ≠ .no→h' k=σ.h k) (hp:dK P N o σ r h'):gK P N ops o σ .st ⟨(σ.put o.dst r).t,h'⟩
 | write (hd : ∀ d,o.dst=some d→d<N) (hw:yR N ops o σ) (r:AV) (h':eB) (hp:dK P N o σ r h'):gK P N ops o σ .wr ⟨(σ.put o.dst r).t,h'⟩
 | al (k:Nat) (hd : ∀ d,o.dst=some d→d<N) (hw:yR N ops o σ) (r:AV) (s:fT) (hk:σ.h k = .no) (hp : ∀ hx:eB,hx k = .no→dK P N o ⟨σ.t,hx⟩ r (upd hx k s)):gK P N ops o σ (.al k) ⟨(σ.put o.dst r).t,upd σ.h k s⟩
 | sb (B:Nat) (hd : ∀ d,o.dst=some d→d<N) (hw:yR N ops o σ) (r:AV) (g':eB) (hB:Abv σ.h B) (hp : ∀ hx:eB,Abv hx B→(∀ p, σ.h p ≠ .no→hx p=σ.h p)→dK P N o ⟨σ.t,hx⟩ r (aB5 B hx g')):gK P N ops o σ (.sb B) ⟨(σ.put o.dst r).t,aB5 B σ.h g'⟩
 | lk (k:Nat) (hd : ∀ d,o.dst=some d→d<N) (hw:yR N ops o σ) (r:AV) (hp:jO P N o σ r) (hk:aWy N o σ k):gK P N ops o σ (.lk k) (σ.put o.dst r)
 | wk (k:Nat) (hd : ∀ d,o.dst=some d→d<N) (hw:yR N ops o σ) (r:AV) (h':eB) (hp:dK P N o σ r h') (hx : ∀ p,p≠k→h' p=σ.h p):gK P N ops o σ (.wk k) ⟨(σ.put o.dst r).t,h'⟩
 | wx (k B:Nat) (hd : ∀ d,o.dst=some d→d<N) (hw:yR N ops o σ) (r:AV) (s:fT) (hB:Abv σ.h B) (hp : ∀ hx:eB,Abv hx B→hx k=σ.h k→dK P N o ⟨σ.t,hx⟩ r (upd hx k s)):gK P N ops o σ (.wx k B) ⟨(σ.put o.dst r).t,upd σ.h k s⟩
section
variable {P:Program} {L N:Nat} {ops:Array Oper} {E:Env}
theorem aGx {F:Nat→Prop} {μ:cT} {σ:AS} {a:Act} {w:World} (A:aP2 L E N F μ σ a w) {j t:Nat} {b:Bool} (hj:(ops[j]?).bind (·.dst)=some t) (ht:t<N) (hb:σ.t t = .d (.v (.bool b))):yielded ops a.tmps j=some b:=by
 have hr:=A.tm t ht
 rw [hb] at hr
 have hlt:t<a.tmps.size:=by rw [A.sz];exact ht
 have hv:a.tmps[t]? = some (.bool b):=by
  have:a.tmps.getD t undef = .bool b:=by
   generalize a.tmps.getD t undef=v at hr
   cases hr with | d _ _ hd=>cases hd;rfl
  rw [Array.getElem?_eq_getElem hlt]
  simpa [Array.getD,hlt] using this
 unfold yielded
 rw [hj]
 simp [hv]
theorem aMg {F:Nat→Prop} {μ:cT} {σ:AS} {a:Act} {w:World} (A:aP2 L E N F μ σ a w) {j t:Nat} (hj:(ops[j]?).bind (·.dst)=some t) (ht:t<N) (hb:σ.t t = .tup []):yielded ops a.tmps j=none:=by
 have hr:=A.tm t ht
 rw [hb] at hr
 have hlt:t<a.tmps.size:=by rw [A.sz];exact ht
 have hv : ∃ vs,a.tmps[t]? = some (.tuple vs):=by
  have : ∃ vs,a.tmps.getD t undef = .tuple vs:=by
   generalize a.tmps.getD t undef=v at hr
   cases hr with | tup vs _ _ _=>exact ⟨vs,rfl⟩
  obtain ⟨vs,this⟩:=this
  refine ⟨vs,?_⟩
  rw [Array.getElem?_eq_getElem hlt]
  simpa [Array.getD,hlt] using this
 obtain ⟨vs,hv⟩:=hv
 unfold yielded
 rw [hj]
 simp [hv]
theorem oV {F:Nat→Prop} {μ:cT} {σ:AS} {a:Act} {w:World} {o:Oper} (A:aP2 L E N F μ σ a w) (hw:yR N ops o σ):Region.wanted o (yielded ops a.tmps)=true:=by
 unfold Region.wanted
 rcases hw with hg | ⟨j,want,t,hg,hj,ht,hb⟩
 ·rw [hg]
 ·rw [hg];simp [aGx A hj ht hb]
theorem aP2.put_ {F F':Nat→Prop} {μ μ':cT} {σ:AS} {a:Act} {w w':World} {h':eB} (A:aP2 L E N F μ σ a w) (H':iY E F' μ' h' w') (V:Evo w F μ σ.h w' F' μ' h') {dst:Option Tmp} (hd : ∀ d,dst=some d→d<N) {u:Value} {r:AV}
  (hr:fC w' F' μ' h' u r):aP2 L E N F' μ' ⟨(σ.put dst r).t,h'⟩ (a.put dst u) w':=by
 cases dst with
 | none=>exact ⟨H',A.df,A.sz,fun t ht=>(A.tm t ht).evo V,A.lim⟩
 | some d =>
  refine ⟨H',A.df,by simp [Act.put,A.sz],fun t ht => ?_,A.lim⟩
  by_cases e:t=d
  ·subst e
   have:(a.put (some t) u).tmps.getD t undef=u:=by simp [Act.put,A.sz,ht]
   rw [this]
   simp only [AS.put,gC]
   exact hr
  ·have:(a.put (some d) u).tmps.getD t undef=a.tmps.getD t undef:=by simp [Act.put,Array.getElem?_setIfInBounds_ne (Ne.symm e)]
   rw [this]
   simp only [AS.put,lM _ _ e]
   exact (A.tm t ht).evo V
theorem Evo.refl_ {w:World} {F:Nat→Prop} {μ:cT} {h:eB}:Evo w F μ h w F μ h :=
 ⟨fun _ _=>rfl,fun _ hb=>hb,fun _ hb=>hb,fun k f o' _ ho'=>⟨o',ho', .inr ⟨rfl,rfl,rfl,fun b cur _ hc=>⟨cur,hc,rfl⟩⟩⟩⟩
theorem gK.sound {o:Oper} {σ σ':AS} {c:Cls} (S:gK P N ops o σ c σ') {a:Act} {w:World} (A:Abs L E N σ a w) {K:Act→World→Prop} {Q:Exit→Act→World→Prop} (hK : ∀ a' w',Abs L E N σ' a' w'→K a' w') :
  if Region.wanted o (yielded ops a.tmps)=true then o.wp P a w K Q else K (a.put o.dst undef) w:=by
 obtain ⟨F, μ,A⟩:=A
 have stand:aFe N o σ a.eval w F μ σ.h:=fun x _=>aD1 A x
 cases S with
 | skip hd j want t hg hj ht hb =>
  have:Region.wanted o (yielded ops a.tmps)=false:=by
   unfold Region.wanted
   rw [hg]
   rcases hb with hb | hb
   ·simp [aGx A hj ht hb]
   ·simp [aMg A hj ht hb]
  rw [this]
  refine hK _ _ ⟨F, μ,?_⟩
  have:=A.put_ A.H Evo.refl_ hd (u:=undef) (r := .tup []) (.tup #[] [] rfl (fun i v c h=>by simp at h))
  rwa [show (⟨(σ.put o.dst (.tup [])).t, σ.h⟩:AS)=σ.put o.dst (.tup []) by cases o.dst <;> rfl] at this
 | pure hd hw r hp =>
  rw [if_pos (oV A hw)]
  obtain ⟨u,hu,hr⟩:=hp w F μ σ.h a.eval stand
  refine mD (K:=fun v w'=>v=u∧w'=w) (by rw [hu];exact ⟨rfl,rfl⟩) ?_
  rintro v w' ⟨rfl,rfl⟩
  refine hK _ _ ⟨F, μ,?_⟩
  have:=A.put_ A.H Evo.refl_ hd hr
  rwa [show (⟨(σ.put o.dst r).t, σ.h⟩:AS)=σ.put o.dst r by cases o.dst <;> rfl] at this
 | light hd hw r hp =>
  rw [if_pos (oV A hw)]
  obtain ⟨u,hu,hr⟩:=hp.2 E F μ σ.h w a.eval A.H stand (fun _ _ _ _=>rfl)
  refine mD (K:=fun v w'=>v=u∧w'=w) (by rw [hu];exact ⟨rfl,rfl⟩) ?_
  rintro v w' ⟨rfl,rfl⟩
  refine hK _ _ ⟨F, μ,?_⟩
  have:=A.put_ A.H Evo.refl_ hd hr
  rwa [show (⟨(σ.put o.dst r).t, σ.h⟩:AS)=σ.put o.dst r by cases o.dst <;> rfl] at this
 | still hd hw r h' hx hp =>
  rw [if_pos (oV A hw)]
  refine mD (hp E F μ w a.eval A.H stand) ?_
  rintro v w' ⟨F', μ',H',V,hr⟩
  exact hK _ _ ⟨F', μ',A.put_ H' V hd hr⟩
 | write hd hw r h' hp =>
  rw [if_pos (oV A hw)]
  refine mD (hp E F μ w a.eval A.H stand) ?_
  rintro v w' ⟨F', μ',H',V,hr⟩
  exact hK _ _ ⟨F', μ',A.put_ H' V hd hr⟩
 | al k hd hw r s hk hp =>
  rw [if_pos (oV A hw)]
  refine mD (hp σ.h hk E F μ w a.eval A.H stand) ?_
  rintro v w' ⟨F', μ',H',V,hr⟩
  exact hK _ _ ⟨F', μ',A.put_ H' V hd hr⟩
 | sb B hd hw r g' hB hp =>
  rw [if_pos (oV A hw)]
  refine mD (hp σ.h hB (fun _ _=>rfl) E F μ w a.eval A.H stand) ?_
  rintro v w' ⟨F', μ',H',V,hr⟩
  exact hK _ _ ⟨F', μ',A.put_ H' V hd hr⟩
 | lk k hd hw r hp hk =>
  rw [if_pos (oV A hw)]
  obtain ⟨u,hu,hr⟩:=hp.2 E F μ σ.h w a.eval A.H stand (fun _ _ _ _=>rfl)
  refine mD (K:=fun v w'=>v=u∧w'=w) (by rw [hu];exact ⟨rfl,rfl⟩) ?_
  rintro v w' ⟨rfl,rfl⟩
  refine hK _ _ ⟨F, μ,?_⟩
  have:=A.put_ A.H Evo.refl_ hd hr
  rwa [show (⟨(σ.put o.dst r).t, σ.h⟩:AS)=σ.put o.dst r by cases o.dst <;> rfl] at this
 | wk k hd hw r h' hp hx =>
  rw [if_pos (oV A hw)]
  refine mD (hp E F μ w a.eval A.H stand) ?_
  rintro v w' ⟨F', μ',H',V,hr⟩
  exact hK _ _ ⟨F', μ',A.put_ H' V hd hr⟩
 | wx k B hd hw r s hB hp =>
  rw [if_pos (oV A hw)]
  refine mD (hp σ.h hB rfl E F μ w a.eval A.H stand) ?_
  rintro v w' ⟨F', μ',H',V,hr⟩
  exact hK _ _ ⟨F', μ',A.put_ H' V hd hr⟩
inductive aDn (P:Program) (N:Nat) (ops:Array Oper):List (Nat × Cls)→AS→AS→Prop
 | nil (σ:AS):aDn P N ops [] σ σ
 | cons (i:Nat) (c:Cls) (l:List (Nat × Cls)) (o:Oper) (σ σ1 σ2:AS) (ho:ops[i]? = some o) (hs:gK P N ops o σ c σ1) (hr:aDn P N ops l σ1 σ2):aDn P N ops ((i,c) :: l) σ σ2
def Cls.ok0:Cls→Cls→Bool
 | .pu,_=>true
 | _, .pu=>true
 | .li, .li=>true
 | .li, .st=>true
 | .li, .al _=>true
 | .li, .sb _=>true
 | .lk _, .li=>true
 | .li, .lk _=>true
 | .lk _, .lk _=>true
 | .lk _, .st=>true
 | .lk _, .al _=>true
 | .lk _, .sb _=>true
 | _,_=>false
def Cls.okA:Cls→Cls→Bool
 | .sb B, .al k=>Nat.blt k B
 | .al k', .al k => !Nat.beq k' k
 | .lk k', .wk k => !Nat.beq k' k
 | .lk k', .wx k _ => !Nat.beq k' k
 | .wx k' B, .al k => !Nat.beq k' k && Nat.blt k B
 | _,_=>false
def Cls.ok (x y:Cls):Bool:=x.ok0 y || x.okA y
theorem aLq {σ:AS} {dst:Option Tmp} {r:AV} {o:Oper} (hn : ∀ d,dst=some d→d ∉ o.looksAt ops) {x:Operand} (hx:x ∈ o.op.operands):evA N (σ.put dst r) x=evA N σ x:=by
 cases x with
 | tmp t =>
  simp only [evA]
  rw [AS.put_t]
  intro d hd e
  subst e
  exact hn t hd (List.mem_append_left _ (List.mem_filterMap.2 ⟨.tmp t,by simpa using hx,rfl⟩))
 | _=>rfl
theorem kN {σ:AS} {dst:Option Tmp} {r:AV} {o:Oper} (hn : ∀ d,dst=some d→d ∉ o.looksAt ops) {h':eB} {ρ:Operand→Value} {w:World} {F:Nat→Prop} {μ:cT} {h:eB} :
  aFe N o ⟨(σ.put dst r).t,h'⟩ ρ w F μ h ↔ aFe N o σ ρ w F μ h:=by
 have e : ∀ x ∈ o.op.operands,evA N ⟨(σ.put dst r).t,h'⟩ x=evA N σ x:=fun x hx =>
  (show evA N ⟨(σ.put dst r).t,h'⟩ x=evA N (σ.put dst r) x by cases x <;> rfl).trans (aLq hn hx)
 exact ⟨fun s x hx=>by rw [← e x hx];exact s x hx,fun s x hx=>by rw [e x hx];exact s x hx⟩
theorem fX {σ:AS} {dst:Option Tmp} {r:AV} {o:Oper} (hn : ∀ d,dst=some d→d ∉ o.looksAt ops) {h1 h2:eB} {ρ:Operand→Value} {w:World} {F:Nat→Prop} {μ:cT} {h:eB} :
  aFe N o ⟨(σ.put dst r).t,h1⟩ ρ w F μ h ↔ aFe N o ⟨σ.t,h2⟩ ρ w F μ h:=by
 have e : ∀ x ∈ o.op.operands,evA N ⟨(σ.put dst r).t,h1⟩ x=evA N ⟨σ.t,h2⟩ x:=fun x hx =>
  (show evA N ⟨(σ.put dst r).t,h1⟩ x=evA N (σ.put dst r) x by cases x <;> rfl).trans ((aLq hn hx).trans (show evA N σ x=evA N ⟨σ.t,h2⟩ x by cases x <;> rfl))
 exact ⟨fun s x hx=>by rw [← e x hx];exact s x hx,fun s x hx=>by rw [e x hx];exact s x hx⟩
theorem pX {σ:AS} {dst:Option Tmp} {r:AV} {o:Oper} (hn : ∀ d,dst=some d→d ∉ o.looksAt ops) (h':eB) {x:Operand} (hx:x ∈ o.op.operands):evA N ⟨(σ.put dst r).t,h'⟩ x=evA N σ x :=
 (show evA N ⟨(σ.put dst r).t,h'⟩ x=evA N (σ.put dst r) x by cases x <;> rfl).trans (aLq hn hx)
theorem eM {σ:AS} {dst:Option Tmp} {r:AV} {o:Oper} (hn : ∀ d,dst=some d→d ∉ o.looksAt ops) (h':eB):yR N ops o ⟨(σ.put dst r).t,h'⟩ ↔ yR N ops o σ:=by
 have key : ∀ j want t,o.guard=some (j,want)→(ops[j]?).bind (·.dst)=some t→(σ.put dst r).t t=σ.t t:=fun j want t hg hj=>by
  rw [AS.put_t]
  intro d hd e
  subst e
  exact hn t hd (List.mem_append_right _ (by rw [hg];simp [hj]))
 constructor
 ·rintro (hg | ⟨j,want,t,hg,hj,ht,hb⟩)
  ·exact .inl hg
  ·exact .inr ⟨j,want,t,hg,hj,ht,by rw [← key j want t hg hj];exact hb⟩
 ·rintro (hg | ⟨j,want,t,hg,hj,ht,hb⟩)
  ·exact .inl hg
  ·exact .inr ⟨j,want,t,hg,hj,ht,by show (σ.put dst r).t t=_;rw [key j want t hg hj];exact hb⟩
theorem gK.move_ {o:Oper} {σ σ':AS} {c:Cls} (S:gK P N ops o σ c σ') (σ0:AS) (dst:Option Tmp) (s:AV) (hn : ∀ d,dst=some d→d ∉ o.looksAt ops) (hne : ∀ d,o.dst=some d→dst≠some d) (h0:eB)
  (e:σ=⟨(σ0.put dst s).t,h0⟩) (hc:c = .pu∨h0=σ0.h) : ∃ r h', σ'=⟨(σ.put o.dst r).t,h'⟩∧(h0=σ0.h→gK P N ops o σ0 c ⟨(σ0.put o.dst r).t,h'⟩)∧(c = .pu→h'=h0∧gK P N ops o σ0 c (σ0.put o.dst r)):=by
 subst e
 have back : ∀ (τ:AS) (d:Option Tmp) (r:AV),(⟨(τ.put d r).t, τ.h⟩:AS)=τ.put d r:=fun τ d r=>by cases d <;> rfl
 cases S with
 | skip hd j want t hg hj ht hb =>
  have e0:(σ0.put dst s).t t=σ0.t t:=by
   rw [AS.put_t]
   intro d hd e
   subst e
   exact hn t hd (List.mem_append_right _ (by rw [hg];simp [hj]))
  have hb':σ0.t t = .d (.v (.bool !want))∨σ0.t t = .tup []:=by rw [← e0];exact hb
  have S0:=gK.skip (P:=P) (N:=N) (ops:=ops) (o:=o) (σ:=σ0) hd j want t hg hj ht hb'
  exact ⟨.tup [],h0,(back _ _ _).symm,fun e=>by subst e;rw [back];exact S0,fun _=>⟨rfl,S0⟩⟩
 | pure hd hw r hp =>
  have S0:=gK.pure (P:=P) (N:=N) (ops:=ops) (o:=o) (σ:=σ0) hd ((eM hn h0).1 hw) r (fun w F μ h ρ st=>hp w F μ h ρ ((kN hn).2 st))
  exact ⟨r,h0,(back _ _ _).symm,fun e=>by subst e;rw [back];exact S0,fun _=>⟨rfl,S0⟩⟩
 | light hd hw r hp =>
  refine ⟨r,h0,(back _ _ _).symm,fun e => ?_,fun e=>by cases e⟩
  subst e
  rw [back]
  refine .light hd ((eM hn _).1 hw) r ⟨fun x hx k hk => ?_,fun E F μ h w ρ H st hh => ?_⟩
  ·rw [← pX (r:=s) hn σ0.h hx] at hk;exact hp.1 x hx k hk
  ·exact hp.2 E F μ h w ρ H ((kN hn).2 st) fun x hx k hk=>by rw [pX hn σ0.h hx] at hk;exact hh x hx k hk
 | still hd hw r h' hx hp =>
  refine ⟨r,h',rfl,fun e => ?_,fun e=>by cases e⟩
  subst e
  exact .still hd ((eM hn _).1 hw) r h' hx fun E F μ w ρ H st=>hp E F μ w ρ H ((kN hn).2 st)
 | write hd hw r h' hp =>
  refine ⟨r,h',rfl,fun e => ?_,fun e=>by cases e⟩
  subst e
  exact .write hd ((eM hn _).1 hw) r h' fun E F μ w ρ H st=>hp E F μ w ρ H ((kN hn).2 st)
 | al k hd hw r s' hk hp =>
  refine ⟨r,_,rfl,fun e => ?_,fun e=>by cases e⟩
  subst e
  exact .al k hd ((eM hn _).1 hw) r s' hk fun hx hkx E F μ w ρ H st=>hp hx hkx E F μ w ρ H ((fX hn).2 st)
 | sb B hd hw r g' hB hp =>
  refine ⟨r,_,rfl,fun e => ?_,fun e=>by cases e⟩
  subst e
  exact .sb B hd ((eM hn _).1 hw) r g' hB fun hx hkx hxx E F μ w ρ H st=>hp hx hkx hxx E F μ w ρ H ((fX hn).2 st)
 | lk k hd hw r hp hk =>
  refine ⟨r,h0,(back _ _ _).symm,fun e => ?_,fun e=>by cases e⟩
  subst e
  rw [back]
  refine .lk k hd ((eM hn _).1 hw) r ⟨fun x hx k hk => ?_,fun E F μ h w ρ H st hh => ?_⟩ fun x hx k' hk' => ?_
  ·rw [← pX (r:=s) hn σ0.h hx] at hk;exact hp.1 x hx k hk
  ·exact hp.2 E F μ h w ρ H ((kN hn).2 st) fun x hx k hk=>by rw [pX hn σ0.h hx] at hk;exact hh x hx k hk
  ·rw [← pX (r:=s) hn σ0.h hx] at hk';exact hk x hx k' hk'
 | wk k hd hw r h' hp hx =>
  refine ⟨r,h',rfl,fun e => ?_,fun e=>by cases e⟩
  subst e
  exact .wk k hd ((eM hn _).1 hw) r h' (fun E F μ w ρ H st=>hp E F μ w ρ H ((kN hn).2 st)) hx
 | wx k B hd hw r s' hB hp =>
  refine ⟨r,_,rfl,fun e => ?_,fun e=>by cases e⟩
  subst e
  exact .wx k B hd ((eM hn _).1 hw) r s' hB fun hx hxB hkx E F μ w ρ H st=>hp hx hxB hkx E F μ w ρ H ((fX hn).2 st)
theorem aBm {B:Nat} {h g:eB} {p:Nat} (hp:p<B):aB5 B h g p=h p:=by
 unfold aB5
 rw [show Nat.blt p B=true from Nat.ble_eq_true_of_le hp];rfl
theorem aMj {B:Nat} {h g:eB} {p:Nat} (hp:B≤p):aB5 B h g p=g p:=by
 unfold aB5
 cases e:Nat.blt p B with
 | false=>rfl
 | true=>have:=Nat.le_of_ble_eq_true e;omega
theorem aT5 {B:Nat} {h g:eB} (hB:Abv h B) {p:Nat} (hp:h p ≠ .no):aB5 B h g p=h p:=by
 rcases Nat.lt_or_ge p B with hlt | hge
 ·exact aBm hlt
 ·exact absurd (hB p hge) hp
theorem gK.form {o:Oper} {σ σ':AS} {c:Cls} (S:gK P N ops o σ c σ') : ∃ r h', σ'=⟨(σ.put o.dst r).t,h'⟩∧(c = .pu∨c = .li∨(∃ k,c = .lk k)→h'=σ.h)∧(c ≠ .wr→(∀ k,c ≠ .wk k)→(∀ k B,c ≠ .wx k B) → ∀ k, σ.h k ≠ .no→h' k=σ.h k):=by
 have back : ∀ (d:Option Tmp) (r:AV),(⟨(σ.put d r).t, σ.h⟩:AS)=σ.put d r:=fun d r=>by cases d <;> rfl
 cases S with
 | skip hd j want t hg hj ht hb=>exact ⟨.tup [], σ.h,(back _ _).symm,fun _=>rfl,fun _ _ _ _ _=>rfl⟩
 | pure hd hw r hp=>exact ⟨r, σ.h,(back _ _).symm,fun _=>rfl,fun _ _ _ _ _=>rfl⟩
 | light hd hw r hp=>exact ⟨r, σ.h,(back _ _).symm,fun _=>rfl,fun _ _ _ _ _=>rfl⟩
 | still hd hw r h' hx hp=>exact ⟨r,h',rfl,fun e=>(by rcases e with e | e | ⟨_,e⟩ <;> cases e),fun _ _ _=>hx⟩
 | write hd hw r h' hp=>exact ⟨r,h',rfl,fun e=>(by rcases e with e | e | ⟨_,e⟩ <;> cases e),fun e _ _=>absurd rfl e⟩
 | al k hd hw r s hk hp=>exact ⟨r,_,rfl,fun e=>(by rcases e with e | e | ⟨_,e⟩ <;> cases e),fun _ _ _ k' hk'=>dZ _ _ (fun e=>by rw [e,hk] at hk';exact hk' rfl)⟩
 | sb B hd hw r g' hB hp=>exact ⟨r,_,rfl,fun e=>(by rcases e with e | e | ⟨_,e⟩ <;> cases e),fun _ _ _ k' hk'=>aT5 hB hk'⟩
 | lk k hd hw r hp hk=>exact ⟨r, σ.h,(back _ _).symm,fun _=>rfl,fun _ _ _ _ _=>rfl⟩
 | wk k hd hw r h' hp hx=>exact ⟨r,h',rfl,fun e=>(by rcases e with e | e | ⟨_,e⟩ <;> cases e),fun _ e _=>absurd rfl (e k)⟩
 | wx k B hd hw r s hB hp=>exact ⟨r,_,rfl,fun e=>(by rcases e with e | e | ⟨_,e⟩ <;> cases e),fun _ _ e=>absurd rfl (e k B)⟩
theorem gK.after_ {o:Oper} {σ:AS} {r:AV} {h':eB} {c:Cls} (S:gK P N ops o σ c ⟨(σ.put o.dst r).t,h'⟩) (dst:Option Tmp) (s:AV) (hn : ∀ d,dst=some d→d ∉ o.looksAt ops) (h2:eB)
  (hc:h2=σ.h∨c = .pu∨((c = .li ∨ ∃ k,c = .lk k) ∧ ∀ k, σ.h k ≠ .no→h2 k=σ.h k) ∨ ∃ k,c = .lk k∧h2 k=σ.h k) : ∃ h3,gK P N ops o ⟨(σ.put dst s).t,h2⟩ c ⟨((⟨(σ.put dst s).t,h2⟩:AS).put o.dst r).t,h3⟩∧(h2=σ.h→h3=h')∧(c = .pu∨c = .li∨(∃ k,c = .lk k)→h3=h2):=by
 have back : ∀ (τ:AS) (d:Option Tmp) (r:AV),(⟨(τ.put d r).t, τ.h⟩:AS)=τ.put d r:=fun τ d r=>by cases d <;> rfl
 generalize e0:(⟨(σ.put o.dst r).t,h'⟩:AS)=σ' at S
 have rt : ∀ {r':AV},(σ.put o.dst r).t=(σ.put o.dst r').t → ∀ τ:AS,(τ.put o.dst r).t=(τ.put o.dst r').t:=by
  intro r' e τ
  cases hd:o.dst with
  | none=>rfl
  | some d =>
   rw [hd] at e
   have:=congrFun e d
   simp only [AS.put,gC] at this
   rw [this]
 cases S with
 | skip hd j want t hg hj ht hb =>
  have e9:(σ.put dst s).t t=σ.t t:=by
   rw [AS.put_t]
   intro d hd e
   subst e
   exact hn t hd (List.mem_append_right _ (by rw [hg];simp [hj]))
  have hb':(⟨(σ.put dst s).t,h2⟩:AS).t t = .d (.v (.bool !want))∨(⟨(σ.put dst s).t,h2⟩:AS).t t = .tup []:=by
   show (σ.put dst s).t t=_∨(σ.put dst s).t t=_
   rw [e9];exact hb
  have e1:(σ.put o.dst r).t=(σ.put o.dst (.tup [])).t:=by have:=congrArg AS.t e0;exact this
  have e2:h'=σ.h:=by have:=congrArg AS.h e0;exact Eq.trans this (AS.put_h _ _ _)
  refine ⟨h2,?_,fun e=>e.trans e2.symm,fun _=>rfl⟩
  rw [rt e1,back]
  exact .skip hd j want t hg hj ht hb'
 | pure hd hw r' hp =>
  have e1:(σ.put o.dst r).t=(σ.put o.dst r').t:=by have:=congrArg AS.t e0;exact this
  have e2:h'=σ.h:=by have:=congrArg AS.h e0;exact Eq.trans this (AS.put_h _ _ _)
  refine ⟨h2,?_,fun e=>e.trans e2.symm,fun _=>rfl⟩
  rw [rt e1,back]
  exact .pure hd ((eM hn h2).2 hw) r' fun w F μ h ρ st=>hp w F μ h ρ ((kN hn).1 st)
 | light hd hw r' hp =>
  have e1:(σ.put o.dst r).t=(σ.put o.dst r').t:=by have:=congrArg AS.t e0;exact this
  have e2:h'=σ.h:=by have:=congrArg AS.h e0;exact Eq.trans this (AS.put_h _ _ _)
  refine ⟨h2,?_,fun e=>e.trans e2.symm,fun _=>rfl⟩
  rw [rt e1,back]
  have ext : ∀ k, σ.h k ≠ .no→h2 k=σ.h k:=by
   rcases hc with e | e | ⟨_,e⟩ | ⟨_,e,_⟩
   ·subst e;exact fun _ _=>rfl
   ·cases e
   ·exact e
   ·cases e
  refine .light hd ((eM hn h2).2 hw) r' ⟨fun x hx k hk => ?_,fun E F μ h w ρ H st hh => ?_⟩
  ·rw [pX hn h2 hx] at hk
   show h2 k ≠ .no
   rw [ext k (hp.1 x hx k hk)]
   exact hp.1 x hx k hk
  ·refine hp.2 E F μ h w ρ H ((kN hn).1 st) fun x hx k hk => ?_
   rw [← ext k (hp.1 x hx k hk)]
   exact hh x hx k (by rw [pX hn h2 hx];exact hk)
 | still hd hw r' h3 hx hp =>
  have e1:(σ.put o.dst r).t=(σ.put o.dst r').t:=by have:=congrArg AS.t e0;exact this
  have e2:h'=h3:=by have:=congrArg AS.h e0;exact this
  rcases hc with e | e | ⟨e | ⟨_,e⟩,_⟩ | ⟨_,e,_⟩
  ·subst e
   refine ⟨h3,?_,fun _=>e2.symm,fun e=>by rcases e with e | e | ⟨_,e⟩ <;> cases e⟩
   rw [rt e1]
   exact .still hd ((eM hn _).2 hw) r' h3 hx fun E F μ w ρ H st=>hp E F μ w ρ H ((kN hn).1 st)
  ·cases e
  ·cases e
  ·cases e
  ·cases e
 | write hd hw r' h3 hp =>
  have e1:(σ.put o.dst r).t=(σ.put o.dst r').t:=by have:=congrArg AS.t e0;exact this
  have e2:h'=h3:=by have:=congrArg AS.h e0;exact this
  rcases hc with e | e | ⟨e | ⟨_,e⟩,_⟩ | ⟨_,e,_⟩
  ·subst e
   refine ⟨h3,?_,fun _=>e2.symm,fun e=>by rcases e with e | e | ⟨_,e⟩ <;> cases e⟩
   rw [rt e1]
   exact .write hd ((eM hn _).2 hw) r' h3 fun E F μ w ρ H st=>hp E F μ w ρ H ((kN hn).1 st)
  ·cases e
  ·cases e
  ·cases e
  ·cases e
 | al k hd hw r' s' hk hp =>
  have e1:(σ.put o.dst r).t=(σ.put o.dst r').t:=by have:=congrArg AS.t e0;exact this
  have e2:h'=upd σ.h k s':=by have:=congrArg AS.h e0;exact this
  rcases hc with e | e | ⟨e | ⟨_,e⟩,_⟩ | ⟨_,e,_⟩
  ·subst e
   refine ⟨_,?_,fun _=>e2.symm,fun e=>by rcases e with e | e | ⟨_,e⟩ <;> cases e⟩
   rw [rt e1]
   exact .al k hd ((eM hn _).2 hw) r' s' hk fun hx hkx E F μ w ρ H st=>hp hx hkx E F μ w ρ H ((fX hn).1 st)
  ·cases e
  ·cases e
  ·cases e
  ·cases e
 | sb B hd hw r' g' hB hp =>
  have e1:(σ.put o.dst r).t=(σ.put o.dst r').t:=by have:=congrArg AS.t e0;exact this
  have e2:h'=aB5 B σ.h g':=by have:=congrArg AS.h e0;exact this
  rcases hc with e | e | ⟨e | ⟨_,e⟩,_⟩ | ⟨_,e,_⟩
  ·subst e
   refine ⟨_,?_,fun _=>e2.symm,fun e=>by rcases e with e | e | ⟨_,e⟩ <;> cases e⟩
   rw [rt e1]
   exact .sb B hd ((eM hn _).2 hw) r' g' hB fun hx hkx hxx E F μ w ρ H st=>hp hx hkx hxx E F μ w ρ H ((fX hn).1 st)
  ·cases e
  ·cases e
  ·cases e
  ·cases e
 | lk k hd hw r' hp hk =>
  have e1:(σ.put o.dst r).t=(σ.put o.dst r').t:=by have:=congrArg AS.t e0;exact this
  have e2:h'=σ.h:=by have:=congrArg AS.h e0;exact Eq.trans this (AS.put_h _ _ _)
  refine ⟨h2,?_,fun e=>e.trans e2.symm,fun _=>rfl⟩
  rw [rt e1,back]
  have ext : ∀ x ∈ o.op.operands, ∀ k',(evA N σ x).key=some k'→h2 k'=σ.h k':=fun x hx k' hk'=>by
   rcases hc with e | e | ⟨_,e⟩ | ⟨k2,e,e3⟩
   ·subst e;rfl
   ·cases e
   ·exact e k' (hp.1 x hx k' hk')
   ·injection e with e;subst e
    rw [hk x hx k' hk'];exact e3
  refine .lk k hd ((eM hn h2).2 hw) r' ⟨fun x hx k hk => ?_,fun E F μ h w ρ H st hh => ?_⟩ fun x hx k' hk' => ?_
  ·rw [pX hn h2 hx] at hk
   show h2 k ≠ .no
   rw [ext x hx k hk]
   exact hp.1 x hx k hk
  ·refine hp.2 E F μ h w ρ H ((kN hn).1 st) fun x hx k hk => ?_
   rw [← ext x hx k hk]
   exact hh x hx k (by rw [pX hn h2 hx];exact hk)
  ·rw [pX hn h2 hx] at hk';exact hk x hx k' hk'
 | wk k hd hw r' h3 hp hx =>
  have e1:(σ.put o.dst r).t=(σ.put o.dst r').t:=by have:=congrArg AS.t e0;exact this
  have e2:h'=h3:=by have:=congrArg AS.h e0;exact this
  rcases hc with e | e | ⟨e | ⟨_,e⟩,_⟩ | ⟨_,e,_⟩
  ·subst e
   refine ⟨h3,?_,fun _=>e2.symm,fun e=>by rcases e with e | e | ⟨_,e⟩ <;> cases e⟩
   rw [rt e1]
   exact .wk k hd ((eM hn _).2 hw) r' h3 (fun E F μ w ρ H st=>hp E F μ w ρ H ((kN hn).1 st)) hx
  ·cases e
  ·cases e
  ·cases e
  ·cases e
 | wx k B hd hw r' s' hB hp =>
  have e1:(σ.put o.dst r).t=(σ.put o.dst r').t:=by have:=congrArg AS.t e0;exact this
  have e2:h'=upd σ.h k s':=by have:=congrArg AS.h e0;exact this
  rcases hc with e | e | ⟨e | ⟨_,e⟩,_⟩ | ⟨_,e,_⟩
  ·subst e
   refine ⟨_,?_,fun _=>e2.symm,fun e=>by rcases e with e | e | ⟨_,e⟩ <;> cases e⟩
   rw [rt e1]
   exact .wx k B hd ((eM hn _).2 hw) r' s' hB fun hx hxB hkx E F μ w ρ H st=>hp hx hxB hkx E F μ w ρ H ((fX hn).1 st)
  ·cases e
  ·cases e
  ·cases e
  ·cases e
theorem gK.comm0 {oi oj:Oper} {σ σ1 σ2:AS} {ci cj:Cls} (Si:gK P N ops oi σ ci σ1) (Sj:gK P N ops oj σ1 cj σ2) (hap:oi.apart ops oj=true) (hok:ci.ok0 cj=true) : ∃ σ3,gK P N ops oj σ cj σ3∧gK P N ops oi σ3 ci σ2:=by
 obtain ⟨a1,a2,a3⟩:=Oper.apart_spec hap
 obtain ⟨ri,hi,rfl,qi,xi⟩:=Si.form
 have hcj:cj = .pu∨hi=σ.h:=by
  cases ci <;> cases cj <;> simp [Cls.ok0] at hok <;> first
   | exact .inl rfl
   | exact .inr (qi (.inl rfl))
   | exact .inr (qi (.inr (.inl rfl)))
   | exact .inr (qi (.inr (.inr ⟨_,rfl⟩)))
 obtain ⟨rj,hj,rfl,m1,m2⟩:=Sj.move_ σ oi.dst ri a1 (fun d hd e=>a2 d e hd) hi rfl hcj
 have swap : ∀ h,(⟨((⟨(σ.put oi.dst ri).t,hi⟩:AS).put oj.dst rj).t,h⟩:AS)=⟨((⟨(σ.put oj.dst rj).t,h⟩:AS).put oi.dst ri).t,h⟩:=fun h=>by
  have e:((σ.put oi.dst ri).put oj.dst rj).t=((σ.put oj.dst rj).put oi.dst ri).t:=by rw [AS.put_comm σ ri rj a2]
  have c1 : ∀ (τ:AS) (h:eB) (d:Option Tmp) (r:AV),((⟨τ.t,h⟩:AS).put d r).t=(τ.put d r).t:=fun τ h d r=>by cases d <;> rfl
  rw [c1 _ _ oj.dst rj,c1 _ h oi.dst ri,e]
 by_cases hpu:cj = .pu
 ·obtain ⟨rfl,S0⟩:=m2 hpu
  refine ⟨_,S0,?_⟩
  obtain ⟨h3,S3,hh,hq⟩:=Si.after_ oj.dst rj a3 σ.h (.inl rfl)
  have e3:h3=hj:=hh rfl
  subst e3
  rw [show (⟨(σ.put oj.dst rj).t, σ.h⟩:AS)=σ.put oj.dst rj by cases oj.dst <;> rfl] at S3
  rw [swap]
  have c1:((⟨(σ.put oj.dst rj).t,h3⟩:AS).put oi.dst ri).t=((σ.put oj.dst rj).put oi.dst ri).t:=by cases oi.dst <;> rfl
  rw [c1]
  exact S3
 ·have hh0:=hcj.resolve_left hpu
  have S0:=m1 hh0
  refine ⟨_,S0,?_⟩
  have hci:ci = .pu∨ci = .li ∨ ∃ k,ci = .lk k:=by
   cases ci <;> cases cj <;> simp [Cls.ok0] at hok hpu ⊢
  have cond:hj=σ.h∨ci = .pu∨((ci = .li ∨ ∃ k,ci = .lk k) ∧ ∀ k, σ.h k ≠ .no→hj k=σ.h k) ∨ ∃ k,ci = .lk k∧hj k=σ.h k:=by
   rcases hci with e | e
   ·exact .inr (.inl e)
   ·refine .inr (.inr (.inl ⟨e,?_⟩))
    obtain ⟨_,h5,e5,q5,x5⟩:=S0.form
    have e6:hj=h5:=congrArg AS.h e5
    subst e6
    exact x5 (fun e=>by subst e;rcases e with rfl | ⟨_,rfl⟩ <;> simp [Cls.ok0] at hok) (fun k e=>by subst e;rcases e with rfl | ⟨_,rfl⟩ <;> simp [Cls.ok0] at hok) fun k B e=>by subst e;rcases e with rfl | ⟨_,rfl⟩ <;> simp [Cls.ok0] at hok
  obtain ⟨h3,S3,_,hq⟩:=Si.after_ oj.dst rj a3 hj cond
  have e3:=hq hci
  subst e3
  rw [swap]
  exact S3
theorem gK.commA {oi oj:Oper} {σ σ1 σ2:AS} {ci cj:Cls} (Si:gK P N ops oi σ ci σ1) (Sj:gK P N ops oj σ1 cj σ2) (hap:oi.apart ops oj=true) (hok:ci.okA cj=true) : ∃ σ3,gK P N ops oj σ cj σ3∧gK P N ops oi σ3 ci σ2:=by
 obtain ⟨a1,a2,a3⟩:=Oper.apart_spec hap
 have swap : ∀ (ri rj:AV) (h1 h2 h:eB),(⟨((⟨(σ.put oi.dst ri).t,h1⟩:AS).put oj.dst rj).t,h⟩:AS)=⟨((⟨(σ.put oj.dst rj).t,h2⟩:AS).put oi.dst ri).t,h⟩:=fun ri rj h1 h2 h=>by
  have e:((σ.put oi.dst ri).put oj.dst rj).t=((σ.put oj.dst rj).put oi.dst ri).t:=by rw [AS.put_comm σ ri rj a2]
  have c1 : ∀ (τ:AS) (h:eB) (d:Option Tmp) (r:AV),((⟨τ.t,h⟩:AS).put d r).t=(τ.put d r).t:=fun τ h d r=>by cases d <;> rfl
  rw [c1 _ _ oj.dst rj,c1 _ _ oi.dst ri,e]
 cases Sj with
 | al k hd hw r s hk hp =>
  cases Si with
  | sb B hd1 hw1 r1 g' hB hp1 =>
   have hkB:k<B:=Nat.le_of_ble_eq_true hok
   have hk0:σ.h k = .no:=(aBm (h:=σ.h) (g:=g') hkB).symm.trans hk
   refine ⟨_, .al k hd ((eM a1 _).1 hw) r s hk0 fun hx hkx E F μ w ρ H st=>hp hx hkx E F μ w ρ H ((fX a1).2 st),?_⟩
   have e:upd (aB5 B σ.h g') k s=aB5 B (upd σ.h k s) g':=by
    funext p
    by_cases e:p=k
    ·subst e;rw [dE,aBm hkB,dE]
    ·rw [dZ _ _ e]
     rcases Nat.lt_or_ge p B with hlt | hge
     ·rw [aBm hlt,aBm hlt,dZ _ _ e]
     ·rw [aMj hge,aMj hge]
   show gK P N ops oi _ (.sb B) ⟨((⟨(σ.put oi.dst r1).t,aB5 B σ.h g'⟩:AS).put oj.dst r).t,upd (aB5 B σ.h g') k s⟩
   rw [e,swap r1 r _ (upd σ.h k s)]
   refine .sb B hd1 ((eM a3 _).2 hw1) r1 g' (fun p hp => ?_) fun hx hkx hxx E F μ w ρ H st=>hp1 hx hkx (fun p hp => ?_) E F μ w ρ H ((fX a3).1 st)
   ·show upd σ.h k s p = .no
    rw [dZ _ _ (by omega)];exact hB p hp
   ·have hpk:p≠k:=fun e=>by rw [e,hk0] at hp;exact hp rfl
    have h5:(upd σ.h k s) p=σ.h p:=dZ _ _ hpk
    rw [← h5]
    exact hxx p (by show upd σ.h k s p ≠ .no;rw [h5];exact hp)
  | al k1 hd1 hw1 r1 s1 hk1 hp1 =>
   have hne:k1≠k:=fun e=>by subst e;simp [Cls.okA] at hok
   have hk0:σ.h k = .no:=by
    have:=hk
    rwa [show (⟨(σ.put oi.dst r1).t,upd σ.h k1 s1⟩:AS).h k=σ.h k from dZ _ _ (Ne.symm hne)] at this
   refine ⟨_, .al k hd ((eM a1 _).1 hw) r s hk0 fun hx hkx E F μ w ρ H st=>hp hx hkx E F μ w ρ H ((fX a1).2 st),?_⟩
   have e:upd (upd σ.h k1 s1) k s=upd (upd σ.h k s) k1 s1:=by
    funext p
    by_cases e:p=k
    ·subst e;rw [dE,dZ _ _ (Ne.symm hne),dE]
    ·rw [dZ _ _ e]
     by_cases e1:p=k1
     ·subst e1;rw [dE,dE]
     ·rw [dZ _ _ e1,dZ _ _ e1,dZ _ _ e]
   show gK P N ops oi _ (.al k1) ⟨((⟨(σ.put oi.dst r1).t,upd σ.h k1 s1⟩:AS).put oj.dst r).t,upd (upd σ.h k1 s1) k s⟩
   rw [e,swap r1 r _ (upd σ.h k s)]
   refine .al k1 hd1 ((eM a3 _).2 hw1) r1 s1 (by show upd σ.h k s k1 = .no;rw [dZ _ _ hne];exact hk1) fun hx hkx E F μ w ρ H st=>hp1 hx hkx E F μ w ρ H ((fX a3).1 st)
  | wx k1 B hd1 hw1 r1 s1 hB1 hp1 =>
   simp only [Cls.okA,Bool.and_eq_true] at hok
   have hne:k1≠k:=fun e=>by subst e;simp at hok
   have hkB:k<B:=Nat.le_of_ble_eq_true hok.2
   have hk0:σ.h k = .no:=by
    have:=hk
    rwa [show (⟨(σ.put oi.dst r1).t,upd σ.h k1 s1⟩:AS).h k=σ.h k from dZ _ _ (Ne.symm hne)] at this
   refine ⟨_, .al k hd ((eM a1 _).1 hw) r s hk0 fun hx hkx E F μ w ρ H st=>hp hx hkx E F μ w ρ H ((fX a1).2 st),?_⟩
   have e:upd (upd σ.h k1 s1) k s=upd (upd σ.h k s) k1 s1:=by
    funext p
    by_cases e:p=k
    ·subst e;rw [dE,dZ _ _ (Ne.symm hne),dE]
    ·rw [dZ _ _ e]
     by_cases e1:p=k1
     ·subst e1;rw [dE,dE]
     ·rw [dZ _ _ e1,dZ _ _ e1,dZ _ _ e]
   show gK P N ops oi _ (.wx k1 B) ⟨((⟨(σ.put oi.dst r1).t,upd σ.h k1 s1⟩:AS).put oj.dst r).t,upd (upd σ.h k1 s1) k s⟩
   rw [e,swap r1 r _ (upd σ.h k s)]
   refine .wx k1 B hd1 ((eM a3 _).2 hw1) r1 s1 (fun p hp => ?_) fun hx hxB hkx E F μ w ρ H st=>hp1 hx hxB (hkx.trans (dZ _ _ hne)) E F μ w ρ H ((fX a3).1 st)
   show upd σ.h k s p = .no
   rw [dZ _ _ (by omega)];exact hB1 p hp
  | _=>simp [Cls.okA] at hok
 | wk k hd hw r h' hp hx =>
  have Si0:=Si
  cases Si with
  | lk k1 hd1 hw1 r1 hp1 hk1 =>
   have hne:k1≠k:=fun e=>by subst e;simp [Cls.okA] at hok
   have hh : ∀ {d:Option Tmp} {r:AV},(σ.put d r).h=σ.h:=fun {d r}=>by cases d <;> rfl
   have e1:σ.put oi.dst r1=⟨(σ.put oi.dst r1).t, σ.h⟩:=by cases oi.dst <;> rfl
   have hp':=hp
   unfold dK at hp'
   simp only [hh] at hp'
   have S0:gK P N ops oj σ (.wk k) ⟨(σ.put oj.dst r).t,h'⟩ := .wk k hd ((eM (r:=r1) a1 σ.h).1 (by rw [← e1];exact hw)) r h' (fun E F μ w ρ H st=>hp' E F μ w ρ H (by rw [e1];exact (fX (r:=r1) a1).2 st)) (fun p hp=>(hx p hp).trans (by rw [hh]))
   refine ⟨_,S0,?_⟩
   rw [e1] at Si0
   obtain ⟨h3,S3,_,hq⟩:=Si0.after_ oj.dst r a3 h' (.inr (.inr (.inr ⟨k1,rfl,(hx k1 hne).trans (by rw [hh])⟩)))
   have e3:=hq (.inr (.inr ⟨k1,rfl⟩))
   subst e3
   rw [e1,swap r1 r _ h3]
   exact S3
  | _=>simp [Cls.okA] at hok
 | wx k B hd hw r s hB hp =>
  have Si0:=Si
  cases Si with
  | lk k1 hd1 hw1 r1 hp1 hk1 =>
   have hne:k1≠k:=fun e=>by subst e;simp [Cls.okA] at hok
   have hh : ∀ {d:Option Tmp} {r:AV},(σ.put d r).h=σ.h:=fun {d r}=>by cases d <;> rfl
   have e1:σ.put oi.dst r1=⟨(σ.put oi.dst r1).t, σ.h⟩:=by cases oi.dst <;> rfl
   have S0:gK P N ops oj σ (.wx k B) ⟨(σ.put oj.dst r).t,upd σ.h k s⟩ := .wx k B hd ((eM (r:=r1) a1 σ.h).1 (by rw [← e1];exact hw)) r s (by rw [← hh (d:=oi.dst) (r:=r1)];exact hB) (fun hx hxB hkx E F μ w ρ H st=>hp hx hxB (hkx.trans (by rw [hh])) E F μ w ρ H (by exact (fX (r:=r1) a1).2 st))
   refine ⟨_,S0,?_⟩
   rw [e1] at Si0
   obtain ⟨h3,S3,_,hq⟩:=Si0.after_ oj.dst r a3 (upd σ.h k s) (.inr (.inr (.inr ⟨k1,rfl,dZ _ _ hne⟩)))
   have e3:=hq (.inr (.inr ⟨k1,rfl⟩))
   subst e3
   rw [e1,swap r1 r _ (upd σ.h k s)]
   exact S3
  | _=>simp [Cls.okA] at hok
 | _=>cases ci <;> simp [Cls.okA] at hok
theorem gK.comm {oi oj:Oper} {σ σ1 σ2:AS} {ci cj:Cls} (Si:gK P N ops oi σ ci σ1) (Sj:gK P N ops oj σ1 cj σ2) (hap:oi.apart ops oj=true) (hok:ci.ok cj=true) : ∃ σ3,gK P N ops oj σ cj σ3∧gK P N ops oi σ3 ci σ2:=by
 unfold Cls.ok at hok
 simp only [Bool.or_eq_true] at hok
 exact hok.elim (Si.comm0 Sj hap) (Si.commA Sj hap)
end
end Go.Proofs.YtceknlcbfomdhaaGreatDoor
namespace Go.Proofs.YtceknlcbfomdhaaGreatDoor
open Go.RowKit
set_option linter.unusedVariables false
set_option maxRecDepth 100000
section
variable {P:Program} {L N:Nat} {ops:Array Oper} {E:Env}
def aJ3 (ms:List Nat) (o:Oper):Nat:=o.after.toList.foldl (fun a e=>bif Region.binds .any e then Nat.lor a (Nat.lor (Nat.shiftLeft 1 e.on) (ms.getD e.on 0)) else a) 0
def aRa:List Oper→List Nat→List Nat
 | [],ms=>ms
 | o :: os,ms=>aRa os (ms++[aJ3 ms o])
def aWw (ops:Array Oper) (listed:Array Bool):Prop := ∀ i o,ops[i]? = some o→listed.getD i false=true → ∀ e ∈ o.after,Region.binds .any e=true→listed.getD e.on false=true
def aX5 (ops:Array Oper) (ms:List Nat):Prop := ∀ i o j,ops[i]? = some o→(ms.getD i 0).testBit j=true → ∀ listed,aWw ops listed→(∀ e ∈ o.after,Region.binds .any e=true→listed.getD e.on false=true)→listed.getD j false=true
theorem aO7 {ms:List Nat} {j:Nat} (es:List Edge) : ∀ a:Nat,(es.foldl (fun a e=>bif Region.binds .any e then Nat.lor a (Nat.lor (Nat.shiftLeft 1 e.on) (ms.getD e.on 0)) else a) a).testBit j=true→a.testBit j=true ∨ ∃ e ∈ es,Region.binds .any e=true∧(e.on=j∨(ms.getD e.on 0).testBit j=true):=by
 induction es with
 | nil=>intro a h;exact .inl h
 | cons e es ih =>
  intro a h
  rw [List.foldl_cons] at h
  rcases ih _ h with h | ⟨e2,he,hb,h⟩
  ·cases hb:Region.binds .any e
   ·rw [hb] at h;exact .inl h
   ·rw [hb] at h
    simp only [cond_true] at h
    have h:(a ||| (1 <<< e.on ||| ms.getD e.on 0)).testBit j=true:=h
    rw [Nat.testBit_or,Nat.testBit_or,Bool.or_eq_true,Bool.or_eq_true] at h
    rcases h with h | h | h
    ·exact .inl h
    ·refine .inr ⟨e,List.mem_cons_self ..,hb, .inl ?_⟩
     rw [Nat.one_shiftLeft,Nat.testBit_two_pow] at h
     exact of_decide_eq_true h
    ·exact .inr ⟨e,List.mem_cons_self ..,hb, .inr h⟩
  ·exact .inr ⟨e2,List.mem_cons_of_mem _ he,hb,h⟩
theorem aJ4 {ops:Array Oper} : ∀ (os pre:List Oper) (ms:List Nat),ops.toList=pre++os→ms.length=pre.length→aX5 ops ms→aX5 ops (aRa os ms)
 | [],pre,ms,_,_,h=>h
 | o :: os,pre,ms,e,hl,h=>by
  refine aJ4 os (pre++[o]) (ms++[aJ3 ms o]) (by rw [e];simp) (by simp [hl]) ?_
  intro i oi j ho hb listed hc hr
  rcases Nat.lt_trichotomy i ms.length with hi | hi | hi
  ·rw [List.getD_eq_getElem?_getD,List.getElem?_append_left hi, ← List.getD_eq_getElem?_getD] at hb
   exact h i oi j ho hb listed hc hr
  ·subst hi
   have h2:ops[ms.length]? = some o:=by
    rw [← Array.getElem?_toList,e,hl,List.getElem?_append_right (Nat.le_refl _)];simp
   rw [h2] at ho
   injection ho with ho
   subst ho
   have e3:(ms++[aJ3 ms o]).getD ms.length 0=aJ3 ms o:=by simp [List.getD_eq_getElem?_getD]
   rw [e3] at hb
   rcases aO7 o.after.toList 0 hb with h3 | ⟨e4,he,hb4,h3 | h3⟩
   ·simp at h3
   ·rw [← h3];exact hr e4 (Array.mem_toList_iff.1 he) hb4
   ·have hl4:=hr e4 (Array.mem_toList_iff.1 he) hb4
    cases ho4:ops[e4.on]? with
    | none =>
     exfalso
     rw [← Array.getElem?_toList,e,List.getElem?_eq_none_iff] at ho4
     rw [List.getD_eq_getElem?_getD,List.getElem?_eq_none (by simp at ho4;omega)] at h3
     simp at h3
    | some o4=>exact h e4.on o4 j ho4 h3 listed hc (hc e4.on o4 ho4 hl4)
  ·have e3:(ms++[aJ3 ms o]).getD i 0=0:=by rw [List.getD_eq_getElem?_getD,List.getElem?_eq_none (by simp;omega)];rfl
   rw [e3] at hb
   simp at hb
theorem aT0 {ops:Array Oper} {ms:List Nat} (h:aRa ops.toList []=ms):aX5 ops ms:=by
 subst h
 exact aJ4 ops.toList [] [] rfl rfl fun i o j _ hb=>by simp at hb
def aMk (ops:Array Oper) (ms:List Nat) (x y:Nat × Cls):Bool :=
 match ops[x.1]?,ops[y.1]? with
 | some ox,some oy=>x.1 != y.1 && ((ms.getD y.1 0).testBit x.1 || (ox.apart ops oy && x.2.ok y.2)) && ox.after.all fun e => !Region.binds .any e || e.on != y.1
 | _,_=>false
def aN5 (ops:Array Oper) (ms:List Nat):List (Nat × Cls)→Bool
 | []=>true
 | x :: l=>l.all (aMk ops ms x) && aN5 ops ms l
def aYm (ops:Array Oper) (x:Nat × Cls):Bool :=
 match ops[x.1]? with
 | some o=>o.after.all fun e=>e.on != x.1 && Nat.blt e.on ops.size
 | none=>false
def aQm (ops:Array Oper) (ms:List Nat) (l:List (Nat × Cls)):Bool:=((List.range ops.size).all fun i=>l.any fun x=>x.1 == i) && l.length == ops.size && l.all (aYm ops) && aN5 ops ms l
theorem aEo {ms:List Nat} : ∀ {l:List (Nat × Cls)},aN5 ops ms l=true→l.Pairwise fun x y=>aMk ops ms x y=true
 | [],_ => .nil
 | x :: l,h=>by
  simp only [aN5,Bool.and_eq_true,List.all_eq_true] at h
  exact .cons h.1 (aEo h.2)
theorem aBx {i:Nat} {c:Cls} {oi:Oper} (hi:ops[i]? = some oi) {l2:List (Nat × Cls)} {σ':AS} : ∀ {l1:List (Nat × Cls)} {σ:AS},aDn P N ops (l1++(i,c) :: l2) σ σ' →
  (∀ x ∈ l1, ∀ ox,ops[x.1]? = some ox→ox.apart ops oi=true∧x.2.ok c=true) → ∃ σ1,gK P N ops oi σ c σ1∧aDn P N ops (l1++l2) σ1 σ'
 | [], σ,h,_=>by
  cases h with | cons _ _ _ o _ σ1 _ ho hs hr =>
  rw [hi] at ho
  injection ho with ho
  subst ho
  exact ⟨σ1,hs,hr⟩
 | x :: l1, σ,h,hx=>by
  cases h with | cons j cj _ o _ σ1 _ ho hs hr =>
  obtain ⟨σ2,s2,r2⟩:=aBx hi hr fun y hy=>hx y (List.mem_cons_of_mem _ hy)
  obtain ⟨a1,a2⟩:=hx (j,cj) (List.mem_cons_self ..) o ho
  obtain ⟨σ3,s3,s4⟩:=hs.comm s2 a1 a2
  exact ⟨σ3,s3, .cons j cj _ o _ σ2 _ ho s4 r2⟩
theorem aI5 {ms:List Nat} (hms:aX5 ops ms) {Q:Exit→Act→World→Prop} {σ':AS} (hQ : ∀ a' w',Abs L E N σ' a' w'→Q .normal a' w') : ∀ (n:Nat) (l:List (Nat × Cls)) (listed:Array Bool) (a:Act) (w:World) (σ:AS),l.length=n →
  (l.Pairwise fun x y=>aMk ops ms x y=true)→(∀ x ∈ l,aYm ops x=true)→listed.size=ops.size→(∀ i,i<ops.size→(listed.getD i true=false ↔ ∃ c,(i,c) ∈ l)) →
  (∀ i o,ops[i]? = some o→listed.getD i false=true → ∀ e ∈ o.after,Region.binds .any e=true→listed.getD e.on false=true) →
  aDn P N ops l σ σ'→Abs L E N σ a w→wpAny P .any ops Q n listed a w:=by
 intro n
 induction n with
 | zero =>
  intro l listed a w σ hl _ _ hsz hlist _ C A
  have:l=[]:=List.eq_nil_of_length_eq_zero hl
  subst this
  cases C
  refine ⟨List.eq_nil_iff_forall_not_mem.2 fun j hj => ?_,hQ _ _ A⟩
  obtain ⟨h1,o,ho,_⟩:=mem_ready.1 hj
  obtain ⟨c,hc⟩:=(hlist j (Array.getElem?_eq_some_iff.1 ho).1).1 h1
  cases hc
 | succ n ih =>
  intro l listed a w σ hl hp hone hsz hlist hcl C A
  have inout : ∀ i,i<ops.size→(¬ ∃ c,(i,c) ∈ l)→listed.getD i false=true:=fun i hi hno=>by
   have : ¬ listed.getD i true=false:=fun e=>hno ((hlist i hi).1 e)
   have hlt:i<listed.size:=by omega
   simpa [Array.getD,hlt] using this
  refine ⟨fun hr => ?_,fun i hi => ?_⟩
  ·exfalso
   match l,hl with
   | (i,c) :: l',_ =>
    have h1:=hone (i,c) (List.mem_cons_self ..)
    unfold aYm at h1
    cases ho:ops[i]? with
    | none=>simp [ho] at h1
    | some o =>
     simp only [ho,Array.all_eq_true_iff_forall_mem,Bool.and_eq_true,bne_iff_ne] at h1
     have:i ∈ Region.ready .any ops listed:=by
      refine mem_ready.2 ⟨(hlist i (Array.getElem?_eq_some_iff.1 ho).1).2 ⟨c,List.mem_cons_self ..⟩,o,ho,fun e he hb => ?_⟩
      obtain ⟨e1,e2⟩:=h1 e he
      refine inout e.on (by simp [Nat.blt] at e2;omega) ?_
      rintro ⟨c2,hc2⟩
      rcases List.mem_cons.1 hc2 with hc2 | hc2
      ·injection hc2 with h3 h4;exact e1 h3
      ·have:=(List.pairwise_cons.1 hp).1 _ hc2
       unfold aMk at this
       simp only [ho] at this
       cases ho2:ops[e.on]? with
       | none=>simp [ho2] at this
       | some o2 =>
        simp only [ho2,Bool.and_eq_true,Array.all_eq_true_iff_forall_mem,Bool.or_eq_true,Bool.not_eq_true',bne_iff_ne] at this
        rcases this.2 e he with h5 | h5
        ·rw [hb] at h5;cases h5
        ·exact h5 rfl
     rw [hr] at this
     cases this
  ·obtain ⟨h1,o,ho,hdep⟩:=mem_ready.1 hi
   have hilt:i<ops.size:=(Array.getElem?_eq_some_iff.1 ho).1
   obtain ⟨c,hc⟩:=(hlist i hilt).1 h1
   obtain ⟨l1,l2,rfl⟩:=List.append_of_mem hc
   have hind : ∀ x ∈ l1, ∀ ox,ops[x.1]? = some ox→ox.apart ops o=true∧x.2.ok c=true:=fun x hx ox hox=>by
    have hpx:=(List.pairwise_append.1 hp).2.2 x hx (i,c) (List.mem_cons_self ..)
    unfold aMk at hpx
    simp only [hox,ho,Bool.and_eq_true,Bool.or_eq_true] at hpx
    rcases hpx.1.2 with hd | hd
    ·exfalso
     have hxl:=hms i o x.1 ho hd listed hcl hdep
     have hxn:=(hlist x.1 (Array.getElem?_eq_some_iff.1 hox).1).2 ⟨x.2,List.mem_append_left _ hx⟩
     have hlt:x.1<listed.size:=by rw [hsz];exact (Array.getElem?_eq_some_iff.1 hox).1
     simp [Array.getD,hlt] at hxl hxn
     rw [hxl] at hxn;cases hxn
    ·exact hd
   obtain ⟨σ1,hs,hr⟩:=aBx ho C hind
   have hsub:(l1++l2).Sublist (l1++(i,c) :: l2):=List.Sublist.append_left (List.sublist_cons_self ..) l1
   have hnin : ∀ c',(i,c') ∉ l1++l2:=fun c' hm=>by
    rcases List.mem_append.1 hm with hm | hm
    ·have hpx:=(List.pairwise_append.1 hp).2.2 _ hm (i,c) (List.mem_cons_self ..)
     unfold aMk at hpx
     simp [ho] at hpx
    ·have hpx:=(List.pairwise_cons.1 (List.pairwise_append.1 hp).2.1).1 _ hm
     unfold aMk at hpx
     simp [ho] at hpx
   have key : ∀ a' w',Abs L E N σ1 a' w'→wpAny P .any ops Q n (listed.setIfInBounds i true) a' w':=fun a' w' A'=>by
    refine ih (l1++l2) _ a' w' σ1 (by simp at hl ⊢;omega) (hp.sublist hsub) (fun x hx=>hone x (hsub.subset hx)) (by simpa using hsz) (fun j hj => ?_) (fun j oj hoj hlj e he hb => ?_) hr A'
    ·by_cases e:i=j
     ·subst e
      constructor
      ·intro h;simp [Array.getD,hsz,hilt] at h
      ·rintro ⟨c',hc'⟩;exact absurd hc' (hnin c')
     ·rw [getD_set_ne true e,hlist j hj]
      constructor
      ·rintro ⟨c',hc'⟩
       refine ⟨c',?_⟩
       rcases List.mem_append.1 hc' with hm | hm
       ·exact List.mem_append_left _ hm
       ·rcases List.mem_cons.1 hm with hm | hm
        ·injection hm with h3 h4;exact absurd h3.symm e
        ·exact List.mem_append_right _ hm
      ·rintro ⟨c',hc'⟩;exact ⟨c',hsub.subset hc'⟩
    ·by_cases ee:i=j
     ·subst ee
      rw [ho] at hoj
      injection hoj with hoj
      subst hoj
      exact getD_set_true (hdep e he hb)
     ·rw [getD_set_ne false ee] at hlj
      exact getD_set_true (hcl j oj hoj hlj e he hb)
   have:=hs.sound A (K:=wpAny P .any ops Q n (listed.setIfInBounds i true)) (Q:=Q) key
   unfold wpOp
   simp only [ho]
   split
   ·rename_i hw;rw [if_pos hw] at this;exact .inl this
   ·rename_i hw;rw [if_neg hw] at this;exact this
inductive rQ where
 | normal
 | exit (id:Nat)
 | goto (l:Nat)
 | ret
def aWs (L:Nat) (E:Env) (N:Nat) (Q:rQ→AS→Prop):Exit→Act→World→Prop
 | .normal,a,w => ∃ σ,Abs L E N σ a w∧Q .normal σ
 | .exit i,a,w => ∃ σ,Abs L E N σ a w∧Q (.exit i) σ
 | .goto l,a,w => ∃ σ,Abs L E N σ a w∧Q (.goto l) σ
 | .ret,a,w => ∃ σ,Abs L E N σ a w∧Q .ret σ
 | _,_,_=>False
def AW (L:Nat) (P:Program) (N:Nat) (c:Code) (Q:rQ→AS→Prop) (σ:AS):Prop := ∀ E a w,Abs L E N σ a w→c.wp P (aWs L E N Q) a w
def aFb (K:AS→Prop) (Q:rQ→AS→Prop):rQ→AS→Prop
 | .normal, σ=>K σ
 | e, σ=>Q e σ
def aF5 (id:Nat) (Q:rQ→AS→Prop):rQ→AS→Prop
 | .exit i, σ=>if i=id then Q .normal σ else Q (.exit i) σ
 | e, σ=>Q e σ
variable {Q:rQ→AS→Prop} {σ:AS} {c x y:Code}
theorem AW.mono {Q':rQ→AS→Prop} (h:AW L P N c Q σ) (hq : ∀ e σ,Q e σ→Q' e σ):AW L P N c Q' σ:=fun E a w A =>
 wp_mono (h E a w A) fun e a w q=>by cases e <;> first | (obtain ⟨σ',A',q'⟩:=q;exact ⟨σ',A',hq _ _ q'⟩) | exact q
theorem cX (h:Q .normal σ):AW L P N .skip Q σ:=fun E a w A=>wp_skip ⟨σ,A,h⟩
theorem bF {i:Nat} (h:Q (.exit i) σ):AW L P N (.exit i) Q σ:=fun E a w A=>wp_exit ⟨σ,A,h⟩
theorem aA (h:Q .ret σ):AW L P N .ret Q σ:=fun E a w A=>wp_ret ⟨σ,A,h⟩
theorem aB (h:AW L P N x (aFb (fun σ=>AW L P N y Q σ) Q) σ):AW L P N (.seq x y) Q σ:=fun E a w A =>
 wp_seq (wp_mono (h E a w A) fun e a w q=>by
  cases e with
  | normal=>obtain ⟨σ',A',q'⟩:=q;exact q' E a w A'
  | exit i=>exact q
  | goto l=>exact q
  | ret=>exact q
  | panic ch=>exact q
  | outgrown=>exact q)
theorem aE {id:Nat} (h:AW L P N c (aF5 id Q) σ):AW L P N (.block id c) Q σ:=fun E a w A =>
 wp_block (wp_mono (h E a w A) fun e a w q=>by
  cases e with
  | exit i =>
   obtain ⟨σ',A',q'⟩:=q
   simp only [Exit.inBlock,aF5] at q' ⊢
   split
   ·rename_i e;rw [if_pos e] at q';exact ⟨σ',A',q'⟩
   ·rename_i e;rw [if_neg e] at q';exact ⟨σ',A',q'⟩
  | normal=>exact q
  | goto l=>exact q
  | ret=>exact q
  | panic ch=>exact q
  | outgrown=>exact q)
theorem aTb {F:Nat→Prop} {μ:cT} {a:Act} {w:World} {b:Bool} {o:Operand} (A:aP2 L E N F μ σ a w) (hb:evA N σ o = .d (.v (.bool b))):a.eval o = .bool b:=by
 have hr:=aD1 A o
 rw [hb] at hr
 generalize a.eval o=v at hr
 cases hr with | d _ _ hd=>cases hd;rfl
theorem aG3 {o:Operand} (b:Bool) (hb:evA N σ o = .d (.v (.bool b))) (ht:b=true→AW L P N x Q σ) (hf:b=false→AW L P N y Q σ):AW L P N (.cond o x y) Q σ:=fun E a w ⟨F, μ,A⟩ =>
 wp_cond_split (aTb A hb) (fun e=>ht e E a w ⟨F, μ,A⟩) (fun e=>hf e E a w ⟨F, μ,A⟩)
theorem aS5 {o:Operand} (p:Prop) [Decidable p] (hb:evA N σ o = .d (.v (.bool (decide p)))) (ht:p→AW L P N x Q σ) (hf : ¬ p→AW L P N y Q σ):AW L P N (.cond o x y) Q σ :=
 aG3 (decide p) hb (fun e=>ht (by simpa using e)) (fun e=>hf (by simpa using e))
theorem zU {o:Operand} (hb:evA N σ o = .d (.v (.bool true))) (ht:AW L P N x Q σ):AW L P N (.cond o x y) Q σ:=aG3 true hb (fun _=>ht) (fun e=>by cases e)
theorem qD {o:Operand} (hb:evA N σ o = .d (.v (.bool false))) (hf:AW L P N y Q σ):AW L P N (.cond o x y) Q σ:=aG3 false hb (fun e=>by cases e) (fun _=>hf)
def mG (L:Nat) (N:Nat) (σ σ':AS):Prop := ∀ E a w,Abs L E N σ a w→Abs L E N σ' a w
theorem mG.refl_:mG L N σ σ:=fun _ _ _ A=>A
theorem mG.trans_ {σ1 σ2 σ3:AS} (h:mG L N σ1 σ2) (h':mG L N σ2 σ3):mG L N σ1 σ3:=fun E a w A=>h' E a w (h E a w A)
theorem cN {σ':AS} (hw:mG L N σ σ') (h:AW L P N c Q σ'):AW L P N c Q σ:=fun E a w A=>h E a w (hw E a w A)
theorem aVc {ι:Type} (S:ι→AS) (m:ι→Nat) (i0:ι) (h0:mG L N σ (S i0)) (round : ∀ i,AW L P N c (aFb (fun σ' => ∃ j,m j<m i∧mG L N σ' (S j)) Q) (S i)):AW L P N (.loop c) Q σ:=by
 intro E a w A b k cs
 have key : ∀ n i a w,m i=n→Abs L E N (S i) a w → ∃ e a' w',aWs L E N Q e a' w'∧Arrives P (lone (b.at a (.code c :: .inLoop c :: k)) cs w) b k cs e a' w':=by
  intro n
  induction n using Nat.strongRecOn with
  | _ n ih =>
   intro i a w hn hI
   obtain ⟨e,a₁,w₁,hq,harr⟩:=round i E a w hI b (.inLoop c :: k) cs
   cases e with
   | normal =>
    obtain ⟨σ',A',j,hlt,hw⟩:=hq
    obtain ⟨e₂,a₂,w₂,hq₂,harr₂⟩:=ih (m j) (hn ▸ hlt) j a₁ w₁ rfl (hw E a₁ w₁ A')
    exact ⟨e₂,a₂,w₂,hq₂, .of_steps (Steps.trans harr (.one step_inLoop)) harr₂⟩
   | exit id=>exact ⟨.exit id,a₁,w₁,hq, .pass (x := .inLoop c) rfl (fun _ _ => .inl (by simp)) harr⟩
   | goto l=>exact ⟨.goto l,a₁,w₁,hq, .pass (x := .inLoop c) rfl (fun _ _ => .inl (by simp)) harr⟩
   | ret=>exact ⟨.ret,a₁,w₁,hq, .pass (x := .inLoop c) rfl (fun _ _ => .inl (by simp)) harr⟩
   | panic ch=>exact hq.elim
   | outgrown=>exact hq.elim
 obtain ⟨e,a',w',hq,harr⟩:=key _ i0 a w rfl (h0 E a w A)
 exact ⟨e,a',w',hq, .of_steps (.one step_loop) harr⟩
def RT (P:Program) (N:Nat) (ops:Array Oper) (is:List Nat) (K:List (Nat × Cls)→AS→Prop) (σ:AS):Prop := ∃ l σ',l.map (·.1)=is∧aDn P N ops l σ σ'∧K l σ'
theorem bN {K:List (Nat × Cls)→AS→Prop} (h:K [] σ):RT P N ops [] K σ:=⟨[], σ,rfl, .nil σ,h⟩
theorem rE {i:Nat} {is:List Nat} {o:Oper} {cl:Cls} {σ1:AS} {K:List (Nat × Cls)→AS→Prop} (ho:ops[i]? = some o) (hs:gK P N ops o σ cl σ1) (h:RT P N ops is (fun l σ'=>K ((i,cl) :: l) σ') σ1):RT P N ops (i :: is) K σ:=by
 obtain ⟨l, σ',e,C,hk⟩:=h
 exact ⟨(i,cl) :: l, σ',by simp [e], .cons i cl l o σ σ1 σ' ho hs C,hk⟩
theorem Abs.drew_ {a:Act} {w:World} (A:Abs L E N σ a w):Abs L E N σ a { w with drawn:=w.drawn+1 }:=by
 obtain ⟨F, μ,A⟩:=A
 obtain ⟨H,V⟩:=A.H.drew
 exact ⟨F, μ,H,A.df,A.sz,fun t ht=>(A.tm t ht).evo V,A.lim⟩
theorem aH {id:Nat} {is:List Nat} (ms:List Nat) (hm:P.follows .mixedOrders=true) (hms:aRa ops.toList []=ms) (h:RT P N ops is (fun l σ'=>aQm ops ms l=true∧Q .normal σ') σ):AW L P N (.region id ops true) Q σ:=fun E a w A=>by
 obtain ⟨l, σ',e,C,hok,hk⟩:=h
 simp only [aQm,Bool.and_eq_true,List.all_eq_true,beq_iff_eq,List.any_eq_true,List.mem_range] at hok
 obtain ⟨⟨⟨h1,h2⟩,h3⟩,h4⟩:=hok
 refine wp_region_any hm ?_
 rw [← h2]
 refine aI5 (aT0 hms) (σ':=σ') (fun a' w' A'=>⟨σ',A',hk⟩) l.length l _ a _ σ rfl (aEo h4) h3 (by simp [h2]) (fun i hi => ?_) (fun i o ho hl => ?_) C A.drew_
 ·obtain ⟨x,hx,hxi⟩:=h1 i hi
  refine ⟨fun _=>⟨x.2,by rw [← hxi];exact hx⟩,fun _ => ?_⟩
  simp [Array.getD,h2,hi]
 ·exfalso
  have hi:i<ops.size:=(Array.getElem?_eq_some_iff.1 ho).1
  simp [Array.getD,h2,hi] at hl
theorem aG {K:AS→Prop} (h:K σ):aFb K Q .normal σ:=h
theorem bT {K:AS→Prop} {i:Nat} (h:Q (.exit i) σ):aFb K Q (.exit i) σ:=h
theorem aI {K:AS→Prop} (h:Q .ret σ):aFb K Q .ret σ:=h
theorem bB {id:Nat} (h:Q .normal σ):aF5 id Q .normal σ:=h
theorem aX {id:Nat} (h:Q .ret σ):aF5 id Q .ret σ:=h
theorem aQ {id:Nat} (h:Q .normal σ):aF5 id Q (.exit id) σ:=by simp only [aF5,if_true];exact h
end
end Go.Proofs.YtceknlcbfomdhaaGreatDoor
namespace Go.Proofs.YtceknlcbfomdhaaGreatDoor
open Go.RowKit
set_option linter.unusedVariables false
set_option maxRecDepth 100000
structure TI where
 desc:TypeDesc
 size:Nat
 bytes:Nat
 zero:Value
def kV (P:Program) (t:TypeId) (ti:TI):Prop:=P.underlying t=some ti.desc ∧ ∃ i,P.info? t=some i∧i.size=ti.size∧i.bytes=ti.bytes∧i.zero=some ti.zero
def aX0 (P:Program) (t:TypeId):Option (TypeDesc × Nat × Nat × Option Value) :=
 match P.underlying t,P.info? t with
 | some d,some i=>some (d,i.size,i.bytes,i.zero)
 | _,_=>none
theorem cC {P:Program} {t:TypeId} {d:TypeDesc} {n b:Nat} {z:Value} (h:aX0 P t=some (d,n,b,some z)):kV P t ⟨d,n,b,z⟩:=by
 unfold aX0 at h
 split at h
 ·rename_i d' i h1 h2
  simp only [Option.some.injEq,Prod.mk.injEq] at h
  obtain ⟨rfl,rfl,rfl,hz⟩:=h
  exact ⟨h1,i,h2,rfl,rfl,hz⟩
 ·cases h
abbrev Tab:=Nat→Option TI
def TOk (P:Program) (T:Tab):Prop := ∀ t ti,T t=some ti→kV P t ti
theorem aWl (P:Program):TOk P (fun _=>none):=fun t ti h=>by cases h
def kY (T:Tab) (t:Nat) (ti:TI):Tab:=fun t'=>bif Nat.beq t' t then some ti else T t'
theorem cA {P:Program} {T:Tab} {t:Nat} {ti:TI} (h:TOk P T) (hi:kV P t ti):TOk P (kY T t ti):=fun t' ti' h'=>by
 unfold kY at h'
 cases hb:Nat.beq t' t with
 | true =>
  rw [Nat.beq_eq] at hb
  subst hb
  simp at h'
  subst h'
  exact hi
 | false=>rw [hb] at h';exact h t' ti' h'
section
variable {P:Program} {T:Tab} {L N:Nat} {ops:Array Oper} {E:Env} {σ:AS} {K:List (Nat × Cls)→AS→Prop} {i:Nat} {is:List Nat}
theorem qE {a b:Nat} (h:Nat.blt a b=true):a<b:=Nat.le_of_ble_eq_true h
theorem dN {d N:Nat} (h:Nat.blt d N=true) : ∀ d',(some d:Option Tmp)=some d'→d'<N:=fun d' e=>by
 injection e with e
 subst e
 exact qE h
theorem aSq {o:Oper} {j t:Nat} {b:Bool} (h:o.guard=some (j,b)) (hj:(ops[j]?).bind (·.dst)=some t) (ht:Nat.blt t N=true) (hb:σ.t t = .d (.v (.bool b))):yR N ops o σ :=
 .inr ⟨j,b,t,h,hj,qE ht,hb⟩
variable {t:Nat→AV} {h:eB} {d:Tmp} {op:Op} {ty:TypeId} {pos:String} {aft:Array Edge} {g:Option (Nat × Bool)}
theorem aR1 {j u:Nat} {want:Bool} (ho:ops[i]? = some ⟨some d,op,ty,pos,aft,some (j,want)⟩) (hj:(ops[j]?).bind (·.dst)=some u) (hu:Nat.blt u N=true) (hb:t u = .d (.v (.bool !want))∨t u = .tup [])
  (hd:Nat.blt d N=true) (k:RT P N ops is (fun l σ'=>K ((i, .pu) :: l) σ') ⟨aC t d (.tup []),h⟩):RT P N ops (i :: is) K ⟨t,h⟩ :=
 rE ho (.skip (dN hd) j want u rfl hj (qE hu) hb) k
theorem aR0 {u:Nat} {b:Bool} (hb:t u = .d (.v (.bool b))) (ht:b=true→RT P N ops is K ⟨aC t u (.d (.v (.bool true))),h⟩) (hf:b=false→RT P N ops is K ⟨aC t u (.d (.v (.bool false))),h⟩):RT P N ops is K ⟨t,h⟩:=by
 have e:t=aC t u (.d (.v (.bool b))):=by
  funext t'
  by_cases e:t'=u
  ·subst e;rw [gC];exact hb
  ·rw [lM _ _ e]
 cases b with
 | true=>rw [e];exact ht rfl
 | false=>rw [e];exact hf rfl
theorem aUb {u:Nat} {p:Prop} [Decidable p] (hb:t u = .d (.v (.bool (decide p)))) (ht:p→RT P N ops is K ⟨aC t u (.d (.v (.bool true))),h⟩) (hf : ¬ p→RT P N ops is K ⟨aC t u (.d (.v (.bool false))),h⟩):RT P N ops is K ⟨t,h⟩ :=
 aR0 hb (fun e=>ht (by simpa using e)) (fun e=>hf (by simpa using e))
theorem rF {r:AV} (ho:ops[i]? = some ⟨some d,op,ty,pos,aft,g⟩) (hw:yR N ops ⟨some d,op,ty,pos,aft,g⟩ ⟨t,h⟩) (hd:Nat.blt d N=true) (hp:eV P N ⟨some d,op,ty,pos,aft,g⟩ ⟨t,h⟩ r)
  (k:RT P N ops is (fun l σ'=>K ((i, .pu) :: l) σ') ⟨aC t d r,h⟩):RT P N ops (i :: is) K ⟨t,h⟩:=rE ho (.pure (dN hd) hw r hp) k
theorem lV {w:World} {F:Nat→Prop} {μ:cT} {hp:eB} {v a:Value} (r:fC w F μ hp v (.d (.v a))):v=a:=by
 cases r with | d _ _ hd=>cases hd;rfl
def aW0:List AV→Option (List Value)
 | []=>some []
 | .d (.v a) :: cs=>match aW0 cs with
  | some l=>some (a :: l)
  | none=>none
 | _ :: _=>none
def toV:AV→Option Value
 | .d (.v a)=>some a
 | .agg cs=>match aW0 cs with
  | some l=>some (.agg l.toArray)
  | none=>none
 | _=>none
theorem aNl {w:World} {F:Nat→Prop} {μ:cT} {hp:eB} : ∀ {cs:List AV} {l:List Value} (vs:List Value),aW0 cs=some l→vs.length=cs.length→(∀ (i:Nat) v c,vs[i]? = some v→cs[i]? = some c→fC w F μ hp v c)→vs=l
 | [],l,vs,h,hl,_=>by
  simp [aW0] at h
  subst h
  exact List.eq_nil_of_length_eq_zero hl
 | c :: cs,l,vs,h,hl,hr=>by
  match vs,hl with
  | v :: vs,hl =>
   have h0:=hr 0 v c rfl rfl
   unfold aW0 at h
   split at h
   ·rename_i e;cases e
   ·rename_i a cs' e
    injection e with e1 e2
    subst e1 e2
    split at h
    ·rename_i l' hl'
     injection h with h
     subst h
     rw [lV h0,aNl vs hl' (by simpa using hl) fun i v c hv hc=>hr (i+1) v c hv hc]
    ·cases h
   ·cases h
theorem aE7 {w:World} {F:Nat→Prop} {μ:cT} {hp:eB} {v a:Value} {x:AV} (ha:toV x=some a) (r:fC w F μ hp v x):v=a:=by
 unfold toV at ha
 split at ha
 ·injection ha with ha;subst ha;exact lV r
 ·rename_i cs
  split at ha
  ·rename_i l hl
   injection ha with ha
   subst ha
   cases r with | agg vs _ hs hr =>
   have:=aNl vs.toList hl (by simpa using hs) fun i v c hv hc=>hr i v c (by simpa using hv) hc
   rw [← this]
  ·cases ha
 ·cases ha
theorem aL {x:Operand} {r:AV} (hx:evA N ⟨t,h⟩ x=r):eV P N ⟨some d, .move x,ty,pos,aft,g⟩ ⟨t,h⟩ r:=fun w F μ hh ρ st=>by
 have:=st x (by simp [Op.operands])
 rw [hx] at this
 exact ⟨ρ x,by simp [execOp],this⟩
theorem aR {x:Operand} {r:AV} (hx:evA N ⟨t,h⟩ x=r):eV P N ⟨some d, .assign x,ty,pos,aft,g⟩ ⟨t,h⟩ r:=fun w F μ hh ρ st=>by
 have:=st x (by simp [Op.operands])
 rw [hx] at this
 exact ⟨ρ x,by simp [execOp],this⟩
theorem aAr {c a b:Operand} {r:AV} (hc:evA N ⟨t,h⟩ c = .d (.v (.bool true))) (hx:evA N ⟨t,h⟩ a=r):eV P N ⟨some d, .pick c a b,ty,pos,aft,g⟩ ⟨t,h⟩ r:=fun w F μ hh ρ st=>by
 have h1:=st c (by simp [Op.operands])
 have h2:=st a (by simp [Op.operands])
 rw [hc] at h1;rw [hx] at h2
 exact ⟨ρ a,by simp [execOp,lV h1,asBool],h2⟩
theorem aAq {c a b:Operand} {r:AV} (hc:evA N ⟨t,h⟩ c = .d (.v (.bool false))) (hx:evA N ⟨t,h⟩ b=r):eV P N ⟨some d, .pick c a b,ty,pos,aft,g⟩ ⟨t,h⟩ r:=fun w F μ hh ρ st=>by
 have h1:=st c (by simp [Op.operands])
 have h2:=st b (by simp [Op.operands])
 rw [hc] at h1;rw [hx] at h2
 exact ⟨ρ b,by simp [execOp,lV h1,asBool],h2⟩
theorem nP {o:BinOp} {xt yt:TypeId} {x y:Operand} {a b u:Value} (hx:toV (evA N ⟨t,h⟩ x)=some a) (hy:toV (evA N ⟨t,h⟩ y)=some b)
  (hr : ∀ w:World,(do eqGuard o xt x y a b;binOp o xt a b:Sem Value).run P w = .ok u w) (h1:u.oneCell'=true:=by rfl):eV P N ⟨some d, .binOp o xt x y yt,ty,pos,aft,g⟩ ⟨t,h⟩ (.d (.v u)):=fun w F μ hh ρ st=>by
 have g1:=aE7 hx (st x (by simp [Op.operands]))
 have g2:=aE7 hy (st y (by simp [Op.operands]))
 refine ⟨u,?_, .d _ _ (.v _ h1)⟩
 simp only [execOp,g1,g2]
 rw [Sem.run_bind,hr];rfl
theorem aWd {o:UnOp} {xt:TypeId} {x:Operand} {a u:Value} (hx:toV (evA N ⟨t,h⟩ x)=some a) (hr : ∀ w:World,(Op.unary o a).run P w = .ok u w) (h1:u.oneCell'=true:=by rfl):eV P N ⟨some d, .unOp o xt x,ty,pos,aft,g⟩ ⟨t,h⟩ (.d (.v u)):=fun w F μ hh ρ st=>by
 have g1:=aE7 hx (st x (by simp [Op.operands]))
 refine ⟨u,?_, .d _ _ (.v _ h1)⟩
 simp only [execOp,g1]
 rw [Sem.run_bind,hr];rfl
theorem aV8 {st_ dt:TypeId} {x:Operand} {a u:Value} (hx:toV (evA N ⟨t,h⟩ x)=some a) (hr : ∀ w:World,(convert st_ dt a).run P w = .ok u w) (h1:u.oneCell'=true:=by rfl):eV P N ⟨some d, .convert st_ dt x,ty,pos,aft,g⟩ ⟨t,h⟩ (.d (.v u)):=fun w F μ hh ρ st=>by
 have g1:=aE7 hx (st x (by simp [Op.operands]))
 refine ⟨u,?_, .d _ _ (.v _ h1)⟩
 simp only [execOp,g1]
 rw [Sem.run_bind,hr];rfl
section ints
variable {xt yt:TypeId} {x y:Operand} {a b:Int} {kx:IntKind}
theorem aYh {n:Int} (h0 : -9223372036854775808≤n) (h1:n≤9223372036854775807):IntKind.i64.wrap n=n:=IntWalk.i64_in n ⟨h0,h1⟩
theorem aV6 (hx:evA N ⟨t,h⟩ x = .d (.v (.int kx a))) (hy:evA N ⟨t,h⟩ y = .d (.v (.int kx b))):eV P N ⟨some d, .binOp .add xt x y yt,ty,pos,aft,g⟩ ⟨t,h⟩ (.d (.v (.int kx (kx.wrap (a+b))))) :=
 nP (by rw [hx];rfl) (by rw [hy];rfl) fun w=>by simp [eqGuard,binOp,Op.intArith]
theorem aWc (hx:evA N ⟨t,h⟩ x = .d (.v (.int kx a))) (hy:evA N ⟨t,h⟩ y = .d (.v (.int kx b))):eV P N ⟨some d, .binOp .sub xt x y yt,ty,pos,aft,g⟩ ⟨t,h⟩ (.d (.v (.int kx (kx.wrap (a-b))))) :=
 nP (by rw [hx];rfl) (by rw [hy];rfl) fun w=>by simp [eqGuard,binOp,Op.intArith]
theorem aWb (hx:evA N ⟨t,h⟩ x = .d (.v (.int kx a))) (hy:evA N ⟨t,h⟩ y = .d (.v (.int kx b))):eV P N ⟨some d, .binOp .mul xt x y yt,ty,pos,aft,g⟩ ⟨t,h⟩ (.d (.v (.int kx (kx.wrap (a*b))))) :=
 nP (by rw [hx];rfl) (by rw [hy];rfl) fun w=>by simp [eqGuard,binOp,Op.intArith]
theorem aEq (hx:evA N ⟨t,h⟩ x = .d (.v (.int kx a))) (hy:evA N ⟨t,h⟩ y = .d (.v (.int kx b))) (hb:b≠0):eV P N ⟨some d, .binOp .quo xt x y yt,ty,pos,aft,g⟩ ⟨t,h⟩ (.d (.v (.int kx (kx.wrap (a.tdiv b))))) :=
 nP (by rw [hx];rfl) (by rw [hy];rfl) fun w=>by simp [eqGuard,binOp,Op.intDiv,hb]
theorem kU (hx:evA N ⟨t,h⟩ x = .d (.v (.int kx a))) (hy:evA N ⟨t,h⟩ y = .d (.v (.int kx b))) (hb:b≠0):eV P N ⟨some d, .binOp .rem xt x y yt,ty,pos,aft,g⟩ ⟨t,h⟩ (.d (.v (.int kx (a.tmod b)))) :=
 nP (by rw [hx];rfl) (by rw [hy];rfl) fun w=>by simp [eqGuard,binOp,Op.intDiv,hb]
theorem bK (hx:evA N ⟨t,h⟩ x = .d (.v (.int kx a))) (hy:evA N ⟨t,h⟩ y = .d (.v (.int kx b))):eV P N ⟨some d, .binOp .lss xt x y yt,ty,pos,aft,g⟩ ⟨t,h⟩ (.d (.v (.bool (decide (a<b))))) :=
 nP (by rw [hx];rfl) (by rw [hy];rfl) fun w=>by simp [eqGuard,binOp,Op.intCmp]
theorem gW (hx:evA N ⟨t,h⟩ x = .d (.v (.int kx a))) (hy:evA N ⟨t,h⟩ y = .d (.v (.int kx b))):eV P N ⟨some d, .binOp .leq xt x y yt,ty,pos,aft,g⟩ ⟨t,h⟩ (.d (.v (.bool (decide (a≤b))))) :=
 nP (by rw [hx];rfl) (by rw [hy];rfl) fun w=>by simp [eqGuard,binOp,Op.intCmp]
theorem gT (hx:evA N ⟨t,h⟩ x = .d (.v (.int kx a))) (hy:evA N ⟨t,h⟩ y = .d (.v (.int kx b))):eV P N ⟨some d, .binOp .gtr xt x y yt,ty,pos,aft,g⟩ ⟨t,h⟩ (.d (.v (.bool (decide (b<a))))) :=
 nP (by rw [hx];rfl) (by rw [hy];rfl) fun w=>by simp [eqGuard,binOp,Op.intCmp]
theorem tH (hx:evA N ⟨t,h⟩ x = .d (.v (.int kx a))) (hy:evA N ⟨t,h⟩ y = .d (.v (.int kx b))):eV P N ⟨some d, .binOp .geq xt x y yt,ty,pos,aft,g⟩ ⟨t,h⟩ (.d (.v (.bool (decide (b≤a))))) :=
 nP (by rw [hx];rfl) (by rw [hy];rfl) fun w=>by simp [eqGuard,binOp,Op.intCmp]
theorem iX (hx:evA N ⟨t,h⟩ x = .d (.v (.int kx a))) (hy:evA N ⟨t,h⟩ y = .d (.v (.int kx b))):eV P N ⟨some d, .binOp .eql xt x y yt,ty,pos,aft,g⟩ ⟨t,h⟩ (.d (.v (.bool (decide (a=b))))) :=
 nP (by rw [hx];rfl) (by rw [hy];rfl) fun w=>by
  simp only [eqGuard,binOp,Op.intCmp]
  simp
  by_cases e:a=b <;> simp [e]
theorem cQ (hx:evA N ⟨t,h⟩ x = .d (.v (.int kx a))) (hy:evA N ⟨t,h⟩ y = .d (.v (.int kx b))):eV P N ⟨some d, .binOp .neq xt x y yt,ty,pos,aft,g⟩ ⟨t,h⟩ (.d (.v (.bool (decide (a≠b))))) :=
 nP (by rw [hx];rfl) (by rw [hy];rfl) fun w=>by
  simp only [eqGuard,binOp,Op.intCmp]
  simp
  by_cases e:a=b <;> simp [e]
theorem bW {b:Bool} (hx:evA N ⟨t,h⟩ x = .d (.v (.bool b))):eV P N ⟨some d, .unOp .not xt x,ty,pos,aft,g⟩ ⟨t,h⟩ (.d (.v (.bool !b))) :=
 aWd (by rw [hx];rfl) fun w=>by simp [Op.unary]
theorem aKe (hT:TOk P T) {st_ dt:TypeId} {d1 d2:TI} {k1 k2:IntKind} (h1:T st_=some d1) (h2:T dt=some d2) (e2:d2.desc = .int k2) (hx:evA N ⟨t,h⟩ x = .d (.v (.int k1 a))) (e1:d1.desc = .int k1) :
  eV P N ⟨some d, .convert st_ dt x,ty,pos,aft,g⟩ ⟨t,h⟩ (.d (.v (.int k2 (k2.wrap a)))) :=
 aV8 (by rw [hx];rfl) fun w=>by
  have u1:=(hT _ _ h1).1
  have u2:=(hT _ _ h2).1
  rw [e1] at u1
  rw [e2] at u2
  simp [convert,run_underlying u1,run_underlying u2,Conv.intToInt]
end ints
end
end Go.Proofs.YtceknlcbfomdhaaGreatDoor
namespace Go.Proofs.YtceknlcbfomdhaaGreatDoor
open Go.RowKit
set_option linter.unusedVariables false
set_option maxRecDepth 100000
inductive Seg {α:Type}:Nat→Nat→List α→List α→Prop
 | z (l:List α):Seg 0 0 l []
 | t {n:Nat} {a:α} {l r:List α} (h:Seg 0 n l r):Seg 0 (n+1) (a :: l) (a :: r)
 | d {o n:Nat} {a:α} {l r:List α} (h:Seg o n l r):Seg (o+1) n (a :: l) r
theorem Seg.spec {α:Type} {o n:Nat} {l r:List α} (h:Seg o n l r):r.length=n∧o+n≤l.length+(if n=0 then o else 0) ∧ ∀ (i:Nat) x,r[i]? = some x→l[o+i]? = some x:=by
 induction h with
 | z l=>simp
 | t h ih =>
  obtain ⟨h1,h2,h3⟩:=ih
  refine ⟨by simp [h1],?_,fun i x hx => ?_⟩
  ·simp;split at h2 <;> omega
  ·cases i with
   | zero=>simpa using hx
   | succ i=>simp at hx ⊢;have:=h3 i x hx;simpa using this
 | d h ih =>
  obtain ⟨h1,h2,h3⟩:=ih
  refine ⟨h1,?_,fun i x hx => ?_⟩
  ·simp;split at h2 <;> split <;> omega
  ·have:=h3 i x hx
   rw [show ∀ o i:Nat,o+1+i=(o+i)+1 by omega]
   simpa using this
inductive Drp {α:Type}:Nat→List α→List α→Prop
 | z (l:List α):Drp 0 l l
 | d {o:Nat} {a:α} {l r:List α} (h:Drp o l r):Drp (o+1) (a :: l) r
theorem Drp.spec {α:Type} {o:Nat} {l r:List α} (h:Drp o l r):r=l.drop o∧o≤l.length:=by
 induction h with
 | z l=>simp
 | d h ih=>simp [ih.1,ih.2]
inductive Spl {α:Type}:Nat→List α→List α→List α→Prop
 | z (l:List α):Spl 0 [] l l
 | t {n o:α} {ns os r:List α} (h:Spl 0 ns os r):Spl 0 (n :: ns) (o :: os) (n :: r)
 | d {k:Nat} {o:α} {ns os r:List α} (h:Spl k ns os r):Spl (k+1) ns (o :: os) (o :: r)
theorem Spl.spec {α:Type} {o:Nat} {ns l r:List α} (h:Spl o ns l r):r.length=l.length∧o+ns.length≤l.length∧(∀ i:Nat,i<o∨o+ns.length≤i→r[i]? = l[i]?) ∧ ∀ i:Nat,i<ns.length→r[o+i]? = ns[i]? := by
 induction h with
 | z l=>simp
 | t h ih =>
  obtain ⟨h1,h2,h3,h4⟩:=ih
  refine ⟨by simp [h1],by simp at h2 ⊢;omega,fun i hi => ?_,fun i hi => ?_⟩
  ·cases i with
   | zero=>simp at hi
   | succ i=>simp at hi ⊢;exact h3 i (by simp;omega)
  ·cases i with
   | zero=>simp
   | succ i=>simp at hi ⊢;have:=h4 i hi;simpa using this
 | d h ih =>
  obtain ⟨h1,h2,h3,h4⟩:=ih
  refine ⟨by simp [h1],by simp;omega,fun i hi => ?_,fun i hi => ?_⟩
  ·cases i with
   | zero=>simp
   | succ i=>simp at hi ⊢;exact h3 i (by omega)
  ·have:=h4 i hi
   rw [show ∀ k i:Nat,k+1+i=(k+i)+1 by omega]
   simpa using this
def wD:AV→List AV
 | .agg cs=>cs
 | x=>[x]
def ok1:AV→Bool
 | .agg _=>false
 | .tup _=>false
 | .dead=>false
 | _=>true
def okL:List AV→Bool
 | []=>true
 | c :: cs=>ok1 c && okL cs
theorem aH6 : ∀ {cs:List AV},okL cs=true → ∀ {i:Nat} {c:AV},cs[i]? = some c→ok1 c=true
 | [],_,i,c,hc=>by simp at hc
 | x :: cs,h,0,c,hc=>by simp [okL] at h hc;rw [← hc];exact h.1
 | x :: cs,h,i+1,c,hc=>by simp [okL] at h hc;exact aH6 h.2 hc
theorem aDo.one_ {w:World} {F:Nat→Prop} {v:Value} {x:DV} (r:aDo w F v x):v.oneCell'=true:=by cases r <;> first | assumption | rfl
theorem fC.one_ {w:World} {F:Nat→Prop} {μ:cT} {h:eB} {v:Value} {a:AV} (r:fC w F μ h v a) (ho:ok1 a=true):v.oneCell'=true:=by
 cases r <;> simp [ok1] at ho
 ·rename_i hd;exact hd.one_
 ·rfl
 ·assumption
 ·assumption
 ·rfl
theorem aQf {v:Value} (h:v.oneCell'=true):v.cells = #[v]:=by cases v <;> first | rfl | simp [Value.oneCell'] at h
theorem fC.cells_ {w:World} {F:Nat→Prop} {μ:cT} {h:eB} {v:Value} {a:AV} (r:fC w F μ h v a) {cs:List AV} (hc:wD a=cs) (ho:okL cs=true) :
  v.cells.size=cs.length∧(∀ (j:Nat) c,cs[j]? = some c → ∃ u,v.cells[j]? = some u∧fC w F μ h u c) ∧ ∀ u ∈ v.cells,u.oneCell'=true:=by
 have fin : ∀ (vs:Array Value),vs.size=cs.length→(∀ (j:Nat) c,cs[j]? = some c → ∃ u,vs[j]? = some u∧fC w F μ h u c) → ∀ u ∈ vs,u.oneCell'=true:=fun vs hs hr u hu=>by
  obtain ⟨j,hj,rfl⟩:=Array.mem_iff_getElem.1 hu
  obtain ⟨u',hu',hr'⟩:=hr j (cs[j]'(by omega)) (List.getElem?_eq_getElem _)
  rw [Array.getElem?_eq_getElem hj] at hu'
  injection hu' with hu'
  rw [hu']
  exact hr'.one_ (aH6 ho (List.getElem?_eq_getElem (by omega)))
 by_cases hagg : ∃ cs',a = .agg cs'
 ·obtain ⟨cs',rfl⟩:=hagg
  simp only [wD] at hc
  subst hc
  cases r with | agg vs _ hs hr =>
  have h2 : ∀ (j:Nat) c,cs'[j]? = some c → ∃ u,vs[j]? = some u∧fC w F μ h u c:=fun j c hj=>by
   have hlt:j<vs.size:=by rw [hs];exact (List.getElem?_eq_some_iff.1 hj).1
   exact ⟨vs[j],Array.getElem?_eq_getElem hlt,hr j _ c (Array.getElem?_eq_getElem hlt) hj⟩
  exact ⟨hs,h2,fin vs hs h2⟩
 ·have hc':cs=[a]:=by
   rw [← hc]
   cases a <;> first | rfl | exact absurd ⟨_,rfl⟩ hagg
  subst hc'
  have h1:v.oneCell'=true:=r.one_ (aH6 ho (i:=0) rfl)
  rw [aQf h1]
  have h2 : ∀ (j:Nat) c,[a][j]? = some c → ∃ u,(#[v]:Array Value)[j]? = some u∧fC w F μ h u c:=fun j c hj=>by
   cases j with
   | zero=>simp at hj;subst hj;exact ⟨v,rfl,r⟩
   | succ j=>simp at hj
  exact ⟨rfl,h2,fin _ rfl h2⟩
def tZ:TypeDesc→Bool
 | .struct _=>true
 | .array _ _=>true
 | _=>false
section
variable {P:Program} {T:Tab} {N:Nat} {ops:Array Oper} {E:Env} {t:Nat→AV} {h:eB} {d:Tmp} {ty:TypeId} {pos:String} {aft:Array Edge} {g:Option (Nat × Bool)}
theorem aAu (hT:TOk P T) {u:TypeId} {ti:TI} (hu:T u=some ti) (w:World):(isAgg u).run P w = .ok (tZ ti.desc) w:=by
 unfold isAgg
 rw [Sem.run_bind,run_underlying (hT u ti hu).1 w]
 cases ti.desc <;> simp [tZ]
theorem jJ (hT:TOk P T) {u:TypeId} {ti:TI} (hu:T u=some ti) (w:World):(sizeOf u).run P w = .ok ti.size w:=by
 obtain ⟨_,i,hi,hs,_⟩:=hT u ti hu
 simp [sizeOf,typeInfo,hi,hs]
theorem aOd (hT:TOk P T) {u:TypeId} {ti:TI} (hu:T u=some ti) (w:World):(zeroValue u).run P w = .ok ti.zero w:=by
 obtain ⟨_,i,hi,_,_,hz⟩:=hT u ti hu
 simp [zeroValue,typeInfo,hi,hz]
theorem aN {x:Operand} {k:Nat} {cs:List AV} {c:AV} (hx:evA N ⟨t,h⟩ x = .tup cs) (hc:cs[k]? = some c):eV P N ⟨some d, .extract x k,ty,pos,aft,g⟩ ⟨t,h⟩ c:=fun w F μ hh ρ st=>by
 have hr:=st x (by simp [Op.operands])
 rw [hx] at hr
 generalize hv:ρ x=v at hr
 cases hr with | tup vs _ hs hr =>
 have hlt:k<vs.size:=by rw [hs];exact (List.getElem?_eq_some_iff.1 hc).1
 refine ⟨vs[k],?_,hr _ _ c (Array.getElem?_eq_getElem hlt) hc⟩
 simp [execOp,hv,Instr.extract,hlt]
def evL (N:Nat) (σ:AS):List Operand→List AV
 | []=>[]
 | x :: xs=>evA N σ x :: evL N σ xs
theorem aBe (N:Nat) (σ:AS) : ∀ xs,evL N σ xs=xs.map (evA N σ)
 | []=>rfl
 | x :: xs=>by simp [evL,aBe N σ xs]
theorem aMq {f:FuncId} {cap:Array Operand} {caps:List AV} (hc:evL N ⟨t,h⟩ cap.toList=caps):eV P N ⟨some d, .makeFunc (.func f) #[] cap,ty,pos,aft,g⟩ ⟨t,h⟩ (.fn f caps):=fun w F μ hh ρ st=>by
 refine ⟨.func (.func f) #[] (cap.map ρ),by simp [execOp,Instr.makeFunc],?_⟩
 subst hc
 rw [aBe]
 refine .fn f _ _ (by simp) fun i v c hv hc => ?_
 rw [Array.getElem?_map] at hv
 rw [List.getElem?_map,Array.getElem?_toList] at hc
 obtain ⟨x,hx,rfl⟩:=Option.map_eq_some_iff.1 hv
 rw [hx] at hc
 simp at hc
 subst hc
 exact st x (by simp only [Op.operands];exact Array.mem_append.2 (.inr (Array.mem_of_getElem? hx)))
theorem aTk (vs:List Value) : ∀ (k off:Nat) (cs:Array Value),(∀ i:Nat,((vs.zipIdx k).foldl (fun cs (x:Value × Nat)=>cs.setIfInBounds (off+x.2) x.1) cs)[i]? = if off+k≤i∧i<off+k+vs.length∧i<cs.size then vs[i-(off+k)]? else cs[i]?) ∧
  ((vs.zipIdx k).foldl (fun cs (x:Value × Nat)=>cs.setIfInBounds (off+x.2) x.1) cs).size=cs.size:=by
 induction vs with
 | nil=>intro k off cs;simp;intro i h1 h2;omega
 | cons v vs ih =>
  intro k off cs
  obtain ⟨h1,h2⟩:=ih (k+1) off (cs.setIfInBounds (off+k) v)
  simp only [List.zipIdx_cons,List.foldl_cons]
  refine ⟨fun i => ?_,by rw [h2];simp⟩
  rw [h1 i]
  simp only [Array.size_setIfInBounds,List.length_cons]
  by_cases e:i=off+k
  ·subst e
   rw [if_neg (by omega)]
   by_cases hs:off+k<cs.size
   ·rw [if_pos (by omega)];simp [Array.getElem?_setIfInBounds,hs]
   ·rw [if_neg (by omega)];simp [Array.getElem?_setIfInBounds,hs]
  ·by_cases hc:off+(k+1)≤i∧i<off+(k+1)+vs.length∧i<cs.size
   ·rw [if_pos hc,if_pos (by omega)]
    rw [show i-(off+k)=(i-(off+(k+1)))+1 by omega]
    simp
   ·rw [if_neg hc,if_neg (by omega)]
    rw [Array.getElem?_setIfInBounds_ne (by omega)]
theorem aJk {place:Nat→Option (Nat × Nat)} {cells:Array Value} {i:Nat} {v:Value} {rest:List (Nat × Value)} {off size:Nat} (hp:place i=some (off,size)) (hs:v.cells.size=size) (hfit:off+size≤cells.size) :
  ∃ cells',Instr.fill place cells ((i,v) :: rest)=Instr.fill place cells' rest∧cells'.size=cells.size ∧ ∀ j:Nat,cells'[j]? = if off≤j∧j<off+size then v.cells[j-off]? else cells[j]? := by
 obtain ⟨h1,h2⟩:=aTk v.cells.toList 0 off cells
 have hz:v.cells.zipIdx.foldl (fun cs (x:Value × Nat)=>cs.setIfInBounds (off+x.2) x.1) cells=(v.cells.toList.zipIdx 0).foldl (fun cs (x:Value × Nat)=>cs.setIfInBounds (off+x.2) x.1) cells:=by
  rw [← Array.foldl_toList,Array.toList_zipIdx]
 refine ⟨v.cells.zipIdx.foldl (fun cs (x:Value × Nat)=>cs.setIfInBounds (off+x.2) x.1) cells,?_,by rw [hz];exact h2,fun j => ?_⟩
 ·simp only [Instr.fill,hp]
  rw [if_neg (by simp;omega)]
 ·rw [hz,h1 j]
  simp only [Nat.add_zero,Array.length_toList,hs]
  by_cases hc:off≤j∧j<off+size
  ·rw [if_pos (by omega),if_pos hc,Array.getElem?_toList]
  ·rw [if_neg (by omega),if_neg hc]
inductive Bld (place:Nat→Option (Nat × Nat)) (ev:Operand→AV):List AV→List (Nat × Operand)→List AV→Prop
 | nil (C:List AV):Bld place ev C [] C
 | cons {i off sz:Nat} {x:Operand} {cs C C1 C2:List AV} {ps:List (Nat × Operand)} (hp:place i=some (off,sz)) (hc:wD (ev x)=cs) (ho:okL cs=true) (hl:Nat.beq cs.length sz=true) (hs:Spl off cs C C1) (k:Bld place ev C1 ps C2) :
   Bld place ev C ((i,x) :: ps) C2
theorem Bld.fill_ {place:Nat→Option (Nat × Nat)} {ev:Operand→AV} {C C2:List AV} {ps:List (Nat × Operand)} (B:Bld place ev C ps C2) {w:World} {F:Nat→Prop} {μ:cT} {hh:eB} {ρ:Operand→Value} :
  ∀ (cells:Array Value),cells.size=C.length→(∀ (j:Nat) c,C[j]? = some c → ∃ u,cells[j]? = some u∧fC w F μ hh u c)→(∀ p ∈ ps,fC w F μ hh (ρ p.2) (ev p.2)) →
  ∃ out,Instr.fill place cells (ps.map fun p=>(p.1, ρ p.2))=some out∧out.size=C2.length ∧ ∀ (j:Nat) c,C2[j]? = some c → ∃ u,out[j]? = some u∧fC w F μ hh u c:=by
 induction B with
 | nil C=>intro cells hs hr _;exact ⟨cells,rfl,hs,hr⟩
 | cons hp hc ho hl hs k ih =>
  rename_i i off sz x cs C C1 C2 ps
  intro cells hsz hr hps
  obtain ⟨c1,c2,c3⟩:=(hps (i,x) (by simp)).cells_ hc ho
  obtain ⟨s1,s2,s3,s4⟩:=hs.spec
  have hlen:cs.length=sz:=Nat.eq_of_beq_eq_true hl
  obtain ⟨cells',f1,f2,f3⟩:=aJk (rest:=ps.map fun p=>(p.1, ρ p.2)) (cells:=cells) hp (c1.trans hlen) (by omega)
  rw [List.map_cons,f1]
  refine ih cells' (by omega) (fun j c hj => ?_) fun p hp=>hps p (by simp [hp])
  rw [f3 j]
  by_cases hcj:off≤j∧j<off+sz
  ·rw [if_pos hcj]
   have:=s4 (j-off) (by omega)
   rw [show off+(j-off)=j by omega,hj] at this
   exact c2 _ c this.symm
  ·rw [if_neg hcj]
   rw [s3 j (by omega)] at hj
   exact hr j c hj
inductive Plc (T:Tab):List Field→List (Nat × Nat)→Prop
 | nil:Plc T [] []
 | cons {f:Field} {fs:List Field} {ti:TI} {ps:List (Nat × Nat)} (hf:T f.type=some ti) (k:Plc T fs ps):Plc T (f :: fs) ((f.offset,ti.size) :: ps)
theorem Plc.spec (hT:TOk P T) {fs:List Field} {ps:List (Nat × Nat)} (h:Plc T fs ps):fs.mapM (fun f=>(P.info? f.type).map fun i=>(f.offset,i.size))=some ps:=by
 induction h with
 | nil=>simp
 | cons hf k ih =>
  obtain ⟨_,i,hi,hs,_⟩:=hT _ _ hf
  simp [List.mapM_cons,hi,hs,ih]
theorem aT9 (hT:TOk P T) {bt:TypeId} {parts:Array (Nat × Operand)} {ti:TI} {fs:Array Field} {pl:List (Nat × Nat)} {C0 C:List AV} (h1:T bt=some ti) (h2:ti.desc = .struct fs) (h3:Plc T fs.toList pl) (h4:aBy ti.zero.cells.toList=C0)
  (h5:Bld (fun i=>pl[i]?) (evA N ⟨t,h⟩) C0 parts.toList C):eV P N ⟨some d, .build bt parts,ty,pos,aft,g⟩ ⟨t,h⟩ (.agg C):=fun w F μ hh ρ st=>by
 obtain ⟨out,o1,o2,o3⟩:=h5.fill_ (w:=w) (F:=F) (μ:=μ) (hh:=hh) (ρ:=ρ) ti.zero.cells (by rw [← h4];simp [pB]) (fun j c hj=>by
  rw [← h4,pB,List.getElem?_map,Array.getElem?_toList] at hj
  obtain ⟨u,hu,rfl⟩:=Option.map_eq_some_iff.1 hj
  exact ⟨u,hu,aDg u⟩) (fun p hp=>st p.2 (by simp only [Op.operands];simp;exact ⟨p.1,by simpa using hp⟩))
 obtain ⟨hu,i,hi,_,_,hz⟩:=hT _ _ h1
 rw [h2] at hu
 have hb:P.built bt (parts.map fun (p:Nat × Operand)=>(p.1, ρ p.2)).toList=some out:=by
  unfold Program.built
  simp only [hi,hu,hz,Plc.spec hT h3]
  rw [Array.toList_map]
  have:(fun (i:Nat)=>pl.toArray[i]?)=fun i=>pl[i]? := by funext i;simp
  rw [this]
  exact o1
 refine ⟨.agg out,?_, .agg out C o2 fun j v c hv hc => ?_⟩
 ·have:=run_build (P:=P) w bt _ out hb
  simp only [execOp]
  rw [Sem.run_bind]
  have e:(parts.map fun (x:Nat × Operand)=>match x with | (i,x)=>(i, ρ x))=parts.map fun (p:Nat × Operand)=>(p.1, ρ p.2):=rfl
  rw [e,this];rfl
 ·obtain ⟨u,hu',hr⟩:=o3 j c hc
  rw [hv] at hu'
  injection hu' with hu'
  rw [hu'];exact hr
end
end Go.Proofs.YtceknlcbfomdhaaGreatDoor
namespace Go.Proofs.YtceknlcbfomdhaaGreatDoor
open Go.RowKit
set_option linter.unusedVariables false
set_option maxRecDepth 100000
theorem aBz {c:cG} {i:Nat} {cells:List AV} (h:c.get i=some cells):i<c.len:=by
 cases c with
 | data es =>
  simp only [cG.get] at h
  obtain ⟨e,he,_⟩:=Option.map_eq_some_iff.1 h
  exact (List.getElem?_eq_some_iff.1 he).1
 | av es=>exact (List.getElem?_eq_some_iff.1 h).1
theorem aKb {E:Env} {F:Nat→Prop} {μ:cT} {h:eB} {w:World} (H:iY E F μ h w) {k f:Nat} {o:kC} (ho:lv h k f=some o) (hn:0<o.cs.len) :
  ∃ b cur, μ k f=some b∧w.heap[b]? = some (.cells cur o.ty (0,0)) ∧ ∀ i cells,o.cs.get i=some cells→cells.length=o.sz ∧ ∀ (j:Nat) (c:AV),cells[j]? = some c → ∃ u,cur[i*o.sz+j]? = some u∧fC w F μ h u c:=by
 rcases H.ob k f o ho with ⟨_,h2⟩ | ⟨b,cur,h1,h2,h3⟩
 ·omega
 ·exact ⟨b,cur,h1,h2,h3⟩
theorem aEp {E:Env} {F:Nat→Prop} {μ:cT} {h:eB} {w:World} (H:iY E F μ h w) {v:Value} {k f n i j:Nat} (r:fC w F μ h v (.ptr k f n i j)) {o:kC} (ho:lv h k f=some o) (hn:o.cs.len=n) {cells:List AV} (hi:o.cs.get i=some cells) :
  ∃ b cur,v = .pointer (some ⟨b,i*o.sz+j,none⟩)∧μ k f=some b∧w.heap[b]? = some (.cells cur o.ty (0,0))∧cells.length=o.sz ∧ ∀ (j:Nat) (c:AV),cells[j]? = some c → ∃ u,cur[i*o.sz+j]? = some u∧fC w F μ h u c:=by
 cases r with | ptr _ _ _ _ _ _ h1 hb hv =>
 obtain ⟨b,hm,rfl⟩:=(hv o ho).2 hn
 obtain ⟨b',cur,hm',hh,hc⟩:=aKb H ho (by have:=aBz hi;omega)
 rw [hm] at hm'
 injection hm' with hm'
 subst hm'
 exact ⟨b,cur,rfl,hm,hh,(hc i cells hi).1,(hc i cells hi).2⟩
theorem tA (b o j:Nat):(⟨b,o,none⟩:Addr).add j=⟨b,o+j,none⟩:=by unfold Addr.add;split <;> simp_all
theorem aNr (cur:Array Value) (a n:Nat) (hall : ∀ q,q<n → ∃ u,cur[a+q]? = some u):((cur.toList.drop a).take n).length=n ∧ ∀ (q:Nat) v,((cur.toList.drop a).take n)[q]? = some v→q<n∧cur[a+q]? = some v:=by
 have hsz:n=0∨a+n≤cur.size:=by
  rcases Nat.eq_zero_or_pos n with h | h
  ·exact .inl h
  ·obtain ⟨u,hu⟩:=hall (n-1) (by omega)
   have:=(Array.getElem?_eq_some_iff.1 hu).1
   exact .inr (by omega)
 refine ⟨by simp;omega,fun q v hq => ?_⟩
 have hlt:q<n:=by have:=(List.getElem?_eq_some_iff.1 hq).1;simp at this;omega
 refine ⟨hlt,?_⟩
 rw [List.getElem?_take,if_pos hlt,List.getElem?_drop] at hq
 simpa using hq
section
variable {P:Program} {T:Tab} {N:Nat} {ops:Array Oper} {E:Env} {K:List (Nat × Cls)→AS→Prop} {i:Nat} {is:List Nat} {t:Nat→AV} {h:eB} {d:Tmp} {op:Op} {ty:TypeId} {pos:String} {aft:Array Edge} {g:Option (Nat × Bool)}
theorem aZ7 {r:AV} (ho:ops[i]? = some ⟨some d,op,ty,pos,aft,g⟩) (hw:yR N ops ⟨some d,op,ty,pos,aft,g⟩ ⟨t,h⟩) (hd:Nat.blt d N=true) (hp:jO P N ⟨some d,op,ty,pos,aft,g⟩ ⟨t,h⟩ r)
  (k:RT P N ops is (fun l σ'=>K ((i, .li) :: l) σ') ⟨aC t d r,h⟩):RT P N ops (i :: is) K ⟨t,h⟩:=rE ho (.light (dN hd) hw r hp) k
theorem xX {o:Oper} {r:AV} {x:Operand} {k f:Nat} {ob:kC} (hmem:x ∈ o.op.operands) (hkey:(evA N ⟨t,h⟩ x).key=some k) (hl:lv h k f=some ob) (hoth : ∀ y ∈ o.op.operands, ∀ k',(evA N ⟨t,h⟩ y).key=some k'→k'=k)
  (hr : ∀ E F μ hh (w:World) ρ,iY E F μ hh w→aFe N o ⟨t,h⟩ ρ w F μ hh→lv hh k f=some ob → ∃ u,(execOp ρ o).run P w = .ok (.value u) w∧fC w F μ hh u r):jO P N o ⟨t,h⟩ r:=by
 refine ⟨fun y hy k' hk' => ?_,fun E F μ hh w ρ H st hk => ?_⟩
 ·rw [hoth y hy k' hk'];exact aQ9 hl
 ·refine hr E F μ hh w ρ H st ?_
  have:=hk x hmem k hkey
  unfold lv at hl ⊢
  rw [this];exact hl
theorem sJ {o:Oper} {x:Operand} {k:Nat} (he:o.op.operands = #[x]) (hkey:(evA N ⟨t,h⟩ x).key=some k) : ∀ y ∈ o.op.operands, ∀ k',(evA N ⟨t,h⟩ y).key=some k'→k'=k:=fun y hy k' hk'=>by
 rw [he] at hy
 simp at hy
 subst hy
 rw [hkey] at hk'
 injection hk' with hk'
 exact hk'.symm
theorem aHx (hT:TOk P T) {lt:TypeId} {x:Operand} {k f n ix j:Nat} {o:kC} {cells:List AV} {c:AV} {ti:TI} (hx:evA N ⟨t,h⟩ x = .ptr k f n ix j) (h1:T lt=some ti) (h2:tZ ti.desc=false)
  (ho:lv h k f=some o) (hn:o.cs.len=n) (hi:o.cs.get ix=some cells) (hc:cells[j]? = some c):jO P N ⟨some d, .load lt x,ty,pos,aft,g⟩ ⟨t,h⟩ c :=
 xX (x:=x) (k:=k) (f:=f) (ob:=o) (by simp [Op.operands]) (by rw [hx];rfl) ho (sJ (x:=x) (by simp [Op.operands]) (by rw [hx];rfl)) fun E F μ hh w ρ H st hl=>by
  have hr:=st x (by simp [Op.operands])
  rw [hx] at hr
  obtain ⟨b,cur,hv,hm,hb,hlen,hcs⟩:=aEp H hr hl hn hi
  obtain ⟨u,hu,hr2⟩:=hcs j c hc
  refine ⟨u,?_,hr2⟩
  have hcell:w.cell? ⟨b,ix*o.sz+j,none⟩=some u:=by rw [cell_of_row w b _ cur o.ty (0,0) hb,hu]
  simp only [execOp,hv,Instr.loadAt,Instr.sureAddr,loadVar]
  simp [Sem.run_bind,aAu hT h1,h2,hcell]
theorem aEu (hT:TOk P T) {lt:TypeId} {ti:TI} (h1:T lt=some ti) (h2:tZ ti.desc=true) (w:World) (b o:Nat) (vs:List Value) (hl:vs.length=ti.size) (hc : ∀ (j:Nat) v,vs[j]? = some v→w.cell? ⟨b,o+j,none⟩=some v) :
  (Instr.loadAt lt (.pointer (some ⟨b,o,none⟩))).run P w = .ok (.agg vs.toArray) w:=by
 have:=run_loadCells_list (P:=P) w ⟨b,o,none⟩ vs (fun j v hv=>by rw [tA];exact hc j v hv)
 simp only [Instr.loadAt,Instr.sureAddr,loadVar]
 rw [hl] at this
 simp [Sem.run_bind,aAu hT h1,h2,jJ hT h1,this]
theorem aNz (hT:TOk P T) {lt:TypeId} {x:Operand} {k f n ix j:Nat} {o:kC} {cells out:List AV} {ti:TI} (hx:evA N ⟨t,h⟩ x = .ptr k f n ix j) (h1:T lt=some ti) (h2:tZ ti.desc=true)
  (ho:lv h k f=some o) (hn:o.cs.len=n) (hi:o.cs.get ix=some cells) (hc:Seg j ti.size cells out):jO P N ⟨some d, .load lt x,ty,pos,aft,g⟩ ⟨t,h⟩ (.agg out) :=
 xX (x:=x) (k:=k) (f:=f) (ob:=o) (by simp [Op.operands]) (by rw [hx];rfl) ho (sJ (x:=x) (by simp [Op.operands]) (by rw [hx];rfl)) fun E F μ hh w ρ H st hl=>by
  have hr:=st x (by simp [Op.operands])
  rw [hx] at hr
  obtain ⟨b,cur,hv,hm,hb,hlen,hcs⟩:=aEp H hr hl hn hi
  obtain ⟨s1,s2,s3⟩:=hc.spec
  have hat : ∀ (q:Nat) c,out[q]? = some c → ∃ u,cur[ix*o.sz+j+q]? = some u∧fC w F μ hh u c:=fun q c hq=>by
   obtain ⟨u,hu,hr2⟩:=hcs (j+q) c (s3 q c hq)
   exact ⟨u,by rw [Nat.add_assoc];exact hu,hr2⟩
  have hall : ∀ q,q<ti.size → ∃ u,cur[ix*o.sz+j+q]? = some u ∧ ∀ c,out[q]? = some c→fC w F μ hh u c:=fun q hq=>by
   obtain ⟨u,hu,hr2⟩:=hat q _ (List.getElem?_eq_getElem (show q<out.length by omega))
   exact ⟨u,hu,fun c hc=>by rw [List.getElem?_eq_getElem (show q<out.length by omega)] at hc;injection hc with hc;rw [← hc];exact hr2⟩
  obtain ⟨v1,v2⟩:=aNr cur (ix*o.sz+j) ti.size fun q hq=>by obtain ⟨u,hu,_⟩:=hall q hq;exact ⟨u,hu⟩
  have hrun:=aEu (P:=P) hT h1 h2 w b (ix*o.sz+j) ((cur.toList.drop (ix*o.sz+j)).take ti.size) v1 (fun q v hq=>by
   rw [cell_of_row w b _ cur o.ty (0,0) hb]
   exact (v2 q v hq).2)
  refine ⟨_,by simp only [execOp,hv];rw [Sem.run_bind,hrun];rfl, .agg _ _ (by simp only [List.size_toArray];omega) fun q v c hq hc => ?_⟩
  have hq':((cur.toList.drop (ix*o.sz+j)).take ti.size)[q]? = some v:=by simpa using hq
  obtain ⟨hlt,hcur⟩:=v2 q v hq'
  obtain ⟨u,hu,hr2⟩:=hall q hlt
  rw [hcur] at hu
  injection hu with hu
  rw [hu]
  exact hr2 c hc
theorem xD (hT:TOk P T) {s:TypeId} {x:Operand} {q k f n ix j:Nat} {o:kC} {cells:List AV} {ti fi:TI} {fs:Array Field} {fld:Field} (hx:evA N ⟨t,h⟩ x = .ptr k f n ix j) (h1:T s=some ti) (h2:ti.desc = .struct fs) (h3:fs[q]? = some fld)
  (h4:T fld.type=some fi) (h5:Nat.beq fi.size 0=false) (ho:lv h k f=some o) (hn:o.cs.len=n) (hi:o.cs.get ix=some cells):jO P N ⟨some d, .fieldAddr s x q,ty,pos,aft,g⟩ ⟨t,h⟩ (.ptr k f n ix (j+fld.offset)) :=
 xX (x:=x) (k:=k) (f:=f) (ob:=o) (by simp [Op.operands]) (by rw [hx];rfl) ho (sJ (x:=x) (by simp [Op.operands]) (by rw [hx];rfl)) fun E F μ hh w ρ H st hl=>by
  have hr:=st x (by simp [Op.operands])
  rw [hx] at hr
  obtain ⟨b,cur,hv,hm,hb,hlen,hcs⟩:=aEp H hr hl hn hi
  have hu:=(hT _ _ h1).1
  rw [h2] at hu
  have hne:fi.size≠0:=fun e=>by rw [e] at h5;simp at h5
  refine ⟨.pointer (some ⟨b,ix*o.sz+j+fld.offset,none⟩),?_, .ptr _ _ _ _ _ _ rfl (aQ9 hl) fun o' ho' => ?_⟩
  ·simp only [execOp,Instr.fieldAt,hv]
   simp [Sem.run_bind,run_underlying hu,h3,Instr.sureAddr,fieldPlace,jJ hT h4,hne,tA]
  ·rw [hl] at ho'
   injection ho' with ho'
   subst ho'
   exact ⟨by omega,fun _=>⟨b,hm,by rw [Nat.add_assoc]⟩⟩
theorem aXa {x:Operand} {k f n ix j:Nat} {o:kC} {cells:List AV} (hx:evA N ⟨t,h⟩ x = .ptr k f n ix j) (ho:lv h k f=some o) (hn:o.cs.len=n) (hi:o.cs.get ix=some cells):jO P N ⟨some d, .nilCheck x,ty,pos,aft,g⟩ ⟨t,h⟩ (.ptr k f n ix j) :=
 xX (x:=x) (k:=k) (f:=f) (ob:=o) (by simp [Op.operands]) (by rw [hx];rfl) ho (sJ (x:=x) (by simp [Op.operands]) (by rw [hx];rfl)) fun E F μ hh w ρ H st hl=>by
  have hr:=st x (by simp [Op.operands])
  rw [hx] at hr
  obtain ⟨b,cur,hv,hm,hb,hlen,hcs⟩:=aEp H hr hl hn hi
  rw [hv] at hr
  exact ⟨.pointer (some ⟨b,ix*o.sz+j,none⟩),by simp [execOp,hv],hr⟩
theorem aNy (hT:TOk P T) {st_ e:TypeId} {x y:Operand} {kk:IntKind} {iv:Int} {k f n m:Nat} {o:kC} {ti ei:TI} (hx:evA N ⟨t,h⟩ x = .own k f n) (hy:evA N ⟨t,h⟩ y = .d (.v (.int kk iv))) (hm:iv=(m:Int)) (hlt:m<n)
  (h1:T st_=some ti) (h2:ti.desc = .slice e) (h3:T e=some ei) (ho:lv h k f=some o) (hn:o.cs.len=n) (hs:o.sz=ei.size):jO P N ⟨some d, .indexAddr st_ x y,ty,pos,aft,g⟩ ⟨t,h⟩ (.ptr k f n m 0) :=
 xX (x:=x) (k:=k) (f:=f) (ob:=o) (by simp [Op.operands]) (by rw [hx];rfl) ho (fun z hz k' hk'=>by
  simp [Op.operands] at hz
  rcases hz with rfl | rfl
  ·rw [hx] at hk';injection hk' with hk';exact hk'.symm
  ·rw [hy] at hk';cases hk') fun E F μ hh w ρ H st hl=>by
  have hr:=st x (by simp [Op.operands])
  have hr2:=st y (by simp [Op.operands])
  rw [hx] at hr;rw [hy] at hr2
  have e2:=lV hr2
  generalize hvx:ρ x=vx at hr
  cases hr with | own _ _ _ _ g1 hb hv =>
  have hu:=(hT _ _ h1).1
  rw [h2] at hu
  rcases (hv o hl).2 hn with ⟨_,h5,_⟩ | ⟨b,c,cur,h5,h6,h7,h8,h9,h10⟩
  ·omega
  ·refine ⟨.pointer (some ⟨b,m*ei.size,none⟩),?_, .ptr _ _ _ _ _ _ rfl hb fun o' ho' => ?_⟩
   ·simp only [execOp,Instr.indexAt,hvx,h6,e2,hm]
    simp [Sem.run_bind,run_underlying hu,asIntOf,jJ hT h3,tA]
    omega
   ·rw [hl] at ho'
    injection ho' with ho'
    subst ho'
    exact ⟨by omega,fun _=>⟨b,h5,by rw [hs];simp⟩⟩
theorem aUu (hT:TOk P T) {st_ e:TypeId} {x:Operand} {k f n:Nat} {o:kC} {ti:TI} (hx:evA N ⟨t,h⟩ x = .own k f n) (h1:T st_=some ti) (h2:ti.desc = .slice e) (ho:lv h k f=some o) (hn:o.cs.len=n) :
  jO P N ⟨some d, .call ⟨.builtin .len, #[x], #[st_]⟩,ty,pos,aft,g⟩ ⟨t,h⟩ (.d (.v (.int .i64 (n:Int)))) :=
 xX (x:=x) (k:=k) (f:=f) (ob:=o) (by simp [Op.operands,Call.operands]) (by rw [hx];rfl) ho (sJ (x:=x) (by simp [Op.operands,Call.operands]) (by rw [hx];rfl)) fun E F μ hh w ρ H st hl=>by
  have hr:=st x (by simp [Op.operands,Call.operands])
  rw [hx] at hr
  have hu:=(hT _ _ h1).1
  rw [h2] at hu
  generalize hvx:ρ x=vx at hr
  cases hr with | own _ _ _ _ g1 hb hv =>
  refine ⟨.int .i64 n,?_, .d _ _ (.v _ rfl)⟩
  rcases (hv o hl).2 hn with ⟨_,h5,h6⟩ | ⟨b,c,cur,h5,h6,h7,h8,h9,h10⟩
  ·simp [execOp,resolve,invoke,builtin,hvx,h6,Builtin.len_,run_underlying hu,goInt,h5]
  ·simp [execOp,resolve,invoke,builtin,hvx,h6,Builtin.len_,run_underlying hu,goInt]
inductive gV:Nat→List DV→List AV→Prop
 | z (l:List DV):gV 0 l []
 | t {n:Nat} {a:DV} {l:List DV} {r:List AV} (h:gV n l r):gV (n+1) (a :: l) (.d a :: r)
theorem gV.spec {n:Nat} {l:List DV} {r:List AV} (h:gV n l r):r.length=n∧n≤l.length ∧ ∀ (i:Nat) c,r[i]? = some c → ∃ x,l[i]? = some x∧c = .d x:=by
 induction h with
 | z l=>simp
 | t h ih =>
  obtain ⟨h1,h2,h3⟩:=ih
  refine ⟨by simp [h1],by simp [h2],fun i c hc => ?_⟩
  cases i with
  | zero=>simp at hc;exact ⟨_,rfl,hc.symm⟩
  | succ i=>simp at hc ⊢;exact h3 i c hc
theorem aRt (hT:TOk P T) {st_ e:TypeId} {x:Operand} {es:List (List DV)} {ti:TI} (hx:evA N ⟨t,h⟩ x = .d (.sl es)) (h1:T st_=some ti) (h2:ti.desc = .slice e) :
  eV P N ⟨some d, .call ⟨.builtin .len, #[x], #[st_]⟩,ty,pos,aft,g⟩ ⟨t,h⟩ (.d (.v (.int .i64 (es.length:Int)))):=fun w F μ hh ρ st=>by
 have hr:=st x (by simp [Op.operands,Call.operands])
 rw [hx] at hr
 have hu:=(hT _ _ h1).1
 rw [h2] at hu
 refine ⟨.int .i64 es.length,?_, .d _ _ (.v _ rfl)⟩
 generalize hv:ρ x=v at hr
 cases hr with | d _ _ hd =>
 cases hd with
 | nil=>simp [execOp,resolve,invoke,builtin,hv,Builtin.len_,run_underlying hu,goInt]
 | emp A c hm=>simp [execOp,resolve,invoke,builtin,hv,Builtin.len_,run_underlying hu,goInt]
 | sl b off c sz es gg hF hc hm hz hg hr=>simp [execOp,resolve,invoke,builtin,hv,Builtin.len_,run_underlying hu,goInt]
theorem aJ (hT:TOk P T) {α:Type} {f:α→List DV} {xs:List α} {st_ e:TypeId} {x:Operand} {ti:TI} (hx:evA N ⟨t,h⟩ x = .d (.sl (xs.map f))) (h1:T st_=some ti) (h2:ti.desc = .slice e) :
  eV P N ⟨some d, .call ⟨.builtin .len, #[x], #[st_]⟩,ty,pos,aft,g⟩ ⟨t,h⟩ (.d (.v (.int .i64 (xs.length:Int)))):=by
 have:=aRt (d:=d) (ty:=ty) (pos:=pos) (aft:=aft) (g:=g) hT hx h1 h2
 rwa [List.length_map] at this
theorem yF (hT:TOk P T) {st_:TypeId} {x:Operand} {s:ByteArray} {ti:TI} (hx:evA N ⟨t,h⟩ x = .d (.v (.string s))) (h1:T st_=some ti) (h2:ti.desc = .string) :
  eV P N ⟨some d, .call ⟨.builtin .len, #[x], #[st_]⟩,ty,pos,aft,g⟩ ⟨t,h⟩ (.d (.v (.int .i64 (s.size:Int)))):=fun w F μ hh ρ st=>by
 have hr:=lV (by have:=st x (by simp [Op.operands,Call.operands]);rw [hx] at this;exact this)
 have hu:=(hT _ _ h1).1
 rw [h2] at hu
 exact ⟨.int .i64 s.size,by simp [execOp,resolve,invoke,builtin,hr,Builtin.len_,run_underlying hu,goInt], .d _ _ (.v _ rfl)⟩
theorem aMr (hT:TOk P T) {st_ e:TypeId} {x y:Operand} {kk:IntKind} {iv:Int} {m:Nat} {es:List (List DV)} {ed:List DV} {ti ei:TI} (hx:evA N ⟨t,h⟩ x = .d (.sl es)) (hy:evA N ⟨t,h⟩ y = .d (.v (.int kk iv))) (hm:iv=(m:Int))
  (h1:T st_=some ti) (h2:ti.desc = .slice e) (h3:T e=some ei) (he:es[m]? = some ed) (hs:ed.length=ei.size):eV P N ⟨some d, .indexAddr st_ x y,ty,pos,aft,g⟩ ⟨t,h⟩ (.ref ed):=fun w F μ hh ρ st=>by
 have hr:=st x (by simp [Op.operands])
 have hr2:=st y (by simp [Op.operands])
 rw [hx] at hr;rw [hy] at hr2
 have e2:=lV hr2
 have hlt:m<es.length:=(List.getElem?_eq_some_iff.1 he).1
 have hu:=(hT _ _ h1).1
 rw [h2] at hu
 generalize hv:ρ x=v at hr
 cases hr with | d _ _ hd =>
 cases hd with
 | nil=>simp at hlt
 | emp A c hm=>simp at hlt
 | sl b off c sz es gg hF hc hmx hz hg hr =>
  have hsz:sz=ei.size:=(hz m ed he).symm.trans hs
  subst hsz
  refine ⟨.pointer (some ⟨b,off+m*ei.size,none⟩),?_, .ref b _ ed (gg m) hF (fun j x hj=>hg m ed j x he hj) (fun j x hj=>hr m ed j x he hj)⟩
  simp only [execOp,Instr.indexAt,hv,e2,hm]
  simp [Sem.run_bind,run_underlying hu,asIntOf,jJ hT h3,tA]
  omega
theorem tJ (hT:TOk P T) {lt:TypeId} {x:Operand} {cs:List DV} {c:DV} {ti:TI} (hx:evA N ⟨t,h⟩ x = .ref cs) (h1:T lt=some ti) (h2:tZ ti.desc=false) (hc:cs[0]? = some c):eV P N ⟨some d, .load lt x,ty,pos,aft,g⟩ ⟨t,h⟩ (.d c):=fun w F μ hh ρ st=>by
 have hr:=st x (by simp [Op.operands])
 rw [hx] at hr
 generalize hv:ρ x=v at hr
 cases hr with | ref b off _ gg hF hg hr =>
 refine ⟨gg 0,?_, .d _ _ (hr 0 c hc)⟩
 have hcell:=hg 0 c hc
 rw [Nat.add_zero] at hcell
 simp only [execOp,hv,Instr.loadAt,Instr.sureAddr,loadVar]
 simp [Sem.run_bind,aAu hT h1,h2,hcell]
theorem bJ (hT:TOk P T) {lt:TypeId} {x:Operand} {cs:List DV} {out:List AV} {ti:TI} (hx:evA N ⟨t,h⟩ x = .ref cs) (h1:T lt=some ti) (h2:tZ ti.desc=true) (hc:gV ti.size cs out):eV P N ⟨some d, .load lt x,ty,pos,aft,g⟩ ⟨t,h⟩ (.agg out):=fun w F μ hh ρ st=>by
 have hr:=st x (by simp [Op.operands])
 rw [hx] at hr
 generalize hv:ρ x=v at hr
 cases hr with | ref b off _ gg hF hg hr =>
 obtain ⟨s1,s2,s3⟩:=hc.spec
 have hrun:=aEu (P:=P) hT h1 h2 w b off ((List.range ti.size).map gg) (by simp) (fun q v hq=>by
  have hlt:q<ti.size:=by have:=(List.getElem?_eq_some_iff.1 hq).1;simpa using this
  rw [List.getElem?_map,List.getElem?_range hlt] at hq
  simp at hq
  subst hq
  exact hg q _ (List.getElem?_eq_getElem (by omega)))
 refine ⟨_,by simp only [execOp,hv];rw [Sem.run_bind,hrun];rfl, .agg _ _ (by simp [s1]) fun q v c hq hc => ?_⟩
 have hlt:q<ti.size:=by have:=(List.getElem?_eq_some_iff.1 hc).1;omega
 have hq':((List.range ti.size).map gg)[q]? = some v:=by simpa using hq
 rw [List.getElem?_map,List.getElem?_range hlt] at hq'
 simp at hq'
 subst hq'
 obtain ⟨y,hy,rfl⟩:=s3 q c hc
 exact .d _ _ (hr q y hy)
theorem mU (hT:TOk P T) {s:TypeId} {x:Operand} {q:Nat} {cs out:List DV} {ti fi:TI} {fs:Array Field} {fld:Field} (hx:evA N ⟨t,h⟩ x = .ref cs) (h1:T s=some ti) (h2:ti.desc = .struct fs) (h3:fs[q]? = some fld)
  (h4:T fld.type=some fi) (h5:Nat.beq fi.size 0=false) (hd:Drp fld.offset cs out):eV P N ⟨some d, .fieldAddr s x q,ty,pos,aft,g⟩ ⟨t,h⟩ (.ref out):=fun w F μ hh ρ st=>by
 have hr:=st x (by simp [Op.operands])
 rw [hx] at hr
 generalize hv:ρ x=v at hr
 cases hr with | ref b off _ gg hF hg hr =>
 have hu:=(hT _ _ h1).1
 rw [h2] at hu
 have hne:fi.size≠0:=fun e=>by rw [e] at h5;simp at h5
 obtain ⟨rfl,s2⟩:=hd.spec
 refine ⟨.pointer (some ⟨b,off+fld.offset,none⟩),?_, .ref b _ _ (fun j=>gg (fld.offset+j)) hF (fun j x hj => ?_) (fun j x hj => ?_)⟩
 ·simp only [execOp,Instr.fieldAt,hv]
  simp [Sem.run_bind,run_underlying hu,h3,Instr.sureAddr,fieldPlace,jJ hT h4,hne,tA]
 ·rw [List.getElem?_drop] at hj
  rw [Nat.add_assoc]
  exact hg _ x hj
 ·rw [List.getElem?_drop] at hj
  exact hr _ x hj
theorem yG {x:Operand} {cs:List DV} (hx:evA N ⟨t,h⟩ x = .ref cs):eV P N ⟨some d, .nilCheck x,ty,pos,aft,g⟩ ⟨t,h⟩ (.ref cs):=fun w F μ hh ρ st=>by
 have hr:=st x (by simp [Op.operands])
 rw [hx] at hr
 generalize hv:ρ x=v at hr
 have hr':=hr
 cases hr with | ref b off _ gg hF hg hr=>exact ⟨.pointer (some ⟨b,off,none⟩),by simp [execOp,hv],hr'⟩
end
end Go.Proofs.YtceknlcbfomdhaaGreatDoor
namespace Go.Proofs.YtceknlcbfomdhaaGreatDoor
open Go.RowKit
set_option linter.unusedVariables false
set_option maxRecDepth 100000
inductive Els (ev:Operand→AV) (sz:Nat):Nat→List (Nat × Operand)→List (List AV)→Prop
 | nil (k:Nat):Els ev sz k [] []
 | cons {k:Nat} {x:Operand} {cs:List AV} {ps:List (Nat × Operand)} {es:List (List AV)} (hc:wD (ev x)=cs) (ho:okL cs=true) (hl:Nat.beq cs.length sz=true) (q:Els ev sz (k+1) ps es):Els ev sz k ((k,x) :: ps) (cs :: es)
theorem Els.fill_ {ev:Operand→AV} {sz k:Nat} {ps:List (Nat × Operand)} {es:List (List AV)} (B:Els ev sz k ps es) {w:World} {F:Nat→Prop} {μ:cT} {hh:eB} {ρ:Operand→Value} :
  ∀ (cells:Array Value),(k+es.length)*sz≤cells.size→(∀ p ∈ ps,fC w F μ hh (ρ p.2) (ev p.2)) →
  ∃ out,Instr.fill (fun i=>some (i*sz,sz)) cells (ps.map fun p=>(p.1, ρ p.2))=some out∧out.size=cells.size∧(∀ j:Nat,j<k*sz→out[j]? = cells[j]?) ∧
   ∀ (i:Nat) e,es[i]? = some e→e.length=sz∧okL e=true ∧ ∀ (j:Nat) c,e[j]? = some c → ∃ u,out[(k+i)*sz+j]? = some u∧fC w F μ hh u c:=by
 induction B with
 | nil k=>intro cells _ _;exact ⟨cells,rfl,rfl,fun _ _=>rfl,fun i e he=>by simp at he⟩
 | cons hc ho hl q ih =>
  rename_i k x cs ps es
  intro cells hsz hps
  obtain ⟨c1,c2,c3⟩:=(hps (k,x) (by simp)).cells_ hc ho
  have hlen:cs.length=sz:=Nat.eq_of_beq_eq_true hl
  have hk:(k+(cs :: es).length)*sz=k*sz+sz+es.length*sz:=by simp only [List.length_cons,Nat.add_mul,Nat.one_mul];omega
  rw [hk] at hsz
  obtain ⟨cells',f1,f2,f3⟩:=aJk (place:=fun i=>some (i*sz,sz)) (rest:=ps.map fun p=>(p.1, ρ p.2)) (cells:=cells) (i:=k) (v:=ρ x) rfl (c1.trans hlen) (by omega)
  have hk1:(k+1)*sz=k*sz+sz:=by rw [Nat.add_mul,Nat.one_mul]
  obtain ⟨out,o1,o2,o3,o4⟩:=ih cells' (by rw [Nat.add_mul,hk1];omega) fun p hp=>hps p (by simp [hp])
  refine ⟨out,by rw [List.map_cons,f1];exact o1,o2.trans f2,fun j hj => ?_,fun i e he => ?_⟩
  ·rw [o3 j (by omega),f3 j,if_neg (by omega)]
  ·cases i with
   | zero =>
    simp at he
    subst he
    refine ⟨hlen,ho,fun j c hj => ?_⟩
    have hjl:j<cs.length:=(List.getElem?_eq_some_iff.1 hj).1
    obtain ⟨u,hu,hr⟩:=c2 j c hj
    refine ⟨u,?_,hr⟩
    rw [Nat.add_zero,o3 _ (by omega),f3 _,if_pos (by omega)]
    rw [show k*sz+j-k*sz=j by omega]
    exact hu
   | succ i =>
    simp at he
    obtain ⟨a1,a0,a2⟩:=o4 i e he
    refine ⟨a1,a0,fun j c hj => ?_⟩
    obtain ⟨u,hu,hr⟩:=a2 j c hj
    exact ⟨u,by rw [show k+(i+1)=k+1+i by omega];exact hu,hr⟩
inductive eZ:List AV→List DV→Prop
 | nil:eZ [] []
 | cons {x:DV} {cs:List AV} {ds:List DV} (h:eZ cs ds):eZ (.d x :: cs) (x :: ds)
theorem eZ.eq_ {cs:List AV} {ds:List DV} (h:eZ cs ds):cs=ds.map .d:=by induction h <;> simp_all
inductive cR:List (List AV)→List (List DV)→Prop
 | nil:cR [] []
 | cons {c:List AV} {x:List DV} {cs:List (List AV)} {ds:List (List DV)} (h:eZ c x) (k:cR cs ds):cR (c :: cs) (x :: ds)
theorem cR.eq_ {cs:List (List AV)} {ds:List (List DV)} (h:cR cs ds):cs=ds.map (List.map .d):=by
 induction h with
 | nil=>rfl
 | cons h k ih=>simp [h.eq_,ih]
inductive Lay:List (List AV)→cG→Prop
 | data {es:List (List AV)} {ds:List (List DV)} (h:cR es ds):Lay es (.data ds)
 | av (es:List (List AV)):Lay es (.av es)
theorem Lay.get_ {es:List (List AV)} {c:cG} (h:Lay es c) (i:Nat):c.get i=es[i]? := by
 cases h with
 | data h=>rw [h.eq_];simp [cG.get]
 | av=>rfl
theorem Lay.len_ {es:List (List AV)} {c:cG} (h:Lay es c):c.len=es.length:=by
 cases h with
 | data h=>rw [h.eq_];simp [cG.len]
 | av=>rfl
theorem aBl {l s:Nat} (h:0<l*s):l≤l*s:=by
 cases s with
 | zero=>simp at h
 | succ s=>exact Nat.le_mul_of_pos_right _ (Nat.succ_pos _)
section
variable {P:Program} {T:Tab} {N:Nat} {ops:Array Oper} {E:Env} {K:List (Nat × Cls)→AS→Prop} {i:Nat} {is:List Nat} {t:Nat→AV} {h h':eB} {d:Tmp} {op:Op} {ty:TypeId} {pos:String} {aft:Array Edge} {g:Option (Nat × Bool)}
theorem aU1 {r:AV} (ho:ops[i]? = some ⟨some d,op,ty,pos,aft,g⟩) (hw:yR N ops ⟨some d,op,ty,pos,aft,g⟩ ⟨t,h⟩) (hd:Nat.blt d N=true) (hp:dK P N ⟨some d,op,ty,pos,aft,g⟩ ⟨t,h⟩ r h' ∧ ∀ k,h k ≠ .no→h' k=h k)
  (k:RT P N ops is (fun l σ'=>K ((i, .st) :: l) σ') ⟨aC t d r,h'⟩):RT P N ops (i :: is) K ⟨t,h⟩:=rE ho (.still (dN hd) hw r h' hp.2 hp.1) k
theorem aEt {r:AV} {k0:Nat} {s:fT} (ho:ops[i]? = some ⟨some d,op,ty,pos,aft,g⟩) (hw:yR N ops ⟨some d,op,ty,pos,aft,g⟩ ⟨t,h⟩) (hd:Nat.blt d N=true) (hk:h k0 = .no) (hp : ∀ hx:eB,hx k0 = .no→dK P N ⟨some d,op,ty,pos,aft,g⟩ ⟨t,hx⟩ r (upd hx k0 s) ∧ ∀ k,hx k ≠ .no→upd hx k0 s k=hx k)
  (k:RT P N ops is (fun l σ'=>K ((i, .al k0) :: l) σ') ⟨aC t d r,upd h k0 s⟩):RT P N ops (i :: is) K ⟨t,h⟩:=rE ho (.al k0 (dN hd) hw r s hk fun hx hk'=>(hp hx hk').1) k
theorem jW {r:AV} {B:Nat} (ho:ops[i]? = some ⟨some d,op,ty,pos,aft,g⟩) (hw:yR N ops ⟨some d,op,ty,pos,aft,g⟩ ⟨t,h⟩) (hd:Nat.blt d N=true) (hp:Abv h B∧(∀ hx:eB,Abv hx B→(∀ p,h p ≠ .no→hx p=h p)→dK P N ⟨some d,op,ty,pos,aft,g⟩ ⟨t,hx⟩ r (aB5 B hx h'))∧aB5 B h h'=h')
  (k:RT P N ops is (fun l σ'=>K ((i, .sb B) :: l) σ') ⟨aC t d r,h'⟩):RT P N ops (i :: is) K ⟨t,h⟩ :=
 rE ho (.sb B (dN hd) hw r h' hp.1 hp.2.1) (by show RT P N ops is _ ⟨aC t d r,aB5 B h h'⟩;rw [hp.2.2];exact k)
theorem cZ {r:AV} {k0:Nat} {x0:Operand} (ho:ops[i]? = some ⟨some d,op,ty,pos,aft,g⟩) (hw:yR N ops ⟨some d,op,ty,pos,aft,g⟩ ⟨t,h⟩) (hd:Nat.blt d N=true) (hp:jO P N ⟨some d,op,ty,pos,aft,g⟩ ⟨t,h⟩ r) (hx0:op.operands.toList.head? = some x0) (h0:(evA N ⟨t,h⟩ x0).key=some k0) (hk:(op.operands.toList.all fun x=>match (evA N ⟨t,h⟩ x).key with | some k'=>Nat.beq k' k0 | none=>true)=true)
  (k:RT P N ops is (fun l σ'=>K ((i, .lk k0) :: l) σ') ⟨aC t d r,h⟩):RT P N ops (i :: is) K ⟨t,h⟩ :=
 rE ho (.lk k0 (dN hd) hw r hp fun x hx k' hk'=>by
  have:=List.all_eq_true.1 hk x (by simpa using hx)
  rw [hk'] at this
  exact Nat.eq_of_beq_eq_true this) k
theorem oN {k0:Nat} {s:fT} {r:AV} (ho:ops[i]? = some ⟨none,op,ty,pos,aft,g⟩) (hw:yR N ops ⟨none,op,ty,pos,aft,g⟩ ⟨t,h⟩) (hp:dK P N ⟨none,op,ty,pos,aft,g⟩ ⟨t,h⟩ r (upd h k0 s))
  (k:RT P N ops is (fun l σ'=>K ((i, .wk k0) :: l) σ') ⟨t,upd h k0 s⟩):RT P N ops (i :: is) K ⟨t,h⟩:=rE ho (.wk k0 (fun d e=>by cases e) hw r _ hp fun p hp=>dZ _ _ hp) k
theorem aZ8 {r:AV} (ho:ops[i]? = some ⟨some d,op,ty,pos,aft,g⟩) (hw:yR N ops ⟨some d,op,ty,pos,aft,g⟩ ⟨t,h⟩) (hd:Nat.blt d N=true) (hp:dK P N ⟨some d,op,ty,pos,aft,g⟩ ⟨t,h⟩ r h')
  (k:RT P N ops is (fun l σ'=>K ((i, .wr) :: l) σ') ⟨aC t d r,h'⟩):RT P N ops (i :: is) K ⟨t,h⟩:=rE ho (.write (dN hd) hw r h' hp) k
theorem aXp {r:AV} (ho:ops[i]? = some ⟨none,op,ty,pos,aft,g⟩) (hw:yR N ops ⟨none,op,ty,pos,aft,g⟩ ⟨t,h⟩) (hp:dK P N ⟨none,op,ty,pos,aft,g⟩ ⟨t,h⟩ r h')
  (k:RT P N ops is (fun l σ'=>K ((i, .wr) :: l) σ') ⟨t,h'⟩):RT P N ops (i :: is) K ⟨t,h⟩:=rE ho (.write (fun d e=>by cases e) hw r h' hp) k
theorem zC {k:Nat} {s:fT} (hk:h k = .no) : ∀ k',h k' ≠ .no→upd h k s k'=h k':=fun k' hk'=>dZ _ _ (fun e=>hk' (by rw [e];exact hk))
theorem aRi {F:Nat→Prop} {μ:cT} {w:World} (H:iY E F μ h w) {k:Nat} (hk:h k = .no) {bt:TypeId} {cs:List AV} {v:Value} (hs:v.cells.size=cs.length) (hr : ∀ (j:Nat) c,cs[j]? = some c → ∃ u,v.cells[j]? = some u∧fC w F μ h u c) :
  ∃ F' μ',iY E F' μ' (upd h k (.live [⟨bt,cs.length, .av [cs]⟩])) (w.alloc (.cells v.cells bt))∧Evo w F μ h (w.alloc (.cells v.cells bt)) F' μ' (upd h k (.live [⟨bt,cs.length, .av [cs]⟩])) ∧
   fC (w.alloc (.cells v.cells bt)) F' μ' (upd h k (.live [⟨bt,cs.length, .av [cs]⟩])) (.pointer (some ⟨w.heap.size,0,none⟩)) (.ptr k 0 1 0 0):=by
 obtain ⟨H',V⟩:=H.alloc k hk ⟨bt,cs.length, .av [cs]⟩ v.cells (fun i cells hi=>by
  simp only [cG.get] at hi
  cases i with
  | zero=>simp at hi;subst hi;exact ⟨rfl,fun j c hj=>by simpa using hr j c hj⟩
  | succ i=>simp at hi)
 refine ⟨F,_,H',V, .ptr _ _ _ _ _ _ rfl (by rw [dE];intro e;cases e) fun o ho => ?_⟩
 rw [eC] at ho
 simp at ho
 subst ho
 exact ⟨by simp [cG.len],fun _=>⟨w.heap.size,dV _ _ _ _,by simp⟩⟩
theorem oU (k:Nat) (hT:TOk P T) {bt:TypeId} {ti:TI} {cs:List AV} (h1:T bt=some ti) (hc:aBy ti.zero.cells.toList=cs) (hk:h k = .no) :
  dK P N ⟨some d, .alloc bt,ty,pos,aft,g⟩ ⟨t,h⟩ (.ptr k 0 1 0 0) (upd h k (.live [⟨bt,cs.length, .av [cs]⟩])) ∧ ∀ k',h k' ≠ .no→upd h k (.live [⟨bt,cs.length, .av [cs]⟩]) k'=h k':=by
 refine ⟨fun E F μ w ρ H st => ?_,zC hk⟩
 have e:(execOp ρ ⟨some d, .alloc bt,ty,pos,aft,g⟩).run P w = .ok (.value (.pointer (some ⟨w.heap.size,0,none⟩))) (w.alloc (.cells ti.zero.cells bt)):=by
  simp [execOp,Instr.alloc,aOd hT h1,newVar,newRow]
 rw [e]
 exact aRi H hk (by rw [← hc];simp [pB]) fun j c hj=>by
  rw [← hc,pB,List.getElem?_map,Array.getElem?_toList] at hj
  obtain ⟨u,hu,rfl⟩:=Option.map_eq_some_iff.1 hj
  exact ⟨u,hu,aDg u⟩
theorem aXw (k:Nat) {bt:TypeId} {x:Operand} {cs:List AV} (hc:wD (evA N ⟨t,h⟩ x)=cs) (ho:okL cs=true) (hk:h k = .no) :
  dK P N ⟨some d, .box bt x,ty,pos,aft,g⟩ ⟨t,h⟩ (.ptr k 0 1 0 0) (upd h k (.live [⟨bt,cs.length, .av [cs]⟩])) ∧ ∀ k',h k' ≠ .no→upd h k (.live [⟨bt,cs.length, .av [cs]⟩]) k'=h k':=by
 refine ⟨fun E F μ w ρ H st => ?_,zC hk⟩
 have e:(execOp ρ ⟨some d, .box bt x,ty,pos,aft,g⟩).run P w = .ok (.value (.pointer (some ⟨w.heap.size,0,none⟩))) (w.alloc (.cells (ρ x).cells bt)):=by
  simp [execOp,Instr.box,newVar,newRow]
 rw [e]
 obtain ⟨c1,c2,_⟩:=(st x (by simp [Op.operands])).cells_ hc ho
 exact aRi H hk c1 c2
theorem aMc {F:Nat→Prop} {μ:cT} {w:World} (H:iY E F μ h w) {k:Nat} (hk:h k = .no) {et:TypeId} {sz c:Nat} {cc:cG} {out:Array Value} (hs:out.size=c*sz) (hl:cc.len≤c) (hm:c≤maxLen)
  (hr : ∀ i cells,cc.get i=some cells→cells.length=sz ∧ ∀ (j:Nat) a,cells[j]? = some a → ∃ u,out[i*sz+j]? = some u∧fC w F μ h u a) :
  ∃ F' μ',iY E F' μ' (upd h k (.live [⟨et,sz,cc⟩])) (w.alloc (.cells out et))∧Evo w F μ h (w.alloc (.cells out et)) F' μ' (upd h k (.live [⟨et,sz,cc⟩])) ∧
   fC (w.alloc (.cells out et)) F' μ' (upd h k (.live [⟨et,sz,cc⟩])) (.slice (some ⟨w.heap.size,0,none⟩) cc.len c) (.own k 0 cc.len):=by
 obtain ⟨H',V⟩:=H.alloc k hk ⟨et,sz,cc⟩ out hr
 refine ⟨F,_,H',V, .own _ _ _ _ rfl (by rw [dE];intro e;cases e) fun o ho => ?_⟩
 rw [eC] at ho
 simp at ho
 subst ho
 exact ⟨Nat.le_refl _,fun _ => .inr ⟨w.heap.size,c,out,dV _ _ _ _,rfl,Go.heap_alloc_new w _,hs,hl,hm⟩⟩
theorem tX (hT:TOk P T) {bt e:TypeId} {len:Nat} {parts:Array (Nat × Operand)} {ti ei:TI} {es:List (List AV)} {ρ:Operand→Value} {F:Nat→Prop} {μ:cT} {w:World} (h1:T bt=some ti) (h2:ti.desc = .slice e) (h3:T e=some ei)
  (hel:Els (evA N ⟨t,h⟩) ei.size 0 parts.toList es) (hlen:Nat.beq es.length len=true) (hpos:Nat.blt 0 (len*ei.size)=true) (hsm:Nat.ble (len*ei.size) 16777216=true)
  (hst : ∀ p ∈ parts.toList,fC w F μ h (ρ p.2) (evA N ⟨t,h⟩ p.2)) :
  ∃ out,(execOp ρ ⟨some d, .buildSlice bt len parts,ty,pos,aft,g⟩).run P w = .ok (.value (.slice (some ⟨w.heap.size,0,none⟩) len len)) (w.alloc (.cells out e))∧out.size=len*ei.size ∧
   ∀ (i:Nat) x,es[i]? = some x→x.length=ei.size∧okL x=true ∧ ∀ (j:Nat) a,x[j]? = some a → ∃ u,out[i*ei.size+j]? = some u∧fC w F μ h u a:=by
 have hl:es.length=len:=Nat.eq_of_beq_eq_true hlen
 have hp:=qE hpos
 have hs:=Nat.le_of_ble_eq_true hsm
 obtain ⟨hu,_⟩:=hT _ _ h1
 rw [h2] at hu
 obtain ⟨_,ie,hie,hsz,_,hz⟩:=hT _ _ h3
 obtain ⟨out,o1,o2,o3,o4⟩:=hel.fill_ (w:=w) (F:=F) (μ:=μ) (hh:=h) (ρ:=ρ) ((Array.range (len*ei.size)).map (ei.zero.cells[· % ei.zero.cells.size]!)) (by simp [hl]) hst
 refine ⟨out,?_,by rw [o2];simp,fun i x hx=>by have:=o4 i x hx;simpa using this⟩
 simp only [execOp]
 rw [Sem.run_bind]
 have e1:(parts.map fun (x:Nat × Operand)=>match x with | (i,x)=>(i, ρ x)).toList=parts.toList.map fun p=>(p.1, ρ p.2):=by simp
 rw [run_buildSlice w bt e len _ out ie ei.zero hu hie hz (by rw [hsz];omega) (by rw [hsz];omega) (by rw [hsz,e1];exact o1)]
 rfl
theorem aOj (k:Nat) (hT:TOk P T) {bt e:TypeId} {len:Nat} {parts:Array (Nat × Operand)} {ti ei:TI} {es:List (List AV)} {cc:cG} (h1:T bt=some ti) (h2:ti.desc = .slice e) (h3:T e=some ei)
  (hel:Els (evA N ⟨t,h⟩) ei.size 0 parts.toList es) (hlen:Nat.beq es.length len=true) (hpos:Nat.blt 0 (len*ei.size)=true) (hsm:Nat.ble (len*ei.size) 16777216=true) (hcc:Lay es cc) (hk:h k = .no) :
  dK P N ⟨some d, .buildSlice bt len parts,ty,pos,aft,g⟩ ⟨t,h⟩ (.own k 0 len) (upd h k (.live [⟨e,ei.size,cc⟩])) ∧ ∀ k',h k' ≠ .no→upd h k (.live [⟨e,ei.size,cc⟩]) k'=h k':=by
 refine ⟨fun E F μ w ρ H st => ?_,zC hk⟩
 obtain ⟨out,o1,o2,o3⟩:=tX (d:=d) (ty:=ty) (pos:=pos) (aft:=aft) (g:=g) (ρ:=ρ) hT h1 h2 h3 hel hlen hpos hsm fun p hp=>st p.2 (by simp only [Op.operands];simp;exact ⟨p.1,by simpa using hp⟩)
 rw [o1]
 have hl:cc.len=len:=hcc.len_.trans (Nat.eq_of_beq_eq_true hlen)
 have hs:=Nat.le_of_ble_eq_true hsm
 have hp:=qE hpos
 have hlm:len≤len*ei.size:=aBl hp
 have:=aMc (et:=e) H hk o2 (show cc.len≤len by omega) (by unfold maxLen;omega) fun i cells hi=>by
  rw [hcc.get_] at hi
  exact ⟨(o3 i cells hi).1,(o3 i cells hi).2.2⟩
 rw [hl] at this
 exact this
theorem aK5 (hT:TOk P T) {bt e:TypeId} {len:Nat} {parts:Array (Nat × Operand)} {ti ei:TI} {es:List (List AV)} {ds:List (List DV)} (h1:T bt=some ti) (h2:ti.desc = .slice e) (h3:T e=some ei)
  (hel:Els (evA N ⟨t,h⟩) ei.size 0 parts.toList es) (hlen:Nat.beq es.length len=true) (hpos:Nat.blt 0 (len*ei.size)=true) (hsm:Nat.ble (len*ei.size) 16777216=true) (hcc:cR es ds) :
  dK P N ⟨some d, .buildSlice bt len parts,ty,pos,aft,g⟩ ⟨t,h⟩ (.d (.sl ds)) h ∧ ∀ k',h k' ≠ .no→h k'=h k':=by
 refine ⟨fun E F μ w ρ H st => ?_,fun _ _=>rfl⟩
 obtain ⟨out,o1,o2,o3⟩:=tX (d:=d) (ty:=ty) (pos:=pos) (aft:=aft) (g:=g) (ρ:=ρ) hT h1 h2 h3 hel hlen hpos hsm fun p hp=>st p.2 (by simp only [Op.operands];simp;exact ⟨p.1,by simpa using hp⟩)
 rw [o1]
 obtain ⟨H',V⟩:=H.ice (.cells out e)
 have hl:ds.length=len:=by have:=Nat.eq_of_beq_eq_true hlen;rw [hcc.eq_] at this;simpa using this
 have hs:=Nat.le_of_ble_eq_true hsm
 have hp:=qE hpos
 have hlm:len≤len*ei.size:=aBl hp
 have hat : ∀ (i:Nat) (x:List DV),ds[i]? = some x→x.length=ei.size ∧ ∀ (j:Nat) y,x[j]? = some y → ∃ u,out[i*ei.size+j]? = some u∧fC w F μ h u (.d y):=fun i x hx=>by
  obtain ⟨a1,_,a2⟩:=o3 i (x.map .d) (by rw [hcc.eq_];simp [hx])
  exact ⟨by simpa using a1,fun j y hy=>a2 j (.d y) (by simp [hy])⟩
 refine ⟨_, μ,H',V, .d _ _ ?_⟩
 rw [← hl]
 refine .sl w.heap.size 0 ds.length ei.size ds (fun i j=>out.getD (i*ei.size+j) undef) (.inr rfl) (Nat.le_refl _) (by unfold maxLen;omega) (fun i x hx=>(hat i x hx).1) (fun i x j y hx hy => ?_) (fun i x j y hx hy => ?_)
 ·obtain ⟨u,hu,_⟩:=(hat i x hx).2 j y hy
  rw [Nat.zero_add,cell_of_row _ _ _ out e (0,0) (Go.heap_alloc_new w _),hu]
  simp [hu]
 ·obtain ⟨u,hu,hr⟩:=(hat i x hx).2 j y hy
  have e1:out.getD (i*ei.size+j) undef=u:=by simp [hu]
  rw [e1]
  have:=hr.evo V
  cases this with | d _ _ hd=>exact hd
theorem eQ (k:Nat) (hT:TOk P T) {bt e:TypeId} {ti ei:TI} (h1:T bt=some ti) (h2:ti.desc = .slice e) (h3:T e=some ei) (hk:h k = .no) :
  dK P N ⟨some d, .buildSlice bt 0 #[],ty,pos,aft,g⟩ ⟨t,h⟩ (.own k 0 0) (upd h k (.live [⟨e,ei.size, .data []⟩])) ∧ ∀ k',h k' ≠ .no→upd h k (.live [⟨e,ei.size, .data []⟩]) k'=h k':=by
 refine ⟨fun E F μ w ρ H st => ?_,zC hk⟩
 obtain ⟨hu,_⟩:=hT _ _ h1
 rw [h2] at hu
 have e1:(execOp ρ ⟨some d, .buildSlice bt 0 #[],ty,pos,aft,g⟩).run P w = .ok (.value (.slice (some ⟨w.heap.size,0,none⟩) 0 0)) (w.alloc (.cells #[] e)):=by
  simp [execOp,Instr.buildSlice,run_underlying hu,jJ hT h3,Instr.fill,newRow,Array.range_zero']
 rw [e1]
 exact aMc (cc := .data []) (c:=0) H hk (by simp) (Nat.le_refl _) (by unfold maxLen;omega) fun i cells hi=>by simp [cG.get] at hi
def aX8:Value→DV
 | .slice none 0 0 => .sl []
 | v => .v v
def dvL:List Value→List DV
 | []=>[]
 | v :: vs=>aX8 v :: dvL vs
theorem aLm : ∀ l,dvL l=l.map aX8
 | []=>rfl
 | v :: vs=>by simp [dvL,aLm vs]
def aDm:Value→Bool
 | .slice none 0 0=>true
 | v=>v.oneCell'
def aXi:List Value→Bool
 | []=>true
 | v :: vs=>aDm v && aXi vs
theorem aLf {w:World} {F:Nat→Prop} {v:Value} (h:aDm v=true):aDo w F v (aX8 v):=by
 unfold aX8
 split
 ·exact .nil
 ·rename_i hn
  refine .v _ ?_
  unfold aDm at h
  split at h
  ·exact absurd rfl hn
  ·exact h
theorem aN4 : ∀ {l:List Value},aXi l=true → ∀ v ∈ l,aDm v=true
 | [],_,v,hv=>by cases hv
 | x :: l,h,v,hv=>by
  simp [aXi] at h
  rcases List.mem_cons.1 hv with rfl | hv
  ·exact h.1
  ·exact aN4 h.2 v hv
theorem aWj (k:Nat) (hT:TOk P T) {bt e:TypeId} {x y:Operand} {kx ky:IntKind} {a b:Int} {l c:Nat} {ti ei:TI} {zs:List DV} (hx:evA N ⟨t,h⟩ x = .d (.v (.int kx a))) (hy:evA N ⟨t,h⟩ y = .d (.v (.int ky b))) (ha:a=(l:Int)) (hb:b=(c:Int)) (hlc:l≤c)
  (h1:T bt=some ti) (h2:ti.desc = .slice e) (h3:T e=some ei) (hz:dvL ei.zero.cells.toList=zs) (hone:aXi ei.zero.cells.toList=true) (hzs:Nat.beq zs.length ei.size=true) (hpos:Nat.blt 0 ei.size=true) (hby:ei.bytes*c≤281474976710656) (hm:c≤9223372036854775807) (hk:h k = .no) :
  dK P N ⟨some d, .makeSlice bt x y,ty,pos,aft,g⟩ ⟨t,h⟩ (.own k 0 l) (upd h k (.live [⟨e,ei.size, .data (List.replicate l zs)⟩])) ∧ ∀ k',h k' ≠ .no→upd h k (.live [⟨e,ei.size, .data (List.replicate l zs)⟩]) k'=h k':=by
 refine ⟨fun E F μ w ρ H st => ?_,zC hk⟩
 have e1:=lV (by have:=st x (by simp [Op.operands]);rw [hx] at this;exact this)
 have e2:=lV (by have:=st y (by simp [Op.operands]);rw [hy] at this;exact this)
 obtain ⟨hu,_⟩:=hT _ _ h1
 rw [h2] at hu
 obtain ⟨_,ie,hie,hsz,hbb,hzz⟩:=hT _ _ h3
 subst ha hb
 have hby':(ei.bytes:Int)*(c:Int)≤281474976710656:=by
  have:((ei.bytes*c:Nat):Int)≤281474976710656:=by omega
  rwa [Int.natCast_mul] at this
 have hrun:=run_make (P:=P) w bt e ie ei.zero hu hie hzz kx ky l c (by omega) (by omega) (by rw [hbb];exact hby') (by omega)
 rw [Int.toNat_natCast,Int.toNat_natCast,hsz] at hrun
 have e3:(execOp ρ ⟨some d, .makeSlice bt x y,ty,pos,aft,g⟩).run P w = .ok (.value (.slice (some ⟨w.heap.size,0,none⟩) l c)) (w.alloc (.cells (madeCells ei.zero.cells (c*ei.size)) e)):=by
  simp only [execOp,e1,e2]
  rw [Sem.run_bind,hrun];rfl
 rw [e3]
 have hp:=qE hpos
 have hlen:ei.zero.cells.size=ei.size:=by
  have:=Nat.eq_of_beq_eq_true hzs
  rw [← hz,aLm] at this
  simpa using this
 have:=aMc (cc := .data (List.replicate l zs)) (et:=e) H hk (size_madeCells ei.zero.cells (c*ei.size)) (by simpa [cG.len] using hlc) (by unfold maxLen;omega) fun i cells hi=>by
  simp only [cG.get] at hi
  obtain ⟨q,hq,rfl⟩:=Option.map_eq_some_iff.1 hi
  have hil:i<l:=by have:=(List.getElem?_eq_some_iff.1 hq).1;simpa using this
  have hqz:q=zs:=by have:=List.mem_of_getElem? hq;exact (List.mem_replicate.1 this).2
  subst hqz
  refine ⟨by rw [List.length_map];exact Nat.eq_of_beq_eq_true hzs,fun j a hj => ?_⟩
  rw [← hz,aLm,List.map_map,List.getElem?_map,Array.getElem?_toList] at hj
  obtain ⟨u,hu',rfl⟩:=Option.map_eq_some_iff.1 hj
  have hjl:j<ei.size:=by have:=(Array.getElem?_eq_some_iff.1 hu').1;omega
  have hidx:i*ei.size+j<c*ei.size:=by
   have:(i+1)*ei.size≤c*ei.size:=Nat.mul_le_mul_right _ (by omega)
   rw [Nat.add_mul] at this
   omega
  refine ⟨u,?_, .d _ _ (aLf (aN4 hone u (by simpa using Array.mem_of_getElem? hu')))⟩
  simp only [madeCells,Array.getElem?_map]
  rw [Array.getElem?_range,if_pos hidx]
  simp only [Option.map_some,hlen]
  rw [Nat.mul_comm,Nat.mul_add_mod,Nat.mod_eq_of_lt hjl,getElem!_def,hu']
 have h5:(cG.data (List.replicate l zs)).len=l:=by simp [cG.len]
 rw [h5] at this
 exact this
end
end Go.Proofs.YtceknlcbfomdhaaGreatDoor
namespace Go.Proofs.YtceknlcbfomdhaaGreatDoor
open Go.RowKit
set_option linter.unusedVariables false
set_option maxRecDepth 100000
inductive aWr:cG→Nat→List AV→cG→Prop
 | box (c c':List AV):aWr (.av [c]) 0 c' (.av [c'])
 | data (es:List (List DV)) (i:Nat) {c':List AV} {e':List DV} (h:eZ c' e'):aWr (.data es) i c' (.data (es.set i e'))
 | av (es:List (List AV)) (i:Nat) (c':List AV):aWr (.av es) i c' (.av (es.set i c'))
theorem aWr.spec {c c':cG} {i:Nat} {x:List AV} (h:aWr c i x c'):c'.len=c.len∧(i<c.len→c'.get i=some x) ∧ ∀ i':Nat,i'≠i→c'.get i'=c.get i':=by
 cases h with
 | box c c'=>refine ⟨rfl,fun _=>rfl,fun i' hi => ?_⟩;cases i' with
  | zero=>exact absurd rfl hi
  | succ i=>rfl
 | data es i h =>
  refine ⟨by simp [cG.len],fun hi => ?_,fun i' hi => ?_⟩
  ·simp only [cG.get];rw [List.getElem?_set_self (by simpa [cG.len] using hi),h.eq_];rfl
  ·simp only [cG.get];rw [List.getElem?_set_ne (Ne.symm hi)]
 | av es i c' =>
  refine ⟨by simp [cG.len],fun hi => ?_,fun i' hi => ?_⟩
  ·simp only [cG.get];rw [List.getElem?_set_self (by simpa [cG.len] using hi)]
  ·simp only [cG.get];rw [List.getElem?_set_ne (Ne.symm hi)]
inductive aU9:List kC→Nat→kC→List kC→Prop
 | one (o o':kC):aU9 [o] 0 o' [o']
 | gen (l:List kC) (f:Nat) (o':kC):aU9 l f o' (l.set f o')
theorem aU9.eq_ {l l':List kC} {f:Nat} {o:kC} (h:aU9 l f o l'):l'=l.set f o:=by cases h <;> rfl
theorem aRb {α:Type} (cur vs:List α) (off:Nat) (hf:off+vs.length≤cur.length) (q:Nat):(cur.take off++vs++cur.drop (off+vs.length))[q]? = if off≤q∧q<off+vs.length then vs[q-off]? else cur[q]? := by
 have h1:(cur.take off).length=off:=by simp;omega
 by_cases a:q<off
 ·rw [if_neg (by omega),List.append_assoc,List.getElem?_append_left (by omega),List.getElem?_take,if_pos a]
 ·by_cases b:q<off+vs.length
  ·rw [if_pos ⟨by omega,b⟩,List.append_assoc,List.getElem?_append_right (by omega),h1,List.getElem?_append_left (by omega)]
  ·rw [if_neg (by omega),List.getElem?_append_right (by simp;omega),List.getElem?_drop]
   congr 1
   simp
   omega
theorem aXn {i i' j j' sz n:Nat} (hne:i'≠i) (h1:j'<sz) (h2:j+n≤sz) : ¬ (i*sz+j≤i'*sz+j'∧i'*sz+j'<i*sz+j+n):=by
 rcases Nat.lt_or_gt_of_ne hne with h | h
 ·have:(i'+1)*sz≤i*sz:=Nat.mul_le_mul_right _ h
  rw [Nat.add_mul] at this
  omega
 ·have:(i+1)*sz≤i'*sz:=Nat.mul_le_mul_right _ h
  rw [Nat.add_mul] at this
  omega
section
variable {P:Program} {T:Tab} {N:Nat} {ops:Array Oper} {E:Env} {K:List (Nat × Cls)→AS→Prop} {i:Nat} {is:List Nat} {t:Nat→AV} {h h':eB} {d:Tmp} {dst:Option Tmp} {op:Op} {ty:TypeId} {pos:String} {aft:Array Edge} {g:Option (Nat × Bool)}
theorem aIx (hT:TOk P T) {bt:TypeId} {x y:Operand} {k f n ix j:Nat} {l l':List kC} {o:kC} {cells cs cells':List AV} {cc':cG} {ti:TI} (hx:evA N ⟨t,h⟩ x = .ptr k f n ix j) (hy:wD (evA N ⟨t,h⟩ y)=cs) (ho:okL cs=true) (h1:T bt=some ti)
  (hl:Nat.beq cs.length ti.size=true) (hpos:Nat.blt 0 ti.size=true) (hk:h k = .live l) (hf:l[f]? = some o) (hn:o.cs.len=n) (hi:o.cs.get ix=some cells) (hs:Spl j cs cells cells') (hc:aWr o.cs ix cells' cc') (hl':aU9 l f ⟨o.ty,o.sz,cc'⟩ l') :
  dK P N ⟨dst, .store bt x y,ty,pos,aft,g⟩ ⟨t,h⟩ .dead (upd h k (.live l')):=fun E F μ w ρ H st=>by
 have hr:=st x (by simp [Op.operands])
 have hr2:=st y (by simp [Op.operands])
 rw [hx] at hr
 obtain ⟨v1,v2,v3⟩:=hr2.cells_ hy ho
 have hlo:lv h k f=some o:=(jU hk f).trans hf
 obtain ⟨b,cur,hv,hm,hb,hlen,hcs⟩:=aEp H hr hlo hn hi
 obtain ⟨s1,s2,s3,s4⟩:=hs.spec
 obtain ⟨c1,c2,c3⟩:=hc.spec
 have hsz:cs.length=ti.size:=Nat.eq_of_beq_eq_true hl
 have hp:=qE hpos
 have hix:=aBz hi
 have hfit:ix*o.sz+j+cs.length≤cur.size:=by
  obtain ⟨u,hu,_⟩:=hcs (j+cs.length-1) _ (List.getElem?_eq_getElem (show j+cs.length-1<cells.length by omega))
  have:=(Array.getElem?_eq_some_iff.1 hu).1
  omega
 have hvl:(ρ y).cells.toList.length=cs.length:=by simpa using v1
 have hst:=run_storeCells_at P b (ix*o.sz+j) o.ty (ρ y).cells.toList 0 cur w hb (by omega) (fun v hv=>v3 v (by simpa using hv))
 simp only [Nat.add_zero] at hst
 have e:(execOp ρ ⟨dst, .store bt x y,ty,pos,aft,g⟩).run P w = .ok .skip (w.setRow b (cur.toList.take (ix*o.sz+j)++(ρ y).cells.toList++cur.toList.drop (ix*o.sz+j+(ρ y).cells.toList.length)).toArray):=by
  simp only [execOp,hv,Instr.storeAt,Instr.sureAddr,storeVar]
  simp [Sem.run_bind,jJ hT h1,v1,hsz]
  have hst':=hst
  simp only [Array.length_toList,v1,hsz] at hst'
  rw [hst']
  simp
 rw [e]
 have hmid : ∀ q,((cur.toList.take (ix*o.sz+j)++(ρ y).cells.toList++cur.toList.drop (ix*o.sz+j+(ρ y).cells.toList.length)).toArray)[q]? = if ix*o.sz+j≤q∧q<ix*o.sz+j+cs.length then (ρ y).cells[q-(ix*o.sz+j)]? else cur[q]? := fun q=>by
  rw [List.getElem?_toArray,aRb _ _ _ (by rw [hvl];simpa using hfit),hvl,Array.getElem?_toList,Array.getElem?_toList]
 have hsize:(cur.toList.take (ix*o.sz+j)++(ρ y).cells.toList++cur.toList.drop (ix*o.sz+j+(ρ y).cells.toList.length)).toArray.size=cur.size:=by
  simp only [List.size_toArray,List.length_append,List.length_take,List.length_drop,hvl,Array.length_toList];omega
 obtain ⟨H',V⟩:=H.put (w':=w.setRow b (cur.toList.take (ix*o.sz+j)++(ρ y).cells.toList++cur.toList.drop (ix*o.sz+j+(ρ y).cells.toList.length)).toArray) hk hf (o':=⟨o.ty,o.sz,cc'⟩) b
  (cur.toList.take (ix*o.sz+j)++(ρ y).cells.toList++cur.toList.drop (ix*o.sz+j+(ρ y).cells.toList.length)).toArray (by simp) rfl rfl rfl (fun b' _ hne=>setRow_other w b b' _ (fun e=>hne (by rw [hm,e]))) (.inl hm) (by simp;exact (Array.getElem?_eq_some_iff.1 hb).1)
  (setRow_heap w b cur _ o.ty _ hb) (.inr ⟨c1.symm,rfl,rfl,hm,fun cur2 hc2=>by rw [hb] at hc2;injection hc2 with hc2;injection hc2 with hc2;rw [← hc2];exact hsize⟩) (fun i' cl hcl=>by
   obtain ⟨b0,cur0,hm0,hb0,hat⟩:=aKb H hlo (by omega)
   have e0:b0=b:=by rw [hm] at hm0;injection hm0 with hm0;exact hm0.symm
   subst e0
   have e1:cur0=cur:=by rw [hb] at hb0;injection hb0 with hb0;injection hb0 with hb0;exact hb0.symm
   subst e1
   by_cases e:i'=ix
   ·subst e
    rw [c2 hix] at hcl
    injection hcl with hcl
    subst hcl
    refine ⟨s1.trans hlen,fun j' a hj' => ?_⟩
    rw [hmid]
    by_cases hr:j≤j'∧j'<j+cs.length
    ·rw [if_pos (show i'*o.sz+j≤i'*o.sz+j'∧i'*o.sz+j'<i'*o.sz+j+cs.length by omega)]
     have:=s4 (j'-j) (by omega)
     rw [show j+(j'-j)=j' by omega,hj'] at this
     obtain ⟨u,hu,hru⟩:=v2 _ a this.symm
     exact ⟨u,by rw [show i'*o.sz+j'-(i'*o.sz+j)=j'-j by omega];exact hu,hru⟩
    ·rw [if_neg (show ¬ (i'*o.sz+j≤i'*o.sz+j'∧i'*o.sz+j'<i'*o.sz+j+cs.length) by omega)]
     rw [s3 j' (by omega)] at hj'
     exact hcs j' a hj'
   ·rw [c3 i' e] at hcl
    obtain ⟨a1,a2⟩:=hat i' cl hcl
    refine ⟨a1,fun j' a hj' => ?_⟩
    have hjl:j'<cl.length:=(List.getElem?_eq_some_iff.1 hj').1
    rw [hmid,if_neg (aXn e (show j'<o.sz by omega) (by omega))]
    exact a2 j' a hj')
 rw [hl'.eq_]
 exact ⟨F,_,H',V, .dead _⟩
def aGy (w:World) (F:Nat→Prop) (μ:cT) (h:eB) (v:Value) (sz:Nat) (xc:cG):Prop :=
 ∃ A c,v = .slice A xc.len c∧(xc.len=0 ∨ ∃ b off,A=some ⟨b,off,none⟩ ∧ ∀ i cells,xc.get i=some cells→cells.length=sz ∧ ∀ (j:Nat) a,cells[j]? = some a → ∃ u,w.cell? ⟨b,off+i*sz+j,none⟩=some u∧u.oneCell'=true∧fC w F μ h u a)
theorem aOa {F:Nat→Prop} {μ:cT} {w:World} {v:Value} {sz:Nat} {es:List (List DV)} (r:fC w F μ h v (.d (.sl es))) (hs : ∀ e ∈ es,e.length=sz):aGy w F μ h v sz (.data es):=by
 cases r with | d _ _ hd =>
 cases hd with
 | nil=>exact ⟨none,0,rfl, .inl rfl⟩
 | emp A c hm=>exact ⟨A,c,rfl, .inl rfl⟩
 | sl b off c sz' es gg hF hc hm hz hg hr =>
  refine ⟨_,c,rfl, .inr ⟨b,off,rfl,fun i cells hi => ?_⟩⟩
  simp only [cG.get] at hi
  obtain ⟨e,he,rfl⟩:=Option.map_eq_some_iff.1 hi
  have h1:=hs e (List.mem_of_getElem? he)
  have h2:sz'=sz:=(hz i e he).symm.trans h1
  subst h2
  refine ⟨by rw [List.length_map];exact h1,fun j a hj => ?_⟩
  rw [List.getElem?_map] at hj
  obtain ⟨x,hx,rfl⟩:=Option.map_eq_some_iff.1 hj
  exact ⟨gg i j,hg i e j x he hx,(hr i e j x he hx).one_, .d _ _ (hr i e j x he hx)⟩
def cG.oks:cG→Prop
 | .data _=>True
 | .av es => ∀ e ∈ es,okL e=true
theorem aV2 {c:cG} (hf:c.oks) {i:Nat} {cells:List AV} (hi:c.get i=some cells) {j:Nat} {a:AV} (hj:cells[j]? = some a):ok1 a=true:=by
 cases c with
 | data es =>
  simp only [cG.get] at hi
  obtain ⟨e,he,rfl⟩:=Option.map_eq_some_iff.1 hi
  simp only [List.getElem?_map] at hj
  obtain ⟨x,hx,rfl⟩:=Option.map_eq_some_iff.1 hj
  rfl
 | av es=>exact aH6 (hf cells (List.mem_of_getElem? hi)) hj
theorem aKf {F:Nat→Prop} {μ:cT} {w:World} (H:iY E F μ h w) {v:Value} {k f n:Nat} {o:kC} (r:fC w F μ h v (.own k f n)) (ho:lv h k f=some o) (hn:o.cs.len=n) (hok:o.cs.oks):aGy w F μ h v o.sz o.cs:=by
 cases r with | own _ _ _ _ g1 hb hv =>
 rcases (hv o ho).2 hn with ⟨h1,h2,h3⟩ | ⟨b,c,cur,h1,h2,h3,h4,h5,h6⟩
 ·exact ⟨none,0,by rw [h3,hn,h2], .inl (by omega)⟩
 ·rcases Nat.eq_zero_or_pos o.cs.len with e | e
  ·exact ⟨_,c,by rw [h2,hn], .inl e⟩
  ·obtain ⟨b',cur',m1,m2,m3⟩:=aKb H ho e
   rw [h1] at m1
   injection m1 with m1
   subst m1
   rw [h3] at m2
   injection m2 with m2
   injection m2 with m2
   subst m2
   refine ⟨_,c,by rw [h2,hn], .inr ⟨b,0,rfl,fun i cells hi=>⟨(m3 i cells hi).1,fun j a hj => ?_⟩⟩⟩
   obtain ⟨u,hu,hr⟩:=(m3 i cells hi).2 j a hj
   exact ⟨u,by rw [Nat.zero_add,cell_of_row w b _ cur o.ty (0,0) h3,hu],hr.one_ (aV2 hok hi hj),hr⟩
inductive App:cG→cG→cG→Prop
 | data (a b:List (List DV)):App (.data a) (.data b) (.data (a++b))
 | av (a b:List (List AV)):App (.av a) (.av b) (.av (a++b))
 | nil (b:List (List AV)):App (.data []) (.av b) (.av b)
theorem App.spec {a b c:cG} (h:App a b c):c.len=a.len+b.len∧(∀ i,i<a.len→c.get i=a.get i) ∧ ∀ i,c.get (a.len+i)=b.get i:=by
 cases h with
 | data a b =>
  refine ⟨by simp [cG.len],fun i hi => ?_,fun i => ?_⟩
  ·simp only [cG.get];rw [List.getElem?_append_left (by simpa [cG.len] using hi)]
  ·simp only [cG.get,cG.len];rw [List.getElem?_append_right (by omega),Nat.add_sub_cancel_left]
 | av a b =>
  refine ⟨by simp [cG.len],fun i hi => ?_,fun i => ?_⟩
  ·simp only [cG.get];rw [List.getElem?_append_left (by simpa [cG.len] using hi)]
  ·simp only [cG.get,cG.len];rw [List.getElem?_append_right (by omega),Nat.add_sub_cancel_left]
 | nil b=>exact ⟨by simp [cG.len],fun i hi=>by simp [cG.len] at hi,fun i=>by simp [cG.get,cG.len]⟩
theorem aPe {F:Nat→Prop} {μ:cT} {w:World} {sz:Nat} {xc:cG} {b off:Nat} (hsz:0<sz) (hall : ∀ i,i<xc.len→(xc.get i).isSome=true)
  (hr : ∀ i cells,xc.get i=some cells→cells.length=sz ∧ ∀ (j:Nat) a,cells[j]? = some a → ∃ u,w.cell? ⟨b,off+i*sz+j,none⟩=some u∧u.oneCell'=true∧fC w F μ h u a) :
  ∃ nv:List Value,nv.length=xc.len*sz∧(∀ (q:Nat) u,nv[q]? = some u→w.cell? ((⟨b,off,none⟩:Addr).add q)=some u)∧(∀ u ∈ nv,u.oneCell'=true) ∧
   ∀ i cells,xc.get i=some cells → ∀ (j:Nat) a,cells[j]? = some a → ∃ u,nv[i*sz+j]? = some u∧fC w F μ h u a:=by
 have at_ : ∀ q,q<xc.len*sz → ∃ cells a u,xc.get (q / sz)=some cells∧cells[q % sz]? = some a∧w.cell? ⟨b,off+q,none⟩=some u∧u.oneCell'=true∧fC w F μ h u a:=fun q hq=>by
  have hi:q / sz<xc.len:=by rw [Nat.div_lt_iff_lt_mul hsz];exact hq
  obtain ⟨cells,hc⟩:=Option.isSome_iff_exists.1 (hall _ hi)
  have hm:q % sz<sz:=Nat.mod_lt _ hsz
  obtain ⟨h1,h2⟩:=hr _ cells hc
  obtain ⟨u,hu,ho,hr'⟩:=h2 (q % sz) _ (List.getElem?_eq_getElem (by omega))
  have hq2:q / sz*sz+q % sz=q:=by rw [Nat.mul_comm];exact Nat.div_add_mod q sz
  exact ⟨cells,_,u,hc,List.getElem?_eq_getElem (by omega),by rw [← hq2, ← Nat.add_assoc];exact hu,ho,hr'⟩
 refine ⟨(List.range (xc.len*sz)).map fun q=>(w.cell? ⟨b,off+q,none⟩).getD undef,by simp,fun q u hq => ?_,fun u hu => ?_,fun i cells hi j a hj => ?_⟩
 ·have hlt:q<xc.len*sz:=by have:=(List.getElem?_eq_some_iff.1 hq).1;simpa using this
  obtain ⟨_,_,u',_,_,hu',_,_⟩:=at_ q hlt
  rw [List.getElem?_map,List.getElem?_range hlt] at hq
  simp [hu'] at hq
  subst hq
  rw [tA];exact hu'
 ·obtain ⟨q,hq,rfl⟩:=List.mem_map.1 hu
  obtain ⟨_,_,u',_,_,hu',ho,_⟩:=at_ q (by simpa using hq)
  simp [hu',ho]
 ·have hil:=aBz hi
  obtain ⟨h1,h2⟩:=hr i cells hi
  have hjl:j<cells.length:=(List.getElem?_eq_some_iff.1 hj).1
  obtain ⟨u,hu,_,hr'⟩:=h2 j a hj
  have hlt:i*sz+j<xc.len*sz:=by
   have:(i+1)*sz≤xc.len*sz:=Nat.mul_le_mul_right _ hil
   rw [Nat.add_mul] at this
   omega
  refine ⟨u,?_,hr'⟩
  rw [List.getElem?_map,List.getElem?_range hlt]
  simp [← Nat.add_assoc,hu]
theorem aTp {c:cG} {i:Nat} (h:i<c.len):(c.get i).isSome=true:=by
 cases c with
 | data es=>simp only [cG.get,Option.isSome_map];simpa [cG.len] using h
 | av es=>simp only [cG.get];simpa [cG.len] using h
theorem yY (hT:TOk P T) {bt e ty:TypeId} {ti ei:TI} (h1:T bt=some ti) (h2:ti.desc = .slice e) (h3:T e=some ei) (hzs:Nat.beq ei.zero.cells.size ei.size=true) (hpos:Nat.blt 0 ei.size=true)
  {F:Nat→Prop} {μ:cT} {w:World} (H:iY E F μ h w) {k f n:Nat} {l:List kC} {o:kC} {xc cc:cG} (hk:h k = .live l) (hf:l[f]? = some o) (hn:o.cs.len=n) (hty:o.ty=e) (hsz:o.sz=ei.size) {v x:Value} (hv:aWz w (μ k f) o n v) (hx:aGy w F μ h x ei.size xc)
  (happ:App o.cs xc cc) (hby:(n+xc.len)*ei.bytes≤140737488355328) (hm:n+xc.len≤140737488355328) :
  ∃ v' w',(Builtin.append_ #[bt,bt] ty #[v,x]).run P w = .ok v' w' ∧ ∃ F' μ',iY E F' μ' (upd h k (.live (l.set f ⟨o.ty,o.sz,cc⟩))) w'∧Evo w F μ h w' F' μ' (upd h k (.live (l.set f ⟨o.ty,o.sz,cc⟩)))∧fC w' F' μ' (upd h k (.live (l.set f ⟨o.ty,o.sz,cc⟩))) v' (.own k f (n+xc.len)):=by
 obtain ⟨hu,_⟩:=hT _ _ h1
 rw [h2] at hu
 obtain ⟨_,ie,hie,hisz,hib,hiz⟩:=hT _ _ h3
 have hzs':ei.zero.cells.size=ei.size:=Nat.eq_of_beq_eq_true hzs
 have hp:=qE hpos
 have hlo:lv h k f=some o:=(jU hk f).trans hf
 have hfl:f<l.length:=(List.getElem?_eq_some_iff.1 hf).1
 obtain ⟨a1,a2,a3⟩:=happ.spec
 obtain ⟨A,c0,rfl,hxx⟩:=hx
 have lvnew : ∀ o',lv (upd h k (.live (l.set f ⟨o.ty,o.sz,cc⟩))) k f=some o'→o'=⟨o.ty,o.sz,cc⟩:=fun o' ho'=>by
  rw [eC,List.getElem?_set_self hfl] at ho'
  injection ho' with ho'
  exact ho'.symm
 have bornn:upd h k (.live (l.set f ⟨o.ty,o.sz,cc⟩)) k ≠ .no:=by rw [dE];intro e;cases e
 by_cases hm0:xc.len=0
 ·-- nothing is appended
  have hcs : ∀ i,cc.get i=o.cs.get i:=fun i=>by
   rcases Nat.lt_or_ge i o.cs.len with hlt | hge
   ·exact a2 i hlt
   ·have e1:cc.get i=none:=by
     cases hc:cc.get i with
     | none=>rfl
     | some q=>have:=aBz hc;omega
    have e2:o.cs.get i=none:=by
     cases hc:o.cs.get i with
     | none=>rfl
     | some q=>have:=aBz hc;omega
    rw [e1,e2]
  have hlen:cc.len=o.cs.len:=by omega
  have hrun:(Builtin.append_ #[bt,bt] ty #[v, .slice A xc.len c0]).run P w = .ok v w:=by
   rw [hm0]
   rcases hv with ⟨_,h5,rfl⟩ | ⟨b,c,cur,_,rfl,_,_,h9,_⟩
   ·cases A <;> simp [Builtin.append_,run_underlying hu,sizeOf,typeInfo,hie,Builtin.lenOf,Builtin.firstCells,loadCells,loadCellsFrom]
   ·cases A <;> simp [Builtin.append_,run_underlying hu,sizeOf,typeInfo,hie,Builtin.lenOf,Builtin.firstCells,loadCells,loadCellsFrom,h9,storeCells]
  refine ⟨v,w,hrun,?_⟩
  have V:Evo w F μ h w F μ (upd h k (.live (l.set f ⟨o.ty,o.sz,cc⟩))):=by
   refine ⟨fun _ _=>rfl,fun _ hb=>hb,fun k' hb => ?_,fun k' f' o1 hb ho1 => ?_⟩
   ·by_cases e:k'=k
    ·subst e;exact bornn
    ·rw [dZ _ _ e];exact hb
   ·by_cases e:k'=k
    ·subst e
     by_cases e2:f'=f
     ·subst e2
      rw [lvnew o1 ho1]
      exact ⟨o,hlo, .inr ⟨hlen.symm,rfl,rfl,fun b cur _ hc=>⟨cur,hc,rfl⟩⟩⟩
     ·rw [eC,List.getElem?_set_ne (Ne.symm e2)] at ho1
      exact ⟨o1,(jU hk f').trans ho1, .inr ⟨rfl,rfl,rfl,fun b cur _ hc=>⟨cur,hc,rfl⟩⟩⟩
    ·rw [gA _ _ _ e] at ho1
     exact ⟨o1,ho1, .inr ⟨rfl,rfl,rfl,fun b cur _ hc=>⟨cur,hc,rfl⟩⟩⟩
  have back : ∀ {k' f' o1},lv (upd h k (.live (l.set f ⟨o.ty,o.sz,cc⟩))) k' f'=some o1 → ∃ o0,lv h k' f'=some o0:=fun {k' f' o1} ho1=>by
   by_cases e:k'=k
   ·subst e
    by_cases e2:f'=f
    ·subst e2;exact ⟨o,hlo⟩
    ·rw [eC,List.getElem?_set_ne (Ne.symm e2)] at ho1
     exact ⟨o1,(jU hk f').trans ho1⟩
   ·rw [gA _ _ _ e] at ho1;exact ⟨o1,ho1⟩
  refine ⟨F, μ,⟨fun k' f' o1 ho1 => ?_,fun k1 f1 o1 k2 f2 o2 b l1 l2 => ?_,fun k' f' o1 b ho1 => ?_,fun k' f' o1 b ho1 => ?_,H.fz,H.fsrc,H.ev.trans V,H.os,H.tape,H.output,H.size,H.keep⟩,V, .own _ _ _ _ ?_ bornn fun o1 ho1 => ?_⟩
  ·by_cases e:k'=k∧f'=f
   ·obtain ⟨rfl,rfl⟩:=e
    rw [lvnew o1 ho1]
    rcases H.ob k' f' o hlo with ⟨q1,q2⟩ | ⟨b,cur,q1,q2,q3⟩
    ·exact .inl ⟨q1,hlen.trans q2⟩
    ·refine .inr ⟨b,cur,q1,q2,fun i cells hi => ?_⟩
     have hi':o.cs.get i=some cells:=by rw [← hcs];exact hi
     refine ⟨(q3 i cells hi').1,fun j a hj => ?_⟩
     obtain ⟨u,hu,hr⟩:=(q3 i cells hi').2 j a hj
     exact ⟨u,hu,hr.evo V⟩
   ·have ho1':lv h k' f'=some o1:=by
     by_cases e2:k'=k
     ·subst e2
      rw [eC,List.getElem?_set_ne (fun e3=>e ⟨rfl,e3.symm⟩)] at ho1
      exact (jU hk f').trans ho1
     ·rwa [gA _ _ _ e2] at ho1
    exact (H.ob k' f' o1 ho1').evo V fun _ _=>rfl
  ·obtain ⟨x1,y1⟩:=back l1
   obtain ⟨x2,y2⟩:=back l2
   exact H.inj _ _ _ _ _ _ b y1 y2
  ·obtain ⟨x1,y1⟩:=back ho1
   exact H.sep _ _ _ b y1
  ·obtain ⟨x1,y1⟩:=back ho1
   exact H.src _ _ _ b y1
  ·rcases hv with ⟨_,_,rfl⟩ | ⟨b,c,cur,_,rfl,_⟩ <;> rfl
  ·rw [lvnew o1 ho1,hm0]
   refine ⟨by show n+0≤cc.len;omega,fun _ => ?_⟩
   simpa [aWz] using hv
 ·obtain ⟨b0,off,rfl,hrd⟩:=hxx.resolve_left hm0
  obtain ⟨nv,n1,n2,n3,n4⟩:=aPe (μ:=μ) (F:=F) (h:=h) (w:=w) hp (fun i hi=>aTp hi) hrd
  have hmax:n+xc.len≤maxLen:=by unfold maxLen;omega
  -- a new block
  have fresh : ∀ (old:List Value) (capN:Nat),old.length=n*ei.size→(∀ i cells,o.cs.get i=some cells→cells.length=o.sz ∧ ∀ (j:Nat) a,cells[j]? = some a → ∃ u,old[i*ei.size+j]? = some u∧fC w F μ h u a)→n+xc.len≤capN→capN≤maxLen →
    ∃ F' μ',iY E F' μ' (upd h k (.live (l.set f ⟨o.ty,o.sz,cc⟩))) (w.drew.alloc (.cells (old.toArray++nv.toArray++Builtin.zeroCells ei.zero.cells (capN-(n+xc.len))) e)) ∧
     Evo w F μ h (w.drew.alloc (.cells (old.toArray++nv.toArray++Builtin.zeroCells ei.zero.cells (capN-(n+xc.len))) e)) F' μ' (upd h k (.live (l.set f ⟨o.ty,o.sz,cc⟩))) ∧
     fC (w.drew.alloc (.cells (old.toArray++nv.toArray++Builtin.zeroCells ei.zero.cells (capN-(n+xc.len))) e)) F' μ' (upd h k (.live (l.set f ⟨o.ty,o.sz,cc⟩))) (.slice (some ⟨w.heap.size,0,none⟩) (n+xc.len) capN) (.own k f (n+xc.len)):=by
   intro old capN ho hold hcap hcm
   have hat:(w.drew.alloc (.cells (old.toArray++nv.toArray++Builtin.zeroCells ei.zero.cells (capN-(n+xc.len))) e)).heap[w.heap.size]? = some (.cells (old.toArray++nv.toArray++Builtin.zeroCells ei.zero.cells (capN-(n+xc.len))) e):=Go.heap_alloc_new w.drew _
   obtain ⟨H',V⟩:=H.put (w':=w.drew.alloc (.cells (old.toArray++nv.toArray++Builtin.zeroCells ei.zero.cells (capN-(n+xc.len))) e)) hk hf (o':=⟨o.ty,o.sz,cc⟩) w.heap.size (old.toArray++nv.toArray++Builtin.zeroCells ei.zero.cells (capN-(n+xc.len)))
    (by simp) rfl rfl rfl (fun b' hb' _=>Below.heap_alloc w.drew _ b' hb') (.inr (Nat.le_refl _)) (by simp) (by rw [hat,hty]) (.inl (by show o.cs.len<cc.len;omega)) (fun i cells hi=>by
     have hlook : ∀ q:Nat,q<n*ei.size+xc.len*ei.size→(old.toArray++nv.toArray++Builtin.zeroCells ei.zero.cells (capN-(n+xc.len)))[q]? = (old++nv)[q]? := fun q hq=>by
      rw [Array.getElem?_append_left (by simp;omega)]
      simp
     rcases Nat.lt_or_ge i o.cs.len with hlt | hge
     ·have hi':o.cs.get i=some cells:=by rw [← a2 i hlt];exact hi
      obtain ⟨q1,q2⟩:=hold i cells hi'
      refine ⟨q1,fun j a hj => ?_⟩
      obtain ⟨u,hu,hr⟩:=q2 j a hj
      have hb:=(List.getElem?_eq_some_iff.1 hu).1
      refine ⟨u,?_,hr⟩
      show (old.toArray++nv.toArray++Builtin.zeroCells ei.zero.cells (capN-(n+xc.len)))[i*o.sz+j]? = some u
      rw [hsz,hlook _ (by omega),List.getElem?_append_left hb]
      exact hu
     ·have hi':xc.get (i-o.cs.len)=some cells:=by rw [← a3,show o.cs.len+(i-o.cs.len)=i by omega];exact hi
      refine ⟨(hrd _ cells hi').1.trans hsz.symm,fun j a hj => ?_⟩
      obtain ⟨u,hu,hr⟩:=n4 _ cells hi' j a hj
      have hb:=(List.getElem?_eq_some_iff.1 hu).1
      refine ⟨u,?_,hr⟩
      show (old.toArray++nv.toArray++Builtin.zeroCells ei.zero.cells (capN-(n+xc.len)))[i*o.sz+j]? = some u
      have hix:i*ei.size+j=n*ei.size+((i-o.cs.len)*ei.size+j):=by
       rw [Nat.sub_mul, ← hn]
       have:o.cs.len*ei.size≤i*ei.size:=Nat.mul_le_mul_right _ hge
       omega
      rw [hsz,hix,hlook _ (by omega),List.getElem?_append_right (by omega),ho,Nat.add_sub_cancel_left]
      exact hu)
   refine ⟨F,_,H',V, .own _ _ _ _ rfl bornn fun o1 ho1 => ?_⟩
   rw [lvnew o1 ho1]
   refine ⟨by show n+xc.len≤cc.len;omega,fun _ => .inr ⟨w.heap.size,capN,_,dV _ _ _ _,rfl,by rw [hat,hty],?_,hcap,hcm⟩⟩
   show (old.toArray++nv.toArray++Builtin.zeroCells ei.zero.cells (capN-(n+xc.len))).size=capN*o.sz
   simp only [Array.size_append,List.size_toArray,size_zeroCells,hzs',ho,n1,hsz, ← Nat.add_mul]
   congr 1
   omega
  rcases hv with ⟨q1,q2,rfl⟩ | ⟨b,c,cur,q1,rfl,q3,q4,q5,q6⟩
  ·subst q2
   have hge:=grownCap_ge w (0+xc.len) 0 e
   have hcm:=grownCap_le_maxLen w (0+xc.len) 0 e hmax
   have hr:=run_append_nil (P:=P) w bt ty e ie ei.zero hu hie hiz ⟨b0,off,none⟩ xc.len c0 nv (by rw [hisz];exact n1) n2 (by omega) (by unfold maxLen at hmax;omega) (by rw [hib];simp only [Nat.zero_add] at hby;omega)
   rw [Nat.zero_add] at hge hcm
   have:=fresh [] (grownCap w xc.len 0 e) (by simp) (fun i cells hi=>by have:=aBz hi;omega) (by omega) hcm
   rw [show ([]:List Value).toArray = #[] from rfl,Array.empty_append] at this
   simp only [Nat.zero_add] at this ⊢
   exact ⟨_,_,hr,this⟩
  ·have hcurlt : ∀ i cells,o.cs.get i=some cells→cells.length=o.sz ∧ ∀ (j:Nat) a,cells[j]? = some a → ∃ u,(cur.toList.take (n*ei.size))[i*ei.size+j]? = some u∧fC w F μ h u a:=fun i cells hi=>by
    obtain ⟨b',cur',m1,m2,m3⟩:=aKb H hlo (by have:=aBz hi;omega)
    rw [q1] at m1
    injection m1 with m1
    subst m1
    rw [q3] at m2
    injection m2 with m2
    injection m2 with m2
    subst m2
    refine ⟨(m3 i cells hi).1,fun j a hj => ?_⟩
    obtain ⟨u,hu',hr⟩:=(m3 i cells hi).2 j a hj
    refine ⟨u,?_,hr⟩
    have hil:=aBz hi
    have hjl:j<cells.length:=(List.getElem?_eq_some_iff.1 hj).1
    have hlt:i*ei.size+j<n*ei.size:=by
     have h9:(i+1)*ei.size≤n*ei.size:=Nat.mul_le_mul_right _ (by omega)
     rw [Nat.add_mul] at h9
     have h10:=(m3 i cells hi).1
     omega
    rw [List.getElem?_take,if_pos hlt,Array.getElem?_toList, ← hsz]
    exact hu'
   have hcurl:(cur.toList.take (n*ei.size)).length=n*ei.size:=by
    have:n*ei.size≤c*ei.size:=Nat.mul_le_mul_right _ q5
    rw [hsz] at q4
    simp;omega
   rw [hty] at q3
   by_cases hroom:n+xc.len≤c
   ·have hfit:n*ie.size+nv.length≤cur.size:=by
     rw [hisz,n1,q4,hsz, ← Nat.add_mul];exact Nat.mul_le_mul_right _ hroom
    have hr:=run_append_room (P:=P) w bt ty e ie hu hie b n c cur q3 ⟨b0,off,none⟩ xc.len c0 nv (by rw [hisz];exact n1) n2 n3 hroom hfit
    refine ⟨_,_,hr,?_⟩
    rw [hisz] at hfit ⊢
    have hmid : ∀ q,((cur.toList.take (n*ei.size)++nv++cur.toList.drop (n*ei.size+nv.length)).toArray)[q]? = if n*ei.size≤q∧q<n*ei.size+nv.length then nv[q-n*ei.size]? else cur[q]? := fun q=>by
     rw [List.getElem?_toArray,aRb _ _ _ (by simpa using hfit)]
     simp only [Array.getElem?_toList]
    have hsize:(cur.toList.take (n*ei.size)++nv++cur.toList.drop (n*ei.size+nv.length)).toArray.size=cur.size:=by
     simp only [List.size_toArray,List.length_append,List.length_take,List.length_drop,Array.length_toList];omega
    have hset:=setRow_heap w b cur (cur.toList.take (n*ei.size)++nv++cur.toList.drop (n*ei.size+nv.length)).toArray e _ q3
    obtain ⟨H',V⟩:=H.put (w':=w.setRow b (cur.toList.take (n*ei.size)++nv++cur.toList.drop (n*ei.size+nv.length)).toArray) hk hf (o':=⟨o.ty,o.sz,cc⟩) b (cur.toList.take (n*ei.size)++nv++cur.toList.drop (n*ei.size+nv.length)).toArray
     (by simp) rfl rfl rfl (fun b' _ hne=>setRow_other w b b' _ (fun e=>hne (by rw [q1,e]))) (.inl q1) (by simp;exact (Array.getElem?_eq_some_iff.1 q3).1) (by rw [hset,hty]) (.inl (by show o.cs.len<cc.len;omega)) (fun i cells hi=>by
      rcases Nat.lt_or_ge i o.cs.len with hlt | hge
      ·have hi':o.cs.get i=some cells:=by rw [← a2 i hlt];exact hi
       obtain ⟨p1,p2⟩:=hcurlt i cells hi'
       refine ⟨p1,fun j a hj => ?_⟩
       obtain ⟨u,hu',hr'⟩:=p2 j a hj
       have hb:=(List.getElem?_eq_some_iff.1 hu').1
       rw [hcurl] at hb
       refine ⟨u,?_,hr'⟩
       rw [hmid]
       show (if n*ei.size≤i*o.sz+j∧i*o.sz+j<n*ei.size+nv.length then nv[i*o.sz+j-n*ei.size]? else cur[i*o.sz+j]?)=some u
       rw [hsz,if_neg (by omega)]
       rw [List.getElem?_take,if_pos hb,Array.getElem?_toList] at hu'
       exact hu'
      ·have hi':xc.get (i-o.cs.len)=some cells:=by rw [← a3,show o.cs.len+(i-o.cs.len)=i by omega];exact hi
       refine ⟨(hrd _ cells hi').1.trans hsz.symm,fun j a hj => ?_⟩
       obtain ⟨u,hu',hr'⟩:=n4 _ cells hi' j a hj
       have hb:=(List.getElem?_eq_some_iff.1 hu').1
       refine ⟨u,?_,hr'⟩
       have hix:i*ei.size+j=n*ei.size+((i-o.cs.len)*ei.size+j):=by
        rw [Nat.sub_mul, ← hn]
        have:o.cs.len*ei.size≤i*ei.size:=Nat.mul_le_mul_right _ hge
        omega
       rw [hmid]
       show (if n*ei.size≤i*o.sz+j∧i*o.sz+j<n*ei.size+nv.length then nv[i*o.sz+j-n*ei.size]? else cur[i*o.sz+j]?)=some u
       rw [hsz,hix,if_pos (by omega),Nat.add_sub_cancel_left]
       exact hu')
    refine ⟨F,_,H',V, .own _ _ _ _ rfl bornn fun o1 ho1 => ?_⟩
    rw [lvnew o1 ho1]
    exact ⟨by show n+xc.len≤cc.len;omega,fun _ => .inr ⟨b,c,_,dV _ _ _ _,rfl,by rw [hset,hty],hsize.trans q4,hroom,q6⟩⟩
   ·have hge:=grownCap_ge w (n+xc.len) c e
    have hcm:=grownCap_le_maxLen w (n+xc.len) c e hmax
    have hr:=run_append_grow (P:=P) w bt ty e ie ei.zero hu hie hiz ⟨b,0,none⟩ n c (cur.toList.take (n*ei.size)) (by rw [hisz];exact hcurl) (fun j v hj=>by
      rw [tA,Nat.zero_add,cell_of_row w b _ cur e (0,0) q3]
      have hlt:j<n*ei.size:=by have:=(List.getElem?_eq_some_iff.1 hj).1;omega
      rw [List.getElem?_take,if_pos hlt,Array.getElem?_toList] at hj
      exact hj) ⟨b0,off,none⟩ xc.len c0 nv (by rw [hisz];exact n1) n2 (by omega) (by unfold maxLen at hmax;omega) (growslice_fits (by omega) (by rw [hib];exact hby))
    exact ⟨_,_,hr,fresh _ _ hcurl hcurlt hge hcm⟩
end
end Go.Proofs.YtceknlcbfomdhaaGreatDoor
