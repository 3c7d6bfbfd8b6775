/- Texts of this claim, one behind the other (merged by a program of mine). -/
import Derived.WalkKit
import Derived.WalkSpells
import Derived.WalkLawsBesides
import Derived.Lib.Hide
import Derived.Lib.ItoaNum
import Derived.Laws.AppendOwn
import Derived.Laws.MakeOwn
import Derived.Laws.CopyRow
import Derived.Orders
import Derived.Below
set_option linter.unusedSimpArgs false
set_option linter.unusedVariables false
namespace Go.Proofs.YtbliejnpjpnahaaGreatDoor
open Go.RowKit
set_option linter.unusedVariables false
set_option maxRecDepth 100000
theorem bCe {x d:Int} (h0:0≤x):x.tdiv d=x / d:=Int.tdiv_eq_ediv_of_nonneg h0
end Go.Proofs.YtbliejnpjpnahaaGreatDoor
namespace Go.Proofs.YtbliejnpjpnahaaGreatDoor
structure aYe where
 g:Nat
 p:World→Prop
 stay : ∀ w w':World,w'.heap[g]? = w.heap[g]? → p w→p w'
def bD2 (g:Nat) (l:List Value):aYe:=⟨g,fun w => ∃ t f,w.heap[g]? = some (.cells l.toArray t f),fun w w' h ⟨t,f,e⟩=>⟨t,f,h.trans e⟩⟩
def bA6 (g:Nat):aYe:=⟨g,fun w => ∃ tp p t f,w.heap[g]? = some (.cells #[.iface tp p] t f),fun w w' h ⟨tp,p,t,f,e⟩=>⟨tp,p,t,f,h.trans e⟩⟩
def aQd:List aYe:=[bD2 1 (Lib.pow10Tab.map fun z=>Value.int .u64 z),bA6 5,bA6 4]
end Go.Proofs.YtbliejnpjpnahaaGreatDoor
namespace Go.Proofs.YtbliejnpjpnahaaGreatDoor
open Go.RowKit
set_option linter.unusedVariables false
set_option maxRecDepth 100000
inductive DV where
 | v (x:Value)
 | sl (es:List (List DV))
 | mp (f:Int→List (List Int))
inductive AV where
 | d (x:DV)
 | agg (cs:List AV)
 | tup (cs:List AV)
 | ref (cs:List DV)
 | ptr (k f n i j:Nat)
 | own (k f n:Nat)
 | fn (g:FuncId) (cap:List AV)
 | dead
inductive aX where
 | data (es:List (List DV))
 | av (es:List (List AV))
def aX.len:aX→Nat
 | .data es=>es.length
 | .av es=>es.length
def aX.get:aX→Nat→Option (List AV)
 | .data es,i=>(es[i]?).map (List.map AV.d)
 | .av es,i=>es[i]?
structure jR where
 ty:TypeId
 sz:Nat
 cs:aX
inductive fA where
 | no
 | dead
 | live (l:List jR)
abbrev dG:=Nat→fA
def lv (h:dG) (k f:Nat):Option jR :=
 match h k with
 | .live l=>l[f]?
 | _=>none
abbrev bJ:=Nat→Nat→Option Nat
def bCl (es:Array MapEntry) (k:Int) (v:Value):Prop:=(∃ i,Instr.findNow (.int .i64) (.int .i64 k) es.toList 0=some (some (i,v)))∨(Instr.findNow (.int .i64) (.int .i64 k) es.toList 0=some none∧v = .slice none 0 0)
def bB3 (l:List (List Int)):List (List DV):=l.map fun r=>[.sl (r.map fun x=>[.v (.int .i64 x)])]
inductive xV (w:World) (F:Nat→Prop):Value→DV→Prop
 | v (x:Value) (h1:x.oneCell'=true):xV w F x (.v x)
 | nil:xV w F (.slice none 0 0) (.sl [])
 | emp (A:Option Addr) (c:Nat) (hm:c≤maxLen):xV w F (.slice A 0 c) (.sl [])
 | sl (b off c sz:Nat) (es:List (List DV)) (g:Nat→Nat→Value) (hF:F b) (hc:es.length≤c) (hm:c≤maxLen)
   (hz : ∀ (i:Nat) (e:List DV),es[i]? = some e→e.length=sz)
   (hg : ∀ (i:Nat) (e:List DV) (j:Nat) (x:DV),es[i]? = some e→e[j]? = some x→w.cell? ⟨b,off+i*sz+j,none⟩=some (g i j))
   (hr : ∀ (i:Nat) (e:List DV) (j:Nat) (x:DV),es[i]? = some e→e[j]? = some x→xV w F (g i j) x) :
   xV w F (.slice (some ⟨b,off,none⟩) es.length c) (.sl es)
 | mp (b clock:Nat) (es:Array MapEntry) (f:Int→List (List Int)) (g:Int→Value) (hF:F b) (hb:w.heap[b]? = some (.map es clock)) (hk : ∀ k:Int, -9223372036854775808≤k→k≤9223372036854775807→bCl es k (g k))
   (hr : ∀ k:Int, -9223372036854775808≤k→k≤9223372036854775807→xV w F (g k) (.sl (bB3 (f k)))):xV w F (.map (some b)) (.mp f)
theorem xV.mono {w w':World} {F F':Nat→Prop} (hw : ∀ b,F b→w'.heap[b]? = w.heap[b]?) (hF : ∀ b,F b→F' b) {v:Value} {x:DV} (h:xV w F v x):xV w' F' v x:=by
 induction h with
 | v x h1=>exact .v x h1
 | nil=>exact .nil
 | emp A c hm=>exact .emp A c hm
 | sl b off c sz es g hb hc hm hz hg hr ih =>
  exact .sl b off c sz es g (hF b hb) hc hm hz (fun i e j x h1 h2=>(World.cell?_of_block (hw b hb)).trans (hg i e j x h1 h2)) ih
 | mp b clock es f g hb he hk hr ih=>exact .mp b clock es f g (hF b hb) ((hw b hb).trans he) hk ih
def bAv (w:World) (p:Option Nat) (o:jR) (n:Nat) (v:Value):Prop :=
 (p=none∧n=0∧v = .slice none 0 0) ∨
 ∃ b c cur,p=some b∧v = .slice (some ⟨b,0,none⟩) n c∧w.heap[b]? = some (.cells cur o.ty (0,0))∧cur.size=c*o.sz∧n≤c∧c≤maxLen
inductive eP (w:World) (F:Nat→Prop) (μ:bJ) (h:dG):Value→AV→Prop
 | d (v:Value) (x:DV) (hd:xV w F v x):eP w F μ h v (.d x)
 | agg (vs:Array Value) (cs:List AV) (hs:vs.size=cs.length) (hr : ∀ (i:Nat) (v:Value) (c:AV),vs[i]? = some v→cs[i]? = some c→eP w F μ h v c):eP w F μ h (.agg vs) (.agg cs)
 | tup (vs:Array Value) (cs:List AV) (hs:vs.size=cs.length) (hr : ∀ (i:Nat) (v:Value) (c:AV),vs[i]? = some v→cs[i]? = some c→eP w F μ h v c):eP w F μ h (.tuple vs) (.tup cs)
 | ref (b off:Nat) (cs:List DV) (g:Nat→Value) (hF:F b) (hg : ∀ (j:Nat) (x:DV),cs[j]? = some x→w.cell? ⟨b,off+j,none⟩=some (g j)) (hr : ∀ (j:Nat) (x:DV),cs[j]? = some x→xV w F (g j) x) :
   eP w F μ h (.pointer (some ⟨b,off,none⟩)) (.ref cs)
 | ptr (v:Value) (k f n i j:Nat) (h1:v.oneCell'=true) (hb:h k ≠ .no) (hv : ∀ o,lv h k f=some o→n≤o.cs.len∧(o.cs.len=n → ∃ b, μ k f=some b∧v = .pointer (some ⟨b,i*o.sz+j,none⟩))) :
   eP w F μ h v (.ptr k f n i j)
 | own (v:Value) (k f n:Nat) (h1:v.oneCell'=true) (hb:h k ≠ .no) (hv : ∀ o,lv h k f=some o→n≤o.cs.len∧(o.cs.len=n→bAv w (μ k f) o n v)):eP w F μ h v (.own k f n)
 | fn (g:FuncId) (vs:Array Value) (cs:List AV) (hs:vs.size=cs.length) (hr : ∀ (i:Nat) (v:Value) (c:AV),vs[i]? = some v→cs[i]? = some c→eP w F μ h v c):eP w F μ h (.func (.func g) #[] vs) (.fn g cs)
 | dead (v:Value):eP w F μ h v .dead
structure Evo (w:World) (F:Nat→Prop) (μ:bJ) (h:dG) (w':World) (F':Nat→Prop) (μ':bJ) (h':dG):Prop where
 fr : ∀ b,F b→w'.heap[b]? = w.heap[b]?
 fs : ∀ b,F b→F' b
 born : ∀ k,h k ≠ .no→h' k ≠ .no
 live : ∀ k f o',h k ≠ .no→lv h' k f=some o' → ∃ o,lv h k f=some o∧(o.cs.len<o'.cs.len ∨
  (o.cs.len=o'.cs.len∧o.sz=o'.sz∧μ' k f=μ k f ∧ ∀ b cur, μ k f=some b→w.heap[b]? = some (.cells cur o.ty (0,0)) → ∃ cur',w'.heap[b]? = some (.cells cur' o'.ty (0,0))∧cur'.size=cur.size))
theorem eP.evo {w w':World} {F F':Nat→Prop} {μ μ':bJ} {h h':dG} (E:Evo w F μ h w' F' μ' h') {v:Value} {a:AV} (r:eP w F μ h v a):eP w' F' μ' h' v a:=by
 induction r with
 | d v x hd=>exact .d v x (hd.mono E.fr E.fs)
 | agg vs cs hs hr ih=>exact .agg vs cs hs ih
 | tup vs cs hs hr ih=>exact .tup vs cs hs ih
 | ref b off cs g hF hg hr=>exact .ref b off cs g (E.fs b hF) (fun j x hx=>(World.cell?_of_block (E.fr b hF)).trans (hg j x hx)) (fun j x hx=>(hr j x hx).mono E.fr E.fs)
 | ptr v k f n i j h1 hb hv =>
  refine .ptr v k f n i j h1 (E.born k hb) fun o' ho' => ?_
  obtain ⟨o,ho,hlt | ⟨hl,hz,hm,_⟩⟩:=E.live k f o' hb ho'
  ·have:=(hv o ho).1
   exact ⟨by omega,fun he=>absurd he (by omega)⟩
  ·rw [← hl, ← hz,hm]
   exact hv o ho
 | own v k f n h1 hb hv =>
  refine .own v k f n h1 (E.born k hb) fun o' ho' => ?_
  obtain ⟨o,ho,hlt | ⟨hl,hz,hm,hcur⟩⟩:=E.live k f o' hb ho'
  ·have:=(hv o ho).1
   exact ⟨by omega,fun he=>absurd he (by omega)⟩
  ·refine ⟨by rw [← hl];exact (hv o ho).1,fun he => ?_⟩
   rcases (hv o ho).2 (hl.trans he) with ⟨h1,h2,h3⟩ | ⟨b,c,cur,h1,h2,h3,h4,h5,h6⟩
   ·exact .inl ⟨hm.trans h1,h2,h3⟩
   ·obtain ⟨cur',h7,h8⟩:=hcur b cur h1 h3
    exact .inr ⟨b,c,cur',hm.trans h1,h2,h7,by rw [h8,h4,hz],h5,h6⟩
 | fn g vs cs hs hr ih=>exact .fn g vs cs hs ih
 | dead v=>exact .dead v
def wK (w:World) (F:Nat→Prop) (μ:bJ) (h:dG) (p:Option Nat) (o:jR):Prop :=
 (p=none∧o.cs.len=0) ∨
 ∃ b cur,p=some b∧w.heap[b]? = some (.cells cur o.ty (0,0)) ∧
  ∀ i cells,o.cs.get i=some cells→cells.length=o.sz ∧ ∀ (j:Nat) (c:AV),cells[j]? = some c → ∃ u,cur[i*o.sz+j]? = some u∧eP w F μ h u c
theorem wK.evo {w w':World} {F F':Nat→Prop} {μ μ':bJ} {h h':dG} (E:Evo w F μ h w' F' μ' h') {p:Option Nat} {o:jR} (hk : ∀ b,p=some b→w'.heap[b]? = w.heap[b]?) (r:wK w F μ h p o):wK w' F' μ' h' p o:=by
 rcases r with r | ⟨b,cur,h1,h2,h3⟩
 ·exact .inl r
 ·refine .inr ⟨b,cur,h1,(hk b h1).trans h2,fun i cells hi=>⟨(h3 i cells hi).1,fun j c hj => ?_⟩⟩
  obtain ⟨u,hu,hr⟩:=(h3 i cells hi).2 j c hj
  exact ⟨u,hu,hr.evo E⟩
def aDi (F:Nat→Prop) (w:World):Prop := ∀ x ∈ aQd,F x.g∧x.p w
theorem aDi.evo {F F':Nat→Prop} {w w':World} (gl:aDi F w) (hw : ∀ b,F b→w'.heap[b]? = w.heap[b]?) (hF : ∀ b,F b→F' b):aDi F' w':=fun x hx=>⟨hF _ (gl x hx).1,x.stay w w' (hw _ (gl x hx).1) (gl x hx).2⟩
structure Env where
 w0:World
 F0:Nat→Prop
 μ0:bJ
 h0:dG
 gl:aDi F0 w0
def bAj (μ:bJ) (h:dG):Nat→Prop:=fun b => ∃ k f o,lv h k f=some o∧μ k f=some b
def Env.O0 (E:Env):Nat→Prop:=bAj E.μ0 E.h0
structure iA (E:Env) (F:Nat→Prop) (μ:bJ) (h:dG) (w:World):Prop where
 ob : ∀ k f o,lv h k f=some o→wK w F μ h (μ k f) o
 inj : ∀ k f o k' f' o' b,lv h k f=some o→lv h k' f'=some o'→μ k f=some b→μ k' f'=some b→k=k'∧f=f'
 sep : ∀ k f o b,lv h k f=some o→μ k f=some b → ¬ F b
 src : ∀ k f o b,lv h k f=some o→μ k f=some b→E.O0 b∨E.w0.heap.size≤b
 fz : ∀ b,F b→b<w.heap.size
 fsrc : ∀ b,F b→E.F0 b∨E.O0 b∨E.w0.heap.size≤b
 ev:Evo E.w0 E.F0 E.μ0 E.h0 w F μ h
 os:w.os=E.w0.os
 tape:w.tape=E.w0.tape
 output:w.output=E.w0.output
 size:E.w0.heap.size≤w.heap.size
 keep : ∀ b,b<E.w0.heap.size → ¬ E.O0 b→w.heap[b]? = E.w0.heap[b]?
theorem iA.glob {E:Env} {F:Nat→Prop} {μ:bJ} {h:dG} {w:World} (H:iA E F μ h w):aDi F w:=E.gl.evo H.ev.fr H.ev.fs
theorem iA.lt {E:Env} {F:Nat→Prop} {μ:bJ} {h:dG} {w:World} (H:iA E F μ h w) {k f:Nat} {o:jR} {b:Nat} (hl:lv h k f=some o) (hm:μ k f=some b):b<w.heap.size:=by
 rcases H.ob k f o hl with ⟨h1,_⟩ | ⟨b',cur,h1,h2,_⟩
 ·rw [hm] at h1;cases h1
 ·rw [hm] at h1
  injection h1 with h1
  subst h1
  exact (Array.getElem?_eq_some_iff.1 h2).1
end Go.Proofs.YtbliejnpjpnahaaGreatDoor
namespace Go.Proofs.YtbliejnpjpnahaaGreatDoor
open Go.RowKit
set_option linter.unusedVariables false
set_option maxRecDepth 100000
def upd (h:dG) (k:Nat) (s:fA):dG:=fun k'=>bif Nat.beq k' k then s else h k'
theorem bR (h:dG) (k:Nat) (s:fA):upd h k s k=s:=by simp [upd]
theorem dE (h:dG) {k k':Nat} (s:fA) (hne:k'≠k):upd h k s k'=h k':=by
 have:Nat.beq k' k=false:=by rw [← Bool.not_eq_true,Nat.beq_eq];exact hne
 simp [upd,this]
def uH (μ:bJ) (k f:Nat) (p:Option Nat):bJ:=fun k' f'=>if k'=k∧f'=f then p else μ k' f'
theorem cE (μ:bJ) (k f:Nat) (p:Option Nat):uH μ k f p k f=p:=by simp [uH]
theorem jY (μ:bJ) {k f k' f':Nat} (p:Option Nat) (hne : ¬ (k'=k∧f'=f)):uH μ k f p k' f'=μ k' f':=by simp [uH,hne]
theorem iX {h:dG} {k:Nat} {l:List jR} (hk:h k = .live l) (f:Nat):lv h k f=l[f]? := by simp [lv,hk]
theorem aMu {h:dG} {k f:Nat} {o:jR} (hl:lv h k f=some o) : ∃ l,h k = .live l∧l[f]? = some o:=by
 unfold lv at hl
 split at hl
 ·rename_i l hk;exact ⟨l,hk,hl⟩
 ·cases hl
theorem aMt {h:dG} {k f:Nat} {o:jR} (hl:lv h k f=some o):h k ≠ .no:=by
 obtain ⟨l,hk,_⟩:=aMu hl
 rw [hk];intro e;cases e
theorem cO (h:dG) (k:Nat) (l:List jR) (f:Nat):lv (upd h k (.live l)) k f=l[f]? := by simp [lv,bR]
theorem eJ (h:dG) {k k':Nat} (s:fA) (f:Nat) (hne:k'≠k):lv (upd h k s) k' f=lv h k' f:=by simp [lv,dE h s hne]
section
variable {E:Env} {F:Nat→Prop} {μ:bJ} {h:dG} {w w':World}
theorem Evo.trans {w'':World} {F' F'':Nat→Prop} {μ' μ'':bJ} {h' h'':dG} (A:Evo w F μ h w' F' μ' h') (B:Evo w' F' μ' h' w'' F'' μ'' h''):Evo w F μ h w'' F'' μ'' h'':=by
 refine ⟨fun b hb=>(B.fr b (A.fs b hb)).trans (A.fr b hb),fun b hb=>B.fs b (A.fs b hb),fun k hb=>B.born k (A.born k hb),fun k f o'' hb ho'' => ?_⟩
 obtain ⟨o',ho',hB⟩:=B.live k f o'' (A.born k hb) ho''
 obtain ⟨o,ho,hA⟩:=A.live k f o' hb ho'
 refine ⟨o,ho,?_⟩
 rcases hA with hA | ⟨a1,a2,a3,a4⟩
 ·rcases hB with hB | ⟨b1,b2,b3,b4⟩
  ·exact .inl (by omega)
  ·exact .inl (by omega)
 ·rcases hB with hB | ⟨b1,b2,b3,b4⟩
  ·exact .inl (by omega)
  ·refine .inr ⟨a1.trans b1,a2.trans b2,b3.trans a3,fun b cur hm hc => ?_⟩
   obtain ⟨c1,hc1,hs1⟩:=a4 b cur hm hc
   obtain ⟨c2,hc2,hs2⟩:=b4 b c1 (a3.trans hm) hc1
   exact ⟨c2,hc2,hs2.trans hs1⟩
theorem iA.same (H:iA E F μ h w) (hh:w'.heap=w.heap) (ho:w'.os=w.os) (ht:w'.tape=w.tape) (hp:w'.output=w.output):iA E F μ h w'∧Evo w F μ h w' F μ h:=by
 have V:Evo w F μ h w' F μ h:=⟨fun b _=>by rw [hh],fun _ hb=>hb,fun _ hb=>hb,fun k f o' hb ho'=>⟨o',ho', .inr ⟨rfl,rfl,rfl,fun b cur _ hc=>⟨cur,by rw [hh];exact hc,rfl⟩⟩⟩⟩
 exact ⟨⟨fun k f o hl=>(H.ob k f o hl).evo V (fun b _=>by rw [hh]),H.inj,H.sep,H.src,fun b hb=>by rw [hh];exact H.fz b hb,H.fsrc,(H.ev.trans V),ho.trans H.os,ht.trans H.tape,hp.trans H.output,by rw [hh];exact H.size,
  fun b h1 h2=>by rw [hh];exact H.keep b h1 h2⟩,V⟩
theorem iA.drew (H:iA E F μ h w):iA E F μ h w.drew∧Evo w F μ h w.drew F μ h:=H.same rfl rfl rfl rfl
theorem iA.alloc (H:iA E F μ h w) (k:Nat) (hk:h k = .no) (o:jR) (cs:Array Value)
  (hcs : ∀ i cells,o.cs.get i=some cells→cells.length=o.sz ∧ ∀ (j:Nat) (c:AV),cells[j]? = some c → ∃ u,cs[i*o.sz+j]? = some u∧eP w F μ h u c) :
  iA E F (uH μ k 0 (some w.heap.size)) (upd h k (.live [o])) (w.alloc (.cells cs o.ty))∧Evo w F μ h (w.alloc (.cells cs o.ty)) F (uH μ k 0 (some w.heap.size)) (upd h k (.live [o])):=by
 have hold : ∀ b,b<w.heap.size→(w.alloc (.cells cs o.ty)).heap[b]? = w.heap[b]? := fun b hb=>Below.heap_alloc w _ b hb
 have V:Evo w F μ h (w.alloc (.cells cs o.ty)) F (uH μ k 0 (some w.heap.size)) (upd h k (.live [o])):=by
  refine ⟨fun b hb=>hold b (H.fz b hb),fun _ hb=>hb,fun k' hb => ?_,fun k' f o' hb ho' => ?_⟩
  ·by_cases e:k'=k
   ·rw [e] at hb;exact absurd hk hb
   ·rw [dE _ _ e];exact hb
  ·have e:k'≠k:=fun e=>by rw [e] at hb;exact hb hk
   rw [eJ _ _ _ e] at ho'
   refine ⟨o',ho', .inr ⟨rfl,rfl,jY _ _ (fun ⟨e',_⟩=>e e'),fun b cur hm hc=>⟨cur,?_,rfl⟩⟩⟩
   rw [hold b (H.lt ho' hm)];exact hc
 have look : ∀ k' f' o',lv (upd h k (.live [o])) k' f'=some o'→(k'=k∧f'=0∧o'=o)∨(k'≠k∧lv h k' f'=some o'):=fun k' f' o' hl=>by
  by_cases e:k'=k
  ·subst e
   rw [cO] at hl
   cases f' with
   | zero=>simp at hl;exact .inl ⟨rfl,rfl,hl.symm⟩
   | succ n=>simp at hl
  ·rw [eJ _ _ _ e] at hl;exact .inr ⟨e,hl⟩
 have hne : ∀ {k' f'},k'≠k→uH μ k 0 (some w.heap.size) k' f'=μ k' f':=fun e=>jY _ _ (fun ⟨e',_⟩=>e e')
 refine ⟨⟨fun k' f' o' hl => ?_,fun k1 f1 o1 k2 f2 o2 b h1 h2 m1 m2 => ?_,fun k' f' o' b hl hm => ?_,fun k' f' o' b hl hm => ?_,fun b hb => ?_,H.fsrc,(H.ev.trans V),H.os,H.tape,H.output,?_,fun b h1 h2 => ?_⟩,V⟩
 ·rcases look k' f' o' hl with ⟨rfl,rfl,rfl⟩ | ⟨e,hl⟩
  ·rw [cE]
   refine .inr ⟨_,cs,rfl,Go.heap_alloc_new w _,fun i cells hi=>⟨(hcs i cells hi).1,fun j c hj => ?_⟩⟩
   obtain ⟨u,hu,hr⟩:=(hcs i cells hi).2 j c hj
   exact ⟨u,hu,hr.evo V⟩
  ·rw [hne e]
   exact (H.ob k' f' o' hl).evo V fun b hm=>hold b (H.lt hl hm)
 ·rcases look _ _ _ h1 with ⟨rfl,rfl,rfl⟩ | ⟨e1,l1⟩
  ·rcases look _ _ _ h2 with ⟨rfl,rfl,rfl⟩ | ⟨e2,l2⟩
   ·exact ⟨rfl,rfl⟩
   ·rw [cE] at m1;rw [hne e2] at m2
    injection m1 with m1
    have:=H.lt l2 m2
    omega
  ·rcases look _ _ _ h2 with ⟨rfl,rfl,rfl⟩ | ⟨e2,l2⟩
   ·rw [cE] at m2;rw [hne e1] at m1
    injection m2 with m2
    have:=H.lt l1 m1
    omega
   ·rw [hne e1] at m1;rw [hne e2] at m2
    exact H.inj _ _ _ _ _ _ b l1 l2 m1 m2
 ·rcases look _ _ _ hl with ⟨rfl,rfl,rfl⟩ | ⟨e,hl⟩
  ·rw [cE] at hm
   injection hm with hm
   intro hb
   have:=H.fz b hb
   omega
  ·rw [hne e] at hm;exact H.sep _ _ _ b hl hm
 ·rcases look _ _ _ hl with ⟨rfl,rfl,rfl⟩ | ⟨e,hl⟩
  ·rw [cE] at hm
   injection hm with hm
   have:=H.size
   exact .inr (by omega)
  ·rw [hne e] at hm;exact H.src _ _ _ b hl hm
 ·have:=H.fz b hb
  simp;omega
 ·have:=H.size
  simp;omega
 ·have:=H.size
  exact (hold b (by omega)).trans (H.keep b h1 h2)
theorem iA.ice (H:iA E F μ h w) (ob:Obj) :
  iA E (fun b=>F b∨b=w.heap.size) μ h (w.alloc ob)∧Evo w F μ h (w.alloc ob) (fun b=>F b∨b=w.heap.size) μ h:=by
 have hold : ∀ b,b<w.heap.size→(w.alloc ob).heap[b]? = w.heap[b]? := fun b hb=>Below.heap_alloc w _ b hb
 have V:Evo w F μ h (w.alloc ob) (fun b=>F b∨b=w.heap.size) μ h:=by
  refine ⟨fun b hb=>hold b (H.fz b hb),fun _ hb => .inl hb,fun _ hb=>hb,fun k f o' hb ho'=>⟨o',ho', .inr ⟨rfl,rfl,rfl,fun b cur hm hc=>⟨cur,?_,rfl⟩⟩⟩⟩
  rw [hold b (H.lt ho' hm)];exact hc
 refine ⟨⟨fun k f o hl=>(H.ob k f o hl).evo V (fun b hm=>hold b (H.lt hl hm)),H.inj,fun k f o b hl hm hb => ?_,H.src,fun b hb => ?_,fun b hb => ?_,(H.ev.trans V),H.os,H.tape,H.output,?_,fun b h1 h2 => ?_⟩,V⟩
 ·rcases hb with hb | hb
  ·exact H.sep _ _ _ b hl hm hb
  ·have:=H.lt hl hm;omega
 ·rcases hb with hb | hb
  ·have:=H.fz b hb;simp;omega
  ·simp;omega
 ·rcases hb with hb | hb
  ·exact H.fsrc b hb
  ·have:=H.size;exact .inr (.inr (by omega))
 ·have:=H.size
  simp;omega
 ·have:=H.size
  exact (hold b (by omega)).trans (H.keep b h1 h2)
theorem iA.put (H:iA E F μ h w) {k f:Nat} {l:List jR} {o o':jR} (hk:h k = .live l) (hf:l[f]? = some o) (b':Nat) (cur':Array Value)
  (hsz:w.heap.size≤w'.heap.size) (hos:w'.os=w.os) (htp:w'.tape=w.tape) (hout:w'.output=w.output)
  (hoth : ∀ b,b<w.heap.size→μ k f≠some b→w'.heap[b]? = w.heap[b]?)
  (hnew:μ k f=some b'∨w.heap.size≤b') (hlt:b'<w'.heap.size) (hcur:w'.heap[b']? = some (.cells cur' o'.ty (0,0)))
  (hlen:o.cs.len<o'.cs.len∨(o.cs.len=o'.cs.len∧o.sz=o'.sz∧o.ty=o'.ty∧μ k f=some b' ∧ ∀ cur,w.heap[b']? = some (.cells cur o.ty (0,0))→cur'.size=cur.size))
  (hcs : ∀ i cells,o'.cs.get i=some cells→cells.length=o'.sz ∧ ∀ (j:Nat) (c:AV),cells[j]? = some c → ∃ u,cur'[i*o'.sz+j]? = some u∧eP w F μ h u c) :
  iA E F (uH μ k f (some b')) (upd h k (.live (l.set f o'))) w'∧Evo w F μ h w' F (uH μ k f (some b')) (upd h k (.live (l.set f o'))):=by
 have hlo:lv h k f=some o:=(iX hk f).trans hf
 have hfl:f<l.length:=(List.getElem?_eq_some_iff.1 hf).1
 have look : ∀ k' f' o1,lv (upd h k (.live (l.set f o'))) k' f'=some o1→(k'=k∧f'=f∧o1=o')∨(¬ (k'=k∧f'=f)∧lv h k' f'=some o1):=fun k' f' o1 hl=>by
  by_cases e:k'=k
  ·subst e
   rw [cO] at hl
   by_cases e2:f'=f
   ·subst e2
    rw [List.getElem?_set_self hfl] at hl
    injection hl with hl
    exact .inl ⟨rfl,rfl,hl.symm⟩
   ·rw [List.getElem?_set_ne (fun e=>e2 e.symm)] at hl
    exact .inr ⟨fun ⟨_,e3⟩=>e2 e3,(iX hk f').trans hl⟩
  ·rw [eJ _ _ _ e] at hl;exact .inr ⟨fun ⟨e3,_⟩=>e e3,hl⟩
 have other : ∀ {k' f' o1 b}, ¬ (k'=k∧f'=f)→lv h k' f'=some o1→μ k' f'=some b→w'.heap[b]? = w.heap[b]? := fun hne hl hm =>
  hoth _ (H.lt hl hm) (fun e=>hne (H.inj _ _ _ _ _ _ _ hl hlo hm e))
 have frz : ∀ b,F b→w'.heap[b]? = w.heap[b]? := fun b hb=>hoth b (H.fz b hb) (fun e=>H.sep _ _ _ b hlo e hb)
 have V:Evo w F μ h w' F (uH μ k f (some b')) (upd h k (.live (l.set f o'))):=by
  refine ⟨frz,fun _ hb=>hb,fun k' hb => ?_,fun k' f' o1 hb ho1 => ?_⟩
  ·by_cases e:k'=k
   ·subst e;rw [bR];intro e;cases e
   ·rw [dE _ _ e];exact hb
  ·rcases look _ _ _ ho1 with ⟨rfl,rfl,rfl⟩ | ⟨hne,hl⟩
   ·refine ⟨o,hlo,hlen.imp id fun ⟨a1,a2,a3,a4,a5⟩=>⟨a1,a2,by rw [cE,a4],fun b cur hm hc => ?_⟩⟩
    rw [a4] at hm
    injection hm with hm
    subst hm
    exact ⟨cur',hcur,a5 cur hc⟩
   ·refine ⟨o1,hl, .inr ⟨rfl,rfl,jY _ _ hne,fun b cur hm hc=>⟨cur,?_,rfl⟩⟩⟩
    rw [other hne hl hm];exact hc
 refine ⟨⟨fun k' f' o1 hl => ?_,fun k1 f1 o1 k2 f2 o2 b h1 h2 m1 m2 => ?_,fun k' f' o1 b hl hm => ?_,fun k' f' o1 b hl hm => ?_,fun b hb => ?_,H.fsrc,(H.ev.trans V),hos.trans H.os,htp.trans H.tape,hout.trans H.output,?_,fun b h1 h2 => ?_⟩,V⟩
 ·rcases look _ _ _ hl with ⟨rfl,rfl,rfl⟩ | ⟨hne,hl⟩
  ·rw [cE]
   refine .inr ⟨b',cur',rfl,hcur,fun i cells hi=>⟨(hcs i cells hi).1,fun j c hj => ?_⟩⟩
   obtain ⟨u,hu,hr⟩:=(hcs i cells hi).2 j c hj
   exact ⟨u,hu,hr.evo V⟩
  ·rw [jY _ _ hne]
   exact (H.ob _ _ _ hl).evo V fun b hm=>other hne hl hm
 ·have two : ∀ {k' f' o1}, ¬ (k'=k∧f'=f)→lv h k' f'=some o1→μ k' f'=some b→b≠b':=fun hne hl hm e=>by
   rcases hnew with e2 | e2
   ·subst e;exact hne (H.inj _ _ _ _ _ _ _ hl hlo hm e2)
   ·have:=H.lt hl hm;omega
  rcases look _ _ _ h1 with ⟨rfl,rfl,rfl⟩ | ⟨e1,l1⟩
  ·rcases look _ _ _ h2 with ⟨rfl,rfl,rfl⟩ | ⟨e2,l2⟩
   ·exact ⟨rfl,rfl⟩
   ·rw [cE] at m1;rw [jY _ _ e2] at m2
    injection m1 with m1
    exact absurd m1.symm (two e2 l2 m2)
  ·rcases look _ _ _ h2 with ⟨rfl,rfl,rfl⟩ | ⟨e2,l2⟩
   ·rw [cE] at m2;rw [jY _ _ e1] at m1
    injection m2 with m2
    exact absurd m2.symm (two e1 l1 m1)
   ·rw [jY _ _ e1] at m1;rw [jY _ _ e2] at m2
    exact H.inj _ _ _ _ _ _ b l1 l2 m1 m2
 ·rcases look _ _ _ hl with ⟨rfl,rfl,rfl⟩ | ⟨hne,hl⟩
  ·rw [cE] at hm
   injection hm with hm
   subst hm
   rcases hnew with e2 | e2
   ·exact H.sep _ _ _ _ hlo e2
   ·intro hb;have:=H.fz _ hb;omega
  ·rw [jY _ _ hne] at hm;exact H.sep _ _ _ b hl hm
 ·rcases look _ _ _ hl with ⟨rfl,rfl,rfl⟩ | ⟨hne,hl⟩
  ·rw [cE] at hm
   injection hm with hm
   subst hm
   rcases hnew with e2 | e2
   ·exact H.src _ _ _ _ hlo e2
   ·have:=H.size;exact .inr (by omega)
  ·rw [jY _ _ hne] at hm;exact H.src _ _ _ b hl hm
 ·have:=H.fz b hb;omega
 ·have:=H.size;omega
 ·by_cases e:μ k f=some b
  ·rcases H.src _ _ _ _ hlo e with h3 | h3
   ·exact absurd h3 h2
   ·omega
  ·have:=H.size
   exact (hoth b (by omega) e).trans (H.keep b h1 h2)
theorem iA.drop (H:iA E F μ h w) (k:Nat) (hk:h k ≠ .no):iA E F μ (upd h k .dead) w∧Evo w F μ h w F μ (upd h k .dead):=by
 have look : ∀ k' f' o1,lv (upd h k .dead) k' f'=some o1→lv h k' f'=some o1:=fun k' f' o1 hl=>by
  by_cases e:k'=k
  ·subst e;simp [lv,bR] at hl
  ·rwa [eJ _ _ _ e] at hl
 have V:Evo w F μ h w F μ (upd h k .dead):=by
  refine ⟨fun _ _=>rfl,fun _ hb=>hb,fun k' hb => ?_,fun k' f' o1 hb ho1=>⟨o1,look _ _ _ ho1, .inr ⟨rfl,rfl,rfl,fun b cur _ hc=>⟨cur,hc,rfl⟩⟩⟩⟩
  by_cases e:k'=k
  ·subst e;rw [bR];intro e;cases e
  ·rw [dE _ _ e];exact hb
 exact ⟨⟨fun k' f' o1 hl=>(H.ob _ _ _ (look _ _ _ hl)).evo V (fun _ _=>rfl),fun k1 f1 o1 k2 f2 o2 b h1 h2=>H.inj _ _ _ _ _ _ b (look _ _ _ h1) (look _ _ _ h2),fun k' f' o1 b hl=>H.sep _ _ _ b (look _ _ _ hl),
  fun k' f' o1 b hl=>H.src _ _ _ b (look _ _ _ hl),H.fz,H.fsrc,(H.ev.trans V),H.os,H.tape,H.output,H.size,H.keep⟩,V⟩
theorem iA.adopt (H:iA E F μ h w) (k:Nat) (hk:h k = .no) (o:jR) (ho:o.cs.len=0):iA E F (uH μ k 0 none) (upd h k (.live [o])) w∧Evo w F μ h w F (uH μ k 0 none) (upd h k (.live [o])):=by
 have look : ∀ k' f' o',lv (upd h k (.live [o])) k' f'=some o'→(k'=k∧f'=0∧o'=o)∨(k'≠k∧lv h k' f'=some o'):=fun k' f' o' hl=>by
  by_cases e:k'=k
  ·subst e
   rw [cO] at hl
   cases f' with
   | zero=>simp at hl;exact .inl ⟨rfl,rfl,hl.symm⟩
   | succ n=>simp at hl
  ·rw [eJ _ _ _ e] at hl;exact .inr ⟨e,hl⟩
 have hne : ∀ {k' f'},k'≠k→uH μ k 0 none k' f'=μ k' f':=fun e=>jY _ _ (fun ⟨e',_⟩=>e e')
 have V:Evo w F μ h w F (uH μ k 0 none) (upd h k (.live [o])):=by
  refine ⟨fun _ _=>rfl,fun _ hb=>hb,fun k' hb => ?_,fun k' f o' hb ho' => ?_⟩
  ·by_cases e:k'=k
   ·rw [e] at hb;exact absurd hk hb
   ·rw [dE _ _ e];exact hb
  ·have e:k'≠k:=fun e=>by rw [e] at hb;exact hb hk
   rw [eJ _ _ _ e] at ho'
   exact ⟨o',ho', .inr ⟨rfl,rfl,hne e,fun b cur _ hc=>⟨cur,hc,rfl⟩⟩⟩
 have real : ∀ {k' f' o' b},lv (upd h k (.live [o])) k' f'=some o'→uH μ k 0 none k' f'=some b→lv h k' f'=some o'∧μ k' f'=some b:=fun hl hm=>by
  rcases look _ _ _ hl with ⟨rfl,rfl,rfl⟩ | ⟨e,hl⟩
  ·rw [cE] at hm;cases hm
  ·rw [hne e] at hm;exact ⟨hl,hm⟩
 refine ⟨⟨fun k' f' o' hl => ?_,fun k1 f1 o1 k2 f2 o2 b h1 h2 m1 m2=>H.inj _ _ _ _ _ _ b (real h1 m1).1 (real h2 m2).1 (real h1 m1).2 (real h2 m2).2,fun k' f' o' b hl hm=>H.sep _ _ _ b (real hl hm).1 (real hl hm).2,
  fun k' f' o' b hl hm=>H.src _ _ _ b (real hl hm).1 (real hl hm).2,H.fz,H.fsrc,(H.ev.trans V),H.os,H.tape,H.output,H.size,H.keep⟩,V⟩
 rcases look _ _ _ hl with ⟨rfl,rfl,rfl⟩ | ⟨e,hl⟩
 ·exact .inl ⟨cE _ _ _ _,ho⟩
 ·rw [hne e];exact (H.ob _ _ _ hl).evo V (fun _ _=>rfl)
end
end Go.Proofs.YtbliejnpjpnahaaGreatDoor
namespace Go.Proofs.YtbliejnpjpnahaaGreatDoor
open Go.RowKit
set_option linter.unusedVariables false
set_option maxRecDepth 100000
mutual
def AV.ren (ι:Nat→Nat):AV→AV
 | .d x => .d x
 | .agg cs => .agg (AV.renL ι cs)
 | .tup cs => .tup (AV.renL ι cs)
 | .ref cs => .ref cs
 | .ptr k f n i j => .ptr (ι k) f n i j
 | .own k f n => .own (ι k) f n
 | .fn g cs => .fn g (AV.renL ι cs)
 | .dead => .dead
def AV.renL (ι:Nat→Nat):List AV→List AV
 | []=>[]
 | c :: cs=>c.ren ι :: AV.renL ι cs
end
theorem pB (ι:Nat→Nat) : ∀ (cs:List AV) (i:Nat),(AV.renL ι cs)[i]? = (cs[i]?).map (AV.ren ι)
 | [],i=>by simp [AV.renL]
 | c :: cs,0=>by simp [AV.renL]
 | c :: cs,i+1=>by simp [AV.renL,pB ι cs i]
theorem pC (ι:Nat→Nat) : ∀ (cs:List AV),(AV.renL ι cs).length=cs.length
 | []=>rfl
 | c :: cs=>by simp [AV.renL,pC ι cs]
theorem aX4 (ι:Nat→Nat) : ∀ (xs:List DV),AV.renL ι (xs.map .d)=xs.map .d
 | []=>rfl
 | x :: xs=>by simp [AV.renL,AV.ren,aX4 ι xs]
def aX.ren (ι:Nat→Nat):aX→aX
 | .data es => .data es
 | .av es => .av (es.map (AV.renL ι))
theorem aX.ren_len (ι:Nat→Nat) (c:aX):(c.ren ι).len=c.len:=by cases c <;> simp [aX.ren,aX.len]
theorem aX.ren_get (ι:Nat→Nat) (c:aX) (i:Nat):(c.ren ι).get i=(c.get i).map (AV.renL ι):=by
 cases c with
 | data es=>simp only [aX.ren,aX.get];cases es[i]? <;> simp [aX4]
 | av es=>simp [aX.ren,aX.get]
def jR.ren (ι:Nat→Nat) (o:jR):jR:=⟨o.ty,o.sz,o.cs.ren ι⟩
def fA.ren (ι:Nat→Nat):fA→fA
 | .no => .no
 | .dead => .dead
 | .live l => .live (l.map (jR.ren ι))
structure Ren (ι:Nat→Nat) (μ:bJ) (h:dG) (μ':bJ) (h':dG):Prop where
 h : ∀ p,h' (ι p)=(h p).ren ι
 m : ∀ p f, μ' (ι p) f=μ p f
theorem Ren.lv_ {ι:Nat→Nat} {μ μ':bJ} {h h':dG} (R:Ren ι μ h μ' h') (p f:Nat):lv h' (ι p) f=(lv h p f).map (jR.ren ι):=by
 unfold lv
 rw [R.h p]
 cases h p <;> simp [fA.ren]
theorem Ren.no_ {ι:Nat→Nat} {μ μ':bJ} {h h':dG} (R:Ren ι μ h μ' h') (p:Nat):h' (ι p) = .no ↔ h p = .no:=by
 rw [R.h p]
 cases h p <;> simp [fA.ren]
theorem eP.ren {ι:Nat→Nat} {μ μ':bJ} {h h':dG} (R:Ren ι μ h μ' h') {w:World} {F:Nat→Prop} {v:Value} {a:AV} (r:eP w F μ h v a):eP w F μ' h' v (a.ren ι):=by
 induction r with
 | d v x hd=>exact .d v x hd
 | agg vs cs hs hr ih =>
  refine .agg vs _ (by rw [hs,pC]) fun i v c hv hc => ?_
  rw [pB] at hc
  obtain ⟨c',hc',rfl⟩:=Option.map_eq_some_iff.1 hc
  exact ih i v c' hv hc'
 | tup vs cs hs hr ih =>
  refine .tup vs _ (by rw [hs,pC]) fun i v c hv hc => ?_
  rw [pB] at hc
  obtain ⟨c',hc',rfl⟩:=Option.map_eq_some_iff.1 hc
  exact ih i v c' hv hc'
 | ref b off cs g hF hg hr=>exact .ref b off cs g hF hg hr
 | ptr v k f n i j h1 hb hv =>
  refine .ptr v _ f n i j h1 (fun e=>hb ((R.no_ k).1 e)) fun o' ho' => ?_
  rw [R.lv_] at ho'
  obtain ⟨o,ho,rfl⟩:=Option.map_eq_some_iff.1 ho'
  rw [R.m]
  simpa [jR.ren,aX.ren_len] using hv o ho
 | own v k f n h1 hb hv =>
  refine .own v _ f n h1 (fun e=>hb ((R.no_ k).1 e)) fun o' ho' => ?_
  rw [R.lv_] at ho'
  obtain ⟨o,ho,rfl⟩:=Option.map_eq_some_iff.1 ho'
  rw [R.m]
  simpa [jR.ren,aX.ren_len,bAv] using hv o ho
 | fn g vs cs hs hr ih =>
  refine .fn g vs _ (by rw [hs,pC]) fun i v c hv hc => ?_
  rw [pB] at hc
  obtain ⟨c',hc',rfl⟩:=Option.map_eq_some_iff.1 hc
  exact ih i v c' hv hc'
 | dead v=>exact .dead v
theorem eP.unren {ι:Nat→Nat} {μ μ':bJ} {h h':dG} (R:Ren ι μ h μ' h') {w:World} {F:Nat→Prop} {v:Value} {b:AV} (r:eP w F μ' h' v b) : ∀ a:AV,b=a.ren ι→eP w F μ h v a:=by
 induction r with
 | d v x hd=>intro a e;cases a <;> simp [AV.ren] at e;subst e;exact .d v _ hd
 | agg vs cs hs hr ih =>
  intro a e
  cases a <;> simp [AV.ren] at e
  rename_i cs'
  subst e
  refine .agg vs _ (by rw [hs,pC]) fun i v c hv hc=>ih i v _ hv (by rw [pB,hc];rfl) c rfl
 | tup vs cs hs hr ih =>
  intro a e
  cases a <;> simp [AV.ren] at e
  rename_i cs'
  subst e
  refine .tup vs _ (by rw [hs,pC]) fun i v c hv hc=>ih i v _ hv (by rw [pB,hc];rfl) c rfl
 | ref b off cs g hF hg hr=>intro a e;cases a <;> simp [AV.ren] at e;subst e;exact .ref b off _ g hF hg hr
 | ptr v k f n i j h1 hb hv =>
  intro a e
  cases a <;> simp [AV.ren] at e
  rename_i k' f' n' i' j'
  obtain ⟨rfl,rfl,rfl,rfl,rfl⟩:=e
  refine .ptr v k' _ _ _ _ h1 (fun e=>hb ((R.no_ k').2 e)) fun o ho => ?_
  have:=hv (o.ren ι) (by rw [R.lv_,ho];rfl)
  rw [R.m] at this
  simpa [jR.ren,aX.ren_len] using this
 | own v k f n h1 hb hv =>
  intro a e
  cases a <;> simp [AV.ren] at e
  rename_i k' f' n'
  obtain ⟨rfl,rfl,rfl⟩:=e
  refine .own v k' _ _ h1 (fun e=>hb ((R.no_ k').2 e)) fun o ho => ?_
  have:=hv (o.ren ι) (by rw [R.lv_,ho];rfl)
  rw [R.m] at this
  simpa [jR.ren,aX.ren_len,bAv] using this
 | fn g vs cs hs hr ih =>
  intro a e
  cases a <;> simp [AV.ren] at e
  rename_i g' cs'
  obtain ⟨rfl,rfl⟩:=e
  refine .fn _ vs _ (by rw [hs,pC]) fun i v c hv hc=>ih i v _ hv (by rw [pB,hc];rfl) c rfl
 | dead v=>intro a e;cases a <;> simp [AV.ren] at e;exact .dead v
def DV.flat:DV→Bool
 | .v _=>true
 | .sl _=>false
 | .mp _=>false
mutual
def AV.flat:AV→Bool
 | .d x=>x.flat
 | .agg cs=>AV.flatL cs
 | .tup cs=>AV.flatL cs
 | .ref _=>false
 | .fn _ cs=>AV.flatL cs
 | _=>true
def AV.flatL:List AV→Bool
 | []=>true
 | c :: cs=>c.flat && AV.flatL cs
end
theorem wP : ∀ {cs:List AV},AV.flatL cs=true → ∀ {i:Nat} {c:AV},cs[i]? = some c→c.flat=true
 | [],_,i,c,hc=>by simp at hc
 | x :: cs,h,0,c,hc=>by simp [AV.flatL] at h hc;rw [← hc];exact h.1
 | x :: cs,h,i+1,c,hc=>by simp [AV.flatL] at h hc;exact wP h.2 hc
theorem eP.reF {w:World} {F F':Nat→Prop} {μ:bJ} {h:dG} {v:Value} {a:AV} (r:eP w F μ h v a):a.flat=true→eP w F' μ h v a:=by
 induction r with
 | d v x hd =>
  intro hf
  cases x with
  | v x=>cases hd with | v _ h1=>exact .d _ _ (.v _ h1)
  | sl es=>simp [AV.flat,DV.flat] at hf
  | mp f=>simp [AV.flat,DV.flat] at hf
 | agg vs cs hs hr ih=>intro hf;exact .agg vs cs hs fun i v c hv hc=>ih i v c hv hc (wP (by simpa [AV.flat] using hf) hc)
 | tup vs cs hs hr ih=>intro hf;exact .tup vs cs hs fun i v c hv hc=>ih i v c hv hc (wP (by simpa [AV.flat] using hf) hc)
 | ref b off cs g hF hg hr=>intro hf;simp [AV.flat] at hf
 | ptr v k f n i j h1 hb hv=>intro _;exact .ptr v k f n i j h1 hb hv
 | own v k f n h1 hb hv=>intro _;exact .own v k f n h1 hb hv
 | fn g vs cs hs hr ih=>intro hf;exact .fn g vs cs hs fun i v c hv hc=>ih i v c hv hc (wP (by simpa [AV.flat] using hf) hc)
 | dead v=>intro _;exact .dead v
def aX.flat:aX→Prop
 | .data es => ∀ e ∈ es, ∀ x ∈ e,DV.flat x=true
 | .av es => ∀ e ∈ es,AV.flatL e=true
theorem aRv {c:aX} (hf:c.flat) {i:Nat} {cells:List AV} (hi:c.get i=some cells) {j:Nat} {a:AV} (hj:cells[j]? = some a):a.flat=true:=by
 cases c with
 | data es =>
  simp only [aX.get] at hi
  obtain ⟨e,he,rfl⟩:=Option.map_eq_some_iff.1 hi
  simp only [List.getElem?_map] at hj
  obtain ⟨x,hx,rfl⟩:=Option.map_eq_some_iff.1 hj
  exact hf e (List.mem_of_getElem? he) x (List.mem_of_getElem? hx)
 | av es=>exact wP (hf cells (List.mem_of_getElem? hi)) hj
inductive sM (h:dG):AV→AV→Prop
 | d (x:DV):sM h (.d x) (.d x)
 | agg (cs ds:List AV) (hl:cs.length=ds.length) (hv : ∀ (i:Nat) (c d:AV),cs[i]? = some c→ds[i]? = some d→sM h c d):sM h (.agg cs) (.agg ds)
 | tup (cs ds:List AV) (hl:cs.length=ds.length) (hv : ∀ (i:Nat) (c d:AV),cs[i]? = some c→ds[i]? = some d→sM h c d):sM h (.tup cs) (.tup ds)
 | fn (g:FuncId) (cs ds:List AV) (hl:cs.length=ds.length) (hv : ∀ (i:Nat) (c d:AV),cs[i]? = some c→ds[i]? = some d→sM h c d):sM h (.fn g cs) (.fn g ds)
 | ref (cs ds:List DV) (hp : ∀ (j:Nat) (x:DV),ds[j]? = some x→cs[j]? = some x):sM h (.ref cs) (.ref ds)
 | row (k f n:Nat) (o:jR) (ds:List (List DV)) (ho:lv h k f=some o) (hn:o.cs.len=n) (hd:ds.length=n)
   (hc : ∀ (i:Nat) (e:List DV),ds[i]? = some e → ∃ cells,o.cs.get i=some cells∧cells.length=e.length)
   (hv : ∀ (i:Nat) (e:List DV) (cells:List AV) (j:Nat) (c:AV) (x:DV),ds[i]? = some e→o.cs.get i=some cells→cells[j]? = some c→e[j]? = some x→sM h c (.d x)) :
   sM h (.own k f n) (.d (.sl ds))
 | ptr (k f n i j:Nat) (o:jR) (cells:List AV) (ds:List DV) (ho:lv h k f=some o) (hn:o.cs.len=n) (hi:o.cs.get i=some cells) (hl:ds.length≤cells.length-j)
   (hv : ∀ (t:Nat) (c:AV) (x:DV),cells[j+t]? = some c→ds[t]? = some x→sM h c (.d x)):sM h (.ptr k f n i j) (.ref ds)
theorem sM.data {h:dG} {k f n:Nat} {o:jR} {es:List (List DV)} (ho:lv h k f=some o) (hc:o.cs = .data es) (hn:es.length=n):sM h (.own k f n) (.d (.sl es)):=by
 refine .row k f n o es ho (by rw [hc];exact hn) hn (fun i e he=>⟨e.map .d,by rw [hc];simp [aX.get,he],by simp⟩) fun i e cells j c x he hi hj hx => ?_
 rw [hc] at hi
 simp only [aX.get,he,Option.map_some,Option.some.injEq] at hi
 subst hi
 simp only [List.getElem?_map,hx,Option.map_some,Option.some.injEq] at hj
 subst hj
 exact .d x
theorem eP.view {E:Env} {F:Nat→Prop} {μ:bJ} {h:dG} {w:World} (H:iA E F μ h w) {μ2:bJ} {h2:dG} {a a':AV} (V:sM h a a') :
  ∀ v,eP w F μ h v a→eP w (fun b=>F b∨bAj μ h b) μ2 h2 v a':=by
 induction V with
 | d x=>intro v r;cases r with | d v x hd=>exact .d v x (hd.mono (fun _ _=>rfl) (fun _ => .inl))
 | agg cs ds hl hv ih =>
  intro v r
  cases r with | agg vs cs hs hr =>
  refine .agg vs ds (hs.trans hl) fun i v d hi hd => ?_
  have hlt:i<ds.length:=(List.getElem?_eq_some_iff.1 hd).1
  exact ih i _ d (List.getElem?_eq_getElem (by omega)) hd v (hr i v _ hi (List.getElem?_eq_getElem (by omega)))
 | tup cs ds hl hv ih =>
  intro v r
  cases r with | tup vs cs hs hr =>
  refine .tup vs ds (hs.trans hl) fun i v d hi hd => ?_
  have hlt:i<ds.length:=(List.getElem?_eq_some_iff.1 hd).1
  exact ih i _ d (List.getElem?_eq_getElem (by omega)) hd v (hr i v _ hi (List.getElem?_eq_getElem (by omega)))
 | fn g cs ds hl hv ih =>
  intro v r
  cases r with | fn g vs cs hs hr =>
  refine .fn g vs ds (hs.trans hl) fun i v d hi hd => ?_
  have hlt:i<ds.length:=(List.getElem?_eq_some_iff.1 hd).1
  exact ih i _ d (List.getElem?_eq_getElem (by omega)) hd v (hr i v _ hi (List.getElem?_eq_getElem (by omega)))
 | ref cs ds hp=>intro v r;cases r with | ref b off cs g hF hg hr=>exact .ref b off ds g (.inl hF) (fun j x hx=>hg j x (hp j x hx)) fun j x hx=>(hr j x (hp j x hx)).mono (fun _ _=>rfl) (fun _ => .inl)
 | row k f n o ds ho hn hd hc hv ih =>
  intro v r
  cases r with | own v k f n h10 hb hv' =>
  rcases (hv' o ho).2 hn with ⟨h1,h2,h3⟩ | ⟨b,c,cur,h1,h2,h3,h4,h5,h6⟩
  ·subst h3
   have:ds=[]:=List.eq_nil_of_length_eq_zero (by omega)
   subst this
   exact .d _ _ .nil
  ·subst h2
   have hob:=H.ob k f o ho
   rcases hob with ⟨h7,_⟩ | ⟨b',cur',h7,h8,h9⟩
   ·rw [h1] at h7;cases h7
   ·rw [h1] at h7
    injection h7 with h7
    subst h7
    rw [h3] at h8
    injection h8 with h8
    injection h8 with h8
    subst h8
    refine .d _ _ ?_
    rw [← hd]
    have cellAt : ∀ (i:Nat) (e:List DV) (j:Nat) (x:DV),ds[i]? = some e→e[j]? = some x → ∃ cells c u,o.cs.get i=some cells∧cells[j]? = some c∧cur[i*o.sz+j]? = some u∧eP w F μ h u c:=by
     intro i e j x he hx
     obtain ⟨cells,hci,hcl⟩:=hc i e he
     have hj:j<e.length:=(List.getElem?_eq_some_iff.1 hx).1
     obtain ⟨u,hu,hr⟩:=(h9 i cells hci).2 j _ (List.getElem?_eq_getElem (show j<cells.length by omega))
     exact ⟨cells,_,u,hci,List.getElem?_eq_getElem (by omega),hu,hr⟩
    refine .sl b 0 c o.sz ds (fun i j=>cur.getD (i*o.sz+j) undef) (.inr ⟨k,f,o,ho,h1⟩) (by omega) h6 (fun i e he => ?_) (fun i e j x he hx => ?_) (fun i e j x he hx => ?_)
    ·obtain ⟨cells,hci,hcl⟩:=hc i e he
     exact hcl.symm.trans (h9 i cells hci).1
    ·obtain ⟨cells,c',u,_,_,hu,_⟩:=cellAt i e j x he hx
     rw [Nat.zero_add,cell_of_row w b _ cur o.ty (0,0) h3,hu]
     simp [hu]
    ·obtain ⟨cells,c',u,hci,hcj,hu,hr⟩:=cellAt i e j x he hx
     have:=ih i e cells j c' x he hci hcj hx u hr
     have e1:cur.getD (i*o.sz+j) undef=u:=by simp [hu]
     rw [e1]
     cases this with | d _ _ hd=>exact hd
 | ptr k f n i j o cells ds ho hn hi hl hv ih =>
  intro v r
  cases r with | ptr v k f n i j h10 hb hv' =>
  obtain ⟨b,h1,rfl⟩:=(hv' o ho).2 hn
  rcases H.ob k f o ho with ⟨h7,_⟩ | ⟨b',cur,h7,h8,h9⟩
  ·rw [h1] at h7;cases h7
  ·rw [h1] at h7
   injection h7 with h7
   subst h7
   have cellAt : ∀ (t:Nat) (x:DV),ds[t]? = some x → ∃ c u,cells[j+t]? = some c∧cur[i*o.sz+(j+t)]? = some u∧eP w F μ h u c:=by
    intro t x hx
    have ht:t<ds.length:=(List.getElem?_eq_some_iff.1 hx).1
    obtain ⟨u,hu,hr⟩:=(h9 i cells hi).2 (j+t) _ (List.getElem?_eq_getElem (show j+t<cells.length by omega))
    exact ⟨_,u,List.getElem?_eq_getElem (by omega),hu,hr⟩
   refine .ref b _ ds (fun t=>cur.getD (i*o.sz+(j+t)) undef) (.inr ⟨k,f,o,ho,h1⟩) (fun t x hx => ?_) (fun t x hx => ?_)
   ·obtain ⟨c,u,_,hu,_⟩:=cellAt t x hx
    rw [cell_of_row w b _ cur o.ty (0,0) h8,Nat.add_assoc,hu]
    simp [hu]
   ·obtain ⟨c,u,hcj,hu,hr⟩:=cellAt t x hx
    have:=ih t c x hcj hx u hr
    have e1:cur.getD (i*o.sz+(j+t)) undef=u:=by simp [hu]
    rw [e1]
    cases this with | d _ _ hd=>exact hd
def lks (hs:List fA):dG:=fun p=>hs.getD p .no
def FnG (P:Program) (f:FuncId) (hin:List fA) (args:List AV) (hout:List fA) (r:AV):Prop :=
 ∀ (w:World) (F:Nat→Prop) (μ:bJ) (vs:Array Value) (gl:aDi F w),iA ⟨w,F, μ,lks hin,gl⟩ F μ (lks hin) w→vs.size=args.length →
  (∀ (i:Nat) v a,vs[i]? = some v→args[i]? = some a→eP w F μ (lks hin) v a) →
  Calls P f vs w fun e w' => ∃ v F' μ',e = .returned v∧iA ⟨w,F, μ,lks hin,gl⟩ F' μ' (lks hout) w'∧eP w' F' μ' (lks hout) v r
end Go.Proofs.YtbliejnpjpnahaaGreatDoor
namespace Go.Proofs.YtbliejnpjpnahaaGreatDoor
open Go.RowKit
set_option linter.unusedVariables false
set_option maxRecDepth 100000
section
variable {E:Env} {F Fc F1 F':Nat→Prop} {μ μ1 μ':bJ} {h hc h1 h':dG} {w w1:World} {ι:Nat→Nat}
theorem wK.ren (R:Ren ι μ h μ' h') {p:Option Nat} {o:jR} (r:wK w F μ h p o):wK w F μ' h' p (o.ren ι):=by
 rcases r with ⟨h1,h2⟩ | ⟨b,cur,h1,h2,h3⟩
 ·exact .inl ⟨h1,by simpa [jR.ren,aX.ren_len] using h2⟩
 ·refine .inr ⟨b,cur,h1,h2,fun i cells hi => ?_⟩
  simp only [jR.ren,aX.ren_get] at hi
  obtain ⟨c0,hc0,rfl⟩:=Option.map_eq_some_iff.1 hi
  refine ⟨by rw [pC];exact (h3 i c0 hc0).1,fun j c hj => ?_⟩
  rw [pB] at hj
  obtain ⟨c1,hc1,rfl⟩:=Option.map_eq_some_iff.1 hj
  obtain ⟨u,hu,hr⟩:=(h3 i c0 hc0).2 j c1 hc1
  exact ⟨u,hu,hr.ren R⟩
theorem iA.join {gl:aDi F w} (H:iA E F μ h w) (hι : ∀ p q, ι p=ι q→p=q) (R:Ren ι (fun p f=>μ (ι p) f) hc μ h) (H1:iA ⟨w,F,fun p f=>μ (ι p) f,hc,gl⟩ F' μ1 h1 w1)
  (R1:Ren ι μ1 h1 μ' h') (hout : ∀ k,(∀ p,k≠ι p)→h' k=h k ∧ ∀ f, μ' k f=μ k f):iA E F' μ' h' w1∧Evo w F μ h w1 F' μ' h':=by
 have own : ∀ {b},Env.O0 ⟨w,F,fun p f=>μ (ι p) f,hc,gl⟩ b → ∃ p f o,lv h (ι p) f=some o∧μ (ι p) f=some b:=fun ⟨p,f,o,hl,hm⟩=>⟨p,f,_,by rw [R.lv_,hl];rfl,hm⟩
 have far : ∀ {k f o b},(∀ p,k≠ι p)→lv h k f=some o→μ k f=some b → ¬ Env.O0 ⟨w,F,fun p f=>μ (ι p) f,hc,gl⟩ b:=fun hk hl hm hO=>by
  obtain ⟨p,f',o',hl',hm'⟩:=own hO
  exact hk p (H.inj _ _ _ _ _ _ _ hl hl' hm hm').1
 have stay : ∀ {k f o b},(∀ p,k≠ι p)→lv h k f=some o→μ k f=some b→w1.heap[b]? = w.heap[b]? := fun hk hl hm=>H1.keep _ (H.lt hl hm) (far hk hl hm)
 have lvout : ∀ {k f},(∀ p,k≠ι p)→lv h' k f=lv h k f:=fun hk=>by simp [lv,(hout _ hk).1]
 have V:Evo w F μ h w1 F' μ' h':=by
  refine ⟨H1.ev.fr,H1.ev.fs,fun k hk => ?_,fun k f o' hk ho' => ?_⟩
  ·by_cases e : ∃ p,k=ι p
   ·obtain ⟨p,rfl⟩:=e
    intro e
    exact H1.ev.born p (fun e2=>hk ((R.no_ p).2 e2)) ((R1.no_ p).1 e)
   ·rw [(hout k (fun p hp=>e ⟨p,hp⟩)).1];exact hk
  ·by_cases e : ∃ p,k=ι p
   ·obtain ⟨p,rfl⟩:=e
    rw [R1.lv_] at ho'
    obtain ⟨o1,ho1,rfl⟩:=Option.map_eq_some_iff.1 ho'
    obtain ⟨o,ho,hx⟩:=H1.ev.live p f o1 (fun e2=>hk ((R.no_ p).2 e2)) ho1
    refine ⟨o.ren ι,by rw [R.lv_,ho];rfl,?_⟩
    rw [R1.m]
    simpa [jR.ren,aX.ren_len] using hx
   ·have hk' : ∀ p,k≠ι p:=fun p hp=>e ⟨p,hp⟩
    rw [lvout hk'] at ho'
    exact ⟨o',ho', .inr ⟨rfl,rfl,(hout k hk').2 f,fun b cur hm hcu=>⟨cur,(stay hk' ho' hm).trans hcu,rfl⟩⟩⟩
 refine ⟨⟨fun k f o hl => ?_,fun k f o k2 f2 o2 b l1 l2 m1 m2 => ?_,fun k f o b hl hm => ?_,fun k f o b hl hm => ?_,H1.fz,fun b hb => ?_,H.ev.trans V,H1.os.trans H.os,H1.tape.trans H.tape,H1.output.trans H.output,Nat.le_trans H.size H1.size,fun b hb1 hb2 => ?_⟩,V⟩
 ·by_cases e : ∃ p,k=ι p
  ·obtain ⟨p,rfl⟩:=e
   rw [R1.lv_] at hl
   obtain ⟨o1,ho1,rfl⟩:=Option.map_eq_some_iff.1 hl
   rw [R1.m]
   exact (H1.ob p f o1 ho1).ren R1
  ·have hk' : ∀ p,k≠ι p:=fun p hp=>e ⟨p,hp⟩
   rw [lvout hk'] at hl
   rw [(hout k hk').2]
   exact (H.ob k f o hl).evo V fun b hm=>stay hk' hl hm
 ·have mix : ∀ {p f o k2 f2 o2},lv h' (ι p) f=some o→(∀ q,k2≠ι q)→lv h' k2 f2=some o2→μ' (ι p) f=some b→μ' k2 f2=some b→False:=fun {p f o k2 f2 o2} l1 hk2 l2 m1 m2=>by
   rw [R1.lv_] at l1
   obtain ⟨o1,ho1,rfl⟩:=Option.map_eq_some_iff.1 l1
   rw [R1.m] at m1
   rw [lvout hk2] at l2
   rw [(hout _ hk2).2] at m2
   rcases H1.src p f o1 b ho1 m1 with hs | hs
   ·exact far hk2 l2 m2 hs
   ·have:=H.lt l2 m2;have hs:w.heap.size≤b:=hs;omega
  by_cases e : ∃ p,k=ι p
  ·obtain ⟨p,rfl⟩:=e
   by_cases e2 : ∃ q,k2=ι q
   ·obtain ⟨q,rfl⟩:=e2
    rw [R1.lv_] at l1 l2
    obtain ⟨o1,ho1,rfl⟩:=Option.map_eq_some_iff.1 l1
    obtain ⟨o3,ho3,rfl⟩:=Option.map_eq_some_iff.1 l2
    rw [R1.m] at m1 m2
    obtain ⟨rfl,rfl⟩:=H1.inj _ _ _ _ _ _ b ho1 ho3 m1 m2
    exact ⟨rfl,rfl⟩
   ·exact (mix l1 (fun q hq=>e2 ⟨q,hq⟩) l2 m1 m2).elim
  ·by_cases e2 : ∃ q,k2=ι q
   ·obtain ⟨q,rfl⟩:=e2
    exact (mix l2 (fun q hq=>e ⟨q,hq⟩) l1 m2 m1).elim
   ·have a1 : ∀ p,k≠ι p:=fun p hp=>e ⟨p,hp⟩
    have a2 : ∀ p,k2≠ι p:=fun p hp=>e2 ⟨p,hp⟩
    rw [lvout a1] at l1;rw [lvout a2] at l2
    rw [(hout _ a1).2] at m1;rw [(hout _ a2).2] at m2
    exact H.inj _ _ _ _ _ _ b l1 l2 m1 m2
 ·by_cases e : ∃ p,k=ι p
  ·obtain ⟨p,rfl⟩:=e
   rw [R1.lv_] at hl
   obtain ⟨o1,ho1,rfl⟩:=Option.map_eq_some_iff.1 hl
   rw [R1.m] at hm
   exact H1.sep p f o1 b ho1 hm
  ·have hk' : ∀ p,k≠ι p:=fun p hp=>e ⟨p,hp⟩
   rw [lvout hk'] at hl;rw [(hout _ hk').2] at hm
   intro hb
   rcases H1.fsrc b hb with hs | hs | hs
   ·exact H.sep _ _ _ b hl hm hs
   ·exact far hk' hl hm hs
   ·have:=H.lt hl hm;have hs:w.heap.size≤b:=hs;omega
 ·by_cases e : ∃ p,k=ι p
  ·obtain ⟨p,rfl⟩:=e
   rw [R1.lv_] at hl
   obtain ⟨o1,ho1,rfl⟩:=Option.map_eq_some_iff.1 hl
   rw [R1.m] at hm
   rcases H1.src p f o1 b ho1 hm with hs | hs
   ·obtain ⟨p',f',o',hl',hm'⟩:=own hs
    exact H.src _ _ _ b hl' hm'
   ·have:=H.size;have hs:w.heap.size≤b:=hs;exact .inr (by omega)
  ·have hk' : ∀ p,k≠ι p:=fun p hp=>e ⟨p,hp⟩
   rw [lvout hk'] at hl;rw [(hout _ hk').2] at hm
   exact H.src _ _ _ b hl hm
 ·rcases H1.fsrc b hb with hs | hs | hs
  ·exact H.fsrc b hs
  ·obtain ⟨p',f',o',hl',hm'⟩:=own hs
   exact .inr (H.src _ _ _ b hl' hm')
  ·have:=H.size;have hs:w.heap.size≤b:=hs;exact .inr (.inr (by omega))
 ·have:=H.size
  have hno : ¬ Env.O0 ⟨w,F,fun p f=>μ (ι p) f,hc,gl⟩ b:=fun hO=>by
   obtain ⟨p',f',o',hl',hm'⟩:=own hO
   rcases H.src _ _ _ b hl' hm' with hs | hs
   ·exact hb2 hs
   ·omega
  exact (H1.keep b (show b<w.heap.size by omega) hno).trans (H.keep b hb1 hb2)
theorem iA.flatF {gl:aDi Fc w} {gl':aDi F w} {D:Nat→Prop} (hD : ∀ b,Fc b→F b∨D b) (hF : ∀ b,F b→Fc b ∧ ¬ D b) (H1:iA ⟨w,Fc, μ,fun _ => .no,gl⟩ F1 μ1 h1 w1) (hfl : ∀ p f o,lv h1 p f=some o→o.cs.flat) (hlt : ∀ b,D b→b<w.heap.size) :
  iA ⟨w,F, μ,fun _ => .no,gl'⟩ (fun b=>F1 b ∧ ¬ D b) μ1 h1 w1:=by
 have noO : ∀ {F b} {gl:aDi F w}, ¬ Env.O0 ⟨w,F, μ,fun _ => .no,gl⟩ b:=fun ⟨_,_,_,hl,_⟩=>by simp [lv] at hl
 refine ⟨fun k f o hl => ?_,H1.inj,fun k f o b hl hm hb=>H1.sep k f o b hl hm hb.1,fun k f o b hl hm=>(H1.src k f o b hl hm).imp (fun hO=>absurd hO noO) id,fun b hb=>H1.fz b hb.1,fun b hb => ?_,?_,H1.os,H1.tape,H1.output,H1.size,
  fun b h1 h2=>H1.keep b h1 noO⟩
 ·rcases H1.ob k f o hl with r | ⟨b,cur,a1,a2,a3⟩
  ·exact .inl r
  ·refine .inr ⟨b,cur,a1,a2,fun i cells hi=>⟨(a3 i cells hi).1,fun j c hj => ?_⟩⟩
   obtain ⟨u,hu,hr⟩:=(a3 i cells hi).2 j c hj
   exact ⟨u,hu,hr.reF (aRv (hfl k f o hl) hi hj)⟩
 ·rcases H1.fsrc b hb.1 with hs | hs | hs
  ·exact .inl ((hD b hs).resolve_right hb.2)
  ·exact absurd hs noO
  ·exact .inr (.inr hs)
 ·exact ⟨fun b hb=>H1.ev.fr b (hF b hb).1,fun b hb=>⟨H1.ev.fs b (hF b hb).1,(hF b hb).2⟩,fun k hk=>absurd rfl hk,fun k f o' hk=>absurd rfl hk⟩
def Abv (h:dG) (B:Nat):Prop := ∀ k,B≤k→h k = .no
theorem mZ (B:Nat):Abv (fun _ => .no) B:=fun _ _=>rfl
theorem nA {h:dG} {k B:Nat} {s:fA} (a:Abv h B) (hk:Nat.blt k B=true):Abv (upd h k s) B:=fun k' hk'=>by
 have:k<B:=by have:=hk;simp [Nat.blt] at this;omega
 rw [dE _ _ (by omega)];exact a k' hk'
def rB (h:dG) (B:Nat):List fA→dG
 | []=>h
 | s :: ss=>rB (upd h B s) (B+1) ss
theorem aAa (h:dG) : ∀ (ss:List fA) (B k:Nat),k<B→rB h B ss k=h k:=by
 intro ss
 induction ss generalizing h with
 | nil=>intro B k _;rfl
 | cons s ss ih=>intro B k hk;rw [rB,ih _ _ _ (by omega),dE _ _ (by omega)]
theorem aEc (h:dG) : ∀ (ss:List fA) (B p:Nat),Abv h B→rB h B ss (B+p)=ss.getD p .no:=by
 intro ss
 induction ss generalizing h with
 | nil=>intro B p a;simp [rB,a (B+p) (by omega)]
 | cons s ss ih =>
  intro B p a
  rw [rB]
  cases p with
  | zero=>rw [aAa _ _ _ _ (by omega),Nat.add_zero,bR];rfl
  | succ p =>
   rw [show B+(p+1)=B+1+p by omega,ih _ (B+1) p (fun k hk=>by rw [dE _ _ (by omega)];exact a k (by omega))]
   simp
theorem aY9 (ι:Nat→Nat) (hs:List fA) (p:Nat):(hs.map (fA.ren ι)).getD p .no=(lks hs p).ren ι:=by
 unfold lks
 simp only [List.getD_eq_getElem?_getD,List.getElem?_map]
 cases hs[p]? <;> rfl
theorem iA.join0 {gl:aDi F w} (H:iA E F μ h w) {B:Nat} (hB:Abv h B) {hs:List fA} (H1:iA ⟨w,F,fun p f=>μ (B+p) f,lks [],gl⟩ F' μ1 (lks hs) w1) :
  ∃ μ',iA E F' μ' (rB h B (hs.map (fA.ren (B + ·)))) w1∧Evo w F μ h w1 F' μ' (rB h B (hs.map (fA.ren (B + ·))))∧Ren (B + ·) μ1 (lks hs) μ' (rB h B (hs.map (fA.ren (B + ·)))):=by
 have R1:Ren (B + ·) μ1 (lks hs) (fun k f=>if B≤k then μ1 (k-B) f else μ k f) (rB h B (hs.map (fA.ren (B + ·)))) :=
  ⟨fun p=>by rw [aEc _ _ _ _ hB,aY9],fun p f=>by rw [if_pos (by omega)];congr 1;omega⟩
 refine ⟨fun k f=>if B≤k then μ1 (k-B) f else μ k f,?_⟩
 have J:=H.join (ι:=(B + ·)) (hc:=lks []) (fun p q e=>by have e:B+p=B+q:=e;omega) ⟨fun p=>by rw [hB _ (by omega)];rfl,fun p f=>rfl⟩ H1 R1 (fun k hk => ?_)
 ·exact ⟨J.1,J.2,R1⟩
 ·have:k<B:=by
   rcases Nat.lt_or_ge k B with hlt | hge
   ·exact hlt
   ·exact absurd (show k=B+(k-B) by omega) (hk (k-B))
  exact ⟨aAa _ _ _ _ this,fun f=>by rw [if_neg (by omega)]⟩
end
end Go.Proofs.YtbliejnpjpnahaaGreatDoor
namespace Go.Proofs.YtbliejnpjpnahaaGreatDoor
open Go.RowKit
set_option linter.unusedVariables false
set_option maxRecDepth 100000
structure AS where
 t:Nat→AV
 h:dG
def aA (t:Nat→AV) (d:Nat) (r:AV):Nat→AV:=fun t'=>bif Nat.beq t' d then r else t t'
theorem gC (t:Nat→AV) (d:Nat) (r:AV):aA t d r d=r:=by simp [aA]
theorem kS (t:Nat→AV) {d t':Nat} (r:AV) (hne:t'≠d):aA t d r t'=t t':=by
 have:Nat.beq t' d=false:=by rw [← Bool.not_eq_true,Nat.beq_eq];exact hne
 simp [aA,this]
def AS.put (σ:AS) (dst:Option Tmp) (r:AV):AS :=
 match dst with
 | none=>σ
 | some d=>⟨aA σ.t d r, σ.h⟩
theorem AS.put_h (σ:AS) (dst:Option Tmp) (r:AV):(σ.put dst r).h=σ.h:=by cases dst <;> rfl
theorem AS.put_t (σ:AS) (dst:Option Tmp) (r:AV) {t:Nat} (hn : ∀ d,dst=some d→t≠d):(σ.put dst r).t t=σ.t t:=by
 cases dst with
 | none=>rfl
 | some d=>exact kS _ _ (hn d rfl)
theorem AS.put_comm (σ:AS) {x y:Option Tmp} (r s:AV) (hn : ∀ d,x=some d→y≠some d):(σ.put x r).put y s=(σ.put y s).put x r:=by
 cases x with
 | none=>cases y <;> rfl
 | some d =>
  cases y with
  | none=>rfl
  | some e =>
   have hne:e≠d:=fun he=>hn d rfl (by rw [he])
   simp only [AS.put]
   congr 1
   funext t
   by_cases h1:t=e
   ·subst h1;rw [gC,kS _ _ hne,gC]
   ·rw [kS _ _ h1]
    by_cases h2:t=d
    ·subst h2;rw [gC,gC]
    ·rw [kS _ _ h2,kS _ _ h2,kS _ _ h1]
structure aRp (L:Nat) (E:Env) (N:Nat) (F:Nat→Prop) (μ:bJ) (σ:AS) (a:Act) (w:World):Prop where
 H:iA E F μ σ.h w
 df:a.defers=[]
 sz:a.tmps.size=N
 tm : ∀ t,t<N→eP w F μ σ.h (a.tmps.getD t undef) (σ.t t)
 lim : ∀ p,L≤p→E.h0 p = .no
def Abs (L:Nat) (E:Env) (N:Nat) (σ:AS) (a:Act) (w:World):Prop := ∃ F μ,aRp L E N F μ σ a w
def bBk (c:Value):AV:=bif c.oneCell' then .d (.v c) else .dead
theorem aDu {w:World} {F:Nat→Prop} {μ:bJ} {h:dG} (v:Value):eP w F μ h v (bBk v):=by
 unfold bBk
 cases e:v.oneCell' with
 | true=>exact .d _ _ (.v _ e)
 | false=>exact .dead _
def aAd:List Value→List AV
 | []=>[]
 | c :: cs=>bBk c :: aAd cs
theorem oF : ∀ cs,aAd cs=cs.map bBk
 | []=>rfl
 | c :: cs=>by simp [aAd,oF cs]
def aOk:Value→AV
 | .agg cs => .agg (aAd cs.toList)
 | v=>bBk v
theorem aBl {w:World} {F:Nat→Prop} {μ:bJ} {h:dG} (v:Value):eP w F μ h v (aOk v):=by
 cases v with
 | agg cs =>
  refine .agg cs _ (by simp [oF]) fun i v c hv hc => ?_
  simp only [oF,List.getElem?_map,Array.getElem?_toList,hv,Option.map_some,Option.some.injEq] at hc
  subst hc
  exact aDu v
 | _=>exact aDu _
def evA (N:Nat) (σ:AS):Operand→AV
 | .tmp t=>bif Nat.blt t N then σ.t t else .dead
 | .const v=>aOk v
 | .global g => .dead
 | .func f => .fn f []
theorem aEj {E:Env} {L N:Nat} {F:Nat→Prop} {μ:bJ} {σ:AS} {a:Act} {w:World} (A:aRp L E N F μ σ a w) (x:Operand):eP w F μ σ.h (a.eval x) (evA N σ x):=by
 cases x with
 | tmp t =>
  simp only [evA]
  cases hb:Nat.blt t N with
  | false=>exact .dead _
  | true=>exact A.tm t (by have:=hb;simp [Nat.blt] at this;omega)
 | const v=>exact aBl v
 | global g=>exact .dead _
 | func f=>exact .fn f #[] [] rfl (fun i v c hv hc=>by simp at hc)
def aD5 (P:Program) (K:Value→World→Prop):Result Next→Prop
 | .ok (.value v) w=>K v w
 | .ok .skip w=>K undef w
 | .ok (.enter f args) w=>Calls P f args w fun e w' => ∃ v,e = .returned v∧K v w'
 | _=>False
theorem lF {P:Program} {o:Oper} {a:Act} {w:World} {K:Value→World→Prop} {next:Act→World→Prop} {Q:Exit→Act→World→Prop} (h:aD5 P K ((execOp a.eval o).run P w))
  (hk : ∀ v w',K v w'→next (a.put o.dst v) w'):o.wp P a w next Q:=by
 unfold Oper.wp
 generalize (execOp a.eval o).run P w=r at *
 cases r with
 | ok n w' =>
  cases n <;> simp only [aD5,Oper.upon] at h ⊢
  case value v=>exact hk _ _ h
  case skip=>exact hk _ _ h
  case enter f args =>
   refine h.mono ?_
   rintro e w'' ⟨v,rfl,hv⟩
   exact hk _ _ hv
 | halt x w'=>simp only [aD5] at h
def AV.key:AV→Option Nat
 | .ptr k .. => some k
 | .own k .. => some k
 | _=>none
def aF1 (N:Nat) (o:Oper) (σ:AS) (ρ:Operand→Value) (w:World) (F:Nat→Prop) (μ:bJ) (h:dG):Prop := ∀ x ∈ o.op.operands,eP w F μ h (ρ x) (evA N σ x)
def eC (P:Program) (N:Nat) (o:Oper) (σ:AS) (r:AV):Prop :=
 ∀ (w:World) F μ h ρ,aF1 N o σ ρ w F μ h → ∃ u,(execOp ρ o).run P w = .ok (.value u) w∧eP w F μ h u r
def jJ (P:Program) (N:Nat) (o:Oper) (σ:AS) (r:AV):Prop :=
 (∀ x ∈ o.op.operands, ∀ k,(evA N σ x).key=some k→σ.h k ≠ .no) ∧
 ∀ E F μ h (w:World) ρ,iA E F μ h w→aF1 N o σ ρ w F μ h→(∀ x ∈ o.op.operands, ∀ k,(evA N σ x).key=some k→h k=σ.h k) → ∃ u,(execOp ρ o).run P w = .ok (.value u) w∧eP w F μ h u r
def cQ (P:Program) (N:Nat) (o:Oper) (σ:AS) (r:AV) (h':dG):Prop :=
 ∀ E F μ (w:World) ρ,iA E F μ σ.h w→aF1 N o σ ρ w F μ σ.h→aD5 P (fun u w' => ∃ F' μ',iA E F' μ' h' w'∧Evo w F μ σ.h w' F' μ' h'∧eP w' F' μ' h' u r) ((execOp ρ o).run P w)
inductive Cls where
 | pu | li | st | wr
 | al (k:Nat)
 | sb (B:Nat)
 | lk (k:Nat)
 | wk (k:Nat)
 | wx (k B:Nat)
def aCt (B:Nat) (h g:dG):dG:=fun p=>bif Nat.blt p B then h p else g p
def bAu (N:Nat) (o:Oper) (σ:AS) (k:Nat):Prop := ∀ x ∈ o.op.operands, ∀ k',(evA N σ x).key=some k'→k'=k
def yX (N:Nat) (ops:Array Oper) (o:Oper) (σ:AS):Prop :=
 o.guard=none ∨ ∃ j want t,o.guard=some (j,want)∧(ops[j]?).bind (·.dst)=some t∧t<N∧σ.t t = .d (.v (.bool want))
inductive gD (P:Program) (N:Nat) (ops:Array Oper) (o:Oper) (σ:AS):Cls→AS→Prop
 | skip (hd : ∀ d,o.dst=some d→d<N) (j:Nat) (want:Bool) (t:Nat) (hg:o.guard=some (j,want)) (hj:(ops[j]?).bind (·.dst)=some t) (ht:t<N) (hb:σ.t t = .d (.v (.bool !want))∨σ.t t = .tup []) :
   gD P N ops o σ .pu (σ.put o.dst (.tup []))
 | pure (hd : ∀ d,o.dst=some d→d<N) (hw:yX N ops o σ) (r:AV) (hp:eC P N o σ r):gD P N ops o σ .pu (σ.put o.dst r)
 | light (hd : ∀ d,o.dst=some d→d<N) (hw:yX N ops o σ) (r:AV) (hp:jJ P N o σ r):gD P N ops o σ .li (σ.put o.dst r)
 | still (hd : ∀ d,o.dst=some d→d<N) (hw:yX N ops o σ) (r:AV) (h':dG) (hx : ∀ k, σ.h k ≠ .no→h' k=σ.h k) (hp:cQ P N o σ r h'):gD P N ops o σ .st ⟨(σ.put o.dst r).t,h'⟩
 | write (hd : ∀ d,o.dst=some d→d<N) (hw:yX N ops o σ) (r:AV) (h':dG) (hp:cQ P N o σ r h'):gD P N ops o σ .wr ⟨(σ.put o.dst r).t,h'⟩
 | al (k:Nat) (hd : ∀ d,o.dst=some d→d<N) (hw:yX N ops o σ) (r:AV) (s:fA) (hk:σ.h k = .no) (hp : ∀ hx:dG,hx k = .no→cQ P N o ⟨σ.t,hx⟩ r (upd hx k s)):gD P N ops o σ (.al k) ⟨(σ.put o.dst r).t,upd σ.h k s⟩
 | sb (B:Nat) (hd : ∀ d,o.dst=some d→d<N) (hw:yX N ops o σ) (r:AV) (g':dG) (hB:Abv σ.h B) (hp : ∀ hx:dG,Abv hx B→(∀ p, σ.h p ≠ .no→hx p=σ.h p)→cQ P N o ⟨σ.t,hx⟩ r (aCt B hx g')):gD P N ops o σ (.sb B) ⟨(σ.put o.dst r).t,aCt B σ.h g'⟩
 | lk (k:Nat) (hd : ∀ d,o.dst=some d→d<N) (hw:yX N ops o σ) (r:AV) (hp:jJ P N o σ r) (hk:bAu N o σ k):gD P N ops o σ (.lk k) (σ.put o.dst r)
 | wk (k:Nat) (hd : ∀ d,o.dst=some d→d<N) (hw:yX N ops o σ) (r:AV) (h':dG) (hp:cQ P N o σ r h') (hx : ∀ p,p≠k→h' p=σ.h p):gD P N ops o σ (.wk k) ⟨(σ.put o.dst r).t,h'⟩
 | wx (k B:Nat) (hd : ∀ d,o.dst=some d→d<N) (hw:yX N ops o σ) (r:AV) (s:fA) (hB:Abv σ.h B) (hp : ∀ hx:dG,Abv hx B→hx k=σ.h k→cQ P N o ⟨σ.t,hx⟩ r (upd hx k s)):gD P N ops o σ (.wx k B) ⟨(σ.put o.dst r).t,upd σ.h k s⟩
section
variable {P:Program} {L N:Nat} {ops:Array Oper} {E:Env}
theorem aHf {F:Nat→Prop} {μ:bJ} {σ:AS} {a:Act} {w:World} (A:aRp L E N F μ σ a w) {j t:Nat} {b:Bool} (hj:(ops[j]?).bind (·.dst)=some t) (ht:t<N) (hb:σ.t t = .d (.v (.bool b))):yielded ops a.tmps j=some b:=by
 have hr:=A.tm t ht
 rw [hb] at hr
 have hlt:t<a.tmps.size:=by rw [A.sz];exact ht
 have hv:a.tmps[t]? = some (.bool b):=by
  have:a.tmps.getD t undef = .bool b:=by
   generalize a.tmps.getD t undef=v at hr
   cases hr with | d _ _ hd=>cases hd;rfl
  rw [Array.getElem?_eq_getElem hlt]
  simpa [Array.getD,hlt] using this
 unfold yielded
 rw [hj]
 simp [hv]
theorem aM4 {F:Nat→Prop} {μ:bJ} {σ:AS} {a:Act} {w:World} (A:aRp L E N F μ σ a w) {j t:Nat} (hj:(ops[j]?).bind (·.dst)=some t) (ht:t<N) (hb:σ.t t = .tup []):yielded ops a.tmps j=none:=by
 have hr:=A.tm t ht
 rw [hb] at hr
 have hlt:t<a.tmps.size:=by rw [A.sz];exact ht
 have hv : ∃ vs,a.tmps[t]? = some (.tuple vs):=by
  have : ∃ vs,a.tmps.getD t undef = .tuple vs:=by
   generalize a.tmps.getD t undef=v at hr
   cases hr with | tup vs _ _ _=>exact ⟨vs,rfl⟩
  obtain ⟨vs,this⟩:=this
  refine ⟨vs,?_⟩
  rw [Array.getElem?_eq_getElem hlt]
  simpa [Array.getD,hlt] using this
 obtain ⟨vs,hv⟩:=hv
 unfold yielded
 rw [hj]
 simp [hv]
theorem nW {F:Nat→Prop} {μ:bJ} {σ:AS} {a:Act} {w:World} {o:Oper} (A:aRp L E N F μ σ a w) (hw:yX N ops o σ):Region.wanted o (yielded ops a.tmps)=true:=by
 unfold Region.wanted
 rcases hw with hg | ⟨j,want,t,hg,hj,ht,hb⟩
 ·rw [hg]
 ·rw [hg];simp [aHf A hj ht hb]
theorem aRp.put_ {F F':Nat→Prop} {μ μ':bJ} {σ:AS} {a:Act} {w w':World} {h':dG} (A:aRp L E N F μ σ a w) (H':iA E F' μ' h' w') (V:Evo w F μ σ.h w' F' μ' h') {dst:Option Tmp} (hd : ∀ d,dst=some d→d<N) {u:Value} {r:AV}
  (hr:eP w' F' μ' h' u r):aRp L E N F' μ' ⟨(σ.put dst r).t,h'⟩ (a.put dst u) w':=by
 cases dst with
 | none=>exact ⟨H',A.df,A.sz,fun t ht=>(A.tm t ht).evo V,A.lim⟩
 | some d =>
  refine ⟨H',A.df,by simp [Act.put,A.sz],fun t ht => ?_,A.lim⟩
  by_cases e:t=d
  ·subst e
   have:(a.put (some t) u).tmps.getD t undef=u:=by simp [Act.put,A.sz,ht]
   rw [this]
   simp only [AS.put,gC]
   exact hr
  ·have:(a.put (some d) u).tmps.getD t undef=a.tmps.getD t undef:=by simp [Act.put,Array.getElem?_setIfInBounds_ne (Ne.symm e)]
   rw [this]
   simp only [AS.put,kS _ _ e]
   exact (A.tm t ht).evo V
theorem Evo.refl_ {w:World} {F:Nat→Prop} {μ:bJ} {h:dG}:Evo w F μ h w F μ h :=
 ⟨fun _ _=>rfl,fun _ hb=>hb,fun _ hb=>hb,fun k f o' _ ho'=>⟨o',ho', .inr ⟨rfl,rfl,rfl,fun b cur _ hc=>⟨cur,hc,rfl⟩⟩⟩⟩
theorem gD.sound {o:Oper} {σ σ':AS} {c:Cls} (S:gD P N ops o σ c σ') {a:Act} {w:World} (A:Abs L E N σ a w) {K:Act→World→Prop} {Q:Exit→Act→World→Prop} (hK : ∀ a' w',Abs L E N σ' a' w'→K a' w') :
  if Region.wanted o (yielded ops a.tmps)=true then o.wp P a w K Q else K (a.put o.dst undef) w:=by
 obtain ⟨F, μ,A⟩:=A
 have stand:aF1 N o σ a.eval w F μ σ.h:=fun x _=>aEj A x
 cases S with
 | skip hd j want t hg hj ht hb =>
  have:Region.wanted o (yielded ops a.tmps)=false:=by
   unfold Region.wanted
   rw [hg]
   rcases hb with hb | hb
   ·simp [aHf A hj ht hb]
   ·simp [aM4 A hj ht hb]
  rw [this]
  refine hK _ _ ⟨F, μ,?_⟩
  have:=A.put_ A.H Evo.refl_ hd (u:=undef) (r := .tup []) (.tup #[] [] rfl (fun i v c h=>by simp at h))
  rwa [show (⟨(σ.put o.dst (.tup [])).t, σ.h⟩:AS)=σ.put o.dst (.tup []) by cases o.dst <;> rfl] at this
 | pure hd hw r hp =>
  rw [if_pos (nW A hw)]
  obtain ⟨u,hu,hr⟩:=hp w F μ σ.h a.eval stand
  refine lF (K:=fun v w'=>v=u∧w'=w) (by rw [hu];exact ⟨rfl,rfl⟩) ?_
  rintro v w' ⟨rfl,rfl⟩
  refine hK _ _ ⟨F, μ,?_⟩
  have:=A.put_ A.H Evo.refl_ hd hr
  rwa [show (⟨(σ.put o.dst r).t, σ.h⟩:AS)=σ.put o.dst r by cases o.dst <;> rfl] at this
 | light hd hw r hp =>
  rw [if_pos (nW A hw)]
  obtain ⟨u,hu,hr⟩:=hp.2 E F μ σ.h w a.eval A.H stand (fun _ _ _ _=>rfl)
  refine lF (K:=fun v w'=>v=u∧w'=w) (by rw [hu];exact ⟨rfl,rfl⟩) ?_
  rintro v w' ⟨rfl,rfl⟩
  refine hK _ _ ⟨F, μ,?_⟩
  have:=A.put_ A.H Evo.refl_ hd hr
  rwa [show (⟨(σ.put o.dst r).t, σ.h⟩:AS)=σ.put o.dst r by cases o.dst <;> rfl] at this
 | still hd hw r h' hx hp =>
  rw [if_pos (nW A hw)]
  refine lF (hp E F μ w a.eval A.H stand) ?_
  rintro v w' ⟨F', μ',H',V,hr⟩
  exact hK _ _ ⟨F', μ',A.put_ H' V hd hr⟩
 | write hd hw r h' hp =>
  rw [if_pos (nW A hw)]
  refine lF (hp E F μ w a.eval A.H stand) ?_
  rintro v w' ⟨F', μ',H',V,hr⟩
  exact hK _ _ ⟨F', μ',A.put_ H' V hd hr⟩
 | al k hd hw r s hk hp =>
  rw [if_pos (nW A hw)]
  refine lF (hp σ.h hk E F μ w a.eval A.H stand) ?_
  rintro v w' ⟨F', μ',H',V,hr⟩
  exact hK _ _ ⟨F', μ',A.put_ H' V hd hr⟩
 | sb B hd hw r g' hB hp =>
  rw [if_pos (nW A hw)]
  refine lF (hp σ.h hB (fun _ _=>rfl) E F μ w a.eval A.H stand) ?_
  rintro v w' ⟨F', μ',H',V,hr⟩
  exact hK _ _ ⟨F', μ',A.put_ H' V hd hr⟩
 | lk k hd hw r hp hk =>
  rw [if_pos (nW A hw)]
  obtain ⟨u,hu,hr⟩:=hp.2 E F μ σ.h w a.eval A.H stand (fun _ _ _ _=>rfl)
  refine lF (K:=fun v w'=>v=u∧w'=w) (by rw [hu];exact ⟨rfl,rfl⟩) ?_
  rintro v w' ⟨rfl,rfl⟩
  refine hK _ _ ⟨F, μ,?_⟩
  have:=A.put_ A.H Evo.refl_ hd hr
  rwa [show (⟨(σ.put o.dst r).t, σ.h⟩:AS)=σ.put o.dst r by cases o.dst <;> rfl] at this
 | wk k hd hw r h' hp hx =>
  rw [if_pos (nW A hw)]
  refine lF (hp E F μ w a.eval A.H stand) ?_
  rintro v w' ⟨F', μ',H',V,hr⟩
  exact hK _ _ ⟨F', μ',A.put_ H' V hd hr⟩
 | wx k B hd hw r s hB hp =>
  rw [if_pos (nW A hw)]
  refine lF (hp σ.h hB rfl E F μ w a.eval A.H stand) ?_
  rintro v w' ⟨F', μ',H',V,hr⟩
  exact hK _ _ ⟨F', μ',A.put_ H' V hd hr⟩
inductive aD3 (P:Program) (N:Nat) (ops:Array Oper):List (Nat × Cls)→AS→AS→Prop
 | nil (σ:AS):aD3 P N ops [] σ σ
 | cons (i:Nat) (c:Cls) (l:List (Nat × Cls)) (o:Oper) (σ σ1 σ2:AS) (ho:ops[i]? = some o) (hs:gD P N ops o σ c σ1) (hr:aD3 P N ops l σ1 σ2):aD3 P N ops ((i,c) :: l) σ σ2
def Cls.ok0:Cls→Cls→Bool
 | .pu,_=>true
 | _, .pu=>true
 | .li, .li=>true
 | .li, .st=>true
 | .li, .al _=>true
 | .li, .sb _=>true
 | .lk _, .li=>true
 | .li, .lk _=>true
 | .lk _, .lk _=>true
 | .lk _, .st=>true
 | .lk _, .al _=>true
 | .lk _, .sb _=>true
 | _,_=>false
def Cls.okA:Cls→Cls→Bool
 | .sb B, .al k=>Nat.blt k B
 | .al k', .al k => !Nat.beq k' k
 | .lk k', .wk k => !Nat.beq k' k
 | .lk k', .wx k _ => !Nat.beq k' k
 | .wx k' B, .al k => !Nat.beq k' k && Nat.blt k B
 | _,_=>false
def Cls.ok (x y:Cls):Bool:=x.ok0 y || x.okA y
theorem aL6 {σ:AS} {dst:Option Tmp} {r:AV} {o:Oper} (hn : ∀ d,dst=some d→d ∉ o.looksAt ops) {x:Operand} (hx:x ∈ o.op.operands):evA N (σ.put dst r) x=evA N σ x:=by
 cases x with
 | tmp t =>
  simp only [evA]
  rw [AS.put_t]
  intro d hd e
  subst e
  exact hn t hd (List.mem_append_left _ (List.mem_filterMap.2 ⟨.tmp t,by simpa using hx,rfl⟩))
 | _=>rfl
theorem jQ {σ:AS} {dst:Option Tmp} {r:AV} {o:Oper} (hn : ∀ d,dst=some d→d ∉ o.looksAt ops) {h':dG} {ρ:Operand→Value} {w:World} {F:Nat→Prop} {μ:bJ} {h:dG} :
  aF1 N o ⟨(σ.put dst r).t,h'⟩ ρ w F μ h ↔ aF1 N o σ ρ w F μ h:=by
 have e : ∀ x ∈ o.op.operands,evA N ⟨(σ.put dst r).t,h'⟩ x=evA N σ x:=fun x hx =>
  (show evA N ⟨(σ.put dst r).t,h'⟩ x=evA N (σ.put dst r) x by cases x <;> rfl).trans (aL6 hn hx)
 exact ⟨fun s x hx=>by rw [← e x hx];exact s x hx,fun s x hx=>by rw [e x hx];exact s x hx⟩
theorem fW {σ:AS} {dst:Option Tmp} {r:AV} {o:Oper} (hn : ∀ d,dst=some d→d ∉ o.looksAt ops) {h1 h2:dG} {ρ:Operand→Value} {w:World} {F:Nat→Prop} {μ:bJ} {h:dG} :
  aF1 N o ⟨(σ.put dst r).t,h1⟩ ρ w F μ h ↔ aF1 N o ⟨σ.t,h2⟩ ρ w F μ h:=by
 have e : ∀ x ∈ o.op.operands,evA N ⟨(σ.put dst r).t,h1⟩ x=evA N ⟨σ.t,h2⟩ x:=fun x hx =>
  (show evA N ⟨(σ.put dst r).t,h1⟩ x=evA N (σ.put dst r) x by cases x <;> rfl).trans ((aL6 hn hx).trans (show evA N σ x=evA N ⟨σ.t,h2⟩ x by cases x <;> rfl))
 exact ⟨fun s x hx=>by rw [← e x hx];exact s x hx,fun s x hx=>by rw [e x hx];exact s x hx⟩
theorem oX {σ:AS} {dst:Option Tmp} {r:AV} {o:Oper} (hn : ∀ d,dst=some d→d ∉ o.looksAt ops) (h':dG) {x:Operand} (hx:x ∈ o.op.operands):evA N ⟨(σ.put dst r).t,h'⟩ x=evA N σ x :=
 (show evA N ⟨(σ.put dst r).t,h'⟩ x=evA N (σ.put dst r) x by cases x <;> rfl).trans (aL6 hn hx)
theorem eG {σ:AS} {dst:Option Tmp} {r:AV} {o:Oper} (hn : ∀ d,dst=some d→d ∉ o.looksAt ops) (h':dG):yX N ops o ⟨(σ.put dst r).t,h'⟩ ↔ yX N ops o σ:=by
 have key : ∀ j want t,o.guard=some (j,want)→(ops[j]?).bind (·.dst)=some t→(σ.put dst r).t t=σ.t t:=fun j want t hg hj=>by
  rw [AS.put_t]
  intro d hd e
  subst e
  exact hn t hd (List.mem_append_right _ (by rw [hg];simp [hj]))
 constructor
 ·rintro (hg | ⟨j,want,t,hg,hj,ht,hb⟩)
  ·exact .inl hg
  ·exact .inr ⟨j,want,t,hg,hj,ht,by rw [← key j want t hg hj];exact hb⟩
 ·rintro (hg | ⟨j,want,t,hg,hj,ht,hb⟩)
  ·exact .inl hg
  ·exact .inr ⟨j,want,t,hg,hj,ht,by show (σ.put dst r).t t=_;rw [key j want t hg hj];exact hb⟩
theorem gD.move_ {o:Oper} {σ σ':AS} {c:Cls} (S:gD P N ops o σ c σ') (σ0:AS) (dst:Option Tmp) (s:AV) (hn : ∀ d,dst=some d→d ∉ o.looksAt ops) (hne : ∀ d,o.dst=some d→dst≠some d) (h0:dG)
  (e:σ=⟨(σ0.put dst s).t,h0⟩) (hc:c = .pu∨h0=σ0.h) : ∃ r h', σ'=⟨(σ.put o.dst r).t,h'⟩∧(h0=σ0.h→gD P N ops o σ0 c ⟨(σ0.put o.dst r).t,h'⟩)∧(c = .pu→h'=h0∧gD P N ops o σ0 c (σ0.put o.dst r)):=by
 subst e
 have back : ∀ (τ:AS) (d:Option Tmp) (r:AV),(⟨(τ.put d r).t, τ.h⟩:AS)=τ.put d r:=fun τ d r=>by cases d <;> rfl
 cases S with
 | skip hd j want t hg hj ht hb =>
  have e0:(σ0.put dst s).t t=σ0.t t:=by
   rw [AS.put_t]
   intro d hd e
   subst e
   exact hn t hd (List.mem_append_right _ (by rw [hg];simp [hj]))
  have hb':σ0.t t = .d (.v (.bool !want))∨σ0.t t = .tup []:=by rw [← e0];exact hb
  have S0:=gD.skip (P:=P) (N:=N) (ops:=ops) (o:=o) (σ:=σ0) hd j want t hg hj ht hb'
  exact ⟨.tup [],h0,(back _ _ _).symm,fun e=>by subst e;rw [back];exact S0,fun _=>⟨rfl,S0⟩⟩
 | pure hd hw r hp =>
  have S0:=gD.pure (P:=P) (N:=N) (ops:=ops) (o:=o) (σ:=σ0) hd ((eG hn h0).1 hw) r (fun w F μ h ρ st=>hp w F μ h ρ ((jQ hn).2 st))
  exact ⟨r,h0,(back _ _ _).symm,fun e=>by subst e;rw [back];exact S0,fun _=>⟨rfl,S0⟩⟩
 | light hd hw r hp =>
  refine ⟨r,h0,(back _ _ _).symm,fun e => ?_,fun e=>by cases e⟩
  subst e
  rw [back]
  refine .light hd ((eG hn _).1 hw) r ⟨fun x hx k hk => ?_,fun E F μ h w ρ H st hh => ?_⟩
  ·rw [← oX (r:=s) hn σ0.h hx] at hk;exact hp.1 x hx k hk
  ·exact hp.2 E F μ h w ρ H ((jQ hn).2 st) fun x hx k hk=>by rw [oX hn σ0.h hx] at hk;exact hh x hx k hk
 | still hd hw r h' hx hp =>
  refine ⟨r,h',rfl,fun e => ?_,fun e=>by cases e⟩
  subst e
  exact .still hd ((eG hn _).1 hw) r h' hx fun E F μ w ρ H st=>hp E F μ w ρ H ((jQ hn).2 st)
 | write hd hw r h' hp =>
  refine ⟨r,h',rfl,fun e => ?_,fun e=>by cases e⟩
  subst e
  exact .write hd ((eG hn _).1 hw) r h' fun E F μ w ρ H st=>hp E F μ w ρ H ((jQ hn).2 st)
 | al k hd hw r s' hk hp =>
  refine ⟨r,_,rfl,fun e => ?_,fun e=>by cases e⟩
  subst e
  exact .al k hd ((eG hn _).1 hw) r s' hk fun hx hkx E F μ w ρ H st=>hp hx hkx E F μ w ρ H ((fW hn).2 st)
 | sb B hd hw r g' hB hp =>
  refine ⟨r,_,rfl,fun e => ?_,fun e=>by cases e⟩
  subst e
  exact .sb B hd ((eG hn _).1 hw) r g' hB fun hx hkx hxx E F μ w ρ H st=>hp hx hkx hxx E F μ w ρ H ((fW hn).2 st)
 | lk k hd hw r hp hk =>
  refine ⟨r,h0,(back _ _ _).symm,fun e => ?_,fun e=>by cases e⟩
  subst e
  rw [back]
  refine .lk k hd ((eG hn _).1 hw) r ⟨fun x hx k hk => ?_,fun E F μ h w ρ H st hh => ?_⟩ fun x hx k' hk' => ?_
  ·rw [← oX (r:=s) hn σ0.h hx] at hk;exact hp.1 x hx k hk
  ·exact hp.2 E F μ h w ρ H ((jQ hn).2 st) fun x hx k hk=>by rw [oX hn σ0.h hx] at hk;exact hh x hx k hk
  ·rw [← oX (r:=s) hn σ0.h hx] at hk';exact hk x hx k' hk'
 | wk k hd hw r h' hp hx =>
  refine ⟨r,h',rfl,fun e => ?_,fun e=>by cases e⟩
  subst e
  exact .wk k hd ((eG hn _).1 hw) r h' (fun E F μ w ρ H st=>hp E F μ w ρ H ((jQ hn).2 st)) hx
 | wx k B hd hw r s' hB hp =>
  refine ⟨r,_,rfl,fun e => ?_,fun e=>by cases e⟩
  subst e
  exact .wx k B hd ((eG hn _).1 hw) r s' hB fun hx hxB hkx E F μ w ρ H st=>hp hx hxB hkx E F μ w ρ H ((fW hn).2 st)
theorem aBz {B:Nat} {h g:dG} {p:Nat} (hp:p<B):aCt B h g p=h p:=by
 unfold aCt
 rw [show Nat.blt p B=true from Nat.ble_eq_true_of_le hp];rfl
theorem aM5 {B:Nat} {h g:dG} {p:Nat} (hp:B≤p):aCt B h g p=g p:=by
 unfold aCt
 cases e:Nat.blt p B with
 | false=>rfl
 | true=>have:=Nat.le_of_ble_eq_true e;omega
theorem aWf {B:Nat} {h g:dG} (hB:Abv h B) {p:Nat} (hp:h p ≠ .no):aCt B h g p=h p:=by
 rcases Nat.lt_or_ge p B with hlt | hge
 ·exact aBz hlt
 ·exact absurd (hB p hge) hp
theorem gD.form {o:Oper} {σ σ':AS} {c:Cls} (S:gD P N ops o σ c σ') : ∃ r h', σ'=⟨(σ.put o.dst r).t,h'⟩∧(c = .pu∨c = .li∨(∃ k,c = .lk k)→h'=σ.h)∧(c ≠ .wr→(∀ k,c ≠ .wk k)→(∀ k B,c ≠ .wx k B) → ∀ k, σ.h k ≠ .no→h' k=σ.h k):=by
 have back : ∀ (d:Option Tmp) (r:AV),(⟨(σ.put d r).t, σ.h⟩:AS)=σ.put d r:=fun d r=>by cases d <;> rfl
 cases S with
 | skip hd j want t hg hj ht hb=>exact ⟨.tup [], σ.h,(back _ _).symm,fun _=>rfl,fun _ _ _ _ _=>rfl⟩
 | pure hd hw r hp=>exact ⟨r, σ.h,(back _ _).symm,fun _=>rfl,fun _ _ _ _ _=>rfl⟩
 | light hd hw r hp=>exact ⟨r, σ.h,(back _ _).symm,fun _=>rfl,fun _ _ _ _ _=>rfl⟩
 | still hd hw r h' hx hp=>exact ⟨r,h',rfl,fun e=>(by rcases e with e | e | ⟨_,e⟩ <;> cases e),fun _ _ _=>hx⟩
 | write hd hw r h' hp=>exact ⟨r,h',rfl,fun e=>(by rcases e with e | e | ⟨_,e⟩ <;> cases e),fun e _ _=>absurd rfl e⟩
 | al k hd hw r s hk hp=>exact ⟨r,_,rfl,fun e=>(by rcases e with e | e | ⟨_,e⟩ <;> cases e),fun _ _ _ k' hk'=>dE _ _ (fun e=>by rw [e,hk] at hk';exact hk' rfl)⟩
 | sb B hd hw r g' hB hp=>exact ⟨r,_,rfl,fun e=>(by rcases e with e | e | ⟨_,e⟩ <;> cases e),fun _ _ _ k' hk'=>aWf hB hk'⟩
 | lk k hd hw r hp hk=>exact ⟨r, σ.h,(back _ _).symm,fun _=>rfl,fun _ _ _ _ _=>rfl⟩
 | wk k hd hw r h' hp hx=>exact ⟨r,h',rfl,fun e=>(by rcases e with e | e | ⟨_,e⟩ <;> cases e),fun _ e _=>absurd rfl (e k)⟩
 | wx k B hd hw r s hB hp=>exact ⟨r,_,rfl,fun e=>(by rcases e with e | e | ⟨_,e⟩ <;> cases e),fun _ _ e=>absurd rfl (e k B)⟩
theorem gD.after_ {o:Oper} {σ:AS} {r:AV} {h':dG} {c:Cls} (S:gD P N ops o σ c ⟨(σ.put o.dst r).t,h'⟩) (dst:Option Tmp) (s:AV) (hn : ∀ d,dst=some d→d ∉ o.looksAt ops) (h2:dG)
  (hc:h2=σ.h∨c = .pu∨((c = .li ∨ ∃ k,c = .lk k) ∧ ∀ k, σ.h k ≠ .no→h2 k=σ.h k) ∨ ∃ k,c = .lk k∧h2 k=σ.h k) : ∃ h3,gD P N ops o ⟨(σ.put dst s).t,h2⟩ c ⟨((⟨(σ.put dst s).t,h2⟩:AS).put o.dst r).t,h3⟩∧(h2=σ.h→h3=h')∧(c = .pu∨c = .li∨(∃ k,c = .lk k)→h3=h2):=by
 have back : ∀ (τ:AS) (d:Option Tmp) (r:AV),(⟨(τ.put d r).t, τ.h⟩:AS)=τ.put d r:=fun τ d r=>by cases d <;> rfl
 generalize e0:(⟨(σ.put o.dst r).t,h'⟩:AS)=σ' at S
 have rt : ∀ {r':AV},(σ.put o.dst r).t=(σ.put o.dst r').t → ∀ τ:AS,(τ.put o.dst r).t=(τ.put o.dst r').t:=by
  intro r' e τ
  cases hd:o.dst with
  | none=>rfl
  | some d =>
   rw [hd] at e
   have:=congrFun e d
   simp only [AS.put,gC] at this
   rw [this]
 cases S with
 | skip hd j want t hg hj ht hb =>
  have e9:(σ.put dst s).t t=σ.t t:=by
   rw [AS.put_t]
   intro d hd e
   subst e
   exact hn t hd (List.mem_append_right _ (by rw [hg];simp [hj]))
  have hb':(⟨(σ.put dst s).t,h2⟩:AS).t t = .d (.v (.bool !want))∨(⟨(σ.put dst s).t,h2⟩:AS).t t = .tup []:=by
   show (σ.put dst s).t t=_∨(σ.put dst s).t t=_
   rw [e9];exact hb
  have e1:(σ.put o.dst r).t=(σ.put o.dst (.tup [])).t:=by have:=congrArg AS.t e0;exact this
  have e2:h'=σ.h:=by have:=congrArg AS.h e0;exact Eq.trans this (AS.put_h _ _ _)
  refine ⟨h2,?_,fun e=>e.trans e2.symm,fun _=>rfl⟩
  rw [rt e1,back]
  exact .skip hd j want t hg hj ht hb'
 | pure hd hw r' hp =>
  have e1:(σ.put o.dst r).t=(σ.put o.dst r').t:=by have:=congrArg AS.t e0;exact this
  have e2:h'=σ.h:=by have:=congrArg AS.h e0;exact Eq.trans this (AS.put_h _ _ _)
  refine ⟨h2,?_,fun e=>e.trans e2.symm,fun _=>rfl⟩
  rw [rt e1,back]
  exact .pure hd ((eG hn h2).2 hw) r' fun w F μ h ρ st=>hp w F μ h ρ ((jQ hn).1 st)
 | light hd hw r' hp =>
  have e1:(σ.put o.dst r).t=(σ.put o.dst r').t:=by have:=congrArg AS.t e0;exact this
  have e2:h'=σ.h:=by have:=congrArg AS.h e0;exact Eq.trans this (AS.put_h _ _ _)
  refine ⟨h2,?_,fun e=>e.trans e2.symm,fun _=>rfl⟩
  rw [rt e1,back]
  have ext : ∀ k, σ.h k ≠ .no→h2 k=σ.h k:=by
   rcases hc with e | e | ⟨_,e⟩ | ⟨_,e,_⟩
   ·subst e;exact fun _ _=>rfl
   ·cases e
   ·exact e
   ·cases e
  refine .light hd ((eG hn h2).2 hw) r' ⟨fun x hx k hk => ?_,fun E F μ h w ρ H st hh => ?_⟩
  ·rw [oX hn h2 hx] at hk
   show h2 k ≠ .no
   rw [ext k (hp.1 x hx k hk)]
   exact hp.1 x hx k hk
  ·refine hp.2 E F μ h w ρ H ((jQ hn).1 st) fun x hx k hk => ?_
   rw [← ext k (hp.1 x hx k hk)]
   exact hh x hx k (by rw [oX hn h2 hx];exact hk)
 | still hd hw r' h3 hx hp =>
  have e1:(σ.put o.dst r).t=(σ.put o.dst r').t:=by have:=congrArg AS.t e0;exact this
  have e2:h'=h3:=by have:=congrArg AS.h e0;exact this
  rcases hc with e | e | ⟨e | ⟨_,e⟩,_⟩ | ⟨_,e,_⟩
  ·subst e
   refine ⟨h3,?_,fun _=>e2.symm,fun e=>by rcases e with e | e | ⟨_,e⟩ <;> cases e⟩
   rw [rt e1]
   exact .still hd ((eG hn _).2 hw) r' h3 hx fun E F μ w ρ H st=>hp E F μ w ρ H ((jQ hn).1 st)
  ·cases e
  ·cases e
  ·cases e
  ·cases e
 | write hd hw r' h3 hp =>
  have e1:(σ.put o.dst r).t=(σ.put o.dst r').t:=by have:=congrArg AS.t e0;exact this
  have e2:h'=h3:=by have:=congrArg AS.h e0;exact this
  rcases hc with e | e | ⟨e | ⟨_,e⟩,_⟩ | ⟨_,e,_⟩
  ·subst e
   refine ⟨h3,?_,fun _=>e2.symm,fun e=>by rcases e with e | e | ⟨_,e⟩ <;> cases e⟩
   rw [rt e1]
   exact .write hd ((eG hn _).2 hw) r' h3 fun E F μ w ρ H st=>hp E F μ w ρ H ((jQ hn).1 st)
  ·cases e
  ·cases e
  ·cases e
  ·cases e
 | al k hd hw r' s' hk hp =>
  have e1:(σ.put o.dst r).t=(σ.put o.dst r').t:=by have:=congrArg AS.t e0;exact this
  have e2:h'=upd σ.h k s':=by have:=congrArg AS.h e0;exact this
  rcases hc with e | e | ⟨e | ⟨_,e⟩,_⟩ | ⟨_,e,_⟩
  ·subst e
   refine ⟨_,?_,fun _=>e2.symm,fun e=>by rcases e with e | e | ⟨_,e⟩ <;> cases e⟩
   rw [rt e1]
   exact .al k hd ((eG hn _).2 hw) r' s' hk fun hx hkx E F μ w ρ H st=>hp hx hkx E F μ w ρ H ((fW hn).1 st)
  ·cases e
  ·cases e
  ·cases e
  ·cases e
 | sb B hd hw r' g' hB hp =>
  have e1:(σ.put o.dst r).t=(σ.put o.dst r').t:=by have:=congrArg AS.t e0;exact this
  have e2:h'=aCt B σ.h g':=by have:=congrArg AS.h e0;exact this
  rcases hc with e | e | ⟨e | ⟨_,e⟩,_⟩ | ⟨_,e,_⟩
  ·subst e
   refine ⟨_,?_,fun _=>e2.symm,fun e=>by rcases e with e | e | ⟨_,e⟩ <;> cases e⟩
   rw [rt e1]
   exact .sb B hd ((eG hn _).2 hw) r' g' hB fun hx hkx hxx E F μ w ρ H st=>hp hx hkx hxx E F μ w ρ H ((fW hn).1 st)
  ·cases e
  ·cases e
  ·cases e
  ·cases e
 | lk k hd hw r' hp hk =>
  have e1:(σ.put o.dst r).t=(σ.put o.dst r').t:=by have:=congrArg AS.t e0;exact this
  have e2:h'=σ.h:=by have:=congrArg AS.h e0;exact Eq.trans this (AS.put_h _ _ _)
  refine ⟨h2,?_,fun e=>e.trans e2.symm,fun _=>rfl⟩
  rw [rt e1,back]
  have ext : ∀ x ∈ o.op.operands, ∀ k',(evA N σ x).key=some k'→h2 k'=σ.h k':=fun x hx k' hk'=>by
   rcases hc with e | e | ⟨_,e⟩ | ⟨k2,e,e3⟩
   ·subst e;rfl
   ·cases e
   ·exact e k' (hp.1 x hx k' hk')
   ·injection e with e;subst e
    rw [hk x hx k' hk'];exact e3
  refine .lk k hd ((eG hn h2).2 hw) r' ⟨fun x hx k hk => ?_,fun E F μ h w ρ H st hh => ?_⟩ fun x hx k' hk' => ?_
  ·rw [oX hn h2 hx] at hk
   show h2 k ≠ .no
   rw [ext x hx k hk]
   exact hp.1 x hx k hk
  ·refine hp.2 E F μ h w ρ H ((jQ hn).1 st) fun x hx k hk => ?_
   rw [← ext x hx k hk]
   exact hh x hx k (by rw [oX hn h2 hx];exact hk)
  ·rw [oX hn h2 hx] at hk';exact hk x hx k' hk'
 | wk k hd hw r' h3 hp hx =>
  have e1:(σ.put o.dst r).t=(σ.put o.dst r').t:=by have:=congrArg AS.t e0;exact this
  have e2:h'=h3:=by have:=congrArg AS.h e0;exact this
  rcases hc with e | e | ⟨e | ⟨_,e⟩,_⟩ | ⟨_,e,_⟩
  ·subst e
   refine ⟨h3,?_,fun _=>e2.symm,fun e=>by rcases e with e | e | ⟨_,e⟩ <;> cases e⟩
   rw [rt e1]
   exact .wk k hd ((eG hn _).2 hw) r' h3 (fun E F μ w ρ H st=>hp E F μ w ρ H ((jQ hn).1 st)) hx
  ·cases e
  ·cases e
  ·cases e
  ·cases e
 | wx k B hd hw r' s' hB hp =>
  have e1:(σ.put o.dst r).t=(σ.put o.dst r').t:=by have:=congrArg AS.t e0;exact this
  have e2:h'=upd σ.h k s':=by have:=congrArg AS.h e0;exact this
  rcases hc with e | e | ⟨e | ⟨_,e⟩,_⟩ | ⟨_,e,_⟩
  ·subst e
   refine ⟨_,?_,fun _=>e2.symm,fun e=>by rcases e with e | e | ⟨_,e⟩ <;> cases e⟩
   rw [rt e1]
   exact .wx k B hd ((eG hn _).2 hw) r' s' hB fun hx hxB hkx E F μ w ρ H st=>hp hx hxB hkx E F μ w ρ H ((fW hn).1 st)
  ·cases e
  ·cases e
  ·cases e
  ·cases e
theorem gD.comm0 {oi oj:Oper} {σ σ1 σ2:AS} {ci cj:Cls} (Si:gD P N ops oi σ ci σ1) (Sj:gD P N ops oj σ1 cj σ2) (hap:oi.apart ops oj=true) (hok:ci.ok0 cj=true) : ∃ σ3,gD P N ops oj σ cj σ3∧gD P N ops oi σ3 ci σ2:=by
 obtain ⟨a1,a2,a3⟩:=Oper.apart_spec hap
 obtain ⟨ri,hi,rfl,qi,xi⟩:=Si.form
 have hcj:cj = .pu∨hi=σ.h:=by
  cases ci <;> cases cj <;> simp [Cls.ok0] at hok <;> first
   | exact .inl rfl
   | exact .inr (qi (.inl rfl))
   | exact .inr (qi (.inr (.inl rfl)))
   | exact .inr (qi (.inr (.inr ⟨_,rfl⟩)))
 obtain ⟨rj,hj,rfl,m1,m2⟩:=Sj.move_ σ oi.dst ri a1 (fun d hd e=>a2 d e hd) hi rfl hcj
 have swap : ∀ h,(⟨((⟨(σ.put oi.dst ri).t,hi⟩:AS).put oj.dst rj).t,h⟩:AS)=⟨((⟨(σ.put oj.dst rj).t,h⟩:AS).put oi.dst ri).t,h⟩:=fun h=>by
  have e:((σ.put oi.dst ri).put oj.dst rj).t=((σ.put oj.dst rj).put oi.dst ri).t:=by rw [AS.put_comm σ ri rj a2]
  have c1 : ∀ (τ:AS) (h:dG) (d:Option Tmp) (r:AV),((⟨τ.t,h⟩:AS).put d r).t=(τ.put d r).t:=fun τ h d r=>by cases d <;> rfl
  rw [c1 _ _ oj.dst rj,c1 _ h oi.dst ri,e]
 by_cases hpu:cj = .pu
 ·obtain ⟨rfl,S0⟩:=m2 hpu
  refine ⟨_,S0,?_⟩
  obtain ⟨h3,S3,hh,hq⟩:=Si.after_ oj.dst rj a3 σ.h (.inl rfl)
  have e3:h3=hj:=hh rfl
  subst e3
  rw [show (⟨(σ.put oj.dst rj).t, σ.h⟩:AS)=σ.put oj.dst rj by cases oj.dst <;> rfl] at S3
  rw [swap]
  have c1:((⟨(σ.put oj.dst rj).t,h3⟩:AS).put oi.dst ri).t=((σ.put oj.dst rj).put oi.dst ri).t:=by cases oi.dst <;> rfl
  rw [c1]
  exact S3
 ·have hh0:=hcj.resolve_left hpu
  have S0:=m1 hh0
  refine ⟨_,S0,?_⟩
  have hci:ci = .pu∨ci = .li ∨ ∃ k,ci = .lk k:=by
   cases ci <;> cases cj <;> simp [Cls.ok0] at hok hpu ⊢
  have cond:hj=σ.h∨ci = .pu∨((ci = .li ∨ ∃ k,ci = .lk k) ∧ ∀ k, σ.h k ≠ .no→hj k=σ.h k) ∨ ∃ k,ci = .lk k∧hj k=σ.h k:=by
   rcases hci with e | e
   ·exact .inr (.inl e)
   ·refine .inr (.inr (.inl ⟨e,?_⟩))
    obtain ⟨_,h5,e5,q5,x5⟩:=S0.form
    have e6:hj=h5:=congrArg AS.h e5
    subst e6
    exact x5 (fun e=>by subst e;rcases e with rfl | ⟨_,rfl⟩ <;> simp [Cls.ok0] at hok) (fun k e=>by subst e;rcases e with rfl | ⟨_,rfl⟩ <;> simp [Cls.ok0] at hok) fun k B e=>by subst e;rcases e with rfl | ⟨_,rfl⟩ <;> simp [Cls.ok0] at hok
  obtain ⟨h3,S3,_,hq⟩:=Si.after_ oj.dst rj a3 hj cond
  have e3:=hq hci
  subst e3
  rw [swap]
  exact S3
theorem gD.commA {oi oj:Oper} {σ σ1 σ2:AS} {ci cj:Cls} (Si:gD P N ops oi σ ci σ1) (Sj:gD P N ops oj σ1 cj σ2) (hap:oi.apart ops oj=true) (hok:ci.okA cj=true) : ∃ σ3,gD P N ops oj σ cj σ3∧gD P N ops oi σ3 ci σ2:=by
 obtain ⟨a1,a2,a3⟩:=Oper.apart_spec hap
 have swap : ∀ (ri rj:AV) (h1 h2 h:dG),(⟨((⟨(σ.put oi.dst ri).t,h1⟩:AS).put oj.dst rj).t,h⟩:AS)=⟨((⟨(σ.put oj.dst rj).t,h2⟩:AS).put oi.dst ri).t,h⟩:=fun ri rj h1 h2 h=>by
  have e:((σ.put oi.dst ri).put oj.dst rj).t=((σ.put oj.dst rj).put oi.dst ri).t:=by rw [AS.put_comm σ ri rj a2]
  have c1 : ∀ (τ:AS) (h:dG) (d:Option Tmp) (r:AV),((⟨τ.t,h⟩:AS).put d r).t=(τ.put d r).t:=fun τ h d r=>by cases d <;> rfl
  rw [c1 _ _ oj.dst rj,c1 _ _ oi.dst ri,e]
 cases Sj with
 | al k hd hw r s hk hp =>
  cases Si with
  | sb B hd1 hw1 r1 g' hB hp1 =>
   have hkB:k<B:=Nat.le_of_ble_eq_true hok
   have hk0:σ.h k = .no:=(aBz (h:=σ.h) (g:=g') hkB).symm.trans hk
   refine ⟨_, .al k hd ((eG a1 _).1 hw) r s hk0 fun hx hkx E F μ w ρ H st=>hp hx hkx E F μ w ρ H ((fW a1).2 st),?_⟩
   have e:upd (aCt B σ.h g') k s=aCt B (upd σ.h k s) g':=by
    funext p
    by_cases e:p=k
    ·subst e;rw [bR,aBz hkB,bR]
    ·rw [dE _ _ e]
     rcases Nat.lt_or_ge p B with hlt | hge
     ·rw [aBz hlt,aBz hlt,dE _ _ e]
     ·rw [aM5 hge,aM5 hge]
   show gD P N ops oi _ (.sb B) ⟨((⟨(σ.put oi.dst r1).t,aCt B σ.h g'⟩:AS).put oj.dst r).t,upd (aCt B σ.h g') k s⟩
   rw [e,swap r1 r _ (upd σ.h k s)]
   refine .sb B hd1 ((eG a3 _).2 hw1) r1 g' (fun p hp => ?_) fun hx hkx hxx E F μ w ρ H st=>hp1 hx hkx (fun p hp => ?_) E F μ w ρ H ((fW a3).1 st)
   ·show upd σ.h k s p = .no
    rw [dE _ _ (by omega)];exact hB p hp
   ·have hpk:p≠k:=fun e=>by rw [e,hk0] at hp;exact hp rfl
    have h5:(upd σ.h k s) p=σ.h p:=dE _ _ hpk
    rw [← h5]
    exact hxx p (by show upd σ.h k s p ≠ .no;rw [h5];exact hp)
  | al k1 hd1 hw1 r1 s1 hk1 hp1 =>
   have hne:k1≠k:=fun e=>by subst e;simp [Cls.okA] at hok
   have hk0:σ.h k = .no:=by
    have:=hk
    rwa [show (⟨(σ.put oi.dst r1).t,upd σ.h k1 s1⟩:AS).h k=σ.h k from dE _ _ (Ne.symm hne)] at this
   refine ⟨_, .al k hd ((eG a1 _).1 hw) r s hk0 fun hx hkx E F μ w ρ H st=>hp hx hkx E F μ w ρ H ((fW a1).2 st),?_⟩
   have e:upd (upd σ.h k1 s1) k s=upd (upd σ.h k s) k1 s1:=by
    funext p
    by_cases e:p=k
    ·subst e;rw [bR,dE _ _ (Ne.symm hne),bR]
    ·rw [dE _ _ e]
     by_cases e1:p=k1
     ·subst e1;rw [bR,bR]
     ·rw [dE _ _ e1,dE _ _ e1,dE _ _ e]
   show gD P N ops oi _ (.al k1) ⟨((⟨(σ.put oi.dst r1).t,upd σ.h k1 s1⟩:AS).put oj.dst r).t,upd (upd σ.h k1 s1) k s⟩
   rw [e,swap r1 r _ (upd σ.h k s)]
   refine .al k1 hd1 ((eG a3 _).2 hw1) r1 s1 (by show upd σ.h k s k1 = .no;rw [dE _ _ hne];exact hk1) fun hx hkx E F μ w ρ H st=>hp1 hx hkx E F μ w ρ H ((fW a3).1 st)
  | wx k1 B hd1 hw1 r1 s1 hB1 hp1 =>
   simp only [Cls.okA,Bool.and_eq_true] at hok
   have hne:k1≠k:=fun e=>by subst e;simp at hok
   have hkB:k<B:=Nat.le_of_ble_eq_true hok.2
   have hk0:σ.h k = .no:=by
    have:=hk
    rwa [show (⟨(σ.put oi.dst r1).t,upd σ.h k1 s1⟩:AS).h k=σ.h k from dE _ _ (Ne.symm hne)] at this
   refine ⟨_, .al k hd ((eG a1 _).1 hw) r s hk0 fun hx hkx E F μ w ρ H st=>hp hx hkx E F μ w ρ H ((fW a1).2 st),?_⟩
   have e:upd (upd σ.h k1 s1) k s=upd (upd σ.h k s) k1 s1:=by
    funext p
    by_cases e:p=k
    ·subst e;rw [bR,dE _ _ (Ne.symm hne),bR]
    ·rw [dE _ _ e]
     by_cases e1:p=k1
     ·subst e1;rw [bR,bR]
     ·rw [dE _ _ e1,dE _ _ e1,dE _ _ e]
   show gD P N ops oi _ (.wx k1 B) ⟨((⟨(σ.put oi.dst r1).t,upd σ.h k1 s1⟩:AS).put oj.dst r).t,upd (upd σ.h k1 s1) k s⟩
   rw [e,swap r1 r _ (upd σ.h k s)]
   refine .wx k1 B hd1 ((eG a3 _).2 hw1) r1 s1 (fun p hp => ?_) fun hx hxB hkx E F μ w ρ H st=>hp1 hx hxB (hkx.trans (dE _ _ hne)) E F μ w ρ H ((fW a3).1 st)
   show upd σ.h k s p = .no
   rw [dE _ _ (by omega)];exact hB1 p hp
  | _=>simp [Cls.okA] at hok
 | wk k hd hw r h' hp hx =>
  have Si0:=Si
  cases Si with
  | lk k1 hd1 hw1 r1 hp1 hk1 =>
   have hne:k1≠k:=fun e=>by subst e;simp [Cls.okA] at hok
   have hh : ∀ {d:Option Tmp} {r:AV},(σ.put d r).h=σ.h:=fun {d r}=>by cases d <;> rfl
   have e1:σ.put oi.dst r1=⟨(σ.put oi.dst r1).t, σ.h⟩:=by cases oi.dst <;> rfl
   have hp':=hp
   unfold cQ at hp'
   simp only [hh] at hp'
   have S0:gD P N ops oj σ (.wk k) ⟨(σ.put oj.dst r).t,h'⟩ := .wk k hd ((eG (r:=r1) a1 σ.h).1 (by rw [← e1];exact hw)) r h' (fun E F μ w ρ H st=>hp' E F μ w ρ H (by rw [e1];exact (fW (r:=r1) a1).2 st)) (fun p hp=>(hx p hp).trans (by rw [hh]))
   refine ⟨_,S0,?_⟩
   rw [e1] at Si0
   obtain ⟨h3,S3,_,hq⟩:=Si0.after_ oj.dst r a3 h' (.inr (.inr (.inr ⟨k1,rfl,(hx k1 hne).trans (by rw [hh])⟩)))
   have e3:=hq (.inr (.inr ⟨k1,rfl⟩))
   subst e3
   rw [e1,swap r1 r _ h3]
   exact S3
  | _=>simp [Cls.okA] at hok
 | wx k B hd hw r s hB hp =>
  have Si0:=Si
  cases Si with
  | lk k1 hd1 hw1 r1 hp1 hk1 =>
   have hne:k1≠k:=fun e=>by subst e;simp [Cls.okA] at hok
   have hh : ∀ {d:Option Tmp} {r:AV},(σ.put d r).h=σ.h:=fun {d r}=>by cases d <;> rfl
   have e1:σ.put oi.dst r1=⟨(σ.put oi.dst r1).t, σ.h⟩:=by cases oi.dst <;> rfl
   have S0:gD P N ops oj σ (.wx k B) ⟨(σ.put oj.dst r).t,upd σ.h k s⟩ := .wx k B hd ((eG (r:=r1) a1 σ.h).1 (by rw [← e1];exact hw)) r s (by rw [← hh (d:=oi.dst) (r:=r1)];exact hB) (fun hx hxB hkx E F μ w ρ H st=>hp hx hxB (hkx.trans (by rw [hh])) E F μ w ρ H (by exact (fW (r:=r1) a1).2 st))
   refine ⟨_,S0,?_⟩
   rw [e1] at Si0
   obtain ⟨h3,S3,_,hq⟩:=Si0.after_ oj.dst r a3 (upd σ.h k s) (.inr (.inr (.inr ⟨k1,rfl,dE _ _ hne⟩)))
   have e3:=hq (.inr (.inr ⟨k1,rfl⟩))
   subst e3
   rw [e1,swap r1 r _ (upd σ.h k s)]
   exact S3
  | _=>simp [Cls.okA] at hok
 | _=>cases ci <;> simp [Cls.okA] at hok
theorem gD.comm {oi oj:Oper} {σ σ1 σ2:AS} {ci cj:Cls} (Si:gD P N ops oi σ ci σ1) (Sj:gD P N ops oj σ1 cj σ2) (hap:oi.apart ops oj=true) (hok:ci.ok cj=true) : ∃ σ3,gD P N ops oj σ cj σ3∧gD P N ops oi σ3 ci σ2:=by
 unfold Cls.ok at hok
 simp only [Bool.or_eq_true] at hok
 exact hok.elim (Si.comm0 Sj hap) (Si.commA Sj hap)
end
end Go.Proofs.YtbliejnpjpnahaaGreatDoor
