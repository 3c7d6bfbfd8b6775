/- Texts of this claim, one behind the other (merged by a program of mine). -/
import Derived.Lib.ParseIntB
import Derived.Lib.Strings
import Derived.Lib.Bytealg
import Derived.Lib.Repeat
import Derived.Lib.SlicesCompact
import Derived.Test.YtbliejnpjpnahaaGreatDoorGCz4
set_option linter.unusedSimpArgs false
set_option linter.unusedVariables false
namespace Go.Proofs.YtbliejnpjpnahaaGreatDoor
open Go.RowKit
set_option linter.unusedVariables false
set_option maxRecDepth 100000
theorem bDq {α:Type} {kf:Nat} {c:α→List DV} {xs:List α}:(aX.av (tM kf c xs)).len=xs.length:=by simp [aX.len,pU]
inductive aYd (kf m:Nat):List AV→List AV→Prop
 | nil:aYd kf m [] []
 | own {n n':Nat} {as bs:List AV} (hn:n=n') (q:aYd kf m as bs):aYd kf m (.own 0 0 n :: as) (.own kf m n' :: bs)
 | free {a:AV} {as bs:List AV} (hf:a.free=true) (q:aYd kf m as bs):aYd kf m (a :: as) (a :: bs)
theorem aYd.spec {kf m:Nat} {as bs:List AV} (q:aYd kf m as bs):as.length=bs.length ∧ ∀ (i:Nat) a b,as[i]? = some a→bs[i]? = some b→(a=b∧a.free=true) ∨ ∃ n,a = .own 0 0 n∧b = .own kf m n:=by
 induction q with
 | nil=>exact ⟨rfl,fun i a b h=>by simp at h⟩
 | own hn q ih =>
  subst hn
  refine ⟨by simp [ih.1],fun i a b h1 h2 => ?_⟩
  cases i with
  | zero=>simp at h1 h2;exact .inr ⟨_,h1.symm,h2.symm⟩
  | succ i=>exact ih.2 i a b (by simpa using h1) (by simpa using h2)
 | free hf q ih =>
  refine ⟨by simp [ih.1],fun i a b h1 h2 => ?_⟩
  cases i with
  | zero=>simp at h1 h2;subst h1 h2;exact .inl ⟨rfl,hf⟩
  | succ i=>exact ih.2 i a b (by simpa using h1) (by simpa using h2)
section
variable {P:Program} {T:Tab} {L N:Nat} {ops:Array Oper} {E:Env} {K:List (Nat × Cls)→AS→Prop} {i:Nat} {is:List Nat} {t:Nat→AV} {h h':dG} {d:Tmp} {dst:Option Tmp} {op:Op} {ty:TypeId} {pos:String} {aft:Array Edge} {g:Option (Nat × Bool)} {Q:qL→AS→Prop} {σ:AS} {x y:Operand}
theorem aZc {α:Type} (hT:TOk P T) {bt e bt' bt2:TypeId} {s x:Operand} {k kf k2 n sz sz2:Nat} {c:α→List DV} {es:List α} {cs:List AV} {ti ei:TI} (a:α) (hb:(es.length+1)*sz*64≤140737488355328) (hs:evA N ⟨t,h⟩ s = .own k 0 n) (hx:evA N ⟨t,h⟩ x = .own k2 0 1) (h1:T bt=some ti) (h2:ti.desc = .slice e) (h3:T e=some ei)
  (hzs:Nat.beq ei.zero.cells.size ei.size=true) (hpos:Nat.blt 0 ei.size=true) (hsb:Nat.ble ei.bytes (ei.size*64)=true) (hk:h k = .live [⟨bt',sz, .av (tM kf c es)⟩]) (hn:n=es.length) (hty:bt'=e) (hsz:sz=ei.size) (hk2:h k2 = .live [⟨bt2,sz2, .av [cs]⟩]) (hsz2:sz2=ei.size) (hok:okL cs=true) :
  cQ P N ⟨dst, .call ⟨.builtin .append, #[s,x], #[bt,bt]⟩,ty,pos,aft,g⟩ ⟨t,h⟩ (.own k 0 (es++[a]).length) (upd h k (.live [⟨bt',sz, .av (tM kf c es++[cs])⟩])):=by
 subst hn
 rw [List.length_append,List.length_singleton]
 have hle:=Nat.le_of_ble_eq_true hsb
 have hp:=oB hpos
 have e1:(es.length+1)*ei.bytes≤(es.length+1)*sz*64:=by
  rw [Nat.mul_assoc,hsz];exact Nat.mul_le_mul_left _ hle
 have e2:es.length+1≤(es.length+1)*sz:=Nat.le_mul_of_pos_right _ (by omega)
 exact aBf (P:=P) (N:=N) (dst:=dst) (ty:=ty) (pos:=pos) (aft:=aft) (g:=g) (n:=es.length) (m:=1) hT hs hx h1 h2 h3 hzs hpos hk rfl bDq hty hsz (qG hk2) rfl hsz2 (fun e he=>by simp only [List.mem_singleton] at he;subst he;exact hok) (.av _ _) (.one _ _) (by omega) (by omega)
theorem bDd (k:Nat) (hT:TOk P T) {bt e:TypeId} {len:Nat} {parts:Array (Nat × Operand)} {ti ei:TI} {es:List (List AV)} (h1:T bt=some ti) (h2:ti.desc = .slice e) (h3:T e=some ei)
  (hel:Els (evA N ⟨t,h⟩) ei.size 0 parts.toList es) (hlen:Nat.beq es.length len=true) (hpos:Nat.blt 0 (len*ei.size)=true) (hsm:Nat.ble (len*ei.size) 16777216=true) (hk:h k = .no) :
  cQ P N ⟨some d, .buildSlice bt len parts,ty,pos,aft,g⟩ ⟨t,h⟩ (.own k 0 len) (upd h k (.live [⟨e,ei.size, .av es⟩])) ∧ ∀ k',h k' ≠ .no→upd h k (.live [⟨e,ei.size, .av es⟩]) k'=h k':=aPo k hT h1 h2 h3 hel hlen hpos hsm (.av es) hk
theorem pbl (hT:TOk P T) {bt:TypeId} {parts:Array (Nat × Operand)} {ti:TI} {fs:Array Field} {pl:List (Nat × Nat)} {C0 C:List AV} (h1:T bt=some ti) (h2:ti.desc = .struct fs) (h4:aAd ti.zero.cells.toList=C0)
  (h3:Plc T fs.toList pl:=by repeat (first | exact Plc.nil | apply Plc.cons rfl)) (h5:Bld (fun i=>pl[i]?) (evA N ⟨t,h⟩) C0 parts.toList C:=by repeat (first | exact Bld.nil _ | apply Bld.cons (cs:=[.d _]) rfl rfl rfl rfl (by repeat (first | exact Spl.z _ | apply Spl.t | apply Spl.d)) | apply Bld.cons (cs:=[.own _ _ _]) rfl rfl rfl rfl (by repeat (first | exact Spl.z _ | apply Spl.t | apply Spl.d)) | apply Bld.cons (cs:=[.ptr _ _ _ _ _]) rfl rfl rfl rfl (by repeat (first | exact Spl.z _ | apply Spl.t | apply Spl.d)) | apply Bld.cons (cs:=[.fn _ _]) rfl rfl rfl rfl (by repeat (first | exact Spl.z _ | apply Spl.t | apply Spl.d)) | apply Bld.cons (cs:=_ :: _) rfl rfl rfl rfl (by repeat (first | exact Spl.z _ | apply Spl.t | apply Spl.d)))):eC P N ⟨some d, .build bt parts,ty,pos,aft,g⟩ ⟨t,h⟩ (.agg C):=aWi hT h1 h2 h3 h4 h5
theorem aEa {id:Nat} {is:List Nat} (ms:List Nat) (hm:P.follows .mixedOrders=true) (hms:aMv ops.toList []=ms) (h:RT P N ops is (fun l σ'=>aJu ops ms l=true ∧ ∃ σ'',lJ L N σ' σ''∧Q .normal σ'') σ):AW L P N (.region id ops true) Q σ:=fun E a w A =>
 wp_mono (tB (L:=L) (Q:=fun e σ'=>match e with | .normal => ∃ σ'',lJ L N σ' σ''∧Q .normal σ'' | e=>Q e σ') ms hm hms h E a w A) fun e a w q=>by
  cases e with
  | normal=>obtain ⟨σ',A', σ'',hw,hq⟩:=q;exact ⟨σ'',hw E a w A',hq⟩
  | _=>exact q
inductive aU2:List AV→List DV→Prop
 | nil:aU2 [] []
 | cons {x:DV} {cs:List AV} {ds:List DV} (h:aU2 cs ds):aU2 (.d x :: cs) (x :: ds)
 | niln {cs:List AV} {ds:List DV} (h:aU2 cs ds):aU2 (.d (.v (.slice none 0 0)) :: cs) (.sl [] :: ds)
inductive aRq:List (List AV)→List (List DV)→Prop
 | nil:aRq [] []
 | cons {c:List AV} {x:List DV} {cs:List (List AV)} {ds:List (List DV)} (h:aU2 c x) (k:aRq cs ds):aRq (c :: cs) (x :: ds)
theorem aO4 {w:World} {F:Nat→Prop} {μ:bJ} {h:dG} {v:Value} (r:eP w F μ h v (.d (.v (.slice none 0 0)))):eP w F μ h v (.d (.sl [])):=by
 cases r with | d _ _ hd=>cases hd with | v _ h1=>exact .d _ _ .nil
theorem aU2.spec {cs:List AV} {ds:List DV} (q:aU2 cs ds):cs.length=ds.length ∧ ∀ (j:Nat) y,ds[j]? = some y → ∃ c,cs[j]? = some c ∧ ∀ (w:World) F μ h v,eP w F μ h v c→eP w F μ h v (.d y):=by
 induction q with
 | nil=>exact ⟨rfl,fun j y hy=>by simp at hy⟩
 | cons h ih =>
  refine ⟨by simp [ih.1],fun j y hy => ?_⟩
  cases j with
  | zero=>simp at hy;subst hy;exact ⟨_,rfl,fun _ _ _ _ _ r=>r⟩
  | succ j=>simpa using ih.2 j y (by simpa using hy)
 | niln h ih =>
  refine ⟨by simp [ih.1],fun j y hy => ?_⟩
  cases j with
  | zero=>simp at hy;subst hy;exact ⟨_,rfl,fun _ _ _ _ _ r=>aO4 r⟩
  | succ j=>simpa using ih.2 j y (by simpa using hy)
theorem aRq.spec {cs:List (List AV)} {ds:List (List DV)} (q:aRq cs ds):cs.length=ds.length ∧ ∀ (i:Nat) x,ds[i]? = some x → ∃ c,cs[i]? = some c∧aU2 c x:=by
 induction q with
 | nil=>exact ⟨rfl,fun j y hy=>by simp at hy⟩
 | cons h k ih =>
  refine ⟨by simp [ih.1],fun j y hy => ?_⟩
  cases j with
  | zero=>simp at hy;subst hy;exact ⟨_,rfl,h⟩
  | succ j=>simpa using ih.2 j y (by simpa using hy)
theorem aTh {K K':Value→World→Prop} {r:Result Next} (h:aD5 P K r) (m : ∀ u w',K u w'→K' u w'):aD5 P K' r:=by
 unfold aD5 at h ⊢
 revert h
 repeat' split
 all_goals first | exact fun h=>m _ _ h | exact fun h=>⟨h.1,m _ _ h.2⟩ | exact fun h=>Calls.mono h (fun e w1 ⟨v,e1,q⟩=>⟨v,e1,m _ _ q⟩) | exact fun h=>h.mono (fun e w1 ⟨v,e1,q⟩=>⟨v,e1,m _ _ q⟩) | exact fun h=>h
theorem bFp {α:Type} {k sz:Nat} {bt:TypeId} {c:α→List DV} {xs:List α} {o:Oper} (H1:cQ P N o ⟨t,h⟩ (.own k 0 xs.length) (upd h k (.live [⟨bt,sz, .data (xs.map c)⟩]))):cQ P N o ⟨t,h⟩ (.d (.sl (xs.map c))) (upd h k .dead):=by
 intro E F μ w ρ H st
 refine aTh (H1 E F μ w ρ H st) fun u w' ⟨F', μ',H',V,r⟩ => ?_
 have Z:FzH k (some (xs.map c)) none (upd h k (.live [⟨bt,sz, .data (xs.map c)⟩])) (upd h k .dead) :=
  ⟨⟨_,bR _ _ _,fun es e=>by injection e with e;subst e;rfl,fun ds e=>by cases e⟩,bR _ _ _,fun p hp => .inl (by rw [dE _ _ hp,dE _ _ hp])⟩
 exact ⟨_,_,aXt H' Z,V.trans (aSs Z),aSt H' Z r (.own rfl (by simp))⟩
theorem aOg {α:Type} (k:Nat) (hT:TOk P T) {bt e:TypeId} {len:Nat} {parts:Array (Nat × Operand)} {ti ei:TI} {es:List (List AV)} {ds:List (List DV)} (c:α→List DV) (xs:List α) (h1:T bt=some ti) (h2:ti.desc = .slice e) (h3:T e=some ei)
  (hel:Els (evA N ⟨t,h⟩) ei.size 0 parts.toList es) (hlen:Nat.beq es.length len=true) (hpos:Nat.blt 0 (len*ei.size)=true) (hsm:Nat.ble (len*ei.size) 16777216=true) (hcc:pH es ds) (hxs:ds=xs.map c) (hk:h k = .no) :
  cQ P N ⟨some d, .buildSlice bt len parts,ty,pos,aft,g⟩ ⟨t,h⟩ (.d (.sl (xs.map c))) (upd h k .dead) ∧ ∀ k',h k' ≠ .no→upd h k .dead k'=h k' :=
 ⟨bFp (aXm k hT c xs h1 h2 h3 hel hlen hpos hsm hcc hxs hk).1,wO hk⟩
end
end Go.Proofs.YtbliejnpjpnahaaGreatDoor
namespace Go.Proofs.YtbliejnpjpnahaaGreatDoor
def aTc:ByteArray:=⟨#[45]⟩
def aAf (s:ByteArray):ByteArray:=⟨(Lib.trimPrefix s.data.toList aTc.data.toList).toArray⟩
def aSh (n:Int):ByteArray:=⟨(Lib.itoa n).toArray⟩
def aNi (s:ByteArray):Int × Bool:=if (aAf s).size<1∨18<(aAf s).size then (0,false) else
 match Lib.parseIntB 64 s.data.toList with
 | .ok n=>if aSh n=s then (n,true) else (0,false)
 | _=>(0,false)
def bDs (m:Nat) (v:Int) (a:Int × Int × Int):Int × Int × Int:=match m with
 | 0=>(v,a.2.1,a.2.2)
 | 1=>(a.1,v,a.2.2)
 | 2=>(a.1,a.2.1,v)
 | _=>a
end Go.Proofs.YtbliejnpjpnahaaGreatDoor
namespace Go.Proofs.YtbliejnpjpnahaaGreatDoor
def aY0 (x:Int):List Int→List Int
 | []=>[x]
 | y :: ys=>if x≤y then x :: y :: ys else y :: aY0 x ys
def oA:List Int→List Int
 | []=>[]
 | x :: xs=>aY0 x (oA xs)
theorem aE4 (x:Int) : ∀ l:List Int,(aY0 x l).Perm (x :: l)
 | [] => .refl _
 | y :: ys=>by
  unfold aY0
  split
  ·exact .refl _
  ·exact ((aE4 x ys).cons y).trans (.swap x y ys)
theorem aB5 : ∀ xs:List Int,(oA xs).Perm xs
 | [] => .refl _
 | x :: xs=>(aE4 x _).trans ((aB5 xs).cons x)
theorem aS3 (x:Int) : ∀ {l:List Int},l.Pairwise (· ≤ ·)→(aY0 x l).Pairwise (· ≤ ·)
 | [],_=>by unfold aY0;simp
 | y :: ys,h=>by
  unfold aY0
  rw [List.pairwise_cons] at h
  split
  ·next hxy =>
   refine List.pairwise_cons.2 ⟨fun z hz => ?_,List.pairwise_cons.2 h⟩
   rcases List.mem_cons.1 hz with rfl | hz
   ·exact hxy
   ·exact Int.le_trans hxy (h.1 z hz)
  ·next hxy =>
   refine List.pairwise_cons.2 ⟨fun z hz => ?_,aS3 x h.2⟩
   rcases List.mem_cons.1 ((aE4 x ys).mem_iff.1 hz) with rfl | hz
   ·omega
   ·exact h.1 z hz
theorem aPl : ∀ xs:List Int,(oA xs).Pairwise (· ≤ ·)
 | []=>List.Pairwise.nil
 | x :: xs=>aS3 x (aPl xs)
theorem aFn (xs:List Int):oA xs=xs.mergeSort fun x y=>decide (x≤y):=by
 refine List.Perm.eq_of_pairwise (fun a b _ _ h1 h2=>by omega) (aPl xs) ?_ ((aB5 xs).trans (List.mergeSort_perm ..).symm)
 have:=List.pairwise_mergeSort (le:=fun (x y:Int)=>decide (x≤y)) (fun a b c h1 h2=>by simp at *;omega) (fun a b=>by simp;omega) xs
 simpa using this
theorem xU (xs:List Int):(oA xs).length=xs.length:=(aB5 xs).length_eq
def zL (xs:List Int):List Int:=Go.Lib.compact (oA xs)
end Go.Proofs.YtbliejnpjpnahaaGreatDoor
namespace Go.Proofs.YtbliejnpjpnahaaGreatDoor
def uR (low:Int) (l:List Int):Int:=l.getLast?.getD low
def aFy (low high:Int) (l:List Int):List (List Int):=(List.range (high+1-uR low l).toNat).map fun (i:Nat)=>l++[uR low l+(i:Int)]
def bY (low high:Int):Nat→List (List Int)
 | 0=>[[]]
 | k+1=>(bY low high k).flatMap (aFy low high)
def eK (l:List Int):Int:=l.foldl (· * ·) 1
def iY (ls:List (List Int)):List Int:=ls.foldl (fun acc l=>if eK l ∈ acc then acc else acc++[eK l]) []
def aRn (ls:List (List Int)) (p:Int):List (List Int):=ls.filter fun l=>decide (eK l=p)
end Go.Proofs.YtbliejnpjpnahaaGreatDoor
