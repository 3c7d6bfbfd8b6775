/- Texts of this claim, one behind the other (merged by a program of mine). -/
import Derived.Scope
import Derived.Laws.StructEq
import Derived.WalkKit
import Derived.Laws.Tables
import Derived.Great.BuildSlice
import Derived.Laws.Slices
import Derived.Laws.Strings
import Derived.Test.YtbliejnpjpnahaaGreatDoorGCz1
set_option linter.unusedSimpArgs false
set_option linter.unusedVariables false
namespace Go.Proofs.YtbliejnpjpnahaaGreatDoor
open Go.RowKit
set_option linter.unusedVariables false
set_option maxRecDepth 100000
section
variable {P:Program} {L N:Nat} {ops:Array Oper} {E:Env}
def aKk (ms:List Nat) (o:Oper):Nat:=o.after.toList.foldl (fun a e=>bif Region.binds .any e then Nat.lor a (Nat.lor (Nat.shiftLeft 1 e.on) (ms.getD e.on 0)) else a) 0
def aMv:List Oper→List Nat→List Nat
 | [],ms=>ms
 | o :: os,ms=>aMv os (ms++[aKk ms o])
def bAs (ops:Array Oper) (listed:Array Bool):Prop := ∀ i o,ops[i]? = some o→listed.getD i false=true → ∀ e ∈ o.after,Region.binds .any e=true→listed.getD e.on false=true
def bCm (ops:Array Oper) (ms:List Nat):Prop := ∀ i o j,ops[i]? = some o→(ms.getD i 0).testBit j=true → ∀ listed,bAs ops listed→(∀ e ∈ o.after,Region.binds .any e=true→listed.getD e.on false=true)→listed.getD j false=true
theorem aQs {ms:List Nat} {j:Nat} (es:List Edge) : ∀ a:Nat,(es.foldl (fun a e=>bif Region.binds .any e then Nat.lor a (Nat.lor (Nat.shiftLeft 1 e.on) (ms.getD e.on 0)) else a) a).testBit j=true→a.testBit j=true ∨ ∃ e ∈ es,Region.binds .any e=true∧(e.on=j∨(ms.getD e.on 0).testBit j=true):=by
 induction es with
 | nil=>intro a h;exact .inl h
 | cons e es ih =>
  intro a h
  rw [List.foldl_cons] at h
  rcases ih _ h with h | ⟨e2,he,hb,h⟩
  ·cases hb:Region.binds .any e
   ·rw [hb] at h;exact .inl h
   ·rw [hb] at h
    simp only [cond_true] at h
    have h:(a ||| (1 <<< e.on ||| ms.getD e.on 0)).testBit j=true:=h
    rw [Nat.testBit_or,Nat.testBit_or,Bool.or_eq_true,Bool.or_eq_true] at h
    rcases h with h | h | h
    ·exact .inl h
    ·refine .inr ⟨e,List.mem_cons_self ..,hb, .inl ?_⟩
     rw [Nat.one_shiftLeft,Nat.testBit_two_pow] at h
     exact of_decide_eq_true h
    ·exact .inr ⟨e,List.mem_cons_self ..,hb, .inr h⟩
  ·exact .inr ⟨e2,List.mem_cons_of_mem _ he,hb,h⟩
theorem aKl {ops:Array Oper} : ∀ (os pre:List Oper) (ms:List Nat),ops.toList=pre++os→ms.length=pre.length→bCm ops ms→bCm ops (aMv os ms)
 | [],pre,ms,_,_,h=>h
 | o :: os,pre,ms,e,hl,h=>by
  refine aKl os (pre++[o]) (ms++[aKk ms o]) (by rw [e];simp) (by simp [hl]) ?_
  intro i oi j ho hb listed hc hr
  rcases Nat.lt_trichotomy i ms.length with hi | hi | hi
  ·rw [List.getD_eq_getElem?_getD,List.getElem?_append_left hi, ← List.getD_eq_getElem?_getD] at hb
   exact h i oi j ho hb listed hc hr
  ·subst hi
   have h2:ops[ms.length]? = some o:=by
    rw [← Array.getElem?_toList,e,hl,List.getElem?_append_right (Nat.le_refl _)];simp
   rw [h2] at ho
   injection ho with ho
   subst ho
   have e3:(ms++[aKk ms o]).getD ms.length 0=aKk ms o:=by simp [List.getD_eq_getElem?_getD]
   rw [e3] at hb
   rcases aQs o.after.toList 0 hb with h3 | ⟨e4,he,hb4,h3 | h3⟩
   ·simp at h3
   ·rw [← h3];exact hr e4 (Array.mem_toList_iff.1 he) hb4
   ·have hl4:=hr e4 (Array.mem_toList_iff.1 he) hb4
    cases ho4:ops[e4.on]? with
    | none =>
     exfalso
     rw [← Array.getElem?_toList,e,List.getElem?_eq_none_iff] at ho4
     rw [List.getD_eq_getElem?_getD,List.getElem?_eq_none (by simp at ho4;omega)] at h3
     simp at h3
    | some o4=>exact h e4.on o4 j ho4 h3 listed hc (hc e4.on o4 ho4 hl4)
  ·have e3:(ms++[aKk ms o]).getD i 0=0:=by rw [List.getD_eq_getElem?_getD,List.getElem?_eq_none (by simp;omega)];rfl
   rw [e3] at hb
   simp at hb
theorem aV9 {ops:Array Oper} {ms:List Nat} (h:aMv ops.toList []=ms):bCm ops ms:=by
 subst h
 exact aKl ops.toList [] [] rfl rfl fun i o j _ hb=>by simp at hb
def aM6 (ops:Array Oper) (ms:List Nat) (x y:Nat × Cls):Bool :=
 match ops[x.1]?,ops[y.1]? with
 | some ox,some oy=>x.1 != y.1 && ((ms.getD y.1 0).testBit x.1 || (ox.apart ops oy && x.2.ok y.2)) && ox.after.all fun e => !Region.binds .any e || e.on != y.1
 | _,_=>false
def aPb (ops:Array Oper) (ms:List Nat):List (Nat × Cls)→Bool
 | []=>true
 | x :: l=>l.all (aM6 ops ms x) && aPb ops ms l
def bDr (ops:Array Oper) (x:Nat × Cls):Bool :=
 match ops[x.1]? with
 | some o=>o.after.all fun e=>e.on != x.1 && Nat.blt e.on ops.size
 | none=>false
def aJu (ops:Array Oper) (ms:List Nat) (l:List (Nat × Cls)):Bool:=((List.range ops.size).all fun i=>l.any fun x=>x.1 == i) && l.length == ops.size && l.all (bDr ops) && aPb ops ms l
theorem aFc {ms:List Nat} : ∀ {l:List (Nat × Cls)},aPb ops ms l=true→l.Pairwise fun x y=>aM6 ops ms x y=true
 | [],_ => .nil
 | x :: l,h=>by
  simp only [aPb,Bool.and_eq_true,List.all_eq_true] at h
  exact .cons h.1 (aFc h.2)
theorem aCe {i:Nat} {c:Cls} {oi:Oper} (hi:ops[i]? = some oi) {l2:List (Nat × Cls)} {σ':AS} : ∀ {l1:List (Nat × Cls)} {σ:AS},aD3 P N ops (l1++(i,c) :: l2) σ σ' →
  (∀ x ∈ l1, ∀ ox,ops[x.1]? = some ox→ox.apart ops oi=true∧x.2.ok c=true) → ∃ σ1,gD P N ops oi σ c σ1∧aD3 P N ops (l1++l2) σ1 σ'
 | [], σ,h,_=>by
  cases h with | cons _ _ _ o _ σ1 _ ho hs hr =>
  rw [hi] at ho
  injection ho with ho
  subst ho
  exact ⟨σ1,hs,hr⟩
 | x :: l1, σ,h,hx=>by
  cases h with | cons j cj _ o _ σ1 _ ho hs hr =>
  obtain ⟨σ2,s2,r2⟩:=aCe hi hr fun y hy=>hx y (List.mem_cons_of_mem _ hy)
  obtain ⟨a1,a2⟩:=hx (j,cj) (List.mem_cons_self ..) o ho
  obtain ⟨σ3,s3,s4⟩:=hs.comm s2 a1 a2
  exact ⟨σ3,s3, .cons j cj _ o _ σ2 _ ho s4 r2⟩
theorem aJn {ms:List Nat} (hms:bCm ops ms) {Q:Exit→Act→World→Prop} {σ':AS} (hQ : ∀ a' w',Abs L E N σ' a' w'→Q .normal a' w') : ∀ (n:Nat) (l:List (Nat × Cls)) (listed:Array Bool) (a:Act) (w:World) (σ:AS),l.length=n →
  (l.Pairwise fun x y=>aM6 ops ms x y=true)→(∀ x ∈ l,bDr ops x=true)→listed.size=ops.size→(∀ i,i<ops.size→(listed.getD i true=false ↔ ∃ c,(i,c) ∈ l)) →
  (∀ i o,ops[i]? = some o→listed.getD i false=true → ∀ e ∈ o.after,Region.binds .any e=true→listed.getD e.on false=true) →
  aD3 P N ops l σ σ'→Abs L E N σ a w→wpAny P .any ops Q n listed a w:=by
 intro n
 induction n with
 | zero =>
  intro l listed a w σ hl _ _ hsz hlist _ C A
  have:l=[]:=List.eq_nil_of_length_eq_zero hl
  subst this
  cases C
  refine ⟨List.eq_nil_iff_forall_not_mem.2 fun j hj => ?_,hQ _ _ A⟩
  obtain ⟨h1,o,ho,_⟩:=mem_ready.1 hj
  obtain ⟨c,hc⟩:=(hlist j (Array.getElem?_eq_some_iff.1 ho).1).1 h1
  cases hc
 | succ n ih =>
  intro l listed a w σ hl hp hone hsz hlist hcl C A
  have inout : ∀ i,i<ops.size→(¬ ∃ c,(i,c) ∈ l)→listed.getD i false=true:=fun i hi hno=>by
   have : ¬ listed.getD i true=false:=fun e=>hno ((hlist i hi).1 e)
   have hlt:i<listed.size:=by omega
   simpa [Array.getD,hlt] using this
  refine ⟨fun hr => ?_,fun i hi => ?_⟩
  ·exfalso
   match l,hl with
   | (i,c) :: l',_ =>
    have h1:=hone (i,c) (List.mem_cons_self ..)
    unfold bDr at h1
    cases ho:ops[i]? with
    | none=>simp [ho] at h1
    | some o =>
     simp only [ho,Array.all_eq_true_iff_forall_mem,Bool.and_eq_true,bne_iff_ne] at h1
     have:i ∈ Region.ready .any ops listed:=by
      refine mem_ready.2 ⟨(hlist i (Array.getElem?_eq_some_iff.1 ho).1).2 ⟨c,List.mem_cons_self ..⟩,o,ho,fun e he hb => ?_⟩
      obtain ⟨e1,e2⟩:=h1 e he
      refine inout e.on (by simp [Nat.blt] at e2;omega) ?_
      rintro ⟨c2,hc2⟩
      rcases List.mem_cons.1 hc2 with hc2 | hc2
      ·injection hc2 with h3 h4;exact e1 h3
      ·have:=(List.pairwise_cons.1 hp).1 _ hc2
       unfold aM6 at this
       simp only [ho] at this
       cases ho2:ops[e.on]? with
       | none=>simp [ho2] at this
       | some o2 =>
        simp only [ho2,Bool.and_eq_true,Array.all_eq_true_iff_forall_mem,Bool.or_eq_true,Bool.not_eq_true',bne_iff_ne] at this
        rcases this.2 e he with h5 | h5
        ·rw [hb] at h5;cases h5
        ·exact h5 rfl
     rw [hr] at this
     cases this
  ·obtain ⟨h1,o,ho,hdep⟩:=mem_ready.1 hi
   have hilt:i<ops.size:=(Array.getElem?_eq_some_iff.1 ho).1
   obtain ⟨c,hc⟩:=(hlist i hilt).1 h1
   obtain ⟨l1,l2,rfl⟩:=List.append_of_mem hc
   have hind : ∀ x ∈ l1, ∀ ox,ops[x.1]? = some ox→ox.apart ops o=true∧x.2.ok c=true:=fun x hx ox hox=>by
    have hpx:=(List.pairwise_append.1 hp).2.2 x hx (i,c) (List.mem_cons_self ..)
    unfold aM6 at hpx
    simp only [hox,ho,Bool.and_eq_true,Bool.or_eq_true] at hpx
    rcases hpx.1.2 with hd | hd
    ·exfalso
     have hxl:=hms i o x.1 ho hd listed hcl hdep
     have hxn:=(hlist x.1 (Array.getElem?_eq_some_iff.1 hox).1).2 ⟨x.2,List.mem_append_left _ hx⟩
     have hlt:x.1<listed.size:=by rw [hsz];exact (Array.getElem?_eq_some_iff.1 hox).1
     simp [Array.getD,hlt] at hxl hxn
     rw [hxl] at hxn;cases hxn
    ·exact hd
   obtain ⟨σ1,hs,hr⟩:=aCe ho C hind
   have hsub:(l1++l2).Sublist (l1++(i,c) :: l2):=List.Sublist.append_left (List.sublist_cons_self ..) l1
   have hnin : ∀ c',(i,c') ∉ l1++l2:=fun c' hm=>by
    rcases List.mem_append.1 hm with hm | hm
    ·have hpx:=(List.pairwise_append.1 hp).2.2 _ hm (i,c) (List.mem_cons_self ..)
     unfold aM6 at hpx
     simp [ho] at hpx
    ·have hpx:=(List.pairwise_cons.1 (List.pairwise_append.1 hp).2.1).1 _ hm
     unfold aM6 at hpx
     simp [ho] at hpx
   have key : ∀ a' w',Abs L E N σ1 a' w'→wpAny P .any ops Q n (listed.setIfInBounds i true) a' w':=fun a' w' A'=>by
    refine ih (l1++l2) _ a' w' σ1 (by simp at hl ⊢;omega) (hp.sublist hsub) (fun x hx=>hone x (hsub.subset hx)) (by simpa using hsz) (fun j hj => ?_) (fun j oj hoj hlj e he hb => ?_) hr A'
    ·by_cases e:i=j
     ·subst e
      constructor
      ·intro h;simp [Array.getD,hsz,hilt] at h
      ·rintro ⟨c',hc'⟩;exact absurd hc' (hnin c')
     ·rw [getD_set_ne true e,hlist j hj]
      constructor
      ·rintro ⟨c',hc'⟩
       refine ⟨c',?_⟩
       rcases List.mem_append.1 hc' with hm | hm
       ·exact List.mem_append_left _ hm
       ·rcases List.mem_cons.1 hm with hm | hm
        ·injection hm with h3 h4;exact absurd h3.symm e
        ·exact List.mem_append_right _ hm
      ·rintro ⟨c',hc'⟩;exact ⟨c',hsub.subset hc'⟩
    ·by_cases ee:i=j
     ·subst ee
      rw [ho] at hoj
      injection hoj with hoj
      subst hoj
      exact getD_set_true (hdep e he hb)
     ·rw [getD_set_ne false ee] at hlj
      exact getD_set_true (hcl j oj hoj hlj e he hb)
   have:=hs.sound A (K:=wpAny P .any ops Q n (listed.setIfInBounds i true)) (Q:=Q) key
   unfold wpOp
   simp only [ho]
   split
   ·rename_i hw;rw [if_pos hw] at this;exact .inl this
   ·rename_i hw;rw [if_neg hw] at this;exact this
inductive qL where
 | normal
 | exit (id:Nat)
 | goto (l:Nat)
 | ret
def bAl (L:Nat) (E:Env) (N:Nat) (Q:qL→AS→Prop):Exit→Act→World→Prop
 | .normal,a,w => ∃ σ,Abs L E N σ a w∧Q .normal σ
 | .exit i,a,w => ∃ σ,Abs L E N σ a w∧Q (.exit i) σ
 | .goto l,a,w => ∃ σ,Abs L E N σ a w∧Q (.goto l) σ
 | .ret,a,w => ∃ σ,Abs L E N σ a w∧Q .ret σ
 | _,_,_=>False
def AW (L:Nat) (P:Program) (N:Nat) (c:Code) (Q:qL→AS→Prop) (σ:AS):Prop := ∀ E a w,Abs L E N σ a w→c.wp P (bAl L E N Q) a w
def zS (K:AS→Prop) (Q:qL→AS→Prop):qL→AS→Prop
 | .normal, σ=>K σ
 | e, σ=>Q e σ
def yJ (id:Nat) (Q:qL→AS→Prop):qL→AS→Prop
 | .exit i, σ=>if i=id then Q .normal σ else Q (.exit i) σ
 | e, σ=>Q e σ
variable {Q:qL→AS→Prop} {σ:AS} {c x y:Code}
theorem AW.mono {Q':qL→AS→Prop} (h:AW L P N c Q σ) (hq : ∀ e σ,Q e σ→Q' e σ):AW L P N c Q' σ:=fun E a w A =>
 wp_mono (h E a w A) fun e a w q=>by cases e <;> first | (obtain ⟨σ',A',q'⟩:=q;exact ⟨σ',A',hq _ _ q'⟩) | exact q
theorem aR0 (h:Q .normal σ):AW L P N .skip Q σ:=fun E a w A=>wp_skip ⟨σ,A,h⟩
theorem aYj {i:Nat} (h:Q (.exit i) σ):AW L P N (.exit i) Q σ:=fun E a w A=>wp_exit ⟨σ,A,h⟩
theorem bAy (h:Q .ret σ):AW L P N .ret Q σ:=fun E a w A=>wp_ret ⟨σ,A,h⟩
theorem aOd (h:AW L P N x (zS (fun σ=>AW L P N y Q σ) Q) σ):AW L P N (.seq x y) Q σ:=fun E a w A =>
 wp_seq (wp_mono (h E a w A) fun e a w q=>by
  cases e with
  | normal=>obtain ⟨σ',A',q'⟩:=q;exact q' E a w A'
  | exit i=>exact q
  | goto l=>exact q
  | ret=>exact q
  | panic ch=>exact q
  | outgrown=>exact q)
theorem aVa {id:Nat} (h:AW L P N c (yJ id Q) σ):AW L P N (.block id c) Q σ:=fun E a w A =>
 wp_block (wp_mono (h E a w A) fun e a w q=>by
  cases e with
  | exit i =>
   obtain ⟨σ',A',q'⟩:=q
   simp only [Exit.inBlock,yJ] at q' ⊢
   split
   ·rename_i e;rw [if_pos e] at q';exact ⟨σ',A',q'⟩
   ·rename_i e;rw [if_neg e] at q';exact ⟨σ',A',q'⟩
  | normal=>exact q
  | goto l=>exact q
  | ret=>exact q
  | panic ch=>exact q
  | outgrown=>exact q)
theorem aVg {F:Nat→Prop} {μ:bJ} {a:Act} {w:World} {b:Bool} {o:Operand} (A:aRp L E N F μ σ a w) (hb:evA N σ o = .d (.v (.bool b))):a.eval o = .bool b:=by
 have hr:=aEj A o
 rw [hb] at hr
 generalize a.eval o=v at hr
 cases hr with | d _ _ hd=>cases hd;rfl
theorem aHl {o:Operand} (b:Bool) (hb:evA N σ o = .d (.v (.bool b))) (ht:b=true→AW L P N x Q σ) (hf:b=false→AW L P N y Q σ):AW L P N (.cond o x y) Q σ:=fun E a w ⟨F, μ,A⟩ =>
 wp_cond_split (aVg A hb) (fun e=>ht e E a w ⟨F, μ,A⟩) (fun e=>hf e E a w ⟨F, μ,A⟩)
theorem aVb {o:Operand} (p:Prop) [Decidable p] (hb:evA N σ o = .d (.v (.bool (decide p)))) (ht:p→AW L P N x Q σ) (hf : ¬ p→AW L P N y Q σ):AW L P N (.cond o x y) Q σ :=
 aHl (decide p) hb (fun e=>ht (by simpa using e)) (fun e=>hf (by simpa using e))
theorem zX {o:Operand} (hb:evA N σ o = .d (.v (.bool true))) (ht:AW L P N x Q σ):AW L P N (.cond o x y) Q σ:=aHl true hb (fun _=>ht) (fun e=>by cases e)
theorem pJ {o:Operand} (hb:evA N σ o = .d (.v (.bool false))) (hf:AW L P N y Q σ):AW L P N (.cond o x y) Q σ:=aHl false hb (fun e=>by cases e) (fun _=>hf)
def lJ (L:Nat) (N:Nat) (σ σ':AS):Prop := ∀ E a w,Abs L E N σ a w→Abs L E N σ' a w
theorem lJ.refl_:lJ L N σ σ:=fun _ _ _ A=>A
theorem lJ.trans_ {σ1 σ2 σ3:AS} (h:lJ L N σ1 σ2) (h':lJ L N σ2 σ3):lJ L N σ1 σ3:=fun E a w A=>h' E a w (h E a w A)
theorem bL {σ':AS} (hw:lJ L N σ σ') (h:AW L P N c Q σ'):AW L P N c Q σ:=fun E a w A=>h E a w (hw E a w A)
theorem aYk {ι:Type} (S:ι→AS) (m:ι→Nat) (i0:ι) (h0:lJ L N σ (S i0)) (round : ∀ i,AW L P N c (zS (fun σ' => ∃ j,m j<m i∧lJ L N σ' (S j)) Q) (S i)):AW L P N (.loop c) Q σ:=by
 intro E a w A b k cs
 have key : ∀ n i a w,m i=n→Abs L E N (S i) a w → ∃ e a' w',bAl L E N Q e a' w'∧Arrives P (lone (b.at a (.code c :: .inLoop c :: k)) cs w) b k cs e a' w':=by
  intro n
  induction n using Nat.strongRecOn with
  | _ n ih =>
   intro i a w hn hI
   obtain ⟨e,a₁,w₁,hq,harr⟩:=round i E a w hI b (.inLoop c :: k) cs
   cases e with
   | normal =>
    obtain ⟨σ',A',j,hlt,hw⟩:=hq
    obtain ⟨e₂,a₂,w₂,hq₂,harr₂⟩:=ih (m j) (hn ▸ hlt) j a₁ w₁ rfl (hw E a₁ w₁ A')
    exact ⟨e₂,a₂,w₂,hq₂, .of_steps (Steps.trans harr (.one step_inLoop)) harr₂⟩
   | exit id=>exact ⟨.exit id,a₁,w₁,hq, .pass (x := .inLoop c) rfl (fun _ _ => .inl (by simp)) harr⟩
   | goto l=>exact ⟨.goto l,a₁,w₁,hq, .pass (x := .inLoop c) rfl (fun _ _ => .inl (by simp)) harr⟩
   | ret=>exact ⟨.ret,a₁,w₁,hq, .pass (x := .inLoop c) rfl (fun _ _ => .inl (by simp)) harr⟩
   | panic ch=>exact hq.elim
   | outgrown=>exact hq.elim
 obtain ⟨e,a',w',hq,harr⟩:=key _ i0 a w rfl (h0 E a w A)
 exact ⟨e,a',w',hq, .of_steps (.one step_loop) harr⟩
def RT (P:Program) (N:Nat) (ops:Array Oper) (is:List Nat) (K:List (Nat × Cls)→AS→Prop) (σ:AS):Prop := ∃ l σ',l.map (·.1)=is∧aD3 P N ops l σ σ'∧K l σ'
theorem aCy {K:List (Nat × Cls)→AS→Prop} (h:K [] σ):RT P N ops [] K σ:=⟨[], σ,rfl, .nil σ,h⟩
theorem qH {i:Nat} {is:List Nat} {o:Oper} {cl:Cls} {σ1:AS} {K:List (Nat × Cls)→AS→Prop} (ho:ops[i]? = some o) (hs:gD P N ops o σ cl σ1) (h:RT P N ops is (fun l σ'=>K ((i,cl) :: l) σ') σ1):RT P N ops (i :: is) K σ:=by
 obtain ⟨l, σ',e,C,hk⟩:=h
 exact ⟨(i,cl) :: l, σ',by simp [e], .cons i cl l o σ σ1 σ' ho hs C,hk⟩
theorem Abs.drew_ {a:Act} {w:World} (A:Abs L E N σ a w):Abs L E N σ a { w with drawn:=w.drawn+1 }:=by
 obtain ⟨F, μ,A⟩:=A
 obtain ⟨H,V⟩:=A.H.drew
 exact ⟨F, μ,H,A.df,A.sz,fun t ht=>(A.tm t ht).evo V,A.lim⟩
theorem tB {id:Nat} {is:List Nat} (ms:List Nat) (hm:P.follows .mixedOrders=true) (hms:aMv ops.toList []=ms) (h:RT P N ops is (fun l σ'=>aJu ops ms l=true∧Q .normal σ') σ):AW L P N (.region id ops true) Q σ:=fun E a w A=>by
 obtain ⟨l, σ',e,C,hok,hk⟩:=h
 simp only [aJu,Bool.and_eq_true,List.all_eq_true,beq_iff_eq,List.any_eq_true,List.mem_range] at hok
 obtain ⟨⟨⟨h1,h2⟩,h3⟩,h4⟩:=hok
 refine wp_region_any hm ?_
 rw [← h2]
 refine aJn (aV9 hms) (σ':=σ') (fun a' w' A'=>⟨σ',A',hk⟩) l.length l _ a _ σ rfl (aFc h4) h3 (by simp [h2]) (fun i hi => ?_) (fun i o ho hl => ?_) C A.drew_
 ·obtain ⟨x,hx,hxi⟩:=h1 i hi
  refine ⟨fun _=>⟨x.2,by rw [← hxi];exact hx⟩,fun _ => ?_⟩
  simp [Array.getD,h2,hi]
 ·exfalso
  have hi:i<ops.size:=(Array.getElem?_eq_some_iff.1 ho).1
  simp [Array.getD,h2,hi] at hl
theorem aYc {K:AS→Prop} (h:K σ):zS K Q .normal σ:=h
theorem aR5 {id:Nat} (h:Q .normal σ):yJ id Q (.exit id) σ:=by simp only [yJ,if_true];exact h
theorem aHo {id i:Nat} (hne:Nat.beq i id=false) (h:Q (.exit i) σ):yJ id Q (.exit i) σ:=by
 have:i≠id:=fun e=>by subst e;simp at hne
 simp only [yJ,if_neg this];exact h
end
end Go.Proofs.YtbliejnpjpnahaaGreatDoor
namespace Go.Proofs.YtbliejnpjpnahaaGreatDoor
open Go.RowKit
set_option linter.unusedVariables false
set_option maxRecDepth 100000
structure TI where
 desc:TypeDesc
 size:Nat
 bytes:Nat
 zero:Value
def iK (P:Program) (t:TypeId) (ti:TI):Prop:=P.underlying t=some ti.desc ∧ ∃ i,P.info? t=some i∧i.size=ti.size∧i.bytes=ti.bytes∧i.zero=some ti.zero
def bCg (P:Program) (t:TypeId):Option (TypeDesc × Nat × Nat × Option Value) :=
 match P.underlying t,P.info? t with
 | some d,some i=>some (d,i.size,i.bytes,i.zero)
 | _,_=>none
theorem aV {P:Program} {t:TypeId} {d:TypeDesc} {n b:Nat} {z:Value} (h:bCg P t=some (d,n,b,some z)):iK P t ⟨d,n,b,z⟩:=by
 unfold bCg at h
 split at h
 ·rename_i d' i h1 h2
  simp only [Option.some.injEq,Prod.mk.injEq] at h
  obtain ⟨rfl,rfl,rfl,hz⟩:=h
  exact ⟨h1,i,h2,rfl,rfl,hz⟩
 ·cases h
abbrev Tab:=Nat→Option TI
def TOk (P:Program) (T:Tab):Prop := ∀ t ti,T t=some ti→iK P t ti
theorem bAc (P:Program):TOk P (fun _=>none):=fun t ti h=>by cases h
def iN (T:Tab) (t:Nat) (ti:TI):Tab:=fun t'=>bif Nat.beq t' t then some ti else T t'
theorem aU {P:Program} {T:Tab} {t:Nat} {ti:TI} (h:TOk P T) (hi:iK P t ti):TOk P (iN T t ti):=fun t' ti' h'=>by
 unfold iN at h'
 cases hb:Nat.beq t' t with
 | true =>
  rw [Nat.beq_eq] at hb
  subst hb
  simp at h'
  subst h'
  exact hi
 | false=>rw [hb] at h';exact h t' ti' h'
section
variable {P:Program} {T:Tab} {L N:Nat} {ops:Array Oper} {E:Env} {σ:AS} {K:List (Nat × Cls)→AS→Prop} {i:Nat} {is:List Nat}
theorem oB {a b:Nat} (h:Nat.blt a b=true):a<b:=Nat.le_of_ble_eq_true h
theorem dN {d N:Nat} (h:Nat.blt d N=true) : ∀ d',(some d:Option Tmp)=some d'→d'<N:=fun d' e=>by
 injection e with e
 subst e
 exact oB h
theorem aUt {o:Oper} {j t:Nat} {b:Bool} (h:o.guard=some (j,b)) (hj:(ops[j]?).bind (·.dst)=some t) (ht:Nat.blt t N=true) (hb:σ.t t = .d (.v (.bool b))):yX N ops o σ :=
 .inr ⟨j,b,t,h,hj,oB ht,hb⟩
variable {t:Nat→AV} {h:dG} {d:Tmp} {op:Op} {ty:TypeId} {pos:String} {aft:Array Edge} {g:Option (Nat × Bool)}
theorem aT8 {j u:Nat} {want:Bool} (ho:ops[i]? = some ⟨some d,op,ty,pos,aft,some (j,want)⟩) (hj:(ops[j]?).bind (·.dst)=some u) (hu:Nat.blt u N=true) (hb:t u = .d (.v (.bool !want))∨t u = .tup [])
  (hd:Nat.blt d N=true) (k:RT P N ops is (fun l σ'=>K ((i, .pu) :: l) σ') ⟨aA t d (.tup []),h⟩):RT P N ops (i :: is) K ⟨t,h⟩ :=
 qH ho (.skip (dN hd) j want u rfl hj (oB hu) hb) k
theorem aT7 {u:Nat} {b:Bool} (hb:t u = .d (.v (.bool b))) (ht:b=true→RT P N ops is K ⟨aA t u (.d (.v (.bool true))),h⟩) (hf:b=false→RT P N ops is K ⟨aA t u (.d (.v (.bool false))),h⟩):RT P N ops is K ⟨t,h⟩:=by
 have e:t=aA t u (.d (.v (.bool b))):=by
  funext t'
  by_cases e:t'=u
  ·subst e;rw [gC];exact hb
  ·rw [kS _ _ e]
 cases b with
 | true=>rw [e];exact ht rfl
 | false=>rw [e];exact hf rfl
theorem aWo {u:Nat} {p:Prop} [Decidable p] (hb:t u = .d (.v (.bool (decide p)))) (ht:p→RT P N ops is K ⟨aA t u (.d (.v (.bool true))),h⟩) (hf : ¬ p→RT P N ops is K ⟨aA t u (.d (.v (.bool false))),h⟩):RT P N ops is K ⟨t,h⟩ :=
 aT7 hb (fun e=>ht (by simpa using e)) (fun e=>hf (by simpa using e))
theorem aWp {r:AV} (ho:ops[i]? = some ⟨some d,op,ty,pos,aft,g⟩) (hw:yX N ops ⟨some d,op,ty,pos,aft,g⟩ ⟨t,h⟩) (hd:Nat.blt d N=true) (hp:eC P N ⟨some d,op,ty,pos,aft,g⟩ ⟨t,h⟩ r)
  (k:RT P N ops is (fun l σ'=>K ((i, .pu) :: l) σ') ⟨aA t d r,h⟩):RT P N ops (i :: is) K ⟨t,h⟩:=qH ho (.pure (dN hd) hw r hp) k
theorem gU {w:World} {F:Nat→Prop} {μ:bJ} {hp:dG} {v a:Value} (r:eP w F μ hp v (.d (.v a))):v=a:=by
 cases r with | d _ _ hd=>cases hd;rfl
def bAw:List AV→Option (List Value)
 | []=>some []
 | .d (.v a) :: cs=>match bAw cs with
  | some l=>some (a :: l)
  | none=>none
 | _ :: _=>none
def toV:AV→Option Value
 | .d (.v a)=>some a
 | .agg cs=>match bAw cs with
  | some l=>some (.agg l.toArray)
  | none=>none
 | _=>none
theorem aN9 {w:World} {F:Nat→Prop} {μ:bJ} {hp:dG} : ∀ {cs:List AV} {l:List Value} (vs:List Value),bAw cs=some l→vs.length=cs.length→(∀ (i:Nat) v c,vs[i]? = some v→cs[i]? = some c→eP w F μ hp v c)→vs=l
 | [],l,vs,h,hl,_=>by
  simp [bAw] at h
  subst h
  exact List.eq_nil_of_length_eq_zero hl
 | c :: cs,l,vs,h,hl,hr=>by
  match vs,hl with
  | v :: vs,hl =>
   have h0:=hr 0 v c rfl rfl
   unfold bAw at h
   split at h
   ·rename_i e;cases e
   ·rename_i a cs' e
    injection e with e1 e2
    subst e1 e2
    split at h
    ·rename_i l' hl'
     injection h with h
     subst h
     rw [gU h0,aN9 vs hl' (by simpa using hl) fun i v c hv hc=>hr (i+1) v c hv hc]
    ·cases h
   ·cases h
theorem aFv {w:World} {F:Nat→Prop} {μ:bJ} {hp:dG} {v a:Value} {x:AV} (ha:toV x=some a) (r:eP w F μ hp v x):v=a:=by
 unfold toV at ha
 split at ha
 ·injection ha with ha;subst ha;exact gU r
 ·rename_i cs
  split at ha
  ·rename_i l hl
   injection ha with ha
   subst ha
   cases r with | agg vs _ hs hr =>
   have:=aN9 vs.toList hl (by simpa using hs) fun i v c hv hc=>hr i v c (by simpa using hv) hc
   rw [← this]
  ·cases ha
 ·cases ha
theorem gZ {x:Operand} {r:AV} (hx:evA N ⟨t,h⟩ x=r):eC P N ⟨some d, .move x,ty,pos,aft,g⟩ ⟨t,h⟩ r:=fun w F μ hh ρ st=>by
 have:=st x (by simp [Op.operands])
 rw [hx] at this
 exact ⟨ρ x,by simp [execOp],this⟩
theorem rV {x:Operand} {r:AV} (hx:evA N ⟨t,h⟩ x=r):eC P N ⟨some d, .assign x,ty,pos,aft,g⟩ ⟨t,h⟩ r:=fun w F μ hh ρ st=>by
 have:=st x (by simp [Op.operands])
 rw [hx] at this
 exact ⟨ρ x,by simp [execOp],this⟩
theorem aTz {c a b:Operand} {r:AV} (hc:evA N ⟨t,h⟩ c = .d (.v (.bool true))) (hx:evA N ⟨t,h⟩ a=r):eC P N ⟨some d, .pick c a b,ty,pos,aft,g⟩ ⟨t,h⟩ r:=fun w F μ hh ρ st=>by
 have h1:=st c (by simp [Op.operands])
 have h2:=st a (by simp [Op.operands])
 rw [hc] at h1;rw [hx] at h2
 exact ⟨ρ a,by simp [execOp,gU h1,asBool],h2⟩
theorem aTy {c a b:Operand} {r:AV} (hc:evA N ⟨t,h⟩ c = .d (.v (.bool false))) (hx:evA N ⟨t,h⟩ b=r):eC P N ⟨some d, .pick c a b,ty,pos,aft,g⟩ ⟨t,h⟩ r:=fun w F μ hh ρ st=>by
 have h1:=st c (by simp [Op.operands])
 have h2:=st b (by simp [Op.operands])
 rw [hc] at h1;rw [hx] at h2
 exact ⟨ρ b,by simp [execOp,gU h1,asBool],h2⟩
theorem lU {o:BinOp} {xt yt:TypeId} {x y:Operand} {a b u:Value} (hx:toV (evA N ⟨t,h⟩ x)=some a) (hy:toV (evA N ⟨t,h⟩ y)=some b)
  (hr : ∀ w:World,(do eqGuard o xt x y a b;binOp o xt a b:Sem Value).run P w = .ok u w) (h1:u.oneCell'=true:=by rfl):eC P N ⟨some d, .binOp o xt x y yt,ty,pos,aft,g⟩ ⟨t,h⟩ (.d (.v u)):=fun w F μ hh ρ st=>by
 have g1:=aFv hx (st x (by simp [Op.operands]))
 have g2:=aFv hy (st y (by simp [Op.operands]))
 refine ⟨u,?_, .d _ _ (.v _ h1)⟩
 simp only [execOp,g1,g2]
 rw [Sem.run_bind,hr];rfl
theorem aZo {o:UnOp} {xt:TypeId} {x:Operand} {a u:Value} (hx:toV (evA N ⟨t,h⟩ x)=some a) (hr : ∀ w:World,(Op.unary o a).run P w = .ok u w) (h1:u.oneCell'=true:=by rfl):eC P N ⟨some d, .unOp o xt x,ty,pos,aft,g⟩ ⟨t,h⟩ (.d (.v u)):=fun w F μ hh ρ st=>by
 have g1:=aFv hx (st x (by simp [Op.operands]))
 refine ⟨u,?_, .d _ _ (.v _ h1)⟩
 simp only [execOp,g1]
 rw [Sem.run_bind,hr];rfl
theorem aZj {st_ dt:TypeId} {x:Operand} {a u:Value} (hx:toV (evA N ⟨t,h⟩ x)=some a) (hr : ∀ w:World,(convert st_ dt a).run P w = .ok u w) (h1:u.oneCell'=true:=by rfl):eC P N ⟨some d, .convert st_ dt x,ty,pos,aft,g⟩ ⟨t,h⟩ (.d (.v u)):=fun w F μ hh ρ st=>by
 have g1:=aFv hx (st x (by simp [Op.operands]))
 refine ⟨u,?_, .d _ _ (.v _ h1)⟩
 simp only [execOp,g1]
 rw [Sem.run_bind,hr];rfl
section ints
variable {xt yt:TypeId} {x y:Operand} {a b:Int} {kx:IntKind}
theorem bDf {n:Int} (h0 : -9223372036854775808≤n) (h1:n≤9223372036854775807):IntKind.i64.wrap n=n:=IntWalk.i64_in n ⟨h0,h1⟩
theorem aNc (hx:evA N ⟨t,h⟩ x = .d (.v (.int kx a))) (hy:evA N ⟨t,h⟩ y = .d (.v (.int kx b))):eC P N ⟨some d, .binOp .add xt x y yt,ty,pos,aft,g⟩ ⟨t,h⟩ (.d (.v (.int kx (kx.wrap (a+b))))) :=
 lU (by rw [hx];rfl) (by rw [hy];rfl) fun w=>by simp [eqGuard,binOp,Op.intArith]
theorem aZn (hx:evA N ⟨t,h⟩ x = .d (.v (.int kx a))) (hy:evA N ⟨t,h⟩ y = .d (.v (.int kx b))):eC P N ⟨some d, .binOp .sub xt x y yt,ty,pos,aft,g⟩ ⟨t,h⟩ (.d (.v (.int kx (kx.wrap (a-b))))) :=
 lU (by rw [hx];rfl) (by rw [hy];rfl) fun w=>by simp [eqGuard,binOp,Op.intArith]
theorem aTw (hx:evA N ⟨t,h⟩ x = .d (.v (.int kx a))) (hy:evA N ⟨t,h⟩ y = .d (.v (.int kx b))):eC P N ⟨some d, .binOp .mul xt x y yt,ty,pos,aft,g⟩ ⟨t,h⟩ (.d (.v (.int kx (kx.wrap (a*b))))) :=
 lU (by rw [hx];rfl) (by rw [hy];rfl) fun w=>by simp [eqGuard,binOp,Op.intArith]
theorem aFe (hx:evA N ⟨t,h⟩ x = .d (.v (.int kx a))) (hy:evA N ⟨t,h⟩ y = .d (.v (.int kx b))) (hb:b≠0):eC P N ⟨some d, .binOp .quo xt x y yt,ty,pos,aft,g⟩ ⟨t,h⟩ (.d (.v (.int kx (kx.wrap (a.tdiv b))))) :=
 lU (by rw [hx];rfl) (by rw [hy];rfl) fun w=>by simp [eqGuard,binOp,Op.intDiv,hb]
theorem eW (hx:evA N ⟨t,h⟩ x = .d (.v (.int kx a))) (hy:evA N ⟨t,h⟩ y = .d (.v (.int kx b))) (hb:b≠0):eC P N ⟨some d, .binOp .rem xt x y yt,ty,pos,aft,g⟩ ⟨t,h⟩ (.d (.v (.int kx (a.tmod b)))) :=
 lU (by rw [hx];rfl) (by rw [hy];rfl) fun w=>by simp [eqGuard,binOp,Op.intDiv,hb]
theorem bBs (hx:evA N ⟨t,h⟩ x = .d (.v (.int kx a))) (hy:evA N ⟨t,h⟩ y = .d (.v (.int kx b))):eC P N ⟨some d, .binOp .lss xt x y yt,ty,pos,aft,g⟩ ⟨t,h⟩ (.d (.v (.bool (decide (a<b))))) :=
 lU (by rw [hx];rfl) (by rw [hy];rfl) fun w=>by simp [eqGuard,binOp,Op.intCmp]
theorem bBr (hx:evA N ⟨t,h⟩ x = .d (.v (.int kx a))) (hy:evA N ⟨t,h⟩ y = .d (.v (.int kx b))):eC P N ⟨some d, .binOp .leq xt x y yt,ty,pos,aft,g⟩ ⟨t,h⟩ (.d (.v (.bool (decide (a≤b))))) :=
 lU (by rw [hx];rfl) (by rw [hy];rfl) fun w=>by simp [eqGuard,binOp,Op.intCmp]
theorem bBq (hx:evA N ⟨t,h⟩ x = .d (.v (.int kx a))) (hy:evA N ⟨t,h⟩ y = .d (.v (.int kx b))):eC P N ⟨some d, .binOp .gtr xt x y yt,ty,pos,aft,g⟩ ⟨t,h⟩ (.d (.v (.bool (decide (b<a))))) :=
 lU (by rw [hx];rfl) (by rw [hy];rfl) fun w=>by simp [eqGuard,binOp,Op.intCmp]
theorem bBp (hx:evA N ⟨t,h⟩ x = .d (.v (.int kx a))) (hy:evA N ⟨t,h⟩ y = .d (.v (.int kx b))):eC P N ⟨some d, .binOp .geq xt x y yt,ty,pos,aft,g⟩ ⟨t,h⟩ (.d (.v (.bool (decide (b≤a))))) :=
 lU (by rw [hx];rfl) (by rw [hy];rfl) fun w=>by simp [eqGuard,binOp,Op.intCmp]
theorem bBo (hx:evA N ⟨t,h⟩ x = .d (.v (.int kx a))) (hy:evA N ⟨t,h⟩ y = .d (.v (.int kx b))):eC P N ⟨some d, .binOp .eql xt x y yt,ty,pos,aft,g⟩ ⟨t,h⟩ (.d (.v (.bool (decide (a=b))))) :=
 lU (by rw [hx];rfl) (by rw [hy];rfl) fun w=>by
  simp only [eqGuard,binOp,Op.intCmp]
  simp
  by_cases e:a=b <;> simp [e]
theorem bBt (hx:evA N ⟨t,h⟩ x = .d (.v (.int kx a))) (hy:evA N ⟨t,h⟩ y = .d (.v (.int kx b))):eC P N ⟨some d, .binOp .neq xt x y yt,ty,pos,aft,g⟩ ⟨t,h⟩ (.d (.v (.bool (decide (a≠b))))) :=
 lU (by rw [hx];rfl) (by rw [hy];rfl) fun w=>by
  simp only [eqGuard,binOp,Op.intCmp]
  simp
  by_cases e:a=b <;> simp [e]
theorem bBu {b:Bool} (hx:evA N ⟨t,h⟩ x = .d (.v (.bool b))):eC P N ⟨some d, .unOp .not xt x,ty,pos,aft,g⟩ ⟨t,h⟩ (.d (.v (.bool !b))) :=
 aZo (by rw [hx];rfl) fun w=>by simp [Op.unary]
theorem aNe (hT:TOk P T) {st_ dt:TypeId} {d1 d2:TI} {k1 k2:IntKind} (h1:T st_=some d1) (h2:T dt=some d2) (e2:d2.desc = .int k2) (hx:evA N ⟨t,h⟩ x = .d (.v (.int k1 a))) (e1:d1.desc = .int k1) :
  eC P N ⟨some d, .convert st_ dt x,ty,pos,aft,g⟩ ⟨t,h⟩ (.d (.v (.int k2 (k2.wrap a)))) :=
 aZj (by rw [hx];rfl) fun w=>by
  have u1:=(hT _ _ h1).1
  have u2:=(hT _ _ h2).1
  rw [e1] at u1
  rw [e2] at u2
  simp [convert,run_underlying u1,run_underlying u2,Conv.intToInt]
end ints
end
end Go.Proofs.YtbliejnpjpnahaaGreatDoor
namespace Go.Proofs.YtbliejnpjpnahaaGreatDoor
open Go.RowKit
set_option linter.unusedVariables false
set_option maxRecDepth 100000
inductive Seg {α:Type}:Nat→Nat→List α→List α→Prop
 | z (l:List α):Seg 0 0 l []
 | t {n:Nat} {a:α} {l r:List α} (h:Seg 0 n l r):Seg 0 (n+1) (a :: l) (a :: r)
 | d {o n:Nat} {a:α} {l r:List α} (h:Seg o n l r):Seg (o+1) n (a :: l) r
theorem Seg.spec {α:Type} {o n:Nat} {l r:List α} (h:Seg o n l r):r.length=n∧o+n≤l.length+(if n=0 then o else 0) ∧ ∀ (i:Nat) x,r[i]? = some x→l[o+i]? = some x:=by
 induction h with
 | z l=>simp
 | t h ih =>
  obtain ⟨h1,h2,h3⟩:=ih
  refine ⟨by simp [h1],?_,fun i x hx => ?_⟩
  ·simp;split at h2 <;> omega
  ·cases i with
   | zero=>simpa using hx
   | succ i=>simp at hx ⊢;have:=h3 i x hx;simpa using this
 | d h ih =>
  obtain ⟨h1,h2,h3⟩:=ih
  refine ⟨h1,?_,fun i x hx => ?_⟩
  ·simp;split at h2 <;> split <;> omega
  ·have:=h3 i x hx
   rw [show ∀ o i:Nat,o+1+i=(o+i)+1 by omega]
   simpa using this
inductive Drp {α:Type}:Nat→List α→List α→Prop
 | z (l:List α):Drp 0 l l
 | d {o:Nat} {a:α} {l r:List α} (h:Drp o l r):Drp (o+1) (a :: l) r
theorem Drp.spec {α:Type} {o:Nat} {l r:List α} (h:Drp o l r):r=l.drop o∧o≤l.length:=by
 induction h with
 | z l=>simp
 | d h ih=>simp [ih.1,ih.2]
inductive Spl {α:Type}:Nat→List α→List α→List α→Prop
 | z (l:List α):Spl 0 [] l l
 | t {n o:α} {ns os r:List α} (h:Spl 0 ns os r):Spl 0 (n :: ns) (o :: os) (n :: r)
 | d {k:Nat} {o:α} {ns os r:List α} (h:Spl k ns os r):Spl (k+1) ns (o :: os) (o :: r)
theorem Spl.spec {α:Type} {o:Nat} {ns l r:List α} (h:Spl o ns l r):r.length=l.length∧o+ns.length≤l.length∧(∀ i:Nat,i<o∨o+ns.length≤i→r[i]? = l[i]?) ∧ ∀ i:Nat,i<ns.length→r[o+i]? = ns[i]? := by
 induction h with
 | z l=>simp
 | t h ih =>
  obtain ⟨h1,h2,h3,h4⟩:=ih
  refine ⟨by simp [h1],by simp at h2 ⊢;omega,fun i hi => ?_,fun i hi => ?_⟩
  ·cases i with
   | zero=>simp at hi
   | succ i=>simp at hi ⊢;exact h3 i (by simp;omega)
  ·cases i with
   | zero=>simp
   | succ i=>simp at hi ⊢;have:=h4 i hi;simpa using this
 | d h ih =>
  obtain ⟨h1,h2,h3,h4⟩:=ih
  refine ⟨by simp [h1],by simp;omega,fun i hi => ?_,fun i hi => ?_⟩
  ·cases i with
   | zero=>simp
   | succ i=>simp at hi ⊢;exact h3 i (by omega)
  ·have:=h4 i hi
   rw [show ∀ k i:Nat,k+1+i=(k+i)+1 by omega]
   simpa using this
def aAc:AV→List AV
 | .agg cs=>cs
 | x=>[x]
def ok1:AV→Bool
 | .agg _=>false
 | .tup _=>false
 | .dead=>false
 | _=>true
def okL:List AV→Bool
 | []=>true
 | c :: cs=>ok1 c && okL cs
theorem aIr : ∀ {cs:List AV},okL cs=true → ∀ {i:Nat} {c:AV},cs[i]? = some c→ok1 c=true
 | [],_,i,c,hc=>by simp at hc
 | x :: cs,h,0,c,hc=>by simp [okL] at h hc;rw [← hc];exact h.1
 | x :: cs,h,i+1,c,hc=>by simp [okL] at h hc;exact aIr h.2 hc
theorem xV.one_ {w:World} {F:Nat→Prop} {v:Value} {x:DV} (r:xV w F v x):v.oneCell'=true:=by cases r <;> first | assumption | rfl
theorem eP.one_ {w:World} {F:Nat→Prop} {μ:bJ} {h:dG} {v:Value} {a:AV} (r:eP w F μ h v a) (ho:ok1 a=true):v.oneCell'=true:=by
 cases r <;> simp [ok1] at ho
 ·rename_i hd;exact hd.one_
 ·rfl
 ·assumption
 ·assumption
 ·rfl
theorem aSb {v:Value} (h:v.oneCell'=true):v.cells = #[v]:=by cases v <;> first | rfl | simp [Value.oneCell'] at h
theorem eP.cells_ {w:World} {F:Nat→Prop} {μ:bJ} {h:dG} {v:Value} {a:AV} (r:eP w F μ h v a) {cs:List AV} (hc:aAc a=cs) (ho:okL cs=true) :
  v.cells.size=cs.length∧(∀ (j:Nat) c,cs[j]? = some c → ∃ u,v.cells[j]? = some u∧eP w F μ h u c) ∧ ∀ u ∈ v.cells,u.oneCell'=true:=by
 have fin : ∀ (vs:Array Value),vs.size=cs.length→(∀ (j:Nat) c,cs[j]? = some c → ∃ u,vs[j]? = some u∧eP w F μ h u c) → ∀ u ∈ vs,u.oneCell'=true:=fun vs hs hr u hu=>by
  obtain ⟨j,hj,rfl⟩:=Array.mem_iff_getElem.1 hu
  obtain ⟨u',hu',hr'⟩:=hr j (cs[j]'(by omega)) (List.getElem?_eq_getElem _)
  rw [Array.getElem?_eq_getElem hj] at hu'
  injection hu' with hu'
  rw [hu']
  exact hr'.one_ (aIr ho (List.getElem?_eq_getElem (by omega)))
 by_cases hagg : ∃ cs',a = .agg cs'
 ·obtain ⟨cs',rfl⟩:=hagg
  simp only [aAc] at hc
  subst hc
  cases r with | agg vs _ hs hr =>
  have h2 : ∀ (j:Nat) c,cs'[j]? = some c → ∃ u,vs[j]? = some u∧eP w F μ h u c:=fun j c hj=>by
   have hlt:j<vs.size:=by rw [hs];exact (List.getElem?_eq_some_iff.1 hj).1
   exact ⟨vs[j],Array.getElem?_eq_getElem hlt,hr j _ c (Array.getElem?_eq_getElem hlt) hj⟩
  exact ⟨hs,h2,fin vs hs h2⟩
 ·have hc':cs=[a]:=by
   rw [← hc]
   cases a <;> first | rfl | exact absurd ⟨_,rfl⟩ hagg
  subst hc'
  have h1:v.oneCell'=true:=r.one_ (aIr ho (i:=0) rfl)
  rw [aSb h1]
  have h2 : ∀ (j:Nat) c,[a][j]? = some c → ∃ u,(#[v]:Array Value)[j]? = some u∧eP w F μ h u c:=fun j c hj=>by
   cases j with
   | zero=>simp at hj;subst hj;exact ⟨v,rfl,r⟩
   | succ j=>simp at hj
  exact ⟨rfl,h2,fin _ rfl h2⟩
def aBx:TypeDesc→Bool
 | .struct _=>true
 | .array _ _=>true
 | _=>false
section
variable {P:Program} {T:Tab} {N:Nat} {ops:Array Oper} {E:Env} {t:Nat→AV} {h:dG} {d:Tmp} {ty:TypeId} {pos:String} {aft:Array Edge} {g:Option (Nat × Bool)}
theorem aA1 (hT:TOk P T) {u:TypeId} {ti:TI} (hu:T u=some ti) (w:World):(isAgg u).run P w = .ok (aBx ti.desc) w:=by
 unfold isAgg
 rw [Sem.run_bind,run_underlying (hT u ti hu).1 w]
 cases ti.desc <;> simp [aBx]
theorem fV (hT:TOk P T) {u:TypeId} {ti:TI} (hu:T u=some ti) (w:World):(sizeOf u).run P w = .ok ti.size w:=by
 obtain ⟨_,i,hi,hs,_⟩:=hT u ti hu
 simp [sizeOf,typeInfo,hi,hs]
theorem aI1 (hT:TOk P T) {u:TypeId} {ti:TI} (hu:T u=some ti) (w:World):(zeroValue u).run P w = .ok ti.zero w:=by
 obtain ⟨_,i,hi,_,_,hz⟩:=hT u ti hu
 simp [zeroValue,typeInfo,hi,hz]
theorem aQ0 {x:Operand} {k:Nat} {cs:List AV} {c:AV} (hx:evA N ⟨t,h⟩ x = .tup cs) (hc:cs[k]? = some c):eC P N ⟨some d, .extract x k,ty,pos,aft,g⟩ ⟨t,h⟩ c:=fun w F μ hh ρ st=>by
 have hr:=st x (by simp [Op.operands])
 rw [hx] at hr
 generalize hv:ρ x=v at hr
 cases hr with | tup vs _ hs hr =>
 have hlt:k<vs.size:=by rw [hs];exact (List.getElem?_eq_some_iff.1 hc).1
 refine ⟨vs[k],?_,hr _ _ c (Array.getElem?_eq_getElem hlt) hc⟩
 simp [execOp,hv,Instr.extract,hlt]
def evL (N:Nat) (σ:AS):List Operand→List AV
 | []=>[]
 | x :: xs=>evA N σ x :: evL N σ xs
theorem aBm (N:Nat) (σ:AS) : ∀ xs,evL N σ xs=xs.map (evA N σ)
 | []=>rfl
 | x :: xs=>by simp [evL,aBm N σ xs]
theorem aIw {f:FuncId} {cap:Array Operand} {caps:List AV} (hc:evL N ⟨t,h⟩ cap.toList=caps):eC P N ⟨some d, .makeFunc (.func f) #[] cap,ty,pos,aft,g⟩ ⟨t,h⟩ (.fn f caps):=fun w F μ hh ρ st=>by
 refine ⟨.func (.func f) #[] (cap.map ρ),by simp [execOp,Instr.makeFunc],?_⟩
 subst hc
 rw [aBm]
 refine .fn f _ _ (by simp) fun i v c hv hc => ?_
 rw [Array.getElem?_map] at hv
 rw [List.getElem?_map,Array.getElem?_toList] at hc
 obtain ⟨x,hx,rfl⟩:=Option.map_eq_some_iff.1 hv
 rw [hx] at hc
 simp at hc
 subst hc
 exact st x (by simp only [Op.operands];exact Array.mem_append.2 (.inr (Array.mem_of_getElem? hx)))
theorem aVv (vs:List Value) : ∀ (k off:Nat) (cs:Array Value),(∀ i:Nat,((vs.zipIdx k).foldl (fun cs (x:Value × Nat)=>cs.setIfInBounds (off+x.2) x.1) cs)[i]? = if off+k≤i∧i<off+k+vs.length∧i<cs.size then vs[i-(off+k)]? else cs[i]?) ∧
  ((vs.zipIdx k).foldl (fun cs (x:Value × Nat)=>cs.setIfInBounds (off+x.2) x.1) cs).size=cs.size:=by
 induction vs with
 | nil=>intro k off cs;simp;intro i h1 h2;omega
 | cons v vs ih =>
  intro k off cs
  obtain ⟨h1,h2⟩:=ih (k+1) off (cs.setIfInBounds (off+k) v)
  simp only [List.zipIdx_cons,List.foldl_cons]
  refine ⟨fun i => ?_,by rw [h2];simp⟩
  rw [h1 i]
  simp only [Array.size_setIfInBounds,List.length_cons]
  by_cases e:i=off+k
  ·subst e
   rw [if_neg (by omega)]
   by_cases hs:off+k<cs.size
   ·rw [if_pos (by omega)];simp [Array.getElem?_setIfInBounds,hs]
   ·rw [if_neg (by omega)];simp [Array.getElem?_setIfInBounds,hs]
  ·by_cases hc:off+(k+1)≤i∧i<off+(k+1)+vs.length∧i<cs.size
   ·rw [if_pos hc,if_pos (by omega)]
    rw [show i-(off+k)=(i-(off+(k+1)))+1 by omega]
    simp
   ·rw [if_neg hc,if_neg (by omega)]
    rw [Array.getElem?_setIfInBounds_ne (by omega)]
theorem aJx {place:Nat→Option (Nat × Nat)} {cells:Array Value} {i:Nat} {v:Value} {rest:List (Nat × Value)} {off size:Nat} (hp:place i=some (off,size)) (hs:v.cells.size=size) (hfit:off+size≤cells.size) :
  ∃ cells',Instr.fill place cells ((i,v) :: rest)=Instr.fill place cells' rest∧cells'.size=cells.size ∧ ∀ j:Nat,cells'[j]? = if off≤j∧j<off+size then v.cells[j-off]? else cells[j]? := by
 obtain ⟨h1,h2⟩:=aVv v.cells.toList 0 off cells
 have hz:v.cells.zipIdx.foldl (fun cs (x:Value × Nat)=>cs.setIfInBounds (off+x.2) x.1) cells=(v.cells.toList.zipIdx 0).foldl (fun cs (x:Value × Nat)=>cs.setIfInBounds (off+x.2) x.1) cells:=by
  rw [← Array.foldl_toList,Array.toList_zipIdx]
 refine ⟨v.cells.zipIdx.foldl (fun cs (x:Value × Nat)=>cs.setIfInBounds (off+x.2) x.1) cells,?_,by rw [hz];exact h2,fun j => ?_⟩
 ·simp only [Instr.fill,hp]
  rw [if_neg (by simp;omega)]
 ·rw [hz,h1 j]
  simp only [Nat.add_zero,Array.length_toList,hs]
  by_cases hc:off≤j∧j<off+size
  ·rw [if_pos (by omega),if_pos hc,Array.getElem?_toList]
  ·rw [if_neg (by omega),if_neg hc]
inductive Bld (place:Nat→Option (Nat × Nat)) (ev:Operand→AV):List AV→List (Nat × Operand)→List AV→Prop
 | nil (C:List AV):Bld place ev C [] C
 | cons {i off sz:Nat} {x:Operand} {cs C C1 C2:List AV} {ps:List (Nat × Operand)} (hp:place i=some (off,sz)) (hc:aAc (ev x)=cs) (ho:okL cs=true) (hl:Nat.beq cs.length sz=true) (hs:Spl off cs C C1) (k:Bld place ev C1 ps C2) :
   Bld place ev C ((i,x) :: ps) C2
theorem Bld.fill_ {place:Nat→Option (Nat × Nat)} {ev:Operand→AV} {C C2:List AV} {ps:List (Nat × Operand)} (B:Bld place ev C ps C2) {w:World} {F:Nat→Prop} {μ:bJ} {hh:dG} {ρ:Operand→Value} :
  ∀ (cells:Array Value),cells.size=C.length→(∀ (j:Nat) c,C[j]? = some c → ∃ u,cells[j]? = some u∧eP w F μ hh u c)→(∀ p ∈ ps,eP w F μ hh (ρ p.2) (ev p.2)) →
  ∃ out,Instr.fill place cells (ps.map fun p=>(p.1, ρ p.2))=some out∧out.size=C2.length ∧ ∀ (j:Nat) c,C2[j]? = some c → ∃ u,out[j]? = some u∧eP w F μ hh u c:=by
 induction B with
 | nil C=>intro cells hs hr _;exact ⟨cells,rfl,hs,hr⟩
 | cons hp hc ho hl hs k ih =>
  rename_i i off sz x cs C C1 C2 ps
  intro cells hsz hr hps
  obtain ⟨c1,c2,c3⟩:=(hps (i,x) (by simp)).cells_ hc ho
  obtain ⟨s1,s2,s3,s4⟩:=hs.spec
  have hlen:cs.length=sz:=Nat.eq_of_beq_eq_true hl
  obtain ⟨cells',f1,f2,f3⟩:=aJx (rest:=ps.map fun p=>(p.1, ρ p.2)) (cells:=cells) hp (c1.trans hlen) (by omega)
  rw [List.map_cons,f1]
  refine ih cells' (by omega) (fun j c hj => ?_) fun p hp=>hps p (by simp [hp])
  rw [f3 j]
  by_cases hcj:off≤j∧j<off+sz
  ·rw [if_pos hcj]
   have:=s4 (j-off) (by omega)
   rw [show off+(j-off)=j by omega,hj] at this
   exact c2 _ c this.symm
  ·rw [if_neg hcj]
   rw [s3 j (by omega)] at hj
   exact hr j c hj
inductive Plc (T:Tab):List Field→List (Nat × Nat)→Prop
 | nil:Plc T [] []
 | cons {f:Field} {fs:List Field} {ti:TI} {ps:List (Nat × Nat)} (hf:T f.type=some ti) (k:Plc T fs ps):Plc T (f :: fs) ((f.offset,ti.size) :: ps)
theorem Plc.spec (hT:TOk P T) {fs:List Field} {ps:List (Nat × Nat)} (h:Plc T fs ps):fs.mapM (fun f=>(P.info? f.type).map fun i=>(f.offset,i.size))=some ps:=by
 induction h with
 | nil=>simp
 | cons hf k ih =>
  obtain ⟨_,i,hi,hs,_⟩:=hT _ _ hf
  simp [List.mapM_cons,hi,hs,ih]
theorem aWi (hT:TOk P T) {bt:TypeId} {parts:Array (Nat × Operand)} {ti:TI} {fs:Array Field} {pl:List (Nat × Nat)} {C0 C:List AV} (h1:T bt=some ti) (h2:ti.desc = .struct fs) (h3:Plc T fs.toList pl) (h4:aAd ti.zero.cells.toList=C0)
  (h5:Bld (fun i=>pl[i]?) (evA N ⟨t,h⟩) C0 parts.toList C):eC P N ⟨some d, .build bt parts,ty,pos,aft,g⟩ ⟨t,h⟩ (.agg C):=fun w F μ hh ρ st=>by
 obtain ⟨out,o1,o2,o3⟩:=h5.fill_ (w:=w) (F:=F) (μ:=μ) (hh:=hh) (ρ:=ρ) ti.zero.cells (by rw [← h4];simp [oF]) (fun j c hj=>by
  rw [← h4,oF,List.getElem?_map,Array.getElem?_toList] at hj
  obtain ⟨u,hu,rfl⟩:=Option.map_eq_some_iff.1 hj
  exact ⟨u,hu,aDu u⟩) (fun p hp=>st p.2 (by simp only [Op.operands];simp;exact ⟨p.1,by simpa using hp⟩))
 obtain ⟨hu,i,hi,_,_,hz⟩:=hT _ _ h1
 rw [h2] at hu
 have hb:P.built bt (parts.map fun (p:Nat × Operand)=>(p.1, ρ p.2)).toList=some out:=by
  unfold Program.built
  simp only [hi,hu,hz,Plc.spec hT h3]
  rw [Array.toList_map]
  have:(fun (i:Nat)=>pl.toArray[i]?)=fun i=>pl[i]? := by funext i;simp
  rw [this]
  exact o1
 refine ⟨.agg out,?_, .agg out C o2 fun j v c hv hc => ?_⟩
 ·have:=run_build (P:=P) w bt _ out hb
  simp only [execOp]
  rw [Sem.run_bind]
  have e:(parts.map fun (x:Nat × Operand)=>match x with | (i,x)=>(i, ρ x))=parts.map fun (p:Nat × Operand)=>(p.1, ρ p.2):=rfl
  rw [e,this];rfl
 ·obtain ⟨u,hu',hr⟩:=o3 j c hc
  rw [hv] at hu'
  injection hu' with hu'
  rw [hu'];exact hr
end
end Go.Proofs.YtbliejnpjpnahaaGreatDoor
namespace Go.Proofs.YtbliejnpjpnahaaGreatDoor
open Go.RowKit
set_option linter.unusedVariables false
set_option maxRecDepth 100000
theorem aCf {c:aX} {i:Nat} {cells:List AV} (h:c.get i=some cells):i<c.len:=by
 cases c with
 | data es =>
  simp only [aX.get] at h
  obtain ⟨e,he,_⟩:=Option.map_eq_some_iff.1 h
  exact (List.getElem?_eq_some_iff.1 he).1
 | av es=>exact (List.getElem?_eq_some_iff.1 h).1
theorem aKs {E:Env} {F:Nat→Prop} {μ:bJ} {h:dG} {w:World} (H:iA E F μ h w) {k f:Nat} {o:jR} (ho:lv h k f=some o) (hn:0<o.cs.len) :
  ∃ b cur, μ k f=some b∧w.heap[b]? = some (.cells cur o.ty (0,0)) ∧ ∀ i cells,o.cs.get i=some cells→cells.length=o.sz ∧ ∀ (j:Nat) (c:AV),cells[j]? = some c → ∃ u,cur[i*o.sz+j]? = some u∧eP w F μ h u c:=by
 rcases H.ob k f o ho with ⟨_,h2⟩ | ⟨b,cur,h1,h2,h3⟩
 ·omega
 ·exact ⟨b,cur,h1,h2,h3⟩
theorem aCu {E:Env} {F:Nat→Prop} {μ:bJ} {h:dG} {w:World} (H:iA E F μ h w) {v:Value} {k f n i j:Nat} (r:eP w F μ h v (.ptr k f n i j)) {o:jR} (ho:lv h k f=some o) (hn:o.cs.len=n) {cells:List AV} (hi:o.cs.get i=some cells) :
  ∃ b cur,v = .pointer (some ⟨b,i*o.sz+j,none⟩)∧μ k f=some b∧w.heap[b]? = some (.cells cur o.ty (0,0))∧cells.length=o.sz ∧ ∀ (j:Nat) (c:AV),cells[j]? = some c → ∃ u,cur[i*o.sz+j]? = some u∧eP w F μ h u c:=by
 cases r with | ptr _ _ _ _ _ _ h1 hb hv =>
 obtain ⟨b,hm,rfl⟩:=(hv o ho).2 hn
 obtain ⟨b',cur,hm',hh,hc⟩:=aKs H ho (by have:=aCf hi;omega)
 rw [hm] at hm'
 injection hm' with hm'
 subst hm'
 exact ⟨b,cur,rfl,hm,hh,(hc i cells hi).1,(hc i cells hi).2⟩
theorem oW (b o j:Nat):(⟨b,o,none⟩:Addr).add j=⟨b,o+j,none⟩:=by unfold Addr.add;split <;> simp_all
theorem aOl (cur:Array Value) (a n:Nat) (hall : ∀ q,q<n → ∃ u,cur[a+q]? = some u):((cur.toList.drop a).take n).length=n ∧ ∀ (q:Nat) v,((cur.toList.drop a).take n)[q]? = some v→q<n∧cur[a+q]? = some v:=by
 have hsz:n=0∨a+n≤cur.size:=by
  rcases Nat.eq_zero_or_pos n with h | h
  ·exact .inl h
  ·obtain ⟨u,hu⟩:=hall (n-1) (by omega)
   have:=(Array.getElem?_eq_some_iff.1 hu).1
   exact .inr (by omega)
 refine ⟨by simp;omega,fun q v hq => ?_⟩
 have hlt:q<n:=by have:=(List.getElem?_eq_some_iff.1 hq).1;simp at this;omega
 refine ⟨hlt,?_⟩
 rw [List.getElem?_take,if_pos hlt,List.getElem?_drop] at hq
 simpa using hq
section
variable {P:Program} {T:Tab} {N:Nat} {ops:Array Oper} {E:Env} {K:List (Nat × Cls)→AS→Prop} {i:Nat} {is:List Nat} {t:Nat→AV} {h:dG} {d:Tmp} {op:Op} {ty:TypeId} {pos:String} {aft:Array Edge} {g:Option (Nat × Bool)}
theorem bGh {r:AV} (ho:ops[i]? = some ⟨some d,op,ty,pos,aft,g⟩) (hw:yX N ops ⟨some d,op,ty,pos,aft,g⟩ ⟨t,h⟩) (hd:Nat.blt d N=true) (hp:jJ P N ⟨some d,op,ty,pos,aft,g⟩ ⟨t,h⟩ r)
  (k:RT P N ops is (fun l σ'=>K ((i, .li) :: l) σ') ⟨aA t d r,h⟩):RT P N ops (i :: is) K ⟨t,h⟩:=qH ho (.light (dN hd) hw r hp) k
theorem vL {o:Oper} {r:AV} {x:Operand} {k f:Nat} {ob:jR} (hmem:x ∈ o.op.operands) (hkey:(evA N ⟨t,h⟩ x).key=some k) (hl:lv h k f=some ob) (hoth : ∀ y ∈ o.op.operands, ∀ k',(evA N ⟨t,h⟩ y).key=some k'→k'=k)
  (hr : ∀ E F μ hh (w:World) ρ,iA E F μ hh w→aF1 N o ⟨t,h⟩ ρ w F μ hh→lv hh k f=some ob → ∃ u,(execOp ρ o).run P w = .ok (.value u) w∧eP w F μ hh u r):jJ P N o ⟨t,h⟩ r:=by
 refine ⟨fun y hy k' hk' => ?_,fun E F μ hh w ρ H st hk => ?_⟩
 ·rw [hoth y hy k' hk'];exact aMt hl
 ·refine hr E F μ hh w ρ H st ?_
  have:=hk x hmem k hkey
  unfold lv at hl ⊢
  rw [this];exact hl
theorem rU {o:Oper} {x:Operand} {k:Nat} (he:o.op.operands = #[x]) (hkey:(evA N ⟨t,h⟩ x).key=some k) : ∀ y ∈ o.op.operands, ∀ k',(evA N ⟨t,h⟩ y).key=some k'→k'=k:=fun y hy k' hk'=>by
 rw [he] at hy
 simp at hy
 subst hy
 rw [hkey] at hk'
 injection hk' with hk'
 exact hk'.symm
theorem aOx (hT:TOk P T) {lt:TypeId} {x:Operand} {k f n ix j:Nat} {o:jR} {cells:List AV} {c:AV} {ti:TI} (hx:evA N ⟨t,h⟩ x = .ptr k f n ix j) (h1:T lt=some ti) (h2:aBx ti.desc=false)
  (ho:lv h k f=some o) (hn:o.cs.len=n) (hi:o.cs.get ix=some cells) (hc:cells[j]? = some c):jJ P N ⟨some d, .load lt x,ty,pos,aft,g⟩ ⟨t,h⟩ c :=
 vL (x:=x) (k:=k) (f:=f) (ob:=o) (by simp [Op.operands]) (by rw [hx];rfl) ho (rU (x:=x) (by simp [Op.operands]) (by rw [hx];rfl)) fun E F μ hh w ρ H st hl=>by
  have hr:=st x (by simp [Op.operands])
  rw [hx] at hr
  obtain ⟨b,cur,hv,hm,hb,hlen,hcs⟩:=aCu H hr hl hn hi
  obtain ⟨u,hu,hr2⟩:=hcs j c hc
  refine ⟨u,?_,hr2⟩
  have hcell:w.cell? ⟨b,ix*o.sz+j,none⟩=some u:=by rw [cell_of_row w b _ cur o.ty (0,0) hb,hu]
  simp only [execOp,hv,Instr.loadAt,Instr.sureAddr,loadVar]
  simp [Sem.run_bind,aA1 hT h1,h2,hcell]
theorem aFh (hT:TOk P T) {lt:TypeId} {ti:TI} (h1:T lt=some ti) (h2:aBx ti.desc=true) (w:World) (b o:Nat) (vs:List Value) (hl:vs.length=ti.size) (hc : ∀ (j:Nat) v,vs[j]? = some v→w.cell? ⟨b,o+j,none⟩=some v) :
  (Instr.loadAt lt (.pointer (some ⟨b,o,none⟩))).run P w = .ok (.agg vs.toArray) w:=by
 have:=run_loadCells_list (P:=P) w ⟨b,o,none⟩ vs (fun j v hv=>by rw [oW];exact hc j v hv)
 simp only [Instr.loadAt,Instr.sureAddr,loadVar]
 rw [hl] at this
 simp [Sem.run_bind,aA1 hT h1,h2,fV hT h1,this]
theorem aOy (hT:TOk P T) {lt:TypeId} {x:Operand} {k f n ix j:Nat} {o:jR} {cells out:List AV} {ti:TI} (hx:evA N ⟨t,h⟩ x = .ptr k f n ix j) (h1:T lt=some ti) (h2:aBx ti.desc=true)
  (ho:lv h k f=some o) (hn:o.cs.len=n) (hi:o.cs.get ix=some cells) (hc:Seg j ti.size cells out):jJ P N ⟨some d, .load lt x,ty,pos,aft,g⟩ ⟨t,h⟩ (.agg out) :=
 vL (x:=x) (k:=k) (f:=f) (ob:=o) (by simp [Op.operands]) (by rw [hx];rfl) ho (rU (x:=x) (by simp [Op.operands]) (by rw [hx];rfl)) fun E F μ hh w ρ H st hl=>by
  have hr:=st x (by simp [Op.operands])
  rw [hx] at hr
  obtain ⟨b,cur,hv,hm,hb,hlen,hcs⟩:=aCu H hr hl hn hi
  obtain ⟨s1,s2,s3⟩:=hc.spec
  have hat : ∀ (q:Nat) c,out[q]? = some c → ∃ u,cur[ix*o.sz+j+q]? = some u∧eP w F μ hh u c:=fun q c hq=>by
   obtain ⟨u,hu,hr2⟩:=hcs (j+q) c (s3 q c hq)
   exact ⟨u,by rw [Nat.add_assoc];exact hu,hr2⟩
  have hall : ∀ q,q<ti.size → ∃ u,cur[ix*o.sz+j+q]? = some u ∧ ∀ c,out[q]? = some c→eP w F μ hh u c:=fun q hq=>by
   obtain ⟨u,hu,hr2⟩:=hat q _ (List.getElem?_eq_getElem (show q<out.length by omega))
   exact ⟨u,hu,fun c hc=>by rw [List.getElem?_eq_getElem (show q<out.length by omega)] at hc;injection hc with hc;rw [← hc];exact hr2⟩
  obtain ⟨v1,v2⟩:=aOl cur (ix*o.sz+j) ti.size fun q hq=>by obtain ⟨u,hu,_⟩:=hall q hq;exact ⟨u,hu⟩
  have hrun:=aFh (P:=P) hT h1 h2 w b (ix*o.sz+j) ((cur.toList.drop (ix*o.sz+j)).take ti.size) v1 (fun q v hq=>by
   rw [cell_of_row w b _ cur o.ty (0,0) hb]
   exact (v2 q v hq).2)
  refine ⟨_,by simp only [execOp,hv];rw [Sem.run_bind,hrun];rfl, .agg _ _ (by simp only [List.size_toArray];omega) fun q v c hq hc => ?_⟩
  have hq':((cur.toList.drop (ix*o.sz+j)).take ti.size)[q]? = some v:=by simpa using hq
  obtain ⟨hlt,hcur⟩:=v2 q v hq'
  obtain ⟨u,hu,hr2⟩:=hall q hlt
  rw [hcur] at hu
  injection hu with hu
  rw [hu]
  exact hr2 c hc
theorem aCr (hT:TOk P T) {s:TypeId} {x:Operand} {q k f n ix j:Nat} {o:jR} {cells:List AV} {ti fi:TI} {fs:Array Field} {fld:Field} (hx:evA N ⟨t,h⟩ x = .ptr k f n ix j) (h1:T s=some ti) (h2:ti.desc = .struct fs) (h3:fs[q]? = some fld)
  (h4:T fld.type=some fi) (h5:Nat.beq fi.size 0=false) (ho:lv h k f=some o) (hn:o.cs.len=n) (hi:o.cs.get ix=some cells):jJ P N ⟨some d, .fieldAddr s x q,ty,pos,aft,g⟩ ⟨t,h⟩ (.ptr k f n ix (j+fld.offset)) :=
 vL (x:=x) (k:=k) (f:=f) (ob:=o) (by simp [Op.operands]) (by rw [hx];rfl) ho (rU (x:=x) (by simp [Op.operands]) (by rw [hx];rfl)) fun E F μ hh w ρ H st hl=>by
  have hr:=st x (by simp [Op.operands])
  rw [hx] at hr
  obtain ⟨b,cur,hv,hm,hb,hlen,hcs⟩:=aCu H hr hl hn hi
  have hu:=(hT _ _ h1).1
  rw [h2] at hu
  have hne:fi.size≠0:=fun e=>by rw [e] at h5;simp at h5
  refine ⟨.pointer (some ⟨b,ix*o.sz+j+fld.offset,none⟩),?_, .ptr _ _ _ _ _ _ rfl (aMt hl) fun o' ho' => ?_⟩
  ·simp only [execOp,Instr.fieldAt,hv]
   simp [Sem.run_bind,run_underlying hu,h3,Instr.sureAddr,fieldPlace,fV hT h4,hne,oW]
  ·rw [hl] at ho'
   injection ho' with ho'
   subst ho'
   exact ⟨by omega,fun _=>⟨b,hm,by rw [Nat.add_assoc]⟩⟩
theorem bBf {x:Operand} {k f n ix j:Nat} {o:jR} {cells:List AV} (hx:evA N ⟨t,h⟩ x = .ptr k f n ix j) (ho:lv h k f=some o) (hn:o.cs.len=n) (hi:o.cs.get ix=some cells):jJ P N ⟨some d, .nilCheck x,ty,pos,aft,g⟩ ⟨t,h⟩ (.ptr k f n ix j) :=
 vL (x:=x) (k:=k) (f:=f) (ob:=o) (by simp [Op.operands]) (by rw [hx];rfl) ho (rU (x:=x) (by simp [Op.operands]) (by rw [hx];rfl)) fun E F μ hh w ρ H st hl=>by
  have hr:=st x (by simp [Op.operands])
  rw [hx] at hr
  obtain ⟨b,cur,hv,hm,hb,hlen,hcs⟩:=aCu H hr hl hn hi
  rw [hv] at hr
  exact ⟨.pointer (some ⟨b,ix*o.sz+j,none⟩),by simp [execOp,hv],hr⟩
theorem aV6 (hT:TOk P T) {st_ e:TypeId} {x y:Operand} {kk:IntKind} {iv:Int} {k f n m:Nat} {o:jR} {ti ei:TI} (hx:evA N ⟨t,h⟩ x = .own k f n) (hy:evA N ⟨t,h⟩ y = .d (.v (.int kk iv))) (hm:iv=(m:Int)) (hlt:m<n)
  (h1:T st_=some ti) (h2:ti.desc = .slice e) (h3:T e=some ei) (ho:lv h k f=some o) (hn:o.cs.len=n) (hs:o.sz=ei.size):jJ P N ⟨some d, .indexAddr st_ x y,ty,pos,aft,g⟩ ⟨t,h⟩ (.ptr k f n m 0) :=
 vL (x:=x) (k:=k) (f:=f) (ob:=o) (by simp [Op.operands]) (by rw [hx];rfl) ho (fun z hz k' hk'=>by
  simp [Op.operands] at hz
  rcases hz with rfl | rfl
  ·rw [hx] at hk';injection hk' with hk';exact hk'.symm
  ·rw [hy] at hk';cases hk') fun E F μ hh w ρ H st hl=>by
  have hr:=st x (by simp [Op.operands])
  have hr2:=st y (by simp [Op.operands])
  rw [hx] at hr;rw [hy] at hr2
  have e2:=gU hr2
  generalize hvx:ρ x=vx at hr
  cases hr with | own _ _ _ _ g1 hb hv =>
  have hu:=(hT _ _ h1).1
  rw [h2] at hu
  rcases (hv o hl).2 hn with ⟨_,h5,_⟩ | ⟨b,c,cur,h5,h6,h7,h8,h9,h10⟩
  ·omega
  ·refine ⟨.pointer (some ⟨b,m*ei.size,none⟩),?_, .ptr _ _ _ _ _ _ rfl hb fun o' ho' => ?_⟩
   ·simp only [execOp,Instr.indexAt,hvx,h6,e2,hm]
    simp [Sem.run_bind,run_underlying hu,asIntOf,fV hT h3,oW]
    omega
   ·rw [hl] at ho'
    injection ho' with ho'
    subst ho'
    exact ⟨by omega,fun _=>⟨b,h5,by rw [hs];simp⟩⟩
theorem bBe (hT:TOk P T) {st_ e:TypeId} {x:Operand} {k f n:Nat} {o:jR} {ti:TI} (hx:evA N ⟨t,h⟩ x = .own k f n) (h1:T st_=some ti) (h2:ti.desc = .slice e) (ho:lv h k f=some o) (hn:o.cs.len=n) :
  jJ P N ⟨some d, .call ⟨.builtin .len, #[x], #[st_]⟩,ty,pos,aft,g⟩ ⟨t,h⟩ (.d (.v (.int .i64 (n:Int)))) :=
 vL (x:=x) (k:=k) (f:=f) (ob:=o) (by simp [Op.operands,Call.operands]) (by rw [hx];rfl) ho (rU (x:=x) (by simp [Op.operands,Call.operands]) (by rw [hx];rfl)) fun E F μ hh w ρ H st hl=>by
  have hr:=st x (by simp [Op.operands,Call.operands])
  rw [hx] at hr
  have hu:=(hT _ _ h1).1
  rw [h2] at hu
  generalize hvx:ρ x=vx at hr
  cases hr with | own _ _ _ _ g1 hb hv =>
  refine ⟨.int .i64 n,?_, .d _ _ (.v _ rfl)⟩
  rcases (hv o hl).2 hn with ⟨_,h5,h6⟩ | ⟨b,c,cur,h5,h6,h7,h8,h9,h10⟩
  ·simp [execOp,resolve,invoke,builtin,hvx,h6,Builtin.len_,run_underlying hu,goInt,h5]
  ·simp [execOp,resolve,invoke,builtin,hvx,h6,Builtin.len_,run_underlying hu,goInt]
inductive aXd:Nat→List DV→List AV→Prop
 | z (l:List DV):aXd 0 l []
 | t {n:Nat} {a:DV} {l:List DV} {r:List AV} (h:aXd n l r):aXd (n+1) (a :: l) (.d a :: r)
theorem aXd.spec {n:Nat} {l:List DV} {r:List AV} (h:aXd n l r):r.length=n∧n≤l.length ∧ ∀ (i:Nat) c,r[i]? = some c → ∃ x,l[i]? = some x∧c = .d x:=by
 induction h with
 | z l=>simp
 | t h ih =>
  obtain ⟨h1,h2,h3⟩:=ih
  refine ⟨by simp [h1],by simp [h2],fun i c hc => ?_⟩
  cases i with
  | zero=>simp at hc;exact ⟨_,rfl,hc.symm⟩
  | succ i=>simp at hc ⊢;exact h3 i c hc
theorem aTu (hT:TOk P T) {st_ e:TypeId} {x:Operand} {es:List (List DV)} {ti:TI} (hx:evA N ⟨t,h⟩ x = .d (.sl es)) (h1:T st_=some ti) (h2:ti.desc = .slice e) :
  eC P N ⟨some d, .call ⟨.builtin .len, #[x], #[st_]⟩,ty,pos,aft,g⟩ ⟨t,h⟩ (.d (.v (.int .i64 (es.length:Int)))):=fun w F μ hh ρ st=>by
 have hr:=st x (by simp [Op.operands,Call.operands])
 rw [hx] at hr
 have hu:=(hT _ _ h1).1
 rw [h2] at hu
 refine ⟨.int .i64 es.length,?_, .d _ _ (.v _ rfl)⟩
 generalize hv:ρ x=v at hr
 cases hr with | d _ _ hd =>
 cases hd with
 | nil=>simp [execOp,resolve,invoke,builtin,hv,Builtin.len_,run_underlying hu,goInt]
 | emp A c hm=>simp [execOp,resolve,invoke,builtin,hv,Builtin.len_,run_underlying hu,goInt]
 | sl b off c sz es gg hF hc hm hz hg hr=>simp [execOp,resolve,invoke,builtin,hv,Builtin.len_,run_underlying hu,goInt]
theorem aQ1 (hT:TOk P T) {α:Type} {f:α→List DV} {xs:List α} {st_ e:TypeId} {x:Operand} {ti:TI} (hx:evA N ⟨t,h⟩ x = .d (.sl (xs.map f))) (h1:T st_=some ti) (h2:ti.desc = .slice e) :
  eC P N ⟨some d, .call ⟨.builtin .len, #[x], #[st_]⟩,ty,pos,aft,g⟩ ⟨t,h⟩ (.d (.v (.int .i64 (xs.length:Int)))):=by
 have:=aTu (d:=d) (ty:=ty) (pos:=pos) (aft:=aft) (g:=g) hT hx h1 h2
 rwa [List.length_map] at this
theorem aQ2 (hT:TOk P T) {st_ e:TypeId} {x:Operand} {a:Option Addr} {n c:Nat} {ti:TI} (hx:evA N ⟨t,h⟩ x = .d (.v (.slice a n c))) (h1:T st_=some ti) (h2:ti.desc = .slice e) :
  eC P N ⟨some d, .call ⟨.builtin .len, #[x], #[st_]⟩,ty,pos,aft,g⟩ ⟨t,h⟩ (.d (.v (.int .i64 (n:Int)))):=fun w F μ hh ρ st=>by
 have hr:=gU (by have:=st x (by simp [Op.operands,Call.operands]);rw [hx] at this;exact this)
 have hu:=(hT _ _ h1).1
 rw [h2] at hu
 exact ⟨.int .i64 n,by simp [execOp,resolve,invoke,builtin,hr,Builtin.len_,run_underlying hu,goInt], .d _ _ (.v _ rfl)⟩
theorem aQ3 (hT:TOk P T) {st_:TypeId} {x:Operand} {s:ByteArray} {ti:TI} (hx:evA N ⟨t,h⟩ x = .d (.v (.string s))) (h1:T st_=some ti) (h2:ti.desc = .string) :
  eC P N ⟨some d, .call ⟨.builtin .len, #[x], #[st_]⟩,ty,pos,aft,g⟩ ⟨t,h⟩ (.d (.v (.int .i64 (s.size:Int)))):=fun w F μ hh ρ st=>by
 have hr:=gU (by have:=st x (by simp [Op.operands,Call.operands]);rw [hx] at this;exact this)
 have hu:=(hT _ _ h1).1
 rw [h2] at hu
 exact ⟨.int .i64 s.size,by simp [execOp,resolve,invoke,builtin,hr,Builtin.len_,run_underlying hu,goInt], .d _ _ (.v _ rfl)⟩
theorem aNf (hT:TOk P T) {st_ e:TypeId} {x y:Operand} {kk:IntKind} {iv:Int} {m:Nat} {es:List (List DV)} {ed:List DV} {ti ei:TI} (hx:evA N ⟨t,h⟩ x = .d (.sl es)) (hy:evA N ⟨t,h⟩ y = .d (.v (.int kk iv))) (hm:iv=(m:Int))
  (h1:T st_=some ti) (h2:ti.desc = .slice e) (h3:T e=some ei) (he:es[m]? = some ed) (hs:ed.length=ei.size):eC P N ⟨some d, .indexAddr st_ x y,ty,pos,aft,g⟩ ⟨t,h⟩ (.ref ed):=fun w F μ hh ρ st=>by
 have hr:=st x (by simp [Op.operands])
 have hr2:=st y (by simp [Op.operands])
 rw [hx] at hr;rw [hy] at hr2
 have e2:=gU hr2
 have hlt:m<es.length:=(List.getElem?_eq_some_iff.1 he).1
 have hu:=(hT _ _ h1).1
 rw [h2] at hu
 generalize hv:ρ x=v at hr
 cases hr with | d _ _ hd =>
 cases hd with
 | nil=>simp at hlt
 | emp A c hm=>simp at hlt
 | sl b off c sz es gg hF hc hmx hz hg hr =>
  have hsz:sz=ei.size:=(hz m ed he).symm.trans hs
  subst hsz
  refine ⟨.pointer (some ⟨b,off+m*ei.size,none⟩),?_, .ref b _ ed (gg m) hF (fun j x hj=>hg m ed j x he hj) (fun j x hj=>hr m ed j x he hj)⟩
  simp only [execOp,Instr.indexAt,hv,e2,hm]
  simp [Sem.run_bind,run_underlying hu,asIntOf,fV hT h3,oW]
  omega
theorem aKv (hT:TOk P T) {lt:TypeId} {x:Operand} {cs:List DV} {c:DV} {ti:TI} (hx:evA N ⟨t,h⟩ x = .ref cs) (h1:T lt=some ti) (h2:aBx ti.desc=false) (hc:cs[0]? = some c):eC P N ⟨some d, .load lt x,ty,pos,aft,g⟩ ⟨t,h⟩ (.d c):=fun w F μ hh ρ st=>by
 have hr:=st x (by simp [Op.operands])
 rw [hx] at hr
 generalize hv:ρ x=v at hr
 cases hr with | ref b off _ gg hF hg hr =>
 refine ⟨gg 0,?_, .d _ _ (hr 0 c hc)⟩
 have hcell:=hg 0 c hc
 rw [Nat.add_zero] at hcell
 simp only [execOp,hv,Instr.loadAt,Instr.sureAddr,loadVar]
 simp [Sem.run_bind,aA1 hT h1,h2,hcell]
theorem aKw (hT:TOk P T) {lt:TypeId} {x:Operand} {cs:List DV} {out:List AV} {ti:TI} (hx:evA N ⟨t,h⟩ x = .ref cs) (h1:T lt=some ti) (h2:aBx ti.desc=true) (hc:aXd ti.size cs out):eC P N ⟨some d, .load lt x,ty,pos,aft,g⟩ ⟨t,h⟩ (.agg out):=fun w F μ hh ρ st=>by
 have hr:=st x (by simp [Op.operands])
 rw [hx] at hr
 generalize hv:ρ x=v at hr
 cases hr with | ref b off _ gg hF hg hr =>
 obtain ⟨s1,s2,s3⟩:=hc.spec
 have hrun:=aFh (P:=P) hT h1 h2 w b off ((List.range ti.size).map gg) (by simp) (fun q v hq=>by
  have hlt:q<ti.size:=by have:=(List.getElem?_eq_some_iff.1 hq).1;simpa using this
  rw [List.getElem?_map,List.getElem?_range hlt] at hq
  simp at hq
  subst hq
  exact hg q _ (List.getElem?_eq_getElem (by omega)))
 refine ⟨_,by simp only [execOp,hv];rw [Sem.run_bind,hrun];rfl, .agg _ _ (by simp [s1]) fun q v c hq hc => ?_⟩
 have hlt:q<ti.size:=by have:=(List.getElem?_eq_some_iff.1 hc).1;omega
 have hq':((List.range ti.size).map gg)[q]? = some v:=by simpa using hq
 rw [List.getElem?_map,List.getElem?_range hlt] at hq'
 simp at hq'
 subst hq'
 obtain ⟨y,hy,rfl⟩:=s3 q c hc
 exact .d _ _ (hr q y hy)
theorem vZ (hT:TOk P T) {s:TypeId} {x:Operand} {q:Nat} {cs out:List DV} {ti fi:TI} {fs:Array Field} {fld:Field} (hx:evA N ⟨t,h⟩ x = .ref cs) (h1:T s=some ti) (h2:ti.desc = .struct fs) (h3:fs[q]? = some fld)
  (h4:T fld.type=some fi) (h5:Nat.beq fi.size 0=false) (hd:Drp fld.offset cs out):eC P N ⟨some d, .fieldAddr s x q,ty,pos,aft,g⟩ ⟨t,h⟩ (.ref out):=fun w F μ hh ρ st=>by
 have hr:=st x (by simp [Op.operands])
 rw [hx] at hr
 generalize hv:ρ x=v at hr
 cases hr with | ref b off _ gg hF hg hr =>
 have hu:=(hT _ _ h1).1
 rw [h2] at hu
 have hne:fi.size≠0:=fun e=>by rw [e] at h5;simp at h5
 obtain ⟨rfl,s2⟩:=hd.spec
 refine ⟨.pointer (some ⟨b,off+fld.offset,none⟩),?_, .ref b _ _ (fun j=>gg (fld.offset+j)) hF (fun j x hj => ?_) (fun j x hj => ?_)⟩
 ·simp only [execOp,Instr.fieldAt,hv]
  simp [Sem.run_bind,run_underlying hu,h3,Instr.sureAddr,fieldPlace,fV hT h4,hne,oW]
 ·rw [List.getElem?_drop] at hj
  rw [Nat.add_assoc]
  exact hg _ x hj
 ·rw [List.getElem?_drop] at hj
  exact hr _ x hj
theorem aQ4 {x:Operand} {cs:List DV} (hx:evA N ⟨t,h⟩ x = .ref cs):eC P N ⟨some d, .nilCheck x,ty,pos,aft,g⟩ ⟨t,h⟩ (.ref cs):=fun w F μ hh ρ st=>by
 have hr:=st x (by simp [Op.operands])
 rw [hx] at hr
 generalize hv:ρ x=v at hr
 have hr':=hr
 cases hr with | ref b off _ gg hF hg hr=>exact ⟨.pointer (some ⟨b,off,none⟩),by simp [execOp,hv],hr'⟩
end
end Go.Proofs.YtbliejnpjpnahaaGreatDoor
namespace Go.Proofs.YtbliejnpjpnahaaGreatDoor
open Go.RowKit
set_option linter.unusedVariables false
set_option maxRecDepth 100000
inductive Els (ev:Operand→AV) (sz:Nat):Nat→List (Nat × Operand)→List (List AV)→Prop
 | nil (k:Nat):Els ev sz k [] []
 | cons {k:Nat} {x:Operand} {cs:List AV} {ps:List (Nat × Operand)} {es:List (List AV)} (hc:aAc (ev x)=cs) (ho:okL cs=true) (hl:Nat.beq cs.length sz=true) (q:Els ev sz (k+1) ps es):Els ev sz k ((k,x) :: ps) (cs :: es)
theorem Els.fill_ {ev:Operand→AV} {sz k:Nat} {ps:List (Nat × Operand)} {es:List (List AV)} (B:Els ev sz k ps es) {w:World} {F:Nat→Prop} {μ:bJ} {hh:dG} {ρ:Operand→Value} :
  ∀ (cells:Array Value),(k+es.length)*sz≤cells.size→(∀ p ∈ ps,eP w F μ hh (ρ p.2) (ev p.2)) →
  ∃ out,Instr.fill (fun i=>some (i*sz,sz)) cells (ps.map fun p=>(p.1, ρ p.2))=some out∧out.size=cells.size∧(∀ j:Nat,j<k*sz→out[j]? = cells[j]?) ∧
   ∀ (i:Nat) e,es[i]? = some e→e.length=sz∧okL e=true ∧ ∀ (j:Nat) c,e[j]? = some c → ∃ u,out[(k+i)*sz+j]? = some u∧eP w F μ hh u c:=by
 induction B with
 | nil k=>intro cells _ _;exact ⟨cells,rfl,rfl,fun _ _=>rfl,fun i e he=>by simp at he⟩
 | cons hc ho hl q ih =>
  rename_i k x cs ps es
  intro cells hsz hps
  obtain ⟨c1,c2,c3⟩:=(hps (k,x) (by simp)).cells_ hc ho
  have hlen:cs.length=sz:=Nat.eq_of_beq_eq_true hl
  have hk:(k+(cs :: es).length)*sz=k*sz+sz+es.length*sz:=by simp only [List.length_cons,Nat.add_mul,Nat.one_mul];omega
  rw [hk] at hsz
  obtain ⟨cells',f1,f2,f3⟩:=aJx (place:=fun i=>some (i*sz,sz)) (rest:=ps.map fun p=>(p.1, ρ p.2)) (cells:=cells) (i:=k) (v:=ρ x) rfl (c1.trans hlen) (by omega)
  have hk1:(k+1)*sz=k*sz+sz:=by rw [Nat.add_mul,Nat.one_mul]
  obtain ⟨out,o1,o2,o3,o4⟩:=ih cells' (by rw [Nat.add_mul,hk1];omega) fun p hp=>hps p (by simp [hp])
  refine ⟨out,by rw [List.map_cons,f1];exact o1,o2.trans f2,fun j hj => ?_,fun i e he => ?_⟩
  ·rw [o3 j (by omega),f3 j,if_neg (by omega)]
  ·cases i with
   | zero =>
    simp at he
    subst he
    refine ⟨hlen,ho,fun j c hj => ?_⟩
    have hjl:j<cs.length:=(List.getElem?_eq_some_iff.1 hj).1
    obtain ⟨u,hu,hr⟩:=c2 j c hj
    refine ⟨u,?_,hr⟩
    rw [Nat.add_zero,o3 _ (by omega),f3 _,if_pos (by omega)]
    rw [show k*sz+j-k*sz=j by omega]
    exact hu
   | succ i =>
    simp at he
    obtain ⟨a1,a0,a2⟩:=o4 i e he
    refine ⟨a1,a0,fun j c hj => ?_⟩
    obtain ⟨u,hu,hr⟩:=a2 j c hj
    exact ⟨u,by rw [show k+(i+1)=k+1+i by omega];exact hu,hr⟩
inductive aC6:List AV→List DV→Prop
 | nil:aC6 [] []
 | cons {x:DV} {cs:List AV} {ds:List DV} (h:aC6 cs ds):aC6 (.d x :: cs) (x :: ds)
theorem aC6.eq_ {cs:List AV} {ds:List DV} (h:aC6 cs ds):cs=ds.map .d:=by induction h <;> simp_all
inductive pH:List (List AV)→List (List DV)→Prop
 | nil:pH [] []
 | cons {c:List AV} {x:List DV} {cs:List (List AV)} {ds:List (List DV)} (h:aC6 c x) (k:pH cs ds):pH (c :: cs) (x :: ds)
theorem pH.eq_ {cs:List (List AV)} {ds:List (List DV)} (h:pH cs ds):cs=ds.map (List.map .d):=by
 induction h with
 | nil=>rfl
 | cons h k ih=>simp [h.eq_,ih]
inductive Lay:List (List AV)→aX→Prop
 | data {es:List (List AV)} {ds:List (List DV)} (h:pH es ds):Lay es (.data ds)
 | av (es:List (List AV)):Lay es (.av es)
theorem Lay.get_ {es:List (List AV)} {c:aX} (h:Lay es c) (i:Nat):c.get i=es[i]? := by
 cases h with
 | data h=>rw [h.eq_];simp [aX.get]
 | av=>rfl
theorem Lay.len_ {es:List (List AV)} {c:aX} (h:Lay es c):c.len=es.length:=by
 cases h with
 | data h=>rw [h.eq_];simp [aX.len]
 | av=>rfl
theorem aG2 {l s:Nat} (h:0<l*s):l≤l*s:=by
 cases s with
 | zero=>simp at h
 | succ s=>exact Nat.le_mul_of_pos_right _ (Nat.succ_pos _)
section
variable {P:Program} {T:Tab} {N:Nat} {ops:Array Oper} {E:Env} {K:List (Nat × Cls)→AS→Prop} {i:Nat} {is:List Nat} {t:Nat→AV} {h h':dG} {d:Tmp} {op:Op} {ty:TypeId} {pos:String} {aft:Array Edge} {g:Option (Nat × Bool)}
theorem bDw {r:AV} (ho:ops[i]? = some ⟨some d,op,ty,pos,aft,g⟩) (hw:yX N ops ⟨some d,op,ty,pos,aft,g⟩ ⟨t,h⟩) (hd:Nat.blt d N=true) (hp:cQ P N ⟨some d,op,ty,pos,aft,g⟩ ⟨t,h⟩ r h' ∧ ∀ k,h k ≠ .no→h' k=h k)
  (k:RT P N ops is (fun l σ'=>K ((i, .st) :: l) σ') ⟨aA t d r,h'⟩):RT P N ops (i :: is) K ⟨t,h⟩:=qH ho (.still (dN hd) hw r h' hp.2 hp.1) k
theorem aDz {r:AV} {k0:Nat} {s:fA} (ho:ops[i]? = some ⟨some d,op,ty,pos,aft,g⟩) (hw:yX N ops ⟨some d,op,ty,pos,aft,g⟩ ⟨t,h⟩) (hd:Nat.blt d N=true) (hk:h k0 = .no) (hp : ∀ hx:dG,hx k0 = .no→cQ P N ⟨some d,op,ty,pos,aft,g⟩ ⟨t,hx⟩ r (upd hx k0 s) ∧ ∀ k,hx k ≠ .no→upd hx k0 s k=hx k)
  (k:RT P N ops is (fun l σ'=>K ((i, .al k0) :: l) σ') ⟨aA t d r,upd h k0 s⟩):RT P N ops (i :: is) K ⟨t,h⟩:=qH ho (.al k0 (dN hd) hw r s hk fun hx hk'=>(hp hx hk').1) k
theorem aDe {r:AV} {B:Nat} (ho:ops[i]? = some ⟨some d,op,ty,pos,aft,g⟩) (hw:yX N ops ⟨some d,op,ty,pos,aft,g⟩ ⟨t,h⟩) (hd:Nat.blt d N=true) (hp:Abv h B∧(∀ hx:dG,Abv hx B→(∀ p,h p ≠ .no→hx p=h p)→cQ P N ⟨some d,op,ty,pos,aft,g⟩ ⟨t,hx⟩ r (aCt B hx h'))∧aCt B h h'=h')
  (k:RT P N ops is (fun l σ'=>K ((i, .sb B) :: l) σ') ⟨aA t d r,h'⟩):RT P N ops (i :: is) K ⟨t,h⟩ :=
 qH ho (.sb B (dN hd) hw r h' hp.1 hp.2.1) (by show RT P N ops is _ ⟨aA t d r,aCt B h h'⟩;rw [hp.2.2];exact k)
theorem jX {r:AV} {k0:Nat} {x0:Operand} (ho:ops[i]? = some ⟨some d,op,ty,pos,aft,g⟩) (hw:yX N ops ⟨some d,op,ty,pos,aft,g⟩ ⟨t,h⟩) (hd:Nat.blt d N=true) (hp:jJ P N ⟨some d,op,ty,pos,aft,g⟩ ⟨t,h⟩ r) (hx0:op.operands.toList.head? = some x0) (h0:(evA N ⟨t,h⟩ x0).key=some k0) (hk:(op.operands.toList.all fun x=>match (evA N ⟨t,h⟩ x).key with | some k'=>Nat.beq k' k0 | none=>true)=true)
  (k:RT P N ops is (fun l σ'=>K ((i, .lk k0) :: l) σ') ⟨aA t d r,h⟩):RT P N ops (i :: is) K ⟨t,h⟩ :=
 qH ho (.lk k0 (dN hd) hw r hp fun x hx k' hk'=>by
  have:=List.all_eq_true.1 hk x (by simpa using hx)
  rw [hk'] at this
  exact Nat.eq_of_beq_eq_true this) k
theorem aZs {k0:Nat} {s:fA} {r:AV} (ho:ops[i]? = some ⟨none,op,ty,pos,aft,g⟩) (hw:yX N ops ⟨none,op,ty,pos,aft,g⟩ ⟨t,h⟩) (hp:cQ P N ⟨none,op,ty,pos,aft,g⟩ ⟨t,h⟩ r (upd h k0 s))
  (k:RT P N ops is (fun l σ'=>K ((i, .wk k0) :: l) σ') ⟨t,upd h k0 s⟩):RT P N ops (i :: is) K ⟨t,h⟩:=qH ho (.wk k0 (fun d e=>by cases e) hw r _ hp fun p hp=>dE _ _ hp) k
theorem bGi {r:AV} (ho:ops[i]? = some ⟨some d,op,ty,pos,aft,g⟩) (hw:yX N ops ⟨some d,op,ty,pos,aft,g⟩ ⟨t,h⟩) (hd:Nat.blt d N=true) (hp:cQ P N ⟨some d,op,ty,pos,aft,g⟩ ⟨t,h⟩ r h')
  (k:RT P N ops is (fun l σ'=>K ((i, .wr) :: l) σ') ⟨aA t d r,h'⟩):RT P N ops (i :: is) K ⟨t,h⟩:=qH ho (.write (dN hd) hw r h' hp) k
theorem bDx {r:AV} (ho:ops[i]? = some ⟨none,op,ty,pos,aft,g⟩) (hw:yX N ops ⟨none,op,ty,pos,aft,g⟩ ⟨t,h⟩) (hp:cQ P N ⟨none,op,ty,pos,aft,g⟩ ⟨t,h⟩ r h')
  (k:RT P N ops is (fun l σ'=>K ((i, .wr) :: l) σ') ⟨t,h'⟩):RT P N ops (i :: is) K ⟨t,h⟩:=qH ho (.write (fun d e=>by cases e) hw r h' hp) k
theorem wO {k:Nat} {s:fA} (hk:h k = .no) : ∀ k',h k' ≠ .no→upd h k s k'=h k':=fun k' hk'=>dE _ _ (fun e=>hk' (by rw [e];exact hk))
theorem aTg {F:Nat→Prop} {μ:bJ} {w:World} (H:iA E F μ h w) {k:Nat} (hk:h k = .no) {bt:TypeId} {cs:List AV} {v:Value} (hs:v.cells.size=cs.length) (hr : ∀ (j:Nat) c,cs[j]? = some c → ∃ u,v.cells[j]? = some u∧eP w F μ h u c) :
  ∃ F' μ',iA E F' μ' (upd h k (.live [⟨bt,cs.length, .av [cs]⟩])) (w.alloc (.cells v.cells bt))∧Evo w F μ h (w.alloc (.cells v.cells bt)) F' μ' (upd h k (.live [⟨bt,cs.length, .av [cs]⟩])) ∧
   eP (w.alloc (.cells v.cells bt)) F' μ' (upd h k (.live [⟨bt,cs.length, .av [cs]⟩])) (.pointer (some ⟨w.heap.size,0,none⟩)) (.ptr k 0 1 0 0):=by
 obtain ⟨H',V⟩:=H.alloc k hk ⟨bt,cs.length, .av [cs]⟩ v.cells (fun i cells hi=>by
  simp only [aX.get] at hi
  cases i with
  | zero=>simp at hi;subst hi;exact ⟨rfl,fun j c hj=>by simpa using hr j c hj⟩
  | succ i=>simp at hi)
 refine ⟨F,_,H',V, .ptr _ _ _ _ _ _ rfl (by rw [bR];intro e;cases e) fun o ho => ?_⟩
 rw [cO] at ho
 simp at ho
 subst ho
 exact ⟨by simp [aX.len],fun _=>⟨w.heap.size,cE _ _ _ _,by simp⟩⟩
theorem gH (k:Nat) (hT:TOk P T) {bt:TypeId} {ti:TI} {cs:List AV} (h1:T bt=some ti) (hc:aAd ti.zero.cells.toList=cs) (hk:h k = .no) :
  cQ P N ⟨some d, .alloc bt,ty,pos,aft,g⟩ ⟨t,h⟩ (.ptr k 0 1 0 0) (upd h k (.live [⟨bt,cs.length, .av [cs]⟩])) ∧ ∀ k',h k' ≠ .no→upd h k (.live [⟨bt,cs.length, .av [cs]⟩]) k'=h k':=by
 refine ⟨fun E F μ w ρ H st => ?_,wO hk⟩
 have e:(execOp ρ ⟨some d, .alloc bt,ty,pos,aft,g⟩).run P w = .ok (.value (.pointer (some ⟨w.heap.size,0,none⟩))) (w.alloc (.cells ti.zero.cells bt)):=by
  simp [execOp,Instr.alloc,aI1 hT h1,newVar,newRow]
 rw [e]
 exact aTg H hk (by rw [← hc];simp [oF]) fun j c hj=>by
  rw [← hc,oF,List.getElem?_map,Array.getElem?_toList] at hj
  obtain ⟨u,hu,rfl⟩:=Option.map_eq_some_iff.1 hj
  exact ⟨u,hu,aDu u⟩
theorem aYa (k:Nat) {bt:TypeId} {x:Operand} {cs:List AV} (hc:aAc (evA N ⟨t,h⟩ x)=cs) (ho:okL cs=true) (hk:h k = .no) :
  cQ P N ⟨some d, .box bt x,ty,pos,aft,g⟩ ⟨t,h⟩ (.ptr k 0 1 0 0) (upd h k (.live [⟨bt,cs.length, .av [cs]⟩])) ∧ ∀ k',h k' ≠ .no→upd h k (.live [⟨bt,cs.length, .av [cs]⟩]) k'=h k':=by
 refine ⟨fun E F μ w ρ H st => ?_,wO hk⟩
 have e:(execOp ρ ⟨some d, .box bt x,ty,pos,aft,g⟩).run P w = .ok (.value (.pointer (some ⟨w.heap.size,0,none⟩))) (w.alloc (.cells (ρ x).cells bt)):=by
  simp [execOp,Instr.box,newVar,newRow]
 rw [e]
 obtain ⟨c1,c2,_⟩:=(st x (by simp [Op.operands])).cells_ hc ho
 exact aTg H hk c1 c2
theorem aMz {F:Nat→Prop} {μ:bJ} {w:World} (H:iA E F μ h w) {k:Nat} (hk:h k = .no) {et:TypeId} {sz c:Nat} {cc:aX} {out:Array Value} (hs:out.size=c*sz) (hl:cc.len≤c) (hm:c≤maxLen)
  (hr : ∀ i cells,cc.get i=some cells→cells.length=sz ∧ ∀ (j:Nat) a,cells[j]? = some a → ∃ u,out[i*sz+j]? = some u∧eP w F μ h u a) :
  ∃ F' μ',iA E F' μ' (upd h k (.live [⟨et,sz,cc⟩])) (w.alloc (.cells out et))∧Evo w F μ h (w.alloc (.cells out et)) F' μ' (upd h k (.live [⟨et,sz,cc⟩])) ∧
   eP (w.alloc (.cells out et)) F' μ' (upd h k (.live [⟨et,sz,cc⟩])) (.slice (some ⟨w.heap.size,0,none⟩) cc.len c) (.own k 0 cc.len):=by
 obtain ⟨H',V⟩:=H.alloc k hk ⟨et,sz,cc⟩ out hr
 refine ⟨F,_,H',V, .own _ _ _ _ rfl (by rw [bR];intro e;cases e) fun o ho => ?_⟩
 rw [cO] at ho
 simp at ho
 subst ho
 exact ⟨Nat.le_refl _,fun _ => .inr ⟨w.heap.size,c,out,cE _ _ _ _,rfl,Go.heap_alloc_new w _,hs,hl,hm⟩⟩
theorem yK (hT:TOk P T) {bt e:TypeId} {len:Nat} {parts:Array (Nat × Operand)} {ti ei:TI} {es:List (List AV)} {ρ:Operand→Value} {F:Nat→Prop} {μ:bJ} {w:World} (h1:T bt=some ti) (h2:ti.desc = .slice e) (h3:T e=some ei)
  (hel:Els (evA N ⟨t,h⟩) ei.size 0 parts.toList es) (hlen:Nat.beq es.length len=true) (hpos:Nat.blt 0 (len*ei.size)=true) (hsm:Nat.ble (len*ei.size) 16777216=true)
  (hst : ∀ p ∈ parts.toList,eP w F μ h (ρ p.2) (evA N ⟨t,h⟩ p.2)) :
  ∃ out,(execOp ρ ⟨some d, .buildSlice bt len parts,ty,pos,aft,g⟩).run P w = .ok (.value (.slice (some ⟨w.heap.size,0,none⟩) len len)) (w.alloc (.cells out e))∧out.size=len*ei.size ∧
   ∀ (i:Nat) x,es[i]? = some x→x.length=ei.size∧okL x=true ∧ ∀ (j:Nat) a,x[j]? = some a → ∃ u,out[i*ei.size+j]? = some u∧eP w F μ h u a:=by
 have hl:es.length=len:=Nat.eq_of_beq_eq_true hlen
 have hp:=oB hpos
 have hs:=Nat.le_of_ble_eq_true hsm
 obtain ⟨hu,_⟩:=hT _ _ h1
 rw [h2] at hu
 obtain ⟨_,ie,hie,hsz,_,hz⟩:=hT _ _ h3
 obtain ⟨out,o1,o2,o3,o4⟩:=hel.fill_ (w:=w) (F:=F) (μ:=μ) (hh:=h) (ρ:=ρ) ((Array.range (len*ei.size)).map (ei.zero.cells[· % ei.zero.cells.size]!)) (by simp [hl]) hst
 refine ⟨out,?_,by rw [o2];simp,fun i x hx=>by have:=o4 i x hx;simpa using this⟩
 simp only [execOp]
 rw [Sem.run_bind]
 have e1:(parts.map fun (x:Nat × Operand)=>match x with | (i,x)=>(i, ρ x)).toList=parts.toList.map fun p=>(p.1, ρ p.2):=by simp
 rw [run_buildSlice w bt e len _ out ie ei.zero hu hie hz (by rw [hsz];omega) (by rw [hsz];omega) (by rw [hsz,e1];exact o1)]
 rfl
theorem aPo (k:Nat) (hT:TOk P T) {bt e:TypeId} {len:Nat} {parts:Array (Nat × Operand)} {ti ei:TI} {es:List (List AV)} {cc:aX} (h1:T bt=some ti) (h2:ti.desc = .slice e) (h3:T e=some ei)
  (hel:Els (evA N ⟨t,h⟩) ei.size 0 parts.toList es) (hlen:Nat.beq es.length len=true) (hpos:Nat.blt 0 (len*ei.size)=true) (hsm:Nat.ble (len*ei.size) 16777216=true) (hcc:Lay es cc) (hk:h k = .no) :
  cQ P N ⟨some d, .buildSlice bt len parts,ty,pos,aft,g⟩ ⟨t,h⟩ (.own k 0 len) (upd h k (.live [⟨e,ei.size,cc⟩])) ∧ ∀ k',h k' ≠ .no→upd h k (.live [⟨e,ei.size,cc⟩]) k'=h k':=by
 refine ⟨fun E F μ w ρ H st => ?_,wO hk⟩
 obtain ⟨out,o1,o2,o3⟩:=yK (d:=d) (ty:=ty) (pos:=pos) (aft:=aft) (g:=g) (ρ:=ρ) hT h1 h2 h3 hel hlen hpos hsm fun p hp=>st p.2 (by simp only [Op.operands];simp;exact ⟨p.1,by simpa using hp⟩)
 rw [o1]
 have hl:cc.len=len:=hcc.len_.trans (Nat.eq_of_beq_eq_true hlen)
 have hs:=Nat.le_of_ble_eq_true hsm
 have hp:=oB hpos
 have hlm:len≤len*ei.size:=aG2 hp
 have:=aMz (et:=e) H hk o2 (show cc.len≤len by omega) (by unfold maxLen;omega) fun i cells hi=>by
  rw [hcc.get_] at hi
  exact ⟨(o3 i cells hi).1,(o3 i cells hi).2.2⟩
 rw [hl] at this
 exact this
theorem aLi (hT:TOk P T) {bt e:TypeId} {len:Nat} {parts:Array (Nat × Operand)} {ti ei:TI} {es:List (List AV)} {ds:List (List DV)} (h1:T bt=some ti) (h2:ti.desc = .slice e) (h3:T e=some ei)
  (hel:Els (evA N ⟨t,h⟩) ei.size 0 parts.toList es) (hlen:Nat.beq es.length len=true) (hpos:Nat.blt 0 (len*ei.size)=true) (hsm:Nat.ble (len*ei.size) 16777216=true) (hcc:pH es ds) :
  cQ P N ⟨some d, .buildSlice bt len parts,ty,pos,aft,g⟩ ⟨t,h⟩ (.d (.sl ds)) h ∧ ∀ k',h k' ≠ .no→h k'=h k':=by
 refine ⟨fun E F μ w ρ H st => ?_,fun _ _=>rfl⟩
 obtain ⟨out,o1,o2,o3⟩:=yK (d:=d) (ty:=ty) (pos:=pos) (aft:=aft) (g:=g) (ρ:=ρ) hT h1 h2 h3 hel hlen hpos hsm fun p hp=>st p.2 (by simp only [Op.operands];simp;exact ⟨p.1,by simpa using hp⟩)
 rw [o1]
 obtain ⟨H',V⟩:=H.ice (.cells out e)
 have hl:ds.length=len:=by have:=Nat.eq_of_beq_eq_true hlen;rw [hcc.eq_] at this;simpa using this
 have hs:=Nat.le_of_ble_eq_true hsm
 have hp:=oB hpos
 have hlm:len≤len*ei.size:=aG2 hp
 have hat : ∀ (i:Nat) (x:List DV),ds[i]? = some x→x.length=ei.size ∧ ∀ (j:Nat) y,x[j]? = some y → ∃ u,out[i*ei.size+j]? = some u∧eP w F μ h u (.d y):=fun i x hx=>by
  obtain ⟨a1,_,a2⟩:=o3 i (x.map .d) (by rw [hcc.eq_];simp [hx])
  exact ⟨by simpa using a1,fun j y hy=>a2 j (.d y) (by simp [hy])⟩
 refine ⟨_, μ,H',V, .d _ _ ?_⟩
 rw [← hl]
 refine .sl w.heap.size 0 ds.length ei.size ds (fun i j=>out.getD (i*ei.size+j) undef) (.inr rfl) (Nat.le_refl _) (by unfold maxLen;omega) (fun i x hx=>(hat i x hx).1) (fun i x j y hx hy => ?_) (fun i x j y hx hy => ?_)
 ·obtain ⟨u,hu,_⟩:=(hat i x hx).2 j y hy
  rw [Nat.zero_add,cell_of_row _ _ _ out e (0,0) (Go.heap_alloc_new w _),hu]
  simp [hu]
 ·obtain ⟨u,hu,hr⟩:=(hat i x hx).2 j y hy
  have e1:out.getD (i*ei.size+j) undef=u:=by simp [hu]
  rw [e1]
  have:=hr.evo V
  cases this with | d _ _ hd=>exact hd
theorem kR (k:Nat) (hT:TOk P T) {bt e:TypeId} {ti ei:TI} (h1:T bt=some ti) (h2:ti.desc = .slice e) (h3:T e=some ei) (hk:h k = .no) :
  cQ P N ⟨some d, .buildSlice bt 0 #[],ty,pos,aft,g⟩ ⟨t,h⟩ (.own k 0 0) (upd h k (.live [⟨e,ei.size, .data []⟩])) ∧ ∀ k',h k' ≠ .no→upd h k (.live [⟨e,ei.size, .data []⟩]) k'=h k':=by
 refine ⟨fun E F μ w ρ H st => ?_,wO hk⟩
 obtain ⟨hu,_⟩:=hT _ _ h1
 rw [h2] at hu
 have e1:(execOp ρ ⟨some d, .buildSlice bt 0 #[],ty,pos,aft,g⟩).run P w = .ok (.value (.slice (some ⟨w.heap.size,0,none⟩) 0 0)) (w.alloc (.cells #[] e)):=by
  simp [execOp,Instr.buildSlice,run_underlying hu,fV hT h3,Instr.fill,newRow,Array.range_zero']
 rw [e1]
 exact aMz (cc := .data []) (c:=0) H hk (by simp) (Nat.le_refl _) (by unfold maxLen;omega) fun i cells hi=>by simp [aX.get] at hi
def bCs:Value→DV
 | .slice none 0 0 => .sl []
 | v => .v v
def dvL:List Value→List DV
 | []=>[]
 | v :: vs=>bCs v :: dvL vs
theorem aL5 : ∀ l,dvL l=l.map bCs
 | []=>rfl
 | v :: vs=>by simp [dvL,aL5 vs]
def aD2:Value→Bool
 | .slice none 0 0=>true
 | v=>v.oneCell'
def bBl:List Value→Bool
 | []=>true
 | v :: vs=>aD2 v && bBl vs
theorem aLv {w:World} {F:Nat→Prop} {v:Value} (h:aD2 v=true):xV w F v (bCs v):=by
 unfold bCs
 split
 ·exact .nil
 ·rename_i hn
  refine .v _ ?_
  unfold aD2 at h
  split at h
  ·exact absurd rfl hn
  ·exact h
theorem aO8 : ∀ {l:List Value},bBl l=true → ∀ v ∈ l,aD2 v=true
 | [],_,v,hv=>by cases hv
 | x :: l,h,v,hv=>by
  simp [bBl] at h
  rcases List.mem_cons.1 hv with rfl | hv
  ·exact h.1
  ·exact aO8 h.2 v hv
theorem aZ7 (k:Nat) (hT:TOk P T) {bt e:TypeId} {x y:Operand} {kx ky:IntKind} {a b:Int} {l c:Nat} {ti ei:TI} {zs:List DV} (hx:evA N ⟨t,h⟩ x = .d (.v (.int kx a))) (hy:evA N ⟨t,h⟩ y = .d (.v (.int ky b))) (ha:a=(l:Int)) (hb:b=(c:Int)) (hlc:l≤c)
  (h1:T bt=some ti) (h2:ti.desc = .slice e) (h3:T e=some ei) (hz:dvL ei.zero.cells.toList=zs) (hone:bBl ei.zero.cells.toList=true) (hzs:Nat.beq zs.length ei.size=true) (hpos:Nat.blt 0 ei.size=true) (hby:ei.bytes*c≤281474976710656) (hm:c≤9223372036854775807) (hk:h k = .no) :
  cQ P N ⟨some d, .makeSlice bt x y,ty,pos,aft,g⟩ ⟨t,h⟩ (.own k 0 l) (upd h k (.live [⟨e,ei.size, .data (List.replicate l zs)⟩])) ∧ ∀ k',h k' ≠ .no→upd h k (.live [⟨e,ei.size, .data (List.replicate l zs)⟩]) k'=h k':=by
 refine ⟨fun E F μ w ρ H st => ?_,wO hk⟩
 have e1:=gU (by have:=st x (by simp [Op.operands]);rw [hx] at this;exact this)
 have e2:=gU (by have:=st y (by simp [Op.operands]);rw [hy] at this;exact this)
 obtain ⟨hu,_⟩:=hT _ _ h1
 rw [h2] at hu
 obtain ⟨_,ie,hie,hsz,hbb,hzz⟩:=hT _ _ h3
 subst ha hb
 have hby':(ei.bytes:Int)*(c:Int)≤281474976710656:=by
  have:((ei.bytes*c:Nat):Int)≤281474976710656:=by omega
  rwa [Int.natCast_mul] at this
 have hrun:=run_make (P:=P) w bt e ie ei.zero hu hie hzz kx ky l c (by omega) (by omega) (by rw [hbb];exact hby') (by omega)
 rw [Int.toNat_natCast,Int.toNat_natCast,hsz] at hrun
 have e3:(execOp ρ ⟨some d, .makeSlice bt x y,ty,pos,aft,g⟩).run P w = .ok (.value (.slice (some ⟨w.heap.size,0,none⟩) l c)) (w.alloc (.cells (madeCells ei.zero.cells (c*ei.size)) e)):=by
  simp only [execOp,e1,e2]
  rw [Sem.run_bind,hrun];rfl
 rw [e3]
 have hp:=oB hpos
 have hlen:ei.zero.cells.size=ei.size:=by
  have:=Nat.eq_of_beq_eq_true hzs
  rw [← hz,aL5] at this
  simpa using this
 have:=aMz (cc := .data (List.replicate l zs)) (et:=e) H hk (size_madeCells ei.zero.cells (c*ei.size)) (by simpa [aX.len] using hlc) (by unfold maxLen;omega) fun i cells hi=>by
  simp only [aX.get] at hi
  obtain ⟨q,hq,rfl⟩:=Option.map_eq_some_iff.1 hi
  have hil:i<l:=by have:=(List.getElem?_eq_some_iff.1 hq).1;simpa using this
  have hqz:q=zs:=by have:=List.mem_of_getElem? hq;exact (List.mem_replicate.1 this).2
  subst hqz
  refine ⟨by rw [List.length_map];exact Nat.eq_of_beq_eq_true hzs,fun j a hj => ?_⟩
  rw [← hz,aL5,List.map_map,List.getElem?_map,Array.getElem?_toList] at hj
  obtain ⟨u,hu',rfl⟩:=Option.map_eq_some_iff.1 hj
  have hjl:j<ei.size:=by have:=(Array.getElem?_eq_some_iff.1 hu').1;omega
  have hidx:i*ei.size+j<c*ei.size:=by
   have:(i+1)*ei.size≤c*ei.size:=Nat.mul_le_mul_right _ (by omega)
   rw [Nat.add_mul] at this
   omega
  refine ⟨u,?_, .d _ _ (aLv (aO8 hone u (by simpa using Array.mem_of_getElem? hu')))⟩
  simp only [madeCells,Array.getElem?_map]
  rw [Array.getElem?_range,if_pos hidx]
  simp only [Option.map_some,hlen]
  rw [Nat.mul_comm,Nat.mul_add_mod,Nat.mod_eq_of_lt hjl,getElem!_def,hu']
 have h5:(aX.data (List.replicate l zs)).len=l:=by simp [aX.len]
 rw [h5] at this
 exact this
end
end Go.Proofs.YtbliejnpjpnahaaGreatDoor
