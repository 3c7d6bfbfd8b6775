/- An abstract machine, F: code. No program. -/
import Derived.Test.YtjhadibjjldpdaaGreatAmE
import Derived.Scope
namespace Go.Proofs.YtjhadibjjldpdaaGreat
open Go.RowKit
set_option linter.unusedVariables false
set_option maxRecDepth 100000
section
variable {P : Program} {L N : Nat} {ops : Array Oper} {E : Env}

/-- what an operation comes after, as bits: its own edges and theirs -/
def maskOf (ms : List Nat) (o : Oper) : Nat := o.after.toList.foldl (fun a e => bif Region.binds .any e then Nat.lor a (Nat.lor (Nat.shiftLeft 1 e.on) (ms.getD e.on 0)) else a) 0
def masks : List Oper → List Nat → List Nat
  | [], ms => ms
  | o :: os, ms => masks os (ms ++ [maskOf ms o])
def Closed (ops : Array Oper) (listed : Array Bool) : Prop := ∀ i o, ops[i]? = some o → listed.getD i false = true → ∀ e ∈ o.after, Region.binds .any e = true → listed.getD e.on false = true
def MsOk (ops : Array Oper) (ms : List Nat) : Prop := ∀ i o j, ops[i]? = some o → (ms.getD i 0).testBit j = true → ∀ listed, Closed ops listed → (∀ e ∈ o.after, Region.binds .any e = true → listed.getD e.on false = true) → listed.getD j false = true
theorem maskOf_bit {ms : List Nat} {j : Nat} (es : List Edge) : ∀ a : Nat, (es.foldl (fun a e => bif Region.binds .any e then Nat.lor a (Nat.lor (Nat.shiftLeft 1 e.on) (ms.getD e.on 0)) else a) a).testBit j = true → a.testBit j = true ∨ ∃ e ∈ es, Region.binds .any e = true ∧ (e.on = j ∨ (ms.getD e.on 0).testBit j = true) := by
  induction es with
  | nil => intro a h; exact .inl h
  | cons e es ih =>
    intro a h
    rw [List.foldl_cons] at h
    rcases ih _ h with h | ⟨e2, he, hb, h⟩
    · cases hb : Region.binds .any e
      · rw [hb] at h; exact .inl h
      · rw [hb] at h
        simp only [cond_true] at h
        have h : (a ||| (1 <<< e.on ||| ms.getD e.on 0)).testBit j = true := h
        rw [Nat.testBit_or, Nat.testBit_or, Bool.or_eq_true, Bool.or_eq_true] at h
        rcases h with h | h | h
        · exact .inl h
        · refine .inr ⟨e, List.mem_cons_self .., hb, .inl ?_⟩
          rw [Nat.one_shiftLeft, Nat.testBit_two_pow] at h
          exact of_decide_eq_true h
        · exact .inr ⟨e, List.mem_cons_self .., hb, .inr h⟩
    · exact .inr ⟨e2, List.mem_cons_of_mem _ he, hb, h⟩
theorem masks_ok_ {ops : Array Oper} : ∀ (os pre : List Oper) (ms : List Nat), ops.toList = pre ++ os → ms.length = pre.length → MsOk ops ms → MsOk ops (masks os ms)
  | [], pre, ms, _, _, h => h
  | o :: os, pre, ms, e, hl, h => by
    refine masks_ok_ os (pre ++ [o]) (ms ++ [maskOf ms o]) (by rw [e]; simp) (by simp [hl]) ?_
    intro i oi j ho hb listed hc hr
    rcases Nat.lt_trichotomy i ms.length with hi | hi | hi
    · rw [List.getD_eq_getElem?_getD, List.getElem?_append_left hi, ← List.getD_eq_getElem?_getD] at hb
      exact h i oi j ho hb listed hc hr
    · subst hi
      have h2 : ops[ms.length]? = some o := by
        rw [← Array.getElem?_toList, e, hl, List.getElem?_append_right (Nat.le_refl _)]; simp
      rw [h2] at ho
      injection ho with ho
      subst ho
      have e3 : (ms ++ [maskOf ms o]).getD ms.length 0 = maskOf ms o := by simp [List.getD_eq_getElem?_getD]
      rw [e3] at hb
      rcases maskOf_bit o.after.toList 0 hb with h3 | ⟨e4, he, hb4, h3 | h3⟩
      · simp at h3
      · rw [← h3]; exact hr e4 (Array.mem_toList_iff.1 he) hb4
      · have hl4 := hr e4 (Array.mem_toList_iff.1 he) hb4
        cases ho4 : ops[e4.on]? with
        | none =>
          exfalso
          rw [← Array.getElem?_toList, e, List.getElem?_eq_none_iff] at ho4
          rw [List.getD_eq_getElem?_getD, List.getElem?_eq_none (by simp at ho4; omega)] at h3
          simp at h3
        | some o4 => exact h e4.on o4 j ho4 h3 listed hc (hc e4.on o4 ho4 hl4)
    · have e3 : (ms ++ [maskOf ms o]).getD i 0 = 0 := by rw [List.getD_eq_getElem?_getD, List.getElem?_eq_none (by simp; omega)]; rfl
      rw [e3] at hb
      simp at hb
theorem masks_ok {ops : Array Oper} {ms : List Nat} (h : masks ops.toList [] = ms) : MsOk ops ms := by
  subst h
  exact masks_ok_ ops.toList [] [] rfl rfl fun i o j _ hb => by simp at hb
def pairB (ops : Array Oper) (ms : List Nat) (x y : Nat × Cls) : Bool :=
  match ops[x.1]?, ops[y.1]? with
  | some ox, some oy => x.1 != y.1 && ((ms.getD y.1 0).testBit x.1 || (ox.apart ops oy && x.2.ok y.2)) && ox.after.all fun e => !Region.binds .any e || e.on != y.1
  | _, _ => false
def pairsB (ops : Array Oper) (ms : List Nat) : List (Nat × Cls) → Bool
  | [] => true
  | x :: l => l.all (pairB ops ms x) && pairsB ops ms l
def oneB (ops : Array Oper) (x : Nat × Cls) : Bool :=
  match ops[x.1]? with
  | some o => o.after.all fun e => e.on != x.1 && Nat.blt e.on ops.size
  | none => false
def drawOk (ops : Array Oper) (ms : List Nat) (l : List (Nat × Cls)) : Bool := ((List.range ops.size).all fun i => l.any fun x => x.1 == i) && l.length == ops.size && l.all (oneB ops) && pairsB ops ms l
theorem pairsB_spec {ms : List Nat} : ∀ {l : List (Nat × Cls)}, pairsB ops ms l = true → l.Pairwise fun x y => pairB ops ms x y = true
  | [], _ => .nil
  | x :: l, h => by
    simp only [pairsB, Bool.and_eq_true, List.all_eq_true] at h
    exact .cons h.1 (pairsB_spec h.2)

theorem chain_bubble {i : Nat} {c : Cls} {oi : Oper} (hi : ops[i]? = some oi) {l2 : List (Nat × Cls)} {σ' : AS} : ∀ {l1 : List (Nat × Cls)} {σ : AS}, AChain P N ops (l1 ++ (i, c) :: l2) σ σ' →
    (∀ x ∈ l1, ∀ ox, ops[x.1]? = some ox → ox.apart ops oi = true ∧ x.2.ok c = true) → ∃ σ1, AStep P N ops oi σ c σ1 ∧ AChain P N ops (l1 ++ l2) σ1 σ'
  | [], σ, h, _ => by
    cases h with | cons _ _ _ o _ σ1 _ ho hs hr =>
    rw [hi] at ho
    injection ho with ho
    subst ho
    exact ⟨σ1, hs, hr⟩
  | x :: l1, σ, h, hx => by
    cases h with | cons j cj _ o _ σ1 _ ho hs hr =>
    obtain ⟨σ2, s2, r2⟩ := chain_bubble hi hr fun y hy => hx y (List.mem_cons_of_mem _ hy)
    obtain ⟨a1, a2⟩ := hx (j, cj) (List.mem_cons_self ..) o ho
    obtain ⟨σ3, s3, s4⟩ := hs.comm s2 a1 a2
    exact ⟨σ3, s3, .cons j cj _ o _ σ2 _ ho s4 r2⟩

theorem any_of_chain {ms : List Nat} (hms : MsOk ops ms) {Q : Exit → Act → World → Prop} {σ' : AS} (hQ : ∀ a' w', Abs L E N σ' a' w' → Q .normal a' w') : ∀ (n : Nat) (l : List (Nat × Cls)) (listed : Array Bool) (a : Act) (w : World) (σ : AS), l.length = n →
    (l.Pairwise fun x y => pairB ops ms x y = true) → (∀ x ∈ l, oneB ops x = true) → listed.size = ops.size → (∀ i, i < ops.size → (listed.getD i true = false ↔ ∃ c, (i, c) ∈ l)) →
    (∀ i o, ops[i]? = some o → listed.getD i false = true → ∀ e ∈ o.after, Region.binds .any e = true → listed.getD e.on false = true) →
    AChain P N ops l σ σ' → Abs L E N σ a w → wpAny P .any ops Q n listed a w := by
  intro n
  induction n with
  | zero =>
    intro l listed a w σ hl _ _ hsz hlist _ C A
    have : l = [] := List.eq_nil_of_length_eq_zero hl
    subst this
    cases C
    refine ⟨List.eq_nil_iff_forall_not_mem.2 fun j hj => ?_, hQ _ _ A⟩
    obtain ⟨h1, o, ho, _⟩ := mem_ready.1 hj
    obtain ⟨c, hc⟩ := (hlist j (Array.getElem?_eq_some_iff.1 ho).1).1 h1
    cases hc
  | succ n ih =>
    intro l listed a w σ hl hp hone hsz hlist hcl C A
    have inout : ∀ i, i < ops.size → (¬ ∃ c, (i, c) ∈ l) → listed.getD i false = true := fun i hi hno => by
      have : ¬ listed.getD i true = false := fun e => hno ((hlist i hi).1 e)
      have hlt : i < listed.size := by omega
      simpa [Array.getD, hlt] using this
    refine ⟨fun hr => ?_, fun i hi => ?_⟩
    · exfalso
      match l, hl with
      | (i, c) :: l', _ =>
        have h1 := hone (i, c) (List.mem_cons_self ..)
        unfold oneB at h1
        cases ho : ops[i]? with
        | none => simp [ho] at h1
        | some o =>
          simp only [ho, Array.all_eq_true_iff_forall_mem, Bool.and_eq_true, bne_iff_ne] at h1
          have : i ∈ Region.ready .any ops listed := by
            refine mem_ready.2 ⟨(hlist i (Array.getElem?_eq_some_iff.1 ho).1).2 ⟨c, List.mem_cons_self ..⟩, o, ho, fun e he hb => ?_⟩
            obtain ⟨e1, e2⟩ := h1 e he
            refine inout e.on (by simp [Nat.blt] at e2; omega) ?_
            rintro ⟨c2, hc2⟩
            rcases List.mem_cons.1 hc2 with hc2 | hc2
            · injection hc2 with h3 h4; exact e1 h3
            · have := (List.pairwise_cons.1 hp).1 _ hc2
              unfold pairB at this
              simp only [ho] at this
              cases ho2 : ops[e.on]? with
              | none => simp [ho2] at this
              | some o2 =>
                simp only [ho2, Bool.and_eq_true, Array.all_eq_true_iff_forall_mem, Bool.or_eq_true, Bool.not_eq_true', bne_iff_ne] at this
                rcases this.2 e he with h5 | h5
                · rw [hb] at h5; cases h5
                · exact h5 rfl
          rw [hr] at this
          cases this
    · obtain ⟨h1, o, ho, hdep⟩ := mem_ready.1 hi
      have hilt : i < ops.size := (Array.getElem?_eq_some_iff.1 ho).1
      obtain ⟨c, hc⟩ := (hlist i hilt).1 h1
      obtain ⟨l1, l2, rfl⟩ := List.append_of_mem hc
      have hind : ∀ x ∈ l1, ∀ ox, ops[x.1]? = some ox → ox.apart ops o = true ∧ x.2.ok c = true := fun x hx ox hox => by
        have hpx := (List.pairwise_append.1 hp).2.2 x hx (i, c) (List.mem_cons_self ..)
        unfold pairB at hpx
        simp only [hox, ho, Bool.and_eq_true, Bool.or_eq_true] at hpx
        rcases hpx.1.2 with hd | hd
        · exfalso
          have hxl := hms i o x.1 ho hd listed hcl hdep
          have hxn := (hlist x.1 (Array.getElem?_eq_some_iff.1 hox).1).2 ⟨x.2, List.mem_append_left _ hx⟩
          have hlt : x.1 < listed.size := by rw [hsz]; exact (Array.getElem?_eq_some_iff.1 hox).1
          simp [Array.getD, hlt] at hxl hxn
          rw [hxl] at hxn; cases hxn
        · exact hd
      obtain ⟨σ1, hs, hr⟩ := chain_bubble ho C hind
      have hsub : (l1 ++ l2).Sublist (l1 ++ (i, c) :: l2) := List.Sublist.append_left (List.sublist_cons_self ..) l1
      have hnin : ∀ c', (i, c') ∉ l1 ++ l2 := fun c' hm => by
        rcases List.mem_append.1 hm with hm | hm
        · have hpx := (List.pairwise_append.1 hp).2.2 _ hm (i, c) (List.mem_cons_self ..)
          unfold pairB at hpx
          simp [ho] at hpx
        · have hpx := (List.pairwise_cons.1 (List.pairwise_append.1 hp).2.1).1 _ hm
          unfold pairB at hpx
          simp [ho] at hpx
      have key : ∀ a' w', Abs L E N σ1 a' w' → wpAny P .any ops Q n (listed.setIfInBounds i true) a' w' := fun a' w' A' => by
        refine ih (l1 ++ l2) _ a' w' σ1 (by simp at hl ⊢; omega) (hp.sublist hsub) (fun x hx => hone x (hsub.subset hx)) (by simpa using hsz) (fun j hj => ?_) (fun j oj hoj hlj e he hb => ?_) hr A'
        · by_cases e : i = j
          · subst e
            constructor
            · intro h; simp [Array.getD, hsz, hilt] at h
            · rintro ⟨c', hc'⟩; exact absurd hc' (hnin c')
          · rw [getD_set_ne true e, hlist j hj]
            constructor
            · rintro ⟨c', hc'⟩
              refine ⟨c', ?_⟩
              rcases List.mem_append.1 hc' with hm | hm
              · exact List.mem_append_left _ hm
              · rcases List.mem_cons.1 hm with hm | hm
                · injection hm with h3 h4; exact absurd h3.symm e
                · exact List.mem_append_right _ hm
            · rintro ⟨c', hc'⟩; exact ⟨c', hsub.subset hc'⟩
        · by_cases ee : i = j
          · subst ee
            rw [ho] at hoj
            injection hoj with hoj
            subst hoj
            exact getD_set_true (hdep e he hb)
          · rw [getD_set_ne false ee] at hlj
            exact getD_set_true (hcl j oj hoj hlj e he hb)
      have := hs.sound A (K := wpAny P .any ops Q n (listed.setIfInBounds i true)) (Q := Q) key
      unfold wpOp
      simp only [ho]
      split
      · rename_i hw; rw [if_pos hw] at this; exact .inl this
      · rename_i hw; rw [if_neg hw] at this; exact this

/-! code -/
inductive AExit where
  | normal
  | exit (id : Nat)
  | goto (l : Nat)
  | ret
def absQ (L : Nat) (E : Env) (N : Nat) (Q : AExit → AS → Prop) : Exit → Act → World → Prop
  | .normal, a, w => ∃ σ, Abs L E N σ a w ∧ Q .normal σ
  | .exit i, a, w => ∃ σ, Abs L E N σ a w ∧ Q (.exit i) σ
  | .goto l, a, w => ∃ σ, Abs L E N σ a w ∧ Q (.goto l) σ
  | .ret, a, w => ∃ σ, Abs L E N σ a w ∧ Q .ret σ
  | _, _, _ => False
def AW (L : Nat) (P : Program) (N : Nat) (c : Code) (Q : AExit → AS → Prop) (σ : AS) : Prop := ∀ E a w, Abs L E N σ a w → c.wp P (absQ L E N Q) a w
def AThen (K : AS → Prop) (Q : AExit → AS → Prop) : AExit → AS → Prop
  | .normal, σ => K σ
  | e, σ => Q e σ
def ABlock (id : Nat) (Q : AExit → AS → Prop) : AExit → AS → Prop
  | .exit i, σ => if i = id then Q .normal σ else Q (.exit i) σ
  | e, σ => Q e σ
variable {Q : AExit → AS → Prop} {σ : AS} {c x y : Code}
theorem AW.mono {Q' : AExit → AS → Prop} (h : AW L P N c Q σ) (hq : ∀ e σ, Q e σ → Q' e σ) : AW L P N c Q' σ := fun E a w A =>
  wp_mono (h E a w A) fun e a w q => by cases e <;> first | (obtain ⟨σ', A', q'⟩ := q; exact ⟨σ', A', hq _ _ q'⟩) | exact q
theorem aw_skip (h : Q .normal σ) : AW L P N .skip Q σ := fun E a w A => wp_skip ⟨σ, A, h⟩
theorem aw_label {l : Nat} (h : Q .normal σ) : AW L P N (.label l) Q σ := fun E a w A => wp_label ⟨σ, A, h⟩
theorem aw_exit {i : Nat} (h : Q (.exit i) σ) : AW L P N (.exit i) Q σ := fun E a w A => wp_exit ⟨σ, A, h⟩
theorem aw_ret (h : Q .ret σ) : AW L P N .ret Q σ := fun E a w A => wp_ret ⟨σ, A, h⟩
theorem aw_seq (h : AW L P N x (AThen (fun σ => AW L P N y Q σ) Q) σ) : AW L P N (.seq x y) Q σ := fun E a w A =>
  wp_seq (wp_mono (h E a w A) fun e a w q => by
    cases e with
    | normal => obtain ⟨σ', A', q'⟩ := q; exact q' E a w A'
    | exit i => exact q
    | goto l => exact q
    | ret => exact q
    | panic ch => exact q
    | outgrown => exact q)
theorem aw_block {id : Nat} (h : AW L P N c (ABlock id Q) σ) : AW L P N (.block id c) Q σ := fun E a w A =>
  wp_block (wp_mono (h E a w A) fun e a w q => by
    cases e with
    | exit i =>
      obtain ⟨σ', A', q'⟩ := q
      simp only [Exit.inBlock, ABlock] at q' ⊢
      split
      · rename_i e; rw [if_pos e] at q'; exact ⟨σ', A', q'⟩
      · rename_i e; rw [if_neg e] at q'; exact ⟨σ', A', q'⟩
    | normal => exact q
    | goto l => exact q
    | ret => exact q
    | panic ch => exact q
    | outgrown => exact q)
theorem cond_val {F : Nat → Prop} {μ : Places} {a : Act} {w : World} {b : Bool} {o : Operand} (A : AbsF L E N F μ σ a w) (hb : evA N σ o = .d (.v (.bool b))) : a.eval o = .bool b := by
  have hr := evA_rep A o
  rw [hb] at hr
  generalize a.eval o = v at hr
  cases hr with | d _ _ hd => cases hd; rfl
theorem aw_cond {o : Operand} (b : Bool) (hb : evA N σ o = .d (.v (.bool b))) (ht : b = true → AW L P N x Q σ) (hf : b = false → AW L P N y Q σ) : AW L P N (.cond o x y) Q σ := fun E a w ⟨F, μ, A⟩ =>
  wp_cond_split (cond_val A hb) (fun e => ht e E a w ⟨F, μ, A⟩) (fun e => hf e E a w ⟨F, μ, A⟩)
theorem aw_condP {o : Operand} (p : Prop) [Decidable p] (hb : evA N σ o = .d (.v (.bool (decide p)))) (ht : p → AW L P N x Q σ) (hf : ¬ p → AW L P N y Q σ) : AW L P N (.cond o x y) Q σ :=
  aw_cond (decide p) hb (fun e => ht (by simpa using e)) (fun e => hf (by simpa using e))
theorem aw_cond_t {o : Operand} (hb : evA N σ o = .d (.v (.bool true))) (ht : AW L P N x Q σ) : AW L P N (.cond o x y) Q σ := aw_cond true hb (fun _ => ht) (fun e => by cases e)
theorem aw_cond_f {o : Operand} (hb : evA N σ o = .d (.v (.bool false))) (hf : AW L P N y Q σ) : AW L P N (.cond o x y) Q σ := aw_cond false hb (fun e => by cases e) (fun _ => hf)

def Weak (L : Nat) (N : Nat) (σ σ' : AS) : Prop := ∀ E a w, Abs L E N σ a w → Abs L E N σ' a w
theorem Weak.refl_ : Weak L N σ σ := fun _ _ _ A => A
theorem Weak.trans_ {σ1 σ2 σ3 : AS} (h : Weak L N σ1 σ2) (h' : Weak L N σ2 σ3) : Weak L N σ1 σ3 := fun E a w A => h' E a w (h E a w A)
theorem aw_weak {σ' : AS} (hw : Weak L N σ σ') (h : AW L P N c Q σ') : AW L P N c Q σ := fun E a w A => h E a w (hw E a w A)

/-- a loop: a family of states, a measure -/
theorem aw_loop {ι : Type} (S : ι → AS) (m : ι → Nat) (i0 : ι) (h0 : Weak L N σ (S i0)) (round : ∀ i, AW L P N c (AThen (fun σ' => ∃ j, m j < m i ∧ Weak L N σ' (S j)) Q) (S i)) : AW L P N (.loop c) Q σ := by
  intro E a w A b k cs
  have key : ∀ n i a w, m i = n → Abs L E N (S i) a w → ∃ e a' w', absQ L E N Q e a' w' ∧ Arrives P (lone (b.at a (.code c :: .inLoop c :: k)) cs w) b k cs e a' w' := by
    intro n
    induction n using Nat.strongRecOn with
    | _ n ih =>
      intro i a w hn hI
      obtain ⟨e, a₁, w₁, hq, harr⟩ := round i E a w hI b (.inLoop c :: k) cs
      cases e with
      | normal =>
        obtain ⟨σ', A', j, hlt, hw⟩ := hq
        obtain ⟨e₂, a₂, w₂, hq₂, harr₂⟩ := ih (m j) (hn ▸ hlt) j a₁ w₁ rfl (hw E a₁ w₁ A')
        exact ⟨e₂, a₂, w₂, hq₂, .of_steps (Steps.trans harr (.one step_inLoop)) harr₂⟩
      | exit id => exact ⟨.exit id, a₁, w₁, hq, .pass (x := .inLoop c) rfl (fun _ _ => .inl (by simp)) harr⟩
      | goto l => exact ⟨.goto l, a₁, w₁, hq, .pass (x := .inLoop c) rfl (fun _ _ => .inl (by simp)) harr⟩
      | ret => exact ⟨.ret, a₁, w₁, hq, .pass (x := .inLoop c) rfl (fun _ _ => .inl (by simp)) harr⟩
      | panic ch => exact hq.elim
      | outgrown => exact hq.elim
  obtain ⟨e, a', w', hq, harr⟩ := key _ i0 a w rfl (h0 E a w A)
  exact ⟨e, a', w', hq, .of_steps (.one step_loop) harr⟩

/-- a region: the operations one behind the other -/
def RT (P : Program) (N : Nat) (ops : Array Oper) (is : List Nat) (K : List (Nat × Cls) → AS → Prop) (σ : AS) : Prop := ∃ l σ', l.map (·.1) = is ∧ AChain P N ops l σ σ' ∧ K l σ'
theorem rt_nil {K : List (Nat × Cls) → AS → Prop} (h : K [] σ) : RT P N ops [] K σ := ⟨[], σ, rfl, .nil σ, h⟩
theorem rt_cons {i : Nat} {is : List Nat} {o : Oper} {cl : Cls} {σ1 : AS} {K : List (Nat × Cls) → AS → Prop} (ho : ops[i]? = some o) (hs : AStep P N ops o σ cl σ1) (h : RT P N ops is (fun l σ' => K ((i, cl) :: l) σ') σ1) : RT P N ops (i :: is) K σ := by
  obtain ⟨l, σ', e, C, hk⟩ := h
  exact ⟨(i, cl) :: l, σ', by simp [e], .cons i cl l o σ σ1 σ' ho hs C, hk⟩
theorem aw_region {id : Nat} {is : List Nat} (his : List.range ops.size = is) (h : RT P N ops is (fun _ σ' => Q .normal σ') σ) : AW L P N (.region id ops false) Q σ := fun E a w A => by
  obtain ⟨l, σ', e, C, hk⟩ := h
  refine wp_region ?_
  rw [his, ← e]
  exact chain_ops C A fun a' w' A' => ⟨σ', A', hk⟩
theorem Abs.drew_ {a : Act} {w : World} (A : Abs L E N σ a w) : Abs L E N σ a { w with drawn := w.drawn + 1 } := by
  obtain ⟨F, μ, A⟩ := A
  obtain ⟨H, V⟩ := A.H.drew
  exact ⟨F, μ, H, A.df, A.sz, fun t ht => (A.tm t ht).evo V, A.lim⟩
theorem aw_region_draw {id : Nat} {is : List Nat} (ms : List Nat) (hm : P.follows .mixedOrders = true) (hms : masks ops.toList [] = ms) (h : RT P N ops is (fun l σ' => drawOk ops ms l = true ∧ Q .normal σ') σ) : AW L P N (.region id ops true) Q σ := fun E a w A => by
  obtain ⟨l, σ', e, C, hok, hk⟩ := h
  simp only [drawOk, Bool.and_eq_true, List.all_eq_true, beq_iff_eq, List.any_eq_true, List.mem_range] at hok
  obtain ⟨⟨⟨h1, h2⟩, h3⟩, h4⟩ := hok
  refine wp_region_any hm ?_
  rw [← h2]
  refine any_of_chain (masks_ok hms) (σ' := σ') (fun a' w' A' => ⟨σ', A', hk⟩) l.length l _ a _ σ rfl (pairsB_spec h4) h3 (by simp [h2]) (fun i hi => ?_) (fun i o ho hl => ?_) C A.drew_
  · obtain ⟨x, hx, hxi⟩ := h1 i hi
    refine ⟨fun _ => ⟨x.2, by rw [← hxi]; exact hx⟩, fun _ => ?_⟩
    simp [Array.getD, h2, hi]
  · exfalso
    have hi : i < ops.size := (Array.getElem?_eq_some_iff.1 ho).1
    simp [Array.getD, h2, hi] at hl

theorem then_n {K : AS → Prop} (h : K σ) : AThen K Q .normal σ := h
theorem then_e {K : AS → Prop} {i : Nat} (h : Q (.exit i) σ) : AThen K Q (.exit i) σ := h
theorem then_r {K : AS → Prop} (h : Q .ret σ) : AThen K Q .ret σ := h
theorem block_n {id : Nat} (h : Q .normal σ) : ABlock id Q .normal σ := h
theorem block_r {id : Nat} (h : Q .ret σ) : ABlock id Q .ret σ := h
theorem block_hit {id : Nat} (h : Q .normal σ) : ABlock id Q (.exit id) σ := by simp only [ABlock, if_true]; exact h
theorem block_e {id i : Nat} (hne : Nat.beq i id = false) (h : Q (.exit i) σ) : ABlock id Q (.exit i) σ := by
  have : i ≠ id := fun e => by subst e; simp at hne
  simp only [ABlock, if_neg this]; exact h
end
end Go.Proofs.YtjhadibjjldpdaaGreat
