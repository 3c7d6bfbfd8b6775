/- An abstract machine, E: states, kinds of operations, regions in whatever order. No program. -/
import Derived.Test.YtjhadibjjldpdaaGreatAmD
namespace Go.Proofs.YtjhadibjjldpdaaGreat
open Go.RowKit
set_option linter.unusedVariables false
set_option maxRecDepth 100000

structure AS where
  t : Nat → AV
  h : Heap
def updA (t : Nat → AV) (d : Nat) (r : AV) : Nat → AV := fun t' => bif Nat.beq t' d then r else t t'
theorem updA_same (t : Nat → AV) (d : Nat) (r : AV) : updA t d r d = r := by simp [updA]
theorem updA_ne (t : Nat → AV) {d t' : Nat} (r : AV) (hne : t' ≠ d) : updA t d r t' = t t' := by
  have : Nat.beq t' d = false := by rw [← Bool.not_eq_true, Nat.beq_eq]; exact hne
  simp [updA, this]
def AS.put (σ : AS) (dst : Option Tmp) (r : AV) : AS :=
  match dst with
  | none => σ
  | some d => ⟨updA σ.t d r, σ.h⟩
theorem AS.put_h (σ : AS) (dst : Option Tmp) (r : AV) : (σ.put dst r).h = σ.h := by cases dst <;> rfl
theorem AS.put_t (σ : AS) (dst : Option Tmp) (r : AV) {t : Nat} (hn : ∀ d, dst = some d → t ≠ d) : (σ.put dst r).t t = σ.t t := by
  cases dst with
  | none => rfl
  | some d => exact updA_ne _ _ (hn d rfl)
theorem AS.put_comm (σ : AS) {x y : Option Tmp} (r s : AV) (hn : ∀ d, x = some d → y ≠ some d) : (σ.put x r).put y s = (σ.put y s).put x r := by
  cases x with
  | none => cases y <;> rfl
  | some d =>
    cases y with
    | none => rfl
    | some e =>
      have hne : e ≠ d := fun he => hn d rfl (by rw [he])
      simp only [AS.put]
      congr 1
      funext t
      by_cases h1 : t = e
      · subst h1; rw [updA_same, updA_ne _ _ hne, updA_same]
      · rw [updA_ne _ _ h1]
        by_cases h2 : t = d
        · subst h2; rw [updA_same, updA_same]
        · rw [updA_ne _ _ h2, updA_ne _ _ h2, updA_ne _ _ h1]

structure AbsF (L : Nat) (E : Env) (N : Nat) (F : Nat → Prop) (μ : Places) (σ : AS) (a : Act) (w : World) : Prop where
  H : HInv E F μ σ.h w
  df : a.defers = []
  sz : a.tmps.size = N
  tm : ∀ t, t < N → ARep w F μ σ.h (a.tmps.getD t undef) (σ.t t)
  lim : ∀ p, L ≤ p → E.h0 p = .no
def Abs (L : Nat) (E : Env) (N : Nat) (σ : AS) (a : Act) (w : World) : Prop := ∃ F μ, AbsF L E N F μ σ a w

def oneA (c : Value) : AV := bif c.oneCell' then .d (.v c) else .dead
theorem oneA_rep {w : World} {F : Nat → Prop} {μ : Places} {h : Heap} (v : Value) : ARep w F μ h v (oneA v) := by
  unfold oneA
  cases e : v.oneCell' with
  | true => exact .d _ _ (.v _ e)
  | false => exact .dead _
def constL : List Value → List AV
  | [] => []
  | c :: cs => oneA c :: constL cs
theorem constL_map : ∀ cs, constL cs = cs.map oneA
  | [] => rfl
  | c :: cs => by simp [constL, constL_map cs]
def constA : Value → AV
  | .agg cs => .agg (constL cs.toList)
  | v => oneA v
theorem constA_rep {w : World} {F : Nat → Prop} {μ : Places} {h : Heap} (v : Value) : ARep w F μ h v (constA v) := by
  cases v with
  | agg cs =>
    refine .agg cs _ (by simp [constL_map]) fun i v c hv hc => ?_
    simp only [constL_map, List.getElem?_map, Array.getElem?_toList, hv, Option.map_some, Option.some.injEq] at hc
    subst hc
    exact oneA_rep v
  | _ => exact oneA_rep _
def evA (N : Nat) (σ : AS) : Operand → AV
  | .tmp t => bif Nat.blt t N then σ.t t else .dead
  | .const v => constA v
  | .global g => .dead
  | .func f => .fn f []
theorem evA_rep {E : Env} {L N : Nat} {F : Nat → Prop} {μ : Places} {σ : AS} {a : Act} {w : World} (A : AbsF L E N F μ σ a w) (x : Operand) : ARep w F μ σ.h (a.eval x) (evA N σ x) := by
  cases x with
  | tmp t =>
    simp only [evA]
    cases hb : Nat.blt t N with
    | false => exact .dead _
    | true => exact A.tm t (by have := hb; simp [Nat.blt] at this; omega)
  | const v => exact constA_rep v
  | global g => exact .dead _
  | func f => exact .fn f #[] [] rfl (fun i v c hv hc => by simp at hc)

/-- what an operation's first step comes to -/
def NextOk (P : Program) (K : Value → World → Prop) : Result Next → Prop
  | .ok (.value v) w => K v w
  | .ok .skip w => K undef w
  | .ok (.enter f args) w => Calls P f args w fun e w' => ∃ v, e = .returned v ∧ K v w'
  | _ => False
theorem wp_of_next {P : Program} {o : Oper} {a : Act} {w : World} {K : Value → World → Prop} {next : Act → World → Prop} {Q : Exit → Act → World → Prop} (h : NextOk P K ((execOp a.eval o).run P w))
    (hk : ∀ v w', K v w' → next (a.put o.dst v) w') : o.wp P a w next Q := by
  unfold Oper.wp
  generalize (execOp a.eval o).run P w = r at *
  cases r with
  | ok n w' =>
    cases n <;> simp only [NextOk, Oper.upon] at h ⊢
    case value v => exact hk _ _ h
    case skip => exact hk _ _ h
    case enter f args =>
      refine h.mono ?_
      rintro e w'' ⟨v, rfl, hv⟩
      exact hk _ _ hv
  | halt x w' => simp only [NextOk] at h

def AV.key : AV → Option Nat
  | .ptr k .. => some k
  | .own k .. => some k
  | _ => none
theorem ARep.born_ {w : World} {F : Nat → Prop} {μ : Places} {h : Heap} {v : Value} {a : AV} {k : Nat} (r : ARep w F μ h v a) (hk : a.key = some k) : h k ≠ .no := by
  cases r <;> simp [AV.key] at hk
  · subst hk; assumption
  · subst hk; assumption

/-- the operands stand so -/
def Stand (N : Nat) (o : Oper) (σ : AS) (ρ : Operand → Value) (w : World) (F : Nat → Prop) (μ : Places) (h : Heap) : Prop := ∀ x ∈ o.op.operands, ARep w F μ h (ρ x) (evA N σ x)
/-- the operation only computes -/
def Pure1 (P : Program) (N : Nat) (o : Oper) (σ : AS) (r : AV) : Prop :=
  ∀ (w : World) F μ h ρ, Stand N o σ ρ w F μ h → ∃ u, (execOp ρ o).run P w = .ok (.value u) w ∧ ARep w F μ h u r
/-- the operation reads own memory at the keys that its operands name -/
def Light1 (P : Program) (N : Nat) (o : Oper) (σ : AS) (r : AV) : Prop :=
  (∀ x ∈ o.op.operands, ∀ k, (evA N σ x).key = some k → σ.h k ≠ .no) ∧
  ∀ E F μ h (w : World) ρ, HInv E F μ h w → Stand N o σ ρ w F μ h → (∀ x ∈ o.op.operands, ∀ k, (evA N σ x).key = some k → h k = σ.h k) → ∃ u, (execOp ρ o).run P w = .ok (.value u) w ∧ ARep w F μ h u r
/-- the operation makes or changes memory -/
def Heavy1 (P : Program) (N : Nat) (o : Oper) (σ : AS) (r : AV) (h' : Heap) : Prop :=
  ∀ E F μ (w : World) ρ, HInv E F μ σ.h w → Stand N o σ ρ w F μ σ.h → NextOk P (fun u w' => ∃ F' μ', HInv E F' μ' h' w' ∧ Evo w F μ σ.h w' F' μ' h' ∧ ARep w' F' μ' h' u r) ((execOp ρ o).run P w)

inductive Cls where
  | pu | li | st | wr
  | al (k : Nat)
  | sb (B : Nat)
  | lk (k : Nat)
  | wk (k : Nat)
/-- the keys below B as in the one heap, the others as in the other -/
def over (B : Nat) (h g : Heap) : Heap := fun p => bif Nat.blt p B then h p else g p
/-- the operands name the key k alone -/
def KeysAt (N : Nat) (o : Oper) (σ : AS) (k : Nat) : Prop := ∀ x ∈ o.op.operands, ∀ k', (evA N σ x).key = some k' → k' = k
def Want (N : Nat) (ops : Array Oper) (o : Oper) (σ : AS) : Prop :=
  o.guard = none ∨ ∃ j want t, o.guard = some (j, want) ∧ (ops[j]?).bind (·.dst) = some t ∧ t < N ∧ σ.t t = .d (.v (.bool want))
inductive AStep (P : Program) (N : Nat) (ops : Array Oper) (o : Oper) (σ : AS) : Cls → AS → Prop
  | skip (hd : ∀ d, o.dst = some d → d < N) (j : Nat) (want : Bool) (t : Nat) (hg : o.guard = some (j, want)) (hj : (ops[j]?).bind (·.dst) = some t) (ht : t < N) (hb : σ.t t = .d (.v (.bool !want)) ∨ σ.t t = .tup []) :
      AStep P N ops o σ .pu (σ.put o.dst (.tup []))
  | pure (hd : ∀ d, o.dst = some d → d < N) (hw : Want N ops o σ) (r : AV) (hp : Pure1 P N o σ r) : AStep P N ops o σ .pu (σ.put o.dst r)
  | light (hd : ∀ d, o.dst = some d → d < N) (hw : Want N ops o σ) (r : AV) (hp : Light1 P N o σ r) : AStep P N ops o σ .li (σ.put o.dst r)
  | still (hd : ∀ d, o.dst = some d → d < N) (hw : Want N ops o σ) (r : AV) (h' : Heap) (hx : ∀ k, σ.h k ≠ .no → h' k = σ.h k) (hp : Heavy1 P N o σ r h') : AStep P N ops o σ .st ⟨(σ.put o.dst r).t, h'⟩
  | write (hd : ∀ d, o.dst = some d → d < N) (hw : Want N ops o σ) (r : AV) (h' : Heap) (hp : Heavy1 P N o σ r h') : AStep P N ops o σ .wr ⟨(σ.put o.dst r).t, h'⟩
  | al (k : Nat) (hd : ∀ d, o.dst = some d → d < N) (hw : Want N ops o σ) (r : AV) (s : Slot) (hk : σ.h k = .no) (hp : ∀ hx : Heap, hx k = .no → Heavy1 P N o ⟨σ.t, hx⟩ r (upd hx k s)) : AStep P N ops o σ (.al k) ⟨(σ.put o.dst r).t, upd σ.h k s⟩
  | sb (B : Nat) (hd : ∀ d, o.dst = some d → d < N) (hw : Want N ops o σ) (r : AV) (g' : Heap) (hB : Abv σ.h B) (hp : ∀ hx : Heap, Abv hx B → (∀ p, σ.h p ≠ .no → hx p = σ.h p) → Heavy1 P N o ⟨σ.t, hx⟩ r (over B hx g')) : AStep P N ops o σ (.sb B) ⟨(σ.put o.dst r).t, over B σ.h g'⟩
  | lk (k : Nat) (hd : ∀ d, o.dst = some d → d < N) (hw : Want N ops o σ) (r : AV) (hp : Light1 P N o σ r) (hk : KeysAt N o σ k) : AStep P N ops o σ (.lk k) (σ.put o.dst r)
  | wk (k : Nat) (hd : ∀ d, o.dst = some d → d < N) (hw : Want N ops o σ) (r : AV) (h' : Heap) (hp : Heavy1 P N o σ r h') (hx : ∀ p, p ≠ k → h' p = σ.h p) : AStep P N ops o σ (.wk k) ⟨(σ.put o.dst r).t, h'⟩

section
variable {P : Program} {L N : Nat} {ops : Array Oper} {E : Env}

theorem yielded_of {F : Nat → Prop} {μ : Places} {σ : AS} {a : Act} {w : World} (A : AbsF L E N F μ σ a w) {j t : Nat} {b : Bool} (hj : (ops[j]?).bind (·.dst) = some t) (ht : t < N) (hb : σ.t t = .d (.v (.bool b))) : yielded ops a.tmps j = some b := by
  have hr := A.tm t ht
  rw [hb] at hr
  have hlt : t < a.tmps.size := by rw [A.sz]; exact ht
  have hv : a.tmps[t]? = some (.bool b) := by
    have : a.tmps.getD t undef = .bool b := by
      generalize a.tmps.getD t undef = v at hr
      cases hr with | d _ _ hd => cases hd; rfl
    rw [Array.getElem?_eq_getElem hlt]
    simpa [Array.getD, hlt] using this
  unfold yielded
  rw [hj]
  simp [hv]
theorem not_yielded {F : Nat → Prop} {μ : Places} {σ : AS} {a : Act} {w : World} (A : AbsF L E N F μ σ a w) {j t : Nat} (hj : (ops[j]?).bind (·.dst) = some t) (ht : t < N) (hb : σ.t t = .tup []) : yielded ops a.tmps j = none := by
  have hr := A.tm t ht
  rw [hb] at hr
  have hlt : t < a.tmps.size := by rw [A.sz]; exact ht
  have hv : ∃ vs, a.tmps[t]? = some (.tuple vs) := by
    have : ∃ vs, a.tmps.getD t undef = .tuple vs := by
      generalize a.tmps.getD t undef = v at hr
      cases hr with | tup vs _ _ _ => exact ⟨vs, rfl⟩
    obtain ⟨vs, this⟩ := this
    refine ⟨vs, ?_⟩
    rw [Array.getElem?_eq_getElem hlt]
    simpa [Array.getD, hlt] using this
  obtain ⟨vs, hv⟩ := hv
  unfold yielded
  rw [hj]
  simp [hv]
theorem wanted_of {F : Nat → Prop} {μ : Places} {σ : AS} {a : Act} {w : World} {o : Oper} (A : AbsF L E N F μ σ a w) (hw : Want N ops o σ) : Region.wanted o (yielded ops a.tmps) = true := by
  unfold Region.wanted
  rcases hw with hg | ⟨j, want, t, hg, hj, ht, hb⟩
  · rw [hg]
  · rw [hg]; simp [yielded_of A hj ht hb]
theorem AbsF.put_ {F F' : Nat → Prop} {μ μ' : Places} {σ : AS} {a : Act} {w w' : World} {h' : Heap} (A : AbsF L E N F μ σ a w) (H' : HInv E F' μ' h' w') (V : Evo w F μ σ.h w' F' μ' h') {dst : Option Tmp} (hd : ∀ d, dst = some d → d < N) {u : Value} {r : AV}
    (hr : ARep w' F' μ' h' u r) : AbsF L E N F' μ' ⟨(σ.put dst r).t, h'⟩ (a.put dst u) w' := by
  cases dst with
  | none => exact ⟨H', A.df, A.sz, fun t ht => (A.tm t ht).evo V, A.lim⟩
  | some d =>
    refine ⟨H', A.df, by simp [Act.put, A.sz], fun t ht => ?_, A.lim⟩
    by_cases e : t = d
    · subst e
      have : (a.put (some t) u).tmps.getD t undef = u := by simp [Act.put, A.sz, ht]
      rw [this]
      simp only [AS.put, updA_same]
      exact hr
    · have : (a.put (some d) u).tmps.getD t undef = a.tmps.getD t undef := by simp [Act.put, Array.getElem?_setIfInBounds_ne (Ne.symm e)]
      rw [this]
      simp only [AS.put, updA_ne _ _ e]
      exact (A.tm t ht).evo V
theorem Evo.refl_ {w : World} {F : Nat → Prop} {μ : Places} {h : Heap} : Evo w F μ h w F μ h :=
  ⟨fun _ _ => rfl, fun _ hb => hb, fun _ hb => hb, fun k f o' _ ho' => ⟨o', ho', .inr ⟨rfl, rfl, rfl, fun b cur _ hc => ⟨cur, hc, rfl⟩⟩⟩⟩

theorem AStep.sound {o : Oper} {σ σ' : AS} {c : Cls} (S : AStep P N ops o σ c σ') {a : Act} {w : World} (A : Abs L E N σ a w) {K : Act → World → Prop} {Q : Exit → Act → World → Prop} (hK : ∀ a' w', Abs L E N σ' a' w' → K a' w') :
    if Region.wanted o (yielded ops a.tmps) = true then o.wp P a w K Q else K (a.put o.dst undef) w := by
  obtain ⟨F, μ, A⟩ := A
  have stand : Stand N o σ a.eval w F μ σ.h := fun x _ => evA_rep A x
  cases S with
  | skip hd j want t hg hj ht hb =>
    have : Region.wanted o (yielded ops a.tmps) = false := by
      unfold Region.wanted
      rw [hg]
      rcases hb with hb | hb
      · simp [yielded_of A hj ht hb]
      · simp [not_yielded A hj ht hb]
    rw [this]
    refine hK _ _ ⟨F, μ, ?_⟩
    have := A.put_ A.H Evo.refl_ hd (u := undef) (r := .tup []) (.tup #[] [] rfl (fun i v c h => by simp at h))
    rwa [show (⟨(σ.put o.dst (.tup [])).t, σ.h⟩ : AS) = σ.put o.dst (.tup []) by cases o.dst <;> rfl] at this
  | pure hd hw r hp =>
    rw [if_pos (wanted_of A hw)]
    obtain ⟨u, hu, hr⟩ := hp w F μ σ.h a.eval stand
    refine wp_of_next (K := fun v w' => v = u ∧ w' = w) (by rw [hu]; exact ⟨rfl, rfl⟩) ?_
    rintro v w' ⟨rfl, rfl⟩
    refine hK _ _ ⟨F, μ, ?_⟩
    have := A.put_ A.H Evo.refl_ hd hr
    rwa [show (⟨(σ.put o.dst r).t, σ.h⟩ : AS) = σ.put o.dst r by cases o.dst <;> rfl] at this
  | light hd hw r hp =>
    rw [if_pos (wanted_of A hw)]
    obtain ⟨u, hu, hr⟩ := hp.2 E F μ σ.h w a.eval A.H stand (fun _ _ _ _ => rfl)
    refine wp_of_next (K := fun v w' => v = u ∧ w' = w) (by rw [hu]; exact ⟨rfl, rfl⟩) ?_
    rintro v w' ⟨rfl, rfl⟩
    refine hK _ _ ⟨F, μ, ?_⟩
    have := A.put_ A.H Evo.refl_ hd hr
    rwa [show (⟨(σ.put o.dst r).t, σ.h⟩ : AS) = σ.put o.dst r by cases o.dst <;> rfl] at this
  | still hd hw r h' hx hp =>
    rw [if_pos (wanted_of A hw)]
    refine wp_of_next (hp E F μ w a.eval A.H stand) ?_
    rintro v w' ⟨F', μ', H', V, hr⟩
    exact hK _ _ ⟨F', μ', A.put_ H' V hd hr⟩
  | write hd hw r h' hp =>
    rw [if_pos (wanted_of A hw)]
    refine wp_of_next (hp E F μ w a.eval A.H stand) ?_
    rintro v w' ⟨F', μ', H', V, hr⟩
    exact hK _ _ ⟨F', μ', A.put_ H' V hd hr⟩
  | al k hd hw r s hk hp =>
    rw [if_pos (wanted_of A hw)]
    refine wp_of_next (hp σ.h hk E F μ w a.eval A.H stand) ?_
    rintro v w' ⟨F', μ', H', V, hr⟩
    exact hK _ _ ⟨F', μ', A.put_ H' V hd hr⟩
  | sb B hd hw r g' hB hp =>
    rw [if_pos (wanted_of A hw)]
    refine wp_of_next (hp σ.h hB (fun _ _ => rfl) E F μ w a.eval A.H stand) ?_
    rintro v w' ⟨F', μ', H', V, hr⟩
    exact hK _ _ ⟨F', μ', A.put_ H' V hd hr⟩
  | lk k hd hw r hp hk =>
    rw [if_pos (wanted_of A hw)]
    obtain ⟨u, hu, hr⟩ := hp.2 E F μ σ.h w a.eval A.H stand (fun _ _ _ _ => rfl)
    refine wp_of_next (K := fun v w' => v = u ∧ w' = w) (by rw [hu]; exact ⟨rfl, rfl⟩) ?_
    rintro v w' ⟨rfl, rfl⟩
    refine hK _ _ ⟨F, μ, ?_⟩
    have := A.put_ A.H Evo.refl_ hd hr
    rwa [show (⟨(σ.put o.dst r).t, σ.h⟩ : AS) = σ.put o.dst r by cases o.dst <;> rfl] at this
  | wk k hd hw r h' hp hx =>
    rw [if_pos (wanted_of A hw)]
    refine wp_of_next (hp E F μ w a.eval A.H stand) ?_
    rintro v w' ⟨F', μ', H', V, hr⟩
    exact hK _ _ ⟨F', μ', A.put_ H' V hd hr⟩

/-- a chain of steps -/
inductive AChain (P : Program) (N : Nat) (ops : Array Oper) : List (Nat × Cls) → AS → AS → Prop
  | nil (σ : AS) : AChain P N ops [] σ σ
  | cons (i : Nat) (c : Cls) (l : List (Nat × Cls)) (o : Oper) (σ σ1 σ2 : AS) (ho : ops[i]? = some o) (hs : AStep P N ops o σ c σ1) (hr : AChain P N ops l σ1 σ2) : AChain P N ops ((i, c) :: l) σ σ2

theorem chain_ops {l : List (Nat × Cls)} {σ σ' : AS} (C : AChain P N ops l σ σ') {Q : Exit → Act → World → Prop} {a : Act} {w : World} (A : Abs L E N σ a w) (hQ : ∀ a' w', Abs L E N σ' a' w' → Q .normal a' w') : wpOps P ops Q (l.map (·.1)) a w := by
  induction C generalizing a w with
  | nil σ => exact hQ _ _ A
  | cons i c l o σ σ1 σ2 ho hs hr ih =>
    simp only [List.map_cons, wpOps, ho]
    have := hs.sound A (K := wpOps P ops Q (l.map (·.1))) (Q := Q) (fun a' w' A' => ih A' hQ)
    split
    · rename_i hw; rw [if_pos hw] at this; exact .inl this
    · rename_i hw; rw [if_neg hw] at this; exact this

/-! any order -/
def Cls.ok0 : Cls → Cls → Bool
  | .pu, _ => true
  | _, .pu => true
  | .li, .li => true
  | .li, .st => true
  | .li, .al _ => true
  | .li, .sb _ => true
  | .lk _, .li => true
  | .li, .lk _ => true
  | .lk _, .lk _ => true
  | .lk _, .st => true
  | .lk _, .al _ => true
  | .lk _, .sb _ => true
  | _, _ => false
def Cls.okA : Cls → Cls → Bool
  | .sb B, .al k => Nat.blt k B
  | .al k', .al k => !Nat.beq k' k
  | .lk k', .wk k => !Nat.beq k' k
  | _, _ => false
def Cls.ok (x y : Cls) : Bool := x.ok0 y || x.okA y
theorem evA_put {σ : AS} {dst : Option Tmp} {r : AV} {o : Oper} (hn : ∀ d, dst = some d → d ∉ o.looksAt ops) {x : Operand} (hx : x ∈ o.op.operands) : evA N (σ.put dst r) x = evA N σ x := by
  cases x with
  | tmp t =>
    simp only [evA]
    rw [AS.put_t]
    intro d hd e
    subst e
    exact hn t hd (List.mem_append_left _ (List.mem_filterMap.2 ⟨.tmp t, by simpa using hx, rfl⟩))
  | _ => rfl
theorem stand_put {σ : AS} {dst : Option Tmp} {r : AV} {o : Oper} (hn : ∀ d, dst = some d → d ∉ o.looksAt ops) {h' : Heap} {ρ : Operand → Value} {w : World} {F : Nat → Prop} {μ : Places} {h : Heap} :
    Stand N o ⟨(σ.put dst r).t, h'⟩ ρ w F μ h ↔ Stand N o σ ρ w F μ h := by
  have e : ∀ x ∈ o.op.operands, evA N ⟨(σ.put dst r).t, h'⟩ x = evA N σ x := fun x hx =>
    (show evA N ⟨(σ.put dst r).t, h'⟩ x = evA N (σ.put dst r) x by cases x <;> rfl).trans (evA_put hn hx)
  exact ⟨fun s x hx => by rw [← e x hx]; exact s x hx, fun s x hx => by rw [e x hx]; exact s x hx⟩
theorem stand_put2 {σ : AS} {dst : Option Tmp} {r : AV} {o : Oper} (hn : ∀ d, dst = some d → d ∉ o.looksAt ops) {h1 h2 : Heap} {ρ : Operand → Value} {w : World} {F : Nat → Prop} {μ : Places} {h : Heap} :
    Stand N o ⟨(σ.put dst r).t, h1⟩ ρ w F μ h ↔ Stand N o ⟨σ.t, h2⟩ ρ w F μ h := by
  have e : ∀ x ∈ o.op.operands, evA N ⟨(σ.put dst r).t, h1⟩ x = evA N ⟨σ.t, h2⟩ x := fun x hx =>
    (show evA N ⟨(σ.put dst r).t, h1⟩ x = evA N (σ.put dst r) x by cases x <;> rfl).trans ((evA_put hn hx).trans (show evA N σ x = evA N ⟨σ.t, h2⟩ x by cases x <;> rfl))
  exact ⟨fun s x hx => by rw [← e x hx]; exact s x hx, fun s x hx => by rw [e x hx]; exact s x hx⟩
theorem evA_same {σ : AS} {dst : Option Tmp} {r : AV} {o : Oper} (hn : ∀ d, dst = some d → d ∉ o.looksAt ops) (h' : Heap) {x : Operand} (hx : x ∈ o.op.operands) : evA N ⟨(σ.put dst r).t, h'⟩ x = evA N σ x :=
  (show evA N ⟨(σ.put dst r).t, h'⟩ x = evA N (σ.put dst r) x by cases x <;> rfl).trans (evA_put hn hx)
theorem want_put {σ : AS} {dst : Option Tmp} {r : AV} {o : Oper} (hn : ∀ d, dst = some d → d ∉ o.looksAt ops) (h' : Heap) : Want N ops o ⟨(σ.put dst r).t, h'⟩ ↔ Want N ops o σ := by
  have key : ∀ j want t, o.guard = some (j, want) → (ops[j]?).bind (·.dst) = some t → (σ.put dst r).t t = σ.t t := fun j want t hg hj => by
    rw [AS.put_t]
    intro d hd e
    subst e
    exact hn t hd (List.mem_append_right _ (by rw [hg]; simp [hj]))
  constructor
  · rintro (hg | ⟨j, want, t, hg, hj, ht, hb⟩)
    · exact .inl hg
    · exact .inr ⟨j, want, t, hg, hj, ht, by rw [← key j want t hg hj]; exact hb⟩
  · rintro (hg | ⟨j, want, t, hg, hj, ht, hb⟩)
    · exact .inl hg
    · exact .inr ⟨j, want, t, hg, hj, ht, by show (σ.put dst r).t t = _; rw [key j want t hg hj]; exact hb⟩

/-- a step that does not look at what another leaves -/
theorem AStep.move_ {o : Oper} {σ σ' : AS} {c : Cls} (S : AStep P N ops o σ c σ') (σ0 : AS) (dst : Option Tmp) (s : AV) (hn : ∀ d, dst = some d → d ∉ o.looksAt ops) (hne : ∀ d, o.dst = some d → dst ≠ some d) (h0 : Heap)
    (e : σ = ⟨(σ0.put dst s).t, h0⟩) (hc : c = .pu ∨ h0 = σ0.h) : ∃ r h', σ' = ⟨(σ.put o.dst r).t, h'⟩ ∧ (h0 = σ0.h → AStep P N ops o σ0 c ⟨(σ0.put o.dst r).t, h'⟩) ∧ (c = .pu → h' = h0 ∧ AStep P N ops o σ0 c (σ0.put o.dst r)) := by
  subst e
  have back : ∀ (τ : AS) (d : Option Tmp) (r : AV), (⟨(τ.put d r).t, τ.h⟩ : AS) = τ.put d r := fun τ d r => by cases d <;> rfl
  cases S with
  | skip hd j want t hg hj ht hb =>
    have e0 : (σ0.put dst s).t t = σ0.t t := by
      rw [AS.put_t]
      intro d hd e
      subst e
      exact hn t hd (List.mem_append_right _ (by rw [hg]; simp [hj]))
    have hb' : σ0.t t = .d (.v (.bool !want)) ∨ σ0.t t = .tup [] := by rw [← e0]; exact hb
    have S0 := AStep.skip (P := P) (N := N) (ops := ops) (o := o) (σ := σ0) hd j want t hg hj ht hb'
    exact ⟨.tup [], h0, (back _ _ _).symm, fun e => by subst e; rw [back]; exact S0, fun _ => ⟨rfl, S0⟩⟩
  | pure hd hw r hp =>
    have S0 := AStep.pure (P := P) (N := N) (ops := ops) (o := o) (σ := σ0) hd ((want_put hn h0).1 hw) r (fun w F μ h ρ st => hp w F μ h ρ ((stand_put hn).2 st))
    exact ⟨r, h0, (back _ _ _).symm, fun e => by subst e; rw [back]; exact S0, fun _ => ⟨rfl, S0⟩⟩
  | light hd hw r hp =>
    refine ⟨r, h0, (back _ _ _).symm, fun e => ?_, fun e => by cases e⟩
    subst e
    rw [back]
    refine .light hd ((want_put hn _).1 hw) r ⟨fun x hx k hk => ?_, fun E F μ h w ρ H st hh => ?_⟩
    · rw [← evA_same (r := s) hn σ0.h hx] at hk; exact hp.1 x hx k hk
    · exact hp.2 E F μ h w ρ H ((stand_put hn).2 st) fun x hx k hk => by rw [evA_same hn σ0.h hx] at hk; exact hh x hx k hk
  | still hd hw r h' hx hp =>
    refine ⟨r, h', rfl, fun e => ?_, fun e => by cases e⟩
    subst e
    exact .still hd ((want_put hn _).1 hw) r h' hx fun E F μ w ρ H st => hp E F μ w ρ H ((stand_put hn).2 st)
  | write hd hw r h' hp =>
    refine ⟨r, h', rfl, fun e => ?_, fun e => by cases e⟩
    subst e
    exact .write hd ((want_put hn _).1 hw) r h' fun E F μ w ρ H st => hp E F μ w ρ H ((stand_put hn).2 st)
  | al k hd hw r s' hk hp =>
    refine ⟨r, _, rfl, fun e => ?_, fun e => by cases e⟩
    subst e
    exact .al k hd ((want_put hn _).1 hw) r s' hk fun hx hkx E F μ w ρ H st => hp hx hkx E F μ w ρ H ((stand_put2 hn).2 st)
  | sb B hd hw r g' hB hp =>
    refine ⟨r, _, rfl, fun e => ?_, fun e => by cases e⟩
    subst e
    exact .sb B hd ((want_put hn _).1 hw) r g' hB fun hx hkx hxx E F μ w ρ H st => hp hx hkx hxx E F μ w ρ H ((stand_put2 hn).2 st)
  | lk k hd hw r hp hk =>
    refine ⟨r, h0, (back _ _ _).symm, fun e => ?_, fun e => by cases e⟩
    subst e
    rw [back]
    refine .lk k hd ((want_put hn _).1 hw) r ⟨fun x hx k hk => ?_, fun E F μ h w ρ H st hh => ?_⟩ fun x hx k' hk' => ?_
    · rw [← evA_same (r := s) hn σ0.h hx] at hk; exact hp.1 x hx k hk
    · exact hp.2 E F μ h w ρ H ((stand_put hn).2 st) fun x hx k hk => by rw [evA_same hn σ0.h hx] at hk; exact hh x hx k hk
    · rw [← evA_same (r := s) hn σ0.h hx] at hk'; exact hk x hx k' hk'
  | wk k hd hw r h' hp hx =>
    refine ⟨r, h', rfl, fun e => ?_, fun e => by cases e⟩
    subst e
    exact .wk k hd ((want_put hn _).1 hw) r h' (fun E F μ w ρ H st => hp E F μ w ρ H ((stand_put hn).2 st)) hx
theorem over_lt {B : Nat} {h g : Heap} {p : Nat} (hp : p < B) : over B h g p = h p := by
  unfold over
  rw [show Nat.blt p B = true from Nat.ble_eq_true_of_le hp]; rfl
theorem over_ge {B : Nat} {h g : Heap} {p : Nat} (hp : B ≤ p) : over B h g p = g p := by
  unfold over
  cases e : Nat.blt p B with
  | false => rfl
  | true => have := Nat.le_of_ble_eq_true e; omega
theorem over_old {B : Nat} {h g : Heap} (hB : Abv h B) {p : Nat} (hp : h p ≠ .no) : over B h g p = h p := by
  rcases Nat.lt_or_ge p B with hlt | hge
  · exact over_lt hlt
  · exact absurd (hB p hge) hp
theorem AStep.form {o : Oper} {σ σ' : AS} {c : Cls} (S : AStep P N ops o σ c σ') : ∃ r h', σ' = ⟨(σ.put o.dst r).t, h'⟩ ∧ (c = .pu ∨ c = .li ∨ (∃ k, c = .lk k) → h' = σ.h) ∧ (c ≠ .wr → (∀ k, c ≠ .wk k) → ∀ k, σ.h k ≠ .no → h' k = σ.h k) := by
  have back : ∀ (d : Option Tmp) (r : AV), (⟨(σ.put d r).t, σ.h⟩ : AS) = σ.put d r := fun d r => by cases d <;> rfl
  cases S with
  | skip hd j want t hg hj ht hb => exact ⟨.tup [], σ.h, (back _ _).symm, fun _ => rfl, fun _ _ _ _ => rfl⟩
  | pure hd hw r hp => exact ⟨r, σ.h, (back _ _).symm, fun _ => rfl, fun _ _ _ _ => rfl⟩
  | light hd hw r hp => exact ⟨r, σ.h, (back _ _).symm, fun _ => rfl, fun _ _ _ _ => rfl⟩
  | still hd hw r h' hx hp => exact ⟨r, h', rfl, fun e => (by rcases e with e | e | ⟨_, e⟩ <;> cases e), fun _ _ => hx⟩
  | write hd hw r h' hp => exact ⟨r, h', rfl, fun e => (by rcases e with e | e | ⟨_, e⟩ <;> cases e), fun e _ => absurd rfl e⟩
  | al k hd hw r s hk hp => exact ⟨r, _, rfl, fun e => (by rcases e with e | e | ⟨_, e⟩ <;> cases e), fun _ _ k' hk' => upd_ne _ _ (fun e => by rw [e, hk] at hk'; exact hk' rfl)⟩
  | sb B hd hw r g' hB hp => exact ⟨r, _, rfl, fun e => (by rcases e with e | e | ⟨_, e⟩ <;> cases e), fun _ _ k' hk' => over_old hB hk'⟩
  | lk k hd hw r hp hk => exact ⟨r, σ.h, (back _ _).symm, fun _ => rfl, fun _ _ _ _ => rfl⟩
  | wk k hd hw r h' hp hx => exact ⟨r, h', rfl, fun e => (by rcases e with e | e | ⟨_, e⟩ <;> cases e), fun _ e => absurd rfl (e k)⟩
/-- a step is not touched by another's result, nor by new memory (if it is quiet) -/
theorem AStep.after_ {o : Oper} {σ : AS} {r : AV} {h' : Heap} {c : Cls} (S : AStep P N ops o σ c ⟨(σ.put o.dst r).t, h'⟩) (dst : Option Tmp) (s : AV) (hn : ∀ d, dst = some d → d ∉ o.looksAt ops) (h2 : Heap)
    (hc : h2 = σ.h ∨ c = .pu ∨ ((c = .li ∨ ∃ k, c = .lk k) ∧ ∀ k, σ.h k ≠ .no → h2 k = σ.h k) ∨ ∃ k, c = .lk k ∧ h2 k = σ.h k) : ∃ h3, AStep P N ops o ⟨(σ.put dst s).t, h2⟩ c ⟨((⟨(σ.put dst s).t, h2⟩ : AS).put o.dst r).t, h3⟩ ∧ (h2 = σ.h → h3 = h') ∧ (c = .pu ∨ c = .li ∨ (∃ k, c = .lk k) → h3 = h2) := by
  have back : ∀ (τ : AS) (d : Option Tmp) (r : AV), (⟨(τ.put d r).t, τ.h⟩ : AS) = τ.put d r := fun τ d r => by cases d <;> rfl
  generalize e0 : (⟨(σ.put o.dst r).t, h'⟩ : AS) = σ' at S
  have rt : ∀ {r' : AV}, (σ.put o.dst r).t = (σ.put o.dst r').t → ∀ τ : AS, (τ.put o.dst r).t = (τ.put o.dst r').t := by
    intro r' e τ
    cases hd : o.dst with
    | none => rfl
    | some d =>
      rw [hd] at e
      have := congrFun e d
      simp only [AS.put, updA_same] at this
      rw [this]
  cases S with
  | skip hd j want t hg hj ht hb =>
    have e9 : (σ.put dst s).t t = σ.t t := by
      rw [AS.put_t]
      intro d hd e
      subst e
      exact hn t hd (List.mem_append_right _ (by rw [hg]; simp [hj]))
    have hb' : (⟨(σ.put dst s).t, h2⟩ : AS).t t = .d (.v (.bool !want)) ∨ (⟨(σ.put dst s).t, h2⟩ : AS).t t = .tup [] := by
      show (σ.put dst s).t t = _ ∨ (σ.put dst s).t t = _
      rw [e9]; exact hb
    have e1 : (σ.put o.dst r).t = (σ.put o.dst (.tup [])).t := by have := congrArg AS.t e0; exact this
    have e2 : h' = σ.h := by have := congrArg AS.h e0; exact Eq.trans this (AS.put_h _ _ _)
    refine ⟨h2, ?_, fun e => e.trans e2.symm, fun _ => rfl⟩
    rw [rt e1, back]
    exact .skip hd j want t hg hj ht hb'
  | pure hd hw r' hp =>
    have e1 : (σ.put o.dst r).t = (σ.put o.dst r').t := by have := congrArg AS.t e0; exact this
    have e2 : h' = σ.h := by have := congrArg AS.h e0; exact Eq.trans this (AS.put_h _ _ _)
    refine ⟨h2, ?_, fun e => e.trans e2.symm, fun _ => rfl⟩
    rw [rt e1, back]
    exact .pure hd ((want_put hn h2).2 hw) r' fun w F μ h ρ st => hp w F μ h ρ ((stand_put hn).1 st)
  | light hd hw r' hp =>
    have e1 : (σ.put o.dst r).t = (σ.put o.dst r').t := by have := congrArg AS.t e0; exact this
    have e2 : h' = σ.h := by have := congrArg AS.h e0; exact Eq.trans this (AS.put_h _ _ _)
    refine ⟨h2, ?_, fun e => e.trans e2.symm, fun _ => rfl⟩
    rw [rt e1, back]
    have ext : ∀ k, σ.h k ≠ .no → h2 k = σ.h k := by
      rcases hc with e | e | ⟨_, e⟩ | ⟨_, e, _⟩
      · subst e; exact fun _ _ => rfl
      · cases e
      · exact e
      · cases e
    refine .light hd ((want_put hn h2).2 hw) r' ⟨fun x hx k hk => ?_, fun E F μ h w ρ H st hh => ?_⟩
    · rw [evA_same hn h2 hx] at hk
      show h2 k ≠ .no
      rw [ext k (hp.1 x hx k hk)]
      exact hp.1 x hx k hk
    · refine hp.2 E F μ h w ρ H ((stand_put hn).1 st) fun x hx k hk => ?_
      rw [← ext k (hp.1 x hx k hk)]
      exact hh x hx k (by rw [evA_same hn h2 hx]; exact hk)
  | still hd hw r' h3 hx hp =>
    have e1 : (σ.put o.dst r).t = (σ.put o.dst r').t := by have := congrArg AS.t e0; exact this
    have e2 : h' = h3 := by have := congrArg AS.h e0; exact this
    rcases hc with e | e | ⟨e | ⟨_, e⟩, _⟩ | ⟨_, e, _⟩
    · subst e
      refine ⟨h3, ?_, fun _ => e2.symm, fun e => by rcases e with e | e | ⟨_, e⟩ <;> cases e⟩
      rw [rt e1]
      exact .still hd ((want_put hn _).2 hw) r' h3 hx fun E F μ w ρ H st => hp E F μ w ρ H ((stand_put hn).1 st)
    · cases e
    · cases e
    · cases e
    · cases e
  | write hd hw r' h3 hp =>
    have e1 : (σ.put o.dst r).t = (σ.put o.dst r').t := by have := congrArg AS.t e0; exact this
    have e2 : h' = h3 := by have := congrArg AS.h e0; exact this
    rcases hc with e | e | ⟨e | ⟨_, e⟩, _⟩ | ⟨_, e, _⟩
    · subst e
      refine ⟨h3, ?_, fun _ => e2.symm, fun e => by rcases e with e | e | ⟨_, e⟩ <;> cases e⟩
      rw [rt e1]
      exact .write hd ((want_put hn _).2 hw) r' h3 fun E F μ w ρ H st => hp E F μ w ρ H ((stand_put hn).1 st)
    · cases e
    · cases e
    · cases e
    · cases e
  | al k hd hw r' s' hk hp =>
    have e1 : (σ.put o.dst r).t = (σ.put o.dst r').t := by have := congrArg AS.t e0; exact this
    have e2 : h' = upd σ.h k s' := by have := congrArg AS.h e0; exact this
    rcases hc with e | e | ⟨e | ⟨_, e⟩, _⟩ | ⟨_, e, _⟩
    · subst e
      refine ⟨_, ?_, fun _ => e2.symm, fun e => by rcases e with e | e | ⟨_, e⟩ <;> cases e⟩
      rw [rt e1]
      exact .al k hd ((want_put hn _).2 hw) r' s' hk fun hx hkx E F μ w ρ H st => hp hx hkx E F μ w ρ H ((stand_put2 hn).1 st)
    · cases e
    · cases e
    · cases e
    · cases e
  | sb B hd hw r' g' hB hp =>
    have e1 : (σ.put o.dst r).t = (σ.put o.dst r').t := by have := congrArg AS.t e0; exact this
    have e2 : h' = over B σ.h g' := by have := congrArg AS.h e0; exact this
    rcases hc with e | e | ⟨e | ⟨_, e⟩, _⟩ | ⟨_, e, _⟩
    · subst e
      refine ⟨_, ?_, fun _ => e2.symm, fun e => by rcases e with e | e | ⟨_, e⟩ <;> cases e⟩
      rw [rt e1]
      exact .sb B hd ((want_put hn _).2 hw) r' g' hB fun hx hkx hxx E F μ w ρ H st => hp hx hkx hxx E F μ w ρ H ((stand_put2 hn).1 st)
    · cases e
    · cases e
    · cases e
    · cases e
  | lk k hd hw r' hp hk =>
    have e1 : (σ.put o.dst r).t = (σ.put o.dst r').t := by have := congrArg AS.t e0; exact this
    have e2 : h' = σ.h := by have := congrArg AS.h e0; exact Eq.trans this (AS.put_h _ _ _)
    refine ⟨h2, ?_, fun e => e.trans e2.symm, fun _ => rfl⟩
    rw [rt e1, back]
    have ext : ∀ x ∈ o.op.operands, ∀ k', (evA N σ x).key = some k' → h2 k' = σ.h k' := fun x hx k' hk' => by
      rcases hc with e | e | ⟨_, e⟩ | ⟨k2, e, e3⟩
      · subst e; rfl
      · cases e
      · exact e k' (hp.1 x hx k' hk')
      · injection e with e; subst e
        rw [hk x hx k' hk']; exact e3
    refine .lk k hd ((want_put hn h2).2 hw) r' ⟨fun x hx k hk => ?_, fun E F μ h w ρ H st hh => ?_⟩ fun x hx k' hk' => ?_
    · rw [evA_same hn h2 hx] at hk
      show h2 k ≠ .no
      rw [ext x hx k hk]
      exact hp.1 x hx k hk
    · refine hp.2 E F μ h w ρ H ((stand_put hn).1 st) fun x hx k hk => ?_
      rw [← ext x hx k hk]
      exact hh x hx k (by rw [evA_same hn h2 hx]; exact hk)
    · rw [evA_same hn h2 hx] at hk'; exact hk x hx k' hk'
  | wk k hd hw r' h3 hp hx =>
    have e1 : (σ.put o.dst r).t = (σ.put o.dst r').t := by have := congrArg AS.t e0; exact this
    have e2 : h' = h3 := by have := congrArg AS.h e0; exact this
    rcases hc with e | e | ⟨e | ⟨_, e⟩, _⟩ | ⟨_, e, _⟩
    · subst e
      refine ⟨h3, ?_, fun _ => e2.symm, fun e => by rcases e with e | e | ⟨_, e⟩ <;> cases e⟩
      rw [rt e1]
      exact .wk k hd ((want_put hn _).2 hw) r' h3 (fun E F μ w ρ H st => hp E F μ w ρ H ((stand_put hn).1 st)) hx
    · cases e
    · cases e
    · cases e
    · cases e

theorem AStep.comm0 {oi oj : Oper} {σ σ1 σ2 : AS} {ci cj : Cls} (Si : AStep P N ops oi σ ci σ1) (Sj : AStep P N ops oj σ1 cj σ2) (hap : oi.apart ops oj = true) (hok : ci.ok0 cj = true) : ∃ σ3, AStep P N ops oj σ cj σ3 ∧ AStep P N ops oi σ3 ci σ2 := by
  obtain ⟨a1, a2, a3⟩ := Oper.apart_spec hap
  obtain ⟨ri, hi, rfl, qi, xi⟩ := Si.form
  have hcj : cj = .pu ∨ hi = σ.h := by
    cases ci <;> cases cj <;> simp [Cls.ok0] at hok <;> first
      | exact .inl rfl
      | exact .inr (qi (.inl rfl))
      | exact .inr (qi (.inr (.inl rfl)))
      | exact .inr (qi (.inr (.inr ⟨_, rfl⟩)))
  obtain ⟨rj, hj, rfl, m1, m2⟩ := Sj.move_ σ oi.dst ri a1 (fun d hd e => a2 d e hd) hi rfl hcj
  have swap : ∀ h, (⟨((⟨(σ.put oi.dst ri).t, hi⟩ : AS).put oj.dst rj).t, h⟩ : AS) = ⟨((⟨(σ.put oj.dst rj).t, h⟩ : AS).put oi.dst ri).t, h⟩ := fun h => by
    have e : ((σ.put oi.dst ri).put oj.dst rj).t = ((σ.put oj.dst rj).put oi.dst ri).t := by rw [AS.put_comm σ ri rj a2]
    have c1 : ∀ (τ : AS) (h : Heap) (d : Option Tmp) (r : AV), ((⟨τ.t, h⟩ : AS).put d r).t = (τ.put d r).t := fun τ h d r => by cases d <;> rfl
    rw [c1 _ _ oj.dst rj, c1 _ h oi.dst ri, e]
  by_cases hpu : cj = .pu
  · obtain ⟨rfl, S0⟩ := m2 hpu
    refine ⟨_, S0, ?_⟩
    obtain ⟨h3, S3, hh, hq⟩ := Si.after_ oj.dst rj a3 σ.h (.inl rfl)
    have e3 : h3 = hj := hh rfl
    subst e3
    rw [show (⟨(σ.put oj.dst rj).t, σ.h⟩ : AS) = σ.put oj.dst rj by cases oj.dst <;> rfl] at S3
    rw [swap]
    have c1 : ((⟨(σ.put oj.dst rj).t, h3⟩ : AS).put oi.dst ri).t = ((σ.put oj.dst rj).put oi.dst ri).t := by cases oi.dst <;> rfl
    rw [c1]
    exact S3
  · have hh0 := hcj.resolve_left hpu
    have S0 := m1 hh0
    refine ⟨_, S0, ?_⟩
    have hci : ci = .pu ∨ ci = .li ∨ ∃ k, ci = .lk k := by
      cases ci <;> cases cj <;> simp [Cls.ok0] at hok hpu ⊢
    have cond : hj = σ.h ∨ ci = .pu ∨ ((ci = .li ∨ ∃ k, ci = .lk k) ∧ ∀ k, σ.h k ≠ .no → hj k = σ.h k) ∨ ∃ k, ci = .lk k ∧ hj k = σ.h k := by
      rcases hci with e | e
      · exact .inr (.inl e)
      · refine .inr (.inr (.inl ⟨e, ?_⟩))
        obtain ⟨_, h5, e5, q5, x5⟩ := S0.form
        have e6 : hj = h5 := congrArg AS.h e5
        subst e6
        exact x5 (fun e => by subst e; rcases e with rfl | ⟨_, rfl⟩ <;> simp [Cls.ok0] at hok) fun k e => by subst e; rcases e with rfl | ⟨_, rfl⟩ <;> simp [Cls.ok0] at hok
    obtain ⟨h3, S3, _, hq⟩ := Si.after_ oj.dst rj a3 hj cond
    have e3 := hq hci
    subst e3
    rw [swap]
    exact S3
theorem AStep.commA {oi oj : Oper} {σ σ1 σ2 : AS} {ci cj : Cls} (Si : AStep P N ops oi σ ci σ1) (Sj : AStep P N ops oj σ1 cj σ2) (hap : oi.apart ops oj = true) (hok : ci.okA cj = true) : ∃ σ3, AStep P N ops oj σ cj σ3 ∧ AStep P N ops oi σ3 ci σ2 := by
  obtain ⟨a1, a2, a3⟩ := Oper.apart_spec hap
  have swap : ∀ (ri rj : AV) (h1 h2 h : Heap), (⟨((⟨(σ.put oi.dst ri).t, h1⟩ : AS).put oj.dst rj).t, h⟩ : AS) = ⟨((⟨(σ.put oj.dst rj).t, h2⟩ : AS).put oi.dst ri).t, h⟩ := fun ri rj h1 h2 h => by
    have e : ((σ.put oi.dst ri).put oj.dst rj).t = ((σ.put oj.dst rj).put oi.dst ri).t := by rw [AS.put_comm σ ri rj a2]
    have c1 : ∀ (τ : AS) (h : Heap) (d : Option Tmp) (r : AV), ((⟨τ.t, h⟩ : AS).put d r).t = (τ.put d r).t := fun τ h d r => by cases d <;> rfl
    rw [c1 _ _ oj.dst rj, c1 _ _ oi.dst ri, e]
  cases Sj with
  | al k hd hw r s hk hp =>
    cases Si with
    | sb B hd1 hw1 r1 g' hB hp1 =>
      have hkB : k < B := Nat.le_of_ble_eq_true hok
      have hk0 : σ.h k = .no := (over_lt (h := σ.h) (g := g') hkB).symm.trans hk
      refine ⟨_, .al k hd ((want_put a1 _).1 hw) r s hk0 fun hx hkx E F μ w ρ H st => hp hx hkx E F μ w ρ H ((stand_put2 a1).2 st), ?_⟩
      have e : upd (over B σ.h g') k s = over B (upd σ.h k s) g' := by
        funext p
        by_cases e : p = k
        · subst e; rw [upd_same, over_lt hkB, upd_same]
        · rw [upd_ne _ _ e]
          rcases Nat.lt_or_ge p B with hlt | hge
          · rw [over_lt hlt, over_lt hlt, upd_ne _ _ e]
          · rw [over_ge hge, over_ge hge]
      show AStep P N ops oi _ (.sb B) ⟨((⟨(σ.put oi.dst r1).t, over B σ.h g'⟩ : AS).put oj.dst r).t, upd (over B σ.h g') k s⟩
      rw [e, swap r1 r _ (upd σ.h k s)]
      refine .sb B hd1 ((want_put a3 _).2 hw1) r1 g' (fun p hp => ?_) fun hx hkx hxx E F μ w ρ H st => hp1 hx hkx (fun p hp => ?_) E F μ w ρ H ((stand_put2 a3).1 st)
      · show upd σ.h k s p = .no
        rw [upd_ne _ _ (by omega)]; exact hB p hp
      · have hpk : p ≠ k := fun e => by rw [e, hk0] at hp; exact hp rfl
        have h5 : (upd σ.h k s) p = σ.h p := upd_ne _ _ hpk
        rw [← h5]
        exact hxx p (by show upd σ.h k s p ≠ .no; rw [h5]; exact hp)
    | al k1 hd1 hw1 r1 s1 hk1 hp1 =>
      have hne : k1 ≠ k := fun e => by subst e; simp [Cls.okA] at hok
      have hk0 : σ.h k = .no := by
        have := hk
        rwa [show (⟨(σ.put oi.dst r1).t, upd σ.h k1 s1⟩ : AS).h k = σ.h k from upd_ne _ _ (Ne.symm hne)] at this
      refine ⟨_, .al k hd ((want_put a1 _).1 hw) r s hk0 fun hx hkx E F μ w ρ H st => hp hx hkx E F μ w ρ H ((stand_put2 a1).2 st), ?_⟩
      have e : upd (upd σ.h k1 s1) k s = upd (upd σ.h k s) k1 s1 := by
        funext p
        by_cases e : p = k
        · subst e; rw [upd_same, upd_ne _ _ (Ne.symm hne), upd_same]
        · rw [upd_ne _ _ e]
          by_cases e1 : p = k1
          · subst e1; rw [upd_same, upd_same]
          · rw [upd_ne _ _ e1, upd_ne _ _ e1, upd_ne _ _ e]
      show AStep P N ops oi _ (.al k1) ⟨((⟨(σ.put oi.dst r1).t, upd σ.h k1 s1⟩ : AS).put oj.dst r).t, upd (upd σ.h k1 s1) k s⟩
      rw [e, swap r1 r _ (upd σ.h k s)]
      refine .al k1 hd1 ((want_put a3 _).2 hw1) r1 s1 (by show upd σ.h k s k1 = .no; rw [upd_ne _ _ hne]; exact hk1) fun hx hkx E F μ w ρ H st => hp1 hx hkx E F μ w ρ H ((stand_put2 a3).1 st)
    | _ => simp [Cls.okA] at hok
  | wk k hd hw r h' hp hx =>
    have Si0 := Si
    cases Si with
    | lk k1 hd1 hw1 r1 hp1 hk1 =>
      have hne : k1 ≠ k := fun e => by subst e; simp [Cls.okA] at hok
      have hh : ∀ {d : Option Tmp} {r : AV}, (σ.put d r).h = σ.h := fun {d r} => by cases d <;> rfl
      have e1 : σ.put oi.dst r1 = ⟨(σ.put oi.dst r1).t, σ.h⟩ := by cases oi.dst <;> rfl
      have hp' := hp
      unfold Heavy1 at hp'
      simp only [hh] at hp'
      have S0 : AStep P N ops oj σ (.wk k) ⟨(σ.put oj.dst r).t, h'⟩ := .wk k hd ((want_put (r := r1) a1 σ.h).1 (by rw [← e1]; exact hw)) r h' (fun E F μ w ρ H st => hp' E F μ w ρ H (by rw [e1]; exact (stand_put2 (r := r1) a1).2 st)) (fun p hp => (hx p hp).trans (by rw [hh]))
      refine ⟨_, S0, ?_⟩
      rw [e1] at Si0
      obtain ⟨h3, S3, _, hq⟩ := Si0.after_ oj.dst r a3 h' (.inr (.inr (.inr ⟨k1, rfl, (hx k1 hne).trans (by rw [hh])⟩)))
      have e3 := hq (.inr (.inr ⟨k1, rfl⟩))
      subst e3
      rw [e1, swap r1 r _ h3]
      exact S3
    | _ => simp [Cls.okA] at hok
  | _ => cases ci <;> simp [Cls.okA] at hok
theorem AStep.comm {oi oj : Oper} {σ σ1 σ2 : AS} {ci cj : Cls} (Si : AStep P N ops oi σ ci σ1) (Sj : AStep P N ops oj σ1 cj σ2) (hap : oi.apart ops oj = true) (hok : ci.ok cj = true) : ∃ σ3, AStep P N ops oj σ cj σ3 ∧ AStep P N ops oi σ3 ci σ2 := by
  unfold Cls.ok at hok
  simp only [Bool.or_eq_true] at hok
  exact hok.elim (Si.comm0 Sj hap) (Si.commA Sj hap)
end
end Go.Proofs.YtjhadibjjldpdaaGreat
