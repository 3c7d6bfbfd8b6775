/- An abstract machine, P: models as functions; cuts, loops, states under other names, memory frozen. No program. -/
import Derived.Test.YtjhadibjjldpdaaGreatAmO
namespace Go.Proofs.YtjhadibjjldpdaaGreat
open Go.RowKit
set_option linter.unusedVariables false
set_option maxRecDepth 100000

/-! words of the models -/
def atI {α : Type} (xs : List α) (i : Int) : Option α := if 0 ≤ i then xs[i.toNat]? else none
def chk {α : Type} (b : Prop) [Decidable b] (k : Option α) : Option α := if b then k else none
def w64 (x : Int) : Int := IntKind.i64.wrap x
theorem w64_in {x : Int} (h0 : -9223372036854775808 ≤ x) (h1 : x ≤ 9223372036854775807) : w64 x = x := ewrap h0 h1
def fuel : Nat := 1180591620717411303424
def rfuel : Nat := 2000000
def loopN {S X : Type} (step : S → Option (S ⊕ X)) : Nat → S → Option X
  | 0, _ => none
  | n + 1, s => match step s with
    | none => none
    | some (.inl s') => loopN step n s'
    | some (.inr x) => some x
def loopM {S X : Type} (step : S → Option (S ⊕ X)) (s : S) : Option X := loopN step fuel s
def orE {V Z : Type} (x : V ⊕ Z) (f : V → Option Z) : Option Z := match x with
  | .inl v => f v
  | .inr z => some z
theorem orE_l {V Z : Type} {v : V} {f : V → Option Z} : orE (.inl v) f = f v := rfl
theorem orE_r {V Z : Type} {z : Z} {f : V → Option Z} : orE (.inr z) f = some z := rfl
theorem bnd {α β : Type} {x : Option α} {f : α → Option β} {r : β} (h : x.bind f = some r) : ∃ y, x = some y ∧ f y = some r := by
  cases x with
  | none => cases h
  | some y => exact ⟨y, rfl, h⟩
theorem chk_e {α : Type} {b : Prop} [Decidable b] {k : Option α} {r : α} (h : chk b k = some r) : b ∧ k = some r := by
  unfold chk at h
  split at h
  · exact ⟨by assumption, h⟩
  · cases h
theorem chk_t {α : Type} {b : Prop} [Decidable b] {k : Option α} (h : b) : chk b k = k := if_pos h
theorem atI_e {α : Type} {xs : List α} {i : Int} {e : α} (h : atI xs i = some e) : i = (i.toNat : Int) ∧ xs[i.toNat]? = some e ∧ i.toNat < xs.length := by
  unfold atI at h
  split at h
  · exact ⟨by omega, h, (List.getElem?_eq_some_iff.1 h).1⟩
  · cases h
theorem atI_nat {α : Type} {xs : List α} {k : Nat} : atI xs (k : Int) = xs[k]? := by
  unfold atI
  rw [if_pos (by omega), Int.toNat_natCast]
theorem ite_b {α : Type} {p : Prop} [Decidable p] {x y r : α} (h : (if p then x else y) = r) : (p ∧ x = r) ∨ (¬ p ∧ y = r) := by
  split at h
  · exact .inl ⟨by assumption, h⟩
  · exact .inr ⟨by assumption, h⟩
/-- a loop's result from an invariant and a measure -/
theorem loopM_of {S X : Type} {step : S → Option (S ⊕ X)} (I : S → Prop) (m : S → Nat) (Post : X → Prop) (hs : ∀ s, I s → (∃ s', step s = some (.inl s') ∧ I s' ∧ m s' < m s) ∨ ∃ x, step s = some (.inr x) ∧ Post x) (s0 : S) (h0 : I s0) (hm : m s0 < 1180591620717411303424) :
    ∃ x, loopM step s0 = some x ∧ Post x := by
  have key : ∀ n s, I s → m s < n → ∃ x, loopN step n s = some x ∧ Post x := by
    intro n
    induction n with
    | zero => intro s _ h; omega
    | succ n ih =>
      intro s hI hlt
      rcases hs s hI with ⟨s', h1, h2, h3⟩ | ⟨x, h1, h2⟩
      · obtain ⟨x, h4, h5⟩ := ih s' h2 (by omega)
        exact ⟨x, by simp only [loopN, h1]; exact h4, h5⟩
      · exact ⟨x, by simp only [loopN, h1], h2⟩
  exact key fuel s0 h0 hm
theorem loopM_eq {S X : Type} {step : S → Option (S ⊕ X)} {x : X} (I : S → Prop) (m : S → Nat) (hs : ∀ s, I s → (∃ s', step s = some (.inl s') ∧ I s' ∧ m s' < m s) ∨ step s = some (.inr x)) {s0 : S} (h0 : I s0) (hm : m s0 < 1180591620717411303424) : loopM step s0 = some x := by
  obtain ⟨x', h1, rfl⟩ := loopM_of I m (fun x' => x' = x) (fun s hI => (hs s hI).imp id fun h => ⟨x, h, rfl⟩) s0 h0 hm
  exact h1

section
variable {P : Program} {T : Tab} {L N : Nat} {ops : Array Oper} {E : Env} {K : List (Nat × Cls) → AS → Prop} {i : Nat} {is : List Nat} {t : Nat → AV} {h h' : Heap} {d : Tmp} {dst : Option Tmp} {op : Op} {ty : TypeId} {pos : String} {aft : Array Edge} {g : Option (Nat × Bool)} {Q : AExit → AS → Prop} {σ : AS} {c x y : Code}

/-! cuts -/
theorem aw_cut (J : AS) (h1 : AW L P N x (AThen (fun σ' => Weak L N σ' J) Q) σ) (h2 : AW L P N y Q J) : AW L P N (.seq x y) Q σ :=
  aw_seq (h1.mono fun e σ' q => by cases e <;> first | exact aw_weak q h2 | exact q)
theorem aw_cutE {V Y : Type} (v : V ⊕ Y) (J : V → AS) (h1 : AW L P N x (AThen (fun σ' => ∃ u, v = .inl u ∧ Weak L N σ' (J u)) Q) σ) (h2 : ∀ u, v = .inl u → AW L P N y Q (J u)) : AW L P N (.seq x y) Q σ :=
  aw_seq (h1.mono fun e σ' q => by
    cases e <;> first | exact q | skip
    obtain ⟨u, e, w⟩ := q
    exact aw_weak w (h2 u e))
/-- at a loop's end -/
def LoopQ {S X : Type} (L N : Nat) (St : S → AS) (y : S ⊕ X) (x : X) (Q : AExit → AS → Prop) : AExit → AS → Prop
  | .normal, σ' => ∃ s', y = .inl s' ∧ Weak L N σ' (St s')
  | e, σ' => ∃ x', y = .inr x' ∧ (x' = x → Q e σ')
theorem aw_loopM {S X : Type} {step : S → Option (S ⊕ X)} (St : S → AS) {s0 : S} {x : X} (hx : loopM step s0 = some x) (h0 : Weak L N σ (St s0)) (round : ∀ s y, step s = some y → AW L P N c (LoopQ L N St y x Q) (St s)) : AW L P N (.loop c) Q σ := by
  refine aw_loop (ι := {p : Nat × S // loopN step p.1 p.2 = some x}) (fun p => St p.1.2) (fun p => p.1.1) ⟨(fuel, s0), hx⟩ h0 fun ⟨⟨n, s⟩, hn⟩ => ?_
  cases n with
  | zero => simp [loopN] at hn
  | succ n =>
    cases hst : step s with
    | none => simp [loopN, hst] at hn
    | some y =>
      refine (round s y hst).mono fun e σ' q => ?_
      simp only [loopN, hst] at hn
      cases e with
      | normal =>
        obtain ⟨s', rfl, hw⟩ := q
        exact ⟨⟨(n, s'), hn⟩, Nat.lt_succ_self n, hw⟩
      | exit id => obtain ⟨x', rfl, k⟩ := q; exact k (by simpa using hn)
      | goto l => obtain ⟨x', rfl, k⟩ := q; exact k (by simpa using hn)
      | ret => obtain ⟨x', rfl, k⟩ := q; exact k (by simpa using hn)
theorem loop_n {S X : Type} {St : S → AS} {y : S ⊕ X} {x : X} {σ' : AS} (h : ∃ s', y = .inl s' ∧ Weak L N σ' (St s')) : LoopQ L N St y x Q .normal σ' := h
theorem loop_x {S X : Type} {St : S → AS} {y : S ⊕ X} {x : X} {σ' : AS} {j : Nat} (h : ∃ x', y = .inr x' ∧ (x' = x → Q (.exit j) σ')) : LoopQ L N St y x Q (.exit j) σ' := h
theorem loop_r {S X : Type} {St : S → AS} {y : S ⊕ X} {x : X} {σ' : AS} (h : ∃ x', y = .inr x' ∧ (x' = x → Q .ret σ')) : LoopQ L N St y x Q .ret σ' := h
/-! branches -/
theorem aw_if {α : Type} {o : Operand} {p : Prop} [Decidable p] {a b r : α} (h : (if p then a else b) = r) (hb : evA N σ o = .d (.v (.bool (decide p)))) (ht : p → a = r → AW L P N x Q σ) (hf : ¬ p → b = r → AW L P N y Q σ) : AW L P N (.cond o x y) Q σ :=
  aw_condP p hb (fun hp => ht hp (by rwa [if_pos hp] at h)) (fun hp => hf hp (by rwa [if_neg hp] at h))
theorem aw_ifB {α : Type} {o : Operand} {p : Bool} {a b r : α} (h : (if p = true then a else b) = r) (hb : evA N σ o = .d (.v (.bool p))) (ht : p = true → a = r → AW L P N x Q σ) (hf : ¬ p = true → b = r → AW L P N y Q σ) : AW L P N (.cond o x y) Q σ :=
  aw_cond p hb (fun hp => ht hp (by rwa [if_pos hp] at h)) (fun hp => hf (by simp [hp]) (by rwa [if_neg (by simp [hp])] at h))
theorem rt_if {α : Type} {u : Nat} {p : Prop} [Decidable p] {a b r : α} (hh : (if p then a else b) = r) (hb : t u = .d (.v (.bool (decide p)))) (ht : p → a = r → RT P N ops is K ⟨updA t u (.d (.v (.bool true))), h⟩) (hf : ¬ p → b = r → RT P N ops is K ⟨updA t u (.d (.v (.bool false))), h⟩) : RT P N ops is K ⟨t, h⟩ :=
  rt_boolP hb (fun hp => ht hp (by rwa [if_pos hp] at hh)) (fun hp => hf hp (by rwa [if_neg hp] at hh))
theorem rt_ifB {α : Type} {u : Nat} {p : Bool} {a b r : α} (hh : (if p = true then a else b) = r) (hb : t u = .d (.v (.bool p))) (ht : p = true → a = r → RT P N ops is K ⟨updA t u (.d (.v (.bool true))), h⟩) (hf : ¬ p = true → b = r → RT P N ops is K ⟨updA t u (.d (.v (.bool false))), h⟩) : RT P N ops is K ⟨t, h⟩ :=
  rt_bool hb (fun hp => ht hp (by rwa [if_pos hp] at hh)) (fun hp => hf (by simp [hp]) (by rwa [if_neg (by simp [hp])] at hh))
theorem w0 {o : Op} : Want N ops ⟨dst, o, ty, pos, aft, none⟩ σ := .inl rfl
theorem w1 {o : Op} {j u : Nat} {b : Bool} (hj : (ops[j]?).bind (·.dst) = some u) (ht : Nat.blt u N = true) (hb : t u = .d (.v (.bool b))) : Want N ops ⟨dst, o, ty, pos, aft, some (j, b)⟩ ⟨t, h⟩ := want_some rfl hj ht hb

/-! states under other names -/
theorem wk_of {t' : Nat → AV} {ss : List Slot} (ks : List Nat) (B : Nat) (hnd : ks.Nodup := by decide) (hlt : ∀ k ∈ ks, k < B := by decide) (h3 : (List.range L).all (fun p => nameL ks B p == p) = true := by decide)
    (hB : Abv h B := by repeat (first | exact abv_nil _ | exact abv_lks rfl | refine abv_upd ?_ rfl)) (wt : WT (nameL ks B) t t') (wh : AtK (nameL ks B) h ks ss) : Weak L N ⟨t, h⟩ ⟨t', lks ss⟩ := by
  rintro E a w ⟨F, μ, A⟩
  have R := wh.ren_ (μ := μ) hB
  refine ⟨F, _, A.H.restrict (nameL_inj hnd hlt) R (fun p hp => ?_), A.df, A.sz, fun d hd => ?_, A.lim⟩
  · rcases Nat.lt_or_ge p L with h1 | h1
    · have := List.all_eq_true.1 h3 p (by simpa using h1)
      simpa using this
    · exact absurd (A.lim p h1) hp
  · have hr := A.tm d hd
    rcases wt.spec d with e | e
    · have hr : ARep w F μ h (a.tmps.getD d undef) (t d) := hr
      rw [e] at hr
      exact hr.unren R (t' d) rfl
    · show ARep w F _ _ _ (t' d)
      rw [e]; exact .dead _
/-! regions in the order of the text, with weakening in between -/
def RA (L : Nat) (P : Program) (N : Nat) (ops : Array Oper) (is : List Nat) (Q : AExit → AS → Prop) (σ : AS) : Prop := ∀ E a w, Abs L E N σ a w → wpOps P ops (absQ L E N Q) is a w
theorem aw_regionA {id : Nat} {is : List Nat} (his : List.range ops.size = is) (h : RA L P N ops is Q σ) : AW L P N (.region id ops false) Q σ := fun E a w A => wp_region (by rw [his]; exact h E a w A)
theorem ra_nil (h : Q .normal σ) : RA L P N ops [] Q σ := fun E a w A => by
  show wpOps P ops (absQ L E N Q) [] a w
  unfold wpOps
  exact ⟨σ, A, h⟩
theorem ra_weak {σ' : AS} (hw : Weak L N σ σ') (k : RA L P N ops is Q σ') : RA L P N ops is Q σ := fun E a w A => k E a w (hw E a w A)
theorem ra_cons {o : Oper} {cl : Cls} {σ1 : AS} (ho : ops[i]? = some o) (hs : AStep P N ops o σ cl σ1) (k : RA L P N ops is Q σ1) : RA L P N ops (i :: is) Q σ := fun E a w A => by
  simp only [wpOps, ho]
  have := hs.sound A (K := wpOps P ops (absQ L E N Q) is) (Q := absQ L E N Q) (fun a' w' A' => k E a' w' A')
  split
  · rename_i hw; rw [if_pos hw] at this; exact .inl this
  · rename_i hw; rw [if_neg hw] at this; exact this
theorem ra_one (h : RT P N ops [i] (fun _ σ' => RA L P N ops is Q σ') σ) : RA L P N ops (i :: is) Q σ := by
  obtain ⟨l, σ', e, C, hk⟩ := h
  cases C with
  | nil => simp at e
  | cons j c l o _ σ1 _ ho hs hr =>
    simp only [List.map_cons, List.cons.injEq] at e
    obtain ⟨rfl, e⟩ := e
    have : l = [] := List.map_eq_nil_iff.1 e
    subst this
    cases hr
    exact ra_cons ho hs hk
theorem rp {r : AV} (ho : ops[i]? = some ⟨some d, op, ty, pos, aft, g⟩) (hw : Want N ops ⟨some d, op, ty, pos, aft, g⟩ ⟨t, h⟩) (hd : Nat.blt d N = true) (hp : Pure1 P N ⟨some d, op, ty, pos, aft, g⟩ ⟨t, h⟩ r) (k : RA L P N ops is Q ⟨updA t d r, h⟩) : RA L P N ops (i :: is) Q ⟨t, h⟩ := ra_one (rt_p ho hw hd hp (rt_nil k))
theorem rl {r : AV} (ho : ops[i]? = some ⟨some d, op, ty, pos, aft, g⟩) (hw : Want N ops ⟨some d, op, ty, pos, aft, g⟩ ⟨t, h⟩) (hd : Nat.blt d N = true) (hp : Light1 P N ⟨some d, op, ty, pos, aft, g⟩ ⟨t, h⟩ r) (k : RA L P N ops is Q ⟨updA t d r, h⟩) : RA L P N ops (i :: is) Q ⟨t, h⟩ := ra_one (rt_l ho hw hd hp (rt_nil k))
theorem rs {r : AV} (ho : ops[i]? = some ⟨some d, op, ty, pos, aft, g⟩) (hw : Want N ops ⟨some d, op, ty, pos, aft, g⟩ ⟨t, h⟩) (hd : Nat.blt d N = true) (hp : Heavy1 P N ⟨some d, op, ty, pos, aft, g⟩ ⟨t, h⟩ r h' ∧ ∀ k, h k ≠ .no → h' k = h k) (k : RA L P N ops is Q ⟨updA t d r, h'⟩) : RA L P N ops (i :: is) Q ⟨t, h⟩ := ra_one (rt_s ho hw hd hp (rt_nil k))
theorem rw1 {r : AV} (ho : ops[i]? = some ⟨some d, op, ty, pos, aft, g⟩) (hw : Want N ops ⟨some d, op, ty, pos, aft, g⟩ ⟨t, h⟩) (hd : Nat.blt d N = true) (hp : Heavy1 P N ⟨some d, op, ty, pos, aft, g⟩ ⟨t, h⟩ r h') (k : RA L P N ops is Q ⟨updA t d r, h'⟩) : RA L P N ops (i :: is) Q ⟨t, h⟩ := ra_one (rt_w ho hw hd hp (rt_nil k))
theorem rw0 {r : AV} (ho : ops[i]? = some ⟨none, op, ty, pos, aft, g⟩) (hw : Want N ops ⟨none, op, ty, pos, aft, g⟩ ⟨t, h⟩) (hp : Heavy1 P N ⟨none, op, ty, pos, aft, g⟩ ⟨t, h⟩ r h') (k : RA L P N ops is Q ⟨t, h'⟩) : RA L P N ops (i :: is) Q ⟨t, h⟩ := ra_one (rt_w0 ho hw hp (rt_nil k))
theorem rn {r : AV} (ho : ops[i]? = some ⟨none, op, ty, pos, aft, g⟩) (hw : Want N ops ⟨none, op, ty, pos, aft, g⟩ ⟨t, h⟩) (hp : Heavy1 P N ⟨none, op, ty, pos, aft, g⟩ ⟨t, h⟩ r h' ∧ ∀ k, h k ≠ .no → h' k = h k) (k : RA L P N ops is Q ⟨t, h'⟩) : RA L P N ops (i :: is) Q ⟨t, h⟩ := ra_one (rt_w0 ho hw hp.1 (rt_nil k))
theorem rk {j u : Nat} {want : Bool} (ho : ops[i]? = some ⟨some d, op, ty, pos, aft, some (j, want)⟩) (hj : (ops[j]?).bind (·.dst) = some u) (hu : Nat.blt u N = true) (hb : t u = .d (.v (.bool !want)) ∨ t u = .tup []) (hd : Nat.blt d N = true) (k : RA L P N ops is Q ⟨updA t d (.tup []), h⟩) : RA L P N ops (i :: is) Q ⟨t, h⟩ := ra_one (rt_skip ho hj hu hb hd (rt_nil k))
theorem rk0 {j u : Nat} {want : Bool} (ho : ops[i]? = some ⟨none, op, ty, pos, aft, some (j, want)⟩) (hj : (ops[j]?).bind (·.dst) = some u) (hu : Nat.blt u N = true) (hb : t u = .d (.v (.bool !want)) ∨ t u = .tup []) (k : RA L P N ops is Q ⟨t, h⟩) : RA L P N ops (i :: is) Q ⟨t, h⟩ := ra_one (rt_skip0 ho hj hu hb (rt_nil k))
theorem ra_bool {u : Nat} {b : Bool} (hb : t u = .d (.v (.bool b))) (ht : b = true → RA L P N ops is Q ⟨updA t u (.d (.v (.bool true))), h⟩) (hf : b = false → RA L P N ops is Q ⟨updA t u (.d (.v (.bool false))), h⟩) : RA L P N ops is Q ⟨t, h⟩ := by
  have e : ∀ x, t u = x → updA t u x = t := fun x hx => by
    funext t'
    by_cases e : t' = u
    · subst e; rw [updA_same, hx]
    · rw [updA_ne _ _ e]
  cases b with
  | true => have := ht rfl; rwa [e _ hb] at this
  | false => have := hf rfl; rwa [e _ hb] at this
theorem ra_if {α : Type} {u : Nat} {p : Prop} [Decidable p] {a b r : α} (hh : (if p then a else b) = r) (hb : t u = .d (.v (.bool (decide p)))) (ht : p → a = r → RA L P N ops is Q ⟨updA t u (.d (.v (.bool true))), h⟩) (hf : ¬ p → b = r → RA L P N ops is Q ⟨updA t u (.d (.v (.bool false))), h⟩) : RA L P N ops is Q ⟨t, h⟩ :=
  ra_bool hb (fun hp => have hp := of_decide_eq_true hp; ht hp (by rwa [if_pos hp] at hh)) (fun hp => have hp := of_decide_eq_false hp; hf hp (by rwa [if_neg hp] at hh))
theorem ra_ifB {α : Type} {u : Nat} {p : Bool} {a b r : α} (hh : (if p = true then a else b) = r) (hb : t u = .d (.v (.bool p))) (ht : p = true → a = r → RA L P N ops is Q ⟨updA t u (.d (.v (.bool true))), h⟩) (hf : ¬ p = true → b = r → RA L P N ops is Q ⟨updA t u (.d (.v (.bool false))), h⟩) : RA L P N ops is Q ⟨t, h⟩ :=
  ra_bool hb (fun hp => ht hp (by rwa [if_pos hp] at hh)) (fun hp => hf (by simp [hp]) (by rwa [if_neg (by simp [hp])] at hh))
end
end Go.Proofs.YtjhadibjjldpdaaGreat
