/- An abstract machine, G: operations that only compute. No program. -/
import Derived.Test.YtjhadibjjldpdaaGreatAmF
import Derived.Laws.StructEq
import Derived.WalkKit
namespace Go.Proofs.YtjhadibjjldpdaaGreat
open Go.RowKit
set_option linter.unusedVariables false
set_option maxRecDepth 100000

structure TI where
  desc : TypeDesc
  size : Nat
  bytes : Nat
  zero : Value
def TyIs (P : Program) (t : TypeId) (ti : TI) : Prop := P.underlying t = some ti.desc ∧ ∃ i, P.info? t = some i ∧ i.size = ti.size ∧ i.bytes = ti.bytes ∧ i.zero = some ti.zero
def tyChk (P : Program) (t : TypeId) : Option (TypeDesc × Nat × Nat × Option Value) :=
  match P.underlying t, P.info? t with
  | some d, some i => some (d, i.size, i.bytes, i.zero)
  | _, _ => none
theorem tyIs_of {P : Program} {t : TypeId} {d : TypeDesc} {n b : Nat} {z : Value} (h : tyChk P t = some (d, n, b, some z)) : TyIs P t ⟨d, n, b, z⟩ := by
  unfold tyChk at h
  split at h
  · rename_i d' i h1 h2
    simp only [Option.some.injEq, Prod.mk.injEq] at h
    obtain ⟨rfl, rfl, rfl, hz⟩ := h
    exact ⟨h1, i, h2, rfl, rfl, hz⟩
  · cases h
abbrev Tab := Nat → Option TI
def TOk (P : Program) (T : Tab) : Prop := ∀ t ti, T t = some ti → TyIs P t ti
theorem tok_nil (P : Program) : TOk P (fun _ => none) := fun t ti h => by cases h
def updT (T : Tab) (t : Nat) (ti : TI) : Tab := fun t' => bif Nat.beq t' t then some ti else T t'
theorem tok_upd {P : Program} {T : Tab} {t : Nat} {ti : TI} (h : TOk P T) (hi : TyIs P t ti) : TOk P (updT T t ti) := fun t' ti' h' => by
  unfold updT at h'
  cases hb : Nat.beq t' t with
  | true =>
    rw [Nat.beq_eq] at hb
    subst hb
    simp at h'
    subst h'
    exact hi
  | false => rw [hb] at h'; exact h t' ti' h'

section
variable {P : Program} {T : Tab} {L N : Nat} {ops : Array Oper} {E : Env} {σ : AS} {K : List (Nat × Cls) → AS → Prop} {i : Nat} {is : List Nat}
theorem blt_lt {a b : Nat} (h : Nat.blt a b = true) : a < b := Nat.le_of_ble_eq_true h
theorem dN {d N : Nat} (h : Nat.blt d N = true) : ∀ d', (some d : Option Tmp) = some d' → d' < N := fun d' e => by
  injection e with e
  subst e
  exact blt_lt h
theorem want_none {o : Oper} (h : o.guard = none) : Want N ops o σ := .inl h
theorem want_some {o : Oper} {j t : Nat} {b : Bool} (h : o.guard = some (j, b)) (hj : (ops[j]?).bind (·.dst) = some t) (ht : Nat.blt t N = true) (hb : σ.t t = .d (.v (.bool b))) : Want N ops o σ :=
  .inr ⟨j, b, t, h, hj, blt_lt ht, hb⟩
variable {t : Nat → AV} {h : Heap} {d : Tmp} {op : Op} {ty : TypeId} {pos : String} {aft : Array Edge} {g : Option (Nat × Bool)}
/-- an operation whose guard says no -/
theorem rt_skip {j u : Nat} {want : Bool} (ho : ops[i]? = some ⟨some d, op, ty, pos, aft, some (j, want)⟩) (hj : (ops[j]?).bind (·.dst) = some u) (hu : Nat.blt u N = true) (hb : t u = .d (.v (.bool !want)) ∨ t u = .tup [])
    (hd : Nat.blt d N = true) (k : RT P N ops is (fun l σ' => K ((i, .pu) :: l) σ') ⟨updA t d (.tup []), h⟩) : RT P N ops (i :: is) K ⟨t, h⟩ :=
  rt_cons ho (.skip (dN hd) j want u rfl hj (blt_lt hu) hb) k
theorem rt_skip0 {j u : Nat} {want : Bool} (ho : ops[i]? = some ⟨none, op, ty, pos, aft, some (j, want)⟩) (hj : (ops[j]?).bind (·.dst) = some u) (hu : Nat.blt u N = true) (hb : t u = .d (.v (.bool !want)) ∨ t u = .tup [])
    (k : RT P N ops is (fun l σ' => K ((i, .pu) :: l) σ') ⟨t, h⟩) : RT P N ops (i :: is) K ⟨t, h⟩ :=
  rt_cons ho (.skip (fun d e => by cases e) j want u rfl hj (blt_lt hu) hb) k
/-- parting on a slot -/
theorem rt_bool {u : Nat} {b : Bool} (hb : t u = .d (.v (.bool b))) (ht : b = true → RT P N ops is K ⟨updA t u (.d (.v (.bool true))), h⟩) (hf : b = false → RT P N ops is K ⟨updA t u (.d (.v (.bool false))), h⟩) : RT P N ops is K ⟨t, h⟩ := by
  have e : t = updA t u (.d (.v (.bool b))) := by
    funext t'
    by_cases e : t' = u
    · subst e; rw [updA_same]; exact hb
    · rw [updA_ne _ _ e]
  cases b with
  | true => rw [e]; exact ht rfl
  | false => rw [e]; exact hf rfl
theorem rt_boolP {u : Nat} {p : Prop} [Decidable p] (hb : t u = .d (.v (.bool (decide p)))) (ht : p → RT P N ops is K ⟨updA t u (.d (.v (.bool true))), h⟩) (hf : ¬ p → RT P N ops is K ⟨updA t u (.d (.v (.bool false))), h⟩) : RT P N ops is K ⟨t, h⟩ :=
  rt_bool hb (fun e => ht (by simpa using e)) (fun e => hf (by simpa using e))
/-- an operation that only computes -/
theorem rt_p {r : AV} (ho : ops[i]? = some ⟨some d, op, ty, pos, aft, g⟩) (hw : Want N ops ⟨some d, op, ty, pos, aft, g⟩ ⟨t, h⟩) (hd : Nat.blt d N = true) (hp : Pure1 P N ⟨some d, op, ty, pos, aft, g⟩ ⟨t, h⟩ r)
    (k : RT P N ops is (fun l σ' => K ((i, .pu) :: l) σ') ⟨updA t d r, h⟩) : RT P N ops (i :: is) K ⟨t, h⟩ := rt_cons ho (.pure (dN hd) hw r hp) k

theorem rep_v {w : World} {F : Nat → Prop} {μ : Places} {hp : Heap} {v a : Value} (r : ARep w F μ hp v (.d (.v a))) : v = a := by
  cases r with | d _ _ hd => cases hd; rfl
def allV : List AV → Option (List Value)
  | [] => some []
  | .d (.v a) :: cs => match allV cs with
    | some l => some (a :: l)
    | none => none
  | _ :: _ => none
def toV : AV → Option Value
  | .d (.v a) => some a
  | .agg cs => match allV cs with
    | some l => some (.agg l.toArray)
    | none => none
  | _ => none
theorem allV_rep {w : World} {F : Nat → Prop} {μ : Places} {hp : Heap} : ∀ {cs : List AV} {l : List Value} (vs : List Value), allV cs = some l → vs.length = cs.length → (∀ (i : Nat) v c, vs[i]? = some v → cs[i]? = some c → ARep w F μ hp v c) → vs = l
  | [], l, vs, h, hl, _ => by
    simp [allV] at h
    subst h
    exact List.eq_nil_of_length_eq_zero hl
  | c :: cs, l, vs, h, hl, hr => by
    match vs, hl with
    | v :: vs, hl =>
      have h0 := hr 0 v c rfl rfl
      unfold allV at h
      split at h
      · rename_i e; cases e
      · rename_i a cs' e
        injection e with e1 e2
        subst e1 e2
        split at h
        · rename_i l' hl'
          injection h with h
          subst h
          rw [rep_v h0, allV_rep vs hl' (by simpa using hl) fun i v c hv hc => hr (i + 1) v c hv hc]
        · cases h
      · cases h
theorem toV_rep {w : World} {F : Nat → Prop} {μ : Places} {hp : Heap} {v a : Value} {x : AV} (ha : toV x = some a) (r : ARep w F μ hp v x) : v = a := by
  unfold toV at ha
  split at ha
  · injection ha with ha; subst ha; exact rep_v r
  · rename_i cs
    split at ha
    · rename_i l hl
      injection ha with ha
      subst ha
      cases r with | agg vs _ hs hr =>
      have := allV_rep vs.toList hl (by simpa using hs) fun i v c hv hc => hr i v c (by simpa using hv) hc
      rw [← this]
    · cases ha
  · cases ha

theorem pu_move {x : Operand} {r : AV} (hx : evA N ⟨t, h⟩ x = r) : Pure1 P N ⟨some d, .move x, ty, pos, aft, g⟩ ⟨t, h⟩ r := fun w F μ hh ρ st => by
  have := st x (by simp [Op.operands])
  rw [hx] at this
  exact ⟨ρ x, by simp [execOp], this⟩
theorem pu_assign {x : Operand} {r : AV} (hx : evA N ⟨t, h⟩ x = r) : Pure1 P N ⟨some d, .assign x, ty, pos, aft, g⟩ ⟨t, h⟩ r := fun w F μ hh ρ st => by
  have := st x (by simp [Op.operands])
  rw [hx] at this
  exact ⟨ρ x, by simp [execOp], this⟩
theorem pu_pick_t {c a b : Operand} {r : AV} (hc : evA N ⟨t, h⟩ c = .d (.v (.bool true))) (hx : evA N ⟨t, h⟩ a = r) : Pure1 P N ⟨some d, .pick c a b, ty, pos, aft, g⟩ ⟨t, h⟩ r := fun w F μ hh ρ st => by
  have h1 := st c (by simp [Op.operands])
  have h2 := st a (by simp [Op.operands])
  rw [hc] at h1; rw [hx] at h2
  exact ⟨ρ a, by simp [execOp, rep_v h1, asBool], h2⟩
theorem pu_pick_f {c a b : Operand} {r : AV} (hc : evA N ⟨t, h⟩ c = .d (.v (.bool false))) (hx : evA N ⟨t, h⟩ b = r) : Pure1 P N ⟨some d, .pick c a b, ty, pos, aft, g⟩ ⟨t, h⟩ r := fun w F μ hh ρ st => by
  have h1 := st c (by simp [Op.operands])
  have h2 := st b (by simp [Op.operands])
  rw [hc] at h1; rw [hx] at h2
  exact ⟨ρ b, by simp [execOp, rep_v h1, asBool], h2⟩
theorem pu_bin {o : BinOp} {xt yt : TypeId} {x y : Operand} {a b u : Value} (hx : toV (evA N ⟨t, h⟩ x) = some a) (hy : toV (evA N ⟨t, h⟩ y) = some b)
    (hr : ∀ w : World, (do eqGuard o xt x y a b; binOp o xt a b : Sem Value).run P w = .ok u w) (h1 : u.oneCell' = true := by rfl) : Pure1 P N ⟨some d, .binOp o xt x y yt, ty, pos, aft, g⟩ ⟨t, h⟩ (.d (.v u)) := fun w F μ hh ρ st => by
  have g1 := toV_rep hx (st x (by simp [Op.operands]))
  have g2 := toV_rep hy (st y (by simp [Op.operands]))
  refine ⟨u, ?_, .d _ _ (.v _ h1)⟩
  simp only [execOp, g1, g2]
  rw [Sem.run_bind, hr]; rfl
theorem pu_un {o : UnOp} {xt : TypeId} {x : Operand} {a u : Value} (hx : toV (evA N ⟨t, h⟩ x) = some a) (hr : ∀ w : World, (Op.unary o a).run P w = .ok u w) (h1 : u.oneCell' = true := by rfl) : Pure1 P N ⟨some d, .unOp o xt x, ty, pos, aft, g⟩ ⟨t, h⟩ (.d (.v u)) := fun w F μ hh ρ st => by
  have g1 := toV_rep hx (st x (by simp [Op.operands]))
  refine ⟨u, ?_, .d _ _ (.v _ h1)⟩
  simp only [execOp, g1]
  rw [Sem.run_bind, hr]; rfl
theorem pu_conv {st_ dt : TypeId} {x : Operand} {a u : Value} (hx : toV (evA N ⟨t, h⟩ x) = some a) (hr : ∀ w : World, (convert st_ dt a).run P w = .ok u w) (h1 : u.oneCell' = true := by rfl) : Pure1 P N ⟨some d, .convert st_ dt x, ty, pos, aft, g⟩ ⟨t, h⟩ (.d (.v u)) := fun w F μ hh ρ st => by
  have g1 := toV_rep hx (st x (by simp [Op.operands]))
  refine ⟨u, ?_, .d _ _ (.v _ h1)⟩
  simp only [execOp, g1]
  rw [Sem.run_bind, hr]; rfl
section ints
variable {xt yt : TypeId} {x y : Operand} {a b : Int} {kx : IntKind}
theorem ewrap {n : Int} (h0 : -9223372036854775808 ≤ n) (h1 : n ≤ 9223372036854775807) : IntKind.i64.wrap n = n := IntWalk.i64_in n ⟨h0, h1⟩
theorem pu_add (hx : evA N ⟨t, h⟩ x = .d (.v (.int .i64 a))) (hy : evA N ⟨t, h⟩ y = .d (.v (.int .i64 b))) (h0 : -9223372036854775808 ≤ a + b) (h1 : a + b ≤ 9223372036854775807) : Pure1 P N ⟨some d, .binOp .add xt x y yt, ty, pos, aft, g⟩ ⟨t, h⟩ (.d (.v (.int .i64 (a + b)))) :=
  pu_bin (by rw [hx]; rfl) (by rw [hy]; rfl) fun w => by simp [eqGuard, binOp, Op.intArith, ewrap h0 h1]
theorem pu_sub (hx : evA N ⟨t, h⟩ x = .d (.v (.int .i64 a))) (hy : evA N ⟨t, h⟩ y = .d (.v (.int .i64 b))) (h0 : -9223372036854775808 ≤ a - b) (h1 : a - b ≤ 9223372036854775807) : Pure1 P N ⟨some d, .binOp .sub xt x y yt, ty, pos, aft, g⟩ ⟨t, h⟩ (.d (.v (.int .i64 (a - b)))) :=
  pu_bin (by rw [hx]; rfl) (by rw [hy]; rfl) fun w => by simp [eqGuard, binOp, Op.intArith, ewrap h0 h1]
theorem pu_mul (hx : evA N ⟨t, h⟩ x = .d (.v (.int .i64 a))) (hy : evA N ⟨t, h⟩ y = .d (.v (.int .i64 b))) (h0 : -9223372036854775808 ≤ a * b) (h1 : a * b ≤ 9223372036854775807) : Pure1 P N ⟨some d, .binOp .mul xt x y yt, ty, pos, aft, g⟩ ⟨t, h⟩ (.d (.v (.int .i64 (a * b)))) :=
  pu_bin (by rw [hx]; rfl) (by rw [hy]; rfl) fun w => by simp [eqGuard, binOp, Op.intArith, ewrap h0 h1]
theorem pu_addw (hx : evA N ⟨t, h⟩ x = .d (.v (.int kx a))) (hy : evA N ⟨t, h⟩ y = .d (.v (.int kx b))) : Pure1 P N ⟨some d, .binOp .add xt x y yt, ty, pos, aft, g⟩ ⟨t, h⟩ (.d (.v (.int kx (kx.wrap (a + b))))) :=
  pu_bin (by rw [hx]; rfl) (by rw [hy]; rfl) fun w => by simp [eqGuard, binOp, Op.intArith]
theorem pu_subw (hx : evA N ⟨t, h⟩ x = .d (.v (.int kx a))) (hy : evA N ⟨t, h⟩ y = .d (.v (.int kx b))) : Pure1 P N ⟨some d, .binOp .sub xt x y yt, ty, pos, aft, g⟩ ⟨t, h⟩ (.d (.v (.int kx (kx.wrap (a - b))))) :=
  pu_bin (by rw [hx]; rfl) (by rw [hy]; rfl) fun w => by simp [eqGuard, binOp, Op.intArith]
theorem pu_mulw (hx : evA N ⟨t, h⟩ x = .d (.v (.int kx a))) (hy : evA N ⟨t, h⟩ y = .d (.v (.int kx b))) : Pure1 P N ⟨some d, .binOp .mul xt x y yt, ty, pos, aft, g⟩ ⟨t, h⟩ (.d (.v (.int kx (kx.wrap (a * b))))) :=
  pu_bin (by rw [hx]; rfl) (by rw [hy]; rfl) fun w => by simp [eqGuard, binOp, Op.intArith]
/-- a quotient of numbers that are not negative -/
theorem pu_quo (hx : evA N ⟨t, h⟩ x = .d (.v (.int .i64 a))) (hy : evA N ⟨t, h⟩ y = .d (.v (.int .i64 b))) (h0 : 0 ≤ a) (h1 : a ≤ 9223372036854775807) (hb : 0 < b) : Pure1 P N ⟨some d, .binOp .quo xt x y yt, ty, pos, aft, g⟩ ⟨t, h⟩ (.d (.v (.int .i64 (a / b)))) :=
  pu_bin (by rw [hx]; rfl) (by rw [hy]; rfl) fun w => by
    have hne : b ≠ 0 := by omega
    have h2 : a.tdiv b = a / b := Int.tdiv_eq_ediv_of_nonneg h0
    have h3 : 0 ≤ a / b := Int.ediv_nonneg h0 (by omega)
    have h4 : a / b ≤ a := Int.ediv_le_self b h0
    simp [eqGuard, binOp, Op.intDiv, hne, h2, ewrap (n := a / b) (by omega) (by omega)]
theorem pu_rem (hx : evA N ⟨t, h⟩ x = .d (.v (.int .i64 a))) (hy : evA N ⟨t, h⟩ y = .d (.v (.int .i64 b))) (h0 : 0 ≤ a) (hb : 0 < b) : Pure1 P N ⟨some d, .binOp .rem xt x y yt, ty, pos, aft, g⟩ ⟨t, h⟩ (.d (.v (.int .i64 (a % b)))) :=
  pu_bin (by rw [hx]; rfl) (by rw [hy]; rfl) fun w => by
    have hne : b ≠ 0 := by omega
    have h2 : a.tmod b = a % b := Int.tmod_eq_emod_of_nonneg h0
    simp [eqGuard, binOp, Op.intDiv, hne, h2]
theorem pu_quow (hx : evA N ⟨t, h⟩ x = .d (.v (.int kx a))) (hy : evA N ⟨t, h⟩ y = .d (.v (.int kx b))) (hb : b ≠ 0) : Pure1 P N ⟨some d, .binOp .quo xt x y yt, ty, pos, aft, g⟩ ⟨t, h⟩ (.d (.v (.int kx (kx.wrap (a.tdiv b))))) :=
  pu_bin (by rw [hx]; rfl) (by rw [hy]; rfl) fun w => by simp [eqGuard, binOp, Op.intDiv, hb]
theorem pu_remw (hx : evA N ⟨t, h⟩ x = .d (.v (.int kx a))) (hy : evA N ⟨t, h⟩ y = .d (.v (.int kx b))) (hb : b ≠ 0) : Pure1 P N ⟨some d, .binOp .rem xt x y yt, ty, pos, aft, g⟩ ⟨t, h⟩ (.d (.v (.int kx (a.tmod b)))) :=
  pu_bin (by rw [hx]; rfl) (by rw [hy]; rfl) fun w => by simp [eqGuard, binOp, Op.intDiv, hb]
theorem pu_lss (hx : evA N ⟨t, h⟩ x = .d (.v (.int kx a))) (hy : evA N ⟨t, h⟩ y = .d (.v (.int kx b))) : Pure1 P N ⟨some d, .binOp .lss xt x y yt, ty, pos, aft, g⟩ ⟨t, h⟩ (.d (.v (.bool (decide (a < b))))) :=
  pu_bin (by rw [hx]; rfl) (by rw [hy]; rfl) fun w => by simp [eqGuard, binOp, Op.intCmp]
theorem pu_leq (hx : evA N ⟨t, h⟩ x = .d (.v (.int kx a))) (hy : evA N ⟨t, h⟩ y = .d (.v (.int kx b))) : Pure1 P N ⟨some d, .binOp .leq xt x y yt, ty, pos, aft, g⟩ ⟨t, h⟩ (.d (.v (.bool (decide (a ≤ b))))) :=
  pu_bin (by rw [hx]; rfl) (by rw [hy]; rfl) fun w => by simp [eqGuard, binOp, Op.intCmp]
theorem pu_gtr (hx : evA N ⟨t, h⟩ x = .d (.v (.int kx a))) (hy : evA N ⟨t, h⟩ y = .d (.v (.int kx b))) : Pure1 P N ⟨some d, .binOp .gtr xt x y yt, ty, pos, aft, g⟩ ⟨t, h⟩ (.d (.v (.bool (decide (b < a))))) :=
  pu_bin (by rw [hx]; rfl) (by rw [hy]; rfl) fun w => by simp [eqGuard, binOp, Op.intCmp]
theorem pu_geq (hx : evA N ⟨t, h⟩ x = .d (.v (.int kx a))) (hy : evA N ⟨t, h⟩ y = .d (.v (.int kx b))) : Pure1 P N ⟨some d, .binOp .geq xt x y yt, ty, pos, aft, g⟩ ⟨t, h⟩ (.d (.v (.bool (decide (b ≤ a))))) :=
  pu_bin (by rw [hx]; rfl) (by rw [hy]; rfl) fun w => by simp [eqGuard, binOp, Op.intCmp]
theorem pu_eql (hx : evA N ⟨t, h⟩ x = .d (.v (.int kx a))) (hy : evA N ⟨t, h⟩ y = .d (.v (.int kx b))) : Pure1 P N ⟨some d, .binOp .eql xt x y yt, ty, pos, aft, g⟩ ⟨t, h⟩ (.d (.v (.bool (decide (a = b))))) :=
  pu_bin (by rw [hx]; rfl) (by rw [hy]; rfl) fun w => by
    simp only [eqGuard, binOp, Op.intCmp]
    simp
    by_cases e : a = b <;> simp [e]
theorem pu_neq (hx : evA N ⟨t, h⟩ x = .d (.v (.int kx a))) (hy : evA N ⟨t, h⟩ y = .d (.v (.int kx b))) : Pure1 P N ⟨some d, .binOp .neq xt x y yt, ty, pos, aft, g⟩ ⟨t, h⟩ (.d (.v (.bool (decide (a ≠ b))))) :=
  pu_bin (by rw [hx]; rfl) (by rw [hy]; rfl) fun w => by
    simp only [eqGuard, binOp, Op.intCmp]
    simp
    by_cases e : a = b <;> simp [e]
theorem pu_neg (hx : evA N ⟨t, h⟩ x = .d (.v (.int .i64 a))) (h0 : -9223372036854775808 ≤ -a) (h1 : -a ≤ 9223372036854775807) : Pure1 P N ⟨some d, .unOp .neg xt x, ty, pos, aft, g⟩ ⟨t, h⟩ (.d (.v (.int .i64 (-a)))) :=
  pu_un (by rw [hx]; rfl) fun w => by simp [Op.unary, Op.intArith, ewrap h0 h1]
theorem pu_not {b : Bool} (hx : evA N ⟨t, h⟩ x = .d (.v (.bool b))) : Pure1 P N ⟨some d, .unOp .not xt x, ty, pos, aft, g⟩ ⟨t, h⟩ (.d (.v (.bool !b))) :=
  pu_un (by rw [hx]; rfl) fun w => by simp [Op.unary]
theorem pu_notP {p : Prop} [Decidable p] (hx : evA N ⟨t, h⟩ x = .d (.v (.bool (decide p)))) : Pure1 P N ⟨some d, .unOp .not xt x, ty, pos, aft, g⟩ ⟨t, h⟩ (.d (.v (.bool (decide (¬ p))))) :=
  pu_un (by rw [hx]; rfl) fun w => by
    simp only [Op.unary]
    by_cases e : p <;> simp [e]
theorem pu_ii (hT : TOk P T) {st_ dt : TypeId} {d1 d2 : TI} {k1 k2 : IntKind} (h1 : T st_ = some d1) (h2 : T dt = some d2) (e2 : d2.desc = .int k2) (hx : evA N ⟨t, h⟩ x = .d (.v (.int k1 a))) (e1 : d1.desc = .int k1) :
    Pure1 P N ⟨some d, .convert st_ dt x, ty, pos, aft, g⟩ ⟨t, h⟩ (.d (.v (.int k2 (k2.wrap a)))) :=
  pu_conv (by rw [hx]; rfl) fun w => by
    have u1 := (hT _ _ h1).1
    have u2 := (hT _ _ h2).1
    rw [e1] at u1
    rw [e2] at u2
    simp [convert, run_underlying u1, run_underlying u2, Conv.intToInt]
theorem pu_ii64 (hT : TOk P T) {st_ dt : TypeId} {d1 d2 : TI} {k1 : IntKind} (h1 : T st_ = some d1) (h2 : T dt = some d2) (e2 : d2.desc = .int .i64) (hx : evA N ⟨t, h⟩ x = .d (.v (.int k1 a))) (e1 : d1.desc = .int k1) (b0 : -9223372036854775808 ≤ a) (b1 : a ≤ 9223372036854775807) :
    Pure1 P N ⟨some d, .convert st_ dt x, ty, pos, aft, g⟩ ⟨t, h⟩ (.d (.v (.int .i64 a))) := by
  have := pu_ii (d := d) (ty := ty) (pos := pos) (aft := aft) (g := g) hT h1 h2 e2 hx e1
  rwa [ewrap b0 b1] at this
end ints
end
end Go.Proofs.YtjhadibjjldpdaaGreat
