/- An abstract machine, Y: fronts of references, slices that may be nil. No program. -/
import Derived.Test.YtjhadibjjldpdaaGreatAmX
import Derived.Laws.Cover3
import Derived.Lib.Join
namespace Go.Proofs.YtjhadibjjldpdaaGreat
open Go.RowKit
set_option linter.unusedVariables false
set_option maxRecDepth 100000
/-- strings.Join -/
def joinT (xs : List ByteArray) (sep : ByteArray) : ByteArray := ⟨(Lib.join (xs.map (·.data.toList)) sep.data.toList).toArray⟩
section
variable {P : Program} {T : Tab} {L N : Nat} {ops : Array Oper} {E : Env} {K : List (Nat × Cls) → AS → Prop} {i : Nat} {is : List Nat} {t : Nat → AV} {h h' : Heap} {d : Tmp} {dst : Option Tmp} {op : Op} {ty : TypeId} {pos : String} {aft : Array Edge} {g : Option (Nat × Bool)} {Q : AExit → AS → Prop} {σ : AS} {c : Code} {x y : Operand}
/-- of a reference its front alone is kept -/
theorem weak_pre {d : Nat} {cs ds : List DV} (hd : t d = .ref cs) (hp : Pre cs ds) : Weak L N ⟨t, h⟩ ⟨updA t d (.ref ds), h⟩ := by
  rintro E a w ⟨F, μ, A⟩
  refine ⟨F, μ, A.H, A.df, A.sz, fun d' hd' => ?_, A.lim⟩
  by_cases e : d' = d
  · subst e
    have h1 := A.tm d' hd'
    dsimp only at h1 ⊢
    rw [hd] at h1
    rw [updA_same]
    have hp' : ∀ (j : Nat) (x : DV), ds[j]? = some x → cs[j]? = some x := by
      cases view_ref (h := h) hp with | ref _ _ q => exact q
    generalize a.tmps.getD d' undef = v at h1
    cases h1 with | ref b off cs g hF hg hr => exact .ref b off ds g hF (fun j x hx => hg j x (hp' j x hx)) fun j x hx => hr j x (hp' j x hx)
  · dsimp only; rw [updA_ne _ _ e]
    exact A.tm d' hd'
/-- a slice by value: one with elements, or an empty one, nil or not -/
theorem aw_slice {d : Nat} {es : List (List DV)} (hN : Nat.blt d N = true) (hd : t d = .d (.sl es)) (h1 : es ≠ [] → AW L P N c Q ⟨t, h⟩) (h2 : es = [] → ∀ (A : Option Addr) (k : Nat), k ≤ maxLen → AW L P N c Q ⟨updA t d (.d (.v (.slice A 0 k))), h⟩) : AW L P N c Q ⟨t, h⟩ := fun E a w A => by
  by_cases e : es = []
  · subst e
    obtain ⟨F, μ, A⟩ := A
    have hdN : d < N := blt_lt hN
    obtain ⟨X, k, hk, hv⟩ : ∃ (X : Option Addr) (k : Nat), k ≤ maxLen ∧ a.tmps.getD d undef = .slice X 0 k := by
      have h3 := A.tm d hdN
      dsimp only at h3
      rw [hd] at h3
      generalize a.tmps.getD d undef = v at h3
      cases h3 with | d _ _ h3 =>
      cases h3 with
      | nil => exact ⟨none, 0, by unfold maxLen; omega, rfl⟩
      | emp X k hk => exact ⟨X, k, hk, rfl⟩
      | sl b off k sz _ gg hF hc hm hz hg hr => exact ⟨_, k, hm, rfl⟩
    refine h2 rfl X k hk E a w ⟨F, μ, A.H, A.df, A.sz, fun d' hd' => ?_, A.lim⟩
    by_cases e : d' = d
    · subst e
      dsimp only
      rw [updA_same, hv]
      exact .d _ _ (.v _ rfl)
    · dsimp only; rw [updA_ne _ _ e]
      exact A.tm d' hd'
  · exact h1 e E a w A
theorem weak_emp {d : Nat} {A : Option Addr} {k : Nat} (hd : t d = .d (.v (.slice A 0 k))) (hk : k ≤ maxLen) : Weak L N ⟨t, h⟩ ⟨updA t d (.d (.sl [])), h⟩ := by
  rintro E a w ⟨F, μ, A⟩
  refine ⟨F, μ, A.H, A.df, A.sz, fun d' hd' => ?_, A.lim⟩
  by_cases e : d' = d
  · subst e
    have h1 := A.tm d' hd'
    dsimp only at h1 ⊢
    rw [hd] at h1
    rw [updA_same, rep_v h1]
    exact .d _ _ (.emp _ _ hk)
  · dsimp only; rw [updA_ne _ _ e]
    exact A.tm d' hd'
theorem weak_emp_ {α : Type} (c : α → List DV) {d : Nat} {A : Option Addr} {k : Nat} (hd : t d = .d (.v (.slice A 0 k))) (hk : k ≤ maxLen) : Weak L N ⟨t, h⟩ ⟨updA t d (.d (.sl (List.map c []))), h⟩ := weak_emp hd hk
theorem pu_eqnil_v (hT : TOk P T) {xt e : TypeId} {ti : TI} {A : Option Addr} {n k : Nat} {yt : TypeId} (hx : evA N ⟨t, h⟩ x = .d (.v (.slice A n k))) (h1 : T xt = some ti) (h2 : ti.desc = .slice e) (hy : evA N ⟨t, h⟩ y = .d (.v (.slice none 0 0))) :
    Pure1 P N ⟨some d, .binOp .eql xt x y yt, ty, pos, aft, g⟩ ⟨t, h⟩ (.d (.v (.bool A.isNone))) := fun w F μ hh ρ st => by
  have hr := rep_v (by have := st x (by simp [Op.operands]); rw [hx] at this; exact this)
  have hr2 := rep_v (by have := st y (by simp [Op.operands]); rw [hy] at this; exact this)
  have hu := (hT _ _ h1).1
  rw [h2] at hu
  refine ⟨.bool A.isNone, ?_, .d _ _ (.v _ rfl)⟩
  simp [execOp, hr, hr2, eqGuard, binOp, Go.run_equal_slice_nil w xt e A n k hu]
theorem pu_eqnil_ne (hT : TOk P T) {xt e : TypeId} {ti : TI} {es : List (List DV)} {yt : TypeId} (hx : evA N ⟨t, h⟩ x = .d (.sl es)) (hne : es ≠ []) (h1 : T xt = some ti) (h2 : ti.desc = .slice e) (hy : evA N ⟨t, h⟩ y = .d (.v (.slice none 0 0))) :
    Pure1 P N ⟨some d, .binOp .eql xt x y yt, ty, pos, aft, g⟩ ⟨t, h⟩ (.d (.v (.bool false))) := fun w F μ hh ρ st => by
  have hr := st x (by simp [Op.operands])
  rw [hx] at hr
  have hr2 := rep_v (by have := st y (by simp [Op.operands]); rw [hy] at this; exact this)
  have hu := (hT _ _ h1).1
  rw [h2] at hu
  refine ⟨.bool false, ?_, .d _ _ (.v _ rfl)⟩
  generalize hv : ρ x = v at hr
  cases hr with | d _ _ hd =>
  cases hd with
  | nil => exact absurd rfl hne
  | emp A c hm => exact absurd rfl hne
  | sl b off c sz es gg hF hc hm hz hg hr => simp [execOp, hv, hr2, eqGuard, binOp, Go.run_equal_slice_nil w xt e _ _ _ hu]
theorem pu_max3 {k : IntKind} {a b e : Int} {z : Operand} {at_ : Array TypeId} (hx : evA N ⟨t, h⟩ x = .d (.v (.int k a))) (hy : evA N ⟨t, h⟩ y = .d (.v (.int k b))) (hz : evA N ⟨t, h⟩ z = .d (.v (.int k e))) : Pure1 P N ⟨some d, .call ⟨.builtin .max, #[x, y, z], at_⟩, ty, pos, aft, g⟩ ⟨t, h⟩ (.d (.v (.int k (max (max a b) e)))) := fun w F μ hh ρ st => by
  have h1 := rep_v (by have := st x (by simp [Op.operands, Call.operands]); rw [hx] at this; exact this)
  have h2 := rep_v (by have := st y (by simp [Op.operands, Call.operands]); rw [hy] at this; exact this)
  have h3 := rep_v (by have := st z (by simp [Op.operands, Call.operands]); rw [hz] at this; exact this)
  refine ⟨.int k (max (max a b) e), ?_, .d _ _ (.v _ rfl)⟩
  have q1 : ∀ a b : Int, (if a < b then b else a) = max a b := fun a b => by split <;> omega
  simp [execOp, resolve, invoke, builtin, h1, h2, h3, Builtin.max_, Builtin.max2, q1]
theorem pu_min3 {k : IntKind} {a b e : Int} {z : Operand} {at_ : Array TypeId} (hx : evA N ⟨t, h⟩ x = .d (.v (.int k a))) (hy : evA N ⟨t, h⟩ y = .d (.v (.int k b))) (hz : evA N ⟨t, h⟩ z = .d (.v (.int k e))) : Pure1 P N ⟨some d, .call ⟨.builtin .min, #[x, y, z], at_⟩, ty, pos, aft, g⟩ ⟨t, h⟩ (.d (.v (.int k (min (min a b) e)))) := fun w F μ hh ρ st => by
  have h1 := rep_v (by have := st x (by simp [Op.operands, Call.operands]); rw [hx] at this; exact this)
  have h2 := rep_v (by have := st y (by simp [Op.operands, Call.operands]); rw [hy] at this; exact this)
  have h3 := rep_v (by have := st z (by simp [Op.operands, Call.operands]); rw [hz] at this; exact this)
  refine ⟨.int k (min (min a b) e), ?_, .d _ _ (.v _ rfl)⟩
  have q1 : ∀ a b : Int, (if b < a then b else a) = min a b := fun a b => by split <;> omega
  simp [execOp, resolve, invoke, builtin, h1, h2, h3, Builtin.min_, Builtin.min2, q1]
/-- arguments of which fronts alone are asked -/
inductive PreL2 : List AV → List AV → Prop
  | nil : PreL2 [] []
  | same (a : AV) {as bs : List AV} (k : PreL2 as bs) : PreL2 (a :: as) (a :: bs)
  | pre {cs ds : List DV} {as bs : List AV} (hp : Pre cs ds) (k : PreL2 as bs) : PreL2 (.ref cs :: as) (.ref ds :: bs)
theorem pre_rep {w : World} {F : Nat → Prop} {μ : Places} {hh : Heap} {v : Value} {cs ds : List DV} (hp : Pre cs ds) (r : ARep w F μ hh v (.ref cs)) : ARep w F μ hh v (.ref ds) := by
  have hp' : ∀ (j : Nat) (x : DV), ds[j]? = some x → cs[j]? = some x := by
    cases view_ref (h := hh) hp with | ref _ _ q => exact q
  cases r with | ref b off cs g hF hg hr => exact .ref b off ds g hF (fun j x hx => hg j x (hp' j x hx)) fun j x hx => hr j x (hp' j x hx)
theorem PreL2.spec {as bs : List AV} (p : PreL2 as bs) : as.length = bs.length ∧ ∀ (i : Nat) b, bs[i]? = some b → ∃ a, as[i]? = some a ∧ (a = b ∨ ∃ cs ds, a = .ref cs ∧ b = .ref ds ∧ Pre cs ds) := by
  induction p with
  | nil => exact ⟨rfl, fun i b h => by simp at h⟩
  | same a k ih =>
    refine ⟨by simp [ih.1], fun i b h => ?_⟩
    cases i with
    | zero => simp at h; exact ⟨a, by simp, .inl h⟩
    | succ i => simpa using ih.2 i b (by simpa using h)
  | @pre cs ds as bs hp k ih =>
    refine ⟨by simp [ih.1], fun i b h => ?_⟩
    cases i with
    | zero => simp at h; exact ⟨.ref cs, by simp, .inr ⟨cs, ds, rfl, h.symm, hp⟩⟩
    | succ i => simpa using ih.2 i b (by simpa using h)
theorem fnc_pre {f : FuncId} {hin hout : List Slot} {as as' : List AV} {r : AV} (hF : FnC P f hin as hout r) (p : PreL2 as' as := by repeat (first | exact PreL2.nil | apply PreL2.same | (apply PreL2.pre (by repeat (first | exact Pre.z _ | apply Pre.t))))) : FnC P f hin as' hout r := by
  refine ⟨hF.c, fun w F μ vs gl H hs hr => hF.g w F μ vs gl H (hs.trans p.spec.1) fun i v a hv ha => ?_⟩
  obtain ⟨a', h1, rfl | ⟨cs, ds, rfl, rfl, hp⟩⟩ := p.spec.2 i a ha
  · exact hr i v _ hv h1
  · exact pre_rep hp (hr i v _ hv h1)
/-! short names -/
theorem pa {r : DV} (k : RA L P N ops is Q ⟨updA t d (.d r), h⟩) (ho : ops[i]? = some ⟨some d, .assign x, ty, pos, aft, none⟩ := by exact rfl) (hd : Nat.blt d N = true := by exact rfl) (hx : evA N ⟨t, h⟩ x = .d r := by exact rfl) : RA L P N ops (i :: is) Q ⟨t, h⟩ := rp ho w0 hd (pu_assign hx) k
theorem tpa {r : DV} (k : RT P N ops is (fun l σ' => K ((i, .pu) :: l) σ') ⟨updA t d (.d r), h⟩) (ho : ops[i]? = some ⟨some d, .assign x, ty, pos, aft, none⟩ := by exact rfl) (hd : Nat.blt d N = true := by exact rfl) (hx : evA N ⟨t, h⟩ x = .d r := by exact rfl) : RT P N ops (i :: is) K ⟨t, h⟩ := rt_p ho w0 hd (pu_assign hx) k
theorem par {r : List DV} (k : RA L P N ops is Q ⟨updA t d (.ref r), h⟩) (ho : ops[i]? = some ⟨some d, .assign x, ty, pos, aft, none⟩ := by exact rfl) (hd : Nat.blt d N = true := by exact rfl) (hx : evA N ⟨t, h⟩ x = .ref r := by exact rfl) : RA L P N ops (i :: is) Q ⟨t, h⟩ := rp ho w0 hd (pu_assign hx) k
theorem tpar {r : List DV} (k : RT P N ops is (fun l σ' => K ((i, .pu) :: l) σ') ⟨updA t d (.ref r), h⟩) (ho : ops[i]? = some ⟨some d, .assign x, ty, pos, aft, none⟩ := by exact rfl) (hd : Nat.blt d N = true := by exact rfl) (hx : evA N ⟨t, h⟩ x = .ref r := by exact rfl) : RT P N ops (i :: is) K ⟨t, h⟩ := rt_p ho w0 hd (pu_assign hx) k
theorem pm {r : DV} (k : RA L P N ops is Q ⟨updA t d (.d r), h⟩) (ho : ops[i]? = some ⟨some d, .move x, ty, pos, aft, none⟩ := by exact rfl) (hd : Nat.blt d N = true := by exact rfl) (hx : evA N ⟨t, h⟩ x = .d r := by exact rfl) : RA L P N ops (i :: is) Q ⟨t, h⟩ := rp ho w0 hd (pu_move hx) k
theorem tpm {r : DV} (k : RT P N ops is (fun l σ' => K ((i, .pu) :: l) σ') ⟨updA t d (.d r), h⟩) (ho : ops[i]? = some ⟨some d, .move x, ty, pos, aft, none⟩ := by exact rfl) (hd : Nat.blt d N = true := by exact rfl) (hx : evA N ⟨t, h⟩ x = .d r := by exact rfl) : RT P N ops (i :: is) K ⟨t, h⟩ := rt_p ho w0 hd (pu_move hx) k
theorem pmr {r : List DV} (k : RA L P N ops is Q ⟨updA t d (.ref r), h⟩) (ho : ops[i]? = some ⟨some d, .move x, ty, pos, aft, none⟩ := by exact rfl) (hd : Nat.blt d N = true := by exact rfl) (hx : evA N ⟨t, h⟩ x = .ref r := by exact rfl) : RA L P N ops (i :: is) Q ⟨t, h⟩ := rp ho w0 hd (pu_move hx) k
theorem tpmr {r : List DV} (k : RT P N ops is (fun l σ' => K ((i, .pu) :: l) σ') ⟨updA t d (.ref r), h⟩) (ho : ops[i]? = some ⟨some d, .move x, ty, pos, aft, none⟩ := by exact rfl) (hd : Nat.blt d N = true := by exact rfl) (hx : evA N ⟨t, h⟩ x = .ref r := by exact rfl) : RT P N ops (i :: is) K ⟨t, h⟩ := rt_p ho w0 hd (pu_move hx) k
theorem pkt {z : Operand} {r : DV} (k : RA L P N ops is Q ⟨updA t d (.d r), h⟩) (ho : ops[i]? = some ⟨some d, .pick z x y, ty, pos, aft, none⟩ := by exact rfl) (hd : Nat.blt d N = true := by exact rfl) (hz : evA N ⟨t, h⟩ z = .d (.v (.bool true)) := by exact rfl) (hx : evA N ⟨t, h⟩ x = .d r := by exact rfl) : RA L P N ops (i :: is) Q ⟨t, h⟩ := rp ho w0 hd (pu_pick_t hz hx) k
theorem tpkt {z : Operand} {r : DV} (k : RT P N ops is (fun l σ' => K ((i, .pu) :: l) σ') ⟨updA t d (.d r), h⟩) (ho : ops[i]? = some ⟨some d, .pick z x y, ty, pos, aft, none⟩ := by exact rfl) (hd : Nat.blt d N = true := by exact rfl) (hz : evA N ⟨t, h⟩ z = .d (.v (.bool true)) := by exact rfl) (hx : evA N ⟨t, h⟩ x = .d r := by exact rfl) : RT P N ops (i :: is) K ⟨t, h⟩ := rt_p ho w0 hd (pu_pick_t hz hx) k
theorem pkf {z : Operand} {r : DV} (k : RA L P N ops is Q ⟨updA t d (.d r), h⟩) (ho : ops[i]? = some ⟨some d, .pick z x y, ty, pos, aft, none⟩ := by exact rfl) (hd : Nat.blt d N = true := by exact rfl) (hz : evA N ⟨t, h⟩ z = .d (.v (.bool false)) := by exact rfl) (hx : evA N ⟨t, h⟩ y = .d r := by exact rfl) : RA L P N ops (i :: is) Q ⟨t, h⟩ := rp ho w0 hd (pu_pick_f hz hx) k
theorem tpkf {z : Operand} {r : DV} (k : RT P N ops is (fun l σ' => K ((i, .pu) :: l) σ') ⟨updA t d (.d r), h⟩) (ho : ops[i]? = some ⟨some d, .pick z x y, ty, pos, aft, none⟩ := by exact rfl) (hd : Nat.blt d N = true := by exact rfl) (hz : evA N ⟨t, h⟩ z = .d (.v (.bool false)) := by exact rfl) (hx : evA N ⟨t, h⟩ y = .d r := by exact rfl) : RT P N ops (i :: is) K ⟨t, h⟩ := rt_p ho w0 hd (pu_pick_f hz hx) k
theorem nr {r : List DV} (k : RA L P N ops is Q ⟨updA t d (.ref r), h⟩) (ho : ops[i]? = some ⟨some d, .nilCheck x, ty, pos, aft, none⟩ := by exact rfl) (hd : Nat.blt d N = true := by exact rfl) (hx : evA N ⟨t, h⟩ x = .ref r := by exact rfl) : RA L P N ops (i :: is) Q ⟨t, h⟩ := rp ho w0 hd (pu_nil_ref hx) k
theorem tnr {r : List DV} (k : RT P N ops is (fun l σ' => K ((i, .pu) :: l) σ') ⟨updA t d (.ref r), h⟩) (ho : ops[i]? = some ⟨some d, .nilCheck x, ty, pos, aft, none⟩ := by exact rfl) (hd : Nat.blt d N = true := by exact rfl) (hx : evA N ⟨t, h⟩ x = .ref r := by exact rfl) : RT P N ops (i :: is) K ⟨t, h⟩ := rt_p ho w0 hd (pu_nil_ref hx) k
theorem fa (hT : TOk P T) {s bt : TypeId} {q kk e sz : Nat} {cells : List AV} {ti fi : TI} {fs : Array Field} {fld : Field} (k : RA L P N ops is Q ⟨updA t d (.ptr kk 0 1 0 (e + fld.offset)), h⟩) (ho : ops[i]? = some ⟨some d, .fieldAddr s x q, ty, pos, aft, none⟩ := by exact rfl) (hd : Nat.blt d N = true := by exact rfl) (hx : evA N ⟨t, h⟩ x = .ptr kk 0 1 0 e := by exact rfl) (h1 : T s = some ti := by exact rfl) (h2 : ti.desc = .struct fs := by exact rfl) (h3 : fs[q]? = some fld := by exact rfl) (h4 : T fld.type = some fi := by exact rfl) (h5 : Nat.beq fi.size 0 = false := by exact rfl) (hk : h kk = .live [⟨bt, sz, .av [cells]⟩] := by exact rfl) : RA L P N ops (i :: is) Q ⟨t, h⟩ := rl ho w0 hd (bx_fa hT hx h1 h2 h3 h4 h5 hk) k
theorem ld (hT : TOk P T) {lt bt : TypeId} {kk e sz : Nat} {cells : List AV} {c0 : AV} {ti : TI} (k : RA L P N ops is Q ⟨updA t d c0, h⟩) (ho : ops[i]? = some ⟨some d, .load lt x, ty, pos, aft, none⟩ := by exact rfl) (hd : Nat.blt d N = true := by exact rfl) (hx : evA N ⟨t, h⟩ x = .ptr kk 0 1 0 e := by exact rfl) (h1 : T lt = some ti := by exact rfl) (h2 : isRow ti.desc = false := by exact rfl) (hk : h kk = .live [⟨bt, sz, .av [cells]⟩] := by exact rfl) (hc : cells[e]? = some c0 := by exact rfl) : RA L P N ops (i :: is) Q ⟨t, h⟩ := rl ho w0 hd (bx_ld1 hT hx h1 h2 hk hc) k
theorem fr (hT : TOk P T) {s : TypeId} {q : Nat} {cs out : List DV} {ti fi : TI} {fs : Array Field} {fld : Field} (k : RA L P N ops is Q ⟨updA t d (.ref out), h⟩) (ho : ops[i]? = some ⟨some d, .fieldAddr s x q, ty, pos, aft, none⟩ := by exact rfl) (hd : Nat.blt d N = true := by exact rfl) (hx : evA N ⟨t, h⟩ x = .ref cs := by exact rfl) (h1 : T s = some ti := by exact rfl) (h2 : ti.desc = .struct fs := by exact rfl) (h3 : fs[q]? = some fld := by exact rfl) (h4 : T fld.type = some fi := by exact rfl) (h5 : Nat.beq fi.size 0 = false := by exact rfl) (hp : Drp fld.offset cs out := by repeat (first | exact Drp.z _ | apply Drp.d)) : RA L P N ops (i :: is) Q ⟨t, h⟩ := rp ho w0 hd (pu_fieldAddr_ref hT hx h1 h2 h3 h4 h5 hp) k
theorem tfr (hT : TOk P T) {s : TypeId} {q : Nat} {cs out : List DV} {ti fi : TI} {fs : Array Field} {fld : Field} (k : RT P N ops is (fun l σ' => K ((i, .pu) :: l) σ') ⟨updA t d (.ref out), h⟩) (ho : ops[i]? = some ⟨some d, .fieldAddr s x q, ty, pos, aft, none⟩ := by exact rfl) (hd : Nat.blt d N = true := by exact rfl) (hx : evA N ⟨t, h⟩ x = .ref cs := by exact rfl) (h1 : T s = some ti := by exact rfl) (h2 : ti.desc = .struct fs := by exact rfl) (h3 : fs[q]? = some fld := by exact rfl) (h4 : T fld.type = some fi := by exact rfl) (h5 : Nat.beq fi.size 0 = false := by exact rfl) (hp : Drp fld.offset cs out := by repeat (first | exact Drp.z _ | apply Drp.d)) : RT P N ops (i :: is) K ⟨t, h⟩ := rt_p ho w0 hd (pu_fieldAddr_ref hT hx h1 h2 h3 h4 h5 hp) k
theorem lr (hT : TOk P T) {lt : TypeId} {cs : List DV} {c0 : DV} {ti : TI} (k : RA L P N ops is Q ⟨updA t d (.d c0), h⟩) (ho : ops[i]? = some ⟨some d, .load lt x, ty, pos, aft, none⟩ := by exact rfl) (hd : Nat.blt d N = true := by exact rfl) (hx : evA N ⟨t, h⟩ x = .ref cs := by exact rfl) (h1 : T lt = some ti := by exact rfl) (h2 : isRow ti.desc = false := by exact rfl) (hc : cs[0]? = some c0 := by exact rfl) : RA L P N ops (i :: is) Q ⟨t, h⟩ := rp ho w0 hd (pu_load_ref1 hT hx h1 h2 hc) k
theorem tlr (hT : TOk P T) {lt : TypeId} {cs : List DV} {c0 : DV} {ti : TI} (k : RT P N ops is (fun l σ' => K ((i, .pu) :: l) σ') ⟨updA t d (.d c0), h⟩) (ho : ops[i]? = some ⟨some d, .load lt x, ty, pos, aft, none⟩ := by exact rfl) (hd : Nat.blt d N = true := by exact rfl) (hx : evA N ⟨t, h⟩ x = .ref cs := by exact rfl) (h1 : T lt = some ti := by exact rfl) (h2 : isRow ti.desc = false := by exact rfl) (hc : cs[0]? = some c0 := by exact rfl) : RT P N ops (i :: is) K ⟨t, h⟩ := rt_p ho w0 hd (pu_load_ref1 hT hx h1 h2 hc) k
theorem pa1 {j u : Nat} {b : Bool} {r : DV} (k : RA L P N ops is Q ⟨updA t d (.d r), h⟩) (ho : ops[i]? = some ⟨some d, .assign x, ty, pos, aft, some (j, b)⟩ := by exact rfl) (hj : (ops[j]?).bind (·.dst) = some u := by exact rfl) (hu : Nat.blt u N = true := by exact rfl) (hb : t u = .d (.v (.bool b)) := by exact rfl) (hd : Nat.blt d N = true := by exact rfl) (hx : evA N ⟨t, h⟩ x = .d r := by exact rfl) : RA L P N ops (i :: is) Q ⟨t, h⟩ := rp ho (w1 hj hu hb) hd (pu_assign hx) k
theorem tpa1 {j u : Nat} {b : Bool} {r : DV} (k : RT P N ops is (fun l σ' => K ((i, .pu) :: l) σ') ⟨updA t d (.d r), h⟩) (ho : ops[i]? = some ⟨some d, .assign x, ty, pos, aft, some (j, b)⟩ := by exact rfl) (hj : (ops[j]?).bind (·.dst) = some u := by exact rfl) (hu : Nat.blt u N = true := by exact rfl) (hb : t u = .d (.v (.bool b)) := by exact rfl) (hd : Nat.blt d N = true := by exact rfl) (hx : evA N ⟨t, h⟩ x = .d r := by exact rfl) : RT P N ops (i :: is) K ⟨t, h⟩ := rt_p ho (w1 hj hu hb) hd (pu_assign hx) k
theorem par1 {j u : Nat} {b : Bool} {r : List DV} (k : RA L P N ops is Q ⟨updA t d (.ref r), h⟩) (ho : ops[i]? = some ⟨some d, .assign x, ty, pos, aft, some (j, b)⟩ := by exact rfl) (hj : (ops[j]?).bind (·.dst) = some u := by exact rfl) (hu : Nat.blt u N = true := by exact rfl) (hb : t u = .d (.v (.bool b)) := by exact rfl) (hd : Nat.blt d N = true := by exact rfl) (hx : evA N ⟨t, h⟩ x = .ref r := by exact rfl) : RA L P N ops (i :: is) Q ⟨t, h⟩ := rp ho (w1 hj hu hb) hd (pu_assign hx) k
theorem tpar1 {j u : Nat} {b : Bool} {r : List DV} (k : RT P N ops is (fun l σ' => K ((i, .pu) :: l) σ') ⟨updA t d (.ref r), h⟩) (ho : ops[i]? = some ⟨some d, .assign x, ty, pos, aft, some (j, b)⟩ := by exact rfl) (hj : (ops[j]?).bind (·.dst) = some u := by exact rfl) (hu : Nat.blt u N = true := by exact rfl) (hb : t u = .d (.v (.bool b)) := by exact rfl) (hd : Nat.blt d N = true := by exact rfl) (hx : evA N ⟨t, h⟩ x = .ref r := by exact rfl) : RT P N ops (i :: is) K ⟨t, h⟩ := rt_p ho (w1 hj hu hb) hd (pu_assign hx) k
theorem pm1 {j u : Nat} {b : Bool} {r : DV} (k : RA L P N ops is Q ⟨updA t d (.d r), h⟩) (ho : ops[i]? = some ⟨some d, .move x, ty, pos, aft, some (j, b)⟩ := by exact rfl) (hj : (ops[j]?).bind (·.dst) = some u := by exact rfl) (hu : Nat.blt u N = true := by exact rfl) (hb : t u = .d (.v (.bool b)) := by exact rfl) (hd : Nat.blt d N = true := by exact rfl) (hx : evA N ⟨t, h⟩ x = .d r := by exact rfl) : RA L P N ops (i :: is) Q ⟨t, h⟩ := rp ho (w1 hj hu hb) hd (pu_move hx) k
theorem tpm1 {j u : Nat} {b : Bool} {r : DV} (k : RT P N ops is (fun l σ' => K ((i, .pu) :: l) σ') ⟨updA t d (.d r), h⟩) (ho : ops[i]? = some ⟨some d, .move x, ty, pos, aft, some (j, b)⟩ := by exact rfl) (hj : (ops[j]?).bind (·.dst) = some u := by exact rfl) (hu : Nat.blt u N = true := by exact rfl) (hb : t u = .d (.v (.bool b)) := by exact rfl) (hd : Nat.blt d N = true := by exact rfl) (hx : evA N ⟨t, h⟩ x = .d r := by exact rfl) : RT P N ops (i :: is) K ⟨t, h⟩ := rt_p ho (w1 hj hu hb) hd (pu_move hx) k
theorem pmr1 {j u : Nat} {b : Bool} {r : List DV} (k : RA L P N ops is Q ⟨updA t d (.ref r), h⟩) (ho : ops[i]? = some ⟨some d, .move x, ty, pos, aft, some (j, b)⟩ := by exact rfl) (hj : (ops[j]?).bind (·.dst) = some u := by exact rfl) (hu : Nat.blt u N = true := by exact rfl) (hb : t u = .d (.v (.bool b)) := by exact rfl) (hd : Nat.blt d N = true := by exact rfl) (hx : evA N ⟨t, h⟩ x = .ref r := by exact rfl) : RA L P N ops (i :: is) Q ⟨t, h⟩ := rp ho (w1 hj hu hb) hd (pu_move hx) k
theorem tpmr1 {j u : Nat} {b : Bool} {r : List DV} (k : RT P N ops is (fun l σ' => K ((i, .pu) :: l) σ') ⟨updA t d (.ref r), h⟩) (ho : ops[i]? = some ⟨some d, .move x, ty, pos, aft, some (j, b)⟩ := by exact rfl) (hj : (ops[j]?).bind (·.dst) = some u := by exact rfl) (hu : Nat.blt u N = true := by exact rfl) (hb : t u = .d (.v (.bool b)) := by exact rfl) (hd : Nat.blt d N = true := by exact rfl) (hx : evA N ⟨t, h⟩ x = .ref r := by exact rfl) : RT P N ops (i :: is) K ⟨t, h⟩ := rt_p ho (w1 hj hu hb) hd (pu_move hx) k
theorem pkt1 {j u : Nat} {b : Bool} {z : Operand} {r : DV} (k : RA L P N ops is Q ⟨updA t d (.d r), h⟩) (ho : ops[i]? = some ⟨some d, .pick z x y, ty, pos, aft, some (j, b)⟩ := by exact rfl) (hj : (ops[j]?).bind (·.dst) = some u := by exact rfl) (hu : Nat.blt u N = true := by exact rfl) (hb : t u = .d (.v (.bool b)) := by exact rfl) (hd : Nat.blt d N = true := by exact rfl) (hz : evA N ⟨t, h⟩ z = .d (.v (.bool true)) := by exact rfl) (hx : evA N ⟨t, h⟩ x = .d r := by exact rfl) : RA L P N ops (i :: is) Q ⟨t, h⟩ := rp ho (w1 hj hu hb) hd (pu_pick_t hz hx) k
theorem tpkt1 {j u : Nat} {b : Bool} {z : Operand} {r : DV} (k : RT P N ops is (fun l σ' => K ((i, .pu) :: l) σ') ⟨updA t d (.d r), h⟩) (ho : ops[i]? = some ⟨some d, .pick z x y, ty, pos, aft, some (j, b)⟩ := by exact rfl) (hj : (ops[j]?).bind (·.dst) = some u := by exact rfl) (hu : Nat.blt u N = true := by exact rfl) (hb : t u = .d (.v (.bool b)) := by exact rfl) (hd : Nat.blt d N = true := by exact rfl) (hz : evA N ⟨t, h⟩ z = .d (.v (.bool true)) := by exact rfl) (hx : evA N ⟨t, h⟩ x = .d r := by exact rfl) : RT P N ops (i :: is) K ⟨t, h⟩ := rt_p ho (w1 hj hu hb) hd (pu_pick_t hz hx) k
theorem pkf1 {j u : Nat} {b : Bool} {z : Operand} {r : DV} (k : RA L P N ops is Q ⟨updA t d (.d r), h⟩) (ho : ops[i]? = some ⟨some d, .pick z x y, ty, pos, aft, some (j, b)⟩ := by exact rfl) (hj : (ops[j]?).bind (·.dst) = some u := by exact rfl) (hu : Nat.blt u N = true := by exact rfl) (hb : t u = .d (.v (.bool b)) := by exact rfl) (hd : Nat.blt d N = true := by exact rfl) (hz : evA N ⟨t, h⟩ z = .d (.v (.bool false)) := by exact rfl) (hx : evA N ⟨t, h⟩ y = .d r := by exact rfl) : RA L P N ops (i :: is) Q ⟨t, h⟩ := rp ho (w1 hj hu hb) hd (pu_pick_f hz hx) k
theorem tpkf1 {j u : Nat} {b : Bool} {z : Operand} {r : DV} (k : RT P N ops is (fun l σ' => K ((i, .pu) :: l) σ') ⟨updA t d (.d r), h⟩) (ho : ops[i]? = some ⟨some d, .pick z x y, ty, pos, aft, some (j, b)⟩ := by exact rfl) (hj : (ops[j]?).bind (·.dst) = some u := by exact rfl) (hu : Nat.blt u N = true := by exact rfl) (hb : t u = .d (.v (.bool b)) := by exact rfl) (hd : Nat.blt d N = true := by exact rfl) (hz : evA N ⟨t, h⟩ z = .d (.v (.bool false)) := by exact rfl) (hx : evA N ⟨t, h⟩ y = .d r := by exact rfl) : RT P N ops (i :: is) K ⟨t, h⟩ := rt_p ho (w1 hj hu hb) hd (pu_pick_f hz hx) k
theorem nr1 {j u : Nat} {b : Bool} {r : List DV} (k : RA L P N ops is Q ⟨updA t d (.ref r), h⟩) (ho : ops[i]? = some ⟨some d, .nilCheck x, ty, pos, aft, some (j, b)⟩ := by exact rfl) (hj : (ops[j]?).bind (·.dst) = some u := by exact rfl) (hu : Nat.blt u N = true := by exact rfl) (hb : t u = .d (.v (.bool b)) := by exact rfl) (hd : Nat.blt d N = true := by exact rfl) (hx : evA N ⟨t, h⟩ x = .ref r := by exact rfl) : RA L P N ops (i :: is) Q ⟨t, h⟩ := rp ho (w1 hj hu hb) hd (pu_nil_ref hx) k
theorem tnr1 {j u : Nat} {b : Bool} {r : List DV} (k : RT P N ops is (fun l σ' => K ((i, .pu) :: l) σ') ⟨updA t d (.ref r), h⟩) (ho : ops[i]? = some ⟨some d, .nilCheck x, ty, pos, aft, some (j, b)⟩ := by exact rfl) (hj : (ops[j]?).bind (·.dst) = some u := by exact rfl) (hu : Nat.blt u N = true := by exact rfl) (hb : t u = .d (.v (.bool b)) := by exact rfl) (hd : Nat.blt d N = true := by exact rfl) (hx : evA N ⟨t, h⟩ x = .ref r := by exact rfl) : RT P N ops (i :: is) K ⟨t, h⟩ := rt_p ho (w1 hj hu hb) hd (pu_nil_ref hx) k
theorem fa1 {j u : Nat} {b : Bool} (hT : TOk P T) {s bt : TypeId} {q kk e sz : Nat} {cells : List AV} {ti fi : TI} {fs : Array Field} {fld : Field} (k : RA L P N ops is Q ⟨updA t d (.ptr kk 0 1 0 (e + fld.offset)), h⟩) (ho : ops[i]? = some ⟨some d, .fieldAddr s x q, ty, pos, aft, some (j, b)⟩ := by exact rfl) (hj : (ops[j]?).bind (·.dst) = some u := by exact rfl) (hu : Nat.blt u N = true := by exact rfl) (hb : t u = .d (.v (.bool b)) := by exact rfl) (hd : Nat.blt d N = true := by exact rfl) (hx : evA N ⟨t, h⟩ x = .ptr kk 0 1 0 e := by exact rfl) (h1 : T s = some ti := by exact rfl) (h2 : ti.desc = .struct fs := by exact rfl) (h3 : fs[q]? = some fld := by exact rfl) (h4 : T fld.type = some fi := by exact rfl) (h5 : Nat.beq fi.size 0 = false := by exact rfl) (hk : h kk = .live [⟨bt, sz, .av [cells]⟩] := by exact rfl) : RA L P N ops (i :: is) Q ⟨t, h⟩ := rl ho (w1 hj hu hb) hd (bx_fa hT hx h1 h2 h3 h4 h5 hk) k
theorem ld1 {j u : Nat} {b : Bool} (hT : TOk P T) {lt bt : TypeId} {kk e sz : Nat} {cells : List AV} {c0 : AV} {ti : TI} (k : RA L P N ops is Q ⟨updA t d c0, h⟩) (ho : ops[i]? = some ⟨some d, .load lt x, ty, pos, aft, some (j, b)⟩ := by exact rfl) (hj : (ops[j]?).bind (·.dst) = some u := by exact rfl) (hu : Nat.blt u N = true := by exact rfl) (hb : t u = .d (.v (.bool b)) := by exact rfl) (hd : Nat.blt d N = true := by exact rfl) (hx : evA N ⟨t, h⟩ x = .ptr kk 0 1 0 e := by exact rfl) (h1 : T lt = some ti := by exact rfl) (h2 : isRow ti.desc = false := by exact rfl) (hk : h kk = .live [⟨bt, sz, .av [cells]⟩] := by exact rfl) (hc : cells[e]? = some c0 := by exact rfl) : RA L P N ops (i :: is) Q ⟨t, h⟩ := rl ho (w1 hj hu hb) hd (bx_ld1 hT hx h1 h2 hk hc) k
theorem fr1 {j u : Nat} {b : Bool} (hT : TOk P T) {s : TypeId} {q : Nat} {cs out : List DV} {ti fi : TI} {fs : Array Field} {fld : Field} (k : RA L P N ops is Q ⟨updA t d (.ref out), h⟩) (ho : ops[i]? = some ⟨some d, .fieldAddr s x q, ty, pos, aft, some (j, b)⟩ := by exact rfl) (hj : (ops[j]?).bind (·.dst) = some u := by exact rfl) (hu : Nat.blt u N = true := by exact rfl) (hb : t u = .d (.v (.bool b)) := by exact rfl) (hd : Nat.blt d N = true := by exact rfl) (hx : evA N ⟨t, h⟩ x = .ref cs := by exact rfl) (h1 : T s = some ti := by exact rfl) (h2 : ti.desc = .struct fs := by exact rfl) (h3 : fs[q]? = some fld := by exact rfl) (h4 : T fld.type = some fi := by exact rfl) (h5 : Nat.beq fi.size 0 = false := by exact rfl) (hp : Drp fld.offset cs out := by repeat (first | exact Drp.z _ | apply Drp.d)) : RA L P N ops (i :: is) Q ⟨t, h⟩ := rp ho (w1 hj hu hb) hd (pu_fieldAddr_ref hT hx h1 h2 h3 h4 h5 hp) k
theorem tfr1 {j u : Nat} {b : Bool} (hT : TOk P T) {s : TypeId} {q : Nat} {cs out : List DV} {ti fi : TI} {fs : Array Field} {fld : Field} (k : RT P N ops is (fun l σ' => K ((i, .pu) :: l) σ') ⟨updA t d (.ref out), h⟩) (ho : ops[i]? = some ⟨some d, .fieldAddr s x q, ty, pos, aft, some (j, b)⟩ := by exact rfl) (hj : (ops[j]?).bind (·.dst) = some u := by exact rfl) (hu : Nat.blt u N = true := by exact rfl) (hb : t u = .d (.v (.bool b)) := by exact rfl) (hd : Nat.blt d N = true := by exact rfl) (hx : evA N ⟨t, h⟩ x = .ref cs := by exact rfl) (h1 : T s = some ti := by exact rfl) (h2 : ti.desc = .struct fs := by exact rfl) (h3 : fs[q]? = some fld := by exact rfl) (h4 : T fld.type = some fi := by exact rfl) (h5 : Nat.beq fi.size 0 = false := by exact rfl) (hp : Drp fld.offset cs out := by repeat (first | exact Drp.z _ | apply Drp.d)) : RT P N ops (i :: is) K ⟨t, h⟩ := rt_p ho (w1 hj hu hb) hd (pu_fieldAddr_ref hT hx h1 h2 h3 h4 h5 hp) k
theorem lr1 {j u : Nat} {b : Bool} (hT : TOk P T) {lt : TypeId} {cs : List DV} {c0 : DV} {ti : TI} (k : RA L P N ops is Q ⟨updA t d (.d c0), h⟩) (ho : ops[i]? = some ⟨some d, .load lt x, ty, pos, aft, some (j, b)⟩ := by exact rfl) (hj : (ops[j]?).bind (·.dst) = some u := by exact rfl) (hu : Nat.blt u N = true := by exact rfl) (hb : t u = .d (.v (.bool b)) := by exact rfl) (hd : Nat.blt d N = true := by exact rfl) (hx : evA N ⟨t, h⟩ x = .ref cs := by exact rfl) (h1 : T lt = some ti := by exact rfl) (h2 : isRow ti.desc = false := by exact rfl) (hc : cs[0]? = some c0 := by exact rfl) : RA L P N ops (i :: is) Q ⟨t, h⟩ := rp ho (w1 hj hu hb) hd (pu_load_ref1 hT hx h1 h2 hc) k
theorem tlr1 {j u : Nat} {b : Bool} (hT : TOk P T) {lt : TypeId} {cs : List DV} {c0 : DV} {ti : TI} (k : RT P N ops is (fun l σ' => K ((i, .pu) :: l) σ') ⟨updA t d (.d c0), h⟩) (ho : ops[i]? = some ⟨some d, .load lt x, ty, pos, aft, some (j, b)⟩ := by exact rfl) (hj : (ops[j]?).bind (·.dst) = some u := by exact rfl) (hu : Nat.blt u N = true := by exact rfl) (hb : t u = .d (.v (.bool b)) := by exact rfl) (hd : Nat.blt d N = true := by exact rfl) (hx : evA N ⟨t, h⟩ x = .ref cs := by exact rfl) (h1 : T lt = some ti := by exact rfl) (h2 : isRow ti.desc = false := by exact rfl) (hc : cs[0]? = some c0 := by exact rfl) : RT P N ops (i :: is) K ⟨t, h⟩ := rt_p ho (w1 hj hu hb) hd (pu_load_ref1 hT hx h1 h2 hc) k
theorem k1 {j u : Nat} {want : Bool} (k : RA L P N ops is Q ⟨updA t d (.tup []), h⟩) (ho : ops[i]? = some ⟨some d, op, ty, pos, aft, some (j, want)⟩ := by exact rfl) (hj : (ops[j]?).bind (·.dst) = some u := by exact rfl) (hu : Nat.blt u N = true := by exact rfl) (hb : t u = .d (.v (.bool !want)) ∨ t u = .tup [] := by first | exact .inl rfl | exact .inr rfl) (hd : Nat.blt d N = true := by exact rfl) : RA L P N ops (i :: is) Q ⟨t, h⟩ := rk ho hj hu hb hd k
theorem k2 {j u : Nat} {want : Bool} (k : RT P N ops is (fun l σ' => K ((i, .pu) :: l) σ') ⟨updA t d (.tup []), h⟩) (ho : ops[i]? = some ⟨some d, op, ty, pos, aft, some (j, want)⟩ := by exact rfl) (hj : (ops[j]?).bind (·.dst) = some u := by exact rfl) (hu : Nat.blt u N = true := by exact rfl) (hb : t u = .d (.v (.bool !want)) ∨ t u = .tup [] := by first | exact .inl rfl | exact .inr rfl) (hd : Nat.blt d N = true := by exact rfl) : RT P N ops (i :: is) K ⟨t, h⟩ := rt_skip ho hj hu hb hd k
theorem nx {K' : AS → Prop} (k : K' σ) : RA L P N ops [] (AThen K' Q) σ := ra_nil (then_n k)
theorem sk {K' : AS → Prop} (k : K' σ) : AW L P N .skip (AThen K' Q) σ := aw_skip (then_n k)
theorem sq {id : Nat} {c' : Code} (is : List Nat) (k : RA L P N ops is (AThen (fun σ => AW L P N c' Q σ) Q) σ) (his : List.range ops.size = is := by exact rfl) : AW L P N (.seq (.region id ops false) c') Q σ := aw_seq (aw_regionA his k)
theorem sr {id : Nat} (is : List Nat) (k : RA L P N ops is Q σ) (his : List.range ops.size = is := by exact rfl) : AW L P N (.region id ops false) Q σ := aw_regionA his k
end
end Go.Proofs.YtjhadibjjldpdaaGreat
