/- An abstract machine, S: more operations, returns and weakenings in few words. No program. -/
import Derived.Test.YtjhadibjjldpdaaGreatAmR
import Derived.Laws.DeepStrings4
namespace Go.Proofs.YtjhadibjjldpdaaGreat
open Go.RowKit
set_option linter.unusedVariables false
set_option maxRecDepth 100000
def strAt (s : ByteArray) (i : Int) : Option Int := if 0 ≤ i then (s[i.toNat]?).map (fun b => (b.toNat : Int)) else none
def subL {α : Type} (xs : List α) (a b : Int) : List α := (xs.drop a.toNat).take (b.toNat - a.toNat)
theorem orE_s {V Z : Type} {z r : Z} {f : V → Option Z} (h : orE (.inr z) f = some r) : some z = some r := h
theorem orE_f {V Z : Type} {v : V} {r : Z} {f : V → Option Z} (h : orE (.inl v) f = some r) : f v = some r := h
theorem set_he {α : Type} {es : List α} {m : Nat} {e e' : α} (h : es[m]? = some e) : (es.set m e')[m]? = some e' := by
  have := (List.getElem?_eq_some_iff.1 h).1
  exact List.getElem?_set_self this
section
variable {P : Program} {T : Tab} {L N : Nat} {ops : Array Oper} {E : Env} {K : List (Nat × Cls) → AS → Prop} {i : Nat} {is : List Nat} {t : Nat → AV} {h h' : Heap} {d : Tmp} {dst : Option Tmp} {op : Op} {ty : TypeId} {pos : String} {aft : Array Edge} {g : Option (Nat × Bool)} {Q : AExit → AS → Prop} {σ : AS} {xt yt : TypeId} {x y : Operand} {a b : Int}

theorem pw_add (hx : evA N ⟨t, h⟩ x = .d (.v (.int .i64 a))) (hy : evA N ⟨t, h⟩ y = .d (.v (.int .i64 b))) : Pure1 P N ⟨some d, .binOp .add xt x y yt, ty, pos, aft, g⟩ ⟨t, h⟩ (.d (.v (.int .i64 (w64 (a + b))))) := pu_addw hx hy
theorem pw_sub (hx : evA N ⟨t, h⟩ x = .d (.v (.int .i64 a))) (hy : evA N ⟨t, h⟩ y = .d (.v (.int .i64 b))) : Pure1 P N ⟨some d, .binOp .sub xt x y yt, ty, pos, aft, g⟩ ⟨t, h⟩ (.d (.v (.int .i64 (w64 (a - b))))) := pu_subw hx hy
theorem pw_mul (hx : evA N ⟨t, h⟩ x = .d (.v (.int .i64 a))) (hy : evA N ⟨t, h⟩ y = .d (.v (.int .i64 b))) : Pure1 P N ⟨some d, .binOp .mul xt x y yt, ty, pos, aft, g⟩ ⟨t, h⟩ (.d (.v (.int .i64 (w64 (a * b))))) := pu_mulw hx hy
theorem pw_quo (hx : evA N ⟨t, h⟩ x = .d (.v (.int .i64 a))) (hy : evA N ⟨t, h⟩ y = .d (.v (.int .i64 b))) (hb : b ≠ 0) : Pure1 P N ⟨some d, .binOp .quo xt x y yt, ty, pos, aft, g⟩ ⟨t, h⟩ (.d (.v (.int .i64 (w64 (a.tdiv b))))) := pu_quow hx hy hb
theorem pw_neg (hx : evA N ⟨t, h⟩ x = .d (.v (.int .i64 a))) : Pure1 P N ⟨some d, .unOp .neg xt x, ty, pos, aft, g⟩ ⟨t, h⟩ (.d (.v (.int .i64 (w64 (-a))))) :=
  pu_un (by rw [hx]; rfl) fun w => by simp [Op.unary, Op.intArith, w64]
theorem pu_negw {kx : IntKind} (hx : evA N ⟨t, h⟩ x = .d (.v (.int kx a))) : Pure1 P N ⟨some d, .unOp .neg xt x, ty, pos, aft, g⟩ ⟨t, h⟩ (.d (.v (.int kx (kx.wrap (-a))))) :=
  pu_un (by rw [hx]; rfl) fun w => by simp [Op.unary, Op.intArith]
theorem pw_cv (hT : TOk P T) {st_ dt : TypeId} {d1 d2 : TI} {k1 : IntKind} (h1 : T st_ = some d1) (h2 : T dt = some d2) (e2 : d2.desc = .int .i64) (hx : evA N ⟨t, h⟩ x = .d (.v (.int k1 a))) (e1 : d1.desc = .int k1) :
    Pure1 P N ⟨some d, .convert st_ dt x, ty, pos, aft, g⟩ ⟨t, h⟩ (.d (.v (.int .i64 (w64 a)))) := pu_ii hT h1 h2 e2 hx e1
/-! texts -/
theorem pu_sidx (hT : TOk P T) {s : ByteArray} {kk : IntKind} {ti : TI} (hb : strAt s a = some b) (hx : evA N ⟨t, h⟩ x = .d (.v (.string s))) (hy : evA N ⟨t, h⟩ y = .d (.v (.int kk a))) (h1 : T xt = some ti) (h2 : ti.desc = .string) :
    Pure1 P N ⟨some d, .index xt x y, ty, pos, aft, g⟩ ⟨t, h⟩ (.d (.v (.int .u8 b))) := fun w F μ hh ρ st => by
  have e1 := rep_v (by have := st x (by simp [Op.operands]); rw [hx] at this; exact this)
  have e2 := rep_v (by have := st y (by simp [Op.operands]); rw [hy] at this; exact this)
  have hu := (hT _ _ h1).1
  rw [h2] at hu
  refine ⟨.int .u8 b, ?_, .d _ _ (.v _ rfl)⟩
  unfold strAt at hb
  split at hb
  · rename_i h0
    obtain ⟨c, hc, rfl⟩ := Option.map_eq_some_iff.1 hb
    simp [execOp, Instr.index, e1, e2, asIntOf, run_underlying hu, h0, hc]
  · cases hb
theorem pu_ssub (hT : TOk P T) {s : ByteArray} {lo hi : Option Operand} {ti : TI} (hab : 0 ≤ a ∧ a ≤ b ∧ b ≤ s.size) (hx : evA N ⟨t, h⟩ x = .d (.v (.string s))) (hlo : (lo = none ∧ a = 0) ∨ ∃ o k, lo = some o ∧ evA N ⟨t, h⟩ o = .d (.v (.int k a)))
    (hhi : (hi = none ∧ b = s.size) ∨ ∃ o k, hi = some o ∧ evA N ⟨t, h⟩ o = .d (.v (.int k b))) (h1 : T xt = some ti) (h2 : ti.desc = .string) : Pure1 P N ⟨some d, .slice xt x lo hi none, ty, pos, aft, g⟩ ⟨t, h⟩ (.d (.v (.string (s.extract a.toNat b.toNat)))) := fun w F μ hh ρ st => by
  have e1 := rep_v (by have := st x (by simp [Op.operands]); rw [hx] at this; exact this)
  have hu := (hT _ _ h1).1
  rw [h2] at hu
  obtain ⟨q0, q1, q2⟩ := hab
  refine ⟨.string (s.extract a.toNat b.toNat), ?_, .d _ _ (.v _ rfl)⟩
  rcases hlo with ⟨rfl, rfl⟩ | ⟨o1, k1, rfl, g1⟩ <;> rcases hhi with ⟨rfl, rfl⟩ | ⟨o2, k2, rfl, g2⟩
  · simp [execOp, Instr.sliceAt, Instr.slice, Instr.sliceBounds, e1, run_underlying hu]
  · have f2 := rep_v (by have := st o2 (by simp [Op.operands]); rw [g2] at this; exact this)
    simp [execOp, Instr.sliceAt, Instr.slice, Instr.sliceBounds, Instr.sliceBound, e1, f2, asIntOf, run_underlying hu, q1, q2]
  · have f1 := rep_v (by have := st o1 (by simp [Op.operands]); rw [g1] at this; exact this)
    simp [execOp, Instr.sliceAt, Instr.slice, Instr.sliceBounds, Instr.sliceBound, e1, f1, asIntOf, run_underlying hu, q0, q1]
  · have f1 := rep_v (by have := st o1 (by simp [Op.operands]); rw [g1] at this; exact this)
    have f2 := rep_v (by have := st o2 (by simp [Op.operands]); rw [g2] at this; exact this)
    have q3 : 0 ≤ b := by omega
    simp [execOp, Instr.sliceAt, Instr.slice, Instr.sliceBounds, Instr.sliceBound, e1, f1, f2, asIntOf, run_underlying hu, q0, q1, q2, q3]
    try omega
/-- a part of a slice by value -/
theorem pu_lsub {α : Type} (hT : TOk P T) {c : α → List DV} {es : List α} {lo hi : Option Operand} {e : TypeId} {ti ei : TI} (hab : 0 ≤ a ∧ a ≤ b ∧ b ≤ es.length) (hx : evA N ⟨t, h⟩ x = .d (.sl (es.map c))) (hlo : (lo = none ∧ a = 0) ∨ ∃ o k, lo = some o ∧ evA N ⟨t, h⟩ o = .d (.v (.int k a)))
    (hhi : (hi = none ∧ b = es.length) ∨ ∃ o k, hi = some o ∧ evA N ⟨t, h⟩ o = .d (.v (.int k b))) (h1 : T xt = some ti) (h2 : ti.desc = .slice e) (h3 : T e = some ei) (hcl : ∀ u, (c u).length = ei.size) :
    Pure1 P N ⟨some d, .slice xt x lo hi none, ty, pos, aft, g⟩ ⟨t, h⟩ (.d (.sl ((subL es a b).map c))) := fun w F μ hh ρ st => by
  have hr := st x (by simp [Op.operands])
  rw [hx] at hr
  have hu := (hT _ _ h1).1
  rw [h2] at hu
  obtain ⟨q0, q1, q2⟩ := hab
  generalize hvx : ρ x = vx at hr
  cases hr with | d _ _ hd =>
  -- what the operation comes to
  have run : ∀ (A : Option Addr) (n cc : Nat), n = es.length → n ≤ cc → vx = .slice A n cc →
      (execOp ρ ⟨some d, .slice xt x lo hi none, ty, pos, aft, g⟩).run P w = .ok (.value (.slice (if cc = a.toNat then A else A.map (·.add (a.toNat * ei.size))) (b.toNat - a.toNat) (cc - a.toNat))) w := by
    intro A n cc hn hc hv
    subst hn
    have q4 : b ≤ (cc : Int) := by omega
    have q3 : 0 ≤ b := by omega
    rcases hlo with ⟨rfl, rfl⟩ | ⟨o1, k1, rfl, g1⟩ <;> rcases hhi with ⟨rfl, rfl⟩ | ⟨o2, k2, rfl, g2⟩
    · simp [execOp, Instr.sliceAt, Instr.slice, Instr.sliceBounds, hvx, hv, run_underlying hu, run_sizeOf hT h3]
    · have f2 := rep_v (by have := st o2 (by simp [Op.operands]); rw [g2] at this; exact this)
      simp [execOp, Instr.sliceAt, Instr.slice, Instr.sliceBounds, Instr.sliceBound, hvx, hv, f2, asIntOf, run_underlying hu, run_sizeOf hT h3, q3, q4]
    · have f1 := rep_v (by have := st o1 (by simp [Op.operands]); rw [g1] at this; exact this)
      simp [execOp, Instr.sliceAt, Instr.slice, Instr.sliceBounds, Instr.sliceBound, hvx, hv, f1, asIntOf, run_underlying hu, run_sizeOf hT h3, q0, q1]
    · have f1 := rep_v (by have := st o1 (by simp [Op.operands]); rw [g1] at this; exact this)
      have f2 := rep_v (by have := st o2 (by simp [Op.operands]); rw [g2] at this; exact this)
      have q5 : a.toNat ≤ b.toNat := by omega
      simp [execOp, Instr.sliceAt, Instr.slice, Instr.sliceBounds, Instr.sliceBound, hvx, hv, f1, f2, asIntOf, run_underlying hu, run_sizeOf hT h3, q0, q1, q3, q4, q5]
      intro hlt; omega
  have hlen : (subL es a b).length = b.toNat - a.toNat := by unfold subL; simp; omega
  generalize hds : es.map c = ds at hd
  cases hd with
  | nil =>
    have : es = [] := List.map_eq_nil_iff.1 hds
    subst this
    simp at q2
    have e1 : a = 0 := by omega
    have e2 : b = 0 := by omega
    subst e1 e2
    refine ⟨_, run none 0 0 rfl (Nat.le_refl _) rfl, ?_⟩
    simp [subL]
    exact .d _ _ .nil
  | emp A cc hm =>
    have : es = [] := List.map_eq_nil_iff.1 hds
    subst this
    simp at q2
    have e1 : a = 0 := by omega
    have e2 : b = 0 := by omega
    subst e1 e2
    refine ⟨_, run A 0 cc rfl (Nat.zero_le _) rfl, ?_⟩
    simp only [subL, List.drop_nil, List.take_nil, List.map_nil]
    exact .d _ _ (.emp _ _ (by omega))
  | sl bk off cc sz es' gg hF hc hm hz hg hr =>
    subst hds
    refine ⟨_, run _ _ cc (by simp) hc rfl, ?_⟩
    by_cases hempty : b.toNat - a.toNat = 0
    · have : subL es a b = [] := List.eq_nil_of_length_eq_zero (by omega)
      rw [this, hempty]
      exact .d _ _ (.emp _ _ (by omega))
    · have hl : 0 < es.length := by omega
      have hsz : sz = ei.size := by
        have := hz 0 (c es[0]) (by simp [hl])
        rw [hcl] at this; omega
      have hne : ¬ cc = a.toNat := by
        have : (es.map c).length = es.length := by simp
        omega
      rw [if_neg hne]
      have hget : ∀ (q : Nat) e, ((subL es a b).map c)[q]? = some e → (es.map c)[a.toNat + q]? = some e := fun q e he => by
        obtain ⟨u, hu', rfl⟩ := by simpa using he
        refine map_at ?_
        unfold subL at hu'
        rw [List.getElem?_take] at hu'
        split at hu'
        · rw [List.getElem?_drop] at hu'; exact hu'
        · cases hu'
      have hl2 : ((subL es a b).map c).length = b.toNat - a.toNat := by simp [hlen]
      rw [← hl2]
      have e3 : (Option.map (fun x => x.add (a.toNat * ei.size)) (some (⟨bk, off, none⟩ : Addr))) = some ⟨bk, off + a.toNat * ei.size, none⟩ := by simp [addr_add]
      rw [e3]
      refine .d _ _ (.sl bk _ _ sz _ (fun q j => gg (a.toNat + q) j) hF ?_ (by omega) (fun q e he => hz _ e (hget q e he)) (fun q e j v he hv => ?_) (fun q e j v he hv => hr _ e j v (hget q e he) hv))
      · have : (es.map c).length = es.length := by simp
        omega
      · have := hg _ e j v (hget q e he) hv
        rw [← this, hsz]
        congr 2
        rw [Nat.add_mul]; omega

/-! weakening, freezing, returning -/
theorem wk {t' : Nat → AV} {ss : List Slot} (ks : List Nat) (hnd : ks.Nodup := by decide) (hlt : ∀ k ∈ ks, k < 300 := by decide) (h3 : (List.range L).all (fun p => nameL ks 300 p == p) = true := by decide)
    (hB : Abv h 300 := by repeat (first | exact abv_nil _ | exact abv_lks rfl | refine abv_upd ?_ rfl))
    (wt : WT (nameL ks 300) t t' := by repeat (first | exact WT.nil | refine WT.free_ rfl (by exact rfl) ?_ | refine WT.ren_ (r' := _) rfl (by repeat (first | exact RenRL.nil | apply RenRL.cons | exact RenR.d _ | apply RenR.agg | apply RenR.tup | exact RenR.own _ _ _ _ rfl | exact RenR.of_own (by first | rfl | (simp; done) | omega | (simp; omega)) rfl | exact RenR.ptr _ _ _ _ _ _ rfl | exact RenR.ref _ | apply RenR.fn | exact RenR.dead)) ?_))
    (wh : AtK (nameL ks 300) h ks ss := by repeat (first | exact AtK.nil | refine AtK.data_ (by exact rfl) ?_ | (apply AtK.cons rfl; (first | exact RenS.no | exact RenS.dead | exact RenS.data _ _ _ | exact RenS.nest rfl | exact RenS.fam | (apply RenS.box; (repeat (first | exact RenRL.nil | apply RenRL.cons | exact RenR.d _ | apply RenR.agg | apply RenR.tup | exact RenR.own _ _ _ _ rfl | exact RenR.of_own (by first | rfl | (simp; done) | omega | (simp; omega)) rfl | exact RenR.ptr _ _ _ _ _ _ rfl | exact RenR.ref _ | apply RenR.fn | exact RenR.dead))) | exact RenS.gen _)))) : Weak L N ⟨t, h⟩ ⟨t', lks ss⟩ := wk_of ks 300 hnd hlt h3 hB wt wh
theorem fz_r {k : Nat} {ty : TypeId} {sz : Nat} {es : List (List DV)} {t' : Nat → AV} (hk : h k = .live [⟨ty, sz, .data es⟩]) (z : FzL k (some es) none h h')
    (zt : FzT k (some es) none t t' := by repeat (first | exact FzT.nil | refine FzT.upd rfl (by repeat (first | exact FzRL.nil | apply FzRL.cons | exact FzR.own rfl (by first | rfl | (simp; done) | (simp; omega)) | exact FzR.d _ | exact FzR.own' | exact FzR.ptr' | exact FzR.ref _ | apply FzR.agg | apply FzR.tup | apply FzR.fn | exact FzR.dead _)) ?_)) : Weak L N ⟨t, h⟩ ⟨t', h'⟩ := weak_fz (fz_rows hk z) zt
theorem fz_b {k : Nat} {ty : TypeId} {sz : Nat} {cells : List AV} {ds : List DV} {t' : Nat → AV} (hk : h k = .live [⟨ty, sz, .av [cells]⟩]) (z : FzL k none (some ds) h h') (hd : AllD cells ds := by repeat (first | exact AllD.nil | apply AllD.cons))
    (zt : FzT k none (some ds) t t' := by repeat (first | exact FzT.nil | refine FzT.upd rfl (by repeat (first | exact FzRL.nil | apply FzRL.cons | exact FzR.ptr rfl (by repeat (first | exact Drp.z _ | apply Drp.d)) | exact FzR.d _ | exact FzR.own' | exact FzR.ptr' | exact FzR.ref _ | apply FzR.agg | apply FzR.tup | apply FzR.fn | exact FzR.dead _)) ?_)) : Weak L N ⟨t, h⟩ ⟨t', h'⟩ := weak_fz (fz_box hk hd z) zt
theorem rt_n {r : AV} (ho : ops[i]? = some ⟨none, op, ty, pos, aft, g⟩) (hw : Want N ops ⟨none, op, ty, pos, aft, g⟩ ⟨t, h⟩) (hp : Heavy1 P N ⟨none, op, ty, pos, aft, g⟩ ⟨t, h⟩ r h' ∧ ∀ k, h k ≠ .no → h' k = h k) (k : RT P N ops is (fun l σ' => K ((i, .wr) :: l) σ') ⟨t, h'⟩) : RT P N ops (i :: is) K ⟨t, h⟩ := rt_w0 ho hw hp.1 k
theorem c_callP (ks : List Nat) (B : Nat) {f : FuncId} {x : Operand} {args : Array Operand} {at_ : Array TypeId} {caps as as' : List AV} {hin hout : List Slot} {r r' : AV} (hF : FnC P f hin as hout r) (hx : evA N ⟨t, h⟩ x = .fn f caps) (ha : evL N ⟨t, h⟩ args.toList ++ caps = as')
    (har : RenRL (nameL ks B) as as' := by repeat (first | exact RenRL.nil | apply RenRL.cons | exact RenR.d _ | apply RenR.agg | apply RenR.tup | exact RenR.own _ _ _ _ rfl | exact RenR.of_own (by first | rfl | (simp; done) | omega | (simp; omega)) rfl | exact RenR.ptr _ _ _ _ _ _ rfl | exact RenR.ref _ | apply RenR.fn | exact RenR.dead))
    (hB : Abv h B := by repeat (first | exact abv_nil _ | exact abv_lks rfl | refine abv_upd ?_ rfl)) (hnd : ks.Nodup := by decide) (hlt : ∀ k ∈ ks, k < B := by decide)
    (hk : AtK (nameL ks B) h ks hin := by repeat (first | exact AtK.nil | refine AtK.data_ (by exact rfl) ?_ | (apply AtK.cons rfl; (first | exact RenS.no | exact RenS.dead | exact RenS.data _ _ _ | exact RenS.nest rfl | exact RenS.fam | (apply RenS.box; (repeat (first | exact RenRL.nil | apply RenRL.cons | exact RenR.d _ | apply RenR.agg | apply RenR.tup | exact RenR.own _ _ _ _ rfl | exact RenR.ptr _ _ _ _ _ _ rfl | exact RenR.ref _ | apply RenR.fn | exact RenR.dead))) | exact RenS.gen _))))
    (hb : UpdR (nameL ks B) h ks hout h' := by repeat (first | exact UpdR.nil _ | (apply UpdR.cons; (first | exact RenS.no | exact RenS.dead | exact RenS.data _ _ _ | exact RenS.nest rfl | exact RenS.fam | (apply RenS.box; (repeat (first | exact RenRL.nil | apply RenRL.cons | exact RenR.d _ | apply RenR.agg | apply RenR.tup | exact RenR.own _ _ _ _ rfl | exact RenR.ptr _ _ _ _ _ _ rfl | exact RenR.ref _ | apply RenR.fn | exact RenR.dead))) | exact RenS.gen _))))
    (hr : RenR (nameL ks B) r r' := by repeat (first | exact RenRL.nil | apply RenRL.cons | exact RenR.d _ | apply RenR.agg | apply RenR.tup | exact RenR.own _ _ _ _ rfl | exact RenR.ptr _ _ _ _ _ _ rfl | exact RenR.ref _ | apply RenR.fn | exact RenR.dead)) :
    Heavy1 P N ⟨dst, .call ⟨.value x, args, at_⟩, ty, pos, aft, g⟩ ⟨t, h⟩ r' h' := wr_callP ks B hx ha har hF hB hnd hlt hk hb hr
theorem ret0_ {fn : Func} {rs : List ResultVar} {as : List AV} {r : AV} (hrs : fn.results.toList = rs)
    (R : ResR T N ⟨t, h⟩ rs as := by repeat (first | exact ResR.nil | apply ResR.tmp (a := .d _) rfl | apply ResR.tmp (a := .own _ _ _) rfl | apply ResR.tmp (a := .agg _) rfl | apply ResR.tmp (a := .ref _) rfl | apply ResR.tmp (a := .ptr _ _ _ _ _) rfl | apply ResR.cell1 rfl rfl rfl rfl (by first | rfl) (by first | rfl) rfl | apply ResR.cellN rfl rfl rfl rfl (by first | rfl) (by first | rfl) (by repeat (first | exact Seg.z _ | apply Seg.t | apply Seg.d))))
    (hB : Abv h 300 := by repeat (first | exact abv_nil _ | exact abv_lks rfl | refine abv_upd ?_ rfl)) (e : resA as = r := by rfl) (hf : r.free = true := by rfl) : RetOk T N fn 0 [] r ⟨t, h⟩ := ret0 300 hrs R hB hf e
theorem retK_ {fn : Func} {rs : List ResultVar} {as : List AV} {r : AV} {hout : List Slot} (ks : List Nat) (hrs : fn.results.toList = rs)
    (R : ResR T N ⟨t, h⟩ rs as := by repeat (first | exact ResR.nil | apply ResR.tmp (a := .d _) rfl | apply ResR.tmp (a := .own _ _ _) rfl | apply ResR.tmp (a := .agg _) rfl | apply ResR.tmp (a := .ref _) rfl | apply ResR.tmp (a := .ptr _ _ _ _ _) rfl | apply ResR.cell1 rfl rfl rfl rfl (by first | rfl) (by first | rfl) rfl | apply ResR.cellN rfl rfl rfl rfl (by first | rfl) (by first | rfl) (by repeat (first | exact Seg.z _ | apply Seg.t | apply Seg.d))))
    (hB : Abv h 300 := by repeat (first | exact abv_nil _ | exact abv_lks rfl | refine abv_upd ?_ rfl)) (hnd : ks.Nodup := by decide) (hlt : ∀ k ∈ ks, k < 300 := by decide)
    (hk : AtK (nameL ks 300) h ks hout := by repeat (first | exact AtK.nil | refine AtK.data_ (by exact rfl) ?_ | (apply AtK.cons rfl; (first | exact RenS.no | exact RenS.dead | exact RenS.data _ _ _ | exact RenS.nest rfl | exact RenS.fam | exact RenS.gen _))))
    (e : RenR (nameL ks 300) r (resA as) := by repeat (first | exact RenRL.nil | apply RenRL.cons | exact RenR.d _ | apply RenR.agg | apply RenR.tup | exact RenR.own _ _ _ _ rfl | exact RenR.of_own (by first | rfl | (simp; done) | omega | (simp; omega)) rfl | exact RenR.ptr _ _ _ _ _ _ rfl | exact RenR.ref _ | apply RenR.fn | exact RenR.dead)) : RetOk T N fn 0 hout r ⟨t, h⟩ := retK ks 300 hrs R hB hnd hlt hk e.eq_
theorem retP_ {fn : Func} {rs : List ResultVar} {as : List AV} {r : AV} {hout : List Slot} (m : Nat) (hm : Nat.beq hout.length m = true) (hrs : fn.results.toList = rs)
    (R : ResR T N ⟨t, h⟩ rs as := by repeat (first | exact ResR.nil | apply ResR.tmp (a := .d _) rfl | apply ResR.tmp (a := .own _ _ _) rfl | apply ResR.tmp (a := .agg _) rfl | apply ResR.tmp (a := .ref _) rfl | apply ResR.tmp (a := .ptr _ _ _ _ _) rfl | apply ResR.cell1 rfl rfl rfl rfl (by first | rfl) (by first | rfl) rfl | apply ResR.cellN rfl rfl rfl rfl (by first | rfl) (by first | rfl) (by repeat (first | exact Seg.z _ | apply Seg.t | apply Seg.d))))
    (hB : Abv h 300 := by repeat (first | exact abv_nil _ | exact abv_lks rfl | refine abv_upd ?_ rfl)) (hlt : Nat.blt m 300 = true := by rfl)
    (hk : AtK (nameL (List.range m) 300) h (List.range m) hout := by repeat (first | exact AtK.nil | refine AtK.data_ (by exact rfl) ?_ | (apply AtK.cons rfl; (first | exact RenS.no | exact RenS.dead | exact RenS.data _ _ _ | exact RenS.nest rfl | exact RenS.fam | (apply RenS.box; (repeat (first | exact RenRL.nil | apply RenRL.cons | exact RenR.d _ | apply RenR.agg | apply RenR.tup | exact RenR.own _ _ _ _ rfl | exact RenR.ptr _ _ _ _ _ _ rfl | exact RenR.ref _ | apply RenR.fn | exact RenR.dead))) | exact RenS.gen _))))
    (e : RenR (nameL (List.range m) 300) r (resA as) := by repeat (first | exact RenRL.nil | apply RenRL.cons | exact RenR.d _ | apply RenR.agg | apply RenR.tup | exact RenR.own _ _ _ _ rfl | exact RenR.ptr _ _ _ _ _ _ rfl | exact RenR.ref _ | apply RenR.fn | exact RenR.dead)) : RetOk T N fn m hout r ⟨t, h⟩ := retP m 300 hm hrs R hB hlt hk e.eq_
end
end Go.Proofs.YtjhadibjjldpdaaGreat
