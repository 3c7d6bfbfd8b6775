/- An abstract machine, N: calls that write the caller's memory; strings, numbers; from contracts to statements. No program. -/
import Derived.Test.YtjhadibjjldpdaaGreatAmM
import Derived.Laws.Concat
import Derived.Laws.Strings
namespace Go.Proofs.YtjhadibjjldpdaaGreat
open Go.RowKit
set_option linter.unusedVariables false
set_option maxRecDepth 100000
theorem map_at {α β : Type} {f : α → β} {xs : List α} {k : Nat} {x : α} (h : xs[k]? = some x) : (xs.map f)[k]? = some (f x) := by simp [h]
theorem data_get {es : List (List DV)} {k : Nat} {e : List DV} (h : es[k]? = some e) : (Cells.data es).get k = some (e.map .d) := by simp [Cells.get, h]
section
variable {P : Program} {T : Tab} {L N : Nat} {ops : Array Oper} {E : Env} {F : Nat → Prop} {μ : Places} {w : World} {i : Nat} {is : List Nat} {t : Nat → AV} {h h' hc : Heap} {ι : Nat → Nat} {d : Tmp} {dst : Option Tmp} {op : Op} {ty : TypeId} {pos : String} {aft : Array Edge} {g : Option (Nat × Bool)}

inductive UpdR (ι : Nat → Nat) : Heap → List Nat → List Slot → Heap → Prop
  | nil (h : Heap) : UpdR ι h [] [] h
  | cons {h h' : Heap} {k : Nat} {s s' : Slot} {ks : List Nat} {ss : List Slot} (hs : RenS ι s s') (q : UpdR ι (upd h k s') ks ss h') : UpdR ι h (k :: ks) (s :: ss) h'
theorem UpdR.other {ks : List Nat} {ss : List Slot} (u : UpdR ι h ks ss h') (k : Nat) (hk : k ∉ ks) : h' k = h k := by
  induction u with
  | nil => rfl
  | cons hs q ih =>
    simp only [List.mem_cons, not_or] at hk
    rw [ih hk.2, upd_ne _ _ hk.1]
theorem UpdR.at_ {ks : List Nat} {ss : List Slot} (u : UpdR ι h ks ss h') (hnd : ks.Nodup) : ks.length = ss.length ∧ ∀ (p : Nat) k s, ks[p]? = some k → ss[p]? = some s → h' k = s.ren ι := by
  induction u with
  | nil => exact ⟨rfl, fun p k s h => by simp at h⟩
  | cons hs q ih =>
    obtain ⟨h1, h2⟩ := List.nodup_cons.1 hnd
    obtain ⟨a1, a2⟩ := ih h2
    refine ⟨by simp [a1], fun p k s hp1 hp2 => ?_⟩
    cases p with
    | zero => simp at hp1 hp2; subst hp1 hp2; rw [q.other _ h1, upd_same, hs.eq_]
    | succ p => simp at hp1 hp2; exact a2 p k s hp1 hp2
/-- the callee's view of what it is handed -/
theorem HInv.hand {gl : Glob F w} (H : HInv E F μ h w) (hι : ∀ p q, ι p = ι q → p = q) (R : Ren ι (fun p f => μ (ι p) f) hc μ h) : HInv ⟨w, F, fun p f => μ (ι p) f, hc, gl⟩ F (fun p f => μ (ι p) f) hc w := by
  have up : ∀ {p f o}, lv hc p f = some o → lv h (ι p) f = some (o.ren ι) := fun hl => by rw [R.lv_, hl]; rfl
  refine ⟨fun k f o hl => (H.ob _ _ _ (up hl)).unren R, fun k f o k' f' o' b h1 h2 m1 m2 => ?_, fun k f o b hl hm => H.sep _ _ _ b (up hl) hm, fun k f o b hl hm => .inl ⟨k, f, o, hl, hm⟩, H.fz, fun b hb => .inl hb, Evo.refl_, rfl, rfl, rfl, Nat.le_refl _, fun _ _ _ => rfl⟩
  obtain ⟨e1, e2⟩ := H.inj _ _ _ _ _ _ b (up h1) (up h2) m1 m2
  exact ⟨hι _ _ e1, e2⟩
theorem RenRL.get {as bs : List AV} (r : RenRL ι as bs) : bs = AV.renL ι as := r.eq_
open Classical in
/-- a call that is handed own objects, by the keys ks -/
theorem wr_callP (ks : List Nat) (B : Nat) {f : FuncId} {x : Operand} {args : Array Operand} {at_ : Array TypeId} {caps as as' : List AV} {hin hout : List Slot} {r r' : AV} (hx : evA N ⟨t, h⟩ x = .fn f caps) (ha : evL N ⟨t, h⟩ args.toList ++ caps = as') (har : RenRL (nameL ks B) as as') (hF : FnC P f hin as hout r)
    (hB : Abv h B) (hnd : ks.Nodup) (hlt : ∀ k ∈ ks, k < B) (hk : AtK (nameL ks B) h ks hin) (hb : UpdR (nameL ks B) h ks hout h') (hr : RenR (nameL ks B) r r') : Heavy1 P N ⟨dst, .call ⟨.value x, args, at_⟩, ty, pos, aft, g⟩ ⟨t, h⟩ r' h' := fun E F μ w ρ H st => by
  obtain ⟨cap, c1, c2, c3⟩ := args_rep st hx
  rw [call_run hF.c c1]
  rw [ha] at c2 c3
  have R := hk.ren_ (μ := μ) hB
  have inj := nameL_inj hnd hlt
  refine (hF.g w F (fun p f => μ (nameL ks B p) f) _ H.glob (H.hand inj R) (by rw [c2, har.eq_, renL_len]) fun i v a h1 h2 => ?_).mono ?_
  · have h3 : as'[i]? = some (a.ren (nameL ks B)) := by rw [har.eq_, renL_get, h2]; rfl
    exact (c3 i v _ h1 h3).unren R a rfl
  · rintro e w' ⟨v, F', μ1, rfl, H1, hv⟩
    obtain ⟨u1, u2⟩ := hb.at_ hnd
    have inks : ∀ p, p < ks.length → nameL ks B p ∈ ks := fun p hp => by
      have : nameL ks B p = ks[p] := by unfold nameL; rw [List.getElem?_eq_getElem hp]
      rw [this]; exact List.getElem_mem hp
    have hi : ∀ p, ks.length ≤ p → nameL ks B p = B + p := fun p hp => by unfold nameL; rw [List.getElem?_eq_none hp]
    have R1 : Ren (nameL ks B) μ1 (lks hout) (fun k f => if ∃ p, k = nameL ks B p then μ1 (if hk : ∃ p, k = nameL ks B p then hk.choose else 0) f else μ k f) h' := by
      refine ⟨fun p => ?_, fun p f => ?_⟩
      · unfold lks
        rw [List.getD_eq_getElem?_getD]
        rcases Nat.lt_or_ge p ks.length with hp | hp
        · have e1 : nameL ks B p = ks[p] := by unfold nameL; rw [List.getElem?_eq_getElem hp]
          rw [e1, u2 p _ _ (List.getElem?_eq_getElem hp) (List.getElem?_eq_getElem (show p < hout.length by omega)), List.getElem?_eq_getElem (show p < hout.length by omega)]; rfl
        · rw [hi p hp, hb.other _ (fun hm => by have := hlt _ hm; omega), hB _ (by omega), List.getElem?_eq_none (show hout.length ≤ p by omega)]; rfl
      · have hex : ∃ q, nameL ks B p = nameL ks B q := ⟨p, rfl⟩
        rw [if_pos hex, dif_pos hex, inj _ _ hex.choose_spec.symm]
    have hoth : ∀ k, (∀ p, k ≠ nameL ks B p) → h' k = h k := fun k hk => hb.other k fun hm => by
      obtain ⟨p, hp, e⟩ := List.mem_iff_getElem.1 hm
      refine hk p ?_
      unfold nameL
      rw [List.getElem?_eq_getElem hp, e]
    obtain ⟨J1, J2⟩ := H.join inj R H1 R1 (fun k hk => ⟨hoth k hk, fun f => by rw [if_neg (fun ⟨p, hp⟩ => hk p hp)]⟩)
    exact ⟨v, rfl, F', _, J1, J2, by rw [hr.eq_]; exact hv.ren R1⟩

/-! a contract whose callee gets objects: the result speaks of their keys -/
theorem retP {fn : Func} {rs : List ResultVar} {as : List AV} {r : AV} {hout : List Slot} (m B : Nat) (hm : Nat.beq hout.length m = true) (hrs : fn.results.toList = rs) (R : ResR T N ⟨t, h⟩ rs as) (hB : Abv h B) (hlt : Nat.blt m B = true) (hk : AtK (nameL (List.range m) B) h (List.range m) hout) (e : resA as = r.ren (nameL (List.range m) B)) : RetOk T N fn m hout r ⟨t, h⟩ := by
  have hml := blt_lt hlt
  refine ⟨rs, as, _, List.range m, B, hrs, R, rfl, List.nodup_range, fun k hk => ?_, fun p hp => ?_, hB, hk, e⟩
  · have := List.mem_range.1 hk; omega
  · unfold nameL; rw [List.getElem?_range hp]

/-! strings and others -/
section ints
variable {xt yt : TypeId} {x y : Operand}
theorem pu_cat {a b : ByteArray} (hx : evA N ⟨t, h⟩ x = .d (.v (.string a))) (hy : evA N ⟨t, h⟩ y = .d (.v (.string b))) (hs : a.size + b.size ≤ 9223372036854775807) : Pure1 P N ⟨some d, .binOp .add xt x y yt, ty, pos, aft, g⟩ ⟨t, h⟩ (.d (.v (.string (a ++ b)))) :=
  pu_bin (by rw [hx]; rfl) (by rw [hy]; rfl) fun w => by
    have : ¬ (9223372036854775807 : Int) < (a.size : Int) + (b.size : Int) := by omega
    simp [eqGuard, binOp, Op.stringOp, this]
theorem bytes_eq (a b : ByteArray) : (a.toList == b.toList) = decide (a = b) := by
  by_cases e : a = b
  · subst e; simp
  · rw [decide_eq_false e, beq_eq_false_iff_ne]
    rw [ByteArray.toList_eq, ByteArray.toList_eq]
    intro h
    apply e
    cases a; cases b; simp at h; simp [h]
theorem bytes_inj (a b : ByteArray) : (a.toList = b.toList) = (a = b) := by
  apply propext
  constructor
  · intro e
    have := bytes_eq a b
    rw [e] at this
    simpa using this.symm
  · intro e; rw [e]
theorem pu_seql {a b : ByteArray} (hx : evA N ⟨t, h⟩ x = .d (.v (.string a))) (hy : evA N ⟨t, h⟩ y = .d (.v (.string b))) : Pure1 P N ⟨some d, .binOp .eql xt x y yt, ty, pos, aft, g⟩ ⟨t, h⟩ (.d (.v (.bool (decide (a = b))))) :=
  pu_bin (by rw [hx]; rfl) (by rw [hy]; rfl) fun w => by simp [eqGuard, binOp, Op.stringOp, bytes_eq]
theorem pu_sneq {a b : ByteArray} (hx : evA N ⟨t, h⟩ x = .d (.v (.string a))) (hy : evA N ⟨t, h⟩ y = .d (.v (.string b))) : Pure1 P N ⟨some d, .binOp .neq xt x y yt, ty, pos, aft, g⟩ ⟨t, h⟩ (.d (.v (.bool (decide (a ≠ b))))) :=
  pu_bin (by rw [hx]; rfl) (by rw [hy]; rfl) fun w => by simp [eqGuard, binOp, Op.stringOp, bytes_eq]
theorem pu_beql (hT : TOk P T) {a b : Bool} {ti : TI} (hx : evA N ⟨t, h⟩ x = .d (.v (.bool a))) (hy : evA N ⟨t, h⟩ y = .d (.v (.bool b))) (h1 : T xt = some ti) (h2 : ti.desc = .bool) : Pure1 P N ⟨some d, .binOp .eql xt x y yt, ty, pos, aft, g⟩ ⟨t, h⟩ (.d (.v (.bool (a == b)))) :=
  pu_bin (by rw [hx]; rfl) (by rw [hy]; rfl) fun w => by
    have hu := (hT _ _ h1).1
    rw [h2] at hu
    have e : ∀ n, (Op.equalIn (n + 1) xt (.bool a) (.bool b)).run P w = .ok (a == b) w := fun n => by simp [Op.equalIn, run_underlying hu]
    have e2 : (Op.equal xt (.bool a) (.bool b)).run P w = .ok (a == b) w := e 9999
    simp [eqGuard, binOp, e2]
theorem pu_bneq (hT : TOk P T) {a b : Bool} {ti : TI} (hx : evA N ⟨t, h⟩ x = .d (.v (.bool a))) (hy : evA N ⟨t, h⟩ y = .d (.v (.bool b))) (h1 : T xt = some ti) (h2 : ti.desc = .bool) : Pure1 P N ⟨some d, .binOp .neq xt x y yt, ty, pos, aft, g⟩ ⟨t, h⟩ (.d (.v (.bool (a != b)))) :=
  pu_bin (by rw [hx]; rfl) (by rw [hy]; rfl) fun w => by
    have hu := (hT _ _ h1).1
    rw [h2] at hu
    have e : ∀ n, (Op.equalIn (n + 1) xt (.bool a) (.bool b)).run P w = .ok (a == b) w := fun n => by simp [Op.equalIn, run_underlying hu]
    have e2 : (Op.equal xt (.bool a) (.bool b)).run P w = .ok (a == b) w := e 9999
    simp [eqGuard, binOp, e2, bne]
theorem pu_min {k : IntKind} {a b : Int} {at_ : Array TypeId} (hx : evA N ⟨t, h⟩ x = .d (.v (.int k a))) (hy : evA N ⟨t, h⟩ y = .d (.v (.int k b))) : Pure1 P N ⟨some d, .call ⟨.builtin .min, #[x, y], at_⟩, ty, pos, aft, g⟩ ⟨t, h⟩ (.d (.v (.int k (min a b)))) := fun w F μ hh ρ st => by
  have h1 := rep_v (by have := st x (by simp [Op.operands, Call.operands]); rw [hx] at this; exact this)
  have h2 := rep_v (by have := st y (by simp [Op.operands, Call.operands]); rw [hy] at this; exact this)
  refine ⟨.int k (min a b), ?_, .d _ _ (.v _ rfl)⟩
  have : (if b < a then b else a) = min a b := by split <;> omega
  simp [execOp, resolve, invoke, builtin, h1, h2, Builtin.min_, Builtin.min2, this]
theorem pu_max {k : IntKind} {a b : Int} {at_ : Array TypeId} (hx : evA N ⟨t, h⟩ x = .d (.v (.int k a))) (hy : evA N ⟨t, h⟩ y = .d (.v (.int k b))) : Pure1 P N ⟨some d, .call ⟨.builtin .max, #[x, y], at_⟩, ty, pos, aft, g⟩ ⟨t, h⟩ (.d (.v (.int k (max a b)))) := fun w F μ hh ρ st => by
  have h1 := rep_v (by have := st x (by simp [Op.operands, Call.operands]); rw [hx] at this; exact this)
  have h2 := rep_v (by have := st y (by simp [Op.operands, Call.operands]); rw [hy] at this; exact this)
  refine ⟨.int k (max a b), ?_, .d _ _ (.v _ rfl)⟩
  have : (if a < b then b else a) = max a b := by split <;> omega
  simp [execOp, resolve, invoke, builtin, h1, h2, Builtin.max_, Builtin.max2, this]
end ints

theorem view_box {k : Nat} {ty : TypeId} {sz : Nat} {cells : List AV} {ds : List DV} (hk : h k = .live [⟨ty, sz, .av [cells]⟩]) (hd : AllD cells ds) : View h (.ptr k 0 1 0 0) (.ref ds) := by
  refine .ptr k 0 1 0 0 ⟨ty, sz, .av [cells]⟩ cells ds (by rw [lv_live hk]; rfl) rfl rfl (by rw [hd.eq_]; simp) fun t c x hc hx => ?_
  rw [hd.eq_, Nat.zero_add, List.getElem?_map, hx] at hc
  simp at hc
  subst hc
  exact .d x
/-- the front of a reference -/
inductive Pre : List DV → List DV → Prop
  | z (l : List DV) : Pre l []
  | t {a : DV} {l r : List DV} (h : Pre l r) : Pre (a :: l) (a :: r)
theorem view_ref {cs ds : List DV} (hp : Pre cs ds) : View h (.ref cs) (.ref ds) := by
  refine .ref cs ds ?_
  induction hp with
  | z l => intro j x hx; simp at hx
  | t k ih =>
    intro j x hx
    cases j with
    | zero => exact hx
    | succ j => exact ih j x hx
/-- a part of a box, all of it data -/
inductive PreA : Nat → List AV → List DV → Prop
  | z (l : List AV) : PreA 0 l []
  | t {x : DV} {l : List AV} {r : List DV} (h : PreA 0 l r) : PreA 0 (.d x :: l) (x :: r)
  | d {o : Nat} {a : AV} {l : List AV} {r : List DV} (h : PreA o l r) : PreA (o + 1) (a :: l) r
theorem PreA.spec {o : Nat} {l : List AV} {r : List DV} (h : PreA o l r) : o + r.length ≤ l.length ∧ ∀ (t : Nat) (c : AV) (x : DV), l[o + t]? = some c → r[t]? = some x → c = .d x := by
  induction h with
  | z l => exact ⟨by simp, fun t c x _ hx => by simp at hx⟩
  | t k ih =>
    refine ⟨by simp; have := ih.1; omega, fun t c x hc hx => ?_⟩
    cases t with
    | zero => simp at hc hx; rw [← hc, hx]
    | succ t => exact ih.2 t c x (by simpa using hc) (by simpa using hx)
  | @d o a l r k ih =>
    refine ⟨by simp; have := ih.1; omega, fun t c x hc hx => ?_⟩
    rw [show o + 1 + t = o + t + 1 by omega, List.getElem?_cons_succ] at hc
    exact ih.2 t c x hc hx
theorem view_part {k j : Nat} {ty : TypeId} {sz : Nat} {cells : List AV} {ds : List DV} (hk : h k = .live [⟨ty, sz, .av [cells]⟩]) (hd : PreA j cells ds) : View h (.ptr k 0 1 0 j) (.ref ds) := by
  refine .ptr k 0 1 0 j ⟨ty, sz, .av [cells]⟩ cells ds (by rw [lv_live hk]; rfl) rfl rfl (by have := hd.spec.1; omega) fun t c x hc hx => ?_
  rw [hd.spec.2 t c x hc hx]
  exact .d x

/-! from a contract to a statement -/
theorem calls_of {f : FuncId} {as : List AV} {hs : List Slot} {b : Value} (hF : FnC P f [] as hs (.d (.v b))) (W : World) (vs : Array Value) (hl : vs.size = as.length) (hr : ∀ (i : Nat) v a, vs[i]? = some v → as[i]? = some a → ARep W (fun b => b < W.heap.size) (fun _ _ => none) (lks []) v a)  (hgl : Glob (fun b => b < W.heap.size) W := by intro x hx; simp [globs] at hx) :
    Calls P f vs W fun e w' => e = .returned b ∧ Below W.heap.size W w' := by
  refine (hF.g W (fun b => b < W.heap.size) (fun _ _ => none) vs hgl (HInv.start fun b hb => hb) hl hr).mono ?_
  rintro e w' ⟨v, F', μ', rfl, H, hv⟩
  rw [rep_v hv]
  exact ⟨rfl, H.os, H.tape, H.output, H.size, fun b hb => H.keep b hb fun ⟨k, f, o, hl, _⟩ => by simp [lv, lks] at hl⟩
end
end Go.Proofs.YtjhadibjjldpdaaGreat
