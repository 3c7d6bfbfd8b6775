/- An abstract machine, M: contracts from bodies; states made weaker. No program. -/
import Derived.Test.YtjhadibjjldpdaaGreatAmL
namespace Go.Proofs.YtjhadibjjldpdaaGreat
open Go.RowKit
set_option linter.unusedVariables false
set_option maxRecDepth 100000
section
variable {P : Program} {T : Tab} {L N : Nat} {ops : Array Oper} {E : Env} {F : Nat → Prop} {μ : Places} {w : World} {i : Nat} {is : List Nat} {t : Nat → AV} {h h' hc : Heap} {ι : Nat → Nat}

theorem ObjRep.unren {μc : Places} (R : Ren ι μc hc μ h) {p : Option Nat} {o : AObj} (r : ObjRep w F μ h p (o.ren ι)) : ObjRep w F μc hc p o := by
  rcases r with ⟨h1, h2⟩ | ⟨b, cur, h1, h2, h3⟩
  · exact .inl ⟨h1, by simpa [AObj.ren, Cells.ren_len] using h2⟩
  · refine .inr ⟨b, cur, h1, h2, fun i cells hi => ?_⟩
    obtain ⟨q1, q2⟩ := h3 i (AV.renL ι cells) (by simp only [AObj.ren, Cells.ren_get, hi, Option.map_some])
    rw [renL_len] at q1
    refine ⟨q1, fun j c hj => ?_⟩
    obtain ⟨u, hu, hr⟩ := q2 j (c.ren ι) (by rw [renL_get, hj]; rfl)
    exact ⟨u, hu, hr.unren R c rfl⟩
/-- fewer names -/
theorem HInv.restrict (H : HInv E F μ h w) (hι : ∀ p q, ι p = ι q → p = q) (R : Ren ι (fun p f => μ (ι p) f) hc μ h) (hid : ∀ p, E.h0 p ≠ .no → ι p = p) : HInv E F (fun p f => μ (ι p) f) hc w := by
  have up : ∀ {p f o}, lv hc p f = some o → lv h (ι p) f = some (o.ren ι) := fun hl => by rw [R.lv_, hl]; rfl
  refine ⟨fun k f o hl => (H.ob _ _ _ (up hl)).unren R, fun k f o k' f' o' b h1 h2 m1 m2 => ?_, fun k f o b hl hm => H.sep _ _ _ b (up hl) hm, fun k f o b hl hm => H.src _ _ _ b (up hl) hm, H.fz, H.fsrc, ⟨H.ev.fr, H.ev.fs, fun p hp => ?_, fun p f o' hp ho' => ?_⟩, H.os, H.tape, H.output, H.size, H.keep⟩
  · obtain ⟨e1, e2⟩ := H.inj _ _ _ _ _ _ b (up h1) (up h2) m1 m2
    exact ⟨hι _ _ e1, e2⟩
  · intro e
    have h1 := (R.no_ p).2 e
    rw [hid p hp] at h1
    exact H.ev.born p hp h1
  · have h1 := up ho'
    rw [hid p hp] at h1
    obtain ⟨o, ho, hx⟩ := H.ev.live p f _ hp h1
    refine ⟨o, ho, ?_⟩
    simp only [hid p hp]
    simpa [AObj.ren, Cells.ren_len] using hx

/-- the name of a result's object: a list, then beyond all -/
def nameL (ks : List Nat) (B : Nat) (p : Nat) : Nat := match ks[p]? with | some k => k | none => B + p
theorem nameL_inj {ks : List Nat} {B : Nat} (hnd : ks.Nodup) (hlt : ∀ k ∈ ks, k < B) : ∀ p q, nameL ks B p = nameL ks B q → p = q := fun p q e => by
  unfold nameL at e
  cases hp : ks[p]? with
  | none =>
    cases hq : ks[q]? with
    | none => rw [hp, hq] at e; have e : B + p = B + q := e; omega
    | some k => rw [hp, hq] at e; have e : B + p = k := e; have := hlt k (List.mem_of_getElem? hq); omega
  | some k =>
    cases hq : ks[q]? with
    | none => rw [hp, hq] at e; have e : k = B + q := e; have := hlt k (List.mem_of_getElem? hp); omega
    | some k' =>
      rw [hp, hq] at e
      have e : k = k' := e
      subst e
      exact (List.getElem?_inj (List.getElem?_eq_some_iff.1 hp).1 hnd).1 (hp.trans hq.symm)
/-- the slots at given keys -/
inductive AtK (ι : Nat → Nat) (h : Heap) : List Nat → List Slot → Prop
  | nil : AtK ι h [] []
  | cons {k : Nat} {s s' : Slot} {ks : List Nat} {ss : List Slot} (hs : h k = s') (hr : RenS ι s s') (q : AtK ι h ks ss) : AtK ι h (k :: ks) (s :: ss)
theorem AtK.spec {ks : List Nat} {ss : List Slot} (a : AtK ι h ks ss) : ks.length = ss.length ∧ ∀ (p : Nat) k s, ks[p]? = some k → ss[p]? = some s → h k = s.ren ι := by
  induction a with
  | nil => exact ⟨rfl, fun p k s h => by simp at h⟩
  | cons hs hr q ih =>
    refine ⟨by simp [ih.1], fun p k s h1 h2 => ?_⟩
    cases p with
    | zero => simp at h1 h2; subst h1 h2; rw [hs, hr.eq_]
    | succ p => simp at h1 h2; exact ih.2 p k s h1 h2
theorem AtK.ren_ {ks : List Nat} {B : Nat} {ss : List Slot} (a : AtK (nameL ks B) h ks ss) (hB : Abv h B) : Ren (nameL ks B) (fun p f => μ (nameL ks B p) f) (lks ss) μ h := by
  refine ⟨fun p => ?_, fun p f => rfl⟩
  obtain ⟨q1, q2⟩ := a.spec
  unfold lks
  rw [List.getD_eq_getElem?_getD]
  cases hp : ks[p]? with
  | none =>
    have : ss[p]? = none := by rw [List.getElem?_eq_none_iff] at hp ⊢; omega
    rw [this]
    have e : nameL ks B p = B + p := by unfold nameL; rw [hp]
    rw [e, hB _ (by omega)]; rfl
  | some k =>
    have hlt : p < ss.length := by have := (List.getElem?_eq_some_iff.1 hp).1; omega
    have e : nameL ks B p = k := by unfold nameL; rw [hp]
    rw [e, q2 p k _ hp (List.getElem?_eq_getElem hlt), List.getElem?_eq_getElem hlt]; rfl

/-- what a body must come to -/
structure RetOk (T : Tab) (N : Nat) (fn : Func) (m : Nat) (hout : List Slot) (r : AV) (σ : AS) : Prop where
  ex : ∃ rs as r' ks B, fn.results.toList = rs ∧ ResR T N σ rs as ∧ resA as = r' ∧ ks.Nodup ∧ (∀ k ∈ ks, k < B) ∧ (∀ p, p < m → nameL ks B p = p) ∧ Abv σ.h B ∧ AtK (nameL ks B) σ.h ks hout ∧ r' = r.ren (nameL ks B)
def retQ (T : Tab) (N : Nat) (fn : Func) (m : Nat) (hout : List Slot) (r : AV) : AExit → AS → Prop
  | .normal, σ => RetOk T N fn m hout r σ
  | .ret, σ => RetOk T N fn m hout r σ
  | _, _ => False
def argT : List AV → Nat → Nat → AV
  | [], _ => fun _ => .dead
  | a :: as, k => updA (argT as (k + 1)) k a
theorem argT_get : ∀ (as : List AV) (k p : Nat), argT as k (k + p) = as.getD p .dead
  | [], k, p => by simp [argT]
  | a :: as, k, 0 => by simp [argT, updA_same]
  | a :: as, k, p + 1 => by
    rw [argT, updA_ne _ _ (by omega), show k + (p + 1) = k + 1 + p by omega, argT_get as (k + 1) p]; simp
theorem argT_at (as : List AV) (t : Nat) : argT as 0 t = as.getD t .dead := by have := argT_get as 0 t; rwa [Nat.zero_add] at this

/-- a contract from the walk of a body -/
theorem fnc_introL (hT : TOk P T) {f : FuncId} {fn : Func} {body : Code} {hin hout : List Slot} {as : List AV} {r : AV} (hf : P.funcs[f]? = some fn) (hb : fn.body = some body) (hN : fn.ntmps = N) (hc : callB P f = true) (hl : Nat.ble as.length N = true) (hm : Nat.ble hin.length L = true)
    (hw : AW L P N body (retQ T N fn hin.length hout r) ⟨argT as 0, lks hin⟩) : FnC P f hin as hout r := by
  refine ⟨hc, fun w F μ vs gl H hs hr => ?_⟩
  have hle := Nat.le_of_ble_eq_true hl
  refine calls_of_wp hf hb (wp_mono (hw ⟨w, F, μ, lks hin, gl⟩ _ w ⟨F, μ, H, rfl, ?_, fun t ht => ?_, fun p hp => ?_⟩) fun e a w' q => ?_)
  · simp [hN]; omega
  · simp only
    rw [argT_at]
    rcases Nat.lt_or_ge t as.length with hlt | hge
    · have h1 : as.getD t .dead = as[t] := by simp [List.getD, hlt]
      have h2 : (vs ++ Array.replicate (fn.ntmps - vs.size) undef).getD t undef = vs[t]'(by omega) := by
        have : t < vs.size := by omega
        simp [Array.getElem?_append, this]
      rw [h1, h2]
      exact hr t _ _ (Array.getElem?_eq_getElem (by omega)) (List.getElem?_eq_getElem hlt)
    · have h1 : as.getD t .dead = .dead := by simp [List.getD, List.getElem?_eq_none hge]
      rw [h1]
      exact .dead _
  · have := Nat.le_of_ble_eq_true hm
    show lks hin p = .no
    unfold lks
    simp [List.getD, List.getElem?_eq_none (show hin.length ≤ p by omega)]
  · have fin : ∀ σ, Abs L ⟨w, F, μ, lks hin, gl⟩ N σ a w' → RetOk T N fn hin.length hout r σ → a.defers = [] ∧ ∃ v, (results fn a.tmps).run P w' = .ok v w' ∧
        (∃ v' F' μ', Ending.returned v = .returned v' ∧ HInv ⟨w, F, μ, lks hin, gl⟩ F' μ' (lks hout) w' ∧ ARep w' F' μ' (lks hout) v' r) := by
      rintro σ ⟨F', μ', A⟩ ⟨rs, as', r', ks, B, q1, q2, q3, q4, q5, q6, q7, q8, q9⟩
      obtain ⟨v, hv, hr⟩ := results_run hT q1 q2 A
      have R := q8.ren_ (μ := μ') q7
      refine ⟨A.df, v, hv, v, F', _, rfl, A.H.restrict (nameL_inj q4 q5) R (fun p hp => ?_), ?_⟩
      · refine q6 p ?_
        rcases Nat.lt_or_ge p hin.length with hlt | hge
        · exact hlt
        · exfalso
          apply hp
          show lks hin p = .no
          unfold lks
          simp [List.getD, List.getElem?_eq_none hge]
      · rw [q3] at hr
        exact hr.unren R r q9
    cases e with
    | normal => obtain ⟨σ, A, q⟩ := q; exact fin σ A q
    | ret => obtain ⟨σ, A, q⟩ := q; exact fin σ A q
    | exit i => obtain ⟨σ, A, q⟩ := q; exact q.elim
    | goto l => obtain ⟨σ, A, q⟩ := q; exact q.elim
    | panic c => exact q.elim
    | outgrown => exact q.elim

theorem fnc_intro (hT : TOk P T) {f : FuncId} {fn : Func} {body : Code} {hin hout : List Slot} {as : List AV} {r : AV} (hf : P.funcs[f]? = some fn) (hb : fn.body = some body) (hN : fn.ntmps = N) (hc : callB P f = true) (hl : Nat.ble as.length N = true) (hm : Nat.ble hin.length 3 = true)
    (hw : AW 3 P N body (retQ T N fn hin.length hout r) ⟨argT as 0, lks hin⟩) : FnC P f hin as hout r := fnc_introL (L := 3) hT hf hb hN hc hl hm hw
theorem abv_lks {ss : List Slot} {B : Nat} (hl : Nat.ble ss.length B = true) : Abv (lks ss) B := fun k hk => by
  have := Nat.le_of_ble_eq_true hl
  unfold lks
  simp [List.getD, List.getElem?_eq_none (show ss.length ≤ k by omega)]
mutual
theorem ren_free {ι : Nat → Nat} : ∀ {a : AV}, a.free = true → a.ren ι = a
  | .d _, _ => rfl
  | .agg cs, h => by rw [AV.ren, renL_free (by simpa [AV.free] using h)]
  | .tup cs, h => by rw [AV.ren, renL_free (by simpa [AV.free] using h)]
  | .ref _, _ => rfl
  | .ptr .., h => by simp [AV.free] at h
  | .own .., h => by simp [AV.free] at h
  | .fn _ cs, h => by rw [AV.ren, renL_free (by simpa [AV.free] using h)]
  | .dead, _ => rfl
theorem renL_free {ι : Nat → Nat} : ∀ {l : List AV}, AV.freeL l = true → AV.renL ι l = l
  | [], _ => rfl
  | c :: cs, h => by
    simp [AV.freeL] at h
    rw [AV.renL, ren_free h.1, renL_free h.2]
end
/-- a result of data alone -/
theorem ret0 {fn : Func} {rs : List ResultVar} {as : List AV} {r : AV} (B : Nat) (hrs : fn.results.toList = rs) (R : ResR T N ⟨t, h⟩ rs as) (hB : Abv h B) (hf : r.free = true) (e : resA as = r) : RetOk T N fn 0 [] r ⟨t, h⟩ :=
  ⟨rs, as, r, [], B, hrs, R, e, .nil, fun k hk => (by cases hk), fun p hp => absurd hp (Nat.not_lt_zero p), hB, .nil, (ren_free hf).symm⟩
/-- a result with own objects at the keys ks -/
theorem retK {fn : Func} {rs : List ResultVar} {as : List AV} {r : AV} {hout : List Slot} (ks : List Nat) (B : Nat) (hrs : fn.results.toList = rs) (R : ResR T N ⟨t, h⟩ rs as) (hB : Abv h B) (hnd : ks.Nodup) (hlt : ∀ k ∈ ks, k < B) (hk : AtK (nameL ks B) h ks hout) (e : resA as = r.ren (nameL ks B)) : RetOk T N fn 0 hout r ⟨t, h⟩ :=
  ⟨rs, as, _, ks, B, hrs, R, rfl, hnd, hlt, fun p hp => absurd hp (Nat.not_lt_zero p), hB, hk, e⟩
/-! states made weaker -/
variable {c : Code} {Q : AExit → AS → Prop}
theorem RenR.of_own {ι : Nat → Nat} {k k' f n n' : Nat} (e : n = n') (h : ι k = k') : RenR ι (.own k f n) (.own k' f n') := by subst e; exact .own _ _ _ _ h
theorem RenR.of_d {ι : Nat → Nat} {x : DV} {b : AV} (e : AV.d x = b) : RenR ι (.d x) b := by subst e; exact .d x
/-- slots: as they were (under other names), or forgotten -/
inductive WT (ι : Nat → Nat) (s : Nat → AV) : (Nat → AV) → Prop
  | nil : WT ι s fun _ => .dead
  | upd {t : Nat → AV} {d : Nat} {r r' : AV} (h : s d = r') (hr : r' = r.ren ι) (k : WT ι s t) : WT ι s (updA t d r)
theorem WT.spec {s t : Nat → AV} (wt : WT ι s t) (d : Nat) : s d = (t d).ren ι ∨ t d = .dead := by
  induction wt with
  | nil => exact .inr rfl
  | upd h hr k ih =>
    rename_i t d' r r'
    by_cases e : d = d'
    · subst e; rw [updA_same, h, hr]; exact .inl rfl
    · rw [updA_ne _ _ e]; exact ih
theorem WT.ren_ {s t : Nat → AV} {d : Nat} {r r' : AV} (h : s d = r') (hr : RenR ι r r') (k : WT ι s t) : WT ι s (updA t d r) := .upd h hr.eq_ k
theorem WT.free_ {s t : Nat → AV} {d : Nat} {r : AV} (hf : r.free = true) (h : s d = r) (k : WT ι s t) : WT ι s (updA t d r) := .upd h (ren_free hf).symm k
theorem eqI {a b : Int} (h : a = b) : AV.d (.v (.int .i64 a)) = .d (.v (.int .i64 b)) := by rw [h]
theorem eqB {a b : Bool} (h : a = b) : AV.d (.v (.bool a)) = .d (.v (.bool b)) := by rw [h]
theorem eqS {a b : ByteArray} (h : a = b) : AV.d (.v (.string a)) = .d (.v (.string b)) := by rw [h]
theorem eqSL {a b : List (List DV)} (h : a = b) : AV.d (.sl a) = .d (.sl b) := by rw [h]
theorem eqOwn {k f a b : Nat} (h : a = b) : AV.own k f a = .own k f b := by rw [h]
def upto (m B : Nat) (p : Nat) : Nat := bif Nat.blt p m then p else B + p
theorem upto_lt {m B p : Nat} (h : p < m) : upto m B p = p := by
  have : Nat.blt p m = true := Nat.ble_eq_true_of_le h
  simp [upto, this]
theorem upto_ge {m B p : Nat} (h : m ≤ p) : upto m B p = B + p := by
  have : Nat.blt p m = false := by
    cases e : Nat.blt p m with
    | false => rfl
    | true => have := blt_lt e; omega
  simp [upto, this]
inductive WH (ι : Nat → Nat) (h : Heap) : Nat → List Slot → Prop
  | nil (k : Nat) : WH ι h k []
  | cons {k : Nat} {s s' : Slot} {ss : List Slot} (hs : h k = s') (hr : RenS ι s s') (q : WH ι h (k + 1) ss) : WH ι h k (s :: ss)
theorem WH.spec {k : Nat} {ss : List Slot} (wh : WH ι h k ss) : ∀ (p : Nat) s, ss[p]? = some s → h (k + p) = s.ren ι := by
  induction wh with
  | nil k => intro p s h; simp at h
  | cons hs hr q ih =>
    intro p s hp
    cases p with
    | zero => simp at hp; subst hp; rw [Nat.add_zero, hs, hr.eq_]
    | succ p => simp at hp; have := ih p s hp; rw [show ∀ k : Nat, k + (p + 1) = k + 1 + p by omega]; exact this
theorem WH.data_ {k : Nat} {ty : TypeId} {sz : Nat} {es : List (List DV)} {ss : List Slot} (hs : h k = .live [⟨ty, sz, .data es⟩]) (q : WH ι h (k + 1) ss) : WH ι h k (.live [⟨ty, sz, .data es⟩] :: ss) := .cons hs (.data _ _ _) q
theorem AtK.data_ {k : Nat} {ty : TypeId} {sz : Nat} {es : List (List DV)} {ks : List Nat} {ss : List Slot} (hs : h k = .live [⟨ty, sz, .data es⟩]) (q : AtK ι h ks ss) : AtK ι h (k :: ks) (.live [⟨ty, sz, .data es⟩] :: ss) := .cons hs (.data _ _ _) q
theorem eqData {t z : Nat} {a b : List (List DV)} (h : a = b) : Slot.live [⟨t, z, .data a⟩] = Slot.live [⟨t, z, .data b⟩] := by rw [h]
/-- what came up lately is forgotten -/
theorem weak_of {t' : Nat → AV} {ss : List Slot} (B : Nat) (hB : Abv h B) (hm : Nat.ble ss.length B = true) (wt : WT (upto ss.length B) t t') (wh : WH (upto ss.length B) h 0 ss) (h3 : Nat.ble L ss.length = true) : Weak L N ⟨t, h⟩ ⟨t', lks ss⟩ := by
  rintro E a w ⟨F, μ, A⟩
  have hin' : ∀ p, E.h0 p ≠ .no → p < ss.length := fun p hp => by
    have := Nat.le_of_ble_eq_true h3
    rcases Nat.lt_or_ge p L with hlt | hge
    · omega
    · exact absurd (A.lim p hge) hp
  have hmB := Nat.le_of_ble_eq_true hm
  have inj : ∀ p q, upto ss.length B p = upto ss.length B q → p = q := fun p q e => by
    rcases Nat.lt_or_ge p ss.length with h1 | h1 <;> rcases Nat.lt_or_ge q ss.length with h2 | h2
    · rwa [upto_lt h1, upto_lt h2] at e
    · rw [upto_lt h1, upto_ge h2] at e; omega
    · rw [upto_ge h1, upto_lt h2] at e; omega
    · rw [upto_ge h1, upto_ge h2] at e; omega
  have R : Ren (upto ss.length B) (fun p f => μ (upto ss.length B p) f) (lks ss) μ h := by
    refine ⟨fun p => ?_, fun p f => rfl⟩
    unfold lks
    rw [List.getD_eq_getElem?_getD]
    rcases Nat.lt_or_ge p ss.length with h1 | h1
    · rw [upto_lt h1]
      have := wh.spec p _ (List.getElem?_eq_getElem h1)
      rw [Nat.zero_add] at this
      rw [this, List.getElem?_eq_getElem h1]; rfl
    · rw [upto_ge h1, hB _ (by omega), List.getElem?_eq_none h1]; rfl
  refine ⟨F, _, A.H.restrict inj R (fun p hp => upto_lt (hin' p hp)), A.df, A.sz, fun d hd => ?_, A.lim⟩
  have hr := A.tm d hd
  rcases wt.spec d with e | e
  · have hr : ARep w F μ h (a.tmps.getD d undef) (t d) := hr
    rw [e] at hr
    exact hr.unren R (t' d) rfl
  · show ARep w F _ _ _ (t' d)
    rw [e]; exact .dead _
theorem born_in {a : Act} {w : World} (A : Abs L E N ⟨t, h⟩ a w) (p : Nat) (hp : E.h0 p ≠ .no) : h p ≠ .no := by
  obtain ⟨F, μ, A⟩ := A
  exact A.H.ev.born p hp
/-- slots alone -/
theorem weak_t {t' : Nat → AV} (wt : ∀ d, t d = t' d ∨ t' d = .dead) : Weak L N ⟨t, h⟩ ⟨t', h⟩ := fun E a w ⟨F, μ, A⟩ => ⟨F, μ, A.H, A.df, A.sz, fun d hd => (by
  rcases wt d with e | e
  · show ARep w F μ h _ (t' d); rw [← e]; exact A.tm d hd
  · show ARep w F μ h _ (t' d); rw [e]; exact .dead _), A.lim⟩
theorem aw_tmp (d : Nat) {r : AV} (hr : t d = r) (k : AW L P N c Q ⟨updA t d r, h⟩) : AW L P N c Q ⟨t, h⟩ := by
  have : t = updA t d r := by
    funext t'
    by_cases e : t' = d
    · subst e; rw [updA_same, hr]
    · rw [updA_ne _ _ e]
  rw [this]; exact k
/-- a nil slice in a register becomes an own one -/
theorem weak_adopt_t (k : Nat) (hk : h k = .no) (et : TypeId) (esz : Nat) {d : Nat} (hd : t d = .d (.v (.slice none 0 0))) :
    Weak L N ⟨t, h⟩ ⟨updA t d (.own k 0 0), upd h k (.live [⟨et, esz, .data []⟩])⟩ := by
  rintro E a w ⟨F, μ, A⟩
  obtain ⟨H1, V1⟩ := A.H.adopt k hk ⟨et, esz, .data []⟩ rfl
  refine ⟨F, _, H1, A.df, A.sz, fun d' hd' => ?_, A.lim⟩
  · by_cases e : d' = d
    · subst e
      have h1 := A.tm d' hd'
      dsimp only at h1 ⊢
      rw [hd] at h1
      have h6 := rep_v h1
      rw [h6, updA_same]
      refine .own _ _ _ _ rfl (by rw [upd_same]; intro e; cases e) fun o ho => ?_
      rw [lv_upd_same] at ho
      simp at ho
      subst ho
      exact ⟨Nat.le_refl _, fun _ => .inl ⟨updP_same _ _ _ _, rfl, rfl⟩⟩
    · dsimp only; rw [updA_ne _ _ e]
      exact (A.tm d' hd').evo V1
/-- a nil slice in a variable becomes an own one -/
theorem weak_adopt (k : Nat) (hk : h k = .no) (et : TypeId) (esz : Nat) {kb : Nat} {bt : TypeId} {sz j : Nat} {cells cells' : List AV} (hb : h kb = .live [⟨bt, sz, .av [cells]⟩]) (hj : cells[j]? = some (.d (.v (.slice none 0 0)))) (hs : Spl j [.own k 0 0] cells cells') :
    Weak L N ⟨t, h⟩ ⟨t, upd (upd h k (.live [⟨et, esz, .data []⟩])) kb (.live [⟨bt, sz, .av [cells']⟩])⟩ := by
  rintro E a w ⟨F, μ, A⟩
  obtain ⟨H1, V1⟩ := A.H.adopt k hk ⟨et, esz, .data []⟩ rfl
  have hkb : kb ≠ k := fun e => by rw [e, hk] at hb; cases hb
  have hb1 : upd h k (.live [⟨et, esz, .data []⟩]) kb = .live [⟨bt, sz, .av [cells]⟩] := by rw [upd_ne _ _ hkb]; exact hb
  obtain ⟨s1, s2, s3, s4⟩ := hs.spec
  have hl1 : lv (upd h k (.live [⟨et, esz, .data []⟩])) kb 0 = some ⟨bt, sz, .av [cells]⟩ := by rw [lv_live hb1]; rfl
  obtain ⟨b, cur, hm, hcur, hat⟩ := own_at H1 hl1 (by simp [Cells.len])
  obtain ⟨c1, c2⟩ := hat 0 cells rfl
  have hcurlt : b < w.heap.size := (Array.getElem?_eq_some_iff.1 hcur).1
  obtain ⟨H2, V2⟩ := H1.put (w' := w) hb1 (f := 0) rfl (o' := ⟨bt, sz, .av [cells']⟩) b cur (Nat.le_refl _) rfl rfl rfl (fun _ _ _ => rfl) (.inl hm) hcurlt hcur (.inr ⟨rfl, rfl, rfl, hm, fun cur2 h2 => by rw [hcur] at h2; injection h2 with h2; injection h2 with h2; rw [h2]⟩) (fun i cl hcl => by
    cases i with
    | succ i => simp [Cells.get] at hcl
    | zero =>
      simp only [Cells.get, List.getElem?_cons_zero, Option.some.injEq] at hcl
      subst hcl
      refine ⟨s1.trans c1, fun j' x hx => ?_⟩
      by_cases e : j' = j
      · subst e
        obtain ⟨u, hu, hr⟩ := c2 j' _ hj
        refine ⟨u, hu, ?_⟩
        have h5 := s4 0 (by simp)
        rw [Nat.add_zero, hx] at h5
        simp at h5
        subst h5
        have h6 := rep_v hr
        subst h6
        refine .own _ _ _ _ rfl (by rw [upd_same]; intro e; cases e) fun o ho => ?_
        rw [lv_upd_same] at ho
        simp at ho
        subst ho
        exact ⟨Nat.le_refl _, fun _ => .inl ⟨updP_same _ _ _ _, rfl, rfl⟩⟩
      · rw [s3 j' (by simp; omega)] at hx
        exact c2 j' x hx)
  refine ⟨F, _, H2, A.df, A.sz, fun d hd => ?_, A.lim⟩
  exact ((A.tm d hd).evo V1).evo V2
end
end Go.Proofs.YtjhadibjjldpdaaGreat
