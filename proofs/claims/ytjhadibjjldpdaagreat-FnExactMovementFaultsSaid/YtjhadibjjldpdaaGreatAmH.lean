/- An abstract machine, H: structs and slices by value. No program. -/
import Derived.Test.YtjhadibjjldpdaaGreatAmG
import Derived.Laws.Tables
import Derived.Great.BuildSlice
namespace Go.Proofs.YtjhadibjjldpdaaGreat
open Go.RowKit
set_option linter.unusedVariables false
set_option maxRecDepth 100000

/-- n cells from place o on -/
inductive Seg {α : Type} : Nat → Nat → List α → List α → Prop
  | z (l : List α) : Seg 0 0 l []
  | t {n : Nat} {a : α} {l r : List α} (h : Seg 0 n l r) : Seg 0 (n + 1) (a :: l) (a :: r)
  | d {o n : Nat} {a : α} {l r : List α} (h : Seg o n l r) : Seg (o + 1) n (a :: l) r
theorem Seg.spec {α : Type} {o n : Nat} {l r : List α} (h : Seg o n l r) : r.length = n ∧ o + n ≤ l.length + (if n = 0 then o else 0) ∧ ∀ (i : Nat) x, r[i]? = some x → l[o + i]? = some x := by
  induction h with
  | z l => simp
  | t h ih =>
    obtain ⟨h1, h2, h3⟩ := ih
    refine ⟨by simp [h1], ?_, fun i x hx => ?_⟩
    · simp; split at h2 <;> omega
    · cases i with
      | zero => simpa using hx
      | succ i => simp at hx ⊢; have := h3 i x hx; simpa using this
  | d h ih =>
    obtain ⟨h1, h2, h3⟩ := ih
    refine ⟨h1, ?_, fun i x hx => ?_⟩
    · simp; split at h2 <;> split <;> omega
    · have := h3 i x hx
      rw [show ∀ o i : Nat, o + 1 + i = (o + i) + 1 by omega]
      simpa using this
/-- the list from place o on -/
inductive Drp {α : Type} : Nat → List α → List α → Prop
  | z (l : List α) : Drp 0 l l
  | d {o : Nat} {a : α} {l r : List α} (h : Drp o l r) : Drp (o + 1) (a :: l) r
theorem Drp.spec {α : Type} {o : Nat} {l r : List α} (h : Drp o l r) : r = l.drop o ∧ o ≤ l.length := by
  induction h with
  | z l => simp
  | d h ih => simp [ih.1, ih.2]
/-- a piece put in at place o -/
inductive Spl {α : Type} : Nat → List α → List α → List α → Prop
  | z (l : List α) : Spl 0 [] l l
  | t {n o : α} {ns os r : List α} (h : Spl 0 ns os r) : Spl 0 (n :: ns) (o :: os) (n :: r)
  | d {k : Nat} {o : α} {ns os r : List α} (h : Spl k ns os r) : Spl (k + 1) ns (o :: os) (o :: r)
theorem Spl.spec {α : Type} {o : Nat} {ns l r : List α} (h : Spl o ns l r) : r.length = l.length ∧ o + ns.length ≤ l.length ∧ (∀ i : Nat, i < o ∨ o + ns.length ≤ i → r[i]? = l[i]?) ∧ ∀ i : Nat, i < ns.length → r[o + i]? = ns[i]? := by
  induction h with
  | z l => simp
  | t h ih =>
    obtain ⟨h1, h2, h3, h4⟩ := ih
    refine ⟨by simp [h1], by simp at h2 ⊢; omega, fun i hi => ?_, fun i hi => ?_⟩
    · cases i with
      | zero => simp at hi
      | succ i => simp at hi ⊢; exact h3 i (by simp; omega)
    · cases i with
      | zero => simp
      | succ i => simp at hi ⊢; have := h4 i hi; simpa using this
  | d h ih =>
    obtain ⟨h1, h2, h3, h4⟩ := ih
    refine ⟨by simp [h1], by simp; omega, fun i hi => ?_, fun i hi => ?_⟩
    · cases i with
      | zero => simp
      | succ i => simp at hi ⊢; exact h3 i (by omega)
    · have := h4 i hi
      rw [show ∀ k i : Nat, k + 1 + i = (k + i) + 1 by omega]
      simpa using this

/-- the cells of what a variable holds -/
def cellsA : AV → List AV
  | .agg cs => cs
  | x => [x]
def ok1 : AV → Bool
  | .agg _ => false
  | .tup _ => false
  | .dead => false
  | _ => true
def okL : List AV → Bool
  | [] => true
  | c :: cs => ok1 c && okL cs
theorem okL_get : ∀ {cs : List AV}, okL cs = true → ∀ {i : Nat} {c : AV}, cs[i]? = some c → ok1 c = true
  | [], _, i, c, hc => by simp at hc
  | x :: cs, h, 0, c, hc => by simp [okL] at h hc; rw [← hc]; exact h.1
  | x :: cs, h, i + 1, c, hc => by simp [okL] at h hc; exact okL_get h.2 hc
theorem DRep.one_ {w : World} {F : Nat → Prop} {v : Value} {x : DV} (r : DRep w F v x) : v.oneCell' = true := by cases r <;> first | assumption | rfl
theorem ARep.one_ {w : World} {F : Nat → Prop} {μ : Places} {h : Heap} {v : Value} {a : AV} (r : ARep w F μ h v a) (ho : ok1 a = true) : v.oneCell' = true := by
  cases r <;> simp [ok1] at ho
  · rename_i hd; exact hd.one_
  · rfl
  · assumption
  · assumption
  · rfl
theorem cells_one {v : Value} (h : v.oneCell' = true) : v.cells = #[v] := by cases v <;> first | rfl | simp [Value.oneCell'] at h
/-- the cells of a value stand for the cells of its description -/
theorem ARep.cells_ {w : World} {F : Nat → Prop} {μ : Places} {h : Heap} {v : Value} {a : AV} (r : ARep w F μ h v a) {cs : List AV} (hc : cellsA a = cs) (ho : okL cs = true) :
    v.cells.size = cs.length ∧ (∀ (j : Nat) c, cs[j]? = some c → ∃ u, v.cells[j]? = some u ∧ ARep w F μ h u c) ∧ ∀ u ∈ v.cells, u.oneCell' = true := by
  have fin : ∀ (vs : Array Value), vs.size = cs.length → (∀ (j : Nat) c, cs[j]? = some c → ∃ u, vs[j]? = some u ∧ ARep w F μ h u c) → ∀ u ∈ vs, u.oneCell' = true := fun vs hs hr u hu => by
    obtain ⟨j, hj, rfl⟩ := Array.mem_iff_getElem.1 hu
    obtain ⟨u', hu', hr'⟩ := hr j (cs[j]'(by omega)) (List.getElem?_eq_getElem _)
    rw [Array.getElem?_eq_getElem hj] at hu'
    injection hu' with hu'
    rw [hu']
    exact hr'.one_ (okL_get ho (List.getElem?_eq_getElem (by omega)))
  by_cases hagg : ∃ cs', a = .agg cs'
  · obtain ⟨cs', rfl⟩ := hagg
    simp only [cellsA] at hc
    subst hc
    cases r with | agg vs _ hs hr =>
    have h2 : ∀ (j : Nat) c, cs'[j]? = some c → ∃ u, vs[j]? = some u ∧ ARep w F μ h u c := fun j c hj => by
      have hlt : j < vs.size := by rw [hs]; exact (List.getElem?_eq_some_iff.1 hj).1
      exact ⟨vs[j], Array.getElem?_eq_getElem hlt, hr j _ c (Array.getElem?_eq_getElem hlt) hj⟩
    exact ⟨hs, h2, fin vs hs h2⟩
  · have hc' : cs = [a] := by
      rw [← hc]
      cases a <;> first | rfl | exact absurd ⟨_, rfl⟩ hagg
    subst hc'
    have h1 : v.oneCell' = true := r.one_ (okL_get ho (i := 0) rfl)
    rw [cells_one h1]
    have h2 : ∀ (j : Nat) c, [a][j]? = some c → ∃ u, (#[v] : Array Value)[j]? = some u ∧ ARep w F μ h u c := fun j c hj => by
      cases j with
      | zero => simp at hj; subst hj; exact ⟨v, rfl, r⟩
      | succ j => simp at hj
    exact ⟨rfl, h2, fin _ rfl h2⟩

def isRow : TypeDesc → Bool
  | .struct _ => true
  | .array _ _ => true
  | _ => false
section
variable {P : Program} {T : Tab} {N : Nat} {ops : Array Oper} {E : Env} {t : Nat → AV} {h : Heap} {d : Tmp} {ty : TypeId} {pos : String} {aft : Array Edge} {g : Option (Nat × Bool)}

theorem run_isAgg (hT : TOk P T) {u : TypeId} {ti : TI} (hu : T u = some ti) (w : World) : (isAgg u).run P w = .ok (isRow ti.desc) w := by
  unfold isAgg
  rw [Sem.run_bind, run_underlying (hT u ti hu).1 w]
  cases ti.desc <;> simp [isRow]
theorem run_sizeOf (hT : TOk P T) {u : TypeId} {ti : TI} (hu : T u = some ti) (w : World) : (sizeOf u).run P w = .ok ti.size w := by
  obtain ⟨_, i, hi, hs, _⟩ := hT u ti hu
  simp [sizeOf, typeInfo, hi, hs]
theorem run_zero (hT : TOk P T) {u : TypeId} {ti : TI} (hu : T u = some ti) (w : World) : (zeroValue u).run P w = .ok ti.zero w := by
  obtain ⟨_, i, hi, _, _, hz⟩ := hT u ti hu
  simp [zeroValue, typeInfo, hi, hz]

/-- a field of one cell -/
theorem pu_field1 (hT : TOk P T) {xt : TypeId} {x : Operand} {f : Nat} {cs : List AV} {c : AV} {ti fi : TI} {fs : Array Field} {fld : Field} (hx : evA N ⟨t, h⟩ x = .agg cs) (h1 : T xt = some ti) (h2 : ti.desc = .struct fs) (h3 : fs[f]? = some fld)
    (h4 : T fld.type = some fi) (h5 : isRow fi.desc = false) (hc : cs[fld.offset]? = some c) : Pure1 P N ⟨some d, .field xt x f, ty, pos, aft, g⟩ ⟨t, h⟩ c := fun w F μ hh ρ st => by
  have hr := st x (by simp [Op.operands])
  rw [hx] at hr
  have hu := (hT _ _ h1).1
  rw [h2] at hu
  generalize hv : ρ x = v at hr
  cases hr with | agg vs _ hs hr =>
  have hlt : fld.offset < vs.size := by rw [hs]; exact (List.getElem?_eq_some_iff.1 hc).1
  refine ⟨vs[fld.offset], ?_, hr _ _ c (Array.getElem?_eq_getElem hlt) hc⟩
  simp [execOp, hv, Instr.field, run_underlying hu, h3, asAgg, part, run_isAgg hT h4, h5, hlt]
/-- a field of more cells -/
theorem pu_fieldN (hT : TOk P T) {xt : TypeId} {x : Operand} {f : Nat} {cs out : List AV} {ti fi : TI} {fs : Array Field} {fld : Field} (hx : evA N ⟨t, h⟩ x = .agg cs) (h1 : T xt = some ti) (h2 : ti.desc = .struct fs) (h3 : fs[f]? = some fld)
    (h4 : T fld.type = some fi) (h5 : isRow fi.desc = true) (hs : Seg fld.offset fi.size cs out) : Pure1 P N ⟨some d, .field xt x f, ty, pos, aft, g⟩ ⟨t, h⟩ (.agg out) := fun w F μ hh ρ st => by
  have hr := st x (by simp [Op.operands])
  rw [hx] at hr
  have hu := (hT _ _ h1).1
  rw [h2] at hu
  generalize hv : ρ x = v at hr
  cases hr with | agg vs _ hsz hr =>
  obtain ⟨s1, s2, s3⟩ := hs.spec
  refine ⟨.agg (vs.extract fld.offset (fld.offset + fi.size)), ?_, .agg _ _ ?_ fun i v c hvi hc => ?_⟩
  · simp [execOp, hv, Instr.field, run_underlying hu, h3, asAgg, part, run_isAgg hT h4, h5, run_sizeOf hT h4]
  · simp only [Array.size_extract, s1, hsz]
    split at s2 <;> omega
  · have h6 := s3 i c hc
    have : vs[fld.offset + i]? = some v := by
      rw [Array.getElem?_extract] at hvi
      split at hvi
      · exact hvi
      · cases hvi
    exact hr _ _ c this h6
theorem pu_extract {x : Operand} {k : Nat} {cs : List AV} {c : AV} (hx : evA N ⟨t, h⟩ x = .tup cs) (hc : cs[k]? = some c) : Pure1 P N ⟨some d, .extract x k, ty, pos, aft, g⟩ ⟨t, h⟩ c := fun w F μ hh ρ st => by
  have hr := st x (by simp [Op.operands])
  rw [hx] at hr
  generalize hv : ρ x = v at hr
  cases hr with | tup vs _ hs hr =>
  have hlt : k < vs.size := by rw [hs]; exact (List.getElem?_eq_some_iff.1 hc).1
  refine ⟨vs[k], ?_, hr _ _ c (Array.getElem?_eq_getElem hlt) hc⟩
  simp [execOp, hv, Instr.extract, hlt]
def evL (N : Nat) (σ : AS) : List Operand → List AV
  | [] => []
  | x :: xs => evA N σ x :: evL N σ xs
theorem evL_map (N : Nat) (σ : AS) : ∀ xs, evL N σ xs = xs.map (evA N σ)
  | [] => rfl
  | x :: xs => by simp [evL, evL_map N σ xs]
theorem pu_func {f : FuncId} {cap : Array Operand} {caps : List AV} (hc : evL N ⟨t, h⟩ cap.toList = caps) : Pure1 P N ⟨some d, .makeFunc (.func f) #[] cap, ty, pos, aft, g⟩ ⟨t, h⟩ (.fn f caps) := fun w F μ hh ρ st => by
  refine ⟨.func (.func f) #[] (cap.map ρ), by simp [execOp, Instr.makeFunc], ?_⟩
  subst hc
  rw [evL_map]
  refine .fn f _ _ (by simp) fun i v c hv hc => ?_
  rw [Array.getElem?_map] at hv
  rw [List.getElem?_map, Array.getElem?_toList] at hc
  obtain ⟨x, hx, rfl⟩ := Option.map_eq_some_iff.1 hv
  rw [hx] at hc
  simp at hc
  subst hc
  exact st x (by simp only [Op.operands]; exact Array.mem_append.2 (.inr (Array.mem_of_getElem? hx)))

/-! struct literals -/
theorem fold_put (vs : List Value) : ∀ (k off : Nat) (cs : Array Value), (∀ i : Nat, ((vs.zipIdx k).foldl (fun cs (x : Value × Nat) => cs.setIfInBounds (off + x.2) x.1) cs)[i]? = if off + k ≤ i ∧ i < off + k + vs.length ∧ i < cs.size then vs[i - (off + k)]? else cs[i]?) ∧
    ((vs.zipIdx k).foldl (fun cs (x : Value × Nat) => cs.setIfInBounds (off + x.2) x.1) cs).size = cs.size := by
  induction vs with
  | nil => intro k off cs; simp; intro i h1 h2; omega
  | cons v vs ih =>
    intro k off cs
    obtain ⟨h1, h2⟩ := ih (k + 1) off (cs.setIfInBounds (off + k) v)
    simp only [List.zipIdx_cons, List.foldl_cons]
    refine ⟨fun i => ?_, by rw [h2]; simp⟩
    rw [h1 i]
    simp only [Array.size_setIfInBounds, List.length_cons]
    by_cases e : i = off + k
    · subst e
      rw [if_neg (by omega)]
      by_cases hs : off + k < cs.size
      · rw [if_pos (by omega)]; simp [Array.getElem?_setIfInBounds, hs]
      · rw [if_neg (by omega)]; simp [Array.getElem?_setIfInBounds, hs]
    · by_cases hc : off + (k + 1) ≤ i ∧ i < off + (k + 1) + vs.length ∧ i < cs.size
      · rw [if_pos hc, if_pos (by omega)]
        rw [show i - (off + k) = (i - (off + (k + 1))) + 1 by omega]
        simp
      · rw [if_neg hc, if_neg (by omega)]
        rw [Array.getElem?_setIfInBounds_ne (by omega)]
theorem fill_step {place : Nat → Option (Nat × Nat)} {cells : Array Value} {i : Nat} {v : Value} {rest : List (Nat × Value)} {off size : Nat} (hp : place i = some (off, size)) (hs : v.cells.size = size) (hfit : off + size ≤ cells.size) :
    ∃ cells', Instr.fill place cells ((i, v) :: rest) = Instr.fill place cells' rest ∧ cells'.size = cells.size ∧ ∀ j : Nat, cells'[j]? = if off ≤ j ∧ j < off + size then v.cells[j - off]? else cells[j]? := by
  obtain ⟨h1, h2⟩ := fold_put v.cells.toList 0 off cells
  have hz : v.cells.zipIdx.foldl (fun cs (x : Value × Nat) => cs.setIfInBounds (off + x.2) x.1) cells = (v.cells.toList.zipIdx 0).foldl (fun cs (x : Value × Nat) => cs.setIfInBounds (off + x.2) x.1) cells := by
    rw [← Array.foldl_toList, Array.toList_zipIdx]
  refine ⟨v.cells.zipIdx.foldl (fun cs (x : Value × Nat) => cs.setIfInBounds (off + x.2) x.1) cells, ?_, by rw [hz]; exact h2, fun j => ?_⟩
  · simp only [Instr.fill, hp]
    rw [if_neg (by simp; omega)]
  · rw [hz, h1 j]
    simp only [Nat.add_zero, Array.length_toList, hs]
    by_cases hc : off ≤ j ∧ j < off + size
    · rw [if_pos (by omega), if_pos hc, Array.getElem?_toList]
    · rw [if_neg (by omega), if_neg hc]
inductive Bld (place : Nat → Option (Nat × Nat)) (ev : Operand → AV) : List AV → List (Nat × Operand) → List AV → Prop
  | nil (C : List AV) : Bld place ev C [] C
  | cons {i off sz : Nat} {x : Operand} {cs C C1 C2 : List AV} {ps : List (Nat × Operand)} (hp : place i = some (off, sz)) (hc : cellsA (ev x) = cs) (ho : okL cs = true) (hl : Nat.beq cs.length sz = true) (hs : Spl off cs C C1) (k : Bld place ev C1 ps C2) :
      Bld place ev C ((i, x) :: ps) C2
theorem Bld.fill_ {place : Nat → Option (Nat × Nat)} {ev : Operand → AV} {C C2 : List AV} {ps : List (Nat × Operand)} (B : Bld place ev C ps C2) {w : World} {F : Nat → Prop} {μ : Places} {hh : Heap} {ρ : Operand → Value} :
    ∀ (cells : Array Value), cells.size = C.length → (∀ (j : Nat) c, C[j]? = some c → ∃ u, cells[j]? = some u ∧ ARep w F μ hh u c) → (∀ p ∈ ps, ARep w F μ hh (ρ p.2) (ev p.2)) →
    ∃ out, Instr.fill place cells (ps.map fun p => (p.1, ρ p.2)) = some out ∧ out.size = C2.length ∧ ∀ (j : Nat) c, C2[j]? = some c → ∃ u, out[j]? = some u ∧ ARep w F μ hh u c := by
  induction B with
  | nil C => intro cells hs hr _; exact ⟨cells, rfl, hs, hr⟩
  | cons hp hc ho hl hs k ih =>
    rename_i i off sz x cs C C1 C2 ps
    intro cells hsz hr hps
    obtain ⟨c1, c2, c3⟩ := (hps (i, x) (by simp)).cells_ hc ho
    obtain ⟨s1, s2, s3, s4⟩ := hs.spec
    have hlen : cs.length = sz := Nat.eq_of_beq_eq_true hl
    obtain ⟨cells', f1, f2, f3⟩ := fill_step (rest := ps.map fun p => (p.1, ρ p.2)) (cells := cells) hp (c1.trans hlen) (by omega)
    rw [List.map_cons, f1]
    refine ih cells' (by omega) (fun j c hj => ?_) fun p hp => hps p (by simp [hp])
    rw [f3 j]
    by_cases hcj : off ≤ j ∧ j < off + sz
    · rw [if_pos hcj]
      have := s4 (j - off) (by omega)
      rw [show off + (j - off) = j by omega, hj] at this
      exact c2 _ c this.symm
    · rw [if_neg hcj]
      rw [s3 j (by omega)] at hj
      exact hr j c hj
inductive Plc (T : Tab) : List Field → List (Nat × Nat) → Prop
  | nil : Plc T [] []
  | cons {f : Field} {fs : List Field} {ti : TI} {ps : List (Nat × Nat)} (hf : T f.type = some ti) (k : Plc T fs ps) : Plc T (f :: fs) ((f.offset, ti.size) :: ps)
theorem Plc.spec (hT : TOk P T) {fs : List Field} {ps : List (Nat × Nat)} (h : Plc T fs ps) : fs.mapM (fun f => (P.info? f.type).map fun i => (f.offset, i.size)) = some ps := by
  induction h with
  | nil => simp
  | cons hf k ih =>
    obtain ⟨_, i, hi, hs, _⟩ := hT _ _ hf
    simp [List.mapM_cons, hi, hs, ih]
theorem pu_build (hT : TOk P T) {bt : TypeId} {parts : Array (Nat × Operand)} {ti : TI} {fs : Array Field} {pl : List (Nat × Nat)} {C0 C : List AV} (h1 : T bt = some ti) (h2 : ti.desc = .struct fs) (h3 : Plc T fs.toList pl) (h4 : constL ti.zero.cells.toList = C0)
    (h5 : Bld (fun i => pl[i]?) (evA N ⟨t, h⟩) C0 parts.toList C) : Pure1 P N ⟨some d, .build bt parts, ty, pos, aft, g⟩ ⟨t, h⟩ (.agg C) := fun w F μ hh ρ st => by
  obtain ⟨out, o1, o2, o3⟩ := h5.fill_ (w := w) (F := F) (μ := μ) (hh := hh) (ρ := ρ) ti.zero.cells (by rw [← h4]; simp [constL_map]) (fun j c hj => by
    rw [← h4, constL_map, List.getElem?_map, Array.getElem?_toList] at hj
    obtain ⟨u, hu, rfl⟩ := Option.map_eq_some_iff.1 hj
    exact ⟨u, hu, oneA_rep u⟩) (fun p hp => st p.2 (by simp only [Op.operands]; simp; exact ⟨p.1, by simpa using hp⟩))
  obtain ⟨hu, i, hi, _, _, hz⟩ := hT _ _ h1
  rw [h2] at hu
  have hb : P.built bt (parts.map fun (p : Nat × Operand) => (p.1, ρ p.2)).toList = some out := by
    unfold Program.built
    simp only [hi, hu, hz, Plc.spec hT h3]
    rw [Array.toList_map]
    have : (fun (i : Nat) => pl.toArray[i]?) = fun i => pl[i]? := by funext i; simp
    rw [this]
    exact o1
  refine ⟨.agg out, ?_, .agg out C o2 fun j v c hv hc => ?_⟩
  · have := run_build (P := P) w bt _ out hb
    simp only [execOp]
    rw [Sem.run_bind]
    have e : (parts.map fun (x : Nat × Operand) => match x with | (i, x) => (i, ρ x)) = parts.map fun (p : Nat × Operand) => (p.1, ρ p.2) := rfl
    rw [e, this]; rfl
  · obtain ⟨u, hu', hr⟩ := o3 j c hc
    rw [hv] at hu'
    injection hu' with hu'
    rw [hu']; exact hr
end
end Go.Proofs.YtjhadibjjldpdaaGreat
