/- An abstract machine, J: operations that make memory. No program. -/
import Derived.Test.YtjhadibjjldpdaaGreatAmI
namespace Go.Proofs.YtjhadibjjldpdaaGreat
open Go.RowKit
set_option linter.unusedVariables false
set_option maxRecDepth 100000

inductive Els (ev : Operand → AV) (sz : Nat) : Nat → List (Nat × Operand) → List (List AV) → Prop
  | nil (k : Nat) : Els ev sz k [] []
  | cons {k : Nat} {x : Operand} {cs : List AV} {ps : List (Nat × Operand)} {es : List (List AV)} (hc : cellsA (ev x) = cs) (ho : okL cs = true) (hl : Nat.beq cs.length sz = true) (q : Els ev sz (k + 1) ps es) : Els ev sz k ((k, x) :: ps) (cs :: es)
theorem Els.fill_ {ev : Operand → AV} {sz k : Nat} {ps : List (Nat × Operand)} {es : List (List AV)} (B : Els ev sz k ps es) {w : World} {F : Nat → Prop} {μ : Places} {hh : Heap} {ρ : Operand → Value} :
    ∀ (cells : Array Value), (k + es.length) * sz ≤ cells.size → (∀ p ∈ ps, ARep w F μ hh (ρ p.2) (ev p.2)) →
    ∃ out, Instr.fill (fun i => some (i * sz, sz)) cells (ps.map fun p => (p.1, ρ p.2)) = some out ∧ out.size = cells.size ∧ (∀ j : Nat, j < k * sz → out[j]? = cells[j]?) ∧
      ∀ (i : Nat) e, es[i]? = some e → e.length = sz ∧ okL e = true ∧ ∀ (j : Nat) c, e[j]? = some c → ∃ u, out[(k + i) * sz + j]? = some u ∧ ARep w F μ hh u c := by
  induction B with
  | nil k => intro cells _ _; exact ⟨cells, rfl, rfl, fun _ _ => rfl, fun i e he => by simp at he⟩
  | cons hc ho hl q ih =>
    rename_i k x cs ps es
    intro cells hsz hps
    obtain ⟨c1, c2, c3⟩ := (hps (k, x) (by simp)).cells_ hc ho
    have hlen : cs.length = sz := Nat.eq_of_beq_eq_true hl
    have hk : (k + (cs :: es).length) * sz = k * sz + sz + es.length * sz := by simp only [List.length_cons, Nat.add_mul, Nat.one_mul]; omega
    rw [hk] at hsz
    obtain ⟨cells', f1, f2, f3⟩ := fill_step (place := fun i => some (i * sz, sz)) (rest := ps.map fun p => (p.1, ρ p.2)) (cells := cells) (i := k) (v := ρ x) rfl (c1.trans hlen) (by omega)
    have hk1 : (k + 1) * sz = k * sz + sz := by rw [Nat.add_mul, Nat.one_mul]
    obtain ⟨out, o1, o2, o3, o4⟩ := ih cells' (by rw [Nat.add_mul, hk1]; omega) fun p hp => hps p (by simp [hp])
    refine ⟨out, by rw [List.map_cons, f1]; exact o1, o2.trans f2, fun j hj => ?_, fun i e he => ?_⟩
    · rw [o3 j (by omega), f3 j, if_neg (by omega)]
    · cases i with
      | zero =>
        simp at he
        subst he
        refine ⟨hlen, ho, fun j c hj => ?_⟩
        have hjl : j < cs.length := (List.getElem?_eq_some_iff.1 hj).1
        obtain ⟨u, hu, hr⟩ := c2 j c hj
        refine ⟨u, ?_, hr⟩
        rw [Nat.add_zero, o3 _ (by omega), f3 _, if_pos (by omega)]
        rw [show k * sz + j - k * sz = j by omega]
        exact hu
      | succ i =>
        simp at he
        obtain ⟨a1, a0, a2⟩ := o4 i e he
        refine ⟨a1, a0, fun j c hj => ?_⟩
        obtain ⟨u, hu, hr⟩ := a2 j c hj
        exact ⟨u, by rw [show k + (i + 1) = k + 1 + i by omega]; exact hu, hr⟩
/-- all cells are data -/
inductive AllD : List AV → List DV → Prop
  | nil : AllD [] []
  | cons {x : DV} {cs : List AV} {ds : List DV} (h : AllD cs ds) : AllD (.d x :: cs) (x :: ds)
theorem AllD.eq_ {cs : List AV} {ds : List DV} (h : AllD cs ds) : cs = ds.map .d := by induction h <;> simp_all
inductive AllDD : List (List AV) → List (List DV) → Prop
  | nil : AllDD [] []
  | cons {c : List AV} {x : List DV} {cs : List (List AV)} {ds : List (List DV)} (h : AllD c x) (k : AllDD cs ds) : AllDD (c :: cs) (x :: ds)
theorem AllDD.eq_ {cs : List (List AV)} {ds : List (List DV)} (h : AllDD cs ds) : cs = ds.map (List.map .d) := by
  induction h with
  | nil => rfl
  | cons h k ih => simp [h.eq_, ih]
/-- what may be laid down as the cells of an object -/
inductive Lay : List (List AV) → Cells → Prop
  | data {es : List (List AV)} {ds : List (List DV)} (h : AllDD es ds) : Lay es (.data ds)
  | av (es : List (List AV)) : Lay es (.av es)
theorem Lay.get_ {es : List (List AV)} {c : Cells} (h : Lay es c) (i : Nat) : c.get i = es[i]? := by
  cases h with
  | data h => rw [h.eq_]; simp [Cells.get]
  | av => rfl
theorem Lay.len_ {es : List (List AV)} {c : Cells} (h : Lay es c) : c.len = es.length := by
  cases h with
  | data h => rw [h.eq_]; simp [Cells.len]
  | av => rfl

theorem le_mul_pos {l s : Nat} (h : 0 < l * s) : l ≤ l * s := by
  cases s with
  | zero => simp at h
  | succ s => exact Nat.le_mul_of_pos_right _ (Nat.succ_pos _)
section
variable {P : Program} {T : Tab} {N : Nat} {ops : Array Oper} {E : Env} {K : List (Nat × Cls) → AS → Prop} {i : Nat} {is : List Nat} {t : Nat → AV} {h h' : Heap} {d : Tmp} {op : Op} {ty : TypeId} {pos : String} {aft : Array Edge} {g : Option (Nat × Bool)}

theorem rt_s {r : AV} (ho : ops[i]? = some ⟨some d, op, ty, pos, aft, g⟩) (hw : Want N ops ⟨some d, op, ty, pos, aft, g⟩ ⟨t, h⟩) (hd : Nat.blt d N = true) (hp : Heavy1 P N ⟨some d, op, ty, pos, aft, g⟩ ⟨t, h⟩ r h' ∧ ∀ k, h k ≠ .no → h' k = h k)
    (k : RT P N ops is (fun l σ' => K ((i, .st) :: l) σ') ⟨updA t d r, h'⟩) : RT P N ops (i :: is) K ⟨t, h⟩ := rt_cons ho (.still (dN hd) hw r h' hp.2 hp.1) k
/-- in a drawn region: memory made at a key of its own -/
theorem rt_a {r : AV} {k0 : Nat} {s : Slot} (ho : ops[i]? = some ⟨some d, op, ty, pos, aft, g⟩) (hw : Want N ops ⟨some d, op, ty, pos, aft, g⟩ ⟨t, h⟩) (hd : Nat.blt d N = true) (hk : h k0 = .no) (hp : ∀ hx : Heap, hx k0 = .no → Heavy1 P N ⟨some d, op, ty, pos, aft, g⟩ ⟨t, hx⟩ r (upd hx k0 s) ∧ ∀ k, hx k ≠ .no → upd hx k0 s k = hx k)
    (k : RT P N ops is (fun l σ' => K ((i, .al k0) :: l) σ') ⟨updA t d r, upd h k0 s⟩) : RT P N ops (i :: is) K ⟨t, h⟩ := rt_cons ho (.al k0 (dN hd) hw r s hk fun hx hk' => (hp hx hk').1) k
/-- in a drawn region: a call whose memory lies from B on -/
theorem rt_c {r : AV} {B : Nat} (ho : ops[i]? = some ⟨some d, op, ty, pos, aft, g⟩) (hw : Want N ops ⟨some d, op, ty, pos, aft, g⟩ ⟨t, h⟩) (hd : Nat.blt d N = true) (hp : Abv h B ∧ (∀ hx : Heap, Abv hx B → (∀ p, h p ≠ .no → hx p = h p) → Heavy1 P N ⟨some d, op, ty, pos, aft, g⟩ ⟨t, hx⟩ r (over B hx h')) ∧ over B h h' = h')
    (k : RT P N ops is (fun l σ' => K ((i, .sb B) :: l) σ') ⟨updA t d r, h'⟩) : RT P N ops (i :: is) K ⟨t, h⟩ :=
  rt_cons ho (.sb B (dN hd) hw r h' hp.1 hp.2.1) (by show RT P N ops is _ ⟨updA t d r, over B h h'⟩; rw [hp.2.2]; exact k)
/-- in a drawn region: reading at one key, writing at one key -/
theorem rt_lk {r : AV} {k0 : Nat} {x0 : Operand} (ho : ops[i]? = some ⟨some d, op, ty, pos, aft, g⟩) (hw : Want N ops ⟨some d, op, ty, pos, aft, g⟩ ⟨t, h⟩) (hd : Nat.blt d N = true) (hp : Light1 P N ⟨some d, op, ty, pos, aft, g⟩ ⟨t, h⟩ r) (hx0 : op.operands.toList.head? = some x0) (h0 : (evA N ⟨t, h⟩ x0).key = some k0) (hk : (op.operands.toList.all fun x => match (evA N ⟨t, h⟩ x).key with | some k' => Nat.beq k' k0 | none => true) = true)
    (k : RT P N ops is (fun l σ' => K ((i, .lk k0) :: l) σ') ⟨updA t d r, h⟩) : RT P N ops (i :: is) K ⟨t, h⟩ :=
  rt_cons ho (.lk k0 (dN hd) hw r hp fun x hx k' hk' => by
    have := List.all_eq_true.1 hk x (by simpa using hx)
    rw [hk'] at this
    exact Nat.eq_of_beq_eq_true this) k
theorem rt_wk {k0 : Nat} {s : Slot} {r : AV} (ho : ops[i]? = some ⟨none, op, ty, pos, aft, g⟩) (hw : Want N ops ⟨none, op, ty, pos, aft, g⟩ ⟨t, h⟩) (hp : Heavy1 P N ⟨none, op, ty, pos, aft, g⟩ ⟨t, h⟩ r (upd h k0 s))
    (k : RT P N ops is (fun l σ' => K ((i, .wk k0) :: l) σ') ⟨t, upd h k0 s⟩) : RT P N ops (i :: is) K ⟨t, h⟩ := rt_cons ho (.wk k0 (fun d e => by cases e) hw r _ hp fun p hp => upd_ne _ _ hp) k
theorem rt_w {r : AV} (ho : ops[i]? = some ⟨some d, op, ty, pos, aft, g⟩) (hw : Want N ops ⟨some d, op, ty, pos, aft, g⟩ ⟨t, h⟩) (hd : Nat.blt d N = true) (hp : Heavy1 P N ⟨some d, op, ty, pos, aft, g⟩ ⟨t, h⟩ r h')
    (k : RT P N ops is (fun l σ' => K ((i, .wr) :: l) σ') ⟨updA t d r, h'⟩) : RT P N ops (i :: is) K ⟨t, h⟩ := rt_cons ho (.write (dN hd) hw r h' hp) k
theorem rt_w0 {r : AV} (ho : ops[i]? = some ⟨none, op, ty, pos, aft, g⟩) (hw : Want N ops ⟨none, op, ty, pos, aft, g⟩ ⟨t, h⟩) (hp : Heavy1 P N ⟨none, op, ty, pos, aft, g⟩ ⟨t, h⟩ r h')
    (k : RT P N ops is (fun l σ' => K ((i, .wr) :: l) σ') ⟨t, h'⟩) : RT P N ops (i :: is) K ⟨t, h⟩ := rt_cons ho (.write (fun d e => by cases e) hw r h' hp) k
theorem ext_upd {k : Nat} {s : Slot} (hk : h k = .no) : ∀ k', h k' ≠ .no → upd h k s k' = h k' := fun k' hk' => upd_ne _ _ (fun e => hk' (by rw [e]; exact hk))

/-- a new variable -/
theorem new_var {F : Nat → Prop} {μ : Places} {w : World} (H : HInv E F μ h w) {k : Nat} (hk : h k = .no) {bt : TypeId} {cs : List AV} {v : Value} (hs : v.cells.size = cs.length) (hr : ∀ (j : Nat) c, cs[j]? = some c → ∃ u, v.cells[j]? = some u ∧ ARep w F μ h u c) :
    ∃ F' μ', HInv E F' μ' (upd h k (.live [⟨bt, cs.length, .av [cs]⟩])) (w.alloc (.cells v.cells bt)) ∧ Evo w F μ h (w.alloc (.cells v.cells bt)) F' μ' (upd h k (.live [⟨bt, cs.length, .av [cs]⟩])) ∧
      ARep (w.alloc (.cells v.cells bt)) F' μ' (upd h k (.live [⟨bt, cs.length, .av [cs]⟩])) (.pointer (some ⟨w.heap.size, 0, none⟩)) (.ptr k 0 1 0 0) := by
  obtain ⟨H', V⟩ := H.alloc k hk ⟨bt, cs.length, .av [cs]⟩ v.cells (fun i cells hi => by
    simp only [Cells.get] at hi
    cases i with
    | zero => simp at hi; subst hi; exact ⟨rfl, fun j c hj => by simpa using hr j c hj⟩
    | succ i => simp at hi)
  refine ⟨F, _, H', V, .ptr _ _ _ _ _ _ rfl (by rw [upd_same]; intro e; cases e) fun o ho => ?_⟩
  rw [lv_upd_same] at ho
  simp at ho
  subst ho
  exact ⟨by simp [Cells.len], fun _ => ⟨w.heap.size, updP_same _ _ _ _, by simp⟩⟩
theorem st_alloc (k : Nat) (hT : TOk P T) {bt : TypeId} {ti : TI} {cs : List AV} (h1 : T bt = some ti) (hc : constL ti.zero.cells.toList = cs) (hk : h k = .no) :
    Heavy1 P N ⟨some d, .alloc bt, ty, pos, aft, g⟩ ⟨t, h⟩ (.ptr k 0 1 0 0) (upd h k (.live [⟨bt, cs.length, .av [cs]⟩])) ∧ ∀ k', h k' ≠ .no → upd h k (.live [⟨bt, cs.length, .av [cs]⟩]) k' = h k' := by
  refine ⟨fun E F μ w ρ H st => ?_, ext_upd hk⟩
  have e : (execOp ρ ⟨some d, .alloc bt, ty, pos, aft, g⟩).run P w = .ok (.value (.pointer (some ⟨w.heap.size, 0, none⟩))) (w.alloc (.cells ti.zero.cells bt)) := by
    simp [execOp, Instr.alloc, run_zero hT h1, newVar, newRow]
  rw [e]
  exact new_var H hk (by rw [← hc]; simp [constL_map]) fun j c hj => by
    rw [← hc, constL_map, List.getElem?_map, Array.getElem?_toList] at hj
    obtain ⟨u, hu, rfl⟩ := Option.map_eq_some_iff.1 hj
    exact ⟨u, hu, oneA_rep u⟩
theorem st_box (k : Nat) {bt : TypeId} {x : Operand} {cs : List AV} (hc : cellsA (evA N ⟨t, h⟩ x) = cs) (ho : okL cs = true) (hk : h k = .no) :
    Heavy1 P N ⟨some d, .box bt x, ty, pos, aft, g⟩ ⟨t, h⟩ (.ptr k 0 1 0 0) (upd h k (.live [⟨bt, cs.length, .av [cs]⟩])) ∧ ∀ k', h k' ≠ .no → upd h k (.live [⟨bt, cs.length, .av [cs]⟩]) k' = h k' := by
  refine ⟨fun E F μ w ρ H st => ?_, ext_upd hk⟩
  have e : (execOp ρ ⟨some d, .box bt x, ty, pos, aft, g⟩).run P w = .ok (.value (.pointer (some ⟨w.heap.size, 0, none⟩))) (w.alloc (.cells (ρ x).cells bt)) := by
    simp [execOp, Instr.box, newVar, newRow]
  rw [e]
  obtain ⟨c1, c2, _⟩ := (st x (by simp [Op.operands])).cells_ hc ho
  exact new_var H hk c1 c2

/-- a new row -/
theorem new_row {F : Nat → Prop} {μ : Places} {w : World} (H : HInv E F μ h w) {k : Nat} (hk : h k = .no) {et : TypeId} {sz c : Nat} {cc : Cells} {out : Array Value} (hs : out.size = c * sz) (hl : cc.len ≤ c) (hm : c ≤ maxLen)
    (hr : ∀ i cells, cc.get i = some cells → cells.length = sz ∧ ∀ (j : Nat) a, cells[j]? = some a → ∃ u, out[i * sz + j]? = some u ∧ ARep w F μ h u a) :
    ∃ F' μ', HInv E F' μ' (upd h k (.live [⟨et, sz, cc⟩])) (w.alloc (.cells out et)) ∧ Evo w F μ h (w.alloc (.cells out et)) F' μ' (upd h k (.live [⟨et, sz, cc⟩])) ∧
      ARep (w.alloc (.cells out et)) F' μ' (upd h k (.live [⟨et, sz, cc⟩])) (.slice (some ⟨w.heap.size, 0, none⟩) cc.len c) (.own k 0 cc.len) := by
  obtain ⟨H', V⟩ := H.alloc k hk ⟨et, sz, cc⟩ out hr
  refine ⟨F, _, H', V, .own _ _ _ _ rfl (by rw [upd_same]; intro e; cases e) fun o ho => ?_⟩
  rw [lv_upd_same] at ho
  simp at ho
  subst ho
  exact ⟨Nat.le_refl _, fun _ => .inr ⟨w.heap.size, c, out, updP_same _ _ _ _, rfl, Go.heap_alloc_new w _, hs, hl, hm⟩⟩
theorem buildSlice_run (hT : TOk P T) {bt e : TypeId} {len : Nat} {parts : Array (Nat × Operand)} {ti ei : TI} {es : List (List AV)} {ρ : Operand → Value} {F : Nat → Prop} {μ : Places} {w : World} (h1 : T bt = some ti) (h2 : ti.desc = .slice e) (h3 : T e = some ei)
    (hel : Els (evA N ⟨t, h⟩) ei.size 0 parts.toList es) (hlen : Nat.beq es.length len = true) (hpos : Nat.blt 0 (len * ei.size) = true) (hsm : Nat.ble (len * ei.size) 16777216 = true)
    (hst : ∀ p ∈ parts.toList, ARep w F μ h (ρ p.2) (evA N ⟨t, h⟩ p.2)) :
    ∃ out, (execOp ρ ⟨some d, .buildSlice bt len parts, ty, pos, aft, g⟩).run P w = .ok (.value (.slice (some ⟨w.heap.size, 0, none⟩) len len)) (w.alloc (.cells out e)) ∧ out.size = len * ei.size ∧
      ∀ (i : Nat) x, es[i]? = some x → x.length = ei.size ∧ okL x = true ∧ ∀ (j : Nat) a, x[j]? = some a → ∃ u, out[i * ei.size + j]? = some u ∧ ARep w F μ h u a := by
  have hl : es.length = len := Nat.eq_of_beq_eq_true hlen
  have hp := blt_lt hpos
  have hs := Nat.le_of_ble_eq_true hsm
  obtain ⟨hu, _⟩ := hT _ _ h1
  rw [h2] at hu
  obtain ⟨_, ie, hie, hsz, _, hz⟩ := hT _ _ h3
  obtain ⟨out, o1, o2, o3, o4⟩ := hel.fill_ (w := w) (F := F) (μ := μ) (hh := h) (ρ := ρ) ((Array.range (len * ei.size)).map (ei.zero.cells[· % ei.zero.cells.size]!)) (by simp [hl]) hst
  refine ⟨out, ?_, by rw [o2]; simp, fun i x hx => by have := o4 i x hx; simpa using this⟩
  simp only [execOp]
  rw [Sem.run_bind]
  have e1 : (parts.map fun (x : Nat × Operand) => match x with | (i, x) => (i, ρ x)).toList = parts.toList.map fun p => (p.1, ρ p.2) := by simp
  rw [run_buildSlice w bt e len _ out ie ei.zero hu hie hz (by rw [hsz]; omega) (by rw [hsz]; omega) (by rw [hsz, e1]; exact o1)]
  rfl
theorem st_slice (k : Nat) (hT : TOk P T) {bt e : TypeId} {len : Nat} {parts : Array (Nat × Operand)} {ti ei : TI} {es : List (List AV)} {cc : Cells} (h1 : T bt = some ti) (h2 : ti.desc = .slice e) (h3 : T e = some ei)
    (hel : Els (evA N ⟨t, h⟩) ei.size 0 parts.toList es) (hlen : Nat.beq es.length len = true) (hpos : Nat.blt 0 (len * ei.size) = true) (hsm : Nat.ble (len * ei.size) 16777216 = true) (hcc : Lay es cc) (hk : h k = .no) :
    Heavy1 P N ⟨some d, .buildSlice bt len parts, ty, pos, aft, g⟩ ⟨t, h⟩ (.own k 0 len) (upd h k (.live [⟨e, ei.size, cc⟩])) ∧ ∀ k', h k' ≠ .no → upd h k (.live [⟨e, ei.size, cc⟩]) k' = h k' := by
  refine ⟨fun E F μ w ρ H st => ?_, ext_upd hk⟩
  obtain ⟨out, o1, o2, o3⟩ := buildSlice_run (d := d) (ty := ty) (pos := pos) (aft := aft) (g := g) (ρ := ρ) hT h1 h2 h3 hel hlen hpos hsm fun p hp => st p.2 (by simp only [Op.operands]; simp; exact ⟨p.1, by simpa using hp⟩)
  rw [o1]
  have hl : cc.len = len := hcc.len_.trans (Nat.eq_of_beq_eq_true hlen)
  have hs := Nat.le_of_ble_eq_true hsm
  have hp := blt_lt hpos
  have hlm : len ≤ len * ei.size := le_mul_pos hp
  have := new_row (et := e) H hk o2 (show cc.len ≤ len by omega) (by unfold maxLen; omega) fun i cells hi => by
    rw [hcc.get_] at hi
    exact ⟨(o3 i cells hi).1, (o3 i cells hi).2.2⟩
  rw [hl] at this
  exact this
/-- a slice literal of data, frozen at once -/
theorem st_slice_val (hT : TOk P T) {bt e : TypeId} {len : Nat} {parts : Array (Nat × Operand)} {ti ei : TI} {es : List (List AV)} {ds : List (List DV)} (h1 : T bt = some ti) (h2 : ti.desc = .slice e) (h3 : T e = some ei)
    (hel : Els (evA N ⟨t, h⟩) ei.size 0 parts.toList es) (hlen : Nat.beq es.length len = true) (hpos : Nat.blt 0 (len * ei.size) = true) (hsm : Nat.ble (len * ei.size) 16777216 = true) (hcc : AllDD es ds) :
    Heavy1 P N ⟨some d, .buildSlice bt len parts, ty, pos, aft, g⟩ ⟨t, h⟩ (.d (.sl ds)) h ∧ ∀ k', h k' ≠ .no → h k' = h k' := by
  refine ⟨fun E F μ w ρ H st => ?_, fun _ _ => rfl⟩
  obtain ⟨out, o1, o2, o3⟩ := buildSlice_run (d := d) (ty := ty) (pos := pos) (aft := aft) (g := g) (ρ := ρ) hT h1 h2 h3 hel hlen hpos hsm fun p hp => st p.2 (by simp only [Op.operands]; simp; exact ⟨p.1, by simpa using hp⟩)
  rw [o1]
  obtain ⟨H', V⟩ := H.ice (.cells out e)
  have hl : ds.length = len := by have := Nat.eq_of_beq_eq_true hlen; rw [hcc.eq_] at this; simpa using this
  have hs := Nat.le_of_ble_eq_true hsm
  have hp := blt_lt hpos
  have hlm : len ≤ len * ei.size := le_mul_pos hp
  have hat : ∀ (i : Nat) (x : List DV), ds[i]? = some x → x.length = ei.size ∧ ∀ (j : Nat) y, x[j]? = some y → ∃ u, out[i * ei.size + j]? = some u ∧ ARep w F μ h u (.d y) := fun i x hx => by
    obtain ⟨a1, _, a2⟩ := o3 i (x.map .d) (by rw [hcc.eq_]; simp [hx])
    exact ⟨by simpa using a1, fun j y hy => a2 j (.d y) (by simp [hy])⟩
  refine ⟨_, μ, H', V, .d _ _ ?_⟩
  rw [← hl]
  refine .sl w.heap.size 0 ds.length ei.size ds (fun i j => out.getD (i * ei.size + j) undef) (.inr rfl) (Nat.le_refl _) (by unfold maxLen; omega) (fun i x hx => (hat i x hx).1) (fun i x j y hx hy => ?_) (fun i x j y hx hy => ?_)
  · obtain ⟨u, hu, _⟩ := (hat i x hx).2 j y hy
    rw [Nat.zero_add, cell_of_row _ _ _ out e (0, 0) (Go.heap_alloc_new w _), hu]
    simp [hu]
  · obtain ⟨u, hu, hr⟩ := (hat i x hx).2 j y hy
    have e1 : out.getD (i * ei.size + j) undef = u := by simp [hu]
    rw [e1]
    have := hr.evo V
    cases this with | d _ _ hd => exact hd
/-- an empty slice literal -/
theorem st_slice0 (k : Nat) (hT : TOk P T) {bt e : TypeId} {ti ei : TI} (h1 : T bt = some ti) (h2 : ti.desc = .slice e) (h3 : T e = some ei) (hk : h k = .no) :
    Heavy1 P N ⟨some d, .buildSlice bt 0 #[], ty, pos, aft, g⟩ ⟨t, h⟩ (.own k 0 0) (upd h k (.live [⟨e, ei.size, .data []⟩])) ∧ ∀ k', h k' ≠ .no → upd h k (.live [⟨e, ei.size, .data []⟩]) k' = h k' := by
  refine ⟨fun E F μ w ρ H st => ?_, ext_upd hk⟩
  obtain ⟨hu, _⟩ := hT _ _ h1
  rw [h2] at hu
  have e1 : (execOp ρ ⟨some d, .buildSlice bt 0 #[], ty, pos, aft, g⟩).run P w = .ok (.value (.slice (some ⟨w.heap.size, 0, none⟩) 0 0)) (w.alloc (.cells #[] e)) := by
    simp [execOp, Instr.buildSlice, run_underlying hu, run_sizeOf hT h3, Instr.fill, newRow, Array.range_zero']
  rw [e1]
  exact new_row (cc := .data []) (c := 0) H hk (by simp) (Nat.le_refl _) (by unfold maxLen; omega) fun i cells hi => by simp [Cells.get] at hi
def dvOf : Value → DV
  | .slice none 0 0 => .sl []
  | v => .v v
def dvL : List Value → List DV
  | [] => []
  | v :: vs => dvOf v :: dvL vs
theorem dvL_map : ∀ l, dvL l = l.map dvOf
  | [] => rfl
  | v :: vs => by simp [dvL, dvL_map vs]
/-- a zero cell: a plain value, or a nil slice -/
def zeroCell : Value → Bool
  | .slice none 0 0 => true
  | v => v.oneCell'
def oneL : List Value → Bool
  | [] => true
  | v :: vs => zeroCell v && oneL vs
theorem zeroCell_rep {w : World} {F : Nat → Prop} {v : Value} (h : zeroCell v = true) : DRep w F v (dvOf v) := by
  unfold dvOf
  split
  · exact .nil
  · rename_i hn
    refine .v _ ?_
    unfold zeroCell at h
    split at h
    · exact absurd rfl hn
    · exact h
theorem oneL_get : ∀ {l : List Value}, oneL l = true → ∀ v ∈ l, zeroCell v = true
  | [], _, v, hv => by cases hv
  | x :: l, h, v, hv => by
    simp [oneL] at h
    rcases List.mem_cons.1 hv with rfl | hv
    · exact h.1
    · exact oneL_get h.2 v hv
/-- make -/
theorem st_make (k : Nat) (hT : TOk P T) {bt e : TypeId} {x y : Operand} {kx ky : IntKind} {a b : Int} {l c : Nat} {ti ei : TI} {zs : List DV} (hx : evA N ⟨t, h⟩ x = .d (.v (.int kx a))) (hy : evA N ⟨t, h⟩ y = .d (.v (.int ky b))) (ha : a = (l : Int)) (hb : b = (c : Int)) (hlc : l ≤ c)
    (h1 : T bt = some ti) (h2 : ti.desc = .slice e) (h3 : T e = some ei) (hz : dvL ei.zero.cells.toList = zs) (hone : oneL ei.zero.cells.toList = true) (hzs : Nat.beq zs.length ei.size = true) (hpos : Nat.blt 0 ei.size = true) (hby : ei.bytes * c ≤ 281474976710656) (hm : c ≤ 9223372036854775807) (hk : h k = .no) :
    Heavy1 P N ⟨some d, .makeSlice bt x y, ty, pos, aft, g⟩ ⟨t, h⟩ (.own k 0 l) (upd h k (.live [⟨e, ei.size, .data (List.replicate l zs)⟩])) ∧ ∀ k', h k' ≠ .no → upd h k (.live [⟨e, ei.size, .data (List.replicate l zs)⟩]) k' = h k' := by
  refine ⟨fun E F μ w ρ H st => ?_, ext_upd hk⟩
  have e1 := rep_v (by have := st x (by simp [Op.operands]); rw [hx] at this; exact this)
  have e2 := rep_v (by have := st y (by simp [Op.operands]); rw [hy] at this; exact this)
  obtain ⟨hu, _⟩ := hT _ _ h1
  rw [h2] at hu
  obtain ⟨_, ie, hie, hsz, hbb, hzz⟩ := hT _ _ h3
  subst ha hb
  have hby' : (ei.bytes : Int) * (c : Int) ≤ 281474976710656 := by
    have : ((ei.bytes * c : Nat) : Int) ≤ 281474976710656 := by omega
    rwa [Int.natCast_mul] at this
  have hrun := run_make (P := P) w bt e ie ei.zero hu hie hzz kx ky l c (by omega) (by omega) (by rw [hbb]; exact hby') (by omega)
  rw [Int.toNat_natCast, Int.toNat_natCast, hsz] at hrun
  have e3 : (execOp ρ ⟨some d, .makeSlice bt x y, ty, pos, aft, g⟩).run P w = .ok (.value (.slice (some ⟨w.heap.size, 0, none⟩) l c)) (w.alloc (.cells (madeCells ei.zero.cells (c * ei.size)) e)) := by
    simp only [execOp, e1, e2]
    rw [Sem.run_bind, hrun]; rfl
  rw [e3]
  have hp := blt_lt hpos
  have hlen : ei.zero.cells.size = ei.size := by
    have := Nat.eq_of_beq_eq_true hzs
    rw [← hz, dvL_map] at this
    simpa using this
  have := new_row (cc := .data (List.replicate l zs)) (et := e) H hk (size_madeCells ei.zero.cells (c * ei.size)) (by simpa [Cells.len] using hlc) (by unfold maxLen; omega) fun i cells hi => by
    simp only [Cells.get] at hi
    obtain ⟨q, hq, rfl⟩ := Option.map_eq_some_iff.1 hi
    have hil : i < l := by have := (List.getElem?_eq_some_iff.1 hq).1; simpa using this
    have hqz : q = zs := by have := List.mem_of_getElem? hq; exact (List.mem_replicate.1 this).2
    subst hqz
    refine ⟨by rw [List.length_map]; exact Nat.eq_of_beq_eq_true hzs, fun j a hj => ?_⟩
    rw [← hz, dvL_map, List.map_map, List.getElem?_map, Array.getElem?_toList] at hj
    obtain ⟨u, hu', rfl⟩ := Option.map_eq_some_iff.1 hj
    have hjl : j < ei.size := by have := (Array.getElem?_eq_some_iff.1 hu').1; omega
    have hidx : i * ei.size + j < c * ei.size := by
      have : (i + 1) * ei.size ≤ c * ei.size := Nat.mul_le_mul_right _ (by omega)
      rw [Nat.add_mul] at this
      omega
    refine ⟨u, ?_, .d _ _ (zeroCell_rep (oneL_get hone u (by simpa using Array.mem_of_getElem? hu')))⟩
    simp only [madeCells, Array.getElem?_map]
    rw [Array.getElem?_range, if_pos hidx]
    simp only [Option.map_some, hlen]
    rw [Nat.mul_comm, Nat.mul_add_mod, Nat.mod_eq_of_lt hjl, getElem!_def, hu']
  have h5 : (Cells.data (List.replicate l zs)).len = l := by simp [Cells.len]
  rw [h5] at this
  exact this
end
end Go.Proofs.YtjhadibjjldpdaaGreat
