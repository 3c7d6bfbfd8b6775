/- An abstract machine, K: operations that write memory. No program. -/
import Derived.Test.YtjhadibjjldpdaaGreatAmJ
namespace Go.Proofs.YtjhadibjjldpdaaGreat
open Go.RowKit
set_option linter.unusedVariables false
set_option maxRecDepth 100000

/-- one element set -/
inductive SetC : Cells → Nat → List AV → Cells → Prop
  | box (c c' : List AV) : SetC (.av [c]) 0 c' (.av [c'])
  | data (es : List (List DV)) (i : Nat) {c' : List AV} {e' : List DV} (h : AllD c' e') : SetC (.data es) i c' (.data (es.set i e'))
  | av (es : List (List AV)) (i : Nat) (c' : List AV) : SetC (.av es) i c' (.av (es.set i c'))
theorem SetC.spec {c c' : Cells} {i : Nat} {x : List AV} (h : SetC c i x c') : c'.len = c.len ∧ (i < c.len → c'.get i = some x) ∧ ∀ i' : Nat, i' ≠ i → c'.get i' = c.get i' := by
  cases h with
  | box c c' => refine ⟨rfl, fun _ => rfl, fun i' hi => ?_⟩; cases i' with
    | zero => exact absurd rfl hi
    | succ i => rfl
  | data es i h =>
    refine ⟨by simp [Cells.len], fun hi => ?_, fun i' hi => ?_⟩
    · simp only [Cells.get]; rw [List.getElem?_set_self (by simpa [Cells.len] using hi), h.eq_]; rfl
    · simp only [Cells.get]; rw [List.getElem?_set_ne (Ne.symm hi)]
  | av es i c' =>
    refine ⟨by simp [Cells.len], fun hi => ?_, fun i' hi => ?_⟩
    · simp only [Cells.get]; rw [List.getElem?_set_self (by simpa [Cells.len] using hi)]
    · simp only [Cells.get]; rw [List.getElem?_set_ne (Ne.symm hi)]
inductive SetO : List AObj → Nat → AObj → List AObj → Prop
  | one (o o' : AObj) : SetO [o] 0 o' [o']
  | gen (l : List AObj) (f : Nat) (o' : AObj) : SetO l f o' (l.set f o')
theorem SetO.eq_ {l l' : List AObj} {f : Nat} {o : AObj} (h : SetO l f o l') : l' = l.set f o := by cases h <;> rfl
theorem mid_get {α : Type} (cur vs : List α) (off : Nat) (hf : off + vs.length ≤ cur.length) (q : Nat) : (cur.take off ++ vs ++ cur.drop (off + vs.length))[q]? = if off ≤ q ∧ q < off + vs.length then vs[q - off]? else cur[q]? := by
  have h1 : (cur.take off).length = off := by simp; omega
  by_cases a : q < off
  · rw [if_neg (by omega), List.append_assoc, List.getElem?_append_left (by omega), List.getElem?_take, if_pos a]
  · by_cases b : q < off + vs.length
    · rw [if_pos ⟨by omega, b⟩, List.append_assoc, List.getElem?_append_right (by omega), h1, List.getElem?_append_left (by omega)]
    · rw [if_neg (by omega), List.getElem?_append_right (by simp; omega), List.getElem?_drop]
      congr 1
      simp
      omega
theorem row_ne {i i' j j' sz n : Nat} (hne : i' ≠ i) (h1 : j' < sz) (h2 : j + n ≤ sz) : ¬ (i * sz + j ≤ i' * sz + j' ∧ i' * sz + j' < i * sz + j + n) := by
  rcases Nat.lt_or_gt_of_ne hne with h | h
  · have : (i' + 1) * sz ≤ i * sz := Nat.mul_le_mul_right _ h
    rw [Nat.add_mul] at this
    omega
  · have : (i + 1) * sz ≤ i' * sz := Nat.mul_le_mul_right _ h
    rw [Nat.add_mul] at this
    omega
section
variable {P : Program} {T : Tab} {N : Nat} {ops : Array Oper} {E : Env} {K : List (Nat × Cls) → AS → Prop} {i : Nat} {is : List Nat} {t : Nat → AV} {h h' : Heap} {d : Tmp} {dst : Option Tmp} {op : Op} {ty : TypeId} {pos : String} {aft : Array Edge} {g : Option (Nat × Bool)}

theorem wr_store (hT : TOk P T) {bt : TypeId} {x y : Operand} {k f n ix j : Nat} {l l' : List AObj} {o : AObj} {cells cs cells' : List AV} {cc' : Cells} {ti : TI} (hx : evA N ⟨t, h⟩ x = .ptr k f n ix j) (hy : cellsA (evA N ⟨t, h⟩ y) = cs) (ho : okL cs = true) (h1 : T bt = some ti)
    (hl : Nat.beq cs.length ti.size = true) (hpos : Nat.blt 0 ti.size = true) (hk : h k = .live l) (hf : l[f]? = some o) (hn : o.cs.len = n) (hi : o.cs.get ix = some cells) (hs : Spl j cs cells cells') (hc : SetC o.cs ix cells' cc') (hl' : SetO l f ⟨o.ty, o.sz, cc'⟩ l') :
    Heavy1 P N ⟨dst, .store bt x y, ty, pos, aft, g⟩ ⟨t, h⟩ .dead (upd h k (.live l')) := fun E F μ w ρ H st => by
  have hr := st x (by simp [Op.operands])
  have hr2 := st y (by simp [Op.operands])
  rw [hx] at hr
  obtain ⟨v1, v2, v3⟩ := hr2.cells_ hy ho
  have hlo : lv h k f = some o := (lv_live hk f).trans hf
  obtain ⟨b, cur, hv, hm, hb, hlen, hcs⟩ := ptr_at H hr hlo hn hi
  obtain ⟨s1, s2, s3, s4⟩ := hs.spec
  obtain ⟨c1, c2, c3⟩ := hc.spec
  have hsz : cs.length = ti.size := Nat.eq_of_beq_eq_true hl
  have hp := blt_lt hpos
  have hix := get_lt hi
  have hfit : ix * o.sz + j + cs.length ≤ cur.size := by
    obtain ⟨u, hu, _⟩ := hcs (j + cs.length - 1) _ (List.getElem?_eq_getElem (show j + cs.length - 1 < cells.length by omega))
    have := (Array.getElem?_eq_some_iff.1 hu).1
    omega
  have hvl : (ρ y).cells.toList.length = cs.length := by simpa using v1
  have hst := run_storeCells_at P b (ix * o.sz + j) o.ty (ρ y).cells.toList 0 cur w hb (by omega) (fun v hv => v3 v (by simpa using hv))
  simp only [Nat.add_zero] at hst
  have e : (execOp ρ ⟨dst, .store bt x y, ty, pos, aft, g⟩).run P w = .ok .skip (w.setRow b (cur.toList.take (ix * o.sz + j) ++ (ρ y).cells.toList ++ cur.toList.drop (ix * o.sz + j + (ρ y).cells.toList.length)).toArray) := by
    simp only [execOp, hv, Instr.storeAt, Instr.sureAddr, storeVar]
    simp [Sem.run_bind, run_sizeOf hT h1, v1, hsz]
    have hst' := hst
    simp only [Array.length_toList, v1, hsz] at hst'
    rw [hst']
    simp
  rw [e]
  have hmid : ∀ q, ((cur.toList.take (ix * o.sz + j) ++ (ρ y).cells.toList ++ cur.toList.drop (ix * o.sz + j + (ρ y).cells.toList.length)).toArray)[q]? = if ix * o.sz + j ≤ q ∧ q < ix * o.sz + j + cs.length then (ρ y).cells[q - (ix * o.sz + j)]? else cur[q]? := fun q => by
    rw [List.getElem?_toArray, mid_get _ _ _ (by rw [hvl]; simpa using hfit), hvl, Array.getElem?_toList, Array.getElem?_toList]
  have hsize : (cur.toList.take (ix * o.sz + j) ++ (ρ y).cells.toList ++ cur.toList.drop (ix * o.sz + j + (ρ y).cells.toList.length)).toArray.size = cur.size := by
    simp only [List.size_toArray, List.length_append, List.length_take, List.length_drop, hvl, Array.length_toList]; omega
  obtain ⟨H', V⟩ := H.put (w' := w.setRow b (cur.toList.take (ix * o.sz + j) ++ (ρ y).cells.toList ++ cur.toList.drop (ix * o.sz + j + (ρ y).cells.toList.length)).toArray) hk hf (o' := ⟨o.ty, o.sz, cc'⟩) b
    (cur.toList.take (ix * o.sz + j) ++ (ρ y).cells.toList ++ cur.toList.drop (ix * o.sz + j + (ρ y).cells.toList.length)).toArray (by simp) rfl rfl rfl (fun b' _ hne => setRow_other w b b' _ (fun e => hne (by rw [hm, e]))) (.inl hm) (by simp; exact (Array.getElem?_eq_some_iff.1 hb).1)
    (setRow_heap w b cur _ o.ty _ hb) (.inr ⟨c1.symm, rfl, rfl, hm, fun cur2 hc2 => by rw [hb] at hc2; injection hc2 with hc2; injection hc2 with hc2; rw [← hc2]; exact hsize⟩) (fun i' cl hcl => by
      obtain ⟨b0, cur0, hm0, hb0, hat⟩ := own_at H hlo (by omega)
      have e0 : b0 = b := by rw [hm] at hm0; injection hm0 with hm0; exact hm0.symm
      subst e0
      have e1 : cur0 = cur := by rw [hb] at hb0; injection hb0 with hb0; injection hb0 with hb0; exact hb0.symm
      subst e1
      by_cases e : i' = ix
      · subst e
        rw [c2 hix] at hcl
        injection hcl with hcl
        subst hcl
        refine ⟨s1.trans hlen, fun j' a hj' => ?_⟩
        rw [hmid]
        by_cases hr : j ≤ j' ∧ j' < j + cs.length
        · rw [if_pos (show i' * o.sz + j ≤ i' * o.sz + j' ∧ i' * o.sz + j' < i' * o.sz + j + cs.length by omega)]
          have := s4 (j' - j) (by omega)
          rw [show j + (j' - j) = j' by omega, hj'] at this
          obtain ⟨u, hu, hru⟩ := v2 _ a this.symm
          exact ⟨u, by rw [show i' * o.sz + j' - (i' * o.sz + j) = j' - j by omega]; exact hu, hru⟩
        · rw [if_neg (show ¬ (i' * o.sz + j ≤ i' * o.sz + j' ∧ i' * o.sz + j' < i' * o.sz + j + cs.length) by omega)]
          rw [s3 j' (by omega)] at hj'
          exact hcs j' a hj'
      · rw [c3 i' e] at hcl
        obtain ⟨a1, a2⟩ := hat i' cl hcl
        refine ⟨a1, fun j' a hj' => ?_⟩
        have hjl : j' < cl.length := (List.getElem?_eq_some_iff.1 hj').1
        rw [hmid, if_neg (row_ne e (show j' < o.sz by omega) (by omega))]
        exact a2 j' a hj')
  rw [hl'.eq_]
  exact ⟨F, _, H', V, .dead _⟩

/-! append -/
def ReadsAs (w : World) (F : Nat → Prop) (μ : Places) (h : Heap) (v : Value) (sz : Nat) (xc : Cells) : Prop :=
  ∃ A c, v = .slice A xc.len c ∧ (xc.len = 0 ∨ ∃ b off, A = some ⟨b, off, none⟩ ∧ ∀ i cells, xc.get i = some cells → cells.length = sz ∧ ∀ (j : Nat) a, cells[j]? = some a → ∃ u, w.cell? ⟨b, off + i * sz + j, none⟩ = some u ∧ u.oneCell' = true ∧ ARep w F μ h u a)
theorem reads_sl {F : Nat → Prop} {μ : Places} {w : World} {v : Value} {sz : Nat} {es : List (List DV)} (r : ARep w F μ h v (.d (.sl es))) (hs : ∀ e ∈ es, e.length = sz) : ReadsAs w F μ h v sz (.data es) := by
  cases r with | d _ _ hd =>
  cases hd with
  | nil => exact ⟨none, 0, rfl, .inl rfl⟩
  | emp A c hm => exact ⟨A, c, rfl, .inl rfl⟩
  | sl b off c sz' es gg hF hc hm hz hg hr =>
    refine ⟨_, c, rfl, .inr ⟨b, off, rfl, fun i cells hi => ?_⟩⟩
    simp only [Cells.get] at hi
    obtain ⟨e, he, rfl⟩ := Option.map_eq_some_iff.1 hi
    have h1 := hs e (List.mem_of_getElem? he)
    have h2 : sz' = sz := (hz i e he).symm.trans h1
    subst h2
    refine ⟨by rw [List.length_map]; exact h1, fun j a hj => ?_⟩
    rw [List.getElem?_map] at hj
    obtain ⟨x, hx, rfl⟩ := Option.map_eq_some_iff.1 hj
    exact ⟨gg i j, hg i e j x he hx, (hr i e j x he hx).one_, .d _ _ (hr i e j x he hx)⟩
def Cells.oks : Cells → Prop
  | .data _ => True
  | .av es => ∀ e ∈ es, okL e = true
theorem oks_get {c : Cells} (hf : c.oks) {i : Nat} {cells : List AV} (hi : c.get i = some cells) {j : Nat} {a : AV} (hj : cells[j]? = some a) : ok1 a = true := by
  cases c with
  | data es =>
    simp only [Cells.get] at hi
    obtain ⟨e, he, rfl⟩ := Option.map_eq_some_iff.1 hi
    simp only [List.getElem?_map] at hj
    obtain ⟨x, hx, rfl⟩ := Option.map_eq_some_iff.1 hj
    rfl
  | av es => exact okL_get (hf cells (List.mem_of_getElem? hi)) hj
theorem reads_own {F : Nat → Prop} {μ : Places} {w : World} (H : HInv E F μ h w) {v : Value} {k f n : Nat} {o : AObj} (r : ARep w F μ h v (.own k f n)) (ho : lv h k f = some o) (hn : o.cs.len = n) (hok : o.cs.oks) : ReadsAs w F μ h v o.sz o.cs := by
  cases r with | own _ _ _ _ g1 hb hv =>
  rcases (hv o ho).2 hn with ⟨h1, h2, h3⟩ | ⟨b, c, cur, h1, h2, h3, h4, h5, h6⟩
  · exact ⟨none, 0, by rw [h3, hn, h2], .inl (by omega)⟩
  · rcases Nat.eq_zero_or_pos o.cs.len with e | e
    · exact ⟨_, c, by rw [h2, hn], .inl e⟩
    · obtain ⟨b', cur', m1, m2, m3⟩ := own_at H ho e
      rw [h1] at m1
      injection m1 with m1
      subst m1
      rw [h3] at m2
      injection m2 with m2
      injection m2 with m2
      subst m2
      refine ⟨_, c, by rw [h2, hn], .inr ⟨b, 0, rfl, fun i cells hi => ⟨(m3 i cells hi).1, fun j a hj => ?_⟩⟩⟩
      obtain ⟨u, hu, hr⟩ := (m3 i cells hi).2 j a hj
      exact ⟨u, by rw [Nat.zero_add, cell_of_row w b _ cur o.ty (0, 0) h3, hu], hr.one_ (oks_get hok hi hj), hr⟩
inductive App : Cells → Cells → Cells → Prop
  | data (a b : List (List DV)) : App (.data a) (.data b) (.data (a ++ b))
  | av (a b : List (List AV)) : App (.av a) (.av b) (.av (a ++ b))
  | nil (b : List (List AV)) : App (.data []) (.av b) (.av b)
theorem App.spec {a b c : Cells} (h : App a b c) : c.len = a.len + b.len ∧ (∀ i, i < a.len → c.get i = a.get i) ∧ ∀ i, c.get (a.len + i) = b.get i := by
  cases h with
  | data a b => refine ⟨by simp [Cells.len], fun i hi => ?_, fun i => ?_⟩
                · simp only [Cells.get]; rw [List.getElem?_append_left (by simpa [Cells.len] using hi)]
                · simp only [Cells.get, Cells.len]; rw [List.getElem?_append_right (by omega), Nat.add_sub_cancel_left]
  | av a b => refine ⟨by simp [Cells.len], fun i hi => ?_, fun i => ?_⟩
              · simp only [Cells.get]; rw [List.getElem?_append_left (by simpa [Cells.len] using hi)]
              · simp only [Cells.get, Cells.len]; rw [List.getElem?_append_right (by omega), Nat.add_sub_cancel_left]
  | nil b => exact ⟨by simp [Cells.len], fun i hi => by simp [Cells.len] at hi, fun i => by simp [Cells.get, Cells.len]⟩
/-- what is read, cell by cell -/
theorem reads_flat {F : Nat → Prop} {μ : Places} {w : World} {sz : Nat} {xc : Cells} {b off : Nat} (hsz : 0 < sz) (hall : ∀ i, i < xc.len → (xc.get i).isSome = true)
    (hr : ∀ i cells, xc.get i = some cells → cells.length = sz ∧ ∀ (j : Nat) a, cells[j]? = some a → ∃ u, w.cell? ⟨b, off + i * sz + j, none⟩ = some u ∧ u.oneCell' = true ∧ ARep w F μ h u a) :
    ∃ nv : List Value, nv.length = xc.len * sz ∧ (∀ (q : Nat) u, nv[q]? = some u → w.cell? ((⟨b, off, none⟩ : Addr).add q) = some u) ∧ (∀ u ∈ nv, u.oneCell' = true) ∧
      ∀ i cells, xc.get i = some cells → ∀ (j : Nat) a, cells[j]? = some a → ∃ u, nv[i * sz + j]? = some u ∧ ARep w F μ h u a := by
  have at_ : ∀ q, q < xc.len * sz → ∃ cells a u, xc.get (q / sz) = some cells ∧ cells[q % sz]? = some a ∧ w.cell? ⟨b, off + q, none⟩ = some u ∧ u.oneCell' = true ∧ ARep w F μ h u a := fun q hq => by
    have hi : q / sz < xc.len := by rw [Nat.div_lt_iff_lt_mul hsz]; exact hq
    obtain ⟨cells, hc⟩ := Option.isSome_iff_exists.1 (hall _ hi)
    have hm : q % sz < sz := Nat.mod_lt _ hsz
    obtain ⟨h1, h2⟩ := hr _ cells hc
    obtain ⟨u, hu, ho, hr'⟩ := h2 (q % sz) _ (List.getElem?_eq_getElem (by omega))
    have hq2 : q / sz * sz + q % sz = q := by rw [Nat.mul_comm]; exact Nat.div_add_mod q sz
    exact ⟨cells, _, u, hc, List.getElem?_eq_getElem (by omega), by rw [← hq2, ← Nat.add_assoc]; exact hu, ho, hr'⟩
  refine ⟨(List.range (xc.len * sz)).map fun q => (w.cell? ⟨b, off + q, none⟩).getD undef, by simp, fun q u hq => ?_, fun u hu => ?_, fun i cells hi j a hj => ?_⟩
  · have hlt : q < xc.len * sz := by have := (List.getElem?_eq_some_iff.1 hq).1; simpa using this
    obtain ⟨_, _, u', _, _, hu', _, _⟩ := at_ q hlt
    rw [List.getElem?_map, List.getElem?_range hlt] at hq
    simp [hu'] at hq
    subst hq
    rw [addr_add]; exact hu'
  · obtain ⟨q, hq, rfl⟩ := List.mem_map.1 hu
    obtain ⟨_, _, u', _, _, hu', ho, _⟩ := at_ q (by simpa using hq)
    simp [hu', ho]
  · have hil := get_lt hi
    obtain ⟨h1, h2⟩ := hr i cells hi
    have hjl : j < cells.length := (List.getElem?_eq_some_iff.1 hj).1
    obtain ⟨u, hu, _, hr'⟩ := h2 j a hj
    have hlt : i * sz + j < xc.len * sz := by
      have : (i + 1) * sz ≤ xc.len * sz := Nat.mul_le_mul_right _ hil
      rw [Nat.add_mul] at this
      omega
    refine ⟨u, ?_, hr'⟩
    rw [List.getElem?_map, List.getElem?_range hlt]
    simp [← Nat.add_assoc, hu]
theorem get_some {c : Cells} {i : Nat} (h : i < c.len) : (c.get i).isSome = true := by
  cases c with
  | data es => simp only [Cells.get, Option.isSome_map]; simpa [Cells.len] using h
  | av es => simp only [Cells.get]; simpa [Cells.len] using h
theorem append_core (hT : TOk P T) {bt e ty : TypeId} {ti ei : TI} (h1 : T bt = some ti) (h2 : ti.desc = .slice e) (h3 : T e = some ei) (hzs : Nat.beq ei.zero.cells.size ei.size = true) (hpos : Nat.blt 0 ei.size = true)
    {F : Nat → Prop} {μ : Places} {w : World} (H : HInv E F μ h w) {k f n : Nat} {l : List AObj} {o : AObj} {xc cc : Cells} (hk : h k = .live l) (hf : l[f]? = some o) (hn : o.cs.len = n) (hty : o.ty = e) (hsz : o.sz = ei.size) {v x : Value} (hv : OwnV w (μ k f) o n v) (hx : ReadsAs w F μ h x ei.size xc)
    (happ : App o.cs xc cc) (hby : (n + xc.len) * ei.bytes ≤ 140737488355328) (hm : n + xc.len ≤ 140737488355328) :
    ∃ v' w', (Builtin.append_ #[bt, bt] ty #[v, x]).run P w = .ok v' w' ∧ ∃ F' μ', HInv E F' μ' (upd h k (.live (l.set f ⟨o.ty, o.sz, cc⟩))) w' ∧ Evo w F μ h w' F' μ' (upd h k (.live (l.set f ⟨o.ty, o.sz, cc⟩))) ∧ ARep w' F' μ' (upd h k (.live (l.set f ⟨o.ty, o.sz, cc⟩))) v' (.own k f (n + xc.len)) := by
  obtain ⟨hu, _⟩ := hT _ _ h1
  rw [h2] at hu
  obtain ⟨_, ie, hie, hisz, hib, hiz⟩ := hT _ _ h3
  have hzs' : ei.zero.cells.size = ei.size := Nat.eq_of_beq_eq_true hzs
  have hp := blt_lt hpos
  have hlo : lv h k f = some o := (lv_live hk f).trans hf
  have hfl : f < l.length := (List.getElem?_eq_some_iff.1 hf).1
  obtain ⟨a1, a2, a3⟩ := happ.spec
  obtain ⟨A, c0, rfl, hxx⟩ := hx
  have lvnew : ∀ o', lv (upd h k (.live (l.set f ⟨o.ty, o.sz, cc⟩))) k f = some o' → o' = ⟨o.ty, o.sz, cc⟩ := fun o' ho' => by
    rw [lv_upd_same, List.getElem?_set_self hfl] at ho'
    injection ho' with ho'
    exact ho'.symm
  have bornn : upd h k (.live (l.set f ⟨o.ty, o.sz, cc⟩)) k ≠ .no := by rw [upd_same]; intro e; cases e
  by_cases hm0 : xc.len = 0
  · -- nothing is appended
    have hcs : ∀ i, cc.get i = o.cs.get i := fun i => by
      rcases Nat.lt_or_ge i o.cs.len with hlt | hge
      · exact a2 i hlt
      · have e1 : cc.get i = none := by
          cases hc : cc.get i with
          | none => rfl
          | some q => have := get_lt hc; omega
        have e2 : o.cs.get i = none := by
          cases hc : o.cs.get i with
          | none => rfl
          | some q => have := get_lt hc; omega
        rw [e1, e2]
    have hlen : cc.len = o.cs.len := by omega
    have hrun : (Builtin.append_ #[bt, bt] ty #[v, .slice A xc.len c0]).run P w = .ok v w := by
      rw [hm0]
      rcases hv with ⟨_, h5, rfl⟩ | ⟨b, c, cur, _, rfl, _, _, h9, _⟩
      · cases A <;> simp [Builtin.append_, run_underlying hu, sizeOf, typeInfo, hie, Builtin.lenOf, Builtin.firstCells, loadCells, loadCellsFrom]
      · cases A <;> simp [Builtin.append_, run_underlying hu, sizeOf, typeInfo, hie, Builtin.lenOf, Builtin.firstCells, loadCells, loadCellsFrom, h9, storeCells]
    refine ⟨v, w, hrun, ?_⟩
    have V : Evo w F μ h w F μ (upd h k (.live (l.set f ⟨o.ty, o.sz, cc⟩))) := by
      refine ⟨fun _ _ => rfl, fun _ hb => hb, fun k' hb => ?_, fun k' f' o1 hb ho1 => ?_⟩
      · by_cases e : k' = k
        · subst e; exact bornn
        · rw [upd_ne _ _ e]; exact hb
      · by_cases e : k' = k
        · subst e
          by_cases e2 : f' = f
          · subst e2
            rw [lvnew o1 ho1]
            exact ⟨o, hlo, .inr ⟨hlen.symm, rfl, rfl, fun b cur _ hc => ⟨cur, hc, rfl⟩⟩⟩
          · rw [lv_upd_same, List.getElem?_set_ne (Ne.symm e2)] at ho1
            exact ⟨o1, (lv_live hk f').trans ho1, .inr ⟨rfl, rfl, rfl, fun b cur _ hc => ⟨cur, hc, rfl⟩⟩⟩
        · rw [lv_upd_ne _ _ _ e] at ho1
          exact ⟨o1, ho1, .inr ⟨rfl, rfl, rfl, fun b cur _ hc => ⟨cur, hc, rfl⟩⟩⟩
    have back : ∀ {k' f' o1}, lv (upd h k (.live (l.set f ⟨o.ty, o.sz, cc⟩))) k' f' = some o1 → ∃ o0, lv h k' f' = some o0 := fun {k' f' o1} ho1 => by
      by_cases e : k' = k
      · subst e
        by_cases e2 : f' = f
        · subst e2; exact ⟨o, hlo⟩
        · rw [lv_upd_same, List.getElem?_set_ne (Ne.symm e2)] at ho1
          exact ⟨o1, (lv_live hk f').trans ho1⟩
      · rw [lv_upd_ne _ _ _ e] at ho1; exact ⟨o1, ho1⟩
    refine ⟨F, μ, ⟨fun k' f' o1 ho1 => ?_, fun k1 f1 o1 k2 f2 o2 b l1 l2 => ?_, fun k' f' o1 b ho1 => ?_, fun k' f' o1 b ho1 => ?_, H.fz, H.fsrc, H.ev.trans V, H.os, H.tape, H.output, H.size, H.keep⟩, V, .own _ _ _ _ ?_ bornn fun o1 ho1 => ?_⟩
    · by_cases e : k' = k ∧ f' = f
      · obtain ⟨rfl, rfl⟩ := e
        rw [lvnew o1 ho1]
        rcases H.ob k' f' o hlo with ⟨q1, q2⟩ | ⟨b, cur, q1, q2, q3⟩
        · exact .inl ⟨q1, hlen.trans q2⟩
        · refine .inr ⟨b, cur, q1, q2, fun i cells hi => ?_⟩
          have hi' : o.cs.get i = some cells := by rw [← hcs]; exact hi
          refine ⟨(q3 i cells hi').1, fun j a hj => ?_⟩
          obtain ⟨u, hu, hr⟩ := (q3 i cells hi').2 j a hj
          exact ⟨u, hu, hr.evo V⟩
      · have ho1' : lv h k' f' = some o1 := by
          by_cases e2 : k' = k
          · subst e2
            rw [lv_upd_same, List.getElem?_set_ne (fun e3 => e ⟨rfl, e3.symm⟩)] at ho1
            exact (lv_live hk f').trans ho1
          · rwa [lv_upd_ne _ _ _ e2] at ho1
        exact (H.ob k' f' o1 ho1').evo V fun _ _ => rfl
    · obtain ⟨x1, y1⟩ := back l1
      obtain ⟨x2, y2⟩ := back l2
      exact H.inj _ _ _ _ _ _ b y1 y2
    · obtain ⟨x1, y1⟩ := back ho1
      exact H.sep _ _ _ b y1
    · obtain ⟨x1, y1⟩ := back ho1
      exact H.src _ _ _ b y1
    · rcases hv with ⟨_, _, rfl⟩ | ⟨b, c, cur, _, rfl, _⟩ <;> rfl
    · rw [lvnew o1 ho1, hm0]
      refine ⟨by show n + 0 ≤ cc.len; omega, fun _ => ?_⟩
      simpa [OwnV] using hv
  · obtain ⟨b0, off, rfl, hrd⟩ := hxx.resolve_left hm0
    obtain ⟨nv, n1, n2, n3, n4⟩ := reads_flat (μ := μ) (F := F) (h := h) (w := w) hp (fun i hi => get_some hi) hrd
    have hmax : n + xc.len ≤ maxLen := by unfold maxLen; omega
    -- a new block
    have fresh : ∀ (old : List Value) (capN : Nat), old.length = n * ei.size → (∀ i cells, o.cs.get i = some cells → cells.length = o.sz ∧ ∀ (j : Nat) a, cells[j]? = some a → ∃ u, old[i * ei.size + j]? = some u ∧ ARep w F μ h u a) → n + xc.len ≤ capN → capN ≤ maxLen →
        ∃ F' μ', HInv E F' μ' (upd h k (.live (l.set f ⟨o.ty, o.sz, cc⟩))) (w.drew.alloc (.cells (old.toArray ++ nv.toArray ++ Builtin.zeroCells ei.zero.cells (capN - (n + xc.len))) e)) ∧
          Evo w F μ h (w.drew.alloc (.cells (old.toArray ++ nv.toArray ++ Builtin.zeroCells ei.zero.cells (capN - (n + xc.len))) e)) F' μ' (upd h k (.live (l.set f ⟨o.ty, o.sz, cc⟩))) ∧
          ARep (w.drew.alloc (.cells (old.toArray ++ nv.toArray ++ Builtin.zeroCells ei.zero.cells (capN - (n + xc.len))) e)) F' μ' (upd h k (.live (l.set f ⟨o.ty, o.sz, cc⟩))) (.slice (some ⟨w.heap.size, 0, none⟩) (n + xc.len) capN) (.own k f (n + xc.len)) := by
      intro old capN ho hold hcap hcm
      have hat : (w.drew.alloc (.cells (old.toArray ++ nv.toArray ++ Builtin.zeroCells ei.zero.cells (capN - (n + xc.len))) e)).heap[w.heap.size]? = some (.cells (old.toArray ++ nv.toArray ++ Builtin.zeroCells ei.zero.cells (capN - (n + xc.len))) e) := Go.heap_alloc_new w.drew _
      obtain ⟨H', V⟩ := H.put (w' := w.drew.alloc (.cells (old.toArray ++ nv.toArray ++ Builtin.zeroCells ei.zero.cells (capN - (n + xc.len))) e)) hk hf (o' := ⟨o.ty, o.sz, cc⟩) w.heap.size (old.toArray ++ nv.toArray ++ Builtin.zeroCells ei.zero.cells (capN - (n + xc.len)))
        (by simp) rfl rfl rfl (fun b' hb' _ => Below.heap_alloc w.drew _ b' hb') (.inr (Nat.le_refl _)) (by simp) (by rw [hat, hty]) (.inl (by show o.cs.len < cc.len; omega)) (fun i cells hi => by
          have hlook : ∀ q : Nat, q < n * ei.size + xc.len * ei.size → (old.toArray ++ nv.toArray ++ Builtin.zeroCells ei.zero.cells (capN - (n + xc.len)))[q]? = (old ++ nv)[q]? := fun q hq => by
            rw [Array.getElem?_append_left (by simp; omega)]
            simp
          rcases Nat.lt_or_ge i o.cs.len with hlt | hge
          · have hi' : o.cs.get i = some cells := by rw [← a2 i hlt]; exact hi
            obtain ⟨q1, q2⟩ := hold i cells hi'
            refine ⟨q1, fun j a hj => ?_⟩
            obtain ⟨u, hu, hr⟩ := q2 j a hj
            have hb := (List.getElem?_eq_some_iff.1 hu).1
            refine ⟨u, ?_, hr⟩
            show (old.toArray ++ nv.toArray ++ Builtin.zeroCells ei.zero.cells (capN - (n + xc.len)))[i * o.sz + j]? = some u
            rw [hsz, hlook _ (by omega), List.getElem?_append_left hb]
            exact hu
          · have hi' : xc.get (i - o.cs.len) = some cells := by rw [← a3, show o.cs.len + (i - o.cs.len) = i by omega]; exact hi
            refine ⟨(hrd _ cells hi').1.trans hsz.symm, fun j a hj => ?_⟩
            obtain ⟨u, hu, hr⟩ := n4 _ cells hi' j a hj
            have hb := (List.getElem?_eq_some_iff.1 hu).1
            refine ⟨u, ?_, hr⟩
            show (old.toArray ++ nv.toArray ++ Builtin.zeroCells ei.zero.cells (capN - (n + xc.len)))[i * o.sz + j]? = some u
            have hix : i * ei.size + j = n * ei.size + ((i - o.cs.len) * ei.size + j) := by
              rw [Nat.sub_mul, ← hn]
              have : o.cs.len * ei.size ≤ i * ei.size := Nat.mul_le_mul_right _ hge
              omega
            rw [hsz, hix, hlook _ (by omega), List.getElem?_append_right (by omega), ho, Nat.add_sub_cancel_left]
            exact hu)
      refine ⟨F, _, H', V, .own _ _ _ _ rfl bornn fun o1 ho1 => ?_⟩
      rw [lvnew o1 ho1]
      refine ⟨by show n + xc.len ≤ cc.len; omega, fun _ => .inr ⟨w.heap.size, capN, _, updP_same _ _ _ _, rfl, by rw [hat, hty], ?_, hcap, hcm⟩⟩
      show (old.toArray ++ nv.toArray ++ Builtin.zeroCells ei.zero.cells (capN - (n + xc.len))).size = capN * o.sz
      simp only [Array.size_append, List.size_toArray, size_zeroCells, hzs', ho, n1, hsz, ← Nat.add_mul]
      congr 1
      omega
    rcases hv with ⟨q1, q2, rfl⟩ | ⟨b, c, cur, q1, rfl, q3, q4, q5, q6⟩
    · subst q2
      have hge := grownCap_ge w (0 + xc.len) 0 e
      have hcm := grownCap_le_maxLen w (0 + xc.len) 0 e hmax
      have hr := run_append_nil (P := P) w bt ty e ie ei.zero hu hie hiz ⟨b0, off, none⟩ xc.len c0 nv (by rw [hisz]; exact n1) n2 (by omega) (by unfold maxLen at hmax; omega) (by rw [hib]; simp only [Nat.zero_add] at hby; omega)
      rw [Nat.zero_add] at hge hcm
      have := fresh [] (grownCap w xc.len 0 e) (by simp) (fun i cells hi => by have := get_lt hi; omega) (by omega) hcm
      rw [show ([] : List Value).toArray = #[] from rfl, Array.empty_append] at this
      simp only [Nat.zero_add] at this ⊢
      exact ⟨_, _, hr, this⟩
    · have hcurlt : ∀ i cells, o.cs.get i = some cells → cells.length = o.sz ∧ ∀ (j : Nat) a, cells[j]? = some a → ∃ u, (cur.toList.take (n * ei.size))[i * ei.size + j]? = some u ∧ ARep w F μ h u a := fun i cells hi => by
        obtain ⟨b', cur', m1, m2, m3⟩ := own_at H hlo (by have := get_lt hi; omega)
        rw [q1] at m1
        injection m1 with m1
        subst m1
        rw [q3] at m2
        injection m2 with m2
        injection m2 with m2
        subst m2
        refine ⟨(m3 i cells hi).1, fun j a hj => ?_⟩
        obtain ⟨u, hu', hr⟩ := (m3 i cells hi).2 j a hj
        refine ⟨u, ?_, hr⟩
        have hil := get_lt hi
        have hjl : j < cells.length := (List.getElem?_eq_some_iff.1 hj).1
        have hlt : i * ei.size + j < n * ei.size := by
          have h9 : (i + 1) * ei.size ≤ n * ei.size := Nat.mul_le_mul_right _ (by omega)
          rw [Nat.add_mul] at h9
          have h10 := (m3 i cells hi).1
          omega
        rw [List.getElem?_take, if_pos hlt, Array.getElem?_toList, ← hsz]
        exact hu'
      have hcurl : (cur.toList.take (n * ei.size)).length = n * ei.size := by
        have : n * ei.size ≤ c * ei.size := Nat.mul_le_mul_right _ q5
        rw [hsz] at q4
        simp; omega
      rw [hty] at q3
      by_cases hroom : n + xc.len ≤ c
      · have hfit : n * ie.size + nv.length ≤ cur.size := by
          rw [hisz, n1, q4, hsz, ← Nat.add_mul]; exact Nat.mul_le_mul_right _ hroom
        have hr := run_append_room (P := P) w bt ty e ie hu hie b n c cur q3 ⟨b0, off, none⟩ xc.len c0 nv (by rw [hisz]; exact n1) n2 n3 hroom hfit
        refine ⟨_, _, hr, ?_⟩
        rw [hisz] at hfit ⊢
        have hmid : ∀ q, ((cur.toList.take (n * ei.size) ++ nv ++ cur.toList.drop (n * ei.size + nv.length)).toArray)[q]? = if n * ei.size ≤ q ∧ q < n * ei.size + nv.length then nv[q - n * ei.size]? else cur[q]? := fun q => by
          rw [List.getElem?_toArray, mid_get _ _ _ (by simpa using hfit)]
          simp only [Array.getElem?_toList]
        have hsize : (cur.toList.take (n * ei.size) ++ nv ++ cur.toList.drop (n * ei.size + nv.length)).toArray.size = cur.size := by
          simp only [List.size_toArray, List.length_append, List.length_take, List.length_drop, Array.length_toList]; omega
        have hset := setRow_heap w b cur (cur.toList.take (n * ei.size) ++ nv ++ cur.toList.drop (n * ei.size + nv.length)).toArray e _ q3
        obtain ⟨H', V⟩ := H.put (w' := w.setRow b (cur.toList.take (n * ei.size) ++ nv ++ cur.toList.drop (n * ei.size + nv.length)).toArray) hk hf (o' := ⟨o.ty, o.sz, cc⟩) b (cur.toList.take (n * ei.size) ++ nv ++ cur.toList.drop (n * ei.size + nv.length)).toArray
          (by simp) rfl rfl rfl (fun b' _ hne => setRow_other w b b' _ (fun e => hne (by rw [q1, e]))) (.inl q1) (by simp; exact (Array.getElem?_eq_some_iff.1 q3).1) (by rw [hset, hty]) (.inl (by show o.cs.len < cc.len; omega)) (fun i cells hi => by
            rcases Nat.lt_or_ge i o.cs.len with hlt | hge
            · have hi' : o.cs.get i = some cells := by rw [← a2 i hlt]; exact hi
              obtain ⟨p1, p2⟩ := hcurlt i cells hi'
              refine ⟨p1, fun j a hj => ?_⟩
              obtain ⟨u, hu', hr'⟩ := p2 j a hj
              have hb := (List.getElem?_eq_some_iff.1 hu').1
              rw [hcurl] at hb
              refine ⟨u, ?_, hr'⟩
              rw [hmid]
              show (if n * ei.size ≤ i * o.sz + j ∧ i * o.sz + j < n * ei.size + nv.length then nv[i * o.sz + j - n * ei.size]? else cur[i * o.sz + j]?) = some u
              rw [hsz, if_neg (by omega)]
              rw [List.getElem?_take, if_pos hb, Array.getElem?_toList] at hu'
              exact hu'
            · have hi' : xc.get (i - o.cs.len) = some cells := by rw [← a3, show o.cs.len + (i - o.cs.len) = i by omega]; exact hi
              refine ⟨(hrd _ cells hi').1.trans hsz.symm, fun j a hj => ?_⟩
              obtain ⟨u, hu', hr'⟩ := n4 _ cells hi' j a hj
              have hb := (List.getElem?_eq_some_iff.1 hu').1
              refine ⟨u, ?_, hr'⟩
              have hix : i * ei.size + j = n * ei.size + ((i - o.cs.len) * ei.size + j) := by
                rw [Nat.sub_mul, ← hn]
                have : o.cs.len * ei.size ≤ i * ei.size := Nat.mul_le_mul_right _ hge
                omega
              rw [hmid]
              show (if n * ei.size ≤ i * o.sz + j ∧ i * o.sz + j < n * ei.size + nv.length then nv[i * o.sz + j - n * ei.size]? else cur[i * o.sz + j]?) = some u
              rw [hsz, hix, if_pos (by omega), Nat.add_sub_cancel_left]
              exact hu')
        refine ⟨F, _, H', V, .own _ _ _ _ rfl bornn fun o1 ho1 => ?_⟩
        rw [lvnew o1 ho1]
        exact ⟨by show n + xc.len ≤ cc.len; omega, fun _ => .inr ⟨b, c, _, updP_same _ _ _ _, rfl, by rw [hset, hty], hsize.trans q4, hroom, q6⟩⟩
      · have hge := grownCap_ge w (n + xc.len) c e
        have hcm := grownCap_le_maxLen w (n + xc.len) c e hmax
        have hr := run_append_grow (P := P) w bt ty e ie ei.zero hu hie hiz ⟨b, 0, none⟩ n c (cur.toList.take (n * ei.size)) (by rw [hisz]; exact hcurl) (fun j v hj => by
            rw [addr_add, Nat.zero_add, cell_of_row w b _ cur e (0, 0) q3]
            have hlt : j < n * ei.size := by have := (List.getElem?_eq_some_iff.1 hj).1; omega
            rw [List.getElem?_take, if_pos hlt, Array.getElem?_toList] at hj
            exact hj) ⟨b0, off, none⟩ xc.len c0 nv (by rw [hisz]; exact n1) n2 (by omega) (by unfold maxLen at hmax; omega) (growslice_fits (by omega) (by rw [hib]; exact hby))
        exact ⟨_, _, hr, fresh _ _ hcurl hcurlt hge hcm⟩
end
end Go.Proofs.YtjhadibjjldpdaaGreat
