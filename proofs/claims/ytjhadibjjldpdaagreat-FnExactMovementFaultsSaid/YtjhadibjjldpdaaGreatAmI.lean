/- An abstract machine, I: operations that read memory. No program. -/
import Derived.Test.YtjhadibjjldpdaaGreatAmH
import Derived.Laws.Slices
import Derived.Laws.Strings
namespace Go.Proofs.YtjhadibjjldpdaaGreat
open Go.RowKit
set_option linter.unusedVariables false
set_option maxRecDepth 100000

theorem get_lt {c : Cells} {i : Nat} {cells : List AV} (h : c.get i = some cells) : i < c.len := by
  cases c with
  | data es =>
    simp only [Cells.get] at h
    obtain ⟨e, he, _⟩ := Option.map_eq_some_iff.1 h
    exact (List.getElem?_eq_some_iff.1 he).1
  | av es => exact (List.getElem?_eq_some_iff.1 h).1
theorem own_at {E : Env} {F : Nat → Prop} {μ : Places} {h : Heap} {w : World} (H : HInv E F μ h w) {k f : Nat} {o : AObj} (ho : lv h k f = some o) (hn : 0 < o.cs.len) :
    ∃ b cur, μ k f = some b ∧ w.heap[b]? = some (.cells cur o.ty (0, 0)) ∧ ∀ i cells, o.cs.get i = some cells → cells.length = o.sz ∧ ∀ (j : Nat) (c : AV), cells[j]? = some c → ∃ u, cur[i * o.sz + j]? = some u ∧ ARep w F μ h u c := by
  rcases H.ob k f o ho with ⟨_, h2⟩ | ⟨b, cur, h1, h2, h3⟩
  · omega
  · exact ⟨b, cur, h1, h2, h3⟩
/-- where a pointer into an own object points, and what lies there -/
theorem ptr_at {E : Env} {F : Nat → Prop} {μ : Places} {h : Heap} {w : World} (H : HInv E F μ h w) {v : Value} {k f n i j : Nat} (r : ARep w F μ h v (.ptr k f n i j)) {o : AObj} (ho : lv h k f = some o) (hn : o.cs.len = n) {cells : List AV} (hi : o.cs.get i = some cells) :
    ∃ b cur, v = .pointer (some ⟨b, i * o.sz + j, none⟩) ∧ μ k f = some b ∧ w.heap[b]? = some (.cells cur o.ty (0, 0)) ∧ cells.length = o.sz ∧ ∀ (j : Nat) (c : AV), cells[j]? = some c → ∃ u, cur[i * o.sz + j]? = some u ∧ ARep w F μ h u c := by
  cases r with | ptr _ _ _ _ _ _ h1 hb hv =>
  obtain ⟨b, hm, rfl⟩ := (hv o ho).2 hn
  obtain ⟨b', cur, hm', hh, hc⟩ := own_at H ho (by have := get_lt hi; omega)
  rw [hm] at hm'
  injection hm' with hm'
  subst hm'
  exact ⟨b, cur, rfl, hm, hh, (hc i cells hi).1, (hc i cells hi).2⟩
theorem addr_add (b o j : Nat) : (⟨b, o, none⟩ : Addr).add j = ⟨b, o + j, none⟩ := by unfold Addr.add; split <;> simp_all

theorem cut_list (cur : Array Value) (a n : Nat) (hall : ∀ q, q < n → ∃ u, cur[a + q]? = some u) : ((cur.toList.drop a).take n).length = n ∧ ∀ (q : Nat) v, ((cur.toList.drop a).take n)[q]? = some v → q < n ∧ cur[a + q]? = some v := by
  have hsz : n = 0 ∨ a + n ≤ cur.size := by
    rcases Nat.eq_zero_or_pos n with h | h
    · exact .inl h
    · obtain ⟨u, hu⟩ := hall (n - 1) (by omega)
      have := (Array.getElem?_eq_some_iff.1 hu).1
      exact .inr (by omega)
  refine ⟨by simp; omega, fun q v hq => ?_⟩
  have hlt : q < n := by have := (List.getElem?_eq_some_iff.1 hq).1; simp at this; omega
  refine ⟨hlt, ?_⟩
  rw [List.getElem?_take, if_pos hlt, List.getElem?_drop] at hq
  simpa using hq
section
variable {P : Program} {T : Tab} {N : Nat} {ops : Array Oper} {E : Env} {K : List (Nat × Cls) → AS → Prop} {i : Nat} {is : List Nat} {t : Nat → AV} {h : Heap} {d : Tmp} {op : Op} {ty : TypeId} {pos : String} {aft : Array Edge} {g : Option (Nat × Bool)}

theorem rt_l {r : AV} (ho : ops[i]? = some ⟨some d, op, ty, pos, aft, g⟩) (hw : Want N ops ⟨some d, op, ty, pos, aft, g⟩ ⟨t, h⟩) (hd : Nat.blt d N = true) (hp : Light1 P N ⟨some d, op, ty, pos, aft, g⟩ ⟨t, h⟩ r)
    (k : RT P N ops is (fun l σ' => K ((i, .li) :: l) σ') ⟨updA t d r, h⟩) : RT P N ops (i :: is) K ⟨t, h⟩ := rt_cons ho (.light (dN hd) hw r hp) k

/-- a quiet operation on one operand that names an own object -/
theorem light_of {o : Oper} {r : AV} {x : Operand} {k f : Nat} {ob : AObj} (hmem : x ∈ o.op.operands) (hkey : (evA N ⟨t, h⟩ x).key = some k) (hl : lv h k f = some ob) (hoth : ∀ y ∈ o.op.operands, ∀ k', (evA N ⟨t, h⟩ y).key = some k' → k' = k)
    (hr : ∀ E F μ hh (w : World) ρ, HInv E F μ hh w → Stand N o ⟨t, h⟩ ρ w F μ hh → lv hh k f = some ob → ∃ u, (execOp ρ o).run P w = .ok (.value u) w ∧ ARep w F μ hh u r) : Light1 P N o ⟨t, h⟩ r := by
  refine ⟨fun y hy k' hk' => ?_, fun E F μ hh w ρ H st hk => ?_⟩
  · rw [hoth y hy k' hk']; exact lv_born hl
  · refine hr E F μ hh w ρ H st ?_
    have := hk x hmem k hkey
    unfold lv at hl ⊢
    rw [this]; exact hl
theorem one_operand {o : Oper} {x : Operand} {k : Nat} (he : o.op.operands = #[x]) (hkey : (evA N ⟨t, h⟩ x).key = some k) : ∀ y ∈ o.op.operands, ∀ k', (evA N ⟨t, h⟩ y).key = some k' → k' = k := fun y hy k' hk' => by
  rw [he] at hy
  simp at hy
  subst hy
  rw [hkey] at hk'
  injection hk' with hk'
  exact hk'.symm

theorem li_load1 (hT : TOk P T) {lt : TypeId} {x : Operand} {k f n ix j : Nat} {o : AObj} {cells : List AV} {c : AV} {ti : TI} (hx : evA N ⟨t, h⟩ x = .ptr k f n ix j) (h1 : T lt = some ti) (h2 : isRow ti.desc = false)
    (ho : lv h k f = some o) (hn : o.cs.len = n) (hi : o.cs.get ix = some cells) (hc : cells[j]? = some c) : Light1 P N ⟨some d, .load lt x, ty, pos, aft, g⟩ ⟨t, h⟩ c :=
  light_of (x := x) (k := k) (f := f) (ob := o) (by simp [Op.operands]) (by rw [hx]; rfl) ho (one_operand (x := x) (by simp [Op.operands]) (by rw [hx]; rfl)) fun E F μ hh w ρ H st hl => by
    have hr := st x (by simp [Op.operands])
    rw [hx] at hr
    obtain ⟨b, cur, hv, hm, hb, hlen, hcs⟩ := ptr_at H hr hl hn hi
    obtain ⟨u, hu, hr2⟩ := hcs j c hc
    refine ⟨u, ?_, hr2⟩
    have hcell : w.cell? ⟨b, ix * o.sz + j, none⟩ = some u := by rw [cell_of_row w b _ cur o.ty (0, 0) hb, hu]
    simp only [execOp, hv, Instr.loadAt, Instr.sureAddr, loadVar]
    simp [Sem.run_bind, run_isAgg hT h1, h2, hcell]
theorem run_loadN (hT : TOk P T) {lt : TypeId} {ti : TI} (h1 : T lt = some ti) (h2 : isRow ti.desc = true) (w : World) (b o : Nat) (vs : List Value) (hl : vs.length = ti.size) (hc : ∀ (j : Nat) v, vs[j]? = some v → w.cell? ⟨b, o + j, none⟩ = some v) :
    (Instr.loadAt lt (.pointer (some ⟨b, o, none⟩))).run P w = .ok (.agg vs.toArray) w := by
  have := run_loadCells_list (P := P) w ⟨b, o, none⟩ vs (fun j v hv => by rw [addr_add]; exact hc j v hv)
  simp only [Instr.loadAt, Instr.sureAddr, loadVar]
  rw [hl] at this
  simp [Sem.run_bind, run_isAgg hT h1, h2, run_sizeOf hT h1, this]
theorem li_loadN (hT : TOk P T) {lt : TypeId} {x : Operand} {k f n ix j : Nat} {o : AObj} {cells out : List AV} {ti : TI} (hx : evA N ⟨t, h⟩ x = .ptr k f n ix j) (h1 : T lt = some ti) (h2 : isRow ti.desc = true)
    (ho : lv h k f = some o) (hn : o.cs.len = n) (hi : o.cs.get ix = some cells) (hc : Seg j ti.size cells out) : Light1 P N ⟨some d, .load lt x, ty, pos, aft, g⟩ ⟨t, h⟩ (.agg out) :=
  light_of (x := x) (k := k) (f := f) (ob := o) (by simp [Op.operands]) (by rw [hx]; rfl) ho (one_operand (x := x) (by simp [Op.operands]) (by rw [hx]; rfl)) fun E F μ hh w ρ H st hl => by
    have hr := st x (by simp [Op.operands])
    rw [hx] at hr
    obtain ⟨b, cur, hv, hm, hb, hlen, hcs⟩ := ptr_at H hr hl hn hi
    obtain ⟨s1, s2, s3⟩ := hc.spec
    have hat : ∀ (q : Nat) c, out[q]? = some c → ∃ u, cur[ix * o.sz + j + q]? = some u ∧ ARep w F μ hh u c := fun q c hq => by
      obtain ⟨u, hu, hr2⟩ := hcs (j + q) c (s3 q c hq)
      exact ⟨u, by rw [Nat.add_assoc]; exact hu, hr2⟩
    have hall : ∀ q, q < ti.size → ∃ u, cur[ix * o.sz + j + q]? = some u ∧ ∀ c, out[q]? = some c → ARep w F μ hh u c := fun q hq => by
      obtain ⟨u, hu, hr2⟩ := hat q _ (List.getElem?_eq_getElem (show q < out.length by omega))
      exact ⟨u, hu, fun c hc => by rw [List.getElem?_eq_getElem (show q < out.length by omega)] at hc; injection hc with hc; rw [← hc]; exact hr2⟩
    obtain ⟨v1, v2⟩ := cut_list cur (ix * o.sz + j) ti.size fun q hq => by obtain ⟨u, hu, _⟩ := hall q hq; exact ⟨u, hu⟩
    have hrun := run_loadN (P := P) hT h1 h2 w b (ix * o.sz + j) ((cur.toList.drop (ix * o.sz + j)).take ti.size) v1 (fun q v hq => by
      rw [cell_of_row w b _ cur o.ty (0, 0) hb]
      exact (v2 q v hq).2)
    refine ⟨_, by simp only [execOp, hv]; rw [Sem.run_bind, hrun]; rfl, .agg _ _ (by simp only [List.size_toArray]; omega) fun q v c hq hc => ?_⟩
    have hq' : ((cur.toList.drop (ix * o.sz + j)).take ti.size)[q]? = some v := by simpa using hq
    obtain ⟨hlt, hcur⟩ := v2 q v hq'
    obtain ⟨u, hu, hr2⟩ := hall q hlt
    rw [hcur] at hu
    injection hu with hu
    rw [hu]
    exact hr2 c hc
theorem li_fieldAddr (hT : TOk P T) {s : TypeId} {x : Operand} {q k f n ix j : Nat} {o : AObj} {cells : List AV} {ti fi : TI} {fs : Array Field} {fld : Field} (hx : evA N ⟨t, h⟩ x = .ptr k f n ix j) (h1 : T s = some ti) (h2 : ti.desc = .struct fs) (h3 : fs[q]? = some fld)
    (h4 : T fld.type = some fi) (h5 : Nat.beq fi.size 0 = false) (ho : lv h k f = some o) (hn : o.cs.len = n) (hi : o.cs.get ix = some cells) : Light1 P N ⟨some d, .fieldAddr s x q, ty, pos, aft, g⟩ ⟨t, h⟩ (.ptr k f n ix (j + fld.offset)) :=
  light_of (x := x) (k := k) (f := f) (ob := o) (by simp [Op.operands]) (by rw [hx]; rfl) ho (one_operand (x := x) (by simp [Op.operands]) (by rw [hx]; rfl)) fun E F μ hh w ρ H st hl => by
    have hr := st x (by simp [Op.operands])
    rw [hx] at hr
    obtain ⟨b, cur, hv, hm, hb, hlen, hcs⟩ := ptr_at H hr hl hn hi
    have hu := (hT _ _ h1).1
    rw [h2] at hu
    have hne : fi.size ≠ 0 := fun e => by rw [e] at h5; simp at h5
    refine ⟨.pointer (some ⟨b, ix * o.sz + j + fld.offset, none⟩), ?_, .ptr _ _ _ _ _ _ rfl (lv_born hl) fun o' ho' => ?_⟩
    · simp only [execOp, Instr.fieldAt, hv]
      simp [Sem.run_bind, run_underlying hu, h3, Instr.sureAddr, fieldPlace, run_sizeOf hT h4, hne, addr_add]
    · rw [hl] at ho'
      injection ho' with ho'
      subst ho'
      exact ⟨by omega, fun _ => ⟨b, hm, by rw [Nat.add_assoc]⟩⟩
theorem li_nil {x : Operand} {k f n ix j : Nat} {o : AObj} {cells : List AV} (hx : evA N ⟨t, h⟩ x = .ptr k f n ix j) (ho : lv h k f = some o) (hn : o.cs.len = n) (hi : o.cs.get ix = some cells) : Light1 P N ⟨some d, .nilCheck x, ty, pos, aft, g⟩ ⟨t, h⟩ (.ptr k f n ix j) :=
  light_of (x := x) (k := k) (f := f) (ob := o) (by simp [Op.operands]) (by rw [hx]; rfl) ho (one_operand (x := x) (by simp [Op.operands]) (by rw [hx]; rfl)) fun E F μ hh w ρ H st hl => by
    have hr := st x (by simp [Op.operands])
    rw [hx] at hr
    obtain ⟨b, cur, hv, hm, hb, hlen, hcs⟩ := ptr_at H hr hl hn hi
    rw [hv] at hr
    exact ⟨.pointer (some ⟨b, ix * o.sz + j, none⟩), by simp [execOp, hv], hr⟩
/-- the address of an element of an own slice -/
theorem li_index (hT : TOk P T) {st_ e : TypeId} {x y : Operand} {kk : IntKind} {iv : Int} {k f n m : Nat} {o : AObj} {ti ei : TI} (hx : evA N ⟨t, h⟩ x = .own k f n) (hy : evA N ⟨t, h⟩ y = .d (.v (.int kk iv))) (hm : iv = (m : Int)) (hlt : m < n)
    (h1 : T st_ = some ti) (h2 : ti.desc = .slice e) (h3 : T e = some ei) (ho : lv h k f = some o) (hn : o.cs.len = n) (hs : o.sz = ei.size) : Light1 P N ⟨some d, .indexAddr st_ x y, ty, pos, aft, g⟩ ⟨t, h⟩ (.ptr k f n m 0) :=
  light_of (x := x) (k := k) (f := f) (ob := o) (by simp [Op.operands]) (by rw [hx]; rfl) ho (fun z hz k' hk' => by
    simp [Op.operands] at hz
    rcases hz with rfl | rfl
    · rw [hx] at hk'; injection hk' with hk'; exact hk'.symm
    · rw [hy] at hk'; cases hk') fun E F μ hh w ρ H st hl => by
    have hr := st x (by simp [Op.operands])
    have hr2 := st y (by simp [Op.operands])
    rw [hx] at hr; rw [hy] at hr2
    have e2 := rep_v hr2
    generalize hvx : ρ x = vx at hr
    cases hr with | own _ _ _ _ g1 hb hv =>
    have hu := (hT _ _ h1).1
    rw [h2] at hu
    rcases (hv o hl).2 hn with ⟨_, h5, _⟩ | ⟨b, c, cur, h5, h6, h7, h8, h9, h10⟩
    · omega
    · refine ⟨.pointer (some ⟨b, m * ei.size, none⟩), ?_, .ptr _ _ _ _ _ _ rfl hb fun o' ho' => ?_⟩
      · simp only [execOp, Instr.indexAt, hvx, h6, e2, hm]
        simp [Sem.run_bind, run_underlying hu, asIntOf, run_sizeOf hT h3, addr_add]
        omega
      · rw [hl] at ho'
        injection ho' with ho'
        subst ho'
        exact ⟨by omega, fun _ => ⟨b, h5, by rw [hs]; simp⟩⟩
theorem li_len (hT : TOk P T) {st_ e : TypeId} {x : Operand} {k f n : Nat} {o : AObj} {ti : TI} (hx : evA N ⟨t, h⟩ x = .own k f n) (h1 : T st_ = some ti) (h2 : ti.desc = .slice e) (ho : lv h k f = some o) (hn : o.cs.len = n) :
    Light1 P N ⟨some d, .call ⟨.builtin .len, #[x], #[st_]⟩, ty, pos, aft, g⟩ ⟨t, h⟩ (.d (.v (.int .i64 (n : Int)))) :=
  light_of (x := x) (k := k) (f := f) (ob := o) (by simp [Op.operands, Call.operands]) (by rw [hx]; rfl) ho (one_operand (x := x) (by simp [Op.operands, Call.operands]) (by rw [hx]; rfl)) fun E F μ hh w ρ H st hl => by
    have hr := st x (by simp [Op.operands, Call.operands])
    rw [hx] at hr
    have hu := (hT _ _ h1).1
    rw [h2] at hu
    generalize hvx : ρ x = vx at hr
    cases hr with | own _ _ _ _ g1 hb hv =>
    refine ⟨.int .i64 n, ?_, .d _ _ (.v _ rfl)⟩
    rcases (hv o hl).2 hn with ⟨_, h5, h6⟩ | ⟨b, c, cur, h5, h6, h7, h8, h9, h10⟩
    · simp [execOp, resolve, invoke, builtin, hvx, h6, Builtin.len_, run_underlying hu, goInt, h5]
    · simp [execOp, resolve, invoke, builtin, hvx, h6, Builtin.len_, run_underlying hu, goInt]

/-! data by value -/
inductive SegD : Nat → List DV → List AV → Prop
  | z (l : List DV) : SegD 0 l []
  | t {n : Nat} {a : DV} {l : List DV} {r : List AV} (h : SegD n l r) : SegD (n + 1) (a :: l) (.d a :: r)
theorem SegD.spec {n : Nat} {l : List DV} {r : List AV} (h : SegD n l r) : r.length = n ∧ n ≤ l.length ∧ ∀ (i : Nat) c, r[i]? = some c → ∃ x, l[i]? = some x ∧ c = .d x := by
  induction h with
  | z l => simp
  | t h ih =>
    obtain ⟨h1, h2, h3⟩ := ih
    refine ⟨by simp [h1], by simp [h2], fun i c hc => ?_⟩
    cases i with
    | zero => simp at hc; exact ⟨_, rfl, hc.symm⟩
    | succ i => simp at hc ⊢; exact h3 i c hc
theorem pu_len_sl (hT : TOk P T) {st_ e : TypeId} {x : Operand} {es : List (List DV)} {ti : TI} (hx : evA N ⟨t, h⟩ x = .d (.sl es)) (h1 : T st_ = some ti) (h2 : ti.desc = .slice e) :
    Pure1 P N ⟨some d, .call ⟨.builtin .len, #[x], #[st_]⟩, ty, pos, aft, g⟩ ⟨t, h⟩ (.d (.v (.int .i64 (es.length : Int)))) := fun w F μ hh ρ st => by
  have hr := st x (by simp [Op.operands, Call.operands])
  rw [hx] at hr
  have hu := (hT _ _ h1).1
  rw [h2] at hu
  refine ⟨.int .i64 es.length, ?_, .d _ _ (.v _ rfl)⟩
  generalize hv : ρ x = v at hr
  cases hr with | d _ _ hd =>
  cases hd with
  | nil => simp [execOp, resolve, invoke, builtin, hv, Builtin.len_, run_underlying hu, goInt]
  | emp A c hm => simp [execOp, resolve, invoke, builtin, hv, Builtin.len_, run_underlying hu, goInt]
  | sl b off c sz es gg hF hc hm hz hg hr => simp [execOp, resolve, invoke, builtin, hv, Builtin.len_, run_underlying hu, goInt]
theorem pu_len_map (hT : TOk P T) {α : Type} {f : α → List DV} {xs : List α} {st_ e : TypeId} {x : Operand} {ti : TI} (hx : evA N ⟨t, h⟩ x = .d (.sl (xs.map f))) (h1 : T st_ = some ti) (h2 : ti.desc = .slice e) :
    Pure1 P N ⟨some d, .call ⟨.builtin .len, #[x], #[st_]⟩, ty, pos, aft, g⟩ ⟨t, h⟩ (.d (.v (.int .i64 (xs.length : Int)))) := by
  have := pu_len_sl (d := d) (ty := ty) (pos := pos) (aft := aft) (g := g) hT hx h1 h2
  rwa [List.length_map] at this
theorem pu_len_nil (hT : TOk P T) {st_ e : TypeId} {x : Operand} {a : Option Addr} {n c : Nat} {ti : TI} (hx : evA N ⟨t, h⟩ x = .d (.v (.slice a n c))) (h1 : T st_ = some ti) (h2 : ti.desc = .slice e) :
    Pure1 P N ⟨some d, .call ⟨.builtin .len, #[x], #[st_]⟩, ty, pos, aft, g⟩ ⟨t, h⟩ (.d (.v (.int .i64 (n : Int)))) := fun w F μ hh ρ st => by
  have hr := rep_v (by have := st x (by simp [Op.operands, Call.operands]); rw [hx] at this; exact this)
  have hu := (hT _ _ h1).1
  rw [h2] at hu
  exact ⟨.int .i64 n, by simp [execOp, resolve, invoke, builtin, hr, Builtin.len_, run_underlying hu, goInt], .d _ _ (.v _ rfl)⟩
theorem pu_len_str (hT : TOk P T) {st_ : TypeId} {x : Operand} {s : ByteArray} {ti : TI} (hx : evA N ⟨t, h⟩ x = .d (.v (.string s))) (h1 : T st_ = some ti) (h2 : ti.desc = .string) :
    Pure1 P N ⟨some d, .call ⟨.builtin .len, #[x], #[st_]⟩, ty, pos, aft, g⟩ ⟨t, h⟩ (.d (.v (.int .i64 (s.size : Int)))) := fun w F μ hh ρ st => by
  have hr := rep_v (by have := st x (by simp [Op.operands, Call.operands]); rw [hx] at this; exact this)
  have hu := (hT _ _ h1).1
  rw [h2] at hu
  exact ⟨.int .i64 s.size, by simp [execOp, resolve, invoke, builtin, hr, Builtin.len_, run_underlying hu, goInt], .d _ _ (.v _ rfl)⟩
/-- the address of an element of a slice by value -/
theorem pu_index_sl (hT : TOk P T) {st_ e : TypeId} {x y : Operand} {kk : IntKind} {iv : Int} {m : Nat} {es : List (List DV)} {ed : List DV} {ti ei : TI} (hx : evA N ⟨t, h⟩ x = .d (.sl es)) (hy : evA N ⟨t, h⟩ y = .d (.v (.int kk iv))) (hm : iv = (m : Int))
    (h1 : T st_ = some ti) (h2 : ti.desc = .slice e) (h3 : T e = some ei) (he : es[m]? = some ed) (hs : ed.length = ei.size) : Pure1 P N ⟨some d, .indexAddr st_ x y, ty, pos, aft, g⟩ ⟨t, h⟩ (.ref ed) := fun w F μ hh ρ st => by
  have hr := st x (by simp [Op.operands])
  have hr2 := st y (by simp [Op.operands])
  rw [hx] at hr; rw [hy] at hr2
  have e2 := rep_v hr2
  have hlt : m < es.length := (List.getElem?_eq_some_iff.1 he).1
  have hu := (hT _ _ h1).1
  rw [h2] at hu
  generalize hv : ρ x = v at hr
  cases hr with | d _ _ hd =>
  cases hd with
  | nil => simp at hlt
  | emp A c hm => simp at hlt
  | sl b off c sz es gg hF hc hmx hz hg hr =>
    have hsz : sz = ei.size := (hz m ed he).symm.trans hs
    subst hsz
    refine ⟨.pointer (some ⟨b, off + m * ei.size, none⟩), ?_, .ref b _ ed (gg m) hF (fun j x hj => hg m ed j x he hj) (fun j x hj => hr m ed j x he hj)⟩
    simp only [execOp, Instr.indexAt, hv, e2, hm]
    simp [Sem.run_bind, run_underlying hu, asIntOf, run_sizeOf hT h3, addr_add]
    omega
theorem pu_load_ref1 (hT : TOk P T) {lt : TypeId} {x : Operand} {cs : List DV} {c : DV} {ti : TI} (hx : evA N ⟨t, h⟩ x = .ref cs) (h1 : T lt = some ti) (h2 : isRow ti.desc = false) (hc : cs[0]? = some c) : Pure1 P N ⟨some d, .load lt x, ty, pos, aft, g⟩ ⟨t, h⟩ (.d c) := fun w F μ hh ρ st => by
  have hr := st x (by simp [Op.operands])
  rw [hx] at hr
  generalize hv : ρ x = v at hr
  cases hr with | ref b off _ gg hF hg hr =>
  refine ⟨gg 0, ?_, .d _ _ (hr 0 c hc)⟩
  have hcell := hg 0 c hc
  rw [Nat.add_zero] at hcell
  simp only [execOp, hv, Instr.loadAt, Instr.sureAddr, loadVar]
  simp [Sem.run_bind, run_isAgg hT h1, h2, hcell]
theorem pu_load_refN (hT : TOk P T) {lt : TypeId} {x : Operand} {cs : List DV} {out : List AV} {ti : TI} (hx : evA N ⟨t, h⟩ x = .ref cs) (h1 : T lt = some ti) (h2 : isRow ti.desc = true) (hc : SegD ti.size cs out) : Pure1 P N ⟨some d, .load lt x, ty, pos, aft, g⟩ ⟨t, h⟩ (.agg out) := fun w F μ hh ρ st => by
  have hr := st x (by simp [Op.operands])
  rw [hx] at hr
  generalize hv : ρ x = v at hr
  cases hr with | ref b off _ gg hF hg hr =>
  obtain ⟨s1, s2, s3⟩ := hc.spec
  have hrun := run_loadN (P := P) hT h1 h2 w b off ((List.range ti.size).map gg) (by simp) (fun q v hq => by
    have hlt : q < ti.size := by have := (List.getElem?_eq_some_iff.1 hq).1; simpa using this
    rw [List.getElem?_map, List.getElem?_range hlt] at hq
    simp at hq
    subst hq
    exact hg q _ (List.getElem?_eq_getElem (by omega)))
  refine ⟨_, by simp only [execOp, hv]; rw [Sem.run_bind, hrun]; rfl, .agg _ _ (by simp [s1]) fun q v c hq hc => ?_⟩
  have hlt : q < ti.size := by have := (List.getElem?_eq_some_iff.1 hc).1; omega
  have hq' : ((List.range ti.size).map gg)[q]? = some v := by simpa using hq
  rw [List.getElem?_map, List.getElem?_range hlt] at hq'
  simp at hq'
  subst hq'
  obtain ⟨y, hy, rfl⟩ := s3 q c hc
  exact .d _ _ (hr q y hy)
theorem pu_fieldAddr_ref (hT : TOk P T) {s : TypeId} {x : Operand} {q : Nat} {cs out : List DV} {ti fi : TI} {fs : Array Field} {fld : Field} (hx : evA N ⟨t, h⟩ x = .ref cs) (h1 : T s = some ti) (h2 : ti.desc = .struct fs) (h3 : fs[q]? = some fld)
    (h4 : T fld.type = some fi) (h5 : Nat.beq fi.size 0 = false) (hd : Drp fld.offset cs out) : Pure1 P N ⟨some d, .fieldAddr s x q, ty, pos, aft, g⟩ ⟨t, h⟩ (.ref out) := fun w F μ hh ρ st => by
  have hr := st x (by simp [Op.operands])
  rw [hx] at hr
  generalize hv : ρ x = v at hr
  cases hr with | ref b off _ gg hF hg hr =>
  have hu := (hT _ _ h1).1
  rw [h2] at hu
  have hne : fi.size ≠ 0 := fun e => by rw [e] at h5; simp at h5
  obtain ⟨rfl, s2⟩ := hd.spec
  refine ⟨.pointer (some ⟨b, off + fld.offset, none⟩), ?_, .ref b _ _ (fun j => gg (fld.offset + j)) hF (fun j x hj => ?_) (fun j x hj => ?_)⟩
  · simp only [execOp, Instr.fieldAt, hv]
    simp [Sem.run_bind, run_underlying hu, h3, Instr.sureAddr, fieldPlace, run_sizeOf hT h4, hne, addr_add]
  · rw [List.getElem?_drop] at hj
    rw [Nat.add_assoc]
    exact hg _ x hj
  · rw [List.getElem?_drop] at hj
    exact hr _ x hj
theorem pu_nil_ref {x : Operand} {cs : List DV} (hx : evA N ⟨t, h⟩ x = .ref cs) : Pure1 P N ⟨some d, .nilCheck x, ty, pos, aft, g⟩ ⟨t, h⟩ (.ref cs) := fun w F μ hh ρ st => by
  have hr := st x (by simp [Op.operands])
  rw [hx] at hr
  generalize hv : ρ x = v at hr
  have hr' := hr
  cases hr with | ref b off _ gg hF hg hr => exact ⟨.pointer (some ⟨b, off, none⟩), by simp [execOp, hv], hr'⟩
theorem pu_nil_fn {x : Operand} {f : FuncId} {cs : List AV} (hx : evA N ⟨t, h⟩ x = .fn f cs) : Pure1 P N ⟨some d, .nilCheck x, ty, pos, aft, g⟩ ⟨t, h⟩ (.fn f cs) := fun w F μ hh ρ st => by
  have hr := st x (by simp [Op.operands])
  rw [hx] at hr
  generalize hv : ρ x = v at hr
  have hr' := hr
  cases hr with | fn _ vs _ hs hr => exact ⟨_, by simp [execOp, hv], hr'⟩
end
end Go.Proofs.YtjhadibjjldpdaaGreat
