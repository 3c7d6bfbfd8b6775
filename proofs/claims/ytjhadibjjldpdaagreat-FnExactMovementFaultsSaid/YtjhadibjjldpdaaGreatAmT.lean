/- An abstract machine, T: operations on rows with families. No program. -/
import Derived.Test.YtjhadibjjldpdaaGreatAmW
namespace Go.Proofs.YtjhadibjjldpdaaGreat
open Go.RowKit
set_option linter.unusedVariables false
set_option maxRecDepth 100000
theorem nst_get {α : Type} {kf m : Nat} {c : α → List DV} {xs : List α} {a : α} (he : xs[m]? = some a) : (Cells.av (nestL kf c xs)).get m = some (nestC kf m (c a)) := by simp [Cells.get, nestL_get, he]
theorem nst_n {α : Type} {kf : Nat} {c : α → List DV} {xs : List α} : (Cells.av (nestL kf c xs)).len = xs.length := by simp [Cells.len, nestL_len]
inductive FamA (kf m : Nat) : List AV → List AV → Prop
  | nil : FamA kf m [] []
  | own {n n' : Nat} {as bs : List AV} (hn : n = n') (q : FamA kf m as bs) : FamA kf m (.own 0 0 n :: as) (.own kf m n' :: bs)
  | free {a : AV} {as bs : List AV} (hf : a.free = true) (q : FamA kf m as bs) : FamA kf m (a :: as) (a :: bs)
theorem FamA.spec {kf m : Nat} {as bs : List AV} (q : FamA kf m as bs) : as.length = bs.length ∧ ∀ (i : Nat) a b, as[i]? = some a → bs[i]? = some b → (a = b ∧ a.free = true) ∨ ∃ n, a = .own 0 0 n ∧ b = .own kf m n := by
  induction q with
  | nil => exact ⟨rfl, fun i a b h => by simp at h⟩
  | own hn q ih =>
    subst hn
    refine ⟨by simp [ih.1], fun i a b h1 h2 => ?_⟩
    cases i with
    | zero => simp at h1 h2; exact .inr ⟨_, h1.symm, h2.symm⟩
    | succ i => exact ih.2 i a b (by simpa using h1) (by simpa using h2)
  | free hf q ih =>
    refine ⟨by simp [ih.1], fun i a b h1 h2 => ?_⟩
    cases i with
    | zero => simp at h1 h2; subst h1 h2; exact .inl ⟨rfl, hf⟩
    | succ i => exact ih.2 i a b (by simpa using h1) (by simpa using h2)
section
variable {P : Program} {T : Tab} {L N : Nat} {ops : Array Oper} {E : Env} {K : List (Nat × Cls) → AS → Prop} {i : Nat} {is : List Nat} {t : Nat → AV} {h h' : Heap} {d : Tmp} {dst : Option Tmp} {op : Op} {ty : TypeId} {pos : String} {aft : Array Edge} {g : Option (Nat × Bool)} {Q : AExit → AS → Prop} {σ : AS} {x y : Operand}

theorem nst_len {α : Type} (hT : TOk P T) {st_ e bt : TypeId} {x : Operand} {k kf n sz : Nat} {c : α → List DV} {es : List α} {ti : TI} (hx : evA N ⟨t, h⟩ x = .own k 0 n) (h1 : T st_ = some ti) (h2 : ti.desc = .slice e) (hk : h k = .live [⟨bt, sz, .av (nestL kf c es)⟩]) (hn : n = es.length) :
    Light1 P N ⟨some d, .call ⟨.builtin .len, #[x], #[st_]⟩, ty, pos, aft, g⟩ ⟨t, h⟩ (.d (.v (.int .i64 (es.length : Int)))) := by
  subst hn
  exact li_len hT hx h1 h2 (lv_of hk) nst_n
theorem mem_len {α β : Type} (hT : TOk P T) {st_ e ft : TypeId} {x : Operand} {kf m n fz : Nat} {c : α → List DV} {es : List α} {a : α} {ti : TI} {cc : β → List DV} {ys : List β} (he : es[m]? = some a) (hx : evA N ⟨t, h⟩ x = .own kf m n) (h1 : T st_ = some ti) (h2 : ti.desc = .slice e) (hf : h kf = .live (famL ft fz c es)) (hs : slOf (c a) = ys.map cc) (hn : n = ys.length) :
    Light1 P N ⟨some d, .call ⟨.builtin .len, #[x], #[st_]⟩, ty, pos, aft, g⟩ ⟨t, h⟩ (.d (.v (.int .i64 (ys.length : Int)))) := by
  subst hn
  exact li_len hT hx h1 h2 (lv_fam hf he) (by rw [hs]; exact rows_len)
theorem nst_ix {α : Type} (hT : TOk P T) {st_ e bt : TypeId} {x y : Operand} {kk : IntKind} {iv : Int} {k kf sz n : Nat} {c : α → List DV} {es : List α} {ed : α} {ti ei : TI} (he : atI es iv = some ed) (hx : evA N ⟨t, h⟩ x = .own k 0 n) (hy : evA N ⟨t, h⟩ y = .d (.v (.int kk iv)))
    (h1 : T st_ = some ti) (h2 : ti.desc = .slice e) (h3 : T e = some ei) (hk : h k = .live [⟨bt, sz, .av (nestL kf c es)⟩]) (hn : n = es.length) (hs : sz = ei.size) : Light1 P N ⟨some d, .indexAddr st_ x y, ty, pos, aft, g⟩ ⟨t, h⟩ (.ptr k 0 n iv.toNat 0) :=
  li_index hT hx hy (atI_e he).1 (hn ▸ (atI_e he).2.2) h1 h2 h3 (lv_of hk) (nst_n.trans hn.symm) hs
theorem nst_ld1 {α : Type} (hT : TOk P T) {lt bt : TypeId} {x : Operand} {k kf n m j sz : Nat} {c : α → List DV} {es : List α} {ed : α} {u : AV} {ti : TI} (he : es[m]? = some ed) (hx : evA N ⟨t, h⟩ x = .ptr k 0 n m j) (h1 : T lt = some ti) (h2 : isRow ti.desc = false) (hk : h k = .live [⟨bt, sz, .av (nestL kf c es)⟩]) (hn : n = es.length)
    (hc : (nestC kf m (c ed))[j]? = some u) : Light1 P N ⟨some d, .load lt x, ty, pos, aft, g⟩ ⟨t, h⟩ u := li_load1 hT hx h1 h2 (lv_of hk) (nst_n.trans hn.symm) (nst_get he) hc
theorem nst_ldN {α : Type} (hT : TOk P T) {lt bt : TypeId} {x : Operand} {k kf n m j sz : Nat} {c : α → List DV} {es : List α} {ed : α} {out : List AV} {ti : TI} (he : es[m]? = some ed) (hx : evA N ⟨t, h⟩ x = .ptr k 0 n m j) (h1 : T lt = some ti) (h2 : isRow ti.desc = true) (hk : h k = .live [⟨bt, sz, .av (nestL kf c es)⟩]) (hn : n = es.length)
    (hc : Seg j ti.size (nestC kf m (c ed)) out := by repeat (first | exact Seg.z _ | apply Seg.t | apply Seg.d)) : Light1 P N ⟨some d, .load lt x, ty, pos, aft, g⟩ ⟨t, h⟩ (.agg out) := li_loadN hT hx h1 h2 (lv_of hk) (nst_n.trans hn.symm) (nst_get he) hc
theorem nst_fa {α : Type} (hT : TOk P T) {s bt : TypeId} {x : Operand} {q k kf n m j sz : Nat} {c : α → List DV} {es : List α} {ti fi : TI} {fs : Array Field} {fld : Field} {ed : α} (he : es[m]? = some ed) (hx : evA N ⟨t, h⟩ x = .ptr k 0 n m j) (h1 : T s = some ti) (h2 : ti.desc = .struct fs) (h3 : fs[q]? = some fld)
    (h4 : T fld.type = some fi) (h5 : Nat.beq fi.size 0 = false) (hk : h k = .live [⟨bt, sz, .av (nestL kf c es)⟩]) (hn : n = es.length) : Light1 P N ⟨some d, .fieldAddr s x q, ty, pos, aft, g⟩ ⟨t, h⟩ (.ptr k 0 n m (j + fld.offset)) :=
  li_fieldAddr hT hx h1 h2 h3 h4 h5 (lv_of hk) (nst_n.trans hn.symm) (nst_get he)
theorem nst_nil {α : Type} {bt : TypeId} {x : Operand} {k kf n m j sz : Nat} {c : α → List DV} {es : List α} {ed : α} (he : es[m]? = some ed) (hx : evA N ⟨t, h⟩ x = .ptr k 0 n m j) (hk : h k = .live [⟨bt, sz, .av (nestL kf c es)⟩]) (hn : n = es.length) : Light1 P N ⟨some d, .nilCheck x, ty, pos, aft, g⟩ ⟨t, h⟩ (.ptr k 0 n m j) := li_nil hx (lv_of hk) (nst_n.trans hn.symm) (nst_get he)
/-- data stored into an element: the slices stay -/
theorem nst_st {α : Type} (hT : TOk P T) {bt bt' ft : TypeId} {x y : Operand} {k kf n m j sz fz : Nat} {c : α → List DV} {es : List α} {ed : α} (ed' : α) {cs : List AV} {ti : TI} (he : es[m]? = some ed) (hx : evA N ⟨t, h⟩ x = .ptr k 0 n m j) (hy : cellsA (evA N ⟨t, h⟩ y) = cs) (ho : okL cs = true) (h1 : T bt = some ti)
    (hl : Nat.beq cs.length ti.size = true) (hpos : Nat.blt 0 ti.size = true) (hk : h k = .live [⟨bt', sz, .av (nestL kf c es)⟩]) (hf : h kf = .live (famL ft fz c es)) (hne : Nat.beq k kf = false) (hsl : slOf (c ed') = slOf (c ed)) (hn : n = es.length) (hs : Spl j cs (nestC kf m (c ed)) (nestC kf m (c ed')) := by repeat (first | exact Spl.z _ | apply Spl.t | apply Spl.d)) :
    Heavy1 P N ⟨dst, .store bt x y, ty, pos, aft, g⟩ ⟨t, h⟩ .dead (upd (upd h k (.live [⟨bt', sz, .av (nestL kf c (es.set m ed'))⟩])) kf (.live (famL ft fz c (es.set m ed')))) := by
  have hne := Nat.ne_of_beq_eq_false hne
  rw [famL_same he hsl, upd_id _ (by rw [upd_ne _ _ (Ne.symm hne)]; exact hf), ← nestL_set]
  exact wr_store hT hx hy ho h1 hl hpos hk rfl (nst_n.trans hn.symm) (nst_get he) hs (.av _ _ _) (.one _ _)
theorem spl_all {cs cells : List AV} : cs.length = cells.length → Spl 0 cs cells cs := by
  induction cs generalizing cells with
  | nil => intro h; cases cells with
    | nil => exact .z _
    | cons => cases h
  | cons a cs ih => intro h; cases cells with
    | nil => cases h
    | cons b cells => exact .t (ih (by simpa using h))
/-- an element is stored whole; its slice joins the family afterwards (absorb_set) -/
theorem nst_sto {α : Type} (hT : TOk P T) {bt bt' : TypeId} {x y : Operand} {k kf n m sz : Nat} {c : α → List DV} {es : List α} {ed : α} {cs : List AV} {ti : TI} (he : es[m]? = some ed) (hx : evA N ⟨t, h⟩ x = .ptr k 0 n m 0) (hy : cellsA (evA N ⟨t, h⟩ y) = cs) (ho : okL cs = true) (h1 : T bt = some ti)
    (hl : Nat.beq cs.length ti.size = true) (hpos : Nat.blt 0 ti.size = true) (hk : h k = .live [⟨bt', sz, .av (nestL kf c es)⟩]) (hcl : (c ed).length = ti.size) (hn : n = es.length) :
    Heavy1 P N ⟨dst, .store bt x y, ty, pos, aft, g⟩ ⟨t, h⟩ .dead (upd h k (.live [⟨bt', sz, .av ((nestL kf c es).set m cs)⟩])) :=
  wr_store hT hx hy ho h1 hl hpos hk rfl (nst_n.trans hn.symm) (nst_get he) (spl_all (by rw [nestC_len, hcl]; exact Nat.eq_of_beq_eq_true hl)) (.av _ _ _) (.one _ _)
/-- one element is appended; its slice joins the family afterwards (absorb_app) -/
theorem nst_app {α : Type} (hT : TOk P T) {bt e bt' bt2 : TypeId} {s x : Operand} {k kf k2 n sz sz2 : Nat} {c : α → List DV} {es : List α} {cs : List AV} {ti ei : TI} (a : α) (hb : (es.length + 1) * sz * 64 ≤ 140737488355328) (hs : evA N ⟨t, h⟩ s = .own k 0 n) (hx : evA N ⟨t, h⟩ x = .own k2 0 1) (h1 : T bt = some ti) (h2 : ti.desc = .slice e) (h3 : T e = some ei)
    (hzs : Nat.beq ei.zero.cells.size ei.size = true) (hpos : Nat.blt 0 ei.size = true) (hsb : Nat.ble ei.bytes (ei.size * 64) = true) (hk : h k = .live [⟨bt', sz, .av (nestL kf c es)⟩]) (hn : n = es.length) (hty : bt' = e) (hsz : sz = ei.size) (hk2 : h k2 = .live [⟨bt2, sz2, .av [cs]⟩]) (hsz2 : sz2 = ei.size) (hok : okL cs = true) :
    Heavy1 P N ⟨dst, .call ⟨.builtin .append, #[s, x], #[bt, bt]⟩, ty, pos, aft, g⟩ ⟨t, h⟩ (.own k 0 (es ++ [a]).length) (upd h k (.live [⟨bt', sz, .av (nestL kf c es ++ [cs])⟩])) := by
  subst hn
  rw [List.length_append, List.length_singleton]
  have hle := Nat.le_of_ble_eq_true hsb
  have hp := blt_lt hpos
  have e1 : (es.length + 1) * ei.bytes ≤ (es.length + 1) * sz * 64 := by
    rw [Nat.mul_assoc, hsz]; exact Nat.mul_le_mul_left _ hle
  have e2 : es.length + 1 ≤ (es.length + 1) * sz := Nat.le_mul_of_pos_right _ (by omega)
  exact wr_append_own (P := P) (N := N) (dst := dst) (ty := ty) (pos := pos) (aft := aft) (g := g) (n := es.length) (m := 1) hT hs hx h1 h2 h3 hzs hpos hk rfl nst_n hty hsz (lv_of hk2) rfl hsz2 (fun e he => by simp only [List.mem_singleton] at he; subst he; exact hok) (.av _ _) (.one _ _) (by omega) (by omega)
/-- a literal of one element that holds own slices -/
theorem bs_av (k : Nat) (hT : TOk P T) {bt e : TypeId} {len : Nat} {parts : Array (Nat × Operand)} {ti ei : TI} {es : List (List AV)} (h1 : T bt = some ti) (h2 : ti.desc = .slice e) (h3 : T e = some ei)
    (hel : Els (evA N ⟨t, h⟩) ei.size 0 parts.toList es) (hlen : Nat.beq es.length len = true) (hpos : Nat.blt 0 (len * ei.size) = true) (hsm : Nat.ble (len * ei.size) 16777216 = true) (hk : h k = .no) :
    Heavy1 P N ⟨some d, .buildSlice bt len parts, ty, pos, aft, g⟩ ⟨t, h⟩ (.own k 0 len) (upd h k (.live [⟨e, ei.size, .av es⟩])) ∧ ∀ k', h k' ≠ .no → upd h k (.live [⟨e, ei.size, .av es⟩]) k' = h k' := st_slice k hT h1 h2 h3 hel hlen hpos hsm (.av es) hk
theorem run_makeA (hT : TOk P T) {bt e : TypeId} {x y : Operand} {kx ky : IntKind} {a b : Int} {l c : Nat} {ti ei : TI} {zs : List AV} {ρ : Operand → Value} {F : Nat → Prop} {μ : Places} {w : World} (H : HInv E F μ h w) (k : Nat) (hx : ρ x = .int kx a) (hy : ρ y = .int ky b) (ha : a = (l : Int)) (hb : b = (c : Int)) (hlc : l ≤ c)
    (h1 : T bt = some ti) (h2 : ti.desc = .slice e) (h3 : T e = some ei) (hz : constL ei.zero.cells.toList = zs) (hzs : Nat.beq zs.length ei.size = true) (hpos : Nat.blt 0 ei.size = true) (hby : ei.bytes * c ≤ 281474976710656) (hm : c ≤ 9223372036854775807) (hk : h k = .no) :
    ∃ v w', (execOp ρ ⟨some d, .makeSlice bt x y, ty, pos, aft, g⟩).run P w = .ok (.value v) w' ∧ ∃ F' μ', HInv E F' μ' (upd h k (.live [⟨e, ei.size, .av (List.replicate l zs)⟩])) w' ∧ Evo w F μ h w' F' μ' (upd h k (.live [⟨e, ei.size, .av (List.replicate l zs)⟩])) ∧ ARep w' F' μ' (upd h k (.live [⟨e, ei.size, .av (List.replicate l zs)⟩])) v (.own k 0 l) := by
  obtain ⟨hu, _⟩ := hT _ _ h1
  rw [h2] at hu
  obtain ⟨_, ie, hie, hsz, hbb, hzz⟩ := hT _ _ h3
  subst ha hb
  have hby' : (ei.bytes : Int) * (c : Int) ≤ 281474976710656 := by
    have : ((ei.bytes * c : Nat) : Int) ≤ 281474976710656 := by omega
    rwa [Int.natCast_mul] at this
  have hrun := run_make (P := P) w bt e ie ei.zero hu hie hzz kx ky l c (by omega) (by omega) (by rw [hbb]; exact hby') (by omega)
  rw [Int.toNat_natCast, Int.toNat_natCast, hsz] at hrun
  have e3 : (execOp ρ ⟨some d, .makeSlice bt x y, ty, pos, aft, g⟩).run P w = .ok (.value (.slice (some ⟨w.heap.size, 0, none⟩) l c)) (w.alloc (.cells (madeCells ei.zero.cells (c * ei.size)) e)) := by
    simp only [execOp, hx, hy]
    rw [Sem.run_bind, hrun]; rfl
  have hp := blt_lt hpos
  have hlen : ei.zero.cells.size = ei.size := by
    have := Nat.eq_of_beq_eq_true hzs
    rw [← hz, constL_map] at this
    simpa using this
  obtain ⟨F', μ', q1, q2, q3⟩ := new_row (cc := .av (List.replicate l zs)) (et := e) H hk (size_madeCells ei.zero.cells (c * ei.size)) (by simpa [Cells.len] using hlc) (by unfold maxLen; omega) fun i cells hi => by
    simp only [Cells.get] at hi
    have hil : i < l := by have := (List.getElem?_eq_some_iff.1 hi).1; simpa using this
    have hqz : cells = zs := by have := List.mem_of_getElem? hi; exact (List.mem_replicate.1 this).2
    subst hqz
    refine ⟨Nat.eq_of_beq_eq_true hzs, fun j a hj => ?_⟩
    rw [← hz, constL_map, List.getElem?_map, Array.getElem?_toList] at hj
    obtain ⟨u, hu', rfl⟩ := Option.map_eq_some_iff.1 hj
    have hjl : j < ei.size := by have := (Array.getElem?_eq_some_iff.1 hu').1; omega
    have hidx : i * ei.size + j < c * ei.size := by
      have : (i + 1) * ei.size ≤ c * ei.size := Nat.mul_le_mul_right _ (by omega)
      rw [Nat.add_mul] at this
      omega
    refine ⟨u, ?_, oneA_rep u⟩
    simp only [madeCells, Array.getElem?_map]
    rw [Array.getElem?_range, if_pos hidx]
    simp only [Option.map_some, hlen]
    rw [Nat.mul_comm, Nat.mul_add_mod, Nat.mod_eq_of_lt hjl, getElem!_def, hu']
  have h5 : (Cells.av (List.replicate l zs)).len = l := by simp [Cells.len]
  rw [h5] at q3
  exact ⟨_, _, e3, F', μ', q1, q2, q3⟩
/-- make, of rows that will have a family (weak_adoptN behind it) -/
theorem mk_av {α : Type} (k : Nat) (hT : TOk P T) {bt e : TypeId} {x y : Operand} {kx ky : IntKind} {a b : Int} {ti ei : TI} {zs : List AV} {sz : Nat} (z : α) (hb : 0 ≤ a ∧ a = b ∧ a.toNat * sz * 64 ≤ 281474976710656) (hx : evA N ⟨t, h⟩ x = .d (.v (.int kx a))) (hy : evA N ⟨t, h⟩ y = .d (.v (.int ky b)))
    (h1 : T bt = some ti) (h2 : ti.desc = .slice e) (h3 : T e = some ei) (hsz : ei.size = sz) (hz : constL ei.zero.cells.toList = zs) (hzs : Nat.beq zs.length ei.size = true) (hpos : Nat.blt 0 ei.size = true) (hsb : Nat.ble ei.bytes (ei.size * 64) = true) (hk : h k = .no) :
    Heavy1 P N ⟨some d, .makeSlice bt x y, ty, pos, aft, g⟩ ⟨t, h⟩ (.own k 0 (List.replicate a.toNat z).length) (upd h k (.live [⟨e, ei.size, .av (List.replicate a.toNat zs)⟩])) ∧ ∀ k', h k' ≠ .no → upd h k (.live [⟨e, ei.size, .av (List.replicate a.toNat zs)⟩]) k' = h k' := by
  subst hsz
  rw [List.length_replicate]
  obtain ⟨b1, rfl, b3⟩ := hb
  have hle := Nat.le_of_ble_eq_true hsb
  have hp := blt_lt hpos
  have e1 : ei.bytes * a.toNat ≤ a.toNat * ei.size * 64 := by rw [Nat.mul_comm, Nat.mul_assoc]; exact Nat.mul_le_mul_left _ hle
  have e2 : a.toNat ≤ a.toNat * ei.size := Nat.le_mul_of_pos_right _ (by omega)
  refine ⟨fun E F μ w ρ H st => ?_, ext_upd hk⟩
  have f1 := rep_v (by have := st x (by simp [Op.operands]); rw [hx] at this; exact this)
  have f2 := rep_v (by have := st y (by simp [Op.operands]); rw [hy] at this; exact this)
  obtain ⟨v, w', q1, F', μ', q2, q3, q4⟩ := run_makeA (d := d) (ty := ty) (pos := pos) (aft := aft) (g := g) (l := a.toNat) (c := a.toNat) hT H k f1 f2 (by omega) (by omega) (Nat.le_refl _) h1 h2 h3 hz hzs hpos (by omega) (by omega) hk
  rw [q1]
  exact ⟨F', μ', q2, q3, q4⟩
/-- a call that is handed one member of a family -/
theorem wr_callF {kf m : Nat} {L0 : List AObj} {ft : TypeId} {fz : Nat} {es es' : List (List DV)} {f : FuncId} {x : Operand} {args : Array Operand} {at_ : Array TypeId} {caps as as' : List AV} {r : AV} (hF : FnC P f [.live [⟨ft, fz, .data es⟩]] as [.live [⟨ft, fz, .data es'⟩]] r) (hx : evA N ⟨t, h⟩ x = .fn f caps) (ha : evL N ⟨t, h⟩ args.toList ++ caps = as')
    (hk : h kf = .live L0) (hm : L0[m]? = some ⟨ft, fz, .data es⟩) (hr : r.free = true) (har : FamA kf m as as') : Heavy1 P N ⟨dst, .call ⟨.value x, args, at_⟩, ty, pos, aft, g⟩ ⟨t, h⟩ r (upd h kf (.live (L0.set m ⟨ft, fz, .data es'⟩))) := fun E F μ w ρ H st => by
  obtain ⟨cap, c1, c2, c3⟩ := args_rep st hx
  rw [call_run hF.c c1]
  rw [ha] at c2 c3
  obtain ⟨a1, a2⟩ := har.spec
  have hlo : lv h kf m = some ⟨ft, fz, .data es⟩ := (lv_live hk m).trans hm
  have lo0 : ∀ {p f o}, lv (lks [.live [⟨ft, fz, .data es⟩]]) p f = some o → p = 0 ∧ f = 0 ∧ o = ⟨ft, fz, .data es⟩ := fun {p f o} hl => by
    cases p with
    | zero => cases f with
      | zero => simp [lv, lks] at hl; exact ⟨rfl, rfl, hl.symm⟩
      | succ f => simp [lv, lks] at hl
    | succ p => simp [lv, lks] at hl
  have H0 : HInv ⟨w, F, fun p f => if p = 0 ∧ f = 0 then μ kf m else none, lks [.live [⟨ft, fz, .data es⟩]], H.glob⟩ F (fun p f => if p = 0 ∧ f = 0 then μ kf m else none) (lks [.live [⟨ft, fz, .data es⟩]]) w := by
    refine ⟨fun p f o hl => ?_, fun p f o p2 f2 o2 b l1 l2 _ _ => ?_, fun p f o b hl hb => ?_, fun p f o b hl hb => .inl ⟨p, f, o, hl, hb⟩, H.fz, fun b hb => .inl hb, Evo.refl_, rfl, rfl, rfl, Nat.le_refl _, fun _ _ _ => rfl⟩
    · obtain ⟨rfl, rfl, rfl⟩ := lo0 hl
      simp only [and_self, if_true]
      exact (H.ob _ _ _ hlo).dat
    · obtain ⟨rfl, rfl, rfl⟩ := lo0 l1
      obtain ⟨rfl, rfl, rfl⟩ := lo0 l2
      exact ⟨rfl, rfl⟩
    · obtain ⟨rfl, rfl, rfl⟩ := lo0 hl
      simp only [and_self, if_true] at hb
      exact H.sep _ _ _ b hlo hb
  refine (hF.g w F _ _ H.glob H0 (c2.trans a1.symm) fun i v a h1 h2 => ?_).mono ?_
  · have hlt : i < as'.length := by have := (List.getElem?_eq_some_iff.1 h2).1; omega
    have h3 := List.getElem?_eq_getElem hlt
    have r3 := c3 i v _ h1 h3
    rcases a2 i a _ h2 h3 with ⟨e, hf⟩ | ⟨n, e1, e2⟩
    · rw [← e] at r3; exact r3.free_ hf
    · rw [e2] at r3
      rw [e1]
      cases r3 with | own _ _ _ _ g1 gb hv =>
      refine .own _ _ _ _ g1 (fun e => by cases e) fun o ho => ?_
      obtain ⟨_, _, rfl⟩ := lo0 ho
      simp only [and_self, if_true]
      exact hv _ hlo
  · rintro e w' ⟨v, F', μ1, rfl, H1, hv⟩
    obtain ⟨J1, J2⟩ := H.joinF hk hm H1
    exact ⟨v, rfl, F', _, J1, J2, hv.free_ hr⟩
theorem c_callF {α : Type} {k kf m : Nat} {bt ft : TypeId} {sz fz : Nat} {cc : α → List DV} {xs : List α} {a : α} (a' : α) {es es' : List (List DV)} {f : FuncId} {x : Operand} {args : Array Operand} {at_ : Array TypeId} {caps as as' : List AV} {r : AV} (hF : FnC P f [.live [⟨ft, fz, .data es⟩]] as [.live [⟨ft, fz, .data es'⟩]] r) (he : xs[m]? = some a) (hrow : nestC kf m (cc a') = nestC kf m (cc a))
    (hx : evA N ⟨t, h⟩ x = .fn f caps) (ha : evL N ⟨t, h⟩ args.toList ++ caps = as') (hk : h k = .live [⟨bt, sz, .av (nestL kf cc xs)⟩]) (hf : h kf = .live (famL ft fz cc xs)) (hes : slOf (cc a) = es) (hes' : slOf (cc a') = es') (hr : r.free = true)
    (har : FamA kf m as as' := by repeat (first | exact FamA.nil | apply FamA.own (by first | rfl | (simp; done) | omega | (simp; omega)) | apply FamA.free rfl)) :
    Heavy1 P N ⟨dst, .call ⟨.value x, args, at_⟩, ty, pos, aft, g⟩ ⟨t, h⟩ r (upd (upd h k (.live [⟨bt, sz, .av (nestL kf cc (xs.set m a'))⟩])) kf (.live (famL ft fz cc (xs.set m a')))) := by
  rw [nestL_same he hrow, upd_id _ hk, famL_set, hes']
  exact wr_callF hF hx ha hf (by rw [famL_get, he]; simp [hes]) hr har
/-- a region in whatever order, made weaker behind it -/
theorem aw_region_drawW {id : Nat} {is : List Nat} (ms : List Nat) (hm : P.follows .mixedOrders = true) (hms : masks ops.toList [] = ms) (h : RT P N ops is (fun l σ' => drawOk ops ms l = true ∧ ∃ σ'', Weak L N σ' σ'' ∧ Q .normal σ'') σ) : AW L P N (.region id ops true) Q σ := fun E a w A =>
  wp_mono (aw_region_draw (L := L) (Q := fun e σ' => match e with | .normal => ∃ σ'', Weak L N σ' σ'' ∧ Q .normal σ'' | e => Q e σ') ms hm hms h E a w A) fun e a w q => by
    cases e with
    | normal => obtain ⟨σ', A', σ'', hw, hq⟩ := q; exact ⟨σ'', hw E a w A', hq⟩
    | _ => exact q
end
end Go.Proofs.YtjhadibjjldpdaaGreat
