/- An abstract machine, R: operations on typed rows, in few words. No program. -/
import Derived.Test.YtjhadibjjldpdaaGreatAmQ
namespace Go.Proofs.YtjhadibjjldpdaaGreat
open Go.RowKit
set_option linter.unusedVariables false
set_option maxRecDepth 100000
def cI (x : Int) : List DV := [.v (.int .i64 x)]
def cU8 (x : Int) : List DV := [.v (.int .u8 x)]
def cS (x : ByteArray) : List DV := [.v (.string x)]
def cB (x : Bool) : List DV := [.v (.bool x)]
def cL {α : Type} (c : α → List DV) (xs : List α) : List DV := [.sl (xs.map c)]
theorem lv_of {h : Heap} {k : Nat} {o : AObj} (hk : h k = .live [o]) : lv h k 0 = some o := by unfold lv; rw [hk]; rfl
theorem rows_len {α : Type} {c : α → List DV} {es : List α} : (Cells.data (es.map c)).len = es.length := by simp [Cells.len]
theorem rows_get {α : Type} {c : α → List DV} {es : List α} {m : Nat} {e : α} (he : es[m]? = some e) : (Cells.data (es.map c)).get m = some ((c e).map .d) := by simp [Cells.get, he]
theorem sf_nil : ∀ s ∈ ([] : List Slot), SFlat s := fun s hs => by cases hs
theorem sf_cons {a : Slot} {l : List Slot} (h : SFlat a) (k : ∀ s ∈ l, SFlat s) : ∀ s ∈ a :: l, SFlat s := fun s hs => by
  rcases List.mem_cons.1 hs with rfl | hs
  · exact h
  · exact k s hs
theorem sflat_rows {α : Type} {t : TypeId} {z : Nat} {c : α → List DV} {es : List α} (hc : ∀ a, (c a).all DV.flat = true) : SFlat (.live [⟨t, z, .data (es.map c)⟩]) := by
  intro o ho
  simp only [List.mem_singleton] at ho
  subst ho
  intro e he x hx
  obtain ⟨a, _, rfl⟩ := List.mem_map.1 he
  exact List.all_eq_true.1 (hc a) x hx
theorem nestC_flat (kf i : Nat) : ∀ l : List DV, AV.flatL (nestC kf i l) = true
  | [] => rfl
  | .v x :: l => by simp [nestC, AV.flatL, AV.flat, DV.flat, nestC_flat kf i l]
  | .sl es :: l => by simp [nestC, AV.flatL, AV.flat, nestC_flat kf i l]
theorem nestC_len (kf i : Nat) : ∀ l : List DV, (nestC kf i l).length = l.length
  | [] => rfl
  | .v x :: l => by simp [nestC, nestC_len kf i l]
  | .sl es :: l => by simp [nestC, nestC_len kf i l]
def nestA (kf i : Nat) : DV → AV
  | .v x => .d (.v x)
  | .sl es => .own kf i es.length
theorem nestC_get (kf i : Nat) : ∀ (l : List DV) (j : Nat), (nestC kf i l)[j]? = (l[j]?).map (nestA kf i)
  | [], j => by simp [nestC]
  | .v x :: l, 0 => by simp [nestC, nestA]
  | .sl es :: l, 0 => by simp [nestC, nestA]
  | .v x :: l, j + 1 => by simp [nestC, nestC_get kf i l j]
  | .sl es :: l, j + 1 => by simp [nestC, nestC_get kf i l j]
theorem slCnt0 : ∀ {l : List DV} {j : Nat} {es : List (List DV)}, slCnt l = 0 → l[j]? = some (.sl es) → False
  | [], j, es, _, h => by simp at h
  | .v x :: l, 0, es, _, h => by simp at h
  | .v x :: l, j + 1, es, h0, h => slCnt0 (l := l) (by simpa [slCnt] using h0) (by simpa using h)
  | .sl x :: l, j, es, h0, h => by simp [slCnt] at h0
theorem slOf_of : ∀ {l : List DV} {j : Nat} {es : List (List DV)}, slCnt l = 1 → l[j]? = some (.sl es) → slOf l = es
  | [], j, es, _, h => by simp at h
  | .v x :: l, 0, es, _, h => by simp at h
  | .v x :: l, j + 1, es, h0, h => by simpa [slOf] using slOf_of (l := l) (by simpa [slCnt] using h0) (by simpa using h)
  | .sl x :: l, 0, es, _, h => by simp at h; simpa [slOf] using h
  | .sl x :: l, j + 1, es, h0, h => (slCnt0 (l := l) (by simpa [slCnt] using h0) (by simpa using h)).elim
theorem nestL_len {α : Type} {kf : Nat} {c : α → List DV} {x : List α} : (nestL kf c x).length = x.length := by simp [nestL]
theorem nestL_get {α : Type} {kf : Nat} {c : α → List DV} {x : List α} {i : Nat} : (nestL kf c x)[i]? = (x[i]?).map fun a => nestC kf i (c a) := by simp [nestL, List.getElem?_mapIdx]
theorem famL_get {α : Type} {ft : TypeId} {fz : Nat} {c : α → List DV} {x : List α} {i : Nat} : (famL ft fz c x)[i]? = (x[i]?).map fun a => (⟨ft, fz, .data (slOf (c a))⟩ : AObj) := by simp [famL]
theorem lv_fam {α : Type} {h : Heap} {kf : Nat} {ft : TypeId} {fz : Nat} {c : α → List DV} {x : List α} {m : Nat} {a : α} (hf : h kf = .live (famL ft fz c x)) (he : x[m]? = some a) : lv h kf m = some ⟨ft, fz, .data (slOf (c a))⟩ := by
  rw [lv_live hf, famL_get, he]; rfl
/-- rows with their families, seen as data -/
theorem view_nest {α : Type} {h : Heap} {k kf n : Nat} {bt ft : TypeId} {sz fz : Nat} {c : α → List DV} {x : List α} (hk : h k = .live [⟨bt, sz, .av (nestL kf c x)⟩]) (hf : h kf = .live (famL ft fz c x)) (hone : ∀ a, slCnt (c a) = 1) (hn : n = x.length) : View h (.own k 0 n) (.d (.sl (x.map c))) := by
  refine .row k 0 n _ _ (lv_of hk) (by simp [Cells.len, nestL_len, hn]) (by simp [hn]) (fun i e he => ?_) fun i e cells j cc xx he hi hj hx => ?_
  · rw [List.getElem?_map] at he
    obtain ⟨a, ha, rfl⟩ := Option.map_eq_some_iff.1 he
    exact ⟨nestC kf i (c a), by simp [Cells.get, nestL_get, ha], nestC_len _ _ _⟩
  · rw [List.getElem?_map] at he
    obtain ⟨a, ha, rfl⟩ := Option.map_eq_some_iff.1 he
    simp only [Cells.get, nestL_get, ha, Option.map_some, Option.some.injEq] at hi
    subst hi
    rw [nestC_get, hx] at hj
    simp only [Option.map_some, Option.some.injEq] at hj
    subst hj
    cases xx with
    | v x => exact .d _
    | sl es => exact View.data (lv_fam hf ha) (by rw [slOf_of (hone a) hx]) rfl
/-- a member of a family, seen as data -/
theorem view_mem {α : Type} {h : Heap} {kf m n : Nat} {ft : TypeId} {fz : Nat} {c : α → List DV} {x : List α} {a : α} {es : List (List DV)} (hf : h kf = .live (famL ft fz c x)) (he : x[m]? = some a) (hs : slOf (c a) = es) (hn : n = es.length) : View h (.own kf m n) (.d (.sl es)) := View.data (lv_fam hf he) (by rw [hs]) hn.symm
theorem sflat_nest {α : Type} {t : TypeId} {z kf : Nat} {c : α → List DV} {x : List α} : SFlat (.live [⟨t, z, .av (nestL kf c x)⟩]) := by
  intro o ho
  simp only [List.mem_singleton] at ho
  subst ho
  intro e he
  obtain ⟨i, hi⟩ := List.getElem?_of_mem he
  rw [nestL_get] at hi
  obtain ⟨a, _, rfl⟩ := Option.map_eq_some_iff.1 hi
  exact nestC_flat _ _ _
theorem sflat_fam {α : Type} {ft : TypeId} {fz : Nat} {c : α → List DV} {x : List α} (hc : ∀ a, ∃ (β : Type) (ys : List β) (d : β → List DV), slOf (c a) = ys.map d ∧ ∀ y, (d y).all DV.flat = true) : SFlat (.live (famL ft fz c x)) := by
  intro o ho
  obtain ⟨a, _, rfl⟩ := List.mem_map.1 ho
  intro e he xx hx
  obtain ⟨β, ys, d, h1, h2⟩ := hc a
  have he : e ∈ slOf (c a) := he
  rw [h1] at he
  obtain ⟨y, _, rfl⟩ := List.mem_map.1 he
  exact List.all_eq_true.1 (h2 y) xx hx
theorem sflat_box {t : TypeId} {z : Nat} {cs : List AV} (hc : AV.flatL cs = true) : SFlat (.live [⟨t, z, .av [cs]⟩]) := by
  intro o ho
  simp only [List.mem_singleton] at ho
  subst ho
  intro e he
  simp only [List.mem_singleton] at he
  subst he
  exact hc
section
variable {P : Program} {T : Tab} {L N : Nat} {ops : Array Oper} {E : Env} {K : List (Nat × Cls) → AS → Prop} {i : Nat} {is : List Nat} {t : Nat → AV} {h h' : Heap} {d : Tmp} {dst : Option Tmp} {op : Op} {ty : TypeId} {pos : String} {aft : Array Edge} {g : Option (Nat × Bool)}

/-! calls -/
theorem c_call (B : Nat) {f : FuncId} {x : Operand} {args : Array Operand} {at_ : Array TypeId} {caps as : List AV} {hs : List Slot} {r r' : AV} (hF : FnC P f [] as hs r) (hx : evA N ⟨t, h⟩ x = .fn f caps) (ha : evL N ⟨t, h⟩ args.toList ++ caps = as) (hfr : AV.freeL as = true)
    (hB : Abv h B := by repeat (first | exact abv_nil _ | exact abv_lks rfl | refine abv_upd ?_ rfl))
    (hr : RenR (B + ·) r r' := by repeat (first | exact RenRL.nil | apply RenRL.cons | exact RenR.d _ | apply RenR.agg | apply RenR.tup | exact RenR.own _ _ _ _ rfl | exact RenR.ptr _ _ _ _ _ _ rfl | exact RenR.ref _ | apply RenR.fn | exact RenR.dead))
    (hb : BirR (B + ·) B hs h h' := by repeat (first | exact BirR.nil _ _ | (apply BirR.cons; (first | exact RenS.no | exact RenS.dead | exact RenS.data _ _ _ | exact RenS.nest rfl | exact RenS.fam | exact RenS.gen _)))) :
    Heavy1 P N ⟨dst, .call ⟨.value x, args, at_⟩, ty, pos, aft, g⟩ ⟨t, h⟩ r' h' ∧ ∀ k, h k ≠ .no → h' k = h k := st_call B hx ha hfr hF hB hr hb
theorem b_call (B : Nat) {f : FuncId} {x : Operand} {args : Array Operand} {at_ : Array TypeId} {caps as : List AV} {hs : List Slot} {r r' : AV} (hF : FnC P f [] as hs r) (hx : evA N ⟨t, h⟩ x = .fn f caps) (ha : evL N ⟨t, h⟩ args.toList ++ caps = as) (hfr : AV.freeL as = true)
    (hB : Abv h B := by repeat (first | exact abv_nil _ | exact abv_lks rfl | refine abv_upd ?_ rfl))
    (hr : RenR (B + ·) r r' := by repeat (first | exact RenRL.nil | apply RenRL.cons | exact RenR.d _ | apply RenR.agg | apply RenR.tup | exact RenR.own _ _ _ _ rfl | exact RenR.ptr _ _ _ _ _ _ rfl | exact RenR.ref _ | apply RenR.fn | exact RenR.dead))
    (hb : BirR (B + ·) B hs h h' := by repeat (first | exact BirR.nil _ _ | (apply BirR.cons; (first | exact RenS.no | exact RenS.dead | exact RenS.data _ _ _ | exact RenS.nest rfl | exact RenS.fam | exact RenS.gen _)))) :
    Abv h B ∧ (∀ hx : Heap, Abv hx B → (∀ p, h p ≠ .no → hx p = h p) → Heavy1 P N ⟨dst, .call ⟨.value x, args, at_⟩, ty, pos, aft, g⟩ ⟨t, hx⟩ r' (over B hx h')) ∧ over B h h' = h' := sb_call B hx ha hfr hF hB hr hb
theorem view_rows {α : Type} {k f : Nat} {bt : TypeId} {sz : Nat} {c : α → List DV} {es : List α} (ho : lv h k f = some ⟨bt, sz, .data (es.map c)⟩) : View h (.own k f es.length) (.d (.sl (es.map c))) := View.data ho rfl (by simp)
theorem view_rowsN {α : Type} {k f n : Nat} {bt : TypeId} {sz : Nat} {c : α → List DV} {es : List α} (ho : lv h k f = some ⟨bt, sz, .data (es.map c)⟩) (hn : n = es.length) : View h (.own k f n) (.d (.sl (es.map c))) := View.data ho rfl (by simp [hn])
theorem c_callV (B : Nat) {f : FuncId} {x : Operand} {args : Array Operand} {at_ : Array TypeId} {caps as : List AV} {hs : List Slot} {r r' : AV} (hF : FnC P f [] as hs r) (hx : evA N ⟨t, h⟩ x = .fn f caps) (hfl : r.flat = true)
    (ha : Vs h (evL N ⟨t, h⟩ args.toList ++ caps) as := by repeat (first | exact Vs.nil | apply Vs.cons | exact View.d _ | exact view_rows rfl | exact view_rowsN rfl (by first | (simp; done) | omega | (simp; omega)) | exact view_nest rfl rfl (fun _ => rfl) (by first | rfl | (simp; done) | omega | (simp; omega)) | exact view_mem rfl (by assumption) rfl (by first | rfl | (simp; done) | omega | (simp; omega)) | exact view_part rfl (by repeat (first | exact PreA.z _ | apply PreA.t | apply PreA.d)) | apply View.agg_ | apply View.fn_ | exact view_ref (by repeat (first | exact Pre.z _ | apply Pre.t))))
    (hfs : ∀ s ∈ hs, SFlat s := by repeat (first | exact sf_nil | refine sf_cons (sflat_rows (fun _ => rfl)) ?_ | refine sf_cons (sflat_box rfl) ?_ | refine sf_cons sflat_nest ?_ | refine sf_cons (sflat_fam fun _ => ⟨_, _, _, rfl, fun _ => rfl⟩) ?_))
    (hB : Abv h B := by repeat (first | exact abv_nil _ | exact abv_lks rfl | refine abv_upd ?_ rfl))
    (hr : RenR (B + ·) r r' := by repeat (first | exact RenRL.nil | apply RenRL.cons | exact RenR.d _ | apply RenR.agg | apply RenR.tup | exact RenR.own _ _ _ _ rfl | exact RenR.ptr _ _ _ _ _ _ rfl | exact RenR.ref _ | apply RenR.fn | exact RenR.dead))
    (hb : BirR (B + ·) B hs h h' := by repeat (first | exact BirR.nil _ _ | (apply BirR.cons; (first | exact RenS.no | exact RenS.dead | exact RenS.data _ _ _ | exact RenS.nest rfl | exact RenS.fam | exact RenS.gen _)))) :
    Heavy1 P N ⟨dst, .call ⟨.value x, args, at_⟩, ty, pos, aft, g⟩ ⟨t, h⟩ r' h' ∧ ∀ k, h k ≠ .no → h' k = h k := st_callV B hx ha hF hfl hfs hB hr hb
theorem b_callV (B : Nat) {f : FuncId} {x : Operand} {args : Array Operand} {at_ : Array TypeId} {caps as : List AV} {hs : List Slot} {r r' : AV} (hF : FnC P f [] as hs r) (hx : evA N ⟨t, h⟩ x = .fn f caps) (hfl : r.flat = true)
    (ha : Vs h (evL N ⟨t, h⟩ args.toList ++ caps) as := by repeat (first | exact Vs.nil | apply Vs.cons | exact View.d _ | exact view_rows rfl | exact view_rowsN rfl (by first | (simp; done) | omega | (simp; omega)) | exact view_nest rfl rfl (fun _ => rfl) (by first | rfl | (simp; done) | omega | (simp; omega)) | exact view_mem rfl (by assumption) rfl (by first | rfl | (simp; done) | omega | (simp; omega)) | exact view_part rfl (by repeat (first | exact PreA.z _ | apply PreA.t | apply PreA.d)) | apply View.agg_ | apply View.fn_ | exact view_ref (by repeat (first | exact Pre.z _ | apply Pre.t))))
    (hfs : ∀ s ∈ hs, SFlat s := by repeat (first | exact sf_nil | refine sf_cons (sflat_rows (fun _ => rfl)) ?_ | refine sf_cons (sflat_box rfl) ?_ | refine sf_cons sflat_nest ?_ | refine sf_cons (sflat_fam fun _ => ⟨_, _, _, rfl, fun _ => rfl⟩) ?_))
    (hB : Abv h B := by repeat (first | exact abv_nil _ | exact abv_lks rfl | refine abv_upd ?_ rfl))
    (hr : RenR (B + ·) r r' := by repeat (first | exact RenRL.nil | apply RenRL.cons | exact RenR.d _ | apply RenR.agg | apply RenR.tup | exact RenR.own _ _ _ _ rfl | exact RenR.ptr _ _ _ _ _ _ rfl | exact RenR.ref _ | apply RenR.fn | exact RenR.dead))
    (hb : BirR (B + ·) B hs h h' := by repeat (first | exact BirR.nil _ _ | (apply BirR.cons; (first | exact RenS.no | exact RenS.dead | exact RenS.data _ _ _ | exact RenS.nest rfl | exact RenS.fam | exact RenS.gen _)))) :
    Abv h B ∧ (∀ hx : Heap, Abv hx B → (∀ p, h p ≠ .no → hx p = h p) → Heavy1 P N ⟨dst, .call ⟨.value x, args, at_⟩, ty, pos, aft, g⟩ ⟨t, hx⟩ r' (over B hx h')) ∧ over B h h' = h' := sb_callV B hx ha hF hfl hfs hB hr hb

/-! boxes -/
theorem bx_ld1 (hT : TOk P T) {lt bt : TypeId} {x : Operand} {k j sz : Nat} {cells : List AV} {c : AV} {ti : TI} (hx : evA N ⟨t, h⟩ x = .ptr k 0 1 0 j) (h1 : T lt = some ti) (h2 : isRow ti.desc = false) (hk : h k = .live [⟨bt, sz, .av [cells]⟩]) (hc : cells[j]? = some c) :
    Light1 P N ⟨some d, .load lt x, ty, pos, aft, g⟩ ⟨t, h⟩ c := li_load1 hT hx h1 h2 (lv_of hk) rfl rfl hc
theorem bx_ldN (hT : TOk P T) {lt bt : TypeId} {x : Operand} {k j sz : Nat} {cells out : List AV} {ti : TI} (hx : evA N ⟨t, h⟩ x = .ptr k 0 1 0 j) (h1 : T lt = some ti) (h2 : isRow ti.desc = true) (hk : h k = .live [⟨bt, sz, .av [cells]⟩])
    (hc : Seg j ti.size cells out := by repeat (first | exact Seg.z _ | apply Seg.t | apply Seg.d)) :
    Light1 P N ⟨some d, .load lt x, ty, pos, aft, g⟩ ⟨t, h⟩ (.agg out) := li_loadN hT hx h1 h2 (lv_of hk) rfl rfl hc
theorem bx_fa (hT : TOk P T) {s bt : TypeId} {x : Operand} {q k j sz : Nat} {cells : List AV} {ti fi : TI} {fs : Array Field} {fld : Field} (hx : evA N ⟨t, h⟩ x = .ptr k 0 1 0 j) (h1 : T s = some ti) (h2 : ti.desc = .struct fs) (h3 : fs[q]? = some fld)
    (h4 : T fld.type = some fi) (h5 : Nat.beq fi.size 0 = false) (hk : h k = .live [⟨bt, sz, .av [cells]⟩]) : Light1 P N ⟨some d, .fieldAddr s x q, ty, pos, aft, g⟩ ⟨t, h⟩ (.ptr k 0 1 0 (j + fld.offset)) := li_fieldAddr hT hx h1 h2 h3 h4 h5 (lv_of hk) rfl rfl
theorem bx_nil {bt : TypeId} {x : Operand} {k j sz : Nat} {cells : List AV} (hx : evA N ⟨t, h⟩ x = .ptr k 0 1 0 j) (hk : h k = .live [⟨bt, sz, .av [cells]⟩]) : Light1 P N ⟨some d, .nilCheck x, ty, pos, aft, g⟩ ⟨t, h⟩ (.ptr k 0 1 0 j) := li_nil hx (lv_of hk) rfl rfl
theorem bx_st (hT : TOk P T) {bt bt' : TypeId} {x y : Operand} {k j sz : Nat} {cells cs cells' : List AV} {ti : TI} (hx : evA N ⟨t, h⟩ x = .ptr k 0 1 0 j) (hy : cellsA (evA N ⟨t, h⟩ y) = cs) (ho : okL cs = true) (h1 : T bt = some ti)
    (hl : Nat.beq cs.length ti.size = true) (hpos : Nat.blt 0 ti.size = true) (hk : h k = .live [⟨bt', sz, .av [cells]⟩]) (hs : Spl j cs cells cells' := by repeat (first | exact Spl.z _ | apply Spl.t | apply Spl.d)) :
    Heavy1 P N ⟨dst, .store bt x y, ty, pos, aft, g⟩ ⟨t, h⟩ .dead (upd h k (.live [⟨bt', sz, .av [cells']⟩])) := wr_store hT hx hy ho h1 hl hpos hk rfl rfl rfl hs (.box _ _) (.one _ _)

/-! rows by value -/
theorem sl_ix {α : Type} (hT : TOk P T) {st_ e : TypeId} {x y : Operand} {kk : IntKind} {iv : Int} {c : α → List DV} {es : List α} {ed : α} {ti ei : TI} (he : atI es iv = some ed) (hx : evA N ⟨t, h⟩ x = .d (.sl (es.map c))) (hy : evA N ⟨t, h⟩ y = .d (.v (.int kk iv)))
    (h1 : T st_ = some ti) (h2 : ti.desc = .slice e) (h3 : T e = some ei) (hs : (c ed).length = ei.size) : Pure1 P N ⟨some d, .indexAddr st_ x y, ty, pos, aft, g⟩ ⟨t, h⟩ (.ref (c ed)) :=
  pu_index_sl hT hx hy (atI_e he).1 h1 h2 h3 (map_at (atI_e he).2.1) hs
/-! own rows -/
theorem ow_ix {α : Type} (hT : TOk P T) {st_ e bt : TypeId} {x y : Operand} {kk : IntKind} {iv : Int} {k sz n : Nat} {c : α → List DV} {es : List α} {ed : α} {ti ei : TI} (he : atI es iv = some ed) (hx : evA N ⟨t, h⟩ x = .own k 0 n) (hy : evA N ⟨t, h⟩ y = .d (.v (.int kk iv)))
    (h1 : T st_ = some ti) (h2 : ti.desc = .slice e) (h3 : T e = some ei) (hk : h k = .live [⟨bt, sz, .data (es.map c)⟩]) (hn : n = es.length) (hs : sz = ei.size) : Light1 P N ⟨some d, .indexAddr st_ x y, ty, pos, aft, g⟩ ⟨t, h⟩ (.ptr k 0 n iv.toNat 0) :=
  li_index hT hx hy (atI_e he).1 (hn ▸ (atI_e he).2.2) h1 h2 h3 (lv_of hk) (rows_len.trans hn.symm) hs
theorem rw_ld1 {α : Type} (hT : TOk P T) {lt bt : TypeId} {x : Operand} {k n m j sz : Nat} {c : α → List DV} {es : List α} {ed : α} {u : DV} {ti : TI} (he : es[m]? = some ed) (hx : evA N ⟨t, h⟩ x = .ptr k 0 n m j) (h1 : T lt = some ti) (h2 : isRow ti.desc = false) (hk : h k = .live [⟨bt, sz, .data (es.map c)⟩]) (hn : n = es.length)
    (hc : (c ed)[j]? = some u) : Light1 P N ⟨some d, .load lt x, ty, pos, aft, g⟩ ⟨t, h⟩ (.d u) := li_load1 hT hx h1 h2 (lv_of hk) (rows_len.trans hn.symm) (rows_get he) (map_at hc)
theorem rw_ldN {α : Type} (hT : TOk P T) {lt bt : TypeId} {x : Operand} {k n m j sz : Nat} {c : α → List DV} {es : List α} {ed : α} {out : List AV} {ti : TI} (he : es[m]? = some ed) (hx : evA N ⟨t, h⟩ x = .ptr k 0 n m j) (h1 : T lt = some ti) (h2 : isRow ti.desc = true) (hk : h k = .live [⟨bt, sz, .data (es.map c)⟩]) (hn : n = es.length)
    (hc : Seg j ti.size ((c ed).map .d) out := by repeat (first | exact Seg.z _ | apply Seg.t | apply Seg.d)) : Light1 P N ⟨some d, .load lt x, ty, pos, aft, g⟩ ⟨t, h⟩ (.agg out) := li_loadN hT hx h1 h2 (lv_of hk) (rows_len.trans hn.symm) (rows_get he) hc
theorem rw_fa {α : Type} (hT : TOk P T) {s bt : TypeId} {x : Operand} {q k n m j sz : Nat} {c : α → List DV} {es : List α} {ti fi : TI} {fs : Array Field} {fld : Field} {ed : α} (he : es[m]? = some ed) (hx : evA N ⟨t, h⟩ x = .ptr k 0 n m j) (h1 : T s = some ti) (h2 : ti.desc = .struct fs) (h3 : fs[q]? = some fld)
    (h4 : T fld.type = some fi) (h5 : Nat.beq fi.size 0 = false) (hk : h k = .live [⟨bt, sz, .data (es.map c)⟩]) (hn : n = es.length) : Light1 P N ⟨some d, .fieldAddr s x q, ty, pos, aft, g⟩ ⟨t, h⟩ (.ptr k 0 n m (j + fld.offset)) :=
  li_fieldAddr hT hx h1 h2 h3 h4 h5 (lv_of hk) (rows_len.trans hn.symm) (rows_get he)
theorem rw_nil {α : Type} {bt : TypeId} {x : Operand} {k n m j sz : Nat} {c : α → List DV} {es : List α} {ed : α} (he : es[m]? = some ed) (hx : evA N ⟨t, h⟩ x = .ptr k 0 n m j) (hk : h k = .live [⟨bt, sz, .data (es.map c)⟩]) (hn : n = es.length) : Light1 P N ⟨some d, .nilCheck x, ty, pos, aft, g⟩ ⟨t, h⟩ (.ptr k 0 n m j) := li_nil hx (lv_of hk) (rows_len.trans hn.symm) (rows_get he)
/-- a store into a row: the new element is told -/
theorem rw_st {α : Type} (hT : TOk P T) {bt bt' : TypeId} {x y : Operand} {k n m j sz : Nat} {c : α → List DV} {es : List α} {ed : α} (ed' : α) {cs : List AV} {ti : TI} (he : es[m]? = some ed) (hx : evA N ⟨t, h⟩ x = .ptr k 0 n m j) (hy : cellsA (evA N ⟨t, h⟩ y) = cs) (ho : okL cs = true) (h1 : T bt = some ti)
    (hl : Nat.beq cs.length ti.size = true) (hpos : Nat.blt 0 ti.size = true) (hk : h k = .live [⟨bt', sz, .data (es.map c)⟩]) (hn : n = es.length) (hs : Spl j cs ((c ed).map .d) ((c ed').map .d) := by repeat (first | exact Spl.z _ | apply Spl.t | apply Spl.d)) :
    Heavy1 P N ⟨dst, .store bt x y, ty, pos, aft, g⟩ ⟨t, h⟩ .dead (upd h k (.live [⟨bt', sz, .data ((es.set m ed').map c)⟩])) := by
  rw [List.map_set]
  refine wr_store hT hx hy ho h1 hl hpos hk rfl (rows_len.trans hn.symm) (rows_get he) hs (.data _ _ ?_) (.one _ _)
  generalize c ed' = l
  induction l with
  | nil => exact .nil
  | cons x l ih => exact .cons ih
theorem ow_len {α : Type} (hT : TOk P T) {st_ e bt : TypeId} {x : Operand} {k n sz : Nat} {c : α → List DV} {es : List α} {ti : TI} (hx : evA N ⟨t, h⟩ x = .own k 0 n) (h1 : T st_ = some ti) (h2 : ti.desc = .slice e) (hk : h k = .live [⟨bt, sz, .data (es.map c)⟩]) (hn : n = es.length) :
    Light1 P N ⟨some d, .call ⟨.builtin .len, #[x], #[st_]⟩, ty, pos, aft, g⟩ ⟨t, h⟩ (.d (.v (.int .i64 (es.length : Int)))) := by
  subst hn
  exact li_len hT hx h1 h2 (lv_of hk) rows_len
theorem ap_own {α : Type} (hT : TOk P T) {bt e bt' : TypeId} {s x : Operand} {k n sz : Nat} {c : α → List DV} {es ns : List α} {ti ei : TI} (hb : (es.length + ns.length) * sz * 64 ≤ 140737488355328) (hs : evA N ⟨t, h⟩ s = .own k 0 n) (hx : evA N ⟨t, h⟩ x = .d (.sl (ns.map c))) (h1 : T bt = some ti) (h2 : ti.desc = .slice e) (h3 : T e = some ei)
    (hzs : Nat.beq ei.zero.cells.size ei.size = true) (hpos : Nat.blt 0 ei.size = true) (hsb : Nat.ble ei.bytes (ei.size * 64) = true) (hk : h k = .live [⟨bt', sz, .data (es.map c)⟩]) (hn : n = es.length) (hty : bt' = e) (hsz : sz = ei.size) (hcl : ∀ a, (c a).length = ei.size) :
    Heavy1 P N ⟨dst, .call ⟨.builtin .append, #[s, x], #[bt, bt]⟩, ty, pos, aft, g⟩ ⟨t, h⟩ (.own k 0 (es ++ ns).length) (upd h k (.live [⟨bt', sz, .data ((es ++ ns).map c)⟩])) := by
  subst hn
  have hle := Nat.le_of_ble_eq_true hsb
  have hp := blt_lt hpos
  have e1 : (es.length + ns.length) * ei.bytes ≤ (es.length + ns.length) * sz * 64 := by
    rw [Nat.mul_assoc, hsz]; exact Nat.mul_le_mul_left _ hle
  have e2 : es.length + ns.length ≤ (es.length + ns.length) * sz := Nat.le_mul_of_pos_right _ (by omega)
  have := wr_append (P := P) (N := N) (dst := dst) (ty := ty) (pos := pos) (aft := aft) (g := g) (n := es.length) hT hs hx h1 h2 h3 hzs hpos hk rfl rows_len hty hsz (fun x hx => by obtain ⟨a, _, rfl⟩ := List.mem_map.1 hx; exact hcl a) (.data _ _) (.one _ _)
    (by rw [List.length_map]; omega) (by rw [List.length_map]; omega)
  rw [List.length_map, ← List.map_append, ← List.length_append] at this
  exact this
theorem ap_oo {α : Type} (hT : TOk P T) {bt e bt' bt2 : TypeId} {s x : Operand} {k k2 n n2 sz sz2 : Nat} {c : α → List DV} {es ns : List α} {ti ei : TI} (hb : (es.length + ns.length) * sz * 64 ≤ 140737488355328) (hs : evA N ⟨t, h⟩ s = .own k 0 n) (hx : evA N ⟨t, h⟩ x = .own k2 0 n2) (h1 : T bt = some ti) (h2 : ti.desc = .slice e) (h3 : T e = some ei)
    (hzs : Nat.beq ei.zero.cells.size ei.size = true) (hpos : Nat.blt 0 ei.size = true) (hsb : Nat.ble ei.bytes (ei.size * 64) = true) (hk : h k = .live [⟨bt', sz, .data (es.map c)⟩]) (hn : n = es.length) (hty : bt' = e) (hsz : sz = ei.size) (hk2 : h k2 = .live [⟨bt2, sz2, .data (ns.map c)⟩]) (hn2 : n2 = ns.length) (hsz2 : sz2 = ei.size) :
    Heavy1 P N ⟨dst, .call ⟨.builtin .append, #[s, x], #[bt, bt]⟩, ty, pos, aft, g⟩ ⟨t, h⟩ (.own k 0 (es ++ ns).length) (upd h k (.live [⟨bt', sz, .data ((es ++ ns).map c)⟩])) := by
  subst hn hn2
  have hle := Nat.le_of_ble_eq_true hsb
  have hp := blt_lt hpos
  have e1 : (es.length + ns.length) * ei.bytes ≤ (es.length + ns.length) * sz * 64 := by
    rw [Nat.mul_assoc, hsz]; exact Nat.mul_le_mul_left _ hle
  have e2 : es.length + ns.length ≤ (es.length + ns.length) * sz := Nat.le_mul_of_pos_right _ (by omega)
  have := wr_append_own (P := P) (N := N) (dst := dst) (ty := ty) (pos := pos) (aft := aft) (g := g) (n := es.length) (m := ns.length) hT hs hx h1 h2 h3 hzs hpos hk rfl rows_len hty hsz (lv_of hk2) rows_len hsz2 trivial (.data _ _) (.one _ _)
    (by omega) (by omega)
  rw [← List.map_append, ← List.length_append] at this
  exact this
theorem ap_nil {α : Type} (k : Nat) (hT : TOk P T) {bt e : TypeId} {s x : Operand} {c : α → List DV} {ns : List α} {ti ei : TI} {sz : Nat} (hb : ns.length * sz * 64 ≤ 140737488355328) (hs : evA N ⟨t, h⟩ s = .d (.v (.slice none 0 0))) (hx : evA N ⟨t, h⟩ x = .d (.sl (ns.map c))) (h1 : T bt = some ti) (h2 : ti.desc = .slice e) (h3 : T e = some ei) (hsz : ei.size = sz)
    (hzs : Nat.beq ei.zero.cells.size ei.size = true) (hpos : Nat.blt 0 ei.size = true) (hsb : Nat.ble ei.bytes (ei.size * 64) = true) (hk : h k = .no) (hcl : ∀ a, (c a).length = ei.size) :
    Heavy1 P N ⟨dst, .call ⟨.builtin .append, #[s, x], #[bt, bt]⟩, ty, pos, aft, g⟩ ⟨t, h⟩ (.own k 0 ns.length) (upd h k (.live [⟨e, ei.size, .data (ns.map c)⟩])) ∧ ∀ k', h k' ≠ .no → upd h k (.live [⟨e, ei.size, .data (ns.map c)⟩]) k' = h k' := by
  subst hsz
  have hle := Nat.le_of_ble_eq_true hsb
  have hp := blt_lt hpos
  have e1 : ns.length * ei.bytes ≤ ns.length * ei.size * 64 := by rw [Nat.mul_assoc]; exact Nat.mul_le_mul_left _ hle
  have e2 : ns.length ≤ ns.length * ei.size := Nat.le_mul_of_pos_right _ (by omega)
  have := st_append_nil (P := P) (N := N) (dst := dst) (ty := ty) (pos := pos) (aft := aft) (g := g) k hT hs hx h1 h2 h3 hzs hpos hk (fun x hx => by obtain ⟨a, _, rfl⟩ := List.mem_map.1 hx; exact hcl a) (by rw [List.length_map]; omega) (by rw [List.length_map]; omega)
  rw [List.length_map] at this
  exact this
theorem mk_own {α : Type} (k : Nat) (hT : TOk P T) {bt e : TypeId} {x y : Operand} {kx ky : IntKind} {a b : Int} {ti ei : TI} {zs : List DV} {c : α → List DV} {sz : Nat} (z : α) (hb : 0 ≤ a ∧ a = b ∧ a.toNat * sz * 64 ≤ 281474976710656) (hx : evA N ⟨t, h⟩ x = .d (.v (.int kx a))) (hy : evA N ⟨t, h⟩ y = .d (.v (.int ky b)))
    (h1 : T bt = some ti) (h2 : ti.desc = .slice e) (h3 : T e = some ei) (hsz : ei.size = sz) (hz : dvL ei.zero.cells.toList = zs) (hone : oneL ei.zero.cells.toList = true) (hzs : Nat.beq zs.length ei.size = true) (hpos : Nat.blt 0 ei.size = true) (hsb : Nat.ble ei.bytes (ei.size * 64) = true) (hk : h k = .no) (hcz : zs = c z) :
    Heavy1 P N ⟨some d, .makeSlice bt x y, ty, pos, aft, g⟩ ⟨t, h⟩ (.own k 0 (List.replicate a.toNat z).length) (upd h k (.live [⟨e, ei.size, .data ((List.replicate a.toNat z).map c)⟩])) ∧ ∀ k', h k' ≠ .no → upd h k (.live [⟨e, ei.size, .data ((List.replicate a.toNat z).map c)⟩]) k' = h k' := by
  subst hsz
  obtain ⟨b1, rfl, b3⟩ := hb
  have hle := Nat.le_of_ble_eq_true hsb
  have hp := blt_lt hpos
  have e1 : ei.bytes * a.toNat ≤ a.toNat * ei.size * 64 := by rw [Nat.mul_comm, Nat.mul_assoc]; exact Nat.mul_le_mul_left _ hle
  have e2 : a.toNat ≤ a.toNat * ei.size := Nat.le_mul_of_pos_right _ (by omega)
  have := st_make (P := P) (N := N) (d := d) (ty := ty) (pos := pos) (aft := aft) (g := g) (l := a.toNat) (c := a.toNat) k hT hx hy (by omega) (by omega) (Nat.le_refl _) h1 h2 h3 hz hone hzs hpos (by omega) (by omega) hk
  rw [hcz, ← List.map_replicate] at this
  rw [List.length_replicate]
  exact this
/-- a slice literal of data, by value -/
theorem bs_val {α : Type} (hT : TOk P T) {bt e : TypeId} {len : Nat} {parts : Array (Nat × Operand)} {ti ei : TI} {es : List (List AV)} {ds : List (List DV)} (c : α → List DV) (xs : List α) (h1 : T bt = some ti) (h2 : ti.desc = .slice e) (h3 : T e = some ei)
    (hel : Els (evA N ⟨t, h⟩) ei.size 0 parts.toList es) (hlen : Nat.beq es.length len = true) (hpos : Nat.blt 0 (len * ei.size) = true) (hsm : Nat.ble (len * ei.size) 16777216 = true) (hcc : AllDD es ds) (hxs : ds = xs.map c) :
    Heavy1 P N ⟨some d, .buildSlice bt len parts, ty, pos, aft, g⟩ ⟨t, h⟩ (.d (.sl (xs.map c))) h ∧ ∀ k', h k' ≠ .no → h k' = h k' := by
  subst hxs
  exact st_slice_val hT h1 h2 h3 hel hlen hpos hsm hcc
theorem bs_own {α : Type} (k : Nat) (hT : TOk P T) {bt e : TypeId} {len : Nat} {parts : Array (Nat × Operand)} {ti ei : TI} {es : List (List AV)} {ds : List (List DV)} (c : α → List DV) (xs : List α) (h1 : T bt = some ti) (h2 : ti.desc = .slice e) (h3 : T e = some ei)
    (hel : Els (evA N ⟨t, h⟩) ei.size 0 parts.toList es) (hlen : Nat.beq es.length len = true) (hpos : Nat.blt 0 (len * ei.size) = true) (hsm : Nat.ble (len * ei.size) 16777216 = true) (hcc : AllDD es ds) (hxs : ds = xs.map c) (hk : h k = .no) :
    Heavy1 P N ⟨some d, .buildSlice bt len parts, ty, pos, aft, g⟩ ⟨t, h⟩ (.own k 0 xs.length) (upd h k (.live [⟨e, ei.size, .data (xs.map c)⟩])) ∧ ∀ k', h k' ≠ .no → upd h k (.live [⟨e, ei.size, .data (xs.map c)⟩]) k' = h k' := by
  subst hxs
  have hl : len = xs.length := by
    have h5 := Nat.eq_of_beq_eq_true hlen
    have h6 := congrArg List.length hcc.eq_
    simp at h6
    omega
  have := st_slice (P := P) (N := N) (d := d) (ty := ty) (pos := pos) (aft := aft) (g := g) k hT h1 h2 h3 hel hlen hpos hsm (.data hcc) hk
  rw [hl] at this ⊢
  exact this
end
end Go.Proofs.YtjhadibjjldpdaaGreat
