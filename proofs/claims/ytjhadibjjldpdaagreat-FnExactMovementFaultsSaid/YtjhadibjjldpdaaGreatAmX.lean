/- An abstract machine, X: room made ahead: nil slices cut and grown, own rows cut from the front. No program. -/
import Derived.Test.YtjhadibjjldpdaaGreatAmU
namespace Go.Proofs.YtjhadibjjldpdaaGreat
open Go.RowKit
set_option linter.unusedVariables false
set_option maxRecDepth 100000
section
variable {P : Program} {T : Tab} {L N : Nat} {ops : Array Oper} {E : Env} {K : List (Nat × Cls) → AS → Prop} {i : Nat} {is : List Nat} {t : Nat → AV} {h h' : Heap} {d : Tmp} {dst : Option Tmp} {op : Op} {ty : TypeId} {pos : String} {aft : Array Edge} {g : Option (Nat × Bool)} {Q : AExit → AS → Prop} {σ : AS} {x y : Operand}

theorem pu_cap_nil (hT : TOk P T) {st_ e : TypeId} {ti : TI} (hx : evA N ⟨t, h⟩ x = .d (.v (.slice none 0 0))) (h1 : T st_ = some ti) (h2 : ti.desc = .slice e) :
    Pure1 P N ⟨some d, .call ⟨.builtin .cap, #[x], #[st_]⟩, ty, pos, aft, g⟩ ⟨t, h⟩ (.d (.v (.int .i64 0))) := fun w F μ hh ρ st => by
  have hr := rep_v (by have := st x (by simp [Op.operands, Call.operands]); rw [hx] at this; exact this)
  have hu := (hT _ _ h1).1
  rw [h2] at hu
  exact ⟨.int .i64 0, by simp [execOp, resolve, invoke, builtin, hr, Builtin.cap_, run_underlying hu, goInt], .d _ _ (.v _ rfl)⟩
theorem pu_sub_nil (hT : TOk P T) {xt e : TypeId} {ti ei : TI} {o : Operand} {k : IntKind} (hx : evA N ⟨t, h⟩ x = .d (.v (.slice none 0 0))) (ho : evA N ⟨t, h⟩ o = .d (.v (.int k 0))) (h1 : T xt = some ti) (h2 : ti.desc = .slice e) (h3 : T e = some ei) :
    Pure1 P N ⟨some d, .slice xt x none (some o) none, ty, pos, aft, g⟩ ⟨t, h⟩ (.d (.v (.slice none 0 0))) := fun w F μ hh ρ st => by
  have hr := rep_v (by have := st x (by simp [Op.operands]); rw [hx] at this; exact this)
  have hr2 := rep_v (by have := st o (by simp [Op.operands]); rw [ho] at this; exact this)
  have hu := (hT _ _ h1).1
  rw [h2] at hu
  exact ⟨.slice none 0 0, by simp [execOp, Instr.sliceAt, Instr.slice, Instr.sliceBounds, Instr.sliceBound, hr, hr2, asIntOf, run_underlying hu, run_sizeOf hT h3], .d _ _ (.v _ rfl)⟩
theorem run_append_cnt (w : World) (t u ty e : TypeId) (i : TypeInfo) (z : Value) (ht : P.underlying t = some (.slice e)) (hu : P.underlying u = some (.int .i64)) (hi : P.info? e = some i) (hz : i.zero = some z) (n : Nat) (h0 : 0 < n) (hs : 0 < i.size) (h63 : (n : Int) ≤ 9223372036854775807) (h48 : n * i.bytes ≤ 281474976710656) :
    (Builtin.append_ #[t, u] ty #[.slice none 0 0, .int .i64 n]).run P w = .ok (.slice (some ⟨w.heap.size, 0, none⟩) n (grownCap w n 0 e)) (w.drew.alloc (.cells (Builtin.zeroCells z.cells n ++ Builtin.zeroCells z.cells (grownCap w n 0 e - n)) e)) := by
  have hn : n ≠ 0 := by omega
  have hsz : i.size ≠ 0 := by omega
  have h63' : ¬ (9223372036854775807 < (n : Int)) := by omega
  have h48' : ¬ (281474976710656 < Builtin.nextslicecap n 0 * i.bytes) := by rw [nextslicecap_zero h0]; omega
  have hw : IntKind.i64.wrap (n : Int) = n := ewrap (by omega) h63
  have hneg : ¬ ((n : Int) < 0) := by omega
  have hb : ¬ (281474976710656 < (n : Int) * (i.bytes : Int)) := by
    have : ((n * i.bytes : Nat) : Int) ≤ 281474976710656 := by omega
    rw [Int.natCast_mul] at this
    omega
  simp [Builtin.append_, run_underlying ht, run_underlying hu, sizeOf, typeInfo, zeroValue, hi, hz, asInt, asIntOf, hw, hneg, hb, hn, hsz, h63', h48', Question.forced, run_firstCells_none, newRow, grownCap]
  intro hm
  rcases Nat.mul_eq_zero.1 hm with hm | hm <;> omega
theorem zero_at (z : Array Value) (n : Nat) {sz q j : Nat} (hz : z.size = sz) (hj : j < sz) (hq : q < n) : (Builtin.zeroCells z n)[q * sz + j]? = z[j]? := by
  subst hz
  have hidx : q * z.size + j < n * z.size := by
    have : (q + 1) * z.size ≤ n * z.size := Nat.mul_le_mul_right _ (by omega)
    rw [Nat.add_mul] at this
    omega
  simp only [Builtin.zeroCells, Array.getElem?_map]
  rw [Array.getElem?_range, if_pos hidx]
  simp only [Option.map_some]
  rw [Nat.mul_comm, Nat.mul_add_mod, Nat.mod_eq_of_lt hj, getElem!_def, Array.getElem?_eq_getElem hj]
theorem ap_cnt {α : Type} (k : Nat) (hT : TOk P T) {bt e u : TypeId} {s : Operand} {a : Int} {ti ei ui : TI} {sz : Nat} {zs : List DV} {c : α → List DV} (z : α) (hb : 0 < a ∧ a.toNat * sz * 64 ≤ 140737488355328) (hs : evA N ⟨t, h⟩ s = .d (.v (.slice none 0 0))) (hx : evA N ⟨t, h⟩ x = .d (.v (.int .i64 a))) (h1 : T bt = some ti) (h2 : ti.desc = .slice e) (h3 : T e = some ei) (h4 : T u = some ui) (h5 : ui.desc = .int .i64) (hsz : ei.size = sz)
    (hz : dvL ei.zero.cells.toList = zs) (hone : oneL ei.zero.cells.toList = true) (hzs : Nat.beq zs.length ei.size = true) (hpos : Nat.blt 0 ei.size = true) (hsb : Nat.ble ei.bytes (ei.size * 64) = true) (hk : h k = .no) (hcz : zs = c z) :
    Heavy1 P N ⟨some d, .call ⟨.builtin .append, #[s, x], #[bt, u]⟩, ty, pos, aft, g⟩ ⟨t, h⟩ (.own k 0 (List.replicate a.toNat z).length) (upd h k (.live [⟨e, ei.size, .data ((List.replicate a.toNat z).map c)⟩])) ∧ ∀ k', h k' ≠ .no → upd h k (.live [⟨e, ei.size, .data ((List.replicate a.toNat z).map c)⟩]) k' = h k' := by
  subst hsz
  obtain ⟨b1, b3⟩ := hb
  have hle := Nat.le_of_ble_eq_true hsb
  have hp := blt_lt hpos
  have e1 : a.toNat * ei.bytes ≤ a.toNat * ei.size * 64 := by rw [Nat.mul_assoc]; exact Nat.mul_le_mul_left _ hle
  have e2 : a.toNat ≤ a.toNat * ei.size := Nat.le_mul_of_pos_right _ (by omega)
  obtain ⟨n, rfl⟩ : ∃ n : Nat, a = n := ⟨a.toNat, by omega⟩
  simp only [Int.toNat_natCast] at *
  refine ⟨fun E F μ w ρ H st => ?_, ext_upd hk⟩
  have f1 := rep_v (by have := st s (by simp [Op.operands, Call.operands]); rw [hs] at this; exact this)
  have f2 := rep_v (by have := st x (by simp [Op.operands, Call.operands]); rw [hx] at this; exact this)
  have u1 := (hT _ _ h1).1
  rw [h2] at u1
  have u2 := (hT _ _ h4).1
  rw [h5] at u2
  obtain ⟨_, ie, hie, hisz, hbb, hzz⟩ := hT _ _ h3
  have hrun := run_append_cnt (P := P) w bt u ty e ie ei.zero u1 u2 hie hzz n (by omega) (by omega) (by omega) (by rw [hbb]; omega)
  have e3 : (execOp ρ ⟨some d, .call ⟨.builtin .append, #[s, x], #[bt, u]⟩, ty, pos, aft, g⟩).run P w = .ok (.value (.slice (some ⟨w.heap.size, 0, none⟩) n (grownCap w n 0 e))) (w.drew.alloc (.cells (Builtin.zeroCells ei.zero.cells n ++ Builtin.zeroCells ei.zero.cells (grownCap w n 0 e - n)) e)) := by
    simp [execOp, resolve, invoke, builtin, f1, f2, hrun]
  rw [e3]
  have hlen : ei.zero.cells.size = ei.size := by
    have := Nat.eq_of_beq_eq_true hzs
    rw [← hz, dvL_map] at this
    simpa using this
  have hge := grownCap_ge w n 0 e
  have hcm := grownCap_le_maxLen w n 0 e (by unfold maxLen; omega)
  obtain ⟨H1, V1⟩ := H.drew
  obtain ⟨F', μ', q1, q2, q3⟩ := new_row (w := w.drew) (cc := .data (List.replicate n zs)) (et := e) (sz := ei.size) (c := grownCap w n 0 e) (out := Builtin.zeroCells ei.zero.cells n ++ Builtin.zeroCells ei.zero.cells (grownCap w n 0 e - n)) H1 hk (by
      simp only [Array.size_append, size_zeroCells, hlen, ← Nat.add_mul]; congr 1; omega) (by simpa [Cells.len] using hge) hcm fun i cells hi => by
    simp only [Cells.get] at hi
    obtain ⟨q, hq, rfl⟩ := Option.map_eq_some_iff.1 hi
    have hil : i < n := by have := (List.getElem?_eq_some_iff.1 hq).1; simpa using this
    have hqz : q = zs := by have := List.mem_of_getElem? hq; exact (List.mem_replicate.1 this).2
    subst hqz
    refine ⟨by rw [List.length_map]; exact Nat.eq_of_beq_eq_true hzs, fun j a hj => ?_⟩
    rw [← hz, dvL_map, List.map_map, List.getElem?_map, Array.getElem?_toList] at hj
    obtain ⟨v, hv, rfl⟩ := Option.map_eq_some_iff.1 hj
    have hjl : j < ei.size := by have := (Array.getElem?_eq_some_iff.1 hv).1; omega
    refine ⟨v, ?_, .d _ _ (zeroCell_rep (oneL_get hone v (by simpa using Array.mem_of_getElem? hv)))⟩
    rw [Array.getElem?_append_left (by
      rw [size_zeroCells, hlen]
      have : (i + 1) * ei.size ≤ n * ei.size := Nat.mul_le_mul_right _ (by omega)
      rw [Nat.add_mul] at this
      omega), zero_at _ _ hlen hjl hil, hv]
  have h5 : (Cells.data (List.replicate n zs)).len = n := by simp [Cells.len]
  rw [h5, hcz, ← List.map_replicate] at q3
  rw [hcz, ← List.map_replicate] at q1 q2
  rw [List.length_replicate]
  exact ⟨F', μ', q1, V1.trans q2, q3⟩
/-- own memory taken over under another name, in part -/
theorem HInv.over_ {F : Nat → Prop} {μ : Places} {w : World} (H : HInv E F μ h w) {k k2 : Nat} {o o' : AObj} (hk : h k = .live [o]) (hk2 : h k2 = .no) (hty : o'.ty = o.ty) (hsz : o'.sz = o.sz) (hcs : ∀ i cells, o'.cs.get i = some cells → o.cs.get i = some cells) (hz : o.cs.len = 0 → o'.cs.len = 0) :
    HInv E F (updP μ k2 0 (μ k 0)) (upd (upd h k .dead) k2 (.live [o'])) w ∧ Evo w F μ h w F (updP μ k2 0 (μ k 0)) (upd (upd h k .dead) k2 (.live [o'])) := by
  have hne : k ≠ k2 := fun e => by rw [e, hk2] at hk; cases hk
  have hlo : lv h k 0 = some o := lv_of hk
  have look : ∀ p f o1, lv (upd (upd h k .dead) k2 (.live [o'])) p f = some o1 → (p = k2 ∧ f = 0 ∧ o1 = o') ∨ (p ≠ k2 ∧ p ≠ k ∧ lv h p f = some o1) := fun p f o1 hl => by
    by_cases e : p = k2
    · subst e
      rw [lv_upd_same] at hl
      cases f with
      | zero => simp at hl; exact .inl ⟨rfl, rfl, hl.symm⟩
      | succ n => simp at hl
    · rw [lv_upd_ne _ _ _ e] at hl
      by_cases e2 : p = k
      · subst e2; simp [lv, upd_same] at hl
      · rw [lv_upd_ne _ _ _ e2] at hl; exact .inr ⟨e, e2, hl⟩
  have mu : ∀ {p f}, p ≠ k2 → updP μ k2 0 (μ k 0) p f = μ p f := fun e => updP_ne _ _ (fun ⟨e', _⟩ => e e')
  have V : Evo w F μ h w F (updP μ k2 0 (μ k 0)) (upd (upd h k .dead) k2 (.live [o'])) := by
    refine ⟨fun _ _ => rfl, fun _ hb => hb, fun p hb => ?_, fun p f o1 hb ho1 => ?_⟩
    · by_cases e : p = k2
      · rw [e, hk2] at hb; exact absurd rfl hb
      · rw [upd_ne _ _ e]
        by_cases e2 : p = k
        · rw [e2, upd_same]; simp
        · rw [upd_ne _ _ e2]; exact hb
    · rcases look p f o1 ho1 with ⟨e, _, _⟩ | ⟨e, e2, hl⟩
      · rw [e, hk2] at hb; exact absurd rfl hb
      · exact ⟨o1, hl, .inr ⟨rfl, rfl, mu e, fun b cur _ hc => ⟨cur, hc, rfl⟩⟩⟩
  have real : ∀ {p f o1 b}, lv (upd (upd h k .dead) k2 (.live [o'])) p f = some o1 → updP μ k2 0 (μ k 0) p f = some b → ∃ p' o2, lv h p' f = some o2 ∧ μ p' f = some b ∧ (p' = if p = k2 then k else p) := fun {p f o1 b} hl hm => by
    rcases look p f o1 hl with ⟨rfl, rfl, _⟩ | ⟨e, e2, hl⟩
    · rw [updP_same] at hm
      exact ⟨k, o, hlo, hm, by simp⟩
    · rw [mu e] at hm
      exact ⟨p, o1, hl, hm, by simp [e]⟩
  refine ⟨⟨fun p f o1 hl => ?_, fun p1 f1 o1 p2 f2 o2 b l1 l2 m1 m2 => ?_, fun p f o1 b hl hm => ?_, fun p f o1 b hl hm => ?_, H.fz, H.fsrc, H.ev.trans V, H.os, H.tape, H.output, H.size, H.keep⟩, V⟩
  · rcases look p f o1 hl with ⟨rfl, rfl, rfl⟩ | ⟨e, e2, hl⟩
    · rcases H.ob k 0 o hlo with ⟨g1, g2⟩ | ⟨b, cur, g1, g2, g3⟩
      · exact .inl ⟨by rw [updP_same]; exact g1, hz g2⟩
      · refine .inr ⟨b, cur, by rw [updP_same]; exact g1, by rw [hty]; exact g2, fun i cells hi => ?_⟩
        obtain ⟨g4, g5⟩ := g3 i cells (hcs i cells hi)
        refine ⟨g4.trans hsz.symm, fun j c hj => ?_⟩
        obtain ⟨u, hu, hr⟩ := g5 j c hj
        exact ⟨u, by rw [hsz]; exact hu, hr.evo V⟩
    · rw [mu e]; exact (H.ob p f o1 hl).evo V fun _ _ => rfl
  · obtain ⟨q1, _, x1, y1, z1⟩ := real l1 m1
    obtain ⟨q2, _, x2, y2, z2⟩ := real l2 m2
    have := H.inj _ _ _ _ _ _ b x1 x2 y1 y2
    refine ⟨?_, this.2⟩
    rcases look _ _ _ l1 with ⟨e1, _, _⟩ | ⟨e1, e1', _⟩ <;> rcases look _ _ _ l2 with ⟨e2, _, _⟩ | ⟨e2, e2', _⟩
    · rw [e1, e2]
    · rw [z1, z2, if_pos e1, if_neg e2] at this; exact absurd this.1.symm e2'
    · rw [z1, z2, if_neg e1, if_pos e2] at this; exact absurd this.1 e1'
    · rw [z1, z2, if_neg e1, if_neg e2] at this; exact this.1
  · obtain ⟨q1, _, x1, y1, _⟩ := real hl hm
    exact H.sep _ _ _ b x1 y1
  · obtain ⟨q1, _, x1, y1, _⟩ := real hl hm
    exact H.src _ _ _ b x1 y1
/-- an own slice cut behind its first elements: the handle goes over to a new name -/
theorem ow_sub {α : Type} (k2 : Nat) (hT : TOk P T) {xt e bt : TypeId} {k n sz : Nat} {c : α → List DV} {es : List α} {ti ei : TI} {b : Int} {o : Operand} {kk : IntKind} (hb : 0 ≤ b ∧ b ≤ es.length) (hx : evA N ⟨t, h⟩ x = .own k 0 n) (ho : evA N ⟨t, h⟩ o = .d (.v (.int kk b))) (h1 : T xt = some ti) (h2 : ti.desc = .slice e) (h3 : T e = some ei) (hk : h k = .live [⟨bt, sz, .data (es.map c)⟩]) (hn : n = es.length) (hk2 : h k2 = .no) :
    Heavy1 P N ⟨some d, .slice xt x none (some o) none, ty, pos, aft, g⟩ ⟨t, h⟩ (.own k2 0 (es.take b.toNat).length) (upd (upd h k .dead) k2 (.live [⟨bt, sz, .data ((es.take b.toNat).map c)⟩])) := fun E F μ w ρ H st => by
  subst hn
  have hr := st x (by simp [Op.operands])
  rw [hx] at hr
  have f2 := rep_v (by have := st o (by simp [Op.operands]); rw [ho] at this; exact this)
  have hu := (hT _ _ h1).1
  rw [h2] at hu
  have hlo : lv h k 0 = some (⟨bt, sz, .data (es.map c)⟩ : AObj) := lv_of hk
  obtain ⟨q0, q1⟩ := hb
  generalize hvs : ρ x = vs at hr
  cases hr with | own _ _ _ _ g1 hbn hv =>
  have hlen : (es.take b.toNat).length = b.toNat := by rw [List.length_take]; omega
  obtain ⟨H', V⟩ := H.over_ (k2 := k2) (o' := ⟨bt, sz, .data ((es.take b.toNat).map c)⟩) hk hk2 rfl rfl (fun i cells hi => by
    simp only [Cells.get] at hi ⊢
    obtain ⟨e1, he1, rfl⟩ := Option.map_eq_some_iff.1 hi
    rw [List.getElem?_map] at he1
    obtain ⟨v, hv1, rfl⟩ := Option.map_eq_some_iff.1 he1
    rw [List.getElem?_take] at hv1
    split at hv1
    · rw [List.getElem?_map, hv1]; rfl
    · cases hv1) (fun hz => by simp [Cells.len] at hz ⊢; simp [hz])
  rcases (hv _ hlo).2 rows_len with ⟨m1, m2, m3⟩ | ⟨bl, cc, cur, m1, m2, m3, m4, m5, m6⟩
  · subst m3
    have hb0 : b = 0 := by omega
    subst hb0
    have e3 : (execOp ρ ⟨some d, .slice xt x none (some o) none, ty, pos, aft, g⟩).run P w = .ok (.value (.slice none 0 0)) w := by
      simp [execOp, Instr.sliceAt, Instr.slice, Instr.sliceBounds, Instr.sliceBound, hvs, f2, asIntOf, run_underlying hu, run_sizeOf hT h3]
    rw [e3]
    refine ⟨F, _, H', V, .own _ _ _ _ rfl (by rw [upd_same]; simp) fun o1 ho1 => ?_⟩
    rw [lv_upd_same] at ho1
    simp at ho1
    subst ho1
    exact ⟨by simp [Cells.len], fun _ => .inl ⟨by rw [updP_same]; exact m1, by simp, rfl⟩⟩
  · subst m2
    have e3 : (execOp ρ ⟨some d, .slice xt x none (some o) none, ty, pos, aft, g⟩).run P w = .ok (.value (.slice (some ⟨bl, 0, none⟩) b.toNat cc)) w := by
      have q2 : b ≤ (cc : Int) := by omega
      simp [execOp, Instr.sliceAt, Instr.slice, Instr.sliceBounds, Instr.sliceBound, hvs, f2, asIntOf, run_underlying hu, run_sizeOf hT h3, q0, q2, addr_add]
    rw [e3]
    refine ⟨F, _, H', V, .own _ _ _ _ rfl (by rw [upd_same]; simp) fun o1 ho1 => ?_⟩
    rw [lv_upd_same] at ho1
    simp at ho1
    subst ho1
    exact ⟨by simp [Cells.len], fun _ => .inr ⟨bl, cc, cur, by rw [updP_same]; exact m1, by rw [hlen], m3, m4, by omega, m6⟩⟩
theorem fnc_pad {f : FuncId} {hin hout : List Slot} {as : List AV} {r : AV} (n : Nat) (hF : FnC P f hin as hout r) : FnC P f (hin ++ List.replicate n .no) as hout r := by
  have e : lks (hin ++ List.replicate n .no) = lks hin := by
    funext p
    unfold lks
    simp only [List.getD_eq_getElem?_getD]
    rcases Nat.lt_or_ge p hin.length with h | h
    · rw [List.getElem?_append_left h]
    · rw [List.getElem?_append_right h, List.getElem?_eq_none h, List.getElem?_replicate]
      split <;> rfl
  refine ⟨hF.c, fun w F μ vs gl H hs hr => ?_⟩
  rw [e] at H hr
  have := hF.g w F μ vs gl H hs hr
  rw [e]
  exact this
theorem retM_ {fn : Func} {rs : List ResultVar} {as : List AV} {r : AV} {hout : List Slot} (m : Nat) (ks : List Nat) (hrs : fn.results.toList = rs)
    (R : ResR T N ⟨t, h⟩ rs as := by repeat (first | exact ResR.nil | apply ResR.tmp (a := .d _) rfl | apply ResR.tmp (a := .own _ _ _) rfl | apply ResR.tmp (a := .agg _) rfl | apply ResR.tmp (a := .ref _) rfl | apply ResR.tmp (a := .ptr _ _ _ _ _) rfl | apply ResR.cell1 rfl rfl rfl rfl (by first | rfl) (by first | rfl) rfl | apply ResR.cellN rfl rfl rfl rfl (by first | rfl) (by first | rfl) (by repeat (first | exact Seg.z _ | apply Seg.t | apply Seg.d))))
    (hB : Abv h 300 := by repeat (first | exact abv_nil _ | exact abv_lks rfl | refine abv_upd ?_ rfl)) (hnd : ks.Nodup := by decide) (hlt : ∀ k ∈ ks, k < 300 := by decide) (hid : ∀ p, p < m → nameL ks 300 p = p := by decide)
    (hk : AtK (nameL ks 300) h ks hout := by repeat (first | exact AtK.nil | refine AtK.data_ (by exact rfl) ?_ | (apply AtK.cons rfl; (first | exact RenS.no | exact RenS.dead | exact RenS.data _ _ _ | exact RenS.nest rfl | exact RenS.fam | (apply RenS.box; (repeat (first | exact RenRL.nil | apply RenRL.cons | exact RenR.d _ | apply RenR.agg | apply RenR.tup | exact RenR.own _ _ _ _ rfl | exact RenR.ptr _ _ _ _ _ _ rfl | exact RenR.ref _ | apply RenR.fn | exact RenR.dead))) | exact RenS.gen _))))
    (e : RenR (nameL ks 300) r (resA as) := by repeat (first | exact RenRL.nil | apply RenRL.cons | exact RenR.d _ | apply RenR.agg | apply RenR.tup | exact RenR.own _ _ _ _ rfl | exact RenR.of_own (by first | rfl | (simp; done) | omega | (simp; omega)) rfl | exact RenR.ptr _ _ _ _ _ _ rfl | exact RenR.ref _ | apply RenR.fn | exact RenR.dead)) : RetOk T N fn m hout r ⟨t, h⟩ :=
  ⟨rs, as, _, ks, 300, hrs, R, rfl, hnd, hlt, hid, hB, hk, e.eq_⟩
end
end Go.Proofs.YtjhadibjjldpdaaGreat
