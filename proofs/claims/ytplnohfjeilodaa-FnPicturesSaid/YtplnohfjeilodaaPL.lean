/- Plain laws, L: drawings moved and turned, the law. No program. -/
import Derived.Test.YtplnohfjeilodaaPB
import Derived.Test.YtplnohfjeilodaaXOK
namespace Go.Proofs.Ytplnohfjeilodaa
set_option linter.unusedVariables false
theorem drawSpot_ok {n : Int} {s : L00Src_} (h : srcOk n s) (hn : n ≤ 100000000) : Ok (s_l25DrawSpot_b_m s) (fun r => srcOk (n + 8) r.2) := by
  unfold s_l25DrawSpot_b_m
  refine ok_bind (pick_ok h (by omega)) fun v1 h1 => ?_
  refine ok_bind (pick_ok h1.2.2.2 (by omega)) fun v2 h2 => ?_
  refine ok_bind (P := fun r => srcOk (n + 8) r.2) ?_ fun v5 h5 => ok_some h5
  refine ok_bind (one_ok h2.2.2.2 (by omega)) fun v3 h3 => ?_
  refine ok_ite (fun _ => ?_) fun _ => ok_some (srcOk_le h3 (by omega))
  exact ok_bind (among_ok h3 (by omega) (by simp)) fun v4 h4 => ok_some (srcOk_le h4.2 (by omega))
theorem draw_ok {n : Int} {s : L00Src_} (h : srcOk n s) (hn : n ≤ 10000000) : Ok (s_l25Draw_b_m s) (fun r => r.1.Shapes.length ≤ 7 ∧ srcOk (n + 1000) r.2) := by
  unfold s_l25Draw_b_m
  refine ok_bind (P := fun (r : L00Src_ × List Shape_) => r.2.length ≤ 7 ∧ srcOk (n + 1000) r.1) ?_ fun v22 h22 => ok_some ⟨h22.1, h22.2⟩
  refine ok_bind (pick_ok h (by omega)) fun v1 h1 => ?_
  refine ok_loop (I := fun (s : Int × L00Src_ × List Shape_) => 0 ≤ s.1 ∧ s.1 ≤ 7 ∧ (s.2.2.length : Int) + s.1 ≤ 7 ∧ srcOk (n + 2 + 100 * (7 - s.1)) s.2.1) (m := fun s => s.1.toNat) ?_ _ ⟨h1.1, by dsimp only; omega, by dsimp only [List.length]; omega, srcOk_le h1.2.2.2 (by dsimp only; omega)⟩ (by dsimp only; omega)
  rintro ⟨i, src, ys⟩ ⟨h0, h7, hl, hs⟩
  dsimp only at h0 h7 hl hs ⊢
  refine ok_ite (fun hi => ?_) fun _ => ok_some (.inr ⟨_, rfl, by dsimp only; omega, srcOk_le hs (by omega)⟩)
  refine ok_bind (P := fun (r : L00Src_ × List Shape_) => (r.2.length : Int) ≤ ys.length + 1 ∧ srcOk (n + 2 + 100 * (7 - i) + 20) r.1) ?_ fun v21 h21 => ok_some (.inl ⟨_, rfl, ⟨?_, ?_, ?_, ?_⟩, ?_⟩)
  · refine ok_bind (drawSpot_ok hs (by omega)) fun v13 h13 => ?_
    refine ok_bind (pick_ok h13 (by omega)) fun v14 h14 => ?_
    refine ok_ite (fun _ => ?_) fun _ => ok_ite (fun _ => ?_) fun _ => ?_
    · refine ok_bind (drawSpot_ok h14.2.2.2 (by omega)) fun v15 h15 => ok_chk (by simp; omega) (ok_some ⟨by simp, srcOk_le h15 (by omega)⟩)
    · refine ok_bind (pick_ok h14.2.2.2 (by omega)) fun v17 h17 => ok_chk (by simp; omega) (ok_some ⟨by simp, srcOk_le h17.2.2.2 (by omega)⟩)
    · refine ok_bind (text_ok h14.2.2.2 (by omega) (by simp)) fun v19 h19 => ok_chk (by simp; omega) (ok_some ⟨by simp, srcOk_le h19.2 (by omega)⟩)
  all_goals (dsimp only; rw [w64_in (x := i - 1) (by omega) (by omega)])
  · omega
  · omega
  · have := h21.1; omega
  · exact srcOk_le h21.2 (by omega)
  · omega
theorem bent_ok {n : Int} {s : L00Src_} (h : srcOk n s) (hn : n ≤ 1000000) : Ok (s_l25Bent_b_m s) (fun r => r.1.Shapes.length ≤ 1201 ∧ srcOk (n + 2000) r.2) := by
  unfold s_l25Bent_b_m
  refine ok_bind (draw_ok h (by omega)) fun v1 h1 => ?_
  refine ok_bind (pick_ok h1.2 (by omega)) fun v2 h2 => ?_
  refine ok_bind (pick_ok h2.2.2.2 (by omega)) fun v3 h3 => ?_
  have hs3 := h3.2.2.2
  refine ok_bind (P := fun (r : Unit ⊕ (Drawing_ × L00Src_)) => ∀ q, r = .inr q → q.1.Shapes.length ≤ 1201 ∧ srcOk (n + 2000) q.2) ?_ fun r hr => ?_
  · refine ok_ite (fun _ => ?_) fun _ => ok_some (fun q hq => by cases hq)
    refine ok_bind (P := fun (r : List Shape_) => r.length ≤ 1200) ?_ fun v8 h8 => ?_
    · refine ok_loop (I := fun (s : List Shape_) => s.length ≤ 1200) (m := fun s => 1200 - s.length) ?_ _ (by have := h1.1; omega) (by have := h1.1; omega)
      intro ys hy
      refine ok_ite (fun hi => ok_chk (by simp; omega) (ok_some (.inl ⟨_, rfl, by simp; omega, by simp; omega⟩))) fun _ => ok_some (.inr ⟨_, rfl, hy⟩)
    · refine ok_bind (P := fun (r : L00Src_ × List Shape_) => r.2.length ≤ 1201 ∧ srcOk (n + 2000) r.1) ?_ fun v11 h11 => ok_some (fun q hq => by cases hq; exact h11)
      refine ok_bind (one_ok hs3 (by omega)) fun v9 h9 => ?_
      exact ok_ite (fun _ => ok_chk (by simp; omega) (ok_some ⟨by simp; omega, srcOk_le h9 (by omega)⟩)) fun _ => ok_some ⟨by dsimp only; omega, srcOk_le h9 (by omega)⟩
  · cases r with
    | inr q => exact ok_some (hr q rfl)
    | inl u =>
      have hl := h1.1
      refine ok_ite (fun _ => ok_some ⟨by dsimp only; omega, srcOk_le hs3 (by omega)⟩) fun hne => ?_
      have hi : v2.1 < v1.1.Shapes.length := by
        rcases h2.2.1 with h | h <;> omega
      refine ok_bind (P := fun (r : L00Src_ × List Shape_) => r.2.length ≤ 1201 ∧ srcOk (n + 2000) r.1) ?_ fun v23 h23 => ok_some ⟨h23.1, h23.2⟩
      refine ok_ite (fun _ => ok_bind (among_ok hs3 (by omega) (by simp)) fun v13 h13 => ok_bind (ok_atI h2.1 hi) fun e he => ok_some ⟨by simp; omega, srcOk_le h13.2 (by omega)⟩) fun _ => ?_
      refine ok_ite (fun _ => ok_bind (among_ok hs3 (by omega) (by simp)) fun v13 h13 => ok_bind (ok_atI h2.1 hi) fun e he => ok_some ⟨by simp; omega, srcOk_le h13.2 (by omega)⟩) fun _ => ?_
      refine ok_ite (fun _ => ok_bind (among_ok hs3 (by omega) (by simp)) fun v13 h13 => ok_bind (ok_atI h2.1 hi) fun e he => ok_some ⟨by simp; omega, srcOk_le h13.2 (by omega)⟩) fun _ => ?_
      refine ok_ite (fun _ => ok_bind (text_ok hs3 (by omega) (by simp)) fun v13 h13 => ok_bind (ok_atI h2.1 hi) fun e he => ok_some ⟨by simp; omega, srcOk_le h13.2 (by omega)⟩) fun _ => ?_
      exact ok_ite (fun _ => ok_bind (ok_atI h2.1 hi) fun e he => ok_bind (ok_atI h2.1 hi) fun e' he' => ok_some ⟨by simp; omega, srcOk_le hs3 (by omega)⟩) fun _ => ok_some ⟨by dsimp only; omega, srcOk_le hs3 (by omega)⟩
theorem drawMove_ok {c : List Int} (h1 : c.length ≤ 1000000) (h2 : ∀ b ∈ c, 0 ≤ b ∧ b ≤ 255) : Ok (s_DrawMoveDrawing_m c) (fun r => r.1.Shapes.length ≤ 1201) := by
  unfold s_DrawMoveDrawing_m
  refine ok_bind (from_ok h1 h2) fun v1 k1 => ?_
  refine ok_bind (bent_ok k1 (by omega)) fun v2 k2 => ?_
  refine ok_bind (drawSpot_ok k2.2 (by omega)) fun v3 k3 => ?_
  refine ok_bind (P := fun _ => True) ?_ fun v6 _ => ok_some k2.1
  refine ok_bind (one_ok k3 (by omega)) fun v4 k4 => ?_
  exact ok_ite (fun _ => ok_bind (among_ok k4 (by omega) (by simp)) fun v5 _ => ok_some trivial) fun _ => ok_some trivial
theorem sameDr {x : Drawing_} (hl : x.Shapes.length ≤ 9223372036854775807) : s_SameDrawing_m x x = some true := by
  unfold s_SameDrawing_m
  rw [if_neg (by simp), scanL_ok (xs := x.Shapes) (f := fun _ => true) (d := .inl ()) (e := .inr false) (fun i hi => ?_) (by simp) hl]
  · simp [orE]
  · have e1 : w64 ((i : Int) + 1) = i + 1 := w64_in (by omega) (by omega)
    have hi' : (i : Int) < x.Shapes.length := by omega
    simp [atI_lt hi, e1, hi]
theorem turnR_len (x : Drawing_) : (turnR x).1.Shapes.length ≤ x.Shapes.length := by
  unfold turnR; split <;> simp
theorem moveR_len (x : Drawing_) (b : Spot_) : (moveR x b).1.Shapes.length ≤ x.Shapes.length := by
  unfold moveR; repeat' split
  all_goals simp
theorem turnR_4 {x : Drawing_} (h : (turnR x).2 = 0) : (turnR (turnR x).1).2 = 0 ∧ (turnR (turnR (turnR x).1).1).2 = 0 ∧ turnR (turnR (turnR (turnR x).1).1).1 = (x, 0) := by
  have hd : drB x = true := by
    unfold turnR at h
    rcases Bool.eq_false_or_eq_true (drB x) with k | k
    · exact k
    · rw [k] at h; simp at h
  have e : ∀ {y : Drawing_}, drB y = true → turnR y = (⟨y.Shapes.map trn⟩, 0) := fun k => by unfold turnR; rw [if_pos k]
  have d1 := drB_turn hd
  have d2 := drB_turn d1
  have d3 := drB_turn d2
  rw [e hd, e d1, e d2, e d3]
  refine ⟨rfl, rfl, ?_⟩
  simp only [List.map_map]
  rw [map_id' (f := trn ∘ trn ∘ trn ∘ trn) (fun v hv => trn4 (dr_all hd v hv))]
theorem moveR_in {x : Drawing_} {b : Spot_} (h : (moveR x b).2 = 0) : drB x = true ∧ spB b = true ∧ drB ⟨x.Shapes.map (mv b)⟩ = true ∧ moveR x b = (⟨x.Shapes.map (mv b)⟩, 0) := by
  unfold moveR at h ⊢
  rcases Bool.eq_false_or_eq_true (drB x) with k | k <;> rcases Bool.eq_false_or_eq_true (spB b) with k2 | k2 <;> rcases Bool.eq_false_or_eq_true (drB ⟨x.Shapes.map (mv b)⟩) with k3 | k3 <;> simp [k, k2, k3] at h ⊢
theorem moveR_back {x : Drawing_} {b : Spot_} (h : (moveR x b).2 = 0) : moveR (moveR x b).1 ⟨-b.X, -b.Y⟩ = (x, 0) := by
  obtain ⟨h1, h2, h3, h4⟩ := moveR_in h
  have hb : spB ⟨-b.X, -b.Y⟩ = true := by unfold spB at h2 ⊢; simp only [neg_btw]; exact h2
  have e : (x.Shapes.map (mv b)).map (mv ⟨-b.X, -b.Y⟩) = x.Shapes := by
    rw [List.map_map]; exact map_id' fun v hv => mv_back (dr_all h1 v hv)
  rw [h4]
  unfold moveR
  rw [if_pos h3, if_pos hb]
  simp only [e, h1, if_true]
theorem boxR_move {x : Drawing_} {b : Spot_} (h : (moveR x b).2 = 0) : (boxR (moveR x b).1).2.2 = (boxR x).2.2 ∧ ((boxR x).2.2 = 0 → (boxR (moveR x b).1).1 = ⟨w64 ((boxR x).1.X + b.X), w64 ((boxR x).1.Y + b.Y)⟩ ∧ (boxR (moveR x b).1).2.1 = ⟨w64 ((boxR x).2.1.X + b.X), w64 ((boxR x).2.1.Y + b.Y)⟩) := by
  obtain ⟨h1, h2, h3, h4⟩ := moveR_in h
  have hb := sp_lim h2
  rw [h4]
  unfold boxR
  rw [if_pos h3, if_pos h1]
  cases hx : x.Shapes with
  | nil => simp
  | cons s ss =>
    have hs : shB s = true := dr_all h1 s (by rw [hx]; exact List.mem_cons_self ..)
    have hc := c0_lim hs
    have hl := boxF_lim (s :: ss) (c0 s, c0 s) (fun u hu => dr_all h1 u (by rw [hx]; exact hu)) ⟨hc.1, hc.2.1, hc.2.2.1, hc.2.2.2, hc.1, hc.2.1, hc.2.2.1, hc.2.2.2⟩
    have hm := boxF_mv b (s :: ss) (c0 s, c0 s)
    simp only [List.map_cons] at hm ⊢
    rw [show (c0 (mv b s), c0 (mv b s)) = addB b (c0 s, c0 s) by rw [c0_mv]; rfl, hm]
    refine ⟨trivial, fun _ => ?_⟩
    generalize boxF (c0 s, c0 s) (s :: ss) = r at hl ⊢
    simp only [addB, addP]
    rw [w64_in (x := r.1.X + b.X) (by omega) (by omega), w64_in (x := r.1.Y + b.Y) (by omega) (by omega), w64_in (x := r.2.X + b.X) (by omega) (by omega), w64_in (x := r.2.Y + b.Y) (by omega) (by omega)]
    exact ⟨rfl, rfl⟩
theorem law_moved (c : List Int) (hc : osL osU8 c) : l_FnMovedDrawings_m c = some true := by
  unfold l_FnMovedDrawings_m l_f6big_m
  rw [Option.bind_some]
  by_cases hb : 4096 < (c.length : Int)
  · simp [hb]
  · rw [decide_eq_false hb, if_neg (by simp)]
    obtain ⟨⟨d, b⟩, e, hd⟩ := drawMove_ok (c := c) (by omega) (fun v hv => by have := hc.2 v hv; simpa [osU8] using this)
    dsimp only at hd
    have t1 := turnR_len d
    have m1 := moveR_len d b
    rw [e, Option.bind_some]
    simp only [i_move_eq, s_move_eq (x := d) (b := b) (by omega), i_turn_eq, s_turn_eq (x := d) (by omega), i_box_eq, s_box_eq (x := d) (by omega), Option.bind_some, sameDr (x := (moveR d b).1) (by omega), sameDr (x := (turnR d).1) (by omega), ne_eq, not_true_eq_false, if_false, Bool.not_true, Bool.false_eq_true, decide_false]
    have hT : (turnR d).2 = 0 → (turnR (turnR d).1).2 = 0 ∧ (turnR (turnR (turnR d).1).1).2 = 0 ∧ turnR (turnR (turnR (turnR d).1).1).1 = (d, 0) := turnR_4
    have key : ∀ k : Option Bool, k = some true → (((if (turnR d).2 = 0 then (((if ¬ (turnR (turnR d).1).2 = 0 then some true else if ¬ (turnR (turnR (turnR d).1).1).2 = 0 then some true else if ¬ (turnR (turnR (turnR (turnR d).1).1).1).2 = 0 then some true else (s_SameDrawing_m (turnR (turnR (turnR (turnR d).1).1).1).1 d).bind fun v15 => some (!v15)) : Option Bool).bind fun v16 => if v16 = true then some (Sum.inr false) else some (Sum.inl ())) else some (Sum.inl ())) : Option (Unit ⊕ Bool)).bind fun v17x => orE v17x fun v17 => k) = some true := by
      intro k hk
      by_cases ht : (turnR d).2 = 0
      · obtain ⟨a1, a2, a3⟩ := hT ht
        simp [ht, a1, a2, a3, sameDr (x := d) (by omega), orE, hk]
      · simp [ht, orE, hk]
    refine key _ ?_
    by_cases hm : (moveR d b).2 = 0
    · obtain ⟨_, q2, _, _⟩ := moveR_in hm
      have hbl := sp_lim q2
      obtain ⟨b1, b2⟩ := boxR_move hm
      rw [if_neg (by simp [hm]), w64_in (x := -b.X) (by omega) (by omega), w64_in (x := -b.Y) (by omega) (by omega), moveR_back hm]
      by_cases hz : (boxR d).2.2 = 0
      · obtain ⟨c1, c2⟩ := b2 hz
        simp [b1, hz, c1, c2, sameDr (x := d) (by omega)]
      · simp [b1, hz, sameDr (x := d) (by omega)]
    · simp [hm]
end Go.Proofs.Ytplnohfjeilodaa
