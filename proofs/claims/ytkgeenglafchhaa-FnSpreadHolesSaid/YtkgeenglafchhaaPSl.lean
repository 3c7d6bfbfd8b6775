/- Plain laws, Sl: what is drawn of dividing heads, and the law of spread holes. No program. -/
import Derived.Test.YtkgeenglafchhaaPSh
import Derived.Test.YtkgeenglafchhaaPQ
namespace Go.Proofs.Ytkgeenglafchhaa
set_option linter.unusedVariables false
theorem l24Draw_ok {n : Int} {s : L00Src_} (h : srcOk n s) (hn : n ≤ 1000000) : Ok (s_l24Draw_b_m s) (fun r => r.1.Circles.length ≤ 20 ∧ srcOk (n + 30) r.2) := by
  unfold s_l24Draw_b_m
  refine ok_bind (among_ok h (by omega) (by simp)) fun v1 h1 => ?_
  refine ok_bind (P := fun v => srcOk (n + 6) v.1) ?_ fun v4 h4 => ?_
  · refine ok_bind (one_ok h1.2 (by omega)) fun v2 h2 => ?_
    refine ok_ite (fun _ => ?_) fun _ => ok_some (srcOk_le h2 (by omega))
    refine ok_bind (pick_ok h2 (by omega)) fun v3 h3 => ok_some (srcOk_le h3.2.2.2 (by omega))
  · refine ok_bind (one_ok h4 (by omega)) fun v5 h5 => ?_
    refine ok_ite (fun _ => ok_some ⟨by simp, srcOk_le h5 (by omega)⟩) fun _ => ?_
    refine ok_bind (pick_ok h5 (by omega)) fun v6 h6 => ?_
    refine ok_bind (P := fun v => v.2.length ≤ 20 ∧ srcOk (n + 30) v.1) ?_ fun v14 h14 => ok_some h14
    refine ok_bind (pick_ok h6.2.2.2 (by omega)) fun v7 h7 => ?_
    have e : w64 (1 + v7.1) = 1 + v7.1 := w64_in (by have := h7.1; omega) (by have := h7.2.2.1; omega)
    have hb : v7.1 ≤ 4 := by rcases h7.2.1 with h | h <;> omega
    have hz := h7.1
    rw [e]
    refine ok_loop (fun (s : Int × Int × L00Src_ × List Int) => 0 ≤ s.2.1 ∧ s.2.1 ≤ 5 ∧ (s.2.2.2.length : Int) + s.2.1 ≤ 5 ∧ srcOk (n + 22 - 2 * s.2.1) s.2.2.1) (fun s => s.2.1.toNat) (fun s hI => ?_) _ ⟨by dsimp only; omega, by dsimp only; omega, by simp; omega, srcOk_le h7.2.2.2 (by dsimp only; omega)⟩ (by dsimp only; omega)
    obtain ⟨a, k, q, l⟩ := s
    obtain ⟨i0, i1, i2, i3⟩ := hI
    dsimp only at i0 i1 i2 i3 ⊢
    refine ok_ite (fun hk => ?_) fun hk => ok_some (.inr ⟨_, rfl, by dsimp only; omega, srcOk_le i3 (by omega)⟩)
    refine ok_chk (by simp; omega) ?_
    refine ok_bind (pick_ok i3 (by omega)) fun v13 h13 => ok_some (.inl ⟨_, rfl, ?_, ?_⟩)
    · have e2 : w64 (k - 1) = k - 1 := w64_in (by omega) (by omega)
      dsimp only
      rw [e2]
      exact ⟨by omega, by omega, by simp; omega, srcOk_le h13.2.2.2 (by omega)⟩
    · have e2 : w64 (k - 1) = k - 1 := w64_in (by omega) (by omega)
      dsimp only
      rw [e2]; omega
theorem l24Bent_ok {n : Int} {s : L00Src_} (h : srcOk n s) (hn : n ≤ 1000000) : Ok (s_l24Bent_b_m s) (fun r => r.1.Circles.length ≤ 50 ∧ srcOk (n + 100) r.2) := by
  unfold s_l24Bent_b_m
  refine ok_bind (l24Draw_ok h (by omega)) fun v1 h1 => ?_
  refine ok_bind (P := fun v => v.2.2.length ≤ 50 ∧ srcOk (n + 100) v.1) ?_ fun v12 h12 => ok_some h12
  refine ok_bind (pick_ok h1.2 (by omega)) fun v2 h2 => ?_
  have h22 := h2.2.2.2
  refine ok_ite (fun _ => ?_) fun _ => ?_
  · refine ok_bind (among_ok h22 (by omega) (by simp)) fun v3 h3 => ok_some ⟨by have := h1.1; dsimp only; omega, srcOk_le h3.2 (by omega)⟩
  · refine ok_ite (fun _ => ok_some ⟨by simp, srcOk_le h22 (by omega)⟩) fun _ => ?_
    refine ok_ite (fun _ => ?_) fun _ => ?_
    · have := h1.1
      refine ok_bind (among_ok h22 (by omega) (by simp)) fun v4 h4 => ok_chk (by simp; omega) (ok_some ⟨by simp; omega, srcOk_le h4.2 (by omega)⟩)
    · refine ok_ite (fun _ => ?_) fun _ => ok_some ⟨by have := h1.1; dsimp only; omega, srcOk_le h22 (by omega)⟩
      refine ok_loop (fun (s : Int × L00Src_ × List Int) => 0 ≤ s.1 ∧ s.1 ≤ 21 ∧ (s.2.2.length : Int) ≤ s.1 ∧ srcOk (n + 32 + 2 * s.1) s.2.1) (fun s => (21 - s.1).toNat) (fun s hI => ?_) _ ⟨by simp, by simp, by simp, srcOk_le h22 (by dsimp only; omega)⟩ (by dsimp only; omega)
      obtain ⟨k, q, l⟩ := s
      obtain ⟨i0, i1, i2, i3⟩ := hI
      dsimp only at i0 i1 i2 i3 ⊢
      refine ok_bind (pick_ok i3 (by omega)) fun v10 h10 => ?_
      have hb : v10.1 ≤ 1 := by rcases h10.2.1 with h | h <;> omega
      have hz := h10.1
      rw [w64_in (x := 20 + v10.1) (by omega) (by omega)]
      refine ok_ite (fun hk => ?_) fun hk => ok_some (.inr ⟨_, rfl, by dsimp only; omega, srcOk_le h10.2.2.2 (by omega)⟩)
      have e2 : w64 (k + 1) = k + 1 := w64_in (by omega) (by omega)
      refine ok_chk (by simp; omega) (ok_some (.inl ⟨_, rfl, ⟨?_, ?_, ?_, ?_⟩, ?_⟩))
      all_goals (dsimp only; rw [e2])
      · omega
      · omega
      · simp; omega
      · exact srcOk_le h10.2.2.2 (by omega)
      · omega
theorem l24Count_ok {n : Int} {s : L00Src_} (h : srcOk n s) (hn : n ≤ 1000000) : Ok (s_l24Count_b_m s) (fun r => srcOk (n + 10) r.2) := by
  unfold s_l24Count_b_m
  refine ok_bind (one_ok h (by omega)) fun v1 h1 => ?_
  refine ok_ite (fun _ => ?_) fun _ => ?_
  · exact ok_bind (among_ok h1 (by omega) (by simp)) fun v2 h2 => ok_some (srcOk_le h2.2 (by omega))
  · exact ok_bind (pick_ok h1 (by omega)) fun v2 h2 => ok_some (srcOk_le h2.2.2.2 (by omega))
theorem drawSpread_ok {c : List Int} (h1 : c.length ≤ 1000000) (h2 : ∀ b ∈ c, 0 ≤ b ∧ b ≤ 255) : Ok (s_DrawSpreadHoles_m c) (fun r => r.1.Circles.length ≤ 50) := by
  unfold s_DrawSpreadHoles_m
  refine ok_bind (from_ok h1 h2) fun v1 q1 => ?_
  refine ok_bind (l24Bent_ok q1 (by omega)) fun v2 q2 => ?_
  refine ok_bind (l24Count_ok q2.2 (by omega)) fun v3 q3 => ?_
  refine ok_bind (P := fun _ => True) ?_ fun v8 _ => ok_some q2.1
  refine ok_ite (fun hc => ?_) fun _ => ok_some trivial
  refine ok_bind (pick_ok q3 (by omega)) fun v4 q4 => ?_
  refine ok_bind (ok_atI q4.1 (by rcases q4.2.1 with h | h <;> omega)) fun v5 q5 => ?_
  exact ok_bind (pick_ok q4.2.2.2 (by omega)) fun v6 q6 => ok_some trivial
theorem drawExact_ok {c : List Int} (h1 : c.length ≤ 1000000) (h2 : ∀ b ∈ c, 0 ≤ b ∧ b ≤ 255) : Ok (s_DrawExactIndex_m c) (fun r => r.1.Circles.length ≤ 50) := by
  unfold s_DrawExactIndex_m
  refine ok_bind (from_ok h1 h2) fun v1 q1 => ?_
  refine ok_bind (l24Bent_ok q1 (by omega)) fun v2 q2 => ?_
  exact ok_bind (l24Count_ok q2.2 (by omega)) fun v3 q3 => ok_some q2.1
def diceOk (s : F6dice_) : Prop := 0 ≤ s.i ∧ s.i ≤ 1000000 ∧ s.b.length ≤ 1000000 ∧ ∀ b ∈ s.b, 0 ≤ b ∧ b ≤ 255
theorem andM (x : Int) : 0 ≤ andK .u64 x 16777215 ∧ andK .u64 x 16777215 ≤ 16777215 := by
  unfold andK
  have h : (BitVec.ofInt IntKind.u64.bits x &&& BitVec.ofInt IntKind.u64.bits 16777215).toNat ≤ 16777215 := by
    rw [BitVec.toNat_and]
    have : (BitVec.ofInt IntKind.u64.bits 16777215).toNat = 16777215 := by decide
    rw [this]
    exact Nat.and_le_right
  generalize (BitVec.ofInt IntKind.u64.bits x &&& BitVec.ofInt IntKind.u64.bits 16777215).toNat = v at h
  rw [u64_in (by omega) (by omega)]; omega
theorem roll_ok {c : List Int} (h1 : c.length ≤ 4096) (h2 : ∀ b ∈ c, 0 ≤ b ∧ b ≤ 255) (k : Int) : Ok (l_f6roll_m c k) (fun r => diceOk r ∧ r.i = 0) := by
  unfold l_f6roll_m
  refine ok_bind (P := fun r => diceOk r ∧ r.i = 0) ?_ fun v h => ok_some h
  refine ok_loop (fun (s : Int × F6dice_) => 0 ≤ s.1 ∧ s.1 ≤ c.length ∧ diceOk s.2 ∧ s.2.i = 0) (fun s => (c.length - s.1).toNat) (fun s hI => ?_) _ ⟨by simp, by simp, ⟨by simp, by simp, by dsimp only; omega, h2⟩, rfl⟩ (by dsimp only; omega)
  obtain ⟨i, d⟩ := s
  obtain ⟨i0, i1, i2⟩ := hI
  dsimp only at i0 i1 i2 ⊢
  refine ok_ite (fun hi => ?_) fun _ => ok_some (.inr ⟨_, rfl, i2⟩)
  have e : w64 (i + 1) = i + 1 := w64_in (by omega) (by omega)
  exact ok_bind (ok_atI i0 hi) fun v q => ok_some (.inl ⟨_, rfl, ⟨by dsimp only; omega, by dsimp only; omega, i2⟩, by dsimp only; omega⟩)
theorem below_ok {s : F6dice_} (h : diceOk s) (hi : s.i ≤ 10000) {k : Int} (hk : 1 ≤ k) : Ok (laws_f6dice_below_b_m s k) (fun r => 0 ≤ r.1 ∧ r.1 < k ∧ diceOk r.2 ∧ r.2.i ≤ s.i + 1) := by
  obtain ⟨h0, h1, h2, h3⟩ := h
  unfold laws_f6dice_below_b_m
  have hx := andM (shrK .u64 (IntKind.u64.wrap ((IntKind.u64.wrap (s.h * 6364136223846793005)) + 1442695040888963407)) 33)
  refine ok_bind (P := fun v => 0 ≤ v.1 ∧ diceOk v.2 ∧ v.2.i ≤ s.i + 1) ?_ fun v q => ok_chk (by omega) (ok_some ?_)
  · refine ok_ite (fun hc => ?_) fun _ => ok_some ⟨?_, ⟨h0, h1, h2, h3⟩, by dsimp only; omega⟩
    · refine ok_bind (ok_atI h0 hc) fun b hb => ok_some ?_
      have := h3 b hb.1
      have e : w64 (s.i + 1) = s.i + 1 := w64_in (by omega) (by omega)
      dsimp only
      rw [e, w64_in (x := andK _ _ _) (by omega) (by omega), w64_in (x := b) (by omega) (by omega), w64_in (by omega) (by omega)]
      exact ⟨by omega, ⟨by dsimp only; omega, by dsimp only; omega, h2, h3⟩, by omega⟩
    · dsimp only
      rw [w64_in (by omega) (by omega)]; omega
  · dsimp only
    rw [Int.tmod_eq_emod_of_nonneg q.1]
    exact ⟨Int.emod_nonneg _ (by omega), Int.emod_lt_of_pos _ (by omega), q.2.1, q.2.2⟩
theorem f6same_refl {xs : List Int} (hl : xs.length ≤ 1000000) : l_f6same_m xs xs = some true := by
  unfold l_f6same_m
  rw [if_neg (by simp), scanG (xs := xs) (e := .inr false) (fun _ _ => true) (by omega) fun i hi => by simp [atI_lt hi]]
  have : allI xs (fun _ _ => true) = true := allI_iff.2 fun _ _ => rfl
  rw [this]; rfl
theorem f6has_eq {xs : List Int} (c : Int) (hl : xs.length ≤ 9223372036854775807) : l_f6has_m xs c = some (hasB xs c) := by
  unfold l_f6has_m hasB
  rw [scanG (e := .inr true) (fun _ v => !decide (v = c)) hl fun i hi => by rw [atI_lt hi, Option.bind_some]; by_cases q : xs[i] = c <;> simp [q], allI_all, Option.bind_some]
  have e : (xs.all fun v => !decide (v = c)) = !(xs.any fun v => decide (v = c)) := by rw [Bool.eq_iff_iff]; simp
  rw [e]
  cases (xs.any fun v => decide (v = c)) <;> rfl
theorem spreadR_len (d : Divider_) (c n : Int) : (spreadR d c n).1.length ≤ 2000 := by
  unfold spreadR
  cases divB d
  · simp
  · cases hn : btw n 1 2000
    · simp
    · have := of_decide_eq_true hn
      cases hasB d.Circles c
      · simp
      · simp; omega
theorem divsR_len (d : Divider_) (n : Int) : (divsR d n).1.length ≤ 2000 := by
  unfold divsR
  cases divB d
  · simp
  · cases hn : btw n 1 2000
    · simp
    · have := of_decide_eq_true hn
      simp only [if_true, List.length_map]
      have h := List.length_filter_le (fun (i : Nat) => (exactX d (1 + (i : Int))).2) (List.range n.toNat)
      rw [List.length_range] at h
      omega
theorem law_spreadHoles (p0 : List Int) (k0 : osL osU8 p0) : l_FnSpreadHoles_m p0 = some true := by
  unfold l_FnSpreadHoles_m l_f6big_m
  rw [Option.bind_some]
  by_cases hb : 4096 < (p0.length : Int)
  · rw [if_pos (by simpa using hb)]
  · rw [if_neg (by simpa using hb)]
    have h2 : ∀ b ∈ p0, 0 ≤ b ∧ b ≤ 255 := k0.2
    obtain ⟨⟨d, c, n⟩, e1, q1⟩ := drawSpread_ok (c := p0) (by omega) h2
    rw [e1]
    dsimp only at q1
    have hs := spreadR_len d c n
    simp only [Option.bind_some, i_SpreadHoles_eq (d := d) (c := c) (n := n) (by omega), s_SpreadHoles_eq (d := d) (c := c) (n := n) (by omega), f6same_refl (show (spreadR d c n).1.length ≤ 1000000 by omega), ne_eq, not_true_eq_false, if_false, Bool.not_true, Bool.false_eq_true]
    obtain ⟨⟨g, most⟩, e2, q2⟩ := drawExact_ok (c := p0) (by omega) h2
    have e3 : s_DrawExactDivisions_m p0 = some (g, most) := by unfold s_DrawExactDivisions_m; rw [e2]; rfl
    dsimp only at q2
    have hd := divsR_len g most
    simp only [e3, Option.bind_some, i_ExactDivisions_eq (d := g) (n := most) (by omega), s_ExactDivisions_eq (d := g) (n := most) (by omega), f6same_refl (show (divsR g most).1.length ≤ 1000000 by omega), ne_eq, not_true_eq_false, if_false, Bool.not_true, Bool.false_eq_true]
    have hmid : ∀ k : Unit → Option Bool, (((if (divsR g most).2 = 0 then ((l_f6roll_m p0 2403).bind fun v12 => ((laws_f6dice_below_b_m v12 most).bind fun v13 => ((i_ExactIndex_m g (w64 (1 + v13.1))).bind fun v14 => ((l_f6has_m (divsR g most).1 (w64 (1 + v13.1))).bind fun v15 => (if (v15 != (decide (v14.2 = 0))) = true then some (.inr false) else some (.inl ())))))) else some (.inl ())) : Option (Unit ⊕ Bool)).bind fun v16x => orE v16x k) = k () := by
      intro k
      by_cases h0 : (divsR g most).2 = 0
      · rw [if_pos h0]
        have hg : divB g = true ∧ btw most 1 2000 = true := by
          unfold divsR at h0
          cases a : divB g
          · rw [a] at h0; cases h0
          · cases b : btw most 1 2000
            · rw [a, b] at h0; cases h0
            · exact ⟨rfl, rfl⟩
        have hq := of_decide_eq_true hg.2
        obtain ⟨v12, e4, q4⟩ := roll_ok (c := p0) (by omega) h2 2403
        rw [e4, Option.bind_some]
        obtain ⟨v13, e5, q5⟩ := below_ok q4.1 (by omega) (k := most) hq.1
        have e6 : w64 (1 + v13.1) = 1 + v13.1 := w64_in (by omega) (by omega)
        rw [e5, Option.bind_some, e6, i_ExactIndex_eq (by omega), Option.bind_some, f6has_eq _ (by omega), Option.bind_some, divs_has hg.1 hg.2 (by omega) (by omega)]
        simp [orE]
      · rw [if_neg h0]; rfl
    rw [hmid]
    by_cases h0 : (spreadR d c n).2 = 0
    · rw [if_neg (by simp [h0])]
      have hg : divB d = true ∧ btw n 1 2000 = true ∧ hasB d.Circles c = true := by
        unfold spreadR at h0
        cases a : divB d
        · rw [a] at h0; cases h0
        · cases b : btw n 1 2000
          · rw [a, b] at h0; cases h0
          · cases e : hasB d.Circles c
            · rw [a, b, e] at h0; cases h0
            · exact ⟨rfl, rfl, rfl⟩
      obtain ⟨g1, g2, g3⟩ := hg
      have hq := of_decide_eq_true g2
      have hl : (spreadR d c n).1 = (List.range n.toNat).map (hole d c n) := by
        unfold spreadR; rw [g1, g2, g3]; rfl
      have w1 := divB_iff g1
      have w2 := has_in g1 g3
      have p2 := prod_in (a := d.Worm) (b := c) (A := 360) (B := 200) (by omega) w1.1.2 (by omega) w2.2
      have ew : w64 (d.Worm * c) = d.Worm * c := w64_in (by omega) (by omega)
      have qq := quo_bd (a := d.Worm * c) (g := n) p2.1 (by omega)
      have eq1 : w64 ((d.Worm * c).tdiv n) = d.Worm * c / n := by rw [Int.tdiv_eq_ediv_of_nonneg p2.1, w64_in (by omega) (by omega)]
      have em : (d.Worm * c).tmod n = d.Worm * c % n := Int.tmod_eq_emod_of_nonneg p2.1
      have ehole : ∀ k : Nat, hole d c n k = near ((k : Int) * (d.Worm * c)) n := fun k => by unfold hole; rw [Int.mul_assoc]
      rw [chk_t (by omega), hl, ew, eq1, w64_in (x := d.Worm * c / n + 1) (by omega) (by omega), em]
      have hlen : ((List.range n.toNat).map (hole d c n)).length = n.toNat := by simp
      rw [scanG (xs := (List.range n.toNat).map (hole d c n)) (e := .inr false) (fun _ _ => true) (by omega) fun i hi => ?_]
      · have : allI ((List.range n.toNat).map (hole d c n)) (fun _ _ => true) = true := allI_iff.2 fun _ _ => rfl
        rw [this, if_pos rfl, Option.bind_some]
        show (if 0 < _ then _ else _) = _
        rw [if_pos (by omega)]
        have h3 : atI ((List.range n.toNat).map (hole d c n)) 0 = some 0 := by
          have := atI_lt (xs := (List.range n.toNat).map (hole d c n)) (i := 0) (by omega)
          rw [show ((0 : Nat) : Int) = 0 from rfl] at this
          rw [this, List.getElem_map, List.getElem_range, ehole]
          congr 1
          exact (near_end hq.1).2
        rw [h3]; rfl
      · rw [hlen] at hi
        have hk : (i : Int) + 1 ≤ n := by omega
        have hv : ∀ j : Nat, (j : Int) ≤ 2000 → 0 ≤ near ((j : Int) * (d.Worm * c)) n ∧ near ((j : Int) * (d.Worm * c)) n ≤ 1000000000 := fun j hj => by
          have p3 := prod_in (a := (j : Int)) (b := d.Worm * c) (A := 2000) (B := 72000) (by omega) hj p2.1 p2.2
          unfold near
          refine ⟨Int.ediv_nonneg (by omega) (by omega), ?_⟩
          have := (quo_bd (a := 2 * ((j : Int) * (d.Worm * c)) + n) (g := 2 * n) (by omega) (by omega)).2
          omega
        have hnext : (((if (w64 ((i : Int) + 1)) < (((List.range n.toNat).map (hole d c n)).length : Int) then ((atI ((List.range n.toNat).map (hole d c n)) (w64 ((i : Int) + 1))).bind fun v25 => some v25) else some (d.Worm * c)) : Option Int)) = some (near (((i : Int) + 1) * (d.Worm * c)) n) := by
          have e7 : w64 ((i : Int) + 1) = ((i + 1 : Nat) : Int) := by rw [w64_in (by omega) (by omega)]; omega
          rw [e7, hlen]
          by_cases hj : i + 1 < n.toNat
          · rw [if_pos (by omega), atI_lt (show i + 1 < ((List.range n.toNat).map (hole d c n)).length by omega), Option.bind_some, List.getElem_map, List.getElem_range, ehole]
            rfl
          · rw [if_neg (by omega)]
            have : ((i : Int) + 1) = n := by omega
            rw [this, (near_end hq.1).1]
        rw [hnext, Option.bind_some, atI_lt (show i < ((List.range n.toNat).map (hole d c n)).length by omega), Option.bind_some, List.getElem_map, List.getElem_range, ehole]
        obtain ⟨n1, n2, n3⟩ := near_next (W := d.Worm * c) (n := n) i p2.1 hq.1
        have b1 := hv i (by omega)
        have b2 := hv (i + 1) (by omega)
        rw [show (((i + 1 : Nat) : Int)) = (i : Int) + 1 by omega] at b2
        rw [w64_in (x := near _ _ - near _ _) (by omega) (by omega), if_neg (by omega), if_neg (by omega), chk_t (by omega)]
        by_cases hz : d.Worm * c % n = 0
        · rw [if_pos hz, n3 hz]; simp
        · rw [if_neg hz]; simp
    · rw [if_pos h0]
end Go.Proofs.Ytkgeenglafchhaa
