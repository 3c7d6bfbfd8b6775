/- Plain laws, K: pictures of gears, dials and plates, the law. No program. -/
import Derived.Test.YtplnohfjeilodaaPE
namespace Go.Proofs.Ytplnohfjeilodaa
set_option linter.unusedVariables false
theorem angle_ok {n : Int} {s : L00Src_} (h : srcOk n s) (hn : n ≤ 1000000) : Ok (s_l10DrawAngle_b_m s) (fun r => srcOk (n + 6) r.2) := by
  unfold s_l10DrawAngle_b_m
  refine ok_bind (pick_ok h (by omega)) fun v1 h1 => ?_
  refine ok_bind (ok_atI h1.1 (by rcases h1.2.1 with k | k; · exact k
                                  · rw [k]; simp)) fun v2 h2 => ?_
  refine ok_bind (P := fun r => srcOk (n + 6) r.1) ?_ fun v6 h6 => ok_some h6
  refine ok_bind (one_ok h1.2.2.2 (by omega)) fun v3 h3 => ?_
  refine ok_ite (fun _ => ?_) fun _ => ok_some (srcOk_le h3 (by omega))
  refine ok_bind (among_ok h3 (by omega) (by simp)) fun v4 h4 => ?_
  refine ok_ite (fun _ => ?_) fun _ => ok_some (srcOk_le h4.2 (by omega))
  exact ok_bind (ok_atI (by omega) (by simp)) fun v5 h5 => ok_some (srcOk_le h4.2 (by omega))
theorem profile_ok {n : Int} {s : L00Src_} (h : srcOk n s) (hn : n ≤ 100000) : Ok (s_l10Draw_b_m s) (fun r => srcOk (n + 20) r.2) := by
  unfold s_l10Draw_b_m
  refine ok_bind (pick_ok h (by omega)) fun v1 h1 => ?_
  refine ok_bind (P := fun r => srcOk (n + 6) r.2) ?_ fun v4 h4 => ?_
  · refine ok_bind (one_ok h1.2.2.2 (by omega)) fun v3 h3 => ?_
    exact ok_ite (fun _ => ok_bind (among_ok h3 (by omega) (by simp)) fun v4 h4 => ok_some (srcOk_le h4.2 (by omega))) fun _ => ok_some (srcOk_le h3 (by omega))
  refine ok_bind (pick_ok h4 (by omega)) fun v5 h5 => ?_
  refine ok_bind (P := fun r => srcOk (n + 12) r.2) ?_ fun v8 h8 => ?_
  · refine ok_bind (one_ok h5.2.2.2 (by omega)) fun v3 h3 => ?_
    exact ok_ite (fun _ => ok_bind (among_ok h3 (by omega) (by simp)) fun v4 h4 => ok_some (srcOk_le h4.2 (by omega))) fun _ => ok_some (srcOk_le h3 (by omega))
  refine ok_bind (pick_ok h8 (by omega)) fun v9 h9 => ?_
  exact ok_bind (angle_ok h9.2.2.2 (by omega)) fun v10 h10 => ok_some (srcOk_le h10 (by omega))
theorem drawGear_ok {c : List Int} (h1 : c.length ≤ 1000000) (h2 : ∀ b ∈ c, 0 ≤ b ∧ b ≤ 255) : Ok (s_DrawGearDrawing_m c) (fun _ => True) := by
  unfold s_DrawGearDrawing_m
  refine ok_bind (from_ok h1 h2) fun v1 k1 => ?_
  refine ok_bind (P := fun _ => True) ?_ fun v2 _ => ok_some trivial
  unfold s_l10Bent_b_m
  refine ok_bind (profile_ok k1 (by omega)) fun v2 k2 => ?_
  refine ok_bind (P := fun _ => True) ?_ fun v2 _ => ok_some trivial
  refine ok_bind (pick_ok k2 (by omega)) fun v3 k3 => ?_
  refine ok_ite (fun _ => ok_bind (among_ok k3.2.2.2 (by omega) (by simp)) fun _ _ => ok_some trivial) fun _ => ?_
  refine ok_ite (fun _ => ok_bind (among_ok k3.2.2.2 (by omega) (by simp)) fun _ _ => ok_some trivial) fun _ => ?_
  refine ok_ite (fun _ => ok_bind (among_ok k3.2.2.2 (by omega) (by simp)) fun _ _ => ok_some trivial) fun _ => ?_
  exact ok_ite (fun _ => ok_some trivial) fun _ => ok_some trivial
theorem drawDial_ok {c : List Int} (h1 : c.length ≤ 1000000) (h2 : ∀ b ∈ c, 0 ≤ b ∧ b ≤ 255) : Ok (s_DrawDialDrawing_m c) (fun _ => True) := by
  unfold s_DrawDialDrawing_m
  refine ok_bind (from_ok h1 h2) fun v1 k1 => ?_
  refine ok_bind (pick_ok k1 (by omega)) fun v2 k2 => ?_
  refine ok_bind (pick_ok k2.2.2.2 (by omega)) fun v3 k3 => ?_
  refine ok_bind (P := fun _ => True) ?_ fun v2 _ => ok_some trivial
  refine ok_bind (pick_ok k3.2.2.2 (by omega)) fun v4 k4 => ?_
  refine ok_ite (fun _ => ok_bind (among_ok k4.2.2.2 (by omega) (by simp)) fun _ _ => ok_some trivial) fun _ => ?_
  exact ok_ite (fun _ => ok_bind (among_ok k4.2.2.2 (by omega) (by simp)) fun _ _ => ok_some trivial) fun _ => ok_some trivial
theorem strOf_size (xs : List Int) : (strOfNums xs).size = xs.length := by simp [strOfNums, ByteArray.size]
theorem dec_ok {k : Int} (h0 : 0 ≤ k) (h1 : k ≤ 100000) : Ok (s_l01Dec_m k) (fun r => r.size ≤ 100001) := by
  unfold s_l01Dec_m
  refine ok_bind (P := fun (x : List Int) => x.length ≤ 100000) ?_ fun v hv => ?_
  · refine ok_loop (I := fun (s : Int × List Int) => 0 ≤ s.1 ∧ s.1 + s.2.length ≤ 100000) (m := fun s => s.1.toNat) ?_ _ ⟨h0, by simp; omega⟩ (by dsimp only; omega)
    rintro ⟨i, ys⟩ ⟨q0, q1⟩
    dsimp only at q0 q1 ⊢
    refine ok_ite (fun hi => ?_) fun _ => ok_some (.inr ⟨_, rfl, by omega⟩)
    refine ok_bind (P := fun _ => True) (ok_ite (fun _ => ok_some trivial) fun _ => ok_some trivial) fun v8 _ => ok_chk (by simp; omega) (ok_some (.inl ⟨_, rfl, ?_, ?_⟩))
    · rw [Int.tdiv_eq_ediv_of_nonneg q0, w64_in (by omega) (by omega)]
      simp; omega
    · dsimp only
      rw [Int.tdiv_eq_ediv_of_nonneg q0, w64_in (by omega) (by omega)]
      omega
  · refine ok_ite (fun _ => ok_some (show (1 : Nat) ≤ _ by omega)) fun _ => ok_ite (fun hc => absurd hc (by omega)) fun _ => ok_some (by rw [strOf_size]; omega)
theorem drawPoint_ok {n : Int} {s : L00Src_} {a b : Int} (h : srcOk n s) (hn : n ≤ 1000000) : Ok (s_l09DrawPoint_b_m s a b) (fun r => srcOk (n + 4) r.2) := by
  unfold s_l09DrawPoint_b_m
  refine ok_bind (pick_ok h (by omega)) fun v1 h1 => ?_
  exact ok_bind (pick_ok h1.2.2.2 (by omega)) fun v2 h2 => ok_some (srcOk_le h2.2.2.2 (by omega))
theorem plateDr_ok {n : Int} {s : L00Src_} (h : srcOk n s) (hn : n ≤ 100000) : Ok (s_l09Draw_b_m s) (fun r => r.1.Sites.length ≤ 8 ∧ 1 ≤ r.1.Width ∧ r.1.Width ≤ 100000 ∧ srcOk (n + 1000) r.2) := by
  unfold s_l09Draw_b_m
  refine ok_bind (pick_ok h (by omega)) fun v1 h1 => ?_
  refine ok_bind (pick_ok h1.2.2.2 (by omega)) fun v2 h2 => ?_
  have w2 : w64 (400 + v2.1) = 400 + v2.1 := w64_in (by have := h2.1; omega) (by have := h2.2.2.1; omega)
  have w1 : w64 (400 + v1.1) = 400 + v1.1 := w64_in (by have := h1.1; omega) (by have := h1.2.2.1; omega)
  refine ok_bind (P := fun r => 1 ≤ r.1 ∧ r.1 ≤ 100000 ∧ srcOk (n + 8) r.2) ?_ fun v5 h5 => ?_
  · refine ok_bind (one_ok h2.2.2.2 (by omega)) fun v3 h3 => ?_
    refine ok_ite (fun _ => ok_bind (among_ok h3 (by omega) (by simp)) fun v4 h4 => ok_some ⟨?_, ?_, srcOk_le h4.2 (by omega)⟩) fun _ => ok_some ⟨?_, ?_, srcOk_le h3 (by omega)⟩
    · have := h4.1; simp at this; dsimp only; omega
    · have := h4.1; simp at this; dsimp only; omega
    · dsimp only; rw [w1]; have := h1.1; omega
    · dsimp only; rw [w1]; have := h1.2.2.1; omega
  refine ok_bind (pick_ok h5.2.2 (by omega)) fun v6 h6 => ?_
  refine ok_bind (pick_ok h6.2.2.2 (by omega)) fun v7 h7 => ?_
  refine ok_bind (one_ok h7.2.2.2 (by omega)) fun v8 h8 => ?_
  refine ok_bind (P := fun (r : L00Src_ × List Site_) => r.2.length ≤ 8 ∧ srcOk (n + 1000) r.1) ?_ fun v34 h34 => ok_some ⟨h34.1, h5.1, h5.2.1, h34.2⟩
  refine ok_bind (pick_ok h8 (by omega)) fun v9 h9 => ?_
  refine ok_loop (I := fun (s : Int × L00Src_ × List Site_) => 0 ≤ s.1 ∧ s.1 ≤ 8 ∧ (s.2.2.length : Int) + s.1 ≤ 8 ∧ srcOk (n + 100 + 10 * (8 - s.1)) s.2.1) (m := fun s => s.1.toNat) ?_ _ ⟨h9.1, by have := h9.2.1; dsimp only; omega, by have := h9.2.1; dsimp only [List.length]; omega, srcOk_le h9.2.2.2 (by have := h9.2.1; dsimp only; omega)⟩ (by have := h9.2.1; dsimp only; omega)
  rintro ⟨i, src, ys⟩ ⟨q0, q1, ql, qs⟩
  dsimp only at q0 q1 ql qs ⊢
  refine ok_ite (fun hi => ?_) fun _ => ok_some (.inr ⟨_, rfl, by dsimp only; omega, srcOk_le qs (by omega)⟩)
  refine ok_bind (drawPoint_ok qs (by omega)) fun v23 h23 => ?_
  refine ok_bind (P := fun _ => True) ?_ fun v28 _ => ?_
  · refine ok_ite (fun _ => ok_chk ?_ (ok_chk ?_ (ok_some trivial))) fun _ => ok_some trivial
    · rw [w64_in (by have := h5.1; omega) (by have := h5.2.1; omega)]; have := h5.1; omega
    · rw [w2, w64_in (by have := h2.1; omega) (by have := h2.2.2.1; omega)]; have := h2.1; omega
  refine ok_bind (pick_ok h23 (by omega)) fun v29 h29 => ?_
  refine ok_bind (pick_ok h29.2.2.2 (by omega)) fun v30 h30 => ?_
  refine ok_bind (dec_ok (by omega) (by omega)) fun v31 h31 => ?_
  refine ok_chk ?_ (ok_chk (by simp; omega) (ok_some (.inl ⟨_, rfl, ⟨?_, ?_, ?_, ?_⟩, ?_⟩)))
  · rw [show (⟨#[97]⟩ : ByteArray).size = 1 from rfl]; omega
  all_goals (dsimp only; rw [w64_in (x := i - 1) (by omega) (by omega)])
  · omega
  · omega
  · simp; omega
  · exact srcOk_le h30.2.2.2 (by omega)
  · omega
theorem drawPlate_ok {c : List Int} (h1 : c.length ≤ 1000000) (h2 : ∀ b ∈ c, 0 ≤ b ∧ b ≤ 255) : Ok (s_DrawPlateDrawing_m c) (fun _ => True) := by
  unfold s_DrawPlateDrawing_m
  refine ok_bind (from_ok h1 h2) fun v1 k1 => ?_
  refine ok_bind (P := fun _ => True) ?_ fun v2 _ => ok_some trivial
  unfold s_l09Bent_b_m
  refine ok_bind (plateDr_ok k1 (by omega)) fun v1 h1 => ?_
  refine ok_bind (pick_ok h1.2.2.2 (by omega)) fun v2 h2 => ?_
  have hi : 0 < (v1.1.Sites.length : Int) → v2.1 < v1.1.Sites.length := fun hl => by
    rcases h2.2.1 with h | h <;> omega
  have hl := h1.1
  refine ok_bind (P := fun _ => True) ?_ fun v26 _ => ok_some trivial
  refine ok_bind (pick_ok h2.2.2.2 (by omega)) fun v3 h3 => ?_
  have hs := h3.2.2.2
  refine ok_ite (fun _ => ok_bind (among_ok hs (by omega) (by simp)) fun _ _ => ok_some trivial) fun _ => ?_
  refine ok_ite (fun _ => ok_bind (among_ok hs (by omega) (by simp)) fun _ _ => ok_some trivial) fun _ => ?_
  refine ok_ite (fun _ => ok_ite (fun hz => ok_bind (among_ok hs (by omega) (by simp)) fun _ _ => ok_bind (ok_atI h2.1 (hi hz)) fun _ _ => ok_some trivial) fun _ => ok_some trivial) fun _ => ?_
  refine ok_ite (fun _ => ok_ite (fun hz => ok_bind (text_ok hs (by omega) (by simp)) fun _ _ => ok_bind (ok_atI h2.1 (hi hz)) fun _ _ => ok_some trivial) fun _ => ok_some trivial) fun _ => ?_
  refine ok_ite (fun _ => ok_ite (fun hz => ok_bind (ok_atI h2.1 (hi hz)) fun _ _ => ok_bind (ok_atI h2.1 (hi hz)) fun _ _ => ok_bind (among_ok hs (by omega) (by simp)) fun _ _ => ok_bind (ok_atI h2.1 (hi hz)) fun _ _ => ok_some trivial) fun _ => ok_some trivial) fun _ => ?_
  refine ok_ite (fun _ => ?_) fun _ => ok_ite (fun _ => ok_bind (among_ok hs (by omega) (by simp)) fun _ _ => ok_some trivial) fun _ => ok_some trivial
  refine ok_bind (pick_ok hs (by omega)) fun v14 h14 => ?_
  have w : w64 (19 + v14.1) = 19 + v14.1 := w64_in (by have := h14.1; omega) (by have := h14.2.2.1; omega)
  refine ok_loop (I := fun (s : Int × List Site_) => 0 ≤ s.1 ∧ s.1 ≤ 22 ∧ (s.2.length : Int) + s.1 ≤ 22) (m := fun s => s.1.toNat) ?_ _ ⟨by dsimp only; rw [w]; have := h14.1; omega, by dsimp only; rw [w]; have := h14.2.1; omega, by dsimp only [List.length]; rw [w]; have := h14.2.1; omega⟩ (by dsimp only; rw [w]; have := h14.2.1; omega)
  rintro ⟨i, ys⟩ ⟨q0, q1, ql⟩
  dsimp only at q0 q1 ql ⊢
  refine ok_ite (fun hi => ?_) fun _ => ok_some (.inr ⟨_, rfl, trivial⟩)
  refine ok_chk (by rw [w64_in (by have := h1.2.1; omega) (by have := h1.2.2.1; omega)]; have := h1.2.1; omega) ?_
  refine ok_bind (dec_ok (by omega) (by omega)) fun v31 h31 => ?_
  refine ok_chk ?_ (ok_chk (by simp; omega) (ok_some (.inl ⟨_, rfl, ⟨?_, ?_, ?_⟩, ?_⟩)))
  · rw [show (⟨#[98]⟩ : ByteArray).size = 1 from rfl]; omega
  all_goals (dsimp only; rw [w64_in (x := i - 1) (by omega) (by omega)])
  · omega
  · omega
  · simp; omega
  · omega
theorem or_in {m : Option (Unit ⊕ Bool)} {k : Unit → Option Bool} (hm : m = some (.inl ())) (hk : k () = some true) : (m.bind fun x => orE x k) = some true := by rw [hm]; exact hk
theorem bf_in {m : Option Bool} {k : Option Bool} (hm : m = some false) (hk : k = some true) : (m.bind fun v => if v = true then some false else k) = some true := by rw [hm]; simpa using hk
theorem gear_loop {o r : Int} {N : Nat} {T : Int} (t0 : 6 ≤ T) (hN : (N : Int) = 4 * T) (hb : N ≤ 1000000) : loopM (S := Int) (X := Unit ⊕ (Unit ⊕ Bool)) (fun s19 => (if s19 < (N : Int) then ((atI ((List.range N).map (gln o r (4 * T))) s19).bind fun v20 => (chk ((N : Int) ≠ 0) (((atI ((List.range N).map (gln o r (4 * T))) ((w64 (s19 + 1)).tmod (N : Int))).bind fun v22 => (if v20.B ≠ v22.A then some (.inr (.inr (.inr false))) else some (.inl (w64 (s19 + 1)))))))) else some (.inr (.inl ())))) 0 = some (.inl ()) := by
  rw [scan_ok (n := N) (g := fun _ => true) (d := .inl ()) (e := .inr (.inr false)) (fun i hi => ?_) (by simp) (by omega)]
  · simp
  · have hi' : (i : Int) < N := by omega
    have e1 : w64 ((i : Int) + 1) = ((i + 1 : Nat) : Int) := by rw [w64_in (by omega) (by omega)]; rfl
    have e2 : (((i + 1 : Nat) : Int)).tmod (N : Int) = (((i + 1) % N : Nat) : Int) := by rw [Int.tmod_eq_emod_of_nonneg (by omega)]; rfl
    have hm : (i + 1) % N < N := Nat.mod_lt _ (by omega)
    have h1 : i < ((List.range N).map (gln o r (4 * T))).length := by simpa using hi
    have h2 : (i + 1) % N < ((List.range N).map (gln o r (4 * T))).length := by simpa using hm
    simp only [if_pos hi', e1, e2, atI_lt h1, atI_lt h2, Option.bind_some, List.getElem_map, List.getElem_range]
    rw [chk_t (by omega), if_neg]
    · rfl
    · simp only [gln, ne_eq, Decidable.not_not]
      have := gear_closed (o := o) (r := r) t0 (i : Int)
      rw [← this, ← hN]; rfl
theorem gearR_len' (p : Profile_) (d : Int × Int × Int × Int) : (gearR p d).1.Shapes.length ≤ 960 := gearR_len p d
theorem dialR_len (r n : Int) : (dialR r n).1.Shapes.length ≤ 241 := by
  unfold dialR
  split
  · rename_i h
    have := btw_iff.1 h.2
    simp; omega
  · simp
theorem plateR_len (p : Plate_) : (plateR p).1.Shapes.length ≤ 64 := by
  unfold plateR
  rcases Bool.eq_false_or_eq_true (plateB p) with h | h
  · have := plate_lim h
    rw [if_pos h]; dsimp only; rw [List.length_append, flat_len]; simp; omega
  · simp [h]
theorem law_pictures (c : List Int) (hc : osL osU8 c) : l_FnPictures_m c = some true := by
  unfold l_FnPictures_m l_f6big_m
  rw [Option.bind_some]
  by_cases hb : 4096 < (c.length : Int)
  · simp [hb]
  · rw [decide_eq_false hb, if_neg (by simp)]
    have hc2 : ∀ v ∈ c, 0 ≤ v ∧ v ≤ 255 := fun v hv => by have := hc.2 v hv; simpa [osU8] using this
    obtain ⟨p, ep, _⟩ := drawGear_ok (c := c) (by omega) hc2
    obtain ⟨⟨r, n⟩, ed, _⟩ := drawDial_ok (c := c) (by omega) hc2
    obtain ⟨q, eq, _⟩ := drawPlate_ok (c := c) (by omega) hc2
    obtain ⟨d, _, gs, gi⟩ := s_Gear_eq p
    have l1 := gearR_len p d
    have l2 := dialR_len r n
    have l3 := plateR_len q
    rw [ep, Option.bind_some, gi, Option.bind_some, gs, Option.bind_some, ed, Option.bind_some, i_dial_eq, Option.bind_some, s_dial_eq, Option.bind_some, eq, Option.bind_some, i_Plate_eq, Option.bind_some, s_Plate_eq, Option.bind_some]
    refine bf_in (by simp [sameDr (x := (gearR p d).1) (by omega), sameDr (x := (dialR r n).1) (by omega), sameDr (x := (plateR q).1) (by omega)]) ?_
    refine or_in ?_ (bf_in ?_ ?_)
    · by_cases hz : (gearR p d).2 = 0
      · obtain ⟨o, e, o0, o1, e0, e1, t0, t1, hg⟩ := gear_in hz
        have hok := gear_ok o0 o1 e0 e1 t0 t1
        obtain ⟨N, hN⟩ : ∃ N : Nat, (N : Int) = 4 * p.Teeth := ⟨(4 * p.Teeth).toNat, by omega⟩
        have hN' : (4 * p.Teeth).toNat = N := by omega
        have hlp := gear_loop (o := o) (r := e) t0 hN (by omega)
        rw [if_pos hz, hg]
        simp only [hN', List.length_map, List.length_range] at hok ⊢
        rw [hlp, Option.bind_some]
        simp [orE, i_ValidDrawing_eq, hok, hN, w64_in (x := 4 * p.Teeth) (by omega) (by omega)]
      · rw [if_neg hz]
    · by_cases hz : (dialR r n).2 = 0
      · obtain ⟨r0, r1, n0, n1, hg⟩ := dial_in hz
        have hok := dial_ok r0 r1 n0 n1
        rw [if_pos hz, hg]
        simp only [List.length_cons, List.length_map, List.length_range]
        rw [if_neg (by rw [w64_in (by omega) (by omega)]; omega), i_ValidDrawing_eq, hok]; rfl
      · rw [if_neg hz]
    · rcases Bool.eq_false_or_eq_true (plateB q) with hp | hp
      · obtain ⟨b1, b2, b3, b4, b5⟩ := plate_box hp
        have hl := (plate_lim hp).2.2.2.2.1
        have h0 : (plateR q).2 = 0 := by unfold plateR; rw [if_pos hp]
        have hlen : ((plateR q).1.Shapes.length : Int) = 4 + 3 * (q.Sites.length : Int) := by unfold plateR; rw [if_pos hp]; dsimp only; rw [List.length_append, flat_len]; simp
        rw [if_neg (by simp [h0]), i_box_eq, Option.bind_some, if_pos b1, if_pos b2, if_pos b3, if_pos b4, if_pos b5, hlen, w64_in (x := 3 * (q.Sites.length : Int)) (by omega) (by omega), w64_in (by omega) (by omega)]
        simp
      · have h1 : (plateR q).2 = 1 := by unfold plateR; simp [hp]
        rw [if_pos (by rw [h1]; omega)]
end Go.Proofs.Ytplnohfjeilodaa
