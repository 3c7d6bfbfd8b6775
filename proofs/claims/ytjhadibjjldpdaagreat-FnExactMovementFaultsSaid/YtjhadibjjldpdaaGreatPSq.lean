/- Plain laws, Sq: the speeds of arbors, as the models find them. No program. -/
import Derived.Test.YtjhadibjjldpdaaGreatPSp
namespace Go.Proofs.YtjhadibjjldpdaaGreat
set_option linter.unusedVariables false
theorem codeR_cases (x : Ratio_ × Bool) : (x.2 = true ∧ codeR x = (x.1, 0)) ∨ (x.2 = false ∧ codeR x = (⟨0, 0⟩, 2)) := by
  unfold codeR
  cases h : x.2
  · exact .inr ⟨rfl, by simp⟩
  · exact .inl ⟨rfl, by simp⟩
theorem joint_len {w : Works_} {m : Mesh_} {sp : List Ratio_} (hm : joinB w m = true) (h : SpI w sp) : 0 ≤ m.A ∧ m.A < sp.length ∧ 0 ≤ m.B ∧ m.B < sp.length := by
  obtain ⟨_, j1, j2⟩ := joinB_iff.1 hm
  have a := wheel_at j1
  have b := wheel_at j2
  rw [h.1]
  exact ⟨a.1, a.2.1, b.1, b.2.1⟩
theorem chkLen {n k : Nat} (h : n ≤ 16) (hk : k ≤ 2) : 0 ≤ (n : Int) ∧ (n : Int) = (n : Int) ∧ ((n : Int)).toNat * k * 64 ≤ 281474976710656 := by
  refine ⟨by omega, rfl, ?_⟩
  have : (n : Int).toNat * k ≤ 16 * 2 := Nat.mul_le_mul (by omega) hk
  omega
theorem i_round_eq {w : Works_} (hw : wksB w = true) (sp : List Ratio_) (h : SpI w sp) :
    loopM (S := Bool × Int × List Ratio_) (X := (Bool × List Ratio_) ⊕ ((List Ratio_) ⊕ (List Ratio_ × Int))) (fun s41 =>
  (if s41.2.1 < (w.Meshes.length : Int) then
  ((((atI w.Meshes s41.2.1).bind fun v42 =>
  ((i_pairOf_m w v42).bind fun v43 =>
  ((((atI s41.2.2 v42.A).bind fun v44 =>
  (if v44.Den = 0 then
  some (v42.B, v42.A, (⟨v43.Driven, v43.Driver⟩ : Pair_))
  else
  some (v42.A, v42.B, v43))) : Option (Int × Int × Pair_)).bind fun v45 =>
  ((((atI s41.2.2 v45.1).bind fun v46 =>
  (if v46.Den = 0 then
  some true
  else
  ((atI s41.2.2 v45.2.1).bind fun v47 =>
  some (decide (v47.Den ≠ 0))))) : Option Bool).bind fun v48 =>
  (if v48 = true then
  some (.inl (s41.1, s41.2.2))
  else
  ((atI s41.2.2 v45.1).bind fun v49 =>
  ((i_meshed_m v49 v45.2.2.Driver v45.2.2.Driven).bind fun v50 =>
  (if v50.2 ≠ 0 then
  some (.inr (.inr (.inr (.inr (([] : List Ratio_), v50.2)))))
  else
  ((atI s41.2.2 v45.2.1).bind fun v51 =>
  some (.inl (true, List.set s41.2.2 (v45.2.1).toNat v50.1))))))))))) : Option ((Bool × List Ratio_) ⊕ ((Bool × Int × List Ratio_) ⊕ ((Bool × List Ratio_) ⊕ ((List Ratio_) ⊕ (List Ratio_ × Int)))))).bind fun v52x => orE v52x fun v52 =>
  some (.inl (v52.1, w64 (s41.2.1 + 1), v52.2)))
  else
  some (.inr (.inl (s41.1, s41.2.2))))) (false, 0, sp) = some (match roundF w w.Meshes (false, sp) with
    | .inl s' => .inl s'
    | .inr _ => .inr (.inr ([], 2))) := by
  have hl := (wksB_iff.1 hw).2.1
  rw [loop_forI (xs := w.Meshes) (fun i (s : Bool × List Ratio_) => (s.1, i, s.2)) (fun _ m s => some (Sum.map id (fun _ => .inr (.inr ([], 2))) (rstep w m s))) (fun s => .inl s) (fun s => SpI w s.2) (by omega) (fun i hi s hs => ?_) (fun i hi s s' hs e => ?_) (fun s hs => by simp) (false, sp) h]
  · rw [forL_round (w := w) (X := (Bool × List Ratio_) ⊕ ((List Ratio_) ⊕ (List Ratio_ × Int))) (g := fun _ => .inr (.inr ([], 2))) (fun _ _ _ => rfl)]
    cases roundF w w.Meshes (false, sp) <;> rfl
  · have hi' : (i : Int) < w.Meshes.length := by omega
    have e1 : w64 ((i : Int) + 1) = i + 1 := w64_in (by omega) (by omega)
    have hj := wks_join hw _ (List.getElem_mem hi)
    simp only [if_pos hi', atI_lt hi, Option.bind_some, e1, i_pairOf_eq hj]
    generalize w.Meshes[i] = m at hj
    obtain ⟨_, j1, j2⟩ := joinB_iff.1 hj
    have ta := tooth_in hw j1
    have tb := tooth_in hw j2
    obtain ⟨a0, a1, b0, b1⟩ := joint_len hj hs
    obtain ⟨ga, _, _⟩ := getR_at a0 a1
    obtain ⟨gb, _, _⟩ := getR_at b0 b1
    have a1' : m.A < w.Arbors.length := by rw [← hs.1]; exact a1
    have b1' : m.B < w.Arbors.length := by rw [← hs.1]; exact b1
    unfold rstep
    simp only [ga, Option.bind_some]
    by_cases dA : (getR s.2 m.A).Den = 0
    · simp only [if_pos dA, Option.bind_some, gb]
      by_cases dB : (getR s.2 m.B).Den = 0
      · simp only [if_pos dB, dA, dB, Option.bind_some, if_true]; rfl
      · have k := hs.den b0 b1' dB
        simp only [if_neg dB, ga, gb, dA, dB, Option.bind_some]
        rw [i_meshed_eq k (t := (pairM w m).Driven) (u := (pairM w m).Driver) tb.1 tb.2 ta.1 ta.2]
        rcases codeR_cases (meshed (getR s.2 m.B) (pairM w m).Driven (pairM w m).Driver) with ⟨h1, h2⟩ | ⟨h1, h2⟩ <;> simp [h1, h2, orE]
    · simp only [if_neg dA, Option.bind_some, ga, gb]
      by_cases dB : (getR s.2 m.B).Den = 0
      · have k := hs.den a0 a1' dA
        simp only [ga, gb, dA, dB, Option.bind_some, if_false, ne_eq, not_true_eq_false, decide_false, Bool.false_eq_true]
        rw [i_meshed_eq k (t := (pairM w m).Driver) (u := (pairM w m).Driven) ta.1 ta.2 tb.1 tb.2]
        rcases codeR_cases (meshed (getR s.2 m.A) (pairM w m).Driver (pairM w m).Driven) with ⟨h1, h2⟩ | ⟨h1, h2⟩ <;> simp [h1, h2, orE]
      · simp [dA, dB, orE]
  · have e : rstep w w.Meshes[i] s = .inl s' := by
      cases e2 : rstep w w.Meshes[i] s with
      | inr u => rw [e2] at e; cases e
      | inl z => rw [e2] at e; injection e with e; injection e with e; rw [← e]; rfl
    exact (rstep_ok hw (wks_join hw _ (List.getElem_mem hi)) hs e).1
theorem i_speedsFrom_eq {w : Works_} (hw : wksB w = true) {root : Int} (hr : inArb w root = true) : i_speedsFrom_m w root = some (match spread w (cntU (start w root) + 1) (start w root) with
    | .inl sp => (sp, 0)
    | .inr _ => ([], 2)) := by
  have hl := (wksB_iff.1 hw).1
  have hr := of_decide_eq_true hr
  unfold i_speedsFrom_m
  rw [chk_t (chkLen hl (by omega))]
  simp only [Int.toNat_natCast]
  obtain ⟨e, he, _, _⟩ := atI_some (xs := List.replicate w.Arbors.length (⟨0, 0⟩ : Ratio_)) hr.1 (by rw [List.length_replicate]; exact hr.2)
  rw [he, Option.bind_some]
  have := rounds_ok hw (S := Bool × List Ratio_) (X := (List Ratio_) ⊕ (List Ratio_ × Int)) (step := fun s28 => (if s28.1 = true then loopM (S := Bool × Int × List Ratio_) (X := (Bool × List Ratio_) ⊕ ((List Ratio_) ⊕ (List Ratio_ × Int))) (fun s41 =>
  (if s41.2.1 < (w.Meshes.length : Int) then
  ((((atI w.Meshes s41.2.1).bind fun v42 =>
  ((i_pairOf_m w v42).bind fun v43 =>
  ((((atI s41.2.2 v42.A).bind fun v44 =>
  (if v44.Den = 0 then
  some (v42.B, v42.A, (⟨v43.Driven, v43.Driver⟩ : Pair_))
  else
  some (v42.A, v42.B, v43))) : Option (Int × Int × Pair_)).bind fun v45 =>
  ((((atI s41.2.2 v45.1).bind fun v46 =>
  (if v46.Den = 0 then
  some true
  else
  ((atI s41.2.2 v45.2.1).bind fun v47 =>
  some (decide (v47.Den ≠ 0))))) : Option Bool).bind fun v48 =>
  (if v48 = true then
  some (.inl (s41.1, s41.2.2))
  else
  ((atI s41.2.2 v45.1).bind fun v49 =>
  ((i_meshed_m v49 v45.2.2.Driver v45.2.2.Driven).bind fun v50 =>
  (if v50.2 ≠ 0 then
  some (.inr (.inr (.inr (.inr (([] : List Ratio_), v50.2)))))
  else
  ((atI s41.2.2 v45.2.1).bind fun v51 =>
  some (.inl (true, List.set s41.2.2 (v45.2.1).toNat v50.1))))))))))) : Option ((Bool × List Ratio_) ⊕ ((Bool × Int × List Ratio_) ⊕ ((Bool × List Ratio_) ⊕ ((List Ratio_) ⊕ (List Ratio_ × Int)))))).bind fun v52x => orE v52x fun v52 =>
  some (.inl (v52.1, w64 (s41.2.1 + 1), v52.2)))
  else
  some (.inr (.inl (s41.1, s41.2.2))))) (false, 0, s28.2) else some (.inr (.inl s28.2)))) (fun s => s) (fun s => s) (fun _ => rfl) (fun sp => .inl sp) (fun _ => .inr ([], 2)) (fun _ _ => rfl) (fun sp h => by
    simp only [if_true]
    rw [i_round_eq hw sp h]
    cases roundF w w.Meshes (false, sp) <;> rfl) (fun sp h => by simp) (start w root) (start_ok root)
  unfold start at this
  unfold start
  rw [this, Option.bind_some]
  cases spread w (cntU ((List.replicate w.Arbors.length (⟨0, 0⟩ : Ratio_)).set root.toNat ⟨1, 1⟩) + 1) ((List.replicate w.Arbors.length (⟨0, 0⟩ : Ratio_)).set root.toNat ⟨1, 1⟩) <;> rfl
theorem i_SpeedsOf_eq {w : Works_} (hl : w.Arbors.length ≤ 9223372036854775807) (hws : ∀ b ∈ w.Arbors, b.Wheels.length ≤ 9223372036854775807) (hm : w.Meshes.length ≤ 9223372036854775807) (root : Int) : i_SpeedsOf_m w root = some (if wksB w = true then speedsR w root else ([], 1)) := by
  unfold i_SpeedsOf_m speedsR
  rw [i_ValidWorks_eq hl hws hm, Option.bind_some]
  by_cases hw : wksB w = true
  · have e0 : btw root 0 (w64 ((w.Arbors.length : Int) - 1)) = inArb w root := btw_len hl
    have hml := (wksB_iff.1 hw).2.1
    rw [if_pos hw, hw, i_within_eq, e0, Option.bind_some]
    by_cases hr : inArb w root = true
    · rw [if_pos hr, hr, i_speedsFrom_eq hw hr]
      cases e : spread w (cntU (start w root) + 1) (start w root) with
      | inr u => rfl
      | inl sp =>
        have hs := spread_ok hw (start_ok root) e
        have hsl := hs.1
        have hal := (wksB_iff.1 hw).1
        simp only [Bool.not_true, Bool.false_eq_true, if_false, Option.bind_some, ne_eq, not_true_eq_false]
        have hc : slices_ContainsFunc_LRatio_Ratio_i_SpeedsOf_1_m sp = some (sp.any fun r => decide (r.Den = 0)) := by
          unfold slices_ContainsFunc_LRatio_Ratio_i_SpeedsOf_1_m slices_IndexFunc_LRatio_Ratio_i_SpeedsOf_1_m
          rw [findG (fun r => decide (r.Den = 0)) (by omega) fun i hi => by rw [atI_lt hi, Option.bind_some, i_SpeedsOf_1_m, Option.bind_some], Option.bind_some, posOf_nn]
        rw [hc, Option.bind_some]
        by_cases hn : (sp.any fun r => decide (r.Den = 0)) = true
        · rw [if_pos hn, if_pos hn]
        · rw [if_neg hn, if_neg hn, scanG (e := .inr ([], 10)) (fun _ m => fitB w sp m) hm fun i hi => ?_, allI_all, Option.bind_some]
          · cases w.Meshes.all (fitB w sp) <;> rfl
          · have hj := wks_join hw _ (List.getElem_mem hi)
            simp only [atI_lt hi, Option.bind_some, i_pairOf_eq hj]
            generalize w.Meshes[i] = m at hj
            obtain ⟨_, j1, j2⟩ := joinB_iff.1 hj
            have ta := tooth_in hw j1
            have tb := tooth_in hw j2
            obtain ⟨a0, a1, b0, b1⟩ := joint_len hj hs
            obtain ⟨ga, gm, _⟩ := getR_at a0 a1
            obtain ⟨gb, _, _⟩ := getR_at b0 b1
            have k : KnR (getR sp m.A) := by
              rcases hs.2 _ gm with e | h
              · exact absurd (List.any_eq_true.2 ⟨_, gm, decide_eq_true (by rw [e])⟩) hn
              · exact h
            rw [ga, Option.bind_some, i_meshed_eq k (t := (pairM w m).Driver) (u := (pairM w m).Driven) ta.1 ta.2 tb.1 tb.2, gb]
            unfold fitB
            rcases codeR_cases (meshed (getR sp m.A) (pairM w m).Driver (pairM w m).Driven) with ⟨h1, h2⟩ | ⟨h1, h2⟩
            · by_cases q : (meshed (getR sp m.A) (pairM w m).Driver (pairM w m).Driven).1 = getR sp m.B <;> simp [h1, h2, q]
            · simp [h1, h2]
    · rw [if_neg hr, Bool.not_eq_true] at *
      rw [hr]; rfl
  · rw [if_neg hw, Bool.not_eq_true] at *
    rw [hw]; rfl
theorem s_l08Fits_eq {w : Works_} (hw : wksB w = true) {sp : List Ratio_} (hs : SpI w sp) {m : Mesh_} (hj : joinB w m = true) (k : KnR (getR sp m.A)) : s_l08Fits_m w m sp = some (fitB w sp m) := by
  obtain ⟨_, j1, j2⟩ := joinB_iff.1 hj
  have ta := tooth_in hw j1
  have tb := tooth_in hw j2
  obtain ⟨a0, a1, b0, b1⟩ := joint_len hj hs
  obtain ⟨ga, gm, _⟩ := getR_at a0 a1
  obtain ⟨gb, _, _⟩ := getR_at b0 b1
  have hv := step_val (t := (pairM w m).Driver) (u := (pairM w m).Driven) ta.1 ta.2 tb.1 tb.2
  have t0 : 6 ≤ (pairM w m).Driver := ta.1
  have t1 : (pairM w m).Driver ≤ 240 := ta.2
  have u0 : 6 ≤ (pairM w m).Driven := tb.1
  have u1 : (pairM w m).Driven ≤ 240 := tb.2
  unfold s_l08Fits_m fitB meshed
  rw [s_l08Pair_eq hj, Option.bind_some, w64_in (by omega) (by omega), s_l02Make_eq ⟨by omega, by omega⟩ ⟨by omega, by omega⟩ (by omega), Option.bind_some, ga, Option.bind_some, s_l02Mul_eq k.1 hv.2.1, Option.bind_some, gb]
  cases (mulR (getR sp m.A) (mkR (-(pairM w m).Driver) (pairM w m).Driven).1).2 <;> simp
def kn (sp : List Ratio_) : List Bool := sp.map fun r => decide (r.Den ≠ 0)
theorem kn_at {sp : List Ratio_} {i : Int} (h0 : 0 ≤ i) (h1 : i < sp.length) : atI (kn sp) i = some (decide ((getR sp i).Den ≠ 0)) := by
  obtain ⟨_, _, hi, e⟩ := getR_at h0 h1
  unfold atI kn
  rw [if_pos h0, List.getElem?_map, List.getElem?_eq_getElem hi, e]; rfl
theorem kn_set {sp : List Ratio_} {i : Nat} {v : Ratio_} (hv : v.Den ≠ 0) : kn (sp.set i v) = (kn sp).set i true := by
  unfold kn
  rw [List.map_set, decide_eq_true hv]
theorem forL_roundS {w : Works_} (hw : wksB w = true) {X : Type} (g : Bool × List Ratio_ → X) : ∀ (ms : List Mesh_) (hm : ∀ m ∈ ms, joinB w m = true) (k : Nat) (s : Bool × List Ratio_), SpI w s.2 → ∃ f, SpI w f.2 ∧ forL (fun _ m s => some (match rstep w m s with
    | .inl s' => .inl s'
    | .inr _ => .inr (g s))) ms k s = some (match roundF w ms s with
    | .inl s' => .inl s'
    | .inr _ => .inr (g f))
  | [], _, k, s, h => ⟨s, h, rfl⟩
  | m :: ms, hm, k, s, h => by
    cases e : rstep w m s with
    | inr u =>
      refine ⟨s, h, ?_⟩
      show (some (match rstep w m s with
        | .inl s' => _
        | .inr _ => _)).bind _ = _
      unfold roundF
      rw [e]; rfl
    | inl s1 =>
      obtain ⟨f, hf, q⟩ := forL_roundS hw g ms (fun m h => hm m (List.mem_cons_of_mem _ h)) (k + 1) s1 (rstep_ok hw (hm m (List.mem_cons_self ..)) h e).1
      refine ⟨f, hf, ?_⟩
      show (some (match rstep w m s with
        | .inl s' => _
        | .inr _ => _)).bind _ = _
      unfold roundF
      rw [e]
      exact q
theorem s_round_eq {w : Works_} (hw : wksB w = true) (sp : List Ratio_) (h : SpI w sp) : ∃ f, SpI w f ∧ s_l08Round_o_o_m w (kn sp) sp = some (match roundF w w.Meshes (false, sp) with
    | .inl s' => (s'.1, true, kn s'.2, s'.2)
    | .inr _ => (false, false, kn f, f)) := by
  have hl := (wksB_iff.1 hw).2.1
  unfold s_l08Round_o_o_m
  obtain ⟨f, hf, q⟩ := forL_roundS hw (X := (Bool × List Bool × List Ratio_) ⊕ (Bool × Bool × List Bool × List Ratio_)) (fun s => .inr (false, false, kn s.2, s.2)) w.Meshes (wks_join hw) 0 (false, sp) h
  refine ⟨f.2, hf, ?_⟩
  rw [loop_forI (xs := w.Meshes) (fun i (s : Bool × List Ratio_) => (s.1, i, kn s.2, s.2)) (fun _ m s => some (match rstep w m s with
    | .inl s' => .inl s'
    | .inr _ => .inr (.inr (false, false, kn s.2, s.2)))) (fun s => .inl (s.1, kn s.2, s.2)) (fun s => SpI w s.2) (by omega) (fun i hi s hs => ?_) (fun i hi s s' hs e => ?_) (fun s hs => by simp) (false, sp) h]
  · rw [q]
    cases roundF w w.Meshes (false, sp) <;> rfl
  · have hi' : (i : Int) < w.Meshes.length := by omega
    have e1 : w64 ((i : Int) + 1) = i + 1 := w64_in (by omega) (by omega)
    have hj := wks_join hw _ (List.getElem_mem hi)
    simp only [if_pos hi', atI_lt hi, Option.bind_some, e1, s_l08Pair_eq hj]
    generalize w.Meshes[i] = m at hj
    obtain ⟨_, j1, j2⟩ := joinB_iff.1 hj
    have ta := tooth_in hw j1
    have tb := tooth_in hw j2
    have t0 : 6 ≤ (pairM w m).Driver := ta.1
    have t1 : (pairM w m).Driver ≤ 240 := ta.2
    have u0 : 6 ≤ (pairM w m).Driven := tb.1
    have u1 : (pairM w m).Driven ≤ 240 := tb.2
    obtain ⟨a0, a1, b0, b1⟩ := joint_len hj hs
    obtain ⟨ga, _, _⟩ := getR_at a0 a1
    obtain ⟨gb, _, _⟩ := getR_at b0 b1
    have ka := kn_at a0 a1
    have kb := kn_at b0 b1
    have a1' : m.A < w.Arbors.length := by rw [← hs.1]; exact a1
    have b1' : m.B < w.Arbors.length := by rw [← hs.1]; exact b1
    unfold rstep
    simp only [ka, kb, Option.bind_some]
    by_cases dA : (getR s.2 m.A).Den = 0
    · by_cases dB : (getR s.2 m.B).Den = 0
      · simp [dA, dB, orE]
      · have k := hs.den b0 b1' dB
        have hv := step_val (t := (pairM w m).Driven) (u := (pairM w m).Driver) u0 u1 t0 t1
        have e2 : (decide ((getR s.2 m.A).Den ≠ 0) == decide ((getR s.2 m.B).Den ≠ 0)) = false := by simp [dA, dB]
        have e3 : decide ((getR s.2 m.A).Den = 0) ≠ decide ((getR s.2 m.B).Den = 0) := by simp [dA, dB]
        have e4 : decide ((getR s.2 m.B).Den ≠ 0) = true := by simp [dB]
        rw [e2, if_neg (by decide), if_neg e3, if_pos dA, e4, if_pos rfl]
        simp only [Option.bind_some, ga, gb, ka, kb]
        rw [w64_in (by omega) (by omega), s_l02Make_eq ⟨by omega, by omega⟩ ⟨by omega, by omega⟩ (by omega)]
        simp only [Option.bind_some]
        rw [s_l02Mul_eq k.1 hv.2.1]
        have mv := meshed_val k (t := (pairM w m).Driven) (u := (pairM w m).Driver) u0 u1 t0 t1
        have em : mulR (getR s.2 m.B) (mkR (-(pairM w m).Driven) (pairM w m).Driver).1 = meshed (getR s.2 m.B) (pairM w m).Driven (pairM w m).Driver := rfl
        rw [em]
        cases h2 : (meshed (getR s.2 m.B) (pairM w m).Driven (pairM w m).Driver).2
        · simp [h2, orE]
        · simp [h2, orE, kn_set (mv h2).den]
    · by_cases dB : (getR s.2 m.B).Den = 0
      · have k := hs.den a0 a1' dA
        have hv := step_val (t := (pairM w m).Driver) (u := (pairM w m).Driven) t0 t1 u0 u1
        have e2 : (decide ((getR s.2 m.A).Den ≠ 0) == decide ((getR s.2 m.B).Den ≠ 0)) = false := by simp [dA, dB]
        have e3 : decide ((getR s.2 m.A).Den = 0) ≠ decide ((getR s.2 m.B).Den = 0) := by simp [dA, dB]
        have e4 : decide ((getR s.2 m.B).Den ≠ 0) = false := by simp [dB]
        rw [e2, if_neg (by decide), if_neg e3, if_neg dA, e4, if_neg (by decide)]
        simp only [Option.bind_some, ga, gb, ka, kb]
        rw [w64_in (by omega) (by omega), s_l02Make_eq ⟨by omega, by omega⟩ ⟨by omega, by omega⟩ (by omega)]
        simp only [Option.bind_some]
        rw [s_l02Mul_eq k.1 hv.2.1]
        have mv := meshed_val k (t := (pairM w m).Driver) (u := (pairM w m).Driven) t0 t1 u0 u1
        have em : mulR (getR s.2 m.A) (mkR (-(pairM w m).Driver) (pairM w m).Driven).1 = meshed (getR s.2 m.A) (pairM w m).Driver (pairM w m).Driven := rfl
        rw [em]
        cases h2 : (meshed (getR s.2 m.A) (pairM w m).Driver (pairM w m).Driven).2
        · simp [h2, orE]
        · simp [h2, orE, kn_set (mv h2).den]
      · simp [dA, dB, orE]
  · have e : rstep w w.Meshes[i] s = .inl s' := by
      cases e2 : rstep w w.Meshes[i] s with
      | inr u => rw [e2] at e; cases e
      | inl z => rw [e2] at e; injection e with e; injection e with e; rw [← e]
    exact (rstep_ok hw (wks_join hw _ (List.getElem_mem hi)) hs e).1
theorem kn_len (sp : List Ratio_) : (kn sp).length = sp.length := by unfold kn; simp
theorem s_l08Speeds_eq {w : Works_} (hw : wksB w = true) (root : Int) : s_l08Speeds_m w root = some (speedsR w root) := by
  have hal := (wksB_iff.1 hw).1
  have hml := (wksB_iff.1 hw).2.1
  unfold s_l08Speeds_m speedsR
  rw [s_l08Root_eq (by omega), Option.bind_some]
  by_cases hr : inArb w root = true
  · rw [if_pos hr, hr, if_neg (by decide), chk_t (chkLen hal (by omega)), chk_t (chkLen hal (by omega))]
    simp only [Int.toNat_natCast]
    have hrr := of_decide_eq_true hr
    obtain ⟨e, he, _, _⟩ := atI_some (xs := List.replicate w.Arbors.length (⟨0, 0⟩ : Ratio_)) hrr.1 (by rw [List.length_replicate]; exact hrr.2)
    obtain ⟨e', he', _, _⟩ := atI_some (xs := List.replicate w.Arbors.length false) hrr.1 (by rw [List.length_replicate]; exact hrr.2)
    rw [he', Option.bind_some, s_l02Whole_m, Option.bind_some, he, Option.bind_some]
    have hk : kn (start w root) = (List.replicate w.Arbors.length false).set root.toNat true := by
      unfold start
      rw [kn_set (by decide)]
      congr 1
      unfold kn
      rw [List.map_replicate]; rfl
    have := rounds_ok hw (S := Bool × List Bool × List Ratio_) (X := (List Bool × List Ratio_) ⊕ (List Ratio_ × Int)) (step := fun s11 => (if s11.1 = true then ((s_l08Round_o_o_m w s11.2.1 s11.2.2).bind fun v12 => (chk (v12.2.2.1.length = s11.2.1.length) (chk (v12.2.2.2.length = s11.2.2.length) (if (!v12.2.1) = true then some (.inr (.inr (([] : List Ratio_), 2))) else some (.inl (v12.1, v12.2.2.1, v12.2.2.2)))))) else some (.inr (.inl (s11.2.1, s11.2.2))))) (fun s => (s.1, kn s.2, s.2)) (fun s => (s.1, s.2.2)) (fun _ => rfl) (fun sp => .inl (kn sp, sp)) (fun _ => .inr ([], 2)) (fun _ _ => rfl) (fun sp h => by
      obtain ⟨f, hf, q⟩ := s_round_eq hw sp h
      simp only [if_true, q, Option.bind_some]
      cases er : roundF w w.Meshes (false, sp) with
      | inr u =>
        simp only [kn_len, hf.1, h.1, chk_true]
        simp
      | inl s' =>
        have h3 := (roundF_ok hw (wks_join hw) (s := (false, sp)) h er).1
        simp only [kn_len, h3.1, h.1, chk_true]
        simp) (fun sp h => by simp) (start w root) (start_ok root)
    rw [hk] at this
    unfold start at this
    unfold start
    rw [this, Option.bind_some]
    cases e : spread w (cntU ((List.replicate w.Arbors.length (⟨0, 0⟩ : Ratio_)).set root.toNat ⟨1, 1⟩) + 1) ((List.replicate w.Arbors.length (⟨0, 0⟩ : Ratio_)).set root.toNat ⟨1, 1⟩) with
    | inr u => rfl
    | inl sp =>
      have hs := spread_ok hw (start_ok root) e
      have hsl := hs.1
      show (orE (.inl (kn sp, sp)) _) = _
      simp only [orE]
      rw [scanG (xs := kn sp) (e := .inr ([], 6)) (fun _ b => b) (by rw [kn_len]; omega) fun i hi => by rw [atI_lt hi, Option.bind_some]; cases (kn sp)[i] <;> rfl, allI_all, Option.bind_some]
      have e5 : (kn sp).all (fun b => b) = !(sp.any fun r => decide (r.Den = 0)) := by
        unfold kn
        rw [Bool.eq_iff_iff]; simp
      rw [e5]
      by_cases hn : (sp.any fun r => decide (r.Den = 0)) = true
      · rw [hn]; rfl
      · rw [Bool.not_eq_true] at hn
        rw [hn]
        simp only [Bool.not_false, if_true, orE]
        rw [scanG (xs := w.Meshes) (e := .inr ([], 10)) (fun _ m => fitB w sp m) (by omega) fun i hi => ?_, allI_all, Option.bind_some]
        · cases w.Meshes.all (fitB w sp) <;> rfl
        · have hj := wks_join hw _ (List.getElem_mem hi)
          obtain ⟨a0, a1, b0, b1⟩ := joint_len hj hs
          obtain ⟨_, gm, _⟩ := getR_at a0 a1
          have k : KnR (getR sp w.Meshes[i].A) := by
            rcases hs.2 _ gm with e | h
            · have q : (sp.any fun r => decide (r.Den = 0)) = true := List.any_eq_true.2 ⟨_, gm, decide_eq_true (by rw [e])⟩
              rw [hn] at q; cases q
            · exact h
          rw [atI_lt hi, Option.bind_some, s_l08Fits_eq hw hs hj k, Option.bind_some]
          cases fitB w sp w.Meshes[i] <;> rfl
  · rw [if_neg hr, Bool.not_eq_true] at *
    rw [hr]; rfl
end Go.Proofs.YtjhadibjjldpdaaGreat
