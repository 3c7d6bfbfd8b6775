/- Plain laws, Sp: the speeds of arbors. No program. -/
import Derived.Test.YtjhadibjjldpdaaGreatPRt
import Derived.Test.YtjhadibjjldpdaaGreatPMv
namespace Go.Proofs.YtjhadibjjldpdaaGreat
set_option linter.unusedVariables false
def teethAt (w : Works_) (a k : Int) : Int := (w.Arbors[a.toNat]?.bind fun b => b.Wheels[k.toNat]?).getD 0
def pairM (w : Works_) (m : Mesh_) : Pair_ := ⟨teethAt w m.A m.WheelA, teethAt w m.B m.WheelB⟩
theorem wheel_at {w : Works_} {a k : Int} (h : whB w a k = true) : 0 ≤ a ∧ a < w.Arbors.length ∧ ∃ b t, atI w.Arbors a = some b ∧ b ∈ w.Arbors ∧ atI b.Wheels k = some t ∧ t ∈ b.Wheels ∧ teethAt w a k = t := by
  unfold whB at h
  rw [Bool.and_eq_true, decide_eq_true_eq] at h
  obtain ⟨h1, h2⟩ := h
  obtain ⟨b, hb, hm, hg⟩ := atI_some h1.1 h1.2
  rw [hg] at h2
  have h2 := of_decide_eq_true h2
  obtain ⟨t, ht, htm, htg⟩ := atI_some h2.1 h2.2
  exact ⟨h1.1, h1.2, b, t, hb, hm, ht, htm, by unfold teethAt; rw [hg]; simp [htg]⟩
theorem joinB_iff {w : Works_} {m : Mesh_} : joinB w m = true ↔ m.A ≠ m.B ∧ whB w m.A m.WheelA = true ∧ whB w m.B m.WheelB = true := by
  unfold joinB; simp only [Bool.and_eq_true, decide_eq_true_eq]
theorem wksB_iff {w : Works_} : wksB w = true ↔ w.Arbors.length ≤ 16 ∧ w.Meshes.length ≤ 24 ∧ (∀ (i : Nat) (hi : i < w.Arbors.length), arbB w.Arbors[i] = true ∧ ((w.Arbors.take i).any fun b => decide (b.Name = w.Arbors[i].Name)) = false) ∧ ∀ (i : Nat) (hi : i < w.Meshes.length), joinB w w.Meshes[i] = true ∧ ((w.Meshes.take i).any fun n => sameB w.Meshes[i] n) = false := by
  unfold wksB
  simp only [Bool.and_eq_true, decide_eq_true_eq, allI_iff, Bool.not_eq_true']
theorem wks_join {w : Works_} (h : wksB w = true) : ∀ m ∈ w.Meshes, joinB w m = true := fun m hm => by
  obtain ⟨i, hi, rfl⟩ := List.getElem_of_mem hm
  exact ((wksB_iff.1 h).2.2.2 i hi).1
theorem wks_arb {w : Works_} (h : wksB w = true) : ∀ a ∈ w.Arbors, arbB a = true := fun m hm => by
  obtain ⟨i, hi, rfl⟩ := List.getElem_of_mem hm
  exact ((wksB_iff.1 h).2.2.1 i hi).1
theorem tooth_in {w : Works_} (h : wksB w = true) {a k : Int} (hw : whB w a k = true) : 6 ≤ teethAt w a k ∧ teethAt w a k ≤ 240 := by
  obtain ⟨_, _, b, t, _, hb, _, ht, e⟩ := wheel_at hw
  have hb := wks_arb h b hb
  unfold arbB at hb
  rw [Bool.and_eq_true, List.all_eq_true] at hb
  have := hb.1 t ht
  unfold toothB btw at this
  rw [e]
  exact of_decide_eq_true this
theorem i_pairOf_eq {w : Works_} {m : Mesh_} (h : joinB w m = true) : i_pairOf_m w m = some (pairM w m) := by
  obtain ⟨_, h1, h2⟩ := joinB_iff.1 h
  obtain ⟨_, _, b, t, e1, _, e2, _, e3⟩ := wheel_at h1
  obtain ⟨_, _, b', t', f1, _, f2, _, f3⟩ := wheel_at h2
  unfold i_pairOf_m pairM
  simp only [e1, e2, f1, f2, Option.bind_some, e3, f3]
theorem s_l08Pair_eq {w : Works_} {m : Mesh_} (h : joinB w m = true) : s_l08Pair_m w m = some (pairM w m) := by
  obtain ⟨_, h1, h2⟩ := joinB_iff.1 h
  obtain ⟨_, _, b, t, e1, _, e2, _, e3⟩ := wheel_at h1
  obtain ⟨_, _, b', t', f1, _, f2, _, f3⟩ := wheel_at h2
  unfold s_l08Pair_m pairM
  simp only [e1, e2, f1, f2, Option.bind_some, e3, f3]
/-- the speed of a wheel with u teeth that engages with one with t teeth -/
def meshed (v : Ratio_) (t u : Int) : Ratio_ × Bool := mulR v (mkR (-t) u).1
theorem step_val {t u : Int} (t0 : 6 ≤ t) (t1 : t ≤ 240) (u0 : 6 ≤ u) (u1 : u ≤ 240) : (mkR (-t) u).2 = true ∧ ratB (mkR (-t) u).1 = true ∧ (mkR (-t) u).1.Num ≠ 0 := by
  have h := mkR_small (n := -t) (d := u) (by omega) (by omega) (by omega) (by omega) (by omega)
  have h2 := mkR_val (n := -t) (d := u) (by omega) h
  exact ⟨h, h2.1, fun e => by have := h2.2.1 e; omega⟩
/-- a speed that is known -/
def KnR (r : Ratio_) : Prop := ratB r = true ∧ r.Num ≠ 0
theorem KnR.den {r : Ratio_} (h : KnR r) : r.Den ≠ 0 := by have := ratB_d h.1; omega
theorem meshed_val {v : Ratio_} {t u : Int} (hv : KnR v) (t0 : 6 ≤ t) (t1 : t ≤ 240) (u0 : 6 ≤ u) (u1 : u ≤ 240) (h : (meshed v t u).2 = true) : KnR (meshed v t u).1 := by
  obtain ⟨_, h2, h3⟩ := step_val t0 t1 u0 u1
  obtain ⟨h4, h5⟩ := mulR_val hv.1 h2 h
  exact ⟨h4, fun e => by
    rcases Int.mul_eq_zero.1 (h5.1 e) with h | h
    · exact hv.2 h
    · exact h3 h⟩
theorem i_meshed_eq {v : Ratio_} {t u : Int} (hv : KnR v) (t0 : 6 ≤ t) (t1 : t ≤ 240) (u0 : 6 ≤ u) (u1 : u ≤ 240) : i_meshed_m v t u = some (codeR (meshed v t u)) := by
  unfold i_meshed_m
  obtain ⟨h1, h2, h3⟩ := step_val t0 t1 u0 u1
  rw [w64_in (by omega) (by omega), i_MakeRatio_eq ⟨by omega, by omega⟩ ⟨by omega, by omega⟩, Option.bind_some]
  have e : (makeR (-t) u).1 = (mkR (-t) u).1 := by unfold makeR codeR; rw [if_neg (by omega), if_pos h1]
  rw [e, i_MulRatio_eq hv.1 h2]; rfl
def SpI (w : Works_) (sp : List Ratio_) : Prop := sp.length = w.Arbors.length ∧ ∀ r ∈ sp, r = ⟨0, 0⟩ ∨ KnR r
def getR (sp : List Ratio_) (i : Int) : Ratio_ := sp.getD i.toNat ⟨0, 0⟩
theorem getR_at {sp : List Ratio_} {i : Int} (h0 : 0 ≤ i) (h1 : i < sp.length) : atI sp i = some (getR sp i) ∧ getR sp i ∈ sp ∧ ∃ h : i.toNat < sp.length, sp[i.toNat] = getR sp i := by
  obtain ⟨e, he, hm, hg⟩ := atI_some h0 h1
  have : getR sp i = e := by unfold getR; rw [List.getD_eq_getElem?_getD, hg]; rfl
  rw [this]
  exact ⟨he, hm, (List.getElem?_eq_some_iff.1 hg)⟩
/-- what a mesh tells -/
def rstep (w : Works_) (m : Mesh_) (s : Bool × List Ratio_) : (Bool × List Ratio_) ⊕ Unit :=
  if decide ((getR s.2 m.A).Den = 0) = decide ((getR s.2 m.B).Den = 0) then .inl s
  else if (getR s.2 m.A).Den = 0 then (if (meshed (getR s.2 m.B) (pairM w m).Driven (pairM w m).Driver).2 = true then .inl (true, s.2.set m.A.toNat (meshed (getR s.2 m.B) (pairM w m).Driven (pairM w m).Driver).1) else .inr ())
  else (if (meshed (getR s.2 m.A) (pairM w m).Driver (pairM w m).Driven).2 = true then .inl (true, s.2.set m.B.toNat (meshed (getR s.2 m.A) (pairM w m).Driver (pairM w m).Driven).1) else .inr ())
def roundF (w : Works_) : List Mesh_ → Bool × List Ratio_ → (Bool × List Ratio_) ⊕ Unit
  | [], s => .inl s
  | m :: ms, s => match rstep w m s with
    | .inl s' => roundF w ms s'
    | .inr u => .inr u
def cntU (sp : List Ratio_) : Nat := sp.countP fun r => decide (r.Den = 0)
theorem SpI.den {w : Works_} {sp : List Ratio_} (h : SpI w sp) {i : Int} (h0 : 0 ≤ i) (h1 : i < w.Arbors.length) (hd : (getR sp i).Den ≠ 0) : KnR (getR sp i) := by
  obtain ⟨_, hm, _⟩ := getR_at (sp := sp) h0 (by rw [h.1]; exact h1)
  rcases h.2 _ hm with e | e
  · rw [e] at hd; exact absurd rfl hd
  · exact e
theorem SpI.set {w : Works_} {sp : List Ratio_} (h : SpI w sp) (i : Nat) {v : Ratio_} (hv : KnR v) : SpI w (sp.set i v) := by
  refine ⟨by rw [List.length_set]; exact h.1, fun r hr => ?_⟩
  rcases List.mem_or_eq_of_mem_set hr with hr | rfl
  · exact h.2 r hr
  · exact .inr hv
theorem cntU_set {sp : List Ratio_} {i : Int} (h0 : 0 ≤ i) (h1 : i < sp.length) (hd : (getR sp i).Den = 0) {v : Ratio_} (hv : v.Den ≠ 0) : cntU (sp.set i.toNat v) < cntU sp := by
  obtain ⟨_, hm, hi, e⟩ := getR_at h0 h1
  unfold cntU
  have hp : 0 < sp.countP fun r => decide (r.Den = 0) := List.countP_pos_iff.2 ⟨_, hm, decide_eq_true hd⟩
  rw [List.countP_set hi]
  rw [e, decide_eq_true hd, decide_eq_false hv]
  simp
  omega
theorem rstep_ok {w : Works_} (hw : wksB w = true) {m : Mesh_} (hm : joinB w m = true) {s s' : Bool × List Ratio_} (h : SpI w s.2) (e : rstep w m s = .inl s') : SpI w s'.2 ∧ (s' = s ∨ (s'.1 = true ∧ cntU s'.2 < cntU s.2)) := by
  obtain ⟨_, j1, j2⟩ := joinB_iff.1 hm
  have a := wheel_at j1
  have b := wheel_at j2
  have ta := tooth_in hw j1
  have tb := tooth_in hw j2
  unfold rstep at e
  split at e
  · injection e with e; subst e; exact ⟨h, .inl rfl⟩
  · rename_i hne
    split at e
    · rename_i hA
      have hB : (getR s.2 m.B).Den ≠ 0 := fun hB => hne (by rw [decide_eq_true hA, decide_eq_true hB])
      split at e
      · rename_i hv
        injection e with e; subst e
        have k := meshed_val (h.den b.1 b.2.1 hB) (t := (pairM w m).Driven) (u := (pairM w m).Driver) tb.1 tb.2 ta.1 ta.2 hv
        exact ⟨h.set _ k, .inr ⟨rfl, cntU_set a.1 (by rw [h.1]; exact a.2.1) hA k.den⟩⟩
      · cases e
    · rename_i hA
      have hB : (getR s.2 m.B).Den = 0 := Classical.byContradiction fun hB => hne (by rw [decide_eq_false hA, decide_eq_false hB])
      split at e
      · rename_i hv
        injection e with e; subst e
        have k := meshed_val (h.den a.1 a.2.1 hA) (t := (pairM w m).Driver) (u := (pairM w m).Driven) ta.1 ta.2 tb.1 tb.2 hv
        exact ⟨h.set _ k, .inr ⟨rfl, cntU_set b.1 (by rw [h.1]; exact b.2.1) hB k.den⟩⟩
      · cases e
theorem roundF_ok {w : Works_} (hw : wksB w = true) : ∀ {ms : List Mesh_} (hm : ∀ m ∈ ms, joinB w m = true) {s s' : Bool × List Ratio_} (h : SpI w s.2) (e : roundF w ms s = .inl s'), SpI w s'.2 ∧ cntU s'.2 ≤ cntU s.2 ∧ (s'.1 = true → s.1 = true ∨ cntU s'.2 < cntU s.2)
  | [], hm, s, s', h, e => by
    injection e with e; subst e
    exact ⟨h, Nat.le_refl _, fun h => .inl h⟩
  | m :: ms, hm, s, s', h, e => by
    unfold roundF at e
    cases e1 : rstep w m s with
    | inr u => rw [e1] at e; cases e
    | inl s1 =>
      rw [e1] at e
      obtain ⟨h1, h2⟩ := rstep_ok hw (hm m (List.mem_cons_self ..)) h e1
      obtain ⟨h3, h4, h5⟩ := roundF_ok hw (fun m hm' => hm m (List.mem_cons_of_mem _ hm')) h1 e
      refine ⟨h3, ?_, fun ht => ?_⟩
      · rcases h2 with rfl | h2 <;> omega
      · rcases h2 with rfl | h2
        · exact h5 ht
        · right; omega
theorem forL_round {w : Works_} {X : Type} {g : Unit → X} {body : Nat → Mesh_ → Bool × List Ratio_ → Option ((Bool × List Ratio_) ⊕ X)} (hb : ∀ i m s, body i m s = some (Sum.map id g (rstep w m s))) : ∀ (ms : List Mesh_) (k : Nat) (s : Bool × List Ratio_), forL body ms k s = some (Sum.map id g (roundF w ms s))
  | [], k, s => rfl
  | m :: ms, k, s => by
    show (body k m s).bind _ = _
    rw [hb, Option.bind_some]
    unfold roundF
    cases rstep w m s with
    | inr u => rfl
    | inl s1 => exact forL_round hb ms (k + 1) s1
/-- the speeds, as far as they spread -/
def spread (w : Works_) : Nat → List Ratio_ → List Ratio_ ⊕ Unit
  | 0, sp => .inl sp
  | n + 1, sp => match roundF w w.Meshes (false, sp) with
    | .inr u => .inr u
    | .inl (true, sp') => spread w n sp'
    | .inl (false, sp') => .inl sp'
theorem spread_same {w : Works_} (hw : wksB w = true) : ∀ {n m : Nat} {sp : List Ratio_}, SpI w sp → cntU sp < n → cntU sp < m → spread w n sp = spread w m sp
  | 0, _, _, _, h, _ => by omega
  | _ + 1, 0, _, _, _, h => by omega
  | n + 1, m + 1, sp, hs, h1, h2 => by
    unfold spread
    cases e : roundF w w.Meshes (false, sp) with
    | inr u => rfl
    | inl s =>
      obtain ⟨b, sp'⟩ := s
      cases b with
      | false => rfl
      | true =>
        obtain ⟨h3, _, h5⟩ := roundF_ok hw (wks_join hw) (s := (false, sp)) hs e
        have h6 : cntU sp' < cntU sp := by
          rcases h5 rfl with h | h
          · cases h
          · exact h
        exact spread_same hw h3 (by omega) (by omega)
def spreadS (w : Works_) (s : Bool × List Ratio_) : List Ratio_ ⊕ Unit := if s.1 = true then spread w (cntU s.2 + 1) s.2 else .inl s.2
/-- a loop that goes round as long as speeds are found -/
theorem rounds_ok {w : Works_} (hw : wksB w = true) {S X : Type} {step : S → Option (S ⊕ X)} (mk : Bool × List Ratio_ → S) (un : S → Bool × List Ratio_) (hun : ∀ s, un (mk s) = s) (good : List Ratio_ → X) (bad : List Ratio_ → X)
    (hbad : ∀ x y, bad x = bad y)
    (hT : ∀ sp, SpI w sp → step (mk (true, sp)) = some (match roundF w w.Meshes (false, sp) with
      | .inr _ => .inr (bad sp)
      | .inl s' => .inl (mk s'))) (hF : ∀ sp, SpI w sp → step (mk (false, sp)) = some (.inr (good sp))) (sp : List Ratio_) (h : SpI w sp) :
    loopM step (mk (true, sp)) = some (match spread w (cntU sp + 1) sp with
      | .inl sp' => good sp'
      | .inr _ => bad sp) := by
  refine loopM_eq (fun s => ∃ t : Bool × List Ratio_, s = mk t ∧ SpI w t.2 ∧ spreadS w t = spread w (cntU sp + 1) sp) (fun s => 2 * cntU (un s).2 + if (un s).1 = true then 1 else 0) (fun s hI => ?_) ⟨(true, sp), rfl, h, rfl⟩ ?_
  · obtain ⟨⟨b, q⟩, rfl, hq, e⟩ := hI
    cases b with
    | false =>
      right
      rw [hF q hq]
      have e : Sum.inl q = spread w (cntU sp + 1) sp := e
      rw [← e]
    | true =>
      rw [hT q hq]
      have e : spread w (cntU q + 1) q = spread w (cntU sp + 1) sp := e
      unfold spread at e
      cases er : roundF w w.Meshes (false, q) with
      | inr u =>
        right
        rw [er] at e
        have e : Sum.inr u = spread w (cntU sp + 1) sp := by unfold spread; exact e
        rw [← e]
        simp only [hbad q sp]
      | inl s' =>
        left
        obtain ⟨h3, h4, h5⟩ := roundF_ok hw (wks_join hw) (s := (false, q)) hq er
        refine ⟨_, rfl, ⟨s', rfl, h3, ?_⟩, ?_⟩
        · rw [er] at e
          obtain ⟨b, q'⟩ := s'
          cases b with
          | false => unfold spread; exact e
          | true =>
            have h6 : cntU q' < cntU q := by
              rcases h5 rfl with h | h
              · cases h
              · exact h
            have e : spread w (cntU q) q' = spread w (cntU sp + 1) sp := e.trans (by rw [spread])
            rw [← e]
            exact spread_same hw h3 (by show cntU q' < cntU q' + 1; omega) h6
        · simp only [hun]
          obtain ⟨b, q'⟩ := s'
          cases b with
          | false => dsimp only at h4 ⊢; simp; omega
          | true =>
            have h6 : cntU q' < cntU q := by
              rcases h5 rfl with h | h
              · cases h
              · exact h
            simp; omega
  · simp only [hun]
    have : cntU sp ≤ sp.length := List.countP_le_length
    have h1 := h.1
    have h2 := (wksB_iff.1 hw).1
    simp; omega
/-- whether a mesh fits -/
def fitB (w : Works_) (sp : List Ratio_) (m : Mesh_) : Bool := (meshed (getR sp m.A) (pairM w m).Driver (pairM w m).Driven).2 && decide ((meshed (getR sp m.A) (pairM w m).Driver (pairM w m).Driven).1 = getR sp m.B)
def start (w : Works_) (root : Int) : List Ratio_ := (List.replicate w.Arbors.length (⟨0, 0⟩ : Ratio_)).set root.toNat ⟨1, 1⟩
/-- the speeds of valid works -/
def speedsR (w : Works_) (root : Int) : List Ratio_ × Int :=
  if inArb w root = true then (match spread w (cntU (start w root) + 1) (start w root) with
    | .inr _ => ([], 2)
    | .inl sp => if sp.any (fun r => decide (r.Den = 0)) = true then ([], 6) else if w.Meshes.all (fitB w sp) = true then (sp, 0) else ([], 10))
  else ([], 2)
theorem start_ok {w : Works_} (root : Int) : SpI w (start w root) := by
  refine SpI.set ⟨by simp, fun r hr => .inl (List.eq_of_mem_replicate hr)⟩ _ ⟨by decide, by decide⟩
theorem spread_ok {w : Works_} (hw : wksB w = true) : ∀ {n : Nat} {sp sp' : List Ratio_}, SpI w sp → spread w n sp = .inl sp' → SpI w sp'
  | 0, _, _, h, e => by injection e with e; subst e; exact h
  | n + 1, sp, sp', h, e => by
    unfold spread at e
    cases er : roundF w w.Meshes (false, sp) with
    | inr u => rw [er] at e; cases e
    | inl s =>
      rw [er] at e
      obtain ⟨h3, _, _⟩ := roundF_ok hw (wks_join hw) (s := (false, sp)) h er
      obtain ⟨b, q⟩ := s
      cases b with
      | false => injection e with e; subst e; exact h3
      | true => exact spread_ok hw h3 e
theorem speedsR_ok {w : Works_} (hw : wksB w = true) {root : Int} (h : (speedsR w root).2 = 0) : (speedsR w root).1.length = w.Arbors.length ∧ ∀ r ∈ (speedsR w root).1, KnR r := by
  unfold speedsR at h ⊢
  split
  · rename_i hr
    rw [if_pos hr] at h
    cases e : spread w (cntU (start w root) + 1) (start w root) with
    | inr u => rw [e] at h; cases h
    | inl sp =>
      rw [e] at h
      have hs := spread_ok hw (start_ok root) e
      dsimp only at h ⊢
      split
      · rename_i hn; rw [if_pos hn] at h; cases h
      · rename_i hn
        rw [if_neg hn] at h
        split
        · refine ⟨hs.1, fun r hr => ?_⟩
          rcases hs.2 r hr with rfl | h
          · exact absurd (List.any_eq_true.2 ⟨_, hr, decide_eq_true rfl⟩) hn
          · exact h
        · rename_i hf; rw [if_neg hf] at h; cases h
  · rename_i hr; rw [if_neg hr] at h; cases h
end Go.Proofs.YtjhadibjjldpdaaGreat
