/- Plain laws, Sh: spread holes and exact divisions. No program. -/
import Derived.Test.YtkgeenglafchhaaPDv
namespace Go.Proofs.Ytkgeenglafchhaa
set_option linter.unusedVariables false
def hole (d : Divider_) (c n : Int) (k : Nat) : Int := near ((k : Int) * d.Worm * c) n
def spreadR (d : Divider_) (c n : Int) : List Int × Int := if divB d = true then (if (btw n 1 2000 && hasB d.Circles c) = true then ((List.range n.toNat).map (hole d c n), 0) else ([], 2)) else ([], 1)
theorem hole_in {d : Divider_} {c : Int} (hd : divB d = true) (hc : hasB d.Circles c = true) {k : Nat} (hk : (k : Int) ≤ 2000) : w64 (w64 ((k : Int) * d.Worm) * c) = (k : Int) * d.Worm * c ∧ 0 ≤ (k : Int) * d.Worm * c ∧ (k : Int) * d.Worm * c ≤ 144000000 := by
  have h1 := divB_iff hd
  have h2 := has_in hd hc
  have p1 := prod_in (a := (k : Int)) (b := d.Worm) (A := 2000) (B := 360) (by omega) hk (by omega) h1.1.2
  have p2 := prod_in (a := (k : Int) * d.Worm) (b := c) (A := 720000) (B := 200) p1.1 p1.2 (by omega) h2.2
  refine ⟨?_, p2⟩
  rw [w64_in (x := (k : Int) * d.Worm) (by omega) (by omega), w64_in (by omega) (by omega)]
theorem spread_loop {d : Divider_} {c n : Int} (hd : divB d = true) (hc : hasB d.Circles c = true) (hn : btw n 1 2000 = true) {f : Int → Int → Option Int} (hf : ∀ x, 0 ≤ x → x ≤ 144000000 → f x n = some (near x n)) :
    loopM (S := Int × List Int) (X := List Int) (fun s8 => (if s8.1 < n then ((f (w64 ((w64 (s8.1 * d.Worm)) * c)) n).bind fun v9 => (chk ((s8.2.length + [v9].length) * 1 * 64 ≤ 140737488355328) (some (.inl (w64 (s8.1 + 1), s8.2 ++ [v9]))))) else some (.inr s8.2))) (0, ([] : List Int)) = some ((List.range n.toNat).map (hole d c n)) := by
  have hn := of_decide_eq_true hn
  have := countI (step := fun (s8 : Int × List Int) => (if s8.1 < n then ((f (w64 ((w64 (s8.1 * d.Worm)) * c)) n).bind fun v9 => (chk ((s8.2.length + [v9].length) * 1 * 64 ≤ 140737488355328) (some (.inl (w64 (s8.1 + 1), s8.2 ++ [v9]))))) else some (.inr s8.2))) (fun i (s : List Int) => (i, s)) 0 n.toNat (fun k s => s ++ [hole d c n k]) id (fun i s => s.length = i) (by omega) (fun i s hi hs => by
    have hh := hole_in hd hc (k := i) (by omega)
    have hi' : (i : Int) < n := by omega
    have e1 : w64 ((i : Int) + 1) = ((i + 1 : Nat) : Int) := by rw [w64_in (by omega) (by omega)]; omega
    simp only [Int.zero_add, if_pos hi', hh.1, hf _ hh.2.1 hh.2.2, Option.bind_some]
    rw [chk_t (by simp [hs]; omega), e1]; rfl) (fun i s hi hs => by simp [hs]) (fun s hs => by
    have : ¬ ((0 : Int) + (n.toNat : Int) < n) := by omega
    simp only [if_neg this]; rfl) [] rfl
  rw [this, foldl_snoc]; rfl
theorem i_SpreadHoles_eq {d : Divider_} {c n : Int} (hl : d.Circles.length ≤ 9223372036854775807) : i_SpreadHoles_m d c n = some (spreadR d c n) := by
  unfold i_SpreadHoles_m spreadR
  simp only [i_ValidDivider_eq hl, i_isDivision_m, i_within_eq, i_has_eq _ hl, Option.bind_some, itO]
  cases hd : divB d
  · rfl
  · cases hn : btw n 1 2000
    · rfl
    · cases hc : hasB d.Circles c
      · rfl
      · have hq := of_decide_eq_true hn
        simp only [Bool.not_true, Bool.or_self, Bool.false_eq_true, if_false, Bool.and_self, if_true]
        rw [spread_loop hd hc hn fun x h0 h1 => i_nearestDiv_eq hq.1 (by omega) (by omega) (by omega)]; rfl
def codeD (d : Divider_) (n : Int) : Int := if divB d = true then (if btw n 1 2000 = true then 0 else 2) else 1
theorem s_l24Code_eq {d : Divider_} {n : Int} (hl : d.Circles.length ≤ 9223372036854775807) : s_l24Code_m d n = some (codeD d n) := by
  unfold s_l24Code_m codeD
  simp only [s_l24Ok_eq hl, s_l00In_eq, Option.bind_some]
  cases divB d <;> cases btw n 1 2000 <;> rfl
theorem s_SpreadHoles_eq {d : Divider_} {c n : Int} (hl : d.Circles.length ≤ 9223372036854775807) : s_SpreadHoles_m d c n = some (spreadR d c n) := by
  unfold s_SpreadHoles_m spreadR
  simp only [s_l24Code_eq hl, s_l00Has_eq _ hl, Option.bind_some]
  unfold codeD
  cases hd : divB d
  · rfl
  · cases hn : btw n 1 2000
    · rfl
    · cases hc : hasB d.Circles c
      · rfl
      · have hq := of_decide_eq_true hn
        have := spread_loop (f := s_l02Near_m) hd hc hn fun x h0 h1 => s_l02Near_eq hq.1 (by omega) (by omega) (by omega)
        simp only [if_true, Option.bind_some, Bool.not_true, Bool.false_eq_true, if_false, ne_eq, not_true_eq_false, Bool.and_self]
        rw [this]; rfl
def fitC (d : Divider_) (n c : Int) : Bool := decide (d.Worm * c % n = 0)
def motX (s c : Int) : Index_ := ⟨s / c, s % c, c⟩
def exactX (d : Divider_) (n : Int) : Index_ × Bool := (((d.Circles.find? (fitC d n)).map fun c => (motX (d.Worm * c / n) c, true))).getD (⟨0, 0, 0⟩, false)
theorem wc_in {d : Divider_} (hd : divB d = true) {c n : Int} (hc : c ∈ d.Circles) (hn : 1 ≤ n) : w64 (d.Worm * c) = d.Worm * c ∧ 0 ≤ d.Worm * c ∧ d.Worm * c ≤ 72000 ∧ 2 ≤ c ∧ c ≤ 200 ∧ w64 ((d.Worm * c).tdiv n) = d.Worm * c / n ∧ 0 ≤ d.Worm * c / n ∧ d.Worm * c / n ≤ 72000 ∧ (d.Worm * c).tmod n = d.Worm * c % n := by
  have h1 := divB_iff hd
  have h2 := h1.2.2 c hc
  have p2 := prod_in (a := d.Worm) (b := c) (A := 360) (B := 200) (by omega) h1.1.2 (by omega) h2.2
  have q := quo_bd (a := d.Worm * c) (g := n) p2.1 (by omega)
  refine ⟨w64_in (by omega) (by omega), p2.1, p2.2, h2.1, h2.2, ?_, q.1, by omega, Int.tmod_eq_emod_of_nonneg p2.1⟩
  rw [Int.tdiv_eq_ediv_of_nonneg p2.1, w64_in (by omega) (by omega)]
theorem mot_eq {s c : Int} (s0 : 0 ≤ s) (s1 : s ≤ 72000) (c0 : 2 ≤ c) : (⟨w64 (s.tdiv c), s.tmod c, c⟩ : Index_) = motX s c := by
  have q := quo_bd (a := s) (g := c) s0 (by omega)
  unfold motX
  rw [Int.tdiv_eq_ediv_of_nonneg s0, w64_in (by omega) (by omega), Int.tmod_eq_emod_of_nonneg s0]
theorem i_exactIndex_eq {d : Divider_} {n : Int} (hd : divB d = true) (hn : 1 ≤ n) : i_exactIndex_m d n = some (exactX d n) := by
  have hl := (divB_iff hd).2.1.2
  unfold i_exactIndex_m exactX
  rw [firstG (fitC d n) (fun c => (motX (d.Worm * c / n) c, true)) (⟨0, 0, 0⟩, false) (by omega) fun i hi => ?_]
  obtain ⟨e1, e2, e3, e4, e5, e6, e7, e8, e9⟩ := wc_in hd (List.getElem_mem hi) hn
  rw [atI_lt hi, Option.bind_some, chk_t (by omega), e1, e9, e6]
  unfold fitC
  by_cases q : d.Worm * d.Circles[i] % n = 0
  · rw [if_pos q, decide_eq_true q, if_pos rfl, chk_t (by omega)]
    unfold i_motionOf_m
    rw [chk_t (by omega), chk_t (by omega), mot_eq e7 e8 e4]; rfl
  · rw [if_neg q, decide_eq_false q]; rfl
theorem s_l24Exact_eq {d : Divider_} {n : Int} (hd : divB d = true) (hn : 1 ≤ n) : s_l24Exact_m d n = some (exactX d n) := by
  have hl := (divB_iff hd).2.1.2
  unfold s_l24Exact_m exactX
  rw [firstG (fitC d n) (fun c => (motX (d.Worm * c / n) c, true)) (⟨0, 0, 0⟩, false) (by omega) fun i hi => ?_]
  obtain ⟨e1, e2, e3, e4, e5, e6, e7, e8, e9⟩ := wc_in hd (List.getElem_mem hi) hn
  simp only [atI_lt hi, Option.bind_some]
  rw [chk_t (by omega), e1, e9, e6]
  unfold fitC
  by_cases q : d.Worm * d.Circles[i] % n = 0
  · rw [if_pos q, decide_eq_true q, if_pos rfl, chk_t (by omega)]
    unfold s_l24Make_m
    rw [chk_t (by omega), chk_t (by omega), mot_eq e7 e8 e4]; rfl
  · rw [if_neg q, decide_eq_false q]; rfl
def divsR (d : Divider_) (most : Int) : List Int × Int := if divB d = true then (if btw most 1 2000 = true then (((List.range most.toNat).filter fun (i : Nat) => (exactX d (1 + (i : Int))).2).map fun (i : Nat) => 1 + (i : Int), 0) else ([], 2)) else ([], 1)
theorem divs_loop {d : Divider_} {n : Int} (hd : divB d = true) (hn : btw n 1 2000 = true) {f : Divider_ → Int → Option (Index_ × Bool)} (hf : ∀ k, 1 ≤ k → f d k = some (exactX d k)) :
    loopM (S := Int × List Int) (X := List Int) (fun s7 => (if s7.1 ≤ n then ((((f d s7.1).bind fun v8 => (if v8.2 = true then (chk ((s7.2.length + [s7.1].length) * 1 * 64 ≤ 140737488355328) (some (s7.2 ++ [s7.1]))) else some s7.2)) : Option (List Int)).bind fun v10 => some (.inl (w64 (s7.1 + 1), v10))) else some (.inr s7.2))) (1, ([] : List Int)) = some (((List.range n.toNat).filter fun (i : Nat) => (exactX d (1 + (i : Int))).2).map fun (i : Nat) => 1 + (i : Int)) := by
  have hn := of_decide_eq_true hn
  have := countI (step := fun (s7 : Int × List Int) => (if s7.1 ≤ n then ((((f d s7.1).bind fun v8 => (if v8.2 = true then (chk ((s7.2.length + [s7.1].length) * 1 * 64 ≤ 140737488355328) (some (s7.2 ++ [s7.1]))) else some s7.2)) : Option (List Int)).bind fun v10 => some (.inl (w64 (s7.1 + 1), v10))) else some (.inr s7.2))) (fun i (s : List Int) => (i, s)) 1 n.toNat (fun (k : Nat) s => if (exactX d (1 + (k : Int))).2 = true then s ++ [1 + (k : Int)] else s) id (fun i s => s.length ≤ i) (by omega) (fun i s hi hs => by
    have hi' : 1 + (i : Int) ≤ n := by omega
    have e1 : w64 (1 + (i : Int) + 1) = 1 + ((i + 1 : Nat) : Int) := by rw [w64_in (by omega) (by omega)]; omega
    simp only [if_pos hi', hf _ (show 1 ≤ 1 + (i : Int) by omega), Option.bind_some, e1]
    cases (exactX d (1 + (i : Int))).2
    · rfl
    · simp only [if_true]
      rw [chk_t (by simp; omega)]; rfl) (fun i s hi hs => by
    split
    · rw [List.length_append, List.length_singleton]; omega
    · omega) (fun s hs => by
    have : ¬ (1 + (n.toNat : Int) ≤ n) := by omega
    simp only [if_neg this]; rfl) [] (by simp)
  rw [this, foldl_filter]; rfl
theorem i_ExactDivisions_eq {d : Divider_} {n : Int} (hl : d.Circles.length ≤ 9223372036854775807) : i_ExactDivisions_m d n = some (divsR d n) := by
  unfold i_ExactDivisions_m divsR
  simp only [i_ValidDivider_eq hl, i_isDivision_m, i_within_eq, Option.bind_some]
  cases hd : divB d
  · rfl
  · cases hn : btw n 1 2000
    · rfl
    · simp only [Bool.not_true, Bool.false_eq_true, if_false, if_true]
      rw [divs_loop hd hn fun k hk => i_exactIndex_eq hd hk]; rfl
theorem s_ExactDivisions_eq {d : Divider_} {n : Int} (hl : d.Circles.length ≤ 9223372036854775807) : s_ExactDivisions_m d n = some (divsR d n) := by
  unfold s_ExactDivisions_m divsR
  rw [s_l24Code_eq hl, Option.bind_some]
  unfold codeD
  cases hd : divB d
  · rfl
  · cases hn : btw n 1 2000
    · rfl
    · simp only [if_true, ne_eq, not_true_eq_false, if_false]
      rw [divs_loop hd hn fun k hk => s_l24Exact_eq hd hk]; rfl
def exactR (d : Divider_) (n : Int) : Index_ × Int := if divB d = true then (if btw n 1 2000 = true then (if (exactX d n).2 = true then ((exactX d n).1, 0) else (⟨0, 0, 0⟩, 3)) else (⟨0, 0, 0⟩, 2)) else (⟨0, 0, 0⟩, 1)
theorem i_ExactIndex_eq {d : Divider_} {n : Int} (hl : d.Circles.length ≤ 9223372036854775807) : i_ExactIndex_m d n = some (exactR d n) := by
  unfold i_ExactIndex_m exactR
  simp only [i_ValidDivider_eq hl, i_isDivision_m, i_within_eq, Option.bind_some]
  cases hd : divB d
  · rfl
  · cases hn : btw n 1 2000
    · rfl
    · have hq := of_decide_eq_true hn
      simp only [Bool.not_true, Bool.false_eq_true, if_false, if_true]
      rw [i_exactIndex_eq hd hq.1, Option.bind_some]
      cases (exactX d n).2 <;> rfl
theorem divs_has {d : Divider_} {most m : Int} (hd : divB d = true) (hb : btw most 1 2000 = true) (h0 : 1 ≤ m) (h1 : m ≤ most) : hasB (divsR d most).1 m = decide ((exactR d m).2 = 0) := by
  have hq := of_decide_eq_true hb
  unfold divsR exactR hasB
  have hm : btw m 1 2000 = true := decide_eq_true ⟨h0, by omega⟩
  rw [if_pos hd, if_pos hb, if_pos hd, if_pos hm]
  have : (exactX d m).2 = true ↔ ((((List.range most.toNat).filter fun (i : Nat) => (exactX d (1 + (i : Int))).2).map fun (i : Nat) => 1 + (i : Int)).any fun v => decide (v = m)) = true := by
    rw [List.any_eq_true]
    constructor
    · intro h
      refine ⟨m, List.mem_map.2 ⟨(m - 1).toNat, List.mem_filter.2 ⟨List.mem_range.2 (by omega), ?_⟩, by omega⟩, decide_eq_true rfl⟩
      have : 1 + (((m - 1).toNat : Nat) : Int) = m := by omega
      rw [this]; exact h
    · rintro ⟨v, hv, e⟩
      have e := of_decide_eq_true e
      subst e
      obtain ⟨i, hi, rfl⟩ := List.mem_map.1 hv
      exact (List.mem_filter.1 hi).2
  cases h : (exactX d m).2
  · have h2 : ((((List.range most.toNat).filter fun (i : Nat) => (exactX d (1 + (i : Int))).2).map fun (i : Nat) => 1 + (i : Int)).any fun v => decide (v = m)) = false := by
      rw [← Bool.not_eq_true, ← this, h]; decide
    rw [h2]; rfl
  · rw [this.1 h]; rfl
/-- neighbouring holes -/
theorem near_next {W n : Int} (k : Nat) (hW : 0 ≤ W) (hn : 1 ≤ n) : W / n ≤ near (((k : Int) + 1) * W) n - near ((k : Int) * W) n ∧ near (((k : Int) + 1) * W) n - near ((k : Int) * W) n ≤ W / n + 1 ∧ (W % n = 0 → near (((k : Int) + 1) * W) n - near ((k : Int) * W) n = W / n) := by
  unfold near
  have h1 := Int.emod_add_mul_ediv W n
  have h2 := Int.emod_nonneg W (show n ≠ 0 by omega)
  have h3 := Int.emod_lt_of_pos W (show 0 < n by omega)
  generalize W / n = q at *
  generalize W % n = r at *
  have e1 : 2 * (((k : Int) + 1) * W) + n = (2 * ((k : Int) * W) + n + 2 * r) + (2 * n) * q := by
    rw [← h1]
    grind
  rw [e1, Int.add_mul_ediv_left _ _ (by omega)]
  generalize 2 * ((k : Int) * W) + n = x
  have h4 := Int.emod_add_mul_ediv x (2 * n)
  have h5 := Int.emod_nonneg x (show 2 * n ≠ 0 by omega)
  have h6 := Int.emod_lt_of_pos x (show 0 < 2 * n by omega)
  have e2 : (x + 2 * r) / (2 * n) = x / (2 * n) + (x % (2 * n) + 2 * r) / (2 * n) := by
    have : x + 2 * r = (x % (2 * n) + 2 * r) + (2 * n) * (x / (2 * n)) := by omega
    rw [this, Int.add_mul_ediv_left _ _ (by omega)]
    have e3 : (x % (2 * n) + 2 * r + 2 * n * (x / (2 * n))) = x + 2 * r := by omega
    omega
  have h7 : 0 ≤ (x % (2 * n) + 2 * r) / (2 * n) ∧ (x % (2 * n) + 2 * r) / (2 * n) ≤ 1 := by
    refine ⟨Int.ediv_nonneg (by omega) (by omega), ?_⟩
    have : (x % (2 * n) + 2 * r) / (2 * n) < 2 := Int.ediv_lt_of_lt_mul (by omega) (by omega)
    omega
  refine ⟨by omega, by omega, fun h => ?_⟩
  subst h
  have : (x % (2 * n) + 2 * 0) / (2 * n) = 0 := Int.ediv_eq_zero_of_lt (by omega) (by omega)
  omega
theorem near_end {W n : Int} (hn : 1 ≤ n) : near (n * W) n = W ∧ near (0 * W) n = 0 := by
  unfold near
  constructor
  · have : 2 * (n * W) + n = n + (2 * n) * W := by grind
    rw [this, Int.add_mul_ediv_left _ _ (by omega)]
    have : n / (2 * n) = 0 := Int.ediv_eq_zero_of_lt (by omega) (by omega)
    omega
  · have : 2 * (0 * W) + n = n := by omega
    rw [this]
    exact Int.ediv_eq_zero_of_lt (by omega) (by omega)
end Go.Proofs.Ytkgeenglafchhaa
