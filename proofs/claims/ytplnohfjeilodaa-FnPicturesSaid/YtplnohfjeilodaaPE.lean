/- Plain laws, E: what drawn gears, dials and plates keep. No program. -/
import Derived.Test.YtplnohfjeilodaaPGa
import Derived.Test.YtplnohfjeilodaaPP
import Derived.Test.YtplnohfjeilodaaPL
namespace Go.Proofs.Ytplnohfjeilodaa
set_option linter.unusedVariables false
theorem near_le {n d r : Int} (hd : 1 ≤ d) (hn : 0 ≤ n) (h : n ≤ r * d) : 0 ≤ near n d ∧ near n d ≤ r := by
  unfold near
  refine ⟨Int.ediv_nonneg (by omega) (by omega), ?_⟩
  have : (2 * n + d) / (2 * d) < r + 1 := (Int.ediv_lt_iff_lt_mul (by omega)).2 (by
    have e : (r + 1) * (2 * d) = 2 * (r * d) + 2 * d := by grind
    rw [e]; omega)
  omega
theorem sinB_bd {r k n : Int} (r0 : 0 ≤ r) (n0 : 1 ≤ n) (k0 : 0 ≤ k) (k1 : 2 * k ≤ n) : 0 ≤ sinB r k n ∧ sinB r k n ≤ r := by
  unfold sinB
  have hp : 0 ≤ 2 * k * (n - 2 * k) := Int.mul_nonneg (by omega) (by omega)
  have hn1 : 1 * 1 ≤ n * n := Int.mul_le_mul n0 n0 (by omega) (by omega)
  have hsq : 0 ≤ (n - 4 * k) * (n - 4 * k) := by
    rcases Int.le_total 0 (n - 4 * k) with h | h
    · exact Int.mul_nonneg h h
    · exact Int.mul_nonneg_of_nonpos_of_nonpos h h
  have e : 4 * (2 * k * (n - 2 * k)) = n * n - (n - 4 * k) * (n - 4 * k) := by grind
  have e5 : 5 * n * n = 5 * (n * n) := by grind
  generalize 2 * k * (n - 2 * k) = X at *
  rw [e5]
  refine near_le (by omega) (by rw [Int.mul_assoc]; exact Int.mul_nonneg r0 (by omega)) ?_
  rw [Int.mul_assoc]
  exact Int.mul_le_mul_of_nonneg_left (by omega) r0
theorem sinV_bd {r k n : Int} (r0 : 0 ≤ r) (n0 : 1 ≤ n) (k0 : 0 ≤ k) (k1 : k ≤ n) : -r ≤ sinV r k n ∧ sinV r k n ≤ r := by
  unfold sinV
  split
  · have := sinB_bd (r := r) (k := 2 * k - n) (n := 2 * n) r0 (by omega) (by omega) (by omega); omega
  · have := sinB_bd (r := r) (k := k) (n := n) r0 (by omega) (by omega) (by omega); omega
theorem rspot_in {r k n : Int} (r0 : 0 ≤ r) (r1 : r ≤ 100000) (n0 : 1 ≤ n) (k0 : 0 ≤ k) (k1 : k ≤ n) : spB (rspot r k n) = true := by
  have a := sinV_bd r0 n0 k0 k1
  have m1 := Int.emod_nonneg (4 * k + n) (show 4 * n ≠ 0 by omega)
  have m2 := Int.emod_lt_of_pos (4 * k + n) (show 0 < 4 * n by omega)
  have b := sinV_bd (r := r) (k := (4 * k + n) % (4 * n)) (n := 4 * n) r0 (by omega) m1 (by omega)
  unfold spB rspot btw
  simp only [Bool.and_eq_true, decide_eq_true_eq]
  omega
/-! gears -/
theorem gsp_in {o r n k : Int} (o0 : 1 ≤ o) (o1 : o ≤ 100000) (r0 : 1 ≤ r) (r1 : r ≤ 100000) (n0 : 1 ≤ n) : spB (gsp o r n k) = true := by
  have m1 := Int.emod_nonneg k (show n ≠ 0 by omega)
  have m2 := Int.emod_lt_of_pos k (show 0 < n by omega)
  exact rspot_in (by split <;> omega) (by split <;> omega) n0 m1 (by omega)
theorem gear_in {p : Profile_} {d : Int × Int × Int × Int} (h : (gearR p d).2 = 0) : ∃ o r, 1 ≤ o ∧ o ≤ 100000 ∧ 1 ≤ r ∧ r ≤ 100000 ∧ 6 ≤ p.Teeth ∧ p.Teeth ≤ 240 ∧ gearR p d = (⟨(List.range (4 * p.Teeth).toNat).map (gln o r (4 * p.Teeth))⟩, 0) := by
  unfold gearR at h ⊢
  split at h
  · rename_i hp
    have := proB_lim hp
    split at h
    · rename_i hb
      rw [btw_iff, btw_iff] at hb
      refine ⟨_, _, hb.2.1, hb.2.2, hb.1.1, hb.1.2, this.1, this.2.1, ?_⟩
      rw [if_pos hp, if_pos (by rw [btw_iff, btw_iff]; exact hb)]
    · simp at h
  · simp at h
theorem gear_ok {o r T : Int} (o0 : 1 ≤ o) (o1 : o ≤ 100000) (r0 : 1 ≤ r) (r1 : r ≤ 100000) (t0 : 6 ≤ T) (t1 : T ≤ 240) : drB ⟨(List.range (4 * T).toNat).map (gln o r (4 * T))⟩ = true := by
  unfold drB
  rw [Bool.and_eq_true, List.all_eq_true]
  refine ⟨by simp; omega, fun s hs => ?_⟩
  obtain ⟨i, _, rfl⟩ := List.mem_map.1 hs
  simp [shB, gln, gsp_in o0 o1 r0 r1 (show 1 ≤ 4 * T by omega)]
theorem gear_closed {o r T : Int} (t0 : 6 ≤ T) (i : Int) : gsp o r (4 * T) ((i + 1) % (4 * T)) = gsp o r (4 * T) (i + 1) := by
  unfold gsp
  by_cases h : 0 ≤ i + 1
  · rw [mod4 (by omega) h, Int.emod_emod]
  · rw [Int.emod_emod, Int.emod_emod_of_dvd _ ⟨T, rfl⟩]
/-! dials -/
def ray (r n : Int) (k : Nat) : Shape_ := ⟨1, rspot (r * 9 / 10) k n, rspot r k n, 0, ⟨#[]⟩⟩
def dialR (r n : Int) : Drawing_ × Int := if btw r 10 100000 = true ∧ btw n 1 240 = true then (⟨⟨2, ⟨0, 0⟩, ⟨0, 0⟩, r, ⟨#[]⟩⟩ :: (List.range n.toNat).map (ray r n)⟩, 0) else (⟨[]⟩, 2)
theorem flat1' {α β : Type} (f : α → β) (xs : List α) : (xs.flatMap fun v => [f v]) = xs.map f := by induction xs <;> simp_all
theorem s_dial_eq (r n : Int) : s_DialDrawing_m r n = some (dialR r n) := by
  unfold s_DialDrawing_m dialR
  simp only [s_l00In_eq, Option.bind_some]
  rcases Bool.eq_false_or_eq_true (btw r 10 100000) with h1 | h1 <;> rcases Bool.eq_false_or_eq_true (btw n 1 240) with h2 | h2 <;> simp only [h1, h2, Bool.not_true, Bool.not_false, Bool.false_eq_true, if_true, if_false, Option.bind_some, and_self, and_false, false_and]
  rw [btw_iff] at h1 h2
  obtain ⟨m, rfl⟩ : ∃ m : Nat, n = m := ⟨n.toNat, by omega⟩
  have w1 : w64 ((w64 (r * 9)).tdiv 10) = r * 9 / 10 := by
    rw [w64_in (x := r * 9) (by omega) (by omega), Int.tdiv_eq_ediv_of_nonneg (by omega), w64_in (by omega) (by omega)]
  have hb := buildF_ok (xs := List.range m) (f := fun v => [ray r m v]) (c := 1) (init := [(⟨2, ⟨0, 0⟩, ⟨0, 0⟩, r, ⟨#[]⟩⟩ : Shape_)]) (step := fun s9 => (if s9.1 < (m : Int) then ((s_l25Round_m (w64 ((w64 (r * 9)).tdiv 10)) s9.1 m).bind fun v11 => ((s_l25Round_m r s9.1 m).bind fun v12 => (chk ((s9.2.length + [(⟨1, v11, v12, 0, (⟨#[]⟩ : ByteArray)⟩ : Shape_)].length) * 7 * 64 ≤ 140737488355328) (some (.inl (w64 (s9.1 + 1), s9.2 ++ [(⟨1, v11, v12, 0, (⟨#[]⟩ : ByteArray)⟩ : Shape_)])))))) else some (.inr s9.2))) (fun v _ => Nat.le_refl 1) (fun i hi ys hy => by
    simp only [List.length_range] at hi
    have hi' : (i : Int) < m := by omega
    have e1 : w64 ((i : Int) + 1) = i + 1 := w64_in (by omega) (by omega)
    simp only [List.length_cons, List.length_nil] at hy
    simp only [if_pos hi', w1, e1]
    rw [s_l25Round_eq (by omega) (by omega) (by omega) (by omega) (by omega) hi', Option.bind_some, s_l25Round_eq (by omega) (by omega) (by omega) (by omega) (by omega) hi', Option.bind_some, chk_t (by simp; omega)]
    simp [ray]) (fun ys => by simp) (by simp; omega)
  rw [hb, Option.bind_some, flat1']
  simp
theorem i_dial_eq (r n : Int) : i_DialDrawing_m r n = some (dialR r n) := by
  unfold i_DialDrawing_m dialR
  simp only [i_within_eq, Option.bind_some]
  rcases Bool.eq_false_or_eq_true (btw r 10 100000) with h1 | h1 <;> rcases Bool.eq_false_or_eq_true (btw n 1 240) with h2 | h2 <;> simp only [h1, h2, Bool.not_true, Bool.not_false, Bool.false_eq_true, if_true, if_false, Option.bind_some, and_self, and_false, false_and]
  rw [btw_iff] at h1 h2
  obtain ⟨m, rfl⟩ : ∃ m : Nat, n = m := ⟨n.toNat, by omega⟩
  have w1 : w64 ((w64 (r * 9)).tdiv 10) = r * 9 / 10 := by
    rw [w64_in (x := r * 9) (by omega) (by omega), Int.tdiv_eq_ediv_of_nonneg (by omega), w64_in (by omega) (by omega)]
  simp only [i_circle_m, i_line_m, Option.bind_some]
  have hb := buildF_ok (xs := List.range m) (f := fun v => [ray r m v]) (c := 1) (init := [(⟨2, ⟨0, 0⟩, ⟨0, 0⟩, r, ⟨#[]⟩⟩ : Shape_)]) (step := fun s9 => (if s9.1 < (m : Int) then ((i_roundSpot_m (w64 ((w64 (r * 9)).tdiv 10)) s9.1 m).bind fun v11 => ((i_roundSpot_m r s9.1 m).bind fun v12 => (chk ((s9.2.length + [(⟨1, v11, v12, 0, (⟨#[]⟩ : ByteArray)⟩ : Shape_)].length) * 7 * 64 ≤ 140737488355328) (some (.inl (w64 (s9.1 + 1), s9.2 ++ [(⟨1, v11, v12, 0, (⟨#[]⟩ : ByteArray)⟩ : Shape_)])))))) else some (.inr s9.2))) (fun v _ => Nat.le_refl 1) (fun i hi ys hy => by
    simp only [List.length_range] at hi
    have hi' : (i : Int) < m := by omega
    have e1 : w64 ((i : Int) + 1) = i + 1 := w64_in (by omega) (by omega)
    simp only [List.length_cons, List.length_nil] at hy
    simp only [if_pos hi', w1, e1]
    rw [i_roundSpot_eq (by omega) (by omega) (by omega) (by omega) (by omega) hi', Option.bind_some, i_roundSpot_eq (by omega) (by omega) (by omega) (by omega) (by omega) hi', Option.bind_some, chk_t (by simp; omega)]
    simp [ray]) (fun ys => by simp) (by simp; omega)
  rw [hb, Option.bind_some, flat1']
  simp
theorem dial_in {r n : Int} (h : (dialR r n).2 = 0) : 10 ≤ r ∧ r ≤ 100000 ∧ 1 ≤ n ∧ n ≤ 240 ∧ dialR r n = (⟨⟨2, ⟨0, 0⟩, ⟨0, 0⟩, r, ⟨#[]⟩⟩ :: (List.range n.toNat).map (ray r n)⟩, 0) := by
  unfold dialR at h ⊢
  split at h
  · rename_i hb
    rw [if_pos hb]
    rw [btw_iff, btw_iff] at hb
    exact ⟨hb.1.1, hb.1.2, hb.2.1, hb.2.2, rfl⟩
  · simp at h
theorem dial_ok {r n : Int} (r0 : 10 ≤ r) (r1 : r ≤ 100000) (n0 : 1 ≤ n) (n1 : n ≤ 240) : drB ⟨⟨2, ⟨0, 0⟩, ⟨0, 0⟩, r, ⟨#[]⟩⟩ :: (List.range n.toNat).map (ray r n)⟩ = true := by
  unfold drB
  rw [Bool.and_eq_true, List.all_eq_true]
  refine ⟨by simp; omega, fun s hs => ?_⟩
  rcases List.mem_cons.1 hs with rfl | hs
  · simp [shB, spB, btw]; omega
  · obtain ⟨i, hi, rfl⟩ := List.mem_map.1 hs
    have hi := List.mem_range.1 hi
    simp [shB, ray, rspot_in (r := r * 9 / 10) (k := i) (n := n) (by omega) (by omega) (by omega) (by omega) (by omega), rspot_in (r := r) (k := i) (n := n) (by omega) (by omega) (by omega) (by omega) (by omega)]
/-! plates -/
theorem plate_lim {p : Plate_} (h : plateB p = true) : 1 ≤ p.Width ∧ p.Width ≤ 10000 ∧ 1 ≤ p.Height ∧ p.Height ≤ 10000 ∧ p.Sites.length ≤ 20 ∧ ∀ s ∈ p.Sites, siteB p s = true := by
  unfold plateB at h
  simp only [Bool.and_eq_true, decide_eq_true_eq, btw, List.all_eq_true] at h
  refine ⟨by omega, by omega, by omega, by omega, by omega, fun s hs => ?_⟩
  obtain ⟨i, hi, rfl⟩ := List.mem_iff_getElem.1 hs
  have := h.2.2.2.2.2 i (List.mem_range.2 hi)
  rw [dif_pos hi, Bool.and_eq_true] at this
  exact this.1
theorem flat_len (l : List Site_) : (l.flatMap siteSh).length = 3 * l.length := by
  induction l with
  | nil => rfl
  | cons s l ih =>
    rw [List.flatMap_cons, List.length_append, ih, List.length_cons]
    show 3 + 3 * l.length = _
    omega
theorem plate_ok {p : Plate_} (h : plateB p = true) : drB ⟨(List.range 4).map (edge p) ++ p.Sites.flatMap siteSh⟩ = true := by
  obtain ⟨w0, w1, g0, g1, l1, hs⟩ := plate_lim h
  unfold drB
  rw [Bool.and_eq_true, List.all_eq_true]
  refine ⟨by rw [List.length_append, flat_len]; simp; omega, fun s hm => ?_⟩
  rcases List.mem_append.1 hm with hm | hm
  · obtain ⟨i, hi, rfl⟩ := List.mem_map.1 hm
    have hi := List.mem_range.1 hi
    have : i = 0 ∨ i = 1 ∨ i = 2 ∨ i = 3 := by omega
    rcases this with rfl | rfl | rfl | rfl <;> simp [shB, edge, cor, spB, btw] <;> omega
  · obtain ⟨t, ht, hm⟩ := List.mem_flatMap.1 hm
    have hb := hs t ht
    unfold siteB btw at hb
    simp only [Bool.and_eq_true, decide_eq_true_eq] at hb
    simp only [siteSh, List.mem_cons, List.not_mem_nil, or_false] at hm
    rcases hm with rfl | rfl | rfl
    · simp [shB, spB, btw]; omega
    · simp [shB, spB, btw]; omega
    · simp [shB, spB, btw, hb.1]; omega
def inX (b : Bx) (p : Spot_) : Prop := b.1.X ≤ p.X ∧ b.1.Y ≤ p.Y ∧ p.X ≤ b.2.X ∧ p.Y ≤ b.2.Y
theorem fb_keep {b : Bx} {p : Spot_} (q : Spot_) (h : inX b p) : inX (fb b q) p := by
  unfold inX at h ⊢; simp only [fb]; omega
theorem fb_new (b : Bx) (p : Spot_) : inX (fb b p) p := by
  unfold inX; simp only [fb]; omega
theorem fold_keep {b : Bx} {p : Spot_} (qs : List Spot_) (h : inX b p) : inX (qs.foldl fb b) p := by
  induction qs generalizing b with
  | nil => exact h
  | cons q qs ih => exact ih (fb_keep q h)
theorem fold_new {p : Spot_} {qs : List Spot_} (b : Bx) (h : p ∈ qs) : inX (qs.foldl fb b) p := by
  induction qs generalizing b with
  | nil => cases h
  | cons q qs ih =>
    rw [List.foldl_cons]
    rcases List.mem_cons.1 h with rfl | h
    · exact fold_keep qs (fb_new b p)
    · exact ih _ h
theorem box_keep {b : Bx} {p : Spot_} (xs : List Shape_) (h : inX b p) : inX (boxF b xs) p := by
  unfold boxF
  induction xs generalizing b with
  | nil => exact h
  | cons s xs ih => exact ih (fold_keep _ h)
theorem box_new {p : Spot_} {s : Shape_} {xs : List Shape_} (b : Bx) (hs : s ∈ xs) (h : p ∈ iPts s) : inX (boxF b xs) p := by
  unfold boxF
  induction xs generalizing b with
  | nil => cases hs
  | cons q qs ih =>
    rw [List.foldl_cons]
    rcases List.mem_cons.1 hs with rfl | hs
    · exact box_keep qs (fold_new b h)
    · exact ih _ hs
theorem plate_box {p : Plate_} (h : plateB p = true) : (boxR (plateR p).1).2.2 = 0 ∧ (boxR (plateR p).1).1.X ≤ 0 ∧ (boxR (plateR p).1).1.Y ≤ 0 ∧ p.Width ≤ (boxR (plateR p).1).2.1.X ∧ p.Height ≤ (boxR (plateR p).1).2.1.Y := by
  have hd := plate_ok h
  unfold plateR
  rw [if_pos h]
  unfold boxR
  rw [if_pos hd]
  generalize hx : (List.range 4).map (edge p) ++ p.Sites.flatMap siteSh = xs
  have m0 : edge p 0 ∈ xs := by rw [← hx]; exact List.mem_append_left _ (List.mem_map.2 ⟨0, by simp, rfl⟩)
  have m2 : edge p 2 ∈ xs := by rw [← hx]; exact List.mem_append_left _ (List.mem_map.2 ⟨2, by simp, rfl⟩)
  cases xs with
  | nil => cases m0
  | cons s ss =>
    have a := box_new (c0 s, c0 s) m0 (p := ⟨0, 0⟩) (by simp [iPts, edge, cor])
    have b := box_new (c0 s, c0 s) m2 (p := ⟨p.Width, p.Height⟩) (by simp [iPts, edge, cor])
    unfold inX at a b
    dsimp only at a b ⊢
    exact ⟨rfl, a.1, a.2.1, b.2.2.1, b.2.2.2⟩
end Go.Proofs.Ytplnohfjeilodaa
