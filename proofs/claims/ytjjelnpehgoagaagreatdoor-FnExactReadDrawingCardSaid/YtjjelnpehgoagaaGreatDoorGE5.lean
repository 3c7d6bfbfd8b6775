/- Texts of this claim, one behind the other (merged by a program of mine). -/
import Derived.Test.YtjjelnpehgoagaaGreatDoorTie
import Derived.Lib.LaidTab
import Derived.Stop.LaidErr
import Derived.SevenTiedAt
import Derived.Test.YtjjelnpehgoagaaGreatDoorGE4
set_option linter.unusedSimpArgs false
set_option linter.unusedVariables false
namespace Go.Proofs.YtjjelnpehgoagaaGreatDoor
set_option linter.unusedVariables false
set_option maxRecDepth 100000
theorem fillL_ok {α β : Type} {xs : List α} {g : α → β} {z : β} {step : Int × List β → Option ((Int × List β) ⊕ List β)} (hS : ∀ (i : Nat) (hi : i < xs.length) ys, ys.length = xs.length → step ((i : Int), ys) = some (.inl ((i : Int) + 1, List.set ys i (g xs[i])))) (hE : ∀ ys, step ((xs.length : Int), ys) = some (.inr ys)) (hn : xs.length ≤ 9223372036854775807) :
    loopM step (0, List.replicate xs.length z) = some (xs.map g) := by
  refine loopM_eq (fun (s : Int × List β) => 0 ≤ s.1 ∧ s.1 ≤ xs.length ∧ s.2 = (xs.take s.1.toNat).map g ++ List.replicate (xs.length - s.1.toNat) z) (fun (s : Int × List β) => ((xs.length : Int) - s.1).toNat) (fun s hI => ?_) (by simp) (by simp; omega)
  obtain ⟨i, ys⟩ := s
  obtain ⟨q0, q1, q2⟩ := hI
  dsimp only at q0 q1 q2 ⊢
  obtain ⟨j, rfl⟩ : ∃ j : Nat, i = j := ⟨i.toNat, by omega⟩
  have e2 : ((j : Int)).toNat = j := by omega
  rw [e2] at q2
  by_cases hs : j < xs.length
  · left
    have e : ((j : Int) + 1).toNat = j + 1 := by omega
    have hl : ((xs.take j).map g).length = j := by simp; omega
    refine ⟨_, hS j hs ys (by rw [q2]; simp; omega), ⟨by dsimp only; omega, by dsimp only; omega, ?_⟩, by dsimp only; omega⟩
    dsimp only
    obtain ⟨k, hk⟩ : ∃ k, xs.length - j = k + 1 := ⟨xs.length - j - 1, by omega⟩
    rw [e, q2, hk, show xs.length - (j + 1) = k by omega, List.set_append_right _ _ (by omega), hl, Nat.sub_self, List.take_succ_eq_append_getElem hs, List.map_append, List.replicate_succ]
    simp
  · right
    have : j = xs.length := by omega
    subst this
    rw [hE ys, q2, List.take_length]; simp
theorem buildT_ok {α β : Type} {xs : List α} {g : α → β} {step : Int × List β → Option ((Int × List β) ⊕ List β)} (h1 : 1 ≤ xs.length) (hS : ∀ (i : Nat) (hi : i < xs.length) ys, ys.length ≤ i → step ((i : Int), ys) = some (.inl ((i : Int) + 1, ys ++ [g xs[i]]))) (hE : ∀ ys, step ((xs.length : Int), ys) = some (.inr ys)) (hn : xs.length ≤ 9223372036854775807) :
    loopM step (1, []) = some ((xs.drop 1).map g) := by
  refine loopM_eq (fun (s : Int × List β) => 1 ≤ s.1 ∧ s.1 ≤ xs.length ∧ s.2 = ((xs.take s.1.toNat).drop 1).map g) (fun (s : Int × List β) => ((xs.length : Int) - s.1).toNat) (fun s hI => ?_) (by refine ⟨by simp, by show (1 : Int) ≤ xs.length; omega, ?_⟩; show [] = _; cases xs <;> simp) (by simp; omega)
  obtain ⟨i, ys⟩ := s
  obtain ⟨q0, q1, q2⟩ := hI
  dsimp only at q0 q1 q2 ⊢
  obtain ⟨j, rfl⟩ : ∃ j : Nat, i = j := ⟨i.toNat, by omega⟩
  have e2 : ((j : Int)).toNat = j := by omega
  rw [e2] at q2
  by_cases hs : j < xs.length
  · left
    have e : ((j : Int) + 1).toNat = j + 1 := by omega
    have hl : (xs.take j).length = j := by simp; omega
    refine ⟨_, hS j hs ys (by rw [q2]; simp; omega), ⟨by dsimp only; omega, by dsimp only; omega, ?_⟩, by dsimp only; omega⟩
    dsimp only
    rw [e, q2, List.take_succ_eq_append_getElem hs, List.drop_append_of_le_length (by omega), List.map_append]; rfl
  · right
    have : j = xs.length := by omega
    subst this
    rw [hE ys, q2, List.take_length]
theorem words_sz {w : ByteArray} (hw : w.size ≤ 1048576) : (∀ x ∈ (splitL 32 (tl w)).map ba, x.size ≤ 1048576) ∧ 1 ≤ ((splitL 32 (tl w)).map ba).length ∧ ((splitL 32 (tl w)).map ba).length ≤ 1048577 := by
  obtain ⟨h1, h2⟩ := splitL_len (c := 32) (tl w)
  have hl := tl_len w
  have hne := splitL_ne 32 (tl w)
  refine ⟨fun x hx => ?_, ?_, by simp; omega⟩
  · obtain ⟨y, hy, rfl⟩ := List.mem_map.1 hx
    have := h1 y hy
    rw [ba_size]; omega
  · rw [List.length_map]
    cases h : splitL 32 (tl w) with
    | nil => exact absurd h hne
    | cons a b => simp
theorem i_nums {ws : List ByteArray} (hs : ∀ x ∈ ws, x.size ≤ 1048576) (hn : ws.length ≤ 1048577) : loopM (S := Int × List Int) (X := List Int) (fun s7 => (if s7.1 < (ws.length : Int) then ((atI ws s7.1).bind fun v8 => ((i_ReadDecimal_m v8).bind fun v9 => ((atI s7.2 s7.1).bind fun v10 => some (.inl (w64 (s7.1 + 1), List.set s7.2 s7.1.toNat v9.1))))) else some (.inr s7.2))) (0, List.replicate ws.length 0) = some (ws.map fun w => (readD w).1) :=
  fillL_ok (fun i hi ys hy => by
    have hi' : (i : Int) < (ws.length : Int) := by omega
    have e1 : w64 ((i : Int) + 1) = (i : Int) + 1 := w64_in (by omega) (by omega)
    have e2 : ((i : Int)).toNat = i := by omega
    have hy' : i < ys.length := by omega
    simp only [if_pos hi', atI_lt hi, Option.bind_some, i_ReadDecimal_eq (hs _ (List.getElem_mem hi)), atI_lt hy', e1, e2]) (fun ys => by simp) (by omega)
def shapeI (v1 : List ByteArray) (v11 : List Int) : Option (Shape_ × Bool) :=
  ((((atI v1 0).bind fun v12 => (if v12 = lineB then some (decide ((v1.length : Int) = 5)) else some false)) : Option Bool).bind fun v13 =>
  (if v13 = true then ((atI v11 1).bind fun v14 => ((atI v11 2).bind fun v15 => ((atI v11 3).bind fun v16 => ((atI v11 4).bind fun v17 => ((i_line_m (⟨v14, v15⟩ : Spot_) (⟨v16, v17⟩ : Spot_)).bind fun v18 => some (v18, true))))))
  else ((((atI v1 0).bind fun v19 => (if v19 = circB then some (decide ((v1.length : Int) = 4)) else some false)) : Option Bool).bind fun v20 =>
  (if v20 = true then ((atI v11 1).bind fun v21 => ((atI v11 2).bind fun v22 => ((atI v11 3).bind fun v23 => ((i_circle_m (⟨v21, v22⟩ : Spot_) v23).bind fun v24 => some (v24, true)))))
  else ((((atI v1 0).bind fun v25 => (if v25 = labB then some (decide ((v1.length : Int) = 4)) else some false)) : Option Bool).bind fun v26 =>
  (if v26 = true then ((atI v11 1).bind fun v27 => ((atI v11 2).bind fun v28 => ((atI v1 3).bind fun v29 => ((i_label_m (⟨v27, v28⟩ : Spot_) v29).bind fun v30 => some (v30, true)))))
  else some ((⟨0, (⟨0, 0⟩ : Spot_), (⟨0, 0⟩ : Spot_), 0, (⟨#[]⟩ : ByteArray)⟩ : Shape_), false)))))))
theorem i_readShape_at {w : ByteArray} (hw : w.size ≤ 1048576) : i_readShape_m w = shapeI ((splitL 32 (tl w)).map ba) (((splitL 32 (tl w)).map ba).map fun w => (readD w).1) := by
  obtain ⟨h1, h2, h3⟩ := words_sz hw
  unfold i_readShape_m i_wordsOf_m
  rw [show (⟨#[32]⟩ : ByteArray) = ⟨#[(32 : UInt8)]⟩ from rfl, split_eq hw]
  generalize (splitL 32 (tl w)).map ba = ws at *
  have e : ((ws.length : Int)).toNat = ws.length := by omega
  simp only [Option.bind_some, e]
  rw [chk_t (by refine ⟨by omega, ?_, by omega⟩; first | trivial | rfl), i_nums h1 h3, Option.bind_some]
  rfl
theorem shapeI_ok {v1 : List ByteArray} {v11 : List Int} (h1 : 1 ≤ v1.length) (h2 : v11.length = v1.length) : ∃ r, shapeI v1 v11 = some r := by
  have key : Ok (shapeI v1 v11) (fun _ => True) := by
    unfold shapeI i_line_m i_circle_m i_label_m
    have at0 : ∀ t : ByteArray, ∀ k : Int, Ok ((atI v1 0).bind fun v12 => (if v12 = t then some (decide ((v1.length : Int) = k)) else some false)) (fun b => b = true → (v1.length : Int) = k) := fun t k => by
      refine ok_bind (ok_atI (by omega) (by omega)) fun v _ => ok_ite (fun _ => ok_some fun h => of_decide_eq_true h) fun _ => ok_some fun h => by cases h
    refine ok_bind (at0 _ 5) fun b hb => ok_ite (fun h => ?_) fun _ => ?_
    · have := hb h
      exact ok_bind (ok_atI (by omega) (by omega)) fun _ _ => ok_bind (ok_atI (by omega) (by omega)) fun _ _ => ok_bind (ok_atI (by omega) (by omega)) fun _ _ => ok_bind (ok_atI (by omega) (by omega)) fun _ _ => ok_some trivial
    · refine ok_bind (at0 _ 4) fun b hb => ok_ite (fun h => ?_) fun _ => ?_
      · have := hb h
        exact ok_bind (ok_atI (by omega) (by omega)) fun _ _ => ok_bind (ok_atI (by omega) (by omega)) fun _ _ => ok_bind (ok_atI (by omega) (by omega)) fun _ _ => ok_some trivial
      · refine ok_bind (at0 _ 4) fun b hb => ok_ite (fun h => ?_) fun _ => ok_some trivial
        have := hb h
        exact ok_bind (ok_atI (by omega) (by omega)) fun _ _ => ok_bind (ok_atI (by omega) (by omega)) fun _ _ => ok_bind (ok_atI (by omega) (by omega)) fun _ _ => ok_some trivial
  obtain ⟨r, h, _⟩ := key
  exact ⟨r, h⟩
theorem at_ne1 : ¬ circB = lineB := by decide
theorem at_ne2 : ¬ labB = lineB := by decide
theorem at_ne3 : ¬ labB = circB := by decide
theorem shapeI_line {s : Shape_} (h : shB s = true) : shapeI (lineW s) ((lineW s).map fun w => (readD w).1) = some (s, true) := by
  obtain ⟨h1, h2, h3⟩ := sh_bd h
  obtain ⟨ax, ay⟩ := sp_bd h1
  have r1 := r_number (n := s.A.X) (by omega) (by omega)
  have r2 := r_number (n := s.A.Y) (by omega) (by omega)
  obtain ⟨K, ⟨AX, AY⟩, ⟨BX, BY⟩, R, Nm⟩ := s
  dsimp only at *
  unfold shapeI lineW i_line_m i_circle_m i_label_m
  by_cases k1 : K = 1
  · subst k1
    obtain ⟨bx, by_⟩ := sp_bd (h2 rfl)
    dsimp only at bx by_
    have r3 := r_number (n := BX) (by omega) (by omega)
    have r4 := r_number (n := BY) (by omega) (by omega)
    obtain ⟨e1, e2⟩ := sh_1 h rfl
    dsimp only at e1 e2
    subst e1 e2
    simp [atI, r1, r2, r3, r4]
  · by_cases k2 : K = 2
    · subst k2
      have r3 := r_number (n := R) (by have := h3 rfl; omega) (by have := h3 rfl; omega)
      obtain ⟨e1, e2⟩ := sh_2 h rfl
      dsimp only at e1 e2
      simp only [Spot_.mk.injEq] at e1
      obtain ⟨rfl, rfl⟩ := e1
      subst e2
      simp [atI, r1, r2, r3, at_ne1]
    · obtain ⟨k3, e1, e2, e3⟩ := sh_name h k1 k2
      dsimp only at k3 e1 e2 e3
      simp only [Spot_.mk.injEq] at e1
      obtain ⟨rfl, rfl⟩ := e1
      subst k3 e2
      simp [atI, r1, r2, at_ne2, at_ne3]
theorem i_readShape_ok {w : ByteArray} (hw : w.size ≤ 1048576) : ∃ r, i_readShape_m w = some r ∧ ∀ s, shB s = true → w = lineT s → r = (s, true) := by
  obtain ⟨h1, h2, h3⟩ := words_sz hw
  obtain ⟨r, hr⟩ := shapeI_ok h2 (v11 := ((splitL 32 (tl w)).map ba).map fun w => (readD w).1) (List.length_map _)
  refine ⟨r, (i_readShape_at hw).trans hr, fun s hs e => ?_⟩
  rw [e, line_words hs, shapeI_line hs] at hr
  exact (Option.some.inj hr).symm
def numG (w : ByteArray) : Int := ((s_l01Number_m w).getD (0, false)).1
theorem s_nums {ws : List ByteArray} (h1 : 1 ≤ ws.length) (hs : ∀ x ∈ ws, x.size ≤ 1048576) (hn : ws.length ≤ 1048577) : loopM (S := Int × List Int) (X := List Int) (fun s6 => (if s6.1 < (ws.length : Int) then ((atI ws s6.1).bind fun v7 => ((s_l01Number_m v7).bind fun v8 => (chk ((s6.2.length + [v8.1].length) * 1 * 64 ≤ 140737488355328) (some (.inl (w64 (s6.1 + 1), s6.2 ++ [v8.1])))))) else some (.inr s6.2))) (1, ([] : List Int)) = some ((ws.drop 1).map numG) :=
  buildT_ok h1 (fun i hi ys hy => by
    have hi' : (i : Int) < (ws.length : Int) := by omega
    have e1 : w64 ((i : Int) + 1) = (i : Int) + 1 := w64_in (by omega) (by omega)
    obtain ⟨r, hr, _⟩ := (s_l01Number_ok (hs _ (List.getElem_mem hi))).1
    have hg : numG ws[i] = r.1 := by unfold numG; rw [hr]; rfl
    simp only [if_pos hi', atI_lt hi, Option.bind_some, hr, hg]
    rw [chk_t (by simp only [List.length_cons, List.length_nil]; omega), e1]) (fun ys => by simp) (by omega)
def shapeS (v1 : List ByteArray) (v10 : List Int) : Option Shape_ :=
  (((if 1 < (v10.length : Int) then ((atI v10 0).bind fun v11 => ((atI v10 1).bind fun v12 => some (⟨0, (⟨v11, v12⟩ : Spot_), (⟨0, 0⟩ : Spot_), 0, (⟨#[]⟩ : ByteArray)⟩ : Shape_))) else some (⟨0, (⟨0, 0⟩ : Spot_), (⟨0, 0⟩ : Spot_), 0, (⟨#[]⟩ : ByteArray)⟩ : Shape_)) : Option Shape_).bind fun v13 =>
  ((((((atI v1 0).bind fun v14 => (if v14 = lineB then some (decide ((v10.length : Int) = 4)) else some false)) : Option Bool).bind fun v15 =>
  (if v15 = true then ((atI v10 2).bind fun v16 => ((atI v10 3).bind fun v17 => some (⟨1, v13.A, (⟨v16, v17⟩ : Spot_), v13.R, v13.Name⟩ : Shape_)))
  else ((((atI v1 0).bind fun v18 => (if v18 = circB then some (decide ((v10.length : Int) = 3)) else some false)) : Option Bool).bind fun v19 =>
  (if v19 = true then ((atI v10 2).bind fun v20 => some (⟨2, v13.A, v13.B, v20, v13.Name⟩ : Shape_))
  else ((((atI v1 0).bind fun v21 => (if v21 = labB then some (decide ((v10.length : Int) = 3)) else some false)) : Option Bool).bind fun v22 =>
  (if v22 = true then ((atI v1 3).bind fun v23 => some (⟨3, v13.A, v13.B, v13.R, v23⟩ : Shape_)) else some v13)))))) : Option Shape_).bind fun v24 => some v24))
theorem s_l25Read_at {w : ByteArray} (hw : w.size ≤ 1048576) : s_l25Read_m w = shapeS ((splitL 32 (tl w)).map ba) ((((splitL 32 (tl w)).map ba).drop 1).map numG) := by
  obtain ⟨h1, h2, h3⟩ := words_sz hw
  unfold s_l25Read_m
  rw [show (32 : Int) = ((32 : UInt8).toNat : Int) from rfl, s_l01Split_eq hw]
  generalize (splitL 32 (tl w)).map ba = ws at *
  simp only [Option.bind_some]
  rw [s_nums h2 h1 h3, Option.bind_some]
  rfl
theorem shapeS_ok {v1 : List ByteArray} {v10 : List Int} (h1 : 1 ≤ v1.length) (h2 : v10.length + 1 = v1.length) : ∃ r, shapeS v1 v10 = some r := by
  have key : Ok (shapeS v1 v10) (fun _ => True) := by
    unfold shapeS
    have at0 : ∀ t : ByteArray, ∀ k : Int, Ok ((atI v1 0).bind fun v12 => (if v12 = t then some (decide ((v10.length : Int) = k)) else some false)) (fun b => b = true → (v10.length : Int) = k) := fun t k => by
      refine ok_bind (ok_atI (by omega) (by omega)) fun v _ => ok_ite (fun _ => ok_some fun h => of_decide_eq_true h) fun _ => ok_some fun h => by cases h
    refine ok_bind (P := fun _ => True) (ok_ite (fun h => ok_bind (ok_atI (by omega) (by omega)) fun _ _ => ok_bind (ok_atI (by omega) (by omega)) fun _ _ => ok_some trivial) fun _ => ok_some trivial) fun v13 _ => ?_
    refine ok_bind (P := fun _ => True) ?_ fun _ _ => ok_some trivial
    refine ok_bind (at0 _ 4) fun b hb => ok_ite (fun h => ?_) fun _ => ?_
    · have := hb h
      exact ok_bind (ok_atI (by omega) (by omega)) fun _ _ => ok_bind (ok_atI (by omega) (by omega)) fun _ _ => ok_some trivial
    · refine ok_bind (at0 _ 3) fun b hb => ok_ite (fun h => ?_) fun _ => ?_
      · have := hb h
        exact ok_bind (ok_atI (by omega) (by omega)) fun _ _ => ok_some trivial
      · refine ok_bind (at0 _ 3) fun b hb => ok_ite (fun h => ?_) fun _ => ok_some trivial
        have := hb h
        exact ok_bind (ok_atI (by omega) (by omega)) fun _ _ => ok_some trivial
  obtain ⟨r, h, _⟩ := key
  exact ⟨r, h⟩
theorem numG_dec {n : Int} (h0 : -1000000 ≤ n) (h1 : n ≤ 1000000) : numG (decB n) = n := by unfold numG; rw [s_number h0 h1]; rfl
theorem shapeS_line {s : Shape_} (h : shB s = true) : shapeS (lineW s) (((lineW s).drop 1).map numG) = some s := by
  obtain ⟨h1, h2, h3⟩ := sh_bd h
  obtain ⟨ax, ay⟩ := sp_bd h1
  have r1 := numG_dec (n := s.A.X) (by omega) (by omega)
  have r2 := numG_dec (n := s.A.Y) (by omega) (by omega)
  obtain ⟨K, ⟨AX, AY⟩, ⟨BX, BY⟩, R, Nm⟩ := s
  dsimp only at *
  unfold shapeS lineW
  by_cases k1 : K = 1
  · subst k1
    obtain ⟨bx, by_⟩ := sp_bd (h2 rfl)
    dsimp only at bx by_
    have r3 := numG_dec (n := BX) (by omega) (by omega)
    have r4 := numG_dec (n := BY) (by omega) (by omega)
    obtain ⟨e1, e2⟩ := sh_1 h rfl
    dsimp only at e1 e2
    subst e1 e2
    simp [atI, r1, r2, r3, r4]
  · by_cases k2 : K = 2
    · subst k2
      have r3 := numG_dec (n := R) (by have := h3 rfl; omega) (by have := h3 rfl; omega)
      obtain ⟨e1, e2⟩ := sh_2 h rfl
      dsimp only at e1 e2
      simp only [Spot_.mk.injEq] at e1
      obtain ⟨rfl, rfl⟩ := e1
      subst e2
      simp [atI, r1, r2, r3, at_ne1]
    · obtain ⟨k3, e1, e2, e3⟩ := sh_name h k1 k2
      dsimp only at k3 e1 e2 e3
      simp only [Spot_.mk.injEq] at e1
      obtain ⟨rfl, rfl⟩ := e1
      subst k3 e2
      simp [atI, r1, r2, at_ne2, at_ne3]
theorem s_l25Read_ok {w : ByteArray} (hw : w.size ≤ 1048576) : ∃ r, s_l25Read_m w = some r ∧ ∀ s, shB s = true → w = lineT s → r = s := by
  obtain ⟨h1, h2, h3⟩ := words_sz hw
  obtain ⟨r, hr⟩ := shapeS_ok h2 (v10 := (((splitL 32 (tl w)).map ba).drop 1).map numG) (by rw [List.length_map, List.length_drop]; omega)
  refine ⟨r, (s_l25Read_at hw).trans hr, fun s hs e => ?_⟩
  rw [e, line_words hs, shapeS_line hs] at hr
  exact (Option.some.inj hr).symm
end Go.Proofs.YtjjelnpehgoagaaGreatDoor
namespace Go.Proofs.YtjjelnpehgoagaaGreatDoor
set_option linter.unusedVariables false
set_option maxRecDepth 100000
def goodD (p : ByteArray) (x : Drawing_) : Prop := drB x = true ∧ drawT x.Shapes = p
theorem flat_end : ∀ {xs : List Shape_}, xs ≠ [] → ∃ q, (xs.flatMap fun s => tl (lineT s) ++ [10]) = q ++ [10] := by
  intro xs h
  obtain ⟨ys, s, rfl⟩ : ∃ ys s, xs = ys ++ [s] := ⟨xs.dropLast, xs.getLast h, (List.dropLast_concat_getLast h).symm⟩
  exact ⟨(ys.flatMap fun s => tl (lineT s) ++ [10]) ++ tl (lineT s), by simp⟩
theorem drawT_tl (xs : List Shape_) : tl (drawT xs) = xs.flatMap fun s => tl (lineT s) ++ [10] := by
  unfold drawT
  rw [draw_tl]; rfl
theorem map_ba (xs : List Shape_) : (xs.map fun s => tl (lineT s)).map ba = xs.map lineT := by
  rw [List.map_map]; rfl
theorem suffix_eq {p : ByteArray} (hp : 1 ≤ p.size) (hp2 : p.size ≤ 1048576) : internal_stringslite_HasSuffix_m p ⟨#[10]⟩ = some (decide (p.extract (p.size - 1) p.size = ⟨#[10]⟩)) := by
  unfold internal_stringslite_HasSuffix_m
  have h1 : ((⟨#[10]⟩ : ByteArray).size : Int) = 1 := rfl
  have e1 : w64 ((p.size : Int) - 1) = (p.size : Int) - 1 := w64_in (by omega) (by omega)
  have e2 : ((p.size : Int) - 1).toNat = p.size - 1 := by omega
  have e3 : (p.size : Int).toNat = p.size := by omega
  rw [h1, if_pos (by omega), e1, chk_t (by omega), e2, e3]
theorem i_linesOf_ok {p : ByteArray} (hp : p.size ≤ 1048576) : ∃ r, i_linesOf_m p = some r ∧ (∀ w ∈ r.1, w.size ≤ 1048576) ∧ r.1.length ≤ 1048577 ∧ ∀ x : Drawing_, goodD p x → r = (x.Shapes.map lineT, true) := by
  have hl := tl_len p
  unfold i_linesOf_m
  by_cases he : p = ⟨#[]⟩
  · rw [if_pos he]
    refine ⟨_, rfl, fun w hw => (by cases hw), by simp, fun x hx => ?_⟩
    obtain ⟨h1, h2⟩ := hx
    have := draw_lines (dr_all h1).2
    rw [h2, he] at this
    have h3 := congrArg List.length this
    simp [splitL] at h3
    rw [h3]; rfl
  · have hpos : 1 ≤ p.size := by
      rcases Nat.eq_zero_or_pos p.size with h | h
      · exact absurd (tl_inj (List.eq_nil_of_length_eq_zero (by rw [tl_len, h]))) he
      · exact h
    rw [if_neg he]
    unfold strings_HasSuffix_m
    rw [suffix_eq hpos hp]
    simp only [Option.bind_some]
    -- a text of lines ends with the end of a line
    have hend : ∀ x : Drawing_, goodD p x → ∃ q, tl p = q ++ [10] ∧ splitL 10 q = x.Shapes.map fun s => tl (lineT s) := fun x hx => by
      obtain ⟨h1, h2⟩ := hx
      have hd := draw_lines (dr_all h1).2
      have hne : x.Shapes ≠ [] := by
        intro h
        rw [h] at h2
        exact he h2.symm
      obtain ⟨q, hq⟩ := flat_end hne
      rw [← drawT_tl, h2] at hq
      rw [h2, hq, splitL_snoc] at hd
      exact ⟨q, hq, List.append_cancel_right hd⟩
    by_cases hs : p.extract (p.size - 1) p.size = ⟨#[10]⟩
    · rw [decide_eq_true hs]
      unfold strings_TrimSuffix_m internal_stringslite_TrimSuffix_m
      rw [suffix_eq hpos hp, decide_eq_true hs]
      have h1 : ((⟨#[10]⟩ : ByteArray).size : Int) = 1 := rfl
      have e1 : w64 ((p.size : Int) - 1) = (p.size : Int) - 1 := w64_in (by omega) (by omega)
      have e2 : ((p.size : Int) - 1).toNat = p.size - 1 := by omega
      simp only [Option.bind_some, Bool.not_true, Bool.false_eq_true, if_false, if_true]
      rw [h1, e1, chk_t (by omega), e2]
      have e3 : (0 : Int).toNat = 0 := rfl
      simp only [Option.bind_some, e3]
      generalize ht : p.extract 0 (p.size - 1) = t
      have htl : tl t = (tl p).take (p.size - 1) := by rw [← ht, tl_ext]; simp
      have hts : t.size ≤ 1048576 := by rw [← tl_len, htl]; simp; omega
      rw [show (⟨#[10]⟩ : ByteArray) = ⟨#[(10 : UInt8)]⟩ from rfl, split_eq hts]
      obtain ⟨l1, l2⟩ := splitL_len (c := 10) (tl t)
      have l3 := tl_len t
      refine ⟨_, rfl, fun w hw => ?_, by dsimp only; rw [List.length_map]; omega, fun x hx => ?_⟩
      · obtain ⟨y, hy, rfl⟩ := List.mem_map.1 hw
        have := l1 y hy
        rw [ba_size]; omega
      · obtain ⟨q, h2, h3⟩ := hend x hx
        have h4 : tl t = q := by
          rw [htl, h2]
          have : p.size - 1 = q.length := by rw [← hl, h2]; simp
          rw [this]; simp
        rw [h4, h3, map_ba]
    · rw [decide_eq_false hs]
      refine ⟨_, rfl, fun w hw => (by cases hw), by simp, fun x hx => ?_⟩
      exfalso
      obtain ⟨q, h2, _⟩ := hend x hx
      refine hs (tl_inj ?_)
      have : p.size = q.length + 1 := by rw [← hl, h2]; simp
      rw [tl_ext, h2, this, Nat.add_sub_cancel, List.take_of_length_le (by simp), List.drop_left]
theorem i_loop {ls : List ByteArray} (hs : ∀ w ∈ ls, w.size ≤ 1048576) (hn : ls.length ≤ 1048577) : ∃ y, loopM (S := Int × List Shape_) (X := (List Shape_) ⊕ (Drawing_ × Bool)) (fun s7 => (if s7.1 < (ls.length : Int) then ((atI ls s7.1).bind fun v8 => ((i_readShape_m v8).bind fun v9 => (if (!v9.2) = true then some (.inr (.inr ((⟨([] : List Shape_)⟩ : Drawing_), false))) else (chk ((s7.2.length + [v9.1].length) * 7 * 64 ≤ 140737488355328) (some (.inl (w64 (s7.1 + 1), s7.2 ++ [v9.1]))))))) else some (.inr (.inl s7.2)))) (0, ([] : List Shape_)) = some y ∧
    ((y = .inr (⟨[]⟩, false) ∧ ∀ xs : List Shape_, (∀ s ∈ xs, shB s = true) → ls = xs.map lineT → False) ∨ ∃ out, y = .inl out ∧ ∀ xs : List Shape_, (∀ s ∈ xs, shB s = true) → ls = xs.map lineT → out = xs) := by
  refine loopM_of (fun (s : Int × List Shape_) => 0 ≤ s.1 ∧ s.1 ≤ ls.length ∧ (s.2.length : Int) = s.1 ∧ ∀ xs : List Shape_, (∀ s ∈ xs, shB s = true) → ls = xs.map lineT → s.2 = xs.take s.1.toNat) (fun s => ((ls.length : Int) - s.1).toNat) _ (fun s hI => ?_) _ ⟨by simp, by simp, by simp, fun xs _ _ => by simp⟩ (by simp; omega)
  obtain ⟨i, out⟩ := s
  obtain ⟨q0, q1, q2, q3⟩ := hI
  dsimp only at q0 q1 q2 q3 ⊢
  obtain ⟨j, rfl⟩ : ∃ j : Nat, i = j := ⟨i.toNat, by omega⟩
  have e2 : ((j : Int)).toNat = j := by omega
  rw [e2] at q3
  by_cases hj : j < ls.length
  · obtain ⟨r, hr, hx⟩ := i_readShape_ok (hs _ (List.getElem_mem hj))
    have hat : ∀ xs : List Shape_, (∀ s ∈ xs, shB s = true) → ls = xs.map lineT → ∃ h : j < xs.length, r = (xs[j], true) := fun xs h1 h2 => by
      have hl : j < xs.length := by rw [h2, List.length_map] at hj; exact hj
      refine ⟨hl, hx xs[j] (h1 _ (List.getElem_mem hl)) ?_⟩
      simp only [h2, List.getElem_map]
    rw [if_pos (by omega), atI_lt hj, Option.bind_some, hr, Option.bind_some]
    cases hr2 : r.2
    · right
      refine ⟨_, rfl, .inl ⟨rfl, fun xs h1 h2 => ?_⟩⟩
      obtain ⟨hl, e⟩ := hat xs h1 h2
      rw [e] at hr2; cases hr2
    · left
      have e : ((j : Int) + 1).toNat = j + 1 := by omega
      have e1 : w64 ((j : Int) + 1) = (j : Int) + 1 := w64_in (by omega) (by omega)
      simp only [Bool.not_true, Bool.false_eq_true, if_false]
      rw [chk_t (by simp only [List.length_cons, List.length_nil]; omega), e1]
      refine ⟨_, rfl, ⟨by dsimp only; omega, by dsimp only; omega, by simp; omega, fun xs h1 h2 => ?_⟩, by dsimp only; omega⟩
      obtain ⟨hl, e3⟩ := hat xs h1 h2
      dsimp only
      rw [e, q3 xs h1 h2, List.take_succ_eq_append_getElem hl, e3]
  · right
    rw [if_neg (by omega)]
    refine ⟨_, rfl, .inr ⟨out, rfl, fun xs h1 h2 => ?_⟩⟩
    rw [q3 xs h1 h2]
    refine List.take_of_length_le ?_
    have := congrArg List.length h2
    rw [List.length_map] at this
    omega
theorem read_i {p : ByteArray} (hp : p.size ≤ 1048576) : ∃ r, i_ReadDrawing_m p = some r ∧ ((goodD p r.1 ∧ r.2 = true) ∨ r = (⟨[]⟩, false)) ∧ ∀ x, goodD p x → r = (x, true) := by
  obtain ⟨⟨ls, ok⟩, e1, hsz, hlen, hx⟩ := i_linesOf_ok hp
  unfold i_ReadDrawing_m
  rw [e1, Option.bind_some]
  dsimp only at hsz hlen hx ⊢
  cases ok
  · refine ⟨(⟨[]⟩, false), by simp, .inr rfl, fun x hg => ?_⟩
    have := hx x hg
    simp at this
  · by_cases hb : 60000 < (p.size : Int)
    · refine ⟨(⟨[]⟩, false), by simp [hb], .inr rfl, fun x hg => ?_⟩
      have := draw_short hg.1
      rw [hg.2] at this
      omega
    · obtain ⟨y, hy, hpost⟩ := i_loop hsz hlen
      simp only [Bool.not_true, Bool.false_eq_true, if_false, decide_eq_false hb, Option.bind_some]
      rw [hy, Option.bind_some]
      rcases hpost with ⟨rfl, hno⟩ | ⟨out, rfl, hyes⟩
      · refine ⟨(⟨[]⟩, false), rfl, .inr rfl, fun x hg => ?_⟩
        have := hx x hg
        simp only [Prod.mk.injEq, and_true] at this
        exact (hno x.Shapes (dr_all hg.1).2 this).elim
      · simp only [orE_l, i_ValidDrawing_eq, i_DrawingText_eq, Option.bind_some]
        have hout : ∀ x, goodD p x → (⟨out⟩ : Drawing_) = x := fun x hg => by
          have := hx x hg
          simp only [Prod.mk.injEq, and_true] at this
          rw [hyes x.Shapes (dr_all hg.1).2 this]
        by_cases hg : goodD p ⟨out⟩
        · have ht : textD ⟨out⟩ = p := by unfold textD; rw [if_pos hg.1]; exact hg.2
          refine ⟨(⟨out⟩, true), by simp [hg.1, ht], .inl ⟨hg, rfl⟩, fun x hx2 => by rw [hout x hx2]⟩
        · have hb2 : ((if (!drB ⟨out⟩) = true then some true else some (decide (textD ⟨out⟩ ≠ p))) : Option Bool) = some true := by
            cases hd : drB ⟨out⟩
            · rfl
            · have : textD ⟨out⟩ ≠ p := fun h => hg ⟨hd, by unfold textD at h; rw [if_pos hd] at h; exact h⟩
              simp [this]
          rw [hb2]
          refine ⟨(⟨[]⟩, false), rfl, .inr rfl, fun x hx2 => ?_⟩
          rw [← hout x hx2] at hx2
          exact absurd hx2 hg
theorem s_loop {ls : List ByteArray} (hs : ∀ w ∈ ls, w.size ≤ 1048576) (h0 : 1 ≤ ls.length) (hn : ls.length ≤ 1048577) : ∃ out, loopM (S := Int × List Shape_) (X := List Shape_) (fun s6 => (if (w64 (s6.1 + 1)) < (ls.length : Int) then ((atI ls s6.1).bind fun v7 => ((s_l25Read_m v7).bind fun v8 => (chk ((s6.2.length + [v8].length) * 7 * 64 ≤ 140737488355328) (some (.inl (w64 (s6.1 + 1), s6.2 ++ [v8])))))) else some (.inr s6.2))) (0, ([] : List Shape_)) = some out ∧
    (out.length ≤ 1048577 ∧ ∀ xs : List Shape_, (∀ s ∈ xs, shB s = true) → ls = xs.map lineT ++ [⟨#[]⟩] → out = xs) := by
  refine loopM_of (fun (s : Int × List Shape_) => 0 ≤ s.1 ∧ s.1 + 1 ≤ ls.length ∧ (s.2.length : Int) = s.1 ∧ ∀ xs : List Shape_, (∀ s ∈ xs, shB s = true) → ls = xs.map lineT ++ [⟨#[]⟩] → s.2 = xs.take s.1.toNat) (fun s => ((ls.length : Int) - s.1).toNat) _ (fun s hI => ?_) _ ⟨by simp, by simp; omega, by simp, fun xs _ _ => by simp⟩ (by simp; omega)
  obtain ⟨i, out⟩ := s
  obtain ⟨q0, q1, q2, q3⟩ := hI
  dsimp only at q0 q1 q2 q3 ⊢
  obtain ⟨j, rfl⟩ : ∃ j : Nat, i = j := ⟨i.toNat, by omega⟩
  have e2 : ((j : Int)).toNat = j := by omega
  have e1 : w64 ((j : Int) + 1) = (j : Int) + 1 := w64_in (by omega) (by omega)
  rw [e2] at q3
  rw [e1]
  by_cases hj : j + 1 < ls.length
  · have hj' : j < ls.length := by omega
    obtain ⟨r, hr, hx⟩ := s_l25Read_ok (hs _ (List.getElem_mem hj'))
    left
    have e : ((j : Int) + 1).toNat = j + 1 := by omega
    rw [if_pos (by omega), atI_lt hj', Option.bind_some, hr, Option.bind_some, chk_t (by simp only [List.length_cons, List.length_nil]; omega)]
    refine ⟨_, rfl, ⟨by dsimp only; omega, by dsimp only; omega, by simp; omega, fun xs h1 h2 => ?_⟩, by dsimp only; omega⟩
    have hl : j < xs.length := by rw [h2] at hj; simp at hj; omega
    have hrx : r = xs[j] := hx xs[j] (h1 _ (List.getElem_mem hl)) (by
      simp only [h2]
      rw [List.getElem_append_left (by simpa using hl), List.getElem_map])
    dsimp only
    rw [e, q3 xs h1 h2, List.take_succ_eq_append_getElem hl, hrx]
  · right
    rw [if_neg (by omega)]
    refine ⟨_, rfl, by omega, fun xs h1 h2 => ?_⟩
    rw [q3 xs h1 h2]
    refine List.take_of_length_le ?_
    have := congrArg List.length h2
    simp at this
    omega
theorem read_s {p : ByteArray} (hp : p.size ≤ 1048576) : ∃ r, s_ReadDrawing_m p = some r ∧ ((goodD p r.1 ∧ r.2 = true) ∨ r = (⟨[]⟩, false)) ∧ ∀ x, goodD p x → r = (x, true) := by
  unfold s_ReadDrawing_m
  by_cases hb : 60000 < (p.size : Int)
  · rw [if_pos hb]
    refine ⟨(⟨[]⟩, false), rfl, .inr rfl, fun x hg => ?_⟩
    have := draw_short hg.1
    rw [hg.2] at this
    omega
  · rw [if_neg hb, show (10 : Int) = ((10 : UInt8).toNat : Int) from rfl, s_l01Split_eq hp, Option.bind_some]
    obtain ⟨l1, l2⟩ := splitL_len (c := 10) (tl p)
    have l3 := tl_len p
    have l4 : 1 ≤ ((splitL 10 (tl p)).map ba).length := by
      rw [List.length_map]
      cases h : splitL 10 (tl p) with
      | nil => exact absurd h (splitL_ne 10 _)
      | cons a b => simp
    obtain ⟨out, ho, hol, hyes⟩ := s_loop (ls := (splitL 10 (tl p)).map ba) (fun w hw => by
      obtain ⟨y, hy, rfl⟩ := List.mem_map.1 hw
      have := l1 y hy
      rw [ba_size]; omega) l4 (by rw [List.length_map]; omega)
    rw [ho, Option.bind_some]
    have hout : ∀ x, goodD p x → (⟨out⟩ : Drawing_) = x := fun x hg => by
      have hd := draw_lines (dr_all hg.1).2
      rw [hg.2] at hd
      rw [hyes x.Shapes (dr_all hg.1).2 (by rw [hd, List.map_append, map_ba]; rfl)]
    rw [s_l25Ok_eq (by show out.length ≤ _; omega), Option.bind_some]
    by_cases hg : goodD p ⟨out⟩
    · rw [hg.1, s_l25Text_eq hg.1]
      have ht : drawT (Drawing_.mk out).Shapes = p := hg.2
      refine ⟨(⟨out⟩, true), by simp [ht], .inl ⟨hg, rfl⟩, fun x hx2 => by rw [hout x hx2]⟩
    · have hb2 : ((if (!drB ⟨out⟩) = true then some true else ((s_l25Text_m ⟨out⟩).bind fun v12 => some (decide (v12 ≠ p)))) : Option Bool) = some true := by
        cases hd : drB ⟨out⟩
        · rfl
        · rw [s_l25Text_eq hd]
          have : drawT (Drawing_.mk out).Shapes ≠ p := fun h => hg ⟨hd, h⟩
          simp [this]
      rw [hb2]
      refine ⟨(⟨[]⟩, false), rfl, .inr rfl, fun x hx2 => ?_⟩
      rw [← hout x hx2] at hx2
      exact absurd hx2 hg
theorem read_both {p : ByteArray} (hp : p.size ≤ 1048576) : ∃ r, i_ReadDrawing_m p = some r ∧ s_ReadDrawing_m p = some r ∧ ((goodD p r.1 ∧ r.2 = true) ∨ r = (⟨[]⟩, false)) ∧ ∀ x, goodD p x → r = (x, true) := by
  obtain ⟨r, h1, h2, h3⟩ := read_i hp
  obtain ⟨q, g1, g2, g3⟩ := read_s hp
  refine ⟨r, h1, ?_, h2, h3⟩
  rw [g1]
  rcases h2 with ⟨a, b⟩ | a
  · rw [g3 _ a, ← b]
  · rcases g2 with ⟨c, d⟩ | c
    · have := h3 _ c
      rw [a] at this; simp at this
    · rw [a, c]
theorem sm_dr {x : Drawing_} (h1 : x.Shapes.length ≤ 1200) (h2 : ∀ s ∈ x.Shapes, s.Name.size ≤ 12) : smDrawing_ x := by
  unfold smDrawing_ smL smShape_ smSpot_ smS
  refine ⟨by omega, fun s hs => ?_⟩
  have := h2 s hs
  simp
  omega
theorem law_readDrawing (p0 : ByteArray) (k0 : osS p0) : l_FnExactReadDrawing_m p0 = some true := by
  unfold l_FnExactReadDrawing_m
  by_cases hb : 1048576 < (p0.size : Int)
  · rw [if_pos hb]
  · rw [if_neg hb]
    obtain ⟨r, h1, h2, h3, _⟩ := read_both (p := p0) (by omega)
    have hsm : smDrawing_ r.1 := by
      rcases h3 with ⟨hg, _⟩ | hg
      · obtain ⟨q1, q2⟩ := dr_all hg.1
        exact sm_dr q1 fun s hs => (sh_os (q2 s hs)).2.2.2
      · rw [hg]; exact sm_dr (by simp) fun s hs => (by cases hs)
    have hlen : r.1.Shapes.length ≤ 1200 := by
      rcases h3 with ⟨hg, _⟩ | hg
      · exact (dr_all hg.1).1
      · rw [hg]; simp
    rw [h1, h2]
    simp only [Option.bind_some, eqDrawing_refl hsm, markDrawing_eq (k := 1) (by omega) (by omega) hsm, heldDrawing_eq (k := 1) (by omega) (by omega) hsm, Bool.not_true, Bool.false_eq_true, if_false, bne_self_eq_false]
    rw [chk_t (by simp)]
    rw [if_neg (by omega)]
    simp
    omega
end Go.Proofs.YtjjelnpehgoagaaGreatDoor
namespace Go.Proofs.YtjjelnpehgoagaaGreatDoor
open Go.ChangeShapes Go.WideShapes Go.ChangeAt Go.RowKit
set_option linter.unusedVariables false
set_option maxRecDepth 100000
theorem var_block {W : World} {n : String} {g : Nat} {cs : Array Value} (hg : Tryz.prog.globalNamed n = some g) (h : W.var? Tryz.prog n = some cs) : ∃ t f, W.heap[g]? = some (.cells cs t f) ∧ g < W.heap.size := by
  unfold World.var? at h
  rw [hg] at h
  simp only [Option.bind_some] at h
  split at h
  · rename_i cs' t f hh
    cases h
    exact ⟨t, f, hh, (Array.getElem?_eq_some_iff.1 hh).1⟩
  · cases h
def litV : DataW Unit → Value
  | .lit (.int k z) => .int k z
  | _ => .bool false
def litsV : DataW Unit → List Value
  | .agg l => l.map litV
  | x => [litV x]
def valsOf : DataW Unit → Array Value
  | .agg l => (l.flatMap litsV).toArray
  | _ => #[]
def putV (cs : Array Value) : Obj → Obj
  | .cells _ t f => .cells cs t f
  | o => o
theorem pow_tab : (Rows.laid_internal_strconv_uint64pow10 : DataW Unit) = Lib.tabData .u64 Lib.pow10Tab := by kernel_rfl
def laidList : List (String × DataW Unit) := [("math/bits.deBruijn32tab", Rows.laid_math_bits_deBruijn32tab), ("math/bits.deBruijn64tab", Rows.laid_math_bits_deBruijn64tab), ("internal/strconv.uint64pow10", Rows.laid_internal_strconv_uint64pow10), ("unicode/utf8.acceptRanges", Rows.laid_unicode_utf8_acceptRanges), ("strconv.ErrRange", Rows.laid_strconv_ErrRange), ("strconv.ErrSyntax", Rows.laid_strconv_ErrSyntax), ("unicode/utf8.first", Rows.laid_unicode_utf8_first)]
theorem tab_named : Tryz.prog.globalNamed "internal/strconv.uint64pow10" = some 3 := by kernel_rfl
theorem glob_tab {W : World} {rest : List (String × DataW Unit)} (h : laidMet Tryz.prog (("internal/strconv.uint64pow10", Rows.laid_internal_strconv_uint64pow10) :: rest) W) :
    (fun b => b < W.heap.size) 3 ∧ (tabG 3 (Lib.pow10Tab.map fun z => Value.int .u64 z)).p W := by
  rw [pow_tab] at h
  have := Lib.tabIs_of_head (t := 131) (e := 82) (n := 20) tab_named (by kernel_rfl) Tryz.underlying131 Tryz.underlying82 (by kernel_rfl) (by kernel_rfl) h
  obtain ⟨t, f, h1, h2⟩ := var_block tab_named this
  exact ⟨h2, t, f, h1⟩
theorem star_err : "*" ++ "errors.errorString" = "*errors.errorString" := by decide
theorem only_err (u : TypeId) (h : Tryz.prog.typeName? 3 u = some "*errors.errorString") : u = 142 :=
  typeName_ptr_named (nm := "errors.errorString") (by rw [star_err]; kernel_rfl) (by kernel_rfl) (by decide) u (by rw [star_err]; exact h)
theorem err_here {n nm : String} {text : List UInt8} {rest : List (String × DataW Unit)} {W : World} {g : Nat} {ti tp te ts : TypeId} {ms : Array (String × TypeId)} {f : Field} (h : laidMet Tryz.prog ((n, .iface nm (.ptr (.agg [.lit (.string text)]))) :: rest) W)
    (hg : Tryz.prog.globalNamed n = some g) (ht : (Tryz.prog.globals[g]?).map (·.type) = some ti) (hi : Tryz.prog.underlying ti = some (.interface ms)) (hrow : ∀ u, Tryz.prog.typeName? 3 u = some nm → u = tp)
    (hp : Tryz.prog.underlying tp = some (.pointer te)) (he : Tryz.prog.underlying te = some (.struct #[f])) (hft : f.type = ts) (hfo : f.offset = 0) (hs : Tryz.prog.underlying ts = some .string) (hc : Tryz.prog.cellsOf te = 1) (hcs : Tryz.prog.cellsOf ts = 1) :
    (fun b => b < W.heap.size) g ∧ (errG g).p W := by
  obtain ⟨a, s, h1, _⟩ := laid_sentinel h hg ht hi hrow hp he hft hfo hs hc hcs
  obtain ⟨t, f, h2, h3⟩ := var_block hg h1
  exact ⟨h3, tp, .pointer (some a), t, f, h2⟩
theorem glob_of_laid {W : World} (h : laidMet Tryz.prog laidList W) : Glob (fun b => b < W.heap.size) W := by
  intro x hx
  simp only [globs, List.mem_cons, List.not_mem_nil, or_false] at hx
  rcases hx with rfl | rfl | rfl
  · exact glob_tab h.tail.tail
  · exact err_here (ti := 60) (tp := 142) (te := 144) h.tail.tail.tail.tail (by kernel_rfl) (by kernel_rfl) Tryz.underlying60 (fun u hu => only_err u hu) (by kernel_rfl) Tryz.underlying144 rfl rfl (by kernel_rfl) (by kernel_rfl) (by kernel_rfl)
  · exact err_here (ti := 60) (tp := 142) (te := 144) h.tail.tail.tail.tail.tail (by kernel_rfl) (by kernel_rfl) Tryz.underlying60 (fun u hu => only_err u hu) (by kernel_rfl) Tryz.underlying144 rfl rfl (by kernel_rfl) (by kernel_rfl) (by kernel_rfl)
def layU (h : Array Obj) : Array Obj := (h.modify 5 (putV (valsOf Rows.laid_unicode_utf8_acceptRanges))).modify 4 (putV (valsOf Rows.laid_unicode_utf8_first))
def textOf : DataW Unit → Value
  | .iface _ (.ptr (.agg [.lit (.string t)])) => .string ⟨t.toArray⟩
  | _ => .bool false
noncomputable def laidWorld (os : Os) : World :=
  let w0 := World.holding Tryz.prog os ⟨#[], #[], []⟩
  let h1 := layU <| ((w0.heap.modify 6 (putV (valsOf Rows.laid_math_bits_deBruijn32tab))).modify 7 (putV (valsOf Rows.laid_math_bits_deBruijn64tab))).modify 3 (putV (valsOf Rows.laid_internal_strconv_uint64pow10))
  let b := h1.size
  { w0 with heap := (((h1.push (.cells #[textOf Rows.laid_strconv_ErrRange] 144)).push (.cells #[textOf Rows.laid_strconv_ErrSyntax] 144)).modify 2 (putV #[.iface 142 (.pointer (some ⟨b, 0, none⟩))])).modify 1 (putV #[.iface 142 (.pointer (some ⟨b + 1, 0, none⟩))]) }
theorem laidWorld_met (os : Os) (args : Array Value) : laidMet Tryz.prog laidList ((laidWorld os).forCall (fun _ _ => 0) ⟨#[], args, []⟩).memory :=
  laidMet_of_run' 8 (by kernel_rfl) (by kernel_rfl)
end Go.Proofs.YtjjelnpehgoagaaGreatDoor
