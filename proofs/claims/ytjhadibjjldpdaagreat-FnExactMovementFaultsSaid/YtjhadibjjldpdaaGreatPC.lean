/- Plain laws, C: more loops over rows. No program. -/
import Derived.Test.YtjhadibjjldpdaaGreatPA
namespace Go.Proofs.YtjhadibjjldpdaaGreat
set_option linter.unusedVariables false
/-- all elements, each with its place, are asked -/
def allI {α : Type} (xs : List α) (f : Nat → α → Bool) : Bool := (List.range xs.length).all fun i => if hi : i < xs.length then f i xs[i] else true
theorem allI_iff {α : Type} {xs : List α} {f : Nat → α → Bool} : allI xs f = true ↔ ∀ (i : Nat) (hi : i < xs.length), f i xs[i] = true := by
  unfold allI
  rw [List.all_eq_true]
  constructor
  · intro h i hi
    have := h i (List.mem_range.2 hi)
    rwa [dif_pos hi] at this
  · intro h i hi
    have hi := List.mem_range.1 hi
    rw [dif_pos hi]
    exact h i hi
theorem allI_congr {α : Type} {xs : List α} {f g : Nat → α → Bool} (h : ∀ (i : Nat) (hi : i < xs.length), f i xs[i] = g i xs[i]) : allI xs f = allI xs g := by
  rw [Bool.eq_iff_iff, allI_iff, allI_iff]
  exact forall_congr' fun i => forall_congr' fun hi => by rw [h i hi]
theorem allI_all {α : Type} {xs : List α} {f : α → Bool} : allI xs (fun _ v => f v) = xs.all f := all_range fun i hi => by simp [hi]
theorem scanG {α X : Type} {xs : List α} {G : Int → Option (Int ⊕ X)} (f : Nat → α → Bool) {d e : X} (hl : xs.length ≤ 9223372036854775807) (hG : ∀ (i : Nat) (hi : i < xs.length), G i = some (if f i xs[i] = true then .inl (w64 ((i : Int) + 1)) else .inr e)) :
    loopM (fun s => (if s < (xs.length : Int) then G s else some (.inr d))) 0 = some (if allI xs f = true then d else e) := by
  refine scan_ok (n := xs.length) (g := fun i => if hi : i < xs.length then f i xs[i] else true) (fun i hi => ?_) (by simp) hl
  have hi' : (i : Int) < xs.length := by omega
  have e1 : w64 ((i : Int) + 1) = i + 1 := w64_in (by omega) (by omega)
  simp only [if_pos hi', hG i hi, hi, dite_true, e1]
/-- the front of a row -/
theorem scanT {α X : Type} {xs : List α} {G : Int → Option (Int ⊕ X)} (k : Nat) (f : Nat → α → Bool) {d e : X} (hk : k ≤ xs.length) (hl : xs.length ≤ 9223372036854775807) (hG : ∀ (i : Nat) (hi : i < xs.length), i < k → G i = some (if f i xs[i] = true then .inl (w64 ((i : Int) + 1)) else .inr e)) :
    loopM (fun s => (if s < (k : Int) then G s else some (.inr d))) 0 = some (if allI (xs.take k) f = true then d else e) := by
  have hlen : (xs.take k).length = k := by rw [List.length_take]; omega
  have := scanG (xs := xs.take k) (G := G) f (d := d) (e := e) (by omega) (fun i hi => by
    rw [List.getElem_take]; exact hG i (by omega) (by omega))
  rwa [hlen] at this
/-- the place of the first element that fits -/
def posOf {α : Type} (xs : List α) (p : α → Bool) : Int := match xs.findIdx? p with
  | some i => i
  | none => -1
theorem findG {α : Type} {xs : List α} {G : Int → Option (Int ⊕ (Unit ⊕ Int))} (p : α → Bool) (hl : xs.length ≤ 9223372036854775807) (hG : ∀ (i : Nat) (hi : i < xs.length), G i = (if p xs[i] = true then some (.inr (.inr (i : Int))) else some (.inl (w64 ((i : Int) + 1))))) :
    ((loopM (fun s => (if s < (xs.length : Int) then G s else some (.inr (.inl ())))) 0 : Option (Unit ⊕ Int)).bind fun x => orE x fun v => some (-1)) = some (posOf xs p) := by
  obtain ⟨x, hx, h⟩ := find_ok (X := Unit ⊕ Int) (n := xs.length) (step := fun s => (if s < (xs.length : Int) then G s else some (.inr (.inl ())))) (g := fun i => if hi : i < xs.length then !p xs[i] else true) (d := .inl ()) (e := fun i => .inr (i : Int)) (fun i hi => by
    have hi' : (i : Int) < xs.length := by omega
    have e1 : w64 ((i : Int) + 1) = i + 1 := w64_in (by omega) (by omega)
    simp only [if_pos hi', hG i hi, hi, dite_true, e1]
    cases p xs[i] <;> rfl) (by simp) hl
  rw [hx]
  unfold posOf
  rcases h with ⟨h, rfl⟩ | ⟨i, hi, hg, hj, rfl⟩
  · have : xs.findIdx? p = none := by
      rw [List.findIdx?_eq_none_iff]
      intro v hv
      obtain ⟨i, hi, rfl⟩ := List.getElem_of_mem hv
      have := h i hi
      simpa [hi] using this
    rw [this]; rfl
  · have : xs.findIdx? p = some i := by
      rw [List.findIdx?_eq_some_iff_getElem]
      refine ⟨hi, by simpa [hi] using hg, fun j hji => ?_⟩
      have := hj j hji
      have hjl : j < xs.length := by omega
      simpa [hjl] using this
    rw [this]; rfl
theorem posOf_nn {α : Type} {xs : List α} {p : α → Bool} : decide (0 ≤ posOf xs p) = xs.any p := by
  unfold posOf
  cases h : xs.findIdx? p with
  | none =>
    rw [List.findIdx?_eq_none_iff] at h
    have e : xs.any p = false := by
      rw [← Bool.not_eq_true, List.any_eq_true]
      rintro ⟨v, hv, hp⟩
      rw [h v hv] at hp; cases hp
    rw [e]; rfl
  | some i =>
    rw [List.findIdx?_eq_some_iff_getElem] at h
    obtain ⟨hi, hp, _⟩ := h
    rw [List.any_eq_true.2 ⟨_, List.getElem_mem hi, hp⟩]
    exact decide_eq_true (by show (0 : Int) ≤ (i : Int); omega)
theorem posOf_here {α : Type} {xs : List α} {p : α → Bool} {i : Nat} (hi : i < xs.length) (hp : p xs[i] = true) : decide (posOf xs p ≠ (i : Int)) = (xs.take i).any p := by
  unfold posOf
  cases h : xs.findIdx? p with
  | none =>
    rw [List.findIdx?_eq_none_iff] at h
    rw [h _ (List.getElem_mem hi)] at hp; cases hp
  | some j =>
    rw [List.findIdx?_eq_some_iff_getElem] at h
    obtain ⟨hj, hpj, hmin⟩ := h
    by_cases e : j = i
    · subst e
      have e2 : (xs.take j).any p = false := by
        rw [← Bool.not_eq_true, List.any_eq_true]
        rintro ⟨v, hv, hq⟩
        obtain ⟨k, hk, rfl⟩ := List.getElem_of_mem hv
        rw [List.length_take] at hk
        rw [List.getElem_take] at hq
        exact hmin k (by omega) hq
      rw [e2]
      exact decide_eq_false (by simp)
    · have hlt : j < i := by
        rcases Nat.lt_trichotomy j i with h | h | h
        · exact h
        · exact absurd h e
        · exact absurd hp (hmin i h)
      have e2 : (xs.take i).any p = true := List.any_eq_true.2 ⟨xs[j], by
        rw [List.mem_iff_getElem]
        exact ⟨j, by rw [List.length_take]; omega, by rw [List.getElem_take]⟩, hpj⟩
      rw [e2]
      exact decide_eq_true (by show (j : Int) ≠ (i : Int); omega)
theorem subL0 {α : Type} {xs : List α} {i : Nat} : subL xs 0 (i : Int) = xs.take i := by simp [subL]
theorem subL_ok {α : Type} {xs : List α} {i : Nat} (h : i ≤ xs.length) : 0 ≤ (0 : Int) ∧ (0 : Int) ≤ (i : Int) ∧ (i : Int) ≤ (xs.length : Int) := by omega
/-- loops with a state, element by element -/
def forL {α σ X : Type} (body : Nat → α → σ → Option (σ ⊕ X)) : List α → Nat → σ → Option (σ ⊕ X)
  | [], _, s => some (.inl s)
  | x :: xs, i, s => (body i x s).bind fun r => match r with
    | .inl s' => forL body xs (i + 1) s'
    | .inr y => some (.inr y)
theorem loopN_succ {S X : Type} (step : S → Option (S ⊕ X)) (n : Nat) (s : S) : loopN step (n + 1) s = (step s).bind fun r => match r with
    | .inl s' => loopN step n s'
    | .inr y => some y := by
  cases h : step s with
  | none => simp [loopN, h]
  | some r => cases r <;> simp [loopN, h]
theorem loop_for {α S σ X : Type} {xs : List α} {step : S → Option (S ⊕ X)} (mk : Int → σ → S) (body : Nat → α → σ → Option (σ ⊕ X)) (fin : σ → X) (hl : xs.length ≤ 9223372036854775807)
    (hS : ∀ (i : Nat) (hi : i < xs.length) s, step (mk i s) = (body i xs[i] s).map (Sum.map (mk ((i : Int) + 1)) id)) (hE : ∀ s, step (mk xs.length s) = some (.inr (fin s))) (s0 : σ) :
    loopM step (mk 0 s0) = (forL body xs 0 s0).map (Sum.elim fin id) := by
  have key : ∀ (k : Nat) (ys : List α) (n : Nat) s, ys.length + k = xs.length → ys = xs.drop k → ys.length < n → loopN step n (mk (k : Int) s) = (forL body ys k s).map (Sum.elim fin id) := by
    intro k ys
    induction ys generalizing k with
    | nil =>
      intro n s h1 h2 h3
      obtain ⟨n, rfl⟩ : ∃ m, n = m + 1 := ⟨n - 1, by simp at h3; omega⟩
      have : k = xs.length := by simpa using h1
      subst this
      rw [loopN_succ, hE]; rfl
    | cons y ys ih =>
      intro n s h1 h2 h3
      obtain ⟨n, rfl⟩ : ∃ m, n = m + 1 := ⟨n - 1, by simp at h3; omega⟩
      have hk : k < xs.length := by simp at h1; omega
      rw [List.drop_eq_getElem_cons hk] at h2
      injection h2 with h2 h4
      rw [loopN_succ, hS k hk, ← h2]
      show _ = ((body k y s).bind _).map _
      cases body k y s with
      | none => rfl
      | some r =>
        cases r with
        | inr z => rfl
        | inl s' => exact ih (k + 1) n s' (by simp at h1; omega) h4 (by simp at h3; omega)
  exact key 0 xs fuel s0 (by simp) (by simp) (by unfold fuel; omega)
theorem loop_forI {α S σ X : Type} {xs : List α} {step : S → Option (S ⊕ X)} (mk : Int → σ → S) (body : Nat → α → σ → Option (σ ⊕ X)) (fin : σ → X) (I : σ → Prop) (hl : xs.length ≤ 9223372036854775807)
    (hS : ∀ (i : Nat) (hi : i < xs.length) s, I s → step (mk i s) = (body i xs[i] s).map (Sum.map (mk ((i : Int) + 1)) id)) (hI : ∀ (i : Nat) (hi : i < xs.length) s s', I s → body i xs[i] s = some (.inl s') → I s') (hE : ∀ s, I s → step (mk xs.length s) = some (.inr (fin s))) (s0 : σ) (h0 : I s0) :
    loopM step (mk 0 s0) = (forL body xs 0 s0).map (Sum.elim fin id) := by
  have key : ∀ (k : Nat) (ys : List α) (n : Nat) s, I s → ys.length + k = xs.length → ys = xs.drop k → ys.length < n → loopN step n (mk (k : Int) s) = (forL body ys k s).map (Sum.elim fin id) := by
    intro k ys
    induction ys generalizing k with
    | nil =>
      intro n s hs h1 h2 h3
      obtain ⟨n, rfl⟩ : ∃ m, n = m + 1 := ⟨n - 1, by simp at h3; omega⟩
      have : k = xs.length := by simpa using h1
      subst this
      rw [loopN_succ, hE s hs]; rfl
    | cons y ys ih =>
      intro n s hs h1 h2 h3
      obtain ⟨n, rfl⟩ : ∃ m, n = m + 1 := ⟨n - 1, by simp at h3; omega⟩
      have hk : k < xs.length := by simp at h1; omega
      rw [List.drop_eq_getElem_cons hk] at h2
      injection h2 with h2 h4
      rw [loopN_succ, hS k hk s hs, ← h2]
      show _ = ((body k y s).bind _).map _
      cases hb : body k y s with
      | none => rfl
      | some r =>
        cases r with
        | inr z => rfl
        | inl s' => exact ih (k + 1) n s' (hI k hk s s' hs (by rw [← h2]; exact hb)) (by simp at h1; omega) h4 (by simp at h3; omega)
  exact key 0 xs fuel s0 h0 (by simp) (by simp) (by unfold fuel; omega)
theorem forL_fold {α σ X : Type} {body : Nat → α → σ → Option (σ ⊕ X)} (f : σ → α → σ) (h : ∀ i x s, body i x s = some (.inl (f s x))) : ∀ (xs : List α) (k : Nat) (s : σ), forL body xs k s = some (.inl (xs.foldl f s))
  | [], k, s => rfl
  | x :: xs, k, s => by
    show (body k x s).bind _ = _
    rw [h]
    exact forL_fold f h xs (k + 1) (f s x)
/-! truths that are asked one after the other -/
theorem itA {a b : Bool} : (if a = true then some b else some false) = some (a && b) := by cases a <;> rfl
theorem itO {a b : Bool} : (if a = true then some true else some b) = some (a || b) := by cases a <;> rfl
theorem itF {a b : Bool} : (if a = true then some false else some b) = some (!a && b) := by cases a <;> rfl
theorem itAp {p : Prop} [Decidable p] {b : Bool} : (if p then some b else some false) = some (decide p && b) := by by_cases h : p <;> simp [h]
theorem itOp {p : Prop} [Decidable p] {b : Bool} : (if p then some true else some b) = some (decide p || b) := by by_cases h : p <;> simp [h]
theorem itFp {p : Prop} [Decidable p] {b : Bool} : (if p then some false else some b) = some (!decide p && b) := by by_cases h : p <;> simp [h]
theorem scan_and {a b : Bool} {k : Option Bool} (h : k = some b) : (orE (if a = true then (.inl () : Unit ⊕ Bool) else .inr false) fun _ => k) = some (a && b) := by cases a <;> simp [orE, h]
/-- a loop that counts -/
theorem countI {S σ X : Type} {step : S → Option (S ⊕ X)} (mk : Int → σ → S) (a : Int) (n : Nat) (f : Nat → σ → σ) (fin : σ → X) (I : Nat → σ → Prop) (hn : n ≤ 9223372036854775807)
    (hS : ∀ (i : Nat) s, i < n → I i s → step (mk (a + i) s) = some (.inl (mk (a + ((i + 1 : Nat) : Int)) (f i s)))) (hI : ∀ (i : Nat) s, i < n → I i s → I (i + 1) (f i s)) (hE : ∀ s, I n s → step (mk (a + n) s) = some (.inr (fin s))) (s0 : σ) (h0 : I 0 s0) :
    loopM step (mk a s0) = some (fin ((List.range n).foldl (fun s i => f i s) s0)) := by
  have key : ∀ (j i m : Nat) s, i + j = n → I i s → j < m → loopN step m (mk (a + i) s) = some (fin ((List.range' i j).foldl (fun s i => f i s) s)) := by
    intro j
    induction j with
    | zero =>
      intro i m s h1 h2 h3
      obtain ⟨m, rfl⟩ : ∃ q, m = q + 1 := ⟨m - 1, by omega⟩
      have : i = n := by omega
      subst this
      rw [loopN_succ, hE s h2]; rfl
    | succ j ih =>
      intro i m s h1 h2 h3
      obtain ⟨m, rfl⟩ : ∃ q, m = q + 1 := ⟨m - 1, by omega⟩
      rw [loopN_succ, hS i s (by omega) h2, Option.bind_some]
      exact ih (i + 1) m (f i s) (by omega) (hI i s (by omega) h2) (by omega)
  have := key n 0 fuel s0 (by omega) h0 (by unfold fuel; omega)
  rw [List.range_eq_range']
  show loopN step fuel (mk a s0) = _
  simpa using this
theorem foldl_snoc {α : Type} (g : Nat → α) : ∀ (n : Nat) (s : List α), (List.range n).foldl (fun s i => s ++ [g i]) s = s ++ (List.range n).map g
  | 0, s => by simp
  | n + 1, s => by rw [List.range_succ, List.foldl_append, foldl_snoc g n, List.map_append]; simp
theorem foldl_filter {α : Type} (g : Nat → α) (p : Nat → Bool) : ∀ (n : Nat) (s : List α), (List.range n).foldl (fun s i => if p i = true then s ++ [g i] else s) s = s ++ ((List.range n).filter p).map g
  | 0, s => by simp
  | n + 1, s => by
    rw [List.range_succ, List.foldl_append, foldl_filter g p n, List.filter_append, List.map_append]
    cases h : p n <;> simp [h]
/-- the first element that fits, and what is made of it -/
theorem firstG {α Y : Type} {xs : List α} {G : Int → Option (Int ⊕ (Unit ⊕ Y))} (p : α → Bool) (g : α → Y) (z : Y) (hl : xs.length ≤ 9223372036854775807) (hG : ∀ (i : Nat) (hi : i < xs.length), G i = (if p xs[i] = true then some (.inr (.inr (g xs[i]))) else some (.inl (w64 ((i : Int) + 1))))) :
    ((loopM (fun s => (if s < (xs.length : Int) then G s else some (.inr (.inl ())))) 0 : Option (Unit ⊕ Y)).bind fun x => orE x fun v => some z) = some (((xs.find? p).map g).getD z) := by
  obtain ⟨x, hx, h⟩ := find_ok (X := Unit ⊕ Y) (n := xs.length) (step := fun s => (if s < (xs.length : Int) then G s else some (.inr (.inl ())))) (g := fun i => if hi : i < xs.length then !p xs[i] else true) (d := .inl ()) (e := fun i => if hi : i < xs.length then .inr (g xs[i]) else .inl ()) (fun i hi => by
    have hi' : (i : Int) < xs.length := by omega
    have e1 : w64 ((i : Int) + 1) = i + 1 := w64_in (by omega) (by omega)
    simp only [if_pos hi', hG i hi, hi, dite_true, e1]
    cases p xs[i] <;> rfl) (by simp) hl
  rw [hx]
  rcases h with ⟨h, rfl⟩ | ⟨i, hi, hg, hj, rfl⟩
  · have : xs.find? p = none := by
      rw [List.find?_eq_none]
      intro v hv
      obtain ⟨i, hi, rfl⟩ := List.getElem_of_mem hv
      have := h i hi
      simpa [hi] using this
    rw [this]; rfl
  · have : xs.find? p = some xs[i] := by
      rw [List.find?_eq_some_iff_getElem]
      refine ⟨by simpa [hi] using hg, i, hi, rfl, fun j hji => ?_⟩
      have := hj j hji
      have hjl : j < xs.length := by omega
      simpa [hjl] using this
    rw [this]
    simp only [hi, dite_true]; rfl
end Go.Proofs.YtjhadibjjldpdaaGreat
