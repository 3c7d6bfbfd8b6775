/- Proved: blows of two periods that follow one another are added, and a day has 156 of them, for every input. -/
import Derived.Test.YtacnijnilopckaaA2
import Derived.Test.YtacnijnilopckaaAr
namespace Go.Proofs.Ytacnijnilopckaa.fnBlows
open Go.ChangeShapes Go.WideShapes Go.ChangeAt Go.RowKit
set_option linter.unusedVariables false

theorem day (a : Int) (h0 : 0 ≤ a) (h1 : a ≤ 300000) : blows ((a + 86400) / 3600) - blows (a / 3600) = 156 := by
  have e1 : (a + 86400) / 3600 = a / 3600 + 24 := by omega
  rw [e1]
  generalize a / 3600 = k
  unfold blows
  have e2 : (k + 24) / 12 = k / 12 + 2 := by omega
  have e3 : (k + 24) % 12 = k % 12 := by omega
  rw [e2, e3]
  omega
theorem ok_of (s f t : Int) (h0 : 0 ≤ s) (h1 : s ≤ 2) (h2 : 0 ≤ f) (h3 : f ≤ t) (h4 : t ≤ 1000000000) : bb2 s f t = 0 := by
  unfold bb2; rw [if_pos (bbOk_iff.2 ⟨⟨h0, h1⟩, ⟨h2, h3⟩, h4⟩)]
theorem val_of (s f t : Int) (h0 : 1 ≤ s) (h1 : s ≤ 2) (h2 : 0 ≤ f) (h3 : f ≤ t) (h4 : t ≤ 1000000000) : bb1 s f t = blows (t / 3600) - blows (f / 3600) := by
  unfold bb1; rw [if_pos ⟨bbOk_iff.2 ⟨⟨by omega, h1⟩, ⟨h2, h3⟩, h4⟩, by omega⟩]
theorem val_none (f t : Int) : bb1 0 f t = 0 := by simp [bb1]
/-- in the ranges of this law few blows are struck -/
theorem mono_bd (f t : Int) (h2 : 0 ≤ f) (h3 : f ≤ t) (h4 : t ≤ 400000) : 0 ≤ blows (t / 3600) - blows (f / 3600) ∧ blows (t / 3600) - blows (f / 3600) ≤ 10000 := by
  have hm : ∀ k : Nat, ∀ x : Int, 0 ≤ x → x ≤ 100000 → blows x ≤ blows (x + k) := by
    intro k
    induction k with
    | zero => intro x _ _; simp
    | succ k ih =>
      intro x h0 h1
      have := ih x h0 h1
      have step : ∀ y : Int, 0 ≤ y → blows y ≤ blows (y + 1) := by
        intro y hy
        unfold blows
        by_cases c : y % 12 = 11
        · have e1 : (y + 1) % 12 = 0 := by omega
          have e2 : (y + 1) / 12 = y / 12 + 1 := by omega
          rw [c, e1, e2]; omega
        · have e1 : (y + 1) % 12 = y % 12 + 1 := by omega
          have e2 : (y + 1) / 12 = y / 12 := by omega
          rw [e1, e2]
          have p := mul_bd (a := y % 12) (b := y % 12 + 1) (A := 11) (B := 12) (by omega) (by omega) (by omega) (by omega)
          have q : (y % 12 + 1) * (y % 12 + 1 + 1) = y % 12 * (y % 12 + 1) + 2 * (y % 12 + 1) := by
            rw [Int.mul_add, Int.add_mul, Int.add_mul, Int.mul_add]; omega
          rw [q]
          omega
      have s1 := step (x + k) (by omega)
      have e : x + ((k + 1 : Nat) : Int) = x + k + 1 := by omega
      rw [e]; omega
  have a := hm (t / 3600 - f / 3600).toNat (f / 3600) (by omega) (by omega)
  have e : f / 3600 + ((t / 3600 - f / 3600).toNat : Int) = t / 3600 := by omega
  rw [e] at a
  have b1 := blows_bd (t / 3600) (by omega) (by omega)
  have b2 := blows_bd (f / 3600) (by omega) (by omega)
  omega

set_option maxHeartbeats 1000000 in
theorem walk0 (w : World) (a : Option Addr) (n c : Nat) (zs : List Int) (h : IsRow .u8 w a n c zs) :
    Calls Try.prog 3 #[.slice a n c] w fun e w' => e = .returned (.bool true) ∧ Below w.heap.size w w' := by
  by_cases hn : n ≤ 3000
  · have H := Lib.hid h
    clear h
    go_enter Try.func3, Try.ntmps3
    go_wp2_with (go_at_call 9; refine (a2Long_f _ _ _ _ _ _ _ (by omega) (by omega)).mono ?_; rintro e w' ⟨rfl, rfl⟩)
    refine (a2At_c _ _ _ zs _ _ H.out (by omega)).mono ?_
    rintro e w' ⟨x, x0, x1, rfl, rfl⟩
    go_wp2_with fail
    refine (a2At_c _ _ _ zs _ _ H.out (by omega)).mono ?_
    rintro e w' ⟨y, y0, y1, rfl, rfl⟩
    go_wp2_with fail
    refine (a2At_c _ _ _ zs _ _ H.out (by omega)).mono ?_
    rintro e w' ⟨z, z0, z1, rfl, rfl⟩
    clear H
    have e1 := ok_of 2 (400 * x) (400 * x + 400 * y) (by omega) (by omega) (by omega) (by omega) (by omega)
    have e2 := ok_of 2 (400 * x + 400 * y) (400 * x + 400 * y + 400 * z) (by omega) (by omega) (by omega) (by omega) (by omega)
    have e3 := ok_of 2 (400 * x) (400 * x + 400 * y + 400 * z) (by omega) (by omega) (by omega) (by omega) (by omega)
    have e4 := ok_of 1 (400 * x) (400 * x + 86400) (by omega) (by omega) (by omega) (by omega) (by omega)
    have e5 := ok_of 0 (400 * x) (400 * x + 400 * y + 400 * z) (by omega) (by omega) (by omega) (by omega) (by omega)
    have v5 := val_none (400 * x) (400 * x + 400 * y + 400 * z)
    have v4 : bb1 1 (400 * x) (400 * x + 86400) = 156 := by
      rw [val_of _ _ _ (by omega) (by omega) (by omega) (by omega) (by omega)]
      exact day (400 * x) (by omega) (by omega)
    have v1 := val_of 2 (400 * x) (400 * x + 400 * y) (by omega) (by omega) (by omega) (by omega) (by omega)
    have v2 := val_of 2 (400 * x + 400 * y) (400 * x + 400 * y + 400 * z) (by omega) (by omega) (by omega) (by omega) (by omega)
    have v3 := val_of 2 (400 * x) (400 * x + 400 * y + 400 * z) (by omega) (by omega) (by omega) (by omega) (by omega)
    have m1 := mono_bd (400 * x) (400 * x + 400 * y) (by omega) (by omega) (by omega)
    have m2 := mono_bd (400 * x + 400 * y) (400 * x + 400 * y + 400 * z) (by omega) (by omega) (by omega)
    rw [← v1] at m1
    rw [← v2] at m2
    have sm : bb1 2 (400 * x) (400 * x + 400 * y) + bb1 2 (400 * x + 400 * y) (400 * x + 400 * y + 400 * z) = bb1 2 (400 * x) (400 * x + 400 * y + 400 * z) := by omega
    clear v1 v2 v3
    obtain ⟨m1a, m1b⟩ := m1
    obtain ⟨m2a, m2b⟩ := m2
    go_wp2_with (go_at_call 11; refine (BlowsBetween_c _ _ _ _).mono ?_; rintro e w' ⟨rfl, rfl⟩)
    go_ret
    exact ⟨rfl, Below.refl _ _⟩
  · clear h
    go_enter Try.func3, Try.ntmps3
    go_wp2_with (first | (go_at_call 9; refine (a2Long_t _ _ _ _ _ _ _ (by omega)).mono ?_; rintro e w' ⟨rfl, rfl⟩))
    go_ret
    exact ⟨rfl, Below.refl _ _⟩

theorem walk (w : World) (v : Value) (H : Type) (enc : TypeId × Value → H) (d : DataW H) (p : List MemPlace) (base : Nat)
    (hv : Value.okWide Try.prog w .any base 22 v) (h : DataW.Trod enc Try.prog w 0 (fun _ => true) true 22 v d p) :
    Calls Try.prog 3 #[v] w fun e w' => e = .returned (.bool true) ∧ Below w.heap.size w w' := by
  obtain ⟨a, n, c, zs, rfl, hr⟩ := open_bytes hv h
  exact walk0 w a n c zs hr

set_option maxRecDepth 100000 in
theorem lifted (os : Os) (started : os.Started) (H : Type) (enc : TypeId × Value → H) :
    ReturnsInHanded {} Try.checked os 3 .any (Rows.fnBlowsSpec.pre6 enc Try.prog Try.f3 Rows.fnBlowsRow.domain false) (Rows.fnBlowsSpec.post enc Try.prog Try.f3 false true false false) := by
  refine returnsInHanded_of_change (C := Try.checked) own started (by kernel_rfl) Try.func3
    (ChangeSpec.witness6 (enc := enc) (C := Try.checked) false ⟨#[], #[.slice none 0 0], []⟩ 8 (by kernel_rfl) (by kernel_rfl) (by kernel_rfl) (by kernel_rfl)) ?_
  intro W base args ds gs before hval0 hW hcnd _
  have hval : ∀ (j : Nat) t v, Try.f3.params[j]? = some t → args[j]? = some v → Value.okWide Try.prog W .any base t v := hval0
  have hW' := hW
  obtain ⟨p, q, hA0, hV, rfl, hfz, hnd⟩ := hW
  have hA : DataW.TrodAll enc Try.prog W 0 (fun _ => true) true Try.f3.params.toList args.toList ds p := hA0
  rw [Try.params3] at hA hval
  obtain ⟨v0, vs0, d0, ds0, p0, q0, hargs, rfl, rfl, h0, r0⟩ := trodAll_cons hA
  obtain ⟨rfl, rfl, rfl⟩ := trodAll_nil r0
  obtain rfl : args = #[v0] := by cases args; simp_all
  obtain ⟨rfl, rfl⟩ := trodVars_none hV
  have k0 := h0
  have lt0 : ∀ x ∈ p0, x.block < W.heap.size := by obtain ⟨m, hm⟩ := k0; exact DataW.trod_lt m _ _ _ hm
  clear hA0 hval0
  refine (walk W v0 _ _ _ _ _ (hval 0 22 v0 rfl rfl) k0).mono fun e W' ⟨he, bel⟩ => ?_
  subst he
  exact ⟨_, rfl, _, _, _, [], _, [], hW', trodAll_mk1 (shut_bool Try.underlying4 _), (trodAll_cons_mk (Below.trod laidOut (by kernel_rfl) (of_decide_eq_true (by kernel_rfl)) k0 bel lt0) trodAll_mk0), rfl, bel.frame _, fun h => by cases h⟩

theorem over : Rows.fnBlowsRow.holds Try.pinned (OpenSpec.ofChange Rows.fnBlowsSpec) :=
  OpenClaim.holds_of_wide 3 Try.f3 rfl rfl rfl rfl rfl rfl rfl ⟨rfl, rfl, rfl, rfl, rfl⟩ rfl rfl rfl rfl rfl (by kernel_rfl) Try.func3 (by kernel_rfl)
    (of_decide_eq_true (by kernel_rfl)) (by unfold Func.isWrapper; first | (rw [if_pos (by decide +kernel)]; kernel_rfl) | (rw [if_neg (by decide +kernel)]; exact ⟨rfl, rfl⟩))
    (fun os started H enc _ => lifted os started H enc)

theorem proved : Rows.FnBlowsSaid := over

end Go.Proofs.Ytacnijnilopckaa.fnBlows
