/- Proved: spots of a circle lie near it, opposite spots are opposite, and a spot and its mirror image have the same height, for every input. Conditions: none. -/
import Derived.Test.YtacnijnilopckaaOpen
import Derived.Test.YtacnijnilopckaaEqSpot
import Derived.Test.YtacnijnilopckaaDrawRound
import Derived.Test.YtacnijnilopckaaCircle
namespace Go.Proofs.Ytacnijnilopckaa.fnRoundSpots
open Go.ChangeShapes Go.WideShapes Go.ChangeAt Go.RowKit
set_option linter.unusedVariables false

set_option maxHeartbeats 400000 in
theorem f6big_c (a : Option Addr) (n c : Nat) (w : World) :
    Calls Try.prog 21 #[.slice a n c] w fun e w' => e = .returned (.bool (decide (4096 < (n : Int)))) ∧ w = w' := by
  go_enter Try.func21, Try.ntmps21
  go_wp2
  go_ret
  exact ⟨rfl, rfl⟩
set_option maxHeartbeats 400000 in
theorem f6size_p (n : Int) (w : World) (h : 0 ≤ n) :
    Calls Try.prog 23 #[.int .i64 n] w fun e w' => e = .returned (.int .i64 n) ∧ w = w' := by
  go_enter Try.func23, Try.ntmps23
  go_wp2
  go_ret
  exact ⟨rfl, rfl⟩
set_option maxHeartbeats 400000 in
theorem f6size_n (n : Int) (w : World) (h : n < 0) (h1 : -4000000000000000000 ≤ n) :
    Calls Try.prog 23 #[.int .i64 n] w fun e w' => e = .returned (.int .i64 (-n)) ∧ w = w' := by
  go_enter Try.func23, Try.ntmps23
  go_wp2
  go_ret
  exact ⟨rfl, rfl⟩

theorem RoundSpot_y (r k n : Int) (w : World) (h : rsOk r k n) :
    Calls Try.prog 19 #[.int .i64 r, .int .i64 k, .int .i64 n] w fun e w' => e = .returned (.tuple #[spotV (spotX r k n) (spotY r k n), .int .i64 0]) ∧ Below w.heap.size w w' := by
  have := RoundSpot_c r k n w
  rwa [rs0_y h, rs1_y h] at this
theorem sRoundSpot_y (r k n : Int) (w : World) (h : rsOk r k n) :
    Calls Try.prog 18 #[.int .i64 r, .int .i64 k, .int .i64 n] w fun e w' => e = .returned (.tuple #[spotV (spotX r k n) (spotY r k n), .int .i64 0]) ∧ Below w.heap.size w w' := by
  have := sRoundSpot_c r k n w
  rwa [rs0_y h, rs1_y h] at this
theorem RoundSpot_n (r k n : Int) (w : World) (h : ¬ rsOk r k n) :
    Calls Try.prog 19 #[.int .i64 r, .int .i64 k, .int .i64 n] w fun e w' => e = .returned (.tuple #[spotV 0 0, .int .i64 2]) ∧ Below w.heap.size w w' := by
  have := RoundSpot_c r k n w
  rwa [rs0_n h, rs1_n h] at this
theorem sRoundSpot_n (r k n : Int) (w : World) (h : ¬ rsOk r k n) :
    Calls Try.prog 18 #[.int .i64 r, .int .i64 k, .int .i64 n] w fun e w' => e = .returned (.tuple #[spotV 0 0, .int .i64 2]) ∧ Below w.heap.size w w' := by
  have := sRoundSpot_c r k n w
  rwa [rs0_n h, rs1_n h] at this
/-- the two cells of a new block behind a call -/
theorem two_cells {w w' : World} {x y : Int} {t : TypeId} (hb : Below (w.alloc (.cells #[.int .i64 x, .int .i64 y] t)).heap.size (w.alloc (.cells #[.int .i64 x, .int .i64 y] t)) w') :
    w'.cell? ⟨w.heap.size, 0, none⟩ = some (.int .i64 x) ∧ w'.cell? ⟨w.heap.size, 1, none⟩ = some (.int .i64 y) ∧ w.heap.size < w'.heap.size := by
  have h := (Blk.new w t #[.int .i64 x, .int .i64 y]).below hb (by simp)
  exact ⟨h.cell 0, h.cell 1, h.lt⟩
theorem mirror_ok {r k n : Int} (h : rsOk r k n) : rsOk r ((n - k) % n) n := by
  obtain ⟨h1, h2, h3⟩ := h
  have := Int.emod_nonneg (n - k) (show n ≠ 0 by omega)
  have := Int.emod_lt_of_pos (n - k) (show 0 < n by omega)
  exact ⟨h1, h2, by omega, by omega⟩
theorem half_ok {r k n : Int} (h : rsOk r k n) : rsOk r ((k + n / 2) % n) n := by
  obtain ⟨h1, h2, h3⟩ := h
  have := Int.emod_nonneg (k + n / 2) (show n ≠ 0 by omega)
  have := Int.emod_lt_of_pos (k + n / 2) (show 0 < n by omega)
  exact ⟨h1, h2, by omega, by omega⟩
theorem mirror_x {r k n : Int} (h : rsOk r k n) : spotX r ((n - k) % n) n = - spotX r k n := sinV_neg r k n h.2.1.1 h.2.2.1 (by have := h.2.2.2; omega)
theorem mirror_y {r k n : Int} (h : rsOk r k n) : spotY r ((n - k) % n) n = spotY r k n := by
  obtain ⟨h1, h2, h3⟩ := h
  unfold spotY
  have a0 := Int.emod_nonneg (4 * ((n - k) % n) + n) (show 4 * n ≠ 0 by omega)
  have a1 := Int.emod_lt_of_pos (4 * ((n - k) % n) + n) (show 0 < 4 * n by omega)
  have b0 := Int.emod_nonneg (4 * k + n) (show 4 * n ≠ 0 by omega)
  have b1 := Int.emod_lt_of_pos (4 * k + n) (show 0 < 4 * n by omega)
  have s := sinV_supp r ((4 * ((n - k) % n) + n) % (4 * n)) ((4 * k + n) % (4 * n)) (2 * n) (by omega) a0 (by omega) b0 (by omega)
  rw [show 2 * (2 * n) = 4 * n by omega] at s
  refine s ?_
  by_cases c0 : k = 0
  · subst c0
    rw [Int.sub_zero, Int.emod_self, Int.emod_eq_of_lt (by omega) (by omega)]; omega
  · rw [Int.emod_eq_of_lt (a := n - k) (by omega) (by omega)] at *
    have e1 : (4 * k + n) % (4 * n) = if 4 * k < 3 * n then 4 * k + n else 4 * k - 3 * n := by
      split
      · exact Int.emod_eq_of_lt (by omega) (by omega)
      · rw [show 4 * k + n = (4 * k - 3 * n) + 4 * n by omega, Int.add_emod_right, Int.emod_eq_of_lt (by omega) (by omega)]
    have e2 : (4 * (n - k) + n) % (4 * n) = if n < 4 * k then 5 * n - 4 * k else n - 4 * k := by
      split
      · rw [Int.emod_eq_of_lt (by omega) (by omega)]; omega
      · rw [show 4 * (n - k) + n = (n - 4 * k) + 4 * n by omega, Int.add_emod_right, Int.emod_eq_of_lt (by omega) (by omega)]
    rw [e1, e2]
    split <;> split <;> omega
theorem half_x {r k n : Int} (h : rsOk r k n) (h2 : n % 2 = 0) : spotX r ((k + n / 2) % n) n = - spotX r k n := by
  obtain ⟨h1, h2, h3⟩ := h
  have s := sinV_half r k (n / 2) (by omega) h3.1 (by omega)
  rwa [show 2 * (n / 2) = n by omega] at s
theorem half_y {r k n : Int} (h : rsOk r k n) (h2 : n % 2 = 0) : spotY r ((k + n / 2) % n) n = - spotY r k n := by
  obtain ⟨h1, h4, h3⟩ := h
  have s := sinV_half r ((4 * k + n) % (4 * n)) (2 * n) (by omega) (Int.emod_nonneg _ (by omega)) (by have := Int.emod_lt_of_pos (4 * k + n) (show 0 < 4 * n by omega); omega)
  rw [show 2 * (2 * n) = 4 * n by omega, Int.emod_add_emod] at s
  unfold spotY
  rw [← s]
  congr 1
  by_cases c : k + n / 2 < n
  · rw [Int.emod_eq_of_lt (a := k + n / 2) (by omega) c]
    congr 1; omega
  · rw [show k + n / 2 = (k + n / 2 - n) + n by omega, Int.add_emod_right, Int.emod_eq_of_lt (a := k + n / 2 - n) (by omega) (by omega)]
    rw [show 4 * k + n + 2 * n = (4 * (k + n / 2 - n) + n) + 4 * n by omega, Int.add_emod_right]

/-- all that the law asks of a spot -/
structure Good (r k n X Y : Int) : Prop where
  ok : rsOk r k n
  x : spotX r k n = X
  y : spotY r k n = Y
  xx : 0 ≤ X * X ∧ X * X ≤ 30000000000
  yy : 0 ≤ Y * Y ∧ Y * Y ≤ 30000000000
  rr : 0 ≤ r * r ∧ r * r ≤ 10000000000
  xb : -200000 ≤ X ∧ X ≤ 200000
  yb : -200000 ≤ Y ∧ Y ≤ 200000
  near : near_circle r X Y
theorem sq_nn (x : Int) : 0 ≤ x * x := by
  rcases Int.le_total 0 x with h | h
  · exact Int.mul_nonneg h h
  · exact Int.mul_nonneg_of_nonpos_of_nonpos h h
theorem sq_bd {x B : Int} (hB : 0 ≤ B) (h : x * x < B * B) : -B ≤ x ∧ x ≤ B := by
  constructor
  · rcases Int.lt_or_le x (-B) with h1 | h1
    · have := Int.mul_le_mul (show B ≤ -x by omega) (show B ≤ -x by omega) hB (by omega)
      rw [Int.neg_mul_neg] at this; omega
    · exact h1
  · rcases Int.lt_or_le B x with h1 | h1
    · have := Int.mul_le_mul (show B ≤ x by omega) (show B ≤ x by omega) hB (by omega)
      omega
    · exact h1
theorem good {r k n : Int} (h : rsOk r k n) : Good r k n (spotX r k n) (spotY r k n) := by
  have hc := circle r k n h.1.1 h.2.1.1 h.2.2.1 (by have := h.2.2.2; omega)
  have h0 := h.1
  have hr := mul_bd (a := r) (b := r) (A := 100000) (B := 100000) h.1.1 h.1.2 h.1.1 h.1.2
  have hx := sq_nn (spotX r k n)
  have hy := sq_nn (spotY r k n)
  have hc2 := hc
  unfold near_circle at hc
  exact ⟨h, rfl, rfl, ⟨hx, by omega⟩, ⟨hy, by omega⟩, ⟨hr.1, by omega⟩, sq_bd (by omega) (by omega), sq_bd (by omega) (by omega), hc2⟩
set_option maxHeartbeats 2000000 in
theorem walk0 (w : World) (a : Option Addr) (nn c : Nat) (zs : List Int) (h : IsRow .u8 w a nn c zs) :
    Calls Try.prog 7 #[.slice a nn c] w fun e w' => e = .returned (.bool true) ∧ Below w.heap.size w w' := by
  by_cases hn : nn ≤ 4096
  · have H := Lib.hid h
    clear h
    go_enter Try.func7, Try.ntmps7
    go_wp2_with (go_at_call 21; refine (f6big_c _ _ _ _).mono ?_; rintro e w' ⟨rfl, rfl⟩)
    refine (DrawRoundSpot_c a nn c zs _ H.out).mono ?_
    rintro e w1 ⟨r, k, n, rfl, hb1⟩
    clear H
    have B1 := Lib.hid hb1
    have z1 := hb1.size
    clear hb1
    by_cases hok : rsOk r k n
    · obtain ⟨X, Y, hgood⟩ : ∃ X Y, Good r k n X Y := ⟨_, _, good hok⟩
      obtain ⟨⟨r0, r1⟩, ⟨n0, n1⟩, k0, k1⟩ := hgood.ok
      obtain ⟨xx0, xx1⟩ := hgood.xx
      obtain ⟨yy0, yy1⟩ := hgood.yy
      obtain ⟨rr0, rr1⟩ := hgood.rr
      obtain ⟨xb0, xb1⟩ := hgood.xb
      obtain ⟨yb0, yb1⟩ := hgood.yb
      obtain ⟨nc0, nc1⟩ := hgood.near
      have G := Lib.hid hgood
      clear hgood hok
      go_wp2_with fail
      have C1 := RoundSpot_y r k n w1 G.out.ok
      rw [G.out.x, G.out.y] at C1
      refine C1.mono ?_
      clear C1
      rintro e w2 ⟨rfl, hb2⟩
      have z2 := hb2.size
      have B2 := Lib.hid hb2
      clear hb2
      go_wp2_with fail
      refine (sRoundSpot_y r k n _ G.out.ok).mono ?_
      rw [G.out.x, G.out.y]
      rintro e w3 ⟨rfl, hb3⟩
      obtain ⟨c1, c2, z3⟩ := two_cells hb3
      have B3 := Lib.hid hb3
      clear hb3
      by_cases off : X * X + Y * Y - r * r < 0
      · go_wp2_with (go_at_call 23; refine (f6size_n _ _ (by omega) (by omega)).mono ?_; rintro e w' ⟨rfl, rfl⟩)
        have C2 := fun W => RoundSpot_y r ((n - k) % n) n W (mirror_ok G.out.ok)
        simp only [mirror_x G.out.ok, mirror_y G.out.ok, G.out.x, G.out.y] at C2
        simp only [show (n - k) % n = -k % n by rw [Int.sub_eq_add_neg, Int.add_comm, Int.add_emod_right]] at C2
        refine (C2 _).mono ?_
        clear C2
        rintro e w4 ⟨rfl, hb4⟩
        have z4 := hb4.size
        have d1 := (hb4.cell (p := ⟨w2.heap.size, 0, none⟩) (by simp; omega)).trans ((World.cell?_alloc_lt w3 _ ⟨w2.heap.size, 0, none⟩ z3).trans c1)
        have d2 := (hb4.cell (p := ⟨w2.heap.size, 1, none⟩) (by simp; omega)).trans ((World.cell?_alloc_lt w3 _ ⟨w2.heap.size, 1, none⟩ z3).trans c2)
        simp at z4
        have z4b : w2.heap.size < w4.heap.size := by omega
        have B4 := Lib.hid hb4
        clear hb4 c1 c2
        by_cases hev : n % 2 = 0
        · go_wp2_with fail
          have C3 := fun W => RoundSpot_y r ((k + n / 2) % n) n W (half_ok G.out.ok)
          simp only [half_x G.out.ok hev, half_y G.out.ok hev, G.out.x, G.out.y] at C3
          refine (C3 _).mono ?_
          clear C3
          rintro e w5 ⟨rfl, hb5⟩
          have z5 := hb5.size
          have d1' := (hb5.cell (p := ⟨w2.heap.size, 0, none⟩) (by simp; omega)).trans ((World.cell?_alloc_lt w4 _ ⟨w2.heap.size, 0, none⟩ (by show w2.heap.size < _; omega)).trans d1)
          have d2' := (hb5.cell (p := ⟨w2.heap.size, 1, none⟩) (by simp; omega)).trans ((World.cell?_alloc_lt w4 _ ⟨w2.heap.size, 1, none⟩ (by show w2.heap.size < _; omega)).trans d2)
          simp at z5
          have z5b : w2.heap.size < w5.heap.size := by omega
          have B5 := Lib.hid hb5
          clear hb5 d1 d2
          go_wp2
          go_ret
          refine ⟨rfl, ?_⟩
          have q1 := (((B1.out.trans (B2.out.mono z1)).alloc (by omega) (.cells #[.int .i64 X, .int .i64 Y] 35)).trans (B3.out.mono (by simp; omega))).alloc (by omega) (.cells #[.int .i64 X, .int .i64 Y] 35)
          have q2 := ((q1.trans (B4.out.mono (by simp; omega))).alloc (by omega) (.cells #[.int .i64 (-X), .int .i64 Y] 35)).trans (B5.out.mono (by simp; omega))
          exact q2.alloc (by omega) _
        · go_wp2
          go_ret
          refine ⟨rfl, ?_⟩
          have q1 := (((B1.out.trans (B2.out.mono z1)).alloc (by omega) (.cells #[.int .i64 X, .int .i64 Y] 35)).trans (B3.out.mono (by simp; omega))).alloc (by omega) (.cells #[.int .i64 X, .int .i64 Y] 35)
          exact (q1.trans (B4.out.mono (by simp; omega))).alloc (by omega) _
      · go_wp2_with (go_at_call 23; refine (f6size_p _ _ (by omega)).mono ?_; rintro e w' ⟨rfl, rfl⟩)
        have C2 := fun W => RoundSpot_y r ((n - k) % n) n W (mirror_ok G.out.ok)
        simp only [mirror_x G.out.ok, mirror_y G.out.ok, G.out.x, G.out.y] at C2
        simp only [show (n - k) % n = -k % n by rw [Int.sub_eq_add_neg, Int.add_comm, Int.add_emod_right]] at C2
        refine (C2 _).mono ?_
        clear C2
        rintro e w4 ⟨rfl, hb4⟩
        have z4 := hb4.size
        have d1 := (hb4.cell (p := ⟨w2.heap.size, 0, none⟩) (by simp; omega)).trans ((World.cell?_alloc_lt w3 _ ⟨w2.heap.size, 0, none⟩ z3).trans c1)
        have d2 := (hb4.cell (p := ⟨w2.heap.size, 1, none⟩) (by simp; omega)).trans ((World.cell?_alloc_lt w3 _ ⟨w2.heap.size, 1, none⟩ z3).trans c2)
        simp at z4
        have z4b : w2.heap.size < w4.heap.size := by omega
        have B4 := Lib.hid hb4
        clear hb4 c1 c2
        by_cases hev : n % 2 = 0
        · go_wp2_with fail
          have C3 := fun W => RoundSpot_y r ((k + n / 2) % n) n W (half_ok G.out.ok)
          simp only [half_x G.out.ok hev, half_y G.out.ok hev, G.out.x, G.out.y] at C3
          refine (C3 _).mono ?_
          clear C3
          rintro e w5 ⟨rfl, hb5⟩
          have z5 := hb5.size
          have d1' := (hb5.cell (p := ⟨w2.heap.size, 0, none⟩) (by simp; omega)).trans ((World.cell?_alloc_lt w4 _ ⟨w2.heap.size, 0, none⟩ (by show w2.heap.size < _; omega)).trans d1)
          have d2' := (hb5.cell (p := ⟨w2.heap.size, 1, none⟩) (by simp; omega)).trans ((World.cell?_alloc_lt w4 _ ⟨w2.heap.size, 1, none⟩ (by show w2.heap.size < _; omega)).trans d2)
          simp at z5
          have z5b : w2.heap.size < w5.heap.size := by omega
          have B5 := Lib.hid hb5
          clear hb5 d1 d2
          go_wp2
          go_ret
          refine ⟨rfl, ?_⟩
          have q1 := (((B1.out.trans (B2.out.mono z1)).alloc (by omega) (.cells #[.int .i64 X, .int .i64 Y] 35)).trans (B3.out.mono (by simp; omega))).alloc (by omega) (.cells #[.int .i64 X, .int .i64 Y] 35)
          have q2 := ((q1.trans (B4.out.mono (by simp; omega))).alloc (by omega) (.cells #[.int .i64 (-X), .int .i64 Y] 35)).trans (B5.out.mono (by simp; omega))
          exact q2.alloc (by omega) _
        · go_wp2
          go_ret
          refine ⟨rfl, ?_⟩
          have q1 := (((B1.out.trans (B2.out.mono z1)).alloc (by omega) (.cells #[.int .i64 X, .int .i64 Y] 35)).trans (B3.out.mono (by simp; omega))).alloc (by omega) (.cells #[.int .i64 X, .int .i64 Y] 35)
          exact (q1.trans (B4.out.mono (by simp; omega))).alloc (by omega) _
    · have HK := Lib.hid hok
      clear hok
      go_wp2_with fail
      refine (RoundSpot_n r k n _ HK.out).mono ?_
      rintro e w2 ⟨rfl, hb2⟩
      have z2 := hb2.size
      have B2 := Lib.hid hb2
      clear hb2
      go_wp2_with fail
      refine (sRoundSpot_n r k n _ HK.out).mono ?_
      rintro e w3 ⟨rfl, hb3⟩
      obtain ⟨c1, c2, z3⟩ := two_cells hb3
      have B3 := Lib.hid hb3
      clear hb3
      go_wp2_with fail
      go_ret
      exact ⟨rfl, ((B1.out.trans (B2.out.mono z1)).alloc (by omega) _).trans (B3.out.mono (by simp; omega)) |>.alloc (by omega) _⟩
  · clear h
    go_enter Try.func7, Try.ntmps7
    go_wp2_with (go_at_call 21; refine (f6big_c _ _ _ _).mono ?_; rintro e w' ⟨rfl, rfl⟩)
    go_ret
    exact ⟨rfl, Below.refl _ _⟩
theorem walk (w : World) (v : Value) (H : Type) (enc : TypeId × Value → H) (d : DataW H) (p : List MemPlace) (base : Nat)
    (hv : Value.okWide Try.prog w .any base 22 v) (h : DataW.Trod enc Try.prog w 0 (fun _ => true) true 22 v d p) :
    Calls Try.prog 7 #[v] w fun e w' => e = .returned (.bool true) ∧ Below w.heap.size w w' := by
  obtain ⟨a, n, c, zs, rfl, hr⟩ := open_bytes hv h
  exact walk0 w a n c zs hr

set_option maxRecDepth 100000 in
theorem lifted (os : Os) (started : os.Started) (H : Type) (enc : TypeId × Value → H) :
    ReturnsInHanded {} Try.checked os 7 .any (Rows.fnRoundSpotsSpec.pre6 enc Try.prog Try.f7 Rows.fnRoundSpotsRow.domain false) (Rows.fnRoundSpotsSpec.post enc Try.prog Try.f7 false true false false) := by
  refine returnsInHanded_of_change (C := Try.checked) own started (by kernel_rfl) Try.func7
    (ChangeSpec.witness6 (enc := enc) (C := Try.checked) false ⟨#[], #[.slice none 0 0], []⟩ 8 (by kernel_rfl) (by kernel_rfl) (by kernel_rfl) (by kernel_rfl)) ?_
  intro W base args ds gs before hval0 hW hcnd _
  have hval : ∀ (j : Nat) t v, Try.f7.params[j]? = some t → args[j]? = some v → Value.okWide Try.prog W .any base t v := hval0
  have hW' := hW
  obtain ⟨p, q, hA0, hV, rfl, hfz, hnd⟩ := hW
  have hA : DataW.TrodAll enc Try.prog W 0 (fun _ => true) true Try.f7.params.toList args.toList ds p := hA0
  rw [Try.params7] at hA hval
  obtain ⟨v0, vs0, d0, ds0, p0, q0, hargs, rfl, rfl, h0, r0⟩ := trodAll_cons hA
  obtain ⟨rfl, rfl, rfl⟩ := trodAll_nil r0
  obtain rfl : args = #[v0] := by cases args; simp_all
  obtain ⟨rfl, rfl⟩ := trodVars_none hV
  have k0 := h0
  have lt0 : ∀ x ∈ p0, x.block < W.heap.size := by obtain ⟨m, hm⟩ := k0; exact DataW.trod_lt m _ _ _ hm
  clear hA0 hval0
  refine (walk W v0 _ _ _ _ _ (hval 0 22 v0 rfl rfl) k0).mono fun e W' ⟨he, bel⟩ => ?_
  subst he
  exact ⟨_, rfl, _, _, _, [], _, [], hW', trodAll_mk1 (shut_bool Try.underlying4 _), (trodAll_cons_mk (Below.trod laidOut (by kernel_rfl) (of_decide_eq_true (by kernel_rfl)) k0 bel lt0) trodAll_mk0), rfl, bel.frame _, fun h => by cases h⟩

theorem over : Rows.fnRoundSpotsRow.holds Try.pinned (OpenSpec.ofChange Rows.fnRoundSpotsSpec) :=
  OpenClaim.holds_of_wide 7 Try.f7 rfl rfl rfl rfl rfl rfl rfl ⟨rfl, rfl, rfl, rfl, rfl⟩ rfl rfl rfl rfl rfl (by kernel_rfl) Try.func7 (by kernel_rfl)
    (of_decide_eq_true (by kernel_rfl)) (by unfold Func.isWrapper; first | (rw [if_pos (by decide +kernel)]; kernel_rfl) | (rw [if_neg (by decide +kernel)]; exact ⟨rfl, rfl⟩))
    (fun os started H enc _ => lifted os started H enc)

theorem proved : Rows.FnRoundSpotsSaid := over

end Go.Proofs.Ytacnijnilopckaa.fnRoundSpots
