/- The program's validShape. -/
import Derived.Test.YtplnohfjeilodaaValid
import Derived.Deep.RegionHeld3
import Derived.Deep.RegionWith
import Derived.Deep.DrawnRows
namespace Go.Proofs.Ytplnohfjeilodaa
open Go.RowKit
set_option linter.unusedVariables false
set_option maxRecDepth 100000
theorem kc7 {w w' : World} {a0 a1 a2 a3 a4 a5 a6 : Addr} {v0 v1 v2 v3 v4 v5 v6 : Value} (hb : Below w.heap.size w w') (h0 : w.cell? a0 = some v0) (h1 : w.cell? a1 = some v1) (h2 : w.cell? a2 = some v2) (h3 : w.cell? a3 = some v3) (h4 : w.cell? a4 = some v4) (h5 : w.cell? a5 = some v5) (h6 : w.cell? a6 = some v6) :
    w'.cell? a0 = some v0 ∧ w'.cell? a1 = some v1 ∧ w'.cell? a2 = some v2 ∧ w'.cell? a3 = some v3 ∧ w'.cell? a4 = some v4 ∧ w'.cell? a5 = some v5 ∧ w'.cell? a6 = some v6 :=
  ⟨kc hb h0, kc hb h1, kc hb h2, kc hb h3, kc hb h4, kc hb h5, kc hb h6⟩
theorem validSpot_b (x y : Int) (w : World) : Calls Try.prog 78 #[spotV x y] w fun e w' => e = .returned (.bool (spB x y)) ∧ Below w.heap.size w w' :=
  (validSpot_c x y w).mono fun _ _ ⟨h, h2⟩ => ⟨h, by rw [← h2]; exact (Below.refl _ _).alloc (Nat.le_refl _) _⟩
theorem line_b (a b c d : Int) (w : World) : Calls Try.prog 57 #[spotV a b, spotV c d] w fun e w' => e = .returned (.agg #[.int .i64 1, .int .i64 a, .int .i64 b, .int .i64 c, .int .i64 d, .int .i64 0, .string ⟨#[]⟩]) ∧ Below w.heap.size w w' :=
  (line_c a b c d w).mono fun _ _ ⟨h, h2⟩ => ⟨h, by rw [← h2]; exact (((Below.refl _ _).alloc (Nat.le_refl _) _).alloc (by simp) _).alloc (by simp; omega) _⟩
theorem circle_b (a b r : Int) (w : World) : Calls Try.prog 56 #[spotV a b, .int .i64 r] w fun e w' => e = .returned (.agg #[.int .i64 2, .int .i64 a, .int .i64 b, .int .i64 0, .int .i64 0, .int .i64 r, .string ⟨#[]⟩]) ∧ Below w.heap.size w w' :=
  (circle_c a b r w).mono fun _ _ ⟨h, h2⟩ => ⟨h, by rw [← h2]; exact ((Below.refl _ _).alloc (Nat.le_refl _) _).alloc (by simp) _⟩
theorem label_b (a b : Int) (n : ByteArray) (w : World) : Calls Try.prog 89 #[spotV a b, .string n] w fun e w' => e = .returned (.agg #[.int .i64 3, .int .i64 a, .int .i64 b, .int .i64 0, .int .i64 0, .int .i64 0, .string n]) ∧ Below w.heap.size w w' :=
  (label_c a b n w).mono fun _ _ ⟨h, h2⟩ => ⟨h, by rw [← h2]; exact ((Below.refl _ _).alloc (Nat.le_refl _) _).alloc (by simp) _⟩
theorem within_b (n l h : Int) (w : World) : Calls Try.prog 55 #[.int .i64 n, .int .i64 l, .int .i64 h] w fun e w' => e = .returned (.bool (inB n l h)) ∧ Below w.heap.size w w' :=
  (within_c n l h w).mono fun _ _ ⟨h, h2⟩ => ⟨h, by rw [← h2]; exact Below.refl _ _⟩
theorem toList_empty : (⟨#[]⟩ : ByteArray).toList = [] := by rw [ByteArray.toList_eq]
theorem beq_nil (l : List UInt8) : (l == []) = l.isEmpty := by cases l <;> rfl
theorem eq_line (AX AY BX BY R : Int) (N : ByteArray) : shpB ⟨1, AX, AY, BX, BY, R, N⟩ ⟨1, AX, AY, BX, BY, 0, ⟨#[]⟩⟩ = (R == 0 && N.toList.isEmpty) := by
  simp [shpB, toList_empty, beq_nil]
theorem eq_circle (AX AY BX BY R : Int) (N : ByteArray) : shpB ⟨2, AX, AY, BX, BY, R, N⟩ ⟨2, AX, AY, 0, 0, R, ⟨#[]⟩⟩ = ((BX == 0 && BY == 0) && N.toList.isEmpty) := by
  simp [shpB, toList_empty, beq_nil]
theorem eq_label (AX AY BX BY R : Int) (N : ByteArray) : shpB ⟨3, AX, AY, BX, BY, R, N⟩ ⟨3, AX, AY, 0, 0, 0, N⟩ = ((BX == 0 && BY == 0) && R == 0) := by
  simp [shpB]
attribute [local go_sem ↓ high] run_eql_shp
set_option maxHeartbeats 2000000 in
theorem validShape_1t (AX AY BX BY R : Int) (N : ByteArray) (w : World) (h1 : spB AX AY = true) (h2 : spB BX BY = true) (hz : N.size ≤ 9223372036854775807) :
    Calls Try.prog 64 #[Shp.val ⟨1, AX, AY, BX, BY, R, N⟩] w fun e w' => e = .returned (.bool (shpB ⟨1, AX, AY, BX, BY, R, N⟩ ⟨1, AX, AY, BX, BY, 0, ⟨#[]⟩⟩)) ∧ Below w.heap.size w w' := by
  generalize hq : shpB ⟨1, AX, AY, BX, BY, R, N⟩ ⟨1, AX, AY, BX, BY, 0, ⟨#[]⟩⟩ = q
  go_enter Try.func64, Try.ntmps64
  go_wp2_with fail
  refine (validSpot_b _ _ _).mono ?_
  rintro e w1 ⟨rfl, hb⟩
  have hblk := (Blk.new w 80 (Shp.arr ⟨1, AX, AY, BX, BY, R, N⟩)).below hb (by simp)
  have g0 := hblk.cell 0
  have g1 := hblk.cell 1
  have g2 := hblk.cell 2
  have g3 := hblk.cell 3
  have g4 := hblk.cell 4
  have g5 := hblk.cell 5
  have g6 := hblk.cell 6
  simp at g0 g1 g2 g3 g4 g5 g6
  have HB := Lib.hid (bthen ((Below.refl _ w).alloc (Nat.le_refl _) _) hb)
  clear hb hblk
  go_wp2_with fail
  go_region_held3 (fun w' => w'.cell? ⟨w.heap.size, 0, none⟩ = some (.int .i64 1) ∧ w'.cell? ⟨w.heap.size, 1, none⟩ = some (.int .i64 AX) ∧ w'.cell? ⟨w.heap.size, 2, none⟩ = some (.int .i64 AY) ∧ w'.cell? ⟨w.heap.size, 3, none⟩ = some (.int .i64 BX) ∧ w'.cell? ⟨w.heap.size, 4, none⟩ = some (.int .i64 BY) ∧ w'.cell? ⟨w.heap.size, 5, none⟩ = some (.int .i64 R) ∧ w'.cell? ⟨w.heap.size, 6, none⟩ = some (.string N)) (go_keep)
    (first
      | (go_at_call 78; refine (validSpot_b _ _ _).mono ?_; rintro e w2 ⟨rfl, hb2⟩; obtain ⟨k0, k1, k2, k3, k4, k5, k6⟩ := kc7 hb2 g0 g1 g2 g3 g4 g5 g6)
      | (go_at_call 57; refine (line_b _ _ _ _ _).mono ?_; rintro e w3 ⟨rfl, hb3⟩; obtain ⟨l0, l1, l2, l3, l4, l5, l6⟩ := kc7 hb3 k0 k1 k2 k3 k4 k5 k6))
  have HB3 := Lib.hid (bthen (bthen HB.out.drew hb2) hb3)
  clear hb2 hb3 l0 l1 l2 l3 l4 l5 l6 k0 k1 k2 k3 k4 k5 k6 g0 g1 g2 g3 g4 g5 g6
  go_wp2
  go_ret
  exact ⟨rfl, HB3.out⟩
set_option maxHeartbeats 2000000 in
theorem validShape_1f (AX AY BX BY R : Int) (N : ByteArray) (w : World) (h1 : spB AX AY = true) (h2 : spB BX BY = false) (hz : N.size ≤ 9223372036854775807) :
    Calls Try.prog 64 #[Shp.val ⟨1, AX, AY, BX, BY, R, N⟩] w fun e w' => e = .returned (.bool false) ∧ Below w.heap.size w w' := by
  have C2 := fun W => validSpot_b BX BY W
  simp only [h2] at C2
  have HC2 := Lib.hid C2
  clear C2
  go_enter Try.func64, Try.ntmps64
  go_wp2_with fail
  refine (validSpot_b _ _ _).mono ?_
  rintro e w1 ⟨rfl, hb⟩
  have hblk := (Blk.new w 80 (Shp.arr ⟨1, AX, AY, BX, BY, R, N⟩)).below hb (by simp)
  have g0 := hblk.cell 0
  have g1 := hblk.cell 1
  have g2 := hblk.cell 2
  have g3 := hblk.cell 3
  have g4 := hblk.cell 4
  have g5 := hblk.cell 5
  have g6 := hblk.cell 6
  simp at g0 g1 g2 g3 g4 g5 g6
  have HB := Lib.hid (bthen ((Below.refl _ w).alloc (Nat.le_refl _) _) hb)
  clear hb hblk
  go_wp2_with fail
  first
    | (go_region_with (go_at_call 78; refine (HC2.out _).mono ?_; rintro e w2 ⟨rfl, hb2⟩))
    | fail
  all_goals
    have HB3 := Lib.hid (bthen HB.out.drew hb2)
    clear hb2
    go_wp2
    go_ret
    exact ⟨rfl, HB3.out⟩
attribute [local go_sem ↓ high] run_eql_shp
set_option maxHeartbeats 2000000 in
theorem validShape_2t (AX AY BX BY R : Int) (N : ByteArray) (w : World) (h1 : spB AX AY = true) (h2 : inB R 1 100000 = true) (hz : N.size ≤ 9223372036854775807) :
    Calls Try.prog 64 #[Shp.val ⟨2, AX, AY, BX, BY, R, N⟩] w fun e w' => e = .returned (.bool (shpB ⟨2, AX, AY, BX, BY, R, N⟩ ⟨2, AX, AY, 0, 0, R, ⟨#[]⟩⟩)) ∧ Below w.heap.size w w' := by
  generalize hq : shpB ⟨2, AX, AY, BX, BY, R, N⟩ ⟨2, AX, AY, 0, 0, R, ⟨#[]⟩⟩ = q
  go_enter Try.func64, Try.ntmps64
  go_wp2_with fail
  refine (validSpot_b _ _ _).mono ?_
  rintro e w1 ⟨rfl, hb⟩
  have hblk := (Blk.new w 80 (Shp.arr ⟨2, AX, AY, BX, BY, R, N⟩)).below hb (by simp)
  have g0 := hblk.cell 0
  have g1 := hblk.cell 1
  have g2 := hblk.cell 2
  have g3 := hblk.cell 3
  have g4 := hblk.cell 4
  have g5 := hblk.cell 5
  have g6 := hblk.cell 6
  simp at g0 g1 g2 g3 g4 g5 g6
  have HB := Lib.hid (bthen ((Below.refl _ w).alloc (Nat.le_refl _) _) hb)
  clear hb hblk
  go_wp2_with fail
  go_region_held3 (fun w' => w'.cell? ⟨w.heap.size, 0, none⟩ = some (.int .i64 2) ∧ w'.cell? ⟨w.heap.size, 1, none⟩ = some (.int .i64 AX) ∧ w'.cell? ⟨w.heap.size, 2, none⟩ = some (.int .i64 AY) ∧ w'.cell? ⟨w.heap.size, 3, none⟩ = some (.int .i64 BX) ∧ w'.cell? ⟨w.heap.size, 4, none⟩ = some (.int .i64 BY) ∧ w'.cell? ⟨w.heap.size, 5, none⟩ = some (.int .i64 R) ∧ w'.cell? ⟨w.heap.size, 6, none⟩ = some (.string N)) (go_keep)
    (first
      | (go_at_call 55; refine (within_b _ _ _ _).mono ?_; rintro e w2 ⟨rfl, hb2⟩; obtain ⟨k0, k1, k2, k3, k4, k5, k6⟩ := kc7 hb2 g0 g1 g2 g3 g4 g5 g6)
      | (go_at_call 56; refine (circle_b _ _ _ _).mono ?_; rintro e w3 ⟨rfl, hb3⟩; obtain ⟨l0, l1, l2, l3, l4, l5, l6⟩ := kc7 hb3 k0 k1 k2 k3 k4 k5 k6))
  have HB3 := Lib.hid (bthen (bthen HB.out.drew hb2) hb3)
  clear hb2 hb3 l0 l1 l2 l3 l4 l5 l6 k0 k1 k2 k3 k4 k5 k6 g0 g1 g2 g3 g4 g5 g6
  go_wp2
  go_ret
  exact ⟨rfl, HB3.out⟩
set_option maxHeartbeats 2000000 in
theorem validShape_2f (AX AY BX BY R : Int) (N : ByteArray) (w : World) (h1 : spB AX AY = true) (h2 : inB R 1 100000 = false) (hz : N.size ≤ 9223372036854775807) :
    Calls Try.prog 64 #[Shp.val ⟨2, AX, AY, BX, BY, R, N⟩] w fun e w' => e = .returned (.bool false) ∧ Below w.heap.size w w' := by
  have C2 := fun W => within_b R 1 100000 W
  simp only [h2] at C2
  have HC2 := Lib.hid C2
  clear C2
  go_enter Try.func64, Try.ntmps64
  go_wp2_with fail
  refine (validSpot_b _ _ _).mono ?_
  rintro e w1 ⟨rfl, hb⟩
  have hblk := (Blk.new w 80 (Shp.arr ⟨2, AX, AY, BX, BY, R, N⟩)).below hb (by simp)
  have g0 := hblk.cell 0
  have g1 := hblk.cell 1
  have g2 := hblk.cell 2
  have g3 := hblk.cell 3
  have g4 := hblk.cell 4
  have g5 := hblk.cell 5
  have g6 := hblk.cell 6
  simp at g0 g1 g2 g3 g4 g5 g6
  have HB := Lib.hid (bthen ((Below.refl _ w).alloc (Nat.le_refl _) _) hb)
  clear hb hblk
  go_wp2_with fail
  first
    | (go_region_with (go_at_call 55; refine (HC2.out _).mono ?_; rintro e w2 ⟨rfl, hb2⟩))
    | fail
  all_goals
    have HB3 := Lib.hid (bthen HB.out.drew hb2)
    clear hb2
    go_wp2
    go_ret
    exact ⟨rfl, HB3.out⟩
attribute [local go_sem ↓ high] run_eql_shp
set_option maxHeartbeats 2000000 in
theorem validShape_3t (AX AY BX BY R : Int) (N : ByteArray) (w : World) (h1 : spB AX AY = true) (h2 : nmB N = true) (hz : N.size ≤ 9223372036854775807) :
    Calls Try.prog 64 #[Shp.val ⟨3, AX, AY, BX, BY, R, N⟩] w fun e w' => e = .returned (.bool (shpB ⟨3, AX, AY, BX, BY, R, N⟩ ⟨3, AX, AY, 0, 0, 0, N⟩)) ∧ Below w.heap.size w w' := by
  generalize hq : shpB ⟨3, AX, AY, BX, BY, R, N⟩ ⟨3, AX, AY, 0, 0, 0, N⟩ = q
  go_enter Try.func64, Try.ntmps64
  go_wp2_with fail
  refine (validSpot_b _ _ _).mono ?_
  rintro e w1 ⟨rfl, hb⟩
  have hblk := (Blk.new w 80 (Shp.arr ⟨3, AX, AY, BX, BY, R, N⟩)).below hb (by simp)
  have g0 := hblk.cell 0
  have g1 := hblk.cell 1
  have g2 := hblk.cell 2
  have g3 := hblk.cell 3
  have g4 := hblk.cell 4
  have g5 := hblk.cell 5
  have g6 := hblk.cell 6
  simp at g0 g1 g2 g3 g4 g5 g6
  have HB := Lib.hid (bthen ((Below.refl _ w).alloc (Nat.le_refl _) _) hb)
  clear hb hblk
  go_wp2_with fail
  go_region_held3 (fun w' => w'.cell? ⟨w.heap.size, 0, none⟩ = some (.int .i64 3) ∧ w'.cell? ⟨w.heap.size, 1, none⟩ = some (.int .i64 AX) ∧ w'.cell? ⟨w.heap.size, 2, none⟩ = some (.int .i64 AY) ∧ w'.cell? ⟨w.heap.size, 3, none⟩ = some (.int .i64 BX) ∧ w'.cell? ⟨w.heap.size, 4, none⟩ = some (.int .i64 BY) ∧ w'.cell? ⟨w.heap.size, 5, none⟩ = some (.int .i64 R) ∧ w'.cell? ⟨w.heap.size, 6, none⟩ = some (.string N)) (go_keep)
    (first
      | (go_at_call 103; refine (IsName_c _ _ hz).mono ?_; rintro e w2 ⟨rfl, hb2⟩; obtain ⟨k0, k1, k2, k3, k4, k5, k6⟩ := kc7 hb2 g0 g1 g2 g3 g4 g5 g6)
      | (go_at_call 89; refine (label_b _ _ _ _).mono ?_; rintro e w3 ⟨rfl, hb3⟩; obtain ⟨l0, l1, l2, l3, l4, l5, l6⟩ := kc7 hb3 k0 k1 k2 k3 k4 k5 k6))
  have HB3 := Lib.hid (bthen (bthen HB.out.drew hb2) hb3)
  clear hb2 hb3 l0 l1 l2 l3 l4 l5 l6 k0 k1 k2 k3 k4 k5 k6 g0 g1 g2 g3 g4 g5 g6
  go_wp2
  go_ret
  exact ⟨rfl, HB3.out⟩
set_option maxHeartbeats 2000000 in
theorem validShape_3f (AX AY BX BY R : Int) (N : ByteArray) (w : World) (h1 : spB AX AY = true) (h2 : nmB N = false) (hz : N.size ≤ 9223372036854775807) :
    Calls Try.prog 64 #[Shp.val ⟨3, AX, AY, BX, BY, R, N⟩] w fun e w' => e = .returned (.bool false) ∧ Below w.heap.size w w' := by
  have C2 := fun W => IsName_c N W hz
  simp only [h2] at C2
  have HC2 := Lib.hid C2
  clear C2
  go_enter Try.func64, Try.ntmps64
  go_wp2_with fail
  refine (validSpot_b _ _ _).mono ?_
  rintro e w1 ⟨rfl, hb⟩
  have hblk := (Blk.new w 80 (Shp.arr ⟨3, AX, AY, BX, BY, R, N⟩)).below hb (by simp)
  have g0 := hblk.cell 0
  have g1 := hblk.cell 1
  have g2 := hblk.cell 2
  have g3 := hblk.cell 3
  have g4 := hblk.cell 4
  have g5 := hblk.cell 5
  have g6 := hblk.cell 6
  simp at g0 g1 g2 g3 g4 g5 g6
  have HB := Lib.hid (bthen ((Below.refl _ w).alloc (Nat.le_refl _) _) hb)
  clear hb hblk
  go_wp2_with fail
  first
    | (go_region_with (go_at_call 103; refine (HC2.out _).mono ?_; rintro e w2 ⟨rfl, hb2⟩))
    | fail
  all_goals
    have HB3 := Lib.hid (bthen HB.out.drew hb2)
    clear hb2
    go_wp2
    go_ret
    exact ⟨rfl, HB3.out⟩
set_option maxHeartbeats 1000000 in
theorem validShape_c (s : Shp) (w : World) (hz : s.N.size ≤ 9223372036854775807) : Calls Try.prog 64 #[s.val] w fun e w' => e = .returned (.bool (shB s)) ∧ Below w.heap.size w w' := by
  obtain ⟨K, AX, AY, BX, BY, R, N⟩ := s
  simp only at hz
  cases h1 : spB AX AY
  · have e : shB ⟨K, AX, AY, BX, BY, R, N⟩ = false := by simp [shB, h1]
    rw [e]
    clear e
    go_enter Try.func64, Try.ntmps64
    go_wp2_with (go_at_call 78; refine (validSpot_c _ _ _).mono ?_; rintro e w' ⟨rfl, rfl⟩)
    go_ret
    refine ⟨rfl, ?_⟩
    (repeat (first | exact Below.refl _ _ | assumption | refine Below.drew ?_ | refine below_drewN ?_ _ | refine Below.setCell ?_ (by first | omega | (simp; done) | (simp; omega)) _ | refine Below.alloc ?_ (by first | omega | (simp; done) | (simp; omega)) _))
  · by_cases k1 : K = 1
    · subst k1
      cases h2 : spB BX BY
      · have e : shB ⟨1, AX, AY, BX, BY, R, N⟩ = false := by simp [shB, h1, h2]
        rw [e]; exact validShape_1f AX AY BX BY R N w h1 h2 hz
      · have e : shB ⟨1, AX, AY, BX, BY, R, N⟩ = shpB ⟨1, AX, AY, BX, BY, R, N⟩ ⟨1, AX, AY, BX, BY, 0, ⟨#[]⟩⟩ := by rw [eq_line]; simp [shB, h1, h2]
        rw [e]; exact validShape_1t AX AY BX BY R N w h1 h2 hz
    · by_cases k2 : K = 2
      · subst k2
        cases h2 : inB R 1 100000
        · have e : shB ⟨2, AX, AY, BX, BY, R, N⟩ = false := by simp [shB, h1, h2]
          rw [e]; exact validShape_2f AX AY BX BY R N w h1 h2 hz
        · have e : shB ⟨2, AX, AY, BX, BY, R, N⟩ = shpB ⟨2, AX, AY, BX, BY, R, N⟩ ⟨2, AX, AY, 0, 0, R, ⟨#[]⟩⟩ := by rw [eq_circle]; simp [shB, h1, h2]
          rw [e]; exact validShape_2t AX AY BX BY R N w h1 h2 hz
      · by_cases k3 : K = 3
        · subst k3
          cases h2 : nmB N
          · have e : shB ⟨3, AX, AY, BX, BY, R, N⟩ = false := by simp [shB, h1, h2]
            rw [e]; exact validShape_3f AX AY BX BY R N w h1 h2 hz
          · have e : shB ⟨3, AX, AY, BX, BY, R, N⟩ = shpB ⟨3, AX, AY, BX, BY, R, N⟩ ⟨3, AX, AY, 0, 0, 0, N⟩ := by rw [eq_label]; simp [shB, h1, h2]
            rw [e]; exact validShape_3t AX AY BX BY R N w h1 h2 hz
        · have e : shB ⟨K, AX, AY, BX, BY, R, N⟩ = false := by simp [shB, h1, k1, k2, k3]
          rw [e]
          clear e
          go_enter Try.func64, Try.ntmps64
          go_wp2_with (go_at_call 78; refine (validSpot_c _ _ _).mono ?_; rintro e w' ⟨rfl, rfl⟩)
          go_ret
          refine ⟨rfl, ?_⟩
          (repeat (first | exact Below.refl _ _ | assumption | refine Below.drew ?_ | refine below_drewN ?_ _ | refine Below.setCell ?_ (by first | omega | (simp; done) | (simp; omega)) _ | refine Below.alloc ?_ (by first | omega | (simp; done) | (simp; omega)) _))
end Go.Proofs.Ytplnohfjeilodaa
