/- Proved: the program's SameDrawing returns what the reference's returns, for all arguments. Conditions: none. -/
import Derived.Test.YtplnohfjeilodaaOpenD
import Derived.Test.YtplnohfjeilodaaSameD
import Derived.Deep.RegionHeld3
namespace Go.Proofs.Ytplnohfjeilodaa.fnExactSameDrawing
open Go.ChangeShapes Go.WideShapes Go.ChangeAt Go.RowKit
set_option linter.unusedVariables false
set_option maxRecDepth 100000

set_option maxHeartbeats 2000000 in
theorem walk0 (w : World) (A B : Option Addr) (n m c d : Nat) (xs ys : List Shp) (hxl : xs.length = n) (hyl : ys.length = m) (hx : Row w A (shpsV xs)) (hy : Row w B (shpsV ys))
    (hn : n ≤ 9223372036854775807) (hm : m ≤ 9223372036854775807) (hxs : ∀ s ∈ xs, s.N.size ≤ 9223372036854775807) (hys : ∀ s ∈ ys, s.N.size ≤ 9223372036854775807) :
    Calls Try.prog 3 #[drwV A n c, drwV B m d] w fun e w' => e = .returned (.bool true) ∧ Below w.heap.size w w' := by
  have SZ1 := Lib.hid (fun (W : World) (hb : Below w.heap.size w W) => szDrawing_c A n c xs 1048576 W (hx.below hb) hxl hn hxs (by omega) (by omega))
  have SZ2 := Lib.hid (fun (W : World) (hb : Below w.heap.size w W) (h0 : 0 ≤ szAll xs 1048576) (h1 : szAll xs 1048576 ≤ 1048576) => szDrawing_c B m d ys (szAll xs 1048576) W (hy.below hb) hyl hm hys h0 h1)
  have T1 := Lib.hid (fun (W : World) (hb : Below w.heap.size w W) (hn : n ≤ 1048576) => toDrawing_c A n c xs W (hx.below hb) hxl hn)
  have T2 := Lib.hid (fun (W : World) (hb : Below w.heap.size w W) (hn : m ≤ 1048576) => toDrawing_c B m d ys W (hy.below hb) hyl hn)
  have hr1 := szAll_range xs 1048576 (by omega)
  have hl1 := szAll_len (xs := xs) (l := 1048576) (by omega)
  have hr2 := szAll_range ys (szAll xs 1048576)
  have hl2 := szAll_len (xs := ys) (l := szAll xs 1048576)
  have XL := Lib.hid hxl
  have YL := Lib.hid hyl
  clear hx hy hxs hys hxl hyl
  generalize szAll ys (szAll xs 1048576) = l2 at *
  generalize szAll xs 1048576 = l1 at *
  by_cases c1 : l1 < 0
  · clear hr2 hl2 hl1
    go_enter Try.func3, Try.ntmps3
    go_wp2_with fail
    refine (SZ1.out _ (by (repeat (first | exact Below.refl _ _ | assumption | refine Below.drew ?_ | refine below_drewN ?_ _ | refine Below.setCell ?_ (by first | omega | (simp; done) | (simp; omega)) _ | refine Below.alloc ?_ (by first | omega | (simp; done) | (simp; omega)) _)))).mono ?_
    rintro e w1 ⟨rfl, hb⟩
    have HB := Lib.hid hb
    clear hb
    go_wp2
    go_ret
    exact ⟨rfl, (((Below.refl _ _).alloc (Nat.le_refl _) _).alloc (by simp) _).trans (HB.out.mono (by simp; omega))⟩
  · by_cases c2 : l2 < 0
    · clear hr2 hl2 hl1
      go_enter Try.func3, Try.ntmps3
      go_wp2_with fail
      refine (SZ1.out _ (by (repeat (first | exact Below.refl _ _ | assumption | refine Below.drew ?_ | refine below_drewN ?_ _ | refine Below.setCell ?_ (by first | omega | (simp; done) | (simp; omega)) _ | refine Below.alloc ?_ (by first | omega | (simp; done) | (simp; omega)) _)))).mono ?_
      rintro e w1 ⟨rfl, hb⟩
      have k1 := kc hb ((Blk.new (w.alloc (.cells #[.slice A n c] 24)) 24 #[.slice B m d]).cell 0)
      have hb1 : Below w.heap.size w w1 := (((Below.refl _ _).alloc (Nat.le_refl _) _).alloc (by simp) _).trans (hb.mono (by simp; omega))
      have q1 := cell_lt k1
      simp at k1 q1
      have HB1 := Lib.hid hb1
      clear hb hb1
      go_wp2_with fail
      refine (SZ2.out _ HB1.out (by omega) (by omega)).mono ?_
      rintro e w2 ⟨rfl, hb⟩
      have HB2 := Lib.hid (bthen HB1.out hb)
      clear hb k1 q1
      go_wp2
      go_ret
      exact ⟨rfl, HB2.out⟩
    · have hr2' := hr2 (by omega)
      have hl2' := hl2 (by omega) (by omega)
      have hl1' := hl1 (by omega)
      have xl1 : xs.length ≤ 1048576 := by omega
      have yl1 : ys.length ≤ 1048576 := by omega
      rw [XL.out] at hl1'
      rw [YL.out] at hl2'
      clear hr2 hl2 hl1
      go_enter Try.func3, Try.ntmps3
      go_wp2_with fail
      refine (SZ1.out _ (by (repeat (first | exact Below.refl _ _ | assumption | refine Below.drew ?_ | refine below_drewN ?_ _ | refine Below.setCell ?_ (by first | omega | (simp; done) | (simp; omega)) _ | refine Below.alloc ?_ (by first | omega | (simp; done) | (simp; omega)) _)))).mono ?_
      rintro e w1 ⟨rfl, hb⟩
      have hb1 : Below w.heap.size w w1 := (((Below.refl _ _).alloc (Nat.le_refl _) _).alloc (by simp) _).trans (hb.mono (by simp; omega))
      have k0 := (((Blk.new w 24 #[.slice A n c]).alloc (.cells #[.slice B m d] 24)).below hb (by simp; omega)).cell 0
      have k1 := ((Blk.new (w.alloc (.cells #[.slice A n c] 24)) 24 #[.slice B m d]).below hb (by simp)).cell 0
      have z1 := hb.size
      simp at k0 k1 z1
      have HB1 := Lib.hid hb1
      clear hb hb1
      go_wp2_with fail
      refine (SZ2.out _ HB1.out (by omega) (by omega)).mono ?_
      rintro e w2 ⟨rfl, hb⟩
      have j0 := (hb.cell (p := ⟨w.heap.size, 0, none⟩) (by show w.heap.size < _; omega)).trans k0
      have j1 := (hb.cell (p := ⟨w.heap.size + 1, 0, none⟩) (by show w.heap.size + 1 < _; omega)).trans k1
      have z2 := hb.size
      have hb2 : Below w.heap.size w w2 := HB1.out.trans (hb.mono (by omega))
      clear hb k0 k1
      have hbd := hb2.drew
      have HB2 := Lib.hid hb2
      clear hb2
      go_wp2_with fail
      go_region_held3 (fun w' => w'.cell? ⟨w.heap.size, 0, none⟩ = some (.slice A n c) ∧ w'.cell? ⟨w.heap.size + 1, 0, none⟩ = some (.slice B m d) ∧ Below w.heap.size w w') (go_keep)
        (first
          | (go_at_call 16; (with_reducible refine (T1.out _ (by assumption) (by omega)).mono ?_); rintro e w3 ⟨A1, d1, rfl, ho1, hb3⟩; have k0 := kc hb3 j0; have k1 := kc hb3 j1; have hbb3 := bthen hbd hb3)
          | (go_at_call 16; (with_reducible refine (T2.out _ (by assumption) (by omega)).mono ?_); rintro e w4 ⟨A2, d2, rfl, ho2, hb4⟩; have l0 := kc hb4 k0; have l1 := kc hb4 k1; have hbb4 := bthen hbb3 hb4)
          | (go_at_call 15; refine (sSameDrawing_c A1 A2 _ _ _ _ xs ys _ (own_row (own_below ho1 hb4)) (own_row ho2) rfl rfl (by omega) (by omega)).mono ?_; rintro e w5 ⟨rfl, hb5⟩; have m0 := kc hb5 l0; have m1 := kc hb5 l1; have hbb5 := bthen hbb4 hb5))
      clear j0 j1 k0 k1 l0 l1 hbd hbb3 hbb4 ho1 ho2 hb3 hb4 hb5
      have HB5 := Lib.hid hbb5
      clear hbb5
      go_wp2_with fail
      refine (T1.out _ HB5.out (by omega)).mono ?_
      rintro e w6 ⟨A3, c3, rfl, ho3, hb6⟩
      have a0 := kc hb6 m0
      have a1 := kc hb6 m1
      have q0 : w.heap.size < w6.heap.size := cell_lt a0
      have q1 : w.heap.size + 1 < w6.heap.size := cell_lt a1
      have B6 := Lib.hid (bthen HB5.out hb6)
      have O3 := Lib.hid ho3
      clear m0 m1 hb6 ho3
      go_wp2_with fail
      refine (T2.out _ (B6.out.alloc B6.out.size _) (by omega)).mono ?_
      rintro e w7 ⟨A4, c4, rfl, ho4, hb7⟩
      have b0 := kc hb7 ((World.cell?_alloc_lt w6 _ _ (cell_lt a0)).trans a0)
      have b1 := kc hb7 ((World.cell?_alloc_lt w6 _ _ (cell_lt a1)).trans a1)
      have b2 := kc hb7 ((Blk.new w6 29 #[.slice A3 xs.length c3]).cell 0)
      simp at b2
      have B7 := Lib.hid (bthen (B6.out.alloc B6.out.size _) hb7)
      have O3' := Lib.hid (own_below (O3.out.alloc _) hb7)
      have O4 := Lib.hid ho4
      clear a0 a1 hb7 ho4 q0 q1
      have q0 : w.heap.size < w7.heap.size := cell_lt b0
      have q1 : w.heap.size + 1 < w7.heap.size := cell_lt b1
      have q2 : w6.heap.size < w7.heap.size := cell_lt b2
      go_wp2_with fail
      refine (SameDrawing_c A3 A4 _ _ _ _ xs ys _ (own_row (O3'.out.alloc _)) (own_row (O4.out.alloc _)) rfl rfl (by omega) (by omega)).mono ?_
      rintro e w8 ⟨rfl, hb8⟩
      have d0 := kc hb8 ((World.cell?_alloc_lt w7 _ _ (cell_lt b0)).trans b0)
      have d1 := kc hb8 ((World.cell?_alloc_lt w7 _ _ (cell_lt b1)).trans b1)
      have d2 := kc hb8 ((World.cell?_alloc_lt w7 _ _ (cell_lt b2)).trans b2)
      have d3 := kc hb8 ((Blk.new w7 29 #[.slice A4 ys.length c4]).cell 0)
      simp at d3
      have hbd := (bthen (B7.out.alloc B7.out.size _) hb8).drew
      have O3 := Lib.hid (own_below (O3'.out.alloc _) hb8)
      have O4 := Lib.hid (own_below (O4.out.alloc _) hb8)
      clear b0 b1 b2 hb8 q0 q1 q2
      have q0 : w.heap.size < w8.heap.size := cell_lt d0
      have q1 : w.heap.size + 1 < w8.heap.size := cell_lt d1
      have q2 : w6.heap.size < w8.heap.size := cell_lt d2
      have q3 : w7.heap.size < w8.heap.size := cell_lt d3
      go_wp2_with fail
      go_region_held3 (fun w' => w'.cell? ⟨w.heap.size, 0, none⟩ = some (.slice A n c) ∧ w'.cell? ⟨w.heap.size + 1, 0, none⟩ = some (.slice B m d) ∧ w'.cell? ⟨w6.heap.size, 0, none⟩ = some (.slice A3 xs.length c3) ∧ w'.cell? ⟨w7.heap.size, 0, none⟩ = some (.slice A4 ys.length c4) ∧ Below w.heap.size w w') (go_keep)
        (first
          | (go_at_call 16; (with_reducible refine (T1.out _ (by assumption) (by omega)).mono ?_); rintro e w9 ⟨A5, c5, rfl, ho5, hb9⟩; have e0 := kc hb9 d0; have e1 := kc hb9 d1; have e2 := kc hb9 d2; have e3 := kc hb9 d3; have hbb9 := bthen hbd hb9)
          | (go_at_call 18; refine (eqDrawing_t A3 A5 _ _ _ xs _ (own_row (own_below O3.out.drew hb9)) (own_row ho5) rfl (by omega)).mono ?_; rintro e w10 ⟨rfl, hb10⟩; have f0 := kc hb10 e0; have f1 := kc hb10 e1; have f2 := kc hb10 e2; have f3 := kc hb10 e3; have hbb10 := bthen hbb9 hb10))
      have O4 := Lib.hid (own_below (own_below O4.out.drew hb9) hb10)
      have hbd2 := hbb10.drew
      clear d0 d1 d2 d3 e0 e1 e2 e3 ho5 hb9 hb10 hbb9 hbb10 hbd q0 q1 q2 q3 O3
      have q0 : w.heap.size < w10.heap.size := cell_lt f0
      have q1 : w.heap.size + 1 < w10.heap.size := cell_lt f1
      have q3 : w7.heap.size < w10.heap.size := cell_lt f3
      go_wp2_with fail
      go_region_held3 (fun w' => w'.cell? ⟨w.heap.size, 0, none⟩ = some (.slice A n c) ∧ w'.cell? ⟨w.heap.size + 1, 0, none⟩ = some (.slice B m d) ∧ w'.cell? ⟨w7.heap.size, 0, none⟩ = some (.slice A4 ys.length c4) ∧ Below w.heap.size w w') (go_keep)
        (first
          | (go_at_call 16; (with_reducible refine (T2.out _ (by assumption) (by omega)).mono ?_); rintro e w11 ⟨A6, c6, rfl, ho6, hb11⟩; have g0 := kc hb11 f0; have g1 := kc hb11 f1; have g3 := kc hb11 f3; have hbb11 := bthen hbd2 hb11)
          | (go_at_call 18; refine (eqDrawing_t A4 A6 _ _ _ ys _ (own_row (own_below O4.out.drew hb11)) (own_row ho6) rfl (by omega)).mono ?_; rintro e w12 ⟨rfl, hb12⟩; have h0 := kc hb12 g0; have h1 := kc hb12 g1; have h3 := kc hb12 g3; have hbb12 := bthen hbb11 hb12))
      have HB12 := Lib.hid hbb12
      clear f0 f1 f2 f3 g0 g1 g3 h0 h1 h3 ho6 hb11 hb12 hbb11 hbb12 hbd2 q0 q1 q3 O4
      go_wp2
      go_ret
      exact ⟨rfl, HB12.out⟩
theorem walk (w : World) (v0 : Value) (H : Type) (enc : TypeId × Value → H) (d0 : DataW H) (p0 : List MemPlace) (b0 : Nat)
    (hv0 : Value.okWide Try.prog w .any b0 24 v0) (h0 : DataW.Trod enc Try.prog w 0 (fun _ => true) true 24 v0 d0 p0)
    (v1 : Value) (H1 : Type) (enc1 : TypeId × Value → H1) (d1 : DataW H1) (p1 : List MemPlace) (b1 : Nat)
    (hv1 : Value.okWide Try.prog w .any b1 24 v1) (h1 : DataW.Trod enc1 Try.prog w 0 (fun _ => true) true 24 v1 d1 p1) :
    Calls Try.prog 3 #[v0, v1] w fun e w' => e = .returned (.bool true) ∧ Below w.heap.size w w' := by
  obtain ⟨A, n, c, xs, rfl, hn, hx, hnm, hs⟩ := open_LDrawing hv0 h0
  obtain ⟨B, m, d, ys, rfl, hm, hy, hmm, hss⟩ := open_LDrawing hv1 h1
  exact walk0 w A B n m c d xs ys hn hm hx hy hnm hmm hs hss

set_option maxRecDepth 100000 in
theorem lifted (os : Os) (started : os.Started) (H : Type) (enc : TypeId × Value → H) :
    ReturnsInHanded {} Try.checked os 3 .any (Rows.fnExactSameDrawingSpec.pre6 enc Try.prog Try.f3 Rows.fnExactSameDrawingRow.domain false) (Rows.fnExactSameDrawingSpec.post enc Try.prog Try.f3 false true false false) := by
  refine returnsInHanded_of_change (C := Try.checked) own started (by kernel_rfl) Try.func3
    (ChangeSpec.witness6 (enc := enc) (C := Try.checked) false ⟨#[], #[.agg #[.slice none 0 0], .agg #[.slice none 0 0]], []⟩ 8 (by kernel_rfl) (by kernel_rfl) (by kernel_rfl) (by kernel_rfl)) ?_
  intro W base args ds gs before hval0 hW hcnd _
  have hval : ∀ (j : Nat) t v, Try.f3.params[j]? = some t → args[j]? = some v → Value.okWide Try.prog W .any base t v := hval0
  have hW' := hW
  obtain ⟨p, q, hA0, hV, rfl, hfz, hnd⟩ := hW
  have hA : DataW.TrodAll enc Try.prog W 0 (fun _ => true) true Try.f3.params.toList args.toList ds p := hA0
  rw [Try.params3] at hA hval
  obtain ⟨v0, vs0, d0, ds0, p0, q0, hargs, rfl, rfl, h0, r0⟩ := trodAll_cons hA
  obtain ⟨v1, vs1, d1, ds1, p1, q1, rfl, rfl, rfl, h1, r1⟩ := trodAll_cons r0
  obtain ⟨rfl, rfl, rfl⟩ := trodAll_nil r1
  obtain rfl : args = #[v0, v1] := by cases args; simp_all
  obtain ⟨rfl, rfl⟩ := trodVars_none hV
  have k0 := h0
  have lt0 : ∀ x ∈ p0, x.block < W.heap.size := by obtain ⟨m, hm⟩ := k0; exact DataW.trod_lt m _ _ _ hm
  have k1 := h1
  have lt1 : ∀ x ∈ p1, x.block < W.heap.size := by obtain ⟨m, hm⟩ := k1; exact DataW.trod_lt m _ _ _ hm
  clear hA0 hval0
  refine (walk W v0 _ _ _ _ _ (hval 0 24 v0 rfl rfl) k0 v1 _ _ _ _ _ (hval 1 24 v1 rfl rfl) k1).mono fun e W' ⟨he, bel⟩ => ?_
  subst he
  exact ⟨_, rfl, _, _, _, [], _, [], hW', trodAll_mk1 (shut_bool Try.underlying4 _), (trodAll_cons_mk (Below.trod laidOut (by kernel_rfl) (of_decide_eq_true (by kernel_rfl)) k0 bel lt0) (trodAll_cons_mk (Below.trod laidOut (by kernel_rfl) (of_decide_eq_true (by kernel_rfl)) k1 bel lt1) trodAll_mk0)), rfl, bel.frame _, fun h => by cases h⟩

theorem over : Rows.fnExactSameDrawingRow.holds Try.pinned (OpenSpec.ofChange Rows.fnExactSameDrawingSpec) :=
  OpenClaim.holds_of_wide 3 Try.f3 rfl rfl rfl rfl rfl rfl rfl ⟨rfl, rfl, rfl, rfl, rfl⟩ rfl rfl rfl rfl rfl (by kernel_rfl) Try.func3 (by kernel_rfl)
    (of_decide_eq_true (by kernel_rfl)) (by unfold Func.isWrapper; first | (rw [if_pos (by decide +kernel)]; kernel_rfl) | (rw [if_neg (by decide +kernel)]; exact ⟨rfl, rfl⟩))
    (fun os started H enc _ => lifted os started H enc)

theorem proved : Rows.FnExactSameDrawingSaid := over

end Go.Proofs.Ytplnohfjeilodaa.fnExactSameDrawing
