/- Proved: the program's ValidDrawing returns what the reference's returns, for all arguments. Conditions: none. -/
import Derived.Test.YtplnohfjeilodaaOpenD
import Derived.Test.YtplnohfjeilodaaValidD
import Derived.Deep.RegionHeld3
namespace Go.Proofs.Ytplnohfjeilodaa.fnExactValidDrawing
open Go.ChangeShapes Go.WideShapes Go.ChangeAt Go.RowKit
set_option linter.unusedVariables false
set_option maxRecDepth 100000

set_option maxHeartbeats 2000000 in
theorem walk0 (w : World) (A : Option Addr) (n c : Nat) (xs : List Shp) (hxl : xs.length = n) (hx : Row w A (shpsV xs)) (hn : n ≤ 9223372036854775807) (hxs : ∀ s ∈ xs, s.N.size ≤ 9223372036854775807) :
    Calls Try.prog 5 #[drwV A n c] w fun e w' => e = .returned (.bool true) ∧ Below w.heap.size w w' := by
  have SZ1 := Lib.hid (fun (W : World) (hb : Below w.heap.size w W) => szDrawing_c A n c xs 1048576 W (hx.below hb) hxl hn hxs (by omega) (by omega))
  have T1 := Lib.hid (fun (W : World) (hb : Below w.heap.size w W) (hn : n ≤ 1048576) => toDrawing_c A n c xs W (hx.below hb) hxl hn)
  have hr1 := szAll_range xs 1048576 (by omega)
  have hl1 := szAll_len (xs := xs) (l := 1048576) (by omega)
  have XL := Lib.hid hxl
  have XS := Lib.hid hxs
  clear hx hxs hxl
  generalize szAll xs 1048576 = l1 at *
  by_cases c1 : l1 < 0
  · clear hl1
    go_enter Try.func5, Try.ntmps5
    go_wp2_with fail
    refine (SZ1.out _ (by (repeat (first | exact Below.refl _ _ | assumption | refine Below.drew ?_ | refine below_drewN ?_ _ | refine Below.setCell ?_ (by first | omega | (simp; done) | (simp; omega)) _ | refine Below.alloc ?_ (by first | omega | (simp; done) | (simp; omega)) _)))).mono ?_
    rintro e w1 ⟨rfl, hb⟩
    have HB := Lib.hid hb
    clear hb
    go_wp2
    go_ret
    exact ⟨rfl, bthen ((Below.refl _ _).alloc (Nat.le_refl _) _) HB.out⟩
  · have hl1' := hl1 (by omega)
    have xl1 : xs.length ≤ 1048576 := by omega
    rw [XL.out] at hl1'
    clear hl1
    go_enter Try.func5, Try.ntmps5
    go_wp2_with fail
    refine (SZ1.out _ (by (repeat (first | exact Below.refl _ _ | assumption | refine Below.drew ?_ | refine below_drewN ?_ _ | refine Below.setCell ?_ (by first | omega | (simp; done) | (simp; omega)) _ | refine Below.alloc ?_ (by first | omega | (simp; done) | (simp; omega)) _)))).mono ?_
    rintro e w1 ⟨rfl, hb⟩
    have ca0_1 : w1.cell? ⟨w.heap.size, 0, none⟩ = some (.slice A n c) := by have h := kc hb (kn w 24 #[.slice A n c] 0 (.slice A n c) rfl); simpa only [World.size_alloc] using h
    have B_1 := Lib.hid (bthen ((Below.refl _ w).alloc (by first | exact Nat.le_refl _ | exact (Below.refl w.heap.size w).size | (simp; done) | (simp; omega)) (.cells #[.slice A n c] 24)) hb)
    clear hb 
    have qa0 : w.heap.size < w1.heap.size := cell_lt ca0_1
    go_wp2_with fail
    refine (T1.out _ B_1.out (by omega)).mono ?_
    rintro e w2 ⟨A1, d1, rfl, ho, hb⟩
    have ca0_2 : w2.cell? ⟨w.heap.size, 0, none⟩ = some (.slice A n c) := by have h := kc hb ca0_1; simpa only [World.size_alloc] using h
    have Oy1_2 := Lib.hid ho
    have B_2 := Lib.hid (bthen B_1.out hb)
    clear hb ho ca0_1 qa0
    have qa0 : w.heap.size < w2.heap.size := cell_lt ca0_2
    go_wp2_with fail
    refine (sValidDrawing_c A1 _ _ xs _ (own_row Oy1_2.out) rfl XS.out (by omega)).mono ?_
    rintro e w3 ⟨rfl, hb⟩
    have ca0_3 : w3.cell? ⟨w.heap.size, 0, none⟩ = some (.slice A n c) := by have h := kc hb ca0_2; simpa only [World.size_alloc] using h
    have B_3 := Lib.hid (bthen B_2.out hb)
    clear hb ca0_2 qa0
    have qa0 : w.heap.size < w3.heap.size := cell_lt ca0_3
    go_wp2_with fail
    refine (T1.out _ B_3.out (by omega)).mono ?_
    rintro e w4 ⟨A2, d2, rfl, ho, hb⟩
    have ca0_4 : w4.cell? ⟨w.heap.size, 0, none⟩ = some (.slice A n c) := by have h := kc hb ca0_3; simpa only [World.size_alloc] using h
    have Ox0_4 := Lib.hid ho
    have B_4 := Lib.hid (bthen B_3.out hb)
    clear hb ho ca0_3 qa0
    have qa0 : w.heap.size < w4.heap.size := cell_lt ca0_4
    go_wp2_with fail
    refine (ValidDrawing_c A2 _ _ xs _ (own_row (Ox0_4.out.alloc (.cells #[.slice A2 xs.length d2] 29))) rfl XS.out (by omega)).mono ?_
    rintro e w5 ⟨rfl, hb⟩
    have ca0_5 : w5.cell? ⟨w.heap.size, 0, none⟩ = some (.slice A n c) := by have h := kc hb (ka ca0_4); simpa only [World.size_alloc] using h
    have cx0_5 : w5.cell? ⟨w4.heap.size, 0, none⟩ = some (.slice A2 xs.length d2) := by have h := kc hb (kn w4 29 #[.slice A2 xs.length d2] 0 (.slice A2 xs.length d2) rfl); simpa only [World.size_alloc] using h
    have Ox0_5 := Lib.hid (own_below (Ox0_4.out.alloc (.cells #[.slice A2 xs.length d2] 29)) hb)
    have B_5 := Lib.hid (bthen (B_4.out.alloc (by first | exact Nat.le_refl _ | exact B_4.out.size | (simp; done) | (simp; omega)) (.cells #[.slice A2 xs.length d2] 29)) hb)
    clear hb ca0_4 qa0
    have qa0 : w.heap.size < w5.heap.size := cell_lt ca0_5
    have qx0 : w4.heap.size < w5.heap.size := cell_lt cx0_5
    go_wp2_with fail
    have hbd := B_5.out.drew
    go_region_held3 (fun w' => w'.cell? ⟨w.heap.size, 0, none⟩ = some (.slice A n c) ∧ w'.cell? ⟨w4.heap.size, 0, none⟩ = some (.slice A2 xs.length d2) ∧ Below w.heap.size w w') (go_keep)
      (first
        | (go_at_call 16; (with_reducible refine (T1.out _ (by assumption) (by omega)).mono ?_); rintro e r5_0 ⟨A3, d3, rfl, ho3, hr5_0⟩; have da0_5_0 := kc hr5_0 ca0_5; have dx0_5_0 := kc hr5_0 cx0_5; have hbb5_0 := bthen hbd hr5_0)
        | (go_at_call 18; (with_reducible refine (eqDrawing_t A2 A3 _ _ _ xs _ (own_row (own_below (Ox0_5.out.drew) hr5_0)) (own_row ho3) rfl (by omega)).mono ?_); rintro e r5_1 ⟨rfl, hr5_1⟩; have da0_5_1 := kc hr5_1 da0_5_0; have dx0_5_1 := kc hr5_1 dx0_5_0; have hbb5_1 := bthen hbb5_0 hr5_1))
    have B_6 := Lib.hid hbb5_1
    have ca0_6 := da0_5_1
    clear hbd hr5_0 hr5_1 hbb5_0 hbb5_1 ca0_5 qa0 da0_5_0 da0_5_1 cx0_5 qx0 dx0_5_0 dx0_5_1 ho3
    have qa0 : w.heap.size < r5_1.heap.size := cell_lt ca0_6
    go_wp2
    go_ret
    exact ⟨rfl, B_6.out⟩
theorem walk (w : World) (v0 : Value) (H : Type) (enc : TypeId × Value → H) (d0 : DataW H) (p0 : List MemPlace) (b0 : Nat)
    (hv0 : Value.okWide Try.prog w .any b0 24 v0) (h0 : DataW.Trod enc Try.prog w 0 (fun _ => true) true 24 v0 d0 p0) :
    Calls Try.prog 5 #[v0] w fun e w' => e = .returned (.bool true) ∧ Below w.heap.size w w' := by
  obtain ⟨A, n, c, xs, rfl, hn, hx, hnm, hs⟩ := open_LDrawing hv0 h0
  exact walk0 w A n c xs hn hx hnm hs

set_option maxRecDepth 100000 in
theorem lifted (os : Os) (started : os.Started) (H : Type) (enc : TypeId × Value → H) :
    ReturnsInHanded {} Try.checked os 5 .any (Rows.fnExactValidDrawingSpec.pre6 enc Try.prog Try.f5 Rows.fnExactValidDrawingRow.domain false) (Rows.fnExactValidDrawingSpec.post enc Try.prog Try.f5 false true false false) := by
  refine returnsInHanded_of_change (C := Try.checked) own started (by kernel_rfl) Try.func5
    (ChangeSpec.witness6 (enc := enc) (C := Try.checked) false ⟨#[], #[.agg #[.slice none 0 0]], []⟩ 8 (by kernel_rfl) (by kernel_rfl) (by kernel_rfl) (by kernel_rfl)) ?_
  intro W base args ds gs before hval0 hW hcnd _
  have hval : ∀ (j : Nat) t v, Try.f5.params[j]? = some t → args[j]? = some v → Value.okWide Try.prog W .any base t v := hval0
  have hW' := hW
  obtain ⟨p, q, hA0, hV, rfl, hfz, hnd⟩ := hW
  have hA : DataW.TrodAll enc Try.prog W 0 (fun _ => true) true Try.f5.params.toList args.toList ds p := hA0
  rw [Try.params5] at hA hval
  obtain ⟨v0, vs0, d0, ds0, p0, q0, hargs, rfl, rfl, h0, r0⟩ := trodAll_cons hA
  obtain ⟨rfl, rfl, rfl⟩ := trodAll_nil r0
  obtain rfl : args = #[v0] := by cases args; simp_all
  obtain ⟨rfl, rfl⟩ := trodVars_none hV
  have k0 := h0
  have lt0 : ∀ x ∈ p0, x.block < W.heap.size := by obtain ⟨m, hm⟩ := k0; exact DataW.trod_lt m _ _ _ hm
  clear hA0 hval0
  refine (walk W v0 _ _ _ _ _ (hval 0 24 v0 rfl rfl) k0).mono fun e W' ⟨he, bel⟩ => ?_
  subst he
  exact ⟨_, rfl, _, _, _, [], _, [], hW', trodAll_mk1 (shut_bool Try.underlying4 _), (trodAll_cons_mk (Below.trod laidOut (by kernel_rfl) (of_decide_eq_true (by kernel_rfl)) k0 bel lt0) trodAll_mk0), rfl, bel.frame _, fun h => by cases h⟩

theorem over : Rows.fnExactValidDrawingRow.holds Try.pinned (OpenSpec.ofChange Rows.fnExactValidDrawingSpec) :=
  OpenClaim.holds_of_wide 5 Try.f5 rfl rfl rfl rfl rfl rfl rfl ⟨rfl, rfl, rfl, rfl, rfl⟩ rfl rfl rfl rfl rfl (by kernel_rfl) Try.func5 (by kernel_rfl)
    (of_decide_eq_true (by kernel_rfl)) (by unfold Func.isWrapper; first | (rw [if_pos (by decide +kernel)]; kernel_rfl) | (rw [if_neg (by decide +kernel)]; exact ⟨rfl, rfl⟩))
    (fun os started H enc _ => lifted os started H enc)

theorem proved : Rows.FnExactValidDrawingSaid := over

end Go.Proofs.Ytplnohfjeilodaa.fnExactValidDrawing
