/- Proved: the program's DialDrawing returns what the reference's returns, in memory of its own, for all arguments. Conditions: none. -/
import Derived.Test.YtplnohfjeilodaaOpen
import Derived.Test.YtplnohfjeilodaaDial
import Derived.Test.YtplnohfjeilodaaMarkSh
namespace Go.Proofs.Ytplnohfjeilodaa.fnExactDialDrawing
open Go.ChangeShapes Go.WideShapes Go.ChangeAt Go.RowKit
set_option linter.unusedVariables false
set_option maxRecDepth 100000

set_option maxHeartbeats 2000000 in
theorem walk_g (w : World) (r n : Int) (xs : List Shp) (code : Int) (hl : xs.length ≤ 241)
    (C1 : ∀ W, Calls Try.prog 19 #[.int .i64 r, .int .i64 n] W (NewDrw2 xs code W)) (C2 : ∀ W, Calls Try.prog 20 #[.int .i64 r, .int .i64 n] W (NewDrw2 xs code W)) :
    Calls Try.prog 4 #[.int .i64 r, .int .i64 n] w fun e w' => e = .returned (.bool true) ∧ Below w.heap.size w w' := by
  obtain ⟨m, hm⟩ : ∃ m, m = xs.length := ⟨_, rfl⟩
  have hm1 : m ≤ 241 := by omega
  unfold NewDrw2 at C1 C2
  simp only [← hm] at C1 C2
  have XL := Lib.hid hm.symm
  have C1 := Lib.hid C1
  have C2 := Lib.hid C2
  clear hl hm
  go_enter Try.func4, Try.ntmps4
  go_wp2_with fail
  refine (C1.out _).mono ?_
  rintro e w1 ⟨A0, d0, rfl, ho, hb⟩
  have LBy0 := Lib.hid (Below.size (Below.refl w.heap.size w))
  have Oy0_1 := Lib.hid ho
  have B_1 := Lib.hid (bthen (Below.refl w.heap.size w) hb)
  clear hb ho
  go_wp2_with fail
  refine (C2.out _).mono ?_
  rintro e w2 ⟨A1, d1, rfl, ho, hb⟩
  have APy0y1 := Lib.hid (own_apart (Oy0_1.out.alloc (.cells #[.slice A0 m d0] 29)) ho (Nat.le_refl _))
  have LBy1 := Lib.hid (Below.size (B_1.out.alloc (by first | exact Nat.le_refl _ | exact B_1.out.size | (simp; done) | (simp; omega)) (.cells #[.slice A0 m d0] 29)))
  have Kw_2 : Hid (Blk w2 (w1.heap.size) 29 #[.slice A0 m d0]) := Lib.hid (kb hb (Blk.new_at w1 29 #[.slice A0 m d0] w1.heap.size rfl))
  have Oy0_2 := Lib.hid (own_below (Oy0_1.out.alloc (.cells #[.slice A0 m d0] 29)) hb)
  have Oy1_2 := Lib.hid ho
  have B_2 := Lib.hid (bthen (B_1.out.alloc (by first | exact Nat.le_refl _ | exact B_1.out.size | (simp; done) | (simp; omega)) (.cells #[.slice A0 m d0] 29)) hb)
  clear hb ho
  have cw0_2 : w2.cell? ⟨w1.heap.size, 0, none⟩ = some (.slice A0 m d0) := Kw_2.out.cell 0
  have qw_2 : w1.heap.size < w2.heap.size := Kw_2.out.lt
  go_wp2_with fail
  refine (eqDrawing_t A1 A0 m d1 d0 xs _ (own_row (Oy1_2.out.alloc (.cells #[.slice A1 m d1] 29))) (own_row (Oy0_2.out.alloc (.cells #[.slice A1 m d1] 29))) XL.out (by omega)).mono ?_
  rintro e w3 ⟨rfl, hb⟩
  have Kw_3 : Hid (Blk w3 (w1.heap.size) 29 #[.slice A0 m d0]) := Lib.hid (kb hb (Kw_2.out.alloc (.cells #[.slice A1 m d1] 29)))
  have Kg_3 : Hid (Blk w3 (w2.heap.size) 29 #[.slice A1 m d1]) := Lib.hid (kb hb (Blk.new_at w2 29 #[.slice A1 m d1] w2.heap.size rfl))
  have Oy0_3 := Lib.hid (own_below (Oy0_2.out.alloc (.cells #[.slice A1 m d1] 29)) hb)
  have Oy1_3 := Lib.hid (own_below (Oy1_2.out.alloc (.cells #[.slice A1 m d1] 29)) hb)
  have B_3 := Lib.hid (bthen (B_2.out.alloc (by first | exact Nat.le_refl _ | exact B_2.out.size | (simp; done) | (simp; omega)) (.cells #[.slice A1 m d1] 29)) hb)
  clear hb cw0_2 qw_2
  have cw0_3 : w3.cell? ⟨w1.heap.size, 0, none⟩ = some (.slice A0 m d0) := Kw_3.out.cell 0
  have qw_3 : w1.heap.size < w3.heap.size := Kw_3.out.lt
  have cg0_3 : w3.cell? ⟨w2.heap.size, 0, none⟩ = some (.slice A1 m d1) := Kg_3.out.cell 0
  have qg_3 : w2.heap.size < w3.heap.size := Kg_3.out.lt
  go_wp2_with fail
  refine (markDrawing_c A1 m d1 1 _ _ (by omega) _ _ Oy1_3.out (by omega) (by omega)).mono ?_
  rintro e w4 ⟨rfl, hm, hg⟩
  have Kw_4 : Hid (Blk w4 (w1.heap.size) 29 #[.slice A0 m d0]) := Lib.hid (blk_grown Kw_3.out hg (own_ne_blk Oy1_3.out Kw_3.out (by decide)))
  have Kg_4 : Hid (Blk w4 (w2.heap.size) 29 #[.slice A1 m d1]) := Lib.hid (blk_grown Kg_3.out hg (own_ne_blk Oy1_3.out Kg_3.out (by decide)))
  have Oy0_4 := Lib.hid (World.ownsRow.kept Oy0_3.out hg APy0y1.out)
  have Oy1_4 := Lib.hid hm
  have B_4 := Lib.hid (below_own B_3.out Oy1_3.out hg LBy1.out (Below.size B_3.out))
  clear hm hg cw0_3 qw_3 cg0_3 qg_3
  have cw0_4 : w4.cell? ⟨w1.heap.size, 0, none⟩ = some (.slice A0 m d0) := Kw_4.out.cell 0
  have qw_4 : w1.heap.size < w4.heap.size := Kw_4.out.lt
  have cg0_4 : w4.cell? ⟨w2.heap.size, 0, none⟩ = some (.slice A1 m d1) := Kg_4.out.cell 0
  have qg_4 : w2.heap.size < w4.heap.size := Kg_4.out.lt
  go_wp2_with fail
  refine (heldDrawing_c A1 m d1 1 _ (by omega) _ (own_row Oy1_4.out) (by omega) (by omega) (by omega)).mono ?_
  rintro e w5 ⟨rfl, hb⟩
  have Kw_5 : Hid (Blk w5 (w1.heap.size) 29 #[.slice A0 m d0]) := Lib.hid (kb hb Kw_4.out)
  have Kg_5 : Hid (Blk w5 (w2.heap.size) 29 #[.slice A1 m d1]) := Lib.hid (kb hb Kg_4.out)
  have Oy0_5 := Lib.hid (own_below Oy0_4.out hb)
  have Oy1_5 := Lib.hid (own_below Oy1_4.out hb)
  have B_5 := Lib.hid (bthen B_4.out hb)
  clear hb cw0_4 qw_4 cg0_4 qg_4
  have cw0_5 : w5.cell? ⟨w1.heap.size, 0, none⟩ = some (.slice A0 m d0) := Kw_5.out.cell 0
  have qw_5 : w1.heap.size < w5.heap.size := Kw_5.out.lt
  have cg0_5 : w5.cell? ⟨w2.heap.size, 0, none⟩ = some (.slice A1 m d1) := Kg_5.out.cell 0
  have qg_5 : w2.heap.size < w5.heap.size := Kg_5.out.lt
  go_wp2_with fail
  refine (C2.out _).mono ?_
  rintro e w6 ⟨A2, d2, rfl, ho, hb⟩
  have APy0y2 := Lib.hid (own_apart Oy0_5.out ho (Nat.le_refl _))
  have APy1y2 := Lib.hid (own_apart Oy1_5.out ho (Nat.le_refl _))
  have LBy2 := Lib.hid (Below.size B_5.out)
  have Kw_6 : Hid (Blk w6 (w1.heap.size) 29 #[.slice A0 m d0]) := Lib.hid (kb hb Kw_5.out)
  have Kg_6 : Hid (Blk w6 (w2.heap.size) 29 #[.slice A1 m d1]) := Lib.hid (kb hb Kg_5.out)
  have Oy0_6 := Lib.hid (own_below Oy0_5.out hb)
  have Oy1_6 := Lib.hid (own_below Oy1_5.out hb)
  have Oy2_6 := Lib.hid ho
  have B_6 := Lib.hid (bthen B_5.out hb)
  clear hb ho cw0_5 qw_5 cg0_5 qg_5
  have cw0_6 : w6.cell? ⟨w1.heap.size, 0, none⟩ = some (.slice A0 m d0) := Kw_6.out.cell 0
  have qw_6 : w1.heap.size < w6.heap.size := Kw_6.out.lt
  have cg0_6 : w6.cell? ⟨w2.heap.size, 0, none⟩ = some (.slice A1 m d1) := Kg_6.out.cell 0
  have qg_6 : w2.heap.size < w6.heap.size := Kg_6.out.lt
  go_wp2_with fail
  refine (eqDrawing_t A2 A0 m d2 d0 xs _ (own_row (Oy2_6.out.alloc (.cells #[.slice A2 m d2] 29))) (own_row (Oy0_6.out.alloc (.cells #[.slice A2 m d2] 29))) XL.out (by omega)).mono ?_
  rintro e w7 ⟨rfl, hb⟩
  have Kg_7 : Hid (Blk w7 (w2.heap.size) 29 #[.slice A1 m d1]) := Lib.hid (kb hb (Kg_6.out.alloc (.cells #[.slice A2 m d2] 29)))
  have Oy1_7 := Lib.hid (own_below (Oy1_6.out.alloc (.cells #[.slice A2 m d2] 29)) hb)
  have B_7 := Lib.hid (bthen (B_6.out.alloc (by first | exact Nat.le_refl _ | exact B_6.out.size | (simp; done) | (simp; omega)) (.cells #[.slice A2 m d2] 29)) hb)
  clear hb cw0_6 qw_6 cg0_6 qg_6
  have cg0_7 : w7.cell? ⟨w2.heap.size, 0, none⟩ = some (.slice A1 m d1) := Kg_7.out.cell 0
  have qg_7 : w2.heap.size < w7.heap.size := Kg_7.out.lt
  go_wp2_with fail
  refine (heldDrawing_c A1 m d1 1 _ (by omega) _ (own_row Oy1_7.out) (by omega) (by omega) (by omega)).mono ?_
  rintro e w8 ⟨rfl, hb⟩
  have B_8 := Lib.hid (bthen B_7.out hb)
  clear hb cg0_7 qg_7
  go_wp2
  go_ret
  exact ⟨rfl, B_8.out⟩
theorem none_new {w : World} {e : Ending} {w' : World} (h : NoDrw2 2 w e w') : NewDrw2 [] 2 w e w' := ⟨none, 0, h.1, World.ownsRow_nil _ _ _ _, h.2⟩
theorem walk (w : World) (r : Int) (w0 : (Lit.int .i64 r).wf = true) (n : Int) (w1 : (Lit.int .i64 n).wf = true) :
    Calls Try.prog 4 #[.int .i64 r, .int .i64 n] w fun e w' => e = .returned (.bool true) ∧ Below w.heap.size w w' := by
  by_cases h : (10 ≤ r ∧ r ≤ 100000) ∧ 1 ≤ n ∧ n ≤ 240
  · obtain ⟨⟨r0, r1⟩, n0, n1⟩ := h
    obtain ⟨k, rfl⟩ := Int.eq_ofNat_of_zero_le (show 0 ≤ n by omega)
    exact walk_g w r k (dialS r k k) 0 (by rw [dialS_len]; omega) (fun W => sDialDrawing_t r k W r0 r1 (by omega) (by omega)) (fun W => DialDrawing_t r k W r0 r1 (by omega) (by omega))
  · exact walk_g w r n [] 2 (by simp) (fun W => (sDialDrawing_f r n W h).mono fun _ _ => none_new) (fun W => (DialDrawing_f r n W h).mono fun _ _ => none_new)

set_option maxRecDepth 100000 in
theorem lifted (os : Os) (started : os.Started) (H : Type) (enc : TypeId × Value → H) :
    ReturnsInHanded {} Try.checked os 4 .any (Rows.fnExactDialDrawingSpec.pre6 enc Try.prog Try.f4 Rows.fnExactDialDrawingRow.domain false) (Rows.fnExactDialDrawingSpec.post enc Try.prog Try.f4 false true false false) := by
  refine returnsInHanded_of_change (C := Try.checked) own started (by kernel_rfl) Try.func4
    (ChangeSpec.witness6 (enc := enc) (C := Try.checked) false ⟨#[], #[.int .i64 0, .int .i64 0], []⟩ 8 (by kernel_rfl) (by kernel_rfl) (by kernel_rfl) (by kernel_rfl)) ?_
  intro W base args ds gs before hval0 hW hcnd _
  have hval : ∀ (j : Nat) t v, Try.f4.params[j]? = some t → args[j]? = some v → Value.okWide Try.prog W .any base t v := hval0
  have hW' := hW
  obtain ⟨p, q, hA0, hV, rfl, hfz, hnd⟩ := hW
  have hA : DataW.TrodAll enc Try.prog W 0 (fun _ => true) true Try.f4.params.toList args.toList ds p := hA0
  rw [Try.params4] at hA hval
  obtain ⟨v0, vs0, d0, ds0, p0, q0, hargs, rfl, rfl, h0, r0⟩ := trodAll_cons hA
  obtain ⟨v1, vs1, d1, ds1, p1, q1, rfl, rfl, rfl, h1, r1⟩ := trodAll_cons r0
  obtain ⟨rfl, rfl, rfl⟩ := trodAll_nil r1
  obtain rfl : args = #[v0, v1] := by cases args; simp_all
  obtain ⟨rfl, rfl⟩ := trodVars_none hV
  obtain ⟨a0, rfl, rfl, rfl, w0⟩ := open_int Try.underlying2 (hval 0 2 v0 rfl rfl) h0
  obtain ⟨a1, rfl, rfl, rfl, w1⟩ := open_int Try.underlying2 (hval 1 2 v1 rfl rfl) h1
  clear hA0 hval0
  refine (walk W a0 w0 a1 w1).mono fun e W' ⟨he, bel⟩ => ?_
  subst he
  exact ⟨_, rfl, _, _, _, [], _, [], hW', trodAll_mk1 (shut_bool Try.underlying4 _), (trodAll_cons_mk (shut_int Try.underlying2 w0) (trodAll_cons_mk (shut_int Try.underlying2 w1) trodAll_mk0)), rfl, bel.frame _, fun h => by cases h⟩

theorem over : Rows.fnExactDialDrawingRow.holds Try.pinned (OpenSpec.ofChange Rows.fnExactDialDrawingSpec) :=
  OpenClaim.holds_of_wide 4 Try.f4 rfl rfl rfl rfl rfl rfl rfl ⟨rfl, rfl, rfl, rfl, rfl⟩ rfl rfl rfl rfl rfl (by kernel_rfl) Try.func4 (by kernel_rfl)
    (of_decide_eq_true (by kernel_rfl)) (by unfold Func.isWrapper; first | (rw [if_pos (by decide +kernel)]; kernel_rfl) | (rw [if_neg (by decide +kernel)]; exact ⟨rfl, rfl⟩))
    (fun os started H enc _ => lifted os started H enc)

theorem proved : Rows.FnExactDialDrawingSaid := over

end Go.Proofs.Ytplnohfjeilodaa.fnExactDialDrawing
