/- Proved: the program's RoundSpot returns what the reference's returns, for all arguments. Conditions: none. -/
import Derived.Test.YtacnijnilopckaaOpen
import Derived.Test.YtacnijnilopckaaEqSpot
namespace Go.Proofs.Ytacnijnilopckaa.fnExactRoundSpot
open Go.ChangeShapes Go.WideShapes Go.ChangeAt Go.RowKit
set_option linter.unusedVariables false

theorem form (r k n : Int) : ∃ x y, rs0 r k n = spotV x y := by
  by_cases h : rsOk r k n
  · exact ⟨_, _, rs0_y h⟩
  · exact ⟨_, _, rs0_n h⟩
set_option maxHeartbeats 1000000 in
theorem walk (w : World) (r : Int) (w0 : (Lit.int .i64 r).wf = true) (k : Int) (w1 : (Lit.int .i64 k).wf = true) (n : Int) (w2 : (Lit.int .i64 n).wf = true) :
    Calls Try.prog 6 #[.int .i64 r, .int .i64 k, .int .i64 n] w fun e w' => e = .returned (.bool true) ∧ Below w.heap.size w w' := by
  clear w0 w1 w2
  obtain ⟨x, y, hxy⟩ := form r k n
  go_enter Try.func6, Try.ntmps6
  go_wp2_with fail
  refine (sRoundSpot_c _ _ _ _).mono ?_
  rintro e w1 ⟨rfl, hb1⟩
  have hz1 := hb1.size
  have B1 := Lib.hid hb1
  clear hb1
  go_wp2_with fail
  refine (RoundSpot_c _ _ _ _).mono ?_
  rintro e w2 ⟨rfl, hb2⟩
  have hc0 := hb2.cell (p := ⟨w1.heap.size, 0, none⟩) (by simp)
  have hc1 := hb2.cell (p := ⟨w1.heap.size, 1, none⟩) (by simp)
  have hz2 : w1.heap.size < w2.heap.size := by have := hb2.size; simp at this; omega
  have B2 := Lib.hid hb2
  clear hb2
  go_wp2_with (go_at_call 20; refine (eqSpot_t _ _ _).mono ?_; rintro e w' ⟨rfl, hb3⟩)
  have B3 := Lib.hid hb3
  clear hb3
  go_ret
  refine ⟨rfl, ?_⟩
  exact (((B1.out.alloc hz1 _).trans (B2.out.mono (by simp; omega))).alloc (by omega) _).trans (B3.out.mono (by simp; omega))

set_option maxRecDepth 100000 in
theorem lifted (os : Os) (started : os.Started) (H : Type) (enc : TypeId × Value → H) :
    ReturnsInHanded {} Try.checked os 6 .any (Rows.fnExactRoundSpotSpec.pre6 enc Try.prog Try.f6 Rows.fnExactRoundSpotRow.domain false) (Rows.fnExactRoundSpotSpec.post enc Try.prog Try.f6 false true false false) := by
  refine returnsInHanded_of_change (C := Try.checked) own started (by kernel_rfl) Try.func6
    (ChangeSpec.witness6 (enc := enc) (C := Try.checked) false ⟨#[], #[.int .i64 0, .int .i64 0, .int .i64 0], []⟩ 8 (by kernel_rfl) (by kernel_rfl) (by kernel_rfl) (by kernel_rfl)) ?_
  intro W base args ds gs before hval0 hW hcnd _
  have hval : ∀ (j : Nat) t v, Try.f6.params[j]? = some t → args[j]? = some v → Value.okWide Try.prog W .any base t v := hval0
  have hW' := hW
  obtain ⟨p, q, hA0, hV, rfl, hfz, hnd⟩ := hW
  have hA : DataW.TrodAll enc Try.prog W 0 (fun _ => true) true Try.f6.params.toList args.toList ds p := hA0
  rw [Try.params6] at hA hval
  obtain ⟨v0, vs0, d0, ds0, p0, q0, hargs, rfl, rfl, h0, r0⟩ := trodAll_cons hA
  obtain ⟨v1, vs1, d1, ds1, p1, q1, rfl, rfl, rfl, h1, r1⟩ := trodAll_cons r0
  obtain ⟨v2, vs2, d2, ds2, p2, q2, rfl, rfl, rfl, h2, r2⟩ := trodAll_cons r1
  obtain ⟨rfl, rfl, rfl⟩ := trodAll_nil r2
  obtain rfl : args = #[v0, v1, v2] := by cases args; simp_all
  obtain ⟨rfl, rfl⟩ := trodVars_none hV
  obtain ⟨a0, rfl, rfl, rfl, w0⟩ := open_int Try.underlying2 (hval 0 2 v0 rfl rfl) h0
  obtain ⟨a1, rfl, rfl, rfl, w1⟩ := open_int Try.underlying2 (hval 1 2 v1 rfl rfl) h1
  obtain ⟨a2, rfl, rfl, rfl, w2⟩ := open_int Try.underlying2 (hval 2 2 v2 rfl rfl) h2
  clear hA0 hval0
  refine (walk W a0 w0 a1 w1 a2 w2).mono fun e W' ⟨he, bel⟩ => ?_
  subst he
  exact ⟨_, rfl, _, _, _, [], _, [], hW', trodAll_mk1 (shut_bool Try.underlying4 _), (trodAll_cons_mk (shut_int Try.underlying2 w0) (trodAll_cons_mk (shut_int Try.underlying2 w1) (trodAll_cons_mk (shut_int Try.underlying2 w2) trodAll_mk0))), rfl, bel.frame _, fun h => by cases h⟩

theorem over : Rows.fnExactRoundSpotRow.holds Try.pinned (OpenSpec.ofChange Rows.fnExactRoundSpotSpec) :=
  OpenClaim.holds_of_wide 6 Try.f6 rfl rfl rfl rfl rfl rfl rfl ⟨rfl, rfl, rfl, rfl, rfl⟩ rfl rfl rfl rfl rfl (by kernel_rfl) Try.func6 (by kernel_rfl)
    (of_decide_eq_true (by kernel_rfl)) (by unfold Func.isWrapper; first | (rw [if_pos (by decide +kernel)]; kernel_rfl) | (rw [if_neg (by decide +kernel)]; exact ⟨rfl, rfl⟩))
    (fun os started H enc _ => lifted os started H enc)

theorem proved : Rows.FnExactRoundSpotSaid := over

end Go.Proofs.Ytacnijnilopckaa.fnExactRoundSpot
