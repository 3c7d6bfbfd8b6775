/- Proved: the law FnExactIndexError holds for all arguments. Conditions: none. -/
import Derived.Test.YtkgeenglafchhaaXO
import Derived.Test.YtkgeenglafchhaaWIndexError1
import Derived.Test.YtkgeenglafchhaaPDv
namespace Go.Proofs.Ytkgeenglafchhaa.fnExactIndexError
open Go.ChangeShapes Go.WideShapes Go.ChangeAt Go.RowKit
set_option linter.unusedVariables false
set_option maxRecDepth 100000
theorem walk (w : World) (v0 : Value) (H0 : Type) (enc0 : TypeId × Value → H0) (d0 : DataW H0) (p0 : List MemPlace) (b0 : Nat) (hv0 : Value.okWide Try.prog w .any b0 24 v0) (h0 : DataW.Trod enc0 Try.prog w 0 (fun _ => true) true 24 v0 d0 p0) (a1 : Int) (w1 : (Lit.int .i64 a1).wf = true) (v2 : Value) (H2 : Type) (enc2 : TypeId × Value → H2) (d2 : DataW H2) (p2 : List MemPlace) (b2 : Nat) (hv2 : Value.okWide Try.prog w .any b2 26 v2) (h2 : DataW.Trod enc2 Try.prog w 0 (fun _ => true) true 26 v2 d2 p2) : Calls Try.prog 3 #[v0, .int .i64 a1, v2] w fun e w' => e = .returned (.bool true) ∧ Below w.heap.size w w' := by
  obtain ⟨x0, r0, k0⟩ := open_24 hv0 h0
  have k1 : osI a1 := by simpa [osI, Lit.wf, IntKind.min, IntKind.max, IntKind.bits, IntKind.signed] using w1
  obtain ⟨x2, r2, k2⟩ := open_26 hv2 h2
  exact calls_of (l_FnExactIndexError_c (law_indexError x0 k0 a1 k1 x2 k2)) w [v0, .int .i64 a1, v2].toArray rfl (args_cons r0 (args_cons (int_rep _ _) (args_cons r2 args_nil)))

set_option maxRecDepth 100000 in
theorem lifted (os : Os) (started : os.Started) (H : Type) (enc : TypeId × Value → H) :
    ReturnsInHanded {} Try.checked os 3 .any (Rows.fnExactIndexErrorSpec.pre6 enc Try.prog Try.f3 Rows.fnExactIndexErrorRow.domain false) (Rows.fnExactIndexErrorSpec.post enc Try.prog Try.f3 false true false false) := by
  refine returnsInHanded_of_change (C := Try.checked) own started (by kernel_rfl) Try.func3
    (ChangeSpec.witness6 (enc := enc) (C := Try.checked) false ⟨#[], #[.agg #[.int .i64 0, .slice none 0 0], .int .i64 0, .agg #[.int .i64 0, .int .i64 0, .int .i64 0]], []⟩ 8 (by kernel_rfl) (by kernel_rfl) (by kernel_rfl) (by kernel_rfl)) ?_
  intro W base args ds gs before hval0 hW hcnd _
  have hval : ∀ (j : Nat) t v, Try.f3.params[j]? = some t → args[j]? = some v → Value.okWide Try.prog W .any base t v := hval0
  have hW' := hW
  obtain ⟨p, q, hA0, hV, rfl, hfz, hnd⟩ := hW
  have hA : DataW.TrodAll enc Try.prog W 0 (fun _ => true) true Try.f3.params.toList args.toList ds p := hA0
  rw [Try.params3] at hA hval
  obtain ⟨v0, vs0, d0, ds0, p0, q0, hargs, rfl, rfl, h0, r0⟩ := trodAll_cons hA
  obtain ⟨v1, vs1, d1, ds1, p1, q1, rfl, rfl, rfl, h1, r1⟩ := trodAll_cons r0
  obtain ⟨v2, vs2, d2, ds2, p2, q2, rfl, rfl, rfl, h2, r2⟩ := trodAll_cons r1
  obtain ⟨rfl, rfl, rfl⟩ := trodAll_nil r2
  obtain rfl : args = #[v0, v1, v2] := by cases args; simp_all
  obtain ⟨rfl, rfl⟩ := trodVars_none hV
  have k0 := h0
  have lt0 : ∀ x ∈ p0, x.block < W.heap.size := by obtain ⟨m, hm⟩ := k0; exact DataW.trod_lt m _ _ _ hm
  obtain ⟨a1, rfl, rfl, rfl, w1⟩ := open_int Try.underlying2 (hval 1 2 v1 rfl rfl) h1
  have k2 := h2
  have lt2 : ∀ x ∈ p2, x.block < W.heap.size := by obtain ⟨m, hm⟩ := k2; exact DataW.trod_lt m _ _ _ hm
  clear hA0 hval0
  refine (walk W v0 _ _ _ _ _ (hval 0 24 v0 rfl rfl) k0 a1 w1 v2 _ _ _ _ _ (hval 2 26 v2 rfl rfl) k2).mono fun e W' ⟨he, bel⟩ => ?_
  subst he
  exact ⟨_, rfl, _, _, _, [], _, [], hW', trodAll_mk1 (shut_bool Try.underlying4 _), (trodAll_cons_mk (Below.trod laidOut (by kernel_rfl) (of_decide_eq_true (by kernel_rfl)) k0 bel lt0) (trodAll_cons_mk (shut_int Try.underlying2 w1) (trodAll_cons_mk (Below.trod laidOut (by kernel_rfl) (of_decide_eq_true (by kernel_rfl)) k2 bel lt2) trodAll_mk0))), rfl, bel.frame _, fun h => by cases h⟩

theorem over : Rows.fnExactIndexErrorRow.holds Try.pinned (OpenSpec.ofChange Rows.fnExactIndexErrorSpec) :=
  OpenClaim.holds_of_wide 3 Try.f3 rfl rfl rfl rfl rfl rfl rfl ⟨rfl, rfl, rfl, rfl, rfl⟩ rfl rfl rfl rfl rfl (by kernel_rfl) Try.func3 (by kernel_rfl)
    (of_decide_eq_true (by kernel_rfl)) (by unfold Func.isWrapper; first | (rw [if_pos (by decide +kernel)]; kernel_rfl) | (rw [if_neg (by decide +kernel)]; exact ⟨rfl, rfl⟩))
    (fun os started H enc _ => lifted os started H enc)

theorem proved : Rows.FnExactIndexErrorSaid := over

end Go.Proofs.Ytkgeenglafchhaa.fnExactIndexError
