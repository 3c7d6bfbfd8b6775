/- Proved: the law FnExactNewSim holds for all arguments. Conditions: none. -/
import Derived.Test.YtjhadibjjldpdabGreatGN7
namespace Go.Proofs.YtjhadibjjldpdabGreat.fnExactNewSim
open Go.ChangeShapes Go.WideShapes Go.ChangeAt Go.RowKit
set_option linter.unusedVariables false
set_option maxRecDepth 100000
theorem walk (w : World) (v0 : Value) (H0 : Type) (enc0 : TypeId × Value → H0) (d0 : DataW H0) (p0 : List MemPlace) (b0 : Nat) (hv0 : Value.okWide Tryz.prog w .any b0 32 v0) (h0 : DataW.Trod enc0 Tryz.prog w 0 (fun _ => true) true 32 v0 d0 p0) (v1 : Value) (H1 : Type) (enc1 : TypeId × Value → H1) (d1 : DataW H1) (p1 : List MemPlace) (b1 : Nat) (hv1 : Value.okWide Tryz.prog w .any b1 34 v1) (h1 : DataW.Trod enc1 Tryz.prog w 0 (fun _ => true) true 34 v1 d1 p1) (a2 : Int) (w2 : (Lit.int .i64 a2).wf = true) : Calls Tryz.prog 6 #[v0, v1, .int .i64 a2] w fun e w' => e = .returned (.bool true) ∧ Below w.heap.size w w' := by
  obtain ⟨x0, r0, k0⟩ := open_32 hv0 h0
  obtain ⟨x1, r1, k1⟩ := open_34 hv1 h1
  have k2 : osI a2 := by simpa [osI, Lit.wf, IntKind.min, IntKind.max, IntKind.bits, IntKind.signed] using w2
  exact calls_of (l_FnExactNewSim_c (law_newSim x0 k0 x1 k1 a2 k2)) w ([v0, v1, .int .i64 a2] : List Value).toArray rfl (args_cons r0 (args_cons r1 (args_cons (int_rep _ _) args_nil)))

set_option maxRecDepth 100000 in
theorem lifted (os : Os) (started : os.Started) (H : Type) (enc : TypeId × Value → H) :
    ReturnsInHanded {} Tryz.checked os 6 .any (Rows.fnExactNewSimSpec.pre6 enc Tryz.prog Tryz.f6 Rows.fnExactNewSimRow.domain false) (Rows.fnExactNewSimSpec.post enc Tryz.prog Tryz.f6 false true false false) := by
  refine returnsInHanded_of_change (C := Tryz.checked) own started (by kernel_rfl) Tryz.func6
    (ChangeSpec.witness6 (enc := enc) (C := Tryz.checked) false ⟨#[], #[.agg #[.string ⟨#[]⟩, .slice none 0 0, .slice none 0 0, .int .i64 0, .int .i64 0, .int .i64 0, .int .i64 0, .int .i64 0, .string ⟨#[]⟩, .slice none 0 0, .slice none 0 0, .int .i64 0, .slice none 0 0, .int .i64 0], .agg #[.int .i64 0, .int .i64 0, .int .i64 0], .int .i64 0], []⟩ 8 (by kernel_rfl) (by kernel_rfl) (by kernel_rfl) (by kernel_rfl)) ?_
  intro W base args ds gs before hval0 hW hcnd _
  have hval : ∀ (j : Nat) t v, Tryz.f6.params[j]? = some t → args[j]? = some v → Value.okWide Tryz.prog W .any base t v := hval0
  have hW' := hW
  obtain ⟨p, q, hA0, hV, rfl, hfz, hnd⟩ := hW
  have hA : DataW.TrodAll enc Tryz.prog W 0 (fun _ => true) true Tryz.f6.params.toList args.toList ds p := hA0
  rw [Tryz.params6] at hA hval
  obtain ⟨v0, vs0, d0, ds0, p0, q0, hargs, rfl, rfl, h0, r0⟩ := trodAll_cons hA
  obtain ⟨v1, vs1, d1, ds1, p1, q1, rfl, rfl, rfl, h1, r1⟩ := trodAll_cons r0
  obtain ⟨v2, vs2, d2, ds2, p2, q2, rfl, rfl, rfl, h2, r2⟩ := trodAll_cons r1
  obtain ⟨rfl, rfl, rfl⟩ := trodAll_nil r2
  obtain rfl : args = #[v0, v1, v2] := by cases args; simp_all
  obtain ⟨rfl, rfl⟩ := trodVars_none hV
  have k0 := h0
  have lt0 : ∀ x ∈ p0, x.block < W.heap.size := by obtain ⟨m, hm⟩ := k0; exact DataW.trod_lt m _ _ _ hm
  have k1 := h1
  have lt1 : ∀ x ∈ p1, x.block < W.heap.size := by obtain ⟨m, hm⟩ := k1; exact DataW.trod_lt m _ _ _ hm
  obtain ⟨a2, rfl, rfl, rfl, w2⟩ := open_int Tryz.underlying2 (hval 2 2 v2 rfl rfl) h2
  clear hA0 hval0
  refine (walk W v0 _ _ _ _ _ (hval 0 32 v0 rfl rfl) k0 v1 _ _ _ _ _ (hval 1 34 v1 rfl rfl) k1 a2 w2).mono fun e W' ⟨he, bel⟩ => ?_
  subst he
  exact ⟨_, rfl, _, _, _, [], _, [], hW', trodAll_mk1 (shut_bool Tryz.underlying4 _), (trodAll_cons_mk (Below.trod laidOut (by kernel_rfl) (of_decide_eq_true (by kernel_rfl)) k0 bel lt0) (trodAll_cons_mk (Below.trod laidOut (by kernel_rfl) (of_decide_eq_true (by kernel_rfl)) k1 bel lt1) (trodAll_cons_mk (shut_int Tryz.underlying2 w2) trodAll_mk0))), rfl, bel.frame _, fun h => by cases h⟩

theorem over : Rows.fnExactNewSimRow.holds Tryz.pinned (OpenSpec.ofChange Rows.fnExactNewSimSpec) :=
  OpenClaim.holds_of_wide 6 Tryz.f6 rfl rfl rfl rfl rfl rfl rfl ⟨rfl, rfl, rfl, rfl, rfl⟩ rfl rfl rfl rfl rfl (by kernel_rfl) Tryz.func6 (by kernel_rfl)
    (of_decide_eq_true (by kernel_rfl)) (by unfold Func.isWrapper; first | (rw [if_pos (by decide +kernel)]; kernel_rfl) | (rw [if_neg (by decide +kernel)]; exact ⟨rfl, rfl⟩))
    (fun os started H enc _ => lifted os started H enc)

theorem proved : Rows.FnExactNewSimSaid := over

end Go.Proofs.YtjhadibjjldpdabGreat.fnExactNewSim
