/- Proved: the law FnExactDesignMovement holds for all arguments. Conditions: none. -/
import Derived.Test.YtgcdbbidmfdonaaGreatGM8
namespace Go.Proofs.YtgcdbbidmfdonaaGreat.fnExactDesignMovement
open Go.ChangeShapes Go.WideShapes Go.ChangeAt Go.RowKit
set_option linter.unusedVariables false
set_option maxRecDepth 100000
theorem walk (w : World) (v0 : Value) (H0 : Type) (enc0 : TypeId × Value → H0) (d0 : DataW H0) (p0 : List MemPlace) (b0 : Nat) (hv0 : Value.okWide Tryz.prog w .any b0 9 v0) (h0 : DataW.Trod enc0 Tryz.prog w 0 (fun _ => true) true 9 v0 d0 p0) (a1 : Int) (w1 : (Lit.int .i64 a1).wf = true) (a2 : Int) (w2 : (Lit.int .i64 a2).wf = true) (v3 : Value) (H3 : Type) (enc3 : TypeId × Value → H3) (d3 : DataW H3) (p3 : List MemPlace) (b3 : Nat) (hv3 : Value.okWide Tryz.prog w .any b3 74 v3) (h3 : DataW.Trod enc3 Tryz.prog w 0 (fun _ => true) true 74 v3 d3 p3) (a4 : Int) (w4 : (Lit.int .i64 a4).wf = true) : Calls Tryz.prog 6 #[v0, .int .i64 a1, .int .i64 a2,v3, .int .i64 a4] w fun e w' => e = .returned (.bool true) ∧ Below w.heap.size w w' := by
 obtain ⟨x0,r0,k0⟩ := aP1 hv0 h0
 have k1 : osI a1 := by simpa [osI,Lit.wf,IntKind.min,IntKind.max,IntKind.bits,IntKind.signed] using w1
 have k2 : osI a2 := by simpa [osI,Lit.wf,IntKind.min,IntKind.max,IntKind.bits,IntKind.signed] using w2
 obtain ⟨x3,r3,k3⟩ := aOy hv3 h3
 have k4 : osI a4 := by simpa [osI,Lit.wf,IntKind.min,IntKind.max,IntKind.bits,IntKind.signed] using w4
 exact aM4 (qC (vH x0 k0 a1 k1 a2 k2 x3 k3 a4 k4)) w ([v0, .int .i64 a1, .int .i64 a2,v3, .int .i64 a4] : List Value).toArray rfl (sG r0 (sG (aGj _ _) (sG (aGj _ _) (sG r3 (sG (aGj _ _) aMz)))))
set_option maxRecDepth 100000 in
theorem lifted (os : Os) (started : os.Started) (H : Type) (enc : TypeId × Value → H) :
  ReturnsInHanded {} Tryz.checked os 6 .any (Rows.fnExactDesignMovementSpec.pre6 enc Tryz.prog Tryz.f6 Rows.fnExactDesignMovementRow.domain false) (Rows.fnExactDesignMovementSpec.post enc Tryz.prog Tryz.f6 false true false false) := by
 refine returnsInHanded_of_change (C := Tryz.checked) own started (by kernel_rfl) Tryz.func6
  (ChangeSpec.witness6 (enc := enc) (C := Tryz.checked) false ⟨#[], #[.string ⟨#[]⟩, .int .i64 0, .int .i64 0, .agg #[.string ⟨#[]⟩, .slice none 0 0, .slice none 0 0, .int .i64 0], .int .i64 0],[]⟩ 8 (by kernel_rfl) (by kernel_rfl) (by kernel_rfl) (by kernel_rfl)) ?_
 intro W base args ds gs before hval0 hW hcnd _
 have hval : ∀ (j : Nat) t v,Tryz.f6.params[j]? = some t → args[j]? = some v → Value.okWide Tryz.prog W .any base t v := hval0
 have hW' := hW
 obtain ⟨p,q,hA0,hV,rfl,hfz,hnd⟩ := hW
 have hA : DataW.TrodAll enc Tryz.prog W 0 (fun _ => true) true Tryz.f6.params.toList args.toList ds p := hA0
 rw [Tryz.params6] at hA hval
 obtain ⟨v0,vs0,d0,ds0,p0,q0,hargs,rfl,rfl,h0,r0⟩ := trodAll_cons hA
 obtain ⟨v1,vs1,d1,ds1,p1,q1,rfl,rfl,rfl,h1,r1⟩ := trodAll_cons r0
 obtain ⟨v2,vs2,d2,ds2,p2,q2,rfl,rfl,rfl,h2,r2⟩ := trodAll_cons r1
 obtain ⟨v3,vs3,d3,ds3,p3,q3,rfl,rfl,rfl,h3,r3⟩ := trodAll_cons r2
 obtain ⟨v4,vs4,d4,ds4,p4,q4,rfl,rfl,rfl,h4,r4⟩ := trodAll_cons r3
 obtain ⟨rfl,rfl,rfl⟩ := trodAll_nil r4
 obtain rfl : args = #[v0,v1,v2,v3,v4] := by cases args; simp_all
 obtain ⟨rfl,rfl⟩ := trodVars_none hV
 have k0 := h0
 have lt0 : ∀ x ∈ p0,x.block < W.heap.size := by obtain ⟨m,hm⟩ := k0; exact DataW.trod_lt m _ _ _ hm
 obtain ⟨a1,rfl,rfl,rfl,w1⟩ := open_int Tryz.underlying2 (hval 1 2 v1 rfl rfl) h1
 obtain ⟨a2,rfl,rfl,rfl,w2⟩ := open_int Tryz.underlying2 (hval 2 2 v2 rfl rfl) h2
 have k3 := h3
 have lt3 : ∀ x ∈ p3,x.block < W.heap.size := by obtain ⟨m,hm⟩ := k3; exact DataW.trod_lt m _ _ _ hm
 obtain ⟨a4,rfl,rfl,rfl,w4⟩ := open_int Tryz.underlying2 (hval 4 2 v4 rfl rfl) h4
 clear hA0 hval0
 refine (walk W v0 _ _ _ _ _ (hval 0 9 v0 rfl rfl) k0 a1 w1 a2 w2 v3 _ _ _ _ _ (hval 3 74 v3 rfl rfl) k3 a4 w4).mono fun e W' ⟨he,bel⟩ => ?_
 subst he
 exact ⟨_,rfl,_,_,_,[],_,[],hW',trodAll_mk1 (shut_bool Tryz.underlying4 _),(trodAll_cons_mk (Below.trod aJs (by kernel_rfl) (of_decide_eq_true (by kernel_rfl)) k0 bel lt0) (trodAll_cons_mk (shut_int Tryz.underlying2 w1) (trodAll_cons_mk (shut_int Tryz.underlying2 w2) (trodAll_cons_mk (Below.trod aJs (by kernel_rfl) (of_decide_eq_true (by kernel_rfl)) k3 bel lt3) (trodAll_cons_mk (shut_int Tryz.underlying2 w4) trodAll_mk0))))),rfl,bel.frame _,fun h => by cases h⟩
theorem wZ : Rows.fnExactDesignMovementRow.holds Tryz.pinned (OpenSpec.ofChange Rows.fnExactDesignMovementSpec) :=
 OpenClaim.holds_of_wide 6 Tryz.f6 rfl rfl rfl rfl rfl rfl rfl ⟨rfl,rfl,rfl,rfl,rfl⟩ rfl rfl rfl rfl rfl (by kernel_rfl) Tryz.func6 (by kernel_rfl)
  (of_decide_eq_true (by kernel_rfl)) (by unfold Func.isWrapper; first | (rw [if_pos (by decide +kernel)]; kernel_rfl) | (rw [if_neg (by decide +kernel)]; exact ⟨rfl,rfl⟩))
  (fun os started H enc _ => lifted os started H enc)
theorem proved : Rows.FnExactDesignMovementSaid := wZ
end Go.Proofs.YtgcdbbidmfdonaaGreat.fnExactDesignMovement
