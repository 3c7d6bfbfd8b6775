/- Proved: the law FnDesign holds for all arguments. Conditions: none. -/
import Derived.Test.YtgcdbbidmfdonaaGreatGD8
namespace Go.Proofs.YtgcdbbidmfdonaaGreat.fnDesign
open Go.ChangeShapes Go.WideShapes Go.ChangeAt Go.RowKit
set_option linter.unusedVariables false
set_option maxRecDepth 100000
theorem walk (w : World) (v0 : Value) (H0 : Type) (enc0 : TypeId × Value → H0) (d0 : DataW H0) (p0 : List MemPlace) (b0 : Nat) (hv0 : Value.okWide Tryz.prog w .any b0 22 v0) (h0 : DataW.Trod enc0 Tryz.prog w 0 (fun _ => true) true 22 v0 d0 p0) (v1 : Value) (H1 : Type) (enc1 : TypeId × Value → H1) (d1 : DataW H1) (p1 : List MemPlace) (b1 : Nat) (hv1 : Value.okWide Tryz.prog w .any b1 22 v1) (h1 : DataW.Trod enc1 Tryz.prog w 0 (fun _ => true) true 22 v1 d1 p1) : Calls Tryz.prog 5 #[v0,v1] w fun e w' => e = .returned (.bool true) ∧ Below w.heap.size w w' := by
 obtain ⟨x0,r0,k0⟩ := aNn hv0 h0
 obtain ⟨x1,r1,k1⟩ := aNn hv1 h1
 exact aPe (aGs (aLg x0 k0 x1 k1)) w ([v0,v1] : List Value).toArray rfl (aF5 r0 (aF5 r1 aO8))
set_option maxRecDepth 100000 in
theorem lifted (os : Os) (started : os.Started) (H : Type) (enc : TypeId × Value → H) :
  ReturnsInHanded {} Tryz.checked os 5 .any (Rows.fnDesignSpec.pre6 enc Tryz.prog Tryz.f5 Rows.fnDesignRow.domain false) (Rows.fnDesignSpec.post enc Tryz.prog Tryz.f5 false true false false) := by
 refine returnsInHanded_of_change (C := Tryz.checked) own started (by kernel_rfl) Tryz.func5
  (ChangeSpec.witness6 (enc := enc) (C := Tryz.checked) false ⟨#[], #[.slice none 0 0, .slice none 0 0],[]⟩ 8 (by kernel_rfl) (by kernel_rfl) (by kernel_rfl) (by kernel_rfl)) ?_
 intro W base args ds gs before hval0 hW hcnd _
 have hval : ∀ (j : Nat) t v,Tryz.f5.params[j]? = some t → args[j]? = some v → Value.okWide Tryz.prog W .any base t v := hval0
 have hW' := hW
 obtain ⟨p,q,hA0,hV,rfl,hfz,hnd⟩ := hW
 have hA : DataW.TrodAll enc Tryz.prog W 0 (fun _ => true) true Tryz.f5.params.toList args.toList ds p := hA0
 rw [Tryz.params5] at hA hval
 obtain ⟨v0,vs0,d0,ds0,p0,q0,hargs,rfl,rfl,h0,r0⟩ := trodAll_cons hA
 obtain ⟨v1,vs1,d1,ds1,p1,q1,rfl,rfl,rfl,h1,r1⟩ := trodAll_cons r0
 obtain ⟨rfl,rfl,rfl⟩ := trodAll_nil r1
 obtain rfl : args = #[v0,v1] := by cases args; simp_all
 obtain ⟨rfl,rfl⟩ := trodVars_none hV
 have k0 := h0
 have lt0 : ∀ x ∈ p0,x.block < W.heap.size := by obtain ⟨m,hm⟩ := k0; exact DataW.trod_lt m _ _ _ hm
 have k1 := h1
 have lt1 : ∀ x ∈ p1,x.block < W.heap.size := by obtain ⟨m,hm⟩ := k1; exact DataW.trod_lt m _ _ _ hm
 clear hA0 hval0
 refine (walk W v0 _ _ _ _ _ (hval 0 22 v0 rfl rfl) k0 v1 _ _ _ _ _ (hval 1 22 v1 rfl rfl) k1).mono fun e W' ⟨he,bel⟩ => ?_
 subst he
 exact ⟨_,rfl,_,_,_,[],_,[],hW',trodAll_mk1 (shut_bool Tryz.underlying4 _),(trodAll_cons_mk (Below.trod aMy (by kernel_rfl) (of_decide_eq_true (by kernel_rfl)) k0 bel lt0) (trodAll_cons_mk (Below.trod aMy (by kernel_rfl) (of_decide_eq_true (by kernel_rfl)) k1 bel lt1) trodAll_mk0)),rfl,bel.frame _,fun h => by cases h⟩
theorem zP : Rows.fnDesignRow.holds Tryz.pinned (OpenSpec.ofChange Rows.fnDesignSpec) :=
 OpenClaim.holds_of_wide 5 Tryz.f5 rfl rfl rfl rfl rfl rfl rfl ⟨rfl,rfl,rfl,rfl,rfl⟩ rfl rfl rfl rfl rfl (by kernel_rfl) Tryz.func5 (by kernel_rfl)
  (of_decide_eq_true (by kernel_rfl)) (by unfold Func.isWrapper; first | (rw [if_pos (by decide +kernel)]; kernel_rfl) | (rw [if_neg (by decide +kernel)]; exact ⟨rfl,rfl⟩))
  (fun os started H enc _ => lifted os started H enc)
theorem proved : Rows.FnDesignSaid := zP
end Go.Proofs.YtgcdbbidmfdonaaGreat.fnDesign
