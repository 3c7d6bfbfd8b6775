/- Proved: the law FnExactPartsOf holds for all arguments. Conditions: library tables and errors that the row lists hold at the start what the program text lays (the card ties them). -/
import Derived.Test.YtgcdbbidmfdonaaGreatDoorCards
import Derived.Test.YtgcdbbidmfdonaaGreatDoorGP6
namespace Go.Proofs.YtgcdbbidmfdonaaGreatDoor.fnExactPartsOf
open Go.ChangeShapes Go.WideShapes Go.ChangeAt Go.RowKit
set_option linter.unusedVariables false
set_option maxRecDepth 100000
theorem walk (w : World) (gl : sV (fun b => b < w.heap.size) w) (v0 : Value) (H0 : Type) (enc0 : TypeId × Value → H0) (d0 : DataW H0) (p0 : List MemPlace) (b0 : Nat) (hv0 : Value.okWide Tryz.prog w .any b0 32 v0) (h0 : DataW.Trod enc0 Tryz.prog w 0 (fun _ => true) true 32 v0 d0 p0) : Calls Tryz.prog 3 #[v0] w fun e w' => e = .returned (.bool true) ∧ Below w.heap.size w w' := by
 obtain ⟨x0,r0,k0⟩ := aGn hv0 h0
 exact aAq (oH (yP x0 k0)) w ([v0] : List Value).toArray rfl (aCr r0 aDy) gl
set_option maxRecDepth 100000 in
theorem lifted (os : Os) (started : os.Started) (H : Type) (enc : TypeId × Value → H) :
  ReturnsInHanded {} Tryz.checked os 3 .any (fun w args => (Rows.fnExactPartsOfSpec.pre enc Tryz.prog Tryz.f3 [] false w args ∧ laidMet Tryz.prog oD w) ∧ sizedMet enc Tryz.prog Tryz.f3 (OpenSpec.ofChange Rows.fnExactPartsOfSpec) false w args) (Rows.fnExactPartsOfSpec.post enc Tryz.prog Tryz.f3 false true false false) := by
 refine returnsInHanded_of_change_and (C := Tryz.checked) (X := fun w _ => laidMet Tryz.prog oD w) (fun _ _ _ hh h => h.of_heap hh) own started (by kernel_rfl) Tryz.func3
  (ChangeSpec.witness_at (enc := enc) (C := Tryz.checked) (os := os) (X := fun w _ => laidMet Tryz.prog oD w) false (xC os) #[.agg #[.string ⟨#[]⟩, .slice none 0 0, .slice none 0 0, .int .i64 0, .int .i64 0, .int .i64 0, .int .i64 0, .int .i64 0, .string ⟨#[]⟩, .slice none 0 0, .slice none 0 0, .int .i64 0, .slice none 0 0, .int .i64 0]] 8 rfl (by kernel_rfl) (by kernel_rfl) (by kernel_rfl) (by kernel_rfl) (by kernel_rfl) (wB os _)) ?_
 intro W base args ds gs before hval0 hW _ _ hL _
 have hval : ∀ (j : Nat) t v,Tryz.f3.params[j]? = some t → args[j]? = some v → Value.okWide Tryz.prog W .any base t v := hval0
 have hW' := hW
 obtain ⟨p,q,hA0,hV,rfl,hfz,hnd⟩ := hW
 have hA : DataW.TrodAll enc Tryz.prog W 0 (fun _ => true) true Tryz.f3.params.toList args.toList ds p := hA0
 rw [Tryz.params3] at hA hval
 obtain ⟨v0,vs0,d0,ds0,p0,q0,hargs,rfl,rfl,h0,r0⟩ := trodAll_cons hA
 obtain ⟨rfl,rfl,rfl⟩ := trodAll_nil r0
 obtain rfl : args = #[v0] := by cases args; simp_all
 obtain ⟨rfl,rfl⟩ := trodVars_none hV
 have k0 := h0
 have lt0 : ∀ x ∈ p0,x.block < W.heap.size := by obtain ⟨m,hm⟩ := k0; exact DataW.trod_lt m _ _ _ hm
 clear hA0 hval0
 refine (walk W (wZ hL) v0 _ _ _ _ _ (hval 0 32 v0 rfl rfl) k0).mono fun e W' ⟨he,bel⟩ => ?_
 subst he
 exact ⟨_,rfl,_,_,_,[],_,[],hW',trodAll_mk1 (shut_bool Tryz.underlying4 _),(trodAll_cons_mk (Below.trod aFv (by kernel_rfl) (of_decide_eq_true (by kernel_rfl)) k0 bel lt0) trodAll_mk0),rfl,bel.frame _,fun h => by cases h⟩
theorem qA : Rows.fnExactPartsOfRow.holds Tryz.pinned (OpenSpec.ofChange Rows.fnExactPartsOfSpec) :=
 OpenClaim.holds_of_wide 3 Tryz.f3 rfl rfl rfl rfl rfl rfl rfl ⟨rfl,rfl,rfl,rfl,rfl⟩ rfl rfl rfl rfl rfl (by kernel_rfl) Tryz.func3 (by kernel_rfl)
  (of_decide_eq_true (by kernel_rfl)) (by unfold Func.isWrapper; first | (rw [if_pos (by decide +kernel)]; kernel_rfl) | (rw [if_neg (by decide +kernel)]; exact ⟨rfl,rfl⟩))
  (fun os started H enc _ => lifted os started H enc)
theorem proved : Rows.FnExactPartsOfCardSaid := by
 refine Claim7.holds_tied_plain_at .later [] _ true _ false qA (fun _ h => by cases h) (by kernel_rfl) (fun _ h => by cases h) fnExactPartsOf_row_tie rfl ⟨rfl,rfl⟩ (by kernel_rfl) rfl ?_ (by kernel_rfl)
 intro f fn hf hfn
 obtain rfl : f = 3 := (Option.some.inj ((show Tryz.prog.funcNamed Rows.fnExactPartsOfRow.func = some 3 by kernel_rfl).symm.trans hf)).symm
 obtain rfl : fn = Tryz.f3 := (Option.some.inj (Tryz.func3.symm.trans hfn)).symm
 refine ⟨by kernel_rfl,fun j t ht => ?_⟩
 have hall : (Tryz.f3.params.toList.all fun t => !(Tryz.prog.wantsStandIn t)) = true := by kernel_rfl
 have := List.all_eq_true.1 hall t (Array.mem_toList_iff.2 (Array.mem_of_getElem? ht))
 show Tryz.prog.wantsStandIn t = false
 simpa using this
end Go.Proofs.YtgcdbbidmfdonaaGreatDoor.fnExactPartsOf
