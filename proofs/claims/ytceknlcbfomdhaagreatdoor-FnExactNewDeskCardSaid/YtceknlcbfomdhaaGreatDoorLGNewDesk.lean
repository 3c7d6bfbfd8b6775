/- Proved: the law FnExactNewDesk holds for all arguments. Conditions: library tables and errors that the row lists hold at the start what the program text lays (the card ties them). -/
import Derived.Test.YtceknlcbfomdhaaGreatDoorCards
import Derived.Test.YtceknlcbfomdhaaGreatDoorGN9
namespace Go.Proofs.YtceknlcbfomdhaaGreatDoor.fnExactNewDesk
open Go.ChangeShapes Go.WideShapes Go.ChangeAt Go.RowKit
set_option linter.unusedVariables false
set_option maxRecDepth 100000
theorem walk (w:World) (gl:aFc (fun b=>b<w.heap.size) w):Calls Tryz.prog 3 #[] w fun e w'=>e = .returned (.bool true)∧Below w.heap.size w w':=by
 exact aS8 (aAh (aL6 )) w ([]:List Value).toArray rfl aS2 gl
set_option maxRecDepth 100000 in
theorem lifted (os:Os) (started:os.Started) (H:Type) (enc:TypeId × Value→H) :
  ReturnsInHanded {} Tryz.checked os 3 .any (fun w args=>(Rows.fnExactNewDeskSpec.pre enc Tryz.prog Tryz.f3 [] false w args∧laidMet Tryz.prog aAk w)∧sizedMet enc Tryz.prog Tryz.f3 (OpenSpec.ofChange Rows.fnExactNewDeskSpec) false w args) (Rows.fnExactNewDeskSpec.post enc Tryz.prog Tryz.f3 false true false false):=by
 refine returnsInHanded_of_change_and (C:=Tryz.checked) (X:=fun w _=>laidMet Tryz.prog aAk w) (fun _ _ _ hh h=>h.of_heap hh) own started (by kernel_rfl) Tryz.func3
  (ChangeSpec.witness_at (enc:=enc) (C:=Tryz.checked) (os:=os) (X:=fun w _=>laidMet Tryz.prog aAk w) false (aJy os) #[] 8 rfl (by kernel_rfl) (by kernel_rfl) (by kernel_rfl) (by kernel_rfl) (by kernel_rfl) (aHw os _)) ?_
 intro W base args ds gs before hval0 hW _ _ hL _
 have hval : ∀ (j:Nat) t v,Tryz.f3.params[j]? = some t→args[j]? = some v→Value.okWide Tryz.prog W .any base t v:=hval0
 have hW':=hW
 obtain ⟨p,q,hA0,hV,rfl,hfz,hnd⟩:=hW
 have hA:DataW.TrodAll enc Tryz.prog W 0 (fun _=>true) true Tryz.f3.params.toList args.toList ds p:=hA0
 rw [Tryz.params3] at hA hval
 obtain ⟨rfl,rfl,rfl⟩:=trodAll_none hA
 obtain ⟨rfl,rfl⟩:=trodVars_none hV
 clear hA0 hval0
 refine (walk W (aJl hL) ).mono fun e W' ⟨he,bel⟩ => ?_
 subst he
 exact ⟨_,rfl,_,_,_,[],_,[],hW',trodAll_mk1 (shut_bool Tryz.underlying4 _),rfl,rfl,bel.frame _,fun h=>by cases h⟩
theorem aB5:Rows.fnExactNewDeskRow.holds Tryz.pinned (OpenSpec.ofChange Rows.fnExactNewDeskSpec) :=
 OpenClaim.holds_of_wide 3 Tryz.f3 rfl rfl rfl rfl rfl rfl rfl ⟨rfl,rfl,rfl,rfl,rfl⟩ rfl rfl rfl rfl rfl (by kernel_rfl) Tryz.func3 (by kernel_rfl)
  (of_decide_eq_true (by kernel_rfl)) (by unfold Func.isWrapper;first | (rw [if_pos (by decide +kernel)];kernel_rfl) | (rw [if_neg (by decide +kernel)];exact ⟨rfl,rfl⟩))
  (fun os started H enc _=>lifted os started H enc)
theorem proved:Rows.FnExactNewDeskCardSaid:=by
 refine Claim7.holds_tied_plain_at .later [] _ true _ false aB5 (fun _ h=>by cases h) (by kernel_rfl) (fun _ h=>by cases h) fnExactNewDesk_row_tie rfl ⟨rfl,rfl⟩ (by kernel_rfl) rfl ?_ (by kernel_rfl)
 intro f fn hf hfn
 obtain rfl:f=3:=(Option.some.inj ((show Tryz.prog.funcNamed Rows.fnExactNewDeskRow.func=some 3 by kernel_rfl).symm.trans hf)).symm
 obtain rfl:fn=Tryz.f3:=(Option.some.inj (Tryz.func3.symm.trans hfn)).symm
 refine ⟨by kernel_rfl,fun j t ht => ?_⟩
 have hall:(Tryz.f3.params.toList.all fun t => !(Tryz.prog.wantsStandIn t))=true:=by kernel_rfl
 have:=List.all_eq_true.1 hall t (Array.mem_toList_iff.2 (Array.mem_of_getElem? ht))
 show Tryz.prog.wantsStandIn t=false
 simpa using this
end Go.Proofs.YtceknlcbfomdhaaGreatDoor.fnExactNewDesk
