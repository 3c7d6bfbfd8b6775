/- Proved: the program's DeskWords returns what the reference's returns, in memory of its own. Conditions: none. -/
import Derived.Test.YtacnijnilopckaaOpen
import Derived.Test.YtacnijnilopckaaMark
import Derived.Test.YtacnijnilopckaaDeskWords
namespace Go.Proofs.Ytacnijnilopckaa.fnExactDeskWords
open Go.ChangeShapes Go.WideShapes Go.ChangeAt Go.RowKit
set_option linter.unusedVariables false

theorem dwl : deskWords.length = 16 := by decide
set_option maxHeartbeats 1000000 in
theorem walk (w : World) :
    Calls Try.prog 5 #[] w fun e w' => e = .returned (.bool true) ∧ Below w.heap.size w w' := by
  go_enter Try.func5, Try.ntmps5
  go_wp2_with fail
  refine (sDeskWords_c _).mono ?_
  rintro e w1 ⟨A0, c0, rfl, ho, hb⟩
  rw [dwl] at *
  have O0 := Lib.hid ho
  have B1 := Lib.hid hb
  clear ho hb
  go_wp2_with fail
  refine (DeskWords_c _).mono ?_
  rintro e w2 ⟨A1, c1, rfl, ho, hb⟩
  rw [dwl] at *
  have O1 := Lib.hid ho
  have B2 := Lib.hid hb
  clear ho hb
  have P0 := Lib.hid (own_below O0.out B2.out)
  go_wp2_with fail
  refine (eqStringS_t A1 A0 16 c1 c0 deskWords _ (own_row O1.out) (own_row P0.out) dwl.symm (by omega)).mono ?_
  rintro e w3 ⟨rfl, hb⟩
  have B3 := Lib.hid hb
  clear hb
  have O3 := Lib.hid (own_below O1.out B3.out)
  have P3 := Lib.hid (own_below P0.out B3.out)
  go_wp2_with fail
  refine (markStringS_c A1 16 c1 1 w1.heap.size _ (by omega) (strsV deskWords) _ O3.out (by omega) (by omega)).mono ?_
  rintro e w4 ⟨rfl, hm, hg⟩
  have M4 := Lib.hid hm
  have G := Lib.hid hg
  clear hm hg
  have P4 := Lib.hid (P3.out.kept G.out (own_apart O0.out O3.out (Nat.le_refl _)))
  go_wp2_with fail
  refine (heldStringS_c A1 16 c1 1 _ (by omega) _ (own_row M4.out) (by omega) (by omega) (by omega)).mono ?_
  rintro e w5 ⟨rfl, hb⟩
  have B5 := Lib.hid hb
  clear hb
  go_wp2_with fail
  refine (DeskWords_c _).mono ?_
  rintro e w6 ⟨A2, c2, rfl, ho, hb⟩
  rw [dwl] at *
  have O6 := Lib.hid ho
  have B6 := Lib.hid hb
  clear ho hb
  have P6 := Lib.hid (own_below (own_below P4.out B5.out) B6.out)
  have M6 := Lib.hid (own_below (own_below M4.out B5.out) B6.out)
  go_wp2_with fail
  refine (eqStringS_t A2 A0 16 c2 c0 deskWords _ (own_row O6.out) (own_row P6.out) dwl.symm (by omega)).mono ?_
  rintro e w7 ⟨rfl, hb⟩
  have B7 := Lib.hid hb
  clear hb
  go_wp2_with fail
  refine (heldStringS_c A1 16 c1 1 _ (by omega) _ (own_row (own_below M6.out B7.out)) (by omega) (by omega) (by omega)).mono ?_
  rintro e w8 ⟨rfl, hb⟩
  have B8 := Lib.hid hb
  clear hb
  go_wp2_with fail
  go_ret
  refine ⟨rfl, ?_⟩
  have s1 := B1.out.size
  have s2 := B2.out.size
  have s3 := B3.out.size
  have b4 := below_of_grown (B := w.heap.size) O3.out G.out s1 (by omega)
  have s4 := b4.size
  have s5 := B5.out.size
  have s6 := B6.out.size
  have s7 := B7.out.size
  exact (((((((B1.out.trans (B2.out.mono (by omega))).trans (B3.out.mono (by omega))).trans b4).trans (B5.out.mono (by omega))).trans (B6.out.mono (by omega))).trans (B7.out.mono (by omega))).trans (B8.out.mono (by omega)))

set_option maxRecDepth 100000 in
theorem lifted (os : Os) (started : os.Started) (H : Type) (enc : TypeId × Value → H) :
    ReturnsInHanded {} Try.checked os 5 .any (Rows.fnExactDeskWordsSpec.pre6 enc Try.prog Try.f5 Rows.fnExactDeskWordsRow.domain false) (Rows.fnExactDeskWordsSpec.post enc Try.prog Try.f5 false true false false) := by
  refine returnsInHanded_of_change (C := Try.checked) own started (by kernel_rfl) Try.func5
    (ChangeSpec.witness6 (enc := enc) (C := Try.checked) false ⟨#[], #[], []⟩ 8 (by kernel_rfl) (by kernel_rfl) (by kernel_rfl) (by kernel_rfl)) ?_
  intro W base args ds gs before hval0 hW hcnd _
  have hval : ∀ (j : Nat) t v, Try.f5.params[j]? = some t → args[j]? = some v → Value.okWide Try.prog W .any base t v := hval0
  have hW' := hW
  obtain ⟨p, q, hA0, hV, rfl, hfz, hnd⟩ := hW
  have hA : DataW.TrodAll enc Try.prog W 0 (fun _ => true) true Try.f5.params.toList args.toList ds p := hA0
  rw [Try.params5] at hA hval
  obtain ⟨rfl, rfl, rfl⟩ := trodAll_none hA
  obtain ⟨rfl, rfl⟩ := trodVars_none hV
  clear hA0 hval0
  refine (walk W ).mono fun e W' ⟨he, bel⟩ => ?_
  subst he
  exact ⟨_, rfl, _, _, _, [], _, [], hW', trodAll_mk1 (shut_bool Try.underlying4 _), rfl, rfl, bel.frame _, fun h => by cases h⟩

theorem over : Rows.fnExactDeskWordsRow.holds Try.pinned (OpenSpec.ofChange Rows.fnExactDeskWordsSpec) :=
  OpenClaim.holds_of_wide 5 Try.f5 rfl rfl rfl rfl rfl rfl rfl ⟨rfl, rfl, rfl, rfl, rfl⟩ rfl rfl rfl rfl rfl (by kernel_rfl) Try.func5 (by kernel_rfl)
    (of_decide_eq_true (by kernel_rfl)) (by unfold Func.isWrapper; first | (rw [if_pos (by decide +kernel)]; kernel_rfl) | (rw [if_neg (by decide +kernel)]; exact ⟨rfl, rfl⟩))
    (fun os started H enc _ => lifted os started H enc)

theorem proved : Rows.FnExactDeskWordsSaid := over

end Go.Proofs.Ytacnijnilopckaa.fnExactDeskWords
