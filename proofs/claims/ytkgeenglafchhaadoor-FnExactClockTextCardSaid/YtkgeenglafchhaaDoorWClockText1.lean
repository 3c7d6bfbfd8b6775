/- walks -/
import Derived.Test.YtkgeenglafchhaaDoorXM
import Derived.Test.YtkgeenglafchhaaDoorTab
import Derived.Test.YtkgeenglafchhaaDoorProg
import Derived.Test.YtkgeenglafchhaaDoorSh
namespace Go.Proofs.YtkgeenglafchhaaDoor
open Go.RowKit
set_option linter.unusedVariables false
set_option maxRecDepth 100000
set_option maxHeartbeats 2000000
theorem s_l00In_c {p0 : Int} {p1 : Int} {p2 : Int} {r : Bool} (h0 : s_l00In_m p0 p1 p2 = some r) : FnC Tryd.prog 13 [] [.d (.v (.int .i64 p0)), .d (.v (.int .i64 p1)), .d (.v (.int .i64 p2))] [] (.d (.v (.bool r))) := by
  refine fnc_intro (T := tt) (N := 15) tok Tryd.func13 rfl rfl (by kernel_rfl) rfl rfl ?_
  unfold s_l00In_m at h0
  refine sq [0] ?_
  refine pa ?_
  refine nx ?_
  refine sq [0,1,2,3,4,5,6,7,8] ?_
  refine pm ?_
  refine pm ?_
  refine rp rfl w0 rfl (pu_geq rfl rfl) ?_
  refine pm ?_
  refine ra_if (u := 10) h0 rfl (fun hc h0 => ?_) (fun hc h0 => ?_)
  refine pm1 ?_
  refine pm1 ?_
  refine rp rfl (w1 rfl rfl rfl) rfl (pu_leq rfl rfl) ?_
  refine pkt ?_
  refine pa ?_
  refine nx ?_
  refine aw_ret ?_
  cases h0
  exact ret0_ (rs := [.tmp 6]) rfl
  iterate 3 refine k1 ?_
  refine pkf ?_
  refine pa ?_
  refine nx ?_
  refine aw_ret ?_
  cases h0
  exact ret0_ (rs := [.tmp 6]) rfl

theorem s_l01Dec_c {p0 : Int} {r : ByteArray} (h0 : s_l01Dec_m p0 = some r) : FnC Tryd.prog 28 [] [.d (.v (.int .i64 p0))] [] (.d (.v (.string r))) := by
  refine fnc_intro (T := tt) (N := 34) tok Tryd.func28 rfl rfl (by kernel_rfl) rfl rfl ?_
  unfold s_l01Dec_m at h0
  refine sq [0] ?_
  refine pa ?_
  refine nx ?_
  refine sq [0,1] ?_
  refine rs rfl w0 rfl (st_slice0 3 tok rfl rfl rfl rfl) ?_
  refine rp rfl w0 rfl (pu_assign (r := .own _ _ _) rfl) ?_
  refine nx ?_
  obtain ⟨v11, h1, h0⟩ := bnd h0
  refine aw_cut ⟨updA (updA ((fun _ => .dead)) 0 (.d (.v (.int .i64 p0)))) 3 (.own 3 0 (v11).length), lks [.no, .no, .no, .live [⟨5, 1, .data (List.map cU8 v11)⟩]]⟩ ?_ ?_
  refine sq [0,1] ?_
  refine pm ?_
  refine pa ?_
  refine nx ?_
  refine aw_block ?_
  refine aw_loopM (fun s6 => ⟨updA (updA (updA ((fun _ => .dead)) 0 (.d (.v (.int .i64 p0)))) 3 (.own 3 0 (s6.2).length)) 4 (.d (.v (.int .i64 s6.1))), lks [.no, .no, .no, .live [⟨5, 1, .data (List.map cU8 s6.2)⟩]]⟩) h1 ?_ (fun s6 y h2 => ?_)
  exact wk [0, 1, 2, 3]
  refine aw_seq ?_
  refine sq [0,1] ?_
  refine pm ?_
  refine rp rfl w0 rfl (pu_neq rfl rfl) ?_
  refine nx ?_
  refine aw_if h2 rfl (fun hc h2 => ?_) (fun hc h2 => ?_)
  refine sk ?_
  refine aw_seq ?_
  refine aw_block ?_
  refine sq [0,1,2] ?_
  refine pm ?_
  refine rp rfl w0 rfl (pu_remw rfl rfl (by decide)) ?_
  refine pa ?_
  refine nx ?_
  obtain ⟨v8, h3, h2⟩ := bnd h2
  refine aw_cut ⟨updA (updA (updA (updA ((fun _ => .dead)) 0 (.d (.v (.int .i64 p0)))) 3 (.own 3 0 (s6.2).length)) 4 (.d (.v (.int .i64 s6.1)))) 5 (.d (.v (.int .i64 v8))), lks [.no, .no, .no, .live [⟨5, 1, .data (List.map cU8 s6.2)⟩]]⟩ ?_ ?_
  refine sq [0,1] ?_
  refine pm ?_
  refine rp rfl w0 rfl (pu_lss rfl rfl) ?_
  refine nx ?_
  refine aw_if h3 rfl (fun hc h3 => ?_) (fun hc h3 => ?_)
  refine sr [0,1,2] ?_
  refine pm ?_
  refine rp rfl w0 rfl (pw_neg rfl) ?_
  refine pa ?_
  refine nx ?_
  cases h3
  exact wk [0, 1, 2, 3]
  refine sk ?_
  cases h3
  exact wk [0, 1, 2, 3]
  refine sr [0,1,2,3,4,5,6] ?_
  refine pm ?_
  refine rp rfl w0 rfl (pw_add rfl rfl) ?_
  refine rp rfl w0 rfl (pu_ii tok rfl rfl rfl rfl rfl) ?_
  refine rs rfl w0 rfl (bs_own 4 tok cU8 [IntKind.u8.wrap (w64 (48 + v8))] rfl rfl rfl (by repeat (first | exact Els.nil _ | apply Els.cons (cs := [.d _]) rfl rfl rfl | apply Els.cons (cs := _ :: _) rfl rfl rfl)) rfl rfl rfl (by repeat (first | exact AllDD.nil | (apply AllDD.cons; (repeat (first | exact AllD.nil | apply AllD.cons))))) rfl rfl) ?_
  refine rp rfl w0 rfl (pu_move (r := .own _ _ _) rfl) ?_
  obtain ⟨hq9, h2⟩ := chk_e h2
  refine rw1 rfl w0 rfl (ap_oo tok hq9 rfl rfl rfl rfl rfl rfl rfl rfl rfl rfl rfl rfl rfl rfl rfl) ?_
  refine rp rfl w0 rfl (pu_assign (r := .own _ _ _) rfl) ?_
  refine ra_nil ?_
  refine block_n ?_
  refine then_n ?_
  refine sr [0,1,2] ?_
  refine pm ?_
  refine rp rfl w0 rfl (pw_quo rfl rfl (by decide)) ?_
  refine pa ?_
  refine ra_nil ?_
  refine loop_n ?_
  cases h2
  refine ⟨_, rfl, ?_⟩
  exact wk [0, 1, 2, 4]
  refine aw_exit ?_
  refine then_e ?_
  cases h2
  refine loop_x ⟨_, rfl, fun e => ?_⟩
  subst e
  refine block_hit ?_
  refine then_n ?_
  exact wk [0, 1, 2, 3]
  refine aw_seq ?_
  refine sq [0,1,2] ?_
  refine rp rfl w0 rfl (pu_move (r := .own _ _ _) rfl) ?_
  refine rl rfl w0 rfl (ow_len tok rfl rfl rfl rfl rfl) ?_
  refine rp rfl w0 rfl (pu_eql rfl rfl) ?_
  refine nx ?_
  refine aw_if h0 rfl (fun hc h0 => ?_) (fun hc h0 => ?_)
  refine sq [0] ?_
  refine pa ?_
  refine nx ?_
  refine aw_ret ?_
  refine then_r ?_
  cases h0
  exact ret0_ (rs := [.tmp 2]) rfl
  refine sk ?_
  refine aw_seq ?_
  refine sq [0,1] ?_
  refine pm ?_
  refine rp rfl w0 rfl (pu_lss rfl rfl) ?_
  refine nx ?_
  refine aw_if h0 rfl (fun hc h0 => ?_) (fun hc h0 => ?_)
  refine sq [0,1,2,3] ?_
  refine rp rfl w0 rfl (pu_move (r := .own _ _ _) rfl) ?_
  refine rs rfl w0 rfl (cv_bo tok rfl rfl rfl rfl rfl rfl rfl rfl rfl rfl) ?_
  obtain ⟨hq12, h0⟩ := chk_e h0
  refine rp rfl w0 rfl (pu_cat rfl rfl hq12) ?_
  refine pa ?_
  refine nx ?_
  refine aw_ret ?_
  refine then_r ?_
  cases h0
  exact ret0_ (rs := [.tmp 2]) rfl
  refine sk ?_
  refine sq [0,1,2] ?_
  refine rp rfl w0 rfl (pu_move (r := .own _ _ _) rfl) ?_
  refine rs rfl w0 rfl (cv_bo tok rfl rfl rfl rfl rfl rfl rfl rfl rfl rfl) ?_
  refine pa ?_
  refine nx ?_
  refine aw_ret ?_
  cases h0
  exact ret0_ (rs := [.tmp 2]) rfl

theorem s_l27Two_c {p0 : Int} {r : ByteArray} (h0 : s_l27Two_m p0 = some r) : FnC Tryd.prog 24 [] [.d (.v (.int .i64 p0))] [] (.d (.v (.string r))) := by
  refine fnc_intro (T := tt) (N := 10) tok Tryd.func24 rfl rfl (by kernel_rfl) rfl rfl ?_
  unfold s_l27Two_m at h0
  refine sq [0] ?_
  refine pa ?_
  refine nx ?_
  refine sq [0,1,2,3,4,5,6,7] ?_
  refine pm ?_
  refine rp rfl w0 rfl (pw_quo rfl rfl (by decide)) ?_
  obtain ⟨v2, hv2, h0⟩ := bnd h0
  refine rs rfl w0 rfl (c_call 3 (s_l01Dec_c hv2) rfl rfl rfl) ?_
  refine pm ?_
  refine rp rfl w0 rfl (pu_remw rfl rfl (by decide)) ?_
  obtain ⟨v4, hv4, h0⟩ := bnd h0
  refine rs rfl w0 rfl (c_call 3 (s_l01Dec_c hv4) rfl rfl rfl) ?_
  obtain ⟨hq5, h0⟩ := chk_e h0
  refine rp rfl w0 rfl (pu_cat rfl rfl hq5) ?_
  refine pa ?_
  refine nx ?_
  refine aw_ret ?_
  cases h0
  exact ret0_ (rs := [.tmp 2]) rfl

theorem s_l27Clock_c {p0 : Int} {r : ByteArray} (h0 : s_l27Clock_m p0 = some r) : FnC Tryd.prog 14 [] [.d (.v (.int .i64 p0))] [] (.d (.v (.string r))) := by
  refine fnc_intro (T := tt) (N := 20) tok Tryd.func14 rfl rfl (by kernel_rfl) rfl rfl ?_
  unfold s_l27Clock_m at h0
  refine sq [0] ?_
  refine pa ?_
  refine nx ?_
  refine sq [0,1,2] ?_
  refine pm ?_
  refine rp rfl w0 rfl (pu_remw rfl rfl (by decide)) ?_
  refine pa ?_
  refine nx ?_
  refine sq [0,1,2,3,4,5,6,7,8,9,10,11,12,13,14] ?_
  refine pm ?_
  refine rp rfl w0 rfl (pw_quo rfl rfl (by decide)) ?_
  obtain ⟨v3, hv3, h0⟩ := bnd h0
  refine rs rfl w0 rfl (c_call 3 (s_l27Two_c hv3) rfl rfl rfl) ?_
  obtain ⟨hq4, h0⟩ := chk_e h0
  refine rp rfl w0 rfl (pu_cat rfl rfl hq4) ?_
  refine pm ?_
  refine rp rfl w0 rfl (pw_quo rfl rfl (by decide)) ?_
  refine rp rfl w0 rfl (pu_remw rfl rfl (by decide)) ?_
  obtain ⟨v7, hv7, h0⟩ := bnd h0
  refine rs rfl w0 rfl (c_call 3 (s_l27Two_c hv7) rfl rfl rfl) ?_
  obtain ⟨hq8, h0⟩ := chk_e h0
  refine rp rfl w0 rfl (pu_cat rfl rfl hq8) ?_
  obtain ⟨hq9, h0⟩ := chk_e h0
  refine rp rfl w0 rfl (pu_cat rfl rfl hq9) ?_
  refine pm ?_
  refine rp rfl w0 rfl (pu_remw rfl rfl (by decide)) ?_
  obtain ⟨v11, hv11, h0⟩ := bnd h0
  refine rs rfl w0 rfl (c_call 3 (s_l27Two_c hv11) rfl rfl rfl) ?_
  obtain ⟨hq12, h0⟩ := chk_e h0
  refine rp rfl w0 rfl (pu_cat rfl rfl hq12) ?_
  refine pa ?_
  refine nx ?_
  refine aw_ret ?_
  cases h0
  exact ret0_ (rs := [.tmp 2]) rfl

theorem s_ClockText_c {p0 : Int} {r : ByteArray} (h0 : s_ClockText_m p0 = some r) : FnC Tryd.prog 5 [] [.d (.v (.int .i64 p0))] [] (.d (.v (.string r))) := by
  refine fnc_intro (T := tt) (N := 8) tok Tryd.func5 rfl rfl (by kernel_rfl) rfl rfl ?_
  unfold s_ClockText_m at h0
  refine sq [0] ?_
  refine pa ?_
  refine nx ?_
  refine aw_seq ?_
  refine sq [0,1,2] ?_
  refine pm ?_
  obtain ⟨v1, hv1, h0⟩ := bnd h0
  refine rs rfl w0 rfl (c_call 3 (s_l00In_c hv1) rfl rfl rfl) ?_
  refine rp rfl w0 rfl (pu_not rfl) ?_
  refine nx ?_
  refine aw_ifB h0 rfl (fun hc h0 => ?_) (fun hc h0 => ?_)
  refine sq [0] ?_
  refine pa ?_
  refine nx ?_
  refine aw_ret ?_
  refine then_r ?_
  cases h0
  exact ret0_ (rs := [.tmp 2]) rfl
  refine sk ?_
  refine sq [0,1,2] ?_
  refine pm ?_
  obtain ⟨v2, hv2, h0⟩ := bnd h0
  refine rs rfl w0 rfl (c_call 3 (s_l27Clock_c hv2) rfl rfl rfl) ?_
  refine pa ?_
  refine nx ?_
  refine aw_ret ?_
  cases h0
  exact ret0_ (rs := [.tmp 2]) rfl

theorem i_within_c {p0 : Int} {p1 : Int} {p2 : Int} {r : Bool} (h0 : i_within_m p0 p1 p2 = some r) : FnC Tryd.prog 15 [] [.d (.v (.int .i64 p0)), .d (.v (.int .i64 p1)), .d (.v (.int .i64 p2))] [] (.d (.v (.bool r))) := by
  refine fnc_intro (T := tt) (N := 15) tok Tryd.func15 rfl rfl (by kernel_rfl) rfl rfl ?_
  unfold i_within_m at h0
  refine sq [0] ?_
  refine pa ?_
  refine nx ?_
  refine sq [0,1,2,3,4,5,6,7,8] ?_
  refine pm ?_
  refine pm ?_
  refine rp rfl w0 rfl (pu_geq rfl rfl) ?_
  refine pm ?_
  refine ra_if (u := 10) h0 rfl (fun hc h0 => ?_) (fun hc h0 => ?_)
  refine pm1 ?_
  refine pm1 ?_
  refine rp rfl (w1 rfl rfl rfl) rfl (pu_leq rfl rfl) ?_
  refine pkt ?_
  refine pa ?_
  refine nx ?_
  refine aw_ret ?_
  cases h0
  exact ret0_ (rs := [.tmp 6]) rfl
  iterate 3 refine k1 ?_
  refine pkf ?_
  refine pa ?_
  refine nx ?_
  refine aw_ret ?_
  cases h0
  exact ret0_ (rs := [.tmp 6]) rfl

theorem strconv_FormatInt_c {p0 p1 : Int} {r : ByteArray} (h0 : strconv_FormatInt_m p0 p1 = some r) : FnC Tryd.prog 32 [] [.d (.v (.int .i64 p0)), .d (.v (.int .i64 p1))] [] (.d (.v (.string r))) := by
  obtain ⟨⟨q0, q1, q2⟩, h0⟩ := chk_e h0
  cases h0
  subst q2
  exact sh_fmt q0 q1

theorem i_Decimal_c {p0 : Int} {r : ByteArray} (h0 : i_Decimal_m p0 = some r) : FnC Tryd.prog 22 [] [.d (.v (.int .i64 p0))] [] (.d (.v (.string r))) := by
  refine fnc_intro (T := tt) (N := 5) tok Tryd.func22 rfl rfl (by kernel_rfl) rfl rfl ?_
  unfold i_Decimal_m at h0
  refine sq [0] ?_
  refine pa ?_
  refine nx ?_
  refine sq [0,1,2] ?_
  refine pm ?_
  obtain ⟨v1, hv1, h0⟩ := bnd h0
  refine rs rfl w0 rfl (c_call 3 (strconv_FormatInt_c hv1) rfl rfl rfl) ?_
  refine pa ?_
  refine nx ?_
  refine aw_ret ?_
  cases h0
  exact ret0_ (rs := [.tmp 2]) rfl

theorem i_twoDigits_c {p0 : Int} {r : ByteArray} (h0 : i_twoDigits_m p0 = some r) : FnC Tryd.prog 16 [] [.d (.v (.int .i64 p0))] [] (.d (.v (.string r))) := by
  refine fnc_intro (T := tt) (N := 10) tok Tryd.func16 rfl rfl (by kernel_rfl) rfl rfl ?_
  unfold i_twoDigits_m at h0
  refine sq [0] ?_
  refine pa ?_
  refine nx ?_
  refine sq [0,1,2,3,4,5,6,7] ?_
  refine pm ?_
  refine rp rfl w0 rfl (pw_quo rfl rfl (by decide)) ?_
  obtain ⟨v2, hv2, h0⟩ := bnd h0
  refine rs rfl w0 rfl (c_call 3 (i_Decimal_c hv2) rfl rfl rfl) ?_
  refine pm ?_
  refine rp rfl w0 rfl (pu_remw rfl rfl (by decide)) ?_
  obtain ⟨v4, hv4, h0⟩ := bnd h0
  refine rs rfl w0 rfl (c_call 3 (i_Decimal_c hv4) rfl rfl rfl) ?_
  obtain ⟨hq5, h0⟩ := chk_e h0
  refine rp rfl w0 rfl (pu_cat rfl rfl hq5) ?_
  refine pa ?_
  refine nx ?_
  refine aw_ret ?_
  cases h0
  exact ret0_ (rs := [.tmp 2]) rfl

theorem i_ClockText_c {p0 : Int} {r : ByteArray} (h0 : i_ClockText_m p0 = some r) : FnC Tryd.prog 6 [] [.d (.v (.int .i64 p0))] [] (.d (.v (.string r))) := by
  refine fnc_intro (T := tt) (N := 23) tok Tryd.func6 rfl rfl (by kernel_rfl) rfl rfl ?_
  unfold i_ClockText_m at h0
  refine sq [0] ?_
  refine pa ?_
  refine nx ?_
  refine aw_seq ?_
  refine sq [0,1,2] ?_
  refine pm ?_
  obtain ⟨v1, hv1, h0⟩ := bnd h0
  refine rs rfl w0 rfl (c_call 3 (i_within_c hv1) rfl rfl rfl) ?_
  refine rp rfl w0 rfl (pu_not rfl) ?_
  refine nx ?_
  refine aw_ifB h0 rfl (fun hc h0 => ?_) (fun hc h0 => ?_)
  refine sq [0] ?_
  refine pa ?_
  refine nx ?_
  refine aw_ret ?_
  refine then_r ?_
  cases h0
  exact ret0_ (rs := [.tmp 2]) rfl
  refine sk ?_
  refine sq [0,1,2] ?_
  refine pm ?_
  refine rp rfl w0 rfl (pu_remw rfl rfl (by decide)) ?_
  refine pa ?_
  refine nx ?_
  refine sq [0,1,2,3,4,5,6,7,8,9,10,11,12,13,14] ?_
  refine pm ?_
  refine rp rfl w0 rfl (pw_quo rfl rfl (by decide)) ?_
  obtain ⟨v4, hv4, h0⟩ := bnd h0
  refine rs rfl w0 rfl (c_call 3 (i_twoDigits_c hv4) rfl rfl rfl) ?_
  obtain ⟨hq5, h0⟩ := chk_e h0
  refine rp rfl w0 rfl (pu_cat rfl rfl hq5) ?_
  refine pm ?_
  refine rp rfl w0 rfl (pw_quo rfl rfl (by decide)) ?_
  refine rp rfl w0 rfl (pu_remw rfl rfl (by decide)) ?_
  obtain ⟨v8, hv8, h0⟩ := bnd h0
  refine rs rfl w0 rfl (c_call 3 (i_twoDigits_c hv8) rfl rfl rfl) ?_
  obtain ⟨hq9, h0⟩ := chk_e h0
  refine rp rfl w0 rfl (pu_cat rfl rfl hq9) ?_
  obtain ⟨hq10, h0⟩ := chk_e h0
  refine rp rfl w0 rfl (pu_cat rfl rfl hq10) ?_
  refine pm ?_
  refine rp rfl w0 rfl (pu_remw rfl rfl (by decide)) ?_
  obtain ⟨v12, hv12, h0⟩ := bnd h0
  refine rs rfl w0 rfl (c_call 3 (i_twoDigits_c hv12) rfl rfl rfl) ?_
  obtain ⟨hq13, h0⟩ := chk_e h0
  refine rp rfl w0 rfl (pu_cat rfl rfl hq13) ?_
  refine pa ?_
  refine nx ?_
  refine aw_ret ?_
  cases h0
  exact ret0_ (rs := [.tmp 2]) rfl

theorem l_FnExactClockText_c {p0 : Int} {r : Bool} (h0 : l_FnExactClockText_m p0 = some r) : FnC Tryd.prog 3 [] [.d (.v (.int .i64 p0))] [] (.d (.v (.bool r))) := by
  refine fnc_intro (T := tt) (N := 12) tok Tryd.func3 rfl rfl (by kernel_rfl) rfl rfl ?_
  unfold l_FnExactClockText_m at h0
  refine sq [0] ?_
  refine pa ?_
  refine nx ?_
  refine sq [0,1,2] ?_
  refine pm ?_
  obtain ⟨v1, hv1, h0⟩ := bnd h0
  refine rs rfl w0 rfl (c_call 3 (s_ClockText_c hv1) rfl rfl rfl) ?_
  refine pa ?_
  refine nx ?_
  refine sq [0,1,2] ?_
  refine pm ?_
  obtain ⟨v2, hv2, h0⟩ := bnd h0
  refine rs rfl w0 rfl (c_call 3 (i_ClockText_c hv2) rfl rfl rfl) ?_
  refine pa ?_
  refine nx ?_
  refine aw_seq ?_
  refine sq [0,1,2] ?_
  refine pm ?_
  refine pm ?_
  refine rp rfl w0 rfl (pu_sneq rfl rfl) ?_
  refine nx ?_
  refine aw_if h0 rfl (fun hc h0 => ?_) (fun hc h0 => ?_)
  refine sq [0] ?_
  refine pa ?_
  refine nx ?_
  refine aw_ret ?_
  refine then_r ?_
  cases h0
  exact ret0_ (rs := [.tmp 2]) rfl
  refine sk ?_
  refine sq [0] ?_
  refine pa ?_
  refine nx ?_
  refine aw_ret ?_
  cases h0
  exact ret0_ (rs := [.tmp 2]) rfl

end Go.Proofs.YtkgeenglafchhaaDoor
