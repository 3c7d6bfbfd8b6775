/- walks -/
import Derived.Test.YtdchemiillekjaaGreatXM
import Derived.Test.YtdchemiillekjaaGreatTab
import Derived.Test.YtdchemiillekjaaGreatProg
import Derived.Test.YtdchemiillekjaaGreatWHandsOf2
namespace Go.Proofs.YtdchemiillekjaaGreat
open Go.RowKit
set_option linter.unusedVariables false
set_option maxRecDepth 100000
set_option maxHeartbeats 2000000
theorem i_SpeedOf_c {p0 : Movement_} {p1 : Int} {r : Ratio_ × Int} (h0 : i_SpeedOf_m p0 p1 = some r) : FnC Tryz.prog 126 [] [.agg [.d (.v (.string p0.Name)), .d (.sl (List.map cArbor_ p0.Works.Arbors)), .d (.sl (List.map cMesh_ p0.Works.Meshes)), .d (.v (.int .i64 p0.Minute)), .d (.v (.int .i64 p0.Hour)), .d (.v (.int .i64 p0.Escape)), .d (.v (.int .i64 p0.Teeth)), .d (.v (.int .i64 p0.Beats)), .d (.v (.string p0.Calendar.Name)), .d (.sl (List.map cMonth_ p0.Calendar.Months)), .d (.sl (List.map cLeapRule_ p0.Calendar.Rules)), .d (.v (.int .i64 p0.Calendar.Week)), .d (.sl (List.map cI p0.Cam)), .d (.v (.int .i64 p0.Strike))], .d (.v (.int .i64 p1))] [] (.tup [.agg [.d (.v (.int .i64 r.1.Num)), .d (.v (.int .i64 r.1.Den))], .d (.v (.int .i64 r.2))]) := by
  refine fnc_intro (T := tt) (N := 33) tok Tryz.func126 rfl rfl (by kernel_rfl) rfl rfl ?_
  unfold i_SpeedOf_m at h0
  refine sq [0,1,2] ?_
  refine rs rfl w0 rfl (st_box 3 (cs := _ :: _) rfl rfl rfl) ?_
  refine rs rfl w0 rfl (st_alloc 4 (cs := [.d (.v (.int .i64 0)), .d (.v (.int .i64 0))]) tok rfl rfl rfl) ?_
  refine pa ?_
  refine nx ?_
  refine aw_seq ?_
  refine sq [0,1,2] ?_
  refine rl rfl w0 rfl (bx_ldN tok rfl rfl rfl rfl) ?_
  obtain ⟨v1, hv1, h0⟩ := bnd h0
  refine rs rfl w0 rfl (c_call 5 (i_ValidMovement_c hv1) rfl rfl rfl) ?_
  refine rp rfl w0 rfl (pu_not rfl) ?_
  refine nx ?_
  refine aw_ifB h0 rfl (fun hc h0 => ?_) (fun hc h0 => ?_)
  refine sq [0,1,2] ?_
  refine rp rfl w0 rfl (pu_build (C0 := [.d (.v (.int .i64 0)), .d (.v (.int .i64 0))]) tok rfl rfl (by repeat (first | exact Plc.nil | apply Plc.cons rfl)) rfl (by repeat (first | exact Bld.nil _ | apply Bld.cons (cs := [.d _]) rfl rfl rfl rfl (by repeat (first | exact Spl.z _ | apply Spl.t | apply Spl.d)) | apply Bld.cons (cs := [.own _ _ _]) rfl rfl rfl rfl (by repeat (first | exact Spl.z _ | apply Spl.t | apply Spl.d)) | apply Bld.cons (cs := [.ptr _ _ _ _ _]) rfl rfl rfl rfl (by repeat (first | exact Spl.z _ | apply Spl.t | apply Spl.d)) | apply Bld.cons (cs := [.fn _ _]) rfl rfl rfl rfl (by repeat (first | exact Spl.z _ | apply Spl.t | apply Spl.d)) | apply Bld.cons (cs := _ :: _) rfl rfl rfl rfl (by repeat (first | exact Spl.z _ | apply Spl.t | apply Spl.d))))) ?_
  refine rw0 rfl w0 (bx_st (cs := _ :: _) tok rfl rfl rfl rfl rfl rfl rfl) ?_
  refine pa ?_
  refine nx ?_
  refine aw_ret ?_
  refine then_r ?_
  cases h0
  exact ret0_ (rs := [.cell 4 77, .tmp 5]) rfl
  refine sk ?_
  refine sq [0,1,2,3,4,5,6,7,8,9] ?_
  refine fa tok ?_
  refine rl rfl w0 rfl (bx_ldN tok rfl rfl rfl rfl) ?_
  refine fa tok ?_
  refine ld tok ?_
  obtain ⟨v2, hv2, h0⟩ := bnd h0
  refine rs rfl w0 rfl (c_call 5 (i_SpeedsOf_c hv2) rfl rfl rfl) ?_
  refine rp rfl w0 rfl (pu_move (r := .tup _) rfl) ?_
  refine rp rfl w0 rfl (pu_extract rfl rfl) ?_
  refine rp rfl w0 rfl (pu_extract rfl rfl) ?_
  refine rp rfl w0 rfl (pu_assign (r := .own _ _ _) rfl) ?_
  refine pa ?_
  refine nx ?_
  refine aw_seq ?_
  refine sq [0,1] ?_
  refine pm ?_
  refine rp rfl w0 rfl (pu_neq rfl rfl) ?_
  refine nx ?_
  refine aw_if h0 rfl (fun hc h0 => ?_) (fun hc h0 => ?_)
  refine sq [0,1,2] ?_
  refine rp rfl w0 rfl (pu_build (C0 := [.d (.v (.int .i64 0)), .d (.v (.int .i64 0))]) tok rfl rfl (by repeat (first | exact Plc.nil | apply Plc.cons rfl)) rfl (by repeat (first | exact Bld.nil _ | apply Bld.cons (cs := [.d _]) rfl rfl rfl rfl (by repeat (first | exact Spl.z _ | apply Spl.t | apply Spl.d)) | apply Bld.cons (cs := [.own _ _ _]) rfl rfl rfl rfl (by repeat (first | exact Spl.z _ | apply Spl.t | apply Spl.d)) | apply Bld.cons (cs := [.ptr _ _ _ _ _]) rfl rfl rfl rfl (by repeat (first | exact Spl.z _ | apply Spl.t | apply Spl.d)) | apply Bld.cons (cs := [.fn _ _]) rfl rfl rfl rfl (by repeat (first | exact Spl.z _ | apply Spl.t | apply Spl.d)) | apply Bld.cons (cs := _ :: _) rfl rfl rfl rfl (by repeat (first | exact Spl.z _ | apply Spl.t | apply Spl.d))))) ?_
  refine rw0 rfl w0 (bx_st (cs := _ :: _) tok rfl rfl rfl rfl rfl rfl rfl) ?_
  refine pa ?_
  refine nx ?_
  refine aw_ret ?_
  refine then_r ?_
  cases h0
  exact ret0_ (rs := [.cell 4 77, .tmp 5]) rfl
  refine sk ?_
  refine aw_seq ?_
  refine sq [0,1,2,3,4] ?_
  refine fa tok ?_
  refine rl rfl w0 rfl (bx_ldN tok rfl rfl rfl rfl) ?_
  refine pm ?_
  obtain ⟨v3, hv3, h0⟩ := bnd h0
  refine rs rfl w0 rfl (c_call 6 (i_isArbor_c hv3) rfl rfl rfl) ?_
  refine rp rfl w0 rfl (pu_not rfl) ?_
  refine nx ?_
  refine aw_ifB h0 rfl (fun hc h0 => ?_) (fun hc h0 => ?_)
  refine sq [0,1,2] ?_
  refine rp rfl w0 rfl (pu_build (C0 := [.d (.v (.int .i64 0)), .d (.v (.int .i64 0))]) tok rfl rfl (by repeat (first | exact Plc.nil | apply Plc.cons rfl)) rfl (by repeat (first | exact Bld.nil _ | apply Bld.cons (cs := [.d _]) rfl rfl rfl rfl (by repeat (first | exact Spl.z _ | apply Spl.t | apply Spl.d)) | apply Bld.cons (cs := [.own _ _ _]) rfl rfl rfl rfl (by repeat (first | exact Spl.z _ | apply Spl.t | apply Spl.d)) | apply Bld.cons (cs := [.ptr _ _ _ _ _]) rfl rfl rfl rfl (by repeat (first | exact Spl.z _ | apply Spl.t | apply Spl.d)) | apply Bld.cons (cs := [.fn _ _]) rfl rfl rfl rfl (by repeat (first | exact Spl.z _ | apply Spl.t | apply Spl.d)) | apply Bld.cons (cs := _ :: _) rfl rfl rfl rfl (by repeat (first | exact Spl.z _ | apply Spl.t | apply Spl.d))))) ?_
  refine rw0 rfl w0 (bx_st (cs := _ :: _) tok rfl rfl rfl rfl rfl rfl rfl) ?_
  refine pa ?_
  refine nx ?_
  refine aw_ret ?_
  refine then_r ?_
  cases h0
  exact ret0_ (rs := [.cell 4 77, .tmp 5]) rfl
  refine sk ?_
  refine sq [0,1,2,3,4,5] ?_
  refine rp rfl w0 rfl (pu_move (r := .own _ _ _) rfl) ?_
  refine pm ?_
  obtain ⟨v4, hv4, h0⟩ := bnd h0
  refine rl rfl w0 rfl (ow_ix tok hv4 rfl rfl rfl rfl rfl rfl rfl rfl) ?_
  refine rl rfl w0 rfl (rw_ldN tok (atI_e hv4).2.1 rfl rfl rfl rfl rfl) ?_
  refine rw0 rfl w0 (bx_st (cs := _ :: _) tok rfl rfl rfl rfl rfl rfl rfl) ?_
  refine pa ?_
  refine nx ?_
  refine aw_ret ?_
  cases h0
  exact ret0_ (rs := [.cell 4 77, .tmp 5]) rfl

theorem i_floorDiv_c {p0 : Int} {p1 : Int} {r : Int} (h0 : i_floorDiv_m p0 p1 = some r) : FnC Tryz.prog 185 [] [.d (.v (.int .i64 p0)), .d (.v (.int .i64 p1))] [] (.d (.v (.int .i64 r))) := by
  refine fnc_intro (T := tt) (N := 16) tok Tryz.func185 rfl rfl (by kernel_rfl) rfl rfl ?_
  unfold i_floorDiv_m at h0
  refine sq [0] ?_
  refine pa ?_
  refine nx ?_
  refine sq [0,1,2,3] ?_
  refine pm ?_
  refine pm ?_
  obtain ⟨hq1, h0⟩ := chk_e h0
  refine rp rfl w0 rfl (pw_quo rfl rfl hq1) ?_
  refine pa ?_
  refine nx ?_
  obtain ⟨v3, h1, h0⟩ := bnd h0
  refine aw_cut ⟨updA ((fun _ => .dead)) 5 (.d (.v (.int .i64 v3))), lks [.no, .no, .no]⟩ ?_ ?_
  refine sq [0,1,2,3] ?_
  refine pm ?_
  refine pm ?_
  obtain ⟨hq2, h1⟩ := chk_e h1
  refine rp rfl w0 rfl (pu_remw rfl rfl hq2) ?_
  refine rp rfl w0 rfl (pu_lss rfl rfl) ?_
  refine nx ?_
  refine aw_if h1 rfl (fun hc h1 => ?_) (fun hc h1 => ?_)
  refine sr [0,1,2] ?_
  refine pm ?_
  refine rp rfl w0 rfl (pw_sub rfl rfl) ?_
  refine pa ?_
  refine nx ?_
  cases h1
  exact wk [0, 1, 2]
  refine sk ?_
  cases h1
  exact wk [0, 1, 2]
  refine sq [0,1] ?_
  refine pm ?_
  refine pa ?_
  refine nx ?_
  refine aw_ret ?_
  cases h0
  exact ret0_ (rs := [.tmp 4]) rfl

theorem i_FloorRatio_c {p0 : Ratio_} {r : Int} (h0 : i_FloorRatio_m p0 = some r) : FnC Tryz.prog 130 [] [.agg [.d (.v (.int .i64 p0.Num)), .d (.v (.int .i64 p0.Den))]] [] (.d (.v (.int .i64 r))) := by
  refine fnc_intro (T := tt) (N := 11) tok Tryz.func130 rfl rfl (by kernel_rfl) rfl rfl ?_
  unfold i_FloorRatio_m at h0
  refine sq [0,1] ?_
  refine rs rfl w0 rfl (st_box 3 (cs := _ :: _) rfl rfl rfl) ?_
  refine pa ?_
  refine nx ?_
  refine aw_seq ?_
  refine sq [0,1,2] ?_
  refine rl rfl w0 rfl (bx_ldN tok rfl rfl rfl rfl) ?_
  obtain ⟨v1, hv1, h0⟩ := bnd h0
  refine rs rfl w0 rfl (c_call 4 (i_ValidRatio_c hv1) rfl rfl rfl) ?_
  refine rp rfl w0 rfl (pu_not rfl) ?_
  refine nx ?_
  refine aw_ifB h0 rfl (fun hc h0 => ?_) (fun hc h0 => ?_)
  refine sq [0] ?_
  refine pa ?_
  refine nx ?_
  refine aw_ret ?_
  refine then_r ?_
  cases h0
  exact ret0_ (rs := [.tmp 2]) rfl
  refine sk ?_
  refine sq [0,1,2,3,4,5] ?_
  refine fa tok ?_
  refine ld tok ?_
  refine fa tok ?_
  refine ld tok ?_
  obtain ⟨v2, hv2, h0⟩ := bnd h0
  refine rs rfl w0 rfl (c_call 4 (i_floorDiv_c hv2) rfl rfl rfl) ?_
  refine pa ?_
  refine nx ?_
  refine aw_ret ?_
  cases h0
  exact ret0_ (rs := [.tmp 2]) rfl

theorem i_SubRatio_c {p0 : Ratio_} {p1 : Ratio_} {r : Ratio_ × Int} (h0 : i_SubRatio_m p0 p1 = some r) : FnC Tryz.prog 129 [] [.agg [.d (.v (.int .i64 p0.Num)), .d (.v (.int .i64 p0.Den))], .agg [.d (.v (.int .i64 p1.Num)), .d (.v (.int .i64 p1.Den))]] [] (.tup [.agg [.d (.v (.int .i64 r.1.Num)), .d (.v (.int .i64 r.1.Den))], .d (.v (.int .i64 r.2))]) := by
  refine fnc_intro (T := tt) (N := 34) tok Tryz.func129 rfl rfl (by kernel_rfl) rfl rfl ?_
  unfold i_SubRatio_m at h0
  refine sq [0,1,2,3] ?_
  refine rs rfl w0 rfl (st_box 3 (cs := _ :: _) rfl rfl rfl) ?_
  refine rs rfl w0 rfl (st_box 4 (cs := _ :: _) rfl rfl rfl) ?_
  refine rs rfl w0 rfl (st_alloc 5 (cs := [.d (.v (.int .i64 0)), .d (.v (.int .i64 0))]) tok rfl rfl rfl) ?_
  refine pa ?_
  refine nx ?_
  refine aw_seq ?_
  obtain ⟨v3, h1, h0⟩ := bnd h0
  refine aw_cut ⟨updA (updA (updA (updA ((fun _ => .dead)) 2 (.ptr 3 0 1 0 0)) 3 (.ptr 4 0 1 0 0)) 4 (.ptr 5 0 1 0 0)) 13 (.d (.v (.bool v3))), lks [.no, .no, .no, .live [⟨77, 2, .av [[.d (.v (.int .i64 p0.Num)), .d (.v (.int .i64 p0.Den))]]⟩], .live [⟨77, 2, .av [[.d (.v (.int .i64 p1.Num)), .d (.v (.int .i64 p1.Den))]]⟩], .live [⟨77, 2, .av [[.d (.v (.int .i64 0)), .d (.v (.int .i64 0))]]⟩]]⟩ ?_ ?_
  refine sr [0,1,2,3,4,5,6,7] ?_
  refine rl rfl w0 rfl (bx_ldN tok rfl rfl rfl rfl) ?_
  obtain ⟨v1, hv1, h1⟩ := bnd h1
  refine rs rfl w0 rfl (c_call 6 (i_ValidRatio_c hv1) rfl rfl rfl) ?_
  refine rp rfl w0 rfl (pu_not rfl) ?_
  refine pm ?_
  refine ra_ifB (u := 9) h1 rfl (fun hc h1 => ?_) (fun hc h1 => ?_)
  iterate 3 refine k1 ?_
  refine pkt ?_
  refine nx ?_
  cases h1
  exact wk [0, 1, 2, 3, 4, 5]
  refine rl rfl (w1 rfl rfl rfl) rfl (bx_ldN tok rfl rfl rfl rfl) ?_
  obtain ⟨v2, hv2, h1⟩ := bnd h1
  refine rs rfl (w1 rfl rfl rfl) rfl (c_call 6 (i_ValidRatio_c hv2) rfl rfl rfl) ?_
  refine rp rfl (w1 rfl rfl rfl) rfl (pu_not rfl) ?_
  refine pkf ?_
  refine nx ?_
  cases h1
  exact wk [0, 1, 2, 3, 4, 5]
  refine aw_ifB h0 rfl (fun hc h0 => ?_) (fun hc h0 => ?_)
  refine sq [0,1,2] ?_
  refine rp rfl w0 rfl (pu_build (C0 := [.d (.v (.int .i64 0)), .d (.v (.int .i64 0))]) tok rfl rfl (by repeat (first | exact Plc.nil | apply Plc.cons rfl)) rfl (by repeat (first | exact Bld.nil _ | apply Bld.cons (cs := [.d _]) rfl rfl rfl rfl (by repeat (first | exact Spl.z _ | apply Spl.t | apply Spl.d)) | apply Bld.cons (cs := [.own _ _ _]) rfl rfl rfl rfl (by repeat (first | exact Spl.z _ | apply Spl.t | apply Spl.d)) | apply Bld.cons (cs := [.ptr _ _ _ _ _]) rfl rfl rfl rfl (by repeat (first | exact Spl.z _ | apply Spl.t | apply Spl.d)) | apply Bld.cons (cs := [.fn _ _]) rfl rfl rfl rfl (by repeat (first | exact Spl.z _ | apply Spl.t | apply Spl.d)) | apply Bld.cons (cs := _ :: _) rfl rfl rfl rfl (by repeat (first | exact Spl.z _ | apply Spl.t | apply Spl.d))))) ?_
  refine rw0 rfl w0 (bx_st (cs := _ :: _) tok rfl rfl rfl rfl rfl rfl rfl) ?_
  refine pa ?_
  refine nx ?_
  refine aw_ret ?_
  refine then_r ?_
  cases h0
  exact ret0_ (rs := [.cell 4 77, .tmp 5]) rfl
  refine sk ?_
  refine sq [0,1,2,3,4,5,6,7,8,9,10,11,12,13,14,15,16,17,18,19,20] ?_
  refine fa tok ?_
  refine ld tok ?_
  refine fa tok ?_
  refine ld tok ?_
  refine rp rfl w0 rfl (pw_mul rfl rfl) ?_
  refine fa tok ?_
  refine ld tok ?_
  refine fa tok ?_
  refine ld tok ?_
  refine rp rfl w0 rfl (pw_mul rfl rfl) ?_
  refine rp rfl w0 rfl (pw_sub rfl rfl) ?_
  refine fa tok ?_
  refine ld tok ?_
  refine fa tok ?_
  refine ld tok ?_
  refine rp rfl w0 rfl (pw_mul rfl rfl) ?_
  obtain ⟨v4, hv4, h0⟩ := bnd h0
  refine rs rfl w0 rfl (c_call 6 (i_MakeRatio_c hv4) rfl rfl rfl) ?_
  refine rp rfl w0 rfl (pu_extract rfl rfl) ?_
  refine rp rfl w0 rfl (pu_extract rfl rfl) ?_
  refine rw0 rfl w0 (bx_st (cs := _ :: _) tok rfl rfl rfl rfl rfl rfl rfl) ?_
  refine pa ?_
  refine nx ?_
  refine aw_ret ?_
  cases h0
  exact ret0_ (rs := [.cell 4 77, .tmp 5]) rfl

theorem i_ArborAt_c {p0 : Movement_} {p1 : Int} {p2 : Int} {r : Ratio_ × Int} (h0 : i_ArborAt_m p0 p1 p2 = some r) : FnC Tryz.prog 69 [] [.agg [.d (.v (.string p0.Name)), .d (.sl (List.map cArbor_ p0.Works.Arbors)), .d (.sl (List.map cMesh_ p0.Works.Meshes)), .d (.v (.int .i64 p0.Minute)), .d (.v (.int .i64 p0.Hour)), .d (.v (.int .i64 p0.Escape)), .d (.v (.int .i64 p0.Teeth)), .d (.v (.int .i64 p0.Beats)), .d (.v (.string p0.Calendar.Name)), .d (.sl (List.map cMonth_ p0.Calendar.Months)), .d (.sl (List.map cLeapRule_ p0.Calendar.Rules)), .d (.v (.int .i64 p0.Calendar.Week)), .d (.sl (List.map cI p0.Cam)), .d (.v (.int .i64 p0.Strike))], .d (.v (.int .i64 p1)), .d (.v (.int .i64 p2))] [] (.tup [.agg [.d (.v (.int .i64 r.1.Num)), .d (.v (.int .i64 r.1.Den))], .d (.v (.int .i64 r.2))]) := by
  refine fnc_intro (T := tt) (N := 52) tok Tryz.func69 rfl rfl (by kernel_rfl) rfl rfl ?_
  unfold i_ArborAt_m at h0
  refine sq [0,1,2] ?_
  refine rs rfl w0 rfl (st_box 3 (cs := _ :: _) rfl rfl rfl) ?_
  refine rs rfl w0 rfl (st_alloc 4 (cs := [.d (.v (.int .i64 0)), .d (.v (.int .i64 0))]) tok rfl rfl rfl) ?_
  refine pa ?_
  refine nx ?_
  refine sq [0,1,2,3,4,5,6,7,8] ?_
  refine rl rfl w0 rfl (bx_ldN tok rfl rfl rfl rfl) ?_
  refine pm ?_
  obtain ⟨v1, hv1, h0⟩ := bnd h0
  refine rs rfl w0 rfl (c_call 5 (i_SpeedOf_c hv1) rfl rfl rfl) ?_
  refine rp rfl w0 rfl (pu_move (r := .tup _) rfl) ?_
  refine rp rfl w0 rfl (pu_extract rfl rfl) ?_
  refine rp rfl w0 rfl (pu_extract rfl rfl) ?_
  refine rs rfl w0 rfl (st_alloc 5 (cs := [.d (.v (.int .i64 0)), .d (.v (.int .i64 0))]) tok rfl rfl rfl) ?_
  refine rw0 rfl w0 (bx_st (cs := _ :: _) tok rfl rfl rfl rfl rfl rfl rfl) ?_
  refine pa ?_
  refine nx ?_
  refine aw_seq ?_
  refine sq [0,1] ?_
  refine pm ?_
  refine rp rfl w0 rfl (pu_neq rfl rfl) ?_
  refine nx ?_
  refine aw_if h0 rfl (fun hc h0 => ?_) (fun hc h0 => ?_)
  refine sq [0,1,2,3] ?_
  refine rp rfl w0 rfl (pu_build (C0 := [.d (.v (.int .i64 0)), .d (.v (.int .i64 0))]) tok rfl rfl (by repeat (first | exact Plc.nil | apply Plc.cons rfl)) rfl (by repeat (first | exact Bld.nil _ | apply Bld.cons (cs := [.d _]) rfl rfl rfl rfl (by repeat (first | exact Spl.z _ | apply Spl.t | apply Spl.d)) | apply Bld.cons (cs := [.own _ _ _]) rfl rfl rfl rfl (by repeat (first | exact Spl.z _ | apply Spl.t | apply Spl.d)) | apply Bld.cons (cs := [.ptr _ _ _ _ _]) rfl rfl rfl rfl (by repeat (first | exact Spl.z _ | apply Spl.t | apply Spl.d)) | apply Bld.cons (cs := [.fn _ _]) rfl rfl rfl rfl (by repeat (first | exact Spl.z _ | apply Spl.t | apply Spl.d)) | apply Bld.cons (cs := _ :: _) rfl rfl rfl rfl (by repeat (first | exact Spl.z _ | apply Spl.t | apply Spl.d))))) ?_
  refine pm ?_
  refine rw0 rfl w0 (bx_st (cs := _ :: _) tok rfl rfl rfl rfl rfl rfl rfl) ?_
  refine pa ?_
  refine nx ?_
  refine aw_ret ?_
  refine then_r ?_
  cases h0
  exact ret0_ (rs := [.cell 6 77, .tmp 7]) rfl
  refine sk ?_
  refine aw_seq ?_
  refine sq [0,1,2] ?_
  refine pm ?_
  obtain ⟨v2, hv2, h0⟩ := bnd h0
  refine rs rfl w0 rfl (c_call 6 (i_within_c hv2) rfl rfl rfl) ?_
  refine rp rfl w0 rfl (pu_not rfl) ?_
  refine nx ?_
  refine aw_ifB h0 rfl (fun hc h0 => ?_) (fun hc h0 => ?_)
  refine sq [0,1,2] ?_
  refine rp rfl w0 rfl (pu_build (C0 := [.d (.v (.int .i64 0)), .d (.v (.int .i64 0))]) tok rfl rfl (by repeat (first | exact Plc.nil | apply Plc.cons rfl)) rfl (by repeat (first | exact Bld.nil _ | apply Bld.cons (cs := [.d _]) rfl rfl rfl rfl (by repeat (first | exact Spl.z _ | apply Spl.t | apply Spl.d)) | apply Bld.cons (cs := [.own _ _ _]) rfl rfl rfl rfl (by repeat (first | exact Spl.z _ | apply Spl.t | apply Spl.d)) | apply Bld.cons (cs := [.ptr _ _ _ _ _]) rfl rfl rfl rfl (by repeat (first | exact Spl.z _ | apply Spl.t | apply Spl.d)) | apply Bld.cons (cs := [.fn _ _]) rfl rfl rfl rfl (by repeat (first | exact Spl.z _ | apply Spl.t | apply Spl.d)) | apply Bld.cons (cs := _ :: _) rfl rfl rfl rfl (by repeat (first | exact Spl.z _ | apply Spl.t | apply Spl.d))))) ?_
  refine rw0 rfl w0 (bx_st (cs := _ :: _) tok rfl rfl rfl rfl rfl rfl rfl) ?_
  refine pa ?_
  refine nx ?_
  refine aw_ret ?_
  refine then_r ?_
  cases h0
  exact ret0_ (rs := [.cell 6 77, .tmp 7]) rfl
  refine sk ?_
  refine sq [0,1,2,3,4,5,6,7] ?_
  refine pm ?_
  obtain ⟨v3, hv3, h0⟩ := bnd h0
  refine rs rfl w0 rfl (c_call 6 (i_MakeRatio_c hv3) rfl rfl rfl) ?_
  refine rp rfl w0 rfl (pu_move (r := .tup _) rfl) ?_
  refine rp rfl w0 rfl (pu_extract rfl rfl) ?_
  refine rp rfl w0 rfl (pu_extract rfl rfl) ?_
  refine rs rfl w0 rfl (st_alloc 6 (cs := [.d (.v (.int .i64 0)), .d (.v (.int .i64 0))]) tok rfl rfl rfl) ?_
  refine rw0 rfl w0 (bx_st (cs := _ :: _) tok rfl rfl rfl rfl rfl rfl rfl) ?_
  refine pa ?_
  refine nx ?_
  refine aw_seq ?_
  refine sq [0,1] ?_
  refine pm ?_
  refine rp rfl w0 rfl (pu_neq rfl rfl) ?_
  refine nx ?_
  refine aw_if h0 rfl (fun hc h0 => ?_) (fun hc h0 => ?_)
  refine sq [0,1,2,3] ?_
  refine rp rfl w0 rfl (pu_build (C0 := [.d (.v (.int .i64 0)), .d (.v (.int .i64 0))]) tok rfl rfl (by repeat (first | exact Plc.nil | apply Plc.cons rfl)) rfl (by repeat (first | exact Bld.nil _ | apply Bld.cons (cs := [.d _]) rfl rfl rfl rfl (by repeat (first | exact Spl.z _ | apply Spl.t | apply Spl.d)) | apply Bld.cons (cs := [.own _ _ _]) rfl rfl rfl rfl (by repeat (first | exact Spl.z _ | apply Spl.t | apply Spl.d)) | apply Bld.cons (cs := [.ptr _ _ _ _ _]) rfl rfl rfl rfl (by repeat (first | exact Spl.z _ | apply Spl.t | apply Spl.d)) | apply Bld.cons (cs := [.fn _ _]) rfl rfl rfl rfl (by repeat (first | exact Spl.z _ | apply Spl.t | apply Spl.d)) | apply Bld.cons (cs := _ :: _) rfl rfl rfl rfl (by repeat (first | exact Spl.z _ | apply Spl.t | apply Spl.d))))) ?_
  refine pm ?_
  refine rw0 rfl w0 (bx_st (cs := _ :: _) tok rfl rfl rfl rfl rfl rfl rfl) ?_
  refine pa ?_
  refine nx ?_
  refine aw_ret ?_
  refine then_r ?_
  cases h0
  exact ret0_ (rs := [.cell 6 77, .tmp 7]) rfl
  refine sk ?_
  refine sq [0,1,2,3,4,5,6,7,8] ?_
  refine rl rfl w0 rfl (bx_ldN tok rfl rfl rfl rfl) ?_
  refine rl rfl w0 rfl (bx_ldN tok rfl rfl rfl rfl) ?_
  obtain ⟨v4, hv4, h0⟩ := bnd h0
  refine rs rfl w0 rfl (c_call 7 (i_MulRatio_c hv4) rfl rfl rfl) ?_
  refine rp rfl w0 rfl (pu_move (r := .tup _) rfl) ?_
  refine rp rfl w0 rfl (pu_extract rfl rfl) ?_
  refine rp rfl w0 rfl (pu_extract rfl rfl) ?_
  refine rs rfl w0 rfl (st_alloc 7 (cs := [.d (.v (.int .i64 0)), .d (.v (.int .i64 0))]) tok rfl rfl rfl) ?_
  refine rw0 rfl w0 (bx_st (cs := _ :: _) tok rfl rfl rfl rfl rfl rfl rfl) ?_
  refine pa ?_
  refine nx ?_
  refine aw_seq ?_
  refine sq [0,1] ?_
  refine pm ?_
  refine rp rfl w0 rfl (pu_neq rfl rfl) ?_
  refine nx ?_
  refine aw_if h0 rfl (fun hc h0 => ?_) (fun hc h0 => ?_)
  refine sq [0,1,2,3] ?_
  refine rp rfl w0 rfl (pu_build (C0 := [.d (.v (.int .i64 0)), .d (.v (.int .i64 0))]) tok rfl rfl (by repeat (first | exact Plc.nil | apply Plc.cons rfl)) rfl (by repeat (first | exact Bld.nil _ | apply Bld.cons (cs := [.d _]) rfl rfl rfl rfl (by repeat (first | exact Spl.z _ | apply Spl.t | apply Spl.d)) | apply Bld.cons (cs := [.own _ _ _]) rfl rfl rfl rfl (by repeat (first | exact Spl.z _ | apply Spl.t | apply Spl.d)) | apply Bld.cons (cs := [.ptr _ _ _ _ _]) rfl rfl rfl rfl (by repeat (first | exact Spl.z _ | apply Spl.t | apply Spl.d)) | apply Bld.cons (cs := [.fn _ _]) rfl rfl rfl rfl (by repeat (first | exact Spl.z _ | apply Spl.t | apply Spl.d)) | apply Bld.cons (cs := _ :: _) rfl rfl rfl rfl (by repeat (first | exact Spl.z _ | apply Spl.t | apply Spl.d))))) ?_
  refine pm ?_
  refine rw0 rfl w0 (bx_st (cs := _ :: _) tok rfl rfl rfl rfl rfl rfl rfl) ?_
  refine pa ?_
  refine nx ?_
  refine aw_ret ?_
  refine then_r ?_
  cases h0
  exact ret0_ (rs := [.cell 6 77, .tmp 7]) rfl
  refine sk ?_
  refine aw_seq ?_
  refine aw_region_draw (is := [0, 1, 2, 3, 4, 5, 6, 7, 8]) [0, 0, 2, 6, 15, 31, 31, 127, 255] follows (by kernel_rfl) ?_
  refine rt_lk rfl w0 rfl (bx_ldN tok rfl rfl rfl rfl) rfl rfl rfl ?_
  refine rt_lk rfl w0 rfl (bx_ldN tok rfl rfl rfl rfl) rfl rfl rfl ?_
  obtain ⟨v5, hv5, h0⟩ := bnd h0
  refine rt_c rfl w0 rfl (b_call 8 (i_FloorRatio_c hv5) rfl rfl rfl) ?_
  refine rt_p rfl w0 rfl (pu_build (C0 := [.d (.v (.int .i64 0)), .d (.v (.int .i64 0))]) tok rfl rfl (by repeat (first | exact Plc.nil | apply Plc.cons rfl)) rfl (by repeat (first | exact Bld.nil _ | apply Bld.cons (cs := [.d _]) rfl rfl rfl rfl (by repeat (first | exact Spl.z _ | apply Spl.t | apply Spl.d)) | apply Bld.cons (cs := [.own _ _ _]) rfl rfl rfl rfl (by repeat (first | exact Spl.z _ | apply Spl.t | apply Spl.d)) | apply Bld.cons (cs := [.ptr _ _ _ _ _]) rfl rfl rfl rfl (by repeat (first | exact Spl.z _ | apply Spl.t | apply Spl.d)) | apply Bld.cons (cs := [.fn _ _]) rfl rfl rfl rfl (by repeat (first | exact Spl.z _ | apply Spl.t | apply Spl.d)) | apply Bld.cons (cs := _ :: _) rfl rfl rfl rfl (by repeat (first | exact Spl.z _ | apply Spl.t | apply Spl.d))))) ?_
  obtain ⟨v6, hv6, h0⟩ := bnd h0
  refine rt_c rfl w0 rfl (b_call 8 (i_SubRatio_c hv6) rfl rfl rfl) ?_
  refine rt_p rfl w0 rfl (pu_extract rfl rfl) ?_
  refine rt_p rfl w0 rfl (pu_extract rfl rfl) ?_
  refine rt_wk rfl w0 (bx_st (cs := _ :: _) tok rfl rfl rfl rfl rfl rfl rfl) ?_
  refine tpa ?_
  refine rt_nil ?_
  refine ⟨by kernel_rfl, ?_⟩
  refine then_n ?_
  refine aw_ret ?_
  cases h0
  exact ret0_ (rs := [.cell 6 77, .tmp 7]) rfl

theorem i_HandsOf_c {p0 : Sim_} {r : Ratio_ × Ratio_ × Int} (h0 : i_HandsOf_m p0 = some r) : FnC Tryz.prog 30 [] [.agg [.d (.v (.string p0.Movement.Name)), .d (.sl (List.map cArbor_ p0.Movement.Works.Arbors)), .d (.sl (List.map cMesh_ p0.Movement.Works.Meshes)), .d (.v (.int .i64 p0.Movement.Minute)), .d (.v (.int .i64 p0.Movement.Hour)), .d (.v (.int .i64 p0.Movement.Escape)), .d (.v (.int .i64 p0.Movement.Teeth)), .d (.v (.int .i64 p0.Movement.Beats)), .d (.v (.string p0.Movement.Calendar.Name)), .d (.sl (List.map cMonth_ p0.Movement.Calendar.Months)), .d (.sl (List.map cLeapRule_ p0.Movement.Calendar.Rules)), .d (.v (.int .i64 p0.Movement.Calendar.Week)), .d (.sl (List.map cI p0.Movement.Cam)), .d (.v (.int .i64 p0.Movement.Strike)), .d (.v (.int .i64 p0.Start.Year)), .d (.v (.int .i64 p0.Start.Month)), .d (.v (.int .i64 p0.Start.Day)), .d (.v (.int .i64 p0.First)), .d (.v (.int .i64 p0.Clock)), .d (.sl (List.map cI p0.Dial.Cam)), .d (.v (.int .i64 p0.Dial.Months)), .d (.v (.int .i64 p0.Dial.Teeth)), .d (.v (.int .i64 p0.Dial.At)), .d (.v (.int .i64 p0.Dial.Day)), .d (.v (.int .i64 p0.Dial.Week)), .d (.v (.int .i64 p0.Dial.Weekday))]] [] (.tup [.agg [.d (.v (.int .i64 r.1.Num)), .d (.v (.int .i64 r.1.Den))], .agg [.d (.v (.int .i64 r.2.1.Num)), .d (.v (.int .i64 r.2.1.Den))], .d (.v (.int .i64 r.2.2))]) := by
  refine fnc_intro (T := tt) (N := 47) tok Tryz.func30 rfl rfl (by kernel_rfl) rfl rfl ?_
  unfold i_HandsOf_m at h0
  refine sq [0,1,2,3] ?_
  refine rs rfl w0 rfl (st_box 3 (cs := _ :: _) rfl rfl rfl) ?_
  refine rs rfl w0 rfl (st_alloc 4 (cs := [.d (.v (.int .i64 0)), .d (.v (.int .i64 0))]) tok rfl rfl rfl) ?_
  refine rs rfl w0 rfl (st_alloc 5 (cs := [.d (.v (.int .i64 0)), .d (.v (.int .i64 0))]) tok rfl rfl rfl) ?_
  refine pa ?_
  refine nx ?_
  refine aw_seq ?_
  refine sq [0,1,2] ?_
  refine rl rfl w0 rfl (bx_ldN tok rfl rfl rfl rfl) ?_
  obtain ⟨v1, hv1, h0⟩ := bnd h0
  refine rs rfl w0 rfl (c_call 6 (i_ValidSim_c hv1) rfl rfl rfl) ?_
  refine rp rfl w0 rfl (pu_not rfl) ?_
  refine nx ?_
  refine aw_ifB h0 rfl (fun hc h0 => ?_) (fun hc h0 => ?_)
  refine sq [0,1,2,3,4] ?_
  refine rp rfl w0 rfl (pu_build (C0 := [.d (.v (.int .i64 0)), .d (.v (.int .i64 0))]) tok rfl rfl (by repeat (first | exact Plc.nil | apply Plc.cons rfl)) rfl (by repeat (first | exact Bld.nil _ | apply Bld.cons (cs := [.d _]) rfl rfl rfl rfl (by repeat (first | exact Spl.z _ | apply Spl.t | apply Spl.d)) | apply Bld.cons (cs := [.own _ _ _]) rfl rfl rfl rfl (by repeat (first | exact Spl.z _ | apply Spl.t | apply Spl.d)) | apply Bld.cons (cs := [.ptr _ _ _ _ _]) rfl rfl rfl rfl (by repeat (first | exact Spl.z _ | apply Spl.t | apply Spl.d)) | apply Bld.cons (cs := [.fn _ _]) rfl rfl rfl rfl (by repeat (first | exact Spl.z _ | apply Spl.t | apply Spl.d)) | apply Bld.cons (cs := _ :: _) rfl rfl rfl rfl (by repeat (first | exact Spl.z _ | apply Spl.t | apply Spl.d))))) ?_
  refine rp rfl w0 rfl (pu_build (C0 := [.d (.v (.int .i64 0)), .d (.v (.int .i64 0))]) tok rfl rfl (by repeat (first | exact Plc.nil | apply Plc.cons rfl)) rfl (by repeat (first | exact Bld.nil _ | apply Bld.cons (cs := [.d _]) rfl rfl rfl rfl (by repeat (first | exact Spl.z _ | apply Spl.t | apply Spl.d)) | apply Bld.cons (cs := [.own _ _ _]) rfl rfl rfl rfl (by repeat (first | exact Spl.z _ | apply Spl.t | apply Spl.d)) | apply Bld.cons (cs := [.ptr _ _ _ _ _]) rfl rfl rfl rfl (by repeat (first | exact Spl.z _ | apply Spl.t | apply Spl.d)) | apply Bld.cons (cs := [.fn _ _]) rfl rfl rfl rfl (by repeat (first | exact Spl.z _ | apply Spl.t | apply Spl.d)) | apply Bld.cons (cs := _ :: _) rfl rfl rfl rfl (by repeat (first | exact Spl.z _ | apply Spl.t | apply Spl.d))))) ?_
  refine rw0 rfl w0 (bx_st (cs := _ :: _) tok rfl rfl rfl rfl rfl rfl rfl) ?_
  refine rw0 rfl w0 (bx_st (cs := _ :: _) tok rfl rfl rfl rfl rfl rfl rfl) ?_
  refine pa ?_
  refine nx ?_
  refine aw_ret ?_
  refine then_r ?_
  cases h0
  exact ret0_ (rs := [.cell 2 77, .cell 3 77, .tmp 4]) rfl
  refine sk ?_
  refine sq [0,1,2,3,4,5,6,7,8,9,10,11,12,13] ?_
  refine fa tok ?_
  refine rl rfl w0 rfl (bx_ldN tok rfl rfl rfl rfl) ?_
  refine fa tok ?_
  refine fa tok ?_
  refine ld tok ?_
  refine fa tok ?_
  refine ld tok ?_
  obtain ⟨v2, hv2, h0⟩ := bnd h0
  refine rs rfl w0 rfl (c_call 6 (i_ArborAt_c hv2) rfl rfl rfl) ?_
  refine rp rfl w0 rfl (pu_move (r := .tup _) rfl) ?_
  refine rp rfl w0 rfl (pu_extract rfl rfl) ?_
  refine rp rfl w0 rfl (pu_extract rfl rfl) ?_
  refine rs rfl w0 rfl (st_alloc 6 (cs := [.d (.v (.int .i64 0)), .d (.v (.int .i64 0))]) tok rfl rfl rfl) ?_
  refine rw0 rfl w0 (bx_st (cs := _ :: _) tok rfl rfl rfl rfl rfl rfl rfl) ?_
  refine pa ?_
  refine nx ?_
  refine aw_seq ?_
  refine sq [0,1] ?_
  refine pm ?_
  refine rp rfl w0 rfl (pu_neq rfl rfl) ?_
  refine nx ?_
  refine aw_if h0 rfl (fun hc h0 => ?_) (fun hc h0 => ?_)
  refine sq [0,1,2,3,4,5] ?_
  refine rp rfl w0 rfl (pu_build (C0 := [.d (.v (.int .i64 0)), .d (.v (.int .i64 0))]) tok rfl rfl (by repeat (first | exact Plc.nil | apply Plc.cons rfl)) rfl (by repeat (first | exact Bld.nil _ | apply Bld.cons (cs := [.d _]) rfl rfl rfl rfl (by repeat (first | exact Spl.z _ | apply Spl.t | apply Spl.d)) | apply Bld.cons (cs := [.own _ _ _]) rfl rfl rfl rfl (by repeat (first | exact Spl.z _ | apply Spl.t | apply Spl.d)) | apply Bld.cons (cs := [.ptr _ _ _ _ _]) rfl rfl rfl rfl (by repeat (first | exact Spl.z _ | apply Spl.t | apply Spl.d)) | apply Bld.cons (cs := [.fn _ _]) rfl rfl rfl rfl (by repeat (first | exact Spl.z _ | apply Spl.t | apply Spl.d)) | apply Bld.cons (cs := _ :: _) rfl rfl rfl rfl (by repeat (first | exact Spl.z _ | apply Spl.t | apply Spl.d))))) ?_
  refine rp rfl w0 rfl (pu_build (C0 := [.d (.v (.int .i64 0)), .d (.v (.int .i64 0))]) tok rfl rfl (by repeat (first | exact Plc.nil | apply Plc.cons rfl)) rfl (by repeat (first | exact Bld.nil _ | apply Bld.cons (cs := [.d _]) rfl rfl rfl rfl (by repeat (first | exact Spl.z _ | apply Spl.t | apply Spl.d)) | apply Bld.cons (cs := [.own _ _ _]) rfl rfl rfl rfl (by repeat (first | exact Spl.z _ | apply Spl.t | apply Spl.d)) | apply Bld.cons (cs := [.ptr _ _ _ _ _]) rfl rfl rfl rfl (by repeat (first | exact Spl.z _ | apply Spl.t | apply Spl.d)) | apply Bld.cons (cs := [.fn _ _]) rfl rfl rfl rfl (by repeat (first | exact Spl.z _ | apply Spl.t | apply Spl.d)) | apply Bld.cons (cs := _ :: _) rfl rfl rfl rfl (by repeat (first | exact Spl.z _ | apply Spl.t | apply Spl.d))))) ?_
  refine pm ?_
  refine rw0 rfl w0 (bx_st (cs := _ :: _) tok rfl rfl rfl rfl rfl rfl rfl) ?_
  refine rw0 rfl w0 (bx_st (cs := _ :: _) tok rfl rfl rfl rfl rfl rfl rfl) ?_
  refine pa ?_
  refine nx ?_
  refine aw_ret ?_
  refine then_r ?_
  cases h0
  exact ret0_ (rs := [.cell 2 77, .cell 3 77, .tmp 4]) rfl
  refine sk ?_
  refine sq [0,1,2,3,4,5,6,7,8,9,10,11,12,13] ?_
  refine fa tok ?_
  refine rl rfl w0 rfl (bx_ldN tok rfl rfl rfl rfl) ?_
  refine fa tok ?_
  refine fa tok ?_
  refine ld tok ?_
  refine fa tok ?_
  refine ld tok ?_
  obtain ⟨v3, hv3, h0⟩ := bnd h0
  refine rs rfl w0 rfl (c_call 7 (i_ArborAt_c hv3) rfl rfl rfl) ?_
  refine rp rfl w0 rfl (pu_move (r := .tup _) rfl) ?_
  refine rp rfl w0 rfl (pu_extract rfl rfl) ?_
  refine rp rfl w0 rfl (pu_extract rfl rfl) ?_
  refine rs rfl w0 rfl (st_alloc 7 (cs := [.d (.v (.int .i64 0)), .d (.v (.int .i64 0))]) tok rfl rfl rfl) ?_
  refine rw0 rfl w0 (bx_st (cs := _ :: _) tok rfl rfl rfl rfl rfl rfl rfl) ?_
  refine pa ?_
  refine nx ?_
  refine aw_seq ?_
  refine sq [0,1] ?_
  refine pm ?_
  refine rp rfl w0 rfl (pu_neq rfl rfl) ?_
  refine nx ?_
  refine aw_if h0 rfl (fun hc h0 => ?_) (fun hc h0 => ?_)
  refine sq [0,1,2,3,4,5] ?_
  refine rp rfl w0 rfl (pu_build (C0 := [.d (.v (.int .i64 0)), .d (.v (.int .i64 0))]) tok rfl rfl (by repeat (first | exact Plc.nil | apply Plc.cons rfl)) rfl (by repeat (first | exact Bld.nil _ | apply Bld.cons (cs := [.d _]) rfl rfl rfl rfl (by repeat (first | exact Spl.z _ | apply Spl.t | apply Spl.d)) | apply Bld.cons (cs := [.own _ _ _]) rfl rfl rfl rfl (by repeat (first | exact Spl.z _ | apply Spl.t | apply Spl.d)) | apply Bld.cons (cs := [.ptr _ _ _ _ _]) rfl rfl rfl rfl (by repeat (first | exact Spl.z _ | apply Spl.t | apply Spl.d)) | apply Bld.cons (cs := [.fn _ _]) rfl rfl rfl rfl (by repeat (first | exact Spl.z _ | apply Spl.t | apply Spl.d)) | apply Bld.cons (cs := _ :: _) rfl rfl rfl rfl (by repeat (first | exact Spl.z _ | apply Spl.t | apply Spl.d))))) ?_
  refine rp rfl w0 rfl (pu_build (C0 := [.d (.v (.int .i64 0)), .d (.v (.int .i64 0))]) tok rfl rfl (by repeat (first | exact Plc.nil | apply Plc.cons rfl)) rfl (by repeat (first | exact Bld.nil _ | apply Bld.cons (cs := [.d _]) rfl rfl rfl rfl (by repeat (first | exact Spl.z _ | apply Spl.t | apply Spl.d)) | apply Bld.cons (cs := [.own _ _ _]) rfl rfl rfl rfl (by repeat (first | exact Spl.z _ | apply Spl.t | apply Spl.d)) | apply Bld.cons (cs := [.ptr _ _ _ _ _]) rfl rfl rfl rfl (by repeat (first | exact Spl.z _ | apply Spl.t | apply Spl.d)) | apply Bld.cons (cs := [.fn _ _]) rfl rfl rfl rfl (by repeat (first | exact Spl.z _ | apply Spl.t | apply Spl.d)) | apply Bld.cons (cs := _ :: _) rfl rfl rfl rfl (by repeat (first | exact Spl.z _ | apply Spl.t | apply Spl.d))))) ?_
  refine pm ?_
  refine rw0 rfl w0 (bx_st (cs := _ :: _) tok rfl rfl rfl rfl rfl rfl rfl) ?_
  refine rw0 rfl w0 (bx_st (cs := _ :: _) tok rfl rfl rfl rfl rfl rfl rfl) ?_
  refine pa ?_
  refine nx ?_
  refine aw_ret ?_
  refine then_r ?_
  cases h0
  exact ret0_ (rs := [.cell 2 77, .cell 3 77, .tmp 4]) rfl
  refine sk ?_
  refine aw_seq ?_
  refine aw_region_draw (is := [0, 1, 2, 3, 4]) [0, 0, 1, 7, 15] follows (by kernel_rfl) ?_
  refine rt_lk rfl w0 rfl (bx_ldN tok rfl rfl rfl rfl) rfl rfl rfl ?_
  refine rt_lk rfl w0 rfl (bx_ldN tok rfl rfl rfl rfl) rfl rfl rfl ?_
  refine rt_wk rfl w0 (bx_st (cs := _ :: _) tok rfl rfl rfl rfl rfl rfl rfl) ?_
  refine rt_wk rfl w0 (bx_st (cs := _ :: _) tok rfl rfl rfl rfl rfl rfl rfl) ?_
  refine tpa ?_
  refine rt_nil ?_
  refine ⟨by kernel_rfl, ?_⟩
  refine then_n ?_
  refine aw_ret ?_
  cases h0
  exact ret0_ (rs := [.cell 2 77, .cell 3 77, .tmp 4]) rfl

theorem l_eqRatio_c {p0 : Ratio_} {p1 : Ratio_} {r : Bool} (h0 : l_eqRatio_m p0 p1 = some r) : FnC Tryz.prog 31 [] [.agg [.d (.v (.int .i64 p0.Num)), .d (.v (.int .i64 p0.Den))], .agg [.d (.v (.int .i64 p1.Num)), .d (.v (.int .i64 p1.Den))]] [] (.d (.v (.bool r))) := by
  refine fnc_intro (T := tt) (N := 15) tok Tryz.func31 rfl rfl (by kernel_rfl) rfl rfl ?_
  unfold l_eqRatio_m at h0
  refine sq [0,1,2] ?_
  refine rs rfl w0 rfl (st_box 3 (cs := _ :: _) rfl rfl rfl) ?_
  refine rs rfl w0 rfl (st_box 4 (cs := _ :: _) rfl rfl rfl) ?_
  refine pa ?_
  refine nx ?_
  refine aw_seq ?_
  refine sq [0,1,2,3,4] ?_
  refine fa tok ?_
  refine ld tok ?_
  refine fa tok ?_
  refine ld tok ?_
  refine rp rfl w0 rfl (pu_neq rfl rfl) ?_
  refine nx ?_
  refine aw_if h0 rfl (fun hc h0 => ?_) (fun hc h0 => ?_)
  refine sq [0] ?_
  refine pa ?_
  refine nx ?_
  refine aw_ret ?_
  refine then_r ?_
  cases h0
  exact ret0_ (rs := [.tmp 4]) rfl
  refine sk ?_
  refine aw_seq ?_
  refine sq [0,1,2,3,4] ?_
  refine fa tok ?_
  refine ld tok ?_
  refine fa tok ?_
  refine ld tok ?_
  refine rp rfl w0 rfl (pu_neq rfl rfl) ?_
  refine nx ?_
  refine aw_if h0 rfl (fun hc h0 => ?_) (fun hc h0 => ?_)
  refine sq [0] ?_
  refine pa ?_
  refine nx ?_
  refine aw_ret ?_
  refine then_r ?_
  cases h0
  exact ret0_ (rs := [.tmp 4]) rfl
  refine sk ?_
  refine sq [0] ?_
  refine pa ?_
  refine nx ?_
  refine aw_ret ?_
  cases h0
  exact ret0_ (rs := [.tmp 4]) rfl

theorem l_eqInt64S_c {p0 : List Int} {p1 : List Int} {r : Bool} (h0 : l_eqInt64S_m p0 p1 = some r) : FnC Tryz.prog 56 [] [.d (.sl (List.map cI p0)), .d (.sl (List.map cI p1))] [] (.d (.v (.bool r))) := by
  refine fnc_intro (T := tt) (N := 26) tok Tryz.func56 rfl rfl (by kernel_rfl) rfl rfl ?_
  unfold l_eqInt64S_m at h0
  refine sq [0] ?_
  refine pa ?_
  refine nx ?_
  refine aw_seq ?_
  refine sq [0,1,2,3,4] ?_
  refine pm ?_
  refine rp rfl w0 rfl (pu_len_map tok rfl rfl rfl) ?_
  refine pm ?_
  refine rp rfl w0 rfl (pu_len_map tok rfl rfl rfl) ?_
  refine rp rfl w0 rfl (pu_neq rfl rfl) ?_
  refine nx ?_
  refine aw_if h0 rfl (fun hc h0 => ?_) (fun hc h0 => ?_)
  refine sq [0] ?_
  refine pa ?_
  refine nx ?_
  refine aw_ret ?_
  refine then_r ?_
  cases h0
  exact ret0_ (rs := [.tmp 4]) rfl
  refine sk ?_
  obtain ⟨v7x, h1, h0⟩ := bnd h0
  refine aw_cutE v7x (fun v7 => ⟨(fun _ => .dead), lks [.no, .no, .no]⟩) ?_ ?_
  refine sq [0] ?_
  refine pa ?_
  refine nx ?_
  refine aw_block ?_
  refine aw_loopM (fun s4 => ⟨updA (updA (updA ((fun _ => .dead)) 0 (.d (.sl (List.map cI p0)))) 1 (.d (.sl (List.map cI p1)))) 5 (.d (.v (.int .i64 s4))), lks [.no, .no, .no]⟩) h1 ?_ (fun s4 y h2 => ?_)
  exact wk [0, 1, 2]
  refine aw_seq ?_
  refine sq [0,1,2,3] ?_
  refine pm ?_
  refine pm ?_
  refine rp rfl w0 rfl (pu_len_map tok rfl rfl rfl) ?_
  refine rp rfl w0 rfl (pu_lss rfl rfl) ?_
  refine nx ?_
  refine aw_if h2 rfl (fun hc h2 => ?_) (fun hc h2 => ?_)
  refine sk ?_
  refine aw_seq ?_
  refine aw_block ?_
  refine aw_seq ?_
  refine aw_region_draw (is := [0, 1, 2, 3, 4, 5, 6, 7, 8]) [0, 0, 3, 7, 0, 0, 48, 112, 255] follows (by kernel_rfl) ?_
  refine tpm ?_
  refine tpm ?_
  obtain ⟨v5, hv5, h2⟩ := bnd h2
  refine rt_p rfl w0 rfl (sl_ix tok hv5 rfl rfl rfl rfl rfl rfl) ?_
  refine tlr tok ?_
  refine tpm ?_
  refine tpm ?_
  obtain ⟨v6, hv6, h2⟩ := bnd h2
  refine rt_p rfl w0 rfl (sl_ix tok hv6 rfl rfl rfl rfl rfl rfl) ?_
  refine tlr tok ?_
  refine rt_p rfl w0 rfl (pu_neq rfl rfl) ?_
  refine rt_nil ?_
  refine ⟨by kernel_rfl, ?_⟩
  refine then_n ?_
  refine aw_if h2 rfl (fun hc h2 => ?_) (fun hc h2 => ?_)
  refine sq [0] ?_
  refine pa ?_
  refine nx ?_
  refine aw_ret ?_
  refine block_r ?_
  refine then_r ?_
  cases h2
  refine loop_r ⟨_, rfl, fun e => ?_⟩
  subst e
  refine block_r ?_
  replace h0 := orE_s h0
  refine then_r ?_
  cases h0
  exact ret0_ (rs := [.tmp 4]) rfl
  refine aw_skip ?_
  refine block_n ?_
  refine then_n ?_
  refine sr [0,1,2] ?_
  refine pm ?_
  refine rp rfl w0 rfl (pw_add rfl rfl) ?_
  refine pa ?_
  refine ra_nil ?_
  refine loop_n ?_
  cases h2
  refine ⟨_, rfl, ?_⟩
  exact wk [0, 1, 2]
  refine aw_exit ?_
  refine then_e ?_
  cases h2
  refine loop_x ⟨_, rfl, fun e => ?_⟩
  subst e
  refine block_hit ?_
  refine then_n ?_
  refine ⟨_, rfl, ?_⟩
  exact wk [0, 1, 2]
  rintro v7 rfl
  replace h0 := orE_f h0
  refine sq [0] ?_
  refine pa ?_
  refine nx ?_
  refine aw_ret ?_
  cases h0
  exact ret0_ (rs := [.tmp 4]) rfl

theorem l_eqArbor_c {p0 : Arbor_} {p1 : Arbor_} {r : Bool} (h0 : l_eqArbor_m p0 p1 = some r) : FnC Tryz.prog 175 [] [.agg [.d (.v (.string p0.Name)), .d (.sl (List.map cI p0.Wheels))], .agg [.d (.v (.string p1.Name)), .d (.sl (List.map cI p1.Wheels))]] [] (.d (.v (.bool r))) := by
  refine fnc_intro (T := tt) (N := 16) tok Tryz.func175 rfl rfl (by kernel_rfl) rfl rfl ?_
  unfold l_eqArbor_m at h0
  refine sq [0,1,2] ?_
  refine rs rfl w0 rfl (st_box 3 (cs := _ :: _) rfl rfl rfl) ?_
  refine rs rfl w0 rfl (st_box 4 (cs := _ :: _) rfl rfl rfl) ?_
  refine pa ?_
  refine nx ?_
  refine aw_seq ?_
  refine sq [0,1,2,3,4] ?_
  refine fa tok ?_
  refine ld tok ?_
  refine fa tok ?_
  refine ld tok ?_
  refine rp rfl w0 rfl (pu_sneq rfl rfl) ?_
  refine nx ?_
  refine aw_if h0 rfl (fun hc h0 => ?_) (fun hc h0 => ?_)
  refine sq [0] ?_
  refine pa ?_
  refine nx ?_
  refine aw_ret ?_
  refine then_r ?_
  cases h0
  exact ret0_ (rs := [.tmp 4]) rfl
  refine sk ?_
  refine aw_seq ?_
  refine sq [0,1,2,3,4,5] ?_
  refine fa tok ?_
  refine ld tok ?_
  refine fa tok ?_
  refine ld tok ?_
  obtain ⟨v1, hv1, h0⟩ := bnd h0
  refine rs rfl w0 rfl (c_call 5 (l_eqInt64S_c hv1) rfl rfl rfl) ?_
  refine rp rfl w0 rfl (pu_not rfl) ?_
  refine nx ?_
  refine aw_ifB h0 rfl (fun hc h0 => ?_) (fun hc h0 => ?_)
  refine sq [0] ?_
  refine pa ?_
  refine nx ?_
  refine aw_ret ?_
  refine then_r ?_
  cases h0
  exact ret0_ (rs := [.tmp 4]) rfl
  refine sk ?_
  refine sq [0] ?_
  refine pa ?_
  refine nx ?_
  refine aw_ret ?_
  cases h0
  exact ret0_ (rs := [.tmp 4]) rfl

theorem l_eqArborS_c {p0 : List Arbor_} {p1 : List Arbor_} {r : Bool} (h0 : l_eqArborS_m p0 p1 = some r) : FnC Tryz.prog 112 [] [.d (.sl (List.map cArbor_ p0)), .d (.sl (List.map cArbor_ p1))] [] (.d (.v (.bool r))) := by
  refine fnc_intro (T := tt) (N := 27) tok Tryz.func112 rfl rfl (by kernel_rfl) rfl rfl ?_
  unfold l_eqArborS_m at h0
  refine sq [0] ?_
  refine pa ?_
  refine nx ?_
  refine aw_seq ?_
  refine sq [0,1,2,3,4] ?_
  refine pm ?_
  refine rp rfl w0 rfl (pu_len_map tok rfl rfl rfl) ?_
  refine pm ?_
  refine rp rfl w0 rfl (pu_len_map tok rfl rfl rfl) ?_
  refine rp rfl w0 rfl (pu_neq rfl rfl) ?_
  refine nx ?_
  refine aw_if h0 rfl (fun hc h0 => ?_) (fun hc h0 => ?_)
  refine sq [0] ?_
  refine pa ?_
  refine nx ?_
  refine aw_ret ?_
  refine then_r ?_
  cases h0
  exact ret0_ (rs := [.tmp 4]) rfl
  refine sk ?_
  obtain ⟨v9x, h1, h0⟩ := bnd h0
  refine aw_cutE v9x (fun v9 => ⟨(fun _ => .dead), lks [.no, .no, .no]⟩) ?_ ?_
  refine sq [0] ?_
  refine pa ?_
  refine nx ?_
  refine aw_block ?_
  refine aw_loopM (fun s5 => ⟨updA (updA (updA ((fun _ => .dead)) 0 (.d (.sl (List.map cArbor_ p0)))) 1 (.d (.sl (List.map cArbor_ p1)))) 5 (.d (.v (.int .i64 s5))), lks [.no, .no, .no]⟩) h1 ?_ (fun s5 y h2 => ?_)
  exact wk [0, 1, 2]
  refine aw_seq ?_
  refine sq [0,1,2,3] ?_
  refine pm ?_
  refine pm ?_
  refine rp rfl w0 rfl (pu_len_map tok rfl rfl rfl) ?_
  refine rp rfl w0 rfl (pu_lss rfl rfl) ?_
  refine nx ?_
  refine aw_if h2 rfl (fun hc h2 => ?_) (fun hc h2 => ?_)
  refine sk ?_
  refine aw_seq ?_
  refine aw_block ?_
  refine aw_seq ?_
  refine aw_region_draw (is := [0, 1, 2, 3, 4, 5, 6, 7, 8, 9]) [0, 0, 3, 7, 0, 0, 48, 112, 255, 511] follows (by kernel_rfl) ?_
  refine tpm ?_
  refine tpm ?_
  obtain ⟨v6, hv6, h2⟩ := bnd h2
  refine rt_p rfl w0 rfl (sl_ix tok hv6 rfl rfl rfl rfl rfl rfl) ?_
  refine rt_p rfl w0 rfl (pu_load_refN tok rfl rfl rfl (by repeat (first | exact SegD.z _ | apply SegD.t))) ?_
  refine tpm ?_
  refine tpm ?_
  obtain ⟨v7, hv7, h2⟩ := bnd h2
  refine rt_p rfl w0 rfl (sl_ix tok hv7 rfl rfl rfl rfl rfl rfl) ?_
  refine rt_p rfl w0 rfl (pu_load_refN tok rfl rfl rfl (by repeat (first | exact SegD.z _ | apply SegD.t))) ?_
  obtain ⟨v8, hv8, h2⟩ := bnd h2
  refine rt_c rfl w0 rfl (b_call 3 (l_eqArbor_c hv8) rfl rfl rfl) ?_
  refine rt_p rfl w0 rfl (pu_not rfl) ?_
  refine rt_nil ?_
  refine ⟨by kernel_rfl, ?_⟩
  refine then_n ?_
  refine aw_ifB h2 rfl (fun hc h2 => ?_) (fun hc h2 => ?_)
  refine sq [0] ?_
  refine pa ?_
  refine nx ?_
  refine aw_ret ?_
  refine block_r ?_
  refine then_r ?_
  cases h2
  refine loop_r ⟨_, rfl, fun e => ?_⟩
  subst e
  refine block_r ?_
  replace h0 := orE_s h0
  refine then_r ?_
  cases h0
  exact ret0_ (rs := [.tmp 4]) rfl
  refine aw_skip ?_
  refine block_n ?_
  refine then_n ?_
  refine sr [0,1,2] ?_
  refine pm ?_
  refine rp rfl w0 rfl (pw_add rfl rfl) ?_
  refine pa ?_
  refine ra_nil ?_
  refine loop_n ?_
  cases h2
  refine ⟨_, rfl, ?_⟩
  exact wk [0, 1, 2]
  refine aw_exit ?_
  refine then_e ?_
  cases h2
  refine loop_x ⟨_, rfl, fun e => ?_⟩
  subst e
  refine block_hit ?_
  refine then_n ?_
  refine ⟨_, rfl, ?_⟩
  exact wk [0, 1, 2]
  rintro v9 rfl
  replace h0 := orE_f h0
  refine sq [0] ?_
  refine pa ?_
  refine nx ?_
  refine aw_ret ?_
  cases h0
  exact ret0_ (rs := [.tmp 4]) rfl

theorem l_eqMesh_c {p0 : Mesh_} {p1 : Mesh_} {r : Bool} (h0 : l_eqMesh_m p0 p1 = some r) : FnC Tryz.prog 176 [] [.agg [.d (.v (.int .i64 p0.A)), .d (.v (.int .i64 p0.WheelA)), .d (.v (.int .i64 p0.B)), .d (.v (.int .i64 p0.WheelB))], .agg [.d (.v (.int .i64 p1.A)), .d (.v (.int .i64 p1.WheelA)), .d (.v (.int .i64 p1.B)), .d (.v (.int .i64 p1.WheelB))]] [] (.d (.v (.bool r))) := by
  refine fnc_intro (T := tt) (N := 25) tok Tryz.func176 rfl rfl (by kernel_rfl) rfl rfl ?_
  unfold l_eqMesh_m at h0
  refine sq [0,1,2] ?_
  refine rs rfl w0 rfl (st_box 3 (cs := _ :: _) rfl rfl rfl) ?_
  refine rs rfl w0 rfl (st_box 4 (cs := _ :: _) rfl rfl rfl) ?_
  refine pa ?_
  refine nx ?_
  refine aw_seq ?_
  refine sq [0,1,2,3,4] ?_
  refine fa tok ?_
  refine ld tok ?_
  refine fa tok ?_
  refine ld tok ?_
  refine rp rfl w0 rfl (pu_neq rfl rfl) ?_
  refine nx ?_
  refine aw_if h0 rfl (fun hc h0 => ?_) (fun hc h0 => ?_)
  refine sq [0] ?_
  refine pa ?_
  refine nx ?_
  refine aw_ret ?_
  refine then_r ?_
  cases h0
  exact ret0_ (rs := [.tmp 4]) rfl
  refine sk ?_
  refine aw_seq ?_
  refine sq [0,1,2,3,4] ?_
  refine fa tok ?_
  refine ld tok ?_
  refine fa tok ?_
  refine ld tok ?_
  refine rp rfl w0 rfl (pu_neq rfl rfl) ?_
  refine nx ?_
  refine aw_if h0 rfl (fun hc h0 => ?_) (fun hc h0 => ?_)
  refine sq [0] ?_
  refine pa ?_
  refine nx ?_
  refine aw_ret ?_
  refine then_r ?_
  cases h0
  exact ret0_ (rs := [.tmp 4]) rfl
  refine sk ?_
  refine aw_seq ?_
  refine sq [0,1,2,3,4] ?_
  refine fa tok ?_
  refine ld tok ?_
  refine fa tok ?_
  refine ld tok ?_
  refine rp rfl w0 rfl (pu_neq rfl rfl) ?_
  refine nx ?_
  refine aw_if h0 rfl (fun hc h0 => ?_) (fun hc h0 => ?_)
  refine sq [0] ?_
  refine pa ?_
  refine nx ?_
  refine aw_ret ?_
  refine then_r ?_
  cases h0
  exact ret0_ (rs := [.tmp 4]) rfl
  refine sk ?_
  refine aw_seq ?_
  refine sq [0,1,2,3,4] ?_
  refine fa tok ?_
  refine ld tok ?_
  refine fa tok ?_
  refine ld tok ?_
  refine rp rfl w0 rfl (pu_neq rfl rfl) ?_
  refine nx ?_
  refine aw_if h0 rfl (fun hc h0 => ?_) (fun hc h0 => ?_)
  refine sq [0] ?_
  refine pa ?_
  refine nx ?_
  refine aw_ret ?_
  refine then_r ?_
  cases h0
  exact ret0_ (rs := [.tmp 4]) rfl
  refine sk ?_
  refine sq [0] ?_
  refine pa ?_
  refine nx ?_
  refine aw_ret ?_
  cases h0
  exact ret0_ (rs := [.tmp 4]) rfl

theorem l_eqMeshS_c {p0 : List Mesh_} {p1 : List Mesh_} {r : Bool} (h0 : l_eqMeshS_m p0 p1 = some r) : FnC Tryz.prog 113 [] [.d (.sl (List.map cMesh_ p0)), .d (.sl (List.map cMesh_ p1))] [] (.d (.v (.bool r))) := by
  refine fnc_intro (T := tt) (N := 27) tok Tryz.func113 rfl rfl (by kernel_rfl) rfl rfl ?_
  unfold l_eqMeshS_m at h0
  refine sq [0] ?_
  refine pa ?_
  refine nx ?_
  refine aw_seq ?_
  refine sq [0,1,2,3,4] ?_
  refine pm ?_
  refine rp rfl w0 rfl (pu_len_map tok rfl rfl rfl) ?_
  refine pm ?_
  refine rp rfl w0 rfl (pu_len_map tok rfl rfl rfl) ?_
  refine rp rfl w0 rfl (pu_neq rfl rfl) ?_
  refine nx ?_
  refine aw_if h0 rfl (fun hc h0 => ?_) (fun hc h0 => ?_)
  refine sq [0] ?_
  refine pa ?_
  refine nx ?_
  refine aw_ret ?_
  refine then_r ?_
  cases h0
  exact ret0_ (rs := [.tmp 4]) rfl
  refine sk ?_
  obtain ⟨v9x, h1, h0⟩ := bnd h0
  refine aw_cutE v9x (fun v9 => ⟨(fun _ => .dead), lks [.no, .no, .no]⟩) ?_ ?_
  refine sq [0] ?_
  refine pa ?_
  refine nx ?_
  refine aw_block ?_
  refine aw_loopM (fun s5 => ⟨updA (updA (updA ((fun _ => .dead)) 0 (.d (.sl (List.map cMesh_ p0)))) 1 (.d (.sl (List.map cMesh_ p1)))) 5 (.d (.v (.int .i64 s5))), lks [.no, .no, .no]⟩) h1 ?_ (fun s5 y h2 => ?_)
  exact wk [0, 1, 2]
  refine aw_seq ?_
  refine sq [0,1,2,3] ?_
  refine pm ?_
  refine pm ?_
  refine rp rfl w0 rfl (pu_len_map tok rfl rfl rfl) ?_
  refine rp rfl w0 rfl (pu_lss rfl rfl) ?_
  refine nx ?_
  refine aw_if h2 rfl (fun hc h2 => ?_) (fun hc h2 => ?_)
  refine sk ?_
  refine aw_seq ?_
  refine aw_block ?_
  refine aw_seq ?_
  refine aw_region_draw (is := [0, 1, 2, 3, 4, 5, 6, 7, 8, 9]) [0, 0, 3, 7, 0, 0, 48, 112, 255, 511] follows (by kernel_rfl) ?_
  refine tpm ?_
  refine tpm ?_
  obtain ⟨v6, hv6, h2⟩ := bnd h2
  refine rt_p rfl w0 rfl (sl_ix tok hv6 rfl rfl rfl rfl rfl rfl) ?_
  refine rt_p rfl w0 rfl (pu_load_refN tok rfl rfl rfl (by repeat (first | exact SegD.z _ | apply SegD.t))) ?_
  refine tpm ?_
  refine tpm ?_
  obtain ⟨v7, hv7, h2⟩ := bnd h2
  refine rt_p rfl w0 rfl (sl_ix tok hv7 rfl rfl rfl rfl rfl rfl) ?_
  refine rt_p rfl w0 rfl (pu_load_refN tok rfl rfl rfl (by repeat (first | exact SegD.z _ | apply SegD.t))) ?_
  obtain ⟨v8, hv8, h2⟩ := bnd h2
  refine rt_c rfl w0 rfl (b_call 3 (l_eqMesh_c hv8) rfl rfl rfl) ?_
  refine rt_p rfl w0 rfl (pu_not rfl) ?_
  refine rt_nil ?_
  refine ⟨by kernel_rfl, ?_⟩
  refine then_n ?_
  refine aw_ifB h2 rfl (fun hc h2 => ?_) (fun hc h2 => ?_)
  refine sq [0] ?_
  refine pa ?_
  refine nx ?_
  refine aw_ret ?_
  refine block_r ?_
  refine then_r ?_
  cases h2
  refine loop_r ⟨_, rfl, fun e => ?_⟩
  subst e
  refine block_r ?_
  replace h0 := orE_s h0
  refine then_r ?_
  cases h0
  exact ret0_ (rs := [.tmp 4]) rfl
  refine aw_skip ?_
  refine block_n ?_
  refine then_n ?_
  refine sr [0,1,2] ?_
  refine pm ?_
  refine rp rfl w0 rfl (pw_add rfl rfl) ?_
  refine pa ?_
  refine ra_nil ?_
  refine loop_n ?_
  cases h2
  refine ⟨_, rfl, ?_⟩
  exact wk [0, 1, 2]
  refine aw_exit ?_
  refine then_e ?_
  cases h2
  refine loop_x ⟨_, rfl, fun e => ?_⟩
  subst e
  refine block_hit ?_
  refine then_n ?_
  refine ⟨_, rfl, ?_⟩
  exact wk [0, 1, 2]
  rintro v9 rfl
  replace h0 := orE_f h0
  refine sq [0] ?_
  refine pa ?_
  refine nx ?_
  refine aw_ret ?_
  cases h0
  exact ret0_ (rs := [.tmp 4]) rfl

theorem l_eqWorks_c {p0 : Works_} {p1 : Works_} {r : Bool} (h0 : l_eqWorks_m p0 p1 = some r) : FnC Tryz.prog 54 [] [.agg [.d (.sl (List.map cArbor_ p0.Arbors)), .d (.sl (List.map cMesh_ p0.Meshes))], .agg [.d (.sl (List.map cArbor_ p1.Arbors)), .d (.sl (List.map cMesh_ p1.Meshes))]] [] (.d (.v (.bool r))) := by
  refine fnc_intro (T := tt) (N := 17) tok Tryz.func54 rfl rfl (by kernel_rfl) rfl rfl ?_
  unfold l_eqWorks_m at h0
  refine sq [0,1,2] ?_
  refine rs rfl w0 rfl (st_box 3 (cs := _ :: _) rfl rfl rfl) ?_
  refine rs rfl w0 rfl (st_box 4 (cs := _ :: _) rfl rfl rfl) ?_
  refine pa ?_
  refine nx ?_
  refine aw_seq ?_
  refine sq [0,1,2,3,4,5] ?_
  refine fa tok ?_
  refine ld tok ?_
  refine fa tok ?_
  refine ld tok ?_
  obtain ⟨v1, hv1, h0⟩ := bnd h0
  refine rs rfl w0 rfl (c_call 5 (l_eqArborS_c hv1) rfl rfl rfl) ?_
  refine rp rfl w0 rfl (pu_not rfl) ?_
  refine nx ?_
  refine aw_ifB h0 rfl (fun hc h0 => ?_) (fun hc h0 => ?_)
  refine sq [0] ?_
  refine pa ?_
  refine nx ?_
  refine aw_ret ?_
  refine then_r ?_
  cases h0
  exact ret0_ (rs := [.tmp 4]) rfl
  refine sk ?_
  refine aw_seq ?_
  refine sq [0,1,2,3,4,5] ?_
  refine fa tok ?_
  refine ld tok ?_
  refine fa tok ?_
  refine ld tok ?_
  obtain ⟨v2, hv2, h0⟩ := bnd h0
  refine rs rfl w0 rfl (c_call 5 (l_eqMeshS_c hv2) rfl rfl rfl) ?_
  refine rp rfl w0 rfl (pu_not rfl) ?_
  refine nx ?_
  refine aw_ifB h0 rfl (fun hc h0 => ?_) (fun hc h0 => ?_)
  refine sq [0] ?_
  refine pa ?_
  refine nx ?_
  refine aw_ret ?_
  refine then_r ?_
  cases h0
  exact ret0_ (rs := [.tmp 4]) rfl
  refine sk ?_
  refine sq [0] ?_
  refine pa ?_
  refine nx ?_
  refine aw_ret ?_
  cases h0
  exact ret0_ (rs := [.tmp 4]) rfl

theorem l_eqMonth_c {p0 : Month_} {p1 : Month_} {r : Bool} (h0 : l_eqMonth_m p0 p1 = some r) : FnC Tryz.prog 177 [] [.agg [.d (.v (.string p0.Name)), .d (.v (.int .i64 p0.Days)), .d (.v (.int .i64 p0.Leap))], .agg [.d (.v (.string p1.Name)), .d (.v (.int .i64 p1.Days)), .d (.v (.int .i64 p1.Leap))]] [] (.d (.v (.bool r))) := by
  refine fnc_intro (T := tt) (N := 20) tok Tryz.func177 rfl rfl (by kernel_rfl) rfl rfl ?_
  unfold l_eqMonth_m at h0
  refine sq [0,1,2] ?_
  refine rs rfl w0 rfl (st_box 3 (cs := _ :: _) rfl rfl rfl) ?_
  refine rs rfl w0 rfl (st_box 4 (cs := _ :: _) rfl rfl rfl) ?_
  refine pa ?_
  refine nx ?_
  refine aw_seq ?_
  refine sq [0,1,2,3,4] ?_
  refine fa tok ?_
  refine ld tok ?_
  refine fa tok ?_
  refine ld tok ?_
  refine rp rfl w0 rfl (pu_sneq rfl rfl) ?_
  refine nx ?_
  refine aw_if h0 rfl (fun hc h0 => ?_) (fun hc h0 => ?_)
  refine sq [0] ?_
  refine pa ?_
  refine nx ?_
  refine aw_ret ?_
  refine then_r ?_
  cases h0
  exact ret0_ (rs := [.tmp 4]) rfl
  refine sk ?_
  refine aw_seq ?_
  refine sq [0,1,2,3,4] ?_
  refine fa tok ?_
  refine ld tok ?_
  refine fa tok ?_
  refine ld tok ?_
  refine rp rfl w0 rfl (pu_neq rfl rfl) ?_
  refine nx ?_
  refine aw_if h0 rfl (fun hc h0 => ?_) (fun hc h0 => ?_)
  refine sq [0] ?_
  refine pa ?_
  refine nx ?_
  refine aw_ret ?_
  refine then_r ?_
  cases h0
  exact ret0_ (rs := [.tmp 4]) rfl
  refine sk ?_
  refine aw_seq ?_
  refine sq [0,1,2,3,4] ?_
  refine fa tok ?_
  refine ld tok ?_
  refine fa tok ?_
  refine ld tok ?_
  refine rp rfl w0 rfl (pu_neq rfl rfl) ?_
  refine nx ?_
  refine aw_if h0 rfl (fun hc h0 => ?_) (fun hc h0 => ?_)
  refine sq [0] ?_
  refine pa ?_
  refine nx ?_
  refine aw_ret ?_
  refine then_r ?_
  cases h0
  exact ret0_ (rs := [.tmp 4]) rfl
  refine sk ?_
  refine sq [0] ?_
  refine pa ?_
  refine nx ?_
  refine aw_ret ?_
  cases h0
  exact ret0_ (rs := [.tmp 4]) rfl

theorem l_eqMonthS_c {p0 : List Month_} {p1 : List Month_} {r : Bool} (h0 : l_eqMonthS_m p0 p1 = some r) : FnC Tryz.prog 114 [] [.d (.sl (List.map cMonth_ p0)), .d (.sl (List.map cMonth_ p1))] [] (.d (.v (.bool r))) := by
  refine fnc_intro (T := tt) (N := 27) tok Tryz.func114 rfl rfl (by kernel_rfl) rfl rfl ?_
  unfold l_eqMonthS_m at h0
  refine sq [0] ?_
  refine pa ?_
  refine nx ?_
  refine aw_seq ?_
  refine sq [0,1,2,3,4] ?_
  refine pm ?_
  refine rp rfl w0 rfl (pu_len_map tok rfl rfl rfl) ?_
  refine pm ?_
  refine rp rfl w0 rfl (pu_len_map tok rfl rfl rfl) ?_
  refine rp rfl w0 rfl (pu_neq rfl rfl) ?_
  refine nx ?_
  refine aw_if h0 rfl (fun hc h0 => ?_) (fun hc h0 => ?_)
  refine sq [0] ?_
  refine pa ?_
  refine nx ?_
  refine aw_ret ?_
  refine then_r ?_
  cases h0
  exact ret0_ (rs := [.tmp 4]) rfl
  refine sk ?_
  obtain ⟨v9x, h1, h0⟩ := bnd h0
  refine aw_cutE v9x (fun v9 => ⟨(fun _ => .dead), lks [.no, .no, .no]⟩) ?_ ?_
  refine sq [0] ?_
  refine pa ?_
  refine nx ?_
  refine aw_block ?_
  refine aw_loopM (fun s5 => ⟨updA (updA (updA ((fun _ => .dead)) 0 (.d (.sl (List.map cMonth_ p0)))) 1 (.d (.sl (List.map cMonth_ p1)))) 5 (.d (.v (.int .i64 s5))), lks [.no, .no, .no]⟩) h1 ?_ (fun s5 y h2 => ?_)
  exact wk [0, 1, 2]
  refine aw_seq ?_
  refine sq [0,1,2,3] ?_
  refine pm ?_
  refine pm ?_
  refine rp rfl w0 rfl (pu_len_map tok rfl rfl rfl) ?_
  refine rp rfl w0 rfl (pu_lss rfl rfl) ?_
  refine nx ?_
  refine aw_if h2 rfl (fun hc h2 => ?_) (fun hc h2 => ?_)
  refine sk ?_
  refine aw_seq ?_
  refine aw_block ?_
  refine aw_seq ?_
  refine aw_region_draw (is := [0, 1, 2, 3, 4, 5, 6, 7, 8, 9]) [0, 0, 3, 7, 0, 0, 48, 112, 255, 511] follows (by kernel_rfl) ?_
  refine tpm ?_
  refine tpm ?_
  obtain ⟨v6, hv6, h2⟩ := bnd h2
  refine rt_p rfl w0 rfl (sl_ix tok hv6 rfl rfl rfl rfl rfl rfl) ?_
  refine rt_p rfl w0 rfl (pu_load_refN tok rfl rfl rfl (by repeat (first | exact SegD.z _ | apply SegD.t))) ?_
  refine tpm ?_
  refine tpm ?_
  obtain ⟨v7, hv7, h2⟩ := bnd h2
  refine rt_p rfl w0 rfl (sl_ix tok hv7 rfl rfl rfl rfl rfl rfl) ?_
  refine rt_p rfl w0 rfl (pu_load_refN tok rfl rfl rfl (by repeat (first | exact SegD.z _ | apply SegD.t))) ?_
  obtain ⟨v8, hv8, h2⟩ := bnd h2
  refine rt_c rfl w0 rfl (b_call 3 (l_eqMonth_c hv8) rfl rfl rfl) ?_
  refine rt_p rfl w0 rfl (pu_not rfl) ?_
  refine rt_nil ?_
  refine ⟨by kernel_rfl, ?_⟩
  refine then_n ?_
  refine aw_ifB h2 rfl (fun hc h2 => ?_) (fun hc h2 => ?_)
  refine sq [0] ?_
  refine pa ?_
  refine nx ?_
  refine aw_ret ?_
  refine block_r ?_
  refine then_r ?_
  cases h2
  refine loop_r ⟨_, rfl, fun e => ?_⟩
  subst e
  refine block_r ?_
  replace h0 := orE_s h0
  refine then_r ?_
  cases h0
  exact ret0_ (rs := [.tmp 4]) rfl
  refine aw_skip ?_
  refine block_n ?_
  refine then_n ?_
  refine sr [0,1,2] ?_
  refine pm ?_
  refine rp rfl w0 rfl (pw_add rfl rfl) ?_
  refine pa ?_
  refine ra_nil ?_
  refine loop_n ?_
  cases h2
  refine ⟨_, rfl, ?_⟩
  exact wk [0, 1, 2]
  refine aw_exit ?_
  refine then_e ?_
  cases h2
  refine loop_x ⟨_, rfl, fun e => ?_⟩
  subst e
  refine block_hit ?_
  refine then_n ?_
  refine ⟨_, rfl, ?_⟩
  exact wk [0, 1, 2]
  rintro v9 rfl
  replace h0 := orE_f h0
  refine sq [0] ?_
  refine pa ?_
  refine nx ?_
  refine aw_ret ?_
  cases h0
  exact ret0_ (rs := [.tmp 4]) rfl

theorem l_eqLeapRule_c {p0 : LeapRule_} {p1 : LeapRule_} {r : Bool} (h0 : l_eqLeapRule_m p0 p1 = some r) : FnC Tryz.prog 178 [] [.agg [.d (.v (.int .i64 p0.Every)), .d (.v (.int .i64 p0.Rest)), .d (.v (.bool p0.Leap))], .agg [.d (.v (.int .i64 p1.Every)), .d (.v (.int .i64 p1.Rest)), .d (.v (.bool p1.Leap))]] [] (.d (.v (.bool r))) := by
  refine fnc_intro (T := tt) (N := 20) tok Tryz.func178 rfl rfl (by kernel_rfl) rfl rfl ?_
  unfold l_eqLeapRule_m at h0
  refine sq [0,1,2] ?_
  refine rs rfl w0 rfl (st_box 3 (cs := _ :: _) rfl rfl rfl) ?_
  refine rs rfl w0 rfl (st_box 4 (cs := _ :: _) rfl rfl rfl) ?_
  refine pa ?_
  refine nx ?_
  refine aw_seq ?_
  refine sq [0,1,2,3,4] ?_
  refine fa tok ?_
  refine ld tok ?_
  refine fa tok ?_
  refine ld tok ?_
  refine rp rfl w0 rfl (pu_neq rfl rfl) ?_
  refine nx ?_
  refine aw_if h0 rfl (fun hc h0 => ?_) (fun hc h0 => ?_)
  refine sq [0] ?_
  refine pa ?_
  refine nx ?_
  refine aw_ret ?_
  refine then_r ?_
  cases h0
  exact ret0_ (rs := [.tmp 4]) rfl
  refine sk ?_
  refine aw_seq ?_
  refine sq [0,1,2,3,4] ?_
  refine fa tok ?_
  refine ld tok ?_
  refine fa tok ?_
  refine ld tok ?_
  refine rp rfl w0 rfl (pu_neq rfl rfl) ?_
  refine nx ?_
  refine aw_if h0 rfl (fun hc h0 => ?_) (fun hc h0 => ?_)
  refine sq [0] ?_
  refine pa ?_
  refine nx ?_
  refine aw_ret ?_
  refine then_r ?_
  cases h0
  exact ret0_ (rs := [.tmp 4]) rfl
  refine sk ?_
  refine aw_seq ?_
  refine sq [0,1,2,3,4] ?_
  refine fa tok ?_
  refine ld tok ?_
  refine fa tok ?_
  refine ld tok ?_
  refine rp rfl w0 rfl (pu_bneq tok rfl rfl rfl rfl) ?_
  refine nx ?_
  refine aw_ifB h0 rfl (fun hc h0 => ?_) (fun hc h0 => ?_)
  refine sq [0] ?_
  refine pa ?_
  refine nx ?_
  refine aw_ret ?_
  refine then_r ?_
  cases h0
  exact ret0_ (rs := [.tmp 4]) rfl
  refine sk ?_
  refine sq [0] ?_
  refine pa ?_
  refine nx ?_
  refine aw_ret ?_
  cases h0
  exact ret0_ (rs := [.tmp 4]) rfl

theorem l_eqLeapRuleS_c {p0 : List LeapRule_} {p1 : List LeapRule_} {r : Bool} (h0 : l_eqLeapRuleS_m p0 p1 = some r) : FnC Tryz.prog 115 [] [.d (.sl (List.map cLeapRule_ p0)), .d (.sl (List.map cLeapRule_ p1))] [] (.d (.v (.bool r))) := by
  refine fnc_intro (T := tt) (N := 27) tok Tryz.func115 rfl rfl (by kernel_rfl) rfl rfl ?_
  unfold l_eqLeapRuleS_m at h0
  refine sq [0] ?_
  refine pa ?_
  refine nx ?_
  refine aw_seq ?_
  refine sq [0,1,2,3,4] ?_
  refine pm ?_
  refine rp rfl w0 rfl (pu_len_map tok rfl rfl rfl) ?_
  refine pm ?_
  refine rp rfl w0 rfl (pu_len_map tok rfl rfl rfl) ?_
  refine rp rfl w0 rfl (pu_neq rfl rfl) ?_
  refine nx ?_
  refine aw_if h0 rfl (fun hc h0 => ?_) (fun hc h0 => ?_)
  refine sq [0] ?_
  refine pa ?_
  refine nx ?_
  refine aw_ret ?_
  refine then_r ?_
  cases h0
  exact ret0_ (rs := [.tmp 4]) rfl
  refine sk ?_
  obtain ⟨v9x, h1, h0⟩ := bnd h0
  refine aw_cutE v9x (fun v9 => ⟨(fun _ => .dead), lks [.no, .no, .no]⟩) ?_ ?_
  refine sq [0] ?_
  refine pa ?_
  refine nx ?_
  refine aw_block ?_
  refine aw_loopM (fun s5 => ⟨updA (updA (updA ((fun _ => .dead)) 0 (.d (.sl (List.map cLeapRule_ p0)))) 1 (.d (.sl (List.map cLeapRule_ p1)))) 5 (.d (.v (.int .i64 s5))), lks [.no, .no, .no]⟩) h1 ?_ (fun s5 y h2 => ?_)
  exact wk [0, 1, 2]
  refine aw_seq ?_
  refine sq [0,1,2,3] ?_
  refine pm ?_
  refine pm ?_
  refine rp rfl w0 rfl (pu_len_map tok rfl rfl rfl) ?_
  refine rp rfl w0 rfl (pu_lss rfl rfl) ?_
  refine nx ?_
  refine aw_if h2 rfl (fun hc h2 => ?_) (fun hc h2 => ?_)
  refine sk ?_
  refine aw_seq ?_
  refine aw_block ?_
  refine aw_seq ?_
  refine aw_region_draw (is := [0, 1, 2, 3, 4, 5, 6, 7, 8, 9]) [0, 0, 3, 7, 0, 0, 48, 112, 255, 511] follows (by kernel_rfl) ?_
  refine tpm ?_
  refine tpm ?_
  obtain ⟨v6, hv6, h2⟩ := bnd h2
  refine rt_p rfl w0 rfl (sl_ix tok hv6 rfl rfl rfl rfl rfl rfl) ?_
  refine rt_p rfl w0 rfl (pu_load_refN tok rfl rfl rfl (by repeat (first | exact SegD.z _ | apply SegD.t))) ?_
  refine tpm ?_
  refine tpm ?_
  obtain ⟨v7, hv7, h2⟩ := bnd h2
  refine rt_p rfl w0 rfl (sl_ix tok hv7 rfl rfl rfl rfl rfl rfl) ?_
  refine rt_p rfl w0 rfl (pu_load_refN tok rfl rfl rfl (by repeat (first | exact SegD.z _ | apply SegD.t))) ?_
  obtain ⟨v8, hv8, h2⟩ := bnd h2
  refine rt_c rfl w0 rfl (b_call 3 (l_eqLeapRule_c hv8) rfl rfl rfl) ?_
  refine rt_p rfl w0 rfl (pu_not rfl) ?_
  refine rt_nil ?_
  refine ⟨by kernel_rfl, ?_⟩
  refine then_n ?_
  refine aw_ifB h2 rfl (fun hc h2 => ?_) (fun hc h2 => ?_)
  refine sq [0] ?_
  refine pa ?_
  refine nx ?_
  refine aw_ret ?_
  refine block_r ?_
  refine then_r ?_
  cases h2
  refine loop_r ⟨_, rfl, fun e => ?_⟩
  subst e
  refine block_r ?_
  replace h0 := orE_s h0
  refine then_r ?_
  cases h0
  exact ret0_ (rs := [.tmp 4]) rfl
  refine aw_skip ?_
  refine block_n ?_
  refine then_n ?_
  refine sr [0,1,2] ?_
  refine pm ?_
  refine rp rfl w0 rfl (pw_add rfl rfl) ?_
  refine pa ?_
  refine ra_nil ?_
  refine loop_n ?_
  cases h2
  refine ⟨_, rfl, ?_⟩
  exact wk [0, 1, 2]
  refine aw_exit ?_
  refine then_e ?_
  cases h2
  refine loop_x ⟨_, rfl, fun e => ?_⟩
  subst e
  refine block_hit ?_
  refine then_n ?_
  refine ⟨_, rfl, ?_⟩
  exact wk [0, 1, 2]
  rintro v9 rfl
  replace h0 := orE_f h0
  refine sq [0] ?_
  refine pa ?_
  refine nx ?_
  refine aw_ret ?_
  cases h0
  exact ret0_ (rs := [.tmp 4]) rfl

theorem l_eqCalendar_c {p0 : Calendar_} {p1 : Calendar_} {r : Bool} (h0 : l_eqCalendar_m p0 p1 = some r) : FnC Tryz.prog 55 [] [.agg [.d (.v (.string p0.Name)), .d (.sl (List.map cMonth_ p0.Months)), .d (.sl (List.map cLeapRule_ p0.Rules)), .d (.v (.int .i64 p0.Week))], .agg [.d (.v (.string p1.Name)), .d (.sl (List.map cMonth_ p1.Months)), .d (.sl (List.map cLeapRule_ p1.Rules)), .d (.v (.int .i64 p1.Week))]] [] (.d (.v (.bool r))) := by
  refine fnc_intro (T := tt) (N := 27) tok Tryz.func55 rfl rfl (by kernel_rfl) rfl rfl ?_
  unfold l_eqCalendar_m at h0
  refine sq [0,1,2] ?_
  refine rs rfl w0 rfl (st_box 3 (cs := _ :: _) rfl rfl rfl) ?_
  refine rs rfl w0 rfl (st_box 4 (cs := _ :: _) rfl rfl rfl) ?_
  refine pa ?_
  refine nx ?_
  refine aw_seq ?_
  refine sq [0,1,2,3,4] ?_
  refine fa tok ?_
  refine ld tok ?_
  refine fa tok ?_
  refine ld tok ?_
  refine rp rfl w0 rfl (pu_sneq rfl rfl) ?_
  refine nx ?_
  refine aw_if h0 rfl (fun hc h0 => ?_) (fun hc h0 => ?_)
  refine sq [0] ?_
  refine pa ?_
  refine nx ?_
  refine aw_ret ?_
  refine then_r ?_
  cases h0
  exact ret0_ (rs := [.tmp 4]) rfl
  refine sk ?_
  refine aw_seq ?_
  refine sq [0,1,2,3,4,5] ?_
  refine fa tok ?_
  refine ld tok ?_
  refine fa tok ?_
  refine ld tok ?_
  obtain ⟨v1, hv1, h0⟩ := bnd h0
  refine rs rfl w0 rfl (c_call 5 (l_eqMonthS_c hv1) rfl rfl rfl) ?_
  refine rp rfl w0 rfl (pu_not rfl) ?_
  refine nx ?_
  refine aw_ifB h0 rfl (fun hc h0 => ?_) (fun hc h0 => ?_)
  refine sq [0] ?_
  refine pa ?_
  refine nx ?_
  refine aw_ret ?_
  refine then_r ?_
  cases h0
  exact ret0_ (rs := [.tmp 4]) rfl
  refine sk ?_
  refine aw_seq ?_
  refine sq [0,1,2,3,4,5] ?_
  refine fa tok ?_
  refine ld tok ?_
  refine fa tok ?_
  refine ld tok ?_
  obtain ⟨v2, hv2, h0⟩ := bnd h0
  refine rs rfl w0 rfl (c_call 5 (l_eqLeapRuleS_c hv2) rfl rfl rfl) ?_
  refine rp rfl w0 rfl (pu_not rfl) ?_
  refine nx ?_
  refine aw_ifB h0 rfl (fun hc h0 => ?_) (fun hc h0 => ?_)
  refine sq [0] ?_
  refine pa ?_
  refine nx ?_
  refine aw_ret ?_
  refine then_r ?_
  cases h0
  exact ret0_ (rs := [.tmp 4]) rfl
  refine sk ?_
  refine aw_seq ?_
  refine sq [0,1,2,3,4] ?_
  refine fa tok ?_
  refine ld tok ?_
  refine fa tok ?_
  refine ld tok ?_
  refine rp rfl w0 rfl (pu_neq rfl rfl) ?_
  refine nx ?_
  refine aw_if h0 rfl (fun hc h0 => ?_) (fun hc h0 => ?_)
  refine sq [0] ?_
  refine pa ?_
  refine nx ?_
  refine aw_ret ?_
  refine then_r ?_
  cases h0
  exact ret0_ (rs := [.tmp 4]) rfl
  refine sk ?_
  refine sq [0] ?_
  refine pa ?_
  refine nx ?_
  refine aw_ret ?_
  cases h0
  exact ret0_ (rs := [.tmp 4]) rfl

theorem l_eqMovement_c {p0 : Movement_} {p1 : Movement_} {r : Bool} (h0 : l_eqMovement_m p0 p1 = some r) : FnC Tryz.prog 15 [] [.agg [.d (.v (.string p0.Name)), .d (.sl (List.map cArbor_ p0.Works.Arbors)), .d (.sl (List.map cMesh_ p0.Works.Meshes)), .d (.v (.int .i64 p0.Minute)), .d (.v (.int .i64 p0.Hour)), .d (.v (.int .i64 p0.Escape)), .d (.v (.int .i64 p0.Teeth)), .d (.v (.int .i64 p0.Beats)), .d (.v (.string p0.Calendar.Name)), .d (.sl (List.map cMonth_ p0.Calendar.Months)), .d (.sl (List.map cLeapRule_ p0.Calendar.Rules)), .d (.v (.int .i64 p0.Calendar.Week)), .d (.sl (List.map cI p0.Cam)), .d (.v (.int .i64 p0.Strike))], .agg [.d (.v (.string p1.Name)), .d (.sl (List.map cArbor_ p1.Works.Arbors)), .d (.sl (List.map cMesh_ p1.Works.Meshes)), .d (.v (.int .i64 p1.Minute)), .d (.v (.int .i64 p1.Hour)), .d (.v (.int .i64 p1.Escape)), .d (.v (.int .i64 p1.Teeth)), .d (.v (.int .i64 p1.Beats)), .d (.v (.string p1.Calendar.Name)), .d (.sl (List.map cMonth_ p1.Calendar.Months)), .d (.sl (List.map cLeapRule_ p1.Calendar.Rules)), .d (.v (.int .i64 p1.Calendar.Week)), .d (.sl (List.map cI p1.Cam)), .d (.v (.int .i64 p1.Strike))]] [] (.d (.v (.bool r))) := by
  refine fnc_intro (T := tt) (N := 58) tok Tryz.func15 rfl rfl (by kernel_rfl) rfl rfl ?_
  unfold l_eqMovement_m at h0
  refine sq [0,1,2] ?_
  refine rs rfl w0 rfl (st_box 3 (cs := _ :: _) rfl rfl rfl) ?_
  refine rs rfl w0 rfl (st_box 4 (cs := _ :: _) rfl rfl rfl) ?_
  refine pa ?_
  refine nx ?_
  refine aw_seq ?_
  refine sq [0,1,2,3,4] ?_
  refine fa tok ?_
  refine ld tok ?_
  refine fa tok ?_
  refine ld tok ?_
  refine rp rfl w0 rfl (pu_sneq rfl rfl) ?_
  refine nx ?_
  refine aw_if h0 rfl (fun hc h0 => ?_) (fun hc h0 => ?_)
  refine sq [0] ?_
  refine pa ?_
  refine nx ?_
  refine aw_ret ?_
  refine then_r ?_
  cases h0
  exact ret0_ (rs := [.tmp 4]) rfl
  refine sk ?_
  refine aw_seq ?_
  refine sq [0,1,2,3,4,5] ?_
  refine fa tok ?_
  refine rl rfl w0 rfl (bx_ldN tok rfl rfl rfl rfl) ?_
  refine fa tok ?_
  refine rl rfl w0 rfl (bx_ldN tok rfl rfl rfl rfl) ?_
  obtain ⟨v1, hv1, h0⟩ := bnd h0
  refine rs rfl w0 rfl (c_call 5 (l_eqWorks_c hv1) rfl rfl rfl) ?_
  refine rp rfl w0 rfl (pu_not rfl) ?_
  refine nx ?_
  refine aw_ifB h0 rfl (fun hc h0 => ?_) (fun hc h0 => ?_)
  refine sq [0] ?_
  refine pa ?_
  refine nx ?_
  refine aw_ret ?_
  refine then_r ?_
  cases h0
  exact ret0_ (rs := [.tmp 4]) rfl
  refine sk ?_
  refine aw_seq ?_
  refine sq [0,1,2,3,4] ?_
  refine fa tok ?_
  refine ld tok ?_
  refine fa tok ?_
  refine ld tok ?_
  refine rp rfl w0 rfl (pu_neq rfl rfl) ?_
  refine nx ?_
  refine aw_if h0 rfl (fun hc h0 => ?_) (fun hc h0 => ?_)
  refine sq [0] ?_
  refine pa ?_
  refine nx ?_
  refine aw_ret ?_
  refine then_r ?_
  cases h0
  exact ret0_ (rs := [.tmp 4]) rfl
  refine sk ?_
  refine aw_seq ?_
  refine sq [0,1,2,3,4] ?_
  refine fa tok ?_
  refine ld tok ?_
  refine fa tok ?_
  refine ld tok ?_
  refine rp rfl w0 rfl (pu_neq rfl rfl) ?_
  refine nx ?_
  refine aw_if h0 rfl (fun hc h0 => ?_) (fun hc h0 => ?_)
  refine sq [0] ?_
  refine pa ?_
  refine nx ?_
  refine aw_ret ?_
  refine then_r ?_
  cases h0
  exact ret0_ (rs := [.tmp 4]) rfl
  refine sk ?_
  refine aw_seq ?_
  refine sq [0,1,2,3,4] ?_
  refine fa tok ?_
  refine ld tok ?_
  refine fa tok ?_
  refine ld tok ?_
  refine rp rfl w0 rfl (pu_neq rfl rfl) ?_
  refine nx ?_
  refine aw_if h0 rfl (fun hc h0 => ?_) (fun hc h0 => ?_)
  refine sq [0] ?_
  refine pa ?_
  refine nx ?_
  refine aw_ret ?_
  refine then_r ?_
  cases h0
  exact ret0_ (rs := [.tmp 4]) rfl
  refine sk ?_
  refine aw_seq ?_
  refine sq [0,1,2,3,4] ?_
  refine fa tok ?_
  refine ld tok ?_
  refine fa tok ?_
  refine ld tok ?_
  refine rp rfl w0 rfl (pu_neq rfl rfl) ?_
  refine nx ?_
  refine aw_if h0 rfl (fun hc h0 => ?_) (fun hc h0 => ?_)
  refine sq [0] ?_
  refine pa ?_
  refine nx ?_
  refine aw_ret ?_
  refine then_r ?_
  cases h0
  exact ret0_ (rs := [.tmp 4]) rfl
  refine sk ?_
  refine aw_seq ?_
  refine sq [0,1,2,3,4] ?_
  refine fa tok ?_
  refine ld tok ?_
  refine fa tok ?_
  refine ld tok ?_
  refine rp rfl w0 rfl (pu_neq rfl rfl) ?_
  refine nx ?_
  refine aw_if h0 rfl (fun hc h0 => ?_) (fun hc h0 => ?_)
  refine sq [0] ?_
  refine pa ?_
  refine nx ?_
  refine aw_ret ?_
  refine then_r ?_
  cases h0
  exact ret0_ (rs := [.tmp 4]) rfl
  refine sk ?_
  refine aw_seq ?_
  refine sq [0,1,2,3,4,5] ?_
  refine fa tok ?_
  refine rl rfl w0 rfl (bx_ldN tok rfl rfl rfl rfl) ?_
  refine fa tok ?_
  refine rl rfl w0 rfl (bx_ldN tok rfl rfl rfl rfl) ?_
  obtain ⟨v2, hv2, h0⟩ := bnd h0
  refine rs rfl w0 rfl (c_call 5 (l_eqCalendar_c hv2) rfl rfl rfl) ?_
  refine rp rfl w0 rfl (pu_not rfl) ?_
  refine nx ?_
  refine aw_ifB h0 rfl (fun hc h0 => ?_) (fun hc h0 => ?_)
  refine sq [0] ?_
  refine pa ?_
  refine nx ?_
  refine aw_ret ?_
  refine then_r ?_
  cases h0
  exact ret0_ (rs := [.tmp 4]) rfl
  refine sk ?_
  refine aw_seq ?_
  refine sq [0,1,2,3,4,5] ?_
  refine fa tok ?_
  refine ld tok ?_
  refine fa tok ?_
  refine ld tok ?_
  obtain ⟨v3, hv3, h0⟩ := bnd h0
  refine rs rfl w0 rfl (c_call 5 (l_eqInt64S_c hv3) rfl rfl rfl) ?_
  refine rp rfl w0 rfl (pu_not rfl) ?_
  refine nx ?_
  refine aw_ifB h0 rfl (fun hc h0 => ?_) (fun hc h0 => ?_)
  refine sq [0] ?_
  refine pa ?_
  refine nx ?_
  refine aw_ret ?_
  refine then_r ?_
  cases h0
  exact ret0_ (rs := [.tmp 4]) rfl
  refine sk ?_
  refine aw_seq ?_
  refine sq [0,1,2,3,4] ?_
  refine fa tok ?_
  refine ld tok ?_
  refine fa tok ?_
  refine ld tok ?_
  refine rp rfl w0 rfl (pu_neq rfl rfl) ?_
  refine nx ?_
  refine aw_if h0 rfl (fun hc h0 => ?_) (fun hc h0 => ?_)
  refine sq [0] ?_
  refine pa ?_
  refine nx ?_
  refine aw_ret ?_
  refine then_r ?_
  cases h0
  exact ret0_ (rs := [.tmp 4]) rfl
  refine sk ?_
  refine sq [0] ?_
  refine pa ?_
  refine nx ?_
  refine aw_ret ?_
  cases h0
  exact ret0_ (rs := [.tmp 4]) rfl

theorem l_eqDate_c {p0 : Date_} {p1 : Date_} {r : Bool} (h0 : l_eqDate_m p0 p1 = some r) : FnC Tryz.prog 34 [] [.agg [.d (.v (.int .i64 p0.Year)), .d (.v (.int .i64 p0.Month)), .d (.v (.int .i64 p0.Day))], .agg [.d (.v (.int .i64 p1.Year)), .d (.v (.int .i64 p1.Month)), .d (.v (.int .i64 p1.Day))]] [] (.d (.v (.bool r))) := by
  refine fnc_intro (T := tt) (N := 20) tok Tryz.func34 rfl rfl (by kernel_rfl) rfl rfl ?_
  unfold l_eqDate_m at h0
  refine sq [0,1,2] ?_
  refine rs rfl w0 rfl (st_box 3 (cs := _ :: _) rfl rfl rfl) ?_
  refine rs rfl w0 rfl (st_box 4 (cs := _ :: _) rfl rfl rfl) ?_
  refine pa ?_
  refine nx ?_
  refine aw_seq ?_
  refine sq [0,1,2,3,4] ?_
  refine fa tok ?_
  refine ld tok ?_
  refine fa tok ?_
  refine ld tok ?_
  refine rp rfl w0 rfl (pu_neq rfl rfl) ?_
  refine nx ?_
  refine aw_if h0 rfl (fun hc h0 => ?_) (fun hc h0 => ?_)
  refine sq [0] ?_
  refine pa ?_
  refine nx ?_
  refine aw_ret ?_
  refine then_r ?_
  cases h0
  exact ret0_ (rs := [.tmp 4]) rfl
  refine sk ?_
  refine aw_seq ?_
  refine sq [0,1,2,3,4] ?_
  refine fa tok ?_
  refine ld tok ?_
  refine fa tok ?_
  refine ld tok ?_
  refine rp rfl w0 rfl (pu_neq rfl rfl) ?_
  refine nx ?_
  refine aw_if h0 rfl (fun hc h0 => ?_) (fun hc h0 => ?_)
  refine sq [0] ?_
  refine pa ?_
  refine nx ?_
  refine aw_ret ?_
  refine then_r ?_
  cases h0
  exact ret0_ (rs := [.tmp 4]) rfl
  refine sk ?_
  refine aw_seq ?_
  refine sq [0,1,2,3,4] ?_
  refine fa tok ?_
  refine ld tok ?_
  refine fa tok ?_
  refine ld tok ?_
  refine rp rfl w0 rfl (pu_neq rfl rfl) ?_
  refine nx ?_
  refine aw_if h0 rfl (fun hc h0 => ?_) (fun hc h0 => ?_)
  refine sq [0] ?_
  refine pa ?_
  refine nx ?_
  refine aw_ret ?_
  refine then_r ?_
  cases h0
  exact ret0_ (rs := [.tmp 4]) rfl
  refine sk ?_
  refine sq [0] ?_
  refine pa ?_
  refine nx ?_
  refine aw_ret ?_
  cases h0
  exact ret0_ (rs := [.tmp 4]) rfl

theorem l_eqPerpetual_c {p0 : Perpetual_} {p1 : Perpetual_} {r : Bool} (h0 : l_eqPerpetual_m p0 p1 = some r) : FnC Tryz.prog 67 [] [.agg [.d (.sl (List.map cI p0.Cam)), .d (.v (.int .i64 p0.Months)), .d (.v (.int .i64 p0.Teeth)), .d (.v (.int .i64 p0.At)), .d (.v (.int .i64 p0.Day)), .d (.v (.int .i64 p0.Week)), .d (.v (.int .i64 p0.Weekday))], .agg [.d (.sl (List.map cI p1.Cam)), .d (.v (.int .i64 p1.Months)), .d (.v (.int .i64 p1.Teeth)), .d (.v (.int .i64 p1.At)), .d (.v (.int .i64 p1.Day)), .d (.v (.int .i64 p1.Week)), .d (.v (.int .i64 p1.Weekday))]] [] (.d (.v (.bool r))) := by
  refine fnc_intro (T := tt) (N := 41) tok Tryz.func67 rfl rfl (by kernel_rfl) rfl rfl ?_
  unfold l_eqPerpetual_m at h0
  refine sq [0,1,2] ?_
  refine rs rfl w0 rfl (st_box 3 (cs := _ :: _) rfl rfl rfl) ?_
  refine rs rfl w0 rfl (st_box 4 (cs := _ :: _) rfl rfl rfl) ?_
  refine pa ?_
  refine nx ?_
  refine aw_seq ?_
  refine sq [0,1,2,3,4,5] ?_
  refine fa tok ?_
  refine ld tok ?_
  refine fa tok ?_
  refine ld tok ?_
  obtain ⟨v1, hv1, h0⟩ := bnd h0
  refine rs rfl w0 rfl (c_call 5 (l_eqInt64S_c hv1) rfl rfl rfl) ?_
  refine rp rfl w0 rfl (pu_not rfl) ?_
  refine nx ?_
  refine aw_ifB h0 rfl (fun hc h0 => ?_) (fun hc h0 => ?_)
  refine sq [0] ?_
  refine pa ?_
  refine nx ?_
  refine aw_ret ?_
  refine then_r ?_
  cases h0
  exact ret0_ (rs := [.tmp 4]) rfl
  refine sk ?_
  refine aw_seq ?_
  refine sq [0,1,2,3,4] ?_
  refine fa tok ?_
  refine ld tok ?_
  refine fa tok ?_
  refine ld tok ?_
  refine rp rfl w0 rfl (pu_neq rfl rfl) ?_
  refine nx ?_
  refine aw_if h0 rfl (fun hc h0 => ?_) (fun hc h0 => ?_)
  refine sq [0] ?_
  refine pa ?_
  refine nx ?_
  refine aw_ret ?_
  refine then_r ?_
  cases h0
  exact ret0_ (rs := [.tmp 4]) rfl
  refine sk ?_
  refine aw_seq ?_
  refine sq [0,1,2,3,4] ?_
  refine fa tok ?_
  refine ld tok ?_
  refine fa tok ?_
  refine ld tok ?_
  refine rp rfl w0 rfl (pu_neq rfl rfl) ?_
  refine nx ?_
  refine aw_if h0 rfl (fun hc h0 => ?_) (fun hc h0 => ?_)
  refine sq [0] ?_
  refine pa ?_
  refine nx ?_
  refine aw_ret ?_
  refine then_r ?_
  cases h0
  exact ret0_ (rs := [.tmp 4]) rfl
  refine sk ?_
  refine aw_seq ?_
  refine sq [0,1,2,3,4] ?_
  refine fa tok ?_
  refine ld tok ?_
  refine fa tok ?_
  refine ld tok ?_
  refine rp rfl w0 rfl (pu_neq rfl rfl) ?_
  refine nx ?_
  refine aw_if h0 rfl (fun hc h0 => ?_) (fun hc h0 => ?_)
  refine sq [0] ?_
  refine pa ?_
  refine nx ?_
  refine aw_ret ?_
  refine then_r ?_
  cases h0
  exact ret0_ (rs := [.tmp 4]) rfl
  refine sk ?_
  refine aw_seq ?_
  refine sq [0,1,2,3,4] ?_
  refine fa tok ?_
  refine ld tok ?_
  refine fa tok ?_
  refine ld tok ?_
  refine rp rfl w0 rfl (pu_neq rfl rfl) ?_
  refine nx ?_
  refine aw_if h0 rfl (fun hc h0 => ?_) (fun hc h0 => ?_)
  refine sq [0] ?_
  refine pa ?_
  refine nx ?_
  refine aw_ret ?_
  refine then_r ?_
  cases h0
  exact ret0_ (rs := [.tmp 4]) rfl
  refine sk ?_
  refine aw_seq ?_
  refine sq [0,1,2,3,4] ?_
  refine fa tok ?_
  refine ld tok ?_
  refine fa tok ?_
  refine ld tok ?_
  refine rp rfl w0 rfl (pu_neq rfl rfl) ?_
  refine nx ?_
  refine aw_if h0 rfl (fun hc h0 => ?_) (fun hc h0 => ?_)
  refine sq [0] ?_
  refine pa ?_
  refine nx ?_
  refine aw_ret ?_
  refine then_r ?_
  cases h0
  exact ret0_ (rs := [.tmp 4]) rfl
  refine sk ?_
  refine aw_seq ?_
  refine sq [0,1,2,3,4] ?_
  refine fa tok ?_
  refine ld tok ?_
  refine fa tok ?_
  refine ld tok ?_
  refine rp rfl w0 rfl (pu_neq rfl rfl) ?_
  refine nx ?_
  refine aw_if h0 rfl (fun hc h0 => ?_) (fun hc h0 => ?_)
  refine sq [0] ?_
  refine pa ?_
  refine nx ?_
  refine aw_ret ?_
  refine then_r ?_
  cases h0
  exact ret0_ (rs := [.tmp 4]) rfl
  refine sk ?_
  refine sq [0] ?_
  refine pa ?_
  refine nx ?_
  refine aw_ret ?_
  cases h0
  exact ret0_ (rs := [.tmp 4]) rfl

theorem l_eqSim_c {p0 : Sim_} {p1 : Sim_} {r : Bool} (h0 : l_eqSim_m p0 p1 = some r) : FnC Tryz.prog 23 [] [.agg [.d (.v (.string p0.Movement.Name)), .d (.sl (List.map cArbor_ p0.Movement.Works.Arbors)), .d (.sl (List.map cMesh_ p0.Movement.Works.Meshes)), .d (.v (.int .i64 p0.Movement.Minute)), .d (.v (.int .i64 p0.Movement.Hour)), .d (.v (.int .i64 p0.Movement.Escape)), .d (.v (.int .i64 p0.Movement.Teeth)), .d (.v (.int .i64 p0.Movement.Beats)), .d (.v (.string p0.Movement.Calendar.Name)), .d (.sl (List.map cMonth_ p0.Movement.Calendar.Months)), .d (.sl (List.map cLeapRule_ p0.Movement.Calendar.Rules)), .d (.v (.int .i64 p0.Movement.Calendar.Week)), .d (.sl (List.map cI p0.Movement.Cam)), .d (.v (.int .i64 p0.Movement.Strike)), .d (.v (.int .i64 p0.Start.Year)), .d (.v (.int .i64 p0.Start.Month)), .d (.v (.int .i64 p0.Start.Day)), .d (.v (.int .i64 p0.First)), .d (.v (.int .i64 p0.Clock)), .d (.sl (List.map cI p0.Dial.Cam)), .d (.v (.int .i64 p0.Dial.Months)), .d (.v (.int .i64 p0.Dial.Teeth)), .d (.v (.int .i64 p0.Dial.At)), .d (.v (.int .i64 p0.Dial.Day)), .d (.v (.int .i64 p0.Dial.Week)), .d (.v (.int .i64 p0.Dial.Weekday))], .agg [.d (.v (.string p1.Movement.Name)), .d (.sl (List.map cArbor_ p1.Movement.Works.Arbors)), .d (.sl (List.map cMesh_ p1.Movement.Works.Meshes)), .d (.v (.int .i64 p1.Movement.Minute)), .d (.v (.int .i64 p1.Movement.Hour)), .d (.v (.int .i64 p1.Movement.Escape)), .d (.v (.int .i64 p1.Movement.Teeth)), .d (.v (.int .i64 p1.Movement.Beats)), .d (.v (.string p1.Movement.Calendar.Name)), .d (.sl (List.map cMonth_ p1.Movement.Calendar.Months)), .d (.sl (List.map cLeapRule_ p1.Movement.Calendar.Rules)), .d (.v (.int .i64 p1.Movement.Calendar.Week)), .d (.sl (List.map cI p1.Movement.Cam)), .d (.v (.int .i64 p1.Movement.Strike)), .d (.v (.int .i64 p1.Start.Year)), .d (.v (.int .i64 p1.Start.Month)), .d (.v (.int .i64 p1.Start.Day)), .d (.v (.int .i64 p1.First)), .d (.v (.int .i64 p1.Clock)), .d (.sl (List.map cI p1.Dial.Cam)), .d (.v (.int .i64 p1.Dial.Months)), .d (.v (.int .i64 p1.Dial.Teeth)), .d (.v (.int .i64 p1.Dial.At)), .d (.v (.int .i64 p1.Dial.Day)), .d (.v (.int .i64 p1.Dial.Week)), .d (.v (.int .i64 p1.Dial.Weekday))]] [] (.d (.v (.bool r))) := by
  refine fnc_intro (T := tt) (N := 33) tok Tryz.func23 rfl rfl (by kernel_rfl) rfl rfl ?_
  unfold l_eqSim_m at h0
  refine sq [0,1,2] ?_
  refine rs rfl w0 rfl (st_box 3 (cs := _ :: _) rfl rfl rfl) ?_
  refine rs rfl w0 rfl (st_box 4 (cs := _ :: _) rfl rfl rfl) ?_
  refine pa ?_
  refine nx ?_
  refine aw_seq ?_
  refine sq [0,1,2,3,4,5] ?_
  refine fa tok ?_
  refine rl rfl w0 rfl (bx_ldN tok rfl rfl rfl rfl) ?_
  refine fa tok ?_
  refine rl rfl w0 rfl (bx_ldN tok rfl rfl rfl rfl) ?_
  obtain ⟨v1, hv1, h0⟩ := bnd h0
  refine rs rfl w0 rfl (c_call 5 (l_eqMovement_c hv1) rfl rfl rfl) ?_
  refine rp rfl w0 rfl (pu_not rfl) ?_
  refine nx ?_
  refine aw_ifB h0 rfl (fun hc h0 => ?_) (fun hc h0 => ?_)
  refine sq [0] ?_
  refine pa ?_
  refine nx ?_
  refine aw_ret ?_
  refine then_r ?_
  cases h0
  exact ret0_ (rs := [.tmp 4]) rfl
  refine sk ?_
  refine aw_seq ?_
  refine sq [0,1,2,3,4,5] ?_
  refine fa tok ?_
  refine rl rfl w0 rfl (bx_ldN tok rfl rfl rfl rfl) ?_
  refine fa tok ?_
  refine rl rfl w0 rfl (bx_ldN tok rfl rfl rfl rfl) ?_
  obtain ⟨v2, hv2, h0⟩ := bnd h0
  refine rs rfl w0 rfl (c_call 5 (l_eqDate_c hv2) rfl rfl rfl) ?_
  refine rp rfl w0 rfl (pu_not rfl) ?_
  refine nx ?_
  refine aw_ifB h0 rfl (fun hc h0 => ?_) (fun hc h0 => ?_)
  refine sq [0] ?_
  refine pa ?_
  refine nx ?_
  refine aw_ret ?_
  refine then_r ?_
  cases h0
  exact ret0_ (rs := [.tmp 4]) rfl
  refine sk ?_
  refine aw_seq ?_
  refine sq [0,1,2,3,4] ?_
  refine fa tok ?_
  refine ld tok ?_
  refine fa tok ?_
  refine ld tok ?_
  refine rp rfl w0 rfl (pu_neq rfl rfl) ?_
  refine nx ?_
  refine aw_if h0 rfl (fun hc h0 => ?_) (fun hc h0 => ?_)
  refine sq [0] ?_
  refine pa ?_
  refine nx ?_
  refine aw_ret ?_
  refine then_r ?_
  cases h0
  exact ret0_ (rs := [.tmp 4]) rfl
  refine sk ?_
  refine aw_seq ?_
  refine sq [0,1,2,3,4] ?_
  refine fa tok ?_
  refine ld tok ?_
  refine fa tok ?_
  refine ld tok ?_
  refine rp rfl w0 rfl (pu_neq rfl rfl) ?_
  refine nx ?_
  refine aw_if h0 rfl (fun hc h0 => ?_) (fun hc h0 => ?_)
  refine sq [0] ?_
  refine pa ?_
  refine nx ?_
  refine aw_ret ?_
  refine then_r ?_
  cases h0
  exact ret0_ (rs := [.tmp 4]) rfl
  refine sk ?_
  refine aw_seq ?_
  refine sq [0,1,2,3,4,5] ?_
  refine fa tok ?_
  refine rl rfl w0 rfl (bx_ldN tok rfl rfl rfl rfl) ?_
  refine fa tok ?_
  refine rl rfl w0 rfl (bx_ldN tok rfl rfl rfl rfl) ?_
  obtain ⟨v3, hv3, h0⟩ := bnd h0
  refine rs rfl w0 rfl (c_call 5 (l_eqPerpetual_c hv3) rfl rfl rfl) ?_
  refine rp rfl w0 rfl (pu_not rfl) ?_
  refine nx ?_
  refine aw_ifB h0 rfl (fun hc h0 => ?_) (fun hc h0 => ?_)
  refine sq [0] ?_
  refine pa ?_
  refine nx ?_
  refine aw_ret ?_
  refine then_r ?_
  cases h0
  exact ret0_ (rs := [.tmp 4]) rfl
  refine sk ?_
  refine sq [0] ?_
  refine pa ?_
  refine nx ?_
  refine aw_ret ?_
  cases h0
  exact ret0_ (rs := [.tmp 4]) rfl

theorem l_FnExactHandsOf_c {p0 : Sim_} {r : Bool} (h0 : l_FnExactHandsOf_m p0 = some r) : FnC Tryz.prog 6 [] [.agg [.d (.v (.string p0.Movement.Name)), .d (.sl (List.map cArbor_ p0.Movement.Works.Arbors)), .d (.sl (List.map cMesh_ p0.Movement.Works.Meshes)), .d (.v (.int .i64 p0.Movement.Minute)), .d (.v (.int .i64 p0.Movement.Hour)), .d (.v (.int .i64 p0.Movement.Escape)), .d (.v (.int .i64 p0.Movement.Teeth)), .d (.v (.int .i64 p0.Movement.Beats)), .d (.v (.string p0.Movement.Calendar.Name)), .d (.sl (List.map cMonth_ p0.Movement.Calendar.Months)), .d (.sl (List.map cLeapRule_ p0.Movement.Calendar.Rules)), .d (.v (.int .i64 p0.Movement.Calendar.Week)), .d (.sl (List.map cI p0.Movement.Cam)), .d (.v (.int .i64 p0.Movement.Strike)), .d (.v (.int .i64 p0.Start.Year)), .d (.v (.int .i64 p0.Start.Month)), .d (.v (.int .i64 p0.Start.Day)), .d (.v (.int .i64 p0.First)), .d (.v (.int .i64 p0.Clock)), .d (.sl (List.map cI p0.Dial.Cam)), .d (.v (.int .i64 p0.Dial.Months)), .d (.v (.int .i64 p0.Dial.Teeth)), .d (.v (.int .i64 p0.Dial.At)), .d (.v (.int .i64 p0.Dial.Day)), .d (.v (.int .i64 p0.Dial.Week)), .d (.v (.int .i64 p0.Dial.Weekday))]] [] (.d (.v (.bool r))) := by
  refine fnc_intro (T := tt) (N := 51) tok Tryz.func6 rfl rfl (by kernel_rfl) rfl rfl ?_
  unfold l_FnExactHandsOf_m at h0
  refine sq [0,1] ?_
  refine rs rfl w0 rfl (st_box 3 (cs := _ :: _) rfl rfl rfl) ?_
  refine pa ?_
  refine nx ?_
  refine sq [0] ?_
  refine pa ?_
  refine nx ?_
  refine sq [0,1,2,3] ?_
  refine rl rfl w0 rfl (bx_ldN tok rfl rfl rfl rfl) ?_
  refine pm ?_
  obtain ⟨v1, hv1, h0⟩ := bnd h0
  refine rs rfl w0 rfl (c_call 4 (l_szSim_c hv1) rfl rfl rfl) ?_
  refine pa ?_
  refine nx ?_
  refine aw_seq ?_
  refine sq [0,1] ?_
  refine pm ?_
  refine rp rfl w0 rfl (pu_lss rfl rfl) ?_
  refine nx ?_
  refine aw_if h0 rfl (fun hc h0 => ?_) (fun hc h0 => ?_)
  refine sq [0] ?_
  refine pa ?_
  refine nx ?_
  refine aw_ret ?_
  refine then_r ?_
  cases h0
  exact ret0_ (rs := [.tmp 2]) rfl
  refine sk ?_
  refine sq [0,1,2,3,4,5,6,7,8,9,10,11] ?_
  refine rl rfl w0 rfl (bx_ldN tok rfl rfl rfl rfl) ?_
  obtain ⟨v2, hv2, h0⟩ := bnd h0
  refine rs rfl w0 rfl (c_call 4 (l_toSim_c hv2) rfl rfl rfl) ?_
  obtain ⟨v3, hv3, h0⟩ := bnd h0
  refine rs rfl w0 rfl (c_callV 10 (s_HandsOf_c hv3) rfl rfl) ?_
  refine rp rfl w0 rfl (pu_move (r := .tup _) rfl) ?_
  iterate 3 refine rp rfl w0 rfl (pu_extract rfl rfl) ?_
  refine rs rfl w0 rfl (st_alloc 10 (cs := [.d (.v (.int .i64 0)), .d (.v (.int .i64 0))]) tok rfl rfl rfl) ?_
  refine rs rfl w0 rfl (st_alloc 11 (cs := [.d (.v (.int .i64 0)), .d (.v (.int .i64 0))]) tok rfl rfl rfl) ?_
  refine rw0 rfl w0 (bx_st (cs := _ :: _) tok rfl rfl rfl rfl rfl rfl rfl) ?_
  refine rw0 rfl w0 (bx_st (cs := _ :: _) tok rfl rfl rfl rfl rfl rfl rfl) ?_
  refine pa ?_
  refine nx ?_
  refine sq [0,1,2,3] ?_
  refine rl rfl w0 rfl (bx_ldN tok rfl rfl rfl rfl) ?_
  obtain ⟨v4, hv4, h0⟩ := bnd h0
  refine rs rfl w0 rfl (c_call 12 (l_toSim_c hv4) rfl rfl rfl) ?_
  refine rs rfl w0 rfl (st_alloc 18 (cs := [.d (.v (.string (⟨#[]⟩ : ByteArray))), .d (.v (.slice none 0 0)), .d (.v (.slice none 0 0)), .d (.v (.int .i64 0)), .d (.v (.int .i64 0)), .d (.v (.int .i64 0)), .d (.v (.int .i64 0)), .d (.v (.int .i64 0)), .d (.v (.string (⟨#[]⟩ : ByteArray))), .d (.v (.slice none 0 0)), .d (.v (.slice none 0 0)), .d (.v (.int .i64 0)), .d (.v (.slice none 0 0)), .d (.v (.int .i64 0)), .d (.v (.int .i64 0)), .d (.v (.int .i64 0)), .d (.v (.int .i64 0)), .d (.v (.int .i64 0)), .d (.v (.int .i64 0)), .d (.v (.slice none 0 0)), .d (.v (.int .i64 0)), .d (.v (.int .i64 0)), .d (.v (.int .i64 0)), .d (.v (.int .i64 0)), .d (.v (.int .i64 0)), .d (.v (.int .i64 0))]) tok rfl rfl rfl) ?_
  refine rw0 rfl w0 (bx_st (cs := _ :: _) tok rfl rfl rfl rfl rfl rfl rfl) ?_
  refine nx ?_
  refine sq [0,1,2,3,4,5,6,7,8,9,10] ?_
  refine rl rfl w0 rfl (bx_ldN tok rfl rfl rfl rfl) ?_
  obtain ⟨v5, hv5, h0⟩ := bnd h0
  refine rs rfl w0 rfl (c_callV 19 (i_HandsOf_c hv5) rfl rfl) ?_
  refine rp rfl w0 rfl (pu_move (r := .tup _) rfl) ?_
  iterate 3 refine rp rfl w0 rfl (pu_extract rfl rfl) ?_
  refine rs rfl w0 rfl (st_alloc 19 (cs := [.d (.v (.int .i64 0)), .d (.v (.int .i64 0))]) tok rfl rfl rfl) ?_
  refine rs rfl w0 rfl (st_alloc 20 (cs := [.d (.v (.int .i64 0)), .d (.v (.int .i64 0))]) tok rfl rfl rfl) ?_
  refine rw0 rfl w0 (bx_st (cs := _ :: _) tok rfl rfl rfl rfl rfl rfl rfl) ?_
  refine rw0 rfl w0 (bx_st (cs := _ :: _) tok rfl rfl rfl rfl rfl rfl rfl) ?_
  refine pa ?_
  refine nx ?_
  refine aw_seq ?_
  obtain ⟨v8, h1, h0⟩ := bnd h0
  refine aw_cut ⟨updA (updA (updA ((fun _ => .dead)) 1 (.ptr 3 0 1 0 0)) 7 (.ptr 4 0 1 0 0)) 45 (.d (.v (.bool v8))), lks [.no, .no, .no, .live [⟨57, 26, .av [[.d (.v (.string p0.Movement.Name)), .d (.sl (List.map cArbor_ p0.Movement.Works.Arbors)), .d (.sl (List.map cMesh_ p0.Movement.Works.Meshes)), .d (.v (.int .i64 p0.Movement.Minute)), .d (.v (.int .i64 p0.Movement.Hour)), .d (.v (.int .i64 p0.Movement.Escape)), .d (.v (.int .i64 p0.Movement.Teeth)), .d (.v (.int .i64 p0.Movement.Beats)), .d (.v (.string p0.Movement.Calendar.Name)), .d (.sl (List.map cMonth_ p0.Movement.Calendar.Months)), .d (.sl (List.map cLeapRule_ p0.Movement.Calendar.Rules)), .d (.v (.int .i64 p0.Movement.Calendar.Week)), .d (.sl (List.map cI p0.Movement.Cam)), .d (.v (.int .i64 p0.Movement.Strike)), .d (.v (.int .i64 p0.Start.Year)), .d (.v (.int .i64 p0.Start.Month)), .d (.v (.int .i64 p0.Start.Day)), .d (.v (.int .i64 p0.First)), .d (.v (.int .i64 p0.Clock)), .d (.sl (List.map cI p0.Dial.Cam)), .d (.v (.int .i64 p0.Dial.Months)), .d (.v (.int .i64 p0.Dial.Teeth)), .d (.v (.int .i64 p0.Dial.At)), .d (.v (.int .i64 p0.Dial.Day)), .d (.v (.int .i64 p0.Dial.Week)), .d (.v (.int .i64 p0.Dial.Weekday))]]⟩], .live [⟨63, 26, .av [[.d (.v (.string v4.Movement.Name)), .own 5 0 (v4.Movement.Works.Arbors).length, .own 6 0 (v4.Movement.Works.Meshes).length, .d (.v (.int .i64 v4.Movement.Minute)), .d (.v (.int .i64 v4.Movement.Hour)), .d (.v (.int .i64 v4.Movement.Escape)), .d (.v (.int .i64 v4.Movement.Teeth)), .d (.v (.int .i64 v4.Movement.Beats)), .d (.v (.string v4.Movement.Calendar.Name)), .own 7 0 (v4.Movement.Calendar.Months).length, .own 8 0 (v4.Movement.Calendar.Rules).length, .d (.v (.int .i64 v4.Movement.Calendar.Week)), .own 9 0 (v4.Movement.Cam).length, .d (.v (.int .i64 v4.Movement.Strike)), .d (.v (.int .i64 v4.Start.Year)), .d (.v (.int .i64 v4.Start.Month)), .d (.v (.int .i64 v4.Start.Day)), .d (.v (.int .i64 v4.First)), .d (.v (.int .i64 v4.Clock)), .own 10 0 (v4.Dial.Cam).length, .d (.v (.int .i64 v4.Dial.Months)), .d (.v (.int .i64 v4.Dial.Teeth)), .d (.v (.int .i64 v4.Dial.At)), .d (.v (.int .i64 v4.Dial.Day)), .d (.v (.int .i64 v4.Dial.Week)), .d (.v (.int .i64 v4.Dial.Weekday))]]⟩], .live [⟨205, 2, .data (List.map cArbor_ v4.Movement.Works.Arbors)⟩], .live [⟨159, 4, .data (List.map cMesh_ v4.Movement.Works.Meshes)⟩], .live [⟨190, 3, .data (List.map cMonth_ v4.Movement.Calendar.Months)⟩], .live [⟨195, 3, .data (List.map cLeapRule_ v4.Movement.Calendar.Rules)⟩], .live [⟨2, 1, .data (List.map cI v4.Movement.Cam)⟩], .live [⟨2, 1, .data (List.map cI v4.Dial.Cam)⟩]]⟩ ?_ ?_
  refine sr [0,1,2,3,4,5,6,7,8,9,10,11,12,13,14] ?_
  refine rl rfl w0 rfl (bx_ldN tok rfl rfl rfl rfl) ?_
  refine rl rfl w0 rfl (bx_ldN tok rfl rfl rfl rfl) ?_
  obtain ⟨v6, hv6, h1⟩ := bnd h1
  refine rs rfl w0 rfl (c_call 21 (l_eqRatio_c hv6) rfl rfl rfl) ?_
  refine rp rfl w0 rfl (pu_not rfl) ?_
  refine pm ?_
  refine ra_ifB (u := 35) h1 rfl (fun hc h1 => ?_) (fun hc h1 => ?_)
  iterate 4 refine k1 ?_
  refine pkt ?_
  refine pm ?_
  iterate 3 refine k1 ?_
  refine pkt ?_
  refine nx ?_
  cases h1
  exact wk [0, 1, 2, 3, 18, 12, 13, 14, 15, 16, 17]
  refine rl rfl (w1 rfl rfl rfl) rfl (bx_ldN tok rfl rfl rfl rfl) ?_
  refine rl rfl (w1 rfl rfl rfl) rfl (bx_ldN tok rfl rfl rfl rfl) ?_
  obtain ⟨v7, hv7, h1⟩ := bnd h1
  refine rs rfl (w1 rfl rfl rfl) rfl (c_call 21 (l_eqRatio_c hv7) rfl rfl rfl) ?_
  refine rp rfl (w1 rfl rfl rfl) rfl (pu_not rfl) ?_
  refine pkf ?_
  refine pm ?_
  refine ra_ifB (u := 41) h1 rfl (fun hc h1 => ?_) (fun hc h1 => ?_)
  iterate 3 refine k1 ?_
  refine pkt ?_
  refine nx ?_
  cases h1
  exact wk [0, 1, 2, 3, 18, 12, 13, 14, 15, 16, 17]
  refine pm1 ?_
  refine pm1 ?_
  refine rp rfl (w1 rfl rfl rfl) rfl (pu_neq rfl rfl) ?_
  refine pkf ?_
  refine nx ?_
  cases h1
  exact wk [0, 1, 2, 3, 18, 12, 13, 14, 15, 16, 17]
  refine aw_ifB h0 rfl (fun hc h0 => ?_) (fun hc h0 => ?_)
  refine sq [0] ?_
  refine pa ?_
  refine nx ?_
  refine aw_ret ?_
  refine then_r ?_
  cases h0
  exact ret0_ (rs := [.tmp 2]) rfl
  refine sk ?_
  refine aw_seq ?_
  refine aw_seq ?_
  refine aw_region_draw (is := [0, 1, 2, 3, 4]) [0, 0, 2, 7, 15] follows (by kernel_rfl) ?_
  refine rt_lk rfl w0 rfl (bx_ldN tok rfl rfl rfl rfl) rfl rfl rfl ?_
  refine rt_lk rfl w0 rfl (bx_ldN tok rfl rfl rfl rfl) rfl rfl rfl ?_
  obtain ⟨v9, hv9, h0⟩ := bnd h0
  refine rt_c rfl w0 rfl (b_call 11 (l_toSim_c hv9) rfl rfl rfl) ?_
  obtain ⟨v10, hv10, h0⟩ := bnd h0
  refine rt_c rfl w0 rfl (b_callV 17 (l_eqSim_c hv10) rfl rfl) ?_
  refine rt_p rfl w0 rfl (pu_not rfl) ?_
  refine rt_nil ?_
  refine ⟨by kernel_rfl, ?_⟩
  refine then_n ?_
  refine aw_ifB h0 rfl (fun hc h0 => ?_) (fun hc h0 => ?_)
  refine sq [0] ?_
  refine pa ?_
  refine nx ?_
  refine aw_ret ?_
  refine then_r ?_
  cases h0
  exact ret0_ (rs := [.tmp 2]) rfl
  refine sk ?_
  refine sq [0] ?_
  refine pa ?_
  refine nx ?_
  refine aw_ret ?_
  cases h0
  exact ret0_ (rs := [.tmp 2]) rfl

end Go.Proofs.YtdchemiillekjaaGreat
