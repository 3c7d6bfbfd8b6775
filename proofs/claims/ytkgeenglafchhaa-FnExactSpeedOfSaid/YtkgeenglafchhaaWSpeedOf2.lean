/- walks -/
import Derived.Test.YtkgeenglafchhaaXM
import Derived.Test.YtkgeenglafchhaaTab
import Derived.Test.YtkgeenglafchhaaProg
import Derived.Test.YtkgeenglafchhaaWSpeedOf1
namespace Go.Proofs.Ytkgeenglafchhaa
open Go.RowKit
set_option linter.unusedVariables false
set_option maxRecDepth 100000
set_option maxHeartbeats 2000000
theorem s_l08Round_o_o_c {p0 : Works_} {p1 : List Bool} {p2 : List Ratio_} {r : Bool × Bool × List Bool × List Ratio_} (h0 : s_l08Round_o_o_m p0 p1 p2 = some r) : FnC Try.prog 179 [.live [⟨4, 1, .data (List.map cB p1)⟩], .live [⟨29, 2, .data (List.map cRatio_ p2)⟩]] [.ref (cWorks_ p0), .own 0 0 (p1).length, .own 1 0 (p2).length] [.live [⟨4, 1, .data (List.map cB r.2.2.1)⟩], .live [⟨29, 2, .data (List.map cRatio_ r.2.2.2)⟩]] (.tup [.d (.v (.bool r.1)), .d (.v (.bool r.2.1))]) := by
  refine fnc_intro (T := tt) (N := 92) tok Try.func179 rfl rfl (by kernel_rfl) rfl rfl ?_
  unfold s_l08Round_o_o_m at h0
  refine aw_seq ?_
  refine aw_regionA (is := [0, 1]) rfl ?_
  refine rp rfl w0 rfl (pu_assign (r := .d _) rfl) ?_
  refine rp rfl w0 rfl (pu_assign (r := .d _) rfl) ?_
  refine ra_nil ?_
  refine then_n ?_
  refine aw_seq ?_
  refine aw_regionA (is := [0]) rfl ?_
  refine rp rfl w0 rfl (pu_assign (r := .d _) rfl) ?_
  refine ra_nil ?_
  refine then_n ?_
  obtain ⟨v27x, h1, h0⟩ := bnd h0
  refine aw_cutE v27x (fun v27 => ⟨updA ((fun _ => .dead)) 8 (.d (.v (.bool v27.1))), lks [.live [⟨4, 1, .data (List.map cB v27.2.1)⟩], .live [⟨29, 2, .data (List.map cRatio_ v27.2.2)⟩], .no]⟩) ?_ ?_
  · skip
    refine aw_seq ?_
    refine aw_regionA (is := [0]) rfl ?_
    refine rp rfl w0 rfl (pu_assign (r := .d _) rfl) ?_
    refine ra_nil ?_
    refine then_n ?_
    refine aw_block ?_
    refine aw_loopM (fun s14 => ⟨updA (updA (updA (updA (updA ((fun _ => .dead)) 0 (.ref (cWorks_ p0))) 1 (.own 0 0 (s14.2.2.1).length)) 2 (.own 1 0 (s14.2.2.2).length)) 8 (.d (.v (.bool s14.1)))) 9 (.d (.v (.int .i64 s14.2.1))), lks [.live [⟨4, 1, .data (List.map cB s14.2.2.1)⟩], .live [⟨29, 2, .data (List.map cRatio_ s14.2.2.2)⟩], .no]⟩) h1 ?_ (fun s14 y h2 => ?_)
    · skip
      exact wk [0, 1, 2]
    · skip
      refine aw_seq ?_
      refine aw_seq ?_
      refine aw_regionA (is := [0, 1, 2, 3, 4, 5, 6]) rfl ?_
      refine rp rfl w0 rfl (pu_move (r := .d _) rfl) ?_
      refine rp rfl w0 rfl (pu_move (r := .ref _) rfl) ?_
      refine rp rfl w0 rfl (pu_nil_ref rfl) ?_
      refine rp rfl w0 rfl (pu_fieldAddr_ref tok rfl rfl rfl rfl rfl rfl (by repeat (first | exact Drp.z _ | apply Drp.d))) ?_
      refine rp rfl w0 rfl (pu_load_ref1 tok rfl rfl rfl rfl) ?_
      refine rp rfl w0 rfl (pu_len_map tok rfl rfl rfl) ?_
      refine rp rfl w0 rfl (pu_lss rfl rfl) ?_
      refine ra_nil ?_
      refine then_n ?_
      refine aw_if h2 rfl (fun hc h2 => ?_) (fun hc h2 => ?_)
      · skip
        refine aw_skip ?_
        refine then_n ?_
        obtain ⟨v26x, h3, h2⟩ := bnd h2
        refine aw_cutE v26x (fun v26 => ⟨updA (updA (updA (updA (updA ((fun _ => .dead)) 0 (.ref (cWorks_ p0))) 1 (.own 0 0 (v26.2.1).length)) 2 (.own 1 0 (v26.2.2).length)) 8 (.d (.v (.bool v26.1)))) 9 (.d (.v (.int .i64 s14.2.1))), lks [.live [⟨4, 1, .data (List.map cB v26.2.1)⟩], .live [⟨29, 2, .data (List.map cRatio_ v26.2.2)⟩], .no]⟩) ?_ ?_
        · skip
          refine aw_block ?_
          refine aw_seq ?_
          refine aw_regionA (is := [0, 1, 2, 3, 4, 5, 6, 7, 8]) rfl ?_
          refine rp rfl w0 rfl (pu_move (r := .ref _) rfl) ?_
          refine rp rfl w0 rfl (pu_nil_ref rfl) ?_
          refine rp rfl w0 rfl (pu_fieldAddr_ref tok rfl rfl rfl rfl rfl rfl (by repeat (first | exact Drp.z _ | apply Drp.d))) ?_
          refine rp rfl w0 rfl (pu_load_ref1 tok rfl rfl rfl rfl) ?_
          refine rp rfl w0 rfl (pu_move (r := .d _) rfl) ?_
          obtain ⟨v15, hv15, h3⟩ := bnd h3
          refine rp rfl w0 rfl (sl_ix tok hv15 rfl rfl rfl rfl rfl rfl) ?_
          refine rp rfl w0 rfl (pu_load_refN tok rfl rfl rfl (by repeat (first | exact SegD.z _ | apply SegD.t))) ?_
          refine rs rfl w0 rfl (st_alloc 3 (cs := [.d (.v (.int .i64 0)), .d (.v (.int .i64 0)), .d (.v (.int .i64 0)), .d (.v (.int .i64 0))]) tok rfl rfl rfl) ?_
          refine rw0 rfl w0 (bx_st (cs := _ :: _) tok rfl rfl rfl rfl rfl rfl rfl) ?_
          refine ra_nil ?_
          refine then_n ?_
          refine aw_seq ?_
          refine aw_regionA (is := [0, 1, 2, 3, 4]) rfl ?_
          refine rp rfl w0 rfl (pu_move (r := .ref _) rfl) ?_
          refine rl rfl w0 rfl (bx_ldN tok rfl rfl rfl rfl) ?_
          obtain ⟨v16, hv16, h3⟩ := bnd h3
          refine rs rfl w0 rfl (c_call 4 (s_l08Pair_c hv16) rfl rfl rfl) ?_
          refine rs rfl w0 rfl (st_alloc 4 (cs := [.d (.v (.int .i64 0)), .d (.v (.int .i64 0))]) tok rfl rfl rfl) ?_
          refine rw0 rfl w0 (bx_st (cs := _ :: _) tok rfl rfl rfl rfl rfl rfl rfl) ?_
          refine ra_nil ?_
          refine then_n ?_
          refine aw_seq ?_
          refine aw_seq ?_
          refine aw_region_draw (is := [0, 1, 2, 3, 4, 5, 6, 7, 8, 9, 10]) [0, 0, 2, 7, 15, 0, 0, 64, 224, 480, 1023] follows (by kernel_rfl) ?_
          refine rt_p rfl w0 rfl (pu_move (r := .own _ _ _) rfl) ?_
          refine rt_lk rfl w0 rfl (bx_fa tok rfl rfl rfl rfl rfl rfl rfl) rfl rfl rfl ?_
          refine rt_lk rfl w0 rfl (bx_ld1 tok rfl rfl rfl rfl rfl) rfl rfl rfl ?_
          obtain ⟨v17, hv17, h3⟩ := bnd h3
          refine rt_lk rfl w0 rfl (ow_ix tok hv17 rfl rfl rfl rfl rfl rfl rfl rfl) rfl rfl rfl ?_
          refine rt_lk rfl w0 rfl (rw_ld1 tok (atI_e hv17).2.1 rfl rfl rfl rfl rfl rfl) rfl rfl rfl ?_
          refine rt_p rfl w0 rfl (pu_move (r := .own _ _ _) rfl) ?_
          refine rt_lk rfl w0 rfl (bx_fa tok rfl rfl rfl rfl rfl rfl rfl) rfl rfl rfl ?_
          refine rt_lk rfl w0 rfl (bx_ld1 tok rfl rfl rfl rfl rfl) rfl rfl rfl ?_
          obtain ⟨v18, hv18, h3⟩ := bnd h3
          refine rt_lk rfl w0 rfl (ow_ix tok hv18 rfl rfl rfl rfl rfl rfl rfl rfl) rfl rfl rfl ?_
          refine rt_lk rfl w0 rfl (rw_ld1 tok (atI_e hv18).2.1 rfl rfl rfl rfl rfl rfl) rfl rfl rfl ?_
          refine rt_p rfl w0 rfl (pu_beql tok rfl rfl rfl rfl) ?_
          refine rt_nil ?_
          refine ⟨by kernel_rfl, ?_⟩
          refine then_n ?_
          refine aw_ifB h3 rfl (fun hc h3 => ?_) (fun hc h3 => ?_)
          · skip
            refine aw_exit ?_
            refine then_e ?_
            refine block_hit ?_
            refine then_n ?_
            cases h3
            refine ⟨_, rfl, ?_⟩
            exact wk [0, 1, 2]
          · skip
            refine aw_skip ?_
            refine then_n ?_
            obtain ⟨v20, h4, h3⟩ := bnd h3
            refine aw_cut ⟨updA (updA (updA (updA (updA (updA ((fun _ => .dead)) 0 (.ref (cWorks_ p0))) 1 (.own 0 0 (s14.2.2.1).length)) 2 (.own 1 0 (s14.2.2.2).length)) 9 (.d (.v (.int .i64 s14.2.1)))) 10 (.ptr 3 0 1 0 0)) 11 (.ptr 4 0 1 0 0), lks [.live [⟨4, 1, .data (List.map cB s14.2.2.1)⟩], .live [⟨29, 2, .data (List.map cRatio_ s14.2.2.2)⟩], .no, .live [⟨168, 4, .av [[.d (.v (.int .i64 v20.1.A)), .d (.v (.int .i64 v20.1.WheelA)), .d (.v (.int .i64 v20.1.B)), .d (.v (.int .i64 v20.1.WheelB))]]⟩], .live [⟨199, 2, .av [[.d (.v (.int .i64 v20.2.Driver)), .d (.v (.int .i64 v20.2.Driven))]]⟩]]⟩ ?_ ?_
            · skip
              refine aw_seq ?_
              refine aw_regionA (is := [0, 1, 2, 3, 4]) rfl ?_
              refine rp rfl w0 rfl (pu_move (r := .own _ _ _) rfl) ?_
              refine rl rfl w0 rfl (bx_fa tok rfl rfl rfl rfl rfl rfl rfl) ?_
              refine rl rfl w0 rfl (bx_ld1 tok rfl rfl rfl rfl rfl) ?_
              obtain ⟨v19, hv19, h4⟩ := bnd h4
              refine rl rfl w0 rfl (ow_ix tok hv19 rfl rfl rfl rfl rfl rfl rfl rfl) ?_
              refine rl rfl w0 rfl (rw_ld1 tok (atI_e hv19).2.1 rfl rfl rfl rfl rfl rfl) ?_
              refine ra_nil ?_
              refine then_n ?_
              refine aw_ifB h4 rfl (fun hc h4 => ?_) (fun hc h4 => ?_)
              · skip
                refine aw_seq ?_
                refine aw_regionA (is := [0, 1, 2, 3, 4, 5]) rfl ?_
                refine rl rfl w0 rfl (bx_fa tok rfl rfl rfl rfl rfl rfl rfl) ?_
                refine rl rfl w0 rfl (bx_ld1 tok rfl rfl rfl rfl rfl) ?_
                refine rl rfl w0 rfl (bx_fa tok rfl rfl rfl rfl rfl rfl rfl) ?_
                refine rl rfl w0 rfl (bx_ld1 tok rfl rfl rfl rfl rfl) ?_
                refine rp rfl w0 rfl (pu_build (C0 := [.d (.v (.int .i64 0)), .d (.v (.int .i64 0)), .d (.v (.int .i64 0)), .d (.v (.int .i64 0))]) tok rfl rfl (by repeat (first | exact Plc.nil | apply Plc.cons rfl)) rfl (by repeat (first | exact Bld.nil _ | apply Bld.cons (cs := [.d _]) rfl rfl rfl rfl (by repeat (first | exact Spl.z _ | apply Spl.t | apply Spl.d)) | apply Bld.cons (cs := [.own _ _ _]) rfl rfl rfl rfl (by repeat (first | exact Spl.z _ | apply Spl.t | apply Spl.d)) | apply Bld.cons (cs := [.ptr _ _ _ _ _]) rfl rfl rfl rfl (by repeat (first | exact Spl.z _ | apply Spl.t | apply Spl.d)) | apply Bld.cons (cs := [.fn _ _]) rfl rfl rfl rfl (by repeat (first | exact Spl.z _ | apply Spl.t | apply Spl.d)) | apply Bld.cons (cs := _ :: _) rfl rfl rfl rfl (by repeat (first | exact Spl.z _ | apply Spl.t | apply Spl.d))))) ?_
                refine rw0 rfl w0 (bx_st (cs := _ :: _) tok rfl rfl rfl rfl rfl rfl rfl) ?_
                refine ra_nil ?_
                refine then_n ?_
                refine aw_regionA (is := [0, 1, 2, 3, 4, 5]) rfl ?_
                refine rl rfl w0 rfl (bx_fa tok rfl rfl rfl rfl rfl rfl rfl) ?_
                refine rl rfl w0 rfl (bx_ld1 tok rfl rfl rfl rfl rfl) ?_
                refine rl rfl w0 rfl (bx_fa tok rfl rfl rfl rfl rfl rfl rfl) ?_
                refine rl rfl w0 rfl (bx_ld1 tok rfl rfl rfl rfl rfl) ?_
                refine rp rfl w0 rfl (pu_build (C0 := [.d (.v (.int .i64 0)), .d (.v (.int .i64 0))]) tok rfl rfl (by repeat (first | exact Plc.nil | apply Plc.cons rfl)) rfl (by repeat (first | exact Bld.nil _ | apply Bld.cons (cs := [.d _]) rfl rfl rfl rfl (by repeat (first | exact Spl.z _ | apply Spl.t | apply Spl.d)) | apply Bld.cons (cs := [.own _ _ _]) rfl rfl rfl rfl (by repeat (first | exact Spl.z _ | apply Spl.t | apply Spl.d)) | apply Bld.cons (cs := [.ptr _ _ _ _ _]) rfl rfl rfl rfl (by repeat (first | exact Spl.z _ | apply Spl.t | apply Spl.d)) | apply Bld.cons (cs := [.fn _ _]) rfl rfl rfl rfl (by repeat (first | exact Spl.z _ | apply Spl.t | apply Spl.d)) | apply Bld.cons (cs := _ :: _) rfl rfl rfl rfl (by repeat (first | exact Spl.z _ | apply Spl.t | apply Spl.d))))) ?_
                refine rw0 rfl w0 (bx_st (cs := _ :: _) tok rfl rfl rfl rfl rfl rfl rfl) ?_
                refine ra_nil ?_
                refine then_n ?_
                cases h4
                exact wk [0, 1, 2, 3, 4]
              · skip
                refine aw_skip ?_
                refine then_n ?_
                cases h4
                exact wk [0, 1, 2, 3, 4]
            · skip
              refine aw_seq ?_
              refine aw_regionA (is := [0, 1, 2, 3, 4, 5, 6, 7, 8, 9, 10, 11]) rfl ?_
              refine rl rfl w0 rfl (bx_fa tok rfl rfl rfl rfl rfl rfl rfl) ?_
              refine rl rfl w0 rfl (bx_ld1 tok rfl rfl rfl rfl rfl) ?_
              refine rp rfl w0 rfl (pw_neg rfl) ?_
              refine rl rfl w0 rfl (bx_fa tok rfl rfl rfl rfl rfl rfl rfl) ?_
              refine rl rfl w0 rfl (bx_ld1 tok rfl rfl rfl rfl rfl) ?_
              obtain ⟨v21, hv21, h3⟩ := bnd h3
              refine rs rfl w0 rfl (c_call 5 (s_l02Make_c hv21) rfl rfl rfl) ?_
              refine rp rfl w0 rfl (pu_move (r := .tup _) rfl) ?_
              refine rp rfl w0 rfl (pu_extract rfl rfl) ?_
              refine rp rfl w0 rfl (pu_extract rfl rfl) ?_
              refine rs rfl w0 rfl (st_alloc 5 (cs := [.d (.v (.int .i64 0)), .d (.v (.int .i64 0))]) tok rfl rfl rfl) ?_
              refine rw0 rfl w0 (bx_st (cs := _ :: _) tok rfl rfl rfl rfl rfl rfl rfl) ?_
              refine rp rfl w0 rfl (pu_assign (r := .d _) rfl) ?_
              refine ra_nil ?_
              refine then_n ?_
              refine aw_seq ?_
              refine aw_region_draw (is := [0, 1, 2, 3, 4, 5, 6, 7, 8, 9, 10, 11, 12]) [0, 0, 2, 7, 15, 0, 63, 127, 255, 255, 0, 1535, 4095] follows (by kernel_rfl) ?_
              refine rt_p rfl w0 rfl (pu_move (r := .own _ _ _) rfl) ?_
              refine rt_lk rfl w0 rfl (bx_fa tok rfl rfl rfl rfl rfl rfl rfl) rfl rfl rfl ?_
              refine rt_lk rfl w0 rfl (bx_ld1 tok rfl rfl rfl rfl rfl) rfl rfl rfl ?_
              obtain ⟨v22, hv22, h3⟩ := bnd h3
              refine rt_lk rfl w0 rfl (ow_ix tok hv22 rfl rfl rfl rfl rfl rfl rfl rfl) rfl rfl rfl ?_
              refine rt_lk rfl w0 rfl (rw_ldN tok (atI_e hv22).2.1 rfl rfl rfl rfl rfl) rfl rfl rfl ?_
              refine rt_lk rfl w0 rfl (bx_ldN tok rfl rfl rfl rfl) rfl rfl rfl ?_
              obtain ⟨v23, hv23, h3⟩ := bnd h3
              refine rt_c rfl w0 rfl (b_call 7 (s_l02Mul_c hv23) rfl rfl rfl) ?_
              refine rt_p rfl w0 rfl (pu_move (r := .tup _) rfl) ?_
              refine rt_p rfl w0 rfl (pu_extract rfl rfl) ?_
              refine rt_p rfl w0 rfl (pu_extract rfl rfl) ?_
              refine rt_a rfl w0 rfl rfl (fun hx hk => st_alloc 6 (cs := [.d (.v (.int .i64 0)), .d (.v (.int .i64 0))]) tok rfl rfl hk) ?_
              refine rt_wk rfl w0 (bx_st (cs := _ :: _) tok rfl rfl rfl rfl rfl rfl rfl) ?_
              refine rt_p rfl w0 rfl (pu_assign (r := .d _) rfl) ?_
              refine rt_nil ?_
              refine ⟨by kernel_rfl, ?_⟩
              refine then_n ?_
              refine aw_seq ?_
              refine aw_seq ?_
              refine aw_regionA (is := [0, 1]) rfl ?_
              refine rp rfl w0 rfl (pu_move (r := .d _) rfl) ?_
              refine rp rfl w0 rfl (pu_not rfl) ?_
              refine ra_nil ?_
              refine then_n ?_
              refine aw_ifB h3 rfl (fun hc h3 => ?_) (fun hc h3 => ?_)
              · skip
                refine aw_seq ?_
                refine aw_regionA (is := [0, 1]) rfl ?_
                refine rp rfl w0 rfl (pu_assign (r := .d _) rfl) ?_
                refine rp rfl w0 rfl (pu_assign (r := .d _) rfl) ?_
                refine ra_nil ?_
                refine then_n ?_
                refine aw_ret ?_
                refine then_r ?_
                refine block_r ?_
                cases h3
                replace h2 := orE_s h2
                refine then_r ?_
                cases h2
                refine loop_r ⟨_, rfl, fun e => ?_⟩
                subst e
                refine block_r ?_
                replace h0 := orE_s h0
                refine then_r ?_
                cases h0
                exact retP_ (rs := [.tmp 6, .tmp 7]) 2 rfl rfl
              · skip
                refine aw_skip ?_
                refine then_n ?_
                refine aw_seq ?_
                refine aw_regionA (is := [0, 1, 2, 3, 4, 5]) rfl ?_
                refine rp rfl w0 rfl (pu_move (r := .own _ _ _) rfl) ?_
                refine rl rfl w0 rfl (bx_fa tok rfl rfl rfl rfl rfl rfl rfl) ?_
                refine rl rfl w0 rfl (bx_ld1 tok rfl rfl rfl rfl rfl) ?_
                refine rl rfl w0 rfl (bx_ldN tok rfl rfl rfl rfl) ?_
                obtain ⟨v24, hv24, h3⟩ := bnd h3
                refine rl rfl w0 rfl (ow_ix tok hv24 rfl rfl rfl rfl rfl rfl rfl rfl) ?_
                refine rw0 rfl w0 (rw_st (cs := _ :: _) tok v23.1 (atI_e hv24).2.1 rfl rfl rfl rfl rfl rfl rfl rfl) ?_
                refine ra_nil ?_
                refine then_n ?_
                refine aw_seq ?_
                refine aw_regionA (is := [0, 1, 2, 3, 4]) rfl ?_
                refine rp rfl w0 rfl (pu_move (r := .own _ _ _) rfl) ?_
                refine rl rfl w0 rfl (bx_fa tok rfl rfl rfl rfl rfl rfl rfl) ?_
                refine rl rfl w0 rfl (bx_ld1 tok rfl rfl rfl rfl rfl) ?_
                obtain ⟨v25, hv25, h3⟩ := bnd h3
                refine rl rfl w0 rfl (ow_ix tok hv25 rfl rfl rfl rfl rfl rfl rfl rfl) ?_
                refine rw0 rfl w0 (rw_st (cs := [.d _]) tok true (atI_e hv25).2.1 rfl rfl rfl rfl rfl rfl rfl rfl) ?_
                refine ra_nil ?_
                refine then_n ?_
                refine aw_regionA (is := [0]) rfl ?_
                refine rp rfl w0 rfl (pu_assign (r := .d _) rfl) ?_
                refine ra_nil ?_
                refine block_n ?_
                refine then_n ?_
                cases h3
                refine ⟨_, rfl, ?_⟩
                exact wk [0, 1, 2]
        · skip
          rintro v26 rfl
          replace h2 := orE_f h2
          refine aw_regionA (is := [0, 1, 2]) rfl ?_
          refine rp rfl w0 rfl (pu_move (r := .d _) rfl) ?_
          refine rp rfl w0 rfl (pw_add rfl rfl) ?_
          refine rp rfl w0 rfl (pu_assign (r := .d _) rfl) ?_
          refine ra_nil ?_
          refine loop_n ?_
          cases h2
          refine ⟨_, rfl, ?_⟩
          exact wk [0, 1, 2]
      · skip
        refine aw_exit ?_
        refine then_e ?_
        cases h2
        refine loop_x ⟨_, rfl, fun e => ?_⟩
        subst e
        refine block_hit ?_
        refine then_n ?_
        refine ⟨_, rfl, ?_⟩
        exact wk [0, 1, 2]
  · skip
    rintro v27 rfl
    replace h0 := orE_f h0
    refine aw_seq ?_
    refine aw_regionA (is := [0, 1, 2]) rfl ?_
    refine rp rfl w0 rfl (pu_move (r := .d _) rfl) ?_
    refine rp rfl w0 rfl (pu_assign (r := .d _) rfl) ?_
    refine rp rfl w0 rfl (pu_assign (r := .d _) rfl) ?_
    refine ra_nil ?_
    refine then_n ?_
    refine aw_ret ?_
    cases h0
    exact retP_ (rs := [.tmp 6, .tmp 7]) 2 rfl rfl

theorem s_l08Fits_c {p0 : Works_} {p1 : Mesh_} {p2 : List Ratio_} {r : Bool} (h0 : s_l08Fits_m p0 p1 p2 = some r) : FnC Try.prog 180 [] [.ref (cWorks_ p0), .agg [.d (.v (.int .i64 p1.A)), .d (.v (.int .i64 p1.WheelA)), .d (.v (.int .i64 p1.B)), .d (.v (.int .i64 p1.WheelB))], .d (.sl (List.map cRatio_ p2))] [] (.d (.v (.bool r))) := by
  refine fnc_intro (T := tt) (N := 44) tok Try.func180 rfl rfl (by kernel_rfl) rfl rfl ?_
  unfold s_l08Fits_m at h0
  refine aw_seq ?_
  refine aw_regionA (is := [0, 1]) rfl ?_
  refine rs rfl w0 rfl (st_box 3 (cs := _ :: _) rfl rfl rfl) ?_
  refine rp rfl w0 rfl (pu_assign (r := .d _) rfl) ?_
  refine ra_nil ?_
  refine then_n ?_
  refine aw_seq ?_
  refine aw_regionA (is := [0, 1, 2, 3, 4]) rfl ?_
  refine rp rfl w0 rfl (pu_move (r := .ref _) rfl) ?_
  refine rl rfl w0 rfl (bx_ldN tok rfl rfl rfl rfl) ?_
  obtain ⟨v1, hv1, h0⟩ := bnd h0
  refine rs rfl w0 rfl (c_call 4 (s_l08Pair_c hv1) rfl rfl rfl) ?_
  refine rs rfl w0 rfl (st_alloc 4 (cs := [.d (.v (.int .i64 0)), .d (.v (.int .i64 0))]) tok rfl rfl rfl) ?_
  refine rw0 rfl w0 (bx_st (cs := _ :: _) tok rfl rfl rfl rfl rfl rfl rfl) ?_
  refine ra_nil ?_
  refine then_n ?_
  refine aw_seq ?_
  refine aw_regionA (is := [0, 1, 2, 3, 4, 5, 6, 7, 8, 9, 10, 11]) rfl ?_
  refine rl rfl w0 rfl (bx_fa tok rfl rfl rfl rfl rfl rfl rfl) ?_
  refine rl rfl w0 rfl (bx_ld1 tok rfl rfl rfl rfl rfl) ?_
  refine rp rfl w0 rfl (pw_neg rfl) ?_
  refine rl rfl w0 rfl (bx_fa tok rfl rfl rfl rfl rfl rfl rfl) ?_
  refine rl rfl w0 rfl (bx_ld1 tok rfl rfl rfl rfl rfl) ?_
  obtain ⟨v2, hv2, h0⟩ := bnd h0
  refine rs rfl w0 rfl (c_call 5 (s_l02Make_c hv2) rfl rfl rfl) ?_
  refine rp rfl w0 rfl (pu_move (r := .tup _) rfl) ?_
  refine rp rfl w0 rfl (pu_extract rfl rfl) ?_
  refine rp rfl w0 rfl (pu_extract rfl rfl) ?_
  refine rs rfl w0 rfl (st_alloc 5 (cs := [.d (.v (.int .i64 0)), .d (.v (.int .i64 0))]) tok rfl rfl rfl) ?_
  refine rw0 rfl w0 (bx_st (cs := _ :: _) tok rfl rfl rfl rfl rfl rfl rfl) ?_
  refine rp rfl w0 rfl (pu_assign (r := .d _) rfl) ?_
  refine ra_nil ?_
  refine then_n ?_
  refine aw_seq ?_
  refine aw_region_draw (is := [0, 1, 2, 3, 4, 5, 6, 7, 8, 9, 10, 11, 12]) [0, 0, 2, 7, 15, 0, 63, 127, 255, 255, 0, 1535, 4095] follows (by kernel_rfl) ?_
  refine rt_p rfl w0 rfl (pu_move (r := .d _) rfl) ?_
  refine rt_lk rfl w0 rfl (bx_fa tok rfl rfl rfl rfl rfl rfl rfl) rfl rfl rfl ?_
  refine rt_lk rfl w0 rfl (bx_ld1 tok rfl rfl rfl rfl rfl) rfl rfl rfl ?_
  obtain ⟨v3, hv3, h0⟩ := bnd h0
  refine rt_p rfl w0 rfl (sl_ix tok hv3 rfl rfl rfl rfl rfl rfl) ?_
  refine rt_p rfl w0 rfl (pu_load_refN tok rfl rfl rfl (by repeat (first | exact SegD.z _ | apply SegD.t))) ?_
  refine rt_lk rfl w0 rfl (bx_ldN tok rfl rfl rfl rfl) rfl rfl rfl ?_
  obtain ⟨v4, hv4, h0⟩ := bnd h0
  refine rt_c rfl w0 rfl (b_call 7 (s_l02Mul_c hv4) rfl rfl rfl) ?_
  refine rt_p rfl w0 rfl (pu_move (r := .tup _) rfl) ?_
  refine rt_p rfl w0 rfl (pu_extract rfl rfl) ?_
  refine rt_p rfl w0 rfl (pu_extract rfl rfl) ?_
  refine rt_a rfl w0 rfl rfl (fun hx hk => st_alloc 6 (cs := [.d (.v (.int .i64 0)), .d (.v (.int .i64 0))]) tok rfl rfl hk) ?_
  refine rt_wk rfl w0 (bx_st (cs := _ :: _) tok rfl rfl rfl rfl rfl rfl rfl) ?_
  refine rt_p rfl w0 rfl (pu_assign (r := .d _) rfl) ?_
  refine rt_nil ?_
  refine ⟨by kernel_rfl, ?_⟩
  refine then_n ?_
  refine aw_seq ?_
  refine aw_region_draw (is := [0, 1, 2, 3, 4, 5, 6, 7, 8, 9, 10]) [0, 1, 3, 3, 3, 19, 59, 123, 255, 511, 1023] follows (by kernel_rfl) ?_
  refine rt_p rfl w0 rfl (pu_move (r := .d _) rfl) ?_
  refine rt_p rfl w0 rfl (pu_move (r := .d _) rfl) ?_
  refine rt_ifB (u := 35) h0 rfl (fun hc h0 => ?_) (fun hc h0 => ?_)
  · skip
    refine rt_lk rfl (w1 rfl rfl rfl) rfl (bx_ldN tok rfl rfl rfl rfl) rfl rfl rfl ?_
    refine rt_p rfl (w1 rfl rfl rfl) rfl (pu_move (r := .d _) rfl) ?_
    refine rt_lk rfl (w1 rfl rfl rfl) rfl (bx_fa tok rfl rfl rfl rfl rfl rfl rfl) rfl rfl rfl ?_
    refine rt_lk rfl (w1 rfl rfl rfl) rfl (bx_ld1 tok rfl rfl rfl rfl rfl) rfl rfl rfl ?_
    obtain ⟨v5, hv5, h0⟩ := bnd h0
    refine rt_p rfl (w1 rfl rfl rfl) rfl (sl_ix tok hv5 rfl rfl rfl rfl rfl rfl) ?_
    refine rt_p rfl (w1 rfl rfl rfl) rfl (pu_load_refN tok rfl rfl rfl (by repeat (first | exact SegD.z _ | apply SegD.t))) ?_
    refine rt_p rfl (w1 rfl rfl rfl) rfl (ps_eql_Ratio_ (a := v4.1) (b := v5) rfl rfl) ?_
    refine rt_p rfl w0 rfl (pu_pick_t (r := .d _) rfl rfl) ?_
    refine rt_p rfl w0 rfl (pu_assign (r := .d _) rfl) ?_
    refine rt_nil ?_
    refine ⟨by kernel_rfl, ?_⟩
    refine then_n ?_
    refine aw_ret ?_
    cases h0
    exact ret0_ (rs := [.tmp 6]) rfl
  · skip
    refine rt_skip rfl rfl rfl (by first | exact .inl rfl | exact .inr rfl) rfl ?_
    refine rt_skip rfl rfl rfl (by first | exact .inl rfl | exact .inr rfl) rfl ?_
    refine rt_skip rfl rfl rfl (by first | exact .inl rfl | exact .inr rfl) rfl ?_
    refine rt_skip rfl rfl rfl (by first | exact .inl rfl | exact .inr rfl) rfl ?_
    refine rt_skip rfl rfl rfl (by first | exact .inl rfl | exact .inr rfl) rfl ?_
    refine rt_skip rfl rfl rfl (by first | exact .inl rfl | exact .inr rfl) rfl ?_
    refine rt_skip rfl rfl rfl (by first | exact .inl rfl | exact .inr rfl) rfl ?_
    refine rt_p rfl w0 rfl (pu_pick_f (r := .d _) rfl rfl) ?_
    refine rt_p rfl w0 rfl (pu_assign (r := .d _) rfl) ?_
    refine rt_nil ?_
    refine ⟨by kernel_rfl, ?_⟩
    refine then_n ?_
    refine aw_ret ?_
    cases h0
    exact ret0_ (rs := [.tmp 6]) rfl

theorem s_l08Speeds_c {p0 : Works_} {p1 : Int} {r : List Ratio_ × Int} (h0 : s_l08Speeds_m p0 p1 = some r) : FnC Try.prog 148 [] [.ref (cWorks_ p0), .d (.v (.int .i64 p1))] [.live [⟨29, 2, .data (List.map cRatio_ r.1)⟩]] (.tup [.own 0 0 r.1.length, .d (.v (.int .i64 r.2))]) := by
  refine fnc_intro (T := tt) (N := 79) tok Try.func148 rfl rfl (by kernel_rfl) rfl rfl ?_
  unfold s_l08Speeds_m at h0
  refine aw_seq ?_
  refine aw_regionA (is := [0, 1]) rfl ?_
  refine rp rfl w0 rfl (pu_assign (r := .d _) rfl) ?_
  refine rp rfl w0 rfl (pu_assign (r := .d _) rfl) ?_
  refine ra_nil ?_
  refine then_n ?_
  refine aw_seq ?_
  refine aw_seq ?_
  refine aw_regionA (is := [0, 1, 2, 3]) rfl ?_
  refine rp rfl w0 rfl (pu_move (r := .ref _) rfl) ?_
  refine rp rfl w0 rfl (pu_move (r := .d _) rfl) ?_
  obtain ⟨v1, hv1, h0⟩ := bnd h0
  refine rs rfl w0 rfl (c_call 3 (s_l08Root_c hv1) rfl rfl rfl) ?_
  refine rp rfl w0 rfl (pu_not rfl) ?_
  refine ra_nil ?_
  refine then_n ?_
  refine aw_ifB h0 rfl (fun hc h0 => ?_) (fun hc h0 => ?_)
  · skip
    refine aw_seq ?_
    refine aw_regionA (is := [0, 1]) rfl ?_
    refine rp rfl w0 rfl (pu_assign (r := .d _) rfl) ?_
    refine rp rfl w0 rfl (pu_assign (r := .d _) rfl) ?_
    refine ra_nil ?_
    refine then_n ?_
    refine aw_weak (weak_adopt_t 3 rfl 29 2 (d := 4) rfl) ?_
    refine aw_ret ?_
    refine then_r ?_
    cases h0
    exact retK_ (rs := [.tmp 4, .tmp 5]) [3] rfl
  · skip
    refine aw_skip ?_
    refine then_n ?_
    refine aw_seq ?_
    refine aw_regionA (is := [0, 1, 2, 3, 4, 5, 6]) rfl ?_
    refine rp rfl w0 rfl (pu_move (r := .ref _) rfl) ?_
    refine rp rfl w0 rfl (pu_nil_ref rfl) ?_
    refine rp rfl w0 rfl (pu_fieldAddr_ref tok rfl rfl rfl rfl rfl rfl (by repeat (first | exact Drp.z _ | apply Drp.d))) ?_
    refine rp rfl w0 rfl (pu_load_ref1 tok rfl rfl rfl rfl) ?_
    refine rp rfl w0 rfl (pu_len_map tok rfl rfl rfl) ?_
    obtain ⟨hq2, h0⟩ := chk_e h0
    refine rs rfl w0 rfl (mk_own 3 tok (c := cB) false hq2 rfl rfl rfl rfl rfl rfl rfl rfl rfl rfl rfl rfl rfl) ?_
    refine rp rfl w0 rfl (pu_assign (r := .own _ _ _) rfl) ?_
    refine ra_nil ?_
    refine then_n ?_
    refine aw_seq ?_
    refine aw_regionA (is := [0, 1, 2, 3, 4, 5, 6]) rfl ?_
    refine rp rfl w0 rfl (pu_move (r := .ref _) rfl) ?_
    refine rp rfl w0 rfl (pu_nil_ref rfl) ?_
    refine rp rfl w0 rfl (pu_fieldAddr_ref tok rfl rfl rfl rfl rfl rfl (by repeat (first | exact Drp.z _ | apply Drp.d))) ?_
    refine rp rfl w0 rfl (pu_load_ref1 tok rfl rfl rfl rfl) ?_
    refine rp rfl w0 rfl (pu_len_map tok rfl rfl rfl) ?_
    obtain ⟨hq3, h0⟩ := chk_e h0
    refine rs rfl w0 rfl (mk_own 4 tok (c := cRatio_) (⟨0, 0⟩ : Ratio_) hq3 rfl rfl rfl rfl rfl rfl rfl rfl rfl rfl rfl rfl rfl) ?_
    refine rp rfl w0 rfl (pu_assign (r := .own _ _ _) rfl) ?_
    refine ra_nil ?_
    refine then_n ?_
    refine aw_seq ?_
    refine aw_regionA (is := [0, 1, 2, 3]) rfl ?_
    refine rp rfl w0 rfl (pu_move (r := .own _ _ _) rfl) ?_
    refine rp rfl w0 rfl (pu_move (r := .d _) rfl) ?_
    obtain ⟨v4, hv4, h0⟩ := bnd h0
    refine rl rfl w0 rfl (ow_ix tok hv4 rfl rfl rfl rfl rfl rfl rfl rfl) ?_
    refine rw0 rfl w0 (rw_st (cs := [.d _]) tok true (atI_e hv4).2.1 rfl rfl rfl rfl rfl rfl rfl rfl) ?_
    refine ra_nil ?_
    refine then_n ?_
    refine aw_seq ?_
    refine aw_regionA (is := [0, 1, 2, 3, 4]) rfl ?_
    refine rp rfl w0 rfl (pu_move (r := .own _ _ _) rfl) ?_
    refine rp rfl w0 rfl (pu_move (r := .d _) rfl) ?_
    obtain ⟨v5, hv5, h0⟩ := bnd h0
    refine rs rfl w0 rfl (c_call 5 (s_l02Whole_c hv5) rfl rfl rfl) ?_
    obtain ⟨v6, hv6, h0⟩ := bnd h0
    refine rl rfl w0 rfl (ow_ix tok hv6 rfl rfl rfl rfl rfl rfl rfl rfl) ?_
    refine rw0 rfl w0 (rw_st (cs := _ :: _) tok v5 (atI_e hv6).2.1 rfl rfl rfl rfl rfl rfl rfl rfl) ?_
    refine ra_nil ?_
    refine then_n ?_
    obtain ⟨v15x, h1, h0⟩ := bnd h0
    refine aw_cutE v15x (fun v15 => ⟨updA (updA (updA ((fun _ => .dead)) 0 (.ref (cWorks_ p0))) 6 (.own 3 0 (v15.1).length)) 7 (.own 4 0 (v15.2).length), lks [.no, .no, .no, .live [⟨4, 1, .data (List.map cB v15.1)⟩], .live [⟨29, 2, .data (List.map cRatio_ v15.2)⟩]]⟩) ?_ ?_
    · skip
      refine aw_seq ?_
      refine aw_regionA (is := [0]) rfl ?_
      refine rp rfl w0 rfl (pu_assign (r := .d _) rfl) ?_
      refine ra_nil ?_
      refine then_n ?_
      refine aw_block ?_
      refine aw_loopM (fun s11 => ⟨updA (updA (updA (updA ((fun _ => .dead)) 0 (.ref (cWorks_ p0))) 6 (.own 3 0 (s11.2.1).length)) 7 (.own 4 0 (s11.2.2).length)) 8 (.d (.v (.bool s11.1))), lks [.no, .no, .no, .live [⟨4, 1, .data (List.map cB s11.2.1)⟩], .live [⟨29, 2, .data (List.map cRatio_ s11.2.2)⟩]]⟩) h1 ?_ (fun s11 y h2 => ?_)
      · skip
        exact wk [0, 1, 2, 3, 4]
      · skip
        refine aw_seq ?_
        refine aw_seq ?_
        refine aw_regionA (is := [0]) rfl ?_
        refine rp rfl w0 rfl (pu_move (r := .d _) rfl) ?_
        refine ra_nil ?_
        refine then_n ?_
        refine aw_ifB h2 rfl (fun hc h2 => ?_) (fun hc h2 => ?_)
        · skip
          refine aw_skip ?_
          refine then_n ?_
          refine aw_block ?_
          refine aw_seq ?_
          refine aw_regionA (is := [0, 1, 2, 3, 4, 5, 6, 7, 8]) rfl ?_
          refine rp rfl w0 rfl (pu_move (r := .ref _) rfl) ?_
          refine rp rfl w0 rfl (pu_move (r := .own _ _ _) rfl) ?_
          refine rp rfl w0 rfl (pu_move (r := .own _ _ _) rfl) ?_
          obtain ⟨v12, hv12, h2⟩ := bnd h2
          obtain ⟨hq13, h2⟩ := chk_e h2
          obtain ⟨hq14, h2⟩ := chk_e h2
          refine rw1 rfl w0 rfl (c_callP [3, 4] 300 (s_l08Round_o_o_c hv12) rfl rfl) ?_
          refine rp rfl w0 rfl (pu_move (r := .tup _) rfl) ?_
          refine rp rfl w0 rfl (pu_extract rfl rfl) ?_
          refine rp rfl w0 rfl (pu_extract rfl rfl) ?_
          refine rp rfl w0 rfl (pu_assign (r := .d _) rfl) ?_
          refine rp rfl w0 rfl (pu_assign (r := .d _) rfl) ?_
          refine ra_nil ?_
          refine then_n ?_
          refine aw_seq ?_
          refine aw_seq ?_
          refine aw_regionA (is := [0, 1]) rfl ?_
          refine rp rfl w0 rfl (pu_move (r := .d _) rfl) ?_
          refine rp rfl w0 rfl (pu_not rfl) ?_
          refine ra_nil ?_
          refine then_n ?_
          refine aw_ifB h2 rfl (fun hc h2 => ?_) (fun hc h2 => ?_)
          · skip
            refine aw_seq ?_
            refine aw_regionA (is := [0, 1]) rfl ?_
            refine rp rfl w0 rfl (pu_assign (r := .d _) rfl) ?_
            refine rp rfl w0 rfl (pu_assign (r := .d _) rfl) ?_
            refine ra_nil ?_
            refine then_n ?_
            refine aw_weak (weak_adopt_t 5 rfl 29 2 (d := 4) rfl) ?_
            refine aw_ret ?_
            refine then_r ?_
            refine block_r ?_
            cases h2
            refine loop_r ⟨_, rfl, fun e => ?_⟩
            subst e
            refine block_r ?_
            replace h0 := orE_s h0
            refine then_r ?_
            cases h0
            exact retK_ (rs := [.tmp 4, .tmp 5]) [5] rfl
          · skip
            refine aw_skip ?_
            refine then_n ?_
            refine aw_regionA (is := [0, 1]) rfl ?_
            refine rp rfl w0 rfl (pu_move (r := .d _) rfl) ?_
            refine rp rfl w0 rfl (pu_assign (r := .d _) rfl) ?_
            refine ra_nil ?_
            refine block_n ?_
            refine loop_n ?_
            cases h2
            refine ⟨_, rfl, ?_⟩
            exact wk [0, 1, 2, 3, 4]
        · skip
          refine aw_exit ?_
          refine then_e ?_
          cases h2
          refine loop_x ⟨_, rfl, fun e => ?_⟩
          subst e
          refine block_hit ?_
          refine then_n ?_
          refine ⟨_, rfl, ?_⟩
          exact wk [0, 1, 2, 3, 4]
    · skip
      rintro v15 rfl
      replace h0 := orE_f h0
      obtain ⟨v20x, h1, h0⟩ := bnd h0
      refine aw_cutE v20x (fun v20 => ⟨updA (updA ((fun _ => .dead)) 0 (.ref (cWorks_ p0))) 7 (.own 3 0 (v15.2).length), lks [.no, .no, .no, .live [⟨29, 2, .data (List.map cRatio_ v15.2)⟩]]⟩) ?_ ?_
      · skip
        refine aw_seq ?_
        refine aw_regionA (is := [0]) rfl ?_
        refine rp rfl w0 rfl (pu_assign (r := .d _) rfl) ?_
        refine ra_nil ?_
        refine then_n ?_
        refine aw_block ?_
        refine aw_loopM (fun s18 => ⟨updA (updA (updA (updA ((fun _ => .dead)) 0 (.ref (cWorks_ p0))) 6 (.own 3 0 (v15.1).length)) 7 (.own 4 0 (v15.2).length)) 11 (.d (.v (.int .i64 s18))), lks [.no, .no, .no, .live [⟨4, 1, .data (List.map cB v15.1)⟩], .live [⟨29, 2, .data (List.map cRatio_ v15.2)⟩]]⟩) h1 ?_ (fun s18 y h2 => ?_)
        · skip
          exact wk [0, 1, 2, 3, 4]
        · skip
          refine aw_seq ?_
          refine aw_seq ?_
          refine aw_regionA (is := [0, 1, 2, 3]) rfl ?_
          refine rp rfl w0 rfl (pu_move (r := .d _) rfl) ?_
          refine rp rfl w0 rfl (pu_move (r := .own _ _ _) rfl) ?_
          refine rl rfl w0 rfl (ow_len tok rfl rfl rfl rfl rfl) ?_
          refine rp rfl w0 rfl (pu_lss rfl rfl) ?_
          refine ra_nil ?_
          refine then_n ?_
          refine aw_if h2 rfl (fun hc h2 => ?_) (fun hc h2 => ?_)
          · skip
            refine aw_skip ?_
            refine then_n ?_
            refine aw_seq ?_
            refine aw_block ?_
            refine aw_seq ?_
            refine aw_regionA (is := [0, 1, 2, 3, 4]) rfl ?_
            refine rp rfl w0 rfl (pu_move (r := .own _ _ _) rfl) ?_
            refine rp rfl w0 rfl (pu_move (r := .d _) rfl) ?_
            obtain ⟨v19, hv19, h2⟩ := bnd h2
            refine rl rfl w0 rfl (ow_ix tok hv19 rfl rfl rfl rfl rfl rfl rfl rfl) ?_
            refine rl rfl w0 rfl (rw_ld1 tok (atI_e hv19).2.1 rfl rfl rfl rfl rfl rfl) ?_
            refine rp rfl w0 rfl (pu_not rfl) ?_
            refine ra_nil ?_
            refine then_n ?_
            refine aw_ifB h2 rfl (fun hc h2 => ?_) (fun hc h2 => ?_)
            · skip
              refine aw_seq ?_
              refine aw_regionA (is := [0, 1]) rfl ?_
              refine rp rfl w0 rfl (pu_assign (r := .d _) rfl) ?_
              refine rp rfl w0 rfl (pu_assign (r := .d _) rfl) ?_
              refine ra_nil ?_
              refine then_n ?_
              refine aw_weak (weak_adopt_t 5 rfl 29 2 (d := 4) rfl) ?_
              refine aw_ret ?_
              refine block_r ?_
              refine then_r ?_
              cases h2
              refine loop_r ⟨_, rfl, fun e => ?_⟩
              subst e
              refine block_r ?_
              replace h0 := orE_s h0
              refine then_r ?_
              cases h0
              exact retK_ (rs := [.tmp 4, .tmp 5]) [5] rfl
            · skip
              refine aw_skip ?_
              refine block_n ?_
              refine then_n ?_
              refine aw_regionA (is := [0, 1, 2]) rfl ?_
              refine rp rfl w0 rfl (pu_move (r := .d _) rfl) ?_
              refine rp rfl w0 rfl (pw_add rfl rfl) ?_
              refine rp rfl w0 rfl (pu_assign (r := .d _) rfl) ?_
              refine ra_nil ?_
              refine loop_n ?_
              cases h2
              refine ⟨_, rfl, ?_⟩
              exact wk [0, 1, 2, 3, 4]
          · skip
            refine aw_exit ?_
            refine then_e ?_
            cases h2
            refine loop_x ⟨_, rfl, fun e => ?_⟩
            subst e
            refine block_hit ?_
            refine then_n ?_
            refine ⟨_, rfl, ?_⟩
            exact wk [0, 1, 2, 4]
      · skip
        rintro v20 rfl
        replace h0 := orE_f h0
        obtain ⟨v27x, h1, h0⟩ := bnd h0
        refine aw_cutE v27x (fun v27 => ⟨updA ((fun _ => .dead)) 7 (.own 3 0 (v15.2).length), lks [.no, .no, .no, .live [⟨29, 2, .data (List.map cRatio_ v15.2)⟩]]⟩) ?_ ?_
        · skip
          refine aw_seq ?_
          refine aw_regionA (is := [0]) rfl ?_
          refine rp rfl w0 rfl (pu_assign (r := .d _) rfl) ?_
          refine ra_nil ?_
          refine then_n ?_
          refine aw_block ?_
          refine aw_loopM (fun s24 => ⟨updA (updA (updA ((fun _ => .dead)) 0 (.ref (cWorks_ p0))) 7 (.own 3 0 (v15.2).length)) 12 (.d (.v (.int .i64 s24))), lks [.no, .no, .no, .live [⟨29, 2, .data (List.map cRatio_ v15.2)⟩]]⟩) h1 ?_ (fun s24 y h2 => ?_)
          · skip
            exact wk [0, 1, 2, 3]
          · skip
            refine aw_seq ?_
            refine aw_seq ?_
            refine aw_regionA (is := [0, 1, 2, 3, 4, 5, 6]) rfl ?_
            refine rp rfl w0 rfl (pu_move (r := .d _) rfl) ?_
            refine rp rfl w0 rfl (pu_move (r := .ref _) rfl) ?_
            refine rp rfl w0 rfl (pu_nil_ref rfl) ?_
            refine rp rfl w0 rfl (pu_fieldAddr_ref tok rfl rfl rfl rfl rfl rfl (by repeat (first | exact Drp.z _ | apply Drp.d))) ?_
            refine rp rfl w0 rfl (pu_load_ref1 tok rfl rfl rfl rfl) ?_
            refine rp rfl w0 rfl (pu_len_map tok rfl rfl rfl) ?_
            refine rp rfl w0 rfl (pu_lss rfl rfl) ?_
            refine ra_nil ?_
            refine then_n ?_
            refine aw_if h2 rfl (fun hc h2 => ?_) (fun hc h2 => ?_)
            · skip
              refine aw_skip ?_
              refine then_n ?_
              refine aw_seq ?_
              refine aw_block ?_
              refine aw_seq ?_
              refine aw_regionA (is := [0, 1, 2, 3, 4, 5, 6, 7, 8, 9, 10]) rfl ?_
              refine rp rfl w0 rfl (pu_move (r := .ref _) rfl) ?_
              refine rp rfl w0 rfl (pu_move (r := .ref _) rfl) ?_
              refine rp rfl w0 rfl (pu_nil_ref rfl) ?_
              refine rp rfl w0 rfl (pu_fieldAddr_ref tok rfl rfl rfl rfl rfl rfl (by repeat (first | exact Drp.z _ | apply Drp.d))) ?_
              refine rp rfl w0 rfl (pu_load_ref1 tok rfl rfl rfl rfl) ?_
              refine rp rfl w0 rfl (pu_move (r := .d _) rfl) ?_
              obtain ⟨v25, hv25, h2⟩ := bnd h2
              refine rp rfl w0 rfl (sl_ix tok hv25 rfl rfl rfl rfl rfl rfl) ?_
              refine rp rfl w0 rfl (pu_load_refN tok rfl rfl rfl (by repeat (first | exact SegD.z _ | apply SegD.t))) ?_
              refine rp rfl w0 rfl (pu_move (r := .own _ _ _) rfl) ?_
              obtain ⟨v26, hv26, h2⟩ := bnd h2
              refine rs rfl w0 rfl (c_callV 4 (s_l08Fits_c hv26) rfl rfl) ?_
              refine rp rfl w0 rfl (pu_not rfl) ?_
              refine ra_nil ?_
              refine then_n ?_
              refine aw_ifB h2 rfl (fun hc h2 => ?_) (fun hc h2 => ?_)
              · skip
                refine aw_seq ?_
                refine aw_regionA (is := [0, 1]) rfl ?_
                refine rp rfl w0 rfl (pu_assign (r := .d _) rfl) ?_
                refine rp rfl w0 rfl (pu_assign (r := .d _) rfl) ?_
                refine ra_nil ?_
                refine then_n ?_
                refine aw_weak (weak_adopt_t 4 rfl 29 2 (d := 4) rfl) ?_
                refine aw_ret ?_
                refine block_r ?_
                refine then_r ?_
                cases h2
                refine loop_r ⟨_, rfl, fun e => ?_⟩
                subst e
                refine block_r ?_
                replace h0 := orE_s h0
                refine then_r ?_
                cases h0
                exact retK_ (rs := [.tmp 4, .tmp 5]) [4] rfl
              · skip
                refine aw_skip ?_
                refine block_n ?_
                refine then_n ?_
                refine aw_regionA (is := [0, 1, 2]) rfl ?_
                refine rp rfl w0 rfl (pu_move (r := .d _) rfl) ?_
                refine rp rfl w0 rfl (pw_add rfl rfl) ?_
                refine rp rfl w0 rfl (pu_assign (r := .d _) rfl) ?_
                refine ra_nil ?_
                refine loop_n ?_
                cases h2
                refine ⟨_, rfl, ?_⟩
                exact wk [0, 1, 2, 3]
            · skip
              refine aw_exit ?_
              refine then_e ?_
              cases h2
              refine loop_x ⟨_, rfl, fun e => ?_⟩
              subst e
              refine block_hit ?_
              refine then_n ?_
              refine ⟨_, rfl, ?_⟩
              exact wk [0, 1, 2, 3]
        · skip
          rintro v27 rfl
          replace h0 := orE_f h0
          refine aw_seq ?_
          refine aw_regionA (is := [0, 1, 2]) rfl ?_
          refine rp rfl w0 rfl (pu_move (r := .own _ _ _) rfl) ?_
          refine rp rfl w0 rfl (pu_assign (r := .own _ _ _) rfl) ?_
          refine rp rfl w0 rfl (pu_assign (r := .d _) rfl) ?_
          refine ra_nil ?_
          refine then_n ?_
          refine aw_ret ?_
          cases h0
          exact retK_ (rs := [.tmp 4, .tmp 5]) [3] rfl

theorem s_l26Speed_c {p0 : Movement_} {p1 : Int} {r : Ratio_ × Int} (h0 : s_l26Speed_m p0 p1 = some r) : FnC Try.prog 103 [] [.ref (cMovement_ p0), .d (.v (.int .i64 p1))] [] (.tup [.agg [.d (.v (.int .i64 r.1.Num)), .d (.v (.int .i64 r.1.Den))], .d (.v (.int .i64 r.2))]) := by
  refine fnc_intro (T := tt) (N := 37) tok Try.func103 rfl rfl (by kernel_rfl) rfl rfl ?_
  unfold s_l26Speed_m at h0
  refine aw_seq ?_
  refine aw_regionA (is := [0, 1]) rfl ?_
  refine rs rfl w0 rfl (st_alloc 3 (cs := [.d (.v (.int .i64 0)), .d (.v (.int .i64 0))]) tok rfl rfl rfl) ?_
  refine rp rfl w0 rfl (pu_assign (r := .d _) rfl) ?_
  refine ra_nil ?_
  refine then_n ?_
  refine aw_seq ?_
  refine aw_seq ?_
  refine aw_regionA (is := [0, 1, 2]) rfl ?_
  refine rp rfl w0 rfl (pu_move (r := .ref _) rfl) ?_
  obtain ⟨v1, hv1, h0⟩ := bnd h0
  refine rs rfl w0 rfl (c_call 4 (s_l26Ok_c hv1) rfl rfl rfl) ?_
  refine rp rfl w0 rfl (pu_not rfl) ?_
  refine ra_nil ?_
  refine then_n ?_
  refine aw_ifB h0 rfl (fun hc h0 => ?_) (fun hc h0 => ?_)
  · skip
    refine aw_seq ?_
    refine aw_regionA (is := [0, 1, 2]) rfl ?_
    refine rp rfl w0 rfl (pu_build (C0 := [.d (.v (.int .i64 0)), .d (.v (.int .i64 0))]) tok rfl rfl (by repeat (first | exact Plc.nil | apply Plc.cons rfl)) rfl (by repeat (first | exact Bld.nil _ | apply Bld.cons (cs := [.d _]) rfl rfl rfl rfl (by repeat (first | exact Spl.z _ | apply Spl.t | apply Spl.d)) | apply Bld.cons (cs := [.own _ _ _]) rfl rfl rfl rfl (by repeat (first | exact Spl.z _ | apply Spl.t | apply Spl.d)) | apply Bld.cons (cs := [.ptr _ _ _ _ _]) rfl rfl rfl rfl (by repeat (first | exact Spl.z _ | apply Spl.t | apply Spl.d)) | apply Bld.cons (cs := [.fn _ _]) rfl rfl rfl rfl (by repeat (first | exact Spl.z _ | apply Spl.t | apply Spl.d)) | apply Bld.cons (cs := _ :: _) rfl rfl rfl rfl (by repeat (first | exact Spl.z _ | apply Spl.t | apply Spl.d))))) ?_
    refine rw0 rfl w0 (bx_st (cs := _ :: _) tok rfl rfl rfl rfl rfl rfl rfl) ?_
    refine rp rfl w0 rfl (pu_assign (r := .d _) rfl) ?_
    refine ra_nil ?_
    refine then_n ?_
    refine aw_ret ?_
    refine then_r ?_
    cases h0
    exact ret0_ (rs := [.cell 4 29, .tmp 5]) rfl
  · skip
    refine aw_skip ?_
    refine then_n ?_
    refine aw_seq ?_
    refine aw_region_draw (is := [0, 1, 2, 3, 4, 5, 6, 7, 8, 9, 10, 11, 12]) [0, 1, 3, 0, 8, 24, 56, 127, 255, 511, 511, 1023, 4095] follows (by kernel_rfl) ?_
    refine rt_p rfl w0 rfl (pu_move (r := .ref _) rfl) ?_
    refine rt_p rfl w0 rfl (pu_nil_ref rfl) ?_
    refine rt_p rfl w0 rfl (pu_fieldAddr_ref tok rfl rfl rfl rfl rfl rfl (by repeat (first | exact Drp.z _ | apply Drp.d))) ?_
    refine rt_p rfl w0 rfl (pu_move (r := .ref _) rfl) ?_
    refine rt_p rfl w0 rfl (pu_nil_ref rfl) ?_
    refine rt_p rfl w0 rfl (pu_fieldAddr_ref tok rfl rfl rfl rfl rfl rfl (by repeat (first | exact Drp.z _ | apply Drp.d))) ?_
    refine rt_p rfl w0 rfl (pu_load_ref1 tok rfl rfl rfl rfl) ?_
    obtain ⟨v2, hv2, h0⟩ := bnd h0
    refine rt_c rfl w0 rfl (b_callV 4 (s_l08Speeds_c hv2) rfl rfl) ?_
    refine rt_p rfl w0 rfl (pu_move (r := .tup _) rfl) ?_
    refine rt_p rfl w0 rfl (pu_extract rfl rfl) ?_
    refine rt_p rfl w0 rfl (pu_extract rfl rfl) ?_
    refine rt_p rfl w0 rfl (pu_assign (r := .own _ _ _) rfl) ?_
    refine rt_p rfl w0 rfl (pu_assign (r := .d _) rfl) ?_
    refine rt_nil ?_
    refine ⟨by kernel_rfl, ?_⟩
    refine then_n ?_
    refine aw_seq ?_
    refine aw_seq ?_
    refine aw_regionA (is := [0, 1]) rfl ?_
    refine rp rfl w0 rfl (pu_move (r := .d _) rfl) ?_
    refine rp rfl w0 rfl (pu_neq rfl rfl) ?_
    refine ra_nil ?_
    refine then_n ?_
    refine aw_if h0 rfl (fun hc h0 => ?_) (fun hc h0 => ?_)
    · skip
      refine aw_seq ?_
      refine aw_regionA (is := [0, 1, 2]) rfl ?_
      refine rp rfl w0 rfl (pu_build (C0 := [.d (.v (.int .i64 0)), .d (.v (.int .i64 0))]) tok rfl rfl (by repeat (first | exact Plc.nil | apply Plc.cons rfl)) rfl (by repeat (first | exact Bld.nil _ | apply Bld.cons (cs := [.d _]) rfl rfl rfl rfl (by repeat (first | exact Spl.z _ | apply Spl.t | apply Spl.d)) | apply Bld.cons (cs := [.own _ _ _]) rfl rfl rfl rfl (by repeat (first | exact Spl.z _ | apply Spl.t | apply Spl.d)) | apply Bld.cons (cs := [.ptr _ _ _ _ _]) rfl rfl rfl rfl (by repeat (first | exact Spl.z _ | apply Spl.t | apply Spl.d)) | apply Bld.cons (cs := [.fn _ _]) rfl rfl rfl rfl (by repeat (first | exact Spl.z _ | apply Spl.t | apply Spl.d)) | apply Bld.cons (cs := _ :: _) rfl rfl rfl rfl (by repeat (first | exact Spl.z _ | apply Spl.t | apply Spl.d))))) ?_
      refine rw0 rfl w0 (bx_st (cs := _ :: _) tok rfl rfl rfl rfl rfl rfl rfl) ?_
      refine rp rfl w0 rfl (pu_assign (r := .d _) rfl) ?_
      refine ra_nil ?_
      refine then_n ?_
      refine aw_ret ?_
      refine then_r ?_
      cases h0
      exact ret0_ (rs := [.cell 4 29, .tmp 5]) rfl
    · skip
      refine aw_skip ?_
      refine then_n ?_
      refine aw_seq ?_
      refine aw_seq ?_
      refine aw_regionA (is := [0, 1, 2, 3, 4, 5]) rfl ?_
      refine rp rfl w0 rfl (pu_move (r := .ref _) rfl) ?_
      refine rp rfl w0 rfl (pu_nil_ref rfl) ?_
      refine rp rfl w0 rfl (pu_fieldAddr_ref tok rfl rfl rfl rfl rfl rfl (by repeat (first | exact Drp.z _ | apply Drp.d))) ?_
      refine rp rfl w0 rfl (pu_move (r := .d _) rfl) ?_
      obtain ⟨v3, hv3, h0⟩ := bnd h0
      refine rs rfl w0 rfl (c_callV 5 (s_l08Root_c hv3) rfl rfl) ?_
      refine rp rfl w0 rfl (pu_not rfl) ?_
      refine ra_nil ?_
      refine then_n ?_
      refine aw_ifB h0 rfl (fun hc h0 => ?_) (fun hc h0 => ?_)
      · skip
        refine aw_seq ?_
        refine aw_regionA (is := [0, 1, 2]) rfl ?_
        refine rp rfl w0 rfl (pu_build (C0 := [.d (.v (.int .i64 0)), .d (.v (.int .i64 0))]) tok rfl rfl (by repeat (first | exact Plc.nil | apply Plc.cons rfl)) rfl (by repeat (first | exact Bld.nil _ | apply Bld.cons (cs := [.d _]) rfl rfl rfl rfl (by repeat (first | exact Spl.z _ | apply Spl.t | apply Spl.d)) | apply Bld.cons (cs := [.own _ _ _]) rfl rfl rfl rfl (by repeat (first | exact Spl.z _ | apply Spl.t | apply Spl.d)) | apply Bld.cons (cs := [.ptr _ _ _ _ _]) rfl rfl rfl rfl (by repeat (first | exact Spl.z _ | apply Spl.t | apply Spl.d)) | apply Bld.cons (cs := [.fn _ _]) rfl rfl rfl rfl (by repeat (first | exact Spl.z _ | apply Spl.t | apply Spl.d)) | apply Bld.cons (cs := _ :: _) rfl rfl rfl rfl (by repeat (first | exact Spl.z _ | apply Spl.t | apply Spl.d))))) ?_
        refine rw0 rfl w0 (bx_st (cs := _ :: _) tok rfl rfl rfl rfl rfl rfl rfl) ?_
        refine rp rfl w0 rfl (pu_assign (r := .d _) rfl) ?_
        refine ra_nil ?_
        refine then_n ?_
        refine aw_ret ?_
        refine then_r ?_
        cases h0
        exact ret0_ (rs := [.cell 4 29, .tmp 5]) rfl
      · skip
        refine aw_skip ?_
        refine then_n ?_
        refine aw_seq ?_
        refine aw_regionA (is := [0, 1, 2, 3, 4, 5]) rfl ?_
        refine rp rfl w0 rfl (pu_move (r := .own _ _ _) rfl) ?_
        refine rp rfl w0 rfl (pu_move (r := .d _) rfl) ?_
        obtain ⟨v4, hv4, h0⟩ := bnd h0
        refine rl rfl w0 rfl (ow_ix tok hv4 rfl rfl rfl rfl rfl rfl rfl rfl) ?_
        refine rl rfl w0 rfl (rw_ldN tok (atI_e hv4).2.1 rfl rfl rfl rfl rfl) ?_
        refine rw0 rfl w0 (bx_st (cs := _ :: _) tok rfl rfl rfl rfl rfl rfl rfl) ?_
        refine rp rfl w0 rfl (pu_assign (r := .d _) rfl) ?_
        refine ra_nil ?_
        refine then_n ?_
        refine aw_ret ?_
        cases h0
        exact ret0_ (rs := [.cell 4 29, .tmp 5]) rfl

theorem s_SpeedOf_c {p0 : Movement_} {p1 : Int} {r : Ratio_ × Int} (h0 : s_SpeedOf_m p0 p1 = some r) : FnC Try.prog 49 [] [.agg [.d (.v (.string p0.Name)), .d (.sl (List.map cArbor_ p0.Works.Arbors)), .d (.sl (List.map cMesh_ p0.Works.Meshes)), .d (.v (.int .i64 p0.Minute)), .d (.v (.int .i64 p0.Hour)), .d (.v (.int .i64 p0.Escape)), .d (.v (.int .i64 p0.Teeth)), .d (.v (.int .i64 p0.Beats)), .d (.v (.string p0.Calendar.Name)), .d (.sl (List.map cMonth_ p0.Calendar.Months)), .d (.sl (List.map cLeapRule_ p0.Calendar.Rules)), .d (.v (.int .i64 p0.Calendar.Week)), .d (.sl (List.map cI p0.Cam)), .d (.v (.int .i64 p0.Strike))], .d (.v (.int .i64 p1))] [] (.tup [.agg [.d (.v (.int .i64 r.1.Num)), .d (.v (.int .i64 r.1.Den))], .d (.v (.int .i64 r.2))]) := by
  refine fnc_intro (T := tt) (N := 10) tok Try.func49 rfl rfl (by kernel_rfl) rfl rfl ?_
  unfold s_SpeedOf_m at h0
  refine aw_seq ?_
  refine aw_regionA (is := [0, 1, 2]) rfl ?_
  refine rs rfl w0 rfl (st_box 3 (cs := _ :: _) rfl rfl rfl) ?_
  refine rs rfl w0 rfl (st_alloc 4 (cs := [.d (.v (.int .i64 0)), .d (.v (.int .i64 0))]) tok rfl rfl rfl) ?_
  refine rp rfl w0 rfl (pu_assign (r := .d _) rfl) ?_
  refine ra_nil ?_
  refine then_n ?_
  refine aw_seq ?_
  refine aw_regionA (is := [0, 1, 2, 3, 4, 5]) rfl ?_
  refine rp rfl w0 rfl (pu_move (r := .d _) rfl) ?_
  obtain ⟨v1, hv1, h0⟩ := bnd h0
  refine rs rfl w0 rfl (c_callV 5 (s_l26Speed_c hv1) rfl rfl) ?_
  refine rp rfl w0 rfl (pu_extract rfl rfl) ?_
  refine rp rfl w0 rfl (pu_extract rfl rfl) ?_
  refine rw0 rfl w0 (bx_st (cs := _ :: _) tok rfl rfl rfl rfl rfl rfl rfl) ?_
  refine rp rfl w0 rfl (pu_assign (r := .d _) rfl) ?_
  refine ra_nil ?_
  refine then_n ?_
  refine aw_ret ?_
  cases h0
  exact ret0_ (rs := [.cell 4 29, .tmp 5]) rfl

theorem i_within_c {p0 : Int} {p1 : Int} {p2 : Int} {r : Bool} (h0 : i_within_m p0 p1 p2 = some r) : FnC Try.prog 98 [] [.d (.v (.int .i64 p0)), .d (.v (.int .i64 p1)), .d (.v (.int .i64 p2))] [] (.d (.v (.bool r))) := by
  refine fnc_intro (T := tt) (N := 15) tok Try.func98 rfl rfl (by kernel_rfl) rfl rfl ?_
  unfold i_within_m at h0
  refine aw_seq ?_
  refine aw_regionA (is := [0]) rfl ?_
  refine rp rfl w0 rfl (pu_assign (r := .d _) rfl) ?_
  refine ra_nil ?_
  refine then_n ?_
  refine aw_seq ?_
  refine aw_regionA (is := [0, 1, 2, 3, 4, 5, 6, 7, 8]) rfl ?_
  refine rp rfl w0 rfl (pu_move (r := .d _) rfl) ?_
  refine rp rfl w0 rfl (pu_move (r := .d _) rfl) ?_
  refine rp rfl w0 rfl (pu_geq rfl rfl) ?_
  refine rp rfl w0 rfl (pu_move (r := .d _) rfl) ?_
  refine ra_if (u := 10) h0 rfl (fun hc h0 => ?_) (fun hc h0 => ?_)
  · skip
    refine rp rfl (w1 rfl rfl rfl) rfl (pu_move (r := .d _) rfl) ?_
    refine rp rfl (w1 rfl rfl rfl) rfl (pu_move (r := .d _) rfl) ?_
    refine rp rfl (w1 rfl rfl rfl) rfl (pu_leq rfl rfl) ?_
    refine rp rfl w0 rfl (pu_pick_t (r := .d _) rfl rfl) ?_
    refine rp rfl w0 rfl (pu_assign (r := .d _) rfl) ?_
    refine ra_nil ?_
    refine then_n ?_
    refine aw_ret ?_
    cases h0
    exact ret0_ (rs := [.tmp 6]) rfl
  · skip
    refine rk rfl rfl rfl (by first | exact .inl rfl | exact .inr rfl) rfl ?_
    refine rk rfl rfl rfl (by first | exact .inl rfl | exact .inr rfl) rfl ?_
    refine rk rfl rfl rfl (by first | exact .inl rfl | exact .inr rfl) rfl ?_
    refine rp rfl w0 rfl (pu_pick_f (r := .d _) rfl rfl) ?_
    refine rp rfl w0 rfl (pu_assign (r := .d _) rfl) ?_
    refine ra_nil ?_
    refine then_n ?_
    refine aw_ret ?_
    cases h0
    exact ret0_ (rs := [.tmp 6]) rfl

theorem i_isArbor_c {p0 : Works_} {p1 : Int} {r : Bool} (h0 : i_isArbor_m p0 p1 = some r) : FnC Try.prog 96 [] [.agg [.d (.sl (List.map cArbor_ p0.Arbors)), .d (.sl (List.map cMesh_ p0.Meshes))], .d (.v (.int .i64 p1))] [] (.d (.v (.bool r))) := by
  refine fnc_intro (T := tt) (N := 11) tok Try.func96 rfl rfl (by kernel_rfl) rfl rfl ?_
  unfold i_isArbor_m at h0
  refine aw_seq ?_
  refine aw_regionA (is := [0, 1]) rfl ?_
  refine rs rfl w0 rfl (st_box 3 (cs := _ :: _) rfl rfl rfl) ?_
  refine rp rfl w0 rfl (pu_assign (r := .d _) rfl) ?_
  refine ra_nil ?_
  refine then_n ?_
  refine aw_seq ?_
  refine aw_regionA (is := [0, 1, 2, 3, 4, 5, 6]) rfl ?_
  refine rp rfl w0 rfl (pu_move (r := .d _) rfl) ?_
  refine rl rfl w0 rfl (bx_fa tok rfl rfl rfl rfl rfl rfl rfl) ?_
  refine rl rfl w0 rfl (bx_ld1 tok rfl rfl rfl rfl rfl) ?_
  refine rp rfl w0 rfl (pu_len_map tok rfl rfl rfl) ?_
  refine rp rfl w0 rfl (pw_sub rfl rfl) ?_
  obtain ⟨v1, hv1, h0⟩ := bnd h0
  refine rs rfl w0 rfl (c_call 4 (i_within_c hv1) rfl rfl rfl) ?_
  refine rp rfl w0 rfl (pu_assign (r := .d _) rfl) ?_
  refine ra_nil ?_
  refine then_n ?_
  refine aw_ret ?_
  cases h0
  exact ret0_ (rs := [.tmp 4]) rfl

theorem i_toothed_c {p0 : Int} {r : Bool} (h0 : i_toothed_m p0 = some r) : FnC Try.prog 97 [] [.d (.v (.int .i64 p0))] [] (.d (.v (.bool r))) := by
  refine fnc_intro (T := tt) (N := 5) tok Try.func97 rfl rfl (by kernel_rfl) rfl rfl ?_
  unfold i_toothed_m at h0
  refine aw_seq ?_
  refine aw_regionA (is := [0]) rfl ?_
  refine rp rfl w0 rfl (pu_assign (r := .d _) rfl) ?_
  refine ra_nil ?_
  refine then_n ?_
  refine aw_seq ?_
  refine aw_regionA (is := [0, 1, 2]) rfl ?_
  refine rp rfl w0 rfl (pu_move (r := .d _) rfl) ?_
  obtain ⟨v1, hv1, h0⟩ := bnd h0
  refine rs rfl w0 rfl (c_call 3 (i_within_c hv1) rfl rfl rfl) ?_
  refine rp rfl w0 rfl (pu_assign (r := .d _) rfl) ?_
  refine ra_nil ?_
  refine then_n ?_
  refine aw_ret ?_
  cases h0
  exact ret0_ (rs := [.tmp 2]) rfl

theorem i_IsName_c {p0 : ByteArray} {r : Bool} (h0 : i_IsName_m p0 = some r) : FnC Try.prog 99 [] [.d (.v (.string p0))] [] (.d (.v (.bool r))) := by
  refine fnc_intro (T := tt) (N := 50) tok Try.func99 rfl rfl (by kernel_rfl) rfl rfl ?_
  unfold i_IsName_m at h0
  refine aw_seq ?_
  refine aw_regionA (is := [0]) rfl ?_
  refine rp rfl w0 rfl (pu_assign (r := .d _) rfl) ?_
  refine ra_nil ?_
  refine then_n ?_
  refine aw_seq ?_
  obtain ⟨v1, h1, h0⟩ := bnd h0
  refine aw_cut ⟨updA (updA ((fun _ => .dead)) 0 (.d (.v (.string p0)))) 14 (.d (.v (.bool v1))), lks [.no, .no, .no]⟩ ?_ ?_
  · skip
    refine aw_regionA (is := [0, 1, 2, 3, 4, 5, 6, 7]) rfl ?_
    refine rp rfl w0 rfl (pu_move (r := .d _) rfl) ?_
    refine rp rfl w0 rfl (pu_len_str tok rfl rfl rfl) ?_
    refine rp rfl w0 rfl (pu_lss rfl rfl) ?_
    refine rp rfl w0 rfl (pu_move (r := .d _) rfl) ?_
    refine ra_if (u := 10) h1 rfl (fun hc h1 => ?_) (fun hc h1 => ?_)
    · skip
      refine rk rfl rfl rfl (by first | exact .inl rfl | exact .inr rfl) rfl ?_
      refine rk rfl rfl rfl (by first | exact .inl rfl | exact .inr rfl) rfl ?_
      refine rk rfl rfl rfl (by first | exact .inl rfl | exact .inr rfl) rfl ?_
      refine rp rfl w0 rfl (pu_pick_t (r := .d _) rfl rfl) ?_
      refine ra_nil ?_
      refine then_n ?_
      cases h1
      exact wk [0, 1, 2]
    · skip
      refine rp rfl (w1 rfl rfl rfl) rfl (pu_move (r := .d _) rfl) ?_
      refine rp rfl (w1 rfl rfl rfl) rfl (pu_len_str tok rfl rfl rfl) ?_
      refine rp rfl (w1 rfl rfl rfl) rfl (pu_gtr rfl rfl) ?_
      refine rp rfl w0 rfl (pu_pick_f (r := .d _) rfl rfl) ?_
      refine ra_nil ?_
      refine then_n ?_
      cases h1
      exact wk [0, 1, 2]
  · skip
    refine aw_ifB h0 rfl (fun hc h0 => ?_) (fun hc h0 => ?_)
    · skip
      refine aw_seq ?_
      refine aw_regionA (is := [0]) rfl ?_
      refine rp rfl w0 rfl (pu_assign (r := .d _) rfl) ?_
      refine ra_nil ?_
      refine then_n ?_
      refine aw_ret ?_
      refine then_r ?_
      cases h0
      exact ret0_ (rs := [.tmp 2]) rfl
    · skip
      refine aw_skip ?_
      refine then_n ?_
      obtain ⟨v13x, h1, h0⟩ := bnd h0
      refine aw_cutE v13x (fun v13 => ⟨(fun _ => .dead), lks [.no, .no, .no]⟩) ?_ ?_
      · skip
        refine aw_seq ?_
        refine aw_regionA (is := [0, 1, 2, 3]) rfl ?_
        refine rp rfl w0 rfl (pu_move (r := .d _) rfl) ?_
        obtain ⟨hq2, h1⟩ := chk_e h1
        refine rs rfl w0 rfl (cv_sb tok hq2 rfl rfl rfl rfl rfl rfl rfl) ?_
        refine rp rfl w0 rfl (pu_len_map tok rfl rfl rfl) ?_
        refine rp rfl w0 rfl (pu_move (r := .d _) rfl) ?_
        refine ra_nil ?_
        refine then_n ?_
        refine aw_block ?_
        refine aw_loopM (fun s8 => ⟨updA (updA (updA ((fun _ => .dead)) 16 (.d (.sl (List.map cU8 (bytesL p0))))) 17 (.d (.v (.int .i64 ((bytesL p0).length : Int))))) 18 (.d (.v (.int .i64 s8))), lks [.no, .no, .no]⟩) h1 ?_ (fun s8 y h2 => ?_)
        · skip
          exact wk [0, 1, 2]
        · skip
          refine aw_seq ?_
          refine aw_regionA (is := [0]) rfl ?_
          refine rp rfl w0 rfl (pu_lss rfl rfl) ?_
          refine ra_nil ?_
          refine then_n ?_
          refine aw_seq ?_
          refine aw_if h2 rfl (fun hc h2 => ?_) (fun hc h2 => ?_)
          · skip
            refine aw_skip ?_
            refine then_n ?_
            refine aw_seq ?_
            refine aw_block ?_
            refine aw_seq ?_
            refine aw_regionA (is := [0, 1, 2, 3, 4]) rfl ?_
            refine rp rfl w0 rfl (pu_move (r := .d _) rfl) ?_
            obtain ⟨v9, hv9, h2⟩ := bnd h2
            refine rp rfl w0 rfl (sl_ix tok hv9 rfl rfl rfl rfl rfl rfl) ?_
            refine rp rfl w0 rfl (pu_load_ref1 tok rfl rfl rfl rfl) ?_
            refine rp rfl w0 rfl (pu_assign (r := .d _) rfl) ?_
            refine rp rfl w0 rfl (pu_assign (r := .d _) rfl) ?_
            refine ra_nil ?_
            refine then_n ?_
            obtain ⟨v10, h3, h2⟩ := bnd h2
            refine aw_cut ⟨updA (updA (updA (updA (updA (updA ((fun _ => .dead)) 3 (.d (.v (.int .i64 s8)))) 4 (.d (.v (.int .u8 v9)))) 5 (.d (.v (.bool v10)))) 16 (.d (.sl (List.map cU8 (bytesL p0))))) 17 (.d (.v (.int .i64 ((bytesL p0).length : Int))))) 18 (.d (.v (.int .i64 s8))), lks [.no, .no, .no]⟩ ?_ ?_
            · skip
              refine aw_regionA (is := [0, 1, 2, 3, 4, 5, 6]) rfl ?_
              refine rp rfl w0 rfl (pu_move (r := .d _) rfl) ?_
              refine rp rfl w0 rfl (pu_geq rfl rfl) ?_
              refine rp rfl w0 rfl (pu_move (r := .d _) rfl) ?_
              refine ra_if (u := 25) h3 rfl (fun hc h3 => ?_) (fun hc h3 => ?_)
              · skip
                refine rp rfl (w1 rfl rfl rfl) rfl (pu_move (r := .d _) rfl) ?_
                refine rp rfl (w1 rfl rfl rfl) rfl (pu_leq rfl rfl) ?_
                refine rp rfl w0 rfl (pu_pick_t (r := .d _) rfl rfl) ?_
                refine rp rfl w0 rfl (pu_assign (r := .d _) rfl) ?_
                refine ra_nil ?_
                refine then_n ?_
                cases h3
                exact wk [0, 1, 2]
              · skip
                refine rk rfl rfl rfl (by first | exact .inl rfl | exact .inr rfl) rfl ?_
                refine rk rfl rfl rfl (by first | exact .inl rfl | exact .inr rfl) rfl ?_
                refine rp rfl w0 rfl (pu_pick_f (r := .d _) rfl rfl) ?_
                refine rp rfl w0 rfl (pu_assign (r := .d _) rfl) ?_
                refine ra_nil ?_
                refine then_n ?_
                cases h3
                exact wk [0, 1, 2]
            · skip
              obtain ⟨v11, h3, h2⟩ := bnd h2
              refine aw_cut ⟨updA (updA (updA (updA (updA (updA ((fun _ => .dead)) 3 (.d (.v (.int .i64 s8)))) 5 (.d (.v (.bool v10)))) 6 (.d (.v (.bool v11)))) 16 (.d (.sl (List.map cU8 (bytesL p0))))) 17 (.d (.v (.int .i64 ((bytesL p0).length : Int))))) 18 (.d (.v (.int .i64 s8))), lks [.no, .no, .no]⟩ ?_ ?_
              · skip
                refine aw_regionA (is := [0, 1, 2, 3, 4, 5, 6, 7, 8, 9, 10]) rfl ?_
                refine rp rfl w0 rfl (pu_move (r := .d _) rfl) ?_
                refine rp rfl w0 rfl (pu_geq rfl rfl) ?_
                refine rp rfl w0 rfl (pu_move (r := .d _) rfl) ?_
                refine ra_if (u := 31) h3 rfl (fun hc h3 => ?_) (fun hc h3 => ?_)
                · skip
                  refine rp rfl (w1 rfl rfl rfl) rfl (pu_move (r := .d _) rfl) ?_
                  refine rp rfl (w1 rfl rfl rfl) rfl (pu_leq rfl rfl) ?_
                  refine rp rfl w0 rfl (pu_pick_t (r := .d _) rfl rfl) ?_
                  refine rp rfl w0 rfl (pu_move (r := .d _) rfl) ?_
                  refine ra_if (u := 35) h3 rfl (fun hc h3 => ?_) (fun hc h3 => ?_)
                  · skip
                    refine rk rfl rfl rfl (by first | exact .inl rfl | exact .inr rfl) rfl ?_
                    refine rk rfl rfl rfl (by first | exact .inl rfl | exact .inr rfl) rfl ?_
                    refine rp rfl w0 rfl (pu_pick_t (r := .d _) rfl rfl) ?_
                    refine rp rfl w0 rfl (pu_assign (r := .d _) rfl) ?_
                    refine ra_nil ?_
                    refine then_n ?_
                    cases h3
                    exact wk [0, 1, 2]
                  · skip
                    refine rp rfl (w1 rfl rfl rfl) rfl (pu_move (r := .d _) rfl) ?_
                    refine rp rfl (w1 rfl rfl rfl) rfl (pu_eql rfl rfl) ?_
                    refine rp rfl w0 rfl (pu_pick_f (r := .d _) rfl rfl) ?_
                    refine rp rfl w0 rfl (pu_assign (r := .d _) rfl) ?_
                    refine ra_nil ?_
                    refine then_n ?_
                    cases h3
                    exact wk [0, 1, 2]
                · skip
                  refine rk rfl rfl rfl (by first | exact .inl rfl | exact .inr rfl) rfl ?_
                  refine rk rfl rfl rfl (by first | exact .inl rfl | exact .inr rfl) rfl ?_
                  refine rp rfl w0 rfl (pu_pick_f (r := .d _) rfl rfl) ?_
                  refine rp rfl w0 rfl (pu_move (r := .d _) rfl) ?_
                  refine rp rfl (w1 rfl rfl rfl) rfl (pu_move (r := .d _) rfl) ?_
                  refine rp rfl (w1 rfl rfl rfl) rfl (pu_eql rfl rfl) ?_
                  refine rp rfl w0 rfl (pu_pick_f (r := .d _) rfl rfl) ?_
                  refine rp rfl w0 rfl (pu_assign (r := .d _) rfl) ?_
                  refine ra_nil ?_
                  refine then_n ?_
                  cases h3
                  exact wk [0, 1, 2]
              · skip
                obtain ⟨v12, h3, h2⟩ := bnd h2
                refine aw_cut ⟨updA (updA (updA (updA ((fun _ => .dead)) 16 (.d (.sl (List.map cU8 (bytesL p0))))) 17 (.d (.v (.int .i64 ((bytesL p0).length : Int))))) 18 (.d (.v (.int .i64 s8)))) 48 (.d (.v (.bool v12))), lks [.no, .no, .no]⟩ ?_ ?_
                · skip
                  refine aw_regionA (is := [0, 1, 2, 3, 4, 5, 6, 7, 8, 9]) rfl ?_
                  refine rp rfl w0 rfl (pu_move (r := .d _) rfl) ?_
                  refine rp rfl w0 rfl (pu_not rfl) ?_
                  refine rp rfl w0 rfl (pu_move (r := .d _) rfl) ?_
                  refine ra_ifB (u := 41) h3 rfl (fun hc h3 => ?_) (fun hc h3 => ?_)
                  · skip
                    refine rp rfl (w1 rfl rfl rfl) rfl (pu_move (r := .d _) rfl) ?_
                    refine rp rfl (w1 rfl rfl rfl) rfl (pu_eql rfl rfl) ?_
                    refine rp rfl (w1 rfl rfl rfl) rfl (pu_move (r := .d _) rfl) ?_
                    refine ra_if (u := 44) h3 rfl (fun hc h3 => ?_) (fun hc h3 => ?_)
                    · skip
                      refine rk rfl rfl rfl (by first | exact .inl rfl | exact .inr rfl) rfl ?_
                      refine rk rfl rfl rfl (by first | exact .inl rfl | exact .inr rfl) rfl ?_
                      refine rp rfl (w1 rfl rfl rfl) rfl (pu_pick_t (r := .d _) rfl rfl) ?_
                      refine rp rfl w0 rfl (pu_pick_t (r := .d _) rfl rfl) ?_
                      refine ra_nil ?_
                      refine then_n ?_
                      cases h3
                      exact wk [0, 1, 2]
                    · skip
                      refine rp rfl (w1 rfl rfl rfl) rfl (pu_move (r := .d _) rfl) ?_
                      refine rp rfl (w1 rfl rfl rfl) rfl (pu_not rfl) ?_
                      refine rp rfl (w1 rfl rfl rfl) rfl (pu_pick_f (r := .d _) rfl rfl) ?_
                      refine rp rfl w0 rfl (pu_pick_t (r := .d _) rfl rfl) ?_
                      refine ra_nil ?_
                      refine then_n ?_
                      cases h3
                      exact wk [0, 1, 2]
                  · skip
                    refine rk rfl rfl rfl (by first | exact .inl rfl | exact .inr rfl) rfl ?_
                    refine rk rfl rfl rfl (by first | exact .inl rfl | exact .inr rfl) rfl ?_
                    refine rk rfl rfl rfl (by first | exact .inl rfl | exact .inr rfl) rfl ?_
                    refine rk rfl rfl rfl (by first | exact .inl rfl | exact .inr rfl) rfl ?_
                    refine rk rfl rfl rfl (by first | exact .inl rfl | exact .inr rfl) rfl ?_
                    refine rk rfl rfl rfl (by first | exact .inl rfl | exact .inr rfl) rfl ?_
                    refine rp rfl w0 rfl (pu_pick_f (r := .d _) rfl rfl) ?_
                    refine ra_nil ?_
                    refine then_n ?_
                    cases h3
                    exact wk [0, 1, 2]
                · skip
                  refine aw_ifB h2 rfl (fun hc h2 => ?_) (fun hc h2 => ?_)
                  · skip
                    refine aw_seq ?_
                    refine aw_regionA (is := [0]) rfl ?_
                    refine rp rfl w0 rfl (pu_assign (r := .d _) rfl) ?_
                    refine ra_nil ?_
                    refine then_n ?_
                    refine aw_ret ?_
                    refine block_r ?_
                    refine then_r ?_
                    cases h2
                    refine loop_r ⟨_, rfl, fun e => ?_⟩
                    subst e
                    refine block_r ?_
                    replace h0 := orE_s h0
                    refine then_r ?_
                    cases h0
                    exact ret0_ (rs := [.tmp 2]) rfl
                  · skip
                    refine aw_skip ?_
                    refine block_n ?_
                    refine then_n ?_
                    refine aw_regionA (is := [0, 1]) rfl ?_
                    refine rp rfl w0 rfl (pw_add rfl rfl) ?_
                    refine rp rfl w0 rfl (pu_move (r := .d _) rfl) ?_
                    refine ra_nil ?_
                    refine loop_n ?_
                    cases h2
                    refine ⟨_, rfl, ?_⟩
                    exact wk [0, 1, 2]
          · skip
            refine aw_exit ?_
            refine then_e ?_
            cases h2
            refine loop_x ⟨_, rfl, fun e => ?_⟩
            subst e
            refine block_hit ?_
            refine then_n ?_
            refine ⟨_, rfl, ?_⟩
            exact wk [0, 1, 2]
      · skip
        rintro v13 rfl
        replace h0 := orE_f h0
        refine aw_seq ?_
        refine aw_regionA (is := [0]) rfl ?_
        refine rp rfl w0 rfl (pu_assign (r := .d _) rfl) ?_
        refine ra_nil ?_
        refine then_n ?_
        refine aw_ret ?_
        cases h0
        exact ret0_ (rs := [.tmp 2]) rfl

theorem i_validArbor_c {p0 : Arbor_} {r : Bool} (h0 : i_validArbor_m p0 = some r) : FnC Try.prog 140 [] [.agg [.d (.v (.string p0.Name)), .d (.sl (List.map cI p0.Wheels))]] [] (.d (.v (.bool r))) := by
  refine fnc_intro (T := tt) (N := 25) tok Try.func140 rfl rfl (by kernel_rfl) rfl rfl ?_
  unfold i_validArbor_m at h0
  refine aw_seq ?_
  refine aw_regionA (is := [0, 1]) rfl ?_
  refine rs rfl w0 rfl (st_box 3 (cs := _ :: _) rfl rfl rfl) ?_
  refine rp rfl w0 rfl (pu_assign (r := .d _) rfl) ?_
  refine ra_nil ?_
  refine then_n ?_
  obtain ⟨v7x, h1, h0⟩ := bnd h0
  refine aw_cutE v7x (fun v7 => ⟨updA ((fun _ => .dead)) 1 (.ptr 3 0 1 0 0), lks [.no, .no, .no, .live [⟨151, 2, .av [[.d (.v (.string p0.Name)), .d (.sl (List.map cI p0.Wheels))]]⟩]]⟩) ?_ ?_
  · skip
    refine aw_seq ?_
    refine aw_regionA (is := [0, 1, 2, 3]) rfl ?_
    refine rl rfl w0 rfl (bx_fa tok rfl rfl rfl rfl rfl rfl rfl) ?_
    refine rl rfl w0 rfl (bx_ld1 tok rfl rfl rfl rfl rfl) ?_
    refine rp rfl w0 rfl (pu_len_map tok rfl rfl rfl) ?_
    refine rp rfl w0 rfl (pu_move (r := .d _) rfl) ?_
    refine ra_nil ?_
    refine then_n ?_
    refine aw_block ?_
    refine aw_loopM (fun s4 => ⟨updA (updA (updA (updA ((fun _ => .dead)) 1 (.ptr 3 0 1 0 0)) 6 (.d (.sl (List.map cI p0.Wheels)))) 7 (.d (.v (.int .i64 (p0.Wheels.length : Int))))) 8 (.d (.v (.int .i64 s4))), lks [.no, .no, .no, .live [⟨151, 2, .av [[.d (.v (.string p0.Name)), .d (.sl (List.map cI p0.Wheels))]]⟩]]⟩) h1 ?_ (fun s4 y h2 => ?_)
    · skip
      exact wk [0, 1, 2, 3]
    · skip
      refine aw_seq ?_
      refine aw_regionA (is := [0]) rfl ?_
      refine rp rfl w0 rfl (pu_lss rfl rfl) ?_
      refine ra_nil ?_
      refine then_n ?_
      refine aw_seq ?_
      refine aw_if h2 rfl (fun hc h2 => ?_) (fun hc h2 => ?_)
      · skip
        refine aw_skip ?_
        refine then_n ?_
        refine aw_seq ?_
        refine aw_block ?_
        refine aw_seq ?_
        refine aw_regionA (is := [0, 1, 2]) rfl ?_
        obtain ⟨v5, hv5, h2⟩ := bnd h2
        refine rp rfl w0 rfl (sl_ix tok hv5 rfl rfl rfl rfl rfl rfl) ?_
        refine rp rfl w0 rfl (pu_load_ref1 tok rfl rfl rfl rfl) ?_
        refine rp rfl w0 rfl (pu_assign (r := .d _) rfl) ?_
        refine ra_nil ?_
        refine then_n ?_
        refine aw_seq ?_
        refine aw_regionA (is := [0, 1, 2]) rfl ?_
        refine rp rfl w0 rfl (pu_move (r := .d _) rfl) ?_
        obtain ⟨v6, hv6, h2⟩ := bnd h2
        refine rs rfl w0 rfl (c_call 4 (i_toothed_c hv6) rfl rfl rfl) ?_
        refine rp rfl w0 rfl (pu_not rfl) ?_
        refine ra_nil ?_
        refine then_n ?_
        refine aw_ifB h2 rfl (fun hc h2 => ?_) (fun hc h2 => ?_)
        · skip
          refine aw_seq ?_
          refine aw_regionA (is := [0]) rfl ?_
          refine rp rfl w0 rfl (pu_assign (r := .d _) rfl) ?_
          refine ra_nil ?_
          refine then_n ?_
          refine aw_ret ?_
          refine block_r ?_
          refine then_r ?_
          cases h2
          refine loop_r ⟨_, rfl, fun e => ?_⟩
          subst e
          refine block_r ?_
          replace h0 := orE_s h0
          refine then_r ?_
          cases h0
          exact ret0_ (rs := [.tmp 2]) rfl
        · skip
          refine aw_skip ?_
          refine block_n ?_
          refine then_n ?_
          refine aw_regionA (is := [0, 1]) rfl ?_
          refine rp rfl w0 rfl (pw_add rfl rfl) ?_
          refine rp rfl w0 rfl (pu_move (r := .d _) rfl) ?_
          refine ra_nil ?_
          refine loop_n ?_
          cases h2
          refine ⟨_, rfl, ?_⟩
          exact wk [0, 1, 2, 3]
      · skip
        refine aw_exit ?_
        refine then_e ?_
        cases h2
        refine loop_x ⟨_, rfl, fun e => ?_⟩
        subst e
        refine block_hit ?_
        refine then_n ?_
        refine ⟨_, rfl, ?_⟩
        exact wk [0, 1, 2, 3]
  · skip
    rintro v7 rfl
    replace h0 := orE_f h0
    refine aw_seq ?_
    refine aw_regionA (is := [0, 1, 2, 3, 4, 5, 6, 7, 8, 9]) rfl ?_
    refine rl rfl w0 rfl (bx_fa tok rfl rfl rfl rfl rfl rfl rfl) ?_
    refine rl rfl w0 rfl (bx_ld1 tok rfl rfl rfl rfl rfl) ?_
    obtain ⟨v8, hv8, h0⟩ := bnd h0
    refine rs rfl w0 rfl (c_call 4 (i_IsName_c hv8) rfl rfl rfl) ?_
    refine rp rfl w0 rfl (pu_move (r := .d _) rfl) ?_
    refine ra_ifB (u := 19) h0 rfl (fun hc h0 => ?_) (fun hc h0 => ?_)
    · skip
      refine rl rfl (w1 rfl rfl rfl) rfl (bx_fa tok rfl rfl rfl rfl rfl rfl rfl) ?_
      refine rl rfl (w1 rfl rfl rfl) rfl (bx_ld1 tok rfl rfl rfl rfl rfl) ?_
      refine rp rfl (w1 rfl rfl rfl) rfl (pu_len_map tok rfl rfl rfl) ?_
      refine rp rfl (w1 rfl rfl rfl) rfl (pu_leq rfl rfl) ?_
      refine rp rfl w0 rfl (pu_pick_t (r := .d _) rfl rfl) ?_
      refine rp rfl w0 rfl (pu_assign (r := .d _) rfl) ?_
      refine ra_nil ?_
      refine then_n ?_
      refine aw_ret ?_
      cases h0
      exact ret0_ (rs := [.tmp 2]) rfl
    · skip
      refine rk rfl rfl rfl (by first | exact .inl rfl | exact .inr rfl) rfl ?_
      refine rk rfl rfl rfl (by first | exact .inl rfl | exact .inr rfl) rfl ?_
      refine rk rfl rfl rfl (by first | exact .inl rfl | exact .inr rfl) rfl ?_
      refine rk rfl rfl rfl (by first | exact .inl rfl | exact .inr rfl) rfl ?_
      refine rp rfl w0 rfl (pu_pick_f (r := .d _) rfl rfl) ?_
      refine rp rfl w0 rfl (pu_assign (r := .d _) rfl) ?_
      refine ra_nil ?_
      refine then_n ?_
      refine aw_ret ?_
      cases h0
      exact ret0_ (rs := [.tmp 2]) rfl

theorem i_hasWheel_c {p0 : Works_} {p1 : Int} {p2 : Int} {r : Bool} (h0 : i_hasWheel_m p0 p1 p2 = some r) : FnC Try.prog 174 [] [.agg [.d (.sl (List.map cArbor_ p0.Arbors)), .d (.sl (List.map cMesh_ p0.Meshes))], .d (.v (.int .i64 p1)), .d (.v (.int .i64 p2))] [] (.d (.v (.bool r))) := by
  refine fnc_intro (T := tt) (N := 25) tok Try.func174 rfl rfl (by kernel_rfl) rfl rfl ?_
  unfold i_hasWheel_m at h0
  refine aw_seq ?_
  refine aw_regionA (is := [0, 1]) rfl ?_
  refine rs rfl w0 rfl (st_box 3 (cs := _ :: _) rfl rfl rfl) ?_
  refine rp rfl w0 rfl (pu_assign (r := .d _) rfl) ?_
  refine ra_nil ?_
  refine then_n ?_
  refine aw_seq ?_
  refine aw_regionA (is := [0, 1, 2, 3, 4, 5, 6, 7, 8, 9, 10, 11, 12, 13, 14, 15, 16, 17, 18]) rfl ?_
  refine rp rfl w0 rfl (pu_move (r := .d _) rfl) ?_
  refine rl rfl w0 rfl (bx_fa tok rfl rfl rfl rfl rfl rfl rfl) ?_
  refine rl rfl w0 rfl (bx_ld1 tok rfl rfl rfl rfl rfl) ?_
  refine rp rfl w0 rfl (pu_len_map tok rfl rfl rfl) ?_
  refine rp rfl w0 rfl (pw_sub rfl rfl) ?_
  obtain ⟨v1, hv1, h0⟩ := bnd h0
  refine rs rfl w0 rfl (c_call 4 (i_within_c hv1) rfl rfl rfl) ?_
  refine rp rfl w0 rfl (pu_move (r := .d _) rfl) ?_
  refine ra_ifB (u := 13) h0 rfl (fun hc h0 => ?_) (fun hc h0 => ?_)
  · skip
    refine rp rfl (w1 rfl rfl rfl) rfl (pu_move (r := .d _) rfl) ?_
    refine rl rfl (w1 rfl rfl rfl) rfl (bx_fa tok rfl rfl rfl rfl rfl rfl rfl) ?_
    refine rl rfl (w1 rfl rfl rfl) rfl (bx_ld1 tok rfl rfl rfl rfl rfl) ?_
    refine rp rfl (w1 rfl rfl rfl) rfl (pu_move (r := .d _) rfl) ?_
    obtain ⟨v2, hv2, h0⟩ := bnd h0
    refine rp rfl (w1 rfl rfl rfl) rfl (sl_ix tok hv2 rfl rfl rfl rfl rfl rfl) ?_
    refine rp rfl (w1 rfl rfl rfl) rfl (pu_fieldAddr_ref tok rfl rfl rfl rfl rfl rfl (by repeat (first | exact Drp.z _ | apply Drp.d))) ?_
    refine rp rfl (w1 rfl rfl rfl) rfl (pu_load_ref1 tok rfl rfl rfl rfl) ?_
    refine rp rfl (w1 rfl rfl rfl) rfl (pu_len_map tok rfl rfl rfl) ?_
    refine rp rfl (w1 rfl rfl rfl) rfl (pw_sub rfl rfl) ?_
    obtain ⟨v3, hv3, h0⟩ := bnd h0
    refine rs rfl (w1 rfl rfl rfl) rfl (c_call 4 (i_within_c hv3) rfl rfl rfl) ?_
    refine rp rfl w0 rfl (pu_pick_t (r := .d _) rfl rfl) ?_
    refine rp rfl w0 rfl (pu_assign (r := .d _) rfl) ?_
    refine ra_nil ?_
    refine then_n ?_
    refine aw_ret ?_
    cases h0
    exact ret0_ (rs := [.tmp 6]) rfl
  · skip
    refine rk rfl rfl rfl (by first | exact .inl rfl | exact .inr rfl) rfl ?_
    refine rk rfl rfl rfl (by first | exact .inl rfl | exact .inr rfl) rfl ?_
    refine rk rfl rfl rfl (by first | exact .inl rfl | exact .inr rfl) rfl ?_
    refine rk rfl rfl rfl (by first | exact .inl rfl | exact .inr rfl) rfl ?_
    refine rk rfl rfl rfl (by first | exact .inl rfl | exact .inr rfl) rfl ?_
    refine rk rfl rfl rfl (by first | exact .inl rfl | exact .inr rfl) rfl ?_
    refine rk rfl rfl rfl (by first | exact .inl rfl | exact .inr rfl) rfl ?_
    refine rk rfl rfl rfl (by first | exact .inl rfl | exact .inr rfl) rfl ?_
    refine rk rfl rfl rfl (by first | exact .inl rfl | exact .inr rfl) rfl ?_
    refine rk rfl rfl rfl (by first | exact .inl rfl | exact .inr rfl) rfl ?_
    refine rp rfl w0 rfl (pu_pick_f (r := .d _) rfl rfl) ?_
    refine rp rfl w0 rfl (pu_assign (r := .d _) rfl) ?_
    refine ra_nil ?_
    refine then_n ?_
    refine aw_ret ?_
    cases h0
    exact ret0_ (rs := [.tmp 6]) rfl

theorem i_joins_c {p0 : Works_} {p1 : Mesh_} {r : Bool} (h0 : i_joins_m p0 p1 = some r) : FnC Try.prog 141 [] [.agg [.d (.sl (List.map cArbor_ p0.Arbors)), .d (.sl (List.map cMesh_ p0.Meshes))], .agg [.d (.v (.int .i64 p1.A)), .d (.v (.int .i64 p1.WheelA)), .d (.v (.int .i64 p1.B)), .d (.v (.int .i64 p1.WheelB))]] [] (.d (.v (.bool r))) := by
  refine fnc_intro (T := tt) (N := 26) tok Try.func141 rfl rfl (by kernel_rfl) rfl rfl ?_
  unfold i_joins_m at h0
  refine aw_seq ?_
  refine aw_regionA (is := [0, 1, 2]) rfl ?_
  refine rs rfl w0 rfl (st_box 3 (cs := _ :: _) rfl rfl rfl) ?_
  refine rs rfl w0 rfl (st_box 4 (cs := _ :: _) rfl rfl rfl) ?_
  refine rp rfl w0 rfl (pu_assign (r := .d _) rfl) ?_
  refine ra_nil ?_
  refine then_n ?_
  refine aw_seq ?_
  refine aw_regionA (is := [0, 1, 2, 3, 4, 5, 6, 7, 8, 9, 10, 11, 12, 13, 14, 15, 16, 17, 18, 19, 20, 21]) rfl ?_
  refine rl rfl w0 rfl (bx_fa tok rfl rfl rfl rfl rfl rfl rfl) ?_
  refine rl rfl w0 rfl (bx_ld1 tok rfl rfl rfl rfl rfl) ?_
  refine rl rfl w0 rfl (bx_fa tok rfl rfl rfl rfl rfl rfl rfl) ?_
  refine rl rfl w0 rfl (bx_ld1 tok rfl rfl rfl rfl rfl) ?_
  refine rp rfl w0 rfl (pu_neq rfl rfl) ?_
  refine rp rfl w0 rfl (pu_move (r := .d _) rfl) ?_
  refine ra_if (u := 10) h0 rfl (fun hc h0 => ?_) (fun hc h0 => ?_)
  · skip
    refine rl rfl (w1 rfl rfl rfl) rfl (bx_ldN tok rfl rfl rfl rfl) ?_
    refine rl rfl (w1 rfl rfl rfl) rfl (bx_fa tok rfl rfl rfl rfl rfl rfl rfl) ?_
    refine rl rfl (w1 rfl rfl rfl) rfl (bx_ld1 tok rfl rfl rfl rfl rfl) ?_
    refine rl rfl (w1 rfl rfl rfl) rfl (bx_fa tok rfl rfl rfl rfl rfl rfl rfl) ?_
    refine rl rfl (w1 rfl rfl rfl) rfl (bx_ld1 tok rfl rfl rfl rfl rfl) ?_
    obtain ⟨v1, hv1, h0⟩ := bnd h0
    refine rs rfl (w1 rfl rfl rfl) rfl (c_call 5 (i_hasWheel_c hv1) rfl rfl rfl) ?_
    refine rp rfl w0 rfl (pu_pick_t (r := .d _) rfl rfl) ?_
    refine rp rfl w0 rfl (pu_move (r := .d _) rfl) ?_
    refine ra_ifB (u := 18) h0 rfl (fun hc h0 => ?_) (fun hc h0 => ?_)
    · skip
      refine rl rfl (w1 rfl rfl rfl) rfl (bx_ldN tok rfl rfl rfl rfl) ?_
      refine rl rfl (w1 rfl rfl rfl) rfl (bx_fa tok rfl rfl rfl rfl rfl rfl rfl) ?_
      refine rl rfl (w1 rfl rfl rfl) rfl (bx_ld1 tok rfl rfl rfl rfl rfl) ?_
      refine rl rfl (w1 rfl rfl rfl) rfl (bx_fa tok rfl rfl rfl rfl rfl rfl rfl) ?_
      refine rl rfl (w1 rfl rfl rfl) rfl (bx_ld1 tok rfl rfl rfl rfl rfl) ?_
      obtain ⟨v2, hv2, h0⟩ := bnd h0
      refine rs rfl (w1 rfl rfl rfl) rfl (c_call 5 (i_hasWheel_c hv2) rfl rfl rfl) ?_
      refine rp rfl w0 rfl (pu_pick_t (r := .d _) rfl rfl) ?_
      refine rp rfl w0 rfl (pu_assign (r := .d _) rfl) ?_
      refine ra_nil ?_
      refine then_n ?_
      refine aw_ret ?_
      cases h0
      exact ret0_ (rs := [.tmp 4]) rfl
    · skip
      refine rk rfl rfl rfl (by first | exact .inl rfl | exact .inr rfl) rfl ?_
      refine rk rfl rfl rfl (by first | exact .inl rfl | exact .inr rfl) rfl ?_
      refine rk rfl rfl rfl (by first | exact .inl rfl | exact .inr rfl) rfl ?_
      refine rk rfl rfl rfl (by first | exact .inl rfl | exact .inr rfl) rfl ?_
      refine rk rfl rfl rfl (by first | exact .inl rfl | exact .inr rfl) rfl ?_
      refine rk rfl rfl rfl (by first | exact .inl rfl | exact .inr rfl) rfl ?_
      refine rp rfl w0 rfl (pu_pick_f (r := .d _) rfl rfl) ?_
      refine rp rfl w0 rfl (pu_assign (r := .d _) rfl) ?_
      refine ra_nil ?_
      refine then_n ?_
      refine aw_ret ?_
      cases h0
      exact ret0_ (rs := [.tmp 4]) rfl
  · skip
    refine rk rfl rfl rfl (by first | exact .inl rfl | exact .inr rfl) rfl ?_
    refine rk rfl rfl rfl (by first | exact .inl rfl | exact .inr rfl) rfl ?_
    refine rk rfl rfl rfl (by first | exact .inl rfl | exact .inr rfl) rfl ?_
    refine rk rfl rfl rfl (by first | exact .inl rfl | exact .inr rfl) rfl ?_
    refine rk rfl rfl rfl (by first | exact .inl rfl | exact .inr rfl) rfl ?_
    refine rk rfl rfl rfl (by first | exact .inl rfl | exact .inr rfl) rfl ?_
    refine rp rfl w0 rfl (pu_pick_f (r := .d _) rfl rfl) ?_
    refine rp rfl w0 rfl (pu_move (r := .d _) rfl) ?_
    refine rk rfl rfl rfl (by first | exact .inl rfl | exact .inr rfl) rfl ?_
    refine rk rfl rfl rfl (by first | exact .inl rfl | exact .inr rfl) rfl ?_
    refine rk rfl rfl rfl (by first | exact .inl rfl | exact .inr rfl) rfl ?_
    refine rk rfl rfl rfl (by first | exact .inl rfl | exact .inr rfl) rfl ?_
    refine rk rfl rfl rfl (by first | exact .inl rfl | exact .inr rfl) rfl ?_
    refine rk rfl rfl rfl (by first | exact .inl rfl | exact .inr rfl) rfl ?_
    refine rp rfl w0 rfl (pu_pick_f (r := .d _) rfl rfl) ?_
    refine rp rfl w0 rfl (pu_assign (r := .d _) rfl) ?_
    refine ra_nil ?_
    refine then_n ?_
    refine aw_ret ?_
    cases h0
    exact ret0_ (rs := [.tmp 4]) rfl

theorem i_sameMesh_c {p0 : Mesh_} {p1 : Mesh_} {r : Bool} (h0 : i_sameMesh_m p0 p1 = some r) : FnC Try.prog 144 [] [.agg [.d (.v (.int .i64 p0.A)), .d (.v (.int .i64 p0.WheelA)), .d (.v (.int .i64 p0.B)), .d (.v (.int .i64 p0.WheelB))], .agg [.d (.v (.int .i64 p1.A)), .d (.v (.int .i64 p1.WheelA)), .d (.v (.int .i64 p1.B)), .d (.v (.int .i64 p1.WheelB))]] [] (.d (.v (.bool r))) := by
  refine fnc_intro (T := tt) (N := 21) tok Try.func144 rfl rfl (by kernel_rfl) rfl rfl ?_
  unfold i_sameMesh_m at h0
  refine aw_seq ?_
  refine aw_regionA (is := [0, 1, 2]) rfl ?_
  refine rs rfl w0 rfl (st_box 3 (cs := _ :: _) rfl rfl rfl) ?_
  refine rs rfl w0 rfl (st_box 4 (cs := _ :: _) rfl rfl rfl) ?_
  refine rp rfl w0 rfl (pu_assign (r := .d _) rfl) ?_
  refine ra_nil ?_
  refine then_n ?_
  refine aw_seq ?_
  refine aw_regionA (is := [0, 1, 2, 3, 4, 5, 6, 7, 8, 9, 10, 11, 12, 13, 14, 15, 16]) rfl ?_
  refine rl rfl w0 rfl (bx_ldN tok rfl rfl rfl rfl) ?_
  refine rl rfl w0 rfl (bx_ldN tok rfl rfl rfl rfl) ?_
  refine rp rfl w0 rfl (ps_eql_Mesh_ (a := p0) (b := p1) rfl rfl) ?_
  refine rp rfl w0 rfl (pu_move (r := .d _) rfl) ?_
  refine ra_if (u := 8) h0 rfl (fun hc h0 => ?_) (fun hc h0 => ?_)
  · skip
    refine rk rfl rfl rfl (by first | exact .inl rfl | exact .inr rfl) rfl ?_
    refine rk rfl rfl rfl (by first | exact .inl rfl | exact .inr rfl) rfl ?_
    refine rk rfl rfl rfl (by first | exact .inl rfl | exact .inr rfl) rfl ?_
    refine rk rfl rfl rfl (by first | exact .inl rfl | exact .inr rfl) rfl ?_
    refine rk rfl rfl rfl (by first | exact .inl rfl | exact .inr rfl) rfl ?_
    refine rk rfl rfl rfl (by first | exact .inl rfl | exact .inr rfl) rfl ?_
    refine rk rfl rfl rfl (by first | exact .inl rfl | exact .inr rfl) rfl ?_
    refine rk rfl rfl rfl (by first | exact .inl rfl | exact .inr rfl) rfl ?_
    refine rk rfl rfl rfl (by first | exact .inl rfl | exact .inr rfl) rfl ?_
    refine rk rfl rfl rfl (by first | exact .inl rfl | exact .inr rfl) rfl ?_
    refine rk rfl rfl rfl (by first | exact .inl rfl | exact .inr rfl) rfl ?_
    refine rp rfl w0 rfl (pu_pick_t (r := .d _) rfl rfl) ?_
    refine rp rfl w0 rfl (pu_assign (r := .d _) rfl) ?_
    refine ra_nil ?_
    refine then_n ?_
    refine aw_ret ?_
    cases h0
    exact ret0_ (rs := [.tmp 4]) rfl
  · skip
    refine rl rfl (w1 rfl rfl rfl) rfl (bx_ldN tok rfl rfl rfl rfl) ?_
    refine rl rfl (w1 rfl rfl rfl) rfl (bx_fa tok rfl rfl rfl rfl rfl rfl rfl) ?_
    refine rl rfl (w1 rfl rfl rfl) rfl (bx_ld1 tok rfl rfl rfl rfl rfl) ?_
    refine rl rfl (w1 rfl rfl rfl) rfl (bx_fa tok rfl rfl rfl rfl rfl rfl rfl) ?_
    refine rl rfl (w1 rfl rfl rfl) rfl (bx_ld1 tok rfl rfl rfl rfl rfl) ?_
    refine rl rfl (w1 rfl rfl rfl) rfl (bx_fa tok rfl rfl rfl rfl rfl rfl rfl) ?_
    refine rl rfl (w1 rfl rfl rfl) rfl (bx_ld1 tok rfl rfl rfl rfl rfl) ?_
    refine rl rfl (w1 rfl rfl rfl) rfl (bx_fa tok rfl rfl rfl rfl rfl rfl rfl) ?_
    refine rl rfl (w1 rfl rfl rfl) rfl (bx_ld1 tok rfl rfl rfl rfl rfl) ?_
    refine rp rfl (w1 rfl rfl rfl) rfl (pu_build (C0 := [.d (.v (.int .i64 0)), .d (.v (.int .i64 0)), .d (.v (.int .i64 0)), .d (.v (.int .i64 0))]) tok rfl rfl (by repeat (first | exact Plc.nil | apply Plc.cons rfl)) rfl (by repeat (first | exact Bld.nil _ | apply Bld.cons (cs := [.d _]) rfl rfl rfl rfl (by repeat (first | exact Spl.z _ | apply Spl.t | apply Spl.d)) | apply Bld.cons (cs := [.own _ _ _]) rfl rfl rfl rfl (by repeat (first | exact Spl.z _ | apply Spl.t | apply Spl.d)) | apply Bld.cons (cs := [.ptr _ _ _ _ _]) rfl rfl rfl rfl (by repeat (first | exact Spl.z _ | apply Spl.t | apply Spl.d)) | apply Bld.cons (cs := [.fn _ _]) rfl rfl rfl rfl (by repeat (first | exact Spl.z _ | apply Spl.t | apply Spl.d)) | apply Bld.cons (cs := _ :: _) rfl rfl rfl rfl (by repeat (first | exact Spl.z _ | apply Spl.t | apply Spl.d))))) ?_
    refine rp rfl (w1 rfl rfl rfl) rfl (ps_eql_Mesh_ (a := p0) (b := (⟨p1.B, p1.WheelB, p1.A, p1.WheelA⟩ : Mesh_)) rfl rfl) ?_
    refine rp rfl w0 rfl (pu_pick_f (r := .d _) rfl rfl) ?_
    refine rp rfl w0 rfl (pu_assign (r := .d _) rfl) ?_
    refine ra_nil ?_
    refine then_n ?_
    refine aw_ret ?_
    cases h0
    exact ret0_ (rs := [.tmp 4]) rfl

theorem i_ValidWorks_1_c {p0 : Mesh_} {p1 : Mesh_} {r : Bool} (h0 : i_ValidWorks_1_m p0 p1 = some r) : FnC Try.prog 143 [] [.agg [.d (.v (.int .i64 p0.A)), .d (.v (.int .i64 p0.WheelA)), .d (.v (.int .i64 p0.B)), .d (.v (.int .i64 p0.WheelB))], .ref (cMesh_ p1)] [] (.d (.v (.bool r))) := by
  refine fnc_intro (T := tt) (N := 7) tok Try.func143 rfl rfl (by kernel_rfl) rfl rfl ?_
  unfold i_ValidWorks_1_m at h0
  refine aw_seq ?_
  refine aw_regionA (is := [0, 1]) rfl ?_
  refine rs rfl w0 rfl (st_box 3 (cs := _ :: _) rfl rfl rfl) ?_
  refine rp rfl w0 rfl (pu_assign (r := .d _) rfl) ?_
  refine ra_nil ?_
  refine then_n ?_
  refine aw_seq ?_
  refine aw_regionA (is := [0, 1, 2, 3]) rfl ?_
  refine rp rfl w0 rfl (pu_load_refN tok rfl rfl rfl (by repeat (first | exact SegD.z _ | apply SegD.t))) ?_
  refine rl rfl w0 rfl (bx_ldN tok rfl rfl rfl rfl) ?_
  obtain ⟨v1, hv1, h0⟩ := bnd h0
  refine rs rfl w0 rfl (c_call 4 (i_sameMesh_c hv1) rfl rfl rfl) ?_
  refine rp rfl w0 rfl (pu_assign (r := .d _) rfl) ?_
  refine ra_nil ?_
  refine then_n ?_
  refine aw_ret ?_
  cases h0
  exact ret0_ (rs := [.tmp 3]) rfl

theorem slices_IndexFunc_LMesh_Mesh_i_ValidWorks_1_c {p0 : List Mesh_} {p1_0 : Mesh_} {r : Int} (h0 : slices_IndexFunc_LMesh_Mesh_i_ValidWorks_1_m p0 p1_0 = some r) : FnC Try.prog 175 [] [.d (.sl (List.map cMesh_ p0)), .fn 143 [.ref (cMesh_ p1_0)]] [] (.d (.v (.int .i64 r))) := by
  refine fnc_intro (T := tt) (N := 19) tok Try.func175 rfl rfl (by kernel_rfl) rfl rfl ?_
  unfold slices_IndexFunc_LMesh_Mesh_i_ValidWorks_1_m at h0
  refine aw_seq ?_
  refine aw_regionA (is := [0]) rfl ?_
  refine rp rfl w0 rfl (pu_assign (r := .d _) rfl) ?_
  refine ra_nil ?_
  refine then_n ?_
  obtain ⟨v7x, h1, h0⟩ := bnd h0
  refine aw_cutE v7x (fun v7 => ⟨(fun _ => .dead), lks [.no, .no, .no]⟩) ?_ ?_
  · skip
    refine aw_seq ?_
    refine aw_regionA (is := [0, 1, 2]) rfl ?_
    refine rp rfl w0 rfl (pu_move (r := .d _) rfl) ?_
    refine rp rfl w0 rfl (pu_len_map tok rfl rfl rfl) ?_
    refine rp rfl w0 rfl (pu_move (r := .d _) rfl) ?_
    refine ra_nil ?_
    refine then_n ?_
    refine aw_block ?_
    refine aw_loopM (fun s4 => ⟨updA (updA (updA (updA ((fun _ => .dead)) 0 (.d (.sl (List.map cMesh_ p0)))) 1 (.fn 143 [.ref (cMesh_ p1_0)])) 7 (.d (.v (.int .i64 (p0.length : Int))))) 8 (.d (.v (.int .i64 s4))), lks [.no, .no, .no]⟩) h1 ?_ (fun s4 y h2 => ?_)
    · skip
      exact wk [0, 1, 2]
    · skip
      refine aw_seq ?_
      refine aw_regionA (is := [0]) rfl ?_
      refine rp rfl w0 rfl (pu_lss rfl rfl) ?_
      refine ra_nil ?_
      refine then_n ?_
      refine aw_seq ?_
      refine aw_if h2 rfl (fun hc h2 => ?_) (fun hc h2 => ?_)
      · skip
        refine aw_skip ?_
        refine then_n ?_
        refine aw_seq ?_
        refine aw_block ?_
        refine aw_seq ?_
        refine aw_regionA (is := [0, 1]) rfl ?_
        refine rp rfl w0 rfl (pu_move (r := .d _) rfl) ?_
        refine rp rfl w0 rfl (pu_assign (r := .d _) rfl) ?_
        refine ra_nil ?_
        refine then_n ?_
        refine aw_seq ?_
        refine aw_regionA (is := [0, 1, 2, 3, 4, 5]) rfl ?_
        refine rp rfl w0 rfl (pu_move (r := .fn _ _) rfl) ?_
        refine rp rfl w0 rfl (pu_move (r := .d _) rfl) ?_
        refine rp rfl w0 rfl (pu_move (r := .d _) rfl) ?_
        obtain ⟨v5, hv5, h2⟩ := bnd h2
        refine rp rfl w0 rfl (sl_ix tok hv5 rfl rfl rfl rfl rfl rfl) ?_
        refine rp rfl w0 rfl (pu_load_refN tok rfl rfl rfl (by repeat (first | exact SegD.z _ | apply SegD.t))) ?_
        obtain ⟨v6, hv6, h2⟩ := bnd h2
        refine rs rfl w0 rfl (c_call 3 (i_ValidWorks_1_c hv6) rfl rfl rfl) ?_
        refine ra_nil ?_
        refine then_n ?_
        refine aw_ifB h2 rfl (fun hc h2 => ?_) (fun hc h2 => ?_)
        · skip
          refine aw_seq ?_
          refine aw_regionA (is := [0, 1]) rfl ?_
          refine rp rfl w0 rfl (pu_move (r := .d _) rfl) ?_
          refine rp rfl w0 rfl (pu_assign (r := .d _) rfl) ?_
          refine ra_nil ?_
          refine then_n ?_
          refine aw_ret ?_
          refine block_r ?_
          refine then_r ?_
          cases h2
          refine loop_r ⟨_, rfl, fun e => ?_⟩
          subst e
          refine block_r ?_
          replace h0 := orE_s h0
          refine then_r ?_
          cases h0
          exact ret0_ (rs := [.tmp 4]) rfl
        · skip
          refine aw_skip ?_
          refine block_n ?_
          refine then_n ?_
          refine aw_regionA (is := [0, 1]) rfl ?_
          refine rp rfl w0 rfl (pw_add rfl rfl) ?_
          refine rp rfl w0 rfl (pu_move (r := .d _) rfl) ?_
          refine ra_nil ?_
          refine loop_n ?_
          cases h2
          refine ⟨_, rfl, ?_⟩
          exact wk [0, 1, 2]
      · skip
        refine aw_exit ?_
        refine then_e ?_
        cases h2
        refine loop_x ⟨_, rfl, fun e => ?_⟩
        subst e
        refine block_hit ?_
        refine then_n ?_
        refine ⟨_, rfl, ?_⟩
        exact wk [0, 1, 2]
  · skip
    rintro v7 rfl
    replace h0 := orE_f h0
    refine aw_seq ?_
    refine aw_regionA (is := [0]) rfl ?_
    refine rp rfl w0 rfl (pu_assign (r := .d _) rfl) ?_
    refine ra_nil ?_
    refine then_n ?_
    refine aw_ret ?_
    cases h0
    exact ret0_ (rs := [.tmp 4]) rfl

theorem slices_ContainsFunc_LMesh_Mesh_i_ValidWorks_1_c {p0 : List Mesh_} {p1_0 : Mesh_} {r : Bool} (h0 : slices_ContainsFunc_LMesh_Mesh_i_ValidWorks_1_m p0 p1_0 = some r) : FnC Try.prog 142 [] [.d (.sl (List.map cMesh_ p0)), .fn 143 [.ref (cMesh_ p1_0)]] [] (.d (.v (.bool r))) := by
  refine fnc_intro (T := tt) (N := 9) tok Try.func142 rfl rfl (by kernel_rfl) rfl rfl ?_
  unfold slices_ContainsFunc_LMesh_Mesh_i_ValidWorks_1_m at h0
  refine aw_seq ?_
  refine aw_regionA (is := [0]) rfl ?_
  refine rp rfl w0 rfl (pu_assign (r := .d _) rfl) ?_
  refine ra_nil ?_
  refine then_n ?_
  refine aw_seq ?_
  refine aw_regionA (is := [0, 1, 2, 3, 4]) rfl ?_
  refine rp rfl w0 rfl (pu_move (r := .d _) rfl) ?_
  refine rp rfl w0 rfl (pu_move (r := .fn _ _) rfl) ?_
  obtain ⟨v1, hv1, h0⟩ := bnd h0
  refine rs rfl w0 rfl (c_call 3 (slices_IndexFunc_LMesh_Mesh_i_ValidWorks_1_c hv1) rfl rfl rfl) ?_
  refine rp rfl w0 rfl (pu_geq rfl rfl) ?_
  refine rp rfl w0 rfl (pu_assign (r := .d _) rfl) ?_
  refine ra_nil ?_
  refine then_n ?_
  refine aw_ret ?_
  cases h0
  exact ret0_ (rs := [.tmp 4]) rfl

theorem i_ValidWorks_c {p0 : Works_} {r : Bool} (h0 : i_ValidWorks_m p0 = some r) : FnC Try.prog 100 [] [.agg [.d (.sl (List.map cArbor_ p0.Arbors)), .d (.sl (List.map cMesh_ p0.Meshes))]] [] (.d (.v (.bool r))) := by
  refine fnc_intro (T := tt) (N := 67) tok Try.func100 rfl rfl (by kernel_rfl) rfl rfl ?_
  unfold i_ValidWorks_m at h0
  refine aw_seq ?_
  refine aw_regionA (is := [0, 1]) rfl ?_
  refine rs rfl w0 rfl (st_box 3 (cs := _ :: _) rfl rfl rfl) ?_
  refine rp rfl w0 rfl (pu_assign (r := .d _) rfl) ?_
  refine ra_nil ?_
  refine then_n ?_
  refine aw_seq ?_
  obtain ⟨v1, h1, h0⟩ := bnd h0
  refine aw_cut ⟨updA (updA ((fun _ => .dead)) 1 (.ptr 3 0 1 0 0)) 18 (.d (.v (.bool v1))), lks [.no, .no, .no, .live [⟨71, 2, .av [[.d (.sl (List.map cArbor_ p0.Arbors)), .d (.sl (List.map cMesh_ p0.Meshes))]]⟩]]⟩ ?_ ?_
  · skip
    refine aw_regionA (is := [0, 1, 2, 3, 4, 5, 6, 7, 8, 9]) rfl ?_
    refine rl rfl w0 rfl (bx_fa tok rfl rfl rfl rfl rfl rfl rfl) ?_
    refine rl rfl w0 rfl (bx_ld1 tok rfl rfl rfl rfl rfl) ?_
    refine rp rfl w0 rfl (pu_len_map tok rfl rfl rfl) ?_
    refine rp rfl w0 rfl (pu_gtr rfl rfl) ?_
    refine rp rfl w0 rfl (pu_move (r := .d _) rfl) ?_
    refine ra_if (u := 13) h1 rfl (fun hc h1 => ?_) (fun hc h1 => ?_)
    · skip
      refine rk rfl rfl rfl (by first | exact .inl rfl | exact .inr rfl) rfl ?_
      refine rk rfl rfl rfl (by first | exact .inl rfl | exact .inr rfl) rfl ?_
      refine rk rfl rfl rfl (by first | exact .inl rfl | exact .inr rfl) rfl ?_
      refine rk rfl rfl rfl (by first | exact .inl rfl | exact .inr rfl) rfl ?_
      refine rp rfl w0 rfl (pu_pick_t (r := .d _) rfl rfl) ?_
      refine ra_nil ?_
      refine then_n ?_
      cases h1
      exact wk [0, 1, 2, 3]
    · skip
      refine rl rfl (w1 rfl rfl rfl) rfl (bx_fa tok rfl rfl rfl rfl rfl rfl rfl) ?_
      refine rl rfl (w1 rfl rfl rfl) rfl (bx_ld1 tok rfl rfl rfl rfl rfl) ?_
      refine rp rfl (w1 rfl rfl rfl) rfl (pu_len_map tok rfl rfl rfl) ?_
      refine rp rfl (w1 rfl rfl rfl) rfl (pu_gtr rfl rfl) ?_
      refine rp rfl w0 rfl (pu_pick_f (r := .d _) rfl rfl) ?_
      refine ra_nil ?_
      refine then_n ?_
      cases h1
      exact wk [0, 1, 2, 3]
  · skip
    refine aw_ifB h0 rfl (fun hc h0 => ?_) (fun hc h0 => ?_)
    · skip
      refine aw_seq ?_
      refine aw_regionA (is := [0]) rfl ?_
      refine rp rfl w0 rfl (pu_assign (r := .d _) rfl) ?_
      refine ra_nil ?_
      refine then_n ?_
      refine aw_ret ?_
      refine then_r ?_
      cases h0
      exact ret0_ (rs := [.tmp 2]) rfl
    · skip
      refine aw_skip ?_
      refine then_n ?_
      obtain ⟨v20x, h1, h0⟩ := bnd h0
      refine aw_cutE v20x (fun v20 => ⟨updA ((fun _ => .dead)) 1 (.ptr 3 0 1 0 0), lks [.no, .no, .no, .live [⟨71, 2, .av [[.d (.sl (List.map cArbor_ p0.Arbors)), .d (.sl (List.map cMesh_ p0.Meshes))]]⟩]]⟩) ?_ ?_
      · skip
        refine aw_seq ?_
        refine aw_regionA (is := [0, 1, 2, 3]) rfl ?_
        refine rl rfl w0 rfl (bx_fa tok rfl rfl rfl rfl rfl rfl rfl) ?_
        refine rl rfl w0 rfl (bx_ld1 tok rfl rfl rfl rfl rfl) ?_
        refine rp rfl w0 rfl (pu_len_map tok rfl rfl rfl) ?_
        refine rp rfl w0 rfl (pu_move (r := .d _) rfl) ?_
        refine ra_nil ?_
        refine then_n ?_
        refine aw_block ?_
        refine aw_loopM (fun s11 => ⟨updA (updA (updA (updA ((fun _ => .dead)) 1 (.ptr 3 0 1 0 0)) 20 (.d (.sl (List.map cArbor_ p0.Arbors)))) 21 (.d (.v (.int .i64 (p0.Arbors.length : Int))))) 22 (.d (.v (.int .i64 s11))), lks [.no, .no, .no, .live [⟨71, 2, .av [[.d (.sl (List.map cArbor_ p0.Arbors)), .d (.sl (List.map cMesh_ p0.Meshes))]]⟩]]⟩) h1 ?_ (fun s11 y h2 => ?_)
        · skip
          exact wk [0, 1, 2, 3]
        · skip
          refine aw_seq ?_
          refine aw_regionA (is := [0]) rfl ?_
          refine rp rfl w0 rfl (pu_lss rfl rfl) ?_
          refine ra_nil ?_
          refine then_n ?_
          refine aw_seq ?_
          refine aw_if h2 rfl (fun hc h2 => ?_) (fun hc h2 => ?_)
          · skip
            refine aw_skip ?_
            refine then_n ?_
            obtain ⟨v19x, h3, h2⟩ := bnd h2
            refine aw_cutE v19x (fun v19 => ⟨updA (updA (updA (updA ((fun _ => .dead)) 1 (.ptr 3 0 1 0 0)) 20 (.d (.sl (List.map cArbor_ p0.Arbors)))) 21 (.d (.v (.int .i64 (p0.Arbors.length : Int))))) 22 (.d (.v (.int .i64 s11))), lks [.no, .no, .no, .live [⟨71, 2, .av [[.d (.sl (List.map cArbor_ p0.Arbors)), .d (.sl (List.map cMesh_ p0.Meshes))]]⟩]]⟩) ?_ ?_
            · skip
              refine aw_block ?_
              refine aw_seq ?_
              refine aw_regionA (is := [0, 1, 2, 3, 4, 5]) rfl ?_
              refine rp rfl w0 rfl (pu_move (r := .d _) rfl) ?_
              obtain ⟨v12, hv12, h3⟩ := bnd h3
              refine rp rfl w0 rfl (sl_ix tok hv12 rfl rfl rfl rfl rfl rfl) ?_
              refine rp rfl w0 rfl (pu_load_refN tok rfl rfl rfl (by repeat (first | exact SegD.z _ | apply SegD.t))) ?_
              refine rs rfl w0 rfl (st_alloc 4 (cs := [.d (.v (.string (⟨#[]⟩ : ByteArray))), .d (.v (.slice none 0 0))]) tok rfl rfl rfl) ?_
              refine rp rfl w0 rfl (pu_assign (r := .d _) rfl) ?_
              refine rw0 rfl w0 (bx_st (cs := _ :: _) tok rfl rfl rfl rfl rfl rfl rfl) ?_
              refine ra_nil ?_
              refine then_n ?_
              refine aw_seq ?_
              refine aw_seq ?_
              refine aw_regionA (is := [0, 1, 2]) rfl ?_
              refine rl rfl w0 rfl (bx_ldN tok rfl rfl rfl rfl) ?_
              obtain ⟨v13, hv13, h3⟩ := bnd h3
              refine rs rfl w0 rfl (c_call 5 (i_validArbor_c hv13) rfl rfl rfl) ?_
              refine rp rfl w0 rfl (pu_not rfl) ?_
              refine ra_nil ?_
              refine then_n ?_
              refine aw_ifB h3 rfl (fun hc h3 => ?_) (fun hc h3 => ?_)
              · skip
                refine aw_seq ?_
                refine aw_regionA (is := [0]) rfl ?_
                refine rp rfl w0 rfl (pu_assign (r := .d _) rfl) ?_
                refine ra_nil ?_
                refine then_n ?_
                refine aw_ret ?_
                refine then_r ?_
                refine block_r ?_
                cases h3
                replace h2 := orE_s h2
                refine then_r ?_
                cases h2
                refine loop_r ⟨_, rfl, fun e => ?_⟩
                subst e
                refine block_r ?_
                replace h0 := orE_s h0
                refine then_r ?_
                cases h0
                exact ret0_ (rs := [.tmp 2]) rfl
              · skip
                refine aw_skip ?_
                refine then_n ?_
                refine aw_seq ?_
                refine aw_regionA (is := [0, 1, 2, 3, 4, 5]) rfl ?_
                refine rl rfl w0 rfl (bx_fa tok rfl rfl rfl rfl rfl rfl rfl) ?_
                refine rl rfl w0 rfl (bx_ld1 tok rfl rfl rfl rfl rfl) ?_
                refine rp rfl w0 rfl (pu_move (r := .d _) rfl) ?_
                obtain ⟨hq14, h3⟩ := chk_e h3
                refine rp rfl w0 rfl (pu_lsub tok hq14 rfl (.inl ⟨rfl, rfl⟩) (.inr ⟨_, _, rfl, rfl⟩) rfl rfl rfl (fun _ => rfl)) ?_
                refine rp rfl w0 rfl (pu_len_map tok rfl rfl rfl) ?_
                refine rp rfl w0 rfl (pu_move (r := .d _) rfl) ?_
                refine ra_nil ?_
                refine then_n ?_
                refine aw_block ?_
                refine aw_loopM (fun s17 => ⟨updA (updA (updA (updA (updA (updA (updA (updA ((fun _ => .dead)) 1 (.ptr 3 0 1 0 0)) 4 (.ptr 4 0 1 0 0)) 20 (.d (.sl (List.map cArbor_ p0.Arbors)))) 21 (.d (.v (.int .i64 (p0.Arbors.length : Int))))) 22 (.d (.v (.int .i64 s11)))) 33 (.d (.sl (List.map cArbor_ (subL p0.Arbors (0 : Int) s11))))) 34 (.d (.v (.int .i64 ((subL p0.Arbors (0 : Int) s11).length : Int))))) 35 (.d (.v (.int .i64 s17))), lks [.no, .no, .no, .live [⟨71, 2, .av [[.d (.sl (List.map cArbor_ p0.Arbors)), .d (.sl (List.map cMesh_ p0.Meshes))]]⟩], .live [⟨151, 2, .av [[.d (.v (.string v12.Name)), .d (.sl (List.map cI v12.Wheels))]]⟩]]⟩) h3 ?_ (fun s17 y h4 => ?_)
                · skip
                  exact wk [0, 1, 2, 3, 4]
                · skip
                  refine aw_seq ?_
                  refine aw_regionA (is := [0]) rfl ?_
                  refine rp rfl w0 rfl (pu_lss rfl rfl) ?_
                  refine ra_nil ?_
                  refine then_n ?_
                  refine aw_seq ?_
                  refine aw_if h4 rfl (fun hc h4 => ?_) (fun hc h4 => ?_)
                  · skip
                    refine aw_skip ?_
                    refine then_n ?_
                    refine aw_seq ?_
                    refine aw_block ?_
                    refine aw_seq ?_
                    refine aw_regionA (is := [0, 1, 2, 3]) rfl ?_
                    obtain ⟨v18, hv18, h4⟩ := bnd h4
                    refine rp rfl w0 rfl (sl_ix tok hv18 rfl rfl rfl rfl rfl rfl) ?_
                    refine rp rfl w0 rfl (pu_load_refN tok rfl rfl rfl (by repeat (first | exact SegD.z _ | apply SegD.t))) ?_
                    refine rs rfl w0 rfl (st_alloc 5 (cs := [.d (.v (.string (⟨#[]⟩ : ByteArray))), .d (.v (.slice none 0 0))]) tok rfl rfl rfl) ?_
                    refine rw0 rfl w0 (bx_st (cs := _ :: _) tok rfl rfl rfl rfl rfl rfl rfl) ?_
                    refine ra_nil ?_
                    refine then_n ?_
                    refine aw_seq ?_
                    refine aw_regionA (is := [0, 1, 2, 3, 4]) rfl ?_
                    refine rl rfl w0 rfl (bx_fa tok rfl rfl rfl rfl rfl rfl rfl) ?_
                    refine rl rfl w0 rfl (bx_ld1 tok rfl rfl rfl rfl rfl) ?_
                    refine rl rfl w0 rfl (bx_fa tok rfl rfl rfl rfl rfl rfl rfl) ?_
                    refine rl rfl w0 rfl (bx_ld1 tok rfl rfl rfl rfl rfl) ?_
                    refine rp rfl w0 rfl (pu_seql rfl rfl) ?_
                    refine ra_nil ?_
                    refine then_n ?_
                    refine aw_if h4 rfl (fun hc h4 => ?_) (fun hc h4 => ?_)
                    · skip
                      refine aw_seq ?_
                      refine aw_regionA (is := [0]) rfl ?_
                      refine rp rfl w0 rfl (pu_assign (r := .d _) rfl) ?_
                      refine ra_nil ?_
                      refine then_n ?_
                      refine aw_ret ?_
                      refine block_r ?_
                      refine then_r ?_
                      cases h4
                      refine loop_r ⟨_, rfl, fun e => ?_⟩
                      subst e
                      refine block_r ?_
                      refine block_r ?_
                      replace h2 := orE_s h2
                      refine then_r ?_
                      cases h2
                      refine loop_r ⟨_, rfl, fun e => ?_⟩
                      subst e
                      refine block_r ?_
                      replace h0 := orE_s h0
                      refine then_r ?_
                      cases h0
                      exact ret0_ (rs := [.tmp 2]) rfl
                    · skip
                      refine aw_skip ?_
                      refine block_n ?_
                      refine then_n ?_
                      refine aw_regionA (is := [0, 1]) rfl ?_
                      refine rp rfl w0 rfl (pw_add rfl rfl) ?_
                      refine rp rfl w0 rfl (pu_move (r := .d _) rfl) ?_
                      refine ra_nil ?_
                      refine loop_n ?_
                      cases h4
                      refine ⟨_, rfl, ?_⟩
                      exact wk [0, 1, 2, 3, 4]
                  · skip
                    refine aw_exit ?_
                    refine then_e ?_
                    cases h4
                    refine loop_x ⟨_, rfl, fun e => ?_⟩
                    subst e
                    refine block_hit ?_
                    refine block_n ?_
                    refine then_n ?_
                    refine ⟨_, rfl, ?_⟩
                    exact wk [0, 1, 2, 3]
            · skip
              rintro v19 rfl
              replace h2 := orE_f h2
              refine aw_regionA (is := [0, 1]) rfl ?_
              refine rp rfl w0 rfl (pw_add rfl rfl) ?_
              refine rp rfl w0 rfl (pu_move (r := .d _) rfl) ?_
              refine ra_nil ?_
              refine loop_n ?_
              cases h2
              refine ⟨_, rfl, ?_⟩
              exact wk [0, 1, 2, 3]
          · skip
            refine aw_exit ?_
            refine then_e ?_
            cases h2
            refine loop_x ⟨_, rfl, fun e => ?_⟩
            subst e
            refine block_hit ?_
            refine then_n ?_
            refine ⟨_, rfl, ?_⟩
            exact wk [0, 1, 2, 3]
      · skip
        rintro v20 rfl
        replace h0 := orE_f h0
        obtain ⟨v33x, h1, h0⟩ := bnd h0
        refine aw_cutE v33x (fun v33 => ⟨(fun _ => .dead), lks [.no, .no, .no]⟩) ?_ ?_
        · skip
          refine aw_seq ?_
          refine aw_regionA (is := [0, 1, 2, 3]) rfl ?_
          refine rl rfl w0 rfl (bx_fa tok rfl rfl rfl rfl rfl rfl rfl) ?_
          refine rl rfl w0 rfl (bx_ld1 tok rfl rfl rfl rfl rfl) ?_
          refine rp rfl w0 rfl (pu_len_map tok rfl rfl rfl) ?_
          refine rp rfl w0 rfl (pu_move (r := .d _) rfl) ?_
          refine ra_nil ?_
          refine then_n ?_
          refine aw_block ?_
          refine aw_loopM (fun s27 => ⟨updA (updA (updA (updA ((fun _ => .dead)) 1 (.ptr 3 0 1 0 0)) 47 (.d (.sl (List.map cMesh_ p0.Meshes)))) 48 (.d (.v (.int .i64 (p0.Meshes.length : Int))))) 49 (.d (.v (.int .i64 s27))), lks [.no, .no, .no, .live [⟨71, 2, .av [[.d (.sl (List.map cArbor_ p0.Arbors)), .d (.sl (List.map cMesh_ p0.Meshes))]]⟩]]⟩) h1 ?_ (fun s27 y h2 => ?_)
          · skip
            exact wk [0, 1, 2, 3]
          · skip
            refine aw_seq ?_
            refine aw_regionA (is := [0]) rfl ?_
            refine rp rfl w0 rfl (pu_lss rfl rfl) ?_
            refine ra_nil ?_
            refine then_n ?_
            refine aw_seq ?_
            refine aw_if h2 rfl (fun hc h2 => ?_) (fun hc h2 => ?_)
            · skip
              refine aw_skip ?_
              refine then_n ?_
              refine aw_seq ?_
              refine aw_block ?_
              refine aw_seq ?_
              refine aw_regionA (is := [0, 1, 2, 3, 4, 5]) rfl ?_
              refine rp rfl w0 rfl (pu_move (r := .d _) rfl) ?_
              obtain ⟨v28, hv28, h2⟩ := bnd h2
              refine rp rfl w0 rfl (sl_ix tok hv28 rfl rfl rfl rfl rfl rfl) ?_
              refine rp rfl w0 rfl (pu_load_refN tok rfl rfl rfl (by repeat (first | exact SegD.z _ | apply SegD.t))) ?_
              refine rs rfl w0 rfl (st_alloc 4 (cs := [.d (.v (.int .i64 0)), .d (.v (.int .i64 0)), .d (.v (.int .i64 0)), .d (.v (.int .i64 0))]) tok rfl rfl rfl) ?_
              refine rp rfl w0 rfl (pu_assign (r := .d _) rfl) ?_
              refine rw0 rfl w0 (bx_st (cs := _ :: _) tok rfl rfl rfl rfl rfl rfl rfl) ?_
              refine ra_nil ?_
              refine then_n ?_
              obtain ⟨v32, h3, h2⟩ := bnd h2
              refine aw_cut ⟨updA (updA (updA (updA (updA ((fun _ => .dead)) 1 (.ptr 3 0 1 0 0)) 47 (.d (.sl (List.map cMesh_ p0.Meshes)))) 48 (.d (.v (.int .i64 (p0.Meshes.length : Int))))) 49 (.d (.v (.int .i64 s27)))) 65 (.d (.v (.bool v32))), lks [.no, .no, .no, .live [⟨71, 2, .av [[.d (.sl (List.map cArbor_ p0.Arbors)), .d (.sl (List.map cMesh_ p0.Meshes))]]⟩]]⟩ ?_ ?_
              · skip
                refine aw_regionA (is := [0, 1, 2, 3, 4, 5, 6, 7, 8, 9, 10, 11]) rfl ?_
                refine rl rfl w0 rfl (bx_ldN tok rfl rfl rfl rfl) ?_
                refine rl rfl w0 rfl (bx_ldN tok rfl rfl rfl rfl) ?_
                obtain ⟨v29, hv29, h3⟩ := bnd h3
                refine rs rfl w0 rfl (c_call 5 (i_joins_c hv29) rfl rfl rfl) ?_
                refine rp rfl w0 rfl (pu_not rfl) ?_
                refine rp rfl w0 rfl (pu_move (r := .d _) rfl) ?_
                refine ra_ifB (u := 58) h3 rfl (fun hc h3 => ?_) (fun hc h3 => ?_)
                · skip
                  refine rk rfl rfl rfl (by first | exact .inl rfl | exact .inr rfl) rfl ?_
                  refine rk rfl rfl rfl (by first | exact .inl rfl | exact .inr rfl) rfl ?_
                  refine rk rfl rfl rfl (by first | exact .inl rfl | exact .inr rfl) rfl ?_
                  refine rk rfl rfl rfl (by first | exact .inl rfl | exact .inr rfl) rfl ?_
                  refine rk rfl rfl rfl (by first | exact .inl rfl | exact .inr rfl) rfl ?_
                  refine rk rfl rfl rfl (by first | exact .inl rfl | exact .inr rfl) rfl ?_
                  refine rp rfl w0 rfl (pu_pick_t (r := .d _) rfl rfl) ?_
                  refine ra_nil ?_
                  refine then_n ?_
                  cases h3
                  exact wk [0, 1, 2, 3]
                · skip
                  refine rl rfl (w1 rfl rfl rfl) rfl (bx_fa tok rfl rfl rfl rfl rfl rfl rfl) ?_
                  refine rl rfl (w1 rfl rfl rfl) rfl (bx_ld1 tok rfl rfl rfl rfl rfl) ?_
                  refine rp rfl (w1 rfl rfl rfl) rfl (pu_move (r := .d _) rfl) ?_
                  obtain ⟨hq30, h3⟩ := chk_e h3
                  refine rp rfl (w1 rfl rfl rfl) rfl (pu_lsub tok hq30 rfl (.inl ⟨rfl, rfl⟩) (.inr ⟨_, _, rfl, rfl⟩) rfl rfl rfl (fun _ => rfl)) ?_
                  refine rp rfl (w1 rfl rfl rfl) rfl (pu_func rfl) ?_
                  obtain ⟨v31, hv31, h3⟩ := bnd h3
                  refine rs rfl (w1 rfl rfl rfl) rfl (c_callV 5 (slices_ContainsFunc_LMesh_Mesh_i_ValidWorks_1_c hv31) rfl rfl) ?_
                  refine rp rfl w0 rfl (pu_pick_f (r := .d _) rfl rfl) ?_
                  refine ra_nil ?_
                  refine then_n ?_
                  cases h3
                  exact wk [0, 1, 2, 3]
              · skip
                refine aw_ifB h2 rfl (fun hc h2 => ?_) (fun hc h2 => ?_)
                · skip
                  refine aw_seq ?_
                  refine aw_regionA (is := [0]) rfl ?_
                  refine rp rfl w0 rfl (pu_assign (r := .d _) rfl) ?_
                  refine ra_nil ?_
                  refine then_n ?_
                  refine aw_ret ?_
                  refine block_r ?_
                  refine then_r ?_
                  cases h2
                  refine loop_r ⟨_, rfl, fun e => ?_⟩
                  subst e
                  refine block_r ?_
                  replace h0 := orE_s h0
                  refine then_r ?_
                  cases h0
                  exact ret0_ (rs := [.tmp 2]) rfl
                · skip
                  refine aw_skip ?_
                  refine block_n ?_
                  refine then_n ?_
                  refine aw_regionA (is := [0, 1]) rfl ?_
                  refine rp rfl w0 rfl (pw_add rfl rfl) ?_
                  refine rp rfl w0 rfl (pu_move (r := .d _) rfl) ?_
                  refine ra_nil ?_
                  refine loop_n ?_
                  cases h2
                  refine ⟨_, rfl, ?_⟩
                  exact wk [0, 1, 2, 3]
            · skip
              refine aw_exit ?_
              refine then_e ?_
              cases h2
              refine loop_x ⟨_, rfl, fun e => ?_⟩
              subst e
              refine block_hit ?_
              refine then_n ?_
              refine ⟨_, rfl, ?_⟩
              exact wk [0, 1, 2]
        · skip
          rintro v33 rfl
          replace h0 := orE_f h0
          refine aw_seq ?_
          refine aw_regionA (is := [0]) rfl ?_
          refine rp rfl w0 rfl (pu_assign (r := .d _) rfl) ?_
          refine ra_nil ?_
          refine then_n ?_
          refine aw_ret ?_
          cases h0
          exact ret0_ (rs := [.tmp 2]) rfl

theorem i_ValidCalendar_1_c {p0 : Month_} {p1 : Month_} {r : Bool} (h0 : i_ValidCalendar_1_m p0 p1 = some r) : FnC Try.prog 146 [] [.agg [.d (.v (.string p0.Name)), .d (.v (.int .i64 p0.Days)), .d (.v (.int .i64 p0.Leap))], .ref (cMonth_ p1)] [] (.d (.v (.bool r))) := by
  refine fnc_intro (T := tt) (N := 9) tok Try.func146 rfl rfl (by kernel_rfl) rfl rfl ?_
  unfold i_ValidCalendar_1_m at h0
  refine aw_seq ?_
  refine aw_regionA (is := [0, 1]) rfl ?_
  refine rs rfl w0 rfl (st_box 3 (cs := _ :: _) rfl rfl rfl) ?_
  refine rp rfl w0 rfl (pu_assign (r := .d _) rfl) ?_
  refine ra_nil ?_
  refine then_n ?_
  refine aw_seq ?_
  refine aw_regionA (is := [0, 1, 2, 3, 4, 5]) rfl ?_
  refine rl rfl w0 rfl (bx_fa tok rfl rfl rfl rfl rfl rfl rfl) ?_
  refine rl rfl w0 rfl (bx_ld1 tok rfl rfl rfl rfl rfl) ?_
  refine rp rfl w0 rfl (pu_fieldAddr_ref tok rfl rfl rfl rfl rfl rfl (by repeat (first | exact Drp.z _ | apply Drp.d))) ?_
  refine rp rfl w0 rfl (pu_load_ref1 tok rfl rfl rfl rfl) ?_
  refine rp rfl w0 rfl (pu_seql rfl rfl) ?_
  refine rp rfl w0 rfl (pu_assign (r := .d _) rfl) ?_
  refine ra_nil ?_
  refine then_n ?_
  refine aw_ret ?_
  cases h0
  exact ret0_ (rs := [.tmp 3]) rfl

theorem slices_IndexFunc_LMonth_Month_i_ValidCalendar_1_c {p0 : List Month_} {p1_0 : Month_} {r : Int} (h0 : slices_IndexFunc_LMonth_Month_i_ValidCalendar_1_m p0 p1_0 = some r) : FnC Try.prog 176 [] [.d (.sl (List.map cMonth_ p0)), .fn 146 [.ref (cMonth_ p1_0)]] [] (.d (.v (.int .i64 r))) := by
  refine fnc_intro (T := tt) (N := 19) tok Try.func176 rfl rfl (by kernel_rfl) rfl rfl ?_
  unfold slices_IndexFunc_LMonth_Month_i_ValidCalendar_1_m at h0
  refine aw_seq ?_
  refine aw_regionA (is := [0]) rfl ?_
  refine rp rfl w0 rfl (pu_assign (r := .d _) rfl) ?_
  refine ra_nil ?_
  refine then_n ?_
  obtain ⟨v7x, h1, h0⟩ := bnd h0
  refine aw_cutE v7x (fun v7 => ⟨(fun _ => .dead), lks [.no, .no, .no]⟩) ?_ ?_
  · skip
    refine aw_seq ?_
    refine aw_regionA (is := [0, 1, 2]) rfl ?_
    refine rp rfl w0 rfl (pu_move (r := .d _) rfl) ?_
    refine rp rfl w0 rfl (pu_len_map tok rfl rfl rfl) ?_
    refine rp rfl w0 rfl (pu_move (r := .d _) rfl) ?_
    refine ra_nil ?_
    refine then_n ?_
    refine aw_block ?_
    refine aw_loopM (fun s4 => ⟨updA (updA (updA (updA ((fun _ => .dead)) 0 (.d (.sl (List.map cMonth_ p0)))) 1 (.fn 146 [.ref (cMonth_ p1_0)])) 7 (.d (.v (.int .i64 (p0.length : Int))))) 8 (.d (.v (.int .i64 s4))), lks [.no, .no, .no]⟩) h1 ?_ (fun s4 y h2 => ?_)
    · skip
      exact wk [0, 1, 2]
    · skip
      refine aw_seq ?_
      refine aw_regionA (is := [0]) rfl ?_
      refine rp rfl w0 rfl (pu_lss rfl rfl) ?_
      refine ra_nil ?_
      refine then_n ?_
      refine aw_seq ?_
      refine aw_if h2 rfl (fun hc h2 => ?_) (fun hc h2 => ?_)
      · skip
        refine aw_skip ?_
        refine then_n ?_
        refine aw_seq ?_
        refine aw_block ?_
        refine aw_seq ?_
        refine aw_regionA (is := [0, 1]) rfl ?_
        refine rp rfl w0 rfl (pu_move (r := .d _) rfl) ?_
        refine rp rfl w0 rfl (pu_assign (r := .d _) rfl) ?_
        refine ra_nil ?_
        refine then_n ?_
        refine aw_seq ?_
        refine aw_regionA (is := [0, 1, 2, 3, 4, 5]) rfl ?_
        refine rp rfl w0 rfl (pu_move (r := .fn _ _) rfl) ?_
        refine rp rfl w0 rfl (pu_move (r := .d _) rfl) ?_
        refine rp rfl w0 rfl (pu_move (r := .d _) rfl) ?_
        obtain ⟨v5, hv5, h2⟩ := bnd h2
        refine rp rfl w0 rfl (sl_ix tok hv5 rfl rfl rfl rfl rfl rfl) ?_
        refine rp rfl w0 rfl (pu_load_refN tok rfl rfl rfl (by repeat (first | exact SegD.z _ | apply SegD.t))) ?_
        obtain ⟨v6, hv6, h2⟩ := bnd h2
        refine rs rfl w0 rfl (c_call 3 (i_ValidCalendar_1_c hv6) rfl rfl rfl) ?_
        refine ra_nil ?_
        refine then_n ?_
        refine aw_ifB h2 rfl (fun hc h2 => ?_) (fun hc h2 => ?_)
        · skip
          refine aw_seq ?_
          refine aw_regionA (is := [0, 1]) rfl ?_
          refine rp rfl w0 rfl (pu_move (r := .d _) rfl) ?_
          refine rp rfl w0 rfl (pu_assign (r := .d _) rfl) ?_
          refine ra_nil ?_
          refine then_n ?_
          refine aw_ret ?_
          refine block_r ?_
          refine then_r ?_
          cases h2
          refine loop_r ⟨_, rfl, fun e => ?_⟩
          subst e
          refine block_r ?_
          replace h0 := orE_s h0
          refine then_r ?_
          cases h0
          exact ret0_ (rs := [.tmp 4]) rfl
        · skip
          refine aw_skip ?_
          refine block_n ?_
          refine then_n ?_
          refine aw_regionA (is := [0, 1]) rfl ?_
          refine rp rfl w0 rfl (pw_add rfl rfl) ?_
          refine rp rfl w0 rfl (pu_move (r := .d _) rfl) ?_
          refine ra_nil ?_
          refine loop_n ?_
          cases h2
          refine ⟨_, rfl, ?_⟩
          exact wk [0, 1, 2]
      · skip
        refine aw_exit ?_
        refine then_e ?_
        cases h2
        refine loop_x ⟨_, rfl, fun e => ?_⟩
        subst e
        refine block_hit ?_
        refine then_n ?_
        refine ⟨_, rfl, ?_⟩
        exact wk [0, 1, 2]
  · skip
    rintro v7 rfl
    replace h0 := orE_f h0
    refine aw_seq ?_
    refine aw_regionA (is := [0]) rfl ?_
    refine rp rfl w0 rfl (pu_assign (r := .d _) rfl) ?_
    refine ra_nil ?_
    refine then_n ?_
    refine aw_ret ?_
    cases h0
    exact ret0_ (rs := [.tmp 4]) rfl

theorem slices_ContainsFunc_LMonth_Month_i_ValidCalendar_1_c {p0 : List Month_} {p1_0 : Month_} {r : Bool} (h0 : slices_ContainsFunc_LMonth_Month_i_ValidCalendar_1_m p0 p1_0 = some r) : FnC Try.prog 145 [] [.d (.sl (List.map cMonth_ p0)), .fn 146 [.ref (cMonth_ p1_0)]] [] (.d (.v (.bool r))) := by
  refine fnc_intro (T := tt) (N := 9) tok Try.func145 rfl rfl (by kernel_rfl) rfl rfl ?_
  unfold slices_ContainsFunc_LMonth_Month_i_ValidCalendar_1_m at h0
  refine aw_seq ?_
  refine aw_regionA (is := [0]) rfl ?_
  refine rp rfl w0 rfl (pu_assign (r := .d _) rfl) ?_
  refine ra_nil ?_
  refine then_n ?_
  refine aw_seq ?_
  refine aw_regionA (is := [0, 1, 2, 3, 4]) rfl ?_
  refine rp rfl w0 rfl (pu_move (r := .d _) rfl) ?_
  refine rp rfl w0 rfl (pu_move (r := .fn _ _) rfl) ?_
  obtain ⟨v1, hv1, h0⟩ := bnd h0
  refine rs rfl w0 rfl (c_call 3 (slices_IndexFunc_LMonth_Month_i_ValidCalendar_1_c hv1) rfl rfl rfl) ?_
  refine rp rfl w0 rfl (pu_geq rfl rfl) ?_
  refine rp rfl w0 rfl (pu_assign (r := .d _) rfl) ?_
  refine ra_nil ?_
  refine then_n ?_
  refine aw_ret ?_
  cases h0
  exact ret0_ (rs := [.tmp 4]) rfl

theorem i_gcd_c {p0 : Int} {p1 : Int} {r : Int} (h0 : i_gcd_m p0 p1 = some r) : FnC Try.prog 177 [] [.d (.v (.int .i64 p0)), .d (.v (.int .i64 p1))] [] (.d (.v (.int .i64 r))) := by
  refine fnc_intro (T := tt) (N := 16) tok Try.func177 rfl rfl (by kernel_rfl) rfl rfl ?_
  unfold i_gcd_m at h0
  refine aw_seq ?_
  refine aw_regionA (is := [0]) rfl ?_
  refine rp rfl w0 rfl (pu_assign (r := .d _) rfl) ?_
  refine ra_nil ?_
  refine then_n ?_
  obtain ⟨v5, h1, h0⟩ := bnd h0
  refine aw_cut ⟨updA ((fun _ => .dead)) 0 (.d (.v (.int .i64 v5))), lks [.no, .no, .no]⟩ ?_ ?_
  · skip
    refine aw_block ?_
    refine aw_loopM (fun s3 => ⟨updA (updA ((fun _ => .dead)) 0 (.d (.v (.int .i64 s3.1)))) 1 (.d (.v (.int .i64 s3.2))), lks [.no, .no, .no]⟩) h1 ?_ (fun s3 y h2 => ?_)
    · skip
      exact wk [0, 1, 2]
    · skip
      refine aw_seq ?_
      refine aw_seq ?_
      refine aw_regionA (is := [0, 1]) rfl ?_
      refine rp rfl w0 rfl (pu_move (r := .d _) rfl) ?_
      refine rp rfl w0 rfl (pu_neq rfl rfl) ?_
      refine ra_nil ?_
      refine then_n ?_
      refine aw_if h2 rfl (fun hc h2 => ?_) (fun hc h2 => ?_)
      · skip
        refine aw_skip ?_
        refine then_n ?_
        refine aw_block ?_
        refine aw_region_draw (is := [0, 1, 2, 3, 4, 5]) [0, 0, 0, 6, 3, 31] follows (by kernel_rfl) ?_
        refine rt_p rfl w0 rfl (pu_move (r := .d _) rfl) ?_
        refine rt_p rfl w0 rfl (pu_move (r := .d _) rfl) ?_
        refine rt_p rfl w0 rfl (pu_move (r := .d _) rfl) ?_
        obtain ⟨hq4, h2⟩ := chk_e h2
        refine rt_p rfl w0 rfl (pu_remw rfl rfl hq4) ?_
        refine rt_p rfl w0 rfl (pu_assign (r := .d _) rfl) ?_
        refine rt_p rfl w0 rfl (pu_assign (r := .d _) rfl) ?_
        refine rt_nil ?_
        refine ⟨by kernel_rfl, ?_⟩
        refine block_n ?_
        refine loop_n ?_
        cases h2
        refine ⟨_, rfl, ?_⟩
        exact wk [0, 1, 2]
      · skip
        refine aw_exit ?_
        refine then_e ?_
        cases h2
        refine loop_x ⟨_, rfl, fun e => ?_⟩
        subst e
        refine block_hit ?_
        refine then_n ?_
        exact wk [0, 1, 2]
  · skip
    refine aw_seq ?_
    refine aw_seq ?_
    refine aw_regionA (is := [0, 1]) rfl ?_
    refine rp rfl w0 rfl (pu_move (r := .d _) rfl) ?_
    refine rp rfl w0 rfl (pu_lss rfl rfl) ?_
    refine ra_nil ?_
    refine then_n ?_
    refine aw_if h0 rfl (fun hc h0 => ?_) (fun hc h0 => ?_)
    · skip
      refine aw_seq ?_
      refine aw_regionA (is := [0, 1, 2]) rfl ?_
      refine rp rfl w0 rfl (pu_move (r := .d _) rfl) ?_
      refine rp rfl w0 rfl (pw_neg rfl) ?_
      refine rp rfl w0 rfl (pu_assign (r := .d _) rfl) ?_
      refine ra_nil ?_
      refine then_n ?_
      refine aw_ret ?_
      refine then_r ?_
      cases h0
      exact ret0_ (rs := [.tmp 4]) rfl
    · skip
      refine aw_skip ?_
      refine then_n ?_
      refine aw_seq ?_
      refine aw_regionA (is := [0, 1]) rfl ?_
      refine rp rfl w0 rfl (pu_move (r := .d _) rfl) ?_
      refine rp rfl w0 rfl (pu_assign (r := .d _) rfl) ?_
      refine ra_nil ?_
      refine then_n ?_
      refine aw_ret ?_
      cases h0
      exact ret0_ (rs := [.tmp 4]) rfl

theorem i_cycleYears_c {p0 : List LeapRule_} {r : Int} (h0 : i_cycleYears_m p0 = some r) : FnC Try.prog 147 [] [.d (.sl (List.map cLeapRule_ p0))] [] (.d (.v (.int .i64 r))) := by
  refine fnc_intro (T := tt) (N := 25) tok Try.func147 rfl rfl (by kernel_rfl) rfl rfl ?_
  unfold i_cycleYears_m at h0
  refine aw_seq ?_
  refine aw_regionA (is := [0]) rfl ?_
  refine rp rfl w0 rfl (pu_assign (r := .d _) rfl) ?_
  refine ra_nil ?_
  refine then_n ?_
  refine aw_seq ?_
  refine aw_regionA (is := [0]) rfl ?_
  refine rp rfl w0 rfl (pu_assign (r := .d _) rfl) ?_
  refine ra_nil ?_
  refine then_n ?_
  obtain ⟨v11, h1, h0⟩ := bnd h0
  refine aw_cut ⟨updA ((fun _ => .dead)) 3 (.d (.v (.int .i64 v11))), lks [.no, .no, .no]⟩ ?_ ?_
  · skip
    refine aw_seq ?_
    refine aw_regionA (is := [0, 1, 2]) rfl ?_
    refine rp rfl w0 rfl (pu_move (r := .d _) rfl) ?_
    refine rp rfl w0 rfl (pu_len_map tok rfl rfl rfl) ?_
    refine rp rfl w0 rfl (pu_move (r := .d _) rfl) ?_
    refine ra_nil ?_
    refine then_n ?_
    refine aw_block ?_
    refine aw_loopM (fun s6 => ⟨updA (updA (updA (updA ((fun _ => .dead)) 3 (.d (.v (.int .i64 s6.1)))) 6 (.d (.sl (List.map cLeapRule_ p0)))) 7 (.d (.v (.int .i64 (p0.length : Int))))) 8 (.d (.v (.int .i64 s6.2))), lks [.no, .no, .no]⟩) h1 ?_ (fun s6 y h2 => ?_)
    · skip
      exact wk [0, 1, 2]
    · skip
      refine aw_seq ?_
      refine aw_regionA (is := [0]) rfl ?_
      refine rp rfl w0 rfl (pu_lss rfl rfl) ?_
      refine ra_nil ?_
      refine then_n ?_
      refine aw_seq ?_
      refine aw_if h2 rfl (fun hc h2 => ?_) (fun hc h2 => ?_)
      · skip
        refine aw_skip ?_
        refine then_n ?_
        obtain ⟨v10, h3, h2⟩ := bnd h2
        refine aw_cut ⟨updA (updA (updA (updA ((fun _ => .dead)) 3 (.d (.v (.int .i64 v10)))) 6 (.d (.sl (List.map cLeapRule_ p0)))) 7 (.d (.v (.int .i64 (p0.length : Int))))) 8 (.d (.v (.int .i64 s6.2))), lks [.no, .no, .no]⟩ ?_ ?_
        · skip
          refine aw_block ?_
          refine aw_seq ?_
          refine aw_regionA (is := [0, 1, 2, 3]) rfl ?_
          obtain ⟨v7, hv7, h3⟩ := bnd h3
          refine rp rfl w0 rfl (sl_ix tok hv7 rfl rfl rfl rfl rfl rfl) ?_
          refine rp rfl w0 rfl (pu_load_refN tok rfl rfl rfl (by repeat (first | exact SegD.z _ | apply SegD.t))) ?_
          refine rs rfl w0 rfl (st_alloc 3 (cs := [.d (.v (.int .i64 0)), .d (.v (.int .i64 0)), .d (.v (.bool false))]) tok rfl rfl rfl) ?_
          refine rw0 rfl w0 (bx_st (cs := _ :: _) tok rfl rfl rfl rfl rfl rfl rfl) ?_
          refine ra_nil ?_
          refine then_n ?_
          refine aw_seq ?_
          refine aw_regionA (is := [0, 1]) rfl ?_
          refine rp rfl w0 rfl (pu_move (r := .d _) rfl) ?_
          refine rp rfl w0 rfl (pu_leq rfl rfl) ?_
          refine ra_nil ?_
          refine then_n ?_
          refine aw_if h3 rfl (fun hc h3 => ?_) (fun hc h3 => ?_)
          · skip
            refine aw_region_draw (is := [0, 1, 2, 3, 6, 7, 4, 5, 8, 9]) [0, 0, 0, 4, 14, 31, 0, 64, 255, 511] follows (by kernel_rfl) ?_
            refine rt_p rfl w0 rfl (pu_move (r := .d _) rfl) ?_
            refine rt_p rfl w0 rfl (pu_move (r := .d _) rfl) ?_
            refine rt_lk rfl w0 rfl (bx_fa tok rfl rfl rfl rfl rfl rfl rfl) rfl rfl rfl ?_
            refine rt_lk rfl w0 rfl (bx_ld1 tok rfl rfl rfl rfl rfl) rfl rfl rfl ?_
            refine rt_lk rfl w0 rfl (bx_fa tok rfl rfl rfl rfl rfl rfl rfl) rfl rfl rfl ?_
            refine rt_lk rfl w0 rfl (bx_ld1 tok rfl rfl rfl rfl rfl) rfl rfl rfl ?_
            obtain ⟨v8, hv8, h3⟩ := bnd h3
            refine rt_c rfl w0 rfl (b_call 4 (i_gcd_c hv8) rfl rfl rfl) ?_
            obtain ⟨hq9, h3⟩ := chk_e h3
            refine rt_p rfl w0 rfl (pw_quo rfl rfl hq9) ?_
            refine rt_p rfl w0 rfl (pw_mul rfl rfl) ?_
            refine rt_p rfl w0 rfl (pu_assign (r := .d _) rfl) ?_
            refine rt_nil ?_
            refine ⟨by kernel_rfl, ?_⟩
            refine block_n ?_
            refine then_n ?_
            cases h3
            exact wk [0, 1, 2]
          · skip
            refine aw_skip ?_
            refine block_n ?_
            refine then_n ?_
            cases h3
            exact wk [0, 1, 2]
        · skip
          refine aw_regionA (is := [0, 1]) rfl ?_
          refine rp rfl w0 rfl (pw_add rfl rfl) ?_
          refine rp rfl w0 rfl (pu_move (r := .d _) rfl) ?_
          refine ra_nil ?_
          refine loop_n ?_
          cases h2
          refine ⟨_, rfl, ?_⟩
          exact wk [0, 1, 2]
      · skip
        refine aw_exit ?_
        refine then_e ?_
        cases h2
        refine loop_x ⟨_, rfl, fun e => ?_⟩
        subst e
        refine block_hit ?_
        refine then_n ?_
        exact wk [0, 1, 2]
  · skip
    refine aw_seq ?_
    refine aw_regionA (is := [0, 1]) rfl ?_
    refine rp rfl w0 rfl (pu_move (r := .d _) rfl) ?_
    refine rp rfl w0 rfl (pu_assign (r := .d _) rfl) ?_
    refine ra_nil ?_
    refine then_n ?_
    refine aw_ret ?_
    cases h0
    exact ret0_ (rs := [.tmp 2]) rfl

theorem i_ValidCalendar_c {p0 : Calendar_} {r : Bool} (h0 : i_ValidCalendar_m p0 = some r) : FnC Try.prog 101 [] [.agg [.d (.v (.string p0.Name)), .d (.sl (List.map cMonth_ p0.Months)), .d (.sl (List.map cLeapRule_ p0.Rules)), .d (.v (.int .i64 p0.Week))]] [] (.d (.v (.bool r))) := by
  refine fnc_intro (T := tt) (N := 91) tok Try.func101 rfl rfl (by kernel_rfl) rfl rfl ?_
  unfold i_ValidCalendar_m at h0
  refine aw_seq ?_
  refine aw_regionA (is := [0, 1]) rfl ?_
  refine rs rfl w0 rfl (st_box 3 (cs := _ :: _) rfl rfl rfl) ?_
  refine rp rfl w0 rfl (pu_assign (r := .d _) rfl) ?_
  refine ra_nil ?_
  refine then_n ?_
  refine aw_seq ?_
  obtain ⟨v3, h1, h0⟩ := bnd h0
  refine aw_cut ⟨updA (updA ((fun _ => .dead)) 1 (.ptr 3 0 1 0 0)) 34 (.d (.v (.bool v3))), lks [.no, .no, .no, .live [⟨75, 4, .av [[.d (.v (.string p0.Name)), .d (.sl (List.map cMonth_ p0.Months)), .d (.sl (List.map cLeapRule_ p0.Rules)), .d (.v (.int .i64 p0.Week))]]⟩]]⟩ ?_ ?_
  · skip
    refine aw_regionA (is := [0, 1, 2, 3, 4, 5, 6, 7, 8, 9, 10, 11, 12, 13, 14, 15, 16, 17, 18, 19, 20, 21, 22, 23, 24, 25, 26, 27]) rfl ?_
    refine rl rfl w0 rfl (bx_fa tok rfl rfl rfl rfl rfl rfl rfl) ?_
    refine rl rfl w0 rfl (bx_ld1 tok rfl rfl rfl rfl rfl) ?_
    obtain ⟨v1, hv1, h1⟩ := bnd h1
    refine rs rfl w0 rfl (c_call 4 (i_IsName_c hv1) rfl rfl rfl) ?_
    refine rp rfl w0 rfl (pu_not rfl) ?_
    refine rp rfl w0 rfl (pu_move (r := .d _) rfl) ?_
    refine ra_ifB (u := 11) h1 rfl (fun hc h1 => ?_) (fun hc h1 => ?_)
    · skip
      refine rk rfl rfl rfl (by first | exact .inl rfl | exact .inr rfl) rfl ?_
      refine rk rfl rfl rfl (by first | exact .inl rfl | exact .inr rfl) rfl ?_
      refine rk rfl rfl rfl (by first | exact .inl rfl | exact .inr rfl) rfl ?_
      refine rk rfl rfl rfl (by first | exact .inl rfl | exact .inr rfl) rfl ?_
      refine rp rfl w0 rfl (pu_pick_t (r := .d _) rfl rfl) ?_
      refine rp rfl w0 rfl (pu_move (r := .d _) rfl) ?_
      refine rk rfl rfl rfl (by first | exact .inl rfl | exact .inr rfl) rfl ?_
      refine rk rfl rfl rfl (by first | exact .inl rfl | exact .inr rfl) rfl ?_
      refine rk rfl rfl rfl (by first | exact .inl rfl | exact .inr rfl) rfl ?_
      refine rk rfl rfl rfl (by first | exact .inl rfl | exact .inr rfl) rfl ?_
      refine rp rfl w0 rfl (pu_pick_t (r := .d _) rfl rfl) ?_
      refine rp rfl w0 rfl (pu_move (r := .d _) rfl) ?_
      refine rk rfl rfl rfl (by first | exact .inl rfl | exact .inr rfl) rfl ?_
      refine rk rfl rfl rfl (by first | exact .inl rfl | exact .inr rfl) rfl ?_
      refine rk rfl rfl rfl (by first | exact .inl rfl | exact .inr rfl) rfl ?_
      refine rk rfl rfl rfl (by first | exact .inl rfl | exact .inr rfl) rfl ?_
      refine rp rfl w0 rfl (pu_pick_t (r := .d _) rfl rfl) ?_
      refine rp rfl w0 rfl (pu_move (r := .d _) rfl) ?_
      refine rk rfl rfl rfl (by first | exact .inl rfl | exact .inr rfl) rfl ?_
      refine rk rfl rfl rfl (by first | exact .inl rfl | exact .inr rfl) rfl ?_
      refine rk rfl rfl rfl (by first | exact .inl rfl | exact .inr rfl) rfl ?_
      refine rk rfl rfl rfl (by first | exact .inl rfl | exact .inr rfl) rfl ?_
      refine rp rfl w0 rfl (pu_pick_t (r := .d _) rfl rfl) ?_
      refine ra_nil ?_
      refine then_n ?_
      cases h1
      exact wk [0, 1, 2, 3]
    · skip
      refine rl rfl (w1 rfl rfl rfl) rfl (bx_fa tok rfl rfl rfl rfl rfl rfl rfl) ?_
      refine rl rfl (w1 rfl rfl rfl) rfl (bx_ld1 tok rfl rfl rfl rfl rfl) ?_
      refine rp rfl (w1 rfl rfl rfl) rfl (pu_len_map tok rfl rfl rfl) ?_
      refine rp rfl (w1 rfl rfl rfl) rfl (pu_lss rfl rfl) ?_
      refine rp rfl w0 rfl (pu_pick_f (r := .d _) rfl rfl) ?_
      refine rp rfl w0 rfl (pu_move (r := .d _) rfl) ?_
      refine ra_if (u := 17) h1 rfl (fun hc h1 => ?_) (fun hc h1 => ?_)
      · skip
        refine rk rfl rfl rfl (by first | exact .inl rfl | exact .inr rfl) rfl ?_
        refine rk rfl rfl rfl (by first | exact .inl rfl | exact .inr rfl) rfl ?_
        refine rk rfl rfl rfl (by first | exact .inl rfl | exact .inr rfl) rfl ?_
        refine rk rfl rfl rfl (by first | exact .inl rfl | exact .inr rfl) rfl ?_
        refine rp rfl w0 rfl (pu_pick_t (r := .d _) rfl rfl) ?_
        refine rp rfl w0 rfl (pu_move (r := .d _) rfl) ?_
        refine rk rfl rfl rfl (by first | exact .inl rfl | exact .inr rfl) rfl ?_
        refine rk rfl rfl rfl (by first | exact .inl rfl | exact .inr rfl) rfl ?_
        refine rk rfl rfl rfl (by first | exact .inl rfl | exact .inr rfl) rfl ?_
        refine rk rfl rfl rfl (by first | exact .inl rfl | exact .inr rfl) rfl ?_
        refine rp rfl w0 rfl (pu_pick_t (r := .d _) rfl rfl) ?_
        refine rp rfl w0 rfl (pu_move (r := .d _) rfl) ?_
        refine rk rfl rfl rfl (by first | exact .inl rfl | exact .inr rfl) rfl ?_
        refine rk rfl rfl rfl (by first | exact .inl rfl | exact .inr rfl) rfl ?_
        refine rk rfl rfl rfl (by first | exact .inl rfl | exact .inr rfl) rfl ?_
        refine rk rfl rfl rfl (by first | exact .inl rfl | exact .inr rfl) rfl ?_
        refine rp rfl w0 rfl (pu_pick_t (r := .d _) rfl rfl) ?_
        refine ra_nil ?_
        refine then_n ?_
        cases h1
        exact wk [0, 1, 2, 3]
      · skip
        refine rl rfl (w1 rfl rfl rfl) rfl (bx_fa tok rfl rfl rfl rfl rfl rfl rfl) ?_
        refine rl rfl (w1 rfl rfl rfl) rfl (bx_ld1 tok rfl rfl rfl rfl rfl) ?_
        refine rp rfl (w1 rfl rfl rfl) rfl (pu_len_map tok rfl rfl rfl) ?_
        refine rp rfl (w1 rfl rfl rfl) rfl (pu_gtr rfl rfl) ?_
        refine rp rfl w0 rfl (pu_pick_f (r := .d _) rfl rfl) ?_
        refine rp rfl w0 rfl (pu_move (r := .d _) rfl) ?_
        refine ra_if (u := 23) h1 rfl (fun hc h1 => ?_) (fun hc h1 => ?_)
        · skip
          refine rk rfl rfl rfl (by first | exact .inl rfl | exact .inr rfl) rfl ?_
          refine rk rfl rfl rfl (by first | exact .inl rfl | exact .inr rfl) rfl ?_
          refine rk rfl rfl rfl (by first | exact .inl rfl | exact .inr rfl) rfl ?_
          refine rk rfl rfl rfl (by first | exact .inl rfl | exact .inr rfl) rfl ?_
          refine rp rfl w0 rfl (pu_pick_t (r := .d _) rfl rfl) ?_
          refine rp rfl w0 rfl (pu_move (r := .d _) rfl) ?_
          refine rk rfl rfl rfl (by first | exact .inl rfl | exact .inr rfl) rfl ?_
          refine rk rfl rfl rfl (by first | exact .inl rfl | exact .inr rfl) rfl ?_
          refine rk rfl rfl rfl (by first | exact .inl rfl | exact .inr rfl) rfl ?_
          refine rk rfl rfl rfl (by first | exact .inl rfl | exact .inr rfl) rfl ?_
          refine rp rfl w0 rfl (pu_pick_t (r := .d _) rfl rfl) ?_
          refine ra_nil ?_
          refine then_n ?_
          cases h1
          exact wk [0, 1, 2, 3]
        · skip
          refine rl rfl (w1 rfl rfl rfl) rfl (bx_fa tok rfl rfl rfl rfl rfl rfl rfl) ?_
          refine rl rfl (w1 rfl rfl rfl) rfl (bx_ld1 tok rfl rfl rfl rfl rfl) ?_
          refine rp rfl (w1 rfl rfl rfl) rfl (pu_len_map tok rfl rfl rfl) ?_
          refine rp rfl (w1 rfl rfl rfl) rfl (pu_gtr rfl rfl) ?_
          refine rp rfl w0 rfl (pu_pick_f (r := .d _) rfl rfl) ?_
          refine rp rfl w0 rfl (pu_move (r := .d _) rfl) ?_
          refine ra_if (u := 29) h1 rfl (fun hc h1 => ?_) (fun hc h1 => ?_)
          · skip
            refine rk rfl rfl rfl (by first | exact .inl rfl | exact .inr rfl) rfl ?_
            refine rk rfl rfl rfl (by first | exact .inl rfl | exact .inr rfl) rfl ?_
            refine rk rfl rfl rfl (by first | exact .inl rfl | exact .inr rfl) rfl ?_
            refine rk rfl rfl rfl (by first | exact .inl rfl | exact .inr rfl) rfl ?_
            refine rp rfl w0 rfl (pu_pick_t (r := .d _) rfl rfl) ?_
            refine ra_nil ?_
            refine then_n ?_
            cases h1
            exact wk [0, 1, 2, 3]
          · skip
            refine rl rfl (w1 rfl rfl rfl) rfl (bx_fa tok rfl rfl rfl rfl rfl rfl rfl) ?_
            refine rl rfl (w1 rfl rfl rfl) rfl (bx_ld1 tok rfl rfl rfl rfl rfl) ?_
            obtain ⟨v2, hv2, h1⟩ := bnd h1
            refine rs rfl (w1 rfl rfl rfl) rfl (c_call 4 (i_within_c hv2) rfl rfl rfl) ?_
            refine rp rfl (w1 rfl rfl rfl) rfl (pu_not rfl) ?_
            refine rp rfl w0 rfl (pu_pick_f (r := .d _) rfl rfl) ?_
            refine ra_nil ?_
            refine then_n ?_
            cases h1
            exact wk [0, 1, 2, 3]
  · skip
    refine aw_ifB h0 rfl (fun hc h0 => ?_) (fun hc h0 => ?_)
    · skip
      refine aw_seq ?_
      refine aw_regionA (is := [0]) rfl ?_
      refine rp rfl w0 rfl (pu_assign (r := .d _) rfl) ?_
      refine ra_nil ?_
      refine then_n ?_
      refine aw_ret ?_
      refine then_r ?_
      cases h0
      exact ret0_ (rs := [.tmp 2]) rfl
    · skip
      refine aw_skip ?_
      refine then_n ?_
      obtain ⟨v20x, h1, h0⟩ := bnd h0
      refine aw_cutE v20x (fun v20 => ⟨updA ((fun _ => .dead)) 1 (.ptr 3 0 1 0 0), lks [.no, .no, .no, .live [⟨75, 4, .av [[.d (.v (.string p0.Name)), .d (.sl (List.map cMonth_ p0.Months)), .d (.sl (List.map cLeapRule_ p0.Rules)), .d (.v (.int .i64 p0.Week))]]⟩]]⟩) ?_ ?_
      · skip
        refine aw_seq ?_
        refine aw_regionA (is := [0, 1, 2, 3]) rfl ?_
        refine rl rfl w0 rfl (bx_fa tok rfl rfl rfl rfl rfl rfl rfl) ?_
        refine rl rfl w0 rfl (bx_ld1 tok rfl rfl rfl rfl rfl) ?_
        refine rp rfl w0 rfl (pu_len_map tok rfl rfl rfl) ?_
        refine rp rfl w0 rfl (pu_move (r := .d _) rfl) ?_
        refine ra_nil ?_
        refine then_n ?_
        refine aw_block ?_
        refine aw_loopM (fun s12 => ⟨updA (updA (updA (updA ((fun _ => .dead)) 1 (.ptr 3 0 1 0 0)) 36 (.d (.sl (List.map cMonth_ p0.Months)))) 37 (.d (.v (.int .i64 (p0.Months.length : Int))))) 38 (.d (.v (.int .i64 s12))), lks [.no, .no, .no, .live [⟨75, 4, .av [[.d (.v (.string p0.Name)), .d (.sl (List.map cMonth_ p0.Months)), .d (.sl (List.map cLeapRule_ p0.Rules)), .d (.v (.int .i64 p0.Week))]]⟩]]⟩) h1 ?_ (fun s12 y h2 => ?_)
        · skip
          exact wk [0, 1, 2, 3]
        · skip
          refine aw_seq ?_
          refine aw_regionA (is := [0]) rfl ?_
          refine rp rfl w0 rfl (pu_lss rfl rfl) ?_
          refine ra_nil ?_
          refine then_n ?_
          refine aw_seq ?_
          refine aw_if h2 rfl (fun hc h2 => ?_) (fun hc h2 => ?_)
          · skip
            refine aw_skip ?_
            refine then_n ?_
            refine aw_seq ?_
            refine aw_block ?_
            refine aw_seq ?_
            refine aw_regionA (is := [0, 1, 2, 3, 4, 5]) rfl ?_
            refine rp rfl w0 rfl (pu_move (r := .d _) rfl) ?_
            obtain ⟨v13, hv13, h2⟩ := bnd h2
            refine rp rfl w0 rfl (sl_ix tok hv13 rfl rfl rfl rfl rfl rfl) ?_
            refine rp rfl w0 rfl (pu_load_refN tok rfl rfl rfl (by repeat (first | exact SegD.z _ | apply SegD.t))) ?_
            refine rs rfl w0 rfl (st_alloc 4 (cs := [.d (.v (.string (⟨#[]⟩ : ByteArray))), .d (.v (.int .i64 0)), .d (.v (.int .i64 0))]) tok rfl rfl rfl) ?_
            refine rp rfl w0 rfl (pu_assign (r := .d _) rfl) ?_
            refine rw0 rfl w0 (bx_st (cs := _ :: _) tok rfl rfl rfl rfl rfl rfl rfl) ?_
            refine ra_nil ?_
            refine then_n ?_
            refine aw_seq ?_
            obtain ⟨v17, h3, h2⟩ := bnd h2
            refine aw_cut ⟨updA (updA (updA (updA (updA (updA (updA ((fun _ => .dead)) 1 (.ptr 3 0 1 0 0)) 3 (.d (.v (.int .i64 s12)))) 4 (.ptr 4 0 1 0 0)) 36 (.d (.sl (List.map cMonth_ p0.Months)))) 37 (.d (.v (.int .i64 (p0.Months.length : Int))))) 38 (.d (.v (.int .i64 s12)))) 58 (.d (.v (.bool v17))), lks [.no, .no, .no, .live [⟨75, 4, .av [[.d (.v (.string p0.Name)), .d (.sl (List.map cMonth_ p0.Months)), .d (.sl (List.map cLeapRule_ p0.Rules)), .d (.v (.int .i64 p0.Week))]]⟩], .live [⟨170, 3, .av [[.d (.v (.string v13.Name)), .d (.v (.int .i64 v13.Days)), .d (.v (.int .i64 v13.Leap))]]⟩]]⟩ ?_ ?_
            · skip
              refine aw_regionA (is := [0, 1, 2, 3, 4, 5, 6, 7, 8, 9, 10, 11, 12, 13, 14, 15]) rfl ?_
              refine rl rfl w0 rfl (bx_fa tok rfl rfl rfl rfl rfl rfl rfl) ?_
              refine rl rfl w0 rfl (bx_ld1 tok rfl rfl rfl rfl rfl) ?_
              obtain ⟨v14, hv14, h3⟩ := bnd h3
              refine rs rfl w0 rfl (c_call 5 (i_IsName_c hv14) rfl rfl rfl) ?_
              refine rp rfl w0 rfl (pu_not rfl) ?_
              refine rp rfl w0 rfl (pu_move (r := .d _) rfl) ?_
              refine ra_ifB (u := 47) h3 rfl (fun hc h3 => ?_) (fun hc h3 => ?_)
              · skip
                refine rk rfl rfl rfl (by first | exact .inl rfl | exact .inr rfl) rfl ?_
                refine rk rfl rfl rfl (by first | exact .inl rfl | exact .inr rfl) rfl ?_
                refine rk rfl rfl rfl (by first | exact .inl rfl | exact .inr rfl) rfl ?_
                refine rk rfl rfl rfl (by first | exact .inl rfl | exact .inr rfl) rfl ?_
                refine rp rfl w0 rfl (pu_pick_t (r := .d _) rfl rfl) ?_
                refine rp rfl w0 rfl (pu_move (r := .d _) rfl) ?_
                refine rk rfl rfl rfl (by first | exact .inl rfl | exact .inr rfl) rfl ?_
                refine rk rfl rfl rfl (by first | exact .inl rfl | exact .inr rfl) rfl ?_
                refine rk rfl rfl rfl (by first | exact .inl rfl | exact .inr rfl) rfl ?_
                refine rk rfl rfl rfl (by first | exact .inl rfl | exact .inr rfl) rfl ?_
                refine rp rfl w0 rfl (pu_pick_t (r := .d _) rfl rfl) ?_
                refine ra_nil ?_
                refine then_n ?_
                cases h3
                exact wk [0, 1, 2, 3, 4]
              · skip
                refine rl rfl (w1 rfl rfl rfl) rfl (bx_fa tok rfl rfl rfl rfl rfl rfl rfl) ?_
                refine rl rfl (w1 rfl rfl rfl) rfl (bx_ld1 tok rfl rfl rfl rfl rfl) ?_
                obtain ⟨v15, hv15, h3⟩ := bnd h3
                refine rs rfl (w1 rfl rfl rfl) rfl (c_call 5 (i_within_c hv15) rfl rfl rfl) ?_
                refine rp rfl (w1 rfl rfl rfl) rfl (pu_not rfl) ?_
                refine rp rfl w0 rfl (pu_pick_f (r := .d _) rfl rfl) ?_
                refine rp rfl w0 rfl (pu_move (r := .d _) rfl) ?_
                refine ra_ifB (u := 53) h3 rfl (fun hc h3 => ?_) (fun hc h3 => ?_)
                · skip
                  refine rk rfl rfl rfl (by first | exact .inl rfl | exact .inr rfl) rfl ?_
                  refine rk rfl rfl rfl (by first | exact .inl rfl | exact .inr rfl) rfl ?_
                  refine rk rfl rfl rfl (by first | exact .inl rfl | exact .inr rfl) rfl ?_
                  refine rk rfl rfl rfl (by first | exact .inl rfl | exact .inr rfl) rfl ?_
                  refine rp rfl w0 rfl (pu_pick_t (r := .d _) rfl rfl) ?_
                  refine ra_nil ?_
                  refine then_n ?_
                  cases h3
                  exact wk [0, 1, 2, 3, 4]
                · skip
                  refine rl rfl (w1 rfl rfl rfl) rfl (bx_fa tok rfl rfl rfl rfl rfl rfl rfl) ?_
                  refine rl rfl (w1 rfl rfl rfl) rfl (bx_ld1 tok rfl rfl rfl rfl rfl) ?_
                  obtain ⟨v16, hv16, h3⟩ := bnd h3
                  refine rs rfl (w1 rfl rfl rfl) rfl (c_call 5 (i_within_c hv16) rfl rfl rfl) ?_
                  refine rp rfl (w1 rfl rfl rfl) rfl (pu_not rfl) ?_
                  refine rp rfl w0 rfl (pu_pick_f (r := .d _) rfl rfl) ?_
                  refine ra_nil ?_
                  refine then_n ?_
                  cases h3
                  exact wk [0, 1, 2, 3, 4]
            · skip
              refine aw_ifB h2 rfl (fun hc h2 => ?_) (fun hc h2 => ?_)
              · skip
                refine aw_seq ?_
                refine aw_regionA (is := [0]) rfl ?_
                refine rp rfl w0 rfl (pu_assign (r := .d _) rfl) ?_
                refine ra_nil ?_
                refine then_n ?_
                refine aw_ret ?_
                refine then_r ?_
                refine block_r ?_
                refine then_r ?_
                cases h2
                refine loop_r ⟨_, rfl, fun e => ?_⟩
                subst e
                refine block_r ?_
                replace h0 := orE_s h0
                refine then_r ?_
                cases h0
                exact ret0_ (rs := [.tmp 2]) rfl
              · skip
                refine aw_skip ?_
                refine then_n ?_
                refine aw_seq ?_
                refine aw_regionA (is := [0, 1, 2, 3, 4, 5]) rfl ?_
                refine rl rfl w0 rfl (bx_fa tok rfl rfl rfl rfl rfl rfl rfl) ?_
                refine rl rfl w0 rfl (bx_ld1 tok rfl rfl rfl rfl rfl) ?_
                refine rp rfl w0 rfl (pu_move (r := .d _) rfl) ?_
                obtain ⟨hq18, h2⟩ := chk_e h2
                refine rp rfl w0 rfl (pu_lsub tok hq18 rfl (.inl ⟨rfl, rfl⟩) (.inr ⟨_, _, rfl, rfl⟩) rfl rfl rfl (fun _ => rfl)) ?_
                refine rp rfl w0 rfl (pu_func rfl) ?_
                obtain ⟨v19, hv19, h2⟩ := bnd h2
                refine rs rfl w0 rfl (c_callV 5 (slices_ContainsFunc_LMonth_Month_i_ValidCalendar_1_c hv19) rfl rfl) ?_
                refine ra_nil ?_
                refine then_n ?_
                refine aw_ifB h2 rfl (fun hc h2 => ?_) (fun hc h2 => ?_)
                · skip
                  refine aw_seq ?_
                  refine aw_regionA (is := [0]) rfl ?_
                  refine rp rfl w0 rfl (pu_assign (r := .d _) rfl) ?_
                  refine ra_nil ?_
                  refine then_n ?_
                  refine aw_ret ?_
                  refine block_r ?_
                  refine then_r ?_
                  cases h2
                  refine loop_r ⟨_, rfl, fun e => ?_⟩
                  subst e
                  refine block_r ?_
                  replace h0 := orE_s h0
                  refine then_r ?_
                  cases h0
                  exact ret0_ (rs := [.tmp 2]) rfl
                · skip
                  refine aw_skip ?_
                  refine block_n ?_
                  refine then_n ?_
                  refine aw_regionA (is := [0, 1]) rfl ?_
                  refine rp rfl w0 rfl (pw_add rfl rfl) ?_
                  refine rp rfl w0 rfl (pu_move (r := .d _) rfl) ?_
                  refine ra_nil ?_
                  refine loop_n ?_
                  cases h2
                  refine ⟨_, rfl, ?_⟩
                  exact wk [0, 1, 2, 3]
          · skip
            refine aw_exit ?_
            refine then_e ?_
            cases h2
            refine loop_x ⟨_, rfl, fun e => ?_⟩
            subst e
            refine block_hit ?_
            refine then_n ?_
            refine ⟨_, rfl, ?_⟩
            exact wk [0, 1, 2, 3]
      · skip
        rintro v20 rfl
        replace h0 := orE_f h0
        obtain ⟨v31x, h1, h0⟩ := bnd h0
        refine aw_cutE v31x (fun v31 => ⟨updA ((fun _ => .dead)) 1 (.ptr 3 0 1 0 0), lks [.no, .no, .no, .live [⟨75, 4, .av [[.d (.v (.string p0.Name)), .d (.sl (List.map cMonth_ p0.Months)), .d (.sl (List.map cLeapRule_ p0.Rules)), .d (.v (.int .i64 p0.Week))]]⟩]]⟩) ?_ ?_
        · skip
          refine aw_seq ?_
          refine aw_regionA (is := [0, 1, 2, 3]) rfl ?_
          refine rl rfl w0 rfl (bx_fa tok rfl rfl rfl rfl rfl rfl rfl) ?_
          refine rl rfl w0 rfl (bx_ld1 tok rfl rfl rfl rfl rfl) ?_
          refine rp rfl w0 rfl (pu_len_map tok rfl rfl rfl) ?_
          refine rp rfl w0 rfl (pu_move (r := .d _) rfl) ?_
          refine ra_nil ?_
          refine then_n ?_
          refine aw_block ?_
          refine aw_loopM (fun s26 => ⟨updA (updA (updA (updA ((fun _ => .dead)) 1 (.ptr 3 0 1 0 0)) 67 (.d (.sl (List.map cLeapRule_ p0.Rules)))) 68 (.d (.v (.int .i64 (p0.Rules.length : Int))))) 69 (.d (.v (.int .i64 s26))), lks [.no, .no, .no, .live [⟨75, 4, .av [[.d (.v (.string p0.Name)), .d (.sl (List.map cMonth_ p0.Months)), .d (.sl (List.map cLeapRule_ p0.Rules)), .d (.v (.int .i64 p0.Week))]]⟩]]⟩) h1 ?_ (fun s26 y h2 => ?_)
          · skip
            exact wk [0, 1, 2, 3]
          · skip
            refine aw_seq ?_
            refine aw_regionA (is := [0]) rfl ?_
            refine rp rfl w0 rfl (pu_lss rfl rfl) ?_
            refine ra_nil ?_
            refine then_n ?_
            refine aw_seq ?_
            refine aw_if h2 rfl (fun hc h2 => ?_) (fun hc h2 => ?_)
            · skip
              refine aw_skip ?_
              refine then_n ?_
              refine aw_seq ?_
              refine aw_block ?_
              refine aw_seq ?_
              refine aw_regionA (is := [0, 1, 2, 3]) rfl ?_
              obtain ⟨v27, hv27, h2⟩ := bnd h2
              refine rp rfl w0 rfl (sl_ix tok hv27 rfl rfl rfl rfl rfl rfl) ?_
              refine rp rfl w0 rfl (pu_load_refN tok rfl rfl rfl (by repeat (first | exact SegD.z _ | apply SegD.t))) ?_
              refine rs rfl w0 rfl (st_alloc 4 (cs := [.d (.v (.int .i64 0)), .d (.v (.int .i64 0)), .d (.v (.bool false))]) tok rfl rfl rfl) ?_
              refine rw0 rfl w0 (bx_st (cs := _ :: _) tok rfl rfl rfl rfl rfl rfl rfl) ?_
              refine ra_nil ?_
              refine then_n ?_
              obtain ⟨v30, h3, h2⟩ := bnd h2
              refine aw_cut ⟨updA (updA (updA (updA (updA ((fun _ => .dead)) 1 (.ptr 3 0 1 0 0)) 67 (.d (.sl (List.map cLeapRule_ p0.Rules)))) 68 (.d (.v (.int .i64 (p0.Rules.length : Int))))) 69 (.d (.v (.int .i64 s26)))) 85 (.d (.v (.bool v30))), lks [.no, .no, .no, .live [⟨75, 4, .av [[.d (.v (.string p0.Name)), .d (.sl (List.map cMonth_ p0.Months)), .d (.sl (List.map cLeapRule_ p0.Rules)), .d (.v (.int .i64 p0.Week))]]⟩]]⟩ ?_ ?_
              · skip
                refine aw_regionA (is := [0, 1, 2, 3, 4, 5, 6, 7, 8, 9, 10, 11, 12]) rfl ?_
                refine rl rfl w0 rfl (bx_fa tok rfl rfl rfl rfl rfl rfl rfl) ?_
                refine rl rfl w0 rfl (bx_ld1 tok rfl rfl rfl rfl rfl) ?_
                obtain ⟨v28, hv28, h3⟩ := bnd h3
                refine rs rfl w0 rfl (c_call 5 (i_within_c hv28) rfl rfl rfl) ?_
                refine rp rfl w0 rfl (pu_not rfl) ?_
                refine rp rfl w0 rfl (pu_move (r := .d _) rfl) ?_
                refine ra_ifB (u := 77) h3 rfl (fun hc h3 => ?_) (fun hc h3 => ?_)
                · skip
                  refine rk rfl rfl rfl (by first | exact .inl rfl | exact .inr rfl) rfl ?_
                  refine rk rfl rfl rfl (by first | exact .inl rfl | exact .inr rfl) rfl ?_
                  refine rk rfl rfl rfl (by first | exact .inl rfl | exact .inr rfl) rfl ?_
                  refine rk rfl rfl rfl (by first | exact .inl rfl | exact .inr rfl) rfl ?_
                  refine rk rfl rfl rfl (by first | exact .inl rfl | exact .inr rfl) rfl ?_
                  refine rk rfl rfl rfl (by first | exact .inl rfl | exact .inr rfl) rfl ?_
                  refine rk rfl rfl rfl (by first | exact .inl rfl | exact .inr rfl) rfl ?_
                  refine rp rfl w0 rfl (pu_pick_t (r := .d _) rfl rfl) ?_
                  refine ra_nil ?_
                  refine then_n ?_
                  cases h3
                  exact wk [0, 1, 2, 3]
                · skip
                  refine rl rfl (w1 rfl rfl rfl) rfl (bx_fa tok rfl rfl rfl rfl rfl rfl rfl) ?_
                  refine rl rfl (w1 rfl rfl rfl) rfl (bx_ld1 tok rfl rfl rfl rfl rfl) ?_
                  refine rl rfl (w1 rfl rfl rfl) rfl (bx_fa tok rfl rfl rfl rfl rfl rfl rfl) ?_
                  refine rl rfl (w1 rfl rfl rfl) rfl (bx_ld1 tok rfl rfl rfl rfl rfl) ?_
                  refine rp rfl (w1 rfl rfl rfl) rfl (pw_sub rfl rfl) ?_
                  obtain ⟨v29, hv29, h3⟩ := bnd h3
                  refine rs rfl (w1 rfl rfl rfl) rfl (c_call 5 (i_within_c hv29) rfl rfl rfl) ?_
                  refine rp rfl (w1 rfl rfl rfl) rfl (pu_not rfl) ?_
                  refine rp rfl w0 rfl (pu_pick_f (r := .d _) rfl rfl) ?_
                  refine ra_nil ?_
                  refine then_n ?_
                  cases h3
                  exact wk [0, 1, 2, 3]
              · skip
                refine aw_ifB h2 rfl (fun hc h2 => ?_) (fun hc h2 => ?_)
                · skip
                  refine aw_seq ?_
                  refine aw_regionA (is := [0]) rfl ?_
                  refine rp rfl w0 rfl (pu_assign (r := .d _) rfl) ?_
                  refine ra_nil ?_
                  refine then_n ?_
                  refine aw_ret ?_
                  refine block_r ?_
                  refine then_r ?_
                  cases h2
                  refine loop_r ⟨_, rfl, fun e => ?_⟩
                  subst e
                  refine block_r ?_
                  replace h0 := orE_s h0
                  refine then_r ?_
                  cases h0
                  exact ret0_ (rs := [.tmp 2]) rfl
                · skip
                  refine aw_skip ?_
                  refine block_n ?_
                  refine then_n ?_
                  refine aw_regionA (is := [0, 1]) rfl ?_
                  refine rp rfl w0 rfl (pw_add rfl rfl) ?_
                  refine rp rfl w0 rfl (pu_move (r := .d _) rfl) ?_
                  refine ra_nil ?_
                  refine loop_n ?_
                  cases h2
                  refine ⟨_, rfl, ?_⟩
                  exact wk [0, 1, 2, 3]
            · skip
              refine aw_exit ?_
              refine then_e ?_
              cases h2
              refine loop_x ⟨_, rfl, fun e => ?_⟩
              subst e
              refine block_hit ?_
              refine then_n ?_
              refine ⟨_, rfl, ?_⟩
              exact wk [0, 1, 2, 3]
        · skip
          rintro v31 rfl
          replace h0 := orE_f h0
          refine aw_seq ?_
          refine aw_regionA (is := [0, 1, 2, 3, 4]) rfl ?_
          refine rl rfl w0 rfl (bx_fa tok rfl rfl rfl rfl rfl rfl rfl) ?_
          refine rl rfl w0 rfl (bx_ld1 tok rfl rfl rfl rfl rfl) ?_
          obtain ⟨v32, hv32, h0⟩ := bnd h0
          refine rs rfl w0 rfl (c_call 4 (i_cycleYears_c hv32) rfl rfl rfl) ?_
          refine rp rfl w0 rfl (pu_leq rfl rfl) ?_
          refine rp rfl w0 rfl (pu_assign (r := .d _) rfl) ?_
          refine ra_nil ?_
          refine then_n ?_
          refine aw_ret ?_
          cases h0
          exact ret0_ (rs := [.tmp 2]) rfl

theorem i_ValidCam_c {p0 : List Int} {r : Bool} (h0 : i_ValidCam_m p0 = some r) : FnC Try.prog 102 [] [.d (.sl (List.map cI p0))] [] (.d (.v (.bool r))) := by
  refine fnc_intro (T := tt) (N := 23) tok Try.func102 rfl rfl (by kernel_rfl) rfl rfl ?_
  unfold i_ValidCam_m at h0
  refine aw_seq ?_
  refine aw_regionA (is := [0]) rfl ?_
  refine rp rfl w0 rfl (pu_assign (r := .d _) rfl) ?_
  refine ra_nil ?_
  refine then_n ?_
  obtain ⟨v7x, h1, h0⟩ := bnd h0
  refine aw_cutE v7x (fun v7 => ⟨updA ((fun _ => .dead)) 0 (.d (.sl (List.map cI p0))), lks [.no, .no, .no]⟩) ?_ ?_
  · skip
    refine aw_seq ?_
    refine aw_regionA (is := [0, 1, 2]) rfl ?_
    refine rp rfl w0 rfl (pu_move (r := .d _) rfl) ?_
    refine rp rfl w0 rfl (pu_len_map tok rfl rfl rfl) ?_
    refine rp rfl w0 rfl (pu_move (r := .d _) rfl) ?_
    refine ra_nil ?_
    refine then_n ?_
    refine aw_block ?_
    refine aw_loopM (fun s4 => ⟨updA (updA (updA (updA ((fun _ => .dead)) 0 (.d (.sl (List.map cI p0)))) 5 (.d (.sl (List.map cI p0)))) 6 (.d (.v (.int .i64 (p0.length : Int))))) 7 (.d (.v (.int .i64 s4))), lks [.no, .no, .no]⟩) h1 ?_ (fun s4 y h2 => ?_)
    · skip
      exact wk [0, 1, 2]
    · skip
      refine aw_seq ?_
      refine aw_regionA (is := [0]) rfl ?_
      refine rp rfl w0 rfl (pu_lss rfl rfl) ?_
      refine ra_nil ?_
      refine then_n ?_
      refine aw_seq ?_
      refine aw_if h2 rfl (fun hc h2 => ?_) (fun hc h2 => ?_)
      · skip
        refine aw_skip ?_
        refine then_n ?_
        refine aw_seq ?_
        refine aw_block ?_
        refine aw_seq ?_
        refine aw_regionA (is := [0, 1, 2]) rfl ?_
        obtain ⟨v5, hv5, h2⟩ := bnd h2
        refine rp rfl w0 rfl (sl_ix tok hv5 rfl rfl rfl rfl rfl rfl) ?_
        refine rp rfl w0 rfl (pu_load_ref1 tok rfl rfl rfl rfl) ?_
        refine rp rfl w0 rfl (pu_assign (r := .d _) rfl) ?_
        refine ra_nil ?_
        refine then_n ?_
        refine aw_seq ?_
        refine aw_regionA (is := [0, 1, 2]) rfl ?_
        refine rp rfl w0 rfl (pu_move (r := .d _) rfl) ?_
        obtain ⟨v6, hv6, h2⟩ := bnd h2
        refine rs rfl w0 rfl (c_call 3 (i_within_c hv6) rfl rfl rfl) ?_
        refine rp rfl w0 rfl (pu_not rfl) ?_
        refine ra_nil ?_
        refine then_n ?_
        refine aw_ifB h2 rfl (fun hc h2 => ?_) (fun hc h2 => ?_)
        · skip
          refine aw_seq ?_
          refine aw_regionA (is := [0]) rfl ?_
          refine rp rfl w0 rfl (pu_assign (r := .d _) rfl) ?_
          refine ra_nil ?_
          refine then_n ?_
          refine aw_ret ?_
          refine block_r ?_
          refine then_r ?_
          cases h2
          refine loop_r ⟨_, rfl, fun e => ?_⟩
          subst e
          refine block_r ?_
          replace h0 := orE_s h0
          refine then_r ?_
          cases h0
          exact ret0_ (rs := [.tmp 2]) rfl
        · skip
          refine aw_skip ?_
          refine block_n ?_
          refine then_n ?_
          refine aw_regionA (is := [0, 1]) rfl ?_
          refine rp rfl w0 rfl (pw_add rfl rfl) ?_
          refine rp rfl w0 rfl (pu_move (r := .d _) rfl) ?_
          refine ra_nil ?_
          refine loop_n ?_
          cases h2
          refine ⟨_, rfl, ?_⟩
          exact wk [0, 1, 2]
      · skip
        refine aw_exit ?_
        refine then_e ?_
        cases h2
        refine loop_x ⟨_, rfl, fun e => ?_⟩
        subst e
        refine block_hit ?_
        refine then_n ?_
        refine ⟨_, rfl, ?_⟩
        exact wk [0, 1, 2]
  · skip
    rintro v7 rfl
    replace h0 := orE_f h0
    refine aw_seq ?_
    refine aw_regionA (is := [0, 1, 2, 3, 4, 5, 6, 7, 8]) rfl ?_
    refine rp rfl w0 rfl (pu_move (r := .d _) rfl) ?_
    refine rp rfl w0 rfl (pu_len_map tok rfl rfl rfl) ?_
    refine rp rfl w0 rfl (pu_geq rfl rfl) ?_
    refine rp rfl w0 rfl (pu_move (r := .d _) rfl) ?_
    refine ra_if (u := 18) h0 rfl (fun hc h0 => ?_) (fun hc h0 => ?_)
    · skip
      refine rp rfl (w1 rfl rfl rfl) rfl (pu_move (r := .d _) rfl) ?_
      refine rp rfl (w1 rfl rfl rfl) rfl (pu_len_map tok rfl rfl rfl) ?_
      refine rp rfl (w1 rfl rfl rfl) rfl (pu_leq rfl rfl) ?_
      refine rp rfl w0 rfl (pu_pick_t (r := .d _) rfl rfl) ?_
      refine rp rfl w0 rfl (pu_assign (r := .d _) rfl) ?_
      refine ra_nil ?_
      refine then_n ?_
      refine aw_ret ?_
      cases h0
      exact ret0_ (rs := [.tmp 2]) rfl
    · skip
      refine rk rfl rfl rfl (by first | exact .inl rfl | exact .inr rfl) rfl ?_
      refine rk rfl rfl rfl (by first | exact .inl rfl | exact .inr rfl) rfl ?_
      refine rk rfl rfl rfl (by first | exact .inl rfl | exact .inr rfl) rfl ?_
      refine rp rfl w0 rfl (pu_pick_f (r := .d _) rfl rfl) ?_
      refine rp rfl w0 rfl (pu_assign (r := .d _) rfl) ?_
      refine ra_nil ?_
      refine then_n ?_
      refine aw_ret ?_
      cases h0
      exact ret0_ (rs := [.tmp 2]) rfl

theorem i_ValidMovement_c {p0 : Movement_} {r : Bool} (h0 : i_ValidMovement_m p0 = some r) : FnC Try.prog 46 [] [.agg [.d (.v (.string p0.Name)), .d (.sl (List.map cArbor_ p0.Works.Arbors)), .d (.sl (List.map cMesh_ p0.Works.Meshes)), .d (.v (.int .i64 p0.Minute)), .d (.v (.int .i64 p0.Hour)), .d (.v (.int .i64 p0.Escape)), .d (.v (.int .i64 p0.Teeth)), .d (.v (.int .i64 p0.Beats)), .d (.v (.string p0.Calendar.Name)), .d (.sl (List.map cMonth_ p0.Calendar.Months)), .d (.sl (List.map cLeapRule_ p0.Calendar.Rules)), .d (.v (.int .i64 p0.Calendar.Week)), .d (.sl (List.map cI p0.Cam)), .d (.v (.int .i64 p0.Strike))]] [] (.d (.v (.bool r))) := by
  refine fnc_intro (T := tt) (N := 61) tok Try.func46 rfl rfl (by kernel_rfl) rfl rfl ?_
  unfold i_ValidMovement_m at h0
  refine aw_seq ?_
  refine aw_regionA (is := [0, 1]) rfl ?_
  refine rs rfl w0 rfl (st_box 3 (cs := _ :: _) rfl rfl rfl) ?_
  refine rp rfl w0 rfl (pu_assign (r := .d _) rfl) ?_
  refine ra_nil ?_
  refine then_n ?_
  obtain ⟨v4, h1, h0⟩ := bnd h0
  refine aw_cut ⟨updA (updA ((fun _ => .dead)) 1 (.ptr 3 0 1 0 0)) 3 (.d (.v (.bool v4))), lks [.no, .no, .no, .live [⟨77, 14, .av [[.d (.v (.string p0.Name)), .d (.sl (List.map cArbor_ p0.Works.Arbors)), .d (.sl (List.map cMesh_ p0.Works.Meshes)), .d (.v (.int .i64 p0.Minute)), .d (.v (.int .i64 p0.Hour)), .d (.v (.int .i64 p0.Escape)), .d (.v (.int .i64 p0.Teeth)), .d (.v (.int .i64 p0.Beats)), .d (.v (.string p0.Calendar.Name)), .d (.sl (List.map cMonth_ p0.Calendar.Months)), .d (.sl (List.map cLeapRule_ p0.Calendar.Rules)), .d (.v (.int .i64 p0.Calendar.Week)), .d (.sl (List.map cI p0.Cam)), .d (.v (.int .i64 p0.Strike))]]⟩]]⟩ ?_ ?_
  · skip
    refine aw_regionA (is := [0, 1, 2, 3, 4, 5, 6, 7, 8, 9, 10, 11, 12, 13, 14, 15, 16, 17, 18, 19]) rfl ?_
    refine rl rfl w0 rfl (bx_fa tok rfl rfl rfl rfl rfl rfl rfl) ?_
    refine rl rfl w0 rfl (bx_ldN tok rfl rfl rfl rfl) ?_
    refine rl rfl w0 rfl (bx_fa tok rfl rfl rfl rfl rfl rfl rfl) ?_
    refine rl rfl w0 rfl (bx_ld1 tok rfl rfl rfl rfl rfl) ?_
    obtain ⟨v1, hv1, h1⟩ := bnd h1
    refine rs rfl w0 rfl (c_call 4 (i_isArbor_c hv1) rfl rfl rfl) ?_
    refine rp rfl w0 rfl (pu_move (r := .d _) rfl) ?_
    refine ra_ifB (u := 10) h1 rfl (fun hc h1 => ?_) (fun hc h1 => ?_)
    · skip
      refine rl rfl (w1 rfl rfl rfl) rfl (bx_fa tok rfl rfl rfl rfl rfl rfl rfl) ?_
      refine rl rfl (w1 rfl rfl rfl) rfl (bx_ldN tok rfl rfl rfl rfl) ?_
      refine rl rfl (w1 rfl rfl rfl) rfl (bx_fa tok rfl rfl rfl rfl rfl rfl rfl) ?_
      refine rl rfl (w1 rfl rfl rfl) rfl (bx_ld1 tok rfl rfl rfl rfl rfl) ?_
      obtain ⟨v2, hv2, h1⟩ := bnd h1
      refine rs rfl (w1 rfl rfl rfl) rfl (c_call 4 (i_isArbor_c hv2) rfl rfl rfl) ?_
      refine rp rfl w0 rfl (pu_pick_t (r := .d _) rfl rfl) ?_
      refine rp rfl w0 rfl (pu_move (r := .d _) rfl) ?_
      refine ra_ifB (u := 17) h1 rfl (fun hc h1 => ?_) (fun hc h1 => ?_)
      · skip
        refine rl rfl (w1 rfl rfl rfl) rfl (bx_fa tok rfl rfl rfl rfl rfl rfl rfl) ?_
        refine rl rfl (w1 rfl rfl rfl) rfl (bx_ldN tok rfl rfl rfl rfl) ?_
        refine rl rfl (w1 rfl rfl rfl) rfl (bx_fa tok rfl rfl rfl rfl rfl rfl rfl) ?_
        refine rl rfl (w1 rfl rfl rfl) rfl (bx_ld1 tok rfl rfl rfl rfl rfl) ?_
        obtain ⟨v3, hv3, h1⟩ := bnd h1
        refine rs rfl (w1 rfl rfl rfl) rfl (c_call 4 (i_isArbor_c hv3) rfl rfl rfl) ?_
        refine rp rfl w0 rfl (pu_pick_t (r := .d _) rfl rfl) ?_
        refine rp rfl w0 rfl (pu_assign (r := .d _) rfl) ?_
        refine ra_nil ?_
        refine then_n ?_
        cases h1
        exact wk [0, 1, 2, 3]
      · skip
        refine rk rfl rfl rfl (by first | exact .inl rfl | exact .inr rfl) rfl ?_
        refine rk rfl rfl rfl (by first | exact .inl rfl | exact .inr rfl) rfl ?_
        refine rk rfl rfl rfl (by first | exact .inl rfl | exact .inr rfl) rfl ?_
        refine rk rfl rfl rfl (by first | exact .inl rfl | exact .inr rfl) rfl ?_
        refine rk rfl rfl rfl (by first | exact .inl rfl | exact .inr rfl) rfl ?_
        refine rp rfl w0 rfl (pu_pick_f (r := .d _) rfl rfl) ?_
        refine rp rfl w0 rfl (pu_assign (r := .d _) rfl) ?_
        refine ra_nil ?_
        refine then_n ?_
        cases h1
        exact wk [0, 1, 2, 3]
    · skip
      refine rk rfl rfl rfl (by first | exact .inl rfl | exact .inr rfl) rfl ?_
      refine rk rfl rfl rfl (by first | exact .inl rfl | exact .inr rfl) rfl ?_
      refine rk rfl rfl rfl (by first | exact .inl rfl | exact .inr rfl) rfl ?_
      refine rk rfl rfl rfl (by first | exact .inl rfl | exact .inr rfl) rfl ?_
      refine rk rfl rfl rfl (by first | exact .inl rfl | exact .inr rfl) rfl ?_
      refine rp rfl w0 rfl (pu_pick_f (r := .d _) rfl rfl) ?_
      refine rp rfl w0 rfl (pu_move (r := .d _) rfl) ?_
      refine rk rfl rfl rfl (by first | exact .inl rfl | exact .inr rfl) rfl ?_
      refine rk rfl rfl rfl (by first | exact .inl rfl | exact .inr rfl) rfl ?_
      refine rk rfl rfl rfl (by first | exact .inl rfl | exact .inr rfl) rfl ?_
      refine rk rfl rfl rfl (by first | exact .inl rfl | exact .inr rfl) rfl ?_
      refine rk rfl rfl rfl (by first | exact .inl rfl | exact .inr rfl) rfl ?_
      refine rp rfl w0 rfl (pu_pick_f (r := .d _) rfl rfl) ?_
      refine rp rfl w0 rfl (pu_assign (r := .d _) rfl) ?_
      refine ra_nil ?_
      refine then_n ?_
      cases h1
      exact wk [0, 1, 2, 3]
  · skip
    obtain ⟨v8, h1, h0⟩ := bnd h0
    refine aw_cut ⟨updA (updA (updA ((fun _ => .dead)) 1 (.ptr 3 0 1 0 0)) 3 (.d (.v (.bool v4)))) 4 (.d (.v (.bool v8))), lks [.no, .no, .no, .live [⟨77, 14, .av [[.d (.v (.string p0.Name)), .d (.sl (List.map cArbor_ p0.Works.Arbors)), .d (.sl (List.map cMesh_ p0.Works.Meshes)), .d (.v (.int .i64 p0.Minute)), .d (.v (.int .i64 p0.Hour)), .d (.v (.int .i64 p0.Escape)), .d (.v (.int .i64 p0.Teeth)), .d (.v (.int .i64 p0.Beats)), .d (.v (.string p0.Calendar.Name)), .d (.sl (List.map cMonth_ p0.Calendar.Months)), .d (.sl (List.map cLeapRule_ p0.Calendar.Rules)), .d (.v (.int .i64 p0.Calendar.Week)), .d (.sl (List.map cI p0.Cam)), .d (.v (.int .i64 p0.Strike))]]⟩]]⟩ ?_ ?_
    · skip
      refine aw_regionA (is := [0, 1, 2, 3, 4, 5, 6, 7, 8, 9, 10, 11, 12, 13]) rfl ?_
      refine rl rfl w0 rfl (bx_fa tok rfl rfl rfl rfl rfl rfl rfl) ?_
      refine rl rfl w0 rfl (bx_ld1 tok rfl rfl rfl rfl rfl) ?_
      obtain ⟨v5, hv5, h1⟩ := bnd h1
      refine rs rfl w0 rfl (c_call 4 (i_toothed_c hv5) rfl rfl rfl) ?_
      refine rp rfl w0 rfl (pu_move (r := .d _) rfl) ?_
      refine ra_ifB (u := 27) h1 rfl (fun hc h1 => ?_) (fun hc h1 => ?_)
      · skip
        refine rl rfl (w1 rfl rfl rfl) rfl (bx_fa tok rfl rfl rfl rfl rfl rfl rfl) ?_
        refine rl rfl (w1 rfl rfl rfl) rfl (bx_ld1 tok rfl rfl rfl rfl rfl) ?_
        obtain ⟨v6, hv6, h1⟩ := bnd h1
        refine rs rfl (w1 rfl rfl rfl) rfl (c_call 4 (i_within_c hv6) rfl rfl rfl) ?_
        refine rp rfl w0 rfl (pu_pick_t (r := .d _) rfl rfl) ?_
        refine rp rfl w0 rfl (pu_move (r := .d _) rfl) ?_
        refine ra_ifB (u := 32) h1 rfl (fun hc h1 => ?_) (fun hc h1 => ?_)
        · skip
          refine rl rfl (w1 rfl rfl rfl) rfl (bx_fa tok rfl rfl rfl rfl rfl rfl rfl) ?_
          refine rl rfl (w1 rfl rfl rfl) rfl (bx_ld1 tok rfl rfl rfl rfl rfl) ?_
          obtain ⟨v7, hv7, h1⟩ := bnd h1
          refine rs rfl (w1 rfl rfl rfl) rfl (c_call 4 (i_within_c hv7) rfl rfl rfl) ?_
          refine rp rfl w0 rfl (pu_pick_t (r := .d _) rfl rfl) ?_
          refine rp rfl w0 rfl (pu_assign (r := .d _) rfl) ?_
          refine ra_nil ?_
          refine then_n ?_
          cases h1
          exact wk [0, 1, 2, 3]
        · skip
          refine rk rfl rfl rfl (by first | exact .inl rfl | exact .inr rfl) rfl ?_
          refine rk rfl rfl rfl (by first | exact .inl rfl | exact .inr rfl) rfl ?_
          refine rk rfl rfl rfl (by first | exact .inl rfl | exact .inr rfl) rfl ?_
          refine rp rfl w0 rfl (pu_pick_f (r := .d _) rfl rfl) ?_
          refine rp rfl w0 rfl (pu_assign (r := .d _) rfl) ?_
          refine ra_nil ?_
          refine then_n ?_
          cases h1
          exact wk [0, 1, 2, 3]
      · skip
        refine rk rfl rfl rfl (by first | exact .inl rfl | exact .inr rfl) rfl ?_
        refine rk rfl rfl rfl (by first | exact .inl rfl | exact .inr rfl) rfl ?_
        refine rk rfl rfl rfl (by first | exact .inl rfl | exact .inr rfl) rfl ?_
        refine rp rfl w0 rfl (pu_pick_f (r := .d _) rfl rfl) ?_
        refine rp rfl w0 rfl (pu_move (r := .d _) rfl) ?_
        refine rk rfl rfl rfl (by first | exact .inl rfl | exact .inr rfl) rfl ?_
        refine rk rfl rfl rfl (by first | exact .inl rfl | exact .inr rfl) rfl ?_
        refine rk rfl rfl rfl (by first | exact .inl rfl | exact .inr rfl) rfl ?_
        refine rp rfl w0 rfl (pu_pick_f (r := .d _) rfl rfl) ?_
        refine rp rfl w0 rfl (pu_assign (r := .d _) rfl) ?_
        refine ra_nil ?_
        refine then_n ?_
        cases h1
        exact wk [0, 1, 2, 3]
    · skip
      refine aw_seq ?_
      refine aw_regionA (is := [0, 1, 2, 3, 4, 5, 6, 7, 8, 9, 10, 11, 12, 13, 14, 15, 16, 17, 18, 19, 20, 21, 22, 23, 24]) rfl ?_
      refine rp rfl w0 rfl (pu_move (r := .d _) rfl) ?_
      refine rp rfl w0 rfl (pu_move (r := .d _) rfl) ?_
      refine ra_ifB (u := 38) h0 rfl (fun hc h0 => ?_) (fun hc h0 => ?_)
      · skip
        refine rp rfl (w1 rfl rfl rfl) rfl (pu_move (r := .d _) rfl) ?_
        refine rp rfl w0 rfl (pu_pick_t (r := .d _) rfl rfl) ?_
        refine rp rfl w0 rfl (pu_move (r := .d _) rfl) ?_
        refine ra_ifB (u := 41) h0 rfl (fun hc h0 => ?_) (fun hc h0 => ?_)
        · skip
          refine rl rfl (w1 rfl rfl rfl) rfl (bx_fa tok rfl rfl rfl rfl rfl rfl rfl) ?_
          refine rl rfl (w1 rfl rfl rfl) rfl (bx_ld1 tok rfl rfl rfl rfl rfl) ?_
          obtain ⟨v9, hv9, h0⟩ := bnd h0
          refine rs rfl (w1 rfl rfl rfl) rfl (c_call 4 (i_IsName_c hv9) rfl rfl rfl) ?_
          refine rp rfl w0 rfl (pu_pick_t (r := .d _) rfl rfl) ?_
          refine rp rfl w0 rfl (pu_move (r := .d _) rfl) ?_
          refine ra_ifB (u := 46) h0 rfl (fun hc h0 => ?_) (fun hc h0 => ?_)
          · skip
            refine rl rfl (w1 rfl rfl rfl) rfl (bx_fa tok rfl rfl rfl rfl rfl rfl rfl) ?_
            refine rl rfl (w1 rfl rfl rfl) rfl (bx_ldN tok rfl rfl rfl rfl) ?_
            obtain ⟨v10, hv10, h0⟩ := bnd h0
            refine rs rfl (w1 rfl rfl rfl) rfl (c_call 4 (i_ValidWorks_c hv10) rfl rfl rfl) ?_
            refine rp rfl w0 rfl (pu_pick_t (r := .d _) rfl rfl) ?_
            refine rp rfl w0 rfl (pu_move (r := .d _) rfl) ?_
            refine ra_ifB (u := 51) h0 rfl (fun hc h0 => ?_) (fun hc h0 => ?_)
            · skip
              refine rl rfl (w1 rfl rfl rfl) rfl (bx_fa tok rfl rfl rfl rfl rfl rfl rfl) ?_
              refine rl rfl (w1 rfl rfl rfl) rfl (bx_ldN tok rfl rfl rfl rfl) ?_
              obtain ⟨v11, hv11, h0⟩ := bnd h0
              refine rs rfl (w1 rfl rfl rfl) rfl (c_call 4 (i_ValidCalendar_c hv11) rfl rfl rfl) ?_
              refine rp rfl w0 rfl (pu_pick_t (r := .d _) rfl rfl) ?_
              refine rp rfl w0 rfl (pu_move (r := .d _) rfl) ?_
              refine ra_ifB (u := 56) h0 rfl (fun hc h0 => ?_) (fun hc h0 => ?_)
              · skip
                refine rl rfl (w1 rfl rfl rfl) rfl (bx_fa tok rfl rfl rfl rfl rfl rfl rfl) ?_
                refine rl rfl (w1 rfl rfl rfl) rfl (bx_ld1 tok rfl rfl rfl rfl rfl) ?_
                obtain ⟨v12, hv12, h0⟩ := bnd h0
                refine rs rfl (w1 rfl rfl rfl) rfl (c_call 4 (i_ValidCam_c hv12) rfl rfl rfl) ?_
                refine rp rfl w0 rfl (pu_pick_t (r := .d _) rfl rfl) ?_
                refine rp rfl w0 rfl (pu_assign (r := .d _) rfl) ?_
                refine ra_nil ?_
                refine then_n ?_
                refine aw_ret ?_
                cases h0
                exact ret0_ (rs := [.tmp 2]) rfl
              · skip
                refine rk rfl rfl rfl (by first | exact .inl rfl | exact .inr rfl) rfl ?_
                refine rk rfl rfl rfl (by first | exact .inl rfl | exact .inr rfl) rfl ?_
                refine rk rfl rfl rfl (by first | exact .inl rfl | exact .inr rfl) rfl ?_
                refine rp rfl w0 rfl (pu_pick_f (r := .d _) rfl rfl) ?_
                refine rp rfl w0 rfl (pu_assign (r := .d _) rfl) ?_
                refine ra_nil ?_
                refine then_n ?_
                refine aw_ret ?_
                cases h0
                exact ret0_ (rs := [.tmp 2]) rfl
            · skip
              refine rk rfl rfl rfl (by first | exact .inl rfl | exact .inr rfl) rfl ?_
              refine rk rfl rfl rfl (by first | exact .inl rfl | exact .inr rfl) rfl ?_
              refine rk rfl rfl rfl (by first | exact .inl rfl | exact .inr rfl) rfl ?_
              refine rp rfl w0 rfl (pu_pick_f (r := .d _) rfl rfl) ?_
              refine rp rfl w0 rfl (pu_move (r := .d _) rfl) ?_
              refine rk rfl rfl rfl (by first | exact .inl rfl | exact .inr rfl) rfl ?_
              refine rk rfl rfl rfl (by first | exact .inl rfl | exact .inr rfl) rfl ?_
              refine rk rfl rfl rfl (by first | exact .inl rfl | exact .inr rfl) rfl ?_
              refine rp rfl w0 rfl (pu_pick_f (r := .d _) rfl rfl) ?_
              refine rp rfl w0 rfl (pu_assign (r := .d _) rfl) ?_
              refine ra_nil ?_
              refine then_n ?_
              refine aw_ret ?_
              cases h0
              exact ret0_ (rs := [.tmp 2]) rfl
          · skip
            refine rk rfl rfl rfl (by first | exact .inl rfl | exact .inr rfl) rfl ?_
            refine rk rfl rfl rfl (by first | exact .inl rfl | exact .inr rfl) rfl ?_
            refine rk rfl rfl rfl (by first | exact .inl rfl | exact .inr rfl) rfl ?_
            refine rp rfl w0 rfl (pu_pick_f (r := .d _) rfl rfl) ?_
            refine rp rfl w0 rfl (pu_move (r := .d _) rfl) ?_
            refine rk rfl rfl rfl (by first | exact .inl rfl | exact .inr rfl) rfl ?_
            refine rk rfl rfl rfl (by first | exact .inl rfl | exact .inr rfl) rfl ?_
            refine rk rfl rfl rfl (by first | exact .inl rfl | exact .inr rfl) rfl ?_
            refine rp rfl w0 rfl (pu_pick_f (r := .d _) rfl rfl) ?_
            refine rp rfl w0 rfl (pu_move (r := .d _) rfl) ?_
            refine rk rfl rfl rfl (by first | exact .inl rfl | exact .inr rfl) rfl ?_
            refine rk rfl rfl rfl (by first | exact .inl rfl | exact .inr rfl) rfl ?_
            refine rk rfl rfl rfl (by first | exact .inl rfl | exact .inr rfl) rfl ?_
            refine rp rfl w0 rfl (pu_pick_f (r := .d _) rfl rfl) ?_
            refine rp rfl w0 rfl (pu_assign (r := .d _) rfl) ?_
            refine ra_nil ?_
            refine then_n ?_
            refine aw_ret ?_
            cases h0
            exact ret0_ (rs := [.tmp 2]) rfl
        · skip
          refine rk rfl rfl rfl (by first | exact .inl rfl | exact .inr rfl) rfl ?_
          refine rk rfl rfl rfl (by first | exact .inl rfl | exact .inr rfl) rfl ?_
          refine rk rfl rfl rfl (by first | exact .inl rfl | exact .inr rfl) rfl ?_
          refine rp rfl w0 rfl (pu_pick_f (r := .d _) rfl rfl) ?_
          refine rp rfl w0 rfl (pu_move (r := .d _) rfl) ?_
          refine rk rfl rfl rfl (by first | exact .inl rfl | exact .inr rfl) rfl ?_
          refine rk rfl rfl rfl (by first | exact .inl rfl | exact .inr rfl) rfl ?_
          refine rk rfl rfl rfl (by first | exact .inl rfl | exact .inr rfl) rfl ?_
          refine rp rfl w0 rfl (pu_pick_f (r := .d _) rfl rfl) ?_
          refine rp rfl w0 rfl (pu_move (r := .d _) rfl) ?_
          refine rk rfl rfl rfl (by first | exact .inl rfl | exact .inr rfl) rfl ?_
          refine rk rfl rfl rfl (by first | exact .inl rfl | exact .inr rfl) rfl ?_
          refine rk rfl rfl rfl (by first | exact .inl rfl | exact .inr rfl) rfl ?_
          refine rp rfl w0 rfl (pu_pick_f (r := .d _) rfl rfl) ?_
          refine rp rfl w0 rfl (pu_move (r := .d _) rfl) ?_
          refine rk rfl rfl rfl (by first | exact .inl rfl | exact .inr rfl) rfl ?_
          refine rk rfl rfl rfl (by first | exact .inl rfl | exact .inr rfl) rfl ?_
          refine rk rfl rfl rfl (by first | exact .inl rfl | exact .inr rfl) rfl ?_
          refine rp rfl w0 rfl (pu_pick_f (r := .d _) rfl rfl) ?_
          refine rp rfl w0 rfl (pu_assign (r := .d _) rfl) ?_
          refine ra_nil ?_
          refine then_n ?_
          refine aw_ret ?_
          cases h0
          exact ret0_ (rs := [.tmp 2]) rfl
      · skip
        refine rk rfl rfl rfl (by first | exact .inl rfl | exact .inr rfl) rfl ?_
        refine rp rfl w0 rfl (pu_pick_f (r := .d _) rfl rfl) ?_
        refine rp rfl w0 rfl (pu_move (r := .d _) rfl) ?_
        refine rk rfl rfl rfl (by first | exact .inl rfl | exact .inr rfl) rfl ?_
        refine rk rfl rfl rfl (by first | exact .inl rfl | exact .inr rfl) rfl ?_
        refine rk rfl rfl rfl (by first | exact .inl rfl | exact .inr rfl) rfl ?_
        refine rp rfl w0 rfl (pu_pick_f (r := .d _) rfl rfl) ?_
        refine rp rfl w0 rfl (pu_move (r := .d _) rfl) ?_
        refine rk rfl rfl rfl (by first | exact .inl rfl | exact .inr rfl) rfl ?_
        refine rk rfl rfl rfl (by first | exact .inl rfl | exact .inr rfl) rfl ?_
        refine rk rfl rfl rfl (by first | exact .inl rfl | exact .inr rfl) rfl ?_
        refine rp rfl w0 rfl (pu_pick_f (r := .d _) rfl rfl) ?_
        refine rp rfl w0 rfl (pu_move (r := .d _) rfl) ?_
        refine rk rfl rfl rfl (by first | exact .inl rfl | exact .inr rfl) rfl ?_
        refine rk rfl rfl rfl (by first | exact .inl rfl | exact .inr rfl) rfl ?_
        refine rk rfl rfl rfl (by first | exact .inl rfl | exact .inr rfl) rfl ?_
        refine rp rfl w0 rfl (pu_pick_f (r := .d _) rfl rfl) ?_
        refine rp rfl w0 rfl (pu_move (r := .d _) rfl) ?_
        refine rk rfl rfl rfl (by first | exact .inl rfl | exact .inr rfl) rfl ?_
        refine rk rfl rfl rfl (by first | exact .inl rfl | exact .inr rfl) rfl ?_
        refine rk rfl rfl rfl (by first | exact .inl rfl | exact .inr rfl) rfl ?_
        refine rp rfl w0 rfl (pu_pick_f (r := .d _) rfl rfl) ?_
        refine rp rfl w0 rfl (pu_assign (r := .d _) rfl) ?_
        refine ra_nil ?_
        refine then_n ?_
        refine aw_ret ?_
        cases h0
        exact ret0_ (rs := [.tmp 2]) rfl

theorem i_pairOf_c {p0 : Works_} {p1 : Mesh_} {r : Pair_} (h0 : i_pairOf_m p0 p1 = some r) : FnC Try.prog 152 [] [.agg [.d (.sl (List.map cArbor_ p0.Arbors)), .d (.sl (List.map cMesh_ p0.Meshes))], .agg [.d (.v (.int .i64 p1.A)), .d (.v (.int .i64 p1.WheelA)), .d (.v (.int .i64 p1.B)), .d (.v (.int .i64 p1.WheelB))]] [] (.agg [.d (.v (.int .i64 r.Driver)), .d (.v (.int .i64 r.Driven))]) := by
  refine fnc_intro (T := tt) (N := 28) tok Try.func152 rfl rfl (by kernel_rfl) rfl rfl ?_
  unfold i_pairOf_m at h0
  refine aw_seq ?_
  refine aw_regionA (is := [0, 1, 2]) rfl ?_
  refine rs rfl w0 rfl (st_box 3 (cs := _ :: _) rfl rfl rfl) ?_
  refine rs rfl w0 rfl (st_box 4 (cs := _ :: _) rfl rfl rfl) ?_
  refine rs rfl w0 rfl (st_alloc 5 (cs := [.d (.v (.int .i64 0)), .d (.v (.int .i64 0))]) tok rfl rfl rfl) ?_
  refine ra_nil ?_
  refine then_n ?_
  refine aw_seq ?_
  refine aw_region_draw (is := [0, 1, 2, 3, 4, 5, 6, 7, 8, 9, 10, 11, 12, 13, 14, 15, 16, 17, 18, 19, 20, 21, 22, 23]) [0, 1, 0, 4, 15, 31, 63, 0, 128, 511, 1023, 0, 2048, 0, 8192, 30720, 63488, 129024, 0, 262144, 1046528, 2095104, 4194303, 8388607] follows (by kernel_rfl) ?_
  refine rt_lk rfl w0 rfl (bx_fa tok rfl rfl rfl rfl rfl rfl rfl) rfl rfl rfl ?_
  refine rt_lk rfl w0 rfl (bx_ld1 tok rfl rfl rfl rfl rfl) rfl rfl rfl ?_
  refine rt_lk rfl w0 rfl (bx_fa tok rfl rfl rfl rfl rfl rfl rfl) rfl rfl rfl ?_
  refine rt_lk rfl w0 rfl (bx_ld1 tok rfl rfl rfl rfl rfl) rfl rfl rfl ?_
  obtain ⟨v1, hv1, h0⟩ := bnd h0
  refine rt_p rfl w0 rfl (sl_ix tok hv1 rfl rfl rfl rfl rfl rfl) ?_
  refine rt_p rfl w0 rfl (pu_fieldAddr_ref tok rfl rfl rfl rfl rfl rfl (by repeat (first | exact Drp.z _ | apply Drp.d))) ?_
  refine rt_p rfl w0 rfl (pu_load_ref1 tok rfl rfl rfl rfl) ?_
  refine rt_lk rfl w0 rfl (bx_fa tok rfl rfl rfl rfl rfl rfl rfl) rfl rfl rfl ?_
  refine rt_lk rfl w0 rfl (bx_ld1 tok rfl rfl rfl rfl rfl) rfl rfl rfl ?_
  obtain ⟨v2, hv2, h0⟩ := bnd h0
  refine rt_p rfl w0 rfl (sl_ix tok hv2 rfl rfl rfl rfl rfl rfl) ?_
  refine rt_p rfl w0 rfl (pu_load_ref1 tok rfl rfl rfl rfl) ?_
  refine rt_lk rfl w0 rfl (bx_fa tok rfl rfl rfl rfl rfl rfl rfl) rfl rfl rfl ?_
  refine rt_lk rfl w0 rfl (bx_ld1 tok rfl rfl rfl rfl rfl) rfl rfl rfl ?_
  refine rt_lk rfl w0 rfl (bx_fa tok rfl rfl rfl rfl rfl rfl rfl) rfl rfl rfl ?_
  refine rt_lk rfl w0 rfl (bx_ld1 tok rfl rfl rfl rfl rfl) rfl rfl rfl ?_
  obtain ⟨v3, hv3, h0⟩ := bnd h0
  refine rt_p rfl w0 rfl (sl_ix tok hv3 rfl rfl rfl rfl rfl rfl) ?_
  refine rt_p rfl w0 rfl (pu_fieldAddr_ref tok rfl rfl rfl rfl rfl rfl (by repeat (first | exact Drp.z _ | apply Drp.d))) ?_
  refine rt_p rfl w0 rfl (pu_load_ref1 tok rfl rfl rfl rfl) ?_
  refine rt_lk rfl w0 rfl (bx_fa tok rfl rfl rfl rfl rfl rfl rfl) rfl rfl rfl ?_
  refine rt_lk rfl w0 rfl (bx_ld1 tok rfl rfl rfl rfl rfl) rfl rfl rfl ?_
  obtain ⟨v4, hv4, h0⟩ := bnd h0
  refine rt_p rfl w0 rfl (sl_ix tok hv4 rfl rfl rfl rfl rfl rfl) ?_
  refine rt_p rfl w0 rfl (pu_load_ref1 tok rfl rfl rfl rfl) ?_
  refine rt_p rfl w0 rfl (pu_build (C0 := [.d (.v (.int .i64 0)), .d (.v (.int .i64 0))]) tok rfl rfl (by repeat (first | exact Plc.nil | apply Plc.cons rfl)) rfl (by repeat (first | exact Bld.nil _ | apply Bld.cons (cs := [.d _]) rfl rfl rfl rfl (by repeat (first | exact Spl.z _ | apply Spl.t | apply Spl.d)) | apply Bld.cons (cs := [.own _ _ _]) rfl rfl rfl rfl (by repeat (first | exact Spl.z _ | apply Spl.t | apply Spl.d)) | apply Bld.cons (cs := [.ptr _ _ _ _ _]) rfl rfl rfl rfl (by repeat (first | exact Spl.z _ | apply Spl.t | apply Spl.d)) | apply Bld.cons (cs := [.fn _ _]) rfl rfl rfl rfl (by repeat (first | exact Spl.z _ | apply Spl.t | apply Spl.d)) | apply Bld.cons (cs := _ :: _) rfl rfl rfl rfl (by repeat (first | exact Spl.z _ | apply Spl.t | apply Spl.d))))) ?_
  refine rt_wk rfl w0 (bx_st (cs := _ :: _) tok rfl rfl rfl rfl rfl rfl rfl) ?_
  refine rt_nil ?_
  refine ⟨by kernel_rfl, ?_⟩
  refine then_n ?_
  refine aw_ret ?_
  cases h0
  exact ret0_ (rs := [.cell 4 199]) rfl

theorem i_magnitude_c {p0 : Int} {r : Int} (h0 : i_magnitude_m p0 = some r) : FnC Try.prog 155 [] [.d (.v (.int .i64 p0))] [] (.d (.v (.int .u64 r))) := by
  refine fnc_intro (T := tt) (N := 10) tok Try.func155 rfl rfl (by kernel_rfl) rfl rfl ?_
  unfold i_magnitude_m at h0
  refine aw_seq ?_
  refine aw_regionA (is := [0]) rfl ?_
  refine rp rfl w0 rfl (pu_assign (r := .d _) rfl) ?_
  refine ra_nil ?_
  refine then_n ?_
  refine aw_seq ?_
  refine aw_seq ?_
  refine aw_regionA (is := [0, 1]) rfl ?_
  refine rp rfl w0 rfl (pu_move (r := .d _) rfl) ?_
  refine rp rfl w0 rfl (pu_lss rfl rfl) ?_
  refine ra_nil ?_
  refine then_n ?_
  refine aw_if h0 rfl (fun hc h0 => ?_) (fun hc h0 => ?_)
  · skip
    refine aw_seq ?_
    refine aw_regionA (is := [0, 1, 2, 3]) rfl ?_
    refine rp rfl w0 rfl (pu_move (r := .d _) rfl) ?_
    refine rp rfl w0 rfl (pu_ii tok rfl rfl rfl rfl rfl) ?_
    refine rp rfl w0 rfl (pu_negw rfl) ?_
    refine rp rfl w0 rfl (pu_assign (r := .d _) rfl) ?_
    refine ra_nil ?_
    refine then_n ?_
    refine aw_ret ?_
    refine then_r ?_
    cases h0
    exact ret0_ (rs := [.tmp 2]) rfl
  · skip
    refine aw_skip ?_
    refine then_n ?_
    refine aw_seq ?_
    refine aw_regionA (is := [0, 1, 2]) rfl ?_
    refine rp rfl w0 rfl (pu_move (r := .d _) rfl) ?_
    refine rp rfl w0 rfl (pu_ii tok rfl rfl rfl rfl rfl) ?_
    refine rp rfl w0 rfl (pu_assign (r := .d _) rfl) ?_
    refine ra_nil ?_
    refine then_n ?_
    refine aw_ret ?_
    cases h0
    exact ret0_ (rs := [.tmp 2]) rfl

theorem i_reduced_c {p0 : Int} {p1 : Int} {r : Ratio_ × Bool} (h0 : i_reduced_m p0 p1 = some r) : FnC Try.prog 107 [] [.d (.v (.int .i64 p0)), .d (.v (.int .i64 p1))] [] (.tup [.agg [.d (.v (.int .i64 r.1.Num)), .d (.v (.int .i64 r.1.Den))], .d (.v (.bool r.2))]) := by
  refine fnc_intro (T := tt) (N := 51) tok Try.func107 rfl rfl (by kernel_rfl) rfl rfl ?_
  unfold i_reduced_m at h0
  refine aw_seq ?_
  refine aw_regionA (is := [0, 1]) rfl ?_
  refine rs rfl w0 rfl (st_alloc 3 (cs := [.d (.v (.int .i64 0)), .d (.v (.int .i64 0))]) tok rfl rfl rfl) ?_
  refine rp rfl w0 rfl (pu_assign (r := .d _) rfl) ?_
  refine ra_nil ?_
  refine then_n ?_
  refine aw_seq ?_
  refine aw_regionA (is := [0, 1, 2, 3, 4, 5]) rfl ?_
  refine rp rfl w0 rfl (pu_move (r := .d _) rfl) ?_
  obtain ⟨v1, hv1, h0⟩ := bnd h0
  refine rs rfl w0 rfl (c_call 4 (i_magnitude_c hv1) rfl rfl rfl) ?_
  refine rp rfl w0 rfl (pu_move (r := .d _) rfl) ?_
  obtain ⟨v2, hv2, h0⟩ := bnd h0
  refine rs rfl w0 rfl (c_call 4 (i_magnitude_c hv2) rfl rfl rfl) ?_
  refine rp rfl w0 rfl (pu_assign (r := .d _) rfl) ?_
  refine rp rfl w0 rfl (pu_assign (r := .d _) rfl) ?_
  refine ra_nil ?_
  refine then_n ?_
  refine aw_seq ?_
  refine aw_regionA (is := [0, 1, 2, 3]) rfl ?_
  refine rp rfl w0 rfl (pu_move (r := .d _) rfl) ?_
  refine rp rfl w0 rfl (pu_move (r := .d _) rfl) ?_
  refine rp rfl w0 rfl (pu_assign (r := .d _) rfl) ?_
  refine rp rfl w0 rfl (pu_assign (r := .d _) rfl) ?_
  refine ra_nil ?_
  refine then_n ?_
  obtain ⟨v7, h1, h0⟩ := bnd h0
  refine aw_cut ⟨updA (updA (updA (updA (updA (updA ((fun _ => .dead)) 0 (.d (.v (.int .i64 p0)))) 1 (.d (.v (.int .i64 p1)))) 4 (.ptr 3 0 1 0 0)) 6 (.d (.v (.int .u64 v1)))) 7 (.d (.v (.int .u64 v2)))) 8 (.d (.v (.int .u64 v7))), lks [.no, .no, .no, .live [⟨29, 2, .av [[.d (.v (.int .i64 0)), .d (.v (.int .i64 0))]]⟩]]⟩ ?_ ?_
  · skip
    refine aw_block ?_
    refine aw_loopM (fun s5 => ⟨updA (updA (updA (updA (updA (updA (updA ((fun _ => .dead)) 0 (.d (.v (.int .i64 p0)))) 1 (.d (.v (.int .i64 p1)))) 4 (.ptr 3 0 1 0 0)) 6 (.d (.v (.int .u64 v1)))) 7 (.d (.v (.int .u64 v2)))) 8 (.d (.v (.int .u64 s5.1)))) 9 (.d (.v (.int .u64 s5.2))), lks [.no, .no, .no, .live [⟨29, 2, .av [[.d (.v (.int .i64 0)), .d (.v (.int .i64 0))]]⟩]]⟩) h1 ?_ (fun s5 y h2 => ?_)
    · skip
      exact wk [0, 1, 2, 3]
    · skip
      refine aw_seq ?_
      refine aw_seq ?_
      refine aw_regionA (is := [0, 1]) rfl ?_
      refine rp rfl w0 rfl (pu_move (r := .d _) rfl) ?_
      refine rp rfl w0 rfl (pu_neq rfl rfl) ?_
      refine ra_nil ?_
      refine then_n ?_
      refine aw_if h2 rfl (fun hc h2 => ?_) (fun hc h2 => ?_)
      · skip
        refine aw_skip ?_
        refine then_n ?_
        refine aw_block ?_
        refine aw_region_draw (is := [0, 1, 2, 3, 4, 5]) [0, 0, 0, 6, 3, 31] follows (by kernel_rfl) ?_
        refine rt_p rfl w0 rfl (pu_move (r := .d _) rfl) ?_
        refine rt_p rfl w0 rfl (pu_move (r := .d _) rfl) ?_
        refine rt_p rfl w0 rfl (pu_move (r := .d _) rfl) ?_
        obtain ⟨hq6, h2⟩ := chk_e h2
        refine rt_p rfl w0 rfl (pu_remw rfl rfl hq6) ?_
        refine rt_p rfl w0 rfl (pu_assign (r := .d _) rfl) ?_
        refine rt_p rfl w0 rfl (pu_assign (r := .d _) rfl) ?_
        refine rt_nil ?_
        refine ⟨by kernel_rfl, ?_⟩
        refine block_n ?_
        refine loop_n ?_
        cases h2
        refine ⟨_, rfl, ?_⟩
        exact wk [0, 1, 2, 3]
      · skip
        refine aw_exit ?_
        refine then_e ?_
        cases h2
        refine loop_x ⟨_, rfl, fun e => ?_⟩
        subst e
        refine block_hit ?_
        refine then_n ?_
        exact wk [0, 1, 2, 3]
  · skip
    refine aw_seq ?_
    refine aw_region_draw (is := [0, 1, 2, 3, 4, 5, 6, 7]) [0, 0, 3, 0, 0, 24, 7, 127] follows (by kernel_rfl) ?_
    refine rt_p rfl w0 rfl (pu_move (r := .d _) rfl) ?_
    refine rt_p rfl w0 rfl (pu_move (r := .d _) rfl) ?_
    obtain ⟨hq8, h0⟩ := chk_e h0
    refine rt_p rfl w0 rfl (pu_quow rfl rfl hq8) ?_
    refine rt_p rfl w0 rfl (pu_move (r := .d _) rfl) ?_
    refine rt_p rfl w0 rfl (pu_move (r := .d _) rfl) ?_
    obtain ⟨hq9, h0⟩ := chk_e h0
    refine rt_p rfl w0 rfl (pu_quow rfl rfl hq9) ?_
    refine rt_p rfl w0 rfl (pu_assign (r := .d _) rfl) ?_
    refine rt_p rfl w0 rfl (pu_assign (r := .d _) rfl) ?_
    refine rt_nil ?_
    refine ⟨by kernel_rfl, ?_⟩
    refine then_n ?_
    refine aw_seq ?_
    obtain ⟨v10, h1, h0⟩ := bnd h0
    refine aw_cut ⟨updA (updA (updA (updA (updA (updA ((fun _ => .dead)) 0 (.d (.v (.int .i64 p0)))) 1 (.d (.v (.int .i64 p1)))) 4 (.ptr 3 0 1 0 0)) 6 (.d (.v (.int .u64 (IntKind.u64.wrap (v1.tdiv v7)))))) 7 (.d (.v (.int .u64 (IntKind.u64.wrap (v2.tdiv v7)))))) 34 (.d (.v (.bool v10))), lks [.no, .no, .no, .live [⟨29, 2, .av [[.d (.v (.int .i64 0)), .d (.v (.int .i64 0))]]⟩]]⟩ ?_ ?_
    · skip
      refine aw_regionA (is := [0, 1, 2, 3, 4, 5]) rfl ?_
      refine rp rfl w0 rfl (pu_move (r := .d _) rfl) ?_
      refine rp rfl w0 rfl (pu_gtr rfl rfl) ?_
      refine rp rfl w0 rfl (pu_move (r := .d _) rfl) ?_
      refine ra_if (u := 31) h1 rfl (fun hc h1 => ?_) (fun hc h1 => ?_)
      · skip
        refine rk rfl rfl rfl (by first | exact .inl rfl | exact .inr rfl) rfl ?_
        refine rk rfl rfl rfl (by first | exact .inl rfl | exact .inr rfl) rfl ?_
        refine rp rfl w0 rfl (pu_pick_t (r := .d _) rfl rfl) ?_
        refine ra_nil ?_
        refine then_n ?_
        cases h1
        exact wk [0, 1, 2, 3]
      · skip
        refine rp rfl (w1 rfl rfl rfl) rfl (pu_move (r := .d _) rfl) ?_
        refine rp rfl (w1 rfl rfl rfl) rfl (pu_gtr rfl rfl) ?_
        refine rp rfl w0 rfl (pu_pick_f (r := .d _) rfl rfl) ?_
        refine ra_nil ?_
        refine then_n ?_
        cases h1
        exact wk [0, 1, 2, 3]
    · skip
      refine aw_ifB h0 rfl (fun hc h0 => ?_) (fun hc h0 => ?_)
      · skip
        refine aw_seq ?_
        refine aw_regionA (is := [0, 1, 2]) rfl ?_
        refine rp rfl w0 rfl (pu_build (C0 := [.d (.v (.int .i64 0)), .d (.v (.int .i64 0))]) tok rfl rfl (by repeat (first | exact Plc.nil | apply Plc.cons rfl)) rfl (by repeat (first | exact Bld.nil _ | apply Bld.cons (cs := [.d _]) rfl rfl rfl rfl (by repeat (first | exact Spl.z _ | apply Spl.t | apply Spl.d)) | apply Bld.cons (cs := [.own _ _ _]) rfl rfl rfl rfl (by repeat (first | exact Spl.z _ | apply Spl.t | apply Spl.d)) | apply Bld.cons (cs := [.ptr _ _ _ _ _]) rfl rfl rfl rfl (by repeat (first | exact Spl.z _ | apply Spl.t | apply Spl.d)) | apply Bld.cons (cs := [.fn _ _]) rfl rfl rfl rfl (by repeat (first | exact Spl.z _ | apply Spl.t | apply Spl.d)) | apply Bld.cons (cs := _ :: _) rfl rfl rfl rfl (by repeat (first | exact Spl.z _ | apply Spl.t | apply Spl.d))))) ?_
        refine rw0 rfl w0 (bx_st (cs := _ :: _) tok rfl rfl rfl rfl rfl rfl rfl) ?_
        refine rp rfl w0 rfl (pu_assign (r := .d _) rfl) ?_
        refine ra_nil ?_
        refine then_n ?_
        refine aw_ret ?_
        refine then_r ?_
        cases h0
        exact ret0_ (rs := [.cell 4 29, .tmp 5]) rfl
      · skip
        refine aw_skip ?_
        refine then_n ?_
        refine aw_seq ?_
        refine aw_regionA (is := [0, 1, 2, 3, 4, 5, 6]) rfl ?_
        refine rp rfl w0 rfl (pu_move (r := .d _) rfl) ?_
        refine rp rfl w0 rfl (pw_cv tok rfl rfl rfl rfl rfl) ?_
        refine rp rfl w0 rfl (pu_move (r := .d _) rfl) ?_
        refine rp rfl w0 rfl (pw_cv tok rfl rfl rfl rfl rfl) ?_
        refine rp rfl w0 rfl (pu_build (C0 := [.d (.v (.int .i64 0)), .d (.v (.int .i64 0))]) tok rfl rfl (by repeat (first | exact Plc.nil | apply Plc.cons rfl)) rfl (by repeat (first | exact Bld.nil _ | apply Bld.cons (cs := [.d _]) rfl rfl rfl rfl (by repeat (first | exact Spl.z _ | apply Spl.t | apply Spl.d)) | apply Bld.cons (cs := [.own _ _ _]) rfl rfl rfl rfl (by repeat (first | exact Spl.z _ | apply Spl.t | apply Spl.d)) | apply Bld.cons (cs := [.ptr _ _ _ _ _]) rfl rfl rfl rfl (by repeat (first | exact Spl.z _ | apply Spl.t | apply Spl.d)) | apply Bld.cons (cs := [.fn _ _]) rfl rfl rfl rfl (by repeat (first | exact Spl.z _ | apply Spl.t | apply Spl.d)) | apply Bld.cons (cs := _ :: _) rfl rfl rfl rfl (by repeat (first | exact Spl.z _ | apply Spl.t | apply Spl.d))))) ?_
        refine rs rfl w0 rfl (st_alloc 4 (cs := [.d (.v (.int .i64 0)), .d (.v (.int .i64 0))]) tok rfl rfl rfl) ?_
        refine rw0 rfl w0 (bx_st (cs := _ :: _) tok rfl rfl rfl rfl rfl rfl rfl) ?_
        refine ra_nil ?_
        refine then_n ?_
        obtain ⟨v11, h1, h0⟩ := bnd h0
        refine aw_cut ⟨updA (updA ((fun _ => .dead)) 4 (.ptr 3 0 1 0 0)) 10 (.ptr 4 0 1 0 0), lks [.no, .no, .no, .live [⟨29, 2, .av [[.d (.v (.int .i64 0)), .d (.v (.int .i64 0))]]⟩], .live [⟨29, 2, .av [[.d (.v (.int .i64 v11.Num)), .d (.v (.int .i64 v11.Den))]]⟩]]⟩ ?_ ?_
        · skip
          refine aw_seq ?_
          refine aw_regionA (is := [0, 1, 2, 3, 4]) rfl ?_
          refine rp rfl w0 rfl (pu_move (r := .d _) rfl) ?_
          refine rp rfl w0 rfl (pu_lss rfl rfl) ?_
          refine rp rfl w0 rfl (pu_move (r := .d _) rfl) ?_
          refine rp rfl w0 rfl (pu_lss rfl rfl) ?_
          refine rp rfl w0 rfl (pu_bneq tok rfl rfl rfl rfl) ?_
          refine ra_nil ?_
          refine then_n ?_
          refine aw_ifB h1 rfl (fun hc h1 => ?_) (fun hc h1 => ?_)
          · skip
            refine aw_regionA (is := [0, 1, 2, 3, 4]) rfl ?_
            refine rl rfl w0 rfl (bx_fa tok rfl rfl rfl rfl rfl rfl rfl) ?_
            refine rl rfl w0 rfl (bx_ld1 tok rfl rfl rfl rfl rfl) ?_
            refine rp rfl w0 rfl (pw_neg rfl) ?_
            refine rl rfl w0 rfl (bx_fa tok rfl rfl rfl rfl rfl rfl rfl) ?_
            refine rw0 rfl w0 (bx_st (cs := [.d _]) tok rfl rfl rfl rfl rfl rfl rfl) ?_
            refine ra_nil ?_
            refine then_n ?_
            cases h1
            exact wk [0, 1, 2, 3, 4]
          · skip
            refine aw_skip ?_
            refine then_n ?_
            cases h1
            exact wk [0, 1, 2, 3, 4]
        · skip
          refine aw_seq ?_
          refine aw_regionA (is := [0, 1, 2]) rfl ?_
          refine rl rfl w0 rfl (bx_ldN tok rfl rfl rfl rfl) ?_
          refine rw0 rfl w0 (bx_st (cs := _ :: _) tok rfl rfl rfl rfl rfl rfl rfl) ?_
          refine rp rfl w0 rfl (pu_assign (r := .d _) rfl) ?_
          refine ra_nil ?_
          refine then_n ?_
          refine aw_ret ?_
          cases h0
          exact ret0_ (rs := [.cell 4 29, .tmp 5]) rfl

theorem i_MakeRatio_c {p0 : Int} {p1 : Int} {r : Ratio_ × Int} (h0 : i_MakeRatio_m p0 p1 = some r) : FnC Try.prog 60 [] [.d (.v (.int .i64 p0)), .d (.v (.int .i64 p1))] [] (.tup [.agg [.d (.v (.int .i64 r.1.Num)), .d (.v (.int .i64 r.1.Den))], .d (.v (.int .i64 r.2))]) := by
  refine fnc_intro (T := tt) (N := 21) tok Try.func60 rfl rfl (by kernel_rfl) rfl rfl ?_
  unfold i_MakeRatio_m at h0
  refine aw_seq ?_
  refine aw_regionA (is := [0, 1]) rfl ?_
  refine rs rfl w0 rfl (st_alloc 3 (cs := [.d (.v (.int .i64 0)), .d (.v (.int .i64 0))]) tok rfl rfl rfl) ?_
  refine rp rfl w0 rfl (pu_assign (r := .d _) rfl) ?_
  refine ra_nil ?_
  refine then_n ?_
  refine aw_seq ?_
  refine aw_seq ?_
  refine aw_regionA (is := [0, 1]) rfl ?_
  refine rp rfl w0 rfl (pu_move (r := .d _) rfl) ?_
  refine rp rfl w0 rfl (pu_eql rfl rfl) ?_
  refine ra_nil ?_
  refine then_n ?_
  refine aw_if h0 rfl (fun hc h0 => ?_) (fun hc h0 => ?_)
  · skip
    refine aw_seq ?_
    refine aw_regionA (is := [0, 1, 2]) rfl ?_
    refine rp rfl w0 rfl (pu_build (C0 := [.d (.v (.int .i64 0)), .d (.v (.int .i64 0))]) tok rfl rfl (by repeat (first | exact Plc.nil | apply Plc.cons rfl)) rfl (by repeat (first | exact Bld.nil _ | apply Bld.cons (cs := [.d _]) rfl rfl rfl rfl (by repeat (first | exact Spl.z _ | apply Spl.t | apply Spl.d)) | apply Bld.cons (cs := [.own _ _ _]) rfl rfl rfl rfl (by repeat (first | exact Spl.z _ | apply Spl.t | apply Spl.d)) | apply Bld.cons (cs := [.ptr _ _ _ _ _]) rfl rfl rfl rfl (by repeat (first | exact Spl.z _ | apply Spl.t | apply Spl.d)) | apply Bld.cons (cs := [.fn _ _]) rfl rfl rfl rfl (by repeat (first | exact Spl.z _ | apply Spl.t | apply Spl.d)) | apply Bld.cons (cs := _ :: _) rfl rfl rfl rfl (by repeat (first | exact Spl.z _ | apply Spl.t | apply Spl.d))))) ?_
    refine rw0 rfl w0 (bx_st (cs := _ :: _) tok rfl rfl rfl rfl rfl rfl rfl) ?_
    refine rp rfl w0 rfl (pu_assign (r := .d _) rfl) ?_
    refine ra_nil ?_
    refine then_n ?_
    refine aw_ret ?_
    refine then_r ?_
    cases h0
    exact ret0_ (rs := [.cell 4 29, .tmp 5]) rfl
  · skip
    refine aw_skip ?_
    refine then_n ?_
    refine aw_seq ?_
    refine aw_regionA (is := [0, 1, 2, 3, 4, 5, 6, 7, 8]) rfl ?_
    refine rp rfl w0 rfl (pu_move (r := .d _) rfl) ?_
    refine rp rfl w0 rfl (pu_move (r := .d _) rfl) ?_
    obtain ⟨v1, hv1, h0⟩ := bnd h0
    refine rs rfl w0 rfl (c_call 4 (i_reduced_c hv1) rfl rfl rfl) ?_
    refine rp rfl w0 rfl (pu_move (r := .tup _) rfl) ?_
    refine rp rfl w0 rfl (pu_extract rfl rfl) ?_
    refine rp rfl w0 rfl (pu_extract rfl rfl) ?_
    refine rs rfl w0 rfl (st_alloc 4 (cs := [.d (.v (.int .i64 0)), .d (.v (.int .i64 0))]) tok rfl rfl rfl) ?_
    refine rw0 rfl w0 (bx_st (cs := _ :: _) tok rfl rfl rfl rfl rfl rfl rfl) ?_
    refine rp rfl w0 rfl (pu_assign (r := .d _) rfl) ?_
    refine ra_nil ?_
    refine then_n ?_
    refine aw_seq ?_
    refine aw_seq ?_
    refine aw_regionA (is := [0, 1]) rfl ?_
    refine rp rfl w0 rfl (pu_move (r := .d _) rfl) ?_
    refine rp rfl w0 rfl (pu_not rfl) ?_
    refine ra_nil ?_
    refine then_n ?_
    refine aw_ifB h0 rfl (fun hc h0 => ?_) (fun hc h0 => ?_)
    · skip
      refine aw_seq ?_
      refine aw_regionA (is := [0, 1, 2]) rfl ?_
      refine rp rfl w0 rfl (pu_build (C0 := [.d (.v (.int .i64 0)), .d (.v (.int .i64 0))]) tok rfl rfl (by repeat (first | exact Plc.nil | apply Plc.cons rfl)) rfl (by repeat (first | exact Bld.nil _ | apply Bld.cons (cs := [.d _]) rfl rfl rfl rfl (by repeat (first | exact Spl.z _ | apply Spl.t | apply Spl.d)) | apply Bld.cons (cs := [.own _ _ _]) rfl rfl rfl rfl (by repeat (first | exact Spl.z _ | apply Spl.t | apply Spl.d)) | apply Bld.cons (cs := [.ptr _ _ _ _ _]) rfl rfl rfl rfl (by repeat (first | exact Spl.z _ | apply Spl.t | apply Spl.d)) | apply Bld.cons (cs := [.fn _ _]) rfl rfl rfl rfl (by repeat (first | exact Spl.z _ | apply Spl.t | apply Spl.d)) | apply Bld.cons (cs := _ :: _) rfl rfl rfl rfl (by repeat (first | exact Spl.z _ | apply Spl.t | apply Spl.d))))) ?_
      refine rw0 rfl w0 (bx_st (cs := _ :: _) tok rfl rfl rfl rfl rfl rfl rfl) ?_
      refine rp rfl w0 rfl (pu_assign (r := .d _) rfl) ?_
      refine ra_nil ?_
      refine then_n ?_
      refine aw_ret ?_
      refine then_r ?_
      cases h0
      exact ret0_ (rs := [.cell 4 29, .tmp 5]) rfl
    · skip
      refine aw_skip ?_
      refine then_n ?_
      refine aw_seq ?_
      refine aw_regionA (is := [0, 1, 2]) rfl ?_
      refine rl rfl w0 rfl (bx_ldN tok rfl rfl rfl rfl) ?_
      refine rw0 rfl w0 (bx_st (cs := _ :: _) tok rfl rfl rfl rfl rfl rfl rfl) ?_
      refine rp rfl w0 rfl (pu_assign (r := .d _) rfl) ?_
      refine ra_nil ?_
      refine then_n ?_
      refine aw_ret ?_
      cases h0
      exact ret0_ (rs := [.cell 4 29, .tmp 5]) rfl

theorem i_ValidRatio_c {p0 : Ratio_} {r : Bool} (h0 : i_ValidRatio_m p0 = some r) : FnC Try.prog 188 [] [.agg [.d (.v (.int .i64 p0.Num)), .d (.v (.int .i64 p0.Den))]] [] (.d (.v (.bool r))) := by
  refine fnc_intro (T := tt) (N := 19) tok Try.func188 rfl rfl (by kernel_rfl) rfl rfl ?_
  unfold i_ValidRatio_m at h0
  refine aw_seq ?_
  refine aw_regionA (is := [0, 1]) rfl ?_
  refine rs rfl w0 rfl (st_box 3 (cs := _ :: _) rfl rfl rfl) ?_
  refine rp rfl w0 rfl (pu_assign (r := .d _) rfl) ?_
  refine ra_nil ?_
  refine then_n ?_
  refine aw_seq ?_
  refine aw_regionA (is := [0, 1, 2, 3, 4, 5, 6, 7, 8, 9, 10, 11, 12, 13, 14, 15, 16]) rfl ?_
  refine rl rfl w0 rfl (bx_fa tok rfl rfl rfl rfl rfl rfl rfl) ?_
  refine rl rfl w0 rfl (bx_ld1 tok rfl rfl rfl rfl rfl) ?_
  obtain ⟨v1, hv1, h0⟩ := bnd h0
  refine rs rfl w0 rfl (c_call 4 (i_within_c hv1) rfl rfl rfl) ?_
  refine rp rfl w0 rfl (pu_move (r := .d _) rfl) ?_
  refine ra_ifB (u := 6) h0 rfl (fun hc h0 => ?_) (fun hc h0 => ?_)
  · skip
    refine rl rfl (w1 rfl rfl rfl) rfl (bx_fa tok rfl rfl rfl rfl rfl rfl rfl) ?_
    refine rl rfl (w1 rfl rfl rfl) rfl (bx_ld1 tok rfl rfl rfl rfl rfl) ?_
    obtain ⟨v2, hv2, h0⟩ := bnd h0
    refine rs rfl (w1 rfl rfl rfl) rfl (c_call 4 (i_within_c hv2) rfl rfl rfl) ?_
    refine rp rfl w0 rfl (pu_pick_t (r := .d _) rfl rfl) ?_
    refine rp rfl w0 rfl (pu_move (r := .d _) rfl) ?_
    refine ra_ifB (u := 11) h0 rfl (fun hc h0 => ?_) (fun hc h0 => ?_)
    · skip
      refine rl rfl (w1 rfl rfl rfl) rfl (bx_fa tok rfl rfl rfl rfl rfl rfl rfl) ?_
      refine rl rfl (w1 rfl rfl rfl) rfl (bx_ld1 tok rfl rfl rfl rfl rfl) ?_
      refine rl rfl (w1 rfl rfl rfl) rfl (bx_fa tok rfl rfl rfl rfl rfl rfl rfl) ?_
      refine rl rfl (w1 rfl rfl rfl) rfl (bx_ld1 tok rfl rfl rfl rfl rfl) ?_
      obtain ⟨v3, hv3, h0⟩ := bnd h0
      refine rs rfl (w1 rfl rfl rfl) rfl (c_call 4 (i_gcd_c hv3) rfl rfl rfl) ?_
      refine rp rfl (w1 rfl rfl rfl) rfl (pu_eql rfl rfl) ?_
      refine rp rfl w0 rfl (pu_pick_t (r := .d _) rfl rfl) ?_
      refine rp rfl w0 rfl (pu_assign (r := .d _) rfl) ?_
      refine ra_nil ?_
      refine then_n ?_
      refine aw_ret ?_
      cases h0
      exact ret0_ (rs := [.tmp 2]) rfl
    · skip
      refine rk rfl rfl rfl (by first | exact .inl rfl | exact .inr rfl) rfl ?_
      refine rk rfl rfl rfl (by first | exact .inl rfl | exact .inr rfl) rfl ?_
      refine rk rfl rfl rfl (by first | exact .inl rfl | exact .inr rfl) rfl ?_
      refine rk rfl rfl rfl (by first | exact .inl rfl | exact .inr rfl) rfl ?_
      refine rk rfl rfl rfl (by first | exact .inl rfl | exact .inr rfl) rfl ?_
      refine rk rfl rfl rfl (by first | exact .inl rfl | exact .inr rfl) rfl ?_
      refine rp rfl w0 rfl (pu_pick_f (r := .d _) rfl rfl) ?_
      refine rp rfl w0 rfl (pu_assign (r := .d _) rfl) ?_
      refine ra_nil ?_
      refine then_n ?_
      refine aw_ret ?_
      cases h0
      exact ret0_ (rs := [.tmp 2]) rfl
  · skip
    refine rk rfl rfl rfl (by first | exact .inl rfl | exact .inr rfl) rfl ?_
    refine rk rfl rfl rfl (by first | exact .inl rfl | exact .inr rfl) rfl ?_
    refine rk rfl rfl rfl (by first | exact .inl rfl | exact .inr rfl) rfl ?_
    refine rp rfl w0 rfl (pu_pick_f (r := .d _) rfl rfl) ?_
    refine rp rfl w0 rfl (pu_move (r := .d _) rfl) ?_
    refine rk rfl rfl rfl (by first | exact .inl rfl | exact .inr rfl) rfl ?_
    refine rk rfl rfl rfl (by first | exact .inl rfl | exact .inr rfl) rfl ?_
    refine rk rfl rfl rfl (by first | exact .inl rfl | exact .inr rfl) rfl ?_
    refine rk rfl rfl rfl (by first | exact .inl rfl | exact .inr rfl) rfl ?_
    refine rk rfl rfl rfl (by first | exact .inl rfl | exact .inr rfl) rfl ?_
    refine rk rfl rfl rfl (by first | exact .inl rfl | exact .inr rfl) rfl ?_
    refine rp rfl w0 rfl (pu_pick_f (r := .d _) rfl rfl) ?_
    refine rp rfl w0 rfl (pu_assign (r := .d _) rfl) ?_
    refine ra_nil ?_
    refine then_n ?_
    refine aw_ret ?_
    cases h0
    exact ret0_ (rs := [.tmp 2]) rfl

theorem i_MulRatio_c {p0 : Ratio_} {p1 : Ratio_} {r : Ratio_ × Int} (h0 : i_MulRatio_m p0 p1 = some r) : FnC Try.prog 182 [] [.agg [.d (.v (.int .i64 p0.Num)), .d (.v (.int .i64 p0.Den))], .agg [.d (.v (.int .i64 p1.Num)), .d (.v (.int .i64 p1.Den))]] [] (.tup [.agg [.d (.v (.int .i64 r.1.Num)), .d (.v (.int .i64 r.1.Den))], .d (.v (.int .i64 r.2))]) := by
  refine fnc_intro (T := tt) (N := 28) tok Try.func182 rfl rfl (by kernel_rfl) rfl rfl ?_
  unfold i_MulRatio_m at h0
  refine aw_seq ?_
  refine aw_regionA (is := [0, 1, 2, 3]) rfl ?_
  refine rs rfl w0 rfl (st_box 3 (cs := _ :: _) rfl rfl rfl) ?_
  refine rs rfl w0 rfl (st_box 4 (cs := _ :: _) rfl rfl rfl) ?_
  refine rs rfl w0 rfl (st_alloc 5 (cs := [.d (.v (.int .i64 0)), .d (.v (.int .i64 0))]) tok rfl rfl rfl) ?_
  refine rp rfl w0 rfl (pu_assign (r := .d _) rfl) ?_
  refine ra_nil ?_
  refine then_n ?_
  refine aw_seq ?_
  obtain ⟨v3, h1, h0⟩ := bnd h0
  refine aw_cut ⟨updA (updA (updA (updA ((fun _ => .dead)) 2 (.ptr 3 0 1 0 0)) 3 (.ptr 4 0 1 0 0)) 4 (.ptr 5 0 1 0 0)) 13 (.d (.v (.bool v3))), lks [.no, .no, .no, .live [⟨29, 2, .av [[.d (.v (.int .i64 p0.Num)), .d (.v (.int .i64 p0.Den))]]⟩], .live [⟨29, 2, .av [[.d (.v (.int .i64 p1.Num)), .d (.v (.int .i64 p1.Den))]]⟩], .live [⟨29, 2, .av [[.d (.v (.int .i64 0)), .d (.v (.int .i64 0))]]⟩]]⟩ ?_ ?_
  · skip
    refine aw_regionA (is := [0, 1, 2, 3, 4, 5, 6, 7]) rfl ?_
    refine rl rfl w0 rfl (bx_ldN tok rfl rfl rfl rfl) ?_
    obtain ⟨v1, hv1, h1⟩ := bnd h1
    refine rs rfl w0 rfl (c_call 6 (i_ValidRatio_c hv1) rfl rfl rfl) ?_
    refine rp rfl w0 rfl (pu_not rfl) ?_
    refine rp rfl w0 rfl (pu_move (r := .d _) rfl) ?_
    refine ra_ifB (u := 9) h1 rfl (fun hc h1 => ?_) (fun hc h1 => ?_)
    · skip
      refine rk rfl rfl rfl (by first | exact .inl rfl | exact .inr rfl) rfl ?_
      refine rk rfl rfl rfl (by first | exact .inl rfl | exact .inr rfl) rfl ?_
      refine rk rfl rfl rfl (by first | exact .inl rfl | exact .inr rfl) rfl ?_
      refine rp rfl w0 rfl (pu_pick_t (r := .d _) rfl rfl) ?_
      refine ra_nil ?_
      refine then_n ?_
      cases h1
      exact wk [0, 1, 2, 3, 4, 5]
    · skip
      refine rl rfl (w1 rfl rfl rfl) rfl (bx_ldN tok rfl rfl rfl rfl) ?_
      obtain ⟨v2, hv2, h1⟩ := bnd h1
      refine rs rfl (w1 rfl rfl rfl) rfl (c_call 6 (i_ValidRatio_c hv2) rfl rfl rfl) ?_
      refine rp rfl (w1 rfl rfl rfl) rfl (pu_not rfl) ?_
      refine rp rfl w0 rfl (pu_pick_f (r := .d _) rfl rfl) ?_
      refine ra_nil ?_
      refine then_n ?_
      cases h1
      exact wk [0, 1, 2, 3, 4, 5]
  · skip
    refine aw_ifB h0 rfl (fun hc h0 => ?_) (fun hc h0 => ?_)
    · skip
      refine aw_seq ?_
      refine aw_regionA (is := [0, 1, 2]) rfl ?_
      refine rp rfl w0 rfl (pu_build (C0 := [.d (.v (.int .i64 0)), .d (.v (.int .i64 0))]) tok rfl rfl (by repeat (first | exact Plc.nil | apply Plc.cons rfl)) rfl (by repeat (first | exact Bld.nil _ | apply Bld.cons (cs := [.d _]) rfl rfl rfl rfl (by repeat (first | exact Spl.z _ | apply Spl.t | apply Spl.d)) | apply Bld.cons (cs := [.own _ _ _]) rfl rfl rfl rfl (by repeat (first | exact Spl.z _ | apply Spl.t | apply Spl.d)) | apply Bld.cons (cs := [.ptr _ _ _ _ _]) rfl rfl rfl rfl (by repeat (first | exact Spl.z _ | apply Spl.t | apply Spl.d)) | apply Bld.cons (cs := [.fn _ _]) rfl rfl rfl rfl (by repeat (first | exact Spl.z _ | apply Spl.t | apply Spl.d)) | apply Bld.cons (cs := _ :: _) rfl rfl rfl rfl (by repeat (first | exact Spl.z _ | apply Spl.t | apply Spl.d))))) ?_
      refine rw0 rfl w0 (bx_st (cs := _ :: _) tok rfl rfl rfl rfl rfl rfl rfl) ?_
      refine rp rfl w0 rfl (pu_assign (r := .d _) rfl) ?_
      refine ra_nil ?_
      refine then_n ?_
      refine aw_ret ?_
      refine then_r ?_
      cases h0
      exact ret0_ (rs := [.cell 4 29, .tmp 5]) rfl
    · skip
      refine aw_skip ?_
      refine then_n ?_
      refine aw_seq ?_
      refine aw_regionA (is := [0, 1, 2, 3, 4, 5, 6, 7, 8, 9, 10, 11, 12, 13, 14]) rfl ?_
      refine rl rfl w0 rfl (bx_fa tok rfl rfl rfl rfl rfl rfl rfl) ?_
      refine rl rfl w0 rfl (bx_ld1 tok rfl rfl rfl rfl rfl) ?_
      refine rl rfl w0 rfl (bx_fa tok rfl rfl rfl rfl rfl rfl rfl) ?_
      refine rl rfl w0 rfl (bx_ld1 tok rfl rfl rfl rfl rfl) ?_
      refine rp rfl w0 rfl (pw_mul rfl rfl) ?_
      refine rl rfl w0 rfl (bx_fa tok rfl rfl rfl rfl rfl rfl rfl) ?_
      refine rl rfl w0 rfl (bx_ld1 tok rfl rfl rfl rfl rfl) ?_
      refine rl rfl w0 rfl (bx_fa tok rfl rfl rfl rfl rfl rfl rfl) ?_
      refine rl rfl w0 rfl (bx_ld1 tok rfl rfl rfl rfl rfl) ?_
      refine rp rfl w0 rfl (pw_mul rfl rfl) ?_
      obtain ⟨v4, hv4, h0⟩ := bnd h0
      refine rs rfl w0 rfl (c_call 6 (i_MakeRatio_c hv4) rfl rfl rfl) ?_
      refine rp rfl w0 rfl (pu_extract rfl rfl) ?_
      refine rp rfl w0 rfl (pu_extract rfl rfl) ?_
      refine rw0 rfl w0 (bx_st (cs := _ :: _) tok rfl rfl rfl rfl rfl rfl rfl) ?_
      refine rp rfl w0 rfl (pu_assign (r := .d _) rfl) ?_
      refine ra_nil ?_
      refine then_n ?_
      refine aw_ret ?_
      cases h0
      exact ret0_ (rs := [.cell 4 29, .tmp 5]) rfl

theorem i_meshed_c {p0 : Ratio_} {p1 : Int} {p2 : Int} {r : Ratio_ × Int} (h0 : i_meshed_m p0 p1 p2 = some r) : FnC Try.prog 153 [] [.agg [.d (.v (.int .i64 p0.Num)), .d (.v (.int .i64 p0.Den))], .d (.v (.int .i64 p1)), .d (.v (.int .i64 p2))] [] (.tup [.agg [.d (.v (.int .i64 r.1.Num)), .d (.v (.int .i64 r.1.Den))], .d (.v (.int .i64 r.2))]) := by
  refine fnc_intro (T := tt) (N := 22) tok Try.func153 rfl rfl (by kernel_rfl) rfl rfl ?_
  unfold i_meshed_m at h0
  refine aw_seq ?_
  refine aw_regionA (is := [0, 1, 2]) rfl ?_
  refine rs rfl w0 rfl (st_box 3 (cs := _ :: _) rfl rfl rfl) ?_
  refine rs rfl w0 rfl (st_alloc 4 (cs := [.d (.v (.int .i64 0)), .d (.v (.int .i64 0))]) tok rfl rfl rfl) ?_
  refine rp rfl w0 rfl (pu_assign (r := .d _) rfl) ?_
  refine ra_nil ?_
  refine then_n ?_
  refine aw_seq ?_
  refine aw_regionA (is := [0, 1, 2, 3, 4, 5, 6, 7, 8, 9]) rfl ?_
  refine rp rfl w0 rfl (pu_move (r := .d _) rfl) ?_
  refine rp rfl w0 rfl (pw_neg rfl) ?_
  refine rp rfl w0 rfl (pu_move (r := .d _) rfl) ?_
  obtain ⟨v1, hv1, h0⟩ := bnd h0
  refine rs rfl w0 rfl (c_call 5 (i_MakeRatio_c hv1) rfl rfl rfl) ?_
  refine rp rfl w0 rfl (pu_move (r := .tup _) rfl) ?_
  refine rp rfl w0 rfl (pu_extract rfl rfl) ?_
  refine rp rfl w0 rfl (pu_extract rfl rfl) ?_
  refine rs rfl w0 rfl (st_alloc 5 (cs := [.d (.v (.int .i64 0)), .d (.v (.int .i64 0))]) tok rfl rfl rfl) ?_
  refine rw0 rfl w0 (bx_st (cs := _ :: _) tok rfl rfl rfl rfl rfl rfl rfl) ?_
  refine rp rfl w0 rfl (pu_assign (r := .d _) rfl) ?_
  refine ra_nil ?_
  refine then_n ?_
  refine aw_seq ?_
  refine aw_regionA (is := [0, 1, 2, 3, 4, 5, 6]) rfl ?_
  refine rl rfl w0 rfl (bx_ldN tok rfl rfl rfl rfl) ?_
  refine rl rfl w0 rfl (bx_ldN tok rfl rfl rfl rfl) ?_
  obtain ⟨v2, hv2, h0⟩ := bnd h0
  refine rs rfl w0 rfl (c_call 6 (i_MulRatio_c hv2) rfl rfl rfl) ?_
  refine rp rfl w0 rfl (pu_extract rfl rfl) ?_
  refine rp rfl w0 rfl (pu_extract rfl rfl) ?_
  refine rw0 rfl w0 (bx_st (cs := _ :: _) tok rfl rfl rfl rfl rfl rfl rfl) ?_
  refine rp rfl w0 rfl (pu_assign (r := .d _) rfl) ?_
  refine ra_nil ?_
  refine then_n ?_
  refine aw_ret ?_
  cases h0
  exact ret0_ (rs := [.cell 6 29, .tmp 7]) rfl

theorem i_speedsFrom_c {p0 : Works_} {p1 : Int} {r : List Ratio_ × Int} (h0 : i_speedsFrom_m p0 p1 = some r) : FnC Try.prog 149 [] [.agg [.d (.sl (List.map cArbor_ p0.Arbors)), .d (.sl (List.map cMesh_ p0.Meshes))], .d (.v (.int .i64 p1))] [.live [⟨29, 2, .data (List.map cRatio_ r.1)⟩]] (.tup [.own 0 0 r.1.length, .d (.v (.int .i64 r.2))]) := by
  refine fnc_intro (T := tt) (N := 86) tok Try.func149 rfl rfl (by kernel_rfl) rfl rfl ?_
  unfold i_speedsFrom_m at h0
  refine aw_seq ?_
  refine aw_regionA (is := [0, 1, 2]) rfl ?_
  refine rs rfl w0 rfl (st_box 3 (cs := _ :: _) rfl rfl rfl) ?_
  refine rp rfl w0 rfl (pu_assign (r := .d _) rfl) ?_
  refine rp rfl w0 rfl (pu_assign (r := .d _) rfl) ?_
  refine ra_nil ?_
  refine then_n ?_
  refine aw_seq ?_
  refine aw_regionA (is := [0, 1, 2, 3, 4]) rfl ?_
  refine rl rfl w0 rfl (bx_fa tok rfl rfl rfl rfl rfl rfl rfl) ?_
  refine rl rfl w0 rfl (bx_ld1 tok rfl rfl rfl rfl rfl) ?_
  refine rp rfl w0 rfl (pu_len_map tok rfl rfl rfl) ?_
  obtain ⟨hq1, h0⟩ := chk_e h0
  refine rs rfl w0 rfl (mk_own 4 tok (c := cRatio_) (⟨0, 0⟩ : Ratio_) hq1 rfl rfl rfl rfl rfl rfl rfl rfl rfl rfl rfl rfl rfl) ?_
  refine rp rfl w0 rfl (pu_assign (r := .own _ _ _) rfl) ?_
  refine ra_nil ?_
  refine then_n ?_
  refine aw_seq ?_
  refine aw_regionA (is := [0, 1, 2, 3, 4]) rfl ?_
  refine rp rfl w0 rfl (pu_move (r := .own _ _ _) rfl) ?_
  refine rp rfl w0 rfl (pu_move (r := .d _) rfl) ?_
  refine rp rfl w0 rfl (pu_build (C0 := [.d (.v (.int .i64 0)), .d (.v (.int .i64 0))]) tok rfl rfl (by repeat (first | exact Plc.nil | apply Plc.cons rfl)) rfl (by repeat (first | exact Bld.nil _ | apply Bld.cons (cs := [.d _]) rfl rfl rfl rfl (by repeat (first | exact Spl.z _ | apply Spl.t | apply Spl.d)) | apply Bld.cons (cs := [.own _ _ _]) rfl rfl rfl rfl (by repeat (first | exact Spl.z _ | apply Spl.t | apply Spl.d)) | apply Bld.cons (cs := [.ptr _ _ _ _ _]) rfl rfl rfl rfl (by repeat (first | exact Spl.z _ | apply Spl.t | apply Spl.d)) | apply Bld.cons (cs := [.fn _ _]) rfl rfl rfl rfl (by repeat (first | exact Spl.z _ | apply Spl.t | apply Spl.d)) | apply Bld.cons (cs := _ :: _) rfl rfl rfl rfl (by repeat (first | exact Spl.z _ | apply Spl.t | apply Spl.d))))) ?_
  obtain ⟨v2, hv2, h0⟩ := bnd h0
  refine rl rfl w0 rfl (ow_ix tok hv2 rfl rfl rfl rfl rfl rfl rfl rfl) ?_
  refine rw0 rfl w0 (rw_st (cs := _ :: _) tok (⟨1, 1⟩ : Ratio_) (atI_e hv2).2.1 rfl rfl rfl rfl rfl rfl rfl rfl) ?_
  refine ra_nil ?_
  refine then_n ?_
  obtain ⟨v53x, h1, h0⟩ := bnd h0
  refine aw_cutE v53x (fun v53 => ⟨updA ((fun _ => .dead)) 6 (.own 3 0 (v53).length), lks [.no, .no, .no, .live [⟨29, 2, .data (List.map cRatio_ v53)⟩]]⟩) ?_ ?_
  · skip
    refine aw_seq ?_
    refine aw_regionA (is := [0]) rfl ?_
    refine rp rfl w0 rfl (pu_assign (r := .d _) rfl) ?_
    refine ra_nil ?_
    refine then_n ?_
    refine aw_block ?_
    refine aw_loopM (fun s28 => ⟨updA (updA (updA ((fun _ => .dead)) 2 (.ptr 3 0 1 0 0)) 6 (.own 4 0 (s28.2).length)) 7 (.d (.v (.bool s28.1))), lks [.no, .no, .no, .live [⟨71, 2, .av [[.d (.sl (List.map cArbor_ p0.Arbors)), .d (.sl (List.map cMesh_ p0.Meshes))]]⟩], .live [⟨29, 2, .data (List.map cRatio_ s28.2)⟩]]⟩) h1 ?_ (fun s28 y h2 => ?_)
    · skip
      exact wk [0, 1, 2, 3, 4]
    · skip
      refine aw_seq ?_
      refine aw_seq ?_
      refine aw_regionA (is := [0]) rfl ?_
      refine rp rfl w0 rfl (pu_move (r := .d _) rfl) ?_
      refine ra_nil ?_
      refine then_n ?_
      refine aw_ifB h2 rfl (fun hc h2 => ?_) (fun hc h2 => ?_)
      · skip
        refine aw_skip ?_
        refine then_n ?_
        refine aw_block ?_
        refine aw_seq ?_
        refine aw_regionA (is := [0]) rfl ?_
        refine rp rfl w0 rfl (pu_assign (r := .d _) rfl) ?_
        refine ra_nil ?_
        refine then_n ?_
        refine aw_seq ?_
        refine aw_regionA (is := [0, 1, 2, 3]) rfl ?_
        refine rl rfl w0 rfl (bx_fa tok rfl rfl rfl rfl rfl rfl rfl) ?_
        refine rl rfl w0 rfl (bx_ld1 tok rfl rfl rfl rfl rfl) ?_
        refine rp rfl w0 rfl (pu_len_map tok rfl rfl rfl) ?_
        refine rp rfl w0 rfl (pu_move (r := .d _) rfl) ?_
        refine ra_nil ?_
        refine then_n ?_
        refine aw_block ?_
        refine aw_loopM (fun s41 => ⟨updA (updA (updA (updA (updA (updA ((fun _ => .dead)) 2 (.ptr 3 0 1 0 0)) 6 (.own 4 0 (s41.2.2).length)) 7 (.d (.v (.bool s41.1)))) 25 (.d (.sl (List.map cMesh_ p0.Meshes)))) 26 (.d (.v (.int .i64 (p0.Meshes.length : Int))))) 27 (.d (.v (.int .i64 s41.2.1))), lks [.no, .no, .no, .live [⟨71, 2, .av [[.d (.sl (List.map cArbor_ p0.Arbors)), .d (.sl (List.map cMesh_ p0.Meshes))]]⟩], .live [⟨29, 2, .data (List.map cRatio_ s41.2.2)⟩]]⟩) h2 ?_ (fun s41 y h3 => ?_)
        · skip
          exact wk [0, 1, 2, 3, 4]
        · skip
          refine aw_seq ?_
          refine aw_regionA (is := [0]) rfl ?_
          refine rp rfl w0 rfl (pu_lss rfl rfl) ?_
          refine ra_nil ?_
          refine then_n ?_
          refine aw_seq ?_
          refine aw_if h3 rfl (fun hc h3 => ?_) (fun hc h3 => ?_)
          · skip
            refine aw_skip ?_
            refine then_n ?_
            obtain ⟨v52x, h4, h3⟩ := bnd h3
            refine aw_cutE v52x (fun v52 => ⟨updA (updA (updA (updA (updA (updA ((fun _ => .dead)) 2 (.ptr 3 0 1 0 0)) 6 (.own 4 0 (v52.2).length)) 7 (.d (.v (.bool v52.1)))) 25 (.d (.sl (List.map cMesh_ p0.Meshes)))) 26 (.d (.v (.int .i64 (p0.Meshes.length : Int))))) 27 (.d (.v (.int .i64 s41.2.1))), lks [.no, .no, .no, .live [⟨71, 2, .av [[.d (.sl (List.map cArbor_ p0.Arbors)), .d (.sl (List.map cMesh_ p0.Meshes))]]⟩], .live [⟨29, 2, .data (List.map cRatio_ v52.2)⟩]]⟩) ?_ ?_
            · skip
              refine aw_block ?_
              refine aw_seq ?_
              refine aw_regionA (is := [0, 1, 2, 3]) rfl ?_
              obtain ⟨v42, hv42, h4⟩ := bnd h4
              refine rp rfl w0 rfl (sl_ix tok hv42 rfl rfl rfl rfl rfl rfl) ?_
              refine rp rfl w0 rfl (pu_load_refN tok rfl rfl rfl (by repeat (first | exact SegD.z _ | apply SegD.t))) ?_
              refine rs rfl w0 rfl (st_alloc 5 (cs := [.d (.v (.int .i64 0)), .d (.v (.int .i64 0)), .d (.v (.int .i64 0)), .d (.v (.int .i64 0))]) tok rfl rfl rfl) ?_
              refine rw0 rfl w0 (bx_st (cs := _ :: _) tok rfl rfl rfl rfl rfl rfl rfl) ?_
              refine ra_nil ?_
              refine then_n ?_
              refine aw_seq ?_
              refine aw_regionA (is := [0, 1, 2, 3, 4]) rfl ?_
              refine rl rfl w0 rfl (bx_ldN tok rfl rfl rfl rfl) ?_
              refine rl rfl w0 rfl (bx_ldN tok rfl rfl rfl rfl) ?_
              obtain ⟨v43, hv43, h4⟩ := bnd h4
              refine rs rfl w0 rfl (c_call 6 (i_pairOf_c hv43) rfl rfl rfl) ?_
              refine rs rfl w0 rfl (st_alloc 6 (cs := [.d (.v (.int .i64 0)), .d (.v (.int .i64 0))]) tok rfl rfl rfl) ?_
              refine rw0 rfl w0 (bx_st (cs := _ :: _) tok rfl rfl rfl rfl rfl rfl rfl) ?_
              refine ra_nil ?_
              refine then_n ?_
              refine aw_seq ?_
              refine aw_region_draw (is := [0, 1, 2, 3, 4, 5]) [0, 1, 0, 4, 3, 31] follows (by kernel_rfl) ?_
              refine rt_lk rfl w0 rfl (bx_fa tok rfl rfl rfl rfl rfl rfl rfl) rfl rfl rfl ?_
              refine rt_lk rfl w0 rfl (bx_ld1 tok rfl rfl rfl rfl rfl) rfl rfl rfl ?_
              refine rt_lk rfl w0 rfl (bx_fa tok rfl rfl rfl rfl rfl rfl rfl) rfl rfl rfl ?_
              refine rt_lk rfl w0 rfl (bx_ld1 tok rfl rfl rfl rfl rfl) rfl rfl rfl ?_
              refine rt_p rfl w0 rfl (pu_assign (r := .d _) rfl) ?_
              refine rt_p rfl w0 rfl (pu_assign (r := .d _) rfl) ?_
              refine rt_nil ?_
              refine ⟨by kernel_rfl, ?_⟩
              refine then_n ?_
              obtain ⟨v45, h5, h4⟩ := bnd h4
              refine aw_cut ⟨updA (updA (updA (updA (updA (updA (updA (updA (updA ((fun _ => .dead)) 2 (.ptr 3 0 1 0 0)) 6 (.own 4 0 (s41.2.2).length)) 7 (.d (.v (.bool s41.1)))) 10 (.ptr 5 0 1 0 0)) 11 (.d (.v (.int .i64 v45.1)))) 12 (.d (.v (.int .i64 v45.2.1)))) 25 (.d (.sl (List.map cMesh_ p0.Meshes)))) 26 (.d (.v (.int .i64 (p0.Meshes.length : Int))))) 27 (.d (.v (.int .i64 s41.2.1))), lks [.no, .no, .no, .live [⟨71, 2, .av [[.d (.sl (List.map cArbor_ p0.Arbors)), .d (.sl (List.map cMesh_ p0.Meshes))]]⟩], .live [⟨29, 2, .data (List.map cRatio_ s41.2.2)⟩], .live [⟨199, 2, .av [[.d (.v (.int .i64 v45.2.2.Driver)), .d (.v (.int .i64 v45.2.2.Driven))]]⟩]]⟩ ?_ ?_
              · skip
                refine aw_seq ?_
                refine aw_regionA (is := [0, 1, 2, 3, 4, 5]) rfl ?_
                refine rp rfl w0 rfl (pu_move (r := .own _ _ _) rfl) ?_
                refine rp rfl w0 rfl (pu_move (r := .d _) rfl) ?_
                obtain ⟨v44, hv44, h5⟩ := bnd h5
                refine rl rfl w0 rfl (ow_ix tok hv44 rfl rfl rfl rfl rfl rfl rfl rfl) ?_
                refine rl rfl w0 rfl (rw_fa tok (atI_e hv44).2.1 rfl rfl rfl rfl rfl rfl rfl rfl) ?_
                refine rl rfl w0 rfl (rw_ld1 tok (atI_e hv44).2.1 rfl rfl rfl rfl rfl rfl) ?_
                refine rp rfl w0 rfl (pu_eql rfl rfl) ?_
                refine ra_nil ?_
                refine then_n ?_
                refine aw_if h5 rfl (fun hc h5 => ?_) (fun hc h5 => ?_)
                · skip
                  refine aw_seq ?_
                  refine aw_regionA (is := [0, 1, 2, 3]) rfl ?_
                  refine rp rfl w0 rfl (pu_move (r := .d _) rfl) ?_
                  refine rp rfl w0 rfl (pu_move (r := .d _) rfl) ?_
                  refine rp rfl w0 rfl (pu_assign (r := .d _) rfl) ?_
                  refine rp rfl w0 rfl (pu_assign (r := .d _) rfl) ?_
                  refine ra_nil ?_
                  refine then_n ?_
                  refine aw_regionA (is := [0, 1, 2, 3, 4, 5]) rfl ?_
                  refine rl rfl w0 rfl (bx_fa tok rfl rfl rfl rfl rfl rfl rfl) ?_
                  refine rl rfl w0 rfl (bx_ld1 tok rfl rfl rfl rfl rfl) ?_
                  refine rl rfl w0 rfl (bx_fa tok rfl rfl rfl rfl rfl rfl rfl) ?_
                  refine rl rfl w0 rfl (bx_ld1 tok rfl rfl rfl rfl rfl) ?_
                  refine rp rfl w0 rfl (pu_build (C0 := [.d (.v (.int .i64 0)), .d (.v (.int .i64 0))]) tok rfl rfl (by repeat (first | exact Plc.nil | apply Plc.cons rfl)) rfl (by repeat (first | exact Bld.nil _ | apply Bld.cons (cs := [.d _]) rfl rfl rfl rfl (by repeat (first | exact Spl.z _ | apply Spl.t | apply Spl.d)) | apply Bld.cons (cs := [.own _ _ _]) rfl rfl rfl rfl (by repeat (first | exact Spl.z _ | apply Spl.t | apply Spl.d)) | apply Bld.cons (cs := [.ptr _ _ _ _ _]) rfl rfl rfl rfl (by repeat (first | exact Spl.z _ | apply Spl.t | apply Spl.d)) | apply Bld.cons (cs := [.fn _ _]) rfl rfl rfl rfl (by repeat (first | exact Spl.z _ | apply Spl.t | apply Spl.d)) | apply Bld.cons (cs := _ :: _) rfl rfl rfl rfl (by repeat (first | exact Spl.z _ | apply Spl.t | apply Spl.d))))) ?_
                  refine rw0 rfl w0 (bx_st (cs := _ :: _) tok rfl rfl rfl rfl rfl rfl rfl) ?_
                  refine ra_nil ?_
                  refine then_n ?_
                  cases h5
                  exact wk [0, 1, 2, 3, 4, 6]
                · skip
                  refine aw_skip ?_
                  refine then_n ?_
                  cases h5
                  exact wk [0, 1, 2, 3, 4, 6]
              · skip
                refine aw_seq ?_
                obtain ⟨v48, h5, h4⟩ := bnd h4
                refine aw_cut ⟨updA (updA (updA (updA (updA (updA (updA (updA (updA (updA ((fun _ => .dead)) 2 (.ptr 3 0 1 0 0)) 6 (.own 4 0 (s41.2.2).length)) 7 (.d (.v (.bool s41.1)))) 10 (.ptr 5 0 1 0 0)) 11 (.d (.v (.int .i64 v45.1)))) 12 (.d (.v (.int .i64 v45.2.1)))) 25 (.d (.sl (List.map cMesh_ p0.Meshes)))) 26 (.d (.v (.int .i64 (p0.Meshes.length : Int))))) 27 (.d (.v (.int .i64 s41.2.1)))) 64 (.d (.v (.bool v48))), lks [.no, .no, .no, .live [⟨71, 2, .av [[.d (.sl (List.map cArbor_ p0.Arbors)), .d (.sl (List.map cMesh_ p0.Meshes))]]⟩], .live [⟨29, 2, .data (List.map cRatio_ s41.2.2)⟩], .live [⟨199, 2, .av [[.d (.v (.int .i64 v45.2.2.Driver)), .d (.v (.int .i64 v45.2.2.Driven))]]⟩]]⟩ ?_ ?_
                · skip
                  refine aw_regionA (is := [0, 1, 2, 3, 4, 5, 6, 7, 8, 9, 10, 11, 12, 13]) rfl ?_
                  refine rp rfl w0 rfl (pu_move (r := .own _ _ _) rfl) ?_
                  refine rp rfl w0 rfl (pu_move (r := .d _) rfl) ?_
                  obtain ⟨v46, hv46, h5⟩ := bnd h5
                  refine rl rfl w0 rfl (ow_ix tok hv46 rfl rfl rfl rfl rfl rfl rfl rfl) ?_
                  refine rl rfl w0 rfl (rw_fa tok (atI_e hv46).2.1 rfl rfl rfl rfl rfl rfl rfl rfl) ?_
                  refine rl rfl w0 rfl (rw_ld1 tok (atI_e hv46).2.1 rfl rfl rfl rfl rfl rfl) ?_
                  refine rp rfl w0 rfl (pu_eql rfl rfl) ?_
                  refine rp rfl w0 rfl (pu_move (r := .d _) rfl) ?_
                  refine ra_if (u := 57) h5 rfl (fun hc h5 => ?_) (fun hc h5 => ?_)
                  · skip
                    refine rk rfl rfl rfl (by first | exact .inl rfl | exact .inr rfl) rfl ?_
                    refine rk rfl rfl rfl (by first | exact .inl rfl | exact .inr rfl) rfl ?_
                    refine rk rfl rfl rfl (by first | exact .inl rfl | exact .inr rfl) rfl ?_
                    refine rk rfl rfl rfl (by first | exact .inl rfl | exact .inr rfl) rfl ?_
                    refine rk rfl rfl rfl (by first | exact .inl rfl | exact .inr rfl) rfl ?_
                    refine rk rfl rfl rfl (by first | exact .inl rfl | exact .inr rfl) rfl ?_
                    refine rp rfl w0 rfl (pu_pick_t (r := .d _) rfl rfl) ?_
                    refine ra_nil ?_
                    refine then_n ?_
                    cases h5
                    exact wk [0, 1, 2, 3, 4, 5]
                  · skip
                    refine rp rfl (w1 rfl rfl rfl) rfl (pu_move (r := .own _ _ _) rfl) ?_
                    refine rp rfl (w1 rfl rfl rfl) rfl (pu_move (r := .d _) rfl) ?_
                    obtain ⟨v47, hv47, h5⟩ := bnd h5
                    refine rl rfl (w1 rfl rfl rfl) rfl (ow_ix tok hv47 rfl rfl rfl rfl rfl rfl rfl rfl) ?_
                    refine rl rfl (w1 rfl rfl rfl) rfl (rw_fa tok (atI_e hv47).2.1 rfl rfl rfl rfl rfl rfl rfl rfl) ?_
                    refine rl rfl (w1 rfl rfl rfl) rfl (rw_ld1 tok (atI_e hv47).2.1 rfl rfl rfl rfl rfl rfl) ?_
                    refine rp rfl (w1 rfl rfl rfl) rfl (pu_neq rfl rfl) ?_
                    refine rp rfl w0 rfl (pu_pick_f (r := .d _) rfl rfl) ?_
                    refine ra_nil ?_
                    refine then_n ?_
                    cases h5
                    exact wk [0, 1, 2, 3, 4, 5]
                · skip
                  refine aw_ifB h4 rfl (fun hc h4 => ?_) (fun hc h4 => ?_)
                  · skip
                    refine aw_exit ?_
                    refine then_e ?_
                    refine block_hit ?_
                    refine then_n ?_
                    cases h4
                    refine ⟨_, rfl, ?_⟩
                    exact wk [0, 1, 2, 3, 4]
                  · skip
                    refine aw_skip ?_
                    refine then_n ?_
                    refine aw_seq ?_
                    refine aw_region_draw (is := [0, 1, 2, 3, 4, 5, 6, 7, 8, 9, 10, 11, 12, 13, 14]) [0, 0, 3, 7, 0, 16, 0, 64, 255, 511, 1023, 1023, 0, 6143, 16383] follows (by kernel_rfl) ?_
                    refine rt_p rfl w0 rfl (pu_move (r := .own _ _ _) rfl) ?_
                    refine rt_p rfl w0 rfl (pu_move (r := .d _) rfl) ?_
                    obtain ⟨v49, hv49, h4⟩ := bnd h4
                    refine rt_lk rfl w0 rfl (ow_ix tok hv49 rfl rfl rfl rfl rfl rfl rfl rfl) rfl rfl rfl ?_
                    refine rt_lk rfl w0 rfl (rw_ldN tok (atI_e hv49).2.1 rfl rfl rfl rfl rfl) rfl rfl rfl ?_
                    refine rt_lk rfl w0 rfl (bx_fa tok rfl rfl rfl rfl rfl rfl rfl) rfl rfl rfl ?_
                    refine rt_lk rfl w0 rfl (bx_ld1 tok rfl rfl rfl rfl rfl) rfl rfl rfl ?_
                    refine rt_lk rfl w0 rfl (bx_fa tok rfl rfl rfl rfl rfl rfl rfl) rfl rfl rfl ?_
                    refine rt_lk rfl w0 rfl (bx_ld1 tok rfl rfl rfl rfl rfl) rfl rfl rfl ?_
                    obtain ⟨v50, hv50, h4⟩ := bnd h4
                    refine rt_c rfl w0 rfl (b_call 7 (i_meshed_c hv50) rfl rfl rfl) ?_
                    refine rt_p rfl w0 rfl (pu_move (r := .tup _) rfl) ?_
                    refine rt_p rfl w0 rfl (pu_extract rfl rfl) ?_
                    refine rt_p rfl w0 rfl (pu_extract rfl rfl) ?_
                    refine rt_a rfl w0 rfl rfl (fun hx hk => st_alloc 6 (cs := [.d (.v (.int .i64 0)), .d (.v (.int .i64 0))]) tok rfl rfl hk) ?_
                    refine rt_wk rfl w0 (bx_st (cs := _ :: _) tok rfl rfl rfl rfl rfl rfl rfl) ?_
                    refine rt_p rfl w0 rfl (pu_assign (r := .d _) rfl) ?_
                    refine rt_nil ?_
                    refine ⟨by kernel_rfl, ?_⟩
                    refine then_n ?_
                    refine aw_seq ?_
                    refine aw_seq ?_
                    refine aw_regionA (is := [0, 1]) rfl ?_
                    refine rp rfl w0 rfl (pu_move (r := .d _) rfl) ?_
                    refine rp rfl w0 rfl (pu_neq rfl rfl) ?_
                    refine ra_nil ?_
                    refine then_n ?_
                    refine aw_if h4 rfl (fun hc h4 => ?_) (fun hc h4 => ?_)
                    · skip
                      refine aw_seq ?_
                      refine aw_regionA (is := [0, 1, 2]) rfl ?_
                      refine rp rfl w0 rfl (pu_move (r := .d _) rfl) ?_
                      refine rp rfl w0 rfl (pu_assign (r := .d _) rfl) ?_
                      refine rp rfl w0 rfl (pu_assign (r := .d _) rfl) ?_
                      refine ra_nil ?_
                      refine then_n ?_
                      refine aw_weak (weak_adopt_t 7 rfl 29 2 (d := 4) rfl) ?_
                      refine aw_ret ?_
                      refine then_r ?_
                      refine block_r ?_
                      cases h4
                      replace h3 := orE_s h3
                      refine then_r ?_
                      cases h3
                      refine loop_r ⟨_, rfl, fun e => ?_⟩
                      subst e
                      refine block_r ?_
                      refine block_r ?_
                      refine loop_r ⟨_, rfl, fun e => ?_⟩
                      subst e
                      refine block_r ?_
                      replace h0 := orE_s h0
                      refine then_r ?_
                      cases h0
                      exact retK_ (rs := [.tmp 4, .tmp 5]) [7] rfl
                    · skip
                      refine aw_skip ?_
                      refine then_n ?_
                      refine aw_seq ?_
                      refine aw_regionA (is := [0, 1, 2, 3, 4]) rfl ?_
                      refine rp rfl w0 rfl (pu_move (r := .own _ _ _) rfl) ?_
                      refine rp rfl w0 rfl (pu_move (r := .d _) rfl) ?_
                      refine rl rfl w0 rfl (bx_ldN tok rfl rfl rfl rfl) ?_
                      obtain ⟨v51, hv51, h4⟩ := bnd h4
                      refine rl rfl w0 rfl (ow_ix tok hv51 rfl rfl rfl rfl rfl rfl rfl rfl) ?_
                      refine rw0 rfl w0 (rw_st (cs := _ :: _) tok v50.1 (atI_e hv51).2.1 rfl rfl rfl rfl rfl rfl rfl rfl) ?_
                      refine ra_nil ?_
                      refine then_n ?_
                      refine aw_regionA (is := [0]) rfl ?_
                      refine rp rfl w0 rfl (pu_assign (r := .d _) rfl) ?_
                      refine ra_nil ?_
                      refine block_n ?_
                      refine then_n ?_
                      cases h4
                      refine ⟨_, rfl, ?_⟩
                      exact wk [0, 1, 2, 3, 4]
            · skip
              rintro v52 rfl
              replace h3 := orE_f h3
              refine aw_regionA (is := [0, 1]) rfl ?_
              refine rp rfl w0 rfl (pw_add rfl rfl) ?_
              refine rp rfl w0 rfl (pu_move (r := .d _) rfl) ?_
              refine ra_nil ?_
              refine loop_n ?_
              cases h3
              refine ⟨_, rfl, ?_⟩
              exact wk [0, 1, 2, 3, 4]
          · skip
            refine aw_exit ?_
            refine then_e ?_
            cases h3
            refine loop_x ⟨_, rfl, fun e => ?_⟩
            subst e
            refine block_hit ?_
            refine block_n ?_
            refine loop_n ?_
            refine ⟨_, rfl, ?_⟩
            exact wk [0, 1, 2, 3, 4]
      · skip
        refine aw_exit ?_
        refine then_e ?_
        cases h2
        refine loop_x ⟨_, rfl, fun e => ?_⟩
        subst e
        refine block_hit ?_
        refine then_n ?_
        refine ⟨_, rfl, ?_⟩
        exact wk [0, 1, 2, 4]
  · skip
    rintro v53 rfl
    replace h0 := orE_f h0
    refine aw_seq ?_
    refine aw_regionA (is := [0, 1, 2]) rfl ?_
    refine rp rfl w0 rfl (pu_move (r := .own _ _ _) rfl) ?_
    refine rp rfl w0 rfl (pu_assign (r := .own _ _ _) rfl) ?_
    refine rp rfl w0 rfl (pu_assign (r := .d _) rfl) ?_
    refine ra_nil ?_
    refine then_n ?_
    refine aw_ret ?_
    cases h0
    exact retK_ (rs := [.tmp 4, .tmp 5]) [3] rfl

theorem i_SpeedsOf_1_c {p0 : Ratio_} {r : Bool} (h0 : i_SpeedsOf_1_m p0 = some r) : FnC Try.prog 151 [] [.agg [.d (.v (.int .i64 p0.Num)), .d (.v (.int .i64 p0.Den))]] [] (.d (.v (.bool r))) := by
  refine fnc_intro (T := tt) (N := 6) tok Try.func151 rfl rfl (by kernel_rfl) rfl rfl ?_
  unfold i_SpeedsOf_1_m at h0
  refine aw_seq ?_
  refine aw_regionA (is := [0, 1]) rfl ?_
  refine rs rfl w0 rfl (st_box 3 (cs := _ :: _) rfl rfl rfl) ?_
  refine rp rfl w0 rfl (pu_assign (r := .d _) rfl) ?_
  refine ra_nil ?_
  refine then_n ?_
  refine aw_seq ?_
  refine aw_regionA (is := [0, 1, 2, 3]) rfl ?_
  refine rl rfl w0 rfl (bx_fa tok rfl rfl rfl rfl rfl rfl rfl) ?_
  refine rl rfl w0 rfl (bx_ld1 tok rfl rfl rfl rfl rfl) ?_
  refine rp rfl w0 rfl (pu_eql rfl rfl) ?_
  refine rp rfl w0 rfl (pu_assign (r := .d _) rfl) ?_
  refine ra_nil ?_
  refine then_n ?_
  refine aw_ret ?_
  cases h0
  exact ret0_ (rs := [.tmp 2]) rfl

theorem slices_IndexFunc_LRatio_Ratio_i_SpeedsOf_1_c {p0 : List Ratio_} {r : Int} (h0 : slices_IndexFunc_LRatio_Ratio_i_SpeedsOf_1_m p0 = some r) : FnC Try.prog 181 [] [.d (.sl (List.map cRatio_ p0)), .fn 151 []] [] (.d (.v (.int .i64 r))) := by
  refine fnc_intro (T := tt) (N := 19) tok Try.func181 rfl rfl (by kernel_rfl) rfl rfl ?_
  unfold slices_IndexFunc_LRatio_Ratio_i_SpeedsOf_1_m at h0
  refine aw_seq ?_
  refine aw_regionA (is := [0]) rfl ?_
  refine rp rfl w0 rfl (pu_assign (r := .d _) rfl) ?_
  refine ra_nil ?_
  refine then_n ?_
  obtain ⟨v7x, h1, h0⟩ := bnd h0
  refine aw_cutE v7x (fun v7 => ⟨(fun _ => .dead), lks [.no, .no, .no]⟩) ?_ ?_
  · skip
    refine aw_seq ?_
    refine aw_regionA (is := [0, 1, 2]) rfl ?_
    refine rp rfl w0 rfl (pu_move (r := .d _) rfl) ?_
    refine rp rfl w0 rfl (pu_len_map tok rfl rfl rfl) ?_
    refine rp rfl w0 rfl (pu_move (r := .d _) rfl) ?_
    refine ra_nil ?_
    refine then_n ?_
    refine aw_block ?_
    refine aw_loopM (fun s4 => ⟨updA (updA (updA (updA ((fun _ => .dead)) 0 (.d (.sl (List.map cRatio_ p0)))) 1 (.fn 151 [])) 7 (.d (.v (.int .i64 (p0.length : Int))))) 8 (.d (.v (.int .i64 s4))), lks [.no, .no, .no]⟩) h1 ?_ (fun s4 y h2 => ?_)
    · skip
      exact wk [0, 1, 2]
    · skip
      refine aw_seq ?_
      refine aw_regionA (is := [0]) rfl ?_
      refine rp rfl w0 rfl (pu_lss rfl rfl) ?_
      refine ra_nil ?_
      refine then_n ?_
      refine aw_seq ?_
      refine aw_if h2 rfl (fun hc h2 => ?_) (fun hc h2 => ?_)
      · skip
        refine aw_skip ?_
        refine then_n ?_
        refine aw_seq ?_
        refine aw_block ?_
        refine aw_seq ?_
        refine aw_regionA (is := [0, 1]) rfl ?_
        refine rp rfl w0 rfl (pu_move (r := .d _) rfl) ?_
        refine rp rfl w0 rfl (pu_assign (r := .d _) rfl) ?_
        refine ra_nil ?_
        refine then_n ?_
        refine aw_seq ?_
        refine aw_regionA (is := [0, 1, 2, 3, 4, 5]) rfl ?_
        refine rp rfl w0 rfl (pu_move (r := .fn _ _) rfl) ?_
        refine rp rfl w0 rfl (pu_move (r := .d _) rfl) ?_
        refine rp rfl w0 rfl (pu_move (r := .d _) rfl) ?_
        obtain ⟨v5, hv5, h2⟩ := bnd h2
        refine rp rfl w0 rfl (sl_ix tok hv5 rfl rfl rfl rfl rfl rfl) ?_
        refine rp rfl w0 rfl (pu_load_refN tok rfl rfl rfl (by repeat (first | exact SegD.z _ | apply SegD.t))) ?_
        obtain ⟨v6, hv6, h2⟩ := bnd h2
        refine rs rfl w0 rfl (c_call 3 (i_SpeedsOf_1_c hv6) rfl rfl rfl) ?_
        refine ra_nil ?_
        refine then_n ?_
        refine aw_ifB h2 rfl (fun hc h2 => ?_) (fun hc h2 => ?_)
        · skip
          refine aw_seq ?_
          refine aw_regionA (is := [0, 1]) rfl ?_
          refine rp rfl w0 rfl (pu_move (r := .d _) rfl) ?_
          refine rp rfl w0 rfl (pu_assign (r := .d _) rfl) ?_
          refine ra_nil ?_
          refine then_n ?_
          refine aw_ret ?_
          refine block_r ?_
          refine then_r ?_
          cases h2
          refine loop_r ⟨_, rfl, fun e => ?_⟩
          subst e
          refine block_r ?_
          replace h0 := orE_s h0
          refine then_r ?_
          cases h0
          exact ret0_ (rs := [.tmp 4]) rfl
        · skip
          refine aw_skip ?_
          refine block_n ?_
          refine then_n ?_
          refine aw_regionA (is := [0, 1]) rfl ?_
          refine rp rfl w0 rfl (pw_add rfl rfl) ?_
          refine rp rfl w0 rfl (pu_move (r := .d _) rfl) ?_
          refine ra_nil ?_
          refine loop_n ?_
          cases h2
          refine ⟨_, rfl, ?_⟩
          exact wk [0, 1, 2]
      · skip
        refine aw_exit ?_
        refine then_e ?_
        cases h2
        refine loop_x ⟨_, rfl, fun e => ?_⟩
        subst e
        refine block_hit ?_
        refine then_n ?_
        refine ⟨_, rfl, ?_⟩
        exact wk [0, 1, 2]
  · skip
    rintro v7 rfl
    replace h0 := orE_f h0
    refine aw_seq ?_
    refine aw_regionA (is := [0]) rfl ?_
    refine rp rfl w0 rfl (pu_assign (r := .d _) rfl) ?_
    refine ra_nil ?_
    refine then_n ?_
    refine aw_ret ?_
    cases h0
    exact ret0_ (rs := [.tmp 4]) rfl

theorem slices_ContainsFunc_LRatio_Ratio_i_SpeedsOf_1_c {p0 : List Ratio_} {r : Bool} (h0 : slices_ContainsFunc_LRatio_Ratio_i_SpeedsOf_1_m p0 = some r) : FnC Try.prog 150 [] [.d (.sl (List.map cRatio_ p0)), .fn 151 []] [] (.d (.v (.bool r))) := by
  refine fnc_intro (T := tt) (N := 9) tok Try.func150 rfl rfl (by kernel_rfl) rfl rfl ?_
  unfold slices_ContainsFunc_LRatio_Ratio_i_SpeedsOf_1_m at h0
  refine aw_seq ?_
  refine aw_regionA (is := [0]) rfl ?_
  refine rp rfl w0 rfl (pu_assign (r := .d _) rfl) ?_
  refine ra_nil ?_
  refine then_n ?_
  refine aw_seq ?_
  refine aw_regionA (is := [0, 1, 2, 3, 4]) rfl ?_
  refine rp rfl w0 rfl (pu_move (r := .d _) rfl) ?_
  refine rp rfl w0 rfl (pu_move (r := .fn _ _) rfl) ?_
  obtain ⟨v1, hv1, h0⟩ := bnd h0
  refine rs rfl w0 rfl (c_call 3 (slices_IndexFunc_LRatio_Ratio_i_SpeedsOf_1_c hv1) rfl rfl rfl) ?_
  refine rp rfl w0 rfl (pu_geq rfl rfl) ?_
  refine rp rfl w0 rfl (pu_assign (r := .d _) rfl) ?_
  refine ra_nil ?_
  refine then_n ?_
  refine aw_ret ?_
  cases h0
  exact ret0_ (rs := [.tmp 4]) rfl

end Go.Proofs.Ytkgeenglafchhaa
