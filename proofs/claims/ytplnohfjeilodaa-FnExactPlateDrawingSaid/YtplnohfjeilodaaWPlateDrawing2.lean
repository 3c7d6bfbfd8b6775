/- walks -/
import Derived.Test.YtplnohfjeilodaaXM
import Derived.Test.YtplnohfjeilodaaTab
import Derived.Test.YtplnohfjeilodaaProg
import Derived.Test.YtplnohfjeilodaaWPlateDrawing1
namespace Go.Proofs.Ytplnohfjeilodaa
open Go.RowKit
set_option linter.unusedVariables false
set_option maxRecDepth 100000
set_option maxHeartbeats 2000000
theorem l_heldShapeS_c {p0 : List Shape_} {p1 : Int} {r : Int} (h0 : l_heldShapeS_m p0 p1 = some r) : FnC Try.prog 60 [] [.d (.sl (List.map cShape_ p0)), .d (.v (.int .i64 p1))] [] (.d (.v (.int .i64 r))) := by
  refine fnc_intro (T := tt) (N := 81) tok Try.func60 rfl rfl (by kernel_rfl) rfl rfl ?_
  unfold l_heldShapeS_m at h0
  refine aw_seq ?_
  refine aw_regionA (is := [0]) rfl ?_
  refine rp rfl w0 rfl (pu_assign (r := .d _) rfl) ?_
  refine ra_nil ?_
  refine then_n ?_
  obtain ⟨v19x, h1, h0⟩ := bnd h0
  refine aw_cutE v19x (fun v19 => ⟨updA ((fun _ => .dead)) 1 (.d (.v (.int .i64 v19))), lks [.no, .no, .no]⟩) ?_ ?_
  · skip
    refine aw_seq ?_
    refine aw_regionA (is := [0]) rfl ?_
    refine rp rfl w0 rfl (pu_assign (r := .d _) rfl) ?_
    refine ra_nil ?_
    refine then_n ?_
    refine aw_block ?_
    refine aw_loopM (fun s10 => ⟨updA (updA (updA ((fun _ => .dead)) 0 (.d (.sl (List.map cShape_ p0)))) 1 (.d (.v (.int .i64 s10.1)))) 5 (.d (.v (.int .i64 s10.2))), lks [.no, .no, .no]⟩) h1 ?_ (fun s10 y h2 => ?_)
    · skip
      exact wk [0, 1, 2]
    · skip
      refine aw_seq ?_
      refine aw_seq ?_
      refine aw_regionA (is := [0, 1, 2, 3]) rfl ?_
      refine rp rfl w0 rfl (pu_move (r := .d _) rfl) ?_
      refine rp rfl w0 rfl (pu_move (r := .d _) rfl) ?_
      refine rp rfl w0 rfl (pu_len_map tok rfl rfl rfl) ?_
      refine rp rfl w0 rfl (pu_lss rfl rfl) ?_
      refine ra_nil ?_
      refine then_n ?_
      refine aw_if h2 rfl (fun hc h2 => ?_) (fun hc h2 => ?_)
      · skip
        refine aw_skip ?_
        refine then_n ?_
        refine aw_seq ?_
        refine aw_block ?_
        refine aw_seq ?_
        refine aw_seq ?_
        refine aw_regionA (is := [0, 1, 2, 3, 4, 5, 6]) rfl ?_
        refine rp rfl w0 rfl (pu_move (r := .d _) rfl) ?_
        refine rp rfl w0 rfl (pu_move (r := .d _) rfl) ?_
        obtain ⟨v11, hv11, h2⟩ := bnd h2
        refine rp rfl w0 rfl (sl_ix tok hv11 rfl rfl rfl rfl rfl rfl) ?_
        refine rp rfl w0 rfl (pu_fieldAddr_ref tok rfl rfl rfl rfl rfl rfl (by repeat (first | exact Drp.z _ | apply Drp.d))) ?_
        refine rp rfl w0 rfl (pu_load_ref1 tok rfl rfl rfl rfl) ?_
        refine rp rfl w0 rfl (pu_move (r := .d _) rfl) ?_
        refine rp rfl w0 rfl (pu_neq rfl rfl) ?_
        refine ra_nil ?_
        refine then_n ?_
        refine aw_if h2 rfl (fun hc h2 => ?_) (fun hc h2 => ?_)
        · skip
          refine aw_seq ?_
          refine aw_regionA (is := [0]) rfl ?_
          refine rp rfl w0 rfl (pu_assign (r := .d _) rfl) ?_
          refine ra_nil ?_
          refine then_n ?_
          refine aw_ret ?_
          refine then_r ?_
          refine block_r ?_
          refine then_r ?_
          cases h2
          refine loop_r ⟨_, rfl, fun e => ?_⟩
          subst e
          refine block_r ?_
          replace h0 := orE_s h0
          refine then_r ?_
          cases h0
          exact ret0_ (rs := [.tmp 4]) rfl
        · skip
          refine aw_skip ?_
          refine then_n ?_
          refine aw_seq ?_
          refine aw_regionA (is := [0, 1, 2]) rfl ?_
          refine rp rfl w0 rfl (pu_move (r := .d _) rfl) ?_
          refine rp rfl w0 rfl (pw_add rfl rfl) ?_
          refine rp rfl w0 rfl (pu_assign (r := .d _) rfl) ?_
          refine ra_nil ?_
          refine then_n ?_
          refine aw_seq ?_
          refine aw_seq ?_
          refine aw_regionA (is := [0, 1, 2, 3, 4, 5, 6, 7]) rfl ?_
          refine rp rfl w0 rfl (pu_move (r := .d _) rfl) ?_
          refine rp rfl w0 rfl (pu_move (r := .d _) rfl) ?_
          obtain ⟨v12, hv12, h2⟩ := bnd h2
          refine rp rfl w0 rfl (sl_ix tok hv12 rfl rfl rfl rfl rfl rfl) ?_
          refine rp rfl w0 rfl (pu_fieldAddr_ref tok rfl rfl rfl rfl rfl rfl (by repeat (first | exact Drp.z _ | apply Drp.d))) ?_
          refine rp rfl w0 rfl (pu_fieldAddr_ref tok rfl rfl rfl rfl rfl rfl (by repeat (first | exact Drp.z _ | apply Drp.d))) ?_
          refine rp rfl w0 rfl (pu_load_ref1 tok rfl rfl rfl rfl) ?_
          refine rp rfl w0 rfl (pu_move (r := .d _) rfl) ?_
          refine rp rfl w0 rfl (pu_neq rfl rfl) ?_
          refine ra_nil ?_
          refine then_n ?_
          refine aw_if h2 rfl (fun hc h2 => ?_) (fun hc h2 => ?_)
          · skip
            refine aw_seq ?_
            refine aw_regionA (is := [0]) rfl ?_
            refine rp rfl w0 rfl (pu_assign (r := .d _) rfl) ?_
            refine ra_nil ?_
            refine then_n ?_
            refine aw_ret ?_
            refine then_r ?_
            refine block_r ?_
            refine then_r ?_
            cases h2
            refine loop_r ⟨_, rfl, fun e => ?_⟩
            subst e
            refine block_r ?_
            replace h0 := orE_s h0
            refine then_r ?_
            cases h0
            exact ret0_ (rs := [.tmp 4]) rfl
          · skip
            refine aw_skip ?_
            refine then_n ?_
            refine aw_seq ?_
            refine aw_regionA (is := [0, 1, 2]) rfl ?_
            refine rp rfl w0 rfl (pu_move (r := .d _) rfl) ?_
            refine rp rfl w0 rfl (pw_add rfl rfl) ?_
            refine rp rfl w0 rfl (pu_assign (r := .d _) rfl) ?_
            refine ra_nil ?_
            refine then_n ?_
            refine aw_seq ?_
            refine aw_seq ?_
            refine aw_regionA (is := [0, 1, 2, 3, 4, 5, 6, 7]) rfl ?_
            refine rp rfl w0 rfl (pu_move (r := .d _) rfl) ?_
            refine rp rfl w0 rfl (pu_move (r := .d _) rfl) ?_
            obtain ⟨v13, hv13, h2⟩ := bnd h2
            refine rp rfl w0 rfl (sl_ix tok hv13 rfl rfl rfl rfl rfl rfl) ?_
            refine rp rfl w0 rfl (pu_fieldAddr_ref tok rfl rfl rfl rfl rfl rfl (by repeat (first | exact Drp.z _ | apply Drp.d))) ?_
            refine rp rfl w0 rfl (pu_fieldAddr_ref tok rfl rfl rfl rfl rfl rfl (by repeat (first | exact Drp.z _ | apply Drp.d))) ?_
            refine rp rfl w0 rfl (pu_load_ref1 tok rfl rfl rfl rfl) ?_
            refine rp rfl w0 rfl (pu_move (r := .d _) rfl) ?_
            refine rp rfl w0 rfl (pu_neq rfl rfl) ?_
            refine ra_nil ?_
            refine then_n ?_
            refine aw_if h2 rfl (fun hc h2 => ?_) (fun hc h2 => ?_)
            · skip
              refine aw_seq ?_
              refine aw_regionA (is := [0]) rfl ?_
              refine rp rfl w0 rfl (pu_assign (r := .d _) rfl) ?_
              refine ra_nil ?_
              refine then_n ?_
              refine aw_ret ?_
              refine then_r ?_
              refine block_r ?_
              refine then_r ?_
              cases h2
              refine loop_r ⟨_, rfl, fun e => ?_⟩
              subst e
              refine block_r ?_
              replace h0 := orE_s h0
              refine then_r ?_
              cases h0
              exact ret0_ (rs := [.tmp 4]) rfl
            · skip
              refine aw_skip ?_
              refine then_n ?_
              refine aw_seq ?_
              refine aw_regionA (is := [0, 1, 2]) rfl ?_
              refine rp rfl w0 rfl (pu_move (r := .d _) rfl) ?_
              refine rp rfl w0 rfl (pw_add rfl rfl) ?_
              refine rp rfl w0 rfl (pu_assign (r := .d _) rfl) ?_
              refine ra_nil ?_
              refine then_n ?_
              refine aw_seq ?_
              refine aw_seq ?_
              refine aw_regionA (is := [0, 1, 2, 3, 4, 5, 6, 7]) rfl ?_
              refine rp rfl w0 rfl (pu_move (r := .d _) rfl) ?_
              refine rp rfl w0 rfl (pu_move (r := .d _) rfl) ?_
              obtain ⟨v14, hv14, h2⟩ := bnd h2
              refine rp rfl w0 rfl (sl_ix tok hv14 rfl rfl rfl rfl rfl rfl) ?_
              refine rp rfl w0 rfl (pu_fieldAddr_ref tok rfl rfl rfl rfl rfl rfl (by repeat (first | exact Drp.z _ | apply Drp.d))) ?_
              refine rp rfl w0 rfl (pu_fieldAddr_ref tok rfl rfl rfl rfl rfl rfl (by repeat (first | exact Drp.z _ | apply Drp.d))) ?_
              refine rp rfl w0 rfl (pu_load_ref1 tok rfl rfl rfl rfl) ?_
              refine rp rfl w0 rfl (pu_move (r := .d _) rfl) ?_
              refine rp rfl w0 rfl (pu_neq rfl rfl) ?_
              refine ra_nil ?_
              refine then_n ?_
              refine aw_if h2 rfl (fun hc h2 => ?_) (fun hc h2 => ?_)
              · skip
                refine aw_seq ?_
                refine aw_regionA (is := [0]) rfl ?_
                refine rp rfl w0 rfl (pu_assign (r := .d _) rfl) ?_
                refine ra_nil ?_
                refine then_n ?_
                refine aw_ret ?_
                refine then_r ?_
                refine block_r ?_
                refine then_r ?_
                cases h2
                refine loop_r ⟨_, rfl, fun e => ?_⟩
                subst e
                refine block_r ?_
                replace h0 := orE_s h0
                refine then_r ?_
                cases h0
                exact ret0_ (rs := [.tmp 4]) rfl
              · skip
                refine aw_skip ?_
                refine then_n ?_
                refine aw_seq ?_
                refine aw_regionA (is := [0, 1, 2]) rfl ?_
                refine rp rfl w0 rfl (pu_move (r := .d _) rfl) ?_
                refine rp rfl w0 rfl (pw_add rfl rfl) ?_
                refine rp rfl w0 rfl (pu_assign (r := .d _) rfl) ?_
                refine ra_nil ?_
                refine then_n ?_
                refine aw_seq ?_
                refine aw_seq ?_
                refine aw_regionA (is := [0, 1, 2, 3, 4, 5, 6, 7]) rfl ?_
                refine rp rfl w0 rfl (pu_move (r := .d _) rfl) ?_
                refine rp rfl w0 rfl (pu_move (r := .d _) rfl) ?_
                obtain ⟨v15, hv15, h2⟩ := bnd h2
                refine rp rfl w0 rfl (sl_ix tok hv15 rfl rfl rfl rfl rfl rfl) ?_
                refine rp rfl w0 rfl (pu_fieldAddr_ref tok rfl rfl rfl rfl rfl rfl (by repeat (first | exact Drp.z _ | apply Drp.d))) ?_
                refine rp rfl w0 rfl (pu_fieldAddr_ref tok rfl rfl rfl rfl rfl rfl (by repeat (first | exact Drp.z _ | apply Drp.d))) ?_
                refine rp rfl w0 rfl (pu_load_ref1 tok rfl rfl rfl rfl) ?_
                refine rp rfl w0 rfl (pu_move (r := .d _) rfl) ?_
                refine rp rfl w0 rfl (pu_neq rfl rfl) ?_
                refine ra_nil ?_
                refine then_n ?_
                refine aw_if h2 rfl (fun hc h2 => ?_) (fun hc h2 => ?_)
                · skip
                  refine aw_seq ?_
                  refine aw_regionA (is := [0]) rfl ?_
                  refine rp rfl w0 rfl (pu_assign (r := .d _) rfl) ?_
                  refine ra_nil ?_
                  refine then_n ?_
                  refine aw_ret ?_
                  refine then_r ?_
                  refine block_r ?_
                  refine then_r ?_
                  cases h2
                  refine loop_r ⟨_, rfl, fun e => ?_⟩
                  subst e
                  refine block_r ?_
                  replace h0 := orE_s h0
                  refine then_r ?_
                  cases h0
                  exact ret0_ (rs := [.tmp 4]) rfl
                · skip
                  refine aw_skip ?_
                  refine then_n ?_
                  refine aw_seq ?_
                  refine aw_regionA (is := [0, 1, 2]) rfl ?_
                  refine rp rfl w0 rfl (pu_move (r := .d _) rfl) ?_
                  refine rp rfl w0 rfl (pw_add rfl rfl) ?_
                  refine rp rfl w0 rfl (pu_assign (r := .d _) rfl) ?_
                  refine ra_nil ?_
                  refine then_n ?_
                  refine aw_seq ?_
                  refine aw_seq ?_
                  refine aw_regionA (is := [0, 1, 2, 3, 4, 5, 6]) rfl ?_
                  refine rp rfl w0 rfl (pu_move (r := .d _) rfl) ?_
                  refine rp rfl w0 rfl (pu_move (r := .d _) rfl) ?_
                  obtain ⟨v16, hv16, h2⟩ := bnd h2
                  refine rp rfl w0 rfl (sl_ix tok hv16 rfl rfl rfl rfl rfl rfl) ?_
                  refine rp rfl w0 rfl (pu_fieldAddr_ref tok rfl rfl rfl rfl rfl rfl (by repeat (first | exact Drp.z _ | apply Drp.d))) ?_
                  refine rp rfl w0 rfl (pu_load_ref1 tok rfl rfl rfl rfl) ?_
                  refine rp rfl w0 rfl (pu_move (r := .d _) rfl) ?_
                  refine rp rfl w0 rfl (pu_neq rfl rfl) ?_
                  refine ra_nil ?_
                  refine then_n ?_
                  refine aw_if h2 rfl (fun hc h2 => ?_) (fun hc h2 => ?_)
                  · skip
                    refine aw_seq ?_
                    refine aw_regionA (is := [0]) rfl ?_
                    refine rp rfl w0 rfl (pu_assign (r := .d _) rfl) ?_
                    refine ra_nil ?_
                    refine then_n ?_
                    refine aw_ret ?_
                    refine then_r ?_
                    refine block_r ?_
                    refine then_r ?_
                    cases h2
                    refine loop_r ⟨_, rfl, fun e => ?_⟩
                    subst e
                    refine block_r ?_
                    replace h0 := orE_s h0
                    refine then_r ?_
                    cases h0
                    exact ret0_ (rs := [.tmp 4]) rfl
                  · skip
                    refine aw_skip ?_
                    refine then_n ?_
                    refine aw_seq ?_
                    refine aw_regionA (is := [0, 1, 2]) rfl ?_
                    refine rp rfl w0 rfl (pu_move (r := .d _) rfl) ?_
                    refine rp rfl w0 rfl (pw_add rfl rfl) ?_
                    refine rp rfl w0 rfl (pu_assign (r := .d _) rfl) ?_
                    refine ra_nil ?_
                    refine then_n ?_
                    refine aw_seq ?_
                    refine aw_seq ?_
                    refine aw_region_draw (is := [0, 1, 2, 3, 4, 5, 6, 7]) follows ?_
                    refine rt_p rfl w0 rfl (pu_move (r := .d _) rfl) ?_
                    refine rt_p rfl w0 rfl (pu_move (r := .d _) rfl) ?_
                    obtain ⟨v17, hv17, h2⟩ := bnd h2
                    refine rt_p rfl w0 rfl (sl_ix tok hv17 rfl rfl rfl rfl rfl rfl) ?_
                    refine rt_p rfl w0 rfl (pu_fieldAddr_ref tok rfl rfl rfl rfl rfl rfl (by repeat (first | exact Drp.z _ | apply Drp.d))) ?_
                    refine rt_p rfl w0 rfl (pu_load_ref1 tok rfl rfl rfl rfl) ?_
                    refine rt_p rfl w0 rfl (pu_move (r := .d _) rfl) ?_
                    obtain ⟨v18, hv18, h2⟩ := bnd h2
                    refine rt_c rfl w0 rfl (b_call 3 (l_markText_c hv18) rfl rfl rfl) ?_
                    refine rt_p rfl w0 rfl (pu_sneq rfl rfl) ?_
                    refine rt_nil ?_
                    refine ⟨by kernel_rfl, ?_⟩
                    refine then_n ?_
                    refine aw_if h2 rfl (fun hc h2 => ?_) (fun hc h2 => ?_)
                    · skip
                      refine aw_seq ?_
                      refine aw_regionA (is := [0]) rfl ?_
                      refine rp rfl w0 rfl (pu_assign (r := .d _) rfl) ?_
                      refine ra_nil ?_
                      refine then_n ?_
                      refine aw_ret ?_
                      refine then_r ?_
                      refine block_r ?_
                      refine then_r ?_
                      cases h2
                      refine loop_r ⟨_, rfl, fun e => ?_⟩
                      subst e
                      refine block_r ?_
                      replace h0 := orE_s h0
                      refine then_r ?_
                      cases h0
                      exact ret0_ (rs := [.tmp 4]) rfl
                    · skip
                      refine aw_skip ?_
                      refine then_n ?_
                      refine aw_regionA (is := [0, 1, 2]) rfl ?_
                      refine rp rfl w0 rfl (pu_move (r := .d _) rfl) ?_
                      refine rp rfl w0 rfl (pw_add rfl rfl) ?_
                      refine rp rfl w0 rfl (pu_assign (r := .d _) rfl) ?_
                      refine ra_nil ?_
                      refine block_n ?_
                      refine then_n ?_
                      refine aw_regionA (is := [0, 1, 2]) rfl ?_
                      refine rp rfl w0 rfl (pu_move (r := .d _) rfl) ?_
                      refine rp rfl w0 rfl (pw_add rfl rfl) ?_
                      refine rp rfl w0 rfl (pu_assign (r := .d _) rfl) ?_
                      refine ra_nil ?_
                      refine loop_n ?_
                      cases h2
                      refine ⟨_, rfl, ?_⟩
                      exact wk [0, 1, 2]
      · skip
        refine aw_exit ?_
        refine then_e ?_
        cases h2
        refine loop_x ⟨_, rfl, fun e => ?_⟩
        subst e
        refine block_hit ?_
        refine then_n ?_
        refine ⟨_, rfl, ?_⟩
        exact wk [0, 1, 2]
  · skip
    rintro v19 rfl
    replace h0 := orE_f h0
    refine aw_seq ?_
    refine aw_regionA (is := [0, 1]) rfl ?_
    refine rp rfl w0 rfl (pu_move (r := .d _) rfl) ?_
    refine rp rfl w0 rfl (pu_assign (r := .d _) rfl) ?_
    refine ra_nil ?_
    refine then_n ?_
    refine aw_ret ?_
    cases h0
    exact ret0_ (rs := [.tmp 4]) rfl

theorem l_heldDrawing_c {p0 : Drawing_} {p1 : Int} {r : Int} (h0 : l_heldDrawing_m p0 p1 = some r) : FnC Try.prog 22 [] [.agg [.d (.sl (List.map cShape_ p0.Shapes))], .d (.v (.int .i64 p1))] [] (.d (.v (.int .i64 r))) := by
  refine fnc_intro (T := tt) (N := 12) tok Try.func22 rfl rfl (by kernel_rfl) rfl rfl ?_
  unfold l_heldDrawing_m at h0
  refine aw_seq ?_
  refine aw_regionA (is := [0, 1]) rfl ?_
  refine rs rfl w0 rfl (st_box 3 (cs := _ :: _) rfl rfl rfl) ?_
  refine rp rfl w0 rfl (pu_assign (r := .d _) rfl) ?_
  refine ra_nil ?_
  refine then_n ?_
  refine aw_seq ?_
  refine aw_regionA (is := [0, 1, 2, 3, 4]) rfl ?_
  refine rl rfl w0 rfl (bx_fa tok rfl rfl rfl rfl rfl rfl rfl) ?_
  refine rl rfl w0 rfl (bx_ld1 tok rfl rfl rfl rfl rfl) ?_
  refine rp rfl w0 rfl (pu_move (r := .d _) rfl) ?_
  obtain ⟨v1, hv1, h0⟩ := bnd h0
  refine rs rfl w0 rfl (c_call 4 (l_heldShapeS_c hv1) rfl rfl rfl) ?_
  refine rp rfl w0 rfl (pu_assign (r := .d _) rfl) ?_
  refine ra_nil ?_
  refine then_n ?_
  refine aw_seq ?_
  refine aw_seq ?_
  refine aw_regionA (is := [0, 1]) rfl ?_
  refine rp rfl w0 rfl (pu_move (r := .d _) rfl) ?_
  refine rp rfl w0 rfl (pu_lss rfl rfl) ?_
  refine ra_nil ?_
  refine then_n ?_
  refine aw_if h0 rfl (fun hc h0 => ?_) (fun hc h0 => ?_)
  · skip
    refine aw_seq ?_
    refine aw_regionA (is := [0]) rfl ?_
    refine rp rfl w0 rfl (pu_assign (r := .d _) rfl) ?_
    refine ra_nil ?_
    refine then_n ?_
    refine aw_ret ?_
    refine then_r ?_
    cases h0
    exact ret0_ (rs := [.tmp 4]) rfl
  · skip
    refine aw_skip ?_
    refine then_n ?_
    refine aw_seq ?_
    refine aw_regionA (is := [0, 1]) rfl ?_
    refine rp rfl w0 rfl (pu_move (r := .d _) rfl) ?_
    refine rp rfl w0 rfl (pu_assign (r := .d _) rfl) ?_
    refine ra_nil ?_
    refine then_n ?_
    refine aw_ret ?_
    cases h0
    exact ret0_ (rs := [.tmp 4]) rfl

theorem l_FnExactPlateDrawing_c {p0 : Plate_} {r : Bool} (h0 : l_FnExactPlateDrawing_m p0 = some r) : FnC Try.prog 12 [] [.agg [.d (.v (.int .i64 p0.Width)), .d (.v (.int .i64 p0.Height)), .d (.v (.int .i64 p0.Margin)), .d (.v (.int .i64 p0.Gap)), .d (.sl (List.map cSite_ p0.Sites))]] [] (.d (.v (.bool r))) := by
  refine fnc_intro (T := tt) (N := 96) tok Try.func12 rfl rfl (by kernel_rfl) rfl rfl ?_
  unfold l_FnExactPlateDrawing_m at h0
  refine aw_seq ?_
  refine aw_regionA (is := [0, 1]) rfl ?_
  refine rs rfl w0 rfl (st_box 3 (cs := _ :: _) rfl rfl rfl) ?_
  refine rp rfl w0 rfl (pu_assign (r := .d _) rfl) ?_
  refine ra_nil ?_
  refine then_n ?_
  refine aw_seq ?_
  refine aw_regionA (is := [0]) rfl ?_
  refine rp rfl w0 rfl (pu_assign (r := .d _) rfl) ?_
  refine ra_nil ?_
  refine then_n ?_
  refine aw_seq ?_
  refine aw_regionA (is := [0, 1, 2, 3]) rfl ?_
  refine rl rfl w0 rfl (bx_ldN tok rfl rfl rfl rfl) ?_
  refine rp rfl w0 rfl (pu_move (r := .d _) rfl) ?_
  obtain ⟨v1, hv1, h0⟩ := bnd h0
  refine rs rfl w0 rfl (c_call 4 (l_szPlate_c hv1) rfl rfl rfl) ?_
  refine rp rfl w0 rfl (pu_assign (r := .d _) rfl) ?_
  refine ra_nil ?_
  refine then_n ?_
  refine aw_seq ?_
  refine aw_seq ?_
  refine aw_regionA (is := [0, 1]) rfl ?_
  refine rp rfl w0 rfl (pu_move (r := .d _) rfl) ?_
  refine rp rfl w0 rfl (pu_lss rfl rfl) ?_
  refine ra_nil ?_
  refine then_n ?_
  refine aw_if h0 rfl (fun hc h0 => ?_) (fun hc h0 => ?_)
  · skip
    refine aw_seq ?_
    refine aw_regionA (is := [0]) rfl ?_
    refine rp rfl w0 rfl (pu_assign (r := .d _) rfl) ?_
    refine ra_nil ?_
    refine then_n ?_
    refine aw_ret ?_
    refine then_r ?_
    cases h0
    exact ret0_ (rs := [.tmp 2]) rfl
  · skip
    refine aw_skip ?_
    refine then_n ?_
    refine aw_seq ?_
    refine aw_regionA (is := [0, 1, 2, 3, 4, 5, 6, 7, 8]) rfl ?_
    refine rl rfl w0 rfl (bx_ldN tok rfl rfl rfl rfl) ?_
    obtain ⟨v2, hv2, h0⟩ := bnd h0
    refine rs rfl w0 rfl (c_call 4 (l_toPlate_c hv2) rfl rfl rfl) ?_
    obtain ⟨v3, hv3, h0⟩ := bnd h0
    refine rs rfl w0 rfl (c_callV 5 (s_PlateDrawing_c hv3) rfl rfl) ?_
    refine rp rfl w0 rfl (pu_move (r := .tup _) rfl) ?_
    refine rp rfl w0 rfl (pu_extract rfl rfl) ?_
    refine rp rfl w0 rfl (pu_extract rfl rfl) ?_
    refine rs rfl w0 rfl (st_alloc 6 (cs := [.d (.v (.slice none 0 0))]) tok rfl rfl rfl) ?_
    refine rw0 rfl w0 (bx_st (cs := _ :: _) tok rfl rfl rfl rfl rfl rfl rfl) ?_
    refine rp rfl w0 rfl (pu_assign (r := .d _) rfl) ?_
    refine ra_nil ?_
    refine then_n ?_
    refine aw_seq ?_
    refine aw_regionA (is := [0, 1, 2, 3]) rfl ?_
    refine rl rfl w0 rfl (bx_ldN tok rfl rfl rfl rfl) ?_
    obtain ⟨v4, hv4, h0⟩ := bnd h0
    refine rs rfl w0 rfl (c_call 7 (l_toPlate_c hv4) rfl rfl rfl) ?_
    refine rs rfl w0 rfl (st_alloc 8 (cs := [.d (.v (.int .i64 0)), .d (.v (.int .i64 0)), .d (.v (.int .i64 0)), .d (.v (.int .i64 0)), .d (.v (.slice none 0 0))]) tok rfl rfl rfl) ?_
    refine rw0 rfl w0 (bx_st (cs := _ :: _) tok rfl rfl rfl rfl rfl rfl rfl) ?_
    refine ra_nil ?_
    refine then_n ?_
    refine aw_seq ?_
    refine aw_regionA (is := [0, 1, 2, 3, 4, 5, 6, 7]) rfl ?_
    refine rl rfl w0 rfl (bx_ldN tok rfl rfl rfl rfl) ?_
    obtain ⟨v5, hv5, h0⟩ := bnd h0
    refine rs rfl w0 rfl (c_callV 9 (i_PlateDrawing_c hv5) rfl rfl) ?_
    refine rp rfl w0 rfl (pu_move (r := .tup _) rfl) ?_
    refine rp rfl w0 rfl (pu_extract rfl rfl) ?_
    refine rp rfl w0 rfl (pu_extract rfl rfl) ?_
    refine rs rfl w0 rfl (st_alloc 10 (cs := [.d (.v (.slice none 0 0))]) tok rfl rfl rfl) ?_
    refine rw0 rfl w0 (bx_st (cs := _ :: _) tok rfl rfl rfl rfl rfl rfl rfl) ?_
    refine rp rfl w0 rfl (pu_assign (r := .d _) rfl) ?_
    refine ra_nil ?_
    refine then_n ?_
    refine aw_seq ?_
    obtain ⟨v7, h1, h0⟩ := bnd h0
    refine aw_cut ⟨updA (updA (updA (updA (updA (updA (updA ((fun _ => .dead)) 1 (.ptr 3 0 1 0 0)) 4 (.ptr 4 0 1 0 0)) 5 (.d (.v (.int .i64 v3.2)))) 6 (.ptr 5 0 1 0 0)) 7 (.ptr 6 0 1 0 0)) 8 (.d (.v (.int .i64 v5.2)))) 40 (.d (.v (.bool v7))), lks [.no, .no, .no, .live [⟨65, 5, .av [[.d (.v (.int .i64 p0.Width)), .d (.v (.int .i64 p0.Height)), .d (.v (.int .i64 p0.Margin)), .d (.v (.int .i64 p0.Gap)), .d (.sl (List.map cSite_ p0.Sites))]]⟩], .live [⟨29, 1, .av [[.own 7 0 (v3.1.Shapes).length]]⟩], .live [⟨70, 5, .av [[.d (.v (.int .i64 v4.Width)), .d (.v (.int .i64 v4.Height)), .d (.v (.int .i64 v4.Margin)), .d (.v (.int .i64 v4.Gap)), .own 8 0 (v4.Sites).length]]⟩], .live [⟨29, 1, .av [[.own 9 0 (v5.1.Shapes).length]]⟩], .live [⟨80, 7, .data (List.map cShape_ v3.1.Shapes)⟩], .live [⟨115, 5, .data (List.map cSite_ v4.Sites)⟩], .live [⟨80, 7, .data (List.map cShape_ v5.1.Shapes)⟩]]⟩ ?_ ?_
    · skip
      refine aw_regionA (is := [0, 1, 2, 3, 4, 5, 6, 7, 8]) rfl ?_
      refine rl rfl w0 rfl (bx_ldN tok rfl rfl rfl rfl) ?_
      refine rl rfl w0 rfl (bx_ldN tok rfl rfl rfl rfl) ?_
      obtain ⟨v6, hv6, h1⟩ := bnd h1
      refine rs rfl w0 rfl (c_callV 11 (l_eqDrawing_c hv6) rfl rfl) ?_
      refine rp rfl w0 rfl (pu_not rfl) ?_
      refine rp rfl w0 rfl (pu_move (r := .d _) rfl) ?_
      refine ra_ifB (u := 36) h1 rfl (fun hc h1 => ?_) (fun hc h1 => ?_)
      · skip
        refine rk rfl rfl rfl (by first | exact .inl rfl | exact .inr rfl) rfl ?_
        refine rk rfl rfl rfl (by first | exact .inl rfl | exact .inr rfl) rfl ?_
        refine rk rfl rfl rfl (by first | exact .inl rfl | exact .inr rfl) rfl ?_
        refine rp rfl w0 rfl (pu_pick_t (r := .d _) rfl rfl) ?_
        refine ra_nil ?_
        refine then_n ?_
        cases h1
        exact wk [0, 1, 2, 3, 6, 8, 10, 5, 7, 9]
      · skip
        refine rp rfl (w1 rfl rfl rfl) rfl (pu_move (r := .d _) rfl) ?_
        refine rp rfl (w1 rfl rfl rfl) rfl (pu_move (r := .d _) rfl) ?_
        refine rp rfl (w1 rfl rfl rfl) rfl (pu_neq rfl rfl) ?_
        refine rp rfl w0 rfl (pu_pick_f (r := .d _) rfl rfl) ?_
        refine ra_nil ?_
        refine then_n ?_
        cases h1
        exact wk [0, 1, 2, 3, 6, 8, 10, 5, 7, 9]
    · skip
      refine aw_ifB h0 rfl (fun hc h0 => ?_) (fun hc h0 => ?_)
      · skip
        refine aw_seq ?_
        refine aw_regionA (is := [0]) rfl ?_
        refine rp rfl w0 rfl (pu_assign (r := .d _) rfl) ?_
        refine ra_nil ?_
        refine then_n ?_
        refine aw_ret ?_
        refine then_r ?_
        cases h0
        exact ret0_ (rs := [.tmp 2]) rfl
      · skip
        refine aw_skip ?_
        refine then_n ?_
        refine aw_seq ?_
        refine aw_seq ?_
        refine aw_region_draw (is := [0, 1, 2, 3, 4]) follows ?_
        refine rt_lk rfl w0 rfl (bx_ldN tok rfl rfl rfl rfl) rfl rfl rfl ?_
        refine rt_lk rfl w0 rfl (bx_ldN tok rfl rfl rfl rfl) rfl rfl rfl ?_
        obtain ⟨v8, hv8, h0⟩ := bnd h0
        refine rt_c rfl w0 rfl (b_call 10 (l_toPlate_c hv8) rfl rfl rfl) ?_
        obtain ⟨v9, hv9, h0⟩ := bnd h0
        refine rt_c rfl w0 rfl (b_callV 11 (l_eqPlate_c hv9) rfl rfl) ?_
        refine rt_p rfl w0 rfl (pu_not rfl) ?_
        refine rt_nil ?_
        refine ⟨by kernel_rfl, ?_⟩
        refine then_n ?_
        refine aw_ifB h0 rfl (fun hc h0 => ?_) (fun hc h0 => ?_)
        · skip
          refine aw_seq ?_
          refine aw_regionA (is := [0]) rfl ?_
          refine rp rfl w0 rfl (pu_assign (r := .d _) rfl) ?_
          refine ra_nil ?_
          refine then_n ?_
          refine aw_ret ?_
          refine then_r ?_
          cases h0
          exact ret0_ (rs := [.tmp 2]) rfl
        · skip
          refine aw_skip ?_
          refine then_n ?_
          refine aw_seq ?_
          refine aw_regionA (is := [0]) rfl ?_
          refine rp rfl w0 rfl (pu_assign (r := .d _) rfl) ?_
          refine ra_nil ?_
          refine then_n ?_
          refine aw_seq ?_
          refine aw_regionA (is := [0, 1, 2, 3]) rfl ?_
          refine rl rfl w0 rfl (bx_ldN tok rfl rfl rfl rfl) ?_
          refine rp rfl w0 rfl (pu_move (r := .d _) rfl) ?_
          obtain ⟨v10, hv10, h0⟩ := bnd h0
          obtain ⟨hq11, h0⟩ := chk_e h0
          refine rw1 rfl w0 rfl (c_callP [8] 300 (l_markPlate_o_c hv10) rfl rfl) ?_
          refine rp rfl w0 rfl (pu_assign (r := .d _) rfl) ?_
          refine ra_nil ?_
          refine then_n ?_
          refine aw_seq ?_
          obtain ⟨v13, h1, h0⟩ := bnd h0
          refine aw_cut ⟨updA (updA (updA (updA (updA ((fun _ => .dead)) 1 (.ptr 3 0 1 0 0)) 4 (.ptr 4 0 1 0 0)) 5 (.d (.v (.int .i64 v3.2)))) 7 (.ptr 5 0 1 0 0)) 61 (.d (.v (.bool v13))), lks [.no, .no, .no, .live [⟨65, 5, .av [[.d (.v (.int .i64 p0.Width)), .d (.v (.int .i64 p0.Height)), .d (.v (.int .i64 p0.Margin)), .d (.v (.int .i64 p0.Gap)), .d (.sl (List.map cSite_ p0.Sites))]]⟩], .live [⟨29, 1, .av [[.own 6 0 (v3.1.Shapes).length]]⟩], .live [⟨29, 1, .av [[.own 7 0 (v5.1.Shapes).length]]⟩], .live [⟨80, 7, .data (List.map cShape_ v3.1.Shapes)⟩], .live [⟨80, 7, .data (List.map cShape_ v5.1.Shapes)⟩]]⟩ ?_ ?_
          · skip
            refine aw_regionA (is := [0, 1, 2, 3, 4, 5, 6, 7, 8, 9, 10, 11, 12]) rfl ?_
            refine rp rfl w0 rfl (pu_move (r := .d _) rfl) ?_
            refine rp rfl w0 rfl (pu_lss rfl rfl) ?_
            refine rp rfl w0 rfl (pu_move (r := .d _) rfl) ?_
            refine ra_if (u := 51) h1 rfl (fun hc h1 => ?_) (fun hc h1 => ?_)
            · skip
              refine rk rfl rfl rfl (by first | exact .inl rfl | exact .inr rfl) rfl ?_
              refine rk rfl rfl rfl (by first | exact .inl rfl | exact .inr rfl) rfl ?_
              refine rk rfl rfl rfl (by first | exact .inl rfl | exact .inr rfl) rfl ?_
              refine rk rfl rfl rfl (by first | exact .inl rfl | exact .inr rfl) rfl ?_
              refine rp rfl w0 rfl (pu_pick_t (r := .d _) rfl rfl) ?_
              refine rp rfl w0 rfl (pu_move (r := .d _) rfl) ?_
              refine rk rfl rfl rfl (by first | exact .inl rfl | exact .inr rfl) rfl ?_
              refine rk rfl rfl rfl (by first | exact .inl rfl | exact .inr rfl) rfl ?_
              refine rk rfl rfl rfl (by first | exact .inl rfl | exact .inr rfl) rfl ?_
              refine rp rfl w0 rfl (pu_pick_t (r := .d _) rfl rfl) ?_
              refine ra_nil ?_
              refine then_n ?_
              cases h1
              exact wk [0, 1, 2, 3, 4, 6, 7, 9]
            · skip
              refine rl rfl (w1 rfl rfl rfl) rfl (bx_ldN tok rfl rfl rfl rfl) ?_
              refine rl rfl (w1 rfl rfl rfl) rfl (bx_ldN tok rfl rfl rfl rfl) ?_
              obtain ⟨v12, hv12, h1⟩ := bnd h1
              refine rs rfl (w1 rfl rfl rfl) rfl (c_callV 11 (l_eqDrawing_c hv12) rfl rfl) ?_
              refine rp rfl (w1 rfl rfl rfl) rfl (pu_not rfl) ?_
              refine rp rfl w0 rfl (pu_pick_f (r := .d _) rfl rfl) ?_
              refine rp rfl w0 rfl (pu_move (r := .d _) rfl) ?_
              refine ra_ifB (u := 57) h1 rfl (fun hc h1 => ?_) (fun hc h1 => ?_)
              · skip
                refine rk rfl rfl rfl (by first | exact .inl rfl | exact .inr rfl) rfl ?_
                refine rk rfl rfl rfl (by first | exact .inl rfl | exact .inr rfl) rfl ?_
                refine rk rfl rfl rfl (by first | exact .inl rfl | exact .inr rfl) rfl ?_
                refine rp rfl w0 rfl (pu_pick_t (r := .d _) rfl rfl) ?_
                refine ra_nil ?_
                refine then_n ?_
                cases h1
                exact wk [0, 1, 2, 3, 4, 6, 7, 9]
              · skip
                refine rp rfl (w1 rfl rfl rfl) rfl (pu_move (r := .d _) rfl) ?_
                refine rp rfl (w1 rfl rfl rfl) rfl (pu_move (r := .d _) rfl) ?_
                refine rp rfl (w1 rfl rfl rfl) rfl (pu_neq rfl rfl) ?_
                refine rp rfl w0 rfl (pu_pick_f (r := .d _) rfl rfl) ?_
                refine ra_nil ?_
                refine then_n ?_
                cases h1
                exact wk [0, 1, 2, 3, 4, 6, 7, 9]
          · skip
            refine aw_ifB h0 rfl (fun hc h0 => ?_) (fun hc h0 => ?_)
            · skip
              refine aw_seq ?_
              refine aw_regionA (is := [0]) rfl ?_
              refine rp rfl w0 rfl (pu_assign (r := .d _) rfl) ?_
              refine ra_nil ?_
              refine then_n ?_
              refine aw_ret ?_
              refine then_r ?_
              cases h0
              exact ret0_ (rs := [.tmp 2]) rfl
            · skip
              refine aw_skip ?_
              refine then_n ?_
              refine aw_seq ?_
              refine aw_regionA (is := [0]) rfl ?_
              refine rp rfl w0 rfl (pu_assign (r := .d _) rfl) ?_
              refine ra_nil ?_
              refine then_n ?_
              refine aw_seq ?_
              refine aw_regionA (is := [0, 1, 2, 3]) rfl ?_
              refine rl rfl w0 rfl (bx_ldN tok rfl rfl rfl rfl) ?_
              refine rp rfl w0 rfl (pu_move (r := .d _) rfl) ?_
              obtain ⟨v14, hv14, h0⟩ := bnd h0
              obtain ⟨hq15, h0⟩ := chk_e h0
              refine rw1 rfl w0 rfl (c_callP [7] 300 (l_markDrawing_o_c hv14) rfl rfl) ?_
              refine rp rfl w0 rfl (pu_assign (r := .d _) rfl) ?_
              refine ra_nil ?_
              refine then_n ?_
              refine aw_seq ?_
              refine aw_regionA (is := [0]) rfl ?_
              refine rp rfl w0 rfl (pu_assign (r := .d _) rfl) ?_
              refine ra_nil ?_
              refine then_n ?_
              refine aw_seq ?_
              refine aw_regionA (is := [0, 1, 2, 3]) rfl ?_
              refine rl rfl w0 rfl (bx_ldN tok rfl rfl rfl rfl) ?_
              refine rp rfl w0 rfl (pu_move (r := .d _) rfl) ?_
              obtain ⟨v16, hv16, h0⟩ := bnd h0
              refine rs rfl w0 rfl (c_callV 8 (l_heldDrawing_c hv16) rfl rfl) ?_
              refine rp rfl w0 rfl (pu_assign (r := .d _) rfl) ?_
              refine ra_nil ?_
              refine then_n ?_
              refine aw_seq ?_
              refine aw_seq ?_
              refine aw_regionA (is := [0, 1]) rfl ?_
              refine rp rfl w0 rfl (pu_move (r := .d _) rfl) ?_
              refine rp rfl w0 rfl (pu_lss rfl rfl) ?_
              refine ra_nil ?_
              refine then_n ?_
              refine aw_if h0 rfl (fun hc h0 => ?_) (fun hc h0 => ?_)
              · skip
                refine aw_seq ?_
                refine aw_regionA (is := [0]) rfl ?_
                refine rp rfl w0 rfl (pu_assign (r := .d _) rfl) ?_
                refine ra_nil ?_
                refine then_n ?_
                refine aw_ret ?_
                refine then_r ?_
                cases h0
                exact ret0_ (rs := [.tmp 2]) rfl
              · skip
                refine aw_skip ?_
                refine then_n ?_
                refine aw_seq ?_
                refine aw_seq ?_
                refine aw_regionA (is := [0, 1, 2]) rfl ?_
                refine rp rfl w0 rfl (pu_move (r := .d _) rfl) ?_
                refine rp rfl w0 rfl (pu_move (r := .d _) rfl) ?_
                refine rp rfl w0 rfl (pu_neq rfl rfl) ?_
                refine ra_nil ?_
                refine then_n ?_
                refine aw_if h0 rfl (fun hc h0 => ?_) (fun hc h0 => ?_)
                · skip
                  refine aw_seq ?_
                  refine aw_regionA (is := [0]) rfl ?_
                  refine rp rfl w0 rfl (pu_assign (r := .d _) rfl) ?_
                  refine ra_nil ?_
                  refine then_n ?_
                  refine aw_ret ?_
                  refine then_r ?_
                  cases h0
                  exact ret0_ (rs := [.tmp 2]) rfl
                · skip
                  refine aw_skip ?_
                  refine then_n ?_
                  refine aw_seq ?_
                  refine aw_regionA (is := [0, 1, 2, 3, 4, 5, 6, 7, 8]) rfl ?_
                  refine rl rfl w0 rfl (bx_ldN tok rfl rfl rfl rfl) ?_
                  obtain ⟨v17, hv17, h0⟩ := bnd h0
                  refine rs rfl w0 rfl (c_call 8 (l_toPlate_c hv17) rfl rfl rfl) ?_
                  obtain ⟨v18, hv18, h0⟩ := bnd h0
                  refine rs rfl w0 rfl (c_callV 9 (i_PlateDrawing_c hv18) rfl rfl) ?_
                  refine rp rfl w0 rfl (pu_move (r := .tup _) rfl) ?_
                  refine rp rfl w0 rfl (pu_extract rfl rfl) ?_
                  refine rp rfl w0 rfl (pu_extract rfl rfl) ?_
                  refine rs rfl w0 rfl (st_alloc 10 (cs := [.d (.v (.slice none 0 0))]) tok rfl rfl rfl) ?_
                  refine rw0 rfl w0 (bx_st (cs := _ :: _) tok rfl rfl rfl rfl rfl rfl rfl) ?_
                  refine rp rfl w0 rfl (pu_assign (r := .d _) rfl) ?_
                  refine ra_nil ?_
                  refine then_n ?_
                  refine aw_seq ?_
                  obtain ⟨v20, h1, h0⟩ := bnd h0
                  refine aw_cut ⟨updA (updA (updA ((fun _ => .dead)) 7 (.ptr 3 0 1 0 0)) 10 (.d (.v (.int .i64 v14.1)))) 87 (.d (.v (.bool v20))), lks [.no, .no, .no, .live [⟨29, 1, .av [[.own 4 0 (v14.2).length]]⟩], .live [⟨80, 7, .data (List.map cShape_ v14.2)⟩]]⟩ ?_ ?_
                  · skip
                    refine aw_regionA (is := [0, 1, 2, 3, 4, 5, 6, 7, 8]) rfl ?_
                    refine rl rfl w0 rfl (bx_ldN tok rfl rfl rfl rfl) ?_
                    refine rl rfl w0 rfl (bx_ldN tok rfl rfl rfl rfl) ?_
                    obtain ⟨v19, hv19, h1⟩ := bnd h1
                    refine rs rfl w0 rfl (c_callV 11 (l_eqDrawing_c hv19) rfl rfl) ?_
                    refine rp rfl w0 rfl (pu_not rfl) ?_
                    refine rp rfl w0 rfl (pu_move (r := .d _) rfl) ?_
                    refine ra_ifB (u := 83) h1 rfl (fun hc h1 => ?_) (fun hc h1 => ?_)
                    · skip
                      refine rk rfl rfl rfl (by first | exact .inl rfl | exact .inr rfl) rfl ?_
                      refine rk rfl rfl rfl (by first | exact .inl rfl | exact .inr rfl) rfl ?_
                      refine rk rfl rfl rfl (by first | exact .inl rfl | exact .inr rfl) rfl ?_
                      refine rp rfl w0 rfl (pu_pick_t (r := .d _) rfl rfl) ?_
                      refine ra_nil ?_
                      refine then_n ?_
                      cases h1
                      exact wk [0, 1, 2, 5, 7]
                    · skip
                      refine rp rfl (w1 rfl rfl rfl) rfl (pu_move (r := .d _) rfl) ?_
                      refine rp rfl (w1 rfl rfl rfl) rfl (pu_move (r := .d _) rfl) ?_
                      refine rp rfl (w1 rfl rfl rfl) rfl (pu_neq rfl rfl) ?_
                      refine rp rfl w0 rfl (pu_pick_f (r := .d _) rfl rfl) ?_
                      refine ra_nil ?_
                      refine then_n ?_
                      cases h1
                      exact wk [0, 1, 2, 5, 7]
                  · skip
                    refine aw_ifB h0 rfl (fun hc h0 => ?_) (fun hc h0 => ?_)
                    · skip
                      refine aw_seq ?_
                      refine aw_regionA (is := [0]) rfl ?_
                      refine rp rfl w0 rfl (pu_assign (r := .d _) rfl) ?_
                      refine ra_nil ?_
                      refine then_n ?_
                      refine aw_ret ?_
                      refine then_r ?_
                      cases h0
                      exact ret0_ (rs := [.tmp 2]) rfl
                    · skip
                      refine aw_skip ?_
                      refine then_n ?_
                      refine aw_seq ?_
                      refine aw_regionA (is := [0]) rfl ?_
                      refine rp rfl w0 rfl (pu_assign (r := .d _) rfl) ?_
                      refine ra_nil ?_
                      refine then_n ?_
                      refine aw_seq ?_
                      refine aw_regionA (is := [0, 1, 2, 3]) rfl ?_
                      refine rl rfl w0 rfl (bx_ldN tok rfl rfl rfl rfl) ?_
                      refine rp rfl w0 rfl (pu_move (r := .d _) rfl) ?_
                      obtain ⟨v21, hv21, h0⟩ := bnd h0
                      refine rs rfl w0 rfl (c_callV 5 (l_heldDrawing_c hv21) rfl rfl) ?_
                      refine rp rfl w0 rfl (pu_assign (r := .d _) rfl) ?_
                      refine ra_nil ?_
                      refine then_n ?_
                      refine aw_seq ?_
                      refine aw_seq ?_
                      refine aw_regionA (is := [0, 1]) rfl ?_
                      refine rp rfl w0 rfl (pu_move (r := .d _) rfl) ?_
                      refine rp rfl w0 rfl (pu_lss rfl rfl) ?_
                      refine ra_nil ?_
                      refine then_n ?_
                      refine aw_if h0 rfl (fun hc h0 => ?_) (fun hc h0 => ?_)
                      · skip
                        refine aw_seq ?_
                        refine aw_regionA (is := [0]) rfl ?_
                        refine rp rfl w0 rfl (pu_assign (r := .d _) rfl) ?_
                        refine ra_nil ?_
                        refine then_n ?_
                        refine aw_ret ?_
                        refine then_r ?_
                        cases h0
                        exact ret0_ (rs := [.tmp 2]) rfl
                      · skip
                        refine aw_skip ?_
                        refine then_n ?_
                        refine aw_seq ?_
                        refine aw_seq ?_
                        refine aw_regionA (is := [0, 1, 2]) rfl ?_
                        refine rp rfl w0 rfl (pu_move (r := .d _) rfl) ?_
                        refine rp rfl w0 rfl (pu_move (r := .d _) rfl) ?_
                        refine rp rfl w0 rfl (pu_neq rfl rfl) ?_
                        refine ra_nil ?_
                        refine then_n ?_
                        refine aw_if h0 rfl (fun hc h0 => ?_) (fun hc h0 => ?_)
                        · skip
                          refine aw_seq ?_
                          refine aw_regionA (is := [0]) rfl ?_
                          refine rp rfl w0 rfl (pu_assign (r := .d _) rfl) ?_
                          refine ra_nil ?_
                          refine then_n ?_
                          refine aw_ret ?_
                          refine then_r ?_
                          cases h0
                          exact ret0_ (rs := [.tmp 2]) rfl
                        · skip
                          refine aw_skip ?_
                          refine then_n ?_
                          refine aw_seq ?_
                          refine aw_regionA (is := [0]) rfl ?_
                          refine rp rfl w0 rfl (pu_assign (r := .d _) rfl) ?_
                          refine ra_nil ?_
                          refine then_n ?_
                          refine aw_ret ?_
                          cases h0
                          exact ret0_ (rs := [.tmp 2]) rfl

end Go.Proofs.Ytplnohfjeilodaa
