/- Texts of this claim, one behind the other (merged by a program of mine). -/
import Derived.Test.YtlakbomkpnlidaaGreatProg
import Derived.Test.YtlakbomkpnlidaaGreatGP5
set_option linter.unusedSimpArgs false
set_option linter.unusedVariables false
namespace Go.Proofs.YtlakbomkpnlidaaGreat
open Go.RowKit
set_option linter.unusedVariables false
set_option maxRecDepth 100000
set_option maxHeartbeats 2000000
theorem slices_Equal_Lint64_int64_c {p0 : List Int} {p1 : List Int} {r : Bool} (h0 : slices_Equal_Lint64_int64_m p0 p1 = some r) : FnC Tryz.prog 78 [] [.d (.sl (List.map cI p0)), .d (.sl (List.map cI p1))] [] (.d (.v (.bool r))) := by
  refine fnc_intro (T := tt) (N := 26) tok Tryz.func78 rfl rfl (by kernel_rfl) rfl rfl ?_
  unfold slices_Equal_Lint64_int64_m at h0
  refine sq [0] ?_
  refine pa ?_
  refine nx ?_
  refine aw_seq ?_
  refine sq [0,1,2,3,4] ?_
  refine pm ?_
  refine rp rfl w0 rfl (pu_len_map tok rfl rfl rfl) ?_
  refine pm ?_
  refine rp rfl w0 rfl (pu_len_map tok rfl rfl rfl) ?_
  refine rp rfl w0 rfl (pu_neq rfl rfl) ?_
  refine nx ?_
  refine aw_if h0 rfl (fun hc h0 => ?_) (fun hc h0 => ?_)
  refine sq [0] ?_
  refine pa ?_
  refine nx ?_
  refine aw_ret ?_
  refine then_r ?_
  cases h0
  exact ret0_ (rs := [.tmp 4]) rfl
  refine sk ?_
  obtain ⟨v7x, h1, h0⟩ := bnd h0
  refine aw_cutE v7x (fun v7 => ⟨(fun _ => .dead), lks [.no, .no, .no]⟩) ?_ ?_
  refine sq [0,1,2] ?_
  refine pm ?_
  refine rp rfl w0 rfl (pu_len_map tok rfl rfl rfl) ?_
  refine pm ?_
  refine nx ?_
  refine aw_block ?_
  refine aw_loopM (fun s4 => ⟨updA (updA (updA (updA ((fun _ => .dead)) 0 (.d (.sl (List.map cI p0)))) 1 (.d (.sl (List.map cI p1)))) 12 (.d (.v (.int .i64 (p0.length : Int))))) 13 (.d (.v (.int .i64 s4))), lks [.no, .no, .no]⟩) h1 ?_ (fun s4 y h2 => ?_)
  exact wk [0, 1, 2]
  refine sq [0] ?_
  refine rp rfl w0 rfl (pu_lss rfl rfl) ?_
  refine nx ?_
  refine aw_seq ?_
  refine aw_if h2 rfl (fun hc h2 => ?_) (fun hc h2 => ?_)
  refine sk ?_
  refine aw_seq ?_
  refine aw_block ?_
  refine sq [0,1] ?_
  refine pm ?_
  refine pa ?_
  refine nx ?_
  refine aw_seq ?_
  refine aw_region_draw (is := [0, 1, 2, 3, 4, 5, 6, 7, 8]) [0, 0, 3, 7, 0, 0, 48, 112, 255] follows (by kernel_rfl) ?_
  refine tpm ?_
  refine tpm ?_
  obtain ⟨v5, hv5, h2⟩ := bnd h2
  refine rt_p rfl w0 rfl (sl_ix tok hv5 rfl rfl rfl rfl rfl rfl) ?_
  refine tlr tok ?_
  refine tpm ?_
  refine tpm ?_
  obtain ⟨v6, hv6, h2⟩ := bnd h2
  refine rt_p rfl w0 rfl (sl_ix tok hv6 rfl rfl rfl rfl rfl rfl) ?_
  refine tlr tok ?_
  refine rt_p rfl w0 rfl (pu_neq rfl rfl) ?_
  refine rt_nil ?_
  refine ⟨by kernel_rfl, ?_⟩
  refine then_n ?_
  refine aw_if h2 rfl (fun hc h2 => ?_) (fun hc h2 => ?_)
  refine sq [0] ?_
  refine pa ?_
  refine nx ?_
  refine aw_ret ?_
  refine block_r ?_
  refine then_r ?_
  cases h2
  refine loop_r ⟨_, rfl, fun e => ?_⟩
  subst e
  refine block_r ?_
  replace h0 := orE_s h0
  refine then_r ?_
  cases h0
  exact ret0_ (rs := [.tmp 4]) rfl
  refine aw_skip ?_
  refine block_n ?_
  refine then_n ?_
  refine sr [0,1] ?_
  refine rp rfl w0 rfl (pw_add rfl rfl) ?_
  refine pm ?_
  refine ra_nil ?_
  refine loop_n ?_
  cases h2
  refine ⟨_, rfl, ?_⟩
  exact wk [0, 1, 2]
  refine aw_exit ?_
  refine then_e ?_
  cases h2
  refine loop_x ⟨_, rfl, fun e => ?_⟩
  subst e
  refine block_hit ?_
  refine then_n ?_
  refine ⟨_, rfl, ?_⟩
  exact wk [0, 1, 2]
  rintro v7 rfl
  replace h0 := orE_f h0
  refine sq [0] ?_
  refine pa ?_
  refine nx ?_
  refine aw_ret ?_
  cases h0
  exact ret0_ (rs := [.tmp 4]) rfl

theorem i_ValidSim_c {p0 : Sim_} {r : Bool} (h0 : i_ValidSim_m p0 = some r) : FnC Tryz.prog 35 [] [.agg [.d (.v (.string p0.Movement.Name)), .d (.sl (List.map cArbor_ p0.Movement.Works.Arbors)), .d (.sl (List.map cMesh_ p0.Movement.Works.Meshes)), .d (.v (.int .i64 p0.Movement.Minute)), .d (.v (.int .i64 p0.Movement.Hour)), .d (.v (.int .i64 p0.Movement.Escape)), .d (.v (.int .i64 p0.Movement.Teeth)), .d (.v (.int .i64 p0.Movement.Beats)), .d (.v (.string p0.Movement.Calendar.Name)), .d (.sl (List.map cMonth_ p0.Movement.Calendar.Months)), .d (.sl (List.map cLeapRule_ p0.Movement.Calendar.Rules)), .d (.v (.int .i64 p0.Movement.Calendar.Week)), .d (.sl (List.map cI p0.Movement.Cam)), .d (.v (.int .i64 p0.Movement.Strike)), .d (.v (.int .i64 p0.Start.Year)), .d (.v (.int .i64 p0.Start.Month)), .d (.v (.int .i64 p0.Start.Day)), .d (.v (.int .i64 p0.First)), .d (.v (.int .i64 p0.Clock)), .d (.sl (List.map cI p0.Dial.Cam)), .d (.v (.int .i64 p0.Dial.Months)), .d (.v (.int .i64 p0.Dial.Teeth)), .d (.v (.int .i64 p0.Dial.At)), .d (.v (.int .i64 p0.Dial.Day)), .d (.v (.int .i64 p0.Dial.Week)), .d (.v (.int .i64 p0.Dial.Weekday))]] [] (.d (.v (.bool r))) := by
  refine fnc_intro (T := tt) (N := 61) tok Tryz.func35 rfl rfl (by kernel_rfl) rfl rfl ?_
  unfold i_ValidSim_m at h0
  refine sq [0,1] ?_
  refine rs rfl w0 rfl (st_box 3 (cs := _ :: _) rfl rfl rfl) ?_
  refine pa ?_
  refine nx ?_
  refine sq [0,1,2,3,4,5,6,7,8,9,10,11,12] ?_
  refine fa tok ?_
  refine rl rfl w0 rfl (bx_ldN tok rfl rfl rfl rfl) ?_
  refine fa tok ?_
  refine rl rfl w0 rfl (bx_ldN tok rfl rfl rfl rfl) ?_
  refine fa tok ?_
  refine ld tok ?_
  obtain ⟨v1, hv1, h0⟩ := bnd h0
  refine rs rfl w0 rfl (c_call 4 (i_NewSim_c hv1) rfl rfl rfl) ?_
  refine rp rfl w0 rfl (pu_move (r := .tup _) rfl) ?_
  refine rp rfl w0 rfl (pu_extract rfl rfl) ?_
  refine rp rfl w0 rfl (pu_extract rfl rfl) ?_
  refine rs rfl w0 rfl (st_alloc 11 (cs := [.d (.v (.string (⟨#[]⟩ : ByteArray))), .d (.v (.slice none 0 0)), .d (.v (.slice none 0 0)), .d (.v (.int .i64 0)), .d (.v (.int .i64 0)), .d (.v (.int .i64 0)), .d (.v (.int .i64 0)), .d (.v (.int .i64 0)), .d (.v (.string (⟨#[]⟩ : ByteArray))), .d (.v (.slice none 0 0)), .d (.v (.slice none 0 0)), .d (.v (.int .i64 0)), .d (.v (.slice none 0 0)), .d (.v (.int .i64 0)), .d (.v (.int .i64 0)), .d (.v (.int .i64 0)), .d (.v (.int .i64 0)), .d (.v (.int .i64 0)), .d (.v (.int .i64 0)), .d (.v (.slice none 0 0)), .d (.v (.int .i64 0)), .d (.v (.int .i64 0)), .d (.v (.int .i64 0)), .d (.v (.int .i64 0)), .d (.v (.int .i64 0)), .d (.v (.int .i64 0))]) tok rfl rfl rfl) ?_
  refine rw0 rfl w0 (bx_st (cs := _ :: _) tok rfl rfl rfl rfl rfl rfl rfl) ?_
  refine pa ?_
  refine nx ?_
  refine aw_seq ?_
  obtain ⟨v4, h1, h0⟩ := bnd h0
  refine aw_cut ⟨updA (updA (updA ((fun _ => .dead)) 1 (.ptr 3 0 1 0 0)) 3 (.ptr 4 0 1 0 0)) 30 (.d (.v (.bool v4))), lks [.no, .no, .no, .live [⟨53, 26, .av [[.d (.v (.string p0.Movement.Name)), .d (.sl (List.map cArbor_ p0.Movement.Works.Arbors)), .d (.sl (List.map cMesh_ p0.Movement.Works.Meshes)), .d (.v (.int .i64 p0.Movement.Minute)), .d (.v (.int .i64 p0.Movement.Hour)), .d (.v (.int .i64 p0.Movement.Escape)), .d (.v (.int .i64 p0.Movement.Teeth)), .d (.v (.int .i64 p0.Movement.Beats)), .d (.v (.string p0.Movement.Calendar.Name)), .d (.sl (List.map cMonth_ p0.Movement.Calendar.Months)), .d (.sl (List.map cLeapRule_ p0.Movement.Calendar.Rules)), .d (.v (.int .i64 p0.Movement.Calendar.Week)), .d (.sl (List.map cI p0.Movement.Cam)), .d (.v (.int .i64 p0.Movement.Strike)), .d (.v (.int .i64 p0.Start.Year)), .d (.v (.int .i64 p0.Start.Month)), .d (.v (.int .i64 p0.Start.Day)), .d (.v (.int .i64 p0.First)), .d (.v (.int .i64 p0.Clock)), .d (.sl (List.map cI p0.Dial.Cam)), .d (.v (.int .i64 p0.Dial.Months)), .d (.v (.int .i64 p0.Dial.Teeth)), .d (.v (.int .i64 p0.Dial.At)), .d (.v (.int .i64 p0.Dial.Day)), .d (.v (.int .i64 p0.Dial.Week)), .d (.v (.int .i64 p0.Dial.Weekday))]]⟩], .live [⟨53, 26, .av [[.d (.v (.string v1.1.Movement.Name)), .own 5 0 (v1.1.Movement.Works.Arbors).length, .own 6 0 (v1.1.Movement.Works.Meshes).length, .d (.v (.int .i64 v1.1.Movement.Minute)), .d (.v (.int .i64 v1.1.Movement.Hour)), .d (.v (.int .i64 v1.1.Movement.Escape)), .d (.v (.int .i64 v1.1.Movement.Teeth)), .d (.v (.int .i64 v1.1.Movement.Beats)), .d (.v (.string v1.1.Movement.Calendar.Name)), .own 7 0 (v1.1.Movement.Calendar.Months).length, .own 8 0 (v1.1.Movement.Calendar.Rules).length, .d (.v (.int .i64 v1.1.Movement.Calendar.Week)), .own 9 0 (v1.1.Movement.Cam).length, .d (.v (.int .i64 v1.1.Movement.Strike)), .d (.v (.int .i64 v1.1.Start.Year)), .d (.v (.int .i64 v1.1.Start.Month)), .d (.v (.int .i64 v1.1.Start.Day)), .d (.v (.int .i64 v1.1.First)), .d (.v (.int .i64 v1.1.Clock)), .own 10 0 (v1.1.Dial.Cam).length, .d (.v (.int .i64 v1.1.Dial.Months)), .d (.v (.int .i64 v1.1.Dial.Teeth)), .d (.v (.int .i64 v1.1.Dial.At)), .d (.v (.int .i64 v1.1.Dial.Day)), .d (.v (.int .i64 v1.1.Dial.Week)), .d (.v (.int .i64 v1.1.Dial.Weekday))]]⟩], .live [⟨213, 2, .av (nestL 11 cArbor_ v1.1.Movement.Works.Arbors)⟩], .live [⟨215, 4, .data (List.map cMesh_ v1.1.Movement.Works.Meshes)⟩], .live [⟨147, 3, .data (List.map cMonth_ v1.1.Movement.Calendar.Months)⟩], .live [⟨179, 3, .data (List.map cLeapRule_ v1.1.Movement.Calendar.Rules)⟩], .live [⟨2, 1, .data (List.map cI v1.1.Movement.Cam)⟩], .live [⟨2, 1, .data (List.map cI v1.1.Dial.Cam)⟩], .live (famL 2 1 cArbor_ v1.1.Movement.Works.Arbors)]⟩ ?_ ?_
  refine sr [0,1,2,3,4,5,6,7,8,9,10,11,12,13] ?_
  refine pm ?_
  refine rp rfl w0 rfl (pu_neq rfl rfl) ?_
  refine pm ?_
  refine ra_if (u := 19) h1 rfl (fun hc h1 => ?_) (fun hc h1 => ?_)
  iterate 4 refine k1 ?_
  refine pkt ?_
  refine pm ?_
  iterate 4 refine k1 ?_
  refine pkt ?_
  refine nx ?_
  cases h1
  exact wk [0, 1, 2, 3, 11, 4, 6, 7, 8, 9, 10, 5]
  refine fa1 tok ?_
  refine ld1 tok ?_
  obtain ⟨v2, hv2, h1⟩ := bnd h1
  refine rs rfl (w1 rfl rfl rfl) rfl (c_call 12 (i_within_c hv2) rfl rfl rfl) ?_
  refine rp rfl (w1 rfl rfl rfl) rfl (pu_not rfl) ?_
  refine pkf ?_
  refine pm ?_
  refine ra_ifB (u := 25) h1 rfl (fun hc h1 => ?_) (fun hc h1 => ?_)
  iterate 4 refine k1 ?_
  refine pkt ?_
  refine nx ?_
  cases h1
  exact wk [0, 1, 2, 3, 11, 4, 6, 7, 8, 9, 10, 5]
  refine fa1 tok ?_
  refine rl rfl (w1 rfl rfl rfl) rfl (bx_ldN tok rfl rfl rfl rfl) ?_
  obtain ⟨v3, hv3, h1⟩ := bnd h1
  refine rs rfl (w1 rfl rfl rfl) rfl (c_call 12 (i_ValidPerpetual_c hv3) rfl rfl rfl) ?_
  refine rp rfl (w1 rfl rfl rfl) rfl (pu_not rfl) ?_
  refine pkf ?_
  refine nx ?_
  cases h1
  exact wk [0, 1, 2, 3, 11, 4, 6, 7, 8, 9, 10, 5]
  refine aw_ifB h0 rfl (fun hc h0 => ?_) (fun hc h0 => ?_)
  refine sq [0] ?_
  refine pa ?_
  refine nx ?_
  refine aw_ret ?_
  refine then_r ?_
  cases h0
  exact ret0_ (rs := [.tmp 2]) rfl
  refine sk ?_
  refine aw_seq ?_
  refine aw_region_draw (is := [0, 1, 2, 3, 4, 5, 6, 7]) [0, 1, 0, 4, 0, 0, 51, 127] follows (by kernel_rfl) ?_
  refine rt_lk rfl w0 rfl (bx_fa tok rfl rfl rfl rfl rfl rfl rfl) rfl rfl rfl ?_
  refine rt_lk rfl w0 rfl (bx_ldN tok rfl rfl rfl rfl) rfl rfl rfl ?_
  refine rt_lk rfl w0 rfl (bx_fa tok rfl rfl rfl rfl rfl rfl rfl) rfl rfl rfl ?_
  refine rt_lk rfl w0 rfl (bx_ldN tok rfl rfl rfl rfl) rfl rfl rfl ?_
  refine rt_a rfl w0 rfl rfl (fun hx hk => st_alloc 12 (cs := [.d (.v (.slice none 0 0)), .d (.v (.int .i64 0)), .d (.v (.int .i64 0)), .d (.v (.int .i64 0)), .d (.v (.int .i64 0)), .d (.v (.int .i64 0)), .d (.v (.int .i64 0))]) tok rfl rfl hk) ?_
  refine rt_a rfl w0 rfl rfl (fun hx hk => st_alloc 13 (cs := [.d (.v (.slice none 0 0)), .d (.v (.int .i64 0)), .d (.v (.int .i64 0)), .d (.v (.int .i64 0)), .d (.v (.int .i64 0)), .d (.v (.int .i64 0)), .d (.v (.int .i64 0))]) tok rfl rfl hk) ?_
  refine rt_wk rfl w0 (bx_st (cs := _ :: _) tok rfl rfl rfl rfl rfl rfl rfl) ?_
  refine rt_wk rfl w0 (bx_st (cs := _ :: _) tok rfl rfl rfl rfl rfl rfl rfl) ?_
  refine rt_nil ?_
  refine ⟨by kernel_rfl, ?_⟩
  refine then_n ?_
  refine sq [0,1,2,3,4,5,6,7,8,9,10,11,12,13,14,15,16,17,18,19,20,21,22,23,24,25,26] ?_
  refine fa tok ?_
  refine ld tok ?_
  refine fa tok ?_
  refine ld tok ?_
  obtain ⟨v5, hv5, h0⟩ := bnd h0
  refine rs rfl w0 rfl (c_callV 14 (slices_Equal_Lint64_int64_c hv5) rfl rfl) ?_
  refine pm ?_
  refine ra_ifB (u := 40) h0 rfl (fun hc h0 => ?_) (fun hc h0 => ?_)
  refine fa1 tok ?_
  refine ld1 tok ?_
  refine fa1 tok ?_
  refine ld1 tok ?_
  refine rp rfl (w1 rfl rfl rfl) rfl (pu_eql rfl rfl) ?_
  refine pkt ?_
  refine pm ?_
  refine ra_if (u := 47) h0 rfl (fun hc h0 => ?_) (fun hc h0 => ?_)
  refine fa1 tok ?_
  refine ld1 tok ?_
  refine fa1 tok ?_
  refine ld1 tok ?_
  refine rp rfl (w1 rfl rfl rfl) rfl (pu_eql rfl rfl) ?_
  refine pkt ?_
  refine pm ?_
  refine ra_if (u := 54) h0 rfl (fun hc h0 => ?_) (fun hc h0 => ?_)
  refine fa1 tok ?_
  refine ld1 tok ?_
  refine fa1 tok ?_
  refine ld1 tok ?_
  refine rp rfl (w1 rfl rfl rfl) rfl (pu_eql rfl rfl) ?_
  refine pkt ?_
  refine pa ?_
  refine nx ?_
  refine aw_ret ?_
  cases h0
  exact ret0_ (rs := [.tmp 2]) rfl
  iterate 5 refine k1 ?_
  refine pkf ?_
  refine pa ?_
  refine nx ?_
  refine aw_ret ?_
  cases h0
  exact ret0_ (rs := [.tmp 2]) rfl
  iterate 5 refine k1 ?_
  refine pkf ?_
  refine pm ?_
  iterate 5 refine k1 ?_
  refine pkf ?_
  refine pa ?_
  refine nx ?_
  refine aw_ret ?_
  cases h0
  exact ret0_ (rs := [.tmp 2]) rfl
  iterate 5 refine k1 ?_
  refine pkf ?_
  refine pm ?_
  iterate 5 refine k1 ?_
  refine pkf ?_
  refine pm ?_
  iterate 5 refine k1 ?_
  refine pkf ?_
  refine pa ?_
  refine nx ?_
  refine aw_ret ?_
  cases h0
  exact ret0_ (rs := [.tmp 2]) rfl

theorem Perpetual_own_c {p0 : Perpetual_} {r : Perpetual_} (h0 : Perpetual_own_m p0 = some r) : FnC Tryz.prog 80 [] [.agg [.d (.sl (List.map cI p0.Cam)), .d (.v (.int .i64 p0.Months)), .d (.v (.int .i64 p0.Teeth)), .d (.v (.int .i64 p0.At)), .d (.v (.int .i64 p0.Day)), .d (.v (.int .i64 p0.Week)), .d (.v (.int .i64 p0.Weekday))]] [.live [⟨2, 1, .data (List.map cI r.Cam)⟩]] (.agg [.own 0 0 r.Cam.length, .d (.v (.int .i64 r.Months)), .d (.v (.int .i64 r.Teeth)), .d (.v (.int .i64 r.At)), .d (.v (.int .i64 r.Day)), .d (.v (.int .i64 r.Week)), .d (.v (.int .i64 r.Weekday))]) := by
  refine fnc_intro (T := tt) (N := 8) tok Tryz.func80 rfl rfl (by kernel_rfl) rfl rfl ?_
  unfold Perpetual_own_m at h0
  refine sq [0,1] ?_
  refine rs rfl w0 rfl (st_box 3 (cs := _ :: _) rfl rfl rfl) ?_
  refine rs rfl w0 rfl (st_alloc 4 (cs := [.d (.v (.slice none 0 0)), .d (.v (.int .i64 0)), .d (.v (.int .i64 0)), .d (.v (.int .i64 0)), .d (.v (.int .i64 0)), .d (.v (.int .i64 0)), .d (.v (.int .i64 0))]) tok rfl rfl rfl) ?_
  refine nx ?_
  refine sq [0,1,2,3,4] ?_
  refine fa tok ?_
  refine ld tok ?_
  obtain ⟨v1, hv1, h0⟩ := bnd h0
  refine rs rfl w0 rfl (c_call 5 (slices_Clone_Lint64_int64_c hv1) rfl rfl rfl) ?_
  refine fa tok ?_
  refine rw0 rfl w0 (bx_st (cs := [.own _ _ _]) tok rfl rfl rfl rfl rfl rfl rfl) ?_
  refine nx ?_
  refine sq [0,1] ?_
  refine rl rfl w0 rfl (bx_ldN tok rfl rfl rfl rfl) ?_
  refine rw0 rfl w0 (bx_st (cs := _ :: _) tok rfl rfl rfl rfl rfl rfl rfl) ?_
  refine nx ?_
  refine aw_ret ?_
  cases h0
  exact retK_ (rs := [.cell 2 51]) [5] rfl

theorem i_copySim_c {p0 : Sim_} {r : Sim_} (h0 : i_copySim_m p0 = some r) : FnC Tryz.prog 36 [] [.agg [.d (.v (.string p0.Movement.Name)), .d (.sl (List.map cArbor_ p0.Movement.Works.Arbors)), .d (.sl (List.map cMesh_ p0.Movement.Works.Meshes)), .d (.v (.int .i64 p0.Movement.Minute)), .d (.v (.int .i64 p0.Movement.Hour)), .d (.v (.int .i64 p0.Movement.Escape)), .d (.v (.int .i64 p0.Movement.Teeth)), .d (.v (.int .i64 p0.Movement.Beats)), .d (.v (.string p0.Movement.Calendar.Name)), .d (.sl (List.map cMonth_ p0.Movement.Calendar.Months)), .d (.sl (List.map cLeapRule_ p0.Movement.Calendar.Rules)), .d (.v (.int .i64 p0.Movement.Calendar.Week)), .d (.sl (List.map cI p0.Movement.Cam)), .d (.v (.int .i64 p0.Movement.Strike)), .d (.v (.int .i64 p0.Start.Year)), .d (.v (.int .i64 p0.Start.Month)), .d (.v (.int .i64 p0.Start.Day)), .d (.v (.int .i64 p0.First)), .d (.v (.int .i64 p0.Clock)), .d (.sl (List.map cI p0.Dial.Cam)), .d (.v (.int .i64 p0.Dial.Months)), .d (.v (.int .i64 p0.Dial.Teeth)), .d (.v (.int .i64 p0.Dial.At)), .d (.v (.int .i64 p0.Dial.Day)), .d (.v (.int .i64 p0.Dial.Week)), .d (.v (.int .i64 p0.Dial.Weekday))]] [.live [⟨213, 2, .av (nestL 1 cArbor_ r.Movement.Works.Arbors)⟩], .live (famL 2 1 cArbor_ r.Movement.Works.Arbors), .live [⟨215, 4, .data (List.map cMesh_ r.Movement.Works.Meshes)⟩], .live [⟨147, 3, .data (List.map cMonth_ r.Movement.Calendar.Months)⟩], .live [⟨179, 3, .data (List.map cLeapRule_ r.Movement.Calendar.Rules)⟩], .live [⟨2, 1, .data (List.map cI r.Movement.Cam)⟩], .live [⟨2, 1, .data (List.map cI r.Dial.Cam)⟩]] (.agg [.d (.v (.string r.Movement.Name)), .own 0 0 r.Movement.Works.Arbors.length, .own 2 0 r.Movement.Works.Meshes.length, .d (.v (.int .i64 r.Movement.Minute)), .d (.v (.int .i64 r.Movement.Hour)), .d (.v (.int .i64 r.Movement.Escape)), .d (.v (.int .i64 r.Movement.Teeth)), .d (.v (.int .i64 r.Movement.Beats)), .d (.v (.string r.Movement.Calendar.Name)), .own 3 0 r.Movement.Calendar.Months.length, .own 4 0 r.Movement.Calendar.Rules.length, .d (.v (.int .i64 r.Movement.Calendar.Week)), .own 5 0 r.Movement.Cam.length, .d (.v (.int .i64 r.Movement.Strike)), .d (.v (.int .i64 r.Start.Year)), .d (.v (.int .i64 r.Start.Month)), .d (.v (.int .i64 r.Start.Day)), .d (.v (.int .i64 r.First)), .d (.v (.int .i64 r.Clock)), .own 6 0 r.Dial.Cam.length, .d (.v (.int .i64 r.Dial.Months)), .d (.v (.int .i64 r.Dial.Teeth)), .d (.v (.int .i64 r.Dial.At)), .d (.v (.int .i64 r.Dial.Day)), .d (.v (.int .i64 r.Dial.Week)), .d (.v (.int .i64 r.Dial.Weekday))]) := by
  refine fnc_intro (T := tt) (N := 12) tok Tryz.func36 rfl rfl (by kernel_rfl) rfl rfl ?_
  unfold i_copySim_m at h0
  refine sq [0,1] ?_
  refine rs rfl w0 rfl (st_box 3 (cs := _ :: _) rfl rfl rfl) ?_
  refine rs rfl w0 rfl (st_alloc 4 (cs := [.d (.v (.string (⟨#[]⟩ : ByteArray))), .d (.v (.slice none 0 0)), .d (.v (.slice none 0 0)), .d (.v (.int .i64 0)), .d (.v (.int .i64 0)), .d (.v (.int .i64 0)), .d (.v (.int .i64 0)), .d (.v (.int .i64 0)), .d (.v (.string (⟨#[]⟩ : ByteArray))), .d (.v (.slice none 0 0)), .d (.v (.slice none 0 0)), .d (.v (.int .i64 0)), .d (.v (.slice none 0 0)), .d (.v (.int .i64 0)), .d (.v (.int .i64 0)), .d (.v (.int .i64 0)), .d (.v (.int .i64 0)), .d (.v (.int .i64 0)), .d (.v (.int .i64 0)), .d (.v (.slice none 0 0)), .d (.v (.int .i64 0)), .d (.v (.int .i64 0)), .d (.v (.int .i64 0)), .d (.v (.int .i64 0)), .d (.v (.int .i64 0)), .d (.v (.int .i64 0))]) tok rfl rfl rfl) ?_
  refine nx ?_
  refine sq [0,1,2,3,4] ?_
  refine fa tok ?_
  refine rl rfl w0 rfl (bx_ldN tok rfl rfl rfl rfl) ?_
  obtain ⟨v1, hv1, h0⟩ := bnd h0
  refine rs rfl w0 rfl (c_call 5 (i_copyMovement_c hv1) rfl rfl rfl) ?_
  refine fa tok ?_
  refine rw0 rfl w0 (bx_st (cs := _ :: _) tok rfl rfl rfl rfl rfl rfl rfl) ?_
  refine nx ?_
  refine sq [0,1,2,3,4] ?_
  refine fa tok ?_
  refine rl rfl w0 rfl (bx_ldN tok rfl rfl rfl rfl) ?_
  obtain ⟨v2, hv2, h0⟩ := bnd h0
  refine rs rfl w0 rfl (c_call 11 (Perpetual_own_c hv2) rfl rfl rfl) ?_
  refine fa tok ?_
  refine rw0 rfl w0 (bx_st (cs := _ :: _) tok rfl rfl rfl rfl rfl rfl rfl) ?_
  refine nx ?_
  refine sq [0,1] ?_
  refine rl rfl w0 rfl (bx_ldN tok rfl rfl rfl rfl) ?_
  refine rw0 rfl w0 (bx_st (cs := _ :: _) tok rfl rfl rfl rfl rfl rfl rfl) ?_
  refine nx ?_
  refine aw_ret ?_
  cases h0
  exact retK_ (rs := [.cell 2 53]) [5, 6, 7, 8, 9, 10, 11] rfl

theorem Perpetual_moveMonth_Sim_4_c {p0 : Sim_} {r : Sim_} (h0 : Perpetual_moveMonth_Sim_4_m p0 = some r) : FnC Tryz.prog 38 [.live [⟨53, 26, .av [[.d (.v (.string p0.Movement.Name)), .own 1 0 (p0.Movement.Works.Arbors).length, .own 3 0 (p0.Movement.Works.Meshes).length, .d (.v (.int .i64 p0.Movement.Minute)), .d (.v (.int .i64 p0.Movement.Hour)), .d (.v (.int .i64 p0.Movement.Escape)), .d (.v (.int .i64 p0.Movement.Teeth)), .d (.v (.int .i64 p0.Movement.Beats)), .d (.v (.string p0.Movement.Calendar.Name)), .own 4 0 (p0.Movement.Calendar.Months).length, .own 5 0 (p0.Movement.Calendar.Rules).length, .d (.v (.int .i64 p0.Movement.Calendar.Week)), .own 6 0 (p0.Movement.Cam).length, .d (.v (.int .i64 p0.Movement.Strike)), .d (.v (.int .i64 p0.Start.Year)), .d (.v (.int .i64 p0.Start.Month)), .d (.v (.int .i64 p0.Start.Day)), .d (.v (.int .i64 p0.First)), .d (.v (.int .i64 p0.Clock)), .own 7 0 (p0.Dial.Cam).length, .d (.v (.int .i64 p0.Dial.Months)), .d (.v (.int .i64 p0.Dial.Teeth)), .d (.v (.int .i64 p0.Dial.At)), .d (.v (.int .i64 p0.Dial.Day)), .d (.v (.int .i64 p0.Dial.Week)), .d (.v (.int .i64 p0.Dial.Weekday))]]⟩], .live [⟨213, 2, .av (nestL 2 cArbor_ p0.Movement.Works.Arbors)⟩], .live (famL 2 1 cArbor_ p0.Movement.Works.Arbors), .live [⟨215, 4, .data (List.map cMesh_ p0.Movement.Works.Meshes)⟩], .live [⟨147, 3, .data (List.map cMonth_ p0.Movement.Calendar.Months)⟩], .live [⟨179, 3, .data (List.map cLeapRule_ p0.Movement.Calendar.Rules)⟩], .live [⟨2, 1, .data (List.map cI p0.Movement.Cam)⟩], .live [⟨2, 1, .data (List.map cI p0.Dial.Cam)⟩]] [.ptr 0 0 1 0 19] [.live [⟨53, 26, .av [[.d (.v (.string r.Movement.Name)), .own 1 0 (r.Movement.Works.Arbors).length, .own 3 0 (r.Movement.Works.Meshes).length, .d (.v (.int .i64 r.Movement.Minute)), .d (.v (.int .i64 r.Movement.Hour)), .d (.v (.int .i64 r.Movement.Escape)), .d (.v (.int .i64 r.Movement.Teeth)), .d (.v (.int .i64 r.Movement.Beats)), .d (.v (.string r.Movement.Calendar.Name)), .own 4 0 (r.Movement.Calendar.Months).length, .own 5 0 (r.Movement.Calendar.Rules).length, .d (.v (.int .i64 r.Movement.Calendar.Week)), .own 6 0 (r.Movement.Cam).length, .d (.v (.int .i64 r.Movement.Strike)), .d (.v (.int .i64 r.Start.Year)), .d (.v (.int .i64 r.Start.Month)), .d (.v (.int .i64 r.Start.Day)), .d (.v (.int .i64 r.First)), .d (.v (.int .i64 r.Clock)), .own 7 0 (r.Dial.Cam).length, .d (.v (.int .i64 r.Dial.Months)), .d (.v (.int .i64 r.Dial.Teeth)), .d (.v (.int .i64 r.Dial.At)), .d (.v (.int .i64 r.Dial.Day)), .d (.v (.int .i64 r.Dial.Week)), .d (.v (.int .i64 r.Dial.Weekday))]]⟩], .live [⟨213, 2, .av (nestL 2 cArbor_ r.Movement.Works.Arbors)⟩], .live (famL 2 1 cArbor_ r.Movement.Works.Arbors), .live [⟨215, 4, .data (List.map cMesh_ r.Movement.Works.Meshes)⟩], .live [⟨147, 3, .data (List.map cMonth_ r.Movement.Calendar.Months)⟩], .live [⟨179, 3, .data (List.map cLeapRule_ r.Movement.Calendar.Rules)⟩], .live [⟨2, 1, .data (List.map cI r.Movement.Cam)⟩], .live [⟨2, 1, .data (List.map cI r.Dial.Cam)⟩]] (.tup []) := by
  refine fnc_introL (L := 8) (T := tt) (N := 16) tok Tryz.func38 rfl rfl (by kernel_rfl) rfl rfl ?_
  unfold Perpetual_moveMonth_Sim_4_m at h0
  refine aw_region_draw (is := [0, 1, 2, 3, 4, 5, 6, 7, 8, 9, 10, 11, 12, 13, 14]) [0, 0, 2, 6, 14, 30, 0, 64, 192, 448, 960, 2046, 4095, 8191, 16383] follows (by kernel_rfl) ?_
  refine rt_p rfl w0 rfl (pu_move (r := .ptr _ _ _ _ _) rfl) ?_
  refine rt_p rfl w0 rfl (pu_move (r := .ptr _ _ _ _ _) rfl) ?_
  refine rt_lk rfl w0 rfl (bx_nil rfl rfl) rfl rfl rfl ?_
  refine rt_lk rfl w0 rfl (bx_fa tok rfl rfl rfl rfl rfl rfl rfl) rfl rfl rfl ?_
  refine rt_lk rfl w0 rfl (bx_ld1 tok rfl rfl rfl rfl rfl) rfl rfl rfl ?_
  refine rt_p rfl w0 rfl (pw_add rfl rfl) ?_
  refine rt_p rfl w0 rfl (pu_move (r := .ptr _ _ _ _ _) rfl) ?_
  refine rt_lk rfl w0 rfl (bx_nil rfl rfl) rfl rfl rfl ?_
  refine rt_lk rfl w0 rfl (bx_fa tok rfl rfl rfl rfl rfl rfl rfl) rfl rfl rfl ?_
  refine rt_lk rfl w0 rfl (bx_ld1 tok rfl rfl rfl rfl rfl) rfl rfl rfl ?_
  refine rt_lk rfl w0 rfl (ow_len tok rfl rfl rfl rfl rfl) rfl rfl rfl ?_
  obtain ⟨hq1, h0⟩ := chk_e h0
  refine rt_p rfl w0 rfl (pu_remw rfl rfl hq1) ?_
  refine rt_lk rfl w0 rfl (bx_nil rfl rfl) rfl rfl rfl ?_
  refine rt_lk rfl w0 rfl (bx_fa tok rfl rfl rfl rfl rfl rfl rfl) rfl rfl rfl ?_
  refine rt_wk rfl w0 (bx_st (cs := [.d _]) tok rfl rfl rfl rfl rfl rfl rfl) ?_
  refine rt_nil ?_
  refine ⟨by kernel_rfl, ?_⟩
  cases h0
  exact retP_ (rs := []) 8 rfl rfl

theorem Perpetual_moveDate_Sim_4_c {p0 : Sim_} {p1 : Int} {r : Sim_} (h0 : Perpetual_moveDate_Sim_4_m p0 p1 = some r) : FnC Tryz.prog 37 [.live [⟨53, 26, .av [[.d (.v (.string p0.Movement.Name)), .own 1 0 (p0.Movement.Works.Arbors).length, .own 3 0 (p0.Movement.Works.Meshes).length, .d (.v (.int .i64 p0.Movement.Minute)), .d (.v (.int .i64 p0.Movement.Hour)), .d (.v (.int .i64 p0.Movement.Escape)), .d (.v (.int .i64 p0.Movement.Teeth)), .d (.v (.int .i64 p0.Movement.Beats)), .d (.v (.string p0.Movement.Calendar.Name)), .own 4 0 (p0.Movement.Calendar.Months).length, .own 5 0 (p0.Movement.Calendar.Rules).length, .d (.v (.int .i64 p0.Movement.Calendar.Week)), .own 6 0 (p0.Movement.Cam).length, .d (.v (.int .i64 p0.Movement.Strike)), .d (.v (.int .i64 p0.Start.Year)), .d (.v (.int .i64 p0.Start.Month)), .d (.v (.int .i64 p0.Start.Day)), .d (.v (.int .i64 p0.First)), .d (.v (.int .i64 p0.Clock)), .own 7 0 (p0.Dial.Cam).length, .d (.v (.int .i64 p0.Dial.Months)), .d (.v (.int .i64 p0.Dial.Teeth)), .d (.v (.int .i64 p0.Dial.At)), .d (.v (.int .i64 p0.Dial.Day)), .d (.v (.int .i64 p0.Dial.Week)), .d (.v (.int .i64 p0.Dial.Weekday))]]⟩], .live [⟨213, 2, .av (nestL 2 cArbor_ p0.Movement.Works.Arbors)⟩], .live (famL 2 1 cArbor_ p0.Movement.Works.Arbors), .live [⟨215, 4, .data (List.map cMesh_ p0.Movement.Works.Meshes)⟩], .live [⟨147, 3, .data (List.map cMonth_ p0.Movement.Calendar.Months)⟩], .live [⟨179, 3, .data (List.map cLeapRule_ p0.Movement.Calendar.Rules)⟩], .live [⟨2, 1, .data (List.map cI p0.Movement.Cam)⟩], .live [⟨2, 1, .data (List.map cI p0.Dial.Cam)⟩]] [.ptr 0 0 1 0 19, .d (.v (.int .i64 p1))] [.live [⟨53, 26, .av [[.d (.v (.string r.Movement.Name)), .own 1 0 (r.Movement.Works.Arbors).length, .own 3 0 (r.Movement.Works.Meshes).length, .d (.v (.int .i64 r.Movement.Minute)), .d (.v (.int .i64 r.Movement.Hour)), .d (.v (.int .i64 r.Movement.Escape)), .d (.v (.int .i64 r.Movement.Teeth)), .d (.v (.int .i64 r.Movement.Beats)), .d (.v (.string r.Movement.Calendar.Name)), .own 4 0 (r.Movement.Calendar.Months).length, .own 5 0 (r.Movement.Calendar.Rules).length, .d (.v (.int .i64 r.Movement.Calendar.Week)), .own 6 0 (r.Movement.Cam).length, .d (.v (.int .i64 r.Movement.Strike)), .d (.v (.int .i64 r.Start.Year)), .d (.v (.int .i64 r.Start.Month)), .d (.v (.int .i64 r.Start.Day)), .d (.v (.int .i64 r.First)), .d (.v (.int .i64 r.Clock)), .own 7 0 (r.Dial.Cam).length, .d (.v (.int .i64 r.Dial.Months)), .d (.v (.int .i64 r.Dial.Teeth)), .d (.v (.int .i64 r.Dial.At)), .d (.v (.int .i64 r.Dial.Day)), .d (.v (.int .i64 r.Dial.Week)), .d (.v (.int .i64 r.Dial.Weekday))]]⟩], .live [⟨213, 2, .av (nestL 2 cArbor_ r.Movement.Works.Arbors)⟩], .live (famL 2 1 cArbor_ r.Movement.Works.Arbors), .live [⟨215, 4, .data (List.map cMesh_ r.Movement.Works.Meshes)⟩], .live [⟨147, 3, .data (List.map cMonth_ r.Movement.Calendar.Months)⟩], .live [⟨179, 3, .data (List.map cLeapRule_ r.Movement.Calendar.Rules)⟩], .live [⟨2, 1, .data (List.map cI r.Movement.Cam)⟩], .live [⟨2, 1, .data (List.map cI r.Dial.Cam)⟩]] (.tup []) := by
  refine fnc_introL (L := 8) (T := tt) (N := 34) tok Tryz.func37 rfl rfl (by kernel_rfl) rfl rfl ?_
  unfold Perpetual_moveDate_Sim_4_m at h0
  refine sq [0,1,2,3,4,5,6,7,8] ?_
  refine rp rfl w0 rfl (pu_move (r := .ptr _ _ _ _ _) rfl) ?_
  refine rl rfl w0 rfl (bx_nil rfl rfl) ?_
  refine fa tok ?_
  refine ld tok ?_
  refine pm ?_
  refine rp rfl w0 rfl (pw_add rfl rfl) ?_
  refine rl rfl w0 rfl (bx_nil rfl rfl) ?_
  refine fa tok ?_
  refine rw0 rfl w0 (bx_st (cs := [.d _]) tok rfl rfl rfl rfl rfl rfl rfl) ?_
  refine nx ?_
  refine aw_seq ?_
  refine aw_region_draw (is := [0, 1, 2, 3, 4, 5, 6, 7, 8]) [0, 1, 3, 7, 0, 16, 48, 112, 255] follows (by kernel_rfl) ?_
  refine rt_p rfl w0 rfl (pu_move (r := .ptr _ _ _ _ _) rfl) ?_
  refine rt_lk rfl w0 rfl (bx_nil rfl rfl) rfl rfl rfl ?_
  refine rt_lk rfl w0 rfl (bx_fa tok rfl rfl rfl rfl rfl rfl rfl) rfl rfl rfl ?_
  refine rt_lk rfl w0 rfl (bx_ld1 tok rfl rfl rfl rfl rfl) rfl rfl rfl ?_
  refine rt_p rfl w0 rfl (pu_move (r := .ptr _ _ _ _ _) rfl) ?_
  refine rt_lk rfl w0 rfl (bx_nil rfl rfl) rfl rfl rfl ?_
  refine rt_lk rfl w0 rfl (bx_fa tok rfl rfl rfl rfl rfl rfl rfl) rfl rfl rfl ?_
  refine rt_lk rfl w0 rfl (bx_ld1 tok rfl rfl rfl rfl rfl) rfl rfl rfl ?_
  refine rt_p rfl w0 rfl (pu_gtr rfl rfl) ?_
  refine rt_nil ?_
  refine ⟨by kernel_rfl, ?_⟩
  refine then_n ?_
  refine aw_if h0 rfl (fun hc h0 => ?_) (fun hc h0 => ?_)
  refine aw_seq ?_
  refine aw_region_draw (is := [0, 1, 2, 3, 4, 5, 6, 7, 8, 9, 10, 11]) [0, 1, 3, 7, 0, 16, 48, 112, 255, 511, 1023, 2047] follows (by kernel_rfl) ?_
  refine rt_p rfl w0 rfl (pu_move (r := .ptr _ _ _ _ _) rfl) ?_
  refine rt_lk rfl w0 rfl (bx_nil rfl rfl) rfl rfl rfl ?_
  refine rt_lk rfl w0 rfl (bx_fa tok rfl rfl rfl rfl rfl rfl rfl) rfl rfl rfl ?_
  refine rt_lk rfl w0 rfl (bx_ld1 tok rfl rfl rfl rfl rfl) rfl rfl rfl ?_
  refine rt_p rfl w0 rfl (pu_move (r := .ptr _ _ _ _ _) rfl) ?_
  refine rt_lk rfl w0 rfl (bx_nil rfl rfl) rfl rfl rfl ?_
  refine rt_lk rfl w0 rfl (bx_fa tok rfl rfl rfl rfl rfl rfl rfl) rfl rfl rfl ?_
  refine rt_lk rfl w0 rfl (bx_ld1 tok rfl rfl rfl rfl rfl) rfl rfl rfl ?_
  refine rt_p rfl w0 rfl (pw_sub rfl rfl) ?_
  refine rt_lk rfl w0 rfl (bx_nil rfl rfl) rfl rfl rfl ?_
  refine rt_lk rfl w0 rfl (bx_fa tok rfl rfl rfl rfl rfl rfl rfl) rfl rfl rfl ?_
  refine rt_wk rfl w0 (bx_st (cs := [.d _]) tok rfl rfl rfl rfl rfl rfl rfl) ?_
  refine rt_nil ?_
  refine ⟨by kernel_rfl, ?_⟩
  refine then_n ?_
  refine sr [0,1] ?_
  refine rp rfl w0 rfl (pu_move (r := .ptr _ _ _ _ _) rfl) ?_
  obtain ⟨v1, hv1, h0⟩ := bnd h0
  refine rw1 rfl w0 rfl (c_callP [0, 1, 2, 3, 4, 5, 6, 7] 300 (Perpetual_moveMonth_Sim_4_c hv1) rfl rfl) ?_
  refine ra_nil ?_
  cases h0
  exact retP_ (rs := []) 8 rfl rfl
  refine aw_skip ?_
  cases h0
  exact retP_ (rs := []) 8 rfl rfl

theorem Perpetual_moveWeekday_Sim_4_c {p0 : Sim_} {r : Sim_} (h0 : Perpetual_moveWeekday_Sim_4_m p0 = some r) : FnC Tryz.prog 39 [.live [⟨53, 26, .av [[.d (.v (.string p0.Movement.Name)), .own 1 0 (p0.Movement.Works.Arbors).length, .own 3 0 (p0.Movement.Works.Meshes).length, .d (.v (.int .i64 p0.Movement.Minute)), .d (.v (.int .i64 p0.Movement.Hour)), .d (.v (.int .i64 p0.Movement.Escape)), .d (.v (.int .i64 p0.Movement.Teeth)), .d (.v (.int .i64 p0.Movement.Beats)), .d (.v (.string p0.Movement.Calendar.Name)), .own 4 0 (p0.Movement.Calendar.Months).length, .own 5 0 (p0.Movement.Calendar.Rules).length, .d (.v (.int .i64 p0.Movement.Calendar.Week)), .own 6 0 (p0.Movement.Cam).length, .d (.v (.int .i64 p0.Movement.Strike)), .d (.v (.int .i64 p0.Start.Year)), .d (.v (.int .i64 p0.Start.Month)), .d (.v (.int .i64 p0.Start.Day)), .d (.v (.int .i64 p0.First)), .d (.v (.int .i64 p0.Clock)), .own 7 0 (p0.Dial.Cam).length, .d (.v (.int .i64 p0.Dial.Months)), .d (.v (.int .i64 p0.Dial.Teeth)), .d (.v (.int .i64 p0.Dial.At)), .d (.v (.int .i64 p0.Dial.Day)), .d (.v (.int .i64 p0.Dial.Week)), .d (.v (.int .i64 p0.Dial.Weekday))]]⟩], .live [⟨213, 2, .av (nestL 2 cArbor_ p0.Movement.Works.Arbors)⟩], .live (famL 2 1 cArbor_ p0.Movement.Works.Arbors), .live [⟨215, 4, .data (List.map cMesh_ p0.Movement.Works.Meshes)⟩], .live [⟨147, 3, .data (List.map cMonth_ p0.Movement.Calendar.Months)⟩], .live [⟨179, 3, .data (List.map cLeapRule_ p0.Movement.Calendar.Rules)⟩], .live [⟨2, 1, .data (List.map cI p0.Movement.Cam)⟩], .live [⟨2, 1, .data (List.map cI p0.Dial.Cam)⟩]] [.ptr 0 0 1 0 19] [.live [⟨53, 26, .av [[.d (.v (.string r.Movement.Name)), .own 1 0 (r.Movement.Works.Arbors).length, .own 3 0 (r.Movement.Works.Meshes).length, .d (.v (.int .i64 r.Movement.Minute)), .d (.v (.int .i64 r.Movement.Hour)), .d (.v (.int .i64 r.Movement.Escape)), .d (.v (.int .i64 r.Movement.Teeth)), .d (.v (.int .i64 r.Movement.Beats)), .d (.v (.string r.Movement.Calendar.Name)), .own 4 0 (r.Movement.Calendar.Months).length, .own 5 0 (r.Movement.Calendar.Rules).length, .d (.v (.int .i64 r.Movement.Calendar.Week)), .own 6 0 (r.Movement.Cam).length, .d (.v (.int .i64 r.Movement.Strike)), .d (.v (.int .i64 r.Start.Year)), .d (.v (.int .i64 r.Start.Month)), .d (.v (.int .i64 r.Start.Day)), .d (.v (.int .i64 r.First)), .d (.v (.int .i64 r.Clock)), .own 7 0 (r.Dial.Cam).length, .d (.v (.int .i64 r.Dial.Months)), .d (.v (.int .i64 r.Dial.Teeth)), .d (.v (.int .i64 r.Dial.At)), .d (.v (.int .i64 r.Dial.Day)), .d (.v (.int .i64 r.Dial.Week)), .d (.v (.int .i64 r.Dial.Weekday))]]⟩], .live [⟨213, 2, .av (nestL 2 cArbor_ r.Movement.Works.Arbors)⟩], .live (famL 2 1 cArbor_ r.Movement.Works.Arbors), .live [⟨215, 4, .data (List.map cMesh_ r.Movement.Works.Meshes)⟩], .live [⟨147, 3, .data (List.map cMonth_ r.Movement.Calendar.Months)⟩], .live [⟨179, 3, .data (List.map cLeapRule_ r.Movement.Calendar.Rules)⟩], .live [⟨2, 1, .data (List.map cI r.Movement.Cam)⟩], .live [⟨2, 1, .data (List.map cI r.Dial.Cam)⟩]] (.tup []) := by
  refine fnc_introL (L := 8) (T := tt) (N := 15) tok Tryz.func39 rfl rfl (by kernel_rfl) rfl rfl ?_
  unfold Perpetual_moveWeekday_Sim_4_m at h0
  refine aw_region_draw (is := [0, 1, 2, 3, 4, 5, 6, 7, 8, 9, 10, 11, 12, 13]) [0, 0, 2, 6, 14, 0, 32, 96, 224, 510, 1022, 2047, 4095, 8191] follows (by kernel_rfl) ?_
  refine rt_p rfl w0 rfl (pu_move (r := .ptr _ _ _ _ _) rfl) ?_
  refine rt_p rfl w0 rfl (pu_move (r := .ptr _ _ _ _ _) rfl) ?_
  refine rt_lk rfl w0 rfl (bx_nil rfl rfl) rfl rfl rfl ?_
  refine rt_lk rfl w0 rfl (bx_fa tok rfl rfl rfl rfl rfl rfl rfl) rfl rfl rfl ?_
  refine rt_lk rfl w0 rfl (bx_ld1 tok rfl rfl rfl rfl rfl) rfl rfl rfl ?_
  refine rt_p rfl w0 rfl (pu_move (r := .ptr _ _ _ _ _) rfl) ?_
  refine rt_lk rfl w0 rfl (bx_nil rfl rfl) rfl rfl rfl ?_
  refine rt_lk rfl w0 rfl (bx_fa tok rfl rfl rfl rfl rfl rfl rfl) rfl rfl rfl ?_
  refine rt_lk rfl w0 rfl (bx_ld1 tok rfl rfl rfl rfl rfl) rfl rfl rfl ?_
  obtain ⟨hq1, h0⟩ := chk_e h0
  refine rt_p rfl w0 rfl (pu_remw rfl rfl hq1) ?_
  refine rt_p rfl w0 rfl (pw_add rfl rfl) ?_
  refine rt_lk rfl w0 rfl (bx_nil rfl rfl) rfl rfl rfl ?_
  refine rt_lk rfl w0 rfl (bx_fa tok rfl rfl rfl rfl rfl rfl rfl) rfl rfl rfl ?_
  refine rt_wk rfl w0 (bx_st (cs := [.d _]) tok rfl rfl rfl rfl rfl rfl rfl) ?_
  refine rt_nil ?_
  refine ⟨by kernel_rfl, ?_⟩
  cases h0
  exact retP_ (rs := []) 8 rfl rfl

theorem i_PushSim_c {p0 : Sim_} {p1 : Int} {r : Sim_ × Int} (h0 : i_PushSim_m p0 p1 = some r) : FnC Tryz.prog 10 [] [.agg [.d (.v (.string p0.Movement.Name)), .d (.sl (List.map cArbor_ p0.Movement.Works.Arbors)), .d (.sl (List.map cMesh_ p0.Movement.Works.Meshes)), .d (.v (.int .i64 p0.Movement.Minute)), .d (.v (.int .i64 p0.Movement.Hour)), .d (.v (.int .i64 p0.Movement.Escape)), .d (.v (.int .i64 p0.Movement.Teeth)), .d (.v (.int .i64 p0.Movement.Beats)), .d (.v (.string p0.Movement.Calendar.Name)), .d (.sl (List.map cMonth_ p0.Movement.Calendar.Months)), .d (.sl (List.map cLeapRule_ p0.Movement.Calendar.Rules)), .d (.v (.int .i64 p0.Movement.Calendar.Week)), .d (.sl (List.map cI p0.Movement.Cam)), .d (.v (.int .i64 p0.Movement.Strike)), .d (.v (.int .i64 p0.Start.Year)), .d (.v (.int .i64 p0.Start.Month)), .d (.v (.int .i64 p0.Start.Day)), .d (.v (.int .i64 p0.First)), .d (.v (.int .i64 p0.Clock)), .d (.sl (List.map cI p0.Dial.Cam)), .d (.v (.int .i64 p0.Dial.Months)), .d (.v (.int .i64 p0.Dial.Teeth)), .d (.v (.int .i64 p0.Dial.At)), .d (.v (.int .i64 p0.Dial.Day)), .d (.v (.int .i64 p0.Dial.Week)), .d (.v (.int .i64 p0.Dial.Weekday))], .d (.v (.int .i64 p1))] [.live [⟨213, 2, .av (nestL 1 cArbor_ r.1.Movement.Works.Arbors)⟩], .live (famL 2 1 cArbor_ r.1.Movement.Works.Arbors), .live [⟨215, 4, .data (List.map cMesh_ r.1.Movement.Works.Meshes)⟩], .live [⟨147, 3, .data (List.map cMonth_ r.1.Movement.Calendar.Months)⟩], .live [⟨179, 3, .data (List.map cLeapRule_ r.1.Movement.Calendar.Rules)⟩], .live [⟨2, 1, .data (List.map cI r.1.Movement.Cam)⟩], .live [⟨2, 1, .data (List.map cI r.1.Dial.Cam)⟩]] (.tup [.agg [.d (.v (.string r.1.Movement.Name)), .own 0 0 r.1.Movement.Works.Arbors.length, .own 2 0 r.1.Movement.Works.Meshes.length, .d (.v (.int .i64 r.1.Movement.Minute)), .d (.v (.int .i64 r.1.Movement.Hour)), .d (.v (.int .i64 r.1.Movement.Escape)), .d (.v (.int .i64 r.1.Movement.Teeth)), .d (.v (.int .i64 r.1.Movement.Beats)), .d (.v (.string r.1.Movement.Calendar.Name)), .own 3 0 r.1.Movement.Calendar.Months.length, .own 4 0 r.1.Movement.Calendar.Rules.length, .d (.v (.int .i64 r.1.Movement.Calendar.Week)), .own 5 0 r.1.Movement.Cam.length, .d (.v (.int .i64 r.1.Movement.Strike)), .d (.v (.int .i64 r.1.Start.Year)), .d (.v (.int .i64 r.1.Start.Month)), .d (.v (.int .i64 r.1.Start.Day)), .d (.v (.int .i64 r.1.First)), .d (.v (.int .i64 r.1.Clock)), .own 6 0 r.1.Dial.Cam.length, .d (.v (.int .i64 r.1.Dial.Months)), .d (.v (.int .i64 r.1.Dial.Teeth)), .d (.v (.int .i64 r.1.Dial.At)), .d (.v (.int .i64 r.1.Dial.Day)), .d (.v (.int .i64 r.1.Dial.Week)), .d (.v (.int .i64 r.1.Dial.Weekday))], .d (.v (.int .i64 r.2))]) := by
  refine fnc_intro (T := tt) (N := 27) tok Tryz.func10 rfl rfl (by kernel_rfl) rfl rfl ?_
  unfold i_PushSim_m at h0
  refine sq [0,1,2] ?_
  refine rs rfl w0 rfl (st_box 3 (cs := _ :: _) rfl rfl rfl) ?_
  refine rs rfl w0 rfl (st_alloc 4 (cs := [.d (.v (.string (⟨#[]⟩ : ByteArray))), .d (.v (.slice none 0 0)), .d (.v (.slice none 0 0)), .d (.v (.int .i64 0)), .d (.v (.int .i64 0)), .d (.v (.int .i64 0)), .d (.v (.int .i64 0)), .d (.v (.int .i64 0)), .d (.v (.string (⟨#[]⟩ : ByteArray))), .d (.v (.slice none 0 0)), .d (.v (.slice none 0 0)), .d (.v (.int .i64 0)), .d (.v (.slice none 0 0)), .d (.v (.int .i64 0)), .d (.v (.int .i64 0)), .d (.v (.int .i64 0)), .d (.v (.int .i64 0)), .d (.v (.int .i64 0)), .d (.v (.int .i64 0)), .d (.v (.slice none 0 0)), .d (.v (.int .i64 0)), .d (.v (.int .i64 0)), .d (.v (.int .i64 0)), .d (.v (.int .i64 0)), .d (.v (.int .i64 0)), .d (.v (.int .i64 0))]) tok rfl rfl rfl) ?_
  refine pa ?_
  refine nx ?_
  refine aw_seq ?_
  refine sq [0,1,2] ?_
  refine rl rfl w0 rfl (bx_ldN tok rfl rfl rfl rfl) ?_
  obtain ⟨v1, hv1, h0⟩ := bnd h0
  refine rs rfl w0 rfl (c_call 5 (i_ValidSim_c hv1) rfl rfl rfl) ?_
  refine rp rfl w0 rfl (pu_not rfl) ?_
  refine nx ?_
  refine aw_ifB h0 rfl (fun hc h0 => ?_) (fun hc h0 => ?_)
  refine sq [0,1,2] ?_
  refine rp rfl w0 rfl (pu_build (C0 := [.d (.v (.string (⟨#[]⟩ : ByteArray))), .d (.v (.slice none 0 0)), .d (.v (.slice none 0 0)), .d (.v (.int .i64 0)), .d (.v (.int .i64 0)), .d (.v (.int .i64 0)), .d (.v (.int .i64 0)), .d (.v (.int .i64 0)), .d (.v (.string (⟨#[]⟩ : ByteArray))), .d (.v (.slice none 0 0)), .d (.v (.slice none 0 0)), .d (.v (.int .i64 0)), .d (.v (.slice none 0 0)), .d (.v (.int .i64 0)), .d (.v (.int .i64 0)), .d (.v (.int .i64 0)), .d (.v (.int .i64 0)), .d (.v (.int .i64 0)), .d (.v (.int .i64 0)), .d (.v (.slice none 0 0)), .d (.v (.int .i64 0)), .d (.v (.int .i64 0)), .d (.v (.int .i64 0)), .d (.v (.int .i64 0)), .d (.v (.int .i64 0)), .d (.v (.int .i64 0))]) tok rfl rfl (by repeat (first | exact Plc.nil | apply Plc.cons rfl)) rfl (by repeat (first | exact Bld.nil _ | apply Bld.cons (cs := [.d _]) rfl rfl rfl rfl (by repeat (first | exact Spl.z _ | apply Spl.t | apply Spl.d)) | apply Bld.cons (cs := [.own _ _ _]) rfl rfl rfl rfl (by repeat (first | exact Spl.z _ | apply Spl.t | apply Spl.d)) | apply Bld.cons (cs := [.ptr _ _ _ _ _]) rfl rfl rfl rfl (by repeat (first | exact Spl.z _ | apply Spl.t | apply Spl.d)) | apply Bld.cons (cs := [.fn _ _]) rfl rfl rfl rfl (by repeat (first | exact Spl.z _ | apply Spl.t | apply Spl.d)) | apply Bld.cons (cs := _ :: _) rfl rfl rfl rfl (by repeat (first | exact Spl.z _ | apply Spl.t | apply Spl.d))))) ?_
  refine rw0 rfl w0 (bx_st (cs := _ :: _) tok rfl rfl rfl rfl rfl rfl rfl) ?_
  refine pa ?_
  refine nx ?_
  refine aw_weak (weak_adopt 5 rfl 213 2 (kb := 4) (j := 1) rfl rfl (by repeat (first | exact Spl.z _ | apply Spl.t | apply Spl.d))) ?_
  refine aw_weak (weak_nest0 6 (k := 5) 2 1 cArbor_ rfl rfl) ?_
  refine aw_weak (weak_adopt 7 rfl 215 4 (kb := 4) (j := 2) rfl rfl (by repeat (first | exact Spl.z _ | apply Spl.t | apply Spl.d))) ?_
  refine aw_weak (weak_adopt 8 rfl 147 3 (kb := 4) (j := 9) rfl rfl (by repeat (first | exact Spl.z _ | apply Spl.t | apply Spl.d))) ?_
  refine aw_weak (weak_adopt 9 rfl 179 3 (kb := 4) (j := 10) rfl rfl (by repeat (first | exact Spl.z _ | apply Spl.t | apply Spl.d))) ?_
  refine aw_weak (weak_adopt 10 rfl 2 1 (kb := 4) (j := 12) rfl rfl (by repeat (first | exact Spl.z _ | apply Spl.t | apply Spl.d))) ?_
  refine aw_weak (weak_adopt 11 rfl 2 1 (kb := 4) (j := 19) rfl rfl (by repeat (first | exact Spl.z _ | apply Spl.t | apply Spl.d))) ?_
  refine aw_ret ?_
  refine then_r ?_
  cases h0
  exact retK_ (rs := [.cell 4 53, .tmp 5]) [5, 6, 7, 8, 9, 10, 11] rfl
  refine sk ?_
  refine sq [0,1,2] ?_
  refine rl rfl w0 rfl (bx_ldN tok rfl rfl rfl rfl) ?_
  obtain ⟨v2, hv2, h0⟩ := bnd h0
  refine rs rfl w0 rfl (c_call 5 (i_copySim_c hv2) rfl rfl rfl) ?_
  refine rw0 rfl w0 (bx_st (cs := _ :: _) tok rfl rfl rfl rfl rfl rfl rfl) ?_
  refine nx ?_
  obtain ⟨v6x, h1, h0⟩ := bnd h0
  refine aw_cutE v6x (fun v6 => ⟨updA (updA ((fun _ => .dead)) 2 (.ptr 3 0 1 0 0)) 4 (.ptr 4 0 1 0 0), lks [.no, .no, .no, .live [⟨53, 26, .av [[.d (.v (.string v6.1)), .own 5 0 (v6.2.2.2.2.2.2.2.2.2.2.2.2.2.2.2.2.2.2.1).length, .own 6 0 (v6.2.2.2.2.2.2.2.2.2.2.2.2.2.2.2.2.2.2.2.1).length, .d (.v (.int .i64 v6.2.1)), .d (.v (.int .i64 v6.2.2.1)), .d (.v (.int .i64 v6.2.2.2.1)), .d (.v (.int .i64 v6.2.2.2.2.1)), .d (.v (.int .i64 v6.2.2.2.2.2.1)), .d (.v (.string v6.2.2.2.2.2.2.1)), .own 7 0 (v6.2.2.2.2.2.2.2.2.2.2.2.2.2.2.2.2.2.2.2.2.1).length, .own 8 0 (v6.2.2.2.2.2.2.2.2.2.2.2.2.2.2.2.2.2.2.2.2.2.1).length, .d (.v (.int .i64 v6.2.2.2.2.2.2.2.1)), .own 9 0 (v6.2.2.2.2.2.2.2.2.2.2.2.2.2.2.2.2.2.2.2.2.2.2.1).length, .d (.v (.int .i64 v6.2.2.2.2.2.2.2.2.1)), .d (.v (.int .i64 v6.2.2.2.2.2.2.2.2.2.1.Year)), .d (.v (.int .i64 v6.2.2.2.2.2.2.2.2.2.1.Month)), .d (.v (.int .i64 v6.2.2.2.2.2.2.2.2.2.1.Day)), .d (.v (.int .i64 v6.2.2.2.2.2.2.2.2.2.2.1)), .d (.v (.int .i64 v6.2.2.2.2.2.2.2.2.2.2.2.1)), .own 10 0 (v6.2.2.2.2.2.2.2.2.2.2.2.2.2.2.2.2.2.2.2.2.2.2.2).length, .d (.v (.int .i64 v6.2.2.2.2.2.2.2.2.2.2.2.2.1)), .d (.v (.int .i64 v6.2.2.2.2.2.2.2.2.2.2.2.2.2.1)), .d (.v (.int .i64 v6.2.2.2.2.2.2.2.2.2.2.2.2.2.2.1)), .d (.v (.int .i64 v6.2.2.2.2.2.2.2.2.2.2.2.2.2.2.2.1)), .d (.v (.int .i64 v6.2.2.2.2.2.2.2.2.2.2.2.2.2.2.2.2.1)), .d (.v (.int .i64 v6.2.2.2.2.2.2.2.2.2.2.2.2.2.2.2.2.2.1))]]⟩], .live [⟨53, 26, .av [[.d (.v (.string (⟨#[]⟩ : ByteArray))), .d (.v (.slice none 0 0)), .d (.v (.slice none 0 0)), .d (.v (.int .i64 0)), .d (.v (.int .i64 0)), .d (.v (.int .i64 0)), .d (.v (.int .i64 0)), .d (.v (.int .i64 0)), .d (.v (.string (⟨#[]⟩ : ByteArray))), .d (.v (.slice none 0 0)), .d (.v (.slice none 0 0)), .d (.v (.int .i64 0)), .d (.v (.slice none 0 0)), .d (.v (.int .i64 0)), .d (.v (.int .i64 0)), .d (.v (.int .i64 0)), .d (.v (.int .i64 0)), .d (.v (.int .i64 0)), .d (.v (.int .i64 0)), .d (.v (.slice none 0 0)), .d (.v (.int .i64 0)), .d (.v (.int .i64 0)), .d (.v (.int .i64 0)), .d (.v (.int .i64 0)), .d (.v (.int .i64 0)), .d (.v (.int .i64 0))]]⟩], .live [⟨213, 2, .av (nestL 11 cArbor_ v6.2.2.2.2.2.2.2.2.2.2.2.2.2.2.2.2.2.2.1)⟩], .live [⟨215, 4, .data (List.map cMesh_ v6.2.2.2.2.2.2.2.2.2.2.2.2.2.2.2.2.2.2.2.1)⟩], .live [⟨147, 3, .data (List.map cMonth_ v6.2.2.2.2.2.2.2.2.2.2.2.2.2.2.2.2.2.2.2.2.1)⟩], .live [⟨179, 3, .data (List.map cLeapRule_ v6.2.2.2.2.2.2.2.2.2.2.2.2.2.2.2.2.2.2.2.2.2.1)⟩], .live [⟨2, 1, .data (List.map cI v6.2.2.2.2.2.2.2.2.2.2.2.2.2.2.2.2.2.2.2.2.2.2.1)⟩], .live [⟨2, 1, .data (List.map cI v6.2.2.2.2.2.2.2.2.2.2.2.2.2.2.2.2.2.2.2.2.2.2.2)⟩], .live (famL 2 1 cArbor_ v6.2.2.2.2.2.2.2.2.2.2.2.2.2.2.2.2.2.2.1)]⟩) ?_ ?_
  refine sq [0] ?_
  refine pm ?_
  refine nx ?_
  refine aw_block ?_
  refine sq [0,1] ?_
  refine rp rfl w0 rfl (pu_eql rfl rfl) ?_
  refine pa ?_
  refine nx ?_
  refine aw_if h1 rfl (fun hc h1 => ?_) (fun hc h1 => ?_)
  refine sr [0,1] ?_
  refine fa tok ?_
  obtain ⟨v3, hv3, h1⟩ := bnd h1
  refine rw1 rfl w0 rfl (c_callP [3, 5, 6, 7, 8, 9, 10, 11] 300 (Perpetual_moveDate_Sim_4_c hv3) rfl rfl) ?_
  refine ra_nil ?_
  refine block_n ?_
  refine then_n ?_
  cases h1
  refine ⟨_, rfl, ?_⟩
  exact wk [0, 1, 2, 3, 4, 5, 7, 8, 9, 10, 11, 6]
  refine sq [0,1] ?_
  refine rp rfl w0 rfl (pu_eql rfl rfl) ?_
  refine pa ?_
  refine nx ?_
  refine aw_if h1 rfl (fun hc h1 => ?_) (fun hc h1 => ?_)
  refine sr [0,1] ?_
  refine fa tok ?_
  obtain ⟨v4, hv4, h1⟩ := bnd h1
  refine rw1 rfl w0 rfl (c_callP [3, 5, 6, 7, 8, 9, 10, 11] 300 (Perpetual_moveMonth_Sim_4_c hv4) rfl rfl) ?_
  refine ra_nil ?_
  refine block_n ?_
  refine then_n ?_
  cases h1
  refine ⟨_, rfl, ?_⟩
  exact wk [0, 1, 2, 3, 4, 5, 7, 8, 9, 10, 11, 6]
  refine sq [0,1] ?_
  refine rp rfl w0 rfl (pu_eql rfl rfl) ?_
  refine pa ?_
  refine nx ?_
  refine aw_if h1 rfl (fun hc h1 => ?_) (fun hc h1 => ?_)
  refine sr [0,1] ?_
  refine fa tok ?_
  obtain ⟨v5, hv5, h1⟩ := bnd h1
  refine rw1 rfl w0 rfl (c_callP [3, 5, 6, 7, 8, 9, 10, 11] 300 (Perpetual_moveWeekday_Sim_4_c hv5) rfl rfl) ?_
  refine ra_nil ?_
  refine block_n ?_
  refine then_n ?_
  cases h1
  refine ⟨_, rfl, ?_⟩
  exact wk [0, 1, 2, 3, 4, 5, 7, 8, 9, 10, 11, 6]
  refine sq [0,1,2] ?_
  refine rp rfl w0 rfl (pu_build (C0 := [.d (.v (.string (⟨#[]⟩ : ByteArray))), .d (.v (.slice none 0 0)), .d (.v (.slice none 0 0)), .d (.v (.int .i64 0)), .d (.v (.int .i64 0)), .d (.v (.int .i64 0)), .d (.v (.int .i64 0)), .d (.v (.int .i64 0)), .d (.v (.string (⟨#[]⟩ : ByteArray))), .d (.v (.slice none 0 0)), .d (.v (.slice none 0 0)), .d (.v (.int .i64 0)), .d (.v (.slice none 0 0)), .d (.v (.int .i64 0)), .d (.v (.int .i64 0)), .d (.v (.int .i64 0)), .d (.v (.int .i64 0)), .d (.v (.int .i64 0)), .d (.v (.int .i64 0)), .d (.v (.slice none 0 0)), .d (.v (.int .i64 0)), .d (.v (.int .i64 0)), .d (.v (.int .i64 0)), .d (.v (.int .i64 0)), .d (.v (.int .i64 0)), .d (.v (.int .i64 0))]) tok rfl rfl (by repeat (first | exact Plc.nil | apply Plc.cons rfl)) rfl (by repeat (first | exact Bld.nil _ | apply Bld.cons (cs := [.d _]) rfl rfl rfl rfl (by repeat (first | exact Spl.z _ | apply Spl.t | apply Spl.d)) | apply Bld.cons (cs := [.own _ _ _]) rfl rfl rfl rfl (by repeat (first | exact Spl.z _ | apply Spl.t | apply Spl.d)) | apply Bld.cons (cs := [.ptr _ _ _ _ _]) rfl rfl rfl rfl (by repeat (first | exact Spl.z _ | apply Spl.t | apply Spl.d)) | apply Bld.cons (cs := [.fn _ _]) rfl rfl rfl rfl (by repeat (first | exact Spl.z _ | apply Spl.t | apply Spl.d)) | apply Bld.cons (cs := _ :: _) rfl rfl rfl rfl (by repeat (first | exact Spl.z _ | apply Spl.t | apply Spl.d))))) ?_
  refine rw0 rfl w0 (bx_st (cs := _ :: _) tok rfl rfl rfl rfl rfl rfl rfl) ?_
  refine pa ?_
  refine nx ?_
  refine aw_weak (weak_adopt 12 rfl 213 2 (kb := 4) (j := 1) rfl rfl (by repeat (first | exact Spl.z _ | apply Spl.t | apply Spl.d))) ?_
  refine aw_weak (weak_nest0 13 (k := 12) 2 1 cArbor_ rfl rfl) ?_
  refine aw_weak (weak_adopt 14 rfl 215 4 (kb := 4) (j := 2) rfl rfl (by repeat (first | exact Spl.z _ | apply Spl.t | apply Spl.d))) ?_
  refine aw_weak (weak_adopt 15 rfl 147 3 (kb := 4) (j := 9) rfl rfl (by repeat (first | exact Spl.z _ | apply Spl.t | apply Spl.d))) ?_
  refine aw_weak (weak_adopt 16 rfl 179 3 (kb := 4) (j := 10) rfl rfl (by repeat (first | exact Spl.z _ | apply Spl.t | apply Spl.d))) ?_
  refine aw_weak (weak_adopt 17 rfl 2 1 (kb := 4) (j := 12) rfl rfl (by repeat (first | exact Spl.z _ | apply Spl.t | apply Spl.d))) ?_
  refine aw_weak (weak_adopt 18 rfl 2 1 (kb := 4) (j := 19) rfl rfl (by repeat (first | exact Spl.z _ | apply Spl.t | apply Spl.d))) ?_
  refine aw_ret ?_
  refine block_r ?_
  cases h1
  replace h0 := orE_s h0
  refine then_r ?_
  cases h0
  exact retK_ (rs := [.cell 4 53, .tmp 5]) [12, 13, 14, 15, 16, 17, 18] rfl
  rintro v6 rfl
  replace h0 := orE_f h0
  refine sq [0,1,2] ?_
  refine rl rfl w0 rfl (bx_ldN tok rfl rfl rfl rfl) ?_
  refine rw0 rfl w0 (bx_st (cs := _ :: _) tok rfl rfl rfl rfl rfl rfl rfl) ?_
  refine pa ?_
  refine nx ?_
  refine aw_ret ?_
  cases h0
  exact retK_ (rs := [.cell 4 53, .tmp 5]) [5, 11, 6, 7, 8, 9, 10] rfl

theorem l_eqInt64S_c {p0 : List Int} {p1 : List Int} {r : Bool} (h0 : l_eqInt64S_m p0 p1 = some r) : FnC Tryz.prog 83 [] [.d (.sl (List.map cI p0)), .d (.sl (List.map cI p1))] [] (.d (.v (.bool r))) := by
  refine fnc_intro (T := tt) (N := 26) tok Tryz.func83 rfl rfl (by kernel_rfl) rfl rfl ?_
  unfold l_eqInt64S_m at h0
  refine sq [0] ?_
  refine pa ?_
  refine nx ?_
  refine aw_seq ?_
  refine sq [0,1,2,3,4] ?_
  refine pm ?_
  refine rp rfl w0 rfl (pu_len_map tok rfl rfl rfl) ?_
  refine pm ?_
  refine rp rfl w0 rfl (pu_len_map tok rfl rfl rfl) ?_
  refine rp rfl w0 rfl (pu_neq rfl rfl) ?_
  refine nx ?_
  refine aw_if h0 rfl (fun hc h0 => ?_) (fun hc h0 => ?_)
  refine sq [0] ?_
  refine pa ?_
  refine nx ?_
  refine aw_ret ?_
  refine then_r ?_
  cases h0
  exact ret0_ (rs := [.tmp 4]) rfl
  refine sk ?_
  obtain ⟨v7x, h1, h0⟩ := bnd h0
  refine aw_cutE v7x (fun v7 => ⟨(fun _ => .dead), lks [.no, .no, .no]⟩) ?_ ?_
  refine sq [0] ?_
  refine pa ?_
  refine nx ?_
  refine aw_block ?_
  refine aw_loopM (fun s4 => ⟨updA (updA (updA ((fun _ => .dead)) 0 (.d (.sl (List.map cI p0)))) 1 (.d (.sl (List.map cI p1)))) 5 (.d (.v (.int .i64 s4))), lks [.no, .no, .no]⟩) h1 ?_ (fun s4 y h2 => ?_)
  exact wk [0, 1, 2]
  refine aw_seq ?_
  refine sq [0,1,2,3] ?_
  refine pm ?_
  refine pm ?_
  refine rp rfl w0 rfl (pu_len_map tok rfl rfl rfl) ?_
  refine rp rfl w0 rfl (pu_lss rfl rfl) ?_
  refine nx ?_
  refine aw_if h2 rfl (fun hc h2 => ?_) (fun hc h2 => ?_)
  refine sk ?_
  refine aw_seq ?_
  refine aw_block ?_
  refine aw_seq ?_
  refine aw_region_draw (is := [0, 1, 2, 3, 4, 5, 6, 7, 8]) [0, 0, 3, 7, 0, 0, 48, 112, 255] follows (by kernel_rfl) ?_
  refine tpm ?_
  refine tpm ?_
  obtain ⟨v5, hv5, h2⟩ := bnd h2
  refine rt_p rfl w0 rfl (sl_ix tok hv5 rfl rfl rfl rfl rfl rfl) ?_
  refine tlr tok ?_
  refine tpm ?_
  refine tpm ?_
  obtain ⟨v6, hv6, h2⟩ := bnd h2
  refine rt_p rfl w0 rfl (sl_ix tok hv6 rfl rfl rfl rfl rfl rfl) ?_
  refine tlr tok ?_
  refine rt_p rfl w0 rfl (pu_neq rfl rfl) ?_
  refine rt_nil ?_
  refine ⟨by kernel_rfl, ?_⟩
  refine then_n ?_
  refine aw_if h2 rfl (fun hc h2 => ?_) (fun hc h2 => ?_)
  refine sq [0] ?_
  refine pa ?_
  refine nx ?_
  refine aw_ret ?_
  refine block_r ?_
  refine then_r ?_
  cases h2
  refine loop_r ⟨_, rfl, fun e => ?_⟩
  subst e
  refine block_r ?_
  replace h0 := orE_s h0
  refine then_r ?_
  cases h0
  exact ret0_ (rs := [.tmp 4]) rfl
  refine aw_skip ?_
  refine block_n ?_
  refine then_n ?_
  refine sr [0,1,2] ?_
  refine pm ?_
  refine rp rfl w0 rfl (pw_add rfl rfl) ?_
  refine pa ?_
  refine ra_nil ?_
  refine loop_n ?_
  cases h2
  refine ⟨_, rfl, ?_⟩
  exact wk [0, 1, 2]
  refine aw_exit ?_
  refine then_e ?_
  cases h2
  refine loop_x ⟨_, rfl, fun e => ?_⟩
  subst e
  refine block_hit ?_
  refine then_n ?_
  refine ⟨_, rfl, ?_⟩
  exact wk [0, 1, 2]
  rintro v7 rfl
  replace h0 := orE_f h0
  refine sq [0] ?_
  refine pa ?_
  refine nx ?_
  refine aw_ret ?_
  cases h0
  exact ret0_ (rs := [.tmp 4]) rfl

theorem l_eqArbor_c {p0 : Arbor_} {p1 : Arbor_} {r : Bool} (h0 : l_eqArbor_m p0 p1 = some r) : FnC Tryz.prog 202 [] [.agg [.d (.v (.string p0.Name)), .d (.sl (List.map cI p0.Wheels))], .agg [.d (.v (.string p1.Name)), .d (.sl (List.map cI p1.Wheels))]] [] (.d (.v (.bool r))) := by
  refine fnc_intro (T := tt) (N := 16) tok Tryz.func202 rfl rfl (by kernel_rfl) rfl rfl ?_
  unfold l_eqArbor_m at h0
  refine sq [0,1,2] ?_
  refine rs rfl w0 rfl (st_box 3 (cs := _ :: _) rfl rfl rfl) ?_
  refine rs rfl w0 rfl (st_box 4 (cs := _ :: _) rfl rfl rfl) ?_
  refine pa ?_
  refine nx ?_
  refine aw_seq ?_
  refine sq [0,1,2,3,4] ?_
  refine fa tok ?_
  refine ld tok ?_
  refine fa tok ?_
  refine ld tok ?_
  refine rp rfl w0 rfl (pu_sneq rfl rfl) ?_
  refine nx ?_
  refine aw_if h0 rfl (fun hc h0 => ?_) (fun hc h0 => ?_)
  refine sq [0] ?_
  refine pa ?_
  refine nx ?_
  refine aw_ret ?_
  refine then_r ?_
  cases h0
  exact ret0_ (rs := [.tmp 4]) rfl
  refine sk ?_
  refine aw_seq ?_
  refine sq [0,1,2,3,4,5] ?_
  refine fa tok ?_
  refine ld tok ?_
  refine fa tok ?_
  refine ld tok ?_
  obtain ⟨v1, hv1, h0⟩ := bnd h0
  refine rs rfl w0 rfl (c_call 5 (l_eqInt64S_c hv1) rfl rfl rfl) ?_
  refine rp rfl w0 rfl (pu_not rfl) ?_
  refine nx ?_
  refine aw_ifB h0 rfl (fun hc h0 => ?_) (fun hc h0 => ?_)
  refine sq [0] ?_
  refine pa ?_
  refine nx ?_
  refine aw_ret ?_
  refine then_r ?_
  cases h0
  exact ret0_ (rs := [.tmp 4]) rfl
  refine sk ?_
  refine sq [0] ?_
  refine pa ?_
  refine nx ?_
  refine aw_ret ?_
  cases h0
  exact ret0_ (rs := [.tmp 4]) rfl

theorem l_eqArborS_c {p0 : List Arbor_} {p1 : List Arbor_} {r : Bool} (h0 : l_eqArborS_m p0 p1 = some r) : FnC Tryz.prog 140 [] [.d (.sl (List.map cArbor_ p0)), .d (.sl (List.map cArbor_ p1))] [] (.d (.v (.bool r))) := by
  refine fnc_intro (T := tt) (N := 27) tok Tryz.func140 rfl rfl (by kernel_rfl) rfl rfl ?_
  unfold l_eqArborS_m at h0
  refine sq [0] ?_
  refine pa ?_
  refine nx ?_
  refine aw_seq ?_
  refine sq [0,1,2,3,4] ?_
  refine pm ?_
  refine rp rfl w0 rfl (pu_len_map tok rfl rfl rfl) ?_
  refine pm ?_
  refine rp rfl w0 rfl (pu_len_map tok rfl rfl rfl) ?_
  refine rp rfl w0 rfl (pu_neq rfl rfl) ?_
  refine nx ?_
  refine aw_if h0 rfl (fun hc h0 => ?_) (fun hc h0 => ?_)
  refine sq [0] ?_
  refine pa ?_
  refine nx ?_
  refine aw_ret ?_
  refine then_r ?_
  cases h0
  exact ret0_ (rs := [.tmp 4]) rfl
  refine sk ?_
  obtain ⟨v9x, h1, h0⟩ := bnd h0
  refine aw_cutE v9x (fun v9 => ⟨(fun _ => .dead), lks [.no, .no, .no]⟩) ?_ ?_
  refine sq [0] ?_
  refine pa ?_
  refine nx ?_
  refine aw_block ?_
  refine aw_loopM (fun s5 => ⟨updA (updA (updA ((fun _ => .dead)) 0 (.d (.sl (List.map cArbor_ p0)))) 1 (.d (.sl (List.map cArbor_ p1)))) 5 (.d (.v (.int .i64 s5))), lks [.no, .no, .no]⟩) h1 ?_ (fun s5 y h2 => ?_)
  exact wk [0, 1, 2]
  refine aw_seq ?_
  refine sq [0,1,2,3] ?_
  refine pm ?_
  refine pm ?_
  refine rp rfl w0 rfl (pu_len_map tok rfl rfl rfl) ?_
  refine rp rfl w0 rfl (pu_lss rfl rfl) ?_
  refine nx ?_
  refine aw_if h2 rfl (fun hc h2 => ?_) (fun hc h2 => ?_)
  refine sk ?_
  refine aw_seq ?_
  refine aw_block ?_
  refine aw_seq ?_
  refine aw_region_draw (is := [0, 1, 2, 3, 4, 5, 6, 7, 8, 9]) [0, 0, 3, 7, 0, 0, 48, 112, 255, 511] follows (by kernel_rfl) ?_
  refine tpm ?_
  refine tpm ?_
  obtain ⟨v6, hv6, h2⟩ := bnd h2
  refine rt_p rfl w0 rfl (sl_ix tok hv6 rfl rfl rfl rfl rfl rfl) ?_
  refine rt_p rfl w0 rfl (pu_load_refN tok rfl rfl rfl (by repeat (first | exact SegD.z _ | apply SegD.t))) ?_
  refine tpm ?_
  refine tpm ?_
  obtain ⟨v7, hv7, h2⟩ := bnd h2
  refine rt_p rfl w0 rfl (sl_ix tok hv7 rfl rfl rfl rfl rfl rfl) ?_
  refine rt_p rfl w0 rfl (pu_load_refN tok rfl rfl rfl (by repeat (first | exact SegD.z _ | apply SegD.t))) ?_
  obtain ⟨v8, hv8, h2⟩ := bnd h2
  refine rt_c rfl w0 rfl (b_call 3 (l_eqArbor_c hv8) rfl rfl rfl) ?_
  refine rt_p rfl w0 rfl (pu_not rfl) ?_
  refine rt_nil ?_
  refine ⟨by kernel_rfl, ?_⟩
  refine then_n ?_
  refine aw_ifB h2 rfl (fun hc h2 => ?_) (fun hc h2 => ?_)
  refine sq [0] ?_
  refine pa ?_
  refine nx ?_
  refine aw_ret ?_
  refine block_r ?_
  refine then_r ?_
  cases h2
  refine loop_r ⟨_, rfl, fun e => ?_⟩
  subst e
  refine block_r ?_
  replace h0 := orE_s h0
  refine then_r ?_
  cases h0
  exact ret0_ (rs := [.tmp 4]) rfl
  refine aw_skip ?_
  refine block_n ?_
  refine then_n ?_
  refine sr [0,1,2] ?_
  refine pm ?_
  refine rp rfl w0 rfl (pw_add rfl rfl) ?_
  refine pa ?_
  refine ra_nil ?_
  refine loop_n ?_
  cases h2
  refine ⟨_, rfl, ?_⟩
  exact wk [0, 1, 2]
  refine aw_exit ?_
  refine then_e ?_
  cases h2
  refine loop_x ⟨_, rfl, fun e => ?_⟩
  subst e
  refine block_hit ?_
  refine then_n ?_
  refine ⟨_, rfl, ?_⟩
  exact wk [0, 1, 2]
  rintro v9 rfl
  replace h0 := orE_f h0
  refine sq [0] ?_
  refine pa ?_
  refine nx ?_
  refine aw_ret ?_
  cases h0
  exact ret0_ (rs := [.tmp 4]) rfl

theorem l_eqMesh_c {p0 : Mesh_} {p1 : Mesh_} {r : Bool} (h0 : l_eqMesh_m p0 p1 = some r) : FnC Tryz.prog 203 [] [.agg [.d (.v (.int .i64 p0.A)), .d (.v (.int .i64 p0.WheelA)), .d (.v (.int .i64 p0.B)), .d (.v (.int .i64 p0.WheelB))], .agg [.d (.v (.int .i64 p1.A)), .d (.v (.int .i64 p1.WheelA)), .d (.v (.int .i64 p1.B)), .d (.v (.int .i64 p1.WheelB))]] [] (.d (.v (.bool r))) := by
  refine fnc_intro (T := tt) (N := 25) tok Tryz.func203 rfl rfl (by kernel_rfl) rfl rfl ?_
  unfold l_eqMesh_m at h0
  refine sq [0,1,2] ?_
  refine rs rfl w0 rfl (st_box 3 (cs := _ :: _) rfl rfl rfl) ?_
  refine rs rfl w0 rfl (st_box 4 (cs := _ :: _) rfl rfl rfl) ?_
  refine pa ?_
  refine nx ?_
  refine aw_seq ?_
  refine sq [0,1,2,3,4] ?_
  refine fa tok ?_
  refine ld tok ?_
  refine fa tok ?_
  refine ld tok ?_
  refine rp rfl w0 rfl (pu_neq rfl rfl) ?_
  refine nx ?_
  refine aw_if h0 rfl (fun hc h0 => ?_) (fun hc h0 => ?_)
  refine sq [0] ?_
  refine pa ?_
  refine nx ?_
  refine aw_ret ?_
  refine then_r ?_
  cases h0
  exact ret0_ (rs := [.tmp 4]) rfl
  refine sk ?_
  refine aw_seq ?_
  refine sq [0,1,2,3,4] ?_
  refine fa tok ?_
  refine ld tok ?_
  refine fa tok ?_
  refine ld tok ?_
  refine rp rfl w0 rfl (pu_neq rfl rfl) ?_
  refine nx ?_
  refine aw_if h0 rfl (fun hc h0 => ?_) (fun hc h0 => ?_)
  refine sq [0] ?_
  refine pa ?_
  refine nx ?_
  refine aw_ret ?_
  refine then_r ?_
  cases h0
  exact ret0_ (rs := [.tmp 4]) rfl
  refine sk ?_
  refine aw_seq ?_
  refine sq [0,1,2,3,4] ?_
  refine fa tok ?_
  refine ld tok ?_
  refine fa tok ?_
  refine ld tok ?_
  refine rp rfl w0 rfl (pu_neq rfl rfl) ?_
  refine nx ?_
  refine aw_if h0 rfl (fun hc h0 => ?_) (fun hc h0 => ?_)
  refine sq [0] ?_
  refine pa ?_
  refine nx ?_
  refine aw_ret ?_
  refine then_r ?_
  cases h0
  exact ret0_ (rs := [.tmp 4]) rfl
  refine sk ?_
  refine aw_seq ?_
  refine sq [0,1,2,3,4] ?_
  refine fa tok ?_
  refine ld tok ?_
  refine fa tok ?_
  refine ld tok ?_
  refine rp rfl w0 rfl (pu_neq rfl rfl) ?_
  refine nx ?_
  refine aw_if h0 rfl (fun hc h0 => ?_) (fun hc h0 => ?_)
  refine sq [0] ?_
  refine pa ?_
  refine nx ?_
  refine aw_ret ?_
  refine then_r ?_
  cases h0
  exact ret0_ (rs := [.tmp 4]) rfl
  refine sk ?_
  refine sq [0] ?_
  refine pa ?_
  refine nx ?_
  refine aw_ret ?_
  cases h0
  exact ret0_ (rs := [.tmp 4]) rfl

theorem l_eqMeshS_c {p0 : List Mesh_} {p1 : List Mesh_} {r : Bool} (h0 : l_eqMeshS_m p0 p1 = some r) : FnC Tryz.prog 141 [] [.d (.sl (List.map cMesh_ p0)), .d (.sl (List.map cMesh_ p1))] [] (.d (.v (.bool r))) := by
  refine fnc_intro (T := tt) (N := 27) tok Tryz.func141 rfl rfl (by kernel_rfl) rfl rfl ?_
  unfold l_eqMeshS_m at h0
  refine sq [0] ?_
  refine pa ?_
  refine nx ?_
  refine aw_seq ?_
  refine sq [0,1,2,3,4] ?_
  refine pm ?_
  refine rp rfl w0 rfl (pu_len_map tok rfl rfl rfl) ?_
  refine pm ?_
  refine rp rfl w0 rfl (pu_len_map tok rfl rfl rfl) ?_
  refine rp rfl w0 rfl (pu_neq rfl rfl) ?_
  refine nx ?_
  refine aw_if h0 rfl (fun hc h0 => ?_) (fun hc h0 => ?_)
  refine sq [0] ?_
  refine pa ?_
  refine nx ?_
  refine aw_ret ?_
  refine then_r ?_
  cases h0
  exact ret0_ (rs := [.tmp 4]) rfl
  refine sk ?_
  obtain ⟨v9x, h1, h0⟩ := bnd h0
  refine aw_cutE v9x (fun v9 => ⟨(fun _ => .dead), lks [.no, .no, .no]⟩) ?_ ?_
  refine sq [0] ?_
  refine pa ?_
  refine nx ?_
  refine aw_block ?_
  refine aw_loopM (fun s5 => ⟨updA (updA (updA ((fun _ => .dead)) 0 (.d (.sl (List.map cMesh_ p0)))) 1 (.d (.sl (List.map cMesh_ p1)))) 5 (.d (.v (.int .i64 s5))), lks [.no, .no, .no]⟩) h1 ?_ (fun s5 y h2 => ?_)
  exact wk [0, 1, 2]
  refine aw_seq ?_
  refine sq [0,1,2,3] ?_
  refine pm ?_
  refine pm ?_
  refine rp rfl w0 rfl (pu_len_map tok rfl rfl rfl) ?_
  refine rp rfl w0 rfl (pu_lss rfl rfl) ?_
  refine nx ?_
  refine aw_if h2 rfl (fun hc h2 => ?_) (fun hc h2 => ?_)
  refine sk ?_
  refine aw_seq ?_
  refine aw_block ?_
  refine aw_seq ?_
  refine aw_region_draw (is := [0, 1, 2, 3, 4, 5, 6, 7, 8, 9]) [0, 0, 3, 7, 0, 0, 48, 112, 255, 511] follows (by kernel_rfl) ?_
  refine tpm ?_
  refine tpm ?_
  obtain ⟨v6, hv6, h2⟩ := bnd h2
  refine rt_p rfl w0 rfl (sl_ix tok hv6 rfl rfl rfl rfl rfl rfl) ?_
  refine rt_p rfl w0 rfl (pu_load_refN tok rfl rfl rfl (by repeat (first | exact SegD.z _ | apply SegD.t))) ?_
  refine tpm ?_
  refine tpm ?_
  obtain ⟨v7, hv7, h2⟩ := bnd h2
  refine rt_p rfl w0 rfl (sl_ix tok hv7 rfl rfl rfl rfl rfl rfl) ?_
  refine rt_p rfl w0 rfl (pu_load_refN tok rfl rfl rfl (by repeat (first | exact SegD.z _ | apply SegD.t))) ?_
  obtain ⟨v8, hv8, h2⟩ := bnd h2
  refine rt_c rfl w0 rfl (b_call 3 (l_eqMesh_c hv8) rfl rfl rfl) ?_
  refine rt_p rfl w0 rfl (pu_not rfl) ?_
  refine rt_nil ?_
  refine ⟨by kernel_rfl, ?_⟩
  refine then_n ?_
  refine aw_ifB h2 rfl (fun hc h2 => ?_) (fun hc h2 => ?_)
  refine sq [0] ?_
  refine pa ?_
  refine nx ?_
  refine aw_ret ?_
  refine block_r ?_
  refine then_r ?_
  cases h2
  refine loop_r ⟨_, rfl, fun e => ?_⟩
  subst e
  refine block_r ?_
  replace h0 := orE_s h0
  refine then_r ?_
  cases h0
  exact ret0_ (rs := [.tmp 4]) rfl
  refine aw_skip ?_
  refine block_n ?_
  refine then_n ?_
  refine sr [0,1,2] ?_
  refine pm ?_
  refine rp rfl w0 rfl (pw_add rfl rfl) ?_
  refine pa ?_
  refine ra_nil ?_
  refine loop_n ?_
  cases h2
  refine ⟨_, rfl, ?_⟩
  exact wk [0, 1, 2]
  refine aw_exit ?_
  refine then_e ?_
  cases h2
  refine loop_x ⟨_, rfl, fun e => ?_⟩
  subst e
  refine block_hit ?_
  refine then_n ?_
  refine ⟨_, rfl, ?_⟩
  exact wk [0, 1, 2]
  rintro v9 rfl
  replace h0 := orE_f h0
  refine sq [0] ?_
  refine pa ?_
  refine nx ?_
  refine aw_ret ?_
  cases h0
  exact ret0_ (rs := [.tmp 4]) rfl

theorem l_eqWorks_c {p0 : Works_} {p1 : Works_} {r : Bool} (h0 : l_eqWorks_m p0 p1 = some r) : FnC Tryz.prog 81 [] [.agg [.d (.sl (List.map cArbor_ p0.Arbors)), .d (.sl (List.map cMesh_ p0.Meshes))], .agg [.d (.sl (List.map cArbor_ p1.Arbors)), .d (.sl (List.map cMesh_ p1.Meshes))]] [] (.d (.v (.bool r))) := by
  refine fnc_intro (T := tt) (N := 17) tok Tryz.func81 rfl rfl (by kernel_rfl) rfl rfl ?_
  unfold l_eqWorks_m at h0
  refine sq [0,1,2] ?_
  refine rs rfl w0 rfl (st_box 3 (cs := _ :: _) rfl rfl rfl) ?_
  refine rs rfl w0 rfl (st_box 4 (cs := _ :: _) rfl rfl rfl) ?_
  refine pa ?_
  refine nx ?_
  refine aw_seq ?_
  refine sq [0,1,2,3,4,5] ?_
  refine fa tok ?_
  refine ld tok ?_
  refine fa tok ?_
  refine ld tok ?_
  obtain ⟨v1, hv1, h0⟩ := bnd h0
  refine rs rfl w0 rfl (c_call 5 (l_eqArborS_c hv1) rfl rfl rfl) ?_
  refine rp rfl w0 rfl (pu_not rfl) ?_
  refine nx ?_
  refine aw_ifB h0 rfl (fun hc h0 => ?_) (fun hc h0 => ?_)
  refine sq [0] ?_
  refine pa ?_
  refine nx ?_
  refine aw_ret ?_
  refine then_r ?_
  cases h0
  exact ret0_ (rs := [.tmp 4]) rfl
  refine sk ?_
  refine aw_seq ?_
  refine sq [0,1,2,3,4,5] ?_
  refine fa tok ?_
  refine ld tok ?_
  refine fa tok ?_
  refine ld tok ?_
  obtain ⟨v2, hv2, h0⟩ := bnd h0
  refine rs rfl w0 rfl (c_call 5 (l_eqMeshS_c hv2) rfl rfl rfl) ?_
  refine rp rfl w0 rfl (pu_not rfl) ?_
  refine nx ?_
  refine aw_ifB h0 rfl (fun hc h0 => ?_) (fun hc h0 => ?_)
  refine sq [0] ?_
  refine pa ?_
  refine nx ?_
  refine aw_ret ?_
  refine then_r ?_
  cases h0
  exact ret0_ (rs := [.tmp 4]) rfl
  refine sk ?_
  refine sq [0] ?_
  refine pa ?_
  refine nx ?_
  refine aw_ret ?_
  cases h0
  exact ret0_ (rs := [.tmp 4]) rfl

theorem l_eqMonth_c {p0 : Month_} {p1 : Month_} {r : Bool} (h0 : l_eqMonth_m p0 p1 = some r) : FnC Tryz.prog 204 [] [.agg [.d (.v (.string p0.Name)), .d (.v (.int .i64 p0.Days)), .d (.v (.int .i64 p0.Leap))], .agg [.d (.v (.string p1.Name)), .d (.v (.int .i64 p1.Days)), .d (.v (.int .i64 p1.Leap))]] [] (.d (.v (.bool r))) := by
  refine fnc_intro (T := tt) (N := 20) tok Tryz.func204 rfl rfl (by kernel_rfl) rfl rfl ?_
  unfold l_eqMonth_m at h0
  refine sq [0,1,2] ?_
  refine rs rfl w0 rfl (st_box 3 (cs := _ :: _) rfl rfl rfl) ?_
  refine rs rfl w0 rfl (st_box 4 (cs := _ :: _) rfl rfl rfl) ?_
  refine pa ?_
  refine nx ?_
  refine aw_seq ?_
  refine sq [0,1,2,3,4] ?_
  refine fa tok ?_
  refine ld tok ?_
  refine fa tok ?_
  refine ld tok ?_
  refine rp rfl w0 rfl (pu_sneq rfl rfl) ?_
  refine nx ?_
  refine aw_if h0 rfl (fun hc h0 => ?_) (fun hc h0 => ?_)
  refine sq [0] ?_
  refine pa ?_
  refine nx ?_
  refine aw_ret ?_
  refine then_r ?_
  cases h0
  exact ret0_ (rs := [.tmp 4]) rfl
  refine sk ?_
  refine aw_seq ?_
  refine sq [0,1,2,3,4] ?_
  refine fa tok ?_
  refine ld tok ?_
  refine fa tok ?_
  refine ld tok ?_
  refine rp rfl w0 rfl (pu_neq rfl rfl) ?_
  refine nx ?_
  refine aw_if h0 rfl (fun hc h0 => ?_) (fun hc h0 => ?_)
  refine sq [0] ?_
  refine pa ?_
  refine nx ?_
  refine aw_ret ?_
  refine then_r ?_
  cases h0
  exact ret0_ (rs := [.tmp 4]) rfl
  refine sk ?_
  refine aw_seq ?_
  refine sq [0,1,2,3,4] ?_
  refine fa tok ?_
  refine ld tok ?_
  refine fa tok ?_
  refine ld tok ?_
  refine rp rfl w0 rfl (pu_neq rfl rfl) ?_
  refine nx ?_
  refine aw_if h0 rfl (fun hc h0 => ?_) (fun hc h0 => ?_)
  refine sq [0] ?_
  refine pa ?_
  refine nx ?_
  refine aw_ret ?_
  refine then_r ?_
  cases h0
  exact ret0_ (rs := [.tmp 4]) rfl
  refine sk ?_
  refine sq [0] ?_
  refine pa ?_
  refine nx ?_
  refine aw_ret ?_
  cases h0
  exact ret0_ (rs := [.tmp 4]) rfl

theorem l_eqMonthS_c {p0 : List Month_} {p1 : List Month_} {r : Bool} (h0 : l_eqMonthS_m p0 p1 = some r) : FnC Tryz.prog 142 [] [.d (.sl (List.map cMonth_ p0)), .d (.sl (List.map cMonth_ p1))] [] (.d (.v (.bool r))) := by
  refine fnc_intro (T := tt) (N := 27) tok Tryz.func142 rfl rfl (by kernel_rfl) rfl rfl ?_
  unfold l_eqMonthS_m at h0
  refine sq [0] ?_
  refine pa ?_
  refine nx ?_
  refine aw_seq ?_
  refine sq [0,1,2,3,4] ?_
  refine pm ?_
  refine rp rfl w0 rfl (pu_len_map tok rfl rfl rfl) ?_
  refine pm ?_
  refine rp rfl w0 rfl (pu_len_map tok rfl rfl rfl) ?_
  refine rp rfl w0 rfl (pu_neq rfl rfl) ?_
  refine nx ?_
  refine aw_if h0 rfl (fun hc h0 => ?_) (fun hc h0 => ?_)
  refine sq [0] ?_
  refine pa ?_
  refine nx ?_
  refine aw_ret ?_
  refine then_r ?_
  cases h0
  exact ret0_ (rs := [.tmp 4]) rfl
  refine sk ?_
  obtain ⟨v9x, h1, h0⟩ := bnd h0
  refine aw_cutE v9x (fun v9 => ⟨(fun _ => .dead), lks [.no, .no, .no]⟩) ?_ ?_
  refine sq [0] ?_
  refine pa ?_
  refine nx ?_
  refine aw_block ?_
  refine aw_loopM (fun s5 => ⟨updA (updA (updA ((fun _ => .dead)) 0 (.d (.sl (List.map cMonth_ p0)))) 1 (.d (.sl (List.map cMonth_ p1)))) 5 (.d (.v (.int .i64 s5))), lks [.no, .no, .no]⟩) h1 ?_ (fun s5 y h2 => ?_)
  exact wk [0, 1, 2]
  refine aw_seq ?_
  refine sq [0,1,2,3] ?_
  refine pm ?_
  refine pm ?_
  refine rp rfl w0 rfl (pu_len_map tok rfl rfl rfl) ?_
  refine rp rfl w0 rfl (pu_lss rfl rfl) ?_
  refine nx ?_
  refine aw_if h2 rfl (fun hc h2 => ?_) (fun hc h2 => ?_)
  refine sk ?_
  refine aw_seq ?_
  refine aw_block ?_
  refine aw_seq ?_
  refine aw_region_draw (is := [0, 1, 2, 3, 4, 5, 6, 7, 8, 9]) [0, 0, 3, 7, 0, 0, 48, 112, 255, 511] follows (by kernel_rfl) ?_
  refine tpm ?_
  refine tpm ?_
  obtain ⟨v6, hv6, h2⟩ := bnd h2
  refine rt_p rfl w0 rfl (sl_ix tok hv6 rfl rfl rfl rfl rfl rfl) ?_
  refine rt_p rfl w0 rfl (pu_load_refN tok rfl rfl rfl (by repeat (first | exact SegD.z _ | apply SegD.t))) ?_
  refine tpm ?_
  refine tpm ?_
  obtain ⟨v7, hv7, h2⟩ := bnd h2
  refine rt_p rfl w0 rfl (sl_ix tok hv7 rfl rfl rfl rfl rfl rfl) ?_
  refine rt_p rfl w0 rfl (pu_load_refN tok rfl rfl rfl (by repeat (first | exact SegD.z _ | apply SegD.t))) ?_
  obtain ⟨v8, hv8, h2⟩ := bnd h2
  refine rt_c rfl w0 rfl (b_call 3 (l_eqMonth_c hv8) rfl rfl rfl) ?_
  refine rt_p rfl w0 rfl (pu_not rfl) ?_
  refine rt_nil ?_
  refine ⟨by kernel_rfl, ?_⟩
  refine then_n ?_
  refine aw_ifB h2 rfl (fun hc h2 => ?_) (fun hc h2 => ?_)
  refine sq [0] ?_
  refine pa ?_
  refine nx ?_
  refine aw_ret ?_
  refine block_r ?_
  refine then_r ?_
  cases h2
  refine loop_r ⟨_, rfl, fun e => ?_⟩
  subst e
  refine block_r ?_
  replace h0 := orE_s h0
  refine then_r ?_
  cases h0
  exact ret0_ (rs := [.tmp 4]) rfl
  refine aw_skip ?_
  refine block_n ?_
  refine then_n ?_
  refine sr [0,1,2] ?_
  refine pm ?_
  refine rp rfl w0 rfl (pw_add rfl rfl) ?_
  refine pa ?_
  refine ra_nil ?_
  refine loop_n ?_
  cases h2
  refine ⟨_, rfl, ?_⟩
  exact wk [0, 1, 2]
  refine aw_exit ?_
  refine then_e ?_
  cases h2
  refine loop_x ⟨_, rfl, fun e => ?_⟩
  subst e
  refine block_hit ?_
  refine then_n ?_
  refine ⟨_, rfl, ?_⟩
  exact wk [0, 1, 2]
  rintro v9 rfl
  replace h0 := orE_f h0
  refine sq [0] ?_
  refine pa ?_
  refine nx ?_
  refine aw_ret ?_
  cases h0
  exact ret0_ (rs := [.tmp 4]) rfl

theorem l_eqLeapRule_c {p0 : LeapRule_} {p1 : LeapRule_} {r : Bool} (h0 : l_eqLeapRule_m p0 p1 = some r) : FnC Tryz.prog 205 [] [.agg [.d (.v (.int .i64 p0.Every)), .d (.v (.int .i64 p0.Rest)), .d (.v (.bool p0.Leap))], .agg [.d (.v (.int .i64 p1.Every)), .d (.v (.int .i64 p1.Rest)), .d (.v (.bool p1.Leap))]] [] (.d (.v (.bool r))) := by
  refine fnc_intro (T := tt) (N := 20) tok Tryz.func205 rfl rfl (by kernel_rfl) rfl rfl ?_
  unfold l_eqLeapRule_m at h0
  refine sq [0,1,2] ?_
  refine rs rfl w0 rfl (st_box 3 (cs := _ :: _) rfl rfl rfl) ?_
  refine rs rfl w0 rfl (st_box 4 (cs := _ :: _) rfl rfl rfl) ?_
  refine pa ?_
  refine nx ?_
  refine aw_seq ?_
  refine sq [0,1,2,3,4] ?_
  refine fa tok ?_
  refine ld tok ?_
  refine fa tok ?_
  refine ld tok ?_
  refine rp rfl w0 rfl (pu_neq rfl rfl) ?_
  refine nx ?_
  refine aw_if h0 rfl (fun hc h0 => ?_) (fun hc h0 => ?_)
  refine sq [0] ?_
  refine pa ?_
  refine nx ?_
  refine aw_ret ?_
  refine then_r ?_
  cases h0
  exact ret0_ (rs := [.tmp 4]) rfl
  refine sk ?_
  refine aw_seq ?_
  refine sq [0,1,2,3,4] ?_
  refine fa tok ?_
  refine ld tok ?_
  refine fa tok ?_
  refine ld tok ?_
  refine rp rfl w0 rfl (pu_neq rfl rfl) ?_
  refine nx ?_
  refine aw_if h0 rfl (fun hc h0 => ?_) (fun hc h0 => ?_)
  refine sq [0] ?_
  refine pa ?_
  refine nx ?_
  refine aw_ret ?_
  refine then_r ?_
  cases h0
  exact ret0_ (rs := [.tmp 4]) rfl
  refine sk ?_
  refine aw_seq ?_
  refine sq [0,1,2,3,4] ?_
  refine fa tok ?_
  refine ld tok ?_
  refine fa tok ?_
  refine ld tok ?_
  refine rp rfl w0 rfl (pu_bneq tok rfl rfl rfl rfl) ?_
  refine nx ?_
  refine aw_ifB h0 rfl (fun hc h0 => ?_) (fun hc h0 => ?_)
  refine sq [0] ?_
  refine pa ?_
  refine nx ?_
  refine aw_ret ?_
  refine then_r ?_
  cases h0
  exact ret0_ (rs := [.tmp 4]) rfl
  refine sk ?_
  refine sq [0] ?_
  refine pa ?_
  refine nx ?_
  refine aw_ret ?_
  cases h0
  exact ret0_ (rs := [.tmp 4]) rfl

theorem l_eqLeapRuleS_c {p0 : List LeapRule_} {p1 : List LeapRule_} {r : Bool} (h0 : l_eqLeapRuleS_m p0 p1 = some r) : FnC Tryz.prog 143 [] [.d (.sl (List.map cLeapRule_ p0)), .d (.sl (List.map cLeapRule_ p1))] [] (.d (.v (.bool r))) := by
  refine fnc_intro (T := tt) (N := 27) tok Tryz.func143 rfl rfl (by kernel_rfl) rfl rfl ?_
  unfold l_eqLeapRuleS_m at h0
  refine sq [0] ?_
  refine pa ?_
  refine nx ?_
  refine aw_seq ?_
  refine sq [0,1,2,3,4] ?_
  refine pm ?_
  refine rp rfl w0 rfl (pu_len_map tok rfl rfl rfl) ?_
  refine pm ?_
  refine rp rfl w0 rfl (pu_len_map tok rfl rfl rfl) ?_
  refine rp rfl w0 rfl (pu_neq rfl rfl) ?_
  refine nx ?_
  refine aw_if h0 rfl (fun hc h0 => ?_) (fun hc h0 => ?_)
  refine sq [0] ?_
  refine pa ?_
  refine nx ?_
  refine aw_ret ?_
  refine then_r ?_
  cases h0
  exact ret0_ (rs := [.tmp 4]) rfl
  refine sk ?_
  obtain ⟨v9x, h1, h0⟩ := bnd h0
  refine aw_cutE v9x (fun v9 => ⟨(fun _ => .dead), lks [.no, .no, .no]⟩) ?_ ?_
  refine sq [0] ?_
  refine pa ?_
  refine nx ?_
  refine aw_block ?_
  refine aw_loopM (fun s5 => ⟨updA (updA (updA ((fun _ => .dead)) 0 (.d (.sl (List.map cLeapRule_ p0)))) 1 (.d (.sl (List.map cLeapRule_ p1)))) 5 (.d (.v (.int .i64 s5))), lks [.no, .no, .no]⟩) h1 ?_ (fun s5 y h2 => ?_)
  exact wk [0, 1, 2]
  refine aw_seq ?_
  refine sq [0,1,2,3] ?_
  refine pm ?_
  refine pm ?_
  refine rp rfl w0 rfl (pu_len_map tok rfl rfl rfl) ?_
  refine rp rfl w0 rfl (pu_lss rfl rfl) ?_
  refine nx ?_
  refine aw_if h2 rfl (fun hc h2 => ?_) (fun hc h2 => ?_)
  refine sk ?_
  refine aw_seq ?_
  refine aw_block ?_
  refine aw_seq ?_
  refine aw_region_draw (is := [0, 1, 2, 3, 4, 5, 6, 7, 8, 9]) [0, 0, 3, 7, 0, 0, 48, 112, 255, 511] follows (by kernel_rfl) ?_
  refine tpm ?_
  refine tpm ?_
  obtain ⟨v6, hv6, h2⟩ := bnd h2
  refine rt_p rfl w0 rfl (sl_ix tok hv6 rfl rfl rfl rfl rfl rfl) ?_
  refine rt_p rfl w0 rfl (pu_load_refN tok rfl rfl rfl (by repeat (first | exact SegD.z _ | apply SegD.t))) ?_
  refine tpm ?_
  refine tpm ?_
  obtain ⟨v7, hv7, h2⟩ := bnd h2
  refine rt_p rfl w0 rfl (sl_ix tok hv7 rfl rfl rfl rfl rfl rfl) ?_
  refine rt_p rfl w0 rfl (pu_load_refN tok rfl rfl rfl (by repeat (first | exact SegD.z _ | apply SegD.t))) ?_
  obtain ⟨v8, hv8, h2⟩ := bnd h2
  refine rt_c rfl w0 rfl (b_call 3 (l_eqLeapRule_c hv8) rfl rfl rfl) ?_
  refine rt_p rfl w0 rfl (pu_not rfl) ?_
  refine rt_nil ?_
  refine ⟨by kernel_rfl, ?_⟩
  refine then_n ?_
  refine aw_ifB h2 rfl (fun hc h2 => ?_) (fun hc h2 => ?_)
  refine sq [0] ?_
  refine pa ?_
  refine nx ?_
  refine aw_ret ?_
  refine block_r ?_
  refine then_r ?_
  cases h2
  refine loop_r ⟨_, rfl, fun e => ?_⟩
  subst e
  refine block_r ?_
  replace h0 := orE_s h0
  refine then_r ?_
  cases h0
  exact ret0_ (rs := [.tmp 4]) rfl
  refine aw_skip ?_
  refine block_n ?_
  refine then_n ?_
  refine sr [0,1,2] ?_
  refine pm ?_
  refine rp rfl w0 rfl (pw_add rfl rfl) ?_
  refine pa ?_
  refine ra_nil ?_
  refine loop_n ?_
  cases h2
  refine ⟨_, rfl, ?_⟩
  exact wk [0, 1, 2]
  refine aw_exit ?_
  refine then_e ?_
  cases h2
  refine loop_x ⟨_, rfl, fun e => ?_⟩
  subst e
  refine block_hit ?_
  refine then_n ?_
  refine ⟨_, rfl, ?_⟩
  exact wk [0, 1, 2]
  rintro v9 rfl
  replace h0 := orE_f h0
  refine sq [0] ?_
  refine pa ?_
  refine nx ?_
  refine aw_ret ?_
  cases h0
  exact ret0_ (rs := [.tmp 4]) rfl

theorem l_eqCalendar_c {p0 : Calendar_} {p1 : Calendar_} {r : Bool} (h0 : l_eqCalendar_m p0 p1 = some r) : FnC Tryz.prog 82 [] [.agg [.d (.v (.string p0.Name)), .d (.sl (List.map cMonth_ p0.Months)), .d (.sl (List.map cLeapRule_ p0.Rules)), .d (.v (.int .i64 p0.Week))], .agg [.d (.v (.string p1.Name)), .d (.sl (List.map cMonth_ p1.Months)), .d (.sl (List.map cLeapRule_ p1.Rules)), .d (.v (.int .i64 p1.Week))]] [] (.d (.v (.bool r))) := by
  refine fnc_intro (T := tt) (N := 27) tok Tryz.func82 rfl rfl (by kernel_rfl) rfl rfl ?_
  unfold l_eqCalendar_m at h0
  refine sq [0,1,2] ?_
  refine rs rfl w0 rfl (st_box 3 (cs := _ :: _) rfl rfl rfl) ?_
  refine rs rfl w0 rfl (st_box 4 (cs := _ :: _) rfl rfl rfl) ?_
  refine pa ?_
  refine nx ?_
  refine aw_seq ?_
  refine sq [0,1,2,3,4] ?_
  refine fa tok ?_
  refine ld tok ?_
  refine fa tok ?_
  refine ld tok ?_
  refine rp rfl w0 rfl (pu_sneq rfl rfl) ?_
  refine nx ?_
  refine aw_if h0 rfl (fun hc h0 => ?_) (fun hc h0 => ?_)
  refine sq [0] ?_
  refine pa ?_
  refine nx ?_
  refine aw_ret ?_
  refine then_r ?_
  cases h0
  exact ret0_ (rs := [.tmp 4]) rfl
  refine sk ?_
  refine aw_seq ?_
  refine sq [0,1,2,3,4,5] ?_
  refine fa tok ?_
  refine ld tok ?_
  refine fa tok ?_
  refine ld tok ?_
  obtain ⟨v1, hv1, h0⟩ := bnd h0
  refine rs rfl w0 rfl (c_call 5 (l_eqMonthS_c hv1) rfl rfl rfl) ?_
  refine rp rfl w0 rfl (pu_not rfl) ?_
  refine nx ?_
  refine aw_ifB h0 rfl (fun hc h0 => ?_) (fun hc h0 => ?_)
  refine sq [0] ?_
  refine pa ?_
  refine nx ?_
  refine aw_ret ?_
  refine then_r ?_
  cases h0
  exact ret0_ (rs := [.tmp 4]) rfl
  refine sk ?_
  refine aw_seq ?_
  refine sq [0,1,2,3,4,5] ?_
  refine fa tok ?_
  refine ld tok ?_
  refine fa tok ?_
  refine ld tok ?_
  obtain ⟨v2, hv2, h0⟩ := bnd h0
  refine rs rfl w0 rfl (c_call 5 (l_eqLeapRuleS_c hv2) rfl rfl rfl) ?_
  refine rp rfl w0 rfl (pu_not rfl) ?_
  refine nx ?_
  refine aw_ifB h0 rfl (fun hc h0 => ?_) (fun hc h0 => ?_)
  refine sq [0] ?_
  refine pa ?_
  refine nx ?_
  refine aw_ret ?_
  refine then_r ?_
  cases h0
  exact ret0_ (rs := [.tmp 4]) rfl
  refine sk ?_
  refine aw_seq ?_
  refine sq [0,1,2,3,4] ?_
  refine fa tok ?_
  refine ld tok ?_
  refine fa tok ?_
  refine ld tok ?_
  refine rp rfl w0 rfl (pu_neq rfl rfl) ?_
  refine nx ?_
  refine aw_if h0 rfl (fun hc h0 => ?_) (fun hc h0 => ?_)
  refine sq [0] ?_
  refine pa ?_
  refine nx ?_
  refine aw_ret ?_
  refine then_r ?_
  cases h0
  exact ret0_ (rs := [.tmp 4]) rfl
  refine sk ?_
  refine sq [0] ?_
  refine pa ?_
  refine nx ?_
  refine aw_ret ?_
  cases h0
  exact ret0_ (rs := [.tmp 4]) rfl

theorem l_eqMovement_c {p0 : Movement_} {p1 : Movement_} {r : Bool} (h0 : l_eqMovement_m p0 p1 = some r) : FnC Tryz.prog 40 [] [.agg [.d (.v (.string p0.Name)), .d (.sl (List.map cArbor_ p0.Works.Arbors)), .d (.sl (List.map cMesh_ p0.Works.Meshes)), .d (.v (.int .i64 p0.Minute)), .d (.v (.int .i64 p0.Hour)), .d (.v (.int .i64 p0.Escape)), .d (.v (.int .i64 p0.Teeth)), .d (.v (.int .i64 p0.Beats)), .d (.v (.string p0.Calendar.Name)), .d (.sl (List.map cMonth_ p0.Calendar.Months)), .d (.sl (List.map cLeapRule_ p0.Calendar.Rules)), .d (.v (.int .i64 p0.Calendar.Week)), .d (.sl (List.map cI p0.Cam)), .d (.v (.int .i64 p0.Strike))], .agg [.d (.v (.string p1.Name)), .d (.sl (List.map cArbor_ p1.Works.Arbors)), .d (.sl (List.map cMesh_ p1.Works.Meshes)), .d (.v (.int .i64 p1.Minute)), .d (.v (.int .i64 p1.Hour)), .d (.v (.int .i64 p1.Escape)), .d (.v (.int .i64 p1.Teeth)), .d (.v (.int .i64 p1.Beats)), .d (.v (.string p1.Calendar.Name)), .d (.sl (List.map cMonth_ p1.Calendar.Months)), .d (.sl (List.map cLeapRule_ p1.Calendar.Rules)), .d (.v (.int .i64 p1.Calendar.Week)), .d (.sl (List.map cI p1.Cam)), .d (.v (.int .i64 p1.Strike))]] [] (.d (.v (.bool r))) := by
  refine fnc_intro (T := tt) (N := 58) tok Tryz.func40 rfl rfl (by kernel_rfl) rfl rfl ?_
  unfold l_eqMovement_m at h0
  refine sq [0,1,2] ?_
  refine rs rfl w0 rfl (st_box 3 (cs := _ :: _) rfl rfl rfl) ?_
  refine rs rfl w0 rfl (st_box 4 (cs := _ :: _) rfl rfl rfl) ?_
  refine pa ?_
  refine nx ?_
  refine aw_seq ?_
  refine sq [0,1,2,3,4] ?_
  refine fa tok ?_
  refine ld tok ?_
  refine fa tok ?_
  refine ld tok ?_
  refine rp rfl w0 rfl (pu_sneq rfl rfl) ?_
  refine nx ?_
  refine aw_if h0 rfl (fun hc h0 => ?_) (fun hc h0 => ?_)
  refine sq [0] ?_
  refine pa ?_
  refine nx ?_
  refine aw_ret ?_
  refine then_r ?_
  cases h0
  exact ret0_ (rs := [.tmp 4]) rfl
  refine sk ?_
  refine aw_seq ?_
  refine sq [0,1,2,3,4,5] ?_
  refine fa tok ?_
  refine rl rfl w0 rfl (bx_ldN tok rfl rfl rfl rfl) ?_
  refine fa tok ?_
  refine rl rfl w0 rfl (bx_ldN tok rfl rfl rfl rfl) ?_
  obtain ⟨v1, hv1, h0⟩ := bnd h0
  refine rs rfl w0 rfl (c_call 5 (l_eqWorks_c hv1) rfl rfl rfl) ?_
  refine rp rfl w0 rfl (pu_not rfl) ?_
  refine nx ?_
  refine aw_ifB h0 rfl (fun hc h0 => ?_) (fun hc h0 => ?_)
  refine sq [0] ?_
  refine pa ?_
  refine nx ?_
  refine aw_ret ?_
  refine then_r ?_
  cases h0
  exact ret0_ (rs := [.tmp 4]) rfl
  refine sk ?_
  refine aw_seq ?_
  refine sq [0,1,2,3,4] ?_
  refine fa tok ?_
  refine ld tok ?_
  refine fa tok ?_
  refine ld tok ?_
  refine rp rfl w0 rfl (pu_neq rfl rfl) ?_
  refine nx ?_
  refine aw_if h0 rfl (fun hc h0 => ?_) (fun hc h0 => ?_)
  refine sq [0] ?_
  refine pa ?_
  refine nx ?_
  refine aw_ret ?_
  refine then_r ?_
  cases h0
  exact ret0_ (rs := [.tmp 4]) rfl
  refine sk ?_
  refine aw_seq ?_
  refine sq [0,1,2,3,4] ?_
  refine fa tok ?_
  refine ld tok ?_
  refine fa tok ?_
  refine ld tok ?_
  refine rp rfl w0 rfl (pu_neq rfl rfl) ?_
  refine nx ?_
  refine aw_if h0 rfl (fun hc h0 => ?_) (fun hc h0 => ?_)
  refine sq [0] ?_
  refine pa ?_
  refine nx ?_
  refine aw_ret ?_
  refine then_r ?_
  cases h0
  exact ret0_ (rs := [.tmp 4]) rfl
  refine sk ?_
  refine aw_seq ?_
  refine sq [0,1,2,3,4] ?_
  refine fa tok ?_
  refine ld tok ?_
  refine fa tok ?_
  refine ld tok ?_
  refine rp rfl w0 rfl (pu_neq rfl rfl) ?_
  refine nx ?_
  refine aw_if h0 rfl (fun hc h0 => ?_) (fun hc h0 => ?_)
  refine sq [0] ?_
  refine pa ?_
  refine nx ?_
  refine aw_ret ?_
  refine then_r ?_
  cases h0
  exact ret0_ (rs := [.tmp 4]) rfl
  refine sk ?_
  refine aw_seq ?_
  refine sq [0,1,2,3,4] ?_
  refine fa tok ?_
  refine ld tok ?_
  refine fa tok ?_
  refine ld tok ?_
  refine rp rfl w0 rfl (pu_neq rfl rfl) ?_
  refine nx ?_
  refine aw_if h0 rfl (fun hc h0 => ?_) (fun hc h0 => ?_)
  refine sq [0] ?_
  refine pa ?_
  refine nx ?_
  refine aw_ret ?_
  refine then_r ?_
  cases h0
  exact ret0_ (rs := [.tmp 4]) rfl
  refine sk ?_
  refine aw_seq ?_
  refine sq [0,1,2,3,4] ?_
  refine fa tok ?_
  refine ld tok ?_
  refine fa tok ?_
  refine ld tok ?_
  refine rp rfl w0 rfl (pu_neq rfl rfl) ?_
  refine nx ?_
  refine aw_if h0 rfl (fun hc h0 => ?_) (fun hc h0 => ?_)
  refine sq [0] ?_
  refine pa ?_
  refine nx ?_
  refine aw_ret ?_
  refine then_r ?_
  cases h0
  exact ret0_ (rs := [.tmp 4]) rfl
  refine sk ?_
  refine aw_seq ?_
  refine sq [0,1,2,3,4,5] ?_
  refine fa tok ?_
  refine rl rfl w0 rfl (bx_ldN tok rfl rfl rfl rfl) ?_
  refine fa tok ?_
  refine rl rfl w0 rfl (bx_ldN tok rfl rfl rfl rfl) ?_
  obtain ⟨v2, hv2, h0⟩ := bnd h0
  refine rs rfl w0 rfl (c_call 5 (l_eqCalendar_c hv2) rfl rfl rfl) ?_
  refine rp rfl w0 rfl (pu_not rfl) ?_
  refine nx ?_
  refine aw_ifB h0 rfl (fun hc h0 => ?_) (fun hc h0 => ?_)
  refine sq [0] ?_
  refine pa ?_
  refine nx ?_
  refine aw_ret ?_
  refine then_r ?_
  cases h0
  exact ret0_ (rs := [.tmp 4]) rfl
  refine sk ?_
  refine aw_seq ?_
  refine sq [0,1,2,3,4,5] ?_
  refine fa tok ?_
  refine ld tok ?_
  refine fa tok ?_
  refine ld tok ?_
  obtain ⟨v3, hv3, h0⟩ := bnd h0
  refine rs rfl w0 rfl (c_call 5 (l_eqInt64S_c hv3) rfl rfl rfl) ?_
  refine rp rfl w0 rfl (pu_not rfl) ?_
  refine nx ?_
  refine aw_ifB h0 rfl (fun hc h0 => ?_) (fun hc h0 => ?_)
  refine sq [0] ?_
  refine pa ?_
  refine nx ?_
  refine aw_ret ?_
  refine then_r ?_
  cases h0
  exact ret0_ (rs := [.tmp 4]) rfl
  refine sk ?_
  refine aw_seq ?_
  refine sq [0,1,2,3,4] ?_
  refine fa tok ?_
  refine ld tok ?_
  refine fa tok ?_
  refine ld tok ?_
  refine rp rfl w0 rfl (pu_neq rfl rfl) ?_
  refine nx ?_
  refine aw_if h0 rfl (fun hc h0 => ?_) (fun hc h0 => ?_)
  refine sq [0] ?_
  refine pa ?_
  refine nx ?_
  refine aw_ret ?_
  refine then_r ?_
  cases h0
  exact ret0_ (rs := [.tmp 4]) rfl
  refine sk ?_
  refine sq [0] ?_
  refine pa ?_
  refine nx ?_
  refine aw_ret ?_
  cases h0
  exact ret0_ (rs := [.tmp 4]) rfl

theorem l_eqDate_c {p0 : Date_} {p1 : Date_} {r : Bool} (h0 : l_eqDate_m p0 p1 = some r) : FnC Tryz.prog 41 [] [.agg [.d (.v (.int .i64 p0.Year)), .d (.v (.int .i64 p0.Month)), .d (.v (.int .i64 p0.Day))], .agg [.d (.v (.int .i64 p1.Year)), .d (.v (.int .i64 p1.Month)), .d (.v (.int .i64 p1.Day))]] [] (.d (.v (.bool r))) := by
  refine fnc_intro (T := tt) (N := 20) tok Tryz.func41 rfl rfl (by kernel_rfl) rfl rfl ?_
  unfold l_eqDate_m at h0
  refine sq [0,1,2] ?_
  refine rs rfl w0 rfl (st_box 3 (cs := _ :: _) rfl rfl rfl) ?_
  refine rs rfl w0 rfl (st_box 4 (cs := _ :: _) rfl rfl rfl) ?_
  refine pa ?_
  refine nx ?_
  refine aw_seq ?_
  refine sq [0,1,2,3,4] ?_
  refine fa tok ?_
  refine ld tok ?_
  refine fa tok ?_
  refine ld tok ?_
  refine rp rfl w0 rfl (pu_neq rfl rfl) ?_
  refine nx ?_
  refine aw_if h0 rfl (fun hc h0 => ?_) (fun hc h0 => ?_)
  refine sq [0] ?_
  refine pa ?_
  refine nx ?_
  refine aw_ret ?_
  refine then_r ?_
  cases h0
  exact ret0_ (rs := [.tmp 4]) rfl
  refine sk ?_
  refine aw_seq ?_
  refine sq [0,1,2,3,4] ?_
  refine fa tok ?_
  refine ld tok ?_
  refine fa tok ?_
  refine ld tok ?_
  refine rp rfl w0 rfl (pu_neq rfl rfl) ?_
  refine nx ?_
  refine aw_if h0 rfl (fun hc h0 => ?_) (fun hc h0 => ?_)
  refine sq [0] ?_
  refine pa ?_
  refine nx ?_
  refine aw_ret ?_
  refine then_r ?_
  cases h0
  exact ret0_ (rs := [.tmp 4]) rfl
  refine sk ?_
  refine aw_seq ?_
  refine sq [0,1,2,3,4] ?_
  refine fa tok ?_
  refine ld tok ?_
  refine fa tok ?_
  refine ld tok ?_
  refine rp rfl w0 rfl (pu_neq rfl rfl) ?_
  refine nx ?_
  refine aw_if h0 rfl (fun hc h0 => ?_) (fun hc h0 => ?_)
  refine sq [0] ?_
  refine pa ?_
  refine nx ?_
  refine aw_ret ?_
  refine then_r ?_
  cases h0
  exact ret0_ (rs := [.tmp 4]) rfl
  refine sk ?_
  refine sq [0] ?_
  refine pa ?_
  refine nx ?_
  refine aw_ret ?_
  cases h0
  exact ret0_ (rs := [.tmp 4]) rfl

theorem l_eqPerpetual_c {p0 : Perpetual_} {p1 : Perpetual_} {r : Bool} (h0 : l_eqPerpetual_m p0 p1 = some r) : FnC Tryz.prog 42 [] [.agg [.d (.sl (List.map cI p0.Cam)), .d (.v (.int .i64 p0.Months)), .d (.v (.int .i64 p0.Teeth)), .d (.v (.int .i64 p0.At)), .d (.v (.int .i64 p0.Day)), .d (.v (.int .i64 p0.Week)), .d (.v (.int .i64 p0.Weekday))], .agg [.d (.sl (List.map cI p1.Cam)), .d (.v (.int .i64 p1.Months)), .d (.v (.int .i64 p1.Teeth)), .d (.v (.int .i64 p1.At)), .d (.v (.int .i64 p1.Day)), .d (.v (.int .i64 p1.Week)), .d (.v (.int .i64 p1.Weekday))]] [] (.d (.v (.bool r))) := by
  refine fnc_intro (T := tt) (N := 41) tok Tryz.func42 rfl rfl (by kernel_rfl) rfl rfl ?_
  unfold l_eqPerpetual_m at h0
  refine sq [0,1,2] ?_
  refine rs rfl w0 rfl (st_box 3 (cs := _ :: _) rfl rfl rfl) ?_
  refine rs rfl w0 rfl (st_box 4 (cs := _ :: _) rfl rfl rfl) ?_
  refine pa ?_
  refine nx ?_
  refine aw_seq ?_
  refine sq [0,1,2,3,4,5] ?_
  refine fa tok ?_
  refine ld tok ?_
  refine fa tok ?_
  refine ld tok ?_
  obtain ⟨v1, hv1, h0⟩ := bnd h0
  refine rs rfl w0 rfl (c_call 5 (l_eqInt64S_c hv1) rfl rfl rfl) ?_
  refine rp rfl w0 rfl (pu_not rfl) ?_
  refine nx ?_
  refine aw_ifB h0 rfl (fun hc h0 => ?_) (fun hc h0 => ?_)
  refine sq [0] ?_
  refine pa ?_
  refine nx ?_
  refine aw_ret ?_
  refine then_r ?_
  cases h0
  exact ret0_ (rs := [.tmp 4]) rfl
  refine sk ?_
  refine aw_seq ?_
  refine sq [0,1,2,3,4] ?_
  refine fa tok ?_
  refine ld tok ?_
  refine fa tok ?_
  refine ld tok ?_
  refine rp rfl w0 rfl (pu_neq rfl rfl) ?_
  refine nx ?_
  refine aw_if h0 rfl (fun hc h0 => ?_) (fun hc h0 => ?_)
  refine sq [0] ?_
  refine pa ?_
  refine nx ?_
  refine aw_ret ?_
  refine then_r ?_
  cases h0
  exact ret0_ (rs := [.tmp 4]) rfl
  refine sk ?_
  refine aw_seq ?_
  refine sq [0,1,2,3,4] ?_
  refine fa tok ?_
  refine ld tok ?_
  refine fa tok ?_
  refine ld tok ?_
  refine rp rfl w0 rfl (pu_neq rfl rfl) ?_
  refine nx ?_
  refine aw_if h0 rfl (fun hc h0 => ?_) (fun hc h0 => ?_)
  refine sq [0] ?_
  refine pa ?_
  refine nx ?_
  refine aw_ret ?_
  refine then_r ?_
  cases h0
  exact ret0_ (rs := [.tmp 4]) rfl
  refine sk ?_
  refine aw_seq ?_
  refine sq [0,1,2,3,4] ?_
  refine fa tok ?_
  refine ld tok ?_
  refine fa tok ?_
  refine ld tok ?_
  refine rp rfl w0 rfl (pu_neq rfl rfl) ?_
  refine nx ?_
  refine aw_if h0 rfl (fun hc h0 => ?_) (fun hc h0 => ?_)
  refine sq [0] ?_
  refine pa ?_
  refine nx ?_
  refine aw_ret ?_
  refine then_r ?_
  cases h0
  exact ret0_ (rs := [.tmp 4]) rfl
  refine sk ?_
  refine aw_seq ?_
  refine sq [0,1,2,3,4] ?_
  refine fa tok ?_
  refine ld tok ?_
  refine fa tok ?_
  refine ld tok ?_
  refine rp rfl w0 rfl (pu_neq rfl rfl) ?_
  refine nx ?_
  refine aw_if h0 rfl (fun hc h0 => ?_) (fun hc h0 => ?_)
  refine sq [0] ?_
  refine pa ?_
  refine nx ?_
  refine aw_ret ?_
  refine then_r ?_
  cases h0
  exact ret0_ (rs := [.tmp 4]) rfl
  refine sk ?_
  refine aw_seq ?_
  refine sq [0,1,2,3,4] ?_
  refine fa tok ?_
  refine ld tok ?_
  refine fa tok ?_
  refine ld tok ?_
  refine rp rfl w0 rfl (pu_neq rfl rfl) ?_
  refine nx ?_
  refine aw_if h0 rfl (fun hc h0 => ?_) (fun hc h0 => ?_)
  refine sq [0] ?_
  refine pa ?_
  refine nx ?_
  refine aw_ret ?_
  refine then_r ?_
  cases h0
  exact ret0_ (rs := [.tmp 4]) rfl
  refine sk ?_
  refine aw_seq ?_
  refine sq [0,1,2,3,4] ?_
  refine fa tok ?_
  refine ld tok ?_
  refine fa tok ?_
  refine ld tok ?_
  refine rp rfl w0 rfl (pu_neq rfl rfl) ?_
  refine nx ?_
  refine aw_if h0 rfl (fun hc h0 => ?_) (fun hc h0 => ?_)
  refine sq [0] ?_
  refine pa ?_
  refine nx ?_
  refine aw_ret ?_
  refine then_r ?_
  cases h0
  exact ret0_ (rs := [.tmp 4]) rfl
  refine sk ?_
  refine sq [0] ?_
  refine pa ?_
  refine nx ?_
  refine aw_ret ?_
  cases h0
  exact ret0_ (rs := [.tmp 4]) rfl

theorem l_eqSim_c {p0 : Sim_} {p1 : Sim_} {r : Bool} (h0 : l_eqSim_m p0 p1 = some r) : FnC Tryz.prog 11 [] [.agg [.d (.v (.string p0.Movement.Name)), .d (.sl (List.map cArbor_ p0.Movement.Works.Arbors)), .d (.sl (List.map cMesh_ p0.Movement.Works.Meshes)), .d (.v (.int .i64 p0.Movement.Minute)), .d (.v (.int .i64 p0.Movement.Hour)), .d (.v (.int .i64 p0.Movement.Escape)), .d (.v (.int .i64 p0.Movement.Teeth)), .d (.v (.int .i64 p0.Movement.Beats)), .d (.v (.string p0.Movement.Calendar.Name)), .d (.sl (List.map cMonth_ p0.Movement.Calendar.Months)), .d (.sl (List.map cLeapRule_ p0.Movement.Calendar.Rules)), .d (.v (.int .i64 p0.Movement.Calendar.Week)), .d (.sl (List.map cI p0.Movement.Cam)), .d (.v (.int .i64 p0.Movement.Strike)), .d (.v (.int .i64 p0.Start.Year)), .d (.v (.int .i64 p0.Start.Month)), .d (.v (.int .i64 p0.Start.Day)), .d (.v (.int .i64 p0.First)), .d (.v (.int .i64 p0.Clock)), .d (.sl (List.map cI p0.Dial.Cam)), .d (.v (.int .i64 p0.Dial.Months)), .d (.v (.int .i64 p0.Dial.Teeth)), .d (.v (.int .i64 p0.Dial.At)), .d (.v (.int .i64 p0.Dial.Day)), .d (.v (.int .i64 p0.Dial.Week)), .d (.v (.int .i64 p0.Dial.Weekday))], .agg [.d (.v (.string p1.Movement.Name)), .d (.sl (List.map cArbor_ p1.Movement.Works.Arbors)), .d (.sl (List.map cMesh_ p1.Movement.Works.Meshes)), .d (.v (.int .i64 p1.Movement.Minute)), .d (.v (.int .i64 p1.Movement.Hour)), .d (.v (.int .i64 p1.Movement.Escape)), .d (.v (.int .i64 p1.Movement.Teeth)), .d (.v (.int .i64 p1.Movement.Beats)), .d (.v (.string p1.Movement.Calendar.Name)), .d (.sl (List.map cMonth_ p1.Movement.Calendar.Months)), .d (.sl (List.map cLeapRule_ p1.Movement.Calendar.Rules)), .d (.v (.int .i64 p1.Movement.Calendar.Week)), .d (.sl (List.map cI p1.Movement.Cam)), .d (.v (.int .i64 p1.Movement.Strike)), .d (.v (.int .i64 p1.Start.Year)), .d (.v (.int .i64 p1.Start.Month)), .d (.v (.int .i64 p1.Start.Day)), .d (.v (.int .i64 p1.First)), .d (.v (.int .i64 p1.Clock)), .d (.sl (List.map cI p1.Dial.Cam)), .d (.v (.int .i64 p1.Dial.Months)), .d (.v (.int .i64 p1.Dial.Teeth)), .d (.v (.int .i64 p1.Dial.At)), .d (.v (.int .i64 p1.Dial.Day)), .d (.v (.int .i64 p1.Dial.Week)), .d (.v (.int .i64 p1.Dial.Weekday))]] [] (.d (.v (.bool r))) := by
  refine fnc_intro (T := tt) (N := 33) tok Tryz.func11 rfl rfl (by kernel_rfl) rfl rfl ?_
  unfold l_eqSim_m at h0
  refine sq [0,1,2] ?_
  refine rs rfl w0 rfl (st_box 3 (cs := _ :: _) rfl rfl rfl) ?_
  refine rs rfl w0 rfl (st_box 4 (cs := _ :: _) rfl rfl rfl) ?_
  refine pa ?_
  refine nx ?_
  refine aw_seq ?_
  refine sq [0,1,2,3,4,5] ?_
  refine fa tok ?_
  refine rl rfl w0 rfl (bx_ldN tok rfl rfl rfl rfl) ?_
  refine fa tok ?_
  refine rl rfl w0 rfl (bx_ldN tok rfl rfl rfl rfl) ?_
  obtain ⟨v1, hv1, h0⟩ := bnd h0
  refine rs rfl w0 rfl (c_call 5 (l_eqMovement_c hv1) rfl rfl rfl) ?_
  refine rp rfl w0 rfl (pu_not rfl) ?_
  refine nx ?_
  refine aw_ifB h0 rfl (fun hc h0 => ?_) (fun hc h0 => ?_)
  refine sq [0] ?_
  refine pa ?_
  refine nx ?_
  refine aw_ret ?_
  refine then_r ?_
  cases h0
  exact ret0_ (rs := [.tmp 4]) rfl
  refine sk ?_
  refine aw_seq ?_
  refine sq [0,1,2,3,4,5] ?_
  refine fa tok ?_
  refine rl rfl w0 rfl (bx_ldN tok rfl rfl rfl rfl) ?_
  refine fa tok ?_
  refine rl rfl w0 rfl (bx_ldN tok rfl rfl rfl rfl) ?_
  obtain ⟨v2, hv2, h0⟩ := bnd h0
  refine rs rfl w0 rfl (c_call 5 (l_eqDate_c hv2) rfl rfl rfl) ?_
  refine rp rfl w0 rfl (pu_not rfl) ?_
  refine nx ?_
  refine aw_ifB h0 rfl (fun hc h0 => ?_) (fun hc h0 => ?_)
  refine sq [0] ?_
  refine pa ?_
  refine nx ?_
  refine aw_ret ?_
  refine then_r ?_
  cases h0
  exact ret0_ (rs := [.tmp 4]) rfl
  refine sk ?_
  refine aw_seq ?_
  refine sq [0,1,2,3,4] ?_
  refine fa tok ?_
  refine ld tok ?_
  refine fa tok ?_
  refine ld tok ?_
  refine rp rfl w0 rfl (pu_neq rfl rfl) ?_
  refine nx ?_
  refine aw_if h0 rfl (fun hc h0 => ?_) (fun hc h0 => ?_)
  refine sq [0] ?_
  refine pa ?_
  refine nx ?_
  refine aw_ret ?_
  refine then_r ?_
  cases h0
  exact ret0_ (rs := [.tmp 4]) rfl
  refine sk ?_
  refine aw_seq ?_
  refine sq [0,1,2,3,4] ?_
  refine fa tok ?_
  refine ld tok ?_
  refine fa tok ?_
  refine ld tok ?_
  refine rp rfl w0 rfl (pu_neq rfl rfl) ?_
  refine nx ?_
  refine aw_if h0 rfl (fun hc h0 => ?_) (fun hc h0 => ?_)
  refine sq [0] ?_
  refine pa ?_
  refine nx ?_
  refine aw_ret ?_
  refine then_r ?_
  cases h0
  exact ret0_ (rs := [.tmp 4]) rfl
  refine sk ?_
  refine aw_seq ?_
  refine sq [0,1,2,3,4,5] ?_
  refine fa tok ?_
  refine rl rfl w0 rfl (bx_ldN tok rfl rfl rfl rfl) ?_
  refine fa tok ?_
  refine rl rfl w0 rfl (bx_ldN tok rfl rfl rfl rfl) ?_
  obtain ⟨v3, hv3, h0⟩ := bnd h0
  refine rs rfl w0 rfl (c_call 5 (l_eqPerpetual_c hv3) rfl rfl rfl) ?_
  refine rp rfl w0 rfl (pu_not rfl) ?_
  refine nx ?_
  refine aw_ifB h0 rfl (fun hc h0 => ?_) (fun hc h0 => ?_)
  refine sq [0] ?_
  refine pa ?_
  refine nx ?_
  refine aw_ret ?_
  refine then_r ?_
  cases h0
  exact ret0_ (rs := [.tmp 4]) rfl
  refine sk ?_
  refine sq [0] ?_
  refine pa ?_
  refine nx ?_
  refine aw_ret ?_
  cases h0
  exact ret0_ (rs := [.tmp 4]) rfl

theorem l_markText_c {p0 : Int} {r : ByteArray} (h0 : l_markText_m p0 = some r) : FnC Tryz.prog 206 [] [.d (.v (.int .i64 p0))] [] (.d (.v (.string r))) := by
  refine fnc_intro (T := tt) (N := 20) tok Tryz.func206 rfl rfl (by kernel_rfl) rfl rfl ?_
  unfold l_markText_m at h0
  refine sq [0] ?_
  refine pa ?_
  refine nx ?_
  refine aw_seq ?_
  refine sq [0,1] ?_
  refine pm ?_
  refine rp rfl w0 rfl (pu_leq rfl rfl) ?_
  refine nx ?_
  refine aw_if h0 rfl (fun hc h0 => ?_) (fun hc h0 => ?_)
  refine sq [0] ?_
  refine pa ?_
  refine nx ?_
  refine aw_ret ?_
  refine then_r ?_
  cases h0
  exact ret0_ (rs := [.tmp 2]) rfl
  refine sk ?_
  refine sq [0] ?_
  refine pa ?_
  refine nx ?_
  obtain ⟨v9, h1, h0⟩ := bnd h0
  refine aw_cut ⟨updA ((fun _ => .dead)) 3 (.d (.v (.string v9))), lks [.no, .no, .no]⟩ ?_ ?_
  refine aw_block ?_
  refine aw_loopM (fun s5 => ⟨updA (updA ((fun _ => .dead)) 0 (.d (.v (.int .i64 s5.1)))) 3 (.d (.v (.string s5.2))), lks [.no, .no, .no]⟩) h1 ?_ (fun s5 y h2 => ?_)
  exact wk [0, 1, 2]
  refine aw_seq ?_
  refine sq [0,1] ?_
  refine pm ?_
  refine rp rfl w0 rfl (pu_gtr rfl rfl) ?_
  refine nx ?_
  refine aw_if h2 rfl (fun hc h2 => ?_) (fun hc h2 => ?_)
  refine sk ?_
  refine aw_block ?_
  refine sq [0,1,2,3,4,5,6,7,8] ?_
  refine pm ?_
  refine rp rfl w0 rfl (pu_remw rfl rfl (by decide)) ?_
  refine rp rfl w0 rfl (pw_add rfl rfl) ?_
  refine rp rfl w0 rfl (pu_ii tok rfl rfl rfl rfl rfl) ?_
  refine rs rfl w0 rfl (bs_own 3 tok cU8 [IntKind.u8.wrap (w64 (48 + (s5.1.tmod 10)))] rfl rfl rfl (by repeat (first | exact Els.nil _ | apply Els.cons (cs := [.d _]) rfl rfl rfl | apply Els.cons (cs := _ :: _) rfl rfl rfl)) rfl rfl rfl (by repeat (first | exact AllDD.nil | (apply AllDD.cons; (repeat (first | exact AllD.nil | apply AllD.cons))))) rfl rfl) ?_
  refine rs rfl w0 rfl (cv_bo tok rfl rfl rfl rfl rfl rfl rfl rfl rfl rfl) ?_
  refine pm ?_
  obtain ⟨hq7, h2⟩ := chk_e h2
  refine rp rfl w0 rfl (pu_cat rfl rfl hq7) ?_
  refine pa ?_
  refine nx ?_
  refine sr [0,1,2] ?_
  refine pm ?_
  refine rp rfl w0 rfl (pw_quo rfl rfl (by decide)) ?_
  refine pa ?_
  refine ra_nil ?_
  refine block_n ?_
  refine loop_n ?_
  cases h2
  refine ⟨_, rfl, ?_⟩
  exact wk [0, 1, 2]
  refine aw_exit ?_
  refine then_e ?_
  cases h2
  refine loop_x ⟨_, rfl, fun e => ?_⟩
  subst e
  refine block_hit ?_
  refine then_n ?_
  exact wk [0, 1, 2]
  refine sq [0,1,2] ?_
  refine pm ?_
  obtain ⟨hq10, h0⟩ := chk_e h0
  refine rp rfl w0 rfl (pu_cat rfl rfl hq10) ?_
  refine pa ?_
  refine nx ?_
  refine aw_ret ?_
  cases h0
  exact ret0_ (rs := [.tmp 2]) rfl

theorem l_markInt64S_o_c {p0 : List Int} {p1 : Int} {r : Int × List Int} (h0 : l_markInt64S_o_m p0 p1 = some r) : FnC Tryz.prog 86 [.live [⟨2, 1, .data (List.map cI p0)⟩]] [.own 0 0 (p0).length, .d (.v (.int .i64 p1))] [.live [⟨2, 1, .data (List.map cI r.2)⟩]] (.d (.v (.int .i64 r.1))) := by
  refine fnc_intro (T := tt) (N := 19) tok Tryz.func86 rfl rfl (by kernel_rfl) rfl rfl ?_
  unfold l_markInt64S_o_m at h0
  refine sq [0] ?_
  refine pa ?_
  refine nx ?_
  obtain ⟨v5, h1, h0⟩ := bnd h0
  refine aw_cut ⟨updA ((fun _ => .dead)) 1 (.d (.v (.int .i64 v5.1))), lks [.live [⟨2, 1, .data (List.map cI v5.2)⟩], .no, .no]⟩ ?_ ?_
  refine sq [0] ?_
  refine pa ?_
  refine nx ?_
  refine aw_block ?_
  refine aw_loopM (fun s3 => ⟨updA (updA (updA ((fun _ => .dead)) 0 (.own 0 0 (s3.2.2).length)) 1 (.d (.v (.int .i64 s3.1)))) 5 (.d (.v (.int .i64 s3.2.1))), lks [.live [⟨2, 1, .data (List.map cI s3.2.2)⟩], .no, .no]⟩) h1 ?_ (fun s3 y h2 => ?_)
  exact wk [0, 1, 2]
  refine aw_seq ?_
  refine sq [0,1,2,3] ?_
  refine pm ?_
  refine rp rfl w0 rfl (pu_move (r := .own _ _ _) rfl) ?_
  refine rl rfl w0 rfl (ow_len tok rfl rfl rfl rfl rfl) ?_
  refine rp rfl w0 rfl (pu_lss rfl rfl) ?_
  refine nx ?_
  refine aw_if h2 rfl (fun hc h2 => ?_) (fun hc h2 => ?_)
  refine sk ?_
  refine aw_seq ?_
  refine aw_block ?_
  refine sq [0,1,2,3,4] ?_
  refine rp rfl w0 rfl (pu_move (r := .own _ _ _) rfl) ?_
  refine pm ?_
  refine pm ?_
  obtain ⟨v4, hv4, h2⟩ := bnd h2
  refine rl rfl w0 rfl (ow_ix tok hv4 rfl rfl rfl rfl rfl rfl rfl rfl) ?_
  refine rw0 rfl w0 (rw_st (cs := [.d _]) tok s3.1 (atI_e hv4).2.1 rfl rfl rfl rfl rfl rfl rfl rfl) ?_
  refine nx ?_
  refine sr [0,1,2] ?_
  refine pm ?_
  refine rp rfl w0 rfl (pw_add rfl rfl) ?_
  refine pa ?_
  refine ra_nil ?_
  refine block_n ?_
  refine then_n ?_
  refine sr [0,1,2] ?_
  refine pm ?_
  refine rp rfl w0 rfl (pw_add rfl rfl) ?_
  refine pa ?_
  refine ra_nil ?_
  refine loop_n ?_
  cases h2
  refine ⟨_, rfl, ?_⟩
  exact wk [0, 1, 2]
  refine aw_exit ?_
  refine then_e ?_
  cases h2
  refine loop_x ⟨_, rfl, fun e => ?_⟩
  subst e
  refine block_hit ?_
  refine then_n ?_
  exact wk [0, 1, 2]
  refine sq [0,1] ?_
  refine pm ?_
  refine pa ?_
  refine nx ?_
  refine aw_ret ?_
  cases h0
  exact retP_ (rs := [.tmp 4]) 1 rfl rfl

theorem l_markArborS_o_c {p0 : List Arbor_} {p1 : Int} {r : Int × List Arbor_} (h0 : l_markArborS_o_m p0 p1 = some r) : FnC Tryz.prog 144 [.live [⟨213, 2, .av (nestL 1 cArbor_ p0)⟩], .live (famL 2 1 cArbor_ p0)] [.own 0 0 (p0).length, .d (.v (.int .i64 p1))] [.live [⟨213, 2, .av (nestL 1 cArbor_ r.2)⟩], .live (famL 2 1 cArbor_ r.2)] (.d (.v (.int .i64 r.1))) := by
  refine fnc_intro (T := tt) (N := 28) tok Tryz.func144 rfl rfl (by kernel_rfl) rfl rfl ?_
  unfold l_markArborS_o_m at h0
  refine sq [0] ?_
  refine pa ?_
  refine nx ?_
  obtain ⟨v13, h1, h0⟩ := bnd h0
  refine aw_cut ⟨updA ((fun _ => .dead)) 1 (.d (.v (.int .i64 v13.1))), lks [.live [⟨213, 2, .av (nestL 1 cArbor_ v13.2)⟩], .live (famL 2 1 cArbor_ v13.2), .no]⟩ ?_ ?_
  refine sq [0] ?_
  refine pa ?_
  refine nx ?_
  refine aw_block ?_
  refine aw_loopM (fun s7 => ⟨updA (updA (updA ((fun _ => .dead)) 0 (.own 0 0 (s7.2.2).length)) 1 (.d (.v (.int .i64 s7.1)))) 5 (.d (.v (.int .i64 s7.2.1))), lks [.live [⟨213, 2, .av (nestL 1 cArbor_ s7.2.2)⟩], .live (famL 2 1 cArbor_ s7.2.2), .no]⟩) h1 ?_ (fun s7 y h2 => ?_)
  exact wk [0, 1, 2]
  refine aw_seq ?_
  refine sq [0,1,2,3] ?_
  refine pm ?_
  refine rp rfl w0 rfl (pu_move (r := .own _ _ _) rfl) ?_
  refine rl rfl w0 rfl (nst_len tok rfl rfl rfl rfl rfl) ?_
  refine rp rfl w0 rfl (pu_lss rfl rfl) ?_
  refine nx ?_
  refine aw_if h2 rfl (fun hc h2 => ?_) (fun hc h2 => ?_)
  refine sk ?_
  refine aw_seq ?_
  refine aw_block ?_
  refine sq [0,1,2,3,4,5,6] ?_
  refine rp rfl w0 rfl (pu_move (r := .own _ _ _) rfl) ?_
  refine pm ?_
  refine pm ?_
  obtain ⟨v8, hv8, h2⟩ := bnd h2
  refine rs rfl w0 rfl (c_call 3 (l_markText_c hv8) rfl rfl rfl) ?_
  obtain ⟨v9, hv9, h2⟩ := bnd h2
  refine rl rfl w0 rfl (nst_ix tok hv9 rfl rfl rfl rfl rfl rfl rfl rfl) ?_
  refine rl rfl w0 rfl (nst_fa tok (atI_e hv9).2.1 rfl rfl rfl rfl rfl rfl rfl rfl) ?_
  refine rw0 rfl w0 (nst_st (cs := [.d _]) tok (⟨v8, v9.Wheels⟩ : Arbor_) (atI_e hv9).2.1 rfl rfl rfl rfl rfl rfl rfl rfl rfl rfl rfl) ?_
  refine nx ?_
  refine sq [0,1,2] ?_
  refine pm ?_
  refine rp rfl w0 rfl (pw_add rfl rfl) ?_
  refine pa ?_
  refine nx ?_
  refine sr [0,1,2,3,4,5,6,7] ?_
  refine rp rfl w0 rfl (pu_move (r := .own _ _ _) rfl) ?_
  refine pm ?_
  obtain ⟨v10, hv10, h2⟩ := bnd h2
  refine rl rfl w0 rfl (nst_ix tok hv10 rfl rfl rfl rfl rfl rfl (by first | (simp; done) | omega | (simp; omega)) rfl) ?_
  refine rl rfl w0 rfl (nst_fa tok (atI_e hv10).2.1 rfl rfl rfl rfl rfl rfl rfl (by first | (simp; done) | omega | (simp; omega))) ?_
  refine rl rfl w0 rfl (nst_ld1 tok (atI_e hv10).2.1 rfl rfl rfl rfl (by first | (simp; done) | omega | (simp; omega)) rfl) ?_
  refine pm ?_
  obtain ⟨v11, hv11, h2⟩ := bnd h2
  obtain ⟨hq12, h2⟩ := chk_e h2
  refine rw1 rfl w0 rfl (c_callF (k := 0) (kf := 1) (⟨v10.Name, v11.2⟩ : Arbor_) (l_markInt64S_o_c hv11) (atI_e hv10).2.1 (by simp only [nestC, cArbor_, List.length_map, hq12]) rfl rfl rfl rfl rfl rfl rfl) ?_
  refine pa ?_
  refine ra_nil ?_
  refine block_n ?_
  refine then_n ?_
  refine sr [0,1,2] ?_
  refine pm ?_
  refine rp rfl w0 rfl (pw_add rfl rfl) ?_
  refine pa ?_
  refine ra_nil ?_
  refine loop_n ?_
  cases h2
  refine ⟨_, rfl, ?_⟩
  exact wk [0, 1, 2]
  refine aw_exit ?_
  refine then_e ?_
  cases h2
  refine loop_x ⟨_, rfl, fun e => ?_⟩
  subst e
  refine block_hit ?_
  refine then_n ?_
  exact wk [0, 1, 2]
  refine sq [0,1] ?_
  refine pm ?_
  refine pa ?_
  refine nx ?_
  refine aw_ret ?_
  cases h0
  exact retP_ (rs := [.tmp 4]) 2 rfl rfl

theorem l_markMeshS_o_c {p0 : List Mesh_} {p1 : Int} {r : Int × List Mesh_} (h0 : l_markMeshS_o_m p0 p1 = some r) : FnC Tryz.prog 145 [.live [⟨215, 4, .data (List.map cMesh_ p0)⟩]] [.own 0 0 (p0).length, .d (.v (.int .i64 p1))] [.live [⟨215, 4, .data (List.map cMesh_ r.2)⟩]] (.d (.v (.int .i64 r.1))) := by
  refine fnc_intro (T := tt) (N := 41) tok Tryz.func145 rfl rfl (by kernel_rfl) rfl rfl ?_
  unfold l_markMeshS_o_m at h0
  refine sq [0] ?_
  refine pa ?_
  refine nx ?_
  obtain ⟨v11, h1, h0⟩ := bnd h0
  refine aw_cut ⟨updA ((fun _ => .dead)) 1 (.d (.v (.int .i64 v11.1))), lks [.live [⟨215, 4, .data (List.map cMesh_ v11.2)⟩], .no, .no]⟩ ?_ ?_
  refine sq [0] ?_
  refine pa ?_
  refine nx ?_
  refine aw_block ?_
  refine aw_loopM (fun s6 => ⟨updA (updA (updA ((fun _ => .dead)) 0 (.own 0 0 (s6.2.2).length)) 1 (.d (.v (.int .i64 s6.1)))) 5 (.d (.v (.int .i64 s6.2.1))), lks [.live [⟨215, 4, .data (List.map cMesh_ s6.2.2)⟩], .no, .no]⟩) h1 ?_ (fun s6 y h2 => ?_)
  exact wk [0, 1, 2]
  refine aw_seq ?_
  refine sq [0,1,2,3] ?_
  refine pm ?_
  refine rp rfl w0 rfl (pu_move (r := .own _ _ _) rfl) ?_
  refine rl rfl w0 rfl (ow_len tok rfl rfl rfl rfl rfl) ?_
  refine rp rfl w0 rfl (pu_lss rfl rfl) ?_
  refine nx ?_
  refine aw_if h2 rfl (fun hc h2 => ?_) (fun hc h2 => ?_)
  refine sk ?_
  refine aw_seq ?_
  refine aw_block ?_
  refine sq [0,1,2,3,4,5] ?_
  refine rp rfl w0 rfl (pu_move (r := .own _ _ _) rfl) ?_
  refine pm ?_
  refine pm ?_
  obtain ⟨v7, hv7, h2⟩ := bnd h2
  refine rl rfl w0 rfl (ow_ix tok hv7 rfl rfl rfl rfl rfl rfl rfl rfl) ?_
  refine rl rfl w0 rfl (rw_fa tok (atI_e hv7).2.1 rfl rfl rfl rfl rfl rfl rfl rfl) ?_
  refine rw0 rfl w0 (rw_st (cs := [.d _]) tok (⟨s6.1, v7.WheelA, v7.B, v7.WheelB⟩ : Mesh_) (atI_e hv7).2.1 rfl rfl rfl rfl rfl rfl rfl rfl) ?_
  refine nx ?_
  refine sq [0,1,2] ?_
  refine pm ?_
  refine rp rfl w0 rfl (pw_add rfl rfl) ?_
  refine pa ?_
  refine nx ?_
  refine sq [0,1,2,3,4,5] ?_
  refine rp rfl w0 rfl (pu_move (r := .own _ _ _) rfl) ?_
  refine pm ?_
  refine pm ?_
  obtain ⟨v8, hv8, h2⟩ := bnd h2
  refine rl rfl w0 rfl (ow_ix tok hv8 rfl rfl rfl rfl rfl rfl (by first | (simp; done) | omega | (simp; omega)) rfl) ?_
  refine rl rfl w0 rfl (rw_fa tok (atI_e hv8).2.1 rfl rfl rfl rfl rfl rfl rfl (by first | (simp; done) | omega | (simp; omega))) ?_
  refine rw0 rfl w0 (rw_st (cs := [.d _]) tok (⟨v8.A, w64 (s6.1 + 1), v8.B, v8.WheelB⟩ : Mesh_) (atI_e hv8).2.1 rfl rfl rfl rfl rfl rfl rfl (by first | (simp; done) | omega | (simp; omega))) ?_
  refine nx ?_
  refine sq [0,1,2] ?_
  refine pm ?_
  refine rp rfl w0 rfl (pw_add rfl rfl) ?_
  refine pa ?_
  refine nx ?_
  refine sq [0,1,2,3,4,5] ?_
  refine rp rfl w0 rfl (pu_move (r := .own _ _ _) rfl) ?_
  refine pm ?_
  refine pm ?_
  obtain ⟨v9, hv9, h2⟩ := bnd h2
  refine rl rfl w0 rfl (ow_ix tok hv9 rfl rfl rfl rfl rfl rfl (by first | (simp; done) | omega | (simp; omega)) rfl) ?_
  refine rl rfl w0 rfl (rw_fa tok (atI_e hv9).2.1 rfl rfl rfl rfl rfl rfl rfl (by first | (simp; done) | omega | (simp; omega))) ?_
  refine rw0 rfl w0 (rw_st (cs := [.d _]) tok (⟨v9.A, v9.WheelA, w64 ((w64 (s6.1 + 1)) + 1), v9.WheelB⟩ : Mesh_) (atI_e hv9).2.1 rfl rfl rfl rfl rfl rfl rfl (by first | (simp; done) | omega | (simp; omega))) ?_
  refine nx ?_
  refine sq [0,1,2] ?_
  refine pm ?_
  refine rp rfl w0 rfl (pw_add rfl rfl) ?_
  refine pa ?_
  refine nx ?_
  refine sq [0,1,2,3,4,5] ?_
  refine rp rfl w0 rfl (pu_move (r := .own _ _ _) rfl) ?_
  refine pm ?_
  refine pm ?_
  obtain ⟨v10, hv10, h2⟩ := bnd h2
  refine rl rfl w0 rfl (ow_ix tok hv10 rfl rfl rfl rfl rfl rfl (by first | (simp; done) | omega | (simp; omega)) rfl) ?_
  refine rl rfl w0 rfl (rw_fa tok (atI_e hv10).2.1 rfl rfl rfl rfl rfl rfl rfl (by first | (simp; done) | omega | (simp; omega))) ?_
  refine rw0 rfl w0 (rw_st (cs := [.d _]) tok (⟨v10.A, v10.WheelA, v10.B, w64 ((w64 ((w64 (s6.1 + 1)) + 1)) + 1)⟩ : Mesh_) (atI_e hv10).2.1 rfl rfl rfl rfl rfl rfl rfl (by first | (simp; done) | omega | (simp; omega))) ?_
  refine nx ?_
  refine sr [0,1,2] ?_
  refine pm ?_
  refine rp rfl w0 rfl (pw_add rfl rfl) ?_
  refine pa ?_
  refine ra_nil ?_
  refine block_n ?_
  refine then_n ?_
  refine sr [0,1,2] ?_
  refine pm ?_
  refine rp rfl w0 rfl (pw_add rfl rfl) ?_
  refine pa ?_
  refine ra_nil ?_
  refine loop_n ?_
  cases h2
  refine ⟨_, rfl, ?_⟩
  exact wk [0, 1, 2]
  refine aw_exit ?_
  refine then_e ?_
  cases h2
  refine loop_x ⟨_, rfl, fun e => ?_⟩
  subst e
  refine block_hit ?_
  refine then_n ?_
  exact wk [0, 1, 2]
  refine sq [0,1] ?_
  refine pm ?_
  refine pa ?_
  refine nx ?_
  refine aw_ret ?_
  cases h0
  exact retP_ (rs := [.tmp 4]) 1 rfl rfl

theorem l_markWorks_o_c {p0 : Works_} {p1 : Int} {r : Int × List Arbor_ × List Mesh_} (h0 : l_markWorks_o_m p0 p1 = some r) : FnC Tryz.prog 84 [.live [⟨213, 2, .av (nestL 1 cArbor_ p0.Arbors)⟩], .live (famL 2 1 cArbor_ p0.Arbors), .live [⟨215, 4, .data (List.map cMesh_ p0.Meshes)⟩]] [.agg [.own 0 0 (p0.Arbors).length, .own 2 0 (p0.Meshes).length], .d (.v (.int .i64 p1))] [.live [⟨213, 2, .av (nestL 1 cArbor_ r.2.1)⟩], .live (famL 2 1 cArbor_ r.2.1), .live [⟨215, 4, .data (List.map cMesh_ r.2.2)⟩]] (.d (.v (.int .i64 r.1))) := by
  refine fnc_intro (T := tt) (N := 14) tok Tryz.func84 rfl rfl (by kernel_rfl) rfl rfl ?_
  unfold l_markWorks_o_m at h0
  refine sq [0,1] ?_
  refine rs rfl w0 rfl (st_box 3 (cs := _ :: _) rfl rfl rfl) ?_
  refine pa ?_
  refine nx ?_
  refine sq [0,1,2,3,4] ?_
  refine fa tok ?_
  refine ld tok ?_
  refine pm ?_
  obtain ⟨v1, hv1, h0⟩ := bnd h0
  obtain ⟨hq2, h0⟩ := chk_e h0
  refine rw1 rfl w0 rfl (c_callP [0, 1] 300 (l_markArborS_o_c hv1) rfl rfl) ?_
  refine pa ?_
  refine nx ?_
  refine sq [0,1,2,3,4] ?_
  refine fa tok ?_
  refine ld tok ?_
  refine pm ?_
  obtain ⟨v3, hv3, h0⟩ := bnd h0
  obtain ⟨hq4, h0⟩ := chk_e h0
  refine rw1 rfl w0 rfl (c_callP [2] 300 (l_markMeshS_o_c hv3) rfl rfl) ?_
  refine pa ?_
  refine nx ?_
  refine sq [0,1] ?_
  refine pm ?_
  refine pa ?_
  refine nx ?_
  refine aw_ret ?_
  cases h0
  exact retP_ (rs := [.tmp 4]) 3 rfl rfl

theorem l_markMonthS_o_c {p0 : List Month_} {p1 : Int} {r : Int × List Month_} (h0 : l_markMonthS_o_m p0 p1 = some r) : FnC Tryz.prog 146 [.live [⟨147, 3, .data (List.map cMonth_ p0)⟩]] [.own 0 0 (p0).length, .d (.v (.int .i64 p1))] [.live [⟨147, 3, .data (List.map cMonth_ r.2)⟩]] (.d (.v (.int .i64 r.1))) := by
  refine fnc_intro (T := tt) (N := 35) tok Tryz.func146 rfl rfl (by kernel_rfl) rfl rfl ?_
  unfold l_markMonthS_o_m at h0
  refine sq [0] ?_
  refine pa ?_
  refine nx ?_
  obtain ⟨v11, h1, h0⟩ := bnd h0
  refine aw_cut ⟨updA ((fun _ => .dead)) 1 (.d (.v (.int .i64 v11.1))), lks [.live [⟨147, 3, .data (List.map cMonth_ v11.2)⟩], .no, .no]⟩ ?_ ?_
  refine sq [0] ?_
  refine pa ?_
  refine nx ?_
  refine aw_block ?_
  refine aw_loopM (fun s6 => ⟨updA (updA (updA ((fun _ => .dead)) 0 (.own 0 0 (s6.2.2).length)) 1 (.d (.v (.int .i64 s6.1)))) 5 (.d (.v (.int .i64 s6.2.1))), lks [.live [⟨147, 3, .data (List.map cMonth_ s6.2.2)⟩], .no, .no]⟩) h1 ?_ (fun s6 y h2 => ?_)
  exact wk [0, 1, 2]
  refine aw_seq ?_
  refine sq [0,1,2,3] ?_
  refine pm ?_
  refine rp rfl w0 rfl (pu_move (r := .own _ _ _) rfl) ?_
  refine rl rfl w0 rfl (ow_len tok rfl rfl rfl rfl rfl) ?_
  refine rp rfl w0 rfl (pu_lss rfl rfl) ?_
  refine nx ?_
  refine aw_if h2 rfl (fun hc h2 => ?_) (fun hc h2 => ?_)
  refine sk ?_
  refine aw_seq ?_
  refine aw_block ?_
  refine sq [0,1,2,3,4,5,6] ?_
  refine rp rfl w0 rfl (pu_move (r := .own _ _ _) rfl) ?_
  refine pm ?_
  refine pm ?_
  obtain ⟨v7, hv7, h2⟩ := bnd h2
  refine rs rfl w0 rfl (c_call 3 (l_markText_c hv7) rfl rfl rfl) ?_
  obtain ⟨v8, hv8, h2⟩ := bnd h2
  refine rl rfl w0 rfl (ow_ix tok hv8 rfl rfl rfl rfl rfl rfl rfl rfl) ?_
  refine rl rfl w0 rfl (rw_fa tok (atI_e hv8).2.1 rfl rfl rfl rfl rfl rfl rfl rfl) ?_
  refine rw0 rfl w0 (rw_st (cs := [.d _]) tok (⟨v7, v8.Days, v8.Leap⟩ : Month_) (atI_e hv8).2.1 rfl rfl rfl rfl rfl rfl rfl rfl) ?_
  refine nx ?_
  refine sq [0,1,2] ?_
  refine pm ?_
  refine rp rfl w0 rfl (pw_add rfl rfl) ?_
  refine pa ?_
  refine nx ?_
  refine sq [0,1,2,3,4,5] ?_
  refine rp rfl w0 rfl (pu_move (r := .own _ _ _) rfl) ?_
  refine pm ?_
  refine pm ?_
  obtain ⟨v9, hv9, h2⟩ := bnd h2
  refine rl rfl w0 rfl (ow_ix tok hv9 rfl rfl rfl rfl rfl rfl (by first | (simp; done) | omega | (simp; omega)) rfl) ?_
  refine rl rfl w0 rfl (rw_fa tok (atI_e hv9).2.1 rfl rfl rfl rfl rfl rfl rfl (by first | (simp; done) | omega | (simp; omega))) ?_
  refine rw0 rfl w0 (rw_st (cs := [.d _]) tok (⟨v9.Name, w64 (s6.1 + 1), v9.Leap⟩ : Month_) (atI_e hv9).2.1 rfl rfl rfl rfl rfl rfl rfl (by first | (simp; done) | omega | (simp; omega))) ?_
  refine nx ?_
  refine sq [0,1,2] ?_
  refine pm ?_
  refine rp rfl w0 rfl (pw_add rfl rfl) ?_
  refine pa ?_
  refine nx ?_
  refine sq [0,1,2,3,4,5] ?_
  refine rp rfl w0 rfl (pu_move (r := .own _ _ _) rfl) ?_
  refine pm ?_
  refine pm ?_
  obtain ⟨v10, hv10, h2⟩ := bnd h2
  refine rl rfl w0 rfl (ow_ix tok hv10 rfl rfl rfl rfl rfl rfl (by first | (simp; done) | omega | (simp; omega)) rfl) ?_
  refine rl rfl w0 rfl (rw_fa tok (atI_e hv10).2.1 rfl rfl rfl rfl rfl rfl rfl (by first | (simp; done) | omega | (simp; omega))) ?_
  refine rw0 rfl w0 (rw_st (cs := [.d _]) tok (⟨v10.Name, v10.Days, w64 ((w64 (s6.1 + 1)) + 1)⟩ : Month_) (atI_e hv10).2.1 rfl rfl rfl rfl rfl rfl rfl (by first | (simp; done) | omega | (simp; omega))) ?_
  refine nx ?_
  refine sr [0,1,2] ?_
  refine pm ?_
  refine rp rfl w0 rfl (pw_add rfl rfl) ?_
  refine pa ?_
  refine ra_nil ?_
  refine block_n ?_
  refine then_n ?_
  refine sr [0,1,2] ?_
  refine pm ?_
  refine rp rfl w0 rfl (pw_add rfl rfl) ?_
  refine pa ?_
  refine ra_nil ?_
  refine loop_n ?_
  cases h2
  refine ⟨_, rfl, ?_⟩
  exact wk [0, 1, 2]
  refine aw_exit ?_
  refine then_e ?_
  cases h2
  refine loop_x ⟨_, rfl, fun e => ?_⟩
  subst e
  refine block_hit ?_
  refine then_n ?_
  exact wk [0, 1, 2]
  refine sq [0,1] ?_
  refine pm ?_
  refine pa ?_
  refine nx ?_
  refine aw_ret ?_
  cases h0
  exact retP_ (rs := [.tmp 4]) 1 rfl rfl

theorem l_markLeapRuleS_o_c {p0 : List LeapRule_} {p1 : Int} {r : Int × List LeapRule_} (h0 : l_markLeapRuleS_o_m p0 p1 = some r) : FnC Tryz.prog 147 [.live [⟨179, 3, .data (List.map cLeapRule_ p0)⟩]] [.own 0 0 (p0).length, .d (.v (.int .i64 p1))] [.live [⟨179, 3, .data (List.map cLeapRule_ r.2)⟩]] (.d (.v (.int .i64 r.1))) := by
  refine fnc_intro (T := tt) (N := 36) tok Tryz.func147 rfl rfl (by kernel_rfl) rfl rfl ?_
  unfold l_markLeapRuleS_o_m at h0
  refine sq [0] ?_
  refine pa ?_
  refine nx ?_
  obtain ⟨v11, h1, h0⟩ := bnd h0
  refine aw_cut ⟨updA ((fun _ => .dead)) 1 (.d (.v (.int .i64 v11.1))), lks [.live [⟨179, 3, .data (List.map cLeapRule_ v11.2)⟩], .no, .no]⟩ ?_ ?_
  refine sq [0] ?_
  refine pa ?_
  refine nx ?_
  refine aw_block ?_
  refine aw_loopM (fun s6 => ⟨updA (updA (updA ((fun _ => .dead)) 0 (.own 0 0 (s6.2.2).length)) 1 (.d (.v (.int .i64 s6.1)))) 5 (.d (.v (.int .i64 s6.2.1))), lks [.live [⟨179, 3, .data (List.map cLeapRule_ s6.2.2)⟩], .no, .no]⟩) h1 ?_ (fun s6 y h2 => ?_)
  exact wk [0, 1, 2]
  refine aw_seq ?_
  refine sq [0,1,2,3] ?_
  refine pm ?_
  refine rp rfl w0 rfl (pu_move (r := .own _ _ _) rfl) ?_
  refine rl rfl w0 rfl (ow_len tok rfl rfl rfl rfl rfl) ?_
  refine rp rfl w0 rfl (pu_lss rfl rfl) ?_
  refine nx ?_
  refine aw_if h2 rfl (fun hc h2 => ?_) (fun hc h2 => ?_)
  refine sk ?_
  refine aw_seq ?_
  refine aw_block ?_
  refine sq [0,1,2,3,4,5] ?_
  refine rp rfl w0 rfl (pu_move (r := .own _ _ _) rfl) ?_
  refine pm ?_
  refine pm ?_
  obtain ⟨v7, hv7, h2⟩ := bnd h2
  refine rl rfl w0 rfl (ow_ix tok hv7 rfl rfl rfl rfl rfl rfl rfl rfl) ?_
  refine rl rfl w0 rfl (rw_fa tok (atI_e hv7).2.1 rfl rfl rfl rfl rfl rfl rfl rfl) ?_
  refine rw0 rfl w0 (rw_st (cs := [.d _]) tok (⟨s6.1, v7.Rest, v7.Leap⟩ : LeapRule_) (atI_e hv7).2.1 rfl rfl rfl rfl rfl rfl rfl rfl) ?_
  refine nx ?_
  refine sq [0,1,2] ?_
  refine pm ?_
  refine rp rfl w0 rfl (pw_add rfl rfl) ?_
  refine pa ?_
  refine nx ?_
  refine sq [0,1,2,3,4,5] ?_
  refine rp rfl w0 rfl (pu_move (r := .own _ _ _) rfl) ?_
  refine pm ?_
  refine pm ?_
  obtain ⟨v8, hv8, h2⟩ := bnd h2
  refine rl rfl w0 rfl (ow_ix tok hv8 rfl rfl rfl rfl rfl rfl (by first | (simp; done) | omega | (simp; omega)) rfl) ?_
  refine rl rfl w0 rfl (rw_fa tok (atI_e hv8).2.1 rfl rfl rfl rfl rfl rfl rfl (by first | (simp; done) | omega | (simp; omega))) ?_
  refine rw0 rfl w0 (rw_st (cs := [.d _]) tok (⟨v8.Every, w64 (s6.1 + 1), v8.Leap⟩ : LeapRule_) (atI_e hv8).2.1 rfl rfl rfl rfl rfl rfl rfl (by first | (simp; done) | omega | (simp; omega))) ?_
  refine nx ?_
  refine sq [0,1,2] ?_
  refine pm ?_
  refine rp rfl w0 rfl (pw_add rfl rfl) ?_
  refine pa ?_
  refine nx ?_
  refine sq [0,1,2,3,4,5,6,7] ?_
  refine rp rfl w0 rfl (pu_move (r := .own _ _ _) rfl) ?_
  refine pm ?_
  refine pm ?_
  refine rp rfl w0 rfl (pu_remw rfl rfl (by decide)) ?_
  refine rp rfl w0 rfl (pu_eql rfl rfl) ?_
  obtain ⟨v10, hv10, h2⟩ := bnd h2
  refine rl rfl w0 rfl (ow_ix tok hv10 rfl rfl rfl rfl rfl rfl (by first | (simp; done) | omega | (simp; omega)) rfl) ?_
  refine rl rfl w0 rfl (rw_fa tok (atI_e hv10).2.1 rfl rfl rfl rfl rfl rfl rfl (by first | (simp; done) | omega | (simp; omega))) ?_
  refine rw0 rfl w0 (rw_st (cs := [.d _]) tok (⟨v10.Every, v10.Rest, decide (((w64 ((w64 (s6.1 + 1)) + 1)).tmod 3) = 0)⟩ : LeapRule_) (atI_e hv10).2.1 rfl rfl rfl rfl rfl rfl rfl (by first | (simp; done) | omega | (simp; omega))) ?_
  refine nx ?_
  refine sr [0,1,2] ?_
  refine pm ?_
  refine rp rfl w0 rfl (pw_add rfl rfl) ?_
  refine pa ?_
  refine ra_nil ?_
  refine block_n ?_
  refine then_n ?_
  refine sr [0,1,2] ?_
  refine pm ?_
  refine rp rfl w0 rfl (pw_add rfl rfl) ?_
  refine pa ?_
  refine ra_nil ?_
  refine loop_n ?_
  cases h2
  refine ⟨_, rfl, ?_⟩
  exact wk [0, 1, 2]
  refine aw_exit ?_
  refine then_e ?_
  cases h2
  refine loop_x ⟨_, rfl, fun e => ?_⟩
  subst e
  refine block_hit ?_
  refine then_n ?_
  exact wk [0, 1, 2]
  refine sq [0,1] ?_
  refine pm ?_
  refine pa ?_
  refine nx ?_
  refine aw_ret ?_
  cases h0
  exact retP_ (rs := [.tmp 4]) 1 rfl rfl

theorem l_markCalendar_o_c {p0 : Calendar_} {p1 : Int} {r : Int × List Month_ × List LeapRule_} (h0 : l_markCalendar_o_m p0 p1 = some r) : FnC Tryz.prog 85 [.live [⟨147, 3, .data (List.map cMonth_ p0.Months)⟩], .live [⟨179, 3, .data (List.map cLeapRule_ p0.Rules)⟩]] [.agg [.d (.v (.string p0.Name)), .own 0 0 (p0.Months).length, .own 1 0 (p0.Rules).length, .d (.v (.int .i64 p0.Week))], .d (.v (.int .i64 p1))] [.live [⟨147, 3, .data (List.map cMonth_ r.2.1)⟩], .live [⟨179, 3, .data (List.map cLeapRule_ r.2.2)⟩]] (.d (.v (.int .i64 r.1))) := by
  refine fnc_intro (T := tt) (N := 14) tok Tryz.func85 rfl rfl (by kernel_rfl) rfl rfl ?_
  unfold l_markCalendar_o_m at h0
  refine sq [0,1] ?_
  refine rs rfl w0 rfl (st_box 3 (cs := _ :: _) rfl rfl rfl) ?_
  refine pa ?_
  refine nx ?_
  refine sq [0,1,2,3,4] ?_
  refine fa tok ?_
  refine ld tok ?_
  refine pm ?_
  obtain ⟨v1, hv1, h0⟩ := bnd h0
  obtain ⟨hq2, h0⟩ := chk_e h0
  refine rw1 rfl w0 rfl (c_callP [0] 300 (l_markMonthS_o_c hv1) rfl rfl) ?_
  refine pa ?_
  refine nx ?_
  refine sq [0,1,2,3,4] ?_
  refine fa tok ?_
  refine ld tok ?_
  refine pm ?_
  obtain ⟨v3, hv3, h0⟩ := bnd h0
  obtain ⟨hq4, h0⟩ := chk_e h0
  refine rw1 rfl w0 rfl (c_callP [1] 300 (l_markLeapRuleS_o_c hv3) rfl rfl) ?_
  refine pa ?_
  refine nx ?_
  refine sq [0,1] ?_
  refine pm ?_
  refine pa ?_
  refine nx ?_
  refine aw_ret ?_
  cases h0
  exact retP_ (rs := [.tmp 4]) 2 rfl rfl

theorem l_markMovement_o_c {p0 : Movement_} {p1 : Int} {r : Int × List Arbor_ × List Mesh_ × List Month_ × List LeapRule_ × List Int} (h0 : l_markMovement_o_m p0 p1 = some r) : FnC Tryz.prog 43 [.live [⟨213, 2, .av (nestL 1 cArbor_ p0.Works.Arbors)⟩], .live (famL 2 1 cArbor_ p0.Works.Arbors), .live [⟨215, 4, .data (List.map cMesh_ p0.Works.Meshes)⟩], .live [⟨147, 3, .data (List.map cMonth_ p0.Calendar.Months)⟩], .live [⟨179, 3, .data (List.map cLeapRule_ p0.Calendar.Rules)⟩], .live [⟨2, 1, .data (List.map cI p0.Cam)⟩]] [.agg [.d (.v (.string p0.Name)), .own 0 0 (p0.Works.Arbors).length, .own 2 0 (p0.Works.Meshes).length, .d (.v (.int .i64 p0.Minute)), .d (.v (.int .i64 p0.Hour)), .d (.v (.int .i64 p0.Escape)), .d (.v (.int .i64 p0.Teeth)), .d (.v (.int .i64 p0.Beats)), .d (.v (.string p0.Calendar.Name)), .own 3 0 (p0.Calendar.Months).length, .own 4 0 (p0.Calendar.Rules).length, .d (.v (.int .i64 p0.Calendar.Week)), .own 5 0 (p0.Cam).length, .d (.v (.int .i64 p0.Strike))], .d (.v (.int .i64 p1))] [.live [⟨213, 2, .av (nestL 1 cArbor_ r.2.1)⟩], .live (famL 2 1 cArbor_ r.2.1), .live [⟨215, 4, .data (List.map cMesh_ r.2.2.1)⟩], .live [⟨147, 3, .data (List.map cMonth_ r.2.2.2.1)⟩], .live [⟨179, 3, .data (List.map cLeapRule_ r.2.2.2.2.1)⟩], .live [⟨2, 1, .data (List.map cI r.2.2.2.2.2)⟩]] (.d (.v (.int .i64 r.1))) := by
  refine fnc_introL (L := 6) (T := tt) (N := 18) tok Tryz.func43 rfl rfl (by kernel_rfl) rfl rfl ?_
  unfold l_markMovement_o_m at h0
  refine sq [0,1] ?_
  refine rs rfl w0 rfl (st_box 6 (cs := _ :: _) rfl rfl rfl) ?_
  refine pa ?_
  refine nx ?_
  refine sq [0,1,2,3,4] ?_
  refine fa tok ?_
  refine rl rfl w0 rfl (bx_ldN tok rfl rfl rfl rfl) ?_
  refine pm ?_
  obtain ⟨v1, hv1, h0⟩ := bnd h0
  obtain ⟨hq2, h0⟩ := chk_e h0
  obtain ⟨hq3, h0⟩ := chk_e h0
  refine rw1 rfl w0 rfl (c_callP [0, 1, 2] 300 (l_markWorks_o_c hv1) rfl rfl) ?_
  refine pa ?_
  refine nx ?_
  refine sq [0,1,2,3,4] ?_
  refine fa tok ?_
  refine rl rfl w0 rfl (bx_ldN tok rfl rfl rfl rfl) ?_
  refine pm ?_
  obtain ⟨v4, hv4, h0⟩ := bnd h0
  obtain ⟨hq5, h0⟩ := chk_e h0
  obtain ⟨hq6, h0⟩ := chk_e h0
  refine rw1 rfl w0 rfl (c_callP [3, 4] 300 (l_markCalendar_o_c hv4) rfl rfl) ?_
  refine pa ?_
  refine nx ?_
  refine sq [0,1,2,3,4] ?_
  refine fa tok ?_
  refine ld tok ?_
  refine pm ?_
  obtain ⟨v7, hv7, h0⟩ := bnd h0
  obtain ⟨hq8, h0⟩ := chk_e h0
  refine rw1 rfl w0 rfl (c_callP [5] 300 (l_markInt64S_o_c hv7) rfl rfl) ?_
  refine pa ?_
  refine nx ?_
  refine sq [0,1] ?_
  refine pm ?_
  refine pa ?_
  refine nx ?_
  refine aw_ret ?_
  cases h0
  exact retP_ (rs := [.tmp 4]) 6 rfl rfl

theorem l_markPerpetual_o_c {p0 : Perpetual_} {p1 : Int} {r : Int × List Int} (h0 : l_markPerpetual_o_m p0 p1 = some r) : FnC Tryz.prog 44 [.live [⟨2, 1, .data (List.map cI p0.Cam)⟩]] [.agg [.own 0 0 (p0.Cam).length, .d (.v (.int .i64 p0.Months)), .d (.v (.int .i64 p0.Teeth)), .d (.v (.int .i64 p0.At)), .d (.v (.int .i64 p0.Day)), .d (.v (.int .i64 p0.Week)), .d (.v (.int .i64 p0.Weekday))], .d (.v (.int .i64 p1))] [.live [⟨2, 1, .data (List.map cI r.2)⟩]] (.d (.v (.int .i64 r.1))) := by
  refine fnc_intro (T := tt) (N := 10) tok Tryz.func44 rfl rfl (by kernel_rfl) rfl rfl ?_
  unfold l_markPerpetual_o_m at h0
  refine sq [0,1] ?_
  refine rs rfl w0 rfl (st_box 3 (cs := _ :: _) rfl rfl rfl) ?_
  refine pa ?_
  refine nx ?_
  refine sq [0,1,2,3,4] ?_
  refine fa tok ?_
  refine ld tok ?_
  refine pm ?_
  obtain ⟨v1, hv1, h0⟩ := bnd h0
  obtain ⟨hq2, h0⟩ := chk_e h0
  refine rw1 rfl w0 rfl (c_callP [0] 300 (l_markInt64S_o_c hv1) rfl rfl) ?_
  refine pa ?_
  refine nx ?_
  refine sq [0,1] ?_
  refine pm ?_
  refine pa ?_
  refine nx ?_
  refine aw_ret ?_
  cases h0
  exact retP_ (rs := [.tmp 4]) 1 rfl rfl

theorem l_markSim_o_c {p0 : Sim_} {p1 : Int} {r : Int × List Arbor_ × List Mesh_ × List Month_ × List LeapRule_ × List Int × List Int} (h0 : l_markSim_o_m p0 p1 = some r) : FnC Tryz.prog 12 [.live [⟨213, 2, .av (nestL 1 cArbor_ p0.Movement.Works.Arbors)⟩], .live (famL 2 1 cArbor_ p0.Movement.Works.Arbors), .live [⟨215, 4, .data (List.map cMesh_ p0.Movement.Works.Meshes)⟩], .live [⟨147, 3, .data (List.map cMonth_ p0.Movement.Calendar.Months)⟩], .live [⟨179, 3, .data (List.map cLeapRule_ p0.Movement.Calendar.Rules)⟩], .live [⟨2, 1, .data (List.map cI p0.Movement.Cam)⟩], .live [⟨2, 1, .data (List.map cI p0.Dial.Cam)⟩]] [.agg [.d (.v (.string p0.Movement.Name)), .own 0 0 (p0.Movement.Works.Arbors).length, .own 2 0 (p0.Movement.Works.Meshes).length, .d (.v (.int .i64 p0.Movement.Minute)), .d (.v (.int .i64 p0.Movement.Hour)), .d (.v (.int .i64 p0.Movement.Escape)), .d (.v (.int .i64 p0.Movement.Teeth)), .d (.v (.int .i64 p0.Movement.Beats)), .d (.v (.string p0.Movement.Calendar.Name)), .own 3 0 (p0.Movement.Calendar.Months).length, .own 4 0 (p0.Movement.Calendar.Rules).length, .d (.v (.int .i64 p0.Movement.Calendar.Week)), .own 5 0 (p0.Movement.Cam).length, .d (.v (.int .i64 p0.Movement.Strike)), .d (.v (.int .i64 p0.Start.Year)), .d (.v (.int .i64 p0.Start.Month)), .d (.v (.int .i64 p0.Start.Day)), .d (.v (.int .i64 p0.First)), .d (.v (.int .i64 p0.Clock)), .own 6 0 (p0.Dial.Cam).length, .d (.v (.int .i64 p0.Dial.Months)), .d (.v (.int .i64 p0.Dial.Teeth)), .d (.v (.int .i64 p0.Dial.At)), .d (.v (.int .i64 p0.Dial.Day)), .d (.v (.int .i64 p0.Dial.Week)), .d (.v (.int .i64 p0.Dial.Weekday))], .d (.v (.int .i64 p1))] [.live [⟨213, 2, .av (nestL 1 cArbor_ r.2.1)⟩], .live (famL 2 1 cArbor_ r.2.1), .live [⟨215, 4, .data (List.map cMesh_ r.2.2.1)⟩], .live [⟨147, 3, .data (List.map cMonth_ r.2.2.2.1)⟩], .live [⟨179, 3, .data (List.map cLeapRule_ r.2.2.2.2.1)⟩], .live [⟨2, 1, .data (List.map cI r.2.2.2.2.2.1)⟩], .live [⟨2, 1, .data (List.map cI r.2.2.2.2.2.2)⟩]] (.d (.v (.int .i64 r.1))) := by
  refine fnc_introL (L := 7) (T := tt) (N := 14) tok Tryz.func12 rfl rfl (by kernel_rfl) rfl rfl ?_
  unfold l_markSim_o_m at h0
  refine sq [0,1] ?_
  refine rs rfl w0 rfl (st_box 7 (cs := _ :: _) rfl rfl rfl) ?_
  refine pa ?_
  refine nx ?_
  refine sq [0,1,2,3,4] ?_
  refine fa tok ?_
  refine rl rfl w0 rfl (bx_ldN tok rfl rfl rfl rfl) ?_
  refine pm ?_
  obtain ⟨v1, hv1, h0⟩ := bnd h0
  obtain ⟨hq2, h0⟩ := chk_e h0
  obtain ⟨hq3, h0⟩ := chk_e h0
  obtain ⟨hq4, h0⟩ := chk_e h0
  obtain ⟨hq5, h0⟩ := chk_e h0
  obtain ⟨hq6, h0⟩ := chk_e h0
  refine rw1 rfl w0 rfl (c_callP [0, 1, 2, 3, 4, 5] 300 (l_markMovement_o_c hv1) rfl rfl) ?_
  refine pa ?_
  refine nx ?_
  refine sq [0,1,2,3,4] ?_
  refine fa tok ?_
  refine rl rfl w0 rfl (bx_ldN tok rfl rfl rfl rfl) ?_
  refine pm ?_
  obtain ⟨v7, hv7, h0⟩ := bnd h0
  obtain ⟨hq8, h0⟩ := chk_e h0
  refine rw1 rfl w0 rfl (c_callP [6] 300 (l_markPerpetual_o_c hv7) rfl rfl) ?_
  refine pa ?_
  refine nx ?_
  refine sq [0,1] ?_
  refine pm ?_
  refine pa ?_
  refine nx ?_
  refine aw_ret ?_
  cases h0
  exact retP_ (rs := [.tmp 4]) 7 rfl rfl

theorem l_heldInt64S_c {p0 : List Int} {p1 : Int} {r : Int} (h0 : l_heldInt64S_m p0 p1 = some r) : FnC Tryz.prog 89 [] [.d (.sl (List.map cI p0)), .d (.v (.int .i64 p1))] [] (.d (.v (.int .i64 r))) := by
  refine fnc_intro (T := tt) (N := 21) tok Tryz.func89 rfl rfl (by kernel_rfl) rfl rfl ?_
  unfold l_heldInt64S_m at h0
  refine sq [0] ?_
  refine pa ?_
  refine nx ?_
  obtain ⟨v5x, h1, h0⟩ := bnd h0
  refine aw_cutE v5x (fun v5 => ⟨updA ((fun _ => .dead)) 1 (.d (.v (.int .i64 v5))), lks [.no, .no, .no]⟩) ?_ ?_
  refine sq [0] ?_
  refine pa ?_
  refine nx ?_
  refine aw_block ?_
  refine aw_loopM (fun s3 => ⟨updA (updA (updA ((fun _ => .dead)) 0 (.d (.sl (List.map cI p0)))) 1 (.d (.v (.int .i64 s3.1)))) 5 (.d (.v (.int .i64 s3.2))), lks [.no, .no, .no]⟩) h1 ?_ (fun s3 y h2 => ?_)
  exact wk [0, 1, 2]
  refine aw_seq ?_
  refine sq [0,1,2,3] ?_
  refine pm ?_
  refine pm ?_
  refine rp rfl w0 rfl (pu_len_map tok rfl rfl rfl) ?_
  refine rp rfl w0 rfl (pu_lss rfl rfl) ?_
  refine nx ?_
  refine aw_if h2 rfl (fun hc h2 => ?_) (fun hc h2 => ?_)
  refine sk ?_
  refine aw_seq ?_
  refine aw_block ?_
  refine aw_seq ?_
  refine sq [0,1,2,3,4,5] ?_
  refine pm ?_
  refine pm ?_
  obtain ⟨v4, hv4, h2⟩ := bnd h2
  refine rp rfl w0 rfl (sl_ix tok hv4 rfl rfl rfl rfl rfl rfl) ?_
  refine lr tok ?_
  refine pm ?_
  refine rp rfl w0 rfl (pu_neq rfl rfl) ?_
  refine nx ?_
  refine aw_if h2 rfl (fun hc h2 => ?_) (fun hc h2 => ?_)
  refine sq [0] ?_
  refine pa ?_
  refine nx ?_
  refine aw_ret ?_
  refine then_r ?_
  refine block_r ?_
  refine then_r ?_
  cases h2
  refine loop_r ⟨_, rfl, fun e => ?_⟩
  subst e
  refine block_r ?_
  replace h0 := orE_s h0
  refine then_r ?_
  cases h0
  exact ret0_ (rs := [.tmp 4]) rfl
  refine sk ?_
  refine sr [0,1,2] ?_
  refine pm ?_
  refine rp rfl w0 rfl (pw_add rfl rfl) ?_
  refine pa ?_
  refine ra_nil ?_
  refine block_n ?_
  refine then_n ?_
  refine sr [0,1,2] ?_
  refine pm ?_
  refine rp rfl w0 rfl (pw_add rfl rfl) ?_
  refine pa ?_
  refine ra_nil ?_
  refine loop_n ?_
  cases h2
  refine ⟨_, rfl, ?_⟩
  exact wk [0, 1, 2]
  refine aw_exit ?_
  refine then_e ?_
  cases h2
  refine loop_x ⟨_, rfl, fun e => ?_⟩
  subst e
  refine block_hit ?_
  refine then_n ?_
  refine ⟨_, rfl, ?_⟩
  exact wk [0, 1, 2]
  rintro v5 rfl
  replace h0 := orE_f h0
  refine sq [0,1] ?_
  refine pm ?_
  refine pa ?_
  refine nx ?_
  refine aw_ret ?_
  cases h0
  exact ret0_ (rs := [.tmp 4]) rfl

theorem l_heldArborS_c {p0 : List Arbor_} {p1 : Int} {r : Int} (h0 : l_heldArborS_m p0 p1 = some r) : FnC Tryz.prog 148 [] [.d (.sl (List.map cArbor_ p0)), .d (.v (.int .i64 p1))] [] (.d (.v (.int .i64 r))) := by
  refine fnc_intro (T := tt) (N := 32) tok Tryz.func148 rfl rfl (by kernel_rfl) rfl rfl ?_
  unfold l_heldArborS_m at h0
  refine sq [0] ?_
  refine pa ?_
  refine nx ?_
  obtain ⟨v11x, h1, h0⟩ := bnd h0
  refine aw_cutE v11x (fun v11 => ⟨updA ((fun _ => .dead)) 1 (.d (.v (.int .i64 v11))), lks [.no, .no, .no]⟩) ?_ ?_
  refine sq [0] ?_
  refine pa ?_
  refine nx ?_
  refine aw_block ?_
  refine aw_loopM (fun s6 => ⟨updA (updA (updA ((fun _ => .dead)) 0 (.d (.sl (List.map cArbor_ p0)))) 1 (.d (.v (.int .i64 s6.1)))) 5 (.d (.v (.int .i64 s6.2))), lks [.no, .no, .no]⟩) h1 ?_ (fun s6 y h2 => ?_)
  exact wk [0, 1, 2]
  refine aw_seq ?_
  refine sq [0,1,2,3] ?_
  refine pm ?_
  refine pm ?_
  refine rp rfl w0 rfl (pu_len_map tok rfl rfl rfl) ?_
  refine rp rfl w0 rfl (pu_lss rfl rfl) ?_
  refine nx ?_
  refine aw_if h2 rfl (fun hc h2 => ?_) (fun hc h2 => ?_)
  refine sk ?_
  refine aw_seq ?_
  refine aw_block ?_
  refine aw_seq ?_
  refine aw_seq ?_
  refine aw_region_draw (is := [0, 1, 2, 3, 4, 5, 6, 7]) [0, 0, 3, 7, 15, 0, 32, 127] follows (by kernel_rfl) ?_
  refine tpm ?_
  refine tpm ?_
  obtain ⟨v7, hv7, h2⟩ := bnd h2
  refine rt_p rfl w0 rfl (sl_ix tok hv7 rfl rfl rfl rfl rfl rfl) ?_
  refine tfr tok ?_
  refine tlr tok ?_
  refine tpm ?_
  obtain ⟨v8, hv8, h2⟩ := bnd h2
  refine rt_c rfl w0 rfl (b_call 3 (l_markText_c hv8) rfl rfl rfl) ?_
  refine rt_p rfl w0 rfl (pu_sneq rfl rfl) ?_
  refine rt_nil ?_
  refine ⟨by kernel_rfl, ?_⟩
  refine then_n ?_
  refine aw_if h2 rfl (fun hc h2 => ?_) (fun hc h2 => ?_)
  refine sq [0] ?_
  refine pa ?_
  refine nx ?_
  refine aw_ret ?_
  refine then_r ?_
  refine block_r ?_
  refine then_r ?_
  cases h2
  refine loop_r ⟨_, rfl, fun e => ?_⟩
  subst e
  refine block_r ?_
  replace h0 := orE_s h0
  refine then_r ?_
  cases h0
  exact ret0_ (rs := [.tmp 4]) rfl
  refine sk ?_
  refine sq [0,1,2] ?_
  refine pm ?_
  refine rp rfl w0 rfl (pw_add rfl rfl) ?_
  refine pa ?_
  refine nx ?_
  refine sq [0,1,2,3,4,5,6,7] ?_
  refine pm ?_
  refine pm ?_
  obtain ⟨v9, hv9, h2⟩ := bnd h2
  refine rp rfl w0 rfl (sl_ix tok hv9 rfl rfl rfl rfl rfl rfl) ?_
  refine fr tok ?_
  refine lr tok ?_
  refine pm ?_
  obtain ⟨v10, hv10, h2⟩ := bnd h2
  refine rs rfl w0 rfl (c_call 3 (l_heldInt64S_c hv10) rfl rfl rfl) ?_
  refine pa ?_
  refine nx ?_
  refine sq [0,1] ?_
  refine pm ?_
  refine rp rfl w0 rfl (pu_lss rfl rfl) ?_
  refine nx ?_
  refine aw_if h2 rfl (fun hc h2 => ?_) (fun hc h2 => ?_)
  refine sq [0] ?_
  refine pa ?_
  refine nx ?_
  refine aw_ret ?_
  refine block_r ?_
  refine then_r ?_
  cases h2
  refine loop_r ⟨_, rfl, fun e => ?_⟩
  subst e
  refine block_r ?_
  replace h0 := orE_s h0
  refine then_r ?_
  cases h0
  exact ret0_ (rs := [.tmp 4]) rfl
  refine aw_skip ?_
  refine block_n ?_
  refine then_n ?_
  refine sr [0,1,2] ?_
  refine pm ?_
  refine rp rfl w0 rfl (pw_add rfl rfl) ?_
  refine pa ?_
  refine ra_nil ?_
  refine loop_n ?_
  cases h2
  refine ⟨_, rfl, ?_⟩
  exact wk [0, 1, 2]
  refine aw_exit ?_
  refine then_e ?_
  cases h2
  refine loop_x ⟨_, rfl, fun e => ?_⟩
  subst e
  refine block_hit ?_
  refine then_n ?_
  refine ⟨_, rfl, ?_⟩
  exact wk [0, 1, 2]
  rintro v11 rfl
  replace h0 := orE_f h0
  refine sq [0,1] ?_
  refine pm ?_
  refine pa ?_
  refine nx ?_
  refine aw_ret ?_
  cases h0
  exact ret0_ (rs := [.tmp 4]) rfl

theorem l_heldMeshS_c {p0 : List Mesh_} {p1 : Int} {r : Int} (h0 : l_heldMeshS_m p0 p1 = some r) : FnC Tryz.prog 149 [] [.d (.sl (List.map cMesh_ p0)), .d (.v (.int .i64 p1))] [] (.d (.v (.int .i64 r))) := by
  refine fnc_intro (T := tt) (N := 49) tok Tryz.func149 rfl rfl (by kernel_rfl) rfl rfl ?_
  unfold l_heldMeshS_m at h0
  refine sq [0] ?_
  refine pa ?_
  refine nx ?_
  obtain ⟨v11x, h1, h0⟩ := bnd h0
  refine aw_cutE v11x (fun v11 => ⟨updA ((fun _ => .dead)) 1 (.d (.v (.int .i64 v11))), lks [.no, .no, .no]⟩) ?_ ?_
  refine sq [0] ?_
  refine pa ?_
  refine nx ?_
  refine aw_block ?_
  refine aw_loopM (fun s6 => ⟨updA (updA (updA ((fun _ => .dead)) 0 (.d (.sl (List.map cMesh_ p0)))) 1 (.d (.v (.int .i64 s6.1)))) 5 (.d (.v (.int .i64 s6.2))), lks [.no, .no, .no]⟩) h1 ?_ (fun s6 y h2 => ?_)
  exact wk [0, 1, 2]
  refine aw_seq ?_
  refine sq [0,1,2,3] ?_
  refine pm ?_
  refine pm ?_
  refine rp rfl w0 rfl (pu_len_map tok rfl rfl rfl) ?_
  refine rp rfl w0 rfl (pu_lss rfl rfl) ?_
  refine nx ?_
  refine aw_if h2 rfl (fun hc h2 => ?_) (fun hc h2 => ?_)
  refine sk ?_
  refine aw_seq ?_
  refine aw_block ?_
  refine aw_seq ?_
  refine sq [0,1,2,3,4,5,6] ?_
  refine pm ?_
  refine pm ?_
  obtain ⟨v7, hv7, h2⟩ := bnd h2
  refine rp rfl w0 rfl (sl_ix tok hv7 rfl rfl rfl rfl rfl rfl) ?_
  refine fr tok ?_
  refine lr tok ?_
  refine pm ?_
  refine rp rfl w0 rfl (pu_neq rfl rfl) ?_
  refine nx ?_
  refine aw_if h2 rfl (fun hc h2 => ?_) (fun hc h2 => ?_)
  refine sq [0] ?_
  refine pa ?_
  refine nx ?_
  refine aw_ret ?_
  refine then_r ?_
  refine block_r ?_
  refine then_r ?_
  cases h2
  refine loop_r ⟨_, rfl, fun e => ?_⟩
  subst e
  refine block_r ?_
  replace h0 := orE_s h0
  refine then_r ?_
  cases h0
  exact ret0_ (rs := [.tmp 4]) rfl
  refine sk ?_
  refine sq [0,1,2] ?_
  refine pm ?_
  refine rp rfl w0 rfl (pw_add rfl rfl) ?_
  refine pa ?_
  refine nx ?_
  refine aw_seq ?_
  refine sq [0,1,2,3,4,5,6] ?_
  refine pm ?_
  refine pm ?_
  obtain ⟨v8, hv8, h2⟩ := bnd h2
  refine rp rfl w0 rfl (sl_ix tok hv8 rfl rfl rfl rfl rfl rfl) ?_
  refine fr tok ?_
  refine lr tok ?_
  refine pm ?_
  refine rp rfl w0 rfl (pu_neq rfl rfl) ?_
  refine nx ?_
  refine aw_if h2 rfl (fun hc h2 => ?_) (fun hc h2 => ?_)
  refine sq [0] ?_
  refine pa ?_
  refine nx ?_
  refine aw_ret ?_
  refine then_r ?_
  refine block_r ?_
  refine then_r ?_
  cases h2
  refine loop_r ⟨_, rfl, fun e => ?_⟩
  subst e
  refine block_r ?_
  replace h0 := orE_s h0
  refine then_r ?_
  cases h0
  exact ret0_ (rs := [.tmp 4]) rfl
  refine sk ?_
  refine sq [0,1,2] ?_
  refine pm ?_
  refine rp rfl w0 rfl (pw_add rfl rfl) ?_
  refine pa ?_
  refine nx ?_
  refine aw_seq ?_
  refine sq [0,1,2,3,4,5,6] ?_
  refine pm ?_
  refine pm ?_
  obtain ⟨v9, hv9, h2⟩ := bnd h2
  refine rp rfl w0 rfl (sl_ix tok hv9 rfl rfl rfl rfl rfl rfl) ?_
  refine fr tok ?_
  refine lr tok ?_
  refine pm ?_
  refine rp rfl w0 rfl (pu_neq rfl rfl) ?_
  refine nx ?_
  refine aw_if h2 rfl (fun hc h2 => ?_) (fun hc h2 => ?_)
  refine sq [0] ?_
  refine pa ?_
  refine nx ?_
  refine aw_ret ?_
  refine then_r ?_
  refine block_r ?_
  refine then_r ?_
  cases h2
  refine loop_r ⟨_, rfl, fun e => ?_⟩
  subst e
  refine block_r ?_
  replace h0 := orE_s h0
  refine then_r ?_
  cases h0
  exact ret0_ (rs := [.tmp 4]) rfl
  refine sk ?_
  refine sq [0,1,2] ?_
  refine pm ?_
  refine rp rfl w0 rfl (pw_add rfl rfl) ?_
  refine pa ?_
  refine nx ?_
  refine aw_seq ?_
  refine sq [0,1,2,3,4,5,6] ?_
  refine pm ?_
  refine pm ?_
  obtain ⟨v10, hv10, h2⟩ := bnd h2
  refine rp rfl w0 rfl (sl_ix tok hv10 rfl rfl rfl rfl rfl rfl) ?_
  refine fr tok ?_
  refine lr tok ?_
  refine pm ?_
  refine rp rfl w0 rfl (pu_neq rfl rfl) ?_
  refine nx ?_
  refine aw_if h2 rfl (fun hc h2 => ?_) (fun hc h2 => ?_)
  refine sq [0] ?_
  refine pa ?_
  refine nx ?_
  refine aw_ret ?_
  refine then_r ?_
  refine block_r ?_
  refine then_r ?_
  cases h2
  refine loop_r ⟨_, rfl, fun e => ?_⟩
  subst e
  refine block_r ?_
  replace h0 := orE_s h0
  refine then_r ?_
  cases h0
  exact ret0_ (rs := [.tmp 4]) rfl
  refine sk ?_
  refine sr [0,1,2] ?_
  refine pm ?_
  refine rp rfl w0 rfl (pw_add rfl rfl) ?_
  refine pa ?_
  refine ra_nil ?_
  refine block_n ?_
  refine then_n ?_
  refine sr [0,1,2] ?_
  refine pm ?_
  refine rp rfl w0 rfl (pw_add rfl rfl) ?_
  refine pa ?_
  refine ra_nil ?_
  refine loop_n ?_
  cases h2
  refine ⟨_, rfl, ?_⟩
  exact wk [0, 1, 2]
  refine aw_exit ?_
  refine then_e ?_
  cases h2
  refine loop_x ⟨_, rfl, fun e => ?_⟩
  subst e
  refine block_hit ?_
  refine then_n ?_
  refine ⟨_, rfl, ?_⟩
  exact wk [0, 1, 2]
  rintro v11 rfl
  replace h0 := orE_f h0
  refine sq [0,1] ?_
  refine pm ?_
  refine pa ?_
  refine nx ?_
  refine aw_ret ?_
  cases h0
  exact ret0_ (rs := [.tmp 4]) rfl

theorem l_heldWorks_c {p0 : Works_} {p1 : Int} {r : Int} (h0 : l_heldWorks_m p0 p1 = some r) : FnC Tryz.prog 87 [] [.agg [.d (.sl (List.map cArbor_ p0.Arbors)), .d (.sl (List.map cMesh_ p0.Meshes))], .d (.v (.int .i64 p1))] [] (.d (.v (.int .i64 r))) := by
  refine fnc_intro (T := tt) (N := 18) tok Tryz.func87 rfl rfl (by kernel_rfl) rfl rfl ?_
  unfold l_heldWorks_m at h0
  refine sq [0,1] ?_
  refine rs rfl w0 rfl (st_box 3 (cs := _ :: _) rfl rfl rfl) ?_
  refine pa ?_
  refine nx ?_
  refine sq [0,1,2,3,4] ?_
  refine fa tok ?_
  refine ld tok ?_
  refine pm ?_
  obtain ⟨v1, hv1, h0⟩ := bnd h0
  refine rs rfl w0 rfl (c_call 4 (l_heldArborS_c hv1) rfl rfl rfl) ?_
  refine pa ?_
  refine nx ?_
  refine aw_seq ?_
  refine sq [0,1] ?_
  refine pm ?_
  refine rp rfl w0 rfl (pu_lss rfl rfl) ?_
  refine nx ?_
  refine aw_if h0 rfl (fun hc h0 => ?_) (fun hc h0 => ?_)
  refine sq [0] ?_
  refine pa ?_
  refine nx ?_
  refine aw_ret ?_
  refine then_r ?_
  cases h0
  exact ret0_ (rs := [.tmp 4]) rfl
  refine sk ?_
  refine sq [0,1,2,3,4] ?_
  refine fa tok ?_
  refine ld tok ?_
  refine pm ?_
  obtain ⟨v2, hv2, h0⟩ := bnd h0
  refine rs rfl w0 rfl (c_call 4 (l_heldMeshS_c hv2) rfl rfl rfl) ?_
  refine pa ?_
  refine nx ?_
  refine aw_seq ?_
  refine sq [0,1] ?_
  refine pm ?_
  refine rp rfl w0 rfl (pu_lss rfl rfl) ?_
  refine nx ?_
  refine aw_if h0 rfl (fun hc h0 => ?_) (fun hc h0 => ?_)
  refine sq [0] ?_
  refine pa ?_
  refine nx ?_
  refine aw_ret ?_
  refine then_r ?_
  cases h0
  exact ret0_ (rs := [.tmp 4]) rfl
  refine sk ?_
  refine sq [0,1] ?_
  refine pm ?_
  refine pa ?_
  refine nx ?_
  refine aw_ret ?_
  cases h0
  exact ret0_ (rs := [.tmp 4]) rfl

theorem l_heldMonthS_c {p0 : List Month_} {p1 : Int} {r : Int} (h0 : l_heldMonthS_m p0 p1 = some r) : FnC Tryz.prog 150 [] [.d (.sl (List.map cMonth_ p0)), .d (.v (.int .i64 p1))] [] (.d (.v (.int .i64 r))) := by
  refine fnc_intro (T := tt) (N := 41) tok Tryz.func150 rfl rfl (by kernel_rfl) rfl rfl ?_
  unfold l_heldMonthS_m at h0
  refine sq [0] ?_
  refine pa ?_
  refine nx ?_
  obtain ⟨v11x, h1, h0⟩ := bnd h0
  refine aw_cutE v11x (fun v11 => ⟨updA ((fun _ => .dead)) 1 (.d (.v (.int .i64 v11))), lks [.no, .no, .no]⟩) ?_ ?_
  refine sq [0] ?_
  refine pa ?_
  refine nx ?_
  refine aw_block ?_
  refine aw_loopM (fun s6 => ⟨updA (updA (updA ((fun _ => .dead)) 0 (.d (.sl (List.map cMonth_ p0)))) 1 (.d (.v (.int .i64 s6.1)))) 5 (.d (.v (.int .i64 s6.2))), lks [.no, .no, .no]⟩) h1 ?_ (fun s6 y h2 => ?_)
  exact wk [0, 1, 2]
  refine aw_seq ?_
  refine sq [0,1,2,3] ?_
  refine pm ?_
  refine pm ?_
  refine rp rfl w0 rfl (pu_len_map tok rfl rfl rfl) ?_
  refine rp rfl w0 rfl (pu_lss rfl rfl) ?_
  refine nx ?_
  refine aw_if h2 rfl (fun hc h2 => ?_) (fun hc h2 => ?_)
  refine sk ?_
  refine aw_seq ?_
  refine aw_block ?_
  refine aw_seq ?_
  refine aw_seq ?_
  refine aw_region_draw (is := [0, 1, 2, 3, 4, 5, 6, 7]) [0, 0, 3, 7, 15, 0, 32, 127] follows (by kernel_rfl) ?_
  refine tpm ?_
  refine tpm ?_
  obtain ⟨v7, hv7, h2⟩ := bnd h2
  refine rt_p rfl w0 rfl (sl_ix tok hv7 rfl rfl rfl rfl rfl rfl) ?_
  refine tfr tok ?_
  refine tlr tok ?_
  refine tpm ?_
  obtain ⟨v8, hv8, h2⟩ := bnd h2
  refine rt_c rfl w0 rfl (b_call 3 (l_markText_c hv8) rfl rfl rfl) ?_
  refine rt_p rfl w0 rfl (pu_sneq rfl rfl) ?_
  refine rt_nil ?_
  refine ⟨by kernel_rfl, ?_⟩
  refine then_n ?_
  refine aw_if h2 rfl (fun hc h2 => ?_) (fun hc h2 => ?_)
  refine sq [0] ?_
  refine pa ?_
  refine nx ?_
  refine aw_ret ?_
  refine then_r ?_
  refine block_r ?_
  refine then_r ?_
  cases h2
  refine loop_r ⟨_, rfl, fun e => ?_⟩
  subst e
  refine block_r ?_
  replace h0 := orE_s h0
  refine then_r ?_
  cases h0
  exact ret0_ (rs := [.tmp 4]) rfl
  refine sk ?_
  refine sq [0,1,2] ?_
  refine pm ?_
  refine rp rfl w0 rfl (pw_add rfl rfl) ?_
  refine pa ?_
  refine nx ?_
  refine aw_seq ?_
  refine sq [0,1,2,3,4,5,6] ?_
  refine pm ?_
  refine pm ?_
  obtain ⟨v9, hv9, h2⟩ := bnd h2
  refine rp rfl w0 rfl (sl_ix tok hv9 rfl rfl rfl rfl rfl rfl) ?_
  refine fr tok ?_
  refine lr tok ?_
  refine pm ?_
  refine rp rfl w0 rfl (pu_neq rfl rfl) ?_
  refine nx ?_
  refine aw_if h2 rfl (fun hc h2 => ?_) (fun hc h2 => ?_)
  refine sq [0] ?_
  refine pa ?_
  refine nx ?_
  refine aw_ret ?_
  refine then_r ?_
  refine block_r ?_
  refine then_r ?_
  cases h2
  refine loop_r ⟨_, rfl, fun e => ?_⟩
  subst e
  refine block_r ?_
  replace h0 := orE_s h0
  refine then_r ?_
  cases h0
  exact ret0_ (rs := [.tmp 4]) rfl
  refine sk ?_
  refine sq [0,1,2] ?_
  refine pm ?_
  refine rp rfl w0 rfl (pw_add rfl rfl) ?_
  refine pa ?_
  refine nx ?_
  refine aw_seq ?_
  refine sq [0,1,2,3,4,5,6] ?_
  refine pm ?_
  refine pm ?_
  obtain ⟨v10, hv10, h2⟩ := bnd h2
  refine rp rfl w0 rfl (sl_ix tok hv10 rfl rfl rfl rfl rfl rfl) ?_
  refine fr tok ?_
  refine lr tok ?_
  refine pm ?_
  refine rp rfl w0 rfl (pu_neq rfl rfl) ?_
  refine nx ?_
  refine aw_if h2 rfl (fun hc h2 => ?_) (fun hc h2 => ?_)
  refine sq [0] ?_
  refine pa ?_
  refine nx ?_
  refine aw_ret ?_
  refine then_r ?_
  refine block_r ?_
  refine then_r ?_
  cases h2
  refine loop_r ⟨_, rfl, fun e => ?_⟩
  subst e
  refine block_r ?_
  replace h0 := orE_s h0
  refine then_r ?_
  cases h0
  exact ret0_ (rs := [.tmp 4]) rfl
  refine sk ?_
  refine sr [0,1,2] ?_
  refine pm ?_
  refine rp rfl w0 rfl (pw_add rfl rfl) ?_
  refine pa ?_
  refine ra_nil ?_
  refine block_n ?_
  refine then_n ?_
  refine sr [0,1,2] ?_
  refine pm ?_
  refine rp rfl w0 rfl (pw_add rfl rfl) ?_
  refine pa ?_
  refine ra_nil ?_
  refine loop_n ?_
  cases h2
  refine ⟨_, rfl, ?_⟩
  exact wk [0, 1, 2]
  refine aw_exit ?_
  refine then_e ?_
  cases h2
  refine loop_x ⟨_, rfl, fun e => ?_⟩
  subst e
  refine block_hit ?_
  refine then_n ?_
  refine ⟨_, rfl, ?_⟩
  exact wk [0, 1, 2]
  rintro v11 rfl
  replace h0 := orE_f h0
  refine sq [0,1] ?_
  refine pm ?_
  refine pa ?_
  refine nx ?_
  refine aw_ret ?_
  cases h0
  exact ret0_ (rs := [.tmp 4]) rfl

theorem l_heldLeapRuleS_c {p0 : List LeapRule_} {p1 : Int} {r : Int} (h0 : l_heldLeapRuleS_m p0 p1 = some r) : FnC Tryz.prog 151 [] [.d (.sl (List.map cLeapRule_ p0)), .d (.v (.int .i64 p1))] [] (.d (.v (.int .i64 r))) := by
  refine fnc_intro (T := tt) (N := 42) tok Tryz.func151 rfl rfl (by kernel_rfl) rfl rfl ?_
  unfold l_heldLeapRuleS_m at h0
  refine sq [0] ?_
  refine pa ?_
  refine nx ?_
  obtain ⟨v11x, h1, h0⟩ := bnd h0
  refine aw_cutE v11x (fun v11 => ⟨updA ((fun _ => .dead)) 1 (.d (.v (.int .i64 v11))), lks [.no, .no, .no]⟩) ?_ ?_
  refine sq [0] ?_
  refine pa ?_
  refine nx ?_
  refine aw_block ?_
  refine aw_loopM (fun s6 => ⟨updA (updA (updA ((fun _ => .dead)) 0 (.d (.sl (List.map cLeapRule_ p0)))) 1 (.d (.v (.int .i64 s6.1)))) 5 (.d (.v (.int .i64 s6.2))), lks [.no, .no, .no]⟩) h1 ?_ (fun s6 y h2 => ?_)
  exact wk [0, 1, 2]
  refine aw_seq ?_
  refine sq [0,1,2,3] ?_
  refine pm ?_
  refine pm ?_
  refine rp rfl w0 rfl (pu_len_map tok rfl rfl rfl) ?_
  refine rp rfl w0 rfl (pu_lss rfl rfl) ?_
  refine nx ?_
  refine aw_if h2 rfl (fun hc h2 => ?_) (fun hc h2 => ?_)
  refine sk ?_
  refine aw_seq ?_
  refine aw_block ?_
  refine aw_seq ?_
  refine sq [0,1,2,3,4,5,6] ?_
  refine pm ?_
  refine pm ?_
  obtain ⟨v7, hv7, h2⟩ := bnd h2
  refine rp rfl w0 rfl (sl_ix tok hv7 rfl rfl rfl rfl rfl rfl) ?_
  refine fr tok ?_
  refine lr tok ?_
  refine pm ?_
  refine rp rfl w0 rfl (pu_neq rfl rfl) ?_
  refine nx ?_
  refine aw_if h2 rfl (fun hc h2 => ?_) (fun hc h2 => ?_)
  refine sq [0] ?_
  refine pa ?_
  refine nx ?_
  refine aw_ret ?_
  refine then_r ?_
  refine block_r ?_
  refine then_r ?_
  cases h2
  refine loop_r ⟨_, rfl, fun e => ?_⟩
  subst e
  refine block_r ?_
  replace h0 := orE_s h0
  refine then_r ?_
  cases h0
  exact ret0_ (rs := [.tmp 4]) rfl
  refine sk ?_
  refine sq [0,1,2] ?_
  refine pm ?_
  refine rp rfl w0 rfl (pw_add rfl rfl) ?_
  refine pa ?_
  refine nx ?_
  refine aw_seq ?_
  refine sq [0,1,2,3,4,5,6] ?_
  refine pm ?_
  refine pm ?_
  obtain ⟨v8, hv8, h2⟩ := bnd h2
  refine rp rfl w0 rfl (sl_ix tok hv8 rfl rfl rfl rfl rfl rfl) ?_
  refine fr tok ?_
  refine lr tok ?_
  refine pm ?_
  refine rp rfl w0 rfl (pu_neq rfl rfl) ?_
  refine nx ?_
  refine aw_if h2 rfl (fun hc h2 => ?_) (fun hc h2 => ?_)
  refine sq [0] ?_
  refine pa ?_
  refine nx ?_
  refine aw_ret ?_
  refine then_r ?_
  refine block_r ?_
  refine then_r ?_
  cases h2
  refine loop_r ⟨_, rfl, fun e => ?_⟩
  subst e
  refine block_r ?_
  replace h0 := orE_s h0
  refine then_r ?_
  cases h0
  exact ret0_ (rs := [.tmp 4]) rfl
  refine sk ?_
  refine sq [0,1,2] ?_
  refine pm ?_
  refine rp rfl w0 rfl (pw_add rfl rfl) ?_
  refine pa ?_
  refine nx ?_
  refine aw_seq ?_
  refine sq [0,1,2,3,4,5,6,7,8] ?_
  refine pm ?_
  refine pm ?_
  obtain ⟨v9, hv9, h2⟩ := bnd h2
  refine rp rfl w0 rfl (sl_ix tok hv9 rfl rfl rfl rfl rfl rfl) ?_
  refine fr tok ?_
  refine lr tok ?_
  refine pm ?_
  refine rp rfl w0 rfl (pu_remw rfl rfl (by decide)) ?_
  refine rp rfl w0 rfl (pu_eql rfl rfl) ?_
  refine rp rfl w0 rfl (pu_bneq tok rfl rfl rfl rfl) ?_
  refine nx ?_
  refine aw_ifB h2 rfl (fun hc h2 => ?_) (fun hc h2 => ?_)
  refine sq [0] ?_
  refine pa ?_
  refine nx ?_
  refine aw_ret ?_
  refine then_r ?_
  refine block_r ?_
  refine then_r ?_
  cases h2
  refine loop_r ⟨_, rfl, fun e => ?_⟩
  subst e
  refine block_r ?_
  replace h0 := orE_s h0
  refine then_r ?_
  cases h0
  exact ret0_ (rs := [.tmp 4]) rfl
  refine sk ?_
  refine sr [0,1,2] ?_
  refine pm ?_
  refine rp rfl w0 rfl (pw_add rfl rfl) ?_
  refine pa ?_
  refine ra_nil ?_
  refine block_n ?_
  refine then_n ?_
  refine sr [0,1,2] ?_
  refine pm ?_
  refine rp rfl w0 rfl (pw_add rfl rfl) ?_
  refine pa ?_
  refine ra_nil ?_
  refine loop_n ?_
  cases h2
  refine ⟨_, rfl, ?_⟩
  exact wk [0, 1, 2]
  refine aw_exit ?_
  refine then_e ?_
  cases h2
  refine loop_x ⟨_, rfl, fun e => ?_⟩
  subst e
  refine block_hit ?_
  refine then_n ?_
  refine ⟨_, rfl, ?_⟩
  exact wk [0, 1, 2]
  rintro v11 rfl
  replace h0 := orE_f h0
  refine sq [0,1] ?_
  refine pm ?_
  refine pa ?_
  refine nx ?_
  refine aw_ret ?_
  cases h0
  exact ret0_ (rs := [.tmp 4]) rfl

theorem l_heldCalendar_c {p0 : Calendar_} {p1 : Int} {r : Int} (h0 : l_heldCalendar_m p0 p1 = some r) : FnC Tryz.prog 88 [] [.agg [.d (.v (.string p0.Name)), .d (.sl (List.map cMonth_ p0.Months)), .d (.sl (List.map cLeapRule_ p0.Rules)), .d (.v (.int .i64 p0.Week))], .d (.v (.int .i64 p1))] [] (.d (.v (.int .i64 r))) := by
  refine fnc_intro (T := tt) (N := 18) tok Tryz.func88 rfl rfl (by kernel_rfl) rfl rfl ?_
  unfold l_heldCalendar_m at h0
  refine sq [0,1] ?_
  refine rs rfl w0 rfl (st_box 3 (cs := _ :: _) rfl rfl rfl) ?_
  refine pa ?_
  refine nx ?_
  refine sq [0,1,2,3,4] ?_
  refine fa tok ?_
  refine ld tok ?_
  refine pm ?_
  obtain ⟨v1, hv1, h0⟩ := bnd h0
  refine rs rfl w0 rfl (c_call 4 (l_heldMonthS_c hv1) rfl rfl rfl) ?_
  refine pa ?_
  refine nx ?_
  refine aw_seq ?_
  refine sq [0,1] ?_
  refine pm ?_
  refine rp rfl w0 rfl (pu_lss rfl rfl) ?_
  refine nx ?_
  refine aw_if h0 rfl (fun hc h0 => ?_) (fun hc h0 => ?_)
  refine sq [0] ?_
  refine pa ?_
  refine nx ?_
  refine aw_ret ?_
  refine then_r ?_
  cases h0
  exact ret0_ (rs := [.tmp 4]) rfl
  refine sk ?_
  refine sq [0,1,2,3,4] ?_
  refine fa tok ?_
  refine ld tok ?_
  refine pm ?_
  obtain ⟨v2, hv2, h0⟩ := bnd h0
  refine rs rfl w0 rfl (c_call 4 (l_heldLeapRuleS_c hv2) rfl rfl rfl) ?_
  refine pa ?_
  refine nx ?_
  refine aw_seq ?_
  refine sq [0,1] ?_
  refine pm ?_
  refine rp rfl w0 rfl (pu_lss rfl rfl) ?_
  refine nx ?_
  refine aw_if h0 rfl (fun hc h0 => ?_) (fun hc h0 => ?_)
  refine sq [0] ?_
  refine pa ?_
  refine nx ?_
  refine aw_ret ?_
  refine then_r ?_
  cases h0
  exact ret0_ (rs := [.tmp 4]) rfl
  refine sk ?_
  refine sq [0,1] ?_
  refine pm ?_
  refine pa ?_
  refine nx ?_
  refine aw_ret ?_
  cases h0
  exact ret0_ (rs := [.tmp 4]) rfl

theorem l_heldMovement_c {p0 : Movement_} {p1 : Int} {r : Int} (h0 : l_heldMovement_m p0 p1 = some r) : FnC Tryz.prog 45 [] [.agg [.d (.v (.string p0.Name)), .d (.sl (List.map cArbor_ p0.Works.Arbors)), .d (.sl (List.map cMesh_ p0.Works.Meshes)), .d (.v (.int .i64 p0.Minute)), .d (.v (.int .i64 p0.Hour)), .d (.v (.int .i64 p0.Escape)), .d (.v (.int .i64 p0.Teeth)), .d (.v (.int .i64 p0.Beats)), .d (.v (.string p0.Calendar.Name)), .d (.sl (List.map cMonth_ p0.Calendar.Months)), .d (.sl (List.map cLeapRule_ p0.Calendar.Rules)), .d (.v (.int .i64 p0.Calendar.Week)), .d (.sl (List.map cI p0.Cam)), .d (.v (.int .i64 p0.Strike))], .d (.v (.int .i64 p1))] [] (.d (.v (.int .i64 r))) := by
  refine fnc_intro (T := tt) (N := 24) tok Tryz.func45 rfl rfl (by kernel_rfl) rfl rfl ?_
  unfold l_heldMovement_m at h0
  refine sq [0,1] ?_
  refine rs rfl w0 rfl (st_box 3 (cs := _ :: _) rfl rfl rfl) ?_
  refine pa ?_
  refine nx ?_
  refine sq [0,1,2,3,4] ?_
  refine fa tok ?_
  refine rl rfl w0 rfl (bx_ldN tok rfl rfl rfl rfl) ?_
  refine pm ?_
  obtain ⟨v1, hv1, h0⟩ := bnd h0
  refine rs rfl w0 rfl (c_call 4 (l_heldWorks_c hv1) rfl rfl rfl) ?_
  refine pa ?_
  refine nx ?_
  refine aw_seq ?_
  refine sq [0,1] ?_
  refine pm ?_
  refine rp rfl w0 rfl (pu_lss rfl rfl) ?_
  refine nx ?_
  refine aw_if h0 rfl (fun hc h0 => ?_) (fun hc h0 => ?_)
  refine sq [0] ?_
  refine pa ?_
  refine nx ?_
  refine aw_ret ?_
  refine then_r ?_
  cases h0
  exact ret0_ (rs := [.tmp 4]) rfl
  refine sk ?_
  refine sq [0,1,2,3,4] ?_
  refine fa tok ?_
  refine rl rfl w0 rfl (bx_ldN tok rfl rfl rfl rfl) ?_
  refine pm ?_
  obtain ⟨v2, hv2, h0⟩ := bnd h0
  refine rs rfl w0 rfl (c_call 4 (l_heldCalendar_c hv2) rfl rfl rfl) ?_
  refine pa ?_
  refine nx ?_
  refine aw_seq ?_
  refine sq [0,1] ?_
  refine pm ?_
  refine rp rfl w0 rfl (pu_lss rfl rfl) ?_
  refine nx ?_
  refine aw_if h0 rfl (fun hc h0 => ?_) (fun hc h0 => ?_)
  refine sq [0] ?_
  refine pa ?_
  refine nx ?_
  refine aw_ret ?_
  refine then_r ?_
  cases h0
  exact ret0_ (rs := [.tmp 4]) rfl
  refine sk ?_
  refine sq [0,1,2,3,4] ?_
  refine fa tok ?_
  refine ld tok ?_
  refine pm ?_
  obtain ⟨v3, hv3, h0⟩ := bnd h0
  refine rs rfl w0 rfl (c_call 4 (l_heldInt64S_c hv3) rfl rfl rfl) ?_
  refine pa ?_
  refine nx ?_
  refine aw_seq ?_
  refine sq [0,1] ?_
  refine pm ?_
  refine rp rfl w0 rfl (pu_lss rfl rfl) ?_
  refine nx ?_
  refine aw_if h0 rfl (fun hc h0 => ?_) (fun hc h0 => ?_)
  refine sq [0] ?_
  refine pa ?_
  refine nx ?_
  refine aw_ret ?_
  refine then_r ?_
  cases h0
  exact ret0_ (rs := [.tmp 4]) rfl
  refine sk ?_
  refine sq [0,1] ?_
  refine pm ?_
  refine pa ?_
  refine nx ?_
  refine aw_ret ?_
  cases h0
  exact ret0_ (rs := [.tmp 4]) rfl

theorem l_heldPerpetual_c {p0 : Perpetual_} {p1 : Int} {r : Int} (h0 : l_heldPerpetual_m p0 p1 = some r) : FnC Tryz.prog 46 [] [.agg [.d (.sl (List.map cI p0.Cam)), .d (.v (.int .i64 p0.Months)), .d (.v (.int .i64 p0.Teeth)), .d (.v (.int .i64 p0.At)), .d (.v (.int .i64 p0.Day)), .d (.v (.int .i64 p0.Week)), .d (.v (.int .i64 p0.Weekday))], .d (.v (.int .i64 p1))] [] (.d (.v (.int .i64 r))) := by
  refine fnc_intro (T := tt) (N := 12) tok Tryz.func46 rfl rfl (by kernel_rfl) rfl rfl ?_
  unfold l_heldPerpetual_m at h0
  refine sq [0,1] ?_
  refine rs rfl w0 rfl (st_box 3 (cs := _ :: _) rfl rfl rfl) ?_
  refine pa ?_
  refine nx ?_
  refine sq [0,1,2,3,4] ?_
  refine fa tok ?_
  refine ld tok ?_
  refine pm ?_
  obtain ⟨v1, hv1, h0⟩ := bnd h0
  refine rs rfl w0 rfl (c_call 4 (l_heldInt64S_c hv1) rfl rfl rfl) ?_
  refine pa ?_
  refine nx ?_
  refine aw_seq ?_
  refine sq [0,1] ?_
  refine pm ?_
  refine rp rfl w0 rfl (pu_lss rfl rfl) ?_
  refine nx ?_
  refine aw_if h0 rfl (fun hc h0 => ?_) (fun hc h0 => ?_)
  refine sq [0] ?_
  refine pa ?_
  refine nx ?_
  refine aw_ret ?_
  refine then_r ?_
  cases h0
  exact ret0_ (rs := [.tmp 4]) rfl
  refine sk ?_
  refine sq [0,1] ?_
  refine pm ?_
  refine pa ?_
  refine nx ?_
  refine aw_ret ?_
  cases h0
  exact ret0_ (rs := [.tmp 4]) rfl

theorem l_heldSim_c {p0 : Sim_} {p1 : Int} {r : Int} (h0 : l_heldSim_m p0 p1 = some r) : FnC Tryz.prog 13 [] [.agg [.d (.v (.string p0.Movement.Name)), .d (.sl (List.map cArbor_ p0.Movement.Works.Arbors)), .d (.sl (List.map cMesh_ p0.Movement.Works.Meshes)), .d (.v (.int .i64 p0.Movement.Minute)), .d (.v (.int .i64 p0.Movement.Hour)), .d (.v (.int .i64 p0.Movement.Escape)), .d (.v (.int .i64 p0.Movement.Teeth)), .d (.v (.int .i64 p0.Movement.Beats)), .d (.v (.string p0.Movement.Calendar.Name)), .d (.sl (List.map cMonth_ p0.Movement.Calendar.Months)), .d (.sl (List.map cLeapRule_ p0.Movement.Calendar.Rules)), .d (.v (.int .i64 p0.Movement.Calendar.Week)), .d (.sl (List.map cI p0.Movement.Cam)), .d (.v (.int .i64 p0.Movement.Strike)), .d (.v (.int .i64 p0.Start.Year)), .d (.v (.int .i64 p0.Start.Month)), .d (.v (.int .i64 p0.Start.Day)), .d (.v (.int .i64 p0.First)), .d (.v (.int .i64 p0.Clock)), .d (.sl (List.map cI p0.Dial.Cam)), .d (.v (.int .i64 p0.Dial.Months)), .d (.v (.int .i64 p0.Dial.Teeth)), .d (.v (.int .i64 p0.Dial.At)), .d (.v (.int .i64 p0.Dial.Day)), .d (.v (.int .i64 p0.Dial.Week)), .d (.v (.int .i64 p0.Dial.Weekday))], .d (.v (.int .i64 p1))] [] (.d (.v (.int .i64 r))) := by
  refine fnc_intro (T := tt) (N := 18) tok Tryz.func13 rfl rfl (by kernel_rfl) rfl rfl ?_
  unfold l_heldSim_m at h0
  refine sq [0,1] ?_
  refine rs rfl w0 rfl (st_box 3 (cs := _ :: _) rfl rfl rfl) ?_
  refine pa ?_
  refine nx ?_
  refine sq [0,1,2,3,4] ?_
  refine fa tok ?_
  refine rl rfl w0 rfl (bx_ldN tok rfl rfl rfl rfl) ?_
  refine pm ?_
  obtain ⟨v1, hv1, h0⟩ := bnd h0
  refine rs rfl w0 rfl (c_call 4 (l_heldMovement_c hv1) rfl rfl rfl) ?_
  refine pa ?_
  refine nx ?_
  refine aw_seq ?_
  refine sq [0,1] ?_
  refine pm ?_
  refine rp rfl w0 rfl (pu_lss rfl rfl) ?_
  refine nx ?_
  refine aw_if h0 rfl (fun hc h0 => ?_) (fun hc h0 => ?_)
  refine sq [0] ?_
  refine pa ?_
  refine nx ?_
  refine aw_ret ?_
  refine then_r ?_
  cases h0
  exact ret0_ (rs := [.tmp 4]) rfl
  refine sk ?_
  refine sq [0,1,2,3,4] ?_
  refine fa tok ?_
  refine rl rfl w0 rfl (bx_ldN tok rfl rfl rfl rfl) ?_
  refine pm ?_
  obtain ⟨v2, hv2, h0⟩ := bnd h0
  refine rs rfl w0 rfl (c_call 4 (l_heldPerpetual_c hv2) rfl rfl rfl) ?_
  refine pa ?_
  refine nx ?_
  refine aw_seq ?_
  refine sq [0,1] ?_
  refine pm ?_
  refine rp rfl w0 rfl (pu_lss rfl rfl) ?_
  refine nx ?_
  refine aw_if h0 rfl (fun hc h0 => ?_) (fun hc h0 => ?_)
  refine sq [0] ?_
  refine pa ?_
  refine nx ?_
  refine aw_ret ?_
  refine then_r ?_
  cases h0
  exact ret0_ (rs := [.tmp 4]) rfl
  refine sk ?_
  refine sq [0,1] ?_
  refine pm ?_
  refine pa ?_
  refine nx ?_
  refine aw_ret ?_
  cases h0
  exact ret0_ (rs := [.tmp 4]) rfl

theorem l_FnExactPushSim_c {p0 : Sim_} {p1 : Int} {r : Bool} (h0 : l_FnExactPushSim_m p0 p1 = some r) : FnC Tryz.prog 3 [] [.agg [.d (.v (.string p0.Movement.Name)), .d (.sl (List.map cArbor_ p0.Movement.Works.Arbors)), .d (.sl (List.map cMesh_ p0.Movement.Works.Meshes)), .d (.v (.int .i64 p0.Movement.Minute)), .d (.v (.int .i64 p0.Movement.Hour)), .d (.v (.int .i64 p0.Movement.Escape)), .d (.v (.int .i64 p0.Movement.Teeth)), .d (.v (.int .i64 p0.Movement.Beats)), .d (.v (.string p0.Movement.Calendar.Name)), .d (.sl (List.map cMonth_ p0.Movement.Calendar.Months)), .d (.sl (List.map cLeapRule_ p0.Movement.Calendar.Rules)), .d (.v (.int .i64 p0.Movement.Calendar.Week)), .d (.sl (List.map cI p0.Movement.Cam)), .d (.v (.int .i64 p0.Movement.Strike)), .d (.v (.int .i64 p0.Start.Year)), .d (.v (.int .i64 p0.Start.Month)), .d (.v (.int .i64 p0.Start.Day)), .d (.v (.int .i64 p0.First)), .d (.v (.int .i64 p0.Clock)), .d (.sl (List.map cI p0.Dial.Cam)), .d (.v (.int .i64 p0.Dial.Months)), .d (.v (.int .i64 p0.Dial.Teeth)), .d (.v (.int .i64 p0.Dial.At)), .d (.v (.int .i64 p0.Dial.Day)), .d (.v (.int .i64 p0.Dial.Week)), .d (.v (.int .i64 p0.Dial.Weekday))], .d (.v (.int .i64 p1))] [] (.d (.v (.bool r))) := by
  refine fnc_intro (T := tt) (N := 101) tok Tryz.func3 rfl rfl (by kernel_rfl) rfl rfl ?_
  unfold l_FnExactPushSim_m at h0
  refine sq [0,1] ?_
  refine rs rfl w0 rfl (st_box 3 (cs := _ :: _) rfl rfl rfl) ?_
  refine pa ?_
  refine nx ?_
  refine sq [0] ?_
  refine pa ?_
  refine nx ?_
  refine sq [0,1,2,3] ?_
  refine rl rfl w0 rfl (bx_ldN tok rfl rfl rfl rfl) ?_
  refine pm ?_
  obtain ⟨v1, hv1, h0⟩ := bnd h0
  refine rs rfl w0 rfl (c_call 4 (l_szSim_c hv1) rfl rfl rfl) ?_
  refine pa ?_
  refine nx ?_
  refine aw_seq ?_
  refine sq [0,1] ?_
  refine pm ?_
  refine rp rfl w0 rfl (pu_lss rfl rfl) ?_
  refine nx ?_
  refine aw_if h0 rfl (fun hc h0 => ?_) (fun hc h0 => ?_)
  refine sq [0] ?_
  refine pa ?_
  refine nx ?_
  refine aw_ret ?_
  refine then_r ?_
  cases h0
  exact ret0_ (rs := [.tmp 4]) rfl
  refine sk ?_
  refine sq [0,1,2,3,4,5,6,7,8,9] ?_
  refine rl rfl w0 rfl (bx_ldN tok rfl rfl rfl rfl) ?_
  obtain ⟨v2, hv2, h0⟩ := bnd h0
  refine rs rfl w0 rfl (c_call 4 (l_toSim_c hv2) rfl rfl rfl) ?_
  refine pm ?_
  obtain ⟨v3, hv3, h0⟩ := bnd h0
  refine rs rfl w0 rfl (c_callV 11 (s_PushSim_c hv3) rfl rfl) ?_
  refine rp rfl w0 rfl (pu_move (r := .tup _) rfl) ?_
  refine rp rfl w0 rfl (pu_extract rfl rfl) ?_
  refine rp rfl w0 rfl (pu_extract rfl rfl) ?_
  refine rs rfl w0 rfl (st_alloc 18 (cs := [.d (.v (.string (⟨#[]⟩ : ByteArray))), .d (.v (.slice none 0 0)), .d (.v (.slice none 0 0)), .d (.v (.int .i64 0)), .d (.v (.int .i64 0)), .d (.v (.int .i64 0)), .d (.v (.int .i64 0)), .d (.v (.int .i64 0)), .d (.v (.string (⟨#[]⟩ : ByteArray))), .d (.v (.slice none 0 0)), .d (.v (.slice none 0 0)), .d (.v (.int .i64 0)), .d (.v (.slice none 0 0)), .d (.v (.int .i64 0)), .d (.v (.int .i64 0)), .d (.v (.int .i64 0)), .d (.v (.int .i64 0)), .d (.v (.int .i64 0)), .d (.v (.int .i64 0)), .d (.v (.slice none 0 0)), .d (.v (.int .i64 0)), .d (.v (.int .i64 0)), .d (.v (.int .i64 0)), .d (.v (.int .i64 0)), .d (.v (.int .i64 0)), .d (.v (.int .i64 0))]) tok rfl rfl rfl) ?_
  refine rw0 rfl w0 (bx_st (cs := _ :: _) tok rfl rfl rfl rfl rfl rfl rfl) ?_
  refine pa ?_
  refine nx ?_
  refine sq [0,1,2,3] ?_
  refine rl rfl w0 rfl (bx_ldN tok rfl rfl rfl rfl) ?_
  obtain ⟨v4, hv4, h0⟩ := bnd h0
  refine rs rfl w0 rfl (c_call 19 (l_toSim_c hv4) rfl rfl rfl) ?_
  refine rs rfl w0 rfl (st_alloc 26 (cs := [.d (.v (.string (⟨#[]⟩ : ByteArray))), .d (.v (.slice none 0 0)), .d (.v (.slice none 0 0)), .d (.v (.int .i64 0)), .d (.v (.int .i64 0)), .d (.v (.int .i64 0)), .d (.v (.int .i64 0)), .d (.v (.int .i64 0)), .d (.v (.string (⟨#[]⟩ : ByteArray))), .d (.v (.slice none 0 0)), .d (.v (.slice none 0 0)), .d (.v (.int .i64 0)), .d (.v (.slice none 0 0)), .d (.v (.int .i64 0)), .d (.v (.int .i64 0)), .d (.v (.int .i64 0)), .d (.v (.int .i64 0)), .d (.v (.int .i64 0)), .d (.v (.int .i64 0)), .d (.v (.slice none 0 0)), .d (.v (.int .i64 0)), .d (.v (.int .i64 0)), .d (.v (.int .i64 0)), .d (.v (.int .i64 0)), .d (.v (.int .i64 0)), .d (.v (.int .i64 0))]) tok rfl rfl rfl) ?_
  refine rw0 rfl w0 (bx_st (cs := _ :: _) tok rfl rfl rfl rfl rfl rfl rfl) ?_
  refine nx ?_
  refine sq [0,1,2,3,4,5,6,7,8] ?_
  refine rl rfl w0 rfl (bx_ldN tok rfl rfl rfl rfl) ?_
  refine pm ?_
  obtain ⟨v5, hv5, h0⟩ := bnd h0
  refine rs rfl w0 rfl (c_callV 27 (i_PushSim_c hv5) rfl rfl) ?_
  refine rp rfl w0 rfl (pu_move (r := .tup _) rfl) ?_
  refine rp rfl w0 rfl (pu_extract rfl rfl) ?_
  refine rp rfl w0 rfl (pu_extract rfl rfl) ?_
  refine rs rfl w0 rfl (st_alloc 34 (cs := [.d (.v (.string (⟨#[]⟩ : ByteArray))), .d (.v (.slice none 0 0)), .d (.v (.slice none 0 0)), .d (.v (.int .i64 0)), .d (.v (.int .i64 0)), .d (.v (.int .i64 0)), .d (.v (.int .i64 0)), .d (.v (.int .i64 0)), .d (.v (.string (⟨#[]⟩ : ByteArray))), .d (.v (.slice none 0 0)), .d (.v (.slice none 0 0)), .d (.v (.int .i64 0)), .d (.v (.slice none 0 0)), .d (.v (.int .i64 0)), .d (.v (.int .i64 0)), .d (.v (.int .i64 0)), .d (.v (.int .i64 0)), .d (.v (.int .i64 0)), .d (.v (.int .i64 0)), .d (.v (.slice none 0 0)), .d (.v (.int .i64 0)), .d (.v (.int .i64 0)), .d (.v (.int .i64 0)), .d (.v (.int .i64 0)), .d (.v (.int .i64 0)), .d (.v (.int .i64 0))]) tok rfl rfl rfl) ?_
  refine rw0 rfl w0 (bx_st (cs := _ :: _) tok rfl rfl rfl rfl rfl rfl rfl) ?_
  refine pa ?_
  refine nx ?_
  refine aw_seq ?_
  obtain ⟨v7, h1, h0⟩ := bnd h0
  refine aw_cut ⟨updA (updA (updA (updA (updA (updA (updA (updA ((fun _ => .dead)) 1 (.d (.v (.int .i64 p1)))) 2 (.ptr 3 0 1 0 0)) 6 (.ptr 4 0 1 0 0)) 7 (.d (.v (.int .i64 v3.2)))) 8 (.ptr 5 0 1 0 0)) 9 (.ptr 6 0 1 0 0)) 10 (.d (.v (.int .i64 v5.2)))) 44 (.d (.v (.bool v7))), lks [.no, .no, .no, .live [⟨38, 26, .av [[.d (.v (.string p0.Movement.Name)), .d (.sl (List.map cArbor_ p0.Movement.Works.Arbors)), .d (.sl (List.map cMesh_ p0.Movement.Works.Meshes)), .d (.v (.int .i64 p0.Movement.Minute)), .d (.v (.int .i64 p0.Movement.Hour)), .d (.v (.int .i64 p0.Movement.Escape)), .d (.v (.int .i64 p0.Movement.Teeth)), .d (.v (.int .i64 p0.Movement.Beats)), .d (.v (.string p0.Movement.Calendar.Name)), .d (.sl (List.map cMonth_ p0.Movement.Calendar.Months)), .d (.sl (List.map cLeapRule_ p0.Movement.Calendar.Rules)), .d (.v (.int .i64 p0.Movement.Calendar.Week)), .d (.sl (List.map cI p0.Movement.Cam)), .d (.v (.int .i64 p0.Movement.Strike)), .d (.v (.int .i64 p0.Start.Year)), .d (.v (.int .i64 p0.Start.Month)), .d (.v (.int .i64 p0.Start.Day)), .d (.v (.int .i64 p0.First)), .d (.v (.int .i64 p0.Clock)), .d (.sl (List.map cI p0.Dial.Cam)), .d (.v (.int .i64 p0.Dial.Months)), .d (.v (.int .i64 p0.Dial.Teeth)), .d (.v (.int .i64 p0.Dial.At)), .d (.v (.int .i64 p0.Dial.Day)), .d (.v (.int .i64 p0.Dial.Week)), .d (.v (.int .i64 p0.Dial.Weekday))]]⟩], .live [⟨53, 26, .av [[.d (.v (.string v3.1.Movement.Name)), .own 7 0 (v3.1.Movement.Works.Arbors).length, .own 8 0 (v3.1.Movement.Works.Meshes).length, .d (.v (.int .i64 v3.1.Movement.Minute)), .d (.v (.int .i64 v3.1.Movement.Hour)), .d (.v (.int .i64 v3.1.Movement.Escape)), .d (.v (.int .i64 v3.1.Movement.Teeth)), .d (.v (.int .i64 v3.1.Movement.Beats)), .d (.v (.string v3.1.Movement.Calendar.Name)), .own 9 0 (v3.1.Movement.Calendar.Months).length, .own 10 0 (v3.1.Movement.Calendar.Rules).length, .d (.v (.int .i64 v3.1.Movement.Calendar.Week)), .own 11 0 (v3.1.Movement.Cam).length, .d (.v (.int .i64 v3.1.Movement.Strike)), .d (.v (.int .i64 v3.1.Start.Year)), .d (.v (.int .i64 v3.1.Start.Month)), .d (.v (.int .i64 v3.1.Start.Day)), .d (.v (.int .i64 v3.1.First)), .d (.v (.int .i64 v3.1.Clock)), .own 12 0 (v3.1.Dial.Cam).length, .d (.v (.int .i64 v3.1.Dial.Months)), .d (.v (.int .i64 v3.1.Dial.Teeth)), .d (.v (.int .i64 v3.1.Dial.At)), .d (.v (.int .i64 v3.1.Dial.Day)), .d (.v (.int .i64 v3.1.Dial.Week)), .d (.v (.int .i64 v3.1.Dial.Weekday))]]⟩], .live [⟨53, 26, .av [[.d (.v (.string v4.Movement.Name)), .own 13 0 (v4.Movement.Works.Arbors).length, .own 14 0 (v4.Movement.Works.Meshes).length, .d (.v (.int .i64 v4.Movement.Minute)), .d (.v (.int .i64 v4.Movement.Hour)), .d (.v (.int .i64 v4.Movement.Escape)), .d (.v (.int .i64 v4.Movement.Teeth)), .d (.v (.int .i64 v4.Movement.Beats)), .d (.v (.string v4.Movement.Calendar.Name)), .own 15 0 (v4.Movement.Calendar.Months).length, .own 16 0 (v4.Movement.Calendar.Rules).length, .d (.v (.int .i64 v4.Movement.Calendar.Week)), .own 17 0 (v4.Movement.Cam).length, .d (.v (.int .i64 v4.Movement.Strike)), .d (.v (.int .i64 v4.Start.Year)), .d (.v (.int .i64 v4.Start.Month)), .d (.v (.int .i64 v4.Start.Day)), .d (.v (.int .i64 v4.First)), .d (.v (.int .i64 v4.Clock)), .own 18 0 (v4.Dial.Cam).length, .d (.v (.int .i64 v4.Dial.Months)), .d (.v (.int .i64 v4.Dial.Teeth)), .d (.v (.int .i64 v4.Dial.At)), .d (.v (.int .i64 v4.Dial.Day)), .d (.v (.int .i64 v4.Dial.Week)), .d (.v (.int .i64 v4.Dial.Weekday))]]⟩], .live [⟨53, 26, .av [[.d (.v (.string v5.1.Movement.Name)), .own 19 0 (v5.1.Movement.Works.Arbors).length, .own 20 0 (v5.1.Movement.Works.Meshes).length, .d (.v (.int .i64 v5.1.Movement.Minute)), .d (.v (.int .i64 v5.1.Movement.Hour)), .d (.v (.int .i64 v5.1.Movement.Escape)), .d (.v (.int .i64 v5.1.Movement.Teeth)), .d (.v (.int .i64 v5.1.Movement.Beats)), .d (.v (.string v5.1.Movement.Calendar.Name)), .own 21 0 (v5.1.Movement.Calendar.Months).length, .own 22 0 (v5.1.Movement.Calendar.Rules).length, .d (.v (.int .i64 v5.1.Movement.Calendar.Week)), .own 23 0 (v5.1.Movement.Cam).length, .d (.v (.int .i64 v5.1.Movement.Strike)), .d (.v (.int .i64 v5.1.Start.Year)), .d (.v (.int .i64 v5.1.Start.Month)), .d (.v (.int .i64 v5.1.Start.Day)), .d (.v (.int .i64 v5.1.First)), .d (.v (.int .i64 v5.1.Clock)), .own 24 0 (v5.1.Dial.Cam).length, .d (.v (.int .i64 v5.1.Dial.Months)), .d (.v (.int .i64 v5.1.Dial.Teeth)), .d (.v (.int .i64 v5.1.Dial.At)), .d (.v (.int .i64 v5.1.Dial.Day)), .d (.v (.int .i64 v5.1.Dial.Week)), .d (.v (.int .i64 v5.1.Dial.Weekday))]]⟩], .live [⟨213, 2, .av (nestL 25 cArbor_ v3.1.Movement.Works.Arbors)⟩], .live [⟨215, 4, .data (List.map cMesh_ v3.1.Movement.Works.Meshes)⟩], .live [⟨147, 3, .data (List.map cMonth_ v3.1.Movement.Calendar.Months)⟩], .live [⟨179, 3, .data (List.map cLeapRule_ v3.1.Movement.Calendar.Rules)⟩], .live [⟨2, 1, .data (List.map cI v3.1.Movement.Cam)⟩], .live [⟨2, 1, .data (List.map cI v3.1.Dial.Cam)⟩], .live [⟨213, 2, .av (nestL 26 cArbor_ v4.Movement.Works.Arbors)⟩], .live [⟨215, 4, .data (List.map cMesh_ v4.Movement.Works.Meshes)⟩], .live [⟨147, 3, .data (List.map cMonth_ v4.Movement.Calendar.Months)⟩], .live [⟨179, 3, .data (List.map cLeapRule_ v4.Movement.Calendar.Rules)⟩], .live [⟨2, 1, .data (List.map cI v4.Movement.Cam)⟩], .live [⟨2, 1, .data (List.map cI v4.Dial.Cam)⟩], .live [⟨213, 2, .av (nestL 27 cArbor_ v5.1.Movement.Works.Arbors)⟩], .live [⟨215, 4, .data (List.map cMesh_ v5.1.Movement.Works.Meshes)⟩], .live [⟨147, 3, .data (List.map cMonth_ v5.1.Movement.Calendar.Months)⟩], .live [⟨179, 3, .data (List.map cLeapRule_ v5.1.Movement.Calendar.Rules)⟩], .live [⟨2, 1, .data (List.map cI v5.1.Movement.Cam)⟩], .live [⟨2, 1, .data (List.map cI v5.1.Dial.Cam)⟩], .live (famL 2 1 cArbor_ v3.1.Movement.Works.Arbors), .live (famL 2 1 cArbor_ v4.Movement.Works.Arbors), .live (famL 2 1 cArbor_ v5.1.Movement.Works.Arbors)]⟩ ?_ ?_
  refine sr [0,1,2,3,4,5,6,7,8] ?_
  refine rl rfl w0 rfl (bx_ldN tok rfl rfl rfl rfl) ?_
  refine rl rfl w0 rfl (bx_ldN tok rfl rfl rfl rfl) ?_
  obtain ⟨v6, hv6, h1⟩ := bnd h1
  refine rs rfl w0 rfl (c_callV 35 (l_eqSim_c hv6) rfl rfl) ?_
  refine rp rfl w0 rfl (pu_not rfl) ?_
  refine pm ?_
  refine ra_ifB (u := 40) h1 rfl (fun hc h1 => ?_) (fun hc h1 => ?_)
  iterate 3 refine k1 ?_
  refine pkt ?_
  refine nx ?_
  cases h1
  exact wk [0, 1, 2, 3, 18, 26, 34, 11, 13, 14, 15, 16, 17, 19, 21, 22, 23, 24, 25, 27, 29, 30, 31, 32, 33, 12, 20, 28]
  refine pm1 ?_
  refine pm1 ?_
  refine rp rfl (w1 rfl rfl rfl) rfl (pu_neq rfl rfl) ?_
  refine pkf ?_
  refine nx ?_
  cases h1
  exact wk [0, 1, 2, 3, 18, 26, 34, 11, 13, 14, 15, 16, 17, 19, 21, 22, 23, 24, 25, 27, 29, 30, 31, 32, 33, 12, 20, 28]
  refine aw_ifB h0 rfl (fun hc h0 => ?_) (fun hc h0 => ?_)
  refine sq [0] ?_
  refine pa ?_
  refine nx ?_
  refine aw_ret ?_
  refine then_r ?_
  cases h0
  exact ret0_ (rs := [.tmp 4]) rfl
  refine sk ?_
  refine aw_seq ?_
  refine aw_seq ?_
  refine aw_region_draw (is := [0, 1, 2, 3, 4]) [0, 0, 2, 7, 15] follows (by kernel_rfl) ?_
  refine rt_lk rfl w0 rfl (bx_ldN tok rfl rfl rfl rfl) rfl rfl rfl ?_
  refine rt_lk rfl w0 rfl (bx_ldN tok rfl rfl rfl rfl) rfl rfl rfl ?_
  obtain ⟨v8, hv8, h0⟩ := bnd h0
  refine rt_c rfl w0 rfl (b_call 28 (l_toSim_c hv8) rfl rfl rfl) ?_
  obtain ⟨v9, hv9, h0⟩ := bnd h0
  refine rt_c rfl w0 rfl (b_callV 35 (l_eqSim_c hv9) rfl rfl) ?_
  refine rt_p rfl w0 rfl (pu_not rfl) ?_
  refine rt_nil ?_
  refine ⟨by kernel_rfl, ?_⟩
  refine then_n ?_
  refine aw_ifB h0 rfl (fun hc h0 => ?_) (fun hc h0 => ?_)
  refine sq [0] ?_
  refine pa ?_
  refine nx ?_
  refine aw_ret ?_
  refine then_r ?_
  cases h0
  exact ret0_ (rs := [.tmp 4]) rfl
  refine sk ?_
  refine sq [0] ?_
  refine pa ?_
  refine nx ?_
  refine sq [0,1,2,3] ?_
  refine rl rfl w0 rfl (bx_ldN tok rfl rfl rfl rfl) ?_
  refine pm ?_
  obtain ⟨v10, hv10, h0⟩ := bnd h0
  obtain ⟨hq11, h0⟩ := chk_e h0
  obtain ⟨hq12, h0⟩ := chk_e h0
  obtain ⟨hq13, h0⟩ := chk_e h0
  obtain ⟨hq14, h0⟩ := chk_e h0
  obtain ⟨hq15, h0⟩ := chk_e h0
  obtain ⟨hq16, h0⟩ := chk_e h0
  refine rw1 rfl w0 rfl (c_callP [13, 26, 14, 15, 16, 17, 18] 300 (l_markSim_o_c hv10) rfl rfl) ?_
  refine pa ?_
  refine nx ?_
  refine aw_seq ?_
  obtain ⟨v18, h1, h0⟩ := bnd h0
  refine aw_cut ⟨updA (updA (updA (updA (updA (updA ((fun _ => .dead)) 1 (.d (.v (.int .i64 p1)))) 2 (.ptr 3 0 1 0 0)) 6 (.ptr 4 0 1 0 0)) 7 (.d (.v (.int .i64 v3.2)))) 9 (.ptr 5 0 1 0 0)) 65 (.d (.v (.bool v18))), lks [.no, .no, .no, .live [⟨38, 26, .av [[.d (.v (.string p0.Movement.Name)), .d (.sl (List.map cArbor_ p0.Movement.Works.Arbors)), .d (.sl (List.map cMesh_ p0.Movement.Works.Meshes)), .d (.v (.int .i64 p0.Movement.Minute)), .d (.v (.int .i64 p0.Movement.Hour)), .d (.v (.int .i64 p0.Movement.Escape)), .d (.v (.int .i64 p0.Movement.Teeth)), .d (.v (.int .i64 p0.Movement.Beats)), .d (.v (.string p0.Movement.Calendar.Name)), .d (.sl (List.map cMonth_ p0.Movement.Calendar.Months)), .d (.sl (List.map cLeapRule_ p0.Movement.Calendar.Rules)), .d (.v (.int .i64 p0.Movement.Calendar.Week)), .d (.sl (List.map cI p0.Movement.Cam)), .d (.v (.int .i64 p0.Movement.Strike)), .d (.v (.int .i64 p0.Start.Year)), .d (.v (.int .i64 p0.Start.Month)), .d (.v (.int .i64 p0.Start.Day)), .d (.v (.int .i64 p0.First)), .d (.v (.int .i64 p0.Clock)), .d (.sl (List.map cI p0.Dial.Cam)), .d (.v (.int .i64 p0.Dial.Months)), .d (.v (.int .i64 p0.Dial.Teeth)), .d (.v (.int .i64 p0.Dial.At)), .d (.v (.int .i64 p0.Dial.Day)), .d (.v (.int .i64 p0.Dial.Week)), .d (.v (.int .i64 p0.Dial.Weekday))]]⟩], .live [⟨53, 26, .av [[.d (.v (.string v3.1.Movement.Name)), .own 6 0 (v3.1.Movement.Works.Arbors).length, .own 7 0 (v3.1.Movement.Works.Meshes).length, .d (.v (.int .i64 v3.1.Movement.Minute)), .d (.v (.int .i64 v3.1.Movement.Hour)), .d (.v (.int .i64 v3.1.Movement.Escape)), .d (.v (.int .i64 v3.1.Movement.Teeth)), .d (.v (.int .i64 v3.1.Movement.Beats)), .d (.v (.string v3.1.Movement.Calendar.Name)), .own 8 0 (v3.1.Movement.Calendar.Months).length, .own 9 0 (v3.1.Movement.Calendar.Rules).length, .d (.v (.int .i64 v3.1.Movement.Calendar.Week)), .own 10 0 (v3.1.Movement.Cam).length, .d (.v (.int .i64 v3.1.Movement.Strike)), .d (.v (.int .i64 v3.1.Start.Year)), .d (.v (.int .i64 v3.1.Start.Month)), .d (.v (.int .i64 v3.1.Start.Day)), .d (.v (.int .i64 v3.1.First)), .d (.v (.int .i64 v3.1.Clock)), .own 11 0 (v3.1.Dial.Cam).length, .d (.v (.int .i64 v3.1.Dial.Months)), .d (.v (.int .i64 v3.1.Dial.Teeth)), .d (.v (.int .i64 v3.1.Dial.At)), .d (.v (.int .i64 v3.1.Dial.Day)), .d (.v (.int .i64 v3.1.Dial.Week)), .d (.v (.int .i64 v3.1.Dial.Weekday))]]⟩], .live [⟨53, 26, .av [[.d (.v (.string v5.1.Movement.Name)), .own 12 0 (v5.1.Movement.Works.Arbors).length, .own 13 0 (v5.1.Movement.Works.Meshes).length, .d (.v (.int .i64 v5.1.Movement.Minute)), .d (.v (.int .i64 v5.1.Movement.Hour)), .d (.v (.int .i64 v5.1.Movement.Escape)), .d (.v (.int .i64 v5.1.Movement.Teeth)), .d (.v (.int .i64 v5.1.Movement.Beats)), .d (.v (.string v5.1.Movement.Calendar.Name)), .own 14 0 (v5.1.Movement.Calendar.Months).length, .own 15 0 (v5.1.Movement.Calendar.Rules).length, .d (.v (.int .i64 v5.1.Movement.Calendar.Week)), .own 16 0 (v5.1.Movement.Cam).length, .d (.v (.int .i64 v5.1.Movement.Strike)), .d (.v (.int .i64 v5.1.Start.Year)), .d (.v (.int .i64 v5.1.Start.Month)), .d (.v (.int .i64 v5.1.Start.Day)), .d (.v (.int .i64 v5.1.First)), .d (.v (.int .i64 v5.1.Clock)), .own 17 0 (v5.1.Dial.Cam).length, .d (.v (.int .i64 v5.1.Dial.Months)), .d (.v (.int .i64 v5.1.Dial.Teeth)), .d (.v (.int .i64 v5.1.Dial.At)), .d (.v (.int .i64 v5.1.Dial.Day)), .d (.v (.int .i64 v5.1.Dial.Week)), .d (.v (.int .i64 v5.1.Dial.Weekday))]]⟩], .live [⟨213, 2, .av (nestL 18 cArbor_ v3.1.Movement.Works.Arbors)⟩], .live [⟨215, 4, .data (List.map cMesh_ v3.1.Movement.Works.Meshes)⟩], .live [⟨147, 3, .data (List.map cMonth_ v3.1.Movement.Calendar.Months)⟩], .live [⟨179, 3, .data (List.map cLeapRule_ v3.1.Movement.Calendar.Rules)⟩], .live [⟨2, 1, .data (List.map cI v3.1.Movement.Cam)⟩], .live [⟨2, 1, .data (List.map cI v3.1.Dial.Cam)⟩], .live [⟨213, 2, .av (nestL 19 cArbor_ v5.1.Movement.Works.Arbors)⟩], .live [⟨215, 4, .data (List.map cMesh_ v5.1.Movement.Works.Meshes)⟩], .live [⟨147, 3, .data (List.map cMonth_ v5.1.Movement.Calendar.Months)⟩], .live [⟨179, 3, .data (List.map cLeapRule_ v5.1.Movement.Calendar.Rules)⟩], .live [⟨2, 1, .data (List.map cI v5.1.Movement.Cam)⟩], .live [⟨2, 1, .data (List.map cI v5.1.Dial.Cam)⟩], .live (famL 2 1 cArbor_ v3.1.Movement.Works.Arbors), .live (famL 2 1 cArbor_ v5.1.Movement.Works.Arbors)]⟩ ?_ ?_
  refine sr [0,1,2,3,4,5,6,7,8,9,10,11,12] ?_
  refine pm ?_
  refine rp rfl w0 rfl (pu_lss rfl rfl) ?_
  refine pm ?_
  refine ra_if (u := 55) h1 rfl (fun hc h1 => ?_) (fun hc h1 => ?_)
  iterate 4 refine k1 ?_
  refine pkt ?_
  refine pm ?_
  iterate 3 refine k1 ?_
  refine pkt ?_
  refine nx ?_
  cases h1
  exact wk [0, 1, 2, 3, 4, 6, 7, 8, 9, 10, 11, 12, 19, 20, 21, 22, 23, 24, 25, 27]
  refine rl rfl (w1 rfl rfl rfl) rfl (bx_ldN tok rfl rfl rfl rfl) ?_
  refine rl rfl (w1 rfl rfl rfl) rfl (bx_ldN tok rfl rfl rfl rfl) ?_
  obtain ⟨v17, hv17, h1⟩ := bnd h1
  refine rs rfl (w1 rfl rfl rfl) rfl (c_callV 35 (l_eqSim_c hv17) rfl rfl) ?_
  refine rp rfl (w1 rfl rfl rfl) rfl (pu_not rfl) ?_
  refine pkf ?_
  refine pm ?_
  refine ra_ifB (u := 61) h1 rfl (fun hc h1 => ?_) (fun hc h1 => ?_)
  iterate 3 refine k1 ?_
  refine pkt ?_
  refine nx ?_
  cases h1
  exact wk [0, 1, 2, 3, 4, 6, 7, 8, 9, 10, 11, 12, 19, 20, 21, 22, 23, 24, 25, 27]
  refine pm1 ?_
  refine pm1 ?_
  refine rp rfl (w1 rfl rfl rfl) rfl (pu_neq rfl rfl) ?_
  refine pkf ?_
  refine nx ?_
  cases h1
  exact wk [0, 1, 2, 3, 4, 6, 7, 8, 9, 10, 11, 12, 19, 20, 21, 22, 23, 24, 25, 27]
  refine aw_ifB h0 rfl (fun hc h0 => ?_) (fun hc h0 => ?_)
  refine sq [0] ?_
  refine pa ?_
  refine nx ?_
  refine aw_ret ?_
  refine then_r ?_
  cases h0
  exact ret0_ (rs := [.tmp 4]) rfl
  refine sk ?_
  refine sq [0] ?_
  refine pa ?_
  refine nx ?_
  refine sq [0,1,2,3] ?_
  refine rl rfl w0 rfl (bx_ldN tok rfl rfl rfl rfl) ?_
  refine pm ?_
  obtain ⟨v19, hv19, h0⟩ := bnd h0
  obtain ⟨hq20, h0⟩ := chk_e h0
  obtain ⟨hq21, h0⟩ := chk_e h0
  obtain ⟨hq22, h0⟩ := chk_e h0
  obtain ⟨hq23, h0⟩ := chk_e h0
  obtain ⟨hq24, h0⟩ := chk_e h0
  obtain ⟨hq25, h0⟩ := chk_e h0
  refine rw1 rfl w0 rfl (c_callP [12, 19, 13, 14, 15, 16, 17] 300 (l_markSim_o_c hv19) rfl rfl) ?_
  refine pa ?_
  refine nx ?_
  refine sq [0] ?_
  refine pa ?_
  refine nx ?_
  refine sq [0,1,2,3] ?_
  refine rl rfl w0 rfl (bx_ldN tok rfl rfl rfl rfl) ?_
  refine pm ?_
  obtain ⟨v26, hv26, h0⟩ := bnd h0
  refine rs rfl w0 rfl (c_callV 20 (l_heldSim_c hv26) rfl rfl) ?_
  refine pa ?_
  refine nx ?_
  refine aw_seq ?_
  refine sq [0,1] ?_
  refine pm ?_
  refine rp rfl w0 rfl (pu_lss rfl rfl) ?_
  refine nx ?_
  refine aw_if h0 rfl (fun hc h0 => ?_) (fun hc h0 => ?_)
  refine sq [0] ?_
  refine pa ?_
  refine nx ?_
  refine aw_ret ?_
  refine then_r ?_
  cases h0
  exact ret0_ (rs := [.tmp 4]) rfl
  refine sk ?_
  refine aw_seq ?_
  refine sq [0,1,2] ?_
  refine pm ?_
  refine pm ?_
  refine rp rfl w0 rfl (pu_neq rfl rfl) ?_
  refine nx ?_
  refine aw_if h0 rfl (fun hc h0 => ?_) (fun hc h0 => ?_)
  refine sq [0] ?_
  refine pa ?_
  refine nx ?_
  refine aw_ret ?_
  refine then_r ?_
  cases h0
  exact ret0_ (rs := [.tmp 4]) rfl
  refine sk ?_
  refine sq [0,1,2,3,4,5,6,7,8,9] ?_
  refine rl rfl w0 rfl (bx_ldN tok rfl rfl rfl rfl) ?_
  obtain ⟨v27, hv27, h0⟩ := bnd h0
  refine rs rfl w0 rfl (c_call 20 (l_toSim_c hv27) rfl rfl rfl) ?_
  refine pm ?_
  obtain ⟨v28, hv28, h0⟩ := bnd h0
  refine rs rfl w0 rfl (c_callV 27 (i_PushSim_c hv28) rfl rfl) ?_
  refine rp rfl w0 rfl (pu_move (r := .tup _) rfl) ?_
  refine rp rfl w0 rfl (pu_extract rfl rfl) ?_
  refine rp rfl w0 rfl (pu_extract rfl rfl) ?_
  refine rs rfl w0 rfl (st_alloc 34 (cs := [.d (.v (.string (⟨#[]⟩ : ByteArray))), .d (.v (.slice none 0 0)), .d (.v (.slice none 0 0)), .d (.v (.int .i64 0)), .d (.v (.int .i64 0)), .d (.v (.int .i64 0)), .d (.v (.int .i64 0)), .d (.v (.int .i64 0)), .d (.v (.string (⟨#[]⟩ : ByteArray))), .d (.v (.slice none 0 0)), .d (.v (.slice none 0 0)), .d (.v (.int .i64 0)), .d (.v (.slice none 0 0)), .d (.v (.int .i64 0)), .d (.v (.int .i64 0)), .d (.v (.int .i64 0)), .d (.v (.int .i64 0)), .d (.v (.int .i64 0)), .d (.v (.int .i64 0)), .d (.v (.slice none 0 0)), .d (.v (.int .i64 0)), .d (.v (.int .i64 0)), .d (.v (.int .i64 0)), .d (.v (.int .i64 0)), .d (.v (.int .i64 0)), .d (.v (.int .i64 0))]) tok rfl rfl rfl) ?_
  refine rw0 rfl w0 (bx_st (cs := _ :: _) tok rfl rfl rfl rfl rfl rfl rfl) ?_
  refine pa ?_
  refine nx ?_
  refine aw_seq ?_
  obtain ⟨v30, h1, h0⟩ := bnd h0
  refine aw_cut ⟨updA (updA (updA ((fun _ => .dead)) 9 (.ptr 3 0 1 0 0)) 12 (.d (.v (.int .i64 v19.1)))) 92 (.d (.v (.bool v30))), lks [.no, .no, .no, .live [⟨53, 26, .av [[.d (.v (.string v5.1.Movement.Name)), .own 4 0 (v19.2.1).length, .own 5 0 (v19.2.2.1).length, .d (.v (.int .i64 v5.1.Movement.Minute)), .d (.v (.int .i64 v5.1.Movement.Hour)), .d (.v (.int .i64 v5.1.Movement.Escape)), .d (.v (.int .i64 v5.1.Movement.Teeth)), .d (.v (.int .i64 v5.1.Movement.Beats)), .d (.v (.string v5.1.Movement.Calendar.Name)), .own 6 0 (v19.2.2.2.1).length, .own 7 0 (v19.2.2.2.2.1).length, .d (.v (.int .i64 v5.1.Movement.Calendar.Week)), .own 8 0 (v19.2.2.2.2.2.1).length, .d (.v (.int .i64 v5.1.Movement.Strike)), .d (.v (.int .i64 v5.1.Start.Year)), .d (.v (.int .i64 v5.1.Start.Month)), .d (.v (.int .i64 v5.1.Start.Day)), .d (.v (.int .i64 v5.1.First)), .d (.v (.int .i64 v5.1.Clock)), .own 9 0 (v19.2.2.2.2.2.2).length, .d (.v (.int .i64 v5.1.Dial.Months)), .d (.v (.int .i64 v5.1.Dial.Teeth)), .d (.v (.int .i64 v5.1.Dial.At)), .d (.v (.int .i64 v5.1.Dial.Day)), .d (.v (.int .i64 v5.1.Dial.Week)), .d (.v (.int .i64 v5.1.Dial.Weekday))]]⟩], .live [⟨213, 2, .av (nestL 10 cArbor_ v19.2.1)⟩], .live [⟨215, 4, .data (List.map cMesh_ v19.2.2.1)⟩], .live [⟨147, 3, .data (List.map cMonth_ v19.2.2.2.1)⟩], .live [⟨179, 3, .data (List.map cLeapRule_ v19.2.2.2.2.1)⟩], .live [⟨2, 1, .data (List.map cI v19.2.2.2.2.2.1)⟩], .live [⟨2, 1, .data (List.map cI v19.2.2.2.2.2.2)⟩], .live (famL 2 1 cArbor_ v19.2.1)]⟩ ?_ ?_
  refine sr [0,1,2,3,4,5,6,7,8] ?_
  refine rl rfl w0 rfl (bx_ldN tok rfl rfl rfl rfl) ?_
  refine rl rfl w0 rfl (bx_ldN tok rfl rfl rfl rfl) ?_
  obtain ⟨v29, hv29, h1⟩ := bnd h1
  refine rs rfl w0 rfl (c_callV 35 (l_eqSim_c hv29) rfl rfl) ?_
  refine rp rfl w0 rfl (pu_not rfl) ?_
  refine pm ?_
  refine ra_ifB (u := 88) h1 rfl (fun hc h1 => ?_) (fun hc h1 => ?_)
  iterate 3 refine k1 ?_
  refine pkt ?_
  refine nx ?_
  cases h1
  exact wk [0, 1, 2, 5, 12, 13, 14, 15, 16, 17, 19]
  refine pm1 ?_
  refine pm1 ?_
  refine rp rfl (w1 rfl rfl rfl) rfl (pu_neq rfl rfl) ?_
  refine pkf ?_
  refine nx ?_
  cases h1
  exact wk [0, 1, 2, 5, 12, 13, 14, 15, 16, 17, 19]
  refine aw_ifB h0 rfl (fun hc h0 => ?_) (fun hc h0 => ?_)
  refine sq [0] ?_
  refine pa ?_
  refine nx ?_
  refine aw_ret ?_
  refine then_r ?_
  cases h0
  exact ret0_ (rs := [.tmp 4]) rfl
  refine sk ?_
  refine sq [0] ?_
  refine pa ?_
  refine nx ?_
  refine sq [0,1,2,3] ?_
  refine rl rfl w0 rfl (bx_ldN tok rfl rfl rfl rfl) ?_
  refine pm ?_
  obtain ⟨v31, hv31, h0⟩ := bnd h0
  refine rs rfl w0 rfl (c_callV 11 (l_heldSim_c hv31) rfl rfl) ?_
  refine pa ?_
  refine nx ?_
  refine aw_seq ?_
  refine sq [0,1] ?_
  refine pm ?_
  refine rp rfl w0 rfl (pu_lss rfl rfl) ?_
  refine nx ?_
  refine aw_if h0 rfl (fun hc h0 => ?_) (fun hc h0 => ?_)
  refine sq [0] ?_
  refine pa ?_
  refine nx ?_
  refine aw_ret ?_
  refine then_r ?_
  cases h0
  exact ret0_ (rs := [.tmp 4]) rfl
  refine sk ?_
  refine aw_seq ?_
  refine sq [0,1,2] ?_
  refine pm ?_
  refine pm ?_
  refine rp rfl w0 rfl (pu_neq rfl rfl) ?_
  refine nx ?_
  refine aw_if h0 rfl (fun hc h0 => ?_) (fun hc h0 => ?_)
  refine sq [0] ?_
  refine pa ?_
  refine nx ?_
  refine aw_ret ?_
  refine then_r ?_
  cases h0
  exact ret0_ (rs := [.tmp 4]) rfl
  refine sk ?_
  refine sq [0] ?_
  refine pa ?_
  refine nx ?_
  refine aw_ret ?_
  cases h0
  exact ret0_ (rs := [.tmp 4]) rfl

end Go.Proofs.YtlakbomkpnlidaaGreat
namespace Go.Proofs.YtlakbomkpnlidaaGreat
set_option linter.unusedVariables false
theorem atI_some {α : Type} {xs : List α} {i : Int} (h0 : 0 ≤ i) (h1 : i < xs.length) : ∃ e, atI xs i = some e ∧ e ∈ xs ∧ xs[i.toNat]? = some e := by
  have hl : i.toNat < xs.length := by omega
  refine ⟨xs[i.toNat], ?_, List.getElem_mem hl, List.getElem?_eq_getElem hl⟩
  unfold atI; rw [if_pos h0]; exact List.getElem?_eq_getElem hl
theorem atI_set {α : Type} {xs : List α} {i : Int} {x : α} (h0 : 0 ≤ i) (h1 : i < xs.length) : atI (List.set xs i.toNat x) i = some x := by
  unfold atI; rw [if_pos h0]; exact List.getElem?_set_self (by omega)
theorem chk_true {α : Type} {k : Option α} : chk True k = k := if_pos trivial
theorem w64_inc {i : Int} {n : Nat} (h0 : 0 ≤ i) (h1 : i < n) (hn : n ≤ 9223372036854775807) : w64 (i + 1) = i + 1 := w64_in (by omega) (by omega)
theorem take_set {α : Type} {xs ys : List α} {k : Nat} {e : α} (h : xs[k]? = some e) (hl : ys.length = xs.length) (hy : ys.take k = xs.take k) : (ys.set k e).take (k + 1) = xs.take (k + 1) := by
  have hk : k < xs.length := (List.getElem?_eq_some_iff.1 h).1
  rw [List.take_add_one, List.take_add_one, h, List.getElem?_set_self (by omega), List.take_set_of_le (Nat.le_refl _), hy]
theorem eqS_refl {α : Type} {f : α → α → Option Bool} {xs : List α} (hl : xs.length ≤ 9223372036854775807) (h : ∀ v ∈ xs, f v v = some true) :
    loopM (S := Int) (X := Unit ⊕ Bool) (fun s => (if s < (xs.length : Int) then ((atI xs s).bind fun v => ((atI xs s).bind fun u => ((f v u).bind fun b => (if (!b) = true then some (.inr (.inr false)) else some (.inl (w64 (s + 1))))))) else some (.inr (.inl ())))) 0 = some (.inl ()) := by
  refine loopM_eq (fun (s : Int) => 0 ≤ s ∧ s ≤ xs.length) (fun (s : Int) => ((xs.length : Int) - s).toNat) (fun s hI => ?_) (by omega) (by omega)
  by_cases hs : s < xs.length
  · obtain ⟨e, he, hm, _⟩ := atI_some hI.1 hs
    left
    refine ⟨s + 1, ?_, by omega, by omega⟩
    simp [hs, he, h e hm, w64_inc hI.1 hs hl]
  · right; simp [hs]
theorem eqS_refl' {α : Type} [DecidableEq α] {xs : List α} (hl : xs.length ≤ 9223372036854775807) :
    loopM (S := Int) (X := Unit ⊕ Bool) (fun s => (if s < (xs.length : Int) then ((atI xs s).bind fun v => ((atI xs s).bind fun u => (if v ≠ u then some (.inr (.inr false)) else some (.inl (w64 (s + 1)))))) else some (.inr (.inl ())))) 0 = some (.inl ()) := by
  refine loopM_eq (fun (s : Int) => 0 ≤ s ∧ s ≤ xs.length) (fun (s : Int) => ((xs.length : Int) - s).toNat) (fun s hI => ?_) (by omega) (by omega)
  by_cases hs : s < xs.length
  · obtain ⟨e, he, hm, _⟩ := atI_some hI.1 hs
    left
    refine ⟨s + 1, ?_, by omega, by omega⟩
    simp [hs, he, w64_inc hI.1 hs hl]
  · right; simp [hs]
theorem toS_id {α : Type} {f : α → Option α} {xs : List α} {z : α} (hl : xs.length ≤ 9223372036854775807) (h : ∀ v ∈ xs, f v = some v) :
    loopM (S := Int × List α) (X := List α) (fun s => (if s.1 < (xs.length : Int) then ((atI xs s.1).bind fun v => ((f v).bind fun u => ((atI s.2 s.1).bind fun _ => some (.inl (w64 (s.1 + 1), List.set s.2 (s.1).toNat u))))) else some (.inr s.2))) (0, List.replicate ((xs.length : Int)).toNat z) = some xs := by
  refine loopM_eq (fun (s : Int × List α) => 0 ≤ s.1 ∧ s.1 ≤ xs.length ∧ s.2.length = xs.length ∧ s.2.take s.1.toNat = xs.take s.1.toNat) (fun (s : Int × List α) => ((xs.length : Int) - s.1).toNat) (fun s hI => ?_) (by simp) (by simp; omega)
  obtain ⟨i, ys⟩ := s
  obtain ⟨h0, h1, h2, h3⟩ := hI
  dsimp only at h0 h1 h2 h3 ⊢
  by_cases hs : i < xs.length
  · obtain ⟨e, he, hm, hg⟩ := atI_some h0 hs
    obtain ⟨e2, he2, _, _⟩ := atI_some (xs := ys) h0 (by omega)
    left
    refine ⟨(i + 1, ys.set i.toNat e), ?_, ⟨by omega, by omega, by simpa using h2, ?_⟩, by dsimp only; omega⟩
    · simp [hs, he, he2, h e hm, w64_inc h0 hs hl]
    · have : (i + 1).toNat = i.toNat + 1 := by omega
      dsimp only
      rw [this]
      exact take_set hg h2 h3
  · right
    have hi : i.toNat = xs.length := by omega
    rw [hi, List.take_length, List.take_of_length_le (by omega)] at h3
    simp [hs, h3]
theorem toS_id' {α : Type} {xs : List α} {z : α} (hl : xs.length ≤ 9223372036854775807) :
    loopM (S := Int × List α) (X := List α) (fun s => (if s.1 < (xs.length : Int) then ((atI xs s.1).bind fun v => ((atI s.2 s.1).bind fun _ => some (.inl (w64 (s.1 + 1), List.set s.2 (s.1).toNat v)))) else some (.inr s.2))) (0, List.replicate ((xs.length : Int)).toNat z) = some xs := by
  have := toS_id (f := fun x => some x) (z := z) hl (fun v _ => rfl)
  simpa using this
theorem szS_ok {α : Type} {f : α → Int → Option Int} {sm : α → Prop} {xs : List α} (hl : xs.length ≤ 9223372036854775807) (h : ∀ v ∈ xs, ∀ l, 0 ≤ l → l ≤ 1048576 → ∃ r, f v l = some r ∧ r ≤ l ∧ (0 ≤ r → sm v)) (l0 : Int) (h0 : 0 ≤ l0) (h1 : l0 ≤ 1048576) :
    ∃ x, loopM (S := Int × Int) (X := Int ⊕ Int) (fun s => (if s.2 < (xs.length : Int) then ((atI xs s.2).bind fun v => ((f v s.1).bind fun u => (if u < 0 then some (.inr (.inr (-1))) else some (.inl (u, w64 (s.2 + 1)))))) else some (.inr (.inl s.1)))) (l0, 0) = some x ∧ (x = .inr (-1) ∨ ∃ r, x = .inl r ∧ 0 ≤ r ∧ r ≤ l0 ∧ ∀ v ∈ xs, sm v) := by
  refine loopM_of (fun (s : Int × Int) => 0 ≤ s.2 ∧ s.2 ≤ xs.length ∧ 0 ≤ s.1 ∧ s.1 ≤ l0 ∧ ∀ v ∈ xs.take s.2.toNat, sm v) (fun (s : Int × Int) => ((xs.length : Int) - s.2).toNat) _ (fun s hI => ?_) _ (by simp; omega) (by simp; omega)
  obtain ⟨l, i⟩ := s
  obtain ⟨q0, q1, q2, q3, q4⟩ := hI
  dsimp only at q0 q1 q2 q3 q4 ⊢
  by_cases hs : i < xs.length
  · obtain ⟨e, he, hm, hg⟩ := atI_some q0 hs
    obtain ⟨r, hr, hrl, hsm⟩ := h e hm l q2 (by omega)
    by_cases hneg : r < 0
    · right
      exact ⟨.inr (-1), by simp [hs, he, hr, hneg], .inl rfl⟩
    · left
      refine ⟨(r, i + 1), by simp [hs, he, hr, hneg, w64_inc q0 hs hl], ⟨by omega, by omega, by omega, by omega, fun v hv => ?_⟩, by dsimp only; omega⟩
      have : (i + 1).toNat = i.toNat + 1 := by omega
      dsimp only at hv
      rw [this, List.take_add_one, hg] at hv
      simp only [Option.toList_some, List.mem_append, List.mem_singleton] at hv
      rcases hv with hv | rfl
      · exact q4 v hv
      · exact hsm (by omega)
  · right
    have hi : i.toNat = xs.length := by omega
    rw [hi, List.take_length] at q4
    exact ⟨.inl l, by simp [hs], .inr ⟨l, rfl, q2, q3, q4⟩⟩
theorem markS_ok {α : Type} {c : Int} {B : Int} {M : Int → α} {step : Int × Int × List α → Option ((Int × Int × List α) ⊕ (Int × List α))} (hc : 0 ≤ c)
    (hM : ∀ k i ys, 0 ≤ k → k ≤ B → 0 ≤ i → i < ys.length → ys.length ≤ 1048576 → step (k, i, ys) = some (.inl (k + c, i + 1, List.set ys i.toNat (M k)))) (hE : ∀ k i ys, ¬ i < ys.length → step (k, i, ys) = some (.inr (k, ys)))
    {xs : List α} {k0 : Int} (h0 : 0 ≤ k0) (hl : xs.length ≤ 1048576) (hB : k0 + c * xs.length ≤ B) : loopM step (k0, 0, xs) = some (k0 + c * xs.length, (List.range xs.length).map fun (j : Nat) => M (k0 + c * (j : Int))) := by
  refine loopM_eq (fun (s : Int × Int × List α) => 0 ≤ s.2.1 ∧ s.2.1 ≤ xs.length ∧ s.1 = k0 + c * s.2.1 ∧ s.2.2 = ((List.range s.2.1.toNat).map fun (j : Nat) => M (k0 + c * (j : Int))) ++ xs.drop s.2.1.toNat) (fun (s : Int × Int × List α) => ((xs.length : Int) - s.2.1).toNat) (fun s hI => ?_) (by simp) (by simp; omega)
  obtain ⟨k, i, ys⟩ := s
  obtain ⟨q0, q1, q2, q3⟩ := hI
  dsimp only at q0 q1 q2 q3 ⊢
  have hyl : ys.length = xs.length := by rw [q3]; simp; omega
  by_cases hs : i < xs.length
  · left
    have hci : 0 ≤ c * i := Int.mul_nonneg hc q0
    have hcl : c * i ≤ c * xs.length := Int.mul_le_mul_of_nonneg_left (by omega) hc
    refine ⟨_, hM k i ys (by omega) (by omega) q0 (by omega) (by omega), ⟨by dsimp only; omega, by dsimp only; omega, ?_, ?_⟩, by dsimp only; omega⟩
    · dsimp only
      rw [q2, Int.mul_add]; omega
    · have e1 : (i + 1).toNat = i.toNat + 1 := by omega
      dsimp only
      rw [e1, q3, List.set_append_right _ _ (by simp), List.range_succ, List.map_append, List.length_map, List.length_range, Nat.sub_self, List.drop_eq_getElem_cons (show i.toNat < xs.length by omega), List.set_cons_zero]
      have e2 : ((i.toNat : Nat) : Int) = i := by omega
      simp [q2, e2]
  · right
    have hi : i = xs.length := by omega
    rw [hE k i ys (by omega), q3, q2, hi]
    simp
theorem heldS_ok {α : Type} {c : Int} {B : Int} {M : Int → α} {n : Nat} {step : Int × Int → Option ((Int × Int) ⊕ (Int ⊕ Int))} (hc : 0 ≤ c)
    {k0 : Int} (hM : ∀ k i : Int, 0 ≤ k → k ≤ B → 0 ≤ i → i < n → k = k0 + c * i → step (k, i) = some (.inl (k + c, i + 1))) (hE : ∀ k i, ¬ i < (n : Int) → step (k, i) = some (.inr (.inl k)))
    (h0 : 0 ≤ k0) (hl : n ≤ 1048576) (hB : k0 + c * n ≤ B) : loopM step (k0, 0) = some (.inl (k0 + c * n)) := by
  refine loopM_eq (fun (s : Int × Int) => 0 ≤ s.2 ∧ s.2 ≤ n ∧ s.1 = k0 + c * s.2) (fun (s : Int × Int) => ((n : Int) - s.2).toNat) (fun s hI => ?_) (by simp) (by simp; omega)
  obtain ⟨k, i⟩ := s
  obtain ⟨q0, q1, q2⟩ := hI
  dsimp only at q0 q1 q2 ⊢
  by_cases hs : i < n
  · left
    have hci : 0 ≤ c * i := Int.mul_nonneg hc q0
    have hcl : c * i ≤ c * n := Int.mul_le_mul_of_nonneg_left (by omega) hc
    refine ⟨_, hM k i (by omega) (by omega) q0 hs q2, ⟨by dsimp only; omega, by dsimp only; omega, by dsimp only; rw [q2, Int.mul_add]; omega⟩, by dsimp only; omega⟩
  · right
    have hi : i = n := by omega
    rw [hE k i (by omega), q2, hi]
theorem marked_get {α : Type} {M : Int → α} {k0 c : Int} {n : Nat} {i : Int} (h0 : 0 ≤ i) (h1 : i < n) : atI ((List.range n).map fun (j : Nat) => M (k0 + c * (j : Int))) i = some (M (k0 + c * i)) := by
  unfold atI
  rw [if_pos h0, List.getElem?_map, List.getElem?_range (by omega)]
  have : ((i.toNat : Nat) : Int) = i := by omega
  simp [this]
theorem find_ok {X : Type} {n : Nat} {g : Nat → Bool} {d : X} {e : Nat → X} {step : Int → Option (Int ⊕ X)} (hS : ∀ i : Nat, i < n → step (i : Int) = some (if g i = true then .inl ((i : Int) + 1) else .inr (e i))) (hE : step (n : Int) = some (.inr d)) (hn : n ≤ 9223372036854775807) :
    ∃ x, loopM step 0 = some x ∧ (((∀ j, j < n → g j = true) ∧ x = d) ∨ ∃ i, i < n ∧ g i = false ∧ (∀ j, j < i → g j = true) ∧ x = e i) := by
  refine loopM_of (fun (s : Int) => 0 ≤ s ∧ s ≤ n ∧ ∀ j : Nat, (j : Int) < s → g j = true) (fun (s : Int) => ((n : Int) - s).toNat) _ (fun s hI => ?_) 0 ⟨by omega, by omega, fun j hj => by omega⟩ (by omega)
  obtain ⟨q0, q1, q2⟩ := hI
  obtain ⟨i, rfl⟩ : ∃ i : Nat, s = i := ⟨s.toNat, by omega⟩
  by_cases hs : i < n
  · cases hg : g i
    · right
      exact ⟨e i, by rw [hS i hs, hg]; rfl, .inr ⟨i, hs, hg, fun j hj => q2 j (by omega), rfl⟩⟩
    · left
      refine ⟨(i : Int) + 1, by rw [hS i hs, hg]; rfl, ⟨by omega, by omega, fun j hj => ?_⟩, by omega⟩
      rcases Nat.lt_or_ge j i with h | h
      · exact q2 j (by omega)
      · have : j = i := by omega
        rw [this]; exact hg
  · right
    have : i = n := by omega
    subst this
    exact ⟨d, hE, .inl ⟨fun j hj => q2 j (by omega), rfl⟩⟩
theorem scan_ok {X : Type} {n : Nat} {g : Nat → Bool} {d e : X} {step : Int → Option (Int ⊕ X)} (hS : ∀ i : Nat, i < n → step (i : Int) = some (if g i = true then .inl ((i : Int) + 1) else .inr e)) (hE : step (n : Int) = some (.inr d)) (hn : n ≤ 9223372036854775807) :
    loopM step 0 = some (if (List.range n).all g = true then d else e) := by
  obtain ⟨x, hx, ⟨h, rfl⟩ | ⟨i, hi, hg, _, rfl⟩⟩ := find_ok (e := fun _ => e) hS hE hn
  · rw [hx, if_pos (by simpa using h)]
  · rw [hx, if_neg (by simp only [List.all_eq_true, List.mem_range]; intro h; rw [h i hi] at hg; cases hg)]
theorem atI_lt {α : Type} {xs : List α} {i : Nat} (h : i < xs.length) : atI xs (i : Int) = some xs[i] := by rw [atI_nat]; exact List.getElem?_eq_getElem h
theorem all_range {α : Type} {xs : List α} {f : α → Bool} {g : Nat → Bool} (h : ∀ (i : Nat) (hi : i < xs.length), g i = f xs[i]) : (List.range xs.length).all g = xs.all f := by
  rw [Bool.eq_iff_iff, List.all_eq_true, List.all_eq_true]
  constructor
  · intro q v hv
    obtain ⟨i, hi, rfl⟩ := List.getElem_of_mem hv
    rw [← h i hi]; exact q i (List.mem_range.2 hi)
  · intro q i hi
    have hi := List.mem_range.1 hi
    rw [h i hi]; exact q _ (List.getElem_mem hi)
theorem scanL_ok {α X : Type} {xs : List α} {f : α → Bool} {d e : X} {step : Int → Option (Int ⊕ X)} (hS : ∀ (i : Nat) (hi : i < xs.length), step (i : Int) = some (if f xs[i] = true then .inl ((i : Int) + 1) else .inr e)) (hE : step (xs.length : Int) = some (.inr d)) (hn : xs.length ≤ 9223372036854775807) :
    loopM step 0 = some (if xs.all f = true then d else e) := by
  rw [scan_ok (n := xs.length) (d := d) (e := e) (g := fun i => if hi : i < xs.length then f xs[i] else true) (fun i hi => by rw [hS i hi]; simp [hi]) hE hn, all_range (f := f) fun i hi => by simp [hi]]
theorem buildF_ok {α β : Type} {xs : List α} {f : α → List β} {c : Nat} {init : List β} {step : Int × List β → Option ((Int × List β) ⊕ List β)} (hc : ∀ v ∈ xs, (f v).length ≤ c) (hS : ∀ (i : Nat) (hi : i < xs.length) ys, ys.length ≤ init.length + c * i → step ((i : Int), ys) = some (.inl ((i : Int) + 1, ys ++ f xs[i]))) (hE : ∀ ys, step ((xs.length : Int), ys) = some (.inr ys)) (hn : xs.length ≤ 9223372036854775807) :
    loopM step (0, init) = some (init ++ xs.flatMap f) := by
  refine loopM_eq (fun (s : Int × List β) => 0 ≤ s.1 ∧ s.1 ≤ xs.length ∧ s.2 = init ++ (xs.take s.1.toNat).flatMap f ∧ s.2.length ≤ init.length + c * s.1.toNat) (fun (s : Int × List β) => ((xs.length : Int) - s.1).toNat) (fun s hI => ?_) (by simp) (by simp; omega)
  obtain ⟨i, ys⟩ := s
  obtain ⟨q0, q1, q2, q3⟩ := hI
  dsimp only at q0 q1 q2 q3 ⊢
  obtain ⟨j, rfl⟩ : ∃ j : Nat, i = j := ⟨i.toNat, by omega⟩
  have e2 : ((j : Int)).toNat = j := by omega
  rw [e2] at q2 q3
  by_cases hs : j < xs.length
  · left
    have e : ((j : Int) + 1).toNat = j + 1 := by omega
    refine ⟨_, hS j hs ys q3, ⟨by dsimp only; omega, by dsimp only; omega, ?_, ?_⟩, by dsimp only; omega⟩
    · dsimp only
      rw [e, q2, List.take_succ_eq_append_getElem hs, List.flatMap_append, ← List.append_assoc]; simp
    · dsimp only
      rw [e, List.length_append, Nat.mul_add]
      have := hc xs[j] (List.getElem_mem hs)
      omega
  · right
    have : j = xs.length := by omega
    subst this
    rw [hE ys, q2, List.take_length]
end Go.Proofs.YtlakbomkpnlidaaGreat
namespace Go.Proofs.YtlakbomkpnlidaaGreat
set_option linter.unusedVariables false
def btw (x a b : Int) : Bool := decide (a ≤ x ∧ x ≤ b)
theorem i_within_eq (x a b : Int) : i_within_m x a b = some (btw x a b) := by unfold i_within_m btw; split <;> simp_all <;> omega
theorem s_l00In_eq (x a b : Int) : s_l00In_m x a b = some (btw x a b) := by unfold s_l00In_m btw; split <;> simp_all <;> omega
structure SinOk (r k n : Int) : Prop where
  p0 : 0 ≤ 2 * k * (n - 2 * k)
  p1 : 2 * k * (n - 2 * k) ≤ 64000000
  r0 : 0 ≤ r * 16 * (2 * k * (n - 2 * k))
  r1 : r * 16 * (2 * k * (n - 2 * k)) ≤ 102400000000000
  n0 : 1 ≤ 5 * n * n - 4 * (2 * k * (n - 2 * k))
  n1 : 5 * n * n ≤ 1280000000
end Go.Proofs.YtlakbomkpnlidaaGreat
namespace Go.Proofs.YtlakbomkpnlidaaGreat
set_option linter.unusedVariables false
theorem u64_eq (x : Int) : IntKind.u64.wrap x = x % 18446744073709551616 := by
  unfold IntKind.wrap
  simp [IntKind.signed, IntKind.bits]
theorem u64_in {x : Int} (h0 : 0 ≤ x) (h1 : x < 18446744073709551616) : IntKind.u64.wrap x = x := by rw [u64_eq]; omega
theorem u64_neg {x : Int} (h0 : -18446744073709551616 < x) (h1 : x < 0) : IntKind.u64.wrap (-(IntKind.u64.wrap x)) = -x := by rw [u64_eq, u64_eq]; omega
def absI (x : Int) : Int := (x.natAbs : Int)
theorem absI_nn (x : Int) : 0 ≤ absI x := by unfold absI; omega
theorem s_l02Part_eq {x : Int} (h : osI x) : s_l02Part_m x = some (absI x) := by
  obtain ⟨h0, h1⟩ := h
  unfold s_l02Part_m absI
  split
  · rw [u64_neg (by omega) (by omega)]; congr 1; omega
  · rw [u64_in (by omega) (by omega)]; congr 1; omega
theorem i_magnitude_eq {x : Int} (h : osI x) : i_magnitude_m x = some (absI x) := by
  obtain ⟨h0, h1⟩ := h
  unfold i_magnitude_m absI
  split
  · rw [u64_neg (by omega) (by omega)]; congr 1; omega
  · rw [u64_in (by omega) (by omega)]; congr 1; omega
theorem gcd_step {a b : Int} : Int.gcd b (a.tmod b) = Int.gcd a b := by
  unfold Int.gcd
  rw [Int.natAbs_tmod, Nat.gcd_comm a.natAbs b.natAbs, Nat.gcd_comm, ← Nat.gcd_rec]
theorem gcd_loop {step : Int × Int → Option ((Int × Int) ⊕ Int)} (hS : ∀ a b, b ≠ 0 → step (a, b) = some (.inl (b, a.tmod b))) (hE : ∀ a, step (a, 0) = some (.inr a)) (a b : Int) (hb : b.natAbs ≤ 9223372036854775808) :
    ∃ g, loopM step (a, b) = some g ∧ g.natAbs = Int.gcd a b ∧ (g = a ∨ g.natAbs ≤ b.natAbs) := by
  refine loopM_of (fun (s : Int × Int) => Int.gcd s.1 s.2 = Int.gcd a b ∧ s.2.natAbs ≤ b.natAbs ∧ (s.1 = a ∨ s.1.natAbs ≤ b.natAbs)) (fun (s : Int × Int) => s.2.natAbs) (fun g => g.natAbs = Int.gcd a b ∧ (g = a ∨ g.natAbs ≤ b.natAbs)) (fun s hI => ?_) (a, b) ⟨rfl, Nat.le_refl _, .inl rfl⟩ (by dsimp only; omega)
  obtain ⟨x, y⟩ := s
  obtain ⟨h1, h2, h3⟩ := hI
  dsimp only at h1 h2 h3 ⊢
  by_cases hy : y = 0
  · right
    subst hy
    exact ⟨x, hE x, by rw [← h1]; simp, h3⟩
  · left
    have hlt : (x.tmod y).natAbs < y.natAbs := by rw [Int.natAbs_tmod]; exact Nat.mod_lt _ (by omega)
    exact ⟨_, hS x y hy, ⟨by rw [gcd_step]; exact h1, by dsimp only; omega, .inr h2⟩, hlt⟩
theorem gcd_loopP {step : Int × Int → Option ((Int × Int) ⊕ Int)} (hS : ∀ a b, 0 ≤ a → 0 < b → step (a, b) = some (.inl (b, a.tmod b))) (hE : ∀ a, step (a, 0) = some (.inr a)) {a b : Int} (ha : 0 ≤ a) (hb0 : 0 ≤ b) (hb : b ≤ 18446744073709551616) :
    loopM step (a, b) = some (Int.gcd a b : Int) := by
  obtain ⟨g, h, h1, h2⟩ := loopM_of (step := step) (fun (s : Int × Int) => Int.gcd s.1 s.2 = Int.gcd a b ∧ 0 ≤ s.1 ∧ 0 ≤ s.2) (fun (s : Int × Int) => s.2.natAbs) (fun g => g.natAbs = Int.gcd a b ∧ 0 ≤ g) (fun s hI => by
    obtain ⟨x, y⟩ := s
    obtain ⟨h1, h2, h3⟩ := hI
    dsimp only at h1 h2 h3 ⊢
    by_cases hy : y = 0
    · right
      subst hy
      exact ⟨x, hE x, by rw [← h1]; simp, h2⟩
    · left
      have hlt : (x.tmod y).natAbs < y.natAbs := by rw [Int.natAbs_tmod]; exact Nat.mod_lt _ (by omega)
      exact ⟨_, hS x y h2 (by omega), ⟨by rw [gcd_step]; exact h1, h3, Int.tmod_nonneg _ h2⟩, hlt⟩) (a, b) ⟨rfl, ha, hb0⟩ (by dsimp only; omega)
  rw [h]; congr 1; omega
theorem gcd_pos {n d : Int} (h : d ≠ 0) : 0 < Int.gcd n d := Int.gcd_pos_of_ne_zero_right n h
theorem abs_gcd (n d : Int) : Int.gcd (absI n) (absI d) = Int.gcd n d := by unfold absI Int.gcd; simp
theorem quo_bd {a g : Int} (ha : 0 ≤ a) (hg : 0 < g) : 0 ≤ a / g ∧ a / g ≤ a := ⟨Int.ediv_nonneg ha (by omega), Int.ediv_le_self _ ha⟩
def mkR (n d : Int) : Ratio_ × Bool :=
  if 1000000000 < absI n / (Int.gcd n d : Int) ∨ 1000000000 < absI d / (Int.gcd n d : Int) then (⟨0, 0⟩, false)
  else (⟨if (decide (n < 0) != decide (d < 0)) = true then -(absI n / (Int.gcd n d : Int)) else absI n / (Int.gcd n d : Int), absI d / (Int.gcd n d : Int)⟩, true)
theorem make_tail {n d : Int} (hn : osI n) (hd : osI d) (h : d ≠ 0) {f : Int → Option (Ratio_ × Bool)} (hf : ∀ g, f g = (chk (g ≠ 0) (chk (g ≠ 0) ((((if 1000000000 < (IntKind.u64.wrap ((absI n).tdiv g)) then some true else some (decide (1000000000 < (IntKind.u64.wrap ((absI d).tdiv g))))) : Option Bool).bind fun v10 => (if v10 = true then some ((⟨0, 0⟩ : Ratio_), false) else (((if ((decide (n < 0)) != (decide (d < 0))) = true then some (⟨w64 (-(w64 (IntKind.u64.wrap ((absI n).tdiv g)))), w64 (IntKind.u64.wrap ((absI d).tdiv g))⟩ : Ratio_) else some (⟨w64 (IntKind.u64.wrap ((absI n).tdiv g)), w64 (IntKind.u64.wrap ((absI d).tdiv g))⟩ : Ratio_)) : Option Ratio_).bind fun v11 => some (v11, true)))))))) :
    f (Int.gcd n d : Int) = some (mkR n d) := by
  have hg := gcd_pos (n := n) h
  have a0 := absI_nn n
  have b0 := absI_nn d
  have a1 : absI n ≤ 9223372036854775808 := by unfold absI; obtain ⟨_, _⟩ := hn; omega
  have b1 : absI d ≤ 9223372036854775808 := by unfold absI; obtain ⟨_, _⟩ := hd; omega
  have qa := quo_bd (a := absI n) (g := (Int.gcd n d : Int)) a0 (by omega)
  have qb := quo_bd (a := absI d) (g := (Int.gcd n d : Int)) b0 (by omega)
  rw [hf, chk_t (by omega), chk_t (by omega), Int.tdiv_eq_ediv_of_nonneg a0, Int.tdiv_eq_ediv_of_nonneg b0]
  unfold mkR
  generalize absI n / (Int.gcd n d : Int) = a at *
  generalize absI d / (Int.gcd n d : Int) = b at *
  rw [u64_in qa.1 (by omega), u64_in qb.1 (by omega)]
  by_cases c1 : 1000000000 < a
  · simp [c1]
  · by_cases c2 : 1000000000 < b
    · simp [c1, c2]
    · rw [w64_in (x := a) (by omega) (by omega), w64_in (x := b) (by omega) (by omega), w64_in (x := -a) (by omega) (by omega)]
      simp only [if_neg c1, decide_eq_false c2, Option.bind_some, Bool.false_eq_true, if_false, c1, c2, or_self]
      cases (decide (n < 0) != decide (d < 0)) <;> simp
theorem s_l02Make_eq {n d : Int} (hn : osI n) (hd : osI d) (h : d ≠ 0) : s_l02Make_m n d = some (mkR n d) := by
  unfold s_l02Make_m
  have b1 : absI d ≤ 9223372036854775808 := by unfold absI; obtain ⟨_, _⟩ := hd; omega
  rw [s_l02Part_eq hn, Option.bind_some, s_l02Part_eq hd, Option.bind_some, gcd_loopP (fun a b h0 h1 => by simp only; rw [if_pos h1, chk_t (by omega)]) (fun a => by simp) (absI_nn n) (absI_nn d) (by omega), abs_gcd, Option.bind_some]
  exact make_tail hn hd h fun g => rfl
theorem i_reduced_eq {n d : Int} (hn : osI n) (hd : osI d) (h : d ≠ 0) : i_reduced_m n d = some (mkR n d) := by
  unfold i_reduced_m
  have b1 : absI d ≤ 9223372036854775808 := by unfold absI; obtain ⟨_, _⟩ := hd; omega
  rw [i_magnitude_eq hn, Option.bind_some, i_magnitude_eq hd, Option.bind_some, gcd_loopP (fun a b h0 h1 => by simp only; rw [if_pos (by omega), chk_t (by omega)]) (fun a => by simp) (absI_nn n) (absI_nn d) (by omega), abs_gcd, Option.bind_some]
  exact make_tail hn hd h fun g => rfl
def codeR (x : Ratio_ × Bool) : Ratio_ × Int := if x.2 = true then (x.1, 0) else (⟨0, 0⟩, 2)
def makeR (n d : Int) : Ratio_ × Int := if d = 0 then (⟨0, 0⟩, 6) else codeR (mkR n d)
theorem i_MakeRatio_eq {n d : Int} (hn : osI n) (hd : osI d) : i_MakeRatio_m n d = some (makeR n d) := by
  unfold i_MakeRatio_m makeR codeR
  by_cases h : d = 0
  · rw [if_pos h, if_pos h]
  · rw [if_neg h, if_neg h, i_reduced_eq hn hd h, Option.bind_some]
    cases (mkR n d).2 <;> simp
theorem i_gcd_eq {a b : Int} (ha : osI a) (ha' : -9223372036854775808 < a) (hb : osI b) (hb' : -9223372036854775808 < b) : i_gcd_m a b = some (Int.gcd a b : Int) := by
  unfold i_gcd_m
  obtain ⟨a0, a1⟩ := ha
  obtain ⟨b0, b1⟩ := hb
  obtain ⟨g, h, h1, h2⟩ := gcd_loop (step := fun s3 => (if s3.2 ≠ 0 then (chk (s3.2 ≠ 0) (some (.inl (s3.2, s3.1.tmod s3.2)))) else some (.inr s3.1))) (fun a b h => by simp only; rw [if_pos h, chk_t h]) (fun a => by simp) a b (by omega)
  rw [h, Option.bind_some]
  split
  · rw [w64_in (by omega) (by omega)]; congr 1; omega
  · congr 1; omega
theorem s_l02Gcd_eq {a b : Int} (ha : 0 ≤ a) (hb : 0 ≤ b) (hb1 : b ≤ 18446744073709551616) : s_l02Gcd_m a b = some (Int.gcd a b : Int) := by
  unfold s_l02Gcd_m
  rw [gcd_loopP (fun a b h0 h1 => by simp only; rw [if_pos (by omega), chk_t (by omega)]) (fun a => by simp) ha hb hb1]; rfl
theorem s_l02Size_eq {a : Int} (h : -9223372036854775808 < a) (h1 : a ≤ 9223372036854775807) : s_l02Size_m a = some (absI a) := by
  unfold s_l02Size_m absI
  split
  · rw [w64_in (by omega) (by omega)]; congr 1; omega
  · congr 1; omega
theorem i_abs_eq {a : Int} (h : -9223372036854775808 < a) (h1 : a ≤ 9223372036854775807) : i_abs_m a = some (absI a) := by
  unfold i_abs_m absI
  split
  · rw [w64_in (by omega) (by omega)]; congr 1; omega
  · congr 1; omega
def ratB (r : Ratio_) : Bool := btw r.Den 1 1000000000 && (btw r.Num (-1000000000) 1000000000 && decide (Int.gcd r.Num r.Den = 1))
theorem ratB_iff {r : Ratio_} : ratB r = true ↔ (1 ≤ r.Den ∧ r.Den ≤ 1000000000) ∧ (-1000000000 ≤ r.Num ∧ r.Num ≤ 1000000000) ∧ Int.gcd r.Num r.Den = 1 := by
  unfold ratB btw
  simp only [Bool.and_eq_true, decide_eq_true_eq]
theorem i_ValidRatio_eq (r : Ratio_) : i_ValidRatio_m r = some (ratB r) := by
  unfold i_ValidRatio_m ratB
  simp only [i_within_eq, Option.bind_some]
  by_cases h1 : btw r.Den 1 1000000000 = true
  · by_cases h2 : btw r.Num (-1000000000) 1000000000 = true
    · have g1 := of_decide_eq_true h1
      have g2 := of_decide_eq_true h2
      rw [if_pos h1, if_pos h2, i_gcd_eq ⟨by omega, by omega⟩ (by omega) ⟨by omega, by omega⟩ (by omega), h1, h2]
      simp only [Option.bind_some, Bool.true_and]
      congr 1
      rw [decide_eq_decide]
      omega
    · simp [h1, h2]
  · simp [h1]
end Go.Proofs.YtlakbomkpnlidaaGreat
namespace Go.Proofs.YtlakbomkpnlidaaGreat
set_option linter.unusedVariables false
def smB (c : Int) : Bool := decide (97 ≤ c ∧ c ≤ 122)
def dgB (c : Int) : Bool := decide (48 ≤ c ∧ c ≤ 57)
def okB (c : Int) : Bool := smB c || (dgB c || decide (c = 45))
theorem strAt_bytes (s : ByteArray) (i : Int) : strAt s i = atI (bytesL s) i := by
  unfold strAt atI bytesL
  split
  · rename_i h
    rw [List.getElem?_map]
    congr 1
    rw [Array.getElem?_toList]
    by_cases hi : i.toNat < s.size
    · rw [getElem?_pos s i.toNat hi, getElem?_pos s.data i.toNat hi]; rfl
    · rw [getElem?_neg s i.toNat hi, getElem?_neg s.data i.toNat hi]
  · rfl
def nameB (s : ByteArray) : Bool := decide (1 ≤ s.size ∧ s.size ≤ 12) && ((bytesL s).take 1).all smB && (bytesL s).all okB
theorem s_l01Small_eq (c : Int) : s_l01Small_m c = some (smB c) := by unfold s_l01Small_m smB; split <;> simp_all <;> omega
theorem s_l01Digit_eq (c : Int) : s_l01Digit_m c = some (dgB c) := by unfold s_l01Digit_m dgB; split <;> simp_all <;> omega
theorem str0 {s : ByteArray} : s = ⟨#[]⟩ ↔ s.size = 0 := by
  constructor
  · rintro rfl; rfl
  · intro h
    cases s with | mk d =>
    have : d = #[] := Array.eq_empty_of_size_eq_zero h
    rw [this]
theorem s_IsName_eq (s : ByteArray) : s_IsName_m s = some (nameB s) := by
  have hl := bytesL_len s
  unfold s_IsName_m nameB
  by_cases h0 : s = ⟨#[]⟩
  · have := str0.1 h0
    simp [h0]
    intro h; exact absurd h (by decide)
  · have h1 : s.size ≠ 0 := fun h => h0 (str0.2 h)
    rw [if_neg h0]
    by_cases h2 : 12 < (s.size : Int)
    · rw [if_pos h2]
      simp
      intro a b; omega
    · rw [if_neg h2]
      obtain ⟨c, cs, hc⟩ : ∃ c cs, bytesL s = c :: cs := by
        cases hb : bytesL s with
        | nil => rw [hb] at hl; simp at hl; omega
        | cons c cs => exact ⟨c, cs, rfl⟩
      have e0 : strAt s 0 = some c := by rw [strAt_bytes, hc]; rfl
      rw [e0]
      simp only [Option.bind_some, s_l01Small_eq]
      have ht : ((bytesL s).take 1).all smB = smB c := by rw [hc]; simp
      have hd : decide (1 ≤ s.size ∧ s.size ≤ 12) = true := decide_eq_true ⟨by omega, by omega⟩
      rw [ht, hd]
      cases hs : smB c
      · simp
      · simp only [Bool.not_true, Bool.false_eq_true, if_false, Bool.true_and]
        have hz : (s.size : Int) = ((bytesL s).length : Int) := by rw [hl]
        rw [hz, scanL_ok (xs := bytesL s) (f := okB) (d := .inl ()) (e := .inr false) (fun i hi => ?_) (by simp) (by omega)]
        · cases (bytesL s).all okB <;> simp [orE]
        · have hi' : (i : Int) < ((bytesL s).length : Int) := by omega
          have e1 : w64 ((i : Int) + 1) = i + 1 := w64_in (by omega) (by omega)
          rw [if_pos hi', strAt_bytes, atI_lt hi]
          simp only [Option.bind_some, s_l01Small_eq, s_l01Digit_eq, e1, okB]
          generalize (bytesL s)[i] = c
          rcases Bool.eq_false_or_eq_true (smB c) with g1 | g1 <;> rcases Bool.eq_false_or_eq_true (dgB c) with g2 | g2 <;> by_cases h45 : c = 45 <;> simp [g1, g2, h45]
theorem i_IsName_eq (s : ByteArray) : i_IsName_m s = some (nameB s) := by
  have hl := bytesL_len s
  unfold i_IsName_m nameB
  by_cases h1 : (s.size : Int) < 1
  · rw [if_pos h1]; simp
    intro a b; omega
  · rw [if_neg h1]
    by_cases h2 : 12 < (s.size : Int)
    · simp [h2]
      intro a b; omega
    · have hd : decide (1 ≤ s.size ∧ s.size ≤ 12) = true := decide_eq_true ⟨by omega, by omega⟩
      simp only [h2, decide_false, Option.bind_some, Bool.false_eq_true, if_false, hd, Bool.true_and]
      rw [chk_t (by omega), scan_ok (n := (bytesL s).length) (d := .inl ()) (e := .inr false) (g := fun i => smB ((bytesL s).getD i 0) || (decide (i ≠ 0) && (dgB ((bytesL s).getD i 0) || decide ((bytesL s).getD i 0 = 45)))) (fun i hi => ?_) (by simp) (by omega)]
      · obtain ⟨c, cs, hc⟩ : ∃ c cs, bytesL s = c :: cs := by
          cases hb : bytesL s with
          | nil => rw [hb] at hl; simp at hl; omega
          | cons c cs => exact ⟨c, cs, rfl⟩
        have key : (List.range (bytesL s).length).all (fun i => smB ((bytesL s).getD i 0) || (decide (i ≠ 0) && (dgB ((bytesL s).getD i 0) || decide ((bytesL s).getD i 0 = 45)))) = (((bytesL s).take 1).all smB && (bytesL s).all okB) := by
          rw [hc]
          simp only [List.length_cons, List.range_succ_eq_map, List.all_cons, List.all_map, List.take_succ_cons, List.take_zero, List.all_nil, Bool.and_true]
          have : (List.range cs.length).all ((fun i => smB ((c :: cs).getD i 0) || (decide (i ≠ 0) && (dgB ((c :: cs).getD i 0) || decide ((c :: cs).getD i 0 = 45)))) ∘ Nat.succ) = cs.all okB := all_range (f := okB) fun i hi => by simp [okB, hi]
          rw [this]
          simp [okB]
          cases smB c <;> simp
        rw [key]
        cases ((bytesL s).take 1).all smB && (bytesL s).all okB <;> simp [orE]
      · have hi' : (i : Int) < ((bytesL s).length : Int) := by omega
        have e1 : w64 ((i : Int) + 1) = i + 1 := w64_in (by omega) (by omega)
        have e2 : (bytesL s).getD i 0 = (bytesL s)[i] := by simp [hi]
        rw [if_pos hi', atI_lt hi, e2]
        simp only [Option.bind_some, e1]
        generalize (bytesL s)[i] = c
        have A : (if 97 ≤ c then some (decide (c ≤ 122)) else some false) = some (smB c) := by unfold smB; split <;> simp_all <;> omega
        have B : (if 48 ≤ c then (if c ≤ 57 then some true else some (decide (c = 45))) else some (decide (c = 45))) = some (dgB c || decide (c = 45)) := by
          unfold dgB
          split
          · split <;> simp_all <;> omega
          · simp_all; omega
        rw [A, B]
        simp only [Option.bind_some]
        have hz : ((i : Int) = 0) ↔ i = 0 := by omega
        cases smB c <;> cases (dgB c || decide (c = 45)) <;> by_cases h0 : i = 0 <;> simp [h0]
end Go.Proofs.YtlakbomkpnlidaaGreat
namespace Go.Proofs.YtlakbomkpnlidaaGreat
set_option linter.unusedVariables false
def allI {α : Type} (xs : List α) (f : Nat → α → Bool) : Bool := (List.range xs.length).all fun i => if hi : i < xs.length then f i xs[i] else true
theorem allI_iff {α : Type} {xs : List α} {f : Nat → α → Bool} : allI xs f = true ↔ ∀ (i : Nat) (hi : i < xs.length), f i xs[i] = true := by
  unfold allI
  rw [List.all_eq_true]
  constructor
  · intro h i hi
    have := h i (List.mem_range.2 hi)
    rwa [dif_pos hi] at this
  · intro h i hi
    have hi := List.mem_range.1 hi
    rw [dif_pos hi]
    exact h i hi
theorem allI_all {α : Type} {xs : List α} {f : α → Bool} : allI xs (fun _ v => f v) = xs.all f := all_range fun i hi => by simp [hi]
theorem scanG {α X : Type} {xs : List α} {G : Int → Option (Int ⊕ X)} (f : Nat → α → Bool) {d e : X} (hl : xs.length ≤ 9223372036854775807) (hG : ∀ (i : Nat) (hi : i < xs.length), G i = some (if f i xs[i] = true then .inl (w64 ((i : Int) + 1)) else .inr e)) :
    loopM (fun s => (if s < (xs.length : Int) then G s else some (.inr d))) 0 = some (if allI xs f = true then d else e) := by
  refine scan_ok (n := xs.length) (g := fun i => if hi : i < xs.length then f i xs[i] else true) (fun i hi => ?_) (by simp) hl
  have hi' : (i : Int) < xs.length := by omega
  have e1 : w64 ((i : Int) + 1) = i + 1 := w64_in (by omega) (by omega)
  simp only [if_pos hi', hG i hi, hi, dite_true, e1]
theorem scanT {α X : Type} {xs : List α} {G : Int → Option (Int ⊕ X)} (k : Nat) (f : Nat → α → Bool) {d e : X} (hk : k ≤ xs.length) (hl : xs.length ≤ 9223372036854775807) (hG : ∀ (i : Nat) (hi : i < xs.length), i < k → G i = some (if f i xs[i] = true then .inl (w64 ((i : Int) + 1)) else .inr e)) :
    loopM (fun s => (if s < (k : Int) then G s else some (.inr d))) 0 = some (if allI (xs.take k) f = true then d else e) := by
  have hlen : (xs.take k).length = k := by rw [List.length_take]; omega
  have := scanG (xs := xs.take k) (G := G) f (d := d) (e := e) (by omega) (fun i hi => by
    rw [List.getElem_take]; exact hG i (by omega) (by omega))
  rwa [hlen] at this
def posOf {α : Type} (xs : List α) (p : α → Bool) : Int := match xs.findIdx? p with
  | some i => i
  | none => -1
theorem findG {α : Type} {xs : List α} {G : Int → Option (Int ⊕ (Unit ⊕ Int))} (p : α → Bool) (hl : xs.length ≤ 9223372036854775807) (hG : ∀ (i : Nat) (hi : i < xs.length), G i = (if p xs[i] = true then some (.inr (.inr (i : Int))) else some (.inl (w64 ((i : Int) + 1))))) :
    ((loopM (fun s => (if s < (xs.length : Int) then G s else some (.inr (.inl ())))) 0 : Option (Unit ⊕ Int)).bind fun x => orE x fun v => some (-1)) = some (posOf xs p) := by
  obtain ⟨x, hx, h⟩ := find_ok (X := Unit ⊕ Int) (n := xs.length) (step := fun s => (if s < (xs.length : Int) then G s else some (.inr (.inl ())))) (g := fun i => if hi : i < xs.length then !p xs[i] else true) (d := .inl ()) (e := fun i => .inr (i : Int)) (fun i hi => by
    have hi' : (i : Int) < xs.length := by omega
    have e1 : w64 ((i : Int) + 1) = i + 1 := w64_in (by omega) (by omega)
    simp only [if_pos hi', hG i hi, hi, dite_true, e1]
    cases p xs[i] <;> rfl) (by simp) hl
  rw [hx]
  unfold posOf
  rcases h with ⟨h, rfl⟩ | ⟨i, hi, hg, hj, rfl⟩
  · have : xs.findIdx? p = none := by
      rw [List.findIdx?_eq_none_iff]
      intro v hv
      obtain ⟨i, hi, rfl⟩ := List.getElem_of_mem hv
      have := h i hi
      simpa [hi] using this
    rw [this]; rfl
  · have : xs.findIdx? p = some i := by
      rw [List.findIdx?_eq_some_iff_getElem]
      refine ⟨hi, by simpa [hi] using hg, fun j hji => ?_⟩
      have := hj j hji
      have hjl : j < xs.length := by omega
      simpa [hjl] using this
    rw [this]; rfl
theorem posOf_nn {α : Type} {xs : List α} {p : α → Bool} : decide (0 ≤ posOf xs p) = xs.any p := by
  unfold posOf
  cases h : xs.findIdx? p with
  | none =>
    rw [List.findIdx?_eq_none_iff] at h
    have e : xs.any p = false := by
      rw [← Bool.not_eq_true, List.any_eq_true]
      rintro ⟨v, hv, hp⟩
      rw [h v hv] at hp; cases hp
    rw [e]; rfl
  | some i =>
    rw [List.findIdx?_eq_some_iff_getElem] at h
    obtain ⟨hi, hp, _⟩ := h
    rw [List.any_eq_true.2 ⟨_, List.getElem_mem hi, hp⟩]
    exact decide_eq_true (by show (0 : Int) ≤ (i : Int); omega)
theorem posOf_here {α : Type} {xs : List α} {p : α → Bool} {i : Nat} (hi : i < xs.length) (hp : p xs[i] = true) : decide (posOf xs p ≠ (i : Int)) = (xs.take i).any p := by
  unfold posOf
  cases h : xs.findIdx? p with
  | none =>
    rw [List.findIdx?_eq_none_iff] at h
    rw [h _ (List.getElem_mem hi)] at hp; cases hp
  | some j =>
    rw [List.findIdx?_eq_some_iff_getElem] at h
    obtain ⟨hj, hpj, hmin⟩ := h
    by_cases e : j = i
    · subst e
      have e2 : (xs.take j).any p = false := by
        rw [← Bool.not_eq_true, List.any_eq_true]
        rintro ⟨v, hv, hq⟩
        obtain ⟨k, hk, rfl⟩ := List.getElem_of_mem hv
        rw [List.length_take] at hk
        rw [List.getElem_take] at hq
        exact hmin k (by omega) hq
      rw [e2]
      exact decide_eq_false (by simp)
    · have hlt : j < i := by
        rcases Nat.lt_trichotomy j i with h | h | h
        · exact h
        · exact absurd h e
        · exact absurd hp (hmin i h)
      have e2 : (xs.take i).any p = true := List.any_eq_true.2 ⟨xs[j], by
        rw [List.mem_iff_getElem]
        exact ⟨j, by rw [List.length_take]; omega, by rw [List.getElem_take]⟩, hpj⟩
      rw [e2]
      exact decide_eq_true (by show (j : Int) ≠ (i : Int); omega)
theorem subL0 {α : Type} {xs : List α} {i : Nat} : subL xs 0 (i : Int) = xs.take i := by simp [subL]
theorem subL_ok {α : Type} {xs : List α} {i : Nat} (h : i ≤ xs.length) : 0 ≤ (0 : Int) ∧ (0 : Int) ≤ (i : Int) ∧ (i : Int) ≤ (xs.length : Int) := by omega
def forL {α σ X : Type} (body : Nat → α → σ → Option (σ ⊕ X)) : List α → Nat → σ → Option (σ ⊕ X)
  | [], _, s => some (.inl s)
  | x :: xs, i, s => (body i x s).bind fun r => match r with
    | .inl s' => forL body xs (i + 1) s'
    | .inr y => some (.inr y)
theorem loopN_succ {S X : Type} (step : S → Option (S ⊕ X)) (n : Nat) (s : S) : loopN step (n + 1) s = (step s).bind fun r => match r with
    | .inl s' => loopN step n s'
    | .inr y => some y := by
  cases h : step s with
  | none => simp [loopN, h]
  | some r => cases r <;> simp [loopN, h]
theorem loop_for {α S σ X : Type} {xs : List α} {step : S → Option (S ⊕ X)} (mk : Int → σ → S) (body : Nat → α → σ → Option (σ ⊕ X)) (fin : σ → X) (hl : xs.length ≤ 9223372036854775807)
    (hS : ∀ (i : Nat) (hi : i < xs.length) s, step (mk i s) = (body i xs[i] s).map (Sum.map (mk ((i : Int) + 1)) id)) (hE : ∀ s, step (mk xs.length s) = some (.inr (fin s))) (s0 : σ) :
    loopM step (mk 0 s0) = (forL body xs 0 s0).map (Sum.elim fin id) := by
  have key : ∀ (k : Nat) (ys : List α) (n : Nat) s, ys.length + k = xs.length → ys = xs.drop k → ys.length < n → loopN step n (mk (k : Int) s) = (forL body ys k s).map (Sum.elim fin id) := by
    intro k ys
    induction ys generalizing k with
    | nil =>
      intro n s h1 h2 h3
      obtain ⟨n, rfl⟩ : ∃ m, n = m + 1 := ⟨n - 1, by simp at h3; omega⟩
      have : k = xs.length := by simpa using h1
      subst this
      rw [loopN_succ, hE]; rfl
    | cons y ys ih =>
      intro n s h1 h2 h3
      obtain ⟨n, rfl⟩ : ∃ m, n = m + 1 := ⟨n - 1, by simp at h3; omega⟩
      have hk : k < xs.length := by simp at h1; omega
      rw [List.drop_eq_getElem_cons hk] at h2
      injection h2 with h2 h4
      rw [loopN_succ, hS k hk, ← h2]
      show _ = ((body k y s).bind _).map _
      cases body k y s with
      | none => rfl
      | some r =>
        cases r with
        | inr z => rfl
        | inl s' => exact ih (k + 1) n s' (by simp at h1; omega) h4 (by simp at h3; omega)
  exact key 0 xs fuel s0 (by simp) (by simp) (by unfold fuel; omega)
theorem loop_forI {α S σ X : Type} {xs : List α} {step : S → Option (S ⊕ X)} (mk : Int → σ → S) (body : Nat → α → σ → Option (σ ⊕ X)) (fin : σ → X) (I : σ → Prop) (hl : xs.length ≤ 9223372036854775807)
    (hS : ∀ (i : Nat) (hi : i < xs.length) s, I s → step (mk i s) = (body i xs[i] s).map (Sum.map (mk ((i : Int) + 1)) id)) (hI : ∀ (i : Nat) (hi : i < xs.length) s s', I s → body i xs[i] s = some (.inl s') → I s') (hE : ∀ s, I s → step (mk xs.length s) = some (.inr (fin s))) (s0 : σ) (h0 : I s0) :
    loopM step (mk 0 s0) = (forL body xs 0 s0).map (Sum.elim fin id) := by
  have key : ∀ (k : Nat) (ys : List α) (n : Nat) s, I s → ys.length + k = xs.length → ys = xs.drop k → ys.length < n → loopN step n (mk (k : Int) s) = (forL body ys k s).map (Sum.elim fin id) := by
    intro k ys
    induction ys generalizing k with
    | nil =>
      intro n s hs h1 h2 h3
      obtain ⟨n, rfl⟩ : ∃ m, n = m + 1 := ⟨n - 1, by simp at h3; omega⟩
      have : k = xs.length := by simpa using h1
      subst this
      rw [loopN_succ, hE s hs]; rfl
    | cons y ys ih =>
      intro n s hs h1 h2 h3
      obtain ⟨n, rfl⟩ : ∃ m, n = m + 1 := ⟨n - 1, by simp at h3; omega⟩
      have hk : k < xs.length := by simp at h1; omega
      rw [List.drop_eq_getElem_cons hk] at h2
      injection h2 with h2 h4
      rw [loopN_succ, hS k hk s hs, ← h2]
      show _ = ((body k y s).bind _).map _
      cases hb : body k y s with
      | none => rfl
      | some r =>
        cases r with
        | inr z => rfl
        | inl s' => exact ih (k + 1) n s' (hI k hk s s' hs (by rw [← h2]; exact hb)) (by simp at h1; omega) h4 (by simp at h3; omega)
  exact key 0 xs fuel s0 h0 (by simp) (by simp) (by unfold fuel; omega)
theorem forL_fold {α σ X : Type} {body : Nat → α → σ → Option (σ ⊕ X)} (f : σ → α → σ) (h : ∀ i x s, body i x s = some (.inl (f s x))) : ∀ (xs : List α) (k : Nat) (s : σ), forL body xs k s = some (.inl (xs.foldl f s))
  | [], k, s => rfl
  | x :: xs, k, s => by
    show (body k x s).bind _ = _
    rw [h]
    exact forL_fold f h xs (k + 1) (f s x)
theorem itA {a b : Bool} : (if a = true then some b else some false) = some (a && b) := by cases a <;> rfl
theorem itO {a b : Bool} : (if a = true then some true else some b) = some (a || b) := by cases a <;> rfl
theorem itF {a b : Bool} : (if a = true then some false else some b) = some (!a && b) := by cases a <;> rfl
theorem itAp {p : Prop} [Decidable p] {b : Bool} : (if p then some b else some false) = some (decide p && b) := by by_cases h : p <;> simp [h]
theorem itOp {p : Prop} [Decidable p] {b : Bool} : (if p then some true else some b) = some (decide p || b) := by by_cases h : p <;> simp [h]
theorem scan_and {a b : Bool} {k : Option Bool} (h : k = some b) : (orE (if a = true then (.inl () : Unit ⊕ Bool) else .inr false) fun _ => k) = some (a && b) := by cases a <;> simp [orE, h]
end Go.Proofs.YtlakbomkpnlidaaGreat
namespace Go.Proofs.YtlakbomkpnlidaaGreat
set_option linter.unusedVariables false
def toothB (t : Int) : Bool := btw t 6 240
theorem i_toothed_eq (t : Int) : i_toothed_m t = some (toothB t) := by unfold i_toothed_m; rw [i_within_eq]; rfl
theorem s_l05Teeth_eq (t : Int) : s_l05Teeth_m t = some (toothB t) := by unfold s_l05Teeth_m; rw [s_l00In_eq]; rfl
def arbB (a : Arbor_) : Bool := a.Wheels.all toothB && (nameB a.Name && decide (a.Wheels.length ≤ 5))
theorem i_validArbor_eq {a : Arbor_} (hl : a.Wheels.length ≤ 9223372036854775807) : i_validArbor_m a = some (arbB a) := by
  unfold i_validArbor_m arbB
  rw [scanG (fun _ v => toothB v) hl fun i hi => by rw [atI_lt hi, Option.bind_some, i_toothed_eq, Option.bind_some]; cases toothB a.Wheels[i] <;> rfl, allI_all, Option.bind_some, i_IsName_eq]
  cases a.Wheels.all toothB <;> cases nameB a.Name <;> simp [orE]; omega
theorem s_l08Arbor_eq {a : Arbor_} (hl : a.Wheels.length ≤ 9223372036854775807) : s_l08Arbor_m a = some (arbB a) := by
  unfold s_l08Arbor_m arbB
  rw [scanG (fun _ v => toothB v) hl fun i hi => by rw [atI_lt hi, Option.bind_some, s_l05Teeth_eq, Option.bind_some]; cases toothB a.Wheels[i] <;> rfl, allI_all, Option.bind_some, s_IsName_eq]
  cases a.Wheels.all toothB <;> cases nameB a.Name <;> simp [orE]; omega
def whB (w : Works_) (a k : Int) : Bool := decide (0 ≤ a ∧ a < w.Arbors.length) && match w.Arbors[a.toNat]? with
  | some b => decide (0 ≤ k ∧ k < b.Wheels.length)
  | none => false
theorem btw_len {α : Type} {l : List α} {a : Int} (hl : l.length ≤ 9223372036854775807) : btw a 0 (w64 ((l.length : Int) - 1)) = decide (0 ≤ a ∧ a < l.length) := by
  rw [w64_in (by omega) (by omega)]
  unfold btw
  rw [decide_eq_decide]; omega
theorem wheel_tail {w : Works_} {a k : Int} (hl : w.Arbors.length ≤ 9223372036854775807) (hw : ∀ b ∈ w.Arbors, b.Wheels.length ≤ 9223372036854775807) {f : Arbor_ → Option Bool} (hf : ∀ b ∈ w.Arbors, f b = some (decide (0 ≤ k ∧ k < b.Wheels.length))) :
    (if decide (0 ≤ a ∧ a < w.Arbors.length) = true then ((atI w.Arbors a).bind f) else some false) = some (whB w a k) := by
  unfold whB
  by_cases h : 0 ≤ a ∧ a < w.Arbors.length
  · obtain ⟨e, he, hm, hg⟩ := atI_some h.1 h.2
    rw [decide_eq_true h, if_pos rfl, he, Option.bind_some, hf e hm, hg]; rfl
  · rw [decide_eq_false h]; rfl
theorem i_hasWheel_eq {w : Works_} (hl : w.Arbors.length ≤ 9223372036854775807) (hw : ∀ b ∈ w.Arbors, b.Wheels.length ≤ 9223372036854775807) (a k : Int) : i_hasWheel_m w a k = some (whB w a k) := by
  unfold i_hasWheel_m
  rw [i_within_eq, Option.bind_some, btw_len hl]
  exact wheel_tail hl hw fun b hb => by rw [i_within_eq, Option.bind_some, btw_len (hw b hb)]
theorem s_l08Wheel_eq {w : Works_} (hl : w.Arbors.length ≤ 9223372036854775807) (hw : ∀ b ∈ w.Arbors, b.Wheels.length ≤ 9223372036854775807) (a k : Int) : s_l08Wheel_m w a k = some (whB w a k) := by
  unfold s_l08Wheel_m
  rw [s_l00In_eq, Option.bind_some, btw_len hl]
  exact wheel_tail hl hw fun b hb => by rw [s_l00In_eq, Option.bind_some, btw_len (hw b hb)]
def joinB (w : Works_) (m : Mesh_) : Bool := decide (m.A ≠ m.B) && (whB w m.A m.WheelA && whB w m.B m.WheelB)
theorem i_joins_eq {w : Works_} (hl : w.Arbors.length ≤ 9223372036854775807) (hw : ∀ b ∈ w.Arbors, b.Wheels.length ≤ 9223372036854775807) (m : Mesh_) : i_joins_m w m = some (joinB w m) := by
  unfold i_joins_m joinB
  simp only [i_hasWheel_eq hl hw, Option.bind_some]
  by_cases h : m.A = m.B <;> cases whB w m.A m.WheelA <;> simp [h]
theorem s_l08Mesh_eq {w : Works_} (hl : w.Arbors.length ≤ 9223372036854775807) (hw : ∀ b ∈ w.Arbors, b.Wheels.length ≤ 9223372036854775807) (m : Mesh_) : s_l08Mesh_m w m = some (joinB w m) := by
  unfold s_l08Mesh_m joinB
  simp only [s_l08Wheel_eq hl hw, Option.bind_some]
  by_cases h : m.A = m.B <;> cases whB w m.A m.WheelA <;> simp [h]
def sameB (m n : Mesh_) : Bool := decide (m = n ∨ m = ⟨n.B, n.WheelB, n.A, n.WheelA⟩)
theorem sameB_comm (m n : Mesh_) : sameB m n = sameB n m := by
  unfold sameB
  rw [decide_eq_decide]
  obtain ⟨a, b, c, d⟩ := m
  obtain ⟨a', b', c', d'⟩ := n
  simp only [Mesh_.mk.injEq]
  omega
theorem i_sameMesh_eq (m n : Mesh_) : i_sameMesh_m m n = some (sameB m n) := by
  unfold i_sameMesh_m sameB
  by_cases h : m = n
  · simp [h]
  · rw [if_neg h]; simp [h]
theorem s_l08Equal_eq (m n : Mesh_) : s_l08Equal_m m n = some (sameB m n) := by
  unfold s_l08Equal_m sameB
  by_cases h : m = n
  · simp [h]
  · rw [if_neg h]
    obtain ⟨a, b, c, d⟩ := m
    obtain ⟨a', b', c', d'⟩ := n
    have e : decide ((⟨a, b, c, d⟩ : Mesh_) = ⟨a', b', c', d'⟩ ∨ (⟨a, b, c, d⟩ : Mesh_) = ⟨c', d', a', b'⟩) = decide (a = c' ∧ b = d' ∧ c = a' ∧ d = b') := by
      rw [decide_eq_decide]
      simp only [h, false_or, Mesh_.mk.injEq]
    dsimp only
    rw [e]
    by_cases h1 : a = c' <;> by_cases h2 : b = d' <;> by_cases h3 : c = a' <;> simp [h1, h2, h3]
def wksB (w : Works_) : Bool := decide (w.Arbors.length ≤ 16) && (decide (w.Meshes.length ≤ 24) && (allI w.Arbors (fun i a => arbB a && !((w.Arbors.take i).any fun b => decide (b.Name = a.Name))) && allI w.Meshes (fun i m => joinB w m && !((w.Meshes.take i).any fun n => sameB m n))))
theorem i_knownMesh_eq {xs : List Mesh_} {m : Mesh_} (hl : xs.length ≤ 9223372036854775807) : slices_ContainsFunc_LMesh_Mesh_i_ValidWorks_1_m xs m = some (xs.any fun n => sameB m n) := by
  unfold slices_ContainsFunc_LMesh_Mesh_i_ValidWorks_1_m slices_IndexFunc_LMesh_Mesh_i_ValidWorks_1_m
  rw [findG (fun n => sameB m n) hl fun i hi => by rw [atI_lt hi, Option.bind_some, i_ValidWorks_1_m, i_sameMesh_eq, Option.bind_some, Option.bind_some], Option.bind_some, posOf_nn]
theorem i_ValidWorks_eq {w : Works_} (hl : w.Arbors.length ≤ 9223372036854775807) (hw : ∀ b ∈ w.Arbors, b.Wheels.length ≤ 9223372036854775807) (hm : w.Meshes.length ≤ 9223372036854775807) : i_ValidWorks_m w = some (wksB w) := by
  unfold i_ValidWorks_m wksB
  by_cases h1 : w.Arbors.length ≤ 16
  · by_cases h2 : w.Meshes.length ≤ 24
    · rw [if_neg (by omega), Option.bind_some, decide_eq_false (by omega), if_neg (by decide), decide_eq_true h1, decide_eq_true h2,
        scanG (e := .inr false) (fun i a => arbB a && !((w.Arbors.take i).any fun b => decide (b.Name = a.Name))) hl fun i hi => ?_, Option.bind_some,
        scanG (e := .inr false) (fun i m => joinB w m && !((w.Meshes.take i).any fun n => sameB m n)) hm fun i hi => ?_, Option.bind_some]
      · cases allI w.Arbors (fun i a => arbB a && !((w.Arbors.take i).any fun b => decide (b.Name = a.Name))) <;> cases allI w.Meshes (fun i m => joinB w m && !((w.Meshes.take i).any fun n => sameB m n)) <;> rfl
      · rw [atI_lt hi, Option.bind_some, i_joins_eq hl hw, Option.bind_some, chk_t (subL_ok (by omega)), subL0, i_knownMesh_eq (by rw [List.length_take]; omega)]
        cases joinB w w.Meshes[i] <;> cases ((w.Meshes.take i).any fun n => sameB w.Meshes[i] n) <;> rfl
      · rw [atI_lt hi, Option.bind_some, i_validArbor_eq (hw _ (List.getElem_mem hi)), Option.bind_some, chk_t (subL_ok (by omega)), subL0,
          scanG (fun _ b => !decide (b.Name = w.Arbors[i].Name)) (by rw [List.length_take]; omega) fun j hj => by
            rw [atI_lt hj, Option.bind_some]
            by_cases q : w.Arbors[i].Name = (w.Arbors.take i)[j].Name
            · rw [if_pos q, decide_eq_true q.symm]; rfl
            · rw [if_neg q, decide_eq_false (Ne.symm q)]; rfl, allI_all]
        have e : ((w.Arbors.take i).all fun b => !decide (b.Name = w.Arbors[i].Name)) = !((w.Arbors.take i).any fun b => decide (b.Name = w.Arbors[i].Name)) := by rw [Bool.eq_iff_iff]; simp
        rw [e]
        cases arbB w.Arbors[i] <;> cases ((w.Arbors.take i).any fun b => decide (b.Name = w.Arbors[i].Name)) <;> rfl
    · rw [if_neg (by omega), Option.bind_some, decide_eq_true (by omega), if_pos rfl, decide_eq_false h2, decide_eq_true h1]; rfl
  · rw [if_pos (by omega), Option.bind_some, if_pos rfl, decide_eq_false h1]; rfl
theorem s_l08Find_eq {w : Works_} (hl : w.Arbors.length ≤ 9223372036854775807) (s : ByteArray) : s_l08Find_m w s = some (posOf w.Arbors fun a => decide (a.Name = s)) := by
  unfold s_l08Find_m
  rw [findG (fun a => decide (a.Name = s)) hl fun i hi => by rw [atI_lt hi, Option.bind_some]; by_cases q : w.Arbors[i].Name = s <;> simp [q]]
theorem s_l08Known_eq {w : Works_} (hm : w.Meshes.length ≤ 9223372036854775807) (m : Mesh_) {k : Nat} (hk : k ≤ w.Meshes.length) : s_l08Known_m w m (k : Int) = some ((w.Meshes.take k).any fun n => sameB m n) := by
  unfold s_l08Known_m
  rw [scanT k (fun _ n => !sameB m n) hk hm fun i hi _ => by rw [atI_lt hi, Option.bind_some, s_l08Equal_eq, Option.bind_some, sameB_comm]; cases sameB m w.Meshes[i] <;> rfl, allI_all, Option.bind_some]
  have e : ((w.Meshes.take k).all fun n => !sameB m n) = !((w.Meshes.take k).any fun n => sameB m n) := by rw [Bool.eq_iff_iff]; simp
  rw [e]
  cases ((w.Meshes.take k).any fun n => sameB m n) <;> rfl
theorem s_l08Ok_eq {w : Works_} (hl : w.Arbors.length ≤ 9223372036854775807) (hw : ∀ b ∈ w.Arbors, b.Wheels.length ≤ 9223372036854775807) (hm : w.Meshes.length ≤ 9223372036854775807) : s_l08Ok_m w = some (wksB w) := by
  unfold s_l08Ok_m wksB
  rw [scanG (e := .inr false) (fun i a => arbB a && !((w.Arbors.take i).any fun b => decide (b.Name = a.Name))) hl fun i hi => ?_, Option.bind_some,
      scanG (e := .inr false) (fun i m => joinB w m && !((w.Meshes.take i).any fun n => sameB m n)) hm fun i hi => ?_, Option.bind_some]
  · have e1 : decide ((w.Meshes.length : Int) ≤ 24) = decide (w.Meshes.length ≤ 24) := by rw [decide_eq_decide]; omega
    have e2 : (if (w.Arbors.length : Int) ≤ 16 then some (decide ((w.Meshes.length : Int) ≤ 24)) else some false) = some (decide (w.Arbors.length ≤ 16) && decide (w.Meshes.length ≤ 24)) := by
      rw [e1]
      by_cases h1 : w.Arbors.length ≤ 16
      · rw [if_pos (by omega), decide_eq_true h1, Bool.true_and]
      · rw [if_neg (by omega), decide_eq_false h1]; rfl
    rw [e2]
    cases allI w.Arbors (fun i a => arbB a && !((w.Arbors.take i).any fun b => decide (b.Name = a.Name))) <;> cases allI w.Meshes (fun i m => joinB w m && !((w.Meshes.take i).any fun n => sameB m n)) <;> cases decide (w.Arbors.length ≤ 16) <;> cases decide (w.Meshes.length ≤ 24) <;> rfl
  · simp only [atI_lt hi, Option.bind_some, s_l08Mesh_eq hl hw, s_l08Known_eq hm _ (Nat.le_of_lt hi)]
    cases joinB w w.Meshes[i] <;> cases ((w.Meshes.take i).any fun n => sameB w.Meshes[i] n) <;> rfl
  · simp only [atI_lt hi, Option.bind_some, s_l08Arbor_eq (hw _ (List.getElem_mem hi)), s_l08Find_eq hl, posOf_here (p := fun a => decide (a.Name = w.Arbors[i].Name)) hi (decide_eq_true rfl)]
    cases arbB w.Arbors[i] <;> cases ((w.Arbors.take i).any fun b => decide (b.Name = w.Arbors[i].Name)) <;> rfl
end Go.Proofs.YtlakbomkpnlidaaGreat
