/- Texts of this claim, one behind the other (merged by a program of mine). -/
import Derived.Test.YtlakbomkpnlidaaGreatProg
import Derived.Test.YtlakbomkpnlidaaGreatGR6
set_option linter.unusedSimpArgs false
set_option linter.unusedVariables false
namespace Go.Proofs.YtlakbomkpnlidaaGreat
open Go.RowKit
set_option linter.unusedVariables false
set_option maxRecDepth 100000
set_option maxHeartbeats 2000000
theorem Perpetual_own_c {p0 : Perpetual_} {r : Perpetual_} (h0 : Perpetual_own_m p0 = some r) : FnC Tryz.prog 80 [] [.agg [.d (.sl (List.map cI p0.Cam)), .d (.v (.int .i64 p0.Months)), .d (.v (.int .i64 p0.Teeth)), .d (.v (.int .i64 p0.At)), .d (.v (.int .i64 p0.Day)), .d (.v (.int .i64 p0.Week)), .d (.v (.int .i64 p0.Weekday))]] [.live [⟨2, 1, .data (List.map cI r.Cam)⟩]] (.agg [.own 0 0 r.Cam.length, .d (.v (.int .i64 r.Months)), .d (.v (.int .i64 r.Teeth)), .d (.v (.int .i64 r.At)), .d (.v (.int .i64 r.Day)), .d (.v (.int .i64 r.Week)), .d (.v (.int .i64 r.Weekday))]) := by
  refine fnc_intro (T := tt) (N := 8) tok Tryz.func80 rfl rfl (by kernel_rfl) rfl rfl ?_
  unfold Perpetual_own_m at h0
  refine sq [0,1] ?_
  refine rs rfl w0 rfl (st_box 3 (cs := _ :: _) rfl rfl rfl) ?_
  refine rs rfl w0 rfl (st_alloc 4 (cs := [.d (.v (.slice none 0 0)), .d (.v (.int .i64 0)), .d (.v (.int .i64 0)), .d (.v (.int .i64 0)), .d (.v (.int .i64 0)), .d (.v (.int .i64 0)), .d (.v (.int .i64 0))]) tok rfl rfl rfl) ?_
  refine nx ?_
  refine sq [0,1,2,3,4] ?_
  refine fa tok ?_
  refine ld tok ?_
  obtain ⟨v1, hv1, h0⟩ := bnd h0
  refine rs rfl w0 rfl (c_call 5 (slices_Clone_Lint64_int64_c hv1) rfl rfl rfl) ?_
  refine fa tok ?_
  refine rw0 rfl w0 (bx_st (cs := [.own _ _ _]) tok rfl rfl rfl rfl rfl rfl rfl) ?_
  refine nx ?_
  refine sq [0,1] ?_
  refine rl rfl w0 rfl (bx_ldN tok rfl rfl rfl rfl) ?_
  refine rw0 rfl w0 (bx_st (cs := _ :: _) tok rfl rfl rfl rfl rfl rfl rfl) ?_
  refine nx ?_
  refine aw_ret ?_
  cases h0
  exact retK_ (rs := [.cell 2 51]) [5] rfl

theorem i_copySim_c {p0 : Sim_} {r : Sim_} (h0 : i_copySim_m p0 = some r) : FnC Tryz.prog 36 [] [.agg [.d (.v (.string p0.Movement.Name)), .d (.sl (List.map cArbor_ p0.Movement.Works.Arbors)), .d (.sl (List.map cMesh_ p0.Movement.Works.Meshes)), .d (.v (.int .i64 p0.Movement.Minute)), .d (.v (.int .i64 p0.Movement.Hour)), .d (.v (.int .i64 p0.Movement.Escape)), .d (.v (.int .i64 p0.Movement.Teeth)), .d (.v (.int .i64 p0.Movement.Beats)), .d (.v (.string p0.Movement.Calendar.Name)), .d (.sl (List.map cMonth_ p0.Movement.Calendar.Months)), .d (.sl (List.map cLeapRule_ p0.Movement.Calendar.Rules)), .d (.v (.int .i64 p0.Movement.Calendar.Week)), .d (.sl (List.map cI p0.Movement.Cam)), .d (.v (.int .i64 p0.Movement.Strike)), .d (.v (.int .i64 p0.Start.Year)), .d (.v (.int .i64 p0.Start.Month)), .d (.v (.int .i64 p0.Start.Day)), .d (.v (.int .i64 p0.First)), .d (.v (.int .i64 p0.Clock)), .d (.sl (List.map cI p0.Dial.Cam)), .d (.v (.int .i64 p0.Dial.Months)), .d (.v (.int .i64 p0.Dial.Teeth)), .d (.v (.int .i64 p0.Dial.At)), .d (.v (.int .i64 p0.Dial.Day)), .d (.v (.int .i64 p0.Dial.Week)), .d (.v (.int .i64 p0.Dial.Weekday))]] [.live [⟨213, 2, .av (nestL 1 cArbor_ r.Movement.Works.Arbors)⟩], .live (famL 2 1 cArbor_ r.Movement.Works.Arbors), .live [⟨215, 4, .data (List.map cMesh_ r.Movement.Works.Meshes)⟩], .live [⟨147, 3, .data (List.map cMonth_ r.Movement.Calendar.Months)⟩], .live [⟨179, 3, .data (List.map cLeapRule_ r.Movement.Calendar.Rules)⟩], .live [⟨2, 1, .data (List.map cI r.Movement.Cam)⟩], .live [⟨2, 1, .data (List.map cI r.Dial.Cam)⟩]] (.agg [.d (.v (.string r.Movement.Name)), .own 0 0 r.Movement.Works.Arbors.length, .own 2 0 r.Movement.Works.Meshes.length, .d (.v (.int .i64 r.Movement.Minute)), .d (.v (.int .i64 r.Movement.Hour)), .d (.v (.int .i64 r.Movement.Escape)), .d (.v (.int .i64 r.Movement.Teeth)), .d (.v (.int .i64 r.Movement.Beats)), .d (.v (.string r.Movement.Calendar.Name)), .own 3 0 r.Movement.Calendar.Months.length, .own 4 0 r.Movement.Calendar.Rules.length, .d (.v (.int .i64 r.Movement.Calendar.Week)), .own 5 0 r.Movement.Cam.length, .d (.v (.int .i64 r.Movement.Strike)), .d (.v (.int .i64 r.Start.Year)), .d (.v (.int .i64 r.Start.Month)), .d (.v (.int .i64 r.Start.Day)), .d (.v (.int .i64 r.First)), .d (.v (.int .i64 r.Clock)), .own 6 0 r.Dial.Cam.length, .d (.v (.int .i64 r.Dial.Months)), .d (.v (.int .i64 r.Dial.Teeth)), .d (.v (.int .i64 r.Dial.At)), .d (.v (.int .i64 r.Dial.Day)), .d (.v (.int .i64 r.Dial.Week)), .d (.v (.int .i64 r.Dial.Weekday))]) := by
  refine fnc_intro (T := tt) (N := 12) tok Tryz.func36 rfl rfl (by kernel_rfl) rfl rfl ?_
  unfold i_copySim_m at h0
  refine sq [0,1] ?_
  refine rs rfl w0 rfl (st_box 3 (cs := _ :: _) rfl rfl rfl) ?_
  refine rs rfl w0 rfl (st_alloc 4 (cs := [.d (.v (.string (⟨#[]⟩ : ByteArray))), .d (.v (.slice none 0 0)), .d (.v (.slice none 0 0)), .d (.v (.int .i64 0)), .d (.v (.int .i64 0)), .d (.v (.int .i64 0)), .d (.v (.int .i64 0)), .d (.v (.int .i64 0)), .d (.v (.string (⟨#[]⟩ : ByteArray))), .d (.v (.slice none 0 0)), .d (.v (.slice none 0 0)), .d (.v (.int .i64 0)), .d (.v (.slice none 0 0)), .d (.v (.int .i64 0)), .d (.v (.int .i64 0)), .d (.v (.int .i64 0)), .d (.v (.int .i64 0)), .d (.v (.int .i64 0)), .d (.v (.int .i64 0)), .d (.v (.slice none 0 0)), .d (.v (.int .i64 0)), .d (.v (.int .i64 0)), .d (.v (.int .i64 0)), .d (.v (.int .i64 0)), .d (.v (.int .i64 0)), .d (.v (.int .i64 0))]) tok rfl rfl rfl) ?_
  refine nx ?_
  refine sq [0,1,2,3,4] ?_
  refine fa tok ?_
  refine rl rfl w0 rfl (bx_ldN tok rfl rfl rfl rfl) ?_
  obtain ⟨v1, hv1, h0⟩ := bnd h0
  refine rs rfl w0 rfl (c_call 5 (i_copyMovement_c hv1) rfl rfl rfl) ?_
  refine fa tok ?_
  refine rw0 rfl w0 (bx_st (cs := _ :: _) tok rfl rfl rfl rfl rfl rfl rfl) ?_
  refine nx ?_
  refine sq [0,1,2,3,4] ?_
  refine fa tok ?_
  refine rl rfl w0 rfl (bx_ldN tok rfl rfl rfl rfl) ?_
  obtain ⟨v2, hv2, h0⟩ := bnd h0
  refine rs rfl w0 rfl (c_call 11 (Perpetual_own_c hv2) rfl rfl rfl) ?_
  refine fa tok ?_
  refine rw0 rfl w0 (bx_st (cs := _ :: _) tok rfl rfl rfl rfl rfl rfl rfl) ?_
  refine nx ?_
  refine sq [0,1] ?_
  refine rl rfl w0 rfl (bx_ldN tok rfl rfl rfl rfl) ?_
  refine rw0 rfl w0 (bx_st (cs := _ :: _) tok rfl rfl rfl rfl rfl rfl rfl) ?_
  refine nx ?_
  refine aw_ret ?_
  cases h0
  exact retK_ (rs := [.cell 2 53]) [5, 6, 7, 8, 9, 10, 11] rfl

theorem i_midnightSteps_c {p0 : Perpetual_} {r : Int} (h0 : i_midnightSteps_m p0 = some r) : FnC Tryz.prog 92 [] [.agg [.d (.sl (List.map cI p0.Cam)), .d (.v (.int .i64 p0.Months)), .d (.v (.int .i64 p0.Teeth)), .d (.v (.int .i64 p0.At)), .d (.v (.int .i64 p0.Day)), .d (.v (.int .i64 p0.Week)), .d (.v (.int .i64 p0.Weekday))]] [] (.d (.v (.int .i64 r))) := by
  refine fnc_intro (T := tt) (N := 18) tok Tryz.func92 rfl rfl (by kernel_rfl) rfl rfl ?_
  unfold i_midnightSteps_m at h0
  refine sq [0,1] ?_
  refine rs rfl w0 rfl (st_box 3 (cs := _ :: _) rfl rfl rfl) ?_
  refine pa ?_
  refine nx ?_
  refine aw_seq ?_
  refine aw_seq ?_
  refine aw_region_draw (is := [0, 1, 2, 3, 4, 5, 6, 7, 8]) [0, 1, 0, 4, 0, 16, 60, 124, 255] follows (by kernel_rfl) ?_
  refine rt_lk rfl w0 rfl (bx_fa tok rfl rfl rfl rfl rfl rfl rfl) rfl rfl rfl ?_
  refine rt_lk rfl w0 rfl (bx_ld1 tok rfl rfl rfl rfl rfl) rfl rfl rfl ?_
  refine rt_lk rfl w0 rfl (bx_fa tok rfl rfl rfl rfl rfl rfl rfl) rfl rfl rfl ?_
  refine rt_lk rfl w0 rfl (bx_ld1 tok rfl rfl rfl rfl rfl) rfl rfl rfl ?_
  refine rt_lk rfl w0 rfl (bx_fa tok rfl rfl rfl rfl rfl rfl rfl) rfl rfl rfl ?_
  refine rt_lk rfl w0 rfl (bx_ld1 tok rfl rfl rfl rfl rfl) rfl rfl rfl ?_
  obtain ⟨v1, hv1, h0⟩ := bnd h0
  refine rt_p rfl w0 rfl (sl_ix tok hv1 rfl rfl rfl rfl rfl rfl) ?_
  refine tlr tok ?_
  refine rt_p rfl w0 rfl (pu_eql rfl rfl) ?_
  refine rt_nil ?_
  refine ⟨by kernel_rfl, ?_⟩
  refine then_n ?_
  refine aw_if h0 rfl (fun hc h0 => ?_) (fun hc h0 => ?_)
  refine sq [0,1,2,3,4,5,6] ?_
  refine fa tok ?_
  refine ld tok ?_
  refine rp rfl w0 rfl (pw_add rfl rfl) ?_
  refine fa tok ?_
  refine ld tok ?_
  refine rp rfl w0 rfl (pw_sub rfl rfl) ?_
  refine pa ?_
  refine nx ?_
  refine aw_ret ?_
  refine then_r ?_
  cases h0
  exact ret0_ (rs := [.tmp 2]) rfl
  refine sk ?_
  refine sq [0] ?_
  refine pa ?_
  refine nx ?_
  refine aw_ret ?_
  cases h0
  exact ret0_ (rs := [.tmp 2]) rfl

theorem Perpetual_moveMonth_Sim_4_c {p0 : Sim_} {r : Sim_} (h0 : Perpetual_moveMonth_Sim_4_m p0 = some r) : FnC Tryz.prog 38 [.live [⟨53, 26, .av [[.d (.v (.string p0.Movement.Name)), .own 1 0 (p0.Movement.Works.Arbors).length, .own 3 0 (p0.Movement.Works.Meshes).length, .d (.v (.int .i64 p0.Movement.Minute)), .d (.v (.int .i64 p0.Movement.Hour)), .d (.v (.int .i64 p0.Movement.Escape)), .d (.v (.int .i64 p0.Movement.Teeth)), .d (.v (.int .i64 p0.Movement.Beats)), .d (.v (.string p0.Movement.Calendar.Name)), .own 4 0 (p0.Movement.Calendar.Months).length, .own 5 0 (p0.Movement.Calendar.Rules).length, .d (.v (.int .i64 p0.Movement.Calendar.Week)), .own 6 0 (p0.Movement.Cam).length, .d (.v (.int .i64 p0.Movement.Strike)), .d (.v (.int .i64 p0.Start.Year)), .d (.v (.int .i64 p0.Start.Month)), .d (.v (.int .i64 p0.Start.Day)), .d (.v (.int .i64 p0.First)), .d (.v (.int .i64 p0.Clock)), .own 7 0 (p0.Dial.Cam).length, .d (.v (.int .i64 p0.Dial.Months)), .d (.v (.int .i64 p0.Dial.Teeth)), .d (.v (.int .i64 p0.Dial.At)), .d (.v (.int .i64 p0.Dial.Day)), .d (.v (.int .i64 p0.Dial.Week)), .d (.v (.int .i64 p0.Dial.Weekday))]]⟩], .live [⟨213, 2, .av (nestL 2 cArbor_ p0.Movement.Works.Arbors)⟩], .live (famL 2 1 cArbor_ p0.Movement.Works.Arbors), .live [⟨215, 4, .data (List.map cMesh_ p0.Movement.Works.Meshes)⟩], .live [⟨147, 3, .data (List.map cMonth_ p0.Movement.Calendar.Months)⟩], .live [⟨179, 3, .data (List.map cLeapRule_ p0.Movement.Calendar.Rules)⟩], .live [⟨2, 1, .data (List.map cI p0.Movement.Cam)⟩], .live [⟨2, 1, .data (List.map cI p0.Dial.Cam)⟩]] [.ptr 0 0 1 0 19] [.live [⟨53, 26, .av [[.d (.v (.string r.Movement.Name)), .own 1 0 (r.Movement.Works.Arbors).length, .own 3 0 (r.Movement.Works.Meshes).length, .d (.v (.int .i64 r.Movement.Minute)), .d (.v (.int .i64 r.Movement.Hour)), .d (.v (.int .i64 r.Movement.Escape)), .d (.v (.int .i64 r.Movement.Teeth)), .d (.v (.int .i64 r.Movement.Beats)), .d (.v (.string r.Movement.Calendar.Name)), .own 4 0 (r.Movement.Calendar.Months).length, .own 5 0 (r.Movement.Calendar.Rules).length, .d (.v (.int .i64 r.Movement.Calendar.Week)), .own 6 0 (r.Movement.Cam).length, .d (.v (.int .i64 r.Movement.Strike)), .d (.v (.int .i64 r.Start.Year)), .d (.v (.int .i64 r.Start.Month)), .d (.v (.int .i64 r.Start.Day)), .d (.v (.int .i64 r.First)), .d (.v (.int .i64 r.Clock)), .own 7 0 (r.Dial.Cam).length, .d (.v (.int .i64 r.Dial.Months)), .d (.v (.int .i64 r.Dial.Teeth)), .d (.v (.int .i64 r.Dial.At)), .d (.v (.int .i64 r.Dial.Day)), .d (.v (.int .i64 r.Dial.Week)), .d (.v (.int .i64 r.Dial.Weekday))]]⟩], .live [⟨213, 2, .av (nestL 2 cArbor_ r.Movement.Works.Arbors)⟩], .live (famL 2 1 cArbor_ r.Movement.Works.Arbors), .live [⟨215, 4, .data (List.map cMesh_ r.Movement.Works.Meshes)⟩], .live [⟨147, 3, .data (List.map cMonth_ r.Movement.Calendar.Months)⟩], .live [⟨179, 3, .data (List.map cLeapRule_ r.Movement.Calendar.Rules)⟩], .live [⟨2, 1, .data (List.map cI r.Movement.Cam)⟩], .live [⟨2, 1, .data (List.map cI r.Dial.Cam)⟩]] (.tup []) := by
  refine fnc_introL (L := 8) (T := tt) (N := 16) tok Tryz.func38 rfl rfl (by kernel_rfl) rfl rfl ?_
  unfold Perpetual_moveMonth_Sim_4_m at h0
  refine aw_region_draw (is := [0, 1, 2, 3, 4, 5, 6, 7, 8, 9, 10, 11, 12, 13, 14]) [0, 0, 2, 6, 14, 30, 0, 64, 192, 448, 960, 2046, 4095, 8191, 16383] follows (by kernel_rfl) ?_
  refine rt_p rfl w0 rfl (pu_move (r := .ptr _ _ _ _ _) rfl) ?_
  refine rt_p rfl w0 rfl (pu_move (r := .ptr _ _ _ _ _) rfl) ?_
  refine rt_lk rfl w0 rfl (bx_nil rfl rfl) rfl rfl rfl ?_
  refine rt_lk rfl w0 rfl (bx_fa tok rfl rfl rfl rfl rfl rfl rfl) rfl rfl rfl ?_
  refine rt_lk rfl w0 rfl (bx_ld1 tok rfl rfl rfl rfl rfl) rfl rfl rfl ?_
  refine rt_p rfl w0 rfl (pw_add rfl rfl) ?_
  refine rt_p rfl w0 rfl (pu_move (r := .ptr _ _ _ _ _) rfl) ?_
  refine rt_lk rfl w0 rfl (bx_nil rfl rfl) rfl rfl rfl ?_
  refine rt_lk rfl w0 rfl (bx_fa tok rfl rfl rfl rfl rfl rfl rfl) rfl rfl rfl ?_
  refine rt_lk rfl w0 rfl (bx_ld1 tok rfl rfl rfl rfl rfl) rfl rfl rfl ?_
  refine rt_lk rfl w0 rfl (ow_len tok rfl rfl rfl rfl rfl) rfl rfl rfl ?_
  obtain ⟨hq1, h0⟩ := chk_e h0
  refine rt_p rfl w0 rfl (pu_remw rfl rfl hq1) ?_
  refine rt_lk rfl w0 rfl (bx_nil rfl rfl) rfl rfl rfl ?_
  refine rt_lk rfl w0 rfl (bx_fa tok rfl rfl rfl rfl rfl rfl rfl) rfl rfl rfl ?_
  refine rt_wk rfl w0 (bx_st (cs := [.d _]) tok rfl rfl rfl rfl rfl rfl rfl) ?_
  refine rt_nil ?_
  refine ⟨by kernel_rfl, ?_⟩
  cases h0
  exact retP_ (rs := []) 8 rfl rfl

theorem Perpetual_moveDate_Sim_4_c {p0 : Sim_} {p1 : Int} {r : Sim_} (h0 : Perpetual_moveDate_Sim_4_m p0 p1 = some r) : FnC Tryz.prog 37 [.live [⟨53, 26, .av [[.d (.v (.string p0.Movement.Name)), .own 1 0 (p0.Movement.Works.Arbors).length, .own 3 0 (p0.Movement.Works.Meshes).length, .d (.v (.int .i64 p0.Movement.Minute)), .d (.v (.int .i64 p0.Movement.Hour)), .d (.v (.int .i64 p0.Movement.Escape)), .d (.v (.int .i64 p0.Movement.Teeth)), .d (.v (.int .i64 p0.Movement.Beats)), .d (.v (.string p0.Movement.Calendar.Name)), .own 4 0 (p0.Movement.Calendar.Months).length, .own 5 0 (p0.Movement.Calendar.Rules).length, .d (.v (.int .i64 p0.Movement.Calendar.Week)), .own 6 0 (p0.Movement.Cam).length, .d (.v (.int .i64 p0.Movement.Strike)), .d (.v (.int .i64 p0.Start.Year)), .d (.v (.int .i64 p0.Start.Month)), .d (.v (.int .i64 p0.Start.Day)), .d (.v (.int .i64 p0.First)), .d (.v (.int .i64 p0.Clock)), .own 7 0 (p0.Dial.Cam).length, .d (.v (.int .i64 p0.Dial.Months)), .d (.v (.int .i64 p0.Dial.Teeth)), .d (.v (.int .i64 p0.Dial.At)), .d (.v (.int .i64 p0.Dial.Day)), .d (.v (.int .i64 p0.Dial.Week)), .d (.v (.int .i64 p0.Dial.Weekday))]]⟩], .live [⟨213, 2, .av (nestL 2 cArbor_ p0.Movement.Works.Arbors)⟩], .live (famL 2 1 cArbor_ p0.Movement.Works.Arbors), .live [⟨215, 4, .data (List.map cMesh_ p0.Movement.Works.Meshes)⟩], .live [⟨147, 3, .data (List.map cMonth_ p0.Movement.Calendar.Months)⟩], .live [⟨179, 3, .data (List.map cLeapRule_ p0.Movement.Calendar.Rules)⟩], .live [⟨2, 1, .data (List.map cI p0.Movement.Cam)⟩], .live [⟨2, 1, .data (List.map cI p0.Dial.Cam)⟩]] [.ptr 0 0 1 0 19, .d (.v (.int .i64 p1))] [.live [⟨53, 26, .av [[.d (.v (.string r.Movement.Name)), .own 1 0 (r.Movement.Works.Arbors).length, .own 3 0 (r.Movement.Works.Meshes).length, .d (.v (.int .i64 r.Movement.Minute)), .d (.v (.int .i64 r.Movement.Hour)), .d (.v (.int .i64 r.Movement.Escape)), .d (.v (.int .i64 r.Movement.Teeth)), .d (.v (.int .i64 r.Movement.Beats)), .d (.v (.string r.Movement.Calendar.Name)), .own 4 0 (r.Movement.Calendar.Months).length, .own 5 0 (r.Movement.Calendar.Rules).length, .d (.v (.int .i64 r.Movement.Calendar.Week)), .own 6 0 (r.Movement.Cam).length, .d (.v (.int .i64 r.Movement.Strike)), .d (.v (.int .i64 r.Start.Year)), .d (.v (.int .i64 r.Start.Month)), .d (.v (.int .i64 r.Start.Day)), .d (.v (.int .i64 r.First)), .d (.v (.int .i64 r.Clock)), .own 7 0 (r.Dial.Cam).length, .d (.v (.int .i64 r.Dial.Months)), .d (.v (.int .i64 r.Dial.Teeth)), .d (.v (.int .i64 r.Dial.At)), .d (.v (.int .i64 r.Dial.Day)), .d (.v (.int .i64 r.Dial.Week)), .d (.v (.int .i64 r.Dial.Weekday))]]⟩], .live [⟨213, 2, .av (nestL 2 cArbor_ r.Movement.Works.Arbors)⟩], .live (famL 2 1 cArbor_ r.Movement.Works.Arbors), .live [⟨215, 4, .data (List.map cMesh_ r.Movement.Works.Meshes)⟩], .live [⟨147, 3, .data (List.map cMonth_ r.Movement.Calendar.Months)⟩], .live [⟨179, 3, .data (List.map cLeapRule_ r.Movement.Calendar.Rules)⟩], .live [⟨2, 1, .data (List.map cI r.Movement.Cam)⟩], .live [⟨2, 1, .data (List.map cI r.Dial.Cam)⟩]] (.tup []) := by
  refine fnc_introL (L := 8) (T := tt) (N := 34) tok Tryz.func37 rfl rfl (by kernel_rfl) rfl rfl ?_
  unfold Perpetual_moveDate_Sim_4_m at h0
  refine sq [0,1,2,3,4,5,6,7,8] ?_
  refine rp rfl w0 rfl (pu_move (r := .ptr _ _ _ _ _) rfl) ?_
  refine rl rfl w0 rfl (bx_nil rfl rfl) ?_
  refine fa tok ?_
  refine ld tok ?_
  refine pm ?_
  refine rp rfl w0 rfl (pw_add rfl rfl) ?_
  refine rl rfl w0 rfl (bx_nil rfl rfl) ?_
  refine fa tok ?_
  refine rw0 rfl w0 (bx_st (cs := [.d _]) tok rfl rfl rfl rfl rfl rfl rfl) ?_
  refine nx ?_
  refine aw_seq ?_
  refine aw_region_draw (is := [0, 1, 2, 3, 4, 5, 6, 7, 8]) [0, 1, 3, 7, 0, 16, 48, 112, 255] follows (by kernel_rfl) ?_
  refine rt_p rfl w0 rfl (pu_move (r := .ptr _ _ _ _ _) rfl) ?_
  refine rt_lk rfl w0 rfl (bx_nil rfl rfl) rfl rfl rfl ?_
  refine rt_lk rfl w0 rfl (bx_fa tok rfl rfl rfl rfl rfl rfl rfl) rfl rfl rfl ?_
  refine rt_lk rfl w0 rfl (bx_ld1 tok rfl rfl rfl rfl rfl) rfl rfl rfl ?_
  refine rt_p rfl w0 rfl (pu_move (r := .ptr _ _ _ _ _) rfl) ?_
  refine rt_lk rfl w0 rfl (bx_nil rfl rfl) rfl rfl rfl ?_
  refine rt_lk rfl w0 rfl (bx_fa tok rfl rfl rfl rfl rfl rfl rfl) rfl rfl rfl ?_
  refine rt_lk rfl w0 rfl (bx_ld1 tok rfl rfl rfl rfl rfl) rfl rfl rfl ?_
  refine rt_p rfl w0 rfl (pu_gtr rfl rfl) ?_
  refine rt_nil ?_
  refine ⟨by kernel_rfl, ?_⟩
  refine then_n ?_
  refine aw_if h0 rfl (fun hc h0 => ?_) (fun hc h0 => ?_)
  refine aw_seq ?_
  refine aw_region_draw (is := [0, 1, 2, 3, 4, 5, 6, 7, 8, 9, 10, 11]) [0, 1, 3, 7, 0, 16, 48, 112, 255, 511, 1023, 2047] follows (by kernel_rfl) ?_
  refine rt_p rfl w0 rfl (pu_move (r := .ptr _ _ _ _ _) rfl) ?_
  refine rt_lk rfl w0 rfl (bx_nil rfl rfl) rfl rfl rfl ?_
  refine rt_lk rfl w0 rfl (bx_fa tok rfl rfl rfl rfl rfl rfl rfl) rfl rfl rfl ?_
  refine rt_lk rfl w0 rfl (bx_ld1 tok rfl rfl rfl rfl rfl) rfl rfl rfl ?_
  refine rt_p rfl w0 rfl (pu_move (r := .ptr _ _ _ _ _) rfl) ?_
  refine rt_lk rfl w0 rfl (bx_nil rfl rfl) rfl rfl rfl ?_
  refine rt_lk rfl w0 rfl (bx_fa tok rfl rfl rfl rfl rfl rfl rfl) rfl rfl rfl ?_
  refine rt_lk rfl w0 rfl (bx_ld1 tok rfl rfl rfl rfl rfl) rfl rfl rfl ?_
  refine rt_p rfl w0 rfl (pw_sub rfl rfl) ?_
  refine rt_lk rfl w0 rfl (bx_nil rfl rfl) rfl rfl rfl ?_
  refine rt_lk rfl w0 rfl (bx_fa tok rfl rfl rfl rfl rfl rfl rfl) rfl rfl rfl ?_
  refine rt_wk rfl w0 (bx_st (cs := [.d _]) tok rfl rfl rfl rfl rfl rfl rfl) ?_
  refine rt_nil ?_
  refine ⟨by kernel_rfl, ?_⟩
  refine then_n ?_
  refine sr [0,1] ?_
  refine rp rfl w0 rfl (pu_move (r := .ptr _ _ _ _ _) rfl) ?_
  obtain ⟨v1, hv1, h0⟩ := bnd h0
  refine rw1 rfl w0 rfl (c_callP [0, 1, 2, 3, 4, 5, 6, 7] 300 (Perpetual_moveMonth_Sim_4_c hv1) rfl rfl) ?_
  refine ra_nil ?_
  cases h0
  exact retP_ (rs := []) 8 rfl rfl
  refine aw_skip ?_
  cases h0
  exact retP_ (rs := []) 8 rfl rfl

theorem Perpetual_moveWeekday_Sim_4_c {p0 : Sim_} {r : Sim_} (h0 : Perpetual_moveWeekday_Sim_4_m p0 = some r) : FnC Tryz.prog 39 [.live [⟨53, 26, .av [[.d (.v (.string p0.Movement.Name)), .own 1 0 (p0.Movement.Works.Arbors).length, .own 3 0 (p0.Movement.Works.Meshes).length, .d (.v (.int .i64 p0.Movement.Minute)), .d (.v (.int .i64 p0.Movement.Hour)), .d (.v (.int .i64 p0.Movement.Escape)), .d (.v (.int .i64 p0.Movement.Teeth)), .d (.v (.int .i64 p0.Movement.Beats)), .d (.v (.string p0.Movement.Calendar.Name)), .own 4 0 (p0.Movement.Calendar.Months).length, .own 5 0 (p0.Movement.Calendar.Rules).length, .d (.v (.int .i64 p0.Movement.Calendar.Week)), .own 6 0 (p0.Movement.Cam).length, .d (.v (.int .i64 p0.Movement.Strike)), .d (.v (.int .i64 p0.Start.Year)), .d (.v (.int .i64 p0.Start.Month)), .d (.v (.int .i64 p0.Start.Day)), .d (.v (.int .i64 p0.First)), .d (.v (.int .i64 p0.Clock)), .own 7 0 (p0.Dial.Cam).length, .d (.v (.int .i64 p0.Dial.Months)), .d (.v (.int .i64 p0.Dial.Teeth)), .d (.v (.int .i64 p0.Dial.At)), .d (.v (.int .i64 p0.Dial.Day)), .d (.v (.int .i64 p0.Dial.Week)), .d (.v (.int .i64 p0.Dial.Weekday))]]⟩], .live [⟨213, 2, .av (nestL 2 cArbor_ p0.Movement.Works.Arbors)⟩], .live (famL 2 1 cArbor_ p0.Movement.Works.Arbors), .live [⟨215, 4, .data (List.map cMesh_ p0.Movement.Works.Meshes)⟩], .live [⟨147, 3, .data (List.map cMonth_ p0.Movement.Calendar.Months)⟩], .live [⟨179, 3, .data (List.map cLeapRule_ p0.Movement.Calendar.Rules)⟩], .live [⟨2, 1, .data (List.map cI p0.Movement.Cam)⟩], .live [⟨2, 1, .data (List.map cI p0.Dial.Cam)⟩]] [.ptr 0 0 1 0 19] [.live [⟨53, 26, .av [[.d (.v (.string r.Movement.Name)), .own 1 0 (r.Movement.Works.Arbors).length, .own 3 0 (r.Movement.Works.Meshes).length, .d (.v (.int .i64 r.Movement.Minute)), .d (.v (.int .i64 r.Movement.Hour)), .d (.v (.int .i64 r.Movement.Escape)), .d (.v (.int .i64 r.Movement.Teeth)), .d (.v (.int .i64 r.Movement.Beats)), .d (.v (.string r.Movement.Calendar.Name)), .own 4 0 (r.Movement.Calendar.Months).length, .own 5 0 (r.Movement.Calendar.Rules).length, .d (.v (.int .i64 r.Movement.Calendar.Week)), .own 6 0 (r.Movement.Cam).length, .d (.v (.int .i64 r.Movement.Strike)), .d (.v (.int .i64 r.Start.Year)), .d (.v (.int .i64 r.Start.Month)), .d (.v (.int .i64 r.Start.Day)), .d (.v (.int .i64 r.First)), .d (.v (.int .i64 r.Clock)), .own 7 0 (r.Dial.Cam).length, .d (.v (.int .i64 r.Dial.Months)), .d (.v (.int .i64 r.Dial.Teeth)), .d (.v (.int .i64 r.Dial.At)), .d (.v (.int .i64 r.Dial.Day)), .d (.v (.int .i64 r.Dial.Week)), .d (.v (.int .i64 r.Dial.Weekday))]]⟩], .live [⟨213, 2, .av (nestL 2 cArbor_ r.Movement.Works.Arbors)⟩], .live (famL 2 1 cArbor_ r.Movement.Works.Arbors), .live [⟨215, 4, .data (List.map cMesh_ r.Movement.Works.Meshes)⟩], .live [⟨147, 3, .data (List.map cMonth_ r.Movement.Calendar.Months)⟩], .live [⟨179, 3, .data (List.map cLeapRule_ r.Movement.Calendar.Rules)⟩], .live [⟨2, 1, .data (List.map cI r.Movement.Cam)⟩], .live [⟨2, 1, .data (List.map cI r.Dial.Cam)⟩]] (.tup []) := by
  refine fnc_introL (L := 8) (T := tt) (N := 15) tok Tryz.func39 rfl rfl (by kernel_rfl) rfl rfl ?_
  unfold Perpetual_moveWeekday_Sim_4_m at h0
  refine aw_region_draw (is := [0, 1, 2, 3, 4, 5, 6, 7, 8, 9, 10, 11, 12, 13]) [0, 0, 2, 6, 14, 0, 32, 96, 224, 510, 1022, 2047, 4095, 8191] follows (by kernel_rfl) ?_
  refine rt_p rfl w0 rfl (pu_move (r := .ptr _ _ _ _ _) rfl) ?_
  refine rt_p rfl w0 rfl (pu_move (r := .ptr _ _ _ _ _) rfl) ?_
  refine rt_lk rfl w0 rfl (bx_nil rfl rfl) rfl rfl rfl ?_
  refine rt_lk rfl w0 rfl (bx_fa tok rfl rfl rfl rfl rfl rfl rfl) rfl rfl rfl ?_
  refine rt_lk rfl w0 rfl (bx_ld1 tok rfl rfl rfl rfl rfl) rfl rfl rfl ?_
  refine rt_p rfl w0 rfl (pu_move (r := .ptr _ _ _ _ _) rfl) ?_
  refine rt_lk rfl w0 rfl (bx_nil rfl rfl) rfl rfl rfl ?_
  refine rt_lk rfl w0 rfl (bx_fa tok rfl rfl rfl rfl rfl rfl rfl) rfl rfl rfl ?_
  refine rt_lk rfl w0 rfl (bx_ld1 tok rfl rfl rfl rfl rfl) rfl rfl rfl ?_
  obtain ⟨hq1, h0⟩ := chk_e h0
  refine rt_p rfl w0 rfl (pu_remw rfl rfl hq1) ?_
  refine rt_p rfl w0 rfl (pw_add rfl rfl) ?_
  refine rt_lk rfl w0 rfl (bx_nil rfl rfl) rfl rfl rfl ?_
  refine rt_lk rfl w0 rfl (bx_fa tok rfl rfl rfl rfl rfl rfl rfl) rfl rfl rfl ?_
  refine rt_wk rfl w0 (bx_st (cs := [.d _]) tok rfl rfl rfl rfl rfl rfl rfl) ?_
  refine rt_nil ?_
  refine ⟨by kernel_rfl, ?_⟩
  cases h0
  exact retP_ (rs := []) 8 rfl rfl

theorem Perpetual_midnight_Sim_4_c {p0 : Sim_} {r : Sim_} (h0 : Perpetual_midnight_Sim_4_m p0 = some r) : FnC Tryz.prog 51 [.live [⟨53, 26, .av [[.d (.v (.string p0.Movement.Name)), .own 1 0 (p0.Movement.Works.Arbors).length, .own 3 0 (p0.Movement.Works.Meshes).length, .d (.v (.int .i64 p0.Movement.Minute)), .d (.v (.int .i64 p0.Movement.Hour)), .d (.v (.int .i64 p0.Movement.Escape)), .d (.v (.int .i64 p0.Movement.Teeth)), .d (.v (.int .i64 p0.Movement.Beats)), .d (.v (.string p0.Movement.Calendar.Name)), .own 4 0 (p0.Movement.Calendar.Months).length, .own 5 0 (p0.Movement.Calendar.Rules).length, .d (.v (.int .i64 p0.Movement.Calendar.Week)), .own 6 0 (p0.Movement.Cam).length, .d (.v (.int .i64 p0.Movement.Strike)), .d (.v (.int .i64 p0.Start.Year)), .d (.v (.int .i64 p0.Start.Month)), .d (.v (.int .i64 p0.Start.Day)), .d (.v (.int .i64 p0.First)), .d (.v (.int .i64 p0.Clock)), .own 7 0 (p0.Dial.Cam).length, .d (.v (.int .i64 p0.Dial.Months)), .d (.v (.int .i64 p0.Dial.Teeth)), .d (.v (.int .i64 p0.Dial.At)), .d (.v (.int .i64 p0.Dial.Day)), .d (.v (.int .i64 p0.Dial.Week)), .d (.v (.int .i64 p0.Dial.Weekday))]]⟩], .live [⟨213, 2, .av (nestL 2 cArbor_ p0.Movement.Works.Arbors)⟩], .live (famL 2 1 cArbor_ p0.Movement.Works.Arbors), .live [⟨215, 4, .data (List.map cMesh_ p0.Movement.Works.Meshes)⟩], .live [⟨147, 3, .data (List.map cMonth_ p0.Movement.Calendar.Months)⟩], .live [⟨179, 3, .data (List.map cLeapRule_ p0.Movement.Calendar.Rules)⟩], .live [⟨2, 1, .data (List.map cI p0.Movement.Cam)⟩], .live [⟨2, 1, .data (List.map cI p0.Dial.Cam)⟩]] [.ptr 0 0 1 0 19] [.live [⟨53, 26, .av [[.d (.v (.string r.Movement.Name)), .own 1 0 (r.Movement.Works.Arbors).length, .own 3 0 (r.Movement.Works.Meshes).length, .d (.v (.int .i64 r.Movement.Minute)), .d (.v (.int .i64 r.Movement.Hour)), .d (.v (.int .i64 r.Movement.Escape)), .d (.v (.int .i64 r.Movement.Teeth)), .d (.v (.int .i64 r.Movement.Beats)), .d (.v (.string r.Movement.Calendar.Name)), .own 4 0 (r.Movement.Calendar.Months).length, .own 5 0 (r.Movement.Calendar.Rules).length, .d (.v (.int .i64 r.Movement.Calendar.Week)), .own 6 0 (r.Movement.Cam).length, .d (.v (.int .i64 r.Movement.Strike)), .d (.v (.int .i64 r.Start.Year)), .d (.v (.int .i64 r.Start.Month)), .d (.v (.int .i64 r.Start.Day)), .d (.v (.int .i64 r.First)), .d (.v (.int .i64 r.Clock)), .own 7 0 (r.Dial.Cam).length, .d (.v (.int .i64 r.Dial.Months)), .d (.v (.int .i64 r.Dial.Teeth)), .d (.v (.int .i64 r.Dial.At)), .d (.v (.int .i64 r.Dial.Day)), .d (.v (.int .i64 r.Dial.Week)), .d (.v (.int .i64 r.Dial.Weekday))]]⟩], .live [⟨213, 2, .av (nestL 2 cArbor_ r.Movement.Works.Arbors)⟩], .live (famL 2 1 cArbor_ r.Movement.Works.Arbors), .live [⟨215, 4, .data (List.map cMesh_ r.Movement.Works.Meshes)⟩], .live [⟨147, 3, .data (List.map cMonth_ r.Movement.Calendar.Months)⟩], .live [⟨179, 3, .data (List.map cLeapRule_ r.Movement.Calendar.Rules)⟩], .live [⟨2, 1, .data (List.map cI r.Movement.Cam)⟩], .live [⟨2, 1, .data (List.map cI r.Dial.Cam)⟩]] (.tup []) := by
  refine fnc_introL (L := 8) (T := tt) (N := 10) tok Tryz.func51 rfl rfl (by kernel_rfl) rfl rfl ?_
  unfold Perpetual_midnight_Sim_4_m at h0
  refine sq [0,1,2,3,4,5] ?_
  refine rp rfl w0 rfl (pu_move (r := .ptr _ _ _ _ _) rfl) ?_
  refine rp rfl w0 rfl (pu_move (r := .ptr _ _ _ _ _) rfl) ?_
  refine rl rfl w0 rfl (bx_nil rfl rfl) ?_
  refine rl rfl w0 rfl (bx_ldN tok rfl rfl rfl rfl) ?_
  obtain ⟨v1, hv1, h0⟩ := bnd h0
  refine rs rfl w0 rfl (c_callV 8 (i_midnightSteps_c hv1) rfl rfl) ?_
  obtain ⟨v2, hv2, h0⟩ := bnd h0
  refine rw1 rfl w0 rfl (c_callP [0, 1, 2, 3, 4, 5, 6, 7] 300 (Perpetual_moveDate_Sim_4_c hv2) rfl rfl) ?_
  refine nx ?_
  refine sr [0,1] ?_
  refine rp rfl w0 rfl (pu_move (r := .ptr _ _ _ _ _) rfl) ?_
  obtain ⟨v3, hv3, h0⟩ := bnd h0
  refine rw1 rfl w0 rfl (c_callP [0, 1, 2, 3, 4, 5, 6, 7] 300 (Perpetual_moveWeekday_Sim_4_c hv3) rfl rfl) ?_
  refine ra_nil ?_
  cases h0
  exact retP_ (rs := []) 8 rfl rfl

theorem i_blowsUntil_c {p0 : Int} {r : Int} (h0 : i_blowsUntil_m p0 = some r) : FnC Tryz.prog 93 [] [.d (.v (.int .i64 p0))] [] (.d (.v (.int .i64 r))) := by
  refine fnc_intro (T := tt) (N := 15) tok Tryz.func93 rfl rfl (by kernel_rfl) rfl rfl ?_
  unfold i_blowsUntil_m at h0
  refine sq [0] ?_
  refine pa ?_
  refine nx ?_
  refine sq [0,1,2] ?_
  refine pm ?_
  refine rp rfl w0 rfl (pu_remw rfl rfl (by decide)) ?_
  refine pa ?_
  refine nx ?_
  refine sq [0,1,2,3,4,5,6,7,8,9] ?_
  refine pm ?_
  refine rp rfl w0 rfl (pw_quo rfl rfl (by decide)) ?_
  refine rp rfl w0 rfl (pw_mul rfl rfl) ?_
  refine pm ?_
  refine pm ?_
  refine rp rfl w0 rfl (pw_add rfl rfl) ?_
  refine rp rfl w0 rfl (pw_mul rfl rfl) ?_
  refine rp rfl w0 rfl (pw_quo rfl rfl (by decide)) ?_
  refine rp rfl w0 rfl (pw_add rfl rfl) ?_
  refine pa ?_
  refine nx ?_
  refine aw_ret ?_
  cases h0
  exact ret0_ (rs := [.tmp 2]) rfl

theorem i_BlowsBetween_c {p0 : Int} {p1 : Int} {p2 : Int} {r : Int × Int} (h0 : i_BlowsBetween_m p0 p1 p2 = some r) : FnC Tryz.prog 52 [] [.d (.v (.int .i64 p0)), .d (.v (.int .i64 p1)), .d (.v (.int .i64 p2))] [] (.tup [.d (.v (.int .i64 r.1)), .d (.v (.int .i64 r.2))]) := by
  refine fnc_intro (T := tt) (N := 30) tok Tryz.func52 rfl rfl (by kernel_rfl) rfl rfl ?_
  unfold i_BlowsBetween_m at h0
  refine sq [0,1] ?_
  refine pa ?_
  refine pa ?_
  refine nx ?_
  refine aw_seq ?_
  obtain ⟨v3, h1, h0⟩ := bnd h0
  refine aw_cut ⟨updA (updA (updA (updA ((fun _ => .dead)) 0 (.d (.v (.int .i64 p0)))) 1 (.d (.v (.int .i64 p1)))) 2 (.d (.v (.int .i64 p2)))) 20 (.d (.v (.bool v3))), lks [.no, .no, .no]⟩ ?_ ?_
  refine sr [0,1,2,3,4,5,6,7,8,9,10,11,12] ?_
  refine pm ?_
  obtain ⟨v1, hv1, h1⟩ := bnd h1
  refine rs rfl w0 rfl (c_call 3 (i_within_c hv1) rfl rfl rfl) ?_
  refine rp rfl w0 rfl (pu_not rfl) ?_
  refine pm ?_
  refine ra_ifB (u := 11) h1 rfl (fun hc h1 => ?_) (fun hc h1 => ?_)
  iterate 4 refine k1 ?_
  refine pkt ?_
  refine pm ?_
  refine k1 ?_
  refine k1 ?_
  refine pkt ?_
  refine nx ?_
  cases h1
  exact wk [0, 1, 2]
  refine pm1 ?_
  refine pm1 ?_
  obtain ⟨v2, hv2, h1⟩ := bnd h1
  refine rs rfl (w1 rfl rfl rfl) rfl (c_call 3 (i_within_c hv2) rfl rfl rfl) ?_
  refine rp rfl (w1 rfl rfl rfl) rfl (pu_not rfl) ?_
  refine pkf ?_
  refine pm ?_
  refine ra_ifB (u := 17) h1 rfl (fun hc h1 => ?_) (fun hc h1 => ?_)
  refine k1 ?_
  refine k1 ?_
  refine pkt ?_
  refine nx ?_
  cases h1
  exact wk [0, 1, 2]
  refine pm1 ?_
  refine rp rfl (w1 rfl rfl rfl) rfl (pu_gtr rfl rfl) ?_
  refine pkf ?_
  refine nx ?_
  cases h1
  exact wk [0, 1, 2]
  refine aw_ifB h0 rfl (fun hc h0 => ?_) (fun hc h0 => ?_)
  refine sq [0,1] ?_
  refine pa ?_
  refine pa ?_
  refine nx ?_
  refine aw_ret ?_
  refine then_r ?_
  cases h0
  exact ret0_ (rs := [.tmp 6, .tmp 7]) rfl
  refine sk ?_
  refine aw_seq ?_
  refine sq [0,1] ?_
  refine pm ?_
  refine rp rfl w0 rfl (pu_eql rfl rfl) ?_
  refine nx ?_
  refine aw_if h0 rfl (fun hc h0 => ?_) (fun hc h0 => ?_)
  refine sq [0,1] ?_
  refine pa ?_
  refine pa ?_
  refine nx ?_
  refine aw_ret ?_
  refine then_r ?_
  cases h0
  exact ret0_ (rs := [.tmp 6, .tmp 7]) rfl
  refine sk ?_
  refine sq [0,1,2,3,4,5,6,7,8] ?_
  refine pm ?_
  refine rp rfl w0 rfl (pw_quo rfl rfl (by decide)) ?_
  obtain ⟨v5, hv5, h0⟩ := bnd h0
  refine rs rfl w0 rfl (c_call 3 (i_blowsUntil_c hv5) rfl rfl rfl) ?_
  refine pm ?_
  refine rp rfl w0 rfl (pw_quo rfl rfl (by decide)) ?_
  obtain ⟨v7, hv7, h0⟩ := bnd h0
  refine rs rfl w0 rfl (c_call 3 (i_blowsUntil_c hv7) rfl rfl rfl) ?_
  refine rp rfl w0 rfl (pw_sub rfl rfl) ?_
  refine pa ?_
  refine pa ?_
  refine nx ?_
  refine aw_ret ?_
  cases h0
  exact ret0_ (rs := [.tmp 6, .tmp 7]) rfl

theorem i_RunSim_c {p0 : Sim_} {p1 : Int} {r : Sim_ × Int × Int} (h0 : i_RunSim_m p0 p1 = some r) : FnC Tryz.prog 15 [] [.agg [.d (.v (.string p0.Movement.Name)), .d (.sl (List.map cArbor_ p0.Movement.Works.Arbors)), .d (.sl (List.map cMesh_ p0.Movement.Works.Meshes)), .d (.v (.int .i64 p0.Movement.Minute)), .d (.v (.int .i64 p0.Movement.Hour)), .d (.v (.int .i64 p0.Movement.Escape)), .d (.v (.int .i64 p0.Movement.Teeth)), .d (.v (.int .i64 p0.Movement.Beats)), .d (.v (.string p0.Movement.Calendar.Name)), .d (.sl (List.map cMonth_ p0.Movement.Calendar.Months)), .d (.sl (List.map cLeapRule_ p0.Movement.Calendar.Rules)), .d (.v (.int .i64 p0.Movement.Calendar.Week)), .d (.sl (List.map cI p0.Movement.Cam)), .d (.v (.int .i64 p0.Movement.Strike)), .d (.v (.int .i64 p0.Start.Year)), .d (.v (.int .i64 p0.Start.Month)), .d (.v (.int .i64 p0.Start.Day)), .d (.v (.int .i64 p0.First)), .d (.v (.int .i64 p0.Clock)), .d (.sl (List.map cI p0.Dial.Cam)), .d (.v (.int .i64 p0.Dial.Months)), .d (.v (.int .i64 p0.Dial.Teeth)), .d (.v (.int .i64 p0.Dial.At)), .d (.v (.int .i64 p0.Dial.Day)), .d (.v (.int .i64 p0.Dial.Week)), .d (.v (.int .i64 p0.Dial.Weekday))], .d (.v (.int .i64 p1))] [.live [⟨213, 2, .av (nestL 1 cArbor_ r.1.Movement.Works.Arbors)⟩], .live (famL 2 1 cArbor_ r.1.Movement.Works.Arbors), .live [⟨215, 4, .data (List.map cMesh_ r.1.Movement.Works.Meshes)⟩], .live [⟨147, 3, .data (List.map cMonth_ r.1.Movement.Calendar.Months)⟩], .live [⟨179, 3, .data (List.map cLeapRule_ r.1.Movement.Calendar.Rules)⟩], .live [⟨2, 1, .data (List.map cI r.1.Movement.Cam)⟩], .live [⟨2, 1, .data (List.map cI r.1.Dial.Cam)⟩]] (.tup [.agg [.d (.v (.string r.1.Movement.Name)), .own 0 0 r.1.Movement.Works.Arbors.length, .own 2 0 r.1.Movement.Works.Meshes.length, .d (.v (.int .i64 r.1.Movement.Minute)), .d (.v (.int .i64 r.1.Movement.Hour)), .d (.v (.int .i64 r.1.Movement.Escape)), .d (.v (.int .i64 r.1.Movement.Teeth)), .d (.v (.int .i64 r.1.Movement.Beats)), .d (.v (.string r.1.Movement.Calendar.Name)), .own 3 0 r.1.Movement.Calendar.Months.length, .own 4 0 r.1.Movement.Calendar.Rules.length, .d (.v (.int .i64 r.1.Movement.Calendar.Week)), .own 5 0 r.1.Movement.Cam.length, .d (.v (.int .i64 r.1.Movement.Strike)), .d (.v (.int .i64 r.1.Start.Year)), .d (.v (.int .i64 r.1.Start.Month)), .d (.v (.int .i64 r.1.Start.Day)), .d (.v (.int .i64 r.1.First)), .d (.v (.int .i64 r.1.Clock)), .own 6 0 r.1.Dial.Cam.length, .d (.v (.int .i64 r.1.Dial.Months)), .d (.v (.int .i64 r.1.Dial.Teeth)), .d (.v (.int .i64 r.1.Dial.At)), .d (.v (.int .i64 r.1.Dial.Day)), .d (.v (.int .i64 r.1.Dial.Week)), .d (.v (.int .i64 r.1.Dial.Weekday))], .d (.v (.int .i64 r.2.1)), .d (.v (.int .i64 r.2.2))]) := by
  refine fnc_intro (T := tt) (N := 59) tok Tryz.func15 rfl rfl (by kernel_rfl) rfl rfl ?_
  unfold i_RunSim_m at h0
  refine sq [0,1,2,3] ?_
  refine rs rfl w0 rfl (st_box 3 (cs := _ :: _) rfl rfl rfl) ?_
  refine rs rfl w0 rfl (st_alloc 4 (cs := [.d (.v (.string (⟨#[]⟩ : ByteArray))), .d (.v (.slice none 0 0)), .d (.v (.slice none 0 0)), .d (.v (.int .i64 0)), .d (.v (.int .i64 0)), .d (.v (.int .i64 0)), .d (.v (.int .i64 0)), .d (.v (.int .i64 0)), .d (.v (.string (⟨#[]⟩ : ByteArray))), .d (.v (.slice none 0 0)), .d (.v (.slice none 0 0)), .d (.v (.int .i64 0)), .d (.v (.slice none 0 0)), .d (.v (.int .i64 0)), .d (.v (.int .i64 0)), .d (.v (.int .i64 0)), .d (.v (.int .i64 0)), .d (.v (.int .i64 0)), .d (.v (.int .i64 0)), .d (.v (.slice none 0 0)), .d (.v (.int .i64 0)), .d (.v (.int .i64 0)), .d (.v (.int .i64 0)), .d (.v (.int .i64 0)), .d (.v (.int .i64 0)), .d (.v (.int .i64 0))]) tok rfl rfl rfl) ?_
  refine pa ?_
  refine pa ?_
  refine nx ?_
  refine aw_seq ?_
  refine sq [0,1,2] ?_
  refine rl rfl w0 rfl (bx_ldN tok rfl rfl rfl rfl) ?_
  obtain ⟨v1, hv1, h0⟩ := bnd h0
  refine rs rfl w0 rfl (c_call 5 (i_ValidSim_c hv1) rfl rfl rfl) ?_
  refine rp rfl w0 rfl (pu_not rfl) ?_
  refine nx ?_
  refine aw_ifB h0 rfl (fun hc h0 => ?_) (fun hc h0 => ?_)
  refine sq [0,1,2,3] ?_
  refine rp rfl w0 rfl (pbl (C0 := [.d (.v (.string (⟨#[]⟩ : ByteArray))), .d (.v (.slice none 0 0)), .d (.v (.slice none 0 0)), .d (.v (.int .i64 0)), .d (.v (.int .i64 0)), .d (.v (.int .i64 0)), .d (.v (.int .i64 0)), .d (.v (.int .i64 0)), .d (.v (.string (⟨#[]⟩ : ByteArray))), .d (.v (.slice none 0 0)), .d (.v (.slice none 0 0)), .d (.v (.int .i64 0)), .d (.v (.slice none 0 0)), .d (.v (.int .i64 0)), .d (.v (.int .i64 0)), .d (.v (.int .i64 0)), .d (.v (.int .i64 0)), .d (.v (.int .i64 0)), .d (.v (.int .i64 0)), .d (.v (.slice none 0 0)), .d (.v (.int .i64 0)), .d (.v (.int .i64 0)), .d (.v (.int .i64 0)), .d (.v (.int .i64 0)), .d (.v (.int .i64 0)), .d (.v (.int .i64 0))]) tok rfl rfl rfl) ?_
  refine rw0 rfl w0 (bx_st (cs := _ :: _) tok rfl rfl rfl rfl rfl rfl rfl) ?_
  refine pa ?_
  refine pa ?_
  refine nx ?_
  refine aw_weak (weak_adopt 5 rfl 213 2 (kb := 4) (j := 1) rfl rfl (by repeat (first | exact Spl.z _ | apply Spl.t | apply Spl.d))) ?_
  refine aw_weak (weak_nest0 6 (k := 5) 2 1 cArbor_ rfl rfl) ?_
  refine aw_weak (weak_adopt 7 rfl 215 4 (kb := 4) (j := 2) rfl rfl (by repeat (first | exact Spl.z _ | apply Spl.t | apply Spl.d))) ?_
  refine aw_weak (weak_adopt 8 rfl 147 3 (kb := 4) (j := 9) rfl rfl (by repeat (first | exact Spl.z _ | apply Spl.t | apply Spl.d))) ?_
  refine aw_weak (weak_adopt 9 rfl 179 3 (kb := 4) (j := 10) rfl rfl (by repeat (first | exact Spl.z _ | apply Spl.t | apply Spl.d))) ?_
  refine aw_weak (weak_adopt 10 rfl 2 1 (kb := 4) (j := 12) rfl rfl (by repeat (first | exact Spl.z _ | apply Spl.t | apply Spl.d))) ?_
  refine aw_weak (weak_adopt 11 rfl 2 1 (kb := 4) (j := 19) rfl rfl (by repeat (first | exact Spl.z _ | apply Spl.t | apply Spl.d))) ?_
  refine aw_ret ?_
  refine then_r ?_
  cases h0
  exact retK_ (rs := [.cell 4 53, .tmp 5, .tmp 6]) [5, 6, 7, 8, 9, 10, 11] rfl
  refine sk ?_
  refine aw_seq ?_
  obtain ⟨v3, h1, h0⟩ := bnd h0
  refine aw_cut ⟨updA (updA (updA (updA ((fun _ => .dead)) 1 (.d (.v (.int .i64 p1)))) 2 (.ptr 3 0 1 0 0)) 4 (.ptr 4 0 1 0 0)) 24 (.d (.v (.bool v3))), lks [.no, .no, .no, .live [⟨53, 26, .av [[.d (.v (.string p0.Movement.Name)), .d (.sl (List.map cArbor_ p0.Movement.Works.Arbors)), .d (.sl (List.map cMesh_ p0.Movement.Works.Meshes)), .d (.v (.int .i64 p0.Movement.Minute)), .d (.v (.int .i64 p0.Movement.Hour)), .d (.v (.int .i64 p0.Movement.Escape)), .d (.v (.int .i64 p0.Movement.Teeth)), .d (.v (.int .i64 p0.Movement.Beats)), .d (.v (.string p0.Movement.Calendar.Name)), .d (.sl (List.map cMonth_ p0.Movement.Calendar.Months)), .d (.sl (List.map cLeapRule_ p0.Movement.Calendar.Rules)), .d (.v (.int .i64 p0.Movement.Calendar.Week)), .d (.sl (List.map cI p0.Movement.Cam)), .d (.v (.int .i64 p0.Movement.Strike)), .d (.v (.int .i64 p0.Start.Year)), .d (.v (.int .i64 p0.Start.Month)), .d (.v (.int .i64 p0.Start.Day)), .d (.v (.int .i64 p0.First)), .d (.v (.int .i64 p0.Clock)), .d (.sl (List.map cI p0.Dial.Cam)), .d (.v (.int .i64 p0.Dial.Months)), .d (.v (.int .i64 p0.Dial.Teeth)), .d (.v (.int .i64 p0.Dial.At)), .d (.v (.int .i64 p0.Dial.Day)), .d (.v (.int .i64 p0.Dial.Week)), .d (.v (.int .i64 p0.Dial.Weekday))]]⟩], .live [⟨53, 26, .av [[.d (.v (.string (⟨#[]⟩ : ByteArray))), .d (.v (.slice none 0 0)), .d (.v (.slice none 0 0)), .d (.v (.int .i64 0)), .d (.v (.int .i64 0)), .d (.v (.int .i64 0)), .d (.v (.int .i64 0)), .d (.v (.int .i64 0)), .d (.v (.string (⟨#[]⟩ : ByteArray))), .d (.v (.slice none 0 0)), .d (.v (.slice none 0 0)), .d (.v (.int .i64 0)), .d (.v (.slice none 0 0)), .d (.v (.int .i64 0)), .d (.v (.int .i64 0)), .d (.v (.int .i64 0)), .d (.v (.int .i64 0)), .d (.v (.int .i64 0)), .d (.v (.int .i64 0)), .d (.v (.slice none 0 0)), .d (.v (.int .i64 0)), .d (.v (.int .i64 0)), .d (.v (.int .i64 0)), .d (.v (.int .i64 0)), .d (.v (.int .i64 0)), .d (.v (.int .i64 0))]]⟩]]⟩ ?_ ?_
  refine sr [0,1,2,3,4,5,6,7,8,9] ?_
  refine pm ?_
  obtain ⟨v2, hv2, h1⟩ := bnd h1
  refine rs rfl w0 rfl (c_call 5 (i_within_c hv2) rfl rfl rfl) ?_
  refine rp rfl w0 rfl (pu_not rfl) ?_
  refine pm ?_
  refine ra_ifB (u := 18) h1 rfl (fun hc h1 => ?_) (fun hc h1 => ?_)
  iterate 5 refine k1 ?_
  refine pkt ?_
  refine nx ?_
  cases h1
  exact wk [0, 1, 2, 3, 4]
  refine fa1 tok ?_
  refine ld1 tok ?_
  refine pm1 ?_
  refine rp rfl (w1 rfl rfl rfl) rfl (pw_add rfl rfl) ?_
  refine rp rfl (w1 rfl rfl rfl) rfl (pu_gtr rfl rfl) ?_
  refine pkf ?_
  refine nx ?_
  cases h1
  exact wk [0, 1, 2, 3, 4]
  refine aw_ifB h0 rfl (fun hc h0 => ?_) (fun hc h0 => ?_)
  refine sq [0,1,2,3] ?_
  refine rp rfl w0 rfl (pbl (C0 := [.d (.v (.string (⟨#[]⟩ : ByteArray))), .d (.v (.slice none 0 0)), .d (.v (.slice none 0 0)), .d (.v (.int .i64 0)), .d (.v (.int .i64 0)), .d (.v (.int .i64 0)), .d (.v (.int .i64 0)), .d (.v (.int .i64 0)), .d (.v (.string (⟨#[]⟩ : ByteArray))), .d (.v (.slice none 0 0)), .d (.v (.slice none 0 0)), .d (.v (.int .i64 0)), .d (.v (.slice none 0 0)), .d (.v (.int .i64 0)), .d (.v (.int .i64 0)), .d (.v (.int .i64 0)), .d (.v (.int .i64 0)), .d (.v (.int .i64 0)), .d (.v (.int .i64 0)), .d (.v (.slice none 0 0)), .d (.v (.int .i64 0)), .d (.v (.int .i64 0)), .d (.v (.int .i64 0)), .d (.v (.int .i64 0)), .d (.v (.int .i64 0)), .d (.v (.int .i64 0))]) tok rfl rfl rfl) ?_
  refine rw0 rfl w0 (bx_st (cs := _ :: _) tok rfl rfl rfl rfl rfl rfl rfl) ?_
  refine pa ?_
  refine pa ?_
  refine nx ?_
  refine aw_weak (weak_adopt 5 rfl 213 2 (kb := 4) (j := 1) rfl rfl (by repeat (first | exact Spl.z _ | apply Spl.t | apply Spl.d))) ?_
  refine aw_weak (weak_nest0 6 (k := 5) 2 1 cArbor_ rfl rfl) ?_
  refine aw_weak (weak_adopt 7 rfl 215 4 (kb := 4) (j := 2) rfl rfl (by repeat (first | exact Spl.z _ | apply Spl.t | apply Spl.d))) ?_
  refine aw_weak (weak_adopt 8 rfl 147 3 (kb := 4) (j := 9) rfl rfl (by repeat (first | exact Spl.z _ | apply Spl.t | apply Spl.d))) ?_
  refine aw_weak (weak_adopt 9 rfl 179 3 (kb := 4) (j := 10) rfl rfl (by repeat (first | exact Spl.z _ | apply Spl.t | apply Spl.d))) ?_
  refine aw_weak (weak_adopt 10 rfl 2 1 (kb := 4) (j := 12) rfl rfl (by repeat (first | exact Spl.z _ | apply Spl.t | apply Spl.d))) ?_
  refine aw_weak (weak_adopt 11 rfl 2 1 (kb := 4) (j := 19) rfl rfl (by repeat (first | exact Spl.z _ | apply Spl.t | apply Spl.d))) ?_
  refine aw_ret ?_
  refine then_r ?_
  cases h0
  exact retK_ (rs := [.cell 4 53, .tmp 5, .tmp 6]) [5, 6, 7, 8, 9, 10, 11] rfl
  refine sk ?_
  refine sq [0,1,2] ?_
  refine fa tok ?_
  refine ld tok ?_
  refine pa ?_
  refine nx ?_
  refine sq [0,1,2] ?_
  refine rl rfl w0 rfl (bx_ldN tok rfl rfl rfl rfl) ?_
  obtain ⟨v4, hv4, h0⟩ := bnd h0
  refine rs rfl w0 rfl (c_call 5 (i_copySim_c hv4) rfl rfl rfl) ?_
  refine rw0 rfl w0 (bx_st (cs := _ :: _) tok rfl rfl rfl rfl rfl rfl rfl) ?_
  refine nx ?_
  refine sq [0,1,2,3,4,5] ?_
  refine fa tok ?_
  refine ld tok ?_
  refine pm ?_
  refine rp rfl w0 rfl (pw_add rfl rfl) ?_
  refine fa tok ?_
  refine rw0 rfl w0 (bx_st (cs := [.d _]) tok rfl rfl rfl rfl rfl rfl rfl) ?_
  refine nx ?_
  obtain ⟨v11, h1, h0⟩ := bnd h0
  refine aw_cut ⟨updA (updA (updA ((fun _ => .dead)) 2 (.ptr 3 0 1 0 0)) 4 (.ptr 4 0 1 0 0)) 7 (.d (.v (.int .i64 p0.Clock))), lks [.no, .no, .no, .live [⟨53, 26, .av [[.d (.v (.string v11.1)), .own 5 0 (v11.2.2.2.2.2.2.2.2.2.2.2.2.2.2.2.2.2.2.1).length, .own 6 0 (v11.2.2.2.2.2.2.2.2.2.2.2.2.2.2.2.2.2.2.2.1).length, .d (.v (.int .i64 v11.2.1)), .d (.v (.int .i64 v11.2.2.1)), .d (.v (.int .i64 v11.2.2.2.1)), .d (.v (.int .i64 v11.2.2.2.2.1)), .d (.v (.int .i64 v11.2.2.2.2.2.1)), .d (.v (.string v11.2.2.2.2.2.2.1)), .own 7 0 (v11.2.2.2.2.2.2.2.2.2.2.2.2.2.2.2.2.2.2.2.2.1).length, .own 8 0 (v11.2.2.2.2.2.2.2.2.2.2.2.2.2.2.2.2.2.2.2.2.2.1).length, .d (.v (.int .i64 v11.2.2.2.2.2.2.2.1)), .own 9 0 (v11.2.2.2.2.2.2.2.2.2.2.2.2.2.2.2.2.2.2.2.2.2.2.1).length, .d (.v (.int .i64 v11.2.2.2.2.2.2.2.2.1)), .d (.v (.int .i64 v11.2.2.2.2.2.2.2.2.2.1.Year)), .d (.v (.int .i64 v11.2.2.2.2.2.2.2.2.2.1.Month)), .d (.v (.int .i64 v11.2.2.2.2.2.2.2.2.2.1.Day)), .d (.v (.int .i64 v11.2.2.2.2.2.2.2.2.2.2.1)), .d (.v (.int .i64 v11.2.2.2.2.2.2.2.2.2.2.2.1)), .own 10 0 (v11.2.2.2.2.2.2.2.2.2.2.2.2.2.2.2.2.2.2.2.2.2.2.2).length, .d (.v (.int .i64 v11.2.2.2.2.2.2.2.2.2.2.2.2.1)), .d (.v (.int .i64 v11.2.2.2.2.2.2.2.2.2.2.2.2.2.1)), .d (.v (.int .i64 v11.2.2.2.2.2.2.2.2.2.2.2.2.2.2.1)), .d (.v (.int .i64 v11.2.2.2.2.2.2.2.2.2.2.2.2.2.2.2.1)), .d (.v (.int .i64 v11.2.2.2.2.2.2.2.2.2.2.2.2.2.2.2.2.1)), .d (.v (.int .i64 v11.2.2.2.2.2.2.2.2.2.2.2.2.2.2.2.2.2.1))]]⟩], .live [⟨53, 26, .av [[.d (.v (.string (⟨#[]⟩ : ByteArray))), .d (.v (.slice none 0 0)), .d (.v (.slice none 0 0)), .d (.v (.int .i64 0)), .d (.v (.int .i64 0)), .d (.v (.int .i64 0)), .d (.v (.int .i64 0)), .d (.v (.int .i64 0)), .d (.v (.string (⟨#[]⟩ : ByteArray))), .d (.v (.slice none 0 0)), .d (.v (.slice none 0 0)), .d (.v (.int .i64 0)), .d (.v (.slice none 0 0)), .d (.v (.int .i64 0)), .d (.v (.int .i64 0)), .d (.v (.int .i64 0)), .d (.v (.int .i64 0)), .d (.v (.int .i64 0)), .d (.v (.int .i64 0)), .d (.v (.slice none 0 0)), .d (.v (.int .i64 0)), .d (.v (.int .i64 0)), .d (.v (.int .i64 0)), .d (.v (.int .i64 0)), .d (.v (.int .i64 0)), .d (.v (.int .i64 0))]]⟩], .live [⟨213, 2, .av (nestL 11 cArbor_ v11.2.2.2.2.2.2.2.2.2.2.2.2.2.2.2.2.2.2.1)⟩], .live [⟨215, 4, .data (List.map cMesh_ v11.2.2.2.2.2.2.2.2.2.2.2.2.2.2.2.2.2.2.2.1)⟩], .live [⟨147, 3, .data (List.map cMonth_ v11.2.2.2.2.2.2.2.2.2.2.2.2.2.2.2.2.2.2.2.2.1)⟩], .live [⟨179, 3, .data (List.map cLeapRule_ v11.2.2.2.2.2.2.2.2.2.2.2.2.2.2.2.2.2.2.2.2.2.1)⟩], .live [⟨2, 1, .data (List.map cI v11.2.2.2.2.2.2.2.2.2.2.2.2.2.2.2.2.2.2.2.2.2.2.1)⟩], .live [⟨2, 1, .data (List.map cI v11.2.2.2.2.2.2.2.2.2.2.2.2.2.2.2.2.2.2.2.2.2.2.2)⟩], .live (famL 2 1 cArbor_ v11.2.2.2.2.2.2.2.2.2.2.2.2.2.2.2.2.2.2.1)]⟩ ?_ ?_
  refine sq [0,1,2,3,4,5,6] ?_
  refine fa tok ?_
  refine ld tok ?_
  refine rp rfl w0 rfl (pw_quo rfl rfl (by decide)) ?_
  refine pm ?_
  refine rp rfl w0 rfl (pw_quo rfl rfl (by decide)) ?_
  refine rp rfl w0 rfl (pw_sub rfl rfl) ?_
  refine pa ?_
  refine nx ?_
  refine aw_block ?_
  refine aw_loopM (fun s9 => ⟨updA (updA (updA (updA ((fun _ => .dead)) 2 (.ptr 3 0 1 0 0)) 4 (.ptr 4 0 1 0 0)) 7 (.d (.v (.int .i64 p0.Clock)))) 8 (.d (.v (.int .i64 s9.1))), lks [.no, .no, .no, .live [⟨53, 26, .av [[.d (.v (.string s9.2.1)), .own 5 0 (s9.2.2.2.2.2.2.2.2.2.2.2.2.2.2.2.2.2.2.2.1).length, .own 6 0 (s9.2.2.2.2.2.2.2.2.2.2.2.2.2.2.2.2.2.2.2.2.1).length, .d (.v (.int .i64 s9.2.2.1)), .d (.v (.int .i64 s9.2.2.2.1)), .d (.v (.int .i64 s9.2.2.2.2.1)), .d (.v (.int .i64 s9.2.2.2.2.2.1)), .d (.v (.int .i64 s9.2.2.2.2.2.2.1)), .d (.v (.string s9.2.2.2.2.2.2.2.1)), .own 7 0 (s9.2.2.2.2.2.2.2.2.2.2.2.2.2.2.2.2.2.2.2.2.2.1).length, .own 8 0 (s9.2.2.2.2.2.2.2.2.2.2.2.2.2.2.2.2.2.2.2.2.2.2.1).length, .d (.v (.int .i64 s9.2.2.2.2.2.2.2.2.1)), .own 9 0 (s9.2.2.2.2.2.2.2.2.2.2.2.2.2.2.2.2.2.2.2.2.2.2.2.1).length, .d (.v (.int .i64 s9.2.2.2.2.2.2.2.2.2.1)), .d (.v (.int .i64 s9.2.2.2.2.2.2.2.2.2.2.1.Year)), .d (.v (.int .i64 s9.2.2.2.2.2.2.2.2.2.2.1.Month)), .d (.v (.int .i64 s9.2.2.2.2.2.2.2.2.2.2.1.Day)), .d (.v (.int .i64 s9.2.2.2.2.2.2.2.2.2.2.2.1)), .d (.v (.int .i64 s9.2.2.2.2.2.2.2.2.2.2.2.2.1)), .own 10 0 (s9.2.2.2.2.2.2.2.2.2.2.2.2.2.2.2.2.2.2.2.2.2.2.2.2).length, .d (.v (.int .i64 s9.2.2.2.2.2.2.2.2.2.2.2.2.2.1)), .d (.v (.int .i64 s9.2.2.2.2.2.2.2.2.2.2.2.2.2.2.1)), .d (.v (.int .i64 s9.2.2.2.2.2.2.2.2.2.2.2.2.2.2.2.1)), .d (.v (.int .i64 s9.2.2.2.2.2.2.2.2.2.2.2.2.2.2.2.2.1)), .d (.v (.int .i64 s9.2.2.2.2.2.2.2.2.2.2.2.2.2.2.2.2.2.1)), .d (.v (.int .i64 s9.2.2.2.2.2.2.2.2.2.2.2.2.2.2.2.2.2.2.1))]]⟩], .live [⟨53, 26, .av [[.d (.v (.string (⟨#[]⟩ : ByteArray))), .d (.v (.slice none 0 0)), .d (.v (.slice none 0 0)), .d (.v (.int .i64 0)), .d (.v (.int .i64 0)), .d (.v (.int .i64 0)), .d (.v (.int .i64 0)), .d (.v (.int .i64 0)), .d (.v (.string (⟨#[]⟩ : ByteArray))), .d (.v (.slice none 0 0)), .d (.v (.slice none 0 0)), .d (.v (.int .i64 0)), .d (.v (.slice none 0 0)), .d (.v (.int .i64 0)), .d (.v (.int .i64 0)), .d (.v (.int .i64 0)), .d (.v (.int .i64 0)), .d (.v (.int .i64 0)), .d (.v (.int .i64 0)), .d (.v (.slice none 0 0)), .d (.v (.int .i64 0)), .d (.v (.int .i64 0)), .d (.v (.int .i64 0)), .d (.v (.int .i64 0)), .d (.v (.int .i64 0)), .d (.v (.int .i64 0))]]⟩], .live [⟨213, 2, .av (nestL 11 cArbor_ s9.2.2.2.2.2.2.2.2.2.2.2.2.2.2.2.2.2.2.2.1)⟩], .live [⟨215, 4, .data (List.map cMesh_ s9.2.2.2.2.2.2.2.2.2.2.2.2.2.2.2.2.2.2.2.2.1)⟩], .live [⟨147, 3, .data (List.map cMonth_ s9.2.2.2.2.2.2.2.2.2.2.2.2.2.2.2.2.2.2.2.2.2.1)⟩], .live [⟨179, 3, .data (List.map cLeapRule_ s9.2.2.2.2.2.2.2.2.2.2.2.2.2.2.2.2.2.2.2.2.2.2.1)⟩], .live [⟨2, 1, .data (List.map cI s9.2.2.2.2.2.2.2.2.2.2.2.2.2.2.2.2.2.2.2.2.2.2.2.1)⟩], .live [⟨2, 1, .data (List.map cI s9.2.2.2.2.2.2.2.2.2.2.2.2.2.2.2.2.2.2.2.2.2.2.2.2)⟩], .live (famL 2 1 cArbor_ s9.2.2.2.2.2.2.2.2.2.2.2.2.2.2.2.2.2.2.2.1)]⟩) h1 ?_ (fun s9 y h2 => ?_)
  exact wk [0, 1, 2, 3, 4, 5, 7, 8, 9, 10, 11, 6]
  refine aw_seq ?_
  refine sq [0,1] ?_
  refine pm ?_
  refine rp rfl w0 rfl (pu_gtr rfl rfl) ?_
  refine nx ?_
  refine aw_if h2 rfl (fun hc h2 => ?_) (fun hc h2 => ?_)
  refine sk ?_
  refine aw_seq ?_
  refine aw_block ?_
  refine sr [0,1] ?_
  refine fa tok ?_
  obtain ⟨v10, hv10, h2⟩ := bnd h2
  refine rw1 rfl w0 rfl (c_callP [3, 5, 11, 6, 7, 8, 9, 10] 300 (Perpetual_midnight_Sim_4_c hv10) rfl rfl) ?_
  refine ra_nil ?_
  refine block_n ?_
  refine then_n ?_
  refine sr [0,1,2] ?_
  refine pm ?_
  refine rp rfl w0 rfl (pw_sub rfl rfl) ?_
  refine pa ?_
  refine ra_nil ?_
  refine loop_n ?_
  cases h2
  refine ⟨_, rfl, ?_⟩
  exact wk [0, 1, 2, 3, 4, 5, 6, 7, 8, 9, 10, 11]
  refine aw_exit ?_
  refine then_e ?_
  cases h2
  refine loop_x ⟨_, rfl, fun e => ?_⟩
  subst e
  refine block_hit ?_
  refine then_n ?_
  exact wk [0, 1, 2, 3, 4, 5, 6, 7, 8, 9, 10, 11]
  refine sq [0,1,2,3,4,5,6,7,8,9,10,11] ?_
  refine fa tok ?_
  refine fa tok ?_
  refine ld tok ?_
  refine pm ?_
  refine fa tok ?_
  refine ld tok ?_
  obtain ⟨v12, hv12, h0⟩ := bnd h0
  refine rs rfl w0 rfl (c_call 12 (i_BlowsBetween_c hv12) rfl rfl rfl) ?_
  refine rp rfl w0 rfl (pu_move (r := .tup _) rfl) ?_
  refine rp rfl w0 rfl (pu_extract rfl rfl) ?_
  refine rp rfl w0 rfl (pu_extract rfl rfl) ?_
  refine pa ?_
  refine pa ?_
  refine nx ?_
  refine sq [0,1,2,3,4] ?_
  refine rl rfl w0 rfl (bx_ldN tok rfl rfl rfl rfl) ?_
  refine pm ?_
  refine rw0 rfl w0 (bx_st (cs := _ :: _) tok rfl rfl rfl rfl rfl rfl rfl) ?_
  refine pa ?_
  refine pa ?_
  refine nx ?_
  refine aw_ret ?_
  cases h0
  exact retK_ (rs := [.cell 4 53, .tmp 5, .tmp 6]) [5, 11, 6, 7, 8, 9, 10] rfl

theorem l_eqInt64S_c {p0 : List Int} {p1 : List Int} {r : Bool} (h0 : l_eqInt64S_m p0 p1 = some r) : FnC Tryz.prog 83 [] [.d (.sl (List.map cI p0)), .d (.sl (List.map cI p1))] [] (.d (.v (.bool r))) := by
  refine fnc_intro (T := tt) (N := 26) tok Tryz.func83 rfl rfl (by kernel_rfl) rfl rfl ?_
  unfold l_eqInt64S_m at h0
  refine sq [0] ?_
  refine pa ?_
  refine nx ?_
  refine aw_seq ?_
  refine sq [0,1,2,3,4] ?_
  refine pm ?_
  refine rp rfl w0 rfl (pu_len_map tok rfl rfl rfl) ?_
  refine pm ?_
  refine rp rfl w0 rfl (pu_len_map tok rfl rfl rfl) ?_
  refine rp rfl w0 rfl (pu_neq rfl rfl) ?_
  refine nx ?_
  refine aw_if h0 rfl (fun hc h0 => ?_) (fun hc h0 => ?_)
  refine sq [0] ?_
  refine pa ?_
  refine nx ?_
  refine aw_ret ?_
  refine then_r ?_
  cases h0
  exact ret0_ (rs := [.tmp 4]) rfl
  refine sk ?_
  obtain ⟨v7x, h1, h0⟩ := bnd h0
  refine aw_cutE v7x (fun v7 => ⟨(fun _ => .dead), lks [.no, .no, .no]⟩) ?_ ?_
  refine sq [0] ?_
  refine pa ?_
  refine nx ?_
  refine aw_block ?_
  refine aw_loopM (fun s4 => ⟨updA (updA (updA ((fun _ => .dead)) 0 (.d (.sl (List.map cI p0)))) 1 (.d (.sl (List.map cI p1)))) 5 (.d (.v (.int .i64 s4))), lks [.no, .no, .no]⟩) h1 ?_ (fun s4 y h2 => ?_)
  exact wk [0, 1, 2]
  refine aw_seq ?_
  refine sq [0,1,2,3] ?_
  refine pm ?_
  refine pm ?_
  refine rp rfl w0 rfl (pu_len_map tok rfl rfl rfl) ?_
  refine rp rfl w0 rfl (pu_lss rfl rfl) ?_
  refine nx ?_
  refine aw_if h2 rfl (fun hc h2 => ?_) (fun hc h2 => ?_)
  refine sk ?_
  refine aw_seq ?_
  refine aw_block ?_
  refine aw_seq ?_
  refine aw_region_draw (is := [0, 1, 2, 3, 4, 5, 6, 7, 8]) [0, 0, 3, 7, 0, 0, 48, 112, 255] follows (by kernel_rfl) ?_
  refine tpm ?_
  refine tpm ?_
  obtain ⟨v5, hv5, h2⟩ := bnd h2
  refine rt_p rfl w0 rfl (sl_ix tok hv5 rfl rfl rfl rfl rfl rfl) ?_
  refine tlr tok ?_
  refine tpm ?_
  refine tpm ?_
  obtain ⟨v6, hv6, h2⟩ := bnd h2
  refine rt_p rfl w0 rfl (sl_ix tok hv6 rfl rfl rfl rfl rfl rfl) ?_
  refine tlr tok ?_
  refine rt_p rfl w0 rfl (pu_neq rfl rfl) ?_
  refine rt_nil ?_
  refine ⟨by kernel_rfl, ?_⟩
  refine then_n ?_
  refine aw_if h2 rfl (fun hc h2 => ?_) (fun hc h2 => ?_)
  refine sq [0] ?_
  refine pa ?_
  refine nx ?_
  refine aw_ret ?_
  refine block_r ?_
  refine then_r ?_
  cases h2
  refine loop_r ⟨_, rfl, fun e => ?_⟩
  subst e
  refine block_r ?_
  replace h0 := orE_s h0
  refine then_r ?_
  cases h0
  exact ret0_ (rs := [.tmp 4]) rfl
  refine aw_skip ?_
  refine block_n ?_
  refine then_n ?_
  refine sr [0,1,2] ?_
  refine pm ?_
  refine rp rfl w0 rfl (pw_add rfl rfl) ?_
  refine pa ?_
  refine ra_nil ?_
  refine loop_n ?_
  cases h2
  refine ⟨_, rfl, ?_⟩
  exact wk [0, 1, 2]
  refine aw_exit ?_
  refine then_e ?_
  cases h2
  refine loop_x ⟨_, rfl, fun e => ?_⟩
  subst e
  refine block_hit ?_
  refine then_n ?_
  refine ⟨_, rfl, ?_⟩
  exact wk [0, 1, 2]
  rintro v7 rfl
  replace h0 := orE_f h0
  refine sq [0] ?_
  refine pa ?_
  refine nx ?_
  refine aw_ret ?_
  cases h0
  exact ret0_ (rs := [.tmp 4]) rfl

theorem l_eqArbor_c {p0 : Arbor_} {p1 : Arbor_} {r : Bool} (h0 : l_eqArbor_m p0 p1 = some r) : FnC Tryz.prog 202 [] [.agg [.d (.v (.string p0.Name)), .d (.sl (List.map cI p0.Wheels))], .agg [.d (.v (.string p1.Name)), .d (.sl (List.map cI p1.Wheels))]] [] (.d (.v (.bool r))) := by
  refine fnc_intro (T := tt) (N := 16) tok Tryz.func202 rfl rfl (by kernel_rfl) rfl rfl ?_
  unfold l_eqArbor_m at h0
  refine sq [0,1,2] ?_
  refine rs rfl w0 rfl (st_box 3 (cs := _ :: _) rfl rfl rfl) ?_
  refine rs rfl w0 rfl (st_box 4 (cs := _ :: _) rfl rfl rfl) ?_
  refine pa ?_
  refine nx ?_
  refine aw_seq ?_
  refine sq [0,1,2,3,4] ?_
  refine fa tok ?_
  refine ld tok ?_
  refine fa tok ?_
  refine ld tok ?_
  refine rp rfl w0 rfl (pu_sneq rfl rfl) ?_
  refine nx ?_
  refine aw_if h0 rfl (fun hc h0 => ?_) (fun hc h0 => ?_)
  refine sq [0] ?_
  refine pa ?_
  refine nx ?_
  refine aw_ret ?_
  refine then_r ?_
  cases h0
  exact ret0_ (rs := [.tmp 4]) rfl
  refine sk ?_
  refine aw_seq ?_
  refine sq [0,1,2,3,4,5] ?_
  refine fa tok ?_
  refine ld tok ?_
  refine fa tok ?_
  refine ld tok ?_
  obtain ⟨v1, hv1, h0⟩ := bnd h0
  refine rs rfl w0 rfl (c_call 5 (l_eqInt64S_c hv1) rfl rfl rfl) ?_
  refine rp rfl w0 rfl (pu_not rfl) ?_
  refine nx ?_
  refine aw_ifB h0 rfl (fun hc h0 => ?_) (fun hc h0 => ?_)
  refine sq [0] ?_
  refine pa ?_
  refine nx ?_
  refine aw_ret ?_
  refine then_r ?_
  cases h0
  exact ret0_ (rs := [.tmp 4]) rfl
  refine sk ?_
  refine sq [0] ?_
  refine pa ?_
  refine nx ?_
  refine aw_ret ?_
  cases h0
  exact ret0_ (rs := [.tmp 4]) rfl

theorem l_eqArborS_c {p0 : List Arbor_} {p1 : List Arbor_} {r : Bool} (h0 : l_eqArborS_m p0 p1 = some r) : FnC Tryz.prog 140 [] [.d (.sl (List.map cArbor_ p0)), .d (.sl (List.map cArbor_ p1))] [] (.d (.v (.bool r))) := by
  refine fnc_intro (T := tt) (N := 27) tok Tryz.func140 rfl rfl (by kernel_rfl) rfl rfl ?_
  unfold l_eqArborS_m at h0
  refine sq [0] ?_
  refine pa ?_
  refine nx ?_
  refine aw_seq ?_
  refine sq [0,1,2,3,4] ?_
  refine pm ?_
  refine rp rfl w0 rfl (pu_len_map tok rfl rfl rfl) ?_
  refine pm ?_
  refine rp rfl w0 rfl (pu_len_map tok rfl rfl rfl) ?_
  refine rp rfl w0 rfl (pu_neq rfl rfl) ?_
  refine nx ?_
  refine aw_if h0 rfl (fun hc h0 => ?_) (fun hc h0 => ?_)
  refine sq [0] ?_
  refine pa ?_
  refine nx ?_
  refine aw_ret ?_
  refine then_r ?_
  cases h0
  exact ret0_ (rs := [.tmp 4]) rfl
  refine sk ?_
  obtain ⟨v9x, h1, h0⟩ := bnd h0
  refine aw_cutE v9x (fun v9 => ⟨(fun _ => .dead), lks [.no, .no, .no]⟩) ?_ ?_
  refine sq [0] ?_
  refine pa ?_
  refine nx ?_
  refine aw_block ?_
  refine aw_loopM (fun s5 => ⟨updA (updA (updA ((fun _ => .dead)) 0 (.d (.sl (List.map cArbor_ p0)))) 1 (.d (.sl (List.map cArbor_ p1)))) 5 (.d (.v (.int .i64 s5))), lks [.no, .no, .no]⟩) h1 ?_ (fun s5 y h2 => ?_)
  exact wk [0, 1, 2]
  refine aw_seq ?_
  refine sq [0,1,2,3] ?_
  refine pm ?_
  refine pm ?_
  refine rp rfl w0 rfl (pu_len_map tok rfl rfl rfl) ?_
  refine rp rfl w0 rfl (pu_lss rfl rfl) ?_
  refine nx ?_
  refine aw_if h2 rfl (fun hc h2 => ?_) (fun hc h2 => ?_)
  refine sk ?_
  refine aw_seq ?_
  refine aw_block ?_
  refine aw_seq ?_
  refine aw_region_draw (is := [0, 1, 2, 3, 4, 5, 6, 7, 8, 9]) [0, 0, 3, 7, 0, 0, 48, 112, 255, 511] follows (by kernel_rfl) ?_
  refine tpm ?_
  refine tpm ?_
  obtain ⟨v6, hv6, h2⟩ := bnd h2
  refine rt_p rfl w0 rfl (sl_ix tok hv6 rfl rfl rfl rfl rfl rfl) ?_
  refine rt_p rfl w0 rfl (pu_load_refN tok rfl rfl rfl (by repeat (first | exact SegD.z _ | apply SegD.t))) ?_
  refine tpm ?_
  refine tpm ?_
  obtain ⟨v7, hv7, h2⟩ := bnd h2
  refine rt_p rfl w0 rfl (sl_ix tok hv7 rfl rfl rfl rfl rfl rfl) ?_
  refine rt_p rfl w0 rfl (pu_load_refN tok rfl rfl rfl (by repeat (first | exact SegD.z _ | apply SegD.t))) ?_
  obtain ⟨v8, hv8, h2⟩ := bnd h2
  refine rt_c rfl w0 rfl (b_call 3 (l_eqArbor_c hv8) rfl rfl rfl) ?_
  refine rt_p rfl w0 rfl (pu_not rfl) ?_
  refine rt_nil ?_
  refine ⟨by kernel_rfl, ?_⟩
  refine then_n ?_
  refine aw_ifB h2 rfl (fun hc h2 => ?_) (fun hc h2 => ?_)
  refine sq [0] ?_
  refine pa ?_
  refine nx ?_
  refine aw_ret ?_
  refine block_r ?_
  refine then_r ?_
  cases h2
  refine loop_r ⟨_, rfl, fun e => ?_⟩
  subst e
  refine block_r ?_
  replace h0 := orE_s h0
  refine then_r ?_
  cases h0
  exact ret0_ (rs := [.tmp 4]) rfl
  refine aw_skip ?_
  refine block_n ?_
  refine then_n ?_
  refine sr [0,1,2] ?_
  refine pm ?_
  refine rp rfl w0 rfl (pw_add rfl rfl) ?_
  refine pa ?_
  refine ra_nil ?_
  refine loop_n ?_
  cases h2
  refine ⟨_, rfl, ?_⟩
  exact wk [0, 1, 2]
  refine aw_exit ?_
  refine then_e ?_
  cases h2
  refine loop_x ⟨_, rfl, fun e => ?_⟩
  subst e
  refine block_hit ?_
  refine then_n ?_
  refine ⟨_, rfl, ?_⟩
  exact wk [0, 1, 2]
  rintro v9 rfl
  replace h0 := orE_f h0
  refine sq [0] ?_
  refine pa ?_
  refine nx ?_
  refine aw_ret ?_
  cases h0
  exact ret0_ (rs := [.tmp 4]) rfl

theorem l_eqMesh_c {p0 : Mesh_} {p1 : Mesh_} {r : Bool} (h0 : l_eqMesh_m p0 p1 = some r) : FnC Tryz.prog 203 [] [.agg [.d (.v (.int .i64 p0.A)), .d (.v (.int .i64 p0.WheelA)), .d (.v (.int .i64 p0.B)), .d (.v (.int .i64 p0.WheelB))], .agg [.d (.v (.int .i64 p1.A)), .d (.v (.int .i64 p1.WheelA)), .d (.v (.int .i64 p1.B)), .d (.v (.int .i64 p1.WheelB))]] [] (.d (.v (.bool r))) := by
  refine fnc_intro (T := tt) (N := 25) tok Tryz.func203 rfl rfl (by kernel_rfl) rfl rfl ?_
  unfold l_eqMesh_m at h0
  refine sq [0,1,2] ?_
  refine rs rfl w0 rfl (st_box 3 (cs := _ :: _) rfl rfl rfl) ?_
  refine rs rfl w0 rfl (st_box 4 (cs := _ :: _) rfl rfl rfl) ?_
  refine pa ?_
  refine nx ?_
  refine aw_seq ?_
  refine sq [0,1,2,3,4] ?_
  refine fa tok ?_
  refine ld tok ?_
  refine fa tok ?_
  refine ld tok ?_
  refine rp rfl w0 rfl (pu_neq rfl rfl) ?_
  refine nx ?_
  refine aw_if h0 rfl (fun hc h0 => ?_) (fun hc h0 => ?_)
  refine sq [0] ?_
  refine pa ?_
  refine nx ?_
  refine aw_ret ?_
  refine then_r ?_
  cases h0
  exact ret0_ (rs := [.tmp 4]) rfl
  refine sk ?_
  refine aw_seq ?_
  refine sq [0,1,2,3,4] ?_
  refine fa tok ?_
  refine ld tok ?_
  refine fa tok ?_
  refine ld tok ?_
  refine rp rfl w0 rfl (pu_neq rfl rfl) ?_
  refine nx ?_
  refine aw_if h0 rfl (fun hc h0 => ?_) (fun hc h0 => ?_)
  refine sq [0] ?_
  refine pa ?_
  refine nx ?_
  refine aw_ret ?_
  refine then_r ?_
  cases h0
  exact ret0_ (rs := [.tmp 4]) rfl
  refine sk ?_
  refine aw_seq ?_
  refine sq [0,1,2,3,4] ?_
  refine fa tok ?_
  refine ld tok ?_
  refine fa tok ?_
  refine ld tok ?_
  refine rp rfl w0 rfl (pu_neq rfl rfl) ?_
  refine nx ?_
  refine aw_if h0 rfl (fun hc h0 => ?_) (fun hc h0 => ?_)
  refine sq [0] ?_
  refine pa ?_
  refine nx ?_
  refine aw_ret ?_
  refine then_r ?_
  cases h0
  exact ret0_ (rs := [.tmp 4]) rfl
  refine sk ?_
  refine aw_seq ?_
  refine sq [0,1,2,3,4] ?_
  refine fa tok ?_
  refine ld tok ?_
  refine fa tok ?_
  refine ld tok ?_
  refine rp rfl w0 rfl (pu_neq rfl rfl) ?_
  refine nx ?_
  refine aw_if h0 rfl (fun hc h0 => ?_) (fun hc h0 => ?_)
  refine sq [0] ?_
  refine pa ?_
  refine nx ?_
  refine aw_ret ?_
  refine then_r ?_
  cases h0
  exact ret0_ (rs := [.tmp 4]) rfl
  refine sk ?_
  refine sq [0] ?_
  refine pa ?_
  refine nx ?_
  refine aw_ret ?_
  cases h0
  exact ret0_ (rs := [.tmp 4]) rfl

theorem l_eqMeshS_c {p0 : List Mesh_} {p1 : List Mesh_} {r : Bool} (h0 : l_eqMeshS_m p0 p1 = some r) : FnC Tryz.prog 141 [] [.d (.sl (List.map cMesh_ p0)), .d (.sl (List.map cMesh_ p1))] [] (.d (.v (.bool r))) := by
  refine fnc_intro (T := tt) (N := 27) tok Tryz.func141 rfl rfl (by kernel_rfl) rfl rfl ?_
  unfold l_eqMeshS_m at h0
  refine sq [0] ?_
  refine pa ?_
  refine nx ?_
  refine aw_seq ?_
  refine sq [0,1,2,3,4] ?_
  refine pm ?_
  refine rp rfl w0 rfl (pu_len_map tok rfl rfl rfl) ?_
  refine pm ?_
  refine rp rfl w0 rfl (pu_len_map tok rfl rfl rfl) ?_
  refine rp rfl w0 rfl (pu_neq rfl rfl) ?_
  refine nx ?_
  refine aw_if h0 rfl (fun hc h0 => ?_) (fun hc h0 => ?_)
  refine sq [0] ?_
  refine pa ?_
  refine nx ?_
  refine aw_ret ?_
  refine then_r ?_
  cases h0
  exact ret0_ (rs := [.tmp 4]) rfl
  refine sk ?_
  obtain ⟨v9x, h1, h0⟩ := bnd h0
  refine aw_cutE v9x (fun v9 => ⟨(fun _ => .dead), lks [.no, .no, .no]⟩) ?_ ?_
  refine sq [0] ?_
  refine pa ?_
  refine nx ?_
  refine aw_block ?_
  refine aw_loopM (fun s5 => ⟨updA (updA (updA ((fun _ => .dead)) 0 (.d (.sl (List.map cMesh_ p0)))) 1 (.d (.sl (List.map cMesh_ p1)))) 5 (.d (.v (.int .i64 s5))), lks [.no, .no, .no]⟩) h1 ?_ (fun s5 y h2 => ?_)
  exact wk [0, 1, 2]
  refine aw_seq ?_
  refine sq [0,1,2,3] ?_
  refine pm ?_
  refine pm ?_
  refine rp rfl w0 rfl (pu_len_map tok rfl rfl rfl) ?_
  refine rp rfl w0 rfl (pu_lss rfl rfl) ?_
  refine nx ?_
  refine aw_if h2 rfl (fun hc h2 => ?_) (fun hc h2 => ?_)
  refine sk ?_
  refine aw_seq ?_
  refine aw_block ?_
  refine aw_seq ?_
  refine aw_region_draw (is := [0, 1, 2, 3, 4, 5, 6, 7, 8, 9]) [0, 0, 3, 7, 0, 0, 48, 112, 255, 511] follows (by kernel_rfl) ?_
  refine tpm ?_
  refine tpm ?_
  obtain ⟨v6, hv6, h2⟩ := bnd h2
  refine rt_p rfl w0 rfl (sl_ix tok hv6 rfl rfl rfl rfl rfl rfl) ?_
  refine rt_p rfl w0 rfl (pu_load_refN tok rfl rfl rfl (by repeat (first | exact SegD.z _ | apply SegD.t))) ?_
  refine tpm ?_
  refine tpm ?_
  obtain ⟨v7, hv7, h2⟩ := bnd h2
  refine rt_p rfl w0 rfl (sl_ix tok hv7 rfl rfl rfl rfl rfl rfl) ?_
  refine rt_p rfl w0 rfl (pu_load_refN tok rfl rfl rfl (by repeat (first | exact SegD.z _ | apply SegD.t))) ?_
  obtain ⟨v8, hv8, h2⟩ := bnd h2
  refine rt_c rfl w0 rfl (b_call 3 (l_eqMesh_c hv8) rfl rfl rfl) ?_
  refine rt_p rfl w0 rfl (pu_not rfl) ?_
  refine rt_nil ?_
  refine ⟨by kernel_rfl, ?_⟩
  refine then_n ?_
  refine aw_ifB h2 rfl (fun hc h2 => ?_) (fun hc h2 => ?_)
  refine sq [0] ?_
  refine pa ?_
  refine nx ?_
  refine aw_ret ?_
  refine block_r ?_
  refine then_r ?_
  cases h2
  refine loop_r ⟨_, rfl, fun e => ?_⟩
  subst e
  refine block_r ?_
  replace h0 := orE_s h0
  refine then_r ?_
  cases h0
  exact ret0_ (rs := [.tmp 4]) rfl
  refine aw_skip ?_
  refine block_n ?_
  refine then_n ?_
  refine sr [0,1,2] ?_
  refine pm ?_
  refine rp rfl w0 rfl (pw_add rfl rfl) ?_
  refine pa ?_
  refine ra_nil ?_
  refine loop_n ?_
  cases h2
  refine ⟨_, rfl, ?_⟩
  exact wk [0, 1, 2]
  refine aw_exit ?_
  refine then_e ?_
  cases h2
  refine loop_x ⟨_, rfl, fun e => ?_⟩
  subst e
  refine block_hit ?_
  refine then_n ?_
  refine ⟨_, rfl, ?_⟩
  exact wk [0, 1, 2]
  rintro v9 rfl
  replace h0 := orE_f h0
  refine sq [0] ?_
  refine pa ?_
  refine nx ?_
  refine aw_ret ?_
  cases h0
  exact ret0_ (rs := [.tmp 4]) rfl

theorem l_eqWorks_c {p0 : Works_} {p1 : Works_} {r : Bool} (h0 : l_eqWorks_m p0 p1 = some r) : FnC Tryz.prog 81 [] [.agg [.d (.sl (List.map cArbor_ p0.Arbors)), .d (.sl (List.map cMesh_ p0.Meshes))], .agg [.d (.sl (List.map cArbor_ p1.Arbors)), .d (.sl (List.map cMesh_ p1.Meshes))]] [] (.d (.v (.bool r))) := by
  refine fnc_intro (T := tt) (N := 17) tok Tryz.func81 rfl rfl (by kernel_rfl) rfl rfl ?_
  unfold l_eqWorks_m at h0
  refine sq [0,1,2] ?_
  refine rs rfl w0 rfl (st_box 3 (cs := _ :: _) rfl rfl rfl) ?_
  refine rs rfl w0 rfl (st_box 4 (cs := _ :: _) rfl rfl rfl) ?_
  refine pa ?_
  refine nx ?_
  refine aw_seq ?_
  refine sq [0,1,2,3,4,5] ?_
  refine fa tok ?_
  refine ld tok ?_
  refine fa tok ?_
  refine ld tok ?_
  obtain ⟨v1, hv1, h0⟩ := bnd h0
  refine rs rfl w0 rfl (c_call 5 (l_eqArborS_c hv1) rfl rfl rfl) ?_
  refine rp rfl w0 rfl (pu_not rfl) ?_
  refine nx ?_
  refine aw_ifB h0 rfl (fun hc h0 => ?_) (fun hc h0 => ?_)
  refine sq [0] ?_
  refine pa ?_
  refine nx ?_
  refine aw_ret ?_
  refine then_r ?_
  cases h0
  exact ret0_ (rs := [.tmp 4]) rfl
  refine sk ?_
  refine aw_seq ?_
  refine sq [0,1,2,3,4,5] ?_
  refine fa tok ?_
  refine ld tok ?_
  refine fa tok ?_
  refine ld tok ?_
  obtain ⟨v2, hv2, h0⟩ := bnd h0
  refine rs rfl w0 rfl (c_call 5 (l_eqMeshS_c hv2) rfl rfl rfl) ?_
  refine rp rfl w0 rfl (pu_not rfl) ?_
  refine nx ?_
  refine aw_ifB h0 rfl (fun hc h0 => ?_) (fun hc h0 => ?_)
  refine sq [0] ?_
  refine pa ?_
  refine nx ?_
  refine aw_ret ?_
  refine then_r ?_
  cases h0
  exact ret0_ (rs := [.tmp 4]) rfl
  refine sk ?_
  refine sq [0] ?_
  refine pa ?_
  refine nx ?_
  refine aw_ret ?_
  cases h0
  exact ret0_ (rs := [.tmp 4]) rfl

theorem l_eqMonth_c {p0 : Month_} {p1 : Month_} {r : Bool} (h0 : l_eqMonth_m p0 p1 = some r) : FnC Tryz.prog 204 [] [.agg [.d (.v (.string p0.Name)), .d (.v (.int .i64 p0.Days)), .d (.v (.int .i64 p0.Leap))], .agg [.d (.v (.string p1.Name)), .d (.v (.int .i64 p1.Days)), .d (.v (.int .i64 p1.Leap))]] [] (.d (.v (.bool r))) := by
  refine fnc_intro (T := tt) (N := 20) tok Tryz.func204 rfl rfl (by kernel_rfl) rfl rfl ?_
  unfold l_eqMonth_m at h0
  refine sq [0,1,2] ?_
  refine rs rfl w0 rfl (st_box 3 (cs := _ :: _) rfl rfl rfl) ?_
  refine rs rfl w0 rfl (st_box 4 (cs := _ :: _) rfl rfl rfl) ?_
  refine pa ?_
  refine nx ?_
  refine aw_seq ?_
  refine sq [0,1,2,3,4] ?_
  refine fa tok ?_
  refine ld tok ?_
  refine fa tok ?_
  refine ld tok ?_
  refine rp rfl w0 rfl (pu_sneq rfl rfl) ?_
  refine nx ?_
  refine aw_if h0 rfl (fun hc h0 => ?_) (fun hc h0 => ?_)
  refine sq [0] ?_
  refine pa ?_
  refine nx ?_
  refine aw_ret ?_
  refine then_r ?_
  cases h0
  exact ret0_ (rs := [.tmp 4]) rfl
  refine sk ?_
  refine aw_seq ?_
  refine sq [0,1,2,3,4] ?_
  refine fa tok ?_
  refine ld tok ?_
  refine fa tok ?_
  refine ld tok ?_
  refine rp rfl w0 rfl (pu_neq rfl rfl) ?_
  refine nx ?_
  refine aw_if h0 rfl (fun hc h0 => ?_) (fun hc h0 => ?_)
  refine sq [0] ?_
  refine pa ?_
  refine nx ?_
  refine aw_ret ?_
  refine then_r ?_
  cases h0
  exact ret0_ (rs := [.tmp 4]) rfl
  refine sk ?_
  refine aw_seq ?_
  refine sq [0,1,2,3,4] ?_
  refine fa tok ?_
  refine ld tok ?_
  refine fa tok ?_
  refine ld tok ?_
  refine rp rfl w0 rfl (pu_neq rfl rfl) ?_
  refine nx ?_
  refine aw_if h0 rfl (fun hc h0 => ?_) (fun hc h0 => ?_)
  refine sq [0] ?_
  refine pa ?_
  refine nx ?_
  refine aw_ret ?_
  refine then_r ?_
  cases h0
  exact ret0_ (rs := [.tmp 4]) rfl
  refine sk ?_
  refine sq [0] ?_
  refine pa ?_
  refine nx ?_
  refine aw_ret ?_
  cases h0
  exact ret0_ (rs := [.tmp 4]) rfl

theorem l_eqMonthS_c {p0 : List Month_} {p1 : List Month_} {r : Bool} (h0 : l_eqMonthS_m p0 p1 = some r) : FnC Tryz.prog 142 [] [.d (.sl (List.map cMonth_ p0)), .d (.sl (List.map cMonth_ p1))] [] (.d (.v (.bool r))) := by
  refine fnc_intro (T := tt) (N := 27) tok Tryz.func142 rfl rfl (by kernel_rfl) rfl rfl ?_
  unfold l_eqMonthS_m at h0
  refine sq [0] ?_
  refine pa ?_
  refine nx ?_
  refine aw_seq ?_
  refine sq [0,1,2,3,4] ?_
  refine pm ?_
  refine rp rfl w0 rfl (pu_len_map tok rfl rfl rfl) ?_
  refine pm ?_
  refine rp rfl w0 rfl (pu_len_map tok rfl rfl rfl) ?_
  refine rp rfl w0 rfl (pu_neq rfl rfl) ?_
  refine nx ?_
  refine aw_if h0 rfl (fun hc h0 => ?_) (fun hc h0 => ?_)
  refine sq [0] ?_
  refine pa ?_
  refine nx ?_
  refine aw_ret ?_
  refine then_r ?_
  cases h0
  exact ret0_ (rs := [.tmp 4]) rfl
  refine sk ?_
  obtain ⟨v9x, h1, h0⟩ := bnd h0
  refine aw_cutE v9x (fun v9 => ⟨(fun _ => .dead), lks [.no, .no, .no]⟩) ?_ ?_
  refine sq [0] ?_
  refine pa ?_
  refine nx ?_
  refine aw_block ?_
  refine aw_loopM (fun s5 => ⟨updA (updA (updA ((fun _ => .dead)) 0 (.d (.sl (List.map cMonth_ p0)))) 1 (.d (.sl (List.map cMonth_ p1)))) 5 (.d (.v (.int .i64 s5))), lks [.no, .no, .no]⟩) h1 ?_ (fun s5 y h2 => ?_)
  exact wk [0, 1, 2]
  refine aw_seq ?_
  refine sq [0,1,2,3] ?_
  refine pm ?_
  refine pm ?_
  refine rp rfl w0 rfl (pu_len_map tok rfl rfl rfl) ?_
  refine rp rfl w0 rfl (pu_lss rfl rfl) ?_
  refine nx ?_
  refine aw_if h2 rfl (fun hc h2 => ?_) (fun hc h2 => ?_)
  refine sk ?_
  refine aw_seq ?_
  refine aw_block ?_
  refine aw_seq ?_
  refine aw_region_draw (is := [0, 1, 2, 3, 4, 5, 6, 7, 8, 9]) [0, 0, 3, 7, 0, 0, 48, 112, 255, 511] follows (by kernel_rfl) ?_
  refine tpm ?_
  refine tpm ?_
  obtain ⟨v6, hv6, h2⟩ := bnd h2
  refine rt_p rfl w0 rfl (sl_ix tok hv6 rfl rfl rfl rfl rfl rfl) ?_
  refine rt_p rfl w0 rfl (pu_load_refN tok rfl rfl rfl (by repeat (first | exact SegD.z _ | apply SegD.t))) ?_
  refine tpm ?_
  refine tpm ?_
  obtain ⟨v7, hv7, h2⟩ := bnd h2
  refine rt_p rfl w0 rfl (sl_ix tok hv7 rfl rfl rfl rfl rfl rfl) ?_
  refine rt_p rfl w0 rfl (pu_load_refN tok rfl rfl rfl (by repeat (first | exact SegD.z _ | apply SegD.t))) ?_
  obtain ⟨v8, hv8, h2⟩ := bnd h2
  refine rt_c rfl w0 rfl (b_call 3 (l_eqMonth_c hv8) rfl rfl rfl) ?_
  refine rt_p rfl w0 rfl (pu_not rfl) ?_
  refine rt_nil ?_
  refine ⟨by kernel_rfl, ?_⟩
  refine then_n ?_
  refine aw_ifB h2 rfl (fun hc h2 => ?_) (fun hc h2 => ?_)
  refine sq [0] ?_
  refine pa ?_
  refine nx ?_
  refine aw_ret ?_
  refine block_r ?_
  refine then_r ?_
  cases h2
  refine loop_r ⟨_, rfl, fun e => ?_⟩
  subst e
  refine block_r ?_
  replace h0 := orE_s h0
  refine then_r ?_
  cases h0
  exact ret0_ (rs := [.tmp 4]) rfl
  refine aw_skip ?_
  refine block_n ?_
  refine then_n ?_
  refine sr [0,1,2] ?_
  refine pm ?_
  refine rp rfl w0 rfl (pw_add rfl rfl) ?_
  refine pa ?_
  refine ra_nil ?_
  refine loop_n ?_
  cases h2
  refine ⟨_, rfl, ?_⟩
  exact wk [0, 1, 2]
  refine aw_exit ?_
  refine then_e ?_
  cases h2
  refine loop_x ⟨_, rfl, fun e => ?_⟩
  subst e
  refine block_hit ?_
  refine then_n ?_
  refine ⟨_, rfl, ?_⟩
  exact wk [0, 1, 2]
  rintro v9 rfl
  replace h0 := orE_f h0
  refine sq [0] ?_
  refine pa ?_
  refine nx ?_
  refine aw_ret ?_
  cases h0
  exact ret0_ (rs := [.tmp 4]) rfl

theorem l_eqLeapRule_c {p0 : LeapRule_} {p1 : LeapRule_} {r : Bool} (h0 : l_eqLeapRule_m p0 p1 = some r) : FnC Tryz.prog 205 [] [.agg [.d (.v (.int .i64 p0.Every)), .d (.v (.int .i64 p0.Rest)), .d (.v (.bool p0.Leap))], .agg [.d (.v (.int .i64 p1.Every)), .d (.v (.int .i64 p1.Rest)), .d (.v (.bool p1.Leap))]] [] (.d (.v (.bool r))) := by
  refine fnc_intro (T := tt) (N := 20) tok Tryz.func205 rfl rfl (by kernel_rfl) rfl rfl ?_
  unfold l_eqLeapRule_m at h0
  refine sq [0,1,2] ?_
  refine rs rfl w0 rfl (st_box 3 (cs := _ :: _) rfl rfl rfl) ?_
  refine rs rfl w0 rfl (st_box 4 (cs := _ :: _) rfl rfl rfl) ?_
  refine pa ?_
  refine nx ?_
  refine aw_seq ?_
  refine sq [0,1,2,3,4] ?_
  refine fa tok ?_
  refine ld tok ?_
  refine fa tok ?_
  refine ld tok ?_
  refine rp rfl w0 rfl (pu_neq rfl rfl) ?_
  refine nx ?_
  refine aw_if h0 rfl (fun hc h0 => ?_) (fun hc h0 => ?_)
  refine sq [0] ?_
  refine pa ?_
  refine nx ?_
  refine aw_ret ?_
  refine then_r ?_
  cases h0
  exact ret0_ (rs := [.tmp 4]) rfl
  refine sk ?_
  refine aw_seq ?_
  refine sq [0,1,2,3,4] ?_
  refine fa tok ?_
  refine ld tok ?_
  refine fa tok ?_
  refine ld tok ?_
  refine rp rfl w0 rfl (pu_neq rfl rfl) ?_
  refine nx ?_
  refine aw_if h0 rfl (fun hc h0 => ?_) (fun hc h0 => ?_)
  refine sq [0] ?_
  refine pa ?_
  refine nx ?_
  refine aw_ret ?_
  refine then_r ?_
  cases h0
  exact ret0_ (rs := [.tmp 4]) rfl
  refine sk ?_
  refine aw_seq ?_
  refine sq [0,1,2,3,4] ?_
  refine fa tok ?_
  refine ld tok ?_
  refine fa tok ?_
  refine ld tok ?_
  refine rp rfl w0 rfl (pu_bneq tok rfl rfl rfl rfl) ?_
  refine nx ?_
  refine aw_ifB h0 rfl (fun hc h0 => ?_) (fun hc h0 => ?_)
  refine sq [0] ?_
  refine pa ?_
  refine nx ?_
  refine aw_ret ?_
  refine then_r ?_
  cases h0
  exact ret0_ (rs := [.tmp 4]) rfl
  refine sk ?_
  refine sq [0] ?_
  refine pa ?_
  refine nx ?_
  refine aw_ret ?_
  cases h0
  exact ret0_ (rs := [.tmp 4]) rfl

theorem l_eqLeapRuleS_c {p0 : List LeapRule_} {p1 : List LeapRule_} {r : Bool} (h0 : l_eqLeapRuleS_m p0 p1 = some r) : FnC Tryz.prog 143 [] [.d (.sl (List.map cLeapRule_ p0)), .d (.sl (List.map cLeapRule_ p1))] [] (.d (.v (.bool r))) := by
  refine fnc_intro (T := tt) (N := 27) tok Tryz.func143 rfl rfl (by kernel_rfl) rfl rfl ?_
  unfold l_eqLeapRuleS_m at h0
  refine sq [0] ?_
  refine pa ?_
  refine nx ?_
  refine aw_seq ?_
  refine sq [0,1,2,3,4] ?_
  refine pm ?_
  refine rp rfl w0 rfl (pu_len_map tok rfl rfl rfl) ?_
  refine pm ?_
  refine rp rfl w0 rfl (pu_len_map tok rfl rfl rfl) ?_
  refine rp rfl w0 rfl (pu_neq rfl rfl) ?_
  refine nx ?_
  refine aw_if h0 rfl (fun hc h0 => ?_) (fun hc h0 => ?_)
  refine sq [0] ?_
  refine pa ?_
  refine nx ?_
  refine aw_ret ?_
  refine then_r ?_
  cases h0
  exact ret0_ (rs := [.tmp 4]) rfl
  refine sk ?_
  obtain ⟨v9x, h1, h0⟩ := bnd h0
  refine aw_cutE v9x (fun v9 => ⟨(fun _ => .dead), lks [.no, .no, .no]⟩) ?_ ?_
  refine sq [0] ?_
  refine pa ?_
  refine nx ?_
  refine aw_block ?_
  refine aw_loopM (fun s5 => ⟨updA (updA (updA ((fun _ => .dead)) 0 (.d (.sl (List.map cLeapRule_ p0)))) 1 (.d (.sl (List.map cLeapRule_ p1)))) 5 (.d (.v (.int .i64 s5))), lks [.no, .no, .no]⟩) h1 ?_ (fun s5 y h2 => ?_)
  exact wk [0, 1, 2]
  refine aw_seq ?_
  refine sq [0,1,2,3] ?_
  refine pm ?_
  refine pm ?_
  refine rp rfl w0 rfl (pu_len_map tok rfl rfl rfl) ?_
  refine rp rfl w0 rfl (pu_lss rfl rfl) ?_
  refine nx ?_
  refine aw_if h2 rfl (fun hc h2 => ?_) (fun hc h2 => ?_)
  refine sk ?_
  refine aw_seq ?_
  refine aw_block ?_
  refine aw_seq ?_
  refine aw_region_draw (is := [0, 1, 2, 3, 4, 5, 6, 7, 8, 9]) [0, 0, 3, 7, 0, 0, 48, 112, 255, 511] follows (by kernel_rfl) ?_
  refine tpm ?_
  refine tpm ?_
  obtain ⟨v6, hv6, h2⟩ := bnd h2
  refine rt_p rfl w0 rfl (sl_ix tok hv6 rfl rfl rfl rfl rfl rfl) ?_
  refine rt_p rfl w0 rfl (pu_load_refN tok rfl rfl rfl (by repeat (first | exact SegD.z _ | apply SegD.t))) ?_
  refine tpm ?_
  refine tpm ?_
  obtain ⟨v7, hv7, h2⟩ := bnd h2
  refine rt_p rfl w0 rfl (sl_ix tok hv7 rfl rfl rfl rfl rfl rfl) ?_
  refine rt_p rfl w0 rfl (pu_load_refN tok rfl rfl rfl (by repeat (first | exact SegD.z _ | apply SegD.t))) ?_
  obtain ⟨v8, hv8, h2⟩ := bnd h2
  refine rt_c rfl w0 rfl (b_call 3 (l_eqLeapRule_c hv8) rfl rfl rfl) ?_
  refine rt_p rfl w0 rfl (pu_not rfl) ?_
  refine rt_nil ?_
  refine ⟨by kernel_rfl, ?_⟩
  refine then_n ?_
  refine aw_ifB h2 rfl (fun hc h2 => ?_) (fun hc h2 => ?_)
  refine sq [0] ?_
  refine pa ?_
  refine nx ?_
  refine aw_ret ?_
  refine block_r ?_
  refine then_r ?_
  cases h2
  refine loop_r ⟨_, rfl, fun e => ?_⟩
  subst e
  refine block_r ?_
  replace h0 := orE_s h0
  refine then_r ?_
  cases h0
  exact ret0_ (rs := [.tmp 4]) rfl
  refine aw_skip ?_
  refine block_n ?_
  refine then_n ?_
  refine sr [0,1,2] ?_
  refine pm ?_
  refine rp rfl w0 rfl (pw_add rfl rfl) ?_
  refine pa ?_
  refine ra_nil ?_
  refine loop_n ?_
  cases h2
  refine ⟨_, rfl, ?_⟩
  exact wk [0, 1, 2]
  refine aw_exit ?_
  refine then_e ?_
  cases h2
  refine loop_x ⟨_, rfl, fun e => ?_⟩
  subst e
  refine block_hit ?_
  refine then_n ?_
  refine ⟨_, rfl, ?_⟩
  exact wk [0, 1, 2]
  rintro v9 rfl
  replace h0 := orE_f h0
  refine sq [0] ?_
  refine pa ?_
  refine nx ?_
  refine aw_ret ?_
  cases h0
  exact ret0_ (rs := [.tmp 4]) rfl

theorem l_eqCalendar_c {p0 : Calendar_} {p1 : Calendar_} {r : Bool} (h0 : l_eqCalendar_m p0 p1 = some r) : FnC Tryz.prog 82 [] [.agg [.d (.v (.string p0.Name)), .d (.sl (List.map cMonth_ p0.Months)), .d (.sl (List.map cLeapRule_ p0.Rules)), .d (.v (.int .i64 p0.Week))], .agg [.d (.v (.string p1.Name)), .d (.sl (List.map cMonth_ p1.Months)), .d (.sl (List.map cLeapRule_ p1.Rules)), .d (.v (.int .i64 p1.Week))]] [] (.d (.v (.bool r))) := by
  refine fnc_intro (T := tt) (N := 27) tok Tryz.func82 rfl rfl (by kernel_rfl) rfl rfl ?_
  unfold l_eqCalendar_m at h0
  refine sq [0,1,2] ?_
  refine rs rfl w0 rfl (st_box 3 (cs := _ :: _) rfl rfl rfl) ?_
  refine rs rfl w0 rfl (st_box 4 (cs := _ :: _) rfl rfl rfl) ?_
  refine pa ?_
  refine nx ?_
  refine aw_seq ?_
  refine sq [0,1,2,3,4] ?_
  refine fa tok ?_
  refine ld tok ?_
  refine fa tok ?_
  refine ld tok ?_
  refine rp rfl w0 rfl (pu_sneq rfl rfl) ?_
  refine nx ?_
  refine aw_if h0 rfl (fun hc h0 => ?_) (fun hc h0 => ?_)
  refine sq [0] ?_
  refine pa ?_
  refine nx ?_
  refine aw_ret ?_
  refine then_r ?_
  cases h0
  exact ret0_ (rs := [.tmp 4]) rfl
  refine sk ?_
  refine aw_seq ?_
  refine sq [0,1,2,3,4,5] ?_
  refine fa tok ?_
  refine ld tok ?_
  refine fa tok ?_
  refine ld tok ?_
  obtain ⟨v1, hv1, h0⟩ := bnd h0
  refine rs rfl w0 rfl (c_call 5 (l_eqMonthS_c hv1) rfl rfl rfl) ?_
  refine rp rfl w0 rfl (pu_not rfl) ?_
  refine nx ?_
  refine aw_ifB h0 rfl (fun hc h0 => ?_) (fun hc h0 => ?_)
  refine sq [0] ?_
  refine pa ?_
  refine nx ?_
  refine aw_ret ?_
  refine then_r ?_
  cases h0
  exact ret0_ (rs := [.tmp 4]) rfl
  refine sk ?_
  refine aw_seq ?_
  refine sq [0,1,2,3,4,5] ?_
  refine fa tok ?_
  refine ld tok ?_
  refine fa tok ?_
  refine ld tok ?_
  obtain ⟨v2, hv2, h0⟩ := bnd h0
  refine rs rfl w0 rfl (c_call 5 (l_eqLeapRuleS_c hv2) rfl rfl rfl) ?_
  refine rp rfl w0 rfl (pu_not rfl) ?_
  refine nx ?_
  refine aw_ifB h0 rfl (fun hc h0 => ?_) (fun hc h0 => ?_)
  refine sq [0] ?_
  refine pa ?_
  refine nx ?_
  refine aw_ret ?_
  refine then_r ?_
  cases h0
  exact ret0_ (rs := [.tmp 4]) rfl
  refine sk ?_
  refine aw_seq ?_
  refine sq [0,1,2,3,4] ?_
  refine fa tok ?_
  refine ld tok ?_
  refine fa tok ?_
  refine ld tok ?_
  refine rp rfl w0 rfl (pu_neq rfl rfl) ?_
  refine nx ?_
  refine aw_if h0 rfl (fun hc h0 => ?_) (fun hc h0 => ?_)
  refine sq [0] ?_
  refine pa ?_
  refine nx ?_
  refine aw_ret ?_
  refine then_r ?_
  cases h0
  exact ret0_ (rs := [.tmp 4]) rfl
  refine sk ?_
  refine sq [0] ?_
  refine pa ?_
  refine nx ?_
  refine aw_ret ?_
  cases h0
  exact ret0_ (rs := [.tmp 4]) rfl

theorem l_eqMovement_c {p0 : Movement_} {p1 : Movement_} {r : Bool} (h0 : l_eqMovement_m p0 p1 = some r) : FnC Tryz.prog 40 [] [.agg [.d (.v (.string p0.Name)), .d (.sl (List.map cArbor_ p0.Works.Arbors)), .d (.sl (List.map cMesh_ p0.Works.Meshes)), .d (.v (.int .i64 p0.Minute)), .d (.v (.int .i64 p0.Hour)), .d (.v (.int .i64 p0.Escape)), .d (.v (.int .i64 p0.Teeth)), .d (.v (.int .i64 p0.Beats)), .d (.v (.string p0.Calendar.Name)), .d (.sl (List.map cMonth_ p0.Calendar.Months)), .d (.sl (List.map cLeapRule_ p0.Calendar.Rules)), .d (.v (.int .i64 p0.Calendar.Week)), .d (.sl (List.map cI p0.Cam)), .d (.v (.int .i64 p0.Strike))], .agg [.d (.v (.string p1.Name)), .d (.sl (List.map cArbor_ p1.Works.Arbors)), .d (.sl (List.map cMesh_ p1.Works.Meshes)), .d (.v (.int .i64 p1.Minute)), .d (.v (.int .i64 p1.Hour)), .d (.v (.int .i64 p1.Escape)), .d (.v (.int .i64 p1.Teeth)), .d (.v (.int .i64 p1.Beats)), .d (.v (.string p1.Calendar.Name)), .d (.sl (List.map cMonth_ p1.Calendar.Months)), .d (.sl (List.map cLeapRule_ p1.Calendar.Rules)), .d (.v (.int .i64 p1.Calendar.Week)), .d (.sl (List.map cI p1.Cam)), .d (.v (.int .i64 p1.Strike))]] [] (.d (.v (.bool r))) := by
  refine fnc_intro (T := tt) (N := 58) tok Tryz.func40 rfl rfl (by kernel_rfl) rfl rfl ?_
  unfold l_eqMovement_m at h0
  refine sq [0,1,2] ?_
  refine rs rfl w0 rfl (st_box 3 (cs := _ :: _) rfl rfl rfl) ?_
  refine rs rfl w0 rfl (st_box 4 (cs := _ :: _) rfl rfl rfl) ?_
  refine pa ?_
  refine nx ?_
  refine aw_seq ?_
  refine sq [0,1,2,3,4] ?_
  refine fa tok ?_
  refine ld tok ?_
  refine fa tok ?_
  refine ld tok ?_
  refine rp rfl w0 rfl (pu_sneq rfl rfl) ?_
  refine nx ?_
  refine aw_if h0 rfl (fun hc h0 => ?_) (fun hc h0 => ?_)
  refine sq [0] ?_
  refine pa ?_
  refine nx ?_
  refine aw_ret ?_
  refine then_r ?_
  cases h0
  exact ret0_ (rs := [.tmp 4]) rfl
  refine sk ?_
  refine aw_seq ?_
  refine sq [0,1,2,3,4,5] ?_
  refine fa tok ?_
  refine rl rfl w0 rfl (bx_ldN tok rfl rfl rfl rfl) ?_
  refine fa tok ?_
  refine rl rfl w0 rfl (bx_ldN tok rfl rfl rfl rfl) ?_
  obtain ⟨v1, hv1, h0⟩ := bnd h0
  refine rs rfl w0 rfl (c_call 5 (l_eqWorks_c hv1) rfl rfl rfl) ?_
  refine rp rfl w0 rfl (pu_not rfl) ?_
  refine nx ?_
  refine aw_ifB h0 rfl (fun hc h0 => ?_) (fun hc h0 => ?_)
  refine sq [0] ?_
  refine pa ?_
  refine nx ?_
  refine aw_ret ?_
  refine then_r ?_
  cases h0
  exact ret0_ (rs := [.tmp 4]) rfl
  refine sk ?_
  refine aw_seq ?_
  refine sq [0,1,2,3,4] ?_
  refine fa tok ?_
  refine ld tok ?_
  refine fa tok ?_
  refine ld tok ?_
  refine rp rfl w0 rfl (pu_neq rfl rfl) ?_
  refine nx ?_
  refine aw_if h0 rfl (fun hc h0 => ?_) (fun hc h0 => ?_)
  refine sq [0] ?_
  refine pa ?_
  refine nx ?_
  refine aw_ret ?_
  refine then_r ?_
  cases h0
  exact ret0_ (rs := [.tmp 4]) rfl
  refine sk ?_
  refine aw_seq ?_
  refine sq [0,1,2,3,4] ?_
  refine fa tok ?_
  refine ld tok ?_
  refine fa tok ?_
  refine ld tok ?_
  refine rp rfl w0 rfl (pu_neq rfl rfl) ?_
  refine nx ?_
  refine aw_if h0 rfl (fun hc h0 => ?_) (fun hc h0 => ?_)
  refine sq [0] ?_
  refine pa ?_
  refine nx ?_
  refine aw_ret ?_
  refine then_r ?_
  cases h0
  exact ret0_ (rs := [.tmp 4]) rfl
  refine sk ?_
  refine aw_seq ?_
  refine sq [0,1,2,3,4] ?_
  refine fa tok ?_
  refine ld tok ?_
  refine fa tok ?_
  refine ld tok ?_
  refine rp rfl w0 rfl (pu_neq rfl rfl) ?_
  refine nx ?_
  refine aw_if h0 rfl (fun hc h0 => ?_) (fun hc h0 => ?_)
  refine sq [0] ?_
  refine pa ?_
  refine nx ?_
  refine aw_ret ?_
  refine then_r ?_
  cases h0
  exact ret0_ (rs := [.tmp 4]) rfl
  refine sk ?_
  refine aw_seq ?_
  refine sq [0,1,2,3,4] ?_
  refine fa tok ?_
  refine ld tok ?_
  refine fa tok ?_
  refine ld tok ?_
  refine rp rfl w0 rfl (pu_neq rfl rfl) ?_
  refine nx ?_
  refine aw_if h0 rfl (fun hc h0 => ?_) (fun hc h0 => ?_)
  refine sq [0] ?_
  refine pa ?_
  refine nx ?_
  refine aw_ret ?_
  refine then_r ?_
  cases h0
  exact ret0_ (rs := [.tmp 4]) rfl
  refine sk ?_
  refine aw_seq ?_
  refine sq [0,1,2,3,4] ?_
  refine fa tok ?_
  refine ld tok ?_
  refine fa tok ?_
  refine ld tok ?_
  refine rp rfl w0 rfl (pu_neq rfl rfl) ?_
  refine nx ?_
  refine aw_if h0 rfl (fun hc h0 => ?_) (fun hc h0 => ?_)
  refine sq [0] ?_
  refine pa ?_
  refine nx ?_
  refine aw_ret ?_
  refine then_r ?_
  cases h0
  exact ret0_ (rs := [.tmp 4]) rfl
  refine sk ?_
  refine aw_seq ?_
  refine sq [0,1,2,3,4,5] ?_
  refine fa tok ?_
  refine rl rfl w0 rfl (bx_ldN tok rfl rfl rfl rfl) ?_
  refine fa tok ?_
  refine rl rfl w0 rfl (bx_ldN tok rfl rfl rfl rfl) ?_
  obtain ⟨v2, hv2, h0⟩ := bnd h0
  refine rs rfl w0 rfl (c_call 5 (l_eqCalendar_c hv2) rfl rfl rfl) ?_
  refine rp rfl w0 rfl (pu_not rfl) ?_
  refine nx ?_
  refine aw_ifB h0 rfl (fun hc h0 => ?_) (fun hc h0 => ?_)
  refine sq [0] ?_
  refine pa ?_
  refine nx ?_
  refine aw_ret ?_
  refine then_r ?_
  cases h0
  exact ret0_ (rs := [.tmp 4]) rfl
  refine sk ?_
  refine aw_seq ?_
  refine sq [0,1,2,3,4,5] ?_
  refine fa tok ?_
  refine ld tok ?_
  refine fa tok ?_
  refine ld tok ?_
  obtain ⟨v3, hv3, h0⟩ := bnd h0
  refine rs rfl w0 rfl (c_call 5 (l_eqInt64S_c hv3) rfl rfl rfl) ?_
  refine rp rfl w0 rfl (pu_not rfl) ?_
  refine nx ?_
  refine aw_ifB h0 rfl (fun hc h0 => ?_) (fun hc h0 => ?_)
  refine sq [0] ?_
  refine pa ?_
  refine nx ?_
  refine aw_ret ?_
  refine then_r ?_
  cases h0
  exact ret0_ (rs := [.tmp 4]) rfl
  refine sk ?_
  refine aw_seq ?_
  refine sq [0,1,2,3,4] ?_
  refine fa tok ?_
  refine ld tok ?_
  refine fa tok ?_
  refine ld tok ?_
  refine rp rfl w0 rfl (pu_neq rfl rfl) ?_
  refine nx ?_
  refine aw_if h0 rfl (fun hc h0 => ?_) (fun hc h0 => ?_)
  refine sq [0] ?_
  refine pa ?_
  refine nx ?_
  refine aw_ret ?_
  refine then_r ?_
  cases h0
  exact ret0_ (rs := [.tmp 4]) rfl
  refine sk ?_
  refine sq [0] ?_
  refine pa ?_
  refine nx ?_
  refine aw_ret ?_
  cases h0
  exact ret0_ (rs := [.tmp 4]) rfl

theorem l_eqDate_c {p0 : Date_} {p1 : Date_} {r : Bool} (h0 : l_eqDate_m p0 p1 = some r) : FnC Tryz.prog 41 [] [.agg [.d (.v (.int .i64 p0.Year)), .d (.v (.int .i64 p0.Month)), .d (.v (.int .i64 p0.Day))], .agg [.d (.v (.int .i64 p1.Year)), .d (.v (.int .i64 p1.Month)), .d (.v (.int .i64 p1.Day))]] [] (.d (.v (.bool r))) := by
  refine fnc_intro (T := tt) (N := 20) tok Tryz.func41 rfl rfl (by kernel_rfl) rfl rfl ?_
  unfold l_eqDate_m at h0
  refine sq [0,1,2] ?_
  refine rs rfl w0 rfl (st_box 3 (cs := _ :: _) rfl rfl rfl) ?_
  refine rs rfl w0 rfl (st_box 4 (cs := _ :: _) rfl rfl rfl) ?_
  refine pa ?_
  refine nx ?_
  refine aw_seq ?_
  refine sq [0,1,2,3,4] ?_
  refine fa tok ?_
  refine ld tok ?_
  refine fa tok ?_
  refine ld tok ?_
  refine rp rfl w0 rfl (pu_neq rfl rfl) ?_
  refine nx ?_
  refine aw_if h0 rfl (fun hc h0 => ?_) (fun hc h0 => ?_)
  refine sq [0] ?_
  refine pa ?_
  refine nx ?_
  refine aw_ret ?_
  refine then_r ?_
  cases h0
  exact ret0_ (rs := [.tmp 4]) rfl
  refine sk ?_
  refine aw_seq ?_
  refine sq [0,1,2,3,4] ?_
  refine fa tok ?_
  refine ld tok ?_
  refine fa tok ?_
  refine ld tok ?_
  refine rp rfl w0 rfl (pu_neq rfl rfl) ?_
  refine nx ?_
  refine aw_if h0 rfl (fun hc h0 => ?_) (fun hc h0 => ?_)
  refine sq [0] ?_
  refine pa ?_
  refine nx ?_
  refine aw_ret ?_
  refine then_r ?_
  cases h0
  exact ret0_ (rs := [.tmp 4]) rfl
  refine sk ?_
  refine aw_seq ?_
  refine sq [0,1,2,3,4] ?_
  refine fa tok ?_
  refine ld tok ?_
  refine fa tok ?_
  refine ld tok ?_
  refine rp rfl w0 rfl (pu_neq rfl rfl) ?_
  refine nx ?_
  refine aw_if h0 rfl (fun hc h0 => ?_) (fun hc h0 => ?_)
  refine sq [0] ?_
  refine pa ?_
  refine nx ?_
  refine aw_ret ?_
  refine then_r ?_
  cases h0
  exact ret0_ (rs := [.tmp 4]) rfl
  refine sk ?_
  refine sq [0] ?_
  refine pa ?_
  refine nx ?_
  refine aw_ret ?_
  cases h0
  exact ret0_ (rs := [.tmp 4]) rfl

theorem l_eqPerpetual_c {p0 : Perpetual_} {p1 : Perpetual_} {r : Bool} (h0 : l_eqPerpetual_m p0 p1 = some r) : FnC Tryz.prog 42 [] [.agg [.d (.sl (List.map cI p0.Cam)), .d (.v (.int .i64 p0.Months)), .d (.v (.int .i64 p0.Teeth)), .d (.v (.int .i64 p0.At)), .d (.v (.int .i64 p0.Day)), .d (.v (.int .i64 p0.Week)), .d (.v (.int .i64 p0.Weekday))], .agg [.d (.sl (List.map cI p1.Cam)), .d (.v (.int .i64 p1.Months)), .d (.v (.int .i64 p1.Teeth)), .d (.v (.int .i64 p1.At)), .d (.v (.int .i64 p1.Day)), .d (.v (.int .i64 p1.Week)), .d (.v (.int .i64 p1.Weekday))]] [] (.d (.v (.bool r))) := by
  refine fnc_intro (T := tt) (N := 41) tok Tryz.func42 rfl rfl (by kernel_rfl) rfl rfl ?_
  unfold l_eqPerpetual_m at h0
  refine sq [0,1,2] ?_
  refine rs rfl w0 rfl (st_box 3 (cs := _ :: _) rfl rfl rfl) ?_
  refine rs rfl w0 rfl (st_box 4 (cs := _ :: _) rfl rfl rfl) ?_
  refine pa ?_
  refine nx ?_
  refine aw_seq ?_
  refine sq [0,1,2,3,4,5] ?_
  refine fa tok ?_
  refine ld tok ?_
  refine fa tok ?_
  refine ld tok ?_
  obtain ⟨v1, hv1, h0⟩ := bnd h0
  refine rs rfl w0 rfl (c_call 5 (l_eqInt64S_c hv1) rfl rfl rfl) ?_
  refine rp rfl w0 rfl (pu_not rfl) ?_
  refine nx ?_
  refine aw_ifB h0 rfl (fun hc h0 => ?_) (fun hc h0 => ?_)
  refine sq [0] ?_
  refine pa ?_
  refine nx ?_
  refine aw_ret ?_
  refine then_r ?_
  cases h0
  exact ret0_ (rs := [.tmp 4]) rfl
  refine sk ?_
  refine aw_seq ?_
  refine sq [0,1,2,3,4] ?_
  refine fa tok ?_
  refine ld tok ?_
  refine fa tok ?_
  refine ld tok ?_
  refine rp rfl w0 rfl (pu_neq rfl rfl) ?_
  refine nx ?_
  refine aw_if h0 rfl (fun hc h0 => ?_) (fun hc h0 => ?_)
  refine sq [0] ?_
  refine pa ?_
  refine nx ?_
  refine aw_ret ?_
  refine then_r ?_
  cases h0
  exact ret0_ (rs := [.tmp 4]) rfl
  refine sk ?_
  refine aw_seq ?_
  refine sq [0,1,2,3,4] ?_
  refine fa tok ?_
  refine ld tok ?_
  refine fa tok ?_
  refine ld tok ?_
  refine rp rfl w0 rfl (pu_neq rfl rfl) ?_
  refine nx ?_
  refine aw_if h0 rfl (fun hc h0 => ?_) (fun hc h0 => ?_)
  refine sq [0] ?_
  refine pa ?_
  refine nx ?_
  refine aw_ret ?_
  refine then_r ?_
  cases h0
  exact ret0_ (rs := [.tmp 4]) rfl
  refine sk ?_
  refine aw_seq ?_
  refine sq [0,1,2,3,4] ?_
  refine fa tok ?_
  refine ld tok ?_
  refine fa tok ?_
  refine ld tok ?_
  refine rp rfl w0 rfl (pu_neq rfl rfl) ?_
  refine nx ?_
  refine aw_if h0 rfl (fun hc h0 => ?_) (fun hc h0 => ?_)
  refine sq [0] ?_
  refine pa ?_
  refine nx ?_
  refine aw_ret ?_
  refine then_r ?_
  cases h0
  exact ret0_ (rs := [.tmp 4]) rfl
  refine sk ?_
  refine aw_seq ?_
  refine sq [0,1,2,3,4] ?_
  refine fa tok ?_
  refine ld tok ?_
  refine fa tok ?_
  refine ld tok ?_
  refine rp rfl w0 rfl (pu_neq rfl rfl) ?_
  refine nx ?_
  refine aw_if h0 rfl (fun hc h0 => ?_) (fun hc h0 => ?_)
  refine sq [0] ?_
  refine pa ?_
  refine nx ?_
  refine aw_ret ?_
  refine then_r ?_
  cases h0
  exact ret0_ (rs := [.tmp 4]) rfl
  refine sk ?_
  refine aw_seq ?_
  refine sq [0,1,2,3,4] ?_
  refine fa tok ?_
  refine ld tok ?_
  refine fa tok ?_
  refine ld tok ?_
  refine rp rfl w0 rfl (pu_neq rfl rfl) ?_
  refine nx ?_
  refine aw_if h0 rfl (fun hc h0 => ?_) (fun hc h0 => ?_)
  refine sq [0] ?_
  refine pa ?_
  refine nx ?_
  refine aw_ret ?_
  refine then_r ?_
  cases h0
  exact ret0_ (rs := [.tmp 4]) rfl
  refine sk ?_
  refine aw_seq ?_
  refine sq [0,1,2,3,4] ?_
  refine fa tok ?_
  refine ld tok ?_
  refine fa tok ?_
  refine ld tok ?_
  refine rp rfl w0 rfl (pu_neq rfl rfl) ?_
  refine nx ?_
  refine aw_if h0 rfl (fun hc h0 => ?_) (fun hc h0 => ?_)
  refine sq [0] ?_
  refine pa ?_
  refine nx ?_
  refine aw_ret ?_
  refine then_r ?_
  cases h0
  exact ret0_ (rs := [.tmp 4]) rfl
  refine sk ?_
  refine sq [0] ?_
  refine pa ?_
  refine nx ?_
  refine aw_ret ?_
  cases h0
  exact ret0_ (rs := [.tmp 4]) rfl

theorem l_eqSim_c {p0 : Sim_} {p1 : Sim_} {r : Bool} (h0 : l_eqSim_m p0 p1 = some r) : FnC Tryz.prog 11 [] [.agg [.d (.v (.string p0.Movement.Name)), .d (.sl (List.map cArbor_ p0.Movement.Works.Arbors)), .d (.sl (List.map cMesh_ p0.Movement.Works.Meshes)), .d (.v (.int .i64 p0.Movement.Minute)), .d (.v (.int .i64 p0.Movement.Hour)), .d (.v (.int .i64 p0.Movement.Escape)), .d (.v (.int .i64 p0.Movement.Teeth)), .d (.v (.int .i64 p0.Movement.Beats)), .d (.v (.string p0.Movement.Calendar.Name)), .d (.sl (List.map cMonth_ p0.Movement.Calendar.Months)), .d (.sl (List.map cLeapRule_ p0.Movement.Calendar.Rules)), .d (.v (.int .i64 p0.Movement.Calendar.Week)), .d (.sl (List.map cI p0.Movement.Cam)), .d (.v (.int .i64 p0.Movement.Strike)), .d (.v (.int .i64 p0.Start.Year)), .d (.v (.int .i64 p0.Start.Month)), .d (.v (.int .i64 p0.Start.Day)), .d (.v (.int .i64 p0.First)), .d (.v (.int .i64 p0.Clock)), .d (.sl (List.map cI p0.Dial.Cam)), .d (.v (.int .i64 p0.Dial.Months)), .d (.v (.int .i64 p0.Dial.Teeth)), .d (.v (.int .i64 p0.Dial.At)), .d (.v (.int .i64 p0.Dial.Day)), .d (.v (.int .i64 p0.Dial.Week)), .d (.v (.int .i64 p0.Dial.Weekday))], .agg [.d (.v (.string p1.Movement.Name)), .d (.sl (List.map cArbor_ p1.Movement.Works.Arbors)), .d (.sl (List.map cMesh_ p1.Movement.Works.Meshes)), .d (.v (.int .i64 p1.Movement.Minute)), .d (.v (.int .i64 p1.Movement.Hour)), .d (.v (.int .i64 p1.Movement.Escape)), .d (.v (.int .i64 p1.Movement.Teeth)), .d (.v (.int .i64 p1.Movement.Beats)), .d (.v (.string p1.Movement.Calendar.Name)), .d (.sl (List.map cMonth_ p1.Movement.Calendar.Months)), .d (.sl (List.map cLeapRule_ p1.Movement.Calendar.Rules)), .d (.v (.int .i64 p1.Movement.Calendar.Week)), .d (.sl (List.map cI p1.Movement.Cam)), .d (.v (.int .i64 p1.Movement.Strike)), .d (.v (.int .i64 p1.Start.Year)), .d (.v (.int .i64 p1.Start.Month)), .d (.v (.int .i64 p1.Start.Day)), .d (.v (.int .i64 p1.First)), .d (.v (.int .i64 p1.Clock)), .d (.sl (List.map cI p1.Dial.Cam)), .d (.v (.int .i64 p1.Dial.Months)), .d (.v (.int .i64 p1.Dial.Teeth)), .d (.v (.int .i64 p1.Dial.At)), .d (.v (.int .i64 p1.Dial.Day)), .d (.v (.int .i64 p1.Dial.Week)), .d (.v (.int .i64 p1.Dial.Weekday))]] [] (.d (.v (.bool r))) := by
  refine fnc_intro (T := tt) (N := 33) tok Tryz.func11 rfl rfl (by kernel_rfl) rfl rfl ?_
  unfold l_eqSim_m at h0
  refine sq [0,1,2] ?_
  refine rs rfl w0 rfl (st_box 3 (cs := _ :: _) rfl rfl rfl) ?_
  refine rs rfl w0 rfl (st_box 4 (cs := _ :: _) rfl rfl rfl) ?_
  refine pa ?_
  refine nx ?_
  refine aw_seq ?_
  refine sq [0,1,2,3,4,5] ?_
  refine fa tok ?_
  refine rl rfl w0 rfl (bx_ldN tok rfl rfl rfl rfl) ?_
  refine fa tok ?_
  refine rl rfl w0 rfl (bx_ldN tok rfl rfl rfl rfl) ?_
  obtain ⟨v1, hv1, h0⟩ := bnd h0
  refine rs rfl w0 rfl (c_call 5 (l_eqMovement_c hv1) rfl rfl rfl) ?_
  refine rp rfl w0 rfl (pu_not rfl) ?_
  refine nx ?_
  refine aw_ifB h0 rfl (fun hc h0 => ?_) (fun hc h0 => ?_)
  refine sq [0] ?_
  refine pa ?_
  refine nx ?_
  refine aw_ret ?_
  refine then_r ?_
  cases h0
  exact ret0_ (rs := [.tmp 4]) rfl
  refine sk ?_
  refine aw_seq ?_
  refine sq [0,1,2,3,4,5] ?_
  refine fa tok ?_
  refine rl rfl w0 rfl (bx_ldN tok rfl rfl rfl rfl) ?_
  refine fa tok ?_
  refine rl rfl w0 rfl (bx_ldN tok rfl rfl rfl rfl) ?_
  obtain ⟨v2, hv2, h0⟩ := bnd h0
  refine rs rfl w0 rfl (c_call 5 (l_eqDate_c hv2) rfl rfl rfl) ?_
  refine rp rfl w0 rfl (pu_not rfl) ?_
  refine nx ?_
  refine aw_ifB h0 rfl (fun hc h0 => ?_) (fun hc h0 => ?_)
  refine sq [0] ?_
  refine pa ?_
  refine nx ?_
  refine aw_ret ?_
  refine then_r ?_
  cases h0
  exact ret0_ (rs := [.tmp 4]) rfl
  refine sk ?_
  refine aw_seq ?_
  refine sq [0,1,2,3,4] ?_
  refine fa tok ?_
  refine ld tok ?_
  refine fa tok ?_
  refine ld tok ?_
  refine rp rfl w0 rfl (pu_neq rfl rfl) ?_
  refine nx ?_
  refine aw_if h0 rfl (fun hc h0 => ?_) (fun hc h0 => ?_)
  refine sq [0] ?_
  refine pa ?_
  refine nx ?_
  refine aw_ret ?_
  refine then_r ?_
  cases h0
  exact ret0_ (rs := [.tmp 4]) rfl
  refine sk ?_
  refine aw_seq ?_
  refine sq [0,1,2,3,4] ?_
  refine fa tok ?_
  refine ld tok ?_
  refine fa tok ?_
  refine ld tok ?_
  refine rp rfl w0 rfl (pu_neq rfl rfl) ?_
  refine nx ?_
  refine aw_if h0 rfl (fun hc h0 => ?_) (fun hc h0 => ?_)
  refine sq [0] ?_
  refine pa ?_
  refine nx ?_
  refine aw_ret ?_
  refine then_r ?_
  cases h0
  exact ret0_ (rs := [.tmp 4]) rfl
  refine sk ?_
  refine aw_seq ?_
  refine sq [0,1,2,3,4,5] ?_
  refine fa tok ?_
  refine rl rfl w0 rfl (bx_ldN tok rfl rfl rfl rfl) ?_
  refine fa tok ?_
  refine rl rfl w0 rfl (bx_ldN tok rfl rfl rfl rfl) ?_
  obtain ⟨v3, hv3, h0⟩ := bnd h0
  refine rs rfl w0 rfl (c_call 5 (l_eqPerpetual_c hv3) rfl rfl rfl) ?_
  refine rp rfl w0 rfl (pu_not rfl) ?_
  refine nx ?_
  refine aw_ifB h0 rfl (fun hc h0 => ?_) (fun hc h0 => ?_)
  refine sq [0] ?_
  refine pa ?_
  refine nx ?_
  refine aw_ret ?_
  refine then_r ?_
  cases h0
  exact ret0_ (rs := [.tmp 4]) rfl
  refine sk ?_
  refine sq [0] ?_
  refine pa ?_
  refine nx ?_
  refine aw_ret ?_
  cases h0
  exact ret0_ (rs := [.tmp 4]) rfl

theorem l_markText_c {p0 : Int} {r : ByteArray} (h0 : l_markText_m p0 = some r) : FnC Tryz.prog 206 [] [.d (.v (.int .i64 p0))] [] (.d (.v (.string r))) := by
  refine fnc_intro (T := tt) (N := 20) tok Tryz.func206 rfl rfl (by kernel_rfl) rfl rfl ?_
  unfold l_markText_m at h0
  refine sq [0] ?_
  refine pa ?_
  refine nx ?_
  refine aw_seq ?_
  refine sq [0,1] ?_
  refine pm ?_
  refine rp rfl w0 rfl (pu_leq rfl rfl) ?_
  refine nx ?_
  refine aw_if h0 rfl (fun hc h0 => ?_) (fun hc h0 => ?_)
  refine sq [0] ?_
  refine pa ?_
  refine nx ?_
  refine aw_ret ?_
  refine then_r ?_
  cases h0
  exact ret0_ (rs := [.tmp 2]) rfl
  refine sk ?_
  refine sq [0] ?_
  refine pa ?_
  refine nx ?_
  obtain ⟨v9, h1, h0⟩ := bnd h0
  refine aw_cut ⟨updA ((fun _ => .dead)) 3 (.d (.v (.string v9))), lks [.no, .no, .no]⟩ ?_ ?_
  refine aw_block ?_
  refine aw_loopM (fun s5 => ⟨updA (updA ((fun _ => .dead)) 0 (.d (.v (.int .i64 s5.1)))) 3 (.d (.v (.string s5.2))), lks [.no, .no, .no]⟩) h1 ?_ (fun s5 y h2 => ?_)
  exact wk [0, 1, 2]
  refine aw_seq ?_
  refine sq [0,1] ?_
  refine pm ?_
  refine rp rfl w0 rfl (pu_gtr rfl rfl) ?_
  refine nx ?_
  refine aw_if h2 rfl (fun hc h2 => ?_) (fun hc h2 => ?_)
  refine sk ?_
  refine aw_block ?_
  refine sq [0,1,2,3,4,5,6,7,8] ?_
  refine pm ?_
  refine rp rfl w0 rfl (pu_remw rfl rfl (by decide)) ?_
  refine rp rfl w0 rfl (pw_add rfl rfl) ?_
  refine rp rfl w0 rfl (pu_ii tok rfl rfl rfl rfl rfl) ?_
  refine rs rfl w0 rfl (bs_own 3 tok cU8 [IntKind.u8.wrap (w64 (48 + (s5.1.tmod 10)))] rfl rfl rfl (by repeat (first | exact Els.nil _ | apply Els.cons (cs := [.d _]) rfl rfl rfl | apply Els.cons (cs := _ :: _) rfl rfl rfl)) rfl rfl rfl (by repeat (first | exact AllDD.nil | (apply AllDD.cons; (repeat (first | exact AllD.nil | apply AllD.cons))))) rfl rfl) ?_
  refine rs rfl w0 rfl (cv_bo tok rfl rfl rfl rfl rfl rfl rfl rfl rfl rfl) ?_
  refine pm ?_
  obtain ⟨hq7, h2⟩ := chk_e h2
  refine rp rfl w0 rfl (pu_cat rfl rfl hq7) ?_
  refine pa ?_
  refine nx ?_
  refine sr [0,1,2] ?_
  refine pm ?_
  refine rp rfl w0 rfl (pw_quo rfl rfl (by decide)) ?_
  refine pa ?_
  refine ra_nil ?_
  refine block_n ?_
  refine loop_n ?_
  cases h2
  refine ⟨_, rfl, ?_⟩
  exact wk [0, 1, 2]
  refine aw_exit ?_
  refine then_e ?_
  cases h2
  refine loop_x ⟨_, rfl, fun e => ?_⟩
  subst e
  refine block_hit ?_
  refine then_n ?_
  exact wk [0, 1, 2]
  refine sq [0,1,2] ?_
  refine pm ?_
  obtain ⟨hq10, h0⟩ := chk_e h0
  refine rp rfl w0 rfl (pu_cat rfl rfl hq10) ?_
  refine pa ?_
  refine nx ?_
  refine aw_ret ?_
  cases h0
  exact ret0_ (rs := [.tmp 2]) rfl

theorem l_markInt64S_o_c {p0 : List Int} {p1 : Int} {r : Int × List Int} (h0 : l_markInt64S_o_m p0 p1 = some r) : FnC Tryz.prog 86 [.live [⟨2, 1, .data (List.map cI p0)⟩]] [.own 0 0 (p0).length, .d (.v (.int .i64 p1))] [.live [⟨2, 1, .data (List.map cI r.2)⟩]] (.d (.v (.int .i64 r.1))) := by
  refine fnc_intro (T := tt) (N := 19) tok Tryz.func86 rfl rfl (by kernel_rfl) rfl rfl ?_
  unfold l_markInt64S_o_m at h0
  refine sq [0] ?_
  refine pa ?_
  refine nx ?_
  obtain ⟨v5, h1, h0⟩ := bnd h0
  refine aw_cut ⟨updA ((fun _ => .dead)) 1 (.d (.v (.int .i64 v5.1))), lks [.live [⟨2, 1, .data (List.map cI v5.2)⟩], .no, .no]⟩ ?_ ?_
  refine sq [0] ?_
  refine pa ?_
  refine nx ?_
  refine aw_block ?_
  refine aw_loopM (fun s3 => ⟨updA (updA (updA ((fun _ => .dead)) 0 (.own 0 0 (s3.2.2).length)) 1 (.d (.v (.int .i64 s3.1)))) 5 (.d (.v (.int .i64 s3.2.1))), lks [.live [⟨2, 1, .data (List.map cI s3.2.2)⟩], .no, .no]⟩) h1 ?_ (fun s3 y h2 => ?_)
  exact wk [0, 1, 2]
  refine aw_seq ?_
  refine sq [0,1,2,3] ?_
  refine pm ?_
  refine rp rfl w0 rfl (pu_move (r := .own _ _ _) rfl) ?_
  refine rl rfl w0 rfl (ow_len tok rfl rfl rfl rfl rfl) ?_
  refine rp rfl w0 rfl (pu_lss rfl rfl) ?_
  refine nx ?_
  refine aw_if h2 rfl (fun hc h2 => ?_) (fun hc h2 => ?_)
  refine sk ?_
  refine aw_seq ?_
  refine aw_block ?_
  refine sq [0,1,2,3,4] ?_
  refine rp rfl w0 rfl (pu_move (r := .own _ _ _) rfl) ?_
  refine pm ?_
  refine pm ?_
  obtain ⟨v4, hv4, h2⟩ := bnd h2
  refine rl rfl w0 rfl (ow_ix tok hv4 rfl rfl rfl rfl rfl rfl rfl rfl) ?_
  refine rw0 rfl w0 (rw_st (cs := [.d _]) tok s3.1 (atI_e hv4).2.1 rfl rfl rfl rfl rfl rfl rfl rfl) ?_
  refine nx ?_
  refine sr [0,1,2] ?_
  refine pm ?_
  refine rp rfl w0 rfl (pw_add rfl rfl) ?_
  refine pa ?_
  refine ra_nil ?_
  refine block_n ?_
  refine then_n ?_
  refine sr [0,1,2] ?_
  refine pm ?_
  refine rp rfl w0 rfl (pw_add rfl rfl) ?_
  refine pa ?_
  refine ra_nil ?_
  refine loop_n ?_
  cases h2
  refine ⟨_, rfl, ?_⟩
  exact wk [0, 1, 2]
  refine aw_exit ?_
  refine then_e ?_
  cases h2
  refine loop_x ⟨_, rfl, fun e => ?_⟩
  subst e
  refine block_hit ?_
  refine then_n ?_
  exact wk [0, 1, 2]
  refine sq [0,1] ?_
  refine pm ?_
  refine pa ?_
  refine nx ?_
  refine aw_ret ?_
  cases h0
  exact retP_ (rs := [.tmp 4]) 1 rfl rfl

theorem l_markArborS_o_c {p0 : List Arbor_} {p1 : Int} {r : Int × List Arbor_} (h0 : l_markArborS_o_m p0 p1 = some r) : FnC Tryz.prog 144 [.live [⟨213, 2, .av (nestL 1 cArbor_ p0)⟩], .live (famL 2 1 cArbor_ p0)] [.own 0 0 (p0).length, .d (.v (.int .i64 p1))] [.live [⟨213, 2, .av (nestL 1 cArbor_ r.2)⟩], .live (famL 2 1 cArbor_ r.2)] (.d (.v (.int .i64 r.1))) := by
  refine fnc_intro (T := tt) (N := 28) tok Tryz.func144 rfl rfl (by kernel_rfl) rfl rfl ?_
  unfold l_markArborS_o_m at h0
  refine sq [0] ?_
  refine pa ?_
  refine nx ?_
  obtain ⟨v13, h1, h0⟩ := bnd h0
  refine aw_cut ⟨updA ((fun _ => .dead)) 1 (.d (.v (.int .i64 v13.1))), lks [.live [⟨213, 2, .av (nestL 1 cArbor_ v13.2)⟩], .live (famL 2 1 cArbor_ v13.2), .no]⟩ ?_ ?_
  refine sq [0] ?_
  refine pa ?_
  refine nx ?_
  refine aw_block ?_
  refine aw_loopM (fun s7 => ⟨updA (updA (updA ((fun _ => .dead)) 0 (.own 0 0 (s7.2.2).length)) 1 (.d (.v (.int .i64 s7.1)))) 5 (.d (.v (.int .i64 s7.2.1))), lks [.live [⟨213, 2, .av (nestL 1 cArbor_ s7.2.2)⟩], .live (famL 2 1 cArbor_ s7.2.2), .no]⟩) h1 ?_ (fun s7 y h2 => ?_)
  exact wk [0, 1, 2]
  refine aw_seq ?_
  refine sq [0,1,2,3] ?_
  refine pm ?_
  refine rp rfl w0 rfl (pu_move (r := .own _ _ _) rfl) ?_
  refine rl rfl w0 rfl (nst_len tok rfl rfl rfl rfl rfl) ?_
  refine rp rfl w0 rfl (pu_lss rfl rfl) ?_
  refine nx ?_
  refine aw_if h2 rfl (fun hc h2 => ?_) (fun hc h2 => ?_)
  refine sk ?_
  refine aw_seq ?_
  refine aw_block ?_
  refine sq [0,1,2,3,4,5,6] ?_
  refine rp rfl w0 rfl (pu_move (r := .own _ _ _) rfl) ?_
  refine pm ?_
  refine pm ?_
  obtain ⟨v8, hv8, h2⟩ := bnd h2
  refine rs rfl w0 rfl (c_call 3 (l_markText_c hv8) rfl rfl rfl) ?_
  obtain ⟨v9, hv9, h2⟩ := bnd h2
  refine rl rfl w0 rfl (nst_ix tok hv9 rfl rfl rfl rfl rfl rfl rfl rfl) ?_
  refine rl rfl w0 rfl (nst_fa tok (atI_e hv9).2.1 rfl rfl rfl rfl rfl rfl rfl rfl) ?_
  refine rw0 rfl w0 (nst_st (cs := [.d _]) tok (⟨v8, v9.Wheels⟩ : Arbor_) (atI_e hv9).2.1 rfl rfl rfl rfl rfl rfl rfl rfl rfl rfl rfl) ?_
  refine nx ?_
  refine sq [0,1,2] ?_
  refine pm ?_
  refine rp rfl w0 rfl (pw_add rfl rfl) ?_
  refine pa ?_
  refine nx ?_
  refine sr [0,1,2,3,4,5,6,7] ?_
  refine rp rfl w0 rfl (pu_move (r := .own _ _ _) rfl) ?_
  refine pm ?_
  obtain ⟨v10, hv10, h2⟩ := bnd h2
  refine rl rfl w0 rfl (nst_ix tok hv10 rfl rfl rfl rfl rfl rfl (by first | (simp; done) | omega | (simp; omega)) rfl) ?_
  refine rl rfl w0 rfl (nst_fa tok (atI_e hv10).2.1 rfl rfl rfl rfl rfl rfl rfl (by first | (simp; done) | omega | (simp; omega))) ?_
  refine rl rfl w0 rfl (nst_ld1 tok (atI_e hv10).2.1 rfl rfl rfl rfl (by first | (simp; done) | omega | (simp; omega)) rfl) ?_
  refine pm ?_
  obtain ⟨v11, hv11, h2⟩ := bnd h2
  obtain ⟨hq12, h2⟩ := chk_e h2
  refine rw1 rfl w0 rfl (c_callF (k := 0) (kf := 1) (⟨v10.Name, v11.2⟩ : Arbor_) (l_markInt64S_o_c hv11) (atI_e hv10).2.1 (by simp only [nestC, cArbor_, List.length_map, hq12]) rfl rfl rfl rfl rfl rfl rfl) ?_
  refine pa ?_
  refine ra_nil ?_
  refine block_n ?_
  refine then_n ?_
  refine sr [0,1,2] ?_
  refine pm ?_
  refine rp rfl w0 rfl (pw_add rfl rfl) ?_
  refine pa ?_
  refine ra_nil ?_
  refine loop_n ?_
  cases h2
  refine ⟨_, rfl, ?_⟩
  exact wk [0, 1, 2]
  refine aw_exit ?_
  refine then_e ?_
  cases h2
  refine loop_x ⟨_, rfl, fun e => ?_⟩
  subst e
  refine block_hit ?_
  refine then_n ?_
  exact wk [0, 1, 2]
  refine sq [0,1] ?_
  refine pm ?_
  refine pa ?_
  refine nx ?_
  refine aw_ret ?_
  cases h0
  exact retP_ (rs := [.tmp 4]) 2 rfl rfl

theorem l_markMeshS_o_c {p0 : List Mesh_} {p1 : Int} {r : Int × List Mesh_} (h0 : l_markMeshS_o_m p0 p1 = some r) : FnC Tryz.prog 145 [.live [⟨215, 4, .data (List.map cMesh_ p0)⟩]] [.own 0 0 (p0).length, .d (.v (.int .i64 p1))] [.live [⟨215, 4, .data (List.map cMesh_ r.2)⟩]] (.d (.v (.int .i64 r.1))) := by
  refine fnc_intro (T := tt) (N := 41) tok Tryz.func145 rfl rfl (by kernel_rfl) rfl rfl ?_
  unfold l_markMeshS_o_m at h0
  refine sq [0] ?_
  refine pa ?_
  refine nx ?_
  obtain ⟨v11, h1, h0⟩ := bnd h0
  refine aw_cut ⟨updA ((fun _ => .dead)) 1 (.d (.v (.int .i64 v11.1))), lks [.live [⟨215, 4, .data (List.map cMesh_ v11.2)⟩], .no, .no]⟩ ?_ ?_
  refine sq [0] ?_
  refine pa ?_
  refine nx ?_
  refine aw_block ?_
  refine aw_loopM (fun s6 => ⟨updA (updA (updA ((fun _ => .dead)) 0 (.own 0 0 (s6.2.2).length)) 1 (.d (.v (.int .i64 s6.1)))) 5 (.d (.v (.int .i64 s6.2.1))), lks [.live [⟨215, 4, .data (List.map cMesh_ s6.2.2)⟩], .no, .no]⟩) h1 ?_ (fun s6 y h2 => ?_)
  exact wk [0, 1, 2]
  refine aw_seq ?_
  refine sq [0,1,2,3] ?_
  refine pm ?_
  refine rp rfl w0 rfl (pu_move (r := .own _ _ _) rfl) ?_
  refine rl rfl w0 rfl (ow_len tok rfl rfl rfl rfl rfl) ?_
  refine rp rfl w0 rfl (pu_lss rfl rfl) ?_
  refine nx ?_
  refine aw_if h2 rfl (fun hc h2 => ?_) (fun hc h2 => ?_)
  refine sk ?_
  refine aw_seq ?_
  refine aw_block ?_
  refine sq [0,1,2,3,4,5] ?_
  refine rp rfl w0 rfl (pu_move (r := .own _ _ _) rfl) ?_
  refine pm ?_
  refine pm ?_
  obtain ⟨v7, hv7, h2⟩ := bnd h2
  refine rl rfl w0 rfl (ow_ix tok hv7 rfl rfl rfl rfl rfl rfl rfl rfl) ?_
  refine rl rfl w0 rfl (rw_fa tok (atI_e hv7).2.1 rfl rfl rfl rfl rfl rfl rfl rfl) ?_
  refine rw0 rfl w0 (rw_st (cs := [.d _]) tok (⟨s6.1, v7.WheelA, v7.B, v7.WheelB⟩ : Mesh_) (atI_e hv7).2.1 rfl rfl rfl rfl rfl rfl rfl rfl) ?_
  refine nx ?_
  refine sq [0,1,2] ?_
  refine pm ?_
  refine rp rfl w0 rfl (pw_add rfl rfl) ?_
  refine pa ?_
  refine nx ?_
  refine sq [0,1,2,3,4,5] ?_
  refine rp rfl w0 rfl (pu_move (r := .own _ _ _) rfl) ?_
  refine pm ?_
  refine pm ?_
  obtain ⟨v8, hv8, h2⟩ := bnd h2
  refine rl rfl w0 rfl (ow_ix tok hv8 rfl rfl rfl rfl rfl rfl (by first | (simp; done) | omega | (simp; omega)) rfl) ?_
  refine rl rfl w0 rfl (rw_fa tok (atI_e hv8).2.1 rfl rfl rfl rfl rfl rfl rfl (by first | (simp; done) | omega | (simp; omega))) ?_
  refine rw0 rfl w0 (rw_st (cs := [.d _]) tok (⟨v8.A, w64 (s6.1 + 1), v8.B, v8.WheelB⟩ : Mesh_) (atI_e hv8).2.1 rfl rfl rfl rfl rfl rfl rfl (by first | (simp; done) | omega | (simp; omega))) ?_
  refine nx ?_
  refine sq [0,1,2] ?_
  refine pm ?_
  refine rp rfl w0 rfl (pw_add rfl rfl) ?_
  refine pa ?_
  refine nx ?_
  refine sq [0,1,2,3,4,5] ?_
  refine rp rfl w0 rfl (pu_move (r := .own _ _ _) rfl) ?_
  refine pm ?_
  refine pm ?_
  obtain ⟨v9, hv9, h2⟩ := bnd h2
  refine rl rfl w0 rfl (ow_ix tok hv9 rfl rfl rfl rfl rfl rfl (by first | (simp; done) | omega | (simp; omega)) rfl) ?_
  refine rl rfl w0 rfl (rw_fa tok (atI_e hv9).2.1 rfl rfl rfl rfl rfl rfl rfl (by first | (simp; done) | omega | (simp; omega))) ?_
  refine rw0 rfl w0 (rw_st (cs := [.d _]) tok (⟨v9.A, v9.WheelA, w64 ((w64 (s6.1 + 1)) + 1), v9.WheelB⟩ : Mesh_) (atI_e hv9).2.1 rfl rfl rfl rfl rfl rfl rfl (by first | (simp; done) | omega | (simp; omega))) ?_
  refine nx ?_
  refine sq [0,1,2] ?_
  refine pm ?_
  refine rp rfl w0 rfl (pw_add rfl rfl) ?_
  refine pa ?_
  refine nx ?_
  refine sq [0,1,2,3,4,5] ?_
  refine rp rfl w0 rfl (pu_move (r := .own _ _ _) rfl) ?_
  refine pm ?_
  refine pm ?_
  obtain ⟨v10, hv10, h2⟩ := bnd h2
  refine rl rfl w0 rfl (ow_ix tok hv10 rfl rfl rfl rfl rfl rfl (by first | (simp; done) | omega | (simp; omega)) rfl) ?_
  refine rl rfl w0 rfl (rw_fa tok (atI_e hv10).2.1 rfl rfl rfl rfl rfl rfl rfl (by first | (simp; done) | omega | (simp; omega))) ?_
  refine rw0 rfl w0 (rw_st (cs := [.d _]) tok (⟨v10.A, v10.WheelA, v10.B, w64 ((w64 ((w64 (s6.1 + 1)) + 1)) + 1)⟩ : Mesh_) (atI_e hv10).2.1 rfl rfl rfl rfl rfl rfl rfl (by first | (simp; done) | omega | (simp; omega))) ?_
  refine nx ?_
  refine sr [0,1,2] ?_
  refine pm ?_
  refine rp rfl w0 rfl (pw_add rfl rfl) ?_
  refine pa ?_
  refine ra_nil ?_
  refine block_n ?_
  refine then_n ?_
  refine sr [0,1,2] ?_
  refine pm ?_
  refine rp rfl w0 rfl (pw_add rfl rfl) ?_
  refine pa ?_
  refine ra_nil ?_
  refine loop_n ?_
  cases h2
  refine ⟨_, rfl, ?_⟩
  exact wk [0, 1, 2]
  refine aw_exit ?_
  refine then_e ?_
  cases h2
  refine loop_x ⟨_, rfl, fun e => ?_⟩
  subst e
  refine block_hit ?_
  refine then_n ?_
  exact wk [0, 1, 2]
  refine sq [0,1] ?_
  refine pm ?_
  refine pa ?_
  refine nx ?_
  refine aw_ret ?_
  cases h0
  exact retP_ (rs := [.tmp 4]) 1 rfl rfl

theorem l_markWorks_o_c {p0 : Works_} {p1 : Int} {r : Int × List Arbor_ × List Mesh_} (h0 : l_markWorks_o_m p0 p1 = some r) : FnC Tryz.prog 84 [.live [⟨213, 2, .av (nestL 1 cArbor_ p0.Arbors)⟩], .live (famL 2 1 cArbor_ p0.Arbors), .live [⟨215, 4, .data (List.map cMesh_ p0.Meshes)⟩]] [.agg [.own 0 0 (p0.Arbors).length, .own 2 0 (p0.Meshes).length], .d (.v (.int .i64 p1))] [.live [⟨213, 2, .av (nestL 1 cArbor_ r.2.1)⟩], .live (famL 2 1 cArbor_ r.2.1), .live [⟨215, 4, .data (List.map cMesh_ r.2.2)⟩]] (.d (.v (.int .i64 r.1))) := by
  refine fnc_intro (T := tt) (N := 14) tok Tryz.func84 rfl rfl (by kernel_rfl) rfl rfl ?_
  unfold l_markWorks_o_m at h0
  refine sq [0,1] ?_
  refine rs rfl w0 rfl (st_box 3 (cs := _ :: _) rfl rfl rfl) ?_
  refine pa ?_
  refine nx ?_
  refine sq [0,1,2,3,4] ?_
  refine fa tok ?_
  refine ld tok ?_
  refine pm ?_
  obtain ⟨v1, hv1, h0⟩ := bnd h0
  obtain ⟨hq2, h0⟩ := chk_e h0
  refine rw1 rfl w0 rfl (c_callP [0, 1] 300 (l_markArborS_o_c hv1) rfl rfl) ?_
  refine pa ?_
  refine nx ?_
  refine sq [0,1,2,3,4] ?_
  refine fa tok ?_
  refine ld tok ?_
  refine pm ?_
  obtain ⟨v3, hv3, h0⟩ := bnd h0
  obtain ⟨hq4, h0⟩ := chk_e h0
  refine rw1 rfl w0 rfl (c_callP [2] 300 (l_markMeshS_o_c hv3) rfl rfl) ?_
  refine pa ?_
  refine nx ?_
  refine sq [0,1] ?_
  refine pm ?_
  refine pa ?_
  refine nx ?_
  refine aw_ret ?_
  cases h0
  exact retP_ (rs := [.tmp 4]) 3 rfl rfl

theorem l_markMonthS_o_c {p0 : List Month_} {p1 : Int} {r : Int × List Month_} (h0 : l_markMonthS_o_m p0 p1 = some r) : FnC Tryz.prog 146 [.live [⟨147, 3, .data (List.map cMonth_ p0)⟩]] [.own 0 0 (p0).length, .d (.v (.int .i64 p1))] [.live [⟨147, 3, .data (List.map cMonth_ r.2)⟩]] (.d (.v (.int .i64 r.1))) := by
  refine fnc_intro (T := tt) (N := 35) tok Tryz.func146 rfl rfl (by kernel_rfl) rfl rfl ?_
  unfold l_markMonthS_o_m at h0
  refine sq [0] ?_
  refine pa ?_
  refine nx ?_
  obtain ⟨v11, h1, h0⟩ := bnd h0
  refine aw_cut ⟨updA ((fun _ => .dead)) 1 (.d (.v (.int .i64 v11.1))), lks [.live [⟨147, 3, .data (List.map cMonth_ v11.2)⟩], .no, .no]⟩ ?_ ?_
  refine sq [0] ?_
  refine pa ?_
  refine nx ?_
  refine aw_block ?_
  refine aw_loopM (fun s6 => ⟨updA (updA (updA ((fun _ => .dead)) 0 (.own 0 0 (s6.2.2).length)) 1 (.d (.v (.int .i64 s6.1)))) 5 (.d (.v (.int .i64 s6.2.1))), lks [.live [⟨147, 3, .data (List.map cMonth_ s6.2.2)⟩], .no, .no]⟩) h1 ?_ (fun s6 y h2 => ?_)
  exact wk [0, 1, 2]
  refine aw_seq ?_
  refine sq [0,1,2,3] ?_
  refine pm ?_
  refine rp rfl w0 rfl (pu_move (r := .own _ _ _) rfl) ?_
  refine rl rfl w0 rfl (ow_len tok rfl rfl rfl rfl rfl) ?_
  refine rp rfl w0 rfl (pu_lss rfl rfl) ?_
  refine nx ?_
  refine aw_if h2 rfl (fun hc h2 => ?_) (fun hc h2 => ?_)
  refine sk ?_
  refine aw_seq ?_
  refine aw_block ?_
  refine sq [0,1,2,3,4,5,6] ?_
  refine rp rfl w0 rfl (pu_move (r := .own _ _ _) rfl) ?_
  refine pm ?_
  refine pm ?_
  obtain ⟨v7, hv7, h2⟩ := bnd h2
  refine rs rfl w0 rfl (c_call 3 (l_markText_c hv7) rfl rfl rfl) ?_
  obtain ⟨v8, hv8, h2⟩ := bnd h2
  refine rl rfl w0 rfl (ow_ix tok hv8 rfl rfl rfl rfl rfl rfl rfl rfl) ?_
  refine rl rfl w0 rfl (rw_fa tok (atI_e hv8).2.1 rfl rfl rfl rfl rfl rfl rfl rfl) ?_
  refine rw0 rfl w0 (rw_st (cs := [.d _]) tok (⟨v7, v8.Days, v8.Leap⟩ : Month_) (atI_e hv8).2.1 rfl rfl rfl rfl rfl rfl rfl rfl) ?_
  refine nx ?_
  refine sq [0,1,2] ?_
  refine pm ?_
  refine rp rfl w0 rfl (pw_add rfl rfl) ?_
  refine pa ?_
  refine nx ?_
  refine sq [0,1,2,3,4,5] ?_
  refine rp rfl w0 rfl (pu_move (r := .own _ _ _) rfl) ?_
  refine pm ?_
  refine pm ?_
  obtain ⟨v9, hv9, h2⟩ := bnd h2
  refine rl rfl w0 rfl (ow_ix tok hv9 rfl rfl rfl rfl rfl rfl (by first | (simp; done) | omega | (simp; omega)) rfl) ?_
  refine rl rfl w0 rfl (rw_fa tok (atI_e hv9).2.1 rfl rfl rfl rfl rfl rfl rfl (by first | (simp; done) | omega | (simp; omega))) ?_
  refine rw0 rfl w0 (rw_st (cs := [.d _]) tok (⟨v9.Name, w64 (s6.1 + 1), v9.Leap⟩ : Month_) (atI_e hv9).2.1 rfl rfl rfl rfl rfl rfl rfl (by first | (simp; done) | omega | (simp; omega))) ?_
  refine nx ?_
  refine sq [0,1,2] ?_
  refine pm ?_
  refine rp rfl w0 rfl (pw_add rfl rfl) ?_
  refine pa ?_
  refine nx ?_
  refine sq [0,1,2,3,4,5] ?_
  refine rp rfl w0 rfl (pu_move (r := .own _ _ _) rfl) ?_
  refine pm ?_
  refine pm ?_
  obtain ⟨v10, hv10, h2⟩ := bnd h2
  refine rl rfl w0 rfl (ow_ix tok hv10 rfl rfl rfl rfl rfl rfl (by first | (simp; done) | omega | (simp; omega)) rfl) ?_
  refine rl rfl w0 rfl (rw_fa tok (atI_e hv10).2.1 rfl rfl rfl rfl rfl rfl rfl (by first | (simp; done) | omega | (simp; omega))) ?_
  refine rw0 rfl w0 (rw_st (cs := [.d _]) tok (⟨v10.Name, v10.Days, w64 ((w64 (s6.1 + 1)) + 1)⟩ : Month_) (atI_e hv10).2.1 rfl rfl rfl rfl rfl rfl rfl (by first | (simp; done) | omega | (simp; omega))) ?_
  refine nx ?_
  refine sr [0,1,2] ?_
  refine pm ?_
  refine rp rfl w0 rfl (pw_add rfl rfl) ?_
  refine pa ?_
  refine ra_nil ?_
  refine block_n ?_
  refine then_n ?_
  refine sr [0,1,2] ?_
  refine pm ?_
  refine rp rfl w0 rfl (pw_add rfl rfl) ?_
  refine pa ?_
  refine ra_nil ?_
  refine loop_n ?_
  cases h2
  refine ⟨_, rfl, ?_⟩
  exact wk [0, 1, 2]
  refine aw_exit ?_
  refine then_e ?_
  cases h2
  refine loop_x ⟨_, rfl, fun e => ?_⟩
  subst e
  refine block_hit ?_
  refine then_n ?_
  exact wk [0, 1, 2]
  refine sq [0,1] ?_
  refine pm ?_
  refine pa ?_
  refine nx ?_
  refine aw_ret ?_
  cases h0
  exact retP_ (rs := [.tmp 4]) 1 rfl rfl

theorem l_markLeapRuleS_o_c {p0 : List LeapRule_} {p1 : Int} {r : Int × List LeapRule_} (h0 : l_markLeapRuleS_o_m p0 p1 = some r) : FnC Tryz.prog 147 [.live [⟨179, 3, .data (List.map cLeapRule_ p0)⟩]] [.own 0 0 (p0).length, .d (.v (.int .i64 p1))] [.live [⟨179, 3, .data (List.map cLeapRule_ r.2)⟩]] (.d (.v (.int .i64 r.1))) := by
  refine fnc_intro (T := tt) (N := 36) tok Tryz.func147 rfl rfl (by kernel_rfl) rfl rfl ?_
  unfold l_markLeapRuleS_o_m at h0
  refine sq [0] ?_
  refine pa ?_
  refine nx ?_
  obtain ⟨v11, h1, h0⟩ := bnd h0
  refine aw_cut ⟨updA ((fun _ => .dead)) 1 (.d (.v (.int .i64 v11.1))), lks [.live [⟨179, 3, .data (List.map cLeapRule_ v11.2)⟩], .no, .no]⟩ ?_ ?_
  refine sq [0] ?_
  refine pa ?_
  refine nx ?_
  refine aw_block ?_
  refine aw_loopM (fun s6 => ⟨updA (updA (updA ((fun _ => .dead)) 0 (.own 0 0 (s6.2.2).length)) 1 (.d (.v (.int .i64 s6.1)))) 5 (.d (.v (.int .i64 s6.2.1))), lks [.live [⟨179, 3, .data (List.map cLeapRule_ s6.2.2)⟩], .no, .no]⟩) h1 ?_ (fun s6 y h2 => ?_)
  exact wk [0, 1, 2]
  refine aw_seq ?_
  refine sq [0,1,2,3] ?_
  refine pm ?_
  refine rp rfl w0 rfl (pu_move (r := .own _ _ _) rfl) ?_
  refine rl rfl w0 rfl (ow_len tok rfl rfl rfl rfl rfl) ?_
  refine rp rfl w0 rfl (pu_lss rfl rfl) ?_
  refine nx ?_
  refine aw_if h2 rfl (fun hc h2 => ?_) (fun hc h2 => ?_)
  refine sk ?_
  refine aw_seq ?_
  refine aw_block ?_
  refine sq [0,1,2,3,4,5] ?_
  refine rp rfl w0 rfl (pu_move (r := .own _ _ _) rfl) ?_
  refine pm ?_
  refine pm ?_
  obtain ⟨v7, hv7, h2⟩ := bnd h2
  refine rl rfl w0 rfl (ow_ix tok hv7 rfl rfl rfl rfl rfl rfl rfl rfl) ?_
  refine rl rfl w0 rfl (rw_fa tok (atI_e hv7).2.1 rfl rfl rfl rfl rfl rfl rfl rfl) ?_
  refine rw0 rfl w0 (rw_st (cs := [.d _]) tok (⟨s6.1, v7.Rest, v7.Leap⟩ : LeapRule_) (atI_e hv7).2.1 rfl rfl rfl rfl rfl rfl rfl rfl) ?_
  refine nx ?_
  refine sq [0,1,2] ?_
  refine pm ?_
  refine rp rfl w0 rfl (pw_add rfl rfl) ?_
  refine pa ?_
  refine nx ?_
  refine sq [0,1,2,3,4,5] ?_
  refine rp rfl w0 rfl (pu_move (r := .own _ _ _) rfl) ?_
  refine pm ?_
  refine pm ?_
  obtain ⟨v8, hv8, h2⟩ := bnd h2
  refine rl rfl w0 rfl (ow_ix tok hv8 rfl rfl rfl rfl rfl rfl (by first | (simp; done) | omega | (simp; omega)) rfl) ?_
  refine rl rfl w0 rfl (rw_fa tok (atI_e hv8).2.1 rfl rfl rfl rfl rfl rfl rfl (by first | (simp; done) | omega | (simp; omega))) ?_
  refine rw0 rfl w0 (rw_st (cs := [.d _]) tok (⟨v8.Every, w64 (s6.1 + 1), v8.Leap⟩ : LeapRule_) (atI_e hv8).2.1 rfl rfl rfl rfl rfl rfl rfl (by first | (simp; done) | omega | (simp; omega))) ?_
  refine nx ?_
  refine sq [0,1,2] ?_
  refine pm ?_
  refine rp rfl w0 rfl (pw_add rfl rfl) ?_
  refine pa ?_
  refine nx ?_
  refine sq [0,1,2,3,4,5,6,7] ?_
  refine rp rfl w0 rfl (pu_move (r := .own _ _ _) rfl) ?_
  refine pm ?_
  refine pm ?_
  refine rp rfl w0 rfl (pu_remw rfl rfl (by decide)) ?_
  refine rp rfl w0 rfl (pu_eql rfl rfl) ?_
  obtain ⟨v10, hv10, h2⟩ := bnd h2
  refine rl rfl w0 rfl (ow_ix tok hv10 rfl rfl rfl rfl rfl rfl (by first | (simp; done) | omega | (simp; omega)) rfl) ?_
  refine rl rfl w0 rfl (rw_fa tok (atI_e hv10).2.1 rfl rfl rfl rfl rfl rfl rfl (by first | (simp; done) | omega | (simp; omega))) ?_
  refine rw0 rfl w0 (rw_st (cs := [.d _]) tok (⟨v10.Every, v10.Rest, decide (((w64 ((w64 (s6.1 + 1)) + 1)).tmod 3) = 0)⟩ : LeapRule_) (atI_e hv10).2.1 rfl rfl rfl rfl rfl rfl rfl (by first | (simp; done) | omega | (simp; omega))) ?_
  refine nx ?_
  refine sr [0,1,2] ?_
  refine pm ?_
  refine rp rfl w0 rfl (pw_add rfl rfl) ?_
  refine pa ?_
  refine ra_nil ?_
  refine block_n ?_
  refine then_n ?_
  refine sr [0,1,2] ?_
  refine pm ?_
  refine rp rfl w0 rfl (pw_add rfl rfl) ?_
  refine pa ?_
  refine ra_nil ?_
  refine loop_n ?_
  cases h2
  refine ⟨_, rfl, ?_⟩
  exact wk [0, 1, 2]
  refine aw_exit ?_
  refine then_e ?_
  cases h2
  refine loop_x ⟨_, rfl, fun e => ?_⟩
  subst e
  refine block_hit ?_
  refine then_n ?_
  exact wk [0, 1, 2]
  refine sq [0,1] ?_
  refine pm ?_
  refine pa ?_
  refine nx ?_
  refine aw_ret ?_
  cases h0
  exact retP_ (rs := [.tmp 4]) 1 rfl rfl

theorem l_markCalendar_o_c {p0 : Calendar_} {p1 : Int} {r : Int × List Month_ × List LeapRule_} (h0 : l_markCalendar_o_m p0 p1 = some r) : FnC Tryz.prog 85 [.live [⟨147, 3, .data (List.map cMonth_ p0.Months)⟩], .live [⟨179, 3, .data (List.map cLeapRule_ p0.Rules)⟩]] [.agg [.d (.v (.string p0.Name)), .own 0 0 (p0.Months).length, .own 1 0 (p0.Rules).length, .d (.v (.int .i64 p0.Week))], .d (.v (.int .i64 p1))] [.live [⟨147, 3, .data (List.map cMonth_ r.2.1)⟩], .live [⟨179, 3, .data (List.map cLeapRule_ r.2.2)⟩]] (.d (.v (.int .i64 r.1))) := by
  refine fnc_intro (T := tt) (N := 14) tok Tryz.func85 rfl rfl (by kernel_rfl) rfl rfl ?_
  unfold l_markCalendar_o_m at h0
  refine sq [0,1] ?_
  refine rs rfl w0 rfl (st_box 3 (cs := _ :: _) rfl rfl rfl) ?_
  refine pa ?_
  refine nx ?_
  refine sq [0,1,2,3,4] ?_
  refine fa tok ?_
  refine ld tok ?_
  refine pm ?_
  obtain ⟨v1, hv1, h0⟩ := bnd h0
  obtain ⟨hq2, h0⟩ := chk_e h0
  refine rw1 rfl w0 rfl (c_callP [0] 300 (l_markMonthS_o_c hv1) rfl rfl) ?_
  refine pa ?_
  refine nx ?_
  refine sq [0,1,2,3,4] ?_
  refine fa tok ?_
  refine ld tok ?_
  refine pm ?_
  obtain ⟨v3, hv3, h0⟩ := bnd h0
  obtain ⟨hq4, h0⟩ := chk_e h0
  refine rw1 rfl w0 rfl (c_callP [1] 300 (l_markLeapRuleS_o_c hv3) rfl rfl) ?_
  refine pa ?_
  refine nx ?_
  refine sq [0,1] ?_
  refine pm ?_
  refine pa ?_
  refine nx ?_
  refine aw_ret ?_
  cases h0
  exact retP_ (rs := [.tmp 4]) 2 rfl rfl

theorem l_markMovement_o_c {p0 : Movement_} {p1 : Int} {r : Int × List Arbor_ × List Mesh_ × List Month_ × List LeapRule_ × List Int} (h0 : l_markMovement_o_m p0 p1 = some r) : FnC Tryz.prog 43 [.live [⟨213, 2, .av (nestL 1 cArbor_ p0.Works.Arbors)⟩], .live (famL 2 1 cArbor_ p0.Works.Arbors), .live [⟨215, 4, .data (List.map cMesh_ p0.Works.Meshes)⟩], .live [⟨147, 3, .data (List.map cMonth_ p0.Calendar.Months)⟩], .live [⟨179, 3, .data (List.map cLeapRule_ p0.Calendar.Rules)⟩], .live [⟨2, 1, .data (List.map cI p0.Cam)⟩]] [.agg [.d (.v (.string p0.Name)), .own 0 0 (p0.Works.Arbors).length, .own 2 0 (p0.Works.Meshes).length, .d (.v (.int .i64 p0.Minute)), .d (.v (.int .i64 p0.Hour)), .d (.v (.int .i64 p0.Escape)), .d (.v (.int .i64 p0.Teeth)), .d (.v (.int .i64 p0.Beats)), .d (.v (.string p0.Calendar.Name)), .own 3 0 (p0.Calendar.Months).length, .own 4 0 (p0.Calendar.Rules).length, .d (.v (.int .i64 p0.Calendar.Week)), .own 5 0 (p0.Cam).length, .d (.v (.int .i64 p0.Strike))], .d (.v (.int .i64 p1))] [.live [⟨213, 2, .av (nestL 1 cArbor_ r.2.1)⟩], .live (famL 2 1 cArbor_ r.2.1), .live [⟨215, 4, .data (List.map cMesh_ r.2.2.1)⟩], .live [⟨147, 3, .data (List.map cMonth_ r.2.2.2.1)⟩], .live [⟨179, 3, .data (List.map cLeapRule_ r.2.2.2.2.1)⟩], .live [⟨2, 1, .data (List.map cI r.2.2.2.2.2)⟩]] (.d (.v (.int .i64 r.1))) := by
  refine fnc_introL (L := 6) (T := tt) (N := 18) tok Tryz.func43 rfl rfl (by kernel_rfl) rfl rfl ?_
  unfold l_markMovement_o_m at h0
  refine sq [0,1] ?_
  refine rs rfl w0 rfl (st_box 6 (cs := _ :: _) rfl rfl rfl) ?_
  refine pa ?_
  refine nx ?_
  refine sq [0,1,2,3,4] ?_
  refine fa tok ?_
  refine rl rfl w0 rfl (bx_ldN tok rfl rfl rfl rfl) ?_
  refine pm ?_
  obtain ⟨v1, hv1, h0⟩ := bnd h0
  obtain ⟨hq2, h0⟩ := chk_e h0
  obtain ⟨hq3, h0⟩ := chk_e h0
  refine rw1 rfl w0 rfl (c_callP [0, 1, 2] 300 (l_markWorks_o_c hv1) rfl rfl) ?_
  refine pa ?_
  refine nx ?_
  refine sq [0,1,2,3,4] ?_
  refine fa tok ?_
  refine rl rfl w0 rfl (bx_ldN tok rfl rfl rfl rfl) ?_
  refine pm ?_
  obtain ⟨v4, hv4, h0⟩ := bnd h0
  obtain ⟨hq5, h0⟩ := chk_e h0
  obtain ⟨hq6, h0⟩ := chk_e h0
  refine rw1 rfl w0 rfl (c_callP [3, 4] 300 (l_markCalendar_o_c hv4) rfl rfl) ?_
  refine pa ?_
  refine nx ?_
  refine sq [0,1,2,3,4] ?_
  refine fa tok ?_
  refine ld tok ?_
  refine pm ?_
  obtain ⟨v7, hv7, h0⟩ := bnd h0
  obtain ⟨hq8, h0⟩ := chk_e h0
  refine rw1 rfl w0 rfl (c_callP [5] 300 (l_markInt64S_o_c hv7) rfl rfl) ?_
  refine pa ?_
  refine nx ?_
  refine sq [0,1] ?_
  refine pm ?_
  refine pa ?_
  refine nx ?_
  refine aw_ret ?_
  cases h0
  exact retP_ (rs := [.tmp 4]) 6 rfl rfl

theorem l_markPerpetual_o_c {p0 : Perpetual_} {p1 : Int} {r : Int × List Int} (h0 : l_markPerpetual_o_m p0 p1 = some r) : FnC Tryz.prog 44 [.live [⟨2, 1, .data (List.map cI p0.Cam)⟩]] [.agg [.own 0 0 (p0.Cam).length, .d (.v (.int .i64 p0.Months)), .d (.v (.int .i64 p0.Teeth)), .d (.v (.int .i64 p0.At)), .d (.v (.int .i64 p0.Day)), .d (.v (.int .i64 p0.Week)), .d (.v (.int .i64 p0.Weekday))], .d (.v (.int .i64 p1))] [.live [⟨2, 1, .data (List.map cI r.2)⟩]] (.d (.v (.int .i64 r.1))) := by
  refine fnc_intro (T := tt) (N := 10) tok Tryz.func44 rfl rfl (by kernel_rfl) rfl rfl ?_
  unfold l_markPerpetual_o_m at h0
  refine sq [0,1] ?_
  refine rs rfl w0 rfl (st_box 3 (cs := _ :: _) rfl rfl rfl) ?_
  refine pa ?_
  refine nx ?_
  refine sq [0,1,2,3,4] ?_
  refine fa tok ?_
  refine ld tok ?_
  refine pm ?_
  obtain ⟨v1, hv1, h0⟩ := bnd h0
  obtain ⟨hq2, h0⟩ := chk_e h0
  refine rw1 rfl w0 rfl (c_callP [0] 300 (l_markInt64S_o_c hv1) rfl rfl) ?_
  refine pa ?_
  refine nx ?_
  refine sq [0,1] ?_
  refine pm ?_
  refine pa ?_
  refine nx ?_
  refine aw_ret ?_
  cases h0
  exact retP_ (rs := [.tmp 4]) 1 rfl rfl

theorem l_markSim_o_c {p0 : Sim_} {p1 : Int} {r : Int × List Arbor_ × List Mesh_ × List Month_ × List LeapRule_ × List Int × List Int} (h0 : l_markSim_o_m p0 p1 = some r) : FnC Tryz.prog 12 [.live [⟨213, 2, .av (nestL 1 cArbor_ p0.Movement.Works.Arbors)⟩], .live (famL 2 1 cArbor_ p0.Movement.Works.Arbors), .live [⟨215, 4, .data (List.map cMesh_ p0.Movement.Works.Meshes)⟩], .live [⟨147, 3, .data (List.map cMonth_ p0.Movement.Calendar.Months)⟩], .live [⟨179, 3, .data (List.map cLeapRule_ p0.Movement.Calendar.Rules)⟩], .live [⟨2, 1, .data (List.map cI p0.Movement.Cam)⟩], .live [⟨2, 1, .data (List.map cI p0.Dial.Cam)⟩]] [.agg [.d (.v (.string p0.Movement.Name)), .own 0 0 (p0.Movement.Works.Arbors).length, .own 2 0 (p0.Movement.Works.Meshes).length, .d (.v (.int .i64 p0.Movement.Minute)), .d (.v (.int .i64 p0.Movement.Hour)), .d (.v (.int .i64 p0.Movement.Escape)), .d (.v (.int .i64 p0.Movement.Teeth)), .d (.v (.int .i64 p0.Movement.Beats)), .d (.v (.string p0.Movement.Calendar.Name)), .own 3 0 (p0.Movement.Calendar.Months).length, .own 4 0 (p0.Movement.Calendar.Rules).length, .d (.v (.int .i64 p0.Movement.Calendar.Week)), .own 5 0 (p0.Movement.Cam).length, .d (.v (.int .i64 p0.Movement.Strike)), .d (.v (.int .i64 p0.Start.Year)), .d (.v (.int .i64 p0.Start.Month)), .d (.v (.int .i64 p0.Start.Day)), .d (.v (.int .i64 p0.First)), .d (.v (.int .i64 p0.Clock)), .own 6 0 (p0.Dial.Cam).length, .d (.v (.int .i64 p0.Dial.Months)), .d (.v (.int .i64 p0.Dial.Teeth)), .d (.v (.int .i64 p0.Dial.At)), .d (.v (.int .i64 p0.Dial.Day)), .d (.v (.int .i64 p0.Dial.Week)), .d (.v (.int .i64 p0.Dial.Weekday))], .d (.v (.int .i64 p1))] [.live [⟨213, 2, .av (nestL 1 cArbor_ r.2.1)⟩], .live (famL 2 1 cArbor_ r.2.1), .live [⟨215, 4, .data (List.map cMesh_ r.2.2.1)⟩], .live [⟨147, 3, .data (List.map cMonth_ r.2.2.2.1)⟩], .live [⟨179, 3, .data (List.map cLeapRule_ r.2.2.2.2.1)⟩], .live [⟨2, 1, .data (List.map cI r.2.2.2.2.2.1)⟩], .live [⟨2, 1, .data (List.map cI r.2.2.2.2.2.2)⟩]] (.d (.v (.int .i64 r.1))) := by
  refine fnc_introL (L := 7) (T := tt) (N := 14) tok Tryz.func12 rfl rfl (by kernel_rfl) rfl rfl ?_
  unfold l_markSim_o_m at h0
  refine sq [0,1] ?_
  refine rs rfl w0 rfl (st_box 7 (cs := _ :: _) rfl rfl rfl) ?_
  refine pa ?_
  refine nx ?_
  refine sq [0,1,2,3,4] ?_
  refine fa tok ?_
  refine rl rfl w0 rfl (bx_ldN tok rfl rfl rfl rfl) ?_
  refine pm ?_
  obtain ⟨v1, hv1, h0⟩ := bnd h0
  obtain ⟨hq2, h0⟩ := chk_e h0
  obtain ⟨hq3, h0⟩ := chk_e h0
  obtain ⟨hq4, h0⟩ := chk_e h0
  obtain ⟨hq5, h0⟩ := chk_e h0
  obtain ⟨hq6, h0⟩ := chk_e h0
  refine rw1 rfl w0 rfl (c_callP [0, 1, 2, 3, 4, 5] 300 (l_markMovement_o_c hv1) rfl rfl) ?_
  refine pa ?_
  refine nx ?_
  refine sq [0,1,2,3,4] ?_
  refine fa tok ?_
  refine rl rfl w0 rfl (bx_ldN tok rfl rfl rfl rfl) ?_
  refine pm ?_
  obtain ⟨v7, hv7, h0⟩ := bnd h0
  obtain ⟨hq8, h0⟩ := chk_e h0
  refine rw1 rfl w0 rfl (c_callP [6] 300 (l_markPerpetual_o_c hv7) rfl rfl) ?_
  refine pa ?_
  refine nx ?_
  refine sq [0,1] ?_
  refine pm ?_
  refine pa ?_
  refine nx ?_
  refine aw_ret ?_
  cases h0
  exact retP_ (rs := [.tmp 4]) 7 rfl rfl

theorem l_heldInt64S_c {p0 : List Int} {p1 : Int} {r : Int} (h0 : l_heldInt64S_m p0 p1 = some r) : FnC Tryz.prog 89 [] [.d (.sl (List.map cI p0)), .d (.v (.int .i64 p1))] [] (.d (.v (.int .i64 r))) := by
  refine fnc_intro (T := tt) (N := 21) tok Tryz.func89 rfl rfl (by kernel_rfl) rfl rfl ?_
  unfold l_heldInt64S_m at h0
  refine sq [0] ?_
  refine pa ?_
  refine nx ?_
  obtain ⟨v5x, h1, h0⟩ := bnd h0
  refine aw_cutE v5x (fun v5 => ⟨updA ((fun _ => .dead)) 1 (.d (.v (.int .i64 v5))), lks [.no, .no, .no]⟩) ?_ ?_
  refine sq [0] ?_
  refine pa ?_
  refine nx ?_
  refine aw_block ?_
  refine aw_loopM (fun s3 => ⟨updA (updA (updA ((fun _ => .dead)) 0 (.d (.sl (List.map cI p0)))) 1 (.d (.v (.int .i64 s3.1)))) 5 (.d (.v (.int .i64 s3.2))), lks [.no, .no, .no]⟩) h1 ?_ (fun s3 y h2 => ?_)
  exact wk [0, 1, 2]
  refine aw_seq ?_
  refine sq [0,1,2,3] ?_
  refine pm ?_
  refine pm ?_
  refine rp rfl w0 rfl (pu_len_map tok rfl rfl rfl) ?_
  refine rp rfl w0 rfl (pu_lss rfl rfl) ?_
  refine nx ?_
  refine aw_if h2 rfl (fun hc h2 => ?_) (fun hc h2 => ?_)
  refine sk ?_
  refine aw_seq ?_
  refine aw_block ?_
  refine aw_seq ?_
  refine sq [0,1,2,3,4,5] ?_
  refine pm ?_
  refine pm ?_
  obtain ⟨v4, hv4, h2⟩ := bnd h2
  refine rp rfl w0 rfl (sl_ix tok hv4 rfl rfl rfl rfl rfl rfl) ?_
  refine lr tok ?_
  refine pm ?_
  refine rp rfl w0 rfl (pu_neq rfl rfl) ?_
  refine nx ?_
  refine aw_if h2 rfl (fun hc h2 => ?_) (fun hc h2 => ?_)
  refine sq [0] ?_
  refine pa ?_
  refine nx ?_
  refine aw_ret ?_
  refine then_r ?_
  refine block_r ?_
  refine then_r ?_
  cases h2
  refine loop_r ⟨_, rfl, fun e => ?_⟩
  subst e
  refine block_r ?_
  replace h0 := orE_s h0
  refine then_r ?_
  cases h0
  exact ret0_ (rs := [.tmp 4]) rfl
  refine sk ?_
  refine sr [0,1,2] ?_
  refine pm ?_
  refine rp rfl w0 rfl (pw_add rfl rfl) ?_
  refine pa ?_
  refine ra_nil ?_
  refine block_n ?_
  refine then_n ?_
  refine sr [0,1,2] ?_
  refine pm ?_
  refine rp rfl w0 rfl (pw_add rfl rfl) ?_
  refine pa ?_
  refine ra_nil ?_
  refine loop_n ?_
  cases h2
  refine ⟨_, rfl, ?_⟩
  exact wk [0, 1, 2]
  refine aw_exit ?_
  refine then_e ?_
  cases h2
  refine loop_x ⟨_, rfl, fun e => ?_⟩
  subst e
  refine block_hit ?_
  refine then_n ?_
  refine ⟨_, rfl, ?_⟩
  exact wk [0, 1, 2]
  rintro v5 rfl
  replace h0 := orE_f h0
  refine sq [0,1] ?_
  refine pm ?_
  refine pa ?_
  refine nx ?_
  refine aw_ret ?_
  cases h0
  exact ret0_ (rs := [.tmp 4]) rfl

theorem l_heldArborS_c {p0 : List Arbor_} {p1 : Int} {r : Int} (h0 : l_heldArborS_m p0 p1 = some r) : FnC Tryz.prog 148 [] [.d (.sl (List.map cArbor_ p0)), .d (.v (.int .i64 p1))] [] (.d (.v (.int .i64 r))) := by
  refine fnc_intro (T := tt) (N := 32) tok Tryz.func148 rfl rfl (by kernel_rfl) rfl rfl ?_
  unfold l_heldArborS_m at h0
  refine sq [0] ?_
  refine pa ?_
  refine nx ?_
  obtain ⟨v11x, h1, h0⟩ := bnd h0
  refine aw_cutE v11x (fun v11 => ⟨updA ((fun _ => .dead)) 1 (.d (.v (.int .i64 v11))), lks [.no, .no, .no]⟩) ?_ ?_
  refine sq [0] ?_
  refine pa ?_
  refine nx ?_
  refine aw_block ?_
  refine aw_loopM (fun s6 => ⟨updA (updA (updA ((fun _ => .dead)) 0 (.d (.sl (List.map cArbor_ p0)))) 1 (.d (.v (.int .i64 s6.1)))) 5 (.d (.v (.int .i64 s6.2))), lks [.no, .no, .no]⟩) h1 ?_ (fun s6 y h2 => ?_)
  exact wk [0, 1, 2]
  refine aw_seq ?_
  refine sq [0,1,2,3] ?_
  refine pm ?_
  refine pm ?_
  refine rp rfl w0 rfl (pu_len_map tok rfl rfl rfl) ?_
  refine rp rfl w0 rfl (pu_lss rfl rfl) ?_
  refine nx ?_
  refine aw_if h2 rfl (fun hc h2 => ?_) (fun hc h2 => ?_)
  refine sk ?_
  refine aw_seq ?_
  refine aw_block ?_
  refine aw_seq ?_
  refine aw_seq ?_
  refine aw_region_draw (is := [0, 1, 2, 3, 4, 5, 6, 7]) [0, 0, 3, 7, 15, 0, 32, 127] follows (by kernel_rfl) ?_
  refine tpm ?_
  refine tpm ?_
  obtain ⟨v7, hv7, h2⟩ := bnd h2
  refine rt_p rfl w0 rfl (sl_ix tok hv7 rfl rfl rfl rfl rfl rfl) ?_
  refine tfr tok ?_
  refine tlr tok ?_
  refine tpm ?_
  obtain ⟨v8, hv8, h2⟩ := bnd h2
  refine rt_c rfl w0 rfl (b_call 3 (l_markText_c hv8) rfl rfl rfl) ?_
  refine rt_p rfl w0 rfl (pu_sneq rfl rfl) ?_
  refine rt_nil ?_
  refine ⟨by kernel_rfl, ?_⟩
  refine then_n ?_
  refine aw_if h2 rfl (fun hc h2 => ?_) (fun hc h2 => ?_)
  refine sq [0] ?_
  refine pa ?_
  refine nx ?_
  refine aw_ret ?_
  refine then_r ?_
  refine block_r ?_
  refine then_r ?_
  cases h2
  refine loop_r ⟨_, rfl, fun e => ?_⟩
  subst e
  refine block_r ?_
  replace h0 := orE_s h0
  refine then_r ?_
  cases h0
  exact ret0_ (rs := [.tmp 4]) rfl
  refine sk ?_
  refine sq [0,1,2] ?_
  refine pm ?_
  refine rp rfl w0 rfl (pw_add rfl rfl) ?_
  refine pa ?_
  refine nx ?_
  refine sq [0,1,2,3,4,5,6,7] ?_
  refine pm ?_
  refine pm ?_
  obtain ⟨v9, hv9, h2⟩ := bnd h2
  refine rp rfl w0 rfl (sl_ix tok hv9 rfl rfl rfl rfl rfl rfl) ?_
  refine fr tok ?_
  refine lr tok ?_
  refine pm ?_
  obtain ⟨v10, hv10, h2⟩ := bnd h2
  refine rs rfl w0 rfl (c_call 3 (l_heldInt64S_c hv10) rfl rfl rfl) ?_
  refine pa ?_
  refine nx ?_
  refine sq [0,1] ?_
  refine pm ?_
  refine rp rfl w0 rfl (pu_lss rfl rfl) ?_
  refine nx ?_
  refine aw_if h2 rfl (fun hc h2 => ?_) (fun hc h2 => ?_)
  refine sq [0] ?_
  refine pa ?_
  refine nx ?_
  refine aw_ret ?_
  refine block_r ?_
  refine then_r ?_
  cases h2
  refine loop_r ⟨_, rfl, fun e => ?_⟩
  subst e
  refine block_r ?_
  replace h0 := orE_s h0
  refine then_r ?_
  cases h0
  exact ret0_ (rs := [.tmp 4]) rfl
  refine aw_skip ?_
  refine block_n ?_
  refine then_n ?_
  refine sr [0,1,2] ?_
  refine pm ?_
  refine rp rfl w0 rfl (pw_add rfl rfl) ?_
  refine pa ?_
  refine ra_nil ?_
  refine loop_n ?_
  cases h2
  refine ⟨_, rfl, ?_⟩
  exact wk [0, 1, 2]
  refine aw_exit ?_
  refine then_e ?_
  cases h2
  refine loop_x ⟨_, rfl, fun e => ?_⟩
  subst e
  refine block_hit ?_
  refine then_n ?_
  refine ⟨_, rfl, ?_⟩
  exact wk [0, 1, 2]
  rintro v11 rfl
  replace h0 := orE_f h0
  refine sq [0,1] ?_
  refine pm ?_
  refine pa ?_
  refine nx ?_
  refine aw_ret ?_
  cases h0
  exact ret0_ (rs := [.tmp 4]) rfl

theorem l_heldMeshS_c {p0 : List Mesh_} {p1 : Int} {r : Int} (h0 : l_heldMeshS_m p0 p1 = some r) : FnC Tryz.prog 149 [] [.d (.sl (List.map cMesh_ p0)), .d (.v (.int .i64 p1))] [] (.d (.v (.int .i64 r))) := by
  refine fnc_intro (T := tt) (N := 49) tok Tryz.func149 rfl rfl (by kernel_rfl) rfl rfl ?_
  unfold l_heldMeshS_m at h0
  refine sq [0] ?_
  refine pa ?_
  refine nx ?_
  obtain ⟨v11x, h1, h0⟩ := bnd h0
  refine aw_cutE v11x (fun v11 => ⟨updA ((fun _ => .dead)) 1 (.d (.v (.int .i64 v11))), lks [.no, .no, .no]⟩) ?_ ?_
  refine sq [0] ?_
  refine pa ?_
  refine nx ?_
  refine aw_block ?_
  refine aw_loopM (fun s6 => ⟨updA (updA (updA ((fun _ => .dead)) 0 (.d (.sl (List.map cMesh_ p0)))) 1 (.d (.v (.int .i64 s6.1)))) 5 (.d (.v (.int .i64 s6.2))), lks [.no, .no, .no]⟩) h1 ?_ (fun s6 y h2 => ?_)
  exact wk [0, 1, 2]
  refine aw_seq ?_
  refine sq [0,1,2,3] ?_
  refine pm ?_
  refine pm ?_
  refine rp rfl w0 rfl (pu_len_map tok rfl rfl rfl) ?_
  refine rp rfl w0 rfl (pu_lss rfl rfl) ?_
  refine nx ?_
  refine aw_if h2 rfl (fun hc h2 => ?_) (fun hc h2 => ?_)
  refine sk ?_
  refine aw_seq ?_
  refine aw_block ?_
  refine aw_seq ?_
  refine sq [0,1,2,3,4,5,6] ?_
  refine pm ?_
  refine pm ?_
  obtain ⟨v7, hv7, h2⟩ := bnd h2
  refine rp rfl w0 rfl (sl_ix tok hv7 rfl rfl rfl rfl rfl rfl) ?_
  refine fr tok ?_
  refine lr tok ?_
  refine pm ?_
  refine rp rfl w0 rfl (pu_neq rfl rfl) ?_
  refine nx ?_
  refine aw_if h2 rfl (fun hc h2 => ?_) (fun hc h2 => ?_)
  refine sq [0] ?_
  refine pa ?_
  refine nx ?_
  refine aw_ret ?_
  refine then_r ?_
  refine block_r ?_
  refine then_r ?_
  cases h2
  refine loop_r ⟨_, rfl, fun e => ?_⟩
  subst e
  refine block_r ?_
  replace h0 := orE_s h0
  refine then_r ?_
  cases h0
  exact ret0_ (rs := [.tmp 4]) rfl
  refine sk ?_
  refine sq [0,1,2] ?_
  refine pm ?_
  refine rp rfl w0 rfl (pw_add rfl rfl) ?_
  refine pa ?_
  refine nx ?_
  refine aw_seq ?_
  refine sq [0,1,2,3,4,5,6] ?_
  refine pm ?_
  refine pm ?_
  obtain ⟨v8, hv8, h2⟩ := bnd h2
  refine rp rfl w0 rfl (sl_ix tok hv8 rfl rfl rfl rfl rfl rfl) ?_
  refine fr tok ?_
  refine lr tok ?_
  refine pm ?_
  refine rp rfl w0 rfl (pu_neq rfl rfl) ?_
  refine nx ?_
  refine aw_if h2 rfl (fun hc h2 => ?_) (fun hc h2 => ?_)
  refine sq [0] ?_
  refine pa ?_
  refine nx ?_
  refine aw_ret ?_
  refine then_r ?_
  refine block_r ?_
  refine then_r ?_
  cases h2
  refine loop_r ⟨_, rfl, fun e => ?_⟩
  subst e
  refine block_r ?_
  replace h0 := orE_s h0
  refine then_r ?_
  cases h0
  exact ret0_ (rs := [.tmp 4]) rfl
  refine sk ?_
  refine sq [0,1,2] ?_
  refine pm ?_
  refine rp rfl w0 rfl (pw_add rfl rfl) ?_
  refine pa ?_
  refine nx ?_
  refine aw_seq ?_
  refine sq [0,1,2,3,4,5,6] ?_
  refine pm ?_
  refine pm ?_
  obtain ⟨v9, hv9, h2⟩ := bnd h2
  refine rp rfl w0 rfl (sl_ix tok hv9 rfl rfl rfl rfl rfl rfl) ?_
  refine fr tok ?_
  refine lr tok ?_
  refine pm ?_
  refine rp rfl w0 rfl (pu_neq rfl rfl) ?_
  refine nx ?_
  refine aw_if h2 rfl (fun hc h2 => ?_) (fun hc h2 => ?_)
  refine sq [0] ?_
  refine pa ?_
  refine nx ?_
  refine aw_ret ?_
  refine then_r ?_
  refine block_r ?_
  refine then_r ?_
  cases h2
  refine loop_r ⟨_, rfl, fun e => ?_⟩
  subst e
  refine block_r ?_
  replace h0 := orE_s h0
  refine then_r ?_
  cases h0
  exact ret0_ (rs := [.tmp 4]) rfl
  refine sk ?_
  refine sq [0,1,2] ?_
  refine pm ?_
  refine rp rfl w0 rfl (pw_add rfl rfl) ?_
  refine pa ?_
  refine nx ?_
  refine aw_seq ?_
  refine sq [0,1,2,3,4,5,6] ?_
  refine pm ?_
  refine pm ?_
  obtain ⟨v10, hv10, h2⟩ := bnd h2
  refine rp rfl w0 rfl (sl_ix tok hv10 rfl rfl rfl rfl rfl rfl) ?_
  refine fr tok ?_
  refine lr tok ?_
  refine pm ?_
  refine rp rfl w0 rfl (pu_neq rfl rfl) ?_
  refine nx ?_
  refine aw_if h2 rfl (fun hc h2 => ?_) (fun hc h2 => ?_)
  refine sq [0] ?_
  refine pa ?_
  refine nx ?_
  refine aw_ret ?_
  refine then_r ?_
  refine block_r ?_
  refine then_r ?_
  cases h2
  refine loop_r ⟨_, rfl, fun e => ?_⟩
  subst e
  refine block_r ?_
  replace h0 := orE_s h0
  refine then_r ?_
  cases h0
  exact ret0_ (rs := [.tmp 4]) rfl
  refine sk ?_
  refine sr [0,1,2] ?_
  refine pm ?_
  refine rp rfl w0 rfl (pw_add rfl rfl) ?_
  refine pa ?_
  refine ra_nil ?_
  refine block_n ?_
  refine then_n ?_
  refine sr [0,1,2] ?_
  refine pm ?_
  refine rp rfl w0 rfl (pw_add rfl rfl) ?_
  refine pa ?_
  refine ra_nil ?_
  refine loop_n ?_
  cases h2
  refine ⟨_, rfl, ?_⟩
  exact wk [0, 1, 2]
  refine aw_exit ?_
  refine then_e ?_
  cases h2
  refine loop_x ⟨_, rfl, fun e => ?_⟩
  subst e
  refine block_hit ?_
  refine then_n ?_
  refine ⟨_, rfl, ?_⟩
  exact wk [0, 1, 2]
  rintro v11 rfl
  replace h0 := orE_f h0
  refine sq [0,1] ?_
  refine pm ?_
  refine pa ?_
  refine nx ?_
  refine aw_ret ?_
  cases h0
  exact ret0_ (rs := [.tmp 4]) rfl

theorem l_heldWorks_c {p0 : Works_} {p1 : Int} {r : Int} (h0 : l_heldWorks_m p0 p1 = some r) : FnC Tryz.prog 87 [] [.agg [.d (.sl (List.map cArbor_ p0.Arbors)), .d (.sl (List.map cMesh_ p0.Meshes))], .d (.v (.int .i64 p1))] [] (.d (.v (.int .i64 r))) := by
  refine fnc_intro (T := tt) (N := 18) tok Tryz.func87 rfl rfl (by kernel_rfl) rfl rfl ?_
  unfold l_heldWorks_m at h0
  refine sq [0,1] ?_
  refine rs rfl w0 rfl (st_box 3 (cs := _ :: _) rfl rfl rfl) ?_
  refine pa ?_
  refine nx ?_
  refine sq [0,1,2,3,4] ?_
  refine fa tok ?_
  refine ld tok ?_
  refine pm ?_
  obtain ⟨v1, hv1, h0⟩ := bnd h0
  refine rs rfl w0 rfl (c_call 4 (l_heldArborS_c hv1) rfl rfl rfl) ?_
  refine pa ?_
  refine nx ?_
  refine aw_seq ?_
  refine sq [0,1] ?_
  refine pm ?_
  refine rp rfl w0 rfl (pu_lss rfl rfl) ?_
  refine nx ?_
  refine aw_if h0 rfl (fun hc h0 => ?_) (fun hc h0 => ?_)
  refine sq [0] ?_
  refine pa ?_
  refine nx ?_
  refine aw_ret ?_
  refine then_r ?_
  cases h0
  exact ret0_ (rs := [.tmp 4]) rfl
  refine sk ?_
  refine sq [0,1,2,3,4] ?_
  refine fa tok ?_
  refine ld tok ?_
  refine pm ?_
  obtain ⟨v2, hv2, h0⟩ := bnd h0
  refine rs rfl w0 rfl (c_call 4 (l_heldMeshS_c hv2) rfl rfl rfl) ?_
  refine pa ?_
  refine nx ?_
  refine aw_seq ?_
  refine sq [0,1] ?_
  refine pm ?_
  refine rp rfl w0 rfl (pu_lss rfl rfl) ?_
  refine nx ?_
  refine aw_if h0 rfl (fun hc h0 => ?_) (fun hc h0 => ?_)
  refine sq [0] ?_
  refine pa ?_
  refine nx ?_
  refine aw_ret ?_
  refine then_r ?_
  cases h0
  exact ret0_ (rs := [.tmp 4]) rfl
  refine sk ?_
  refine sq [0,1] ?_
  refine pm ?_
  refine pa ?_
  refine nx ?_
  refine aw_ret ?_
  cases h0
  exact ret0_ (rs := [.tmp 4]) rfl

theorem l_heldMonthS_c {p0 : List Month_} {p1 : Int} {r : Int} (h0 : l_heldMonthS_m p0 p1 = some r) : FnC Tryz.prog 150 [] [.d (.sl (List.map cMonth_ p0)), .d (.v (.int .i64 p1))] [] (.d (.v (.int .i64 r))) := by
  refine fnc_intro (T := tt) (N := 41) tok Tryz.func150 rfl rfl (by kernel_rfl) rfl rfl ?_
  unfold l_heldMonthS_m at h0
  refine sq [0] ?_
  refine pa ?_
  refine nx ?_
  obtain ⟨v11x, h1, h0⟩ := bnd h0
  refine aw_cutE v11x (fun v11 => ⟨updA ((fun _ => .dead)) 1 (.d (.v (.int .i64 v11))), lks [.no, .no, .no]⟩) ?_ ?_
  refine sq [0] ?_
  refine pa ?_
  refine nx ?_
  refine aw_block ?_
  refine aw_loopM (fun s6 => ⟨updA (updA (updA ((fun _ => .dead)) 0 (.d (.sl (List.map cMonth_ p0)))) 1 (.d (.v (.int .i64 s6.1)))) 5 (.d (.v (.int .i64 s6.2))), lks [.no, .no, .no]⟩) h1 ?_ (fun s6 y h2 => ?_)
  exact wk [0, 1, 2]
  refine aw_seq ?_
  refine sq [0,1,2,3] ?_
  refine pm ?_
  refine pm ?_
  refine rp rfl w0 rfl (pu_len_map tok rfl rfl rfl) ?_
  refine rp rfl w0 rfl (pu_lss rfl rfl) ?_
  refine nx ?_
  refine aw_if h2 rfl (fun hc h2 => ?_) (fun hc h2 => ?_)
  refine sk ?_
  refine aw_seq ?_
  refine aw_block ?_
  refine aw_seq ?_
  refine aw_seq ?_
  refine aw_region_draw (is := [0, 1, 2, 3, 4, 5, 6, 7]) [0, 0, 3, 7, 15, 0, 32, 127] follows (by kernel_rfl) ?_
  refine tpm ?_
  refine tpm ?_
  obtain ⟨v7, hv7, h2⟩ := bnd h2
  refine rt_p rfl w0 rfl (sl_ix tok hv7 rfl rfl rfl rfl rfl rfl) ?_
  refine tfr tok ?_
  refine tlr tok ?_
  refine tpm ?_
  obtain ⟨v8, hv8, h2⟩ := bnd h2
  refine rt_c rfl w0 rfl (b_call 3 (l_markText_c hv8) rfl rfl rfl) ?_
  refine rt_p rfl w0 rfl (pu_sneq rfl rfl) ?_
  refine rt_nil ?_
  refine ⟨by kernel_rfl, ?_⟩
  refine then_n ?_
  refine aw_if h2 rfl (fun hc h2 => ?_) (fun hc h2 => ?_)
  refine sq [0] ?_
  refine pa ?_
  refine nx ?_
  refine aw_ret ?_
  refine then_r ?_
  refine block_r ?_
  refine then_r ?_
  cases h2
  refine loop_r ⟨_, rfl, fun e => ?_⟩
  subst e
  refine block_r ?_
  replace h0 := orE_s h0
  refine then_r ?_
  cases h0
  exact ret0_ (rs := [.tmp 4]) rfl
  refine sk ?_
  refine sq [0,1,2] ?_
  refine pm ?_
  refine rp rfl w0 rfl (pw_add rfl rfl) ?_
  refine pa ?_
  refine nx ?_
  refine aw_seq ?_
  refine sq [0,1,2,3,4,5,6] ?_
  refine pm ?_
  refine pm ?_
  obtain ⟨v9, hv9, h2⟩ := bnd h2
  refine rp rfl w0 rfl (sl_ix tok hv9 rfl rfl rfl rfl rfl rfl) ?_
  refine fr tok ?_
  refine lr tok ?_
  refine pm ?_
  refine rp rfl w0 rfl (pu_neq rfl rfl) ?_
  refine nx ?_
  refine aw_if h2 rfl (fun hc h2 => ?_) (fun hc h2 => ?_)
  refine sq [0] ?_
  refine pa ?_
  refine nx ?_
  refine aw_ret ?_
  refine then_r ?_
  refine block_r ?_
  refine then_r ?_
  cases h2
  refine loop_r ⟨_, rfl, fun e => ?_⟩
  subst e
  refine block_r ?_
  replace h0 := orE_s h0
  refine then_r ?_
  cases h0
  exact ret0_ (rs := [.tmp 4]) rfl
  refine sk ?_
  refine sq [0,1,2] ?_
  refine pm ?_
  refine rp rfl w0 rfl (pw_add rfl rfl) ?_
  refine pa ?_
  refine nx ?_
  refine aw_seq ?_
  refine sq [0,1,2,3,4,5,6] ?_
  refine pm ?_
  refine pm ?_
  obtain ⟨v10, hv10, h2⟩ := bnd h2
  refine rp rfl w0 rfl (sl_ix tok hv10 rfl rfl rfl rfl rfl rfl) ?_
  refine fr tok ?_
  refine lr tok ?_
  refine pm ?_
  refine rp rfl w0 rfl (pu_neq rfl rfl) ?_
  refine nx ?_
  refine aw_if h2 rfl (fun hc h2 => ?_) (fun hc h2 => ?_)
  refine sq [0] ?_
  refine pa ?_
  refine nx ?_
  refine aw_ret ?_
  refine then_r ?_
  refine block_r ?_
  refine then_r ?_
  cases h2
  refine loop_r ⟨_, rfl, fun e => ?_⟩
  subst e
  refine block_r ?_
  replace h0 := orE_s h0
  refine then_r ?_
  cases h0
  exact ret0_ (rs := [.tmp 4]) rfl
  refine sk ?_
  refine sr [0,1,2] ?_
  refine pm ?_
  refine rp rfl w0 rfl (pw_add rfl rfl) ?_
  refine pa ?_
  refine ra_nil ?_
  refine block_n ?_
  refine then_n ?_
  refine sr [0,1,2] ?_
  refine pm ?_
  refine rp rfl w0 rfl (pw_add rfl rfl) ?_
  refine pa ?_
  refine ra_nil ?_
  refine loop_n ?_
  cases h2
  refine ⟨_, rfl, ?_⟩
  exact wk [0, 1, 2]
  refine aw_exit ?_
  refine then_e ?_
  cases h2
  refine loop_x ⟨_, rfl, fun e => ?_⟩
  subst e
  refine block_hit ?_
  refine then_n ?_
  refine ⟨_, rfl, ?_⟩
  exact wk [0, 1, 2]
  rintro v11 rfl
  replace h0 := orE_f h0
  refine sq [0,1] ?_
  refine pm ?_
  refine pa ?_
  refine nx ?_
  refine aw_ret ?_
  cases h0
  exact ret0_ (rs := [.tmp 4]) rfl

theorem l_heldLeapRuleS_c {p0 : List LeapRule_} {p1 : Int} {r : Int} (h0 : l_heldLeapRuleS_m p0 p1 = some r) : FnC Tryz.prog 151 [] [.d (.sl (List.map cLeapRule_ p0)), .d (.v (.int .i64 p1))] [] (.d (.v (.int .i64 r))) := by
  refine fnc_intro (T := tt) (N := 42) tok Tryz.func151 rfl rfl (by kernel_rfl) rfl rfl ?_
  unfold l_heldLeapRuleS_m at h0
  refine sq [0] ?_
  refine pa ?_
  refine nx ?_
  obtain ⟨v11x, h1, h0⟩ := bnd h0
  refine aw_cutE v11x (fun v11 => ⟨updA ((fun _ => .dead)) 1 (.d (.v (.int .i64 v11))), lks [.no, .no, .no]⟩) ?_ ?_
  refine sq [0] ?_
  refine pa ?_
  refine nx ?_
  refine aw_block ?_
  refine aw_loopM (fun s6 => ⟨updA (updA (updA ((fun _ => .dead)) 0 (.d (.sl (List.map cLeapRule_ p0)))) 1 (.d (.v (.int .i64 s6.1)))) 5 (.d (.v (.int .i64 s6.2))), lks [.no, .no, .no]⟩) h1 ?_ (fun s6 y h2 => ?_)
  exact wk [0, 1, 2]
  refine aw_seq ?_
  refine sq [0,1,2,3] ?_
  refine pm ?_
  refine pm ?_
  refine rp rfl w0 rfl (pu_len_map tok rfl rfl rfl) ?_
  refine rp rfl w0 rfl (pu_lss rfl rfl) ?_
  refine nx ?_
  refine aw_if h2 rfl (fun hc h2 => ?_) (fun hc h2 => ?_)
  refine sk ?_
  refine aw_seq ?_
  refine aw_block ?_
  refine aw_seq ?_
  refine sq [0,1,2,3,4,5,6] ?_
  refine pm ?_
  refine pm ?_
  obtain ⟨v7, hv7, h2⟩ := bnd h2
  refine rp rfl w0 rfl (sl_ix tok hv7 rfl rfl rfl rfl rfl rfl) ?_
  refine fr tok ?_
  refine lr tok ?_
  refine pm ?_
  refine rp rfl w0 rfl (pu_neq rfl rfl) ?_
  refine nx ?_
  refine aw_if h2 rfl (fun hc h2 => ?_) (fun hc h2 => ?_)
  refine sq [0] ?_
  refine pa ?_
  refine nx ?_
  refine aw_ret ?_
  refine then_r ?_
  refine block_r ?_
  refine then_r ?_
  cases h2
  refine loop_r ⟨_, rfl, fun e => ?_⟩
  subst e
  refine block_r ?_
  replace h0 := orE_s h0
  refine then_r ?_
  cases h0
  exact ret0_ (rs := [.tmp 4]) rfl
  refine sk ?_
  refine sq [0,1,2] ?_
  refine pm ?_
  refine rp rfl w0 rfl (pw_add rfl rfl) ?_
  refine pa ?_
  refine nx ?_
  refine aw_seq ?_
  refine sq [0,1,2,3,4,5,6] ?_
  refine pm ?_
  refine pm ?_
  obtain ⟨v8, hv8, h2⟩ := bnd h2
  refine rp rfl w0 rfl (sl_ix tok hv8 rfl rfl rfl rfl rfl rfl) ?_
  refine fr tok ?_
  refine lr tok ?_
  refine pm ?_
  refine rp rfl w0 rfl (pu_neq rfl rfl) ?_
  refine nx ?_
  refine aw_if h2 rfl (fun hc h2 => ?_) (fun hc h2 => ?_)
  refine sq [0] ?_
  refine pa ?_
  refine nx ?_
  refine aw_ret ?_
  refine then_r ?_
  refine block_r ?_
  refine then_r ?_
  cases h2
  refine loop_r ⟨_, rfl, fun e => ?_⟩
  subst e
  refine block_r ?_
  replace h0 := orE_s h0
  refine then_r ?_
  cases h0
  exact ret0_ (rs := [.tmp 4]) rfl
  refine sk ?_
  refine sq [0,1,2] ?_
  refine pm ?_
  refine rp rfl w0 rfl (pw_add rfl rfl) ?_
  refine pa ?_
  refine nx ?_
  refine aw_seq ?_
  refine sq [0,1,2,3,4,5,6,7,8] ?_
  refine pm ?_
  refine pm ?_
  obtain ⟨v9, hv9, h2⟩ := bnd h2
  refine rp rfl w0 rfl (sl_ix tok hv9 rfl rfl rfl rfl rfl rfl) ?_
  refine fr tok ?_
  refine lr tok ?_
  refine pm ?_
  refine rp rfl w0 rfl (pu_remw rfl rfl (by decide)) ?_
  refine rp rfl w0 rfl (pu_eql rfl rfl) ?_
  refine rp rfl w0 rfl (pu_bneq tok rfl rfl rfl rfl) ?_
  refine nx ?_
  refine aw_ifB h2 rfl (fun hc h2 => ?_) (fun hc h2 => ?_)
  refine sq [0] ?_
  refine pa ?_
  refine nx ?_
  refine aw_ret ?_
  refine then_r ?_
  refine block_r ?_
  refine then_r ?_
  cases h2
  refine loop_r ⟨_, rfl, fun e => ?_⟩
  subst e
  refine block_r ?_
  replace h0 := orE_s h0
  refine then_r ?_
  cases h0
  exact ret0_ (rs := [.tmp 4]) rfl
  refine sk ?_
  refine sr [0,1,2] ?_
  refine pm ?_
  refine rp rfl w0 rfl (pw_add rfl rfl) ?_
  refine pa ?_
  refine ra_nil ?_
  refine block_n ?_
  refine then_n ?_
  refine sr [0,1,2] ?_
  refine pm ?_
  refine rp rfl w0 rfl (pw_add rfl rfl) ?_
  refine pa ?_
  refine ra_nil ?_
  refine loop_n ?_
  cases h2
  refine ⟨_, rfl, ?_⟩
  exact wk [0, 1, 2]
  refine aw_exit ?_
  refine then_e ?_
  cases h2
  refine loop_x ⟨_, rfl, fun e => ?_⟩
  subst e
  refine block_hit ?_
  refine then_n ?_
  refine ⟨_, rfl, ?_⟩
  exact wk [0, 1, 2]
  rintro v11 rfl
  replace h0 := orE_f h0
  refine sq [0,1] ?_
  refine pm ?_
  refine pa ?_
  refine nx ?_
  refine aw_ret ?_
  cases h0
  exact ret0_ (rs := [.tmp 4]) rfl

theorem l_heldCalendar_c {p0 : Calendar_} {p1 : Int} {r : Int} (h0 : l_heldCalendar_m p0 p1 = some r) : FnC Tryz.prog 88 [] [.agg [.d (.v (.string p0.Name)), .d (.sl (List.map cMonth_ p0.Months)), .d (.sl (List.map cLeapRule_ p0.Rules)), .d (.v (.int .i64 p0.Week))], .d (.v (.int .i64 p1))] [] (.d (.v (.int .i64 r))) := by
  refine fnc_intro (T := tt) (N := 18) tok Tryz.func88 rfl rfl (by kernel_rfl) rfl rfl ?_
  unfold l_heldCalendar_m at h0
  refine sq [0,1] ?_
  refine rs rfl w0 rfl (st_box 3 (cs := _ :: _) rfl rfl rfl) ?_
  refine pa ?_
  refine nx ?_
  refine sq [0,1,2,3,4] ?_
  refine fa tok ?_
  refine ld tok ?_
  refine pm ?_
  obtain ⟨v1, hv1, h0⟩ := bnd h0
  refine rs rfl w0 rfl (c_call 4 (l_heldMonthS_c hv1) rfl rfl rfl) ?_
  refine pa ?_
  refine nx ?_
  refine aw_seq ?_
  refine sq [0,1] ?_
  refine pm ?_
  refine rp rfl w0 rfl (pu_lss rfl rfl) ?_
  refine nx ?_
  refine aw_if h0 rfl (fun hc h0 => ?_) (fun hc h0 => ?_)
  refine sq [0] ?_
  refine pa ?_
  refine nx ?_
  refine aw_ret ?_
  refine then_r ?_
  cases h0
  exact ret0_ (rs := [.tmp 4]) rfl
  refine sk ?_
  refine sq [0,1,2,3,4] ?_
  refine fa tok ?_
  refine ld tok ?_
  refine pm ?_
  obtain ⟨v2, hv2, h0⟩ := bnd h0
  refine rs rfl w0 rfl (c_call 4 (l_heldLeapRuleS_c hv2) rfl rfl rfl) ?_
  refine pa ?_
  refine nx ?_
  refine aw_seq ?_
  refine sq [0,1] ?_
  refine pm ?_
  refine rp rfl w0 rfl (pu_lss rfl rfl) ?_
  refine nx ?_
  refine aw_if h0 rfl (fun hc h0 => ?_) (fun hc h0 => ?_)
  refine sq [0] ?_
  refine pa ?_
  refine nx ?_
  refine aw_ret ?_
  refine then_r ?_
  cases h0
  exact ret0_ (rs := [.tmp 4]) rfl
  refine sk ?_
  refine sq [0,1] ?_
  refine pm ?_
  refine pa ?_
  refine nx ?_
  refine aw_ret ?_
  cases h0
  exact ret0_ (rs := [.tmp 4]) rfl

theorem l_heldMovement_c {p0 : Movement_} {p1 : Int} {r : Int} (h0 : l_heldMovement_m p0 p1 = some r) : FnC Tryz.prog 45 [] [.agg [.d (.v (.string p0.Name)), .d (.sl (List.map cArbor_ p0.Works.Arbors)), .d (.sl (List.map cMesh_ p0.Works.Meshes)), .d (.v (.int .i64 p0.Minute)), .d (.v (.int .i64 p0.Hour)), .d (.v (.int .i64 p0.Escape)), .d (.v (.int .i64 p0.Teeth)), .d (.v (.int .i64 p0.Beats)), .d (.v (.string p0.Calendar.Name)), .d (.sl (List.map cMonth_ p0.Calendar.Months)), .d (.sl (List.map cLeapRule_ p0.Calendar.Rules)), .d (.v (.int .i64 p0.Calendar.Week)), .d (.sl (List.map cI p0.Cam)), .d (.v (.int .i64 p0.Strike))], .d (.v (.int .i64 p1))] [] (.d (.v (.int .i64 r))) := by
  refine fnc_intro (T := tt) (N := 24) tok Tryz.func45 rfl rfl (by kernel_rfl) rfl rfl ?_
  unfold l_heldMovement_m at h0
  refine sq [0,1] ?_
  refine rs rfl w0 rfl (st_box 3 (cs := _ :: _) rfl rfl rfl) ?_
  refine pa ?_
  refine nx ?_
  refine sq [0,1,2,3,4] ?_
  refine fa tok ?_
  refine rl rfl w0 rfl (bx_ldN tok rfl rfl rfl rfl) ?_
  refine pm ?_
  obtain ⟨v1, hv1, h0⟩ := bnd h0
  refine rs rfl w0 rfl (c_call 4 (l_heldWorks_c hv1) rfl rfl rfl) ?_
  refine pa ?_
  refine nx ?_
  refine aw_seq ?_
  refine sq [0,1] ?_
  refine pm ?_
  refine rp rfl w0 rfl (pu_lss rfl rfl) ?_
  refine nx ?_
  refine aw_if h0 rfl (fun hc h0 => ?_) (fun hc h0 => ?_)
  refine sq [0] ?_
  refine pa ?_
  refine nx ?_
  refine aw_ret ?_
  refine then_r ?_
  cases h0
  exact ret0_ (rs := [.tmp 4]) rfl
  refine sk ?_
  refine sq [0,1,2,3,4] ?_
  refine fa tok ?_
  refine rl rfl w0 rfl (bx_ldN tok rfl rfl rfl rfl) ?_
  refine pm ?_
  obtain ⟨v2, hv2, h0⟩ := bnd h0
  refine rs rfl w0 rfl (c_call 4 (l_heldCalendar_c hv2) rfl rfl rfl) ?_
  refine pa ?_
  refine nx ?_
  refine aw_seq ?_
  refine sq [0,1] ?_
  refine pm ?_
  refine rp rfl w0 rfl (pu_lss rfl rfl) ?_
  refine nx ?_
  refine aw_if h0 rfl (fun hc h0 => ?_) (fun hc h0 => ?_)
  refine sq [0] ?_
  refine pa ?_
  refine nx ?_
  refine aw_ret ?_
  refine then_r ?_
  cases h0
  exact ret0_ (rs := [.tmp 4]) rfl
  refine sk ?_
  refine sq [0,1,2,3,4] ?_
  refine fa tok ?_
  refine ld tok ?_
  refine pm ?_
  obtain ⟨v3, hv3, h0⟩ := bnd h0
  refine rs rfl w0 rfl (c_call 4 (l_heldInt64S_c hv3) rfl rfl rfl) ?_
  refine pa ?_
  refine nx ?_
  refine aw_seq ?_
  refine sq [0,1] ?_
  refine pm ?_
  refine rp rfl w0 rfl (pu_lss rfl rfl) ?_
  refine nx ?_
  refine aw_if h0 rfl (fun hc h0 => ?_) (fun hc h0 => ?_)
  refine sq [0] ?_
  refine pa ?_
  refine nx ?_
  refine aw_ret ?_
  refine then_r ?_
  cases h0
  exact ret0_ (rs := [.tmp 4]) rfl
  refine sk ?_
  refine sq [0,1] ?_
  refine pm ?_
  refine pa ?_
  refine nx ?_
  refine aw_ret ?_
  cases h0
  exact ret0_ (rs := [.tmp 4]) rfl

theorem l_heldPerpetual_c {p0 : Perpetual_} {p1 : Int} {r : Int} (h0 : l_heldPerpetual_m p0 p1 = some r) : FnC Tryz.prog 46 [] [.agg [.d (.sl (List.map cI p0.Cam)), .d (.v (.int .i64 p0.Months)), .d (.v (.int .i64 p0.Teeth)), .d (.v (.int .i64 p0.At)), .d (.v (.int .i64 p0.Day)), .d (.v (.int .i64 p0.Week)), .d (.v (.int .i64 p0.Weekday))], .d (.v (.int .i64 p1))] [] (.d (.v (.int .i64 r))) := by
  refine fnc_intro (T := tt) (N := 12) tok Tryz.func46 rfl rfl (by kernel_rfl) rfl rfl ?_
  unfold l_heldPerpetual_m at h0
  refine sq [0,1] ?_
  refine rs rfl w0 rfl (st_box 3 (cs := _ :: _) rfl rfl rfl) ?_
  refine pa ?_
  refine nx ?_
  refine sq [0,1,2,3,4] ?_
  refine fa tok ?_
  refine ld tok ?_
  refine pm ?_
  obtain ⟨v1, hv1, h0⟩ := bnd h0
  refine rs rfl w0 rfl (c_call 4 (l_heldInt64S_c hv1) rfl rfl rfl) ?_
  refine pa ?_
  refine nx ?_
  refine aw_seq ?_
  refine sq [0,1] ?_
  refine pm ?_
  refine rp rfl w0 rfl (pu_lss rfl rfl) ?_
  refine nx ?_
  refine aw_if h0 rfl (fun hc h0 => ?_) (fun hc h0 => ?_)
  refine sq [0] ?_
  refine pa ?_
  refine nx ?_
  refine aw_ret ?_
  refine then_r ?_
  cases h0
  exact ret0_ (rs := [.tmp 4]) rfl
  refine sk ?_
  refine sq [0,1] ?_
  refine pm ?_
  refine pa ?_
  refine nx ?_
  refine aw_ret ?_
  cases h0
  exact ret0_ (rs := [.tmp 4]) rfl

theorem l_heldSim_c {p0 : Sim_} {p1 : Int} {r : Int} (h0 : l_heldSim_m p0 p1 = some r) : FnC Tryz.prog 13 [] [.agg [.d (.v (.string p0.Movement.Name)), .d (.sl (List.map cArbor_ p0.Movement.Works.Arbors)), .d (.sl (List.map cMesh_ p0.Movement.Works.Meshes)), .d (.v (.int .i64 p0.Movement.Minute)), .d (.v (.int .i64 p0.Movement.Hour)), .d (.v (.int .i64 p0.Movement.Escape)), .d (.v (.int .i64 p0.Movement.Teeth)), .d (.v (.int .i64 p0.Movement.Beats)), .d (.v (.string p0.Movement.Calendar.Name)), .d (.sl (List.map cMonth_ p0.Movement.Calendar.Months)), .d (.sl (List.map cLeapRule_ p0.Movement.Calendar.Rules)), .d (.v (.int .i64 p0.Movement.Calendar.Week)), .d (.sl (List.map cI p0.Movement.Cam)), .d (.v (.int .i64 p0.Movement.Strike)), .d (.v (.int .i64 p0.Start.Year)), .d (.v (.int .i64 p0.Start.Month)), .d (.v (.int .i64 p0.Start.Day)), .d (.v (.int .i64 p0.First)), .d (.v (.int .i64 p0.Clock)), .d (.sl (List.map cI p0.Dial.Cam)), .d (.v (.int .i64 p0.Dial.Months)), .d (.v (.int .i64 p0.Dial.Teeth)), .d (.v (.int .i64 p0.Dial.At)), .d (.v (.int .i64 p0.Dial.Day)), .d (.v (.int .i64 p0.Dial.Week)), .d (.v (.int .i64 p0.Dial.Weekday))], .d (.v (.int .i64 p1))] [] (.d (.v (.int .i64 r))) := by
  refine fnc_intro (T := tt) (N := 18) tok Tryz.func13 rfl rfl (by kernel_rfl) rfl rfl ?_
  unfold l_heldSim_m at h0
  refine sq [0,1] ?_
  refine rs rfl w0 rfl (st_box 3 (cs := _ :: _) rfl rfl rfl) ?_
  refine pa ?_
  refine nx ?_
  refine sq [0,1,2,3,4] ?_
  refine fa tok ?_
  refine rl rfl w0 rfl (bx_ldN tok rfl rfl rfl rfl) ?_
  refine pm ?_
  obtain ⟨v1, hv1, h0⟩ := bnd h0
  refine rs rfl w0 rfl (c_call 4 (l_heldMovement_c hv1) rfl rfl rfl) ?_
  refine pa ?_
  refine nx ?_
  refine aw_seq ?_
  refine sq [0,1] ?_
  refine pm ?_
  refine rp rfl w0 rfl (pu_lss rfl rfl) ?_
  refine nx ?_
  refine aw_if h0 rfl (fun hc h0 => ?_) (fun hc h0 => ?_)
  refine sq [0] ?_
  refine pa ?_
  refine nx ?_
  refine aw_ret ?_
  refine then_r ?_
  cases h0
  exact ret0_ (rs := [.tmp 4]) rfl
  refine sk ?_
  refine sq [0,1,2,3,4] ?_
  refine fa tok ?_
  refine rl rfl w0 rfl (bx_ldN tok rfl rfl rfl rfl) ?_
  refine pm ?_
  obtain ⟨v2, hv2, h0⟩ := bnd h0
  refine rs rfl w0 rfl (c_call 4 (l_heldPerpetual_c hv2) rfl rfl rfl) ?_
  refine pa ?_
  refine nx ?_
  refine aw_seq ?_
  refine sq [0,1] ?_
  refine pm ?_
  refine rp rfl w0 rfl (pu_lss rfl rfl) ?_
  refine nx ?_
  refine aw_if h0 rfl (fun hc h0 => ?_) (fun hc h0 => ?_)
  refine sq [0] ?_
  refine pa ?_
  refine nx ?_
  refine aw_ret ?_
  refine then_r ?_
  cases h0
  exact ret0_ (rs := [.tmp 4]) rfl
  refine sk ?_
  refine sq [0,1] ?_
  refine pm ?_
  refine pa ?_
  refine nx ?_
  refine aw_ret ?_
  cases h0
  exact ret0_ (rs := [.tmp 4]) rfl

theorem l_FnExactRunSim_c {p0 : Sim_} {p1 : Int} {r : Bool} (h0 : l_FnExactRunSim_m p0 p1 = some r) : FnC Tryz.prog 4 [] [.agg [.d (.v (.string p0.Movement.Name)), .d (.sl (List.map cArbor_ p0.Movement.Works.Arbors)), .d (.sl (List.map cMesh_ p0.Movement.Works.Meshes)), .d (.v (.int .i64 p0.Movement.Minute)), .d (.v (.int .i64 p0.Movement.Hour)), .d (.v (.int .i64 p0.Movement.Escape)), .d (.v (.int .i64 p0.Movement.Teeth)), .d (.v (.int .i64 p0.Movement.Beats)), .d (.v (.string p0.Movement.Calendar.Name)), .d (.sl (List.map cMonth_ p0.Movement.Calendar.Months)), .d (.sl (List.map cLeapRule_ p0.Movement.Calendar.Rules)), .d (.v (.int .i64 p0.Movement.Calendar.Week)), .d (.sl (List.map cI p0.Movement.Cam)), .d (.v (.int .i64 p0.Movement.Strike)), .d (.v (.int .i64 p0.Start.Year)), .d (.v (.int .i64 p0.Start.Month)), .d (.v (.int .i64 p0.Start.Day)), .d (.v (.int .i64 p0.First)), .d (.v (.int .i64 p0.Clock)), .d (.sl (List.map cI p0.Dial.Cam)), .d (.v (.int .i64 p0.Dial.Months)), .d (.v (.int .i64 p0.Dial.Teeth)), .d (.v (.int .i64 p0.Dial.At)), .d (.v (.int .i64 p0.Dial.Day)), .d (.v (.int .i64 p0.Dial.Week)), .d (.v (.int .i64 p0.Dial.Weekday))], .d (.v (.int .i64 p1))] [] (.d (.v (.bool r))) := by
  refine fnc_intro (T := tt) (N := 122) tok Tryz.func4 rfl rfl (by kernel_rfl) rfl rfl ?_
  unfold l_FnExactRunSim_m at h0
  refine sq [0,1] ?_
  refine rs rfl w0 rfl (st_box 3 (cs := _ :: _) rfl rfl rfl) ?_
  refine pa ?_
  refine nx ?_
  refine sq [0] ?_
  refine pa ?_
  refine nx ?_
  refine sq [0,1,2,3] ?_
  refine rl rfl w0 rfl (bx_ldN tok rfl rfl rfl rfl) ?_
  refine pm ?_
  obtain ⟨v1, hv1, h0⟩ := bnd h0
  refine rs rfl w0 rfl (c_call 4 (l_szSim_c hv1) rfl rfl rfl) ?_
  refine pa ?_
  refine nx ?_
  refine aw_seq ?_
  refine sq [0,1] ?_
  refine pm ?_
  refine rp rfl w0 rfl (pu_lss rfl rfl) ?_
  refine nx ?_
  refine aw_if h0 rfl (fun hc h0 => ?_) (fun hc h0 => ?_)
  refine sq [0] ?_
  refine pa ?_
  refine nx ?_
  refine aw_ret ?_
  refine then_r ?_
  cases h0
  exact ret0_ (rs := [.tmp 4]) rfl
  refine sk ?_
  refine sq [0,1,2,3,4,5,6,7,8,9,10,11] ?_
  refine rl rfl w0 rfl (bx_ldN tok rfl rfl rfl rfl) ?_
  obtain ⟨v2, hv2, h0⟩ := bnd h0
  refine rs rfl w0 rfl (c_call 4 (l_toSim_c hv2) rfl rfl rfl) ?_
  refine pm ?_
  obtain ⟨v3, hv3, h0⟩ := bnd h0
  refine rs rfl w0 rfl (c_callV 11 (s_RunSim_c hv3) rfl rfl) ?_
  refine rp rfl w0 rfl (pu_move (r := .tup _) rfl) ?_
  iterate 3 refine rp rfl w0 rfl (pu_extract rfl rfl) ?_
  refine rs rfl w0 rfl (st_alloc 18 (cs := [.d (.v (.string (⟨#[]⟩ : ByteArray))), .d (.v (.slice none 0 0)), .d (.v (.slice none 0 0)), .d (.v (.int .i64 0)), .d (.v (.int .i64 0)), .d (.v (.int .i64 0)), .d (.v (.int .i64 0)), .d (.v (.int .i64 0)), .d (.v (.string (⟨#[]⟩ : ByteArray))), .d (.v (.slice none 0 0)), .d (.v (.slice none 0 0)), .d (.v (.int .i64 0)), .d (.v (.slice none 0 0)), .d (.v (.int .i64 0)), .d (.v (.int .i64 0)), .d (.v (.int .i64 0)), .d (.v (.int .i64 0)), .d (.v (.int .i64 0)), .d (.v (.int .i64 0)), .d (.v (.slice none 0 0)), .d (.v (.int .i64 0)), .d (.v (.int .i64 0)), .d (.v (.int .i64 0)), .d (.v (.int .i64 0)), .d (.v (.int .i64 0)), .d (.v (.int .i64 0))]) tok rfl rfl rfl) ?_
  refine rw0 rfl w0 (bx_st (cs := _ :: _) tok rfl rfl rfl rfl rfl rfl rfl) ?_
  refine pa ?_
  refine pa ?_
  refine nx ?_
  refine sq [0,1,2,3] ?_
  refine rl rfl w0 rfl (bx_ldN tok rfl rfl rfl rfl) ?_
  obtain ⟨v4, hv4, h0⟩ := bnd h0
  refine rs rfl w0 rfl (c_call 19 (l_toSim_c hv4) rfl rfl rfl) ?_
  refine rs rfl w0 rfl (st_alloc 26 (cs := [.d (.v (.string (⟨#[]⟩ : ByteArray))), .d (.v (.slice none 0 0)), .d (.v (.slice none 0 0)), .d (.v (.int .i64 0)), .d (.v (.int .i64 0)), .d (.v (.int .i64 0)), .d (.v (.int .i64 0)), .d (.v (.int .i64 0)), .d (.v (.string (⟨#[]⟩ : ByteArray))), .d (.v (.slice none 0 0)), .d (.v (.slice none 0 0)), .d (.v (.int .i64 0)), .d (.v (.slice none 0 0)), .d (.v (.int .i64 0)), .d (.v (.int .i64 0)), .d (.v (.int .i64 0)), .d (.v (.int .i64 0)), .d (.v (.int .i64 0)), .d (.v (.int .i64 0)), .d (.v (.slice none 0 0)), .d (.v (.int .i64 0)), .d (.v (.int .i64 0)), .d (.v (.int .i64 0)), .d (.v (.int .i64 0)), .d (.v (.int .i64 0)), .d (.v (.int .i64 0))]) tok rfl rfl rfl) ?_
  refine rw0 rfl w0 (bx_st (cs := _ :: _) tok rfl rfl rfl rfl rfl rfl rfl) ?_
  refine nx ?_
  refine sq [0,1,2,3,4,5,6,7,8,9,10] ?_
  refine rl rfl w0 rfl (bx_ldN tok rfl rfl rfl rfl) ?_
  refine pm ?_
  obtain ⟨v5, hv5, h0⟩ := bnd h0
  refine rs rfl w0 rfl (c_callV 27 (i_RunSim_c hv5) rfl rfl) ?_
  refine rp rfl w0 rfl (pu_move (r := .tup _) rfl) ?_
  iterate 3 refine rp rfl w0 rfl (pu_extract rfl rfl) ?_
  refine rs rfl w0 rfl (st_alloc 34 (cs := [.d (.v (.string (⟨#[]⟩ : ByteArray))), .d (.v (.slice none 0 0)), .d (.v (.slice none 0 0)), .d (.v (.int .i64 0)), .d (.v (.int .i64 0)), .d (.v (.int .i64 0)), .d (.v (.int .i64 0)), .d (.v (.int .i64 0)), .d (.v (.string (⟨#[]⟩ : ByteArray))), .d (.v (.slice none 0 0)), .d (.v (.slice none 0 0)), .d (.v (.int .i64 0)), .d (.v (.slice none 0 0)), .d (.v (.int .i64 0)), .d (.v (.int .i64 0)), .d (.v (.int .i64 0)), .d (.v (.int .i64 0)), .d (.v (.int .i64 0)), .d (.v (.int .i64 0)), .d (.v (.slice none 0 0)), .d (.v (.int .i64 0)), .d (.v (.int .i64 0)), .d (.v (.int .i64 0)), .d (.v (.int .i64 0)), .d (.v (.int .i64 0)), .d (.v (.int .i64 0))]) tok rfl rfl rfl) ?_
  refine rw0 rfl w0 (bx_st (cs := _ :: _) tok rfl rfl rfl rfl rfl rfl rfl) ?_
  refine pa ?_
  refine pa ?_
  refine nx ?_
  refine aw_seq ?_
  obtain ⟨v7, h1, h0⟩ := bnd h0
  refine aw_cut ⟨updA (updA (updA (updA (updA (updA (updA (updA (updA (updA ((fun _ => .dead)) 1 (.d (.v (.int .i64 p1)))) 2 (.ptr 3 0 1 0 0)) 6 (.ptr 4 0 1 0 0)) 7 (.d (.v (.int .i64 v3.2.1)))) 8 (.d (.v (.int .i64 v3.2.2)))) 9 (.ptr 5 0 1 0 0)) 10 (.ptr 6 0 1 0 0)) 11 (.d (.v (.int .i64 v5.2.1)))) 12 (.d (.v (.int .i64 v5.2.2)))) 54 (.d (.v (.bool v7))), lks [.no, .no, .no, .live [⟨38, 26, .av [[.d (.v (.string p0.Movement.Name)), .d (.sl (List.map cArbor_ p0.Movement.Works.Arbors)), .d (.sl (List.map cMesh_ p0.Movement.Works.Meshes)), .d (.v (.int .i64 p0.Movement.Minute)), .d (.v (.int .i64 p0.Movement.Hour)), .d (.v (.int .i64 p0.Movement.Escape)), .d (.v (.int .i64 p0.Movement.Teeth)), .d (.v (.int .i64 p0.Movement.Beats)), .d (.v (.string p0.Movement.Calendar.Name)), .d (.sl (List.map cMonth_ p0.Movement.Calendar.Months)), .d (.sl (List.map cLeapRule_ p0.Movement.Calendar.Rules)), .d (.v (.int .i64 p0.Movement.Calendar.Week)), .d (.sl (List.map cI p0.Movement.Cam)), .d (.v (.int .i64 p0.Movement.Strike)), .d (.v (.int .i64 p0.Start.Year)), .d (.v (.int .i64 p0.Start.Month)), .d (.v (.int .i64 p0.Start.Day)), .d (.v (.int .i64 p0.First)), .d (.v (.int .i64 p0.Clock)), .d (.sl (List.map cI p0.Dial.Cam)), .d (.v (.int .i64 p0.Dial.Months)), .d (.v (.int .i64 p0.Dial.Teeth)), .d (.v (.int .i64 p0.Dial.At)), .d (.v (.int .i64 p0.Dial.Day)), .d (.v (.int .i64 p0.Dial.Week)), .d (.v (.int .i64 p0.Dial.Weekday))]]⟩], .live [⟨53, 26, .av [[.d (.v (.string v3.1.Movement.Name)), .own 7 0 (v3.1.Movement.Works.Arbors).length, .own 8 0 (v3.1.Movement.Works.Meshes).length, .d (.v (.int .i64 v3.1.Movement.Minute)), .d (.v (.int .i64 v3.1.Movement.Hour)), .d (.v (.int .i64 v3.1.Movement.Escape)), .d (.v (.int .i64 v3.1.Movement.Teeth)), .d (.v (.int .i64 v3.1.Movement.Beats)), .d (.v (.string v3.1.Movement.Calendar.Name)), .own 9 0 (v3.1.Movement.Calendar.Months).length, .own 10 0 (v3.1.Movement.Calendar.Rules).length, .d (.v (.int .i64 v3.1.Movement.Calendar.Week)), .own 11 0 (v3.1.Movement.Cam).length, .d (.v (.int .i64 v3.1.Movement.Strike)), .d (.v (.int .i64 v3.1.Start.Year)), .d (.v (.int .i64 v3.1.Start.Month)), .d (.v (.int .i64 v3.1.Start.Day)), .d (.v (.int .i64 v3.1.First)), .d (.v (.int .i64 v3.1.Clock)), .own 12 0 (v3.1.Dial.Cam).length, .d (.v (.int .i64 v3.1.Dial.Months)), .d (.v (.int .i64 v3.1.Dial.Teeth)), .d (.v (.int .i64 v3.1.Dial.At)), .d (.v (.int .i64 v3.1.Dial.Day)), .d (.v (.int .i64 v3.1.Dial.Week)), .d (.v (.int .i64 v3.1.Dial.Weekday))]]⟩], .live [⟨53, 26, .av [[.d (.v (.string v4.Movement.Name)), .own 13 0 (v4.Movement.Works.Arbors).length, .own 14 0 (v4.Movement.Works.Meshes).length, .d (.v (.int .i64 v4.Movement.Minute)), .d (.v (.int .i64 v4.Movement.Hour)), .d (.v (.int .i64 v4.Movement.Escape)), .d (.v (.int .i64 v4.Movement.Teeth)), .d (.v (.int .i64 v4.Movement.Beats)), .d (.v (.string v4.Movement.Calendar.Name)), .own 15 0 (v4.Movement.Calendar.Months).length, .own 16 0 (v4.Movement.Calendar.Rules).length, .d (.v (.int .i64 v4.Movement.Calendar.Week)), .own 17 0 (v4.Movement.Cam).length, .d (.v (.int .i64 v4.Movement.Strike)), .d (.v (.int .i64 v4.Start.Year)), .d (.v (.int .i64 v4.Start.Month)), .d (.v (.int .i64 v4.Start.Day)), .d (.v (.int .i64 v4.First)), .d (.v (.int .i64 v4.Clock)), .own 18 0 (v4.Dial.Cam).length, .d (.v (.int .i64 v4.Dial.Months)), .d (.v (.int .i64 v4.Dial.Teeth)), .d (.v (.int .i64 v4.Dial.At)), .d (.v (.int .i64 v4.Dial.Day)), .d (.v (.int .i64 v4.Dial.Week)), .d (.v (.int .i64 v4.Dial.Weekday))]]⟩], .live [⟨53, 26, .av [[.d (.v (.string v5.1.Movement.Name)), .own 19 0 (v5.1.Movement.Works.Arbors).length, .own 20 0 (v5.1.Movement.Works.Meshes).length, .d (.v (.int .i64 v5.1.Movement.Minute)), .d (.v (.int .i64 v5.1.Movement.Hour)), .d (.v (.int .i64 v5.1.Movement.Escape)), .d (.v (.int .i64 v5.1.Movement.Teeth)), .d (.v (.int .i64 v5.1.Movement.Beats)), .d (.v (.string v5.1.Movement.Calendar.Name)), .own 21 0 (v5.1.Movement.Calendar.Months).length, .own 22 0 (v5.1.Movement.Calendar.Rules).length, .d (.v (.int .i64 v5.1.Movement.Calendar.Week)), .own 23 0 (v5.1.Movement.Cam).length, .d (.v (.int .i64 v5.1.Movement.Strike)), .d (.v (.int .i64 v5.1.Start.Year)), .d (.v (.int .i64 v5.1.Start.Month)), .d (.v (.int .i64 v5.1.Start.Day)), .d (.v (.int .i64 v5.1.First)), .d (.v (.int .i64 v5.1.Clock)), .own 24 0 (v5.1.Dial.Cam).length, .d (.v (.int .i64 v5.1.Dial.Months)), .d (.v (.int .i64 v5.1.Dial.Teeth)), .d (.v (.int .i64 v5.1.Dial.At)), .d (.v (.int .i64 v5.1.Dial.Day)), .d (.v (.int .i64 v5.1.Dial.Week)), .d (.v (.int .i64 v5.1.Dial.Weekday))]]⟩], .live [⟨213, 2, .av (nestL 25 cArbor_ v3.1.Movement.Works.Arbors)⟩], .live [⟨215, 4, .data (List.map cMesh_ v3.1.Movement.Works.Meshes)⟩], .live [⟨147, 3, .data (List.map cMonth_ v3.1.Movement.Calendar.Months)⟩], .live [⟨179, 3, .data (List.map cLeapRule_ v3.1.Movement.Calendar.Rules)⟩], .live [⟨2, 1, .data (List.map cI v3.1.Movement.Cam)⟩], .live [⟨2, 1, .data (List.map cI v3.1.Dial.Cam)⟩], .live [⟨213, 2, .av (nestL 26 cArbor_ v4.Movement.Works.Arbors)⟩], .live [⟨215, 4, .data (List.map cMesh_ v4.Movement.Works.Meshes)⟩], .live [⟨147, 3, .data (List.map cMonth_ v4.Movement.Calendar.Months)⟩], .live [⟨179, 3, .data (List.map cLeapRule_ v4.Movement.Calendar.Rules)⟩], .live [⟨2, 1, .data (List.map cI v4.Movement.Cam)⟩], .live [⟨2, 1, .data (List.map cI v4.Dial.Cam)⟩], .live [⟨213, 2, .av (nestL 27 cArbor_ v5.1.Movement.Works.Arbors)⟩], .live [⟨215, 4, .data (List.map cMesh_ v5.1.Movement.Works.Meshes)⟩], .live [⟨147, 3, .data (List.map cMonth_ v5.1.Movement.Calendar.Months)⟩], .live [⟨179, 3, .data (List.map cLeapRule_ v5.1.Movement.Calendar.Rules)⟩], .live [⟨2, 1, .data (List.map cI v5.1.Movement.Cam)⟩], .live [⟨2, 1, .data (List.map cI v5.1.Dial.Cam)⟩], .live (famL 2 1 cArbor_ v3.1.Movement.Works.Arbors), .live (famL 2 1 cArbor_ v4.Movement.Works.Arbors), .live (famL 2 1 cArbor_ v5.1.Movement.Works.Arbors)]⟩ ?_ ?_
  refine sr [0,1,2,3,4,5,6,7,8,9,10,11,12,13] ?_
  refine rl rfl w0 rfl (bx_ldN tok rfl rfl rfl rfl) ?_
  refine rl rfl w0 rfl (bx_ldN tok rfl rfl rfl rfl) ?_
  obtain ⟨v6, hv6, h1⟩ := bnd h1
  refine rs rfl w0 rfl (c_callV 35 (l_eqSim_c hv6) rfl rfl) ?_
  refine rp rfl w0 rfl (pu_not rfl) ?_
  refine pm ?_
  refine ra_ifB (u := 45) h1 rfl (fun hc h1 => ?_) (fun hc h1 => ?_)
  iterate 3 refine k1 ?_
  refine pkt ?_
  refine pm ?_
  iterate 3 refine k1 ?_
  refine pkt ?_
  refine nx ?_
  cases h1
  exact wk [0, 1, 2, 3, 18, 26, 34, 11, 13, 14, 15, 16, 17, 19, 21, 22, 23, 24, 25, 27, 29, 30, 31, 32, 33, 12, 20, 28]
  refine pm1 ?_
  refine pm1 ?_
  refine rp rfl (w1 rfl rfl rfl) rfl (pu_neq rfl rfl) ?_
  refine pkf ?_
  refine pm ?_
  refine ra_if (u := 50) h1 rfl (fun hc h1 => ?_) (fun hc h1 => ?_)
  iterate 3 refine k1 ?_
  refine pkt ?_
  refine nx ?_
  cases h1
  exact wk [0, 1, 2, 3, 18, 26, 34, 11, 13, 14, 15, 16, 17, 19, 21, 22, 23, 24, 25, 27, 29, 30, 31, 32, 33, 12, 20, 28]
  refine pm1 ?_
  refine pm1 ?_
  refine rp rfl (w1 rfl rfl rfl) rfl (pu_neq rfl rfl) ?_
  refine pkf ?_
  refine nx ?_
  cases h1
  exact wk [0, 1, 2, 3, 18, 26, 34, 11, 13, 14, 15, 16, 17, 19, 21, 22, 23, 24, 25, 27, 29, 30, 31, 32, 33, 12, 20, 28]
  refine aw_ifB h0 rfl (fun hc h0 => ?_) (fun hc h0 => ?_)
  refine sq [0] ?_
  refine pa ?_
  refine nx ?_
  refine aw_ret ?_
  refine then_r ?_
  cases h0
  exact ret0_ (rs := [.tmp 4]) rfl
  refine sk ?_
  refine aw_seq ?_
  refine aw_seq ?_
  refine aw_region_draw (is := [0, 1, 2, 3, 4]) [0, 0, 2, 7, 15] follows (by kernel_rfl) ?_
  refine rt_lk rfl w0 rfl (bx_ldN tok rfl rfl rfl rfl) rfl rfl rfl ?_
  refine rt_lk rfl w0 rfl (bx_ldN tok rfl rfl rfl rfl) rfl rfl rfl ?_
  obtain ⟨v8, hv8, h0⟩ := bnd h0
  refine rt_c rfl w0 rfl (b_call 28 (l_toSim_c hv8) rfl rfl rfl) ?_
  obtain ⟨v9, hv9, h0⟩ := bnd h0
  refine rt_c rfl w0 rfl (b_callV 35 (l_eqSim_c hv9) rfl rfl) ?_
  refine rt_p rfl w0 rfl (pu_not rfl) ?_
  refine rt_nil ?_
  refine ⟨by kernel_rfl, ?_⟩
  refine then_n ?_
  refine aw_ifB h0 rfl (fun hc h0 => ?_) (fun hc h0 => ?_)
  refine sq [0] ?_
  refine pa ?_
  refine nx ?_
  refine aw_ret ?_
  refine then_r ?_
  cases h0
  exact ret0_ (rs := [.tmp 4]) rfl
  refine sk ?_
  refine sq [0] ?_
  refine pa ?_
  refine nx ?_
  refine sq [0,1,2,3] ?_
  refine rl rfl w0 rfl (bx_ldN tok rfl rfl rfl rfl) ?_
  refine pm ?_
  obtain ⟨v10, hv10, h0⟩ := bnd h0
  obtain ⟨hq11, h0⟩ := chk_e h0
  obtain ⟨hq12, h0⟩ := chk_e h0
  obtain ⟨hq13, h0⟩ := chk_e h0
  obtain ⟨hq14, h0⟩ := chk_e h0
  obtain ⟨hq15, h0⟩ := chk_e h0
  obtain ⟨hq16, h0⟩ := chk_e h0
  refine rw1 rfl w0 rfl (c_callP [13, 26, 14, 15, 16, 17, 18] 300 (l_markSim_o_c hv10) rfl rfl) ?_
  refine pa ?_
  refine nx ?_
  refine aw_seq ?_
  obtain ⟨v18, h1, h0⟩ := bnd h0
  refine aw_cut ⟨updA (updA (updA (updA (updA (updA (updA ((fun _ => .dead)) 1 (.d (.v (.int .i64 p1)))) 2 (.ptr 3 0 1 0 0)) 6 (.ptr 4 0 1 0 0)) 7 (.d (.v (.int .i64 v3.2.1)))) 8 (.d (.v (.int .i64 v3.2.2)))) 10 (.ptr 5 0 1 0 0)) 80 (.d (.v (.bool v18))), lks [.no, .no, .no, .live [⟨38, 26, .av [[.d (.v (.string p0.Movement.Name)), .d (.sl (List.map cArbor_ p0.Movement.Works.Arbors)), .d (.sl (List.map cMesh_ p0.Movement.Works.Meshes)), .d (.v (.int .i64 p0.Movement.Minute)), .d (.v (.int .i64 p0.Movement.Hour)), .d (.v (.int .i64 p0.Movement.Escape)), .d (.v (.int .i64 p0.Movement.Teeth)), .d (.v (.int .i64 p0.Movement.Beats)), .d (.v (.string p0.Movement.Calendar.Name)), .d (.sl (List.map cMonth_ p0.Movement.Calendar.Months)), .d (.sl (List.map cLeapRule_ p0.Movement.Calendar.Rules)), .d (.v (.int .i64 p0.Movement.Calendar.Week)), .d (.sl (List.map cI p0.Movement.Cam)), .d (.v (.int .i64 p0.Movement.Strike)), .d (.v (.int .i64 p0.Start.Year)), .d (.v (.int .i64 p0.Start.Month)), .d (.v (.int .i64 p0.Start.Day)), .d (.v (.int .i64 p0.First)), .d (.v (.int .i64 p0.Clock)), .d (.sl (List.map cI p0.Dial.Cam)), .d (.v (.int .i64 p0.Dial.Months)), .d (.v (.int .i64 p0.Dial.Teeth)), .d (.v (.int .i64 p0.Dial.At)), .d (.v (.int .i64 p0.Dial.Day)), .d (.v (.int .i64 p0.Dial.Week)), .d (.v (.int .i64 p0.Dial.Weekday))]]⟩], .live [⟨53, 26, .av [[.d (.v (.string v3.1.Movement.Name)), .own 6 0 (v3.1.Movement.Works.Arbors).length, .own 7 0 (v3.1.Movement.Works.Meshes).length, .d (.v (.int .i64 v3.1.Movement.Minute)), .d (.v (.int .i64 v3.1.Movement.Hour)), .d (.v (.int .i64 v3.1.Movement.Escape)), .d (.v (.int .i64 v3.1.Movement.Teeth)), .d (.v (.int .i64 v3.1.Movement.Beats)), .d (.v (.string v3.1.Movement.Calendar.Name)), .own 8 0 (v3.1.Movement.Calendar.Months).length, .own 9 0 (v3.1.Movement.Calendar.Rules).length, .d (.v (.int .i64 v3.1.Movement.Calendar.Week)), .own 10 0 (v3.1.Movement.Cam).length, .d (.v (.int .i64 v3.1.Movement.Strike)), .d (.v (.int .i64 v3.1.Start.Year)), .d (.v (.int .i64 v3.1.Start.Month)), .d (.v (.int .i64 v3.1.Start.Day)), .d (.v (.int .i64 v3.1.First)), .d (.v (.int .i64 v3.1.Clock)), .own 11 0 (v3.1.Dial.Cam).length, .d (.v (.int .i64 v3.1.Dial.Months)), .d (.v (.int .i64 v3.1.Dial.Teeth)), .d (.v (.int .i64 v3.1.Dial.At)), .d (.v (.int .i64 v3.1.Dial.Day)), .d (.v (.int .i64 v3.1.Dial.Week)), .d (.v (.int .i64 v3.1.Dial.Weekday))]]⟩], .live [⟨53, 26, .av [[.d (.v (.string v5.1.Movement.Name)), .own 12 0 (v5.1.Movement.Works.Arbors).length, .own 13 0 (v5.1.Movement.Works.Meshes).length, .d (.v (.int .i64 v5.1.Movement.Minute)), .d (.v (.int .i64 v5.1.Movement.Hour)), .d (.v (.int .i64 v5.1.Movement.Escape)), .d (.v (.int .i64 v5.1.Movement.Teeth)), .d (.v (.int .i64 v5.1.Movement.Beats)), .d (.v (.string v5.1.Movement.Calendar.Name)), .own 14 0 (v5.1.Movement.Calendar.Months).length, .own 15 0 (v5.1.Movement.Calendar.Rules).length, .d (.v (.int .i64 v5.1.Movement.Calendar.Week)), .own 16 0 (v5.1.Movement.Cam).length, .d (.v (.int .i64 v5.1.Movement.Strike)), .d (.v (.int .i64 v5.1.Start.Year)), .d (.v (.int .i64 v5.1.Start.Month)), .d (.v (.int .i64 v5.1.Start.Day)), .d (.v (.int .i64 v5.1.First)), .d (.v (.int .i64 v5.1.Clock)), .own 17 0 (v5.1.Dial.Cam).length, .d (.v (.int .i64 v5.1.Dial.Months)), .d (.v (.int .i64 v5.1.Dial.Teeth)), .d (.v (.int .i64 v5.1.Dial.At)), .d (.v (.int .i64 v5.1.Dial.Day)), .d (.v (.int .i64 v5.1.Dial.Week)), .d (.v (.int .i64 v5.1.Dial.Weekday))]]⟩], .live [⟨213, 2, .av (nestL 18 cArbor_ v3.1.Movement.Works.Arbors)⟩], .live [⟨215, 4, .data (List.map cMesh_ v3.1.Movement.Works.Meshes)⟩], .live [⟨147, 3, .data (List.map cMonth_ v3.1.Movement.Calendar.Months)⟩], .live [⟨179, 3, .data (List.map cLeapRule_ v3.1.Movement.Calendar.Rules)⟩], .live [⟨2, 1, .data (List.map cI v3.1.Movement.Cam)⟩], .live [⟨2, 1, .data (List.map cI v3.1.Dial.Cam)⟩], .live [⟨213, 2, .av (nestL 19 cArbor_ v5.1.Movement.Works.Arbors)⟩], .live [⟨215, 4, .data (List.map cMesh_ v5.1.Movement.Works.Meshes)⟩], .live [⟨147, 3, .data (List.map cMonth_ v5.1.Movement.Calendar.Months)⟩], .live [⟨179, 3, .data (List.map cLeapRule_ v5.1.Movement.Calendar.Rules)⟩], .live [⟨2, 1, .data (List.map cI v5.1.Movement.Cam)⟩], .live [⟨2, 1, .data (List.map cI v5.1.Dial.Cam)⟩], .live (famL 2 1 cArbor_ v3.1.Movement.Works.Arbors), .live (famL 2 1 cArbor_ v5.1.Movement.Works.Arbors)]⟩ ?_ ?_
  refine sr [0,1,2,3,4,5,6,7,8,9,10,11,12,13,14,15,16,17] ?_
  refine pm ?_
  refine rp rfl w0 rfl (pu_lss rfl rfl) ?_
  refine pm ?_
  refine ra_if (u := 65) h1 rfl (fun hc h1 => ?_) (fun hc h1 => ?_)
  iterate 4 refine k1 ?_
  refine pkt ?_
  refine pm ?_
  iterate 3 refine k1 ?_
  refine pkt ?_
  refine pm ?_
  iterate 3 refine k1 ?_
  refine pkt ?_
  refine nx ?_
  cases h1
  exact wk [0, 1, 2, 3, 4, 6, 7, 8, 9, 10, 11, 12, 19, 20, 21, 22, 23, 24, 25, 27]
  refine rl rfl (w1 rfl rfl rfl) rfl (bx_ldN tok rfl rfl rfl rfl) ?_
  refine rl rfl (w1 rfl rfl rfl) rfl (bx_ldN tok rfl rfl rfl rfl) ?_
  obtain ⟨v17, hv17, h1⟩ := bnd h1
  refine rs rfl (w1 rfl rfl rfl) rfl (c_callV 35 (l_eqSim_c hv17) rfl rfl) ?_
  refine rp rfl (w1 rfl rfl rfl) rfl (pu_not rfl) ?_
  refine pkf ?_
  refine pm ?_
  refine ra_ifB (u := 71) h1 rfl (fun hc h1 => ?_) (fun hc h1 => ?_)
  iterate 3 refine k1 ?_
  refine pkt ?_
  refine pm ?_
  iterate 3 refine k1 ?_
  refine pkt ?_
  refine nx ?_
  cases h1
  exact wk [0, 1, 2, 3, 4, 6, 7, 8, 9, 10, 11, 12, 19, 20, 21, 22, 23, 24, 25, 27]
  refine pm1 ?_
  refine pm1 ?_
  refine rp rfl (w1 rfl rfl rfl) rfl (pu_neq rfl rfl) ?_
  refine pkf ?_
  refine pm ?_
  refine ra_if (u := 76) h1 rfl (fun hc h1 => ?_) (fun hc h1 => ?_)
  iterate 3 refine k1 ?_
  refine pkt ?_
  refine nx ?_
  cases h1
  exact wk [0, 1, 2, 3, 4, 6, 7, 8, 9, 10, 11, 12, 19, 20, 21, 22, 23, 24, 25, 27]
  refine pm1 ?_
  refine pm1 ?_
  refine rp rfl (w1 rfl rfl rfl) rfl (pu_neq rfl rfl) ?_
  refine pkf ?_
  refine nx ?_
  cases h1
  exact wk [0, 1, 2, 3, 4, 6, 7, 8, 9, 10, 11, 12, 19, 20, 21, 22, 23, 24, 25, 27]
  refine aw_ifB h0 rfl (fun hc h0 => ?_) (fun hc h0 => ?_)
  refine sq [0] ?_
  refine pa ?_
  refine nx ?_
  refine aw_ret ?_
  refine then_r ?_
  cases h0
  exact ret0_ (rs := [.tmp 4]) rfl
  refine sk ?_
  refine sq [0] ?_
  refine pa ?_
  refine nx ?_
  refine sq [0,1,2,3] ?_
  refine rl rfl w0 rfl (bx_ldN tok rfl rfl rfl rfl) ?_
  refine pm ?_
  obtain ⟨v19, hv19, h0⟩ := bnd h0
  obtain ⟨hq20, h0⟩ := chk_e h0
  obtain ⟨hq21, h0⟩ := chk_e h0
  obtain ⟨hq22, h0⟩ := chk_e h0
  obtain ⟨hq23, h0⟩ := chk_e h0
  obtain ⟨hq24, h0⟩ := chk_e h0
  obtain ⟨hq25, h0⟩ := chk_e h0
  refine rw1 rfl w0 rfl (c_callP [12, 19, 13, 14, 15, 16, 17] 300 (l_markSim_o_c hv19) rfl rfl) ?_
  refine pa ?_
  refine nx ?_
  refine sq [0] ?_
  refine pa ?_
  refine nx ?_
  refine sq [0,1,2,3] ?_
  refine rl rfl w0 rfl (bx_ldN tok rfl rfl rfl rfl) ?_
  refine pm ?_
  obtain ⟨v26, hv26, h0⟩ := bnd h0
  refine rs rfl w0 rfl (c_callV 20 (l_heldSim_c hv26) rfl rfl) ?_
  refine pa ?_
  refine nx ?_
  refine aw_seq ?_
  refine sq [0,1] ?_
  refine pm ?_
  refine rp rfl w0 rfl (pu_lss rfl rfl) ?_
  refine nx ?_
  refine aw_if h0 rfl (fun hc h0 => ?_) (fun hc h0 => ?_)
  refine sq [0] ?_
  refine pa ?_
  refine nx ?_
  refine aw_ret ?_
  refine then_r ?_
  cases h0
  exact ret0_ (rs := [.tmp 4]) rfl
  refine sk ?_
  refine aw_seq ?_
  refine sq [0,1,2] ?_
  refine pm ?_
  refine pm ?_
  refine rp rfl w0 rfl (pu_neq rfl rfl) ?_
  refine nx ?_
  refine aw_if h0 rfl (fun hc h0 => ?_) (fun hc h0 => ?_)
  refine sq [0] ?_
  refine pa ?_
  refine nx ?_
  refine aw_ret ?_
  refine then_r ?_
  cases h0
  exact ret0_ (rs := [.tmp 4]) rfl
  refine sk ?_
  refine sq [0,1,2,3,4,5,6,7,8,9,10,11] ?_
  refine rl rfl w0 rfl (bx_ldN tok rfl rfl rfl rfl) ?_
  obtain ⟨v27, hv27, h0⟩ := bnd h0
  refine rs rfl w0 rfl (c_call 20 (l_toSim_c hv27) rfl rfl rfl) ?_
  refine pm ?_
  obtain ⟨v28, hv28, h0⟩ := bnd h0
  refine rs rfl w0 rfl (c_callV 27 (i_RunSim_c hv28) rfl rfl) ?_
  refine rp rfl w0 rfl (pu_move (r := .tup _) rfl) ?_
  iterate 3 refine rp rfl w0 rfl (pu_extract rfl rfl) ?_
  refine rs rfl w0 rfl (st_alloc 34 (cs := [.d (.v (.string (⟨#[]⟩ : ByteArray))), .d (.v (.slice none 0 0)), .d (.v (.slice none 0 0)), .d (.v (.int .i64 0)), .d (.v (.int .i64 0)), .d (.v (.int .i64 0)), .d (.v (.int .i64 0)), .d (.v (.int .i64 0)), .d (.v (.string (⟨#[]⟩ : ByteArray))), .d (.v (.slice none 0 0)), .d (.v (.slice none 0 0)), .d (.v (.int .i64 0)), .d (.v (.slice none 0 0)), .d (.v (.int .i64 0)), .d (.v (.int .i64 0)), .d (.v (.int .i64 0)), .d (.v (.int .i64 0)), .d (.v (.int .i64 0)), .d (.v (.int .i64 0)), .d (.v (.slice none 0 0)), .d (.v (.int .i64 0)), .d (.v (.int .i64 0)), .d (.v (.int .i64 0)), .d (.v (.int .i64 0)), .d (.v (.int .i64 0)), .d (.v (.int .i64 0))]) tok rfl rfl rfl) ?_
  refine rw0 rfl w0 (bx_st (cs := _ :: _) tok rfl rfl rfl rfl rfl rfl rfl) ?_
  refine pa ?_
  refine pa ?_
  refine nx ?_
  refine aw_seq ?_
  obtain ⟨v30, h1, h0⟩ := bnd h0
  refine aw_cut ⟨updA (updA (updA ((fun _ => .dead)) 10 (.ptr 3 0 1 0 0)) 14 (.d (.v (.int .i64 v19.1)))) 113 (.d (.v (.bool v30))), lks [.no, .no, .no, .live [⟨53, 26, .av [[.d (.v (.string v5.1.Movement.Name)), .own 4 0 (v19.2.1).length, .own 5 0 (v19.2.2.1).length, .d (.v (.int .i64 v5.1.Movement.Minute)), .d (.v (.int .i64 v5.1.Movement.Hour)), .d (.v (.int .i64 v5.1.Movement.Escape)), .d (.v (.int .i64 v5.1.Movement.Teeth)), .d (.v (.int .i64 v5.1.Movement.Beats)), .d (.v (.string v5.1.Movement.Calendar.Name)), .own 6 0 (v19.2.2.2.1).length, .own 7 0 (v19.2.2.2.2.1).length, .d (.v (.int .i64 v5.1.Movement.Calendar.Week)), .own 8 0 (v19.2.2.2.2.2.1).length, .d (.v (.int .i64 v5.1.Movement.Strike)), .d (.v (.int .i64 v5.1.Start.Year)), .d (.v (.int .i64 v5.1.Start.Month)), .d (.v (.int .i64 v5.1.Start.Day)), .d (.v (.int .i64 v5.1.First)), .d (.v (.int .i64 v5.1.Clock)), .own 9 0 (v19.2.2.2.2.2.2).length, .d (.v (.int .i64 v5.1.Dial.Months)), .d (.v (.int .i64 v5.1.Dial.Teeth)), .d (.v (.int .i64 v5.1.Dial.At)), .d (.v (.int .i64 v5.1.Dial.Day)), .d (.v (.int .i64 v5.1.Dial.Week)), .d (.v (.int .i64 v5.1.Dial.Weekday))]]⟩], .live [⟨213, 2, .av (nestL 10 cArbor_ v19.2.1)⟩], .live [⟨215, 4, .data (List.map cMesh_ v19.2.2.1)⟩], .live [⟨147, 3, .data (List.map cMonth_ v19.2.2.2.1)⟩], .live [⟨179, 3, .data (List.map cLeapRule_ v19.2.2.2.2.1)⟩], .live [⟨2, 1, .data (List.map cI v19.2.2.2.2.2.1)⟩], .live [⟨2, 1, .data (List.map cI v19.2.2.2.2.2.2)⟩], .live (famL 2 1 cArbor_ v19.2.1)]⟩ ?_ ?_
  refine sr [0,1,2,3,4,5,6,7,8,9,10,11,12,13] ?_
  refine rl rfl w0 rfl (bx_ldN tok rfl rfl rfl rfl) ?_
  refine rl rfl w0 rfl (bx_ldN tok rfl rfl rfl rfl) ?_
  obtain ⟨v29, hv29, h1⟩ := bnd h1
  refine rs rfl w0 rfl (c_callV 35 (l_eqSim_c hv29) rfl rfl) ?_
  refine rp rfl w0 rfl (pu_not rfl) ?_
  refine pm ?_
  refine ra_ifB (u := 104) h1 rfl (fun hc h1 => ?_) (fun hc h1 => ?_)
  iterate 3 refine k1 ?_
  refine pkt ?_
  refine pm ?_
  iterate 3 refine k1 ?_
  refine pkt ?_
  refine nx ?_
  cases h1
  exact wk [0, 1, 2, 5, 12, 13, 14, 15, 16, 17, 19]
  refine pm1 ?_
  refine pm1 ?_
  refine rp rfl (w1 rfl rfl rfl) rfl (pu_neq rfl rfl) ?_
  refine pkf ?_
  refine pm ?_
  refine ra_if (u := 109) h1 rfl (fun hc h1 => ?_) (fun hc h1 => ?_)
  iterate 3 refine k1 ?_
  refine pkt ?_
  refine nx ?_
  cases h1
  exact wk [0, 1, 2, 5, 12, 13, 14, 15, 16, 17, 19]
  refine pm1 ?_
  refine pm1 ?_
  refine rp rfl (w1 rfl rfl rfl) rfl (pu_neq rfl rfl) ?_
  refine pkf ?_
  refine nx ?_
  cases h1
  exact wk [0, 1, 2, 5, 12, 13, 14, 15, 16, 17, 19]
  refine aw_ifB h0 rfl (fun hc h0 => ?_) (fun hc h0 => ?_)
  refine sq [0] ?_
  refine pa ?_
  refine nx ?_
  refine aw_ret ?_
  refine then_r ?_
  cases h0
  exact ret0_ (rs := [.tmp 4]) rfl
  refine sk ?_
  refine sq [0] ?_
  refine pa ?_
  refine nx ?_
  refine sq [0,1,2,3] ?_
  refine rl rfl w0 rfl (bx_ldN tok rfl rfl rfl rfl) ?_
  refine pm ?_
  obtain ⟨v31, hv31, h0⟩ := bnd h0
  refine rs rfl w0 rfl (c_callV 11 (l_heldSim_c hv31) rfl rfl) ?_
  refine pa ?_
  refine nx ?_
  refine aw_seq ?_
  refine sq [0,1] ?_
  refine pm ?_
  refine rp rfl w0 rfl (pu_lss rfl rfl) ?_
  refine nx ?_
  refine aw_if h0 rfl (fun hc h0 => ?_) (fun hc h0 => ?_)
  refine sq [0] ?_
  refine pa ?_
  refine nx ?_
  refine aw_ret ?_
  refine then_r ?_
  cases h0
  exact ret0_ (rs := [.tmp 4]) rfl
  refine sk ?_
  refine aw_seq ?_
  refine sq [0,1,2] ?_
  refine pm ?_
  refine pm ?_
  refine rp rfl w0 rfl (pu_neq rfl rfl) ?_
  refine nx ?_
  refine aw_if h0 rfl (fun hc h0 => ?_) (fun hc h0 => ?_)
  refine sq [0] ?_
  refine pa ?_
  refine nx ?_
  refine aw_ret ?_
  refine then_r ?_
  cases h0
  exact ret0_ (rs := [.tmp 4]) rfl
  refine sk ?_
  refine sq [0] ?_
  refine pa ?_
  refine nx ?_
  refine aw_ret ?_
  cases h0
  exact ret0_ (rs := [.tmp 4]) rfl

end Go.Proofs.YtlakbomkpnlidaaGreat
namespace Go.Proofs.YtlakbomkpnlidaaGreat
set_option linter.unusedVariables false
theorem u64_eq (x : Int) : IntKind.u64.wrap x = x % 18446744073709551616 := by
  unfold IntKind.wrap
  simp [IntKind.signed, IntKind.bits]
theorem u64_in {x : Int} (h0 : 0 ≤ x) (h1 : x < 18446744073709551616) : IntKind.u64.wrap x = x := by rw [u64_eq]; omega
theorem u64_neg {x : Int} (h0 : -18446744073709551616 < x) (h1 : x < 0) : IntKind.u64.wrap (-(IntKind.u64.wrap x)) = -x := by rw [u64_eq, u64_eq]; omega
def absI (x : Int) : Int := (x.natAbs : Int)
theorem absI_nn (x : Int) : 0 ≤ absI x := by unfold absI; omega
theorem s_l02Part_eq {x : Int} (h : osI x) : s_l02Part_m x = some (absI x) := by
  obtain ⟨h0, h1⟩ := h
  unfold s_l02Part_m absI
  split
  · rw [u64_neg (by omega) (by omega)]; congr 1; omega
  · rw [u64_in (by omega) (by omega)]; congr 1; omega
theorem i_magnitude_eq {x : Int} (h : osI x) : i_magnitude_m x = some (absI x) := by
  obtain ⟨h0, h1⟩ := h
  unfold i_magnitude_m absI
  split
  · rw [u64_neg (by omega) (by omega)]; congr 1; omega
  · rw [u64_in (by omega) (by omega)]; congr 1; omega
theorem gcd_step {a b : Int} : Int.gcd b (a.tmod b) = Int.gcd a b := by
  unfold Int.gcd
  rw [Int.natAbs_tmod, Nat.gcd_comm a.natAbs b.natAbs, Nat.gcd_comm, ← Nat.gcd_rec]
theorem gcd_loop {step : Int × Int → Option ((Int × Int) ⊕ Int)} (hS : ∀ a b, b ≠ 0 → step (a, b) = some (.inl (b, a.tmod b))) (hE : ∀ a, step (a, 0) = some (.inr a)) (a b : Int) (hb : b.natAbs ≤ 9223372036854775808) :
    ∃ g, loopM step (a, b) = some g ∧ g.natAbs = Int.gcd a b ∧ (g = a ∨ g.natAbs ≤ b.natAbs) := by
  refine loopM_of (fun (s : Int × Int) => Int.gcd s.1 s.2 = Int.gcd a b ∧ s.2.natAbs ≤ b.natAbs ∧ (s.1 = a ∨ s.1.natAbs ≤ b.natAbs)) (fun (s : Int × Int) => s.2.natAbs) (fun g => g.natAbs = Int.gcd a b ∧ (g = a ∨ g.natAbs ≤ b.natAbs)) (fun s hI => ?_) (a, b) ⟨rfl, Nat.le_refl _, .inl rfl⟩ (by dsimp only; omega)
  obtain ⟨x, y⟩ := s
  obtain ⟨h1, h2, h3⟩ := hI
  dsimp only at h1 h2 h3 ⊢
  by_cases hy : y = 0
  · right
    subst hy
    exact ⟨x, hE x, by rw [← h1]; simp, h3⟩
  · left
    have hlt : (x.tmod y).natAbs < y.natAbs := by rw [Int.natAbs_tmod]; exact Nat.mod_lt _ (by omega)
    exact ⟨_, hS x y hy, ⟨by rw [gcd_step]; exact h1, by dsimp only; omega, .inr h2⟩, hlt⟩
theorem gcd_loopP {step : Int × Int → Option ((Int × Int) ⊕ Int)} (hS : ∀ a b, 0 ≤ a → 0 < b → step (a, b) = some (.inl (b, a.tmod b))) (hE : ∀ a, step (a, 0) = some (.inr a)) {a b : Int} (ha : 0 ≤ a) (hb0 : 0 ≤ b) (hb : b ≤ 18446744073709551616) :
    loopM step (a, b) = some (Int.gcd a b : Int) := by
  obtain ⟨g, h, h1, h2⟩ := loopM_of (step := step) (fun (s : Int × Int) => Int.gcd s.1 s.2 = Int.gcd a b ∧ 0 ≤ s.1 ∧ 0 ≤ s.2) (fun (s : Int × Int) => s.2.natAbs) (fun g => g.natAbs = Int.gcd a b ∧ 0 ≤ g) (fun s hI => by
    obtain ⟨x, y⟩ := s
    obtain ⟨h1, h2, h3⟩ := hI
    dsimp only at h1 h2 h3 ⊢
    by_cases hy : y = 0
    · right
      subst hy
      exact ⟨x, hE x, by rw [← h1]; simp, h2⟩
    · left
      have hlt : (x.tmod y).natAbs < y.natAbs := by rw [Int.natAbs_tmod]; exact Nat.mod_lt _ (by omega)
      exact ⟨_, hS x y h2 (by omega), ⟨by rw [gcd_step]; exact h1, h3, Int.tmod_nonneg _ h2⟩, hlt⟩) (a, b) ⟨rfl, ha, hb0⟩ (by dsimp only; omega)
  rw [h]; congr 1; omega
theorem gcd_pos {n d : Int} (h : d ≠ 0) : 0 < Int.gcd n d := Int.gcd_pos_of_ne_zero_right n h
theorem abs_gcd (n d : Int) : Int.gcd (absI n) (absI d) = Int.gcd n d := by unfold absI Int.gcd; simp
theorem quo_bd {a g : Int} (ha : 0 ≤ a) (hg : 0 < g) : 0 ≤ a / g ∧ a / g ≤ a := ⟨Int.ediv_nonneg ha (by omega), Int.ediv_le_self _ ha⟩
def mkR (n d : Int) : Ratio_ × Bool :=
  if 1000000000 < absI n / (Int.gcd n d : Int) ∨ 1000000000 < absI d / (Int.gcd n d : Int) then (⟨0, 0⟩, false)
  else (⟨if (decide (n < 0) != decide (d < 0)) = true then -(absI n / (Int.gcd n d : Int)) else absI n / (Int.gcd n d : Int), absI d / (Int.gcd n d : Int)⟩, true)
theorem make_tail {n d : Int} (hn : osI n) (hd : osI d) (h : d ≠ 0) {f : Int → Option (Ratio_ × Bool)} (hf : ∀ g, f g = (chk (g ≠ 0) (chk (g ≠ 0) ((((if 1000000000 < (IntKind.u64.wrap ((absI n).tdiv g)) then some true else some (decide (1000000000 < (IntKind.u64.wrap ((absI d).tdiv g))))) : Option Bool).bind fun v10 => (if v10 = true then some ((⟨0, 0⟩ : Ratio_), false) else (((if ((decide (n < 0)) != (decide (d < 0))) = true then some (⟨w64 (-(w64 (IntKind.u64.wrap ((absI n).tdiv g)))), w64 (IntKind.u64.wrap ((absI d).tdiv g))⟩ : Ratio_) else some (⟨w64 (IntKind.u64.wrap ((absI n).tdiv g)), w64 (IntKind.u64.wrap ((absI d).tdiv g))⟩ : Ratio_)) : Option Ratio_).bind fun v11 => some (v11, true)))))))) :
    f (Int.gcd n d : Int) = some (mkR n d) := by
  have hg := gcd_pos (n := n) h
  have a0 := absI_nn n
  have b0 := absI_nn d
  have a1 : absI n ≤ 9223372036854775808 := by unfold absI; obtain ⟨_, _⟩ := hn; omega
  have b1 : absI d ≤ 9223372036854775808 := by unfold absI; obtain ⟨_, _⟩ := hd; omega
  have qa := quo_bd (a := absI n) (g := (Int.gcd n d : Int)) a0 (by omega)
  have qb := quo_bd (a := absI d) (g := (Int.gcd n d : Int)) b0 (by omega)
  rw [hf, chk_t (by omega), chk_t (by omega), Int.tdiv_eq_ediv_of_nonneg a0, Int.tdiv_eq_ediv_of_nonneg b0]
  unfold mkR
  generalize absI n / (Int.gcd n d : Int) = a at *
  generalize absI d / (Int.gcd n d : Int) = b at *
  rw [u64_in qa.1 (by omega), u64_in qb.1 (by omega)]
  by_cases c1 : 1000000000 < a
  · simp [c1]
  · by_cases c2 : 1000000000 < b
    · simp [c1, c2]
    · rw [w64_in (x := a) (by omega) (by omega), w64_in (x := b) (by omega) (by omega), w64_in (x := -a) (by omega) (by omega)]
      simp only [if_neg c1, decide_eq_false c2, Option.bind_some, Bool.false_eq_true, if_false, c1, c2, or_self]
      cases (decide (n < 0) != decide (d < 0)) <;> simp
theorem s_l02Make_eq {n d : Int} (hn : osI n) (hd : osI d) (h : d ≠ 0) : s_l02Make_m n d = some (mkR n d) := by
  unfold s_l02Make_m
  have b1 : absI d ≤ 9223372036854775808 := by unfold absI; obtain ⟨_, _⟩ := hd; omega
  rw [s_l02Part_eq hn, Option.bind_some, s_l02Part_eq hd, Option.bind_some, gcd_loopP (fun a b h0 h1 => by simp only; rw [if_pos h1, chk_t (by omega)]) (fun a => by simp) (absI_nn n) (absI_nn d) (by omega), abs_gcd, Option.bind_some]
  exact make_tail hn hd h fun g => rfl
theorem i_reduced_eq {n d : Int} (hn : osI n) (hd : osI d) (h : d ≠ 0) : i_reduced_m n d = some (mkR n d) := by
  unfold i_reduced_m
  have b1 : absI d ≤ 9223372036854775808 := by unfold absI; obtain ⟨_, _⟩ := hd; omega
  rw [i_magnitude_eq hn, Option.bind_some, i_magnitude_eq hd, Option.bind_some, gcd_loopP (fun a b h0 h1 => by simp only; rw [if_pos (by omega), chk_t (by omega)]) (fun a => by simp) (absI_nn n) (absI_nn d) (by omega), abs_gcd, Option.bind_some]
  exact make_tail hn hd h fun g => rfl
def codeR (x : Ratio_ × Bool) : Ratio_ × Int := if x.2 = true then (x.1, 0) else (⟨0, 0⟩, 2)
def makeR (n d : Int) : Ratio_ × Int := if d = 0 then (⟨0, 0⟩, 6) else codeR (mkR n d)
theorem i_MakeRatio_eq {n d : Int} (hn : osI n) (hd : osI d) : i_MakeRatio_m n d = some (makeR n d) := by
  unfold i_MakeRatio_m makeR codeR
  by_cases h : d = 0
  · rw [if_pos h, if_pos h]
  · rw [if_neg h, if_neg h, i_reduced_eq hn hd h, Option.bind_some]
    cases (mkR n d).2 <;> simp
theorem i_gcd_eq {a b : Int} (ha : osI a) (ha' : -9223372036854775808 < a) (hb : osI b) (hb' : -9223372036854775808 < b) : i_gcd_m a b = some (Int.gcd a b : Int) := by
  unfold i_gcd_m
  obtain ⟨a0, a1⟩ := ha
  obtain ⟨b0, b1⟩ := hb
  obtain ⟨g, h, h1, h2⟩ := gcd_loop (step := fun s3 => (if s3.2 ≠ 0 then (chk (s3.2 ≠ 0) (some (.inl (s3.2, s3.1.tmod s3.2)))) else some (.inr s3.1))) (fun a b h => by simp only; rw [if_pos h, chk_t h]) (fun a => by simp) a b (by omega)
  rw [h, Option.bind_some]
  split
  · rw [w64_in (by omega) (by omega)]; congr 1; omega
  · congr 1; omega
theorem s_l02Gcd_eq {a b : Int} (ha : 0 ≤ a) (hb : 0 ≤ b) (hb1 : b ≤ 18446744073709551616) : s_l02Gcd_m a b = some (Int.gcd a b : Int) := by
  unfold s_l02Gcd_m
  rw [gcd_loopP (fun a b h0 h1 => by simp only; rw [if_pos (by omega), chk_t (by omega)]) (fun a => by simp) ha hb hb1]; rfl
theorem s_l02Size_eq {a : Int} (h : -9223372036854775808 < a) (h1 : a ≤ 9223372036854775807) : s_l02Size_m a = some (absI a) := by
  unfold s_l02Size_m absI
  split
  · rw [w64_in (by omega) (by omega)]; congr 1; omega
  · congr 1; omega
theorem i_abs_eq {a : Int} (h : -9223372036854775808 < a) (h1 : a ≤ 9223372036854775807) : i_abs_m a = some (absI a) := by
  unfold i_abs_m absI
  split
  · rw [w64_in (by omega) (by omega)]; congr 1; omega
  · congr 1; omega
def ratB (r : Ratio_) : Bool := btw r.Den 1 1000000000 && (btw r.Num (-1000000000) 1000000000 && decide (Int.gcd r.Num r.Den = 1))
theorem ratB_iff {r : Ratio_} : ratB r = true ↔ (1 ≤ r.Den ∧ r.Den ≤ 1000000000) ∧ (-1000000000 ≤ r.Num ∧ r.Num ≤ 1000000000) ∧ Int.gcd r.Num r.Den = 1 := by
  unfold ratB btw
  simp only [Bool.and_eq_true, decide_eq_true_eq]
theorem i_ValidRatio_eq (r : Ratio_) : i_ValidRatio_m r = some (ratB r) := by
  unfold i_ValidRatio_m ratB
  simp only [i_within_eq, Option.bind_some]
  by_cases h1 : btw r.Den 1 1000000000 = true
  · by_cases h2 : btw r.Num (-1000000000) 1000000000 = true
    · have g1 := of_decide_eq_true h1
      have g2 := of_decide_eq_true h2
      rw [if_pos h1, if_pos h2, i_gcd_eq ⟨by omega, by omega⟩ (by omega) ⟨by omega, by omega⟩ (by omega), h1, h2]
      simp only [Option.bind_some, Bool.true_and]
      congr 1
      rw [decide_eq_decide]
      omega
    · simp [h1, h2]
  · simp [h1]
end Go.Proofs.YtlakbomkpnlidaaGreat
namespace Go.Proofs.YtlakbomkpnlidaaGreat
set_option linter.unusedVariables false
def monB (m : Month_) : Bool := nameB m.Name && (btw m.Days 1 60 && btw m.Leap 1 60)
def ruleB (r : LeapRule_) : Bool := btw r.Every 1 1000 && btw r.Rest 0 (r.Every - 1)
def cycF (y : Int) (r : LeapRule_) : Int := if y ≤ 2000 then y / (Int.gcd y r.Every : Int) * r.Every else y
def cyc (rs : List LeapRule_) : Int := rs.foldl cycF 1
def monsB (xs : List Month_) : Bool := allI xs fun i m => monB m && !((xs.take i).any fun n => decide (n.Name = m.Name))
def calB (c : Calendar_) : Bool := nameB c.Name && (decide (1 ≤ c.Months.length ∧ c.Months.length ≤ 20) && (decide (c.Rules.length ≤ 6) && (btw c.Week 1 12 && (monsB c.Months && (c.Rules.all ruleB && decide (cyc c.Rules ≤ 2000))))))
theorem ruleB_iff {r : LeapRule_} : ruleB r = true ↔ (1 ≤ r.Every ∧ r.Every ≤ 1000) ∧ 0 ≤ r.Rest ∧ r.Rest ≤ r.Every - 1 := by
  unfold ruleB btw
  simp only [Bool.and_eq_true, decide_eq_true_eq]
theorem cyc_step {y e : Int} (y0 : 1 ≤ y) (y1 : y ≤ 2000) (e0 : 1 ≤ e) (e1 : e ≤ 1000) : 1 ≤ y / (Int.gcd y e : Int) ∧ y / (Int.gcd y e : Int) ≤ 2000 ∧ 1 ≤ y / (Int.gcd y e : Int) * e ∧ y / (Int.gcd y e : Int) * e ≤ 2000000 := by
  have hg := gcd_pos (n := y) (d := e) (by omega)
  have hd : (Int.gcd y e : Int) ∣ y := Int.gcd_dvd_left ..
  have h1 : 1 ≤ y / (Int.gcd y e : Int) := by
    have h2 : (Int.gcd y e : Int) ≤ y := Int.le_of_dvd (by omega) hd
    exact (Int.le_ediv_iff_mul_le (by omega)).2 (by omega)
  have h2 : y / (Int.gcd y e : Int) ≤ y := Int.ediv_le_self _ (by omega)
  refine ⟨h1, by omega, ?_, ?_⟩
  · have := Int.mul_le_mul h1 e0 (by omega) (by omega); omega
  · have := Int.mul_le_mul (show y / (Int.gcd y e : Int) ≤ 2000 by omega) e1 (by omega) (by omega); omega
theorem cycF_in {y : Int} {r : LeapRule_} (y0 : 1 ≤ y) (y1 : y ≤ 2000000) (h : ruleB r = true) : 1 ≤ cycF y r ∧ cycF y r ≤ 2000000 := by
  unfold cycF
  have hr := ruleB_iff.1 h
  split
  · have := cyc_step y0 (by omega) hr.1.1 hr.1.2; omega
  · omega
theorem cyc_high {rs : List LeapRule_} {y : Int} (h : 2000 < y) : rs.foldl cycF y = y := by
  induction rs generalizing y with
  | nil => rfl
  | cons r rs ih =>
    rw [List.foldl_cons]
    have e : cycF y r = y := by unfold cycF; rw [if_neg (by omega)]
    rw [e]; exact ih h
theorem i_cycleYears_eq {rs : List LeapRule_} (hl : rs.length ≤ 9223372036854775807) (h : rs.all ruleB = true) : i_cycleYears_m rs = some (cyc rs) := by
  unfold i_cycleYears_m
  have hr : ∀ (i : Nat) (hi : i < rs.length), ruleB rs[i] = true := fun i hi => (List.all_eq_true.1 h) _ (List.getElem_mem hi)
  have := loop_forI (xs := rs) (step := fun s6 => (if s6.2 < (rs.length : Int) then ((((atI rs s6.2).bind fun v7 => (if s6.1 ≤ 2000 then ((i_gcd_m s6.1 v7.Every).bind fun v8 => (chk (v8 ≠ 0) (some (w64 ((w64 (s6.1.tdiv v8)) * v7.Every))))) else some s6.1)) : Option Int).bind fun v10 => some (.inl (v10, w64 (s6.2 + 1)))) else some (.inr s6.1)))
    (fun i (y : Int) => (y, i)) (fun _ r y => some (.inl (cycF y r))) id (fun y => 1 ≤ y ∧ y ≤ 2000000) hl (fun i hi y hy => by
      have hi' : (i : Int) < rs.length := by omega
      have e1 : w64 ((i : Int) + 1) = i + 1 := w64_in (by omega) (by omega)
      have hq := ruleB_iff.1 (hr i hi)
      simp only [if_pos hi', atI_lt hi, Option.bind_some, e1]
      unfold cycF
      by_cases c : y ≤ 2000
      · have hc := cyc_step hy.1 c hq.1.1 hq.1.2
        have hg := gcd_pos (n := y) (d := rs[i].Every) (by omega)
        rw [if_pos c, if_pos c, i_gcd_eq ⟨by omega, by omega⟩ (by omega) ⟨by omega, by omega⟩ (by omega), Option.bind_some, chk_t (by omega), Int.tdiv_eq_ediv_of_nonneg (by omega), w64_in (x := y / _) (by omega) (by omega), w64_in (by omega) (by omega)]
        rfl
      · rw [if_neg c, if_neg c]; rfl) (fun i hi y y' hy e => by
      injection e with e; injection e with e; subst e
      exact cycF_in hy.1 hy.2 (hr i hi)) (fun y _ => by simp) 1 (by omega)
  rw [this, forL_fold cycF (fun _ _ _ => rfl)]
  rfl
theorem s_years_for {X : Type} {e : X} {rs : List LeapRule_} : ∀ (k : Nat) (y : Int), 1 ≤ y → y ≤ 2000 → forL (X := X) (fun _ r y => if ruleB r = true then (if 2000 < y / (Int.gcd y r.Every : Int) * r.Every then some (.inr e) else some (.inl (y / (Int.gcd y r.Every : Int) * r.Every))) else some (.inr e)) rs k y = some (if rs.all ruleB = true ∧ rs.foldl cycF y ≤ 2000 then .inl (rs.foldl cycF y) else .inr e) := by
  induction rs with
  | nil => intro k y h0 h1; simp [forL, h1]
  | cons r rs ih =>
    intro k y h0 h1
    show Option.bind (if ruleB r = true then _ else _) _ = _
    cases hr : ruleB r
    · simp [hr]
    · have hq := ruleB_iff.1 hr
      have hc := cyc_step h0 h1 hq.1.1 hq.1.2
      have e : cycF y r = y / (Int.gcd y r.Every : Int) * r.Every := by unfold cycF; rw [if_pos h1]
      rw [if_pos rfl, List.foldl_cons, List.all_cons, hr, e, Bool.true_and]
      by_cases c : 2000 < y / (Int.gcd y r.Every : Int) * r.Every
      · rw [if_pos c, Option.bind_some, cyc_high c, if_neg (by omega)]
      · rw [if_neg c, Option.bind_some]
        exact ih (k + 1) _ hc.2.2.1 (by omega)
theorem s_l15Years_eq {rs : List LeapRule_} (hl : rs.length ≤ 9223372036854775807) : s_l15Years_m rs = some (if rs.all ruleB = true ∧ cyc rs ≤ 2000 then (cyc rs, decide (rs.length ≤ 6)) else (0, false)) := by
  unfold s_l15Years_m
  rw [loop_forI (xs := rs) (fun i (y : Int) => (y, i)) (fun _ r y => if ruleB r = true then (if 2000 < y / (Int.gcd y r.Every : Int) * r.Every then some (.inr (.inr (0, false))) else some (.inl (y / (Int.gcd y r.Every : Int) * r.Every))) else some (.inr (.inr (0, false)))) (fun y => .inl y) (fun y => 1 ≤ y ∧ y ≤ 2000) hl (fun i hi y hy => ?_) (fun i hi y y' hy e => ?_) (fun y _ => by simp) 1 (by omega)]
  · have e : forL (X := Int ⊕ (Int × Bool)) (fun _ r y => if ruleB r = true then (if 2000 < y / (Int.gcd y r.Every : Int) * r.Every then some (.inr (.inr (0, false))) else some (.inl (y / (Int.gcd y r.Every : Int) * r.Every))) else some (.inr (.inr (0, false)))) rs 0 1 = some (if rs.all ruleB = true ∧ cyc rs ≤ 2000 then .inl (cyc rs) else .inr (.inr (0, false))) := s_years_for 0 1 (by omega) (by omega)
    rw [e]
    by_cases c : rs.all ruleB = true ∧ cyc rs ≤ 2000
    · simp only [if_pos c]
      simp [orE]
      omega
    · simp only [if_neg c]; rfl
  · have hi' : (i : Int) < rs.length := by omega
    have e1 : w64 ((i : Int) + 1) = i + 1 := w64_in (by omega) (by omega)
    simp only [if_pos hi', atI_lt hi, Option.bind_some, e1, s_l00In_eq]
    have e2 : ruleB rs[i] = (btw rs[i].Every 1 1000 && btw rs[i].Rest 0 (rs[i].Every - 1)) := rfl
    rw [e2]
    by_cases c1 : btw rs[i].Every 1 1000 = true
    · have q := of_decide_eq_true c1
      rw [c1, w64_in (x := rs[i].Every - 1) (by omega) (by omega)]
      cases btw rs[i].Rest 0 (rs[i].Every - 1)
      · rfl
      · have hc := cyc_step hy.1 hy.2 q.1 q.2
        have hg := gcd_pos (n := y) (d := rs[i].Every) (by omega)
        simp only [Bool.not_true, Bool.false_eq_true, if_false, Option.bind_some, Bool.and_self, if_true]
        rw [s_l02Gcd_eq (by omega) (by omega) (by omega), Option.bind_some, chk_t (by omega), Int.tdiv_eq_ediv_of_nonneg (by omega), w64_in (x := y / _) (by omega) (by omega), w64_in (by omega) (by omega)]
        by_cases c : 2000 < y / (Int.gcd y rs[i].Every : Int) * rs[i].Every
        · rw [if_pos c, if_pos c]; rfl
        · rw [if_neg c, if_neg c]; rfl
    · rw [Bool.not_eq_true] at c1
      rw [c1]; rfl
  · split at e
    · rename_i hr
      have hq := ruleB_iff.1 hr
      have hc := cyc_step hy.1 hy.2 hq.1.1 hq.1.2
      split at e
      · cases e
      · injection e with e; injection e with e; omega
    · cases e
theorem i_knownMonth_eq {xs : List Month_} {m : Month_} (hl : xs.length ≤ 9223372036854775807) : slices_ContainsFunc_LMonth_Month_i_ValidCalendar_1_m xs m = some (xs.any fun n => decide (n.Name = m.Name)) := by
  unfold slices_ContainsFunc_LMonth_Month_i_ValidCalendar_1_m slices_IndexFunc_LMonth_Month_i_ValidCalendar_1_m
  rw [findG (fun n => decide (n.Name = m.Name)) hl fun i hi => by rw [atI_lt hi, Option.bind_some, i_ValidCalendar_1_m, Option.bind_some], Option.bind_some, posOf_nn]
theorem i_ValidCalendar_eq {c : Calendar_} (hm : c.Months.length ≤ 9223372036854775807) (hr : c.Rules.length ≤ 9223372036854775807) : i_ValidCalendar_m c = some (calB c) := by
  unfold i_ValidCalendar_m calB
  simp only [i_IsName_eq, i_within_eq, Option.bind_some, itO]
  simp only [itOp (p := (_ : Int) < _), itO, Option.bind_some]
  by_cases h : nameB c.Name = true ∧ (1 ≤ c.Months.length ∧ c.Months.length ≤ 20) ∧ c.Rules.length ≤ 6 ∧ btw c.Week 1 12 = true
  · obtain ⟨h1, h2, h3, h4⟩ := h
    rw [h1, h4, decide_eq_false (show ¬ (c.Months.length : Int) < 1 by omega), decide_eq_false (show ¬ 20 < (c.Months.length : Int) by omega), decide_eq_false (show ¬ 6 < (c.Rules.length : Int) by omega), decide_eq_true h2, decide_eq_true h3, if_neg (by decide),
      scanG (e := .inr false) (fun i m => monB m && !((c.Months.take i).any fun n => decide (n.Name = m.Name))) hm fun i hi => ?_, Option.bind_some,
      scanG (e := .inr false) (fun _ r => ruleB r) hr fun i hi => ?_, Option.bind_some, allI_all]
    · by_cases h5 : c.Rules.all ruleB = true
      · rw [i_cycleYears_eq hr h5, Option.bind_some, h5]
        unfold monsB
        cases allI c.Months (fun i m => monB m && !((c.Months.take i).any fun n => decide (n.Name = m.Name))) <;> rfl
      · rw [Bool.not_eq_true] at h5
        rw [h5]
        unfold monsB
        cases allI c.Months (fun i m => monB m && !((c.Months.take i).any fun n => decide (n.Name = m.Name))) <;> rfl
    · rw [atI_lt hi]
      simp only [Option.bind_some]
      by_cases q : btw c.Rules[i].Every 1 1000 = true
      · have := of_decide_eq_true q
        unfold ruleB
        rw [q, w64_in (by omega) (by omega)]
        cases btw c.Rules[i].Rest 0 (c.Rules[i].Every - 1) <;> rfl
      · rw [Bool.not_eq_true] at q
        unfold ruleB
        rw [q]; rfl
    · rw [atI_lt hi]
      simp only [Option.bind_some]
      rw [chk_t (subL_ok (by omega)), subL0, i_knownMonth_eq (by rw [List.length_take]; omega), Option.bind_some]
      unfold monB
      cases nameB c.Months[i].Name <;> cases btw c.Months[i].Days 1 60 <;> cases btw c.Months[i].Leap 1 60 <;> cases ((c.Months.take i).any fun n => decide (n.Name = c.Months[i].Name)) <;> rfl
  · have e : (!nameB c.Name || (decide ((c.Months.length : Int) < 1) || (decide (20 < (c.Months.length : Int)) || (decide (6 < (c.Rules.length : Int)) || !btw c.Week 1 12)))) = true := by
      simp only [Bool.or_eq_true, Bool.not_eq_true', decide_eq_true_eq]
      by_cases h1 : nameB c.Name = true
      · by_cases h2 : 1 ≤ c.Months.length ∧ c.Months.length ≤ 20
        · by_cases h3 : c.Rules.length ≤ 6
          · have h4 : ¬ btw c.Week 1 12 = true := fun h4 => h ⟨h1, h2, h3, h4⟩
            simp [h4]
          · omega
        · omega
      · simp [h1]
    rw [e, if_pos rfl]
    congr 1
    symm
    rw [← Bool.not_eq_true]
    simp only [Bool.and_eq_true, decide_eq_true_eq]
    rintro ⟨h1, h2, h3, h4, _⟩
    exact h ⟨h1, h2, h3, h4⟩
theorem s_l15Months_eq {xs : List Month_} (hl : xs.length ≤ 9223372036854775807) : s_l15Months_m xs = some (monsB xs && decide (1 ≤ xs.length ∧ xs.length ≤ 20)) := by
  unfold s_l15Months_m
  rw [scanG (e := .inr false) (fun i m => monB m && !((xs.take i).any fun n => decide (n.Name = m.Name))) hl fun i hi => ?_, Option.bind_some]
  · have e : btw (xs.length : Int) 1 20 = decide (1 ≤ xs.length ∧ xs.length ≤ 20) := by unfold btw; rw [decide_eq_decide]; omega
    rw [s_l00In_eq, e]
    unfold monsB
    cases allI xs (fun i m => monB m && !((xs.take i).any fun n => decide (n.Name = m.Name))) <;> rfl
  · simp only [atI_lt hi, s_IsName_eq, s_l00In_eq, Option.bind_some, itO]
    rw [scanT (xs := xs) i (fun _ (b : Month_) => !decide (b.Name = xs[i].Name)) (by omega) (by omega) fun j hj _ => by
      rw [atI_lt hj, Option.bind_some]
      by_cases q : xs[j].Name = xs[i].Name
      · rw [if_pos q, decide_eq_true q]; rfl
      · rw [if_neg q, decide_eq_false q]; rfl, allI_all]
    have e : ((xs.take i).all fun b => !decide (b.Name = xs[i].Name)) = !((xs.take i).any fun b => decide (b.Name = xs[i].Name)) := by rw [Bool.eq_iff_iff]; simp
    rw [e]
    unfold monB
    cases nameB xs[i].Name <;> cases btw xs[i].Days 1 60 <;> cases btw xs[i].Leap 1 60 <;> cases ((xs.take i).any fun n => decide (n.Name = xs[i].Name)) <;> rfl
theorem s_l15Ok_eq {c : Calendar_} (hm : c.Months.length ≤ 9223372036854775807) (hr : c.Rules.length ≤ 9223372036854775807) : s_l15Ok_m c = some (calB c) := by
  unfold s_l15Ok_m calB
  rw [s_l15Years_eq hr, Option.bind_some]
  simp only [s_IsName_eq, s_l15Months_eq hm, s_l00In_eq, Option.bind_some, itA]
  by_cases h : c.Rules.all ruleB = true ∧ cyc c.Rules ≤ 2000
  · rw [if_pos h, h.1, decide_eq_true h.2]
    cases nameB c.Name <;> cases monsB c.Months <;> cases btw c.Week 1 12 <;> cases decide (1 ≤ c.Months.length ∧ c.Months.length ≤ 20) <;> cases decide (c.Rules.length ≤ 6) <;> rfl
  · rw [if_neg h]
    have e : (c.Rules.all ruleB && decide (cyc c.Rules ≤ 2000)) = false := by
      rw [← Bool.not_eq_true, Bool.and_eq_true, decide_eq_true_eq]; exact h
    rw [e]
    cases nameB c.Name <;> cases monsB c.Months <;> cases btw c.Week 1 12 <;> cases decide (1 ≤ c.Months.length ∧ c.Months.length ≤ 20) <;> cases decide (c.Rules.length ≤ 6) <;> rfl
def camB (xs : List Int) : Bool := xs.all (fun n => btw n 1 60) && decide (1 ≤ xs.length ∧ xs.length ≤ 260)
theorem i_ValidCam_eq {xs : List Int} (hl : xs.length ≤ 9223372036854775807) : i_ValidCam_m xs = some (camB xs) := by
  unfold i_ValidCam_m camB
  rw [scanG (fun _ v => btw v 1 60) hl fun i hi => by rw [atI_lt hi, Option.bind_some, i_within_eq, Option.bind_some]; cases btw xs[i] 1 60 <;> rfl, allI_all, Option.bind_some, itAp]
  have e : (decide (1 ≤ (xs.length : Int)) && decide ((xs.length : Int) ≤ 260)) = decide (1 ≤ xs.length ∧ xs.length ≤ 260) := by rw [← Bool.decide_and, decide_eq_decide]; omega
  rw [e]
  exact scan_and rfl
theorem s_l17Ok_eq {xs : List Int} (hl : xs.length ≤ 9223372036854775807) : s_l17Ok_m xs = some (camB xs) := by
  unfold s_l17Ok_m camB
  rw [scanG (fun _ v => btw v 1 60) hl fun i hi => by rw [atI_lt hi, Option.bind_some, s_l00In_eq, Option.bind_some]; cases btw xs[i] 1 60 <;> rfl, allI_all, Option.bind_some, s_l00In_eq, Option.bind_some]
  have e : btw (xs.length : Int) 1 260 = decide (1 ≤ xs.length ∧ xs.length ≤ 260) := by unfold btw; rw [decide_eq_decide]; omega
  rw [e]
  exact scan_and rfl
end Go.Proofs.YtlakbomkpnlidaaGreat
namespace Go.Proofs.YtlakbomkpnlidaaGreat
set_option linter.unusedVariables false
def smS (x : ByteArray) : Prop := x.size ≤ 1048576
def smL {α : Type} (sm : α → Prop) (xs : List α) : Prop := xs.length ≤ 1048576 ∧ ∀ m ∈ xs, sm m
theorem strOf_one (b : Int) : (strOfNums [b]).size = 1 := by simp [strOfNums, ByteArray.size]
theorem markText_some {k : Int} (h0 : 0 ≤ k) (h1 : k ≤ 1000000000000000000) : ∃ t, l_markText_m k = some t := by
  unfold l_markText_m
  by_cases hk : k ≤ 0
  · exact ⟨_, if_pos hk⟩
  · rw [if_neg hk]
    obtain ⟨x, hx, hp⟩ := loopM_of (S := Int × ByteArray) (X := ByteArray) (step := fun s5 => (if 0 < s5.1 then (chk ((strOfNums [IntKind.u8.wrap (w64 (48 + (s5.1.tmod 10)))]).size + s5.2.size ≤ 9223372036854775807) (some (.inl (w64 (s5.1.tdiv 10), (strOfNums [IntKind.u8.wrap (w64 (48 + (s5.1.tmod 10)))]) ++ s5.2)))) else some (.inr s5.2)))
      (fun (s : Int × ByteArray) => 0 ≤ s.1 ∧ s.1 + s.2.size ≤ 1000000000000000000) (fun (s : Int × ByteArray) => s.1.toNat) (fun x => (x.size : Int) ≤ 1000000000000000000) (fun s hI => by
        obtain ⟨i, b⟩ := s
        obtain ⟨q0, q1⟩ := hI
        dsimp only at q0 q1 ⊢
        by_cases hi : 0 < i
        · left
          have e1 : i.tdiv 10 = i / 10 := Int.tdiv_eq_ediv_of_nonneg q0
          have e2 : w64 (i / 10) = i / 10 := w64_in (by omega) (by omega)
          have e3 := strOf_one (IntKind.u8.wrap (w64 (48 + (i.tmod 10))))
          refine ⟨_, by rw [if_pos hi, chk_t (by rw [e3]; omega)], ?_, ?_⟩
          · dsimp only
            rw [e1, e2, ByteArray.size_append, e3]
            push_cast
            omega
          · dsimp only
            rw [e1, e2]; omega
        · right; exact ⟨b, by rw [if_neg hi], by omega⟩) (k, ⟨#[]⟩) ⟨h0, by show k + ((0 : Nat) : Int) ≤ _; omega⟩ (by dsimp only; omega)
    rw [hx]
    refine ⟨_, chk_t ?_⟩
    have : (⟨#[109]⟩ : ByteArray).size = 1 := rfl
    rw [this]; omega
def mkT (k : Int) : ByteArray := (l_markText_m k).getD ⟨#[]⟩
theorem markText_eq {k : Int} (h0 : 0 ≤ k) (h1 : k ≤ 1000000000000000000) : l_markText_m k = some (mkT k) := by
  obtain ⟨t, ht⟩ := markText_some h0 h1
  unfold mkT; rw [ht]; rfl
end Go.Proofs.YtlakbomkpnlidaaGreat
namespace Go.Proofs.YtlakbomkpnlidaaGreat
open Go.RowKit
set_option linter.unusedVariables false
set_option maxRecDepth 100000
set_option maxHeartbeats 2000000
def smArbor_ (x : Arbor_) : Prop := smS x.Name ∧ (smL (fun _ => True)) x.Wheels
def smMesh_ (x : Mesh_) : Prop := (fun _ => True) x.A ∧ (fun _ => True) x.WheelA ∧ (fun _ => True) x.B ∧ (fun _ => True) x.WheelB
def smWorks_ (x : Works_) : Prop := (smL smArbor_) x.Arbors ∧ (smL smMesh_) x.Meshes
def smMonth_ (x : Month_) : Prop := smS x.Name ∧ (fun _ => True) x.Days ∧ (fun _ => True) x.Leap
def smLeapRule_ (x : LeapRule_) : Prop := (fun _ => True) x.Every ∧ (fun _ => True) x.Rest ∧ (fun _ => True) x.Leap
def smCalendar_ (x : Calendar_) : Prop := smS x.Name ∧ (smL smMonth_) x.Months ∧ (smL smLeapRule_) x.Rules ∧ (fun _ => True) x.Week
def smMovement_ (x : Movement_) : Prop := smS x.Name ∧ smWorks_ x.Works ∧ (fun _ => True) x.Minute ∧ (fun _ => True) x.Hour ∧ (fun _ => True) x.Escape ∧ (fun _ => True) x.Teeth ∧ (fun _ => True) x.Beats ∧ smCalendar_ x.Calendar ∧ (smL (fun _ => True)) x.Cam ∧ (fun _ => True) x.Strike
theorem toInt64S_eq {x : List Int} (h : (smL (fun _ => True)) x) : l_toInt64S_m x = some x := by
  unfold l_toInt64S_m
  rw [chk_t (by have := h.1; omega), toS_id' (by have := h.1; omega)]; rfl
theorem toArbor_eq {x : Arbor_} (h : smArbor_ x) : l_toArbor_m x = some x := by
  unfold l_toArbor_m
  simp only [toInt64S_eq h.2, Option.bind_some]
theorem toArborS_eq {x : List Arbor_} (h : (smL smArbor_) x) : l_toArborS_m x = some x := by
  unfold l_toArborS_m
  rw [chk_t (by have := h.1; omega), toS_id (by have := h.1; omega) fun v hv => toArbor_eq (h.2 v hv)]; rfl
theorem toMesh_eq {x : Mesh_} (h : smMesh_ x) : l_toMesh_m x = some x := rfl
theorem toMeshS_eq {x : List Mesh_} (h : (smL smMesh_) x) : l_toMeshS_m x = some x := by
  unfold l_toMeshS_m
  rw [chk_t (by have := h.1; omega), toS_id (by have := h.1; omega) fun v hv => toMesh_eq (h.2 v hv)]; rfl
theorem toWorks_eq {x : Works_} (h : smWorks_ x) : l_toWorks_m x = some x := by
  unfold l_toWorks_m
  simp only [toArborS_eq h.1, toMeshS_eq h.2, Option.bind_some]
theorem toMonth_eq {x : Month_} (h : smMonth_ x) : l_toMonth_m x = some x := rfl
theorem toMonthS_eq {x : List Month_} (h : (smL smMonth_) x) : l_toMonthS_m x = some x := by
  unfold l_toMonthS_m
  rw [chk_t (by have := h.1; omega), toS_id (by have := h.1; omega) fun v hv => toMonth_eq (h.2 v hv)]; rfl
theorem toLeapRule_eq {x : LeapRule_} (h : smLeapRule_ x) : l_toLeapRule_m x = some x := rfl
theorem toLeapRuleS_eq {x : List LeapRule_} (h : (smL smLeapRule_) x) : l_toLeapRuleS_m x = some x := by
  unfold l_toLeapRuleS_m
  rw [chk_t (by have := h.1; omega), toS_id (by have := h.1; omega) fun v hv => toLeapRule_eq (h.2 v hv)]; rfl
theorem toCalendar_eq {x : Calendar_} (h : smCalendar_ x) : l_toCalendar_m x = some x := by
  unfold l_toCalendar_m
  simp only [toMonthS_eq h.2.1, toLeapRuleS_eq h.2.2.1, Option.bind_some]
theorem toMovement_eq {x : Movement_} (h : smMovement_ x) : l_toMovement_m x = some x := by
  unfold l_toMovement_m
  simp only [toWorks_eq h.2.1, toCalendar_eq h.2.2.2.2.2.2.2.1, toInt64S_eq h.2.2.2.2.2.2.2.2.1, Option.bind_some]
theorem szInt64S_ok {x : List Int} (h : (osL osI) x) (l : Int) (h0 : 0 ≤ l) (h1 : l ≤ 1048576) : ∃ r, l_szInt64S_m x l = some r ∧ r ≤ l ∧ (0 ≤ r → (smL (fun _ => True)) x) := by
  obtain ⟨hl, hm⟩ := h
  unfold l_szInt64S_m
  rw [w64_in (by omega) (by omega)]
  split
  · exact ⟨_, rfl, by omega, by omega⟩
  · exact ⟨_, rfl, by omega, fun _ => ⟨by omega, fun _ _ => trivial⟩⟩
theorem szArbor_ok {x : Arbor_} (h : okArbor_ x) (l : Int) (h0 : 0 ≤ l) (h1 : l ≤ 1048576) : ∃ r, l_szArbor_m x l = some r ∧ r ≤ l ∧ (0 ≤ r → smArbor_ x) := by
  unfold l_szArbor_m
  have g0 := h.1
  unfold osS at g0
  rw [w64_in (x := l - (x.Name.size : Int)) (by omega) (by omega)]
  by_cases c0 : l - (x.Name.size : Int) < 0
  · rw [if_pos c0]; exact ⟨-1, rfl, by omega, by omega⟩
  rw [if_neg c0]
  obtain ⟨r0, hr0⟩ : ∃ r : Int, r = l - (x.Name.size : Int) := ⟨_, rfl⟩
  rw [← hr0] at c0 ⊢
  obtain ⟨r1, e1, f1, s1⟩ := szInt64S_ok h.2 r0 (by omega) (by omega)
  rw [e1]
  simp only [Option.bind_some]
  by_cases c1 : r1 < 0
  · simp only [if_pos c1]; exact ⟨_, rfl, by omega, by omega⟩
  simp only [if_neg c1]
  exact ⟨_, rfl, by omega, fun _ => ⟨(show smS x.Name by unfold smS; omega), s1 (by omega)⟩⟩
theorem szArborS_ok {x : List Arbor_} (h : (osL okArbor_) x) (l : Int) (h0 : 0 ≤ l) (h1 : l ≤ 1048576) : ∃ r, l_szArborS_m x l = some r ∧ r ≤ l ∧ (0 ≤ r → (smL smArbor_) x) := by
  obtain ⟨hl, hm⟩ := h
  unfold l_szArborS_m
  by_cases hq : w64 (l - (x.length : Int)) < 0
  · rw [if_pos hq]; exact ⟨-1, rfl, by omega, by omega⟩
  · rw [if_neg hq]
    rw [w64_in (by omega) (by omega)] at hq ⊢
    obtain ⟨y, hy, hp⟩ := szS_ok hl (sm := smArbor_) (fun v hv a b c => szArbor_ok (hm v hv) a b c) (l - x.length) (by omega) (by omega)
    rw [hy]
    rcases hp with rfl | ⟨r, rfl, e1, e2, e3⟩
    · exact ⟨-1, rfl, by omega, by omega⟩
    · exact ⟨r, rfl, by omega, fun _ => ⟨by omega, e3⟩⟩
theorem szMeshS_ok {x : List Mesh_} (h : (osL okMesh_) x) (l : Int) (h0 : 0 ≤ l) (h1 : l ≤ 1048576) : ∃ r, l_szMeshS_m x l = some r ∧ r ≤ l ∧ (0 ≤ r → (smL smMesh_) x) := by
  obtain ⟨hl, hm⟩ := h
  unfold l_szMeshS_m
  rw [w64_in (by omega) (by omega)]
  split
  · exact ⟨_, rfl, by omega, by omega⟩
  · exact ⟨_, rfl, by omega, fun _ => ⟨by omega, fun _ _ => by simp [smMesh_]⟩⟩
theorem szWorks_ok {x : Works_} (h : okWorks_ x) (l : Int) (h0 : 0 ≤ l) (h1 : l ≤ 1048576) : ∃ r, l_szWorks_m x l = some r ∧ r ≤ l ∧ (0 ≤ r → smWorks_ x) := by
  unfold l_szWorks_m
  obtain ⟨r0, e0, f0, s0⟩ := szArborS_ok h.1 l (by omega) (by omega)
  rw [e0]
  simp only [Option.bind_some]
  by_cases c0 : r0 < 0
  · simp only [if_pos c0]; exact ⟨_, rfl, by omega, by omega⟩
  simp only [if_neg c0]
  obtain ⟨r1, e1, f1, s1⟩ := szMeshS_ok h.2 r0 (by omega) (by omega)
  rw [e1]
  simp only [Option.bind_some]
  by_cases c1 : r1 < 0
  · simp only [if_pos c1]; exact ⟨_, rfl, by omega, by omega⟩
  simp only [if_neg c1]
  exact ⟨_, rfl, by omega, fun _ => ⟨s0 (by omega), s1 (by omega)⟩⟩
theorem szMonth_ok {x : Month_} (h : okMonth_ x) (l : Int) (h0 : 0 ≤ l) (h1 : l ≤ 1048576) : ∃ r, l_szMonth_m x l = some r ∧ r ≤ l ∧ (0 ≤ r → smMonth_ x) := by
  unfold l_szMonth_m
  have g0 := h.1
  unfold osS at g0
  rw [w64_in (x := l - (x.Name.size : Int)) (by omega) (by omega)]
  by_cases c0 : l - (x.Name.size : Int) < 0
  · rw [if_pos c0]; exact ⟨-1, rfl, by omega, by omega⟩
  rw [if_neg c0]
  obtain ⟨r0, hr0⟩ : ∃ r : Int, r = l - (x.Name.size : Int) := ⟨_, rfl⟩
  rw [← hr0] at c0 ⊢
  exact ⟨_, rfl, by omega, fun _ => ⟨(show smS x.Name by unfold smS; omega), trivial, trivial⟩⟩
theorem szMonthS_ok {x : List Month_} (h : (osL okMonth_) x) (l : Int) (h0 : 0 ≤ l) (h1 : l ≤ 1048576) : ∃ r, l_szMonthS_m x l = some r ∧ r ≤ l ∧ (0 ≤ r → (smL smMonth_) x) := by
  obtain ⟨hl, hm⟩ := h
  unfold l_szMonthS_m
  by_cases hq : w64 (l - (x.length : Int)) < 0
  · rw [if_pos hq]; exact ⟨-1, rfl, by omega, by omega⟩
  · rw [if_neg hq]
    rw [w64_in (by omega) (by omega)] at hq ⊢
    obtain ⟨y, hy, hp⟩ := szS_ok hl (sm := smMonth_) (fun v hv a b c => szMonth_ok (hm v hv) a b c) (l - x.length) (by omega) (by omega)
    rw [hy]
    rcases hp with rfl | ⟨r, rfl, e1, e2, e3⟩
    · exact ⟨-1, rfl, by omega, by omega⟩
    · exact ⟨r, rfl, by omega, fun _ => ⟨by omega, e3⟩⟩
theorem szLeapRuleS_ok {x : List LeapRule_} (h : (osL okLeapRule_) x) (l : Int) (h0 : 0 ≤ l) (h1 : l ≤ 1048576) : ∃ r, l_szLeapRuleS_m x l = some r ∧ r ≤ l ∧ (0 ≤ r → (smL smLeapRule_) x) := by
  obtain ⟨hl, hm⟩ := h
  unfold l_szLeapRuleS_m
  rw [w64_in (by omega) (by omega)]
  split
  · exact ⟨_, rfl, by omega, by omega⟩
  · exact ⟨_, rfl, by omega, fun _ => ⟨by omega, fun _ _ => by simp [smLeapRule_]⟩⟩
theorem szCalendar_ok {x : Calendar_} (h : okCalendar_ x) (l : Int) (h0 : 0 ≤ l) (h1 : l ≤ 1048576) : ∃ r, l_szCalendar_m x l = some r ∧ r ≤ l ∧ (0 ≤ r → smCalendar_ x) := by
  unfold l_szCalendar_m
  have g0 := h.1
  unfold osS at g0
  rw [w64_in (x := l - (x.Name.size : Int)) (by omega) (by omega)]
  by_cases c0 : l - (x.Name.size : Int) < 0
  · rw [if_pos c0]; exact ⟨-1, rfl, by omega, by omega⟩
  rw [if_neg c0]
  obtain ⟨r0, hr0⟩ : ∃ r : Int, r = l - (x.Name.size : Int) := ⟨_, rfl⟩
  rw [← hr0] at c0 ⊢
  obtain ⟨r1, e1, f1, s1⟩ := szMonthS_ok h.2.1 r0 (by omega) (by omega)
  rw [e1]
  simp only [Option.bind_some]
  by_cases c1 : r1 < 0
  · simp only [if_pos c1]; exact ⟨_, rfl, by omega, by omega⟩
  simp only [if_neg c1]
  obtain ⟨r2, e2, f2, s2⟩ := szLeapRuleS_ok h.2.2.1 r1 (by omega) (by omega)
  rw [e2]
  simp only [Option.bind_some]
  by_cases c2 : r2 < 0
  · simp only [if_pos c2]; exact ⟨_, rfl, by omega, by omega⟩
  simp only [if_neg c2]
  exact ⟨_, rfl, by omega, fun _ => ⟨(show smS x.Name by unfold smS; omega), s1 (by omega), s2 (by omega), trivial⟩⟩
theorem szMovement_ok {x : Movement_} (h : okMovement_ x) (l : Int) (h0 : 0 ≤ l) (h1 : l ≤ 1048576) : ∃ r, l_szMovement_m x l = some r ∧ r ≤ l ∧ (0 ≤ r → smMovement_ x) := by
  unfold l_szMovement_m
  have g0 := h.1
  unfold osS at g0
  rw [w64_in (x := l - (x.Name.size : Int)) (by omega) (by omega)]
  by_cases c0 : l - (x.Name.size : Int) < 0
  · rw [if_pos c0]; exact ⟨-1, rfl, by omega, by omega⟩
  rw [if_neg c0]
  obtain ⟨r0, hr0⟩ : ∃ r : Int, r = l - (x.Name.size : Int) := ⟨_, rfl⟩
  rw [← hr0] at c0 ⊢
  obtain ⟨r1, e1, f1, s1⟩ := szWorks_ok h.2.1 r0 (by omega) (by omega)
  rw [e1]
  simp only [Option.bind_some]
  by_cases c1 : r1 < 0
  · simp only [if_pos c1]; exact ⟨_, rfl, by omega, by omega⟩
  simp only [if_neg c1]
  obtain ⟨r2, e2, f2, s2⟩ := szCalendar_ok h.2.2.2.2.2.2.2.1 r1 (by omega) (by omega)
  rw [e2]
  simp only [Option.bind_some]
  by_cases c2 : r2 < 0
  · simp only [if_pos c2]; exact ⟨_, rfl, by omega, by omega⟩
  simp only [if_neg c2]
  obtain ⟨r3, e3, f3, s3⟩ := szInt64S_ok h.2.2.2.2.2.2.2.2.1 r2 (by omega) (by omega)
  rw [e3]
  simp only [Option.bind_some]
  by_cases c3 : r3 < 0
  · simp only [if_pos c3]; exact ⟨_, rfl, by omega, by omega⟩
  simp only [if_neg c3]
  exact ⟨_, rfl, by omega, fun _ => ⟨(show smS x.Name by unfold smS; omega), s1 (by omega), trivial, trivial, trivial, trivial, trivial, s2 (by omega), s3 (by omega), trivial⟩⟩
theorem eqInt64S_refl {x : List Int} (h : (smL (fun _ => True)) x) : l_eqInt64S_m x x = some true := by
  unfold l_eqInt64S_m
  rw [if_neg (by simp), eqS_refl' (by have := h.1; omega)]; rfl
theorem eqArbor_refl {x : Arbor_} (h : smArbor_ x) : l_eqArbor_m x x = some true := by
  unfold l_eqArbor_m
  simp [eqInt64S_refl h.2]
theorem eqArborS_refl {x : List Arbor_} (h : (smL smArbor_) x) : l_eqArborS_m x x = some true := by
  unfold l_eqArborS_m
  rw [if_neg (by simp), eqS_refl (by have := h.1; omega) fun v hv => eqArbor_refl (h.2 v hv)]; rfl
theorem eqMesh_refl {x : Mesh_} (h : smMesh_ x) : l_eqMesh_m x x = some true := by
  unfold l_eqMesh_m
  simp []
theorem eqMeshS_refl {x : List Mesh_} (h : (smL smMesh_) x) : l_eqMeshS_m x x = some true := by
  unfold l_eqMeshS_m
  rw [if_neg (by simp), eqS_refl (by have := h.1; omega) fun v hv => eqMesh_refl (h.2 v hv)]; rfl
theorem eqWorks_refl {x : Works_} (h : smWorks_ x) : l_eqWorks_m x x = some true := by
  unfold l_eqWorks_m
  simp [eqArborS_refl h.1, eqMeshS_refl h.2]
theorem eqMonth_refl {x : Month_} (h : smMonth_ x) : l_eqMonth_m x x = some true := by
  unfold l_eqMonth_m
  simp []
theorem eqMonthS_refl {x : List Month_} (h : (smL smMonth_) x) : l_eqMonthS_m x x = some true := by
  unfold l_eqMonthS_m
  rw [if_neg (by simp), eqS_refl (by have := h.1; omega) fun v hv => eqMonth_refl (h.2 v hv)]; rfl
theorem eqLeapRule_refl {x : LeapRule_} (h : smLeapRule_ x) : l_eqLeapRule_m x x = some true := by
  unfold l_eqLeapRule_m
  simp []
theorem eqLeapRuleS_refl {x : List LeapRule_} (h : (smL smLeapRule_) x) : l_eqLeapRuleS_m x x = some true := by
  unfold l_eqLeapRuleS_m
  rw [if_neg (by simp), eqS_refl (by have := h.1; omega) fun v hv => eqLeapRule_refl (h.2 v hv)]; rfl
theorem eqCalendar_refl {x : Calendar_} (h : smCalendar_ x) : l_eqCalendar_m x x = some true := by
  unfold l_eqCalendar_m
  simp [eqMonthS_refl h.2.1, eqLeapRuleS_refl h.2.2.1]
theorem eqMovement_refl {x : Movement_} (h : smMovement_ x) : l_eqMovement_m x x = some true := by
  unfold l_eqMovement_m
  simp [eqWorks_refl h.2.1, eqCalendar_refl h.2.2.2.2.2.2.2.1, eqInt64S_refl h.2.2.2.2.2.2.2.2.1]
def mkInt64S (k : Int) : Int := k
theorem markInt64S_eq {x : List Int} {k : Int} (h0 : 0 ≤ k) (hk : k ≤ 100000000000000) (hl : x.length ≤ 1048576) : l_markInt64S_o_m x k = some (k + 1 * x.length, (List.range x.length).map fun (j : Nat) => mkInt64S (k + 1 * (j : Int))) := by
  unfold l_markInt64S_o_m
  rw [markS_ok (c := 1) (B := 1000000000000000) (M := mkInt64S) (by omega) (fun k i ys a1 a2 a3 a4 a5 => ?_) (fun k i ys a => by simp [a]) h0 hl (by omega)]
  · rfl
  · obtain ⟨e, he, _, _⟩ := atI_some a3 a4
    have w : ∀ n : Int, 0 ≤ n → n ≤ 2000000000000000 → w64 n = n := fun n p q => w64_in (by omega) (by omega)
    simp only [if_pos a4, he, Option.bind_some, List.set_set, atI_set a3 a4, w (k + 1) (by omega) (by omega), w (i + 1) (by omega) (by omega)]
    simp [mkInt64S, Int.add_assoc]
theorem heldInt64S_eq {n : Nat} {k : Int} (h0 : 0 ≤ k) (hk : k ≤ 100000000000000) (hl : n ≤ 1048576) : l_heldInt64S_m ((List.range n).map fun (j : Nat) => mkInt64S (k + 1 * (j : Int))) k = some (k + 1 * n) := by
  unfold l_heldInt64S_m
  rw [heldS_ok (c := 1) (B := 1000000000000000) (M := mkInt64S) (n := n) (by omega) (fun k' i a1 a2 a3 a4 a5 => ?_) (fun k i a => by simp [a]) h0 hl (by omega)]
  · rfl
  · have he := marked_get (M := mkInt64S) (k0 := k) (c := 1) a3 a4
    have w : ∀ n : Int, 0 ≤ n → n ≤ 2000000000000000 → w64 n = n := fun n p q => w64_in (by omega) (by omega)
    rw [← a5] at he
    simp only [List.length_map, List.length_range, if_pos a4, he, Option.bind_some, w (k' + 1) (by omega) (by omega), w (i + 1) (by omega) (by omega)]
    simp [mkInt64S, Int.add_assoc]
def mkMeshS (k : Int) : Mesh_ := ⟨k, k + 1, k + 2, k + 3⟩
theorem markMeshS_eq {x : List Mesh_} {k : Int} (h0 : 0 ≤ k) (hk : k ≤ 100000000000000) (hl : x.length ≤ 1048576) : l_markMeshS_o_m x k = some (k + 4 * x.length, (List.range x.length).map fun (j : Nat) => mkMeshS (k + 4 * (j : Int))) := by
  unfold l_markMeshS_o_m
  rw [markS_ok (c := 4) (B := 1000000000000000) (M := mkMeshS) (by omega) (fun k i ys a1 a2 a3 a4 a5 => ?_) (fun k i ys a => by simp [a]) h0 hl (by omega)]
  · rfl
  · obtain ⟨e, he, _, _⟩ := atI_some a3 a4
    have w : ∀ n : Int, 0 ≤ n → n ≤ 2000000000000000 → w64 n = n := fun n p q => w64_in (by omega) (by omega)
    simp only [if_pos a4, he, Option.bind_some, List.set_set, atI_set a3 a4, w (k + 1) (by omega) (by omega), w (k + 1 + 1) (by omega) (by omega), w (k + 1 + 1 + 1) (by omega) (by omega), w (k + 1 + 1 + 1 + 1) (by omega) (by omega), w (i + 1) (by omega) (by omega)]
    simp [mkMeshS, Int.add_assoc]
theorem heldMeshS_eq {n : Nat} {k : Int} (h0 : 0 ≤ k) (hk : k ≤ 100000000000000) (hl : n ≤ 1048576) : l_heldMeshS_m ((List.range n).map fun (j : Nat) => mkMeshS (k + 4 * (j : Int))) k = some (k + 4 * n) := by
  unfold l_heldMeshS_m
  rw [heldS_ok (c := 4) (B := 1000000000000000) (M := mkMeshS) (n := n) (by omega) (fun k' i a1 a2 a3 a4 a5 => ?_) (fun k i a => by simp [a]) h0 hl (by omega)]
  · rfl
  · have he := marked_get (M := mkMeshS) (k0 := k) (c := 4) a3 a4
    have w : ∀ n : Int, 0 ≤ n → n ≤ 2000000000000000 → w64 n = n := fun n p q => w64_in (by omega) (by omega)
    rw [← a5] at he
    simp only [List.length_map, List.length_range, if_pos a4, he, Option.bind_some, w (k' + 1) (by omega) (by omega), w (k' + 1 + 1) (by omega) (by omega), w (k' + 1 + 1 + 1) (by omega) (by omega), w (k' + 1 + 1 + 1 + 1) (by omega) (by omega), w (i + 1) (by omega) (by omega)]
    simp [mkMeshS, Int.add_assoc]
def mkMonthS (k : Int) : Month_ := ⟨mkT k, k + 1, k + 2⟩
theorem markMonthS_eq {x : List Month_} {k : Int} (h0 : 0 ≤ k) (hk : k ≤ 100000000000000) (hl : x.length ≤ 1048576) : l_markMonthS_o_m x k = some (k + 3 * x.length, (List.range x.length).map fun (j : Nat) => mkMonthS (k + 3 * (j : Int))) := by
  unfold l_markMonthS_o_m
  rw [markS_ok (c := 3) (B := 1000000000000000) (M := mkMonthS) (by omega) (fun k i ys a1 a2 a3 a4 a5 => ?_) (fun k i ys a => by simp [a]) h0 hl (by omega)]
  · rfl
  · obtain ⟨e, he, _, _⟩ := atI_some a3 a4
    have w : ∀ n : Int, 0 ≤ n → n ≤ 2000000000000000 → w64 n = n := fun n p q => w64_in (by omega) (by omega)
    simp only [if_pos a4, he, Option.bind_some, List.set_set, atI_set a3 a4, w (k + 1) (by omega) (by omega), w (k + 1 + 1) (by omega) (by omega), w (k + 1 + 1 + 1) (by omega) (by omega), w (i + 1) (by omega) (by omega), markText_eq (show 0 ≤ k by omega) (by omega)]
    simp [mkMonthS, Int.add_assoc]
theorem heldMonthS_eq {n : Nat} {k : Int} (h0 : 0 ≤ k) (hk : k ≤ 100000000000000) (hl : n ≤ 1048576) : l_heldMonthS_m ((List.range n).map fun (j : Nat) => mkMonthS (k + 3 * (j : Int))) k = some (k + 3 * n) := by
  unfold l_heldMonthS_m
  rw [heldS_ok (c := 3) (B := 1000000000000000) (M := mkMonthS) (n := n) (by omega) (fun k' i a1 a2 a3 a4 a5 => ?_) (fun k i a => by simp [a]) h0 hl (by omega)]
  · rfl
  · have he := marked_get (M := mkMonthS) (k0 := k) (c := 3) a3 a4
    have w : ∀ n : Int, 0 ≤ n → n ≤ 2000000000000000 → w64 n = n := fun n p q => w64_in (by omega) (by omega)
    rw [← a5] at he
    simp only [List.length_map, List.length_range, if_pos a4, he, Option.bind_some, w (k' + 1) (by omega) (by omega), w (k' + 1 + 1) (by omega) (by omega), w (k' + 1 + 1 + 1) (by omega) (by omega), w (i + 1) (by omega) (by omega), markText_eq (show 0 ≤ k' by omega) (by omega)]
    simp [mkMonthS, Int.add_assoc]
def mkLeapRuleS (k : Int) : LeapRule_ := ⟨k, k + 1, decide ((k + 2).tmod 3 = 0)⟩
theorem markLeapRuleS_eq {x : List LeapRule_} {k : Int} (h0 : 0 ≤ k) (hk : k ≤ 100000000000000) (hl : x.length ≤ 1048576) : l_markLeapRuleS_o_m x k = some (k + 3 * x.length, (List.range x.length).map fun (j : Nat) => mkLeapRuleS (k + 3 * (j : Int))) := by
  unfold l_markLeapRuleS_o_m
  rw [markS_ok (c := 3) (B := 1000000000000000) (M := mkLeapRuleS) (by omega) (fun k i ys a1 a2 a3 a4 a5 => ?_) (fun k i ys a => by simp [a]) h0 hl (by omega)]
  · rfl
  · obtain ⟨e, he, _, _⟩ := atI_some a3 a4
    have w : ∀ n : Int, 0 ≤ n → n ≤ 2000000000000000 → w64 n = n := fun n p q => w64_in (by omega) (by omega)
    simp only [if_pos a4, he, Option.bind_some, List.set_set, atI_set a3 a4, w (k + 1) (by omega) (by omega), w (k + 1 + 1) (by omega) (by omega), w (k + 1 + 1 + 1) (by omega) (by omega), w (i + 1) (by omega) (by omega)]
    simp [mkLeapRuleS, Int.add_assoc]
theorem heldLeapRuleS_eq {n : Nat} {k : Int} (h0 : 0 ≤ k) (hk : k ≤ 100000000000000) (hl : n ≤ 1048576) : l_heldLeapRuleS_m ((List.range n).map fun (j : Nat) => mkLeapRuleS (k + 3 * (j : Int))) k = some (k + 3 * n) := by
  unfold l_heldLeapRuleS_m
  rw [heldS_ok (c := 3) (B := 1000000000000000) (M := mkLeapRuleS) (n := n) (by omega) (fun k' i a1 a2 a3 a4 a5 => ?_) (fun k i a => by simp [a]) h0 hl (by omega)]
  · rfl
  · have he := marked_get (M := mkLeapRuleS) (k0 := k) (c := 3) a3 a4
    have w : ∀ n : Int, 0 ≤ n → n ≤ 2000000000000000 → w64 n = n := fun n p q => w64_in (by omega) (by omega)
    rw [← a5] at he
    simp only [List.length_map, List.length_range, if_pos a4, he, Option.bind_some, w (k' + 1) (by omega) (by omega), w (k' + 1 + 1) (by omega) (by omega), w (k' + 1 + 1 + 1) (by omega) (by omega), w (i + 1) (by omega) (by omega)]
    simp [mkLeapRuleS, Int.add_assoc]
def smDate_ (x : Date_) : Prop := (fun _ => True) x.Year ∧ (fun _ => True) x.Month ∧ (fun _ => True) x.Day
def smPerpetual_ (x : Perpetual_) : Prop := (smL (fun _ => True)) x.Cam ∧ (fun _ => True) x.Months ∧ (fun _ => True) x.Teeth ∧ (fun _ => True) x.At ∧ (fun _ => True) x.Day ∧ (fun _ => True) x.Week ∧ (fun _ => True) x.Weekday
def smSim_ (x : Sim_) : Prop := smMovement_ x.Movement ∧ smDate_ x.Start ∧ (fun _ => True) x.First ∧ (fun _ => True) x.Clock ∧ smPerpetual_ x.Dial
theorem toDate_eq {x : Date_} (h : smDate_ x) : l_toDate_m x = some x := rfl
theorem toPerpetual_eq {x : Perpetual_} (h : smPerpetual_ x) : l_toPerpetual_m x = some x := by
  unfold l_toPerpetual_m
  simp only [toInt64S_eq h.1, Option.bind_some]
theorem toSim_eq {x : Sim_} (h : smSim_ x) : l_toSim_m x = some x := by
  unfold l_toSim_m
  simp only [toMovement_eq h.1, toDate_eq h.2.1, toPerpetual_eq h.2.2.2.2, Option.bind_some]
theorem szPerpetual_ok {x : Perpetual_} (h : okPerpetual_ x) (l : Int) (h0 : 0 ≤ l) (h1 : l ≤ 1048576) : ∃ r, l_szPerpetual_m x l = some r ∧ r ≤ l ∧ (0 ≤ r → smPerpetual_ x) := by
  unfold l_szPerpetual_m
  obtain ⟨r0, e0, f0, s0⟩ := szInt64S_ok h.1 l (by omega) (by omega)
  rw [e0]
  simp only [Option.bind_some]
  by_cases c0 : r0 < 0
  · simp only [if_pos c0]; exact ⟨_, rfl, by omega, by omega⟩
  simp only [if_neg c0]
  exact ⟨_, rfl, by omega, fun _ => ⟨s0 (by omega), trivial, trivial, trivial, trivial, trivial, trivial⟩⟩
theorem szSim_ok {x : Sim_} (h : okSim_ x) (l : Int) (h0 : 0 ≤ l) (h1 : l ≤ 1048576) : ∃ r, l_szSim_m x l = some r ∧ r ≤ l ∧ (0 ≤ r → smSim_ x) := by
  unfold l_szSim_m
  obtain ⟨r0, e0, f0, s0⟩ := szMovement_ok h.1 l (by omega) (by omega)
  rw [e0]
  simp only [Option.bind_some]
  by_cases c0 : r0 < 0
  · simp only [if_pos c0]; exact ⟨_, rfl, by omega, by omega⟩
  simp only [if_neg c0]
  obtain ⟨r1, e1, f1, s1⟩ := szPerpetual_ok h.2.2.2.2 r0 (by omega) (by omega)
  rw [e1]
  simp only [Option.bind_some]
  by_cases c1 : r1 < 0
  · simp only [if_pos c1]; exact ⟨_, rfl, by omega, by omega⟩
  simp only [if_neg c1]
  exact ⟨_, rfl, by omega, fun _ => ⟨s0 (by omega), (by simp [smDate_]), trivial, trivial, s1 (by omega)⟩⟩
theorem eqDate_refl {x : Date_} (h : smDate_ x) : l_eqDate_m x x = some true := by
  unfold l_eqDate_m
  simp []
theorem eqPerpetual_refl {x : Perpetual_} (h : smPerpetual_ x) : l_eqPerpetual_m x x = some true := by
  unfold l_eqPerpetual_m
  simp [eqInt64S_refl h.1]
theorem eqSim_refl {x : Sim_} (h : smSim_ x) : l_eqSim_m x x = some true := by
  unfold l_eqSim_m
  simp [eqMovement_refl h.1, eqDate_refl h.2.1, eqPerpetual_refl h.2.2.2.2]
theorem markPerpetual_eq {x : Perpetual_} {k : Int} (h0 : 0 ≤ k) (hk : k ≤ 8000000000000) (h : smPerpetual_ x) : l_markPerpetual_o_m x k = some (k + 1 * x.Cam.length, ((List.range x.Cam.length).map fun (j : Nat) => mkInt64S (k + 1 * (j : Int)))) := by
  have g0 := (h.1).1
  unfold l_markPerpetual_o_m
  simp only [markInt64S_eq (x := x.Cam) (k := k) (by omega) (by omega) (h.1).1, Option.bind_some, List.length_map, List.length_range, chk_true]
theorem heldPerpetual_eq {x : Perpetual_} {k : Int} (h0 : 0 ≤ k) (hk : k ≤ 8000000000000) (h : smPerpetual_ x) : l_heldPerpetual_m ⟨((List.range x.Cam.length).map fun (j : Nat) => mkInt64S (k + 1 * (j : Int))), x.Months, x.Teeth, x.At, x.Day, x.Week, x.Weekday⟩ k = some (k + 1 * x.Cam.length) := by
  have g0 := (h.1).1
  unfold l_heldPerpetual_m
  simp only [heldInt64S_eq (n := x.Cam.length) (k := k) (by omega) (by omega) (h.1).1, Option.bind_some, List.length_map, List.length_range, Int.not_lt.2 (show 0 ≤ k + 1 * x.Cam.length by omega), if_false]
end Go.Proofs.YtlakbomkpnlidaaGreat
namespace Go.Proofs.YtlakbomkpnlidaaGreat
set_option linter.unusedVariables false
def inArb (w : Works_) (k : Int) : Bool := decide (0 ≤ k ∧ k < w.Arbors.length)
def movB (m : Movement_) : Bool := nameB m.Name && (wksB m.Works && (inArb m.Works m.Minute && (inArb m.Works m.Hour && (inArb m.Works m.Escape && (toothB m.Teeth && (btw m.Beats 1 36000 && (calB m.Calendar && (camB m.Cam && btw m.Strike 0 2))))))))
theorem smW {w : Works_} (h : smWorks_ w) : w.Arbors.length ≤ 9223372036854775807 ∧ (∀ b ∈ w.Arbors, b.Wheels.length ≤ 9223372036854775807) ∧ w.Meshes.length ≤ 9223372036854775807 := by
  have h1 := h.1.1
  have h2 := h.2.1
  exact ⟨by omega, fun b hb => by have := (h.1.2 b hb).2.1; omega, by omega⟩
theorem i_isArbor_eq {w : Works_} (hl : w.Arbors.length ≤ 9223372036854775807) (k : Int) : i_isArbor_m w k = some (inArb w k) := by
  unfold i_isArbor_m; rw [i_within_eq, Option.bind_some, btw_len hl]; rfl
theorem s_l08Root_eq {w : Works_} (hl : w.Arbors.length ≤ 9223372036854775807) (k : Int) : s_l08Root_m w k = some (inArb w k) := by
  unfold s_l08Root_m; rw [s_l00In_eq, Option.bind_some, btw_len hl]; rfl
theorem i_ValidMovement_eq {m : Movement_} (h : smMovement_ m) : i_ValidMovement_m m = some (movB m) := by
  obtain ⟨_, h2, _, _, _, _, _, h8, h9, _⟩ := h
  obtain ⟨w1, w2, w3⟩ := smW h2
  have c1 := h8.2.1.1
  have c2 := h8.2.2.1.1
  have c3 := h9.1
  unfold i_ValidMovement_m movB
  simp only [i_isArbor_eq w1, i_toothed_eq, i_within_eq, i_IsName_eq, i_ValidWorks_eq w1 w2 w3, i_ValidCalendar_eq (c := m.Calendar) (by omega) (by omega), i_ValidCam_eq (xs := m.Cam) (by omega), Option.bind_some, itA]
  congr 1
  ac_rfl
theorem s_l26Ok_eq {m : Movement_} (h : smMovement_ m) : s_l26Ok_m m = some (movB m) := by
  obtain ⟨_, h2, _, _, _, _, _, h8, h9, _⟩ := h
  obtain ⟨w1, w2, w3⟩ := smW h2
  have c1 := h8.2.1.1
  have c2 := h8.2.2.1.1
  have c3 := h9.1
  unfold s_l26Ok_m movB
  simp only [s_l08Root_eq w1, s_l05Teeth_eq, s_l00In_eq, s_IsName_eq, s_l08Ok_eq w1 w2 w3, s_l15Ok_eq (c := m.Calendar) (by omega) (by omega), s_l17Ok_eq (xs := m.Cam) (by omega), Option.bind_some, itA, itO, itF, Bool.not_or, Bool.not_not]
  congr 1
  ac_rfl
end Go.Proofs.YtlakbomkpnlidaaGreat
