/- Texts of this claim, one behind the other (merged by a program of mine). -/
import Derived.Test.YtlakbomkpnlidaaGreatProg
import Derived.Test.YtlakbomkpnlidaaGreatGR5
set_option linter.unusedSimpArgs false
set_option linter.unusedVariables false
namespace Go.Proofs.YtlakbomkpnlidaaGreat
open Go.RowKit
set_option linter.unusedVariables false
set_option maxRecDepth 100000
set_option maxHeartbeats 2000000
theorem s_l18Move_Sim_4_c {p0 : Sim_} {p1 : Int} {r : Sim_} (h0 : s_l18Move_Sim_4_m p0 p1 = some r) : FnC Tryz.prog 72 [.live [⟨53, 26, .av [[.d (.v (.string p0.Movement.Name)), .own 1 0 (p0.Movement.Works.Arbors).length, .own 3 0 (p0.Movement.Works.Meshes).length, .d (.v (.int .i64 p0.Movement.Minute)), .d (.v (.int .i64 p0.Movement.Hour)), .d (.v (.int .i64 p0.Movement.Escape)), .d (.v (.int .i64 p0.Movement.Teeth)), .d (.v (.int .i64 p0.Movement.Beats)), .d (.v (.string p0.Movement.Calendar.Name)), .own 4 0 (p0.Movement.Calendar.Months).length, .own 5 0 (p0.Movement.Calendar.Rules).length, .d (.v (.int .i64 p0.Movement.Calendar.Week)), .own 6 0 (p0.Movement.Cam).length, .d (.v (.int .i64 p0.Movement.Strike)), .d (.v (.int .i64 p0.Start.Year)), .d (.v (.int .i64 p0.Start.Month)), .d (.v (.int .i64 p0.Start.Day)), .d (.v (.int .i64 p0.First)), .d (.v (.int .i64 p0.Clock)), .own 7 0 (p0.Dial.Cam).length, .d (.v (.int .i64 p0.Dial.Months)), .d (.v (.int .i64 p0.Dial.Teeth)), .d (.v (.int .i64 p0.Dial.At)), .d (.v (.int .i64 p0.Dial.Day)), .d (.v (.int .i64 p0.Dial.Week)), .d (.v (.int .i64 p0.Dial.Weekday))]]⟩], .live [⟨213, 2, .av (nestL 2 cArbor_ p0.Movement.Works.Arbors)⟩], .live (famL 2 1 cArbor_ p0.Movement.Works.Arbors), .live [⟨215, 4, .data (List.map cMesh_ p0.Movement.Works.Meshes)⟩], .live [⟨147, 3, .data (List.map cMonth_ p0.Movement.Calendar.Months)⟩], .live [⟨179, 3, .data (List.map cLeapRule_ p0.Movement.Calendar.Rules)⟩], .live [⟨2, 1, .data (List.map cI p0.Movement.Cam)⟩], .live [⟨2, 1, .data (List.map cI p0.Dial.Cam)⟩]] [.ptr 0 0 1 0 19, .d (.v (.int .i64 p1))] [.live [⟨53, 26, .av [[.d (.v (.string r.Movement.Name)), .own 1 0 (r.Movement.Works.Arbors).length, .own 3 0 (r.Movement.Works.Meshes).length, .d (.v (.int .i64 r.Movement.Minute)), .d (.v (.int .i64 r.Movement.Hour)), .d (.v (.int .i64 r.Movement.Escape)), .d (.v (.int .i64 r.Movement.Teeth)), .d (.v (.int .i64 r.Movement.Beats)), .d (.v (.string r.Movement.Calendar.Name)), .own 4 0 (r.Movement.Calendar.Months).length, .own 5 0 (r.Movement.Calendar.Rules).length, .d (.v (.int .i64 r.Movement.Calendar.Week)), .own 6 0 (r.Movement.Cam).length, .d (.v (.int .i64 r.Movement.Strike)), .d (.v (.int .i64 r.Start.Year)), .d (.v (.int .i64 r.Start.Month)), .d (.v (.int .i64 r.Start.Day)), .d (.v (.int .i64 r.First)), .d (.v (.int .i64 r.Clock)), .own 7 0 (r.Dial.Cam).length, .d (.v (.int .i64 r.Dial.Months)), .d (.v (.int .i64 r.Dial.Teeth)), .d (.v (.int .i64 r.Dial.At)), .d (.v (.int .i64 r.Dial.Day)), .d (.v (.int .i64 r.Dial.Week)), .d (.v (.int .i64 r.Dial.Weekday))]]⟩], .live [⟨213, 2, .av (nestL 2 cArbor_ r.Movement.Works.Arbors)⟩], .live (famL 2 1 cArbor_ r.Movement.Works.Arbors), .live [⟨215, 4, .data (List.map cMesh_ r.Movement.Works.Meshes)⟩], .live [⟨147, 3, .data (List.map cMonth_ r.Movement.Calendar.Months)⟩], .live [⟨179, 3, .data (List.map cLeapRule_ r.Movement.Calendar.Rules)⟩], .live [⟨2, 1, .data (List.map cI r.Movement.Cam)⟩], .live [⟨2, 1, .data (List.map cI r.Dial.Cam)⟩]] (.tup []) := by
  refine fnc_introL (L := 8) (T := tt) (N := 46) tok Tryz.func72 rfl rfl (by kernel_rfl) rfl rfl ?_
  unfold s_l18Move_Sim_4_m at h0
  refine sq [0,1,2,3,4,5,6,7,8] ?_
  refine rp rfl w0 rfl (pu_move (r := .ptr _ _ _ _ _) rfl) ?_
  refine rl rfl w0 rfl (bx_nil rfl rfl) ?_
  refine fa tok ?_
  refine ld tok ?_
  refine pm ?_
  refine rp rfl w0 rfl (pw_add rfl rfl) ?_
  refine rl rfl w0 rfl (bx_nil rfl rfl) ?_
  refine fa tok ?_
  refine rw0 rfl w0 (bx_st (cs := [.d _]) tok rfl rfl rfl rfl rfl rfl rfl) ?_
  refine nx ?_
  refine aw_seq ?_
  refine aw_region_draw (is := [0, 1, 2, 3, 4, 5, 6, 7, 8]) [0, 1, 3, 7, 0, 16, 48, 112, 255] follows (by kernel_rfl) ?_
  refine rt_p rfl w0 rfl (pu_move (r := .ptr _ _ _ _ _) rfl) ?_
  refine rt_lk rfl w0 rfl (bx_nil rfl rfl) rfl rfl rfl ?_
  refine rt_lk rfl w0 rfl (bx_fa tok rfl rfl rfl rfl rfl rfl rfl) rfl rfl rfl ?_
  refine rt_lk rfl w0 rfl (bx_ld1 tok rfl rfl rfl rfl rfl) rfl rfl rfl ?_
  refine rt_p rfl w0 rfl (pu_move (r := .ptr _ _ _ _ _) rfl) ?_
  refine rt_lk rfl w0 rfl (bx_nil rfl rfl) rfl rfl rfl ?_
  refine rt_lk rfl w0 rfl (bx_fa tok rfl rfl rfl rfl rfl rfl rfl) rfl rfl rfl ?_
  refine rt_lk rfl w0 rfl (bx_ld1 tok rfl rfl rfl rfl rfl) rfl rfl rfl ?_
  refine rt_p rfl w0 rfl (pu_gtr rfl rfl) ?_
  refine rt_nil ?_
  refine ⟨by kernel_rfl, ?_⟩
  refine then_n ?_
  refine aw_if h0 rfl (fun hc h0 => ?_) (fun hc h0 => ?_)
  refine aw_seq ?_
  refine aw_region_draw (is := [0, 1, 2, 3, 4, 5, 6, 7, 8, 9, 10, 11]) [0, 1, 3, 7, 0, 16, 48, 112, 255, 511, 1023, 2047] follows (by kernel_rfl) ?_
  refine rt_p rfl w0 rfl (pu_move (r := .ptr _ _ _ _ _) rfl) ?_
  refine rt_lk rfl w0 rfl (bx_nil rfl rfl) rfl rfl rfl ?_
  refine rt_lk rfl w0 rfl (bx_fa tok rfl rfl rfl rfl rfl rfl rfl) rfl rfl rfl ?_
  refine rt_lk rfl w0 rfl (bx_ld1 tok rfl rfl rfl rfl rfl) rfl rfl rfl ?_
  refine rt_p rfl w0 rfl (pu_move (r := .ptr _ _ _ _ _) rfl) ?_
  refine rt_lk rfl w0 rfl (bx_nil rfl rfl) rfl rfl rfl ?_
  refine rt_lk rfl w0 rfl (bx_fa tok rfl rfl rfl rfl rfl rfl rfl) rfl rfl rfl ?_
  refine rt_lk rfl w0 rfl (bx_ld1 tok rfl rfl rfl rfl rfl) rfl rfl rfl ?_
  refine rt_p rfl w0 rfl (pw_sub rfl rfl) ?_
  refine rt_lk rfl w0 rfl (bx_nil rfl rfl) rfl rfl rfl ?_
  refine rt_lk rfl w0 rfl (bx_fa tok rfl rfl rfl rfl rfl rfl rfl) rfl rfl rfl ?_
  refine rt_wk rfl w0 (bx_st (cs := [.d _]) tok rfl rfl rfl rfl rfl rfl rfl) ?_
  refine rt_nil ?_
  refine ⟨by kernel_rfl, ?_⟩
  refine then_n ?_
  refine aw_region_draw (is := [0, 1, 2, 3, 4, 5, 6, 7, 8, 9, 10, 11, 12, 13, 14]) [0, 0, 2, 6, 14, 30, 0, 64, 192, 448, 960, 2046, 4095, 8191, 16383] follows (by kernel_rfl) ?_
  refine rt_p rfl w0 rfl (pu_move (r := .ptr _ _ _ _ _) rfl) ?_
  refine rt_p rfl w0 rfl (pu_move (r := .ptr _ _ _ _ _) rfl) ?_
  refine rt_lk rfl w0 rfl (bx_nil rfl rfl) rfl rfl rfl ?_
  refine rt_lk rfl w0 rfl (bx_fa tok rfl rfl rfl rfl rfl rfl rfl) rfl rfl rfl ?_
  refine rt_lk rfl w0 rfl (bx_ld1 tok rfl rfl rfl rfl rfl) rfl rfl rfl ?_
  refine rt_p rfl w0 rfl (pw_add rfl rfl) ?_
  refine rt_p rfl w0 rfl (pu_move (r := .ptr _ _ _ _ _) rfl) ?_
  refine rt_lk rfl w0 rfl (bx_nil rfl rfl) rfl rfl rfl ?_
  refine rt_lk rfl w0 rfl (bx_fa tok rfl rfl rfl rfl rfl rfl rfl) rfl rfl rfl ?_
  refine rt_lk rfl w0 rfl (bx_ld1 tok rfl rfl rfl rfl rfl) rfl rfl rfl ?_
  refine rt_lk rfl w0 rfl (ow_len tok rfl rfl rfl rfl rfl) rfl rfl rfl ?_
  obtain ⟨hq1, h0⟩ := chk_e h0
  refine rt_p rfl w0 rfl (pu_remw rfl rfl hq1) ?_
  refine rt_lk rfl w0 rfl (bx_nil rfl rfl) rfl rfl rfl ?_
  refine rt_lk rfl w0 rfl (bx_fa tok rfl rfl rfl rfl rfl rfl rfl) rfl rfl rfl ?_
  refine rt_wk rfl w0 (bx_st (cs := [.d _]) tok rfl rfl rfl rfl rfl rfl rfl) ?_
  refine rt_nil ?_
  refine ⟨by kernel_rfl, ?_⟩
  cases h0
  exact retP_ (rs := []) 8 rfl rfl
  refine aw_skip ?_
  cases h0
  exact retP_ (rs := []) 8 rfl rfl

theorem s_l18Night_Sim_4_c {p0 : Sim_} {r : Sim_} (h0 : s_l18Night_Sim_4_m p0 = some r) : FnC Tryz.prog 48 [.live [⟨53, 26, .av [[.d (.v (.string p0.Movement.Name)), .own 1 0 (p0.Movement.Works.Arbors).length, .own 3 0 (p0.Movement.Works.Meshes).length, .d (.v (.int .i64 p0.Movement.Minute)), .d (.v (.int .i64 p0.Movement.Hour)), .d (.v (.int .i64 p0.Movement.Escape)), .d (.v (.int .i64 p0.Movement.Teeth)), .d (.v (.int .i64 p0.Movement.Beats)), .d (.v (.string p0.Movement.Calendar.Name)), .own 4 0 (p0.Movement.Calendar.Months).length, .own 5 0 (p0.Movement.Calendar.Rules).length, .d (.v (.int .i64 p0.Movement.Calendar.Week)), .own 6 0 (p0.Movement.Cam).length, .d (.v (.int .i64 p0.Movement.Strike)), .d (.v (.int .i64 p0.Start.Year)), .d (.v (.int .i64 p0.Start.Month)), .d (.v (.int .i64 p0.Start.Day)), .d (.v (.int .i64 p0.First)), .d (.v (.int .i64 p0.Clock)), .own 7 0 (p0.Dial.Cam).length, .d (.v (.int .i64 p0.Dial.Months)), .d (.v (.int .i64 p0.Dial.Teeth)), .d (.v (.int .i64 p0.Dial.At)), .d (.v (.int .i64 p0.Dial.Day)), .d (.v (.int .i64 p0.Dial.Week)), .d (.v (.int .i64 p0.Dial.Weekday))]]⟩], .live [⟨213, 2, .av (nestL 2 cArbor_ p0.Movement.Works.Arbors)⟩], .live (famL 2 1 cArbor_ p0.Movement.Works.Arbors), .live [⟨215, 4, .data (List.map cMesh_ p0.Movement.Works.Meshes)⟩], .live [⟨147, 3, .data (List.map cMonth_ p0.Movement.Calendar.Months)⟩], .live [⟨179, 3, .data (List.map cLeapRule_ p0.Movement.Calendar.Rules)⟩], .live [⟨2, 1, .data (List.map cI p0.Movement.Cam)⟩], .live [⟨2, 1, .data (List.map cI p0.Dial.Cam)⟩]] [.ptr 0 0 1 0 19] [.live [⟨53, 26, .av [[.d (.v (.string r.Movement.Name)), .own 1 0 (r.Movement.Works.Arbors).length, .own 3 0 (r.Movement.Works.Meshes).length, .d (.v (.int .i64 r.Movement.Minute)), .d (.v (.int .i64 r.Movement.Hour)), .d (.v (.int .i64 r.Movement.Escape)), .d (.v (.int .i64 r.Movement.Teeth)), .d (.v (.int .i64 r.Movement.Beats)), .d (.v (.string r.Movement.Calendar.Name)), .own 4 0 (r.Movement.Calendar.Months).length, .own 5 0 (r.Movement.Calendar.Rules).length, .d (.v (.int .i64 r.Movement.Calendar.Week)), .own 6 0 (r.Movement.Cam).length, .d (.v (.int .i64 r.Movement.Strike)), .d (.v (.int .i64 r.Start.Year)), .d (.v (.int .i64 r.Start.Month)), .d (.v (.int .i64 r.Start.Day)), .d (.v (.int .i64 r.First)), .d (.v (.int .i64 r.Clock)), .own 7 0 (r.Dial.Cam).length, .d (.v (.int .i64 r.Dial.Months)), .d (.v (.int .i64 r.Dial.Teeth)), .d (.v (.int .i64 r.Dial.At)), .d (.v (.int .i64 r.Dial.Day)), .d (.v (.int .i64 r.Dial.Week)), .d (.v (.int .i64 r.Dial.Weekday))]]⟩], .live [⟨213, 2, .av (nestL 2 cArbor_ r.Movement.Works.Arbors)⟩], .live (famL 2 1 cArbor_ r.Movement.Works.Arbors), .live [⟨215, 4, .data (List.map cMesh_ r.Movement.Works.Meshes)⟩], .live [⟨147, 3, .data (List.map cMonth_ r.Movement.Calendar.Months)⟩], .live [⟨179, 3, .data (List.map cLeapRule_ r.Movement.Calendar.Rules)⟩], .live [⟨2, 1, .data (List.map cI r.Movement.Cam)⟩], .live [⟨2, 1, .data (List.map cI r.Dial.Cam)⟩]] (.tup []) := by
  refine fnc_introL (L := 8) (T := tt) (N := 19) tok Tryz.func48 rfl rfl (by kernel_rfl) rfl rfl ?_
  unfold s_l18Night_Sim_4_m at h0
  refine sq [0,1,2,3] ?_
  refine rp rfl w0 rfl (pu_move (r := .ptr _ _ _ _ _) rfl) ?_
  refine rp rfl w0 rfl (pu_move (r := .ptr _ _ _ _ _) rfl) ?_
  obtain ⟨v1, hv1, h0⟩ := bnd h0
  refine rs rfl w0 rfl (c_callV 8 (s_l18Steps_c hv1) rfl rfl) ?_
  obtain ⟨v2, hv2, h0⟩ := bnd h0
  refine rw1 rfl w0 rfl (c_callP [0, 1, 2, 3, 4, 5, 6, 7] 300 (s_l18Move_Sim_4_c hv2) rfl rfl) ?_
  refine nx ?_
  refine aw_region_draw (is := [0, 1, 2, 3, 4, 5, 6, 7, 8, 9, 10, 11, 12, 13]) [0, 0, 2, 6, 14, 0, 32, 96, 224, 510, 1022, 2047, 4095, 8191] follows (by kernel_rfl) ?_
  refine rt_p rfl w0 rfl (pu_move (r := .ptr _ _ _ _ _) rfl) ?_
  refine rt_p rfl w0 rfl (pu_move (r := .ptr _ _ _ _ _) rfl) ?_
  refine rt_lk rfl w0 rfl (bx_nil rfl rfl) rfl rfl rfl ?_
  refine rt_lk rfl w0 rfl (bx_fa tok rfl rfl rfl rfl rfl rfl rfl) rfl rfl rfl ?_
  refine rt_lk rfl w0 rfl (bx_ld1 tok rfl rfl rfl rfl rfl) rfl rfl rfl ?_
  refine rt_p rfl w0 rfl (pu_move (r := .ptr _ _ _ _ _) rfl) ?_
  refine rt_lk rfl w0 rfl (bx_nil rfl rfl) rfl rfl rfl ?_
  refine rt_lk rfl w0 rfl (bx_fa tok rfl rfl rfl rfl rfl rfl rfl) rfl rfl rfl ?_
  refine rt_lk rfl w0 rfl (bx_ld1 tok rfl rfl rfl rfl rfl) rfl rfl rfl ?_
  obtain ⟨hq3, h0⟩ := chk_e h0
  refine rt_p rfl w0 rfl (pu_remw rfl rfl hq3) ?_
  refine rt_p rfl w0 rfl (pw_add rfl rfl) ?_
  refine rt_lk rfl w0 rfl (bx_nil rfl rfl) rfl rfl rfl ?_
  refine rt_lk rfl w0 rfl (bx_fa tok rfl rfl rfl rfl rfl rfl rfl) rfl rfl rfl ?_
  refine rt_wk rfl w0 (bx_st (cs := [.d _]) tok rfl rfl rfl rfl rfl rfl rfl) ?_
  refine rt_nil ?_
  refine ⟨by kernel_rfl, ?_⟩
  cases h0
  exact retP_ (rs := []) 8 rfl rfl

theorem s_l27Blows_c {p0 : Int} {r : Int} (h0 : s_l27Blows_m p0 = some r) : FnC Tryz.prog 91 [] [.d (.v (.int .i64 p0))] [] (.d (.v (.int .i64 r))) := by
  refine fnc_intro (T := tt) (N := 15) tok Tryz.func91 rfl rfl (by kernel_rfl) rfl rfl ?_
  unfold s_l27Blows_m at h0
  refine sq [0] ?_
  refine pa ?_
  refine nx ?_
  refine sq [0,1,2] ?_
  refine pm ?_
  refine rp rfl w0 rfl (pu_remw rfl rfl (by decide)) ?_
  refine pa ?_
  refine nx ?_
  refine sq [0,1,2,3,4,5,6,7,8,9] ?_
  refine pm ?_
  refine rp rfl w0 rfl (pw_quo rfl rfl (by decide)) ?_
  refine rp rfl w0 rfl (pw_mul rfl rfl) ?_
  refine pm ?_
  refine pm ?_
  refine rp rfl w0 rfl (pw_add rfl rfl) ?_
  refine rp rfl w0 rfl (pw_mul rfl rfl) ?_
  refine rp rfl w0 rfl (pw_quo rfl rfl (by decide)) ?_
  refine rp rfl w0 rfl (pw_add rfl rfl) ?_
  refine pa ?_
  refine nx ?_
  refine aw_ret ?_
  cases h0
  exact ret0_ (rs := [.tmp 2]) rfl

theorem s_BlowsBetween_c {p0 : Int} {p1 : Int} {p2 : Int} {r : Int × Int} (h0 : s_BlowsBetween_m p0 p1 p2 = some r) : FnC Tryz.prog 49 [] [.d (.v (.int .i64 p0)), .d (.v (.int .i64 p1)), .d (.v (.int .i64 p2))] [] (.tup [.d (.v (.int .i64 r.1)), .d (.v (.int .i64 r.2))]) := by
  refine fnc_intro (T := tt) (N := 30) tok Tryz.func49 rfl rfl (by kernel_rfl) rfl rfl ?_
  unfold s_BlowsBetween_m at h0
  refine sq [0,1] ?_
  refine pa ?_
  refine pa ?_
  refine nx ?_
  refine aw_seq ?_
  obtain ⟨v3, h1, h0⟩ := bnd h0
  refine aw_cut ⟨updA (updA (updA (updA ((fun _ => .dead)) 0 (.d (.v (.int .i64 p0)))) 1 (.d (.v (.int .i64 p1)))) 2 (.d (.v (.int .i64 p2)))) 20 (.d (.v (.bool v3))), lks [.no, .no, .no]⟩ ?_ ?_
  refine sr [0,1,2,3,4,5,6,7,8,9,10,11,12] ?_
  refine pm ?_
  obtain ⟨v1, hv1, h1⟩ := bnd h1
  refine rs rfl w0 rfl (c_call 3 (s_l00In_c hv1) rfl rfl rfl) ?_
  refine rp rfl w0 rfl (pu_not rfl) ?_
  refine pm ?_
  refine ra_ifB (u := 11) h1 rfl (fun hc h1 => ?_) (fun hc h1 => ?_)
  iterate 4 refine k1 ?_
  refine pkt ?_
  refine pm ?_
  refine k1 ?_
  refine k1 ?_
  refine pkt ?_
  refine nx ?_
  cases h1
  exact wk [0, 1, 2]
  refine pm1 ?_
  refine pm1 ?_
  obtain ⟨v2, hv2, h1⟩ := bnd h1
  refine rs rfl (w1 rfl rfl rfl) rfl (c_call 3 (s_l00In_c hv2) rfl rfl rfl) ?_
  refine rp rfl (w1 rfl rfl rfl) rfl (pu_not rfl) ?_
  refine pkf ?_
  refine pm ?_
  refine ra_ifB (u := 17) h1 rfl (fun hc h1 => ?_) (fun hc h1 => ?_)
  refine k1 ?_
  refine k1 ?_
  refine pkt ?_
  refine nx ?_
  cases h1
  exact wk [0, 1, 2]
  refine pm1 ?_
  refine rp rfl (w1 rfl rfl rfl) rfl (pu_gtr rfl rfl) ?_
  refine pkf ?_
  refine nx ?_
  cases h1
  exact wk [0, 1, 2]
  refine aw_ifB h0 rfl (fun hc h0 => ?_) (fun hc h0 => ?_)
  refine sq [0,1] ?_
  refine pa ?_
  refine pa ?_
  refine nx ?_
  refine aw_ret ?_
  refine then_r ?_
  cases h0
  exact ret0_ (rs := [.tmp 6, .tmp 7]) rfl
  refine sk ?_
  refine aw_seq ?_
  refine sq [0,1] ?_
  refine pm ?_
  refine rp rfl w0 rfl (pu_eql rfl rfl) ?_
  refine nx ?_
  refine aw_if h0 rfl (fun hc h0 => ?_) (fun hc h0 => ?_)
  refine sq [0,1] ?_
  refine pa ?_
  refine pa ?_
  refine nx ?_
  refine aw_ret ?_
  refine then_r ?_
  cases h0
  exact ret0_ (rs := [.tmp 6, .tmp 7]) rfl
  refine sk ?_
  refine sq [0,1,2,3,4,5,6,7,8] ?_
  refine pm ?_
  refine rp rfl w0 rfl (pw_quo rfl rfl (by decide)) ?_
  obtain ⟨v5, hv5, h0⟩ := bnd h0
  refine rs rfl w0 rfl (c_call 3 (s_l27Blows_c hv5) rfl rfl rfl) ?_
  refine pm ?_
  refine rp rfl w0 rfl (pw_quo rfl rfl (by decide)) ?_
  obtain ⟨v7, hv7, h0⟩ := bnd h0
  refine rs rfl w0 rfl (c_call 3 (s_l27Blows_c hv7) rfl rfl rfl) ?_
  refine rp rfl w0 rfl (pw_sub rfl rfl) ?_
  refine pa ?_
  refine pa ?_
  refine nx ?_
  refine aw_ret ?_
  cases h0
  exact ret0_ (rs := [.tmp 6, .tmp 7]) rfl

theorem s_RunSim_c {p0 : Sim_} {p1 : Int} {r : Sim_ × Int × Int} (h0 : s_RunSim_m p0 p1 = some r) : FnC Tryz.prog 14 [] [.agg [.d (.v (.string p0.Movement.Name)), .d (.sl (List.map cArbor_ p0.Movement.Works.Arbors)), .d (.sl (List.map cMesh_ p0.Movement.Works.Meshes)), .d (.v (.int .i64 p0.Movement.Minute)), .d (.v (.int .i64 p0.Movement.Hour)), .d (.v (.int .i64 p0.Movement.Escape)), .d (.v (.int .i64 p0.Movement.Teeth)), .d (.v (.int .i64 p0.Movement.Beats)), .d (.v (.string p0.Movement.Calendar.Name)), .d (.sl (List.map cMonth_ p0.Movement.Calendar.Months)), .d (.sl (List.map cLeapRule_ p0.Movement.Calendar.Rules)), .d (.v (.int .i64 p0.Movement.Calendar.Week)), .d (.sl (List.map cI p0.Movement.Cam)), .d (.v (.int .i64 p0.Movement.Strike)), .d (.v (.int .i64 p0.Start.Year)), .d (.v (.int .i64 p0.Start.Month)), .d (.v (.int .i64 p0.Start.Day)), .d (.v (.int .i64 p0.First)), .d (.v (.int .i64 p0.Clock)), .d (.sl (List.map cI p0.Dial.Cam)), .d (.v (.int .i64 p0.Dial.Months)), .d (.v (.int .i64 p0.Dial.Teeth)), .d (.v (.int .i64 p0.Dial.At)), .d (.v (.int .i64 p0.Dial.Day)), .d (.v (.int .i64 p0.Dial.Week)), .d (.v (.int .i64 p0.Dial.Weekday))], .d (.v (.int .i64 p1))] [.live [⟨213, 2, .av (nestL 1 cArbor_ r.1.Movement.Works.Arbors)⟩], .live (famL 2 1 cArbor_ r.1.Movement.Works.Arbors), .live [⟨215, 4, .data (List.map cMesh_ r.1.Movement.Works.Meshes)⟩], .live [⟨147, 3, .data (List.map cMonth_ r.1.Movement.Calendar.Months)⟩], .live [⟨179, 3, .data (List.map cLeapRule_ r.1.Movement.Calendar.Rules)⟩], .live [⟨2, 1, .data (List.map cI r.1.Movement.Cam)⟩], .live [⟨2, 1, .data (List.map cI r.1.Dial.Cam)⟩]] (.tup [.agg [.d (.v (.string r.1.Movement.Name)), .own 0 0 r.1.Movement.Works.Arbors.length, .own 2 0 r.1.Movement.Works.Meshes.length, .d (.v (.int .i64 r.1.Movement.Minute)), .d (.v (.int .i64 r.1.Movement.Hour)), .d (.v (.int .i64 r.1.Movement.Escape)), .d (.v (.int .i64 r.1.Movement.Teeth)), .d (.v (.int .i64 r.1.Movement.Beats)), .d (.v (.string r.1.Movement.Calendar.Name)), .own 3 0 r.1.Movement.Calendar.Months.length, .own 4 0 r.1.Movement.Calendar.Rules.length, .d (.v (.int .i64 r.1.Movement.Calendar.Week)), .own 5 0 r.1.Movement.Cam.length, .d (.v (.int .i64 r.1.Movement.Strike)), .d (.v (.int .i64 r.1.Start.Year)), .d (.v (.int .i64 r.1.Start.Month)), .d (.v (.int .i64 r.1.Start.Day)), .d (.v (.int .i64 r.1.First)), .d (.v (.int .i64 r.1.Clock)), .own 6 0 r.1.Dial.Cam.length, .d (.v (.int .i64 r.1.Dial.Months)), .d (.v (.int .i64 r.1.Dial.Teeth)), .d (.v (.int .i64 r.1.Dial.At)), .d (.v (.int .i64 r.1.Dial.Day)), .d (.v (.int .i64 r.1.Dial.Week)), .d (.v (.int .i64 r.1.Dial.Weekday))], .d (.v (.int .i64 r.2.1)), .d (.v (.int .i64 r.2.2))]) := by
  refine fnc_intro (T := tt) (N := 56) tok Tryz.func14 rfl rfl (by kernel_rfl) rfl rfl ?_
  unfold s_RunSim_m at h0
  refine sq [0,1,2,3] ?_
  refine rs rfl w0 rfl (st_box 3 (cs := _ :: _) rfl rfl rfl) ?_
  refine rs rfl w0 rfl (st_alloc 4 (cs := [.d (.v (.string (⟨#[]⟩ : ByteArray))), .d (.v (.slice none 0 0)), .d (.v (.slice none 0 0)), .d (.v (.int .i64 0)), .d (.v (.int .i64 0)), .d (.v (.int .i64 0)), .d (.v (.int .i64 0)), .d (.v (.int .i64 0)), .d (.v (.string (⟨#[]⟩ : ByteArray))), .d (.v (.slice none 0 0)), .d (.v (.slice none 0 0)), .d (.v (.int .i64 0)), .d (.v (.slice none 0 0)), .d (.v (.int .i64 0)), .d (.v (.int .i64 0)), .d (.v (.int .i64 0)), .d (.v (.int .i64 0)), .d (.v (.int .i64 0)), .d (.v (.int .i64 0)), .d (.v (.slice none 0 0)), .d (.v (.int .i64 0)), .d (.v (.int .i64 0)), .d (.v (.int .i64 0)), .d (.v (.int .i64 0)), .d (.v (.int .i64 0)), .d (.v (.int .i64 0))]) tok rfl rfl rfl) ?_
  refine pa ?_
  refine pa ?_
  refine nx ?_
  refine aw_seq ?_
  refine sq [0,1] ?_
  obtain ⟨v1, hv1, h0⟩ := bnd h0
  refine rs rfl w0 rfl (c_callV 5 (s_l27Ok_c hv1) rfl rfl) ?_
  refine rp rfl w0 rfl (pu_not rfl) ?_
  refine nx ?_
  refine aw_ifB h0 rfl (fun hc h0 => ?_) (fun hc h0 => ?_)
  refine sq [0,1,2,3] ?_
  refine rp rfl w0 rfl (pbl (C0 := [.d (.v (.string (⟨#[]⟩ : ByteArray))), .d (.v (.slice none 0 0)), .d (.v (.slice none 0 0)), .d (.v (.int .i64 0)), .d (.v (.int .i64 0)), .d (.v (.int .i64 0)), .d (.v (.int .i64 0)), .d (.v (.int .i64 0)), .d (.v (.string (⟨#[]⟩ : ByteArray))), .d (.v (.slice none 0 0)), .d (.v (.slice none 0 0)), .d (.v (.int .i64 0)), .d (.v (.slice none 0 0)), .d (.v (.int .i64 0)), .d (.v (.int .i64 0)), .d (.v (.int .i64 0)), .d (.v (.int .i64 0)), .d (.v (.int .i64 0)), .d (.v (.int .i64 0)), .d (.v (.slice none 0 0)), .d (.v (.int .i64 0)), .d (.v (.int .i64 0)), .d (.v (.int .i64 0)), .d (.v (.int .i64 0)), .d (.v (.int .i64 0)), .d (.v (.int .i64 0))]) tok rfl rfl rfl) ?_
  refine rw0 rfl w0 (bx_st (cs := _ :: _) tok rfl rfl rfl rfl rfl rfl rfl) ?_
  refine pa ?_
  refine pa ?_
  refine nx ?_
  refine aw_weak (weak_adopt 5 rfl 213 2 (kb := 4) (j := 1) rfl rfl (by repeat (first | exact Spl.z _ | apply Spl.t | apply Spl.d))) ?_
  refine aw_weak (weak_nest0 6 (k := 5) 2 1 cArbor_ rfl rfl) ?_
  refine aw_weak (weak_adopt 7 rfl 215 4 (kb := 4) (j := 2) rfl rfl (by repeat (first | exact Spl.z _ | apply Spl.t | apply Spl.d))) ?_
  refine aw_weak (weak_adopt 8 rfl 147 3 (kb := 4) (j := 9) rfl rfl (by repeat (first | exact Spl.z _ | apply Spl.t | apply Spl.d))) ?_
  refine aw_weak (weak_adopt 9 rfl 179 3 (kb := 4) (j := 10) rfl rfl (by repeat (first | exact Spl.z _ | apply Spl.t | apply Spl.d))) ?_
  refine aw_weak (weak_adopt 10 rfl 2 1 (kb := 4) (j := 12) rfl rfl (by repeat (first | exact Spl.z _ | apply Spl.t | apply Spl.d))) ?_
  refine aw_weak (weak_adopt 11 rfl 2 1 (kb := 4) (j := 19) rfl rfl (by repeat (first | exact Spl.z _ | apply Spl.t | apply Spl.d))) ?_
  refine aw_ret ?_
  refine then_r ?_
  cases h0
  exact retK_ (rs := [.cell 4 53, .tmp 5, .tmp 6]) [5, 6, 7, 8, 9, 10, 11] rfl
  refine sk ?_
  refine aw_seq ?_
  obtain ⟨v3, h1, h0⟩ := bnd h0
  refine aw_cut ⟨updA (updA (updA (updA ((fun _ => .dead)) 1 (.d (.v (.int .i64 p1)))) 2 (.ptr 3 0 1 0 0)) 4 (.ptr 4 0 1 0 0)) 23 (.d (.v (.bool v3))), lks [.no, .no, .no, .live [⟨53, 26, .av [[.d (.v (.string p0.Movement.Name)), .d (.sl (List.map cArbor_ p0.Movement.Works.Arbors)), .d (.sl (List.map cMesh_ p0.Movement.Works.Meshes)), .d (.v (.int .i64 p0.Movement.Minute)), .d (.v (.int .i64 p0.Movement.Hour)), .d (.v (.int .i64 p0.Movement.Escape)), .d (.v (.int .i64 p0.Movement.Teeth)), .d (.v (.int .i64 p0.Movement.Beats)), .d (.v (.string p0.Movement.Calendar.Name)), .d (.sl (List.map cMonth_ p0.Movement.Calendar.Months)), .d (.sl (List.map cLeapRule_ p0.Movement.Calendar.Rules)), .d (.v (.int .i64 p0.Movement.Calendar.Week)), .d (.sl (List.map cI p0.Movement.Cam)), .d (.v (.int .i64 p0.Movement.Strike)), .d (.v (.int .i64 p0.Start.Year)), .d (.v (.int .i64 p0.Start.Month)), .d (.v (.int .i64 p0.Start.Day)), .d (.v (.int .i64 p0.First)), .d (.v (.int .i64 p0.Clock)), .d (.sl (List.map cI p0.Dial.Cam)), .d (.v (.int .i64 p0.Dial.Months)), .d (.v (.int .i64 p0.Dial.Teeth)), .d (.v (.int .i64 p0.Dial.At)), .d (.v (.int .i64 p0.Dial.Day)), .d (.v (.int .i64 p0.Dial.Week)), .d (.v (.int .i64 p0.Dial.Weekday))]]⟩], .live [⟨53, 26, .av [[.d (.v (.string (⟨#[]⟩ : ByteArray))), .d (.v (.slice none 0 0)), .d (.v (.slice none 0 0)), .d (.v (.int .i64 0)), .d (.v (.int .i64 0)), .d (.v (.int .i64 0)), .d (.v (.int .i64 0)), .d (.v (.int .i64 0)), .d (.v (.string (⟨#[]⟩ : ByteArray))), .d (.v (.slice none 0 0)), .d (.v (.slice none 0 0)), .d (.v (.int .i64 0)), .d (.v (.slice none 0 0)), .d (.v (.int .i64 0)), .d (.v (.int .i64 0)), .d (.v (.int .i64 0)), .d (.v (.int .i64 0)), .d (.v (.int .i64 0)), .d (.v (.int .i64 0)), .d (.v (.slice none 0 0)), .d (.v (.int .i64 0)), .d (.v (.int .i64 0)), .d (.v (.int .i64 0)), .d (.v (.int .i64 0)), .d (.v (.int .i64 0)), .d (.v (.int .i64 0))]]⟩]]⟩ ?_ ?_
  refine sr [0,1,2,3,4,5,6,7,8,9] ?_
  refine pm ?_
  obtain ⟨v2, hv2, h1⟩ := bnd h1
  refine rs rfl w0 rfl (c_call 5 (s_l00In_c hv2) rfl rfl rfl) ?_
  refine rp rfl w0 rfl (pu_not rfl) ?_
  refine pm ?_
  refine ra_ifB (u := 17) h1 rfl (fun hc h1 => ?_) (fun hc h1 => ?_)
  iterate 5 refine k1 ?_
  refine pkt ?_
  refine nx ?_
  cases h1
  exact wk [0, 1, 2, 3, 4]
  refine fa1 tok ?_
  refine ld1 tok ?_
  refine pm1 ?_
  refine rp rfl (w1 rfl rfl rfl) rfl (pw_add rfl rfl) ?_
  refine rp rfl (w1 rfl rfl rfl) rfl (pu_gtr rfl rfl) ?_
  refine pkf ?_
  refine nx ?_
  cases h1
  exact wk [0, 1, 2, 3, 4]
  refine aw_ifB h0 rfl (fun hc h0 => ?_) (fun hc h0 => ?_)
  refine sq [0,1,2,3] ?_
  refine rp rfl w0 rfl (pbl (C0 := [.d (.v (.string (⟨#[]⟩ : ByteArray))), .d (.v (.slice none 0 0)), .d (.v (.slice none 0 0)), .d (.v (.int .i64 0)), .d (.v (.int .i64 0)), .d (.v (.int .i64 0)), .d (.v (.int .i64 0)), .d (.v (.int .i64 0)), .d (.v (.string (⟨#[]⟩ : ByteArray))), .d (.v (.slice none 0 0)), .d (.v (.slice none 0 0)), .d (.v (.int .i64 0)), .d (.v (.slice none 0 0)), .d (.v (.int .i64 0)), .d (.v (.int .i64 0)), .d (.v (.int .i64 0)), .d (.v (.int .i64 0)), .d (.v (.int .i64 0)), .d (.v (.int .i64 0)), .d (.v (.slice none 0 0)), .d (.v (.int .i64 0)), .d (.v (.int .i64 0)), .d (.v (.int .i64 0)), .d (.v (.int .i64 0)), .d (.v (.int .i64 0)), .d (.v (.int .i64 0))]) tok rfl rfl rfl) ?_
  refine rw0 rfl w0 (bx_st (cs := _ :: _) tok rfl rfl rfl rfl rfl rfl rfl) ?_
  refine pa ?_
  refine pa ?_
  refine nx ?_
  refine aw_weak (weak_adopt 5 rfl 213 2 (kb := 4) (j := 1) rfl rfl (by repeat (first | exact Spl.z _ | apply Spl.t | apply Spl.d))) ?_
  refine aw_weak (weak_nest0 6 (k := 5) 2 1 cArbor_ rfl rfl) ?_
  refine aw_weak (weak_adopt 7 rfl 215 4 (kb := 4) (j := 2) rfl rfl (by repeat (first | exact Spl.z _ | apply Spl.t | apply Spl.d))) ?_
  refine aw_weak (weak_adopt 8 rfl 147 3 (kb := 4) (j := 9) rfl rfl (by repeat (first | exact Spl.z _ | apply Spl.t | apply Spl.d))) ?_
  refine aw_weak (weak_adopt 9 rfl 179 3 (kb := 4) (j := 10) rfl rfl (by repeat (first | exact Spl.z _ | apply Spl.t | apply Spl.d))) ?_
  refine aw_weak (weak_adopt 10 rfl 2 1 (kb := 4) (j := 12) rfl rfl (by repeat (first | exact Spl.z _ | apply Spl.t | apply Spl.d))) ?_
  refine aw_weak (weak_adopt 11 rfl 2 1 (kb := 4) (j := 19) rfl rfl (by repeat (first | exact Spl.z _ | apply Spl.t | apply Spl.d))) ?_
  refine aw_ret ?_
  refine then_r ?_
  cases h0
  exact retK_ (rs := [.cell 4 53, .tmp 5, .tmp 6]) [5, 6, 7, 8, 9, 10, 11] rfl
  refine sk ?_
  refine sq [0,1,2] ?_
  obtain ⟨v4, hv4, h0⟩ := bnd h0
  refine rs rfl w0 rfl (c_callV 5 (s_l27Own_c hv4) rfl rfl) ?_
  refine rs rfl w0 rfl (st_alloc 12 (cs := [.d (.v (.string (⟨#[]⟩ : ByteArray))), .d (.v (.slice none 0 0)), .d (.v (.slice none 0 0)), .d (.v (.int .i64 0)), .d (.v (.int .i64 0)), .d (.v (.int .i64 0)), .d (.v (.int .i64 0)), .d (.v (.int .i64 0)), .d (.v (.string (⟨#[]⟩ : ByteArray))), .d (.v (.slice none 0 0)), .d (.v (.slice none 0 0)), .d (.v (.int .i64 0)), .d (.v (.slice none 0 0)), .d (.v (.int .i64 0)), .d (.v (.int .i64 0)), .d (.v (.int .i64 0)), .d (.v (.int .i64 0)), .d (.v (.int .i64 0)), .d (.v (.int .i64 0)), .d (.v (.slice none 0 0)), .d (.v (.int .i64 0)), .d (.v (.int .i64 0)), .d (.v (.int .i64 0)), .d (.v (.int .i64 0)), .d (.v (.int .i64 0)), .d (.v (.int .i64 0))]) tok rfl rfl rfl) ?_
  refine rw0 rfl w0 (bx_st (cs := _ :: _) tok rfl rfl rfl rfl rfl rfl rfl) ?_
  refine nx ?_
  refine sq [0,1,2,3,4,5] ?_
  refine fa tok ?_
  refine ld tok ?_
  refine pm ?_
  refine rp rfl w0 rfl (pw_add rfl rfl) ?_
  refine fa tok ?_
  refine rw0 rfl w0 (bx_st (cs := [.d _]) tok rfl rfl rfl rfl rfl rfl rfl) ?_
  refine nx ?_
  obtain ⟨v12, h1, h0⟩ := bnd h0
  refine aw_cut ⟨updA (updA (updA ((fun _ => .dead)) 2 (.ptr 3 0 1 0 0)) 4 (.ptr 4 0 1 0 0)) 7 (.ptr 5 0 1 0 0), lks [.no, .no, .no, .live [⟨53, 26, .av [[.d (.v (.string p0.Movement.Name)), .d (.sl (List.map cArbor_ p0.Movement.Works.Arbors)), .d (.sl (List.map cMesh_ p0.Movement.Works.Meshes)), .d (.v (.int .i64 p0.Movement.Minute)), .d (.v (.int .i64 p0.Movement.Hour)), .d (.v (.int .i64 p0.Movement.Escape)), .d (.v (.int .i64 p0.Movement.Teeth)), .d (.v (.int .i64 p0.Movement.Beats)), .d (.v (.string p0.Movement.Calendar.Name)), .d (.sl (List.map cMonth_ p0.Movement.Calendar.Months)), .d (.sl (List.map cLeapRule_ p0.Movement.Calendar.Rules)), .d (.v (.int .i64 p0.Movement.Calendar.Week)), .d (.sl (List.map cI p0.Movement.Cam)), .d (.v (.int .i64 p0.Movement.Strike)), .d (.v (.int .i64 p0.Start.Year)), .d (.v (.int .i64 p0.Start.Month)), .d (.v (.int .i64 p0.Start.Day)), .d (.v (.int .i64 p0.First)), .d (.v (.int .i64 p0.Clock)), .d (.sl (List.map cI p0.Dial.Cam)), .d (.v (.int .i64 p0.Dial.Months)), .d (.v (.int .i64 p0.Dial.Teeth)), .d (.v (.int .i64 p0.Dial.At)), .d (.v (.int .i64 p0.Dial.Day)), .d (.v (.int .i64 p0.Dial.Week)), .d (.v (.int .i64 p0.Dial.Weekday))]]⟩], .live [⟨53, 26, .av [[.d (.v (.string (⟨#[]⟩ : ByteArray))), .d (.v (.slice none 0 0)), .d (.v (.slice none 0 0)), .d (.v (.int .i64 0)), .d (.v (.int .i64 0)), .d (.v (.int .i64 0)), .d (.v (.int .i64 0)), .d (.v (.int .i64 0)), .d (.v (.string (⟨#[]⟩ : ByteArray))), .d (.v (.slice none 0 0)), .d (.v (.slice none 0 0)), .d (.v (.int .i64 0)), .d (.v (.slice none 0 0)), .d (.v (.int .i64 0)), .d (.v (.int .i64 0)), .d (.v (.int .i64 0)), .d (.v (.int .i64 0)), .d (.v (.int .i64 0)), .d (.v (.int .i64 0)), .d (.v (.slice none 0 0)), .d (.v (.int .i64 0)), .d (.v (.int .i64 0)), .d (.v (.int .i64 0)), .d (.v (.int .i64 0)), .d (.v (.int .i64 0)), .d (.v (.int .i64 0))]]⟩], .live [⟨53, 26, .av [[.d (.v (.string v12.1)), .own 6 0 (v12.2.2.2.2.2.2.2.2.2.2.2.2.2.2.2.2.2.2.1).length, .own 7 0 (v12.2.2.2.2.2.2.2.2.2.2.2.2.2.2.2.2.2.2.2.1).length, .d (.v (.int .i64 v12.2.1)), .d (.v (.int .i64 v12.2.2.1)), .d (.v (.int .i64 v12.2.2.2.1)), .d (.v (.int .i64 v12.2.2.2.2.1)), .d (.v (.int .i64 v12.2.2.2.2.2.1)), .d (.v (.string v12.2.2.2.2.2.2.1)), .own 8 0 (v12.2.2.2.2.2.2.2.2.2.2.2.2.2.2.2.2.2.2.2.2.1).length, .own 9 0 (v12.2.2.2.2.2.2.2.2.2.2.2.2.2.2.2.2.2.2.2.2.2.1).length, .d (.v (.int .i64 v12.2.2.2.2.2.2.2.1)), .own 10 0 (v12.2.2.2.2.2.2.2.2.2.2.2.2.2.2.2.2.2.2.2.2.2.2.1).length, .d (.v (.int .i64 v12.2.2.2.2.2.2.2.2.1)), .d (.v (.int .i64 v12.2.2.2.2.2.2.2.2.2.1.Year)), .d (.v (.int .i64 v12.2.2.2.2.2.2.2.2.2.1.Month)), .d (.v (.int .i64 v12.2.2.2.2.2.2.2.2.2.1.Day)), .d (.v (.int .i64 v12.2.2.2.2.2.2.2.2.2.2.1)), .d (.v (.int .i64 v12.2.2.2.2.2.2.2.2.2.2.2.1)), .own 11 0 (v12.2.2.2.2.2.2.2.2.2.2.2.2.2.2.2.2.2.2.2.2.2.2.2).length, .d (.v (.int .i64 v12.2.2.2.2.2.2.2.2.2.2.2.2.1)), .d (.v (.int .i64 v12.2.2.2.2.2.2.2.2.2.2.2.2.2.1)), .d (.v (.int .i64 v12.2.2.2.2.2.2.2.2.2.2.2.2.2.2.1)), .d (.v (.int .i64 v12.2.2.2.2.2.2.2.2.2.2.2.2.2.2.2.1)), .d (.v (.int .i64 v12.2.2.2.2.2.2.2.2.2.2.2.2.2.2.2.2.1)), .d (.v (.int .i64 v12.2.2.2.2.2.2.2.2.2.2.2.2.2.2.2.2.2.1))]]⟩], .live [⟨213, 2, .av (nestL 12 cArbor_ v12.2.2.2.2.2.2.2.2.2.2.2.2.2.2.2.2.2.2.1)⟩], .live [⟨215, 4, .data (List.map cMesh_ v12.2.2.2.2.2.2.2.2.2.2.2.2.2.2.2.2.2.2.2.1)⟩], .live [⟨147, 3, .data (List.map cMonth_ v12.2.2.2.2.2.2.2.2.2.2.2.2.2.2.2.2.2.2.2.2.1)⟩], .live [⟨179, 3, .data (List.map cLeapRule_ v12.2.2.2.2.2.2.2.2.2.2.2.2.2.2.2.2.2.2.2.2.2.1)⟩], .live [⟨2, 1, .data (List.map cI v12.2.2.2.2.2.2.2.2.2.2.2.2.2.2.2.2.2.2.2.2.2.2.1)⟩], .live [⟨2, 1, .data (List.map cI v12.2.2.2.2.2.2.2.2.2.2.2.2.2.2.2.2.2.2.2.2.2.2.2)⟩], .live (famL 2 1 cArbor_ v12.2.2.2.2.2.2.2.2.2.2.2.2.2.2.2.2.2.2.1)]⟩ ?_ ?_
  refine sq [0,1,2,3] ?_
  refine fa tok ?_
  refine ld tok ?_
  refine rp rfl w0 rfl (pw_quo rfl rfl (by decide)) ?_
  refine pa ?_
  refine nx ?_
  refine aw_block ?_
  refine aw_loopM (fun s9 => ⟨updA (updA (updA (updA ((fun _ => .dead)) 2 (.ptr 3 0 1 0 0)) 4 (.ptr 4 0 1 0 0)) 7 (.ptr 5 0 1 0 0)) 8 (.d (.v (.int .i64 s9.1))), lks [.no, .no, .no, .live [⟨53, 26, .av [[.d (.v (.string p0.Movement.Name)), .d (.sl (List.map cArbor_ p0.Movement.Works.Arbors)), .d (.sl (List.map cMesh_ p0.Movement.Works.Meshes)), .d (.v (.int .i64 p0.Movement.Minute)), .d (.v (.int .i64 p0.Movement.Hour)), .d (.v (.int .i64 p0.Movement.Escape)), .d (.v (.int .i64 p0.Movement.Teeth)), .d (.v (.int .i64 p0.Movement.Beats)), .d (.v (.string p0.Movement.Calendar.Name)), .d (.sl (List.map cMonth_ p0.Movement.Calendar.Months)), .d (.sl (List.map cLeapRule_ p0.Movement.Calendar.Rules)), .d (.v (.int .i64 p0.Movement.Calendar.Week)), .d (.sl (List.map cI p0.Movement.Cam)), .d (.v (.int .i64 p0.Movement.Strike)), .d (.v (.int .i64 p0.Start.Year)), .d (.v (.int .i64 p0.Start.Month)), .d (.v (.int .i64 p0.Start.Day)), .d (.v (.int .i64 p0.First)), .d (.v (.int .i64 p0.Clock)), .d (.sl (List.map cI p0.Dial.Cam)), .d (.v (.int .i64 p0.Dial.Months)), .d (.v (.int .i64 p0.Dial.Teeth)), .d (.v (.int .i64 p0.Dial.At)), .d (.v (.int .i64 p0.Dial.Day)), .d (.v (.int .i64 p0.Dial.Week)), .d (.v (.int .i64 p0.Dial.Weekday))]]⟩], .live [⟨53, 26, .av [[.d (.v (.string (⟨#[]⟩ : ByteArray))), .d (.v (.slice none 0 0)), .d (.v (.slice none 0 0)), .d (.v (.int .i64 0)), .d (.v (.int .i64 0)), .d (.v (.int .i64 0)), .d (.v (.int .i64 0)), .d (.v (.int .i64 0)), .d (.v (.string (⟨#[]⟩ : ByteArray))), .d (.v (.slice none 0 0)), .d (.v (.slice none 0 0)), .d (.v (.int .i64 0)), .d (.v (.slice none 0 0)), .d (.v (.int .i64 0)), .d (.v (.int .i64 0)), .d (.v (.int .i64 0)), .d (.v (.int .i64 0)), .d (.v (.int .i64 0)), .d (.v (.int .i64 0)), .d (.v (.slice none 0 0)), .d (.v (.int .i64 0)), .d (.v (.int .i64 0)), .d (.v (.int .i64 0)), .d (.v (.int .i64 0)), .d (.v (.int .i64 0)), .d (.v (.int .i64 0))]]⟩], .live [⟨53, 26, .av [[.d (.v (.string s9.2.1)), .own 6 0 (s9.2.2.2.2.2.2.2.2.2.2.2.2.2.2.2.2.2.2.2.1).length, .own 7 0 (s9.2.2.2.2.2.2.2.2.2.2.2.2.2.2.2.2.2.2.2.2.1).length, .d (.v (.int .i64 s9.2.2.1)), .d (.v (.int .i64 s9.2.2.2.1)), .d (.v (.int .i64 s9.2.2.2.2.1)), .d (.v (.int .i64 s9.2.2.2.2.2.1)), .d (.v (.int .i64 s9.2.2.2.2.2.2.1)), .d (.v (.string s9.2.2.2.2.2.2.2.1)), .own 8 0 (s9.2.2.2.2.2.2.2.2.2.2.2.2.2.2.2.2.2.2.2.2.2.1).length, .own 9 0 (s9.2.2.2.2.2.2.2.2.2.2.2.2.2.2.2.2.2.2.2.2.2.2.1).length, .d (.v (.int .i64 s9.2.2.2.2.2.2.2.2.1)), .own 10 0 (s9.2.2.2.2.2.2.2.2.2.2.2.2.2.2.2.2.2.2.2.2.2.2.2.1).length, .d (.v (.int .i64 s9.2.2.2.2.2.2.2.2.2.1)), .d (.v (.int .i64 s9.2.2.2.2.2.2.2.2.2.2.1.Year)), .d (.v (.int .i64 s9.2.2.2.2.2.2.2.2.2.2.1.Month)), .d (.v (.int .i64 s9.2.2.2.2.2.2.2.2.2.2.1.Day)), .d (.v (.int .i64 s9.2.2.2.2.2.2.2.2.2.2.2.1)), .d (.v (.int .i64 s9.2.2.2.2.2.2.2.2.2.2.2.2.1)), .own 11 0 (s9.2.2.2.2.2.2.2.2.2.2.2.2.2.2.2.2.2.2.2.2.2.2.2.2).length, .d (.v (.int .i64 s9.2.2.2.2.2.2.2.2.2.2.2.2.2.1)), .d (.v (.int .i64 s9.2.2.2.2.2.2.2.2.2.2.2.2.2.2.1)), .d (.v (.int .i64 s9.2.2.2.2.2.2.2.2.2.2.2.2.2.2.2.1)), .d (.v (.int .i64 s9.2.2.2.2.2.2.2.2.2.2.2.2.2.2.2.2.1)), .d (.v (.int .i64 s9.2.2.2.2.2.2.2.2.2.2.2.2.2.2.2.2.2.1)), .d (.v (.int .i64 s9.2.2.2.2.2.2.2.2.2.2.2.2.2.2.2.2.2.2.1))]]⟩], .live [⟨213, 2, .av (nestL 12 cArbor_ s9.2.2.2.2.2.2.2.2.2.2.2.2.2.2.2.2.2.2.2.1)⟩], .live [⟨215, 4, .data (List.map cMesh_ s9.2.2.2.2.2.2.2.2.2.2.2.2.2.2.2.2.2.2.2.2.1)⟩], .live [⟨147, 3, .data (List.map cMonth_ s9.2.2.2.2.2.2.2.2.2.2.2.2.2.2.2.2.2.2.2.2.2.1)⟩], .live [⟨179, 3, .data (List.map cLeapRule_ s9.2.2.2.2.2.2.2.2.2.2.2.2.2.2.2.2.2.2.2.2.2.2.1)⟩], .live [⟨2, 1, .data (List.map cI s9.2.2.2.2.2.2.2.2.2.2.2.2.2.2.2.2.2.2.2.2.2.2.2.1)⟩], .live [⟨2, 1, .data (List.map cI s9.2.2.2.2.2.2.2.2.2.2.2.2.2.2.2.2.2.2.2.2.2.2.2.2)⟩], .live (famL 2 1 cArbor_ s9.2.2.2.2.2.2.2.2.2.2.2.2.2.2.2.2.2.2.2.1)]⟩) h1 ?_ (fun s9 y h2 => ?_)
  exact wk [0, 1, 2, 3, 4, 12, 5, 7, 8, 9, 10, 11, 6]
  refine aw_seq ?_
  refine sq [0,1,2,3,4] ?_
  refine pm ?_
  refine fa tok ?_
  refine ld tok ?_
  refine rp rfl w0 rfl (pw_quo rfl rfl (by decide)) ?_
  refine rp rfl w0 rfl (pu_lss rfl rfl) ?_
  refine nx ?_
  refine aw_if h2 rfl (fun hc h2 => ?_) (fun hc h2 => ?_)
  refine sk ?_
  refine aw_seq ?_
  refine aw_block ?_
  refine sr [0,1] ?_
  refine fa tok ?_
  obtain ⟨v11, hv11, h2⟩ := bnd h2
  refine rw1 rfl w0 rfl (c_callP [5, 6, 12, 7, 8, 9, 10, 11] 300 (s_l18Night_Sim_4_c hv11) rfl rfl) ?_
  refine ra_nil ?_
  refine block_n ?_
  refine then_n ?_
  refine sr [0,1,2] ?_
  refine pm ?_
  refine rp rfl w0 rfl (pw_add rfl rfl) ?_
  refine pa ?_
  refine ra_nil ?_
  refine loop_n ?_
  cases h2
  refine ⟨_, rfl, ?_⟩
  exact wk [0, 1, 2, 3, 4, 5, 6, 7, 8, 9, 10, 11, 12]
  refine aw_exit ?_
  refine then_e ?_
  cases h2
  refine loop_x ⟨_, rfl, fun e => ?_⟩
  subst e
  refine block_hit ?_
  refine then_n ?_
  exact wk [0, 1, 2, 3, 4, 5, 6, 7, 8, 9, 10, 11, 12]
  refine sq [0,1,2,3,4,5,6,7,8,9,10,11,12] ?_
  refine fa tok ?_
  refine fa tok ?_
  refine ld tok ?_
  refine fa tok ?_
  refine ld tok ?_
  refine fa tok ?_
  refine ld tok ?_
  obtain ⟨v13, hv13, h0⟩ := bnd h0
  refine rs rfl w0 rfl (c_call 13 (s_BlowsBetween_c hv13) rfl rfl rfl) ?_
  refine rp rfl w0 rfl (pu_move (r := .tup _) rfl) ?_
  refine rp rfl w0 rfl (pu_extract rfl rfl) ?_
  refine rp rfl w0 rfl (pu_extract rfl rfl) ?_
  refine pa ?_
  refine pa ?_
  refine nx ?_
  refine sq [0,1,2,3,4] ?_
  refine rl rfl w0 rfl (bx_ldN tok rfl rfl rfl rfl) ?_
  refine pm ?_
  refine rw0 rfl w0 (bx_st (cs := _ :: _) tok rfl rfl rfl rfl rfl rfl rfl) ?_
  refine pa ?_
  refine pa ?_
  refine nx ?_
  refine aw_ret ?_
  cases h0
  exact retK_ (rs := [.cell 4 53, .tmp 5, .tmp 6]) [6, 12, 7, 8, 9, 10, 11] rfl

theorem i_within_c {p0 : Int} {p1 : Int} {p2 : Int} {r : Bool} (h0 : i_within_m p0 p1 p2 = some r) : FnC Tryz.prog 50 [] [.d (.v (.int .i64 p0)), .d (.v (.int .i64 p1)), .d (.v (.int .i64 p2))] [] (.d (.v (.bool r))) := by
  refine fnc_intro (T := tt) (N := 15) tok Tryz.func50 rfl rfl (by kernel_rfl) rfl rfl ?_
  unfold i_within_m at h0
  refine sq [0] ?_
  refine pa ?_
  refine nx ?_
  refine sq [0,1,2,3,4,5,6,7,8] ?_
  refine pm ?_
  refine pm ?_
  refine rp rfl w0 rfl (pu_geq rfl rfl) ?_
  refine pm ?_
  refine ra_if (u := 10) h0 rfl (fun hc h0 => ?_) (fun hc h0 => ?_)
  refine pm1 ?_
  refine pm1 ?_
  refine rp rfl (w1 rfl rfl rfl) rfl (pu_leq rfl rfl) ?_
  refine pkt ?_
  refine pa ?_
  refine nx ?_
  refine aw_ret ?_
  cases h0
  exact ret0_ (rs := [.tmp 6]) rfl
  iterate 3 refine k1 ?_
  refine pkf ?_
  refine pa ?_
  refine nx ?_
  refine aw_ret ?_
  cases h0
  exact ret0_ (rs := [.tmp 6]) rfl

theorem i_isArbor_c {p0 : Works_} {p1 : Int} {r : Bool} (h0 : i_isArbor_m p0 p1 = some r) : FnC Tryz.prog 195 [] [.agg [.d (.sl (List.map cArbor_ p0.Arbors)), .d (.sl (List.map cMesh_ p0.Meshes))], .d (.v (.int .i64 p1))] [] (.d (.v (.bool r))) := by
  refine fnc_intro (T := tt) (N := 11) tok Tryz.func195 rfl rfl (by kernel_rfl) rfl rfl ?_
  unfold i_isArbor_m at h0
  refine sq [0,1] ?_
  refine rs rfl w0 rfl (st_box 3 (cs := _ :: _) rfl rfl rfl) ?_
  refine pa ?_
  refine nx ?_
  refine sq [0,1,2,3,4,5,6] ?_
  refine pm ?_
  refine fa tok ?_
  refine ld tok ?_
  refine rp rfl w0 rfl (pu_len_map tok rfl rfl rfl) ?_
  refine rp rfl w0 rfl (pw_sub rfl rfl) ?_
  obtain ⟨v1, hv1, h0⟩ := bnd h0
  refine rs rfl w0 rfl (c_call 4 (i_within_c hv1) rfl rfl rfl) ?_
  refine pa ?_
  refine nx ?_
  refine aw_ret ?_
  cases h0
  exact ret0_ (rs := [.tmp 4]) rfl

theorem i_toothed_c {p0 : Int} {r : Bool} (h0 : i_toothed_m p0 = some r) : FnC Tryz.prog 196 [] [.d (.v (.int .i64 p0))] [] (.d (.v (.bool r))) := by
  refine fnc_intro (T := tt) (N := 5) tok Tryz.func196 rfl rfl (by kernel_rfl) rfl rfl ?_
  unfold i_toothed_m at h0
  refine sq [0] ?_
  refine pa ?_
  refine nx ?_
  refine sq [0,1,2] ?_
  refine pm ?_
  obtain ⟨v1, hv1, h0⟩ := bnd h0
  refine rs rfl w0 rfl (c_call 3 (i_within_c hv1) rfl rfl rfl) ?_
  refine pa ?_
  refine nx ?_
  refine aw_ret ?_
  cases h0
  exact ret0_ (rs := [.tmp 2]) rfl

theorem i_IsName_c {p0 : ByteArray} {r : Bool} (h0 : i_IsName_m p0 = some r) : FnC Tryz.prog 197 [] [.d (.v (.string p0))] [] (.d (.v (.bool r))) := by
  refine fnc_intro (T := tt) (N := 50) tok Tryz.func197 rfl rfl (by kernel_rfl) rfl rfl ?_
  unfold i_IsName_m at h0
  refine sq [0] ?_
  refine pa ?_
  refine nx ?_
  refine aw_seq ?_
  obtain ⟨v1, h1, h0⟩ := bnd h0
  refine aw_cut ⟨updA (updA ((fun _ => .dead)) 0 (.d (.v (.string p0)))) 14 (.d (.v (.bool v1))), lks [.no, .no, .no]⟩ ?_ ?_
  refine sr [0,1,2,3,4,5,6,7] ?_
  refine pm ?_
  refine rp rfl w0 rfl (pu_len_str tok rfl rfl rfl) ?_
  refine rp rfl w0 rfl (pu_lss rfl rfl) ?_
  refine pm ?_
  refine ra_if (u := 10) h1 rfl (fun hc h1 => ?_) (fun hc h1 => ?_)
  iterate 3 refine k1 ?_
  refine pkt ?_
  refine nx ?_
  cases h1
  exact wk [0, 1, 2]
  refine pm1 ?_
  refine rp rfl (w1 rfl rfl rfl) rfl (pu_len_str tok rfl rfl rfl) ?_
  refine rp rfl (w1 rfl rfl rfl) rfl (pu_gtr rfl rfl) ?_
  refine pkf ?_
  refine nx ?_
  cases h1
  exact wk [0, 1, 2]
  refine aw_ifB h0 rfl (fun hc h0 => ?_) (fun hc h0 => ?_)
  refine sq [0] ?_
  refine pa ?_
  refine nx ?_
  refine aw_ret ?_
  refine then_r ?_
  cases h0
  exact ret0_ (rs := [.tmp 2]) rfl
  refine sk ?_
  obtain ⟨v13x, h1, h0⟩ := bnd h0
  refine aw_cutE v13x (fun v13 => ⟨(fun _ => .dead), lks [.no, .no, .no]⟩) ?_ ?_
  refine sq [0,1,2,3] ?_
  refine pm ?_
  obtain ⟨hq2, h1⟩ := chk_e h1
  refine rs rfl w0 rfl (cv_sb tok hq2 rfl rfl rfl rfl rfl rfl rfl) ?_
  refine rp rfl w0 rfl (pu_len_map tok rfl rfl rfl) ?_
  refine pm ?_
  refine nx ?_
  refine aw_block ?_
  refine aw_loopM (fun s8 => ⟨updA (updA (updA ((fun _ => .dead)) 16 (.d (.sl (List.map cU8 (bytesL p0))))) 17 (.d (.v (.int .i64 ((bytesL p0).length : Int))))) 18 (.d (.v (.int .i64 s8))), lks [.no, .no, .no]⟩) h1 ?_ (fun s8 y h2 => ?_)
  exact wk [0, 1, 2]
  refine sq [0] ?_
  refine rp rfl w0 rfl (pu_lss rfl rfl) ?_
  refine nx ?_
  refine aw_seq ?_
  refine aw_if h2 rfl (fun hc h2 => ?_) (fun hc h2 => ?_)
  refine sk ?_
  refine aw_seq ?_
  refine aw_block ?_
  refine sq [0,1,2,3,4] ?_
  refine pm ?_
  obtain ⟨v9, hv9, h2⟩ := bnd h2
  refine rp rfl w0 rfl (sl_ix tok hv9 rfl rfl rfl rfl rfl rfl) ?_
  refine lr tok ?_
  refine pa ?_
  refine pa ?_
  refine nx ?_
  obtain ⟨v10, h3, h2⟩ := bnd h2
  refine aw_cut ⟨updA (updA (updA (updA (updA (updA ((fun _ => .dead)) 3 (.d (.v (.int .i64 s8)))) 4 (.d (.v (.int .u8 v9)))) 5 (.d (.v (.bool v10)))) 16 (.d (.sl (List.map cU8 (bytesL p0))))) 17 (.d (.v (.int .i64 ((bytesL p0).length : Int))))) 18 (.d (.v (.int .i64 s8))), lks [.no, .no, .no]⟩ ?_ ?_
  refine sr [0,1,2,3,4,5,6] ?_
  refine pm ?_
  refine rp rfl w0 rfl (pu_geq rfl rfl) ?_
  refine pm ?_
  refine ra_if (u := 25) h3 rfl (fun hc h3 => ?_) (fun hc h3 => ?_)
  refine pm1 ?_
  refine rp rfl (w1 rfl rfl rfl) rfl (pu_leq rfl rfl) ?_
  refine pkt ?_
  refine pa ?_
  refine nx ?_
  cases h3
  exact wk [0, 1, 2]
  refine k1 ?_
  refine k1 ?_
  refine pkf ?_
  refine pa ?_
  refine nx ?_
  cases h3
  exact wk [0, 1, 2]
  obtain ⟨v11, h3, h2⟩ := bnd h2
  refine aw_cut ⟨updA (updA (updA (updA (updA (updA ((fun _ => .dead)) 3 (.d (.v (.int .i64 s8)))) 5 (.d (.v (.bool v10)))) 6 (.d (.v (.bool v11)))) 16 (.d (.sl (List.map cU8 (bytesL p0))))) 17 (.d (.v (.int .i64 ((bytesL p0).length : Int))))) 18 (.d (.v (.int .i64 s8))), lks [.no, .no, .no]⟩ ?_ ?_
  refine sr [0,1,2,3,4,5,6,7,8,9,10] ?_
  refine pm ?_
  refine rp rfl w0 rfl (pu_geq rfl rfl) ?_
  refine pm ?_
  refine ra_if (u := 31) h3 rfl (fun hc h3 => ?_) (fun hc h3 => ?_)
  refine pm1 ?_
  refine rp rfl (w1 rfl rfl rfl) rfl (pu_leq rfl rfl) ?_
  refine pkt ?_
  refine pm ?_
  refine ra_if (u := 35) h3 rfl (fun hc h3 => ?_) (fun hc h3 => ?_)
  refine k1 ?_
  refine k1 ?_
  refine pkt ?_
  refine pa ?_
  refine nx ?_
  cases h3
  exact wk [0, 1, 2]
  refine pm1 ?_
  refine rp rfl (w1 rfl rfl rfl) rfl (pu_eql rfl rfl) ?_
  refine pkf ?_
  refine pa ?_
  refine nx ?_
  cases h3
  exact wk [0, 1, 2]
  refine k1 ?_
  refine k1 ?_
  refine pkf ?_
  refine pm ?_
  refine pm1 ?_
  refine rp rfl (w1 rfl rfl rfl) rfl (pu_eql rfl rfl) ?_
  refine pkf ?_
  refine pa ?_
  refine nx ?_
  cases h3
  exact wk [0, 1, 2]
  obtain ⟨v12, h3, h2⟩ := bnd h2
  refine aw_cut ⟨updA (updA (updA (updA ((fun _ => .dead)) 16 (.d (.sl (List.map cU8 (bytesL p0))))) 17 (.d (.v (.int .i64 ((bytesL p0).length : Int))))) 18 (.d (.v (.int .i64 s8)))) 48 (.d (.v (.bool v12))), lks [.no, .no, .no]⟩ ?_ ?_
  refine sr [0,1,2,3,4,5,6,7,8,9] ?_
  refine pm ?_
  refine rp rfl w0 rfl (pu_not rfl) ?_
  refine pm ?_
  refine ra_ifB (u := 41) h3 rfl (fun hc h3 => ?_) (fun hc h3 => ?_)
  refine pm1 ?_
  refine rp rfl (w1 rfl rfl rfl) rfl (pu_eql rfl rfl) ?_
  refine pm1 ?_
  refine ra_if (u := 44) h3 rfl (fun hc h3 => ?_) (fun hc h3 => ?_)
  refine k1 ?_
  refine k1 ?_
  refine pkt1 ?_
  refine pkt ?_
  refine nx ?_
  cases h3
  exact wk [0, 1, 2]
  refine pm1 ?_
  refine rp rfl (w1 rfl rfl rfl) rfl (pu_not rfl) ?_
  refine pkf1 ?_
  refine pkt ?_
  refine nx ?_
  cases h3
  exact wk [0, 1, 2]
  iterate 6 refine k1 ?_
  refine pkf ?_
  refine nx ?_
  cases h3
  exact wk [0, 1, 2]
  refine aw_ifB h2 rfl (fun hc h2 => ?_) (fun hc h2 => ?_)
  refine sq [0] ?_
  refine pa ?_
  refine nx ?_
  refine aw_ret ?_
  refine block_r ?_
  refine then_r ?_
  cases h2
  refine loop_r ⟨_, rfl, fun e => ?_⟩
  subst e
  refine block_r ?_
  replace h0 := orE_s h0
  refine then_r ?_
  cases h0
  exact ret0_ (rs := [.tmp 2]) rfl
  refine aw_skip ?_
  refine block_n ?_
  refine then_n ?_
  refine sr [0,1] ?_
  refine rp rfl w0 rfl (pw_add rfl rfl) ?_
  refine pm ?_
  refine ra_nil ?_
  refine loop_n ?_
  cases h2
  refine ⟨_, rfl, ?_⟩
  exact wk [0, 1, 2]
  refine aw_exit ?_
  refine then_e ?_
  cases h2
  refine loop_x ⟨_, rfl, fun e => ?_⟩
  subst e
  refine block_hit ?_
  refine then_n ?_
  refine ⟨_, rfl, ?_⟩
  exact wk [0, 1, 2]
  rintro v13 rfl
  replace h0 := orE_f h0
  refine sq [0] ?_
  refine pa ?_
  refine nx ?_
  refine aw_ret ?_
  cases h0
  exact ret0_ (rs := [.tmp 2]) rfl

theorem i_validArbor_c {p0 : Arbor_} {r : Bool} (h0 : i_validArbor_m p0 = some r) : FnC Tryz.prog 232 [] [.agg [.d (.v (.string p0.Name)), .d (.sl (List.map cI p0.Wheels))]] [] (.d (.v (.bool r))) := by
  refine fnc_intro (T := tt) (N := 25) tok Tryz.func232 rfl rfl (by kernel_rfl) rfl rfl ?_
  unfold i_validArbor_m at h0
  refine sq [0,1] ?_
  refine rs rfl w0 rfl (st_box 3 (cs := _ :: _) rfl rfl rfl) ?_
  refine pa ?_
  refine nx ?_
  obtain ⟨v7x, h1, h0⟩ := bnd h0
  refine aw_cutE v7x (fun v7 => ⟨updA ((fun _ => .dead)) 1 (.ptr 3 0 1 0 0), lks [.no, .no, .no, .live [⟨213, 2, .av [[.d (.v (.string p0.Name)), .d (.sl (List.map cI p0.Wheels))]]⟩]]⟩) ?_ ?_
  refine sq [0,1,2,3] ?_
  refine fa tok ?_
  refine ld tok ?_
  refine rp rfl w0 rfl (pu_len_map tok rfl rfl rfl) ?_
  refine pm ?_
  refine nx ?_
  refine aw_block ?_
  refine aw_loopM (fun s4 => ⟨updA (updA (updA (updA ((fun _ => .dead)) 1 (.ptr 3 0 1 0 0)) 6 (.d (.sl (List.map cI p0.Wheels)))) 7 (.d (.v (.int .i64 (p0.Wheels.length : Int))))) 8 (.d (.v (.int .i64 s4))), lks [.no, .no, .no, .live [⟨213, 2, .av [[.d (.v (.string p0.Name)), .d (.sl (List.map cI p0.Wheels))]]⟩]]⟩) h1 ?_ (fun s4 y h2 => ?_)
  exact wk [0, 1, 2, 3]
  refine sq [0] ?_
  refine rp rfl w0 rfl (pu_lss rfl rfl) ?_
  refine nx ?_
  refine aw_seq ?_
  refine aw_if h2 rfl (fun hc h2 => ?_) (fun hc h2 => ?_)
  refine sk ?_
  refine aw_seq ?_
  refine aw_block ?_
  refine sq [0,1,2] ?_
  obtain ⟨v5, hv5, h2⟩ := bnd h2
  refine rp rfl w0 rfl (sl_ix tok hv5 rfl rfl rfl rfl rfl rfl) ?_
  refine lr tok ?_
  refine pa ?_
  refine nx ?_
  refine sq [0,1,2] ?_
  refine pm ?_
  obtain ⟨v6, hv6, h2⟩ := bnd h2
  refine rs rfl w0 rfl (c_call 4 (i_toothed_c hv6) rfl rfl rfl) ?_
  refine rp rfl w0 rfl (pu_not rfl) ?_
  refine nx ?_
  refine aw_ifB h2 rfl (fun hc h2 => ?_) (fun hc h2 => ?_)
  refine sq [0] ?_
  refine pa ?_
  refine nx ?_
  refine aw_ret ?_
  refine block_r ?_
  refine then_r ?_
  cases h2
  refine loop_r ⟨_, rfl, fun e => ?_⟩
  subst e
  refine block_r ?_
  replace h0 := orE_s h0
  refine then_r ?_
  cases h0
  exact ret0_ (rs := [.tmp 2]) rfl
  refine aw_skip ?_
  refine block_n ?_
  refine then_n ?_
  refine sr [0,1] ?_
  refine rp rfl w0 rfl (pw_add rfl rfl) ?_
  refine pm ?_
  refine ra_nil ?_
  refine loop_n ?_
  cases h2
  refine ⟨_, rfl, ?_⟩
  exact wk [0, 1, 2, 3]
  refine aw_exit ?_
  refine then_e ?_
  cases h2
  refine loop_x ⟨_, rfl, fun e => ?_⟩
  subst e
  refine block_hit ?_
  refine then_n ?_
  refine ⟨_, rfl, ?_⟩
  exact wk [0, 1, 2, 3]
  rintro v7 rfl
  replace h0 := orE_f h0
  refine sq [0,1,2,3,4,5,6,7,8,9] ?_
  refine fa tok ?_
  refine ld tok ?_
  obtain ⟨v8, hv8, h0⟩ := bnd h0
  refine rs rfl w0 rfl (c_call 4 (i_IsName_c hv8) rfl rfl rfl) ?_
  refine pm ?_
  refine ra_ifB (u := 19) h0 rfl (fun hc h0 => ?_) (fun hc h0 => ?_)
  refine fa1 tok ?_
  refine ld1 tok ?_
  refine rp rfl (w1 rfl rfl rfl) rfl (pu_len_map tok rfl rfl rfl) ?_
  refine rp rfl (w1 rfl rfl rfl) rfl (pu_leq rfl rfl) ?_
  refine pkt ?_
  refine pa ?_
  refine nx ?_
  refine aw_ret ?_
  cases h0
  exact ret0_ (rs := [.tmp 2]) rfl
  iterate 4 refine k1 ?_
  refine pkf ?_
  refine pa ?_
  refine nx ?_
  refine aw_ret ?_
  cases h0
  exact ret0_ (rs := [.tmp 2]) rfl

theorem i_hasWheel_c {p0 : Works_} {p1 : Int} {p2 : Int} {r : Bool} (h0 : i_hasWheel_m p0 p1 p2 = some r) : FnC Tryz.prog 251 [] [.agg [.d (.sl (List.map cArbor_ p0.Arbors)), .d (.sl (List.map cMesh_ p0.Meshes))], .d (.v (.int .i64 p1)), .d (.v (.int .i64 p2))] [] (.d (.v (.bool r))) := by
  refine fnc_intro (T := tt) (N := 25) tok Tryz.func251 rfl rfl (by kernel_rfl) rfl rfl ?_
  unfold i_hasWheel_m at h0
  refine sq [0,1] ?_
  refine rs rfl w0 rfl (st_box 3 (cs := _ :: _) rfl rfl rfl) ?_
  refine pa ?_
  refine nx ?_
  refine sq [0,1,2,3,4,5,6,7,8,9,10,11,12,13,14,15,16,17,18] ?_
  refine pm ?_
  refine fa tok ?_
  refine ld tok ?_
  refine rp rfl w0 rfl (pu_len_map tok rfl rfl rfl) ?_
  refine rp rfl w0 rfl (pw_sub rfl rfl) ?_
  obtain ⟨v1, hv1, h0⟩ := bnd h0
  refine rs rfl w0 rfl (c_call 4 (i_within_c hv1) rfl rfl rfl) ?_
  refine pm ?_
  refine ra_ifB (u := 13) h0 rfl (fun hc h0 => ?_) (fun hc h0 => ?_)
  refine pm1 ?_
  refine fa1 tok ?_
  refine ld1 tok ?_
  refine pm1 ?_
  obtain ⟨v2, hv2, h0⟩ := bnd h0
  refine rp rfl (w1 rfl rfl rfl) rfl (sl_ix tok hv2 rfl rfl rfl rfl rfl rfl) ?_
  refine fr1 tok ?_
  refine lr1 tok ?_
  refine rp rfl (w1 rfl rfl rfl) rfl (pu_len_map tok rfl rfl rfl) ?_
  refine rp rfl (w1 rfl rfl rfl) rfl (pw_sub rfl rfl) ?_
  obtain ⟨v3, hv3, h0⟩ := bnd h0
  refine rs rfl (w1 rfl rfl rfl) rfl (c_call 4 (i_within_c hv3) rfl rfl rfl) ?_
  refine pkt ?_
  refine pa ?_
  refine nx ?_
  refine aw_ret ?_
  cases h0
  exact ret0_ (rs := [.tmp 6]) rfl
  iterate 10 refine k1 ?_
  refine pkf ?_
  refine pa ?_
  refine nx ?_
  refine aw_ret ?_
  cases h0
  exact ret0_ (rs := [.tmp 6]) rfl

theorem i_joins_c {p0 : Works_} {p1 : Mesh_} {r : Bool} (h0 : i_joins_m p0 p1 = some r) : FnC Tryz.prog 233 [] [.agg [.d (.sl (List.map cArbor_ p0.Arbors)), .d (.sl (List.map cMesh_ p0.Meshes))], .agg [.d (.v (.int .i64 p1.A)), .d (.v (.int .i64 p1.WheelA)), .d (.v (.int .i64 p1.B)), .d (.v (.int .i64 p1.WheelB))]] [] (.d (.v (.bool r))) := by
  refine fnc_intro (T := tt) (N := 26) tok Tryz.func233 rfl rfl (by kernel_rfl) rfl rfl ?_
  unfold i_joins_m at h0
  refine sq [0,1,2] ?_
  refine rs rfl w0 rfl (st_box 3 (cs := _ :: _) rfl rfl rfl) ?_
  refine rs rfl w0 rfl (st_box 4 (cs := _ :: _) rfl rfl rfl) ?_
  refine pa ?_
  refine nx ?_
  refine sq [0,1,2,3,4,5,6,7,8,9,10,11,12,13,14,15,16,17,18,19,20,21] ?_
  refine fa tok ?_
  refine ld tok ?_
  refine fa tok ?_
  refine ld tok ?_
  refine rp rfl w0 rfl (pu_neq rfl rfl) ?_
  refine pm ?_
  refine ra_if (u := 10) h0 rfl (fun hc h0 => ?_) (fun hc h0 => ?_)
  refine rl rfl (w1 rfl rfl rfl) rfl (bx_ldN tok rfl rfl rfl rfl) ?_
  refine fa1 tok ?_
  refine ld1 tok ?_
  refine fa1 tok ?_
  refine ld1 tok ?_
  obtain ⟨v1, hv1, h0⟩ := bnd h0
  refine rs rfl (w1 rfl rfl rfl) rfl (c_call 5 (i_hasWheel_c hv1) rfl rfl rfl) ?_
  refine pkt ?_
  refine pm ?_
  refine ra_ifB (u := 18) h0 rfl (fun hc h0 => ?_) (fun hc h0 => ?_)
  refine rl rfl (w1 rfl rfl rfl) rfl (bx_ldN tok rfl rfl rfl rfl) ?_
  refine fa1 tok ?_
  refine ld1 tok ?_
  refine fa1 tok ?_
  refine ld1 tok ?_
  obtain ⟨v2, hv2, h0⟩ := bnd h0
  refine rs rfl (w1 rfl rfl rfl) rfl (c_call 5 (i_hasWheel_c hv2) rfl rfl rfl) ?_
  refine pkt ?_
  refine pa ?_
  refine nx ?_
  refine aw_ret ?_
  cases h0
  exact ret0_ (rs := [.tmp 4]) rfl
  iterate 6 refine k1 ?_
  refine pkf ?_
  refine pa ?_
  refine nx ?_
  refine aw_ret ?_
  cases h0
  exact ret0_ (rs := [.tmp 4]) rfl
  iterate 6 refine k1 ?_
  refine pkf ?_
  refine pm ?_
  iterate 6 refine k1 ?_
  refine pkf ?_
  refine pa ?_
  refine nx ?_
  refine aw_ret ?_
  cases h0
  exact ret0_ (rs := [.tmp 4]) rfl

theorem i_sameMesh_c {p0 : Mesh_} {p1 : Mesh_} {r : Bool} (h0 : i_sameMesh_m p0 p1 = some r) : FnC Tryz.prog 236 [] [.agg [.d (.v (.int .i64 p0.A)), .d (.v (.int .i64 p0.WheelA)), .d (.v (.int .i64 p0.B)), .d (.v (.int .i64 p0.WheelB))], .agg [.d (.v (.int .i64 p1.A)), .d (.v (.int .i64 p1.WheelA)), .d (.v (.int .i64 p1.B)), .d (.v (.int .i64 p1.WheelB))]] [] (.d (.v (.bool r))) := by
  refine fnc_intro (T := tt) (N := 21) tok Tryz.func236 rfl rfl (by kernel_rfl) rfl rfl ?_
  unfold i_sameMesh_m at h0
  refine sq [0,1,2] ?_
  refine rs rfl w0 rfl (st_box 3 (cs := _ :: _) rfl rfl rfl) ?_
  refine rs rfl w0 rfl (st_box 4 (cs := _ :: _) rfl rfl rfl) ?_
  refine pa ?_
  refine nx ?_
  refine sq [0,1,2,3,4,5,6,7,8,9,10,11,12,13,14,15,16] ?_
  refine rl rfl w0 rfl (bx_ldN tok rfl rfl rfl rfl) ?_
  refine rl rfl w0 rfl (bx_ldN tok rfl rfl rfl rfl) ?_
  refine rp rfl w0 rfl (ps_eql_Mesh_ (a := p0) (b := p1) rfl rfl) ?_
  refine pm ?_
  refine ra_if (u := 8) h0 rfl (fun hc h0 => ?_) (fun hc h0 => ?_)
  iterate 11 refine k1 ?_
  refine pkt ?_
  refine pa ?_
  refine nx ?_
  refine aw_ret ?_
  cases h0
  exact ret0_ (rs := [.tmp 4]) rfl
  refine rl rfl (w1 rfl rfl rfl) rfl (bx_ldN tok rfl rfl rfl rfl) ?_
  refine fa1 tok ?_
  refine ld1 tok ?_
  refine fa1 tok ?_
  refine ld1 tok ?_
  refine fa1 tok ?_
  refine ld1 tok ?_
  refine fa1 tok ?_
  refine ld1 tok ?_
  refine rp rfl (w1 rfl rfl rfl) rfl (pbl (C0 := [.d (.v (.int .i64 0)), .d (.v (.int .i64 0)), .d (.v (.int .i64 0)), .d (.v (.int .i64 0))]) tok rfl rfl rfl) ?_
  refine rp rfl (w1 rfl rfl rfl) rfl (ps_eql_Mesh_ (a := p0) (b := (⟨p1.B, p1.WheelB, p1.A, p1.WheelA⟩ : Mesh_)) rfl rfl) ?_
  refine pkf ?_
  refine pa ?_
  refine nx ?_
  refine aw_ret ?_
  cases h0
  exact ret0_ (rs := [.tmp 4]) rfl

theorem i_ValidWorks_1_c {p0 : Mesh_} {p1 : Mesh_} {r : Bool} (h0 : i_ValidWorks_1_m p0 p1 = some r) : FnC Tryz.prog 235 [] [.agg [.d (.v (.int .i64 p0.A)), .d (.v (.int .i64 p0.WheelA)), .d (.v (.int .i64 p0.B)), .d (.v (.int .i64 p0.WheelB))], .ref (cMesh_ p1)] [] (.d (.v (.bool r))) := by
  refine fnc_intro (T := tt) (N := 7) tok Tryz.func235 rfl rfl (by kernel_rfl) rfl rfl ?_
  unfold i_ValidWorks_1_m at h0
  refine sq [0,1] ?_
  refine rs rfl w0 rfl (st_box 3 (cs := _ :: _) rfl rfl rfl) ?_
  refine pa ?_
  refine nx ?_
  refine sq [0,1,2,3] ?_
  refine rp rfl w0 rfl (pu_load_refN tok rfl rfl rfl (by repeat (first | exact SegD.z _ | apply SegD.t))) ?_
  refine rl rfl w0 rfl (bx_ldN tok rfl rfl rfl rfl) ?_
  obtain ⟨v1, hv1, h0⟩ := bnd h0
  refine rs rfl w0 rfl (c_call 4 (i_sameMesh_c hv1) rfl rfl rfl) ?_
  refine pa ?_
  refine nx ?_
  refine aw_ret ?_
  cases h0
  exact ret0_ (rs := [.tmp 3]) rfl

theorem slices_IndexFunc_LMesh_Mesh_i_ValidWorks_1_c {p0 : List Mesh_} {p1_0 : Mesh_} {r : Int} (h0 : slices_IndexFunc_LMesh_Mesh_i_ValidWorks_1_m p0 p1_0 = some r) : FnC Tryz.prog 252 [] [.d (.sl (List.map cMesh_ p0)), .fn 235 [.ref (cMesh_ p1_0)]] [] (.d (.v (.int .i64 r))) := by
  refine fnc_intro (T := tt) (N := 19) tok Tryz.func252 rfl rfl (by kernel_rfl) rfl rfl ?_
  unfold slices_IndexFunc_LMesh_Mesh_i_ValidWorks_1_m at h0
  refine sq [0] ?_
  refine pa ?_
  refine nx ?_
  obtain ⟨v7x, h1, h0⟩ := bnd h0
  refine aw_cutE v7x (fun v7 => ⟨(fun _ => .dead), lks [.no, .no, .no]⟩) ?_ ?_
  refine sq [0,1,2] ?_
  refine pm ?_
  refine rp rfl w0 rfl (pu_len_map tok rfl rfl rfl) ?_
  refine pm ?_
  refine nx ?_
  refine aw_block ?_
  refine aw_loopM (fun s4 => ⟨updA (updA (updA (updA ((fun _ => .dead)) 0 (.d (.sl (List.map cMesh_ p0)))) 1 (.fn 235 [.ref (cMesh_ p1_0)])) 7 (.d (.v (.int .i64 (p0.length : Int))))) 8 (.d (.v (.int .i64 s4))), lks [.no, .no, .no]⟩) h1 ?_ (fun s4 y h2 => ?_)
  exact wk [0, 1, 2]
  refine sq [0] ?_
  refine rp rfl w0 rfl (pu_lss rfl rfl) ?_
  refine nx ?_
  refine aw_seq ?_
  refine aw_if h2 rfl (fun hc h2 => ?_) (fun hc h2 => ?_)
  refine sk ?_
  refine aw_seq ?_
  refine aw_block ?_
  refine sq [0,1] ?_
  refine pm ?_
  refine pa ?_
  refine nx ?_
  refine sq [0,1,2,3,4,5] ?_
  refine rp rfl w0 rfl (pu_move (r := .fn _ _) rfl) ?_
  refine pm ?_
  refine pm ?_
  obtain ⟨v5, hv5, h2⟩ := bnd h2
  refine rp rfl w0 rfl (sl_ix tok hv5 rfl rfl rfl rfl rfl rfl) ?_
  refine rp rfl w0 rfl (pu_load_refN tok rfl rfl rfl (by repeat (first | exact SegD.z _ | apply SegD.t))) ?_
  obtain ⟨v6, hv6, h2⟩ := bnd h2
  refine rs rfl w0 rfl (c_call 3 (i_ValidWorks_1_c hv6) rfl rfl rfl) ?_
  refine nx ?_
  refine aw_ifB h2 rfl (fun hc h2 => ?_) (fun hc h2 => ?_)
  refine sq [0,1] ?_
  refine pm ?_
  refine pa ?_
  refine nx ?_
  refine aw_ret ?_
  refine block_r ?_
  refine then_r ?_
  cases h2
  refine loop_r ⟨_, rfl, fun e => ?_⟩
  subst e
  refine block_r ?_
  replace h0 := orE_s h0
  refine then_r ?_
  cases h0
  exact ret0_ (rs := [.tmp 4]) rfl
  refine aw_skip ?_
  refine block_n ?_
  refine then_n ?_
  refine sr [0,1] ?_
  refine rp rfl w0 rfl (pw_add rfl rfl) ?_
  refine pm ?_
  refine ra_nil ?_
  refine loop_n ?_
  cases h2
  refine ⟨_, rfl, ?_⟩
  exact wk [0, 1, 2]
  refine aw_exit ?_
  refine then_e ?_
  cases h2
  refine loop_x ⟨_, rfl, fun e => ?_⟩
  subst e
  refine block_hit ?_
  refine then_n ?_
  refine ⟨_, rfl, ?_⟩
  exact wk [0, 1, 2]
  rintro v7 rfl
  replace h0 := orE_f h0
  refine sq [0] ?_
  refine pa ?_
  refine nx ?_
  refine aw_ret ?_
  cases h0
  exact ret0_ (rs := [.tmp 4]) rfl

theorem slices_ContainsFunc_LMesh_Mesh_i_ValidWorks_1_c {p0 : List Mesh_} {p1_0 : Mesh_} {r : Bool} (h0 : slices_ContainsFunc_LMesh_Mesh_i_ValidWorks_1_m p0 p1_0 = some r) : FnC Tryz.prog 234 [] [.d (.sl (List.map cMesh_ p0)), .fn 235 [.ref (cMesh_ p1_0)]] [] (.d (.v (.bool r))) := by
  refine fnc_intro (T := tt) (N := 9) tok Tryz.func234 rfl rfl (by kernel_rfl) rfl rfl ?_
  unfold slices_ContainsFunc_LMesh_Mesh_i_ValidWorks_1_m at h0
  refine sq [0] ?_
  refine pa ?_
  refine nx ?_
  refine sq [0,1,2,3,4] ?_
  refine pm ?_
  refine rp rfl w0 rfl (pu_move (r := .fn _ _) rfl) ?_
  obtain ⟨v1, hv1, h0⟩ := bnd h0
  refine rs rfl w0 rfl (c_call 3 (slices_IndexFunc_LMesh_Mesh_i_ValidWorks_1_c hv1) rfl rfl rfl) ?_
  refine rp rfl w0 rfl (pu_geq rfl rfl) ?_
  refine pa ?_
  refine nx ?_
  refine aw_ret ?_
  cases h0
  exact ret0_ (rs := [.tmp 4]) rfl

theorem i_ValidWorks_c {p0 : Works_} {r : Bool} (h0 : i_ValidWorks_m p0 = some r) : FnC Tryz.prog 198 [] [.agg [.d (.sl (List.map cArbor_ p0.Arbors)), .d (.sl (List.map cMesh_ p0.Meshes))]] [] (.d (.v (.bool r))) := by
  refine fnc_intro (T := tt) (N := 67) tok Tryz.func198 rfl rfl (by kernel_rfl) rfl rfl ?_
  unfold i_ValidWorks_m at h0
  refine sq [0,1] ?_
  refine rs rfl w0 rfl (st_box 3 (cs := _ :: _) rfl rfl rfl) ?_
  refine pa ?_
  refine nx ?_
  refine aw_seq ?_
  obtain ⟨v1, h1, h0⟩ := bnd h0
  refine aw_cut ⟨updA (updA ((fun _ => .dead)) 1 (.ptr 3 0 1 0 0)) 18 (.d (.v (.bool v1))), lks [.no, .no, .no, .live [⟨43, 2, .av [[.d (.sl (List.map cArbor_ p0.Arbors)), .d (.sl (List.map cMesh_ p0.Meshes))]]⟩]]⟩ ?_ ?_
  refine sr [0,1,2,3,4,5,6,7,8,9] ?_
  refine fa tok ?_
  refine ld tok ?_
  refine rp rfl w0 rfl (pu_len_map tok rfl rfl rfl) ?_
  refine rp rfl w0 rfl (pu_gtr rfl rfl) ?_
  refine pm ?_
  refine ra_if (u := 13) h1 rfl (fun hc h1 => ?_) (fun hc h1 => ?_)
  iterate 4 refine k1 ?_
  refine pkt ?_
  refine nx ?_
  cases h1
  exact wk [0, 1, 2, 3]
  refine fa1 tok ?_
  refine ld1 tok ?_
  refine rp rfl (w1 rfl rfl rfl) rfl (pu_len_map tok rfl rfl rfl) ?_
  refine rp rfl (w1 rfl rfl rfl) rfl (pu_gtr rfl rfl) ?_
  refine pkf ?_
  refine nx ?_
  cases h1
  exact wk [0, 1, 2, 3]
  refine aw_ifB h0 rfl (fun hc h0 => ?_) (fun hc h0 => ?_)
  refine sq [0] ?_
  refine pa ?_
  refine nx ?_
  refine aw_ret ?_
  refine then_r ?_
  cases h0
  exact ret0_ (rs := [.tmp 2]) rfl
  refine sk ?_
  obtain ⟨v20x, h1, h0⟩ := bnd h0
  refine aw_cutE v20x (fun v20 => ⟨updA ((fun _ => .dead)) 1 (.ptr 3 0 1 0 0), lks [.no, .no, .no, .live [⟨43, 2, .av [[.d (.sl (List.map cArbor_ p0.Arbors)), .d (.sl (List.map cMesh_ p0.Meshes))]]⟩]]⟩) ?_ ?_
  refine sq [0,1,2,3] ?_
  refine fa tok ?_
  refine ld tok ?_
  refine rp rfl w0 rfl (pu_len_map tok rfl rfl rfl) ?_
  refine pm ?_
  refine nx ?_
  refine aw_block ?_
  refine aw_loopM (fun s11 => ⟨updA (updA (updA (updA ((fun _ => .dead)) 1 (.ptr 3 0 1 0 0)) 20 (.d (.sl (List.map cArbor_ p0.Arbors)))) 21 (.d (.v (.int .i64 (p0.Arbors.length : Int))))) 22 (.d (.v (.int .i64 s11))), lks [.no, .no, .no, .live [⟨43, 2, .av [[.d (.sl (List.map cArbor_ p0.Arbors)), .d (.sl (List.map cMesh_ p0.Meshes))]]⟩]]⟩) h1 ?_ (fun s11 y h2 => ?_)
  exact wk [0, 1, 2, 3]
  refine sq [0] ?_
  refine rp rfl w0 rfl (pu_lss rfl rfl) ?_
  refine nx ?_
  refine aw_seq ?_
  refine aw_if h2 rfl (fun hc h2 => ?_) (fun hc h2 => ?_)
  refine sk ?_
  obtain ⟨v19x, h3, h2⟩ := bnd h2
  refine aw_cutE v19x (fun v19 => ⟨updA (updA (updA (updA ((fun _ => .dead)) 1 (.ptr 3 0 1 0 0)) 20 (.d (.sl (List.map cArbor_ p0.Arbors)))) 21 (.d (.v (.int .i64 (p0.Arbors.length : Int))))) 22 (.d (.v (.int .i64 s11))), lks [.no, .no, .no, .live [⟨43, 2, .av [[.d (.sl (List.map cArbor_ p0.Arbors)), .d (.sl (List.map cMesh_ p0.Meshes))]]⟩]]⟩) ?_ ?_
  refine aw_block ?_
  refine sq [0,1,2,3,4,5] ?_
  refine pm ?_
  obtain ⟨v12, hv12, h3⟩ := bnd h3
  refine rp rfl w0 rfl (sl_ix tok hv12 rfl rfl rfl rfl rfl rfl) ?_
  refine rp rfl w0 rfl (pu_load_refN tok rfl rfl rfl (by repeat (first | exact SegD.z _ | apply SegD.t))) ?_
  refine rs rfl w0 rfl (st_alloc 4 (cs := [.d (.v (.string (⟨#[]⟩ : ByteArray))), .d (.v (.slice none 0 0))]) tok rfl rfl rfl) ?_
  refine pa ?_
  refine rw0 rfl w0 (bx_st (cs := _ :: _) tok rfl rfl rfl rfl rfl rfl rfl) ?_
  refine nx ?_
  refine aw_seq ?_
  refine sq [0,1,2] ?_
  refine rl rfl w0 rfl (bx_ldN tok rfl rfl rfl rfl) ?_
  obtain ⟨v13, hv13, h3⟩ := bnd h3
  refine rs rfl w0 rfl (c_call 5 (i_validArbor_c hv13) rfl rfl rfl) ?_
  refine rp rfl w0 rfl (pu_not rfl) ?_
  refine nx ?_
  refine aw_ifB h3 rfl (fun hc h3 => ?_) (fun hc h3 => ?_)
  refine sq [0] ?_
  refine pa ?_
  refine nx ?_
  refine aw_ret ?_
  refine then_r ?_
  refine block_r ?_
  cases h3
  replace h2 := orE_s h2
  refine then_r ?_
  cases h2
  refine loop_r ⟨_, rfl, fun e => ?_⟩
  subst e
  refine block_r ?_
  replace h0 := orE_s h0
  refine then_r ?_
  cases h0
  exact ret0_ (rs := [.tmp 2]) rfl
  refine sk ?_
  refine sq [0,1,2,3,4,5] ?_
  refine fa tok ?_
  refine ld tok ?_
  refine pm ?_
  obtain ⟨hq14, h3⟩ := chk_e h3
  refine rp rfl w0 rfl (pu_lsub tok hq14 rfl (.inl ⟨rfl, rfl⟩) (.inr ⟨_, _, rfl, rfl⟩) rfl rfl rfl (fun _ => rfl)) ?_
  refine rp rfl w0 rfl (pu_len_map tok rfl rfl rfl) ?_
  refine pm ?_
  refine nx ?_
  refine aw_block ?_
  refine aw_loopM (fun s17 => ⟨updA (updA (updA (updA (updA (updA (updA (updA ((fun _ => .dead)) 1 (.ptr 3 0 1 0 0)) 4 (.ptr 4 0 1 0 0)) 20 (.d (.sl (List.map cArbor_ p0.Arbors)))) 21 (.d (.v (.int .i64 (p0.Arbors.length : Int))))) 22 (.d (.v (.int .i64 s11)))) 33 (.d (.sl (List.map cArbor_ (subL p0.Arbors (0 : Int) s11))))) 34 (.d (.v (.int .i64 ((subL p0.Arbors (0 : Int) s11).length : Int))))) 35 (.d (.v (.int .i64 s17))), lks [.no, .no, .no, .live [⟨43, 2, .av [[.d (.sl (List.map cArbor_ p0.Arbors)), .d (.sl (List.map cMesh_ p0.Meshes))]]⟩], .live [⟨213, 2, .av [[.d (.v (.string v12.Name)), .d (.sl (List.map cI v12.Wheels))]]⟩]]⟩) h3 ?_ (fun s17 y h4 => ?_)
  exact wk [0, 1, 2, 3, 4]
  refine sq [0] ?_
  refine rp rfl w0 rfl (pu_lss rfl rfl) ?_
  refine nx ?_
  refine aw_seq ?_
  refine aw_if h4 rfl (fun hc h4 => ?_) (fun hc h4 => ?_)
  refine sk ?_
  refine aw_seq ?_
  refine aw_block ?_
  refine sq [0,1,2,3] ?_
  obtain ⟨v18, hv18, h4⟩ := bnd h4
  refine rp rfl w0 rfl (sl_ix tok hv18 rfl rfl rfl rfl rfl rfl) ?_
  refine rp rfl w0 rfl (pu_load_refN tok rfl rfl rfl (by repeat (first | exact SegD.z _ | apply SegD.t))) ?_
  refine rs rfl w0 rfl (st_alloc 5 (cs := [.d (.v (.string (⟨#[]⟩ : ByteArray))), .d (.v (.slice none 0 0))]) tok rfl rfl rfl) ?_
  refine rw0 rfl w0 (bx_st (cs := _ :: _) tok rfl rfl rfl rfl rfl rfl rfl) ?_
  refine nx ?_
  refine sq [0,1,2,3,4] ?_
  refine fa tok ?_
  refine ld tok ?_
  refine fa tok ?_
  refine ld tok ?_
  refine rp rfl w0 rfl (pu_seql rfl rfl) ?_
  refine nx ?_
  refine aw_if h4 rfl (fun hc h4 => ?_) (fun hc h4 => ?_)
  refine sq [0] ?_
  refine pa ?_
  refine nx ?_
  refine aw_ret ?_
  refine block_r ?_
  refine then_r ?_
  cases h4
  refine loop_r ⟨_, rfl, fun e => ?_⟩
  subst e
  refine block_r ?_
  refine block_r ?_
  replace h2 := orE_s h2
  refine then_r ?_
  cases h2
  refine loop_r ⟨_, rfl, fun e => ?_⟩
  subst e
  refine block_r ?_
  replace h0 := orE_s h0
  refine then_r ?_
  cases h0
  exact ret0_ (rs := [.tmp 2]) rfl
  refine aw_skip ?_
  refine block_n ?_
  refine then_n ?_
  refine sr [0,1] ?_
  refine rp rfl w0 rfl (pw_add rfl rfl) ?_
  refine pm ?_
  refine ra_nil ?_
  refine loop_n ?_
  cases h4
  refine ⟨_, rfl, ?_⟩
  exact wk [0, 1, 2, 3, 4]
  refine aw_exit ?_
  refine then_e ?_
  cases h4
  refine loop_x ⟨_, rfl, fun e => ?_⟩
  subst e
  refine block_hit ?_
  refine block_n ?_
  refine then_n ?_
  refine ⟨_, rfl, ?_⟩
  exact wk [0, 1, 2, 3]
  rintro v19 rfl
  replace h2 := orE_f h2
  refine sr [0,1] ?_
  refine rp rfl w0 rfl (pw_add rfl rfl) ?_
  refine pm ?_
  refine ra_nil ?_
  refine loop_n ?_
  cases h2
  refine ⟨_, rfl, ?_⟩
  exact wk [0, 1, 2, 3]
  refine aw_exit ?_
  refine then_e ?_
  cases h2
  refine loop_x ⟨_, rfl, fun e => ?_⟩
  subst e
  refine block_hit ?_
  refine then_n ?_
  refine ⟨_, rfl, ?_⟩
  exact wk [0, 1, 2, 3]
  rintro v20 rfl
  replace h0 := orE_f h0
  obtain ⟨v33x, h1, h0⟩ := bnd h0
  refine aw_cutE v33x (fun v33 => ⟨(fun _ => .dead), lks [.no, .no, .no]⟩) ?_ ?_
  refine sq [0,1,2,3] ?_
  refine fa tok ?_
  refine ld tok ?_
  refine rp rfl w0 rfl (pu_len_map tok rfl rfl rfl) ?_
  refine pm ?_
  refine nx ?_
  refine aw_block ?_
  refine aw_loopM (fun s27 => ⟨updA (updA (updA (updA ((fun _ => .dead)) 1 (.ptr 3 0 1 0 0)) 47 (.d (.sl (List.map cMesh_ p0.Meshes)))) 48 (.d (.v (.int .i64 (p0.Meshes.length : Int))))) 49 (.d (.v (.int .i64 s27))), lks [.no, .no, .no, .live [⟨43, 2, .av [[.d (.sl (List.map cArbor_ p0.Arbors)), .d (.sl (List.map cMesh_ p0.Meshes))]]⟩]]⟩) h1 ?_ (fun s27 y h2 => ?_)
  exact wk [0, 1, 2, 3]
  refine sq [0] ?_
  refine rp rfl w0 rfl (pu_lss rfl rfl) ?_
  refine nx ?_
  refine aw_seq ?_
  refine aw_if h2 rfl (fun hc h2 => ?_) (fun hc h2 => ?_)
  refine sk ?_
  refine aw_seq ?_
  refine aw_block ?_
  refine sq [0,1,2,3,4,5] ?_
  refine pm ?_
  obtain ⟨v28, hv28, h2⟩ := bnd h2
  refine rp rfl w0 rfl (sl_ix tok hv28 rfl rfl rfl rfl rfl rfl) ?_
  refine rp rfl w0 rfl (pu_load_refN tok rfl rfl rfl (by repeat (first | exact SegD.z _ | apply SegD.t))) ?_
  refine rs rfl w0 rfl (st_alloc 4 (cs := [.d (.v (.int .i64 0)), .d (.v (.int .i64 0)), .d (.v (.int .i64 0)), .d (.v (.int .i64 0))]) tok rfl rfl rfl) ?_
  refine pa ?_
  refine rw0 rfl w0 (bx_st (cs := _ :: _) tok rfl rfl rfl rfl rfl rfl rfl) ?_
  refine nx ?_
  obtain ⟨v32, h3, h2⟩ := bnd h2
  refine aw_cut ⟨updA (updA (updA (updA (updA ((fun _ => .dead)) 1 (.ptr 3 0 1 0 0)) 47 (.d (.sl (List.map cMesh_ p0.Meshes)))) 48 (.d (.v (.int .i64 (p0.Meshes.length : Int))))) 49 (.d (.v (.int .i64 s27)))) 65 (.d (.v (.bool v32))), lks [.no, .no, .no, .live [⟨43, 2, .av [[.d (.sl (List.map cArbor_ p0.Arbors)), .d (.sl (List.map cMesh_ p0.Meshes))]]⟩]]⟩ ?_ ?_
  refine sr [0,1,2,3,4,5,6,7,8,9,10,11] ?_
  refine rl rfl w0 rfl (bx_ldN tok rfl rfl rfl rfl) ?_
  refine rl rfl w0 rfl (bx_ldN tok rfl rfl rfl rfl) ?_
  obtain ⟨v29, hv29, h3⟩ := bnd h3
  refine rs rfl w0 rfl (c_call 5 (i_joins_c hv29) rfl rfl rfl) ?_
  refine rp rfl w0 rfl (pu_not rfl) ?_
  refine pm ?_
  refine ra_ifB (u := 58) h3 rfl (fun hc h3 => ?_) (fun hc h3 => ?_)
  iterate 6 refine k1 ?_
  refine pkt ?_
  refine nx ?_
  cases h3
  exact wk [0, 1, 2, 3]
  refine fa1 tok ?_
  refine ld1 tok ?_
  refine pm1 ?_
  obtain ⟨hq30, h3⟩ := chk_e h3
  refine rp rfl (w1 rfl rfl rfl) rfl (pu_lsub tok hq30 rfl (.inl ⟨rfl, rfl⟩) (.inr ⟨_, _, rfl, rfl⟩) rfl rfl rfl (fun _ => rfl)) ?_
  refine rp rfl (w1 rfl rfl rfl) rfl (pu_func rfl) ?_
  obtain ⟨v31, hv31, h3⟩ := bnd h3
  refine rs rfl (w1 rfl rfl rfl) rfl (c_callV 5 (slices_ContainsFunc_LMesh_Mesh_i_ValidWorks_1_c hv31) rfl rfl) ?_
  refine pkf ?_
  refine nx ?_
  cases h3
  exact wk [0, 1, 2, 3]
  refine aw_ifB h2 rfl (fun hc h2 => ?_) (fun hc h2 => ?_)
  refine sq [0] ?_
  refine pa ?_
  refine nx ?_
  refine aw_ret ?_
  refine block_r ?_
  refine then_r ?_
  cases h2
  refine loop_r ⟨_, rfl, fun e => ?_⟩
  subst e
  refine block_r ?_
  replace h0 := orE_s h0
  refine then_r ?_
  cases h0
  exact ret0_ (rs := [.tmp 2]) rfl
  refine aw_skip ?_
  refine block_n ?_
  refine then_n ?_
  refine sr [0,1] ?_
  refine rp rfl w0 rfl (pw_add rfl rfl) ?_
  refine pm ?_
  refine ra_nil ?_
  refine loop_n ?_
  cases h2
  refine ⟨_, rfl, ?_⟩
  exact wk [0, 1, 2, 3]
  refine aw_exit ?_
  refine then_e ?_
  cases h2
  refine loop_x ⟨_, rfl, fun e => ?_⟩
  subst e
  refine block_hit ?_
  refine then_n ?_
  refine ⟨_, rfl, ?_⟩
  exact wk [0, 1, 2]
  rintro v33 rfl
  replace h0 := orE_f h0
  refine sq [0] ?_
  refine pa ?_
  refine nx ?_
  refine aw_ret ?_
  cases h0
  exact ret0_ (rs := [.tmp 2]) rfl

theorem i_ValidCalendar_1_c {p0 : Month_} {p1 : Month_} {r : Bool} (h0 : i_ValidCalendar_1_m p0 p1 = some r) : FnC Tryz.prog 225 [] [.agg [.d (.v (.string p0.Name)), .d (.v (.int .i64 p0.Days)), .d (.v (.int .i64 p0.Leap))], .ref (cMonth_ p1)] [] (.d (.v (.bool r))) := by
  refine fnc_intro (T := tt) (N := 9) tok Tryz.func225 rfl rfl (by kernel_rfl) rfl rfl ?_
  unfold i_ValidCalendar_1_m at h0
  refine sq [0,1] ?_
  refine rs rfl w0 rfl (st_box 3 (cs := _ :: _) rfl rfl rfl) ?_
  refine pa ?_
  refine nx ?_
  refine sq [0,1,2,3,4,5] ?_
  refine fa tok ?_
  refine ld tok ?_
  refine fr tok ?_
  refine lr tok ?_
  refine rp rfl w0 rfl (pu_seql rfl rfl) ?_
  refine pa ?_
  refine nx ?_
  refine aw_ret ?_
  cases h0
  exact ret0_ (rs := [.tmp 3]) rfl

theorem slices_IndexFunc_LMonth_Month_i_ValidCalendar_1_c {p0 : List Month_} {p1_0 : Month_} {r : Int} (h0 : slices_IndexFunc_LMonth_Month_i_ValidCalendar_1_m p0 p1_0 = some r) : FnC Tryz.prog 249 [] [.d (.sl (List.map cMonth_ p0)), .fn 225 [.ref (cMonth_ p1_0)]] [] (.d (.v (.int .i64 r))) := by
  refine fnc_intro (T := tt) (N := 19) tok Tryz.func249 rfl rfl (by kernel_rfl) rfl rfl ?_
  unfold slices_IndexFunc_LMonth_Month_i_ValidCalendar_1_m at h0
  refine sq [0] ?_
  refine pa ?_
  refine nx ?_
  obtain ⟨v7x, h1, h0⟩ := bnd h0
  refine aw_cutE v7x (fun v7 => ⟨(fun _ => .dead), lks [.no, .no, .no]⟩) ?_ ?_
  refine sq [0,1,2] ?_
  refine pm ?_
  refine rp rfl w0 rfl (pu_len_map tok rfl rfl rfl) ?_
  refine pm ?_
  refine nx ?_
  refine aw_block ?_
  refine aw_loopM (fun s4 => ⟨updA (updA (updA (updA ((fun _ => .dead)) 0 (.d (.sl (List.map cMonth_ p0)))) 1 (.fn 225 [.ref (cMonth_ p1_0)])) 7 (.d (.v (.int .i64 (p0.length : Int))))) 8 (.d (.v (.int .i64 s4))), lks [.no, .no, .no]⟩) h1 ?_ (fun s4 y h2 => ?_)
  exact wk [0, 1, 2]
  refine sq [0] ?_
  refine rp rfl w0 rfl (pu_lss rfl rfl) ?_
  refine nx ?_
  refine aw_seq ?_
  refine aw_if h2 rfl (fun hc h2 => ?_) (fun hc h2 => ?_)
  refine sk ?_
  refine aw_seq ?_
  refine aw_block ?_
  refine sq [0,1] ?_
  refine pm ?_
  refine pa ?_
  refine nx ?_
  refine sq [0,1,2,3,4,5] ?_
  refine rp rfl w0 rfl (pu_move (r := .fn _ _) rfl) ?_
  refine pm ?_
  refine pm ?_
  obtain ⟨v5, hv5, h2⟩ := bnd h2
  refine rp rfl w0 rfl (sl_ix tok hv5 rfl rfl rfl rfl rfl rfl) ?_
  refine rp rfl w0 rfl (pu_load_refN tok rfl rfl rfl (by repeat (first | exact SegD.z _ | apply SegD.t))) ?_
  obtain ⟨v6, hv6, h2⟩ := bnd h2
  refine rs rfl w0 rfl (c_call 3 (i_ValidCalendar_1_c hv6) rfl rfl rfl) ?_
  refine nx ?_
  refine aw_ifB h2 rfl (fun hc h2 => ?_) (fun hc h2 => ?_)
  refine sq [0,1] ?_
  refine pm ?_
  refine pa ?_
  refine nx ?_
  refine aw_ret ?_
  refine block_r ?_
  refine then_r ?_
  cases h2
  refine loop_r ⟨_, rfl, fun e => ?_⟩
  subst e
  refine block_r ?_
  replace h0 := orE_s h0
  refine then_r ?_
  cases h0
  exact ret0_ (rs := [.tmp 4]) rfl
  refine aw_skip ?_
  refine block_n ?_
  refine then_n ?_
  refine sr [0,1] ?_
  refine rp rfl w0 rfl (pw_add rfl rfl) ?_
  refine pm ?_
  refine ra_nil ?_
  refine loop_n ?_
  cases h2
  refine ⟨_, rfl, ?_⟩
  exact wk [0, 1, 2]
  refine aw_exit ?_
  refine then_e ?_
  cases h2
  refine loop_x ⟨_, rfl, fun e => ?_⟩
  subst e
  refine block_hit ?_
  refine then_n ?_
  refine ⟨_, rfl, ?_⟩
  exact wk [0, 1, 2]
  rintro v7 rfl
  replace h0 := orE_f h0
  refine sq [0] ?_
  refine pa ?_
  refine nx ?_
  refine aw_ret ?_
  cases h0
  exact ret0_ (rs := [.tmp 4]) rfl

theorem slices_ContainsFunc_LMonth_Month_i_ValidCalendar_1_c {p0 : List Month_} {p1_0 : Month_} {r : Bool} (h0 : slices_ContainsFunc_LMonth_Month_i_ValidCalendar_1_m p0 p1_0 = some r) : FnC Tryz.prog 224 [] [.d (.sl (List.map cMonth_ p0)), .fn 225 [.ref (cMonth_ p1_0)]] [] (.d (.v (.bool r))) := by
  refine fnc_intro (T := tt) (N := 9) tok Tryz.func224 rfl rfl (by kernel_rfl) rfl rfl ?_
  unfold slices_ContainsFunc_LMonth_Month_i_ValidCalendar_1_m at h0
  refine sq [0] ?_
  refine pa ?_
  refine nx ?_
  refine sq [0,1,2,3,4] ?_
  refine pm ?_
  refine rp rfl w0 rfl (pu_move (r := .fn _ _) rfl) ?_
  obtain ⟨v1, hv1, h0⟩ := bnd h0
  refine rs rfl w0 rfl (c_call 3 (slices_IndexFunc_LMonth_Month_i_ValidCalendar_1_c hv1) rfl rfl rfl) ?_
  refine rp rfl w0 rfl (pu_geq rfl rfl) ?_
  refine pa ?_
  refine nx ?_
  refine aw_ret ?_
  cases h0
  exact ret0_ (rs := [.tmp 4]) rfl

theorem i_gcd_c {p0 : Int} {p1 : Int} {r : Int} (h0 : i_gcd_m p0 p1 = some r) : FnC Tryz.prog 250 [] [.d (.v (.int .i64 p0)), .d (.v (.int .i64 p1))] [] (.d (.v (.int .i64 r))) := by
  refine fnc_intro (T := tt) (N := 16) tok Tryz.func250 rfl rfl (by kernel_rfl) rfl rfl ?_
  unfold i_gcd_m at h0
  refine sq [0] ?_
  refine pa ?_
  refine nx ?_
  obtain ⟨v5, h1, h0⟩ := bnd h0
  refine aw_cut ⟨updA ((fun _ => .dead)) 0 (.d (.v (.int .i64 v5))), lks [.no, .no, .no]⟩ ?_ ?_
  refine aw_block ?_
  refine aw_loopM (fun s3 => ⟨updA (updA ((fun _ => .dead)) 0 (.d (.v (.int .i64 s3.1)))) 1 (.d (.v (.int .i64 s3.2))), lks [.no, .no, .no]⟩) h1 ?_ (fun s3 y h2 => ?_)
  exact wk [0, 1, 2]
  refine aw_seq ?_
  refine sq [0,1] ?_
  refine pm ?_
  refine rp rfl w0 rfl (pu_neq rfl rfl) ?_
  refine nx ?_
  refine aw_if h2 rfl (fun hc h2 => ?_) (fun hc h2 => ?_)
  refine sk ?_
  refine aw_block ?_
  refine aw_region_draw (is := [0, 1, 2, 3, 4, 5]) [0, 0, 0, 6, 3, 31] follows (by kernel_rfl) ?_
  iterate 3 refine tpm ?_
  obtain ⟨hq4, h2⟩ := chk_e h2
  refine rt_p rfl w0 rfl (pu_remw rfl rfl hq4) ?_
  refine tpa ?_
  refine tpa ?_
  refine rt_nil ?_
  refine ⟨by kernel_rfl, ?_⟩
  refine block_n ?_
  refine loop_n ?_
  cases h2
  refine ⟨_, rfl, ?_⟩
  exact wk [0, 1, 2]
  refine aw_exit ?_
  refine then_e ?_
  cases h2
  refine loop_x ⟨_, rfl, fun e => ?_⟩
  subst e
  refine block_hit ?_
  refine then_n ?_
  exact wk [0, 1, 2]
  refine aw_seq ?_
  refine sq [0,1] ?_
  refine pm ?_
  refine rp rfl w0 rfl (pu_lss rfl rfl) ?_
  refine nx ?_
  refine aw_if h0 rfl (fun hc h0 => ?_) (fun hc h0 => ?_)
  refine sq [0,1,2] ?_
  refine pm ?_
  refine rp rfl w0 rfl (pw_neg rfl) ?_
  refine pa ?_
  refine nx ?_
  refine aw_ret ?_
  refine then_r ?_
  cases h0
  exact ret0_ (rs := [.tmp 4]) rfl
  refine sk ?_
  refine sq [0,1] ?_
  refine pm ?_
  refine pa ?_
  refine nx ?_
  refine aw_ret ?_
  cases h0
  exact ret0_ (rs := [.tmp 4]) rfl

theorem i_cycleYears_c {p0 : List LeapRule_} {r : Int} (h0 : i_cycleYears_m p0 = some r) : FnC Tryz.prog 226 [] [.d (.sl (List.map cLeapRule_ p0))] [] (.d (.v (.int .i64 r))) := by
  refine fnc_intro (T := tt) (N := 25) tok Tryz.func226 rfl rfl (by kernel_rfl) rfl rfl ?_
  unfold i_cycleYears_m at h0
  refine sq [0] ?_
  refine pa ?_
  refine nx ?_
  refine sq [0] ?_
  refine pa ?_
  refine nx ?_
  obtain ⟨v11, h1, h0⟩ := bnd h0
  refine aw_cut ⟨updA ((fun _ => .dead)) 3 (.d (.v (.int .i64 v11))), lks [.no, .no, .no]⟩ ?_ ?_
  refine sq [0,1,2] ?_
  refine pm ?_
  refine rp rfl w0 rfl (pu_len_map tok rfl rfl rfl) ?_
  refine pm ?_
  refine nx ?_
  refine aw_block ?_
  refine aw_loopM (fun s6 => ⟨updA (updA (updA (updA ((fun _ => .dead)) 3 (.d (.v (.int .i64 s6.1)))) 6 (.d (.sl (List.map cLeapRule_ p0)))) 7 (.d (.v (.int .i64 (p0.length : Int))))) 8 (.d (.v (.int .i64 s6.2))), lks [.no, .no, .no]⟩) h1 ?_ (fun s6 y h2 => ?_)
  exact wk [0, 1, 2]
  refine sq [0] ?_
  refine rp rfl w0 rfl (pu_lss rfl rfl) ?_
  refine nx ?_
  refine aw_seq ?_
  refine aw_if h2 rfl (fun hc h2 => ?_) (fun hc h2 => ?_)
  refine sk ?_
  obtain ⟨v10, h3, h2⟩ := bnd h2
  refine aw_cut ⟨updA (updA (updA (updA ((fun _ => .dead)) 3 (.d (.v (.int .i64 v10)))) 6 (.d (.sl (List.map cLeapRule_ p0)))) 7 (.d (.v (.int .i64 (p0.length : Int))))) 8 (.d (.v (.int .i64 s6.2))), lks [.no, .no, .no]⟩ ?_ ?_
  refine aw_block ?_
  refine sq [0,1,2,3] ?_
  obtain ⟨v7, hv7, h3⟩ := bnd h3
  refine rp rfl w0 rfl (sl_ix tok hv7 rfl rfl rfl rfl rfl rfl) ?_
  refine rp rfl w0 rfl (pu_load_refN tok rfl rfl rfl (by repeat (first | exact SegD.z _ | apply SegD.t))) ?_
  refine rs rfl w0 rfl (st_alloc 3 (cs := [.d (.v (.int .i64 0)), .d (.v (.int .i64 0)), .d (.v (.bool false))]) tok rfl rfl rfl) ?_
  refine rw0 rfl w0 (bx_st (cs := _ :: _) tok rfl rfl rfl rfl rfl rfl rfl) ?_
  refine nx ?_
  refine sq [0,1] ?_
  refine pm ?_
  refine rp rfl w0 rfl (pu_leq rfl rfl) ?_
  refine nx ?_
  refine aw_if h3 rfl (fun hc h3 => ?_) (fun hc h3 => ?_)
  refine aw_region_draw (is := [0, 1, 2, 3, 6, 7, 4, 5, 8, 9]) [0, 0, 0, 4, 14, 31, 0, 64, 255, 511] follows (by kernel_rfl) ?_
  refine tpm ?_
  refine tpm ?_
  refine rt_lk rfl w0 rfl (bx_fa tok rfl rfl rfl rfl rfl rfl rfl) rfl rfl rfl ?_
  refine rt_lk rfl w0 rfl (bx_ld1 tok rfl rfl rfl rfl rfl) rfl rfl rfl ?_
  refine rt_lk rfl w0 rfl (bx_fa tok rfl rfl rfl rfl rfl rfl rfl) rfl rfl rfl ?_
  refine rt_lk rfl w0 rfl (bx_ld1 tok rfl rfl rfl rfl rfl) rfl rfl rfl ?_
  obtain ⟨v8, hv8, h3⟩ := bnd h3
  refine rt_c rfl w0 rfl (b_call 4 (i_gcd_c hv8) rfl rfl rfl) ?_
  obtain ⟨hq9, h3⟩ := chk_e h3
  refine rt_p rfl w0 rfl (pw_quo rfl rfl hq9) ?_
  refine rt_p rfl w0 rfl (pw_mul rfl rfl) ?_
  refine tpa ?_
  refine rt_nil ?_
  refine ⟨by kernel_rfl, ?_⟩
  refine block_n ?_
  refine then_n ?_
  cases h3
  exact wk [0, 1, 2]
  refine aw_skip ?_
  refine block_n ?_
  refine then_n ?_
  cases h3
  exact wk [0, 1, 2]
  refine sr [0,1] ?_
  refine rp rfl w0 rfl (pw_add rfl rfl) ?_
  refine pm ?_
  refine ra_nil ?_
  refine loop_n ?_
  cases h2
  refine ⟨_, rfl, ?_⟩
  exact wk [0, 1, 2]
  refine aw_exit ?_
  refine then_e ?_
  cases h2
  refine loop_x ⟨_, rfl, fun e => ?_⟩
  subst e
  refine block_hit ?_
  refine then_n ?_
  exact wk [0, 1, 2]
  refine sq [0,1] ?_
  refine pm ?_
  refine pa ?_
  refine nx ?_
  refine aw_ret ?_
  cases h0
  exact ret0_ (rs := [.tmp 2]) rfl

theorem i_ValidCalendar_c {p0 : Calendar_} {r : Bool} (h0 : i_ValidCalendar_m p0 = some r) : FnC Tryz.prog 168 [] [.agg [.d (.v (.string p0.Name)), .d (.sl (List.map cMonth_ p0.Months)), .d (.sl (List.map cLeapRule_ p0.Rules)), .d (.v (.int .i64 p0.Week))]] [] (.d (.v (.bool r))) := by
  refine fnc_intro (T := tt) (N := 91) tok Tryz.func168 rfl rfl (by kernel_rfl) rfl rfl ?_
  unfold i_ValidCalendar_m at h0
  refine sq [0,1] ?_
  refine rs rfl w0 rfl (st_box 3 (cs := _ :: _) rfl rfl rfl) ?_
  refine pa ?_
  refine nx ?_
  refine aw_seq ?_
  obtain ⟨v3, h1, h0⟩ := bnd h0
  refine aw_cut ⟨updA (updA ((fun _ => .dead)) 1 (.ptr 3 0 1 0 0)) 34 (.d (.v (.bool v3))), lks [.no, .no, .no, .live [⟨47, 4, .av [[.d (.v (.string p0.Name)), .d (.sl (List.map cMonth_ p0.Months)), .d (.sl (List.map cLeapRule_ p0.Rules)), .d (.v (.int .i64 p0.Week))]]⟩]]⟩ ?_ ?_
  refine sr [0,1,2,3,4,5,6,7,8,9,10,11,12,13,14,15,16,17,18,19,20,21,22,23,24,25,26,27] ?_
  refine fa tok ?_
  refine ld tok ?_
  obtain ⟨v1, hv1, h1⟩ := bnd h1
  refine rs rfl w0 rfl (c_call 4 (i_IsName_c hv1) rfl rfl rfl) ?_
  refine rp rfl w0 rfl (pu_not rfl) ?_
  refine pm ?_
  refine ra_ifB (u := 11) h1 rfl (fun hc h1 => ?_) (fun hc h1 => ?_)
  iterate 4 refine k1 ?_
  refine pkt ?_
  refine pm ?_
  iterate 4 refine k1 ?_
  refine pkt ?_
  refine pm ?_
  iterate 4 refine k1 ?_
  refine pkt ?_
  refine pm ?_
  iterate 4 refine k1 ?_
  refine pkt ?_
  refine nx ?_
  cases h1
  exact wk [0, 1, 2, 3]
  refine fa1 tok ?_
  refine ld1 tok ?_
  refine rp rfl (w1 rfl rfl rfl) rfl (pu_len_map tok rfl rfl rfl) ?_
  refine rp rfl (w1 rfl rfl rfl) rfl (pu_lss rfl rfl) ?_
  refine pkf ?_
  refine pm ?_
  refine ra_if (u := 17) h1 rfl (fun hc h1 => ?_) (fun hc h1 => ?_)
  iterate 4 refine k1 ?_
  refine pkt ?_
  refine pm ?_
  iterate 4 refine k1 ?_
  refine pkt ?_
  refine pm ?_
  iterate 4 refine k1 ?_
  refine pkt ?_
  refine nx ?_
  cases h1
  exact wk [0, 1, 2, 3]
  refine fa1 tok ?_
  refine ld1 tok ?_
  refine rp rfl (w1 rfl rfl rfl) rfl (pu_len_map tok rfl rfl rfl) ?_
  refine rp rfl (w1 rfl rfl rfl) rfl (pu_gtr rfl rfl) ?_
  refine pkf ?_
  refine pm ?_
  refine ra_if (u := 23) h1 rfl (fun hc h1 => ?_) (fun hc h1 => ?_)
  iterate 4 refine k1 ?_
  refine pkt ?_
  refine pm ?_
  iterate 4 refine k1 ?_
  refine pkt ?_
  refine nx ?_
  cases h1
  exact wk [0, 1, 2, 3]
  refine fa1 tok ?_
  refine ld1 tok ?_
  refine rp rfl (w1 rfl rfl rfl) rfl (pu_len_map tok rfl rfl rfl) ?_
  refine rp rfl (w1 rfl rfl rfl) rfl (pu_gtr rfl rfl) ?_
  refine pkf ?_
  refine pm ?_
  refine ra_if (u := 29) h1 rfl (fun hc h1 => ?_) (fun hc h1 => ?_)
  iterate 4 refine k1 ?_
  refine pkt ?_
  refine nx ?_
  cases h1
  exact wk [0, 1, 2, 3]
  refine fa1 tok ?_
  refine ld1 tok ?_
  obtain ⟨v2, hv2, h1⟩ := bnd h1
  refine rs rfl (w1 rfl rfl rfl) rfl (c_call 4 (i_within_c hv2) rfl rfl rfl) ?_
  refine rp rfl (w1 rfl rfl rfl) rfl (pu_not rfl) ?_
  refine pkf ?_
  refine nx ?_
  cases h1
  exact wk [0, 1, 2, 3]
  refine aw_ifB h0 rfl (fun hc h0 => ?_) (fun hc h0 => ?_)
  refine sq [0] ?_
  refine pa ?_
  refine nx ?_
  refine aw_ret ?_
  refine then_r ?_
  cases h0
  exact ret0_ (rs := [.tmp 2]) rfl
  refine sk ?_
  obtain ⟨v20x, h1, h0⟩ := bnd h0
  refine aw_cutE v20x (fun v20 => ⟨updA ((fun _ => .dead)) 1 (.ptr 3 0 1 0 0), lks [.no, .no, .no, .live [⟨47, 4, .av [[.d (.v (.string p0.Name)), .d (.sl (List.map cMonth_ p0.Months)), .d (.sl (List.map cLeapRule_ p0.Rules)), .d (.v (.int .i64 p0.Week))]]⟩]]⟩) ?_ ?_
  refine sq [0,1,2,3] ?_
  refine fa tok ?_
  refine ld tok ?_
  refine rp rfl w0 rfl (pu_len_map tok rfl rfl rfl) ?_
  refine pm ?_
  refine nx ?_
  refine aw_block ?_
  refine aw_loopM (fun s12 => ⟨updA (updA (updA (updA ((fun _ => .dead)) 1 (.ptr 3 0 1 0 0)) 36 (.d (.sl (List.map cMonth_ p0.Months)))) 37 (.d (.v (.int .i64 (p0.Months.length : Int))))) 38 (.d (.v (.int .i64 s12))), lks [.no, .no, .no, .live [⟨47, 4, .av [[.d (.v (.string p0.Name)), .d (.sl (List.map cMonth_ p0.Months)), .d (.sl (List.map cLeapRule_ p0.Rules)), .d (.v (.int .i64 p0.Week))]]⟩]]⟩) h1 ?_ (fun s12 y h2 => ?_)
  exact wk [0, 1, 2, 3]
  refine sq [0] ?_
  refine rp rfl w0 rfl (pu_lss rfl rfl) ?_
  refine nx ?_
  refine aw_seq ?_
  refine aw_if h2 rfl (fun hc h2 => ?_) (fun hc h2 => ?_)
  refine sk ?_
  refine aw_seq ?_
  refine aw_block ?_
  refine sq [0,1,2,3,4,5] ?_
  refine pm ?_
  obtain ⟨v13, hv13, h2⟩ := bnd h2
  refine rp rfl w0 rfl (sl_ix tok hv13 rfl rfl rfl rfl rfl rfl) ?_
  refine rp rfl w0 rfl (pu_load_refN tok rfl rfl rfl (by repeat (first | exact SegD.z _ | apply SegD.t))) ?_
  refine rs rfl w0 rfl (st_alloc 4 (cs := [.d (.v (.string (⟨#[]⟩ : ByteArray))), .d (.v (.int .i64 0)), .d (.v (.int .i64 0))]) tok rfl rfl rfl) ?_
  refine pa ?_
  refine rw0 rfl w0 (bx_st (cs := _ :: _) tok rfl rfl rfl rfl rfl rfl rfl) ?_
  refine nx ?_
  refine aw_seq ?_
  obtain ⟨v17, h3, h2⟩ := bnd h2
  refine aw_cut ⟨updA (updA (updA (updA (updA (updA (updA ((fun _ => .dead)) 1 (.ptr 3 0 1 0 0)) 3 (.d (.v (.int .i64 s12)))) 4 (.ptr 4 0 1 0 0)) 36 (.d (.sl (List.map cMonth_ p0.Months)))) 37 (.d (.v (.int .i64 (p0.Months.length : Int))))) 38 (.d (.v (.int .i64 s12)))) 58 (.d (.v (.bool v17))), lks [.no, .no, .no, .live [⟨47, 4, .av [[.d (.v (.string p0.Name)), .d (.sl (List.map cMonth_ p0.Months)), .d (.sl (List.map cLeapRule_ p0.Rules)), .d (.v (.int .i64 p0.Week))]]⟩], .live [⟨147, 3, .av [[.d (.v (.string v13.Name)), .d (.v (.int .i64 v13.Days)), .d (.v (.int .i64 v13.Leap))]]⟩]]⟩ ?_ ?_
  refine sr [0,1,2,3,4,5,6,7,8,9,10,11,12,13,14,15] ?_
  refine fa tok ?_
  refine ld tok ?_
  obtain ⟨v14, hv14, h3⟩ := bnd h3
  refine rs rfl w0 rfl (c_call 5 (i_IsName_c hv14) rfl rfl rfl) ?_
  refine rp rfl w0 rfl (pu_not rfl) ?_
  refine pm ?_
  refine ra_ifB (u := 47) h3 rfl (fun hc h3 => ?_) (fun hc h3 => ?_)
  iterate 4 refine k1 ?_
  refine pkt ?_
  refine pm ?_
  iterate 4 refine k1 ?_
  refine pkt ?_
  refine nx ?_
  cases h3
  exact wk [0, 1, 2, 3, 4]
  refine fa1 tok ?_
  refine ld1 tok ?_
  obtain ⟨v15, hv15, h3⟩ := bnd h3
  refine rs rfl (w1 rfl rfl rfl) rfl (c_call 5 (i_within_c hv15) rfl rfl rfl) ?_
  refine rp rfl (w1 rfl rfl rfl) rfl (pu_not rfl) ?_
  refine pkf ?_
  refine pm ?_
  refine ra_ifB (u := 53) h3 rfl (fun hc h3 => ?_) (fun hc h3 => ?_)
  iterate 4 refine k1 ?_
  refine pkt ?_
  refine nx ?_
  cases h3
  exact wk [0, 1, 2, 3, 4]
  refine fa1 tok ?_
  refine ld1 tok ?_
  obtain ⟨v16, hv16, h3⟩ := bnd h3
  refine rs rfl (w1 rfl rfl rfl) rfl (c_call 5 (i_within_c hv16) rfl rfl rfl) ?_
  refine rp rfl (w1 rfl rfl rfl) rfl (pu_not rfl) ?_
  refine pkf ?_
  refine nx ?_
  cases h3
  exact wk [0, 1, 2, 3, 4]
  refine aw_ifB h2 rfl (fun hc h2 => ?_) (fun hc h2 => ?_)
  refine sq [0] ?_
  refine pa ?_
  refine nx ?_
  refine aw_ret ?_
  refine then_r ?_
  refine block_r ?_
  refine then_r ?_
  cases h2
  refine loop_r ⟨_, rfl, fun e => ?_⟩
  subst e
  refine block_r ?_
  replace h0 := orE_s h0
  refine then_r ?_
  cases h0
  exact ret0_ (rs := [.tmp 2]) rfl
  refine sk ?_
  refine sq [0,1,2,3,4,5] ?_
  refine fa tok ?_
  refine ld tok ?_
  refine pm ?_
  obtain ⟨hq18, h2⟩ := chk_e h2
  refine rp rfl w0 rfl (pu_lsub tok hq18 rfl (.inl ⟨rfl, rfl⟩) (.inr ⟨_, _, rfl, rfl⟩) rfl rfl rfl (fun _ => rfl)) ?_
  refine rp rfl w0 rfl (pu_func rfl) ?_
  obtain ⟨v19, hv19, h2⟩ := bnd h2
  refine rs rfl w0 rfl (c_callV 5 (slices_ContainsFunc_LMonth_Month_i_ValidCalendar_1_c hv19) rfl rfl) ?_
  refine nx ?_
  refine aw_ifB h2 rfl (fun hc h2 => ?_) (fun hc h2 => ?_)
  refine sq [0] ?_
  refine pa ?_
  refine nx ?_
  refine aw_ret ?_
  refine block_r ?_
  refine then_r ?_
  cases h2
  refine loop_r ⟨_, rfl, fun e => ?_⟩
  subst e
  refine block_r ?_
  replace h0 := orE_s h0
  refine then_r ?_
  cases h0
  exact ret0_ (rs := [.tmp 2]) rfl
  refine aw_skip ?_
  refine block_n ?_
  refine then_n ?_
  refine sr [0,1] ?_
  refine rp rfl w0 rfl (pw_add rfl rfl) ?_
  refine pm ?_
  refine ra_nil ?_
  refine loop_n ?_
  cases h2
  refine ⟨_, rfl, ?_⟩
  exact wk [0, 1, 2, 3]
  refine aw_exit ?_
  refine then_e ?_
  cases h2
  refine loop_x ⟨_, rfl, fun e => ?_⟩
  subst e
  refine block_hit ?_
  refine then_n ?_
  refine ⟨_, rfl, ?_⟩
  exact wk [0, 1, 2, 3]
  rintro v20 rfl
  replace h0 := orE_f h0
  obtain ⟨v31x, h1, h0⟩ := bnd h0
  refine aw_cutE v31x (fun v31 => ⟨updA ((fun _ => .dead)) 1 (.ptr 3 0 1 0 0), lks [.no, .no, .no, .live [⟨47, 4, .av [[.d (.v (.string p0.Name)), .d (.sl (List.map cMonth_ p0.Months)), .d (.sl (List.map cLeapRule_ p0.Rules)), .d (.v (.int .i64 p0.Week))]]⟩]]⟩) ?_ ?_
  refine sq [0,1,2,3] ?_
  refine fa tok ?_
  refine ld tok ?_
  refine rp rfl w0 rfl (pu_len_map tok rfl rfl rfl) ?_
  refine pm ?_
  refine nx ?_
  refine aw_block ?_
  refine aw_loopM (fun s26 => ⟨updA (updA (updA (updA ((fun _ => .dead)) 1 (.ptr 3 0 1 0 0)) 67 (.d (.sl (List.map cLeapRule_ p0.Rules)))) 68 (.d (.v (.int .i64 (p0.Rules.length : Int))))) 69 (.d (.v (.int .i64 s26))), lks [.no, .no, .no, .live [⟨47, 4, .av [[.d (.v (.string p0.Name)), .d (.sl (List.map cMonth_ p0.Months)), .d (.sl (List.map cLeapRule_ p0.Rules)), .d (.v (.int .i64 p0.Week))]]⟩]]⟩) h1 ?_ (fun s26 y h2 => ?_)
  exact wk [0, 1, 2, 3]
  refine sq [0] ?_
  refine rp rfl w0 rfl (pu_lss rfl rfl) ?_
  refine nx ?_
  refine aw_seq ?_
  refine aw_if h2 rfl (fun hc h2 => ?_) (fun hc h2 => ?_)
  refine sk ?_
  refine aw_seq ?_
  refine aw_block ?_
  refine sq [0,1,2,3] ?_
  obtain ⟨v27, hv27, h2⟩ := bnd h2
  refine rp rfl w0 rfl (sl_ix tok hv27 rfl rfl rfl rfl rfl rfl) ?_
  refine rp rfl w0 rfl (pu_load_refN tok rfl rfl rfl (by repeat (first | exact SegD.z _ | apply SegD.t))) ?_
  refine rs rfl w0 rfl (st_alloc 4 (cs := [.d (.v (.int .i64 0)), .d (.v (.int .i64 0)), .d (.v (.bool false))]) tok rfl rfl rfl) ?_
  refine rw0 rfl w0 (bx_st (cs := _ :: _) tok rfl rfl rfl rfl rfl rfl rfl) ?_
  refine nx ?_
  obtain ⟨v30, h3, h2⟩ := bnd h2
  refine aw_cut ⟨updA (updA (updA (updA (updA ((fun _ => .dead)) 1 (.ptr 3 0 1 0 0)) 67 (.d (.sl (List.map cLeapRule_ p0.Rules)))) 68 (.d (.v (.int .i64 (p0.Rules.length : Int))))) 69 (.d (.v (.int .i64 s26)))) 85 (.d (.v (.bool v30))), lks [.no, .no, .no, .live [⟨47, 4, .av [[.d (.v (.string p0.Name)), .d (.sl (List.map cMonth_ p0.Months)), .d (.sl (List.map cLeapRule_ p0.Rules)), .d (.v (.int .i64 p0.Week))]]⟩]]⟩ ?_ ?_
  refine sr [0,1,2,3,4,5,6,7,8,9,10,11,12] ?_
  refine fa tok ?_
  refine ld tok ?_
  obtain ⟨v28, hv28, h3⟩ := bnd h3
  refine rs rfl w0 rfl (c_call 5 (i_within_c hv28) rfl rfl rfl) ?_
  refine rp rfl w0 rfl (pu_not rfl) ?_
  refine pm ?_
  refine ra_ifB (u := 77) h3 rfl (fun hc h3 => ?_) (fun hc h3 => ?_)
  iterate 7 refine k1 ?_
  refine pkt ?_
  refine nx ?_
  cases h3
  exact wk [0, 1, 2, 3]
  refine fa1 tok ?_
  refine ld1 tok ?_
  refine fa1 tok ?_
  refine ld1 tok ?_
  refine rp rfl (w1 rfl rfl rfl) rfl (pw_sub rfl rfl) ?_
  obtain ⟨v29, hv29, h3⟩ := bnd h3
  refine rs rfl (w1 rfl rfl rfl) rfl (c_call 5 (i_within_c hv29) rfl rfl rfl) ?_
  refine rp rfl (w1 rfl rfl rfl) rfl (pu_not rfl) ?_
  refine pkf ?_
  refine nx ?_
  cases h3
  exact wk [0, 1, 2, 3]
  refine aw_ifB h2 rfl (fun hc h2 => ?_) (fun hc h2 => ?_)
  refine sq [0] ?_
  refine pa ?_
  refine nx ?_
  refine aw_ret ?_
  refine block_r ?_
  refine then_r ?_
  cases h2
  refine loop_r ⟨_, rfl, fun e => ?_⟩
  subst e
  refine block_r ?_
  replace h0 := orE_s h0
  refine then_r ?_
  cases h0
  exact ret0_ (rs := [.tmp 2]) rfl
  refine aw_skip ?_
  refine block_n ?_
  refine then_n ?_
  refine sr [0,1] ?_
  refine rp rfl w0 rfl (pw_add rfl rfl) ?_
  refine pm ?_
  refine ra_nil ?_
  refine loop_n ?_
  cases h2
  refine ⟨_, rfl, ?_⟩
  exact wk [0, 1, 2, 3]
  refine aw_exit ?_
  refine then_e ?_
  cases h2
  refine loop_x ⟨_, rfl, fun e => ?_⟩
  subst e
  refine block_hit ?_
  refine then_n ?_
  refine ⟨_, rfl, ?_⟩
  exact wk [0, 1, 2, 3]
  rintro v31 rfl
  replace h0 := orE_f h0
  refine sq [0,1,2,3,4] ?_
  refine fa tok ?_
  refine ld tok ?_
  obtain ⟨v32, hv32, h0⟩ := bnd h0
  refine rs rfl w0 rfl (c_call 4 (i_cycleYears_c hv32) rfl rfl rfl) ?_
  refine rp rfl w0 rfl (pu_leq rfl rfl) ?_
  refine pa ?_
  refine nx ?_
  refine aw_ret ?_
  cases h0
  exact ret0_ (rs := [.tmp 2]) rfl

theorem i_ValidCam_c {p0 : List Int} {r : Bool} (h0 : i_ValidCam_m p0 = some r) : FnC Tryz.prog 136 [] [.d (.sl (List.map cI p0))] [] (.d (.v (.bool r))) := by
  refine fnc_intro (T := tt) (N := 23) tok Tryz.func136 rfl rfl (by kernel_rfl) rfl rfl ?_
  unfold i_ValidCam_m at h0
  refine sq [0] ?_
  refine pa ?_
  refine nx ?_
  obtain ⟨v7x, h1, h0⟩ := bnd h0
  refine aw_cutE v7x (fun v7 => ⟨updA ((fun _ => .dead)) 0 (.d (.sl (List.map cI p0))), lks [.no, .no, .no]⟩) ?_ ?_
  refine sq [0,1,2] ?_
  refine pm ?_
  refine rp rfl w0 rfl (pu_len_map tok rfl rfl rfl) ?_
  refine pm ?_
  refine nx ?_
  refine aw_block ?_
  refine aw_loopM (fun s4 => ⟨updA (updA (updA (updA ((fun _ => .dead)) 0 (.d (.sl (List.map cI p0)))) 5 (.d (.sl (List.map cI p0)))) 6 (.d (.v (.int .i64 (p0.length : Int))))) 7 (.d (.v (.int .i64 s4))), lks [.no, .no, .no]⟩) h1 ?_ (fun s4 y h2 => ?_)
  exact wk [0, 1, 2]
  refine sq [0] ?_
  refine rp rfl w0 rfl (pu_lss rfl rfl) ?_
  refine nx ?_
  refine aw_seq ?_
  refine aw_if h2 rfl (fun hc h2 => ?_) (fun hc h2 => ?_)
  refine sk ?_
  refine aw_seq ?_
  refine aw_block ?_
  refine sq [0,1,2] ?_
  obtain ⟨v5, hv5, h2⟩ := bnd h2
  refine rp rfl w0 rfl (sl_ix tok hv5 rfl rfl rfl rfl rfl rfl) ?_
  refine lr tok ?_
  refine pa ?_
  refine nx ?_
  refine sq [0,1,2] ?_
  refine pm ?_
  obtain ⟨v6, hv6, h2⟩ := bnd h2
  refine rs rfl w0 rfl (c_call 3 (i_within_c hv6) rfl rfl rfl) ?_
  refine rp rfl w0 rfl (pu_not rfl) ?_
  refine nx ?_
  refine aw_ifB h2 rfl (fun hc h2 => ?_) (fun hc h2 => ?_)
  refine sq [0] ?_
  refine pa ?_
  refine nx ?_
  refine aw_ret ?_
  refine block_r ?_
  refine then_r ?_
  cases h2
  refine loop_r ⟨_, rfl, fun e => ?_⟩
  subst e
  refine block_r ?_
  replace h0 := orE_s h0
  refine then_r ?_
  cases h0
  exact ret0_ (rs := [.tmp 2]) rfl
  refine aw_skip ?_
  refine block_n ?_
  refine then_n ?_
  refine sr [0,1] ?_
  refine rp rfl w0 rfl (pw_add rfl rfl) ?_
  refine pm ?_
  refine ra_nil ?_
  refine loop_n ?_
  cases h2
  refine ⟨_, rfl, ?_⟩
  exact wk [0, 1, 2]
  refine aw_exit ?_
  refine then_e ?_
  cases h2
  refine loop_x ⟨_, rfl, fun e => ?_⟩
  subst e
  refine block_hit ?_
  refine then_n ?_
  refine ⟨_, rfl, ?_⟩
  exact wk [0, 1, 2]
  rintro v7 rfl
  replace h0 := orE_f h0
  refine sq [0,1,2,3,4,5,6,7,8] ?_
  refine pm ?_
  refine rp rfl w0 rfl (pu_len_map tok rfl rfl rfl) ?_
  refine rp rfl w0 rfl (pu_geq rfl rfl) ?_
  refine pm ?_
  refine ra_if (u := 18) h0 rfl (fun hc h0 => ?_) (fun hc h0 => ?_)
  refine pm1 ?_
  refine rp rfl (w1 rfl rfl rfl) rfl (pu_len_map tok rfl rfl rfl) ?_
  refine rp rfl (w1 rfl rfl rfl) rfl (pu_leq rfl rfl) ?_
  refine pkt ?_
  refine pa ?_
  refine nx ?_
  refine aw_ret ?_
  cases h0
  exact ret0_ (rs := [.tmp 2]) rfl
  iterate 3 refine k1 ?_
  refine pkf ?_
  refine pa ?_
  refine nx ?_
  refine aw_ret ?_
  cases h0
  exact ret0_ (rs := [.tmp 2]) rfl

theorem i_ValidMovement_c {p0 : Movement_} {r : Bool} (h0 : i_ValidMovement_m p0 = some r) : FnC Tryz.prog 134 [] [.agg [.d (.v (.string p0.Name)), .d (.sl (List.map cArbor_ p0.Works.Arbors)), .d (.sl (List.map cMesh_ p0.Works.Meshes)), .d (.v (.int .i64 p0.Minute)), .d (.v (.int .i64 p0.Hour)), .d (.v (.int .i64 p0.Escape)), .d (.v (.int .i64 p0.Teeth)), .d (.v (.int .i64 p0.Beats)), .d (.v (.string p0.Calendar.Name)), .d (.sl (List.map cMonth_ p0.Calendar.Months)), .d (.sl (List.map cLeapRule_ p0.Calendar.Rules)), .d (.v (.int .i64 p0.Calendar.Week)), .d (.sl (List.map cI p0.Cam)), .d (.v (.int .i64 p0.Strike))]] [] (.d (.v (.bool r))) := by
  refine fnc_intro (T := tt) (N := 61) tok Tryz.func134 rfl rfl (by kernel_rfl) rfl rfl ?_
  unfold i_ValidMovement_m at h0
  refine sq [0,1] ?_
  refine rs rfl w0 rfl (st_box 3 (cs := _ :: _) rfl rfl rfl) ?_
  refine pa ?_
  refine nx ?_
  obtain ⟨v4, h1, h0⟩ := bnd h0
  refine aw_cut ⟨updA (updA ((fun _ => .dead)) 1 (.ptr 3 0 1 0 0)) 3 (.d (.v (.bool v4))), lks [.no, .no, .no, .live [⟨49, 14, .av [[.d (.v (.string p0.Name)), .d (.sl (List.map cArbor_ p0.Works.Arbors)), .d (.sl (List.map cMesh_ p0.Works.Meshes)), .d (.v (.int .i64 p0.Minute)), .d (.v (.int .i64 p0.Hour)), .d (.v (.int .i64 p0.Escape)), .d (.v (.int .i64 p0.Teeth)), .d (.v (.int .i64 p0.Beats)), .d (.v (.string p0.Calendar.Name)), .d (.sl (List.map cMonth_ p0.Calendar.Months)), .d (.sl (List.map cLeapRule_ p0.Calendar.Rules)), .d (.v (.int .i64 p0.Calendar.Week)), .d (.sl (List.map cI p0.Cam)), .d (.v (.int .i64 p0.Strike))]]⟩]]⟩ ?_ ?_
  refine sr [0,1,2,3,4,5,6,7,8,9,10,11,12,13,14,15,16,17,18,19] ?_
  refine fa tok ?_
  refine rl rfl w0 rfl (bx_ldN tok rfl rfl rfl rfl) ?_
  refine fa tok ?_
  refine ld tok ?_
  obtain ⟨v1, hv1, h1⟩ := bnd h1
  refine rs rfl w0 rfl (c_call 4 (i_isArbor_c hv1) rfl rfl rfl) ?_
  refine pm ?_
  refine ra_ifB (u := 10) h1 rfl (fun hc h1 => ?_) (fun hc h1 => ?_)
  refine fa1 tok ?_
  refine rl rfl (w1 rfl rfl rfl) rfl (bx_ldN tok rfl rfl rfl rfl) ?_
  refine fa1 tok ?_
  refine ld1 tok ?_
  obtain ⟨v2, hv2, h1⟩ := bnd h1
  refine rs rfl (w1 rfl rfl rfl) rfl (c_call 4 (i_isArbor_c hv2) rfl rfl rfl) ?_
  refine pkt ?_
  refine pm ?_
  refine ra_ifB (u := 17) h1 rfl (fun hc h1 => ?_) (fun hc h1 => ?_)
  refine fa1 tok ?_
  refine rl rfl (w1 rfl rfl rfl) rfl (bx_ldN tok rfl rfl rfl rfl) ?_
  refine fa1 tok ?_
  refine ld1 tok ?_
  obtain ⟨v3, hv3, h1⟩ := bnd h1
  refine rs rfl (w1 rfl rfl rfl) rfl (c_call 4 (i_isArbor_c hv3) rfl rfl rfl) ?_
  refine pkt ?_
  refine pa ?_
  refine nx ?_
  cases h1
  exact wk [0, 1, 2, 3]
  iterate 5 refine k1 ?_
  refine pkf ?_
  refine pa ?_
  refine nx ?_
  cases h1
  exact wk [0, 1, 2, 3]
  iterate 5 refine k1 ?_
  refine pkf ?_
  refine pm ?_
  iterate 5 refine k1 ?_
  refine pkf ?_
  refine pa ?_
  refine nx ?_
  cases h1
  exact wk [0, 1, 2, 3]
  obtain ⟨v8, h1, h0⟩ := bnd h0
  refine aw_cut ⟨updA (updA (updA ((fun _ => .dead)) 1 (.ptr 3 0 1 0 0)) 3 (.d (.v (.bool v4)))) 4 (.d (.v (.bool v8))), lks [.no, .no, .no, .live [⟨49, 14, .av [[.d (.v (.string p0.Name)), .d (.sl (List.map cArbor_ p0.Works.Arbors)), .d (.sl (List.map cMesh_ p0.Works.Meshes)), .d (.v (.int .i64 p0.Minute)), .d (.v (.int .i64 p0.Hour)), .d (.v (.int .i64 p0.Escape)), .d (.v (.int .i64 p0.Teeth)), .d (.v (.int .i64 p0.Beats)), .d (.v (.string p0.Calendar.Name)), .d (.sl (List.map cMonth_ p0.Calendar.Months)), .d (.sl (List.map cLeapRule_ p0.Calendar.Rules)), .d (.v (.int .i64 p0.Calendar.Week)), .d (.sl (List.map cI p0.Cam)), .d (.v (.int .i64 p0.Strike))]]⟩]]⟩ ?_ ?_
  refine sr [0,1,2,3,4,5,6,7,8,9,10,11,12,13] ?_
  refine fa tok ?_
  refine ld tok ?_
  obtain ⟨v5, hv5, h1⟩ := bnd h1
  refine rs rfl w0 rfl (c_call 4 (i_toothed_c hv5) rfl rfl rfl) ?_
  refine pm ?_
  refine ra_ifB (u := 27) h1 rfl (fun hc h1 => ?_) (fun hc h1 => ?_)
  refine fa1 tok ?_
  refine ld1 tok ?_
  obtain ⟨v6, hv6, h1⟩ := bnd h1
  refine rs rfl (w1 rfl rfl rfl) rfl (c_call 4 (i_within_c hv6) rfl rfl rfl) ?_
  refine pkt ?_
  refine pm ?_
  refine ra_ifB (u := 32) h1 rfl (fun hc h1 => ?_) (fun hc h1 => ?_)
  refine fa1 tok ?_
  refine ld1 tok ?_
  obtain ⟨v7, hv7, h1⟩ := bnd h1
  refine rs rfl (w1 rfl rfl rfl) rfl (c_call 4 (i_within_c hv7) rfl rfl rfl) ?_
  refine pkt ?_
  refine pa ?_
  refine nx ?_
  cases h1
  exact wk [0, 1, 2, 3]
  iterate 3 refine k1 ?_
  refine pkf ?_
  refine pa ?_
  refine nx ?_
  cases h1
  exact wk [0, 1, 2, 3]
  iterate 3 refine k1 ?_
  refine pkf ?_
  refine pm ?_
  iterate 3 refine k1 ?_
  refine pkf ?_
  refine pa ?_
  refine nx ?_
  cases h1
  exact wk [0, 1, 2, 3]
  refine sq [0,1,2,3,4,5,6,7,8,9,10,11,12,13,14,15,16,17,18,19,20,21,22,23,24] ?_
  refine pm ?_
  refine pm ?_
  refine ra_ifB (u := 38) h0 rfl (fun hc h0 => ?_) (fun hc h0 => ?_)
  refine pm1 ?_
  refine pkt ?_
  refine pm ?_
  refine ra_ifB (u := 41) h0 rfl (fun hc h0 => ?_) (fun hc h0 => ?_)
  refine fa1 tok ?_
  refine ld1 tok ?_
  obtain ⟨v9, hv9, h0⟩ := bnd h0
  refine rs rfl (w1 rfl rfl rfl) rfl (c_call 4 (i_IsName_c hv9) rfl rfl rfl) ?_
  refine pkt ?_
  refine pm ?_
  refine ra_ifB (u := 46) h0 rfl (fun hc h0 => ?_) (fun hc h0 => ?_)
  refine fa1 tok ?_
  refine rl rfl (w1 rfl rfl rfl) rfl (bx_ldN tok rfl rfl rfl rfl) ?_
  obtain ⟨v10, hv10, h0⟩ := bnd h0
  refine rs rfl (w1 rfl rfl rfl) rfl (c_call 4 (i_ValidWorks_c hv10) rfl rfl rfl) ?_
  refine pkt ?_
  refine pm ?_
  refine ra_ifB (u := 51) h0 rfl (fun hc h0 => ?_) (fun hc h0 => ?_)
  refine fa1 tok ?_
  refine rl rfl (w1 rfl rfl rfl) rfl (bx_ldN tok rfl rfl rfl rfl) ?_
  obtain ⟨v11, hv11, h0⟩ := bnd h0
  refine rs rfl (w1 rfl rfl rfl) rfl (c_call 4 (i_ValidCalendar_c hv11) rfl rfl rfl) ?_
  refine pkt ?_
  refine pm ?_
  refine ra_ifB (u := 56) h0 rfl (fun hc h0 => ?_) (fun hc h0 => ?_)
  refine fa1 tok ?_
  refine ld1 tok ?_
  obtain ⟨v12, hv12, h0⟩ := bnd h0
  refine rs rfl (w1 rfl rfl rfl) rfl (c_call 4 (i_ValidCam_c hv12) rfl rfl rfl) ?_
  refine pkt ?_
  refine pa ?_
  refine nx ?_
  refine aw_ret ?_
  cases h0
  exact ret0_ (rs := [.tmp 2]) rfl
  iterate 3 refine k1 ?_
  refine pkf ?_
  refine pa ?_
  refine nx ?_
  refine aw_ret ?_
  cases h0
  exact ret0_ (rs := [.tmp 2]) rfl
  iterate 3 refine k1 ?_
  refine pkf ?_
  refine pm ?_
  iterate 3 refine k1 ?_
  refine pkf ?_
  refine pa ?_
  refine nx ?_
  refine aw_ret ?_
  cases h0
  exact ret0_ (rs := [.tmp 2]) rfl
  iterate 3 refine k1 ?_
  refine pkf ?_
  refine pm ?_
  iterate 3 refine k1 ?_
  refine pkf ?_
  refine pm ?_
  iterate 3 refine k1 ?_
  refine pkf ?_
  refine pa ?_
  refine nx ?_
  refine aw_ret ?_
  cases h0
  exact ret0_ (rs := [.tmp 2]) rfl
  iterate 3 refine k1 ?_
  refine pkf ?_
  refine pm ?_
  iterate 3 refine k1 ?_
  refine pkf ?_
  refine pm ?_
  iterate 3 refine k1 ?_
  refine pkf ?_
  refine pm ?_
  iterate 3 refine k1 ?_
  refine pkf ?_
  refine pa ?_
  refine nx ?_
  refine aw_ret ?_
  cases h0
  exact ret0_ (rs := [.tmp 2]) rfl
  refine k1 ?_
  refine pkf ?_
  refine pm ?_
  iterate 3 refine k1 ?_
  refine pkf ?_
  refine pm ?_
  iterate 3 refine k1 ?_
  refine pkf ?_
  refine pm ?_
  iterate 3 refine k1 ?_
  refine pkf ?_
  refine pm ?_
  iterate 3 refine k1 ?_
  refine pkf ?_
  refine pa ?_
  refine nx ?_
  refine aw_ret ?_
  cases h0
  exact ret0_ (rs := [.tmp 2]) rfl

theorem i_pairOf_c {p0 : Works_} {p1 : Mesh_} {r : Pair_} (h0 : i_pairOf_m p0 p1 = some r) : FnC Tryz.prog 240 [] [.agg [.d (.sl (List.map cArbor_ p0.Arbors)), .d (.sl (List.map cMesh_ p0.Meshes))], .agg [.d (.v (.int .i64 p1.A)), .d (.v (.int .i64 p1.WheelA)), .d (.v (.int .i64 p1.B)), .d (.v (.int .i64 p1.WheelB))]] [] (.agg [.d (.v (.int .i64 r.Driver)), .d (.v (.int .i64 r.Driven))]) := by
  refine fnc_intro (T := tt) (N := 28) tok Tryz.func240 rfl rfl (by kernel_rfl) rfl rfl ?_
  unfold i_pairOf_m at h0
  refine sq [0,1,2] ?_
  refine rs rfl w0 rfl (st_box 3 (cs := _ :: _) rfl rfl rfl) ?_
  refine rs rfl w0 rfl (st_box 4 (cs := _ :: _) rfl rfl rfl) ?_
  refine rs rfl w0 rfl (st_alloc 5 (cs := [.d (.v (.int .i64 0)), .d (.v (.int .i64 0))]) tok rfl rfl rfl) ?_
  refine nx ?_
  refine aw_seq ?_
  refine aw_region_draw (is := [0, 1, 2, 3, 4, 5, 6, 7, 8, 9, 10, 11, 12, 13, 14, 15, 16, 17, 18, 19, 20, 21, 22, 23]) [0, 1, 0, 4, 15, 31, 63, 0, 128, 511, 1023, 0, 2048, 0, 8192, 30720, 63488, 129024, 0, 262144, 1046528, 2095104, 4194303, 8388607] follows (by kernel_rfl) ?_
  refine rt_lk rfl w0 rfl (bx_fa tok rfl rfl rfl rfl rfl rfl rfl) rfl rfl rfl ?_
  refine rt_lk rfl w0 rfl (bx_ld1 tok rfl rfl rfl rfl rfl) rfl rfl rfl ?_
  refine rt_lk rfl w0 rfl (bx_fa tok rfl rfl rfl rfl rfl rfl rfl) rfl rfl rfl ?_
  refine rt_lk rfl w0 rfl (bx_ld1 tok rfl rfl rfl rfl rfl) rfl rfl rfl ?_
  obtain ⟨v1, hv1, h0⟩ := bnd h0
  refine rt_p rfl w0 rfl (sl_ix tok hv1 rfl rfl rfl rfl rfl rfl) ?_
  refine tfr tok ?_
  refine tlr tok ?_
  refine rt_lk rfl w0 rfl (bx_fa tok rfl rfl rfl rfl rfl rfl rfl) rfl rfl rfl ?_
  refine rt_lk rfl w0 rfl (bx_ld1 tok rfl rfl rfl rfl rfl) rfl rfl rfl ?_
  obtain ⟨v2, hv2, h0⟩ := bnd h0
  refine rt_p rfl w0 rfl (sl_ix tok hv2 rfl rfl rfl rfl rfl rfl) ?_
  refine tlr tok ?_
  refine rt_lk rfl w0 rfl (bx_fa tok rfl rfl rfl rfl rfl rfl rfl) rfl rfl rfl ?_
  refine rt_lk rfl w0 rfl (bx_ld1 tok rfl rfl rfl rfl rfl) rfl rfl rfl ?_
  refine rt_lk rfl w0 rfl (bx_fa tok rfl rfl rfl rfl rfl rfl rfl) rfl rfl rfl ?_
  refine rt_lk rfl w0 rfl (bx_ld1 tok rfl rfl rfl rfl rfl) rfl rfl rfl ?_
  obtain ⟨v3, hv3, h0⟩ := bnd h0
  refine rt_p rfl w0 rfl (sl_ix tok hv3 rfl rfl rfl rfl rfl rfl) ?_
  refine tfr tok ?_
  refine tlr tok ?_
  refine rt_lk rfl w0 rfl (bx_fa tok rfl rfl rfl rfl rfl rfl rfl) rfl rfl rfl ?_
  refine rt_lk rfl w0 rfl (bx_ld1 tok rfl rfl rfl rfl rfl) rfl rfl rfl ?_
  obtain ⟨v4, hv4, h0⟩ := bnd h0
  refine rt_p rfl w0 rfl (sl_ix tok hv4 rfl rfl rfl rfl rfl rfl) ?_
  refine tlr tok ?_
  refine rt_p rfl w0 rfl (pbl (C0 := [.d (.v (.int .i64 0)), .d (.v (.int .i64 0))]) tok rfl rfl rfl) ?_
  refine rt_wk rfl w0 (bx_st (cs := _ :: _) tok rfl rfl rfl rfl rfl rfl rfl) ?_
  refine rt_nil ?_
  refine ⟨by kernel_rfl, ?_⟩
  refine then_n ?_
  refine aw_ret ?_
  cases h0
  exact ret0_ (rs := [.cell 4 191]) rfl

theorem i_magnitude_c {p0 : Int} {r : Int} (h0 : i_magnitude_m p0 = some r) : FnC Tryz.prog 271 [] [.d (.v (.int .i64 p0))] [] (.d (.v (.int .u64 r))) := by
  refine fnc_intro (T := tt) (N := 10) tok Tryz.func271 rfl rfl (by kernel_rfl) rfl rfl ?_
  unfold i_magnitude_m at h0
  refine sq [0] ?_
  refine pa ?_
  refine nx ?_
  refine aw_seq ?_
  refine sq [0,1] ?_
  refine pm ?_
  refine rp rfl w0 rfl (pu_lss rfl rfl) ?_
  refine nx ?_
  refine aw_if h0 rfl (fun hc h0 => ?_) (fun hc h0 => ?_)
  refine sq [0,1,2,3] ?_
  refine pm ?_
  refine rp rfl w0 rfl (pu_ii tok rfl rfl rfl rfl rfl) ?_
  refine rp rfl w0 rfl (pu_negw rfl) ?_
  refine pa ?_
  refine nx ?_
  refine aw_ret ?_
  refine then_r ?_
  cases h0
  exact ret0_ (rs := [.tmp 2]) rfl
  refine sk ?_
  refine sq [0,1,2] ?_
  refine pm ?_
  refine rp rfl w0 rfl (pu_ii tok rfl rfl rfl rfl rfl) ?_
  refine pa ?_
  refine nx ?_
  refine aw_ret ?_
  cases h0
  exact ret0_ (rs := [.tmp 2]) rfl

theorem i_reduced_c {p0 : Int} {p1 : Int} {r : Ratio_ × Bool} (h0 : i_reduced_m p0 p1 = some r) : FnC Tryz.prog 262 [] [.d (.v (.int .i64 p0)), .d (.v (.int .i64 p1))] [] (.tup [.agg [.d (.v (.int .i64 r.1.Num)), .d (.v (.int .i64 r.1.Den))], .d (.v (.bool r.2))]) := by
  refine fnc_intro (T := tt) (N := 51) tok Tryz.func262 rfl rfl (by kernel_rfl) rfl rfl ?_
  unfold i_reduced_m at h0
  refine sq [0,1] ?_
  refine rs rfl w0 rfl (st_alloc 3 (cs := [.d (.v (.int .i64 0)), .d (.v (.int .i64 0))]) tok rfl rfl rfl) ?_
  refine pa ?_
  refine nx ?_
  refine sq [0,1,2,3,4,5] ?_
  refine pm ?_
  obtain ⟨v1, hv1, h0⟩ := bnd h0
  refine rs rfl w0 rfl (c_call 4 (i_magnitude_c hv1) rfl rfl rfl) ?_
  refine pm ?_
  obtain ⟨v2, hv2, h0⟩ := bnd h0
  refine rs rfl w0 rfl (c_call 4 (i_magnitude_c hv2) rfl rfl rfl) ?_
  refine pa ?_
  refine pa ?_
  refine nx ?_
  refine sq [0,1,2,3] ?_
  refine pm ?_
  refine pm ?_
  refine pa ?_
  refine pa ?_
  refine nx ?_
  obtain ⟨v7, h1, h0⟩ := bnd h0
  refine aw_cut ⟨updA (updA (updA (updA (updA (updA ((fun _ => .dead)) 0 (.d (.v (.int .i64 p0)))) 1 (.d (.v (.int .i64 p1)))) 4 (.ptr 3 0 1 0 0)) 6 (.d (.v (.int .u64 v1)))) 7 (.d (.v (.int .u64 v2)))) 8 (.d (.v (.int .u64 v7))), lks [.no, .no, .no, .live [⟨164, 2, .av [[.d (.v (.int .i64 0)), .d (.v (.int .i64 0))]]⟩]]⟩ ?_ ?_
  refine aw_block ?_
  refine aw_loopM (fun s5 => ⟨updA (updA (updA (updA (updA (updA (updA ((fun _ => .dead)) 0 (.d (.v (.int .i64 p0)))) 1 (.d (.v (.int .i64 p1)))) 4 (.ptr 3 0 1 0 0)) 6 (.d (.v (.int .u64 v1)))) 7 (.d (.v (.int .u64 v2)))) 8 (.d (.v (.int .u64 s5.1)))) 9 (.d (.v (.int .u64 s5.2))), lks [.no, .no, .no, .live [⟨164, 2, .av [[.d (.v (.int .i64 0)), .d (.v (.int .i64 0))]]⟩]]⟩) h1 ?_ (fun s5 y h2 => ?_)
  exact wk [0, 1, 2, 3]
  refine aw_seq ?_
  refine sq [0,1] ?_
  refine pm ?_
  refine rp rfl w0 rfl (pu_neq rfl rfl) ?_
  refine nx ?_
  refine aw_if h2 rfl (fun hc h2 => ?_) (fun hc h2 => ?_)
  refine sk ?_
  refine aw_block ?_
  refine aw_region_draw (is := [0, 1, 2, 3, 4, 5]) [0, 0, 0, 6, 3, 31] follows (by kernel_rfl) ?_
  iterate 3 refine tpm ?_
  obtain ⟨hq6, h2⟩ := chk_e h2
  refine rt_p rfl w0 rfl (pu_remw rfl rfl hq6) ?_
  refine tpa ?_
  refine tpa ?_
  refine rt_nil ?_
  refine ⟨by kernel_rfl, ?_⟩
  refine block_n ?_
  refine loop_n ?_
  cases h2
  refine ⟨_, rfl, ?_⟩
  exact wk [0, 1, 2, 3]
  refine aw_exit ?_
  refine then_e ?_
  cases h2
  refine loop_x ⟨_, rfl, fun e => ?_⟩
  subst e
  refine block_hit ?_
  refine then_n ?_
  exact wk [0, 1, 2, 3]
  refine aw_seq ?_
  refine aw_region_draw (is := [0, 1, 2, 3, 4, 5, 6, 7]) [0, 0, 3, 0, 0, 24, 7, 127] follows (by kernel_rfl) ?_
  refine tpm ?_
  refine tpm ?_
  obtain ⟨hq8, h0⟩ := chk_e h0
  refine rt_p rfl w0 rfl (pu_quow rfl rfl hq8) ?_
  refine tpm ?_
  refine tpm ?_
  obtain ⟨hq9, h0⟩ := chk_e h0
  refine rt_p rfl w0 rfl (pu_quow rfl rfl hq9) ?_
  refine tpa ?_
  refine tpa ?_
  refine rt_nil ?_
  refine ⟨by kernel_rfl, ?_⟩
  refine then_n ?_
  refine aw_seq ?_
  obtain ⟨v10, h1, h0⟩ := bnd h0
  refine aw_cut ⟨updA (updA (updA (updA (updA (updA ((fun _ => .dead)) 0 (.d (.v (.int .i64 p0)))) 1 (.d (.v (.int .i64 p1)))) 4 (.ptr 3 0 1 0 0)) 6 (.d (.v (.int .u64 (IntKind.u64.wrap (v1.tdiv v7)))))) 7 (.d (.v (.int .u64 (IntKind.u64.wrap (v2.tdiv v7)))))) 34 (.d (.v (.bool v10))), lks [.no, .no, .no, .live [⟨164, 2, .av [[.d (.v (.int .i64 0)), .d (.v (.int .i64 0))]]⟩]]⟩ ?_ ?_
  refine sr [0,1,2,3,4,5] ?_
  refine pm ?_
  refine rp rfl w0 rfl (pu_gtr rfl rfl) ?_
  refine pm ?_
  refine ra_if (u := 31) h1 rfl (fun hc h1 => ?_) (fun hc h1 => ?_)
  refine k1 ?_
  refine k1 ?_
  refine pkt ?_
  refine nx ?_
  cases h1
  exact wk [0, 1, 2, 3]
  refine pm1 ?_
  refine rp rfl (w1 rfl rfl rfl) rfl (pu_gtr rfl rfl) ?_
  refine pkf ?_
  refine nx ?_
  cases h1
  exact wk [0, 1, 2, 3]
  refine aw_ifB h0 rfl (fun hc h0 => ?_) (fun hc h0 => ?_)
  refine sq [0,1,2] ?_
  refine rp rfl w0 rfl (pbl (C0 := [.d (.v (.int .i64 0)), .d (.v (.int .i64 0))]) tok rfl rfl rfl) ?_
  refine rw0 rfl w0 (bx_st (cs := _ :: _) tok rfl rfl rfl rfl rfl rfl rfl) ?_
  refine pa ?_
  refine nx ?_
  refine aw_ret ?_
  refine then_r ?_
  cases h0
  exact ret0_ (rs := [.cell 4 164, .tmp 5]) rfl
  refine sk ?_
  refine sq [0,1,2,3,4,5,6] ?_
  refine pm ?_
  refine rp rfl w0 rfl (pw_cv tok rfl rfl rfl rfl rfl) ?_
  refine pm ?_
  refine rp rfl w0 rfl (pw_cv tok rfl rfl rfl rfl rfl) ?_
  refine rp rfl w0 rfl (pbl (C0 := [.d (.v (.int .i64 0)), .d (.v (.int .i64 0))]) tok rfl rfl rfl) ?_
  refine rs rfl w0 rfl (st_alloc 4 (cs := [.d (.v (.int .i64 0)), .d (.v (.int .i64 0))]) tok rfl rfl rfl) ?_
  refine rw0 rfl w0 (bx_st (cs := _ :: _) tok rfl rfl rfl rfl rfl rfl rfl) ?_
  refine nx ?_
  obtain ⟨v11, h1, h0⟩ := bnd h0
  refine aw_cut ⟨updA (updA ((fun _ => .dead)) 4 (.ptr 3 0 1 0 0)) 10 (.ptr 4 0 1 0 0), lks [.no, .no, .no, .live [⟨164, 2, .av [[.d (.v (.int .i64 0)), .d (.v (.int .i64 0))]]⟩], .live [⟨164, 2, .av [[.d (.v (.int .i64 v11.Num)), .d (.v (.int .i64 v11.Den))]]⟩]]⟩ ?_ ?_
  refine sq [0,1,2,3,4] ?_
  refine pm ?_
  refine rp rfl w0 rfl (pu_lss rfl rfl) ?_
  refine pm ?_
  refine rp rfl w0 rfl (pu_lss rfl rfl) ?_
  refine rp rfl w0 rfl (pu_bneq tok rfl rfl rfl rfl) ?_
  refine nx ?_
  refine aw_ifB h1 rfl (fun hc h1 => ?_) (fun hc h1 => ?_)
  refine sr [0,1,2,3,4] ?_
  refine fa tok ?_
  refine ld tok ?_
  refine rp rfl w0 rfl (pw_neg rfl) ?_
  refine fa tok ?_
  refine rw0 rfl w0 (bx_st (cs := [.d _]) tok rfl rfl rfl rfl rfl rfl rfl) ?_
  refine nx ?_
  cases h1
  exact wk [0, 1, 2, 3, 4]
  refine sk ?_
  cases h1
  exact wk [0, 1, 2, 3, 4]
  refine sq [0,1,2] ?_
  refine rl rfl w0 rfl (bx_ldN tok rfl rfl rfl rfl) ?_
  refine rw0 rfl w0 (bx_st (cs := _ :: _) tok rfl rfl rfl rfl rfl rfl rfl) ?_
  refine pa ?_
  refine nx ?_
  refine aw_ret ?_
  cases h0
  exact ret0_ (rs := [.cell 4 164, .tmp 5]) rfl

theorem i_MakeRatio_c {p0 : Int} {p1 : Int} {r : Ratio_ × Int} (h0 : i_MakeRatio_m p0 p1 = some r) : FnC Tryz.prog 254 [] [.d (.v (.int .i64 p0)), .d (.v (.int .i64 p1))] [] (.tup [.agg [.d (.v (.int .i64 r.1.Num)), .d (.v (.int .i64 r.1.Den))], .d (.v (.int .i64 r.2))]) := by
  refine fnc_intro (T := tt) (N := 21) tok Tryz.func254 rfl rfl (by kernel_rfl) rfl rfl ?_
  unfold i_MakeRatio_m at h0
  refine sq [0,1] ?_
  refine rs rfl w0 rfl (st_alloc 3 (cs := [.d (.v (.int .i64 0)), .d (.v (.int .i64 0))]) tok rfl rfl rfl) ?_
  refine pa ?_
  refine nx ?_
  refine aw_seq ?_
  refine sq [0,1] ?_
  refine pm ?_
  refine rp rfl w0 rfl (pu_eql rfl rfl) ?_
  refine nx ?_
  refine aw_if h0 rfl (fun hc h0 => ?_) (fun hc h0 => ?_)
  refine sq [0,1,2] ?_
  refine rp rfl w0 rfl (pbl (C0 := [.d (.v (.int .i64 0)), .d (.v (.int .i64 0))]) tok rfl rfl rfl) ?_
  refine rw0 rfl w0 (bx_st (cs := _ :: _) tok rfl rfl rfl rfl rfl rfl rfl) ?_
  refine pa ?_
  refine nx ?_
  refine aw_ret ?_
  refine then_r ?_
  cases h0
  exact ret0_ (rs := [.cell 4 164, .tmp 5]) rfl
  refine sk ?_
  refine sq [0,1,2,3,4,5,6,7,8] ?_
  refine pm ?_
  refine pm ?_
  obtain ⟨v1, hv1, h0⟩ := bnd h0
  refine rs rfl w0 rfl (c_call 4 (i_reduced_c hv1) rfl rfl rfl) ?_
  refine rp rfl w0 rfl (pu_move (r := .tup _) rfl) ?_
  refine rp rfl w0 rfl (pu_extract rfl rfl) ?_
  refine rp rfl w0 rfl (pu_extract rfl rfl) ?_
  refine rs rfl w0 rfl (st_alloc 4 (cs := [.d (.v (.int .i64 0)), .d (.v (.int .i64 0))]) tok rfl rfl rfl) ?_
  refine rw0 rfl w0 (bx_st (cs := _ :: _) tok rfl rfl rfl rfl rfl rfl rfl) ?_
  refine pa ?_
  refine nx ?_
  refine aw_seq ?_
  refine sq [0,1] ?_
  refine pm ?_
  refine rp rfl w0 rfl (pu_not rfl) ?_
  refine nx ?_
  refine aw_ifB h0 rfl (fun hc h0 => ?_) (fun hc h0 => ?_)
  refine sq [0,1,2] ?_
  refine rp rfl w0 rfl (pbl (C0 := [.d (.v (.int .i64 0)), .d (.v (.int .i64 0))]) tok rfl rfl rfl) ?_
  refine rw0 rfl w0 (bx_st (cs := _ :: _) tok rfl rfl rfl rfl rfl rfl rfl) ?_
  refine pa ?_
  refine nx ?_
  refine aw_ret ?_
  refine then_r ?_
  cases h0
  exact ret0_ (rs := [.cell 4 164, .tmp 5]) rfl
  refine sk ?_
  refine sq [0,1,2] ?_
  refine rl rfl w0 rfl (bx_ldN tok rfl rfl rfl rfl) ?_
  refine rw0 rfl w0 (bx_st (cs := _ :: _) tok rfl rfl rfl rfl rfl rfl rfl) ?_
  refine pa ?_
  refine nx ?_
  refine aw_ret ?_
  cases h0
  exact ret0_ (rs := [.cell 4 164, .tmp 5]) rfl

theorem i_ValidRatio_c {p0 : Ratio_} {r : Bool} (h0 : i_ValidRatio_m p0 = some r) : FnC Tryz.prog 263 [] [.agg [.d (.v (.int .i64 p0.Num)), .d (.v (.int .i64 p0.Den))]] [] (.d (.v (.bool r))) := by
  refine fnc_intro (T := tt) (N := 19) tok Tryz.func263 rfl rfl (by kernel_rfl) rfl rfl ?_
  unfold i_ValidRatio_m at h0
  refine sq [0,1] ?_
  refine rs rfl w0 rfl (st_box 3 (cs := _ :: _) rfl rfl rfl) ?_
  refine pa ?_
  refine nx ?_
  refine sq [0,1,2,3,4,5,6,7,8,9,10,11,12,13,14,15,16] ?_
  refine fa tok ?_
  refine ld tok ?_
  obtain ⟨v1, hv1, h0⟩ := bnd h0
  refine rs rfl w0 rfl (c_call 4 (i_within_c hv1) rfl rfl rfl) ?_
  refine pm ?_
  refine ra_ifB (u := 6) h0 rfl (fun hc h0 => ?_) (fun hc h0 => ?_)
  refine fa1 tok ?_
  refine ld1 tok ?_
  obtain ⟨v2, hv2, h0⟩ := bnd h0
  refine rs rfl (w1 rfl rfl rfl) rfl (c_call 4 (i_within_c hv2) rfl rfl rfl) ?_
  refine pkt ?_
  refine pm ?_
  refine ra_ifB (u := 11) h0 rfl (fun hc h0 => ?_) (fun hc h0 => ?_)
  refine fa1 tok ?_
  refine ld1 tok ?_
  refine fa1 tok ?_
  refine ld1 tok ?_
  obtain ⟨v3, hv3, h0⟩ := bnd h0
  refine rs rfl (w1 rfl rfl rfl) rfl (c_call 4 (i_gcd_c hv3) rfl rfl rfl) ?_
  refine rp rfl (w1 rfl rfl rfl) rfl (pu_eql rfl rfl) ?_
  refine pkt ?_
  refine pa ?_
  refine nx ?_
  refine aw_ret ?_
  cases h0
  exact ret0_ (rs := [.tmp 2]) rfl
  iterate 6 refine k1 ?_
  refine pkf ?_
  refine pa ?_
  refine nx ?_
  refine aw_ret ?_
  cases h0
  exact ret0_ (rs := [.tmp 2]) rfl
  iterate 3 refine k1 ?_
  refine pkf ?_
  refine pm ?_
  iterate 6 refine k1 ?_
  refine pkf ?_
  refine pa ?_
  refine nx ?_
  refine aw_ret ?_
  cases h0
  exact ret0_ (rs := [.tmp 2]) rfl

theorem i_MulRatio_c {p0 : Ratio_} {p1 : Ratio_} {r : Ratio_ × Int} (h0 : i_MulRatio_m p0 p1 = some r) : FnC Tryz.prog 255 [] [.agg [.d (.v (.int .i64 p0.Num)), .d (.v (.int .i64 p0.Den))], .agg [.d (.v (.int .i64 p1.Num)), .d (.v (.int .i64 p1.Den))]] [] (.tup [.agg [.d (.v (.int .i64 r.1.Num)), .d (.v (.int .i64 r.1.Den))], .d (.v (.int .i64 r.2))]) := by
  refine fnc_intro (T := tt) (N := 28) tok Tryz.func255 rfl rfl (by kernel_rfl) rfl rfl ?_
  unfold i_MulRatio_m at h0
  refine sq [0,1,2,3] ?_
  refine rs rfl w0 rfl (st_box 3 (cs := _ :: _) rfl rfl rfl) ?_
  refine rs rfl w0 rfl (st_box 4 (cs := _ :: _) rfl rfl rfl) ?_
  refine rs rfl w0 rfl (st_alloc 5 (cs := [.d (.v (.int .i64 0)), .d (.v (.int .i64 0))]) tok rfl rfl rfl) ?_
  refine pa ?_
  refine nx ?_
  refine aw_seq ?_
  obtain ⟨v3, h1, h0⟩ := bnd h0
  refine aw_cut ⟨updA (updA (updA (updA ((fun _ => .dead)) 2 (.ptr 3 0 1 0 0)) 3 (.ptr 4 0 1 0 0)) 4 (.ptr 5 0 1 0 0)) 13 (.d (.v (.bool v3))), lks [.no, .no, .no, .live [⟨164, 2, .av [[.d (.v (.int .i64 p0.Num)), .d (.v (.int .i64 p0.Den))]]⟩], .live [⟨164, 2, .av [[.d (.v (.int .i64 p1.Num)), .d (.v (.int .i64 p1.Den))]]⟩], .live [⟨164, 2, .av [[.d (.v (.int .i64 0)), .d (.v (.int .i64 0))]]⟩]]⟩ ?_ ?_
  refine sr [0,1,2,3,4,5,6,7] ?_
  refine rl rfl w0 rfl (bx_ldN tok rfl rfl rfl rfl) ?_
  obtain ⟨v1, hv1, h1⟩ := bnd h1
  refine rs rfl w0 rfl (c_call 6 (i_ValidRatio_c hv1) rfl rfl rfl) ?_
  refine rp rfl w0 rfl (pu_not rfl) ?_
  refine pm ?_
  refine ra_ifB (u := 9) h1 rfl (fun hc h1 => ?_) (fun hc h1 => ?_)
  iterate 3 refine k1 ?_
  refine pkt ?_
  refine nx ?_
  cases h1
  exact wk [0, 1, 2, 3, 4, 5]
  refine rl rfl (w1 rfl rfl rfl) rfl (bx_ldN tok rfl rfl rfl rfl) ?_
  obtain ⟨v2, hv2, h1⟩ := bnd h1
  refine rs rfl (w1 rfl rfl rfl) rfl (c_call 6 (i_ValidRatio_c hv2) rfl rfl rfl) ?_
  refine rp rfl (w1 rfl rfl rfl) rfl (pu_not rfl) ?_
  refine pkf ?_
  refine nx ?_
  cases h1
  exact wk [0, 1, 2, 3, 4, 5]
  refine aw_ifB h0 rfl (fun hc h0 => ?_) (fun hc h0 => ?_)
  refine sq [0,1,2] ?_
  refine rp rfl w0 rfl (pbl (C0 := [.d (.v (.int .i64 0)), .d (.v (.int .i64 0))]) tok rfl rfl rfl) ?_
  refine rw0 rfl w0 (bx_st (cs := _ :: _) tok rfl rfl rfl rfl rfl rfl rfl) ?_
  refine pa ?_
  refine nx ?_
  refine aw_ret ?_
  refine then_r ?_
  cases h0
  exact ret0_ (rs := [.cell 4 164, .tmp 5]) rfl
  refine sk ?_
  refine sq [0,1,2,3,4,5,6,7,8,9,10,11,12,13,14] ?_
  refine fa tok ?_
  refine ld tok ?_
  refine fa tok ?_
  refine ld tok ?_
  refine rp rfl w0 rfl (pw_mul rfl rfl) ?_
  refine fa tok ?_
  refine ld tok ?_
  refine fa tok ?_
  refine ld tok ?_
  refine rp rfl w0 rfl (pw_mul rfl rfl) ?_
  obtain ⟨v4, hv4, h0⟩ := bnd h0
  refine rs rfl w0 rfl (c_call 6 (i_MakeRatio_c hv4) rfl rfl rfl) ?_
  refine rp rfl w0 rfl (pu_extract rfl rfl) ?_
  refine rp rfl w0 rfl (pu_extract rfl rfl) ?_
  refine rw0 rfl w0 (bx_st (cs := _ :: _) tok rfl rfl rfl rfl rfl rfl rfl) ?_
  refine pa ?_
  refine nx ?_
  refine aw_ret ?_
  cases h0
  exact ret0_ (rs := [.cell 4 164, .tmp 5]) rfl

theorem i_meshed_c {p0 : Ratio_} {p1 : Int} {p2 : Int} {r : Ratio_ × Int} (h0 : i_meshed_m p0 p1 p2 = some r) : FnC Tryz.prog 241 [] [.agg [.d (.v (.int .i64 p0.Num)), .d (.v (.int .i64 p0.Den))], .d (.v (.int .i64 p1)), .d (.v (.int .i64 p2))] [] (.tup [.agg [.d (.v (.int .i64 r.1.Num)), .d (.v (.int .i64 r.1.Den))], .d (.v (.int .i64 r.2))]) := by
  refine fnc_intro (T := tt) (N := 22) tok Tryz.func241 rfl rfl (by kernel_rfl) rfl rfl ?_
  unfold i_meshed_m at h0
  refine sq [0,1,2] ?_
  refine rs rfl w0 rfl (st_box 3 (cs := _ :: _) rfl rfl rfl) ?_
  refine rs rfl w0 rfl (st_alloc 4 (cs := [.d (.v (.int .i64 0)), .d (.v (.int .i64 0))]) tok rfl rfl rfl) ?_
  refine pa ?_
  refine nx ?_
  refine sq [0,1,2,3,4,5,6,7,8,9] ?_
  refine pm ?_
  refine rp rfl w0 rfl (pw_neg rfl) ?_
  refine pm ?_
  obtain ⟨v1, hv1, h0⟩ := bnd h0
  refine rs rfl w0 rfl (c_call 5 (i_MakeRatio_c hv1) rfl rfl rfl) ?_
  refine rp rfl w0 rfl (pu_move (r := .tup _) rfl) ?_
  refine rp rfl w0 rfl (pu_extract rfl rfl) ?_
  refine rp rfl w0 rfl (pu_extract rfl rfl) ?_
  refine rs rfl w0 rfl (st_alloc 5 (cs := [.d (.v (.int .i64 0)), .d (.v (.int .i64 0))]) tok rfl rfl rfl) ?_
  refine rw0 rfl w0 (bx_st (cs := _ :: _) tok rfl rfl rfl rfl rfl rfl rfl) ?_
  refine pa ?_
  refine nx ?_
  refine sq [0,1,2,3,4,5,6] ?_
  refine rl rfl w0 rfl (bx_ldN tok rfl rfl rfl rfl) ?_
  refine rl rfl w0 rfl (bx_ldN tok rfl rfl rfl rfl) ?_
  obtain ⟨v2, hv2, h0⟩ := bnd h0
  refine rs rfl w0 rfl (c_call 6 (i_MulRatio_c hv2) rfl rfl rfl) ?_
  refine rp rfl w0 rfl (pu_extract rfl rfl) ?_
  refine rp rfl w0 rfl (pu_extract rfl rfl) ?_
  refine rw0 rfl w0 (bx_st (cs := _ :: _) tok rfl rfl rfl rfl rfl rfl rfl) ?_
  refine pa ?_
  refine nx ?_
  refine aw_ret ?_
  cases h0
  exact ret0_ (rs := [.cell 6 164, .tmp 7]) rfl

theorem i_speedsFrom_c {p0 : Works_} {p1 : Int} {r : List Ratio_ × Int} (h0 : i_speedsFrom_m p0 p1 = some r) : FnC Tryz.prog 237 [] [.agg [.d (.sl (List.map cArbor_ p0.Arbors)), .d (.sl (List.map cMesh_ p0.Meshes))], .d (.v (.int .i64 p1))] [.live [⟨164, 2, .data (List.map cRatio_ r.1)⟩]] (.tup [.own 0 0 r.1.length, .d (.v (.int .i64 r.2))]) := by
  refine fnc_intro (T := tt) (N := 86) tok Tryz.func237 rfl rfl (by kernel_rfl) rfl rfl ?_
  unfold i_speedsFrom_m at h0
  refine sq [0,1,2] ?_
  refine rs rfl w0 rfl (st_box 3 (cs := _ :: _) rfl rfl rfl) ?_
  refine pa ?_
  refine pa ?_
  refine nx ?_
  refine sq [0,1,2,3,4] ?_
  refine fa tok ?_
  refine ld tok ?_
  refine rp rfl w0 rfl (pu_len_map tok rfl rfl rfl) ?_
  obtain ⟨hq1, h0⟩ := chk_e h0
  refine rs rfl w0 rfl (mk_own 4 tok (c := cRatio_) (⟨0, 0⟩ : Ratio_) hq1 rfl rfl rfl rfl rfl rfl rfl rfl rfl rfl rfl rfl rfl) ?_
  refine rp rfl w0 rfl (pu_assign (r := .own _ _ _) rfl) ?_
  refine nx ?_
  refine sq [0,1,2,3,4] ?_
  refine rp rfl w0 rfl (pu_move (r := .own _ _ _) rfl) ?_
  refine pm ?_
  refine rp rfl w0 rfl (pbl (C0 := [.d (.v (.int .i64 0)), .d (.v (.int .i64 0))]) tok rfl rfl rfl) ?_
  obtain ⟨v2, hv2, h0⟩ := bnd h0
  refine rl rfl w0 rfl (ow_ix tok hv2 rfl rfl rfl rfl rfl rfl rfl rfl) ?_
  refine rw0 rfl w0 (rw_st (cs := _ :: _) tok (⟨1, 1⟩ : Ratio_) (atI_e hv2).2.1 rfl rfl rfl rfl rfl rfl rfl rfl) ?_
  refine nx ?_
  obtain ⟨v53x, h1, h0⟩ := bnd h0
  refine aw_cutE v53x (fun v53 => ⟨updA ((fun _ => .dead)) 6 (.own 3 0 (v53).length), lks [.no, .no, .no, .live [⟨164, 2, .data (List.map cRatio_ v53)⟩]]⟩) ?_ ?_
  refine sq [0] ?_
  refine pa ?_
  refine nx ?_
  refine aw_block ?_
  refine aw_loopM (fun s28 => ⟨updA (updA (updA ((fun _ => .dead)) 2 (.ptr 3 0 1 0 0)) 6 (.own 4 0 (s28.2).length)) 7 (.d (.v (.bool s28.1))), lks [.no, .no, .no, .live [⟨43, 2, .av [[.d (.sl (List.map cArbor_ p0.Arbors)), .d (.sl (List.map cMesh_ p0.Meshes))]]⟩], .live [⟨164, 2, .data (List.map cRatio_ s28.2)⟩]]⟩) h1 ?_ (fun s28 y h2 => ?_)
  exact wk [0, 1, 2, 3, 4]
  refine aw_seq ?_
  refine sq [0] ?_
  refine pm ?_
  refine nx ?_
  refine aw_ifB h2 rfl (fun hc h2 => ?_) (fun hc h2 => ?_)
  refine sk ?_
  refine aw_block ?_
  refine sq [0] ?_
  refine pa ?_
  refine nx ?_
  refine sq [0,1,2,3] ?_
  refine fa tok ?_
  refine ld tok ?_
  refine rp rfl w0 rfl (pu_len_map tok rfl rfl rfl) ?_
  refine pm ?_
  refine nx ?_
  refine aw_block ?_
  refine aw_loopM (fun s41 => ⟨updA (updA (updA (updA (updA (updA ((fun _ => .dead)) 2 (.ptr 3 0 1 0 0)) 6 (.own 4 0 (s41.2.2).length)) 7 (.d (.v (.bool s41.1)))) 25 (.d (.sl (List.map cMesh_ p0.Meshes)))) 26 (.d (.v (.int .i64 (p0.Meshes.length : Int))))) 27 (.d (.v (.int .i64 s41.2.1))), lks [.no, .no, .no, .live [⟨43, 2, .av [[.d (.sl (List.map cArbor_ p0.Arbors)), .d (.sl (List.map cMesh_ p0.Meshes))]]⟩], .live [⟨164, 2, .data (List.map cRatio_ s41.2.2)⟩]]⟩) h2 ?_ (fun s41 y h3 => ?_)
  exact wk [0, 1, 2, 3, 4]
  refine sq [0] ?_
  refine rp rfl w0 rfl (pu_lss rfl rfl) ?_
  refine nx ?_
  refine aw_seq ?_
  refine aw_if h3 rfl (fun hc h3 => ?_) (fun hc h3 => ?_)
  refine sk ?_
  obtain ⟨v52x, h4, h3⟩ := bnd h3
  refine aw_cutE v52x (fun v52 => ⟨updA (updA (updA (updA (updA (updA ((fun _ => .dead)) 2 (.ptr 3 0 1 0 0)) 6 (.own 4 0 (v52.2).length)) 7 (.d (.v (.bool v52.1)))) 25 (.d (.sl (List.map cMesh_ p0.Meshes)))) 26 (.d (.v (.int .i64 (p0.Meshes.length : Int))))) 27 (.d (.v (.int .i64 s41.2.1))), lks [.no, .no, .no, .live [⟨43, 2, .av [[.d (.sl (List.map cArbor_ p0.Arbors)), .d (.sl (List.map cMesh_ p0.Meshes))]]⟩], .live [⟨164, 2, .data (List.map cRatio_ v52.2)⟩]]⟩) ?_ ?_
  refine aw_block ?_
  refine sq [0,1,2,3] ?_
  obtain ⟨v42, hv42, h4⟩ := bnd h4
  refine rp rfl w0 rfl (sl_ix tok hv42 rfl rfl rfl rfl rfl rfl) ?_
  refine rp rfl w0 rfl (pu_load_refN tok rfl rfl rfl (by repeat (first | exact SegD.z _ | apply SegD.t))) ?_
  refine rs rfl w0 rfl (st_alloc 5 (cs := [.d (.v (.int .i64 0)), .d (.v (.int .i64 0)), .d (.v (.int .i64 0)), .d (.v (.int .i64 0))]) tok rfl rfl rfl) ?_
  refine rw0 rfl w0 (bx_st (cs := _ :: _) tok rfl rfl rfl rfl rfl rfl rfl) ?_
  refine nx ?_
  refine sq [0,1,2,3,4] ?_
  refine rl rfl w0 rfl (bx_ldN tok rfl rfl rfl rfl) ?_
  refine rl rfl w0 rfl (bx_ldN tok rfl rfl rfl rfl) ?_
  obtain ⟨v43, hv43, h4⟩ := bnd h4
  refine rs rfl w0 rfl (c_call 6 (i_pairOf_c hv43) rfl rfl rfl) ?_
  refine rs rfl w0 rfl (st_alloc 6 (cs := [.d (.v (.int .i64 0)), .d (.v (.int .i64 0))]) tok rfl rfl rfl) ?_
  refine rw0 rfl w0 (bx_st (cs := _ :: _) tok rfl rfl rfl rfl rfl rfl rfl) ?_
  refine nx ?_
  refine aw_seq ?_
  refine aw_region_draw (is := [0, 1, 2, 3, 4, 5]) [0, 1, 0, 4, 3, 31] follows (by kernel_rfl) ?_
  refine rt_lk rfl w0 rfl (bx_fa tok rfl rfl rfl rfl rfl rfl rfl) rfl rfl rfl ?_
  refine rt_lk rfl w0 rfl (bx_ld1 tok rfl rfl rfl rfl rfl) rfl rfl rfl ?_
  refine rt_lk rfl w0 rfl (bx_fa tok rfl rfl rfl rfl rfl rfl rfl) rfl rfl rfl ?_
  refine rt_lk rfl w0 rfl (bx_ld1 tok rfl rfl rfl rfl rfl) rfl rfl rfl ?_
  refine tpa ?_
  refine tpa ?_
  refine rt_nil ?_
  refine ⟨by kernel_rfl, ?_⟩
  refine then_n ?_
  obtain ⟨v45, h5, h4⟩ := bnd h4
  refine aw_cut ⟨updA (updA (updA (updA (updA (updA (updA (updA (updA ((fun _ => .dead)) 2 (.ptr 3 0 1 0 0)) 6 (.own 4 0 (s41.2.2).length)) 7 (.d (.v (.bool s41.1)))) 10 (.ptr 5 0 1 0 0)) 11 (.d (.v (.int .i64 v45.1)))) 12 (.d (.v (.int .i64 v45.2.1)))) 25 (.d (.sl (List.map cMesh_ p0.Meshes)))) 26 (.d (.v (.int .i64 (p0.Meshes.length : Int))))) 27 (.d (.v (.int .i64 s41.2.1))), lks [.no, .no, .no, .live [⟨43, 2, .av [[.d (.sl (List.map cArbor_ p0.Arbors)), .d (.sl (List.map cMesh_ p0.Meshes))]]⟩], .live [⟨164, 2, .data (List.map cRatio_ s41.2.2)⟩], .live [⟨191, 2, .av [[.d (.v (.int .i64 v45.2.2.Driver)), .d (.v (.int .i64 v45.2.2.Driven))]]⟩]]⟩ ?_ ?_
  refine sq [0,1,2,3,4,5] ?_
  refine rp rfl w0 rfl (pu_move (r := .own _ _ _) rfl) ?_
  refine pm ?_
  obtain ⟨v44, hv44, h5⟩ := bnd h5
  refine rl rfl w0 rfl (ow_ix tok hv44 rfl rfl rfl rfl rfl rfl rfl rfl) ?_
  refine rl rfl w0 rfl (rw_fa tok (atI_e hv44).2.1 rfl rfl rfl rfl rfl rfl rfl rfl) ?_
  refine rl rfl w0 rfl (rw_ld1 tok (atI_e hv44).2.1 rfl rfl rfl rfl rfl rfl) ?_
  refine rp rfl w0 rfl (pu_eql rfl rfl) ?_
  refine nx ?_
  refine aw_if h5 rfl (fun hc h5 => ?_) (fun hc h5 => ?_)
  refine sq [0,1,2,3] ?_
  refine pm ?_
  refine pm ?_
  refine pa ?_
  refine pa ?_
  refine nx ?_
  refine sr [0,1,2,3,4,5] ?_
  refine fa tok ?_
  refine ld tok ?_
  refine fa tok ?_
  refine ld tok ?_
  refine rp rfl w0 rfl (pbl (C0 := [.d (.v (.int .i64 0)), .d (.v (.int .i64 0))]) tok rfl rfl rfl) ?_
  refine rw0 rfl w0 (bx_st (cs := _ :: _) tok rfl rfl rfl rfl rfl rfl rfl) ?_
  refine nx ?_
  cases h5
  exact wk [0, 1, 2, 3, 4, 6]
  refine sk ?_
  cases h5
  exact wk [0, 1, 2, 3, 4, 6]
  refine aw_seq ?_
  obtain ⟨v48, h5, h4⟩ := bnd h4
  refine aw_cut ⟨updA (updA (updA (updA (updA (updA (updA (updA (updA (updA ((fun _ => .dead)) 2 (.ptr 3 0 1 0 0)) 6 (.own 4 0 (s41.2.2).length)) 7 (.d (.v (.bool s41.1)))) 10 (.ptr 5 0 1 0 0)) 11 (.d (.v (.int .i64 v45.1)))) 12 (.d (.v (.int .i64 v45.2.1)))) 25 (.d (.sl (List.map cMesh_ p0.Meshes)))) 26 (.d (.v (.int .i64 (p0.Meshes.length : Int))))) 27 (.d (.v (.int .i64 s41.2.1)))) 64 (.d (.v (.bool v48))), lks [.no, .no, .no, .live [⟨43, 2, .av [[.d (.sl (List.map cArbor_ p0.Arbors)), .d (.sl (List.map cMesh_ p0.Meshes))]]⟩], .live [⟨164, 2, .data (List.map cRatio_ s41.2.2)⟩], .live [⟨191, 2, .av [[.d (.v (.int .i64 v45.2.2.Driver)), .d (.v (.int .i64 v45.2.2.Driven))]]⟩]]⟩ ?_ ?_
  refine sr [0,1,2,3,4,5,6,7,8,9,10,11,12,13] ?_
  refine rp rfl w0 rfl (pu_move (r := .own _ _ _) rfl) ?_
  refine pm ?_
  obtain ⟨v46, hv46, h5⟩ := bnd h5
  refine rl rfl w0 rfl (ow_ix tok hv46 rfl rfl rfl rfl rfl rfl rfl rfl) ?_
  refine rl rfl w0 rfl (rw_fa tok (atI_e hv46).2.1 rfl rfl rfl rfl rfl rfl rfl rfl) ?_
  refine rl rfl w0 rfl (rw_ld1 tok (atI_e hv46).2.1 rfl rfl rfl rfl rfl rfl) ?_
  refine rp rfl w0 rfl (pu_eql rfl rfl) ?_
  refine pm ?_
  refine ra_if (u := 57) h5 rfl (fun hc h5 => ?_) (fun hc h5 => ?_)
  iterate 6 refine k1 ?_
  refine pkt ?_
  refine nx ?_
  cases h5
  exact wk [0, 1, 2, 3, 4, 5]
  refine rp rfl (w1 rfl rfl rfl) rfl (pu_move (r := .own _ _ _) rfl) ?_
  refine pm1 ?_
  obtain ⟨v47, hv47, h5⟩ := bnd h5
  refine rl rfl (w1 rfl rfl rfl) rfl (ow_ix tok hv47 rfl rfl rfl rfl rfl rfl rfl rfl) ?_
  refine rl rfl (w1 rfl rfl rfl) rfl (rw_fa tok (atI_e hv47).2.1 rfl rfl rfl rfl rfl rfl rfl rfl) ?_
  refine rl rfl (w1 rfl rfl rfl) rfl (rw_ld1 tok (atI_e hv47).2.1 rfl rfl rfl rfl rfl rfl) ?_
  refine rp rfl (w1 rfl rfl rfl) rfl (pu_neq rfl rfl) ?_
  refine pkf ?_
  refine nx ?_
  cases h5
  exact wk [0, 1, 2, 3, 4, 5]
  refine aw_ifB h4 rfl (fun hc h4 => ?_) (fun hc h4 => ?_)
  refine aw_exit ?_
  refine then_e ?_
  refine block_hit ?_
  refine then_n ?_
  cases h4
  refine ⟨_, rfl, ?_⟩
  exact wk [0, 1, 2, 3, 4]
  refine sk ?_
  refine aw_seq ?_
  refine aw_region_draw (is := [0, 1, 2, 3, 4, 5, 6, 7, 8, 9, 10, 11, 12, 13, 14]) [0, 0, 3, 7, 0, 16, 0, 64, 255, 511, 1023, 1023, 0, 6143, 16383] follows (by kernel_rfl) ?_
  refine rt_p rfl w0 rfl (pu_move (r := .own _ _ _) rfl) ?_
  refine tpm ?_
  obtain ⟨v49, hv49, h4⟩ := bnd h4
  refine rt_lk rfl w0 rfl (ow_ix tok hv49 rfl rfl rfl rfl rfl rfl rfl rfl) rfl rfl rfl ?_
  refine rt_lk rfl w0 rfl (rw_ldN tok (atI_e hv49).2.1 rfl rfl rfl rfl rfl) rfl rfl rfl ?_
  refine rt_lk rfl w0 rfl (bx_fa tok rfl rfl rfl rfl rfl rfl rfl) rfl rfl rfl ?_
  refine rt_lk rfl w0 rfl (bx_ld1 tok rfl rfl rfl rfl rfl) rfl rfl rfl ?_
  refine rt_lk rfl w0 rfl (bx_fa tok rfl rfl rfl rfl rfl rfl rfl) rfl rfl rfl ?_
  refine rt_lk rfl w0 rfl (bx_ld1 tok rfl rfl rfl rfl rfl) rfl rfl rfl ?_
  obtain ⟨v50, hv50, h4⟩ := bnd h4
  refine rt_c rfl w0 rfl (b_call 7 (i_meshed_c hv50) rfl rfl rfl) ?_
  refine rt_p rfl w0 rfl (pu_move (r := .tup _) rfl) ?_
  refine rt_p rfl w0 rfl (pu_extract rfl rfl) ?_
  refine rt_p rfl w0 rfl (pu_extract rfl rfl) ?_
  refine rt_a rfl w0 rfl rfl (fun hx hk => st_alloc 6 (cs := [.d (.v (.int .i64 0)), .d (.v (.int .i64 0))]) tok rfl rfl hk) ?_
  refine rt_wk rfl w0 (bx_st (cs := _ :: _) tok rfl rfl rfl rfl rfl rfl rfl) ?_
  refine tpa ?_
  refine rt_nil ?_
  refine ⟨by kernel_rfl, ?_⟩
  refine then_n ?_
  refine aw_seq ?_
  refine sq [0,1] ?_
  refine pm ?_
  refine rp rfl w0 rfl (pu_neq rfl rfl) ?_
  refine nx ?_
  refine aw_if h4 rfl (fun hc h4 => ?_) (fun hc h4 => ?_)
  refine sq [0,1,2] ?_
  refine pm ?_
  refine pa ?_
  refine pa ?_
  refine nx ?_
  refine aw_weak (weak_adopt_t 7 rfl 164 2 (d := 4) rfl) ?_
  refine aw_ret ?_
  refine then_r ?_
  refine block_r ?_
  cases h4
  replace h3 := orE_s h3
  refine then_r ?_
  cases h3
  refine loop_r ⟨_, rfl, fun e => ?_⟩
  subst e
  refine block_r ?_
  refine block_r ?_
  refine loop_r ⟨_, rfl, fun e => ?_⟩
  subst e
  refine block_r ?_
  replace h0 := orE_s h0
  refine then_r ?_
  cases h0
  exact retK_ (rs := [.tmp 4, .tmp 5]) [7] rfl
  refine sk ?_
  refine sq [0,1,2,3,4] ?_
  refine rp rfl w0 rfl (pu_move (r := .own _ _ _) rfl) ?_
  refine pm ?_
  refine rl rfl w0 rfl (bx_ldN tok rfl rfl rfl rfl) ?_
  obtain ⟨v51, hv51, h4⟩ := bnd h4
  refine rl rfl w0 rfl (ow_ix tok hv51 rfl rfl rfl rfl rfl rfl rfl rfl) ?_
  refine rw0 rfl w0 (rw_st (cs := _ :: _) tok v50.1 (atI_e hv51).2.1 rfl rfl rfl rfl rfl rfl rfl rfl) ?_
  refine nx ?_
  refine sr [0] ?_
  refine pa ?_
  refine ra_nil ?_
  refine block_n ?_
  refine then_n ?_
  cases h4
  refine ⟨_, rfl, ?_⟩
  exact wk [0, 1, 2, 3, 4]
  rintro v52 rfl
  replace h3 := orE_f h3
  refine sr [0,1] ?_
  refine rp rfl w0 rfl (pw_add rfl rfl) ?_
  refine pm ?_
  refine ra_nil ?_
  refine loop_n ?_
  cases h3
  refine ⟨_, rfl, ?_⟩
  exact wk [0, 1, 2, 3, 4]
  refine aw_exit ?_
  refine then_e ?_
  cases h3
  refine loop_x ⟨_, rfl, fun e => ?_⟩
  subst e
  refine block_hit ?_
  refine block_n ?_
  refine loop_n ?_
  refine ⟨_, rfl, ?_⟩
  exact wk [0, 1, 2, 3, 4]
  refine aw_exit ?_
  refine then_e ?_
  cases h2
  refine loop_x ⟨_, rfl, fun e => ?_⟩
  subst e
  refine block_hit ?_
  refine then_n ?_
  refine ⟨_, rfl, ?_⟩
  exact wk [0, 1, 2, 4]
  rintro v53 rfl
  replace h0 := orE_f h0
  refine sq [0,1,2] ?_
  refine rp rfl w0 rfl (pu_move (r := .own _ _ _) rfl) ?_
  refine rp rfl w0 rfl (pu_assign (r := .own _ _ _) rfl) ?_
  refine pa ?_
  refine nx ?_
  refine aw_ret ?_
  cases h0
  exact retK_ (rs := [.tmp 4, .tmp 5]) [3] rfl

theorem i_SpeedsOf_1_c {p0 : Ratio_} {r : Bool} (h0 : i_SpeedsOf_1_m p0 = some r) : FnC Tryz.prog 239 [] [.agg [.d (.v (.int .i64 p0.Num)), .d (.v (.int .i64 p0.Den))]] [] (.d (.v (.bool r))) := by
  refine fnc_intro (T := tt) (N := 6) tok Tryz.func239 rfl rfl (by kernel_rfl) rfl rfl ?_
  unfold i_SpeedsOf_1_m at h0
  refine sq [0,1] ?_
  refine rs rfl w0 rfl (st_box 3 (cs := _ :: _) rfl rfl rfl) ?_
  refine pa ?_
  refine nx ?_
  refine sq [0,1,2,3] ?_
  refine fa tok ?_
  refine ld tok ?_
  refine rp rfl w0 rfl (pu_eql rfl rfl) ?_
  refine pa ?_
  refine nx ?_
  refine aw_ret ?_
  cases h0
  exact ret0_ (rs := [.tmp 2]) rfl

theorem slices_IndexFunc_LRatio_Ratio_i_SpeedsOf_1_c {p0 : List Ratio_} {r : Int} (h0 : slices_IndexFunc_LRatio_Ratio_i_SpeedsOf_1_m p0 = some r) : FnC Tryz.prog 253 [] [.d (.sl (List.map cRatio_ p0)), .fn 239 []] [] (.d (.v (.int .i64 r))) := by
  refine fnc_intro (T := tt) (N := 19) tok Tryz.func253 rfl rfl (by kernel_rfl) rfl rfl ?_
  unfold slices_IndexFunc_LRatio_Ratio_i_SpeedsOf_1_m at h0
  refine sq [0] ?_
  refine pa ?_
  refine nx ?_
  obtain ⟨v7x, h1, h0⟩ := bnd h0
  refine aw_cutE v7x (fun v7 => ⟨(fun _ => .dead), lks [.no, .no, .no]⟩) ?_ ?_
  refine sq [0,1,2] ?_
  refine pm ?_
  refine rp rfl w0 rfl (pu_len_map tok rfl rfl rfl) ?_
  refine pm ?_
  refine nx ?_
  refine aw_block ?_
  refine aw_loopM (fun s4 => ⟨updA (updA (updA (updA ((fun _ => .dead)) 0 (.d (.sl (List.map cRatio_ p0)))) 1 (.fn 239 [])) 7 (.d (.v (.int .i64 (p0.length : Int))))) 8 (.d (.v (.int .i64 s4))), lks [.no, .no, .no]⟩) h1 ?_ (fun s4 y h2 => ?_)
  exact wk [0, 1, 2]
  refine sq [0] ?_
  refine rp rfl w0 rfl (pu_lss rfl rfl) ?_
  refine nx ?_
  refine aw_seq ?_
  refine aw_if h2 rfl (fun hc h2 => ?_) (fun hc h2 => ?_)
  refine sk ?_
  refine aw_seq ?_
  refine aw_block ?_
  refine sq [0,1] ?_
  refine pm ?_
  refine pa ?_
  refine nx ?_
  refine sq [0,1,2,3,4,5] ?_
  refine rp rfl w0 rfl (pu_move (r := .fn _ _) rfl) ?_
  refine pm ?_
  refine pm ?_
  obtain ⟨v5, hv5, h2⟩ := bnd h2
  refine rp rfl w0 rfl (sl_ix tok hv5 rfl rfl rfl rfl rfl rfl) ?_
  refine rp rfl w0 rfl (pu_load_refN tok rfl rfl rfl (by repeat (first | exact SegD.z _ | apply SegD.t))) ?_
  obtain ⟨v6, hv6, h2⟩ := bnd h2
  refine rs rfl w0 rfl (c_call 3 (i_SpeedsOf_1_c hv6) rfl rfl rfl) ?_
  refine nx ?_
  refine aw_ifB h2 rfl (fun hc h2 => ?_) (fun hc h2 => ?_)
  refine sq [0,1] ?_
  refine pm ?_
  refine pa ?_
  refine nx ?_
  refine aw_ret ?_
  refine block_r ?_
  refine then_r ?_
  cases h2
  refine loop_r ⟨_, rfl, fun e => ?_⟩
  subst e
  refine block_r ?_
  replace h0 := orE_s h0
  refine then_r ?_
  cases h0
  exact ret0_ (rs := [.tmp 4]) rfl
  refine aw_skip ?_
  refine block_n ?_
  refine then_n ?_
  refine sr [0,1] ?_
  refine rp rfl w0 rfl (pw_add rfl rfl) ?_
  refine pm ?_
  refine ra_nil ?_
  refine loop_n ?_
  cases h2
  refine ⟨_, rfl, ?_⟩
  exact wk [0, 1, 2]
  refine aw_exit ?_
  refine then_e ?_
  cases h2
  refine loop_x ⟨_, rfl, fun e => ?_⟩
  subst e
  refine block_hit ?_
  refine then_n ?_
  refine ⟨_, rfl, ?_⟩
  exact wk [0, 1, 2]
  rintro v7 rfl
  replace h0 := orE_f h0
  refine sq [0] ?_
  refine pa ?_
  refine nx ?_
  refine aw_ret ?_
  cases h0
  exact ret0_ (rs := [.tmp 4]) rfl

theorem slices_ContainsFunc_LRatio_Ratio_i_SpeedsOf_1_c {p0 : List Ratio_} {r : Bool} (h0 : slices_ContainsFunc_LRatio_Ratio_i_SpeedsOf_1_m p0 = some r) : FnC Tryz.prog 238 [] [.d (.sl (List.map cRatio_ p0)), .fn 239 []] [] (.d (.v (.bool r))) := by
  refine fnc_intro (T := tt) (N := 9) tok Tryz.func238 rfl rfl (by kernel_rfl) rfl rfl ?_
  unfold slices_ContainsFunc_LRatio_Ratio_i_SpeedsOf_1_m at h0
  refine sq [0] ?_
  refine pa ?_
  refine nx ?_
  refine sq [0,1,2,3,4] ?_
  refine pm ?_
  refine rp rfl w0 rfl (pu_move (r := .fn _ _) rfl) ?_
  obtain ⟨v1, hv1, h0⟩ := bnd h0
  refine rs rfl w0 rfl (c_call 3 (slices_IndexFunc_LRatio_Ratio_i_SpeedsOf_1_c hv1) rfl rfl rfl) ?_
  refine rp rfl w0 rfl (pu_geq rfl rfl) ?_
  refine pa ?_
  refine nx ?_
  refine aw_ret ?_
  cases h0
  exact ret0_ (rs := [.tmp 4]) rfl

theorem i_SpeedsOf_c {p0 : Works_} {p1 : Int} {r : List Ratio_ × Int} (h0 : i_SpeedsOf_m p0 p1 = some r) : FnC Tryz.prog 199 [] [.agg [.d (.sl (List.map cArbor_ p0.Arbors)), .d (.sl (List.map cMesh_ p0.Meshes))], .d (.v (.int .i64 p1))] [.live [⟨164, 2, .data (List.map cRatio_ r.1)⟩]] (.tup [.own 0 0 r.1.length, .d (.v (.int .i64 r.2))]) := by
  refine fnc_intro (T := tt) (N := 70) tok Tryz.func199 rfl rfl (by kernel_rfl) rfl rfl ?_
  unfold i_SpeedsOf_m at h0
  refine sq [0,1,2] ?_
  refine rs rfl w0 rfl (st_box 3 (cs := _ :: _) rfl rfl rfl) ?_
  refine pa ?_
  refine pa ?_
  refine nx ?_
  refine aw_seq ?_
  refine sq [0,1,2] ?_
  refine rl rfl w0 rfl (bx_ldN tok rfl rfl rfl rfl) ?_
  obtain ⟨v1, hv1, h0⟩ := bnd h0
  refine rs rfl w0 rfl (c_call 4 (i_ValidWorks_c hv1) rfl rfl rfl) ?_
  refine rp rfl w0 rfl (pu_not rfl) ?_
  refine nx ?_
  refine aw_ifB h0 rfl (fun hc h0 => ?_) (fun hc h0 => ?_)
  refine sq [0,1] ?_
  refine pa ?_
  refine pa ?_
  refine nx ?_
  refine aw_weak (weak_adopt_t 4 rfl 164 2 (d := 4) rfl) ?_
  refine aw_ret ?_
  refine then_r ?_
  cases h0
  exact retK_ (rs := [.tmp 4, .tmp 5]) [4] rfl
  refine sk ?_
  refine aw_seq ?_
  refine sq [0,1,2,3,4,5,6] ?_
  refine pm ?_
  refine fa tok ?_
  refine ld tok ?_
  refine rp rfl w0 rfl (pu_len_map tok rfl rfl rfl) ?_
  refine rp rfl w0 rfl (pw_sub rfl rfl) ?_
  obtain ⟨v2, hv2, h0⟩ := bnd h0
  refine rs rfl w0 rfl (c_call 4 (i_within_c hv2) rfl rfl rfl) ?_
  refine rp rfl w0 rfl (pu_not rfl) ?_
  refine nx ?_
  refine aw_ifB h0 rfl (fun hc h0 => ?_) (fun hc h0 => ?_)
  refine sq [0,1] ?_
  refine pa ?_
  refine pa ?_
  refine nx ?_
  refine aw_weak (weak_adopt_t 4 rfl 164 2 (d := 4) rfl) ?_
  refine aw_ret ?_
  refine then_r ?_
  cases h0
  exact retK_ (rs := [.tmp 4, .tmp 5]) [4] rfl
  refine sk ?_
  refine sq [0,1,2,3,4,5,6,7] ?_
  refine rl rfl w0 rfl (bx_ldN tok rfl rfl rfl rfl) ?_
  refine pm ?_
  obtain ⟨v3, hv3, h0⟩ := bnd h0
  refine rs rfl w0 rfl (c_call 4 (i_speedsFrom_c hv3) rfl rfl rfl) ?_
  refine rp rfl w0 rfl (pu_move (r := .tup _) rfl) ?_
  refine rp rfl w0 rfl (pu_extract rfl rfl) ?_
  refine rp rfl w0 rfl (pu_extract rfl rfl) ?_
  refine rp rfl w0 rfl (pu_assign (r := .own _ _ _) rfl) ?_
  refine pa ?_
  refine nx ?_
  refine aw_seq ?_
  refine sq [0,1] ?_
  refine pm ?_
  refine rp rfl w0 rfl (pu_neq rfl rfl) ?_
  refine nx ?_
  refine aw_if h0 rfl (fun hc h0 => ?_) (fun hc h0 => ?_)
  refine sq [0,1,2] ?_
  refine pm ?_
  refine pa ?_
  refine pa ?_
  refine nx ?_
  refine aw_weak (weak_adopt_t 5 rfl 164 2 (d := 4) rfl) ?_
  refine aw_ret ?_
  refine then_r ?_
  cases h0
  exact retK_ (rs := [.tmp 4, .tmp 5]) [5] rfl
  refine sk ?_
  refine aw_seq ?_
  refine sq [0,1] ?_
  refine rp rfl w0 rfl (pu_move (r := .own _ _ _) rfl) ?_
  obtain ⟨v4, hv4, h0⟩ := bnd h0
  refine rs rfl w0 rfl (c_callV 5 (slices_ContainsFunc_LRatio_Ratio_i_SpeedsOf_1_c hv4) rfl rfl) ?_
  refine nx ?_
  refine aw_ifB h0 rfl (fun hc h0 => ?_) (fun hc h0 => ?_)
  refine sq [0,1] ?_
  refine pa ?_
  refine pa ?_
  refine nx ?_
  refine aw_weak (weak_adopt_t 5 rfl 164 2 (d := 4) rfl) ?_
  refine aw_ret ?_
  refine then_r ?_
  cases h0
  exact retK_ (rs := [.tmp 4, .tmp 5]) [5] rfl
  refine sk ?_
  obtain ⟨v19x, h1, h0⟩ := bnd h0
  refine aw_cutE v19x (fun v19 => ⟨updA ((fun _ => .dead)) 6 (.own 3 0 (v3.1).length), lks [.no, .no, .no, .live [⟨164, 2, .data (List.map cRatio_ v3.1)⟩]]⟩) ?_ ?_
  refine sq [0,1,2,3] ?_
  refine fa tok ?_
  refine ld tok ?_
  refine rp rfl w0 rfl (pu_len_map tok rfl rfl rfl) ?_
  refine pm ?_
  refine nx ?_
  refine aw_block ?_
  refine aw_loopM (fun s12 => ⟨updA (updA (updA (updA (updA ((fun _ => .dead)) 2 (.ptr 3 0 1 0 0)) 6 (.own 4 0 (v3.1).length)) 35 (.d (.sl (List.map cMesh_ p0.Meshes)))) 36 (.d (.v (.int .i64 (p0.Meshes.length : Int))))) 37 (.d (.v (.int .i64 s12))), lks [.no, .no, .no, .live [⟨43, 2, .av [[.d (.sl (List.map cArbor_ p0.Arbors)), .d (.sl (List.map cMesh_ p0.Meshes))]]⟩], .live [⟨164, 2, .data (List.map cRatio_ v3.1)⟩]]⟩) h1 ?_ (fun s12 y h2 => ?_)
  exact wk [0, 1, 2, 3, 4]
  refine sq [0] ?_
  refine rp rfl w0 rfl (pu_lss rfl rfl) ?_
  refine nx ?_
  refine aw_seq ?_
  refine aw_if h2 rfl (fun hc h2 => ?_) (fun hc h2 => ?_)
  refine sk ?_
  refine aw_seq ?_
  refine aw_block ?_
  refine sq [0,1,2,3] ?_
  obtain ⟨v13, hv13, h2⟩ := bnd h2
  refine rp rfl w0 rfl (sl_ix tok hv13 rfl rfl rfl rfl rfl rfl) ?_
  refine rp rfl w0 rfl (pu_load_refN tok rfl rfl rfl (by repeat (first | exact SegD.z _ | apply SegD.t))) ?_
  refine rs rfl w0 rfl (st_alloc 5 (cs := [.d (.v (.int .i64 0)), .d (.v (.int .i64 0)), .d (.v (.int .i64 0)), .d (.v (.int .i64 0))]) tok rfl rfl rfl) ?_
  refine rw0 rfl w0 (bx_st (cs := _ :: _) tok rfl rfl rfl rfl rfl rfl rfl) ?_
  refine nx ?_
  refine sq [0,1,2,3,4] ?_
  refine rl rfl w0 rfl (bx_ldN tok rfl rfl rfl rfl) ?_
  refine rl rfl w0 rfl (bx_ldN tok rfl rfl rfl rfl) ?_
  obtain ⟨v14, hv14, h2⟩ := bnd h2
  refine rs rfl w0 rfl (c_call 6 (i_pairOf_c hv14) rfl rfl rfl) ?_
  refine rs rfl w0 rfl (st_alloc 6 (cs := [.d (.v (.int .i64 0)), .d (.v (.int .i64 0))]) tok rfl rfl rfl) ?_
  refine rw0 rfl w0 (bx_st (cs := _ :: _) tok rfl rfl rfl rfl rfl rfl rfl) ?_
  refine nx ?_
  refine aw_seq ?_
  refine aw_region_draw (is := [0, 1, 2, 3, 4, 5, 6, 7, 8, 9, 10, 11, 12, 13, 14, 15]) [0, 0, 2, 7, 15, 0, 32, 0, 128, 511, 1023, 2047, 2047, 0, 12287, 32767] follows (by kernel_rfl) ?_
  refine rt_p rfl w0 rfl (pu_move (r := .own _ _ _) rfl) ?_
  refine rt_lk rfl w0 rfl (bx_fa tok rfl rfl rfl rfl rfl rfl rfl) rfl rfl rfl ?_
  refine rt_lk rfl w0 rfl (bx_ld1 tok rfl rfl rfl rfl rfl) rfl rfl rfl ?_
  obtain ⟨v15, hv15, h2⟩ := bnd h2
  refine rt_lk rfl w0 rfl (ow_ix tok hv15 rfl rfl rfl rfl rfl rfl rfl rfl) rfl rfl rfl ?_
  refine rt_lk rfl w0 rfl (rw_ldN tok (atI_e hv15).2.1 rfl rfl rfl rfl rfl) rfl rfl rfl ?_
  refine rt_lk rfl w0 rfl (bx_fa tok rfl rfl rfl rfl rfl rfl rfl) rfl rfl rfl ?_
  refine rt_lk rfl w0 rfl (bx_ld1 tok rfl rfl rfl rfl rfl) rfl rfl rfl ?_
  refine rt_lk rfl w0 rfl (bx_fa tok rfl rfl rfl rfl rfl rfl rfl) rfl rfl rfl ?_
  refine rt_lk rfl w0 rfl (bx_ld1 tok rfl rfl rfl rfl rfl) rfl rfl rfl ?_
  obtain ⟨v16, hv16, h2⟩ := bnd h2
  refine rt_c rfl w0 rfl (b_call 8 (i_meshed_c hv16) rfl rfl rfl) ?_
  refine rt_p rfl w0 rfl (pu_move (r := .tup _) rfl) ?_
  refine rt_p rfl w0 rfl (pu_extract rfl rfl) ?_
  refine rt_p rfl w0 rfl (pu_extract rfl rfl) ?_
  refine rt_a rfl w0 rfl rfl (fun hx hk => st_alloc 7 (cs := [.d (.v (.int .i64 0)), .d (.v (.int .i64 0))]) tok rfl rfl hk) ?_
  refine rt_wk rfl w0 (bx_st (cs := _ :: _) tok rfl rfl rfl rfl rfl rfl rfl) ?_
  refine tpa ?_
  refine rt_nil ?_
  refine ⟨by kernel_rfl, ?_⟩
  refine then_n ?_
  obtain ⟨v18, h3, h2⟩ := bnd h2
  refine aw_cut ⟨updA (updA (updA (updA (updA (updA ((fun _ => .dead)) 2 (.ptr 3 0 1 0 0)) 6 (.own 4 0 (v3.1).length)) 35 (.d (.sl (List.map cMesh_ p0.Meshes)))) 36 (.d (.v (.int .i64 (p0.Meshes.length : Int))))) 37 (.d (.v (.int .i64 s12)))) 67 (.d (.v (.bool v18))), lks [.no, .no, .no, .live [⟨43, 2, .av [[.d (.sl (List.map cArbor_ p0.Arbors)), .d (.sl (List.map cMesh_ p0.Meshes))]]⟩], .live [⟨164, 2, .data (List.map cRatio_ v3.1)⟩]]⟩ ?_ ?_
  refine aw_region_draw (is := [0, 1, 2, 3, 4, 5, 6, 7, 8, 9, 10]) [0, 1, 3, 7, 7, 7, 39, 119, 247, 511, 1023] follows (by kernel_rfl) ?_
  refine tpm ?_
  refine rt_p rfl w0 rfl (pu_neq rfl rfl) ?_
  refine tpm ?_
  refine rt_if (u := 59) h3 rfl (fun hc h3 => ?_) (fun hc h3 => ?_)
  iterate 7 refine k2 ?_
  refine tpkt ?_
  refine rt_nil ?_
  refine ⟨by kernel_rfl, ?_⟩
  refine then_n ?_
  cases h3
  exact wk [0, 1, 2, 3, 4]
  refine rt_lk rfl (w1 rfl rfl rfl) rfl (bx_ldN tok rfl rfl rfl rfl) rfl rfl rfl ?_
  refine rt_p rfl (w1 rfl rfl rfl) rfl (pu_move (r := .own _ _ _) rfl) ?_
  refine rt_lk rfl (w1 rfl rfl rfl) rfl (bx_fa tok rfl rfl rfl rfl rfl rfl rfl) rfl rfl rfl ?_
  refine rt_lk rfl (w1 rfl rfl rfl) rfl (bx_ld1 tok rfl rfl rfl rfl rfl) rfl rfl rfl ?_
  obtain ⟨v17, hv17, h3⟩ := bnd h3
  refine rt_lk rfl (w1 rfl rfl rfl) rfl (ow_ix tok hv17 rfl rfl rfl rfl rfl rfl rfl rfl) rfl rfl rfl ?_
  refine rt_lk rfl (w1 rfl rfl rfl) rfl (rw_ldN tok (atI_e hv17).2.1 rfl rfl rfl rfl rfl) rfl rfl rfl ?_
  refine rt_p rfl (w1 rfl rfl rfl) rfl (ps_neq_Ratio_ (a := v16.1) (b := v17) rfl rfl) ?_
  refine tpkf ?_
  refine rt_nil ?_
  refine ⟨by kernel_rfl, ?_⟩
  refine then_n ?_
  cases h3
  exact wk [0, 1, 2, 3, 4]
  refine aw_ifB h2 rfl (fun hc h2 => ?_) (fun hc h2 => ?_)
  refine sq [0,1] ?_
  refine pa ?_
  refine pa ?_
  refine nx ?_
  refine aw_weak (weak_adopt_t 5 rfl 164 2 (d := 4) rfl) ?_
  refine aw_ret ?_
  refine block_r ?_
  refine then_r ?_
  cases h2
  refine loop_r ⟨_, rfl, fun e => ?_⟩
  subst e
  refine block_r ?_
  replace h0 := orE_s h0
  refine then_r ?_
  cases h0
  exact retK_ (rs := [.tmp 4, .tmp 5]) [5] rfl
  refine aw_skip ?_
  refine block_n ?_
  refine then_n ?_
  refine sr [0,1] ?_
  refine rp rfl w0 rfl (pw_add rfl rfl) ?_
  refine pm ?_
  refine ra_nil ?_
  refine loop_n ?_
  cases h2
  refine ⟨_, rfl, ?_⟩
  exact wk [0, 1, 2, 3, 4]
  refine aw_exit ?_
  refine then_e ?_
  cases h2
  refine loop_x ⟨_, rfl, fun e => ?_⟩
  subst e
  refine block_hit ?_
  refine then_n ?_
  refine ⟨_, rfl, ?_⟩
  exact wk [0, 1, 2, 4]
  rintro v19 rfl
  replace h0 := orE_f h0
  refine sq [0,1,2] ?_
  refine rp rfl w0 rfl (pu_move (r := .own _ _ _) rfl) ?_
  refine rp rfl w0 rfl (pu_assign (r := .own _ _ _) rfl) ?_
  refine pa ?_
  refine nx ?_
  refine aw_ret ?_
  cases h0
  exact retK_ (rs := [.tmp 4, .tmp 5]) [3] rfl

theorem i_abs_c {p0 : Int} {r : Int} (h0 : i_abs_m p0 = some r) : FnC Tryz.prog 200 [] [.d (.v (.int .i64 p0))] [] (.d (.v (.int .i64 r))) := by
  refine fnc_intro (T := tt) (N := 8) tok Tryz.func200 rfl rfl (by kernel_rfl) rfl rfl ?_
  unfold i_abs_m at h0
  refine sq [0] ?_
  refine pa ?_
  refine nx ?_
  refine aw_seq ?_
  refine sq [0,1] ?_
  refine pm ?_
  refine rp rfl w0 rfl (pu_lss rfl rfl) ?_
  refine nx ?_
  refine aw_if h0 rfl (fun hc h0 => ?_) (fun hc h0 => ?_)
  refine sq [0,1,2] ?_
  refine pm ?_
  refine rp rfl w0 rfl (pw_neg rfl) ?_
  refine pa ?_
  refine nx ?_
  refine aw_ret ?_
  refine then_r ?_
  cases h0
  exact ret0_ (rs := [.tmp 2]) rfl
  refine sk ?_
  refine sq [0,1] ?_
  refine pm ?_
  refine pa ?_
  refine nx ?_
  refine aw_ret ?_
  cases h0
  exact ret0_ (rs := [.tmp 2]) rfl

theorem i_belongs_c {p0 : Calendar_} {p1 : List Int} {r : Int} (h0 : i_belongs_m p0 p1 = some r) : FnC Tryz.prog 110 [] [.agg [.d (.v (.string p0.Name)), .d (.sl (List.map cMonth_ p0.Months)), .d (.sl (List.map cLeapRule_ p0.Rules)), .d (.v (.int .i64 p0.Week))], .d (.sl (List.map cI p1))] [] (.d (.v (.int .i64 r))) := by
  refine fnc_intro (T := tt) (N := 18) tok Tryz.func110 rfl rfl (by kernel_rfl) rfl rfl ?_
  unfold i_belongs_m at h0
  refine sq [0,1] ?_
  refine rs rfl w0 rfl (st_box 3 (cs := _ :: _) rfl rfl rfl) ?_
  refine pa ?_
  refine nx ?_
  refine aw_seq ?_
  refine sq [0,1,2,3,4,5,6] ?_
  refine pm ?_
  refine rp rfl w0 rfl (pu_len_map tok rfl rfl rfl) ?_
  refine fa tok ?_
  refine ld tok ?_
  refine rp rfl w0 rfl (pu_len_map tok rfl rfl rfl) ?_
  obtain ⟨hq1, h0⟩ := chk_e h0
  refine rp rfl w0 rfl (pu_remw rfl rfl hq1) ?_
  refine rp rfl w0 rfl (pu_neq rfl rfl) ?_
  refine nx ?_
  refine aw_if h0 rfl (fun hc h0 => ?_) (fun hc h0 => ?_)
  refine sq [0] ?_
  refine pa ?_
  refine nx ?_
  refine aw_ret ?_
  refine then_r ?_
  cases h0
  exact ret0_ (rs := [.tmp 4]) rfl
  refine sk ?_
  refine sq [0,1,2,3,4,5,6] ?_
  refine pm ?_
  refine rp rfl w0 rfl (pu_len_map tok rfl rfl rfl) ?_
  refine fa tok ?_
  refine ld tok ?_
  refine rp rfl w0 rfl (pu_len_map tok rfl rfl rfl) ?_
  obtain ⟨hq2, h0⟩ := chk_e h0
  refine rp rfl w0 rfl (pw_quo rfl rfl hq2) ?_
  refine pa ?_
  refine nx ?_
  refine aw_ret ?_
  cases h0
  exact ret0_ (rs := [.tmp 4]) rfl

theorem i_MovementFaults_c {p0 : Movement_} {r : List ByteArray} (h0 : i_MovementFaults_m p0 = some r) : FnC Tryz.prog 135 [] [.agg [.d (.v (.string p0.Name)), .d (.sl (List.map cArbor_ p0.Works.Arbors)), .d (.sl (List.map cMesh_ p0.Works.Meshes)), .d (.v (.int .i64 p0.Minute)), .d (.v (.int .i64 p0.Hour)), .d (.v (.int .i64 p0.Escape)), .d (.v (.int .i64 p0.Teeth)), .d (.v (.int .i64 p0.Beats)), .d (.v (.string p0.Calendar.Name)), .d (.sl (List.map cMonth_ p0.Calendar.Months)), .d (.sl (List.map cLeapRule_ p0.Calendar.Rules)), .d (.v (.int .i64 p0.Calendar.Week)), .d (.sl (List.map cI p0.Cam)), .d (.v (.int .i64 p0.Strike))]] [.live [⟨9, 1, .data (List.map cS r)⟩]] (.own 0 0 r.length) := by
  refine fnc_intro (T := tt) (N := 65) tok Tryz.func135 rfl rfl (by kernel_rfl) rfl rfl ?_
  unfold i_MovementFaults_m at h0
  refine sq [0,1] ?_
  refine rs rfl w0 rfl (st_box 3 (cs := _ :: _) rfl rfl rfl) ?_
  refine pa ?_
  refine nx ?_
  refine aw_seq ?_
  refine sq [0,1,2] ?_
  refine rl rfl w0 rfl (bx_ldN tok rfl rfl rfl rfl) ?_
  obtain ⟨v1, hv1, h0⟩ := bnd h0
  refine rs rfl w0 rfl (c_call 4 (i_ValidMovement_c hv1) rfl rfl rfl) ?_
  refine rp rfl w0 rfl (pu_not rfl) ?_
  refine nx ?_
  refine aw_ifB h0 rfl (fun hc h0 => ?_) (fun hc h0 => ?_)
  refine sq [0,1] ?_
  refine rs rfl w0 rfl (bs_own 4 tok cS [(⟨#[109, 111, 118, 101, 109, 101, 110, 116]⟩ : ByteArray)] rfl rfl rfl (by repeat (first | exact Els.nil _ | apply Els.cons (cs := [.d _]) rfl rfl rfl | apply Els.cons (cs := _ :: _) rfl rfl rfl)) rfl rfl rfl (by repeat (first | exact AllDD.nil | (apply AllDD.cons; (repeat (first | exact AllD.nil | apply AllD.cons))))) rfl rfl) ?_
  refine rp rfl w0 rfl (pu_assign (r := .own _ _ _) rfl) ?_
  refine nx ?_
  refine aw_ret ?_
  refine then_r ?_
  cases h0
  exact retK_ (rs := [.tmp 2]) [4] rfl
  refine sk ?_
  refine sq [0] ?_
  refine pa ?_
  refine nx ?_
  refine sq [0,1,2,3,4,5,6,7,8,9] ?_
  refine fa tok ?_
  refine rl rfl w0 rfl (bx_ldN tok rfl rfl rfl rfl) ?_
  refine fa tok ?_
  refine ld tok ?_
  obtain ⟨v2, hv2, h0⟩ := bnd h0
  refine rs rfl w0 rfl (c_call 4 (i_SpeedsOf_c hv2) rfl rfl rfl) ?_
  refine rp rfl w0 rfl (pu_move (r := .tup _) rfl) ?_
  refine rp rfl w0 rfl (pu_extract rfl rfl) ?_
  refine rp rfl w0 rfl (pu_extract rfl rfl) ?_
  refine rp rfl w0 rfl (pu_assign (r := .own _ _ _) rfl) ?_
  refine pa ?_
  refine nx ?_
  obtain ⟨v10, h1, h0⟩ := bnd h0
  refine aw_cut ⟨updA (updA ((fun _ => .dead)) 1 (.ptr 3 0 1 0 0)) 3 (.own 4 0 (v10).length), lks [.no, .no, .no, .live [⟨49, 14, .av [[.d (.v (.string p0.Name)), .d (.sl (List.map cArbor_ p0.Works.Arbors)), .d (.sl (List.map cMesh_ p0.Works.Meshes)), .d (.v (.int .i64 p0.Minute)), .d (.v (.int .i64 p0.Hour)), .d (.v (.int .i64 p0.Escape)), .d (.v (.int .i64 p0.Teeth)), .d (.v (.int .i64 p0.Beats)), .d (.v (.string p0.Calendar.Name)), .d (.sl (List.map cMonth_ p0.Calendar.Months)), .d (.sl (List.map cLeapRule_ p0.Calendar.Rules)), .d (.v (.int .i64 p0.Calendar.Week)), .d (.sl (List.map cI p0.Cam)), .d (.v (.int .i64 p0.Strike))]]⟩], .live [⟨9, 1, .data (List.map cS v10)⟩]]⟩ ?_ ?_
  refine sq [0,1] ?_
  refine pm ?_
  refine rp rfl w0 rfl (pu_neq rfl rfl) ?_
  refine nx ?_
  refine aw_if h1 rfl (fun hc h1 => ?_) (fun hc h1 => ?_)
  refine sr [0,1,2,3] ?_
  refine pm ?_
  refine rs rfl w0 rfl (bs_val tok cS [(⟨#[119, 111, 114, 107, 115]⟩ : ByteArray)] rfl rfl rfl (by repeat (first | exact Els.nil _ | apply Els.cons (cs := [.d _]) rfl rfl rfl | apply Els.cons (cs := _ :: _) rfl rfl rfl)) rfl rfl rfl (by repeat (first | exact AllDD.nil | (apply AllDD.cons; (repeat (first | exact AllD.nil | apply AllD.cons))))) rfl) ?_
  obtain ⟨hq3, h1⟩ := chk_e h1
  refine rs rfl w0 rfl (ap_nil 5 tok hq3 rfl rfl rfl rfl rfl rfl rfl rfl rfl rfl (fun _ => rfl)) ?_
  refine rp rfl w0 rfl (pu_assign (r := .own _ _ _) rfl) ?_
  refine nx ?_
  cases h1
  exact wk [0, 1, 2, 3, 5]
  obtain ⟨v6, h2, h1⟩ := bnd h1
  refine aw_cut ⟨updA (updA (updA ((fun _ => .dead)) 1 (.ptr 3 0 1 0 0)) 3 (.own 4 0 (v6).length)) 4 (.own 5 0 (v2.1).length), lks [.no, .no, .no, .live [⟨49, 14, .av [[.d (.v (.string p0.Name)), .d (.sl (List.map cArbor_ p0.Works.Arbors)), .d (.sl (List.map cMesh_ p0.Works.Meshes)), .d (.v (.int .i64 p0.Minute)), .d (.v (.int .i64 p0.Hour)), .d (.v (.int .i64 p0.Escape)), .d (.v (.int .i64 p0.Teeth)), .d (.v (.int .i64 p0.Beats)), .d (.v (.string p0.Calendar.Name)), .d (.sl (List.map cMonth_ p0.Calendar.Months)), .d (.sl (List.map cLeapRule_ p0.Calendar.Rules)), .d (.v (.int .i64 p0.Calendar.Week)), .d (.sl (List.map cI p0.Cam)), .d (.v (.int .i64 p0.Strike))]]⟩], .live [⟨9, 1, .data (List.map cS v6)⟩], .live [⟨164, 2, .data (List.map cRatio_ v2.1)⟩]]⟩ ?_ ?_
  refine sq [0,1,2,3,4,5,6] ?_
  refine rp rfl w0 rfl (pu_move (r := .own _ _ _) rfl) ?_
  refine fa tok ?_
  refine ld tok ?_
  obtain ⟨v4, hv4, h2⟩ := bnd h2
  refine rl rfl w0 rfl (ow_ix tok hv4 rfl rfl rfl rfl rfl rfl rfl rfl) ?_
  refine rl rfl w0 rfl (rw_ldN tok (atI_e hv4).2.1 rfl rfl rfl rfl rfl) ?_
  refine rp rfl w0 rfl (pbl (C0 := [.d (.v (.int .i64 0)), .d (.v (.int .i64 0))]) tok rfl rfl rfl) ?_
  refine rp rfl w0 rfl (ps_neq_Ratio_ (a := v4) (b := (⟨1, 12⟩ : Ratio_)) rfl rfl) ?_
  refine nx ?_
  refine aw_if h2 rfl (fun hc h2 => ?_) (fun hc h2 => ?_)
  refine sr [0,1,2,3] ?_
  refine pm ?_
  refine rs rfl w0 rfl (bs_val tok cS [(⟨#[104, 111, 117, 114]⟩ : ByteArray)] rfl rfl rfl (by repeat (first | exact Els.nil _ | apply Els.cons (cs := [.d _]) rfl rfl rfl | apply Els.cons (cs := _ :: _) rfl rfl rfl)) rfl rfl rfl (by repeat (first | exact AllDD.nil | (apply AllDD.cons; (repeat (first | exact AllD.nil | apply AllD.cons))))) rfl) ?_
  obtain ⟨hq5, h2⟩ := chk_e h2
  refine rs rfl w0 rfl (ap_nil 5 tok hq5 rfl rfl rfl rfl rfl rfl rfl rfl rfl rfl (fun _ => rfl)) ?_
  refine rp rfl w0 rfl (pu_assign (r := .own _ _ _) rfl) ?_
  refine nx ?_
  cases h2
  exact wk [0, 1, 2, 3, 5, 4]
  refine sk ?_
  cases h2
  refine Weak.trans_ (weak_adopt_t 5 rfl 9 1 (d := 3) rfl) ?_
  exact wk [0, 1, 2, 3, 5, 4]
  refine sq [0,1,2,3,4,5,6] ?_
  refine rp rfl w0 rfl (pu_move (r := .own _ _ _) rfl) ?_
  refine fa tok ?_
  refine ld tok ?_
  obtain ⟨v7, hv7, h1⟩ := bnd h1
  refine rl rfl w0 rfl (ow_ix tok hv7 rfl rfl rfl rfl rfl rfl rfl rfl) ?_
  refine rl rfl w0 rfl (rw_ldN tok (atI_e hv7).2.1 rfl rfl rfl rfl rfl) ?_
  refine rs rfl w0 rfl (st_alloc 6 (cs := [.d (.v (.int .i64 0)), .d (.v (.int .i64 0))]) tok rfl rfl rfl) ?_
  refine rw0 rfl w0 (bx_st (cs := _ :: _) tok rfl rfl rfl rfl rfl rfl rfl) ?_
  refine nx ?_
  refine aw_seq ?_
  refine aw_region_draw (is := [0, 1, 2, 3, 4, 7, 8, 9, 10, 11, 5, 6, 12]) [0, 1, 3, 0, 8, 24, 63, 0, 128, 0, 512, 1920, 4095] follows (by kernel_rfl) ?_
  refine rt_lk rfl w0 rfl (bx_fa tok rfl rfl rfl rfl rfl rfl rfl) rfl rfl rfl ?_
  refine rt_lk rfl w0 rfl (bx_ld1 tok rfl rfl rfl rfl rfl) rfl rfl rfl ?_
  refine rt_p rfl w0 rfl (pw_mul rfl rfl) ?_
  refine rt_lk rfl w0 rfl (bx_fa tok rfl rfl rfl rfl rfl rfl rfl) rfl rfl rfl ?_
  refine rt_lk rfl w0 rfl (bx_ld1 tok rfl rfl rfl rfl rfl) rfl rfl rfl ?_
  refine rt_lk rfl w0 rfl (bx_fa tok rfl rfl rfl rfl rfl rfl rfl) rfl rfl rfl ?_
  refine rt_lk rfl w0 rfl (bx_ld1 tok rfl rfl rfl rfl rfl) rfl rfl rfl ?_
  refine rt_lk rfl w0 rfl (bx_fa tok rfl rfl rfl rfl rfl rfl rfl) rfl rfl rfl ?_
  refine rt_lk rfl w0 rfl (bx_ld1 tok rfl rfl rfl rfl rfl) rfl rfl rfl ?_
  refine rt_p rfl w0 rfl (pw_mul rfl rfl) ?_
  obtain ⟨v8, hv8, h1⟩ := bnd h1
  refine rt_c rfl w0 rfl (b_call 7 (i_abs_c hv8) rfl rfl rfl) ?_
  refine rt_p rfl w0 rfl (pw_mul rfl rfl) ?_
  refine rt_p rfl w0 rfl (pu_neq rfl rfl) ?_
  refine rt_nil ?_
  refine ⟨by kernel_rfl, ?_⟩
  refine then_n ?_
  refine aw_if h1 rfl (fun hc h1 => ?_) (fun hc h1 => ?_)
  refine sr [0,1,2,3] ?_
  refine rp rfl w0 rfl (pu_move (r := .own _ _ _) rfl) ?_
  refine rs rfl w0 rfl (bs_val tok cS [(⟨#[98, 101, 97, 116, 115]⟩ : ByteArray)] rfl rfl rfl (by repeat (first | exact Els.nil _ | apply Els.cons (cs := [.d _]) rfl rfl rfl | apply Els.cons (cs := _ :: _) rfl rfl rfl)) rfl rfl rfl (by repeat (first | exact AllDD.nil | (apply AllDD.cons; (repeat (first | exact AllD.nil | apply AllD.cons))))) rfl) ?_
  obtain ⟨hq9, h1⟩ := chk_e h1
  refine rw1 rfl w0 rfl (ap_own tok hq9 rfl rfl rfl rfl rfl rfl rfl rfl rfl rfl rfl rfl (fun _ => rfl)) ?_
  refine rp rfl w0 rfl (pu_assign (r := .own _ _ _) rfl) ?_
  refine nx ?_
  cases h1
  exact wk [0, 1, 2, 3, 4]
  refine sk ?_
  cases h1
  exact wk [0, 1, 2, 3, 4]
  obtain ⟨v13, h1, h0⟩ := bnd h0
  refine aw_cut ⟨updA ((fun _ => .dead)) 3 (.own 3 0 (v13).length), lks [.no, .no, .no, .live [⟨9, 1, .data (List.map cS v13)⟩]]⟩ ?_ ?_
  refine sq [0,1,2,3,4,5] ?_
  refine fa tok ?_
  refine rl rfl w0 rfl (bx_ldN tok rfl rfl rfl rfl) ?_
  refine fa tok ?_
  refine ld tok ?_
  obtain ⟨v11, hv11, h1⟩ := bnd h1
  refine rs rfl w0 rfl (c_call 5 (i_belongs_c hv11) rfl rfl rfl) ?_
  refine rp rfl w0 rfl (pu_eql rfl rfl) ?_
  refine nx ?_
  refine aw_if h1 rfl (fun hc h1 => ?_) (fun hc h1 => ?_)
  refine sr [0,1,2,3] ?_
  refine rp rfl w0 rfl (pu_move (r := .own _ _ _) rfl) ?_
  refine rs rfl w0 rfl (bs_val tok cS [(⟨#[99, 97, 109]⟩ : ByteArray)] rfl rfl rfl (by repeat (first | exact Els.nil _ | apply Els.cons (cs := [.d _]) rfl rfl rfl | apply Els.cons (cs := _ :: _) rfl rfl rfl)) rfl rfl rfl (by repeat (first | exact AllDD.nil | (apply AllDD.cons; (repeat (first | exact AllD.nil | apply AllD.cons))))) rfl) ?_
  obtain ⟨hq12, h1⟩ := chk_e h1
  refine rw1 rfl w0 rfl (ap_own tok hq12 rfl rfl rfl rfl rfl rfl rfl rfl rfl rfl rfl rfl (fun _ => rfl)) ?_
  refine rp rfl w0 rfl (pu_assign (r := .own _ _ _) rfl) ?_
  refine nx ?_
  cases h1
  exact wk [0, 1, 2, 4]
  refine sk ?_
  cases h1
  exact wk [0, 1, 2, 4]
  refine sq [0,1] ?_
  refine rp rfl w0 rfl (pu_move (r := .own _ _ _) rfl) ?_
  refine rp rfl w0 rfl (pu_assign (r := .own _ _ _) rfl) ?_
  refine nx ?_
  refine aw_ret ?_
  cases h0
  exact retK_ (rs := [.tmp 2]) [3] rfl

theorem i_askedCam_c {p0 : Calendar_} {p1 : List Int} {r : Int} (h0 : i_askedCam_m p0 p1 = some r) : FnC Tryz.prog 106 [] [.agg [.d (.v (.string p0.Name)), .d (.sl (List.map cMonth_ p0.Months)), .d (.sl (List.map cLeapRule_ p0.Rules)), .d (.v (.int .i64 p0.Week))], .d (.sl (List.map cI p1))] [] (.d (.v (.int .i64 r))) := by
  refine fnc_intro (T := tt) (N := 19) tok Tryz.func106 rfl rfl (by kernel_rfl) rfl rfl ?_
  unfold i_askedCam_m at h0
  refine sq [0,1] ?_
  refine rs rfl w0 rfl (st_box 3 (cs := _ :: _) rfl rfl rfl) ?_
  refine pa ?_
  refine nx ?_
  refine aw_seq ?_
  refine aw_block ?_
  obtain ⟨v3, h1, h0⟩ := bnd h0
  refine aw_cut ⟨updA (updA (updA ((fun _ => .dead)) 1 (.d (.sl (List.map cI p1)))) 2 (.ptr 3 0 1 0 0)) 5 (.d (.v (.bool v3))), lks [.no, .no, .no, .live [⟨47, 4, .av [[.d (.v (.string p0.Name)), .d (.sl (List.map cMonth_ p0.Months)), .d (.sl (List.map cLeapRule_ p0.Rules)), .d (.v (.int .i64 p0.Week))]]⟩]]⟩ ?_ ?_
  refine sr [0,1,2,3,4,5,6,7,8] ?_
  refine rl rfl w0 rfl (bx_ldN tok rfl rfl rfl rfl) ?_
  obtain ⟨v1, hv1, h1⟩ := bnd h1
  refine rs rfl w0 rfl (c_call 4 (i_ValidCalendar_c hv1) rfl rfl rfl) ?_
  refine rp rfl w0 rfl (pu_not rfl) ?_
  refine pm ?_
  refine ra_ifB (u := 9) h1 rfl (fun hc h1 => ?_) (fun hc h1 => ?_)
  iterate 3 refine k1 ?_
  refine pkt ?_
  refine pa ?_
  refine nx ?_
  cases h1
  exact wk [0, 1, 2, 3]
  refine pm1 ?_
  obtain ⟨v2, hv2, h1⟩ := bnd h1
  refine rs rfl (w1 rfl rfl rfl) rfl (c_call 4 (i_ValidCam_c hv2) rfl rfl rfl) ?_
  refine rp rfl (w1 rfl rfl rfl) rfl (pu_not rfl) ?_
  refine pkf ?_
  refine pa ?_
  refine nx ?_
  cases h1
  exact wk [0, 1, 2, 3]
  refine aw_ifB h0 rfl (fun hc h0 => ?_) (fun hc h0 => ?_)
  refine sq [0] ?_
  refine pa ?_
  refine nx ?_
  refine aw_ret ?_
  refine block_r ?_
  refine then_r ?_
  cases h0
  exact ret0_ (rs := [.tmp 4]) rfl
  refine sq [0,1,2,3,4] ?_
  refine rl rfl w0 rfl (bx_ldN tok rfl rfl rfl rfl) ?_
  refine pm ?_
  obtain ⟨v4, hv4, h0⟩ := bnd h0
  refine rs rfl w0 rfl (c_call 4 (i_belongs_c hv4) rfl rfl rfl) ?_
  refine rp rfl w0 rfl (pu_eql rfl rfl) ?_
  refine pa ?_
  refine nx ?_
  refine aw_if h0 rfl (fun hc h0 => ?_) (fun hc h0 => ?_)
  refine sq [0] ?_
  refine pa ?_
  refine nx ?_
  refine aw_ret ?_
  refine block_r ?_
  refine then_r ?_
  cases h0
  exact ret0_ (rs := [.tmp 4]) rfl
  refine aw_skip ?_
  refine block_n ?_
  refine then_n ?_
  refine sq [0] ?_
  refine pa ?_
  refine nx ?_
  refine aw_ret ?_
  cases h0
  exact ret0_ (rs := [.tmp 4]) rfl

theorem i_isYear_c {p0 : Int} {r : Bool} (h0 : i_isYear_m p0 = some r) : FnC Tryz.prog 169 [] [.d (.v (.int .i64 p0))] [] (.d (.v (.bool r))) := by
  refine fnc_intro (T := tt) (N := 5) tok Tryz.func169 rfl rfl (by kernel_rfl) rfl rfl ?_
  unfold i_isYear_m at h0
  refine sq [0] ?_
  refine pa ?_
  refine nx ?_
  refine sq [0,1,2] ?_
  refine pm ?_
  obtain ⟨v1, hv1, h0⟩ := bnd h0
  refine rs rfl w0 rfl (c_call 3 (i_within_c hv1) rfl rfl rfl) ?_
  refine pa ?_
  refine nx ?_
  refine aw_ret ?_
  cases h0
  exact ret0_ (rs := [.tmp 2]) rfl

theorem i_isMonth_c {p0 : Calendar_} {p1 : Int} {r : Bool} (h0 : i_isMonth_m p0 p1 = some r) : FnC Tryz.prog 170 [] [.agg [.d (.v (.string p0.Name)), .d (.sl (List.map cMonth_ p0.Months)), .d (.sl (List.map cLeapRule_ p0.Rules)), .d (.v (.int .i64 p0.Week))], .d (.v (.int .i64 p1))] [] (.d (.v (.bool r))) := by
  refine fnc_intro (T := tt) (N := 10) tok Tryz.func170 rfl rfl (by kernel_rfl) rfl rfl ?_
  unfold i_isMonth_m at h0
  refine sq [0,1] ?_
  refine rs rfl w0 rfl (st_box 3 (cs := _ :: _) rfl rfl rfl) ?_
  refine pa ?_
  refine nx ?_
  refine sq [0,1,2,3,4,5] ?_
  refine pm ?_
  refine fa tok ?_
  refine ld tok ?_
  refine rp rfl w0 rfl (pu_len_map tok rfl rfl rfl) ?_
  obtain ⟨v1, hv1, h0⟩ := bnd h0
  refine rs rfl w0 rfl (c_call 4 (i_within_c hv1) rfl rfl rfl) ?_
  refine pa ?_
  refine nx ?_
  refine aw_ret ?_
  cases h0
  exact ret0_ (rs := [.tmp 4]) rfl

theorem i_isLeap_c {p0 : Calendar_} {p1 : Int} {r : Bool} (h0 : i_isLeap_m p0 p1 = some r) : FnC Tryz.prog 172 [] [.agg [.d (.v (.string p0.Name)), .d (.sl (List.map cMonth_ p0.Months)), .d (.sl (List.map cLeapRule_ p0.Rules)), .d (.v (.int .i64 p0.Week))], .d (.v (.int .i64 p1))] [] (.d (.v (.bool r))) := by
  refine fnc_intro (T := tt) (N := 26) tok Tryz.func172 rfl rfl (by kernel_rfl) rfl rfl ?_
  unfold i_isLeap_m at h0
  refine sq [0,1] ?_
  refine rs rfl w0 rfl (st_box 3 (cs := _ :: _) rfl rfl rfl) ?_
  refine pa ?_
  refine nx ?_
  refine sq [0] ?_
  refine pa ?_
  refine nx ?_
  obtain ⟨v9, h1, h0⟩ := bnd h0
  refine aw_cut ⟨updA ((fun _ => .dead)) 5 (.d (.v (.bool v9))), lks [.no, .no, .no]⟩ ?_ ?_
  refine sq [0,1,2,3] ?_
  refine fa tok ?_
  refine ld tok ?_
  refine rp rfl w0 rfl (pu_len_map tok rfl rfl rfl) ?_
  refine pm ?_
  refine nx ?_
  refine aw_block ?_
  refine aw_loopM (fun s5 => ⟨updA (updA (updA (updA (updA ((fun _ => .dead)) 1 (.d (.v (.int .i64 p1)))) 5 (.d (.v (.bool s5.1)))) 9 (.d (.sl (List.map cLeapRule_ p0.Rules)))) 10 (.d (.v (.int .i64 (p0.Rules.length : Int))))) 11 (.d (.v (.int .i64 s5.2))), lks [.no, .no, .no]⟩) h1 ?_ (fun s5 y h2 => ?_)
  exact wk [0, 1, 2]
  refine sq [0] ?_
  refine rp rfl w0 rfl (pu_lss rfl rfl) ?_
  refine nx ?_
  refine aw_seq ?_
  refine aw_if h2 rfl (fun hc h2 => ?_) (fun hc h2 => ?_)
  refine sk ?_
  obtain ⟨v8, h3, h2⟩ := bnd h2
  refine aw_cut ⟨updA (updA (updA (updA (updA ((fun _ => .dead)) 1 (.d (.v (.int .i64 p1)))) 5 (.d (.v (.bool v8)))) 9 (.d (.sl (List.map cLeapRule_ p0.Rules)))) 10 (.d (.v (.int .i64 (p0.Rules.length : Int))))) 11 (.d (.v (.int .i64 s5.2))), lks [.no, .no, .no]⟩ ?_ ?_
  refine aw_block ?_
  refine sq [0,1,2,3] ?_
  obtain ⟨v6, hv6, h3⟩ := bnd h3
  refine rp rfl w0 rfl (sl_ix tok hv6 rfl rfl rfl rfl rfl rfl) ?_
  refine rp rfl w0 rfl (pu_load_refN tok rfl rfl rfl (by repeat (first | exact SegD.z _ | apply SegD.t))) ?_
  refine rs rfl w0 rfl (st_alloc 3 (cs := [.d (.v (.int .i64 0)), .d (.v (.int .i64 0)), .d (.v (.bool false))]) tok rfl rfl rfl) ?_
  refine rw0 rfl w0 (bx_st (cs := _ :: _) tok rfl rfl rfl rfl rfl rfl rfl) ?_
  refine nx ?_
  refine aw_seq ?_
  refine aw_region_draw (is := [0, 1, 2, 3, 4, 5, 6]) [0, 0, 2, 7, 0, 16, 63] follows (by kernel_rfl) ?_
  refine tpm ?_
  refine rt_lk rfl w0 rfl (bx_fa tok rfl rfl rfl rfl rfl rfl rfl) rfl rfl rfl ?_
  refine rt_lk rfl w0 rfl (bx_ld1 tok rfl rfl rfl rfl rfl) rfl rfl rfl ?_
  obtain ⟨hq7, h3⟩ := chk_e h3
  refine rt_p rfl w0 rfl (pu_remw rfl rfl hq7) ?_
  refine rt_lk rfl w0 rfl (bx_fa tok rfl rfl rfl rfl rfl rfl rfl) rfl rfl rfl ?_
  refine rt_lk rfl w0 rfl (bx_ld1 tok rfl rfl rfl rfl rfl) rfl rfl rfl ?_
  refine rt_p rfl w0 rfl (pu_eql rfl rfl) ?_
  refine rt_nil ?_
  refine ⟨by kernel_rfl, ?_⟩
  refine then_n ?_
  refine aw_if h3 rfl (fun hc h3 => ?_) (fun hc h3 => ?_)
  refine sr [0,1,2] ?_
  refine fa tok ?_
  refine ld tok ?_
  refine pa ?_
  refine ra_nil ?_
  refine block_n ?_
  refine then_n ?_
  cases h3
  exact wk [0, 1, 2]
  refine aw_skip ?_
  refine block_n ?_
  refine then_n ?_
  cases h3
  exact wk [0, 1, 2]
  refine sr [0,1] ?_
  refine rp rfl w0 rfl (pw_add rfl rfl) ?_
  refine pm ?_
  refine ra_nil ?_
  refine loop_n ?_
  cases h2
  refine ⟨_, rfl, ?_⟩
  exact wk [0, 1, 2]
  refine aw_exit ?_
  refine then_e ?_
  cases h2
  refine loop_x ⟨_, rfl, fun e => ?_⟩
  subst e
  refine block_hit ?_
  refine then_n ?_
  exact wk [0, 1, 2]
  refine sq [0,1] ?_
  refine pm ?_
  refine pa ?_
  refine nx ?_
  refine aw_ret ?_
  cases h0
  exact ret0_ (rs := [.tmp 4]) rfl

theorem i_daysOfMonth_c {p0 : Calendar_} {p1 : Bool} {p2 : Int} {r : Int} (h0 : i_daysOfMonth_m p0 p1 p2 = some r) : FnC Tryz.prog 171 [] [.agg [.d (.v (.string p0.Name)), .d (.sl (List.map cMonth_ p0.Months)), .d (.sl (List.map cLeapRule_ p0.Rules)), .d (.v (.int .i64 p0.Week))], .d (.v (.bool p1)), .d (.v (.int .i64 p2))] [] (.d (.v (.int .i64 r))) := by
  refine fnc_intro (T := tt) (N := 22) tok Tryz.func171 rfl rfl (by kernel_rfl) rfl rfl ?_
  unfold i_daysOfMonth_m at h0
  refine sq [0,1] ?_
  refine rs rfl w0 rfl (st_box 3 (cs := _ :: _) rfl rfl rfl) ?_
  refine pa ?_
  refine nx ?_
  refine aw_seq ?_
  refine sq [0] ?_
  refine pm ?_
  refine nx ?_
  refine aw_ifB h0 rfl (fun hc h0 => ?_) (fun hc h0 => ?_)
  refine sq [0,1,2,3,4,5,6,7] ?_
  refine fa tok ?_
  refine ld tok ?_
  refine pm ?_
  refine rp rfl w0 rfl (pw_sub rfl rfl) ?_
  obtain ⟨v1, hv1, h0⟩ := bnd h0
  refine rp rfl w0 rfl (sl_ix tok hv1 rfl rfl rfl rfl rfl rfl) ?_
  refine fr tok ?_
  refine lr tok ?_
  refine pa ?_
  refine nx ?_
  refine aw_ret ?_
  refine then_r ?_
  cases h0
  exact ret0_ (rs := [.tmp 6]) rfl
  refine sk ?_
  refine sq [0,1,2,3,4,5,6,7] ?_
  refine fa tok ?_
  refine ld tok ?_
  refine pm ?_
  refine rp rfl w0 rfl (pw_sub rfl rfl) ?_
  obtain ⟨v2, hv2, h0⟩ := bnd h0
  refine rp rfl w0 rfl (sl_ix tok hv2 rfl rfl rfl rfl rfl rfl) ?_
  refine fr tok ?_
  refine lr tok ?_
  refine pa ?_
  refine nx ?_
  refine aw_ret ?_
  cases h0
  exact ret0_ (rs := [.tmp 6]) rfl

theorem i_ValidDate_c {p0 : Calendar_} {p1 : Date_} {r : Bool} (h0 : i_ValidDate_m p0 p1 = some r) : FnC Tryz.prog 107 [] [.agg [.d (.v (.string p0.Name)), .d (.sl (List.map cMonth_ p0.Months)), .d (.sl (List.map cLeapRule_ p0.Rules)), .d (.v (.int .i64 p0.Week))], .agg [.d (.v (.int .i64 p1.Year)), .d (.v (.int .i64 p1.Month)), .d (.v (.int .i64 p1.Day))]] [] (.d (.v (.bool r))) := by
  refine fnc_intro (T := tt) (N := 31) tok Tryz.func107 rfl rfl (by kernel_rfl) rfl rfl ?_
  unfold i_ValidDate_m at h0
  refine sq [0,1,2] ?_
  refine rs rfl w0 rfl (st_box 3 (cs := _ :: _) rfl rfl rfl) ?_
  refine rs rfl w0 rfl (st_box 4 (cs := _ :: _) rfl rfl rfl) ?_
  refine pa ?_
  refine nx ?_
  refine aw_seq ?_
  refine aw_region_draw (is := [0, 1, 2, 3, 4, 5, 6, 7, 8, 9, 10, 11, 12, 13, 14, 15, 16, 17, 18, 19, 21, 22, 20, 23, 24, 25, 26]) [0, 1, 3, 7, 15, 31, 63, 127, 255, 255, 767, 2047, 4095, 8191, 16383, 32767, 16383, 16383, 16383, 278527, 933887, 16383, 2113535, 8339455, 16777215, 33554431, 67108863] follows (by kernel_rfl) ?_
  refine rt_lk rfl w0 rfl (bx_ldN tok rfl rfl rfl rfl) rfl rfl rfl ?_
  obtain ⟨v1, hv1, h0⟩ := bnd h0
  refine rt_c rfl w0 rfl (b_call 5 (i_ValidCalendar_c hv1) rfl rfl rfl) ?_
  refine tpm ?_
  refine rt_ifB (u := 7) h0 rfl (fun hc h0 => ?_) (fun hc h0 => ?_)
  refine rt_lk rfl (w1 rfl rfl rfl) rfl (bx_fa tok rfl rfl rfl rfl rfl rfl rfl) rfl rfl rfl ?_
  refine rt_lk rfl (w1 rfl rfl rfl) rfl (bx_ld1 tok rfl rfl rfl rfl rfl) rfl rfl rfl ?_
  obtain ⟨v2, hv2, h0⟩ := bnd h0
  refine rt_c rfl (w1 rfl rfl rfl) rfl (b_call 5 (i_isYear_c hv2) rfl rfl rfl) ?_
  refine tpkt ?_
  refine tpm ?_
  refine rt_ifB (u := 12) h0 rfl (fun hc h0 => ?_) (fun hc h0 => ?_)
  refine rt_lk rfl (w1 rfl rfl rfl) rfl (bx_ldN tok rfl rfl rfl rfl) rfl rfl rfl ?_
  refine rt_lk rfl (w1 rfl rfl rfl) rfl (bx_fa tok rfl rfl rfl rfl rfl rfl rfl) rfl rfl rfl ?_
  refine rt_lk rfl (w1 rfl rfl rfl) rfl (bx_ld1 tok rfl rfl rfl rfl rfl) rfl rfl rfl ?_
  obtain ⟨v3, hv3, h0⟩ := bnd h0
  refine rt_c rfl (w1 rfl rfl rfl) rfl (b_call 5 (i_isMonth_c hv3) rfl rfl rfl) ?_
  refine tpkt ?_
  refine tpm ?_
  refine rt_ifB (u := 18) h0 rfl (fun hc h0 => ?_) (fun hc h0 => ?_)
  refine rt_lk rfl (w1 rfl rfl rfl) rfl (bx_fa tok rfl rfl rfl rfl rfl rfl rfl) rfl rfl rfl ?_
  refine rt_lk rfl (w1 rfl rfl rfl) rfl (bx_ld1 tok rfl rfl rfl rfl rfl) rfl rfl rfl ?_
  refine rt_lk rfl (w1 rfl rfl rfl) rfl (bx_ldN tok rfl rfl rfl rfl) rfl rfl rfl ?_
  refine rt_lk rfl (w1 rfl rfl rfl) rfl (bx_ldN tok rfl rfl rfl rfl) rfl rfl rfl ?_
  refine rt_lk rfl (w1 rfl rfl rfl) rfl (bx_fa tok rfl rfl rfl rfl rfl rfl rfl) rfl rfl rfl ?_
  refine rt_lk rfl (w1 rfl rfl rfl) rfl (bx_ld1 tok rfl rfl rfl rfl rfl) rfl rfl rfl ?_
  refine rt_lk rfl (w1 rfl rfl rfl) rfl (bx_fa tok rfl rfl rfl rfl rfl rfl rfl) rfl rfl rfl ?_
  refine rt_lk rfl (w1 rfl rfl rfl) rfl (bx_ld1 tok rfl rfl rfl rfl rfl) rfl rfl rfl ?_
  obtain ⟨v4, hv4, h0⟩ := bnd h0
  refine rt_c rfl (w1 rfl rfl rfl) rfl (b_call 5 (i_isLeap_c hv4) rfl rfl rfl) ?_
  obtain ⟨v5, hv5, h0⟩ := bnd h0
  refine rt_c rfl (w1 rfl rfl rfl) rfl (b_call 5 (i_daysOfMonth_c hv5) rfl rfl rfl) ?_
  obtain ⟨v6, hv6, h0⟩ := bnd h0
  refine rt_c rfl (w1 rfl rfl rfl) rfl (b_call 5 (i_within_c hv6) rfl rfl rfl) ?_
  refine tpkt ?_
  refine tpa ?_
  refine rt_nil ?_
  refine ⟨by kernel_rfl, ?_⟩
  refine then_n ?_
  refine aw_ret ?_
  cases h0
  exact ret0_ (rs := [.tmp 4]) rfl
  iterate 11 refine k2 ?_
  refine tpkf ?_
  refine tpa ?_
  refine rt_nil ?_
  refine ⟨by kernel_rfl, ?_⟩
  refine then_n ?_
  refine aw_ret ?_
  cases h0
  exact ret0_ (rs := [.tmp 4]) rfl
  iterate 4 refine k2 ?_
  refine tpkf ?_
  refine tpm ?_
  iterate 11 refine k2 ?_
  refine tpkf ?_
  refine tpa ?_
  refine rt_nil ?_
  refine ⟨by kernel_rfl, ?_⟩
  refine then_n ?_
  refine aw_ret ?_
  cases h0
  exact ret0_ (rs := [.tmp 4]) rfl
  iterate 3 refine k2 ?_
  refine tpkf ?_
  refine tpm ?_
  iterate 4 refine k2 ?_
  refine tpkf ?_
  refine tpm ?_
  iterate 11 refine k2 ?_
  refine tpkf ?_
  refine tpa ?_
  refine rt_nil ?_
  refine ⟨by kernel_rfl, ?_⟩
  refine then_n ?_
  refine aw_ret ?_
  cases h0
  exact ret0_ (rs := [.tmp 4]) rfl

theorem slices_Max_Lint64_int64_c {p0 : List Int} {r : Int} (h0 : slices_Max_Lint64_int64_m p0 = some r) : FnC Tryz.prog 108 [] [.d (.sl (List.map cI p0))] [] (.d (.v (.int .i64 r))) := by
  refine fnc_intro (T := tt) (N := 25) tok Tryz.func108 rfl rfl (by kernel_rfl) rfl rfl ?_
  unfold slices_Max_Lint64_int64_m at h0
  refine sq [0] ?_
  refine pa ?_
  refine nx ?_
  obtain ⟨v1, h1, h0⟩ := bnd h0
  refine aw_cut ⟨updA ((fun _ => .dead)) 0 (.d (.sl (List.map cI p0))), lks [.no, .no, .no]⟩ ?_ ?_
  refine sq [0,1,2] ?_
  refine pm ?_
  refine rp rfl w0 rfl (pu_len_map tok rfl rfl rfl) ?_
  refine rp rfl w0 rfl (pu_lss rfl rfl) ?_
  refine nx ?_
  refine aw_if h1 rfl (fun hc h1 => ?_) (fun hc h1 => ?_)
  cases h1
  refine sk ?_
  cases h1
  exact wk [0, 1, 2]
  refine sq [0,1,2,3] ?_
  refine pm ?_
  obtain ⟨v2, hv2, h0⟩ := bnd h0
  refine rp rfl w0 rfl (sl_ix tok hv2 rfl rfl rfl rfl rfl rfl) ?_
  refine lr tok ?_
  refine pa ?_
  refine nx ?_
  obtain ⟨v7, h1, h0⟩ := bnd h0
  refine aw_cut ⟨updA ((fun _ => .dead)) 3 (.d (.v (.int .i64 v7))), lks [.no, .no, .no]⟩ ?_ ?_
  refine sq [0] ?_
  refine pa ?_
  refine nx ?_
  refine aw_block ?_
  refine aw_loopM (fun s5 => ⟨updA (updA (updA ((fun _ => .dead)) 0 (.d (.sl (List.map cI p0)))) 3 (.d (.v (.int .i64 s5.1)))) 4 (.d (.v (.int .i64 s5.2))), lks [.no, .no, .no]⟩) h1 ?_ (fun s5 y h2 => ?_)
  exact wk [0, 1, 2]
  refine aw_seq ?_
  refine sq [0,1,2,3] ?_
  refine pm ?_
  refine pm ?_
  refine rp rfl w0 rfl (pu_len_map tok rfl rfl rfl) ?_
  refine rp rfl w0 rfl (pu_lss rfl rfl) ?_
  refine nx ?_
  refine aw_if h2 rfl (fun hc h2 => ?_) (fun hc h2 => ?_)
  refine sk ?_
  refine aw_seq ?_
  refine aw_block ?_
  refine sr [0,1,2,3,4,5,6] ?_
  iterate 3 refine pm ?_
  obtain ⟨v6, hv6, h2⟩ := bnd h2
  refine rp rfl w0 rfl (sl_ix tok hv6 rfl rfl rfl rfl rfl rfl) ?_
  refine lr tok ?_
  refine rp rfl w0 rfl (pu_max rfl rfl) ?_
  refine pa ?_
  refine ra_nil ?_
  refine block_n ?_
  refine then_n ?_
  refine sr [0,1,2] ?_
  refine pm ?_
  refine rp rfl w0 rfl (pw_add rfl rfl) ?_
  refine pa ?_
  refine ra_nil ?_
  refine loop_n ?_
  cases h2
  refine ⟨_, rfl, ?_⟩
  exact wk [0, 1, 2]
  refine aw_exit ?_
  refine then_e ?_
  cases h2
  refine loop_x ⟨_, rfl, fun e => ?_⟩
  subst e
  refine block_hit ?_
  refine then_n ?_
  exact wk [0, 1, 2]
  refine sq [0,1] ?_
  refine pm ?_
  refine pa ?_
  refine nx ?_
  refine aw_ret ?_
  cases h0
  exact ret0_ (rs := [.tmp 2]) rfl

theorem slices_Clone_Lint64_int64_c {p0 : List Int} {r : List Int} (h0 : slices_Clone_Lint64_int64_m p0 = some r) : FnC Tryz.prog 109 [] [.d (.sl (List.map cI p0))] [.live [⟨2, 1, .data (List.map cI r)⟩]] (.own 0 0 r.length) := by
  refine fnc_intro (T := tt) (N := 8) tok Tryz.func109 rfl rfl (by kernel_rfl) rfl rfl ?_
  unfold slices_Clone_Lint64_int64_m at h0
  obtain ⟨hq1, h0⟩ := chk_e h0
  cases h0
  refine aw_slice (d := 0) rfl rfl (fun hne => ?_) (fun he A k hk => ?_)
  · skip
    refine aw_seq ?_
    refine aw_regionA (is := [0]) rfl ?_
    refine rp rfl w0 rfl (pu_assign (r := .d _) rfl) ?_
    refine ra_nil ?_
    refine then_n ?_
    refine aw_seq ?_
    refine aw_seq ?_
    refine aw_regionA (is := [0, 1]) rfl ?_
    refine rp rfl w0 rfl (pu_move (r := .d _) rfl) ?_
    refine rp rfl w0 rfl (pu_eqnil_ne tok rfl hne rfl rfl rfl) ?_
    refine ra_nil ?_
    refine then_n ?_
    refine aw_cond_f rfl ?_
    refine aw_skip ?_
    refine then_n ?_
    refine aw_seq ?_
    refine aw_regionA (is := [0, 1, 2, 3]) rfl ?_
    refine rs rfl w0 rfl (st_slice0 3 tok rfl rfl rfl rfl) ?_
    refine rp rfl w0 rfl (pu_move (r := .d _) rfl) ?_
    refine rw1 rfl w0 rfl (ap_own tok hq1 rfl rfl rfl rfl rfl rfl rfl rfl rfl rfl rfl rfl (fun _ => rfl)) ?_
    refine rp rfl w0 rfl (pu_assign (r := .own _ _ _) rfl) ?_
    refine ra_nil ?_
    refine then_n ?_
    refine aw_ret ?_
    exact retK_ (rs := [.tmp 2]) [3] rfl
  · skip
    have he : p0 = [] := List.map_eq_nil_iff.1 he
    subst he
    cases A with
    | none =>
      refine aw_seq ?_
      refine aw_regionA (is := [0]) rfl ?_
      refine rp rfl w0 rfl (pu_assign (r := .d _) rfl) ?_
      refine ra_nil ?_
      refine then_n ?_
      refine aw_seq ?_
      refine aw_seq ?_
      refine aw_regionA (is := [0, 1]) rfl ?_
      refine rp rfl w0 rfl (pu_move (r := .d _) rfl) ?_
      refine rp rfl w0 rfl (pu_eqnil_v tok rfl rfl rfl rfl) ?_
      refine ra_nil ?_
      refine then_n ?_
      refine aw_cond_t rfl ?_
      refine aw_seq ?_
      refine aw_regionA (is := [0]) rfl ?_
      refine rp rfl w0 rfl (pu_assign (r := .d _) rfl) ?_
      refine ra_nil ?_
      refine then_n ?_
      refine aw_weak (weak_adopt_t 3 rfl 2 1 (d := 2) rfl) ?_
      refine aw_ret ?_
      refine then_r ?_
      exact retK_ (rs := [.tmp 2]) [3] rfl
    | some a =>
      refine aw_seq ?_
      refine aw_regionA (is := [0]) rfl ?_
      refine rp rfl w0 rfl (pu_assign (r := .d _) rfl) ?_
      refine ra_nil ?_
      refine then_n ?_
      refine aw_seq ?_
      refine aw_seq ?_
      refine aw_regionA (is := [0, 1]) rfl ?_
      refine rp rfl w0 rfl (pu_move (r := .d _) rfl) ?_
      refine rp rfl w0 rfl (pu_eqnil_v tok rfl rfl rfl rfl) ?_
      refine ra_nil ?_
      refine then_n ?_
      refine aw_cond_f rfl ?_
      refine aw_skip ?_
      refine then_n ?_
      refine aw_weak (weak_emp_ cI (d := 0) rfl hk) ?_
      refine aw_seq ?_
      refine aw_regionA (is := [0, 1, 2, 3]) rfl ?_
      refine rs rfl w0 rfl (st_slice0 3 tok rfl rfl rfl rfl) ?_
      refine rp rfl w0 rfl (pu_move (r := .d _) rfl) ?_
      refine rw1 rfl w0 rfl (ap_own tok hq1 rfl rfl rfl rfl rfl rfl rfl rfl rfl rfl rfl rfl (fun _ => rfl)) ?_
      refine rp rfl w0 rfl (pu_assign (r := .own _ _ _) rfl) ?_
      refine ra_nil ?_
      refine then_n ?_
      refine aw_ret ?_
      exact retK_ (rs := [.tmp 2]) [3] rfl

theorem i_SetPerpetual_c {p0 : Calendar_} {p1 : List Int} {p2 : Date_} {p3 : Int} {r : Perpetual_ × Int} (h0 : i_SetPerpetual_m p0 p1 p2 p3 = some r) : FnC Tryz.prog 59 [] [.agg [.d (.v (.string p0.Name)), .d (.sl (List.map cMonth_ p0.Months)), .d (.sl (List.map cLeapRule_ p0.Rules)), .d (.v (.int .i64 p0.Week))], .d (.sl (List.map cI p1)), .agg [.d (.v (.int .i64 p2.Year)), .d (.v (.int .i64 p2.Month)), .d (.v (.int .i64 p2.Day))], .d (.v (.int .i64 p3))] [.live [⟨2, 1, .data (List.map cI r.1.Cam)⟩]] (.tup [.agg [.own 0 0 r.1.Cam.length, .d (.v (.int .i64 r.1.Months)), .d (.v (.int .i64 r.1.Teeth)), .d (.v (.int .i64 r.1.At)), .d (.v (.int .i64 r.1.Day)), .d (.v (.int .i64 r.1.Week)), .d (.v (.int .i64 r.1.Weekday))], .d (.v (.int .i64 r.2))]) := by
  refine fnc_intro (T := tt) (N := 75) tok Tryz.func59 rfl rfl (by kernel_rfl) rfl rfl ?_
  unfold i_SetPerpetual_m at h0
  refine sq [0,1,2,3] ?_
  refine rs rfl w0 rfl (st_box 3 (cs := _ :: _) rfl rfl rfl) ?_
  refine rs rfl w0 rfl (st_box 4 (cs := _ :: _) rfl rfl rfl) ?_
  refine rs rfl w0 rfl (st_alloc 5 (cs := [.d (.v (.slice none 0 0)), .d (.v (.int .i64 0)), .d (.v (.int .i64 0)), .d (.v (.int .i64 0)), .d (.v (.int .i64 0)), .d (.v (.int .i64 0)), .d (.v (.int .i64 0))]) tok rfl rfl rfl) ?_
  refine pa ?_
  refine nx ?_
  refine aw_seq ?_
  refine sq [0,1,2,3] ?_
  refine rl rfl w0 rfl (bx_ldN tok rfl rfl rfl rfl) ?_
  refine pm ?_
  obtain ⟨v1, hv1, h0⟩ := bnd h0
  refine rs rfl w0 rfl (c_call 6 (i_askedCam_c hv1) rfl rfl rfl) ?_
  refine pa ?_
  refine nx ?_
  refine sq [0,1] ?_
  refine pm ?_
  refine rp rfl w0 rfl (pu_neq rfl rfl) ?_
  refine nx ?_
  refine aw_if h0 rfl (fun hc h0 => ?_) (fun hc h0 => ?_)
  refine sq [0,1,2,3] ?_
  refine rp rfl w0 rfl (pbl (C0 := [.d (.v (.slice none 0 0)), .d (.v (.int .i64 0)), .d (.v (.int .i64 0)), .d (.v (.int .i64 0)), .d (.v (.int .i64 0)), .d (.v (.int .i64 0)), .d (.v (.int .i64 0))]) tok rfl rfl rfl) ?_
  refine pm ?_
  refine rw0 rfl w0 (bx_st (cs := _ :: _) tok rfl rfl rfl rfl rfl rfl rfl) ?_
  refine pa ?_
  refine nx ?_
  refine aw_weak (weak_adopt 6 rfl 2 1 (kb := 5) (j := 0) rfl rfl (by repeat (first | exact Spl.z _ | apply Spl.t | apply Spl.d))) ?_
  refine aw_ret ?_
  refine then_r ?_
  cases h0
  exact retK_ (rs := [.cell 8 51, .tmp 9]) [6] rfl
  refine sk ?_
  refine aw_seq ?_
  obtain ⟨v4, h1, h0⟩ := bnd h0
  refine aw_cut ⟨updA (updA (updA (updA (updA (updA ((fun _ => .dead)) 1 (.d (.sl (List.map cI p1)))) 3 (.d (.v (.int .i64 p3)))) 4 (.ptr 3 0 1 0 0)) 6 (.ptr 4 0 1 0 0)) 8 (.ptr 5 0 1 0 0)) 32 (.d (.v (.bool v4))), lks [.no, .no, .no, .live [⟨47, 4, .av [[.d (.v (.string p0.Name)), .d (.sl (List.map cMonth_ p0.Months)), .d (.sl (List.map cLeapRule_ p0.Rules)), .d (.v (.int .i64 p0.Week))]]⟩], .live [⟨50, 3, .av [[.d (.v (.int .i64 p2.Year)), .d (.v (.int .i64 p2.Month)), .d (.v (.int .i64 p2.Day))]]⟩], .live [⟨51, 7, .av [[.d (.v (.slice none 0 0)), .d (.v (.int .i64 0)), .d (.v (.int .i64 0)), .d (.v (.int .i64 0)), .d (.v (.int .i64 0)), .d (.v (.int .i64 0)), .d (.v (.int .i64 0))]]⟩]]⟩ ?_ ?_
  refine sr [0,1,2,3,4,5,6,7,8,9,10] ?_
  refine rl rfl w0 rfl (bx_ldN tok rfl rfl rfl rfl) ?_
  refine rl rfl w0 rfl (bx_ldN tok rfl rfl rfl rfl) ?_
  obtain ⟨v2, hv2, h1⟩ := bnd h1
  refine rs rfl w0 rfl (c_call 6 (i_ValidDate_c hv2) rfl rfl rfl) ?_
  refine rp rfl w0 rfl (pu_not rfl) ?_
  refine pm ?_
  refine ra_ifB (u := 26) h1 rfl (fun hc h1 => ?_) (fun hc h1 => ?_)
  iterate 5 refine k1 ?_
  refine pkt ?_
  refine nx ?_
  cases h1
  exact wk [0, 1, 2, 3, 4, 5]
  refine pm1 ?_
  refine fa1 tok ?_
  refine ld1 tok ?_
  obtain ⟨v3, hv3, h1⟩ := bnd h1
  refine rs rfl (w1 rfl rfl rfl) rfl (c_call 6 (i_within_c hv3) rfl rfl rfl) ?_
  refine rp rfl (w1 rfl rfl rfl) rfl (pu_not rfl) ?_
  refine pkf ?_
  refine nx ?_
  cases h1
  exact wk [0, 1, 2, 3, 4, 5]
  refine aw_ifB h0 rfl (fun hc h0 => ?_) (fun hc h0 => ?_)
  refine sq [0,1,2] ?_
  refine rp rfl w0 rfl (pbl (C0 := [.d (.v (.slice none 0 0)), .d (.v (.int .i64 0)), .d (.v (.int .i64 0)), .d (.v (.int .i64 0)), .d (.v (.int .i64 0)), .d (.v (.int .i64 0)), .d (.v (.int .i64 0))]) tok rfl rfl rfl) ?_
  refine rw0 rfl w0 (bx_st (cs := _ :: _) tok rfl rfl rfl rfl rfl rfl rfl) ?_
  refine pa ?_
  refine nx ?_
  refine aw_weak (weak_adopt 6 rfl 2 1 (kb := 5) (j := 0) rfl rfl (by repeat (first | exact Spl.z _ | apply Spl.t | apply Spl.d))) ?_
  refine aw_ret ?_
  refine then_r ?_
  cases h0
  exact retK_ (rs := [.cell 8 51, .tmp 9]) [6] rfl
  refine sk ?_
  refine sq [0,1,2] ?_
  refine pm ?_
  obtain ⟨v5, hv5, h0⟩ := bnd h0
  refine rs rfl w0 rfl (c_call 6 (slices_Max_Lint64_int64_c hv5) rfl rfl rfl) ?_
  refine pa ?_
  refine nx ?_
  obtain ⟨v10, h1, h0⟩ := bnd h0
  refine aw_cut ⟨updA (updA (updA (updA (updA (updA ((fun _ => .dead)) 1 (.d (.sl (List.map cI p1)))) 3 (.d (.v (.int .i64 p3)))) 4 (.ptr 3 0 1 0 0)) 6 (.ptr 4 0 1 0 0)) 8 (.ptr 5 0 1 0 0)) 11 (.d (.v (.int .i64 v10))), lks [.no, .no, .no, .live [⟨47, 4, .av [[.d (.v (.string p0.Name)), .d (.sl (List.map cMonth_ p0.Months)), .d (.sl (List.map cLeapRule_ p0.Rules)), .d (.v (.int .i64 p0.Week))]]⟩], .live [⟨50, 3, .av [[.d (.v (.int .i64 p2.Year)), .d (.v (.int .i64 p2.Month)), .d (.v (.int .i64 p2.Day))]]⟩], .live [⟨51, 7, .av [[.d (.v (.slice none 0 0)), .d (.v (.int .i64 0)), .d (.v (.int .i64 0)), .d (.v (.int .i64 0)), .d (.v (.int .i64 0)), .d (.v (.int .i64 0)), .d (.v (.int .i64 0))]]⟩]]⟩ ?_ ?_
  refine sq [0,1,2,3] ?_
  refine fa tok ?_
  refine ld tok ?_
  refine rp rfl w0 rfl (pu_len_map tok rfl rfl rfl) ?_
  refine pm ?_
  refine nx ?_
  refine aw_block ?_
  refine aw_loopM (fun s8 => ⟨updA (updA (updA (updA (updA (updA (updA (updA (updA ((fun _ => .dead)) 1 (.d (.sl (List.map cI p1)))) 3 (.d (.v (.int .i64 p3)))) 4 (.ptr 3 0 1 0 0)) 6 (.ptr 4 0 1 0 0)) 8 (.ptr 5 0 1 0 0)) 11 (.d (.v (.int .i64 s8.1)))) 37 (.d (.sl (List.map cMonth_ p0.Months)))) 38 (.d (.v (.int .i64 (p0.Months.length : Int))))) 39 (.d (.v (.int .i64 s8.2))), lks [.no, .no, .no, .live [⟨47, 4, .av [[.d (.v (.string p0.Name)), .d (.sl (List.map cMonth_ p0.Months)), .d (.sl (List.map cLeapRule_ p0.Rules)), .d (.v (.int .i64 p0.Week))]]⟩], .live [⟨50, 3, .av [[.d (.v (.int .i64 p2.Year)), .d (.v (.int .i64 p2.Month)), .d (.v (.int .i64 p2.Day))]]⟩], .live [⟨51, 7, .av [[.d (.v (.slice none 0 0)), .d (.v (.int .i64 0)), .d (.v (.int .i64 0)), .d (.v (.int .i64 0)), .d (.v (.int .i64 0)), .d (.v (.int .i64 0)), .d (.v (.int .i64 0))]]⟩]]⟩) h1 ?_ (fun s8 y h2 => ?_)
  exact wk [0, 1, 2, 3, 4, 5]
  refine sq [0] ?_
  refine rp rfl w0 rfl (pu_lss rfl rfl) ?_
  refine nx ?_
  refine aw_seq ?_
  refine aw_if h2 rfl (fun hc h2 => ?_) (fun hc h2 => ?_)
  refine sk ?_
  refine aw_seq ?_
  refine aw_block ?_
  refine sq [0,1,2,3] ?_
  obtain ⟨v9, hv9, h2⟩ := bnd h2
  refine rp rfl w0 rfl (sl_ix tok hv9 rfl rfl rfl rfl rfl rfl) ?_
  refine rp rfl w0 rfl (pu_load_refN tok rfl rfl rfl (by repeat (first | exact SegD.z _ | apply SegD.t))) ?_
  refine rs rfl w0 rfl (st_alloc 6 (cs := [.d (.v (.string (⟨#[]⟩ : ByteArray))), .d (.v (.int .i64 0)), .d (.v (.int .i64 0))]) tok rfl rfl rfl) ?_
  refine rw0 rfl w0 (bx_st (cs := _ :: _) tok rfl rfl rfl rfl rfl rfl rfl) ?_
  refine nx ?_
  refine sr [0,1,2,3,4,5,6] ?_
  refine pm ?_
  refine fa tok ?_
  refine ld tok ?_
  refine fa tok ?_
  refine ld tok ?_
  refine rp rfl w0 rfl (pu_max3 rfl rfl rfl) ?_
  refine pa ?_
  refine ra_nil ?_
  refine block_n ?_
  refine then_n ?_
  refine sr [0,1] ?_
  refine rp rfl w0 rfl (pw_add rfl rfl) ?_
  refine pm ?_
  refine ra_nil ?_
  refine loop_n ?_
  cases h2
  refine ⟨_, rfl, ?_⟩
  exact wk [0, 1, 2, 3, 4, 5]
  refine aw_exit ?_
  refine then_e ?_
  cases h2
  refine loop_x ⟨_, rfl, fun e => ?_⟩
  subst e
  refine block_hit ?_
  refine then_n ?_
  exact wk [0, 1, 2, 3, 4, 5]
  refine sq [0,1,2,3] ?_
  refine fa tok ?_
  refine ld tok ?_
  refine rp rfl w0 rfl (pu_len_map tok rfl rfl rfl) ?_
  refine pa ?_
  refine nx ?_
  refine aw_seq ?_
  refine aw_region_draw (is := [0, 2, 3, 4, 5, 6, 7, 10, 12, 13, 16, 17, 18, 19, 20, 1, 8, 9, 11, 14, 15, 21, 22, 23]) [0, 1, 0, 0, 0, 16, 0, 0, 195, 499, 0, 2035, 0, 4096, 16371, 32755, 0, 65536, 0, 262144, 0, 2097151, 4194303, 8388607] follows (by kernel_rfl) ?_
  iterate 3 refine tpm ?_
  refine rt_lk rfl w0 rfl (bx_fa tok rfl rfl rfl rfl rfl rfl rfl) rfl rfl rfl ?_
  refine rt_lk rfl w0 rfl (bx_ld1 tok rfl rfl rfl rfl rfl) rfl rfl rfl ?_
  refine rt_lk rfl w0 rfl (bx_ldN tok rfl rfl rfl rfl) rfl rfl rfl ?_
  refine tpm ?_
  refine tpm ?_
  refine rt_lk rfl w0 rfl (bx_fa tok rfl rfl rfl rfl rfl rfl rfl) rfl rfl rfl ?_
  refine rt_lk rfl w0 rfl (bx_ld1 tok rfl rfl rfl rfl rfl) rfl rfl rfl ?_
  refine rt_lk rfl w0 rfl (bx_fa tok rfl rfl rfl rfl rfl rfl rfl) rfl rfl rfl ?_
  refine rt_lk rfl w0 rfl (bx_ld1 tok rfl rfl rfl rfl rfl) rfl rfl rfl ?_
  refine rt_lk rfl w0 rfl (bx_fa tok rfl rfl rfl rfl rfl rfl rfl) rfl rfl rfl ?_
  refine rt_lk rfl w0 rfl (bx_ld1 tok rfl rfl rfl rfl rfl) rfl rfl rfl ?_
  refine tpm ?_
  obtain ⟨v11, hv11, h0⟩ := bnd h0
  refine rt_c rfl w0 rfl (b_call 6 (slices_Clone_Lint64_int64_c hv11) rfl rfl rfl) ?_
  obtain ⟨v12, hv12, h0⟩ := bnd h0
  refine rt_c rfl w0 rfl (b_call 7 (i_belongs_c hv12) rfl rfl rfl) ?_
  obtain ⟨hq13, h0⟩ := chk_e h0
  refine rt_p rfl w0 rfl (pu_remw rfl rfl hq13) ?_
  refine rt_p rfl w0 rfl (pw_mul rfl rfl) ?_
  refine rt_p rfl w0 rfl (pw_add rfl rfl) ?_
  refine rt_p rfl w0 rfl (pw_sub rfl rfl) ?_
  refine rt_p rfl w0 rfl (pbl (C0 := [.d (.v (.slice none 0 0)), .d (.v (.int .i64 0)), .d (.v (.int .i64 0)), .d (.v (.int .i64 0)), .d (.v (.int .i64 0)), .d (.v (.int .i64 0)), .d (.v (.int .i64 0))]) tok rfl rfl rfl) ?_
  refine rt_wk rfl w0 (bx_st (cs := _ :: _) tok rfl rfl rfl rfl rfl rfl rfl) ?_
  refine tpa ?_
  refine rt_nil ?_
  refine ⟨by kernel_rfl, ?_⟩
  refine then_n ?_
  refine aw_ret ?_
  cases h0
  exact retK_ (rs := [.cell 8 51, .tmp 9]) [6] rfl

theorem slices_Clone_LMesh_Mesh_c {p0 : List Mesh_} {r : List Mesh_} (h0 : slices_Clone_LMesh_Mesh_m p0 = some r) : FnC Tryz.prog 201 [] [.d (.sl (List.map cMesh_ p0))] [.live [⟨215, 4, .data (List.map cMesh_ r)⟩]] (.own 0 0 r.length) := by
  refine fnc_intro (T := tt) (N := 8) tok Tryz.func201 rfl rfl (by kernel_rfl) rfl rfl ?_
  unfold slices_Clone_LMesh_Mesh_m at h0
  obtain ⟨hq1, h0⟩ := chk_e h0
  cases h0
  refine aw_slice (d := 0) rfl rfl (fun hne => ?_) (fun he A k hk => ?_)
  · skip
    refine aw_seq ?_
    refine aw_regionA (is := [0]) rfl ?_
    refine rp rfl w0 rfl (pu_assign (r := .d _) rfl) ?_
    refine ra_nil ?_
    refine then_n ?_
    refine aw_seq ?_
    refine aw_seq ?_
    refine aw_regionA (is := [0, 1]) rfl ?_
    refine rp rfl w0 rfl (pu_move (r := .d _) rfl) ?_
    refine rp rfl w0 rfl (pu_eqnil_ne tok rfl hne rfl rfl rfl) ?_
    refine ra_nil ?_
    refine then_n ?_
    refine aw_cond_f rfl ?_
    refine aw_skip ?_
    refine then_n ?_
    refine aw_seq ?_
    refine aw_regionA (is := [0, 1, 2, 3]) rfl ?_
    refine rs rfl w0 rfl (st_slice0 3 tok rfl rfl rfl rfl) ?_
    refine rp rfl w0 rfl (pu_move (r := .d _) rfl) ?_
    refine rw1 rfl w0 rfl (ap_own tok hq1 rfl rfl rfl rfl rfl rfl rfl rfl rfl rfl rfl rfl (fun _ => rfl)) ?_
    refine rp rfl w0 rfl (pu_assign (r := .own _ _ _) rfl) ?_
    refine ra_nil ?_
    refine then_n ?_
    refine aw_ret ?_
    exact retK_ (rs := [.tmp 2]) [3] rfl
  · skip
    have he : p0 = [] := List.map_eq_nil_iff.1 he
    subst he
    cases A with
    | none =>
      refine aw_seq ?_
      refine aw_regionA (is := [0]) rfl ?_
      refine rp rfl w0 rfl (pu_assign (r := .d _) rfl) ?_
      refine ra_nil ?_
      refine then_n ?_
      refine aw_seq ?_
      refine aw_seq ?_
      refine aw_regionA (is := [0, 1]) rfl ?_
      refine rp rfl w0 rfl (pu_move (r := .d _) rfl) ?_
      refine rp rfl w0 rfl (pu_eqnil_v tok rfl rfl rfl rfl) ?_
      refine ra_nil ?_
      refine then_n ?_
      refine aw_cond_t rfl ?_
      refine aw_seq ?_
      refine aw_regionA (is := [0]) rfl ?_
      refine rp rfl w0 rfl (pu_assign (r := .d _) rfl) ?_
      refine ra_nil ?_
      refine then_n ?_
      refine aw_weak (weak_adopt_t 3 rfl 215 4 (d := 2) rfl) ?_
      refine aw_ret ?_
      refine then_r ?_
      exact retK_ (rs := [.tmp 2]) [3] rfl
    | some a =>
      refine aw_seq ?_
      refine aw_regionA (is := [0]) rfl ?_
      refine rp rfl w0 rfl (pu_assign (r := .d _) rfl) ?_
      refine ra_nil ?_
      refine then_n ?_
      refine aw_seq ?_
      refine aw_seq ?_
      refine aw_regionA (is := [0, 1]) rfl ?_
      refine rp rfl w0 rfl (pu_move (r := .d _) rfl) ?_
      refine rp rfl w0 rfl (pu_eqnil_v tok rfl rfl rfl rfl) ?_
      refine ra_nil ?_
      refine then_n ?_
      refine aw_cond_f rfl ?_
      refine aw_skip ?_
      refine then_n ?_
      refine aw_weak (weak_emp_ cMesh_ (d := 0) rfl hk) ?_
      refine aw_seq ?_
      refine aw_regionA (is := [0, 1, 2, 3]) rfl ?_
      refine rs rfl w0 rfl (st_slice0 3 tok rfl rfl rfl rfl) ?_
      refine rp rfl w0 rfl (pu_move (r := .d _) rfl) ?_
      refine rw1 rfl w0 rfl (ap_own tok hq1 rfl rfl rfl rfl rfl rfl rfl rfl rfl rfl rfl rfl (fun _ => rfl)) ?_
      refine rp rfl w0 rfl (pu_assign (r := .own _ _ _) rfl) ?_
      refine ra_nil ?_
      refine then_n ?_
      refine aw_ret ?_
      exact retK_ (rs := [.tmp 2]) [3] rfl

theorem i_copyWorks_c {p0 : Works_} {r : Works_} (h0 : i_copyWorks_m p0 = some r) : FnC Tryz.prog 137 [] [.agg [.d (.sl (List.map cArbor_ p0.Arbors)), .d (.sl (List.map cMesh_ p0.Meshes))]] [.live [⟨213, 2, .av (nestL 1 cArbor_ r.Arbors)⟩], .live (famL 2 1 cArbor_ r.Arbors), .live [⟨215, 4, .data (List.map cMesh_ r.Meshes)⟩]] (.agg [.own 0 0 r.Arbors.length, .own 2 0 r.Meshes.length]) := by
  refine fnc_intro (T := tt) (N := 30) tok Tryz.func137 rfl rfl (by kernel_rfl) rfl rfl ?_
  unfold i_copyWorks_m at h0
  refine sq [0,1] ?_
  refine rs rfl w0 rfl (st_box 3 (cs := _ :: _) rfl rfl rfl) ?_
  refine rs rfl w0 rfl (st_alloc 4 (cs := [.d (.v (.slice none 0 0)), .d (.v (.slice none 0 0))]) tok rfl rfl rfl) ?_
  refine nx ?_
  refine sq [0] ?_
  refine rs rfl w0 rfl (st_alloc 5 (cs := [.d (.v (.slice none 0 0)), .d (.v (.slice none 0 0))]) tok rfl rfl rfl) ?_
  refine nx ?_
  obtain ⟨v9, h1, h0⟩ := bnd h0
  refine aw_cut ⟨updA (updA (updA ((fun _ => .dead)) 1 (.ptr 3 0 1 0 0)) 2 (.ptr 4 0 1 0 0)) 3 (.ptr 5 0 1 0 0), lks [.no, .no, .no, .live [⟨43, 2, .av [[.d (.sl (List.map cArbor_ p0.Arbors)), .d (.sl (List.map cMesh_ p0.Meshes))]]⟩], .live [⟨43, 2, .av [[.d (.v (.slice none 0 0)), .d (.v (.slice none 0 0))]]⟩], .live [⟨43, 2, .av [[.own 6 0 (v9).length, .d (.v (.slice none 0 0))]]⟩], .live [⟨213, 2, .av (nestL 7 cArbor_ v9)⟩], .live (famL 2 1 cArbor_ v9)]⟩ ?_ ?_
  refine sq [0,1,2,3] ?_
  refine fa tok ?_
  refine ld tok ?_
  refine rp rfl w0 rfl (pu_len_map tok rfl rfl rfl) ?_
  refine pm ?_
  refine nx ?_
  refine aw_block ?_
  refine aw_loopM (fun s5 => ⟨updA (updA (updA (updA (updA (updA ((fun _ => .dead)) 1 (.ptr 3 0 1 0 0)) 2 (.ptr 4 0 1 0 0)) 3 (.ptr 5 0 1 0 0)) 7 (.d (.sl (List.map cArbor_ p0.Arbors)))) 8 (.d (.v (.int .i64 (p0.Arbors.length : Int))))) 9 (.d (.v (.int .i64 s5.1))), lks [.no, .no, .no, .live [⟨43, 2, .av [[.d (.sl (List.map cArbor_ p0.Arbors)), .d (.sl (List.map cMesh_ p0.Meshes))]]⟩], .live [⟨43, 2, .av [[.d (.v (.slice none 0 0)), .d (.v (.slice none 0 0))]]⟩], .live [⟨43, 2, .av [[.own 6 0 (s5.2).length, .d (.v (.slice none 0 0))]]⟩], .live [⟨213, 2, .av (nestL 7 cArbor_ s5.2)⟩], .live (famL 2 1 cArbor_ s5.2)]⟩) h1 ?_ (fun s5 y h2 => ?_)
  refine Weak.trans_ (weak_adopt 6 rfl 213 2 (kb := 5) (j := 0) rfl rfl (by repeat (first | exact Spl.z _ | apply Spl.t | apply Spl.d))) ?_
  refine Weak.trans_ (weak_nest0 7 (k := 6) 2 1 cArbor_ rfl rfl) ?_
  exact wk [0, 1, 2, 3, 4, 5, 6, 7]
  refine sq [0] ?_
  refine rp rfl w0 rfl (pu_lss rfl rfl) ?_
  refine nx ?_
  refine aw_seq ?_
  refine aw_if h2 rfl (fun hc h2 => ?_) (fun hc h2 => ?_)
  refine sk ?_
  refine aw_seq ?_
  refine aw_block ?_
  refine sq [0,1,2,3] ?_
  obtain ⟨v6, hv6, h2⟩ := bnd h2
  refine rp rfl w0 rfl (sl_ix tok hv6 rfl rfl rfl rfl rfl rfl) ?_
  refine rp rfl w0 rfl (pu_load_refN tok rfl rfl rfl (by repeat (first | exact SegD.z _ | apply SegD.t))) ?_
  refine rs rfl w0 rfl (st_alloc 8 (cs := [.d (.v (.string (⟨#[]⟩ : ByteArray))), .d (.v (.slice none 0 0))]) tok rfl rfl rfl) ?_
  refine rw0 rfl w0 (bx_st (cs := _ :: _) tok rfl rfl rfl rfl rfl rfl rfl) ?_
  refine nx ?_
  refine aw_region_drawW (is := [0, 1, 2, 3, 4, 5, 6, 7, 8, 9, 10, 11]) [0, 1, 0, 4, 0, 16, 48, 124, 252, 511, 1023, 2047] follows (by kernel_rfl) ?_
  refine rt_lk rfl w0 rfl (bx_fa tok rfl rfl rfl rfl rfl rfl rfl) rfl rfl rfl ?_
  refine rt_lk rfl w0 rfl (bx_ld1 tok rfl rfl rfl rfl rfl) rfl rfl rfl ?_
  refine rt_lk rfl w0 rfl (bx_fa tok rfl rfl rfl rfl rfl rfl rfl) rfl rfl rfl ?_
  refine rt_lk rfl w0 rfl (bx_ld1 tok rfl rfl rfl rfl rfl) rfl rfl rfl ?_
  refine rt_lk rfl w0 rfl (bx_fa tok rfl rfl rfl rfl rfl rfl rfl) rfl rfl rfl ?_
  refine rt_lk rfl w0 rfl (bx_ld1 tok rfl rfl rfl rfl rfl) rfl rfl rfl ?_
  obtain ⟨v7, hv7, h2⟩ := bnd h2
  refine rt_c rfl w0 rfl (b_call 9 (slices_Clone_Lint64_int64_c hv7) rfl rfl rfl) ?_
  refine rt_p rfl w0 rfl (pbl (C0 := [.d (.v (.string (⟨#[]⟩ : ByteArray))), .d (.v (.slice none 0 0))]) tok rfl rfl rfl) ?_
  refine rt_s rfl w0 rfl (bs_av 10 tok rfl rfl rfl (by repeat (first | exact Els.nil _ | apply Els.cons (cs := [.d _]) rfl rfl rfl | apply Els.cons (cs := _ :: _) rfl rfl rfl)) rfl rfl rfl rfl) ?_
  obtain ⟨hq8, h2⟩ := chk_e h2
  refine rt_wkd rfl w0 rfl (nst_app tok (⟨v6.Name, v7⟩ : Arbor_) hq8 rfl rfl rfl rfl rfl rfl rfl rfl rfl rfl rfl rfl rfl rfl rfl) ?_
  refine rt_lk rfl w0 rfl (bx_fa tok rfl rfl rfl rfl rfl rfl rfl) rfl rfl rfl ?_
  refine rt_wk rfl w0 (bx_st (cs := [.own _ _ _]) tok rfl rfl rfl rfl rfl rfl rfl) ?_
  refine rt_nil ?_
  refine ⟨by kernel_rfl, _, Weak.trans_ (absorb_app 11 (k := 6) (kf := 7) (k2 := 9) (⟨v6.Name, v7⟩ : Arbor_) rfl rfl rfl rfl rfl rfl rfl (by repeat (first | exact NstC.nil | apply NstC.v | apply NstC.sl (by first | rfl | (simp; done)))) rfl rfl rfl) (Weak.refl_), ?_⟩
  refine block_n ?_
  refine then_n ?_
  refine sr [0,1] ?_
  refine rp rfl w0 rfl (pw_add rfl rfl) ?_
  refine pm ?_
  refine ra_nil ?_
  refine loop_n ?_
  cases h2
  refine ⟨_, rfl, ?_⟩
  exact wk [0, 1, 2, 3, 4, 5, 6, 11]
  refine aw_exit ?_
  refine then_e ?_
  cases h2
  refine loop_x ⟨_, rfl, fun e => ?_⟩
  subst e
  refine block_hit ?_
  refine then_n ?_
  exact wk [0, 1, 2, 3, 4, 5, 6, 7]
  refine sq [0,1,2,3,4] ?_
  refine fa tok ?_
  refine ld tok ?_
  obtain ⟨v10, hv10, h0⟩ := bnd h0
  refine rs rfl w0 rfl (c_call 8 (slices_Clone_LMesh_Mesh_c hv10) rfl rfl rfl) ?_
  refine fa tok ?_
  refine rw0 rfl w0 (bx_st (cs := [.own _ _ _]) tok rfl rfl rfl rfl rfl rfl rfl) ?_
  refine nx ?_
  refine sq [0,1] ?_
  refine rl rfl w0 rfl (bx_ldN tok rfl rfl rfl rfl) ?_
  refine rw0 rfl w0 (bx_st (cs := _ :: _) tok rfl rfl rfl rfl rfl rfl rfl) ?_
  refine nx ?_
  refine aw_ret ?_
  cases h0
  exact retK_ (rs := [.cell 2 43]) [6, 7, 8] rfl

theorem slices_Clone_LMonth_Month_c {p0 : List Month_} {r : List Month_} (h0 : slices_Clone_LMonth_Month_m p0 = some r) : FnC Tryz.prog 138 [] [.d (.sl (List.map cMonth_ p0))] [.live [⟨147, 3, .data (List.map cMonth_ r)⟩]] (.own 0 0 r.length) := by
  refine fnc_intro (T := tt) (N := 8) tok Tryz.func138 rfl rfl (by kernel_rfl) rfl rfl ?_
  unfold slices_Clone_LMonth_Month_m at h0
  obtain ⟨hq1, h0⟩ := chk_e h0
  cases h0
  refine aw_slice (d := 0) rfl rfl (fun hne => ?_) (fun he A k hk => ?_)
  · skip
    refine aw_seq ?_
    refine aw_regionA (is := [0]) rfl ?_
    refine rp rfl w0 rfl (pu_assign (r := .d _) rfl) ?_
    refine ra_nil ?_
    refine then_n ?_
    refine aw_seq ?_
    refine aw_seq ?_
    refine aw_regionA (is := [0, 1]) rfl ?_
    refine rp rfl w0 rfl (pu_move (r := .d _) rfl) ?_
    refine rp rfl w0 rfl (pu_eqnil_ne tok rfl hne rfl rfl rfl) ?_
    refine ra_nil ?_
    refine then_n ?_
    refine aw_cond_f rfl ?_
    refine aw_skip ?_
    refine then_n ?_
    refine aw_seq ?_
    refine aw_regionA (is := [0, 1, 2, 3]) rfl ?_
    refine rs rfl w0 rfl (st_slice0 3 tok rfl rfl rfl rfl) ?_
    refine rp rfl w0 rfl (pu_move (r := .d _) rfl) ?_
    refine rw1 rfl w0 rfl (ap_own tok hq1 rfl rfl rfl rfl rfl rfl rfl rfl rfl rfl rfl rfl (fun _ => rfl)) ?_
    refine rp rfl w0 rfl (pu_assign (r := .own _ _ _) rfl) ?_
    refine ra_nil ?_
    refine then_n ?_
    refine aw_ret ?_
    exact retK_ (rs := [.tmp 2]) [3] rfl
  · skip
    have he : p0 = [] := List.map_eq_nil_iff.1 he
    subst he
    cases A with
    | none =>
      refine aw_seq ?_
      refine aw_regionA (is := [0]) rfl ?_
      refine rp rfl w0 rfl (pu_assign (r := .d _) rfl) ?_
      refine ra_nil ?_
      refine then_n ?_
      refine aw_seq ?_
      refine aw_seq ?_
      refine aw_regionA (is := [0, 1]) rfl ?_
      refine rp rfl w0 rfl (pu_move (r := .d _) rfl) ?_
      refine rp rfl w0 rfl (pu_eqnil_v tok rfl rfl rfl rfl) ?_
      refine ra_nil ?_
      refine then_n ?_
      refine aw_cond_t rfl ?_
      refine aw_seq ?_
      refine aw_regionA (is := [0]) rfl ?_
      refine rp rfl w0 rfl (pu_assign (r := .d _) rfl) ?_
      refine ra_nil ?_
      refine then_n ?_
      refine aw_weak (weak_adopt_t 3 rfl 147 3 (d := 2) rfl) ?_
      refine aw_ret ?_
      refine then_r ?_
      exact retK_ (rs := [.tmp 2]) [3] rfl
    | some a =>
      refine aw_seq ?_
      refine aw_regionA (is := [0]) rfl ?_
      refine rp rfl w0 rfl (pu_assign (r := .d _) rfl) ?_
      refine ra_nil ?_
      refine then_n ?_
      refine aw_seq ?_
      refine aw_seq ?_
      refine aw_regionA (is := [0, 1]) rfl ?_
      refine rp rfl w0 rfl (pu_move (r := .d _) rfl) ?_
      refine rp rfl w0 rfl (pu_eqnil_v tok rfl rfl rfl rfl) ?_
      refine ra_nil ?_
      refine then_n ?_
      refine aw_cond_f rfl ?_
      refine aw_skip ?_
      refine then_n ?_
      refine aw_weak (weak_emp_ cMonth_ (d := 0) rfl hk) ?_
      refine aw_seq ?_
      refine aw_regionA (is := [0, 1, 2, 3]) rfl ?_
      refine rs rfl w0 rfl (st_slice0 3 tok rfl rfl rfl rfl) ?_
      refine rp rfl w0 rfl (pu_move (r := .d _) rfl) ?_
      refine rw1 rfl w0 rfl (ap_own tok hq1 rfl rfl rfl rfl rfl rfl rfl rfl rfl rfl rfl rfl (fun _ => rfl)) ?_
      refine rp rfl w0 rfl (pu_assign (r := .own _ _ _) rfl) ?_
      refine ra_nil ?_
      refine then_n ?_
      refine aw_ret ?_
      exact retK_ (rs := [.tmp 2]) [3] rfl

theorem slices_Clone_LLeapRule_LeapRule_c {p0 : List LeapRule_} {r : List LeapRule_} (h0 : slices_Clone_LLeapRule_LeapRule_m p0 = some r) : FnC Tryz.prog 139 [] [.d (.sl (List.map cLeapRule_ p0))] [.live [⟨179, 3, .data (List.map cLeapRule_ r)⟩]] (.own 0 0 r.length) := by
  refine fnc_intro (T := tt) (N := 8) tok Tryz.func139 rfl rfl (by kernel_rfl) rfl rfl ?_
  unfold slices_Clone_LLeapRule_LeapRule_m at h0
  obtain ⟨hq1, h0⟩ := chk_e h0
  cases h0
  refine aw_slice (d := 0) rfl rfl (fun hne => ?_) (fun he A k hk => ?_)
  · skip
    refine aw_seq ?_
    refine aw_regionA (is := [0]) rfl ?_
    refine rp rfl w0 rfl (pu_assign (r := .d _) rfl) ?_
    refine ra_nil ?_
    refine then_n ?_
    refine aw_seq ?_
    refine aw_seq ?_
    refine aw_regionA (is := [0, 1]) rfl ?_
    refine rp rfl w0 rfl (pu_move (r := .d _) rfl) ?_
    refine rp rfl w0 rfl (pu_eqnil_ne tok rfl hne rfl rfl rfl) ?_
    refine ra_nil ?_
    refine then_n ?_
    refine aw_cond_f rfl ?_
    refine aw_skip ?_
    refine then_n ?_
    refine aw_seq ?_
    refine aw_regionA (is := [0, 1, 2, 3]) rfl ?_
    refine rs rfl w0 rfl (st_slice0 3 tok rfl rfl rfl rfl) ?_
    refine rp rfl w0 rfl (pu_move (r := .d _) rfl) ?_
    refine rw1 rfl w0 rfl (ap_own tok hq1 rfl rfl rfl rfl rfl rfl rfl rfl rfl rfl rfl rfl (fun _ => rfl)) ?_
    refine rp rfl w0 rfl (pu_assign (r := .own _ _ _) rfl) ?_
    refine ra_nil ?_
    refine then_n ?_
    refine aw_ret ?_
    exact retK_ (rs := [.tmp 2]) [3] rfl
  · skip
    have he : p0 = [] := List.map_eq_nil_iff.1 he
    subst he
    cases A with
    | none =>
      refine aw_seq ?_
      refine aw_regionA (is := [0]) rfl ?_
      refine rp rfl w0 rfl (pu_assign (r := .d _) rfl) ?_
      refine ra_nil ?_
      refine then_n ?_
      refine aw_seq ?_
      refine aw_seq ?_
      refine aw_regionA (is := [0, 1]) rfl ?_
      refine rp rfl w0 rfl (pu_move (r := .d _) rfl) ?_
      refine rp rfl w0 rfl (pu_eqnil_v tok rfl rfl rfl rfl) ?_
      refine ra_nil ?_
      refine then_n ?_
      refine aw_cond_t rfl ?_
      refine aw_seq ?_
      refine aw_regionA (is := [0]) rfl ?_
      refine rp rfl w0 rfl (pu_assign (r := .d _) rfl) ?_
      refine ra_nil ?_
      refine then_n ?_
      refine aw_weak (weak_adopt_t 3 rfl 179 3 (d := 2) rfl) ?_
      refine aw_ret ?_
      refine then_r ?_
      exact retK_ (rs := [.tmp 2]) [3] rfl
    | some a =>
      refine aw_seq ?_
      refine aw_regionA (is := [0]) rfl ?_
      refine rp rfl w0 rfl (pu_assign (r := .d _) rfl) ?_
      refine ra_nil ?_
      refine then_n ?_
      refine aw_seq ?_
      refine aw_seq ?_
      refine aw_regionA (is := [0, 1]) rfl ?_
      refine rp rfl w0 rfl (pu_move (r := .d _) rfl) ?_
      refine rp rfl w0 rfl (pu_eqnil_v tok rfl rfl rfl rfl) ?_
      refine ra_nil ?_
      refine then_n ?_
      refine aw_cond_f rfl ?_
      refine aw_skip ?_
      refine then_n ?_
      refine aw_weak (weak_emp_ cLeapRule_ (d := 0) rfl hk) ?_
      refine aw_seq ?_
      refine aw_regionA (is := [0, 1, 2, 3]) rfl ?_
      refine rs rfl w0 rfl (st_slice0 3 tok rfl rfl rfl rfl) ?_
      refine rp rfl w0 rfl (pu_move (r := .d _) rfl) ?_
      refine rw1 rfl w0 rfl (ap_own tok hq1 rfl rfl rfl rfl rfl rfl rfl rfl rfl rfl rfl rfl (fun _ => rfl)) ?_
      refine rp rfl w0 rfl (pu_assign (r := .own _ _ _) rfl) ?_
      refine ra_nil ?_
      refine then_n ?_
      refine aw_ret ?_
      exact retK_ (rs := [.tmp 2]) [3] rfl

theorem i_copyMovement_c {p0 : Movement_} {r : Movement_} (h0 : i_copyMovement_m p0 = some r) : FnC Tryz.prog 79 [] [.agg [.d (.v (.string p0.Name)), .d (.sl (List.map cArbor_ p0.Works.Arbors)), .d (.sl (List.map cMesh_ p0.Works.Meshes)), .d (.v (.int .i64 p0.Minute)), .d (.v (.int .i64 p0.Hour)), .d (.v (.int .i64 p0.Escape)), .d (.v (.int .i64 p0.Teeth)), .d (.v (.int .i64 p0.Beats)), .d (.v (.string p0.Calendar.Name)), .d (.sl (List.map cMonth_ p0.Calendar.Months)), .d (.sl (List.map cLeapRule_ p0.Calendar.Rules)), .d (.v (.int .i64 p0.Calendar.Week)), .d (.sl (List.map cI p0.Cam)), .d (.v (.int .i64 p0.Strike))]] [.live [⟨213, 2, .av (nestL 1 cArbor_ r.Works.Arbors)⟩], .live (famL 2 1 cArbor_ r.Works.Arbors), .live [⟨215, 4, .data (List.map cMesh_ r.Works.Meshes)⟩], .live [⟨147, 3, .data (List.map cMonth_ r.Calendar.Months)⟩], .live [⟨179, 3, .data (List.map cLeapRule_ r.Calendar.Rules)⟩], .live [⟨2, 1, .data (List.map cI r.Cam)⟩]] (.agg [.d (.v (.string r.Name)), .own 0 0 r.Works.Arbors.length, .own 2 0 r.Works.Meshes.length, .d (.v (.int .i64 r.Minute)), .d (.v (.int .i64 r.Hour)), .d (.v (.int .i64 r.Escape)), .d (.v (.int .i64 r.Teeth)), .d (.v (.int .i64 r.Beats)), .d (.v (.string r.Calendar.Name)), .own 3 0 r.Calendar.Months.length, .own 4 0 r.Calendar.Rules.length, .d (.v (.int .i64 r.Calendar.Week)), .own 5 0 r.Cam.length, .d (.v (.int .i64 r.Strike))]) := by
  refine fnc_intro (T := tt) (N := 24) tok Tryz.func79 rfl rfl (by kernel_rfl) rfl rfl ?_
  unfold i_copyMovement_m at h0
  refine sq [0,1] ?_
  refine rs rfl w0 rfl (st_box 3 (cs := _ :: _) rfl rfl rfl) ?_
  refine rs rfl w0 rfl (st_alloc 4 (cs := [.d (.v (.string (⟨#[]⟩ : ByteArray))), .d (.v (.slice none 0 0)), .d (.v (.slice none 0 0)), .d (.v (.int .i64 0)), .d (.v (.int .i64 0)), .d (.v (.int .i64 0)), .d (.v (.int .i64 0)), .d (.v (.int .i64 0)), .d (.v (.string (⟨#[]⟩ : ByteArray))), .d (.v (.slice none 0 0)), .d (.v (.slice none 0 0)), .d (.v (.int .i64 0)), .d (.v (.slice none 0 0)), .d (.v (.int .i64 0))]) tok rfl rfl rfl) ?_
  refine nx ?_
  refine sq [0,1,2,3,4] ?_
  refine fa tok ?_
  refine rl rfl w0 rfl (bx_ldN tok rfl rfl rfl rfl) ?_
  obtain ⟨v1, hv1, h0⟩ := bnd h0
  refine rs rfl w0 rfl (c_call 5 (i_copyWorks_c hv1) rfl rfl rfl) ?_
  refine fa tok ?_
  refine rw0 rfl w0 (bx_st (cs := _ :: _) tok rfl rfl rfl rfl rfl rfl rfl) ?_
  refine nx ?_
  refine sq [0,1,2,3,4,5,6] ?_
  refine fa tok ?_
  refine fa tok ?_
  refine ld tok ?_
  obtain ⟨v2, hv2, h0⟩ := bnd h0
  refine rs rfl w0 rfl (c_call 8 (slices_Clone_LMonth_Month_c hv2) rfl rfl rfl) ?_
  refine fa tok ?_
  refine fa tok ?_
  refine rw0 rfl w0 (bx_st (cs := [.own _ _ _]) tok rfl rfl rfl rfl rfl rfl rfl) ?_
  refine nx ?_
  refine sq [0,1,2,3,4,5,6] ?_
  refine fa tok ?_
  refine fa tok ?_
  refine ld tok ?_
  obtain ⟨v3, hv3, h0⟩ := bnd h0
  refine rs rfl w0 rfl (c_call 9 (slices_Clone_LLeapRule_LeapRule_c hv3) rfl rfl rfl) ?_
  refine fa tok ?_
  refine fa tok ?_
  refine rw0 rfl w0 (bx_st (cs := [.own _ _ _]) tok rfl rfl rfl rfl rfl rfl rfl) ?_
  refine nx ?_
  refine sq [0,1,2,3,4] ?_
  refine fa tok ?_
  refine ld tok ?_
  obtain ⟨v4, hv4, h0⟩ := bnd h0
  refine rs rfl w0 rfl (c_call 10 (slices_Clone_Lint64_int64_c hv4) rfl rfl rfl) ?_
  refine fa tok ?_
  refine rw0 rfl w0 (bx_st (cs := [.own _ _ _]) tok rfl rfl rfl rfl rfl rfl rfl) ?_
  refine nx ?_
  refine sq [0,1] ?_
  refine rl rfl w0 rfl (bx_ldN tok rfl rfl rfl rfl) ?_
  refine rw0 rfl w0 (bx_st (cs := _ :: _) tok rfl rfl rfl rfl rfl rfl rfl) ?_
  refine nx ?_
  refine aw_ret ?_
  cases h0
  exact retK_ (rs := [.cell 2 49]) [5, 6, 7, 8, 9, 10] rfl

theorem i_NewSim_c {p0 : Movement_} {p1 : Date_} {p2 : Int} {r : Sim_ × Int} (h0 : i_NewSim_m p0 p1 p2 = some r) : FnC Tryz.prog 76 [] [.agg [.d (.v (.string p0.Name)), .d (.sl (List.map cArbor_ p0.Works.Arbors)), .d (.sl (List.map cMesh_ p0.Works.Meshes)), .d (.v (.int .i64 p0.Minute)), .d (.v (.int .i64 p0.Hour)), .d (.v (.int .i64 p0.Escape)), .d (.v (.int .i64 p0.Teeth)), .d (.v (.int .i64 p0.Beats)), .d (.v (.string p0.Calendar.Name)), .d (.sl (List.map cMonth_ p0.Calendar.Months)), .d (.sl (List.map cLeapRule_ p0.Calendar.Rules)), .d (.v (.int .i64 p0.Calendar.Week)), .d (.sl (List.map cI p0.Cam)), .d (.v (.int .i64 p0.Strike))], .agg [.d (.v (.int .i64 p1.Year)), .d (.v (.int .i64 p1.Month)), .d (.v (.int .i64 p1.Day))], .d (.v (.int .i64 p2))] [.live [⟨213, 2, .av (nestL 1 cArbor_ r.1.Movement.Works.Arbors)⟩], .live (famL 2 1 cArbor_ r.1.Movement.Works.Arbors), .live [⟨215, 4, .data (List.map cMesh_ r.1.Movement.Works.Meshes)⟩], .live [⟨147, 3, .data (List.map cMonth_ r.1.Movement.Calendar.Months)⟩], .live [⟨179, 3, .data (List.map cLeapRule_ r.1.Movement.Calendar.Rules)⟩], .live [⟨2, 1, .data (List.map cI r.1.Movement.Cam)⟩], .live [⟨2, 1, .data (List.map cI r.1.Dial.Cam)⟩]] (.tup [.agg [.d (.v (.string r.1.Movement.Name)), .own 0 0 r.1.Movement.Works.Arbors.length, .own 2 0 r.1.Movement.Works.Meshes.length, .d (.v (.int .i64 r.1.Movement.Minute)), .d (.v (.int .i64 r.1.Movement.Hour)), .d (.v (.int .i64 r.1.Movement.Escape)), .d (.v (.int .i64 r.1.Movement.Teeth)), .d (.v (.int .i64 r.1.Movement.Beats)), .d (.v (.string r.1.Movement.Calendar.Name)), .own 3 0 r.1.Movement.Calendar.Months.length, .own 4 0 r.1.Movement.Calendar.Rules.length, .d (.v (.int .i64 r.1.Movement.Calendar.Week)), .own 5 0 r.1.Movement.Cam.length, .d (.v (.int .i64 r.1.Movement.Strike)), .d (.v (.int .i64 r.1.Start.Year)), .d (.v (.int .i64 r.1.Start.Month)), .d (.v (.int .i64 r.1.Start.Day)), .d (.v (.int .i64 r.1.First)), .d (.v (.int .i64 r.1.Clock)), .own 6 0 r.1.Dial.Cam.length, .d (.v (.int .i64 r.1.Dial.Months)), .d (.v (.int .i64 r.1.Dial.Teeth)), .d (.v (.int .i64 r.1.Dial.At)), .d (.v (.int .i64 r.1.Dial.Day)), .d (.v (.int .i64 r.1.Dial.Week)), .d (.v (.int .i64 r.1.Dial.Weekday))], .d (.v (.int .i64 r.2))]) := by
  refine fnc_intro (T := tt) (N := 39) tok Tryz.func76 rfl rfl (by kernel_rfl) rfl rfl ?_
  unfold i_NewSim_m at h0
  refine sq [0,1,2,3] ?_
  refine rs rfl w0 rfl (st_box 3 (cs := _ :: _) rfl rfl rfl) ?_
  refine rs rfl w0 rfl (st_box 4 (cs := _ :: _) rfl rfl rfl) ?_
  refine rs rfl w0 rfl (st_alloc 5 (cs := [.d (.v (.string (⟨#[]⟩ : ByteArray))), .d (.v (.slice none 0 0)), .d (.v (.slice none 0 0)), .d (.v (.int .i64 0)), .d (.v (.int .i64 0)), .d (.v (.int .i64 0)), .d (.v (.int .i64 0)), .d (.v (.int .i64 0)), .d (.v (.string (⟨#[]⟩ : ByteArray))), .d (.v (.slice none 0 0)), .d (.v (.slice none 0 0)), .d (.v (.int .i64 0)), .d (.v (.slice none 0 0)), .d (.v (.int .i64 0)), .d (.v (.int .i64 0)), .d (.v (.int .i64 0)), .d (.v (.int .i64 0)), .d (.v (.int .i64 0)), .d (.v (.int .i64 0)), .d (.v (.slice none 0 0)), .d (.v (.int .i64 0)), .d (.v (.int .i64 0)), .d (.v (.int .i64 0)), .d (.v (.int .i64 0)), .d (.v (.int .i64 0)), .d (.v (.int .i64 0))]) tok rfl rfl rfl) ?_
  refine pa ?_
  refine nx ?_
  refine aw_seq ?_
  refine sq [0,1,2] ?_
  refine rl rfl w0 rfl (bx_ldN tok rfl rfl rfl rfl) ?_
  obtain ⟨v1, hv1, h0⟩ := bnd h0
  refine rs rfl w0 rfl (c_call 6 (i_ValidMovement_c hv1) rfl rfl rfl) ?_
  refine rp rfl w0 rfl (pu_not rfl) ?_
  refine nx ?_
  refine aw_ifB h0 rfl (fun hc h0 => ?_) (fun hc h0 => ?_)
  refine sq [0,1,2] ?_
  refine rp rfl w0 rfl (pbl (C0 := [.d (.v (.string (⟨#[]⟩ : ByteArray))), .d (.v (.slice none 0 0)), .d (.v (.slice none 0 0)), .d (.v (.int .i64 0)), .d (.v (.int .i64 0)), .d (.v (.int .i64 0)), .d (.v (.int .i64 0)), .d (.v (.int .i64 0)), .d (.v (.string (⟨#[]⟩ : ByteArray))), .d (.v (.slice none 0 0)), .d (.v (.slice none 0 0)), .d (.v (.int .i64 0)), .d (.v (.slice none 0 0)), .d (.v (.int .i64 0)), .d (.v (.int .i64 0)), .d (.v (.int .i64 0)), .d (.v (.int .i64 0)), .d (.v (.int .i64 0)), .d (.v (.int .i64 0)), .d (.v (.slice none 0 0)), .d (.v (.int .i64 0)), .d (.v (.int .i64 0)), .d (.v (.int .i64 0)), .d (.v (.int .i64 0)), .d (.v (.int .i64 0)), .d (.v (.int .i64 0))]) tok rfl rfl rfl) ?_
  refine rw0 rfl w0 (bx_st (cs := _ :: _) tok rfl rfl rfl rfl rfl rfl rfl) ?_
  refine pa ?_
  refine nx ?_
  refine aw_weak (weak_adopt 6 rfl 213 2 (kb := 5) (j := 1) rfl rfl (by repeat (first | exact Spl.z _ | apply Spl.t | apply Spl.d))) ?_
  refine aw_weak (weak_nest0 7 (k := 6) 2 1 cArbor_ rfl rfl) ?_
  refine aw_weak (weak_adopt 8 rfl 215 4 (kb := 5) (j := 2) rfl rfl (by repeat (first | exact Spl.z _ | apply Spl.t | apply Spl.d))) ?_
  refine aw_weak (weak_adopt 9 rfl 147 3 (kb := 5) (j := 9) rfl rfl (by repeat (first | exact Spl.z _ | apply Spl.t | apply Spl.d))) ?_
  refine aw_weak (weak_adopt 10 rfl 179 3 (kb := 5) (j := 10) rfl rfl (by repeat (first | exact Spl.z _ | apply Spl.t | apply Spl.d))) ?_
  refine aw_weak (weak_adopt 11 rfl 2 1 (kb := 5) (j := 12) rfl rfl (by repeat (first | exact Spl.z _ | apply Spl.t | apply Spl.d))) ?_
  refine aw_weak (weak_adopt 12 rfl 2 1 (kb := 5) (j := 19) rfl rfl (by repeat (first | exact Spl.z _ | apply Spl.t | apply Spl.d))) ?_
  refine aw_ret ?_
  refine then_r ?_
  cases h0
  exact retK_ (rs := [.cell 6 53, .tmp 7]) [6, 7, 8, 9, 10, 11, 12] rfl
  refine sk ?_
  refine aw_seq ?_
  refine sq [0,1,2,3] ?_
  refine rl rfl w0 rfl (bx_ldN tok rfl rfl rfl rfl) ?_
  obtain ⟨v2, hv2, h0⟩ := bnd h0
  refine rs rfl w0 rfl (c_call 6 (i_MovementFaults_c hv2) rfl rfl rfl) ?_
  refine rl rfl w0 rfl (ow_len tok rfl rfl rfl rfl rfl) ?_
  refine rp rfl w0 rfl (pu_gtr rfl rfl) ?_
  refine nx ?_
  refine aw_if h0 rfl (fun hc h0 => ?_) (fun hc h0 => ?_)
  refine sq [0,1,2] ?_
  refine rp rfl w0 rfl (pbl (C0 := [.d (.v (.string (⟨#[]⟩ : ByteArray))), .d (.v (.slice none 0 0)), .d (.v (.slice none 0 0)), .d (.v (.int .i64 0)), .d (.v (.int .i64 0)), .d (.v (.int .i64 0)), .d (.v (.int .i64 0)), .d (.v (.int .i64 0)), .d (.v (.string (⟨#[]⟩ : ByteArray))), .d (.v (.slice none 0 0)), .d (.v (.slice none 0 0)), .d (.v (.int .i64 0)), .d (.v (.slice none 0 0)), .d (.v (.int .i64 0)), .d (.v (.int .i64 0)), .d (.v (.int .i64 0)), .d (.v (.int .i64 0)), .d (.v (.int .i64 0)), .d (.v (.int .i64 0)), .d (.v (.slice none 0 0)), .d (.v (.int .i64 0)), .d (.v (.int .i64 0)), .d (.v (.int .i64 0)), .d (.v (.int .i64 0)), .d (.v (.int .i64 0)), .d (.v (.int .i64 0))]) tok rfl rfl rfl) ?_
  refine rw0 rfl w0 (bx_st (cs := _ :: _) tok rfl rfl rfl rfl rfl rfl rfl) ?_
  refine pa ?_
  refine nx ?_
  refine aw_weak (weak_adopt 7 rfl 213 2 (kb := 5) (j := 1) rfl rfl (by repeat (first | exact Spl.z _ | apply Spl.t | apply Spl.d))) ?_
  refine aw_weak (weak_nest0 8 (k := 7) 2 1 cArbor_ rfl rfl) ?_
  refine aw_weak (weak_adopt 9 rfl 215 4 (kb := 5) (j := 2) rfl rfl (by repeat (first | exact Spl.z _ | apply Spl.t | apply Spl.d))) ?_
  refine aw_weak (weak_adopt 10 rfl 147 3 (kb := 5) (j := 9) rfl rfl (by repeat (first | exact Spl.z _ | apply Spl.t | apply Spl.d))) ?_
  refine aw_weak (weak_adopt 11 rfl 179 3 (kb := 5) (j := 10) rfl rfl (by repeat (first | exact Spl.z _ | apply Spl.t | apply Spl.d))) ?_
  refine aw_weak (weak_adopt 12 rfl 2 1 (kb := 5) (j := 12) rfl rfl (by repeat (first | exact Spl.z _ | apply Spl.t | apply Spl.d))) ?_
  refine aw_weak (weak_adopt 13 rfl 2 1 (kb := 5) (j := 19) rfl rfl (by repeat (first | exact Spl.z _ | apply Spl.t | apply Spl.d))) ?_
  refine aw_ret ?_
  refine then_r ?_
  cases h0
  exact retK_ (rs := [.cell 6 53, .tmp 7]) [7, 8, 9, 10, 11, 12, 13] rfl
  refine sk ?_
  refine sq [0,1,2,3,4,5,6,7,8,9,10,11,12] ?_
  refine fa tok ?_
  refine rl rfl w0 rfl (bx_ldN tok rfl rfl rfl rfl) ?_
  refine fa tok ?_
  refine ld tok ?_
  refine rl rfl w0 rfl (bx_ldN tok rfl rfl rfl rfl) ?_
  refine pm ?_
  obtain ⟨v3, hv3, h0⟩ := bnd h0
  refine rs rfl w0 rfl (c_call 7 (i_SetPerpetual_c hv3) rfl rfl rfl) ?_
  refine rp rfl w0 rfl (pu_move (r := .tup _) rfl) ?_
  refine rp rfl w0 rfl (pu_extract rfl rfl) ?_
  refine rp rfl w0 rfl (pu_extract rfl rfl) ?_
  refine rs rfl w0 rfl (st_alloc 8 (cs := [.d (.v (.slice none 0 0)), .d (.v (.int .i64 0)), .d (.v (.int .i64 0)), .d (.v (.int .i64 0)), .d (.v (.int .i64 0)), .d (.v (.int .i64 0)), .d (.v (.int .i64 0))]) tok rfl rfl rfl) ?_
  refine rw0 rfl w0 (bx_st (cs := _ :: _) tok rfl rfl rfl rfl rfl rfl rfl) ?_
  refine pa ?_
  refine nx ?_
  refine aw_seq ?_
  refine sq [0,1] ?_
  refine pm ?_
  refine rp rfl w0 rfl (pu_neq rfl rfl) ?_
  refine nx ?_
  refine aw_if h0 rfl (fun hc h0 => ?_) (fun hc h0 => ?_)
  refine sq [0,1,2,3] ?_
  refine rp rfl w0 rfl (pbl (C0 := [.d (.v (.string (⟨#[]⟩ : ByteArray))), .d (.v (.slice none 0 0)), .d (.v (.slice none 0 0)), .d (.v (.int .i64 0)), .d (.v (.int .i64 0)), .d (.v (.int .i64 0)), .d (.v (.int .i64 0)), .d (.v (.int .i64 0)), .d (.v (.string (⟨#[]⟩ : ByteArray))), .d (.v (.slice none 0 0)), .d (.v (.slice none 0 0)), .d (.v (.int .i64 0)), .d (.v (.slice none 0 0)), .d (.v (.int .i64 0)), .d (.v (.int .i64 0)), .d (.v (.int .i64 0)), .d (.v (.int .i64 0)), .d (.v (.int .i64 0)), .d (.v (.int .i64 0)), .d (.v (.slice none 0 0)), .d (.v (.int .i64 0)), .d (.v (.int .i64 0)), .d (.v (.int .i64 0)), .d (.v (.int .i64 0)), .d (.v (.int .i64 0)), .d (.v (.int .i64 0))]) tok rfl rfl rfl) ?_
  refine pm ?_
  refine rw0 rfl w0 (bx_st (cs := _ :: _) tok rfl rfl rfl rfl rfl rfl rfl) ?_
  refine pa ?_
  refine nx ?_
  refine aw_weak (weak_adopt 9 rfl 213 2 (kb := 5) (j := 1) rfl rfl (by repeat (first | exact Spl.z _ | apply Spl.t | apply Spl.d))) ?_
  refine aw_weak (weak_nest0 10 (k := 9) 2 1 cArbor_ rfl rfl) ?_
  refine aw_weak (weak_adopt 11 rfl 215 4 (kb := 5) (j := 2) rfl rfl (by repeat (first | exact Spl.z _ | apply Spl.t | apply Spl.d))) ?_
  refine aw_weak (weak_adopt 12 rfl 147 3 (kb := 5) (j := 9) rfl rfl (by repeat (first | exact Spl.z _ | apply Spl.t | apply Spl.d))) ?_
  refine aw_weak (weak_adopt 13 rfl 179 3 (kb := 5) (j := 10) rfl rfl (by repeat (first | exact Spl.z _ | apply Spl.t | apply Spl.d))) ?_
  refine aw_weak (weak_adopt 14 rfl 2 1 (kb := 5) (j := 12) rfl rfl (by repeat (first | exact Spl.z _ | apply Spl.t | apply Spl.d))) ?_
  refine aw_weak (weak_adopt 15 rfl 2 1 (kb := 5) (j := 19) rfl rfl (by repeat (first | exact Spl.z _ | apply Spl.t | apply Spl.d))) ?_
  refine aw_ret ?_
  refine then_r ?_
  cases h0
  exact retK_ (rs := [.cell 6 53, .tmp 7]) [9, 10, 11, 12, 13, 14, 15] rfl
  refine sk ?_
  refine aw_seq ?_
  refine aw_region_draw (is := [0, 2, 3, 4, 1, 5, 6, 7]) [0, 1, 0, 0, 0, 31, 63, 127] follows (by kernel_rfl) ?_
  refine rt_lk rfl w0 rfl (bx_ldN tok rfl rfl rfl rfl) rfl rfl rfl ?_
  refine rt_lk rfl w0 rfl (bx_ldN tok rfl rfl rfl rfl) rfl rfl rfl ?_
  refine tpm ?_
  refine rt_lk rfl w0 rfl (bx_ldN tok rfl rfl rfl rfl) rfl rfl rfl ?_
  obtain ⟨v4, hv4, h0⟩ := bnd h0
  refine rt_c rfl w0 rfl (b_call 9 (i_copyMovement_c hv4) rfl rfl rfl) ?_
  refine rt_p rfl w0 rfl (pbl (C0 := [.d (.v (.string (⟨#[]⟩ : ByteArray))), .d (.v (.slice none 0 0)), .d (.v (.slice none 0 0)), .d (.v (.int .i64 0)), .d (.v (.int .i64 0)), .d (.v (.int .i64 0)), .d (.v (.int .i64 0)), .d (.v (.int .i64 0)), .d (.v (.string (⟨#[]⟩ : ByteArray))), .d (.v (.slice none 0 0)), .d (.v (.slice none 0 0)), .d (.v (.int .i64 0)), .d (.v (.slice none 0 0)), .d (.v (.int .i64 0)), .d (.v (.int .i64 0)), .d (.v (.int .i64 0)), .d (.v (.int .i64 0)), .d (.v (.int .i64 0)), .d (.v (.int .i64 0)), .d (.v (.slice none 0 0)), .d (.v (.int .i64 0)), .d (.v (.int .i64 0)), .d (.v (.int .i64 0)), .d (.v (.int .i64 0)), .d (.v (.int .i64 0)), .d (.v (.int .i64 0))]) tok rfl rfl rfl) ?_
  refine rt_wk rfl w0 (bx_st (cs := _ :: _) tok rfl rfl rfl rfl rfl rfl rfl) ?_
  refine tpa ?_
  refine rt_nil ?_
  refine ⟨by kernel_rfl, ?_⟩
  refine then_n ?_
  refine aw_ret ?_
  cases h0
  exact retK_ (rs := [.cell 6 53, .tmp 7]) [9, 10, 11, 12, 13, 14, 7] rfl

theorem i_ValidPerpetual_c {p0 : Perpetual_} {r : Bool} (h0 : i_ValidPerpetual_m p0 = some r) : FnC Tryz.prog 77 [] [.agg [.d (.sl (List.map cI p0.Cam)), .d (.v (.int .i64 p0.Months)), .d (.v (.int .i64 p0.Teeth)), .d (.v (.int .i64 p0.At)), .d (.v (.int .i64 p0.Day)), .d (.v (.int .i64 p0.Week)), .d (.v (.int .i64 p0.Weekday))]] [] (.d (.v (.bool r))) := by
  refine fnc_intro (T := tt) (N := 58) tok Tryz.func77 rfl rfl (by kernel_rfl) rfl rfl ?_
  unfold i_ValidPerpetual_m at h0
  refine sq [0,1] ?_
  refine rs rfl w0 rfl (st_box 3 (cs := _ :: _) rfl rfl rfl) ?_
  refine pa ?_
  refine nx ?_
  refine aw_seq ?_
  obtain ⟨v3, h1, h0⟩ := bnd h0
  refine aw_cut ⟨updA (updA ((fun _ => .dead)) 1 (.ptr 3 0 1 0 0)) 20 (.d (.v (.bool v3))), lks [.no, .no, .no, .live [⟨51, 7, .av [[.d (.sl (List.map cI p0.Cam)), .d (.v (.int .i64 p0.Months)), .d (.v (.int .i64 p0.Teeth)), .d (.v (.int .i64 p0.At)), .d (.v (.int .i64 p0.Day)), .d (.v (.int .i64 p0.Week)), .d (.v (.int .i64 p0.Weekday))]]⟩]]⟩ ?_ ?_
  refine sr [0,1,2,3,4,5,6,7,8,9,10,11,12,13,14,15,16,17] ?_
  refine fa tok ?_
  refine ld tok ?_
  obtain ⟨v1, hv1, h1⟩ := bnd h1
  refine rs rfl w0 rfl (c_call 4 (i_ValidCam_c hv1) rfl rfl rfl) ?_
  refine rp rfl w0 rfl (pu_not rfl) ?_
  refine pm ?_
  refine ra_ifB (u := 7) h1 rfl (fun hc h1 => ?_) (fun hc h1 => ?_)
  iterate 3 refine k1 ?_
  refine pkt ?_
  refine pm ?_
  iterate 7 refine k1 ?_
  refine pkt ?_
  refine nx ?_
  cases h1
  exact wk [0, 1, 2, 3]
  refine fa1 tok ?_
  refine ld1 tok ?_
  refine rp rfl (w1 rfl rfl rfl) rfl (pu_lss rfl rfl) ?_
  refine pkf ?_
  refine pm ?_
  refine ra_if (u := 12) h1 rfl (fun hc h1 => ?_) (fun hc h1 => ?_)
  iterate 7 refine k1 ?_
  refine pkt ?_
  refine nx ?_
  cases h1
  exact wk [0, 1, 2, 3]
  refine fa1 tok ?_
  refine ld1 tok ?_
  refine rp rfl (w1 rfl rfl rfl) rfl (pu_len_map tok rfl rfl rfl) ?_
  refine fa1 tok ?_
  refine ld1 tok ?_
  obtain ⟨hq2, h1⟩ := chk_e h1
  refine rp rfl (w1 rfl rfl rfl) rfl (pu_remw rfl rfl hq2) ?_
  refine rp rfl (w1 rfl rfl rfl) rfl (pu_neq rfl rfl) ?_
  refine pkf ?_
  refine nx ?_
  cases h1
  exact wk [0, 1, 2, 3]
  refine aw_ifB h0 rfl (fun hc h0 => ?_) (fun hc h0 => ?_)
  refine sq [0] ?_
  refine pa ?_
  refine nx ?_
  refine aw_ret ?_
  refine then_r ?_
  cases h0
  exact ret0_ (rs := [.tmp 2]) rfl
  refine sk ?_
  refine aw_seq ?_
  obtain ⟨v5, h1, h0⟩ := bnd h0
  refine aw_cut ⟨updA (updA ((fun _ => .dead)) 1 (.ptr 3 0 1 0 0)) 31 (.d (.v (.bool v5))), lks [.no, .no, .no, .live [⟨51, 7, .av [[.d (.sl (List.map cI p0.Cam)), .d (.v (.int .i64 p0.Months)), .d (.v (.int .i64 p0.Teeth)), .d (.v (.int .i64 p0.At)), .d (.v (.int .i64 p0.Day)), .d (.v (.int .i64 p0.Week)), .d (.v (.int .i64 p0.Weekday))]]⟩]]⟩ ?_ ?_
  refine aw_region_draw (is := [0, 1, 2, 3, 4, 5, 7, 8, 6, 9, 10]) [0, 1, 3, 7, 15, 31, 63, 15, 143, 511, 1023] follows (by kernel_rfl) ?_
  refine rt_lk rfl w0 rfl (bx_fa tok rfl rfl rfl rfl rfl rfl rfl) rfl rfl rfl ?_
  refine rt_lk rfl w0 rfl (bx_ld1 tok rfl rfl rfl rfl rfl) rfl rfl rfl ?_
  refine rt_p rfl w0 rfl (pu_gtr rfl rfl) ?_
  refine tpm ?_
  refine rt_if (u := 24) h1 rfl (fun hc h1 => ?_) (fun hc h1 => ?_)
  iterate 6 refine k2 ?_
  refine tpkt ?_
  refine rt_nil ?_
  refine ⟨by kernel_rfl, ?_⟩
  refine then_n ?_
  cases h1
  exact wk [0, 1, 2, 3]
  refine rt_lk rfl (w1 rfl rfl rfl) rfl (bx_fa tok rfl rfl rfl rfl rfl rfl rfl) rfl rfl rfl ?_
  refine rt_lk rfl (w1 rfl rfl rfl) rfl (bx_ld1 tok rfl rfl rfl rfl rfl) rfl rfl rfl ?_
  refine rt_lk rfl (w1 rfl rfl rfl) rfl (bx_fa tok rfl rfl rfl rfl rfl rfl rfl) rfl rfl rfl ?_
  refine rt_lk rfl (w1 rfl rfl rfl) rfl (bx_ld1 tok rfl rfl rfl rfl rfl) rfl rfl rfl ?_
  obtain ⟨v4, hv4, h1⟩ := bnd h1
  refine rt_c rfl (w1 rfl rfl rfl) rfl (b_call 4 (slices_Max_Lint64_int64_c hv4) rfl rfl rfl) ?_
  refine rt_p rfl (w1 rfl rfl rfl) rfl (pu_gtr rfl rfl) ?_
  refine tpkf ?_
  refine rt_nil ?_
  refine ⟨by kernel_rfl, ?_⟩
  refine then_n ?_
  cases h1
  exact wk [0, 1, 2, 3]
  refine aw_ifB h0 rfl (fun hc h0 => ?_) (fun hc h0 => ?_)
  refine sq [0] ?_
  refine pa ?_
  refine nx ?_
  refine aw_ret ?_
  refine then_r ?_
  cases h0
  exact ret0_ (rs := [.tmp 2]) rfl
  refine sk ?_
  refine sq [0,1,2,3,4,5,6,7,8,9,10,11,12,13,14,15,16,17,18,19,20,21,22,23,24,25,26] ?_
  refine fa tok ?_
  refine ld tok ?_
  refine fa tok ?_
  refine ld tok ?_
  refine rp rfl w0 rfl (pu_len_map tok rfl rfl rfl) ?_
  refine rp rfl w0 rfl (pw_sub rfl rfl) ?_
  obtain ⟨v6, hv6, h0⟩ := bnd h0
  refine rs rfl w0 rfl (c_call 4 (i_within_c hv6) rfl rfl rfl) ?_
  refine pm ?_
  refine ra_ifB (u := 39) h0 rfl (fun hc h0 => ?_) (fun hc h0 => ?_)
  refine fa1 tok ?_
  refine ld1 tok ?_
  refine fa1 tok ?_
  refine ld1 tok ?_
  obtain ⟨v7, hv7, h0⟩ := bnd h0
  refine rs rfl (w1 rfl rfl rfl) rfl (c_call 4 (i_within_c hv7) rfl rfl rfl) ?_
  refine pkt ?_
  refine pm ?_
  refine ra_ifB (u := 46) h0 rfl (fun hc h0 => ?_) (fun hc h0 => ?_)
  refine fa1 tok ?_
  refine ld1 tok ?_
  obtain ⟨v8, hv8, h0⟩ := bnd h0
  refine rs rfl (w1 rfl rfl rfl) rfl (c_call 4 (i_within_c hv8) rfl rfl rfl) ?_
  refine pkt ?_
  refine pm ?_
  refine ra_ifB (u := 51) h0 rfl (fun hc h0 => ?_) (fun hc h0 => ?_)
  refine fa1 tok ?_
  refine ld1 tok ?_
  refine fa1 tok ?_
  refine ld1 tok ?_
  obtain ⟨v9, hv9, h0⟩ := bnd h0
  refine rs rfl (w1 rfl rfl rfl) rfl (c_call 4 (i_within_c hv9) rfl rfl rfl) ?_
  refine pkt ?_
  refine pa ?_
  refine nx ?_
  refine aw_ret ?_
  cases h0
  exact ret0_ (rs := [.tmp 2]) rfl
  iterate 5 refine k1 ?_
  refine pkf ?_
  refine pa ?_
  refine nx ?_
  refine aw_ret ?_
  cases h0
  exact ret0_ (rs := [.tmp 2]) rfl
  iterate 3 refine k1 ?_
  refine pkf ?_
  refine pm ?_
  iterate 5 refine k1 ?_
  refine pkf ?_
  refine pa ?_
  refine nx ?_
  refine aw_ret ?_
  cases h0
  exact ret0_ (rs := [.tmp 2]) rfl
  iterate 5 refine k1 ?_
  refine pkf ?_
  refine pm ?_
  iterate 3 refine k1 ?_
  refine pkf ?_
  refine pm ?_
  iterate 5 refine k1 ?_
  refine pkf ?_
  refine pa ?_
  refine nx ?_
  refine aw_ret ?_
  cases h0
  exact ret0_ (rs := [.tmp 2]) rfl

theorem slices_Equal_Lint64_int64_c {p0 : List Int} {p1 : List Int} {r : Bool} (h0 : slices_Equal_Lint64_int64_m p0 p1 = some r) : FnC Tryz.prog 78 [] [.d (.sl (List.map cI p0)), .d (.sl (List.map cI p1))] [] (.d (.v (.bool r))) := by
  refine fnc_intro (T := tt) (N := 26) tok Tryz.func78 rfl rfl (by kernel_rfl) rfl rfl ?_
  unfold slices_Equal_Lint64_int64_m at h0
  refine sq [0] ?_
  refine pa ?_
  refine nx ?_
  refine aw_seq ?_
  refine sq [0,1,2,3,4] ?_
  refine pm ?_
  refine rp rfl w0 rfl (pu_len_map tok rfl rfl rfl) ?_
  refine pm ?_
  refine rp rfl w0 rfl (pu_len_map tok rfl rfl rfl) ?_
  refine rp rfl w0 rfl (pu_neq rfl rfl) ?_
  refine nx ?_
  refine aw_if h0 rfl (fun hc h0 => ?_) (fun hc h0 => ?_)
  refine sq [0] ?_
  refine pa ?_
  refine nx ?_
  refine aw_ret ?_
  refine then_r ?_
  cases h0
  exact ret0_ (rs := [.tmp 4]) rfl
  refine sk ?_
  obtain ⟨v7x, h1, h0⟩ := bnd h0
  refine aw_cutE v7x (fun v7 => ⟨(fun _ => .dead), lks [.no, .no, .no]⟩) ?_ ?_
  refine sq [0,1,2] ?_
  refine pm ?_
  refine rp rfl w0 rfl (pu_len_map tok rfl rfl rfl) ?_
  refine pm ?_
  refine nx ?_
  refine aw_block ?_
  refine aw_loopM (fun s4 => ⟨updA (updA (updA (updA ((fun _ => .dead)) 0 (.d (.sl (List.map cI p0)))) 1 (.d (.sl (List.map cI p1)))) 12 (.d (.v (.int .i64 (p0.length : Int))))) 13 (.d (.v (.int .i64 s4))), lks [.no, .no, .no]⟩) h1 ?_ (fun s4 y h2 => ?_)
  exact wk [0, 1, 2]
  refine sq [0] ?_
  refine rp rfl w0 rfl (pu_lss rfl rfl) ?_
  refine nx ?_
  refine aw_seq ?_
  refine aw_if h2 rfl (fun hc h2 => ?_) (fun hc h2 => ?_)
  refine sk ?_
  refine aw_seq ?_
  refine aw_block ?_
  refine sq [0,1] ?_
  refine pm ?_
  refine pa ?_
  refine nx ?_
  refine aw_seq ?_
  refine aw_region_draw (is := [0, 1, 2, 3, 4, 5, 6, 7, 8]) [0, 0, 3, 7, 0, 0, 48, 112, 255] follows (by kernel_rfl) ?_
  refine tpm ?_
  refine tpm ?_
  obtain ⟨v5, hv5, h2⟩ := bnd h2
  refine rt_p rfl w0 rfl (sl_ix tok hv5 rfl rfl rfl rfl rfl rfl) ?_
  refine tlr tok ?_
  refine tpm ?_
  refine tpm ?_
  obtain ⟨v6, hv6, h2⟩ := bnd h2
  refine rt_p rfl w0 rfl (sl_ix tok hv6 rfl rfl rfl rfl rfl rfl) ?_
  refine tlr tok ?_
  refine rt_p rfl w0 rfl (pu_neq rfl rfl) ?_
  refine rt_nil ?_
  refine ⟨by kernel_rfl, ?_⟩
  refine then_n ?_
  refine aw_if h2 rfl (fun hc h2 => ?_) (fun hc h2 => ?_)
  refine sq [0] ?_
  refine pa ?_
  refine nx ?_
  refine aw_ret ?_
  refine block_r ?_
  refine then_r ?_
  cases h2
  refine loop_r ⟨_, rfl, fun e => ?_⟩
  subst e
  refine block_r ?_
  replace h0 := orE_s h0
  refine then_r ?_
  cases h0
  exact ret0_ (rs := [.tmp 4]) rfl
  refine aw_skip ?_
  refine block_n ?_
  refine then_n ?_
  refine sr [0,1] ?_
  refine rp rfl w0 rfl (pw_add rfl rfl) ?_
  refine pm ?_
  refine ra_nil ?_
  refine loop_n ?_
  cases h2
  refine ⟨_, rfl, ?_⟩
  exact wk [0, 1, 2]
  refine aw_exit ?_
  refine then_e ?_
  cases h2
  refine loop_x ⟨_, rfl, fun e => ?_⟩
  subst e
  refine block_hit ?_
  refine then_n ?_
  refine ⟨_, rfl, ?_⟩
  exact wk [0, 1, 2]
  rintro v7 rfl
  replace h0 := orE_f h0
  refine sq [0] ?_
  refine pa ?_
  refine nx ?_
  refine aw_ret ?_
  cases h0
  exact ret0_ (rs := [.tmp 4]) rfl

theorem i_ValidSim_c {p0 : Sim_} {r : Bool} (h0 : i_ValidSim_m p0 = some r) : FnC Tryz.prog 35 [] [.agg [.d (.v (.string p0.Movement.Name)), .d (.sl (List.map cArbor_ p0.Movement.Works.Arbors)), .d (.sl (List.map cMesh_ p0.Movement.Works.Meshes)), .d (.v (.int .i64 p0.Movement.Minute)), .d (.v (.int .i64 p0.Movement.Hour)), .d (.v (.int .i64 p0.Movement.Escape)), .d (.v (.int .i64 p0.Movement.Teeth)), .d (.v (.int .i64 p0.Movement.Beats)), .d (.v (.string p0.Movement.Calendar.Name)), .d (.sl (List.map cMonth_ p0.Movement.Calendar.Months)), .d (.sl (List.map cLeapRule_ p0.Movement.Calendar.Rules)), .d (.v (.int .i64 p0.Movement.Calendar.Week)), .d (.sl (List.map cI p0.Movement.Cam)), .d (.v (.int .i64 p0.Movement.Strike)), .d (.v (.int .i64 p0.Start.Year)), .d (.v (.int .i64 p0.Start.Month)), .d (.v (.int .i64 p0.Start.Day)), .d (.v (.int .i64 p0.First)), .d (.v (.int .i64 p0.Clock)), .d (.sl (List.map cI p0.Dial.Cam)), .d (.v (.int .i64 p0.Dial.Months)), .d (.v (.int .i64 p0.Dial.Teeth)), .d (.v (.int .i64 p0.Dial.At)), .d (.v (.int .i64 p0.Dial.Day)), .d (.v (.int .i64 p0.Dial.Week)), .d (.v (.int .i64 p0.Dial.Weekday))]] [] (.d (.v (.bool r))) := by
  refine fnc_intro (T := tt) (N := 61) tok Tryz.func35 rfl rfl (by kernel_rfl) rfl rfl ?_
  unfold i_ValidSim_m at h0
  refine sq [0,1] ?_
  refine rs rfl w0 rfl (st_box 3 (cs := _ :: _) rfl rfl rfl) ?_
  refine pa ?_
  refine nx ?_
  refine sq [0,1,2,3,4,5,6,7,8,9,10,11,12] ?_
  refine fa tok ?_
  refine rl rfl w0 rfl (bx_ldN tok rfl rfl rfl rfl) ?_
  refine fa tok ?_
  refine rl rfl w0 rfl (bx_ldN tok rfl rfl rfl rfl) ?_
  refine fa tok ?_
  refine ld tok ?_
  obtain ⟨v1, hv1, h0⟩ := bnd h0
  refine rs rfl w0 rfl (c_call 4 (i_NewSim_c hv1) rfl rfl rfl) ?_
  refine rp rfl w0 rfl (pu_move (r := .tup _) rfl) ?_
  refine rp rfl w0 rfl (pu_extract rfl rfl) ?_
  refine rp rfl w0 rfl (pu_extract rfl rfl) ?_
  refine rs rfl w0 rfl (st_alloc 11 (cs := [.d (.v (.string (⟨#[]⟩ : ByteArray))), .d (.v (.slice none 0 0)), .d (.v (.slice none 0 0)), .d (.v (.int .i64 0)), .d (.v (.int .i64 0)), .d (.v (.int .i64 0)), .d (.v (.int .i64 0)), .d (.v (.int .i64 0)), .d (.v (.string (⟨#[]⟩ : ByteArray))), .d (.v (.slice none 0 0)), .d (.v (.slice none 0 0)), .d (.v (.int .i64 0)), .d (.v (.slice none 0 0)), .d (.v (.int .i64 0)), .d (.v (.int .i64 0)), .d (.v (.int .i64 0)), .d (.v (.int .i64 0)), .d (.v (.int .i64 0)), .d (.v (.int .i64 0)), .d (.v (.slice none 0 0)), .d (.v (.int .i64 0)), .d (.v (.int .i64 0)), .d (.v (.int .i64 0)), .d (.v (.int .i64 0)), .d (.v (.int .i64 0)), .d (.v (.int .i64 0))]) tok rfl rfl rfl) ?_
  refine rw0 rfl w0 (bx_st (cs := _ :: _) tok rfl rfl rfl rfl rfl rfl rfl) ?_
  refine pa ?_
  refine nx ?_
  refine aw_seq ?_
  obtain ⟨v4, h1, h0⟩ := bnd h0
  refine aw_cut ⟨updA (updA (updA ((fun _ => .dead)) 1 (.ptr 3 0 1 0 0)) 3 (.ptr 4 0 1 0 0)) 30 (.d (.v (.bool v4))), lks [.no, .no, .no, .live [⟨53, 26, .av [[.d (.v (.string p0.Movement.Name)), .d (.sl (List.map cArbor_ p0.Movement.Works.Arbors)), .d (.sl (List.map cMesh_ p0.Movement.Works.Meshes)), .d (.v (.int .i64 p0.Movement.Minute)), .d (.v (.int .i64 p0.Movement.Hour)), .d (.v (.int .i64 p0.Movement.Escape)), .d (.v (.int .i64 p0.Movement.Teeth)), .d (.v (.int .i64 p0.Movement.Beats)), .d (.v (.string p0.Movement.Calendar.Name)), .d (.sl (List.map cMonth_ p0.Movement.Calendar.Months)), .d (.sl (List.map cLeapRule_ p0.Movement.Calendar.Rules)), .d (.v (.int .i64 p0.Movement.Calendar.Week)), .d (.sl (List.map cI p0.Movement.Cam)), .d (.v (.int .i64 p0.Movement.Strike)), .d (.v (.int .i64 p0.Start.Year)), .d (.v (.int .i64 p0.Start.Month)), .d (.v (.int .i64 p0.Start.Day)), .d (.v (.int .i64 p0.First)), .d (.v (.int .i64 p0.Clock)), .d (.sl (List.map cI p0.Dial.Cam)), .d (.v (.int .i64 p0.Dial.Months)), .d (.v (.int .i64 p0.Dial.Teeth)), .d (.v (.int .i64 p0.Dial.At)), .d (.v (.int .i64 p0.Dial.Day)), .d (.v (.int .i64 p0.Dial.Week)), .d (.v (.int .i64 p0.Dial.Weekday))]]⟩], .live [⟨53, 26, .av [[.d (.v (.string v1.1.Movement.Name)), .own 5 0 (v1.1.Movement.Works.Arbors).length, .own 6 0 (v1.1.Movement.Works.Meshes).length, .d (.v (.int .i64 v1.1.Movement.Minute)), .d (.v (.int .i64 v1.1.Movement.Hour)), .d (.v (.int .i64 v1.1.Movement.Escape)), .d (.v (.int .i64 v1.1.Movement.Teeth)), .d (.v (.int .i64 v1.1.Movement.Beats)), .d (.v (.string v1.1.Movement.Calendar.Name)), .own 7 0 (v1.1.Movement.Calendar.Months).length, .own 8 0 (v1.1.Movement.Calendar.Rules).length, .d (.v (.int .i64 v1.1.Movement.Calendar.Week)), .own 9 0 (v1.1.Movement.Cam).length, .d (.v (.int .i64 v1.1.Movement.Strike)), .d (.v (.int .i64 v1.1.Start.Year)), .d (.v (.int .i64 v1.1.Start.Month)), .d (.v (.int .i64 v1.1.Start.Day)), .d (.v (.int .i64 v1.1.First)), .d (.v (.int .i64 v1.1.Clock)), .own 10 0 (v1.1.Dial.Cam).length, .d (.v (.int .i64 v1.1.Dial.Months)), .d (.v (.int .i64 v1.1.Dial.Teeth)), .d (.v (.int .i64 v1.1.Dial.At)), .d (.v (.int .i64 v1.1.Dial.Day)), .d (.v (.int .i64 v1.1.Dial.Week)), .d (.v (.int .i64 v1.1.Dial.Weekday))]]⟩], .live [⟨213, 2, .av (nestL 11 cArbor_ v1.1.Movement.Works.Arbors)⟩], .live [⟨215, 4, .data (List.map cMesh_ v1.1.Movement.Works.Meshes)⟩], .live [⟨147, 3, .data (List.map cMonth_ v1.1.Movement.Calendar.Months)⟩], .live [⟨179, 3, .data (List.map cLeapRule_ v1.1.Movement.Calendar.Rules)⟩], .live [⟨2, 1, .data (List.map cI v1.1.Movement.Cam)⟩], .live [⟨2, 1, .data (List.map cI v1.1.Dial.Cam)⟩], .live (famL 2 1 cArbor_ v1.1.Movement.Works.Arbors)]⟩ ?_ ?_
  refine sr [0,1,2,3,4,5,6,7,8,9,10,11,12,13] ?_
  refine pm ?_
  refine rp rfl w0 rfl (pu_neq rfl rfl) ?_
  refine pm ?_
  refine ra_if (u := 19) h1 rfl (fun hc h1 => ?_) (fun hc h1 => ?_)
  iterate 4 refine k1 ?_
  refine pkt ?_
  refine pm ?_
  iterate 4 refine k1 ?_
  refine pkt ?_
  refine nx ?_
  cases h1
  exact wk [0, 1, 2, 3, 11, 4, 6, 7, 8, 9, 10, 5]
  refine fa1 tok ?_
  refine ld1 tok ?_
  obtain ⟨v2, hv2, h1⟩ := bnd h1
  refine rs rfl (w1 rfl rfl rfl) rfl (c_call 12 (i_within_c hv2) rfl rfl rfl) ?_
  refine rp rfl (w1 rfl rfl rfl) rfl (pu_not rfl) ?_
  refine pkf ?_
  refine pm ?_
  refine ra_ifB (u := 25) h1 rfl (fun hc h1 => ?_) (fun hc h1 => ?_)
  iterate 4 refine k1 ?_
  refine pkt ?_
  refine nx ?_
  cases h1
  exact wk [0, 1, 2, 3, 11, 4, 6, 7, 8, 9, 10, 5]
  refine fa1 tok ?_
  refine rl rfl (w1 rfl rfl rfl) rfl (bx_ldN tok rfl rfl rfl rfl) ?_
  obtain ⟨v3, hv3, h1⟩ := bnd h1
  refine rs rfl (w1 rfl rfl rfl) rfl (c_call 12 (i_ValidPerpetual_c hv3) rfl rfl rfl) ?_
  refine rp rfl (w1 rfl rfl rfl) rfl (pu_not rfl) ?_
  refine pkf ?_
  refine nx ?_
  cases h1
  exact wk [0, 1, 2, 3, 11, 4, 6, 7, 8, 9, 10, 5]
  refine aw_ifB h0 rfl (fun hc h0 => ?_) (fun hc h0 => ?_)
  refine sq [0] ?_
  refine pa ?_
  refine nx ?_
  refine aw_ret ?_
  refine then_r ?_
  cases h0
  exact ret0_ (rs := [.tmp 2]) rfl
  refine sk ?_
  refine aw_seq ?_
  refine aw_region_draw (is := [0, 1, 2, 3, 4, 5, 6, 7]) [0, 1, 0, 4, 0, 0, 51, 127] follows (by kernel_rfl) ?_
  refine rt_lk rfl w0 rfl (bx_fa tok rfl rfl rfl rfl rfl rfl rfl) rfl rfl rfl ?_
  refine rt_lk rfl w0 rfl (bx_ldN tok rfl rfl rfl rfl) rfl rfl rfl ?_
  refine rt_lk rfl w0 rfl (bx_fa tok rfl rfl rfl rfl rfl rfl rfl) rfl rfl rfl ?_
  refine rt_lk rfl w0 rfl (bx_ldN tok rfl rfl rfl rfl) rfl rfl rfl ?_
  refine rt_a rfl w0 rfl rfl (fun hx hk => st_alloc 12 (cs := [.d (.v (.slice none 0 0)), .d (.v (.int .i64 0)), .d (.v (.int .i64 0)), .d (.v (.int .i64 0)), .d (.v (.int .i64 0)), .d (.v (.int .i64 0)), .d (.v (.int .i64 0))]) tok rfl rfl hk) ?_
  refine rt_a rfl w0 rfl rfl (fun hx hk => st_alloc 13 (cs := [.d (.v (.slice none 0 0)), .d (.v (.int .i64 0)), .d (.v (.int .i64 0)), .d (.v (.int .i64 0)), .d (.v (.int .i64 0)), .d (.v (.int .i64 0)), .d (.v (.int .i64 0))]) tok rfl rfl hk) ?_
  refine rt_wk rfl w0 (bx_st (cs := _ :: _) tok rfl rfl rfl rfl rfl rfl rfl) ?_
  refine rt_wk rfl w0 (bx_st (cs := _ :: _) tok rfl rfl rfl rfl rfl rfl rfl) ?_
  refine rt_nil ?_
  refine ⟨by kernel_rfl, ?_⟩
  refine then_n ?_
  refine sq [0,1,2,3,4,5,6,7,8,9,10,11,12,13,14,15,16,17,18,19,20,21,22,23,24,25,26] ?_
  refine fa tok ?_
  refine ld tok ?_
  refine fa tok ?_
  refine ld tok ?_
  obtain ⟨v5, hv5, h0⟩ := bnd h0
  refine rs rfl w0 rfl (c_callV 14 (slices_Equal_Lint64_int64_c hv5) rfl rfl) ?_
  refine pm ?_
  refine ra_ifB (u := 40) h0 rfl (fun hc h0 => ?_) (fun hc h0 => ?_)
  refine fa1 tok ?_
  refine ld1 tok ?_
  refine fa1 tok ?_
  refine ld1 tok ?_
  refine rp rfl (w1 rfl rfl rfl) rfl (pu_eql rfl rfl) ?_
  refine pkt ?_
  refine pm ?_
  refine ra_if (u := 47) h0 rfl (fun hc h0 => ?_) (fun hc h0 => ?_)
  refine fa1 tok ?_
  refine ld1 tok ?_
  refine fa1 tok ?_
  refine ld1 tok ?_
  refine rp rfl (w1 rfl rfl rfl) rfl (pu_eql rfl rfl) ?_
  refine pkt ?_
  refine pm ?_
  refine ra_if (u := 54) h0 rfl (fun hc h0 => ?_) (fun hc h0 => ?_)
  refine fa1 tok ?_
  refine ld1 tok ?_
  refine fa1 tok ?_
  refine ld1 tok ?_
  refine rp rfl (w1 rfl rfl rfl) rfl (pu_eql rfl rfl) ?_
  refine pkt ?_
  refine pa ?_
  refine nx ?_
  refine aw_ret ?_
  cases h0
  exact ret0_ (rs := [.tmp 2]) rfl
  iterate 5 refine k1 ?_
  refine pkf ?_
  refine pa ?_
  refine nx ?_
  refine aw_ret ?_
  cases h0
  exact ret0_ (rs := [.tmp 2]) rfl
  iterate 5 refine k1 ?_
  refine pkf ?_
  refine pm ?_
  iterate 5 refine k1 ?_
  refine pkf ?_
  refine pa ?_
  refine nx ?_
  refine aw_ret ?_
  cases h0
  exact ret0_ (rs := [.tmp 2]) rfl
  iterate 5 refine k1 ?_
  refine pkf ?_
  refine pm ?_
  iterate 5 refine k1 ?_
  refine pkf ?_
  refine pm ?_
  iterate 5 refine k1 ?_
  refine pkf ?_
  refine pa ?_
  refine nx ?_
  refine aw_ret ?_
  cases h0
  exact ret0_ (rs := [.tmp 2]) rfl

end Go.Proofs.YtlakbomkpnlidaaGreat
