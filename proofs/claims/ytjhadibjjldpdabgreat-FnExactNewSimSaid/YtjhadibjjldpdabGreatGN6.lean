/- Texts of this claim, one behind the other (merged by a program of mine). -/
import Derived.Test.YtjhadibjjldpdabGreatProg
import Derived.Test.YtjhadibjjldpdabGreatGN5
set_option linter.unusedSimpArgs false
set_option linter.unusedVariables false
namespace Go.Proofs.YtjhadibjjldpdabGreat
open Go.RowKit
set_option linter.unusedVariables false
set_option maxRecDepth 100000
set_option maxHeartbeats 2000000
theorem l_markMonthS_o_c {p0 : List Month_} {p1 : Int} {r : Int × List Month_} (h0 : l_markMonthS_o_m p0 p1 = some r) : FnC Tryz.prog 129 [.live [⟨169, 3, .data (List.map cMonth_ p0)⟩]] [.own 0 0 (p0).length, .d (.v (.int .i64 p1))] [.live [⟨169, 3, .data (List.map cMonth_ r.2)⟩]] (.d (.v (.int .i64 r.1))) := by
  refine fnc_intro (T := tt) (N := 35) tok Tryz.func129 rfl rfl (by kernel_rfl) rfl rfl ?_
  unfold l_markMonthS_o_m at h0
  refine sq [0] ?_
  refine pa ?_
  refine nx ?_
  obtain ⟨v11, h1, h0⟩ := bnd h0
  refine aw_cut ⟨updA ((fun _ => .dead)) 1 (.d (.v (.int .i64 v11.1))), lks [.live [⟨169, 3, .data (List.map cMonth_ v11.2)⟩], .no, .no]⟩ ?_ ?_
  refine sq [0] ?_
  refine pa ?_
  refine nx ?_
  refine aw_block ?_
  refine aw_loopM (fun s6 => ⟨updA (updA (updA ((fun _ => .dead)) 0 (.own 0 0 (s6.2.2).length)) 1 (.d (.v (.int .i64 s6.1)))) 5 (.d (.v (.int .i64 s6.2.1))), lks [.live [⟨169, 3, .data (List.map cMonth_ s6.2.2)⟩], .no, .no]⟩) h1 ?_ (fun s6 y h2 => ?_)
  exact wk [0, 1, 2]
  refine aw_seq ?_
  refine sq [0,1,2,3] ?_
  refine pm ?_
  refine rp rfl w0 rfl (pu_move (r := .own _ _ _) rfl) ?_
  refine rl rfl w0 rfl (ow_len tok rfl rfl rfl rfl rfl) ?_
  refine rp rfl w0 rfl (pu_lss rfl rfl) ?_
  refine nx ?_
  refine aw_if h2 rfl (fun hc h2 => ?_) (fun hc h2 => ?_)
  refine sk ?_
  refine aw_seq ?_
  refine aw_block ?_
  refine sq [0,1,2,3,4,5,6] ?_
  refine rp rfl w0 rfl (pu_move (r := .own _ _ _) rfl) ?_
  refine pm ?_
  refine pm ?_
  obtain ⟨v7, hv7, h2⟩ := bnd h2
  refine rs rfl w0 rfl (c_call 3 (l_markText_c hv7) rfl rfl rfl) ?_
  obtain ⟨v8, hv8, h2⟩ := bnd h2
  refine rl rfl w0 rfl (ow_ix tok hv8 rfl rfl rfl rfl rfl rfl rfl rfl) ?_
  refine rl rfl w0 rfl (rw_fa tok (atI_e hv8).2.1 rfl rfl rfl rfl rfl rfl rfl rfl) ?_
  refine rw0 rfl w0 (rw_st (cs := [.d _]) tok (⟨v7, v8.Days, v8.Leap⟩ : Month_) (atI_e hv8).2.1 rfl rfl rfl rfl rfl rfl rfl rfl) ?_
  refine nx ?_
  refine sq [0,1,2] ?_
  refine pm ?_
  refine rp rfl w0 rfl (pw_add rfl rfl) ?_
  refine pa ?_
  refine nx ?_
  refine sq [0,1,2,3,4,5] ?_
  refine rp rfl w0 rfl (pu_move (r := .own _ _ _) rfl) ?_
  refine pm ?_
  refine pm ?_
  obtain ⟨v9, hv9, h2⟩ := bnd h2
  refine rl rfl w0 rfl (ow_ix tok hv9 rfl rfl rfl rfl rfl rfl (by first | (simp; done) | omega | (simp; omega)) rfl) ?_
  refine rl rfl w0 rfl (rw_fa tok (atI_e hv9).2.1 rfl rfl rfl rfl rfl rfl rfl (by first | (simp; done) | omega | (simp; omega))) ?_
  refine rw0 rfl w0 (rw_st (cs := [.d _]) tok (⟨v9.Name, w64 (s6.1 + 1), v9.Leap⟩ : Month_) (atI_e hv9).2.1 rfl rfl rfl rfl rfl rfl rfl (by first | (simp; done) | omega | (simp; omega))) ?_
  refine nx ?_
  refine sq [0,1,2] ?_
  refine pm ?_
  refine rp rfl w0 rfl (pw_add rfl rfl) ?_
  refine pa ?_
  refine nx ?_
  refine sq [0,1,2,3,4,5] ?_
  refine rp rfl w0 rfl (pu_move (r := .own _ _ _) rfl) ?_
  refine pm ?_
  refine pm ?_
  obtain ⟨v10, hv10, h2⟩ := bnd h2
  refine rl rfl w0 rfl (ow_ix tok hv10 rfl rfl rfl rfl rfl rfl (by first | (simp; done) | omega | (simp; omega)) rfl) ?_
  refine rl rfl w0 rfl (rw_fa tok (atI_e hv10).2.1 rfl rfl rfl rfl rfl rfl rfl (by first | (simp; done) | omega | (simp; omega))) ?_
  refine rw0 rfl w0 (rw_st (cs := [.d _]) tok (⟨v10.Name, v10.Days, w64 ((w64 (s6.1 + 1)) + 1)⟩ : Month_) (atI_e hv10).2.1 rfl rfl rfl rfl rfl rfl rfl (by first | (simp; done) | omega | (simp; omega))) ?_
  refine nx ?_
  refine sr [0,1,2] ?_
  refine pm ?_
  refine rp rfl w0 rfl (pw_add rfl rfl) ?_
  refine pa ?_
  refine ra_nil ?_
  refine block_n ?_
  refine then_n ?_
  refine sr [0,1,2] ?_
  refine pm ?_
  refine rp rfl w0 rfl (pw_add rfl rfl) ?_
  refine pa ?_
  refine ra_nil ?_
  refine loop_n ?_
  cases h2
  refine ⟨_, rfl, ?_⟩
  exact wk [0, 1, 2]
  refine aw_exit ?_
  refine then_e ?_
  cases h2
  refine loop_x ⟨_, rfl, fun e => ?_⟩
  subst e
  refine block_hit ?_
  refine then_n ?_
  exact wk [0, 1, 2]
  refine sq [0,1] ?_
  refine pm ?_
  refine pa ?_
  refine nx ?_
  refine aw_ret ?_
  cases h0
  exact retP_ (rs := [.tmp 4]) 1 rfl rfl

theorem l_markLeapRuleS_o_c {p0 : List LeapRule_} {p1 : Int} {r : Int × List LeapRule_} (h0 : l_markLeapRuleS_o_m p0 p1 = some r) : FnC Tryz.prog 130 [.live [⟨174, 3, .data (List.map cLeapRule_ p0)⟩]] [.own 0 0 (p0).length, .d (.v (.int .i64 p1))] [.live [⟨174, 3, .data (List.map cLeapRule_ r.2)⟩]] (.d (.v (.int .i64 r.1))) := by
  refine fnc_intro (T := tt) (N := 36) tok Tryz.func130 rfl rfl (by kernel_rfl) rfl rfl ?_
  unfold l_markLeapRuleS_o_m at h0
  refine sq [0] ?_
  refine pa ?_
  refine nx ?_
  obtain ⟨v11, h1, h0⟩ := bnd h0
  refine aw_cut ⟨updA ((fun _ => .dead)) 1 (.d (.v (.int .i64 v11.1))), lks [.live [⟨174, 3, .data (List.map cLeapRule_ v11.2)⟩], .no, .no]⟩ ?_ ?_
  refine sq [0] ?_
  refine pa ?_
  refine nx ?_
  refine aw_block ?_
  refine aw_loopM (fun s6 => ⟨updA (updA (updA ((fun _ => .dead)) 0 (.own 0 0 (s6.2.2).length)) 1 (.d (.v (.int .i64 s6.1)))) 5 (.d (.v (.int .i64 s6.2.1))), lks [.live [⟨174, 3, .data (List.map cLeapRule_ s6.2.2)⟩], .no, .no]⟩) h1 ?_ (fun s6 y h2 => ?_)
  exact wk [0, 1, 2]
  refine aw_seq ?_
  refine sq [0,1,2,3] ?_
  refine pm ?_
  refine rp rfl w0 rfl (pu_move (r := .own _ _ _) rfl) ?_
  refine rl rfl w0 rfl (ow_len tok rfl rfl rfl rfl rfl) ?_
  refine rp rfl w0 rfl (pu_lss rfl rfl) ?_
  refine nx ?_
  refine aw_if h2 rfl (fun hc h2 => ?_) (fun hc h2 => ?_)
  refine sk ?_
  refine aw_seq ?_
  refine aw_block ?_
  refine sq [0,1,2,3,4,5] ?_
  refine rp rfl w0 rfl (pu_move (r := .own _ _ _) rfl) ?_
  refine pm ?_
  refine pm ?_
  obtain ⟨v7, hv7, h2⟩ := bnd h2
  refine rl rfl w0 rfl (ow_ix tok hv7 rfl rfl rfl rfl rfl rfl rfl rfl) ?_
  refine rl rfl w0 rfl (rw_fa tok (atI_e hv7).2.1 rfl rfl rfl rfl rfl rfl rfl rfl) ?_
  refine rw0 rfl w0 (rw_st (cs := [.d _]) tok (⟨s6.1, v7.Rest, v7.Leap⟩ : LeapRule_) (atI_e hv7).2.1 rfl rfl rfl rfl rfl rfl rfl rfl) ?_
  refine nx ?_
  refine sq [0,1,2] ?_
  refine pm ?_
  refine rp rfl w0 rfl (pw_add rfl rfl) ?_
  refine pa ?_
  refine nx ?_
  refine sq [0,1,2,3,4,5] ?_
  refine rp rfl w0 rfl (pu_move (r := .own _ _ _) rfl) ?_
  refine pm ?_
  refine pm ?_
  obtain ⟨v8, hv8, h2⟩ := bnd h2
  refine rl rfl w0 rfl (ow_ix tok hv8 rfl rfl rfl rfl rfl rfl (by first | (simp; done) | omega | (simp; omega)) rfl) ?_
  refine rl rfl w0 rfl (rw_fa tok (atI_e hv8).2.1 rfl rfl rfl rfl rfl rfl rfl (by first | (simp; done) | omega | (simp; omega))) ?_
  refine rw0 rfl w0 (rw_st (cs := [.d _]) tok (⟨v8.Every, w64 (s6.1 + 1), v8.Leap⟩ : LeapRule_) (atI_e hv8).2.1 rfl rfl rfl rfl rfl rfl rfl (by first | (simp; done) | omega | (simp; omega))) ?_
  refine nx ?_
  refine sq [0,1,2] ?_
  refine pm ?_
  refine rp rfl w0 rfl (pw_add rfl rfl) ?_
  refine pa ?_
  refine nx ?_
  refine sq [0,1,2,3,4,5,6,7] ?_
  refine rp rfl w0 rfl (pu_move (r := .own _ _ _) rfl) ?_
  refine pm ?_
  refine pm ?_
  refine rp rfl w0 rfl (pu_remw rfl rfl (by decide)) ?_
  refine rp rfl w0 rfl (pu_eql rfl rfl) ?_
  obtain ⟨v10, hv10, h2⟩ := bnd h2
  refine rl rfl w0 rfl (ow_ix tok hv10 rfl rfl rfl rfl rfl rfl (by first | (simp; done) | omega | (simp; omega)) rfl) ?_
  refine rl rfl w0 rfl (rw_fa tok (atI_e hv10).2.1 rfl rfl rfl rfl rfl rfl rfl (by first | (simp; done) | omega | (simp; omega))) ?_
  refine rw0 rfl w0 (rw_st (cs := [.d _]) tok (⟨v10.Every, v10.Rest, decide (((w64 ((w64 (s6.1 + 1)) + 1)).tmod 3) = 0)⟩ : LeapRule_) (atI_e hv10).2.1 rfl rfl rfl rfl rfl rfl rfl (by first | (simp; done) | omega | (simp; omega))) ?_
  refine nx ?_
  refine sr [0,1,2] ?_
  refine pm ?_
  refine rp rfl w0 rfl (pw_add rfl rfl) ?_
  refine pa ?_
  refine ra_nil ?_
  refine block_n ?_
  refine then_n ?_
  refine sr [0,1,2] ?_
  refine pm ?_
  refine rp rfl w0 rfl (pw_add rfl rfl) ?_
  refine pa ?_
  refine ra_nil ?_
  refine loop_n ?_
  cases h2
  refine ⟨_, rfl, ?_⟩
  exact wk [0, 1, 2]
  refine aw_exit ?_
  refine then_e ?_
  cases h2
  refine loop_x ⟨_, rfl, fun e => ?_⟩
  subst e
  refine block_hit ?_
  refine then_n ?_
  exact wk [0, 1, 2]
  refine sq [0,1] ?_
  refine pm ?_
  refine pa ?_
  refine nx ?_
  refine aw_ret ?_
  cases h0
  exact retP_ (rs := [.tmp 4]) 1 rfl rfl

theorem l_markCalendar_o_c {p0 : Calendar_} {p1 : Int} {r : Int × List Month_ × List LeapRule_} (h0 : l_markCalendar_o_m p0 p1 = some r) : FnC Tryz.prog 61 [.live [⟨169, 3, .data (List.map cMonth_ p0.Months)⟩], .live [⟨174, 3, .data (List.map cLeapRule_ p0.Rules)⟩]] [.agg [.d (.v (.string p0.Name)), .own 0 0 (p0.Months).length, .own 1 0 (p0.Rules).length, .d (.v (.int .i64 p0.Week))], .d (.v (.int .i64 p1))] [.live [⟨169, 3, .data (List.map cMonth_ r.2.1)⟩], .live [⟨174, 3, .data (List.map cLeapRule_ r.2.2)⟩]] (.d (.v (.int .i64 r.1))) := by
  refine fnc_intro (T := tt) (N := 14) tok Tryz.func61 rfl rfl (by kernel_rfl) rfl rfl ?_
  unfold l_markCalendar_o_m at h0
  refine sq [0,1] ?_
  refine rs rfl w0 rfl (st_box 3 (cs := _ :: _) rfl rfl rfl) ?_
  refine pa ?_
  refine nx ?_
  refine sq [0,1,2,3,4] ?_
  refine fa tok ?_
  refine ld tok ?_
  refine pm ?_
  obtain ⟨v1, hv1, h0⟩ := bnd h0
  obtain ⟨hq2, h0⟩ := chk_e h0
  refine rw1 rfl w0 rfl (c_callP [0] 300 (l_markMonthS_o_c hv1) rfl rfl) ?_
  refine pa ?_
  refine nx ?_
  refine sq [0,1,2,3,4] ?_
  refine fa tok ?_
  refine ld tok ?_
  refine pm ?_
  obtain ⟨v3, hv3, h0⟩ := bnd h0
  obtain ⟨hq4, h0⟩ := chk_e h0
  refine rw1 rfl w0 rfl (c_callP [1] 300 (l_markLeapRuleS_o_c hv3) rfl rfl) ?_
  refine pa ?_
  refine nx ?_
  refine sq [0,1] ?_
  refine pm ?_
  refine pa ?_
  refine nx ?_
  refine aw_ret ?_
  cases h0
  exact retP_ (rs := [.tmp 4]) 2 rfl rfl

theorem l_markMovement_o_c {p0 : Movement_} {p1 : Int} {r : Int × List Arbor_ × List Mesh_ × List Month_ × List LeapRule_ × List Int} (h0 : l_markMovement_o_m p0 p1 = some r) : FnC Tryz.prog 28 [.live [⟨204, 2, .av (nestL 1 cArbor_ p0.Works.Arbors)⟩], .live (famL 2 1 cArbor_ p0.Works.Arbors), .live [⟨208, 4, .data (List.map cMesh_ p0.Works.Meshes)⟩], .live [⟨169, 3, .data (List.map cMonth_ p0.Calendar.Months)⟩], .live [⟨174, 3, .data (List.map cLeapRule_ p0.Calendar.Rules)⟩], .live [⟨2, 1, .data (List.map cI p0.Cam)⟩]] [.agg [.d (.v (.string p0.Name)), .own 0 0 (p0.Works.Arbors).length, .own 2 0 (p0.Works.Meshes).length, .d (.v (.int .i64 p0.Minute)), .d (.v (.int .i64 p0.Hour)), .d (.v (.int .i64 p0.Escape)), .d (.v (.int .i64 p0.Teeth)), .d (.v (.int .i64 p0.Beats)), .d (.v (.string p0.Calendar.Name)), .own 3 0 (p0.Calendar.Months).length, .own 4 0 (p0.Calendar.Rules).length, .d (.v (.int .i64 p0.Calendar.Week)), .own 5 0 (p0.Cam).length, .d (.v (.int .i64 p0.Strike))], .d (.v (.int .i64 p1))] [.live [⟨204, 2, .av (nestL 1 cArbor_ r.2.1)⟩], .live (famL 2 1 cArbor_ r.2.1), .live [⟨208, 4, .data (List.map cMesh_ r.2.2.1)⟩], .live [⟨169, 3, .data (List.map cMonth_ r.2.2.2.1)⟩], .live [⟨174, 3, .data (List.map cLeapRule_ r.2.2.2.2.1)⟩], .live [⟨2, 1, .data (List.map cI r.2.2.2.2.2)⟩]] (.d (.v (.int .i64 r.1))) := by
  refine fnc_introL (L := 6) (T := tt) (N := 18) tok Tryz.func28 rfl rfl (by kernel_rfl) rfl rfl ?_
  unfold l_markMovement_o_m at h0
  refine sq [0,1] ?_
  refine rs rfl w0 rfl (st_box 6 (cs := _ :: _) rfl rfl rfl) ?_
  refine pa ?_
  refine nx ?_
  refine sq [0,1,2,3,4] ?_
  refine fa tok ?_
  refine rl rfl w0 rfl (bx_ldN tok rfl rfl rfl rfl) ?_
  refine pm ?_
  obtain ⟨v1, hv1, h0⟩ := bnd h0
  obtain ⟨hq2, h0⟩ := chk_e h0
  obtain ⟨hq3, h0⟩ := chk_e h0
  refine rw1 rfl w0 rfl (c_callP [0, 1, 2] 300 (l_markWorks_o_c hv1) rfl rfl) ?_
  refine pa ?_
  refine nx ?_
  refine sq [0,1,2,3,4] ?_
  refine fa tok ?_
  refine rl rfl w0 rfl (bx_ldN tok rfl rfl rfl rfl) ?_
  refine pm ?_
  obtain ⟨v4, hv4, h0⟩ := bnd h0
  obtain ⟨hq5, h0⟩ := chk_e h0
  obtain ⟨hq6, h0⟩ := chk_e h0
  refine rw1 rfl w0 rfl (c_callP [3, 4] 300 (l_markCalendar_o_c hv4) rfl rfl) ?_
  refine pa ?_
  refine nx ?_
  refine sq [0,1,2,3,4] ?_
  refine fa tok ?_
  refine ld tok ?_
  refine pm ?_
  obtain ⟨v7, hv7, h0⟩ := bnd h0
  obtain ⟨hq8, h0⟩ := chk_e h0
  refine rw1 rfl w0 rfl (c_callP [5] 300 (l_markInt64S_o_c hv7) rfl rfl) ?_
  refine pa ?_
  refine nx ?_
  refine sq [0,1] ?_
  refine pm ?_
  refine pa ?_
  refine nx ?_
  refine aw_ret ?_
  cases h0
  exact retP_ (rs := [.tmp 4]) 6 rfl rfl

theorem l_markPerpetual_o_c {p0 : Perpetual_} {p1 : Int} {r : Int × List Int} (h0 : l_markPerpetual_o_m p0 p1 = some r) : FnC Tryz.prog 63 [.live [⟨2, 1, .data (List.map cI p0.Cam)⟩]] [.agg [.own 0 0 (p0.Cam).length, .d (.v (.int .i64 p0.Months)), .d (.v (.int .i64 p0.Teeth)), .d (.v (.int .i64 p0.At)), .d (.v (.int .i64 p0.Day)), .d (.v (.int .i64 p0.Week)), .d (.v (.int .i64 p0.Weekday))], .d (.v (.int .i64 p1))] [.live [⟨2, 1, .data (List.map cI r.2)⟩]] (.d (.v (.int .i64 r.1))) := by
  refine fnc_intro (T := tt) (N := 10) tok Tryz.func63 rfl rfl (by kernel_rfl) rfl rfl ?_
  unfold l_markPerpetual_o_m at h0
  refine sq [0,1] ?_
  refine rs rfl w0 rfl (st_box 3 (cs := _ :: _) rfl rfl rfl) ?_
  refine pa ?_
  refine nx ?_
  refine sq [0,1,2,3,4] ?_
  refine fa tok ?_
  refine ld tok ?_
  refine pm ?_
  obtain ⟨v1, hv1, h0⟩ := bnd h0
  obtain ⟨hq2, h0⟩ := chk_e h0
  refine rw1 rfl w0 rfl (c_callP [0] 300 (l_markInt64S_o_c hv1) rfl rfl) ?_
  refine pa ?_
  refine nx ?_
  refine sq [0,1] ?_
  refine pm ?_
  refine pa ?_
  refine nx ?_
  refine aw_ret ?_
  cases h0
  exact retP_ (rs := [.tmp 4]) 1 rfl rfl

theorem l_markSim_o_c {p0 : Sim_} {p1 : Int} {r : Int × List Arbor_ × List Mesh_ × List Month_ × List LeapRule_ × List Int × List Int} (h0 : l_markSim_o_m p0 p1 = some r) : FnC Tryz.prog 29 [.live [⟨204, 2, .av (nestL 1 cArbor_ p0.Movement.Works.Arbors)⟩], .live (famL 2 1 cArbor_ p0.Movement.Works.Arbors), .live [⟨208, 4, .data (List.map cMesh_ p0.Movement.Works.Meshes)⟩], .live [⟨169, 3, .data (List.map cMonth_ p0.Movement.Calendar.Months)⟩], .live [⟨174, 3, .data (List.map cLeapRule_ p0.Movement.Calendar.Rules)⟩], .live [⟨2, 1, .data (List.map cI p0.Movement.Cam)⟩], .live [⟨2, 1, .data (List.map cI p0.Dial.Cam)⟩]] [.agg [.d (.v (.string p0.Movement.Name)), .own 0 0 (p0.Movement.Works.Arbors).length, .own 2 0 (p0.Movement.Works.Meshes).length, .d (.v (.int .i64 p0.Movement.Minute)), .d (.v (.int .i64 p0.Movement.Hour)), .d (.v (.int .i64 p0.Movement.Escape)), .d (.v (.int .i64 p0.Movement.Teeth)), .d (.v (.int .i64 p0.Movement.Beats)), .d (.v (.string p0.Movement.Calendar.Name)), .own 3 0 (p0.Movement.Calendar.Months).length, .own 4 0 (p0.Movement.Calendar.Rules).length, .d (.v (.int .i64 p0.Movement.Calendar.Week)), .own 5 0 (p0.Movement.Cam).length, .d (.v (.int .i64 p0.Movement.Strike)), .d (.v (.int .i64 p0.Start.Year)), .d (.v (.int .i64 p0.Start.Month)), .d (.v (.int .i64 p0.Start.Day)), .d (.v (.int .i64 p0.First)), .d (.v (.int .i64 p0.Clock)), .own 6 0 (p0.Dial.Cam).length, .d (.v (.int .i64 p0.Dial.Months)), .d (.v (.int .i64 p0.Dial.Teeth)), .d (.v (.int .i64 p0.Dial.At)), .d (.v (.int .i64 p0.Dial.Day)), .d (.v (.int .i64 p0.Dial.Week)), .d (.v (.int .i64 p0.Dial.Weekday))], .d (.v (.int .i64 p1))] [.live [⟨204, 2, .av (nestL 1 cArbor_ r.2.1)⟩], .live (famL 2 1 cArbor_ r.2.1), .live [⟨208, 4, .data (List.map cMesh_ r.2.2.1)⟩], .live [⟨169, 3, .data (List.map cMonth_ r.2.2.2.1)⟩], .live [⟨174, 3, .data (List.map cLeapRule_ r.2.2.2.2.1)⟩], .live [⟨2, 1, .data (List.map cI r.2.2.2.2.2.1)⟩], .live [⟨2, 1, .data (List.map cI r.2.2.2.2.2.2)⟩]] (.d (.v (.int .i64 r.1))) := by
  refine fnc_introL (L := 7) (T := tt) (N := 14) tok Tryz.func29 rfl rfl (by kernel_rfl) rfl rfl ?_
  unfold l_markSim_o_m at h0
  refine sq [0,1] ?_
  refine rs rfl w0 rfl (st_box 7 (cs := _ :: _) rfl rfl rfl) ?_
  refine pa ?_
  refine nx ?_
  refine sq [0,1,2,3,4] ?_
  refine fa tok ?_
  refine rl rfl w0 rfl (bx_ldN tok rfl rfl rfl rfl) ?_
  refine pm ?_
  obtain ⟨v1, hv1, h0⟩ := bnd h0
  obtain ⟨hq2, h0⟩ := chk_e h0
  obtain ⟨hq3, h0⟩ := chk_e h0
  obtain ⟨hq4, h0⟩ := chk_e h0
  obtain ⟨hq5, h0⟩ := chk_e h0
  obtain ⟨hq6, h0⟩ := chk_e h0
  refine rw1 rfl w0 rfl (c_callP [0, 1, 2, 3, 4, 5] 300 (l_markMovement_o_c hv1) rfl rfl) ?_
  refine pa ?_
  refine nx ?_
  refine sq [0,1,2,3,4] ?_
  refine fa tok ?_
  refine rl rfl w0 rfl (bx_ldN tok rfl rfl rfl rfl) ?_
  refine pm ?_
  obtain ⟨v7, hv7, h0⟩ := bnd h0
  obtain ⟨hq8, h0⟩ := chk_e h0
  refine rw1 rfl w0 rfl (c_callP [6] 300 (l_markPerpetual_o_c hv7) rfl rfl) ?_
  refine pa ?_
  refine nx ?_
  refine sq [0,1] ?_
  refine pm ?_
  refine pa ?_
  refine nx ?_
  refine aw_ret ?_
  cases h0
  exact retP_ (rs := [.tmp 4]) 7 rfl rfl

theorem l_heldInt64S_c {p0 : List Int} {p1 : Int} {r : Int} (h0 : l_heldInt64S_m p0 p1 = some r) : FnC Tryz.prog 133 [] [.d (.sl (List.map cI p0)), .d (.v (.int .i64 p1))] [] (.d (.v (.int .i64 r))) := by
  refine fnc_intro (T := tt) (N := 21) tok Tryz.func133 rfl rfl (by kernel_rfl) rfl rfl ?_
  unfold l_heldInt64S_m at h0
  refine sq [0] ?_
  refine pa ?_
  refine nx ?_
  obtain ⟨v5x, h1, h0⟩ := bnd h0
  refine aw_cutE v5x (fun v5 => ⟨updA ((fun _ => .dead)) 1 (.d (.v (.int .i64 v5))), lks [.no, .no, .no]⟩) ?_ ?_
  refine sq [0] ?_
  refine pa ?_
  refine nx ?_
  refine aw_block ?_
  refine aw_loopM (fun s3 => ⟨updA (updA (updA ((fun _ => .dead)) 0 (.d (.sl (List.map cI p0)))) 1 (.d (.v (.int .i64 s3.1)))) 5 (.d (.v (.int .i64 s3.2))), lks [.no, .no, .no]⟩) h1 ?_ (fun s3 y h2 => ?_)
  exact wk [0, 1, 2]
  refine aw_seq ?_
  refine sq [0,1,2,3] ?_
  refine pm ?_
  refine pm ?_
  refine rp rfl w0 rfl (pu_len_map tok rfl rfl rfl) ?_
  refine rp rfl w0 rfl (pu_lss rfl rfl) ?_
  refine nx ?_
  refine aw_if h2 rfl (fun hc h2 => ?_) (fun hc h2 => ?_)
  refine sk ?_
  refine aw_seq ?_
  refine aw_block ?_
  refine aw_seq ?_
  refine sq [0,1,2,3,4,5] ?_
  refine pm ?_
  refine pm ?_
  obtain ⟨v4, hv4, h2⟩ := bnd h2
  refine rp rfl w0 rfl (sl_ix tok hv4 rfl rfl rfl rfl rfl rfl) ?_
  refine lr tok ?_
  refine pm ?_
  refine rp rfl w0 rfl (pu_neq rfl rfl) ?_
  refine nx ?_
  refine aw_if h2 rfl (fun hc h2 => ?_) (fun hc h2 => ?_)
  refine sq [0] ?_
  refine pa ?_
  refine nx ?_
  refine aw_ret ?_
  refine then_r ?_
  refine block_r ?_
  refine then_r ?_
  cases h2
  refine loop_r ⟨_, rfl, fun e => ?_⟩
  subst e
  refine block_r ?_
  replace h0 := orE_s h0
  refine then_r ?_
  cases h0
  exact ret0_ (rs := [.tmp 4]) rfl
  refine sk ?_
  refine sr [0,1,2] ?_
  refine pm ?_
  refine rp rfl w0 rfl (pw_add rfl rfl) ?_
  refine pa ?_
  refine ra_nil ?_
  refine block_n ?_
  refine then_n ?_
  refine sr [0,1,2] ?_
  refine pm ?_
  refine rp rfl w0 rfl (pw_add rfl rfl) ?_
  refine pa ?_
  refine ra_nil ?_
  refine loop_n ?_
  cases h2
  refine ⟨_, rfl, ?_⟩
  exact wk [0, 1, 2]
  refine aw_exit ?_
  refine then_e ?_
  cases h2
  refine loop_x ⟨_, rfl, fun e => ?_⟩
  subst e
  refine block_hit ?_
  refine then_n ?_
  refine ⟨_, rfl, ?_⟩
  exact wk [0, 1, 2]
  rintro v5 rfl
  replace h0 := orE_f h0
  refine sq [0,1] ?_
  refine pm ?_
  refine pa ?_
  refine nx ?_
  refine aw_ret ?_
  cases h0
  exact ret0_ (rs := [.tmp 4]) rfl

theorem l_heldArborS_c {p0 : List Arbor_} {p1 : Int} {r : Int} (h0 : l_heldArborS_m p0 p1 = some r) : FnC Tryz.prog 192 [] [.d (.sl (List.map cArbor_ p0)), .d (.v (.int .i64 p1))] [] (.d (.v (.int .i64 r))) := by
  refine fnc_intro (T := tt) (N := 32) tok Tryz.func192 rfl rfl (by kernel_rfl) rfl rfl ?_
  unfold l_heldArborS_m at h0
  refine sq [0] ?_
  refine pa ?_
  refine nx ?_
  obtain ⟨v11x, h1, h0⟩ := bnd h0
  refine aw_cutE v11x (fun v11 => ⟨updA ((fun _ => .dead)) 1 (.d (.v (.int .i64 v11))), lks [.no, .no, .no]⟩) ?_ ?_
  refine sq [0] ?_
  refine pa ?_
  refine nx ?_
  refine aw_block ?_
  refine aw_loopM (fun s6 => ⟨updA (updA (updA ((fun _ => .dead)) 0 (.d (.sl (List.map cArbor_ p0)))) 1 (.d (.v (.int .i64 s6.1)))) 5 (.d (.v (.int .i64 s6.2))), lks [.no, .no, .no]⟩) h1 ?_ (fun s6 y h2 => ?_)
  exact wk [0, 1, 2]
  refine aw_seq ?_
  refine sq [0,1,2,3] ?_
  refine pm ?_
  refine pm ?_
  refine rp rfl w0 rfl (pu_len_map tok rfl rfl rfl) ?_
  refine rp rfl w0 rfl (pu_lss rfl rfl) ?_
  refine nx ?_
  refine aw_if h2 rfl (fun hc h2 => ?_) (fun hc h2 => ?_)
  refine sk ?_
  refine aw_seq ?_
  refine aw_block ?_
  refine aw_seq ?_
  refine aw_seq ?_
  refine aw_region_draw (is := [0, 1, 2, 3, 4, 5, 6, 7]) [0, 0, 3, 7, 15, 0, 32, 127] follows (by kernel_rfl) ?_
  refine tpm ?_
  refine tpm ?_
  obtain ⟨v7, hv7, h2⟩ := bnd h2
  refine rt_p rfl w0 rfl (sl_ix tok hv7 rfl rfl rfl rfl rfl rfl) ?_
  refine tfr tok ?_
  refine tlr tok ?_
  refine tpm ?_
  obtain ⟨v8, hv8, h2⟩ := bnd h2
  refine rt_c rfl w0 rfl (b_call 3 (l_markText_c hv8) rfl rfl rfl) ?_
  refine rt_p rfl w0 rfl (pu_sneq rfl rfl) ?_
  refine rt_nil ?_
  refine ⟨by kernel_rfl, ?_⟩
  refine then_n ?_
  refine aw_if h2 rfl (fun hc h2 => ?_) (fun hc h2 => ?_)
  refine sq [0] ?_
  refine pa ?_
  refine nx ?_
  refine aw_ret ?_
  refine then_r ?_
  refine block_r ?_
  refine then_r ?_
  cases h2
  refine loop_r ⟨_, rfl, fun e => ?_⟩
  subst e
  refine block_r ?_
  replace h0 := orE_s h0
  refine then_r ?_
  cases h0
  exact ret0_ (rs := [.tmp 4]) rfl
  refine sk ?_
  refine sq [0,1,2] ?_
  refine pm ?_
  refine rp rfl w0 rfl (pw_add rfl rfl) ?_
  refine pa ?_
  refine nx ?_
  refine sq [0,1,2,3,4,5,6,7] ?_
  refine pm ?_
  refine pm ?_
  obtain ⟨v9, hv9, h2⟩ := bnd h2
  refine rp rfl w0 rfl (sl_ix tok hv9 rfl rfl rfl rfl rfl rfl) ?_
  refine fr tok ?_
  refine lr tok ?_
  refine pm ?_
  obtain ⟨v10, hv10, h2⟩ := bnd h2
  refine rs rfl w0 rfl (c_call 3 (l_heldInt64S_c hv10) rfl rfl rfl) ?_
  refine pa ?_
  refine nx ?_
  refine sq [0,1] ?_
  refine pm ?_
  refine rp rfl w0 rfl (pu_lss rfl rfl) ?_
  refine nx ?_
  refine aw_if h2 rfl (fun hc h2 => ?_) (fun hc h2 => ?_)
  refine sq [0] ?_
  refine pa ?_
  refine nx ?_
  refine aw_ret ?_
  refine block_r ?_
  refine then_r ?_
  cases h2
  refine loop_r ⟨_, rfl, fun e => ?_⟩
  subst e
  refine block_r ?_
  replace h0 := orE_s h0
  refine then_r ?_
  cases h0
  exact ret0_ (rs := [.tmp 4]) rfl
  refine aw_skip ?_
  refine block_n ?_
  refine then_n ?_
  refine sr [0,1,2] ?_
  refine pm ?_
  refine rp rfl w0 rfl (pw_add rfl rfl) ?_
  refine pa ?_
  refine ra_nil ?_
  refine loop_n ?_
  cases h2
  refine ⟨_, rfl, ?_⟩
  exact wk [0, 1, 2]
  refine aw_exit ?_
  refine then_e ?_
  cases h2
  refine loop_x ⟨_, rfl, fun e => ?_⟩
  subst e
  refine block_hit ?_
  refine then_n ?_
  refine ⟨_, rfl, ?_⟩
  exact wk [0, 1, 2]
  rintro v11 rfl
  replace h0 := orE_f h0
  refine sq [0,1] ?_
  refine pm ?_
  refine pa ?_
  refine nx ?_
  refine aw_ret ?_
  cases h0
  exact ret0_ (rs := [.tmp 4]) rfl

theorem l_heldMeshS_c {p0 : List Mesh_} {p1 : Int} {r : Int} (h0 : l_heldMeshS_m p0 p1 = some r) : FnC Tryz.prog 193 [] [.d (.sl (List.map cMesh_ p0)), .d (.v (.int .i64 p1))] [] (.d (.v (.int .i64 r))) := by
  refine fnc_intro (T := tt) (N := 49) tok Tryz.func193 rfl rfl (by kernel_rfl) rfl rfl ?_
  unfold l_heldMeshS_m at h0
  refine sq [0] ?_
  refine pa ?_
  refine nx ?_
  obtain ⟨v11x, h1, h0⟩ := bnd h0
  refine aw_cutE v11x (fun v11 => ⟨updA ((fun _ => .dead)) 1 (.d (.v (.int .i64 v11))), lks [.no, .no, .no]⟩) ?_ ?_
  refine sq [0] ?_
  refine pa ?_
  refine nx ?_
  refine aw_block ?_
  refine aw_loopM (fun s6 => ⟨updA (updA (updA ((fun _ => .dead)) 0 (.d (.sl (List.map cMesh_ p0)))) 1 (.d (.v (.int .i64 s6.1)))) 5 (.d (.v (.int .i64 s6.2))), lks [.no, .no, .no]⟩) h1 ?_ (fun s6 y h2 => ?_)
  exact wk [0, 1, 2]
  refine aw_seq ?_
  refine sq [0,1,2,3] ?_
  refine pm ?_
  refine pm ?_
  refine rp rfl w0 rfl (pu_len_map tok rfl rfl rfl) ?_
  refine rp rfl w0 rfl (pu_lss rfl rfl) ?_
  refine nx ?_
  refine aw_if h2 rfl (fun hc h2 => ?_) (fun hc h2 => ?_)
  refine sk ?_
  refine aw_seq ?_
  refine aw_block ?_
  refine aw_seq ?_
  refine sq [0,1,2,3,4,5,6] ?_
  refine pm ?_
  refine pm ?_
  obtain ⟨v7, hv7, h2⟩ := bnd h2
  refine rp rfl w0 rfl (sl_ix tok hv7 rfl rfl rfl rfl rfl rfl) ?_
  refine fr tok ?_
  refine lr tok ?_
  refine pm ?_
  refine rp rfl w0 rfl (pu_neq rfl rfl) ?_
  refine nx ?_
  refine aw_if h2 rfl (fun hc h2 => ?_) (fun hc h2 => ?_)
  refine sq [0] ?_
  refine pa ?_
  refine nx ?_
  refine aw_ret ?_
  refine then_r ?_
  refine block_r ?_
  refine then_r ?_
  cases h2
  refine loop_r ⟨_, rfl, fun e => ?_⟩
  subst e
  refine block_r ?_
  replace h0 := orE_s h0
  refine then_r ?_
  cases h0
  exact ret0_ (rs := [.tmp 4]) rfl
  refine sk ?_
  refine sq [0,1,2] ?_
  refine pm ?_
  refine rp rfl w0 rfl (pw_add rfl rfl) ?_
  refine pa ?_
  refine nx ?_
  refine aw_seq ?_
  refine sq [0,1,2,3,4,5,6] ?_
  refine pm ?_
  refine pm ?_
  obtain ⟨v8, hv8, h2⟩ := bnd h2
  refine rp rfl w0 rfl (sl_ix tok hv8 rfl rfl rfl rfl rfl rfl) ?_
  refine fr tok ?_
  refine lr tok ?_
  refine pm ?_
  refine rp rfl w0 rfl (pu_neq rfl rfl) ?_
  refine nx ?_
  refine aw_if h2 rfl (fun hc h2 => ?_) (fun hc h2 => ?_)
  refine sq [0] ?_
  refine pa ?_
  refine nx ?_
  refine aw_ret ?_
  refine then_r ?_
  refine block_r ?_
  refine then_r ?_
  cases h2
  refine loop_r ⟨_, rfl, fun e => ?_⟩
  subst e
  refine block_r ?_
  replace h0 := orE_s h0
  refine then_r ?_
  cases h0
  exact ret0_ (rs := [.tmp 4]) rfl
  refine sk ?_
  refine sq [0,1,2] ?_
  refine pm ?_
  refine rp rfl w0 rfl (pw_add rfl rfl) ?_
  refine pa ?_
  refine nx ?_
  refine aw_seq ?_
  refine sq [0,1,2,3,4,5,6] ?_
  refine pm ?_
  refine pm ?_
  obtain ⟨v9, hv9, h2⟩ := bnd h2
  refine rp rfl w0 rfl (sl_ix tok hv9 rfl rfl rfl rfl rfl rfl) ?_
  refine fr tok ?_
  refine lr tok ?_
  refine pm ?_
  refine rp rfl w0 rfl (pu_neq rfl rfl) ?_
  refine nx ?_
  refine aw_if h2 rfl (fun hc h2 => ?_) (fun hc h2 => ?_)
  refine sq [0] ?_
  refine pa ?_
  refine nx ?_
  refine aw_ret ?_
  refine then_r ?_
  refine block_r ?_
  refine then_r ?_
  cases h2
  refine loop_r ⟨_, rfl, fun e => ?_⟩
  subst e
  refine block_r ?_
  replace h0 := orE_s h0
  refine then_r ?_
  cases h0
  exact ret0_ (rs := [.tmp 4]) rfl
  refine sk ?_
  refine sq [0,1,2] ?_
  refine pm ?_
  refine rp rfl w0 rfl (pw_add rfl rfl) ?_
  refine pa ?_
  refine nx ?_
  refine aw_seq ?_
  refine sq [0,1,2,3,4,5,6] ?_
  refine pm ?_
  refine pm ?_
  obtain ⟨v10, hv10, h2⟩ := bnd h2
  refine rp rfl w0 rfl (sl_ix tok hv10 rfl rfl rfl rfl rfl rfl) ?_
  refine fr tok ?_
  refine lr tok ?_
  refine pm ?_
  refine rp rfl w0 rfl (pu_neq rfl rfl) ?_
  refine nx ?_
  refine aw_if h2 rfl (fun hc h2 => ?_) (fun hc h2 => ?_)
  refine sq [0] ?_
  refine pa ?_
  refine nx ?_
  refine aw_ret ?_
  refine then_r ?_
  refine block_r ?_
  refine then_r ?_
  cases h2
  refine loop_r ⟨_, rfl, fun e => ?_⟩
  subst e
  refine block_r ?_
  replace h0 := orE_s h0
  refine then_r ?_
  cases h0
  exact ret0_ (rs := [.tmp 4]) rfl
  refine sk ?_
  refine sr [0,1,2] ?_
  refine pm ?_
  refine rp rfl w0 rfl (pw_add rfl rfl) ?_
  refine pa ?_
  refine ra_nil ?_
  refine block_n ?_
  refine then_n ?_
  refine sr [0,1,2] ?_
  refine pm ?_
  refine rp rfl w0 rfl (pw_add rfl rfl) ?_
  refine pa ?_
  refine ra_nil ?_
  refine loop_n ?_
  cases h2
  refine ⟨_, rfl, ?_⟩
  exact wk [0, 1, 2]
  refine aw_exit ?_
  refine then_e ?_
  cases h2
  refine loop_x ⟨_, rfl, fun e => ?_⟩
  subst e
  refine block_hit ?_
  refine then_n ?_
  refine ⟨_, rfl, ?_⟩
  exact wk [0, 1, 2]
  rintro v11 rfl
  replace h0 := orE_f h0
  refine sq [0,1] ?_
  refine pm ?_
  refine pa ?_
  refine nx ?_
  refine aw_ret ?_
  cases h0
  exact ret0_ (rs := [.tmp 4]) rfl

theorem l_heldWorks_c {p0 : Works_} {p1 : Int} {r : Int} (h0 : l_heldWorks_m p0 p1 = some r) : FnC Tryz.prog 131 [] [.agg [.d (.sl (List.map cArbor_ p0.Arbors)), .d (.sl (List.map cMesh_ p0.Meshes))], .d (.v (.int .i64 p1))] [] (.d (.v (.int .i64 r))) := by
  refine fnc_intro (T := tt) (N := 18) tok Tryz.func131 rfl rfl (by kernel_rfl) rfl rfl ?_
  unfold l_heldWorks_m at h0
  refine sq [0,1] ?_
  refine rs rfl w0 rfl (st_box 3 (cs := _ :: _) rfl rfl rfl) ?_
  refine pa ?_
  refine nx ?_
  refine sq [0,1,2,3,4] ?_
  refine fa tok ?_
  refine ld tok ?_
  refine pm ?_
  obtain ⟨v1, hv1, h0⟩ := bnd h0
  refine rs rfl w0 rfl (c_call 4 (l_heldArborS_c hv1) rfl rfl rfl) ?_
  refine pa ?_
  refine nx ?_
  refine aw_seq ?_
  refine sq [0,1] ?_
  refine pm ?_
  refine rp rfl w0 rfl (pu_lss rfl rfl) ?_
  refine nx ?_
  refine aw_if h0 rfl (fun hc h0 => ?_) (fun hc h0 => ?_)
  refine sq [0] ?_
  refine pa ?_
  refine nx ?_
  refine aw_ret ?_
  refine then_r ?_
  cases h0
  exact ret0_ (rs := [.tmp 4]) rfl
  refine sk ?_
  refine sq [0,1,2,3,4] ?_
  refine fa tok ?_
  refine ld tok ?_
  refine pm ?_
  obtain ⟨v2, hv2, h0⟩ := bnd h0
  refine rs rfl w0 rfl (c_call 4 (l_heldMeshS_c hv2) rfl rfl rfl) ?_
  refine pa ?_
  refine nx ?_
  refine aw_seq ?_
  refine sq [0,1] ?_
  refine pm ?_
  refine rp rfl w0 rfl (pu_lss rfl rfl) ?_
  refine nx ?_
  refine aw_if h0 rfl (fun hc h0 => ?_) (fun hc h0 => ?_)
  refine sq [0] ?_
  refine pa ?_
  refine nx ?_
  refine aw_ret ?_
  refine then_r ?_
  cases h0
  exact ret0_ (rs := [.tmp 4]) rfl
  refine sk ?_
  refine sq [0,1] ?_
  refine pm ?_
  refine pa ?_
  refine nx ?_
  refine aw_ret ?_
  cases h0
  exact ret0_ (rs := [.tmp 4]) rfl

theorem l_heldMonthS_c {p0 : List Month_} {p1 : Int} {r : Int} (h0 : l_heldMonthS_m p0 p1 = some r) : FnC Tryz.prog 194 [] [.d (.sl (List.map cMonth_ p0)), .d (.v (.int .i64 p1))] [] (.d (.v (.int .i64 r))) := by
  refine fnc_intro (T := tt) (N := 41) tok Tryz.func194 rfl rfl (by kernel_rfl) rfl rfl ?_
  unfold l_heldMonthS_m at h0
  refine sq [0] ?_
  refine pa ?_
  refine nx ?_
  obtain ⟨v11x, h1, h0⟩ := bnd h0
  refine aw_cutE v11x (fun v11 => ⟨updA ((fun _ => .dead)) 1 (.d (.v (.int .i64 v11))), lks [.no, .no, .no]⟩) ?_ ?_
  refine sq [0] ?_
  refine pa ?_
  refine nx ?_
  refine aw_block ?_
  refine aw_loopM (fun s6 => ⟨updA (updA (updA ((fun _ => .dead)) 0 (.d (.sl (List.map cMonth_ p0)))) 1 (.d (.v (.int .i64 s6.1)))) 5 (.d (.v (.int .i64 s6.2))), lks [.no, .no, .no]⟩) h1 ?_ (fun s6 y h2 => ?_)
  exact wk [0, 1, 2]
  refine aw_seq ?_
  refine sq [0,1,2,3] ?_
  refine pm ?_
  refine pm ?_
  refine rp rfl w0 rfl (pu_len_map tok rfl rfl rfl) ?_
  refine rp rfl w0 rfl (pu_lss rfl rfl) ?_
  refine nx ?_
  refine aw_if h2 rfl (fun hc h2 => ?_) (fun hc h2 => ?_)
  refine sk ?_
  refine aw_seq ?_
  refine aw_block ?_
  refine aw_seq ?_
  refine aw_seq ?_
  refine aw_region_draw (is := [0, 1, 2, 3, 4, 5, 6, 7]) [0, 0, 3, 7, 15, 0, 32, 127] follows (by kernel_rfl) ?_
  refine tpm ?_
  refine tpm ?_
  obtain ⟨v7, hv7, h2⟩ := bnd h2
  refine rt_p rfl w0 rfl (sl_ix tok hv7 rfl rfl rfl rfl rfl rfl) ?_
  refine tfr tok ?_
  refine tlr tok ?_
  refine tpm ?_
  obtain ⟨v8, hv8, h2⟩ := bnd h2
  refine rt_c rfl w0 rfl (b_call 3 (l_markText_c hv8) rfl rfl rfl) ?_
  refine rt_p rfl w0 rfl (pu_sneq rfl rfl) ?_
  refine rt_nil ?_
  refine ⟨by kernel_rfl, ?_⟩
  refine then_n ?_
  refine aw_if h2 rfl (fun hc h2 => ?_) (fun hc h2 => ?_)
  refine sq [0] ?_
  refine pa ?_
  refine nx ?_
  refine aw_ret ?_
  refine then_r ?_
  refine block_r ?_
  refine then_r ?_
  cases h2
  refine loop_r ⟨_, rfl, fun e => ?_⟩
  subst e
  refine block_r ?_
  replace h0 := orE_s h0
  refine then_r ?_
  cases h0
  exact ret0_ (rs := [.tmp 4]) rfl
  refine sk ?_
  refine sq [0,1,2] ?_
  refine pm ?_
  refine rp rfl w0 rfl (pw_add rfl rfl) ?_
  refine pa ?_
  refine nx ?_
  refine aw_seq ?_
  refine sq [0,1,2,3,4,5,6] ?_
  refine pm ?_
  refine pm ?_
  obtain ⟨v9, hv9, h2⟩ := bnd h2
  refine rp rfl w0 rfl (sl_ix tok hv9 rfl rfl rfl rfl rfl rfl) ?_
  refine fr tok ?_
  refine lr tok ?_
  refine pm ?_
  refine rp rfl w0 rfl (pu_neq rfl rfl) ?_
  refine nx ?_
  refine aw_if h2 rfl (fun hc h2 => ?_) (fun hc h2 => ?_)
  refine sq [0] ?_
  refine pa ?_
  refine nx ?_
  refine aw_ret ?_
  refine then_r ?_
  refine block_r ?_
  refine then_r ?_
  cases h2
  refine loop_r ⟨_, rfl, fun e => ?_⟩
  subst e
  refine block_r ?_
  replace h0 := orE_s h0
  refine then_r ?_
  cases h0
  exact ret0_ (rs := [.tmp 4]) rfl
  refine sk ?_
  refine sq [0,1,2] ?_
  refine pm ?_
  refine rp rfl w0 rfl (pw_add rfl rfl) ?_
  refine pa ?_
  refine nx ?_
  refine aw_seq ?_
  refine sq [0,1,2,3,4,5,6] ?_
  refine pm ?_
  refine pm ?_
  obtain ⟨v10, hv10, h2⟩ := bnd h2
  refine rp rfl w0 rfl (sl_ix tok hv10 rfl rfl rfl rfl rfl rfl) ?_
  refine fr tok ?_
  refine lr tok ?_
  refine pm ?_
  refine rp rfl w0 rfl (pu_neq rfl rfl) ?_
  refine nx ?_
  refine aw_if h2 rfl (fun hc h2 => ?_) (fun hc h2 => ?_)
  refine sq [0] ?_
  refine pa ?_
  refine nx ?_
  refine aw_ret ?_
  refine then_r ?_
  refine block_r ?_
  refine then_r ?_
  cases h2
  refine loop_r ⟨_, rfl, fun e => ?_⟩
  subst e
  refine block_r ?_
  replace h0 := orE_s h0
  refine then_r ?_
  cases h0
  exact ret0_ (rs := [.tmp 4]) rfl
  refine sk ?_
  refine sr [0,1,2] ?_
  refine pm ?_
  refine rp rfl w0 rfl (pw_add rfl rfl) ?_
  refine pa ?_
  refine ra_nil ?_
  refine block_n ?_
  refine then_n ?_
  refine sr [0,1,2] ?_
  refine pm ?_
  refine rp rfl w0 rfl (pw_add rfl rfl) ?_
  refine pa ?_
  refine ra_nil ?_
  refine loop_n ?_
  cases h2
  refine ⟨_, rfl, ?_⟩
  exact wk [0, 1, 2]
  refine aw_exit ?_
  refine then_e ?_
  cases h2
  refine loop_x ⟨_, rfl, fun e => ?_⟩
  subst e
  refine block_hit ?_
  refine then_n ?_
  refine ⟨_, rfl, ?_⟩
  exact wk [0, 1, 2]
  rintro v11 rfl
  replace h0 := orE_f h0
  refine sq [0,1] ?_
  refine pm ?_
  refine pa ?_
  refine nx ?_
  refine aw_ret ?_
  cases h0
  exact ret0_ (rs := [.tmp 4]) rfl

theorem l_heldLeapRuleS_c {p0 : List LeapRule_} {p1 : Int} {r : Int} (h0 : l_heldLeapRuleS_m p0 p1 = some r) : FnC Tryz.prog 195 [] [.d (.sl (List.map cLeapRule_ p0)), .d (.v (.int .i64 p1))] [] (.d (.v (.int .i64 r))) := by
  refine fnc_intro (T := tt) (N := 42) tok Tryz.func195 rfl rfl (by kernel_rfl) rfl rfl ?_
  unfold l_heldLeapRuleS_m at h0
  refine sq [0] ?_
  refine pa ?_
  refine nx ?_
  obtain ⟨v11x, h1, h0⟩ := bnd h0
  refine aw_cutE v11x (fun v11 => ⟨updA ((fun _ => .dead)) 1 (.d (.v (.int .i64 v11))), lks [.no, .no, .no]⟩) ?_ ?_
  refine sq [0] ?_
  refine pa ?_
  refine nx ?_
  refine aw_block ?_
  refine aw_loopM (fun s6 => ⟨updA (updA (updA ((fun _ => .dead)) 0 (.d (.sl (List.map cLeapRule_ p0)))) 1 (.d (.v (.int .i64 s6.1)))) 5 (.d (.v (.int .i64 s6.2))), lks [.no, .no, .no]⟩) h1 ?_ (fun s6 y h2 => ?_)
  exact wk [0, 1, 2]
  refine aw_seq ?_
  refine sq [0,1,2,3] ?_
  refine pm ?_
  refine pm ?_
  refine rp rfl w0 rfl (pu_len_map tok rfl rfl rfl) ?_
  refine rp rfl w0 rfl (pu_lss rfl rfl) ?_
  refine nx ?_
  refine aw_if h2 rfl (fun hc h2 => ?_) (fun hc h2 => ?_)
  refine sk ?_
  refine aw_seq ?_
  refine aw_block ?_
  refine aw_seq ?_
  refine sq [0,1,2,3,4,5,6] ?_
  refine pm ?_
  refine pm ?_
  obtain ⟨v7, hv7, h2⟩ := bnd h2
  refine rp rfl w0 rfl (sl_ix tok hv7 rfl rfl rfl rfl rfl rfl) ?_
  refine fr tok ?_
  refine lr tok ?_
  refine pm ?_
  refine rp rfl w0 rfl (pu_neq rfl rfl) ?_
  refine nx ?_
  refine aw_if h2 rfl (fun hc h2 => ?_) (fun hc h2 => ?_)
  refine sq [0] ?_
  refine pa ?_
  refine nx ?_
  refine aw_ret ?_
  refine then_r ?_
  refine block_r ?_
  refine then_r ?_
  cases h2
  refine loop_r ⟨_, rfl, fun e => ?_⟩
  subst e
  refine block_r ?_
  replace h0 := orE_s h0
  refine then_r ?_
  cases h0
  exact ret0_ (rs := [.tmp 4]) rfl
  refine sk ?_
  refine sq [0,1,2] ?_
  refine pm ?_
  refine rp rfl w0 rfl (pw_add rfl rfl) ?_
  refine pa ?_
  refine nx ?_
  refine aw_seq ?_
  refine sq [0,1,2,3,4,5,6] ?_
  refine pm ?_
  refine pm ?_
  obtain ⟨v8, hv8, h2⟩ := bnd h2
  refine rp rfl w0 rfl (sl_ix tok hv8 rfl rfl rfl rfl rfl rfl) ?_
  refine fr tok ?_
  refine lr tok ?_
  refine pm ?_
  refine rp rfl w0 rfl (pu_neq rfl rfl) ?_
  refine nx ?_
  refine aw_if h2 rfl (fun hc h2 => ?_) (fun hc h2 => ?_)
  refine sq [0] ?_
  refine pa ?_
  refine nx ?_
  refine aw_ret ?_
  refine then_r ?_
  refine block_r ?_
  refine then_r ?_
  cases h2
  refine loop_r ⟨_, rfl, fun e => ?_⟩
  subst e
  refine block_r ?_
  replace h0 := orE_s h0
  refine then_r ?_
  cases h0
  exact ret0_ (rs := [.tmp 4]) rfl
  refine sk ?_
  refine sq [0,1,2] ?_
  refine pm ?_
  refine rp rfl w0 rfl (pw_add rfl rfl) ?_
  refine pa ?_
  refine nx ?_
  refine aw_seq ?_
  refine sq [0,1,2,3,4,5,6,7,8] ?_
  refine pm ?_
  refine pm ?_
  obtain ⟨v9, hv9, h2⟩ := bnd h2
  refine rp rfl w0 rfl (sl_ix tok hv9 rfl rfl rfl rfl rfl rfl) ?_
  refine fr tok ?_
  refine lr tok ?_
  refine pm ?_
  refine rp rfl w0 rfl (pu_remw rfl rfl (by decide)) ?_
  refine rp rfl w0 rfl (pu_eql rfl rfl) ?_
  refine rp rfl w0 rfl (pu_bneq tok rfl rfl rfl rfl) ?_
  refine nx ?_
  refine aw_ifB h2 rfl (fun hc h2 => ?_) (fun hc h2 => ?_)
  refine sq [0] ?_
  refine pa ?_
  refine nx ?_
  refine aw_ret ?_
  refine then_r ?_
  refine block_r ?_
  refine then_r ?_
  cases h2
  refine loop_r ⟨_, rfl, fun e => ?_⟩
  subst e
  refine block_r ?_
  replace h0 := orE_s h0
  refine then_r ?_
  cases h0
  exact ret0_ (rs := [.tmp 4]) rfl
  refine sk ?_
  refine sr [0,1,2] ?_
  refine pm ?_
  refine rp rfl w0 rfl (pw_add rfl rfl) ?_
  refine pa ?_
  refine ra_nil ?_
  refine block_n ?_
  refine then_n ?_
  refine sr [0,1,2] ?_
  refine pm ?_
  refine rp rfl w0 rfl (pw_add rfl rfl) ?_
  refine pa ?_
  refine ra_nil ?_
  refine loop_n ?_
  cases h2
  refine ⟨_, rfl, ?_⟩
  exact wk [0, 1, 2]
  refine aw_exit ?_
  refine then_e ?_
  cases h2
  refine loop_x ⟨_, rfl, fun e => ?_⟩
  subst e
  refine block_hit ?_
  refine then_n ?_
  refine ⟨_, rfl, ?_⟩
  exact wk [0, 1, 2]
  rintro v11 rfl
  replace h0 := orE_f h0
  refine sq [0,1] ?_
  refine pm ?_
  refine pa ?_
  refine nx ?_
  refine aw_ret ?_
  cases h0
  exact ret0_ (rs := [.tmp 4]) rfl

theorem l_heldCalendar_c {p0 : Calendar_} {p1 : Int} {r : Int} (h0 : l_heldCalendar_m p0 p1 = some r) : FnC Tryz.prog 132 [] [.agg [.d (.v (.string p0.Name)), .d (.sl (List.map cMonth_ p0.Months)), .d (.sl (List.map cLeapRule_ p0.Rules)), .d (.v (.int .i64 p0.Week))], .d (.v (.int .i64 p1))] [] (.d (.v (.int .i64 r))) := by
  refine fnc_intro (T := tt) (N := 18) tok Tryz.func132 rfl rfl (by kernel_rfl) rfl rfl ?_
  unfold l_heldCalendar_m at h0
  refine sq [0,1] ?_
  refine rs rfl w0 rfl (st_box 3 (cs := _ :: _) rfl rfl rfl) ?_
  refine pa ?_
  refine nx ?_
  refine sq [0,1,2,3,4] ?_
  refine fa tok ?_
  refine ld tok ?_
  refine pm ?_
  obtain ⟨v1, hv1, h0⟩ := bnd h0
  refine rs rfl w0 rfl (c_call 4 (l_heldMonthS_c hv1) rfl rfl rfl) ?_
  refine pa ?_
  refine nx ?_
  refine aw_seq ?_
  refine sq [0,1] ?_
  refine pm ?_
  refine rp rfl w0 rfl (pu_lss rfl rfl) ?_
  refine nx ?_
  refine aw_if h0 rfl (fun hc h0 => ?_) (fun hc h0 => ?_)
  refine sq [0] ?_
  refine pa ?_
  refine nx ?_
  refine aw_ret ?_
  refine then_r ?_
  cases h0
  exact ret0_ (rs := [.tmp 4]) rfl
  refine sk ?_
  refine sq [0,1,2,3,4] ?_
  refine fa tok ?_
  refine ld tok ?_
  refine pm ?_
  obtain ⟨v2, hv2, h0⟩ := bnd h0
  refine rs rfl w0 rfl (c_call 4 (l_heldLeapRuleS_c hv2) rfl rfl rfl) ?_
  refine pa ?_
  refine nx ?_
  refine aw_seq ?_
  refine sq [0,1] ?_
  refine pm ?_
  refine rp rfl w0 rfl (pu_lss rfl rfl) ?_
  refine nx ?_
  refine aw_if h0 rfl (fun hc h0 => ?_) (fun hc h0 => ?_)
  refine sq [0] ?_
  refine pa ?_
  refine nx ?_
  refine aw_ret ?_
  refine then_r ?_
  cases h0
  exact ret0_ (rs := [.tmp 4]) rfl
  refine sk ?_
  refine sq [0,1] ?_
  refine pm ?_
  refine pa ?_
  refine nx ?_
  refine aw_ret ?_
  cases h0
  exact ret0_ (rs := [.tmp 4]) rfl

theorem l_heldMovement_c {p0 : Movement_} {p1 : Int} {r : Int} (h0 : l_heldMovement_m p0 p1 = some r) : FnC Tryz.prog 64 [] [.agg [.d (.v (.string p0.Name)), .d (.sl (List.map cArbor_ p0.Works.Arbors)), .d (.sl (List.map cMesh_ p0.Works.Meshes)), .d (.v (.int .i64 p0.Minute)), .d (.v (.int .i64 p0.Hour)), .d (.v (.int .i64 p0.Escape)), .d (.v (.int .i64 p0.Teeth)), .d (.v (.int .i64 p0.Beats)), .d (.v (.string p0.Calendar.Name)), .d (.sl (List.map cMonth_ p0.Calendar.Months)), .d (.sl (List.map cLeapRule_ p0.Calendar.Rules)), .d (.v (.int .i64 p0.Calendar.Week)), .d (.sl (List.map cI p0.Cam)), .d (.v (.int .i64 p0.Strike))], .d (.v (.int .i64 p1))] [] (.d (.v (.int .i64 r))) := by
  refine fnc_intro (T := tt) (N := 24) tok Tryz.func64 rfl rfl (by kernel_rfl) rfl rfl ?_
  unfold l_heldMovement_m at h0
  refine sq [0,1] ?_
  refine rs rfl w0 rfl (st_box 3 (cs := _ :: _) rfl rfl rfl) ?_
  refine pa ?_
  refine nx ?_
  refine sq [0,1,2,3,4] ?_
  refine fa tok ?_
  refine rl rfl w0 rfl (bx_ldN tok rfl rfl rfl rfl) ?_
  refine pm ?_
  obtain ⟨v1, hv1, h0⟩ := bnd h0
  refine rs rfl w0 rfl (c_call 4 (l_heldWorks_c hv1) rfl rfl rfl) ?_
  refine pa ?_
  refine nx ?_
  refine aw_seq ?_
  refine sq [0,1] ?_
  refine pm ?_
  refine rp rfl w0 rfl (pu_lss rfl rfl) ?_
  refine nx ?_
  refine aw_if h0 rfl (fun hc h0 => ?_) (fun hc h0 => ?_)
  refine sq [0] ?_
  refine pa ?_
  refine nx ?_
  refine aw_ret ?_
  refine then_r ?_
  cases h0
  exact ret0_ (rs := [.tmp 4]) rfl
  refine sk ?_
  refine sq [0,1,2,3,4] ?_
  refine fa tok ?_
  refine rl rfl w0 rfl (bx_ldN tok rfl rfl rfl rfl) ?_
  refine pm ?_
  obtain ⟨v2, hv2, h0⟩ := bnd h0
  refine rs rfl w0 rfl (c_call 4 (l_heldCalendar_c hv2) rfl rfl rfl) ?_
  refine pa ?_
  refine nx ?_
  refine aw_seq ?_
  refine sq [0,1] ?_
  refine pm ?_
  refine rp rfl w0 rfl (pu_lss rfl rfl) ?_
  refine nx ?_
  refine aw_if h0 rfl (fun hc h0 => ?_) (fun hc h0 => ?_)
  refine sq [0] ?_
  refine pa ?_
  refine nx ?_
  refine aw_ret ?_
  refine then_r ?_
  cases h0
  exact ret0_ (rs := [.tmp 4]) rfl
  refine sk ?_
  refine sq [0,1,2,3,4] ?_
  refine fa tok ?_
  refine ld tok ?_
  refine pm ?_
  obtain ⟨v3, hv3, h0⟩ := bnd h0
  refine rs rfl w0 rfl (c_call 4 (l_heldInt64S_c hv3) rfl rfl rfl) ?_
  refine pa ?_
  refine nx ?_
  refine aw_seq ?_
  refine sq [0,1] ?_
  refine pm ?_
  refine rp rfl w0 rfl (pu_lss rfl rfl) ?_
  refine nx ?_
  refine aw_if h0 rfl (fun hc h0 => ?_) (fun hc h0 => ?_)
  refine sq [0] ?_
  refine pa ?_
  refine nx ?_
  refine aw_ret ?_
  refine then_r ?_
  cases h0
  exact ret0_ (rs := [.tmp 4]) rfl
  refine sk ?_
  refine sq [0,1] ?_
  refine pm ?_
  refine pa ?_
  refine nx ?_
  refine aw_ret ?_
  cases h0
  exact ret0_ (rs := [.tmp 4]) rfl

theorem l_heldPerpetual_c {p0 : Perpetual_} {p1 : Int} {r : Int} (h0 : l_heldPerpetual_m p0 p1 = some r) : FnC Tryz.prog 65 [] [.agg [.d (.sl (List.map cI p0.Cam)), .d (.v (.int .i64 p0.Months)), .d (.v (.int .i64 p0.Teeth)), .d (.v (.int .i64 p0.At)), .d (.v (.int .i64 p0.Day)), .d (.v (.int .i64 p0.Week)), .d (.v (.int .i64 p0.Weekday))], .d (.v (.int .i64 p1))] [] (.d (.v (.int .i64 r))) := by
  refine fnc_intro (T := tt) (N := 12) tok Tryz.func65 rfl rfl (by kernel_rfl) rfl rfl ?_
  unfold l_heldPerpetual_m at h0
  refine sq [0,1] ?_
  refine rs rfl w0 rfl (st_box 3 (cs := _ :: _) rfl rfl rfl) ?_
  refine pa ?_
  refine nx ?_
  refine sq [0,1,2,3,4] ?_
  refine fa tok ?_
  refine ld tok ?_
  refine pm ?_
  obtain ⟨v1, hv1, h0⟩ := bnd h0
  refine rs rfl w0 rfl (c_call 4 (l_heldInt64S_c hv1) rfl rfl rfl) ?_
  refine pa ?_
  refine nx ?_
  refine aw_seq ?_
  refine sq [0,1] ?_
  refine pm ?_
  refine rp rfl w0 rfl (pu_lss rfl rfl) ?_
  refine nx ?_
  refine aw_if h0 rfl (fun hc h0 => ?_) (fun hc h0 => ?_)
  refine sq [0] ?_
  refine pa ?_
  refine nx ?_
  refine aw_ret ?_
  refine then_r ?_
  cases h0
  exact ret0_ (rs := [.tmp 4]) rfl
  refine sk ?_
  refine sq [0,1] ?_
  refine pm ?_
  refine pa ?_
  refine nx ?_
  refine aw_ret ?_
  cases h0
  exact ret0_ (rs := [.tmp 4]) rfl

theorem l_heldSim_c {p0 : Sim_} {p1 : Int} {r : Int} (h0 : l_heldSim_m p0 p1 = some r) : FnC Tryz.prog 30 [] [.agg [.d (.v (.string p0.Movement.Name)), .d (.sl (List.map cArbor_ p0.Movement.Works.Arbors)), .d (.sl (List.map cMesh_ p0.Movement.Works.Meshes)), .d (.v (.int .i64 p0.Movement.Minute)), .d (.v (.int .i64 p0.Movement.Hour)), .d (.v (.int .i64 p0.Movement.Escape)), .d (.v (.int .i64 p0.Movement.Teeth)), .d (.v (.int .i64 p0.Movement.Beats)), .d (.v (.string p0.Movement.Calendar.Name)), .d (.sl (List.map cMonth_ p0.Movement.Calendar.Months)), .d (.sl (List.map cLeapRule_ p0.Movement.Calendar.Rules)), .d (.v (.int .i64 p0.Movement.Calendar.Week)), .d (.sl (List.map cI p0.Movement.Cam)), .d (.v (.int .i64 p0.Movement.Strike)), .d (.v (.int .i64 p0.Start.Year)), .d (.v (.int .i64 p0.Start.Month)), .d (.v (.int .i64 p0.Start.Day)), .d (.v (.int .i64 p0.First)), .d (.v (.int .i64 p0.Clock)), .d (.sl (List.map cI p0.Dial.Cam)), .d (.v (.int .i64 p0.Dial.Months)), .d (.v (.int .i64 p0.Dial.Teeth)), .d (.v (.int .i64 p0.Dial.At)), .d (.v (.int .i64 p0.Dial.Day)), .d (.v (.int .i64 p0.Dial.Week)), .d (.v (.int .i64 p0.Dial.Weekday))], .d (.v (.int .i64 p1))] [] (.d (.v (.int .i64 r))) := by
  refine fnc_intro (T := tt) (N := 18) tok Tryz.func30 rfl rfl (by kernel_rfl) rfl rfl ?_
  unfold l_heldSim_m at h0
  refine sq [0,1] ?_
  refine rs rfl w0 rfl (st_box 3 (cs := _ :: _) rfl rfl rfl) ?_
  refine pa ?_
  refine nx ?_
  refine sq [0,1,2,3,4] ?_
  refine fa tok ?_
  refine rl rfl w0 rfl (bx_ldN tok rfl rfl rfl rfl) ?_
  refine pm ?_
  obtain ⟨v1, hv1, h0⟩ := bnd h0
  refine rs rfl w0 rfl (c_call 4 (l_heldMovement_c hv1) rfl rfl rfl) ?_
  refine pa ?_
  refine nx ?_
  refine aw_seq ?_
  refine sq [0,1] ?_
  refine pm ?_
  refine rp rfl w0 rfl (pu_lss rfl rfl) ?_
  refine nx ?_
  refine aw_if h0 rfl (fun hc h0 => ?_) (fun hc h0 => ?_)
  refine sq [0] ?_
  refine pa ?_
  refine nx ?_
  refine aw_ret ?_
  refine then_r ?_
  cases h0
  exact ret0_ (rs := [.tmp 4]) rfl
  refine sk ?_
  refine sq [0,1,2,3,4] ?_
  refine fa tok ?_
  refine rl rfl w0 rfl (bx_ldN tok rfl rfl rfl rfl) ?_
  refine pm ?_
  obtain ⟨v2, hv2, h0⟩ := bnd h0
  refine rs rfl w0 rfl (c_call 4 (l_heldPerpetual_c hv2) rfl rfl rfl) ?_
  refine pa ?_
  refine nx ?_
  refine aw_seq ?_
  refine sq [0,1] ?_
  refine pm ?_
  refine rp rfl w0 rfl (pu_lss rfl rfl) ?_
  refine nx ?_
  refine aw_if h0 rfl (fun hc h0 => ?_) (fun hc h0 => ?_)
  refine sq [0] ?_
  refine pa ?_
  refine nx ?_
  refine aw_ret ?_
  refine then_r ?_
  cases h0
  exact ret0_ (rs := [.tmp 4]) rfl
  refine sk ?_
  refine sq [0,1] ?_
  refine pm ?_
  refine pa ?_
  refine nx ?_
  refine aw_ret ?_
  cases h0
  exact ret0_ (rs := [.tmp 4]) rfl

theorem l_FnExactNewSim_c {p0 : Movement_} {p1 : Date_} {p2 : Int} {r : Bool} (h0 : l_FnExactNewSim_m p0 p1 p2 = some r) : FnC Tryz.prog 6 [] [.agg [.d (.v (.string p0.Name)), .d (.sl (List.map cArbor_ p0.Works.Arbors)), .d (.sl (List.map cMesh_ p0.Works.Meshes)), .d (.v (.int .i64 p0.Minute)), .d (.v (.int .i64 p0.Hour)), .d (.v (.int .i64 p0.Escape)), .d (.v (.int .i64 p0.Teeth)), .d (.v (.int .i64 p0.Beats)), .d (.v (.string p0.Calendar.Name)), .d (.sl (List.map cMonth_ p0.Calendar.Months)), .d (.sl (List.map cLeapRule_ p0.Calendar.Rules)), .d (.v (.int .i64 p0.Calendar.Week)), .d (.sl (List.map cI p0.Cam)), .d (.v (.int .i64 p0.Strike))], .agg [.d (.v (.int .i64 p1.Year)), .d (.v (.int .i64 p1.Month)), .d (.v (.int .i64 p1.Day))], .d (.v (.int .i64 p2))] [] (.d (.v (.bool r))) := by
  refine fnc_intro (T := tt) (N := 109) tok Tryz.func6 rfl rfl (by kernel_rfl) rfl rfl ?_
  unfold l_FnExactNewSim_m at h0
  refine sq [0,1,2] ?_
  refine rs rfl w0 rfl (st_box 3 (cs := _ :: _) rfl rfl rfl) ?_
  refine rs rfl w0 rfl (st_box 4 (cs := _ :: _) rfl rfl rfl) ?_
  refine pa ?_
  refine nx ?_
  refine sq [0] ?_
  refine pa ?_
  refine nx ?_
  refine sq [0,1,2,3] ?_
  refine rl rfl w0 rfl (bx_ldN tok rfl rfl rfl rfl) ?_
  refine pm ?_
  obtain ⟨v1, hv1, h0⟩ := bnd h0
  refine rs rfl w0 rfl (c_call 5 (l_szMovement_c hv1) rfl rfl rfl) ?_
  refine pa ?_
  refine nx ?_
  refine aw_seq ?_
  refine sq [0,1] ?_
  refine pm ?_
  refine rp rfl w0 rfl (pu_lss rfl rfl) ?_
  refine nx ?_
  refine aw_if h0 rfl (fun hc h0 => ?_) (fun hc h0 => ?_)
  refine sq [0] ?_
  refine pa ?_
  refine nx ?_
  refine aw_ret ?_
  refine then_r ?_
  cases h0
  exact ret0_ (rs := [.tmp 6]) rfl
  refine sk ?_
  refine aw_seq ?_
  refine aw_region_draw (is := [0, 2, 4, 1, 3, 5, 6, 7, 8, 9, 10, 11]) [0, 1, 0, 7, 0, 31, 63, 127, 127, 0, 767, 2047] follows (by kernel_rfl) ?_
  refine rt_lk rfl w0 rfl (bx_ldN tok rfl rfl rfl rfl) rfl rfl rfl ?_
  refine rt_lk rfl w0 rfl (bx_ldN tok rfl rfl rfl rfl) rfl rfl rfl ?_
  refine tpm ?_
  obtain ⟨v2, hv2, h0⟩ := bnd h0
  refine rt_c rfl w0 rfl (b_call 6 (l_toMovement_c hv2) rfl rfl rfl) ?_
  obtain ⟨v3, hv3, h0⟩ := bnd h0
  refine rt_c rfl w0 rfl (b_call 12 (l_toDate_c hv3) rfl rfl rfl) ?_
  obtain ⟨v4, hv4, h0⟩ := bnd h0
  refine rt_c rfl w0 rfl (b_callV 12 (s_NewSim_c hv4) rfl rfl) ?_
  refine rt_p rfl w0 rfl (pu_move (r := .tup _) rfl) ?_
  refine rt_p rfl w0 rfl (pu_extract rfl rfl) ?_
  refine rt_p rfl w0 rfl (pu_extract rfl rfl) ?_
  refine rt_a rfl w0 rfl rfl (fun hx hk => st_alloc 5 (cs := [.d (.v (.string (⟨#[]⟩ : ByteArray))), .d (.v (.slice none 0 0)), .d (.v (.slice none 0 0)), .d (.v (.int .i64 0)), .d (.v (.int .i64 0)), .d (.v (.int .i64 0)), .d (.v (.int .i64 0)), .d (.v (.int .i64 0)), .d (.v (.string (⟨#[]⟩ : ByteArray))), .d (.v (.slice none 0 0)), .d (.v (.slice none 0 0)), .d (.v (.int .i64 0)), .d (.v (.slice none 0 0)), .d (.v (.int .i64 0)), .d (.v (.int .i64 0)), .d (.v (.int .i64 0)), .d (.v (.int .i64 0)), .d (.v (.int .i64 0)), .d (.v (.int .i64 0)), .d (.v (.slice none 0 0)), .d (.v (.int .i64 0)), .d (.v (.int .i64 0)), .d (.v (.int .i64 0)), .d (.v (.int .i64 0)), .d (.v (.int .i64 0)), .d (.v (.int .i64 0))]) tok rfl rfl hk) ?_
  refine rt_wk rfl w0 (bx_st (cs := _ :: _) tok rfl rfl rfl rfl rfl rfl rfl) ?_
  refine tpa ?_
  refine rt_nil ?_
  refine ⟨by kernel_rfl, ?_⟩
  refine then_n ?_
  refine sq [0,1,2,3] ?_
  refine rl rfl w0 rfl (bx_ldN tok rfl rfl rfl rfl) ?_
  obtain ⟨v5, hv5, h0⟩ := bnd h0
  refine rs rfl w0 rfl (c_call 19 (l_toMovement_c hv5) rfl rfl rfl) ?_
  refine rs rfl w0 rfl (st_alloc 25 (cs := [.d (.v (.string (⟨#[]⟩ : ByteArray))), .d (.v (.slice none 0 0)), .d (.v (.slice none 0 0)), .d (.v (.int .i64 0)), .d (.v (.int .i64 0)), .d (.v (.int .i64 0)), .d (.v (.int .i64 0)), .d (.v (.int .i64 0)), .d (.v (.string (⟨#[]⟩ : ByteArray))), .d (.v (.slice none 0 0)), .d (.v (.slice none 0 0)), .d (.v (.int .i64 0)), .d (.v (.slice none 0 0)), .d (.v (.int .i64 0))]) tok rfl rfl rfl) ?_
  refine rw0 rfl w0 (bx_st (cs := _ :: _) tok rfl rfl rfl rfl rfl rfl rfl) ?_
  refine nx ?_
  refine aw_seq ?_
  refine aw_region_draw (is := [0, 1, 3, 2, 4, 5, 6, 7, 8, 9, 10]) [0, 0, 2, 0, 15, 31, 63, 63, 0, 383, 1023] follows (by kernel_rfl) ?_
  refine rt_lk rfl w0 rfl (bx_ldN tok rfl rfl rfl rfl) rfl rfl rfl ?_
  refine rt_lk rfl w0 rfl (bx_ldN tok rfl rfl rfl rfl) rfl rfl rfl ?_
  refine tpm ?_
  obtain ⟨v6, hv6, h0⟩ := bnd h0
  refine rt_c rfl w0 rfl (b_call 27 (l_toDate_c hv6) rfl rfl rfl) ?_
  obtain ⟨v7, hv7, h0⟩ := bnd h0
  refine rt_c rfl w0 rfl (b_callV 27 (i_NewSim_c hv7) rfl rfl) ?_
  refine rt_p rfl w0 rfl (pu_move (r := .tup _) rfl) ?_
  refine rt_p rfl w0 rfl (pu_extract rfl rfl) ?_
  refine rt_p rfl w0 rfl (pu_extract rfl rfl) ?_
  refine rt_a rfl w0 rfl rfl (fun hx hk => st_alloc 26 (cs := [.d (.v (.string (⟨#[]⟩ : ByteArray))), .d (.v (.slice none 0 0)), .d (.v (.slice none 0 0)), .d (.v (.int .i64 0)), .d (.v (.int .i64 0)), .d (.v (.int .i64 0)), .d (.v (.int .i64 0)), .d (.v (.int .i64 0)), .d (.v (.string (⟨#[]⟩ : ByteArray))), .d (.v (.slice none 0 0)), .d (.v (.slice none 0 0)), .d (.v (.int .i64 0)), .d (.v (.slice none 0 0)), .d (.v (.int .i64 0)), .d (.v (.int .i64 0)), .d (.v (.int .i64 0)), .d (.v (.int .i64 0)), .d (.v (.int .i64 0)), .d (.v (.int .i64 0)), .d (.v (.slice none 0 0)), .d (.v (.int .i64 0)), .d (.v (.int .i64 0)), .d (.v (.int .i64 0)), .d (.v (.int .i64 0)), .d (.v (.int .i64 0)), .d (.v (.int .i64 0))]) tok rfl rfl hk) ?_
  refine rt_wk rfl w0 (bx_st (cs := _ :: _) tok rfl rfl rfl rfl rfl rfl rfl) ?_
  refine tpa ?_
  refine rt_nil ?_
  refine ⟨by kernel_rfl, ?_⟩
  refine then_n ?_
  refine aw_seq ?_
  obtain ⟨v9, h1, h0⟩ := bnd h0
  refine aw_cut ⟨updA (updA (updA (updA (updA (updA (updA (updA (updA ((fun _ => .dead)) 2 (.d (.v (.int .i64 p2)))) 3 (.ptr 3 0 1 0 0)) 4 (.ptr 4 0 1 0 0)) 8 (.ptr 5 0 1 0 0)) 9 (.d (.v (.int .i64 v4.2)))) 10 (.ptr 6 0 1 0 0)) 11 (.ptr 7 0 1 0 0)) 12 (.d (.v (.int .i64 v7.2)))) 50 (.d (.v (.bool v9))), lks [.no, .no, .no, .live [⟨32, 14, .av [[.d (.v (.string p0.Name)), .d (.sl (List.map cArbor_ p0.Works.Arbors)), .d (.sl (List.map cMesh_ p0.Works.Meshes)), .d (.v (.int .i64 p0.Minute)), .d (.v (.int .i64 p0.Hour)), .d (.v (.int .i64 p0.Escape)), .d (.v (.int .i64 p0.Teeth)), .d (.v (.int .i64 p0.Beats)), .d (.v (.string p0.Calendar.Name)), .d (.sl (List.map cMonth_ p0.Calendar.Months)), .d (.sl (List.map cLeapRule_ p0.Calendar.Rules)), .d (.v (.int .i64 p0.Calendar.Week)), .d (.sl (List.map cI p0.Cam)), .d (.v (.int .i64 p0.Strike))]]⟩], .live [⟨34, 3, .av [[.d (.v (.int .i64 p1.Year)), .d (.v (.int .i64 p1.Month)), .d (.v (.int .i64 p1.Day))]]⟩], .live [⟨56, 26, .av [[.d (.v (.string v4.1.Movement.Name)), .own 8 0 (v4.1.Movement.Works.Arbors).length, .own 9 0 (v4.1.Movement.Works.Meshes).length, .d (.v (.int .i64 v4.1.Movement.Minute)), .d (.v (.int .i64 v4.1.Movement.Hour)), .d (.v (.int .i64 v4.1.Movement.Escape)), .d (.v (.int .i64 v4.1.Movement.Teeth)), .d (.v (.int .i64 v4.1.Movement.Beats)), .d (.v (.string v4.1.Movement.Calendar.Name)), .own 10 0 (v4.1.Movement.Calendar.Months).length, .own 11 0 (v4.1.Movement.Calendar.Rules).length, .d (.v (.int .i64 v4.1.Movement.Calendar.Week)), .own 12 0 (v4.1.Movement.Cam).length, .d (.v (.int .i64 v4.1.Movement.Strike)), .d (.v (.int .i64 v4.1.Start.Year)), .d (.v (.int .i64 v4.1.Start.Month)), .d (.v (.int .i64 v4.1.Start.Day)), .d (.v (.int .i64 v4.1.First)), .d (.v (.int .i64 v4.1.Clock)), .own 13 0 (v4.1.Dial.Cam).length, .d (.v (.int .i64 v4.1.Dial.Months)), .d (.v (.int .i64 v4.1.Dial.Teeth)), .d (.v (.int .i64 v4.1.Dial.At)), .d (.v (.int .i64 v4.1.Dial.Day)), .d (.v (.int .i64 v4.1.Dial.Week)), .d (.v (.int .i64 v4.1.Dial.Weekday))]]⟩], .live [⟨52, 14, .av [[.d (.v (.string v5.Name)), .own 14 0 (v5.Works.Arbors).length, .own 15 0 (v5.Works.Meshes).length, .d (.v (.int .i64 v5.Minute)), .d (.v (.int .i64 v5.Hour)), .d (.v (.int .i64 v5.Escape)), .d (.v (.int .i64 v5.Teeth)), .d (.v (.int .i64 v5.Beats)), .d (.v (.string v5.Calendar.Name)), .own 16 0 (v5.Calendar.Months).length, .own 17 0 (v5.Calendar.Rules).length, .d (.v (.int .i64 v5.Calendar.Week)), .own 18 0 (v5.Cam).length, .d (.v (.int .i64 v5.Strike))]]⟩], .live [⟨56, 26, .av [[.d (.v (.string v7.1.Movement.Name)), .own 19 0 (v7.1.Movement.Works.Arbors).length, .own 20 0 (v7.1.Movement.Works.Meshes).length, .d (.v (.int .i64 v7.1.Movement.Minute)), .d (.v (.int .i64 v7.1.Movement.Hour)), .d (.v (.int .i64 v7.1.Movement.Escape)), .d (.v (.int .i64 v7.1.Movement.Teeth)), .d (.v (.int .i64 v7.1.Movement.Beats)), .d (.v (.string v7.1.Movement.Calendar.Name)), .own 21 0 (v7.1.Movement.Calendar.Months).length, .own 22 0 (v7.1.Movement.Calendar.Rules).length, .d (.v (.int .i64 v7.1.Movement.Calendar.Week)), .own 23 0 (v7.1.Movement.Cam).length, .d (.v (.int .i64 v7.1.Movement.Strike)), .d (.v (.int .i64 v7.1.Start.Year)), .d (.v (.int .i64 v7.1.Start.Month)), .d (.v (.int .i64 v7.1.Start.Day)), .d (.v (.int .i64 v7.1.First)), .d (.v (.int .i64 v7.1.Clock)), .own 24 0 (v7.1.Dial.Cam).length, .d (.v (.int .i64 v7.1.Dial.Months)), .d (.v (.int .i64 v7.1.Dial.Teeth)), .d (.v (.int .i64 v7.1.Dial.At)), .d (.v (.int .i64 v7.1.Dial.Day)), .d (.v (.int .i64 v7.1.Dial.Week)), .d (.v (.int .i64 v7.1.Dial.Weekday))]]⟩], .live [⟨204, 2, .av (nestL 25 cArbor_ v4.1.Movement.Works.Arbors)⟩], .live [⟨208, 4, .data (List.map cMesh_ v4.1.Movement.Works.Meshes)⟩], .live [⟨169, 3, .data (List.map cMonth_ v4.1.Movement.Calendar.Months)⟩], .live [⟨174, 3, .data (List.map cLeapRule_ v4.1.Movement.Calendar.Rules)⟩], .live [⟨2, 1, .data (List.map cI v4.1.Movement.Cam)⟩], .live [⟨2, 1, .data (List.map cI v4.1.Dial.Cam)⟩], .live [⟨204, 2, .av (nestL 26 cArbor_ v5.Works.Arbors)⟩], .live [⟨208, 4, .data (List.map cMesh_ v5.Works.Meshes)⟩], .live [⟨169, 3, .data (List.map cMonth_ v5.Calendar.Months)⟩], .live [⟨174, 3, .data (List.map cLeapRule_ v5.Calendar.Rules)⟩], .live [⟨2, 1, .data (List.map cI v5.Cam)⟩], .live [⟨204, 2, .av (nestL 27 cArbor_ v7.1.Movement.Works.Arbors)⟩], .live [⟨208, 4, .data (List.map cMesh_ v7.1.Movement.Works.Meshes)⟩], .live [⟨169, 3, .data (List.map cMonth_ v7.1.Movement.Calendar.Months)⟩], .live [⟨174, 3, .data (List.map cLeapRule_ v7.1.Movement.Calendar.Rules)⟩], .live [⟨2, 1, .data (List.map cI v7.1.Movement.Cam)⟩], .live [⟨2, 1, .data (List.map cI v7.1.Dial.Cam)⟩], .live (famL 2 1 cArbor_ v4.1.Movement.Works.Arbors), .live (famL 2 1 cArbor_ v5.Works.Arbors), .live (famL 2 1 cArbor_ v7.1.Movement.Works.Arbors)]⟩ ?_ ?_
  refine sr [0,1,2,3,4,5,6,7,8] ?_
  refine rl rfl w0 rfl (bx_ldN tok rfl rfl rfl rfl) ?_
  refine rl rfl w0 rfl (bx_ldN tok rfl rfl rfl rfl) ?_
  obtain ⟨v8, hv8, h1⟩ := bnd h1
  refine rs rfl w0 rfl (c_callV 34 (l_eqSim_c hv8) rfl rfl) ?_
  refine rp rfl w0 rfl (pu_not rfl) ?_
  refine pm ?_
  refine ra_ifB (u := 46) h1 rfl (fun hc h1 => ?_) (fun hc h1 => ?_)
  iterate 3 refine k1 ?_
  refine pkt ?_
  refine nx ?_
  cases h1
  exact wk [0, 1, 2, 3, 4, 5, 25, 26, 12, 14, 15, 16, 17, 18, 19, 21, 22, 23, 24, 27, 29, 30, 31, 32, 33, 13, 20, 28]
  refine pm1 ?_
  refine pm1 ?_
  refine rp rfl (w1 rfl rfl rfl) rfl (pu_neq rfl rfl) ?_
  refine pkf ?_
  refine nx ?_
  cases h1
  exact wk [0, 1, 2, 3, 4, 5, 25, 26, 12, 14, 15, 16, 17, 18, 19, 21, 22, 23, 24, 27, 29, 30, 31, 32, 33, 13, 20, 28]
  refine aw_ifB h0 rfl (fun hc h0 => ?_) (fun hc h0 => ?_)
  refine sq [0] ?_
  refine pa ?_
  refine nx ?_
  refine aw_ret ?_
  refine then_r ?_
  cases h0
  exact ret0_ (rs := [.tmp 6]) rfl
  refine sk ?_
  refine aw_seq ?_
  refine aw_seq ?_
  refine aw_region_draw (is := [0, 1, 2, 3, 4]) [0, 0, 2, 7, 15] follows (by kernel_rfl) ?_
  refine rt_lk rfl w0 rfl (bx_ldN tok rfl rfl rfl rfl) rfl rfl rfl ?_
  refine rt_lk rfl w0 rfl (bx_ldN tok rfl rfl rfl rfl) rfl rfl rfl ?_
  obtain ⟨v10, hv10, h0⟩ := bnd h0
  refine rt_c rfl w0 rfl (b_call 28 (l_toMovement_c hv10) rfl rfl rfl) ?_
  obtain ⟨v11, hv11, h0⟩ := bnd h0
  refine rt_c rfl w0 rfl (b_callV 34 (l_eqMovement_c hv11) rfl rfl) ?_
  refine rt_p rfl w0 rfl (pu_not rfl) ?_
  refine rt_nil ?_
  refine ⟨by kernel_rfl, ?_⟩
  refine then_n ?_
  refine aw_ifB h0 rfl (fun hc h0 => ?_) (fun hc h0 => ?_)
  refine sq [0] ?_
  refine pa ?_
  refine nx ?_
  refine aw_ret ?_
  refine then_r ?_
  cases h0
  exact ret0_ (rs := [.tmp 6]) rfl
  refine sk ?_
  refine sq [0] ?_
  refine pa ?_
  refine nx ?_
  refine sq [0,1,2,3] ?_
  refine rl rfl w0 rfl (bx_ldN tok rfl rfl rfl rfl) ?_
  refine pm ?_
  obtain ⟨v12, hv12, h0⟩ := bnd h0
  obtain ⟨hq13, h0⟩ := chk_e h0
  obtain ⟨hq14, h0⟩ := chk_e h0
  obtain ⟨hq15, h0⟩ := chk_e h0
  obtain ⟨hq16, h0⟩ := chk_e h0
  obtain ⟨hq17, h0⟩ := chk_e h0
  refine rw1 rfl w0 rfl (c_callP [14, 26, 15, 16, 17, 18] 300 (l_markMovement_o_c hv12) rfl rfl) ?_
  refine pa ?_
  refine nx ?_
  refine aw_seq ?_
  obtain ⟨v19, h1, h0⟩ := bnd h0
  refine aw_cut ⟨updA (updA (updA (updA (updA (updA (updA ((fun _ => .dead)) 2 (.d (.v (.int .i64 p2)))) 3 (.ptr 3 0 1 0 0)) 4 (.ptr 4 0 1 0 0)) 8 (.ptr 5 0 1 0 0)) 9 (.d (.v (.int .i64 v4.2)))) 11 (.ptr 6 0 1 0 0)) 71 (.d (.v (.bool v19))), lks [.no, .no, .no, .live [⟨32, 14, .av [[.d (.v (.string p0.Name)), .d (.sl (List.map cArbor_ p0.Works.Arbors)), .d (.sl (List.map cMesh_ p0.Works.Meshes)), .d (.v (.int .i64 p0.Minute)), .d (.v (.int .i64 p0.Hour)), .d (.v (.int .i64 p0.Escape)), .d (.v (.int .i64 p0.Teeth)), .d (.v (.int .i64 p0.Beats)), .d (.v (.string p0.Calendar.Name)), .d (.sl (List.map cMonth_ p0.Calendar.Months)), .d (.sl (List.map cLeapRule_ p0.Calendar.Rules)), .d (.v (.int .i64 p0.Calendar.Week)), .d (.sl (List.map cI p0.Cam)), .d (.v (.int .i64 p0.Strike))]]⟩], .live [⟨34, 3, .av [[.d (.v (.int .i64 p1.Year)), .d (.v (.int .i64 p1.Month)), .d (.v (.int .i64 p1.Day))]]⟩], .live [⟨56, 26, .av [[.d (.v (.string v4.1.Movement.Name)), .own 7 0 (v4.1.Movement.Works.Arbors).length, .own 8 0 (v4.1.Movement.Works.Meshes).length, .d (.v (.int .i64 v4.1.Movement.Minute)), .d (.v (.int .i64 v4.1.Movement.Hour)), .d (.v (.int .i64 v4.1.Movement.Escape)), .d (.v (.int .i64 v4.1.Movement.Teeth)), .d (.v (.int .i64 v4.1.Movement.Beats)), .d (.v (.string v4.1.Movement.Calendar.Name)), .own 9 0 (v4.1.Movement.Calendar.Months).length, .own 10 0 (v4.1.Movement.Calendar.Rules).length, .d (.v (.int .i64 v4.1.Movement.Calendar.Week)), .own 11 0 (v4.1.Movement.Cam).length, .d (.v (.int .i64 v4.1.Movement.Strike)), .d (.v (.int .i64 v4.1.Start.Year)), .d (.v (.int .i64 v4.1.Start.Month)), .d (.v (.int .i64 v4.1.Start.Day)), .d (.v (.int .i64 v4.1.First)), .d (.v (.int .i64 v4.1.Clock)), .own 12 0 (v4.1.Dial.Cam).length, .d (.v (.int .i64 v4.1.Dial.Months)), .d (.v (.int .i64 v4.1.Dial.Teeth)), .d (.v (.int .i64 v4.1.Dial.At)), .d (.v (.int .i64 v4.1.Dial.Day)), .d (.v (.int .i64 v4.1.Dial.Week)), .d (.v (.int .i64 v4.1.Dial.Weekday))]]⟩], .live [⟨56, 26, .av [[.d (.v (.string v7.1.Movement.Name)), .own 13 0 (v7.1.Movement.Works.Arbors).length, .own 14 0 (v7.1.Movement.Works.Meshes).length, .d (.v (.int .i64 v7.1.Movement.Minute)), .d (.v (.int .i64 v7.1.Movement.Hour)), .d (.v (.int .i64 v7.1.Movement.Escape)), .d (.v (.int .i64 v7.1.Movement.Teeth)), .d (.v (.int .i64 v7.1.Movement.Beats)), .d (.v (.string v7.1.Movement.Calendar.Name)), .own 15 0 (v7.1.Movement.Calendar.Months).length, .own 16 0 (v7.1.Movement.Calendar.Rules).length, .d (.v (.int .i64 v7.1.Movement.Calendar.Week)), .own 17 0 (v7.1.Movement.Cam).length, .d (.v (.int .i64 v7.1.Movement.Strike)), .d (.v (.int .i64 v7.1.Start.Year)), .d (.v (.int .i64 v7.1.Start.Month)), .d (.v (.int .i64 v7.1.Start.Day)), .d (.v (.int .i64 v7.1.First)), .d (.v (.int .i64 v7.1.Clock)), .own 18 0 (v7.1.Dial.Cam).length, .d (.v (.int .i64 v7.1.Dial.Months)), .d (.v (.int .i64 v7.1.Dial.Teeth)), .d (.v (.int .i64 v7.1.Dial.At)), .d (.v (.int .i64 v7.1.Dial.Day)), .d (.v (.int .i64 v7.1.Dial.Week)), .d (.v (.int .i64 v7.1.Dial.Weekday))]]⟩], .live [⟨204, 2, .av (nestL 19 cArbor_ v4.1.Movement.Works.Arbors)⟩], .live [⟨208, 4, .data (List.map cMesh_ v4.1.Movement.Works.Meshes)⟩], .live [⟨169, 3, .data (List.map cMonth_ v4.1.Movement.Calendar.Months)⟩], .live [⟨174, 3, .data (List.map cLeapRule_ v4.1.Movement.Calendar.Rules)⟩], .live [⟨2, 1, .data (List.map cI v4.1.Movement.Cam)⟩], .live [⟨2, 1, .data (List.map cI v4.1.Dial.Cam)⟩], .live [⟨204, 2, .av (nestL 20 cArbor_ v7.1.Movement.Works.Arbors)⟩], .live [⟨208, 4, .data (List.map cMesh_ v7.1.Movement.Works.Meshes)⟩], .live [⟨169, 3, .data (List.map cMonth_ v7.1.Movement.Calendar.Months)⟩], .live [⟨174, 3, .data (List.map cLeapRule_ v7.1.Movement.Calendar.Rules)⟩], .live [⟨2, 1, .data (List.map cI v7.1.Movement.Cam)⟩], .live [⟨2, 1, .data (List.map cI v7.1.Dial.Cam)⟩], .live (famL 2 1 cArbor_ v4.1.Movement.Works.Arbors), .live (famL 2 1 cArbor_ v7.1.Movement.Works.Arbors)]⟩ ?_ ?_
  refine sr [0,1,2,3,4,5,6,7,8,9,10,11,12] ?_
  refine pm ?_
  refine rp rfl w0 rfl (pu_lss rfl rfl) ?_
  refine pm ?_
  refine ra_if (u := 61) h1 rfl (fun hc h1 => ?_) (fun hc h1 => ?_)
  iterate 4 refine k1 ?_
  refine pkt ?_
  refine pm ?_
  iterate 3 refine k1 ?_
  refine pkt ?_
  refine nx ?_
  cases h1
  exact wk [0, 1, 2, 3, 4, 5, 7, 8, 9, 10, 11, 12, 13, 19, 20, 21, 22, 23, 24, 25, 27]
  refine rl rfl (w1 rfl rfl rfl) rfl (bx_ldN tok rfl rfl rfl rfl) ?_
  refine rl rfl (w1 rfl rfl rfl) rfl (bx_ldN tok rfl rfl rfl rfl) ?_
  obtain ⟨v18, hv18, h1⟩ := bnd h1
  refine rs rfl (w1 rfl rfl rfl) rfl (c_callV 34 (l_eqSim_c hv18) rfl rfl) ?_
  refine rp rfl (w1 rfl rfl rfl) rfl (pu_not rfl) ?_
  refine pkf ?_
  refine pm ?_
  refine ra_ifB (u := 67) h1 rfl (fun hc h1 => ?_) (fun hc h1 => ?_)
  iterate 3 refine k1 ?_
  refine pkt ?_
  refine nx ?_
  cases h1
  exact wk [0, 1, 2, 3, 4, 5, 7, 8, 9, 10, 11, 12, 13, 19, 20, 21, 22, 23, 24, 25, 27]
  refine pm1 ?_
  refine pm1 ?_
  refine rp rfl (w1 rfl rfl rfl) rfl (pu_neq rfl rfl) ?_
  refine pkf ?_
  refine nx ?_
  cases h1
  exact wk [0, 1, 2, 3, 4, 5, 7, 8, 9, 10, 11, 12, 13, 19, 20, 21, 22, 23, 24, 25, 27]
  refine aw_ifB h0 rfl (fun hc h0 => ?_) (fun hc h0 => ?_)
  refine sq [0] ?_
  refine pa ?_
  refine nx ?_
  refine aw_ret ?_
  refine then_r ?_
  cases h0
  exact ret0_ (rs := [.tmp 6]) rfl
  refine sk ?_
  refine sq [0] ?_
  refine pa ?_
  refine nx ?_
  refine sq [0,1,2,3] ?_
  refine rl rfl w0 rfl (bx_ldN tok rfl rfl rfl rfl) ?_
  refine pm ?_
  obtain ⟨v20, hv20, h0⟩ := bnd h0
  obtain ⟨hq21, h0⟩ := chk_e h0
  obtain ⟨hq22, h0⟩ := chk_e h0
  obtain ⟨hq23, h0⟩ := chk_e h0
  obtain ⟨hq24, h0⟩ := chk_e h0
  obtain ⟨hq25, h0⟩ := chk_e h0
  obtain ⟨hq26, h0⟩ := chk_e h0
  refine rw1 rfl w0 rfl (c_callP [13, 20, 14, 15, 16, 17, 18] 300 (l_markSim_o_c hv20) rfl rfl) ?_
  refine pa ?_
  refine nx ?_
  refine sq [0] ?_
  refine pa ?_
  refine nx ?_
  refine sq [0,1,2,3] ?_
  refine rl rfl w0 rfl (bx_ldN tok rfl rfl rfl rfl) ?_
  refine pm ?_
  obtain ⟨v27, hv27, h0⟩ := bnd h0
  refine rs rfl w0 rfl (c_callV 21 (l_heldSim_c hv27) rfl rfl) ?_
  refine pa ?_
  refine nx ?_
  refine aw_seq ?_
  refine sq [0,1] ?_
  refine pm ?_
  refine rp rfl w0 rfl (pu_lss rfl rfl) ?_
  refine nx ?_
  refine aw_if h0 rfl (fun hc h0 => ?_) (fun hc h0 => ?_)
  refine sq [0] ?_
  refine pa ?_
  refine nx ?_
  refine aw_ret ?_
  refine then_r ?_
  cases h0
  exact ret0_ (rs := [.tmp 6]) rfl
  refine sk ?_
  refine aw_seq ?_
  refine sq [0,1,2] ?_
  refine pm ?_
  refine pm ?_
  refine rp rfl w0 rfl (pu_neq rfl rfl) ?_
  refine nx ?_
  refine aw_if h0 rfl (fun hc h0 => ?_) (fun hc h0 => ?_)
  refine sq [0] ?_
  refine pa ?_
  refine nx ?_
  refine aw_ret ?_
  refine then_r ?_
  cases h0
  exact ret0_ (rs := [.tmp 6]) rfl
  refine sk ?_
  refine aw_seq ?_
  refine aw_region_draw (is := [0, 2, 4, 1, 3, 5, 6, 7, 8, 9, 10, 11]) [0, 1, 0, 7, 0, 31, 63, 127, 127, 0, 767, 2047] follows (by kernel_rfl) ?_
  refine rt_lk rfl w0 rfl (bx_ldN tok rfl rfl rfl rfl) rfl rfl rfl ?_
  refine rt_lk rfl w0 rfl (bx_ldN tok rfl rfl rfl rfl) rfl rfl rfl ?_
  refine tpm ?_
  obtain ⟨v28, hv28, h0⟩ := bnd h0
  refine rt_c rfl w0 rfl (b_call 22 (l_toMovement_c hv28) rfl rfl rfl) ?_
  obtain ⟨v29, hv29, h0⟩ := bnd h0
  refine rt_c rfl w0 rfl (b_call 28 (l_toDate_c hv29) rfl rfl rfl) ?_
  obtain ⟨v30, hv30, h0⟩ := bnd h0
  refine rt_c rfl w0 rfl (b_callV 28 (i_NewSim_c hv30) rfl rfl) ?_
  refine rt_p rfl w0 rfl (pu_move (r := .tup _) rfl) ?_
  refine rt_p rfl w0 rfl (pu_extract rfl rfl) ?_
  refine rt_p rfl w0 rfl (pu_extract rfl rfl) ?_
  refine rt_a rfl w0 rfl rfl (fun hx hk => st_alloc 21 (cs := [.d (.v (.string (⟨#[]⟩ : ByteArray))), .d (.v (.slice none 0 0)), .d (.v (.slice none 0 0)), .d (.v (.int .i64 0)), .d (.v (.int .i64 0)), .d (.v (.int .i64 0)), .d (.v (.int .i64 0)), .d (.v (.int .i64 0)), .d (.v (.string (⟨#[]⟩ : ByteArray))), .d (.v (.slice none 0 0)), .d (.v (.slice none 0 0)), .d (.v (.int .i64 0)), .d (.v (.slice none 0 0)), .d (.v (.int .i64 0)), .d (.v (.int .i64 0)), .d (.v (.int .i64 0)), .d (.v (.int .i64 0)), .d (.v (.int .i64 0)), .d (.v (.int .i64 0)), .d (.v (.slice none 0 0)), .d (.v (.int .i64 0)), .d (.v (.int .i64 0)), .d (.v (.int .i64 0)), .d (.v (.int .i64 0)), .d (.v (.int .i64 0)), .d (.v (.int .i64 0))]) tok rfl rfl hk) ?_
  refine rt_wk rfl w0 (bx_st (cs := _ :: _) tok rfl rfl rfl rfl rfl rfl rfl) ?_
  refine tpa ?_
  refine rt_nil ?_
  refine ⟨by kernel_rfl, ?_⟩
  refine then_n ?_
  refine aw_seq ?_
  obtain ⟨v32, h1, h0⟩ := bnd h0
  refine aw_cut ⟨updA (updA (updA ((fun _ => .dead)) 11 (.ptr 3 0 1 0 0)) 14 (.d (.v (.int .i64 v20.1)))) 100 (.d (.v (.bool v32))), lks [.no, .no, .no, .live [⟨56, 26, .av [[.d (.v (.string v7.1.Movement.Name)), .own 4 0 (v20.2.1).length, .own 5 0 (v20.2.2.1).length, .d (.v (.int .i64 v7.1.Movement.Minute)), .d (.v (.int .i64 v7.1.Movement.Hour)), .d (.v (.int .i64 v7.1.Movement.Escape)), .d (.v (.int .i64 v7.1.Movement.Teeth)), .d (.v (.int .i64 v7.1.Movement.Beats)), .d (.v (.string v7.1.Movement.Calendar.Name)), .own 6 0 (v20.2.2.2.1).length, .own 7 0 (v20.2.2.2.2.1).length, .d (.v (.int .i64 v7.1.Movement.Calendar.Week)), .own 8 0 (v20.2.2.2.2.2.1).length, .d (.v (.int .i64 v7.1.Movement.Strike)), .d (.v (.int .i64 v7.1.Start.Year)), .d (.v (.int .i64 v7.1.Start.Month)), .d (.v (.int .i64 v7.1.Start.Day)), .d (.v (.int .i64 v7.1.First)), .d (.v (.int .i64 v7.1.Clock)), .own 9 0 (v20.2.2.2.2.2.2).length, .d (.v (.int .i64 v7.1.Dial.Months)), .d (.v (.int .i64 v7.1.Dial.Teeth)), .d (.v (.int .i64 v7.1.Dial.At)), .d (.v (.int .i64 v7.1.Dial.Day)), .d (.v (.int .i64 v7.1.Dial.Week)), .d (.v (.int .i64 v7.1.Dial.Weekday))]]⟩], .live [⟨204, 2, .av (nestL 10 cArbor_ v20.2.1)⟩], .live [⟨208, 4, .data (List.map cMesh_ v20.2.2.1)⟩], .live [⟨169, 3, .data (List.map cMonth_ v20.2.2.2.1)⟩], .live [⟨174, 3, .data (List.map cLeapRule_ v20.2.2.2.2.1)⟩], .live [⟨2, 1, .data (List.map cI v20.2.2.2.2.2.1)⟩], .live [⟨2, 1, .data (List.map cI v20.2.2.2.2.2.2)⟩], .live (famL 2 1 cArbor_ v20.2.1)]⟩ ?_ ?_
  refine sr [0,1,2,3,4,5,6,7,8] ?_
  refine rl rfl w0 rfl (bx_ldN tok rfl rfl rfl rfl) ?_
  refine rl rfl w0 rfl (bx_ldN tok rfl rfl rfl rfl) ?_
  obtain ⟨v31, hv31, h1⟩ := bnd h1
  refine rs rfl w0 rfl (c_callV 35 (l_eqSim_c hv31) rfl rfl) ?_
  refine rp rfl w0 rfl (pu_not rfl) ?_
  refine pm ?_
  refine ra_ifB (u := 96) h1 rfl (fun hc h1 => ?_) (fun hc h1 => ?_)
  iterate 3 refine k1 ?_
  refine pkt ?_
  refine nx ?_
  cases h1
  exact wk [0, 1, 2, 6, 13, 14, 15, 16, 17, 18, 20]
  refine pm1 ?_
  refine pm1 ?_
  refine rp rfl (w1 rfl rfl rfl) rfl (pu_neq rfl rfl) ?_
  refine pkf ?_
  refine nx ?_
  cases h1
  exact wk [0, 1, 2, 6, 13, 14, 15, 16, 17, 18, 20]
  refine aw_ifB h0 rfl (fun hc h0 => ?_) (fun hc h0 => ?_)
  refine sq [0] ?_
  refine pa ?_
  refine nx ?_
  refine aw_ret ?_
  refine then_r ?_
  cases h0
  exact ret0_ (rs := [.tmp 6]) rfl
  refine sk ?_
  refine sq [0] ?_
  refine pa ?_
  refine nx ?_
  refine sq [0,1,2,3] ?_
  refine rl rfl w0 rfl (bx_ldN tok rfl rfl rfl rfl) ?_
  refine pm ?_
  obtain ⟨v33, hv33, h0⟩ := bnd h0
  refine rs rfl w0 rfl (c_callV 11 (l_heldSim_c hv33) rfl rfl) ?_
  refine pa ?_
  refine nx ?_
  refine aw_seq ?_
  refine sq [0,1] ?_
  refine pm ?_
  refine rp rfl w0 rfl (pu_lss rfl rfl) ?_
  refine nx ?_
  refine aw_if h0 rfl (fun hc h0 => ?_) (fun hc h0 => ?_)
  refine sq [0] ?_
  refine pa ?_
  refine nx ?_
  refine aw_ret ?_
  refine then_r ?_
  cases h0
  exact ret0_ (rs := [.tmp 6]) rfl
  refine sk ?_
  refine aw_seq ?_
  refine sq [0,1,2] ?_
  refine pm ?_
  refine pm ?_
  refine rp rfl w0 rfl (pu_neq rfl rfl) ?_
  refine nx ?_
  refine aw_if h0 rfl (fun hc h0 => ?_) (fun hc h0 => ?_)
  refine sq [0] ?_
  refine pa ?_
  refine nx ?_
  refine aw_ret ?_
  refine then_r ?_
  cases h0
  exact ret0_ (rs := [.tmp 6]) rfl
  refine sk ?_
  refine sq [0] ?_
  refine pa ?_
  refine nx ?_
  refine aw_ret ?_
  cases h0
  exact ret0_ (rs := [.tmp 6]) rfl

end Go.Proofs.YtjhadibjjldpdabGreat
namespace Go.Proofs.YtjhadibjjldpdabGreat
set_option linter.unusedVariables false
theorem atI_some {α : Type} {xs : List α} {i : Int} (h0 : 0 ≤ i) (h1 : i < xs.length) : ∃ e, atI xs i = some e ∧ e ∈ xs ∧ xs[i.toNat]? = some e := by
  have hl : i.toNat < xs.length := by omega
  refine ⟨xs[i.toNat], ?_, List.getElem_mem hl, List.getElem?_eq_getElem hl⟩
  unfold atI; rw [if_pos h0]; exact List.getElem?_eq_getElem hl
theorem atI_set {α : Type} {xs : List α} {i : Int} {x : α} (h0 : 0 ≤ i) (h1 : i < xs.length) : atI (List.set xs i.toNat x) i = some x := by
  unfold atI; rw [if_pos h0]; exact List.getElem?_set_self (by omega)
theorem chk_true {α : Type} {k : Option α} : chk True k = k := if_pos trivial
theorem w64_inc {i : Int} {n : Nat} (h0 : 0 ≤ i) (h1 : i < n) (hn : n ≤ 9223372036854775807) : w64 (i + 1) = i + 1 := w64_in (by omega) (by omega)
theorem take_set {α : Type} {xs ys : List α} {k : Nat} {e : α} (h : xs[k]? = some e) (hl : ys.length = xs.length) (hy : ys.take k = xs.take k) : (ys.set k e).take (k + 1) = xs.take (k + 1) := by
  have hk : k < xs.length := (List.getElem?_eq_some_iff.1 h).1
  rw [List.take_add_one, List.take_add_one, h, List.getElem?_set_self (by omega), List.take_set_of_le (Nat.le_refl _), hy]
theorem eqS_refl {α : Type} {f : α → α → Option Bool} {xs : List α} (hl : xs.length ≤ 9223372036854775807) (h : ∀ v ∈ xs, f v v = some true) :
    loopM (S := Int) (X := Unit ⊕ Bool) (fun s => (if s < (xs.length : Int) then ((atI xs s).bind fun v => ((atI xs s).bind fun u => ((f v u).bind fun b => (if (!b) = true then some (.inr (.inr false)) else some (.inl (w64 (s + 1))))))) else some (.inr (.inl ())))) 0 = some (.inl ()) := by
  refine loopM_eq (fun (s : Int) => 0 ≤ s ∧ s ≤ xs.length) (fun (s : Int) => ((xs.length : Int) - s).toNat) (fun s hI => ?_) (by omega) (by omega)
  by_cases hs : s < xs.length
  · obtain ⟨e, he, hm, _⟩ := atI_some hI.1 hs
    left
    refine ⟨s + 1, ?_, by omega, by omega⟩
    simp [hs, he, h e hm, w64_inc hI.1 hs hl]
  · right; simp [hs]
theorem eqS_refl' {α : Type} [DecidableEq α] {xs : List α} (hl : xs.length ≤ 9223372036854775807) :
    loopM (S := Int) (X := Unit ⊕ Bool) (fun s => (if s < (xs.length : Int) then ((atI xs s).bind fun v => ((atI xs s).bind fun u => (if v ≠ u then some (.inr (.inr false)) else some (.inl (w64 (s + 1)))))) else some (.inr (.inl ())))) 0 = some (.inl ()) := by
  refine loopM_eq (fun (s : Int) => 0 ≤ s ∧ s ≤ xs.length) (fun (s : Int) => ((xs.length : Int) - s).toNat) (fun s hI => ?_) (by omega) (by omega)
  by_cases hs : s < xs.length
  · obtain ⟨e, he, hm, _⟩ := atI_some hI.1 hs
    left
    refine ⟨s + 1, ?_, by omega, by omega⟩
    simp [hs, he, w64_inc hI.1 hs hl]
  · right; simp [hs]
theorem toS_id {α : Type} {f : α → Option α} {xs : List α} {z : α} (hl : xs.length ≤ 9223372036854775807) (h : ∀ v ∈ xs, f v = some v) :
    loopM (S := Int × List α) (X := List α) (fun s => (if s.1 < (xs.length : Int) then ((atI xs s.1).bind fun v => ((f v).bind fun u => ((atI s.2 s.1).bind fun _ => some (.inl (w64 (s.1 + 1), List.set s.2 (s.1).toNat u))))) else some (.inr s.2))) (0, List.replicate ((xs.length : Int)).toNat z) = some xs := by
  refine loopM_eq (fun (s : Int × List α) => 0 ≤ s.1 ∧ s.1 ≤ xs.length ∧ s.2.length = xs.length ∧ s.2.take s.1.toNat = xs.take s.1.toNat) (fun (s : Int × List α) => ((xs.length : Int) - s.1).toNat) (fun s hI => ?_) (by simp) (by simp; omega)
  obtain ⟨i, ys⟩ := s
  obtain ⟨h0, h1, h2, h3⟩ := hI
  dsimp only at h0 h1 h2 h3 ⊢
  by_cases hs : i < xs.length
  · obtain ⟨e, he, hm, hg⟩ := atI_some h0 hs
    obtain ⟨e2, he2, _, _⟩ := atI_some (xs := ys) h0 (by omega)
    left
    refine ⟨(i + 1, ys.set i.toNat e), ?_, ⟨by omega, by omega, by simpa using h2, ?_⟩, by dsimp only; omega⟩
    · simp [hs, he, he2, h e hm, w64_inc h0 hs hl]
    · have : (i + 1).toNat = i.toNat + 1 := by omega
      dsimp only
      rw [this]
      exact take_set hg h2 h3
  · right
    have hi : i.toNat = xs.length := by omega
    rw [hi, List.take_length, List.take_of_length_le (by omega)] at h3
    simp [hs, h3]
theorem toS_id' {α : Type} {xs : List α} {z : α} (hl : xs.length ≤ 9223372036854775807) :
    loopM (S := Int × List α) (X := List α) (fun s => (if s.1 < (xs.length : Int) then ((atI xs s.1).bind fun v => ((atI s.2 s.1).bind fun _ => some (.inl (w64 (s.1 + 1), List.set s.2 (s.1).toNat v)))) else some (.inr s.2))) (0, List.replicate ((xs.length : Int)).toNat z) = some xs := by
  have := toS_id (f := fun x => some x) (z := z) hl (fun v _ => rfl)
  simpa using this
theorem szS_ok {α : Type} {f : α → Int → Option Int} {sm : α → Prop} {xs : List α} (hl : xs.length ≤ 9223372036854775807) (h : ∀ v ∈ xs, ∀ l, 0 ≤ l → l ≤ 1048576 → ∃ r, f v l = some r ∧ r ≤ l ∧ (0 ≤ r → sm v)) (l0 : Int) (h0 : 0 ≤ l0) (h1 : l0 ≤ 1048576) :
    ∃ x, loopM (S := Int × Int) (X := Int ⊕ Int) (fun s => (if s.2 < (xs.length : Int) then ((atI xs s.2).bind fun v => ((f v s.1).bind fun u => (if u < 0 then some (.inr (.inr (-1))) else some (.inl (u, w64 (s.2 + 1)))))) else some (.inr (.inl s.1)))) (l0, 0) = some x ∧ (x = .inr (-1) ∨ ∃ r, x = .inl r ∧ 0 ≤ r ∧ r ≤ l0 ∧ ∀ v ∈ xs, sm v) := by
  refine loopM_of (fun (s : Int × Int) => 0 ≤ s.2 ∧ s.2 ≤ xs.length ∧ 0 ≤ s.1 ∧ s.1 ≤ l0 ∧ ∀ v ∈ xs.take s.2.toNat, sm v) (fun (s : Int × Int) => ((xs.length : Int) - s.2).toNat) _ (fun s hI => ?_) _ (by simp; omega) (by simp; omega)
  obtain ⟨l, i⟩ := s
  obtain ⟨q0, q1, q2, q3, q4⟩ := hI
  dsimp only at q0 q1 q2 q3 q4 ⊢
  by_cases hs : i < xs.length
  · obtain ⟨e, he, hm, hg⟩ := atI_some q0 hs
    obtain ⟨r, hr, hrl, hsm⟩ := h e hm l q2 (by omega)
    by_cases hneg : r < 0
    · right
      exact ⟨.inr (-1), by simp [hs, he, hr, hneg], .inl rfl⟩
    · left
      refine ⟨(r, i + 1), by simp [hs, he, hr, hneg, w64_inc q0 hs hl], ⟨by omega, by omega, by omega, by omega, fun v hv => ?_⟩, by dsimp only; omega⟩
      have : (i + 1).toNat = i.toNat + 1 := by omega
      dsimp only at hv
      rw [this, List.take_add_one, hg] at hv
      simp only [Option.toList_some, List.mem_append, List.mem_singleton] at hv
      rcases hv with hv | rfl
      · exact q4 v hv
      · exact hsm (by omega)
  · right
    have hi : i.toNat = xs.length := by omega
    rw [hi, List.take_length] at q4
    exact ⟨.inl l, by simp [hs], .inr ⟨l, rfl, q2, q3, q4⟩⟩
theorem markS_ok {α : Type} {c : Int} {B : Int} {M : Int → α} {step : Int × Int × List α → Option ((Int × Int × List α) ⊕ (Int × List α))} (hc : 0 ≤ c)
    (hM : ∀ k i ys, 0 ≤ k → k ≤ B → 0 ≤ i → i < ys.length → ys.length ≤ 1048576 → step (k, i, ys) = some (.inl (k + c, i + 1, List.set ys i.toNat (M k)))) (hE : ∀ k i ys, ¬ i < ys.length → step (k, i, ys) = some (.inr (k, ys)))
    {xs : List α} {k0 : Int} (h0 : 0 ≤ k0) (hl : xs.length ≤ 1048576) (hB : k0 + c * xs.length ≤ B) : loopM step (k0, 0, xs) = some (k0 + c * xs.length, (List.range xs.length).map fun (j : Nat) => M (k0 + c * (j : Int))) := by
  refine loopM_eq (fun (s : Int × Int × List α) => 0 ≤ s.2.1 ∧ s.2.1 ≤ xs.length ∧ s.1 = k0 + c * s.2.1 ∧ s.2.2 = ((List.range s.2.1.toNat).map fun (j : Nat) => M (k0 + c * (j : Int))) ++ xs.drop s.2.1.toNat) (fun (s : Int × Int × List α) => ((xs.length : Int) - s.2.1).toNat) (fun s hI => ?_) (by simp) (by simp; omega)
  obtain ⟨k, i, ys⟩ := s
  obtain ⟨q0, q1, q2, q3⟩ := hI
  dsimp only at q0 q1 q2 q3 ⊢
  have hyl : ys.length = xs.length := by rw [q3]; simp; omega
  by_cases hs : i < xs.length
  · left
    have hci : 0 ≤ c * i := Int.mul_nonneg hc q0
    have hcl : c * i ≤ c * xs.length := Int.mul_le_mul_of_nonneg_left (by omega) hc
    refine ⟨_, hM k i ys (by omega) (by omega) q0 (by omega) (by omega), ⟨by dsimp only; omega, by dsimp only; omega, ?_, ?_⟩, by dsimp only; omega⟩
    · dsimp only
      rw [q2, Int.mul_add]; omega
    · have e1 : (i + 1).toNat = i.toNat + 1 := by omega
      dsimp only
      rw [e1, q3, List.set_append_right _ _ (by simp), List.range_succ, List.map_append, List.length_map, List.length_range, Nat.sub_self, List.drop_eq_getElem_cons (show i.toNat < xs.length by omega), List.set_cons_zero]
      have e2 : ((i.toNat : Nat) : Int) = i := by omega
      simp [q2, e2]
  · right
    have hi : i = xs.length := by omega
    rw [hE k i ys (by omega), q3, q2, hi]
    simp
theorem heldS_ok {α : Type} {c : Int} {B : Int} {M : Int → α} {n : Nat} {step : Int × Int → Option ((Int × Int) ⊕ (Int ⊕ Int))} (hc : 0 ≤ c)
    {k0 : Int} (hM : ∀ k i : Int, 0 ≤ k → k ≤ B → 0 ≤ i → i < n → k = k0 + c * i → step (k, i) = some (.inl (k + c, i + 1))) (hE : ∀ k i, ¬ i < (n : Int) → step (k, i) = some (.inr (.inl k)))
    (h0 : 0 ≤ k0) (hl : n ≤ 1048576) (hB : k0 + c * n ≤ B) : loopM step (k0, 0) = some (.inl (k0 + c * n)) := by
  refine loopM_eq (fun (s : Int × Int) => 0 ≤ s.2 ∧ s.2 ≤ n ∧ s.1 = k0 + c * s.2) (fun (s : Int × Int) => ((n : Int) - s.2).toNat) (fun s hI => ?_) (by simp) (by simp; omega)
  obtain ⟨k, i⟩ := s
  obtain ⟨q0, q1, q2⟩ := hI
  dsimp only at q0 q1 q2 ⊢
  by_cases hs : i < n
  · left
    have hci : 0 ≤ c * i := Int.mul_nonneg hc q0
    have hcl : c * i ≤ c * n := Int.mul_le_mul_of_nonneg_left (by omega) hc
    refine ⟨_, hM k i (by omega) (by omega) q0 hs q2, ⟨by dsimp only; omega, by dsimp only; omega, by dsimp only; rw [q2, Int.mul_add]; omega⟩, by dsimp only; omega⟩
  · right
    have hi : i = n := by omega
    rw [hE k i (by omega), q2, hi]
theorem marked_get {α : Type} {M : Int → α} {k0 c : Int} {n : Nat} {i : Int} (h0 : 0 ≤ i) (h1 : i < n) : atI ((List.range n).map fun (j : Nat) => M (k0 + c * (j : Int))) i = some (M (k0 + c * i)) := by
  unfold atI
  rw [if_pos h0, List.getElem?_map, List.getElem?_range (by omega)]
  have : ((i.toNat : Nat) : Int) = i := by omega
  simp [this]
theorem find_ok {X : Type} {n : Nat} {g : Nat → Bool} {d : X} {e : Nat → X} {step : Int → Option (Int ⊕ X)} (hS : ∀ i : Nat, i < n → step (i : Int) = some (if g i = true then .inl ((i : Int) + 1) else .inr (e i))) (hE : step (n : Int) = some (.inr d)) (hn : n ≤ 9223372036854775807) :
    ∃ x, loopM step 0 = some x ∧ (((∀ j, j < n → g j = true) ∧ x = d) ∨ ∃ i, i < n ∧ g i = false ∧ (∀ j, j < i → g j = true) ∧ x = e i) := by
  refine loopM_of (fun (s : Int) => 0 ≤ s ∧ s ≤ n ∧ ∀ j : Nat, (j : Int) < s → g j = true) (fun (s : Int) => ((n : Int) - s).toNat) _ (fun s hI => ?_) 0 ⟨by omega, by omega, fun j hj => by omega⟩ (by omega)
  obtain ⟨q0, q1, q2⟩ := hI
  obtain ⟨i, rfl⟩ : ∃ i : Nat, s = i := ⟨s.toNat, by omega⟩
  by_cases hs : i < n
  · cases hg : g i
    · right
      exact ⟨e i, by rw [hS i hs, hg]; rfl, .inr ⟨i, hs, hg, fun j hj => q2 j (by omega), rfl⟩⟩
    · left
      refine ⟨(i : Int) + 1, by rw [hS i hs, hg]; rfl, ⟨by omega, by omega, fun j hj => ?_⟩, by omega⟩
      rcases Nat.lt_or_ge j i with h | h
      · exact q2 j (by omega)
      · have : j = i := by omega
        rw [this]; exact hg
  · right
    have : i = n := by omega
    subst this
    exact ⟨d, hE, .inl ⟨fun j hj => q2 j (by omega), rfl⟩⟩
theorem scan_ok {X : Type} {n : Nat} {g : Nat → Bool} {d e : X} {step : Int → Option (Int ⊕ X)} (hS : ∀ i : Nat, i < n → step (i : Int) = some (if g i = true then .inl ((i : Int) + 1) else .inr e)) (hE : step (n : Int) = some (.inr d)) (hn : n ≤ 9223372036854775807) :
    loopM step 0 = some (if (List.range n).all g = true then d else e) := by
  obtain ⟨x, hx, ⟨h, rfl⟩ | ⟨i, hi, hg, _, rfl⟩⟩ := find_ok (e := fun _ => e) hS hE hn
  · rw [hx, if_pos (by simpa using h)]
  · rw [hx, if_neg (by simp only [List.all_eq_true, List.mem_range]; intro h; rw [h i hi] at hg; cases hg)]
theorem atI_lt {α : Type} {xs : List α} {i : Nat} (h : i < xs.length) : atI xs (i : Int) = some xs[i] := by rw [atI_nat]; exact List.getElem?_eq_getElem h
theorem all_range {α : Type} {xs : List α} {f : α → Bool} {g : Nat → Bool} (h : ∀ (i : Nat) (hi : i < xs.length), g i = f xs[i]) : (List.range xs.length).all g = xs.all f := by
  rw [Bool.eq_iff_iff, List.all_eq_true, List.all_eq_true]
  constructor
  · intro q v hv
    obtain ⟨i, hi, rfl⟩ := List.getElem_of_mem hv
    rw [← h i hi]; exact q i (List.mem_range.2 hi)
  · intro q i hi
    have hi := List.mem_range.1 hi
    rw [h i hi]; exact q _ (List.getElem_mem hi)
theorem scanL_ok {α X : Type} {xs : List α} {f : α → Bool} {d e : X} {step : Int → Option (Int ⊕ X)} (hS : ∀ (i : Nat) (hi : i < xs.length), step (i : Int) = some (if f xs[i] = true then .inl ((i : Int) + 1) else .inr e)) (hE : step (xs.length : Int) = some (.inr d)) (hn : xs.length ≤ 9223372036854775807) :
    loopM step 0 = some (if xs.all f = true then d else e) := by
  rw [scan_ok (n := xs.length) (d := d) (e := e) (g := fun i => if hi : i < xs.length then f xs[i] else true) (fun i hi => by rw [hS i hi]; simp [hi]) hE hn, all_range (f := f) fun i hi => by simp [hi]]
theorem buildF_ok {α β : Type} {xs : List α} {f : α → List β} {c : Nat} {init : List β} {step : Int × List β → Option ((Int × List β) ⊕ List β)} (hc : ∀ v ∈ xs, (f v).length ≤ c) (hS : ∀ (i : Nat) (hi : i < xs.length) ys, ys.length ≤ init.length + c * i → step ((i : Int), ys) = some (.inl ((i : Int) + 1, ys ++ f xs[i]))) (hE : ∀ ys, step ((xs.length : Int), ys) = some (.inr ys)) (hn : xs.length ≤ 9223372036854775807) :
    loopM step (0, init) = some (init ++ xs.flatMap f) := by
  refine loopM_eq (fun (s : Int × List β) => 0 ≤ s.1 ∧ s.1 ≤ xs.length ∧ s.2 = init ++ (xs.take s.1.toNat).flatMap f ∧ s.2.length ≤ init.length + c * s.1.toNat) (fun (s : Int × List β) => ((xs.length : Int) - s.1).toNat) (fun s hI => ?_) (by simp) (by simp; omega)
  obtain ⟨i, ys⟩ := s
  obtain ⟨q0, q1, q2, q3⟩ := hI
  dsimp only at q0 q1 q2 q3 ⊢
  obtain ⟨j, rfl⟩ : ∃ j : Nat, i = j := ⟨i.toNat, by omega⟩
  have e2 : ((j : Int)).toNat = j := by omega
  rw [e2] at q2 q3
  by_cases hs : j < xs.length
  · left
    have e : ((j : Int) + 1).toNat = j + 1 := by omega
    refine ⟨_, hS j hs ys q3, ⟨by dsimp only; omega, by dsimp only; omega, ?_, ?_⟩, by dsimp only; omega⟩
    · dsimp only
      rw [e, q2, List.take_succ_eq_append_getElem hs, List.flatMap_append, ← List.append_assoc]; simp
    · dsimp only
      rw [e, List.length_append, Nat.mul_add]
      have := hc xs[j] (List.getElem_mem hs)
      omega
  · right
    have : j = xs.length := by omega
    subst this
    rw [hE ys, q2, List.take_length]
end Go.Proofs.YtjhadibjjldpdabGreat
namespace Go.Proofs.YtjhadibjjldpdabGreat
set_option linter.unusedVariables false
def btw (x a b : Int) : Bool := decide (a ≤ x ∧ x ≤ b)
theorem i_within_eq (x a b : Int) : i_within_m x a b = some (btw x a b) := by unfold i_within_m btw; split <;> simp_all <;> omega
theorem s_l00In_eq (x a b : Int) : s_l00In_m x a b = some (btw x a b) := by unfold s_l00In_m btw; split <;> simp_all <;> omega
structure SinOk (r k n : Int) : Prop where
  p0 : 0 ≤ 2 * k * (n - 2 * k)
  p1 : 2 * k * (n - 2 * k) ≤ 64000000
  r0 : 0 ≤ r * 16 * (2 * k * (n - 2 * k))
  r1 : r * 16 * (2 * k * (n - 2 * k)) ≤ 102400000000000
  n0 : 1 ≤ 5 * n * n - 4 * (2 * k * (n - 2 * k))
  n1 : 5 * n * n ≤ 1280000000
end Go.Proofs.YtjhadibjjldpdabGreat
namespace Go.Proofs.YtjhadibjjldpdabGreat
set_option linter.unusedVariables false
theorem u64_eq (x : Int) : IntKind.u64.wrap x = x % 18446744073709551616 := by
  unfold IntKind.wrap
  simp [IntKind.signed, IntKind.bits]
theorem u64_in {x : Int} (h0 : 0 ≤ x) (h1 : x < 18446744073709551616) : IntKind.u64.wrap x = x := by rw [u64_eq]; omega
theorem u64_neg {x : Int} (h0 : -18446744073709551616 < x) (h1 : x < 0) : IntKind.u64.wrap (-(IntKind.u64.wrap x)) = -x := by rw [u64_eq, u64_eq]; omega
def absI (x : Int) : Int := (x.natAbs : Int)
theorem absI_nn (x : Int) : 0 ≤ absI x := by unfold absI; omega
theorem s_l02Part_eq {x : Int} (h : osI x) : s_l02Part_m x = some (absI x) := by
  obtain ⟨h0, h1⟩ := h
  unfold s_l02Part_m absI
  split
  · rw [u64_neg (by omega) (by omega)]; congr 1; omega
  · rw [u64_in (by omega) (by omega)]; congr 1; omega
theorem i_magnitude_eq {x : Int} (h : osI x) : i_magnitude_m x = some (absI x) := by
  obtain ⟨h0, h1⟩ := h
  unfold i_magnitude_m absI
  split
  · rw [u64_neg (by omega) (by omega)]; congr 1; omega
  · rw [u64_in (by omega) (by omega)]; congr 1; omega
theorem gcd_step {a b : Int} : Int.gcd b (a.tmod b) = Int.gcd a b := by
  unfold Int.gcd
  rw [Int.natAbs_tmod, Nat.gcd_comm a.natAbs b.natAbs, Nat.gcd_comm, ← Nat.gcd_rec]
theorem gcd_loop {step : Int × Int → Option ((Int × Int) ⊕ Int)} (hS : ∀ a b, b ≠ 0 → step (a, b) = some (.inl (b, a.tmod b))) (hE : ∀ a, step (a, 0) = some (.inr a)) (a b : Int) (hb : b.natAbs ≤ 9223372036854775808) :
    ∃ g, loopM step (a, b) = some g ∧ g.natAbs = Int.gcd a b ∧ (g = a ∨ g.natAbs ≤ b.natAbs) := by
  refine loopM_of (fun (s : Int × Int) => Int.gcd s.1 s.2 = Int.gcd a b ∧ s.2.natAbs ≤ b.natAbs ∧ (s.1 = a ∨ s.1.natAbs ≤ b.natAbs)) (fun (s : Int × Int) => s.2.natAbs) (fun g => g.natAbs = Int.gcd a b ∧ (g = a ∨ g.natAbs ≤ b.natAbs)) (fun s hI => ?_) (a, b) ⟨rfl, Nat.le_refl _, .inl rfl⟩ (by dsimp only; omega)
  obtain ⟨x, y⟩ := s
  obtain ⟨h1, h2, h3⟩ := hI
  dsimp only at h1 h2 h3 ⊢
  by_cases hy : y = 0
  · right
    subst hy
    exact ⟨x, hE x, by rw [← h1]; simp, h3⟩
  · left
    have hlt : (x.tmod y).natAbs < y.natAbs := by rw [Int.natAbs_tmod]; exact Nat.mod_lt _ (by omega)
    exact ⟨_, hS x y hy, ⟨by rw [gcd_step]; exact h1, by dsimp only; omega, .inr h2⟩, hlt⟩
theorem gcd_loopP {step : Int × Int → Option ((Int × Int) ⊕ Int)} (hS : ∀ a b, 0 ≤ a → 0 < b → step (a, b) = some (.inl (b, a.tmod b))) (hE : ∀ a, step (a, 0) = some (.inr a)) {a b : Int} (ha : 0 ≤ a) (hb0 : 0 ≤ b) (hb : b ≤ 18446744073709551616) :
    loopM step (a, b) = some (Int.gcd a b : Int) := by
  obtain ⟨g, h, h1, h2⟩ := loopM_of (step := step) (fun (s : Int × Int) => Int.gcd s.1 s.2 = Int.gcd a b ∧ 0 ≤ s.1 ∧ 0 ≤ s.2) (fun (s : Int × Int) => s.2.natAbs) (fun g => g.natAbs = Int.gcd a b ∧ 0 ≤ g) (fun s hI => by
    obtain ⟨x, y⟩ := s
    obtain ⟨h1, h2, h3⟩ := hI
    dsimp only at h1 h2 h3 ⊢
    by_cases hy : y = 0
    · right
      subst hy
      exact ⟨x, hE x, by rw [← h1]; simp, h2⟩
    · left
      have hlt : (x.tmod y).natAbs < y.natAbs := by rw [Int.natAbs_tmod]; exact Nat.mod_lt _ (by omega)
      exact ⟨_, hS x y h2 (by omega), ⟨by rw [gcd_step]; exact h1, h3, Int.tmod_nonneg _ h2⟩, hlt⟩) (a, b) ⟨rfl, ha, hb0⟩ (by dsimp only; omega)
  rw [h]; congr 1; omega
theorem gcd_pos {n d : Int} (h : d ≠ 0) : 0 < Int.gcd n d := Int.gcd_pos_of_ne_zero_right n h
theorem abs_gcd (n d : Int) : Int.gcd (absI n) (absI d) = Int.gcd n d := by unfold absI Int.gcd; simp
theorem quo_bd {a g : Int} (ha : 0 ≤ a) (hg : 0 < g) : 0 ≤ a / g ∧ a / g ≤ a := ⟨Int.ediv_nonneg ha (by omega), Int.ediv_le_self _ ha⟩
def mkR (n d : Int) : Ratio_ × Bool :=
  if 1000000000 < absI n / (Int.gcd n d : Int) ∨ 1000000000 < absI d / (Int.gcd n d : Int) then (⟨0, 0⟩, false)
  else (⟨if (decide (n < 0) != decide (d < 0)) = true then -(absI n / (Int.gcd n d : Int)) else absI n / (Int.gcd n d : Int), absI d / (Int.gcd n d : Int)⟩, true)
theorem make_tail {n d : Int} (hn : osI n) (hd : osI d) (h : d ≠ 0) {f : Int → Option (Ratio_ × Bool)} (hf : ∀ g, f g = (chk (g ≠ 0) (chk (g ≠ 0) ((((if 1000000000 < (IntKind.u64.wrap ((absI n).tdiv g)) then some true else some (decide (1000000000 < (IntKind.u64.wrap ((absI d).tdiv g))))) : Option Bool).bind fun v10 => (if v10 = true then some ((⟨0, 0⟩ : Ratio_), false) else (((if ((decide (n < 0)) != (decide (d < 0))) = true then some (⟨w64 (-(w64 (IntKind.u64.wrap ((absI n).tdiv g)))), w64 (IntKind.u64.wrap ((absI d).tdiv g))⟩ : Ratio_) else some (⟨w64 (IntKind.u64.wrap ((absI n).tdiv g)), w64 (IntKind.u64.wrap ((absI d).tdiv g))⟩ : Ratio_)) : Option Ratio_).bind fun v11 => some (v11, true)))))))) :
    f (Int.gcd n d : Int) = some (mkR n d) := by
  have hg := gcd_pos (n := n) h
  have a0 := absI_nn n
  have b0 := absI_nn d
  have a1 : absI n ≤ 9223372036854775808 := by unfold absI; obtain ⟨_, _⟩ := hn; omega
  have b1 : absI d ≤ 9223372036854775808 := by unfold absI; obtain ⟨_, _⟩ := hd; omega
  have qa := quo_bd (a := absI n) (g := (Int.gcd n d : Int)) a0 (by omega)
  have qb := quo_bd (a := absI d) (g := (Int.gcd n d : Int)) b0 (by omega)
  rw [hf, chk_t (by omega), chk_t (by omega), Int.tdiv_eq_ediv_of_nonneg a0, Int.tdiv_eq_ediv_of_nonneg b0]
  unfold mkR
  generalize absI n / (Int.gcd n d : Int) = a at *
  generalize absI d / (Int.gcd n d : Int) = b at *
  rw [u64_in qa.1 (by omega), u64_in qb.1 (by omega)]
  by_cases c1 : 1000000000 < a
  · simp [c1]
  · by_cases c2 : 1000000000 < b
    · simp [c1, c2]
    · rw [w64_in (x := a) (by omega) (by omega), w64_in (x := b) (by omega) (by omega), w64_in (x := -a) (by omega) (by omega)]
      simp only [if_neg c1, decide_eq_false c2, Option.bind_some, Bool.false_eq_true, if_false, c1, c2, or_self]
      cases (decide (n < 0) != decide (d < 0)) <;> simp
theorem s_l02Make_eq {n d : Int} (hn : osI n) (hd : osI d) (h : d ≠ 0) : s_l02Make_m n d = some (mkR n d) := by
  unfold s_l02Make_m
  have b1 : absI d ≤ 9223372036854775808 := by unfold absI; obtain ⟨_, _⟩ := hd; omega
  rw [s_l02Part_eq hn, Option.bind_some, s_l02Part_eq hd, Option.bind_some, gcd_loopP (fun a b h0 h1 => by simp only; rw [if_pos h1, chk_t (by omega)]) (fun a => by simp) (absI_nn n) (absI_nn d) (by omega), abs_gcd, Option.bind_some]
  exact make_tail hn hd h fun g => rfl
theorem i_reduced_eq {n d : Int} (hn : osI n) (hd : osI d) (h : d ≠ 0) : i_reduced_m n d = some (mkR n d) := by
  unfold i_reduced_m
  have b1 : absI d ≤ 9223372036854775808 := by unfold absI; obtain ⟨_, _⟩ := hd; omega
  rw [i_magnitude_eq hn, Option.bind_some, i_magnitude_eq hd, Option.bind_some, gcd_loopP (fun a b h0 h1 => by simp only; rw [if_pos (by omega), chk_t (by omega)]) (fun a => by simp) (absI_nn n) (absI_nn d) (by omega), abs_gcd, Option.bind_some]
  exact make_tail hn hd h fun g => rfl
def codeR (x : Ratio_ × Bool) : Ratio_ × Int := if x.2 = true then (x.1, 0) else (⟨0, 0⟩, 2)
def makeR (n d : Int) : Ratio_ × Int := if d = 0 then (⟨0, 0⟩, 6) else codeR (mkR n d)
theorem i_MakeRatio_eq {n d : Int} (hn : osI n) (hd : osI d) : i_MakeRatio_m n d = some (makeR n d) := by
  unfold i_MakeRatio_m makeR codeR
  by_cases h : d = 0
  · rw [if_pos h, if_pos h]
  · rw [if_neg h, if_neg h, i_reduced_eq hn hd h, Option.bind_some]
    cases (mkR n d).2 <;> simp
theorem i_gcd_eq {a b : Int} (ha : osI a) (ha' : -9223372036854775808 < a) (hb : osI b) (hb' : -9223372036854775808 < b) : i_gcd_m a b = some (Int.gcd a b : Int) := by
  unfold i_gcd_m
  obtain ⟨a0, a1⟩ := ha
  obtain ⟨b0, b1⟩ := hb
  obtain ⟨g, h, h1, h2⟩ := gcd_loop (step := fun s3 => (if s3.2 ≠ 0 then (chk (s3.2 ≠ 0) (some (.inl (s3.2, s3.1.tmod s3.2)))) else some (.inr s3.1))) (fun a b h => by simp only; rw [if_pos h, chk_t h]) (fun a => by simp) a b (by omega)
  rw [h, Option.bind_some]
  split
  · rw [w64_in (by omega) (by omega)]; congr 1; omega
  · congr 1; omega
theorem s_l02Gcd_eq {a b : Int} (ha : 0 ≤ a) (hb : 0 ≤ b) (hb1 : b ≤ 18446744073709551616) : s_l02Gcd_m a b = some (Int.gcd a b : Int) := by
  unfold s_l02Gcd_m
  rw [gcd_loopP (fun a b h0 h1 => by simp only; rw [if_pos (by omega), chk_t (by omega)]) (fun a => by simp) ha hb hb1]; rfl
theorem s_l02Size_eq {a : Int} (h : -9223372036854775808 < a) (h1 : a ≤ 9223372036854775807) : s_l02Size_m a = some (absI a) := by
  unfold s_l02Size_m absI
  split
  · rw [w64_in (by omega) (by omega)]; congr 1; omega
  · congr 1; omega
theorem i_abs_eq {a : Int} (h : -9223372036854775808 < a) (h1 : a ≤ 9223372036854775807) : i_abs_m a = some (absI a) := by
  unfold i_abs_m absI
  split
  · rw [w64_in (by omega) (by omega)]; congr 1; omega
  · congr 1; omega
def ratB (r : Ratio_) : Bool := btw r.Den 1 1000000000 && (btw r.Num (-1000000000) 1000000000 && decide (Int.gcd r.Num r.Den = 1))
theorem ratB_iff {r : Ratio_} : ratB r = true ↔ (1 ≤ r.Den ∧ r.Den ≤ 1000000000) ∧ (-1000000000 ≤ r.Num ∧ r.Num ≤ 1000000000) ∧ Int.gcd r.Num r.Den = 1 := by
  unfold ratB btw
  simp only [Bool.and_eq_true, decide_eq_true_eq]
theorem i_ValidRatio_eq (r : Ratio_) : i_ValidRatio_m r = some (ratB r) := by
  unfold i_ValidRatio_m ratB
  simp only [i_within_eq, Option.bind_some]
  by_cases h1 : btw r.Den 1 1000000000 = true
  · by_cases h2 : btw r.Num (-1000000000) 1000000000 = true
    · have g1 := of_decide_eq_true h1
      have g2 := of_decide_eq_true h2
      rw [if_pos h1, if_pos h2, i_gcd_eq ⟨by omega, by omega⟩ (by omega) ⟨by omega, by omega⟩ (by omega), h1, h2]
      simp only [Option.bind_some, Bool.true_and]
      congr 1
      rw [decide_eq_decide]
      omega
    · simp [h1, h2]
  · simp [h1]
end Go.Proofs.YtjhadibjjldpdabGreat
namespace Go.Proofs.YtjhadibjjldpdabGreat
set_option linter.unusedVariables false
def smB (c : Int) : Bool := decide (97 ≤ c ∧ c ≤ 122)
def dgB (c : Int) : Bool := decide (48 ≤ c ∧ c ≤ 57)
def okB (c : Int) : Bool := smB c || (dgB c || decide (c = 45))
theorem strAt_bytes (s : ByteArray) (i : Int) : strAt s i = atI (bytesL s) i := by
  unfold strAt atI bytesL
  split
  · rename_i h
    rw [List.getElem?_map]
    congr 1
    rw [Array.getElem?_toList]
    by_cases hi : i.toNat < s.size
    · rw [getElem?_pos s i.toNat hi, getElem?_pos s.data i.toNat hi]; rfl
    · rw [getElem?_neg s i.toNat hi, getElem?_neg s.data i.toNat hi]
  · rfl
def nameB (s : ByteArray) : Bool := decide (1 ≤ s.size ∧ s.size ≤ 12) && ((bytesL s).take 1).all smB && (bytesL s).all okB
theorem s_l01Small_eq (c : Int) : s_l01Small_m c = some (smB c) := by unfold s_l01Small_m smB; split <;> simp_all <;> omega
theorem s_l01Digit_eq (c : Int) : s_l01Digit_m c = some (dgB c) := by unfold s_l01Digit_m dgB; split <;> simp_all <;> omega
theorem str0 {s : ByteArray} : s = ⟨#[]⟩ ↔ s.size = 0 := by
  constructor
  · rintro rfl; rfl
  · intro h
    cases s with | mk d =>
    have : d = #[] := Array.eq_empty_of_size_eq_zero h
    rw [this]
theorem s_IsName_eq (s : ByteArray) : s_IsName_m s = some (nameB s) := by
  have hl := bytesL_len s
  unfold s_IsName_m nameB
  by_cases h0 : s = ⟨#[]⟩
  · have := str0.1 h0
    simp [h0]
    intro h; exact absurd h (by decide)
  · have h1 : s.size ≠ 0 := fun h => h0 (str0.2 h)
    rw [if_neg h0]
    by_cases h2 : 12 < (s.size : Int)
    · rw [if_pos h2]
      simp
      intro a b; omega
    · rw [if_neg h2]
      obtain ⟨c, cs, hc⟩ : ∃ c cs, bytesL s = c :: cs := by
        cases hb : bytesL s with
        | nil => rw [hb] at hl; simp at hl; omega
        | cons c cs => exact ⟨c, cs, rfl⟩
      have e0 : strAt s 0 = some c := by rw [strAt_bytes, hc]; rfl
      rw [e0]
      simp only [Option.bind_some, s_l01Small_eq]
      have ht : ((bytesL s).take 1).all smB = smB c := by rw [hc]; simp
      have hd : decide (1 ≤ s.size ∧ s.size ≤ 12) = true := decide_eq_true ⟨by omega, by omega⟩
      rw [ht, hd]
      cases hs : smB c
      · simp
      · simp only [Bool.not_true, Bool.false_eq_true, if_false, Bool.true_and]
        have hz : (s.size : Int) = ((bytesL s).length : Int) := by rw [hl]
        rw [hz, scanL_ok (xs := bytesL s) (f := okB) (d := .inl ()) (e := .inr false) (fun i hi => ?_) (by simp) (by omega)]
        · cases (bytesL s).all okB <;> simp [orE]
        · have hi' : (i : Int) < ((bytesL s).length : Int) := by omega
          have e1 : w64 ((i : Int) + 1) = i + 1 := w64_in (by omega) (by omega)
          rw [if_pos hi', strAt_bytes, atI_lt hi]
          simp only [Option.bind_some, s_l01Small_eq, s_l01Digit_eq, e1, okB]
          generalize (bytesL s)[i] = c
          rcases Bool.eq_false_or_eq_true (smB c) with g1 | g1 <;> rcases Bool.eq_false_or_eq_true (dgB c) with g2 | g2 <;> by_cases h45 : c = 45 <;> simp [g1, g2, h45]
theorem i_IsName_eq (s : ByteArray) : i_IsName_m s = some (nameB s) := by
  have hl := bytesL_len s
  unfold i_IsName_m nameB
  by_cases h1 : (s.size : Int) < 1
  · rw [if_pos h1]; simp
    intro a b; omega
  · rw [if_neg h1]
    by_cases h2 : 12 < (s.size : Int)
    · simp [h2]
      intro a b; omega
    · have hd : decide (1 ≤ s.size ∧ s.size ≤ 12) = true := decide_eq_true ⟨by omega, by omega⟩
      simp only [h2, decide_false, Option.bind_some, Bool.false_eq_true, if_false, hd, Bool.true_and]
      rw [chk_t (by omega), scan_ok (n := (bytesL s).length) (d := .inl ()) (e := .inr false) (g := fun i => smB ((bytesL s).getD i 0) || (decide (i ≠ 0) && (dgB ((bytesL s).getD i 0) || decide ((bytesL s).getD i 0 = 45)))) (fun i hi => ?_) (by simp) (by omega)]
      · obtain ⟨c, cs, hc⟩ : ∃ c cs, bytesL s = c :: cs := by
          cases hb : bytesL s with
          | nil => rw [hb] at hl; simp at hl; omega
          | cons c cs => exact ⟨c, cs, rfl⟩
        have key : (List.range (bytesL s).length).all (fun i => smB ((bytesL s).getD i 0) || (decide (i ≠ 0) && (dgB ((bytesL s).getD i 0) || decide ((bytesL s).getD i 0 = 45)))) = (((bytesL s).take 1).all smB && (bytesL s).all okB) := by
          rw [hc]
          simp only [List.length_cons, List.range_succ_eq_map, List.all_cons, List.all_map, List.take_succ_cons, List.take_zero, List.all_nil, Bool.and_true]
          have : (List.range cs.length).all ((fun i => smB ((c :: cs).getD i 0) || (decide (i ≠ 0) && (dgB ((c :: cs).getD i 0) || decide ((c :: cs).getD i 0 = 45)))) ∘ Nat.succ) = cs.all okB := all_range (f := okB) fun i hi => by simp [okB, hi]
          rw [this]
          simp [okB]
          cases smB c <;> simp
        rw [key]
        cases ((bytesL s).take 1).all smB && (bytesL s).all okB <;> simp [orE]
      · have hi' : (i : Int) < ((bytesL s).length : Int) := by omega
        have e1 : w64 ((i : Int) + 1) = i + 1 := w64_in (by omega) (by omega)
        have e2 : (bytesL s).getD i 0 = (bytesL s)[i] := by simp [hi]
        rw [if_pos hi', atI_lt hi, e2]
        simp only [Option.bind_some, e1]
        generalize (bytesL s)[i] = c
        have A : (if 97 ≤ c then some (decide (c ≤ 122)) else some false) = some (smB c) := by unfold smB; split <;> simp_all <;> omega
        have B : (if 48 ≤ c then (if c ≤ 57 then some true else some (decide (c = 45))) else some (decide (c = 45))) = some (dgB c || decide (c = 45)) := by
          unfold dgB
          split
          · split <;> simp_all <;> omega
          · simp_all; omega
        rw [A, B]
        simp only [Option.bind_some]
        have hz : ((i : Int) = 0) ↔ i = 0 := by omega
        cases smB c <;> cases (dgB c || decide (c = 45)) <;> by_cases h0 : i = 0 <;> simp [h0]
end Go.Proofs.YtjhadibjjldpdabGreat
namespace Go.Proofs.YtjhadibjjldpdabGreat
set_option linter.unusedVariables false
def allI {α : Type} (xs : List α) (f : Nat → α → Bool) : Bool := (List.range xs.length).all fun i => if hi : i < xs.length then f i xs[i] else true
theorem allI_iff {α : Type} {xs : List α} {f : Nat → α → Bool} : allI xs f = true ↔ ∀ (i : Nat) (hi : i < xs.length), f i xs[i] = true := by
  unfold allI
  rw [List.all_eq_true]
  constructor
  · intro h i hi
    have := h i (List.mem_range.2 hi)
    rwa [dif_pos hi] at this
  · intro h i hi
    have hi := List.mem_range.1 hi
    rw [dif_pos hi]
    exact h i hi
theorem allI_all {α : Type} {xs : List α} {f : α → Bool} : allI xs (fun _ v => f v) = xs.all f := all_range fun i hi => by simp [hi]
theorem scanG {α X : Type} {xs : List α} {G : Int → Option (Int ⊕ X)} (f : Nat → α → Bool) {d e : X} (hl : xs.length ≤ 9223372036854775807) (hG : ∀ (i : Nat) (hi : i < xs.length), G i = some (if f i xs[i] = true then .inl (w64 ((i : Int) + 1)) else .inr e)) :
    loopM (fun s => (if s < (xs.length : Int) then G s else some (.inr d))) 0 = some (if allI xs f = true then d else e) := by
  refine scan_ok (n := xs.length) (g := fun i => if hi : i < xs.length then f i xs[i] else true) (fun i hi => ?_) (by simp) hl
  have hi' : (i : Int) < xs.length := by omega
  have e1 : w64 ((i : Int) + 1) = i + 1 := w64_in (by omega) (by omega)
  simp only [if_pos hi', hG i hi, hi, dite_true, e1]
theorem scanT {α X : Type} {xs : List α} {G : Int → Option (Int ⊕ X)} (k : Nat) (f : Nat → α → Bool) {d e : X} (hk : k ≤ xs.length) (hl : xs.length ≤ 9223372036854775807) (hG : ∀ (i : Nat) (hi : i < xs.length), i < k → G i = some (if f i xs[i] = true then .inl (w64 ((i : Int) + 1)) else .inr e)) :
    loopM (fun s => (if s < (k : Int) then G s else some (.inr d))) 0 = some (if allI (xs.take k) f = true then d else e) := by
  have hlen : (xs.take k).length = k := by rw [List.length_take]; omega
  have := scanG (xs := xs.take k) (G := G) f (d := d) (e := e) (by omega) (fun i hi => by
    rw [List.getElem_take]; exact hG i (by omega) (by omega))
  rwa [hlen] at this
def posOf {α : Type} (xs : List α) (p : α → Bool) : Int := match xs.findIdx? p with
  | some i => i
  | none => -1
theorem findG {α : Type} {xs : List α} {G : Int → Option (Int ⊕ (Unit ⊕ Int))} (p : α → Bool) (hl : xs.length ≤ 9223372036854775807) (hG : ∀ (i : Nat) (hi : i < xs.length), G i = (if p xs[i] = true then some (.inr (.inr (i : Int))) else some (.inl (w64 ((i : Int) + 1))))) :
    ((loopM (fun s => (if s < (xs.length : Int) then G s else some (.inr (.inl ())))) 0 : Option (Unit ⊕ Int)).bind fun x => orE x fun v => some (-1)) = some (posOf xs p) := by
  obtain ⟨x, hx, h⟩ := find_ok (X := Unit ⊕ Int) (n := xs.length) (step := fun s => (if s < (xs.length : Int) then G s else some (.inr (.inl ())))) (g := fun i => if hi : i < xs.length then !p xs[i] else true) (d := .inl ()) (e := fun i => .inr (i : Int)) (fun i hi => by
    have hi' : (i : Int) < xs.length := by omega
    have e1 : w64 ((i : Int) + 1) = i + 1 := w64_in (by omega) (by omega)
    simp only [if_pos hi', hG i hi, hi, dite_true, e1]
    cases p xs[i] <;> rfl) (by simp) hl
  rw [hx]
  unfold posOf
  rcases h with ⟨h, rfl⟩ | ⟨i, hi, hg, hj, rfl⟩
  · have : xs.findIdx? p = none := by
      rw [List.findIdx?_eq_none_iff]
      intro v hv
      obtain ⟨i, hi, rfl⟩ := List.getElem_of_mem hv
      have := h i hi
      simpa [hi] using this
    rw [this]; rfl
  · have : xs.findIdx? p = some i := by
      rw [List.findIdx?_eq_some_iff_getElem]
      refine ⟨hi, by simpa [hi] using hg, fun j hji => ?_⟩
      have := hj j hji
      have hjl : j < xs.length := by omega
      simpa [hjl] using this
    rw [this]; rfl
theorem posOf_nn {α : Type} {xs : List α} {p : α → Bool} : decide (0 ≤ posOf xs p) = xs.any p := by
  unfold posOf
  cases h : xs.findIdx? p with
  | none =>
    rw [List.findIdx?_eq_none_iff] at h
    have e : xs.any p = false := by
      rw [← Bool.not_eq_true, List.any_eq_true]
      rintro ⟨v, hv, hp⟩
      rw [h v hv] at hp; cases hp
    rw [e]; rfl
  | some i =>
    rw [List.findIdx?_eq_some_iff_getElem] at h
    obtain ⟨hi, hp, _⟩ := h
    rw [List.any_eq_true.2 ⟨_, List.getElem_mem hi, hp⟩]
    exact decide_eq_true (by show (0 : Int) ≤ (i : Int); omega)
theorem posOf_here {α : Type} {xs : List α} {p : α → Bool} {i : Nat} (hi : i < xs.length) (hp : p xs[i] = true) : decide (posOf xs p ≠ (i : Int)) = (xs.take i).any p := by
  unfold posOf
  cases h : xs.findIdx? p with
  | none =>
    rw [List.findIdx?_eq_none_iff] at h
    rw [h _ (List.getElem_mem hi)] at hp; cases hp
  | some j =>
    rw [List.findIdx?_eq_some_iff_getElem] at h
    obtain ⟨hj, hpj, hmin⟩ := h
    by_cases e : j = i
    · subst e
      have e2 : (xs.take j).any p = false := by
        rw [← Bool.not_eq_true, List.any_eq_true]
        rintro ⟨v, hv, hq⟩
        obtain ⟨k, hk, rfl⟩ := List.getElem_of_mem hv
        rw [List.length_take] at hk
        rw [List.getElem_take] at hq
        exact hmin k (by omega) hq
      rw [e2]
      exact decide_eq_false (by simp)
    · have hlt : j < i := by
        rcases Nat.lt_trichotomy j i with h | h | h
        · exact h
        · exact absurd h e
        · exact absurd hp (hmin i h)
      have e2 : (xs.take i).any p = true := List.any_eq_true.2 ⟨xs[j], by
        rw [List.mem_iff_getElem]
        exact ⟨j, by rw [List.length_take]; omega, by rw [List.getElem_take]⟩, hpj⟩
      rw [e2]
      exact decide_eq_true (by show (j : Int) ≠ (i : Int); omega)
theorem subL0 {α : Type} {xs : List α} {i : Nat} : subL xs 0 (i : Int) = xs.take i := by simp [subL]
theorem subL_ok {α : Type} {xs : List α} {i : Nat} (h : i ≤ xs.length) : 0 ≤ (0 : Int) ∧ (0 : Int) ≤ (i : Int) ∧ (i : Int) ≤ (xs.length : Int) := by omega
def forL {α σ X : Type} (body : Nat → α → σ → Option (σ ⊕ X)) : List α → Nat → σ → Option (σ ⊕ X)
  | [], _, s => some (.inl s)
  | x :: xs, i, s => (body i x s).bind fun r => match r with
    | .inl s' => forL body xs (i + 1) s'
    | .inr y => some (.inr y)
theorem loopN_succ {S X : Type} (step : S → Option (S ⊕ X)) (n : Nat) (s : S) : loopN step (n + 1) s = (step s).bind fun r => match r with
    | .inl s' => loopN step n s'
    | .inr y => some y := by
  cases h : step s with
  | none => simp [loopN, h]
  | some r => cases r <;> simp [loopN, h]
theorem loop_for {α S σ X : Type} {xs : List α} {step : S → Option (S ⊕ X)} (mk : Int → σ → S) (body : Nat → α → σ → Option (σ ⊕ X)) (fin : σ → X) (hl : xs.length ≤ 9223372036854775807)
    (hS : ∀ (i : Nat) (hi : i < xs.length) s, step (mk i s) = (body i xs[i] s).map (Sum.map (mk ((i : Int) + 1)) id)) (hE : ∀ s, step (mk xs.length s) = some (.inr (fin s))) (s0 : σ) :
    loopM step (mk 0 s0) = (forL body xs 0 s0).map (Sum.elim fin id) := by
  have key : ∀ (k : Nat) (ys : List α) (n : Nat) s, ys.length + k = xs.length → ys = xs.drop k → ys.length < n → loopN step n (mk (k : Int) s) = (forL body ys k s).map (Sum.elim fin id) := by
    intro k ys
    induction ys generalizing k with
    | nil =>
      intro n s h1 h2 h3
      obtain ⟨n, rfl⟩ : ∃ m, n = m + 1 := ⟨n - 1, by simp at h3; omega⟩
      have : k = xs.length := by simpa using h1
      subst this
      rw [loopN_succ, hE]; rfl
    | cons y ys ih =>
      intro n s h1 h2 h3
      obtain ⟨n, rfl⟩ : ∃ m, n = m + 1 := ⟨n - 1, by simp at h3; omega⟩
      have hk : k < xs.length := by simp at h1; omega
      rw [List.drop_eq_getElem_cons hk] at h2
      injection h2 with h2 h4
      rw [loopN_succ, hS k hk, ← h2]
      show _ = ((body k y s).bind _).map _
      cases body k y s with
      | none => rfl
      | some r =>
        cases r with
        | inr z => rfl
        | inl s' => exact ih (k + 1) n s' (by simp at h1; omega) h4 (by simp at h3; omega)
  exact key 0 xs fuel s0 (by simp) (by simp) (by unfold fuel; omega)
theorem loop_forI {α S σ X : Type} {xs : List α} {step : S → Option (S ⊕ X)} (mk : Int → σ → S) (body : Nat → α → σ → Option (σ ⊕ X)) (fin : σ → X) (I : σ → Prop) (hl : xs.length ≤ 9223372036854775807)
    (hS : ∀ (i : Nat) (hi : i < xs.length) s, I s → step (mk i s) = (body i xs[i] s).map (Sum.map (mk ((i : Int) + 1)) id)) (hI : ∀ (i : Nat) (hi : i < xs.length) s s', I s → body i xs[i] s = some (.inl s') → I s') (hE : ∀ s, I s → step (mk xs.length s) = some (.inr (fin s))) (s0 : σ) (h0 : I s0) :
    loopM step (mk 0 s0) = (forL body xs 0 s0).map (Sum.elim fin id) := by
  have key : ∀ (k : Nat) (ys : List α) (n : Nat) s, I s → ys.length + k = xs.length → ys = xs.drop k → ys.length < n → loopN step n (mk (k : Int) s) = (forL body ys k s).map (Sum.elim fin id) := by
    intro k ys
    induction ys generalizing k with
    | nil =>
      intro n s hs h1 h2 h3
      obtain ⟨n, rfl⟩ : ∃ m, n = m + 1 := ⟨n - 1, by simp at h3; omega⟩
      have : k = xs.length := by simpa using h1
      subst this
      rw [loopN_succ, hE s hs]; rfl
    | cons y ys ih =>
      intro n s hs h1 h2 h3
      obtain ⟨n, rfl⟩ : ∃ m, n = m + 1 := ⟨n - 1, by simp at h3; omega⟩
      have hk : k < xs.length := by simp at h1; omega
      rw [List.drop_eq_getElem_cons hk] at h2
      injection h2 with h2 h4
      rw [loopN_succ, hS k hk s hs, ← h2]
      show _ = ((body k y s).bind _).map _
      cases hb : body k y s with
      | none => rfl
      | some r =>
        cases r with
        | inr z => rfl
        | inl s' => exact ih (k + 1) n s' (hI k hk s s' hs (by rw [← h2]; exact hb)) (by simp at h1; omega) h4 (by simp at h3; omega)
  exact key 0 xs fuel s0 h0 (by simp) (by simp) (by unfold fuel; omega)
theorem forL_fold {α σ X : Type} {body : Nat → α → σ → Option (σ ⊕ X)} (f : σ → α → σ) (h : ∀ i x s, body i x s = some (.inl (f s x))) : ∀ (xs : List α) (k : Nat) (s : σ), forL body xs k s = some (.inl (xs.foldl f s))
  | [], k, s => rfl
  | x :: xs, k, s => by
    show (body k x s).bind _ = _
    rw [h]
    exact forL_fold f h xs (k + 1) (f s x)
theorem itA {a b : Bool} : (if a = true then some b else some false) = some (a && b) := by cases a <;> rfl
theorem itO {a b : Bool} : (if a = true then some true else some b) = some (a || b) := by cases a <;> rfl
theorem itF {a b : Bool} : (if a = true then some false else some b) = some (!a && b) := by cases a <;> rfl
theorem itAp {p : Prop} [Decidable p] {b : Bool} : (if p then some b else some false) = some (decide p && b) := by by_cases h : p <;> simp [h]
theorem itOp {p : Prop} [Decidable p] {b : Bool} : (if p then some true else some b) = some (decide p || b) := by by_cases h : p <;> simp [h]
theorem scan_and {a b : Bool} {k : Option Bool} (h : k = some b) : (orE (if a = true then (.inl () : Unit ⊕ Bool) else .inr false) fun _ => k) = some (a && b) := by cases a <;> simp [orE, h]
end Go.Proofs.YtjhadibjjldpdabGreat
namespace Go.Proofs.YtjhadibjjldpdabGreat
set_option linter.unusedVariables false
def toothB (t : Int) : Bool := btw t 6 240
theorem i_toothed_eq (t : Int) : i_toothed_m t = some (toothB t) := by unfold i_toothed_m; rw [i_within_eq]; rfl
theorem s_l05Teeth_eq (t : Int) : s_l05Teeth_m t = some (toothB t) := by unfold s_l05Teeth_m; rw [s_l00In_eq]; rfl
def arbB (a : Arbor_) : Bool := a.Wheels.all toothB && (nameB a.Name && decide (a.Wheels.length ≤ 5))
theorem i_validArbor_eq {a : Arbor_} (hl : a.Wheels.length ≤ 9223372036854775807) : i_validArbor_m a = some (arbB a) := by
  unfold i_validArbor_m arbB
  rw [scanG (fun _ v => toothB v) hl fun i hi => by rw [atI_lt hi, Option.bind_some, i_toothed_eq, Option.bind_some]; cases toothB a.Wheels[i] <;> rfl, allI_all, Option.bind_some, i_IsName_eq]
  cases a.Wheels.all toothB <;> cases nameB a.Name <;> simp [orE]; omega
theorem s_l08Arbor_eq {a : Arbor_} (hl : a.Wheels.length ≤ 9223372036854775807) : s_l08Arbor_m a = some (arbB a) := by
  unfold s_l08Arbor_m arbB
  rw [scanG (fun _ v => toothB v) hl fun i hi => by rw [atI_lt hi, Option.bind_some, s_l05Teeth_eq, Option.bind_some]; cases toothB a.Wheels[i] <;> rfl, allI_all, Option.bind_some, s_IsName_eq]
  cases a.Wheels.all toothB <;> cases nameB a.Name <;> simp [orE]; omega
def whB (w : Works_) (a k : Int) : Bool := decide (0 ≤ a ∧ a < w.Arbors.length) && match w.Arbors[a.toNat]? with
  | some b => decide (0 ≤ k ∧ k < b.Wheels.length)
  | none => false
theorem btw_len {α : Type} {l : List α} {a : Int} (hl : l.length ≤ 9223372036854775807) : btw a 0 (w64 ((l.length : Int) - 1)) = decide (0 ≤ a ∧ a < l.length) := by
  rw [w64_in (by omega) (by omega)]
  unfold btw
  rw [decide_eq_decide]; omega
theorem wheel_tail {w : Works_} {a k : Int} (hl : w.Arbors.length ≤ 9223372036854775807) (hw : ∀ b ∈ w.Arbors, b.Wheels.length ≤ 9223372036854775807) {f : Arbor_ → Option Bool} (hf : ∀ b ∈ w.Arbors, f b = some (decide (0 ≤ k ∧ k < b.Wheels.length))) :
    (if decide (0 ≤ a ∧ a < w.Arbors.length) = true then ((atI w.Arbors a).bind f) else some false) = some (whB w a k) := by
  unfold whB
  by_cases h : 0 ≤ a ∧ a < w.Arbors.length
  · obtain ⟨e, he, hm, hg⟩ := atI_some h.1 h.2
    rw [decide_eq_true h, if_pos rfl, he, Option.bind_some, hf e hm, hg]; rfl
  · rw [decide_eq_false h]; rfl
theorem i_hasWheel_eq {w : Works_} (hl : w.Arbors.length ≤ 9223372036854775807) (hw : ∀ b ∈ w.Arbors, b.Wheels.length ≤ 9223372036854775807) (a k : Int) : i_hasWheel_m w a k = some (whB w a k) := by
  unfold i_hasWheel_m
  rw [i_within_eq, Option.bind_some, btw_len hl]
  exact wheel_tail hl hw fun b hb => by rw [i_within_eq, Option.bind_some, btw_len (hw b hb)]
theorem s_l08Wheel_eq {w : Works_} (hl : w.Arbors.length ≤ 9223372036854775807) (hw : ∀ b ∈ w.Arbors, b.Wheels.length ≤ 9223372036854775807) (a k : Int) : s_l08Wheel_m w a k = some (whB w a k) := by
  unfold s_l08Wheel_m
  rw [s_l00In_eq, Option.bind_some, btw_len hl]
  exact wheel_tail hl hw fun b hb => by rw [s_l00In_eq, Option.bind_some, btw_len (hw b hb)]
def joinB (w : Works_) (m : Mesh_) : Bool := decide (m.A ≠ m.B) && (whB w m.A m.WheelA && whB w m.B m.WheelB)
theorem i_joins_eq {w : Works_} (hl : w.Arbors.length ≤ 9223372036854775807) (hw : ∀ b ∈ w.Arbors, b.Wheels.length ≤ 9223372036854775807) (m : Mesh_) : i_joins_m w m = some (joinB w m) := by
  unfold i_joins_m joinB
  simp only [i_hasWheel_eq hl hw, Option.bind_some]
  by_cases h : m.A = m.B <;> cases whB w m.A m.WheelA <;> simp [h]
theorem s_l08Mesh_eq {w : Works_} (hl : w.Arbors.length ≤ 9223372036854775807) (hw : ∀ b ∈ w.Arbors, b.Wheels.length ≤ 9223372036854775807) (m : Mesh_) : s_l08Mesh_m w m = some (joinB w m) := by
  unfold s_l08Mesh_m joinB
  simp only [s_l08Wheel_eq hl hw, Option.bind_some]
  by_cases h : m.A = m.B <;> cases whB w m.A m.WheelA <;> simp [h]
def sameB (m n : Mesh_) : Bool := decide (m = n ∨ m = ⟨n.B, n.WheelB, n.A, n.WheelA⟩)
theorem sameB_comm (m n : Mesh_) : sameB m n = sameB n m := by
  unfold sameB
  rw [decide_eq_decide]
  obtain ⟨a, b, c, d⟩ := m
  obtain ⟨a', b', c', d'⟩ := n
  simp only [Mesh_.mk.injEq]
  omega
theorem i_sameMesh_eq (m n : Mesh_) : i_sameMesh_m m n = some (sameB m n) := by
  unfold i_sameMesh_m sameB
  by_cases h : m = n
  · simp [h]
  · rw [if_neg h]; simp [h]
theorem s_l08Equal_eq (m n : Mesh_) : s_l08Equal_m m n = some (sameB m n) := by
  unfold s_l08Equal_m sameB
  by_cases h : m = n
  · simp [h]
  · rw [if_neg h]
    obtain ⟨a, b, c, d⟩ := m
    obtain ⟨a', b', c', d'⟩ := n
    have e : decide ((⟨a, b, c, d⟩ : Mesh_) = ⟨a', b', c', d'⟩ ∨ (⟨a, b, c, d⟩ : Mesh_) = ⟨c', d', a', b'⟩) = decide (a = c' ∧ b = d' ∧ c = a' ∧ d = b') := by
      rw [decide_eq_decide]
      simp only [h, false_or, Mesh_.mk.injEq]
    dsimp only
    rw [e]
    by_cases h1 : a = c' <;> by_cases h2 : b = d' <;> by_cases h3 : c = a' <;> simp [h1, h2, h3]
def wksB (w : Works_) : Bool := decide (w.Arbors.length ≤ 16) && (decide (w.Meshes.length ≤ 24) && (allI w.Arbors (fun i a => arbB a && !((w.Arbors.take i).any fun b => decide (b.Name = a.Name))) && allI w.Meshes (fun i m => joinB w m && !((w.Meshes.take i).any fun n => sameB m n))))
theorem i_knownMesh_eq {xs : List Mesh_} {m : Mesh_} (hl : xs.length ≤ 9223372036854775807) : slices_ContainsFunc_LMesh_Mesh_i_ValidWorks_1_m xs m = some (xs.any fun n => sameB m n) := by
  unfold slices_ContainsFunc_LMesh_Mesh_i_ValidWorks_1_m slices_IndexFunc_LMesh_Mesh_i_ValidWorks_1_m
  rw [findG (fun n => sameB m n) hl fun i hi => by rw [atI_lt hi, Option.bind_some, i_ValidWorks_1_m, i_sameMesh_eq, Option.bind_some, Option.bind_some], Option.bind_some, posOf_nn]
theorem i_ValidWorks_eq {w : Works_} (hl : w.Arbors.length ≤ 9223372036854775807) (hw : ∀ b ∈ w.Arbors, b.Wheels.length ≤ 9223372036854775807) (hm : w.Meshes.length ≤ 9223372036854775807) : i_ValidWorks_m w = some (wksB w) := by
  unfold i_ValidWorks_m wksB
  by_cases h1 : w.Arbors.length ≤ 16
  · by_cases h2 : w.Meshes.length ≤ 24
    · rw [if_neg (by omega), Option.bind_some, decide_eq_false (by omega), if_neg (by decide), decide_eq_true h1, decide_eq_true h2,
        scanG (e := .inr false) (fun i a => arbB a && !((w.Arbors.take i).any fun b => decide (b.Name = a.Name))) hl fun i hi => ?_, Option.bind_some,
        scanG (e := .inr false) (fun i m => joinB w m && !((w.Meshes.take i).any fun n => sameB m n)) hm fun i hi => ?_, Option.bind_some]
      · cases allI w.Arbors (fun i a => arbB a && !((w.Arbors.take i).any fun b => decide (b.Name = a.Name))) <;> cases allI w.Meshes (fun i m => joinB w m && !((w.Meshes.take i).any fun n => sameB m n)) <;> rfl
      · rw [atI_lt hi, Option.bind_some, i_joins_eq hl hw, Option.bind_some, chk_t (subL_ok (by omega)), subL0, i_knownMesh_eq (by rw [List.length_take]; omega)]
        cases joinB w w.Meshes[i] <;> cases ((w.Meshes.take i).any fun n => sameB w.Meshes[i] n) <;> rfl
      · rw [atI_lt hi, Option.bind_some, i_validArbor_eq (hw _ (List.getElem_mem hi)), Option.bind_some, chk_t (subL_ok (by omega)), subL0,
          scanG (fun _ b => !decide (b.Name = w.Arbors[i].Name)) (by rw [List.length_take]; omega) fun j hj => by
            rw [atI_lt hj, Option.bind_some]
            by_cases q : w.Arbors[i].Name = (w.Arbors.take i)[j].Name
            · rw [if_pos q, decide_eq_true q.symm]; rfl
            · rw [if_neg q, decide_eq_false (Ne.symm q)]; rfl, allI_all]
        have e : ((w.Arbors.take i).all fun b => !decide (b.Name = w.Arbors[i].Name)) = !((w.Arbors.take i).any fun b => decide (b.Name = w.Arbors[i].Name)) := by rw [Bool.eq_iff_iff]; simp
        rw [e]
        cases arbB w.Arbors[i] <;> cases ((w.Arbors.take i).any fun b => decide (b.Name = w.Arbors[i].Name)) <;> rfl
    · rw [if_neg (by omega), Option.bind_some, decide_eq_true (by omega), if_pos rfl, decide_eq_false h2, decide_eq_true h1]; rfl
  · rw [if_pos (by omega), Option.bind_some, if_pos rfl, decide_eq_false h1]; rfl
theorem s_l08Find_eq {w : Works_} (hl : w.Arbors.length ≤ 9223372036854775807) (s : ByteArray) : s_l08Find_m w s = some (posOf w.Arbors fun a => decide (a.Name = s)) := by
  unfold s_l08Find_m
  rw [findG (fun a => decide (a.Name = s)) hl fun i hi => by rw [atI_lt hi, Option.bind_some]; by_cases q : w.Arbors[i].Name = s <;> simp [q]]
theorem s_l08Known_eq {w : Works_} (hm : w.Meshes.length ≤ 9223372036854775807) (m : Mesh_) {k : Nat} (hk : k ≤ w.Meshes.length) : s_l08Known_m w m (k : Int) = some ((w.Meshes.take k).any fun n => sameB m n) := by
  unfold s_l08Known_m
  rw [scanT k (fun _ n => !sameB m n) hk hm fun i hi _ => by rw [atI_lt hi, Option.bind_some, s_l08Equal_eq, Option.bind_some, sameB_comm]; cases sameB m w.Meshes[i] <;> rfl, allI_all, Option.bind_some]
  have e : ((w.Meshes.take k).all fun n => !sameB m n) = !((w.Meshes.take k).any fun n => sameB m n) := by rw [Bool.eq_iff_iff]; simp
  rw [e]
  cases ((w.Meshes.take k).any fun n => sameB m n) <;> rfl
theorem s_l08Ok_eq {w : Works_} (hl : w.Arbors.length ≤ 9223372036854775807) (hw : ∀ b ∈ w.Arbors, b.Wheels.length ≤ 9223372036854775807) (hm : w.Meshes.length ≤ 9223372036854775807) : s_l08Ok_m w = some (wksB w) := by
  unfold s_l08Ok_m wksB
  rw [scanG (e := .inr false) (fun i a => arbB a && !((w.Arbors.take i).any fun b => decide (b.Name = a.Name))) hl fun i hi => ?_, Option.bind_some,
      scanG (e := .inr false) (fun i m => joinB w m && !((w.Meshes.take i).any fun n => sameB m n)) hm fun i hi => ?_, Option.bind_some]
  · have e1 : decide ((w.Meshes.length : Int) ≤ 24) = decide (w.Meshes.length ≤ 24) := by rw [decide_eq_decide]; omega
    have e2 : (if (w.Arbors.length : Int) ≤ 16 then some (decide ((w.Meshes.length : Int) ≤ 24)) else some false) = some (decide (w.Arbors.length ≤ 16) && decide (w.Meshes.length ≤ 24)) := by
      rw [e1]
      by_cases h1 : w.Arbors.length ≤ 16
      · rw [if_pos (by omega), decide_eq_true h1, Bool.true_and]
      · rw [if_neg (by omega), decide_eq_false h1]; rfl
    rw [e2]
    cases allI w.Arbors (fun i a => arbB a && !((w.Arbors.take i).any fun b => decide (b.Name = a.Name))) <;> cases allI w.Meshes (fun i m => joinB w m && !((w.Meshes.take i).any fun n => sameB m n)) <;> cases decide (w.Arbors.length ≤ 16) <;> cases decide (w.Meshes.length ≤ 24) <;> rfl
  · simp only [atI_lt hi, Option.bind_some, s_l08Mesh_eq hl hw, s_l08Known_eq hm _ (Nat.le_of_lt hi)]
    cases joinB w w.Meshes[i] <;> cases ((w.Meshes.take i).any fun n => sameB w.Meshes[i] n) <;> rfl
  · simp only [atI_lt hi, Option.bind_some, s_l08Arbor_eq (hw _ (List.getElem_mem hi)), s_l08Find_eq hl, posOf_here (p := fun a => decide (a.Name = w.Arbors[i].Name)) hi (decide_eq_true rfl)]
    cases arbB w.Arbors[i] <;> cases ((w.Arbors.take i).any fun b => decide (b.Name = w.Arbors[i].Name)) <;> rfl
end Go.Proofs.YtjhadibjjldpdabGreat
namespace Go.Proofs.YtjhadibjjldpdabGreat
set_option linter.unusedVariables false
def monB (m : Month_) : Bool := nameB m.Name && (btw m.Days 1 60 && btw m.Leap 1 60)
def ruleB (r : LeapRule_) : Bool := btw r.Every 1 1000 && btw r.Rest 0 (r.Every - 1)
def cycF (y : Int) (r : LeapRule_) : Int := if y ≤ 2000 then y / (Int.gcd y r.Every : Int) * r.Every else y
def cyc (rs : List LeapRule_) : Int := rs.foldl cycF 1
def monsB (xs : List Month_) : Bool := allI xs fun i m => monB m && !((xs.take i).any fun n => decide (n.Name = m.Name))
def calB (c : Calendar_) : Bool := nameB c.Name && (decide (1 ≤ c.Months.length ∧ c.Months.length ≤ 20) && (decide (c.Rules.length ≤ 6) && (btw c.Week 1 12 && (monsB c.Months && (c.Rules.all ruleB && decide (cyc c.Rules ≤ 2000))))))
theorem ruleB_iff {r : LeapRule_} : ruleB r = true ↔ (1 ≤ r.Every ∧ r.Every ≤ 1000) ∧ 0 ≤ r.Rest ∧ r.Rest ≤ r.Every - 1 := by
  unfold ruleB btw
  simp only [Bool.and_eq_true, decide_eq_true_eq]
theorem cyc_step {y e : Int} (y0 : 1 ≤ y) (y1 : y ≤ 2000) (e0 : 1 ≤ e) (e1 : e ≤ 1000) : 1 ≤ y / (Int.gcd y e : Int) ∧ y / (Int.gcd y e : Int) ≤ 2000 ∧ 1 ≤ y / (Int.gcd y e : Int) * e ∧ y / (Int.gcd y e : Int) * e ≤ 2000000 := by
  have hg := gcd_pos (n := y) (d := e) (by omega)
  have hd : (Int.gcd y e : Int) ∣ y := Int.gcd_dvd_left ..
  have h1 : 1 ≤ y / (Int.gcd y e : Int) := by
    have h2 : (Int.gcd y e : Int) ≤ y := Int.le_of_dvd (by omega) hd
    exact (Int.le_ediv_iff_mul_le (by omega)).2 (by omega)
  have h2 : y / (Int.gcd y e : Int) ≤ y := Int.ediv_le_self _ (by omega)
  refine ⟨h1, by omega, ?_, ?_⟩
  · have := Int.mul_le_mul h1 e0 (by omega) (by omega); omega
  · have := Int.mul_le_mul (show y / (Int.gcd y e : Int) ≤ 2000 by omega) e1 (by omega) (by omega); omega
theorem cycF_in {y : Int} {r : LeapRule_} (y0 : 1 ≤ y) (y1 : y ≤ 2000000) (h : ruleB r = true) : 1 ≤ cycF y r ∧ cycF y r ≤ 2000000 := by
  unfold cycF
  have hr := ruleB_iff.1 h
  split
  · have := cyc_step y0 (by omega) hr.1.1 hr.1.2; omega
  · omega
theorem cyc_high {rs : List LeapRule_} {y : Int} (h : 2000 < y) : rs.foldl cycF y = y := by
  induction rs generalizing y with
  | nil => rfl
  | cons r rs ih =>
    rw [List.foldl_cons]
    have e : cycF y r = y := by unfold cycF; rw [if_neg (by omega)]
    rw [e]; exact ih h
theorem i_cycleYears_eq {rs : List LeapRule_} (hl : rs.length ≤ 9223372036854775807) (h : rs.all ruleB = true) : i_cycleYears_m rs = some (cyc rs) := by
  unfold i_cycleYears_m
  have hr : ∀ (i : Nat) (hi : i < rs.length), ruleB rs[i] = true := fun i hi => (List.all_eq_true.1 h) _ (List.getElem_mem hi)
  have := loop_forI (xs := rs) (step := fun s6 => (if s6.2 < (rs.length : Int) then ((((atI rs s6.2).bind fun v7 => (if s6.1 ≤ 2000 then ((i_gcd_m s6.1 v7.Every).bind fun v8 => (chk (v8 ≠ 0) (some (w64 ((w64 (s6.1.tdiv v8)) * v7.Every))))) else some s6.1)) : Option Int).bind fun v10 => some (.inl (v10, w64 (s6.2 + 1)))) else some (.inr s6.1)))
    (fun i (y : Int) => (y, i)) (fun _ r y => some (.inl (cycF y r))) id (fun y => 1 ≤ y ∧ y ≤ 2000000) hl (fun i hi y hy => by
      have hi' : (i : Int) < rs.length := by omega
      have e1 : w64 ((i : Int) + 1) = i + 1 := w64_in (by omega) (by omega)
      have hq := ruleB_iff.1 (hr i hi)
      simp only [if_pos hi', atI_lt hi, Option.bind_some, e1]
      unfold cycF
      by_cases c : y ≤ 2000
      · have hc := cyc_step hy.1 c hq.1.1 hq.1.2
        have hg := gcd_pos (n := y) (d := rs[i].Every) (by omega)
        rw [if_pos c, if_pos c, i_gcd_eq ⟨by omega, by omega⟩ (by omega) ⟨by omega, by omega⟩ (by omega), Option.bind_some, chk_t (by omega), Int.tdiv_eq_ediv_of_nonneg (by omega), w64_in (x := y / _) (by omega) (by omega), w64_in (by omega) (by omega)]
        rfl
      · rw [if_neg c, if_neg c]; rfl) (fun i hi y y' hy e => by
      injection e with e; injection e with e; subst e
      exact cycF_in hy.1 hy.2 (hr i hi)) (fun y _ => by simp) 1 (by omega)
  rw [this, forL_fold cycF (fun _ _ _ => rfl)]
  rfl
theorem s_years_for {X : Type} {e : X} {rs : List LeapRule_} : ∀ (k : Nat) (y : Int), 1 ≤ y → y ≤ 2000 → forL (X := X) (fun _ r y => if ruleB r = true then (if 2000 < y / (Int.gcd y r.Every : Int) * r.Every then some (.inr e) else some (.inl (y / (Int.gcd y r.Every : Int) * r.Every))) else some (.inr e)) rs k y = some (if rs.all ruleB = true ∧ rs.foldl cycF y ≤ 2000 then .inl (rs.foldl cycF y) else .inr e) := by
  induction rs with
  | nil => intro k y h0 h1; simp [forL, h1]
  | cons r rs ih =>
    intro k y h0 h1
    show Option.bind (if ruleB r = true then _ else _) _ = _
    cases hr : ruleB r
    · simp [hr]
    · have hq := ruleB_iff.1 hr
      have hc := cyc_step h0 h1 hq.1.1 hq.1.2
      have e : cycF y r = y / (Int.gcd y r.Every : Int) * r.Every := by unfold cycF; rw [if_pos h1]
      rw [if_pos rfl, List.foldl_cons, List.all_cons, hr, e, Bool.true_and]
      by_cases c : 2000 < y / (Int.gcd y r.Every : Int) * r.Every
      · rw [if_pos c, Option.bind_some, cyc_high c, if_neg (by omega)]
      · rw [if_neg c, Option.bind_some]
        exact ih (k + 1) _ hc.2.2.1 (by omega)
theorem s_l15Years_eq {rs : List LeapRule_} (hl : rs.length ≤ 9223372036854775807) : s_l15Years_m rs = some (if rs.all ruleB = true ∧ cyc rs ≤ 2000 then (cyc rs, decide (rs.length ≤ 6)) else (0, false)) := by
  unfold s_l15Years_m
  rw [loop_forI (xs := rs) (fun i (y : Int) => (y, i)) (fun _ r y => if ruleB r = true then (if 2000 < y / (Int.gcd y r.Every : Int) * r.Every then some (.inr (.inr (0, false))) else some (.inl (y / (Int.gcd y r.Every : Int) * r.Every))) else some (.inr (.inr (0, false)))) (fun y => .inl y) (fun y => 1 ≤ y ∧ y ≤ 2000) hl (fun i hi y hy => ?_) (fun i hi y y' hy e => ?_) (fun y _ => by simp) 1 (by omega)]
  · have e : forL (X := Int ⊕ (Int × Bool)) (fun _ r y => if ruleB r = true then (if 2000 < y / (Int.gcd y r.Every : Int) * r.Every then some (.inr (.inr (0, false))) else some (.inl (y / (Int.gcd y r.Every : Int) * r.Every))) else some (.inr (.inr (0, false)))) rs 0 1 = some (if rs.all ruleB = true ∧ cyc rs ≤ 2000 then .inl (cyc rs) else .inr (.inr (0, false))) := s_years_for 0 1 (by omega) (by omega)
    rw [e]
    by_cases c : rs.all ruleB = true ∧ cyc rs ≤ 2000
    · simp only [if_pos c]
      simp [orE]
      omega
    · simp only [if_neg c]; rfl
  · have hi' : (i : Int) < rs.length := by omega
    have e1 : w64 ((i : Int) + 1) = i + 1 := w64_in (by omega) (by omega)
    simp only [if_pos hi', atI_lt hi, Option.bind_some, e1, s_l00In_eq]
    have e2 : ruleB rs[i] = (btw rs[i].Every 1 1000 && btw rs[i].Rest 0 (rs[i].Every - 1)) := rfl
    rw [e2]
    by_cases c1 : btw rs[i].Every 1 1000 = true
    · have q := of_decide_eq_true c1
      rw [c1, w64_in (x := rs[i].Every - 1) (by omega) (by omega)]
      cases btw rs[i].Rest 0 (rs[i].Every - 1)
      · rfl
      · have hc := cyc_step hy.1 hy.2 q.1 q.2
        have hg := gcd_pos (n := y) (d := rs[i].Every) (by omega)
        simp only [Bool.not_true, Bool.false_eq_true, if_false, Option.bind_some, Bool.and_self, if_true]
        rw [s_l02Gcd_eq (by omega) (by omega) (by omega), Option.bind_some, chk_t (by omega), Int.tdiv_eq_ediv_of_nonneg (by omega), w64_in (x := y / _) (by omega) (by omega), w64_in (by omega) (by omega)]
        by_cases c : 2000 < y / (Int.gcd y rs[i].Every : Int) * rs[i].Every
        · rw [if_pos c, if_pos c]; rfl
        · rw [if_neg c, if_neg c]; rfl
    · rw [Bool.not_eq_true] at c1
      rw [c1]; rfl
  · split at e
    · rename_i hr
      have hq := ruleB_iff.1 hr
      have hc := cyc_step hy.1 hy.2 hq.1.1 hq.1.2
      split at e
      · cases e
      · injection e with e; injection e with e; omega
    · cases e
theorem i_knownMonth_eq {xs : List Month_} {m : Month_} (hl : xs.length ≤ 9223372036854775807) : slices_ContainsFunc_LMonth_Month_i_ValidCalendar_1_m xs m = some (xs.any fun n => decide (n.Name = m.Name)) := by
  unfold slices_ContainsFunc_LMonth_Month_i_ValidCalendar_1_m slices_IndexFunc_LMonth_Month_i_ValidCalendar_1_m
  rw [findG (fun n => decide (n.Name = m.Name)) hl fun i hi => by rw [atI_lt hi, Option.bind_some, i_ValidCalendar_1_m, Option.bind_some], Option.bind_some, posOf_nn]
theorem i_ValidCalendar_eq {c : Calendar_} (hm : c.Months.length ≤ 9223372036854775807) (hr : c.Rules.length ≤ 9223372036854775807) : i_ValidCalendar_m c = some (calB c) := by
  unfold i_ValidCalendar_m calB
  simp only [i_IsName_eq, i_within_eq, Option.bind_some, itO]
  simp only [itOp (p := (_ : Int) < _), itO, Option.bind_some]
  by_cases h : nameB c.Name = true ∧ (1 ≤ c.Months.length ∧ c.Months.length ≤ 20) ∧ c.Rules.length ≤ 6 ∧ btw c.Week 1 12 = true
  · obtain ⟨h1, h2, h3, h4⟩ := h
    rw [h1, h4, decide_eq_false (show ¬ (c.Months.length : Int) < 1 by omega), decide_eq_false (show ¬ 20 < (c.Months.length : Int) by omega), decide_eq_false (show ¬ 6 < (c.Rules.length : Int) by omega), decide_eq_true h2, decide_eq_true h3, if_neg (by decide),
      scanG (e := .inr false) (fun i m => monB m && !((c.Months.take i).any fun n => decide (n.Name = m.Name))) hm fun i hi => ?_, Option.bind_some,
      scanG (e := .inr false) (fun _ r => ruleB r) hr fun i hi => ?_, Option.bind_some, allI_all]
    · by_cases h5 : c.Rules.all ruleB = true
      · rw [i_cycleYears_eq hr h5, Option.bind_some, h5]
        unfold monsB
        cases allI c.Months (fun i m => monB m && !((c.Months.take i).any fun n => decide (n.Name = m.Name))) <;> rfl
      · rw [Bool.not_eq_true] at h5
        rw [h5]
        unfold monsB
        cases allI c.Months (fun i m => monB m && !((c.Months.take i).any fun n => decide (n.Name = m.Name))) <;> rfl
    · rw [atI_lt hi]
      simp only [Option.bind_some]
      by_cases q : btw c.Rules[i].Every 1 1000 = true
      · have := of_decide_eq_true q
        unfold ruleB
        rw [q, w64_in (by omega) (by omega)]
        cases btw c.Rules[i].Rest 0 (c.Rules[i].Every - 1) <;> rfl
      · rw [Bool.not_eq_true] at q
        unfold ruleB
        rw [q]; rfl
    · rw [atI_lt hi]
      simp only [Option.bind_some]
      rw [chk_t (subL_ok (by omega)), subL0, i_knownMonth_eq (by rw [List.length_take]; omega), Option.bind_some]
      unfold monB
      cases nameB c.Months[i].Name <;> cases btw c.Months[i].Days 1 60 <;> cases btw c.Months[i].Leap 1 60 <;> cases ((c.Months.take i).any fun n => decide (n.Name = c.Months[i].Name)) <;> rfl
  · have e : (!nameB c.Name || (decide ((c.Months.length : Int) < 1) || (decide (20 < (c.Months.length : Int)) || (decide (6 < (c.Rules.length : Int)) || !btw c.Week 1 12)))) = true := by
      simp only [Bool.or_eq_true, Bool.not_eq_true', decide_eq_true_eq]
      by_cases h1 : nameB c.Name = true
      · by_cases h2 : 1 ≤ c.Months.length ∧ c.Months.length ≤ 20
        · by_cases h3 : c.Rules.length ≤ 6
          · have h4 : ¬ btw c.Week 1 12 = true := fun h4 => h ⟨h1, h2, h3, h4⟩
            simp [h4]
          · omega
        · omega
      · simp [h1]
    rw [e, if_pos rfl]
    congr 1
    symm
    rw [← Bool.not_eq_true]
    simp only [Bool.and_eq_true, decide_eq_true_eq]
    rintro ⟨h1, h2, h3, h4, _⟩
    exact h ⟨h1, h2, h3, h4⟩
theorem s_l15Months_eq {xs : List Month_} (hl : xs.length ≤ 9223372036854775807) : s_l15Months_m xs = some (monsB xs && decide (1 ≤ xs.length ∧ xs.length ≤ 20)) := by
  unfold s_l15Months_m
  rw [scanG (e := .inr false) (fun i m => monB m && !((xs.take i).any fun n => decide (n.Name = m.Name))) hl fun i hi => ?_, Option.bind_some]
  · have e : btw (xs.length : Int) 1 20 = decide (1 ≤ xs.length ∧ xs.length ≤ 20) := by unfold btw; rw [decide_eq_decide]; omega
    rw [s_l00In_eq, e]
    unfold monsB
    cases allI xs (fun i m => monB m && !((xs.take i).any fun n => decide (n.Name = m.Name))) <;> rfl
  · simp only [atI_lt hi, s_IsName_eq, s_l00In_eq, Option.bind_some, itO]
    rw [scanT (xs := xs) i (fun _ (b : Month_) => !decide (b.Name = xs[i].Name)) (by omega) (by omega) fun j hj _ => by
      rw [atI_lt hj, Option.bind_some]
      by_cases q : xs[j].Name = xs[i].Name
      · rw [if_pos q, decide_eq_true q]; rfl
      · rw [if_neg q, decide_eq_false q]; rfl, allI_all]
    have e : ((xs.take i).all fun b => !decide (b.Name = xs[i].Name)) = !((xs.take i).any fun b => decide (b.Name = xs[i].Name)) := by rw [Bool.eq_iff_iff]; simp
    rw [e]
    unfold monB
    cases nameB xs[i].Name <;> cases btw xs[i].Days 1 60 <;> cases btw xs[i].Leap 1 60 <;> cases ((xs.take i).any fun n => decide (n.Name = xs[i].Name)) <;> rfl
theorem s_l15Ok_eq {c : Calendar_} (hm : c.Months.length ≤ 9223372036854775807) (hr : c.Rules.length ≤ 9223372036854775807) : s_l15Ok_m c = some (calB c) := by
  unfold s_l15Ok_m calB
  rw [s_l15Years_eq hr, Option.bind_some]
  simp only [s_IsName_eq, s_l15Months_eq hm, s_l00In_eq, Option.bind_some, itA]
  by_cases h : c.Rules.all ruleB = true ∧ cyc c.Rules ≤ 2000
  · rw [if_pos h, h.1, decide_eq_true h.2]
    cases nameB c.Name <;> cases monsB c.Months <;> cases btw c.Week 1 12 <;> cases decide (1 ≤ c.Months.length ∧ c.Months.length ≤ 20) <;> cases decide (c.Rules.length ≤ 6) <;> rfl
  · rw [if_neg h]
    have e : (c.Rules.all ruleB && decide (cyc c.Rules ≤ 2000)) = false := by
      rw [← Bool.not_eq_true, Bool.and_eq_true, decide_eq_true_eq]; exact h
    rw [e]
    cases nameB c.Name <;> cases monsB c.Months <;> cases btw c.Week 1 12 <;> cases decide (1 ≤ c.Months.length ∧ c.Months.length ≤ 20) <;> cases decide (c.Rules.length ≤ 6) <;> rfl
def camB (xs : List Int) : Bool := xs.all (fun n => btw n 1 60) && decide (1 ≤ xs.length ∧ xs.length ≤ 260)
theorem i_ValidCam_eq {xs : List Int} (hl : xs.length ≤ 9223372036854775807) : i_ValidCam_m xs = some (camB xs) := by
  unfold i_ValidCam_m camB
  rw [scanG (fun _ v => btw v 1 60) hl fun i hi => by rw [atI_lt hi, Option.bind_some, i_within_eq, Option.bind_some]; cases btw xs[i] 1 60 <;> rfl, allI_all, Option.bind_some, itAp]
  have e : (decide (1 ≤ (xs.length : Int)) && decide ((xs.length : Int) ≤ 260)) = decide (1 ≤ xs.length ∧ xs.length ≤ 260) := by rw [← Bool.decide_and, decide_eq_decide]; omega
  rw [e]
  exact scan_and rfl
theorem s_l17Ok_eq {xs : List Int} (hl : xs.length ≤ 9223372036854775807) : s_l17Ok_m xs = some (camB xs) := by
  unfold s_l17Ok_m camB
  rw [scanG (fun _ v => btw v 1 60) hl fun i hi => by rw [atI_lt hi, Option.bind_some, s_l00In_eq, Option.bind_some]; cases btw xs[i] 1 60 <;> rfl, allI_all, Option.bind_some, s_l00In_eq, Option.bind_some]
  have e : btw (xs.length : Int) 1 260 = decide (1 ≤ xs.length ∧ xs.length ≤ 260) := by unfold btw; rw [decide_eq_decide]; omega
  rw [e]
  exact scan_and rfl
end Go.Proofs.YtjhadibjjldpdabGreat
namespace Go.Proofs.YtjhadibjjldpdabGreat
set_option linter.unusedVariables false
def smS (x : ByteArray) : Prop := x.size ≤ 1048576
def smL {α : Type} (sm : α → Prop) (xs : List α) : Prop := xs.length ≤ 1048576 ∧ ∀ m ∈ xs, sm m
theorem strOf_one (b : Int) : (strOfNums [b]).size = 1 := by simp [strOfNums, ByteArray.size]
theorem markText_some {k : Int} (h0 : 0 ≤ k) (h1 : k ≤ 1000000000000000000) : ∃ t, l_markText_m k = some t := by
  unfold l_markText_m
  by_cases hk : k ≤ 0
  · exact ⟨_, if_pos hk⟩
  · rw [if_neg hk]
    obtain ⟨x, hx, hp⟩ := loopM_of (S := Int × ByteArray) (X := ByteArray) (step := fun s5 => (if 0 < s5.1 then (chk ((strOfNums [IntKind.u8.wrap (w64 (48 + (s5.1.tmod 10)))]).size + s5.2.size ≤ 9223372036854775807) (some (.inl (w64 (s5.1.tdiv 10), (strOfNums [IntKind.u8.wrap (w64 (48 + (s5.1.tmod 10)))]) ++ s5.2)))) else some (.inr s5.2)))
      (fun (s : Int × ByteArray) => 0 ≤ s.1 ∧ s.1 + s.2.size ≤ 1000000000000000000) (fun (s : Int × ByteArray) => s.1.toNat) (fun x => (x.size : Int) ≤ 1000000000000000000) (fun s hI => by
        obtain ⟨i, b⟩ := s
        obtain ⟨q0, q1⟩ := hI
        dsimp only at q0 q1 ⊢
        by_cases hi : 0 < i
        · left
          have e1 : i.tdiv 10 = i / 10 := Int.tdiv_eq_ediv_of_nonneg q0
          have e2 : w64 (i / 10) = i / 10 := w64_in (by omega) (by omega)
          have e3 := strOf_one (IntKind.u8.wrap (w64 (48 + (i.tmod 10))))
          refine ⟨_, by rw [if_pos hi, chk_t (by rw [e3]; omega)], ?_, ?_⟩
          · dsimp only
            rw [e1, e2, ByteArray.size_append, e3]
            push_cast
            omega
          · dsimp only
            rw [e1, e2]; omega
        · right; exact ⟨b, by rw [if_neg hi], by omega⟩) (k, ⟨#[]⟩) ⟨h0, by show k + ((0 : Nat) : Int) ≤ _; omega⟩ (by dsimp only; omega)
    rw [hx]
    refine ⟨_, chk_t ?_⟩
    have : (⟨#[109]⟩ : ByteArray).size = 1 := rfl
    rw [this]; omega
def mkT (k : Int) : ByteArray := (l_markText_m k).getD ⟨#[]⟩
theorem markText_eq {k : Int} (h0 : 0 ≤ k) (h1 : k ≤ 1000000000000000000) : l_markText_m k = some (mkT k) := by
  obtain ⟨t, ht⟩ := markText_some h0 h1
  unfold mkT; rw [ht]; rfl
end Go.Proofs.YtjhadibjjldpdabGreat
namespace Go.Proofs.YtjhadibjjldpdabGreat
open Go.RowKit
set_option linter.unusedVariables false
set_option maxRecDepth 100000
set_option maxHeartbeats 2000000
def smArbor_ (x : Arbor_) : Prop := smS x.Name ∧ (smL (fun _ => True)) x.Wheels
def smMesh_ (x : Mesh_) : Prop := (fun _ => True) x.A ∧ (fun _ => True) x.WheelA ∧ (fun _ => True) x.B ∧ (fun _ => True) x.WheelB
def smWorks_ (x : Works_) : Prop := (smL smArbor_) x.Arbors ∧ (smL smMesh_) x.Meshes
def smMonth_ (x : Month_) : Prop := smS x.Name ∧ (fun _ => True) x.Days ∧ (fun _ => True) x.Leap
def smLeapRule_ (x : LeapRule_) : Prop := (fun _ => True) x.Every ∧ (fun _ => True) x.Rest ∧ (fun _ => True) x.Leap
def smCalendar_ (x : Calendar_) : Prop := smS x.Name ∧ (smL smMonth_) x.Months ∧ (smL smLeapRule_) x.Rules ∧ (fun _ => True) x.Week
def smMovement_ (x : Movement_) : Prop := smS x.Name ∧ smWorks_ x.Works ∧ (fun _ => True) x.Minute ∧ (fun _ => True) x.Hour ∧ (fun _ => True) x.Escape ∧ (fun _ => True) x.Teeth ∧ (fun _ => True) x.Beats ∧ smCalendar_ x.Calendar ∧ (smL (fun _ => True)) x.Cam ∧ (fun _ => True) x.Strike
theorem toInt64S_eq {x : List Int} (h : (smL (fun _ => True)) x) : l_toInt64S_m x = some x := by
  unfold l_toInt64S_m
  rw [chk_t (by have := h.1; omega), toS_id' (by have := h.1; omega)]; rfl
theorem toArbor_eq {x : Arbor_} (h : smArbor_ x) : l_toArbor_m x = some x := by
  unfold l_toArbor_m
  simp only [toInt64S_eq h.2, Option.bind_some]
theorem toArborS_eq {x : List Arbor_} (h : (smL smArbor_) x) : l_toArborS_m x = some x := by
  unfold l_toArborS_m
  rw [chk_t (by have := h.1; omega), toS_id (by have := h.1; omega) fun v hv => toArbor_eq (h.2 v hv)]; rfl
theorem toMesh_eq {x : Mesh_} (h : smMesh_ x) : l_toMesh_m x = some x := rfl
theorem toMeshS_eq {x : List Mesh_} (h : (smL smMesh_) x) : l_toMeshS_m x = some x := by
  unfold l_toMeshS_m
  rw [chk_t (by have := h.1; omega), toS_id (by have := h.1; omega) fun v hv => toMesh_eq (h.2 v hv)]; rfl
theorem toWorks_eq {x : Works_} (h : smWorks_ x) : l_toWorks_m x = some x := by
  unfold l_toWorks_m
  simp only [toArborS_eq h.1, toMeshS_eq h.2, Option.bind_some]
theorem toMonth_eq {x : Month_} (h : smMonth_ x) : l_toMonth_m x = some x := rfl
theorem toMonthS_eq {x : List Month_} (h : (smL smMonth_) x) : l_toMonthS_m x = some x := by
  unfold l_toMonthS_m
  rw [chk_t (by have := h.1; omega), toS_id (by have := h.1; omega) fun v hv => toMonth_eq (h.2 v hv)]; rfl
theorem toLeapRule_eq {x : LeapRule_} (h : smLeapRule_ x) : l_toLeapRule_m x = some x := rfl
theorem toLeapRuleS_eq {x : List LeapRule_} (h : (smL smLeapRule_) x) : l_toLeapRuleS_m x = some x := by
  unfold l_toLeapRuleS_m
  rw [chk_t (by have := h.1; omega), toS_id (by have := h.1; omega) fun v hv => toLeapRule_eq (h.2 v hv)]; rfl
theorem toCalendar_eq {x : Calendar_} (h : smCalendar_ x) : l_toCalendar_m x = some x := by
  unfold l_toCalendar_m
  simp only [toMonthS_eq h.2.1, toLeapRuleS_eq h.2.2.1, Option.bind_some]
theorem toMovement_eq {x : Movement_} (h : smMovement_ x) : l_toMovement_m x = some x := by
  unfold l_toMovement_m
  simp only [toWorks_eq h.2.1, toCalendar_eq h.2.2.2.2.2.2.2.1, toInt64S_eq h.2.2.2.2.2.2.2.2.1, Option.bind_some]
theorem szInt64S_ok {x : List Int} (h : (osL osI) x) (l : Int) (h0 : 0 ≤ l) (h1 : l ≤ 1048576) : ∃ r, l_szInt64S_m x l = some r ∧ r ≤ l ∧ (0 ≤ r → (smL (fun _ => True)) x) := by
  obtain ⟨hl, hm⟩ := h
  unfold l_szInt64S_m
  rw [w64_in (by omega) (by omega)]
  split
  · exact ⟨_, rfl, by omega, by omega⟩
  · exact ⟨_, rfl, by omega, fun _ => ⟨by omega, fun _ _ => trivial⟩⟩
theorem szArbor_ok {x : Arbor_} (h : okArbor_ x) (l : Int) (h0 : 0 ≤ l) (h1 : l ≤ 1048576) : ∃ r, l_szArbor_m x l = some r ∧ r ≤ l ∧ (0 ≤ r → smArbor_ x) := by
  unfold l_szArbor_m
  have g0 := h.1
  unfold osS at g0
  rw [w64_in (x := l - (x.Name.size : Int)) (by omega) (by omega)]
  by_cases c0 : l - (x.Name.size : Int) < 0
  · rw [if_pos c0]; exact ⟨-1, rfl, by omega, by omega⟩
  rw [if_neg c0]
  obtain ⟨r0, hr0⟩ : ∃ r : Int, r = l - (x.Name.size : Int) := ⟨_, rfl⟩
  rw [← hr0] at c0 ⊢
  obtain ⟨r1, e1, f1, s1⟩ := szInt64S_ok h.2 r0 (by omega) (by omega)
  rw [e1]
  simp only [Option.bind_some]
  by_cases c1 : r1 < 0
  · simp only [if_pos c1]; exact ⟨_, rfl, by omega, by omega⟩
  simp only [if_neg c1]
  exact ⟨_, rfl, by omega, fun _ => ⟨(show smS x.Name by unfold smS; omega), s1 (by omega)⟩⟩
theorem szArborS_ok {x : List Arbor_} (h : (osL okArbor_) x) (l : Int) (h0 : 0 ≤ l) (h1 : l ≤ 1048576) : ∃ r, l_szArborS_m x l = some r ∧ r ≤ l ∧ (0 ≤ r → (smL smArbor_) x) := by
  obtain ⟨hl, hm⟩ := h
  unfold l_szArborS_m
  by_cases hq : w64 (l - (x.length : Int)) < 0
  · rw [if_pos hq]; exact ⟨-1, rfl, by omega, by omega⟩
  · rw [if_neg hq]
    rw [w64_in (by omega) (by omega)] at hq ⊢
    obtain ⟨y, hy, hp⟩ := szS_ok hl (sm := smArbor_) (fun v hv a b c => szArbor_ok (hm v hv) a b c) (l - x.length) (by omega) (by omega)
    rw [hy]
    rcases hp with rfl | ⟨r, rfl, e1, e2, e3⟩
    · exact ⟨-1, rfl, by omega, by omega⟩
    · exact ⟨r, rfl, by omega, fun _ => ⟨by omega, e3⟩⟩
theorem szMeshS_ok {x : List Mesh_} (h : (osL okMesh_) x) (l : Int) (h0 : 0 ≤ l) (h1 : l ≤ 1048576) : ∃ r, l_szMeshS_m x l = some r ∧ r ≤ l ∧ (0 ≤ r → (smL smMesh_) x) := by
  obtain ⟨hl, hm⟩ := h
  unfold l_szMeshS_m
  rw [w64_in (by omega) (by omega)]
  split
  · exact ⟨_, rfl, by omega, by omega⟩
  · exact ⟨_, rfl, by omega, fun _ => ⟨by omega, fun _ _ => by simp [smMesh_]⟩⟩
theorem szWorks_ok {x : Works_} (h : okWorks_ x) (l : Int) (h0 : 0 ≤ l) (h1 : l ≤ 1048576) : ∃ r, l_szWorks_m x l = some r ∧ r ≤ l ∧ (0 ≤ r → smWorks_ x) := by
  unfold l_szWorks_m
  obtain ⟨r0, e0, f0, s0⟩ := szArborS_ok h.1 l (by omega) (by omega)
  rw [e0]
  simp only [Option.bind_some]
  by_cases c0 : r0 < 0
  · simp only [if_pos c0]; exact ⟨_, rfl, by omega, by omega⟩
  simp only [if_neg c0]
  obtain ⟨r1, e1, f1, s1⟩ := szMeshS_ok h.2 r0 (by omega) (by omega)
  rw [e1]
  simp only [Option.bind_some]
  by_cases c1 : r1 < 0
  · simp only [if_pos c1]; exact ⟨_, rfl, by omega, by omega⟩
  simp only [if_neg c1]
  exact ⟨_, rfl, by omega, fun _ => ⟨s0 (by omega), s1 (by omega)⟩⟩
theorem szMonth_ok {x : Month_} (h : okMonth_ x) (l : Int) (h0 : 0 ≤ l) (h1 : l ≤ 1048576) : ∃ r, l_szMonth_m x l = some r ∧ r ≤ l ∧ (0 ≤ r → smMonth_ x) := by
  unfold l_szMonth_m
  have g0 := h.1
  unfold osS at g0
  rw [w64_in (x := l - (x.Name.size : Int)) (by omega) (by omega)]
  by_cases c0 : l - (x.Name.size : Int) < 0
  · rw [if_pos c0]; exact ⟨-1, rfl, by omega, by omega⟩
  rw [if_neg c0]
  obtain ⟨r0, hr0⟩ : ∃ r : Int, r = l - (x.Name.size : Int) := ⟨_, rfl⟩
  rw [← hr0] at c0 ⊢
  exact ⟨_, rfl, by omega, fun _ => ⟨(show smS x.Name by unfold smS; omega), trivial, trivial⟩⟩
theorem szMonthS_ok {x : List Month_} (h : (osL okMonth_) x) (l : Int) (h0 : 0 ≤ l) (h1 : l ≤ 1048576) : ∃ r, l_szMonthS_m x l = some r ∧ r ≤ l ∧ (0 ≤ r → (smL smMonth_) x) := by
  obtain ⟨hl, hm⟩ := h
  unfold l_szMonthS_m
  by_cases hq : w64 (l - (x.length : Int)) < 0
  · rw [if_pos hq]; exact ⟨-1, rfl, by omega, by omega⟩
  · rw [if_neg hq]
    rw [w64_in (by omega) (by omega)] at hq ⊢
    obtain ⟨y, hy, hp⟩ := szS_ok hl (sm := smMonth_) (fun v hv a b c => szMonth_ok (hm v hv) a b c) (l - x.length) (by omega) (by omega)
    rw [hy]
    rcases hp with rfl | ⟨r, rfl, e1, e2, e3⟩
    · exact ⟨-1, rfl, by omega, by omega⟩
    · exact ⟨r, rfl, by omega, fun _ => ⟨by omega, e3⟩⟩
theorem szLeapRuleS_ok {x : List LeapRule_} (h : (osL okLeapRule_) x) (l : Int) (h0 : 0 ≤ l) (h1 : l ≤ 1048576) : ∃ r, l_szLeapRuleS_m x l = some r ∧ r ≤ l ∧ (0 ≤ r → (smL smLeapRule_) x) := by
  obtain ⟨hl, hm⟩ := h
  unfold l_szLeapRuleS_m
  rw [w64_in (by omega) (by omega)]
  split
  · exact ⟨_, rfl, by omega, by omega⟩
  · exact ⟨_, rfl, by omega, fun _ => ⟨by omega, fun _ _ => by simp [smLeapRule_]⟩⟩
theorem szCalendar_ok {x : Calendar_} (h : okCalendar_ x) (l : Int) (h0 : 0 ≤ l) (h1 : l ≤ 1048576) : ∃ r, l_szCalendar_m x l = some r ∧ r ≤ l ∧ (0 ≤ r → smCalendar_ x) := by
  unfold l_szCalendar_m
  have g0 := h.1
  unfold osS at g0
  rw [w64_in (x := l - (x.Name.size : Int)) (by omega) (by omega)]
  by_cases c0 : l - (x.Name.size : Int) < 0
  · rw [if_pos c0]; exact ⟨-1, rfl, by omega, by omega⟩
  rw [if_neg c0]
  obtain ⟨r0, hr0⟩ : ∃ r : Int, r = l - (x.Name.size : Int) := ⟨_, rfl⟩
  rw [← hr0] at c0 ⊢
  obtain ⟨r1, e1, f1, s1⟩ := szMonthS_ok h.2.1 r0 (by omega) (by omega)
  rw [e1]
  simp only [Option.bind_some]
  by_cases c1 : r1 < 0
  · simp only [if_pos c1]; exact ⟨_, rfl, by omega, by omega⟩
  simp only [if_neg c1]
  obtain ⟨r2, e2, f2, s2⟩ := szLeapRuleS_ok h.2.2.1 r1 (by omega) (by omega)
  rw [e2]
  simp only [Option.bind_some]
  by_cases c2 : r2 < 0
  · simp only [if_pos c2]; exact ⟨_, rfl, by omega, by omega⟩
  simp only [if_neg c2]
  exact ⟨_, rfl, by omega, fun _ => ⟨(show smS x.Name by unfold smS; omega), s1 (by omega), s2 (by omega), trivial⟩⟩
theorem szMovement_ok {x : Movement_} (h : okMovement_ x) (l : Int) (h0 : 0 ≤ l) (h1 : l ≤ 1048576) : ∃ r, l_szMovement_m x l = some r ∧ r ≤ l ∧ (0 ≤ r → smMovement_ x) := by
  unfold l_szMovement_m
  have g0 := h.1
  unfold osS at g0
  rw [w64_in (x := l - (x.Name.size : Int)) (by omega) (by omega)]
  by_cases c0 : l - (x.Name.size : Int) < 0
  · rw [if_pos c0]; exact ⟨-1, rfl, by omega, by omega⟩
  rw [if_neg c0]
  obtain ⟨r0, hr0⟩ : ∃ r : Int, r = l - (x.Name.size : Int) := ⟨_, rfl⟩
  rw [← hr0] at c0 ⊢
  obtain ⟨r1, e1, f1, s1⟩ := szWorks_ok h.2.1 r0 (by omega) (by omega)
  rw [e1]
  simp only [Option.bind_some]
  by_cases c1 : r1 < 0
  · simp only [if_pos c1]; exact ⟨_, rfl, by omega, by omega⟩
  simp only [if_neg c1]
  obtain ⟨r2, e2, f2, s2⟩ := szCalendar_ok h.2.2.2.2.2.2.2.1 r1 (by omega) (by omega)
  rw [e2]
  simp only [Option.bind_some]
  by_cases c2 : r2 < 0
  · simp only [if_pos c2]; exact ⟨_, rfl, by omega, by omega⟩
  simp only [if_neg c2]
  obtain ⟨r3, e3, f3, s3⟩ := szInt64S_ok h.2.2.2.2.2.2.2.2.1 r2 (by omega) (by omega)
  rw [e3]
  simp only [Option.bind_some]
  by_cases c3 : r3 < 0
  · simp only [if_pos c3]; exact ⟨_, rfl, by omega, by omega⟩
  simp only [if_neg c3]
  exact ⟨_, rfl, by omega, fun _ => ⟨(show smS x.Name by unfold smS; omega), s1 (by omega), trivial, trivial, trivial, trivial, trivial, s2 (by omega), s3 (by omega), trivial⟩⟩
theorem eqInt64S_refl {x : List Int} (h : (smL (fun _ => True)) x) : l_eqInt64S_m x x = some true := by
  unfold l_eqInt64S_m
  rw [if_neg (by simp), eqS_refl' (by have := h.1; omega)]; rfl
theorem eqArbor_refl {x : Arbor_} (h : smArbor_ x) : l_eqArbor_m x x = some true := by
  unfold l_eqArbor_m
  simp [eqInt64S_refl h.2]
theorem eqArborS_refl {x : List Arbor_} (h : (smL smArbor_) x) : l_eqArborS_m x x = some true := by
  unfold l_eqArborS_m
  rw [if_neg (by simp), eqS_refl (by have := h.1; omega) fun v hv => eqArbor_refl (h.2 v hv)]; rfl
theorem eqMesh_refl {x : Mesh_} (h : smMesh_ x) : l_eqMesh_m x x = some true := by
  unfold l_eqMesh_m
  simp []
theorem eqMeshS_refl {x : List Mesh_} (h : (smL smMesh_) x) : l_eqMeshS_m x x = some true := by
  unfold l_eqMeshS_m
  rw [if_neg (by simp), eqS_refl (by have := h.1; omega) fun v hv => eqMesh_refl (h.2 v hv)]; rfl
theorem eqWorks_refl {x : Works_} (h : smWorks_ x) : l_eqWorks_m x x = some true := by
  unfold l_eqWorks_m
  simp [eqArborS_refl h.1, eqMeshS_refl h.2]
theorem eqMonth_refl {x : Month_} (h : smMonth_ x) : l_eqMonth_m x x = some true := by
  unfold l_eqMonth_m
  simp []
theorem eqMonthS_refl {x : List Month_} (h : (smL smMonth_) x) : l_eqMonthS_m x x = some true := by
  unfold l_eqMonthS_m
  rw [if_neg (by simp), eqS_refl (by have := h.1; omega) fun v hv => eqMonth_refl (h.2 v hv)]; rfl
theorem eqLeapRule_refl {x : LeapRule_} (h : smLeapRule_ x) : l_eqLeapRule_m x x = some true := by
  unfold l_eqLeapRule_m
  simp []
theorem eqLeapRuleS_refl {x : List LeapRule_} (h : (smL smLeapRule_) x) : l_eqLeapRuleS_m x x = some true := by
  unfold l_eqLeapRuleS_m
  rw [if_neg (by simp), eqS_refl (by have := h.1; omega) fun v hv => eqLeapRule_refl (h.2 v hv)]; rfl
theorem eqCalendar_refl {x : Calendar_} (h : smCalendar_ x) : l_eqCalendar_m x x = some true := by
  unfold l_eqCalendar_m
  simp [eqMonthS_refl h.2.1, eqLeapRuleS_refl h.2.2.1]
theorem eqMovement_refl {x : Movement_} (h : smMovement_ x) : l_eqMovement_m x x = some true := by
  unfold l_eqMovement_m
  simp [eqWorks_refl h.2.1, eqCalendar_refl h.2.2.2.2.2.2.2.1, eqInt64S_refl h.2.2.2.2.2.2.2.2.1]
def mkInt64S (k : Int) : Int := k
theorem markInt64S_eq {x : List Int} {k : Int} (h0 : 0 ≤ k) (hk : k ≤ 100000000000000) (hl : x.length ≤ 1048576) : l_markInt64S_o_m x k = some (k + 1 * x.length, (List.range x.length).map fun (j : Nat) => mkInt64S (k + 1 * (j : Int))) := by
  unfold l_markInt64S_o_m
  rw [markS_ok (c := 1) (B := 1000000000000000) (M := mkInt64S) (by omega) (fun k i ys a1 a2 a3 a4 a5 => ?_) (fun k i ys a => by simp [a]) h0 hl (by omega)]
  · rfl
  · obtain ⟨e, he, _, _⟩ := atI_some a3 a4
    have w : ∀ n : Int, 0 ≤ n → n ≤ 2000000000000000 → w64 n = n := fun n p q => w64_in (by omega) (by omega)
    simp only [if_pos a4, he, Option.bind_some, List.set_set, atI_set a3 a4, w (k + 1) (by omega) (by omega), w (i + 1) (by omega) (by omega)]
    simp [mkInt64S, Int.add_assoc]
theorem heldInt64S_eq {n : Nat} {k : Int} (h0 : 0 ≤ k) (hk : k ≤ 100000000000000) (hl : n ≤ 1048576) : l_heldInt64S_m ((List.range n).map fun (j : Nat) => mkInt64S (k + 1 * (j : Int))) k = some (k + 1 * n) := by
  unfold l_heldInt64S_m
  rw [heldS_ok (c := 1) (B := 1000000000000000) (M := mkInt64S) (n := n) (by omega) (fun k' i a1 a2 a3 a4 a5 => ?_) (fun k i a => by simp [a]) h0 hl (by omega)]
  · rfl
  · have he := marked_get (M := mkInt64S) (k0 := k) (c := 1) a3 a4
    have w : ∀ n : Int, 0 ≤ n → n ≤ 2000000000000000 → w64 n = n := fun n p q => w64_in (by omega) (by omega)
    rw [← a5] at he
    simp only [List.length_map, List.length_range, if_pos a4, he, Option.bind_some, w (k' + 1) (by omega) (by omega), w (i + 1) (by omega) (by omega)]
    simp [mkInt64S, Int.add_assoc]
def mkMeshS (k : Int) : Mesh_ := ⟨k, k + 1, k + 2, k + 3⟩
theorem markMeshS_eq {x : List Mesh_} {k : Int} (h0 : 0 ≤ k) (hk : k ≤ 100000000000000) (hl : x.length ≤ 1048576) : l_markMeshS_o_m x k = some (k + 4 * x.length, (List.range x.length).map fun (j : Nat) => mkMeshS (k + 4 * (j : Int))) := by
  unfold l_markMeshS_o_m
  rw [markS_ok (c := 4) (B := 1000000000000000) (M := mkMeshS) (by omega) (fun k i ys a1 a2 a3 a4 a5 => ?_) (fun k i ys a => by simp [a]) h0 hl (by omega)]
  · rfl
  · obtain ⟨e, he, _, _⟩ := atI_some a3 a4
    have w : ∀ n : Int, 0 ≤ n → n ≤ 2000000000000000 → w64 n = n := fun n p q => w64_in (by omega) (by omega)
    simp only [if_pos a4, he, Option.bind_some, List.set_set, atI_set a3 a4, w (k + 1) (by omega) (by omega), w (k + 1 + 1) (by omega) (by omega), w (k + 1 + 1 + 1) (by omega) (by omega), w (k + 1 + 1 + 1 + 1) (by omega) (by omega), w (i + 1) (by omega) (by omega)]
    simp [mkMeshS, Int.add_assoc]
theorem heldMeshS_eq {n : Nat} {k : Int} (h0 : 0 ≤ k) (hk : k ≤ 100000000000000) (hl : n ≤ 1048576) : l_heldMeshS_m ((List.range n).map fun (j : Nat) => mkMeshS (k + 4 * (j : Int))) k = some (k + 4 * n) := by
  unfold l_heldMeshS_m
  rw [heldS_ok (c := 4) (B := 1000000000000000) (M := mkMeshS) (n := n) (by omega) (fun k' i a1 a2 a3 a4 a5 => ?_) (fun k i a => by simp [a]) h0 hl (by omega)]
  · rfl
  · have he := marked_get (M := mkMeshS) (k0 := k) (c := 4) a3 a4
    have w : ∀ n : Int, 0 ≤ n → n ≤ 2000000000000000 → w64 n = n := fun n p q => w64_in (by omega) (by omega)
    rw [← a5] at he
    simp only [List.length_map, List.length_range, if_pos a4, he, Option.bind_some, w (k' + 1) (by omega) (by omega), w (k' + 1 + 1) (by omega) (by omega), w (k' + 1 + 1 + 1) (by omega) (by omega), w (k' + 1 + 1 + 1 + 1) (by omega) (by omega), w (i + 1) (by omega) (by omega)]
    simp [mkMeshS, Int.add_assoc]
def mkMonthS (k : Int) : Month_ := ⟨mkT k, k + 1, k + 2⟩
theorem markMonthS_eq {x : List Month_} {k : Int} (h0 : 0 ≤ k) (hk : k ≤ 100000000000000) (hl : x.length ≤ 1048576) : l_markMonthS_o_m x k = some (k + 3 * x.length, (List.range x.length).map fun (j : Nat) => mkMonthS (k + 3 * (j : Int))) := by
  unfold l_markMonthS_o_m
  rw [markS_ok (c := 3) (B := 1000000000000000) (M := mkMonthS) (by omega) (fun k i ys a1 a2 a3 a4 a5 => ?_) (fun k i ys a => by simp [a]) h0 hl (by omega)]
  · rfl
  · obtain ⟨e, he, _, _⟩ := atI_some a3 a4
    have w : ∀ n : Int, 0 ≤ n → n ≤ 2000000000000000 → w64 n = n := fun n p q => w64_in (by omega) (by omega)
    simp only [if_pos a4, he, Option.bind_some, List.set_set, atI_set a3 a4, w (k + 1) (by omega) (by omega), w (k + 1 + 1) (by omega) (by omega), w (k + 1 + 1 + 1) (by omega) (by omega), w (i + 1) (by omega) (by omega), markText_eq (show 0 ≤ k by omega) (by omega)]
    simp [mkMonthS, Int.add_assoc]
theorem heldMonthS_eq {n : Nat} {k : Int} (h0 : 0 ≤ k) (hk : k ≤ 100000000000000) (hl : n ≤ 1048576) : l_heldMonthS_m ((List.range n).map fun (j : Nat) => mkMonthS (k + 3 * (j : Int))) k = some (k + 3 * n) := by
  unfold l_heldMonthS_m
  rw [heldS_ok (c := 3) (B := 1000000000000000) (M := mkMonthS) (n := n) (by omega) (fun k' i a1 a2 a3 a4 a5 => ?_) (fun k i a => by simp [a]) h0 hl (by omega)]
  · rfl
  · have he := marked_get (M := mkMonthS) (k0 := k) (c := 3) a3 a4
    have w : ∀ n : Int, 0 ≤ n → n ≤ 2000000000000000 → w64 n = n := fun n p q => w64_in (by omega) (by omega)
    rw [← a5] at he
    simp only [List.length_map, List.length_range, if_pos a4, he, Option.bind_some, w (k' + 1) (by omega) (by omega), w (k' + 1 + 1) (by omega) (by omega), w (k' + 1 + 1 + 1) (by omega) (by omega), w (i + 1) (by omega) (by omega), markText_eq (show 0 ≤ k' by omega) (by omega)]
    simp [mkMonthS, Int.add_assoc]
def mkLeapRuleS (k : Int) : LeapRule_ := ⟨k, k + 1, decide ((k + 2).tmod 3 = 0)⟩
theorem markLeapRuleS_eq {x : List LeapRule_} {k : Int} (h0 : 0 ≤ k) (hk : k ≤ 100000000000000) (hl : x.length ≤ 1048576) : l_markLeapRuleS_o_m x k = some (k + 3 * x.length, (List.range x.length).map fun (j : Nat) => mkLeapRuleS (k + 3 * (j : Int))) := by
  unfold l_markLeapRuleS_o_m
  rw [markS_ok (c := 3) (B := 1000000000000000) (M := mkLeapRuleS) (by omega) (fun k i ys a1 a2 a3 a4 a5 => ?_) (fun k i ys a => by simp [a]) h0 hl (by omega)]
  · rfl
  · obtain ⟨e, he, _, _⟩ := atI_some a3 a4
    have w : ∀ n : Int, 0 ≤ n → n ≤ 2000000000000000 → w64 n = n := fun n p q => w64_in (by omega) (by omega)
    simp only [if_pos a4, he, Option.bind_some, List.set_set, atI_set a3 a4, w (k + 1) (by omega) (by omega), w (k + 1 + 1) (by omega) (by omega), w (k + 1 + 1 + 1) (by omega) (by omega), w (i + 1) (by omega) (by omega)]
    simp [mkLeapRuleS, Int.add_assoc]
theorem heldLeapRuleS_eq {n : Nat} {k : Int} (h0 : 0 ≤ k) (hk : k ≤ 100000000000000) (hl : n ≤ 1048576) : l_heldLeapRuleS_m ((List.range n).map fun (j : Nat) => mkLeapRuleS (k + 3 * (j : Int))) k = some (k + 3 * n) := by
  unfold l_heldLeapRuleS_m
  rw [heldS_ok (c := 3) (B := 1000000000000000) (M := mkLeapRuleS) (n := n) (by omega) (fun k' i a1 a2 a3 a4 a5 => ?_) (fun k i a => by simp [a]) h0 hl (by omega)]
  · rfl
  · have he := marked_get (M := mkLeapRuleS) (k0 := k) (c := 3) a3 a4
    have w : ∀ n : Int, 0 ≤ n → n ≤ 2000000000000000 → w64 n = n := fun n p q => w64_in (by omega) (by omega)
    rw [← a5] at he
    simp only [List.length_map, List.length_range, if_pos a4, he, Option.bind_some, w (k' + 1) (by omega) (by omega), w (k' + 1 + 1) (by omega) (by omega), w (k' + 1 + 1 + 1) (by omega) (by omega), w (i + 1) (by omega) (by omega)]
    simp [mkLeapRuleS, Int.add_assoc]
def smDate_ (x : Date_) : Prop := (fun _ => True) x.Year ∧ (fun _ => True) x.Month ∧ (fun _ => True) x.Day
def smPerpetual_ (x : Perpetual_) : Prop := (smL (fun _ => True)) x.Cam ∧ (fun _ => True) x.Months ∧ (fun _ => True) x.Teeth ∧ (fun _ => True) x.At ∧ (fun _ => True) x.Day ∧ (fun _ => True) x.Week ∧ (fun _ => True) x.Weekday
def smSim_ (x : Sim_) : Prop := smMovement_ x.Movement ∧ smDate_ x.Start ∧ (fun _ => True) x.First ∧ (fun _ => True) x.Clock ∧ smPerpetual_ x.Dial
theorem toDate_eq {x : Date_} (h : smDate_ x) : l_toDate_m x = some x := rfl
theorem eqDate_refl {x : Date_} (h : smDate_ x) : l_eqDate_m x x = some true := by
  unfold l_eqDate_m
  simp []
theorem eqPerpetual_refl {x : Perpetual_} (h : smPerpetual_ x) : l_eqPerpetual_m x x = some true := by
  unfold l_eqPerpetual_m
  simp [eqInt64S_refl h.1]
theorem eqSim_refl {x : Sim_} (h : smSim_ x) : l_eqSim_m x x = some true := by
  unfold l_eqSim_m
  simp [eqMovement_refl h.1, eqDate_refl h.2.1, eqPerpetual_refl h.2.2.2.2]
theorem markPerpetual_eq {x : Perpetual_} {k : Int} (h0 : 0 ≤ k) (hk : k ≤ 8000000000000) (h : smPerpetual_ x) : l_markPerpetual_o_m x k = some (k + 1 * x.Cam.length, ((List.range x.Cam.length).map fun (j : Nat) => mkInt64S (k + 1 * (j : Int)))) := by
  have g0 := (h.1).1
  unfold l_markPerpetual_o_m
  simp only [markInt64S_eq (x := x.Cam) (k := k) (by omega) (by omega) (h.1).1, Option.bind_some, List.length_map, List.length_range, chk_true]
theorem heldPerpetual_eq {x : Perpetual_} {k : Int} (h0 : 0 ≤ k) (hk : k ≤ 8000000000000) (h : smPerpetual_ x) : l_heldPerpetual_m ⟨((List.range x.Cam.length).map fun (j : Nat) => mkInt64S (k + 1 * (j : Int))), x.Months, x.Teeth, x.At, x.Day, x.Week, x.Weekday⟩ k = some (k + 1 * x.Cam.length) := by
  have g0 := (h.1).1
  unfold l_heldPerpetual_m
  simp only [heldInt64S_eq (n := x.Cam.length) (k := k) (by omega) (by omega) (h.1).1, Option.bind_some, List.length_map, List.length_range, Int.not_lt.2 (show 0 ≤ k + 1 * x.Cam.length by omega), if_false]
end Go.Proofs.YtjhadibjjldpdabGreat
namespace Go.Proofs.YtjhadibjjldpdabGreat
set_option linter.unusedVariables false
def inArb (w : Works_) (k : Int) : Bool := decide (0 ≤ k ∧ k < w.Arbors.length)
def movB (m : Movement_) : Bool := nameB m.Name && (wksB m.Works && (inArb m.Works m.Minute && (inArb m.Works m.Hour && (inArb m.Works m.Escape && (toothB m.Teeth && (btw m.Beats 1 36000 && (calB m.Calendar && (camB m.Cam && btw m.Strike 0 2))))))))
theorem smW {w : Works_} (h : smWorks_ w) : w.Arbors.length ≤ 9223372036854775807 ∧ (∀ b ∈ w.Arbors, b.Wheels.length ≤ 9223372036854775807) ∧ w.Meshes.length ≤ 9223372036854775807 := by
  have h1 := h.1.1
  have h2 := h.2.1
  exact ⟨by omega, fun b hb => by have := (h.1.2 b hb).2.1; omega, by omega⟩
theorem i_isArbor_eq {w : Works_} (hl : w.Arbors.length ≤ 9223372036854775807) (k : Int) : i_isArbor_m w k = some (inArb w k) := by
  unfold i_isArbor_m; rw [i_within_eq, Option.bind_some, btw_len hl]; rfl
theorem s_l08Root_eq {w : Works_} (hl : w.Arbors.length ≤ 9223372036854775807) (k : Int) : s_l08Root_m w k = some (inArb w k) := by
  unfold s_l08Root_m; rw [s_l00In_eq, Option.bind_some, btw_len hl]; rfl
theorem i_ValidMovement_eq {m : Movement_} (h : smMovement_ m) : i_ValidMovement_m m = some (movB m) := by
  obtain ⟨_, h2, _, _, _, _, _, h8, h9, _⟩ := h
  obtain ⟨w1, w2, w3⟩ := smW h2
  have c1 := h8.2.1.1
  have c2 := h8.2.2.1.1
  have c3 := h9.1
  unfold i_ValidMovement_m movB
  simp only [i_isArbor_eq w1, i_toothed_eq, i_within_eq, i_IsName_eq, i_ValidWorks_eq w1 w2 w3, i_ValidCalendar_eq (c := m.Calendar) (by omega) (by omega), i_ValidCam_eq (xs := m.Cam) (by omega), Option.bind_some, itA]
  congr 1
  ac_rfl
theorem s_l26Ok_eq {m : Movement_} (h : smMovement_ m) : s_l26Ok_m m = some (movB m) := by
  obtain ⟨_, h2, _, _, _, _, _, h8, h9, _⟩ := h
  obtain ⟨w1, w2, w3⟩ := smW h2
  have c1 := h8.2.1.1
  have c2 := h8.2.2.1.1
  have c3 := h9.1
  unfold s_l26Ok_m movB
  simp only [s_l08Root_eq w1, s_l05Teeth_eq, s_l00In_eq, s_IsName_eq, s_l08Ok_eq w1 w2 w3, s_l15Ok_eq (c := m.Calendar) (by omega) (by omega), s_l17Ok_eq (xs := m.Cam) (by omega), Option.bind_some, itA, itO, itF, Bool.not_or, Bool.not_not]
  congr 1
  ac_rfl
end Go.Proofs.YtjhadibjjldpdabGreat
namespace Go.Proofs.YtjhadibjjldpdabGreat
set_option linter.unusedVariables false
def leapF (y : Int) (b : Bool) (r : LeapRule_) : Bool := if y % r.Every = r.Rest then r.Leap else b
def leapB (c : Calendar_) (y : Int) : Bool := c.Rules.foldl (leapF y) false
theorem calB_iff {c : Calendar_} (h : calB c = true) : nameB c.Name = true ∧ (1 ≤ c.Months.length ∧ c.Months.length ≤ 20) ∧ c.Rules.length ≤ 6 ∧ (1 ≤ c.Week ∧ c.Week ≤ 12) ∧ monsB c.Months = true ∧ c.Rules.all ruleB = true ∧ cyc c.Rules ≤ 2000 := by
  unfold calB at h
  simp only [Bool.and_eq_true, decide_eq_true_eq] at h
  exact ⟨h.1, h.2.1, h.2.2.1, of_decide_eq_true h.2.2.2.1, h.2.2.2.2.1, h.2.2.2.2.2.1, h.2.2.2.2.2.2⟩
theorem leap_loop {c : Calendar_} (h : calB c = true) {y : Int} (y0 : 0 ≤ y) {step : Bool × Int → Option ((Bool × Int) ⊕ Bool)} (hS : ∀ (i : Nat) (hi : i < c.Rules.length) b, c.Rules[i].Every ≠ 0 → step (b, (i : Int)) = some (.inl ((if y.tmod c.Rules[i].Every = c.Rules[i].Rest then c.Rules[i].Leap else b), w64 ((i : Int) + 1)))) (hE : ∀ b, step (b, (c.Rules.length : Int)) = some (.inr b)) :
    loopM step (false, 0) = some (leapB c y) := by
  obtain ⟨_, _, hr, _, _, hb, _⟩ := calB_iff h
  have := loop_for (xs := c.Rules) (step := step) (fun i b => (b, i)) (fun _ r b => some (.inl (leapF y b r))) id (by omega) (fun i hi b => by
    have hq := ruleB_iff.1 ((List.all_eq_true.1 hb) _ (List.getElem_mem hi))
    rw [hS i hi b (by omega), w64_in (by omega) (by omega), Int.tmod_eq_emod_of_nonneg y0]; rfl) (fun b => hE b) false
  rw [this, forL_fold (leapF y) (fun _ _ _ => rfl)]; rfl
theorem i_isLeap_eq {c : Calendar_} (h : calB c = true) {y : Int} (y0 : 0 ≤ y) : i_isLeap_m c y = some (leapB c y) := by
  unfold i_isLeap_m
  rw [leap_loop h y0 (fun i hi b he => by
    have hi' : (i : Int) < c.Rules.length := by omega
    simp only [if_pos hi', atI_lt hi, Option.bind_some, chk_t he]
    split <;> rfl) (fun b => by simp)]; rfl
theorem s_l15Leap_eq {c : Calendar_} (h : calB c = true) {y : Int} (y0 : 0 ≤ y) : s_l15Leap_m c y = some (leapB c y) := by
  unfold s_l15Leap_m
  rw [leap_loop h y0 (fun i hi b he => by
    have hi' : (i : Int) < c.Rules.length := by omega
    simp only [if_pos hi', atI_lt hi, Option.bind_some, chk_t he]
    split <;> rfl) (fun b => by simp)]; rfl
def monAt (c : Calendar_) (k : Int) : Month_ := c.Months.getD k.toNat ⟨⟨#[]⟩, 0, 0⟩
def lenM (c : Calendar_) (leap : Bool) (k : Int) : Int := if leap = true then (monAt c k).Leap else (monAt c k).Days
theorem monAt_ok {c : Calendar_} {k : Int} (h0 : 0 ≤ k) (h1 : k < c.Months.length) : atI c.Months k = some (monAt c k) ∧ monAt c k ∈ c.Months := by
  obtain ⟨e, he, hm, hg⟩ := atI_some h0 h1
  have : monAt c k = e := by unfold monAt; rw [List.getD_eq_getElem?_getD, hg]; rfl
  rw [this]; exact ⟨he, hm⟩
theorem mon_in {c : Calendar_} (h : calB c = true) {m : Month_} (hm : m ∈ c.Months) : (1 ≤ m.Days ∧ m.Days ≤ 60) ∧ 1 ≤ m.Leap ∧ m.Leap ≤ 60 := by
  obtain ⟨_, _, _, _, hb, _⟩ := calB_iff h
  obtain ⟨i, hi, rfl⟩ := List.getElem_of_mem hm
  have := allI_iff.1 hb i hi
  unfold monB btw at this
  simp only [Bool.and_eq_true, decide_eq_true_eq] at this
  exact ⟨this.1.2.1, this.1.2.2⟩
theorem lenM_in {c : Calendar_} (h : calB c = true) (l : Bool) {k : Int} (h0 : 0 ≤ k) (h1 : k < c.Months.length) : 1 ≤ lenM c l k ∧ lenM c l k ≤ 60 := by
  have := mon_in h (monAt_ok h0 h1).2
  unfold lenM
  cases l <;> simp <;> omega
theorem i_daysOfMonth_eq {c : Calendar_} (h : calB c = true) (l : Bool) {m : Int} (h0 : 1 ≤ m) (h1 : m ≤ c.Months.length) : i_daysOfMonth_m c l m = some (lenM c l (m - 1)) := by
  have hc := (calB_iff h).2.1.2
  unfold i_daysOfMonth_m lenM
  rw [w64_in (by omega) (by omega), (monAt_ok (c := c) (k := m - 1) (by omega) (by omega)).1]
  cases l <;> rfl
theorem s_l15Days_eq {c : Calendar_} (h : calB c = true) {y : Int} (y0 : 0 ≤ y) {k : Int} (h0 : 0 ≤ k) (h1 : k < c.Months.length) : s_l15Days_m c y k = some (lenM c (leapB c y) k) := by
  unfold s_l15Days_m lenM
  rw [s_l15Leap_eq h y0, Option.bind_some, (monAt_ok h0 h1).1]
  cases leapB c y <;> rfl
def dateB (c : Calendar_) (d : Date_) : Bool := btw d.Year 0 9999 && (btw d.Month 1 c.Months.length && btw d.Day 1 (lenM c (leapB c d.Year) (d.Month - 1)))
theorem i_ValidDate_eq {c : Calendar_} (hm : c.Months.length ≤ 9223372036854775807) (hr : c.Rules.length ≤ 9223372036854775807) (d : Date_) : i_ValidDate_m c d = some (calB c && dateB c d) := by
  unfold i_ValidDate_m dateB
  rw [i_ValidCalendar_eq hm hr, Option.bind_some]
  cases h : calB c
  · rfl
  · unfold i_isYear_m i_isMonth_m
    simp only [i_within_eq, Option.bind_some]
    cases hy : btw d.Year 0 9999
    · rfl
    · cases hmo : btw d.Month 1 (c.Months.length : Int)
      · rfl
      · have hy := of_decide_eq_true hy
        have hmo := of_decide_eq_true hmo
        simp only [if_true]
        rw [i_isLeap_eq h hy.1, Option.bind_some, i_daysOfMonth_eq h _ hmo.1 hmo.2]; rfl
theorem s_l16Ok_eq {c : Calendar_} (h : calB c = true) (d : Date_) : s_l16Ok_m c d = some (dateB c d) := by
  unfold s_l16Ok_m dateB s_l15Year_m
  simp only [s_l00In_eq, Option.bind_some]
  cases hy : btw d.Year 0 9999
  · rfl
  · cases hmo : btw d.Month 1 (c.Months.length : Int)
    · rfl
    · have hy := of_decide_eq_true hy
      have hmo := of_decide_eq_true hmo
      have hc := (calB_iff h).2.1.2
      simp only [Bool.not_true, Bool.false_eq_true, if_false, Option.bind_some]
      rw [w64_in (by omega) (by omega), s_l15Days_eq h hy.1 (by omega) (by omega)]; rfl
theorem camB_iff {xs : List Int} (h : camB xs = true) : (∀ v ∈ xs, 1 ≤ v ∧ v ≤ 60) ∧ 1 ≤ xs.length ∧ xs.length ≤ 260 := by
  unfold camB at h
  simp only [Bool.and_eq_true, decide_eq_true_eq, List.all_eq_true] at h
  exact ⟨fun v hv => of_decide_eq_true (h.1 v hv), h.2⟩
def askC (c : Calendar_) (cam : List Int) : Int := if (calB c && camB cam) = true then (if (cam.length : Int) % c.Months.length = 0 then 0 else 6) else 1
theorem askC_ok {c : Calendar_} {cam : List Int} (h : askC c cam = 0) : calB c = true ∧ camB cam = true ∧ (cam.length : Int) % c.Months.length = 0 ∧ 1 ≤ (cam.length : Int) / c.Months.length ∧ (cam.length : Int) / c.Months.length ≤ 260 := by
  unfold askC at h
  split at h
  · rename_i h1
    rw [Bool.and_eq_true] at h1
    split at h
    · rename_i h2
      have a := (calB_iff h1.1).2.1
      have b := (camB_iff h1.2).2
      have e := Int.emod_add_mul_ediv (cam.length : Int) c.Months.length
      have q := quo_bd (a := (cam.length : Int)) (g := (c.Months.length : Int)) (by omega) (by omega)
      refine ⟨h1.1, h1.2, h2, ?_, by omega⟩
      rcases Int.lt_or_le 0 ((cam.length : Int) / c.Months.length) with h | h
      · omega
      · have : (cam.length : Int) / c.Months.length = 0 := by omega
        rw [this, h2] at e
        omega
    · cases h
  · cases h
theorem i_belongs_eq {c : Calendar_} {cam : List Int} (h1 : 1 ≤ c.Months.length) (h2 : cam.length ≤ 9223372036854775807) : i_belongs_m c cam = some (if (cam.length : Int) % c.Months.length = 0 then (cam.length : Int) / c.Months.length else 0) := by
  unfold i_belongs_m
  have q := quo_bd (a := (cam.length : Int)) (g := (c.Months.length : Int)) (by omega) (by omega)
  rw [chk_t (by omega), Int.tmod_eq_emod_of_nonneg (by omega), chk_t (by omega), Int.tdiv_eq_ediv_of_nonneg (by omega), w64_in (by omega) (by omega)]
  by_cases h : (cam.length : Int) % c.Months.length = 0
  · rw [if_neg (by simp [h]), if_pos h]
  · rw [if_pos h, if_neg h]
theorem i_askedCam_eq {c : Calendar_} {cam : List Int} (hm : c.Months.length ≤ 9223372036854775807) (hr : c.Rules.length ≤ 9223372036854775807) (hl : cam.length ≤ 9223372036854775807) : i_askedCam_m c cam = some (askC c cam) := by
  unfold i_askedCam_m
  simp only [i_ValidCalendar_eq hm hr, i_ValidCam_eq hl, Option.bind_some, itO]
  cases h1 : calB c
  · unfold askC; rw [h1]; rfl
  · cases h2 : camB cam
    · unfold askC; rw [h1, h2]; rfl
    · have a := (calB_iff h1).2.1
      simp only [Bool.not_true, Bool.or_self, Bool.false_eq_true, if_false]
      rw [i_belongs_eq a.1 hl, Option.bind_some]
      unfold askC
      rw [h1, h2]
      by_cases h : (cam.length : Int) % c.Months.length = 0
      · have h0 : askC c cam = 0 := by unfold askC; rw [h1, h2, if_pos (show (true && true) = true from rfl), if_pos h]
        have := askC_ok h0
        rw [if_pos h, if_neg (by omega), if_pos (show (true && true) = true from rfl), if_pos h]
      · rw [if_neg h, if_pos rfl, if_pos (show (true && true) = true from rfl), if_neg h]
theorem s_l17Ask_eq {c : Calendar_} {cam : List Int} (hm : c.Months.length ≤ 9223372036854775807) (hr : c.Rules.length ≤ 9223372036854775807) (hl : cam.length ≤ 9223372036854775807) : s_l17Ask_m c cam = some (askC c cam) := by
  unfold s_l17Ask_m askC
  simp only [s_l15Ok_eq hm hr, s_l17Ok_eq hl, Option.bind_some, itO]
  cases h1 : calB c
  · rfl
  · cases h2 : camB cam
    · rfl
    · have a := (calB_iff h1).2.1
      simp only [Bool.not_true, Bool.or_self, Bool.false_eq_true, if_false, Bool.and_self, if_true]
      rw [chk_t (by omega), Int.tmod_eq_emod_of_nonneg (by omega)]
      by_cases h : (cam.length : Int) % c.Months.length = 0
      · rw [if_neg (by simp [h]), if_pos h]
      · rw [if_pos h, if_neg h]
def maxL (xs : List Int) : Int := xs.foldl max 0
def teethF (t : Int) (m : Month_) : Int := max (max t m.Days) m.Leap
def teethC (c : Calendar_) (cam : List Int) : Int := c.Months.foldl teethF (maxL cam)
theorem i_Max_eq {xs : List Int} (h1 : 1 ≤ xs.length) (h2 : xs.length ≤ 9223372036854775807) (h3 : ∀ v ∈ xs, 0 ≤ v) : slices_Max_Lint64_int64_m xs = some (maxL xs) := by
  unfold slices_Max_Lint64_int64_m maxL
  rw [if_neg (by omega), Option.bind_some]
  cases xs with
  | nil => simp at h1
  | cons x xs =>
    have e0 : atI (x :: xs) 0 = some x := by rw [show (0 : Int) = ((0 : Nat) : Int) from rfl, atI_nat]; rfl
    have hx := h3 x (List.mem_cons_self ..)
    have hq : loopM (S := Int × Int) (X := Int) (fun s5 => (if s5.2 < ((x :: xs).length : Int) then ((atI (x :: xs) s5.2).bind fun v6 => some (.inl (max s5.1 v6, w64 (s5.2 + 1)))) else some (.inr s5.1))) (x, 1) = some (xs.foldl max x) := by
      have := loop_for (xs := xs) (step := fun (s5 : Int × Int) => (if s5.2 < ((x :: xs).length : Int) then ((atI (x :: xs) s5.2).bind fun v6 => some (.inl (max s5.1 v6, w64 (s5.2 + 1)))) else some (.inr s5.1))) (fun i (s : Int) => (s, i + 1)) (fun _ v s => some (.inl (max s v))) id (by simp at h2; omega) (fun i hi s => by
        simp only [List.length_cons] at h2
        have hi' : (i : Int) + 1 < ((x :: xs).length : Int) := by simp; omega
        have ea : atI (x :: xs) ((i : Int) + 1) = some xs[i] := by
          rw [show (i : Int) + 1 = ((i + 1 : Nat) : Int) by omega, atI_nat, List.getElem?_cons_succ, List.getElem?_eq_getElem hi]
        simp only [if_pos hi', ea, Option.bind_some, w64_in (x := (i : Int) + 1 + 1) (by omega) (by omega)]; rfl) (fun s => by simp) x
      rw [forL_fold max (fun _ _ _ => rfl)] at this
      exact this
    rw [e0, Option.bind_some, hq, List.foldl_cons, Int.max_eq_right hx]; rfl
theorem s_l00Max_eq (a b : Int) : s_l00Max_m a b = some (max a b) := by
  unfold s_l00Max_m
  split
  · congr 1; omega
  · congr 1; omega
def setR (c : Calendar_) (cam : List Int) (d : Date_) (wd : Int) : Perpetual_ × Int :=
  if askC c cam = 0 then (if (dateB c d && btw wd 1 c.Week) = true then (⟨cam, c.Months.length, teethC c cam, w64 ((w64 ((w64 ((d.Year.tmod ((cam.length : Int) / c.Months.length)) * (c.Months.length : Int))) + d.Month)) - 1), d.Day, c.Week, wd⟩, 0) else (⟨[], 0, 0, 0, 0, 0, 0⟩, 2)) else (⟨[], 0, 0, 0, 0, 0, 0⟩, askC c cam)
theorem i_cloneI {xs : List Int} (hl : xs.length ≤ 1048576) : slices_Clone_Lint64_int64_m xs = some xs := by
  unfold slices_Clone_Lint64_int64_m
  rw [chk_t (by simp; omega), List.nil_append]
theorem s_ownI {xs : List Int} (hl : xs.length ≤ 1048576) : s_l00Own_m xs = some xs := by
  unfold s_l00Own_m
  rw [chk_t (by simp; omega), List.nil_append]
theorem i_SetPerpetual_eq {c : Calendar_} {cam : List Int} (hm : c.Months.length ≤ 9223372036854775807) (hr : c.Rules.length ≤ 9223372036854775807) (hl : cam.length ≤ 1048576) (d : Date_) (wd : Int) : i_SetPerpetual_m c cam d wd = some (setR c cam d wd) := by
  unfold i_SetPerpetual_m setR
  rw [i_askedCam_eq hm hr (by omega), Option.bind_some]
  by_cases h : askC c cam = 0
  · obtain ⟨h1, h2, h3, h4, h5⟩ := askC_ok h
    have a := (calB_iff h1).2.1
    have b := camB_iff h2
    rw [if_neg (by simp [h]), if_pos h, i_ValidDate_eq hm hr, h1]
    simp only [Option.bind_some, Bool.true_and, i_within_eq, itO]
    cases hd : dateB c d
    · rfl
    · cases hw : btw wd 1 c.Week
      · rfl
      · simp only [Bool.not_true, Bool.or_self, Bool.false_eq_true, if_false, Bool.and_self, if_true]
        have hq := loop_for (xs := c.Months) (step := fun (s8 : Int × Int) => (if s8.2 < (c.Months.length : Int) then ((atI c.Months s8.2).bind fun v9 => some (.inl (max (max s8.1 v9.Days) v9.Leap, w64 (s8.2 + 1)))) else some (.inr s8.1))) (fun i (s : Int) => (s, i)) (fun _ m s => some (.inl (teethF s m))) id hm (fun i hi s => by
          have hi' : (i : Int) < c.Months.length := by omega
          simp only [if_pos hi', atI_lt hi, Option.bind_some, w64_in (x := (i : Int) + 1) (by omega) (by omega)]; rfl) (fun s => by simp) (maxL cam)
        rw [forL_fold teethF (fun _ _ _ => rfl)] at hq
        rw [i_Max_eq b.2.1 (by omega) (fun v hv => by have := b.1 v hv; omega), Option.bind_some, hq]
        simp only [Option.map_some, Option.bind_some, i_cloneI hl, i_belongs_eq a.1 (show cam.length ≤ 9223372036854775807 by omega), if_pos h3]
        rw [chk_t (by omega)]; rfl
  · rw [if_pos h, if_neg h]
theorem s_SetPerpetual_eq {c : Calendar_} {cam : List Int} (hm : c.Months.length ≤ 9223372036854775807) (hr : c.Rules.length ≤ 9223372036854775807) (hl : cam.length ≤ 1048576) (d : Date_) (wd : Int) : s_SetPerpetual_m c cam d wd = some (setR c cam d wd) := by
  unfold s_SetPerpetual_m setR
  rw [s_l17Ask_eq hm hr (by omega), Option.bind_some]
  by_cases h : askC c cam = 0
  · obtain ⟨h1, h2, h3, h4, h5⟩ := askC_ok h
    have a := (calB_iff h1).2.1
    rw [if_neg (by simp [h]), if_pos h, s_l16Ok_eq h1]
    simp only [Option.bind_some, s_l00In_eq, itO]
    cases hd : dateB c d
    · rfl
    · cases hw : btw wd 1 c.Week
      · rfl
      · simp only [Bool.not_true, Bool.or_self, Bool.false_eq_true, if_false, Bool.and_self, if_true]
        have hk : w64 ((cam.length : Int).tdiv (c.Months.length : Int)) = (cam.length : Int) / c.Months.length := by rw [Int.tdiv_eq_ediv_of_nonneg (by omega), w64_in (by omega) (by omega)]
        have hq1 := loop_for (xs := cam) (step := fun (s11 : Int × Int) => (if s11.1 < (cam.length : Int) then ((atI cam s11.1).bind fun v12 => ((s_l00Max_m s11.2 v12).bind fun v13 => some (.inl (w64 (s11.1 + 1), v13)))) else some (.inr s11.2))) (fun i (s : Int) => (i, s)) (fun _ v s => some (.inl (max s v))) id (by omega) (fun i hi s => by
          have hi' : (i : Int) < cam.length := by omega
          simp only [if_pos hi', atI_lt hi, Option.bind_some, s_l00Max_eq, w64_in (x := (i : Int) + 1) (by omega) (by omega)]; rfl) (fun s => by simp) 0
        rw [forL_fold max (fun _ _ _ => rfl)] at hq1
        have hq2 := loop_for (xs := c.Months) (step := fun (s20 : Int × Int) => (if s20.1 < (c.Months.length : Int) then ((atI c.Months s20.1).bind fun v21 => ((atI c.Months s20.1).bind fun v22 => ((s_l00Max_m v21.Days v22.Leap).bind fun v23 => ((s_l00Max_m s20.2 v23).bind fun v24 => some (.inl (w64 (s20.1 + 1), v24)))))) else some (.inr s20.2))) (fun i (s : Int) => (i, s)) (fun _ m s => some (.inl (teethF s m))) id hm (fun i hi s => by
          have hi' : (i : Int) < c.Months.length := by omega
          have e : max s (max c.Months[i].Days c.Months[i].Leap) = teethF s c.Months[i] := by unfold teethF; omega
          simp only [if_pos hi', atI_lt hi, Option.bind_some, s_l00Max_eq, e, w64_in (x := (i : Int) + 1) (by omega) (by omega)]; rfl) (fun s => by simp) (maxL cam)
        rw [forL_fold teethF (fun _ _ _ => rfl)] at hq2
        rw [s_ownI hl, Option.bind_some, hk, chk_t (by omega), chk_t (by omega), hq1]
        simp only [Option.map_some, Option.bind_some]
        have e0 : Sum.elim id id (Sum.inl (cam.foldl max 0) : Int ⊕ Int) = maxL cam := rfl
        rw [e0, hq2]; rfl
  · rw [if_pos h, if_neg h]
end Go.Proofs.YtjhadibjjldpdabGreat
namespace Go.Proofs.YtjhadibjjldpdabGreat
set_option linter.unusedVariables false
def sumN (g : Nat → Int) : Nat → Int
  | 0 => 0
  | n + 1 => sumN g n + g n
theorem sumN_bd {g : Nat → Int} {lo hi : Int} {n : Nat} (h : ∀ k, k < n → lo ≤ g k ∧ g k ≤ hi) : lo * n ≤ sumN g n ∧ sumN g n ≤ hi * n := by
  induction n with
  | zero => simp [sumN]
  | succ n ih =>
    have h1 := ih fun k hk => h k (by omega)
    have h2 := h n (by omega)
    have e1 : lo * ((n + 1 : Nat) : Int) = lo * n + lo := by push_cast; rw [Int.mul_add]; omega
    have e2 : hi * ((n + 1 : Nat) : Int) = hi * n + hi := by push_cast; rw [Int.mul_add]; omega
    rw [e1, e2]
    unfold sumN
    omega
theorem sumN_add (g : Nat → Int) (m : Nat) : ∀ n, sumN g (m + n) = sumN g m + sumN (fun k => g (m + k)) n
  | 0 => by simp [sumN]
  | n + 1 => by
    show sumN g (m + n) + g (m + n) = _
    rw [sumN_add g m n]
    simp only [sumN]; omega
theorem sumN_mono {g : Nat → Int} (h : ∀ k, 0 ≤ g k) {m n : Nat} (hm : m ≤ n) : sumN g m ≤ sumN g n := by
  obtain ⟨k, rfl⟩ : ∃ k, n = m + k := ⟨n - m, by omega⟩
  rw [sumN_add]
  have := (sumN_bd (g := fun k => g (m + k)) (lo := 0) (hi := 0 + 1) (n := 0) fun k hk => by omega)
  have h2 : ∀ j, 0 ≤ sumN (fun k => g (m + k)) j := fun j => by
    induction j with
    | zero => simp [sumN]
    | succ j ih => have := h (m + j); simp only [sumN]; omega
  have := h2 k
  omega
def sumM (c : Calendar_) (l : Bool) : Int := sumN (fun k => lenM c l (k : Int)) c.Months.length
def lenY (c : Calendar_) (y : Nat) : Int := sumM c (leapB c y)
def bef (c : Calendar_) (y : Nat) : Int := sumN (lenY c) y
theorem sumM_bd {c : Calendar_} (h : calB c = true) (l : Bool) : 1 ≤ sumM c l ∧ sumM c l ≤ 1200 := by
  have hc := (calB_iff h).2.1
  have := sumN_bd (g := fun k => lenM c l (k : Int)) (lo := 1) (hi := 60) (n := c.Months.length) fun k hk => lenM_in h l (by omega) (by omega)
  unfold sumM
  omega
theorem lenY_bd {c : Calendar_} (h : calB c = true) (y : Nat) : 1 ≤ lenY c y ∧ lenY c y ≤ 1200 := sumM_bd h _
theorem bef_bd {c : Calendar_} (h : calB c = true) (y : Nat) : (y : Int) ≤ bef c y ∧ bef c y ≤ 1200 * y := by
  have := sumN_bd (g := lenY c) (lo := 1) (hi := 1200) (n := y) fun k _ => lenY_bd h k
  unfold bef
  omega
theorem bef_mono {c : Calendar_} (h : calB c = true) {m n : Nat} (hm : m ≤ n) : bef c m ≤ bef c n := sumN_mono (fun k => by have := (lenY_bd h k).1; omega) hm
end Go.Proofs.YtjhadibjjldpdabGreat
namespace Go.Proofs.YtjhadibjjldpdabGreat
set_option linter.unusedVariables false
theorem mulS_bd {a b A B : Int} (h1 : -A ≤ a) (h2 : a ≤ A) (h3 : -B ≤ b) (h4 : b ≤ B) : -(A * B) ≤ a * b ∧ a * b ≤ A * B := by
  have h : (a * b).natAbs ≤ (A * B).natAbs := by
    rw [Int.natAbs_mul, Int.natAbs_mul]
    exact Nat.mul_le_mul (by omega) (by omega)
  have hp : 0 ≤ A * B := Int.mul_nonneg (by omega) (by omega)
  generalize a * b = x at *
  generalize A * B = y at *
  omega
theorem mkR_val {n d : Int} (hd : d ≠ 0) (h : (mkR n d).2 = true) : ratB (mkR n d).1 = true ∧ ((mkR n d).1.Num = 0 ↔ n = 0) := by
  unfold mkR at h ⊢
  split at h
  · cases h
  · rename_i hc
    rw [if_neg hc]
    have hg : 0 < Int.gcd n d := gcd_pos hd
    have ea : absI n / (Int.gcd n d : Int) = ((n.natAbs / Int.gcd n d : Nat) : Int) := rfl
    have eb : absI d / (Int.gcd n d : Int) = ((d.natAbs / Int.gcd n d : Nat) : Int) := rfl
    have hco : Nat.Coprime (n.natAbs / Int.gcd n d) (d.natAbs / Int.gcd n d) := Nat.coprime_div_gcd_div_gcd hg
    have hb0 : 0 < d.natAbs / Int.gcd n d := Nat.div_pos (Nat.le_of_dvd (by omega) (Nat.gcd_dvd_right ..)) hg
    have ha0 : n.natAbs / Int.gcd n d = 0 ↔ n = 0 := by
      constructor
      · intro h0
        have := Nat.eq_mul_of_div_eq_right (Nat.gcd_dvd_left n.natAbs d.natAbs) h0
        omega
      · rintro rfl; simp
    rw [ea, eb] at hc ⊢
    generalize n.natAbs / Int.gcd n d = a at *
    generalize d.natAbs / Int.gcd n d = b at *
    refine ⟨ratB_iff.2 ⟨⟨by show 1 ≤ (b : Int); omega, by show (b : Int) ≤ _; omega⟩, ?_, ?_⟩, ?_⟩
    · dsimp only; split <;> omega
    · dsimp only
      unfold Int.gcd
      split
      · rw [Int.natAbs_neg, Int.natAbs_natCast, Int.natAbs_natCast]; exact hco
      · rw [Int.natAbs_natCast, Int.natAbs_natCast]; exact hco
    · dsimp only
      rw [← ha0]
      split <;> omega
theorem mkR_small {n d : Int} (hd : d ≠ 0) (n0 : -1000000000 ≤ n) (n1 : n ≤ 1000000000) (d0 : -1000000000 ≤ d) (d1 : d ≤ 1000000000) : (mkR n d).2 = true := by
  unfold mkR
  have hg := gcd_pos (n := n) hd
  have h1 := (quo_bd (a := absI n) (g := (Int.gcd n d : Int)) (absI_nn n) (by omega)).2
  have h2 := (quo_bd (a := absI d) (g := (Int.gcd n d : Int)) (absI_nn d) (by omega)).2
  have h3 : absI n ≤ 1000000000 := by unfold absI; omega
  have h4 : absI d ≤ 1000000000 := by unfold absI; omega
  rw [if_neg (by omega)]
def mulR (a b : Ratio_) : Ratio_ × Bool := mkR (a.Num * b.Num) (a.Den * b.Den)
theorem ratB_d {r : Ratio_} (h : ratB r = true) : 1 ≤ r.Den ∧ r.Den ≤ 1000000000 ∧ -1000000000 ≤ r.Num ∧ r.Num ≤ 1000000000 := by
  obtain ⟨⟨d0, d1⟩, ⟨n0, n1⟩, _⟩ := ratB_iff.1 h; exact ⟨d0, d1, n0, n1⟩
theorem mul_in {a b : Ratio_} (ha : ratB a = true) (hb : ratB b = true) : osI (a.Num * b.Num) ∧ osI (a.Den * b.Den) ∧ a.Den * b.Den ≠ 0 := by
  obtain ⟨d0, d1, n0, n1⟩ := ratB_d ha
  obtain ⟨e0, e1, m0, m1⟩ := ratB_d hb
  have h1 := mulS_bd n0 n1 m0 m1
  have h2 := mulS_bd (a := a.Den) (b := b.Den) (A := 1000000000) (B := 1000000000) (by omega) d1 (by omega) e1
  have h3 : a.Den * b.Den ≠ 0 := Int.mul_ne_zero (by omega) (by omega)
  refine ⟨⟨by omega, by omega⟩, ⟨by omega, by omega⟩, h3⟩
theorem mulR_val {a b : Ratio_} (ha : ratB a = true) (hb : ratB b = true) (h : (mulR a b).2 = true) : ratB (mulR a b).1 = true ∧ ((mulR a b).1.Num = 0 ↔ a.Num * b.Num = 0) := mkR_val (mul_in ha hb).2.2 h
theorem i_MulRatio_eq {a b : Ratio_} (ha : ratB a = true) (hb : ratB b = true) : i_MulRatio_m a b = some (codeR (mulR a b)) := by
  unfold i_MulRatio_m
  obtain ⟨h1, h2, h3⟩ := mul_in ha hb
  simp only [i_ValidRatio_eq, ha, hb, Option.bind_some, Bool.not_true, Bool.false_eq_true, if_false]
  rw [w64_in h1.1 h1.2, w64_in h2.1 h2.2, i_MakeRatio_eq h1 h2, Option.bind_some]
  unfold makeR mulR
  rw [if_neg h3]
theorem s_l02Mul_eq {a b : Ratio_} (ha : ratB a = true) (hb : ratB b = true) : s_l02Mul_m a b = some (mulR a b) := by
  unfold s_l02Mul_m
  obtain ⟨h1, h2, h3⟩ := mul_in ha hb
  rw [w64_in h1.1 h1.2, w64_in h2.1 h2.2, s_l02Make_eq h1 h2 h3, Option.bind_some]; rfl
end Go.Proofs.YtjhadibjjldpdabGreat
namespace Go.Proofs.YtjhadibjjldpdabGreat
set_option linter.unusedVariables false
def teethAt (w : Works_) (a k : Int) : Int := (w.Arbors[a.toNat]?.bind fun b => b.Wheels[k.toNat]?).getD 0
def pairM (w : Works_) (m : Mesh_) : Pair_ := ⟨teethAt w m.A m.WheelA, teethAt w m.B m.WheelB⟩
theorem wheel_at {w : Works_} {a k : Int} (h : whB w a k = true) : 0 ≤ a ∧ a < w.Arbors.length ∧ ∃ b t, atI w.Arbors a = some b ∧ b ∈ w.Arbors ∧ atI b.Wheels k = some t ∧ t ∈ b.Wheels ∧ teethAt w a k = t := by
  unfold whB at h
  rw [Bool.and_eq_true, decide_eq_true_eq] at h
  obtain ⟨h1, h2⟩ := h
  obtain ⟨b, hb, hm, hg⟩ := atI_some h1.1 h1.2
  rw [hg] at h2
  have h2 := of_decide_eq_true h2
  obtain ⟨t, ht, htm, htg⟩ := atI_some h2.1 h2.2
  exact ⟨h1.1, h1.2, b, t, hb, hm, ht, htm, by unfold teethAt; rw [hg]; simp [htg]⟩
theorem joinB_iff {w : Works_} {m : Mesh_} : joinB w m = true ↔ m.A ≠ m.B ∧ whB w m.A m.WheelA = true ∧ whB w m.B m.WheelB = true := by
  unfold joinB; simp only [Bool.and_eq_true, decide_eq_true_eq]
theorem wksB_iff {w : Works_} : wksB w = true ↔ w.Arbors.length ≤ 16 ∧ w.Meshes.length ≤ 24 ∧ (∀ (i : Nat) (hi : i < w.Arbors.length), arbB w.Arbors[i] = true ∧ ((w.Arbors.take i).any fun b => decide (b.Name = w.Arbors[i].Name)) = false) ∧ ∀ (i : Nat) (hi : i < w.Meshes.length), joinB w w.Meshes[i] = true ∧ ((w.Meshes.take i).any fun n => sameB w.Meshes[i] n) = false := by
  unfold wksB
  simp only [Bool.and_eq_true, decide_eq_true_eq, allI_iff, Bool.not_eq_true']
theorem wks_join {w : Works_} (h : wksB w = true) : ∀ m ∈ w.Meshes, joinB w m = true := fun m hm => by
  obtain ⟨i, hi, rfl⟩ := List.getElem_of_mem hm
  exact ((wksB_iff.1 h).2.2.2 i hi).1
theorem wks_arb {w : Works_} (h : wksB w = true) : ∀ a ∈ w.Arbors, arbB a = true := fun m hm => by
  obtain ⟨i, hi, rfl⟩ := List.getElem_of_mem hm
  exact ((wksB_iff.1 h).2.2.1 i hi).1
theorem tooth_in {w : Works_} (h : wksB w = true) {a k : Int} (hw : whB w a k = true) : 6 ≤ teethAt w a k ∧ teethAt w a k ≤ 240 := by
  obtain ⟨_, _, b, t, _, hb, _, ht, e⟩ := wheel_at hw
  have hb := wks_arb h b hb
  unfold arbB at hb
  rw [Bool.and_eq_true, List.all_eq_true] at hb
  have := hb.1 t ht
  unfold toothB btw at this
  rw [e]
  exact of_decide_eq_true this
theorem i_pairOf_eq {w : Works_} {m : Mesh_} (h : joinB w m = true) : i_pairOf_m w m = some (pairM w m) := by
  obtain ⟨_, h1, h2⟩ := joinB_iff.1 h
  obtain ⟨_, _, b, t, e1, _, e2, _, e3⟩ := wheel_at h1
  obtain ⟨_, _, b', t', f1, _, f2, _, f3⟩ := wheel_at h2
  unfold i_pairOf_m pairM
  simp only [e1, e2, f1, f2, Option.bind_some, e3, f3]
theorem s_l08Pair_eq {w : Works_} {m : Mesh_} (h : joinB w m = true) : s_l08Pair_m w m = some (pairM w m) := by
  obtain ⟨_, h1, h2⟩ := joinB_iff.1 h
  obtain ⟨_, _, b, t, e1, _, e2, _, e3⟩ := wheel_at h1
  obtain ⟨_, _, b', t', f1, _, f2, _, f3⟩ := wheel_at h2
  unfold s_l08Pair_m pairM
  simp only [e1, e2, f1, f2, Option.bind_some, e3, f3]
def meshed (v : Ratio_) (t u : Int) : Ratio_ × Bool := mulR v (mkR (-t) u).1
theorem step_val {t u : Int} (t0 : 6 ≤ t) (t1 : t ≤ 240) (u0 : 6 ≤ u) (u1 : u ≤ 240) : (mkR (-t) u).2 = true ∧ ratB (mkR (-t) u).1 = true ∧ (mkR (-t) u).1.Num ≠ 0 := by
  have h := mkR_small (n := -t) (d := u) (by omega) (by omega) (by omega) (by omega) (by omega)
  have h2 := mkR_val (n := -t) (d := u) (by omega) h
  exact ⟨h, h2.1, fun e => by have := h2.2.1 e; omega⟩
def KnR (r : Ratio_) : Prop := ratB r = true ∧ r.Num ≠ 0
theorem KnR.den {r : Ratio_} (h : KnR r) : r.Den ≠ 0 := by have := ratB_d h.1; omega
theorem meshed_val {v : Ratio_} {t u : Int} (hv : KnR v) (t0 : 6 ≤ t) (t1 : t ≤ 240) (u0 : 6 ≤ u) (u1 : u ≤ 240) (h : (meshed v t u).2 = true) : KnR (meshed v t u).1 := by
  obtain ⟨_, h2, h3⟩ := step_val t0 t1 u0 u1
  obtain ⟨h4, h5⟩ := mulR_val hv.1 h2 h
  exact ⟨h4, fun e => by
    rcases Int.mul_eq_zero.1 (h5.1 e) with h | h
    · exact hv.2 h
    · exact h3 h⟩
theorem i_meshed_eq {v : Ratio_} {t u : Int} (hv : KnR v) (t0 : 6 ≤ t) (t1 : t ≤ 240) (u0 : 6 ≤ u) (u1 : u ≤ 240) : i_meshed_m v t u = some (codeR (meshed v t u)) := by
  unfold i_meshed_m
  obtain ⟨h1, h2, h3⟩ := step_val t0 t1 u0 u1
  rw [w64_in (by omega) (by omega), i_MakeRatio_eq ⟨by omega, by omega⟩ ⟨by omega, by omega⟩, Option.bind_some]
  have e : (makeR (-t) u).1 = (mkR (-t) u).1 := by unfold makeR codeR; rw [if_neg (by omega), if_pos h1]
  rw [e, i_MulRatio_eq hv.1 h2]; rfl
def SpI (w : Works_) (sp : List Ratio_) : Prop := sp.length = w.Arbors.length ∧ ∀ r ∈ sp, r = ⟨0, 0⟩ ∨ KnR r
def getR (sp : List Ratio_) (i : Int) : Ratio_ := sp.getD i.toNat ⟨0, 0⟩
theorem getR_at {sp : List Ratio_} {i : Int} (h0 : 0 ≤ i) (h1 : i < sp.length) : atI sp i = some (getR sp i) ∧ getR sp i ∈ sp ∧ ∃ h : i.toNat < sp.length, sp[i.toNat] = getR sp i := by
  obtain ⟨e, he, hm, hg⟩ := atI_some h0 h1
  have : getR sp i = e := by unfold getR; rw [List.getD_eq_getElem?_getD, hg]; rfl
  rw [this]
  exact ⟨he, hm, (List.getElem?_eq_some_iff.1 hg)⟩
def rstep (w : Works_) (m : Mesh_) (s : Bool × List Ratio_) : (Bool × List Ratio_) ⊕ Unit :=
  if decide ((getR s.2 m.A).Den = 0) = decide ((getR s.2 m.B).Den = 0) then .inl s
  else if (getR s.2 m.A).Den = 0 then (if (meshed (getR s.2 m.B) (pairM w m).Driven (pairM w m).Driver).2 = true then .inl (true, s.2.set m.A.toNat (meshed (getR s.2 m.B) (pairM w m).Driven (pairM w m).Driver).1) else .inr ())
  else (if (meshed (getR s.2 m.A) (pairM w m).Driver (pairM w m).Driven).2 = true then .inl (true, s.2.set m.B.toNat (meshed (getR s.2 m.A) (pairM w m).Driver (pairM w m).Driven).1) else .inr ())
def roundF (w : Works_) : List Mesh_ → Bool × List Ratio_ → (Bool × List Ratio_) ⊕ Unit
  | [], s => .inl s
  | m :: ms, s => match rstep w m s with
    | .inl s' => roundF w ms s'
    | .inr u => .inr u
def cntU (sp : List Ratio_) : Nat := sp.countP fun r => decide (r.Den = 0)
theorem SpI.den {w : Works_} {sp : List Ratio_} (h : SpI w sp) {i : Int} (h0 : 0 ≤ i) (h1 : i < w.Arbors.length) (hd : (getR sp i).Den ≠ 0) : KnR (getR sp i) := by
  obtain ⟨_, hm, _⟩ := getR_at (sp := sp) h0 (by rw [h.1]; exact h1)
  rcases h.2 _ hm with e | e
  · rw [e] at hd; exact absurd rfl hd
  · exact e
theorem SpI.set {w : Works_} {sp : List Ratio_} (h : SpI w sp) (i : Nat) {v : Ratio_} (hv : KnR v) : SpI w (sp.set i v) := by
  refine ⟨by rw [List.length_set]; exact h.1, fun r hr => ?_⟩
  rcases List.mem_or_eq_of_mem_set hr with hr | rfl
  · exact h.2 r hr
  · exact .inr hv
theorem cntU_set {sp : List Ratio_} {i : Int} (h0 : 0 ≤ i) (h1 : i < sp.length) (hd : (getR sp i).Den = 0) {v : Ratio_} (hv : v.Den ≠ 0) : cntU (sp.set i.toNat v) < cntU sp := by
  obtain ⟨_, hm, hi, e⟩ := getR_at h0 h1
  unfold cntU
  have hp : 0 < sp.countP fun r => decide (r.Den = 0) := List.countP_pos_iff.2 ⟨_, hm, decide_eq_true hd⟩
  rw [List.countP_set hi]
  rw [e, decide_eq_true hd, decide_eq_false hv]
  simp
  omega
theorem rstep_ok {w : Works_} (hw : wksB w = true) {m : Mesh_} (hm : joinB w m = true) {s s' : Bool × List Ratio_} (h : SpI w s.2) (e : rstep w m s = .inl s') : SpI w s'.2 ∧ (s' = s ∨ (s'.1 = true ∧ cntU s'.2 < cntU s.2)) := by
  obtain ⟨_, j1, j2⟩ := joinB_iff.1 hm
  have a := wheel_at j1
  have b := wheel_at j2
  have ta := tooth_in hw j1
  have tb := tooth_in hw j2
  unfold rstep at e
  split at e
  · injection e with e; subst e; exact ⟨h, .inl rfl⟩
  · rename_i hne
    split at e
    · rename_i hA
      have hB : (getR s.2 m.B).Den ≠ 0 := fun hB => hne (by rw [decide_eq_true hA, decide_eq_true hB])
      split at e
      · rename_i hv
        injection e with e; subst e
        have k := meshed_val (h.den b.1 b.2.1 hB) (t := (pairM w m).Driven) (u := (pairM w m).Driver) tb.1 tb.2 ta.1 ta.2 hv
        exact ⟨h.set _ k, .inr ⟨rfl, cntU_set a.1 (by rw [h.1]; exact a.2.1) hA k.den⟩⟩
      · cases e
    · rename_i hA
      have hB : (getR s.2 m.B).Den = 0 := Classical.byContradiction fun hB => hne (by rw [decide_eq_false hA, decide_eq_false hB])
      split at e
      · rename_i hv
        injection e with e; subst e
        have k := meshed_val (h.den a.1 a.2.1 hA) (t := (pairM w m).Driver) (u := (pairM w m).Driven) ta.1 ta.2 tb.1 tb.2 hv
        exact ⟨h.set _ k, .inr ⟨rfl, cntU_set b.1 (by rw [h.1]; exact b.2.1) hB k.den⟩⟩
      · cases e
theorem roundF_ok {w : Works_} (hw : wksB w = true) : ∀ {ms : List Mesh_} (hm : ∀ m ∈ ms, joinB w m = true) {s s' : Bool × List Ratio_} (h : SpI w s.2) (e : roundF w ms s = .inl s'), SpI w s'.2 ∧ cntU s'.2 ≤ cntU s.2 ∧ (s'.1 = true → s.1 = true ∨ cntU s'.2 < cntU s.2)
  | [], hm, s, s', h, e => by
    injection e with e; subst e
    exact ⟨h, Nat.le_refl _, fun h => .inl h⟩
  | m :: ms, hm, s, s', h, e => by
    unfold roundF at e
    cases e1 : rstep w m s with
    | inr u => rw [e1] at e; cases e
    | inl s1 =>
      rw [e1] at e
      obtain ⟨h1, h2⟩ := rstep_ok hw (hm m (List.mem_cons_self ..)) h e1
      obtain ⟨h3, h4, h5⟩ := roundF_ok hw (fun m hm' => hm m (List.mem_cons_of_mem _ hm')) h1 e
      refine ⟨h3, ?_, fun ht => ?_⟩
      · rcases h2 with rfl | h2 <;> omega
      · rcases h2 with rfl | h2
        · exact h5 ht
        · right; omega
theorem forL_round {w : Works_} {X : Type} {g : Unit → X} {body : Nat → Mesh_ → Bool × List Ratio_ → Option ((Bool × List Ratio_) ⊕ X)} (hb : ∀ i m s, body i m s = some (Sum.map id g (rstep w m s))) : ∀ (ms : List Mesh_) (k : Nat) (s : Bool × List Ratio_), forL body ms k s = some (Sum.map id g (roundF w ms s))
  | [], k, s => rfl
  | m :: ms, k, s => by
    show (body k m s).bind _ = _
    rw [hb, Option.bind_some]
    unfold roundF
    cases rstep w m s with
    | inr u => rfl
    | inl s1 => exact forL_round hb ms (k + 1) s1
def spread (w : Works_) : Nat → List Ratio_ → List Ratio_ ⊕ Unit
  | 0, sp => .inl sp
  | n + 1, sp => match roundF w w.Meshes (false, sp) with
    | .inr u => .inr u
    | .inl (true, sp') => spread w n sp'
    | .inl (false, sp') => .inl sp'
theorem spread_same {w : Works_} (hw : wksB w = true) : ∀ {n m : Nat} {sp : List Ratio_}, SpI w sp → cntU sp < n → cntU sp < m → spread w n sp = spread w m sp
  | 0, _, _, _, h, _ => by omega
  | _ + 1, 0, _, _, _, h => by omega
  | n + 1, m + 1, sp, hs, h1, h2 => by
    unfold spread
    cases e : roundF w w.Meshes (false, sp) with
    | inr u => rfl
    | inl s =>
      obtain ⟨b, sp'⟩ := s
      cases b with
      | false => rfl
      | true =>
        obtain ⟨h3, _, h5⟩ := roundF_ok hw (wks_join hw) (s := (false, sp)) hs e
        have h6 : cntU sp' < cntU sp := by
          rcases h5 rfl with h | h
          · cases h
          · exact h
        exact spread_same hw h3 (by omega) (by omega)
def spreadS (w : Works_) (s : Bool × List Ratio_) : List Ratio_ ⊕ Unit := if s.1 = true then spread w (cntU s.2 + 1) s.2 else .inl s.2
theorem rounds_ok {w : Works_} (hw : wksB w = true) {S X : Type} {step : S → Option (S ⊕ X)} (mk : Bool × List Ratio_ → S) (un : S → Bool × List Ratio_) (hun : ∀ s, un (mk s) = s) (good : List Ratio_ → X) (bad : List Ratio_ → X)
    (hbad : ∀ x y, bad x = bad y)
    (hT : ∀ sp, SpI w sp → step (mk (true, sp)) = some (match roundF w w.Meshes (false, sp) with
      | .inr _ => .inr (bad sp)
      | .inl s' => .inl (mk s'))) (hF : ∀ sp, SpI w sp → step (mk (false, sp)) = some (.inr (good sp))) (sp : List Ratio_) (h : SpI w sp) :
    loopM step (mk (true, sp)) = some (match spread w (cntU sp + 1) sp with
      | .inl sp' => good sp'
      | .inr _ => bad sp) := by
  refine loopM_eq (fun s => ∃ t : Bool × List Ratio_, s = mk t ∧ SpI w t.2 ∧ spreadS w t = spread w (cntU sp + 1) sp) (fun s => 2 * cntU (un s).2 + if (un s).1 = true then 1 else 0) (fun s hI => ?_) ⟨(true, sp), rfl, h, rfl⟩ ?_
  · obtain ⟨⟨b, q⟩, rfl, hq, e⟩ := hI
    cases b with
    | false =>
      right
      rw [hF q hq]
      have e : Sum.inl q = spread w (cntU sp + 1) sp := e
      rw [← e]
    | true =>
      rw [hT q hq]
      have e : spread w (cntU q + 1) q = spread w (cntU sp + 1) sp := e
      unfold spread at e
      cases er : roundF w w.Meshes (false, q) with
      | inr u =>
        right
        rw [er] at e
        have e : Sum.inr u = spread w (cntU sp + 1) sp := by unfold spread; exact e
        rw [← e]
        simp only [hbad q sp]
      | inl s' =>
        left
        obtain ⟨h3, h4, h5⟩ := roundF_ok hw (wks_join hw) (s := (false, q)) hq er
        refine ⟨_, rfl, ⟨s', rfl, h3, ?_⟩, ?_⟩
        · rw [er] at e
          obtain ⟨b, q'⟩ := s'
          cases b with
          | false => unfold spread; exact e
          | true =>
            have h6 : cntU q' < cntU q := by
              rcases h5 rfl with h | h
              · cases h
              · exact h
            have e : spread w (cntU q) q' = spread w (cntU sp + 1) sp := e.trans (by rw [spread])
            rw [← e]
            exact spread_same hw h3 (by show cntU q' < cntU q' + 1; omega) h6
        · simp only [hun]
          obtain ⟨b, q'⟩ := s'
          cases b with
          | false => dsimp only at h4 ⊢; simp; omega
          | true =>
            have h6 : cntU q' < cntU q := by
              rcases h5 rfl with h | h
              · cases h
              · exact h
            simp; omega
  · simp only [hun]
    have : cntU sp ≤ sp.length := List.countP_le_length
    have h1 := h.1
    have h2 := (wksB_iff.1 hw).1
    simp; omega
def fitB (w : Works_) (sp : List Ratio_) (m : Mesh_) : Bool := (meshed (getR sp m.A) (pairM w m).Driver (pairM w m).Driven).2 && decide ((meshed (getR sp m.A) (pairM w m).Driver (pairM w m).Driven).1 = getR sp m.B)
def start (w : Works_) (root : Int) : List Ratio_ := (List.replicate w.Arbors.length (⟨0, 0⟩ : Ratio_)).set root.toNat ⟨1, 1⟩
def speedsR (w : Works_) (root : Int) : List Ratio_ × Int :=
  if inArb w root = true then (match spread w (cntU (start w root) + 1) (start w root) with
    | .inr _ => ([], 2)
    | .inl sp => if sp.any (fun r => decide (r.Den = 0)) = true then ([], 6) else if w.Meshes.all (fitB w sp) = true then (sp, 0) else ([], 10))
  else ([], 2)
theorem start_ok {w : Works_} (root : Int) : SpI w (start w root) := by
  refine SpI.set ⟨by simp, fun r hr => .inl (List.eq_of_mem_replicate hr)⟩ _ ⟨by decide, by decide⟩
theorem spread_ok {w : Works_} (hw : wksB w = true) : ∀ {n : Nat} {sp sp' : List Ratio_}, SpI w sp → spread w n sp = .inl sp' → SpI w sp'
  | 0, _, _, h, e => by injection e with e; subst e; exact h
  | n + 1, sp, sp', h, e => by
    unfold spread at e
    cases er : roundF w w.Meshes (false, sp) with
    | inr u => rw [er] at e; cases e
    | inl s =>
      rw [er] at e
      obtain ⟨h3, _, _⟩ := roundF_ok hw (wks_join hw) (s := (false, sp)) h er
      obtain ⟨b, q⟩ := s
      cases b with
      | false => injection e with e; subst e; exact h3
      | true => exact spread_ok hw h3 e
theorem speedsR_ok {w : Works_} (hw : wksB w = true) {root : Int} (h : (speedsR w root).2 = 0) : (speedsR w root).1.length = w.Arbors.length ∧ ∀ r ∈ (speedsR w root).1, KnR r := by
  unfold speedsR at h ⊢
  split
  · rename_i hr
    rw [if_pos hr] at h
    cases e : spread w (cntU (start w root) + 1) (start w root) with
    | inr u => rw [e] at h; cases h
    | inl sp =>
      rw [e] at h
      have hs := spread_ok hw (start_ok root) e
      dsimp only at h ⊢
      split
      · rename_i hn; rw [if_pos hn] at h; cases h
      · rename_i hn
        rw [if_neg hn] at h
        split
        · refine ⟨hs.1, fun r hr => ?_⟩
          rcases hs.2 r hr with rfl | h
          · exact absurd (List.any_eq_true.2 ⟨_, hr, decide_eq_true rfl⟩) hn
          · exact h
        · rename_i hf; rw [if_neg hf] at h; cases h
  · rename_i hr; rw [if_neg hr] at h; cases h
end Go.Proofs.YtjhadibjjldpdabGreat
namespace Go.Proofs.YtjhadibjjldpdabGreat
set_option linter.unusedVariables false
theorem codeR_cases (x : Ratio_ × Bool) : (x.2 = true ∧ codeR x = (x.1, 0)) ∨ (x.2 = false ∧ codeR x = (⟨0, 0⟩, 2)) := by
  unfold codeR
  cases h : x.2
  · exact .inr ⟨rfl, by simp⟩
  · exact .inl ⟨rfl, by simp⟩
theorem joint_len {w : Works_} {m : Mesh_} {sp : List Ratio_} (hm : joinB w m = true) (h : SpI w sp) : 0 ≤ m.A ∧ m.A < sp.length ∧ 0 ≤ m.B ∧ m.B < sp.length := by
  obtain ⟨_, j1, j2⟩ := joinB_iff.1 hm
  have a := wheel_at j1
  have b := wheel_at j2
  rw [h.1]
  exact ⟨a.1, a.2.1, b.1, b.2.1⟩
theorem chkLen {n k : Nat} (h : n ≤ 16) (hk : k ≤ 2) : 0 ≤ (n : Int) ∧ (n : Int) = (n : Int) ∧ ((n : Int)).toNat * k * 64 ≤ 281474976710656 := by
  refine ⟨by omega, rfl, ?_⟩
  have : (n : Int).toNat * k ≤ 16 * 2 := Nat.mul_le_mul (by omega) hk
  omega
theorem i_round_eq {w : Works_} (hw : wksB w = true) (sp : List Ratio_) (h : SpI w sp) :
    loopM (S := Bool × Int × List Ratio_) (X := (Bool × List Ratio_) ⊕ ((List Ratio_) ⊕ (List Ratio_ × Int))) (fun s41 =>
  (if s41.2.1 < (w.Meshes.length : Int) then
  ((((atI w.Meshes s41.2.1).bind fun v42 =>
  ((i_pairOf_m w v42).bind fun v43 =>
  ((((atI s41.2.2 v42.A).bind fun v44 =>
  (if v44.Den = 0 then
  some (v42.B, v42.A, (⟨v43.Driven, v43.Driver⟩ : Pair_))
  else
  some (v42.A, v42.B, v43))) : Option (Int × Int × Pair_)).bind fun v45 =>
  ((((atI s41.2.2 v45.1).bind fun v46 =>
  (if v46.Den = 0 then
  some true
  else
  ((atI s41.2.2 v45.2.1).bind fun v47 =>
  some (decide (v47.Den ≠ 0))))) : Option Bool).bind fun v48 =>
  (if v48 = true then
  some (.inl (s41.1, s41.2.2))
  else
  ((atI s41.2.2 v45.1).bind fun v49 =>
  ((i_meshed_m v49 v45.2.2.Driver v45.2.2.Driven).bind fun v50 =>
  (if v50.2 ≠ 0 then
  some (.inr (.inr (.inr (.inr (([] : List Ratio_), v50.2)))))
  else
  ((atI s41.2.2 v45.2.1).bind fun v51 =>
  some (.inl (true, List.set s41.2.2 (v45.2.1).toNat v50.1))))))))))) : Option ((Bool × List Ratio_) ⊕ ((Bool × Int × List Ratio_) ⊕ ((Bool × List Ratio_) ⊕ ((List Ratio_) ⊕ (List Ratio_ × Int)))))).bind fun v52x => orE v52x fun v52 =>
  some (.inl (v52.1, w64 (s41.2.1 + 1), v52.2)))
  else
  some (.inr (.inl (s41.1, s41.2.2))))) (false, 0, sp) = some (match roundF w w.Meshes (false, sp) with
    | .inl s' => .inl s'
    | .inr _ => .inr (.inr ([], 2))) := by
  have hl := (wksB_iff.1 hw).2.1
  rw [loop_forI (xs := w.Meshes) (fun i (s : Bool × List Ratio_) => (s.1, i, s.2)) (fun _ m s => some (Sum.map id (fun _ => .inr (.inr ([], 2))) (rstep w m s))) (fun s => .inl s) (fun s => SpI w s.2) (by omega) (fun i hi s hs => ?_) (fun i hi s s' hs e => ?_) (fun s hs => by simp) (false, sp) h]
  · rw [forL_round (w := w) (X := (Bool × List Ratio_) ⊕ ((List Ratio_) ⊕ (List Ratio_ × Int))) (g := fun _ => .inr (.inr ([], 2))) (fun _ _ _ => rfl)]
    cases roundF w w.Meshes (false, sp) <;> rfl
  · have hi' : (i : Int) < w.Meshes.length := by omega
    have e1 : w64 ((i : Int) + 1) = i + 1 := w64_in (by omega) (by omega)
    have hj := wks_join hw _ (List.getElem_mem hi)
    simp only [if_pos hi', atI_lt hi, Option.bind_some, e1, i_pairOf_eq hj]
    generalize w.Meshes[i] = m at hj
    obtain ⟨_, j1, j2⟩ := joinB_iff.1 hj
    have ta := tooth_in hw j1
    have tb := tooth_in hw j2
    obtain ⟨a0, a1, b0, b1⟩ := joint_len hj hs
    obtain ⟨ga, _, _⟩ := getR_at a0 a1
    obtain ⟨gb, _, _⟩ := getR_at b0 b1
    have a1' : m.A < w.Arbors.length := by rw [← hs.1]; exact a1
    have b1' : m.B < w.Arbors.length := by rw [← hs.1]; exact b1
    unfold rstep
    simp only [ga, Option.bind_some]
    by_cases dA : (getR s.2 m.A).Den = 0
    · simp only [if_pos dA, Option.bind_some, gb]
      by_cases dB : (getR s.2 m.B).Den = 0
      · simp only [if_pos dB, dA, dB, Option.bind_some, if_true]; rfl
      · have k := hs.den b0 b1' dB
        simp only [if_neg dB, ga, gb, dA, dB, Option.bind_some]
        rw [i_meshed_eq k (t := (pairM w m).Driven) (u := (pairM w m).Driver) tb.1 tb.2 ta.1 ta.2]
        rcases codeR_cases (meshed (getR s.2 m.B) (pairM w m).Driven (pairM w m).Driver) with ⟨h1, h2⟩ | ⟨h1, h2⟩ <;> simp [h1, h2, orE]
    · simp only [if_neg dA, Option.bind_some, ga, gb]
      by_cases dB : (getR s.2 m.B).Den = 0
      · have k := hs.den a0 a1' dA
        simp only [ga, gb, dA, dB, Option.bind_some, if_false, ne_eq, not_true_eq_false, decide_false, Bool.false_eq_true]
        rw [i_meshed_eq k (t := (pairM w m).Driver) (u := (pairM w m).Driven) ta.1 ta.2 tb.1 tb.2]
        rcases codeR_cases (meshed (getR s.2 m.A) (pairM w m).Driver (pairM w m).Driven) with ⟨h1, h2⟩ | ⟨h1, h2⟩ <;> simp [h1, h2, orE]
      · simp [dA, dB, orE]
  · have e : rstep w w.Meshes[i] s = .inl s' := by
      cases e2 : rstep w w.Meshes[i] s with
      | inr u => rw [e2] at e; cases e
      | inl z => rw [e2] at e; injection e with e; injection e with e; rw [← e]; rfl
    exact (rstep_ok hw (wks_join hw _ (List.getElem_mem hi)) hs e).1
theorem i_speedsFrom_eq {w : Works_} (hw : wksB w = true) {root : Int} (hr : inArb w root = true) : i_speedsFrom_m w root = some (match spread w (cntU (start w root) + 1) (start w root) with
    | .inl sp => (sp, 0)
    | .inr _ => ([], 2)) := by
  have hl := (wksB_iff.1 hw).1
  have hr := of_decide_eq_true hr
  unfold i_speedsFrom_m
  rw [chk_t (chkLen hl (by omega))]
  simp only [Int.toNat_natCast]
  obtain ⟨e, he, _, _⟩ := atI_some (xs := List.replicate w.Arbors.length (⟨0, 0⟩ : Ratio_)) hr.1 (by rw [List.length_replicate]; exact hr.2)
  rw [he, Option.bind_some]
  have := rounds_ok hw (S := Bool × List Ratio_) (X := (List Ratio_) ⊕ (List Ratio_ × Int)) (step := fun s28 => (if s28.1 = true then loopM (S := Bool × Int × List Ratio_) (X := (Bool × List Ratio_) ⊕ ((List Ratio_) ⊕ (List Ratio_ × Int))) (fun s41 =>
  (if s41.2.1 < (w.Meshes.length : Int) then
  ((((atI w.Meshes s41.2.1).bind fun v42 =>
  ((i_pairOf_m w v42).bind fun v43 =>
  ((((atI s41.2.2 v42.A).bind fun v44 =>
  (if v44.Den = 0 then
  some (v42.B, v42.A, (⟨v43.Driven, v43.Driver⟩ : Pair_))
  else
  some (v42.A, v42.B, v43))) : Option (Int × Int × Pair_)).bind fun v45 =>
  ((((atI s41.2.2 v45.1).bind fun v46 =>
  (if v46.Den = 0 then
  some true
  else
  ((atI s41.2.2 v45.2.1).bind fun v47 =>
  some (decide (v47.Den ≠ 0))))) : Option Bool).bind fun v48 =>
  (if v48 = true then
  some (.inl (s41.1, s41.2.2))
  else
  ((atI s41.2.2 v45.1).bind fun v49 =>
  ((i_meshed_m v49 v45.2.2.Driver v45.2.2.Driven).bind fun v50 =>
  (if v50.2 ≠ 0 then
  some (.inr (.inr (.inr (.inr (([] : List Ratio_), v50.2)))))
  else
  ((atI s41.2.2 v45.2.1).bind fun v51 =>
  some (.inl (true, List.set s41.2.2 (v45.2.1).toNat v50.1))))))))))) : Option ((Bool × List Ratio_) ⊕ ((Bool × Int × List Ratio_) ⊕ ((Bool × List Ratio_) ⊕ ((List Ratio_) ⊕ (List Ratio_ × Int)))))).bind fun v52x => orE v52x fun v52 =>
  some (.inl (v52.1, w64 (s41.2.1 + 1), v52.2)))
  else
  some (.inr (.inl (s41.1, s41.2.2))))) (false, 0, s28.2) else some (.inr (.inl s28.2)))) (fun s => s) (fun s => s) (fun _ => rfl) (fun sp => .inl sp) (fun _ => .inr ([], 2)) (fun _ _ => rfl) (fun sp h => by
    simp only [if_true]
    rw [i_round_eq hw sp h]
    cases roundF w w.Meshes (false, sp) <;> rfl) (fun sp h => by simp) (start w root) (start_ok root)
  unfold start at this
  unfold start
  rw [this, Option.bind_some]
  cases spread w (cntU ((List.replicate w.Arbors.length (⟨0, 0⟩ : Ratio_)).set root.toNat ⟨1, 1⟩) + 1) ((List.replicate w.Arbors.length (⟨0, 0⟩ : Ratio_)).set root.toNat ⟨1, 1⟩) <;> rfl
theorem i_SpeedsOf_eq {w : Works_} (hl : w.Arbors.length ≤ 9223372036854775807) (hws : ∀ b ∈ w.Arbors, b.Wheels.length ≤ 9223372036854775807) (hm : w.Meshes.length ≤ 9223372036854775807) (root : Int) : i_SpeedsOf_m w root = some (if wksB w = true then speedsR w root else ([], 1)) := by
  unfold i_SpeedsOf_m speedsR
  rw [i_ValidWorks_eq hl hws hm, Option.bind_some]
  by_cases hw : wksB w = true
  · have e0 : btw root 0 (w64 ((w.Arbors.length : Int) - 1)) = inArb w root := btw_len hl
    have hml := (wksB_iff.1 hw).2.1
    rw [if_pos hw, hw, i_within_eq, e0, Option.bind_some]
    by_cases hr : inArb w root = true
    · rw [if_pos hr, hr, i_speedsFrom_eq hw hr]
      cases e : spread w (cntU (start w root) + 1) (start w root) with
      | inr u => rfl
      | inl sp =>
        have hs := spread_ok hw (start_ok root) e
        have hsl := hs.1
        have hal := (wksB_iff.1 hw).1
        simp only [Bool.not_true, Bool.false_eq_true, if_false, Option.bind_some, ne_eq, not_true_eq_false]
        have hc : slices_ContainsFunc_LRatio_Ratio_i_SpeedsOf_1_m sp = some (sp.any fun r => decide (r.Den = 0)) := by
          unfold slices_ContainsFunc_LRatio_Ratio_i_SpeedsOf_1_m slices_IndexFunc_LRatio_Ratio_i_SpeedsOf_1_m
          rw [findG (fun r => decide (r.Den = 0)) (by omega) fun i hi => by rw [atI_lt hi, Option.bind_some, i_SpeedsOf_1_m, Option.bind_some], Option.bind_some, posOf_nn]
        rw [hc, Option.bind_some]
        by_cases hn : (sp.any fun r => decide (r.Den = 0)) = true
        · rw [if_pos hn, if_pos hn]
        · rw [if_neg hn, if_neg hn, scanG (e := .inr ([], 10)) (fun _ m => fitB w sp m) hm fun i hi => ?_, allI_all, Option.bind_some]
          · cases w.Meshes.all (fitB w sp) <;> rfl
          · have hj := wks_join hw _ (List.getElem_mem hi)
            simp only [atI_lt hi, Option.bind_some, i_pairOf_eq hj]
            generalize w.Meshes[i] = m at hj
            obtain ⟨_, j1, j2⟩ := joinB_iff.1 hj
            have ta := tooth_in hw j1
            have tb := tooth_in hw j2
            obtain ⟨a0, a1, b0, b1⟩ := joint_len hj hs
            obtain ⟨ga, gm, _⟩ := getR_at a0 a1
            obtain ⟨gb, _, _⟩ := getR_at b0 b1
            have k : KnR (getR sp m.A) := by
              rcases hs.2 _ gm with e | h
              · exact absurd (List.any_eq_true.2 ⟨_, gm, decide_eq_true (by rw [e])⟩) hn
              · exact h
            rw [ga, Option.bind_some, i_meshed_eq k (t := (pairM w m).Driver) (u := (pairM w m).Driven) ta.1 ta.2 tb.1 tb.2, gb]
            unfold fitB
            rcases codeR_cases (meshed (getR sp m.A) (pairM w m).Driver (pairM w m).Driven) with ⟨h1, h2⟩ | ⟨h1, h2⟩
            · by_cases q : (meshed (getR sp m.A) (pairM w m).Driver (pairM w m).Driven).1 = getR sp m.B <;> simp [h1, h2, q]
            · simp [h1, h2]
    · rw [if_neg hr, Bool.not_eq_true] at *
      rw [hr]; rfl
  · rw [if_neg hw, Bool.not_eq_true] at *
    rw [hw]; rfl
theorem s_l08Fits_eq {w : Works_} (hw : wksB w = true) {sp : List Ratio_} (hs : SpI w sp) {m : Mesh_} (hj : joinB w m = true) (k : KnR (getR sp m.A)) : s_l08Fits_m w m sp = some (fitB w sp m) := by
  obtain ⟨_, j1, j2⟩ := joinB_iff.1 hj
  have ta := tooth_in hw j1
  have tb := tooth_in hw j2
  obtain ⟨a0, a1, b0, b1⟩ := joint_len hj hs
  obtain ⟨ga, gm, _⟩ := getR_at a0 a1
  obtain ⟨gb, _, _⟩ := getR_at b0 b1
  have hv := step_val (t := (pairM w m).Driver) (u := (pairM w m).Driven) ta.1 ta.2 tb.1 tb.2
  have t0 : 6 ≤ (pairM w m).Driver := ta.1
  have t1 : (pairM w m).Driver ≤ 240 := ta.2
  have u0 : 6 ≤ (pairM w m).Driven := tb.1
  have u1 : (pairM w m).Driven ≤ 240 := tb.2
  unfold s_l08Fits_m fitB meshed
  rw [s_l08Pair_eq hj, Option.bind_some, w64_in (by omega) (by omega), s_l02Make_eq ⟨by omega, by omega⟩ ⟨by omega, by omega⟩ (by omega), Option.bind_some, ga, Option.bind_some, s_l02Mul_eq k.1 hv.2.1, Option.bind_some, gb]
  cases (mulR (getR sp m.A) (mkR (-(pairM w m).Driver) (pairM w m).Driven).1).2 <;> simp
def kn (sp : List Ratio_) : List Bool := sp.map fun r => decide (r.Den ≠ 0)
theorem kn_at {sp : List Ratio_} {i : Int} (h0 : 0 ≤ i) (h1 : i < sp.length) : atI (kn sp) i = some (decide ((getR sp i).Den ≠ 0)) := by
  obtain ⟨_, _, hi, e⟩ := getR_at h0 h1
  unfold atI kn
  rw [if_pos h0, List.getElem?_map, List.getElem?_eq_getElem hi, e]; rfl
theorem kn_set {sp : List Ratio_} {i : Nat} {v : Ratio_} (hv : v.Den ≠ 0) : kn (sp.set i v) = (kn sp).set i true := by
  unfold kn
  rw [List.map_set, decide_eq_true hv]
theorem forL_roundS {w : Works_} (hw : wksB w = true) {X : Type} (g : Bool × List Ratio_ → X) : ∀ (ms : List Mesh_) (hm : ∀ m ∈ ms, joinB w m = true) (k : Nat) (s : Bool × List Ratio_), SpI w s.2 → ∃ f, SpI w f.2 ∧ forL (fun _ m s => some (match rstep w m s with
    | .inl s' => .inl s'
    | .inr _ => .inr (g s))) ms k s = some (match roundF w ms s with
    | .inl s' => .inl s'
    | .inr _ => .inr (g f))
  | [], _, k, s, h => ⟨s, h, rfl⟩
  | m :: ms, hm, k, s, h => by
    cases e : rstep w m s with
    | inr u =>
      refine ⟨s, h, ?_⟩
      show (some (match rstep w m s with
        | .inl s' => _
        | .inr _ => _)).bind _ = _
      unfold roundF
      rw [e]; rfl
    | inl s1 =>
      obtain ⟨f, hf, q⟩ := forL_roundS hw g ms (fun m h => hm m (List.mem_cons_of_mem _ h)) (k + 1) s1 (rstep_ok hw (hm m (List.mem_cons_self ..)) h e).1
      refine ⟨f, hf, ?_⟩
      show (some (match rstep w m s with
        | .inl s' => _
        | .inr _ => _)).bind _ = _
      unfold roundF
      rw [e]
      exact q
theorem s_round_eq {w : Works_} (hw : wksB w = true) (sp : List Ratio_) (h : SpI w sp) : ∃ f, SpI w f ∧ s_l08Round_o_o_m w (kn sp) sp = some (match roundF w w.Meshes (false, sp) with
    | .inl s' => (s'.1, true, kn s'.2, s'.2)
    | .inr _ => (false, false, kn f, f)) := by
  have hl := (wksB_iff.1 hw).2.1
  unfold s_l08Round_o_o_m
  obtain ⟨f, hf, q⟩ := forL_roundS hw (X := (Bool × List Bool × List Ratio_) ⊕ (Bool × Bool × List Bool × List Ratio_)) (fun s => .inr (false, false, kn s.2, s.2)) w.Meshes (wks_join hw) 0 (false, sp) h
  refine ⟨f.2, hf, ?_⟩
  rw [loop_forI (xs := w.Meshes) (fun i (s : Bool × List Ratio_) => (s.1, i, kn s.2, s.2)) (fun _ m s => some (match rstep w m s with
    | .inl s' => .inl s'
    | .inr _ => .inr (.inr (false, false, kn s.2, s.2)))) (fun s => .inl (s.1, kn s.2, s.2)) (fun s => SpI w s.2) (by omega) (fun i hi s hs => ?_) (fun i hi s s' hs e => ?_) (fun s hs => by simp) (false, sp) h]
  · rw [q]
    cases roundF w w.Meshes (false, sp) <;> rfl
  · have hi' : (i : Int) < w.Meshes.length := by omega
    have e1 : w64 ((i : Int) + 1) = i + 1 := w64_in (by omega) (by omega)
    have hj := wks_join hw _ (List.getElem_mem hi)
    simp only [if_pos hi', atI_lt hi, Option.bind_some, e1, s_l08Pair_eq hj]
    generalize w.Meshes[i] = m at hj
    obtain ⟨_, j1, j2⟩ := joinB_iff.1 hj
    have ta := tooth_in hw j1
    have tb := tooth_in hw j2
    have t0 : 6 ≤ (pairM w m).Driver := ta.1
    have t1 : (pairM w m).Driver ≤ 240 := ta.2
    have u0 : 6 ≤ (pairM w m).Driven := tb.1
    have u1 : (pairM w m).Driven ≤ 240 := tb.2
    obtain ⟨a0, a1, b0, b1⟩ := joint_len hj hs
    obtain ⟨ga, _, _⟩ := getR_at a0 a1
    obtain ⟨gb, _, _⟩ := getR_at b0 b1
    have ka := kn_at a0 a1
    have kb := kn_at b0 b1
    have a1' : m.A < w.Arbors.length := by rw [← hs.1]; exact a1
    have b1' : m.B < w.Arbors.length := by rw [← hs.1]; exact b1
    unfold rstep
    simp only [ka, kb, Option.bind_some]
    by_cases dA : (getR s.2 m.A).Den = 0
    · by_cases dB : (getR s.2 m.B).Den = 0
      · simp [dA, dB, orE]
      · have k := hs.den b0 b1' dB
        have hv := step_val (t := (pairM w m).Driven) (u := (pairM w m).Driver) u0 u1 t0 t1
        have e2 : (decide ((getR s.2 m.A).Den ≠ 0) == decide ((getR s.2 m.B).Den ≠ 0)) = false := by simp [dA, dB]
        have e3 : decide ((getR s.2 m.A).Den = 0) ≠ decide ((getR s.2 m.B).Den = 0) := by simp [dA, dB]
        have e4 : decide ((getR s.2 m.B).Den ≠ 0) = true := by simp [dB]
        rw [e2, if_neg (by decide), if_neg e3, if_pos dA, e4, if_pos rfl]
        simp only [Option.bind_some, ga, gb, ka, kb]
        rw [w64_in (by omega) (by omega), s_l02Make_eq ⟨by omega, by omega⟩ ⟨by omega, by omega⟩ (by omega)]
        simp only [Option.bind_some]
        rw [s_l02Mul_eq k.1 hv.2.1]
        have mv := meshed_val k (t := (pairM w m).Driven) (u := (pairM w m).Driver) u0 u1 t0 t1
        have em : mulR (getR s.2 m.B) (mkR (-(pairM w m).Driven) (pairM w m).Driver).1 = meshed (getR s.2 m.B) (pairM w m).Driven (pairM w m).Driver := rfl
        rw [em]
        cases h2 : (meshed (getR s.2 m.B) (pairM w m).Driven (pairM w m).Driver).2
        · simp [h2, orE]
        · simp [h2, orE, kn_set (mv h2).den]
    · by_cases dB : (getR s.2 m.B).Den = 0
      · have k := hs.den a0 a1' dA
        have hv := step_val (t := (pairM w m).Driver) (u := (pairM w m).Driven) t0 t1 u0 u1
        have e2 : (decide ((getR s.2 m.A).Den ≠ 0) == decide ((getR s.2 m.B).Den ≠ 0)) = false := by simp [dA, dB]
        have e3 : decide ((getR s.2 m.A).Den = 0) ≠ decide ((getR s.2 m.B).Den = 0) := by simp [dA, dB]
        have e4 : decide ((getR s.2 m.B).Den ≠ 0) = false := by simp [dB]
        rw [e2, if_neg (by decide), if_neg e3, if_neg dA, e4, if_neg (by decide)]
        simp only [Option.bind_some, ga, gb, ka, kb]
        rw [w64_in (by omega) (by omega), s_l02Make_eq ⟨by omega, by omega⟩ ⟨by omega, by omega⟩ (by omega)]
        simp only [Option.bind_some]
        rw [s_l02Mul_eq k.1 hv.2.1]
        have mv := meshed_val k (t := (pairM w m).Driver) (u := (pairM w m).Driven) t0 t1 u0 u1
        have em : mulR (getR s.2 m.A) (mkR (-(pairM w m).Driver) (pairM w m).Driven).1 = meshed (getR s.2 m.A) (pairM w m).Driver (pairM w m).Driven := rfl
        rw [em]
        cases h2 : (meshed (getR s.2 m.A) (pairM w m).Driver (pairM w m).Driven).2
        · simp [h2, orE]
        · simp [h2, orE, kn_set (mv h2).den]
      · simp [dA, dB, orE]
  · have e : rstep w w.Meshes[i] s = .inl s' := by
      cases e2 : rstep w w.Meshes[i] s with
      | inr u => rw [e2] at e; cases e
      | inl z => rw [e2] at e; injection e with e; injection e with e; rw [← e]
    exact (rstep_ok hw (wks_join hw _ (List.getElem_mem hi)) hs e).1
theorem kn_len (sp : List Ratio_) : (kn sp).length = sp.length := by unfold kn; simp
theorem s_l08Speeds_eq {w : Works_} (hw : wksB w = true) (root : Int) : s_l08Speeds_m w root = some (speedsR w root) := by
  have hal := (wksB_iff.1 hw).1
  have hml := (wksB_iff.1 hw).2.1
  unfold s_l08Speeds_m speedsR
  rw [s_l08Root_eq (by omega), Option.bind_some]
  by_cases hr : inArb w root = true
  · rw [if_pos hr, hr, if_neg (by decide), chk_t (chkLen hal (by omega)), chk_t (chkLen hal (by omega))]
    simp only [Int.toNat_natCast]
    have hrr := of_decide_eq_true hr
    obtain ⟨e, he, _, _⟩ := atI_some (xs := List.replicate w.Arbors.length (⟨0, 0⟩ : Ratio_)) hrr.1 (by rw [List.length_replicate]; exact hrr.2)
    obtain ⟨e', he', _, _⟩ := atI_some (xs := List.replicate w.Arbors.length false) hrr.1 (by rw [List.length_replicate]; exact hrr.2)
    rw [he', Option.bind_some, s_l02Whole_m, Option.bind_some, he, Option.bind_some]
    have hk : kn (start w root) = (List.replicate w.Arbors.length false).set root.toNat true := by
      unfold start
      rw [kn_set (by decide)]
      congr 1
      unfold kn
      rw [List.map_replicate]; rfl
    have := rounds_ok hw (S := Bool × List Bool × List Ratio_) (X := (List Bool × List Ratio_) ⊕ (List Ratio_ × Int)) (step := fun s11 => (if s11.1 = true then ((s_l08Round_o_o_m w s11.2.1 s11.2.2).bind fun v12 => (chk (v12.2.2.1.length = s11.2.1.length) (chk (v12.2.2.2.length = s11.2.2.length) (if (!v12.2.1) = true then some (.inr (.inr (([] : List Ratio_), 2))) else some (.inl (v12.1, v12.2.2.1, v12.2.2.2)))))) else some (.inr (.inl (s11.2.1, s11.2.2))))) (fun s => (s.1, kn s.2, s.2)) (fun s => (s.1, s.2.2)) (fun _ => rfl) (fun sp => .inl (kn sp, sp)) (fun _ => .inr ([], 2)) (fun _ _ => rfl) (fun sp h => by
      obtain ⟨f, hf, q⟩ := s_round_eq hw sp h
      simp only [if_true, q, Option.bind_some]
      cases er : roundF w w.Meshes (false, sp) with
      | inr u =>
        simp only [kn_len, hf.1, h.1, chk_true]
        simp
      | inl s' =>
        have h3 := (roundF_ok hw (wks_join hw) (s := (false, sp)) h er).1
        simp only [kn_len, h3.1, h.1, chk_true]
        simp) (fun sp h => by simp) (start w root) (start_ok root)
    rw [hk] at this
    unfold start at this
    unfold start
    rw [this, Option.bind_some]
    cases e : spread w (cntU ((List.replicate w.Arbors.length (⟨0, 0⟩ : Ratio_)).set root.toNat ⟨1, 1⟩) + 1) ((List.replicate w.Arbors.length (⟨0, 0⟩ : Ratio_)).set root.toNat ⟨1, 1⟩) with
    | inr u => rfl
    | inl sp =>
      have hs := spread_ok hw (start_ok root) e
      have hsl := hs.1
      show (orE (.inl (kn sp, sp)) _) = _
      simp only [orE]
      rw [scanG (xs := kn sp) (e := .inr ([], 6)) (fun _ b => b) (by rw [kn_len]; omega) fun i hi => by rw [atI_lt hi, Option.bind_some]; cases (kn sp)[i] <;> rfl, allI_all, Option.bind_some]
      have e5 : (kn sp).all (fun b => b) = !(sp.any fun r => decide (r.Den = 0)) := by
        unfold kn
        rw [Bool.eq_iff_iff]; simp
      rw [e5]
      by_cases hn : (sp.any fun r => decide (r.Den = 0)) = true
      · rw [hn]; rfl
      · rw [Bool.not_eq_true] at hn
        rw [hn]
        simp only [Bool.not_false, if_true, orE]
        rw [scanG (xs := w.Meshes) (e := .inr ([], 10)) (fun _ m => fitB w sp m) (by omega) fun i hi => ?_, allI_all, Option.bind_some]
        · cases w.Meshes.all (fitB w sp) <;> rfl
        · have hj := wks_join hw _ (List.getElem_mem hi)
          obtain ⟨a0, a1, b0, b1⟩ := joint_len hj hs
          obtain ⟨_, gm, _⟩ := getR_at a0 a1
          have k : KnR (getR sp w.Meshes[i].A) := by
            rcases hs.2 _ gm with e | h
            · have q : (sp.any fun r => decide (r.Den = 0)) = true := List.any_eq_true.2 ⟨_, gm, decide_eq_true (by rw [e])⟩
              rw [hn] at q; cases q
            · exact h
          rw [atI_lt hi, Option.bind_some, s_l08Fits_eq hw hs hj k, Option.bind_some]
          cases fitB w sp w.Meshes[i] <;> rfl
  · rw [if_neg hr, Bool.not_eq_true] at *
    rw [hr]; rfl
end Go.Proofs.YtjhadibjjldpdabGreat
namespace Go.Proofs.YtjhadibjjldpdabGreat
set_option linter.unusedVariables false
theorem movB_wks {m : Movement_} (h : movB m = true) : wksB m.Works = true ∧ inArb m.Works m.Minute = true ∧ inArb m.Works m.Hour = true ∧ inArb m.Works m.Escape = true := by
  unfold movB at h
  simp only [Bool.and_eq_true] at h
  exact ⟨h.2.1, h.2.2.1, h.2.2.2.1, h.2.2.2.2.1⟩
theorem speed_tail {m : Movement_} {k : Int} (hw : wksB m.Works = true) (hs : (speedsR m.Works m.Minute).2 = 0) (hk : inArb m.Works k = true) : atI (speedsR m.Works m.Minute).1 k = some (getR (speedsR m.Works m.Minute).1 k) ∧ KnR (getR (speedsR m.Works m.Minute).1 k) := by
  have h1 := speedsR_ok hw hs
  have h2 := of_decide_eq_true hk
  obtain ⟨g, gm, _⟩ := getR_at (sp := (speedsR m.Works m.Minute).1) h2.1 (by rw [h1.1]; exact h2.2)
  exact ⟨g, h1.2 _ gm⟩
end Go.Proofs.YtjhadibjjldpdabGreat
namespace Go.Proofs.YtjhadibjjldpdabGreat
set_option linter.unusedVariables false
def nmWorks : ByteArray := ⟨#[119, 111, 114, 107, 115]⟩
def nmHour : ByteArray := ⟨#[104, 111, 117, 114]⟩
def nmBeats : ByteArray := ⟨#[98, 101, 97, 116, 115]⟩
def nmCam : ByteArray := ⟨#[99, 97, 109]⟩
def nmMove : ByteArray := ⟨#[109, 111, 118, 101, 109, 101, 110, 116]⟩
def beatsB (m : Movement_) (v : Ratio_) : Bool := decide (w64 (w64 (2 * m.Teeth) * absI v.Num) = w64 (m.Beats * v.Den))
def faultsR (m : Movement_) : List ByteArray :=
  (if (speedsR m.Works m.Minute).2 = 0 then (if getR (speedsR m.Works m.Minute).1 m.Hour = ⟨1, 12⟩ then [] else [nmHour]) ++ (if beatsB m (getR (speedsR m.Works m.Minute).1 m.Escape) = true then [] else [nmBeats]) else [nmWorks]) ++ (if (m.Cam.length : Int) % m.Calendar.Months.length = 0 then [] else [nmCam])
theorem movB_cal {m : Movement_} (h : movB m = true) : calB m.Calendar = true ∧ camB m.Cam = true := by
  unfold movB at h
  simp only [Bool.and_eq_true] at h
  exact ⟨h.2.2.2.2.2.2.2.1, h.2.2.2.2.2.2.2.2.1⟩
theorem askC_cal {c : Calendar_} {cam : List Int} (h1 : calB c = true) (h2 : camB cam = true) : askC c cam = if (cam.length : Int) % c.Months.length = 0 then 0 else 6 := by
  unfold askC; rw [h1, h2]; rfl
theorem i_MovementFaults_eq {m : Movement_} (h : smMovement_ m) : i_MovementFaults_m m = some (if movB m = true then faultsR m else [nmMove]) := by
  unfold i_MovementFaults_m faultsR
  obtain ⟨w1, w2, w3⟩ := smW h.2.1
  have hcl : m.Cam.length ≤ 1048576 := h.2.2.2.2.2.2.2.2.1.1
  rw [i_ValidMovement_eq h, Option.bind_some]
  by_cases hv : movB m = true
  · obtain ⟨hw, k1, k2, k3⟩ := movB_wks hv
    obtain ⟨c1, c2⟩ := movB_cal hv
    have cm := (calB_iff c1).2.1
    have hbel : ∀ (x y : Option (List ByteArray)), ((i_belongs_m m.Calendar m.Cam).bind fun v11 => if v11 = 0 then x else y) = if (m.Cam.length : Int) % m.Calendar.Months.length = 0 then y else x := by
      intro x y
      rw [i_belongs_eq cm.1 (by omega), Option.bind_some]
      by_cases h0 : (m.Cam.length : Int) % m.Calendar.Months.length = 0
      · have := askC_ok (c := m.Calendar) (cam := m.Cam) (by rw [askC_cal c1 c2, if_pos h0])
        rw [if_pos h0, if_neg (by omega), if_pos h0]
      · rw [if_neg h0, if_pos rfl, if_neg h0]
    rw [if_pos hv, hv, i_SpeedsOf_eq w1 w2 w3, if_pos hw]
    simp only [Bool.not_true, Bool.false_eq_true, if_false, Option.bind_some, hbel]
    by_cases hs : (speedsR m.Works m.Minute).2 = 0
    · have s2 := speed_tail hw hs k2
      have s3 := speed_tail hw hs k3
      have d3 := ratB_d s3.2.1
      rw [if_neg (by simp [hs]), if_pos hs, s2.1, s3.1]
      simp only [Option.bind_some]
      rw [i_abs_eq (by omega) (by omega)]
      simp only [Option.bind_some]
      unfold beatsB nmHour nmBeats nmCam
      by_cases b1 : getR (speedsR m.Works m.Minute).1 m.Hour = ⟨1, 12⟩ <;> by_cases b2 : w64 (w64 (2 * m.Teeth) * absI (getR (speedsR m.Works m.Minute).1 m.Escape).Num) = w64 (m.Beats * (getR (speedsR m.Works m.Minute).1 m.Escape).Den) <;> by_cases b3 : (m.Cam.length : Int) % m.Calendar.Months.length = 0 <;> simp [b1, b2, b3, chk]
    · rw [if_pos hs, if_neg hs]
      unfold nmWorks nmCam
      by_cases b3 : (m.Cam.length : Int) % m.Calendar.Months.length = 0 <;> simp [b3, chk]
  · rw [if_neg hv, Bool.not_eq_true] at *
    rw [hv]; rfl
theorem s_l26Faults_eq {m : Movement_} (h : smMovement_ m) (hv : movB m = true) : s_l26Faults_m m = some (faultsR m) := by
  unfold s_l26Faults_m faultsR
  have hcl : m.Cam.length ≤ 1048576 := h.2.2.2.2.2.2.2.2.1.1
  have hml : m.Calendar.Months.length ≤ 1048576 := h.2.2.2.2.2.2.2.1.2.1.1
  have hrl : m.Calendar.Rules.length ≤ 1048576 := h.2.2.2.2.2.2.2.1.2.2.1.1
  obtain ⟨hw, k1, k2, k3⟩ := movB_wks hv
  obtain ⟨c1, c2⟩ := movB_cal hv
  have hbel : ∀ (x y : Option (List ByteArray)), ((s_l17Ask_m m.Calendar m.Cam).bind fun v11 => if v11 ≠ 0 then x else y) = if (m.Cam.length : Int) % m.Calendar.Months.length = 0 then y else x := by
    intro x y
    rw [s_l17Ask_eq (by omega) (by omega) (by omega), Option.bind_some, askC_cal c1 c2]
    by_cases h0 : (m.Cam.length : Int) % m.Calendar.Months.length = 0
    · rw [if_pos h0, if_pos h0, if_neg (by decide)]
    · rw [if_neg h0, if_neg h0, if_pos (by decide)]
  rw [s_l08Speeds_eq hw]
  simp only [Option.bind_some, hbel]
  by_cases hs : (speedsR m.Works m.Minute).2 = 0
  · have s2 := speed_tail hw hs k2
    have s3 := speed_tail hw hs k3
    have d3 := ratB_d s3.2.1
    rw [if_neg (by simp [hs]), if_pos hs, s2.1, s3.1]
    unfold s_l26Beats_m
    simp only [Option.bind_some]
    rw [s_l02Size_eq (by omega) (by omega)]
    simp only [Option.bind_some]
    unfold beatsB nmHour nmBeats nmCam
    by_cases b1 : getR (speedsR m.Works m.Minute).1 m.Hour = ⟨1, 12⟩ <;> by_cases b2 : w64 (w64 (2 * m.Teeth) * absI (getR (speedsR m.Works m.Minute).1 m.Escape).Num) = w64 (m.Beats * (getR (speedsR m.Works m.Minute).1 m.Escape).Den) <;> by_cases b3 : (m.Cam.length : Int) % m.Calendar.Months.length = 0 <;> simp [b1, b2, b3, chk]
  · rw [if_pos hs, if_neg hs]
    unfold nmWorks nmCam
    by_cases b3 : (m.Cam.length : Int) % m.Calendar.Months.length = 0 <;> simp [b3, chk]
theorem cloneAny {α : Type} {xs : List α} {k : Nat} (hl : xs.length ≤ 1048576) (hk : k ≤ 100) : (chk ((([] : List α).length + xs.length) * k * 64 ≤ 140737488355328) (some (([] : List α) ++ xs))) = some xs := by
  rw [chk_t ?_, List.nil_append]
  have : (([] : List α).length + xs.length) * k ≤ 1048576 * 100 := Nat.mul_le_mul (by simpa using hl) hk
  omega
theorem i_copyWorks_eq {w : Works_} (h : smWorks_ w) : i_copyWorks_m w = some w := by
  unfold i_copyWorks_m
  have hl := h.1.1
  rw [buildF_ok (xs := w.Arbors) (f := fun a => [a]) (c := 1) (fun v _ => by simp) (fun i hi ys hy => ?_) (fun ys => by simp) (by omega)]
  · simp only [Option.bind_some]
    unfold slices_Clone_LMesh_Mesh_m
    rw [cloneAny h.2.1 (by omega)]
    simp
  · have hi' : (i : Int) < w.Arbors.length := by omega
    have hw := (h.1.2 _ (List.getElem_mem hi)).2.1
    simp only [if_pos hi', atI_lt hi, Option.bind_some, w64_in (x := (i : Int) + 1) (by omega) (by omega)]
    first | unfold slices_Clone_Lint64_int64_m | unfold slices_Clone_Lint64_int64_v_m
    rw [cloneAny hw (by omega), Option.bind_some, chk_t (by simp at hy ⊢; omega)]
theorem i_copyMovement_eq {m : Movement_} (h : smMovement_ m) : i_copyMovement_m m = some m := by
  unfold i_copyMovement_m
  rw [i_copyWorks_eq h.2.1, Option.bind_some]
  unfold slices_Clone_LMonth_Month_m slices_Clone_LLeapRule_LeapRule_m
  rw [cloneAny h.2.2.2.2.2.2.2.1.2.1.1 (by omega), Option.bind_some, cloneAny h.2.2.2.2.2.2.2.1.2.2.1.1 (by omega), Option.bind_some, i_cloneI h.2.2.2.2.2.2.2.2.1.1, Option.bind_some]
def zeroM : Movement_ := ⟨⟨#[]⟩, ⟨[], []⟩, 0, 0, 0, 0, 0, ⟨⟨#[]⟩, [], [], 0⟩, [], 0⟩
def zeroP : Perpetual_ := ⟨[], 0, 0, 0, 0, 0, 0⟩
def zeroS : Sim_ := ⟨zeroM, ⟨0, 0, 0⟩, 0, 0, zeroP⟩
def newR (m : Movement_) (d : Date_) (wd : Int) : Sim_ × Int :=
  if movB m = true then (if faultsR m = [] then (if (setR m.Calendar m.Cam d wd).2 = 0 then (⟨m, d, wd, 0, (setR m.Calendar m.Cam d wd).1⟩, 0) else (zeroS, (setR m.Calendar m.Cam d wd).2)) else (zeroS, 6)) else (zeroS, 1)
theorem smC {m : Movement_} (h : smMovement_ m) : m.Calendar.Months.length ≤ 1048576 ∧ m.Calendar.Rules.length ≤ 1048576 ∧ m.Cam.length ≤ 1048576 := ⟨h.2.2.2.2.2.2.2.1.2.1.1, h.2.2.2.2.2.2.2.1.2.2.1.1, h.2.2.2.2.2.2.2.2.1.1⟩
theorem len_nil {α : Type} {xs : List α} : (0 < (xs.length : Int)) ↔ ¬ xs = [] := by
  cases xs <;> simp
theorem i_NewSim_eq {m : Movement_} (h : smMovement_ m) (d : Date_) (wd : Int) : i_NewSim_m m d wd = some (newR m d wd) := by
  obtain ⟨c1, c2, c3⟩ := smC h
  unfold i_NewSim_m newR
  rw [i_ValidMovement_eq h, Option.bind_some]
  cases hv : movB m
  · rfl
  · rw [i_MovementFaults_eq h, hv]
    simp only [Bool.not_true, Bool.false_eq_true, if_false, if_true, Option.bind_some, len_nil]
    by_cases hf : faultsR m = []
    · rw [if_neg (by simp [hf]), if_pos hf, i_SetPerpetual_eq (by omega) (by omega) c3, Option.bind_some]
      by_cases hs : (setR m.Calendar m.Cam d wd).2 = 0
      · rw [if_neg (by simp [hs]), if_pos hs, i_copyMovement_eq h, Option.bind_some]
      · rw [if_pos hs, if_neg hs]; rfl
    · rw [if_pos hf, if_neg hf]; rfl
end Go.Proofs.YtjhadibjjldpdabGreat
namespace Go.Proofs.YtjhadibjjldpdabGreat
set_option linter.unusedVariables false
def yrs (c : Calendar_) : Nat := 10000 + 0 * c.Months.length
theorem yrs_eq (c : Calendar_) : yrs c = 10000 := by unfold yrs; omega
def allD (c : Calendar_) : Int := bef c (yrs c)
def YearAt (c : Calendar_) (day : Int) (s : Int × Date_) : Prop := s.2.Month = 1 ∧ s.2.Day = 0 ∧ 0 ≤ s.2.Year ∧ 0 ≤ s.1 ∧ bef c s.2.Year.toNat + s.1 = day
theorem YearAt.bd {c : Calendar_} (h : calB c = true) {day : Int} {s : Int × Date_} (hs : YearAt c day s) (hd : day < allD c) : s.2.Year ≤ 9999 ∧ s.1 ≤ 12000000 := by
  obtain ⟨_, _, h3, h4, h5⟩ := hs
  have f := (bef_bd h (yrs c)).2
  have g := (bef_bd h s.2.Year.toNat).1
  have y := yrs_eq c
  unfold allD at hd
  refine ⟨?_, by omega⟩
  refine Classical.byContradiction fun hn => ?_
  have := bef_mono h (m := yrs c) (n := s.2.Year.toNat) (by omega)
  omega
end Go.Proofs.YtjhadibjjldpdabGreat
namespace Go.Proofs.YtjhadibjjldpdabGreat
set_option linter.unusedVariables false
end Go.Proofs.YtjhadibjjldpdabGreat
