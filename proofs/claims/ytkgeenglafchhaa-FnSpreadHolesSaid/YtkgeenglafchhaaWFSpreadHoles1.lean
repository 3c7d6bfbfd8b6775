/- walks -/
import Derived.Test.YtkgeenglafchhaaXM
import Derived.Test.YtkgeenglafchhaaTab
import Derived.Test.YtkgeenglafchhaaProg
namespace Go.Proofs.Ytkgeenglafchhaa
open Go.RowKit
set_option linter.unusedVariables false
set_option maxRecDepth 100000
set_option maxHeartbeats 2000000
theorem l_f6big_c {p0 : List Int} {r : Bool} (h0 : l_f6big_m p0 = some r) : FnC Try.prog 18 [] [.d (.sl (List.map cU8 p0))] [] (.d (.v (.bool r))) := by
  refine fnc_intro (T := tt) (N := 6) tok Try.func18 rfl rfl (by kernel_rfl) rfl rfl ?_
  unfold l_f6big_m at h0
  refine aw_seq ?_
  refine aw_regionA (is := [0]) rfl ?_
  refine rp rfl w0 rfl (pu_assign (r := .d _) rfl) ?_
  refine ra_nil ?_
  refine then_n ?_
  refine aw_seq ?_
  refine aw_regionA (is := [0, 1, 2, 3]) rfl ?_
  refine rp rfl w0 rfl (pu_move (r := .d _) rfl) ?_
  refine rp rfl w0 rfl (pu_len_map tok rfl rfl rfl) ?_
  refine rp rfl w0 rfl (pu_gtr rfl rfl) ?_
  refine rp rfl w0 rfl (pu_assign (r := .d _) rfl) ?_
  refine ra_nil ?_
  refine then_n ?_
  refine aw_ret ?_
  cases h0
  exact ret0_ (rs := [.tmp 2]) rfl

theorem s_l00From_c {p0 : List Int} {r : L00Src_} (h0 : s_l00From_m p0 = some r) : FnC Try.prog 63 [] [.d (.sl (List.map cU8 p0))] [.live [⟨158, 3, .av [[.d (.sl (List.map cU8 r.code)), .d (.v (.int .i64 r.at_)), .d (.v (.int .u64 r.seed))]]⟩]] (.ptr 0 0 1 0 0) := by
  refine fnc_intro (T := tt) (N := 6) tok Try.func63 rfl rfl (by kernel_rfl) rfl rfl ?_
  unfold s_l00From_m at h0
  refine aw_seq ?_
  refine aw_regionA (is := [0]) rfl ?_
  refine rp rfl w0 rfl (pu_assign (r := .d _) rfl) ?_
  refine ra_nil ?_
  refine then_n ?_
  refine aw_seq ?_
  refine aw_regionA (is := [0, 1, 2, 3]) rfl ?_
  refine rp rfl w0 rfl (pu_move (r := .d _) rfl) ?_
  refine rp rfl w0 rfl (pu_build (C0 := [.d (.v (.slice none 0 0)), .d (.v (.int .i64 0)), .d (.v (.int .u64 0))]) tok rfl rfl (by repeat (first | exact Plc.nil | apply Plc.cons rfl)) rfl (by repeat (first | exact Bld.nil _ | apply Bld.cons (cs := [.d _]) rfl rfl rfl rfl (by repeat (first | exact Spl.z _ | apply Spl.t | apply Spl.d)) | apply Bld.cons (cs := [.own _ _ _]) rfl rfl rfl rfl (by repeat (first | exact Spl.z _ | apply Spl.t | apply Spl.d)) | apply Bld.cons (cs := [.ptr _ _ _ _ _]) rfl rfl rfl rfl (by repeat (first | exact Spl.z _ | apply Spl.t | apply Spl.d)) | apply Bld.cons (cs := [.fn _ _]) rfl rfl rfl rfl (by repeat (first | exact Spl.z _ | apply Spl.t | apply Spl.d)) | apply Bld.cons (cs := _ :: _) rfl rfl rfl rfl (by repeat (first | exact Spl.z _ | apply Spl.t | apply Spl.d))))) ?_
  refine rs rfl w0 rfl (st_box 3 (cs := _ :: _) rfl rfl rfl) ?_
  refine rp rfl w0 rfl (pu_assign (r := .ptr _ _ _ _ _) rfl) ?_
  refine ra_nil ?_
  refine then_n ?_
  refine aw_ret ?_
  cases h0
  exact retK_ (rs := [.tmp 2]) [3] rfl

theorem l00Src_next_b_c {p0 : L00Src_} {r : Int × L00Src_} (h0 : l00Src_next_b_m p0 = some r) : FnC Try.prog 111 [.live [⟨158, 3, .av [[.d (.sl (List.map cU8 p0.code)), .d (.v (.int .i64 p0.at_)), .d (.v (.int .u64 p0.seed))]]⟩]] [.ptr 0 0 1 0 0] [.live [⟨158, 3, .av [[.d (.sl (List.map cU8 r.2.code)), .d (.v (.int .i64 r.2.at_)), .d (.v (.int .u64 r.2.seed))]]⟩]] (.d (.v (.int .i64 r.1))) := by
  refine fnc_intro (T := tt) (N := 62) tok Try.func111 rfl rfl (by kernel_rfl) rfl rfl ?_
  unfold l00Src_next_b_m at h0
  refine aw_seq ?_
  refine aw_regionA (is := [0]) rfl ?_
  refine rp rfl w0 rfl (pu_assign (r := .d _) rfl) ?_
  refine ra_nil ?_
  refine then_n ?_
  refine aw_seq ?_
  refine aw_regionA (is := [0]) rfl ?_
  refine rp rfl w0 rfl (pu_assign (r := .d _) rfl) ?_
  refine ra_nil ?_
  refine then_n ?_
  obtain ⟨v2, h1, h0⟩ := bnd h0
  refine aw_cut ⟨updA (updA ((fun _ => .dead)) 0 (.ptr 0 0 1 0 0)) 3 (.d (.v (.int .i64 v2))), lks [.live [⟨158, 3, .av [[.d (.sl (List.map cU8 p0.code)), .d (.v (.int .i64 p0.at_)), .d (.v (.int .u64 p0.seed))]]⟩], .no, .no]⟩ ?_ ?_
  · skip
    refine aw_seq ?_
    refine aw_region_draw (is := [0, 1, 2, 3, 4, 5, 6, 7, 8, 9]) [0, 1, 3, 7, 0, 16, 48, 112, 240, 511] follows (by kernel_rfl) ?_
    refine rt_p rfl w0 rfl (pu_move (r := .ptr _ _ _ _ _) rfl) ?_
    refine rt_lk rfl w0 rfl (bx_nil rfl rfl) rfl rfl rfl ?_
    refine rt_lk rfl w0 rfl (bx_fa tok rfl rfl rfl rfl rfl rfl rfl) rfl rfl rfl ?_
    refine rt_lk rfl w0 rfl (bx_ld1 tok rfl rfl rfl rfl rfl) rfl rfl rfl ?_
    refine rt_p rfl w0 rfl (pu_move (r := .ptr _ _ _ _ _) rfl) ?_
    refine rt_lk rfl w0 rfl (bx_nil rfl rfl) rfl rfl rfl ?_
    refine rt_lk rfl w0 rfl (bx_fa tok rfl rfl rfl rfl rfl rfl rfl) rfl rfl rfl ?_
    refine rt_lk rfl w0 rfl (bx_ld1 tok rfl rfl rfl rfl rfl) rfl rfl rfl ?_
    refine rt_p rfl w0 rfl (pu_len_map tok rfl rfl rfl) ?_
    refine rt_p rfl w0 rfl (pu_lss rfl rfl) ?_
    refine rt_nil ?_
    refine ⟨by kernel_rfl, ?_⟩
    refine then_n ?_
    refine aw_if h1 rfl (fun hc h1 => ?_) (fun hc h1 => ?_)
    · skip
      refine aw_region_draw (is := [0, 1, 2, 3, 4, 5, 6, 7, 8, 9, 10, 11]) [0, 1, 3, 7, 0, 16, 48, 112, 255, 511, 1023, 2047] follows (by kernel_rfl) ?_
      refine rt_p rfl w0 rfl (pu_move (r := .ptr _ _ _ _ _) rfl) ?_
      refine rt_lk rfl w0 rfl (bx_nil rfl rfl) rfl rfl rfl ?_
      refine rt_lk rfl w0 rfl (bx_fa tok rfl rfl rfl rfl rfl rfl rfl) rfl rfl rfl ?_
      refine rt_lk rfl w0 rfl (bx_ld1 tok rfl rfl rfl rfl rfl) rfl rfl rfl ?_
      refine rt_p rfl w0 rfl (pu_move (r := .ptr _ _ _ _ _) rfl) ?_
      refine rt_lk rfl w0 rfl (bx_nil rfl rfl) rfl rfl rfl ?_
      refine rt_lk rfl w0 rfl (bx_fa tok rfl rfl rfl rfl rfl rfl rfl) rfl rfl rfl ?_
      refine rt_lk rfl w0 rfl (bx_ld1 tok rfl rfl rfl rfl rfl) rfl rfl rfl ?_
      obtain ⟨v1, hv1, h1⟩ := bnd h1
      refine rt_p rfl w0 rfl (sl_ix tok hv1 rfl rfl rfl rfl rfl rfl) ?_
      refine rt_p rfl w0 rfl (pu_load_ref1 tok rfl rfl rfl rfl) ?_
      refine rt_p rfl w0 rfl (pw_cv tok rfl rfl rfl rfl rfl) ?_
      refine rt_p rfl w0 rfl (pu_assign (r := .d _) rfl) ?_
      refine rt_nil ?_
      refine ⟨by kernel_rfl, ?_⟩
      refine then_n ?_
      cases h1
      exact wk [0, 1, 2]
    · skip
      refine aw_skip ?_
      refine then_n ?_
      cases h1
      exact wk [0, 1, 2]
  · skip
    refine aw_seq ?_
    refine aw_regionA (is := [0, 1, 2, 3, 4, 5, 6, 7]) rfl ?_
    refine rp rfl w0 rfl (pu_move (r := .ptr _ _ _ _ _) rfl) ?_
    refine rl rfl w0 rfl (bx_nil rfl rfl) ?_
    refine rl rfl w0 rfl (bx_fa tok rfl rfl rfl rfl rfl rfl rfl) ?_
    refine rl rfl w0 rfl (bx_ld1 tok rfl rfl rfl rfl rfl) ?_
    refine rp rfl w0 rfl (pw_add rfl rfl) ?_
    refine rl rfl w0 rfl (bx_nil rfl rfl) ?_
    refine rl rfl w0 rfl (bx_fa tok rfl rfl rfl rfl rfl rfl rfl) ?_
    refine rw0 rfl w0 (bx_st (cs := [.d _]) tok rfl rfl rfl rfl rfl rfl rfl) ?_
    refine ra_nil ?_
    refine then_n ?_
    refine aw_seq ?_
    refine aw_regionA (is := [0, 1, 2, 3, 4, 5, 6, 7, 8, 9, 10, 11, 12]) rfl ?_
    refine rp rfl w0 rfl (pu_move (r := .ptr _ _ _ _ _) rfl) ?_
    refine rp rfl w0 rfl (pu_move (r := .ptr _ _ _ _ _) rfl) ?_
    refine rl rfl w0 rfl (bx_nil rfl rfl) ?_
    refine rl rfl w0 rfl (bx_fa tok rfl rfl rfl rfl rfl rfl rfl) ?_
    refine rl rfl w0 rfl (bx_ld1 tok rfl rfl rfl rfl rfl) ?_
    refine rp rfl w0 rfl (pu_mulw rfl rfl) ?_
    refine rp rfl w0 rfl (pu_move (r := .d _) rfl) ?_
    refine rp rfl w0 rfl (pu_ii tok rfl rfl rfl rfl rfl) ?_
    refine rp rfl w0 rfl (pu_addw rfl rfl) ?_
    refine rp rfl w0 rfl (pu_addw rfl rfl) ?_
    refine rl rfl w0 rfl (bx_nil rfl rfl) ?_
    refine rl rfl w0 rfl (bx_fa tok rfl rfl rfl rfl rfl rfl rfl) ?_
    refine rw0 rfl w0 (bx_st (cs := [.d _]) tok rfl rfl rfl rfl rfl rfl rfl) ?_
    refine ra_nil ?_
    refine then_n ?_
    refine aw_seq ?_
    refine aw_seq ?_
    refine aw_region_draw (is := [0, 1, 2, 3, 4, 5, 6, 7, 8, 9]) [0, 1, 3, 7, 0, 16, 48, 112, 240, 511] follows (by kernel_rfl) ?_
    refine rt_p rfl w0 rfl (pu_move (r := .ptr _ _ _ _ _) rfl) ?_
    refine rt_lk rfl w0 rfl (bx_nil rfl rfl) rfl rfl rfl ?_
    refine rt_lk rfl w0 rfl (bx_fa tok rfl rfl rfl rfl rfl rfl rfl) rfl rfl rfl ?_
    refine rt_lk rfl w0 rfl (bx_ld1 tok rfl rfl rfl rfl rfl) rfl rfl rfl ?_
    refine rt_p rfl w0 rfl (pu_move (r := .ptr _ _ _ _ _) rfl) ?_
    refine rt_lk rfl w0 rfl (bx_nil rfl rfl) rfl rfl rfl ?_
    refine rt_lk rfl w0 rfl (bx_fa tok rfl rfl rfl rfl rfl rfl rfl) rfl rfl rfl ?_
    refine rt_lk rfl w0 rfl (bx_ld1 tok rfl rfl rfl rfl rfl) rfl rfl rfl ?_
    refine rt_p rfl w0 rfl (pu_len_map tok rfl rfl rfl) ?_
    refine rt_p rfl w0 rfl (pu_leq rfl rfl) ?_
    refine rt_nil ?_
    refine ⟨by kernel_rfl, ?_⟩
    refine then_n ?_
    refine aw_if h0 rfl (fun hc h0 => ?_) (fun hc h0 => ?_)
    · skip
      refine aw_seq ?_
      refine aw_regionA (is := [0, 1]) rfl ?_
      refine rp rfl w0 rfl (pu_move (r := .d _) rfl) ?_
      refine rp rfl w0 rfl (pu_assign (r := .d _) rfl) ?_
      refine ra_nil ?_
      refine then_n ?_
      refine aw_ret ?_
      refine then_r ?_
      cases h0
      exact retP_ (rs := [.tmp 2]) 1 rfl rfl
    · skip
      refine aw_skip ?_
      refine then_n ?_
      refine aw_seq ?_
      refine aw_regionA (is := [0, 1, 2, 3, 4, 5, 6, 7]) rfl ?_
      refine rp rfl w0 rfl (pu_move (r := .ptr _ _ _ _ _) rfl) ?_
      refine rl rfl w0 rfl (bx_nil rfl rfl) ?_
      refine rl rfl w0 rfl (bx_fa tok rfl rfl rfl rfl rfl rfl rfl) ?_
      refine rl rfl w0 rfl (bx_ld1 tok rfl rfl rfl rfl rfl) ?_
      refine rp rfl w0 rfl (pu_shr rfl rfl (by decide)) ?_
      refine rp rfl w0 rfl (pu_and rfl rfl) ?_
      refine rp rfl w0 rfl (pw_cv tok rfl rfl rfl rfl rfl) ?_
      refine rp rfl w0 rfl (pu_assign (r := .d _) rfl) ?_
      refine ra_nil ?_
      refine then_n ?_
      refine aw_ret ?_
      cases h0
      exact retP_ (rs := [.tmp 2]) 1 rfl rfl

theorem l00Src_pick_b_c {p0 : L00Src_} {p1 : Int} {r : Int × L00Src_} (h0 : l00Src_pick_b_m p0 p1 = some r) : FnC Try.prog 66 [.live [⟨158, 3, .av [[.d (.sl (List.map cU8 p0.code)), .d (.v (.int .i64 p0.at_)), .d (.v (.int .u64 p0.seed))]]⟩]] [.ptr 0 0 1 0 0, .d (.v (.int .i64 p1))] [.live [⟨158, 3, .av [[.d (.sl (List.map cU8 r.2.code)), .d (.v (.int .i64 r.2.at_)), .d (.v (.int .u64 r.2.seed))]]⟩]] (.d (.v (.int .i64 r.1))) := by
  refine fnc_intro (T := tt) (N := 20) tok Try.func66 rfl rfl (by kernel_rfl) rfl rfl ?_
  unfold l00Src_pick_b_m at h0
  refine aw_seq ?_
  refine aw_regionA (is := [0]) rfl ?_
  refine rp rfl w0 rfl (pu_assign (r := .d _) rfl) ?_
  refine ra_nil ?_
  refine then_n ?_
  refine aw_seq ?_
  refine aw_seq ?_
  refine aw_regionA (is := [0, 1]) rfl ?_
  refine rp rfl w0 rfl (pu_move (r := .d _) rfl) ?_
  refine rp rfl w0 rfl (pu_leq rfl rfl) ?_
  refine ra_nil ?_
  refine then_n ?_
  refine aw_if h0 rfl (fun hc h0 => ?_) (fun hc h0 => ?_)
  · skip
    refine aw_seq ?_
    refine aw_regionA (is := [0]) rfl ?_
    refine rp rfl w0 rfl (pu_assign (r := .d _) rfl) ?_
    refine ra_nil ?_
    refine then_n ?_
    refine aw_ret ?_
    refine then_r ?_
    cases h0
    exact retP_ (rs := [.tmp 4]) 1 rfl rfl
  · skip
    refine aw_skip ?_
    refine then_n ?_
    refine aw_seq ?_
    refine aw_regionA (is := [0, 1, 2]) rfl ?_
    refine rp rfl w0 rfl (pu_move (r := .ptr _ _ _ _ _) rfl) ?_
    obtain ⟨v1, hv1, h0⟩ := bnd h0
    refine rw1 rfl w0 rfl (c_callP [0] 300 (l00Src_next_b_c hv1) rfl rfl) ?_
    refine rp rfl w0 rfl (pu_assign (r := .d _) rfl) ?_
    refine ra_nil ?_
    refine then_n ?_
    obtain ⟨v3, h1, h0⟩ := bnd h0
    refine aw_cut ⟨updA (updA ((fun _ => .dead)) 1 (.d (.v (.int .i64 p1)))) 5 (.d (.v (.int .i64 v3.1))), lks [.live [⟨158, 3, .av [[.d (.sl (List.map cU8 v3.2.code)), .d (.v (.int .i64 v3.2.at_)), .d (.v (.int .u64 v3.2.seed))]]⟩], .no, .no]⟩ ?_ ?_
    · skip
      refine aw_seq ?_
      refine aw_regionA (is := [0, 1]) rfl ?_
      refine rp rfl w0 rfl (pu_move (r := .d _) rfl) ?_
      refine rp rfl w0 rfl (pu_gtr rfl rfl) ?_
      refine ra_nil ?_
      refine then_n ?_
      refine aw_if h1 rfl (fun hc h1 => ?_) (fun hc h1 => ?_)
      · skip
        refine aw_regionA (is := [0, 1, 2, 3, 4, 5]) rfl ?_
        refine rp rfl w0 rfl (pu_move (r := .d _) rfl) ?_
        refine rp rfl w0 rfl (pw_mul rfl rfl) ?_
        refine rp rfl w0 rfl (pu_move (r := .ptr _ _ _ _ _) rfl) ?_
        obtain ⟨v2, hv2, h1⟩ := bnd h1
        refine rw1 rfl w0 rfl (c_callP [0] 300 (l00Src_next_b_c hv2) rfl rfl) ?_
        refine rp rfl w0 rfl (pw_add rfl rfl) ?_
        refine rp rfl w0 rfl (pu_assign (r := .d _) rfl) ?_
        refine ra_nil ?_
        refine then_n ?_
        cases h1
        exact wk [0, 1, 2]
      · skip
        refine aw_skip ?_
        refine then_n ?_
        cases h1
        exact wk [0, 1, 2]
    · skip
      refine aw_seq ?_
      refine aw_regionA (is := [0, 1, 2, 3]) rfl ?_
      refine rp rfl w0 rfl (pu_move (r := .d _) rfl) ?_
      refine rp rfl w0 rfl (pu_move (r := .d _) rfl) ?_
      obtain ⟨hq4, h0⟩ := chk_e h0
      refine rp rfl w0 rfl (pu_remw rfl rfl hq4) ?_
      refine rp rfl w0 rfl (pu_assign (r := .d _) rfl) ?_
      refine ra_nil ?_
      refine then_n ?_
      refine aw_ret ?_
      cases h0
      exact retP_ (rs := [.tmp 4]) 1 rfl rfl

theorem l00Src_among_b_c {p0 : L00Src_} {p1 : List Int} {r : Int × L00Src_} (h0 : l00Src_among_b_m p0 p1 = some r) : FnC Try.prog 109 [.live [⟨158, 3, .av [[.d (.sl (List.map cU8 p0.code)), .d (.v (.int .i64 p0.at_)), .d (.v (.int .u64 p0.seed))]]⟩]] [.ptr 0 0 1 0 0, .d (.sl (List.map cI p1))] [.live [⟨158, 3, .av [[.d (.sl (List.map cU8 r.2.code)), .d (.v (.int .i64 r.2.at_)), .d (.v (.int .u64 r.2.seed))]]⟩]] (.d (.v (.int .i64 r.1))) := by
  refine fnc_intro (T := tt) (N := 12) tok Try.func109 rfl rfl (by kernel_rfl) rfl rfl ?_
  unfold l00Src_among_b_m at h0
  refine aw_seq ?_
  refine aw_regionA (is := [0]) rfl ?_
  refine rp rfl w0 rfl (pu_assign (r := .d _) rfl) ?_
  refine ra_nil ?_
  refine then_n ?_
  refine aw_seq ?_
  refine aw_regionA (is := [0, 1, 2, 3, 4, 5, 6, 7]) rfl ?_
  refine rp rfl w0 rfl (pu_move (r := .d _) rfl) ?_
  refine rp rfl w0 rfl (pu_move (r := .ptr _ _ _ _ _) rfl) ?_
  refine rp rfl w0 rfl (pu_move (r := .d _) rfl) ?_
  refine rp rfl w0 rfl (pu_len_map tok rfl rfl rfl) ?_
  obtain ⟨v1, hv1, h0⟩ := bnd h0
  refine rw1 rfl w0 rfl (c_callP [0] 300 (l00Src_pick_b_c hv1) rfl rfl) ?_
  obtain ⟨v2, hv2, h0⟩ := bnd h0
  refine rp rfl w0 rfl (sl_ix tok hv2 rfl rfl rfl rfl rfl rfl) ?_
  refine rp rfl w0 rfl (pu_load_ref1 tok rfl rfl rfl rfl) ?_
  refine rp rfl w0 rfl (pu_assign (r := .d _) rfl) ?_
  refine ra_nil ?_
  refine then_n ?_
  refine aw_ret ?_
  cases h0
  exact retP_ (rs := [.tmp 4]) 1 rfl rfl

theorem l00Src_one_b_c {p0 : L00Src_} {p1 : Int} {r : Bool × L00Src_} (h0 : l00Src_one_b_m p0 p1 = some r) : FnC Try.prog 110 [.live [⟨158, 3, .av [[.d (.sl (List.map cU8 p0.code)), .d (.v (.int .i64 p0.at_)), .d (.v (.int .u64 p0.seed))]]⟩]] [.ptr 0 0 1 0 0, .d (.v (.int .i64 p1))] [.live [⟨158, 3, .av [[.d (.sl (List.map cU8 r.2.code)), .d (.v (.int .i64 r.2.at_)), .d (.v (.int .u64 r.2.seed))]]⟩]] (.d (.v (.bool r.1))) := by
  refine fnc_intro (T := tt) (N := 9) tok Try.func110 rfl rfl (by kernel_rfl) rfl rfl ?_
  unfold l00Src_one_b_m at h0
  refine aw_seq ?_
  refine aw_regionA (is := [0]) rfl ?_
  refine rp rfl w0 rfl (pu_assign (r := .d _) rfl) ?_
  refine ra_nil ?_
  refine then_n ?_
  refine aw_seq ?_
  refine aw_regionA (is := [0, 1, 2, 3, 4]) rfl ?_
  refine rp rfl w0 rfl (pu_move (r := .ptr _ _ _ _ _) rfl) ?_
  refine rp rfl w0 rfl (pu_move (r := .d _) rfl) ?_
  obtain ⟨v1, hv1, h0⟩ := bnd h0
  refine rw1 rfl w0 rfl (c_callP [0] 300 (l00Src_pick_b_c hv1) rfl rfl) ?_
  refine rp rfl w0 rfl (pu_eql rfl rfl) ?_
  refine rp rfl w0 rfl (pu_assign (r := .d _) rfl) ?_
  refine ra_nil ?_
  refine then_n ?_
  refine aw_ret ?_
  cases h0
  exact retP_ (rs := [.tmp 4]) 1 rfl rfl

theorem s_l24Draw_b_c {p0 : L00Src_} {r : Divider_ × L00Src_} (h0 : s_l24Draw_b_m p0 = some r) : FnC Try.prog 108 [.live [⟨158, 3, .av [[.d (.sl (List.map cU8 p0.code)), .d (.v (.int .i64 p0.at_)), .d (.v (.int .u64 p0.seed))]]⟩]] [.ptr 0 0 1 0 0] [.live [⟨158, 3, .av [[.d (.sl (List.map cU8 r.2.code)), .d (.v (.int .i64 r.2.at_)), .d (.v (.int .u64 r.2.seed))]]⟩], .live [⟨2, 1, .data (List.map cI r.1.Circles)⟩]] (.agg [.d (.v (.int .i64 r.1.Worm)), .own 1 0 r.1.Circles.length]) := by
  refine fnc_intro (T := tt) (N := 43) tok Try.func108 rfl rfl (by kernel_rfl) rfl rfl ?_
  unfold s_l24Draw_b_m at h0
  refine aw_seq ?_
  refine aw_regionA (is := [0]) rfl ?_
  refine rs rfl w0 rfl (st_alloc 3 (cs := [.d (.v (.int .i64 0)), .d (.v (.slice none 0 0))]) tok rfl rfl rfl) ?_
  refine ra_nil ?_
  refine then_n ?_
  refine aw_seq ?_
  refine aw_regionA (is := [0, 1, 2, 3, 4, 5]) rfl ?_
  refine rp rfl w0 rfl (pu_move (r := .ptr _ _ _ _ _) rfl) ?_
  refine rs rfl w0 rfl (bs_val tok cI [40, 60, 1, 5, 72] rfl rfl rfl (by repeat (first | exact Els.nil _ | apply Els.cons (cs := [.d _]) rfl rfl rfl | apply Els.cons (cs := _ :: _) rfl rfl rfl)) rfl rfl rfl (by repeat (first | exact AllDD.nil | (apply AllDD.cons; (repeat (first | exact AllD.nil | apply AllD.cons))))) rfl) ?_
  obtain ⟨v1, hv1, h0⟩ := bnd h0
  refine rw1 rfl w0 rfl (c_callP [0] 300 (l00Src_among_b_c hv1) rfl rfl) ?_
  refine rp rfl w0 rfl (pu_build (C0 := [.d (.v (.int .i64 0)), .d (.v (.slice none 0 0))]) tok rfl rfl (by repeat (first | exact Plc.nil | apply Plc.cons rfl)) rfl (by repeat (first | exact Bld.nil _ | apply Bld.cons (cs := [.d _]) rfl rfl rfl rfl (by repeat (first | exact Spl.z _ | apply Spl.t | apply Spl.d)) | apply Bld.cons (cs := [.own _ _ _]) rfl rfl rfl rfl (by repeat (first | exact Spl.z _ | apply Spl.t | apply Spl.d)) | apply Bld.cons (cs := [.ptr _ _ _ _ _]) rfl rfl rfl rfl (by repeat (first | exact Spl.z _ | apply Spl.t | apply Spl.d)) | apply Bld.cons (cs := [.fn _ _]) rfl rfl rfl rfl (by repeat (first | exact Spl.z _ | apply Spl.t | apply Spl.d)) | apply Bld.cons (cs := _ :: _) rfl rfl rfl rfl (by repeat (first | exact Spl.z _ | apply Spl.t | apply Spl.d))))) ?_
  refine rs rfl w0 rfl (st_alloc 4 (cs := [.d (.v (.int .i64 0)), .d (.v (.slice none 0 0))]) tok rfl rfl rfl) ?_
  refine rw0 rfl w0 (bx_st (cs := _ :: _) tok rfl rfl rfl rfl rfl rfl rfl) ?_
  refine ra_nil ?_
  refine then_n ?_
  obtain ⟨v4, h1, h0⟩ := bnd h0
  refine aw_cut ⟨updA (updA (updA ((fun _ => .dead)) 0 (.ptr 0 0 1 0 0)) 2 (.ptr 3 0 1 0 0)) 3 (.ptr 4 0 1 0 0), lks [.live [⟨158, 3, .av [[.d (.sl (List.map cU8 v4.1.code)), .d (.v (.int .i64 v4.1.at_)), .d (.v (.int .u64 v4.1.seed))]]⟩], .no, .no, .live [⟨32, 2, .av [[.d (.v (.int .i64 0)), .d (.v (.slice none 0 0))]]⟩], .live [⟨32, 2, .av [[.d (.v (.int .i64 v4.2)), .d (.v (.slice none 0 0))]]⟩]]⟩ ?_ ?_
  · skip
    refine aw_seq ?_
    refine aw_regionA (is := [0, 1]) rfl ?_
    refine rp rfl w0 rfl (pu_move (r := .ptr _ _ _ _ _) rfl) ?_
    obtain ⟨v2, hv2, h1⟩ := bnd h1
    refine rw1 rfl w0 rfl (c_callP [0] 300 (l00Src_one_b_c hv2) rfl rfl) ?_
    refine ra_nil ?_
    refine then_n ?_
    refine aw_ifB h1 rfl (fun hc h1 => ?_) (fun hc h1 => ?_)
    · skip
      refine aw_regionA (is := [0, 1, 2, 3, 4]) rfl ?_
      refine rp rfl w0 rfl (pu_move (r := .ptr _ _ _ _ _) rfl) ?_
      obtain ⟨v3, hv3, h1⟩ := bnd h1
      refine rw1 rfl w0 rfl (c_callP [0] 300 (l00Src_pick_b_c hv3) rfl rfl) ?_
      refine rp rfl w0 rfl (pw_add rfl rfl) ?_
      refine rl rfl w0 rfl (bx_fa tok rfl rfl rfl rfl rfl rfl rfl) ?_
      refine rw0 rfl w0 (bx_st (cs := [.d _]) tok rfl rfl rfl rfl rfl rfl rfl) ?_
      refine ra_nil ?_
      refine then_n ?_
      cases h1
      exact wk [0, 1, 2, 3, 4]
    · skip
      refine aw_skip ?_
      refine then_n ?_
      cases h1
      exact wk [0, 1, 2, 3, 4]
  · skip
    refine aw_seq ?_
    refine aw_seq ?_
    refine aw_regionA (is := [0, 1]) rfl ?_
    refine rp rfl w0 rfl (pu_move (r := .ptr _ _ _ _ _) rfl) ?_
    obtain ⟨v5, hv5, h0⟩ := bnd h0
    refine rw1 rfl w0 rfl (c_callP [0] 300 (l00Src_one_b_c hv5) rfl rfl) ?_
    refine ra_nil ?_
    refine then_n ?_
    refine aw_ifB h0 rfl (fun hc h0 => ?_) (fun hc h0 => ?_)
    · skip
      refine aw_seq ?_
      refine aw_regionA (is := [0, 1, 2]) rfl ?_
      refine rs rfl w0 rfl (bs_own 5 tok cI [15, 16, 17, 18, 19, 20, 21, 23, 27] rfl rfl rfl (by repeat (first | exact Els.nil _ | apply Els.cons (cs := [.d _]) rfl rfl rfl | apply Els.cons (cs := _ :: _) rfl rfl rfl)) rfl rfl rfl (by repeat (first | exact AllDD.nil | (apply AllDD.cons; (repeat (first | exact AllD.nil | apply AllD.cons))))) rfl rfl) ?_
      refine rl rfl w0 rfl (bx_fa tok rfl rfl rfl rfl rfl rfl rfl) ?_
      refine rw0 rfl w0 (bx_st (cs := [.own _ _ _]) tok rfl rfl rfl rfl rfl rfl rfl) ?_
      refine ra_nil ?_
      refine then_n ?_
      refine aw_seq ?_
      refine aw_regionA (is := [0, 1]) rfl ?_
      refine rl rfl w0 rfl (bx_ldN tok rfl rfl rfl rfl) ?_
      refine rw0 rfl w0 (bx_st (cs := _ :: _) tok rfl rfl rfl rfl rfl rfl rfl) ?_
      refine ra_nil ?_
      refine then_n ?_
      refine aw_ret ?_
      refine then_r ?_
      cases h0
      exact retM_ (rs := [.cell 2 32]) 1 [0, 5] rfl
    · skip
      refine aw_skip ?_
      refine then_n ?_
      refine aw_seq ?_
      refine aw_regionA (is := [0, 1, 2, 3]) rfl ?_
      refine rp rfl w0 rfl (pu_move (r := .ptr _ _ _ _ _) rfl) ?_
      obtain ⟨v6, hv6, h0⟩ := bnd h0
      refine rw1 rfl w0 rfl (c_callP [0] 300 (l00Src_pick_b_c hv6) rfl rfl) ?_
      refine rp rfl w0 rfl (pw_add rfl rfl) ?_
      refine rp rfl w0 rfl (pu_assign (r := .d _) rfl) ?_
      refine ra_nil ?_
      refine then_n ?_
      obtain ⟨v14, h1, h0⟩ := bnd h0
      refine aw_cut ⟨updA (updA ((fun _ => .dead)) 2 (.ptr 3 0 1 0 0)) 3 (.ptr 4 0 1 0 0), lks [.live [⟨158, 3, .av [[.d (.sl (List.map cU8 v14.1.code)), .d (.v (.int .i64 v14.1.at_)), .d (.v (.int .u64 v14.1.seed))]]⟩], .no, .no, .live [⟨32, 2, .av [[.d (.v (.int .i64 0)), .d (.v (.slice none 0 0))]]⟩], .live [⟨32, 2, .av [[.d (.v (.int .i64 v4.2)), .own 5 0 (v14.2).length]]⟩], .live [⟨2, 1, .data (List.map cI v14.2)⟩]]⟩ ?_ ?_
      · skip
        refine aw_seq ?_
        refine aw_regionA (is := [0, 1, 2, 3]) rfl ?_
        refine rp rfl w0 rfl (pu_move (r := .ptr _ _ _ _ _) rfl) ?_
        obtain ⟨v7, hv7, h1⟩ := bnd h1
        refine rw1 rfl w0 rfl (c_callP [0] 300 (l00Src_pick_b_c hv7) rfl rfl) ?_
        refine rp rfl w0 rfl (pw_add rfl rfl) ?_
        refine rp rfl w0 rfl (pu_assign (r := .d _) rfl) ?_
        refine ra_nil ?_
        refine then_n ?_
        refine aw_block ?_
        refine aw_loopM (fun s11 => ⟨updA (updA (updA (updA (updA ((fun _ => .dead)) 0 (.ptr 0 0 1 0 0)) 2 (.ptr 3 0 1 0 0)) 3 (.ptr 4 0 1 0 0)) 4 (.d (.v (.int .i64 s11.1)))) 5 (.d (.v (.int .i64 s11.2.1))), lks [.live [⟨158, 3, .av [[.d (.sl (List.map cU8 s11.2.2.1.code)), .d (.v (.int .i64 s11.2.2.1.at_)), .d (.v (.int .u64 s11.2.2.1.seed))]]⟩], .no, .no, .live [⟨32, 2, .av [[.d (.v (.int .i64 0)), .d (.v (.slice none 0 0))]]⟩], .live [⟨32, 2, .av [[.d (.v (.int .i64 v4.2)), .own 5 0 (s11.2.2.2).length]]⟩], .live [⟨2, 1, .data (List.map cI s11.2.2.2)⟩]]⟩) h1 ?_ (fun s11 y h2 => ?_)
        · skip
          refine Weak.trans_ (weak_adopt 5 rfl 2 1 (kb := 4) (j := 1) rfl rfl (by repeat (first | exact Spl.z _ | apply Spl.t | apply Spl.d))) ?_
          exact wk [0, 1, 2, 3, 4, 5]
        · skip
          refine aw_seq ?_
          refine aw_seq ?_
          refine aw_regionA (is := [0, 1]) rfl ?_
          refine rp rfl w0 rfl (pu_move (r := .d _) rfl) ?_
          refine rp rfl w0 rfl (pu_gtr rfl rfl) ?_
          refine ra_nil ?_
          refine then_n ?_
          refine aw_if h2 rfl (fun hc h2 => ?_) (fun hc h2 => ?_)
          · skip
            refine aw_skip ?_
            refine then_n ?_
            refine aw_seq ?_
            refine aw_block ?_
            refine aw_seq ?_
            refine aw_regionA (is := [0, 1, 2, 3, 4, 5, 6]) rfl ?_
            refine rl rfl w0 rfl (bx_fa tok rfl rfl rfl rfl rfl rfl rfl) ?_
            refine rl rfl w0 rfl (bx_ld1 tok rfl rfl rfl rfl rfl) ?_
            refine rp rfl w0 rfl (pu_move (r := .d _) rfl) ?_
            refine rs rfl w0 rfl (bs_val tok cI [s11.1] rfl rfl rfl (by repeat (first | exact Els.nil _ | apply Els.cons (cs := [.d _]) rfl rfl rfl | apply Els.cons (cs := _ :: _) rfl rfl rfl)) rfl rfl rfl (by repeat (first | exact AllDD.nil | (apply AllDD.cons; (repeat (first | exact AllD.nil | apply AllD.cons))))) rfl) ?_
            obtain ⟨hq12, h2⟩ := chk_e h2
            refine rw1 rfl w0 rfl (ap_own tok hq12 rfl rfl rfl rfl rfl rfl rfl rfl rfl rfl rfl rfl (fun _ => rfl)) ?_
            refine rl rfl w0 rfl (bx_fa tok rfl rfl rfl rfl rfl rfl rfl) ?_
            refine rw0 rfl w0 (bx_st (cs := [.own _ _ _]) tok rfl rfl rfl rfl rfl rfl rfl) ?_
            refine ra_nil ?_
            refine then_n ?_
            refine aw_regionA (is := [0, 1, 2, 3, 4, 5]) rfl ?_
            refine rp rfl w0 rfl (pu_move (r := .d _) rfl) ?_
            refine rp rfl w0 rfl (pu_move (r := .ptr _ _ _ _ _) rfl) ?_
            obtain ⟨v13, hv13, h2⟩ := bnd h2
            refine rw1 rfl w0 rfl (c_callP [0] 300 (l00Src_pick_b_c hv13) rfl rfl) ?_
            refine rp rfl w0 rfl (pw_add rfl rfl) ?_
            refine rp rfl w0 rfl (pw_add rfl rfl) ?_
            refine rp rfl w0 rfl (pu_assign (r := .d _) rfl) ?_
            refine ra_nil ?_
            refine block_n ?_
            refine then_n ?_
            refine aw_regionA (is := [0, 1, 2]) rfl ?_
            refine rp rfl w0 rfl (pu_move (r := .d _) rfl) ?_
            refine rp rfl w0 rfl (pw_sub rfl rfl) ?_
            refine rp rfl w0 rfl (pu_assign (r := .d _) rfl) ?_
            refine ra_nil ?_
            refine loop_n ?_
            cases h2
            refine ⟨_, rfl, ?_⟩
            exact wk [0, 1, 2, 3, 4, 5]
          · skip
            refine aw_exit ?_
            refine then_e ?_
            cases h2
            refine loop_x ⟨_, rfl, fun e => ?_⟩
            subst e
            refine block_hit ?_
            refine then_n ?_
            exact wk [0, 1, 2, 3, 4, 5]
      · skip
        refine aw_seq ?_
        refine aw_regionA (is := [0, 1]) rfl ?_
        refine rl rfl w0 rfl (bx_ldN tok rfl rfl rfl rfl) ?_
        refine rw0 rfl w0 (bx_st (cs := _ :: _) tok rfl rfl rfl rfl rfl rfl rfl) ?_
        refine ra_nil ?_
        refine then_n ?_
        refine aw_ret ?_
        cases h0
        exact retM_ (rs := [.cell 2 32]) 1 [0, 5] rfl

theorem s_l24Bent_b_c {p0 : L00Src_} {r : Divider_ × L00Src_} (h0 : s_l24Bent_b_m p0 = some r) : FnC Try.prog 64 [.live [⟨158, 3, .av [[.d (.sl (List.map cU8 p0.code)), .d (.v (.int .i64 p0.at_)), .d (.v (.int .u64 p0.seed))]]⟩]] [.ptr 0 0 1 0 0] [.live [⟨158, 3, .av [[.d (.sl (List.map cU8 r.2.code)), .d (.v (.int .i64 r.2.at_)), .d (.v (.int .u64 r.2.seed))]]⟩], .live [⟨2, 1, .data (List.map cI r.1.Circles)⟩]] (.agg [.d (.v (.int .i64 r.1.Worm)), .own 1 0 r.1.Circles.length]) := by
  refine fnc_intro (T := tt) (N := 47) tok Try.func64 rfl rfl (by kernel_rfl) rfl rfl ?_
  unfold s_l24Bent_b_m at h0
  refine aw_seq ?_
  refine aw_regionA (is := [0]) rfl ?_
  refine rs rfl w0 rfl (st_alloc 3 (cs := [.d (.v (.int .i64 0)), .d (.v (.slice none 0 0))]) tok rfl rfl rfl) ?_
  refine ra_nil ?_
  refine then_n ?_
  refine aw_seq ?_
  refine aw_regionA (is := [0, 1, 2, 3]) rfl ?_
  refine rp rfl w0 rfl (pu_move (r := .ptr _ _ _ _ _) rfl) ?_
  obtain ⟨v1, hv1, h0⟩ := bnd h0
  refine rw1 rfl w0 rfl (c_callP [0, 4] 300 (fnc_pad 1 (s_l24Draw_b_c hv1)) rfl rfl) ?_
  refine rs rfl w0 rfl (st_alloc 5 (cs := [.d (.v (.int .i64 0)), .d (.v (.slice none 0 0))]) tok rfl rfl rfl) ?_
  refine rw0 rfl w0 (bx_st (cs := _ :: _) tok rfl rfl rfl rfl rfl rfl rfl) ?_
  refine ra_nil ?_
  refine then_n ?_
  obtain ⟨v12, h1, h0⟩ := bnd h0
  refine aw_cut ⟨updA (updA ((fun _ => .dead)) 2 (.ptr 3 0 1 0 0)) 3 (.ptr 4 0 1 0 0), lks [.live [⟨158, 3, .av [[.d (.sl (List.map cU8 v12.1.code)), .d (.v (.int .i64 v12.1.at_)), .d (.v (.int .u64 v12.1.seed))]]⟩], .no, .no, .live [⟨32, 2, .av [[.d (.v (.int .i64 0)), .d (.v (.slice none 0 0))]]⟩], .live [⟨32, 2, .av [[.d (.v (.int .i64 v12.2.1)), .own 5 0 (v12.2.2).length]]⟩], .live [⟨2, 1, .data (List.map cI v12.2.2)⟩]]⟩ ?_ ?_
  · skip
    refine aw_seq ?_
    refine aw_regionA (is := [0, 1]) rfl ?_
    refine rp rfl w0 rfl (pu_move (r := .ptr _ _ _ _ _) rfl) ?_
    obtain ⟨v2, hv2, h1⟩ := bnd h1
    refine rw1 rfl w0 rfl (c_callP [0] 300 (l00Src_pick_b_c hv2) rfl rfl) ?_
    refine ra_nil ?_
    refine then_n ?_
    refine aw_block ?_
    refine aw_seq ?_
    refine aw_regionA (is := [0, 1]) rfl ?_
    refine rp rfl w0 rfl (pu_eql rfl rfl) ?_
    refine rp rfl w0 rfl (pu_assign (r := .d _) rfl) ?_
    refine ra_nil ?_
    refine then_n ?_
    refine aw_if h1 rfl (fun hc h1 => ?_) (fun hc h1 => ?_)
    · skip
      refine aw_regionA (is := [0, 1, 2, 3, 4]) rfl ?_
      refine rp rfl w0 rfl (pu_move (r := .ptr _ _ _ _ _) rfl) ?_
      refine rs rfl w0 rfl (bs_val tok cI [0, 360, 361] rfl rfl rfl (by repeat (first | exact Els.nil _ | apply Els.cons (cs := [.d _]) rfl rfl rfl | apply Els.cons (cs := _ :: _) rfl rfl rfl)) rfl rfl rfl (by repeat (first | exact AllDD.nil | (apply AllDD.cons; (repeat (first | exact AllD.nil | apply AllD.cons))))) rfl) ?_
      obtain ⟨v3, hv3, h1⟩ := bnd h1
      refine rw1 rfl w0 rfl (c_callP [0] 300 (l00Src_among_b_c hv3) rfl rfl) ?_
      refine rl rfl w0 rfl (bx_fa tok rfl rfl rfl rfl rfl rfl rfl) ?_
      refine rw0 rfl w0 (bx_st (cs := [.d _]) tok rfl rfl rfl rfl rfl rfl rfl) ?_
      refine ra_nil ?_
      refine block_n ?_
      refine then_n ?_
      cases h1
      exact wk [0, 1, 2, 3, 5, 4]
    · skip
      refine aw_seq ?_
      refine aw_regionA (is := [0, 1]) rfl ?_
      refine rp rfl w0 rfl (pu_eql rfl rfl) ?_
      refine rp rfl w0 rfl (pu_assign (r := .d _) rfl) ?_
      refine ra_nil ?_
      refine then_n ?_
      refine aw_if h1 rfl (fun hc h1 => ?_) (fun hc h1 => ?_)
      · skip
        refine aw_regionA (is := [0, 1]) rfl ?_
        refine rl rfl w0 rfl (bx_fa tok rfl rfl rfl rfl rfl rfl rfl) ?_
        refine rw0 rfl w0 (bx_st (cs := [.d _]) tok rfl rfl rfl rfl rfl rfl rfl) ?_
        refine ra_nil ?_
        refine block_n ?_
        refine then_n ?_
        cases h1
        refine Weak.trans_ (weak_adopt 6 rfl 2 1 (kb := 5) (j := 1) rfl rfl (by repeat (first | exact Spl.z _ | apply Spl.t | apply Spl.d))) ?_
        exact wk [0, 1, 2, 3, 5, 6]
      · skip
        refine aw_seq ?_
        refine aw_regionA (is := [0, 1]) rfl ?_
        refine rp rfl w0 rfl (pu_eql rfl rfl) ?_
        refine rp rfl w0 rfl (pu_assign (r := .d _) rfl) ?_
        refine ra_nil ?_
        refine then_n ?_
        refine aw_if h1 rfl (fun hc h1 => ?_) (fun hc h1 => ?_)
        · skip
          refine aw_region_draw (is := [0, 1, 2, 3, 4, 5, 6, 7, 8]) [0, 1, 0, 0, 12, 28, 63, 127, 255] follows (by kernel_rfl) ?_
          refine rt_lk rfl w0 rfl (bx_fa tok rfl rfl rfl rfl rfl rfl rfl) rfl rfl rfl ?_
          refine rt_lk rfl w0 rfl (bx_ld1 tok rfl rfl rfl rfl rfl) rfl rfl rfl ?_
          refine rt_p rfl w0 rfl (pu_move (r := .ptr _ _ _ _ _) rfl) ?_
          refine rt_s rfl w0 rfl (bs_val tok cI [200, 201, 2] rfl rfl rfl (by repeat (first | exact Els.nil _ | apply Els.cons (cs := [.d _]) rfl rfl rfl | apply Els.cons (cs := _ :: _) rfl rfl rfl)) rfl rfl rfl (by repeat (first | exact AllDD.nil | (apply AllDD.cons; (repeat (first | exact AllD.nil | apply AllD.cons))))) rfl) ?_
          obtain ⟨v4, hv4, h1⟩ := bnd h1
          refine rt_wkd rfl w0 rfl (c_callP [0] 300 (l00Src_among_b_c hv4) rfl rfl) ?_
          refine rt_s rfl w0 rfl (bs_val tok cI [v4.1] rfl rfl rfl (by repeat (first | exact Els.nil _ | apply Els.cons (cs := [.d _]) rfl rfl rfl | apply Els.cons (cs := _ :: _) rfl rfl rfl)) rfl rfl rfl (by repeat (first | exact AllDD.nil | (apply AllDD.cons; (repeat (first | exact AllD.nil | apply AllD.cons))))) rfl) ?_
          obtain ⟨hq5, h1⟩ := chk_e h1
          refine rt_wkd rfl w0 rfl (ap_own tok hq5 rfl rfl rfl rfl rfl rfl rfl rfl rfl rfl rfl rfl (fun _ => rfl)) ?_
          refine rt_lk rfl w0 rfl (bx_fa tok rfl rfl rfl rfl rfl rfl rfl) rfl rfl rfl ?_
          refine rt_wk rfl w0 (bx_st (cs := [.own _ _ _]) tok rfl rfl rfl rfl rfl rfl rfl) ?_
          refine rt_nil ?_
          refine ⟨by kernel_rfl, ?_⟩
          refine block_n ?_
          refine then_n ?_
          cases h1
          exact wk [0, 1, 2, 3, 5, 4]
        · skip
          refine aw_seq ?_
          refine aw_regionA (is := [0, 1]) rfl ?_
          refine rp rfl w0 rfl (pu_eql rfl rfl) ?_
          refine rp rfl w0 rfl (pu_assign (r := .d _) rfl) ?_
          refine ra_nil ?_
          refine then_n ?_
          refine aw_if h1 rfl (fun hc h1 => ?_) (fun hc h1 => ?_)
          · skip
            refine aw_seq ?_
            refine aw_regionA (is := [0, 1]) rfl ?_
            refine rl rfl w0 rfl (bx_fa tok rfl rfl rfl rfl rfl rfl rfl) ?_
            refine rw0 rfl w0 (bx_st (cs := [.d _]) tok rfl rfl rfl rfl rfl rfl rfl) ?_
            refine ra_nil ?_
            refine then_n ?_
            refine aw_seq ?_
            refine aw_regionA (is := [0]) rfl ?_
            refine rp rfl w0 rfl (pu_assign (r := .d _) rfl) ?_
            refine ra_nil ?_
            refine then_n ?_
            refine aw_block ?_
            refine aw_loopM (fun s9 => ⟨updA (updA (updA (updA ((fun _ => .dead)) 0 (.ptr 0 0 1 0 0)) 2 (.ptr 3 0 1 0 0)) 3 (.ptr 4 0 1 0 0)) 4 (.d (.v (.int .i64 s9.1))), lks [.live [⟨158, 3, .av [[.d (.sl (List.map cU8 s9.2.1.code)), .d (.v (.int .i64 s9.2.1.at_)), .d (.v (.int .u64 s9.2.1.seed))]]⟩], .no, .no, .live [⟨32, 2, .av [[.d (.v (.int .i64 0)), .d (.v (.slice none 0 0))]]⟩], .live [⟨32, 2, .av [[.d (.v (.int .i64 v1.1.Worm)), .own 5 0 (s9.2.2).length]]⟩], .live [⟨2, 1, .data (List.map cI s9.2.2)⟩]]⟩) h1 ?_ (fun s9 y h2 => ?_)
            · skip
              refine Weak.trans_ (weak_adopt 6 rfl 2 1 (kb := 5) (j := 1) rfl rfl (by repeat (first | exact Spl.z _ | apply Spl.t | apply Spl.d))) ?_
              exact wk [0, 1, 2, 3, 5, 6]
            · skip
              refine aw_seq ?_
              refine aw_seq ?_
              refine aw_regionA (is := [0, 1, 2, 3, 4]) rfl ?_
              refine rp rfl w0 rfl (pu_move (r := .d _) rfl) ?_
              refine rp rfl w0 rfl (pu_move (r := .ptr _ _ _ _ _) rfl) ?_
              obtain ⟨v10, hv10, h2⟩ := bnd h2
              refine rw1 rfl w0 rfl (c_callP [0] 300 (l00Src_pick_b_c hv10) rfl rfl) ?_
              refine rp rfl w0 rfl (pw_add rfl rfl) ?_
              refine rp rfl w0 rfl (pu_lss rfl rfl) ?_
              refine ra_nil ?_
              refine then_n ?_
              refine aw_if h2 rfl (fun hc h2 => ?_) (fun hc h2 => ?_)
              · skip
                refine aw_skip ?_
                refine then_n ?_
                refine aw_seq ?_
                refine aw_block ?_
                refine aw_regionA (is := [0, 1, 2, 3, 4, 5, 6, 7, 8]) rfl ?_
                refine rl rfl w0 rfl (bx_fa tok rfl rfl rfl rfl rfl rfl rfl) ?_
                refine rl rfl w0 rfl (bx_ld1 tok rfl rfl rfl rfl rfl) ?_
                refine rp rfl w0 rfl (pu_move (r := .d _) rfl) ?_
                refine rp rfl w0 rfl (pw_mul rfl rfl) ?_
                refine rp rfl w0 rfl (pw_add rfl rfl) ?_
                refine rs rfl w0 rfl (bs_val tok cI [w64 (5 + (w64 (2 * s9.1)))] rfl rfl rfl (by repeat (first | exact Els.nil _ | apply Els.cons (cs := [.d _]) rfl rfl rfl | apply Els.cons (cs := _ :: _) rfl rfl rfl)) rfl rfl rfl (by repeat (first | exact AllDD.nil | (apply AllDD.cons; (repeat (first | exact AllD.nil | apply AllD.cons))))) rfl) ?_
                obtain ⟨hq11, h2⟩ := chk_e h2
                refine rw1 rfl w0 rfl (ap_own tok hq11 rfl rfl rfl rfl rfl rfl rfl rfl rfl rfl rfl rfl (fun _ => rfl)) ?_
                refine rl rfl w0 rfl (bx_fa tok rfl rfl rfl rfl rfl rfl rfl) ?_
                refine rw0 rfl w0 (bx_st (cs := [.own _ _ _]) tok rfl rfl rfl rfl rfl rfl rfl) ?_
                refine ra_nil ?_
                refine block_n ?_
                refine then_n ?_
                refine aw_regionA (is := [0, 1, 2]) rfl ?_
                refine rp rfl w0 rfl (pu_move (r := .d _) rfl) ?_
                refine rp rfl w0 rfl (pw_add rfl rfl) ?_
                refine rp rfl w0 rfl (pu_assign (r := .d _) rfl) ?_
                refine ra_nil ?_
                refine loop_n ?_
                cases h2
                refine ⟨_, rfl, ?_⟩
                exact wk [0, 1, 2, 3, 4, 5]
              · skip
                refine aw_exit ?_
                refine then_e ?_
                cases h2
                refine loop_x ⟨_, rfl, fun e => ?_⟩
                subst e
                refine block_hit ?_
                refine block_n ?_
                refine then_n ?_
                exact wk [0, 1, 2, 3, 4, 5]
          · skip
            refine aw_skip ?_
            refine block_n ?_
            refine then_n ?_
            cases h1
            exact wk [0, 1, 2, 3, 5, 4]
  · skip
    refine aw_seq ?_
    refine aw_regionA (is := [0, 1]) rfl ?_
    refine rl rfl w0 rfl (bx_ldN tok rfl rfl rfl rfl) ?_
    refine rw0 rfl w0 (bx_st (cs := _ :: _) tok rfl rfl rfl rfl rfl rfl rfl) ?_
    refine ra_nil ?_
    refine then_n ?_
    refine aw_ret ?_
    cases h0
    exact retM_ (rs := [.cell 2 32]) 1 [0, 5] rfl

theorem s_l24Count_b_c {p0 : L00Src_} {r : Int × L00Src_} (h0 : s_l24Count_b_m p0 = some r) : FnC Try.prog 65 [.live [⟨158, 3, .av [[.d (.sl (List.map cU8 p0.code)), .d (.v (.int .i64 p0.at_)), .d (.v (.int .u64 p0.seed))]]⟩]] [.ptr 0 0 1 0 0] [.live [⟨158, 3, .av [[.d (.sl (List.map cU8 r.2.code)), .d (.v (.int .i64 r.2.at_)), .d (.v (.int .u64 r.2.seed))]]⟩]] (.d (.v (.int .i64 r.1))) := by
  refine fnc_intro (T := tt) (N := 11) tok Try.func65 rfl rfl (by kernel_rfl) rfl rfl ?_
  unfold s_l24Count_b_m at h0
  refine aw_seq ?_
  refine aw_regionA (is := [0]) rfl ?_
  refine rp rfl w0 rfl (pu_assign (r := .d _) rfl) ?_
  refine ra_nil ?_
  refine then_n ?_
  refine aw_seq ?_
  refine aw_seq ?_
  refine aw_regionA (is := [0, 1]) rfl ?_
  refine rp rfl w0 rfl (pu_move (r := .ptr _ _ _ _ _) rfl) ?_
  obtain ⟨v1, hv1, h0⟩ := bnd h0
  refine rw1 rfl w0 rfl (c_callP [0] 300 (l00Src_one_b_c hv1) rfl rfl) ?_
  refine ra_nil ?_
  refine then_n ?_
  refine aw_ifB h0 rfl (fun hc h0 => ?_) (fun hc h0 => ?_)
  · skip
    refine aw_seq ?_
    refine aw_regionA (is := [0, 1, 2, 3]) rfl ?_
    refine rp rfl w0 rfl (pu_move (r := .ptr _ _ _ _ _) rfl) ?_
    refine rs rfl w0 rfl (bs_val tok cI [0, 1, 2000, 2001] rfl rfl rfl (by repeat (first | exact Els.nil _ | apply Els.cons (cs := [.d _]) rfl rfl rfl | apply Els.cons (cs := _ :: _) rfl rfl rfl)) rfl rfl rfl (by repeat (first | exact AllDD.nil | (apply AllDD.cons; (repeat (first | exact AllD.nil | apply AllD.cons))))) rfl) ?_
    obtain ⟨v2, hv2, h0⟩ := bnd h0
    refine rw1 rfl w0 rfl (c_callP [0] 300 (l00Src_among_b_c hv2) rfl rfl) ?_
    refine rp rfl w0 rfl (pu_assign (r := .d _) rfl) ?_
    refine ra_nil ?_
    refine then_n ?_
    refine aw_ret ?_
    refine then_r ?_
    cases h0
    exact retP_ (rs := [.tmp 2]) 1 rfl rfl
  · skip
    refine aw_skip ?_
    refine then_n ?_
    refine aw_seq ?_
    refine aw_regionA (is := [0, 1, 2, 3]) rfl ?_
    refine rp rfl w0 rfl (pu_move (r := .ptr _ _ _ _ _) rfl) ?_
    obtain ⟨v3, hv3, h0⟩ := bnd h0
    refine rw1 rfl w0 rfl (c_callP [0] 300 (l00Src_pick_b_c hv3) rfl rfl) ?_
    refine rp rfl w0 rfl (pw_add rfl rfl) ?_
    refine rp rfl w0 rfl (pu_assign (r := .d _) rfl) ?_
    refine ra_nil ?_
    refine then_n ?_
    refine aw_ret ?_
    cases h0
    exact retP_ (rs := [.tmp 2]) 1 rfl rfl

theorem s_DrawSpreadHoles_c {p0 : List Int} {r : Divider_ × Int × Int} (h0 : s_DrawSpreadHoles_m p0 = some r) : FnC Try.prog 19 [] [.d (.sl (List.map cU8 p0))] [.live [⟨2, 1, .data (List.map cI r.1.Circles)⟩]] (.tup [.agg [.d (.v (.int .i64 r.1.Worm)), .own 0 0 r.1.Circles.length], .d (.v (.int .i64 r.2.1)), .d (.v (.int .i64 r.2.2))]) := by
  refine fnc_intro (T := tt) (N := 35) tok Try.func19 rfl rfl (by kernel_rfl) rfl rfl ?_
  unfold s_DrawSpreadHoles_m at h0
  refine aw_seq ?_
  refine aw_regionA (is := [0, 1, 2]) rfl ?_
  refine rs rfl w0 rfl (st_alloc 3 (cs := [.d (.v (.int .i64 0)), .d (.v (.slice none 0 0))]) tok rfl rfl rfl) ?_
  refine rp rfl w0 rfl (pu_assign (r := .d _) rfl) ?_
  refine rp rfl w0 rfl (pu_assign (r := .d _) rfl) ?_
  refine ra_nil ?_
  refine then_n ?_
  refine aw_seq ?_
  refine aw_regionA (is := [0, 1, 2]) rfl ?_
  refine rp rfl w0 rfl (pu_move (r := .d _) rfl) ?_
  obtain ⟨v1, hv1, h0⟩ := bnd h0
  refine rs rfl w0 rfl (c_call 4 (s_l00From_c hv1) rfl rfl rfl) ?_
  refine rp rfl w0 rfl (pu_assign (r := .ptr _ _ _ _ _) rfl) ?_
  refine ra_nil ?_
  refine then_n ?_
  refine aw_seq ?_
  refine aw_regionA (is := [0, 1, 2, 3]) rfl ?_
  refine rp rfl w0 rfl (pu_move (r := .ptr _ _ _ _ _) rfl) ?_
  obtain ⟨v2, hv2, h0⟩ := bnd h0
  refine rw1 rfl w0 rfl (c_callP [4, 5] 300 (fnc_pad 1 (s_l24Bent_b_c hv2)) rfl rfl) ?_
  refine rs rfl w0 rfl (st_alloc 6 (cs := [.d (.v (.int .i64 0)), .d (.v (.slice none 0 0))]) tok rfl rfl rfl) ?_
  refine rw0 rfl w0 (bx_st (cs := _ :: _) tok rfl rfl rfl rfl rfl rfl rfl) ?_
  refine ra_nil ?_
  refine then_n ?_
  refine aw_seq ?_
  refine aw_regionA (is := [0, 1, 2]) rfl ?_
  refine rp rfl w0 rfl (pu_move (r := .ptr _ _ _ _ _) rfl) ?_
  obtain ⟨v3, hv3, h0⟩ := bnd h0
  refine rw1 rfl w0 rfl (c_callP [4] 300 (s_l24Count_b_c hv3) rfl rfl) ?_
  refine rp rfl w0 rfl (pu_assign (r := .d _) rfl) ?_
  refine ra_nil ?_
  refine then_n ?_
  refine aw_seq ?_
  refine aw_regionA (is := [0]) rfl ?_
  refine rp rfl w0 rfl (pu_assign (r := .d _) rfl) ?_
  refine ra_nil ?_
  refine then_n ?_
  obtain ⟨v8, h1, h0⟩ := bnd h0
  refine aw_cut ⟨updA (updA (updA (updA ((fun _ => .dead)) 2 (.ptr 3 0 1 0 0)) 6 (.ptr 4 0 1 0 0)) 7 (.d (.v (.int .i64 v3.1)))) 8 (.d (.v (.int .i64 v8))), lks [.no, .no, .no, .live [⟨32, 2, .av [[.d (.v (.int .i64 0)), .d (.v (.slice none 0 0))]]⟩], .live [⟨32, 2, .av [[.d (.v (.int .i64 v2.1.Worm)), .own 5 0 (v2.1.Circles).length]]⟩], .live [⟨2, 1, .data (List.map cI v2.1.Circles)⟩]]⟩ ?_ ?_
  · skip
    refine aw_seq ?_
    refine aw_regionA (is := [0, 1, 2, 3]) rfl ?_
    refine rl rfl w0 rfl (bx_fa tok rfl rfl rfl rfl rfl rfl rfl) ?_
    refine rl rfl w0 rfl (bx_ld1 tok rfl rfl rfl rfl rfl) ?_
    refine rl rfl w0 rfl (ow_len tok rfl rfl rfl rfl rfl) ?_
    refine rp rfl w0 rfl (pu_gtr rfl rfl) ?_
    refine ra_nil ?_
    refine then_n ?_
    refine aw_if h1 rfl (fun hc h1 => ?_) (fun hc h1 => ?_)
    · skip
      refine aw_region_draw (is := [0, 1, 2, 3, 4, 5, 9, 6, 7, 8, 10, 11, 12, 13]) [0, 1, 0, 0, 8, 24, 60, 127, 255, 0, 636, 1660, 4095, 8191] follows (by kernel_rfl) ?_
      refine rt_lk rfl w0 rfl (bx_fa tok rfl rfl rfl rfl rfl rfl rfl) rfl rfl rfl ?_
      refine rt_lk rfl w0 rfl (bx_ld1 tok rfl rfl rfl rfl rfl) rfl rfl rfl ?_
      refine rt_p rfl w0 rfl (pu_move (r := .ptr _ _ _ _ _) rfl) ?_
      refine rt_lk rfl w0 rfl (bx_fa tok rfl rfl rfl rfl rfl rfl rfl) rfl rfl rfl ?_
      refine rt_lk rfl w0 rfl (bx_ld1 tok rfl rfl rfl rfl rfl) rfl rfl rfl ?_
      refine rt_lk rfl w0 rfl (ow_len tok rfl rfl rfl rfl rfl) rfl rfl rfl ?_
      refine rt_p rfl w0 rfl (pu_move (r := .ptr _ _ _ _ _) rfl) ?_
      obtain ⟨v4, hv4, h1⟩ := bnd h1
      refine rt_wkd rfl w0 rfl (c_callP [4] 300 (l00Src_pick_b_c hv4) rfl rfl) ?_
      obtain ⟨v5, hv5, h1⟩ := bnd h1
      refine rt_lk rfl w0 rfl (ow_ix tok hv5 rfl rfl rfl rfl rfl rfl rfl rfl) rfl rfl rfl ?_
      refine rt_lk rfl w0 rfl (rw_ld1 tok (atI_e hv5).2.1 rfl rfl rfl rfl rfl rfl) rfl rfl rfl ?_
      obtain ⟨v6, hv6, h1⟩ := bnd h1
      refine rt_wkd rfl w0 rfl (c_callP [4] 300 (l00Src_pick_b_c hv6) rfl rfl) ?_
      refine rt_p rfl w0 rfl (pw_quo rfl rfl (by decide)) ?_
      refine rt_p rfl w0 rfl (pw_add rfl rfl) ?_
      refine rt_p rfl w0 rfl (pu_assign (r := .d _) rfl) ?_
      refine rt_nil ?_
      refine ⟨by kernel_rfl, ?_⟩
      refine then_n ?_
      cases h1
      exact wk [0, 1, 2, 3, 6, 5]
    · skip
      refine aw_skip ?_
      refine then_n ?_
      cases h1
      exact wk [0, 1, 2, 3, 6, 5]
  · skip
    refine aw_seq ?_
    refine aw_regionA (is := [0, 1, 2, 3, 4, 5]) rfl ?_
    refine rl rfl w0 rfl (bx_ldN tok rfl rfl rfl rfl) ?_
    refine rp rfl w0 rfl (pu_move (r := .d _) rfl) ?_
    refine rp rfl w0 rfl (pu_move (r := .d _) rfl) ?_
    refine rw0 rfl w0 (bx_st (cs := _ :: _) tok rfl rfl rfl rfl rfl rfl rfl) ?_
    refine rp rfl w0 rfl (pu_assign (r := .d _) rfl) ?_
    refine rp rfl w0 rfl (pu_assign (r := .d _) rfl) ?_
    refine ra_nil ?_
    refine then_n ?_
    refine aw_ret ?_
    cases h0
    exact retK_ (rs := [.cell 2 32, .tmp 3, .tmp 4]) [5] rfl

theorem i_within_c {p0 : Int} {p1 : Int} {p2 : Int} {r : Bool} (h0 : i_within_m p0 p1 p2 = some r) : FnC Try.prog 98 [] [.d (.v (.int .i64 p0)), .d (.v (.int .i64 p1)), .d (.v (.int .i64 p2))] [] (.d (.v (.bool r))) := by
  refine fnc_intro (T := tt) (N := 15) tok Try.func98 rfl rfl (by kernel_rfl) rfl rfl ?_
  unfold i_within_m at h0
  refine aw_seq ?_
  refine aw_regionA (is := [0]) rfl ?_
  refine rp rfl w0 rfl (pu_assign (r := .d _) rfl) ?_
  refine ra_nil ?_
  refine then_n ?_
  refine aw_seq ?_
  refine aw_regionA (is := [0, 1, 2, 3, 4, 5, 6, 7, 8]) rfl ?_
  refine rp rfl w0 rfl (pu_move (r := .d _) rfl) ?_
  refine rp rfl w0 rfl (pu_move (r := .d _) rfl) ?_
  refine rp rfl w0 rfl (pu_geq rfl rfl) ?_
  refine rp rfl w0 rfl (pu_move (r := .d _) rfl) ?_
  refine ra_if (u := 10) h0 rfl (fun hc h0 => ?_) (fun hc h0 => ?_)
  · skip
    refine rp rfl (w1 rfl rfl rfl) rfl (pu_move (r := .d _) rfl) ?_
    refine rp rfl (w1 rfl rfl rfl) rfl (pu_move (r := .d _) rfl) ?_
    refine rp rfl (w1 rfl rfl rfl) rfl (pu_leq rfl rfl) ?_
    refine rp rfl w0 rfl (pu_pick_t (r := .d _) rfl rfl) ?_
    refine rp rfl w0 rfl (pu_assign (r := .d _) rfl) ?_
    refine ra_nil ?_
    refine then_n ?_
    refine aw_ret ?_
    cases h0
    exact ret0_ (rs := [.tmp 6]) rfl
  · skip
    refine rk rfl rfl rfl (by first | exact .inl rfl | exact .inr rfl) rfl ?_
    refine rk rfl rfl rfl (by first | exact .inl rfl | exact .inr rfl) rfl ?_
    refine rk rfl rfl rfl (by first | exact .inl rfl | exact .inr rfl) rfl ?_
    refine rp rfl w0 rfl (pu_pick_f (r := .d _) rfl rfl) ?_
    refine rp rfl w0 rfl (pu_assign (r := .d _) rfl) ?_
    refine ra_nil ?_
    refine then_n ?_
    refine aw_ret ?_
    cases h0
    exact ret0_ (rs := [.tmp 6]) rfl

theorem i_ValidDivider_c {p0 : Divider_} {r : Bool} (h0 : i_ValidDivider_m p0 = some r) : FnC Try.prog 67 [] [.agg [.d (.v (.int .i64 p0.Worm)), .d (.sl (List.map cI p0.Circles))]] [] (.d (.v (.bool r))) := by
  refine fnc_intro (T := tt) (N := 46) tok Try.func67 rfl rfl (by kernel_rfl) rfl rfl ?_
  unfold i_ValidDivider_m at h0
  refine aw_seq ?_
  refine aw_regionA (is := [0, 1]) rfl ?_
  refine rs rfl w0 rfl (st_box 3 (cs := _ :: _) rfl rfl rfl) ?_
  refine rp rfl w0 rfl (pu_assign (r := .d _) rfl) ?_
  refine ra_nil ?_
  refine then_n ?_
  obtain ⟨v11x, h1, h0⟩ := bnd h0
  refine aw_cutE v11x (fun v11 => ⟨updA ((fun _ => .dead)) 1 (.ptr 3 0 1 0 0), lks [.no, .no, .no, .live [⟨32, 2, .av [[.d (.v (.int .i64 p0.Worm)), .d (.sl (List.map cI p0.Circles))]]⟩]]⟩) ?_ ?_
  · skip
    refine aw_seq ?_
    refine aw_regionA (is := [0, 1, 2, 3]) rfl ?_
    refine rl rfl w0 rfl (bx_fa tok rfl rfl rfl rfl rfl rfl rfl) ?_
    refine rl rfl w0 rfl (bx_ld1 tok rfl rfl rfl rfl rfl) ?_
    refine rp rfl w0 rfl (pu_len_map tok rfl rfl rfl) ?_
    refine rp rfl w0 rfl (pu_move (r := .d _) rfl) ?_
    refine ra_nil ?_
    refine then_n ?_
    refine aw_block ?_
    refine aw_loopM (fun s6 => ⟨updA (updA (updA (updA ((fun _ => .dead)) 1 (.ptr 3 0 1 0 0)) 6 (.d (.sl (List.map cI p0.Circles)))) 7 (.d (.v (.int .i64 (p0.Circles.length : Int))))) 8 (.d (.v (.int .i64 s6))), lks [.no, .no, .no, .live [⟨32, 2, .av [[.d (.v (.int .i64 p0.Worm)), .d (.sl (List.map cI p0.Circles))]]⟩]]⟩) h1 ?_ (fun s6 y h2 => ?_)
    · skip
      exact wk [0, 1, 2, 3]
    · skip
      refine aw_seq ?_
      refine aw_regionA (is := [0]) rfl ?_
      refine rp rfl w0 rfl (pu_lss rfl rfl) ?_
      refine ra_nil ?_
      refine then_n ?_
      refine aw_seq ?_
      refine aw_if h2 rfl (fun hc h2 => ?_) (fun hc h2 => ?_)
      · skip
        refine aw_skip ?_
        refine then_n ?_
        refine aw_seq ?_
        refine aw_block ?_
        refine aw_seq ?_
        refine aw_regionA (is := [0, 1, 2, 3, 4]) rfl ?_
        refine rp rfl w0 rfl (pu_move (r := .d _) rfl) ?_
        obtain ⟨v7, hv7, h2⟩ := bnd h2
        refine rp rfl w0 rfl (sl_ix tok hv7 rfl rfl rfl rfl rfl rfl) ?_
        refine rp rfl w0 rfl (pu_load_ref1 tok rfl rfl rfl rfl) ?_
        refine rp rfl w0 rfl (pu_assign (r := .d _) rfl) ?_
        refine rp rfl w0 rfl (pu_assign (r := .d _) rfl) ?_
        refine ra_nil ?_
        refine then_n ?_
        obtain ⟨v10, h3, h2⟩ := bnd h2
        refine aw_cut ⟨updA (updA (updA (updA (updA ((fun _ => .dead)) 1 (.ptr 3 0 1 0 0)) 6 (.d (.sl (List.map cI p0.Circles)))) 7 (.d (.v (.int .i64 (p0.Circles.length : Int))))) 8 (.d (.v (.int .i64 s6)))) 29 (.d (.v (.bool v10))), lks [.no, .no, .no, .live [⟨32, 2, .av [[.d (.v (.int .i64 p0.Worm)), .d (.sl (List.map cI p0.Circles))]]⟩]]⟩ ?_ ?_
        · skip
          refine aw_regionA (is := [0, 1, 2, 3, 4, 5, 6, 7, 8, 9, 10, 11, 12, 13, 14, 15, 16]) rfl ?_
          refine rp rfl w0 rfl (pu_move (r := .d _) rfl) ?_
          obtain ⟨v8, hv8, h3⟩ := bnd h3
          refine rs rfl w0 rfl (c_call 4 (i_within_c hv8) rfl rfl rfl) ?_
          refine rp rfl w0 rfl (pu_not rfl) ?_
          refine rp rfl w0 rfl (pu_move (r := .d _) rfl) ?_
          refine ra_ifB (u := 16) h3 rfl (fun hc h3 => ?_) (fun hc h3 => ?_)
          · skip
            refine rk rfl rfl rfl (by first | exact .inl rfl | exact .inr rfl) rfl ?_
            refine rk rfl rfl rfl (by first | exact .inl rfl | exact .inr rfl) rfl ?_
            refine rk rfl rfl rfl (by first | exact .inl rfl | exact .inr rfl) rfl ?_
            refine rk rfl rfl rfl (by first | exact .inl rfl | exact .inr rfl) rfl ?_
            refine rk rfl rfl rfl (by first | exact .inl rfl | exact .inr rfl) rfl ?_
            refine rk rfl rfl rfl (by first | exact .inl rfl | exact .inr rfl) rfl ?_
            refine rk rfl rfl rfl (by first | exact .inl rfl | exact .inr rfl) rfl ?_
            refine rk rfl rfl rfl (by first | exact .inl rfl | exact .inr rfl) rfl ?_
            refine rk rfl rfl rfl (by first | exact .inl rfl | exact .inr rfl) rfl ?_
            refine rk rfl rfl rfl (by first | exact .inl rfl | exact .inr rfl) rfl ?_
            refine rk rfl rfl rfl (by first | exact .inl rfl | exact .inr rfl) rfl ?_
            refine rk rfl rfl rfl (by first | exact .inl rfl | exact .inr rfl) rfl ?_
            refine rp rfl w0 rfl (pu_pick_t (r := .d _) rfl rfl) ?_
            refine ra_nil ?_
            refine then_n ?_
            cases h3
            exact wk [0, 1, 2, 3]
          · skip
            refine rp rfl (w1 rfl rfl rfl) rfl (pu_move (r := .d _) rfl) ?_
            refine rp rfl (w1 rfl rfl rfl) rfl (pu_gtr rfl rfl) ?_
            refine rp rfl (w1 rfl rfl rfl) rfl (pu_move (r := .d _) rfl) ?_
            refine ra_if (u := 19) h3 rfl (fun hc h3 => ?_) (fun hc h3 => ?_)
            · skip
              refine rp rfl (w1 rfl rfl rfl) rfl (pu_move (r := .d _) rfl) ?_
              refine rl rfl (w1 rfl rfl rfl) rfl (bx_fa tok rfl rfl rfl rfl rfl rfl rfl) ?_
              refine rl rfl (w1 rfl rfl rfl) rfl (bx_ld1 tok rfl rfl rfl rfl rfl) ?_
              refine rp rfl (w1 rfl rfl rfl) rfl (pu_move (r := .d _) rfl) ?_
              refine rp rfl (w1 rfl rfl rfl) rfl (pw_sub rfl rfl) ?_
              obtain ⟨v9, hv9, h3⟩ := bnd h3
              refine rp rfl (w1 rfl rfl rfl) rfl (sl_ix tok hv9 rfl rfl rfl rfl rfl rfl) ?_
              refine rp rfl (w1 rfl rfl rfl) rfl (pu_load_ref1 tok rfl rfl rfl rfl) ?_
              refine rp rfl (w1 rfl rfl rfl) rfl (pu_leq rfl rfl) ?_
              refine rp rfl (w1 rfl rfl rfl) rfl (pu_pick_t (r := .d _) rfl rfl) ?_
              refine rp rfl w0 rfl (pu_pick_f (r := .d _) rfl rfl) ?_
              refine ra_nil ?_
              refine then_n ?_
              cases h3
              exact wk [0, 1, 2, 3]
            · skip
              refine rk rfl rfl rfl (by first | exact .inl rfl | exact .inr rfl) rfl ?_
              refine rk rfl rfl rfl (by first | exact .inl rfl | exact .inr rfl) rfl ?_
              refine rk rfl rfl rfl (by first | exact .inl rfl | exact .inr rfl) rfl ?_
              refine rk rfl rfl rfl (by first | exact .inl rfl | exact .inr rfl) rfl ?_
              refine rk rfl rfl rfl (by first | exact .inl rfl | exact .inr rfl) rfl ?_
              refine rk rfl rfl rfl (by first | exact .inl rfl | exact .inr rfl) rfl ?_
              refine rk rfl rfl rfl (by first | exact .inl rfl | exact .inr rfl) rfl ?_
              refine rk rfl rfl rfl (by first | exact .inl rfl | exact .inr rfl) rfl ?_
              refine rp rfl (w1 rfl rfl rfl) rfl (pu_pick_f (r := .d _) rfl rfl) ?_
              refine rp rfl w0 rfl (pu_pick_f (r := .d _) rfl rfl) ?_
              refine ra_nil ?_
              refine then_n ?_
              cases h3
              exact wk [0, 1, 2, 3]
        · skip
          refine aw_ifB h2 rfl (fun hc h2 => ?_) (fun hc h2 => ?_)
          · skip
            refine aw_seq ?_
            refine aw_regionA (is := [0]) rfl ?_
            refine rp rfl w0 rfl (pu_assign (r := .d _) rfl) ?_
            refine ra_nil ?_
            refine then_n ?_
            refine aw_ret ?_
            refine block_r ?_
            refine then_r ?_
            cases h2
            refine loop_r ⟨_, rfl, fun e => ?_⟩
            subst e
            refine block_r ?_
            replace h0 := orE_s h0
            refine then_r ?_
            cases h0
            exact ret0_ (rs := [.tmp 2]) rfl
          · skip
            refine aw_skip ?_
            refine block_n ?_
            refine then_n ?_
            refine aw_regionA (is := [0, 1]) rfl ?_
            refine rp rfl w0 rfl (pw_add rfl rfl) ?_
            refine rp rfl w0 rfl (pu_move (r := .d _) rfl) ?_
            refine ra_nil ?_
            refine loop_n ?_
            cases h2
            refine ⟨_, rfl, ?_⟩
            exact wk [0, 1, 2, 3]
      · skip
        refine aw_exit ?_
        refine then_e ?_
        cases h2
        refine loop_x ⟨_, rfl, fun e => ?_⟩
        subst e
        refine block_hit ?_
        refine then_n ?_
        refine ⟨_, rfl, ?_⟩
        exact wk [0, 1, 2, 3]
  · skip
    rintro v11 rfl
    replace h0 := orE_f h0
    refine aw_seq ?_
    refine aw_regionA (is := [0, 1, 2, 3, 4, 5, 6, 7, 8, 9, 10, 11, 12, 13, 14, 15]) rfl ?_
    refine rl rfl w0 rfl (bx_fa tok rfl rfl rfl rfl rfl rfl rfl) ?_
    refine rl rfl w0 rfl (bx_ld1 tok rfl rfl rfl rfl rfl) ?_
    obtain ⟨v12, hv12, h0⟩ := bnd h0
    refine rs rfl w0 rfl (c_call 4 (i_within_c hv12) rfl rfl rfl) ?_
    refine rp rfl w0 rfl (pu_move (r := .d _) rfl) ?_
    refine ra_ifB (u := 34) h0 rfl (fun hc h0 => ?_) (fun hc h0 => ?_)
    · skip
      refine rl rfl (w1 rfl rfl rfl) rfl (bx_fa tok rfl rfl rfl rfl rfl rfl rfl) ?_
      refine rl rfl (w1 rfl rfl rfl) rfl (bx_ld1 tok rfl rfl rfl rfl rfl) ?_
      refine rp rfl (w1 rfl rfl rfl) rfl (pu_len_map tok rfl rfl rfl) ?_
      refine rp rfl (w1 rfl rfl rfl) rfl (pu_geq rfl rfl) ?_
      refine rp rfl w0 rfl (pu_pick_t (r := .d _) rfl rfl) ?_
      refine rp rfl w0 rfl (pu_move (r := .d _) rfl) ?_
      refine ra_if (u := 40) h0 rfl (fun hc h0 => ?_) (fun hc h0 => ?_)
      · skip
        refine rl rfl (w1 rfl rfl rfl) rfl (bx_fa tok rfl rfl rfl rfl rfl rfl rfl) ?_
        refine rl rfl (w1 rfl rfl rfl) rfl (bx_ld1 tok rfl rfl rfl rfl rfl) ?_
        refine rp rfl (w1 rfl rfl rfl) rfl (pu_len_map tok rfl rfl rfl) ?_
        refine rp rfl (w1 rfl rfl rfl) rfl (pu_leq rfl rfl) ?_
        refine rp rfl w0 rfl (pu_pick_t (r := .d _) rfl rfl) ?_
        refine rp rfl w0 rfl (pu_assign (r := .d _) rfl) ?_
        refine ra_nil ?_
        refine then_n ?_
        refine aw_ret ?_
        cases h0
        exact ret0_ (rs := [.tmp 2]) rfl
      · skip
        refine rk rfl rfl rfl (by first | exact .inl rfl | exact .inr rfl) rfl ?_
        refine rk rfl rfl rfl (by first | exact .inl rfl | exact .inr rfl) rfl ?_
        refine rk rfl rfl rfl (by first | exact .inl rfl | exact .inr rfl) rfl ?_
        refine rk rfl rfl rfl (by first | exact .inl rfl | exact .inr rfl) rfl ?_
        refine rp rfl w0 rfl (pu_pick_f (r := .d _) rfl rfl) ?_
        refine rp rfl w0 rfl (pu_assign (r := .d _) rfl) ?_
        refine ra_nil ?_
        refine then_n ?_
        refine aw_ret ?_
        cases h0
        exact ret0_ (rs := [.tmp 2]) rfl
    · skip
      refine rk rfl rfl rfl (by first | exact .inl rfl | exact .inr rfl) rfl ?_
      refine rk rfl rfl rfl (by first | exact .inl rfl | exact .inr rfl) rfl ?_
      refine rk rfl rfl rfl (by first | exact .inl rfl | exact .inr rfl) rfl ?_
      refine rk rfl rfl rfl (by first | exact .inl rfl | exact .inr rfl) rfl ?_
      refine rp rfl w0 rfl (pu_pick_f (r := .d _) rfl rfl) ?_
      refine rp rfl w0 rfl (pu_move (r := .d _) rfl) ?_
      refine rk rfl rfl rfl (by first | exact .inl rfl | exact .inr rfl) rfl ?_
      refine rk rfl rfl rfl (by first | exact .inl rfl | exact .inr rfl) rfl ?_
      refine rk rfl rfl rfl (by first | exact .inl rfl | exact .inr rfl) rfl ?_
      refine rk rfl rfl rfl (by first | exact .inl rfl | exact .inr rfl) rfl ?_
      refine rp rfl w0 rfl (pu_pick_f (r := .d _) rfl rfl) ?_
      refine rp rfl w0 rfl (pu_assign (r := .d _) rfl) ?_
      refine ra_nil ?_
      refine then_n ?_
      refine aw_ret ?_
      cases h0
      exact ret0_ (rs := [.tmp 2]) rfl

theorem i_isDivision_c {p0 : Int} {r : Bool} (h0 : i_isDivision_m p0 = some r) : FnC Try.prog 59 [] [.d (.v (.int .i64 p0))] [] (.d (.v (.bool r))) := by
  refine fnc_intro (T := tt) (N := 5) tok Try.func59 rfl rfl (by kernel_rfl) rfl rfl ?_
  unfold i_isDivision_m at h0
  refine aw_seq ?_
  refine aw_regionA (is := [0]) rfl ?_
  refine rp rfl w0 rfl (pu_assign (r := .d _) rfl) ?_
  refine ra_nil ?_
  refine then_n ?_
  refine aw_seq ?_
  refine aw_regionA (is := [0, 1, 2]) rfl ?_
  refine rp rfl w0 rfl (pu_move (r := .d _) rfl) ?_
  obtain ⟨v1, hv1, h0⟩ := bnd h0
  refine rs rfl w0 rfl (c_call 3 (i_within_c hv1) rfl rfl rfl) ?_
  refine rp rfl w0 rfl (pu_assign (r := .d _) rfl) ?_
  refine ra_nil ?_
  refine then_n ?_
  refine aw_ret ?_
  cases h0
  exact ret0_ (rs := [.tmp 2]) rfl

theorem slices_Index_Lint64_int64_c {p0 : List Int} {p1 : Int} {r : Int} (h0 : slices_Index_Lint64_int64_m p0 p1 = some r) : FnC Try.prog 112 [] [.d (.sl (List.map cI p0)), .d (.v (.int .i64 p1))] [] (.d (.v (.int .i64 r))) := by
  refine fnc_intro (T := tt) (N := 19) tok Try.func112 rfl rfl (by kernel_rfl) rfl rfl ?_
  unfold slices_Index_Lint64_int64_m at h0
  refine aw_seq ?_
  refine aw_regionA (is := [0]) rfl ?_
  refine rp rfl w0 rfl (pu_assign (r := .d _) rfl) ?_
  refine ra_nil ?_
  refine then_n ?_
  obtain ⟨v5x, h1, h0⟩ := bnd h0
  refine aw_cutE v5x (fun v5 => ⟨(fun _ => .dead), lks [.no, .no, .no]⟩) ?_ ?_
  · skip
    refine aw_seq ?_
    refine aw_regionA (is := [0, 1, 2]) rfl ?_
    refine rp rfl w0 rfl (pu_move (r := .d _) rfl) ?_
    refine rp rfl w0 rfl (pu_len_map tok rfl rfl rfl) ?_
    refine rp rfl w0 rfl (pu_move (r := .d _) rfl) ?_
    refine ra_nil ?_
    refine then_n ?_
    refine aw_block ?_
    refine aw_loopM (fun s3 => ⟨updA (updA (updA (updA ((fun _ => .dead)) 0 (.d (.sl (List.map cI p0)))) 1 (.d (.v (.int .i64 p1)))) 7 (.d (.v (.int .i64 (p0.length : Int))))) 8 (.d (.v (.int .i64 s3))), lks [.no, .no, .no]⟩) h1 ?_ (fun s3 y h2 => ?_)
    · skip
      exact wk [0, 1, 2]
    · skip
      refine aw_seq ?_
      refine aw_regionA (is := [0]) rfl ?_
      refine rp rfl w0 rfl (pu_lss rfl rfl) ?_
      refine ra_nil ?_
      refine then_n ?_
      refine aw_seq ?_
      refine aw_if h2 rfl (fun hc h2 => ?_) (fun hc h2 => ?_)
      · skip
        refine aw_skip ?_
        refine then_n ?_
        refine aw_seq ?_
        refine aw_block ?_
        refine aw_seq ?_
        refine aw_regionA (is := [0, 1]) rfl ?_
        refine rp rfl w0 rfl (pu_move (r := .d _) rfl) ?_
        refine rp rfl w0 rfl (pu_assign (r := .d _) rfl) ?_
        refine ra_nil ?_
        refine then_n ?_
        refine aw_seq ?_
        refine aw_regionA (is := [0, 1, 2, 3, 4, 5]) rfl ?_
        refine rp rfl w0 rfl (pu_move (r := .d _) rfl) ?_
        refine rp rfl w0 rfl (pu_move (r := .d _) rfl) ?_
        refine rp rfl w0 rfl (pu_move (r := .d _) rfl) ?_
        obtain ⟨v4, hv4, h2⟩ := bnd h2
        refine rp rfl w0 rfl (sl_ix tok hv4 rfl rfl rfl rfl rfl rfl) ?_
        refine rp rfl w0 rfl (pu_load_ref1 tok rfl rfl rfl rfl) ?_
        refine rp rfl w0 rfl (pu_eql rfl rfl) ?_
        refine ra_nil ?_
        refine then_n ?_
        refine aw_if h2 rfl (fun hc h2 => ?_) (fun hc h2 => ?_)
        · skip
          refine aw_seq ?_
          refine aw_regionA (is := [0, 1]) rfl ?_
          refine rp rfl w0 rfl (pu_move (r := .d _) rfl) ?_
          refine rp rfl w0 rfl (pu_assign (r := .d _) rfl) ?_
          refine ra_nil ?_
          refine then_n ?_
          refine aw_ret ?_
          refine block_r ?_
          refine then_r ?_
          cases h2
          refine loop_r ⟨_, rfl, fun e => ?_⟩
          subst e
          refine block_r ?_
          replace h0 := orE_s h0
          refine then_r ?_
          cases h0
          exact ret0_ (rs := [.tmp 4]) rfl
        · skip
          refine aw_skip ?_
          refine block_n ?_
          refine then_n ?_
          refine aw_regionA (is := [0, 1]) rfl ?_
          refine rp rfl w0 rfl (pw_add rfl rfl) ?_
          refine rp rfl w0 rfl (pu_move (r := .d _) rfl) ?_
          refine ra_nil ?_
          refine loop_n ?_
          cases h2
          refine ⟨_, rfl, ?_⟩
          exact wk [0, 1, 2]
      · skip
        refine aw_exit ?_
        refine then_e ?_
        cases h2
        refine loop_x ⟨_, rfl, fun e => ?_⟩
        subst e
        refine block_hit ?_
        refine then_n ?_
        refine ⟨_, rfl, ?_⟩
        exact wk [0, 1, 2]
  · skip
    rintro v5 rfl
    replace h0 := orE_f h0
    refine aw_seq ?_
    refine aw_regionA (is := [0]) rfl ?_
    refine rp rfl w0 rfl (pu_assign (r := .d _) rfl) ?_
    refine ra_nil ?_
    refine then_n ?_
    refine aw_ret ?_
    cases h0
    exact ret0_ (rs := [.tmp 4]) rfl

theorem slices_Contains_Lint64_int64_c {p0 : List Int} {p1 : Int} {r : Bool} (h0 : slices_Contains_Lint64_int64_m p0 p1 = some r) : FnC Try.prog 68 [] [.d (.sl (List.map cI p0)), .d (.v (.int .i64 p1))] [] (.d (.v (.bool r))) := by
  refine fnc_intro (T := tt) (N := 9) tok Try.func68 rfl rfl (by kernel_rfl) rfl rfl ?_
  unfold slices_Contains_Lint64_int64_m at h0
  refine aw_seq ?_
  refine aw_regionA (is := [0]) rfl ?_
  refine rp rfl w0 rfl (pu_assign (r := .d _) rfl) ?_
  refine ra_nil ?_
  refine then_n ?_
  refine aw_seq ?_
  refine aw_regionA (is := [0, 1, 2, 3, 4]) rfl ?_
  refine rp rfl w0 rfl (pu_move (r := .d _) rfl) ?_
  refine rp rfl w0 rfl (pu_move (r := .d _) rfl) ?_
  obtain ⟨v1, hv1, h0⟩ := bnd h0
  refine rs rfl w0 rfl (c_call 3 (slices_Index_Lint64_int64_c hv1) rfl rfl rfl) ?_
  refine rp rfl w0 rfl (pu_geq rfl rfl) ?_
  refine rp rfl w0 rfl (pu_assign (r := .d _) rfl) ?_
  refine ra_nil ?_
  refine then_n ?_
  refine aw_ret ?_
  cases h0
  exact ret0_ (rs := [.tmp 4]) rfl

theorem i_floorDiv_c {p0 : Int} {p1 : Int} {r : Int} (h0 : i_floorDiv_m p0 p1 = some r) : FnC Try.prog 113 [] [.d (.v (.int .i64 p0)), .d (.v (.int .i64 p1))] [] (.d (.v (.int .i64 r))) := by
  refine fnc_intro (T := tt) (N := 16) tok Try.func113 rfl rfl (by kernel_rfl) rfl rfl ?_
  unfold i_floorDiv_m at h0
  refine aw_seq ?_
  refine aw_regionA (is := [0]) rfl ?_
  refine rp rfl w0 rfl (pu_assign (r := .d _) rfl) ?_
  refine ra_nil ?_
  refine then_n ?_
  refine aw_seq ?_
  refine aw_regionA (is := [0, 1, 2, 3]) rfl ?_
  refine rp rfl w0 rfl (pu_move (r := .d _) rfl) ?_
  refine rp rfl w0 rfl (pu_move (r := .d _) rfl) ?_
  obtain ⟨hq1, h0⟩ := chk_e h0
  refine rp rfl w0 rfl (pw_quo rfl rfl hq1) ?_
  refine rp rfl w0 rfl (pu_assign (r := .d _) rfl) ?_
  refine ra_nil ?_
  refine then_n ?_
  obtain ⟨v3, h1, h0⟩ := bnd h0
  refine aw_cut ⟨updA ((fun _ => .dead)) 5 (.d (.v (.int .i64 v3))), lks [.no, .no, .no]⟩ ?_ ?_
  · skip
    refine aw_seq ?_
    refine aw_regionA (is := [0, 1, 2, 3]) rfl ?_
    refine rp rfl w0 rfl (pu_move (r := .d _) rfl) ?_
    refine rp rfl w0 rfl (pu_move (r := .d _) rfl) ?_
    obtain ⟨hq2, h1⟩ := chk_e h1
    refine rp rfl w0 rfl (pu_remw rfl rfl hq2) ?_
    refine rp rfl w0 rfl (pu_lss rfl rfl) ?_
    refine ra_nil ?_
    refine then_n ?_
    refine aw_if h1 rfl (fun hc h1 => ?_) (fun hc h1 => ?_)
    · skip
      refine aw_regionA (is := [0, 1, 2]) rfl ?_
      refine rp rfl w0 rfl (pu_move (r := .d _) rfl) ?_
      refine rp rfl w0 rfl (pw_sub rfl rfl) ?_
      refine rp rfl w0 rfl (pu_assign (r := .d _) rfl) ?_
      refine ra_nil ?_
      refine then_n ?_
      cases h1
      exact wk [0, 1, 2]
    · skip
      refine aw_skip ?_
      refine then_n ?_
      cases h1
      exact wk [0, 1, 2]
  · skip
    refine aw_seq ?_
    refine aw_regionA (is := [0, 1]) rfl ?_
    refine rp rfl w0 rfl (pu_move (r := .d _) rfl) ?_
    refine rp rfl w0 rfl (pu_assign (r := .d _) rfl) ?_
    refine ra_nil ?_
    refine then_n ?_
    refine aw_ret ?_
    cases h0
    exact ret0_ (rs := [.tmp 4]) rfl

theorem i_nearestDiv_c {p0 : Int} {p1 : Int} {r : Int} (h0 : i_nearestDiv_m p0 p1 = some r) : FnC Try.prog 69 [] [.d (.v (.int .i64 p0)), .d (.v (.int .i64 p1))] [] (.d (.v (.int .i64 r))) := by
  refine fnc_intro (T := tt) (N := 23) tok Try.func69 rfl rfl (by kernel_rfl) rfl rfl ?_
  unfold i_nearestDiv_m at h0
  refine aw_seq ?_
  refine aw_regionA (is := [0]) rfl ?_
  refine rp rfl w0 rfl (pu_assign (r := .d _) rfl) ?_
  refine ra_nil ?_
  refine then_n ?_
  refine aw_seq ?_
  refine aw_regionA (is := [0, 1, 2, 3]) rfl ?_
  refine rp rfl w0 rfl (pu_move (r := .d _) rfl) ?_
  refine rp rfl w0 rfl (pu_move (r := .d _) rfl) ?_
  obtain ⟨v1, hv1, h0⟩ := bnd h0
  refine rs rfl w0 rfl (c_call 3 (i_floorDiv_c hv1) rfl rfl rfl) ?_
  refine rp rfl w0 rfl (pu_assign (r := .d _) rfl) ?_
  refine ra_nil ?_
  refine then_n ?_
  obtain ⟨v2, h1, h0⟩ := bnd h0
  refine aw_cut ⟨updA ((fun _ => .dead)) 5 (.d (.v (.int .i64 v2))), lks [.no, .no, .no]⟩ ?_ ?_
  · skip
    refine aw_seq ?_
    refine aw_regionA (is := [0, 1, 2, 3, 4, 5]) rfl ?_
    refine rp rfl w0 rfl (pu_move (r := .d _) rfl) ?_
    refine rp rfl w0 rfl (pu_move (r := .d _) rfl) ?_
    refine rp rfl w0 rfl (pu_move (r := .d _) rfl) ?_
    refine rp rfl w0 rfl (pw_mul rfl rfl) ?_
    refine rp rfl w0 rfl (pw_sub rfl rfl) ?_
    refine rp rfl w0 rfl (pu_assign (r := .d _) rfl) ?_
    refine ra_nil ?_
    refine then_n ?_
    refine aw_seq ?_
    refine aw_regionA (is := [0, 1, 2, 3, 4]) rfl ?_
    refine rp rfl w0 rfl (pu_move (r := .d _) rfl) ?_
    refine rp rfl w0 rfl (pu_move (r := .d _) rfl) ?_
    refine rp rfl w0 rfl (pu_move (r := .d _) rfl) ?_
    refine rp rfl w0 rfl (pw_sub rfl rfl) ?_
    refine rp rfl w0 rfl (pu_geq rfl rfl) ?_
    refine ra_nil ?_
    refine then_n ?_
    refine aw_if h1 rfl (fun hc h1 => ?_) (fun hc h1 => ?_)
    · skip
      refine aw_regionA (is := [0, 1, 2]) rfl ?_
      refine rp rfl w0 rfl (pu_move (r := .d _) rfl) ?_
      refine rp rfl w0 rfl (pw_add rfl rfl) ?_
      refine rp rfl w0 rfl (pu_assign (r := .d _) rfl) ?_
      refine ra_nil ?_
      refine then_n ?_
      cases h1
      exact wk [0, 1, 2]
    · skip
      refine aw_skip ?_
      refine then_n ?_
      cases h1
      exact wk [0, 1, 2]
  · skip
    refine aw_seq ?_
    refine aw_regionA (is := [0, 1]) rfl ?_
    refine rp rfl w0 rfl (pu_move (r := .d _) rfl) ?_
    refine rp rfl w0 rfl (pu_assign (r := .d _) rfl) ?_
    refine ra_nil ?_
    refine then_n ?_
    refine aw_ret ?_
    cases h0
    exact ret0_ (rs := [.tmp 4]) rfl

theorem i_SpreadHoles_c {p0 : Divider_} {p1 : Int} {p2 : Int} {r : List Int × Int} (h0 : i_SpreadHoles_m p0 p1 p2 = some r) : FnC Try.prog 20 [] [.agg [.d (.v (.int .i64 p0.Worm)), .d (.sl (List.map cI p0.Circles))], .d (.v (.int .i64 p1)), .d (.v (.int .i64 p2))] [.live [⟨2, 1, .data (List.map cI r.1)⟩]] (.tup [.own 0 0 r.1.length, .d (.v (.int .i64 r.2))]) := by
  refine fnc_intro (T := tt) (N := 40) tok Try.func20 rfl rfl (by kernel_rfl) rfl rfl ?_
  unfold i_SpreadHoles_m at h0
  refine aw_seq ?_
  refine aw_regionA (is := [0, 1, 2]) rfl ?_
  refine rs rfl w0 rfl (st_box 3 (cs := _ :: _) rfl rfl rfl) ?_
  refine rp rfl w0 rfl (pu_assign (r := .d _) rfl) ?_
  refine rp rfl w0 rfl (pu_assign (r := .d _) rfl) ?_
  refine ra_nil ?_
  refine then_n ?_
  refine aw_seq ?_
  refine aw_seq ?_
  refine aw_regionA (is := [0, 1, 2]) rfl ?_
  refine rl rfl w0 rfl (bx_ldN tok rfl rfl rfl rfl) ?_
  obtain ⟨v1, hv1, h0⟩ := bnd h0
  refine rs rfl w0 rfl (c_call 4 (i_ValidDivider_c hv1) rfl rfl rfl) ?_
  refine rp rfl w0 rfl (pu_not rfl) ?_
  refine ra_nil ?_
  refine then_n ?_
  refine aw_ifB h0 rfl (fun hc h0 => ?_) (fun hc h0 => ?_)
  · skip
    refine aw_seq ?_
    refine aw_regionA (is := [0, 1]) rfl ?_
    refine rp rfl w0 rfl (pu_assign (r := .d _) rfl) ?_
    refine rp rfl w0 rfl (pu_assign (r := .d _) rfl) ?_
    refine ra_nil ?_
    refine then_n ?_
    refine aw_weak (weak_adopt_t 4 rfl 2 1 (d := 6) rfl) ?_
    refine aw_ret ?_
    refine then_r ?_
    cases h0
    exact retK_ (rs := [.tmp 6, .tmp 7]) [4] rfl
  · skip
    refine aw_skip ?_
    refine then_n ?_
    refine aw_seq ?_
    obtain ⟨v4, h1, h0⟩ := bnd h0
    refine aw_cut ⟨updA (updA (updA (updA ((fun _ => .dead)) 1 (.d (.v (.int .i64 p1)))) 2 (.d (.v (.int .i64 p2)))) 3 (.ptr 3 0 1 0 0)) 22 (.d (.v (.bool v4))), lks [.no, .no, .no, .live [⟨32, 2, .av [[.d (.v (.int .i64 p0.Worm)), .d (.sl (List.map cI p0.Circles))]]⟩]]⟩ ?_ ?_
    · skip
      refine aw_regionA (is := [0, 1, 2, 3, 4, 5, 6, 7, 8, 9]) rfl ?_
      refine rp rfl w0 rfl (pu_move (r := .d _) rfl) ?_
      obtain ⟨v2, hv2, h1⟩ := bnd h1
      refine rs rfl w0 rfl (c_call 4 (i_isDivision_c hv2) rfl rfl rfl) ?_
      refine rp rfl w0 rfl (pu_not rfl) ?_
      refine rp rfl w0 rfl (pu_move (r := .d _) rfl) ?_
      refine ra_ifB (u := 16) h1 rfl (fun hc h1 => ?_) (fun hc h1 => ?_)
      · skip
        refine rk rfl rfl rfl (by first | exact .inl rfl | exact .inr rfl) rfl ?_
        refine rk rfl rfl rfl (by first | exact .inl rfl | exact .inr rfl) rfl ?_
        refine rk rfl rfl rfl (by first | exact .inl rfl | exact .inr rfl) rfl ?_
        refine rk rfl rfl rfl (by first | exact .inl rfl | exact .inr rfl) rfl ?_
        refine rk rfl rfl rfl (by first | exact .inl rfl | exact .inr rfl) rfl ?_
        refine rp rfl w0 rfl (pu_pick_t (r := .d _) rfl rfl) ?_
        refine ra_nil ?_
        refine then_n ?_
        cases h1
        exact wk [0, 1, 2, 3]
      · skip
        refine rl rfl (w1 rfl rfl rfl) rfl (bx_fa tok rfl rfl rfl rfl rfl rfl rfl) ?_
        refine rl rfl (w1 rfl rfl rfl) rfl (bx_ld1 tok rfl rfl rfl rfl rfl) ?_
        refine rp rfl (w1 rfl rfl rfl) rfl (pu_move (r := .d _) rfl) ?_
        obtain ⟨v3, hv3, h1⟩ := bnd h1
        refine rs rfl (w1 rfl rfl rfl) rfl (c_call 4 (slices_Contains_Lint64_int64_c hv3) rfl rfl rfl) ?_
        refine rp rfl (w1 rfl rfl rfl) rfl (pu_not rfl) ?_
        refine rp rfl w0 rfl (pu_pick_f (r := .d _) rfl rfl) ?_
        refine ra_nil ?_
        refine then_n ?_
        cases h1
        exact wk [0, 1, 2, 3]
    · skip
      refine aw_ifB h0 rfl (fun hc h0 => ?_) (fun hc h0 => ?_)
      · skip
        refine aw_seq ?_
        refine aw_regionA (is := [0, 1]) rfl ?_
        refine rp rfl w0 rfl (pu_assign (r := .d _) rfl) ?_
        refine rp rfl w0 rfl (pu_assign (r := .d _) rfl) ?_
        refine ra_nil ?_
        refine then_n ?_
        refine aw_weak (weak_adopt_t 4 rfl 2 1 (d := 6) rfl) ?_
        refine aw_ret ?_
        refine then_r ?_
        cases h0
        exact retK_ (rs := [.tmp 6, .tmp 7]) [4] rfl
      · skip
        refine aw_skip ?_
        refine then_n ?_
        refine aw_seq ?_
        refine aw_regionA (is := [0]) rfl ?_
        refine rp rfl w0 rfl (pu_assign (r := .d _) rfl) ?_
        refine ra_nil ?_
        refine then_n ?_
        obtain ⟨v11, h1, h0⟩ := bnd h0
        refine aw_cut ⟨updA ((fun _ => .dead)) 8 (.own 3 0 (v11).length), lks [.no, .no, .no, .live [⟨2, 1, .data (List.map cI v11)⟩]]⟩ ?_ ?_
        · skip
          refine aw_seq ?_
          refine aw_regionA (is := [0]) rfl ?_
          refine rp rfl w0 rfl (pu_assign (r := .d _) rfl) ?_
          refine ra_nil ?_
          refine then_n ?_
          refine aw_block ?_
          refine aw_loopM (fun s8 => ⟨updA (updA (updA (updA (updA ((fun _ => .dead)) 1 (.d (.v (.int .i64 p1)))) 2 (.d (.v (.int .i64 p2)))) 3 (.ptr 3 0 1 0 0)) 8 (.own 4 0 (s8.2).length)) 9 (.d (.v (.int .i64 s8.1))), lks [.no, .no, .no, .live [⟨32, 2, .av [[.d (.v (.int .i64 p0.Worm)), .d (.sl (List.map cI p0.Circles))]]⟩], .live [⟨2, 1, .data (List.map cI s8.2)⟩]]⟩) h1 ?_ (fun s8 y h2 => ?_)
          · skip
            refine Weak.trans_ (weak_adopt_t 4 rfl 2 1 (d := 8) rfl) ?_
            exact wk [0, 1, 2, 3, 4]
          · skip
            refine aw_seq ?_
            refine aw_seq ?_
            refine aw_regionA (is := [0, 1, 2]) rfl ?_
            refine rp rfl w0 rfl (pu_move (r := .d _) rfl) ?_
            refine rp rfl w0 rfl (pu_move (r := .d _) rfl) ?_
            refine rp rfl w0 rfl (pu_lss rfl rfl) ?_
            refine ra_nil ?_
            refine then_n ?_
            refine aw_if h2 rfl (fun hc h2 => ?_) (fun hc h2 => ?_)
            · skip
              refine aw_skip ?_
              refine then_n ?_
              refine aw_seq ?_
              refine aw_block ?_
              refine aw_regionA (is := [0, 1, 2, 3, 4, 5, 6, 7, 8, 9, 10, 11]) rfl ?_
              refine rp rfl w0 rfl (pu_move (r := .own _ _ _) rfl) ?_
              refine rp rfl w0 rfl (pu_move (r := .d _) rfl) ?_
              refine rl rfl w0 rfl (bx_fa tok rfl rfl rfl rfl rfl rfl rfl) ?_
              refine rl rfl w0 rfl (bx_ld1 tok rfl rfl rfl rfl rfl) ?_
              refine rp rfl w0 rfl (pw_mul rfl rfl) ?_
              refine rp rfl w0 rfl (pu_move (r := .d _) rfl) ?_
              refine rp rfl w0 rfl (pw_mul rfl rfl) ?_
              refine rp rfl w0 rfl (pu_move (r := .d _) rfl) ?_
              obtain ⟨v9, hv9, h2⟩ := bnd h2
              refine rs rfl w0 rfl (c_call 5 (i_nearestDiv_c hv9) rfl rfl rfl) ?_
              refine rs rfl w0 rfl (bs_val tok cI [v9] rfl rfl rfl (by repeat (first | exact Els.nil _ | apply Els.cons (cs := [.d _]) rfl rfl rfl | apply Els.cons (cs := _ :: _) rfl rfl rfl)) rfl rfl rfl (by repeat (first | exact AllDD.nil | (apply AllDD.cons; (repeat (first | exact AllD.nil | apply AllD.cons))))) rfl) ?_
              obtain ⟨hq10, h2⟩ := chk_e h2
              refine rw1 rfl w0 rfl (ap_own tok hq10 rfl rfl rfl rfl rfl rfl rfl rfl rfl rfl rfl rfl (fun _ => rfl)) ?_
              refine rp rfl w0 rfl (pu_assign (r := .own _ _ _) rfl) ?_
              refine ra_nil ?_
              refine block_n ?_
              refine then_n ?_
              refine aw_regionA (is := [0, 1, 2]) rfl ?_
              refine rp rfl w0 rfl (pu_move (r := .d _) rfl) ?_
              refine rp rfl w0 rfl (pw_add rfl rfl) ?_
              refine rp rfl w0 rfl (pu_assign (r := .d _) rfl) ?_
              refine ra_nil ?_
              refine loop_n ?_
              cases h2
              refine ⟨_, rfl, ?_⟩
              exact wk [0, 1, 2, 3, 4]
            · skip
              refine aw_exit ?_
              refine then_e ?_
              cases h2
              refine loop_x ⟨_, rfl, fun e => ?_⟩
              subst e
              refine block_hit ?_
              refine then_n ?_
              exact wk [0, 1, 2, 4]
        · skip
          refine aw_seq ?_
          refine aw_regionA (is := [0, 1, 2]) rfl ?_
          refine rp rfl w0 rfl (pu_move (r := .own _ _ _) rfl) ?_
          refine rp rfl w0 rfl (pu_assign (r := .own _ _ _) rfl) ?_
          refine rp rfl w0 rfl (pu_assign (r := .d _) rfl) ?_
          refine ra_nil ?_
          refine then_n ?_
          refine aw_ret ?_
          cases h0
          exact retK_ (rs := [.tmp 6, .tmp 7]) [3] rfl

theorem s_l00In_c {p0 : Int} {p1 : Int} {p2 : Int} {r : Bool} (h0 : s_l00In_m p0 p1 p2 = some r) : FnC Try.prog 53 [] [.d (.v (.int .i64 p0)), .d (.v (.int .i64 p1)), .d (.v (.int .i64 p2))] [] (.d (.v (.bool r))) := by
  refine fnc_intro (T := tt) (N := 15) tok Try.func53 rfl rfl (by kernel_rfl) rfl rfl ?_
  unfold s_l00In_m at h0
  refine aw_seq ?_
  refine aw_regionA (is := [0]) rfl ?_
  refine rp rfl w0 rfl (pu_assign (r := .d _) rfl) ?_
  refine ra_nil ?_
  refine then_n ?_
  refine aw_seq ?_
  refine aw_regionA (is := [0, 1, 2, 3, 4, 5, 6, 7, 8]) rfl ?_
  refine rp rfl w0 rfl (pu_move (r := .d _) rfl) ?_
  refine rp rfl w0 rfl (pu_move (r := .d _) rfl) ?_
  refine rp rfl w0 rfl (pu_geq rfl rfl) ?_
  refine rp rfl w0 rfl (pu_move (r := .d _) rfl) ?_
  refine ra_if (u := 10) h0 rfl (fun hc h0 => ?_) (fun hc h0 => ?_)
  · skip
    refine rp rfl (w1 rfl rfl rfl) rfl (pu_move (r := .d _) rfl) ?_
    refine rp rfl (w1 rfl rfl rfl) rfl (pu_move (r := .d _) rfl) ?_
    refine rp rfl (w1 rfl rfl rfl) rfl (pu_leq rfl rfl) ?_
    refine rp rfl w0 rfl (pu_pick_t (r := .d _) rfl rfl) ?_
    refine rp rfl w0 rfl (pu_assign (r := .d _) rfl) ?_
    refine ra_nil ?_
    refine then_n ?_
    refine aw_ret ?_
    cases h0
    exact ret0_ (rs := [.tmp 6]) rfl
  · skip
    refine rk rfl rfl rfl (by first | exact .inl rfl | exact .inr rfl) rfl ?_
    refine rk rfl rfl rfl (by first | exact .inl rfl | exact .inr rfl) rfl ?_
    refine rk rfl rfl rfl (by first | exact .inl rfl | exact .inr rfl) rfl ?_
    refine rp rfl w0 rfl (pu_pick_f (r := .d _) rfl rfl) ?_
    refine rp rfl w0 rfl (pu_assign (r := .d _) rfl) ?_
    refine ra_nil ?_
    refine then_n ?_
    refine aw_ret ?_
    cases h0
    exact ret0_ (rs := [.tmp 6]) rfl

theorem s_l00Rises_c {p0 : List Int} {p1 : Int} {p2 : Int} {r : Bool} (h0 : s_l00Rises_m p0 p1 p2 = some r) : FnC Try.prog 154 [] [.d (.sl (List.map cI p0)), .d (.v (.int .i64 p1)), .d (.v (.int .i64 p2))] [] (.d (.v (.bool r))) := by
  refine fnc_intro (T := tt) (N := 38) tok Try.func154 rfl rfl (by kernel_rfl) rfl rfl ?_
  unfold s_l00Rises_m at h0
  refine aw_seq ?_
  refine aw_regionA (is := [0]) rfl ?_
  refine rp rfl w0 rfl (pu_assign (r := .d _) rfl) ?_
  refine ra_nil ?_
  refine then_n ?_
  obtain ⟨v13x, h1, h0⟩ := bnd h0
  refine aw_cutE v13x (fun v13 => ⟨(fun _ => .dead), lks [.no, .no, .no]⟩) ?_ ?_
  · skip
    refine aw_seq ?_
    refine aw_regionA (is := [0]) rfl ?_
    refine rp rfl w0 rfl (pu_assign (r := .d _) rfl) ?_
    refine ra_nil ?_
    refine then_n ?_
    refine aw_block ?_
    refine aw_loopM (fun s7 => ⟨updA (updA (updA (updA ((fun _ => .dead)) 0 (.d (.sl (List.map cI p0)))) 1 (.d (.v (.int .i64 p1)))) 2 (.d (.v (.int .i64 p2)))) 7 (.d (.v (.int .i64 s7))), lks [.no, .no, .no]⟩) h1 ?_ (fun s7 y h2 => ?_)
    · skip
      exact wk [0, 1, 2]
    · skip
      refine aw_seq ?_
      refine aw_seq ?_
      refine aw_regionA (is := [0, 1, 2, 3]) rfl ?_
      refine rp rfl w0 rfl (pu_move (r := .d _) rfl) ?_
      refine rp rfl w0 rfl (pu_move (r := .d _) rfl) ?_
      refine rp rfl w0 rfl (pu_len_map tok rfl rfl rfl) ?_
      refine rp rfl w0 rfl (pu_lss rfl rfl) ?_
      refine ra_nil ?_
      refine then_n ?_
      refine aw_if h2 rfl (fun hc h2 => ?_) (fun hc h2 => ?_)
      · skip
        refine aw_skip ?_
        refine then_n ?_
        refine aw_seq ?_
        refine aw_block ?_
        obtain ⟨v12, h3, h2⟩ := bnd h2
        refine aw_cut ⟨updA (updA (updA (updA (updA ((fun _ => .dead)) 0 (.d (.sl (List.map cI p0)))) 1 (.d (.v (.int .i64 p1)))) 2 (.d (.v (.int .i64 p2)))) 7 (.d (.v (.int .i64 s7)))) 37 (.d (.v (.bool v12))), lks [.no, .no, .no]⟩ ?_ ?_
        · skip
          refine aw_region_draw (is := [0, 1, 2, 3, 4, 5, 6, 7, 8, 9, 10, 11, 12, 13, 14, 15, 16, 17, 18, 19, 20, 21, 22, 23]) [0, 0, 3, 7, 0, 0, 63, 127, 255, 511, 1023, 2047, 4095, 4095, 12287, 32767, 65535, 4095, 4095, 397311, 921599, 2097151, 4194303, 8388607] follows (by kernel_rfl) ?_
          refine rt_p rfl w0 rfl (pu_move (r := .d _) rfl) ?_
          refine rt_p rfl w0 rfl (pu_move (r := .d _) rfl) ?_
          obtain ⟨v8, hv8, h3⟩ := bnd h3
          refine rt_p rfl w0 rfl (sl_ix tok hv8 rfl rfl rfl rfl rfl rfl) ?_
          refine rt_p rfl w0 rfl (pu_load_ref1 tok rfl rfl rfl rfl) ?_
          refine rt_p rfl w0 rfl (pu_move (r := .d _) rfl) ?_
          refine rt_p rfl w0 rfl (pu_move (r := .d _) rfl) ?_
          obtain ⟨v9, hv9, h3⟩ := bnd h3
          refine rt_c rfl w0 rfl (b_call 3 (s_l00In_c hv9) rfl rfl rfl) ?_
          refine rt_p rfl w0 rfl (pu_not rfl) ?_
          refine rt_p rfl w0 rfl (pu_move (r := .d _) rfl) ?_
          refine rt_ifB (u := 22) h3 rfl (fun hc h3 => ?_) (fun hc h3 => ?_)
          · skip
            refine rt_skip rfl rfl rfl (by first | exact .inl rfl | exact .inr rfl) rfl ?_
            refine rt_skip rfl rfl rfl (by first | exact .inl rfl | exact .inr rfl) rfl ?_
            refine rt_skip rfl rfl rfl (by first | exact .inl rfl | exact .inr rfl) rfl ?_
            refine rt_skip rfl rfl rfl (by first | exact .inl rfl | exact .inr rfl) rfl ?_
            refine rt_skip rfl rfl rfl (by first | exact .inl rfl | exact .inr rfl) rfl ?_
            refine rt_skip rfl rfl rfl (by first | exact .inl rfl | exact .inr rfl) rfl ?_
            refine rt_skip rfl rfl rfl (by first | exact .inl rfl | exact .inr rfl) rfl ?_
            refine rt_skip rfl rfl rfl (by first | exact .inl rfl | exact .inr rfl) rfl ?_
            refine rt_skip rfl rfl rfl (by first | exact .inl rfl | exact .inr rfl) rfl ?_
            refine rt_skip rfl rfl rfl (by first | exact .inl rfl | exact .inr rfl) rfl ?_
            refine rt_skip rfl rfl rfl (by first | exact .inl rfl | exact .inr rfl) rfl ?_
            refine rt_skip rfl rfl rfl (by first | exact .inl rfl | exact .inr rfl) rfl ?_
            refine rt_skip rfl rfl rfl (by first | exact .inl rfl | exact .inr rfl) rfl ?_
            refine rt_skip rfl rfl rfl (by first | exact .inl rfl | exact .inr rfl) rfl ?_
            refine rt_p rfl w0 rfl (pu_pick_t (r := .d _) rfl rfl) ?_
            refine rt_nil ?_
            refine ⟨by kernel_rfl, ?_⟩
            refine then_n ?_
            cases h3
            exact wk [0, 1, 2]
          · skip
            refine rt_p rfl (w1 rfl rfl rfl) rfl (pu_move (r := .d _) rfl) ?_
            refine rt_p rfl (w1 rfl rfl rfl) rfl (pu_gtr rfl rfl) ?_
            refine rt_p rfl (w1 rfl rfl rfl) rfl (pu_move (r := .d _) rfl) ?_
            refine rt_if (u := 25) h3 rfl (fun hc h3 => ?_) (fun hc h3 => ?_)
            · skip
              refine rt_p rfl (w1 rfl rfl rfl) rfl (pu_move (r := .d _) rfl) ?_
              refine rt_p rfl (w1 rfl rfl rfl) rfl (pu_move (r := .d _) rfl) ?_
              refine rt_p rfl (w1 rfl rfl rfl) rfl (pw_sub rfl rfl) ?_
              obtain ⟨v10, hv10, h3⟩ := bnd h3
              refine rt_p rfl (w1 rfl rfl rfl) rfl (sl_ix tok hv10 rfl rfl rfl rfl rfl rfl) ?_
              refine rt_p rfl (w1 rfl rfl rfl) rfl (pu_load_ref1 tok rfl rfl rfl rfl) ?_
              refine rt_p rfl (w1 rfl rfl rfl) rfl (pu_move (r := .d _) rfl) ?_
              refine rt_p rfl (w1 rfl rfl rfl) rfl (pu_move (r := .d _) rfl) ?_
              obtain ⟨v11, hv11, h3⟩ := bnd h3
              refine rt_p rfl (w1 rfl rfl rfl) rfl (sl_ix tok hv11 rfl rfl rfl rfl rfl rfl) ?_
              refine rt_p rfl (w1 rfl rfl rfl) rfl (pu_load_ref1 tok rfl rfl rfl rfl) ?_
              refine rt_p rfl (w1 rfl rfl rfl) rfl (pu_geq rfl rfl) ?_
              refine rt_p rfl (w1 rfl rfl rfl) rfl (pu_pick_t (r := .d _) rfl rfl) ?_
              refine rt_p rfl w0 rfl (pu_pick_f (r := .d _) rfl rfl) ?_
              refine rt_nil ?_
              refine ⟨by kernel_rfl, ?_⟩
              refine then_n ?_
              cases h3
              exact wk [0, 1, 2]
            · skip
              refine rt_skip rfl rfl rfl (by first | exact .inl rfl | exact .inr rfl) rfl ?_
              refine rt_skip rfl rfl rfl (by first | exact .inl rfl | exact .inr rfl) rfl ?_
              refine rt_skip rfl rfl rfl (by first | exact .inl rfl | exact .inr rfl) rfl ?_
              refine rt_skip rfl rfl rfl (by first | exact .inl rfl | exact .inr rfl) rfl ?_
              refine rt_skip rfl rfl rfl (by first | exact .inl rfl | exact .inr rfl) rfl ?_
              refine rt_skip rfl rfl rfl (by first | exact .inl rfl | exact .inr rfl) rfl ?_
              refine rt_skip rfl rfl rfl (by first | exact .inl rfl | exact .inr rfl) rfl ?_
              refine rt_skip rfl rfl rfl (by first | exact .inl rfl | exact .inr rfl) rfl ?_
              refine rt_skip rfl rfl rfl (by first | exact .inl rfl | exact .inr rfl) rfl ?_
              refine rt_skip rfl rfl rfl (by first | exact .inl rfl | exact .inr rfl) rfl ?_
              refine rt_p rfl (w1 rfl rfl rfl) rfl (pu_pick_f (r := .d _) rfl rfl) ?_
              refine rt_p rfl w0 rfl (pu_pick_f (r := .d _) rfl rfl) ?_
              refine rt_nil ?_
              refine ⟨by kernel_rfl, ?_⟩
              refine then_n ?_
              cases h3
              exact wk [0, 1, 2]
        · skip
          refine aw_ifB h2 rfl (fun hc h2 => ?_) (fun hc h2 => ?_)
          · skip
            refine aw_seq ?_
            refine aw_regionA (is := [0]) rfl ?_
            refine rp rfl w0 rfl (pu_assign (r := .d _) rfl) ?_
            refine ra_nil ?_
            refine then_n ?_
            refine aw_ret ?_
            refine block_r ?_
            refine then_r ?_
            cases h2
            refine loop_r ⟨_, rfl, fun e => ?_⟩
            subst e
            refine block_r ?_
            replace h0 := orE_s h0
            refine then_r ?_
            cases h0
            exact ret0_ (rs := [.tmp 6]) rfl
          · skip
            refine aw_skip ?_
            refine block_n ?_
            refine then_n ?_
            refine aw_regionA (is := [0, 1, 2]) rfl ?_
            refine rp rfl w0 rfl (pu_move (r := .d _) rfl) ?_
            refine rp rfl w0 rfl (pw_add rfl rfl) ?_
            refine rp rfl w0 rfl (pu_assign (r := .d _) rfl) ?_
            refine ra_nil ?_
            refine loop_n ?_
            cases h2
            refine ⟨_, rfl, ?_⟩
            exact wk [0, 1, 2]
      · skip
        refine aw_exit ?_
        refine then_e ?_
        cases h2
        refine loop_x ⟨_, rfl, fun e => ?_⟩
        subst e
        refine block_hit ?_
        refine then_n ?_
        refine ⟨_, rfl, ?_⟩
        exact wk [0, 1, 2]
  · skip
    rintro v13 rfl
    replace h0 := orE_f h0
    refine aw_seq ?_
    refine aw_regionA (is := [0]) rfl ?_
    refine rp rfl w0 rfl (pu_assign (r := .d _) rfl) ?_
    refine ra_nil ?_
    refine then_n ?_
    refine aw_ret ?_
    cases h0
    exact ret0_ (rs := [.tmp 6]) rfl

theorem s_l24Ok_c {p0 : Divider_} {r : Bool} (h0 : s_l24Ok_m p0 = some r) : FnC Try.prog 105 [] [.agg [.d (.v (.int .i64 p0.Worm)), .d (.sl (List.map cI p0.Circles))]] [] (.d (.v (.bool r))) := by
  refine fnc_intro (T := tt) (N := 17) tok Try.func105 rfl rfl (by kernel_rfl) rfl rfl ?_
  unfold s_l24Ok_m at h0
  refine aw_seq ?_
  refine aw_regionA (is := [0, 1]) rfl ?_
  refine rs rfl w0 rfl (st_box 3 (cs := _ :: _) rfl rfl rfl) ?_
  refine rp rfl w0 rfl (pu_assign (r := .d _) rfl) ?_
  refine ra_nil ?_
  refine then_n ?_
  refine aw_seq ?_
  refine aw_regionA (is := [0, 1, 2, 3, 4, 5, 6, 7, 8, 9, 10, 11, 12, 13, 14]) rfl ?_
  refine rl rfl w0 rfl (bx_fa tok rfl rfl rfl rfl rfl rfl rfl) ?_
  refine rl rfl w0 rfl (bx_ld1 tok rfl rfl rfl rfl rfl) ?_
  obtain ⟨v1, hv1, h0⟩ := bnd h0
  refine rs rfl w0 rfl (c_call 4 (s_l00In_c hv1) rfl rfl rfl) ?_
  refine rp rfl w0 rfl (pu_move (r := .d _) rfl) ?_
  refine ra_ifB (u := 6) h0 rfl (fun hc h0 => ?_) (fun hc h0 => ?_)
  · skip
    refine rl rfl (w1 rfl rfl rfl) rfl (bx_fa tok rfl rfl rfl rfl rfl rfl rfl) ?_
    refine rl rfl (w1 rfl rfl rfl) rfl (bx_ld1 tok rfl rfl rfl rfl rfl) ?_
    refine rp rfl (w1 rfl rfl rfl) rfl (pu_len_map tok rfl rfl rfl) ?_
    obtain ⟨v2, hv2, h0⟩ := bnd h0
    refine rs rfl (w1 rfl rfl rfl) rfl (c_call 4 (s_l00In_c hv2) rfl rfl rfl) ?_
    refine rp rfl w0 rfl (pu_pick_t (r := .d _) rfl rfl) ?_
    refine rp rfl w0 rfl (pu_move (r := .d _) rfl) ?_
    refine ra_ifB (u := 12) h0 rfl (fun hc h0 => ?_) (fun hc h0 => ?_)
    · skip
      refine rl rfl (w1 rfl rfl rfl) rfl (bx_fa tok rfl rfl rfl rfl rfl rfl rfl) ?_
      refine rl rfl (w1 rfl rfl rfl) rfl (bx_ld1 tok rfl rfl rfl rfl rfl) ?_
      obtain ⟨v3, hv3, h0⟩ := bnd h0
      refine rs rfl (w1 rfl rfl rfl) rfl (c_call 4 (s_l00Rises_c hv3) rfl rfl rfl) ?_
      refine rp rfl w0 rfl (pu_pick_t (r := .d _) rfl rfl) ?_
      refine rp rfl w0 rfl (pu_assign (r := .d _) rfl) ?_
      refine ra_nil ?_
      refine then_n ?_
      refine aw_ret ?_
      cases h0
      exact ret0_ (rs := [.tmp 2]) rfl
    · skip
      refine rk rfl rfl rfl (by first | exact .inl rfl | exact .inr rfl) rfl ?_
      refine rk rfl rfl rfl (by first | exact .inl rfl | exact .inr rfl) rfl ?_
      refine rk rfl rfl rfl (by first | exact .inl rfl | exact .inr rfl) rfl ?_
      refine rp rfl w0 rfl (pu_pick_f (r := .d _) rfl rfl) ?_
      refine rp rfl w0 rfl (pu_assign (r := .d _) rfl) ?_
      refine ra_nil ?_
      refine then_n ?_
      refine aw_ret ?_
      cases h0
      exact ret0_ (rs := [.tmp 2]) rfl
  · skip
    refine rk rfl rfl rfl (by first | exact .inl rfl | exact .inr rfl) rfl ?_
    refine rk rfl rfl rfl (by first | exact .inl rfl | exact .inr rfl) rfl ?_
    refine rk rfl rfl rfl (by first | exact .inl rfl | exact .inr rfl) rfl ?_
    refine rk rfl rfl rfl (by first | exact .inl rfl | exact .inr rfl) rfl ?_
    refine rp rfl w0 rfl (pu_pick_f (r := .d _) rfl rfl) ?_
    refine rp rfl w0 rfl (pu_move (r := .d _) rfl) ?_
    refine rk rfl rfl rfl (by first | exact .inl rfl | exact .inr rfl) rfl ?_
    refine rk rfl rfl rfl (by first | exact .inl rfl | exact .inr rfl) rfl ?_
    refine rk rfl rfl rfl (by first | exact .inl rfl | exact .inr rfl) rfl ?_
    refine rp rfl w0 rfl (pu_pick_f (r := .d _) rfl rfl) ?_
    refine rp rfl w0 rfl (pu_assign (r := .d _) rfl) ?_
    refine ra_nil ?_
    refine then_n ?_
    refine aw_ret ?_
    cases h0
    exact ret0_ (rs := [.tmp 2]) rfl

theorem s_l24Code_c {p0 : Divider_} {p1 : Int} {r : Int} (h0 : s_l24Code_m p0 p1 = some r) : FnC Try.prog 70 [] [.agg [.d (.v (.int .i64 p0.Worm)), .d (.sl (List.map cI p0.Circles))], .d (.v (.int .i64 p1))] [] (.d (.v (.int .i64 r))) := by
  refine fnc_intro (T := tt) (N := 11) tok Try.func70 rfl rfl (by kernel_rfl) rfl rfl ?_
  unfold s_l24Code_m at h0
  refine aw_seq ?_
  refine aw_regionA (is := [0, 1]) rfl ?_
  refine rs rfl w0 rfl (st_box 3 (cs := _ :: _) rfl rfl rfl) ?_
  refine rp rfl w0 rfl (pu_assign (r := .d _) rfl) ?_
  refine ra_nil ?_
  refine then_n ?_
  refine aw_seq ?_
  refine aw_seq ?_
  refine aw_regionA (is := [0, 1, 2]) rfl ?_
  refine rl rfl w0 rfl (bx_ldN tok rfl rfl rfl rfl) ?_
  obtain ⟨v1, hv1, h0⟩ := bnd h0
  refine rs rfl w0 rfl (c_call 4 (s_l24Ok_c hv1) rfl rfl rfl) ?_
  refine rp rfl w0 rfl (pu_not rfl) ?_
  refine ra_nil ?_
  refine then_n ?_
  refine aw_ifB h0 rfl (fun hc h0 => ?_) (fun hc h0 => ?_)
  · skip
    refine aw_seq ?_
    refine aw_regionA (is := [0]) rfl ?_
    refine rp rfl w0 rfl (pu_assign (r := .d _) rfl) ?_
    refine ra_nil ?_
    refine then_n ?_
    refine aw_ret ?_
    refine then_r ?_
    cases h0
    exact ret0_ (rs := [.tmp 4]) rfl
  · skip
    refine aw_skip ?_
    refine then_n ?_
    refine aw_seq ?_
    refine aw_seq ?_
    refine aw_regionA (is := [0, 1, 2]) rfl ?_
    refine rp rfl w0 rfl (pu_move (r := .d _) rfl) ?_
    obtain ⟨v2, hv2, h0⟩ := bnd h0
    refine rs rfl w0 rfl (c_call 4 (s_l00In_c hv2) rfl rfl rfl) ?_
    refine rp rfl w0 rfl (pu_not rfl) ?_
    refine ra_nil ?_
    refine then_n ?_
    refine aw_ifB h0 rfl (fun hc h0 => ?_) (fun hc h0 => ?_)
    · skip
      refine aw_seq ?_
      refine aw_regionA (is := [0]) rfl ?_
      refine rp rfl w0 rfl (pu_assign (r := .d _) rfl) ?_
      refine ra_nil ?_
      refine then_n ?_
      refine aw_ret ?_
      refine then_r ?_
      cases h0
      exact ret0_ (rs := [.tmp 4]) rfl
    · skip
      refine aw_skip ?_
      refine then_n ?_
      refine aw_seq ?_
      refine aw_regionA (is := [0]) rfl ?_
      refine rp rfl w0 rfl (pu_assign (r := .d _) rfl) ?_
      refine ra_nil ?_
      refine then_n ?_
      refine aw_ret ?_
      cases h0
      exact ret0_ (rs := [.tmp 4]) rfl

theorem s_l00Has_c {p0 : List Int} {p1 : Int} {r : Bool} (h0 : s_l00Has_m p0 p1 = some r) : FnC Try.prog 71 [] [.d (.sl (List.map cI p0)), .d (.v (.int .i64 p1))] [] (.d (.v (.bool r))) := by
  refine fnc_intro (T := tt) (N := 18) tok Try.func71 rfl rfl (by kernel_rfl) rfl rfl ?_
  unfold s_l00Has_m at h0
  refine aw_seq ?_
  refine aw_regionA (is := [0]) rfl ?_
  refine rp rfl w0 rfl (pu_assign (r := .d _) rfl) ?_
  refine ra_nil ?_
  refine then_n ?_
  obtain ⟨v5x, h1, h0⟩ := bnd h0
  refine aw_cutE v5x (fun v5 => ⟨(fun _ => .dead), lks [.no, .no, .no]⟩) ?_ ?_
  · skip
    refine aw_seq ?_
    refine aw_regionA (is := [0]) rfl ?_
    refine rp rfl w0 rfl (pu_assign (r := .d _) rfl) ?_
    refine ra_nil ?_
    refine then_n ?_
    refine aw_block ?_
    refine aw_loopM (fun s3 => ⟨updA (updA (updA ((fun _ => .dead)) 0 (.d (.sl (List.map cI p0)))) 1 (.d (.v (.int .i64 p1)))) 5 (.d (.v (.int .i64 s3))), lks [.no, .no, .no]⟩) h1 ?_ (fun s3 y h2 => ?_)
    · skip
      exact wk [0, 1, 2]
    · skip
      refine aw_seq ?_
      refine aw_seq ?_
      refine aw_regionA (is := [0, 1, 2, 3]) rfl ?_
      refine rp rfl w0 rfl (pu_move (r := .d _) rfl) ?_
      refine rp rfl w0 rfl (pu_move (r := .d _) rfl) ?_
      refine rp rfl w0 rfl (pu_len_map tok rfl rfl rfl) ?_
      refine rp rfl w0 rfl (pu_lss rfl rfl) ?_
      refine ra_nil ?_
      refine then_n ?_
      refine aw_if h2 rfl (fun hc h2 => ?_) (fun hc h2 => ?_)
      · skip
        refine aw_skip ?_
        refine then_n ?_
        refine aw_seq ?_
        refine aw_block ?_
        refine aw_seq ?_
        refine aw_regionA (is := [0, 1, 2, 3, 4, 5]) rfl ?_
        refine rp rfl w0 rfl (pu_move (r := .d _) rfl) ?_
        refine rp rfl w0 rfl (pu_move (r := .d _) rfl) ?_
        obtain ⟨v4, hv4, h2⟩ := bnd h2
        refine rp rfl w0 rfl (sl_ix tok hv4 rfl rfl rfl rfl rfl rfl) ?_
        refine rp rfl w0 rfl (pu_load_ref1 tok rfl rfl rfl rfl) ?_
        refine rp rfl w0 rfl (pu_move (r := .d _) rfl) ?_
        refine rp rfl w0 rfl (pu_eql rfl rfl) ?_
        refine ra_nil ?_
        refine then_n ?_
        refine aw_if h2 rfl (fun hc h2 => ?_) (fun hc h2 => ?_)
        · skip
          refine aw_seq ?_
          refine aw_regionA (is := [0]) rfl ?_
          refine rp rfl w0 rfl (pu_assign (r := .d _) rfl) ?_
          refine ra_nil ?_
          refine then_n ?_
          refine aw_ret ?_
          refine block_r ?_
          refine then_r ?_
          cases h2
          refine loop_r ⟨_, rfl, fun e => ?_⟩
          subst e
          refine block_r ?_
          replace h0 := orE_s h0
          refine then_r ?_
          cases h0
          exact ret0_ (rs := [.tmp 4]) rfl
        · skip
          refine aw_skip ?_
          refine block_n ?_
          refine then_n ?_
          refine aw_regionA (is := [0, 1, 2]) rfl ?_
          refine rp rfl w0 rfl (pu_move (r := .d _) rfl) ?_
          refine rp rfl w0 rfl (pw_add rfl rfl) ?_
          refine rp rfl w0 rfl (pu_assign (r := .d _) rfl) ?_
          refine ra_nil ?_
          refine loop_n ?_
          cases h2
          refine ⟨_, rfl, ?_⟩
          exact wk [0, 1, 2]
      · skip
        refine aw_exit ?_
        refine then_e ?_
        cases h2
        refine loop_x ⟨_, rfl, fun e => ?_⟩
        subst e
        refine block_hit ?_
        refine then_n ?_
        refine ⟨_, rfl, ?_⟩
        exact wk [0, 1, 2]
  · skip
    rintro v5 rfl
    replace h0 := orE_f h0
    refine aw_seq ?_
    refine aw_regionA (is := [0]) rfl ?_
    refine rp rfl w0 rfl (pu_assign (r := .d _) rfl) ?_
    refine ra_nil ?_
    refine then_n ?_
    refine aw_ret ?_
    cases h0
    exact ret0_ (rs := [.tmp 4]) rfl

theorem s_l02Down_c {p0 : Int} {p1 : Int} {r : Int} (h0 : s_l02Down_m p0 p1 = some r) : FnC Try.prog 114 [] [.d (.v (.int .i64 p0)), .d (.v (.int .i64 p1))] [] (.d (.v (.int .i64 r))) := by
  refine fnc_intro (T := tt) (N := 16) tok Try.func114 rfl rfl (by kernel_rfl) rfl rfl ?_
  unfold s_l02Down_m at h0
  refine aw_seq ?_
  refine aw_regionA (is := [0]) rfl ?_
  refine rp rfl w0 rfl (pu_assign (r := .d _) rfl) ?_
  refine ra_nil ?_
  refine then_n ?_
  refine aw_seq ?_
  refine aw_regionA (is := [0, 1, 2, 3]) rfl ?_
  refine rp rfl w0 rfl (pu_move (r := .d _) rfl) ?_
  refine rp rfl w0 rfl (pu_move (r := .d _) rfl) ?_
  obtain ⟨hq1, h0⟩ := chk_e h0
  refine rp rfl w0 rfl (pw_quo rfl rfl hq1) ?_
  refine rp rfl w0 rfl (pu_assign (r := .d _) rfl) ?_
  refine ra_nil ?_
  refine then_n ?_
  obtain ⟨v3, h1, h0⟩ := bnd h0
  refine aw_cut ⟨updA ((fun _ => .dead)) 5 (.d (.v (.int .i64 v3))), lks [.no, .no, .no]⟩ ?_ ?_
  · skip
    refine aw_seq ?_
    refine aw_regionA (is := [0, 1, 2, 3]) rfl ?_
    refine rp rfl w0 rfl (pu_move (r := .d _) rfl) ?_
    refine rp rfl w0 rfl (pu_move (r := .d _) rfl) ?_
    obtain ⟨hq2, h1⟩ := chk_e h1
    refine rp rfl w0 rfl (pu_remw rfl rfl hq2) ?_
    refine rp rfl w0 rfl (pu_lss rfl rfl) ?_
    refine ra_nil ?_
    refine then_n ?_
    refine aw_if h1 rfl (fun hc h1 => ?_) (fun hc h1 => ?_)
    · skip
      refine aw_regionA (is := [0, 1, 2]) rfl ?_
      refine rp rfl w0 rfl (pu_move (r := .d _) rfl) ?_
      refine rp rfl w0 rfl (pw_sub rfl rfl) ?_
      refine rp rfl w0 rfl (pu_assign (r := .d _) rfl) ?_
      refine ra_nil ?_
      refine then_n ?_
      cases h1
      exact wk [0, 1, 2]
    · skip
      refine aw_skip ?_
      refine then_n ?_
      cases h1
      exact wk [0, 1, 2]
  · skip
    refine aw_seq ?_
    refine aw_regionA (is := [0, 1]) rfl ?_
    refine rp rfl w0 rfl (pu_move (r := .d _) rfl) ?_
    refine rp rfl w0 rfl (pu_assign (r := .d _) rfl) ?_
    refine ra_nil ?_
    refine then_n ?_
    refine aw_ret ?_
    cases h0
    exact ret0_ (rs := [.tmp 4]) rfl

theorem s_l02Near_c {p0 : Int} {p1 : Int} {r : Int} (h0 : s_l02Near_m p0 p1 = some r) : FnC Try.prog 72 [] [.d (.v (.int .i64 p0)), .d (.v (.int .i64 p1))] [] (.d (.v (.int .i64 r))) := by
  refine fnc_intro (T := tt) (N := 12) tok Try.func72 rfl rfl (by kernel_rfl) rfl rfl ?_
  unfold s_l02Near_m at h0
  refine aw_seq ?_
  refine aw_regionA (is := [0]) rfl ?_
  refine rp rfl w0 rfl (pu_assign (r := .d _) rfl) ?_
  refine ra_nil ?_
  refine then_n ?_
  refine aw_seq ?_
  refine aw_regionA (is := [0, 1, 2, 3, 4, 5, 6, 7]) rfl ?_
  refine rp rfl w0 rfl (pu_move (r := .d _) rfl) ?_
  refine rp rfl w0 rfl (pw_mul rfl rfl) ?_
  refine rp rfl w0 rfl (pu_move (r := .d _) rfl) ?_
  refine rp rfl w0 rfl (pw_add rfl rfl) ?_
  refine rp rfl w0 rfl (pu_move (r := .d _) rfl) ?_
  refine rp rfl w0 rfl (pw_mul rfl rfl) ?_
  obtain ⟨v1, hv1, h0⟩ := bnd h0
  refine rs rfl w0 rfl (c_call 3 (s_l02Down_c hv1) rfl rfl rfl) ?_
  refine rp rfl w0 rfl (pu_assign (r := .d _) rfl) ?_
  refine ra_nil ?_
  refine then_n ?_
  refine aw_ret ?_
  cases h0
  exact ret0_ (rs := [.tmp 4]) rfl

theorem s_SpreadHoles_c {p0 : Divider_} {p1 : Int} {p2 : Int} {r : List Int × Int} (h0 : s_SpreadHoles_m p0 p1 p2 = some r) : FnC Try.prog 21 [] [.agg [.d (.v (.int .i64 p0.Worm)), .d (.sl (List.map cI p0.Circles))], .d (.v (.int .i64 p1)), .d (.v (.int .i64 p2))] [.live [⟨2, 1, .data (List.map cI r.1)⟩]] (.tup [.own 0 0 r.1.length, .d (.v (.int .i64 r.2))]) := by
  refine fnc_intro (T := tt) (N := 44) tok Try.func21 rfl rfl (by kernel_rfl) rfl rfl ?_
  unfold s_SpreadHoles_m at h0
  refine aw_seq ?_
  refine aw_regionA (is := [0, 1, 2]) rfl ?_
  refine rs rfl w0 rfl (st_box 3 (cs := _ :: _) rfl rfl rfl) ?_
  refine rp rfl w0 rfl (pu_assign (r := .d _) rfl) ?_
  refine rp rfl w0 rfl (pu_assign (r := .d _) rfl) ?_
  refine ra_nil ?_
  refine then_n ?_
  refine aw_seq ?_
  refine aw_regionA (is := [0, 1, 2, 3]) rfl ?_
  refine rl rfl w0 rfl (bx_ldN tok rfl rfl rfl rfl) ?_
  refine rp rfl w0 rfl (pu_move (r := .d _) rfl) ?_
  obtain ⟨v1, hv1, h0⟩ := bnd h0
  refine rs rfl w0 rfl (c_call 4 (s_l24Code_c hv1) rfl rfl rfl) ?_
  refine rp rfl w0 rfl (pu_assign (r := .d _) rfl) ?_
  refine ra_nil ?_
  refine then_n ?_
  obtain ⟨v4, h1, h0⟩ := bnd h0
  refine aw_cut ⟨updA (updA (updA (updA ((fun _ => .dead)) 1 (.d (.v (.int .i64 p1)))) 2 (.d (.v (.int .i64 p2)))) 3 (.ptr 3 0 1 0 0)) 8 (.d (.v (.int .i64 v4))), lks [.no, .no, .no, .live [⟨32, 2, .av [[.d (.v (.int .i64 p0.Worm)), .d (.sl (List.map cI p0.Circles))]]⟩]]⟩ ?_ ?_
  · skip
    obtain ⟨v3, h2, h1⟩ := bnd h1
    refine aw_cut ⟨updA (updA (updA (updA (updA ((fun _ => .dead)) 1 (.d (.v (.int .i64 p1)))) 2 (.d (.v (.int .i64 p2)))) 3 (.ptr 3 0 1 0 0)) 8 (.d (.v (.int .i64 v1)))) 22 (.d (.v (.bool v3))), lks [.no, .no, .no, .live [⟨32, 2, .av [[.d (.v (.int .i64 p0.Worm)), .d (.sl (List.map cI p0.Circles))]]⟩]]⟩ ?_ ?_
    · skip
      refine aw_regionA (is := [0, 1, 2, 3, 4, 5, 6, 7, 8]) rfl ?_
      refine rp rfl w0 rfl (pu_move (r := .d _) rfl) ?_
      refine rp rfl w0 rfl (pu_eql rfl rfl) ?_
      refine rp rfl w0 rfl (pu_move (r := .d _) rfl) ?_
      refine ra_if (u := 16) h2 rfl (fun hc h2 => ?_) (fun hc h2 => ?_)
      · skip
        refine rl rfl (w1 rfl rfl rfl) rfl (bx_fa tok rfl rfl rfl rfl rfl rfl rfl) ?_
        refine rl rfl (w1 rfl rfl rfl) rfl (bx_ld1 tok rfl rfl rfl rfl rfl) ?_
        refine rp rfl (w1 rfl rfl rfl) rfl (pu_move (r := .d _) rfl) ?_
        obtain ⟨v2, hv2, h2⟩ := bnd h2
        refine rs rfl (w1 rfl rfl rfl) rfl (c_call 4 (s_l00Has_c hv2) rfl rfl rfl) ?_
        refine rp rfl (w1 rfl rfl rfl) rfl (pu_not rfl) ?_
        refine rp rfl w0 rfl (pu_pick_t (r := .d _) rfl rfl) ?_
        refine ra_nil ?_
        refine then_n ?_
        cases h2
        exact wk [0, 1, 2, 3]
      · skip
        refine rk rfl rfl rfl (by first | exact .inl rfl | exact .inr rfl) rfl ?_
        refine rk rfl rfl rfl (by first | exact .inl rfl | exact .inr rfl) rfl ?_
        refine rk rfl rfl rfl (by first | exact .inl rfl | exact .inr rfl) rfl ?_
        refine rk rfl rfl rfl (by first | exact .inl rfl | exact .inr rfl) rfl ?_
        refine rk rfl rfl rfl (by first | exact .inl rfl | exact .inr rfl) rfl ?_
        refine rp rfl w0 rfl (pu_pick_f (r := .d _) rfl rfl) ?_
        refine ra_nil ?_
        refine then_n ?_
        cases h2
        exact wk [0, 1, 2, 3]
    · skip
      refine aw_ifB h1 rfl (fun hc h1 => ?_) (fun hc h1 => ?_)
      · skip
        refine aw_regionA (is := [0]) rfl ?_
        refine rp rfl w0 rfl (pu_assign (r := .d _) rfl) ?_
        refine ra_nil ?_
        refine then_n ?_
        cases h1
        exact wk [0, 1, 2, 3]
      · skip
        refine aw_skip ?_
        refine then_n ?_
        cases h1
        exact wk [0, 1, 2, 3]
  · skip
    refine aw_seq ?_
    refine aw_seq ?_
    refine aw_regionA (is := [0, 1]) rfl ?_
    refine rp rfl w0 rfl (pu_move (r := .d _) rfl) ?_
    refine rp rfl w0 rfl (pu_neq rfl rfl) ?_
    refine ra_nil ?_
    refine then_n ?_
    refine aw_if h0 rfl (fun hc h0 => ?_) (fun hc h0 => ?_)
    · skip
      refine aw_seq ?_
      refine aw_regionA (is := [0, 1, 2]) rfl ?_
      refine rp rfl w0 rfl (pu_move (r := .d _) rfl) ?_
      refine rp rfl w0 rfl (pu_assign (r := .d _) rfl) ?_
      refine rp rfl w0 rfl (pu_assign (r := .d _) rfl) ?_
      refine ra_nil ?_
      refine then_n ?_
      refine aw_weak (weak_adopt_t 4 rfl 2 1 (d := 6) rfl) ?_
      refine aw_ret ?_
      refine then_r ?_
      cases h0
      exact retK_ (rs := [.tmp 6, .tmp 7]) [4] rfl
    · skip
      refine aw_skip ?_
      refine then_n ?_
      refine aw_seq ?_
      refine aw_regionA (is := [0, 1]) rfl ?_
      refine rs rfl w0 rfl (st_slice0 4 tok rfl rfl rfl rfl) ?_
      refine rp rfl w0 rfl (pu_assign (r := .own _ _ _) rfl) ?_
      refine ra_nil ?_
      refine then_n ?_
      obtain ⟨v11, h1, h0⟩ := bnd h0
      refine aw_cut ⟨updA ((fun _ => .dead)) 9 (.own 3 0 (v11).length), lks [.no, .no, .no, .live [⟨2, 1, .data (List.map cI v11)⟩]]⟩ ?_ ?_
      · skip
        refine aw_seq ?_
        refine aw_regionA (is := [0]) rfl ?_
        refine rp rfl w0 rfl (pu_assign (r := .d _) rfl) ?_
        refine ra_nil ?_
        refine then_n ?_
        refine aw_block ?_
        refine aw_loopM (fun s8 => ⟨updA (updA (updA (updA (updA ((fun _ => .dead)) 1 (.d (.v (.int .i64 p1)))) 2 (.d (.v (.int .i64 p2)))) 3 (.ptr 3 0 1 0 0)) 9 (.own 4 0 (s8.2).length)) 10 (.d (.v (.int .i64 s8.1))), lks [.no, .no, .no, .live [⟨32, 2, .av [[.d (.v (.int .i64 p0.Worm)), .d (.sl (List.map cI p0.Circles))]]⟩], .live [⟨2, 1, .data (List.map cI s8.2)⟩]]⟩) h1 ?_ (fun s8 y h2 => ?_)
        · skip
          exact wk [0, 1, 2, 3, 4]
        · skip
          refine aw_seq ?_
          refine aw_seq ?_
          refine aw_regionA (is := [0, 1, 2]) rfl ?_
          refine rp rfl w0 rfl (pu_move (r := .d _) rfl) ?_
          refine rp rfl w0 rfl (pu_move (r := .d _) rfl) ?_
          refine rp rfl w0 rfl (pu_lss rfl rfl) ?_
          refine ra_nil ?_
          refine then_n ?_
          refine aw_if h2 rfl (fun hc h2 => ?_) (fun hc h2 => ?_)
          · skip
            refine aw_skip ?_
            refine then_n ?_
            refine aw_seq ?_
            refine aw_block ?_
            refine aw_regionA (is := [0, 1, 2, 3, 4, 5, 6, 7, 8, 9, 10, 11]) rfl ?_
            refine rp rfl w0 rfl (pu_move (r := .own _ _ _) rfl) ?_
            refine rp rfl w0 rfl (pu_move (r := .d _) rfl) ?_
            refine rl rfl w0 rfl (bx_fa tok rfl rfl rfl rfl rfl rfl rfl) ?_
            refine rl rfl w0 rfl (bx_ld1 tok rfl rfl rfl rfl rfl) ?_
            refine rp rfl w0 rfl (pw_mul rfl rfl) ?_
            refine rp rfl w0 rfl (pu_move (r := .d _) rfl) ?_
            refine rp rfl w0 rfl (pw_mul rfl rfl) ?_
            refine rp rfl w0 rfl (pu_move (r := .d _) rfl) ?_
            obtain ⟨v9, hv9, h2⟩ := bnd h2
            refine rs rfl w0 rfl (c_call 5 (s_l02Near_c hv9) rfl rfl rfl) ?_
            refine rs rfl w0 rfl (bs_val tok cI [v9] rfl rfl rfl (by repeat (first | exact Els.nil _ | apply Els.cons (cs := [.d _]) rfl rfl rfl | apply Els.cons (cs := _ :: _) rfl rfl rfl)) rfl rfl rfl (by repeat (first | exact AllDD.nil | (apply AllDD.cons; (repeat (first | exact AllD.nil | apply AllD.cons))))) rfl) ?_
            obtain ⟨hq10, h2⟩ := chk_e h2
            refine rw1 rfl w0 rfl (ap_own tok hq10 rfl rfl rfl rfl rfl rfl rfl rfl rfl rfl rfl rfl (fun _ => rfl)) ?_
            refine rp rfl w0 rfl (pu_assign (r := .own _ _ _) rfl) ?_
            refine ra_nil ?_
            refine block_n ?_
            refine then_n ?_
            refine aw_regionA (is := [0, 1, 2]) rfl ?_
            refine rp rfl w0 rfl (pu_move (r := .d _) rfl) ?_
            refine rp rfl w0 rfl (pw_add rfl rfl) ?_
            refine rp rfl w0 rfl (pu_assign (r := .d _) rfl) ?_
            refine ra_nil ?_
            refine loop_n ?_
            cases h2
            refine ⟨_, rfl, ?_⟩
            exact wk [0, 1, 2, 3, 4]
          · skip
            refine aw_exit ?_
            refine then_e ?_
            cases h2
            refine loop_x ⟨_, rfl, fun e => ?_⟩
            subst e
            refine block_hit ?_
            refine then_n ?_
            exact wk [0, 1, 2, 4]
      · skip
        refine aw_seq ?_
        refine aw_regionA (is := [0, 1, 2]) rfl ?_
        refine rp rfl w0 rfl (pu_move (r := .own _ _ _) rfl) ?_
        refine rp rfl w0 rfl (pu_assign (r := .own _ _ _) rfl) ?_
        refine rp rfl w0 rfl (pu_assign (r := .d _) rfl) ?_
        refine ra_nil ?_
        refine then_n ?_
        refine aw_ret ?_
        cases h0
        exact retK_ (rs := [.tmp 6, .tmp 7]) [3] rfl

theorem l_f6same_c {p0 : List Int} {p1 : List Int} {r : Bool} (h0 : l_f6same_m p0 p1 = some r) : FnC Try.prog 22 [] [.d (.sl (List.map cI p0)), .d (.sl (List.map cI p1))] [] (.d (.v (.bool r))) := by
  refine fnc_intro (T := tt) (N := 26) tok Try.func22 rfl rfl (by kernel_rfl) rfl rfl ?_
  unfold l_f6same_m at h0
  refine aw_seq ?_
  refine aw_regionA (is := [0]) rfl ?_
  refine rp rfl w0 rfl (pu_assign (r := .d _) rfl) ?_
  refine ra_nil ?_
  refine then_n ?_
  refine aw_seq ?_
  refine aw_seq ?_
  refine aw_regionA (is := [0, 1, 2, 3, 4]) rfl ?_
  refine rp rfl w0 rfl (pu_move (r := .d _) rfl) ?_
  refine rp rfl w0 rfl (pu_len_map tok rfl rfl rfl) ?_
  refine rp rfl w0 rfl (pu_move (r := .d _) rfl) ?_
  refine rp rfl w0 rfl (pu_len_map tok rfl rfl rfl) ?_
  refine rp rfl w0 rfl (pu_neq rfl rfl) ?_
  refine ra_nil ?_
  refine then_n ?_
  refine aw_if h0 rfl (fun hc h0 => ?_) (fun hc h0 => ?_)
  · skip
    refine aw_seq ?_
    refine aw_regionA (is := [0]) rfl ?_
    refine rp rfl w0 rfl (pu_assign (r := .d _) rfl) ?_
    refine ra_nil ?_
    refine then_n ?_
    refine aw_ret ?_
    refine then_r ?_
    cases h0
    exact ret0_ (rs := [.tmp 4]) rfl
  · skip
    refine aw_skip ?_
    refine then_n ?_
    obtain ⟨v7x, h1, h0⟩ := bnd h0
    refine aw_cutE v7x (fun v7 => ⟨(fun _ => .dead), lks [.no, .no, .no]⟩) ?_ ?_
    · skip
      refine aw_seq ?_
      refine aw_regionA (is := [0]) rfl ?_
      refine rp rfl w0 rfl (pu_assign (r := .d _) rfl) ?_
      refine ra_nil ?_
      refine then_n ?_
      refine aw_block ?_
      refine aw_loopM (fun s4 => ⟨updA (updA (updA ((fun _ => .dead)) 0 (.d (.sl (List.map cI p0)))) 1 (.d (.sl (List.map cI p1)))) 5 (.d (.v (.int .i64 s4))), lks [.no, .no, .no]⟩) h1 ?_ (fun s4 y h2 => ?_)
      · skip
        exact wk [0, 1, 2]
      · skip
        refine aw_seq ?_
        refine aw_seq ?_
        refine aw_regionA (is := [0, 1, 2, 3]) rfl ?_
        refine rp rfl w0 rfl (pu_move (r := .d _) rfl) ?_
        refine rp rfl w0 rfl (pu_move (r := .d _) rfl) ?_
        refine rp rfl w0 rfl (pu_len_map tok rfl rfl rfl) ?_
        refine rp rfl w0 rfl (pu_lss rfl rfl) ?_
        refine ra_nil ?_
        refine then_n ?_
        refine aw_if h2 rfl (fun hc h2 => ?_) (fun hc h2 => ?_)
        · skip
          refine aw_skip ?_
          refine then_n ?_
          refine aw_seq ?_
          refine aw_block ?_
          refine aw_seq ?_
          refine aw_region_draw (is := [0, 1, 2, 3, 4, 5, 6, 7, 8]) [0, 0, 3, 7, 0, 0, 48, 112, 255] follows (by kernel_rfl) ?_
          refine rt_p rfl w0 rfl (pu_move (r := .d _) rfl) ?_
          refine rt_p rfl w0 rfl (pu_move (r := .d _) rfl) ?_
          obtain ⟨v5, hv5, h2⟩ := bnd h2
          refine rt_p rfl w0 rfl (sl_ix tok hv5 rfl rfl rfl rfl rfl rfl) ?_
          refine rt_p rfl w0 rfl (pu_load_ref1 tok rfl rfl rfl rfl) ?_
          refine rt_p rfl w0 rfl (pu_move (r := .d _) rfl) ?_
          refine rt_p rfl w0 rfl (pu_move (r := .d _) rfl) ?_
          obtain ⟨v6, hv6, h2⟩ := bnd h2
          refine rt_p rfl w0 rfl (sl_ix tok hv6 rfl rfl rfl rfl rfl rfl) ?_
          refine rt_p rfl w0 rfl (pu_load_ref1 tok rfl rfl rfl rfl) ?_
          refine rt_p rfl w0 rfl (pu_neq rfl rfl) ?_
          refine rt_nil ?_
          refine ⟨by kernel_rfl, ?_⟩
          refine then_n ?_
          refine aw_if h2 rfl (fun hc h2 => ?_) (fun hc h2 => ?_)
          · skip
            refine aw_seq ?_
            refine aw_regionA (is := [0]) rfl ?_
            refine rp rfl w0 rfl (pu_assign (r := .d _) rfl) ?_
            refine ra_nil ?_
            refine then_n ?_
            refine aw_ret ?_
            refine block_r ?_
            refine then_r ?_
            cases h2
            refine loop_r ⟨_, rfl, fun e => ?_⟩
            subst e
            refine block_r ?_
            replace h0 := orE_s h0
            refine then_r ?_
            cases h0
            exact ret0_ (rs := [.tmp 4]) rfl
          · skip
            refine aw_skip ?_
            refine block_n ?_
            refine then_n ?_
            refine aw_regionA (is := [0, 1, 2]) rfl ?_
            refine rp rfl w0 rfl (pu_move (r := .d _) rfl) ?_
            refine rp rfl w0 rfl (pw_add rfl rfl) ?_
            refine rp rfl w0 rfl (pu_assign (r := .d _) rfl) ?_
            refine ra_nil ?_
            refine loop_n ?_
            cases h2
            refine ⟨_, rfl, ?_⟩
            exact wk [0, 1, 2]
        · skip
          refine aw_exit ?_
          refine then_e ?_
          cases h2
          refine loop_x ⟨_, rfl, fun e => ?_⟩
          subst e
          refine block_hit ?_
          refine then_n ?_
          refine ⟨_, rfl, ?_⟩
          exact wk [0, 1, 2]
    · skip
      rintro v7 rfl
      replace h0 := orE_f h0
      refine aw_seq ?_
      refine aw_regionA (is := [0]) rfl ?_
      refine rp rfl w0 rfl (pu_assign (r := .d _) rfl) ?_
      refine ra_nil ?_
      refine then_n ?_
      refine aw_ret ?_
      cases h0
      exact ret0_ (rs := [.tmp 4]) rfl

theorem s_DrawExactIndex_c {p0 : List Int} {r : Divider_ × Int} (h0 : s_DrawExactIndex_m p0 = some r) : FnC Try.prog 73 [] [.d (.sl (List.map cU8 p0))] [.live [⟨2, 1, .data (List.map cI r.1.Circles)⟩]] (.tup [.agg [.d (.v (.int .i64 r.1.Worm)), .own 0 0 r.1.Circles.length], .d (.v (.int .i64 r.2))]) := by
  refine fnc_intro (T := tt) (N := 13) tok Try.func73 rfl rfl (by kernel_rfl) rfl rfl ?_
  unfold s_DrawExactIndex_m at h0
  refine aw_seq ?_
  refine aw_regionA (is := [0, 1]) rfl ?_
  refine rs rfl w0 rfl (st_alloc 3 (cs := [.d (.v (.int .i64 0)), .d (.v (.slice none 0 0))]) tok rfl rfl rfl) ?_
  refine rp rfl w0 rfl (pu_assign (r := .d _) rfl) ?_
  refine ra_nil ?_
  refine then_n ?_
  refine aw_seq ?_
  refine aw_regionA (is := [0, 1, 2]) rfl ?_
  refine rp rfl w0 rfl (pu_move (r := .d _) rfl) ?_
  obtain ⟨v1, hv1, h0⟩ := bnd h0
  refine rs rfl w0 rfl (c_call 4 (s_l00From_c hv1) rfl rfl rfl) ?_
  refine rp rfl w0 rfl (pu_assign (r := .ptr _ _ _ _ _) rfl) ?_
  refine ra_nil ?_
  refine then_n ?_
  refine aw_seq ?_
  refine aw_regionA (is := [0, 1, 2, 3]) rfl ?_
  refine rp rfl w0 rfl (pu_move (r := .ptr _ _ _ _ _) rfl) ?_
  obtain ⟨v2, hv2, h0⟩ := bnd h0
  refine rw1 rfl w0 rfl (c_callP [4, 5] 300 (fnc_pad 1 (s_l24Bent_b_c hv2)) rfl rfl) ?_
  refine rs rfl w0 rfl (st_alloc 6 (cs := [.d (.v (.int .i64 0)), .d (.v (.slice none 0 0))]) tok rfl rfl rfl) ?_
  refine rw0 rfl w0 (bx_st (cs := _ :: _) tok rfl rfl rfl rfl rfl rfl rfl) ?_
  refine ra_nil ?_
  refine then_n ?_
  refine aw_seq ?_
  refine aw_region_draw (is := [0, 1, 2, 3, 4]) [0, 0, 2, 7, 15] follows (by kernel_rfl) ?_
  refine rt_lk rfl w0 rfl (bx_ldN tok rfl rfl rfl rfl) rfl rfl rfl ?_
  refine rt_p rfl w0 rfl (pu_move (r := .ptr _ _ _ _ _) rfl) ?_
  obtain ⟨v3, hv3, h0⟩ := bnd h0
  refine rt_wkd rfl w0 rfl (c_callP [4] 300 (s_l24Count_b_c hv3) rfl rfl) ?_
  refine rt_wk rfl w0 (bx_st (cs := _ :: _) tok rfl rfl rfl rfl rfl rfl rfl) ?_
  refine rt_p rfl w0 rfl (pu_assign (r := .d _) rfl) ?_
  refine rt_nil ?_
  refine ⟨by kernel_rfl, ?_⟩
  refine then_n ?_
  refine aw_ret ?_
  cases h0
  exact retK_ (rs := [.cell 2 32, .tmp 3]) [5] rfl

theorem s_DrawExactDivisions_c {p0 : List Int} {r : Divider_ × Int} (h0 : s_DrawExactDivisions_m p0 = some r) : FnC Try.prog 23 [] [.d (.sl (List.map cU8 p0))] [.live [⟨2, 1, .data (List.map cI r.1.Circles)⟩]] (.tup [.agg [.d (.v (.int .i64 r.1.Worm)), .own 0 0 r.1.Circles.length], .d (.v (.int .i64 r.2))]) := by
  refine fnc_intro (T := tt) (N := 8) tok Try.func23 rfl rfl (by kernel_rfl) rfl rfl ?_
  unfold s_DrawExactDivisions_m at h0
  refine aw_seq ?_
  refine aw_regionA (is := [0, 1]) rfl ?_
  refine rs rfl w0 rfl (st_alloc 3 (cs := [.d (.v (.int .i64 0)), .d (.v (.slice none 0 0))]) tok rfl rfl rfl) ?_
  refine rp rfl w0 rfl (pu_assign (r := .d _) rfl) ?_
  refine ra_nil ?_
  refine then_n ?_
  refine aw_seq ?_
  refine aw_regionA (is := [0, 1, 2, 3, 4, 5]) rfl ?_
  refine rp rfl w0 rfl (pu_move (r := .d _) rfl) ?_
  obtain ⟨v1, hv1, h0⟩ := bnd h0
  refine rs rfl w0 rfl (c_call 4 (s_DrawExactIndex_c hv1) rfl rfl rfl) ?_
  refine rp rfl w0 rfl (pu_extract rfl rfl) ?_
  refine rp rfl w0 rfl (pu_extract rfl rfl) ?_
  refine rw0 rfl w0 (bx_st (cs := _ :: _) tok rfl rfl rfl rfl rfl rfl rfl) ?_
  refine rp rfl w0 rfl (pu_assign (r := .d _) rfl) ?_
  refine ra_nil ?_
  refine then_n ?_
  refine aw_ret ?_
  cases h0
  exact retK_ (rs := [.cell 2 32, .tmp 3]) [4] rfl

theorem i_motionOf_c {p0 : Int} {p1 : Int} {r : Index_} (h0 : i_motionOf_m p0 p1 = some r) : FnC Try.prog 115 [] [.d (.v (.int .i64 p0)), .d (.v (.int .i64 p1))] [] (.agg [.d (.v (.int .i64 r.Turns)), .d (.v (.int .i64 r.Holes)), .d (.v (.int .i64 r.Circle))]) := by
  refine fnc_intro (T := tt) (N := 13) tok Try.func115 rfl rfl (by kernel_rfl) rfl rfl ?_
  unfold i_motionOf_m at h0
  refine aw_seq ?_
  refine aw_regionA (is := [0]) rfl ?_
  refine rs rfl w0 rfl (st_alloc 3 (cs := [.d (.v (.int .i64 0)), .d (.v (.int .i64 0)), .d (.v (.int .i64 0))]) tok rfl rfl rfl) ?_
  refine ra_nil ?_
  refine then_n ?_
  refine aw_seq ?_
  refine aw_region_draw (is := [0, 1, 2, 3, 4, 5, 6, 7, 8]) [0, 0, 3, 0, 0, 24, 0, 127, 255] follows (by kernel_rfl) ?_
  refine rt_p rfl w0 rfl (pu_move (r := .d _) rfl) ?_
  refine rt_p rfl w0 rfl (pu_move (r := .d _) rfl) ?_
  obtain ⟨hq1, h0⟩ := chk_e h0
  refine rt_p rfl w0 rfl (pw_quo rfl rfl hq1) ?_
  refine rt_p rfl w0 rfl (pu_move (r := .d _) rfl) ?_
  refine rt_p rfl w0 rfl (pu_move (r := .d _) rfl) ?_
  obtain ⟨hq2, h0⟩ := chk_e h0
  refine rt_p rfl w0 rfl (pu_remw rfl rfl hq2) ?_
  refine rt_p rfl w0 rfl (pu_move (r := .d _) rfl) ?_
  refine rt_p rfl w0 rfl (pu_build (C0 := [.d (.v (.int .i64 0)), .d (.v (.int .i64 0)), .d (.v (.int .i64 0))]) tok rfl rfl (by repeat (first | exact Plc.nil | apply Plc.cons rfl)) rfl (by repeat (first | exact Bld.nil _ | apply Bld.cons (cs := [.d _]) rfl rfl rfl rfl (by repeat (first | exact Spl.z _ | apply Spl.t | apply Spl.d)) | apply Bld.cons (cs := [.own _ _ _]) rfl rfl rfl rfl (by repeat (first | exact Spl.z _ | apply Spl.t | apply Spl.d)) | apply Bld.cons (cs := [.ptr _ _ _ _ _]) rfl rfl rfl rfl (by repeat (first | exact Spl.z _ | apply Spl.t | apply Spl.d)) | apply Bld.cons (cs := [.fn _ _]) rfl rfl rfl rfl (by repeat (first | exact Spl.z _ | apply Spl.t | apply Spl.d)) | apply Bld.cons (cs := _ :: _) rfl rfl rfl rfl (by repeat (first | exact Spl.z _ | apply Spl.t | apply Spl.d))))) ?_
  refine rt_wk rfl w0 (bx_st (cs := _ :: _) tok rfl rfl rfl rfl rfl rfl rfl) ?_
  refine rt_nil ?_
  refine ⟨by kernel_rfl, ?_⟩
  refine then_n ?_
  refine aw_ret ?_
  cases h0
  exact ret0_ (rs := [.cell 4 34]) rfl

theorem i_exactIndex_c {p0 : Divider_} {p1 : Int} {r : Index_ × Bool} (h0 : i_exactIndex_m p0 p1 = some r) : FnC Try.prog 74 [] [.agg [.d (.v (.int .i64 p0.Worm)), .d (.sl (List.map cI p0.Circles))], .d (.v (.int .i64 p1))] [] (.tup [.agg [.d (.v (.int .i64 r.1.Turns)), .d (.v (.int .i64 r.1.Holes)), .d (.v (.int .i64 r.1.Circle))], .d (.v (.bool r.2))]) := by
  refine fnc_intro (T := tt) (N := 32) tok Try.func74 rfl rfl (by kernel_rfl) rfl rfl ?_
  unfold i_exactIndex_m at h0
  refine aw_seq ?_
  refine aw_regionA (is := [0, 1, 2]) rfl ?_
  refine rs rfl w0 rfl (st_box 3 (cs := _ :: _) rfl rfl rfl) ?_
  refine rs rfl w0 rfl (st_alloc 4 (cs := [.d (.v (.int .i64 0)), .d (.v (.int .i64 0)), .d (.v (.int .i64 0))]) tok rfl rfl rfl) ?_
  refine rp rfl w0 rfl (pu_assign (r := .d _) rfl) ?_
  refine ra_nil ?_
  refine then_n ?_
  obtain ⟨v11x, h1, h0⟩ := bnd h0
  refine aw_cutE v11x (fun v11 => ⟨updA ((fun _ => .dead)) 4 (.ptr 3 0 1 0 0), lks [.no, .no, .no, .live [⟨34, 3, .av [[.d (.v (.int .i64 0)), .d (.v (.int .i64 0)), .d (.v (.int .i64 0))]]⟩]]⟩) ?_ ?_
  · skip
    refine aw_seq ?_
    refine aw_regionA (is := [0, 1, 2, 3]) rfl ?_
    refine rl rfl w0 rfl (bx_fa tok rfl rfl rfl rfl rfl rfl rfl) ?_
    refine rl rfl w0 rfl (bx_ld1 tok rfl rfl rfl rfl rfl) ?_
    refine rp rfl w0 rfl (pu_len_map tok rfl rfl rfl) ?_
    refine rp rfl w0 rfl (pu_move (r := .d _) rfl) ?_
    refine ra_nil ?_
    refine then_n ?_
    refine aw_block ?_
    refine aw_loopM (fun s6 => ⟨updA (updA (updA (updA (updA (updA ((fun _ => .dead)) 1 (.d (.v (.int .i64 p1)))) 2 (.ptr 3 0 1 0 0)) 4 (.ptr 4 0 1 0 0)) 9 (.d (.sl (List.map cI p0.Circles)))) 10 (.d (.v (.int .i64 (p0.Circles.length : Int))))) 11 (.d (.v (.int .i64 s6))), lks [.no, .no, .no, .live [⟨32, 2, .av [[.d (.v (.int .i64 p0.Worm)), .d (.sl (List.map cI p0.Circles))]]⟩], .live [⟨34, 3, .av [[.d (.v (.int .i64 0)), .d (.v (.int .i64 0)), .d (.v (.int .i64 0))]]⟩]]⟩) h1 ?_ (fun s6 y h2 => ?_)
    · skip
      exact wk [0, 1, 2, 3, 4]
    · skip
      refine aw_seq ?_
      refine aw_regionA (is := [0]) rfl ?_
      refine rp rfl w0 rfl (pu_lss rfl rfl) ?_
      refine ra_nil ?_
      refine then_n ?_
      refine aw_seq ?_
      refine aw_if h2 rfl (fun hc h2 => ?_) (fun hc h2 => ?_)
      · skip
        refine aw_skip ?_
        refine then_n ?_
        refine aw_seq ?_
        refine aw_block ?_
        refine aw_seq ?_
        refine aw_regionA (is := [0, 1, 2]) rfl ?_
        obtain ⟨v7, hv7, h2⟩ := bnd h2
        refine rp rfl w0 rfl (sl_ix tok hv7 rfl rfl rfl rfl rfl rfl) ?_
        refine rp rfl w0 rfl (pu_load_ref1 tok rfl rfl rfl rfl) ?_
        refine rp rfl w0 rfl (pu_assign (r := .d _) rfl) ?_
        refine ra_nil ?_
        refine then_n ?_
        refine aw_seq ?_
        refine aw_regionA (is := [0, 1, 2, 3, 4, 5, 6]) rfl ?_
        refine rl rfl w0 rfl (bx_fa tok rfl rfl rfl rfl rfl rfl rfl) ?_
        refine rl rfl w0 rfl (bx_ld1 tok rfl rfl rfl rfl rfl) ?_
        refine rp rfl w0 rfl (pu_move (r := .d _) rfl) ?_
        refine rp rfl w0 rfl (pw_mul rfl rfl) ?_
        refine rp rfl w0 rfl (pu_move (r := .d _) rfl) ?_
        obtain ⟨hq8, h2⟩ := chk_e h2
        refine rp rfl w0 rfl (pu_remw rfl rfl hq8) ?_
        refine rp rfl w0 rfl (pu_eql rfl rfl) ?_
        refine ra_nil ?_
        refine then_n ?_
        refine aw_if h2 rfl (fun hc h2 => ?_) (fun hc h2 => ?_)
        · skip
          refine aw_seq ?_
          refine aw_regionA (is := [0, 1, 2, 3, 4, 5, 6, 7, 8, 9]) rfl ?_
          refine rl rfl w0 rfl (bx_fa tok rfl rfl rfl rfl rfl rfl rfl) ?_
          refine rl rfl w0 rfl (bx_ld1 tok rfl rfl rfl rfl rfl) ?_
          refine rp rfl w0 rfl (pu_move (r := .d _) rfl) ?_
          refine rp rfl w0 rfl (pw_mul rfl rfl) ?_
          refine rp rfl w0 rfl (pu_move (r := .d _) rfl) ?_
          obtain ⟨hq9, h2⟩ := chk_e h2
          refine rp rfl w0 rfl (pw_quo rfl rfl hq9) ?_
          refine rp rfl w0 rfl (pu_move (r := .d _) rfl) ?_
          obtain ⟨v10, hv10, h2⟩ := bnd h2
          refine rs rfl w0 rfl (c_call 5 (i_motionOf_c hv10) rfl rfl rfl) ?_
          refine rw0 rfl w0 (bx_st (cs := _ :: _) tok rfl rfl rfl rfl rfl rfl rfl) ?_
          refine rp rfl w0 rfl (pu_assign (r := .d _) rfl) ?_
          refine ra_nil ?_
          refine then_n ?_
          refine aw_ret ?_
          refine block_r ?_
          refine then_r ?_
          cases h2
          refine loop_r ⟨_, rfl, fun e => ?_⟩
          subst e
          refine block_r ?_
          replace h0 := orE_s h0
          refine then_r ?_
          cases h0
          exact ret0_ (rs := [.cell 4 34, .tmp 5]) rfl
        · skip
          refine aw_skip ?_
          refine block_n ?_
          refine then_n ?_
          refine aw_regionA (is := [0, 1]) rfl ?_
          refine rp rfl w0 rfl (pw_add rfl rfl) ?_
          refine rp rfl w0 rfl (pu_move (r := .d _) rfl) ?_
          refine ra_nil ?_
          refine loop_n ?_
          cases h2
          refine ⟨_, rfl, ?_⟩
          exact wk [0, 1, 2, 3, 4]
      · skip
        refine aw_exit ?_
        refine then_e ?_
        cases h2
        refine loop_x ⟨_, rfl, fun e => ?_⟩
        subst e
        refine block_hit ?_
        refine then_n ?_
        refine ⟨_, rfl, ?_⟩
        exact wk [0, 1, 2, 4]
  · skip
    rintro v11 rfl
    replace h0 := orE_f h0
    refine aw_seq ?_
    refine aw_regionA (is := [0, 1, 2]) rfl ?_
    refine rp rfl w0 rfl (pu_build (C0 := [.d (.v (.int .i64 0)), .d (.v (.int .i64 0)), .d (.v (.int .i64 0))]) tok rfl rfl (by repeat (first | exact Plc.nil | apply Plc.cons rfl)) rfl (by repeat (first | exact Bld.nil _ | apply Bld.cons (cs := [.d _]) rfl rfl rfl rfl (by repeat (first | exact Spl.z _ | apply Spl.t | apply Spl.d)) | apply Bld.cons (cs := [.own _ _ _]) rfl rfl rfl rfl (by repeat (first | exact Spl.z _ | apply Spl.t | apply Spl.d)) | apply Bld.cons (cs := [.ptr _ _ _ _ _]) rfl rfl rfl rfl (by repeat (first | exact Spl.z _ | apply Spl.t | apply Spl.d)) | apply Bld.cons (cs := [.fn _ _]) rfl rfl rfl rfl (by repeat (first | exact Spl.z _ | apply Spl.t | apply Spl.d)) | apply Bld.cons (cs := _ :: _) rfl rfl rfl rfl (by repeat (first | exact Spl.z _ | apply Spl.t | apply Spl.d))))) ?_
    refine rw0 rfl w0 (bx_st (cs := _ :: _) tok rfl rfl rfl rfl rfl rfl rfl) ?_
    refine rp rfl w0 rfl (pu_assign (r := .d _) rfl) ?_
    refine ra_nil ?_
    refine then_n ?_
    refine aw_ret ?_
    cases h0
    exact ret0_ (rs := [.cell 4 34, .tmp 5]) rfl

theorem i_ExactDivisions_c {p0 : Divider_} {p1 : Int} {r : List Int × Int} (h0 : i_ExactDivisions_m p0 p1 = some r) : FnC Try.prog 24 [] [.agg [.d (.v (.int .i64 p0.Worm)), .d (.sl (List.map cI p0.Circles))], .d (.v (.int .i64 p1))] [.live [⟨2, 1, .data (List.map cI r.1)⟩]] (.tup [.own 0 0 r.1.length, .d (.v (.int .i64 r.2))]) := by
  refine fnc_intro (T := tt) (N := 33) tok Try.func24 rfl rfl (by kernel_rfl) rfl rfl ?_
  unfold i_ExactDivisions_m at h0
  refine aw_seq ?_
  refine aw_regionA (is := [0, 1, 2]) rfl ?_
  refine rs rfl w0 rfl (st_box 3 (cs := _ :: _) rfl rfl rfl) ?_
  refine rp rfl w0 rfl (pu_assign (r := .d _) rfl) ?_
  refine rp rfl w0 rfl (pu_assign (r := .d _) rfl) ?_
  refine ra_nil ?_
  refine then_n ?_
  refine aw_seq ?_
  refine aw_seq ?_
  refine aw_regionA (is := [0, 1, 2]) rfl ?_
  refine rl rfl w0 rfl (bx_ldN tok rfl rfl rfl rfl) ?_
  obtain ⟨v1, hv1, h0⟩ := bnd h0
  refine rs rfl w0 rfl (c_call 4 (i_ValidDivider_c hv1) rfl rfl rfl) ?_
  refine rp rfl w0 rfl (pu_not rfl) ?_
  refine ra_nil ?_
  refine then_n ?_
  refine aw_ifB h0 rfl (fun hc h0 => ?_) (fun hc h0 => ?_)
  · skip
    refine aw_seq ?_
    refine aw_regionA (is := [0, 1]) rfl ?_
    refine rp rfl w0 rfl (pu_assign (r := .d _) rfl) ?_
    refine rp rfl w0 rfl (pu_assign (r := .d _) rfl) ?_
    refine ra_nil ?_
    refine then_n ?_
    refine aw_weak (weak_adopt_t 4 rfl 2 1 (d := 4) rfl) ?_
    refine aw_ret ?_
    refine then_r ?_
    cases h0
    exact retK_ (rs := [.tmp 4, .tmp 5]) [4] rfl
  · skip
    refine aw_skip ?_
    refine then_n ?_
    refine aw_seq ?_
    refine aw_seq ?_
    refine aw_regionA (is := [0, 1, 2]) rfl ?_
    refine rp rfl w0 rfl (pu_move (r := .d _) rfl) ?_
    obtain ⟨v2, hv2, h0⟩ := bnd h0
    refine rs rfl w0 rfl (c_call 4 (i_isDivision_c hv2) rfl rfl rfl) ?_
    refine rp rfl w0 rfl (pu_not rfl) ?_
    refine ra_nil ?_
    refine then_n ?_
    refine aw_ifB h0 rfl (fun hc h0 => ?_) (fun hc h0 => ?_)
    · skip
      refine aw_seq ?_
      refine aw_regionA (is := [0, 1]) rfl ?_
      refine rp rfl w0 rfl (pu_assign (r := .d _) rfl) ?_
      refine rp rfl w0 rfl (pu_assign (r := .d _) rfl) ?_
      refine ra_nil ?_
      refine then_n ?_
      refine aw_weak (weak_adopt_t 4 rfl 2 1 (d := 4) rfl) ?_
      refine aw_ret ?_
      refine then_r ?_
      cases h0
      exact retK_ (rs := [.tmp 4, .tmp 5]) [4] rfl
    · skip
      refine aw_skip ?_
      refine then_n ?_
      refine aw_seq ?_
      refine aw_regionA (is := [0]) rfl ?_
      refine rp rfl w0 rfl (pu_assign (r := .d _) rfl) ?_
      refine ra_nil ?_
      refine then_n ?_
      obtain ⟨v11, h1, h0⟩ := bnd h0
      refine aw_cut ⟨updA ((fun _ => .dead)) 6 (.own 3 0 (v11).length), lks [.no, .no, .no, .live [⟨2, 1, .data (List.map cI v11)⟩]]⟩ ?_ ?_
      · skip
        refine aw_seq ?_
        refine aw_regionA (is := [0]) rfl ?_
        refine rp rfl w0 rfl (pu_assign (r := .d _) rfl) ?_
        refine ra_nil ?_
        refine then_n ?_
        refine aw_block ?_
        refine aw_loopM (fun s7 => ⟨updA (updA (updA (updA ((fun _ => .dead)) 1 (.d (.v (.int .i64 p1)))) 2 (.ptr 3 0 1 0 0)) 6 (.own 4 0 (s7.2).length)) 7 (.d (.v (.int .i64 s7.1))), lks [.no, .no, .no, .live [⟨32, 2, .av [[.d (.v (.int .i64 p0.Worm)), .d (.sl (List.map cI p0.Circles))]]⟩], .live [⟨2, 1, .data (List.map cI s7.2)⟩]]⟩) h1 ?_ (fun s7 y h2 => ?_)
        · skip
          refine Weak.trans_ (weak_adopt_t 4 rfl 2 1 (d := 6) rfl) ?_
          exact wk [0, 1, 2, 3, 4]
        · skip
          refine aw_seq ?_
          refine aw_seq ?_
          refine aw_regionA (is := [0, 1, 2]) rfl ?_
          refine rp rfl w0 rfl (pu_move (r := .d _) rfl) ?_
          refine rp rfl w0 rfl (pu_move (r := .d _) rfl) ?_
          refine rp rfl w0 rfl (pu_leq rfl rfl) ?_
          refine ra_nil ?_
          refine then_n ?_
          refine aw_if h2 rfl (fun hc h2 => ?_) (fun hc h2 => ?_)
          · skip
            refine aw_skip ?_
            refine then_n ?_
            obtain ⟨v10, h3, h2⟩ := bnd h2
            refine aw_cut ⟨updA (updA (updA (updA ((fun _ => .dead)) 1 (.d (.v (.int .i64 p1)))) 2 (.ptr 3 0 1 0 0)) 6 (.own 4 0 (v10).length)) 7 (.d (.v (.int .i64 s7.1))), lks [.no, .no, .no, .live [⟨32, 2, .av [[.d (.v (.int .i64 p0.Worm)), .d (.sl (List.map cI p0.Circles))]]⟩], .live [⟨2, 1, .data (List.map cI v10)⟩]]⟩ ?_ ?_
            · skip
              refine aw_block ?_
              refine aw_seq ?_
              refine aw_regionA (is := [0, 1, 2, 3, 4, 5, 6, 7, 8]) rfl ?_
              refine rl rfl w0 rfl (bx_ldN tok rfl rfl rfl rfl) ?_
              refine rp rfl w0 rfl (pu_move (r := .d _) rfl) ?_
              obtain ⟨v8, hv8, h3⟩ := bnd h3
              refine rs rfl w0 rfl (c_call 5 (i_exactIndex_c hv8) rfl rfl rfl) ?_
              refine rp rfl w0 rfl (pu_move (r := .tup _) rfl) ?_
              refine rp rfl w0 rfl (pu_extract rfl rfl) ?_
              refine rp rfl w0 rfl (pu_extract rfl rfl) ?_
              refine rs rfl w0 rfl (st_alloc 5 (cs := [.d (.v (.int .i64 0)), .d (.v (.int .i64 0)), .d (.v (.int .i64 0))]) tok rfl rfl rfl) ?_
              refine rw0 rfl w0 (bx_st (cs := _ :: _) tok rfl rfl rfl rfl rfl rfl rfl) ?_
              refine rp rfl w0 rfl (pu_assign (r := .d _) rfl) ?_
              refine ra_nil ?_
              refine then_n ?_
              refine aw_seq ?_
              refine aw_regionA (is := [0]) rfl ?_
              refine rp rfl w0 rfl (pu_move (r := .d _) rfl) ?_
              refine ra_nil ?_
              refine then_n ?_
              refine aw_ifB h3 rfl (fun hc h3 => ?_) (fun hc h3 => ?_)
              · skip
                refine aw_regionA (is := [0, 1, 2, 3, 4]) rfl ?_
                refine rp rfl w0 rfl (pu_move (r := .own _ _ _) rfl) ?_
                refine rp rfl w0 rfl (pu_move (r := .d _) rfl) ?_
                refine rs rfl w0 rfl (bs_val tok cI [s7.1] rfl rfl rfl (by repeat (first | exact Els.nil _ | apply Els.cons (cs := [.d _]) rfl rfl rfl | apply Els.cons (cs := _ :: _) rfl rfl rfl)) rfl rfl rfl (by repeat (first | exact AllDD.nil | (apply AllDD.cons; (repeat (first | exact AllD.nil | apply AllD.cons))))) rfl) ?_
                obtain ⟨hq9, h3⟩ := chk_e h3
                refine rw1 rfl w0 rfl (ap_own tok hq9 rfl rfl rfl rfl rfl rfl rfl rfl rfl rfl rfl rfl (fun _ => rfl)) ?_
                refine rp rfl w0 rfl (pu_assign (r := .own _ _ _) rfl) ?_
                refine ra_nil ?_
                refine block_n ?_
                refine then_n ?_
                cases h3
                exact wk [0, 1, 2, 3, 4]
              · skip
                refine aw_skip ?_
                refine block_n ?_
                refine then_n ?_
                cases h3
                exact wk [0, 1, 2, 3, 4]
            · skip
              refine aw_regionA (is := [0, 1, 2]) rfl ?_
              refine rp rfl w0 rfl (pu_move (r := .d _) rfl) ?_
              refine rp rfl w0 rfl (pw_add rfl rfl) ?_
              refine rp rfl w0 rfl (pu_assign (r := .d _) rfl) ?_
              refine ra_nil ?_
              refine loop_n ?_
              cases h2
              refine ⟨_, rfl, ?_⟩
              exact wk [0, 1, 2, 3, 4]
          · skip
            refine aw_exit ?_
            refine then_e ?_
            cases h2
            refine loop_x ⟨_, rfl, fun e => ?_⟩
            subst e
            refine block_hit ?_
            refine then_n ?_
            exact wk [0, 1, 2, 4]
      · skip
        refine aw_seq ?_
        refine aw_regionA (is := [0, 1, 2]) rfl ?_
        refine rp rfl w0 rfl (pu_move (r := .own _ _ _) rfl) ?_
        refine rp rfl w0 rfl (pu_assign (r := .own _ _ _) rfl) ?_
        refine rp rfl w0 rfl (pu_assign (r := .d _) rfl) ?_
        refine ra_nil ?_
        refine then_n ?_
        refine aw_ret ?_
        cases h0
        exact retK_ (rs := [.tmp 4, .tmp 5]) [3] rfl

theorem s_l24Make_c {p0 : Int} {p1 : Int} {r : Index_} (h0 : s_l24Make_m p0 p1 = some r) : FnC Try.prog 116 [] [.d (.v (.int .i64 p0)), .d (.v (.int .i64 p1))] [] (.agg [.d (.v (.int .i64 r.Turns)), .d (.v (.int .i64 r.Holes)), .d (.v (.int .i64 r.Circle))]) := by
  refine fnc_intro (T := tt) (N := 13) tok Try.func116 rfl rfl (by kernel_rfl) rfl rfl ?_
  unfold s_l24Make_m at h0
  refine aw_seq ?_
  refine aw_regionA (is := [0]) rfl ?_
  refine rs rfl w0 rfl (st_alloc 3 (cs := [.d (.v (.int .i64 0)), .d (.v (.int .i64 0)), .d (.v (.int .i64 0))]) tok rfl rfl rfl) ?_
  refine ra_nil ?_
  refine then_n ?_
  refine aw_seq ?_
  refine aw_region_draw (is := [0, 1, 2, 3, 4, 5, 6, 7, 8]) [0, 0, 3, 0, 0, 24, 0, 127, 255] follows (by kernel_rfl) ?_
  refine rt_p rfl w0 rfl (pu_move (r := .d _) rfl) ?_
  refine rt_p rfl w0 rfl (pu_move (r := .d _) rfl) ?_
  obtain ⟨hq1, h0⟩ := chk_e h0
  refine rt_p rfl w0 rfl (pw_quo rfl rfl hq1) ?_
  refine rt_p rfl w0 rfl (pu_move (r := .d _) rfl) ?_
  refine rt_p rfl w0 rfl (pu_move (r := .d _) rfl) ?_
  obtain ⟨hq2, h0⟩ := chk_e h0
  refine rt_p rfl w0 rfl (pu_remw rfl rfl hq2) ?_
  refine rt_p rfl w0 rfl (pu_move (r := .d _) rfl) ?_
  refine rt_p rfl w0 rfl (pu_build (C0 := [.d (.v (.int .i64 0)), .d (.v (.int .i64 0)), .d (.v (.int .i64 0))]) tok rfl rfl (by repeat (first | exact Plc.nil | apply Plc.cons rfl)) rfl (by repeat (first | exact Bld.nil _ | apply Bld.cons (cs := [.d _]) rfl rfl rfl rfl (by repeat (first | exact Spl.z _ | apply Spl.t | apply Spl.d)) | apply Bld.cons (cs := [.own _ _ _]) rfl rfl rfl rfl (by repeat (first | exact Spl.z _ | apply Spl.t | apply Spl.d)) | apply Bld.cons (cs := [.ptr _ _ _ _ _]) rfl rfl rfl rfl (by repeat (first | exact Spl.z _ | apply Spl.t | apply Spl.d)) | apply Bld.cons (cs := [.fn _ _]) rfl rfl rfl rfl (by repeat (first | exact Spl.z _ | apply Spl.t | apply Spl.d)) | apply Bld.cons (cs := _ :: _) rfl rfl rfl rfl (by repeat (first | exact Spl.z _ | apply Spl.t | apply Spl.d))))) ?_
  refine rt_wk rfl w0 (bx_st (cs := _ :: _) tok rfl rfl rfl rfl rfl rfl rfl) ?_
  refine rt_nil ?_
  refine ⟨by kernel_rfl, ?_⟩
  refine then_n ?_
  refine aw_ret ?_
  cases h0
  exact ret0_ (rs := [.cell 4 34]) rfl

theorem s_l24Exact_c {p0 : Divider_} {p1 : Int} {r : Index_ × Bool} (h0 : s_l24Exact_m p0 p1 = some r) : FnC Try.prog 75 [] [.agg [.d (.v (.int .i64 p0.Worm)), .d (.sl (List.map cI p0.Circles))], .d (.v (.int .i64 p1))] [] (.tup [.agg [.d (.v (.int .i64 r.1.Turns)), .d (.v (.int .i64 r.1.Holes)), .d (.v (.int .i64 r.1.Circle))], .d (.v (.bool r.2))]) := by
  refine fnc_intro (T := tt) (N := 42) tok Try.func75 rfl rfl (by kernel_rfl) rfl rfl ?_
  unfold s_l24Exact_m at h0
  refine aw_seq ?_
  refine aw_regionA (is := [0, 1, 2]) rfl ?_
  refine rs rfl w0 rfl (st_box 3 (cs := _ :: _) rfl rfl rfl) ?_
  refine rs rfl w0 rfl (st_alloc 4 (cs := [.d (.v (.int .i64 0)), .d (.v (.int .i64 0)), .d (.v (.int .i64 0))]) tok rfl rfl rfl) ?_
  refine rp rfl w0 rfl (pu_assign (r := .d _) rfl) ?_
  refine ra_nil ?_
  refine then_n ?_
  obtain ⟨v15x, h1, h0⟩ := bnd h0
  refine aw_cutE v15x (fun v15 => ⟨updA ((fun _ => .dead)) 4 (.ptr 3 0 1 0 0), lks [.no, .no, .no, .live [⟨34, 3, .av [[.d (.v (.int .i64 0)), .d (.v (.int .i64 0)), .d (.v (.int .i64 0))]]⟩]]⟩) ?_ ?_
  · skip
    refine aw_seq ?_
    refine aw_regionA (is := [0]) rfl ?_
    refine rp rfl w0 rfl (pu_assign (r := .d _) rfl) ?_
    refine ra_nil ?_
    refine then_n ?_
    refine aw_block ?_
    refine aw_loopM (fun s8 => ⟨updA (updA (updA (updA ((fun _ => .dead)) 1 (.d (.v (.int .i64 p1)))) 2 (.ptr 3 0 1 0 0)) 4 (.ptr 4 0 1 0 0)) 6 (.d (.v (.int .i64 s8))), lks [.no, .no, .no, .live [⟨32, 2, .av [[.d (.v (.int .i64 p0.Worm)), .d (.sl (List.map cI p0.Circles))]]⟩], .live [⟨34, 3, .av [[.d (.v (.int .i64 0)), .d (.v (.int .i64 0)), .d (.v (.int .i64 0))]]⟩]]⟩) h1 ?_ (fun s8 y h2 => ?_)
    · skip
      exact wk [0, 1, 2, 3, 4]
    · skip
      refine aw_seq ?_
      refine aw_seq ?_
      refine aw_regionA (is := [0, 1, 2, 3, 4]) rfl ?_
      refine rp rfl w0 rfl (pu_move (r := .d _) rfl) ?_
      refine rl rfl w0 rfl (bx_fa tok rfl rfl rfl rfl rfl rfl rfl) ?_
      refine rl rfl w0 rfl (bx_ld1 tok rfl rfl rfl rfl rfl) ?_
      refine rp rfl w0 rfl (pu_len_map tok rfl rfl rfl) ?_
      refine rp rfl w0 rfl (pu_lss rfl rfl) ?_
      refine ra_nil ?_
      refine then_n ?_
      refine aw_if h2 rfl (fun hc h2 => ?_) (fun hc h2 => ?_)
      · skip
        refine aw_skip ?_
        refine then_n ?_
        refine aw_seq ?_
        refine aw_block ?_
        refine aw_seq ?_
        refine aw_region_draw (is := [0, 1, 2, 3, 4, 5, 6, 7, 8, 9, 10]) [0, 1, 0, 4, 0, 28, 60, 127, 0, 511, 1023] follows (by kernel_rfl) ?_
        refine rt_lk rfl w0 rfl (bx_fa tok rfl rfl rfl rfl rfl rfl rfl) rfl rfl rfl ?_
        refine rt_lk rfl w0 rfl (bx_ld1 tok rfl rfl rfl rfl rfl) rfl rfl rfl ?_
        refine rt_lk rfl w0 rfl (bx_fa tok rfl rfl rfl rfl rfl rfl rfl) rfl rfl rfl ?_
        refine rt_lk rfl w0 rfl (bx_ld1 tok rfl rfl rfl rfl rfl) rfl rfl rfl ?_
        refine rt_p rfl w0 rfl (pu_move (r := .d _) rfl) ?_
        obtain ⟨v9, hv9, h2⟩ := bnd h2
        refine rt_p rfl w0 rfl (sl_ix tok hv9 rfl rfl rfl rfl rfl rfl) ?_
        refine rt_p rfl w0 rfl (pu_load_ref1 tok rfl rfl rfl rfl) ?_
        refine rt_p rfl w0 rfl (pw_mul rfl rfl) ?_
        refine rt_p rfl w0 rfl (pu_move (r := .d _) rfl) ?_
        obtain ⟨hq10, h2⟩ := chk_e h2
        refine rt_p rfl w0 rfl (pu_remw rfl rfl hq10) ?_
        refine rt_p rfl w0 rfl (pu_eql rfl rfl) ?_
        refine rt_nil ?_
        refine ⟨by kernel_rfl, ?_⟩
        refine then_n ?_
        refine aw_if h2 rfl (fun hc h2 => ?_) (fun hc h2 => ?_)
        · skip
          refine aw_seq ?_
          refine aw_region_draw (is := [0, 1, 2, 3, 4, 5, 6, 7, 8, 9, 10, 11, 12, 13, 14, 15, 16, 17]) [0, 1, 0, 4, 0, 28, 60, 127, 0, 511, 0, 1024, 0, 7168, 15360, 32767, 65535, 131071] follows (by kernel_rfl) ?_
          refine rt_lk rfl w0 rfl (bx_fa tok rfl rfl rfl rfl rfl rfl rfl) rfl rfl rfl ?_
          refine rt_lk rfl w0 rfl (bx_ld1 tok rfl rfl rfl rfl rfl) rfl rfl rfl ?_
          refine rt_lk rfl w0 rfl (bx_fa tok rfl rfl rfl rfl rfl rfl rfl) rfl rfl rfl ?_
          refine rt_lk rfl w0 rfl (bx_ld1 tok rfl rfl rfl rfl rfl) rfl rfl rfl ?_
          refine rt_p rfl w0 rfl (pu_move (r := .d _) rfl) ?_
          obtain ⟨v11, hv11, h2⟩ := bnd h2
          refine rt_p rfl w0 rfl (sl_ix tok hv11 rfl rfl rfl rfl rfl rfl) ?_
          refine rt_p rfl w0 rfl (pu_load_ref1 tok rfl rfl rfl rfl) ?_
          refine rt_p rfl w0 rfl (pw_mul rfl rfl) ?_
          refine rt_p rfl w0 rfl (pu_move (r := .d _) rfl) ?_
          obtain ⟨hq12, h2⟩ := chk_e h2
          refine rt_p rfl w0 rfl (pw_quo rfl rfl hq12) ?_
          refine rt_lk rfl w0 rfl (bx_fa tok rfl rfl rfl rfl rfl rfl rfl) rfl rfl rfl ?_
          refine rt_lk rfl w0 rfl (bx_ld1 tok rfl rfl rfl rfl rfl) rfl rfl rfl ?_
          refine rt_p rfl w0 rfl (pu_move (r := .d _) rfl) ?_
          obtain ⟨v13, hv13, h2⟩ := bnd h2
          refine rt_p rfl w0 rfl (sl_ix tok hv13 rfl rfl rfl rfl rfl rfl) ?_
          refine rt_p rfl w0 rfl (pu_load_ref1 tok rfl rfl rfl rfl) ?_
          obtain ⟨v14, hv14, h2⟩ := bnd h2
          refine rt_c rfl w0 rfl (b_call 5 (s_l24Make_c hv14) rfl rfl rfl) ?_
          refine rt_wk rfl w0 (bx_st (cs := _ :: _) tok rfl rfl rfl rfl rfl rfl rfl) ?_
          refine rt_p rfl w0 rfl (pu_assign (r := .d _) rfl) ?_
          refine rt_nil ?_
          refine ⟨by kernel_rfl, ?_⟩
          refine then_n ?_
          refine aw_ret ?_
          refine block_r ?_
          refine then_r ?_
          cases h2
          refine loop_r ⟨_, rfl, fun e => ?_⟩
          subst e
          refine block_r ?_
          replace h0 := orE_s h0
          refine then_r ?_
          cases h0
          exact ret0_ (rs := [.cell 4 34, .tmp 5]) rfl
        · skip
          refine aw_skip ?_
          refine block_n ?_
          refine then_n ?_
          refine aw_regionA (is := [0, 1, 2]) rfl ?_
          refine rp rfl w0 rfl (pu_move (r := .d _) rfl) ?_
          refine rp rfl w0 rfl (pw_add rfl rfl) ?_
          refine rp rfl w0 rfl (pu_assign (r := .d _) rfl) ?_
          refine ra_nil ?_
          refine loop_n ?_
          cases h2
          refine ⟨_, rfl, ?_⟩
          exact wk [0, 1, 2, 3, 4]
      · skip
        refine aw_exit ?_
        refine then_e ?_
        cases h2
        refine loop_x ⟨_, rfl, fun e => ?_⟩
        subst e
        refine block_hit ?_
        refine then_n ?_
        refine ⟨_, rfl, ?_⟩
        exact wk [0, 1, 2, 4]
  · skip
    rintro v15 rfl
    replace h0 := orE_f h0
    refine aw_seq ?_
    refine aw_regionA (is := [0, 1, 2]) rfl ?_
    refine rp rfl w0 rfl (pu_build (C0 := [.d (.v (.int .i64 0)), .d (.v (.int .i64 0)), .d (.v (.int .i64 0))]) tok rfl rfl (by repeat (first | exact Plc.nil | apply Plc.cons rfl)) rfl (by repeat (first | exact Bld.nil _ | apply Bld.cons (cs := [.d _]) rfl rfl rfl rfl (by repeat (first | exact Spl.z _ | apply Spl.t | apply Spl.d)) | apply Bld.cons (cs := [.own _ _ _]) rfl rfl rfl rfl (by repeat (first | exact Spl.z _ | apply Spl.t | apply Spl.d)) | apply Bld.cons (cs := [.ptr _ _ _ _ _]) rfl rfl rfl rfl (by repeat (first | exact Spl.z _ | apply Spl.t | apply Spl.d)) | apply Bld.cons (cs := [.fn _ _]) rfl rfl rfl rfl (by repeat (first | exact Spl.z _ | apply Spl.t | apply Spl.d)) | apply Bld.cons (cs := _ :: _) rfl rfl rfl rfl (by repeat (first | exact Spl.z _ | apply Spl.t | apply Spl.d))))) ?_
    refine rw0 rfl w0 (bx_st (cs := _ :: _) tok rfl rfl rfl rfl rfl rfl rfl) ?_
    refine rp rfl w0 rfl (pu_assign (r := .d _) rfl) ?_
    refine ra_nil ?_
    refine then_n ?_
    refine aw_ret ?_
    cases h0
    exact ret0_ (rs := [.cell 4 34, .tmp 5]) rfl

theorem s_ExactDivisions_c {p0 : Divider_} {p1 : Int} {r : List Int × Int} (h0 : s_ExactDivisions_m p0 p1 = some r) : FnC Try.prog 25 [] [.agg [.d (.v (.int .i64 p0.Worm)), .d (.sl (List.map cI p0.Circles))], .d (.v (.int .i64 p1))] [.live [⟨2, 1, .data (List.map cI r.1)⟩]] (.tup [.own 0 0 r.1.length, .d (.v (.int .i64 r.2))]) := by
  refine fnc_intro (T := tt) (N := 35) tok Try.func25 rfl rfl (by kernel_rfl) rfl rfl ?_
  unfold s_ExactDivisions_m at h0
  refine aw_seq ?_
  refine aw_regionA (is := [0, 1, 2]) rfl ?_
  refine rs rfl w0 rfl (st_box 3 (cs := _ :: _) rfl rfl rfl) ?_
  refine rp rfl w0 rfl (pu_assign (r := .d _) rfl) ?_
  refine rp rfl w0 rfl (pu_assign (r := .d _) rfl) ?_
  refine ra_nil ?_
  refine then_n ?_
  refine aw_seq ?_
  refine aw_regionA (is := [0, 1, 2, 3]) rfl ?_
  refine rl rfl w0 rfl (bx_ldN tok rfl rfl rfl rfl) ?_
  refine rp rfl w0 rfl (pu_move (r := .d _) rfl) ?_
  obtain ⟨v1, hv1, h0⟩ := bnd h0
  refine rs rfl w0 rfl (c_call 4 (s_l24Code_c hv1) rfl rfl rfl) ?_
  refine rp rfl w0 rfl (pu_assign (r := .d _) rfl) ?_
  refine ra_nil ?_
  refine then_n ?_
  refine aw_seq ?_
  refine aw_seq ?_
  refine aw_regionA (is := [0, 1]) rfl ?_
  refine rp rfl w0 rfl (pu_move (r := .d _) rfl) ?_
  refine rp rfl w0 rfl (pu_neq rfl rfl) ?_
  refine ra_nil ?_
  refine then_n ?_
  refine aw_if h0 rfl (fun hc h0 => ?_) (fun hc h0 => ?_)
  · skip
    refine aw_seq ?_
    refine aw_regionA (is := [0, 1, 2]) rfl ?_
    refine rp rfl w0 rfl (pu_move (r := .d _) rfl) ?_
    refine rp rfl w0 rfl (pu_assign (r := .d _) rfl) ?_
    refine rp rfl w0 rfl (pu_assign (r := .d _) rfl) ?_
    refine ra_nil ?_
    refine then_n ?_
    refine aw_weak (weak_adopt_t 4 rfl 2 1 (d := 4) rfl) ?_
    refine aw_ret ?_
    refine then_r ?_
    cases h0
    exact retK_ (rs := [.tmp 4, .tmp 5]) [4] rfl
  · skip
    refine aw_skip ?_
    refine then_n ?_
    refine aw_seq ?_
    refine aw_regionA (is := [0, 1]) rfl ?_
    refine rs rfl w0 rfl (st_slice0 4 tok rfl rfl rfl rfl) ?_
    refine rp rfl w0 rfl (pu_assign (r := .own _ _ _) rfl) ?_
    refine ra_nil ?_
    refine then_n ?_
    obtain ⟨v10, h1, h0⟩ := bnd h0
    refine aw_cut ⟨updA ((fun _ => .dead)) 7 (.own 3 0 (v10).length), lks [.no, .no, .no, .live [⟨2, 1, .data (List.map cI v10)⟩]]⟩ ?_ ?_
    · skip
      refine aw_seq ?_
      refine aw_regionA (is := [0]) rfl ?_
      refine rp rfl w0 rfl (pu_assign (r := .d _) rfl) ?_
      refine ra_nil ?_
      refine then_n ?_
      refine aw_block ?_
      refine aw_loopM (fun s6 => ⟨updA (updA (updA (updA ((fun _ => .dead)) 1 (.d (.v (.int .i64 p1)))) 2 (.ptr 3 0 1 0 0)) 7 (.own 4 0 (s6.2).length)) 8 (.d (.v (.int .i64 s6.1))), lks [.no, .no, .no, .live [⟨32, 2, .av [[.d (.v (.int .i64 p0.Worm)), .d (.sl (List.map cI p0.Circles))]]⟩], .live [⟨2, 1, .data (List.map cI s6.2)⟩]]⟩) h1 ?_ (fun s6 y h2 => ?_)
      · skip
        exact wk [0, 1, 2, 3, 4]
      · skip
        refine aw_seq ?_
        refine aw_seq ?_
        refine aw_regionA (is := [0, 1, 2]) rfl ?_
        refine rp rfl w0 rfl (pu_move (r := .d _) rfl) ?_
        refine rp rfl w0 rfl (pu_move (r := .d _) rfl) ?_
        refine rp rfl w0 rfl (pu_leq rfl rfl) ?_
        refine ra_nil ?_
        refine then_n ?_
        refine aw_if h2 rfl (fun hc h2 => ?_) (fun hc h2 => ?_)
        · skip
          refine aw_skip ?_
          refine then_n ?_
          obtain ⟨v9, h3, h2⟩ := bnd h2
          refine aw_cut ⟨updA (updA (updA (updA ((fun _ => .dead)) 1 (.d (.v (.int .i64 p1)))) 2 (.ptr 3 0 1 0 0)) 7 (.own 4 0 (v9).length)) 8 (.d (.v (.int .i64 s6.1))), lks [.no, .no, .no, .live [⟨32, 2, .av [[.d (.v (.int .i64 p0.Worm)), .d (.sl (List.map cI p0.Circles))]]⟩], .live [⟨2, 1, .data (List.map cI v9)⟩]]⟩ ?_ ?_
          · skip
            refine aw_block ?_
            refine aw_seq ?_
            refine aw_regionA (is := [0, 1, 2, 3, 4, 5, 6, 7, 8]) rfl ?_
            refine rl rfl w0 rfl (bx_ldN tok rfl rfl rfl rfl) ?_
            refine rp rfl w0 rfl (pu_move (r := .d _) rfl) ?_
            obtain ⟨v7, hv7, h3⟩ := bnd h3
            refine rs rfl w0 rfl (c_call 5 (s_l24Exact_c hv7) rfl rfl rfl) ?_
            refine rp rfl w0 rfl (pu_move (r := .tup _) rfl) ?_
            refine rp rfl w0 rfl (pu_extract rfl rfl) ?_
            refine rp rfl w0 rfl (pu_extract rfl rfl) ?_
            refine rs rfl w0 rfl (st_alloc 5 (cs := [.d (.v (.int .i64 0)), .d (.v (.int .i64 0)), .d (.v (.int .i64 0))]) tok rfl rfl rfl) ?_
            refine rw0 rfl w0 (bx_st (cs := _ :: _) tok rfl rfl rfl rfl rfl rfl rfl) ?_
            refine rp rfl w0 rfl (pu_assign (r := .d _) rfl) ?_
            refine ra_nil ?_
            refine then_n ?_
            refine aw_seq ?_
            refine aw_regionA (is := [0]) rfl ?_
            refine rp rfl w0 rfl (pu_move (r := .d _) rfl) ?_
            refine ra_nil ?_
            refine then_n ?_
            refine aw_ifB h3 rfl (fun hc h3 => ?_) (fun hc h3 => ?_)
            · skip
              refine aw_regionA (is := [0, 1, 2, 3, 4]) rfl ?_
              refine rp rfl w0 rfl (pu_move (r := .own _ _ _) rfl) ?_
              refine rp rfl w0 rfl (pu_move (r := .d _) rfl) ?_
              refine rs rfl w0 rfl (bs_val tok cI [s6.1] rfl rfl rfl (by repeat (first | exact Els.nil _ | apply Els.cons (cs := [.d _]) rfl rfl rfl | apply Els.cons (cs := _ :: _) rfl rfl rfl)) rfl rfl rfl (by repeat (first | exact AllDD.nil | (apply AllDD.cons; (repeat (first | exact AllD.nil | apply AllD.cons))))) rfl) ?_
              obtain ⟨hq8, h3⟩ := chk_e h3
              refine rw1 rfl w0 rfl (ap_own tok hq8 rfl rfl rfl rfl rfl rfl rfl rfl rfl rfl rfl rfl (fun _ => rfl)) ?_
              refine rp rfl w0 rfl (pu_assign (r := .own _ _ _) rfl) ?_
              refine ra_nil ?_
              refine block_n ?_
              refine then_n ?_
              cases h3
              exact wk [0, 1, 2, 3, 4]
            · skip
              refine aw_skip ?_
              refine block_n ?_
              refine then_n ?_
              cases h3
              exact wk [0, 1, 2, 3, 4]
          · skip
            refine aw_regionA (is := [0, 1, 2]) rfl ?_
            refine rp rfl w0 rfl (pu_move (r := .d _) rfl) ?_
            refine rp rfl w0 rfl (pw_add rfl rfl) ?_
            refine rp rfl w0 rfl (pu_assign (r := .d _) rfl) ?_
            refine ra_nil ?_
            refine loop_n ?_
            cases h2
            refine ⟨_, rfl, ?_⟩
            exact wk [0, 1, 2, 3, 4]
        · skip
          refine aw_exit ?_
          refine then_e ?_
          cases h2
          refine loop_x ⟨_, rfl, fun e => ?_⟩
          subst e
          refine block_hit ?_
          refine then_n ?_
          exact wk [0, 1, 2, 4]
    · skip
      refine aw_seq ?_
      refine aw_regionA (is := [0, 1, 2]) rfl ?_
      refine rp rfl w0 rfl (pu_move (r := .own _ _ _) rfl) ?_
      refine rp rfl w0 rfl (pu_assign (r := .own _ _ _) rfl) ?_
      refine rp rfl w0 rfl (pu_assign (r := .d _) rfl) ?_
      refine ra_nil ?_
      refine then_n ?_
      refine aw_ret ?_
      cases h0
      exact retK_ (rs := [.tmp 4, .tmp 5]) [3] rfl

theorem l_f6roll_c {p0 : List Int} {p1 : Int} {r : F6dice_} (h0 : l_f6roll_m p0 p1 = some r) : FnC Try.prog 26 [] [.d (.sl (List.map cU8 p0)), .d (.v (.int .u64 p1))] [.live [⟨128, 3, .av [[.d (.sl (List.map cU8 r.b)), .d (.v (.int .i64 r.i)), .d (.v (.int .u64 r.h))]]⟩]] (.ptr 0 0 1 0 0) := by
  refine fnc_intro (T := tt) (N := 38) tok Try.func26 rfl rfl (by kernel_rfl) rfl rfl ?_
  unfold l_f6roll_m at h0
  refine aw_seq ?_
  refine aw_regionA (is := [0]) rfl ?_
  refine rp rfl w0 rfl (pu_assign (r := .d _) rfl) ?_
  refine ra_nil ?_
  refine then_n ?_
  refine aw_seq ?_
  refine aw_regionA (is := [0, 1, 2, 3, 4, 5, 6, 7, 8, 9]) rfl ?_
  refine rp rfl w0 rfl (pu_move (r := .d _) rfl) ?_
  refine rp rfl w0 rfl (pu_move (r := .d _) rfl) ?_
  refine rp rfl w0 rfl (pu_mulw rfl rfl) ?_
  refine rp rfl w0 rfl (pu_move (r := .d _) rfl) ?_
  refine rp rfl w0 rfl (pu_len_map tok rfl rfl rfl) ?_
  refine rp rfl w0 rfl (pu_ii tok rfl rfl rfl rfl rfl) ?_
  refine rp rfl w0 rfl (pu_addw rfl rfl) ?_
  refine rp rfl w0 rfl (pu_build (C0 := [.d (.v (.slice none 0 0)), .d (.v (.int .i64 0)), .d (.v (.int .u64 0))]) tok rfl rfl (by repeat (first | exact Plc.nil | apply Plc.cons rfl)) rfl (by repeat (first | exact Bld.nil _ | apply Bld.cons (cs := [.d _]) rfl rfl rfl rfl (by repeat (first | exact Spl.z _ | apply Spl.t | apply Spl.d)) | apply Bld.cons (cs := [.own _ _ _]) rfl rfl rfl rfl (by repeat (first | exact Spl.z _ | apply Spl.t | apply Spl.d)) | apply Bld.cons (cs := [.ptr _ _ _ _ _]) rfl rfl rfl rfl (by repeat (first | exact Spl.z _ | apply Spl.t | apply Spl.d)) | apply Bld.cons (cs := [.fn _ _]) rfl rfl rfl rfl (by repeat (first | exact Spl.z _ | apply Spl.t | apply Spl.d)) | apply Bld.cons (cs := _ :: _) rfl rfl rfl rfl (by repeat (first | exact Spl.z _ | apply Spl.t | apply Spl.d))))) ?_
  refine rs rfl w0 rfl (st_box 3 (cs := _ :: _) rfl rfl rfl) ?_
  refine rp rfl w0 rfl (pu_assign (r := .ptr _ _ _ _ _) rfl) ?_
  refine ra_nil ?_
  refine then_n ?_
  obtain ⟨v5, h1, h0⟩ := bnd h0
  refine aw_cut ⟨updA ((fun _ => .dead)) 5 (.ptr 3 0 1 0 0), lks [.no, .no, .no, .live [⟨128, 3, .av [[.d (.sl (List.map cU8 v5.b)), .d (.v (.int .i64 v5.i)), .d (.v (.int .u64 v5.h))]]⟩]]⟩ ?_ ?_
  · skip
    refine aw_seq ?_
    refine aw_regionA (is := [0]) rfl ?_
    refine rp rfl w0 rfl (pu_assign (r := .d _) rfl) ?_
    refine ra_nil ?_
    refine then_n ?_
    refine aw_block ?_
    refine aw_loopM (fun s3 => ⟨updA (updA (updA ((fun _ => .dead)) 0 (.d (.sl (List.map cU8 p0)))) 5 (.ptr 3 0 1 0 0)) 6 (.d (.v (.int .i64 s3.1))), lks [.no, .no, .no, .live [⟨128, 3, .av [[.d (.sl (List.map cU8 s3.2.b)), .d (.v (.int .i64 s3.2.i)), .d (.v (.int .u64 s3.2.h))]]⟩]]⟩) h1 ?_ (fun s3 y h2 => ?_)
    · skip
      exact wk [0, 1, 2, 3]
    · skip
      refine aw_seq ?_
      refine aw_seq ?_
      refine aw_regionA (is := [0, 1, 2, 3]) rfl ?_
      refine rp rfl w0 rfl (pu_move (r := .d _) rfl) ?_
      refine rp rfl w0 rfl (pu_move (r := .d _) rfl) ?_
      refine rp rfl w0 rfl (pu_len_map tok rfl rfl rfl) ?_
      refine rp rfl w0 rfl (pu_lss rfl rfl) ?_
      refine ra_nil ?_
      refine then_n ?_
      refine aw_if h2 rfl (fun hc h2 => ?_) (fun hc h2 => ?_)
      · skip
        refine aw_skip ?_
        refine then_n ?_
        refine aw_seq ?_
        refine aw_block ?_
        refine aw_region_draw (is := [0, 1, 2, 3, 4, 5, 6, 7, 8, 9, 10, 11, 12, 13, 14, 15]) [0, 0, 2, 6, 14, 30, 0, 0, 192, 448, 960, 2046, 4094, 8191, 16383, 32767] follows (by kernel_rfl) ?_
        refine rt_p rfl w0 rfl (pu_move (r := .ptr _ _ _ _ _) rfl) ?_
        refine rt_p rfl w0 rfl (pu_move (r := .ptr _ _ _ _ _) rfl) ?_
        refine rt_lk rfl w0 rfl (bx_nil rfl rfl) rfl rfl rfl ?_
        refine rt_lk rfl w0 rfl (bx_fa tok rfl rfl rfl rfl rfl rfl rfl) rfl rfl rfl ?_
        refine rt_lk rfl w0 rfl (bx_ld1 tok rfl rfl rfl rfl rfl) rfl rfl rfl ?_
        refine rt_p rfl w0 rfl (pu_mulw rfl rfl) ?_
        refine rt_p rfl w0 rfl (pu_move (r := .d _) rfl) ?_
        refine rt_p rfl w0 rfl (pu_move (r := .d _) rfl) ?_
        obtain ⟨v4, hv4, h2⟩ := bnd h2
        refine rt_p rfl w0 rfl (sl_ix tok hv4 rfl rfl rfl rfl rfl rfl) ?_
        refine rt_p rfl w0 rfl (pu_load_ref1 tok rfl rfl rfl rfl) ?_
        refine rt_p rfl w0 rfl (pu_ii tok rfl rfl rfl rfl rfl) ?_
        refine rt_p rfl w0 rfl (pu_addw rfl rfl) ?_
        refine rt_p rfl w0 rfl (pu_addw rfl rfl) ?_
        refine rt_lk rfl w0 rfl (bx_nil rfl rfl) rfl rfl rfl ?_
        refine rt_lk rfl w0 rfl (bx_fa tok rfl rfl rfl rfl rfl rfl rfl) rfl rfl rfl ?_
        refine rt_wk rfl w0 (bx_st (cs := [.d _]) tok rfl rfl rfl rfl rfl rfl rfl) ?_
        refine rt_nil ?_
        refine ⟨by kernel_rfl, ?_⟩
        refine block_n ?_
        refine then_n ?_
        refine aw_regionA (is := [0, 1, 2]) rfl ?_
        refine rp rfl w0 rfl (pu_move (r := .d _) rfl) ?_
        refine rp rfl w0 rfl (pw_add rfl rfl) ?_
        refine rp rfl w0 rfl (pu_assign (r := .d _) rfl) ?_
        refine ra_nil ?_
        refine loop_n ?_
        cases h2
        refine ⟨_, rfl, ?_⟩
        exact wk [0, 1, 2, 3]
      · skip
        refine aw_exit ?_
        refine then_e ?_
        cases h2
        refine loop_x ⟨_, rfl, fun e => ?_⟩
        subst e
        refine block_hit ?_
        refine then_n ?_
        exact wk [0, 1, 2, 3]
  · skip
    refine aw_seq ?_
    refine aw_regionA (is := [0, 1]) rfl ?_
    refine rp rfl w0 rfl (pu_move (r := .ptr _ _ _ _ _) rfl) ?_
    refine rp rfl w0 rfl (pu_assign (r := .ptr _ _ _ _ _) rfl) ?_
    refine ra_nil ?_
    refine then_n ?_
    refine aw_ret ?_
    cases h0
    exact retK_ (rs := [.tmp 4]) [3] rfl

theorem laws_f6dice_below_b_c {p0 : F6dice_} {p1 : Int} {r : Int × F6dice_} (h0 : laws_f6dice_below_b_m p0 p1 = some r) : FnC Try.prog 27 [.live [⟨128, 3, .av [[.d (.sl (List.map cU8 p0.b)), .d (.v (.int .i64 p0.i)), .d (.v (.int .u64 p0.h))]]⟩]] [.ptr 0 0 1 0 0, .d (.v (.int .i64 p1))] [.live [⟨128, 3, .av [[.d (.sl (List.map cU8 r.2.b)), .d (.v (.int .i64 r.2.i)), .d (.v (.int .u64 r.2.h))]]⟩]] (.d (.v (.int .i64 r.1))) := by
  refine fnc_intro (T := tt) (N := 56) tok Try.func27 rfl rfl (by kernel_rfl) rfl rfl ?_
  unfold laws_f6dice_below_b_m at h0
  refine aw_seq ?_
  refine aw_regionA (is := [0]) rfl ?_
  refine rp rfl w0 rfl (pu_assign (r := .d _) rfl) ?_
  refine ra_nil ?_
  refine then_n ?_
  refine aw_seq ?_
  refine aw_regionA (is := [0, 1, 2, 3, 4, 5, 6, 7, 8, 9]) rfl ?_
  refine rp rfl w0 rfl (pu_move (r := .ptr _ _ _ _ _) rfl) ?_
  refine rp rfl w0 rfl (pu_move (r := .ptr _ _ _ _ _) rfl) ?_
  refine rl rfl w0 rfl (bx_nil rfl rfl) ?_
  refine rl rfl w0 rfl (bx_fa tok rfl rfl rfl rfl rfl rfl rfl) ?_
  refine rl rfl w0 rfl (bx_ld1 tok rfl rfl rfl rfl rfl) ?_
  refine rp rfl w0 rfl (pu_mulw rfl rfl) ?_
  refine rp rfl w0 rfl (pu_addw rfl rfl) ?_
  refine rl rfl w0 rfl (bx_nil rfl rfl) ?_
  refine rl rfl w0 rfl (bx_fa tok rfl rfl rfl rfl rfl rfl rfl) ?_
  refine rw0 rfl w0 (bx_st (cs := [.d _]) tok rfl rfl rfl rfl rfl rfl rfl) ?_
  refine ra_nil ?_
  refine then_n ?_
  refine aw_seq ?_
  refine aw_regionA (is := [0, 1, 2, 3, 4, 5, 6, 7]) rfl ?_
  refine rp rfl w0 rfl (pu_move (r := .ptr _ _ _ _ _) rfl) ?_
  refine rl rfl w0 rfl (bx_nil rfl rfl) ?_
  refine rl rfl w0 rfl (bx_fa tok rfl rfl rfl rfl rfl rfl rfl) ?_
  refine rl rfl w0 rfl (bx_ld1 tok rfl rfl rfl rfl rfl) ?_
  refine rp rfl w0 rfl (pu_shr rfl rfl (by decide)) ?_
  refine rp rfl w0 rfl (pu_and rfl rfl) ?_
  refine rp rfl w0 rfl (pw_cv tok rfl rfl rfl rfl rfl) ?_
  refine rp rfl w0 rfl (pu_assign (r := .d _) rfl) ?_
  refine ra_nil ?_
  refine then_n ?_
  obtain ⟨v3, h1, h0⟩ := bnd h0
  refine aw_cut ⟨updA (updA ((fun _ => .dead)) 1 (.d (.v (.int .i64 p1)))) 5 (.d (.v (.int .i64 v3.1))), lks [.live [⟨128, 3, .av [[.d (.sl (List.map cU8 v3.2.b)), .d (.v (.int .i64 v3.2.i)), .d (.v (.int .u64 v3.2.h))]]⟩], .no, .no]⟩ ?_ ?_
  · skip
    refine aw_seq ?_
    refine aw_region_draw (is := [0, 1, 2, 3, 4, 5, 6, 7, 8, 9]) [0, 1, 3, 7, 0, 16, 48, 112, 240, 511] follows (by kernel_rfl) ?_
    refine rt_p rfl w0 rfl (pu_move (r := .ptr _ _ _ _ _) rfl) ?_
    refine rt_lk rfl w0 rfl (bx_nil rfl rfl) rfl rfl rfl ?_
    refine rt_lk rfl w0 rfl (bx_fa tok rfl rfl rfl rfl rfl rfl rfl) rfl rfl rfl ?_
    refine rt_lk rfl w0 rfl (bx_ld1 tok rfl rfl rfl rfl rfl) rfl rfl rfl ?_
    refine rt_p rfl w0 rfl (pu_move (r := .ptr _ _ _ _ _) rfl) ?_
    refine rt_lk rfl w0 rfl (bx_nil rfl rfl) rfl rfl rfl ?_
    refine rt_lk rfl w0 rfl (bx_fa tok rfl rfl rfl rfl rfl rfl rfl) rfl rfl rfl ?_
    refine rt_lk rfl w0 rfl (bx_ld1 tok rfl rfl rfl rfl rfl) rfl rfl rfl ?_
    refine rt_p rfl w0 rfl (pu_len_map tok rfl rfl rfl) ?_
    refine rt_p rfl w0 rfl (pu_lss rfl rfl) ?_
    refine rt_nil ?_
    refine ⟨by kernel_rfl, ?_⟩
    refine then_n ?_
    refine aw_if h1 rfl (fun hc h1 => ?_) (fun hc h1 => ?_)
    · skip
      refine aw_seq ?_
      refine aw_region_draw (is := [0, 1, 2, 3, 4, 5, 6, 7, 8, 9, 10, 11, 12, 13]) [0, 0, 2, 6, 14, 0, 32, 96, 224, 510, 1022, 2046, 4095, 8191] follows (by kernel_rfl) ?_
      refine rt_p rfl w0 rfl (pu_move (r := .d _) rfl) ?_
      refine rt_p rfl w0 rfl (pu_move (r := .ptr _ _ _ _ _) rfl) ?_
      refine rt_lk rfl w0 rfl (bx_nil rfl rfl) rfl rfl rfl ?_
      refine rt_lk rfl w0 rfl (bx_fa tok rfl rfl rfl rfl rfl rfl rfl) rfl rfl rfl ?_
      refine rt_lk rfl w0 rfl (bx_ld1 tok rfl rfl rfl rfl rfl) rfl rfl rfl ?_
      refine rt_p rfl w0 rfl (pu_move (r := .ptr _ _ _ _ _) rfl) ?_
      refine rt_lk rfl w0 rfl (bx_nil rfl rfl) rfl rfl rfl ?_
      refine rt_lk rfl w0 rfl (bx_fa tok rfl rfl rfl rfl rfl rfl rfl) rfl rfl rfl ?_
      refine rt_lk rfl w0 rfl (bx_ld1 tok rfl rfl rfl rfl rfl) rfl rfl rfl ?_
      obtain ⟨v2, hv2, h1⟩ := bnd h1
      refine rt_p rfl w0 rfl (sl_ix tok hv2 rfl rfl rfl rfl rfl rfl) ?_
      refine rt_p rfl w0 rfl (pu_load_ref1 tok rfl rfl rfl rfl) ?_
      refine rt_p rfl w0 rfl (pw_cv tok rfl rfl rfl rfl rfl) ?_
      refine rt_p rfl w0 rfl (pw_add rfl rfl) ?_
      refine rt_p rfl w0 rfl (pu_assign (r := .d _) rfl) ?_
      refine rt_nil ?_
      refine ⟨by kernel_rfl, ?_⟩
      refine then_n ?_
      refine aw_regionA (is := [0, 1, 2, 3, 4, 5, 6, 7, 8]) rfl ?_
      refine rp rfl w0 rfl (pu_move (r := .ptr _ _ _ _ _) rfl) ?_
      refine rp rfl w0 rfl (pu_move (r := .ptr _ _ _ _ _) rfl) ?_
      refine rl rfl w0 rfl (bx_nil rfl rfl) ?_
      refine rl rfl w0 rfl (bx_fa tok rfl rfl rfl rfl rfl rfl rfl) ?_
      refine rl rfl w0 rfl (bx_ld1 tok rfl rfl rfl rfl rfl) ?_
      refine rp rfl w0 rfl (pw_add rfl rfl) ?_
      refine rl rfl w0 rfl (bx_nil rfl rfl) ?_
      refine rl rfl w0 rfl (bx_fa tok rfl rfl rfl rfl rfl rfl rfl) ?_
      refine rw0 rfl w0 (bx_st (cs := [.d _]) tok rfl rfl rfl rfl rfl rfl rfl) ?_
      refine ra_nil ?_
      refine then_n ?_
      cases h1
      exact wk [0, 1, 2]
    · skip
      refine aw_skip ?_
      refine then_n ?_
      cases h1
      exact wk [0, 1, 2]
  · skip
    refine aw_seq ?_
    refine aw_regionA (is := [0, 1, 2, 3]) rfl ?_
    refine rp rfl w0 rfl (pu_move (r := .d _) rfl) ?_
    refine rp rfl w0 rfl (pu_move (r := .d _) rfl) ?_
    obtain ⟨hq4, h0⟩ := chk_e h0
    refine rp rfl w0 rfl (pu_remw rfl rfl hq4) ?_
    refine rp rfl w0 rfl (pu_assign (r := .d _) rfl) ?_
    refine ra_nil ?_
    refine then_n ?_
    refine aw_ret ?_
    cases h0
    exact retP_ (rs := [.tmp 4]) 1 rfl rfl

theorem i_ExactIndex_c {p0 : Divider_} {p1 : Int} {r : Index_ × Int} (h0 : i_ExactIndex_m p0 p1 = some r) : FnC Try.prog 28 [] [.agg [.d (.v (.int .i64 p0.Worm)), .d (.sl (List.map cI p0.Circles))], .d (.v (.int .i64 p1))] [] (.tup [.agg [.d (.v (.int .i64 r.1.Turns)), .d (.v (.int .i64 r.1.Holes)), .d (.v (.int .i64 r.1.Circle))], .d (.v (.int .i64 r.2))]) := by
  refine fnc_intro (T := tt) (N := 26) tok Try.func28 rfl rfl (by kernel_rfl) rfl rfl ?_
  unfold i_ExactIndex_m at h0
  refine aw_seq ?_
  refine aw_regionA (is := [0, 1, 2]) rfl ?_
  refine rs rfl w0 rfl (st_box 3 (cs := _ :: _) rfl rfl rfl) ?_
  refine rs rfl w0 rfl (st_alloc 4 (cs := [.d (.v (.int .i64 0)), .d (.v (.int .i64 0)), .d (.v (.int .i64 0))]) tok rfl rfl rfl) ?_
  refine rp rfl w0 rfl (pu_assign (r := .d _) rfl) ?_
  refine ra_nil ?_
  refine then_n ?_
  refine aw_seq ?_
  refine aw_seq ?_
  refine aw_regionA (is := [0, 1, 2]) rfl ?_
  refine rl rfl w0 rfl (bx_ldN tok rfl rfl rfl rfl) ?_
  obtain ⟨v1, hv1, h0⟩ := bnd h0
  refine rs rfl w0 rfl (c_call 5 (i_ValidDivider_c hv1) rfl rfl rfl) ?_
  refine rp rfl w0 rfl (pu_not rfl) ?_
  refine ra_nil ?_
  refine then_n ?_
  refine aw_ifB h0 rfl (fun hc h0 => ?_) (fun hc h0 => ?_)
  · skip
    refine aw_seq ?_
    refine aw_regionA (is := [0, 1, 2]) rfl ?_
    refine rp rfl w0 rfl (pu_build (C0 := [.d (.v (.int .i64 0)), .d (.v (.int .i64 0)), .d (.v (.int .i64 0))]) tok rfl rfl (by repeat (first | exact Plc.nil | apply Plc.cons rfl)) rfl (by repeat (first | exact Bld.nil _ | apply Bld.cons (cs := [.d _]) rfl rfl rfl rfl (by repeat (first | exact Spl.z _ | apply Spl.t | apply Spl.d)) | apply Bld.cons (cs := [.own _ _ _]) rfl rfl rfl rfl (by repeat (first | exact Spl.z _ | apply Spl.t | apply Spl.d)) | apply Bld.cons (cs := [.ptr _ _ _ _ _]) rfl rfl rfl rfl (by repeat (first | exact Spl.z _ | apply Spl.t | apply Spl.d)) | apply Bld.cons (cs := [.fn _ _]) rfl rfl rfl rfl (by repeat (first | exact Spl.z _ | apply Spl.t | apply Spl.d)) | apply Bld.cons (cs := _ :: _) rfl rfl rfl rfl (by repeat (first | exact Spl.z _ | apply Spl.t | apply Spl.d))))) ?_
    refine rw0 rfl w0 (bx_st (cs := _ :: _) tok rfl rfl rfl rfl rfl rfl rfl) ?_
    refine rp rfl w0 rfl (pu_assign (r := .d _) rfl) ?_
    refine ra_nil ?_
    refine then_n ?_
    refine aw_ret ?_
    refine then_r ?_
    cases h0
    exact ret0_ (rs := [.cell 4 34, .tmp 5]) rfl
  · skip
    refine aw_skip ?_
    refine then_n ?_
    refine aw_seq ?_
    refine aw_seq ?_
    refine aw_regionA (is := [0, 1, 2]) rfl ?_
    refine rp rfl w0 rfl (pu_move (r := .d _) rfl) ?_
    obtain ⟨v2, hv2, h0⟩ := bnd h0
    refine rs rfl w0 rfl (c_call 5 (i_isDivision_c hv2) rfl rfl rfl) ?_
    refine rp rfl w0 rfl (pu_not rfl) ?_
    refine ra_nil ?_
    refine then_n ?_
    refine aw_ifB h0 rfl (fun hc h0 => ?_) (fun hc h0 => ?_)
    · skip
      refine aw_seq ?_
      refine aw_regionA (is := [0, 1, 2]) rfl ?_
      refine rp rfl w0 rfl (pu_build (C0 := [.d (.v (.int .i64 0)), .d (.v (.int .i64 0)), .d (.v (.int .i64 0))]) tok rfl rfl (by repeat (first | exact Plc.nil | apply Plc.cons rfl)) rfl (by repeat (first | exact Bld.nil _ | apply Bld.cons (cs := [.d _]) rfl rfl rfl rfl (by repeat (first | exact Spl.z _ | apply Spl.t | apply Spl.d)) | apply Bld.cons (cs := [.own _ _ _]) rfl rfl rfl rfl (by repeat (first | exact Spl.z _ | apply Spl.t | apply Spl.d)) | apply Bld.cons (cs := [.ptr _ _ _ _ _]) rfl rfl rfl rfl (by repeat (first | exact Spl.z _ | apply Spl.t | apply Spl.d)) | apply Bld.cons (cs := [.fn _ _]) rfl rfl rfl rfl (by repeat (first | exact Spl.z _ | apply Spl.t | apply Spl.d)) | apply Bld.cons (cs := _ :: _) rfl rfl rfl rfl (by repeat (first | exact Spl.z _ | apply Spl.t | apply Spl.d))))) ?_
      refine rw0 rfl w0 (bx_st (cs := _ :: _) tok rfl rfl rfl rfl rfl rfl rfl) ?_
      refine rp rfl w0 rfl (pu_assign (r := .d _) rfl) ?_
      refine ra_nil ?_
      refine then_n ?_
      refine aw_ret ?_
      refine then_r ?_
      cases h0
      exact ret0_ (rs := [.cell 4 34, .tmp 5]) rfl
    · skip
      refine aw_skip ?_
      refine then_n ?_
      refine aw_seq ?_
      refine aw_regionA (is := [0, 1, 2, 3, 4, 5, 6, 7, 8]) rfl ?_
      refine rl rfl w0 rfl (bx_ldN tok rfl rfl rfl rfl) ?_
      refine rp rfl w0 rfl (pu_move (r := .d _) rfl) ?_
      obtain ⟨v3, hv3, h0⟩ := bnd h0
      refine rs rfl w0 rfl (c_call 5 (i_exactIndex_c hv3) rfl rfl rfl) ?_
      refine rp rfl w0 rfl (pu_move (r := .tup _) rfl) ?_
      refine rp rfl w0 rfl (pu_extract rfl rfl) ?_
      refine rp rfl w0 rfl (pu_extract rfl rfl) ?_
      refine rs rfl w0 rfl (st_alloc 5 (cs := [.d (.v (.int .i64 0)), .d (.v (.int .i64 0)), .d (.v (.int .i64 0))]) tok rfl rfl rfl) ?_
      refine rw0 rfl w0 (bx_st (cs := _ :: _) tok rfl rfl rfl rfl rfl rfl rfl) ?_
      refine rp rfl w0 rfl (pu_assign (r := .d _) rfl) ?_
      refine ra_nil ?_
      refine then_n ?_
      refine aw_seq ?_
      refine aw_seq ?_
      refine aw_regionA (is := [0, 1]) rfl ?_
      refine rp rfl w0 rfl (pu_move (r := .d _) rfl) ?_
      refine rp rfl w0 rfl (pu_not rfl) ?_
      refine ra_nil ?_
      refine then_n ?_
      refine aw_ifB h0 rfl (fun hc h0 => ?_) (fun hc h0 => ?_)
      · skip
        refine aw_seq ?_
        refine aw_regionA (is := [0, 1, 2]) rfl ?_
        refine rp rfl w0 rfl (pu_build (C0 := [.d (.v (.int .i64 0)), .d (.v (.int .i64 0)), .d (.v (.int .i64 0))]) tok rfl rfl (by repeat (first | exact Plc.nil | apply Plc.cons rfl)) rfl (by repeat (first | exact Bld.nil _ | apply Bld.cons (cs := [.d _]) rfl rfl rfl rfl (by repeat (first | exact Spl.z _ | apply Spl.t | apply Spl.d)) | apply Bld.cons (cs := [.own _ _ _]) rfl rfl rfl rfl (by repeat (first | exact Spl.z _ | apply Spl.t | apply Spl.d)) | apply Bld.cons (cs := [.ptr _ _ _ _ _]) rfl rfl rfl rfl (by repeat (first | exact Spl.z _ | apply Spl.t | apply Spl.d)) | apply Bld.cons (cs := [.fn _ _]) rfl rfl rfl rfl (by repeat (first | exact Spl.z _ | apply Spl.t | apply Spl.d)) | apply Bld.cons (cs := _ :: _) rfl rfl rfl rfl (by repeat (first | exact Spl.z _ | apply Spl.t | apply Spl.d))))) ?_
        refine rw0 rfl w0 (bx_st (cs := _ :: _) tok rfl rfl rfl rfl rfl rfl rfl) ?_
        refine rp rfl w0 rfl (pu_assign (r := .d _) rfl) ?_
        refine ra_nil ?_
        refine then_n ?_
        refine aw_ret ?_
        refine then_r ?_
        cases h0
        exact ret0_ (rs := [.cell 4 34, .tmp 5]) rfl
      · skip
        refine aw_skip ?_
        refine then_n ?_
        refine aw_seq ?_
        refine aw_regionA (is := [0, 1, 2]) rfl ?_
        refine rl rfl w0 rfl (bx_ldN tok rfl rfl rfl rfl) ?_
        refine rw0 rfl w0 (bx_st (cs := _ :: _) tok rfl rfl rfl rfl rfl rfl rfl) ?_
        refine rp rfl w0 rfl (pu_assign (r := .d _) rfl) ?_
        refine ra_nil ?_
        refine then_n ?_
        refine aw_ret ?_
        cases h0
        exact ret0_ (rs := [.cell 4 34, .tmp 5]) rfl

theorem l_f6has_c {p0 : List Int} {p1 : Int} {r : Bool} (h0 : l_f6has_m p0 p1 = some r) : FnC Try.prog 29 [] [.d (.sl (List.map cI p0)), .d (.v (.int .i64 p1))] [] (.d (.v (.bool r))) := by
  refine fnc_intro (T := tt) (N := 18) tok Try.func29 rfl rfl (by kernel_rfl) rfl rfl ?_
  unfold l_f6has_m at h0
  refine aw_seq ?_
  refine aw_regionA (is := [0]) rfl ?_
  refine rp rfl w0 rfl (pu_assign (r := .d _) rfl) ?_
  refine ra_nil ?_
  refine then_n ?_
  obtain ⟨v5x, h1, h0⟩ := bnd h0
  refine aw_cutE v5x (fun v5 => ⟨(fun _ => .dead), lks [.no, .no, .no]⟩) ?_ ?_
  · skip
    refine aw_seq ?_
    refine aw_regionA (is := [0]) rfl ?_
    refine rp rfl w0 rfl (pu_assign (r := .d _) rfl) ?_
    refine ra_nil ?_
    refine then_n ?_
    refine aw_block ?_
    refine aw_loopM (fun s3 => ⟨updA (updA (updA ((fun _ => .dead)) 0 (.d (.sl (List.map cI p0)))) 1 (.d (.v (.int .i64 p1)))) 5 (.d (.v (.int .i64 s3))), lks [.no, .no, .no]⟩) h1 ?_ (fun s3 y h2 => ?_)
    · skip
      exact wk [0, 1, 2]
    · skip
      refine aw_seq ?_
      refine aw_seq ?_
      refine aw_regionA (is := [0, 1, 2, 3]) rfl ?_
      refine rp rfl w0 rfl (pu_move (r := .d _) rfl) ?_
      refine rp rfl w0 rfl (pu_move (r := .d _) rfl) ?_
      refine rp rfl w0 rfl (pu_len_map tok rfl rfl rfl) ?_
      refine rp rfl w0 rfl (pu_lss rfl rfl) ?_
      refine ra_nil ?_
      refine then_n ?_
      refine aw_if h2 rfl (fun hc h2 => ?_) (fun hc h2 => ?_)
      · skip
        refine aw_skip ?_
        refine then_n ?_
        refine aw_seq ?_
        refine aw_block ?_
        refine aw_seq ?_
        refine aw_regionA (is := [0, 1, 2, 3, 4, 5]) rfl ?_
        refine rp rfl w0 rfl (pu_move (r := .d _) rfl) ?_
        refine rp rfl w0 rfl (pu_move (r := .d _) rfl) ?_
        obtain ⟨v4, hv4, h2⟩ := bnd h2
        refine rp rfl w0 rfl (sl_ix tok hv4 rfl rfl rfl rfl rfl rfl) ?_
        refine rp rfl w0 rfl (pu_load_ref1 tok rfl rfl rfl rfl) ?_
        refine rp rfl w0 rfl (pu_move (r := .d _) rfl) ?_
        refine rp rfl w0 rfl (pu_eql rfl rfl) ?_
        refine ra_nil ?_
        refine then_n ?_
        refine aw_if h2 rfl (fun hc h2 => ?_) (fun hc h2 => ?_)
        · skip
          refine aw_seq ?_
          refine aw_regionA (is := [0]) rfl ?_
          refine rp rfl w0 rfl (pu_assign (r := .d _) rfl) ?_
          refine ra_nil ?_
          refine then_n ?_
          refine aw_ret ?_
          refine block_r ?_
          refine then_r ?_
          cases h2
          refine loop_r ⟨_, rfl, fun e => ?_⟩
          subst e
          refine block_r ?_
          replace h0 := orE_s h0
          refine then_r ?_
          cases h0
          exact ret0_ (rs := [.tmp 4]) rfl
        · skip
          refine aw_skip ?_
          refine block_n ?_
          refine then_n ?_
          refine aw_regionA (is := [0, 1, 2]) rfl ?_
          refine rp rfl w0 rfl (pu_move (r := .d _) rfl) ?_
          refine rp rfl w0 rfl (pw_add rfl rfl) ?_
          refine rp rfl w0 rfl (pu_assign (r := .d _) rfl) ?_
          refine ra_nil ?_
          refine loop_n ?_
          cases h2
          refine ⟨_, rfl, ?_⟩
          exact wk [0, 1, 2]
      · skip
        refine aw_exit ?_
        refine then_e ?_
        cases h2
        refine loop_x ⟨_, rfl, fun e => ?_⟩
        subst e
        refine block_hit ?_
        refine then_n ?_
        refine ⟨_, rfl, ?_⟩
        exact wk [0, 1, 2]
  · skip
    rintro v5 rfl
    replace h0 := orE_f h0
    refine aw_seq ?_
    refine aw_regionA (is := [0]) rfl ?_
    refine rp rfl w0 rfl (pu_assign (r := .d _) rfl) ?_
    refine ra_nil ?_
    refine then_n ?_
    refine aw_ret ?_
    cases h0
    exact ret0_ (rs := [.tmp 4]) rfl

theorem l_FnSpreadHoles_c {p0 : List Int} {r : Bool} (h0 : l_FnSpreadHoles_m p0 = some r) : FnC Try.prog 4 [] [.d (.sl (List.map cU8 p0))] [] (.d (.v (.bool r))) := by
  refine fnc_intro (T := tt) (N := 161) tok Try.func4 rfl rfl (by kernel_rfl) rfl rfl ?_
  unfold l_FnSpreadHoles_m at h0
  refine aw_seq ?_
  refine aw_regionA (is := [0]) rfl ?_
  refine rp rfl w0 rfl (pu_assign (r := .d _) rfl) ?_
  refine ra_nil ?_
  refine then_n ?_
  refine aw_seq ?_
  refine aw_seq ?_
  refine aw_regionA (is := [0, 1]) rfl ?_
  refine rp rfl w0 rfl (pu_move (r := .d _) rfl) ?_
  obtain ⟨v1, hv1, h0⟩ := bnd h0
  refine rs rfl w0 rfl (c_call 3 (l_f6big_c hv1) rfl rfl rfl) ?_
  refine ra_nil ?_
  refine then_n ?_
  refine aw_ifB h0 rfl (fun hc h0 => ?_) (fun hc h0 => ?_)
  · skip
    refine aw_seq ?_
    refine aw_regionA (is := [0]) rfl ?_
    refine rp rfl w0 rfl (pu_assign (r := .d _) rfl) ?_
    refine ra_nil ?_
    refine then_n ?_
    refine aw_ret ?_
    refine then_r ?_
    cases h0
    exact ret0_ (rs := [.tmp 2]) rfl
  · skip
    refine aw_skip ?_
    refine then_n ?_
    refine aw_seq ?_
    refine aw_regionA (is := [0, 1, 2, 3, 4, 5, 6, 7, 8, 9]) rfl ?_
    refine rp rfl w0 rfl (pu_move (r := .d _) rfl) ?_
    obtain ⟨v2, hv2, h0⟩ := bnd h0
    refine rs rfl w0 rfl (c_call 3 (s_DrawSpreadHoles_c hv2) rfl rfl rfl) ?_
    refine rp rfl w0 rfl (pu_move (r := .tup _) rfl) ?_
    refine rp rfl w0 rfl (pu_extract rfl rfl) ?_
    refine rp rfl w0 rfl (pu_extract rfl rfl) ?_
    refine rp rfl w0 rfl (pu_extract rfl rfl) ?_
    refine rs rfl w0 rfl (st_alloc 4 (cs := [.d (.v (.int .i64 0)), .d (.v (.slice none 0 0))]) tok rfl rfl rfl) ?_
    refine rw0 rfl w0 (bx_st (cs := _ :: _) tok rfl rfl rfl rfl rfl rfl rfl) ?_
    refine rp rfl w0 rfl (pu_assign (r := .d _) rfl) ?_
    refine rp rfl w0 rfl (pu_assign (r := .d _) rfl) ?_
    refine ra_nil ?_
    refine then_n ?_
    refine aw_seq ?_
    refine aw_regionA (is := [0, 1, 2, 3, 4, 5, 6, 7, 8]) rfl ?_
    refine rl rfl w0 rfl (bx_ldN tok rfl rfl rfl rfl) ?_
    refine rp rfl w0 rfl (pu_move (r := .d _) rfl) ?_
    refine rp rfl w0 rfl (pu_move (r := .d _) rfl) ?_
    obtain ⟨v3, hv3, h0⟩ := bnd h0
    refine rs rfl w0 rfl (c_callV 5 (i_SpreadHoles_c hv3) rfl rfl) ?_
    refine rp rfl w0 rfl (pu_move (r := .tup _) rfl) ?_
    refine rp rfl w0 rfl (pu_extract rfl rfl) ?_
    refine rp rfl w0 rfl (pu_extract rfl rfl) ?_
    refine rp rfl w0 rfl (pu_assign (r := .own _ _ _) rfl) ?_
    refine rp rfl w0 rfl (pu_assign (r := .d _) rfl) ?_
    refine ra_nil ?_
    refine then_n ?_
    refine aw_seq ?_
    refine aw_regionA (is := [0, 1, 2, 3, 4, 5, 6, 7, 8]) rfl ?_
    refine rl rfl w0 rfl (bx_ldN tok rfl rfl rfl rfl) ?_
    refine rp rfl w0 rfl (pu_move (r := .d _) rfl) ?_
    refine rp rfl w0 rfl (pu_move (r := .d _) rfl) ?_
    obtain ⟨v4, hv4, h0⟩ := bnd h0
    refine rs rfl w0 rfl (c_callV 6 (s_SpreadHoles_c hv4) rfl rfl) ?_
    refine rp rfl w0 rfl (pu_move (r := .tup _) rfl) ?_
    refine rp rfl w0 rfl (pu_extract rfl rfl) ?_
    refine rp rfl w0 rfl (pu_extract rfl rfl) ?_
    refine rp rfl w0 rfl (pu_assign (r := .own _ _ _) rfl) ?_
    refine rp rfl w0 rfl (pu_assign (r := .d _) rfl) ?_
    refine ra_nil ?_
    refine then_n ?_
    refine aw_seq ?_
    obtain ⟨v6, h1, h0⟩ := bnd h0
    refine aw_cut ⟨updA (updA (updA (updA (updA (updA (updA ((fun _ => .dead)) 0 (.d (.sl (List.map cU8 p0)))) 3 (.ptr 3 0 1 0 0)) 4 (.d (.v (.int .i64 v2.2.1)))) 5 (.d (.v (.int .i64 v2.2.2)))) 6 (.own 4 0 (v3.1).length)) 7 (.d (.v (.int .i64 v3.2)))) 54 (.d (.v (.bool v6))), lks [.no, .no, .no, .live [⟨32, 2, .av [[.d (.v (.int .i64 v2.1.Worm)), .own 5 0 (v2.1.Circles).length]]⟩], .live [⟨2, 1, .data (List.map cI v3.1)⟩], .live [⟨2, 1, .data (List.map cI v2.1.Circles)⟩]]⟩ ?_ ?_
    · skip
      refine aw_regionA (is := [0, 1, 2, 3, 4, 5, 6, 7, 8]) rfl ?_
      refine rp rfl w0 rfl (pu_move (r := .d _) rfl) ?_
      refine rp rfl w0 rfl (pu_move (r := .d _) rfl) ?_
      refine rp rfl w0 rfl (pu_neq rfl rfl) ?_
      refine rp rfl w0 rfl (pu_move (r := .d _) rfl) ?_
      refine ra_if (u := 49) h1 rfl (fun hc h1 => ?_) (fun hc h1 => ?_)
      · skip
        refine rk rfl rfl rfl (by first | exact .inl rfl | exact .inr rfl) rfl ?_
        refine rk rfl rfl rfl (by first | exact .inl rfl | exact .inr rfl) rfl ?_
        refine rk rfl rfl rfl (by first | exact .inl rfl | exact .inr rfl) rfl ?_
        refine rk rfl rfl rfl (by first | exact .inl rfl | exact .inr rfl) rfl ?_
        refine rp rfl w0 rfl (pu_pick_t (r := .d _) rfl rfl) ?_
        refine ra_nil ?_
        refine then_n ?_
        cases h1
        exact wk [0, 1, 2, 4, 5, 3]
      · skip
        refine rp rfl (w1 rfl rfl rfl) rfl (pu_move (r := .own _ _ _) rfl) ?_
        refine rp rfl (w1 rfl rfl rfl) rfl (pu_move (r := .own _ _ _) rfl) ?_
        obtain ⟨v5, hv5, h1⟩ := bnd h1
        refine rs rfl (w1 rfl rfl rfl) rfl (c_callV 7 (l_f6same_c hv5) rfl rfl) ?_
        refine rp rfl (w1 rfl rfl rfl) rfl (pu_not rfl) ?_
        refine rp rfl w0 rfl (pu_pick_f (r := .d _) rfl rfl) ?_
        refine ra_nil ?_
        refine then_n ?_
        cases h1
        exact wk [0, 1, 2, 4, 5, 3]
    · skip
      refine aw_ifB h0 rfl (fun hc h0 => ?_) (fun hc h0 => ?_)
      · skip
        refine aw_seq ?_
        refine aw_regionA (is := [0]) rfl ?_
        refine rp rfl w0 rfl (pu_assign (r := .d _) rfl) ?_
        refine ra_nil ?_
        refine then_n ?_
        refine aw_ret ?_
        refine then_r ?_
        cases h0
        exact ret0_ (rs := [.tmp 2]) rfl
      · skip
        refine aw_skip ?_
        refine then_n ?_
        refine aw_seq ?_
        refine aw_regionA (is := [0, 1, 2, 3, 4, 5, 6, 7]) rfl ?_
        refine rp rfl w0 rfl (pu_move (r := .d _) rfl) ?_
        obtain ⟨v7, hv7, h0⟩ := bnd h0
        refine rs rfl w0 rfl (c_call 6 (s_DrawExactDivisions_c hv7) rfl rfl rfl) ?_
        refine rp rfl w0 rfl (pu_move (r := .tup _) rfl) ?_
        refine rp rfl w0 rfl (pu_extract rfl rfl) ?_
        refine rp rfl w0 rfl (pu_extract rfl rfl) ?_
        refine rs rfl w0 rfl (st_alloc 7 (cs := [.d (.v (.int .i64 0)), .d (.v (.slice none 0 0))]) tok rfl rfl rfl) ?_
        refine rw0 rfl w0 (bx_st (cs := _ :: _) tok rfl rfl rfl rfl rfl rfl rfl) ?_
        refine rp rfl w0 rfl (pu_assign (r := .d _) rfl) ?_
        refine ra_nil ?_
        refine then_n ?_
        refine aw_seq ?_
        refine aw_regionA (is := [0, 1, 2, 3, 4, 5, 6, 7]) rfl ?_
        refine rl rfl w0 rfl (bx_ldN tok rfl rfl rfl rfl) ?_
        refine rp rfl w0 rfl (pu_move (r := .d _) rfl) ?_
        obtain ⟨v8, hv8, h0⟩ := bnd h0
        refine rs rfl w0 rfl (c_callV 8 (i_ExactDivisions_c hv8) rfl rfl) ?_
        refine rp rfl w0 rfl (pu_move (r := .tup _) rfl) ?_
        refine rp rfl w0 rfl (pu_extract rfl rfl) ?_
        refine rp rfl w0 rfl (pu_extract rfl rfl) ?_
        refine rp rfl w0 rfl (pu_assign (r := .own _ _ _) rfl) ?_
        refine rp rfl w0 rfl (pu_assign (r := .d _) rfl) ?_
        refine ra_nil ?_
        refine then_n ?_
        refine aw_seq ?_
        refine aw_regionA (is := [0, 1, 2, 3, 4, 5, 6, 7]) rfl ?_
        refine rl rfl w0 rfl (bx_ldN tok rfl rfl rfl rfl) ?_
        refine rp rfl w0 rfl (pu_move (r := .d _) rfl) ?_
        obtain ⟨v9, hv9, h0⟩ := bnd h0
        refine rs rfl w0 rfl (c_callV 9 (s_ExactDivisions_c hv9) rfl rfl) ?_
        refine rp rfl w0 rfl (pu_move (r := .tup _) rfl) ?_
        refine rp rfl w0 rfl (pu_extract rfl rfl) ?_
        refine rp rfl w0 rfl (pu_extract rfl rfl) ?_
        refine rp rfl w0 rfl (pu_assign (r := .own _ _ _) rfl) ?_
        refine rp rfl w0 rfl (pu_assign (r := .d _) rfl) ?_
        refine ra_nil ?_
        refine then_n ?_
        refine aw_seq ?_
        obtain ⟨v11, h1, h0⟩ := bnd h0
        refine aw_cut ⟨updA (updA (updA (updA (updA (updA (updA (updA (updA (updA (updA ((fun _ => .dead)) 0 (.d (.sl (List.map cU8 p0)))) 3 (.ptr 3 0 1 0 0)) 4 (.d (.v (.int .i64 v2.2.1)))) 5 (.d (.v (.int .i64 v2.2.2)))) 6 (.own 4 0 (v3.1).length)) 7 (.d (.v (.int .i64 v3.2)))) 10 (.ptr 5 0 1 0 0)) 11 (.d (.v (.int .i64 v7.2)))) 12 (.own 6 0 (v8.1).length)) 13 (.d (.v (.int .i64 v8.2)))) 80 (.d (.v (.bool v11))), lks [.no, .no, .no, .live [⟨32, 2, .av [[.d (.v (.int .i64 v2.1.Worm)), .own 7 0 (v2.1.Circles).length]]⟩], .live [⟨2, 1, .data (List.map cI v3.1)⟩], .live [⟨32, 2, .av [[.d (.v (.int .i64 v7.1.Worm)), .own 8 0 (v7.1.Circles).length]]⟩], .live [⟨2, 1, .data (List.map cI v8.1)⟩], .live [⟨2, 1, .data (List.map cI v2.1.Circles)⟩], .live [⟨2, 1, .data (List.map cI v7.1.Circles)⟩]]⟩ ?_ ?_
        · skip
          refine aw_regionA (is := [0, 1, 2, 3, 4, 5, 6, 7, 8]) rfl ?_
          refine rp rfl w0 rfl (pu_move (r := .d _) rfl) ?_
          refine rp rfl w0 rfl (pu_move (r := .d _) rfl) ?_
          refine rp rfl w0 rfl (pu_neq rfl rfl) ?_
          refine rp rfl w0 rfl (pu_move (r := .d _) rfl) ?_
          refine ra_if (u := 75) h1 rfl (fun hc h1 => ?_) (fun hc h1 => ?_)
          · skip
            refine rk rfl rfl rfl (by first | exact .inl rfl | exact .inr rfl) rfl ?_
            refine rk rfl rfl rfl (by first | exact .inl rfl | exact .inr rfl) rfl ?_
            refine rk rfl rfl rfl (by first | exact .inl rfl | exact .inr rfl) rfl ?_
            refine rk rfl rfl rfl (by first | exact .inl rfl | exact .inr rfl) rfl ?_
            refine rp rfl w0 rfl (pu_pick_t (r := .d _) rfl rfl) ?_
            refine ra_nil ?_
            refine then_n ?_
            cases h1
            exact wk [0, 1, 2, 3, 4, 7, 8, 5, 6]
          · skip
            refine rp rfl (w1 rfl rfl rfl) rfl (pu_move (r := .own _ _ _) rfl) ?_
            refine rp rfl (w1 rfl rfl rfl) rfl (pu_move (r := .own _ _ _) rfl) ?_
            obtain ⟨v10, hv10, h1⟩ := bnd h1
            refine rs rfl (w1 rfl rfl rfl) rfl (c_callV 10 (l_f6same_c hv10) rfl rfl) ?_
            refine rp rfl (w1 rfl rfl rfl) rfl (pu_not rfl) ?_
            refine rp rfl w0 rfl (pu_pick_f (r := .d _) rfl rfl) ?_
            refine ra_nil ?_
            refine then_n ?_
            cases h1
            exact wk [0, 1, 2, 3, 4, 7, 8, 5, 6]
        · skip
          refine aw_ifB h0 rfl (fun hc h0 => ?_) (fun hc h0 => ?_)
          · skip
            refine aw_seq ?_
            refine aw_regionA (is := [0]) rfl ?_
            refine rp rfl w0 rfl (pu_assign (r := .d _) rfl) ?_
            refine ra_nil ?_
            refine then_n ?_
            refine aw_ret ?_
            refine then_r ?_
            cases h0
            exact ret0_ (rs := [.tmp 2]) rfl
          · skip
            refine aw_skip ?_
            refine then_n ?_
            obtain ⟨v16x, h1, h0⟩ := bnd h0
            refine aw_cutE v16x (fun v16 => ⟨updA (updA (updA (updA (updA ((fun _ => .dead)) 3 (.ptr 3 0 1 0 0)) 4 (.d (.v (.int .i64 v2.2.1)))) 5 (.d (.v (.int .i64 v2.2.2)))) 6 (.own 4 0 (v3.1).length)) 7 (.d (.v (.int .i64 v3.2))), lks [.no, .no, .no, .live [⟨32, 2, .av [[.d (.v (.int .i64 v2.1.Worm)), .own 5 0 (v2.1.Circles).length]]⟩], .live [⟨2, 1, .data (List.map cI v3.1)⟩], .live [⟨2, 1, .data (List.map cI v2.1.Circles)⟩]]⟩) ?_ ?_
            · skip
              refine aw_seq ?_
              refine aw_regionA (is := [0, 1]) rfl ?_
              refine rp rfl w0 rfl (pu_move (r := .d _) rfl) ?_
              refine rp rfl w0 rfl (pu_eql rfl rfl) ?_
              refine ra_nil ?_
              refine then_n ?_
              refine aw_if h1 rfl (fun hc h1 => ?_) (fun hc h1 => ?_)
              · skip
                refine aw_seq ?_
                refine aw_regionA (is := [0, 1, 2, 3, 4, 5]) rfl ?_
                refine rp rfl w0 rfl (pu_move (r := .d _) rfl) ?_
                obtain ⟨v12, hv12, h1⟩ := bnd h1
                refine rs rfl w0 rfl (c_call 9 (l_f6roll_c hv12) rfl rfl rfl) ?_
                refine rp rfl w0 rfl (pu_move (r := .d _) rfl) ?_
                obtain ⟨v13, hv13, h1⟩ := bnd h1
                refine rw1 rfl w0 rfl (c_callP [9] 300 (laws_f6dice_below_b_c hv13) rfl rfl) ?_
                refine rp rfl w0 rfl (pw_add rfl rfl) ?_
                refine rp rfl w0 rfl (pu_assign (r := .d _) rfl) ?_
                refine ra_nil ?_
                refine then_n ?_
                refine aw_seq ?_
                refine aw_regionA (is := [0, 1, 2, 3, 4, 5, 6, 7, 8]) rfl ?_
                refine rl rfl w0 rfl (bx_ldN tok rfl rfl rfl rfl) ?_
                refine rp rfl w0 rfl (pu_move (r := .d _) rfl) ?_
                obtain ⟨v14, hv14, h1⟩ := bnd h1
                refine rs rfl w0 rfl (c_callV 10 (i_ExactIndex_c hv14) rfl rfl) ?_
                refine rp rfl w0 rfl (pu_move (r := .tup _) rfl) ?_
                refine rp rfl w0 rfl (pu_extract rfl rfl) ?_
                refine rp rfl w0 rfl (pu_extract rfl rfl) ?_
                refine rs rfl w0 rfl (st_alloc 10 (cs := [.d (.v (.int .i64 0)), .d (.v (.int .i64 0)), .d (.v (.int .i64 0))]) tok rfl rfl rfl) ?_
                refine rw0 rfl w0 (bx_st (cs := _ :: _) tok rfl rfl rfl rfl rfl rfl rfl) ?_
                refine rp rfl w0 rfl (pu_assign (r := .d _) rfl) ?_
                refine ra_nil ?_
                refine then_n ?_
                refine aw_seq ?_
                refine aw_regionA (is := [0, 1, 2, 3, 4, 5]) rfl ?_
                refine rp rfl w0 rfl (pu_move (r := .own _ _ _) rfl) ?_
                refine rp rfl w0 rfl (pu_move (r := .d _) rfl) ?_
                obtain ⟨v15, hv15, h1⟩ := bnd h1
                refine rs rfl w0 rfl (c_callV 11 (l_f6has_c hv15) rfl rfl) ?_
                refine rp rfl w0 rfl (pu_move (r := .d _) rfl) ?_
                refine rp rfl w0 rfl (pu_eql rfl rfl) ?_
                refine rp rfl w0 rfl (pu_bneq tok rfl rfl rfl rfl) ?_
                refine ra_nil ?_
                refine then_n ?_
                refine aw_ifB h1 rfl (fun hc h1 => ?_) (fun hc h1 => ?_)
                · skip
                  refine aw_seq ?_
                  refine aw_regionA (is := [0]) rfl ?_
                  refine rp rfl w0 rfl (pu_assign (r := .d _) rfl) ?_
                  refine ra_nil ?_
                  refine then_n ?_
                  refine aw_ret ?_
                  cases h1
                  replace h0 := orE_s h0
                  refine then_r ?_
                  cases h0
                  exact ret0_ (rs := [.tmp 2]) rfl
                · skip
                  refine aw_skip ?_
                  refine then_n ?_
                  cases h1
                  refine ⟨_, rfl, ?_⟩
                  exact wk [0, 1, 2, 3, 4, 7]
              · skip
                refine aw_skip ?_
                refine then_n ?_
                cases h1
                refine ⟨_, rfl, ?_⟩
                exact wk [0, 1, 2, 3, 4, 7]
            · skip
              rintro v16 rfl
              replace h0 := orE_f h0
              refine aw_seq ?_
              refine aw_seq ?_
              refine aw_regionA (is := [0, 1]) rfl ?_
              refine rp rfl w0 rfl (pu_move (r := .d _) rfl) ?_
              refine rp rfl w0 rfl (pu_neq rfl rfl) ?_
              refine ra_nil ?_
              refine then_n ?_
              refine aw_if h0 rfl (fun hc h0 => ?_) (fun hc h0 => ?_)
              · skip
                refine aw_seq ?_
                refine aw_regionA (is := [0]) rfl ?_
                refine rp rfl w0 rfl (pu_assign (r := .d _) rfl) ?_
                refine ra_nil ?_
                refine then_n ?_
                refine aw_ret ?_
                refine then_r ?_
                cases h0
                exact ret0_ (rs := [.tmp 2]) rfl
              · skip
                refine aw_skip ?_
                refine then_n ?_
                refine aw_seq ?_
                refine aw_regionA (is := [0, 1, 2, 3, 4]) rfl ?_
                refine rl rfl w0 rfl (bx_fa tok rfl rfl rfl rfl rfl rfl rfl) ?_
                refine rl rfl w0 rfl (bx_ld1 tok rfl rfl rfl rfl rfl) ?_
                refine rp rfl w0 rfl (pu_move (r := .d _) rfl) ?_
                refine rp rfl w0 rfl (pw_mul rfl rfl) ?_
                refine rp rfl w0 rfl (pu_assign (r := .d _) rfl) ?_
                refine ra_nil ?_
                refine then_n ?_
                refine aw_seq ?_
                refine aw_regionA (is := [0, 1, 2, 3]) rfl ?_
                refine rp rfl w0 rfl (pu_move (r := .d _) rfl) ?_
                refine rp rfl w0 rfl (pu_move (r := .d _) rfl) ?_
                obtain ⟨hq17, h0⟩ := chk_e h0
                refine rp rfl w0 rfl (pw_quo rfl rfl hq17) ?_
                refine rp rfl w0 rfl (pu_assign (r := .d _) rfl) ?_
                refine ra_nil ?_
                refine then_n ?_
                obtain ⟨v30x, h1, h0⟩ := bnd h0
                refine aw_cutE v30x (fun v30 => ⟨updA ((fun _ => .dead)) 6 (.own 3 0 (v3.1).length), lks [.no, .no, .no, .live [⟨2, 1, .data (List.map cI v3.1)⟩]]⟩) ?_ ?_
                · skip
                  refine aw_seq ?_
                  refine aw_regionA (is := [0]) rfl ?_
                  refine rp rfl w0 rfl (pu_assign (r := .d _) rfl) ?_
                  refine ra_nil ?_
                  refine then_n ?_
                  refine aw_block ?_
                  refine aw_loopM (fun s24 => ⟨updA (updA (updA (updA (updA ((fun _ => .dead)) 5 (.d (.v (.int .i64 v2.2.2)))) 6 (.own 3 0 (v3.1).length)) 19 (.d (.v (.int .i64 (w64 (v2.1.Worm * v2.2.1)))))) 20 (.d (.v (.int .i64 (w64 ((w64 (v2.1.Worm * v2.2.1)).tdiv v2.2.2)))))) 21 (.d (.v (.int .i64 s24))), lks [.no, .no, .no, .live [⟨2, 1, .data (List.map cI v3.1)⟩]]⟩) h1 ?_ (fun s24 y h2 => ?_)
                  · skip
                    exact wk [0, 1, 2, 4]
                  · skip
                    refine aw_seq ?_
                    refine aw_seq ?_
                    refine aw_regionA (is := [0, 1, 2, 3]) rfl ?_
                    refine rp rfl w0 rfl (pu_move (r := .d _) rfl) ?_
                    refine rp rfl w0 rfl (pu_move (r := .own _ _ _) rfl) ?_
                    refine rl rfl w0 rfl (ow_len tok rfl rfl rfl rfl rfl) ?_
                    refine rp rfl w0 rfl (pu_lss rfl rfl) ?_
                    refine ra_nil ?_
                    refine then_n ?_
                    refine aw_if h2 rfl (fun hc h2 => ?_) (fun hc h2 => ?_)
                    · skip
                      refine aw_skip ?_
                      refine then_n ?_
                      refine aw_seq ?_
                      refine aw_block ?_
                      refine aw_seq ?_
                      refine aw_regionA (is := [0, 1]) rfl ?_
                      refine rp rfl w0 rfl (pu_move (r := .d _) rfl) ?_
                      refine rp rfl w0 rfl (pu_assign (r := .d _) rfl) ?_
                      refine ra_nil ?_
                      refine then_n ?_
                      obtain ⟨v26, h3, h2⟩ := bnd h2
                      refine aw_cut ⟨updA (updA (updA (updA (updA (updA ((fun _ => .dead)) 5 (.d (.v (.int .i64 v2.2.2)))) 6 (.own 3 0 (v3.1).length)) 19 (.d (.v (.int .i64 (w64 (v2.1.Worm * v2.2.1)))))) 20 (.d (.v (.int .i64 (w64 ((w64 (v2.1.Worm * v2.2.1)).tdiv v2.2.2)))))) 21 (.d (.v (.int .i64 s24)))) 22 (.d (.v (.int .i64 v26))), lks [.no, .no, .no, .live [⟨2, 1, .data (List.map cI v3.1)⟩]]⟩ ?_ ?_
                      · skip
                        refine aw_seq ?_
                        refine aw_regionA (is := [0, 1, 2, 3, 4]) rfl ?_
                        refine rp rfl w0 rfl (pu_move (r := .d _) rfl) ?_
                        refine rp rfl w0 rfl (pw_add rfl rfl) ?_
                        refine rp rfl w0 rfl (pu_move (r := .own _ _ _) rfl) ?_
                        refine rl rfl w0 rfl (ow_len tok rfl rfl rfl rfl rfl) ?_
                        refine rp rfl w0 rfl (pu_lss rfl rfl) ?_
                        refine ra_nil ?_
                        refine then_n ?_
                        refine aw_if h3 rfl (fun hc h3 => ?_) (fun hc h3 => ?_)
                        · skip
                          refine aw_regionA (is := [0, 1, 2, 3, 4, 5]) rfl ?_
                          refine rp rfl w0 rfl (pu_move (r := .own _ _ _) rfl) ?_
                          refine rp rfl w0 rfl (pu_move (r := .d _) rfl) ?_
                          refine rp rfl w0 rfl (pw_add rfl rfl) ?_
                          obtain ⟨v25, hv25, h3⟩ := bnd h3
                          refine rl rfl w0 rfl (ow_ix tok hv25 rfl rfl rfl rfl rfl rfl rfl rfl) ?_
                          refine rl rfl w0 rfl (rw_ld1 tok (atI_e hv25).2.1 rfl rfl rfl rfl rfl rfl) ?_
                          refine rp rfl w0 rfl (pu_assign (r := .d _) rfl) ?_
                          refine ra_nil ?_
                          refine then_n ?_
                          cases h3
                          exact wk [0, 1, 2, 3]
                        · skip
                          refine aw_skip ?_
                          refine then_n ?_
                          cases h3
                          exact wk [0, 1, 2, 3]
                      · skip
                        refine aw_seq ?_
                        refine aw_regionA (is := [0, 1, 2, 3, 4, 5, 6]) rfl ?_
                        refine rp rfl w0 rfl (pu_move (r := .d _) rfl) ?_
                        refine rp rfl w0 rfl (pu_move (r := .own _ _ _) rfl) ?_
                        refine rp rfl w0 rfl (pu_move (r := .d _) rfl) ?_
                        obtain ⟨v27, hv27, h2⟩ := bnd h2
                        refine rl rfl w0 rfl (ow_ix tok hv27 rfl rfl rfl rfl rfl rfl rfl rfl) ?_
                        refine rl rfl w0 rfl (rw_ld1 tok (atI_e hv27).2.1 rfl rfl rfl rfl rfl rfl) ?_
                        refine rp rfl w0 rfl (pw_sub rfl rfl) ?_
                        refine rp rfl w0 rfl (pu_assign (r := .d _) rfl) ?_
                        refine ra_nil ?_
                        refine then_n ?_
                        obtain ⟨v29, h3, h2⟩ := bnd h2
                        refine aw_cut ⟨updA (updA (updA (updA (updA (updA ((fun _ => .dead)) 5 (.d (.v (.int .i64 v2.2.2)))) 6 (.own 3 0 (v3.1).length)) 19 (.d (.v (.int .i64 (w64 (v2.1.Worm * v2.2.1)))))) 20 (.d (.v (.int .i64 (w64 ((w64 (v2.1.Worm * v2.2.1)).tdiv v2.2.2)))))) 21 (.d (.v (.int .i64 s24)))) 151 (.d (.v (.bool v29))), lks [.no, .no, .no, .live [⟨2, 1, .data (List.map cI v3.1)⟩]]⟩ ?_ ?_
                        · skip
                          refine aw_regionA (is := [0, 1, 2, 3, 4, 5, 6, 7, 8, 9, 10, 11, 12, 13, 14, 15, 16, 17, 18, 19]) rfl ?_
                          refine rp rfl w0 rfl (pu_move (r := .d _) rfl) ?_
                          refine rp rfl w0 rfl (pu_move (r := .d _) rfl) ?_
                          refine rp rfl w0 rfl (pu_lss rfl rfl) ?_
                          refine rp rfl w0 rfl (pu_move (r := .d _) rfl) ?_
                          refine ra_if (u := 135) h3 rfl (fun hc h3 => ?_) (fun hc h3 => ?_)
                          · skip
                            refine rk rfl rfl rfl (by first | exact .inl rfl | exact .inr rfl) rfl ?_
                            refine rk rfl rfl rfl (by first | exact .inl rfl | exact .inr rfl) rfl ?_
                            refine rk rfl rfl rfl (by first | exact .inl rfl | exact .inr rfl) rfl ?_
                            refine rk rfl rfl rfl (by first | exact .inl rfl | exact .inr rfl) rfl ?_
                            refine rp rfl w0 rfl (pu_pick_t (r := .d _) rfl rfl) ?_
                            refine rp rfl w0 rfl (pu_move (r := .d _) rfl) ?_
                            refine rk rfl rfl rfl (by first | exact .inl rfl | exact .inr rfl) rfl ?_
                            refine rk rfl rfl rfl (by first | exact .inl rfl | exact .inr rfl) rfl ?_
                            refine rk rfl rfl rfl (by first | exact .inl rfl | exact .inr rfl) rfl ?_
                            refine rk rfl rfl rfl (by first | exact .inl rfl | exact .inr rfl) rfl ?_
                            refine rk rfl rfl rfl (by first | exact .inl rfl | exact .inr rfl) rfl ?_
                            refine rk rfl rfl rfl (by first | exact .inl rfl | exact .inr rfl) rfl ?_
                            refine rk rfl rfl rfl (by first | exact .inl rfl | exact .inr rfl) rfl ?_
                            refine rk rfl rfl rfl (by first | exact .inl rfl | exact .inr rfl) rfl ?_
                            refine rk rfl rfl rfl (by first | exact .inl rfl | exact .inr rfl) rfl ?_
                            refine rp rfl w0 rfl (pu_pick_t (r := .d _) rfl rfl) ?_
                            refine ra_nil ?_
                            refine then_n ?_
                            cases h3
                            exact wk [0, 1, 2, 3]
                          · skip
                            refine rp rfl (w1 rfl rfl rfl) rfl (pu_move (r := .d _) rfl) ?_
                            refine rp rfl (w1 rfl rfl rfl) rfl (pu_move (r := .d _) rfl) ?_
                            refine rp rfl (w1 rfl rfl rfl) rfl (pw_add rfl rfl) ?_
                            refine rp rfl (w1 rfl rfl rfl) rfl (pu_gtr rfl rfl) ?_
                            refine rp rfl w0 rfl (pu_pick_f (r := .d _) rfl rfl) ?_
                            refine rp rfl w0 rfl (pu_move (r := .d _) rfl) ?_
                            refine ra_if (u := 141) h3 rfl (fun hc h3 => ?_) (fun hc h3 => ?_)
                            · skip
                              refine rk rfl rfl rfl (by first | exact .inl rfl | exact .inr rfl) rfl ?_
                              refine rk rfl rfl rfl (by first | exact .inl rfl | exact .inr rfl) rfl ?_
                              refine rk rfl rfl rfl (by first | exact .inl rfl | exact .inr rfl) rfl ?_
                              refine rk rfl rfl rfl (by first | exact .inl rfl | exact .inr rfl) rfl ?_
                              refine rk rfl rfl rfl (by first | exact .inl rfl | exact .inr rfl) rfl ?_
                              refine rk rfl rfl rfl (by first | exact .inl rfl | exact .inr rfl) rfl ?_
                              refine rk rfl rfl rfl (by first | exact .inl rfl | exact .inr rfl) rfl ?_
                              refine rk rfl rfl rfl (by first | exact .inl rfl | exact .inr rfl) rfl ?_
                              refine rk rfl rfl rfl (by first | exact .inl rfl | exact .inr rfl) rfl ?_
                              refine rp rfl w0 rfl (pu_pick_t (r := .d _) rfl rfl) ?_
                              refine ra_nil ?_
                              refine then_n ?_
                              cases h3
                              exact wk [0, 1, 2, 3]
                            · skip
                              refine rp rfl (w1 rfl rfl rfl) rfl (pu_move (r := .d _) rfl) ?_
                              refine rp rfl (w1 rfl rfl rfl) rfl (pu_move (r := .d _) rfl) ?_
                              obtain ⟨hq28, h3⟩ := chk_e h3
                              refine rp rfl (w1 rfl rfl rfl) rfl (pu_remw rfl rfl hq28) ?_
                              refine rp rfl (w1 rfl rfl rfl) rfl (pu_eql rfl rfl) ?_
                              refine rp rfl (w1 rfl rfl rfl) rfl (pu_move (r := .d _) rfl) ?_
                              refine ra_if (u := 146) h3 rfl (fun hc h3 => ?_) (fun hc h3 => ?_)
                              · skip
                                refine rp rfl (w1 rfl rfl rfl) rfl (pu_move (r := .d _) rfl) ?_
                                refine rp rfl (w1 rfl rfl rfl) rfl (pu_move (r := .d _) rfl) ?_
                                refine rp rfl (w1 rfl rfl rfl) rfl (pu_neq rfl rfl) ?_
                                refine rp rfl (w1 rfl rfl rfl) rfl (pu_pick_t (r := .d _) rfl rfl) ?_
                                refine rp rfl w0 rfl (pu_pick_f (r := .d _) rfl rfl) ?_
                                refine ra_nil ?_
                                refine then_n ?_
                                cases h3
                                exact wk [0, 1, 2, 3]
                              · skip
                                refine rk rfl rfl rfl (by first | exact .inl rfl | exact .inr rfl) rfl ?_
                                refine rk rfl rfl rfl (by first | exact .inl rfl | exact .inr rfl) rfl ?_
                                refine rk rfl rfl rfl (by first | exact .inl rfl | exact .inr rfl) rfl ?_
                                refine rp rfl (w1 rfl rfl rfl) rfl (pu_pick_f (r := .d _) rfl rfl) ?_
                                refine rp rfl w0 rfl (pu_pick_f (r := .d _) rfl rfl) ?_
                                refine ra_nil ?_
                                refine then_n ?_
                                cases h3
                                exact wk [0, 1, 2, 3]
                        · skip
                          refine aw_ifB h2 rfl (fun hc h2 => ?_) (fun hc h2 => ?_)
                          · skip
                            refine aw_seq ?_
                            refine aw_regionA (is := [0]) rfl ?_
                            refine rp rfl w0 rfl (pu_assign (r := .d _) rfl) ?_
                            refine ra_nil ?_
                            refine then_n ?_
                            refine aw_ret ?_
                            refine block_r ?_
                            refine then_r ?_
                            cases h2
                            refine loop_r ⟨_, rfl, fun e => ?_⟩
                            subst e
                            refine block_r ?_
                            replace h0 := orE_s h0
                            refine then_r ?_
                            cases h0
                            exact ret0_ (rs := [.tmp 2]) rfl
                          · skip
                            refine aw_skip ?_
                            refine block_n ?_
                            refine then_n ?_
                            refine aw_regionA (is := [0, 1, 2]) rfl ?_
                            refine rp rfl w0 rfl (pu_move (r := .d _) rfl) ?_
                            refine rp rfl w0 rfl (pw_add rfl rfl) ?_
                            refine rp rfl w0 rfl (pu_assign (r := .d _) rfl) ?_
                            refine ra_nil ?_
                            refine loop_n ?_
                            cases h2
                            refine ⟨_, rfl, ?_⟩
                            exact wk [0, 1, 2, 3]
                    · skip
                      refine aw_exit ?_
                      refine then_e ?_
                      cases h2
                      refine loop_x ⟨_, rfl, fun e => ?_⟩
                      subst e
                      refine block_hit ?_
                      refine then_n ?_
                      refine ⟨_, rfl, ?_⟩
                      exact wk [0, 1, 2, 3]
                · skip
                  rintro v30 rfl
                  replace h0 := orE_f h0
                  refine aw_seq ?_
                  refine aw_regionA (is := [0, 1, 2, 3, 4, 5, 6, 7, 8, 9]) rfl ?_
                  refine rp rfl w0 rfl (pu_move (r := .own _ _ _) rfl) ?_
                  refine rl rfl w0 rfl (ow_len tok rfl rfl rfl rfl rfl) ?_
                  refine rp rfl w0 rfl (pu_gtr rfl rfl) ?_
                  refine rp rfl w0 rfl (pu_move (r := .d _) rfl) ?_
                  refine ra_if (u := 155) h0 rfl (fun hc h0 => ?_) (fun hc h0 => ?_)
                  · skip
                    refine rp rfl (w1 rfl rfl rfl) rfl (pu_move (r := .own _ _ _) rfl) ?_
                    obtain ⟨v31, hv31, h0⟩ := bnd h0
                    refine rl rfl (w1 rfl rfl rfl) rfl (ow_ix tok hv31 rfl rfl rfl rfl rfl rfl rfl rfl) ?_
                    refine rl rfl (w1 rfl rfl rfl) rfl (rw_ld1 tok (atI_e hv31).2.1 rfl rfl rfl rfl rfl rfl) ?_
                    refine rp rfl (w1 rfl rfl rfl) rfl (pu_eql rfl rfl) ?_
                    refine rp rfl w0 rfl (pu_pick_t (r := .d _) rfl rfl) ?_
                    refine rp rfl w0 rfl (pu_assign (r := .d _) rfl) ?_
                    refine ra_nil ?_
                    refine then_n ?_
                    refine aw_ret ?_
                    cases h0
                    exact ret0_ (rs := [.tmp 2]) rfl
                  · skip
                    refine rk rfl rfl rfl (by first | exact .inl rfl | exact .inr rfl) rfl ?_
                    refine rk rfl rfl rfl (by first | exact .inl rfl | exact .inr rfl) rfl ?_
                    refine rk rfl rfl rfl (by first | exact .inl rfl | exact .inr rfl) rfl ?_
                    refine rk rfl rfl rfl (by first | exact .inl rfl | exact .inr rfl) rfl ?_
                    refine rp rfl w0 rfl (pu_pick_f (r := .d _) rfl rfl) ?_
                    refine rp rfl w0 rfl (pu_assign (r := .d _) rfl) ?_
                    refine ra_nil ?_
                    refine then_n ?_
                    refine aw_ret ?_
                    cases h0
                    exact ret0_ (rs := [.tmp 2]) rfl

end Go.Proofs.Ytkgeenglafchhaa
