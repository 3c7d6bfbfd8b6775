/- walks -/
import Derived.Test.YtkgeenglafchhaaXM
import Derived.Test.YtkgeenglafchhaaTab
import Derived.Test.YtkgeenglafchhaaProg
import Derived.Test.YtkgeenglafchhaaWWheelCount1
namespace Go.Proofs.Ytkgeenglafchhaa
open Go.RowKit
set_option linter.unusedVariables false
set_option maxRecDepth 100000
set_option maxHeartbeats 2000000
theorem i_validArbor_c {p0 : Arbor_} {r : Bool} (h0 : i_validArbor_m p0 = some r) : FnC Try.prog 140 [] [.agg [.d (.v (.string p0.Name)), .d (.sl (List.map cI p0.Wheels))]] [] (.d (.v (.bool r))) := by
  refine fnc_intro (T := tt) (N := 25) tok Try.func140 rfl rfl (by kernel_rfl) rfl rfl ?_
  unfold i_validArbor_m at h0
  refine aw_seq ?_
  refine aw_regionA (is := [0, 1]) rfl ?_
  refine rs rfl w0 rfl (st_box 3 (cs := _ :: _) rfl rfl rfl) ?_
  refine rp rfl w0 rfl (pu_assign (r := .d _) rfl) ?_
  refine ra_nil ?_
  refine then_n ?_
  obtain ⟨v7x, h1, h0⟩ := bnd h0
  refine aw_cutE v7x (fun v7 => ⟨updA ((fun _ => .dead)) 1 (.ptr 3 0 1 0 0), lks [.no, .no, .no, .live [⟨151, 2, .av [[.d (.v (.string p0.Name)), .d (.sl (List.map cI p0.Wheels))]]⟩]]⟩) ?_ ?_
  · skip
    refine aw_seq ?_
    refine aw_regionA (is := [0, 1, 2, 3]) rfl ?_
    refine rl rfl w0 rfl (bx_fa tok rfl rfl rfl rfl rfl rfl rfl) ?_
    refine rl rfl w0 rfl (bx_ld1 tok rfl rfl rfl rfl rfl) ?_
    refine rp rfl w0 rfl (pu_len_map tok rfl rfl rfl) ?_
    refine rp rfl w0 rfl (pu_move (r := .d _) rfl) ?_
    refine ra_nil ?_
    refine then_n ?_
    refine aw_block ?_
    refine aw_loopM (fun s4 => ⟨updA (updA (updA (updA ((fun _ => .dead)) 1 (.ptr 3 0 1 0 0)) 6 (.d (.sl (List.map cI p0.Wheels)))) 7 (.d (.v (.int .i64 (p0.Wheels.length : Int))))) 8 (.d (.v (.int .i64 s4))), lks [.no, .no, .no, .live [⟨151, 2, .av [[.d (.v (.string p0.Name)), .d (.sl (List.map cI p0.Wheels))]]⟩]]⟩) h1 ?_ (fun s4 y h2 => ?_)
    · skip
      exact wk [0, 1, 2, 3]
    · skip
      refine aw_seq ?_
      refine aw_regionA (is := [0]) rfl ?_
      refine rp rfl w0 rfl (pu_lss rfl rfl) ?_
      refine ra_nil ?_
      refine then_n ?_
      refine aw_seq ?_
      refine aw_if h2 rfl (fun hc h2 => ?_) (fun hc h2 => ?_)
      · skip
        refine aw_skip ?_
        refine then_n ?_
        refine aw_seq ?_
        refine aw_block ?_
        refine aw_seq ?_
        refine aw_regionA (is := [0, 1, 2]) rfl ?_
        obtain ⟨v5, hv5, h2⟩ := bnd h2
        refine rp rfl w0 rfl (sl_ix tok hv5 rfl rfl rfl rfl rfl rfl) ?_
        refine rp rfl w0 rfl (pu_load_ref1 tok rfl rfl rfl rfl) ?_
        refine rp rfl w0 rfl (pu_assign (r := .d _) rfl) ?_
        refine ra_nil ?_
        refine then_n ?_
        refine aw_seq ?_
        refine aw_regionA (is := [0, 1, 2]) rfl ?_
        refine rp rfl w0 rfl (pu_move (r := .d _) rfl) ?_
        obtain ⟨v6, hv6, h2⟩ := bnd h2
        refine rs rfl w0 rfl (c_call 4 (i_toothed_c hv6) rfl rfl rfl) ?_
        refine rp rfl w0 rfl (pu_not rfl) ?_
        refine ra_nil ?_
        refine then_n ?_
        refine aw_ifB h2 rfl (fun hc h2 => ?_) (fun hc h2 => ?_)
        · skip
          refine aw_seq ?_
          refine aw_regionA (is := [0]) rfl ?_
          refine rp rfl w0 rfl (pu_assign (r := .d _) rfl) ?_
          refine ra_nil ?_
          refine then_n ?_
          refine aw_ret ?_
          refine block_r ?_
          refine then_r ?_
          cases h2
          refine loop_r ⟨_, rfl, fun e => ?_⟩
          subst e
          refine block_r ?_
          replace h0 := orE_s h0
          refine then_r ?_
          cases h0
          exact ret0_ (rs := [.tmp 2]) rfl
        · skip
          refine aw_skip ?_
          refine block_n ?_
          refine then_n ?_
          refine aw_regionA (is := [0, 1]) rfl ?_
          refine rp rfl w0 rfl (pw_add rfl rfl) ?_
          refine rp rfl w0 rfl (pu_move (r := .d _) rfl) ?_
          refine ra_nil ?_
          refine loop_n ?_
          cases h2
          refine ⟨_, rfl, ?_⟩
          exact wk [0, 1, 2, 3]
      · skip
        refine aw_exit ?_
        refine then_e ?_
        cases h2
        refine loop_x ⟨_, rfl, fun e => ?_⟩
        subst e
        refine block_hit ?_
        refine then_n ?_
        refine ⟨_, rfl, ?_⟩
        exact wk [0, 1, 2, 3]
  · skip
    rintro v7 rfl
    replace h0 := orE_f h0
    refine aw_seq ?_
    refine aw_regionA (is := [0, 1, 2, 3, 4, 5, 6, 7, 8, 9]) rfl ?_
    refine rl rfl w0 rfl (bx_fa tok rfl rfl rfl rfl rfl rfl rfl) ?_
    refine rl rfl w0 rfl (bx_ld1 tok rfl rfl rfl rfl rfl) ?_
    obtain ⟨v8, hv8, h0⟩ := bnd h0
    refine rs rfl w0 rfl (c_call 4 (i_IsName_c hv8) rfl rfl rfl) ?_
    refine rp rfl w0 rfl (pu_move (r := .d _) rfl) ?_
    refine ra_ifB (u := 19) h0 rfl (fun hc h0 => ?_) (fun hc h0 => ?_)
    · skip
      refine rl rfl (w1 rfl rfl rfl) rfl (bx_fa tok rfl rfl rfl rfl rfl rfl rfl) ?_
      refine rl rfl (w1 rfl rfl rfl) rfl (bx_ld1 tok rfl rfl rfl rfl rfl) ?_
      refine rp rfl (w1 rfl rfl rfl) rfl (pu_len_map tok rfl rfl rfl) ?_
      refine rp rfl (w1 rfl rfl rfl) rfl (pu_leq rfl rfl) ?_
      refine rp rfl w0 rfl (pu_pick_t (r := .d _) rfl rfl) ?_
      refine rp rfl w0 rfl (pu_assign (r := .d _) rfl) ?_
      refine ra_nil ?_
      refine then_n ?_
      refine aw_ret ?_
      cases h0
      exact ret0_ (rs := [.tmp 2]) rfl
    · skip
      refine rk rfl rfl rfl (by first | exact .inl rfl | exact .inr rfl) rfl ?_
      refine rk rfl rfl rfl (by first | exact .inl rfl | exact .inr rfl) rfl ?_
      refine rk rfl rfl rfl (by first | exact .inl rfl | exact .inr rfl) rfl ?_
      refine rk rfl rfl rfl (by first | exact .inl rfl | exact .inr rfl) rfl ?_
      refine rp rfl w0 rfl (pu_pick_f (r := .d _) rfl rfl) ?_
      refine rp rfl w0 rfl (pu_assign (r := .d _) rfl) ?_
      refine ra_nil ?_
      refine then_n ?_
      refine aw_ret ?_
      cases h0
      exact ret0_ (rs := [.tmp 2]) rfl

theorem i_hasWheel_c {p0 : Works_} {p1 : Int} {p2 : Int} {r : Bool} (h0 : i_hasWheel_m p0 p1 p2 = some r) : FnC Try.prog 174 [] [.agg [.d (.sl (List.map cArbor_ p0.Arbors)), .d (.sl (List.map cMesh_ p0.Meshes))], .d (.v (.int .i64 p1)), .d (.v (.int .i64 p2))] [] (.d (.v (.bool r))) := by
  refine fnc_intro (T := tt) (N := 25) tok Try.func174 rfl rfl (by kernel_rfl) rfl rfl ?_
  unfold i_hasWheel_m at h0
  refine aw_seq ?_
  refine aw_regionA (is := [0, 1]) rfl ?_
  refine rs rfl w0 rfl (st_box 3 (cs := _ :: _) rfl rfl rfl) ?_
  refine rp rfl w0 rfl (pu_assign (r := .d _) rfl) ?_
  refine ra_nil ?_
  refine then_n ?_
  refine aw_seq ?_
  refine aw_regionA (is := [0, 1, 2, 3, 4, 5, 6, 7, 8, 9, 10, 11, 12, 13, 14, 15, 16, 17, 18]) rfl ?_
  refine rp rfl w0 rfl (pu_move (r := .d _) rfl) ?_
  refine rl rfl w0 rfl (bx_fa tok rfl rfl rfl rfl rfl rfl rfl) ?_
  refine rl rfl w0 rfl (bx_ld1 tok rfl rfl rfl rfl rfl) ?_
  refine rp rfl w0 rfl (pu_len_map tok rfl rfl rfl) ?_
  refine rp rfl w0 rfl (pw_sub rfl rfl) ?_
  obtain ⟨v1, hv1, h0⟩ := bnd h0
  refine rs rfl w0 rfl (c_call 4 (i_within_c hv1) rfl rfl rfl) ?_
  refine rp rfl w0 rfl (pu_move (r := .d _) rfl) ?_
  refine ra_ifB (u := 13) h0 rfl (fun hc h0 => ?_) (fun hc h0 => ?_)
  · skip
    refine rp rfl (w1 rfl rfl rfl) rfl (pu_move (r := .d _) rfl) ?_
    refine rl rfl (w1 rfl rfl rfl) rfl (bx_fa tok rfl rfl rfl rfl rfl rfl rfl) ?_
    refine rl rfl (w1 rfl rfl rfl) rfl (bx_ld1 tok rfl rfl rfl rfl rfl) ?_
    refine rp rfl (w1 rfl rfl rfl) rfl (pu_move (r := .d _) rfl) ?_
    obtain ⟨v2, hv2, h0⟩ := bnd h0
    refine rp rfl (w1 rfl rfl rfl) rfl (sl_ix tok hv2 rfl rfl rfl rfl rfl rfl) ?_
    refine rp rfl (w1 rfl rfl rfl) rfl (pu_fieldAddr_ref tok rfl rfl rfl rfl rfl rfl (by repeat (first | exact Drp.z _ | apply Drp.d))) ?_
    refine rp rfl (w1 rfl rfl rfl) rfl (pu_load_ref1 tok rfl rfl rfl rfl) ?_
    refine rp rfl (w1 rfl rfl rfl) rfl (pu_len_map tok rfl rfl rfl) ?_
    refine rp rfl (w1 rfl rfl rfl) rfl (pw_sub rfl rfl) ?_
    obtain ⟨v3, hv3, h0⟩ := bnd h0
    refine rs rfl (w1 rfl rfl rfl) rfl (c_call 4 (i_within_c hv3) rfl rfl rfl) ?_
    refine rp rfl w0 rfl (pu_pick_t (r := .d _) rfl rfl) ?_
    refine rp rfl w0 rfl (pu_assign (r := .d _) rfl) ?_
    refine ra_nil ?_
    refine then_n ?_
    refine aw_ret ?_
    cases h0
    exact ret0_ (rs := [.tmp 6]) rfl
  · skip
    refine rk rfl rfl rfl (by first | exact .inl rfl | exact .inr rfl) rfl ?_
    refine rk rfl rfl rfl (by first | exact .inl rfl | exact .inr rfl) rfl ?_
    refine rk rfl rfl rfl (by first | exact .inl rfl | exact .inr rfl) rfl ?_
    refine rk rfl rfl rfl (by first | exact .inl rfl | exact .inr rfl) rfl ?_
    refine rk rfl rfl rfl (by first | exact .inl rfl | exact .inr rfl) rfl ?_
    refine rk rfl rfl rfl (by first | exact .inl rfl | exact .inr rfl) rfl ?_
    refine rk rfl rfl rfl (by first | exact .inl rfl | exact .inr rfl) rfl ?_
    refine rk rfl rfl rfl (by first | exact .inl rfl | exact .inr rfl) rfl ?_
    refine rk rfl rfl rfl (by first | exact .inl rfl | exact .inr rfl) rfl ?_
    refine rk rfl rfl rfl (by first | exact .inl rfl | exact .inr rfl) rfl ?_
    refine rp rfl w0 rfl (pu_pick_f (r := .d _) rfl rfl) ?_
    refine rp rfl w0 rfl (pu_assign (r := .d _) rfl) ?_
    refine ra_nil ?_
    refine then_n ?_
    refine aw_ret ?_
    cases h0
    exact ret0_ (rs := [.tmp 6]) rfl

theorem i_joins_c {p0 : Works_} {p1 : Mesh_} {r : Bool} (h0 : i_joins_m p0 p1 = some r) : FnC Try.prog 141 [] [.agg [.d (.sl (List.map cArbor_ p0.Arbors)), .d (.sl (List.map cMesh_ p0.Meshes))], .agg [.d (.v (.int .i64 p1.A)), .d (.v (.int .i64 p1.WheelA)), .d (.v (.int .i64 p1.B)), .d (.v (.int .i64 p1.WheelB))]] [] (.d (.v (.bool r))) := by
  refine fnc_intro (T := tt) (N := 26) tok Try.func141 rfl rfl (by kernel_rfl) rfl rfl ?_
  unfold i_joins_m at h0
  refine aw_seq ?_
  refine aw_regionA (is := [0, 1, 2]) rfl ?_
  refine rs rfl w0 rfl (st_box 3 (cs := _ :: _) rfl rfl rfl) ?_
  refine rs rfl w0 rfl (st_box 4 (cs := _ :: _) rfl rfl rfl) ?_
  refine rp rfl w0 rfl (pu_assign (r := .d _) rfl) ?_
  refine ra_nil ?_
  refine then_n ?_
  refine aw_seq ?_
  refine aw_regionA (is := [0, 1, 2, 3, 4, 5, 6, 7, 8, 9, 10, 11, 12, 13, 14, 15, 16, 17, 18, 19, 20, 21]) rfl ?_
  refine rl rfl w0 rfl (bx_fa tok rfl rfl rfl rfl rfl rfl rfl) ?_
  refine rl rfl w0 rfl (bx_ld1 tok rfl rfl rfl rfl rfl) ?_
  refine rl rfl w0 rfl (bx_fa tok rfl rfl rfl rfl rfl rfl rfl) ?_
  refine rl rfl w0 rfl (bx_ld1 tok rfl rfl rfl rfl rfl) ?_
  refine rp rfl w0 rfl (pu_neq rfl rfl) ?_
  refine rp rfl w0 rfl (pu_move (r := .d _) rfl) ?_
  refine ra_if (u := 10) h0 rfl (fun hc h0 => ?_) (fun hc h0 => ?_)
  · skip
    refine rl rfl (w1 rfl rfl rfl) rfl (bx_ldN tok rfl rfl rfl rfl) ?_
    refine rl rfl (w1 rfl rfl rfl) rfl (bx_fa tok rfl rfl rfl rfl rfl rfl rfl) ?_
    refine rl rfl (w1 rfl rfl rfl) rfl (bx_ld1 tok rfl rfl rfl rfl rfl) ?_
    refine rl rfl (w1 rfl rfl rfl) rfl (bx_fa tok rfl rfl rfl rfl rfl rfl rfl) ?_
    refine rl rfl (w1 rfl rfl rfl) rfl (bx_ld1 tok rfl rfl rfl rfl rfl) ?_
    obtain ⟨v1, hv1, h0⟩ := bnd h0
    refine rs rfl (w1 rfl rfl rfl) rfl (c_call 5 (i_hasWheel_c hv1) rfl rfl rfl) ?_
    refine rp rfl w0 rfl (pu_pick_t (r := .d _) rfl rfl) ?_
    refine rp rfl w0 rfl (pu_move (r := .d _) rfl) ?_
    refine ra_ifB (u := 18) h0 rfl (fun hc h0 => ?_) (fun hc h0 => ?_)
    · skip
      refine rl rfl (w1 rfl rfl rfl) rfl (bx_ldN tok rfl rfl rfl rfl) ?_
      refine rl rfl (w1 rfl rfl rfl) rfl (bx_fa tok rfl rfl rfl rfl rfl rfl rfl) ?_
      refine rl rfl (w1 rfl rfl rfl) rfl (bx_ld1 tok rfl rfl rfl rfl rfl) ?_
      refine rl rfl (w1 rfl rfl rfl) rfl (bx_fa tok rfl rfl rfl rfl rfl rfl rfl) ?_
      refine rl rfl (w1 rfl rfl rfl) rfl (bx_ld1 tok rfl rfl rfl rfl rfl) ?_
      obtain ⟨v2, hv2, h0⟩ := bnd h0
      refine rs rfl (w1 rfl rfl rfl) rfl (c_call 5 (i_hasWheel_c hv2) rfl rfl rfl) ?_
      refine rp rfl w0 rfl (pu_pick_t (r := .d _) rfl rfl) ?_
      refine rp rfl w0 rfl (pu_assign (r := .d _) rfl) ?_
      refine ra_nil ?_
      refine then_n ?_
      refine aw_ret ?_
      cases h0
      exact ret0_ (rs := [.tmp 4]) rfl
    · skip
      refine rk rfl rfl rfl (by first | exact .inl rfl | exact .inr rfl) rfl ?_
      refine rk rfl rfl rfl (by first | exact .inl rfl | exact .inr rfl) rfl ?_
      refine rk rfl rfl rfl (by first | exact .inl rfl | exact .inr rfl) rfl ?_
      refine rk rfl rfl rfl (by first | exact .inl rfl | exact .inr rfl) rfl ?_
      refine rk rfl rfl rfl (by first | exact .inl rfl | exact .inr rfl) rfl ?_
      refine rk rfl rfl rfl (by first | exact .inl rfl | exact .inr rfl) rfl ?_
      refine rp rfl w0 rfl (pu_pick_f (r := .d _) rfl rfl) ?_
      refine rp rfl w0 rfl (pu_assign (r := .d _) rfl) ?_
      refine ra_nil ?_
      refine then_n ?_
      refine aw_ret ?_
      cases h0
      exact ret0_ (rs := [.tmp 4]) rfl
  · skip
    refine rk rfl rfl rfl (by first | exact .inl rfl | exact .inr rfl) rfl ?_
    refine rk rfl rfl rfl (by first | exact .inl rfl | exact .inr rfl) rfl ?_
    refine rk rfl rfl rfl (by first | exact .inl rfl | exact .inr rfl) rfl ?_
    refine rk rfl rfl rfl (by first | exact .inl rfl | exact .inr rfl) rfl ?_
    refine rk rfl rfl rfl (by first | exact .inl rfl | exact .inr rfl) rfl ?_
    refine rk rfl rfl rfl (by first | exact .inl rfl | exact .inr rfl) rfl ?_
    refine rp rfl w0 rfl (pu_pick_f (r := .d _) rfl rfl) ?_
    refine rp rfl w0 rfl (pu_move (r := .d _) rfl) ?_
    refine rk rfl rfl rfl (by first | exact .inl rfl | exact .inr rfl) rfl ?_
    refine rk rfl rfl rfl (by first | exact .inl rfl | exact .inr rfl) rfl ?_
    refine rk rfl rfl rfl (by first | exact .inl rfl | exact .inr rfl) rfl ?_
    refine rk rfl rfl rfl (by first | exact .inl rfl | exact .inr rfl) rfl ?_
    refine rk rfl rfl rfl (by first | exact .inl rfl | exact .inr rfl) rfl ?_
    refine rk rfl rfl rfl (by first | exact .inl rfl | exact .inr rfl) rfl ?_
    refine rp rfl w0 rfl (pu_pick_f (r := .d _) rfl rfl) ?_
    refine rp rfl w0 rfl (pu_assign (r := .d _) rfl) ?_
    refine ra_nil ?_
    refine then_n ?_
    refine aw_ret ?_
    cases h0
    exact ret0_ (rs := [.tmp 4]) rfl

theorem i_sameMesh_c {p0 : Mesh_} {p1 : Mesh_} {r : Bool} (h0 : i_sameMesh_m p0 p1 = some r) : FnC Try.prog 144 [] [.agg [.d (.v (.int .i64 p0.A)), .d (.v (.int .i64 p0.WheelA)), .d (.v (.int .i64 p0.B)), .d (.v (.int .i64 p0.WheelB))], .agg [.d (.v (.int .i64 p1.A)), .d (.v (.int .i64 p1.WheelA)), .d (.v (.int .i64 p1.B)), .d (.v (.int .i64 p1.WheelB))]] [] (.d (.v (.bool r))) := by
  refine fnc_intro (T := tt) (N := 21) tok Try.func144 rfl rfl (by kernel_rfl) rfl rfl ?_
  unfold i_sameMesh_m at h0
  refine aw_seq ?_
  refine aw_regionA (is := [0, 1, 2]) rfl ?_
  refine rs rfl w0 rfl (st_box 3 (cs := _ :: _) rfl rfl rfl) ?_
  refine rs rfl w0 rfl (st_box 4 (cs := _ :: _) rfl rfl rfl) ?_
  refine rp rfl w0 rfl (pu_assign (r := .d _) rfl) ?_
  refine ra_nil ?_
  refine then_n ?_
  refine aw_seq ?_
  refine aw_regionA (is := [0, 1, 2, 3, 4, 5, 6, 7, 8, 9, 10, 11, 12, 13, 14, 15, 16]) rfl ?_
  refine rl rfl w0 rfl (bx_ldN tok rfl rfl rfl rfl) ?_
  refine rl rfl w0 rfl (bx_ldN tok rfl rfl rfl rfl) ?_
  refine rp rfl w0 rfl (ps_eql_Mesh_ (a := p0) (b := p1) rfl rfl) ?_
  refine rp rfl w0 rfl (pu_move (r := .d _) rfl) ?_
  refine ra_if (u := 8) h0 rfl (fun hc h0 => ?_) (fun hc h0 => ?_)
  · skip
    refine rk rfl rfl rfl (by first | exact .inl rfl | exact .inr rfl) rfl ?_
    refine rk rfl rfl rfl (by first | exact .inl rfl | exact .inr rfl) rfl ?_
    refine rk rfl rfl rfl (by first | exact .inl rfl | exact .inr rfl) rfl ?_
    refine rk rfl rfl rfl (by first | exact .inl rfl | exact .inr rfl) rfl ?_
    refine rk rfl rfl rfl (by first | exact .inl rfl | exact .inr rfl) rfl ?_
    refine rk rfl rfl rfl (by first | exact .inl rfl | exact .inr rfl) rfl ?_
    refine rk rfl rfl rfl (by first | exact .inl rfl | exact .inr rfl) rfl ?_
    refine rk rfl rfl rfl (by first | exact .inl rfl | exact .inr rfl) rfl ?_
    refine rk rfl rfl rfl (by first | exact .inl rfl | exact .inr rfl) rfl ?_
    refine rk rfl rfl rfl (by first | exact .inl rfl | exact .inr rfl) rfl ?_
    refine rk rfl rfl rfl (by first | exact .inl rfl | exact .inr rfl) rfl ?_
    refine rp rfl w0 rfl (pu_pick_t (r := .d _) rfl rfl) ?_
    refine rp rfl w0 rfl (pu_assign (r := .d _) rfl) ?_
    refine ra_nil ?_
    refine then_n ?_
    refine aw_ret ?_
    cases h0
    exact ret0_ (rs := [.tmp 4]) rfl
  · skip
    refine rl rfl (w1 rfl rfl rfl) rfl (bx_ldN tok rfl rfl rfl rfl) ?_
    refine rl rfl (w1 rfl rfl rfl) rfl (bx_fa tok rfl rfl rfl rfl rfl rfl rfl) ?_
    refine rl rfl (w1 rfl rfl rfl) rfl (bx_ld1 tok rfl rfl rfl rfl rfl) ?_
    refine rl rfl (w1 rfl rfl rfl) rfl (bx_fa tok rfl rfl rfl rfl rfl rfl rfl) ?_
    refine rl rfl (w1 rfl rfl rfl) rfl (bx_ld1 tok rfl rfl rfl rfl rfl) ?_
    refine rl rfl (w1 rfl rfl rfl) rfl (bx_fa tok rfl rfl rfl rfl rfl rfl rfl) ?_
    refine rl rfl (w1 rfl rfl rfl) rfl (bx_ld1 tok rfl rfl rfl rfl rfl) ?_
    refine rl rfl (w1 rfl rfl rfl) rfl (bx_fa tok rfl rfl rfl rfl rfl rfl rfl) ?_
    refine rl rfl (w1 rfl rfl rfl) rfl (bx_ld1 tok rfl rfl rfl rfl rfl) ?_
    refine rp rfl (w1 rfl rfl rfl) rfl (pu_build (C0 := [.d (.v (.int .i64 0)), .d (.v (.int .i64 0)), .d (.v (.int .i64 0)), .d (.v (.int .i64 0))]) tok rfl rfl (by repeat (first | exact Plc.nil | apply Plc.cons rfl)) rfl (by repeat (first | exact Bld.nil _ | apply Bld.cons (cs := [.d _]) rfl rfl rfl rfl (by repeat (first | exact Spl.z _ | apply Spl.t | apply Spl.d)) | apply Bld.cons (cs := [.own _ _ _]) rfl rfl rfl rfl (by repeat (first | exact Spl.z _ | apply Spl.t | apply Spl.d)) | apply Bld.cons (cs := [.ptr _ _ _ _ _]) rfl rfl rfl rfl (by repeat (first | exact Spl.z _ | apply Spl.t | apply Spl.d)) | apply Bld.cons (cs := [.fn _ _]) rfl rfl rfl rfl (by repeat (first | exact Spl.z _ | apply Spl.t | apply Spl.d)) | apply Bld.cons (cs := _ :: _) rfl rfl rfl rfl (by repeat (first | exact Spl.z _ | apply Spl.t | apply Spl.d))))) ?_
    refine rp rfl (w1 rfl rfl rfl) rfl (ps_eql_Mesh_ (a := p0) (b := (⟨p1.B, p1.WheelB, p1.A, p1.WheelA⟩ : Mesh_)) rfl rfl) ?_
    refine rp rfl w0 rfl (pu_pick_f (r := .d _) rfl rfl) ?_
    refine rp rfl w0 rfl (pu_assign (r := .d _) rfl) ?_
    refine ra_nil ?_
    refine then_n ?_
    refine aw_ret ?_
    cases h0
    exact ret0_ (rs := [.tmp 4]) rfl

theorem i_ValidWorks_1_c {p0 : Mesh_} {p1 : Mesh_} {r : Bool} (h0 : i_ValidWorks_1_m p0 p1 = some r) : FnC Try.prog 143 [] [.agg [.d (.v (.int .i64 p0.A)), .d (.v (.int .i64 p0.WheelA)), .d (.v (.int .i64 p0.B)), .d (.v (.int .i64 p0.WheelB))], .ref (cMesh_ p1)] [] (.d (.v (.bool r))) := by
  refine fnc_intro (T := tt) (N := 7) tok Try.func143 rfl rfl (by kernel_rfl) rfl rfl ?_
  unfold i_ValidWorks_1_m at h0
  refine aw_seq ?_
  refine aw_regionA (is := [0, 1]) rfl ?_
  refine rs rfl w0 rfl (st_box 3 (cs := _ :: _) rfl rfl rfl) ?_
  refine rp rfl w0 rfl (pu_assign (r := .d _) rfl) ?_
  refine ra_nil ?_
  refine then_n ?_
  refine aw_seq ?_
  refine aw_regionA (is := [0, 1, 2, 3]) rfl ?_
  refine rp rfl w0 rfl (pu_load_refN tok rfl rfl rfl (by repeat (first | exact SegD.z _ | apply SegD.t))) ?_
  refine rl rfl w0 rfl (bx_ldN tok rfl rfl rfl rfl) ?_
  obtain ⟨v1, hv1, h0⟩ := bnd h0
  refine rs rfl w0 rfl (c_call 4 (i_sameMesh_c hv1) rfl rfl rfl) ?_
  refine rp rfl w0 rfl (pu_assign (r := .d _) rfl) ?_
  refine ra_nil ?_
  refine then_n ?_
  refine aw_ret ?_
  cases h0
  exact ret0_ (rs := [.tmp 3]) rfl

theorem slices_IndexFunc_LMesh_Mesh_i_ValidWorks_1_c {p0 : List Mesh_} {p1_0 : Mesh_} {r : Int} (h0 : slices_IndexFunc_LMesh_Mesh_i_ValidWorks_1_m p0 p1_0 = some r) : FnC Try.prog 175 [] [.d (.sl (List.map cMesh_ p0)), .fn 143 [.ref (cMesh_ p1_0)]] [] (.d (.v (.int .i64 r))) := by
  refine fnc_intro (T := tt) (N := 19) tok Try.func175 rfl rfl (by kernel_rfl) rfl rfl ?_
  unfold slices_IndexFunc_LMesh_Mesh_i_ValidWorks_1_m at h0
  refine aw_seq ?_
  refine aw_regionA (is := [0]) rfl ?_
  refine rp rfl w0 rfl (pu_assign (r := .d _) rfl) ?_
  refine ra_nil ?_
  refine then_n ?_
  obtain ⟨v7x, h1, h0⟩ := bnd h0
  refine aw_cutE v7x (fun v7 => ⟨(fun _ => .dead), lks [.no, .no, .no]⟩) ?_ ?_
  · skip
    refine aw_seq ?_
    refine aw_regionA (is := [0, 1, 2]) rfl ?_
    refine rp rfl w0 rfl (pu_move (r := .d _) rfl) ?_
    refine rp rfl w0 rfl (pu_len_map tok rfl rfl rfl) ?_
    refine rp rfl w0 rfl (pu_move (r := .d _) rfl) ?_
    refine ra_nil ?_
    refine then_n ?_
    refine aw_block ?_
    refine aw_loopM (fun s4 => ⟨updA (updA (updA (updA ((fun _ => .dead)) 0 (.d (.sl (List.map cMesh_ p0)))) 1 (.fn 143 [.ref (cMesh_ p1_0)])) 7 (.d (.v (.int .i64 (p0.length : Int))))) 8 (.d (.v (.int .i64 s4))), lks [.no, .no, .no]⟩) h1 ?_ (fun s4 y h2 => ?_)
    · skip
      exact wk [0, 1, 2]
    · skip
      refine aw_seq ?_
      refine aw_regionA (is := [0]) rfl ?_
      refine rp rfl w0 rfl (pu_lss rfl rfl) ?_
      refine ra_nil ?_
      refine then_n ?_
      refine aw_seq ?_
      refine aw_if h2 rfl (fun hc h2 => ?_) (fun hc h2 => ?_)
      · skip
        refine aw_skip ?_
        refine then_n ?_
        refine aw_seq ?_
        refine aw_block ?_
        refine aw_seq ?_
        refine aw_regionA (is := [0, 1]) rfl ?_
        refine rp rfl w0 rfl (pu_move (r := .d _) rfl) ?_
        refine rp rfl w0 rfl (pu_assign (r := .d _) rfl) ?_
        refine ra_nil ?_
        refine then_n ?_
        refine aw_seq ?_
        refine aw_regionA (is := [0, 1, 2, 3, 4, 5]) rfl ?_
        refine rp rfl w0 rfl (pu_move (r := .fn _ _) rfl) ?_
        refine rp rfl w0 rfl (pu_move (r := .d _) rfl) ?_
        refine rp rfl w0 rfl (pu_move (r := .d _) rfl) ?_
        obtain ⟨v5, hv5, h2⟩ := bnd h2
        refine rp rfl w0 rfl (sl_ix tok hv5 rfl rfl rfl rfl rfl rfl) ?_
        refine rp rfl w0 rfl (pu_load_refN tok rfl rfl rfl (by repeat (first | exact SegD.z _ | apply SegD.t))) ?_
        obtain ⟨v6, hv6, h2⟩ := bnd h2
        refine rs rfl w0 rfl (c_call 3 (i_ValidWorks_1_c hv6) rfl rfl rfl) ?_
        refine ra_nil ?_
        refine then_n ?_
        refine aw_ifB h2 rfl (fun hc h2 => ?_) (fun hc h2 => ?_)
        · skip
          refine aw_seq ?_
          refine aw_regionA (is := [0, 1]) rfl ?_
          refine rp rfl w0 rfl (pu_move (r := .d _) rfl) ?_
          refine rp rfl w0 rfl (pu_assign (r := .d _) rfl) ?_
          refine ra_nil ?_
          refine then_n ?_
          refine aw_ret ?_
          refine block_r ?_
          refine then_r ?_
          cases h2
          refine loop_r ⟨_, rfl, fun e => ?_⟩
          subst e
          refine block_r ?_
          replace h0 := orE_s h0
          refine then_r ?_
          cases h0
          exact ret0_ (rs := [.tmp 4]) rfl
        · skip
          refine aw_skip ?_
          refine block_n ?_
          refine then_n ?_
          refine aw_regionA (is := [0, 1]) rfl ?_
          refine rp rfl w0 rfl (pw_add rfl rfl) ?_
          refine rp rfl w0 rfl (pu_move (r := .d _) rfl) ?_
          refine ra_nil ?_
          refine loop_n ?_
          cases h2
          refine ⟨_, rfl, ?_⟩
          exact wk [0, 1, 2]
      · skip
        refine aw_exit ?_
        refine then_e ?_
        cases h2
        refine loop_x ⟨_, rfl, fun e => ?_⟩
        subst e
        refine block_hit ?_
        refine then_n ?_
        refine ⟨_, rfl, ?_⟩
        exact wk [0, 1, 2]
  · skip
    rintro v7 rfl
    replace h0 := orE_f h0
    refine aw_seq ?_
    refine aw_regionA (is := [0]) rfl ?_
    refine rp rfl w0 rfl (pu_assign (r := .d _) rfl) ?_
    refine ra_nil ?_
    refine then_n ?_
    refine aw_ret ?_
    cases h0
    exact ret0_ (rs := [.tmp 4]) rfl

theorem slices_ContainsFunc_LMesh_Mesh_i_ValidWorks_1_c {p0 : List Mesh_} {p1_0 : Mesh_} {r : Bool} (h0 : slices_ContainsFunc_LMesh_Mesh_i_ValidWorks_1_m p0 p1_0 = some r) : FnC Try.prog 142 [] [.d (.sl (List.map cMesh_ p0)), .fn 143 [.ref (cMesh_ p1_0)]] [] (.d (.v (.bool r))) := by
  refine fnc_intro (T := tt) (N := 9) tok Try.func142 rfl rfl (by kernel_rfl) rfl rfl ?_
  unfold slices_ContainsFunc_LMesh_Mesh_i_ValidWorks_1_m at h0
  refine aw_seq ?_
  refine aw_regionA (is := [0]) rfl ?_
  refine rp rfl w0 rfl (pu_assign (r := .d _) rfl) ?_
  refine ra_nil ?_
  refine then_n ?_
  refine aw_seq ?_
  refine aw_regionA (is := [0, 1, 2, 3, 4]) rfl ?_
  refine rp rfl w0 rfl (pu_move (r := .d _) rfl) ?_
  refine rp rfl w0 rfl (pu_move (r := .fn _ _) rfl) ?_
  obtain ⟨v1, hv1, h0⟩ := bnd h0
  refine rs rfl w0 rfl (c_call 3 (slices_IndexFunc_LMesh_Mesh_i_ValidWorks_1_c hv1) rfl rfl rfl) ?_
  refine rp rfl w0 rfl (pu_geq rfl rfl) ?_
  refine rp rfl w0 rfl (pu_assign (r := .d _) rfl) ?_
  refine ra_nil ?_
  refine then_n ?_
  refine aw_ret ?_
  cases h0
  exact ret0_ (rs := [.tmp 4]) rfl

theorem i_ValidWorks_c {p0 : Works_} {r : Bool} (h0 : i_ValidWorks_m p0 = some r) : FnC Try.prog 100 [] [.agg [.d (.sl (List.map cArbor_ p0.Arbors)), .d (.sl (List.map cMesh_ p0.Meshes))]] [] (.d (.v (.bool r))) := by
  refine fnc_intro (T := tt) (N := 67) tok Try.func100 rfl rfl (by kernel_rfl) rfl rfl ?_
  unfold i_ValidWorks_m at h0
  refine aw_seq ?_
  refine aw_regionA (is := [0, 1]) rfl ?_
  refine rs rfl w0 rfl (st_box 3 (cs := _ :: _) rfl rfl rfl) ?_
  refine rp rfl w0 rfl (pu_assign (r := .d _) rfl) ?_
  refine ra_nil ?_
  refine then_n ?_
  refine aw_seq ?_
  obtain ⟨v1, h1, h0⟩ := bnd h0
  refine aw_cut ⟨updA (updA ((fun _ => .dead)) 1 (.ptr 3 0 1 0 0)) 18 (.d (.v (.bool v1))), lks [.no, .no, .no, .live [⟨71, 2, .av [[.d (.sl (List.map cArbor_ p0.Arbors)), .d (.sl (List.map cMesh_ p0.Meshes))]]⟩]]⟩ ?_ ?_
  · skip
    refine aw_regionA (is := [0, 1, 2, 3, 4, 5, 6, 7, 8, 9]) rfl ?_
    refine rl rfl w0 rfl (bx_fa tok rfl rfl rfl rfl rfl rfl rfl) ?_
    refine rl rfl w0 rfl (bx_ld1 tok rfl rfl rfl rfl rfl) ?_
    refine rp rfl w0 rfl (pu_len_map tok rfl rfl rfl) ?_
    refine rp rfl w0 rfl (pu_gtr rfl rfl) ?_
    refine rp rfl w0 rfl (pu_move (r := .d _) rfl) ?_
    refine ra_if (u := 13) h1 rfl (fun hc h1 => ?_) (fun hc h1 => ?_)
    · skip
      refine rk rfl rfl rfl (by first | exact .inl rfl | exact .inr rfl) rfl ?_
      refine rk rfl rfl rfl (by first | exact .inl rfl | exact .inr rfl) rfl ?_
      refine rk rfl rfl rfl (by first | exact .inl rfl | exact .inr rfl) rfl ?_
      refine rk rfl rfl rfl (by first | exact .inl rfl | exact .inr rfl) rfl ?_
      refine rp rfl w0 rfl (pu_pick_t (r := .d _) rfl rfl) ?_
      refine ra_nil ?_
      refine then_n ?_
      cases h1
      exact wk [0, 1, 2, 3]
    · skip
      refine rl rfl (w1 rfl rfl rfl) rfl (bx_fa tok rfl rfl rfl rfl rfl rfl rfl) ?_
      refine rl rfl (w1 rfl rfl rfl) rfl (bx_ld1 tok rfl rfl rfl rfl rfl) ?_
      refine rp rfl (w1 rfl rfl rfl) rfl (pu_len_map tok rfl rfl rfl) ?_
      refine rp rfl (w1 rfl rfl rfl) rfl (pu_gtr rfl rfl) ?_
      refine rp rfl w0 rfl (pu_pick_f (r := .d _) rfl rfl) ?_
      refine ra_nil ?_
      refine then_n ?_
      cases h1
      exact wk [0, 1, 2, 3]
  · skip
    refine aw_ifB h0 rfl (fun hc h0 => ?_) (fun hc h0 => ?_)
    · skip
      refine aw_seq ?_
      refine aw_regionA (is := [0]) rfl ?_
      refine rp rfl w0 rfl (pu_assign (r := .d _) rfl) ?_
      refine ra_nil ?_
      refine then_n ?_
      refine aw_ret ?_
      refine then_r ?_
      cases h0
      exact ret0_ (rs := [.tmp 2]) rfl
    · skip
      refine aw_skip ?_
      refine then_n ?_
      obtain ⟨v20x, h1, h0⟩ := bnd h0
      refine aw_cutE v20x (fun v20 => ⟨updA ((fun _ => .dead)) 1 (.ptr 3 0 1 0 0), lks [.no, .no, .no, .live [⟨71, 2, .av [[.d (.sl (List.map cArbor_ p0.Arbors)), .d (.sl (List.map cMesh_ p0.Meshes))]]⟩]]⟩) ?_ ?_
      · skip
        refine aw_seq ?_
        refine aw_regionA (is := [0, 1, 2, 3]) rfl ?_
        refine rl rfl w0 rfl (bx_fa tok rfl rfl rfl rfl rfl rfl rfl) ?_
        refine rl rfl w0 rfl (bx_ld1 tok rfl rfl rfl rfl rfl) ?_
        refine rp rfl w0 rfl (pu_len_map tok rfl rfl rfl) ?_
        refine rp rfl w0 rfl (pu_move (r := .d _) rfl) ?_
        refine ra_nil ?_
        refine then_n ?_
        refine aw_block ?_
        refine aw_loopM (fun s11 => ⟨updA (updA (updA (updA ((fun _ => .dead)) 1 (.ptr 3 0 1 0 0)) 20 (.d (.sl (List.map cArbor_ p0.Arbors)))) 21 (.d (.v (.int .i64 (p0.Arbors.length : Int))))) 22 (.d (.v (.int .i64 s11))), lks [.no, .no, .no, .live [⟨71, 2, .av [[.d (.sl (List.map cArbor_ p0.Arbors)), .d (.sl (List.map cMesh_ p0.Meshes))]]⟩]]⟩) h1 ?_ (fun s11 y h2 => ?_)
        · skip
          exact wk [0, 1, 2, 3]
        · skip
          refine aw_seq ?_
          refine aw_regionA (is := [0]) rfl ?_
          refine rp rfl w0 rfl (pu_lss rfl rfl) ?_
          refine ra_nil ?_
          refine then_n ?_
          refine aw_seq ?_
          refine aw_if h2 rfl (fun hc h2 => ?_) (fun hc h2 => ?_)
          · skip
            refine aw_skip ?_
            refine then_n ?_
            obtain ⟨v19x, h3, h2⟩ := bnd h2
            refine aw_cutE v19x (fun v19 => ⟨updA (updA (updA (updA ((fun _ => .dead)) 1 (.ptr 3 0 1 0 0)) 20 (.d (.sl (List.map cArbor_ p0.Arbors)))) 21 (.d (.v (.int .i64 (p0.Arbors.length : Int))))) 22 (.d (.v (.int .i64 s11))), lks [.no, .no, .no, .live [⟨71, 2, .av [[.d (.sl (List.map cArbor_ p0.Arbors)), .d (.sl (List.map cMesh_ p0.Meshes))]]⟩]]⟩) ?_ ?_
            · skip
              refine aw_block ?_
              refine aw_seq ?_
              refine aw_regionA (is := [0, 1, 2, 3, 4, 5]) rfl ?_
              refine rp rfl w0 rfl (pu_move (r := .d _) rfl) ?_
              obtain ⟨v12, hv12, h3⟩ := bnd h3
              refine rp rfl w0 rfl (sl_ix tok hv12 rfl rfl rfl rfl rfl rfl) ?_
              refine rp rfl w0 rfl (pu_load_refN tok rfl rfl rfl (by repeat (first | exact SegD.z _ | apply SegD.t))) ?_
              refine rs rfl w0 rfl (st_alloc 4 (cs := [.d (.v (.string (⟨#[]⟩ : ByteArray))), .d (.v (.slice none 0 0))]) tok rfl rfl rfl) ?_
              refine rp rfl w0 rfl (pu_assign (r := .d _) rfl) ?_
              refine rw0 rfl w0 (bx_st (cs := _ :: _) tok rfl rfl rfl rfl rfl rfl rfl) ?_
              refine ra_nil ?_
              refine then_n ?_
              refine aw_seq ?_
              refine aw_seq ?_
              refine aw_regionA (is := [0, 1, 2]) rfl ?_
              refine rl rfl w0 rfl (bx_ldN tok rfl rfl rfl rfl) ?_
              obtain ⟨v13, hv13, h3⟩ := bnd h3
              refine rs rfl w0 rfl (c_call 5 (i_validArbor_c hv13) rfl rfl rfl) ?_
              refine rp rfl w0 rfl (pu_not rfl) ?_
              refine ra_nil ?_
              refine then_n ?_
              refine aw_ifB h3 rfl (fun hc h3 => ?_) (fun hc h3 => ?_)
              · skip
                refine aw_seq ?_
                refine aw_regionA (is := [0]) rfl ?_
                refine rp rfl w0 rfl (pu_assign (r := .d _) rfl) ?_
                refine ra_nil ?_
                refine then_n ?_
                refine aw_ret ?_
                refine then_r ?_
                refine block_r ?_
                cases h3
                replace h2 := orE_s h2
                refine then_r ?_
                cases h2
                refine loop_r ⟨_, rfl, fun e => ?_⟩
                subst e
                refine block_r ?_
                replace h0 := orE_s h0
                refine then_r ?_
                cases h0
                exact ret0_ (rs := [.tmp 2]) rfl
              · skip
                refine aw_skip ?_
                refine then_n ?_
                refine aw_seq ?_
                refine aw_regionA (is := [0, 1, 2, 3, 4, 5]) rfl ?_
                refine rl rfl w0 rfl (bx_fa tok rfl rfl rfl rfl rfl rfl rfl) ?_
                refine rl rfl w0 rfl (bx_ld1 tok rfl rfl rfl rfl rfl) ?_
                refine rp rfl w0 rfl (pu_move (r := .d _) rfl) ?_
                obtain ⟨hq14, h3⟩ := chk_e h3
                refine rp rfl w0 rfl (pu_lsub tok hq14 rfl (.inl ⟨rfl, rfl⟩) (.inr ⟨_, _, rfl, rfl⟩) rfl rfl rfl (fun _ => rfl)) ?_
                refine rp rfl w0 rfl (pu_len_map tok rfl rfl rfl) ?_
                refine rp rfl w0 rfl (pu_move (r := .d _) rfl) ?_
                refine ra_nil ?_
                refine then_n ?_
                refine aw_block ?_
                refine aw_loopM (fun s17 => ⟨updA (updA (updA (updA (updA (updA (updA (updA ((fun _ => .dead)) 1 (.ptr 3 0 1 0 0)) 4 (.ptr 4 0 1 0 0)) 20 (.d (.sl (List.map cArbor_ p0.Arbors)))) 21 (.d (.v (.int .i64 (p0.Arbors.length : Int))))) 22 (.d (.v (.int .i64 s11)))) 33 (.d (.sl (List.map cArbor_ (subL p0.Arbors (0 : Int) s11))))) 34 (.d (.v (.int .i64 ((subL p0.Arbors (0 : Int) s11).length : Int))))) 35 (.d (.v (.int .i64 s17))), lks [.no, .no, .no, .live [⟨71, 2, .av [[.d (.sl (List.map cArbor_ p0.Arbors)), .d (.sl (List.map cMesh_ p0.Meshes))]]⟩], .live [⟨151, 2, .av [[.d (.v (.string v12.Name)), .d (.sl (List.map cI v12.Wheels))]]⟩]]⟩) h3 ?_ (fun s17 y h4 => ?_)
                · skip
                  exact wk [0, 1, 2, 3, 4]
                · skip
                  refine aw_seq ?_
                  refine aw_regionA (is := [0]) rfl ?_
                  refine rp rfl w0 rfl (pu_lss rfl rfl) ?_
                  refine ra_nil ?_
                  refine then_n ?_
                  refine aw_seq ?_
                  refine aw_if h4 rfl (fun hc h4 => ?_) (fun hc h4 => ?_)
                  · skip
                    refine aw_skip ?_
                    refine then_n ?_
                    refine aw_seq ?_
                    refine aw_block ?_
                    refine aw_seq ?_
                    refine aw_regionA (is := [0, 1, 2, 3]) rfl ?_
                    obtain ⟨v18, hv18, h4⟩ := bnd h4
                    refine rp rfl w0 rfl (sl_ix tok hv18 rfl rfl rfl rfl rfl rfl) ?_
                    refine rp rfl w0 rfl (pu_load_refN tok rfl rfl rfl (by repeat (first | exact SegD.z _ | apply SegD.t))) ?_
                    refine rs rfl w0 rfl (st_alloc 5 (cs := [.d (.v (.string (⟨#[]⟩ : ByteArray))), .d (.v (.slice none 0 0))]) tok rfl rfl rfl) ?_
                    refine rw0 rfl w0 (bx_st (cs := _ :: _) tok rfl rfl rfl rfl rfl rfl rfl) ?_
                    refine ra_nil ?_
                    refine then_n ?_
                    refine aw_seq ?_
                    refine aw_regionA (is := [0, 1, 2, 3, 4]) rfl ?_
                    refine rl rfl w0 rfl (bx_fa tok rfl rfl rfl rfl rfl rfl rfl) ?_
                    refine rl rfl w0 rfl (bx_ld1 tok rfl rfl rfl rfl rfl) ?_
                    refine rl rfl w0 rfl (bx_fa tok rfl rfl rfl rfl rfl rfl rfl) ?_
                    refine rl rfl w0 rfl (bx_ld1 tok rfl rfl rfl rfl rfl) ?_
                    refine rp rfl w0 rfl (pu_seql rfl rfl) ?_
                    refine ra_nil ?_
                    refine then_n ?_
                    refine aw_if h4 rfl (fun hc h4 => ?_) (fun hc h4 => ?_)
                    · skip
                      refine aw_seq ?_
                      refine aw_regionA (is := [0]) rfl ?_
                      refine rp rfl w0 rfl (pu_assign (r := .d _) rfl) ?_
                      refine ra_nil ?_
                      refine then_n ?_
                      refine aw_ret ?_
                      refine block_r ?_
                      refine then_r ?_
                      cases h4
                      refine loop_r ⟨_, rfl, fun e => ?_⟩
                      subst e
                      refine block_r ?_
                      refine block_r ?_
                      replace h2 := orE_s h2
                      refine then_r ?_
                      cases h2
                      refine loop_r ⟨_, rfl, fun e => ?_⟩
                      subst e
                      refine block_r ?_
                      replace h0 := orE_s h0
                      refine then_r ?_
                      cases h0
                      exact ret0_ (rs := [.tmp 2]) rfl
                    · skip
                      refine aw_skip ?_
                      refine block_n ?_
                      refine then_n ?_
                      refine aw_regionA (is := [0, 1]) rfl ?_
                      refine rp rfl w0 rfl (pw_add rfl rfl) ?_
                      refine rp rfl w0 rfl (pu_move (r := .d _) rfl) ?_
                      refine ra_nil ?_
                      refine loop_n ?_
                      cases h4
                      refine ⟨_, rfl, ?_⟩
                      exact wk [0, 1, 2, 3, 4]
                  · skip
                    refine aw_exit ?_
                    refine then_e ?_
                    cases h4
                    refine loop_x ⟨_, rfl, fun e => ?_⟩
                    subst e
                    refine block_hit ?_
                    refine block_n ?_
                    refine then_n ?_
                    refine ⟨_, rfl, ?_⟩
                    exact wk [0, 1, 2, 3]
            · skip
              rintro v19 rfl
              replace h2 := orE_f h2
              refine aw_regionA (is := [0, 1]) rfl ?_
              refine rp rfl w0 rfl (pw_add rfl rfl) ?_
              refine rp rfl w0 rfl (pu_move (r := .d _) rfl) ?_
              refine ra_nil ?_
              refine loop_n ?_
              cases h2
              refine ⟨_, rfl, ?_⟩
              exact wk [0, 1, 2, 3]
          · skip
            refine aw_exit ?_
            refine then_e ?_
            cases h2
            refine loop_x ⟨_, rfl, fun e => ?_⟩
            subst e
            refine block_hit ?_
            refine then_n ?_
            refine ⟨_, rfl, ?_⟩
            exact wk [0, 1, 2, 3]
      · skip
        rintro v20 rfl
        replace h0 := orE_f h0
        obtain ⟨v33x, h1, h0⟩ := bnd h0
        refine aw_cutE v33x (fun v33 => ⟨(fun _ => .dead), lks [.no, .no, .no]⟩) ?_ ?_
        · skip
          refine aw_seq ?_
          refine aw_regionA (is := [0, 1, 2, 3]) rfl ?_
          refine rl rfl w0 rfl (bx_fa tok rfl rfl rfl rfl rfl rfl rfl) ?_
          refine rl rfl w0 rfl (bx_ld1 tok rfl rfl rfl rfl rfl) ?_
          refine rp rfl w0 rfl (pu_len_map tok rfl rfl rfl) ?_
          refine rp rfl w0 rfl (pu_move (r := .d _) rfl) ?_
          refine ra_nil ?_
          refine then_n ?_
          refine aw_block ?_
          refine aw_loopM (fun s27 => ⟨updA (updA (updA (updA ((fun _ => .dead)) 1 (.ptr 3 0 1 0 0)) 47 (.d (.sl (List.map cMesh_ p0.Meshes)))) 48 (.d (.v (.int .i64 (p0.Meshes.length : Int))))) 49 (.d (.v (.int .i64 s27))), lks [.no, .no, .no, .live [⟨71, 2, .av [[.d (.sl (List.map cArbor_ p0.Arbors)), .d (.sl (List.map cMesh_ p0.Meshes))]]⟩]]⟩) h1 ?_ (fun s27 y h2 => ?_)
          · skip
            exact wk [0, 1, 2, 3]
          · skip
            refine aw_seq ?_
            refine aw_regionA (is := [0]) rfl ?_
            refine rp rfl w0 rfl (pu_lss rfl rfl) ?_
            refine ra_nil ?_
            refine then_n ?_
            refine aw_seq ?_
            refine aw_if h2 rfl (fun hc h2 => ?_) (fun hc h2 => ?_)
            · skip
              refine aw_skip ?_
              refine then_n ?_
              refine aw_seq ?_
              refine aw_block ?_
              refine aw_seq ?_
              refine aw_regionA (is := [0, 1, 2, 3, 4, 5]) rfl ?_
              refine rp rfl w0 rfl (pu_move (r := .d _) rfl) ?_
              obtain ⟨v28, hv28, h2⟩ := bnd h2
              refine rp rfl w0 rfl (sl_ix tok hv28 rfl rfl rfl rfl rfl rfl) ?_
              refine rp rfl w0 rfl (pu_load_refN tok rfl rfl rfl (by repeat (first | exact SegD.z _ | apply SegD.t))) ?_
              refine rs rfl w0 rfl (st_alloc 4 (cs := [.d (.v (.int .i64 0)), .d (.v (.int .i64 0)), .d (.v (.int .i64 0)), .d (.v (.int .i64 0))]) tok rfl rfl rfl) ?_
              refine rp rfl w0 rfl (pu_assign (r := .d _) rfl) ?_
              refine rw0 rfl w0 (bx_st (cs := _ :: _) tok rfl rfl rfl rfl rfl rfl rfl) ?_
              refine ra_nil ?_
              refine then_n ?_
              obtain ⟨v32, h3, h2⟩ := bnd h2
              refine aw_cut ⟨updA (updA (updA (updA (updA ((fun _ => .dead)) 1 (.ptr 3 0 1 0 0)) 47 (.d (.sl (List.map cMesh_ p0.Meshes)))) 48 (.d (.v (.int .i64 (p0.Meshes.length : Int))))) 49 (.d (.v (.int .i64 s27)))) 65 (.d (.v (.bool v32))), lks [.no, .no, .no, .live [⟨71, 2, .av [[.d (.sl (List.map cArbor_ p0.Arbors)), .d (.sl (List.map cMesh_ p0.Meshes))]]⟩]]⟩ ?_ ?_
              · skip
                refine aw_regionA (is := [0, 1, 2, 3, 4, 5, 6, 7, 8, 9, 10, 11]) rfl ?_
                refine rl rfl w0 rfl (bx_ldN tok rfl rfl rfl rfl) ?_
                refine rl rfl w0 rfl (bx_ldN tok rfl rfl rfl rfl) ?_
                obtain ⟨v29, hv29, h3⟩ := bnd h3
                refine rs rfl w0 rfl (c_call 5 (i_joins_c hv29) rfl rfl rfl) ?_
                refine rp rfl w0 rfl (pu_not rfl) ?_
                refine rp rfl w0 rfl (pu_move (r := .d _) rfl) ?_
                refine ra_ifB (u := 58) h3 rfl (fun hc h3 => ?_) (fun hc h3 => ?_)
                · skip
                  refine rk rfl rfl rfl (by first | exact .inl rfl | exact .inr rfl) rfl ?_
                  refine rk rfl rfl rfl (by first | exact .inl rfl | exact .inr rfl) rfl ?_
                  refine rk rfl rfl rfl (by first | exact .inl rfl | exact .inr rfl) rfl ?_
                  refine rk rfl rfl rfl (by first | exact .inl rfl | exact .inr rfl) rfl ?_
                  refine rk rfl rfl rfl (by first | exact .inl rfl | exact .inr rfl) rfl ?_
                  refine rk rfl rfl rfl (by first | exact .inl rfl | exact .inr rfl) rfl ?_
                  refine rp rfl w0 rfl (pu_pick_t (r := .d _) rfl rfl) ?_
                  refine ra_nil ?_
                  refine then_n ?_
                  cases h3
                  exact wk [0, 1, 2, 3]
                · skip
                  refine rl rfl (w1 rfl rfl rfl) rfl (bx_fa tok rfl rfl rfl rfl rfl rfl rfl) ?_
                  refine rl rfl (w1 rfl rfl rfl) rfl (bx_ld1 tok rfl rfl rfl rfl rfl) ?_
                  refine rp rfl (w1 rfl rfl rfl) rfl (pu_move (r := .d _) rfl) ?_
                  obtain ⟨hq30, h3⟩ := chk_e h3
                  refine rp rfl (w1 rfl rfl rfl) rfl (pu_lsub tok hq30 rfl (.inl ⟨rfl, rfl⟩) (.inr ⟨_, _, rfl, rfl⟩) rfl rfl rfl (fun _ => rfl)) ?_
                  refine rp rfl (w1 rfl rfl rfl) rfl (pu_func rfl) ?_
                  obtain ⟨v31, hv31, h3⟩ := bnd h3
                  refine rs rfl (w1 rfl rfl rfl) rfl (c_callV 5 (slices_ContainsFunc_LMesh_Mesh_i_ValidWorks_1_c hv31) rfl rfl) ?_
                  refine rp rfl w0 rfl (pu_pick_f (r := .d _) rfl rfl) ?_
                  refine ra_nil ?_
                  refine then_n ?_
                  cases h3
                  exact wk [0, 1, 2, 3]
              · skip
                refine aw_ifB h2 rfl (fun hc h2 => ?_) (fun hc h2 => ?_)
                · skip
                  refine aw_seq ?_
                  refine aw_regionA (is := [0]) rfl ?_
                  refine rp rfl w0 rfl (pu_assign (r := .d _) rfl) ?_
                  refine ra_nil ?_
                  refine then_n ?_
                  refine aw_ret ?_
                  refine block_r ?_
                  refine then_r ?_
                  cases h2
                  refine loop_r ⟨_, rfl, fun e => ?_⟩
                  subst e
                  refine block_r ?_
                  replace h0 := orE_s h0
                  refine then_r ?_
                  cases h0
                  exact ret0_ (rs := [.tmp 2]) rfl
                · skip
                  refine aw_skip ?_
                  refine block_n ?_
                  refine then_n ?_
                  refine aw_regionA (is := [0, 1]) rfl ?_
                  refine rp rfl w0 rfl (pw_add rfl rfl) ?_
                  refine rp rfl w0 rfl (pu_move (r := .d _) rfl) ?_
                  refine ra_nil ?_
                  refine loop_n ?_
                  cases h2
                  refine ⟨_, rfl, ?_⟩
                  exact wk [0, 1, 2, 3]
            · skip
              refine aw_exit ?_
              refine then_e ?_
              cases h2
              refine loop_x ⟨_, rfl, fun e => ?_⟩
              subst e
              refine block_hit ?_
              refine then_n ?_
              refine ⟨_, rfl, ?_⟩
              exact wk [0, 1, 2]
        · skip
          rintro v33 rfl
          replace h0 := orE_f h0
          refine aw_seq ?_
          refine aw_regionA (is := [0]) rfl ?_
          refine rp rfl w0 rfl (pu_assign (r := .d _) rfl) ?_
          refine ra_nil ?_
          refine then_n ?_
          refine aw_ret ?_
          cases h0
          exact ret0_ (rs := [.tmp 2]) rfl

theorem i_ValidCalendar_1_c {p0 : Month_} {p1 : Month_} {r : Bool} (h0 : i_ValidCalendar_1_m p0 p1 = some r) : FnC Try.prog 146 [] [.agg [.d (.v (.string p0.Name)), .d (.v (.int .i64 p0.Days)), .d (.v (.int .i64 p0.Leap))], .ref (cMonth_ p1)] [] (.d (.v (.bool r))) := by
  refine fnc_intro (T := tt) (N := 9) tok Try.func146 rfl rfl (by kernel_rfl) rfl rfl ?_
  unfold i_ValidCalendar_1_m at h0
  refine aw_seq ?_
  refine aw_regionA (is := [0, 1]) rfl ?_
  refine rs rfl w0 rfl (st_box 3 (cs := _ :: _) rfl rfl rfl) ?_
  refine rp rfl w0 rfl (pu_assign (r := .d _) rfl) ?_
  refine ra_nil ?_
  refine then_n ?_
  refine aw_seq ?_
  refine aw_regionA (is := [0, 1, 2, 3, 4, 5]) rfl ?_
  refine rl rfl w0 rfl (bx_fa tok rfl rfl rfl rfl rfl rfl rfl) ?_
  refine rl rfl w0 rfl (bx_ld1 tok rfl rfl rfl rfl rfl) ?_
  refine rp rfl w0 rfl (pu_fieldAddr_ref tok rfl rfl rfl rfl rfl rfl (by repeat (first | exact Drp.z _ | apply Drp.d))) ?_
  refine rp rfl w0 rfl (pu_load_ref1 tok rfl rfl rfl rfl) ?_
  refine rp rfl w0 rfl (pu_seql rfl rfl) ?_
  refine rp rfl w0 rfl (pu_assign (r := .d _) rfl) ?_
  refine ra_nil ?_
  refine then_n ?_
  refine aw_ret ?_
  cases h0
  exact ret0_ (rs := [.tmp 3]) rfl

theorem slices_IndexFunc_LMonth_Month_i_ValidCalendar_1_c {p0 : List Month_} {p1_0 : Month_} {r : Int} (h0 : slices_IndexFunc_LMonth_Month_i_ValidCalendar_1_m p0 p1_0 = some r) : FnC Try.prog 176 [] [.d (.sl (List.map cMonth_ p0)), .fn 146 [.ref (cMonth_ p1_0)]] [] (.d (.v (.int .i64 r))) := by
  refine fnc_intro (T := tt) (N := 19) tok Try.func176 rfl rfl (by kernel_rfl) rfl rfl ?_
  unfold slices_IndexFunc_LMonth_Month_i_ValidCalendar_1_m at h0
  refine aw_seq ?_
  refine aw_regionA (is := [0]) rfl ?_
  refine rp rfl w0 rfl (pu_assign (r := .d _) rfl) ?_
  refine ra_nil ?_
  refine then_n ?_
  obtain ⟨v7x, h1, h0⟩ := bnd h0
  refine aw_cutE v7x (fun v7 => ⟨(fun _ => .dead), lks [.no, .no, .no]⟩) ?_ ?_
  · skip
    refine aw_seq ?_
    refine aw_regionA (is := [0, 1, 2]) rfl ?_
    refine rp rfl w0 rfl (pu_move (r := .d _) rfl) ?_
    refine rp rfl w0 rfl (pu_len_map tok rfl rfl rfl) ?_
    refine rp rfl w0 rfl (pu_move (r := .d _) rfl) ?_
    refine ra_nil ?_
    refine then_n ?_
    refine aw_block ?_
    refine aw_loopM (fun s4 => ⟨updA (updA (updA (updA ((fun _ => .dead)) 0 (.d (.sl (List.map cMonth_ p0)))) 1 (.fn 146 [.ref (cMonth_ p1_0)])) 7 (.d (.v (.int .i64 (p0.length : Int))))) 8 (.d (.v (.int .i64 s4))), lks [.no, .no, .no]⟩) h1 ?_ (fun s4 y h2 => ?_)
    · skip
      exact wk [0, 1, 2]
    · skip
      refine aw_seq ?_
      refine aw_regionA (is := [0]) rfl ?_
      refine rp rfl w0 rfl (pu_lss rfl rfl) ?_
      refine ra_nil ?_
      refine then_n ?_
      refine aw_seq ?_
      refine aw_if h2 rfl (fun hc h2 => ?_) (fun hc h2 => ?_)
      · skip
        refine aw_skip ?_
        refine then_n ?_
        refine aw_seq ?_
        refine aw_block ?_
        refine aw_seq ?_
        refine aw_regionA (is := [0, 1]) rfl ?_
        refine rp rfl w0 rfl (pu_move (r := .d _) rfl) ?_
        refine rp rfl w0 rfl (pu_assign (r := .d _) rfl) ?_
        refine ra_nil ?_
        refine then_n ?_
        refine aw_seq ?_
        refine aw_regionA (is := [0, 1, 2, 3, 4, 5]) rfl ?_
        refine rp rfl w0 rfl (pu_move (r := .fn _ _) rfl) ?_
        refine rp rfl w0 rfl (pu_move (r := .d _) rfl) ?_
        refine rp rfl w0 rfl (pu_move (r := .d _) rfl) ?_
        obtain ⟨v5, hv5, h2⟩ := bnd h2
        refine rp rfl w0 rfl (sl_ix tok hv5 rfl rfl rfl rfl rfl rfl) ?_
        refine rp rfl w0 rfl (pu_load_refN tok rfl rfl rfl (by repeat (first | exact SegD.z _ | apply SegD.t))) ?_
        obtain ⟨v6, hv6, h2⟩ := bnd h2
        refine rs rfl w0 rfl (c_call 3 (i_ValidCalendar_1_c hv6) rfl rfl rfl) ?_
        refine ra_nil ?_
        refine then_n ?_
        refine aw_ifB h2 rfl (fun hc h2 => ?_) (fun hc h2 => ?_)
        · skip
          refine aw_seq ?_
          refine aw_regionA (is := [0, 1]) rfl ?_
          refine rp rfl w0 rfl (pu_move (r := .d _) rfl) ?_
          refine rp rfl w0 rfl (pu_assign (r := .d _) rfl) ?_
          refine ra_nil ?_
          refine then_n ?_
          refine aw_ret ?_
          refine block_r ?_
          refine then_r ?_
          cases h2
          refine loop_r ⟨_, rfl, fun e => ?_⟩
          subst e
          refine block_r ?_
          replace h0 := orE_s h0
          refine then_r ?_
          cases h0
          exact ret0_ (rs := [.tmp 4]) rfl
        · skip
          refine aw_skip ?_
          refine block_n ?_
          refine then_n ?_
          refine aw_regionA (is := [0, 1]) rfl ?_
          refine rp rfl w0 rfl (pw_add rfl rfl) ?_
          refine rp rfl w0 rfl (pu_move (r := .d _) rfl) ?_
          refine ra_nil ?_
          refine loop_n ?_
          cases h2
          refine ⟨_, rfl, ?_⟩
          exact wk [0, 1, 2]
      · skip
        refine aw_exit ?_
        refine then_e ?_
        cases h2
        refine loop_x ⟨_, rfl, fun e => ?_⟩
        subst e
        refine block_hit ?_
        refine then_n ?_
        refine ⟨_, rfl, ?_⟩
        exact wk [0, 1, 2]
  · skip
    rintro v7 rfl
    replace h0 := orE_f h0
    refine aw_seq ?_
    refine aw_regionA (is := [0]) rfl ?_
    refine rp rfl w0 rfl (pu_assign (r := .d _) rfl) ?_
    refine ra_nil ?_
    refine then_n ?_
    refine aw_ret ?_
    cases h0
    exact ret0_ (rs := [.tmp 4]) rfl

theorem slices_ContainsFunc_LMonth_Month_i_ValidCalendar_1_c {p0 : List Month_} {p1_0 : Month_} {r : Bool} (h0 : slices_ContainsFunc_LMonth_Month_i_ValidCalendar_1_m p0 p1_0 = some r) : FnC Try.prog 145 [] [.d (.sl (List.map cMonth_ p0)), .fn 146 [.ref (cMonth_ p1_0)]] [] (.d (.v (.bool r))) := by
  refine fnc_intro (T := tt) (N := 9) tok Try.func145 rfl rfl (by kernel_rfl) rfl rfl ?_
  unfold slices_ContainsFunc_LMonth_Month_i_ValidCalendar_1_m at h0
  refine aw_seq ?_
  refine aw_regionA (is := [0]) rfl ?_
  refine rp rfl w0 rfl (pu_assign (r := .d _) rfl) ?_
  refine ra_nil ?_
  refine then_n ?_
  refine aw_seq ?_
  refine aw_regionA (is := [0, 1, 2, 3, 4]) rfl ?_
  refine rp rfl w0 rfl (pu_move (r := .d _) rfl) ?_
  refine rp rfl w0 rfl (pu_move (r := .fn _ _) rfl) ?_
  obtain ⟨v1, hv1, h0⟩ := bnd h0
  refine rs rfl w0 rfl (c_call 3 (slices_IndexFunc_LMonth_Month_i_ValidCalendar_1_c hv1) rfl rfl rfl) ?_
  refine rp rfl w0 rfl (pu_geq rfl rfl) ?_
  refine rp rfl w0 rfl (pu_assign (r := .d _) rfl) ?_
  refine ra_nil ?_
  refine then_n ?_
  refine aw_ret ?_
  cases h0
  exact ret0_ (rs := [.tmp 4]) rfl

theorem i_gcd_c {p0 : Int} {p1 : Int} {r : Int} (h0 : i_gcd_m p0 p1 = some r) : FnC Try.prog 177 [] [.d (.v (.int .i64 p0)), .d (.v (.int .i64 p1))] [] (.d (.v (.int .i64 r))) := by
  refine fnc_intro (T := tt) (N := 16) tok Try.func177 rfl rfl (by kernel_rfl) rfl rfl ?_
  unfold i_gcd_m at h0
  refine aw_seq ?_
  refine aw_regionA (is := [0]) rfl ?_
  refine rp rfl w0 rfl (pu_assign (r := .d _) rfl) ?_
  refine ra_nil ?_
  refine then_n ?_
  obtain ⟨v5, h1, h0⟩ := bnd h0
  refine aw_cut ⟨updA ((fun _ => .dead)) 0 (.d (.v (.int .i64 v5))), lks [.no, .no, .no]⟩ ?_ ?_
  · skip
    refine aw_block ?_
    refine aw_loopM (fun s3 => ⟨updA (updA ((fun _ => .dead)) 0 (.d (.v (.int .i64 s3.1)))) 1 (.d (.v (.int .i64 s3.2))), lks [.no, .no, .no]⟩) h1 ?_ (fun s3 y h2 => ?_)
    · skip
      exact wk [0, 1, 2]
    · skip
      refine aw_seq ?_
      refine aw_seq ?_
      refine aw_regionA (is := [0, 1]) rfl ?_
      refine rp rfl w0 rfl (pu_move (r := .d _) rfl) ?_
      refine rp rfl w0 rfl (pu_neq rfl rfl) ?_
      refine ra_nil ?_
      refine then_n ?_
      refine aw_if h2 rfl (fun hc h2 => ?_) (fun hc h2 => ?_)
      · skip
        refine aw_skip ?_
        refine then_n ?_
        refine aw_block ?_
        refine aw_region_draw (is := [0, 1, 2, 3, 4, 5]) [0, 0, 0, 6, 3, 31] follows (by kernel_rfl) ?_
        refine rt_p rfl w0 rfl (pu_move (r := .d _) rfl) ?_
        refine rt_p rfl w0 rfl (pu_move (r := .d _) rfl) ?_
        refine rt_p rfl w0 rfl (pu_move (r := .d _) rfl) ?_
        obtain ⟨hq4, h2⟩ := chk_e h2
        refine rt_p rfl w0 rfl (pu_remw rfl rfl hq4) ?_
        refine rt_p rfl w0 rfl (pu_assign (r := .d _) rfl) ?_
        refine rt_p rfl w0 rfl (pu_assign (r := .d _) rfl) ?_
        refine rt_nil ?_
        refine ⟨by kernel_rfl, ?_⟩
        refine block_n ?_
        refine loop_n ?_
        cases h2
        refine ⟨_, rfl, ?_⟩
        exact wk [0, 1, 2]
      · skip
        refine aw_exit ?_
        refine then_e ?_
        cases h2
        refine loop_x ⟨_, rfl, fun e => ?_⟩
        subst e
        refine block_hit ?_
        refine then_n ?_
        exact wk [0, 1, 2]
  · skip
    refine aw_seq ?_
    refine aw_seq ?_
    refine aw_regionA (is := [0, 1]) rfl ?_
    refine rp rfl w0 rfl (pu_move (r := .d _) rfl) ?_
    refine rp rfl w0 rfl (pu_lss rfl rfl) ?_
    refine ra_nil ?_
    refine then_n ?_
    refine aw_if h0 rfl (fun hc h0 => ?_) (fun hc h0 => ?_)
    · skip
      refine aw_seq ?_
      refine aw_regionA (is := [0, 1, 2]) rfl ?_
      refine rp rfl w0 rfl (pu_move (r := .d _) rfl) ?_
      refine rp rfl w0 rfl (pw_neg rfl) ?_
      refine rp rfl w0 rfl (pu_assign (r := .d _) rfl) ?_
      refine ra_nil ?_
      refine then_n ?_
      refine aw_ret ?_
      refine then_r ?_
      cases h0
      exact ret0_ (rs := [.tmp 4]) rfl
    · skip
      refine aw_skip ?_
      refine then_n ?_
      refine aw_seq ?_
      refine aw_regionA (is := [0, 1]) rfl ?_
      refine rp rfl w0 rfl (pu_move (r := .d _) rfl) ?_
      refine rp rfl w0 rfl (pu_assign (r := .d _) rfl) ?_
      refine ra_nil ?_
      refine then_n ?_
      refine aw_ret ?_
      cases h0
      exact ret0_ (rs := [.tmp 4]) rfl

theorem i_cycleYears_c {p0 : List LeapRule_} {r : Int} (h0 : i_cycleYears_m p0 = some r) : FnC Try.prog 147 [] [.d (.sl (List.map cLeapRule_ p0))] [] (.d (.v (.int .i64 r))) := by
  refine fnc_intro (T := tt) (N := 25) tok Try.func147 rfl rfl (by kernel_rfl) rfl rfl ?_
  unfold i_cycleYears_m at h0
  refine aw_seq ?_
  refine aw_regionA (is := [0]) rfl ?_
  refine rp rfl w0 rfl (pu_assign (r := .d _) rfl) ?_
  refine ra_nil ?_
  refine then_n ?_
  refine aw_seq ?_
  refine aw_regionA (is := [0]) rfl ?_
  refine rp rfl w0 rfl (pu_assign (r := .d _) rfl) ?_
  refine ra_nil ?_
  refine then_n ?_
  obtain ⟨v11, h1, h0⟩ := bnd h0
  refine aw_cut ⟨updA ((fun _ => .dead)) 3 (.d (.v (.int .i64 v11))), lks [.no, .no, .no]⟩ ?_ ?_
  · skip
    refine aw_seq ?_
    refine aw_regionA (is := [0, 1, 2]) rfl ?_
    refine rp rfl w0 rfl (pu_move (r := .d _) rfl) ?_
    refine rp rfl w0 rfl (pu_len_map tok rfl rfl rfl) ?_
    refine rp rfl w0 rfl (pu_move (r := .d _) rfl) ?_
    refine ra_nil ?_
    refine then_n ?_
    refine aw_block ?_
    refine aw_loopM (fun s6 => ⟨updA (updA (updA (updA ((fun _ => .dead)) 3 (.d (.v (.int .i64 s6.1)))) 6 (.d (.sl (List.map cLeapRule_ p0)))) 7 (.d (.v (.int .i64 (p0.length : Int))))) 8 (.d (.v (.int .i64 s6.2))), lks [.no, .no, .no]⟩) h1 ?_ (fun s6 y h2 => ?_)
    · skip
      exact wk [0, 1, 2]
    · skip
      refine aw_seq ?_
      refine aw_regionA (is := [0]) rfl ?_
      refine rp rfl w0 rfl (pu_lss rfl rfl) ?_
      refine ra_nil ?_
      refine then_n ?_
      refine aw_seq ?_
      refine aw_if h2 rfl (fun hc h2 => ?_) (fun hc h2 => ?_)
      · skip
        refine aw_skip ?_
        refine then_n ?_
        obtain ⟨v10, h3, h2⟩ := bnd h2
        refine aw_cut ⟨updA (updA (updA (updA ((fun _ => .dead)) 3 (.d (.v (.int .i64 v10)))) 6 (.d (.sl (List.map cLeapRule_ p0)))) 7 (.d (.v (.int .i64 (p0.length : Int))))) 8 (.d (.v (.int .i64 s6.2))), lks [.no, .no, .no]⟩ ?_ ?_
        · skip
          refine aw_block ?_
          refine aw_seq ?_
          refine aw_regionA (is := [0, 1, 2, 3]) rfl ?_
          obtain ⟨v7, hv7, h3⟩ := bnd h3
          refine rp rfl w0 rfl (sl_ix tok hv7 rfl rfl rfl rfl rfl rfl) ?_
          refine rp rfl w0 rfl (pu_load_refN tok rfl rfl rfl (by repeat (first | exact SegD.z _ | apply SegD.t))) ?_
          refine rs rfl w0 rfl (st_alloc 3 (cs := [.d (.v (.int .i64 0)), .d (.v (.int .i64 0)), .d (.v (.bool false))]) tok rfl rfl rfl) ?_
          refine rw0 rfl w0 (bx_st (cs := _ :: _) tok rfl rfl rfl rfl rfl rfl rfl) ?_
          refine ra_nil ?_
          refine then_n ?_
          refine aw_seq ?_
          refine aw_regionA (is := [0, 1]) rfl ?_
          refine rp rfl w0 rfl (pu_move (r := .d _) rfl) ?_
          refine rp rfl w0 rfl (pu_leq rfl rfl) ?_
          refine ra_nil ?_
          refine then_n ?_
          refine aw_if h3 rfl (fun hc h3 => ?_) (fun hc h3 => ?_)
          · skip
            refine aw_region_draw (is := [0, 1, 2, 3, 6, 7, 4, 5, 8, 9]) [0, 0, 0, 4, 14, 31, 0, 64, 255, 511] follows (by kernel_rfl) ?_
            refine rt_p rfl w0 rfl (pu_move (r := .d _) rfl) ?_
            refine rt_p rfl w0 rfl (pu_move (r := .d _) rfl) ?_
            refine rt_lk rfl w0 rfl (bx_fa tok rfl rfl rfl rfl rfl rfl rfl) rfl rfl rfl ?_
            refine rt_lk rfl w0 rfl (bx_ld1 tok rfl rfl rfl rfl rfl) rfl rfl rfl ?_
            refine rt_lk rfl w0 rfl (bx_fa tok rfl rfl rfl rfl rfl rfl rfl) rfl rfl rfl ?_
            refine rt_lk rfl w0 rfl (bx_ld1 tok rfl rfl rfl rfl rfl) rfl rfl rfl ?_
            obtain ⟨v8, hv8, h3⟩ := bnd h3
            refine rt_c rfl w0 rfl (b_call 4 (i_gcd_c hv8) rfl rfl rfl) ?_
            obtain ⟨hq9, h3⟩ := chk_e h3
            refine rt_p rfl w0 rfl (pw_quo rfl rfl hq9) ?_
            refine rt_p rfl w0 rfl (pw_mul rfl rfl) ?_
            refine rt_p rfl w0 rfl (pu_assign (r := .d _) rfl) ?_
            refine rt_nil ?_
            refine ⟨by kernel_rfl, ?_⟩
            refine block_n ?_
            refine then_n ?_
            cases h3
            exact wk [0, 1, 2]
          · skip
            refine aw_skip ?_
            refine block_n ?_
            refine then_n ?_
            cases h3
            exact wk [0, 1, 2]
        · skip
          refine aw_regionA (is := [0, 1]) rfl ?_
          refine rp rfl w0 rfl (pw_add rfl rfl) ?_
          refine rp rfl w0 rfl (pu_move (r := .d _) rfl) ?_
          refine ra_nil ?_
          refine loop_n ?_
          cases h2
          refine ⟨_, rfl, ?_⟩
          exact wk [0, 1, 2]
      · skip
        refine aw_exit ?_
        refine then_e ?_
        cases h2
        refine loop_x ⟨_, rfl, fun e => ?_⟩
        subst e
        refine block_hit ?_
        refine then_n ?_
        exact wk [0, 1, 2]
  · skip
    refine aw_seq ?_
    refine aw_regionA (is := [0, 1]) rfl ?_
    refine rp rfl w0 rfl (pu_move (r := .d _) rfl) ?_
    refine rp rfl w0 rfl (pu_assign (r := .d _) rfl) ?_
    refine ra_nil ?_
    refine then_n ?_
    refine aw_ret ?_
    cases h0
    exact ret0_ (rs := [.tmp 2]) rfl

theorem i_ValidCalendar_c {p0 : Calendar_} {r : Bool} (h0 : i_ValidCalendar_m p0 = some r) : FnC Try.prog 101 [] [.agg [.d (.v (.string p0.Name)), .d (.sl (List.map cMonth_ p0.Months)), .d (.sl (List.map cLeapRule_ p0.Rules)), .d (.v (.int .i64 p0.Week))]] [] (.d (.v (.bool r))) := by
  refine fnc_intro (T := tt) (N := 91) tok Try.func101 rfl rfl (by kernel_rfl) rfl rfl ?_
  unfold i_ValidCalendar_m at h0
  refine aw_seq ?_
  refine aw_regionA (is := [0, 1]) rfl ?_
  refine rs rfl w0 rfl (st_box 3 (cs := _ :: _) rfl rfl rfl) ?_
  refine rp rfl w0 rfl (pu_assign (r := .d _) rfl) ?_
  refine ra_nil ?_
  refine then_n ?_
  refine aw_seq ?_
  obtain ⟨v3, h1, h0⟩ := bnd h0
  refine aw_cut ⟨updA (updA ((fun _ => .dead)) 1 (.ptr 3 0 1 0 0)) 34 (.d (.v (.bool v3))), lks [.no, .no, .no, .live [⟨75, 4, .av [[.d (.v (.string p0.Name)), .d (.sl (List.map cMonth_ p0.Months)), .d (.sl (List.map cLeapRule_ p0.Rules)), .d (.v (.int .i64 p0.Week))]]⟩]]⟩ ?_ ?_
  · skip
    refine aw_regionA (is := [0, 1, 2, 3, 4, 5, 6, 7, 8, 9, 10, 11, 12, 13, 14, 15, 16, 17, 18, 19, 20, 21, 22, 23, 24, 25, 26, 27]) rfl ?_
    refine rl rfl w0 rfl (bx_fa tok rfl rfl rfl rfl rfl rfl rfl) ?_
    refine rl rfl w0 rfl (bx_ld1 tok rfl rfl rfl rfl rfl) ?_
    obtain ⟨v1, hv1, h1⟩ := bnd h1
    refine rs rfl w0 rfl (c_call 4 (i_IsName_c hv1) rfl rfl rfl) ?_
    refine rp rfl w0 rfl (pu_not rfl) ?_
    refine rp rfl w0 rfl (pu_move (r := .d _) rfl) ?_
    refine ra_ifB (u := 11) h1 rfl (fun hc h1 => ?_) (fun hc h1 => ?_)
    · skip
      refine rk rfl rfl rfl (by first | exact .inl rfl | exact .inr rfl) rfl ?_
      refine rk rfl rfl rfl (by first | exact .inl rfl | exact .inr rfl) rfl ?_
      refine rk rfl rfl rfl (by first | exact .inl rfl | exact .inr rfl) rfl ?_
      refine rk rfl rfl rfl (by first | exact .inl rfl | exact .inr rfl) rfl ?_
      refine rp rfl w0 rfl (pu_pick_t (r := .d _) rfl rfl) ?_
      refine rp rfl w0 rfl (pu_move (r := .d _) rfl) ?_
      refine rk rfl rfl rfl (by first | exact .inl rfl | exact .inr rfl) rfl ?_
      refine rk rfl rfl rfl (by first | exact .inl rfl | exact .inr rfl) rfl ?_
      refine rk rfl rfl rfl (by first | exact .inl rfl | exact .inr rfl) rfl ?_
      refine rk rfl rfl rfl (by first | exact .inl rfl | exact .inr rfl) rfl ?_
      refine rp rfl w0 rfl (pu_pick_t (r := .d _) rfl rfl) ?_
      refine rp rfl w0 rfl (pu_move (r := .d _) rfl) ?_
      refine rk rfl rfl rfl (by first | exact .inl rfl | exact .inr rfl) rfl ?_
      refine rk rfl rfl rfl (by first | exact .inl rfl | exact .inr rfl) rfl ?_
      refine rk rfl rfl rfl (by first | exact .inl rfl | exact .inr rfl) rfl ?_
      refine rk rfl rfl rfl (by first | exact .inl rfl | exact .inr rfl) rfl ?_
      refine rp rfl w0 rfl (pu_pick_t (r := .d _) rfl rfl) ?_
      refine rp rfl w0 rfl (pu_move (r := .d _) rfl) ?_
      refine rk rfl rfl rfl (by first | exact .inl rfl | exact .inr rfl) rfl ?_
      refine rk rfl rfl rfl (by first | exact .inl rfl | exact .inr rfl) rfl ?_
      refine rk rfl rfl rfl (by first | exact .inl rfl | exact .inr rfl) rfl ?_
      refine rk rfl rfl rfl (by first | exact .inl rfl | exact .inr rfl) rfl ?_
      refine rp rfl w0 rfl (pu_pick_t (r := .d _) rfl rfl) ?_
      refine ra_nil ?_
      refine then_n ?_
      cases h1
      exact wk [0, 1, 2, 3]
    · skip
      refine rl rfl (w1 rfl rfl rfl) rfl (bx_fa tok rfl rfl rfl rfl rfl rfl rfl) ?_
      refine rl rfl (w1 rfl rfl rfl) rfl (bx_ld1 tok rfl rfl rfl rfl rfl) ?_
      refine rp rfl (w1 rfl rfl rfl) rfl (pu_len_map tok rfl rfl rfl) ?_
      refine rp rfl (w1 rfl rfl rfl) rfl (pu_lss rfl rfl) ?_
      refine rp rfl w0 rfl (pu_pick_f (r := .d _) rfl rfl) ?_
      refine rp rfl w0 rfl (pu_move (r := .d _) rfl) ?_
      refine ra_if (u := 17) h1 rfl (fun hc h1 => ?_) (fun hc h1 => ?_)
      · skip
        refine rk rfl rfl rfl (by first | exact .inl rfl | exact .inr rfl) rfl ?_
        refine rk rfl rfl rfl (by first | exact .inl rfl | exact .inr rfl) rfl ?_
        refine rk rfl rfl rfl (by first | exact .inl rfl | exact .inr rfl) rfl ?_
        refine rk rfl rfl rfl (by first | exact .inl rfl | exact .inr rfl) rfl ?_
        refine rp rfl w0 rfl (pu_pick_t (r := .d _) rfl rfl) ?_
        refine rp rfl w0 rfl (pu_move (r := .d _) rfl) ?_
        refine rk rfl rfl rfl (by first | exact .inl rfl | exact .inr rfl) rfl ?_
        refine rk rfl rfl rfl (by first | exact .inl rfl | exact .inr rfl) rfl ?_
        refine rk rfl rfl rfl (by first | exact .inl rfl | exact .inr rfl) rfl ?_
        refine rk rfl rfl rfl (by first | exact .inl rfl | exact .inr rfl) rfl ?_
        refine rp rfl w0 rfl (pu_pick_t (r := .d _) rfl rfl) ?_
        refine rp rfl w0 rfl (pu_move (r := .d _) rfl) ?_
        refine rk rfl rfl rfl (by first | exact .inl rfl | exact .inr rfl) rfl ?_
        refine rk rfl rfl rfl (by first | exact .inl rfl | exact .inr rfl) rfl ?_
        refine rk rfl rfl rfl (by first | exact .inl rfl | exact .inr rfl) rfl ?_
        refine rk rfl rfl rfl (by first | exact .inl rfl | exact .inr rfl) rfl ?_
        refine rp rfl w0 rfl (pu_pick_t (r := .d _) rfl rfl) ?_
        refine ra_nil ?_
        refine then_n ?_
        cases h1
        exact wk [0, 1, 2, 3]
      · skip
        refine rl rfl (w1 rfl rfl rfl) rfl (bx_fa tok rfl rfl rfl rfl rfl rfl rfl) ?_
        refine rl rfl (w1 rfl rfl rfl) rfl (bx_ld1 tok rfl rfl rfl rfl rfl) ?_
        refine rp rfl (w1 rfl rfl rfl) rfl (pu_len_map tok rfl rfl rfl) ?_
        refine rp rfl (w1 rfl rfl rfl) rfl (pu_gtr rfl rfl) ?_
        refine rp rfl w0 rfl (pu_pick_f (r := .d _) rfl rfl) ?_
        refine rp rfl w0 rfl (pu_move (r := .d _) rfl) ?_
        refine ra_if (u := 23) h1 rfl (fun hc h1 => ?_) (fun hc h1 => ?_)
        · skip
          refine rk rfl rfl rfl (by first | exact .inl rfl | exact .inr rfl) rfl ?_
          refine rk rfl rfl rfl (by first | exact .inl rfl | exact .inr rfl) rfl ?_
          refine rk rfl rfl rfl (by first | exact .inl rfl | exact .inr rfl) rfl ?_
          refine rk rfl rfl rfl (by first | exact .inl rfl | exact .inr rfl) rfl ?_
          refine rp rfl w0 rfl (pu_pick_t (r := .d _) rfl rfl) ?_
          refine rp rfl w0 rfl (pu_move (r := .d _) rfl) ?_
          refine rk rfl rfl rfl (by first | exact .inl rfl | exact .inr rfl) rfl ?_
          refine rk rfl rfl rfl (by first | exact .inl rfl | exact .inr rfl) rfl ?_
          refine rk rfl rfl rfl (by first | exact .inl rfl | exact .inr rfl) rfl ?_
          refine rk rfl rfl rfl (by first | exact .inl rfl | exact .inr rfl) rfl ?_
          refine rp rfl w0 rfl (pu_pick_t (r := .d _) rfl rfl) ?_
          refine ra_nil ?_
          refine then_n ?_
          cases h1
          exact wk [0, 1, 2, 3]
        · skip
          refine rl rfl (w1 rfl rfl rfl) rfl (bx_fa tok rfl rfl rfl rfl rfl rfl rfl) ?_
          refine rl rfl (w1 rfl rfl rfl) rfl (bx_ld1 tok rfl rfl rfl rfl rfl) ?_
          refine rp rfl (w1 rfl rfl rfl) rfl (pu_len_map tok rfl rfl rfl) ?_
          refine rp rfl (w1 rfl rfl rfl) rfl (pu_gtr rfl rfl) ?_
          refine rp rfl w0 rfl (pu_pick_f (r := .d _) rfl rfl) ?_
          refine rp rfl w0 rfl (pu_move (r := .d _) rfl) ?_
          refine ra_if (u := 29) h1 rfl (fun hc h1 => ?_) (fun hc h1 => ?_)
          · skip
            refine rk rfl rfl rfl (by first | exact .inl rfl | exact .inr rfl) rfl ?_
            refine rk rfl rfl rfl (by first | exact .inl rfl | exact .inr rfl) rfl ?_
            refine rk rfl rfl rfl (by first | exact .inl rfl | exact .inr rfl) rfl ?_
            refine rk rfl rfl rfl (by first | exact .inl rfl | exact .inr rfl) rfl ?_
            refine rp rfl w0 rfl (pu_pick_t (r := .d _) rfl rfl) ?_
            refine ra_nil ?_
            refine then_n ?_
            cases h1
            exact wk [0, 1, 2, 3]
          · skip
            refine rl rfl (w1 rfl rfl rfl) rfl (bx_fa tok rfl rfl rfl rfl rfl rfl rfl) ?_
            refine rl rfl (w1 rfl rfl rfl) rfl (bx_ld1 tok rfl rfl rfl rfl rfl) ?_
            obtain ⟨v2, hv2, h1⟩ := bnd h1
            refine rs rfl (w1 rfl rfl rfl) rfl (c_call 4 (i_within_c hv2) rfl rfl rfl) ?_
            refine rp rfl (w1 rfl rfl rfl) rfl (pu_not rfl) ?_
            refine rp rfl w0 rfl (pu_pick_f (r := .d _) rfl rfl) ?_
            refine ra_nil ?_
            refine then_n ?_
            cases h1
            exact wk [0, 1, 2, 3]
  · skip
    refine aw_ifB h0 rfl (fun hc h0 => ?_) (fun hc h0 => ?_)
    · skip
      refine aw_seq ?_
      refine aw_regionA (is := [0]) rfl ?_
      refine rp rfl w0 rfl (pu_assign (r := .d _) rfl) ?_
      refine ra_nil ?_
      refine then_n ?_
      refine aw_ret ?_
      refine then_r ?_
      cases h0
      exact ret0_ (rs := [.tmp 2]) rfl
    · skip
      refine aw_skip ?_
      refine then_n ?_
      obtain ⟨v20x, h1, h0⟩ := bnd h0
      refine aw_cutE v20x (fun v20 => ⟨updA ((fun _ => .dead)) 1 (.ptr 3 0 1 0 0), lks [.no, .no, .no, .live [⟨75, 4, .av [[.d (.v (.string p0.Name)), .d (.sl (List.map cMonth_ p0.Months)), .d (.sl (List.map cLeapRule_ p0.Rules)), .d (.v (.int .i64 p0.Week))]]⟩]]⟩) ?_ ?_
      · skip
        refine aw_seq ?_
        refine aw_regionA (is := [0, 1, 2, 3]) rfl ?_
        refine rl rfl w0 rfl (bx_fa tok rfl rfl rfl rfl rfl rfl rfl) ?_
        refine rl rfl w0 rfl (bx_ld1 tok rfl rfl rfl rfl rfl) ?_
        refine rp rfl w0 rfl (pu_len_map tok rfl rfl rfl) ?_
        refine rp rfl w0 rfl (pu_move (r := .d _) rfl) ?_
        refine ra_nil ?_
        refine then_n ?_
        refine aw_block ?_
        refine aw_loopM (fun s12 => ⟨updA (updA (updA (updA ((fun _ => .dead)) 1 (.ptr 3 0 1 0 0)) 36 (.d (.sl (List.map cMonth_ p0.Months)))) 37 (.d (.v (.int .i64 (p0.Months.length : Int))))) 38 (.d (.v (.int .i64 s12))), lks [.no, .no, .no, .live [⟨75, 4, .av [[.d (.v (.string p0.Name)), .d (.sl (List.map cMonth_ p0.Months)), .d (.sl (List.map cLeapRule_ p0.Rules)), .d (.v (.int .i64 p0.Week))]]⟩]]⟩) h1 ?_ (fun s12 y h2 => ?_)
        · skip
          exact wk [0, 1, 2, 3]
        · skip
          refine aw_seq ?_
          refine aw_regionA (is := [0]) rfl ?_
          refine rp rfl w0 rfl (pu_lss rfl rfl) ?_
          refine ra_nil ?_
          refine then_n ?_
          refine aw_seq ?_
          refine aw_if h2 rfl (fun hc h2 => ?_) (fun hc h2 => ?_)
          · skip
            refine aw_skip ?_
            refine then_n ?_
            refine aw_seq ?_
            refine aw_block ?_
            refine aw_seq ?_
            refine aw_regionA (is := [0, 1, 2, 3, 4, 5]) rfl ?_
            refine rp rfl w0 rfl (pu_move (r := .d _) rfl) ?_
            obtain ⟨v13, hv13, h2⟩ := bnd h2
            refine rp rfl w0 rfl (sl_ix tok hv13 rfl rfl rfl rfl rfl rfl) ?_
            refine rp rfl w0 rfl (pu_load_refN tok rfl rfl rfl (by repeat (first | exact SegD.z _ | apply SegD.t))) ?_
            refine rs rfl w0 rfl (st_alloc 4 (cs := [.d (.v (.string (⟨#[]⟩ : ByteArray))), .d (.v (.int .i64 0)), .d (.v (.int .i64 0))]) tok rfl rfl rfl) ?_
            refine rp rfl w0 rfl (pu_assign (r := .d _) rfl) ?_
            refine rw0 rfl w0 (bx_st (cs := _ :: _) tok rfl rfl rfl rfl rfl rfl rfl) ?_
            refine ra_nil ?_
            refine then_n ?_
            refine aw_seq ?_
            obtain ⟨v17, h3, h2⟩ := bnd h2
            refine aw_cut ⟨updA (updA (updA (updA (updA (updA (updA ((fun _ => .dead)) 1 (.ptr 3 0 1 0 0)) 3 (.d (.v (.int .i64 s12)))) 4 (.ptr 4 0 1 0 0)) 36 (.d (.sl (List.map cMonth_ p0.Months)))) 37 (.d (.v (.int .i64 (p0.Months.length : Int))))) 38 (.d (.v (.int .i64 s12)))) 58 (.d (.v (.bool v17))), lks [.no, .no, .no, .live [⟨75, 4, .av [[.d (.v (.string p0.Name)), .d (.sl (List.map cMonth_ p0.Months)), .d (.sl (List.map cLeapRule_ p0.Rules)), .d (.v (.int .i64 p0.Week))]]⟩], .live [⟨170, 3, .av [[.d (.v (.string v13.Name)), .d (.v (.int .i64 v13.Days)), .d (.v (.int .i64 v13.Leap))]]⟩]]⟩ ?_ ?_
            · skip
              refine aw_regionA (is := [0, 1, 2, 3, 4, 5, 6, 7, 8, 9, 10, 11, 12, 13, 14, 15]) rfl ?_
              refine rl rfl w0 rfl (bx_fa tok rfl rfl rfl rfl rfl rfl rfl) ?_
              refine rl rfl w0 rfl (bx_ld1 tok rfl rfl rfl rfl rfl) ?_
              obtain ⟨v14, hv14, h3⟩ := bnd h3
              refine rs rfl w0 rfl (c_call 5 (i_IsName_c hv14) rfl rfl rfl) ?_
              refine rp rfl w0 rfl (pu_not rfl) ?_
              refine rp rfl w0 rfl (pu_move (r := .d _) rfl) ?_
              refine ra_ifB (u := 47) h3 rfl (fun hc h3 => ?_) (fun hc h3 => ?_)
              · skip
                refine rk rfl rfl rfl (by first | exact .inl rfl | exact .inr rfl) rfl ?_
                refine rk rfl rfl rfl (by first | exact .inl rfl | exact .inr rfl) rfl ?_
                refine rk rfl rfl rfl (by first | exact .inl rfl | exact .inr rfl) rfl ?_
                refine rk rfl rfl rfl (by first | exact .inl rfl | exact .inr rfl) rfl ?_
                refine rp rfl w0 rfl (pu_pick_t (r := .d _) rfl rfl) ?_
                refine rp rfl w0 rfl (pu_move (r := .d _) rfl) ?_
                refine rk rfl rfl rfl (by first | exact .inl rfl | exact .inr rfl) rfl ?_
                refine rk rfl rfl rfl (by first | exact .inl rfl | exact .inr rfl) rfl ?_
                refine rk rfl rfl rfl (by first | exact .inl rfl | exact .inr rfl) rfl ?_
                refine rk rfl rfl rfl (by first | exact .inl rfl | exact .inr rfl) rfl ?_
                refine rp rfl w0 rfl (pu_pick_t (r := .d _) rfl rfl) ?_
                refine ra_nil ?_
                refine then_n ?_
                cases h3
                exact wk [0, 1, 2, 3, 4]
              · skip
                refine rl rfl (w1 rfl rfl rfl) rfl (bx_fa tok rfl rfl rfl rfl rfl rfl rfl) ?_
                refine rl rfl (w1 rfl rfl rfl) rfl (bx_ld1 tok rfl rfl rfl rfl rfl) ?_
                obtain ⟨v15, hv15, h3⟩ := bnd h3
                refine rs rfl (w1 rfl rfl rfl) rfl (c_call 5 (i_within_c hv15) rfl rfl rfl) ?_
                refine rp rfl (w1 rfl rfl rfl) rfl (pu_not rfl) ?_
                refine rp rfl w0 rfl (pu_pick_f (r := .d _) rfl rfl) ?_
                refine rp rfl w0 rfl (pu_move (r := .d _) rfl) ?_
                refine ra_ifB (u := 53) h3 rfl (fun hc h3 => ?_) (fun hc h3 => ?_)
                · skip
                  refine rk rfl rfl rfl (by first | exact .inl rfl | exact .inr rfl) rfl ?_
                  refine rk rfl rfl rfl (by first | exact .inl rfl | exact .inr rfl) rfl ?_
                  refine rk rfl rfl rfl (by first | exact .inl rfl | exact .inr rfl) rfl ?_
                  refine rk rfl rfl rfl (by first | exact .inl rfl | exact .inr rfl) rfl ?_
                  refine rp rfl w0 rfl (pu_pick_t (r := .d _) rfl rfl) ?_
                  refine ra_nil ?_
                  refine then_n ?_
                  cases h3
                  exact wk [0, 1, 2, 3, 4]
                · skip
                  refine rl rfl (w1 rfl rfl rfl) rfl (bx_fa tok rfl rfl rfl rfl rfl rfl rfl) ?_
                  refine rl rfl (w1 rfl rfl rfl) rfl (bx_ld1 tok rfl rfl rfl rfl rfl) ?_
                  obtain ⟨v16, hv16, h3⟩ := bnd h3
                  refine rs rfl (w1 rfl rfl rfl) rfl (c_call 5 (i_within_c hv16) rfl rfl rfl) ?_
                  refine rp rfl (w1 rfl rfl rfl) rfl (pu_not rfl) ?_
                  refine rp rfl w0 rfl (pu_pick_f (r := .d _) rfl rfl) ?_
                  refine ra_nil ?_
                  refine then_n ?_
                  cases h3
                  exact wk [0, 1, 2, 3, 4]
            · skip
              refine aw_ifB h2 rfl (fun hc h2 => ?_) (fun hc h2 => ?_)
              · skip
                refine aw_seq ?_
                refine aw_regionA (is := [0]) rfl ?_
                refine rp rfl w0 rfl (pu_assign (r := .d _) rfl) ?_
                refine ra_nil ?_
                refine then_n ?_
                refine aw_ret ?_
                refine then_r ?_
                refine block_r ?_
                refine then_r ?_
                cases h2
                refine loop_r ⟨_, rfl, fun e => ?_⟩
                subst e
                refine block_r ?_
                replace h0 := orE_s h0
                refine then_r ?_
                cases h0
                exact ret0_ (rs := [.tmp 2]) rfl
              · skip
                refine aw_skip ?_
                refine then_n ?_
                refine aw_seq ?_
                refine aw_regionA (is := [0, 1, 2, 3, 4, 5]) rfl ?_
                refine rl rfl w0 rfl (bx_fa tok rfl rfl rfl rfl rfl rfl rfl) ?_
                refine rl rfl w0 rfl (bx_ld1 tok rfl rfl rfl rfl rfl) ?_
                refine rp rfl w0 rfl (pu_move (r := .d _) rfl) ?_
                obtain ⟨hq18, h2⟩ := chk_e h2
                refine rp rfl w0 rfl (pu_lsub tok hq18 rfl (.inl ⟨rfl, rfl⟩) (.inr ⟨_, _, rfl, rfl⟩) rfl rfl rfl (fun _ => rfl)) ?_
                refine rp rfl w0 rfl (pu_func rfl) ?_
                obtain ⟨v19, hv19, h2⟩ := bnd h2
                refine rs rfl w0 rfl (c_callV 5 (slices_ContainsFunc_LMonth_Month_i_ValidCalendar_1_c hv19) rfl rfl) ?_
                refine ra_nil ?_
                refine then_n ?_
                refine aw_ifB h2 rfl (fun hc h2 => ?_) (fun hc h2 => ?_)
                · skip
                  refine aw_seq ?_
                  refine aw_regionA (is := [0]) rfl ?_
                  refine rp rfl w0 rfl (pu_assign (r := .d _) rfl) ?_
                  refine ra_nil ?_
                  refine then_n ?_
                  refine aw_ret ?_
                  refine block_r ?_
                  refine then_r ?_
                  cases h2
                  refine loop_r ⟨_, rfl, fun e => ?_⟩
                  subst e
                  refine block_r ?_
                  replace h0 := orE_s h0
                  refine then_r ?_
                  cases h0
                  exact ret0_ (rs := [.tmp 2]) rfl
                · skip
                  refine aw_skip ?_
                  refine block_n ?_
                  refine then_n ?_
                  refine aw_regionA (is := [0, 1]) rfl ?_
                  refine rp rfl w0 rfl (pw_add rfl rfl) ?_
                  refine rp rfl w0 rfl (pu_move (r := .d _) rfl) ?_
                  refine ra_nil ?_
                  refine loop_n ?_
                  cases h2
                  refine ⟨_, rfl, ?_⟩
                  exact wk [0, 1, 2, 3]
          · skip
            refine aw_exit ?_
            refine then_e ?_
            cases h2
            refine loop_x ⟨_, rfl, fun e => ?_⟩
            subst e
            refine block_hit ?_
            refine then_n ?_
            refine ⟨_, rfl, ?_⟩
            exact wk [0, 1, 2, 3]
      · skip
        rintro v20 rfl
        replace h0 := orE_f h0
        obtain ⟨v31x, h1, h0⟩ := bnd h0
        refine aw_cutE v31x (fun v31 => ⟨updA ((fun _ => .dead)) 1 (.ptr 3 0 1 0 0), lks [.no, .no, .no, .live [⟨75, 4, .av [[.d (.v (.string p0.Name)), .d (.sl (List.map cMonth_ p0.Months)), .d (.sl (List.map cLeapRule_ p0.Rules)), .d (.v (.int .i64 p0.Week))]]⟩]]⟩) ?_ ?_
        · skip
          refine aw_seq ?_
          refine aw_regionA (is := [0, 1, 2, 3]) rfl ?_
          refine rl rfl w0 rfl (bx_fa tok rfl rfl rfl rfl rfl rfl rfl) ?_
          refine rl rfl w0 rfl (bx_ld1 tok rfl rfl rfl rfl rfl) ?_
          refine rp rfl w0 rfl (pu_len_map tok rfl rfl rfl) ?_
          refine rp rfl w0 rfl (pu_move (r := .d _) rfl) ?_
          refine ra_nil ?_
          refine then_n ?_
          refine aw_block ?_
          refine aw_loopM (fun s26 => ⟨updA (updA (updA (updA ((fun _ => .dead)) 1 (.ptr 3 0 1 0 0)) 67 (.d (.sl (List.map cLeapRule_ p0.Rules)))) 68 (.d (.v (.int .i64 (p0.Rules.length : Int))))) 69 (.d (.v (.int .i64 s26))), lks [.no, .no, .no, .live [⟨75, 4, .av [[.d (.v (.string p0.Name)), .d (.sl (List.map cMonth_ p0.Months)), .d (.sl (List.map cLeapRule_ p0.Rules)), .d (.v (.int .i64 p0.Week))]]⟩]]⟩) h1 ?_ (fun s26 y h2 => ?_)
          · skip
            exact wk [0, 1, 2, 3]
          · skip
            refine aw_seq ?_
            refine aw_regionA (is := [0]) rfl ?_
            refine rp rfl w0 rfl (pu_lss rfl rfl) ?_
            refine ra_nil ?_
            refine then_n ?_
            refine aw_seq ?_
            refine aw_if h2 rfl (fun hc h2 => ?_) (fun hc h2 => ?_)
            · skip
              refine aw_skip ?_
              refine then_n ?_
              refine aw_seq ?_
              refine aw_block ?_
              refine aw_seq ?_
              refine aw_regionA (is := [0, 1, 2, 3]) rfl ?_
              obtain ⟨v27, hv27, h2⟩ := bnd h2
              refine rp rfl w0 rfl (sl_ix tok hv27 rfl rfl rfl rfl rfl rfl) ?_
              refine rp rfl w0 rfl (pu_load_refN tok rfl rfl rfl (by repeat (first | exact SegD.z _ | apply SegD.t))) ?_
              refine rs rfl w0 rfl (st_alloc 4 (cs := [.d (.v (.int .i64 0)), .d (.v (.int .i64 0)), .d (.v (.bool false))]) tok rfl rfl rfl) ?_
              refine rw0 rfl w0 (bx_st (cs := _ :: _) tok rfl rfl rfl rfl rfl rfl rfl) ?_
              refine ra_nil ?_
              refine then_n ?_
              obtain ⟨v30, h3, h2⟩ := bnd h2
              refine aw_cut ⟨updA (updA (updA (updA (updA ((fun _ => .dead)) 1 (.ptr 3 0 1 0 0)) 67 (.d (.sl (List.map cLeapRule_ p0.Rules)))) 68 (.d (.v (.int .i64 (p0.Rules.length : Int))))) 69 (.d (.v (.int .i64 s26)))) 85 (.d (.v (.bool v30))), lks [.no, .no, .no, .live [⟨75, 4, .av [[.d (.v (.string p0.Name)), .d (.sl (List.map cMonth_ p0.Months)), .d (.sl (List.map cLeapRule_ p0.Rules)), .d (.v (.int .i64 p0.Week))]]⟩]]⟩ ?_ ?_
              · skip
                refine aw_regionA (is := [0, 1, 2, 3, 4, 5, 6, 7, 8, 9, 10, 11, 12]) rfl ?_
                refine rl rfl w0 rfl (bx_fa tok rfl rfl rfl rfl rfl rfl rfl) ?_
                refine rl rfl w0 rfl (bx_ld1 tok rfl rfl rfl rfl rfl) ?_
                obtain ⟨v28, hv28, h3⟩ := bnd h3
                refine rs rfl w0 rfl (c_call 5 (i_within_c hv28) rfl rfl rfl) ?_
                refine rp rfl w0 rfl (pu_not rfl) ?_
                refine rp rfl w0 rfl (pu_move (r := .d _) rfl) ?_
                refine ra_ifB (u := 77) h3 rfl (fun hc h3 => ?_) (fun hc h3 => ?_)
                · skip
                  refine rk rfl rfl rfl (by first | exact .inl rfl | exact .inr rfl) rfl ?_
                  refine rk rfl rfl rfl (by first | exact .inl rfl | exact .inr rfl) rfl ?_
                  refine rk rfl rfl rfl (by first | exact .inl rfl | exact .inr rfl) rfl ?_
                  refine rk rfl rfl rfl (by first | exact .inl rfl | exact .inr rfl) rfl ?_
                  refine rk rfl rfl rfl (by first | exact .inl rfl | exact .inr rfl) rfl ?_
                  refine rk rfl rfl rfl (by first | exact .inl rfl | exact .inr rfl) rfl ?_
                  refine rk rfl rfl rfl (by first | exact .inl rfl | exact .inr rfl) rfl ?_
                  refine rp rfl w0 rfl (pu_pick_t (r := .d _) rfl rfl) ?_
                  refine ra_nil ?_
                  refine then_n ?_
                  cases h3
                  exact wk [0, 1, 2, 3]
                · skip
                  refine rl rfl (w1 rfl rfl rfl) rfl (bx_fa tok rfl rfl rfl rfl rfl rfl rfl) ?_
                  refine rl rfl (w1 rfl rfl rfl) rfl (bx_ld1 tok rfl rfl rfl rfl rfl) ?_
                  refine rl rfl (w1 rfl rfl rfl) rfl (bx_fa tok rfl rfl rfl rfl rfl rfl rfl) ?_
                  refine rl rfl (w1 rfl rfl rfl) rfl (bx_ld1 tok rfl rfl rfl rfl rfl) ?_
                  refine rp rfl (w1 rfl rfl rfl) rfl (pw_sub rfl rfl) ?_
                  obtain ⟨v29, hv29, h3⟩ := bnd h3
                  refine rs rfl (w1 rfl rfl rfl) rfl (c_call 5 (i_within_c hv29) rfl rfl rfl) ?_
                  refine rp rfl (w1 rfl rfl rfl) rfl (pu_not rfl) ?_
                  refine rp rfl w0 rfl (pu_pick_f (r := .d _) rfl rfl) ?_
                  refine ra_nil ?_
                  refine then_n ?_
                  cases h3
                  exact wk [0, 1, 2, 3]
              · skip
                refine aw_ifB h2 rfl (fun hc h2 => ?_) (fun hc h2 => ?_)
                · skip
                  refine aw_seq ?_
                  refine aw_regionA (is := [0]) rfl ?_
                  refine rp rfl w0 rfl (pu_assign (r := .d _) rfl) ?_
                  refine ra_nil ?_
                  refine then_n ?_
                  refine aw_ret ?_
                  refine block_r ?_
                  refine then_r ?_
                  cases h2
                  refine loop_r ⟨_, rfl, fun e => ?_⟩
                  subst e
                  refine block_r ?_
                  replace h0 := orE_s h0
                  refine then_r ?_
                  cases h0
                  exact ret0_ (rs := [.tmp 2]) rfl
                · skip
                  refine aw_skip ?_
                  refine block_n ?_
                  refine then_n ?_
                  refine aw_regionA (is := [0, 1]) rfl ?_
                  refine rp rfl w0 rfl (pw_add rfl rfl) ?_
                  refine rp rfl w0 rfl (pu_move (r := .d _) rfl) ?_
                  refine ra_nil ?_
                  refine loop_n ?_
                  cases h2
                  refine ⟨_, rfl, ?_⟩
                  exact wk [0, 1, 2, 3]
            · skip
              refine aw_exit ?_
              refine then_e ?_
              cases h2
              refine loop_x ⟨_, rfl, fun e => ?_⟩
              subst e
              refine block_hit ?_
              refine then_n ?_
              refine ⟨_, rfl, ?_⟩
              exact wk [0, 1, 2, 3]
        · skip
          rintro v31 rfl
          replace h0 := orE_f h0
          refine aw_seq ?_
          refine aw_regionA (is := [0, 1, 2, 3, 4]) rfl ?_
          refine rl rfl w0 rfl (bx_fa tok rfl rfl rfl rfl rfl rfl rfl) ?_
          refine rl rfl w0 rfl (bx_ld1 tok rfl rfl rfl rfl rfl) ?_
          obtain ⟨v32, hv32, h0⟩ := bnd h0
          refine rs rfl w0 rfl (c_call 4 (i_cycleYears_c hv32) rfl rfl rfl) ?_
          refine rp rfl w0 rfl (pu_leq rfl rfl) ?_
          refine rp rfl w0 rfl (pu_assign (r := .d _) rfl) ?_
          refine ra_nil ?_
          refine then_n ?_
          refine aw_ret ?_
          cases h0
          exact ret0_ (rs := [.tmp 2]) rfl

theorem i_ValidCam_c {p0 : List Int} {r : Bool} (h0 : i_ValidCam_m p0 = some r) : FnC Try.prog 102 [] [.d (.sl (List.map cI p0))] [] (.d (.v (.bool r))) := by
  refine fnc_intro (T := tt) (N := 23) tok Try.func102 rfl rfl (by kernel_rfl) rfl rfl ?_
  unfold i_ValidCam_m at h0
  refine aw_seq ?_
  refine aw_regionA (is := [0]) rfl ?_
  refine rp rfl w0 rfl (pu_assign (r := .d _) rfl) ?_
  refine ra_nil ?_
  refine then_n ?_
  obtain ⟨v7x, h1, h0⟩ := bnd h0
  refine aw_cutE v7x (fun v7 => ⟨updA ((fun _ => .dead)) 0 (.d (.sl (List.map cI p0))), lks [.no, .no, .no]⟩) ?_ ?_
  · skip
    refine aw_seq ?_
    refine aw_regionA (is := [0, 1, 2]) rfl ?_
    refine rp rfl w0 rfl (pu_move (r := .d _) rfl) ?_
    refine rp rfl w0 rfl (pu_len_map tok rfl rfl rfl) ?_
    refine rp rfl w0 rfl (pu_move (r := .d _) rfl) ?_
    refine ra_nil ?_
    refine then_n ?_
    refine aw_block ?_
    refine aw_loopM (fun s4 => ⟨updA (updA (updA (updA ((fun _ => .dead)) 0 (.d (.sl (List.map cI p0)))) 5 (.d (.sl (List.map cI p0)))) 6 (.d (.v (.int .i64 (p0.length : Int))))) 7 (.d (.v (.int .i64 s4))), lks [.no, .no, .no]⟩) h1 ?_ (fun s4 y h2 => ?_)
    · skip
      exact wk [0, 1, 2]
    · skip
      refine aw_seq ?_
      refine aw_regionA (is := [0]) rfl ?_
      refine rp rfl w0 rfl (pu_lss rfl rfl) ?_
      refine ra_nil ?_
      refine then_n ?_
      refine aw_seq ?_
      refine aw_if h2 rfl (fun hc h2 => ?_) (fun hc h2 => ?_)
      · skip
        refine aw_skip ?_
        refine then_n ?_
        refine aw_seq ?_
        refine aw_block ?_
        refine aw_seq ?_
        refine aw_regionA (is := [0, 1, 2]) rfl ?_
        obtain ⟨v5, hv5, h2⟩ := bnd h2
        refine rp rfl w0 rfl (sl_ix tok hv5 rfl rfl rfl rfl rfl rfl) ?_
        refine rp rfl w0 rfl (pu_load_ref1 tok rfl rfl rfl rfl) ?_
        refine rp rfl w0 rfl (pu_assign (r := .d _) rfl) ?_
        refine ra_nil ?_
        refine then_n ?_
        refine aw_seq ?_
        refine aw_regionA (is := [0, 1, 2]) rfl ?_
        refine rp rfl w0 rfl (pu_move (r := .d _) rfl) ?_
        obtain ⟨v6, hv6, h2⟩ := bnd h2
        refine rs rfl w0 rfl (c_call 3 (i_within_c hv6) rfl rfl rfl) ?_
        refine rp rfl w0 rfl (pu_not rfl) ?_
        refine ra_nil ?_
        refine then_n ?_
        refine aw_ifB h2 rfl (fun hc h2 => ?_) (fun hc h2 => ?_)
        · skip
          refine aw_seq ?_
          refine aw_regionA (is := [0]) rfl ?_
          refine rp rfl w0 rfl (pu_assign (r := .d _) rfl) ?_
          refine ra_nil ?_
          refine then_n ?_
          refine aw_ret ?_
          refine block_r ?_
          refine then_r ?_
          cases h2
          refine loop_r ⟨_, rfl, fun e => ?_⟩
          subst e
          refine block_r ?_
          replace h0 := orE_s h0
          refine then_r ?_
          cases h0
          exact ret0_ (rs := [.tmp 2]) rfl
        · skip
          refine aw_skip ?_
          refine block_n ?_
          refine then_n ?_
          refine aw_regionA (is := [0, 1]) rfl ?_
          refine rp rfl w0 rfl (pw_add rfl rfl) ?_
          refine rp rfl w0 rfl (pu_move (r := .d _) rfl) ?_
          refine ra_nil ?_
          refine loop_n ?_
          cases h2
          refine ⟨_, rfl, ?_⟩
          exact wk [0, 1, 2]
      · skip
        refine aw_exit ?_
        refine then_e ?_
        cases h2
        refine loop_x ⟨_, rfl, fun e => ?_⟩
        subst e
        refine block_hit ?_
        refine then_n ?_
        refine ⟨_, rfl, ?_⟩
        exact wk [0, 1, 2]
  · skip
    rintro v7 rfl
    replace h0 := orE_f h0
    refine aw_seq ?_
    refine aw_regionA (is := [0, 1, 2, 3, 4, 5, 6, 7, 8]) rfl ?_
    refine rp rfl w0 rfl (pu_move (r := .d _) rfl) ?_
    refine rp rfl w0 rfl (pu_len_map tok rfl rfl rfl) ?_
    refine rp rfl w0 rfl (pu_geq rfl rfl) ?_
    refine rp rfl w0 rfl (pu_move (r := .d _) rfl) ?_
    refine ra_if (u := 18) h0 rfl (fun hc h0 => ?_) (fun hc h0 => ?_)
    · skip
      refine rp rfl (w1 rfl rfl rfl) rfl (pu_move (r := .d _) rfl) ?_
      refine rp rfl (w1 rfl rfl rfl) rfl (pu_len_map tok rfl rfl rfl) ?_
      refine rp rfl (w1 rfl rfl rfl) rfl (pu_leq rfl rfl) ?_
      refine rp rfl w0 rfl (pu_pick_t (r := .d _) rfl rfl) ?_
      refine rp rfl w0 rfl (pu_assign (r := .d _) rfl) ?_
      refine ra_nil ?_
      refine then_n ?_
      refine aw_ret ?_
      cases h0
      exact ret0_ (rs := [.tmp 2]) rfl
    · skip
      refine rk rfl rfl rfl (by first | exact .inl rfl | exact .inr rfl) rfl ?_
      refine rk rfl rfl rfl (by first | exact .inl rfl | exact .inr rfl) rfl ?_
      refine rk rfl rfl rfl (by first | exact .inl rfl | exact .inr rfl) rfl ?_
      refine rp rfl w0 rfl (pu_pick_f (r := .d _) rfl rfl) ?_
      refine rp rfl w0 rfl (pu_assign (r := .d _) rfl) ?_
      refine ra_nil ?_
      refine then_n ?_
      refine aw_ret ?_
      cases h0
      exact ret0_ (rs := [.tmp 2]) rfl

theorem i_ValidMovement_c {p0 : Movement_} {r : Bool} (h0 : i_ValidMovement_m p0 = some r) : FnC Try.prog 46 [] [.agg [.d (.v (.string p0.Name)), .d (.sl (List.map cArbor_ p0.Works.Arbors)), .d (.sl (List.map cMesh_ p0.Works.Meshes)), .d (.v (.int .i64 p0.Minute)), .d (.v (.int .i64 p0.Hour)), .d (.v (.int .i64 p0.Escape)), .d (.v (.int .i64 p0.Teeth)), .d (.v (.int .i64 p0.Beats)), .d (.v (.string p0.Calendar.Name)), .d (.sl (List.map cMonth_ p0.Calendar.Months)), .d (.sl (List.map cLeapRule_ p0.Calendar.Rules)), .d (.v (.int .i64 p0.Calendar.Week)), .d (.sl (List.map cI p0.Cam)), .d (.v (.int .i64 p0.Strike))]] [] (.d (.v (.bool r))) := by
  refine fnc_intro (T := tt) (N := 61) tok Try.func46 rfl rfl (by kernel_rfl) rfl rfl ?_
  unfold i_ValidMovement_m at h0
  refine aw_seq ?_
  refine aw_regionA (is := [0, 1]) rfl ?_
  refine rs rfl w0 rfl (st_box 3 (cs := _ :: _) rfl rfl rfl) ?_
  refine rp rfl w0 rfl (pu_assign (r := .d _) rfl) ?_
  refine ra_nil ?_
  refine then_n ?_
  obtain ⟨v4, h1, h0⟩ := bnd h0
  refine aw_cut ⟨updA (updA ((fun _ => .dead)) 1 (.ptr 3 0 1 0 0)) 3 (.d (.v (.bool v4))), lks [.no, .no, .no, .live [⟨77, 14, .av [[.d (.v (.string p0.Name)), .d (.sl (List.map cArbor_ p0.Works.Arbors)), .d (.sl (List.map cMesh_ p0.Works.Meshes)), .d (.v (.int .i64 p0.Minute)), .d (.v (.int .i64 p0.Hour)), .d (.v (.int .i64 p0.Escape)), .d (.v (.int .i64 p0.Teeth)), .d (.v (.int .i64 p0.Beats)), .d (.v (.string p0.Calendar.Name)), .d (.sl (List.map cMonth_ p0.Calendar.Months)), .d (.sl (List.map cLeapRule_ p0.Calendar.Rules)), .d (.v (.int .i64 p0.Calendar.Week)), .d (.sl (List.map cI p0.Cam)), .d (.v (.int .i64 p0.Strike))]]⟩]]⟩ ?_ ?_
  · skip
    refine aw_regionA (is := [0, 1, 2, 3, 4, 5, 6, 7, 8, 9, 10, 11, 12, 13, 14, 15, 16, 17, 18, 19]) rfl ?_
    refine rl rfl w0 rfl (bx_fa tok rfl rfl rfl rfl rfl rfl rfl) ?_
    refine rl rfl w0 rfl (bx_ldN tok rfl rfl rfl rfl) ?_
    refine rl rfl w0 rfl (bx_fa tok rfl rfl rfl rfl rfl rfl rfl) ?_
    refine rl rfl w0 rfl (bx_ld1 tok rfl rfl rfl rfl rfl) ?_
    obtain ⟨v1, hv1, h1⟩ := bnd h1
    refine rs rfl w0 rfl (c_call 4 (i_isArbor_c hv1) rfl rfl rfl) ?_
    refine rp rfl w0 rfl (pu_move (r := .d _) rfl) ?_
    refine ra_ifB (u := 10) h1 rfl (fun hc h1 => ?_) (fun hc h1 => ?_)
    · skip
      refine rl rfl (w1 rfl rfl rfl) rfl (bx_fa tok rfl rfl rfl rfl rfl rfl rfl) ?_
      refine rl rfl (w1 rfl rfl rfl) rfl (bx_ldN tok rfl rfl rfl rfl) ?_
      refine rl rfl (w1 rfl rfl rfl) rfl (bx_fa tok rfl rfl rfl rfl rfl rfl rfl) ?_
      refine rl rfl (w1 rfl rfl rfl) rfl (bx_ld1 tok rfl rfl rfl rfl rfl) ?_
      obtain ⟨v2, hv2, h1⟩ := bnd h1
      refine rs rfl (w1 rfl rfl rfl) rfl (c_call 4 (i_isArbor_c hv2) rfl rfl rfl) ?_
      refine rp rfl w0 rfl (pu_pick_t (r := .d _) rfl rfl) ?_
      refine rp rfl w0 rfl (pu_move (r := .d _) rfl) ?_
      refine ra_ifB (u := 17) h1 rfl (fun hc h1 => ?_) (fun hc h1 => ?_)
      · skip
        refine rl rfl (w1 rfl rfl rfl) rfl (bx_fa tok rfl rfl rfl rfl rfl rfl rfl) ?_
        refine rl rfl (w1 rfl rfl rfl) rfl (bx_ldN tok rfl rfl rfl rfl) ?_
        refine rl rfl (w1 rfl rfl rfl) rfl (bx_fa tok rfl rfl rfl rfl rfl rfl rfl) ?_
        refine rl rfl (w1 rfl rfl rfl) rfl (bx_ld1 tok rfl rfl rfl rfl rfl) ?_
        obtain ⟨v3, hv3, h1⟩ := bnd h1
        refine rs rfl (w1 rfl rfl rfl) rfl (c_call 4 (i_isArbor_c hv3) rfl rfl rfl) ?_
        refine rp rfl w0 rfl (pu_pick_t (r := .d _) rfl rfl) ?_
        refine rp rfl w0 rfl (pu_assign (r := .d _) rfl) ?_
        refine ra_nil ?_
        refine then_n ?_
        cases h1
        exact wk [0, 1, 2, 3]
      · skip
        refine rk rfl rfl rfl (by first | exact .inl rfl | exact .inr rfl) rfl ?_
        refine rk rfl rfl rfl (by first | exact .inl rfl | exact .inr rfl) rfl ?_
        refine rk rfl rfl rfl (by first | exact .inl rfl | exact .inr rfl) rfl ?_
        refine rk rfl rfl rfl (by first | exact .inl rfl | exact .inr rfl) rfl ?_
        refine rk rfl rfl rfl (by first | exact .inl rfl | exact .inr rfl) rfl ?_
        refine rp rfl w0 rfl (pu_pick_f (r := .d _) rfl rfl) ?_
        refine rp rfl w0 rfl (pu_assign (r := .d _) rfl) ?_
        refine ra_nil ?_
        refine then_n ?_
        cases h1
        exact wk [0, 1, 2, 3]
    · skip
      refine rk rfl rfl rfl (by first | exact .inl rfl | exact .inr rfl) rfl ?_
      refine rk rfl rfl rfl (by first | exact .inl rfl | exact .inr rfl) rfl ?_
      refine rk rfl rfl rfl (by first | exact .inl rfl | exact .inr rfl) rfl ?_
      refine rk rfl rfl rfl (by first | exact .inl rfl | exact .inr rfl) rfl ?_
      refine rk rfl rfl rfl (by first | exact .inl rfl | exact .inr rfl) rfl ?_
      refine rp rfl w0 rfl (pu_pick_f (r := .d _) rfl rfl) ?_
      refine rp rfl w0 rfl (pu_move (r := .d _) rfl) ?_
      refine rk rfl rfl rfl (by first | exact .inl rfl | exact .inr rfl) rfl ?_
      refine rk rfl rfl rfl (by first | exact .inl rfl | exact .inr rfl) rfl ?_
      refine rk rfl rfl rfl (by first | exact .inl rfl | exact .inr rfl) rfl ?_
      refine rk rfl rfl rfl (by first | exact .inl rfl | exact .inr rfl) rfl ?_
      refine rk rfl rfl rfl (by first | exact .inl rfl | exact .inr rfl) rfl ?_
      refine rp rfl w0 rfl (pu_pick_f (r := .d _) rfl rfl) ?_
      refine rp rfl w0 rfl (pu_assign (r := .d _) rfl) ?_
      refine ra_nil ?_
      refine then_n ?_
      cases h1
      exact wk [0, 1, 2, 3]
  · skip
    obtain ⟨v8, h1, h0⟩ := bnd h0
    refine aw_cut ⟨updA (updA (updA ((fun _ => .dead)) 1 (.ptr 3 0 1 0 0)) 3 (.d (.v (.bool v4)))) 4 (.d (.v (.bool v8))), lks [.no, .no, .no, .live [⟨77, 14, .av [[.d (.v (.string p0.Name)), .d (.sl (List.map cArbor_ p0.Works.Arbors)), .d (.sl (List.map cMesh_ p0.Works.Meshes)), .d (.v (.int .i64 p0.Minute)), .d (.v (.int .i64 p0.Hour)), .d (.v (.int .i64 p0.Escape)), .d (.v (.int .i64 p0.Teeth)), .d (.v (.int .i64 p0.Beats)), .d (.v (.string p0.Calendar.Name)), .d (.sl (List.map cMonth_ p0.Calendar.Months)), .d (.sl (List.map cLeapRule_ p0.Calendar.Rules)), .d (.v (.int .i64 p0.Calendar.Week)), .d (.sl (List.map cI p0.Cam)), .d (.v (.int .i64 p0.Strike))]]⟩]]⟩ ?_ ?_
    · skip
      refine aw_regionA (is := [0, 1, 2, 3, 4, 5, 6, 7, 8, 9, 10, 11, 12, 13]) rfl ?_
      refine rl rfl w0 rfl (bx_fa tok rfl rfl rfl rfl rfl rfl rfl) ?_
      refine rl rfl w0 rfl (bx_ld1 tok rfl rfl rfl rfl rfl) ?_
      obtain ⟨v5, hv5, h1⟩ := bnd h1
      refine rs rfl w0 rfl (c_call 4 (i_toothed_c hv5) rfl rfl rfl) ?_
      refine rp rfl w0 rfl (pu_move (r := .d _) rfl) ?_
      refine ra_ifB (u := 27) h1 rfl (fun hc h1 => ?_) (fun hc h1 => ?_)
      · skip
        refine rl rfl (w1 rfl rfl rfl) rfl (bx_fa tok rfl rfl rfl rfl rfl rfl rfl) ?_
        refine rl rfl (w1 rfl rfl rfl) rfl (bx_ld1 tok rfl rfl rfl rfl rfl) ?_
        obtain ⟨v6, hv6, h1⟩ := bnd h1
        refine rs rfl (w1 rfl rfl rfl) rfl (c_call 4 (i_within_c hv6) rfl rfl rfl) ?_
        refine rp rfl w0 rfl (pu_pick_t (r := .d _) rfl rfl) ?_
        refine rp rfl w0 rfl (pu_move (r := .d _) rfl) ?_
        refine ra_ifB (u := 32) h1 rfl (fun hc h1 => ?_) (fun hc h1 => ?_)
        · skip
          refine rl rfl (w1 rfl rfl rfl) rfl (bx_fa tok rfl rfl rfl rfl rfl rfl rfl) ?_
          refine rl rfl (w1 rfl rfl rfl) rfl (bx_ld1 tok rfl rfl rfl rfl rfl) ?_
          obtain ⟨v7, hv7, h1⟩ := bnd h1
          refine rs rfl (w1 rfl rfl rfl) rfl (c_call 4 (i_within_c hv7) rfl rfl rfl) ?_
          refine rp rfl w0 rfl (pu_pick_t (r := .d _) rfl rfl) ?_
          refine rp rfl w0 rfl (pu_assign (r := .d _) rfl) ?_
          refine ra_nil ?_
          refine then_n ?_
          cases h1
          exact wk [0, 1, 2, 3]
        · skip
          refine rk rfl rfl rfl (by first | exact .inl rfl | exact .inr rfl) rfl ?_
          refine rk rfl rfl rfl (by first | exact .inl rfl | exact .inr rfl) rfl ?_
          refine rk rfl rfl rfl (by first | exact .inl rfl | exact .inr rfl) rfl ?_
          refine rp rfl w0 rfl (pu_pick_f (r := .d _) rfl rfl) ?_
          refine rp rfl w0 rfl (pu_assign (r := .d _) rfl) ?_
          refine ra_nil ?_
          refine then_n ?_
          cases h1
          exact wk [0, 1, 2, 3]
      · skip
        refine rk rfl rfl rfl (by first | exact .inl rfl | exact .inr rfl) rfl ?_
        refine rk rfl rfl rfl (by first | exact .inl rfl | exact .inr rfl) rfl ?_
        refine rk rfl rfl rfl (by first | exact .inl rfl | exact .inr rfl) rfl ?_
        refine rp rfl w0 rfl (pu_pick_f (r := .d _) rfl rfl) ?_
        refine rp rfl w0 rfl (pu_move (r := .d _) rfl) ?_
        refine rk rfl rfl rfl (by first | exact .inl rfl | exact .inr rfl) rfl ?_
        refine rk rfl rfl rfl (by first | exact .inl rfl | exact .inr rfl) rfl ?_
        refine rk rfl rfl rfl (by first | exact .inl rfl | exact .inr rfl) rfl ?_
        refine rp rfl w0 rfl (pu_pick_f (r := .d _) rfl rfl) ?_
        refine rp rfl w0 rfl (pu_assign (r := .d _) rfl) ?_
        refine ra_nil ?_
        refine then_n ?_
        cases h1
        exact wk [0, 1, 2, 3]
    · skip
      refine aw_seq ?_
      refine aw_regionA (is := [0, 1, 2, 3, 4, 5, 6, 7, 8, 9, 10, 11, 12, 13, 14, 15, 16, 17, 18, 19, 20, 21, 22, 23, 24]) rfl ?_
      refine rp rfl w0 rfl (pu_move (r := .d _) rfl) ?_
      refine rp rfl w0 rfl (pu_move (r := .d _) rfl) ?_
      refine ra_ifB (u := 38) h0 rfl (fun hc h0 => ?_) (fun hc h0 => ?_)
      · skip
        refine rp rfl (w1 rfl rfl rfl) rfl (pu_move (r := .d _) rfl) ?_
        refine rp rfl w0 rfl (pu_pick_t (r := .d _) rfl rfl) ?_
        refine rp rfl w0 rfl (pu_move (r := .d _) rfl) ?_
        refine ra_ifB (u := 41) h0 rfl (fun hc h0 => ?_) (fun hc h0 => ?_)
        · skip
          refine rl rfl (w1 rfl rfl rfl) rfl (bx_fa tok rfl rfl rfl rfl rfl rfl rfl) ?_
          refine rl rfl (w1 rfl rfl rfl) rfl (bx_ld1 tok rfl rfl rfl rfl rfl) ?_
          obtain ⟨v9, hv9, h0⟩ := bnd h0
          refine rs rfl (w1 rfl rfl rfl) rfl (c_call 4 (i_IsName_c hv9) rfl rfl rfl) ?_
          refine rp rfl w0 rfl (pu_pick_t (r := .d _) rfl rfl) ?_
          refine rp rfl w0 rfl (pu_move (r := .d _) rfl) ?_
          refine ra_ifB (u := 46) h0 rfl (fun hc h0 => ?_) (fun hc h0 => ?_)
          · skip
            refine rl rfl (w1 rfl rfl rfl) rfl (bx_fa tok rfl rfl rfl rfl rfl rfl rfl) ?_
            refine rl rfl (w1 rfl rfl rfl) rfl (bx_ldN tok rfl rfl rfl rfl) ?_
            obtain ⟨v10, hv10, h0⟩ := bnd h0
            refine rs rfl (w1 rfl rfl rfl) rfl (c_call 4 (i_ValidWorks_c hv10) rfl rfl rfl) ?_
            refine rp rfl w0 rfl (pu_pick_t (r := .d _) rfl rfl) ?_
            refine rp rfl w0 rfl (pu_move (r := .d _) rfl) ?_
            refine ra_ifB (u := 51) h0 rfl (fun hc h0 => ?_) (fun hc h0 => ?_)
            · skip
              refine rl rfl (w1 rfl rfl rfl) rfl (bx_fa tok rfl rfl rfl rfl rfl rfl rfl) ?_
              refine rl rfl (w1 rfl rfl rfl) rfl (bx_ldN tok rfl rfl rfl rfl) ?_
              obtain ⟨v11, hv11, h0⟩ := bnd h0
              refine rs rfl (w1 rfl rfl rfl) rfl (c_call 4 (i_ValidCalendar_c hv11) rfl rfl rfl) ?_
              refine rp rfl w0 rfl (pu_pick_t (r := .d _) rfl rfl) ?_
              refine rp rfl w0 rfl (pu_move (r := .d _) rfl) ?_
              refine ra_ifB (u := 56) h0 rfl (fun hc h0 => ?_) (fun hc h0 => ?_)
              · skip
                refine rl rfl (w1 rfl rfl rfl) rfl (bx_fa tok rfl rfl rfl rfl rfl rfl rfl) ?_
                refine rl rfl (w1 rfl rfl rfl) rfl (bx_ld1 tok rfl rfl rfl rfl rfl) ?_
                obtain ⟨v12, hv12, h0⟩ := bnd h0
                refine rs rfl (w1 rfl rfl rfl) rfl (c_call 4 (i_ValidCam_c hv12) rfl rfl rfl) ?_
                refine rp rfl w0 rfl (pu_pick_t (r := .d _) rfl rfl) ?_
                refine rp rfl w0 rfl (pu_assign (r := .d _) rfl) ?_
                refine ra_nil ?_
                refine then_n ?_
                refine aw_ret ?_
                cases h0
                exact ret0_ (rs := [.tmp 2]) rfl
              · skip
                refine rk rfl rfl rfl (by first | exact .inl rfl | exact .inr rfl) rfl ?_
                refine rk rfl rfl rfl (by first | exact .inl rfl | exact .inr rfl) rfl ?_
                refine rk rfl rfl rfl (by first | exact .inl rfl | exact .inr rfl) rfl ?_
                refine rp rfl w0 rfl (pu_pick_f (r := .d _) rfl rfl) ?_
                refine rp rfl w0 rfl (pu_assign (r := .d _) rfl) ?_
                refine ra_nil ?_
                refine then_n ?_
                refine aw_ret ?_
                cases h0
                exact ret0_ (rs := [.tmp 2]) rfl
            · skip
              refine rk rfl rfl rfl (by first | exact .inl rfl | exact .inr rfl) rfl ?_
              refine rk rfl rfl rfl (by first | exact .inl rfl | exact .inr rfl) rfl ?_
              refine rk rfl rfl rfl (by first | exact .inl rfl | exact .inr rfl) rfl ?_
              refine rp rfl w0 rfl (pu_pick_f (r := .d _) rfl rfl) ?_
              refine rp rfl w0 rfl (pu_move (r := .d _) rfl) ?_
              refine rk rfl rfl rfl (by first | exact .inl rfl | exact .inr rfl) rfl ?_
              refine rk rfl rfl rfl (by first | exact .inl rfl | exact .inr rfl) rfl ?_
              refine rk rfl rfl rfl (by first | exact .inl rfl | exact .inr rfl) rfl ?_
              refine rp rfl w0 rfl (pu_pick_f (r := .d _) rfl rfl) ?_
              refine rp rfl w0 rfl (pu_assign (r := .d _) rfl) ?_
              refine ra_nil ?_
              refine then_n ?_
              refine aw_ret ?_
              cases h0
              exact ret0_ (rs := [.tmp 2]) rfl
          · skip
            refine rk rfl rfl rfl (by first | exact .inl rfl | exact .inr rfl) rfl ?_
            refine rk rfl rfl rfl (by first | exact .inl rfl | exact .inr rfl) rfl ?_
            refine rk rfl rfl rfl (by first | exact .inl rfl | exact .inr rfl) rfl ?_
            refine rp rfl w0 rfl (pu_pick_f (r := .d _) rfl rfl) ?_
            refine rp rfl w0 rfl (pu_move (r := .d _) rfl) ?_
            refine rk rfl rfl rfl (by first | exact .inl rfl | exact .inr rfl) rfl ?_
            refine rk rfl rfl rfl (by first | exact .inl rfl | exact .inr rfl) rfl ?_
            refine rk rfl rfl rfl (by first | exact .inl rfl | exact .inr rfl) rfl ?_
            refine rp rfl w0 rfl (pu_pick_f (r := .d _) rfl rfl) ?_
            refine rp rfl w0 rfl (pu_move (r := .d _) rfl) ?_
            refine rk rfl rfl rfl (by first | exact .inl rfl | exact .inr rfl) rfl ?_
            refine rk rfl rfl rfl (by first | exact .inl rfl | exact .inr rfl) rfl ?_
            refine rk rfl rfl rfl (by first | exact .inl rfl | exact .inr rfl) rfl ?_
            refine rp rfl w0 rfl (pu_pick_f (r := .d _) rfl rfl) ?_
            refine rp rfl w0 rfl (pu_assign (r := .d _) rfl) ?_
            refine ra_nil ?_
            refine then_n ?_
            refine aw_ret ?_
            cases h0
            exact ret0_ (rs := [.tmp 2]) rfl
        · skip
          refine rk rfl rfl rfl (by first | exact .inl rfl | exact .inr rfl) rfl ?_
          refine rk rfl rfl rfl (by first | exact .inl rfl | exact .inr rfl) rfl ?_
          refine rk rfl rfl rfl (by first | exact .inl rfl | exact .inr rfl) rfl ?_
          refine rp rfl w0 rfl (pu_pick_f (r := .d _) rfl rfl) ?_
          refine rp rfl w0 rfl (pu_move (r := .d _) rfl) ?_
          refine rk rfl rfl rfl (by first | exact .inl rfl | exact .inr rfl) rfl ?_
          refine rk rfl rfl rfl (by first | exact .inl rfl | exact .inr rfl) rfl ?_
          refine rk rfl rfl rfl (by first | exact .inl rfl | exact .inr rfl) rfl ?_
          refine rp rfl w0 rfl (pu_pick_f (r := .d _) rfl rfl) ?_
          refine rp rfl w0 rfl (pu_move (r := .d _) rfl) ?_
          refine rk rfl rfl rfl (by first | exact .inl rfl | exact .inr rfl) rfl ?_
          refine rk rfl rfl rfl (by first | exact .inl rfl | exact .inr rfl) rfl ?_
          refine rk rfl rfl rfl (by first | exact .inl rfl | exact .inr rfl) rfl ?_
          refine rp rfl w0 rfl (pu_pick_f (r := .d _) rfl rfl) ?_
          refine rp rfl w0 rfl (pu_move (r := .d _) rfl) ?_
          refine rk rfl rfl rfl (by first | exact .inl rfl | exact .inr rfl) rfl ?_
          refine rk rfl rfl rfl (by first | exact .inl rfl | exact .inr rfl) rfl ?_
          refine rk rfl rfl rfl (by first | exact .inl rfl | exact .inr rfl) rfl ?_
          refine rp rfl w0 rfl (pu_pick_f (r := .d _) rfl rfl) ?_
          refine rp rfl w0 rfl (pu_assign (r := .d _) rfl) ?_
          refine ra_nil ?_
          refine then_n ?_
          refine aw_ret ?_
          cases h0
          exact ret0_ (rs := [.tmp 2]) rfl
      · skip
        refine rk rfl rfl rfl (by first | exact .inl rfl | exact .inr rfl) rfl ?_
        refine rp rfl w0 rfl (pu_pick_f (r := .d _) rfl rfl) ?_
        refine rp rfl w0 rfl (pu_move (r := .d _) rfl) ?_
        refine rk rfl rfl rfl (by first | exact .inl rfl | exact .inr rfl) rfl ?_
        refine rk rfl rfl rfl (by first | exact .inl rfl | exact .inr rfl) rfl ?_
        refine rk rfl rfl rfl (by first | exact .inl rfl | exact .inr rfl) rfl ?_
        refine rp rfl w0 rfl (pu_pick_f (r := .d _) rfl rfl) ?_
        refine rp rfl w0 rfl (pu_move (r := .d _) rfl) ?_
        refine rk rfl rfl rfl (by first | exact .inl rfl | exact .inr rfl) rfl ?_
        refine rk rfl rfl rfl (by first | exact .inl rfl | exact .inr rfl) rfl ?_
        refine rk rfl rfl rfl (by first | exact .inl rfl | exact .inr rfl) rfl ?_
        refine rp rfl w0 rfl (pu_pick_f (r := .d _) rfl rfl) ?_
        refine rp rfl w0 rfl (pu_move (r := .d _) rfl) ?_
        refine rk rfl rfl rfl (by first | exact .inl rfl | exact .inr rfl) rfl ?_
        refine rk rfl rfl rfl (by first | exact .inl rfl | exact .inr rfl) rfl ?_
        refine rk rfl rfl rfl (by first | exact .inl rfl | exact .inr rfl) rfl ?_
        refine rp rfl w0 rfl (pu_pick_f (r := .d _) rfl rfl) ?_
        refine rp rfl w0 rfl (pu_move (r := .d _) rfl) ?_
        refine rk rfl rfl rfl (by first | exact .inl rfl | exact .inr rfl) rfl ?_
        refine rk rfl rfl rfl (by first | exact .inl rfl | exact .inr rfl) rfl ?_
        refine rk rfl rfl rfl (by first | exact .inl rfl | exact .inr rfl) rfl ?_
        refine rp rfl w0 rfl (pu_pick_f (r := .d _) rfl rfl) ?_
        refine rp rfl w0 rfl (pu_assign (r := .d _) rfl) ?_
        refine ra_nil ?_
        refine then_n ?_
        refine aw_ret ?_
        cases h0
        exact ret0_ (rs := [.tmp 2]) rfl

theorem i_WheelCount_c {p0 : Movement_} {r : Int × Int × Int} (h0 : i_WheelCount_m p0 = some r) : FnC Try.prog 48 [] [.agg [.d (.v (.string p0.Name)), .d (.sl (List.map cArbor_ p0.Works.Arbors)), .d (.sl (List.map cMesh_ p0.Works.Meshes)), .d (.v (.int .i64 p0.Minute)), .d (.v (.int .i64 p0.Hour)), .d (.v (.int .i64 p0.Escape)), .d (.v (.int .i64 p0.Teeth)), .d (.v (.int .i64 p0.Beats)), .d (.v (.string p0.Calendar.Name)), .d (.sl (List.map cMonth_ p0.Calendar.Months)), .d (.sl (List.map cLeapRule_ p0.Calendar.Rules)), .d (.v (.int .i64 p0.Calendar.Week)), .d (.sl (List.map cI p0.Cam)), .d (.v (.int .i64 p0.Strike))]] [] (.tup [.d (.v (.int .i64 r.1)), .d (.v (.int .i64 r.2.1)), .d (.v (.int .i64 r.2.2))]) := by
  refine fnc_intro (T := tt) (N := 38) tok Try.func48 rfl rfl (by kernel_rfl) rfl rfl ?_
  unfold i_WheelCount_m at h0
  refine aw_seq ?_
  refine aw_regionA (is := [0, 1, 2, 3]) rfl ?_
  refine rs rfl w0 rfl (st_box 3 (cs := _ :: _) rfl rfl rfl) ?_
  refine rp rfl w0 rfl (pu_assign (r := .d _) rfl) ?_
  refine rp rfl w0 rfl (pu_assign (r := .d _) rfl) ?_
  refine rp rfl w0 rfl (pu_assign (r := .d _) rfl) ?_
  refine ra_nil ?_
  refine then_n ?_
  refine aw_seq ?_
  refine aw_seq ?_
  refine aw_regionA (is := [0, 1, 2]) rfl ?_
  refine rl rfl w0 rfl (bx_ldN tok rfl rfl rfl rfl) ?_
  obtain ⟨v1, hv1, h0⟩ := bnd h0
  refine rs rfl w0 rfl (c_call 4 (i_ValidMovement_c hv1) rfl rfl rfl) ?_
  refine rp rfl w0 rfl (pu_not rfl) ?_
  refine ra_nil ?_
  refine then_n ?_
  refine aw_ifB h0 rfl (fun hc h0 => ?_) (fun hc h0 => ?_)
  · skip
    refine aw_seq ?_
    refine aw_regionA (is := [0, 1, 2]) rfl ?_
    refine rp rfl w0 rfl (pu_assign (r := .d _) rfl) ?_
    refine rp rfl w0 rfl (pu_assign (r := .d _) rfl) ?_
    refine rp rfl w0 rfl (pu_assign (r := .d _) rfl) ?_
    refine ra_nil ?_
    refine then_n ?_
    refine aw_ret ?_
    refine then_r ?_
    cases h0
    exact ret0_ (rs := [.tmp 2, .tmp 3, .tmp 4]) rfl
  · skip
    refine aw_skip ?_
    refine then_n ?_
    refine aw_seq ?_
    refine aw_regionA (is := [0, 1]) rfl ?_
    refine rp rfl w0 rfl (pu_assign (r := .d _) rfl) ?_
    refine rp rfl w0 rfl (pu_assign (r := .d _) rfl) ?_
    refine ra_nil ?_
    refine then_n ?_
    obtain ⟨v16, h1, h0⟩ := bnd h0
    refine aw_cut ⟨updA (updA ((fun _ => .dead)) 5 (.d (.v (.int .i64 v16.1)))) 6 (.d (.v (.int .i64 v16.2))), lks [.no, .no, .no]⟩ ?_ ?_
    · skip
      refine aw_seq ?_
      refine aw_regionA (is := [0, 1, 2, 3, 4]) rfl ?_
      refine rl rfl w0 rfl (bx_fa tok rfl rfl rfl rfl rfl rfl rfl) ?_
      refine rl rfl w0 rfl (bx_fa tok rfl rfl rfl rfl rfl rfl rfl) ?_
      refine rl rfl w0 rfl (bx_ld1 tok rfl rfl rfl rfl rfl) ?_
      refine rp rfl w0 rfl (pu_len_map tok rfl rfl rfl) ?_
      refine rp rfl w0 rfl (pu_move (r := .d _) rfl) ?_
      refine ra_nil ?_
      refine then_n ?_
      refine aw_block ?_
      refine aw_loopM (fun s9 => ⟨updA (updA (updA (updA (updA ((fun _ => .dead)) 5 (.d (.v (.int .i64 s9.1)))) 6 (.d (.v (.int .i64 s9.2.1)))) 16 (.d (.sl (List.map cArbor_ p0.Works.Arbors)))) 17 (.d (.v (.int .i64 (p0.Works.Arbors.length : Int))))) 18 (.d (.v (.int .i64 s9.2.2))), lks [.no, .no, .no]⟩) h1 ?_ (fun s9 y h2 => ?_)
      · skip
        exact wk [0, 1, 2]
      · skip
        refine aw_seq ?_
        refine aw_regionA (is := [0]) rfl ?_
        refine rp rfl w0 rfl (pu_lss rfl rfl) ?_
        refine ra_nil ?_
        refine then_n ?_
        refine aw_seq ?_
        refine aw_if h2 rfl (fun hc h2 => ?_) (fun hc h2 => ?_)
        · skip
          refine aw_skip ?_
          refine then_n ?_
          obtain ⟨v15, h3, h2⟩ := bnd h2
          refine aw_cut ⟨updA (updA (updA (updA (updA ((fun _ => .dead)) 5 (.d (.v (.int .i64 v15.1)))) 6 (.d (.v (.int .i64 v15.2)))) 16 (.d (.sl (List.map cArbor_ p0.Works.Arbors)))) 17 (.d (.v (.int .i64 (p0.Works.Arbors.length : Int))))) 18 (.d (.v (.int .i64 s9.2.2))), lks [.no, .no, .no]⟩ ?_ ?_
          · skip
            refine aw_block ?_
            refine aw_seq ?_
            refine aw_regionA (is := [0, 1, 2, 3]) rfl ?_
            obtain ⟨v10, hv10, h3⟩ := bnd h3
            refine rp rfl w0 rfl (sl_ix tok hv10 rfl rfl rfl rfl rfl rfl) ?_
            refine rp rfl w0 rfl (pu_load_refN tok rfl rfl rfl (by repeat (first | exact SegD.z _ | apply SegD.t))) ?_
            refine rs rfl w0 rfl (st_alloc 3 (cs := [.d (.v (.string (⟨#[]⟩ : ByteArray))), .d (.v (.slice none 0 0))]) tok rfl rfl rfl) ?_
            refine rw0 rfl w0 (bx_st (cs := _ :: _) tok rfl rfl rfl rfl rfl rfl rfl) ?_
            refine ra_nil ?_
            refine then_n ?_
            refine aw_seq ?_
            refine aw_regionA (is := [0, 1, 2, 3]) rfl ?_
            refine rl rfl w0 rfl (bx_fa tok rfl rfl rfl rfl rfl rfl rfl) ?_
            refine rl rfl w0 rfl (bx_ld1 tok rfl rfl rfl rfl rfl) ?_
            refine rp rfl w0 rfl (pu_len_map tok rfl rfl rfl) ?_
            refine rp rfl w0 rfl (pu_move (r := .d _) rfl) ?_
            refine ra_nil ?_
            refine then_n ?_
            refine aw_block ?_
            refine aw_loopM (fun s13 => ⟨updA (updA (updA (updA (updA (updA (updA (updA ((fun _ => .dead)) 5 (.d (.v (.int .i64 s13.1)))) 6 (.d (.v (.int .i64 s13.2.1)))) 16 (.d (.sl (List.map cArbor_ p0.Works.Arbors)))) 17 (.d (.v (.int .i64 (p0.Works.Arbors.length : Int))))) 18 (.d (.v (.int .i64 s9.2.2)))) 23 (.d (.sl (List.map cI v10.Wheels)))) 24 (.d (.v (.int .i64 (v10.Wheels.length : Int))))) 25 (.d (.v (.int .i64 s13.2.2))), lks [.no, .no, .no]⟩) h3 ?_ (fun s13 y h4 => ?_)
            · skip
              exact wk [0, 1, 2]
            · skip
              refine aw_seq ?_
              refine aw_regionA (is := [0]) rfl ?_
              refine rp rfl w0 rfl (pu_lss rfl rfl) ?_
              refine ra_nil ?_
              refine then_n ?_
              refine aw_seq ?_
              refine aw_if h4 rfl (fun hc h4 => ?_) (fun hc h4 => ?_)
              · skip
                refine aw_skip ?_
                refine then_n ?_
                refine aw_seq ?_
                refine aw_block ?_
                refine aw_seq ?_
                refine aw_regionA (is := [0, 1, 2]) rfl ?_
                obtain ⟨v14, hv14, h4⟩ := bnd h4
                refine rp rfl w0 rfl (sl_ix tok hv14 rfl rfl rfl rfl rfl rfl) ?_
                refine rp rfl w0 rfl (pu_load_ref1 tok rfl rfl rfl rfl) ?_
                refine rp rfl w0 rfl (pu_assign (r := .d _) rfl) ?_
                refine ra_nil ?_
                refine then_n ?_
                refine aw_seq ?_
                refine aw_regionA (is := [0, 1, 2]) rfl ?_
                refine rp rfl w0 rfl (pu_move (r := .d _) rfl) ?_
                refine rp rfl w0 rfl (pw_add rfl rfl) ?_
                refine rp rfl w0 rfl (pu_assign (r := .d _) rfl) ?_
                refine ra_nil ?_
                refine then_n ?_
                refine aw_regionA (is := [0, 1, 2, 3]) rfl ?_
                refine rp rfl w0 rfl (pu_move (r := .d _) rfl) ?_
                refine rp rfl w0 rfl (pu_move (r := .d _) rfl) ?_
                refine rp rfl w0 rfl (pw_add rfl rfl) ?_
                refine rp rfl w0 rfl (pu_assign (r := .d _) rfl) ?_
                refine ra_nil ?_
                refine block_n ?_
                refine then_n ?_
                refine aw_regionA (is := [0, 1]) rfl ?_
                refine rp rfl w0 rfl (pw_add rfl rfl) ?_
                refine rp rfl w0 rfl (pu_move (r := .d _) rfl) ?_
                refine ra_nil ?_
                refine loop_n ?_
                cases h4
                refine ⟨_, rfl, ?_⟩
                exact wk [0, 1, 2]
              · skip
                refine aw_exit ?_
                refine then_e ?_
                cases h4
                refine loop_x ⟨_, rfl, fun e => ?_⟩
                subst e
                refine block_hit ?_
                refine block_n ?_
                refine then_n ?_
                exact wk [0, 1, 2]
          · skip
            refine aw_regionA (is := [0, 1]) rfl ?_
            refine rp rfl w0 rfl (pw_add rfl rfl) ?_
            refine rp rfl w0 rfl (pu_move (r := .d _) rfl) ?_
            refine ra_nil ?_
            refine loop_n ?_
            cases h2
            refine ⟨_, rfl, ?_⟩
            exact wk [0, 1, 2]
        · skip
          refine aw_exit ?_
          refine then_e ?_
          cases h2
          refine loop_x ⟨_, rfl, fun e => ?_⟩
          subst e
          refine block_hit ?_
          refine then_n ?_
          exact wk [0, 1, 2]
    · skip
      refine aw_seq ?_
      refine aw_regionA (is := [0, 1, 2, 3, 4]) rfl ?_
      refine rp rfl w0 rfl (pu_move (r := .d _) rfl) ?_
      refine rp rfl w0 rfl (pu_move (r := .d _) rfl) ?_
      refine rp rfl w0 rfl (pu_assign (r := .d _) rfl) ?_
      refine rp rfl w0 rfl (pu_assign (r := .d _) rfl) ?_
      refine rp rfl w0 rfl (pu_assign (r := .d _) rfl) ?_
      refine ra_nil ?_
      refine then_n ?_
      refine aw_ret ?_
      cases h0
      exact ret0_ (rs := [.tmp 2, .tmp 3, .tmp 4]) rfl

theorem l_eqInt64S_c {p0 : List Int} {p1 : List Int} {r : Bool} (h0 : l_eqInt64S_m p0 p1 = some r) : FnC Try.prog 62 [] [.d (.sl (List.map cI p0)), .d (.sl (List.map cI p1))] [] (.d (.v (.bool r))) := by
  refine fnc_intro (T := tt) (N := 26) tok Try.func62 rfl rfl (by kernel_rfl) rfl rfl ?_
  unfold l_eqInt64S_m at h0
  refine aw_seq ?_
  refine aw_regionA (is := [0]) rfl ?_
  refine rp rfl w0 rfl (pu_assign (r := .d _) rfl) ?_
  refine ra_nil ?_
  refine then_n ?_
  refine aw_seq ?_
  refine aw_seq ?_
  refine aw_regionA (is := [0, 1, 2, 3, 4]) rfl ?_
  refine rp rfl w0 rfl (pu_move (r := .d _) rfl) ?_
  refine rp rfl w0 rfl (pu_len_map tok rfl rfl rfl) ?_
  refine rp rfl w0 rfl (pu_move (r := .d _) rfl) ?_
  refine rp rfl w0 rfl (pu_len_map tok rfl rfl rfl) ?_
  refine rp rfl w0 rfl (pu_neq rfl rfl) ?_
  refine ra_nil ?_
  refine then_n ?_
  refine aw_if h0 rfl (fun hc h0 => ?_) (fun hc h0 => ?_)
  · skip
    refine aw_seq ?_
    refine aw_regionA (is := [0]) rfl ?_
    refine rp rfl w0 rfl (pu_assign (r := .d _) rfl) ?_
    refine ra_nil ?_
    refine then_n ?_
    refine aw_ret ?_
    refine then_r ?_
    cases h0
    exact ret0_ (rs := [.tmp 4]) rfl
  · skip
    refine aw_skip ?_
    refine then_n ?_
    obtain ⟨v7x, h1, h0⟩ := bnd h0
    refine aw_cutE v7x (fun v7 => ⟨(fun _ => .dead), lks [.no, .no, .no]⟩) ?_ ?_
    · skip
      refine aw_seq ?_
      refine aw_regionA (is := [0]) rfl ?_
      refine rp rfl w0 rfl (pu_assign (r := .d _) rfl) ?_
      refine ra_nil ?_
      refine then_n ?_
      refine aw_block ?_
      refine aw_loopM (fun s4 => ⟨updA (updA (updA ((fun _ => .dead)) 0 (.d (.sl (List.map cI p0)))) 1 (.d (.sl (List.map cI p1)))) 5 (.d (.v (.int .i64 s4))), lks [.no, .no, .no]⟩) h1 ?_ (fun s4 y h2 => ?_)
      · skip
        exact wk [0, 1, 2]
      · skip
        refine aw_seq ?_
        refine aw_seq ?_
        refine aw_regionA (is := [0, 1, 2, 3]) rfl ?_
        refine rp rfl w0 rfl (pu_move (r := .d _) rfl) ?_
        refine rp rfl w0 rfl (pu_move (r := .d _) rfl) ?_
        refine rp rfl w0 rfl (pu_len_map tok rfl rfl rfl) ?_
        refine rp rfl w0 rfl (pu_lss rfl rfl) ?_
        refine ra_nil ?_
        refine then_n ?_
        refine aw_if h2 rfl (fun hc h2 => ?_) (fun hc h2 => ?_)
        · skip
          refine aw_skip ?_
          refine then_n ?_
          refine aw_seq ?_
          refine aw_block ?_
          refine aw_seq ?_
          refine aw_region_draw (is := [0, 1, 2, 3, 4, 5, 6, 7, 8]) [0, 0, 3, 7, 0, 0, 48, 112, 255] follows (by kernel_rfl) ?_
          refine rt_p rfl w0 rfl (pu_move (r := .d _) rfl) ?_
          refine rt_p rfl w0 rfl (pu_move (r := .d _) rfl) ?_
          obtain ⟨v5, hv5, h2⟩ := bnd h2
          refine rt_p rfl w0 rfl (sl_ix tok hv5 rfl rfl rfl rfl rfl rfl) ?_
          refine rt_p rfl w0 rfl (pu_load_ref1 tok rfl rfl rfl rfl) ?_
          refine rt_p rfl w0 rfl (pu_move (r := .d _) rfl) ?_
          refine rt_p rfl w0 rfl (pu_move (r := .d _) rfl) ?_
          obtain ⟨v6, hv6, h2⟩ := bnd h2
          refine rt_p rfl w0 rfl (sl_ix tok hv6 rfl rfl rfl rfl rfl rfl) ?_
          refine rt_p rfl w0 rfl (pu_load_ref1 tok rfl rfl rfl rfl) ?_
          refine rt_p rfl w0 rfl (pu_neq rfl rfl) ?_
          refine rt_nil ?_
          refine ⟨by kernel_rfl, ?_⟩
          refine then_n ?_
          refine aw_if h2 rfl (fun hc h2 => ?_) (fun hc h2 => ?_)
          · skip
            refine aw_seq ?_
            refine aw_regionA (is := [0]) rfl ?_
            refine rp rfl w0 rfl (pu_assign (r := .d _) rfl) ?_
            refine ra_nil ?_
            refine then_n ?_
            refine aw_ret ?_
            refine block_r ?_
            refine then_r ?_
            cases h2
            refine loop_r ⟨_, rfl, fun e => ?_⟩
            subst e
            refine block_r ?_
            replace h0 := orE_s h0
            refine then_r ?_
            cases h0
            exact ret0_ (rs := [.tmp 4]) rfl
          · skip
            refine aw_skip ?_
            refine block_n ?_
            refine then_n ?_
            refine aw_regionA (is := [0, 1, 2]) rfl ?_
            refine rp rfl w0 rfl (pu_move (r := .d _) rfl) ?_
            refine rp rfl w0 rfl (pw_add rfl rfl) ?_
            refine rp rfl w0 rfl (pu_assign (r := .d _) rfl) ?_
            refine ra_nil ?_
            refine loop_n ?_
            cases h2
            refine ⟨_, rfl, ?_⟩
            exact wk [0, 1, 2]
        · skip
          refine aw_exit ?_
          refine then_e ?_
          cases h2
          refine loop_x ⟨_, rfl, fun e => ?_⟩
          subst e
          refine block_hit ?_
          refine then_n ?_
          refine ⟨_, rfl, ?_⟩
          exact wk [0, 1, 2]
    · skip
      rintro v7 rfl
      replace h0 := orE_f h0
      refine aw_seq ?_
      refine aw_regionA (is := [0]) rfl ?_
      refine rp rfl w0 rfl (pu_assign (r := .d _) rfl) ?_
      refine ra_nil ?_
      refine then_n ?_
      refine aw_ret ?_
      cases h0
      exact ret0_ (rs := [.tmp 4]) rfl

theorem l_eqArbor_c {p0 : Arbor_} {p1 : Arbor_} {r : Bool} (h0 : l_eqArbor_m p0 p1 = some r) : FnC Try.prog 162 [] [.agg [.d (.v (.string p0.Name)), .d (.sl (List.map cI p0.Wheels))], .agg [.d (.v (.string p1.Name)), .d (.sl (List.map cI p1.Wheels))]] [] (.d (.v (.bool r))) := by
  refine fnc_intro (T := tt) (N := 16) tok Try.func162 rfl rfl (by kernel_rfl) rfl rfl ?_
  unfold l_eqArbor_m at h0
  refine aw_seq ?_
  refine aw_regionA (is := [0, 1, 2]) rfl ?_
  refine rs rfl w0 rfl (st_box 3 (cs := _ :: _) rfl rfl rfl) ?_
  refine rs rfl w0 rfl (st_box 4 (cs := _ :: _) rfl rfl rfl) ?_
  refine rp rfl w0 rfl (pu_assign (r := .d _) rfl) ?_
  refine ra_nil ?_
  refine then_n ?_
  refine aw_seq ?_
  refine aw_seq ?_
  refine aw_regionA (is := [0, 1, 2, 3, 4]) rfl ?_
  refine rl rfl w0 rfl (bx_fa tok rfl rfl rfl rfl rfl rfl rfl) ?_
  refine rl rfl w0 rfl (bx_ld1 tok rfl rfl rfl rfl rfl) ?_
  refine rl rfl w0 rfl (bx_fa tok rfl rfl rfl rfl rfl rfl rfl) ?_
  refine rl rfl w0 rfl (bx_ld1 tok rfl rfl rfl rfl rfl) ?_
  refine rp rfl w0 rfl (pu_sneq rfl rfl) ?_
  refine ra_nil ?_
  refine then_n ?_
  refine aw_if h0 rfl (fun hc h0 => ?_) (fun hc h0 => ?_)
  · skip
    refine aw_seq ?_
    refine aw_regionA (is := [0]) rfl ?_
    refine rp rfl w0 rfl (pu_assign (r := .d _) rfl) ?_
    refine ra_nil ?_
    refine then_n ?_
    refine aw_ret ?_
    refine then_r ?_
    cases h0
    exact ret0_ (rs := [.tmp 4]) rfl
  · skip
    refine aw_skip ?_
    refine then_n ?_
    refine aw_seq ?_
    refine aw_seq ?_
    refine aw_regionA (is := [0, 1, 2, 3, 4, 5]) rfl ?_
    refine rl rfl w0 rfl (bx_fa tok rfl rfl rfl rfl rfl rfl rfl) ?_
    refine rl rfl w0 rfl (bx_ld1 tok rfl rfl rfl rfl rfl) ?_
    refine rl rfl w0 rfl (bx_fa tok rfl rfl rfl rfl rfl rfl rfl) ?_
    refine rl rfl w0 rfl (bx_ld1 tok rfl rfl rfl rfl rfl) ?_
    obtain ⟨v1, hv1, h0⟩ := bnd h0
    refine rs rfl w0 rfl (c_call 5 (l_eqInt64S_c hv1) rfl rfl rfl) ?_
    refine rp rfl w0 rfl (pu_not rfl) ?_
    refine ra_nil ?_
    refine then_n ?_
    refine aw_ifB h0 rfl (fun hc h0 => ?_) (fun hc h0 => ?_)
    · skip
      refine aw_seq ?_
      refine aw_regionA (is := [0]) rfl ?_
      refine rp rfl w0 rfl (pu_assign (r := .d _) rfl) ?_
      refine ra_nil ?_
      refine then_n ?_
      refine aw_ret ?_
      refine then_r ?_
      cases h0
      exact ret0_ (rs := [.tmp 4]) rfl
    · skip
      refine aw_skip ?_
      refine then_n ?_
      refine aw_seq ?_
      refine aw_regionA (is := [0]) rfl ?_
      refine rp rfl w0 rfl (pu_assign (r := .d _) rfl) ?_
      refine ra_nil ?_
      refine then_n ?_
      refine aw_ret ?_
      cases h0
      exact ret0_ (rs := [.tmp 4]) rfl

theorem l_eqArborS_c {p0 : List Arbor_} {p1 : List Arbor_} {r : Bool} (h0 : l_eqArborS_m p0 p1 = some r) : FnC Try.prog 130 [] [.d (.sl (List.map cArbor_ p0)), .d (.sl (List.map cArbor_ p1))] [] (.d (.v (.bool r))) := by
  refine fnc_intro (T := tt) (N := 27) tok Try.func130 rfl rfl (by kernel_rfl) rfl rfl ?_
  unfold l_eqArborS_m at h0
  refine aw_seq ?_
  refine aw_regionA (is := [0]) rfl ?_
  refine rp rfl w0 rfl (pu_assign (r := .d _) rfl) ?_
  refine ra_nil ?_
  refine then_n ?_
  refine aw_seq ?_
  refine aw_seq ?_
  refine aw_regionA (is := [0, 1, 2, 3, 4]) rfl ?_
  refine rp rfl w0 rfl (pu_move (r := .d _) rfl) ?_
  refine rp rfl w0 rfl (pu_len_map tok rfl rfl rfl) ?_
  refine rp rfl w0 rfl (pu_move (r := .d _) rfl) ?_
  refine rp rfl w0 rfl (pu_len_map tok rfl rfl rfl) ?_
  refine rp rfl w0 rfl (pu_neq rfl rfl) ?_
  refine ra_nil ?_
  refine then_n ?_
  refine aw_if h0 rfl (fun hc h0 => ?_) (fun hc h0 => ?_)
  · skip
    refine aw_seq ?_
    refine aw_regionA (is := [0]) rfl ?_
    refine rp rfl w0 rfl (pu_assign (r := .d _) rfl) ?_
    refine ra_nil ?_
    refine then_n ?_
    refine aw_ret ?_
    refine then_r ?_
    cases h0
    exact ret0_ (rs := [.tmp 4]) rfl
  · skip
    refine aw_skip ?_
    refine then_n ?_
    obtain ⟨v9x, h1, h0⟩ := bnd h0
    refine aw_cutE v9x (fun v9 => ⟨(fun _ => .dead), lks [.no, .no, .no]⟩) ?_ ?_
    · skip
      refine aw_seq ?_
      refine aw_regionA (is := [0]) rfl ?_
      refine rp rfl w0 rfl (pu_assign (r := .d _) rfl) ?_
      refine ra_nil ?_
      refine then_n ?_
      refine aw_block ?_
      refine aw_loopM (fun s5 => ⟨updA (updA (updA ((fun _ => .dead)) 0 (.d (.sl (List.map cArbor_ p0)))) 1 (.d (.sl (List.map cArbor_ p1)))) 5 (.d (.v (.int .i64 s5))), lks [.no, .no, .no]⟩) h1 ?_ (fun s5 y h2 => ?_)
      · skip
        exact wk [0, 1, 2]
      · skip
        refine aw_seq ?_
        refine aw_seq ?_
        refine aw_regionA (is := [0, 1, 2, 3]) rfl ?_
        refine rp rfl w0 rfl (pu_move (r := .d _) rfl) ?_
        refine rp rfl w0 rfl (pu_move (r := .d _) rfl) ?_
        refine rp rfl w0 rfl (pu_len_map tok rfl rfl rfl) ?_
        refine rp rfl w0 rfl (pu_lss rfl rfl) ?_
        refine ra_nil ?_
        refine then_n ?_
        refine aw_if h2 rfl (fun hc h2 => ?_) (fun hc h2 => ?_)
        · skip
          refine aw_skip ?_
          refine then_n ?_
          refine aw_seq ?_
          refine aw_block ?_
          refine aw_seq ?_
          refine aw_region_draw (is := [0, 1, 2, 3, 4, 5, 6, 7, 8, 9]) [0, 0, 3, 7, 0, 0, 48, 112, 255, 511] follows (by kernel_rfl) ?_
          refine rt_p rfl w0 rfl (pu_move (r := .d _) rfl) ?_
          refine rt_p rfl w0 rfl (pu_move (r := .d _) rfl) ?_
          obtain ⟨v6, hv6, h2⟩ := bnd h2
          refine rt_p rfl w0 rfl (sl_ix tok hv6 rfl rfl rfl rfl rfl rfl) ?_
          refine rt_p rfl w0 rfl (pu_load_refN tok rfl rfl rfl (by repeat (first | exact SegD.z _ | apply SegD.t))) ?_
          refine rt_p rfl w0 rfl (pu_move (r := .d _) rfl) ?_
          refine rt_p rfl w0 rfl (pu_move (r := .d _) rfl) ?_
          obtain ⟨v7, hv7, h2⟩ := bnd h2
          refine rt_p rfl w0 rfl (sl_ix tok hv7 rfl rfl rfl rfl rfl rfl) ?_
          refine rt_p rfl w0 rfl (pu_load_refN tok rfl rfl rfl (by repeat (first | exact SegD.z _ | apply SegD.t))) ?_
          obtain ⟨v8, hv8, h2⟩ := bnd h2
          refine rt_c rfl w0 rfl (b_call 3 (l_eqArbor_c hv8) rfl rfl rfl) ?_
          refine rt_p rfl w0 rfl (pu_not rfl) ?_
          refine rt_nil ?_
          refine ⟨by kernel_rfl, ?_⟩
          refine then_n ?_
          refine aw_ifB h2 rfl (fun hc h2 => ?_) (fun hc h2 => ?_)
          · skip
            refine aw_seq ?_
            refine aw_regionA (is := [0]) rfl ?_
            refine rp rfl w0 rfl (pu_assign (r := .d _) rfl) ?_
            refine ra_nil ?_
            refine then_n ?_
            refine aw_ret ?_
            refine block_r ?_
            refine then_r ?_
            cases h2
            refine loop_r ⟨_, rfl, fun e => ?_⟩
            subst e
            refine block_r ?_
            replace h0 := orE_s h0
            refine then_r ?_
            cases h0
            exact ret0_ (rs := [.tmp 4]) rfl
          · skip
            refine aw_skip ?_
            refine block_n ?_
            refine then_n ?_
            refine aw_regionA (is := [0, 1, 2]) rfl ?_
            refine rp rfl w0 rfl (pu_move (r := .d _) rfl) ?_
            refine rp rfl w0 rfl (pw_add rfl rfl) ?_
            refine rp rfl w0 rfl (pu_assign (r := .d _) rfl) ?_
            refine ra_nil ?_
            refine loop_n ?_
            cases h2
            refine ⟨_, rfl, ?_⟩
            exact wk [0, 1, 2]
        · skip
          refine aw_exit ?_
          refine then_e ?_
          cases h2
          refine loop_x ⟨_, rfl, fun e => ?_⟩
          subst e
          refine block_hit ?_
          refine then_n ?_
          refine ⟨_, rfl, ?_⟩
          exact wk [0, 1, 2]
    · skip
      rintro v9 rfl
      replace h0 := orE_f h0
      refine aw_seq ?_
      refine aw_regionA (is := [0]) rfl ?_
      refine rp rfl w0 rfl (pu_assign (r := .d _) rfl) ?_
      refine ra_nil ?_
      refine then_n ?_
      refine aw_ret ?_
      cases h0
      exact ret0_ (rs := [.tmp 4]) rfl

theorem l_eqMesh_c {p0 : Mesh_} {p1 : Mesh_} {r : Bool} (h0 : l_eqMesh_m p0 p1 = some r) : FnC Try.prog 163 [] [.agg [.d (.v (.int .i64 p0.A)), .d (.v (.int .i64 p0.WheelA)), .d (.v (.int .i64 p0.B)), .d (.v (.int .i64 p0.WheelB))], .agg [.d (.v (.int .i64 p1.A)), .d (.v (.int .i64 p1.WheelA)), .d (.v (.int .i64 p1.B)), .d (.v (.int .i64 p1.WheelB))]] [] (.d (.v (.bool r))) := by
  refine fnc_intro (T := tt) (N := 25) tok Try.func163 rfl rfl (by kernel_rfl) rfl rfl ?_
  unfold l_eqMesh_m at h0
  refine aw_seq ?_
  refine aw_regionA (is := [0, 1, 2]) rfl ?_
  refine rs rfl w0 rfl (st_box 3 (cs := _ :: _) rfl rfl rfl) ?_
  refine rs rfl w0 rfl (st_box 4 (cs := _ :: _) rfl rfl rfl) ?_
  refine rp rfl w0 rfl (pu_assign (r := .d _) rfl) ?_
  refine ra_nil ?_
  refine then_n ?_
  refine aw_seq ?_
  refine aw_seq ?_
  refine aw_regionA (is := [0, 1, 2, 3, 4]) rfl ?_
  refine rl rfl w0 rfl (bx_fa tok rfl rfl rfl rfl rfl rfl rfl) ?_
  refine rl rfl w0 rfl (bx_ld1 tok rfl rfl rfl rfl rfl) ?_
  refine rl rfl w0 rfl (bx_fa tok rfl rfl rfl rfl rfl rfl rfl) ?_
  refine rl rfl w0 rfl (bx_ld1 tok rfl rfl rfl rfl rfl) ?_
  refine rp rfl w0 rfl (pu_neq rfl rfl) ?_
  refine ra_nil ?_
  refine then_n ?_
  refine aw_if h0 rfl (fun hc h0 => ?_) (fun hc h0 => ?_)
  · skip
    refine aw_seq ?_
    refine aw_regionA (is := [0]) rfl ?_
    refine rp rfl w0 rfl (pu_assign (r := .d _) rfl) ?_
    refine ra_nil ?_
    refine then_n ?_
    refine aw_ret ?_
    refine then_r ?_
    cases h0
    exact ret0_ (rs := [.tmp 4]) rfl
  · skip
    refine aw_skip ?_
    refine then_n ?_
    refine aw_seq ?_
    refine aw_seq ?_
    refine aw_regionA (is := [0, 1, 2, 3, 4]) rfl ?_
    refine rl rfl w0 rfl (bx_fa tok rfl rfl rfl rfl rfl rfl rfl) ?_
    refine rl rfl w0 rfl (bx_ld1 tok rfl rfl rfl rfl rfl) ?_
    refine rl rfl w0 rfl (bx_fa tok rfl rfl rfl rfl rfl rfl rfl) ?_
    refine rl rfl w0 rfl (bx_ld1 tok rfl rfl rfl rfl rfl) ?_
    refine rp rfl w0 rfl (pu_neq rfl rfl) ?_
    refine ra_nil ?_
    refine then_n ?_
    refine aw_if h0 rfl (fun hc h0 => ?_) (fun hc h0 => ?_)
    · skip
      refine aw_seq ?_
      refine aw_regionA (is := [0]) rfl ?_
      refine rp rfl w0 rfl (pu_assign (r := .d _) rfl) ?_
      refine ra_nil ?_
      refine then_n ?_
      refine aw_ret ?_
      refine then_r ?_
      cases h0
      exact ret0_ (rs := [.tmp 4]) rfl
    · skip
      refine aw_skip ?_
      refine then_n ?_
      refine aw_seq ?_
      refine aw_seq ?_
      refine aw_regionA (is := [0, 1, 2, 3, 4]) rfl ?_
      refine rl rfl w0 rfl (bx_fa tok rfl rfl rfl rfl rfl rfl rfl) ?_
      refine rl rfl w0 rfl (bx_ld1 tok rfl rfl rfl rfl rfl) ?_
      refine rl rfl w0 rfl (bx_fa tok rfl rfl rfl rfl rfl rfl rfl) ?_
      refine rl rfl w0 rfl (bx_ld1 tok rfl rfl rfl rfl rfl) ?_
      refine rp rfl w0 rfl (pu_neq rfl rfl) ?_
      refine ra_nil ?_
      refine then_n ?_
      refine aw_if h0 rfl (fun hc h0 => ?_) (fun hc h0 => ?_)
      · skip
        refine aw_seq ?_
        refine aw_regionA (is := [0]) rfl ?_
        refine rp rfl w0 rfl (pu_assign (r := .d _) rfl) ?_
        refine ra_nil ?_
        refine then_n ?_
        refine aw_ret ?_
        refine then_r ?_
        cases h0
        exact ret0_ (rs := [.tmp 4]) rfl
      · skip
        refine aw_skip ?_
        refine then_n ?_
        refine aw_seq ?_
        refine aw_seq ?_
        refine aw_regionA (is := [0, 1, 2, 3, 4]) rfl ?_
        refine rl rfl w0 rfl (bx_fa tok rfl rfl rfl rfl rfl rfl rfl) ?_
        refine rl rfl w0 rfl (bx_ld1 tok rfl rfl rfl rfl rfl) ?_
        refine rl rfl w0 rfl (bx_fa tok rfl rfl rfl rfl rfl rfl rfl) ?_
        refine rl rfl w0 rfl (bx_ld1 tok rfl rfl rfl rfl rfl) ?_
        refine rp rfl w0 rfl (pu_neq rfl rfl) ?_
        refine ra_nil ?_
        refine then_n ?_
        refine aw_if h0 rfl (fun hc h0 => ?_) (fun hc h0 => ?_)
        · skip
          refine aw_seq ?_
          refine aw_regionA (is := [0]) rfl ?_
          refine rp rfl w0 rfl (pu_assign (r := .d _) rfl) ?_
          refine ra_nil ?_
          refine then_n ?_
          refine aw_ret ?_
          refine then_r ?_
          cases h0
          exact ret0_ (rs := [.tmp 4]) rfl
        · skip
          refine aw_skip ?_
          refine then_n ?_
          refine aw_seq ?_
          refine aw_regionA (is := [0]) rfl ?_
          refine rp rfl w0 rfl (pu_assign (r := .d _) rfl) ?_
          refine ra_nil ?_
          refine then_n ?_
          refine aw_ret ?_
          cases h0
          exact ret0_ (rs := [.tmp 4]) rfl

theorem l_eqMeshS_c {p0 : List Mesh_} {p1 : List Mesh_} {r : Bool} (h0 : l_eqMeshS_m p0 p1 = some r) : FnC Try.prog 131 [] [.d (.sl (List.map cMesh_ p0)), .d (.sl (List.map cMesh_ p1))] [] (.d (.v (.bool r))) := by
  refine fnc_intro (T := tt) (N := 27) tok Try.func131 rfl rfl (by kernel_rfl) rfl rfl ?_
  unfold l_eqMeshS_m at h0
  refine aw_seq ?_
  refine aw_regionA (is := [0]) rfl ?_
  refine rp rfl w0 rfl (pu_assign (r := .d _) rfl) ?_
  refine ra_nil ?_
  refine then_n ?_
  refine aw_seq ?_
  refine aw_seq ?_
  refine aw_regionA (is := [0, 1, 2, 3, 4]) rfl ?_
  refine rp rfl w0 rfl (pu_move (r := .d _) rfl) ?_
  refine rp rfl w0 rfl (pu_len_map tok rfl rfl rfl) ?_
  refine rp rfl w0 rfl (pu_move (r := .d _) rfl) ?_
  refine rp rfl w0 rfl (pu_len_map tok rfl rfl rfl) ?_
  refine rp rfl w0 rfl (pu_neq rfl rfl) ?_
  refine ra_nil ?_
  refine then_n ?_
  refine aw_if h0 rfl (fun hc h0 => ?_) (fun hc h0 => ?_)
  · skip
    refine aw_seq ?_
    refine aw_regionA (is := [0]) rfl ?_
    refine rp rfl w0 rfl (pu_assign (r := .d _) rfl) ?_
    refine ra_nil ?_
    refine then_n ?_
    refine aw_ret ?_
    refine then_r ?_
    cases h0
    exact ret0_ (rs := [.tmp 4]) rfl
  · skip
    refine aw_skip ?_
    refine then_n ?_
    obtain ⟨v9x, h1, h0⟩ := bnd h0
    refine aw_cutE v9x (fun v9 => ⟨(fun _ => .dead), lks [.no, .no, .no]⟩) ?_ ?_
    · skip
      refine aw_seq ?_
      refine aw_regionA (is := [0]) rfl ?_
      refine rp rfl w0 rfl (pu_assign (r := .d _) rfl) ?_
      refine ra_nil ?_
      refine then_n ?_
      refine aw_block ?_
      refine aw_loopM (fun s5 => ⟨updA (updA (updA ((fun _ => .dead)) 0 (.d (.sl (List.map cMesh_ p0)))) 1 (.d (.sl (List.map cMesh_ p1)))) 5 (.d (.v (.int .i64 s5))), lks [.no, .no, .no]⟩) h1 ?_ (fun s5 y h2 => ?_)
      · skip
        exact wk [0, 1, 2]
      · skip
        refine aw_seq ?_
        refine aw_seq ?_
        refine aw_regionA (is := [0, 1, 2, 3]) rfl ?_
        refine rp rfl w0 rfl (pu_move (r := .d _) rfl) ?_
        refine rp rfl w0 rfl (pu_move (r := .d _) rfl) ?_
        refine rp rfl w0 rfl (pu_len_map tok rfl rfl rfl) ?_
        refine rp rfl w0 rfl (pu_lss rfl rfl) ?_
        refine ra_nil ?_
        refine then_n ?_
        refine aw_if h2 rfl (fun hc h2 => ?_) (fun hc h2 => ?_)
        · skip
          refine aw_skip ?_
          refine then_n ?_
          refine aw_seq ?_
          refine aw_block ?_
          refine aw_seq ?_
          refine aw_region_draw (is := [0, 1, 2, 3, 4, 5, 6, 7, 8, 9]) [0, 0, 3, 7, 0, 0, 48, 112, 255, 511] follows (by kernel_rfl) ?_
          refine rt_p rfl w0 rfl (pu_move (r := .d _) rfl) ?_
          refine rt_p rfl w0 rfl (pu_move (r := .d _) rfl) ?_
          obtain ⟨v6, hv6, h2⟩ := bnd h2
          refine rt_p rfl w0 rfl (sl_ix tok hv6 rfl rfl rfl rfl rfl rfl) ?_
          refine rt_p rfl w0 rfl (pu_load_refN tok rfl rfl rfl (by repeat (first | exact SegD.z _ | apply SegD.t))) ?_
          refine rt_p rfl w0 rfl (pu_move (r := .d _) rfl) ?_
          refine rt_p rfl w0 rfl (pu_move (r := .d _) rfl) ?_
          obtain ⟨v7, hv7, h2⟩ := bnd h2
          refine rt_p rfl w0 rfl (sl_ix tok hv7 rfl rfl rfl rfl rfl rfl) ?_
          refine rt_p rfl w0 rfl (pu_load_refN tok rfl rfl rfl (by repeat (first | exact SegD.z _ | apply SegD.t))) ?_
          obtain ⟨v8, hv8, h2⟩ := bnd h2
          refine rt_c rfl w0 rfl (b_call 3 (l_eqMesh_c hv8) rfl rfl rfl) ?_
          refine rt_p rfl w0 rfl (pu_not rfl) ?_
          refine rt_nil ?_
          refine ⟨by kernel_rfl, ?_⟩
          refine then_n ?_
          refine aw_ifB h2 rfl (fun hc h2 => ?_) (fun hc h2 => ?_)
          · skip
            refine aw_seq ?_
            refine aw_regionA (is := [0]) rfl ?_
            refine rp rfl w0 rfl (pu_assign (r := .d _) rfl) ?_
            refine ra_nil ?_
            refine then_n ?_
            refine aw_ret ?_
            refine block_r ?_
            refine then_r ?_
            cases h2
            refine loop_r ⟨_, rfl, fun e => ?_⟩
            subst e
            refine block_r ?_
            replace h0 := orE_s h0
            refine then_r ?_
            cases h0
            exact ret0_ (rs := [.tmp 4]) rfl
          · skip
            refine aw_skip ?_
            refine block_n ?_
            refine then_n ?_
            refine aw_regionA (is := [0, 1, 2]) rfl ?_
            refine rp rfl w0 rfl (pu_move (r := .d _) rfl) ?_
            refine rp rfl w0 rfl (pw_add rfl rfl) ?_
            refine rp rfl w0 rfl (pu_assign (r := .d _) rfl) ?_
            refine ra_nil ?_
            refine loop_n ?_
            cases h2
            refine ⟨_, rfl, ?_⟩
            exact wk [0, 1, 2]
        · skip
          refine aw_exit ?_
          refine then_e ?_
          cases h2
          refine loop_x ⟨_, rfl, fun e => ?_⟩
          subst e
          refine block_hit ?_
          refine then_n ?_
          refine ⟨_, rfl, ?_⟩
          exact wk [0, 1, 2]
    · skip
      rintro v9 rfl
      replace h0 := orE_f h0
      refine aw_seq ?_
      refine aw_regionA (is := [0]) rfl ?_
      refine rp rfl w0 rfl (pu_assign (r := .d _) rfl) ?_
      refine ra_nil ?_
      refine then_n ?_
      refine aw_ret ?_
      cases h0
      exact ret0_ (rs := [.tmp 4]) rfl

theorem l_eqWorks_c {p0 : Works_} {p1 : Works_} {r : Bool} (h0 : l_eqWorks_m p0 p1 = some r) : FnC Try.prog 86 [] [.agg [.d (.sl (List.map cArbor_ p0.Arbors)), .d (.sl (List.map cMesh_ p0.Meshes))], .agg [.d (.sl (List.map cArbor_ p1.Arbors)), .d (.sl (List.map cMesh_ p1.Meshes))]] [] (.d (.v (.bool r))) := by
  refine fnc_intro (T := tt) (N := 17) tok Try.func86 rfl rfl (by kernel_rfl) rfl rfl ?_
  unfold l_eqWorks_m at h0
  refine aw_seq ?_
  refine aw_regionA (is := [0, 1, 2]) rfl ?_
  refine rs rfl w0 rfl (st_box 3 (cs := _ :: _) rfl rfl rfl) ?_
  refine rs rfl w0 rfl (st_box 4 (cs := _ :: _) rfl rfl rfl) ?_
  refine rp rfl w0 rfl (pu_assign (r := .d _) rfl) ?_
  refine ra_nil ?_
  refine then_n ?_
  refine aw_seq ?_
  refine aw_seq ?_
  refine aw_regionA (is := [0, 1, 2, 3, 4, 5]) rfl ?_
  refine rl rfl w0 rfl (bx_fa tok rfl rfl rfl rfl rfl rfl rfl) ?_
  refine rl rfl w0 rfl (bx_ld1 tok rfl rfl rfl rfl rfl) ?_
  refine rl rfl w0 rfl (bx_fa tok rfl rfl rfl rfl rfl rfl rfl) ?_
  refine rl rfl w0 rfl (bx_ld1 tok rfl rfl rfl rfl rfl) ?_
  obtain ⟨v1, hv1, h0⟩ := bnd h0
  refine rs rfl w0 rfl (c_call 5 (l_eqArborS_c hv1) rfl rfl rfl) ?_
  refine rp rfl w0 rfl (pu_not rfl) ?_
  refine ra_nil ?_
  refine then_n ?_
  refine aw_ifB h0 rfl (fun hc h0 => ?_) (fun hc h0 => ?_)
  · skip
    refine aw_seq ?_
    refine aw_regionA (is := [0]) rfl ?_
    refine rp rfl w0 rfl (pu_assign (r := .d _) rfl) ?_
    refine ra_nil ?_
    refine then_n ?_
    refine aw_ret ?_
    refine then_r ?_
    cases h0
    exact ret0_ (rs := [.tmp 4]) rfl
  · skip
    refine aw_skip ?_
    refine then_n ?_
    refine aw_seq ?_
    refine aw_seq ?_
    refine aw_regionA (is := [0, 1, 2, 3, 4, 5]) rfl ?_
    refine rl rfl w0 rfl (bx_fa tok rfl rfl rfl rfl rfl rfl rfl) ?_
    refine rl rfl w0 rfl (bx_ld1 tok rfl rfl rfl rfl rfl) ?_
    refine rl rfl w0 rfl (bx_fa tok rfl rfl rfl rfl rfl rfl rfl) ?_
    refine rl rfl w0 rfl (bx_ld1 tok rfl rfl rfl rfl rfl) ?_
    obtain ⟨v2, hv2, h0⟩ := bnd h0
    refine rs rfl w0 rfl (c_call 5 (l_eqMeshS_c hv2) rfl rfl rfl) ?_
    refine rp rfl w0 rfl (pu_not rfl) ?_
    refine ra_nil ?_
    refine then_n ?_
    refine aw_ifB h0 rfl (fun hc h0 => ?_) (fun hc h0 => ?_)
    · skip
      refine aw_seq ?_
      refine aw_regionA (is := [0]) rfl ?_
      refine rp rfl w0 rfl (pu_assign (r := .d _) rfl) ?_
      refine ra_nil ?_
      refine then_n ?_
      refine aw_ret ?_
      refine then_r ?_
      cases h0
      exact ret0_ (rs := [.tmp 4]) rfl
    · skip
      refine aw_skip ?_
      refine then_n ?_
      refine aw_seq ?_
      refine aw_regionA (is := [0]) rfl ?_
      refine rp rfl w0 rfl (pu_assign (r := .d _) rfl) ?_
      refine ra_nil ?_
      refine then_n ?_
      refine aw_ret ?_
      cases h0
      exact ret0_ (rs := [.tmp 4]) rfl

theorem l_eqMonth_c {p0 : Month_} {p1 : Month_} {r : Bool} (h0 : l_eqMonth_m p0 p1 = some r) : FnC Try.prog 164 [] [.agg [.d (.v (.string p0.Name)), .d (.v (.int .i64 p0.Days)), .d (.v (.int .i64 p0.Leap))], .agg [.d (.v (.string p1.Name)), .d (.v (.int .i64 p1.Days)), .d (.v (.int .i64 p1.Leap))]] [] (.d (.v (.bool r))) := by
  refine fnc_intro (T := tt) (N := 20) tok Try.func164 rfl rfl (by kernel_rfl) rfl rfl ?_
  unfold l_eqMonth_m at h0
  refine aw_seq ?_
  refine aw_regionA (is := [0, 1, 2]) rfl ?_
  refine rs rfl w0 rfl (st_box 3 (cs := _ :: _) rfl rfl rfl) ?_
  refine rs rfl w0 rfl (st_box 4 (cs := _ :: _) rfl rfl rfl) ?_
  refine rp rfl w0 rfl (pu_assign (r := .d _) rfl) ?_
  refine ra_nil ?_
  refine then_n ?_
  refine aw_seq ?_
  refine aw_seq ?_
  refine aw_regionA (is := [0, 1, 2, 3, 4]) rfl ?_
  refine rl rfl w0 rfl (bx_fa tok rfl rfl rfl rfl rfl rfl rfl) ?_
  refine rl rfl w0 rfl (bx_ld1 tok rfl rfl rfl rfl rfl) ?_
  refine rl rfl w0 rfl (bx_fa tok rfl rfl rfl rfl rfl rfl rfl) ?_
  refine rl rfl w0 rfl (bx_ld1 tok rfl rfl rfl rfl rfl) ?_
  refine rp rfl w0 rfl (pu_sneq rfl rfl) ?_
  refine ra_nil ?_
  refine then_n ?_
  refine aw_if h0 rfl (fun hc h0 => ?_) (fun hc h0 => ?_)
  · skip
    refine aw_seq ?_
    refine aw_regionA (is := [0]) rfl ?_
    refine rp rfl w0 rfl (pu_assign (r := .d _) rfl) ?_
    refine ra_nil ?_
    refine then_n ?_
    refine aw_ret ?_
    refine then_r ?_
    cases h0
    exact ret0_ (rs := [.tmp 4]) rfl
  · skip
    refine aw_skip ?_
    refine then_n ?_
    refine aw_seq ?_
    refine aw_seq ?_
    refine aw_regionA (is := [0, 1, 2, 3, 4]) rfl ?_
    refine rl rfl w0 rfl (bx_fa tok rfl rfl rfl rfl rfl rfl rfl) ?_
    refine rl rfl w0 rfl (bx_ld1 tok rfl rfl rfl rfl rfl) ?_
    refine rl rfl w0 rfl (bx_fa tok rfl rfl rfl rfl rfl rfl rfl) ?_
    refine rl rfl w0 rfl (bx_ld1 tok rfl rfl rfl rfl rfl) ?_
    refine rp rfl w0 rfl (pu_neq rfl rfl) ?_
    refine ra_nil ?_
    refine then_n ?_
    refine aw_if h0 rfl (fun hc h0 => ?_) (fun hc h0 => ?_)
    · skip
      refine aw_seq ?_
      refine aw_regionA (is := [0]) rfl ?_
      refine rp rfl w0 rfl (pu_assign (r := .d _) rfl) ?_
      refine ra_nil ?_
      refine then_n ?_
      refine aw_ret ?_
      refine then_r ?_
      cases h0
      exact ret0_ (rs := [.tmp 4]) rfl
    · skip
      refine aw_skip ?_
      refine then_n ?_
      refine aw_seq ?_
      refine aw_seq ?_
      refine aw_regionA (is := [0, 1, 2, 3, 4]) rfl ?_
      refine rl rfl w0 rfl (bx_fa tok rfl rfl rfl rfl rfl rfl rfl) ?_
      refine rl rfl w0 rfl (bx_ld1 tok rfl rfl rfl rfl rfl) ?_
      refine rl rfl w0 rfl (bx_fa tok rfl rfl rfl rfl rfl rfl rfl) ?_
      refine rl rfl w0 rfl (bx_ld1 tok rfl rfl rfl rfl rfl) ?_
      refine rp rfl w0 rfl (pu_neq rfl rfl) ?_
      refine ra_nil ?_
      refine then_n ?_
      refine aw_if h0 rfl (fun hc h0 => ?_) (fun hc h0 => ?_)
      · skip
        refine aw_seq ?_
        refine aw_regionA (is := [0]) rfl ?_
        refine rp rfl w0 rfl (pu_assign (r := .d _) rfl) ?_
        refine ra_nil ?_
        refine then_n ?_
        refine aw_ret ?_
        refine then_r ?_
        cases h0
        exact ret0_ (rs := [.tmp 4]) rfl
      · skip
        refine aw_skip ?_
        refine then_n ?_
        refine aw_seq ?_
        refine aw_regionA (is := [0]) rfl ?_
        refine rp rfl w0 rfl (pu_assign (r := .d _) rfl) ?_
        refine ra_nil ?_
        refine then_n ?_
        refine aw_ret ?_
        cases h0
        exact ret0_ (rs := [.tmp 4]) rfl

theorem l_eqMonthS_c {p0 : List Month_} {p1 : List Month_} {r : Bool} (h0 : l_eqMonthS_m p0 p1 = some r) : FnC Try.prog 132 [] [.d (.sl (List.map cMonth_ p0)), .d (.sl (List.map cMonth_ p1))] [] (.d (.v (.bool r))) := by
  refine fnc_intro (T := tt) (N := 27) tok Try.func132 rfl rfl (by kernel_rfl) rfl rfl ?_
  unfold l_eqMonthS_m at h0
  refine aw_seq ?_
  refine aw_regionA (is := [0]) rfl ?_
  refine rp rfl w0 rfl (pu_assign (r := .d _) rfl) ?_
  refine ra_nil ?_
  refine then_n ?_
  refine aw_seq ?_
  refine aw_seq ?_
  refine aw_regionA (is := [0, 1, 2, 3, 4]) rfl ?_
  refine rp rfl w0 rfl (pu_move (r := .d _) rfl) ?_
  refine rp rfl w0 rfl (pu_len_map tok rfl rfl rfl) ?_
  refine rp rfl w0 rfl (pu_move (r := .d _) rfl) ?_
  refine rp rfl w0 rfl (pu_len_map tok rfl rfl rfl) ?_
  refine rp rfl w0 rfl (pu_neq rfl rfl) ?_
  refine ra_nil ?_
  refine then_n ?_
  refine aw_if h0 rfl (fun hc h0 => ?_) (fun hc h0 => ?_)
  · skip
    refine aw_seq ?_
    refine aw_regionA (is := [0]) rfl ?_
    refine rp rfl w0 rfl (pu_assign (r := .d _) rfl) ?_
    refine ra_nil ?_
    refine then_n ?_
    refine aw_ret ?_
    refine then_r ?_
    cases h0
    exact ret0_ (rs := [.tmp 4]) rfl
  · skip
    refine aw_skip ?_
    refine then_n ?_
    obtain ⟨v9x, h1, h0⟩ := bnd h0
    refine aw_cutE v9x (fun v9 => ⟨(fun _ => .dead), lks [.no, .no, .no]⟩) ?_ ?_
    · skip
      refine aw_seq ?_
      refine aw_regionA (is := [0]) rfl ?_
      refine rp rfl w0 rfl (pu_assign (r := .d _) rfl) ?_
      refine ra_nil ?_
      refine then_n ?_
      refine aw_block ?_
      refine aw_loopM (fun s5 => ⟨updA (updA (updA ((fun _ => .dead)) 0 (.d (.sl (List.map cMonth_ p0)))) 1 (.d (.sl (List.map cMonth_ p1)))) 5 (.d (.v (.int .i64 s5))), lks [.no, .no, .no]⟩) h1 ?_ (fun s5 y h2 => ?_)
      · skip
        exact wk [0, 1, 2]
      · skip
        refine aw_seq ?_
        refine aw_seq ?_
        refine aw_regionA (is := [0, 1, 2, 3]) rfl ?_
        refine rp rfl w0 rfl (pu_move (r := .d _) rfl) ?_
        refine rp rfl w0 rfl (pu_move (r := .d _) rfl) ?_
        refine rp rfl w0 rfl (pu_len_map tok rfl rfl rfl) ?_
        refine rp rfl w0 rfl (pu_lss rfl rfl) ?_
        refine ra_nil ?_
        refine then_n ?_
        refine aw_if h2 rfl (fun hc h2 => ?_) (fun hc h2 => ?_)
        · skip
          refine aw_skip ?_
          refine then_n ?_
          refine aw_seq ?_
          refine aw_block ?_
          refine aw_seq ?_
          refine aw_region_draw (is := [0, 1, 2, 3, 4, 5, 6, 7, 8, 9]) [0, 0, 3, 7, 0, 0, 48, 112, 255, 511] follows (by kernel_rfl) ?_
          refine rt_p rfl w0 rfl (pu_move (r := .d _) rfl) ?_
          refine rt_p rfl w0 rfl (pu_move (r := .d _) rfl) ?_
          obtain ⟨v6, hv6, h2⟩ := bnd h2
          refine rt_p rfl w0 rfl (sl_ix tok hv6 rfl rfl rfl rfl rfl rfl) ?_
          refine rt_p rfl w0 rfl (pu_load_refN tok rfl rfl rfl (by repeat (first | exact SegD.z _ | apply SegD.t))) ?_
          refine rt_p rfl w0 rfl (pu_move (r := .d _) rfl) ?_
          refine rt_p rfl w0 rfl (pu_move (r := .d _) rfl) ?_
          obtain ⟨v7, hv7, h2⟩ := bnd h2
          refine rt_p rfl w0 rfl (sl_ix tok hv7 rfl rfl rfl rfl rfl rfl) ?_
          refine rt_p rfl w0 rfl (pu_load_refN tok rfl rfl rfl (by repeat (first | exact SegD.z _ | apply SegD.t))) ?_
          obtain ⟨v8, hv8, h2⟩ := bnd h2
          refine rt_c rfl w0 rfl (b_call 3 (l_eqMonth_c hv8) rfl rfl rfl) ?_
          refine rt_p rfl w0 rfl (pu_not rfl) ?_
          refine rt_nil ?_
          refine ⟨by kernel_rfl, ?_⟩
          refine then_n ?_
          refine aw_ifB h2 rfl (fun hc h2 => ?_) (fun hc h2 => ?_)
          · skip
            refine aw_seq ?_
            refine aw_regionA (is := [0]) rfl ?_
            refine rp rfl w0 rfl (pu_assign (r := .d _) rfl) ?_
            refine ra_nil ?_
            refine then_n ?_
            refine aw_ret ?_
            refine block_r ?_
            refine then_r ?_
            cases h2
            refine loop_r ⟨_, rfl, fun e => ?_⟩
            subst e
            refine block_r ?_
            replace h0 := orE_s h0
            refine then_r ?_
            cases h0
            exact ret0_ (rs := [.tmp 4]) rfl
          · skip
            refine aw_skip ?_
            refine block_n ?_
            refine then_n ?_
            refine aw_regionA (is := [0, 1, 2]) rfl ?_
            refine rp rfl w0 rfl (pu_move (r := .d _) rfl) ?_
            refine rp rfl w0 rfl (pw_add rfl rfl) ?_
            refine rp rfl w0 rfl (pu_assign (r := .d _) rfl) ?_
            refine ra_nil ?_
            refine loop_n ?_
            cases h2
            refine ⟨_, rfl, ?_⟩
            exact wk [0, 1, 2]
        · skip
          refine aw_exit ?_
          refine then_e ?_
          cases h2
          refine loop_x ⟨_, rfl, fun e => ?_⟩
          subst e
          refine block_hit ?_
          refine then_n ?_
          refine ⟨_, rfl, ?_⟩
          exact wk [0, 1, 2]
    · skip
      rintro v9 rfl
      replace h0 := orE_f h0
      refine aw_seq ?_
      refine aw_regionA (is := [0]) rfl ?_
      refine rp rfl w0 rfl (pu_assign (r := .d _) rfl) ?_
      refine ra_nil ?_
      refine then_n ?_
      refine aw_ret ?_
      cases h0
      exact ret0_ (rs := [.tmp 4]) rfl

theorem l_eqLeapRule_c {p0 : LeapRule_} {p1 : LeapRule_} {r : Bool} (h0 : l_eqLeapRule_m p0 p1 = some r) : FnC Try.prog 165 [] [.agg [.d (.v (.int .i64 p0.Every)), .d (.v (.int .i64 p0.Rest)), .d (.v (.bool p0.Leap))], .agg [.d (.v (.int .i64 p1.Every)), .d (.v (.int .i64 p1.Rest)), .d (.v (.bool p1.Leap))]] [] (.d (.v (.bool r))) := by
  refine fnc_intro (T := tt) (N := 20) tok Try.func165 rfl rfl (by kernel_rfl) rfl rfl ?_
  unfold l_eqLeapRule_m at h0
  refine aw_seq ?_
  refine aw_regionA (is := [0, 1, 2]) rfl ?_
  refine rs rfl w0 rfl (st_box 3 (cs := _ :: _) rfl rfl rfl) ?_
  refine rs rfl w0 rfl (st_box 4 (cs := _ :: _) rfl rfl rfl) ?_
  refine rp rfl w0 rfl (pu_assign (r := .d _) rfl) ?_
  refine ra_nil ?_
  refine then_n ?_
  refine aw_seq ?_
  refine aw_seq ?_
  refine aw_regionA (is := [0, 1, 2, 3, 4]) rfl ?_
  refine rl rfl w0 rfl (bx_fa tok rfl rfl rfl rfl rfl rfl rfl) ?_
  refine rl rfl w0 rfl (bx_ld1 tok rfl rfl rfl rfl rfl) ?_
  refine rl rfl w0 rfl (bx_fa tok rfl rfl rfl rfl rfl rfl rfl) ?_
  refine rl rfl w0 rfl (bx_ld1 tok rfl rfl rfl rfl rfl) ?_
  refine rp rfl w0 rfl (pu_neq rfl rfl) ?_
  refine ra_nil ?_
  refine then_n ?_
  refine aw_if h0 rfl (fun hc h0 => ?_) (fun hc h0 => ?_)
  · skip
    refine aw_seq ?_
    refine aw_regionA (is := [0]) rfl ?_
    refine rp rfl w0 rfl (pu_assign (r := .d _) rfl) ?_
    refine ra_nil ?_
    refine then_n ?_
    refine aw_ret ?_
    refine then_r ?_
    cases h0
    exact ret0_ (rs := [.tmp 4]) rfl
  · skip
    refine aw_skip ?_
    refine then_n ?_
    refine aw_seq ?_
    refine aw_seq ?_
    refine aw_regionA (is := [0, 1, 2, 3, 4]) rfl ?_
    refine rl rfl w0 rfl (bx_fa tok rfl rfl rfl rfl rfl rfl rfl) ?_
    refine rl rfl w0 rfl (bx_ld1 tok rfl rfl rfl rfl rfl) ?_
    refine rl rfl w0 rfl (bx_fa tok rfl rfl rfl rfl rfl rfl rfl) ?_
    refine rl rfl w0 rfl (bx_ld1 tok rfl rfl rfl rfl rfl) ?_
    refine rp rfl w0 rfl (pu_neq rfl rfl) ?_
    refine ra_nil ?_
    refine then_n ?_
    refine aw_if h0 rfl (fun hc h0 => ?_) (fun hc h0 => ?_)
    · skip
      refine aw_seq ?_
      refine aw_regionA (is := [0]) rfl ?_
      refine rp rfl w0 rfl (pu_assign (r := .d _) rfl) ?_
      refine ra_nil ?_
      refine then_n ?_
      refine aw_ret ?_
      refine then_r ?_
      cases h0
      exact ret0_ (rs := [.tmp 4]) rfl
    · skip
      refine aw_skip ?_
      refine then_n ?_
      refine aw_seq ?_
      refine aw_seq ?_
      refine aw_regionA (is := [0, 1, 2, 3, 4]) rfl ?_
      refine rl rfl w0 rfl (bx_fa tok rfl rfl rfl rfl rfl rfl rfl) ?_
      refine rl rfl w0 rfl (bx_ld1 tok rfl rfl rfl rfl rfl) ?_
      refine rl rfl w0 rfl (bx_fa tok rfl rfl rfl rfl rfl rfl rfl) ?_
      refine rl rfl w0 rfl (bx_ld1 tok rfl rfl rfl rfl rfl) ?_
      refine rp rfl w0 rfl (pu_bneq tok rfl rfl rfl rfl) ?_
      refine ra_nil ?_
      refine then_n ?_
      refine aw_ifB h0 rfl (fun hc h0 => ?_) (fun hc h0 => ?_)
      · skip
        refine aw_seq ?_
        refine aw_regionA (is := [0]) rfl ?_
        refine rp rfl w0 rfl (pu_assign (r := .d _) rfl) ?_
        refine ra_nil ?_
        refine then_n ?_
        refine aw_ret ?_
        refine then_r ?_
        cases h0
        exact ret0_ (rs := [.tmp 4]) rfl
      · skip
        refine aw_skip ?_
        refine then_n ?_
        refine aw_seq ?_
        refine aw_regionA (is := [0]) rfl ?_
        refine rp rfl w0 rfl (pu_assign (r := .d _) rfl) ?_
        refine ra_nil ?_
        refine then_n ?_
        refine aw_ret ?_
        cases h0
        exact ret0_ (rs := [.tmp 4]) rfl

theorem l_eqLeapRuleS_c {p0 : List LeapRule_} {p1 : List LeapRule_} {r : Bool} (h0 : l_eqLeapRuleS_m p0 p1 = some r) : FnC Try.prog 133 [] [.d (.sl (List.map cLeapRule_ p0)), .d (.sl (List.map cLeapRule_ p1))] [] (.d (.v (.bool r))) := by
  refine fnc_intro (T := tt) (N := 27) tok Try.func133 rfl rfl (by kernel_rfl) rfl rfl ?_
  unfold l_eqLeapRuleS_m at h0
  refine aw_seq ?_
  refine aw_regionA (is := [0]) rfl ?_
  refine rp rfl w0 rfl (pu_assign (r := .d _) rfl) ?_
  refine ra_nil ?_
  refine then_n ?_
  refine aw_seq ?_
  refine aw_seq ?_
  refine aw_regionA (is := [0, 1, 2, 3, 4]) rfl ?_
  refine rp rfl w0 rfl (pu_move (r := .d _) rfl) ?_
  refine rp rfl w0 rfl (pu_len_map tok rfl rfl rfl) ?_
  refine rp rfl w0 rfl (pu_move (r := .d _) rfl) ?_
  refine rp rfl w0 rfl (pu_len_map tok rfl rfl rfl) ?_
  refine rp rfl w0 rfl (pu_neq rfl rfl) ?_
  refine ra_nil ?_
  refine then_n ?_
  refine aw_if h0 rfl (fun hc h0 => ?_) (fun hc h0 => ?_)
  · skip
    refine aw_seq ?_
    refine aw_regionA (is := [0]) rfl ?_
    refine rp rfl w0 rfl (pu_assign (r := .d _) rfl) ?_
    refine ra_nil ?_
    refine then_n ?_
    refine aw_ret ?_
    refine then_r ?_
    cases h0
    exact ret0_ (rs := [.tmp 4]) rfl
  · skip
    refine aw_skip ?_
    refine then_n ?_
    obtain ⟨v9x, h1, h0⟩ := bnd h0
    refine aw_cutE v9x (fun v9 => ⟨(fun _ => .dead), lks [.no, .no, .no]⟩) ?_ ?_
    · skip
      refine aw_seq ?_
      refine aw_regionA (is := [0]) rfl ?_
      refine rp rfl w0 rfl (pu_assign (r := .d _) rfl) ?_
      refine ra_nil ?_
      refine then_n ?_
      refine aw_block ?_
      refine aw_loopM (fun s5 => ⟨updA (updA (updA ((fun _ => .dead)) 0 (.d (.sl (List.map cLeapRule_ p0)))) 1 (.d (.sl (List.map cLeapRule_ p1)))) 5 (.d (.v (.int .i64 s5))), lks [.no, .no, .no]⟩) h1 ?_ (fun s5 y h2 => ?_)
      · skip
        exact wk [0, 1, 2]
      · skip
        refine aw_seq ?_
        refine aw_seq ?_
        refine aw_regionA (is := [0, 1, 2, 3]) rfl ?_
        refine rp rfl w0 rfl (pu_move (r := .d _) rfl) ?_
        refine rp rfl w0 rfl (pu_move (r := .d _) rfl) ?_
        refine rp rfl w0 rfl (pu_len_map tok rfl rfl rfl) ?_
        refine rp rfl w0 rfl (pu_lss rfl rfl) ?_
        refine ra_nil ?_
        refine then_n ?_
        refine aw_if h2 rfl (fun hc h2 => ?_) (fun hc h2 => ?_)
        · skip
          refine aw_skip ?_
          refine then_n ?_
          refine aw_seq ?_
          refine aw_block ?_
          refine aw_seq ?_
          refine aw_region_draw (is := [0, 1, 2, 3, 4, 5, 6, 7, 8, 9]) [0, 0, 3, 7, 0, 0, 48, 112, 255, 511] follows (by kernel_rfl) ?_
          refine rt_p rfl w0 rfl (pu_move (r := .d _) rfl) ?_
          refine rt_p rfl w0 rfl (pu_move (r := .d _) rfl) ?_
          obtain ⟨v6, hv6, h2⟩ := bnd h2
          refine rt_p rfl w0 rfl (sl_ix tok hv6 rfl rfl rfl rfl rfl rfl) ?_
          refine rt_p rfl w0 rfl (pu_load_refN tok rfl rfl rfl (by repeat (first | exact SegD.z _ | apply SegD.t))) ?_
          refine rt_p rfl w0 rfl (pu_move (r := .d _) rfl) ?_
          refine rt_p rfl w0 rfl (pu_move (r := .d _) rfl) ?_
          obtain ⟨v7, hv7, h2⟩ := bnd h2
          refine rt_p rfl w0 rfl (sl_ix tok hv7 rfl rfl rfl rfl rfl rfl) ?_
          refine rt_p rfl w0 rfl (pu_load_refN tok rfl rfl rfl (by repeat (first | exact SegD.z _ | apply SegD.t))) ?_
          obtain ⟨v8, hv8, h2⟩ := bnd h2
          refine rt_c rfl w0 rfl (b_call 3 (l_eqLeapRule_c hv8) rfl rfl rfl) ?_
          refine rt_p rfl w0 rfl (pu_not rfl) ?_
          refine rt_nil ?_
          refine ⟨by kernel_rfl, ?_⟩
          refine then_n ?_
          refine aw_ifB h2 rfl (fun hc h2 => ?_) (fun hc h2 => ?_)
          · skip
            refine aw_seq ?_
            refine aw_regionA (is := [0]) rfl ?_
            refine rp rfl w0 rfl (pu_assign (r := .d _) rfl) ?_
            refine ra_nil ?_
            refine then_n ?_
            refine aw_ret ?_
            refine block_r ?_
            refine then_r ?_
            cases h2
            refine loop_r ⟨_, rfl, fun e => ?_⟩
            subst e
            refine block_r ?_
            replace h0 := orE_s h0
            refine then_r ?_
            cases h0
            exact ret0_ (rs := [.tmp 4]) rfl
          · skip
            refine aw_skip ?_
            refine block_n ?_
            refine then_n ?_
            refine aw_regionA (is := [0, 1, 2]) rfl ?_
            refine rp rfl w0 rfl (pu_move (r := .d _) rfl) ?_
            refine rp rfl w0 rfl (pw_add rfl rfl) ?_
            refine rp rfl w0 rfl (pu_assign (r := .d _) rfl) ?_
            refine ra_nil ?_
            refine loop_n ?_
            cases h2
            refine ⟨_, rfl, ?_⟩
            exact wk [0, 1, 2]
        · skip
          refine aw_exit ?_
          refine then_e ?_
          cases h2
          refine loop_x ⟨_, rfl, fun e => ?_⟩
          subst e
          refine block_hit ?_
          refine then_n ?_
          refine ⟨_, rfl, ?_⟩
          exact wk [0, 1, 2]
    · skip
      rintro v9 rfl
      replace h0 := orE_f h0
      refine aw_seq ?_
      refine aw_regionA (is := [0]) rfl ?_
      refine rp rfl w0 rfl (pu_assign (r := .d _) rfl) ?_
      refine ra_nil ?_
      refine then_n ?_
      refine aw_ret ?_
      cases h0
      exact ret0_ (rs := [.tmp 4]) rfl

theorem l_eqCalendar_c {p0 : Calendar_} {p1 : Calendar_} {r : Bool} (h0 : l_eqCalendar_m p0 p1 = some r) : FnC Try.prog 87 [] [.agg [.d (.v (.string p0.Name)), .d (.sl (List.map cMonth_ p0.Months)), .d (.sl (List.map cLeapRule_ p0.Rules)), .d (.v (.int .i64 p0.Week))], .agg [.d (.v (.string p1.Name)), .d (.sl (List.map cMonth_ p1.Months)), .d (.sl (List.map cLeapRule_ p1.Rules)), .d (.v (.int .i64 p1.Week))]] [] (.d (.v (.bool r))) := by
  refine fnc_intro (T := tt) (N := 27) tok Try.func87 rfl rfl (by kernel_rfl) rfl rfl ?_
  unfold l_eqCalendar_m at h0
  refine aw_seq ?_
  refine aw_regionA (is := [0, 1, 2]) rfl ?_
  refine rs rfl w0 rfl (st_box 3 (cs := _ :: _) rfl rfl rfl) ?_
  refine rs rfl w0 rfl (st_box 4 (cs := _ :: _) rfl rfl rfl) ?_
  refine rp rfl w0 rfl (pu_assign (r := .d _) rfl) ?_
  refine ra_nil ?_
  refine then_n ?_
  refine aw_seq ?_
  refine aw_seq ?_
  refine aw_regionA (is := [0, 1, 2, 3, 4]) rfl ?_
  refine rl rfl w0 rfl (bx_fa tok rfl rfl rfl rfl rfl rfl rfl) ?_
  refine rl rfl w0 rfl (bx_ld1 tok rfl rfl rfl rfl rfl) ?_
  refine rl rfl w0 rfl (bx_fa tok rfl rfl rfl rfl rfl rfl rfl) ?_
  refine rl rfl w0 rfl (bx_ld1 tok rfl rfl rfl rfl rfl) ?_
  refine rp rfl w0 rfl (pu_sneq rfl rfl) ?_
  refine ra_nil ?_
  refine then_n ?_
  refine aw_if h0 rfl (fun hc h0 => ?_) (fun hc h0 => ?_)
  · skip
    refine aw_seq ?_
    refine aw_regionA (is := [0]) rfl ?_
    refine rp rfl w0 rfl (pu_assign (r := .d _) rfl) ?_
    refine ra_nil ?_
    refine then_n ?_
    refine aw_ret ?_
    refine then_r ?_
    cases h0
    exact ret0_ (rs := [.tmp 4]) rfl
  · skip
    refine aw_skip ?_
    refine then_n ?_
    refine aw_seq ?_
    refine aw_seq ?_
    refine aw_regionA (is := [0, 1, 2, 3, 4, 5]) rfl ?_
    refine rl rfl w0 rfl (bx_fa tok rfl rfl rfl rfl rfl rfl rfl) ?_
    refine rl rfl w0 rfl (bx_ld1 tok rfl rfl rfl rfl rfl) ?_
    refine rl rfl w0 rfl (bx_fa tok rfl rfl rfl rfl rfl rfl rfl) ?_
    refine rl rfl w0 rfl (bx_ld1 tok rfl rfl rfl rfl rfl) ?_
    obtain ⟨v1, hv1, h0⟩ := bnd h0
    refine rs rfl w0 rfl (c_call 5 (l_eqMonthS_c hv1) rfl rfl rfl) ?_
    refine rp rfl w0 rfl (pu_not rfl) ?_
    refine ra_nil ?_
    refine then_n ?_
    refine aw_ifB h0 rfl (fun hc h0 => ?_) (fun hc h0 => ?_)
    · skip
      refine aw_seq ?_
      refine aw_regionA (is := [0]) rfl ?_
      refine rp rfl w0 rfl (pu_assign (r := .d _) rfl) ?_
      refine ra_nil ?_
      refine then_n ?_
      refine aw_ret ?_
      refine then_r ?_
      cases h0
      exact ret0_ (rs := [.tmp 4]) rfl
    · skip
      refine aw_skip ?_
      refine then_n ?_
      refine aw_seq ?_
      refine aw_seq ?_
      refine aw_regionA (is := [0, 1, 2, 3, 4, 5]) rfl ?_
      refine rl rfl w0 rfl (bx_fa tok rfl rfl rfl rfl rfl rfl rfl) ?_
      refine rl rfl w0 rfl (bx_ld1 tok rfl rfl rfl rfl rfl) ?_
      refine rl rfl w0 rfl (bx_fa tok rfl rfl rfl rfl rfl rfl rfl) ?_
      refine rl rfl w0 rfl (bx_ld1 tok rfl rfl rfl rfl rfl) ?_
      obtain ⟨v2, hv2, h0⟩ := bnd h0
      refine rs rfl w0 rfl (c_call 5 (l_eqLeapRuleS_c hv2) rfl rfl rfl) ?_
      refine rp rfl w0 rfl (pu_not rfl) ?_
      refine ra_nil ?_
      refine then_n ?_
      refine aw_ifB h0 rfl (fun hc h0 => ?_) (fun hc h0 => ?_)
      · skip
        refine aw_seq ?_
        refine aw_regionA (is := [0]) rfl ?_
        refine rp rfl w0 rfl (pu_assign (r := .d _) rfl) ?_
        refine ra_nil ?_
        refine then_n ?_
        refine aw_ret ?_
        refine then_r ?_
        cases h0
        exact ret0_ (rs := [.tmp 4]) rfl
      · skip
        refine aw_skip ?_
        refine then_n ?_
        refine aw_seq ?_
        refine aw_seq ?_
        refine aw_regionA (is := [0, 1, 2, 3, 4]) rfl ?_
        refine rl rfl w0 rfl (bx_fa tok rfl rfl rfl rfl rfl rfl rfl) ?_
        refine rl rfl w0 rfl (bx_ld1 tok rfl rfl rfl rfl rfl) ?_
        refine rl rfl w0 rfl (bx_fa tok rfl rfl rfl rfl rfl rfl rfl) ?_
        refine rl rfl w0 rfl (bx_ld1 tok rfl rfl rfl rfl rfl) ?_
        refine rp rfl w0 rfl (pu_neq rfl rfl) ?_
        refine ra_nil ?_
        refine then_n ?_
        refine aw_if h0 rfl (fun hc h0 => ?_) (fun hc h0 => ?_)
        · skip
          refine aw_seq ?_
          refine aw_regionA (is := [0]) rfl ?_
          refine rp rfl w0 rfl (pu_assign (r := .d _) rfl) ?_
          refine ra_nil ?_
          refine then_n ?_
          refine aw_ret ?_
          refine then_r ?_
          cases h0
          exact ret0_ (rs := [.tmp 4]) rfl
        · skip
          refine aw_skip ?_
          refine then_n ?_
          refine aw_seq ?_
          refine aw_regionA (is := [0]) rfl ?_
          refine rp rfl w0 rfl (pu_assign (r := .d _) rfl) ?_
          refine ra_nil ?_
          refine then_n ?_
          refine aw_ret ?_
          cases h0
          exact ret0_ (rs := [.tmp 4]) rfl

theorem l_eqMovement_c {p0 : Movement_} {p1 : Movement_} {r : Bool} (h0 : l_eqMovement_m p0 p1 = some r) : FnC Try.prog 34 [] [.agg [.d (.v (.string p0.Name)), .d (.sl (List.map cArbor_ p0.Works.Arbors)), .d (.sl (List.map cMesh_ p0.Works.Meshes)), .d (.v (.int .i64 p0.Minute)), .d (.v (.int .i64 p0.Hour)), .d (.v (.int .i64 p0.Escape)), .d (.v (.int .i64 p0.Teeth)), .d (.v (.int .i64 p0.Beats)), .d (.v (.string p0.Calendar.Name)), .d (.sl (List.map cMonth_ p0.Calendar.Months)), .d (.sl (List.map cLeapRule_ p0.Calendar.Rules)), .d (.v (.int .i64 p0.Calendar.Week)), .d (.sl (List.map cI p0.Cam)), .d (.v (.int .i64 p0.Strike))], .agg [.d (.v (.string p1.Name)), .d (.sl (List.map cArbor_ p1.Works.Arbors)), .d (.sl (List.map cMesh_ p1.Works.Meshes)), .d (.v (.int .i64 p1.Minute)), .d (.v (.int .i64 p1.Hour)), .d (.v (.int .i64 p1.Escape)), .d (.v (.int .i64 p1.Teeth)), .d (.v (.int .i64 p1.Beats)), .d (.v (.string p1.Calendar.Name)), .d (.sl (List.map cMonth_ p1.Calendar.Months)), .d (.sl (List.map cLeapRule_ p1.Calendar.Rules)), .d (.v (.int .i64 p1.Calendar.Week)), .d (.sl (List.map cI p1.Cam)), .d (.v (.int .i64 p1.Strike))]] [] (.d (.v (.bool r))) := by
  refine fnc_intro (T := tt) (N := 58) tok Try.func34 rfl rfl (by kernel_rfl) rfl rfl ?_
  unfold l_eqMovement_m at h0
  refine aw_seq ?_
  refine aw_regionA (is := [0, 1, 2]) rfl ?_
  refine rs rfl w0 rfl (st_box 3 (cs := _ :: _) rfl rfl rfl) ?_
  refine rs rfl w0 rfl (st_box 4 (cs := _ :: _) rfl rfl rfl) ?_
  refine rp rfl w0 rfl (pu_assign (r := .d _) rfl) ?_
  refine ra_nil ?_
  refine then_n ?_
  refine aw_seq ?_
  refine aw_seq ?_
  refine aw_regionA (is := [0, 1, 2, 3, 4]) rfl ?_
  refine rl rfl w0 rfl (bx_fa tok rfl rfl rfl rfl rfl rfl rfl) ?_
  refine rl rfl w0 rfl (bx_ld1 tok rfl rfl rfl rfl rfl) ?_
  refine rl rfl w0 rfl (bx_fa tok rfl rfl rfl rfl rfl rfl rfl) ?_
  refine rl rfl w0 rfl (bx_ld1 tok rfl rfl rfl rfl rfl) ?_
  refine rp rfl w0 rfl (pu_sneq rfl rfl) ?_
  refine ra_nil ?_
  refine then_n ?_
  refine aw_if h0 rfl (fun hc h0 => ?_) (fun hc h0 => ?_)
  · skip
    refine aw_seq ?_
    refine aw_regionA (is := [0]) rfl ?_
    refine rp rfl w0 rfl (pu_assign (r := .d _) rfl) ?_
    refine ra_nil ?_
    refine then_n ?_
    refine aw_ret ?_
    refine then_r ?_
    cases h0
    exact ret0_ (rs := [.tmp 4]) rfl
  · skip
    refine aw_skip ?_
    refine then_n ?_
    refine aw_seq ?_
    refine aw_seq ?_
    refine aw_regionA (is := [0, 1, 2, 3, 4, 5]) rfl ?_
    refine rl rfl w0 rfl (bx_fa tok rfl rfl rfl rfl rfl rfl rfl) ?_
    refine rl rfl w0 rfl (bx_ldN tok rfl rfl rfl rfl) ?_
    refine rl rfl w0 rfl (bx_fa tok rfl rfl rfl rfl rfl rfl rfl) ?_
    refine rl rfl w0 rfl (bx_ldN tok rfl rfl rfl rfl) ?_
    obtain ⟨v1, hv1, h0⟩ := bnd h0
    refine rs rfl w0 rfl (c_call 5 (l_eqWorks_c hv1) rfl rfl rfl) ?_
    refine rp rfl w0 rfl (pu_not rfl) ?_
    refine ra_nil ?_
    refine then_n ?_
    refine aw_ifB h0 rfl (fun hc h0 => ?_) (fun hc h0 => ?_)
    · skip
      refine aw_seq ?_
      refine aw_regionA (is := [0]) rfl ?_
      refine rp rfl w0 rfl (pu_assign (r := .d _) rfl) ?_
      refine ra_nil ?_
      refine then_n ?_
      refine aw_ret ?_
      refine then_r ?_
      cases h0
      exact ret0_ (rs := [.tmp 4]) rfl
    · skip
      refine aw_skip ?_
      refine then_n ?_
      refine aw_seq ?_
      refine aw_seq ?_
      refine aw_regionA (is := [0, 1, 2, 3, 4]) rfl ?_
      refine rl rfl w0 rfl (bx_fa tok rfl rfl rfl rfl rfl rfl rfl) ?_
      refine rl rfl w0 rfl (bx_ld1 tok rfl rfl rfl rfl rfl) ?_
      refine rl rfl w0 rfl (bx_fa tok rfl rfl rfl rfl rfl rfl rfl) ?_
      refine rl rfl w0 rfl (bx_ld1 tok rfl rfl rfl rfl rfl) ?_
      refine rp rfl w0 rfl (pu_neq rfl rfl) ?_
      refine ra_nil ?_
      refine then_n ?_
      refine aw_if h0 rfl (fun hc h0 => ?_) (fun hc h0 => ?_)
      · skip
        refine aw_seq ?_
        refine aw_regionA (is := [0]) rfl ?_
        refine rp rfl w0 rfl (pu_assign (r := .d _) rfl) ?_
        refine ra_nil ?_
        refine then_n ?_
        refine aw_ret ?_
        refine then_r ?_
        cases h0
        exact ret0_ (rs := [.tmp 4]) rfl
      · skip
        refine aw_skip ?_
        refine then_n ?_
        refine aw_seq ?_
        refine aw_seq ?_
        refine aw_regionA (is := [0, 1, 2, 3, 4]) rfl ?_
        refine rl rfl w0 rfl (bx_fa tok rfl rfl rfl rfl rfl rfl rfl) ?_
        refine rl rfl w0 rfl (bx_ld1 tok rfl rfl rfl rfl rfl) ?_
        refine rl rfl w0 rfl (bx_fa tok rfl rfl rfl rfl rfl rfl rfl) ?_
        refine rl rfl w0 rfl (bx_ld1 tok rfl rfl rfl rfl rfl) ?_
        refine rp rfl w0 rfl (pu_neq rfl rfl) ?_
        refine ra_nil ?_
        refine then_n ?_
        refine aw_if h0 rfl (fun hc h0 => ?_) (fun hc h0 => ?_)
        · skip
          refine aw_seq ?_
          refine aw_regionA (is := [0]) rfl ?_
          refine rp rfl w0 rfl (pu_assign (r := .d _) rfl) ?_
          refine ra_nil ?_
          refine then_n ?_
          refine aw_ret ?_
          refine then_r ?_
          cases h0
          exact ret0_ (rs := [.tmp 4]) rfl
        · skip
          refine aw_skip ?_
          refine then_n ?_
          refine aw_seq ?_
          refine aw_seq ?_
          refine aw_regionA (is := [0, 1, 2, 3, 4]) rfl ?_
          refine rl rfl w0 rfl (bx_fa tok rfl rfl rfl rfl rfl rfl rfl) ?_
          refine rl rfl w0 rfl (bx_ld1 tok rfl rfl rfl rfl rfl) ?_
          refine rl rfl w0 rfl (bx_fa tok rfl rfl rfl rfl rfl rfl rfl) ?_
          refine rl rfl w0 rfl (bx_ld1 tok rfl rfl rfl rfl rfl) ?_
          refine rp rfl w0 rfl (pu_neq rfl rfl) ?_
          refine ra_nil ?_
          refine then_n ?_
          refine aw_if h0 rfl (fun hc h0 => ?_) (fun hc h0 => ?_)
          · skip
            refine aw_seq ?_
            refine aw_regionA (is := [0]) rfl ?_
            refine rp rfl w0 rfl (pu_assign (r := .d _) rfl) ?_
            refine ra_nil ?_
            refine then_n ?_
            refine aw_ret ?_
            refine then_r ?_
            cases h0
            exact ret0_ (rs := [.tmp 4]) rfl
          · skip
            refine aw_skip ?_
            refine then_n ?_
            refine aw_seq ?_
            refine aw_seq ?_
            refine aw_regionA (is := [0, 1, 2, 3, 4]) rfl ?_
            refine rl rfl w0 rfl (bx_fa tok rfl rfl rfl rfl rfl rfl rfl) ?_
            refine rl rfl w0 rfl (bx_ld1 tok rfl rfl rfl rfl rfl) ?_
            refine rl rfl w0 rfl (bx_fa tok rfl rfl rfl rfl rfl rfl rfl) ?_
            refine rl rfl w0 rfl (bx_ld1 tok rfl rfl rfl rfl rfl) ?_
            refine rp rfl w0 rfl (pu_neq rfl rfl) ?_
            refine ra_nil ?_
            refine then_n ?_
            refine aw_if h0 rfl (fun hc h0 => ?_) (fun hc h0 => ?_)
            · skip
              refine aw_seq ?_
              refine aw_regionA (is := [0]) rfl ?_
              refine rp rfl w0 rfl (pu_assign (r := .d _) rfl) ?_
              refine ra_nil ?_
              refine then_n ?_
              refine aw_ret ?_
              refine then_r ?_
              cases h0
              exact ret0_ (rs := [.tmp 4]) rfl
            · skip
              refine aw_skip ?_
              refine then_n ?_
              refine aw_seq ?_
              refine aw_seq ?_
              refine aw_regionA (is := [0, 1, 2, 3, 4]) rfl ?_
              refine rl rfl w0 rfl (bx_fa tok rfl rfl rfl rfl rfl rfl rfl) ?_
              refine rl rfl w0 rfl (bx_ld1 tok rfl rfl rfl rfl rfl) ?_
              refine rl rfl w0 rfl (bx_fa tok rfl rfl rfl rfl rfl rfl rfl) ?_
              refine rl rfl w0 rfl (bx_ld1 tok rfl rfl rfl rfl rfl) ?_
              refine rp rfl w0 rfl (pu_neq rfl rfl) ?_
              refine ra_nil ?_
              refine then_n ?_
              refine aw_if h0 rfl (fun hc h0 => ?_) (fun hc h0 => ?_)
              · skip
                refine aw_seq ?_
                refine aw_regionA (is := [0]) rfl ?_
                refine rp rfl w0 rfl (pu_assign (r := .d _) rfl) ?_
                refine ra_nil ?_
                refine then_n ?_
                refine aw_ret ?_
                refine then_r ?_
                cases h0
                exact ret0_ (rs := [.tmp 4]) rfl
              · skip
                refine aw_skip ?_
                refine then_n ?_
                refine aw_seq ?_
                refine aw_seq ?_
                refine aw_regionA (is := [0, 1, 2, 3, 4, 5]) rfl ?_
                refine rl rfl w0 rfl (bx_fa tok rfl rfl rfl rfl rfl rfl rfl) ?_
                refine rl rfl w0 rfl (bx_ldN tok rfl rfl rfl rfl) ?_
                refine rl rfl w0 rfl (bx_fa tok rfl rfl rfl rfl rfl rfl rfl) ?_
                refine rl rfl w0 rfl (bx_ldN tok rfl rfl rfl rfl) ?_
                obtain ⟨v2, hv2, h0⟩ := bnd h0
                refine rs rfl w0 rfl (c_call 5 (l_eqCalendar_c hv2) rfl rfl rfl) ?_
                refine rp rfl w0 rfl (pu_not rfl) ?_
                refine ra_nil ?_
                refine then_n ?_
                refine aw_ifB h0 rfl (fun hc h0 => ?_) (fun hc h0 => ?_)
                · skip
                  refine aw_seq ?_
                  refine aw_regionA (is := [0]) rfl ?_
                  refine rp rfl w0 rfl (pu_assign (r := .d _) rfl) ?_
                  refine ra_nil ?_
                  refine then_n ?_
                  refine aw_ret ?_
                  refine then_r ?_
                  cases h0
                  exact ret0_ (rs := [.tmp 4]) rfl
                · skip
                  refine aw_skip ?_
                  refine then_n ?_
                  refine aw_seq ?_
                  refine aw_seq ?_
                  refine aw_regionA (is := [0, 1, 2, 3, 4, 5]) rfl ?_
                  refine rl rfl w0 rfl (bx_fa tok rfl rfl rfl rfl rfl rfl rfl) ?_
                  refine rl rfl w0 rfl (bx_ld1 tok rfl rfl rfl rfl rfl) ?_
                  refine rl rfl w0 rfl (bx_fa tok rfl rfl rfl rfl rfl rfl rfl) ?_
                  refine rl rfl w0 rfl (bx_ld1 tok rfl rfl rfl rfl rfl) ?_
                  obtain ⟨v3, hv3, h0⟩ := bnd h0
                  refine rs rfl w0 rfl (c_call 5 (l_eqInt64S_c hv3) rfl rfl rfl) ?_
                  refine rp rfl w0 rfl (pu_not rfl) ?_
                  refine ra_nil ?_
                  refine then_n ?_
                  refine aw_ifB h0 rfl (fun hc h0 => ?_) (fun hc h0 => ?_)
                  · skip
                    refine aw_seq ?_
                    refine aw_regionA (is := [0]) rfl ?_
                    refine rp rfl w0 rfl (pu_assign (r := .d _) rfl) ?_
                    refine ra_nil ?_
                    refine then_n ?_
                    refine aw_ret ?_
                    refine then_r ?_
                    cases h0
                    exact ret0_ (rs := [.tmp 4]) rfl
                  · skip
                    refine aw_skip ?_
                    refine then_n ?_
                    refine aw_seq ?_
                    refine aw_seq ?_
                    refine aw_regionA (is := [0, 1, 2, 3, 4]) rfl ?_
                    refine rl rfl w0 rfl (bx_fa tok rfl rfl rfl rfl rfl rfl rfl) ?_
                    refine rl rfl w0 rfl (bx_ld1 tok rfl rfl rfl rfl rfl) ?_
                    refine rl rfl w0 rfl (bx_fa tok rfl rfl rfl rfl rfl rfl rfl) ?_
                    refine rl rfl w0 rfl (bx_ld1 tok rfl rfl rfl rfl rfl) ?_
                    refine rp rfl w0 rfl (pu_neq rfl rfl) ?_
                    refine ra_nil ?_
                    refine then_n ?_
                    refine aw_if h0 rfl (fun hc h0 => ?_) (fun hc h0 => ?_)
                    · skip
                      refine aw_seq ?_
                      refine aw_regionA (is := [0]) rfl ?_
                      refine rp rfl w0 rfl (pu_assign (r := .d _) rfl) ?_
                      refine ra_nil ?_
                      refine then_n ?_
                      refine aw_ret ?_
                      refine then_r ?_
                      cases h0
                      exact ret0_ (rs := [.tmp 4]) rfl
                    · skip
                      refine aw_skip ?_
                      refine then_n ?_
                      refine aw_seq ?_
                      refine aw_regionA (is := [0]) rfl ?_
                      refine rp rfl w0 rfl (pu_assign (r := .d _) rfl) ?_
                      refine ra_nil ?_
                      refine then_n ?_
                      refine aw_ret ?_
                      cases h0
                      exact ret0_ (rs := [.tmp 4]) rfl

theorem l_FnExactWheelCount_c {p0 : Movement_} {r : Bool} (h0 : l_FnExactWheelCount_m p0 = some r) : FnC Try.prog 9 [] [.agg [.d (.v (.string p0.Name)), .d (.sl (List.map cArbor_ p0.Works.Arbors)), .d (.sl (List.map cMesh_ p0.Works.Meshes)), .d (.v (.int .i64 p0.Minute)), .d (.v (.int .i64 p0.Hour)), .d (.v (.int .i64 p0.Escape)), .d (.v (.int .i64 p0.Teeth)), .d (.v (.int .i64 p0.Beats)), .d (.v (.string p0.Calendar.Name)), .d (.sl (List.map cMonth_ p0.Calendar.Months)), .d (.sl (List.map cLeapRule_ p0.Calendar.Rules)), .d (.v (.int .i64 p0.Calendar.Week)), .d (.sl (List.map cI p0.Cam)), .d (.v (.int .i64 p0.Strike))]] [] (.d (.v (.bool r))) := by
  refine fnc_intro (T := tt) (N := 49) tok Try.func9 rfl rfl (by kernel_rfl) rfl rfl ?_
  unfold l_FnExactWheelCount_m at h0
  refine aw_seq ?_
  refine aw_regionA (is := [0, 1]) rfl ?_
  refine rs rfl w0 rfl (st_box 3 (cs := _ :: _) rfl rfl rfl) ?_
  refine rp rfl w0 rfl (pu_assign (r := .d _) rfl) ?_
  refine ra_nil ?_
  refine then_n ?_
  refine aw_seq ?_
  refine aw_regionA (is := [0]) rfl ?_
  refine rp rfl w0 rfl (pu_assign (r := .d _) rfl) ?_
  refine ra_nil ?_
  refine then_n ?_
  refine aw_seq ?_
  refine aw_regionA (is := [0, 1, 2, 3]) rfl ?_
  refine rl rfl w0 rfl (bx_ldN tok rfl rfl rfl rfl) ?_
  refine rp rfl w0 rfl (pu_move (r := .d _) rfl) ?_
  obtain ⟨v1, hv1, h0⟩ := bnd h0
  refine rs rfl w0 rfl (c_call 4 (l_szMovement_c hv1) rfl rfl rfl) ?_
  refine rp rfl w0 rfl (pu_assign (r := .d _) rfl) ?_
  refine ra_nil ?_
  refine then_n ?_
  refine aw_seq ?_
  refine aw_seq ?_
  refine aw_regionA (is := [0, 1]) rfl ?_
  refine rp rfl w0 rfl (pu_move (r := .d _) rfl) ?_
  refine rp rfl w0 rfl (pu_lss rfl rfl) ?_
  refine ra_nil ?_
  refine then_n ?_
  refine aw_if h0 rfl (fun hc h0 => ?_) (fun hc h0 => ?_)
  · skip
    refine aw_seq ?_
    refine aw_regionA (is := [0]) rfl ?_
    refine rp rfl w0 rfl (pu_assign (r := .d _) rfl) ?_
    refine ra_nil ?_
    refine then_n ?_
    refine aw_ret ?_
    refine then_r ?_
    cases h0
    exact ret0_ (rs := [.tmp 2]) rfl
  · skip
    refine aw_skip ?_
    refine then_n ?_
    refine aw_seq ?_
    refine aw_regionA (is := [0, 1, 2, 3, 4, 5, 6, 7, 8, 9]) rfl ?_
    refine rl rfl w0 rfl (bx_ldN tok rfl rfl rfl rfl) ?_
    obtain ⟨v2, hv2, h0⟩ := bnd h0
    refine rs rfl w0 rfl (c_call 4 (l_toMovement_c hv2) rfl rfl rfl) ?_
    obtain ⟨v3, hv3, h0⟩ := bnd h0
    refine rs rfl w0 rfl (c_callV 9 (s_WheelCount_c hv3) rfl rfl) ?_
    refine rp rfl w0 rfl (pu_move (r := .tup _) rfl) ?_
    refine rp rfl w0 rfl (pu_extract rfl rfl) ?_
    refine rp rfl w0 rfl (pu_extract rfl rfl) ?_
    refine rp rfl w0 rfl (pu_extract rfl rfl) ?_
    refine rp rfl w0 rfl (pu_assign (r := .d _) rfl) ?_
    refine rp rfl w0 rfl (pu_assign (r := .d _) rfl) ?_
    refine rp rfl w0 rfl (pu_assign (r := .d _) rfl) ?_
    refine ra_nil ?_
    refine then_n ?_
    refine aw_seq ?_
    refine aw_regionA (is := [0, 1, 2, 3]) rfl ?_
    refine rl rfl w0 rfl (bx_ldN tok rfl rfl rfl rfl) ?_
    obtain ⟨v4, hv4, h0⟩ := bnd h0
    refine rs rfl w0 rfl (c_call 9 (l_toMovement_c hv4) rfl rfl rfl) ?_
    refine rs rfl w0 rfl (st_alloc 14 (cs := [.d (.v (.string (⟨#[]⟩ : ByteArray))), .d (.v (.slice none 0 0)), .d (.v (.slice none 0 0)), .d (.v (.int .i64 0)), .d (.v (.int .i64 0)), .d (.v (.int .i64 0)), .d (.v (.int .i64 0)), .d (.v (.int .i64 0)), .d (.v (.string (⟨#[]⟩ : ByteArray))), .d (.v (.slice none 0 0)), .d (.v (.slice none 0 0)), .d (.v (.int .i64 0)), .d (.v (.slice none 0 0)), .d (.v (.int .i64 0))]) tok rfl rfl rfl) ?_
    refine rw0 rfl w0 (bx_st (cs := _ :: _) tok rfl rfl rfl rfl rfl rfl rfl) ?_
    refine ra_nil ?_
    refine then_n ?_
    refine aw_seq ?_
    refine aw_regionA (is := [0, 1, 2, 3, 4, 5, 6, 7, 8]) rfl ?_
    refine rl rfl w0 rfl (bx_ldN tok rfl rfl rfl rfl) ?_
    obtain ⟨v5, hv5, h0⟩ := bnd h0
    refine rs rfl w0 rfl (c_callV 15 (i_WheelCount_c hv5) rfl rfl) ?_
    refine rp rfl w0 rfl (pu_move (r := .tup _) rfl) ?_
    refine rp rfl w0 rfl (pu_extract rfl rfl) ?_
    refine rp rfl w0 rfl (pu_extract rfl rfl) ?_
    refine rp rfl w0 rfl (pu_extract rfl rfl) ?_
    refine rp rfl w0 rfl (pu_assign (r := .d _) rfl) ?_
    refine rp rfl w0 rfl (pu_assign (r := .d _) rfl) ?_
    refine rp rfl w0 rfl (pu_assign (r := .d _) rfl) ?_
    refine ra_nil ?_
    refine then_n ?_
    refine aw_seq ?_
    obtain ⟨v6, h1, h0⟩ := bnd h0
    refine aw_cut ⟨updA (updA (updA ((fun _ => .dead)) 1 (.ptr 3 0 1 0 0)) 7 (.ptr 4 0 1 0 0)) 43 (.d (.v (.bool v6))), lks [.no, .no, .no, .live [⟨65, 14, .av [[.d (.v (.string p0.Name)), .d (.sl (List.map cArbor_ p0.Works.Arbors)), .d (.sl (List.map cMesh_ p0.Works.Meshes)), .d (.v (.int .i64 p0.Minute)), .d (.v (.int .i64 p0.Hour)), .d (.v (.int .i64 p0.Escape)), .d (.v (.int .i64 p0.Teeth)), .d (.v (.int .i64 p0.Beats)), .d (.v (.string p0.Calendar.Name)), .d (.sl (List.map cMonth_ p0.Calendar.Months)), .d (.sl (List.map cLeapRule_ p0.Calendar.Rules)), .d (.v (.int .i64 p0.Calendar.Week)), .d (.sl (List.map cI p0.Cam)), .d (.v (.int .i64 p0.Strike))]]⟩], .live [⟨77, 14, .av [[.d (.v (.string v4.Name)), .own 5 0 (v4.Works.Arbors).length, .own 6 0 (v4.Works.Meshes).length, .d (.v (.int .i64 v4.Minute)), .d (.v (.int .i64 v4.Hour)), .d (.v (.int .i64 v4.Escape)), .d (.v (.int .i64 v4.Teeth)), .d (.v (.int .i64 v4.Beats)), .d (.v (.string v4.Calendar.Name)), .own 7 0 (v4.Calendar.Months).length, .own 8 0 (v4.Calendar.Rules).length, .d (.v (.int .i64 v4.Calendar.Week)), .own 9 0 (v4.Cam).length, .d (.v (.int .i64 v4.Strike))]]⟩], .live [⟨151, 2, .data (List.map cArbor_ v4.Works.Arbors)⟩], .live [⟨168, 4, .data (List.map cMesh_ v4.Works.Meshes)⟩], .live [⟨170, 3, .data (List.map cMonth_ v4.Calendar.Months)⟩], .live [⟨172, 3, .data (List.map cLeapRule_ v4.Calendar.Rules)⟩], .live [⟨2, 1, .data (List.map cI v4.Cam)⟩]]⟩ ?_ ?_
    · skip
      refine aw_regionA (is := [0, 1, 2, 3, 4, 5, 6, 7, 8, 9, 10, 11, 12]) rfl ?_
      refine rp rfl w0 rfl (pu_move (r := .d _) rfl) ?_
      refine rp rfl w0 rfl (pu_move (r := .d _) rfl) ?_
      refine rp rfl w0 rfl (pu_neq rfl rfl) ?_
      refine rp rfl w0 rfl (pu_move (r := .d _) rfl) ?_
      refine ra_if (u := 34) h1 rfl (fun hc h1 => ?_) (fun hc h1 => ?_)
      · skip
        refine rk rfl rfl rfl (by first | exact .inl rfl | exact .inr rfl) rfl ?_
        refine rk rfl rfl rfl (by first | exact .inl rfl | exact .inr rfl) rfl ?_
        refine rk rfl rfl rfl (by first | exact .inl rfl | exact .inr rfl) rfl ?_
        refine rp rfl w0 rfl (pu_pick_t (r := .d _) rfl rfl) ?_
        refine rp rfl w0 rfl (pu_move (r := .d _) rfl) ?_
        refine rk rfl rfl rfl (by first | exact .inl rfl | exact .inr rfl) rfl ?_
        refine rk rfl rfl rfl (by first | exact .inl rfl | exact .inr rfl) rfl ?_
        refine rk rfl rfl rfl (by first | exact .inl rfl | exact .inr rfl) rfl ?_
        refine rp rfl w0 rfl (pu_pick_t (r := .d _) rfl rfl) ?_
        refine ra_nil ?_
        refine then_n ?_
        cases h1
        exact wk [0, 1, 2, 3, 14, 9, 10, 11, 12, 13]
      · skip
        refine rp rfl (w1 rfl rfl rfl) rfl (pu_move (r := .d _) rfl) ?_
        refine rp rfl (w1 rfl rfl rfl) rfl (pu_move (r := .d _) rfl) ?_
        refine rp rfl (w1 rfl rfl rfl) rfl (pu_neq rfl rfl) ?_
        refine rp rfl w0 rfl (pu_pick_f (r := .d _) rfl rfl) ?_
        refine rp rfl w0 rfl (pu_move (r := .d _) rfl) ?_
        refine ra_if (u := 39) h1 rfl (fun hc h1 => ?_) (fun hc h1 => ?_)
        · skip
          refine rk rfl rfl rfl (by first | exact .inl rfl | exact .inr rfl) rfl ?_
          refine rk rfl rfl rfl (by first | exact .inl rfl | exact .inr rfl) rfl ?_
          refine rk rfl rfl rfl (by first | exact .inl rfl | exact .inr rfl) rfl ?_
          refine rp rfl w0 rfl (pu_pick_t (r := .d _) rfl rfl) ?_
          refine ra_nil ?_
          refine then_n ?_
          cases h1
          exact wk [0, 1, 2, 3, 14, 9, 10, 11, 12, 13]
        · skip
          refine rp rfl (w1 rfl rfl rfl) rfl (pu_move (r := .d _) rfl) ?_
          refine rp rfl (w1 rfl rfl rfl) rfl (pu_move (r := .d _) rfl) ?_
          refine rp rfl (w1 rfl rfl rfl) rfl (pu_neq rfl rfl) ?_
          refine rp rfl w0 rfl (pu_pick_f (r := .d _) rfl rfl) ?_
          refine ra_nil ?_
          refine then_n ?_
          cases h1
          exact wk [0, 1, 2, 3, 14, 9, 10, 11, 12, 13]
    · skip
      refine aw_ifB h0 rfl (fun hc h0 => ?_) (fun hc h0 => ?_)
      · skip
        refine aw_seq ?_
        refine aw_regionA (is := [0]) rfl ?_
        refine rp rfl w0 rfl (pu_assign (r := .d _) rfl) ?_
        refine ra_nil ?_
        refine then_n ?_
        refine aw_ret ?_
        refine then_r ?_
        cases h0
        exact ret0_ (rs := [.tmp 2]) rfl
      · skip
        refine aw_skip ?_
        refine then_n ?_
        refine aw_seq ?_
        refine aw_seq ?_
        refine aw_region_draw (is := [0, 1, 2, 3, 4]) [0, 0, 2, 7, 15] follows (by kernel_rfl) ?_
        refine rt_lk rfl w0 rfl (bx_ldN tok rfl rfl rfl rfl) rfl rfl rfl ?_
        refine rt_lk rfl w0 rfl (bx_ldN tok rfl rfl rfl rfl) rfl rfl rfl ?_
        obtain ⟨v7, hv7, h0⟩ := bnd h0
        refine rt_c rfl w0 rfl (b_call 10 (l_toMovement_c hv7) rfl rfl rfl) ?_
        obtain ⟨v8, hv8, h0⟩ := bnd h0
        refine rt_c rfl w0 rfl (b_callV 15 (l_eqMovement_c hv8) rfl rfl) ?_
        refine rt_p rfl w0 rfl (pu_not rfl) ?_
        refine rt_nil ?_
        refine ⟨by kernel_rfl, ?_⟩
        refine then_n ?_
        refine aw_ifB h0 rfl (fun hc h0 => ?_) (fun hc h0 => ?_)
        · skip
          refine aw_seq ?_
          refine aw_regionA (is := [0]) rfl ?_
          refine rp rfl w0 rfl (pu_assign (r := .d _) rfl) ?_
          refine ra_nil ?_
          refine then_n ?_
          refine aw_ret ?_
          refine then_r ?_
          cases h0
          exact ret0_ (rs := [.tmp 2]) rfl
        · skip
          refine aw_skip ?_
          refine then_n ?_
          refine aw_seq ?_
          refine aw_regionA (is := [0]) rfl ?_
          refine rp rfl w0 rfl (pu_assign (r := .d _) rfl) ?_
          refine ra_nil ?_
          refine then_n ?_
          refine aw_ret ?_
          cases h0
          exact ret0_ (rs := [.tmp 2]) rfl

end Go.Proofs.Ytkgeenglafchhaa
