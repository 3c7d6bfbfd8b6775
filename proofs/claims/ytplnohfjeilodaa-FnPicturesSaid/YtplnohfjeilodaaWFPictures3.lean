/- walks -/
import Derived.Test.YtplnohfjeilodaaXM
import Derived.Test.YtplnohfjeilodaaTab
import Derived.Test.YtplnohfjeilodaaProg
import Derived.Test.YtplnohfjeilodaaWFPictures2
namespace Go.Proofs.Ytplnohfjeilodaa
open Go.RowKit
set_option linter.unusedVariables false
set_option maxRecDepth 100000
set_option maxHeartbeats 2000000
theorem l_FnPictures_c {p0 : List Int} {r : Bool} (h0 : l_FnPictures_m p0 = some r) : FnC Try.prog 13 [] [.d (.sl (List.map cU8 p0))] [] (.d (.v (.bool r))) := by
  refine fnc_intro (T := tt) (N := 194) tok Try.func13 rfl rfl (by kernel_rfl) rfl rfl ?_
  unfold l_FnPictures_m at h0
  refine aw_seq ?_
  refine aw_regionA (is := [0]) rfl ?_
  refine rp rfl w0 rfl (pu_assign (r := .d _) rfl) ?_
  refine ra_nil ?_
  refine then_n ?_
  refine aw_seq ?_
  refine aw_seq ?_
  refine aw_regionA (is := [0, 1]) rfl ?_
  refine rp rfl w0 rfl (pu_move (r := .d _) rfl) ?_
  obtain ⟨v1, hv1, h0⟩ := bnd h0
  refine rs rfl w0 rfl (c_call 3 (l_f6big_c hv1) rfl rfl rfl) ?_
  refine ra_nil ?_
  refine then_n ?_
  refine aw_ifB h0 rfl (fun hc h0 => ?_) (fun hc h0 => ?_)
  · skip
    refine aw_seq ?_
    refine aw_regionA (is := [0]) rfl ?_
    refine rp rfl w0 rfl (pu_assign (r := .d _) rfl) ?_
    refine ra_nil ?_
    refine then_n ?_
    refine aw_ret ?_
    refine then_r ?_
    cases h0
    exact ret0_ (rs := [.tmp 2]) rfl
  · skip
    refine aw_skip ?_
    refine then_n ?_
    refine aw_seq ?_
    refine aw_regionA (is := [0, 1, 2, 3]) rfl ?_
    refine rp rfl w0 rfl (pu_move (r := .d _) rfl) ?_
    obtain ⟨v2, hv2, h0⟩ := bnd h0
    refine rs rfl w0 rfl (c_call 3 (s_DrawGearDrawing_c hv2) rfl rfl rfl) ?_
    refine rs rfl w0 rfl (st_alloc 3 (cs := [.d (.v (.int .i64 0)), .d (.v (.int .i64 0)), .d (.v (.int .i64 0)), .d (.v (.int .i64 0)), .d (.v (.int .i64 0)), .d (.v (.int .i64 0))]) tok rfl rfl rfl) ?_
    refine rw0 rfl w0 (bx_st (cs := _ :: _) tok rfl rfl rfl rfl rfl rfl rfl) ?_
    refine ra_nil ?_
    refine then_n ?_
    refine aw_seq ?_
    refine aw_regionA (is := [0, 1, 2, 3, 4, 5, 6, 7]) rfl ?_
    refine rl rfl w0 rfl (bx_ldN tok rfl rfl rfl rfl) ?_
    obtain ⟨v3, hv3, h0⟩ := bnd h0
    refine rs rfl w0 rfl (c_call 4 (i_GearDrawing_c hv3) rfl rfl rfl) ?_
    refine rp rfl w0 rfl (pu_move (r := .tup _) rfl) ?_
    refine rp rfl w0 rfl (pu_extract rfl rfl) ?_
    refine rp rfl w0 rfl (pu_extract rfl rfl) ?_
    refine rs rfl w0 rfl (st_alloc 5 (cs := [.d (.v (.slice none 0 0))]) tok rfl rfl rfl) ?_
    refine rw0 rfl w0 (bx_st (cs := _ :: _) tok rfl rfl rfl rfl rfl rfl rfl) ?_
    refine rp rfl w0 rfl (pu_assign (r := .d _) rfl) ?_
    refine ra_nil ?_
    refine then_n ?_
    refine aw_seq ?_
    refine aw_regionA (is := [0, 1, 2, 3, 4, 5, 6, 7]) rfl ?_
    refine rl rfl w0 rfl (bx_ldN tok rfl rfl rfl rfl) ?_
    obtain ⟨v4, hv4, h0⟩ := bnd h0
    refine rs rfl w0 rfl (c_call 6 (s_GearDrawing_c hv4) rfl rfl rfl) ?_
    refine rp rfl w0 rfl (pu_move (r := .tup _) rfl) ?_
    refine rp rfl w0 rfl (pu_extract rfl rfl) ?_
    refine rp rfl w0 rfl (pu_extract rfl rfl) ?_
    refine rs rfl w0 rfl (st_alloc 7 (cs := [.d (.v (.slice none 0 0))]) tok rfl rfl rfl) ?_
    refine rw0 rfl w0 (bx_st (cs := _ :: _) tok rfl rfl rfl rfl rfl rfl rfl) ?_
    refine rp rfl w0 rfl (pu_assign (r := .d _) rfl) ?_
    refine ra_nil ?_
    refine then_n ?_
    refine aw_seq ?_
    refine aw_regionA (is := [0, 1, 2, 3, 4, 5, 6]) rfl ?_
    refine rp rfl w0 rfl (pu_move (r := .d _) rfl) ?_
    obtain ⟨v5, hv5, h0⟩ := bnd h0
    refine rs rfl w0 rfl (c_call 8 (s_DrawDialDrawing_c hv5) rfl rfl rfl) ?_
    refine rp rfl w0 rfl (pu_move (r := .tup _) rfl) ?_
    refine rp rfl w0 rfl (pu_extract rfl rfl) ?_
    refine rp rfl w0 rfl (pu_extract rfl rfl) ?_
    refine rp rfl w0 rfl (pu_assign (r := .d _) rfl) ?_
    refine rp rfl w0 rfl (pu_assign (r := .d _) rfl) ?_
    refine ra_nil ?_
    refine then_n ?_
    refine aw_seq ?_
    refine aw_regionA (is := [0, 1, 2, 3, 4, 5, 6, 7, 8]) rfl ?_
    refine rp rfl w0 rfl (pu_move (r := .d _) rfl) ?_
    refine rp rfl w0 rfl (pu_move (r := .d _) rfl) ?_
    obtain ⟨v6, hv6, h0⟩ := bnd h0
    refine rs rfl w0 rfl (c_call 8 (i_DialDrawing_c hv6) rfl rfl rfl) ?_
    refine rp rfl w0 rfl (pu_move (r := .tup _) rfl) ?_
    refine rp rfl w0 rfl (pu_extract rfl rfl) ?_
    refine rp rfl w0 rfl (pu_extract rfl rfl) ?_
    refine rs rfl w0 rfl (st_alloc 9 (cs := [.d (.v (.slice none 0 0))]) tok rfl rfl rfl) ?_
    refine rw0 rfl w0 (bx_st (cs := _ :: _) tok rfl rfl rfl rfl rfl rfl rfl) ?_
    refine rp rfl w0 rfl (pu_assign (r := .d _) rfl) ?_
    refine ra_nil ?_
    refine then_n ?_
    refine aw_seq ?_
    refine aw_regionA (is := [0, 1, 2, 3, 4, 5, 6, 7, 8]) rfl ?_
    refine rp rfl w0 rfl (pu_move (r := .d _) rfl) ?_
    refine rp rfl w0 rfl (pu_move (r := .d _) rfl) ?_
    obtain ⟨v7, hv7, h0⟩ := bnd h0
    refine rs rfl w0 rfl (c_call 10 (s_DialDrawing_c hv7) rfl rfl rfl) ?_
    refine rp rfl w0 rfl (pu_move (r := .tup _) rfl) ?_
    refine rp rfl w0 rfl (pu_extract rfl rfl) ?_
    refine rp rfl w0 rfl (pu_extract rfl rfl) ?_
    refine rs rfl w0 rfl (st_alloc 11 (cs := [.d (.v (.slice none 0 0))]) tok rfl rfl rfl) ?_
    refine rw0 rfl w0 (bx_st (cs := _ :: _) tok rfl rfl rfl rfl rfl rfl rfl) ?_
    refine rp rfl w0 rfl (pu_assign (r := .d _) rfl) ?_
    refine ra_nil ?_
    refine then_n ?_
    refine aw_seq ?_
    refine aw_regionA (is := [0, 1, 2, 3]) rfl ?_
    refine rp rfl w0 rfl (pu_move (r := .d _) rfl) ?_
    obtain ⟨v8, hv8, h0⟩ := bnd h0
    refine rs rfl w0 rfl (c_call 12 (s_DrawPlateDrawing_c hv8) rfl rfl rfl) ?_
    refine rs rfl w0 rfl (st_alloc 13 (cs := [.d (.v (.int .i64 0)), .d (.v (.int .i64 0)), .d (.v (.int .i64 0)), .d (.v (.int .i64 0)), .d (.v (.slice none 0 0))]) tok rfl rfl rfl) ?_
    refine rw0 rfl w0 (bx_st (cs := _ :: _) tok rfl rfl rfl rfl rfl rfl rfl) ?_
    refine ra_nil ?_
    refine then_n ?_
    refine aw_seq ?_
    refine aw_regionA (is := [0, 1, 2, 3, 4, 5, 6, 7]) rfl ?_
    refine rl rfl w0 rfl (bx_ldN tok rfl rfl rfl rfl) ?_
    obtain ⟨v9, hv9, h0⟩ := bnd h0
    refine rs rfl w0 rfl (c_callV 14 (i_PlateDrawing_c hv9) rfl rfl) ?_
    refine rp rfl w0 rfl (pu_move (r := .tup _) rfl) ?_
    refine rp rfl w0 rfl (pu_extract rfl rfl) ?_
    refine rp rfl w0 rfl (pu_extract rfl rfl) ?_
    refine rs rfl w0 rfl (st_alloc 15 (cs := [.d (.v (.slice none 0 0))]) tok rfl rfl rfl) ?_
    refine rw0 rfl w0 (bx_st (cs := _ :: _) tok rfl rfl rfl rfl rfl rfl rfl) ?_
    refine rp rfl w0 rfl (pu_assign (r := .d _) rfl) ?_
    refine ra_nil ?_
    refine then_n ?_
    refine aw_seq ?_
    refine aw_regionA (is := [0, 1, 2, 3, 4, 5, 6, 7]) rfl ?_
    refine rl rfl w0 rfl (bx_ldN tok rfl rfl rfl rfl) ?_
    obtain ⟨v10, hv10, h0⟩ := bnd h0
    refine rs rfl w0 rfl (c_callV 16 (s_PlateDrawing_c hv10) rfl rfl) ?_
    refine rp rfl w0 rfl (pu_move (r := .tup _) rfl) ?_
    refine rp rfl w0 rfl (pu_extract rfl rfl) ?_
    refine rp rfl w0 rfl (pu_extract rfl rfl) ?_
    refine rs rfl w0 rfl (st_alloc 17 (cs := [.d (.v (.slice none 0 0))]) tok rfl rfl rfl) ?_
    refine rw0 rfl w0 (bx_st (cs := _ :: _) tok rfl rfl rfl rfl rfl rfl rfl) ?_
    refine rp rfl w0 rfl (pu_assign (r := .d _) rfl) ?_
    refine ra_nil ?_
    refine then_n ?_
    refine aw_seq ?_
    obtain ⟨v14, h1, h0⟩ := bnd h0
    refine aw_cut ⟨updA (updA (updA (updA (updA (updA (updA (updA (updA (updA (updA ((fun _ => .dead)) 3 (.ptr 3 0 1 0 0)) 4 (.ptr 4 0 1 0 0)) 5 (.d (.v (.int .i64 v3.2)))) 6 (.ptr 5 0 1 0 0)) 9 (.d (.v (.int .i64 v5.2)))) 10 (.ptr 6 0 1 0 0)) 11 (.d (.v (.int .i64 v6.2)))) 14 (.ptr 7 0 1 0 0)) 15 (.ptr 8 0 1 0 0)) 16 (.d (.v (.int .i64 v9.2)))) 97 (.d (.v (.bool v14))), lks [.no, .no, .no, .live [⟨50, 6, .av [[.d (.v (.int .i64 v2.Teeth)), .d (.v (.int .i64 v2.Module)), .d (.v (.int .i64 v2.Addendum)), .d (.v (.int .i64 v2.Angle.Sin)), .d (.v (.int .i64 v2.Angle.Cos)), .d (.v (.int .i64 v2.Angle.Hyp))]]⟩], .live [⟨29, 1, .av [[.own 9 0 (v3.1.Shapes).length]]⟩], .live [⟨29, 1, .av [[.own 10 0 (v4.1.Shapes).length]]⟩], .live [⟨29, 1, .av [[.own 11 0 (v6.1.Shapes).length]]⟩], .live [⟨70, 5, .av [[.d (.v (.int .i64 v8.Width)), .d (.v (.int .i64 v8.Height)), .d (.v (.int .i64 v8.Margin)), .d (.v (.int .i64 v8.Gap)), .own 12 0 (v8.Sites).length]]⟩], .live [⟨29, 1, .av [[.own 13 0 (v9.1.Shapes).length]]⟩], .live [⟨80, 7, .data (List.map cShape_ v3.1.Shapes)⟩], .live [⟨80, 7, .data (List.map cShape_ v4.1.Shapes)⟩], .live [⟨80, 7, .data (List.map cShape_ v6.1.Shapes)⟩], .live [⟨115, 5, .data (List.map cSite_ v8.Sites)⟩], .live [⟨80, 7, .data (List.map cShape_ v9.1.Shapes)⟩]]⟩ ?_ ?_
    · skip
      refine aw_regionA (is := [0, 1, 2, 3, 4, 5, 6, 7, 8, 9, 10, 11, 12, 13, 14, 15, 16, 17, 18, 19, 20, 21, 22, 23, 24, 25, 26, 27, 28, 29, 30]) rfl ?_
      refine rp rfl w0 rfl (pu_move (r := .d _) rfl) ?_
      refine rp rfl w0 rfl (pu_move (r := .d _) rfl) ?_
      refine rp rfl w0 rfl (pu_neq rfl rfl) ?_
      refine rp rfl w0 rfl (pu_move (r := .d _) rfl) ?_
      refine ra_if (u := 70) h1 rfl (fun hc h1 => ?_) (fun hc h1 => ?_)
      · skip
        refine rk rfl rfl rfl (by first | exact .inl rfl | exact .inr rfl) rfl ?_
        refine rk rfl rfl rfl (by first | exact .inl rfl | exact .inr rfl) rfl ?_
        refine rk rfl rfl rfl (by first | exact .inl rfl | exact .inr rfl) rfl ?_
        refine rk rfl rfl rfl (by first | exact .inl rfl | exact .inr rfl) rfl ?_
        refine rp rfl w0 rfl (pu_pick_t (r := .d _) rfl rfl) ?_
        refine rp rfl w0 rfl (pu_move (r := .d _) rfl) ?_
        refine rk rfl rfl rfl (by first | exact .inl rfl | exact .inr rfl) rfl ?_
        refine rk rfl rfl rfl (by first | exact .inl rfl | exact .inr rfl) rfl ?_
        refine rk rfl rfl rfl (by first | exact .inl rfl | exact .inr rfl) rfl ?_
        refine rp rfl w0 rfl (pu_pick_t (r := .d _) rfl rfl) ?_
        refine rp rfl w0 rfl (pu_move (r := .d _) rfl) ?_
        refine rk rfl rfl rfl (by first | exact .inl rfl | exact .inr rfl) rfl ?_
        refine rk rfl rfl rfl (by first | exact .inl rfl | exact .inr rfl) rfl ?_
        refine rk rfl rfl rfl (by first | exact .inl rfl | exact .inr rfl) rfl ?_
        refine rk rfl rfl rfl (by first | exact .inl rfl | exact .inr rfl) rfl ?_
        refine rp rfl w0 rfl (pu_pick_t (r := .d _) rfl rfl) ?_
        refine rp rfl w0 rfl (pu_move (r := .d _) rfl) ?_
        refine rk rfl rfl rfl (by first | exact .inl rfl | exact .inr rfl) rfl ?_
        refine rk rfl rfl rfl (by first | exact .inl rfl | exact .inr rfl) rfl ?_
        refine rk rfl rfl rfl (by first | exact .inl rfl | exact .inr rfl) rfl ?_
        refine rp rfl w0 rfl (pu_pick_t (r := .d _) rfl rfl) ?_
        refine rp rfl w0 rfl (pu_move (r := .d _) rfl) ?_
        refine rk rfl rfl rfl (by first | exact .inl rfl | exact .inr rfl) rfl ?_
        refine rk rfl rfl rfl (by first | exact .inl rfl | exact .inr rfl) rfl ?_
        refine rk rfl rfl rfl (by first | exact .inl rfl | exact .inr rfl) rfl ?_
        refine rk rfl rfl rfl (by first | exact .inl rfl | exact .inr rfl) rfl ?_
        refine rp rfl w0 rfl (pu_pick_t (r := .d _) rfl rfl) ?_
        refine ra_nil ?_
        refine then_n ?_
        cases h1
        exact wk [0, 1, 2, 3, 5, 7, 9, 13, 15, 4, 6, 8, 12, 14]
      · skip
        refine rl rfl (w1 rfl rfl rfl) rfl (bx_ldN tok rfl rfl rfl rfl) ?_
        refine rl rfl (w1 rfl rfl rfl) rfl (bx_ldN tok rfl rfl rfl rfl) ?_
        obtain ⟨v11, hv11, h1⟩ := bnd h1
        refine rs rfl (w1 rfl rfl rfl) rfl (c_callV 18 (s_SameDrawing_c hv11) rfl rfl) ?_
        refine rp rfl (w1 rfl rfl rfl) rfl (pu_not rfl) ?_
        refine rp rfl w0 rfl (pu_pick_f (r := .d _) rfl rfl) ?_
        refine rp rfl w0 rfl (pu_move (r := .d _) rfl) ?_
        refine ra_ifB (u := 76) h1 rfl (fun hc h1 => ?_) (fun hc h1 => ?_)
        · skip
          refine rk rfl rfl rfl (by first | exact .inl rfl | exact .inr rfl) rfl ?_
          refine rk rfl rfl rfl (by first | exact .inl rfl | exact .inr rfl) rfl ?_
          refine rk rfl rfl rfl (by first | exact .inl rfl | exact .inr rfl) rfl ?_
          refine rp rfl w0 rfl (pu_pick_t (r := .d _) rfl rfl) ?_
          refine rp rfl w0 rfl (pu_move (r := .d _) rfl) ?_
          refine rk rfl rfl rfl (by first | exact .inl rfl | exact .inr rfl) rfl ?_
          refine rk rfl rfl rfl (by first | exact .inl rfl | exact .inr rfl) rfl ?_
          refine rk rfl rfl rfl (by first | exact .inl rfl | exact .inr rfl) rfl ?_
          refine rk rfl rfl rfl (by first | exact .inl rfl | exact .inr rfl) rfl ?_
          refine rp rfl w0 rfl (pu_pick_t (r := .d _) rfl rfl) ?_
          refine rp rfl w0 rfl (pu_move (r := .d _) rfl) ?_
          refine rk rfl rfl rfl (by first | exact .inl rfl | exact .inr rfl) rfl ?_
          refine rk rfl rfl rfl (by first | exact .inl rfl | exact .inr rfl) rfl ?_
          refine rk rfl rfl rfl (by first | exact .inl rfl | exact .inr rfl) rfl ?_
          refine rp rfl w0 rfl (pu_pick_t (r := .d _) rfl rfl) ?_
          refine rp rfl w0 rfl (pu_move (r := .d _) rfl) ?_
          refine rk rfl rfl rfl (by first | exact .inl rfl | exact .inr rfl) rfl ?_
          refine rk rfl rfl rfl (by first | exact .inl rfl | exact .inr rfl) rfl ?_
          refine rk rfl rfl rfl (by first | exact .inl rfl | exact .inr rfl) rfl ?_
          refine rk rfl rfl rfl (by first | exact .inl rfl | exact .inr rfl) rfl ?_
          refine rp rfl w0 rfl (pu_pick_t (r := .d _) rfl rfl) ?_
          refine ra_nil ?_
          refine then_n ?_
          cases h1
          exact wk [0, 1, 2, 3, 5, 7, 9, 13, 15, 4, 6, 8, 12, 14]
        · skip
          refine rp rfl (w1 rfl rfl rfl) rfl (pu_move (r := .d _) rfl) ?_
          refine rp rfl (w1 rfl rfl rfl) rfl (pu_move (r := .d _) rfl) ?_
          refine rp rfl (w1 rfl rfl rfl) rfl (pu_neq rfl rfl) ?_
          refine rp rfl w0 rfl (pu_pick_f (r := .d _) rfl rfl) ?_
          refine rp rfl w0 rfl (pu_move (r := .d _) rfl) ?_
          refine ra_if (u := 81) h1 rfl (fun hc h1 => ?_) (fun hc h1 => ?_)
          · skip
            refine rk rfl rfl rfl (by first | exact .inl rfl | exact .inr rfl) rfl ?_
            refine rk rfl rfl rfl (by first | exact .inl rfl | exact .inr rfl) rfl ?_
            refine rk rfl rfl rfl (by first | exact .inl rfl | exact .inr rfl) rfl ?_
            refine rk rfl rfl rfl (by first | exact .inl rfl | exact .inr rfl) rfl ?_
            refine rp rfl w0 rfl (pu_pick_t (r := .d _) rfl rfl) ?_
            refine rp rfl w0 rfl (pu_move (r := .d _) rfl) ?_
            refine rk rfl rfl rfl (by first | exact .inl rfl | exact .inr rfl) rfl ?_
            refine rk rfl rfl rfl (by first | exact .inl rfl | exact .inr rfl) rfl ?_
            refine rk rfl rfl rfl (by first | exact .inl rfl | exact .inr rfl) rfl ?_
            refine rp rfl w0 rfl (pu_pick_t (r := .d _) rfl rfl) ?_
            refine rp rfl w0 rfl (pu_move (r := .d _) rfl) ?_
            refine rk rfl rfl rfl (by first | exact .inl rfl | exact .inr rfl) rfl ?_
            refine rk rfl rfl rfl (by first | exact .inl rfl | exact .inr rfl) rfl ?_
            refine rk rfl rfl rfl (by first | exact .inl rfl | exact .inr rfl) rfl ?_
            refine rk rfl rfl rfl (by first | exact .inl rfl | exact .inr rfl) rfl ?_
            refine rp rfl w0 rfl (pu_pick_t (r := .d _) rfl rfl) ?_
            refine ra_nil ?_
            refine then_n ?_
            cases h1
            exact wk [0, 1, 2, 3, 5, 7, 9, 13, 15, 4, 6, 8, 12, 14]
          · skip
            refine rl rfl (w1 rfl rfl rfl) rfl (bx_ldN tok rfl rfl rfl rfl) ?_
            refine rl rfl (w1 rfl rfl rfl) rfl (bx_ldN tok rfl rfl rfl rfl) ?_
            obtain ⟨v12, hv12, h1⟩ := bnd h1
            refine rs rfl (w1 rfl rfl rfl) rfl (c_callV 18 (s_SameDrawing_c hv12) rfl rfl) ?_
            refine rp rfl (w1 rfl rfl rfl) rfl (pu_not rfl) ?_
            refine rp rfl w0 rfl (pu_pick_f (r := .d _) rfl rfl) ?_
            refine rp rfl w0 rfl (pu_move (r := .d _) rfl) ?_
            refine ra_ifB (u := 87) h1 rfl (fun hc h1 => ?_) (fun hc h1 => ?_)
            · skip
              refine rk rfl rfl rfl (by first | exact .inl rfl | exact .inr rfl) rfl ?_
              refine rk rfl rfl rfl (by first | exact .inl rfl | exact .inr rfl) rfl ?_
              refine rk rfl rfl rfl (by first | exact .inl rfl | exact .inr rfl) rfl ?_
              refine rp rfl w0 rfl (pu_pick_t (r := .d _) rfl rfl) ?_
              refine rp rfl w0 rfl (pu_move (r := .d _) rfl) ?_
              refine rk rfl rfl rfl (by first | exact .inl rfl | exact .inr rfl) rfl ?_
              refine rk rfl rfl rfl (by first | exact .inl rfl | exact .inr rfl) rfl ?_
              refine rk rfl rfl rfl (by first | exact .inl rfl | exact .inr rfl) rfl ?_
              refine rk rfl rfl rfl (by first | exact .inl rfl | exact .inr rfl) rfl ?_
              refine rp rfl w0 rfl (pu_pick_t (r := .d _) rfl rfl) ?_
              refine ra_nil ?_
              refine then_n ?_
              cases h1
              exact wk [0, 1, 2, 3, 5, 7, 9, 13, 15, 4, 6, 8, 12, 14]
            · skip
              refine rp rfl (w1 rfl rfl rfl) rfl (pu_move (r := .d _) rfl) ?_
              refine rp rfl (w1 rfl rfl rfl) rfl (pu_move (r := .d _) rfl) ?_
              refine rp rfl (w1 rfl rfl rfl) rfl (pu_neq rfl rfl) ?_
              refine rp rfl w0 rfl (pu_pick_f (r := .d _) rfl rfl) ?_
              refine rp rfl w0 rfl (pu_move (r := .d _) rfl) ?_
              refine ra_if (u := 92) h1 rfl (fun hc h1 => ?_) (fun hc h1 => ?_)
              · skip
                refine rk rfl rfl rfl (by first | exact .inl rfl | exact .inr rfl) rfl ?_
                refine rk rfl rfl rfl (by first | exact .inl rfl | exact .inr rfl) rfl ?_
                refine rk rfl rfl rfl (by first | exact .inl rfl | exact .inr rfl) rfl ?_
                refine rk rfl rfl rfl (by first | exact .inl rfl | exact .inr rfl) rfl ?_
                refine rp rfl w0 rfl (pu_pick_t (r := .d _) rfl rfl) ?_
                refine ra_nil ?_
                refine then_n ?_
                cases h1
                exact wk [0, 1, 2, 3, 5, 7, 9, 13, 15, 4, 6, 8, 12, 14]
              · skip
                refine rl rfl (w1 rfl rfl rfl) rfl (bx_ldN tok rfl rfl rfl rfl) ?_
                refine rl rfl (w1 rfl rfl rfl) rfl (bx_ldN tok rfl rfl rfl rfl) ?_
                obtain ⟨v13, hv13, h1⟩ := bnd h1
                refine rs rfl (w1 rfl rfl rfl) rfl (c_callV 18 (s_SameDrawing_c hv13) rfl rfl) ?_
                refine rp rfl (w1 rfl rfl rfl) rfl (pu_not rfl) ?_
                refine rp rfl w0 rfl (pu_pick_f (r := .d _) rfl rfl) ?_
                refine ra_nil ?_
                refine then_n ?_
                cases h1
                exact wk [0, 1, 2, 3, 5, 7, 9, 13, 15, 4, 6, 8, 12, 14]
    · skip
      refine aw_ifB h0 rfl (fun hc h0 => ?_) (fun hc h0 => ?_)
      · skip
        refine aw_seq ?_
        refine aw_regionA (is := [0]) rfl ?_
        refine rp rfl w0 rfl (pu_assign (r := .d _) rfl) ?_
        refine ra_nil ?_
        refine then_n ?_
        refine aw_ret ?_
        refine then_r ?_
        cases h0
        exact ret0_ (rs := [.tmp 2]) rfl
      · skip
        refine aw_skip ?_
        refine then_n ?_
        obtain ⟨v26x, h1, h0⟩ := bnd h0
        refine aw_cutE v26x (fun v26 => ⟨updA (updA (updA (updA (updA (updA ((fun _ => .dead)) 9 (.d (.v (.int .i64 v5.2)))) 10 (.ptr 3 0 1 0 0)) 11 (.d (.v (.int .i64 v6.2)))) 14 (.ptr 4 0 1 0 0)) 15 (.ptr 5 0 1 0 0)) 16 (.d (.v (.int .i64 v9.2))), lks [.no, .no, .no, .live [⟨29, 1, .av [[.own 6 0 (v6.1.Shapes).length]]⟩], .live [⟨70, 5, .av [[.d (.v (.int .i64 v8.Width)), .d (.v (.int .i64 v8.Height)), .d (.v (.int .i64 v8.Margin)), .d (.v (.int .i64 v8.Gap)), .own 7 0 (v8.Sites).length]]⟩], .live [⟨29, 1, .av [[.own 8 0 (v9.1.Shapes).length]]⟩], .live [⟨80, 7, .data (List.map cShape_ v6.1.Shapes)⟩], .live [⟨115, 5, .data (List.map cSite_ v8.Sites)⟩], .live [⟨80, 7, .data (List.map cShape_ v9.1.Shapes)⟩]]⟩) ?_ ?_
        · skip
          refine aw_seq ?_
          refine aw_regionA (is := [0, 1]) rfl ?_
          refine rp rfl w0 rfl (pu_move (r := .d _) rfl) ?_
          refine rp rfl w0 rfl (pu_eql rfl rfl) ?_
          refine ra_nil ?_
          refine then_n ?_
          refine aw_if h1 rfl (fun hc h1 => ?_) (fun hc h1 => ?_)
          · skip
            refine aw_seq ?_
            refine aw_regionA (is := [0, 1, 2, 3]) rfl ?_
            refine rl rfl w0 rfl (bx_fa tok rfl rfl rfl rfl rfl rfl rfl) ?_
            refine rl rfl w0 rfl (bx_ld1 tok rfl rfl rfl rfl rfl) ?_
            refine rl rfl w0 rfl (ow_len tok rfl rfl rfl rfl rfl) ?_
            refine rp rfl w0 rfl (pu_assign (r := .d _) rfl) ?_
            refine ra_nil ?_
            refine then_n ?_
            obtain ⟨v23x, h2, h1⟩ := bnd h1
            refine aw_cutE v23x (fun v23 => ⟨updA (updA (updA (updA (updA (updA (updA (updA (updA ((fun _ => .dead)) 3 (.ptr 3 0 1 0 0)) 4 (.ptr 4 0 1 0 0)) 9 (.d (.v (.int .i64 v5.2)))) 10 (.ptr 5 0 1 0 0)) 11 (.d (.v (.int .i64 v6.2)))) 14 (.ptr 6 0 1 0 0)) 15 (.ptr 7 0 1 0 0)) 16 (.d (.v (.int .i64 v9.2)))) 19 (.d (.v (.int .i64 (v4.1.Shapes.length : Int)))), lks [.no, .no, .no, .live [⟨50, 6, .av [[.d (.v (.int .i64 v2.Teeth)), .d (.v (.int .i64 v2.Module)), .d (.v (.int .i64 v2.Addendum)), .d (.v (.int .i64 v2.Angle.Sin)), .d (.v (.int .i64 v2.Angle.Cos)), .d (.v (.int .i64 v2.Angle.Hyp))]]⟩], .live [⟨29, 1, .av [[.own 8 0 (v3.1.Shapes).length]]⟩], .live [⟨29, 1, .av [[.own 9 0 (v6.1.Shapes).length]]⟩], .live [⟨70, 5, .av [[.d (.v (.int .i64 v8.Width)), .d (.v (.int .i64 v8.Height)), .d (.v (.int .i64 v8.Margin)), .d (.v (.int .i64 v8.Gap)), .own 10 0 (v8.Sites).length]]⟩], .live [⟨29, 1, .av [[.own 11 0 (v9.1.Shapes).length]]⟩], .live [⟨80, 7, .data (List.map cShape_ v3.1.Shapes)⟩], .live [⟨80, 7, .data (List.map cShape_ v6.1.Shapes)⟩], .live [⟨115, 5, .data (List.map cSite_ v8.Sites)⟩], .live [⟨80, 7, .data (List.map cShape_ v9.1.Shapes)⟩]]⟩) ?_ ?_
            · skip
              refine aw_seq ?_
              refine aw_regionA (is := [0]) rfl ?_
              refine rp rfl w0 rfl (pu_assign (r := .d _) rfl) ?_
              refine ra_nil ?_
              refine then_n ?_
              refine aw_block ?_
              refine aw_loopM (fun s19 => ⟨updA (updA (updA (updA (updA (updA (updA (updA (updA (updA ((fun _ => .dead)) 3 (.ptr 3 0 1 0 0)) 4 (.ptr 4 0 1 0 0)) 9 (.d (.v (.int .i64 v5.2)))) 10 (.ptr 5 0 1 0 0)) 11 (.d (.v (.int .i64 v6.2)))) 14 (.ptr 6 0 1 0 0)) 15 (.ptr 7 0 1 0 0)) 16 (.d (.v (.int .i64 v9.2)))) 19 (.d (.v (.int .i64 (v4.1.Shapes.length : Int))))) 20 (.d (.v (.int .i64 s19))), lks [.no, .no, .no, .live [⟨50, 6, .av [[.d (.v (.int .i64 v2.Teeth)), .d (.v (.int .i64 v2.Module)), .d (.v (.int .i64 v2.Addendum)), .d (.v (.int .i64 v2.Angle.Sin)), .d (.v (.int .i64 v2.Angle.Cos)), .d (.v (.int .i64 v2.Angle.Hyp))]]⟩], .live [⟨29, 1, .av [[.own 8 0 (v3.1.Shapes).length]]⟩], .live [⟨29, 1, .av [[.own 9 0 (v6.1.Shapes).length]]⟩], .live [⟨70, 5, .av [[.d (.v (.int .i64 v8.Width)), .d (.v (.int .i64 v8.Height)), .d (.v (.int .i64 v8.Margin)), .d (.v (.int .i64 v8.Gap)), .own 10 0 (v8.Sites).length]]⟩], .live [⟨29, 1, .av [[.own 11 0 (v9.1.Shapes).length]]⟩], .live [⟨80, 7, .data (List.map cShape_ v3.1.Shapes)⟩], .live [⟨80, 7, .data (List.map cShape_ v6.1.Shapes)⟩], .live [⟨115, 5, .data (List.map cSite_ v8.Sites)⟩], .live [⟨80, 7, .data (List.map cShape_ v9.1.Shapes)⟩]]⟩) h2 ?_ (fun s19 y h3 => ?_)
              · skip
                exact wk [0, 1, 2, 3, 4, 6, 7, 8, 9, 11, 12, 13]
              · skip
                refine aw_seq ?_
                refine aw_seq ?_
                refine aw_regionA (is := [0, 1, 2]) rfl ?_
                refine rp rfl w0 rfl (pu_move (r := .d _) rfl) ?_
                refine rp rfl w0 rfl (pu_move (r := .d _) rfl) ?_
                refine rp rfl w0 rfl (pu_lss rfl rfl) ?_
                refine ra_nil ?_
                refine then_n ?_
                refine aw_if h3 rfl (fun hc h3 => ?_) (fun hc h3 => ?_)
                · skip
                  refine aw_skip ?_
                  refine then_n ?_
                  refine aw_seq ?_
                  refine aw_block ?_
                  refine aw_seq ?_
                  refine aw_region_draw (is := [0, 1, 2, 3, 4, 5, 6, 7, 8, 9, 10, 11, 12, 13, 14, 15]) follows ?_
                  refine rt_lk rfl w0 rfl (bx_fa tok rfl rfl rfl rfl rfl rfl rfl) rfl rfl rfl ?_
                  refine rt_lk rfl w0 rfl (bx_ld1 tok rfl rfl rfl rfl rfl) rfl rfl rfl ?_
                  refine rt_p rfl w0 rfl (pu_move (r := .d _) rfl) ?_
                  obtain ⟨v20, hv20, h3⟩ := bnd h3
                  refine rt_lk rfl w0 rfl (ow_ix tok hv20 rfl rfl rfl rfl rfl rfl rfl rfl) rfl rfl rfl ?_
                  refine rt_lk rfl w0 rfl (rw_fa tok (atI_e hv20).2.1 rfl rfl rfl rfl rfl rfl rfl rfl) rfl rfl rfl ?_
                  refine rt_lk rfl w0 rfl (rw_ldN tok (atI_e hv20).2.1 rfl rfl rfl rfl rfl) rfl rfl rfl ?_
                  refine rt_lk rfl w0 rfl (bx_fa tok rfl rfl rfl rfl rfl rfl rfl) rfl rfl rfl ?_
                  refine rt_lk rfl w0 rfl (bx_ld1 tok rfl rfl rfl rfl rfl) rfl rfl rfl ?_
                  refine rt_p rfl w0 rfl (pu_move (r := .d _) rfl) ?_
                  refine rt_p rfl w0 rfl (pw_add rfl rfl) ?_
                  refine rt_p rfl w0 rfl (pu_move (r := .d _) rfl) ?_
                  obtain ⟨hq21, h3⟩ := chk_e h3
                  refine rt_p rfl w0 rfl (pu_remw rfl rfl hq21) ?_
                  obtain ⟨v22, hv22, h3⟩ := bnd h3
                  refine rt_lk rfl w0 rfl (ow_ix tok hv22 rfl rfl rfl rfl rfl rfl rfl rfl) rfl rfl rfl ?_
                  refine rt_lk rfl w0 rfl (rw_fa tok (atI_e hv22).2.1 rfl rfl rfl rfl rfl rfl rfl rfl) rfl rfl rfl ?_
                  refine rt_lk rfl w0 rfl (rw_ldN tok (atI_e hv22).2.1 rfl rfl rfl rfl rfl) rfl rfl rfl ?_
                  refine rt_p rfl w0 rfl (ps_neq_Spot_ (a := v20.B) (b := v22.A) rfl rfl) ?_
                  refine rt_nil ?_
                  refine ⟨by kernel_rfl, ?_⟩
                  refine then_n ?_
                  refine aw_if h3 rfl (fun hc h3 => ?_) (fun hc h3 => ?_)
                  · skip
                    refine aw_seq ?_
                    refine aw_regionA (is := [0]) rfl ?_
                    refine rp rfl w0 rfl (pu_assign (r := .d _) rfl) ?_
                    refine ra_nil ?_
                    refine then_n ?_
                    refine aw_ret ?_
                    refine block_r ?_
                    refine then_r ?_
                    cases h3
                    refine loop_r ⟨_, rfl, fun e => ?_⟩
                    subst e
                    refine block_r ?_
                    replace h1 := orE_s h1
                    refine then_r ?_
                    cases h1
                    replace h0 := orE_s h0
                    refine then_r ?_
                    cases h0
                    exact ret0_ (rs := [.tmp 2]) rfl
                  · skip
                    refine aw_skip ?_
                    refine block_n ?_
                    refine then_n ?_
                    refine aw_regionA (is := [0, 1, 2]) rfl ?_
                    refine rp rfl w0 rfl (pu_move (r := .d _) rfl) ?_
                    refine rp rfl w0 rfl (pw_add rfl rfl) ?_
                    refine rp rfl w0 rfl (pu_assign (r := .d _) rfl) ?_
                    refine ra_nil ?_
                    refine loop_n ?_
                    cases h3
                    refine ⟨_, rfl, ?_⟩
                    exact wk [0, 1, 2, 3, 4, 5, 6, 7, 8, 9, 10, 11]
                · skip
                  refine aw_exit ?_
                  refine then_e ?_
                  cases h3
                  refine loop_x ⟨_, rfl, fun e => ?_⟩
                  subst e
                  refine block_hit ?_
                  refine then_n ?_
                  refine ⟨_, rfl, ?_⟩
                  exact wk [0, 1, 2, 3, 4, 5, 6, 7, 8, 9, 10, 11]
            · skip
              rintro v23 rfl
              replace h1 := orE_f h1
              obtain ⟨v25, h2, h1⟩ := bnd h1
              refine aw_cut ⟨updA (updA (updA (updA (updA (updA (updA ((fun _ => .dead)) 9 (.d (.v (.int .i64 v5.2)))) 10 (.ptr 3 0 1 0 0)) 11 (.d (.v (.int .i64 v6.2)))) 14 (.ptr 4 0 1 0 0)) 15 (.ptr 5 0 1 0 0)) 16 (.d (.v (.int .i64 v9.2)))) 133 (.d (.v (.bool v25))), lks [.no, .no, .no, .live [⟨29, 1, .av [[.own 6 0 (v6.1.Shapes).length]]⟩], .live [⟨70, 5, .av [[.d (.v (.int .i64 v8.Width)), .d (.v (.int .i64 v8.Height)), .d (.v (.int .i64 v8.Margin)), .d (.v (.int .i64 v8.Gap)), .own 7 0 (v8.Sites).length]]⟩], .live [⟨29, 1, .av [[.own 8 0 (v9.1.Shapes).length]]⟩], .live [⟨80, 7, .data (List.map cShape_ v6.1.Shapes)⟩], .live [⟨115, 5, .data (List.map cSite_ v8.Sites)⟩], .live [⟨80, 7, .data (List.map cShape_ v9.1.Shapes)⟩]]⟩ ?_ ?_
              · skip
                refine aw_regionA (is := [0, 1, 2, 3, 4, 5, 6, 7, 8, 9]) rfl ?_
                refine rl rfl w0 rfl (bx_ldN tok rfl rfl rfl rfl) ?_
                obtain ⟨v24, hv24, h2⟩ := bnd h2
                refine rs rfl w0 rfl (c_callV 12 (i_ValidDrawing_c hv24) rfl rfl) ?_
                refine rp rfl w0 rfl (pu_not rfl) ?_
                refine rp rfl w0 rfl (pu_move (r := .d _) rfl) ?_
                refine ra_ifB (u := 127) h2 rfl (fun hc h2 => ?_) (fun hc h2 => ?_)
                · skip
                  refine rk rfl rfl rfl (by first | exact .inl rfl | exact .inr rfl) rfl ?_
                  refine rk rfl rfl rfl (by first | exact .inl rfl | exact .inr rfl) rfl ?_
                  refine rk rfl rfl rfl (by first | exact .inl rfl | exact .inr rfl) rfl ?_
                  refine rk rfl rfl rfl (by first | exact .inl rfl | exact .inr rfl) rfl ?_
                  refine rk rfl rfl rfl (by first | exact .inl rfl | exact .inr rfl) rfl ?_
                  refine rp rfl w0 rfl (pu_pick_t (r := .d _) rfl rfl) ?_
                  refine ra_nil ?_
                  refine then_n ?_
                  cases h2
                  exact wk [0, 1, 2, 5, 6, 7, 9, 10, 11]
                · skip
                  refine rp rfl (w1 rfl rfl rfl) rfl (pu_move (r := .d _) rfl) ?_
                  refine rl rfl (w1 rfl rfl rfl) rfl (bx_fa tok rfl rfl rfl rfl rfl rfl rfl) ?_
                  refine rl rfl (w1 rfl rfl rfl) rfl (bx_ld1 tok rfl rfl rfl rfl rfl) ?_
                  refine rp rfl (w1 rfl rfl rfl) rfl (pw_mul rfl rfl) ?_
                  refine rp rfl (w1 rfl rfl rfl) rfl (pu_neq rfl rfl) ?_
                  refine rp rfl w0 rfl (pu_pick_f (r := .d _) rfl rfl) ?_
                  refine ra_nil ?_
                  refine then_n ?_
                  cases h2
                  exact wk [0, 1, 2, 5, 6, 7, 9, 10, 11]
              · skip
                refine aw_ifB h1 rfl (fun hc h1 => ?_) (fun hc h1 => ?_)
                · skip
                  refine aw_seq ?_
                  refine aw_regionA (is := [0]) rfl ?_
                  refine rp rfl w0 rfl (pu_assign (r := .d _) rfl) ?_
                  refine ra_nil ?_
                  refine then_n ?_
                  refine aw_ret ?_
                  cases h1
                  replace h0 := orE_s h0
                  refine then_r ?_
                  cases h0
                  exact ret0_ (rs := [.tmp 2]) rfl
                · skip
                  refine aw_skip ?_
                  refine then_n ?_
                  cases h1
                  refine ⟨_, rfl, ?_⟩
                  exact wk [0, 1, 2, 3, 4, 5, 6, 7, 8]
          · skip
            refine aw_skip ?_
            refine then_n ?_
            cases h1
            refine ⟨_, rfl, ?_⟩
            exact wk [0, 1, 2, 6, 7, 8, 11, 12, 13]
        · skip
          rintro v26 rfl
          replace h0 := orE_f h0
          refine aw_seq ?_
          obtain ⟨v28, h1, h0⟩ := bnd h0
          refine aw_cut ⟨updA (updA (updA (updA ((fun _ => .dead)) 14 (.ptr 3 0 1 0 0)) 15 (.ptr 4 0 1 0 0)) 16 (.d (.v (.int .i64 v9.2)))) 148 (.d (.v (.bool v28))), lks [.no, .no, .no, .live [⟨70, 5, .av [[.d (.v (.int .i64 v8.Width)), .d (.v (.int .i64 v8.Height)), .d (.v (.int .i64 v8.Margin)), .d (.v (.int .i64 v8.Gap)), .own 5 0 (v8.Sites).length]]⟩], .live [⟨29, 1, .av [[.own 6 0 (v9.1.Shapes).length]]⟩], .live [⟨115, 5, .data (List.map cSite_ v8.Sites)⟩], .live [⟨80, 7, .data (List.map cShape_ v9.1.Shapes)⟩]]⟩ ?_ ?_
          · skip
            refine aw_regionA (is := [0, 1, 2, 3, 4, 5, 6, 7, 8, 9, 10, 11, 12, 13, 14]) rfl ?_
            refine rp rfl w0 rfl (pu_move (r := .d _) rfl) ?_
            refine rp rfl w0 rfl (pu_eql rfl rfl) ?_
            refine rp rfl w0 rfl (pu_move (r := .d _) rfl) ?_
            refine ra_if (u := 136) h1 rfl (fun hc h1 => ?_) (fun hc h1 => ?_)
            · skip
              refine rl rfl (w1 rfl rfl rfl) rfl (bx_fa tok rfl rfl rfl rfl rfl rfl rfl) ?_
              refine rl rfl (w1 rfl rfl rfl) rfl (bx_ld1 tok rfl rfl rfl rfl rfl) ?_
              refine rl rfl (w1 rfl rfl rfl) rfl (ow_len tok rfl rfl rfl rfl rfl) ?_
              refine rp rfl (w1 rfl rfl rfl) rfl (pu_move (r := .d _) rfl) ?_
              refine rp rfl (w1 rfl rfl rfl) rfl (pw_add rfl rfl) ?_
              refine rp rfl (w1 rfl rfl rfl) rfl (pu_neq rfl rfl) ?_
              refine rp rfl (w1 rfl rfl rfl) rfl (pu_move (r := .d _) rfl) ?_
              refine ra_if (u := 143) h1 rfl (fun hc h1 => ?_) (fun hc h1 => ?_)
              · skip
                refine rk rfl rfl rfl (by first | exact .inl rfl | exact .inr rfl) rfl ?_
                refine rk rfl rfl rfl (by first | exact .inl rfl | exact .inr rfl) rfl ?_
                refine rk rfl rfl rfl (by first | exact .inl rfl | exact .inr rfl) rfl ?_
                refine rp rfl (w1 rfl rfl rfl) rfl (pu_pick_t (r := .d _) rfl rfl) ?_
                refine rp rfl w0 rfl (pu_pick_t (r := .d _) rfl rfl) ?_
                refine ra_nil ?_
                refine then_n ?_
                cases h1
                exact wk [0, 1, 2, 4, 5, 7, 8]
              · skip
                refine rl rfl (w1 rfl rfl rfl) rfl (bx_ldN tok rfl rfl rfl rfl) ?_
                obtain ⟨v27, hv27, h1⟩ := bnd h1
                refine rs rfl (w1 rfl rfl rfl) rfl (c_callV 9 (i_ValidDrawing_c hv27) rfl rfl) ?_
                refine rp rfl (w1 rfl rfl rfl) rfl (pu_not rfl) ?_
                refine rp rfl (w1 rfl rfl rfl) rfl (pu_pick_f (r := .d _) rfl rfl) ?_
                refine rp rfl w0 rfl (pu_pick_t (r := .d _) rfl rfl) ?_
                refine ra_nil ?_
                refine then_n ?_
                cases h1
                exact wk [0, 1, 2, 4, 5, 7, 8]
            · skip
              refine rk rfl rfl rfl (by first | exact .inl rfl | exact .inr rfl) rfl ?_
              refine rk rfl rfl rfl (by first | exact .inl rfl | exact .inr rfl) rfl ?_
              refine rk rfl rfl rfl (by first | exact .inl rfl | exact .inr rfl) rfl ?_
              refine rk rfl rfl rfl (by first | exact .inl rfl | exact .inr rfl) rfl ?_
              refine rk rfl rfl rfl (by first | exact .inl rfl | exact .inr rfl) rfl ?_
              refine rk rfl rfl rfl (by first | exact .inl rfl | exact .inr rfl) rfl ?_
              refine rk rfl rfl rfl (by first | exact .inl rfl | exact .inr rfl) rfl ?_
              refine rk rfl rfl rfl (by first | exact .inl rfl | exact .inr rfl) rfl ?_
              refine rk rfl rfl rfl (by first | exact .inl rfl | exact .inr rfl) rfl ?_
              refine rk rfl rfl rfl (by first | exact .inl rfl | exact .inr rfl) rfl ?_
              refine rk rfl rfl rfl (by first | exact .inl rfl | exact .inr rfl) rfl ?_
              refine rp rfl w0 rfl (pu_pick_f (r := .d _) rfl rfl) ?_
              refine ra_nil ?_
              refine then_n ?_
              cases h1
              exact wk [0, 1, 2, 4, 5, 7, 8]
          · skip
            refine aw_ifB h0 rfl (fun hc h0 => ?_) (fun hc h0 => ?_)
            · skip
              refine aw_seq ?_
              refine aw_regionA (is := [0]) rfl ?_
              refine rp rfl w0 rfl (pu_assign (r := .d _) rfl) ?_
              refine ra_nil ?_
              refine then_n ?_
              refine aw_ret ?_
              refine then_r ?_
              cases h0
              exact ret0_ (rs := [.tmp 2]) rfl
            · skip
              refine aw_skip ?_
              refine then_n ?_
              refine aw_seq ?_
              refine aw_seq ?_
              refine aw_regionA (is := [0, 1]) rfl ?_
              refine rp rfl w0 rfl (pu_move (r := .d _) rfl) ?_
              refine rp rfl w0 rfl (pu_neq rfl rfl) ?_
              refine ra_nil ?_
              refine then_n ?_
              refine aw_if h0 rfl (fun hc h0 => ?_) (fun hc h0 => ?_)
              · skip
                refine aw_seq ?_
                refine aw_regionA (is := [0]) rfl ?_
                refine rp rfl w0 rfl (pu_assign (r := .d _) rfl) ?_
                refine ra_nil ?_
                refine then_n ?_
                refine aw_ret ?_
                refine then_r ?_
                cases h0
                exact ret0_ (rs := [.tmp 2]) rfl
              · skip
                refine aw_skip ?_
                refine then_n ?_
                refine aw_seq ?_
                refine aw_regionA (is := [0, 1, 2, 3, 4, 5, 6, 7, 8, 9, 10]) rfl ?_
                refine rl rfl w0 rfl (bx_ldN tok rfl rfl rfl rfl) ?_
                obtain ⟨v29, hv29, h0⟩ := bnd h0
                refine rs rfl w0 rfl (c_callV 7 (i_BoxOf_c hv29) rfl rfl) ?_
                refine rp rfl w0 rfl (pu_move (r := .tup _) rfl) ?_
                refine rp rfl w0 rfl (pu_extract rfl rfl) ?_
                refine rp rfl w0 rfl (pu_extract rfl rfl) ?_
                refine rp rfl w0 rfl (pu_extract rfl rfl) ?_
                refine rs rfl w0 rfl (st_alloc 7 (cs := [.d (.v (.int .i64 0)), .d (.v (.int .i64 0))]) tok rfl rfl rfl) ?_
                refine rs rfl w0 rfl (st_alloc 8 (cs := [.d (.v (.int .i64 0)), .d (.v (.int .i64 0))]) tok rfl rfl rfl) ?_
                refine rw0 rfl w0 (bx_st (cs := _ :: _) tok rfl rfl rfl rfl rfl rfl rfl) ?_
                refine rw0 rfl w0 (bx_st (cs := _ :: _) tok rfl rfl rfl rfl rfl rfl rfl) ?_
                refine rp rfl w0 rfl (pu_assign (r := .d _) rfl) ?_
                refine ra_nil ?_
                refine then_n ?_
                refine aw_seq ?_
                refine aw_regionA (is := [0, 1, 2, 3, 4, 5, 6, 7, 8, 9, 10, 11, 12, 13, 14, 15, 16, 17, 18, 19, 20, 21, 22, 23, 24, 25, 26, 27, 28, 29, 30, 31, 32, 33, 34, 35, 36, 37]) rfl ?_
                refine rp rfl w0 rfl (pu_move (r := .d _) rfl) ?_
                refine rp rfl w0 rfl (pu_eql rfl rfl) ?_
                refine rp rfl w0 rfl (pu_move (r := .d _) rfl) ?_
                refine ra_if (u := 159) h0 rfl (fun hc h0 => ?_) (fun hc h0 => ?_)
                · skip
                  refine rl rfl (w1 rfl rfl rfl) rfl (bx_fa tok rfl rfl rfl rfl rfl rfl rfl) ?_
                  refine rl rfl (w1 rfl rfl rfl) rfl (bx_ld1 tok rfl rfl rfl rfl rfl) ?_
                  refine rp rfl (w1 rfl rfl rfl) rfl (pu_leq rfl rfl) ?_
                  refine rp rfl w0 rfl (pu_pick_t (r := .d _) rfl rfl) ?_
                  refine rp rfl w0 rfl (pu_move (r := .d _) rfl) ?_
                  refine ra_if (u := 164) h0 rfl (fun hc h0 => ?_) (fun hc h0 => ?_)
                  · skip
                    refine rl rfl (w1 rfl rfl rfl) rfl (bx_fa tok rfl rfl rfl rfl rfl rfl rfl) ?_
                    refine rl rfl (w1 rfl rfl rfl) rfl (bx_ld1 tok rfl rfl rfl rfl rfl) ?_
                    refine rp rfl (w1 rfl rfl rfl) rfl (pu_leq rfl rfl) ?_
                    refine rp rfl w0 rfl (pu_pick_t (r := .d _) rfl rfl) ?_
                    refine rp rfl w0 rfl (pu_move (r := .d _) rfl) ?_
                    refine ra_if (u := 169) h0 rfl (fun hc h0 => ?_) (fun hc h0 => ?_)
                    · skip
                      refine rl rfl (w1 rfl rfl rfl) rfl (bx_fa tok rfl rfl rfl rfl rfl rfl rfl) ?_
                      refine rl rfl (w1 rfl rfl rfl) rfl (bx_ld1 tok rfl rfl rfl rfl rfl) ?_
                      refine rl rfl (w1 rfl rfl rfl) rfl (bx_fa tok rfl rfl rfl rfl rfl rfl rfl) ?_
                      refine rl rfl (w1 rfl rfl rfl) rfl (bx_ld1 tok rfl rfl rfl rfl rfl) ?_
                      refine rp rfl (w1 rfl rfl rfl) rfl (pu_geq rfl rfl) ?_
                      refine rp rfl w0 rfl (pu_pick_t (r := .d _) rfl rfl) ?_
                      refine rp rfl w0 rfl (pu_move (r := .d _) rfl) ?_
                      refine ra_if (u := 176) h0 rfl (fun hc h0 => ?_) (fun hc h0 => ?_)
                      · skip
                        refine rl rfl (w1 rfl rfl rfl) rfl (bx_fa tok rfl rfl rfl rfl rfl rfl rfl) ?_
                        refine rl rfl (w1 rfl rfl rfl) rfl (bx_ld1 tok rfl rfl rfl rfl rfl) ?_
                        refine rl rfl (w1 rfl rfl rfl) rfl (bx_fa tok rfl rfl rfl rfl rfl rfl rfl) ?_
                        refine rl rfl (w1 rfl rfl rfl) rfl (bx_ld1 tok rfl rfl rfl rfl rfl) ?_
                        refine rp rfl (w1 rfl rfl rfl) rfl (pu_geq rfl rfl) ?_
                        refine rp rfl w0 rfl (pu_pick_t (r := .d _) rfl rfl) ?_
                        refine rp rfl w0 rfl (pu_move (r := .d _) rfl) ?_
                        refine ra_if (u := 183) h0 rfl (fun hc h0 => ?_) (fun hc h0 => ?_)
                        · skip
                          refine rl rfl (w1 rfl rfl rfl) rfl (bx_fa tok rfl rfl rfl rfl rfl rfl rfl) ?_
                          refine rl rfl (w1 rfl rfl rfl) rfl (bx_ld1 tok rfl rfl rfl rfl rfl) ?_
                          refine rl rfl (w1 rfl rfl rfl) rfl (ow_len tok rfl rfl rfl rfl rfl) ?_
                          refine rl rfl (w1 rfl rfl rfl) rfl (bx_fa tok rfl rfl rfl rfl rfl rfl rfl) ?_
                          refine rl rfl (w1 rfl rfl rfl) rfl (bx_ld1 tok rfl rfl rfl rfl rfl) ?_
                          refine rl rfl (w1 rfl rfl rfl) rfl (ow_len tok rfl rfl rfl rfl rfl) ?_
                          refine rp rfl (w1 rfl rfl rfl) rfl (pw_mul rfl rfl) ?_
                          refine rp rfl (w1 rfl rfl rfl) rfl (pw_add rfl rfl) ?_
                          refine rp rfl (w1 rfl rfl rfl) rfl (pu_eql rfl rfl) ?_
                          refine rp rfl w0 rfl (pu_pick_t (r := .d _) rfl rfl) ?_
                          refine rp rfl w0 rfl (pu_assign (r := .d _) rfl) ?_
                          refine ra_nil ?_
                          refine then_n ?_
                          refine aw_ret ?_
                          cases h0
                          exact ret0_ (rs := [.tmp 2]) rfl
                        · skip
                          refine rk rfl rfl rfl (by first | exact .inl rfl | exact .inr rfl) rfl ?_
                          refine rk rfl rfl rfl (by first | exact .inl rfl | exact .inr rfl) rfl ?_
                          refine rk rfl rfl rfl (by first | exact .inl rfl | exact .inr rfl) rfl ?_
                          refine rk rfl rfl rfl (by first | exact .inl rfl | exact .inr rfl) rfl ?_
                          refine rk rfl rfl rfl (by first | exact .inl rfl | exact .inr rfl) rfl ?_
                          refine rk rfl rfl rfl (by first | exact .inl rfl | exact .inr rfl) rfl ?_
                          refine rk rfl rfl rfl (by first | exact .inl rfl | exact .inr rfl) rfl ?_
                          refine rk rfl rfl rfl (by first | exact .inl rfl | exact .inr rfl) rfl ?_
                          refine rk rfl rfl rfl (by first | exact .inl rfl | exact .inr rfl) rfl ?_
                          refine rp rfl w0 rfl (pu_pick_f (r := .d _) rfl rfl) ?_
                          refine rp rfl w0 rfl (pu_assign (r := .d _) rfl) ?_
                          refine ra_nil ?_
                          refine then_n ?_
                          refine aw_ret ?_
                          cases h0
                          exact ret0_ (rs := [.tmp 2]) rfl
                      · skip
                        refine rk rfl rfl rfl (by first | exact .inl rfl | exact .inr rfl) rfl ?_
                        refine rk rfl rfl rfl (by first | exact .inl rfl | exact .inr rfl) rfl ?_
                        refine rk rfl rfl rfl (by first | exact .inl rfl | exact .inr rfl) rfl ?_
                        refine rk rfl rfl rfl (by first | exact .inl rfl | exact .inr rfl) rfl ?_
                        refine rk rfl rfl rfl (by first | exact .inl rfl | exact .inr rfl) rfl ?_
                        refine rp rfl w0 rfl (pu_pick_f (r := .d _) rfl rfl) ?_
                        refine rp rfl w0 rfl (pu_move (r := .d _) rfl) ?_
                        refine rk rfl rfl rfl (by first | exact .inl rfl | exact .inr rfl) rfl ?_
                        refine rk rfl rfl rfl (by first | exact .inl rfl | exact .inr rfl) rfl ?_
                        refine rk rfl rfl rfl (by first | exact .inl rfl | exact .inr rfl) rfl ?_
                        refine rk rfl rfl rfl (by first | exact .inl rfl | exact .inr rfl) rfl ?_
                        refine rk rfl rfl rfl (by first | exact .inl rfl | exact .inr rfl) rfl ?_
                        refine rk rfl rfl rfl (by first | exact .inl rfl | exact .inr rfl) rfl ?_
                        refine rk rfl rfl rfl (by first | exact .inl rfl | exact .inr rfl) rfl ?_
                        refine rk rfl rfl rfl (by first | exact .inl rfl | exact .inr rfl) rfl ?_
                        refine rk rfl rfl rfl (by first | exact .inl rfl | exact .inr rfl) rfl ?_
                        refine rp rfl w0 rfl (pu_pick_f (r := .d _) rfl rfl) ?_
                        refine rp rfl w0 rfl (pu_assign (r := .d _) rfl) ?_
                        refine ra_nil ?_
                        refine then_n ?_
                        refine aw_ret ?_
                        cases h0
                        exact ret0_ (rs := [.tmp 2]) rfl
                    · skip
                      refine rk rfl rfl rfl (by first | exact .inl rfl | exact .inr rfl) rfl ?_
                      refine rk rfl rfl rfl (by first | exact .inl rfl | exact .inr rfl) rfl ?_
                      refine rk rfl rfl rfl (by first | exact .inl rfl | exact .inr rfl) rfl ?_
                      refine rk rfl rfl rfl (by first | exact .inl rfl | exact .inr rfl) rfl ?_
                      refine rk rfl rfl rfl (by first | exact .inl rfl | exact .inr rfl) rfl ?_
                      refine rp rfl w0 rfl (pu_pick_f (r := .d _) rfl rfl) ?_
                      refine rp rfl w0 rfl (pu_move (r := .d _) rfl) ?_
                      refine rk rfl rfl rfl (by first | exact .inl rfl | exact .inr rfl) rfl ?_
                      refine rk rfl rfl rfl (by first | exact .inl rfl | exact .inr rfl) rfl ?_
                      refine rk rfl rfl rfl (by first | exact .inl rfl | exact .inr rfl) rfl ?_
                      refine rk rfl rfl rfl (by first | exact .inl rfl | exact .inr rfl) rfl ?_
                      refine rk rfl rfl rfl (by first | exact .inl rfl | exact .inr rfl) rfl ?_
                      refine rp rfl w0 rfl (pu_pick_f (r := .d _) rfl rfl) ?_
                      refine rp rfl w0 rfl (pu_move (r := .d _) rfl) ?_
                      refine rk rfl rfl rfl (by first | exact .inl rfl | exact .inr rfl) rfl ?_
                      refine rk rfl rfl rfl (by first | exact .inl rfl | exact .inr rfl) rfl ?_
                      refine rk rfl rfl rfl (by first | exact .inl rfl | exact .inr rfl) rfl ?_
                      refine rk rfl rfl rfl (by first | exact .inl rfl | exact .inr rfl) rfl ?_
                      refine rk rfl rfl rfl (by first | exact .inl rfl | exact .inr rfl) rfl ?_
                      refine rk rfl rfl rfl (by first | exact .inl rfl | exact .inr rfl) rfl ?_
                      refine rk rfl rfl rfl (by first | exact .inl rfl | exact .inr rfl) rfl ?_
                      refine rk rfl rfl rfl (by first | exact .inl rfl | exact .inr rfl) rfl ?_
                      refine rk rfl rfl rfl (by first | exact .inl rfl | exact .inr rfl) rfl ?_
                      refine rp rfl w0 rfl (pu_pick_f (r := .d _) rfl rfl) ?_
                      refine rp rfl w0 rfl (pu_assign (r := .d _) rfl) ?_
                      refine ra_nil ?_
                      refine then_n ?_
                      refine aw_ret ?_
                      cases h0
                      exact ret0_ (rs := [.tmp 2]) rfl
                  · skip
                    refine rk rfl rfl rfl (by first | exact .inl rfl | exact .inr rfl) rfl ?_
                    refine rk rfl rfl rfl (by first | exact .inl rfl | exact .inr rfl) rfl ?_
                    refine rk rfl rfl rfl (by first | exact .inl rfl | exact .inr rfl) rfl ?_
                    refine rp rfl w0 rfl (pu_pick_f (r := .d _) rfl rfl) ?_
                    refine rp rfl w0 rfl (pu_move (r := .d _) rfl) ?_
                    refine rk rfl rfl rfl (by first | exact .inl rfl | exact .inr rfl) rfl ?_
                    refine rk rfl rfl rfl (by first | exact .inl rfl | exact .inr rfl) rfl ?_
                    refine rk rfl rfl rfl (by first | exact .inl rfl | exact .inr rfl) rfl ?_
                    refine rk rfl rfl rfl (by first | exact .inl rfl | exact .inr rfl) rfl ?_
                    refine rk rfl rfl rfl (by first | exact .inl rfl | exact .inr rfl) rfl ?_
                    refine rp rfl w0 rfl (pu_pick_f (r := .d _) rfl rfl) ?_
                    refine rp rfl w0 rfl (pu_move (r := .d _) rfl) ?_
                    refine rk rfl rfl rfl (by first | exact .inl rfl | exact .inr rfl) rfl ?_
                    refine rk rfl rfl rfl (by first | exact .inl rfl | exact .inr rfl) rfl ?_
                    refine rk rfl rfl rfl (by first | exact .inl rfl | exact .inr rfl) rfl ?_
                    refine rk rfl rfl rfl (by first | exact .inl rfl | exact .inr rfl) rfl ?_
                    refine rk rfl rfl rfl (by first | exact .inl rfl | exact .inr rfl) rfl ?_
                    refine rp rfl w0 rfl (pu_pick_f (r := .d _) rfl rfl) ?_
                    refine rp rfl w0 rfl (pu_move (r := .d _) rfl) ?_
                    refine rk rfl rfl rfl (by first | exact .inl rfl | exact .inr rfl) rfl ?_
                    refine rk rfl rfl rfl (by first | exact .inl rfl | exact .inr rfl) rfl ?_
                    refine rk rfl rfl rfl (by first | exact .inl rfl | exact .inr rfl) rfl ?_
                    refine rk rfl rfl rfl (by first | exact .inl rfl | exact .inr rfl) rfl ?_
                    refine rk rfl rfl rfl (by first | exact .inl rfl | exact .inr rfl) rfl ?_
                    refine rk rfl rfl rfl (by first | exact .inl rfl | exact .inr rfl) rfl ?_
                    refine rk rfl rfl rfl (by first | exact .inl rfl | exact .inr rfl) rfl ?_
                    refine rk rfl rfl rfl (by first | exact .inl rfl | exact .inr rfl) rfl ?_
                    refine rk rfl rfl rfl (by first | exact .inl rfl | exact .inr rfl) rfl ?_
                    refine rp rfl w0 rfl (pu_pick_f (r := .d _) rfl rfl) ?_
                    refine rp rfl w0 rfl (pu_assign (r := .d _) rfl) ?_
                    refine ra_nil ?_
                    refine then_n ?_
                    refine aw_ret ?_
                    cases h0
                    exact ret0_ (rs := [.tmp 2]) rfl
                · skip
                  refine rk rfl rfl rfl (by first | exact .inl rfl | exact .inr rfl) rfl ?_
                  refine rk rfl rfl rfl (by first | exact .inl rfl | exact .inr rfl) rfl ?_
                  refine rk rfl rfl rfl (by first | exact .inl rfl | exact .inr rfl) rfl ?_
                  refine rp rfl w0 rfl (pu_pick_f (r := .d _) rfl rfl) ?_
                  refine rp rfl w0 rfl (pu_move (r := .d _) rfl) ?_
                  refine rk rfl rfl rfl (by first | exact .inl rfl | exact .inr rfl) rfl ?_
                  refine rk rfl rfl rfl (by first | exact .inl rfl | exact .inr rfl) rfl ?_
                  refine rk rfl rfl rfl (by first | exact .inl rfl | exact .inr rfl) rfl ?_
                  refine rp rfl w0 rfl (pu_pick_f (r := .d _) rfl rfl) ?_
                  refine rp rfl w0 rfl (pu_move (r := .d _) rfl) ?_
                  refine rk rfl rfl rfl (by first | exact .inl rfl | exact .inr rfl) rfl ?_
                  refine rk rfl rfl rfl (by first | exact .inl rfl | exact .inr rfl) rfl ?_
                  refine rk rfl rfl rfl (by first | exact .inl rfl | exact .inr rfl) rfl ?_
                  refine rk rfl rfl rfl (by first | exact .inl rfl | exact .inr rfl) rfl ?_
                  refine rk rfl rfl rfl (by first | exact .inl rfl | exact .inr rfl) rfl ?_
                  refine rp rfl w0 rfl (pu_pick_f (r := .d _) rfl rfl) ?_
                  refine rp rfl w0 rfl (pu_move (r := .d _) rfl) ?_
                  refine rk rfl rfl rfl (by first | exact .inl rfl | exact .inr rfl) rfl ?_
                  refine rk rfl rfl rfl (by first | exact .inl rfl | exact .inr rfl) rfl ?_
                  refine rk rfl rfl rfl (by first | exact .inl rfl | exact .inr rfl) rfl ?_
                  refine rk rfl rfl rfl (by first | exact .inl rfl | exact .inr rfl) rfl ?_
                  refine rk rfl rfl rfl (by first | exact .inl rfl | exact .inr rfl) rfl ?_
                  refine rp rfl w0 rfl (pu_pick_f (r := .d _) rfl rfl) ?_
                  refine rp rfl w0 rfl (pu_move (r := .d _) rfl) ?_
                  refine rk rfl rfl rfl (by first | exact .inl rfl | exact .inr rfl) rfl ?_
                  refine rk rfl rfl rfl (by first | exact .inl rfl | exact .inr rfl) rfl ?_
                  refine rk rfl rfl rfl (by first | exact .inl rfl | exact .inr rfl) rfl ?_
                  refine rk rfl rfl rfl (by first | exact .inl rfl | exact .inr rfl) rfl ?_
                  refine rk rfl rfl rfl (by first | exact .inl rfl | exact .inr rfl) rfl ?_
                  refine rk rfl rfl rfl (by first | exact .inl rfl | exact .inr rfl) rfl ?_
                  refine rk rfl rfl rfl (by first | exact .inl rfl | exact .inr rfl) rfl ?_
                  refine rk rfl rfl rfl (by first | exact .inl rfl | exact .inr rfl) rfl ?_
                  refine rk rfl rfl rfl (by first | exact .inl rfl | exact .inr rfl) rfl ?_
                  refine rp rfl w0 rfl (pu_pick_f (r := .d _) rfl rfl) ?_
                  refine rp rfl w0 rfl (pu_assign (r := .d _) rfl) ?_
                  refine ra_nil ?_
                  refine then_n ?_
                  refine aw_ret ?_
                  cases h0
                  exact ret0_ (rs := [.tmp 2]) rfl

end Go.Proofs.Ytplnohfjeilodaa
