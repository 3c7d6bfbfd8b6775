/- drawings, held marks -/
import Derived.Test.YtplnohfjeilodaaTab
import Derived.Test.YtplnohfjeilodaaM26
import Derived.Test.YtplnohfjeilodaaProg
namespace Go.Proofs.Ytplnohfjeilodaa
open Go.RowKit
set_option linter.unusedVariables false
set_option maxRecDepth 100000
theorem heldShapeS_a (n k : Nat) (h0 : 0 < k) (h1 : k ≤ 1000000) (hm : n ≤ 1048576) : FnC Try.prog 60 [] [.d (.sl (shpsD (mkShps k n))), .d (.v (.int .i64 ((k : Int))))] [] (.d (.v (.int .i64 ((k : Int) + 7 * (n : Int))))) := by
  refine fnc_intro (T := tt) (N := 81) tok Try.func60 rfl rfl (by kernel_rfl) rfl rfl ?_
  refine aw_seq ?_
  refine aw_region (is := [0]) rfl ?_
  refine rt_p rfl (want_none rfl) rfl (pu_assign (r := .d _) rfl) ?_
  refine rt_nil ?_
  refine then_n ?_
  refine aw_seq ?_
  refine aw_seq ?_
  refine aw_region (is := [0]) rfl ?_
  refine rt_p rfl (want_none rfl) rfl (pu_assign (r := .d _) rfl) ?_
  refine rt_nil ?_
  refine then_n ?_
  refine aw_block ?_
  refine aw_loop (ι := {j : Nat // j ≤ n}) (fun p => ⟨updA (updA (updA ((fun _ => .dead)) 0 (.d (.sl (shpsD (mkShps k n))))) 1 (.d (.v (.int .i64 ((k : Int) + 7 * (p.1 : Int)))))) 5 (.d (.v (.int .i64 (p.1)))), lks [.no, .no, .no]⟩) (fun p => n - p.1) ⟨0, by omega⟩ ?_ ?_
  · (refine weak_of 200 (by repeat (first | exact abv_nil _ | exact abv_lks rfl | refine abv_upd ?_ rfl)) rfl (by repeat (first | exact WT.nil | refine WT.free_ rfl (by first | exact rfl | exact eqI (by omega) | exact eqI (by simp <;> fail) | exact eqI (by simp; omega) | exact eqOwn (by simp <;> fail) | exact eqOwn (by simp; omega) | (simp_all <;> fail)) ?_ | refine WT.ren_ (r' := _) rfl (by repeat (first | exact RenRL.nil | apply RenRL.cons | exact RenR.d _ | exact RenR.of_d (by first | exact rfl | exact eqI (by omega) | exact eqI (by simp <;> fail) | exact eqI (by simp; omega)) | apply RenR.agg | apply RenR.tup | exact RenR.own _ _ _ _ rfl | exact RenR.of_own (by first | rfl | (omega) | (simp <;> fail) | (simp; omega)) rfl | exact RenR.ptr _ _ _ _ _ _ rfl | exact RenR.ref _ | apply RenR.fn | exact RenR.dead)) ?_)) (by repeat (first | exact WH.nil _ | refine WH.data_ (by first | exact rfl | exact eqI (by omega) | exact eqI (by simp <;> fail) | exact eqI (by simp; omega) | exact eqOwn (by simp <;> fail) | exact eqOwn (by simp; omega) | (simp_all <;> fail)) ?_ | refine WH.cons (by first | exact rfl | exact eqI (by omega) | exact eqI (by simp <;> fail) | exact eqI (by simp; omega) | exact eqOwn (by simp <;> fail) | exact eqOwn (by simp; omega) | (simp_all <;> fail)) (by first | exact RenS.no | exact RenS.dead | exact RenS.data _ _ _ | (apply RenS.box; repeat (first | exact RenRL.nil | apply RenRL.cons | exact RenR.d _ | exact RenR.of_d (by first | exact rfl | exact eqI (by omega) | exact eqI (by simp <;> fail) | exact eqI (by simp; omega)) | apply RenR.agg | apply RenR.tup | exact RenR.own _ _ _ _ rfl | exact RenR.of_own (by first | rfl | (omega) | (simp <;> fail) | (simp; omega)) rfl | exact RenR.ptr _ _ _ _ _ _ rfl | exact RenR.ref _ | apply RenR.fn | exact RenR.dead)) | exact RenS.gen _) ?_)) rfl)
  · rintro ⟨j, hj⟩
    have hml := mkShps_len k n
    rcases Nat.lt_or_ge j n with hlt | hge
    · skip
      have hs := mkShps_get (k := k) hlt
      refine aw_seq ?_
      refine aw_seq ?_
      refine aw_region (is := [0, 1, 2, 3]) rfl ?_
      refine rt_p rfl (want_none rfl) rfl (pu_move (r := .d _) rfl) ?_
      refine rt_p rfl (want_none rfl) rfl (pu_move (r := .d _) rfl) ?_
      refine rt_p rfl (want_none rfl) rfl (pu_len_map tok rfl rfl rfl) ?_
      refine rt_p rfl (want_none rfl) rfl (pu_lss rfl rfl) ?_
      refine rt_nil ?_
      refine then_n ?_
      refine aw_condP _ rfl (fun hc => ?_) (fun hc => ?_)
      · skip
        refine aw_skip ?_
        refine then_n ?_
        refine aw_seq ?_
        refine aw_block ?_
        refine aw_seq ?_
        refine aw_seq ?_
        refine aw_region (is := [0, 1, 2, 3, 4, 5, 6]) rfl ?_
        refine rt_p rfl (want_none rfl) rfl (pu_move (r := .d _) rfl) ?_
        refine rt_p rfl (want_none rfl) rfl (pu_move (r := .d _) rfl) ?_
        refine rt_p rfl (want_none rfl) rfl (pu_index_sl tok rfl rfl (by first | rfl | omega) rfl rfl rfl (by first | rfl | exact map_at (by assumption) | assumption) rfl) ?_
        refine rt_p rfl (want_none rfl) rfl (pu_fieldAddr_ref tok rfl rfl rfl rfl rfl rfl (by repeat (first | exact Drp.z _ | apply Drp.d))) ?_
        refine rt_p rfl (want_none rfl) rfl (pu_load_ref1 tok rfl rfl rfl rfl) ?_
        refine rt_p rfl (want_none rfl) rfl (pu_move (r := .d _) rfl) ?_
        refine rt_p rfl (want_none rfl) rfl (pu_neq rfl rfl) ?_
        refine rt_nil ?_
        refine then_n ?_
        refine aw_condP _ rfl (fun hc => ?_) (fun hc => ?_)
        · exfalso; apply hc; simp [mkShp]; done
        · skip
          refine aw_skip ?_
          refine then_n ?_
          refine aw_seq ?_
          refine aw_region (is := [0, 1, 2]) rfl ?_
          refine rt_p rfl (want_none rfl) rfl (pu_move (r := .d _) rfl) ?_
          refine rt_p rfl (want_none rfl) rfl (pu_add rfl rfl (by omega) (by omega)) ?_
          refine rt_p rfl (want_none rfl) rfl (pu_assign (r := .d _) rfl) ?_
          refine rt_nil ?_
          refine then_n ?_
          refine aw_seq ?_
          refine aw_seq ?_
          refine aw_region (is := [0, 1, 2, 3, 4, 5, 6, 7]) rfl ?_
          refine rt_p rfl (want_none rfl) rfl (pu_move (r := .d _) rfl) ?_
          refine rt_p rfl (want_none rfl) rfl (pu_move (r := .d _) rfl) ?_
          refine rt_p rfl (want_none rfl) rfl (pu_index_sl tok rfl rfl (by first | rfl | omega) rfl rfl rfl (by first | rfl | exact map_at (by assumption) | assumption) rfl) ?_
          refine rt_p rfl (want_none rfl) rfl (pu_fieldAddr_ref tok rfl rfl rfl rfl rfl rfl (by repeat (first | exact Drp.z _ | apply Drp.d))) ?_
          refine rt_p rfl (want_none rfl) rfl (pu_fieldAddr_ref tok rfl rfl rfl rfl rfl rfl (by repeat (first | exact Drp.z _ | apply Drp.d))) ?_
          refine rt_p rfl (want_none rfl) rfl (pu_load_ref1 tok rfl rfl rfl rfl) ?_
          refine rt_p rfl (want_none rfl) rfl (pu_move (r := .d _) rfl) ?_
          refine rt_p rfl (want_none rfl) rfl (pu_neq rfl rfl) ?_
          refine rt_nil ?_
          refine then_n ?_
          refine aw_condP _ rfl (fun hc => ?_) (fun hc => ?_)
          · exfalso; apply hc; simp [mkShp]; done
          · skip
            refine aw_skip ?_
            refine then_n ?_
            refine aw_seq ?_
            refine aw_region (is := [0, 1, 2]) rfl ?_
            refine rt_p rfl (want_none rfl) rfl (pu_move (r := .d _) rfl) ?_
            refine rt_p rfl (want_none rfl) rfl (pu_add rfl rfl (by omega) (by omega)) ?_
            refine rt_p rfl (want_none rfl) rfl (pu_assign (r := .d _) rfl) ?_
            refine rt_nil ?_
            refine then_n ?_
            refine aw_seq ?_
            refine aw_seq ?_
            refine aw_region (is := [0, 1, 2, 3, 4, 5, 6, 7]) rfl ?_
            refine rt_p rfl (want_none rfl) rfl (pu_move (r := .d _) rfl) ?_
            refine rt_p rfl (want_none rfl) rfl (pu_move (r := .d _) rfl) ?_
            refine rt_p rfl (want_none rfl) rfl (pu_index_sl tok rfl rfl (by first | rfl | omega) rfl rfl rfl (by first | rfl | exact map_at (by assumption) | assumption) rfl) ?_
            refine rt_p rfl (want_none rfl) rfl (pu_fieldAddr_ref tok rfl rfl rfl rfl rfl rfl (by repeat (first | exact Drp.z _ | apply Drp.d))) ?_
            refine rt_p rfl (want_none rfl) rfl (pu_fieldAddr_ref tok rfl rfl rfl rfl rfl rfl (by repeat (first | exact Drp.z _ | apply Drp.d))) ?_
            refine rt_p rfl (want_none rfl) rfl (pu_load_ref1 tok rfl rfl rfl rfl) ?_
            refine rt_p rfl (want_none rfl) rfl (pu_move (r := .d _) rfl) ?_
            refine rt_p rfl (want_none rfl) rfl (pu_neq rfl rfl) ?_
            refine rt_nil ?_
            refine then_n ?_
            refine aw_condP _ rfl (fun hc => ?_) (fun hc => ?_)
            · exfalso; apply hc; simp [mkShp]; omega
            · skip
              refine aw_skip ?_
              refine then_n ?_
              refine aw_seq ?_
              refine aw_region (is := [0, 1, 2]) rfl ?_
              refine rt_p rfl (want_none rfl) rfl (pu_move (r := .d _) rfl) ?_
              refine rt_p rfl (want_none rfl) rfl (pu_add rfl rfl (by omega) (by omega)) ?_
              refine rt_p rfl (want_none rfl) rfl (pu_assign (r := .d _) rfl) ?_
              refine rt_nil ?_
              refine then_n ?_
              refine aw_seq ?_
              refine aw_seq ?_
              refine aw_region (is := [0, 1, 2, 3, 4, 5, 6, 7]) rfl ?_
              refine rt_p rfl (want_none rfl) rfl (pu_move (r := .d _) rfl) ?_
              refine rt_p rfl (want_none rfl) rfl (pu_move (r := .d _) rfl) ?_
              refine rt_p rfl (want_none rfl) rfl (pu_index_sl tok rfl rfl (by first | rfl | omega) rfl rfl rfl (by first | rfl | exact map_at (by assumption) | assumption) rfl) ?_
              refine rt_p rfl (want_none rfl) rfl (pu_fieldAddr_ref tok rfl rfl rfl rfl rfl rfl (by repeat (first | exact Drp.z _ | apply Drp.d))) ?_
              refine rt_p rfl (want_none rfl) rfl (pu_fieldAddr_ref tok rfl rfl rfl rfl rfl rfl (by repeat (first | exact Drp.z _ | apply Drp.d))) ?_
              refine rt_p rfl (want_none rfl) rfl (pu_load_ref1 tok rfl rfl rfl rfl) ?_
              refine rt_p rfl (want_none rfl) rfl (pu_move (r := .d _) rfl) ?_
              refine rt_p rfl (want_none rfl) rfl (pu_neq rfl rfl) ?_
              refine rt_nil ?_
              refine then_n ?_
              refine aw_condP _ rfl (fun hc => ?_) (fun hc => ?_)
              · exfalso; apply hc; simp [mkShp]; omega
              · skip
                refine aw_skip ?_
                refine then_n ?_
                refine aw_seq ?_
                refine aw_region (is := [0, 1, 2]) rfl ?_
                refine rt_p rfl (want_none rfl) rfl (pu_move (r := .d _) rfl) ?_
                refine rt_p rfl (want_none rfl) rfl (pu_add rfl rfl (by omega) (by omega)) ?_
                refine rt_p rfl (want_none rfl) rfl (pu_assign (r := .d _) rfl) ?_
                refine rt_nil ?_
                refine then_n ?_
                refine aw_seq ?_
                refine aw_seq ?_
                refine aw_region (is := [0, 1, 2, 3, 4, 5, 6, 7]) rfl ?_
                refine rt_p rfl (want_none rfl) rfl (pu_move (r := .d _) rfl) ?_
                refine rt_p rfl (want_none rfl) rfl (pu_move (r := .d _) rfl) ?_
                refine rt_p rfl (want_none rfl) rfl (pu_index_sl tok rfl rfl (by first | rfl | omega) rfl rfl rfl (by first | rfl | exact map_at (by assumption) | assumption) rfl) ?_
                refine rt_p rfl (want_none rfl) rfl (pu_fieldAddr_ref tok rfl rfl rfl rfl rfl rfl (by repeat (first | exact Drp.z _ | apply Drp.d))) ?_
                refine rt_p rfl (want_none rfl) rfl (pu_fieldAddr_ref tok rfl rfl rfl rfl rfl rfl (by repeat (first | exact Drp.z _ | apply Drp.d))) ?_
                refine rt_p rfl (want_none rfl) rfl (pu_load_ref1 tok rfl rfl rfl rfl) ?_
                refine rt_p rfl (want_none rfl) rfl (pu_move (r := .d _) rfl) ?_
                refine rt_p rfl (want_none rfl) rfl (pu_neq rfl rfl) ?_
                refine rt_nil ?_
                refine then_n ?_
                refine aw_condP _ rfl (fun hc => ?_) (fun hc => ?_)
                · exfalso; apply hc; simp [mkShp]; omega
                · skip
                  refine aw_skip ?_
                  refine then_n ?_
                  refine aw_seq ?_
                  refine aw_region (is := [0, 1, 2]) rfl ?_
                  refine rt_p rfl (want_none rfl) rfl (pu_move (r := .d _) rfl) ?_
                  refine rt_p rfl (want_none rfl) rfl (pu_add rfl rfl (by omega) (by omega)) ?_
                  refine rt_p rfl (want_none rfl) rfl (pu_assign (r := .d _) rfl) ?_
                  refine rt_nil ?_
                  refine then_n ?_
                  refine aw_seq ?_
                  refine aw_seq ?_
                  refine aw_region (is := [0, 1, 2, 3, 4, 5, 6]) rfl ?_
                  refine rt_p rfl (want_none rfl) rfl (pu_move (r := .d _) rfl) ?_
                  refine rt_p rfl (want_none rfl) rfl (pu_move (r := .d _) rfl) ?_
                  refine rt_p rfl (want_none rfl) rfl (pu_index_sl tok rfl rfl (by first | rfl | omega) rfl rfl rfl (by first | rfl | exact map_at (by assumption) | assumption) rfl) ?_
                  refine rt_p rfl (want_none rfl) rfl (pu_fieldAddr_ref tok rfl rfl rfl rfl rfl rfl (by repeat (first | exact Drp.z _ | apply Drp.d))) ?_
                  refine rt_p rfl (want_none rfl) rfl (pu_load_ref1 tok rfl rfl rfl rfl) ?_
                  refine rt_p rfl (want_none rfl) rfl (pu_move (r := .d _) rfl) ?_
                  refine rt_p rfl (want_none rfl) rfl (pu_neq rfl rfl) ?_
                  refine rt_nil ?_
                  refine then_n ?_
                  refine aw_condP _ rfl (fun hc => ?_) (fun hc => ?_)
                  · exfalso; apply hc; simp [mkShp]; omega
                  · skip
                    refine aw_skip ?_
                    refine then_n ?_
                    refine aw_seq ?_
                    refine aw_region (is := [0, 1, 2]) rfl ?_
                    refine rt_p rfl (want_none rfl) rfl (pu_move (r := .d _) rfl) ?_
                    refine rt_p rfl (want_none rfl) rfl (pu_add rfl rfl (by omega) (by omega)) ?_
                    refine rt_p rfl (want_none rfl) rfl (pu_assign (r := .d _) rfl) ?_
                    refine rt_nil ?_
                    refine then_n ?_
                    refine aw_seq ?_
                    refine aw_seq ?_
                    refine aw_region_draw (is := [0, 1, 2, 3, 4, 5, 6, 7]) follows ?_
                    refine rt_p rfl (want_none rfl) rfl (pu_move (r := .d _) rfl) ?_
                    refine rt_p rfl (want_none rfl) rfl (pu_move (r := .d _) rfl) ?_
                    refine rt_p rfl (want_none rfl) rfl (pu_index_sl tok rfl rfl (by first | rfl | omega) rfl rfl rfl (by first | rfl | exact map_at (by assumption) | assumption) rfl) ?_
                    refine rt_p rfl (want_none rfl) rfl (pu_fieldAddr_ref tok rfl rfl rfl rfl rfl rfl (by repeat (first | exact Drp.z _ | apply Drp.d))) ?_
                    refine rt_p rfl (want_none rfl) rfl (pu_load_ref1 tok rfl rfl rfl rfl) ?_
                    refine rt_p rfl (want_none rfl) rfl (pu_move (r := .d _) rfl) ?_
                    refine rt_c rfl (want_none rfl) rfl (sb_call 3 rfl rfl rfl (markText_a (k + 7 * j + 6) (by omega) (by omega)) (by repeat (first | exact abv_nil _ | exact abv_lks rfl | refine abv_upd ?_ rfl)) (by repeat (first | exact RenRL.nil | apply RenRL.cons | exact RenR.d _ | apply RenR.agg | apply RenR.tup | exact RenR.own _ _ _ _ rfl | exact RenR.ptr _ _ _ _ _ _ rfl | exact RenR.ref _ | apply RenR.fn | exact RenR.dead)) (by repeat (first | exact BirR.nil _ _ | (apply BirR.cons; (first | exact RenS.no | exact RenS.dead | exact RenS.data _ _ _ | (apply RenS.box; repeat (first | exact RenRL.nil | apply RenRL.cons | exact RenR.d _ | apply RenR.agg | apply RenR.tup | exact RenR.own _ _ _ _ rfl | exact RenR.ptr _ _ _ _ _ _ rfl | exact RenR.ref _ | apply RenR.fn | exact RenR.dead)) | exact RenS.gen _))))) ?_
                    refine rt_p rfl (want_none rfl) rfl (pu_sneq rfl rfl) ?_
                    refine rt_nil ?_
                    refine ⟨by kernel_rfl, ?_⟩
                    refine then_n ?_
                    refine aw_condP _ rfl (fun hc => ?_) (fun hc => ?_)
                    · exfalso; apply hc; simp [mkShp]; done
                    · skip
                      refine aw_skip ?_
                      refine then_n ?_
                      refine aw_region (is := [0, 1, 2]) rfl ?_
                      refine rt_p rfl (want_none rfl) rfl (pu_move (r := .d _) rfl) ?_
                      refine rt_p rfl (want_none rfl) rfl (pu_add rfl rfl (by omega) (by omega)) ?_
                      refine rt_p rfl (want_none rfl) rfl (pu_assign (r := .d _) rfl) ?_
                      refine rt_nil ?_
                      refine block_n ?_
                      refine then_n ?_
                      refine aw_region (is := [0, 1, 2]) rfl ?_
                      refine rt_p rfl (want_none rfl) rfl (pu_move (r := .d _) rfl) ?_
                      refine rt_p rfl (want_none rfl) rfl (pu_add rfl rfl (by omega) (by omega)) ?_
                      refine rt_p rfl (want_none rfl) rfl (pu_assign (r := .d _) rfl) ?_
                      refine rt_nil ?_
                      refine then_n ?_
                      refine ⟨⟨j + 1, by omega⟩, (by simp; omega), ?_⟩
                      (refine weak_of 200 (by repeat (first | exact abv_nil _ | exact abv_lks rfl | refine abv_upd ?_ rfl)) rfl (by repeat (first | exact WT.nil | refine WT.free_ rfl (by first | exact rfl | (exact eqI (by push_cast; omega)) | exact eqI (by omega) | exact eqI (by simp <;> fail) | exact eqI (by simp; omega) | exact eqOwn (by simp <;> fail) | exact eqOwn (by simp; omega) | (simp_all <;> fail)) ?_ | refine WT.ren_ (r' := _) rfl (by repeat (first | exact RenRL.nil | apply RenRL.cons | exact RenR.d _ | exact RenR.of_d (by first | (exact eqI (by push_cast; omega)) | exact eqI (by omega) | exact eqI (by simp <;> fail) | exact eqI (by simp; omega)) | apply RenR.agg | apply RenR.tup | exact RenR.own _ _ _ _ rfl | exact RenR.of_own (by first | rfl | (omega) | (simp <;> fail) | (simp; omega)) rfl | exact RenR.ptr _ _ _ _ _ _ rfl | exact RenR.ref _ | apply RenR.fn | exact RenR.dead)) ?_)) (by repeat (first | exact WH.nil _ | refine WH.data_ (by first | exact rfl | (exact eqI (by push_cast; omega)) | exact eqI (by omega) | exact eqI (by simp <;> fail) | exact eqI (by simp; omega) | exact eqOwn (by simp <;> fail) | exact eqOwn (by simp; omega) | (simp_all <;> fail)) ?_ | refine WH.cons (by first | exact rfl | (exact eqI (by push_cast; omega)) | exact eqI (by omega) | exact eqI (by simp <;> fail) | exact eqI (by simp; omega) | exact eqOwn (by simp <;> fail) | exact eqOwn (by simp; omega) | (simp_all <;> fail)) (by first | exact RenS.no | exact RenS.dead | exact RenS.data _ _ _ | (apply RenS.box; repeat (first | exact RenRL.nil | apply RenRL.cons | exact RenR.d _ | exact RenR.of_d (by first | (exact eqI (by push_cast; omega)) | exact eqI (by omega) | exact eqI (by simp <;> fail) | exact eqI (by simp; omega)) | apply RenR.agg | apply RenR.tup | exact RenR.own _ _ _ _ rfl | exact RenR.of_own (by first | rfl | (omega) | (simp <;> fail) | (simp; omega)) rfl | exact RenR.ptr _ _ _ _ _ _ rfl | exact RenR.ref _ | apply RenR.fn | exact RenR.dead)) | exact RenS.gen _) ?_)) rfl)
      · exfalso; simp at hc; omega
    · skip
      refine aw_seq ?_
      refine aw_seq ?_
      refine aw_region (is := [0, 1, 2, 3]) rfl ?_
      refine rt_p rfl (want_none rfl) rfl (pu_move (r := .d _) rfl) ?_
      refine rt_p rfl (want_none rfl) rfl (pu_move (r := .d _) rfl) ?_
      refine rt_p rfl (want_none rfl) rfl (pu_len_map tok rfl rfl rfl) ?_
      refine rt_p rfl (want_none rfl) rfl (pu_lss rfl rfl) ?_
      refine rt_nil ?_
      refine then_n ?_
      refine aw_condP _ rfl (fun hc => ?_) (fun hc => ?_)
      · exfalso; simp at hc; omega
      · skip
        refine aw_exit ?_
        refine then_e ?_
        refine then_e ?_
        refine block_hit ?_
        refine then_n ?_
        refine aw_seq ?_
        refine aw_region (is := [0, 1]) rfl ?_
        refine rt_p rfl (want_none rfl) rfl (pu_move (r := .d _) rfl) ?_
        refine rt_p rfl (want_none rfl) rfl (pu_assign (r := .d _) rfl) ?_
        refine rt_nil ?_
        refine then_n ?_
        refine aw_ret ?_
        refine ret0 (rs := [.tmp 4]) 200 rfl (by repeat (first | exact ResR.nil | apply ResR.tmp (a := .d _) rfl | apply ResR.tmp (a := .ptr _ _ _ _ _) rfl | apply ResR.tmp (a := .own _ _ _) rfl | apply ResR.tmp (a := .agg _) rfl | apply ResR.tmp (a := .ref _) rfl | apply ResR.tmp (a := .tup _) rfl | apply ResR.tmp (a := .fn _ _) rfl | apply ResR.tmp (a := .dead) rfl | apply ResR.cell1 rfl rfl rfl rfl (by first | rfl | (simp [Cells.len] <;> omega)) (by first | rfl | exact data_get (map_at (by assumption)) | exact data_get (by assumption) | exact data_get (List.getElem?_set_self (by simp; omega)) | exact data_get (List.getElem?_set_self (by simpa using hlt))) rfl | apply ResR.cellN rfl rfl rfl rfl (by first | rfl | (simp [Cells.len] <;> omega)) (by first | rfl | exact data_get (map_at (by assumption)) | exact data_get (by assumption) | exact data_get (List.getElem?_set_self (by simp; omega)) | exact data_get (List.getElem?_set_self (by simpa using hlt))) (by repeat (first | exact Seg.z _ | apply Seg.t | apply Seg.d)))) (by repeat (first | exact abv_nil _ | exact abv_lks rfl | refine abv_upd ?_ rfl)) rfl ?_
        obtain rfl : j = n := by omega
        rfl
theorem heldDrawing_a (n k : Nat) (h0 : 0 < k) (h1 : k ≤ 1000000) (hm : n ≤ 1048576) : FnC Try.prog 22 [] [.agg [.d (.sl (shpsD (mkShps k n)))], .d (.v (.int .i64 ((k : Int))))] [] (.d (.v (.int .i64 ((k : Int) + 7 * (n : Int))))) := by
  refine fnc_intro (T := tt) (N := 12) tok Try.func22 rfl rfl (by kernel_rfl) rfl rfl ?_
  refine aw_seq ?_
  refine aw_region (is := [0, 1]) rfl ?_
  refine rt_s rfl (want_none rfl) rfl (st_box 3 (cs := _ :: _) rfl rfl rfl) ?_
  refine rt_p rfl (want_none rfl) rfl (pu_assign (r := .d _) rfl) ?_
  refine rt_nil ?_
  refine then_n ?_
  refine aw_seq ?_
  refine aw_region (is := [0, 1, 2, 3, 4]) rfl ?_
  refine rt_l rfl (want_none rfl) rfl (li_fieldAddr tok rfl rfl rfl rfl rfl rfl rfl (by first | rfl | (simp [Cells.len] <;> omega)) (by first | rfl | exact data_get (map_at (by assumption)) | exact data_get (by assumption) | exact data_get (List.getElem?_set_self (by simp; omega)) | exact data_get (List.getElem?_set_self (by simpa using hlt)))) ?_
  refine rt_l rfl (want_none rfl) rfl (li_load1 tok rfl rfl rfl rfl (by first | rfl | (simp [Cells.len] <;> omega)) (by first | rfl | exact data_get (map_at (by assumption)) | exact data_get (by assumption) | exact data_get (List.getElem?_set_self (by simp; omega)) | exact data_get (List.getElem?_set_self (by simpa using hlt))) rfl) ?_
  refine rt_p rfl (want_none rfl) rfl (pu_move (r := .d _) rfl) ?_
  refine rt_s rfl (want_none rfl) rfl (st_call 4 rfl rfl rfl (heldShapeS_a n k h0 h1 hm) (by repeat (first | exact abv_nil _ | exact abv_lks rfl | refine abv_upd ?_ rfl)) (by repeat (first | exact RenRL.nil | apply RenRL.cons | exact RenR.d _ | apply RenR.agg | apply RenR.tup | exact RenR.own _ _ _ _ rfl | exact RenR.ptr _ _ _ _ _ _ rfl | exact RenR.ref _ | apply RenR.fn | exact RenR.dead)) (by repeat (first | exact BirR.nil _ _ | (apply BirR.cons; (first | exact RenS.no | exact RenS.dead | exact RenS.data _ _ _ | (apply RenS.box; repeat (first | exact RenRL.nil | apply RenRL.cons | exact RenR.d _ | apply RenR.agg | apply RenR.tup | exact RenR.own _ _ _ _ rfl | exact RenR.ptr _ _ _ _ _ _ rfl | exact RenR.ref _ | apply RenR.fn | exact RenR.dead)) | exact RenS.gen _))))) ?_
  refine rt_p rfl (want_none rfl) rfl (pu_assign (r := .d _) rfl) ?_
  refine rt_nil ?_
  refine then_n ?_
  refine aw_seq ?_
  refine aw_seq ?_
  refine aw_region (is := [0, 1]) rfl ?_
  refine rt_p rfl (want_none rfl) rfl (pu_move (r := .d _) rfl) ?_
  refine rt_p rfl (want_none rfl) rfl (pu_lss rfl rfl) ?_
  refine rt_nil ?_
  refine then_n ?_
  refine aw_condP _ rfl (fun hc => ?_) (fun hc => ?_)
  · exfalso; omega
  · skip
    refine aw_skip ?_
    refine then_n ?_
    refine aw_seq ?_
    refine aw_region (is := [0, 1]) rfl ?_
    refine rt_p rfl (want_none rfl) rfl (pu_move (r := .d _) rfl) ?_
    refine rt_p rfl (want_none rfl) rfl (pu_assign (r := .d _) rfl) ?_
    refine rt_nil ?_
    refine then_n ?_
    refine aw_ret ?_
    refine ret0 (rs := [.tmp 4]) 200 rfl (by repeat (first | exact ResR.nil | apply ResR.tmp (a := .d _) rfl | apply ResR.tmp (a := .ptr _ _ _ _ _) rfl | apply ResR.tmp (a := .own _ _ _) rfl | apply ResR.tmp (a := .agg _) rfl | apply ResR.tmp (a := .ref _) rfl | apply ResR.tmp (a := .tup _) rfl | apply ResR.tmp (a := .fn _ _) rfl | apply ResR.tmp (a := .dead) rfl | apply ResR.cell1 rfl rfl rfl rfl (by first | rfl | (simp [Cells.len] <;> omega)) (by first | rfl | exact data_get (map_at (by assumption)) | exact data_get (by assumption) | exact data_get (List.getElem?_set_self (by simp; omega)) | exact data_get (List.getElem?_set_self (by simpa using hlt))) rfl | apply ResR.cellN rfl rfl rfl rfl (by first | rfl | (simp [Cells.len] <;> omega)) (by first | rfl | exact data_get (map_at (by assumption)) | exact data_get (by assumption) | exact data_get (List.getElem?_set_self (by simp; omega)) | exact data_get (List.getElem?_set_self (by simpa using hlt))) (by repeat (first | exact Seg.z _ | apply Seg.t | apply Seg.d)))) (by repeat (first | exact abv_nil _ | exact abv_lks rfl | refine abv_upd ?_ rfl)) rfl ?_
    rfl
theorem markDrawing_a (xs : List Shp) (k : Nat) (h0 : 0 < k) (h1 : k ≤ 1000000) (hm : xs.length ≤ 1048576) : FnC Try.prog 21 [.live [⟨80, 7, .data (shpsD xs)⟩]] [.agg [.own 0 0 xs.length], .d (.v (.int .i64 ((k : Int))))] [.live [⟨80, 7, .data (shpsD (mkShps k xs.length))⟩]] (.d (.v (.int .i64 ((k : Int) + 7 * (xs.length : Int))))) := by
  refine fnc_intro (T := tt) (N := 10) tok Try.func21 rfl rfl (by kernel_rfl) rfl rfl ?_
  refine aw_seq ?_
  refine aw_region (is := [0, 1]) rfl ?_
  refine rt_s rfl (want_none rfl) rfl (st_box 3 (cs := _ :: _) rfl rfl rfl) ?_
  refine rt_p rfl (want_none rfl) rfl (pu_assign (r := .d _) rfl) ?_
  refine rt_nil ?_
  refine then_n ?_
  refine aw_seq ?_
  refine aw_region (is := [0, 1, 2, 3, 4]) rfl ?_
  refine rt_l rfl (want_none rfl) rfl (li_fieldAddr tok rfl rfl rfl rfl rfl rfl rfl (by first | rfl | (simp [Cells.len] <;> omega)) (by first | rfl | exact data_get (map_at (by assumption)) | exact data_get (by assumption) | exact data_get (List.getElem?_set_self (by simp; omega)) | exact data_get (List.getElem?_set_self (by simpa using hlt)))) ?_
  refine rt_l rfl (want_none rfl) rfl (li_load1 tok rfl rfl rfl rfl (by first | rfl | (simp [Cells.len] <;> omega)) (by first | rfl | exact data_get (map_at (by assumption)) | exact data_get (by assumption) | exact data_get (List.getElem?_set_self (by simp; omega)) | exact data_get (List.getElem?_set_self (by simpa using hlt))) rfl) ?_
  refine rt_p rfl (want_none rfl) rfl (pu_move (r := .d _) rfl) ?_
  refine rt_w rfl (want_none rfl) rfl (wr_callP [0] 200 rfl rfl (by repeat (first | exact RenRL.nil | apply RenRL.cons | exact RenR.d _ | apply RenR.agg | apply RenR.tup | exact RenR.own _ _ _ _ rfl | exact RenR.ptr _ _ _ _ _ _ rfl | exact RenR.ref _ | apply RenR.fn | exact RenR.dead)) (markShapeS_a xs k h0 h1 hm) (by repeat (first | exact abv_nil _ | exact abv_lks rfl | refine abv_upd ?_ rfl)) (by decide) (by decide) (by repeat (first | exact AtK.nil | (apply AtK.cons rfl; (first | exact RenS.no | exact RenS.dead | exact RenS.data _ _ _ | (apply RenS.box; repeat (first | exact RenRL.nil | apply RenRL.cons | exact RenR.d _ | apply RenR.agg | apply RenR.tup | exact RenR.own _ _ _ _ rfl | exact RenR.ptr _ _ _ _ _ _ rfl | exact RenR.ref _ | apply RenR.fn | exact RenR.dead)) | exact RenS.gen _)))) (by repeat (first | exact UpdR.nil _ | (apply UpdR.cons; (first | exact RenS.no | exact RenS.dead | exact RenS.data _ _ _ | (apply RenS.box; repeat (first | exact RenRL.nil | apply RenRL.cons | exact RenR.d _ | apply RenR.agg | apply RenR.tup | exact RenR.own _ _ _ _ rfl | exact RenR.ptr _ _ _ _ _ _ rfl | exact RenR.ref _ | apply RenR.fn | exact RenR.dead)) | exact RenS.gen _)))) (by repeat (first | exact RenRL.nil | apply RenRL.cons | exact RenR.d _ | apply RenR.agg | apply RenR.tup | exact RenR.own _ _ _ _ rfl | exact RenR.ptr _ _ _ _ _ _ rfl | exact RenR.ref _ | apply RenR.fn | exact RenR.dead))) ?_
  refine rt_p rfl (want_none rfl) rfl (pu_assign (r := .d _) rfl) ?_
  refine rt_nil ?_
  refine then_n ?_
  refine aw_seq ?_
  refine aw_region (is := [0, 1]) rfl ?_
  refine rt_p rfl (want_none rfl) rfl (pu_move (r := .d _) rfl) ?_
  refine rt_p rfl (want_none rfl) rfl (pu_assign (r := .d _) rfl) ?_
  refine rt_nil ?_
  refine then_n ?_
  refine aw_ret ?_
  refine retP (rs := [.tmp 4]) 1 200 rfl rfl (by repeat (first | exact ResR.nil | apply ResR.tmp (a := .d _) rfl | apply ResR.tmp (a := .ptr _ _ _ _ _) rfl | apply ResR.tmp (a := .own _ _ _) rfl | apply ResR.tmp (a := .agg _) rfl | apply ResR.tmp (a := .ref _) rfl | apply ResR.tmp (a := .tup _) rfl | apply ResR.tmp (a := .fn _ _) rfl | apply ResR.tmp (a := .dead) rfl | apply ResR.cell1 rfl rfl rfl rfl (by first | rfl | (simp [Cells.len] <;> omega)) (by first | rfl | exact data_get (map_at (by assumption)) | exact data_get (by assumption) | exact data_get (List.getElem?_set_self (by simp; omega)) | exact data_get (List.getElem?_set_self (by simpa using hlt))) rfl | apply ResR.cellN rfl rfl rfl rfl (by first | rfl | (simp [Cells.len] <;> omega)) (by first | rfl | exact data_get (map_at (by assumption)) | exact data_get (by assumption) | exact data_get (List.getElem?_set_self (by simp; omega)) | exact data_get (List.getElem?_set_self (by simpa using hlt))) (by repeat (first | exact Seg.z _ | apply Seg.t | apply Seg.d)))) (by repeat (first | exact abv_nil _ | exact abv_lks rfl | refine abv_upd ?_ rfl)) rfl (by repeat (first | exact AtK.nil | refine AtK.data_ (by first | exact rfl) ?_ | (apply AtK.cons rfl; (first | exact RenS.no | exact RenS.dead | exact RenS.data _ _ _ | (apply RenS.box; repeat (first | exact RenRL.nil | apply RenRL.cons | exact RenR.d _ | apply RenR.agg | apply RenR.tup | exact RenR.own _ _ _ _ rfl | exact RenR.ptr _ _ _ _ _ _ rfl | exact RenR.ref _ | apply RenR.fn | exact RenR.dead)) | exact RenS.gen _)))) ?_
  rfl
end Go.Proofs.Ytplnohfjeilodaa
