/- drawings turned, the program -/
import Derived.Test.YtplnohfjeilodaaTab
import Derived.Test.YtplnohfjeilodaaM29
import Derived.Test.YtplnohfjeilodaaProg
namespace Go.Proofs.Ytplnohfjeilodaa
open Go.RowKit
set_option linter.unusedVariables false
set_option maxRecDepth 100000
theorem mappedT_a (xs : List Shp) (hm : xs.length ≤ 1048576) (hn : ∀ s ∈ xs, s.N.size ≤ 9223372036854775807) (hd : drOk xs = true) : FnC Try.prog 74 [] [.agg [.d (.sl (shpsD xs))], .fn 75 []] [.live [⟨80, 7, .data (shpsD (xs.map (turn)))⟩]] (.agg [.own 0 0 xs.length]) := by
  refine fnc_intro (T := tt) (N := 35) tok Try.func74 rfl rfl (by kernel_rfl) rfl rfl ?_
  refine aw_seq ?_
  refine aw_region (is := [0, 1]) rfl ?_
  refine rt_s rfl (want_none rfl) rfl (st_box 3 (cs := _ :: _) rfl rfl rfl) ?_
  refine rt_s rfl (want_none rfl) rfl (st_alloc 4 (cs := [.d (.v (.slice none 0 0))]) tok rfl rfl rfl) ?_
  refine rt_nil ?_
  refine then_n ?_
  refine aw_seq ?_
  refine aw_region (is := [0]) rfl ?_
  refine rt_p rfl (want_none rfl) rfl (pu_assign (r := .d _) rfl) ?_
  refine rt_nil ?_
  refine then_n ?_
  refine aw_seq ?_
  refine aw_seq ?_
  refine aw_region (is := [0, 1, 2, 3]) rfl ?_
  refine rt_l rfl (want_none rfl) rfl (li_fieldAddr tok rfl rfl rfl rfl rfl rfl rfl (by first | rfl | (simp [Cells.len]; done) | (simp [Cells.len]; omega)) (by first | rfl | exact data_get (map_at (by assumption)) | exact data_get (by assumption) | exact data_get (List.getElem?_set_self (by simp; omega)) | exact data_get (List.getElem?_set_self (by simpa using hlt)))) ?_
  refine rt_l rfl (want_none rfl) rfl (li_load1 tok rfl rfl rfl rfl (by first | rfl | (simp [Cells.len]; done) | (simp [Cells.len]; omega)) (by first | rfl | exact data_get (map_at (by assumption)) | exact data_get (by assumption) | exact data_get (List.getElem?_set_self (by simp; omega)) | exact data_get (List.getElem?_set_self (by simpa using hlt))) rfl) ?_
  refine rt_p rfl (want_none rfl) rfl (pu_len_map tok rfl rfl rfl) ?_
  refine rt_p rfl (want_none rfl) rfl (pu_move (r := .d _) rfl) ?_
  refine rt_nil ?_
  refine then_n ?_
  refine aw_block ?_
  refine aw_weak (weak_adopt_t 5 rfl 80 7 (d := 5) rfl) ?_
  refine aw_loop (ι := {k : Nat // k ≤ xs.length}) (fun p => ⟨updA (updA (updA (updA (updA (updA (updA ((fun _ => .dead)) 1 (.fn 75 [])) 2 (.ptr 3 0 1 0 0)) 4 (.ptr 4 0 1 0 0)) 5 (.own 5 0 (p.1))) 9 (.d (.sl (shpsD xs)))) 10 (.d (.v (.int .i64 (xs.length))))) 11 (.d (.v (.int .i64 (p.1)))), lks [.no, .no, .no, .live [⟨29, 1, .av [[.d (.sl (shpsD xs))]]⟩], .live [⟨29, 1, .av [[.d (.v (.slice none 0 0))]]⟩], .live [⟨80, 7, .data (mapS (turn) xs p.1)⟩]]⟩) (fun p => xs.length - p.1) ⟨0, by omega⟩ ?_ ?_
  · (refine weak_of 200 (by repeat (first | exact abv_nil _ | exact abv_lks rfl | refine abv_upd ?_ rfl)) rfl (by repeat (first | exact WT.nil | refine WT.free_ rfl (by first | exact rfl | (exact eqData (mapS_0 (turn) xs).symm) | exact eqI (by omega) | exact eqI (by simp; done) | exact eqI (by simp; omega) | exact eqOwn (by simp; done) | exact eqOwn (by simp; omega) | (simp_all; done)) ?_ | refine WT.ren_ (r' := _) rfl (by repeat (first | exact RenRL.nil | apply RenRL.cons | exact RenR.d _ | apply RenR.agg | apply RenR.tup | exact RenR.own _ _ _ _ rfl | exact RenR.ptr _ _ _ _ _ _ rfl | exact RenR.ref _ | apply RenR.fn | exact RenR.dead)) ?_)) (by repeat (first | exact WH.nil _ | refine WH.data_ (by first | exact rfl | (exact eqData (mapS_0 (turn) xs).symm) | exact eqI (by omega) | exact eqI (by simp; done) | exact eqI (by simp; omega) | exact eqOwn (by simp; done) | exact eqOwn (by simp; omega) | (simp_all; done)) ?_ | refine WH.cons (by first | exact rfl | (exact eqData (mapS_0 (turn) xs).symm) | exact eqI (by omega) | exact eqI (by simp; done) | exact eqI (by simp; omega) | exact eqOwn (by simp; done) | exact eqOwn (by simp; omega) | (simp_all; done)) (by first | exact RenS.no | exact RenS.dead | exact RenS.data _ _ _ | (apply RenS.box; repeat (first | exact RenRL.nil | apply RenRL.cons | exact RenR.d _ | apply RenR.agg | apply RenR.tup | exact RenR.own _ _ _ _ rfl | exact RenR.ptr _ _ _ _ _ _ rfl | exact RenR.ref _ | apply RenR.fn | exact RenR.dead)) | exact RenS.gen _) ?_)) rfl)
  · rintro ⟨k, hk⟩
    have hll := dr_len hd
    have hml := mapS_len (turn) xs k hk
    rcases Nat.lt_or_ge k xs.length with hlt | hge
    · skip
      obtain ⟨s, hs⟩ : ∃ s, xs[k]? = some s := ⟨_, List.getElem?_eq_getElem hlt⟩
      have hsl := sh_lim (dr_get hd hs)
      refine aw_seq ?_
      refine aw_region (is := [0]) rfl ?_
      refine rt_p rfl (want_none rfl) rfl (pu_lss rfl rfl) ?_
      refine rt_nil ?_
      refine then_n ?_
      refine aw_seq ?_
      refine aw_condP _ rfl (fun hc => ?_) (fun hc => ?_)
      · skip
        refine aw_skip ?_
        refine then_n ?_
        refine aw_seq ?_
        refine aw_block ?_
        refine aw_seq ?_
        refine aw_region (is := [0, 1, 2, 3]) rfl ?_
        refine rt_p rfl (want_none rfl) rfl (pu_index_sl tok rfl rfl (by first | rfl | omega) rfl rfl rfl (by first | rfl | exact map_at (by assumption) | assumption) rfl) ?_
        refine rt_p rfl (want_none rfl) rfl (pu_load_refN tok rfl rfl rfl (by repeat (first | exact SegD.z _ | apply SegD.t))) ?_
        refine rt_s rfl (want_none rfl) rfl (st_alloc 6 (cs := [.d (.v (.int .i64 0)), .d (.v (.int .i64 0)), .d (.v (.int .i64 0)), .d (.v (.int .i64 0)), .d (.v (.int .i64 0)), .d (.v (.int .i64 0)), .d (.v (.string ⟨#[]⟩))]) tok rfl rfl rfl) ?_
        refine rt_w0 rfl (want_none rfl) (wr_store (cs := _ :: _) tok rfl rfl rfl rfl rfl rfl rfl rfl (by first | rfl | (simp [Cells.len]; done) | (simp [Cells.len]; omega)) (by first | rfl | exact data_get (map_at (by assumption)) | exact data_get (by assumption) | exact data_get (List.getElem?_set_self (by simp; omega)) | exact data_get (List.getElem?_set_self (by simpa using hlt))) (by repeat (first | exact Spl.z _ | apply Spl.t | apply Spl.d)) (by first | exact SetC.box _ _ | exact SetC.data _ _ (by repeat (first | exact AllD.nil | apply AllD.cons)) | exact SetC.av _ _ _) (by first | exact SetO.one _ _ | exact SetO.gen _ _ _)) ?_
        refine rt_nil ?_
        refine then_n ?_
        refine aw_seq ?_
        refine aw_region (is := [0, 1, 2, 3, 4, 5]) rfl ?_
        refine rt_p rfl (want_none rfl) rfl (pu_move (r := .fn _ _) rfl) ?_
        refine rt_l rfl (want_none rfl) rfl (li_fieldAddr tok rfl rfl rfl rfl rfl rfl rfl (by first | rfl | (simp [Cells.len]; done) | (simp [Cells.len]; omega)) (by first | rfl | exact data_get (map_at (by assumption)) | exact data_get (by assumption) | exact data_get (List.getElem?_set_self (by simp; omega)) | exact data_get (List.getElem?_set_self (by simpa using hlt)))) ?_
        refine rt_l rfl (want_none rfl) rfl (li_loadN tok rfl rfl rfl rfl (by first | rfl | (simp [Cells.len]; done) | (simp [Cells.len]; omega)) (by first | rfl | exact data_get (map_at (by assumption)) | exact data_get (by assumption) | exact data_get (List.getElem?_set_self (by simp; omega)) | exact data_get (List.getElem?_set_self (by simpa using hlt))) (by repeat (first | exact Seg.z _ | apply Seg.t | apply Seg.d))) ?_
        refine rt_s rfl (want_none rfl) rfl (st_call 7 rfl rfl rfl (turn1_a s.AX s.AY (by omega) (by omega)) (by repeat (first | exact abv_nil _ | exact abv_lks rfl | refine abv_upd ?_ rfl)) (by repeat (first | exact RenRL.nil | apply RenRL.cons | exact RenR.d _ | apply RenR.agg | apply RenR.tup | exact RenR.own _ _ _ _ rfl | exact RenR.ptr _ _ _ _ _ _ rfl | exact RenR.ref _ | apply RenR.fn | exact RenR.dead)) (by repeat (first | exact BirR.nil _ _ | (apply BirR.cons; (first | exact RenS.no | exact RenS.dead | exact RenS.data _ _ _ | (apply RenS.box; repeat (first | exact RenRL.nil | apply RenRL.cons | exact RenR.d _ | apply RenR.agg | apply RenR.tup | exact RenR.own _ _ _ _ rfl | exact RenR.ptr _ _ _ _ _ _ rfl | exact RenR.ref _ | apply RenR.fn | exact RenR.dead)) | exact RenS.gen _))))) ?_
        refine rt_l rfl (want_none rfl) rfl (li_fieldAddr tok rfl rfl rfl rfl rfl rfl rfl (by first | rfl | (simp [Cells.len]; done) | (simp [Cells.len]; omega)) (by first | rfl | exact data_get (map_at (by assumption)) | exact data_get (by assumption) | exact data_get (List.getElem?_set_self (by simp; omega)) | exact data_get (List.getElem?_set_self (by simpa using hlt)))) ?_
        refine rt_w0 rfl (want_none rfl) (wr_store (cs := _ :: _) tok rfl rfl rfl rfl rfl rfl rfl rfl (by first | rfl | (simp [Cells.len]; done) | (simp [Cells.len]; omega)) (by first | rfl | exact data_get (map_at (by assumption)) | exact data_get (by assumption) | exact data_get (List.getElem?_set_self (by simp; omega)) | exact data_get (List.getElem?_set_self (by simpa using hlt))) (by repeat (first | exact Spl.z _ | apply Spl.t | apply Spl.d)) (by first | exact SetC.box _ _ | exact SetC.data _ _ (by repeat (first | exact AllD.nil | apply AllD.cons)) | exact SetC.av _ _ _) (by first | exact SetO.one _ _ | exact SetO.gen _ _ _)) ?_
        refine rt_nil ?_
        refine then_n ?_
        refine aw_seq ?_
        refine aw_seq ?_
        refine aw_region (is := [0, 1, 2]) rfl ?_
        refine rt_l rfl (want_none rfl) rfl (li_fieldAddr tok rfl rfl rfl rfl rfl rfl rfl (by first | rfl | (simp [Cells.len]; done) | (simp [Cells.len]; omega)) (by first | rfl | exact data_get (map_at (by assumption)) | exact data_get (by assumption) | exact data_get (List.getElem?_set_self (by simp; omega)) | exact data_get (List.getElem?_set_self (by simpa using hlt)))) ?_
        refine rt_l rfl (want_none rfl) rfl (li_load1 tok rfl rfl rfl rfl (by first | rfl | (simp [Cells.len]; done) | (simp [Cells.len]; omega)) (by first | rfl | exact data_get (map_at (by assumption)) | exact data_get (by assumption) | exact data_get (List.getElem?_set_self (by simp; omega)) | exact data_get (List.getElem?_set_self (by simpa using hlt))) rfl) ?_
        refine rt_p rfl (want_none rfl) rfl (pu_eql rfl rfl) ?_
        refine rt_nil ?_
        refine then_n ?_
        refine aw_condP _ rfl (fun hc => ?_) (fun hc => ?_)
        · skip
          refine aw_region (is := [0, 1, 2, 3, 4, 5]) rfl ?_
          refine rt_p rfl (want_none rfl) rfl (pu_move (r := .fn _ _) rfl) ?_
          refine rt_l rfl (want_none rfl) rfl (li_fieldAddr tok rfl rfl rfl rfl rfl rfl rfl (by first | rfl | (simp [Cells.len]; done) | (simp [Cells.len]; omega)) (by first | rfl | exact data_get (map_at (by assumption)) | exact data_get (by assumption) | exact data_get (List.getElem?_set_self (by simp; omega)) | exact data_get (List.getElem?_set_self (by simpa using hlt)))) ?_
          refine rt_l rfl (want_none rfl) rfl (li_loadN tok rfl rfl rfl rfl (by first | rfl | (simp [Cells.len]; done) | (simp [Cells.len]; omega)) (by first | rfl | exact data_get (map_at (by assumption)) | exact data_get (by assumption) | exact data_get (List.getElem?_set_self (by simp; omega)) | exact data_get (List.getElem?_set_self (by simpa using hlt))) (by repeat (first | exact Seg.z _ | apply Seg.t | apply Seg.d))) ?_
          refine rt_s rfl (want_none rfl) rfl (st_call 11 rfl rfl rfl (turn1_a s.BX s.BY (by omega) (by omega)) (by repeat (first | exact abv_nil _ | exact abv_lks rfl | refine abv_upd ?_ rfl)) (by repeat (first | exact RenRL.nil | apply RenRL.cons | exact RenR.d _ | apply RenR.agg | apply RenR.tup | exact RenR.own _ _ _ _ rfl | exact RenR.ptr _ _ _ _ _ _ rfl | exact RenR.ref _ | apply RenR.fn | exact RenR.dead)) (by repeat (first | exact BirR.nil _ _ | (apply BirR.cons; (first | exact RenS.no | exact RenS.dead | exact RenS.data _ _ _ | (apply RenS.box; repeat (first | exact RenRL.nil | apply RenRL.cons | exact RenR.d _ | apply RenR.agg | apply RenR.tup | exact RenR.own _ _ _ _ rfl | exact RenR.ptr _ _ _ _ _ _ rfl | exact RenR.ref _ | apply RenR.fn | exact RenR.dead)) | exact RenS.gen _))))) ?_
          refine rt_l rfl (want_none rfl) rfl (li_fieldAddr tok rfl rfl rfl rfl rfl rfl rfl (by first | rfl | (simp [Cells.len]; done) | (simp [Cells.len]; omega)) (by first | rfl | exact data_get (map_at (by assumption)) | exact data_get (by assumption) | exact data_get (List.getElem?_set_self (by simp; omega)) | exact data_get (List.getElem?_set_self (by simpa using hlt)))) ?_
          refine rt_w0 rfl (want_none rfl) (wr_store (cs := _ :: _) tok rfl rfl rfl rfl rfl rfl rfl rfl (by first | rfl | (simp [Cells.len]; done) | (simp [Cells.len]; omega)) (by first | rfl | exact data_get (map_at (by assumption)) | exact data_get (by assumption) | exact data_get (List.getElem?_set_self (by simp; omega)) | exact data_get (List.getElem?_set_self (by simpa using hlt))) (by repeat (first | exact Spl.z _ | apply Spl.t | apply Spl.d)) (by first | exact SetC.box _ _ | exact SetC.data _ _ (by repeat (first | exact AllD.nil | apply AllD.cons)) | exact SetC.av _ _ _) (by first | exact SetO.one _ _ | exact SetO.gen _ _ _)) ?_
          refine rt_nil ?_
          refine then_n ?_
          refine aw_region (is := [0, 1, 2, 3, 4]) rfl ?_
          refine rt_p rfl (want_none rfl) rfl (pu_move (r := .own _ _ _) rfl) ?_
          refine rt_l rfl (want_none rfl) rfl (li_loadN tok rfl rfl rfl rfl (by first | rfl | (simp [Cells.len]; done) | (simp [Cells.len]; omega)) (by first | rfl | exact data_get (map_at (by assumption)) | exact data_get (by assumption) | exact data_get (List.getElem?_set_self (by simp; omega)) | exact data_get (List.getElem?_set_self (by simpa using hlt))) (by repeat (first | exact Seg.z _ | apply Seg.t | apply Seg.d))) ?_
          refine rt_s rfl (want_none rfl) rfl (st_slice_val tok rfl rfl rfl (by repeat (first | exact Els.nil _ | apply Els.cons (cs := [.d _]) rfl rfl rfl | apply Els.cons (cs := [.own _ _ _]) rfl rfl rfl | apply Els.cons (cs := [.ptr _ _ _ _ _]) rfl rfl rfl | apply Els.cons (cs := [.fn _ _]) rfl rfl rfl | apply Els.cons (cs := _ :: _) rfl rfl rfl)) rfl rfl rfl (by repeat (first | exact AllDD.nil | (apply AllDD.cons; (repeat (first | exact AllD.nil | apply AllD.cons)))))) ?_
          refine rt_w rfl (want_none rfl) rfl (wr_append tok rfl rfl rfl rfl rfl rfl rfl rfl rfl (by first | rfl | (simp [Cells.len]; done) | (simp [Cells.len]; omega)) rfl rfl (by first | (simp; done) | (intro x hx; simp at hx; subst hx; rfl)) (by first | exact App.data _ _ | exact App.av _ _ | exact App.nil _) (by first | exact SetO.one _ _ | exact SetO.gen _ _ _) (by first | omega | (simp; omega)) (by first | omega | (simp; omega))) ?_
          refine rt_p rfl (want_none rfl) rfl (pu_assign (r := .own _ _ _) rfl) ?_
          refine rt_nil ?_
          refine block_n ?_
          refine then_n ?_
          refine aw_region (is := [0, 1]) rfl ?_
          refine rt_p rfl (want_none rfl) rfl (pu_add rfl rfl (by omega) (by omega)) ?_
          refine rt_p rfl (want_none rfl) rfl (pu_move (r := .d _) rfl) ?_
          refine rt_nil ?_
          refine then_n ?_
          refine ⟨⟨k + 1, by omega⟩, (by simp; omega), ?_⟩
          (refine weak_of 200 (by repeat (first | exact abv_nil _ | exact abv_lks rfl | refine abv_upd ?_ rfl)) rfl (by repeat (first | exact WT.nil | refine WT.free_ rfl (by first | exact rfl | (exact eqData ((mapS_succ hs).symm ▸ (by rw [← turn_id (dr_get hd hs)]; simp only [if_pos hc]; rfl))) | (exact eqData ((mapS_succ hs).symm ▸ (by rw [← turn_id (dr_get hd hs)]; simp only [if_neg hc]; rfl))) | exact eqI (by omega) | exact eqI (by simp; done) | exact eqI (by simp; omega) | exact eqOwn (by simp; done) | exact eqOwn (by simp; omega) | (simp_all; done)) ?_ | refine WT.ren_ (r' := _) rfl (by repeat (first | exact RenRL.nil | apply RenRL.cons | exact RenR.d _ | apply RenR.agg | apply RenR.tup | exact RenR.own _ _ _ _ rfl | exact RenR.ptr _ _ _ _ _ _ rfl | exact RenR.ref _ | apply RenR.fn | exact RenR.dead)) ?_)) (by repeat (first | exact WH.nil _ | refine WH.data_ (by first | exact rfl | (exact eqData ((mapS_succ hs).symm ▸ (by rw [← turn_id (dr_get hd hs)]; simp only [if_pos hc]; rfl))) | (exact eqData ((mapS_succ hs).symm ▸ (by rw [← turn_id (dr_get hd hs)]; simp only [if_neg hc]; rfl))) | exact eqI (by omega) | exact eqI (by simp; done) | exact eqI (by simp; omega) | exact eqOwn (by simp; done) | exact eqOwn (by simp; omega) | (simp_all; done)) ?_ | refine WH.cons (by first | exact rfl | (exact eqData ((mapS_succ hs).symm ▸ (by rw [← turn_id (dr_get hd hs)]; simp only [if_pos hc]; rfl))) | (exact eqData ((mapS_succ hs).symm ▸ (by rw [← turn_id (dr_get hd hs)]; simp only [if_neg hc]; rfl))) | exact eqI (by omega) | exact eqI (by simp; done) | exact eqI (by simp; omega) | exact eqOwn (by simp; done) | exact eqOwn (by simp; omega) | (simp_all; done)) (by first | exact RenS.no | exact RenS.dead | exact RenS.data _ _ _ | (apply RenS.box; repeat (first | exact RenRL.nil | apply RenRL.cons | exact RenR.d _ | apply RenR.agg | apply RenR.tup | exact RenR.own _ _ _ _ rfl | exact RenR.ptr _ _ _ _ _ _ rfl | exact RenR.ref _ | apply RenR.fn | exact RenR.dead)) | exact RenS.gen _) ?_)) rfl)
        · skip
          refine aw_skip ?_
          refine then_n ?_
          refine aw_region (is := [0, 1, 2, 3, 4]) rfl ?_
          refine rt_p rfl (want_none rfl) rfl (pu_move (r := .own _ _ _) rfl) ?_
          refine rt_l rfl (want_none rfl) rfl (li_loadN tok rfl rfl rfl rfl (by first | rfl | (simp [Cells.len]; done) | (simp [Cells.len]; omega)) (by first | rfl | exact data_get (map_at (by assumption)) | exact data_get (by assumption) | exact data_get (List.getElem?_set_self (by simp; omega)) | exact data_get (List.getElem?_set_self (by simpa using hlt))) (by repeat (first | exact Seg.z _ | apply Seg.t | apply Seg.d))) ?_
          refine rt_s rfl (want_none rfl) rfl (st_slice_val tok rfl rfl rfl (by repeat (first | exact Els.nil _ | apply Els.cons (cs := [.d _]) rfl rfl rfl | apply Els.cons (cs := [.own _ _ _]) rfl rfl rfl | apply Els.cons (cs := [.ptr _ _ _ _ _]) rfl rfl rfl | apply Els.cons (cs := [.fn _ _]) rfl rfl rfl | apply Els.cons (cs := _ :: _) rfl rfl rfl)) rfl rfl rfl (by repeat (first | exact AllDD.nil | (apply AllDD.cons; (repeat (first | exact AllD.nil | apply AllD.cons)))))) ?_
          refine rt_w rfl (want_none rfl) rfl (wr_append tok rfl rfl rfl rfl rfl rfl rfl rfl rfl (by first | rfl | (simp [Cells.len]; done) | (simp [Cells.len]; omega)) rfl rfl (by first | (simp; done) | (intro x hx; simp at hx; subst hx; rfl)) (by first | exact App.data _ _ | exact App.av _ _ | exact App.nil _) (by first | exact SetO.one _ _ | exact SetO.gen _ _ _) (by first | omega | (simp; omega)) (by first | omega | (simp; omega))) ?_
          refine rt_p rfl (want_none rfl) rfl (pu_assign (r := .own _ _ _) rfl) ?_
          refine rt_nil ?_
          refine block_n ?_
          refine then_n ?_
          refine aw_region (is := [0, 1]) rfl ?_
          refine rt_p rfl (want_none rfl) rfl (pu_add rfl rfl (by omega) (by omega)) ?_
          refine rt_p rfl (want_none rfl) rfl (pu_move (r := .d _) rfl) ?_
          refine rt_nil ?_
          refine then_n ?_
          refine ⟨⟨k + 1, by omega⟩, (by simp; omega), ?_⟩
          (refine weak_of 200 (by repeat (first | exact abv_nil _ | exact abv_lks rfl | refine abv_upd ?_ rfl)) rfl (by repeat (first | exact WT.nil | refine WT.free_ rfl (by first | exact rfl | (exact eqData ((mapS_succ hs).symm ▸ (by rw [← turn_id (dr_get hd hs)]; simp only [if_pos hc]; rfl))) | (exact eqData ((mapS_succ hs).symm ▸ (by rw [← turn_id (dr_get hd hs)]; simp only [if_neg hc]; rfl))) | exact eqI (by omega) | exact eqI (by simp; done) | exact eqI (by simp; omega) | exact eqOwn (by simp; done) | exact eqOwn (by simp; omega) | (simp_all; done)) ?_ | refine WT.ren_ (r' := _) rfl (by repeat (first | exact RenRL.nil | apply RenRL.cons | exact RenR.d _ | apply RenR.agg | apply RenR.tup | exact RenR.own _ _ _ _ rfl | exact RenR.ptr _ _ _ _ _ _ rfl | exact RenR.ref _ | apply RenR.fn | exact RenR.dead)) ?_)) (by repeat (first | exact WH.nil _ | refine WH.data_ (by first | exact rfl | (exact eqData ((mapS_succ hs).symm ▸ (by rw [← turn_id (dr_get hd hs)]; simp only [if_pos hc]; rfl))) | (exact eqData ((mapS_succ hs).symm ▸ (by rw [← turn_id (dr_get hd hs)]; simp only [if_neg hc]; rfl))) | exact eqI (by omega) | exact eqI (by simp; done) | exact eqI (by simp; omega) | exact eqOwn (by simp; done) | exact eqOwn (by simp; omega) | (simp_all; done)) ?_ | refine WH.cons (by first | exact rfl | (exact eqData ((mapS_succ hs).symm ▸ (by rw [← turn_id (dr_get hd hs)]; simp only [if_pos hc]; rfl))) | (exact eqData ((mapS_succ hs).symm ▸ (by rw [← turn_id (dr_get hd hs)]; simp only [if_neg hc]; rfl))) | exact eqI (by omega) | exact eqI (by simp; done) | exact eqI (by simp; omega) | exact eqOwn (by simp; done) | exact eqOwn (by simp; omega) | (simp_all; done)) (by first | exact RenS.no | exact RenS.dead | exact RenS.data _ _ _ | (apply RenS.box; repeat (first | exact RenRL.nil | apply RenRL.cons | exact RenR.d _ | apply RenR.agg | apply RenR.tup | exact RenR.own _ _ _ _ rfl | exact RenR.ptr _ _ _ _ _ _ rfl | exact RenR.ref _ | apply RenR.fn | exact RenR.dead)) | exact RenS.gen _) ?_)) rfl)
      · exfalso; simp at hc; omega
    · skip
      obtain rfl : k = xs.length := by omega
      refine aw_seq ?_
      refine aw_region (is := [0]) rfl ?_
      refine rt_p rfl (want_none rfl) rfl (pu_lss rfl rfl) ?_
      refine rt_nil ?_
      refine then_n ?_
      refine aw_seq ?_
      refine aw_condP _ rfl (fun hc => ?_) (fun hc => ?_)
      · exfalso; simp at hc; done
      · skip
        refine aw_exit ?_
        refine then_e ?_
        refine then_e ?_
        refine block_hit ?_
        refine then_n ?_
        refine aw_seq ?_
        refine aw_region (is := [0, 1, 2]) rfl ?_
        refine rt_p rfl (want_none rfl) rfl (pu_move (r := .own _ _ _) rfl) ?_
        refine rt_p rfl (want_none rfl) rfl (pu_build (C0 := [.d (.v (.slice none 0 0))]) tok rfl rfl (by repeat (first | exact Plc.nil | apply Plc.cons rfl)) rfl (by repeat (first | exact Bld.nil _ | apply Bld.cons (cs := [.d _]) rfl rfl rfl rfl (by repeat (first | exact Spl.z _ | apply Spl.t | apply Spl.d)) | apply Bld.cons (cs := [.own _ _ _]) rfl rfl rfl rfl (by repeat (first | exact Spl.z _ | apply Spl.t | apply Spl.d)) | apply Bld.cons (cs := [.ptr _ _ _ _ _]) rfl rfl rfl rfl (by repeat (first | exact Spl.z _ | apply Spl.t | apply Spl.d)) | apply Bld.cons (cs := [.fn _ _]) rfl rfl rfl rfl (by repeat (first | exact Spl.z _ | apply Spl.t | apply Spl.d)) | apply Bld.cons (cs := _ :: _) rfl rfl rfl rfl (by repeat (first | exact Spl.z _ | apply Spl.t | apply Spl.d))))) ?_
        refine rt_w0 rfl (want_none rfl) (wr_store (cs := _ :: _) tok rfl rfl rfl rfl rfl rfl rfl rfl (by first | rfl | (simp [Cells.len]; done) | (simp [Cells.len]; omega)) (by first | rfl | exact data_get (map_at (by assumption)) | exact data_get (by assumption) | exact data_get (List.getElem?_set_self (by simp; omega)) | exact data_get (List.getElem?_set_self (by simpa using hlt))) (by repeat (first | exact Spl.z _ | apply Spl.t | apply Spl.d)) (by first | exact SetC.box _ _ | exact SetC.data _ _ (by repeat (first | exact AllD.nil | apply AllD.cons)) | exact SetC.av _ _ _) (by first | exact SetO.one _ _ | exact SetO.gen _ _ _)) ?_
        refine rt_nil ?_
        refine then_n ?_
        refine aw_ret ?_
        refine retK (rs := [.cell 4 29]) [5] 200 rfl (by repeat (first | exact ResR.nil | apply ResR.tmp (a := .d _) rfl | apply ResR.tmp (a := .ptr _ _ _ _ _) rfl | apply ResR.tmp (a := .own _ _ _) rfl | apply ResR.tmp (a := .agg _) rfl | apply ResR.tmp (a := .ref _) rfl | apply ResR.tmp (a := .tup _) rfl | apply ResR.tmp (a := .fn _ _) rfl | apply ResR.tmp (a := .dead) rfl | apply ResR.cell1 rfl rfl rfl rfl (by first | rfl | (simp [Cells.len]; done) | (simp [Cells.len]; omega)) (by first | rfl | exact data_get (map_at (by assumption)) | exact data_get (by assumption) | exact data_get (List.getElem?_set_self (by simp; omega)) | exact data_get (List.getElem?_set_self (by simpa using hlt))) rfl | apply ResR.cellN rfl rfl rfl rfl (by first | rfl | (simp [Cells.len]; done) | (simp [Cells.len]; omega)) (by first | rfl | exact data_get (map_at (by assumption)) | exact data_get (by assumption) | exact data_get (List.getElem?_set_self (by simp; omega)) | exact data_get (List.getElem?_set_self (by simpa using hlt))) (by repeat (first | exact Seg.z _ | apply Seg.t | apply Seg.d)))) (by repeat (first | exact abv_nil _ | exact abv_lks rfl | refine abv_upd ?_ rfl)) (by decide) (by decide) (by repeat (first | exact AtK.nil | refine AtK.data_ (by first | exact rfl | (exact eqData (mapS_all (turn) xs))) ?_ | (apply AtK.cons rfl; (first | exact RenS.no | exact RenS.dead | exact RenS.data _ _ _ | (apply RenS.box; repeat (first | exact RenRL.nil | apply RenRL.cons | exact RenR.d _ | apply RenR.agg | apply RenR.tup | exact RenR.own _ _ _ _ rfl | exact RenR.ptr _ _ _ _ _ _ rfl | exact RenR.ref _ | apply RenR.fn | exact RenR.dead)) | exact RenS.gen _)))) ?_
        rfl
theorem Turn_a (xs : List Shp) (hm : xs.length ≤ 1048576) (hn : ∀ s ∈ xs, s.N.size ≤ 9223372036854775807) : FnC Try.prog 32 [] [.agg [.d (.sl (shpsD xs))]] [.live [⟨80, 7, .data (shpsD (turnR xs))⟩]] (.tup [.agg [.own 0 0 (turnR xs).length], .d (.v (.int .i64 (errR (drOk xs))))]) := by
  refine fnc_intro (T := tt) (N := 10) tok Try.func32 rfl rfl (by kernel_rfl) rfl rfl ?_
  refine aw_seq ?_
  refine aw_region (is := [0, 1, 2]) rfl ?_
  refine rt_s rfl (want_none rfl) rfl (st_box 3 (cs := _ :: _) rfl rfl rfl) ?_
  refine rt_s rfl (want_none rfl) rfl (st_alloc 4 (cs := [.d (.v (.slice none 0 0))]) tok rfl rfl rfl) ?_
  refine rt_p rfl (want_none rfl) rfl (pu_assign (r := .d _) rfl) ?_
  refine rt_nil ?_
  refine then_n ?_
  refine aw_seq ?_
  refine aw_seq ?_
  refine aw_region (is := [0, 1, 2]) rfl ?_
  refine rt_l rfl (want_none rfl) rfl (li_loadN tok rfl rfl rfl rfl (by first | rfl | (simp [Cells.len]; done) | (simp [Cells.len]; omega)) (by first | rfl | exact data_get (map_at (by assumption)) | exact data_get (by assumption) | exact data_get (List.getElem?_set_self (by simp; omega)) | exact data_get (List.getElem?_set_self (by simpa using hlt))) (by repeat (first | exact Seg.z _ | apply Seg.t | apply Seg.d))) ?_
  refine rt_s rfl (want_none rfl) rfl (st_call 5 rfl rfl rfl (ValidDrawing_a xs hm hn) (by repeat (first | exact abv_nil _ | exact abv_lks rfl | refine abv_upd ?_ rfl)) (by repeat (first | exact RenRL.nil | apply RenRL.cons | exact RenR.d _ | apply RenR.agg | apply RenR.tup | exact RenR.own _ _ _ _ rfl | exact RenR.ptr _ _ _ _ _ _ rfl | exact RenR.ref _ | apply RenR.fn | exact RenR.dead)) (by repeat (first | exact BirR.nil _ _ | (apply BirR.cons; (first | exact RenS.no | exact RenS.dead | exact RenS.data _ _ _ | (apply RenS.box; repeat (first | exact RenRL.nil | apply RenRL.cons | exact RenR.d _ | apply RenR.agg | apply RenR.tup | exact RenR.own _ _ _ _ rfl | exact RenR.ptr _ _ _ _ _ _ rfl | exact RenR.ref _ | apply RenR.fn | exact RenR.dead)) | exact RenS.gen _))))) ?_
  refine rt_p rfl (want_none rfl) rfl (pu_not rfl) ?_
  refine rt_nil ?_
  refine then_n ?_
  refine aw_cond _ rfl (fun hc => ?_) (fun hc => ?_)
  · skip
    try (have hd : drOk xs = true := by simpa using hc)
    refine aw_seq ?_
    refine aw_region (is := [0, 1, 2]) rfl ?_
    refine rt_p rfl (want_none rfl) rfl (pu_build (C0 := [.d (.v (.slice none 0 0))]) tok rfl rfl (by repeat (first | exact Plc.nil | apply Plc.cons rfl)) rfl (by repeat (first | exact Bld.nil _ | apply Bld.cons (cs := [.d _]) rfl rfl rfl rfl (by repeat (first | exact Spl.z _ | apply Spl.t | apply Spl.d)) | apply Bld.cons (cs := [.own _ _ _]) rfl rfl rfl rfl (by repeat (first | exact Spl.z _ | apply Spl.t | apply Spl.d)) | apply Bld.cons (cs := [.ptr _ _ _ _ _]) rfl rfl rfl rfl (by repeat (first | exact Spl.z _ | apply Spl.t | apply Spl.d)) | apply Bld.cons (cs := [.fn _ _]) rfl rfl rfl rfl (by repeat (first | exact Spl.z _ | apply Spl.t | apply Spl.d)) | apply Bld.cons (cs := _ :: _) rfl rfl rfl rfl (by repeat (first | exact Spl.z _ | apply Spl.t | apply Spl.d))))) ?_
    refine rt_w0 rfl (want_none rfl) (wr_store (cs := _ :: _) tok rfl rfl rfl rfl rfl rfl rfl rfl (by first | rfl | (simp [Cells.len]; done) | (simp [Cells.len]; omega)) (by first | rfl | exact data_get (map_at (by assumption)) | exact data_get (by assumption) | exact data_get (List.getElem?_set_self (by simp; omega)) | exact data_get (List.getElem?_set_self (by simpa using hlt))) (by repeat (first | exact Spl.z _ | apply Spl.t | apply Spl.d)) (by first | exact SetC.box _ _ | exact SetC.data _ _ (by repeat (first | exact AllD.nil | apply AllD.cons)) | exact SetC.av _ _ _) (by first | exact SetO.one _ _ | exact SetO.gen _ _ _)) ?_
    refine rt_p rfl (want_none rfl) rfl (pu_assign (r := .d _) rfl) ?_
    refine rt_nil ?_
    refine then_n ?_
    have hd : drOk xs = false := by simpa using hc
    refine aw_weak (weak_adopt 9 rfl 80 7 (kb := 4) (j := 0) rfl rfl (by repeat (first | exact Spl.z _ | apply Spl.t | apply Spl.d))) ?_
    refine aw_ret ?_
    refine then_r ?_
    refine retK (rs := [.cell 2 29, .tmp 3]) [9] 200 rfl (by repeat (first | exact ResR.nil | apply ResR.tmp (a := .d _) rfl | apply ResR.tmp (a := .ptr _ _ _ _ _) rfl | apply ResR.tmp (a := .own _ _ _) rfl | apply ResR.tmp (a := .agg _) rfl | apply ResR.tmp (a := .ref _) rfl | apply ResR.tmp (a := .tup _) rfl | apply ResR.tmp (a := .fn _ _) rfl | apply ResR.tmp (a := .dead) rfl | apply ResR.cell1 rfl rfl rfl rfl (by first | rfl | (simp [Cells.len]; done) | (simp [Cells.len]; omega)) (by first | rfl | exact data_get (map_at (by assumption)) | exact data_get (by assumption) | exact data_get (List.getElem?_set_self (by simp; omega)) | exact data_get (List.getElem?_set_self (by simpa using hlt))) rfl | apply ResR.cellN rfl rfl rfl rfl (by first | rfl | (simp [Cells.len]; done) | (simp [Cells.len]; omega)) (by first | rfl | exact data_get (map_at (by assumption)) | exact data_get (by assumption) | exact data_get (List.getElem?_set_self (by simp; omega)) | exact data_get (List.getElem?_set_self (by simpa using hlt))) (by repeat (first | exact Seg.z _ | apply Seg.t | apply Seg.d)))) (by repeat (first | exact abv_nil _ | exact abv_lks rfl | refine abv_upd ?_ rfl)) (by decide) (by decide) (by repeat (first | exact AtK.nil | refine AtK.data_ (by first | exact rfl | (exact eqData (by rw [turnR_f hd]; rfl))) ?_ | (apply AtK.cons rfl; (first | exact RenS.no | exact RenS.dead | exact RenS.data _ _ _ | (apply RenS.box; repeat (first | exact RenRL.nil | apply RenRL.cons | exact RenR.d _ | apply RenR.agg | apply RenR.tup | exact RenR.own _ _ _ _ rfl | exact RenR.ptr _ _ _ _ _ _ rfl | exact RenR.ref _ | apply RenR.fn | exact RenR.dead)) | exact RenS.gen _)))) ?_
    rw [turnR_f hd]; first | rfl | (simp only [hd]; rfl)
  · skip
    try (have hd : drOk xs = true := by simpa using hc)
    refine aw_skip ?_
    refine then_n ?_
    refine aw_seq ?_
    refine aw_region (is := [0, 1, 2, 3]) rfl ?_
    refine rt_l rfl (want_none rfl) rfl (li_loadN tok rfl rfl rfl rfl (by first | rfl | (simp [Cells.len]; done) | (simp [Cells.len]; omega)) (by first | rfl | exact data_get (map_at (by assumption)) | exact data_get (by assumption) | exact data_get (List.getElem?_set_self (by simp; omega)) | exact data_get (List.getElem?_set_self (by simpa using hlt))) (by repeat (first | exact Seg.z _ | apply Seg.t | apply Seg.d))) ?_
    refine rt_s rfl (want_none rfl) rfl (st_call 10 rfl rfl rfl (mappedT_a xs hm hn hd) (by repeat (first | exact abv_nil _ | exact abv_lks rfl | refine abv_upd ?_ rfl)) (by repeat (first | exact RenRL.nil | apply RenRL.cons | exact RenR.d _ | apply RenR.agg | apply RenR.tup | exact RenR.own _ _ _ _ rfl | exact RenR.ptr _ _ _ _ _ _ rfl | exact RenR.ref _ | apply RenR.fn | exact RenR.dead)) (by repeat (first | exact BirR.nil _ _ | (apply BirR.cons; (first | exact RenS.no | exact RenS.dead | exact RenS.data _ _ _ | (apply RenS.box; repeat (first | exact RenRL.nil | apply RenRL.cons | exact RenR.d _ | apply RenR.agg | apply RenR.tup | exact RenR.own _ _ _ _ rfl | exact RenR.ptr _ _ _ _ _ _ rfl | exact RenR.ref _ | apply RenR.fn | exact RenR.dead)) | exact RenS.gen _))))) ?_
    refine rt_w0 rfl (want_none rfl) (wr_store (cs := _ :: _) tok rfl rfl rfl rfl rfl rfl rfl rfl (by first | rfl | (simp [Cells.len]; done) | (simp [Cells.len]; omega)) (by first | rfl | exact data_get (map_at (by assumption)) | exact data_get (by assumption) | exact data_get (List.getElem?_set_self (by simp; omega)) | exact data_get (List.getElem?_set_self (by simpa using hlt))) (by repeat (first | exact Spl.z _ | apply Spl.t | apply Spl.d)) (by first | exact SetC.box _ _ | exact SetC.data _ _ (by repeat (first | exact AllD.nil | apply AllD.cons)) | exact SetC.av _ _ _) (by first | exact SetO.one _ _ | exact SetO.gen _ _ _)) ?_
    refine rt_p rfl (want_none rfl) rfl (pu_assign (r := .d _) rfl) ?_
    refine rt_nil ?_
    refine then_n ?_
    refine aw_ret ?_
    refine retK (rs := [.cell 2 29, .tmp 3]) [10] 200 rfl (by repeat (first | exact ResR.nil | apply ResR.tmp (a := .d _) rfl | apply ResR.tmp (a := .ptr _ _ _ _ _) rfl | apply ResR.tmp (a := .own _ _ _) rfl | apply ResR.tmp (a := .agg _) rfl | apply ResR.tmp (a := .ref _) rfl | apply ResR.tmp (a := .tup _) rfl | apply ResR.tmp (a := .fn _ _) rfl | apply ResR.tmp (a := .dead) rfl | apply ResR.cell1 rfl rfl rfl rfl (by first | rfl | (simp [Cells.len]; done) | (simp [Cells.len]; omega)) (by first | rfl | exact data_get (map_at (by assumption)) | exact data_get (by assumption) | exact data_get (List.getElem?_set_self (by simp; omega)) | exact data_get (List.getElem?_set_self (by simpa using hlt))) rfl | apply ResR.cellN rfl rfl rfl rfl (by first | rfl | (simp [Cells.len]; done) | (simp [Cells.len]; omega)) (by first | rfl | exact data_get (map_at (by assumption)) | exact data_get (by assumption) | exact data_get (List.getElem?_set_self (by simp; omega)) | exact data_get (List.getElem?_set_self (by simpa using hlt))) (by repeat (first | exact Seg.z _ | apply Seg.t | apply Seg.d)))) (by repeat (first | exact abv_nil _ | exact abv_lks rfl | refine abv_upd ?_ rfl)) (by decide) (by decide) (by repeat (first | exact AtK.nil | refine AtK.data_ (by first | exact rfl | (exact eqData (by rw [turnR_t hd]))) ?_ | (apply AtK.cons rfl; (first | exact RenS.no | exact RenS.dead | exact RenS.data _ _ _ | (apply RenS.box; repeat (first | exact RenRL.nil | apply RenRL.cons | exact RenR.d _ | apply RenR.agg | apply RenR.tup | exact RenR.own _ _ _ _ rfl | exact RenR.ptr _ _ _ _ _ _ rfl | exact RenR.ref _ | apply RenR.fn | exact RenR.dead)) | exact RenS.gen _)))) ?_
    first | rfl | (simp only [turnR_t hd, hd, List.length_map]; rfl)
theorem law_turn (xs : List Shp) (hm : xs.length ≤ 9223372036854775807) (hn : ∀ s ∈ xs, s.N.size ≤ 9223372036854775807) : FnC Try.prog 8 [] [.agg [.d (.sl (shpsD xs))]] [] (.d (.v (.bool true))) := by
  refine fnc_intro (T := tt) (N := 96) tok Try.func8 rfl rfl (by kernel_rfl) rfl rfl ?_
  refine aw_seq ?_
  refine aw_region (is := [0, 1]) rfl ?_
  refine rt_s rfl (want_none rfl) rfl (st_box 3 (cs := _ :: _) rfl rfl rfl) ?_
  refine rt_p rfl (want_none rfl) rfl (pu_assign (r := .d _) rfl) ?_
  refine rt_nil ?_
  refine then_n ?_
  refine aw_seq ?_
  refine aw_region (is := [0]) rfl ?_
  refine rt_p rfl (want_none rfl) rfl (pu_assign (r := .d _) rfl) ?_
  refine rt_nil ?_
  refine then_n ?_
  refine aw_seq ?_
  refine aw_region (is := [0, 1, 2, 3]) rfl ?_
  refine rt_l rfl (want_none rfl) rfl (li_loadN tok rfl rfl rfl rfl (by first | rfl | (simp [Cells.len]; done) | (simp [Cells.len]; omega)) (by first | rfl | exact data_get (map_at (by assumption)) | exact data_get (by assumption) | exact data_get (List.getElem?_set_self (by simp; omega)) | exact data_get (List.getElem?_set_self (by simpa using hlt))) (by repeat (first | exact Seg.z _ | apply Seg.t | apply Seg.d))) ?_
  refine rt_p rfl (want_none rfl) rfl (pu_move (r := .d _) rfl) ?_
  refine rt_s rfl (want_none rfl) rfl (st_call 4 rfl rfl rfl (szDrawing_c xs 1048576 (by omega) (by omega) hm hn) (by repeat (first | exact abv_nil _ | exact abv_lks rfl | refine abv_upd ?_ rfl)) (by repeat (first | exact RenRL.nil | apply RenRL.cons | exact RenR.d _ | apply RenR.agg | apply RenR.tup | exact RenR.own _ _ _ _ rfl | exact RenR.ptr _ _ _ _ _ _ rfl | exact RenR.ref _ | apply RenR.fn | exact RenR.dead)) (by repeat (first | exact BirR.nil _ _ | (apply BirR.cons; (first | exact RenS.no | exact RenS.dead | exact RenS.data _ _ _ | (apply RenS.box; repeat (first | exact RenRL.nil | apply RenRL.cons | exact RenR.d _ | apply RenR.agg | apply RenR.tup | exact RenR.own _ _ _ _ rfl | exact RenR.ptr _ _ _ _ _ _ rfl | exact RenR.ref _ | apply RenR.fn | exact RenR.dead)) | exact RenS.gen _))))) ?_
  refine rt_p rfl (want_none rfl) rfl (pu_assign (r := .d _) rfl) ?_
  refine rt_nil ?_
  refine then_n ?_
  refine aw_seq ?_
  refine aw_seq ?_
  refine aw_region (is := [0, 1]) rfl ?_
  refine rt_p rfl (want_none rfl) rfl (pu_move (r := .d _) rfl) ?_
  refine rt_p rfl (want_none rfl) rfl (pu_lss rfl rfl) ?_
  refine rt_nil ?_
  refine then_n ?_
  refine aw_condP _ rfl (fun hc => ?_) (fun hc => ?_)
  · skip
    try (have hq : xs.length ≤ 1048576 := by have := szS_ge (left := 1048576) (xs := xs) (by omega); omega)
    try (have hl1 := turnR_ok hq)
    try (have hl2 : (turnR xs).length ≤ 9223372036854775807 := by omega)
    refine aw_seq ?_
    refine aw_region (is := [0]) rfl ?_
    refine rt_p rfl (want_none rfl) rfl (pu_assign (r := .d _) rfl) ?_
    refine rt_nil ?_
    refine then_n ?_
    refine aw_ret ?_
    refine then_r ?_
    refine ret0 (rs := [.tmp 2]) 200 rfl (by repeat (first | exact ResR.nil | apply ResR.tmp (a := .d _) rfl | apply ResR.tmp (a := .ptr _ _ _ _ _) rfl | apply ResR.tmp (a := .own _ _ _) rfl | apply ResR.tmp (a := .agg _) rfl | apply ResR.tmp (a := .ref _) rfl | apply ResR.tmp (a := .tup _) rfl | apply ResR.tmp (a := .fn _ _) rfl | apply ResR.tmp (a := .dead) rfl | apply ResR.cell1 rfl rfl rfl rfl (by first | rfl | (simp [Cells.len]; done) | (simp [Cells.len]; omega)) (by first | rfl | exact data_get (map_at (by assumption)) | exact data_get (by assumption) | exact data_get (List.getElem?_set_self (by simp; omega)) | exact data_get (List.getElem?_set_self (by simpa using hlt))) rfl | apply ResR.cellN rfl rfl rfl rfl (by first | rfl | (simp [Cells.len]; done) | (simp [Cells.len]; omega)) (by first | rfl | exact data_get (map_at (by assumption)) | exact data_get (by assumption) | exact data_get (List.getElem?_set_self (by simp; omega)) | exact data_get (List.getElem?_set_self (by simpa using hlt))) (by repeat (first | exact Seg.z _ | apply Seg.t | apply Seg.d)))) (by repeat (first | exact abv_nil _ | exact abv_lks rfl | refine abv_upd ?_ rfl)) rfl ?_
    rfl
  · skip
    try (have hq : xs.length ≤ 1048576 := by have := szS_ge (left := 1048576) (xs := xs) (by omega); omega)
    try (have hl1 := turnR_ok hq)
    try (have hl2 : (turnR xs).length ≤ 9223372036854775807 := by omega)
    refine aw_skip ?_
    refine then_n ?_
    refine aw_seq ?_
    refine aw_region (is := [0, 1, 2, 3, 4, 5, 6, 7, 8]) rfl ?_
    refine rt_l rfl (want_none rfl) rfl (li_loadN tok rfl rfl rfl rfl (by first | rfl | (simp [Cells.len]; done) | (simp [Cells.len]; omega)) (by first | rfl | exact data_get (map_at (by assumption)) | exact data_get (by assumption) | exact data_get (List.getElem?_set_self (by simp; omega)) | exact data_get (List.getElem?_set_self (by simpa using hlt))) (by repeat (first | exact Seg.z _ | apply Seg.t | apply Seg.d))) ?_
    refine rt_s rfl (want_none rfl) rfl (st_call 8 rfl rfl rfl (toDrawing_a xs hq) (by repeat (first | exact abv_nil _ | exact abv_lks rfl | refine abv_upd ?_ rfl)) (by repeat (first | exact RenRL.nil | apply RenRL.cons | exact RenR.d _ | apply RenR.agg | apply RenR.tup | exact RenR.own _ _ _ _ rfl | exact RenR.ptr _ _ _ _ _ _ rfl | exact RenR.ref _ | apply RenR.fn | exact RenR.dead)) (by repeat (first | exact BirR.nil _ _ | (apply BirR.cons; (first | exact RenS.no | exact RenS.dead | exact RenS.data _ _ _ | (apply RenS.box; repeat (first | exact RenRL.nil | apply RenRL.cons | exact RenR.d _ | apply RenR.agg | apply RenR.tup | exact RenR.own _ _ _ _ rfl | exact RenR.ptr _ _ _ _ _ _ rfl | exact RenR.ref _ | apply RenR.fn | exact RenR.dead)) | exact RenS.gen _))))) ?_
    refine rt_s rfl (want_none rfl) rfl (st_callV 12 rfl (by repeat (first | exact Vs.nil | apply Vs.cons | exact View.d _ | exact View.data rfl rfl rfl | exact (View.data rfl rfl (by simp [mkShps_len])) | exact view_box rfl (by repeat (first | exact AllD.nil | apply AllD.cons)) | apply View.agg_ | apply View.fn_ | exact View.ref _)) (sTurn_a xs hq hn) rfl (by first | (intro s hs; simp only [List.mem_singleton] at hs; subst hs; exact sf_shps _ _ _) | (intro s hs; simp at hs; try (subst hs; intro o ho; simp at ho; subst ho; simp [Cells.flat, DV.flat, AV.flat, AV.flatL]))) (by repeat (first | exact abv_nil _ | exact abv_lks rfl | refine abv_upd ?_ rfl)) (by repeat (first | exact RenRL.nil | apply RenRL.cons | exact RenR.d _ | apply RenR.agg | apply RenR.tup | exact RenR.own _ _ _ _ rfl | exact RenR.ptr _ _ _ _ _ _ rfl | exact RenR.ref _ | apply RenR.fn | exact RenR.dead)) (by repeat (first | exact BirR.nil _ _ | (apply BirR.cons; (first | exact RenS.no | exact RenS.dead | exact RenS.data _ _ _ | (apply RenS.box; repeat (first | exact RenRL.nil | apply RenRL.cons | exact RenR.d _ | apply RenR.agg | apply RenR.tup | exact RenR.own _ _ _ _ rfl | exact RenR.ptr _ _ _ _ _ _ rfl | exact RenR.ref _ | apply RenR.fn | exact RenR.dead)) | exact RenS.gen _))))) ?_
    refine rt_p rfl (want_none rfl) rfl (pu_move (r := .tup _) rfl) ?_
    refine rt_p rfl (want_none rfl) rfl (pu_extract rfl rfl) ?_
    refine rt_p rfl (want_none rfl) rfl (pu_extract rfl rfl) ?_
    refine rt_s rfl (want_none rfl) rfl (st_alloc 16 (cs := [.d (.v (.slice none 0 0))]) tok rfl rfl rfl) ?_
    refine rt_w0 rfl (want_none rfl) (wr_store (cs := _ :: _) tok rfl rfl rfl rfl rfl rfl rfl rfl (by first | rfl | (simp [Cells.len]; done) | (simp [Cells.len]; omega)) (by first | rfl | exact data_get (map_at (by assumption)) | exact data_get (by assumption) | exact data_get (List.getElem?_set_self (by simp; omega)) | exact data_get (List.getElem?_set_self (by simpa using hlt))) (by repeat (first | exact Spl.z _ | apply Spl.t | apply Spl.d)) (by first | exact SetC.box _ _ | exact SetC.data _ _ (by repeat (first | exact AllD.nil | apply AllD.cons)) | exact SetC.av _ _ _) (by first | exact SetO.one _ _ | exact SetO.gen _ _ _)) ?_
    refine rt_p rfl (want_none rfl) rfl (pu_assign (r := .d _) rfl) ?_
    refine rt_nil ?_
    refine then_n ?_
    refine aw_seq ?_
    refine aw_region (is := [0, 1, 2, 3]) rfl ?_
    refine rt_l rfl (want_none rfl) rfl (li_loadN tok rfl rfl rfl rfl (by first | rfl | (simp [Cells.len]; done) | (simp [Cells.len]; omega)) (by first | rfl | exact data_get (map_at (by assumption)) | exact data_get (by assumption) | exact data_get (List.getElem?_set_self (by simp; omega)) | exact data_get (List.getElem?_set_self (by simpa using hlt))) (by repeat (first | exact Seg.z _ | apply Seg.t | apply Seg.d))) ?_
    refine rt_s rfl (want_none rfl) rfl (st_call 17 rfl rfl rfl (toDrawing_a xs hq) (by repeat (first | exact abv_nil _ | exact abv_lks rfl | refine abv_upd ?_ rfl)) (by repeat (first | exact RenRL.nil | apply RenRL.cons | exact RenR.d _ | apply RenR.agg | apply RenR.tup | exact RenR.own _ _ _ _ rfl | exact RenR.ptr _ _ _ _ _ _ rfl | exact RenR.ref _ | apply RenR.fn | exact RenR.dead)) (by repeat (first | exact BirR.nil _ _ | (apply BirR.cons; (first | exact RenS.no | exact RenS.dead | exact RenS.data _ _ _ | (apply RenS.box; repeat (first | exact RenRL.nil | apply RenRL.cons | exact RenR.d _ | apply RenR.agg | apply RenR.tup | exact RenR.own _ _ _ _ rfl | exact RenR.ptr _ _ _ _ _ _ rfl | exact RenR.ref _ | apply RenR.fn | exact RenR.dead)) | exact RenS.gen _))))) ?_
    refine rt_s rfl (want_none rfl) rfl (st_alloc 21 (cs := [.d (.v (.slice none 0 0))]) tok rfl rfl rfl) ?_
    refine rt_w0 rfl (want_none rfl) (wr_store (cs := _ :: _) tok rfl rfl rfl rfl rfl rfl rfl rfl (by first | rfl | (simp [Cells.len]; done) | (simp [Cells.len]; omega)) (by first | rfl | exact data_get (map_at (by assumption)) | exact data_get (by assumption) | exact data_get (List.getElem?_set_self (by simp; omega)) | exact data_get (List.getElem?_set_self (by simpa using hlt))) (by repeat (first | exact Spl.z _ | apply Spl.t | apply Spl.d)) (by first | exact SetC.box _ _ | exact SetC.data _ _ (by repeat (first | exact AllD.nil | apply AllD.cons)) | exact SetC.av _ _ _) (by first | exact SetO.one _ _ | exact SetO.gen _ _ _)) ?_
    refine rt_nil ?_
    refine then_n ?_
    refine aw_seq ?_
    refine aw_region (is := [0, 1, 2, 3, 4, 5, 6, 7]) rfl ?_
    refine rt_l rfl (want_none rfl) rfl (li_loadN tok rfl rfl rfl rfl (by first | rfl | (simp [Cells.len]; done) | (simp [Cells.len]; omega)) (by first | rfl | exact data_get (map_at (by assumption)) | exact data_get (by assumption) | exact data_get (List.getElem?_set_self (by simp; omega)) | exact data_get (List.getElem?_set_self (by simpa using hlt))) (by repeat (first | exact Seg.z _ | apply Seg.t | apply Seg.d))) ?_
    refine rt_s rfl (want_none rfl) rfl (st_callV 22 rfl (by repeat (first | exact Vs.nil | apply Vs.cons | exact View.d _ | exact View.data rfl rfl rfl | exact (View.data rfl rfl (by simp [mkShps_len])) | exact view_box rfl (by repeat (first | exact AllD.nil | apply AllD.cons)) | apply View.agg_ | apply View.fn_ | exact View.ref _)) (Turn_a xs hq hn) rfl (by first | (intro s hs; simp only [List.mem_singleton] at hs; subst hs; exact sf_shps _ _ _) | (intro s hs; simp at hs; try (subst hs; intro o ho; simp at ho; subst ho; simp [Cells.flat, DV.flat, AV.flat, AV.flatL]))) (by repeat (first | exact abv_nil _ | exact abv_lks rfl | refine abv_upd ?_ rfl)) (by repeat (first | exact RenRL.nil | apply RenRL.cons | exact RenR.d _ | apply RenR.agg | apply RenR.tup | exact RenR.own _ _ _ _ rfl | exact RenR.ptr _ _ _ _ _ _ rfl | exact RenR.ref _ | apply RenR.fn | exact RenR.dead)) (by repeat (first | exact BirR.nil _ _ | (apply BirR.cons; (first | exact RenS.no | exact RenS.dead | exact RenS.data _ _ _ | (apply RenS.box; repeat (first | exact RenRL.nil | apply RenRL.cons | exact RenR.d _ | apply RenR.agg | apply RenR.tup | exact RenR.own _ _ _ _ rfl | exact RenR.ptr _ _ _ _ _ _ rfl | exact RenR.ref _ | apply RenR.fn | exact RenR.dead)) | exact RenS.gen _))))) ?_
    refine rt_p rfl (want_none rfl) rfl (pu_move (r := .tup _) rfl) ?_
    refine rt_p rfl (want_none rfl) rfl (pu_extract rfl rfl) ?_
    refine rt_p rfl (want_none rfl) rfl (pu_extract rfl rfl) ?_
    refine rt_s rfl (want_none rfl) rfl (st_alloc 26 (cs := [.d (.v (.slice none 0 0))]) tok rfl rfl rfl) ?_
    refine rt_w0 rfl (want_none rfl) (wr_store (cs := _ :: _) tok rfl rfl rfl rfl rfl rfl rfl rfl (by first | rfl | (simp [Cells.len]; done) | (simp [Cells.len]; omega)) (by first | rfl | exact data_get (map_at (by assumption)) | exact data_get (by assumption) | exact data_get (List.getElem?_set_self (by simp; omega)) | exact data_get (List.getElem?_set_self (by simpa using hlt))) (by repeat (first | exact Spl.z _ | apply Spl.t | apply Spl.d)) (by first | exact SetC.box _ _ | exact SetC.data _ _ (by repeat (first | exact AllD.nil | apply AllD.cons)) | exact SetC.av _ _ _) (by first | exact SetO.one _ _ | exact SetO.gen _ _ _)) ?_
    refine rt_p rfl (want_none rfl) rfl (pu_assign (r := .d _) rfl) ?_
    refine rt_nil ?_
    refine then_n ?_
    refine aw_seq ?_
    refine aw_seq ?_
    refine aw_region (is := [0, 1, 2, 3, 4, 5, 6, 7, 8]) rfl ?_
    refine rt_l rfl (want_none rfl) rfl (li_loadN tok rfl rfl rfl rfl (by first | rfl | (simp [Cells.len]; done) | (simp [Cells.len]; omega)) (by first | rfl | exact data_get (map_at (by assumption)) | exact data_get (by assumption) | exact data_get (List.getElem?_set_self (by simp; omega)) | exact data_get (List.getElem?_set_self (by simpa using hlt))) (by repeat (first | exact Seg.z _ | apply Seg.t | apply Seg.d))) ?_
    refine rt_l rfl (want_none rfl) rfl (li_loadN tok rfl rfl rfl rfl (by first | rfl | (simp [Cells.len]; done) | (simp [Cells.len]; omega)) (by first | rfl | exact data_get (map_at (by assumption)) | exact data_get (by assumption) | exact data_get (List.getElem?_set_self (by simp; omega)) | exact data_get (List.getElem?_set_self (by simpa using hlt))) (by repeat (first | exact Seg.z _ | apply Seg.t | apply Seg.d))) ?_
    refine rt_s rfl (want_none rfl) rfl (st_callV 27 rfl (by repeat (first | exact Vs.nil | apply Vs.cons | exact View.d _ | exact View.data rfl rfl rfl | exact (View.data rfl rfl (by simp [mkShps_len])) | exact view_box rfl (by repeat (first | exact AllD.nil | apply AllD.cons)) | apply View.agg_ | apply View.fn_ | exact View.ref _)) (eqDrawing_a (turnR xs) (turnR xs) hl2 hl2) rfl (by first | (intro s hs; simp only [List.mem_singleton] at hs; subst hs; exact sf_shps _ _ _) | (intro s hs; simp at hs; try (subst hs; intro o ho; simp at ho; subst ho; simp [Cells.flat, DV.flat, AV.flat, AV.flatL]))) (by repeat (first | exact abv_nil _ | exact abv_lks rfl | refine abv_upd ?_ rfl)) (by repeat (first | exact RenRL.nil | apply RenRL.cons | exact RenR.d _ | apply RenR.agg | apply RenR.tup | exact RenR.own _ _ _ _ rfl | exact RenR.ptr _ _ _ _ _ _ rfl | exact RenR.ref _ | apply RenR.fn | exact RenR.dead)) (by repeat (first | exact BirR.nil _ _ | (apply BirR.cons; (first | exact RenS.no | exact RenS.dead | exact RenS.data _ _ _ | (apply RenS.box; repeat (first | exact RenRL.nil | apply RenRL.cons | exact RenR.d _ | apply RenR.agg | apply RenR.tup | exact RenR.own _ _ _ _ rfl | exact RenR.ptr _ _ _ _ _ _ rfl | exact RenR.ref _ | apply RenR.fn | exact RenR.dead)) | exact RenS.gen _))))) ?_
    refine rt_p rfl (want_none rfl) rfl (pu_notP rfl) ?_
    refine rt_p rfl (want_none rfl) rfl (pu_move (r := .d _) rfl) ?_
    refine rt_boolP (u := 36) rfl (fun hg => ?_) (fun hg => ?_)
    · exfalso; simp at hg; done
    · skip
      refine rt_p rfl (want_some rfl rfl rfl rfl) rfl (pu_move (r := .d _) rfl) ?_
      refine rt_p rfl (want_some rfl rfl rfl rfl) rfl (pu_move (r := .d _) rfl) ?_
      refine rt_p rfl (want_some rfl rfl rfl rfl) rfl (pu_neq rfl rfl) ?_
      refine rt_p rfl (want_none rfl) rfl (pu_pick_f (r := .d _) rfl rfl) ?_
      refine rt_nil ?_
      refine then_n ?_
      refine aw_condP _ rfl (fun hc => ?_) (fun hc => ?_)
      · exfalso; omega
      · skip
        try (have hq : xs.length ≤ 1048576 := by have := szS_ge (left := 1048576) (xs := xs) (by omega); omega)
        try (have hl1 := turnR_ok hq)
        try (have hl2 : (turnR xs).length ≤ 9223372036854775807 := by omega)
        refine aw_skip ?_
        refine then_n ?_
        refine aw_seq ?_
        refine aw_seq ?_
        refine aw_region_draw (is := [0, 1, 2, 3, 4]) follows ?_
        refine rt_l rfl (want_none rfl) rfl (li_loadN tok rfl rfl rfl rfl (by first | rfl | (simp [Cells.len]; done) | (simp [Cells.len]; omega)) (by first | rfl | exact data_get (map_at (by assumption)) | exact data_get (by assumption) | exact data_get (List.getElem?_set_self (by simp; omega)) | exact data_get (List.getElem?_set_self (by simpa using hlt))) (by repeat (first | exact Seg.z _ | apply Seg.t | apply Seg.d))) ?_
        refine rt_l rfl (want_none rfl) rfl (li_loadN tok rfl rfl rfl rfl (by first | rfl | (simp [Cells.len]; done) | (simp [Cells.len]; omega)) (by first | rfl | exact data_get (map_at (by assumption)) | exact data_get (by assumption) | exact data_get (List.getElem?_set_self (by simp; omega)) | exact data_get (List.getElem?_set_self (by simpa using hlt))) (by repeat (first | exact Seg.z _ | apply Seg.t | apply Seg.d))) ?_
        refine rt_s rfl (want_none rfl) rfl (st_call 31 rfl rfl rfl (toDrawing_a xs hq) (by repeat (first | exact abv_nil _ | exact abv_lks rfl | refine abv_upd ?_ rfl)) (by repeat (first | exact RenRL.nil | apply RenRL.cons | exact RenR.d _ | apply RenR.agg | apply RenR.tup | exact RenR.own _ _ _ _ rfl | exact RenR.ptr _ _ _ _ _ _ rfl | exact RenR.ref _ | apply RenR.fn | exact RenR.dead)) (by repeat (first | exact BirR.nil _ _ | (apply BirR.cons; (first | exact RenS.no | exact RenS.dead | exact RenS.data _ _ _ | (apply RenS.box; repeat (first | exact RenRL.nil | apply RenRL.cons | exact RenR.d _ | apply RenR.agg | apply RenR.tup | exact RenR.own _ _ _ _ rfl | exact RenR.ptr _ _ _ _ _ _ rfl | exact RenR.ref _ | apply RenR.fn | exact RenR.dead)) | exact RenS.gen _))))) ?_
        refine rt_s rfl (want_none rfl) rfl (st_callV 35 rfl (by repeat (first | exact Vs.nil | apply Vs.cons | exact View.d _ | exact View.data rfl rfl rfl | exact (View.data rfl rfl (by simp [mkShps_len])) | exact view_box rfl (by repeat (first | exact AllD.nil | apply AllD.cons)) | apply View.agg_ | apply View.fn_ | exact View.ref _)) (eqDrawing_a xs xs hm hm) rfl (by first | (intro s hs; simp only [List.mem_singleton] at hs; subst hs; exact sf_shps _ _ _) | (intro s hs; simp at hs; try (subst hs; intro o ho; simp at ho; subst ho; simp [Cells.flat, DV.flat, AV.flat, AV.flatL]))) (by repeat (first | exact abv_nil _ | exact abv_lks rfl | refine abv_upd ?_ rfl)) (by repeat (first | exact RenRL.nil | apply RenRL.cons | exact RenR.d _ | apply RenR.agg | apply RenR.tup | exact RenR.own _ _ _ _ rfl | exact RenR.ptr _ _ _ _ _ _ rfl | exact RenR.ref _ | apply RenR.fn | exact RenR.dead)) (by repeat (first | exact BirR.nil _ _ | (apply BirR.cons; (first | exact RenS.no | exact RenS.dead | exact RenS.data _ _ _ | (apply RenS.box; repeat (first | exact RenRL.nil | apply RenRL.cons | exact RenR.d _ | apply RenR.agg | apply RenR.tup | exact RenR.own _ _ _ _ rfl | exact RenR.ptr _ _ _ _ _ _ rfl | exact RenR.ref _ | apply RenR.fn | exact RenR.dead)) | exact RenS.gen _))))) ?_
        refine rt_p rfl (want_none rfl) rfl (pu_notP rfl) ?_
        refine rt_nil ?_
        refine ⟨by kernel_rfl, ?_⟩
        refine then_n ?_
        refine aw_condP _ rfl (fun hc => ?_) (fun hc => ?_)
        · exfalso; simp at hc; done
        · skip
          try (have hq : xs.length ≤ 1048576 := by have := szS_ge (left := 1048576) (xs := xs) (by omega); omega)
          try (have hl1 := turnR_ok hq)
          try (have hl2 : (turnR xs).length ≤ 9223372036854775807 := by omega)
          refine aw_skip ?_
          refine then_n ?_
          refine aw_seq ?_
          refine aw_region (is := [0]) rfl ?_
          refine rt_p rfl (want_none rfl) rfl (pu_assign (r := .d _) rfl) ?_
          refine rt_nil ?_
          refine then_n ?_
          refine aw_seq ?_
          refine aw_region (is := [0, 1, 2, 3]) rfl ?_
          refine rt_l rfl (want_none rfl) rfl (li_loadN tok rfl rfl rfl rfl (by first | rfl | (simp [Cells.len]; done) | (simp [Cells.len]; omega)) (by first | rfl | exact data_get (map_at (by assumption)) | exact data_get (by assumption) | exact data_get (List.getElem?_set_self (by simp; omega)) | exact data_get (List.getElem?_set_self (by simpa using hlt))) (by repeat (first | exact Seg.z _ | apply Seg.t | apply Seg.d))) ?_
          refine rt_p rfl (want_none rfl) rfl (pu_move (r := .d _) rfl) ?_
          refine rt_w rfl (want_none rfl) rfl (wr_callP [17] 200 rfl rfl (by repeat (first | exact RenRL.nil | apply RenRL.cons | exact RenR.d _ | apply RenR.agg | apply RenR.tup | exact RenR.own _ _ _ _ rfl | exact RenR.ptr _ _ _ _ _ _ rfl | exact RenR.ref _ | apply RenR.fn | exact RenR.dead)) (markDrawing_a xs 1 (by omega) (by omega) hq) (by repeat (first | exact abv_nil _ | exact abv_lks rfl | refine abv_upd ?_ rfl)) (by decide) (by decide) (by repeat (first | exact AtK.nil | (apply AtK.cons rfl; (first | exact RenS.no | exact RenS.dead | exact RenS.data _ _ _ | (apply RenS.box; repeat (first | exact RenRL.nil | apply RenRL.cons | exact RenR.d _ | apply RenR.agg | apply RenR.tup | exact RenR.own _ _ _ _ rfl | exact RenR.ptr _ _ _ _ _ _ rfl | exact RenR.ref _ | apply RenR.fn | exact RenR.dead)) | exact RenS.gen _)))) (by repeat (first | exact UpdR.nil _ | (apply UpdR.cons; (first | exact RenS.no | exact RenS.dead | exact RenS.data _ _ _ | (apply RenS.box; repeat (first | exact RenRL.nil | apply RenRL.cons | exact RenR.d _ | apply RenR.agg | apply RenR.tup | exact RenR.own _ _ _ _ rfl | exact RenR.ptr _ _ _ _ _ _ rfl | exact RenR.ref _ | apply RenR.fn | exact RenR.dead)) | exact RenS.gen _)))) (by repeat (first | exact RenRL.nil | apply RenRL.cons | exact RenR.d _ | apply RenR.agg | apply RenR.tup | exact RenR.own _ _ _ _ rfl | exact RenR.ptr _ _ _ _ _ _ rfl | exact RenR.ref _ | apply RenR.fn | exact RenR.dead))) ?_
          refine rt_p rfl (want_none rfl) rfl (pu_assign (r := .d _) rfl) ?_
          refine rt_nil ?_
          refine then_n ?_
          refine aw_seq ?_
          refine aw_seq ?_
          refine aw_region (is := [0, 1, 2, 3, 4, 5, 6, 7, 8, 9, 10, 11, 12]) rfl ?_
          refine rt_p rfl (want_none rfl) rfl (pu_move (r := .d _) rfl) ?_
          refine rt_p rfl (want_none rfl) rfl (pu_lss rfl rfl) ?_
          refine rt_p rfl (want_none rfl) rfl (pu_move (r := .d _) rfl) ?_
          refine rt_boolP (u := 51) rfl (fun hg => ?_) (fun hg => ?_)
          · exfalso; omega
          · skip
            refine rt_l rfl (want_some rfl rfl rfl rfl) rfl (li_loadN tok rfl rfl rfl rfl (by first | rfl | (simp [Cells.len]; done) | (simp [Cells.len]; omega)) (by first | rfl | exact data_get (map_at (by assumption)) | exact data_get (by assumption) | exact data_get (List.getElem?_set_self (by simp; omega)) | exact data_get (List.getElem?_set_self (by simpa using hlt))) (by repeat (first | exact Seg.z _ | apply Seg.t | apply Seg.d))) ?_
            refine rt_l rfl (want_some rfl rfl rfl rfl) rfl (li_loadN tok rfl rfl rfl rfl (by first | rfl | (simp [Cells.len]; done) | (simp [Cells.len]; omega)) (by first | rfl | exact data_get (map_at (by assumption)) | exact data_get (by assumption) | exact data_get (List.getElem?_set_self (by simp; omega)) | exact data_get (List.getElem?_set_self (by simpa using hlt))) (by repeat (first | exact Seg.z _ | apply Seg.t | apply Seg.d))) ?_
            refine rt_s rfl (want_some rfl rfl rfl rfl) rfl (st_callV 68 rfl (by repeat (first | exact Vs.nil | apply Vs.cons | exact View.d _ | exact View.data rfl rfl rfl | exact (View.data rfl rfl (by simp [mkShps_len])) | exact view_box rfl (by repeat (first | exact AllD.nil | apply AllD.cons)) | apply View.agg_ | apply View.fn_ | exact View.ref _)) (eqDrawing_a (turnR xs) (turnR xs) hl2 hl2) rfl (by first | (intro s hs; simp only [List.mem_singleton] at hs; subst hs; exact sf_shps _ _ _) | (intro s hs; simp at hs; try (subst hs; intro o ho; simp at ho; subst ho; simp [Cells.flat, DV.flat, AV.flat, AV.flatL]))) (by repeat (first | exact abv_nil _ | exact abv_lks rfl | refine abv_upd ?_ rfl)) (by repeat (first | exact RenRL.nil | apply RenRL.cons | exact RenR.d _ | apply RenR.agg | apply RenR.tup | exact RenR.own _ _ _ _ rfl | exact RenR.ptr _ _ _ _ _ _ rfl | exact RenR.ref _ | apply RenR.fn | exact RenR.dead)) (by repeat (first | exact BirR.nil _ _ | (apply BirR.cons; (first | exact RenS.no | exact RenS.dead | exact RenS.data _ _ _ | (apply RenS.box; repeat (first | exact RenRL.nil | apply RenRL.cons | exact RenR.d _ | apply RenR.agg | apply RenR.tup | exact RenR.own _ _ _ _ rfl | exact RenR.ptr _ _ _ _ _ _ rfl | exact RenR.ref _ | apply RenR.fn | exact RenR.dead)) | exact RenS.gen _))))) ?_
            refine rt_p rfl (want_some rfl rfl rfl rfl) rfl (pu_notP rfl) ?_
            refine rt_p rfl (want_none rfl) rfl (pu_pick_f (r := .d _) rfl rfl) ?_
            refine rt_p rfl (want_none rfl) rfl (pu_move (r := .d _) rfl) ?_
            refine rt_boolP (u := 57) rfl (fun hg => ?_) (fun hg => ?_)
            · exfalso; simp at hg; done
            · skip
              refine rt_p rfl (want_some rfl rfl rfl rfl) rfl (pu_move (r := .d _) rfl) ?_
              refine rt_p rfl (want_some rfl rfl rfl rfl) rfl (pu_move (r := .d _) rfl) ?_
              refine rt_p rfl (want_some rfl rfl rfl rfl) rfl (pu_neq rfl rfl) ?_
              refine rt_p rfl (want_none rfl) rfl (pu_pick_f (r := .d _) rfl rfl) ?_
              refine rt_nil ?_
              refine then_n ?_
              refine aw_condP _ rfl (fun hc => ?_) (fun hc => ?_)
              · exfalso; omega
              · skip
                try (have hq : xs.length ≤ 1048576 := by have := szS_ge (left := 1048576) (xs := xs) (by omega); omega)
                try (have hl1 := turnR_ok hq)
                try (have hl2 : (turnR xs).length ≤ 9223372036854775807 := by omega)
                refine aw_skip ?_
                refine then_n ?_
                refine aw_seq ?_
                refine aw_region (is := [0]) rfl ?_
                refine rt_p rfl (want_none rfl) rfl (pu_assign (r := .d _) rfl) ?_
                refine rt_nil ?_
                refine then_n ?_
                refine aw_seq ?_
                refine aw_region (is := [0, 1, 2, 3]) rfl ?_
                refine rt_l rfl (want_none rfl) rfl (li_loadN tok rfl rfl rfl rfl (by first | rfl | (simp [Cells.len]; done) | (simp [Cells.len]; omega)) (by first | rfl | exact data_get (map_at (by assumption)) | exact data_get (by assumption) | exact data_get (List.getElem?_set_self (by simp; omega)) | exact data_get (List.getElem?_set_self (by simpa using hlt))) (by repeat (first | exact Seg.z _ | apply Seg.t | apply Seg.d))) ?_
                refine rt_p rfl (want_none rfl) rfl (pu_move (r := .d _) rfl) ?_
                refine rt_w rfl (want_none rfl) rfl (wr_callP [22] 200 rfl rfl (by repeat (first | exact RenRL.nil | apply RenRL.cons | exact RenR.d _ | apply RenR.agg | apply RenR.tup | exact RenR.own _ _ _ _ rfl | exact RenR.ptr _ _ _ _ _ _ rfl | exact RenR.ref _ | apply RenR.fn | exact RenR.dead)) (markDrawing_a (turnR xs) 1 (by omega) (by omega) hl1) (by repeat (first | exact abv_nil _ | exact abv_lks rfl | refine abv_upd ?_ rfl)) (by decide) (by decide) (by repeat (first | exact AtK.nil | (apply AtK.cons rfl; (first | exact RenS.no | exact RenS.dead | exact RenS.data _ _ _ | (apply RenS.box; repeat (first | exact RenRL.nil | apply RenRL.cons | exact RenR.d _ | apply RenR.agg | apply RenR.tup | exact RenR.own _ _ _ _ rfl | exact RenR.ptr _ _ _ _ _ _ rfl | exact RenR.ref _ | apply RenR.fn | exact RenR.dead)) | exact RenS.gen _)))) (by repeat (first | exact UpdR.nil _ | (apply UpdR.cons; (first | exact RenS.no | exact RenS.dead | exact RenS.data _ _ _ | (apply RenS.box; repeat (first | exact RenRL.nil | apply RenRL.cons | exact RenR.d _ | apply RenR.agg | apply RenR.tup | exact RenR.own _ _ _ _ rfl | exact RenR.ptr _ _ _ _ _ _ rfl | exact RenR.ref _ | apply RenR.fn | exact RenR.dead)) | exact RenS.gen _)))) (by repeat (first | exact RenRL.nil | apply RenRL.cons | exact RenR.d _ | apply RenR.agg | apply RenR.tup | exact RenR.own _ _ _ _ rfl | exact RenR.ptr _ _ _ _ _ _ rfl | exact RenR.ref _ | apply RenR.fn | exact RenR.dead))) ?_
                refine rt_p rfl (want_none rfl) rfl (pu_assign (r := .d _) rfl) ?_
                refine rt_nil ?_
                refine then_n ?_
                refine aw_seq ?_
                refine aw_region (is := [0]) rfl ?_
                refine rt_p rfl (want_none rfl) rfl (pu_assign (r := .d _) rfl) ?_
                refine rt_nil ?_
                refine then_n ?_
                refine aw_seq ?_
                refine aw_region (is := [0, 1, 2, 3]) rfl ?_
                refine rt_l rfl (want_none rfl) rfl (li_loadN tok rfl rfl rfl rfl (by first | rfl | (simp [Cells.len]; done) | (simp [Cells.len]; omega)) (by first | rfl | exact data_get (map_at (by assumption)) | exact data_get (by assumption) | exact data_get (List.getElem?_set_self (by simp; omega)) | exact data_get (List.getElem?_set_self (by simpa using hlt))) (by repeat (first | exact Seg.z _ | apply Seg.t | apply Seg.d))) ?_
                refine rt_p rfl (want_none rfl) rfl (pu_move (r := .d _) rfl) ?_
                refine rt_s rfl (want_none rfl) rfl (st_callV 47 rfl (by repeat (first | exact Vs.nil | apply Vs.cons | exact View.d _ | exact View.data rfl rfl rfl | exact (View.data rfl rfl (by simp [mkShps_len])) | exact view_box rfl (by repeat (first | exact AllD.nil | apply AllD.cons)) | apply View.agg_ | apply View.fn_ | exact View.ref _)) (heldDrawing_a (turnR xs).length 1 (by omega) (by omega) hl1) rfl (by first | (intro s hs; simp only [List.mem_singleton] at hs; subst hs; exact sf_shps _ _ _) | (intro s hs; simp at hs; try (subst hs; intro o ho; simp at ho; subst ho; simp [Cells.flat, DV.flat, AV.flat, AV.flatL]))) (by repeat (first | exact abv_nil _ | exact abv_lks rfl | refine abv_upd ?_ rfl)) (by repeat (first | exact RenRL.nil | apply RenRL.cons | exact RenR.d _ | apply RenR.agg | apply RenR.tup | exact RenR.own _ _ _ _ rfl | exact RenR.ptr _ _ _ _ _ _ rfl | exact RenR.ref _ | apply RenR.fn | exact RenR.dead)) (by repeat (first | exact BirR.nil _ _ | (apply BirR.cons; (first | exact RenS.no | exact RenS.dead | exact RenS.data _ _ _ | (apply RenS.box; repeat (first | exact RenRL.nil | apply RenRL.cons | exact RenR.d _ | apply RenR.agg | apply RenR.tup | exact RenR.own _ _ _ _ rfl | exact RenR.ptr _ _ _ _ _ _ rfl | exact RenR.ref _ | apply RenR.fn | exact RenR.dead)) | exact RenS.gen _))))) ?_
                refine rt_p rfl (want_none rfl) rfl (pu_assign (r := .d _) rfl) ?_
                refine rt_nil ?_
                refine then_n ?_
                refine aw_seq ?_
                refine aw_seq ?_
                refine aw_region (is := [0, 1]) rfl ?_
                refine rt_p rfl (want_none rfl) rfl (pu_move (r := .d _) rfl) ?_
                refine rt_p rfl (want_none rfl) rfl (pu_lss rfl rfl) ?_
                refine rt_nil ?_
                refine then_n ?_
                refine aw_condP _ rfl (fun hc => ?_) (fun hc => ?_)
                · exfalso; omega
                · skip
                  try (have hq : xs.length ≤ 1048576 := by have := szS_ge (left := 1048576) (xs := xs) (by omega); omega)
                  try (have hl1 := turnR_ok hq)
                  try (have hl2 : (turnR xs).length ≤ 9223372036854775807 := by omega)
                  refine aw_skip ?_
                  refine then_n ?_
                  refine aw_seq ?_
                  refine aw_seq ?_
                  refine aw_region (is := [0, 1, 2]) rfl ?_
                  refine rt_p rfl (want_none rfl) rfl (pu_move (r := .d _) rfl) ?_
                  refine rt_p rfl (want_none rfl) rfl (pu_move (r := .d _) rfl) ?_
                  refine rt_p rfl (want_none rfl) rfl (pu_neq rfl rfl) ?_
                  refine rt_nil ?_
                  refine then_n ?_
                  refine aw_condP _ rfl (fun hc => ?_) (fun hc => ?_)
                  · exfalso; omega
                  · skip
                    try (have hq : xs.length ≤ 1048576 := by have := szS_ge (left := 1048576) (xs := xs) (by omega); omega)
                    try (have hl1 := turnR_ok hq)
                    try (have hl2 : (turnR xs).length ≤ 9223372036854775807 := by omega)
                    refine aw_skip ?_
                    refine then_n ?_
                    refine aw_seq ?_
                    refine aw_region (is := [0, 1, 2, 3, 4, 5, 6, 7, 8]) rfl ?_
                    refine rt_l rfl (want_none rfl) rfl (li_loadN tok rfl rfl rfl rfl (by first | rfl | (simp [Cells.len]; done) | (simp [Cells.len]; omega)) (by first | rfl | exact data_get (map_at (by assumption)) | exact data_get (by assumption) | exact data_get (List.getElem?_set_self (by simp; omega)) | exact data_get (List.getElem?_set_self (by simpa using hlt))) (by repeat (first | exact Seg.z _ | apply Seg.t | apply Seg.d))) ?_
                    refine rt_s rfl (want_none rfl) rfl (st_call 51 rfl rfl rfl (toDrawing_a xs hq) (by repeat (first | exact abv_nil _ | exact abv_lks rfl | refine abv_upd ?_ rfl)) (by repeat (first | exact RenRL.nil | apply RenRL.cons | exact RenR.d _ | apply RenR.agg | apply RenR.tup | exact RenR.own _ _ _ _ rfl | exact RenR.ptr _ _ _ _ _ _ rfl | exact RenR.ref _ | apply RenR.fn | exact RenR.dead)) (by repeat (first | exact BirR.nil _ _ | (apply BirR.cons; (first | exact RenS.no | exact RenS.dead | exact RenS.data _ _ _ | (apply RenS.box; repeat (first | exact RenRL.nil | apply RenRL.cons | exact RenR.d _ | apply RenR.agg | apply RenR.tup | exact RenR.own _ _ _ _ rfl | exact RenR.ptr _ _ _ _ _ _ rfl | exact RenR.ref _ | apply RenR.fn | exact RenR.dead)) | exact RenS.gen _))))) ?_
                    refine rt_s rfl (want_none rfl) rfl (st_callV 55 rfl (by repeat (first | exact Vs.nil | apply Vs.cons | exact View.d _ | exact View.data rfl rfl rfl | exact (View.data rfl rfl (by simp [mkShps_len])) | exact view_box rfl (by repeat (first | exact AllD.nil | apply AllD.cons)) | apply View.agg_ | apply View.fn_ | exact View.ref _)) (Turn_a xs hq hn) rfl (by first | (intro s hs; simp only [List.mem_singleton] at hs; subst hs; exact sf_shps _ _ _) | (intro s hs; simp at hs; try (subst hs; intro o ho; simp at ho; subst ho; simp [Cells.flat, DV.flat, AV.flat, AV.flatL]))) (by repeat (first | exact abv_nil _ | exact abv_lks rfl | refine abv_upd ?_ rfl)) (by repeat (first | exact RenRL.nil | apply RenRL.cons | exact RenR.d _ | apply RenR.agg | apply RenR.tup | exact RenR.own _ _ _ _ rfl | exact RenR.ptr _ _ _ _ _ _ rfl | exact RenR.ref _ | apply RenR.fn | exact RenR.dead)) (by repeat (first | exact BirR.nil _ _ | (apply BirR.cons; (first | exact RenS.no | exact RenS.dead | exact RenS.data _ _ _ | (apply RenS.box; repeat (first | exact RenRL.nil | apply RenRL.cons | exact RenR.d _ | apply RenR.agg | apply RenR.tup | exact RenR.own _ _ _ _ rfl | exact RenR.ptr _ _ _ _ _ _ rfl | exact RenR.ref _ | apply RenR.fn | exact RenR.dead)) | exact RenS.gen _))))) ?_
                    refine rt_p rfl (want_none rfl) rfl (pu_move (r := .tup _) rfl) ?_
                    refine rt_p rfl (want_none rfl) rfl (pu_extract rfl rfl) ?_
                    refine rt_p rfl (want_none rfl) rfl (pu_extract rfl rfl) ?_
                    refine rt_s rfl (want_none rfl) rfl (st_alloc 59 (cs := [.d (.v (.slice none 0 0))]) tok rfl rfl rfl) ?_
                    refine rt_w0 rfl (want_none rfl) (wr_store (cs := _ :: _) tok rfl rfl rfl rfl rfl rfl rfl rfl (by first | rfl | (simp [Cells.len]; done) | (simp [Cells.len]; omega)) (by first | rfl | exact data_get (map_at (by assumption)) | exact data_get (by assumption) | exact data_get (List.getElem?_set_self (by simp; omega)) | exact data_get (List.getElem?_set_self (by simpa using hlt))) (by repeat (first | exact Spl.z _ | apply Spl.t | apply Spl.d)) (by first | exact SetC.box _ _ | exact SetC.data _ _ (by repeat (first | exact AllD.nil | apply AllD.cons)) | exact SetC.av _ _ _) (by first | exact SetO.one _ _ | exact SetO.gen _ _ _)) ?_
                    refine rt_p rfl (want_none rfl) rfl (pu_assign (r := .d _) rfl) ?_
                    refine rt_nil ?_
                    refine then_n ?_
                    refine aw_seq ?_
                    refine aw_seq ?_
                    refine aw_region (is := [0, 1, 2, 3, 4, 5, 6, 7, 8]) rfl ?_
                    refine rt_l rfl (want_none rfl) rfl (li_loadN tok rfl rfl rfl rfl (by first | rfl | (simp [Cells.len]; done) | (simp [Cells.len]; omega)) (by first | rfl | exact data_get (map_at (by assumption)) | exact data_get (by assumption) | exact data_get (List.getElem?_set_self (by simp; omega)) | exact data_get (List.getElem?_set_self (by simpa using hlt))) (by repeat (first | exact Seg.z _ | apply Seg.t | apply Seg.d))) ?_
                    refine rt_l rfl (want_none rfl) rfl (li_loadN tok rfl rfl rfl rfl (by first | rfl | (simp [Cells.len]; done) | (simp [Cells.len]; omega)) (by first | rfl | exact data_get (map_at (by assumption)) | exact data_get (by assumption) | exact data_get (List.getElem?_set_self (by simp; omega)) | exact data_get (List.getElem?_set_self (by simpa using hlt))) (by repeat (first | exact Seg.z _ | apply Seg.t | apply Seg.d))) ?_
                    refine rt_s rfl (want_none rfl) rfl (st_callV 60 rfl (by repeat (first | exact Vs.nil | apply Vs.cons | exact View.d _ | exact View.data rfl rfl rfl | exact (View.data rfl rfl (by simp [mkShps_len])) | exact view_box rfl (by repeat (first | exact AllD.nil | apply AllD.cons)) | apply View.agg_ | apply View.fn_ | exact View.ref _)) (eqDrawing_a (turnR xs) (turnR xs) hl2 hl2) rfl (by first | (intro s hs; simp only [List.mem_singleton] at hs; subst hs; exact sf_shps _ _ _) | (intro s hs; simp at hs; try (subst hs; intro o ho; simp at ho; subst ho; simp [Cells.flat, DV.flat, AV.flat, AV.flatL]))) (by repeat (first | exact abv_nil _ | exact abv_lks rfl | refine abv_upd ?_ rfl)) (by repeat (first | exact RenRL.nil | apply RenRL.cons | exact RenR.d _ | apply RenR.agg | apply RenR.tup | exact RenR.own _ _ _ _ rfl | exact RenR.ptr _ _ _ _ _ _ rfl | exact RenR.ref _ | apply RenR.fn | exact RenR.dead)) (by repeat (first | exact BirR.nil _ _ | (apply BirR.cons; (first | exact RenS.no | exact RenS.dead | exact RenS.data _ _ _ | (apply RenS.box; repeat (first | exact RenRL.nil | apply RenRL.cons | exact RenR.d _ | apply RenR.agg | apply RenR.tup | exact RenR.own _ _ _ _ rfl | exact RenR.ptr _ _ _ _ _ _ rfl | exact RenR.ref _ | apply RenR.fn | exact RenR.dead)) | exact RenS.gen _))))) ?_
                    refine rt_p rfl (want_none rfl) rfl (pu_notP rfl) ?_
                    refine rt_p rfl (want_none rfl) rfl (pu_move (r := .d _) rfl) ?_
                    refine rt_boolP (u := 83) rfl (fun hg => ?_) (fun hg => ?_)
                    · exfalso; simp at hg; done
                    · skip
                      refine rt_p rfl (want_some rfl rfl rfl rfl) rfl (pu_move (r := .d _) rfl) ?_
                      refine rt_p rfl (want_some rfl rfl rfl rfl) rfl (pu_move (r := .d _) rfl) ?_
                      refine rt_p rfl (want_some rfl rfl rfl rfl) rfl (pu_neq rfl rfl) ?_
                      refine rt_p rfl (want_none rfl) rfl (pu_pick_f (r := .d _) rfl rfl) ?_
                      refine rt_nil ?_
                      refine then_n ?_
                      refine aw_condP _ rfl (fun hc => ?_) (fun hc => ?_)
                      · exfalso; omega
                      · skip
                        try (have hq : xs.length ≤ 1048576 := by have := szS_ge (left := 1048576) (xs := xs) (by omega); omega)
                        try (have hl1 := turnR_ok hq)
                        try (have hl2 : (turnR xs).length ≤ 9223372036854775807 := by omega)
                        refine aw_skip ?_
                        refine then_n ?_
                        refine aw_seq ?_
                        refine aw_region (is := [0]) rfl ?_
                        refine rt_p rfl (want_none rfl) rfl (pu_assign (r := .d _) rfl) ?_
                        refine rt_nil ?_
                        refine then_n ?_
                        refine aw_seq ?_
                        refine aw_region (is := [0, 1, 2, 3]) rfl ?_
                        refine rt_l rfl (want_none rfl) rfl (li_loadN tok rfl rfl rfl rfl (by first | rfl | (simp [Cells.len]; done) | (simp [Cells.len]; omega)) (by first | rfl | exact data_get (map_at (by assumption)) | exact data_get (by assumption) | exact data_get (List.getElem?_set_self (by simp; omega)) | exact data_get (List.getElem?_set_self (by simpa using hlt))) (by repeat (first | exact Seg.z _ | apply Seg.t | apply Seg.d))) ?_
                        refine rt_p rfl (want_none rfl) rfl (pu_move (r := .d _) rfl) ?_
                        refine rt_s rfl (want_none rfl) rfl (st_callV 64 rfl (by repeat (first | exact Vs.nil | apply Vs.cons | exact View.d _ | exact View.data rfl rfl rfl | exact (View.data rfl rfl (by simp [mkShps_len])) | exact view_box rfl (by repeat (first | exact AllD.nil | apply AllD.cons)) | apply View.agg_ | apply View.fn_ | exact View.ref _)) (heldDrawing_a (turnR xs).length 1 (by omega) (by omega) hl1) rfl (by first | (intro s hs; simp only [List.mem_singleton] at hs; subst hs; exact sf_shps _ _ _) | (intro s hs; simp at hs; try (subst hs; intro o ho; simp at ho; subst ho; simp [Cells.flat, DV.flat, AV.flat, AV.flatL]))) (by repeat (first | exact abv_nil _ | exact abv_lks rfl | refine abv_upd ?_ rfl)) (by repeat (first | exact RenRL.nil | apply RenRL.cons | exact RenR.d _ | apply RenR.agg | apply RenR.tup | exact RenR.own _ _ _ _ rfl | exact RenR.ptr _ _ _ _ _ _ rfl | exact RenR.ref _ | apply RenR.fn | exact RenR.dead)) (by repeat (first | exact BirR.nil _ _ | (apply BirR.cons; (first | exact RenS.no | exact RenS.dead | exact RenS.data _ _ _ | (apply RenS.box; repeat (first | exact RenRL.nil | apply RenRL.cons | exact RenR.d _ | apply RenR.agg | apply RenR.tup | exact RenR.own _ _ _ _ rfl | exact RenR.ptr _ _ _ _ _ _ rfl | exact RenR.ref _ | apply RenR.fn | exact RenR.dead)) | exact RenS.gen _))))) ?_
                        refine rt_p rfl (want_none rfl) rfl (pu_assign (r := .d _) rfl) ?_
                        refine rt_nil ?_
                        refine then_n ?_
                        refine aw_seq ?_
                        refine aw_seq ?_
                        refine aw_region (is := [0, 1]) rfl ?_
                        refine rt_p rfl (want_none rfl) rfl (pu_move (r := .d _) rfl) ?_
                        refine rt_p rfl (want_none rfl) rfl (pu_lss rfl rfl) ?_
                        refine rt_nil ?_
                        refine then_n ?_
                        refine aw_condP _ rfl (fun hc => ?_) (fun hc => ?_)
                        · exfalso; omega
                        · skip
                          try (have hq : xs.length ≤ 1048576 := by have := szS_ge (left := 1048576) (xs := xs) (by omega); omega)
                          try (have hl1 := turnR_ok hq)
                          try (have hl2 : (turnR xs).length ≤ 9223372036854775807 := by omega)
                          refine aw_skip ?_
                          refine then_n ?_
                          refine aw_seq ?_
                          refine aw_seq ?_
                          refine aw_region (is := [0, 1, 2]) rfl ?_
                          refine rt_p rfl (want_none rfl) rfl (pu_move (r := .d _) rfl) ?_
                          refine rt_p rfl (want_none rfl) rfl (pu_move (r := .d _) rfl) ?_
                          refine rt_p rfl (want_none rfl) rfl (pu_neq rfl rfl) ?_
                          refine rt_nil ?_
                          refine then_n ?_
                          refine aw_condP _ rfl (fun hc => ?_) (fun hc => ?_)
                          · exfalso; omega
                          · skip
                            try (have hq : xs.length ≤ 1048576 := by have := szS_ge (left := 1048576) (xs := xs) (by omega); omega)
                            try (have hl1 := turnR_ok hq)
                            try (have hl2 : (turnR xs).length ≤ 9223372036854775807 := by omega)
                            refine aw_skip ?_
                            refine then_n ?_
                            refine aw_seq ?_
                            refine aw_region (is := [0]) rfl ?_
                            refine rt_p rfl (want_none rfl) rfl (pu_assign (r := .d _) rfl) ?_
                            refine rt_nil ?_
                            refine then_n ?_
                            refine aw_ret ?_
                            refine ret0 (rs := [.tmp 2]) 200 rfl (by repeat (first | exact ResR.nil | apply ResR.tmp (a := .d _) rfl | apply ResR.tmp (a := .ptr _ _ _ _ _) rfl | apply ResR.tmp (a := .own _ _ _) rfl | apply ResR.tmp (a := .agg _) rfl | apply ResR.tmp (a := .ref _) rfl | apply ResR.tmp (a := .tup _) rfl | apply ResR.tmp (a := .fn _ _) rfl | apply ResR.tmp (a := .dead) rfl | apply ResR.cell1 rfl rfl rfl rfl (by first | rfl | (simp [Cells.len]; done) | (simp [Cells.len]; omega)) (by first | rfl | exact data_get (map_at (by assumption)) | exact data_get (by assumption) | exact data_get (List.getElem?_set_self (by simp; omega)) | exact data_get (List.getElem?_set_self (by simpa using hlt))) rfl | apply ResR.cellN rfl rfl rfl rfl (by first | rfl | (simp [Cells.len]; done) | (simp [Cells.len]; omega)) (by first | rfl | exact data_get (map_at (by assumption)) | exact data_get (by assumption) | exact data_get (List.getElem?_set_self (by simp; omega)) | exact data_get (List.getElem?_set_self (by simpa using hlt))) (by repeat (first | exact Seg.z _ | apply Seg.t | apply Seg.d)))) (by repeat (first | exact abv_nil _ | exact abv_lks rfl | refine abv_upd ?_ rfl)) rfl ?_
                            rfl
end Go.Proofs.Ytplnohfjeilodaa
