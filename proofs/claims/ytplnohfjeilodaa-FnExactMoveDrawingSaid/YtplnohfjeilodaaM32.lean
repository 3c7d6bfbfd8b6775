/- drawings moved, the program -/
import Derived.Test.YtplnohfjeilodaaTab
import Derived.Test.YtplnohfjeilodaaM31
import Derived.Test.YtplnohfjeilodaaProg
namespace Go.Proofs.Ytplnohfjeilodaa
open Go.RowKit
set_option linter.unusedVariables false
set_option maxRecDepth 100000
theorem move1_a (x y dx dy : Int) (h0 : -100000 ≤ x) (h1 : x ≤ 100000) (h2 : -100000 ≤ y) (h3 : y ≤ 100000) (hsp : -100000 ≤ dx ∧ dx ≤ 100000 ∧ -100000 ≤ dy ∧ dy ≤ 100000) : FnC Try.prog 79 [] [.agg [.d (.v (.int .i64 x)), .d (.v (.int .i64 y))], .ref [.v (.int .i64 dx), .v (.int .i64 dy)]] [] (.agg [.d (.v (.int .i64 (x + dx))), .d (.v (.int .i64 (y + dy)))]) := by
  refine fnc_intro (T := tt) (N := 15) tok Try.func79 rfl rfl (by kernel_rfl) rfl rfl ?_
  refine aw_seq ?_
  refine aw_region (is := [0, 1]) rfl ?_
  refine rt_s rfl (want_none rfl) rfl (st_box 3 (cs := _ :: _) rfl rfl rfl) ?_
  refine rt_s rfl (want_none rfl) rfl (st_alloc 4 (cs := [.d (.v (.int .i64 0)), .d (.v (.int .i64 0))]) tok rfl rfl rfl) ?_
  refine rt_nil ?_
  refine then_n ?_
  refine aw_seq ?_
  refine aw_region (is := [0, 1, 2, 3, 4, 5, 6, 7, 8, 9, 10, 11]) rfl ?_
  refine rt_l rfl (want_none rfl) rfl (li_fieldAddr tok rfl rfl rfl rfl rfl rfl rfl (by first | rfl | (simp [Cells.len]; done) | (simp [Cells.len]; omega)) (by first | rfl | exact data_get (map_at (by assumption)) | exact data_get (by assumption) | exact data_get (List.getElem?_set_self (by simp; omega)) | exact data_get (List.getElem?_set_self (by simpa using hlt)))) ?_
  refine rt_l rfl (want_none rfl) rfl (li_load1 tok rfl rfl rfl rfl (by first | rfl | (simp [Cells.len]; done) | (simp [Cells.len]; omega)) (by first | rfl | exact data_get (map_at (by assumption)) | exact data_get (by assumption) | exact data_get (List.getElem?_set_self (by simp; omega)) | exact data_get (List.getElem?_set_self (by simpa using hlt))) rfl) ?_
  refine rt_p rfl (want_none rfl) rfl (pu_fieldAddr_ref tok rfl rfl rfl rfl rfl rfl (by repeat (first | exact Drp.z _ | apply Drp.d))) ?_
  refine rt_p rfl (want_none rfl) rfl (pu_load_ref1 tok rfl rfl rfl rfl) ?_
  refine rt_p rfl (want_none rfl) rfl (pu_add rfl rfl (by omega) (by omega)) ?_
  refine rt_l rfl (want_none rfl) rfl (li_fieldAddr tok rfl rfl rfl rfl rfl rfl rfl (by first | rfl | (simp [Cells.len]; done) | (simp [Cells.len]; omega)) (by first | rfl | exact data_get (map_at (by assumption)) | exact data_get (by assumption) | exact data_get (List.getElem?_set_self (by simp; omega)) | exact data_get (List.getElem?_set_self (by simpa using hlt)))) ?_
  refine rt_l rfl (want_none rfl) rfl (li_load1 tok rfl rfl rfl rfl (by first | rfl | (simp [Cells.len]; done) | (simp [Cells.len]; omega)) (by first | rfl | exact data_get (map_at (by assumption)) | exact data_get (by assumption) | exact data_get (List.getElem?_set_self (by simp; omega)) | exact data_get (List.getElem?_set_self (by simpa using hlt))) rfl) ?_
  refine rt_p rfl (want_none rfl) rfl (pu_fieldAddr_ref tok rfl rfl rfl rfl rfl rfl (by repeat (first | exact Drp.z _ | apply Drp.d))) ?_
  refine rt_p rfl (want_none rfl) rfl (pu_load_ref1 tok rfl rfl rfl rfl) ?_
  refine rt_p rfl (want_none rfl) rfl (pu_add rfl rfl (by omega) (by omega)) ?_
  refine rt_p rfl (want_none rfl) rfl (pu_build (C0 := [.d (.v (.int .i64 0)), .d (.v (.int .i64 0))]) tok rfl rfl (by repeat (first | exact Plc.nil | apply Plc.cons rfl)) rfl (by repeat (first | exact Bld.nil _ | apply Bld.cons (cs := [.d _]) rfl rfl rfl rfl (by repeat (first | exact Spl.z _ | apply Spl.t | apply Spl.d)) | apply Bld.cons (cs := [.own _ _ _]) rfl rfl rfl rfl (by repeat (first | exact Spl.z _ | apply Spl.t | apply Spl.d)) | apply Bld.cons (cs := [.ptr _ _ _ _ _]) rfl rfl rfl rfl (by repeat (first | exact Spl.z _ | apply Spl.t | apply Spl.d)) | apply Bld.cons (cs := [.fn _ _]) rfl rfl rfl rfl (by repeat (first | exact Spl.z _ | apply Spl.t | apply Spl.d)) | apply Bld.cons (cs := _ :: _) rfl rfl rfl rfl (by repeat (first | exact Spl.z _ | apply Spl.t | apply Spl.d))))) ?_
  refine rt_w0 rfl (want_none rfl) (wr_store (cs := _ :: _) tok rfl rfl rfl rfl rfl rfl rfl rfl (by first | rfl | (simp [Cells.len]; done) | (simp [Cells.len]; omega)) (by first | rfl | exact data_get (map_at (by assumption)) | exact data_get (by assumption) | exact data_get (List.getElem?_set_self (by simp; omega)) | exact data_get (List.getElem?_set_self (by simpa using hlt))) (by repeat (first | exact Spl.z _ | apply Spl.t | apply Spl.d)) (by first | exact SetC.box _ _ | exact SetC.data _ _ (by repeat (first | exact AllD.nil | apply AllD.cons)) | exact SetC.av _ _ _) (by first | exact SetO.one _ _ | exact SetO.gen _ _ _)) ?_
  refine rt_nil ?_
  refine then_n ?_
  refine aw_ret ?_
  refine ret0 (rs := [.cell 3 39]) 200 rfl (by repeat (first | exact ResR.nil | apply ResR.tmp (a := .d _) rfl | apply ResR.tmp (a := .ptr _ _ _ _ _) rfl | apply ResR.tmp (a := .own _ _ _) rfl | apply ResR.tmp (a := .agg _) rfl | apply ResR.tmp (a := .ref _) rfl | apply ResR.tmp (a := .tup _) rfl | apply ResR.tmp (a := .fn _ _) rfl | apply ResR.tmp (a := .dead) rfl | apply ResR.cell1 rfl rfl rfl rfl (by first | rfl | (simp [Cells.len]; done) | (simp [Cells.len]; omega)) (by first | rfl | exact data_get (map_at (by assumption)) | exact data_get (by assumption) | exact data_get (List.getElem?_set_self (by simp; omega)) | exact data_get (List.getElem?_set_self (by simpa using hlt))) rfl | apply ResR.cellN rfl rfl rfl rfl (by first | rfl | (simp [Cells.len]; done) | (simp [Cells.len]; omega)) (by first | rfl | exact data_get (map_at (by assumption)) | exact data_get (by assumption) | exact data_get (List.getElem?_set_self (by simp; omega)) | exact data_get (List.getElem?_set_self (by simpa using hlt))) (by repeat (first | exact Seg.z _ | apply Seg.t | apply Seg.d)))) (by repeat (first | exact abv_nil _ | exact abv_lks rfl | refine abv_upd ?_ rfl)) rfl ?_
  rfl
theorem mappedM_a (xs : List Shp) (hm : xs.length ≤ 1048576) (hn : ∀ s ∈ xs, s.N.size ≤ 9223372036854775807) (dx dy : Int) (hd : drOk xs = true) (hsp : -100000 ≤ dx ∧ dx ≤ 100000 ∧ -100000 ≤ dy ∧ dy ≤ 100000) : FnC Try.prog 74 [] [.agg [.d (.sl (shpsD xs))], .fn 79 [.ref [.v (.int .i64 dx), .v (.int .i64 dy)]]] [.live [⟨80, 7, .data (shpsD (xs.map (move dx dy)))⟩]] (.agg [.own 0 0 xs.length]) := by
  refine fnc_intro (T := tt) (N := 35) tok Try.func74 rfl rfl (by kernel_rfl) rfl rfl ?_
  refine aw_seq ?_
  refine aw_region (is := [0, 1]) rfl ?_
  refine rt_s rfl (want_none rfl) rfl (st_box 3 (cs := _ :: _) rfl rfl rfl) ?_
  refine rt_s rfl (want_none rfl) rfl (st_alloc 4 (cs := [.d (.v (.slice none 0 0))]) tok rfl rfl rfl) ?_
  refine rt_nil ?_
  refine then_n ?_
  refine aw_seq ?_
  refine aw_region (is := [0]) rfl ?_
  refine rt_p rfl (want_none rfl) rfl (pu_assign (r := .d _) rfl) ?_
  refine rt_nil ?_
  refine then_n ?_
  refine aw_seq ?_
  refine aw_seq ?_
  refine aw_region (is := [0, 1, 2, 3]) rfl ?_
  refine rt_l rfl (want_none rfl) rfl (li_fieldAddr tok rfl rfl rfl rfl rfl rfl rfl (by first | rfl | (simp [Cells.len]; done) | (simp [Cells.len]; omega)) (by first | rfl | exact data_get (map_at (by assumption)) | exact data_get (by assumption) | exact data_get (List.getElem?_set_self (by simp; omega)) | exact data_get (List.getElem?_set_self (by simpa using hlt)))) ?_
  refine rt_l rfl (want_none rfl) rfl (li_load1 tok rfl rfl rfl rfl (by first | rfl | (simp [Cells.len]; done) | (simp [Cells.len]; omega)) (by first | rfl | exact data_get (map_at (by assumption)) | exact data_get (by assumption) | exact data_get (List.getElem?_set_self (by simp; omega)) | exact data_get (List.getElem?_set_self (by simpa using hlt))) rfl) ?_
  refine rt_p rfl (want_none rfl) rfl (pu_len_map tok rfl rfl rfl) ?_
  refine rt_p rfl (want_none rfl) rfl (pu_move (r := .d _) rfl) ?_
  refine rt_nil ?_
  refine then_n ?_
  refine aw_block ?_
  refine aw_weak (weak_adopt_t 5 rfl 80 7 (d := 5) rfl) ?_
  refine aw_loop (ι := {k : Nat // k ≤ xs.length}) (fun p => ⟨updA (updA (updA (updA (updA (updA (updA ((fun _ => .dead)) 1 (.fn 79 [.ref [.v (.int .i64 dx), .v (.int .i64 dy)]])) 2 (.ptr 3 0 1 0 0)) 4 (.ptr 4 0 1 0 0)) 5 (.own 5 0 (p.1))) 9 (.d (.sl (shpsD xs)))) 10 (.d (.v (.int .i64 (xs.length))))) 11 (.d (.v (.int .i64 (p.1)))), lks [.no, .no, .no, .live [⟨29, 1, .av [[.d (.sl (shpsD xs))]]⟩], .live [⟨29, 1, .av [[.d (.v (.slice none 0 0))]]⟩], .live [⟨80, 7, .data (mapS (move dx dy) xs p.1)⟩]]⟩) (fun p => xs.length - p.1) ⟨0, by omega⟩ ?_ ?_
  · (refine weak_of 200 (by repeat (first | exact abv_nil _ | exact abv_lks rfl | refine abv_upd ?_ rfl)) rfl (by repeat (first | exact WT.nil | refine WT.free_ rfl (by first | exact rfl | (exact eqData (mapS_0 (move dx dy) xs).symm) | exact eqI (by omega) | exact eqI (by simp; done) | exact eqI (by simp; omega) | exact eqOwn (by simp; done) | exact eqOwn (by simp; omega) | (simp_all; done)) ?_ | refine WT.ren_ (r' := _) rfl (by repeat (first | exact RenRL.nil | apply RenRL.cons | exact RenR.d _ | apply RenR.agg | apply RenR.tup | exact RenR.own _ _ _ _ rfl | exact RenR.ptr _ _ _ _ _ _ rfl | exact RenR.ref _ | apply RenR.fn | exact RenR.dead)) ?_)) (by repeat (first | exact WH.nil _ | refine WH.data_ (by first | exact rfl | (exact eqData (mapS_0 (move dx dy) xs).symm) | exact eqI (by omega) | exact eqI (by simp; done) | exact eqI (by simp; omega) | exact eqOwn (by simp; done) | exact eqOwn (by simp; omega) | (simp_all; done)) ?_ | refine WH.cons (by first | exact rfl | (exact eqData (mapS_0 (move dx dy) xs).symm) | exact eqI (by omega) | exact eqI (by simp; done) | exact eqI (by simp; omega) | exact eqOwn (by simp; done) | exact eqOwn (by simp; omega) | (simp_all; done)) (by first | exact RenS.no | exact RenS.dead | exact RenS.data _ _ _ | (apply RenS.box; repeat (first | exact RenRL.nil | apply RenRL.cons | exact RenR.d _ | apply RenR.agg | apply RenR.tup | exact RenR.own _ _ _ _ rfl | exact RenR.ptr _ _ _ _ _ _ rfl | exact RenR.ref _ | apply RenR.fn | exact RenR.dead)) | exact RenS.gen _) ?_)) rfl)
  · rintro ⟨k, hk⟩
    have hll := dr_len hd
    have hml := mapS_len (move dx dy) xs k hk
    rcases Nat.lt_or_ge k xs.length with hlt | hge
    · skip
      obtain ⟨s, hs⟩ : ∃ s, xs[k]? = some s := ⟨_, List.getElem?_eq_getElem hlt⟩
      have hsl := sh_lim (dr_get hd hs)
      refine aw_seq ?_
      refine aw_region (is := [0]) rfl ?_
      refine rt_p rfl (want_none rfl) rfl (pu_lss rfl rfl) ?_
      refine rt_nil ?_
      refine then_n ?_
      refine aw_seq ?_
      refine aw_condP _ rfl (fun hc => ?_) (fun hc => ?_)
      · skip
        refine aw_skip ?_
        refine then_n ?_
        refine aw_seq ?_
        refine aw_block ?_
        refine aw_seq ?_
        refine aw_region (is := [0, 1, 2, 3]) rfl ?_
        refine rt_p rfl (want_none rfl) rfl (pu_index_sl tok rfl rfl (by first | rfl | omega) rfl rfl rfl (by first | rfl | exact map_at (by assumption) | assumption) rfl) ?_
        refine rt_p rfl (want_none rfl) rfl (pu_load_refN tok rfl rfl rfl (by repeat (first | exact SegD.z _ | apply SegD.t))) ?_
        refine rt_s rfl (want_none rfl) rfl (st_alloc 6 (cs := [.d (.v (.int .i64 0)), .d (.v (.int .i64 0)), .d (.v (.int .i64 0)), .d (.v (.int .i64 0)), .d (.v (.int .i64 0)), .d (.v (.int .i64 0)), .d (.v (.string ⟨#[]⟩))]) tok rfl rfl rfl) ?_
        refine rt_w0 rfl (want_none rfl) (wr_store (cs := _ :: _) tok rfl rfl rfl rfl rfl rfl rfl rfl (by first | rfl | (simp [Cells.len]; done) | (simp [Cells.len]; omega)) (by first | rfl | exact data_get (map_at (by assumption)) | exact data_get (by assumption) | exact data_get (List.getElem?_set_self (by simp; omega)) | exact data_get (List.getElem?_set_self (by simpa using hlt))) (by repeat (first | exact Spl.z _ | apply Spl.t | apply Spl.d)) (by first | exact SetC.box _ _ | exact SetC.data _ _ (by repeat (first | exact AllD.nil | apply AllD.cons)) | exact SetC.av _ _ _) (by first | exact SetO.one _ _ | exact SetO.gen _ _ _)) ?_
        refine rt_nil ?_
        refine then_n ?_
        refine aw_seq ?_
        refine aw_region (is := [0, 1, 2, 3, 4, 5]) rfl ?_
        refine rt_p rfl (want_none rfl) rfl (pu_move (r := .fn _ _) rfl) ?_
        refine rt_l rfl (want_none rfl) rfl (li_fieldAddr tok rfl rfl rfl rfl rfl rfl rfl (by first | rfl | (simp [Cells.len]; done) | (simp [Cells.len]; omega)) (by first | rfl | exact data_get (map_at (by assumption)) | exact data_get (by assumption) | exact data_get (List.getElem?_set_self (by simp; omega)) | exact data_get (List.getElem?_set_self (by simpa using hlt)))) ?_
        refine rt_l rfl (want_none rfl) rfl (li_loadN tok rfl rfl rfl rfl (by first | rfl | (simp [Cells.len]; done) | (simp [Cells.len]; omega)) (by first | rfl | exact data_get (map_at (by assumption)) | exact data_get (by assumption) | exact data_get (List.getElem?_set_self (by simp; omega)) | exact data_get (List.getElem?_set_self (by simpa using hlt))) (by repeat (first | exact Seg.z _ | apply Seg.t | apply Seg.d))) ?_
        refine rt_s rfl (want_none rfl) rfl (st_call 7 rfl rfl rfl (move1_a s.AX s.AY dx dy (by omega) (by omega) (by omega) (by omega) hsp) (by repeat (first | exact abv_nil _ | exact abv_lks rfl | refine abv_upd ?_ rfl)) (by repeat (first | exact RenRL.nil | apply RenRL.cons | exact RenR.d _ | apply RenR.agg | apply RenR.tup | exact RenR.own _ _ _ _ rfl | exact RenR.ptr _ _ _ _ _ _ rfl | exact RenR.ref _ | apply RenR.fn | exact RenR.dead)) (by repeat (first | exact BirR.nil _ _ | (apply BirR.cons; (first | exact RenS.no | exact RenS.dead | exact RenS.data _ _ _ | (apply RenS.box; repeat (first | exact RenRL.nil | apply RenRL.cons | exact RenR.d _ | apply RenR.agg | apply RenR.tup | exact RenR.own _ _ _ _ rfl | exact RenR.ptr _ _ _ _ _ _ rfl | exact RenR.ref _ | apply RenR.fn | exact RenR.dead)) | exact RenS.gen _))))) ?_
        refine rt_l rfl (want_none rfl) rfl (li_fieldAddr tok rfl rfl rfl rfl rfl rfl rfl (by first | rfl | (simp [Cells.len]; done) | (simp [Cells.len]; omega)) (by first | rfl | exact data_get (map_at (by assumption)) | exact data_get (by assumption) | exact data_get (List.getElem?_set_self (by simp; omega)) | exact data_get (List.getElem?_set_self (by simpa using hlt)))) ?_
        refine rt_w0 rfl (want_none rfl) (wr_store (cs := _ :: _) tok rfl rfl rfl rfl rfl rfl rfl rfl (by first | rfl | (simp [Cells.len]; done) | (simp [Cells.len]; omega)) (by first | rfl | exact data_get (map_at (by assumption)) | exact data_get (by assumption) | exact data_get (List.getElem?_set_self (by simp; omega)) | exact data_get (List.getElem?_set_self (by simpa using hlt))) (by repeat (first | exact Spl.z _ | apply Spl.t | apply Spl.d)) (by first | exact SetC.box _ _ | exact SetC.data _ _ (by repeat (first | exact AllD.nil | apply AllD.cons)) | exact SetC.av _ _ _) (by first | exact SetO.one _ _ | exact SetO.gen _ _ _)) ?_
        refine rt_nil ?_
        refine then_n ?_
        refine aw_seq ?_
        refine aw_seq ?_
        refine aw_region (is := [0, 1, 2]) rfl ?_
        refine rt_l rfl (want_none rfl) rfl (li_fieldAddr tok rfl rfl rfl rfl rfl rfl rfl (by first | rfl | (simp [Cells.len]; done) | (simp [Cells.len]; omega)) (by first | rfl | exact data_get (map_at (by assumption)) | exact data_get (by assumption) | exact data_get (List.getElem?_set_self (by simp; omega)) | exact data_get (List.getElem?_set_self (by simpa using hlt)))) ?_
        refine rt_l rfl (want_none rfl) rfl (li_load1 tok rfl rfl rfl rfl (by first | rfl | (simp [Cells.len]; done) | (simp [Cells.len]; omega)) (by first | rfl | exact data_get (map_at (by assumption)) | exact data_get (by assumption) | exact data_get (List.getElem?_set_self (by simp; omega)) | exact data_get (List.getElem?_set_self (by simpa using hlt))) rfl) ?_
        refine rt_p rfl (want_none rfl) rfl (pu_eql rfl rfl) ?_
        refine rt_nil ?_
        refine then_n ?_
        refine aw_condP _ rfl (fun hc => ?_) (fun hc => ?_)
        · skip
          refine aw_region (is := [0, 1, 2, 3, 4, 5]) rfl ?_
          refine rt_p rfl (want_none rfl) rfl (pu_move (r := .fn _ _) rfl) ?_
          refine rt_l rfl (want_none rfl) rfl (li_fieldAddr tok rfl rfl rfl rfl rfl rfl rfl (by first | rfl | (simp [Cells.len]; done) | (simp [Cells.len]; omega)) (by first | rfl | exact data_get (map_at (by assumption)) | exact data_get (by assumption) | exact data_get (List.getElem?_set_self (by simp; omega)) | exact data_get (List.getElem?_set_self (by simpa using hlt)))) ?_
          refine rt_l rfl (want_none rfl) rfl (li_loadN tok rfl rfl rfl rfl (by first | rfl | (simp [Cells.len]; done) | (simp [Cells.len]; omega)) (by first | rfl | exact data_get (map_at (by assumption)) | exact data_get (by assumption) | exact data_get (List.getElem?_set_self (by simp; omega)) | exact data_get (List.getElem?_set_self (by simpa using hlt))) (by repeat (first | exact Seg.z _ | apply Seg.t | apply Seg.d))) ?_
          refine rt_s rfl (want_none rfl) rfl (st_call 11 rfl rfl rfl (move1_a s.BX s.BY dx dy (by omega) (by omega) (by omega) (by omega) hsp) (by repeat (first | exact abv_nil _ | exact abv_lks rfl | refine abv_upd ?_ rfl)) (by repeat (first | exact RenRL.nil | apply RenRL.cons | exact RenR.d _ | apply RenR.agg | apply RenR.tup | exact RenR.own _ _ _ _ rfl | exact RenR.ptr _ _ _ _ _ _ rfl | exact RenR.ref _ | apply RenR.fn | exact RenR.dead)) (by repeat (first | exact BirR.nil _ _ | (apply BirR.cons; (first | exact RenS.no | exact RenS.dead | exact RenS.data _ _ _ | (apply RenS.box; repeat (first | exact RenRL.nil | apply RenRL.cons | exact RenR.d _ | apply RenR.agg | apply RenR.tup | exact RenR.own _ _ _ _ rfl | exact RenR.ptr _ _ _ _ _ _ rfl | exact RenR.ref _ | apply RenR.fn | exact RenR.dead)) | exact RenS.gen _))))) ?_
          refine rt_l rfl (want_none rfl) rfl (li_fieldAddr tok rfl rfl rfl rfl rfl rfl rfl (by first | rfl | (simp [Cells.len]; done) | (simp [Cells.len]; omega)) (by first | rfl | exact data_get (map_at (by assumption)) | exact data_get (by assumption) | exact data_get (List.getElem?_set_self (by simp; omega)) | exact data_get (List.getElem?_set_self (by simpa using hlt)))) ?_
          refine rt_w0 rfl (want_none rfl) (wr_store (cs := _ :: _) tok rfl rfl rfl rfl rfl rfl rfl rfl (by first | rfl | (simp [Cells.len]; done) | (simp [Cells.len]; omega)) (by first | rfl | exact data_get (map_at (by assumption)) | exact data_get (by assumption) | exact data_get (List.getElem?_set_self (by simp; omega)) | exact data_get (List.getElem?_set_self (by simpa using hlt))) (by repeat (first | exact Spl.z _ | apply Spl.t | apply Spl.d)) (by first | exact SetC.box _ _ | exact SetC.data _ _ (by repeat (first | exact AllD.nil | apply AllD.cons)) | exact SetC.av _ _ _) (by first | exact SetO.one _ _ | exact SetO.gen _ _ _)) ?_
          refine rt_nil ?_
          refine then_n ?_
          refine aw_region (is := [0, 1, 2, 3, 4]) rfl ?_
          refine rt_p rfl (want_none rfl) rfl (pu_move (r := .own _ _ _) rfl) ?_
          refine rt_l rfl (want_none rfl) rfl (li_loadN tok rfl rfl rfl rfl (by first | rfl | (simp [Cells.len]; done) | (simp [Cells.len]; omega)) (by first | rfl | exact data_get (map_at (by assumption)) | exact data_get (by assumption) | exact data_get (List.getElem?_set_self (by simp; omega)) | exact data_get (List.getElem?_set_self (by simpa using hlt))) (by repeat (first | exact Seg.z _ | apply Seg.t | apply Seg.d))) ?_
          refine rt_s rfl (want_none rfl) rfl (st_slice_val tok rfl rfl rfl (by repeat (first | exact Els.nil _ | apply Els.cons (cs := [.d _]) rfl rfl rfl | apply Els.cons (cs := [.own _ _ _]) rfl rfl rfl | apply Els.cons (cs := [.ptr _ _ _ _ _]) rfl rfl rfl | apply Els.cons (cs := [.fn _ _]) rfl rfl rfl | apply Els.cons (cs := _ :: _) rfl rfl rfl)) rfl rfl rfl (by repeat (first | exact AllDD.nil | (apply AllDD.cons; (repeat (first | exact AllD.nil | apply AllD.cons)))))) ?_
          refine rt_w rfl (want_none rfl) rfl (wr_append tok rfl rfl rfl rfl rfl rfl rfl rfl rfl (by first | rfl | (simp [Cells.len]; done) | (simp [Cells.len]; omega)) rfl rfl (by first | (simp; done) | (intro x hx; simp at hx; subst hx; rfl)) (by first | exact App.data _ _ | exact App.av _ _ | exact App.nil _) (by first | exact SetO.one _ _ | exact SetO.gen _ _ _) (by first | omega | (simp; omega)) (by first | omega | (simp; omega))) ?_
          refine rt_p rfl (want_none rfl) rfl (pu_assign (r := .own _ _ _) rfl) ?_
          refine rt_nil ?_
          refine block_n ?_
          refine then_n ?_
          refine aw_region (is := [0, 1]) rfl ?_
          refine rt_p rfl (want_none rfl) rfl (pu_add rfl rfl (by omega) (by omega)) ?_
          refine rt_p rfl (want_none rfl) rfl (pu_move (r := .d _) rfl) ?_
          refine rt_nil ?_
          refine then_n ?_
          refine ⟨⟨k + 1, by omega⟩, (by simp; omega), ?_⟩
          (refine weak_of 200 (by repeat (first | exact abv_nil _ | exact abv_lks rfl | refine abv_upd ?_ rfl)) rfl (by repeat (first | exact WT.nil | refine WT.free_ rfl (by first | exact rfl | (exact eqData ((mapS_succ hs).symm ▸ (by rw [← move_id (dr_get hd hs)]; simp only [if_pos hc]; rfl))) | (exact eqData ((mapS_succ hs).symm ▸ (by rw [← move_id (dr_get hd hs)]; simp only [if_neg hc]; rfl))) | exact eqI (by omega) | exact eqI (by simp; done) | exact eqI (by simp; omega) | exact eqOwn (by simp; done) | exact eqOwn (by simp; omega) | (simp_all; done)) ?_ | refine WT.ren_ (r' := _) rfl (by repeat (first | exact RenRL.nil | apply RenRL.cons | exact RenR.d _ | apply RenR.agg | apply RenR.tup | exact RenR.own _ _ _ _ rfl | exact RenR.ptr _ _ _ _ _ _ rfl | exact RenR.ref _ | apply RenR.fn | exact RenR.dead)) ?_)) (by repeat (first | exact WH.nil _ | refine WH.data_ (by first | exact rfl | (exact eqData ((mapS_succ hs).symm ▸ (by rw [← move_id (dr_get hd hs)]; simp only [if_pos hc]; rfl))) | (exact eqData ((mapS_succ hs).symm ▸ (by rw [← move_id (dr_get hd hs)]; simp only [if_neg hc]; rfl))) | exact eqI (by omega) | exact eqI (by simp; done) | exact eqI (by simp; omega) | exact eqOwn (by simp; done) | exact eqOwn (by simp; omega) | (simp_all; done)) ?_ | refine WH.cons (by first | exact rfl | (exact eqData ((mapS_succ hs).symm ▸ (by rw [← move_id (dr_get hd hs)]; simp only [if_pos hc]; rfl))) | (exact eqData ((mapS_succ hs).symm ▸ (by rw [← move_id (dr_get hd hs)]; simp only [if_neg hc]; rfl))) | exact eqI (by omega) | exact eqI (by simp; done) | exact eqI (by simp; omega) | exact eqOwn (by simp; done) | exact eqOwn (by simp; omega) | (simp_all; done)) (by first | exact RenS.no | exact RenS.dead | exact RenS.data _ _ _ | (apply RenS.box; repeat (first | exact RenRL.nil | apply RenRL.cons | exact RenR.d _ | apply RenR.agg | apply RenR.tup | exact RenR.own _ _ _ _ rfl | exact RenR.ptr _ _ _ _ _ _ rfl | exact RenR.ref _ | apply RenR.fn | exact RenR.dead)) | exact RenS.gen _) ?_)) rfl)
        · skip
          refine aw_skip ?_
          refine then_n ?_
          refine aw_region (is := [0, 1, 2, 3, 4]) rfl ?_
          refine rt_p rfl (want_none rfl) rfl (pu_move (r := .own _ _ _) rfl) ?_
          refine rt_l rfl (want_none rfl) rfl (li_loadN tok rfl rfl rfl rfl (by first | rfl | (simp [Cells.len]; done) | (simp [Cells.len]; omega)) (by first | rfl | exact data_get (map_at (by assumption)) | exact data_get (by assumption) | exact data_get (List.getElem?_set_self (by simp; omega)) | exact data_get (List.getElem?_set_self (by simpa using hlt))) (by repeat (first | exact Seg.z _ | apply Seg.t | apply Seg.d))) ?_
          refine rt_s rfl (want_none rfl) rfl (st_slice_val tok rfl rfl rfl (by repeat (first | exact Els.nil _ | apply Els.cons (cs := [.d _]) rfl rfl rfl | apply Els.cons (cs := [.own _ _ _]) rfl rfl rfl | apply Els.cons (cs := [.ptr _ _ _ _ _]) rfl rfl rfl | apply Els.cons (cs := [.fn _ _]) rfl rfl rfl | apply Els.cons (cs := _ :: _) rfl rfl rfl)) rfl rfl rfl (by repeat (first | exact AllDD.nil | (apply AllDD.cons; (repeat (first | exact AllD.nil | apply AllD.cons)))))) ?_
          refine rt_w rfl (want_none rfl) rfl (wr_append tok rfl rfl rfl rfl rfl rfl rfl rfl rfl (by first | rfl | (simp [Cells.len]; done) | (simp [Cells.len]; omega)) rfl rfl (by first | (simp; done) | (intro x hx; simp at hx; subst hx; rfl)) (by first | exact App.data _ _ | exact App.av _ _ | exact App.nil _) (by first | exact SetO.one _ _ | exact SetO.gen _ _ _) (by first | omega | (simp; omega)) (by first | omega | (simp; omega))) ?_
          refine rt_p rfl (want_none rfl) rfl (pu_assign (r := .own _ _ _) rfl) ?_
          refine rt_nil ?_
          refine block_n ?_
          refine then_n ?_
          refine aw_region (is := [0, 1]) rfl ?_
          refine rt_p rfl (want_none rfl) rfl (pu_add rfl rfl (by omega) (by omega)) ?_
          refine rt_p rfl (want_none rfl) rfl (pu_move (r := .d _) rfl) ?_
          refine rt_nil ?_
          refine then_n ?_
          refine ⟨⟨k + 1, by omega⟩, (by simp; omega), ?_⟩
          (refine weak_of 200 (by repeat (first | exact abv_nil _ | exact abv_lks rfl | refine abv_upd ?_ rfl)) rfl (by repeat (first | exact WT.nil | refine WT.free_ rfl (by first | exact rfl | (exact eqData ((mapS_succ hs).symm ▸ (by rw [← move_id (dr_get hd hs)]; simp only [if_pos hc]; rfl))) | (exact eqData ((mapS_succ hs).symm ▸ (by rw [← move_id (dr_get hd hs)]; simp only [if_neg hc]; rfl))) | exact eqI (by omega) | exact eqI (by simp; done) | exact eqI (by simp; omega) | exact eqOwn (by simp; done) | exact eqOwn (by simp; omega) | (simp_all; done)) ?_ | refine WT.ren_ (r' := _) rfl (by repeat (first | exact RenRL.nil | apply RenRL.cons | exact RenR.d _ | apply RenR.agg | apply RenR.tup | exact RenR.own _ _ _ _ rfl | exact RenR.ptr _ _ _ _ _ _ rfl | exact RenR.ref _ | apply RenR.fn | exact RenR.dead)) ?_)) (by repeat (first | exact WH.nil _ | refine WH.data_ (by first | exact rfl | (exact eqData ((mapS_succ hs).symm ▸ (by rw [← move_id (dr_get hd hs)]; simp only [if_pos hc]; rfl))) | (exact eqData ((mapS_succ hs).symm ▸ (by rw [← move_id (dr_get hd hs)]; simp only [if_neg hc]; rfl))) | exact eqI (by omega) | exact eqI (by simp; done) | exact eqI (by simp; omega) | exact eqOwn (by simp; done) | exact eqOwn (by simp; omega) | (simp_all; done)) ?_ | refine WH.cons (by first | exact rfl | (exact eqData ((mapS_succ hs).symm ▸ (by rw [← move_id (dr_get hd hs)]; simp only [if_pos hc]; rfl))) | (exact eqData ((mapS_succ hs).symm ▸ (by rw [← move_id (dr_get hd hs)]; simp only [if_neg hc]; rfl))) | exact eqI (by omega) | exact eqI (by simp; done) | exact eqI (by simp; omega) | exact eqOwn (by simp; done) | exact eqOwn (by simp; omega) | (simp_all; done)) (by first | exact RenS.no | exact RenS.dead | exact RenS.data _ _ _ | (apply RenS.box; repeat (first | exact RenRL.nil | apply RenRL.cons | exact RenR.d _ | apply RenR.agg | apply RenR.tup | exact RenR.own _ _ _ _ rfl | exact RenR.ptr _ _ _ _ _ _ rfl | exact RenR.ref _ | apply RenR.fn | exact RenR.dead)) | exact RenS.gen _) ?_)) rfl)
      · exfalso; simp at hc; omega
    · skip
      obtain rfl : k = xs.length := by omega
      refine aw_seq ?_
      refine aw_region (is := [0]) rfl ?_
      refine rt_p rfl (want_none rfl) rfl (pu_lss rfl rfl) ?_
      refine rt_nil ?_
      refine then_n ?_
      refine aw_seq ?_
      refine aw_condP _ rfl (fun hc => ?_) (fun hc => ?_)
      · exfalso; simp at hc; done
      · skip
        refine aw_exit ?_
        refine then_e ?_
        refine then_e ?_
        refine block_hit ?_
        refine then_n ?_
        refine aw_seq ?_
        refine aw_region (is := [0, 1, 2]) rfl ?_
        refine rt_p rfl (want_none rfl) rfl (pu_move (r := .own _ _ _) rfl) ?_
        refine rt_p rfl (want_none rfl) rfl (pu_build (C0 := [.d (.v (.slice none 0 0))]) tok rfl rfl (by repeat (first | exact Plc.nil | apply Plc.cons rfl)) rfl (by repeat (first | exact Bld.nil _ | apply Bld.cons (cs := [.d _]) rfl rfl rfl rfl (by repeat (first | exact Spl.z _ | apply Spl.t | apply Spl.d)) | apply Bld.cons (cs := [.own _ _ _]) rfl rfl rfl rfl (by repeat (first | exact Spl.z _ | apply Spl.t | apply Spl.d)) | apply Bld.cons (cs := [.ptr _ _ _ _ _]) rfl rfl rfl rfl (by repeat (first | exact Spl.z _ | apply Spl.t | apply Spl.d)) | apply Bld.cons (cs := [.fn _ _]) rfl rfl rfl rfl (by repeat (first | exact Spl.z _ | apply Spl.t | apply Spl.d)) | apply Bld.cons (cs := _ :: _) rfl rfl rfl rfl (by repeat (first | exact Spl.z _ | apply Spl.t | apply Spl.d))))) ?_
        refine rt_w0 rfl (want_none rfl) (wr_store (cs := _ :: _) tok rfl rfl rfl rfl rfl rfl rfl rfl (by first | rfl | (simp [Cells.len]; done) | (simp [Cells.len]; omega)) (by first | rfl | exact data_get (map_at (by assumption)) | exact data_get (by assumption) | exact data_get (List.getElem?_set_self (by simp; omega)) | exact data_get (List.getElem?_set_self (by simpa using hlt))) (by repeat (first | exact Spl.z _ | apply Spl.t | apply Spl.d)) (by first | exact SetC.box _ _ | exact SetC.data _ _ (by repeat (first | exact AllD.nil | apply AllD.cons)) | exact SetC.av _ _ _) (by first | exact SetO.one _ _ | exact SetO.gen _ _ _)) ?_
        refine rt_nil ?_
        refine then_n ?_
        refine aw_ret ?_
        refine retK (rs := [.cell 4 29]) [5] 200 rfl (by repeat (first | exact ResR.nil | apply ResR.tmp (a := .d _) rfl | apply ResR.tmp (a := .ptr _ _ _ _ _) rfl | apply ResR.tmp (a := .own _ _ _) rfl | apply ResR.tmp (a := .agg _) rfl | apply ResR.tmp (a := .ref _) rfl | apply ResR.tmp (a := .tup _) rfl | apply ResR.tmp (a := .fn _ _) rfl | apply ResR.tmp (a := .dead) rfl | apply ResR.cell1 rfl rfl rfl rfl (by first | rfl | (simp [Cells.len]; done) | (simp [Cells.len]; omega)) (by first | rfl | exact data_get (map_at (by assumption)) | exact data_get (by assumption) | exact data_get (List.getElem?_set_self (by simp; omega)) | exact data_get (List.getElem?_set_self (by simpa using hlt))) rfl | apply ResR.cellN rfl rfl rfl rfl (by first | rfl | (simp [Cells.len]; done) | (simp [Cells.len]; omega)) (by first | rfl | exact data_get (map_at (by assumption)) | exact data_get (by assumption) | exact data_get (List.getElem?_set_self (by simp; omega)) | exact data_get (List.getElem?_set_self (by simpa using hlt))) (by repeat (first | exact Seg.z _ | apply Seg.t | apply Seg.d)))) (by repeat (first | exact abv_nil _ | exact abv_lks rfl | refine abv_upd ?_ rfl)) (by decide) (by decide) (by repeat (first | exact AtK.nil | refine AtK.data_ (by first | exact rfl | (exact eqData (mapS_all (move dx dy) xs))) ?_ | (apply AtK.cons rfl; (first | exact RenS.no | exact RenS.dead | exact RenS.data _ _ _ | (apply RenS.box; repeat (first | exact RenRL.nil | apply RenRL.cons | exact RenR.d _ | apply RenR.agg | apply RenR.tup | exact RenR.own _ _ _ _ rfl | exact RenR.ptr _ _ _ _ _ _ rfl | exact RenR.ref _ | apply RenR.fn | exact RenR.dead)) | exact RenS.gen _)))) ?_
        rfl
theorem Move_a (xs : List Shp) (hm : xs.length ≤ 1048576) (hn : ∀ s ∈ xs, s.N.size ≤ 9223372036854775807) (dx dy : Int) : FnC Try.prog 37 [] [.agg [.d (.sl (shpsD xs))], .agg [.d (.v (.int .i64 dx)), .d (.v (.int .i64 dy))]] [.live [⟨80, 7, .data (shpsD (moveR xs dx dy))⟩]] (.tup [.agg [.own 0 0 (moveR xs dx dy).length], .d (.v (.int .i64 (moveE xs dx dy)))]) := by
  refine fnc_intro (T := tt) (N := 23) tok Try.func37 rfl rfl (by kernel_rfl) rfl rfl ?_
  refine aw_seq ?_
  refine aw_region (is := [0, 1, 2, 3]) rfl ?_
  refine rt_s rfl (want_none rfl) rfl (st_box 3 (cs := _ :: _) rfl rfl rfl) ?_
  refine rt_s rfl (want_none rfl) rfl (st_box 4 (cs := _ :: _) rfl rfl rfl) ?_
  refine rt_s rfl (want_none rfl) rfl (st_alloc 5 (cs := [.d (.v (.slice none 0 0))]) tok rfl rfl rfl) ?_
  refine rt_p rfl (want_none rfl) rfl (pu_assign (r := .d _) rfl) ?_
  refine rt_nil ?_
  refine then_n ?_
  refine aw_seq ?_
  refine aw_seq ?_
  refine aw_region (is := [0, 1, 2]) rfl ?_
  refine rt_l rfl (want_none rfl) rfl (li_loadN tok rfl rfl rfl rfl (by first | rfl | (simp [Cells.len]; done) | (simp [Cells.len]; omega)) (by first | rfl | exact data_get (map_at (by assumption)) | exact data_get (by assumption) | exact data_get (List.getElem?_set_self (by simp; omega)) | exact data_get (List.getElem?_set_self (by simpa using hlt))) (by repeat (first | exact Seg.z _ | apply Seg.t | apply Seg.d))) ?_
  refine rt_s rfl (want_none rfl) rfl (st_call 6 rfl rfl rfl (ValidDrawing_a xs hm hn) (by repeat (first | exact abv_nil _ | exact abv_lks rfl | refine abv_upd ?_ rfl)) (by repeat (first | exact RenRL.nil | apply RenRL.cons | exact RenR.d _ | apply RenR.agg | apply RenR.tup | exact RenR.own _ _ _ _ rfl | exact RenR.ptr _ _ _ _ _ _ rfl | exact RenR.ref _ | apply RenR.fn | exact RenR.dead)) (by repeat (first | exact BirR.nil _ _ | (apply BirR.cons; (first | exact RenS.no | exact RenS.dead | exact RenS.data _ _ _ | (apply RenS.box; repeat (first | exact RenRL.nil | apply RenRL.cons | exact RenR.d _ | apply RenR.agg | apply RenR.tup | exact RenR.own _ _ _ _ rfl | exact RenR.ptr _ _ _ _ _ _ rfl | exact RenR.ref _ | apply RenR.fn | exact RenR.dead)) | exact RenS.gen _))))) ?_
  refine rt_p rfl (want_none rfl) rfl (pu_not rfl) ?_
  refine rt_nil ?_
  refine then_n ?_
  refine aw_cond _ rfl (fun hc => ?_) (fun hc => ?_)
  · skip
    try (have hd : drOk xs = true := by simpa using hc)
    try (have hq : spB dx dy = true := by simpa using hc)
    try (have hsp := sp_lim hq)
    try (have hr : drOk (xs.map (move dx dy)) = true := by simpa using hc)
    refine aw_seq ?_
    refine aw_region (is := [0, 1, 2]) rfl ?_
    refine rt_p rfl (want_none rfl) rfl (pu_build (C0 := [.d (.v (.slice none 0 0))]) tok rfl rfl (by repeat (first | exact Plc.nil | apply Plc.cons rfl)) rfl (by repeat (first | exact Bld.nil _ | apply Bld.cons (cs := [.d _]) rfl rfl rfl rfl (by repeat (first | exact Spl.z _ | apply Spl.t | apply Spl.d)) | apply Bld.cons (cs := [.own _ _ _]) rfl rfl rfl rfl (by repeat (first | exact Spl.z _ | apply Spl.t | apply Spl.d)) | apply Bld.cons (cs := [.ptr _ _ _ _ _]) rfl rfl rfl rfl (by repeat (first | exact Spl.z _ | apply Spl.t | apply Spl.d)) | apply Bld.cons (cs := [.fn _ _]) rfl rfl rfl rfl (by repeat (first | exact Spl.z _ | apply Spl.t | apply Spl.d)) | apply Bld.cons (cs := _ :: _) rfl rfl rfl rfl (by repeat (first | exact Spl.z _ | apply Spl.t | apply Spl.d))))) ?_
    refine rt_w0 rfl (want_none rfl) (wr_store (cs := _ :: _) tok rfl rfl rfl rfl rfl rfl rfl rfl (by first | rfl | (simp [Cells.len]; done) | (simp [Cells.len]; omega)) (by first | rfl | exact data_get (map_at (by assumption)) | exact data_get (by assumption) | exact data_get (List.getElem?_set_self (by simp; omega)) | exact data_get (List.getElem?_set_self (by simpa using hlt))) (by repeat (first | exact Spl.z _ | apply Spl.t | apply Spl.d)) (by first | exact SetC.box _ _ | exact SetC.data _ _ (by repeat (first | exact AllD.nil | apply AllD.cons)) | exact SetC.av _ _ _) (by first | exact SetO.one _ _ | exact SetO.gen _ _ _)) ?_
    refine rt_p rfl (want_none rfl) rfl (pu_assign (r := .d _) rfl) ?_
    refine rt_nil ?_
    refine then_n ?_
    have hd : drOk xs = false := by simpa using hc
    refine aw_weak (weak_adopt 10 rfl 80 7 (kb := 5) (j := 0) rfl rfl (by repeat (first | exact Spl.z _ | apply Spl.t | apply Spl.d))) ?_
    refine aw_ret ?_
    refine then_r ?_
    refine retK (rs := [.cell 4 29, .tmp 5]) [10] 200 rfl (by repeat (first | exact ResR.nil | apply ResR.tmp (a := .d _) rfl | apply ResR.tmp (a := .ptr _ _ _ _ _) rfl | apply ResR.tmp (a := .own _ _ _) rfl | apply ResR.tmp (a := .agg _) rfl | apply ResR.tmp (a := .ref _) rfl | apply ResR.tmp (a := .tup _) rfl | apply ResR.tmp (a := .fn _ _) rfl | apply ResR.tmp (a := .dead) rfl | apply ResR.cell1 rfl rfl rfl rfl (by first | rfl | (simp [Cells.len]; done) | (simp [Cells.len]; omega)) (by first | rfl | exact data_get (map_at (by assumption)) | exact data_get (by assumption) | exact data_get (List.getElem?_set_self (by simp; omega)) | exact data_get (List.getElem?_set_self (by simpa using hlt))) rfl | apply ResR.cellN rfl rfl rfl rfl (by first | rfl | (simp [Cells.len]; done) | (simp [Cells.len]; omega)) (by first | rfl | exact data_get (map_at (by assumption)) | exact data_get (by assumption) | exact data_get (List.getElem?_set_self (by simp; omega)) | exact data_get (List.getElem?_set_self (by simpa using hlt))) (by repeat (first | exact Seg.z _ | apply Seg.t | apply Seg.d)))) (by repeat (first | exact abv_nil _ | exact abv_lks rfl | refine abv_upd ?_ rfl)) (by decide) (by decide) (by repeat (first | exact AtK.nil | refine AtK.data_ (by first | exact rfl | (exact eqData (by rw [(move_1 hd).1]; try (first | rfl)))) ?_ | (apply AtK.cons rfl; (first | exact RenS.no | exact RenS.dead | exact RenS.data _ _ _ | (apply RenS.box; repeat (first | exact RenRL.nil | apply RenRL.cons | exact RenR.d _ | apply RenR.agg | apply RenR.tup | exact RenR.own _ _ _ _ rfl | exact RenR.ptr _ _ _ _ _ _ rfl | exact RenR.ref _ | apply RenR.fn | exact RenR.dead)) | exact RenS.gen _)))) ?_
    rw [(move_1 hd).1, (move_1 hd).2]
    first | rfl | (simp only [List.length_map]; rfl)
  · skip
    try (have hd : drOk xs = true := by simpa using hc)
    try (have hq : spB dx dy = true := by simpa using hc)
    try (have hsp := sp_lim hq)
    try (have hr : drOk (xs.map (move dx dy)) = true := by simpa using hc)
    refine aw_skip ?_
    refine then_n ?_
    refine aw_seq ?_
    refine aw_seq ?_
    refine aw_region (is := [0, 1, 2]) rfl ?_
    refine rt_l rfl (want_none rfl) rfl (li_loadN tok rfl rfl rfl rfl (by first | rfl | (simp [Cells.len]; done) | (simp [Cells.len]; omega)) (by first | rfl | exact data_get (map_at (by assumption)) | exact data_get (by assumption) | exact data_get (List.getElem?_set_self (by simp; omega)) | exact data_get (List.getElem?_set_self (by simpa using hlt))) (by repeat (first | exact Seg.z _ | apply Seg.t | apply Seg.d))) ?_
    refine rt_s rfl (want_none rfl) rfl (st_call 11 rfl rfl rfl (validSpot_c dx dy) (by repeat (first | exact abv_nil _ | exact abv_lks rfl | refine abv_upd ?_ rfl)) (by repeat (first | exact RenRL.nil | apply RenRL.cons | exact RenR.d _ | apply RenR.agg | apply RenR.tup | exact RenR.own _ _ _ _ rfl | exact RenR.ptr _ _ _ _ _ _ rfl | exact RenR.ref _ | apply RenR.fn | exact RenR.dead)) (by repeat (first | exact BirR.nil _ _ | (apply BirR.cons; (first | exact RenS.no | exact RenS.dead | exact RenS.data _ _ _ | (apply RenS.box; repeat (first | exact RenRL.nil | apply RenRL.cons | exact RenR.d _ | apply RenR.agg | apply RenR.tup | exact RenR.own _ _ _ _ rfl | exact RenR.ptr _ _ _ _ _ _ rfl | exact RenR.ref _ | apply RenR.fn | exact RenR.dead)) | exact RenS.gen _))))) ?_
    refine rt_p rfl (want_none rfl) rfl (pu_not rfl) ?_
    refine rt_nil ?_
    refine then_n ?_
    refine aw_cond _ rfl (fun hc => ?_) (fun hc => ?_)
    · skip
      try (have hd : drOk xs = true := by simpa using hc)
      try (have hq : spB dx dy = true := by simpa using hc)
      try (have hsp := sp_lim hq)
      try (have hr : drOk (xs.map (move dx dy)) = true := by simpa using hc)
      refine aw_seq ?_
      refine aw_region (is := [0, 1, 2]) rfl ?_
      refine rt_p rfl (want_none rfl) rfl (pu_build (C0 := [.d (.v (.slice none 0 0))]) tok rfl rfl (by repeat (first | exact Plc.nil | apply Plc.cons rfl)) rfl (by repeat (first | exact Bld.nil _ | apply Bld.cons (cs := [.d _]) rfl rfl rfl rfl (by repeat (first | exact Spl.z _ | apply Spl.t | apply Spl.d)) | apply Bld.cons (cs := [.own _ _ _]) rfl rfl rfl rfl (by repeat (first | exact Spl.z _ | apply Spl.t | apply Spl.d)) | apply Bld.cons (cs := [.ptr _ _ _ _ _]) rfl rfl rfl rfl (by repeat (first | exact Spl.z _ | apply Spl.t | apply Spl.d)) | apply Bld.cons (cs := [.fn _ _]) rfl rfl rfl rfl (by repeat (first | exact Spl.z _ | apply Spl.t | apply Spl.d)) | apply Bld.cons (cs := _ :: _) rfl rfl rfl rfl (by repeat (first | exact Spl.z _ | apply Spl.t | apply Spl.d))))) ?_
      refine rt_w0 rfl (want_none rfl) (wr_store (cs := _ :: _) tok rfl rfl rfl rfl rfl rfl rfl rfl (by first | rfl | (simp [Cells.len]; done) | (simp [Cells.len]; omega)) (by first | rfl | exact data_get (map_at (by assumption)) | exact data_get (by assumption) | exact data_get (List.getElem?_set_self (by simp; omega)) | exact data_get (List.getElem?_set_self (by simpa using hlt))) (by repeat (first | exact Spl.z _ | apply Spl.t | apply Spl.d)) (by first | exact SetC.box _ _ | exact SetC.data _ _ (by repeat (first | exact AllD.nil | apply AllD.cons)) | exact SetC.av _ _ _) (by first | exact SetO.one _ _ | exact SetO.gen _ _ _)) ?_
      refine rt_p rfl (want_none rfl) rfl (pu_assign (r := .d _) rfl) ?_
      refine rt_nil ?_
      refine then_n ?_
      have hq : spB dx dy = false := by simpa using hc
      refine aw_weak (weak_adopt 15 rfl 80 7 (kb := 5) (j := 0) rfl rfl (by repeat (first | exact Spl.z _ | apply Spl.t | apply Spl.d))) ?_
      refine aw_ret ?_
      refine then_r ?_
      refine retK (rs := [.cell 4 29, .tmp 5]) [15] 200 rfl (by repeat (first | exact ResR.nil | apply ResR.tmp (a := .d _) rfl | apply ResR.tmp (a := .ptr _ _ _ _ _) rfl | apply ResR.tmp (a := .own _ _ _) rfl | apply ResR.tmp (a := .agg _) rfl | apply ResR.tmp (a := .ref _) rfl | apply ResR.tmp (a := .tup _) rfl | apply ResR.tmp (a := .fn _ _) rfl | apply ResR.tmp (a := .dead) rfl | apply ResR.cell1 rfl rfl rfl rfl (by first | rfl | (simp [Cells.len]; done) | (simp [Cells.len]; omega)) (by first | rfl | exact data_get (map_at (by assumption)) | exact data_get (by assumption) | exact data_get (List.getElem?_set_self (by simp; omega)) | exact data_get (List.getElem?_set_self (by simpa using hlt))) rfl | apply ResR.cellN rfl rfl rfl rfl (by first | rfl | (simp [Cells.len]; done) | (simp [Cells.len]; omega)) (by first | rfl | exact data_get (map_at (by assumption)) | exact data_get (by assumption) | exact data_get (List.getElem?_set_self (by simp; omega)) | exact data_get (List.getElem?_set_self (by simpa using hlt))) (by repeat (first | exact Seg.z _ | apply Seg.t | apply Seg.d)))) (by repeat (first | exact abv_nil _ | exact abv_lks rfl | refine abv_upd ?_ rfl)) (by decide) (by decide) (by repeat (first | exact AtK.nil | refine AtK.data_ (by first | exact rfl | (exact eqData (by rw [(move_2 hd hq).1]; try (first | rfl)))) ?_ | (apply AtK.cons rfl; (first | exact RenS.no | exact RenS.dead | exact RenS.data _ _ _ | (apply RenS.box; repeat (first | exact RenRL.nil | apply RenRL.cons | exact RenR.d _ | apply RenR.agg | apply RenR.tup | exact RenR.own _ _ _ _ rfl | exact RenR.ptr _ _ _ _ _ _ rfl | exact RenR.ref _ | apply RenR.fn | exact RenR.dead)) | exact RenS.gen _)))) ?_
      rw [(move_2 hd hq).1, (move_2 hd hq).2]
      first | rfl | (simp only [List.length_map]; rfl)
    · skip
      try (have hd : drOk xs = true := by simpa using hc)
      try (have hq : spB dx dy = true := by simpa using hc)
      try (have hsp := sp_lim hq)
      try (have hr : drOk (xs.map (move dx dy)) = true := by simpa using hc)
      refine aw_skip ?_
      refine then_n ?_
      refine aw_seq ?_
      refine aw_region (is := [0, 1, 2, 3, 4]) rfl ?_
      refine rt_l rfl (want_none rfl) rfl (li_loadN tok rfl rfl rfl rfl (by first | rfl | (simp [Cells.len]; done) | (simp [Cells.len]; omega)) (by first | rfl | exact data_get (map_at (by assumption)) | exact data_get (by assumption) | exact data_get (List.getElem?_set_self (by simp; omega)) | exact data_get (List.getElem?_set_self (by simpa using hlt))) (by repeat (first | exact Seg.z _ | apply Seg.t | apply Seg.d))) ?_
      refine rt_p rfl (want_none rfl) rfl (pu_func rfl) ?_
      refine rt_s rfl (want_none rfl) rfl (st_callV 16 rfl (by repeat (first | exact Vs.nil | apply Vs.cons | exact View.d _ | exact View.data rfl rfl rfl | exact (View.data rfl rfl (by simp)) | exact view_box rfl (by repeat (first | exact AllD.nil | apply AllD.cons)) | apply View.agg_ | apply View.fn_ | exact View.ref _)) (mappedM_a xs hm hn dx dy hd hsp) rfl (by first | (intro s hs; simp only [List.mem_singleton] at hs; subst hs; exact sf_shps _ _ _) | (intro s hs; simp at hs; try (subst hs; intro o ho; simp at ho; subst ho; simp [Cells.flat, DV.flat, AV.flat, AV.flatL]))) (by repeat (first | exact abv_nil _ | exact abv_lks rfl | refine abv_upd ?_ rfl)) (by repeat (first | exact RenRL.nil | apply RenRL.cons | exact RenR.d _ | apply RenR.agg | apply RenR.tup | exact RenR.own _ _ _ _ rfl | exact RenR.ptr _ _ _ _ _ _ rfl | exact RenR.ref _ | apply RenR.fn | exact RenR.dead)) (by repeat (first | exact BirR.nil _ _ | (apply BirR.cons; (first | exact RenS.no | exact RenS.dead | exact RenS.data _ _ _ | (apply RenS.box; repeat (first | exact RenRL.nil | apply RenRL.cons | exact RenR.d _ | apply RenR.agg | apply RenR.tup | exact RenR.own _ _ _ _ rfl | exact RenR.ptr _ _ _ _ _ _ rfl | exact RenR.ref _ | apply RenR.fn | exact RenR.dead)) | exact RenS.gen _))))) ?_
      refine rt_s rfl (want_none rfl) rfl (st_alloc 20 (cs := [.d (.v (.slice none 0 0))]) tok rfl rfl rfl) ?_
      refine rt_w0 rfl (want_none rfl) (wr_store (cs := _ :: _) tok rfl rfl rfl rfl rfl rfl rfl rfl (by first | rfl | (simp [Cells.len]; done) | (simp [Cells.len]; omega)) (by first | rfl | exact data_get (map_at (by assumption)) | exact data_get (by assumption) | exact data_get (List.getElem?_set_self (by simp; omega)) | exact data_get (List.getElem?_set_self (by simpa using hlt))) (by repeat (first | exact Spl.z _ | apply Spl.t | apply Spl.d)) (by first | exact SetC.box _ _ | exact SetC.data _ _ (by repeat (first | exact AllD.nil | apply AllD.cons)) | exact SetC.av _ _ _) (by first | exact SetO.one _ _ | exact SetO.gen _ _ _)) ?_
      refine rt_nil ?_
      refine then_n ?_
      refine aw_seq ?_
      refine aw_seq ?_
      refine aw_region (is := [0, 1, 2]) rfl ?_
      refine rt_l rfl (want_none rfl) rfl (li_loadN tok rfl rfl rfl rfl (by first | rfl | (simp [Cells.len]; done) | (simp [Cells.len]; omega)) (by first | rfl | exact data_get (map_at (by assumption)) | exact data_get (by assumption) | exact data_get (List.getElem?_set_self (by simp; omega)) | exact data_get (List.getElem?_set_self (by simpa using hlt))) (by repeat (first | exact Seg.z _ | apply Seg.t | apply Seg.d))) ?_
      refine rt_s rfl (want_none rfl) rfl (st_callV 21 rfl (by repeat (first | exact Vs.nil | apply Vs.cons | exact View.d _ | exact View.data rfl rfl rfl | exact (View.data rfl rfl (by simp)) | exact view_box rfl (by repeat (first | exact AllD.nil | apply AllD.cons)) | apply View.agg_ | apply View.fn_ | exact View.ref _)) (ValidDrawing_a (xs.map (move dx dy)) (by simpa using hm) (moveN hn)) rfl (by first | (intro s hs; simp only [List.mem_singleton] at hs; subst hs; exact sf_shps _ _ _) | (intro s hs; simp at hs; try (subst hs; intro o ho; simp at ho; subst ho; simp [Cells.flat, DV.flat, AV.flat, AV.flatL]))) (by repeat (first | exact abv_nil _ | exact abv_lks rfl | refine abv_upd ?_ rfl)) (by repeat (first | exact RenRL.nil | apply RenRL.cons | exact RenR.d _ | apply RenR.agg | apply RenR.tup | exact RenR.own _ _ _ _ rfl | exact RenR.ptr _ _ _ _ _ _ rfl | exact RenR.ref _ | apply RenR.fn | exact RenR.dead)) (by repeat (first | exact BirR.nil _ _ | (apply BirR.cons; (first | exact RenS.no | exact RenS.dead | exact RenS.data _ _ _ | (apply RenS.box; repeat (first | exact RenRL.nil | apply RenRL.cons | exact RenR.d _ | apply RenR.agg | apply RenR.tup | exact RenR.own _ _ _ _ rfl | exact RenR.ptr _ _ _ _ _ _ rfl | exact RenR.ref _ | apply RenR.fn | exact RenR.dead)) | exact RenS.gen _))))) ?_
      refine rt_p rfl (want_none rfl) rfl (pu_not rfl) ?_
      refine rt_nil ?_
      refine then_n ?_
      refine aw_cond _ rfl (fun hc => ?_) (fun hc => ?_)
      · skip
        try (have hd : drOk xs = true := by simpa using hc)
        try (have hq : spB dx dy = true := by simpa using hc)
        try (have hsp := sp_lim hq)
        try (have hr : drOk (xs.map (move dx dy)) = true := by simpa using hc)
        refine aw_seq ?_
        refine aw_region (is := [0, 1, 2]) rfl ?_
        refine rt_p rfl (want_none rfl) rfl (pu_build (C0 := [.d (.v (.slice none 0 0))]) tok rfl rfl (by repeat (first | exact Plc.nil | apply Plc.cons rfl)) rfl (by repeat (first | exact Bld.nil _ | apply Bld.cons (cs := [.d _]) rfl rfl rfl rfl (by repeat (first | exact Spl.z _ | apply Spl.t | apply Spl.d)) | apply Bld.cons (cs := [.own _ _ _]) rfl rfl rfl rfl (by repeat (first | exact Spl.z _ | apply Spl.t | apply Spl.d)) | apply Bld.cons (cs := [.ptr _ _ _ _ _]) rfl rfl rfl rfl (by repeat (first | exact Spl.z _ | apply Spl.t | apply Spl.d)) | apply Bld.cons (cs := [.fn _ _]) rfl rfl rfl rfl (by repeat (first | exact Spl.z _ | apply Spl.t | apply Spl.d)) | apply Bld.cons (cs := _ :: _) rfl rfl rfl rfl (by repeat (first | exact Spl.z _ | apply Spl.t | apply Spl.d))))) ?_
        refine rt_w0 rfl (want_none rfl) (wr_store (cs := _ :: _) tok rfl rfl rfl rfl rfl rfl rfl rfl (by first | rfl | (simp [Cells.len]; done) | (simp [Cells.len]; omega)) (by first | rfl | exact data_get (map_at (by assumption)) | exact data_get (by assumption) | exact data_get (List.getElem?_set_self (by simp; omega)) | exact data_get (List.getElem?_set_self (by simpa using hlt))) (by repeat (first | exact Spl.z _ | apply Spl.t | apply Spl.d)) (by first | exact SetC.box _ _ | exact SetC.data _ _ (by repeat (first | exact AllD.nil | apply AllD.cons)) | exact SetC.av _ _ _) (by first | exact SetO.one _ _ | exact SetO.gen _ _ _)) ?_
        refine rt_p rfl (want_none rfl) rfl (pu_assign (r := .d _) rfl) ?_
        refine rt_nil ?_
        refine then_n ?_
        have hr : drOk (xs.map (move dx dy)) = false := by simpa using hc
        refine aw_weak (weak_adopt 25 rfl 80 7 (kb := 5) (j := 0) rfl rfl (by repeat (first | exact Spl.z _ | apply Spl.t | apply Spl.d))) ?_
        refine aw_ret ?_
        refine then_r ?_
        refine retK (rs := [.cell 4 29, .tmp 5]) [25] 200 rfl (by repeat (first | exact ResR.nil | apply ResR.tmp (a := .d _) rfl | apply ResR.tmp (a := .ptr _ _ _ _ _) rfl | apply ResR.tmp (a := .own _ _ _) rfl | apply ResR.tmp (a := .agg _) rfl | apply ResR.tmp (a := .ref _) rfl | apply ResR.tmp (a := .tup _) rfl | apply ResR.tmp (a := .fn _ _) rfl | apply ResR.tmp (a := .dead) rfl | apply ResR.cell1 rfl rfl rfl rfl (by first | rfl | (simp [Cells.len]; done) | (simp [Cells.len]; omega)) (by first | rfl | exact data_get (map_at (by assumption)) | exact data_get (by assumption) | exact data_get (List.getElem?_set_self (by simp; omega)) | exact data_get (List.getElem?_set_self (by simpa using hlt))) rfl | apply ResR.cellN rfl rfl rfl rfl (by first | rfl | (simp [Cells.len]; done) | (simp [Cells.len]; omega)) (by first | rfl | exact data_get (map_at (by assumption)) | exact data_get (by assumption) | exact data_get (List.getElem?_set_self (by simp; omega)) | exact data_get (List.getElem?_set_self (by simpa using hlt))) (by repeat (first | exact Seg.z _ | apply Seg.t | apply Seg.d)))) (by repeat (first | exact abv_nil _ | exact abv_lks rfl | refine abv_upd ?_ rfl)) (by decide) (by decide) (by repeat (first | exact AtK.nil | refine AtK.data_ (by first | exact rfl | (exact eqData (by rw [(move_3 hd hq hr).1]; try (first | rfl)))) ?_ | (apply AtK.cons rfl; (first | exact RenS.no | exact RenS.dead | exact RenS.data _ _ _ | (apply RenS.box; repeat (first | exact RenRL.nil | apply RenRL.cons | exact RenR.d _ | apply RenR.agg | apply RenR.tup | exact RenR.own _ _ _ _ rfl | exact RenR.ptr _ _ _ _ _ _ rfl | exact RenR.ref _ | apply RenR.fn | exact RenR.dead)) | exact RenS.gen _)))) ?_
        rw [(move_3 hd hq hr).1, (move_3 hd hq hr).2]
        first | rfl | (simp only [List.length_map]; rfl)
      · skip
        try (have hd : drOk xs = true := by simpa using hc)
        try (have hq : spB dx dy = true := by simpa using hc)
        try (have hsp := sp_lim hq)
        try (have hr : drOk (xs.map (move dx dy)) = true := by simpa using hc)
        refine aw_skip ?_
        refine then_n ?_
        refine aw_seq ?_
        refine aw_region (is := [0, 1, 2]) rfl ?_
        refine rt_l rfl (want_none rfl) rfl (li_loadN tok rfl rfl rfl rfl (by first | rfl | (simp [Cells.len]; done) | (simp [Cells.len]; omega)) (by first | rfl | exact data_get (map_at (by assumption)) | exact data_get (by assumption) | exact data_get (List.getElem?_set_self (by simp; omega)) | exact data_get (List.getElem?_set_self (by simpa using hlt))) (by repeat (first | exact Seg.z _ | apply Seg.t | apply Seg.d))) ?_
        refine rt_w0 rfl (want_none rfl) (wr_store (cs := _ :: _) tok rfl rfl rfl rfl rfl rfl rfl rfl (by first | rfl | (simp [Cells.len]; done) | (simp [Cells.len]; omega)) (by first | rfl | exact data_get (map_at (by assumption)) | exact data_get (by assumption) | exact data_get (List.getElem?_set_self (by simp; omega)) | exact data_get (List.getElem?_set_self (by simpa using hlt))) (by repeat (first | exact Spl.z _ | apply Spl.t | apply Spl.d)) (by first | exact SetC.box _ _ | exact SetC.data _ _ (by repeat (first | exact AllD.nil | apply AllD.cons)) | exact SetC.av _ _ _) (by first | exact SetO.one _ _ | exact SetO.gen _ _ _)) ?_
        refine rt_p rfl (want_none rfl) rfl (pu_assign (r := .d _) rfl) ?_
        refine rt_nil ?_
        refine then_n ?_
        refine aw_ret ?_
        refine retK (rs := [.cell 4 29, .tmp 5]) [16] 200 rfl (by repeat (first | exact ResR.nil | apply ResR.tmp (a := .d _) rfl | apply ResR.tmp (a := .ptr _ _ _ _ _) rfl | apply ResR.tmp (a := .own _ _ _) rfl | apply ResR.tmp (a := .agg _) rfl | apply ResR.tmp (a := .ref _) rfl | apply ResR.tmp (a := .tup _) rfl | apply ResR.tmp (a := .fn _ _) rfl | apply ResR.tmp (a := .dead) rfl | apply ResR.cell1 rfl rfl rfl rfl (by first | rfl | (simp [Cells.len]; done) | (simp [Cells.len]; omega)) (by first | rfl | exact data_get (map_at (by assumption)) | exact data_get (by assumption) | exact data_get (List.getElem?_set_self (by simp; omega)) | exact data_get (List.getElem?_set_self (by simpa using hlt))) rfl | apply ResR.cellN rfl rfl rfl rfl (by first | rfl | (simp [Cells.len]; done) | (simp [Cells.len]; omega)) (by first | rfl | exact data_get (map_at (by assumption)) | exact data_get (by assumption) | exact data_get (List.getElem?_set_self (by simp; omega)) | exact data_get (List.getElem?_set_self (by simpa using hlt))) (by repeat (first | exact Seg.z _ | apply Seg.t | apply Seg.d)))) (by repeat (first | exact abv_nil _ | exact abv_lks rfl | refine abv_upd ?_ rfl)) (by decide) (by decide) (by repeat (first | exact AtK.nil | refine AtK.data_ (by first | exact rfl | (exact eqData (by rw [(move_0 hd hq hr).1]; try (first | rfl)))) ?_ | (apply AtK.cons rfl; (first | exact RenS.no | exact RenS.dead | exact RenS.data _ _ _ | (apply RenS.box; repeat (first | exact RenRL.nil | apply RenRL.cons | exact RenR.d _ | apply RenR.agg | apply RenR.tup | exact RenR.own _ _ _ _ rfl | exact RenR.ptr _ _ _ _ _ _ rfl | exact RenR.ref _ | apply RenR.fn | exact RenR.dead)) | exact RenS.gen _)))) ?_
        rw [(move_0 hd hq hr).1, (move_0 hd hq hr).2]
        first | rfl | (simp only [List.length_map]; rfl)
end Go.Proofs.Ytplnohfjeilodaa
