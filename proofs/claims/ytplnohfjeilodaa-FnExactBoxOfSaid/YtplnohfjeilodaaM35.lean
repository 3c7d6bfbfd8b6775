/- boxes of drawings, the specification -/
import Derived.Test.YtplnohfjeilodaaTab
import Derived.Test.YtplnohfjeilodaaM34
import Derived.Test.YtplnohfjeilodaaProg
namespace Go.Proofs.Ytplnohfjeilodaa
open Go.RowKit
set_option linter.unusedVariables false
set_option maxRecDepth 100000
set_option maxHeartbeats 1000000 in
theorem sBox_a (xs : List Shp) (hm : xs.length ≤ 1048576) (hn : ∀ s ∈ xs, s.N.size ≤ 9223372036854775807) : FnC Try.prog 25 [] [.agg [.d (.sl (shpsD xs))]] [] (.tup [.agg [.d (.v (.int .i64 ((boxS xs).lx))), .d (.v (.int .i64 ((boxS xs).ly)))], .agg [.d (.v (.int .i64 ((boxS xs).hx))), .d (.v (.int .i64 ((boxS xs).hy)))], .d (.v (.int .i64 (boxE xs)))]) := by
  refine fnc_intro (T := tt) (N := 125) tok Try.func25 rfl rfl (by kernel_rfl) rfl rfl ?_
  refine aw_seq ?_
  refine aw_region (is := [0, 1, 2, 3]) rfl ?_
  refine rt_s rfl (want_none rfl) rfl (st_box 3 (cs := _ :: _) rfl rfl rfl) ?_
  refine rt_s rfl (want_none rfl) rfl (st_alloc 4 (cs := [.d (.v (.int .i64 0)), .d (.v (.int .i64 0))]) tok rfl rfl rfl) ?_
  refine rt_s rfl (want_none rfl) rfl (st_alloc 5 (cs := [.d (.v (.int .i64 0)), .d (.v (.int .i64 0))]) tok rfl rfl rfl) ?_
  refine rt_p rfl (want_none rfl) rfl (pu_assign (r := .d _) rfl) ?_
  refine rt_nil ?_
  refine then_n ?_
  refine aw_seq ?_
  refine aw_seq ?_
  refine aw_region (is := [0, 1, 2]) rfl ?_
  refine rt_l rfl (want_none rfl) rfl (li_loadN tok rfl rfl rfl rfl (by first | rfl | (simp [Cells.len] <;> omega)) (by first | rfl | exact data_get (map_at (by assumption)) | exact data_get (by assumption) | exact data_get (List.getElem?_set_self (by simp; omega)) | exact data_get (List.getElem?_set_self (by simpa using hlt))) (by repeat (first | exact Seg.z _ | apply Seg.t | apply Seg.d))) ?_
  refine rt_s rfl (want_none rfl) rfl (st_call 6 rfl rfl rfl (l25Ok_a xs hm hn) (by repeat (first | exact abv_nil _ | exact abv_lks rfl | refine abv_upd ?_ rfl)) (by repeat (first | exact RenRL.nil | apply RenRL.cons | exact RenR.d _ | apply RenR.agg | apply RenR.tup | exact RenR.own _ _ _ _ rfl | exact RenR.ptr _ _ _ _ _ _ rfl | exact RenR.ref _ | apply RenR.fn | exact RenR.dead)) (by repeat (first | exact BirR.nil _ _ | (apply BirR.cons; (first | exact RenS.no | exact RenS.dead | exact RenS.data _ _ _ | (apply RenS.box; repeat (first | exact RenRL.nil | apply RenRL.cons | exact RenR.d _ | apply RenR.agg | apply RenR.tup | exact RenR.own _ _ _ _ rfl | exact RenR.ptr _ _ _ _ _ _ rfl | exact RenR.ref _ | apply RenR.fn | exact RenR.dead)) | exact RenS.gen _))))) ?_
  refine rt_p rfl (want_none rfl) rfl (pu_not rfl) ?_
  refine rt_nil ?_
  refine then_n ?_
  refine aw_cond _ rfl (fun hc => ?_) (fun hc => ?_)
  · skip
    try (have hd : drOk xs = true := by simpa using hc)
    try (have hl0 : xs.length ≠ 0 := by omega)
    first | (have hh0 := hs0; clear hh0) | (have hs00 := get0 hl0; obtain ⟨s0, hs0⟩ := hs00) | skip
    try (have hsr := sh_r (dr_get hd hs) hc)
    try (have hpe := sp1 hc)
    try (have hpe := sp2 hc)
    try (have hpe := sp3 ‹¬ s.K = 1› hc)
    refine aw_seq ?_
    refine aw_region (is := [0, 1, 2, 3, 4]) rfl ?_
    refine rt_p rfl (want_none rfl) rfl (pu_build (C0 := [.d (.v (.int .i64 0)), .d (.v (.int .i64 0))]) tok rfl rfl (by repeat (first | exact Plc.nil | apply Plc.cons rfl)) rfl (by repeat (first | exact Bld.nil _ | apply Bld.cons (cs := [.d _]) rfl rfl rfl rfl (by repeat (first | exact Spl.z _ | apply Spl.t | apply Spl.d)) | apply Bld.cons (cs := [.own _ _ _]) rfl rfl rfl rfl (by repeat (first | exact Spl.z _ | apply Spl.t | apply Spl.d)) | apply Bld.cons (cs := [.ptr _ _ _ _ _]) rfl rfl rfl rfl (by repeat (first | exact Spl.z _ | apply Spl.t | apply Spl.d)) | apply Bld.cons (cs := [.fn _ _]) rfl rfl rfl rfl (by repeat (first | exact Spl.z _ | apply Spl.t | apply Spl.d)) | apply Bld.cons (cs := _ :: _) rfl rfl rfl rfl (by repeat (first | exact Spl.z _ | apply Spl.t | apply Spl.d))))) ?_
    refine rt_p rfl (want_none rfl) rfl (pu_build (C0 := [.d (.v (.int .i64 0)), .d (.v (.int .i64 0))]) tok rfl rfl (by repeat (first | exact Plc.nil | apply Plc.cons rfl)) rfl (by repeat (first | exact Bld.nil _ | apply Bld.cons (cs := [.d _]) rfl rfl rfl rfl (by repeat (first | exact Spl.z _ | apply Spl.t | apply Spl.d)) | apply Bld.cons (cs := [.own _ _ _]) rfl rfl rfl rfl (by repeat (first | exact Spl.z _ | apply Spl.t | apply Spl.d)) | apply Bld.cons (cs := [.ptr _ _ _ _ _]) rfl rfl rfl rfl (by repeat (first | exact Spl.z _ | apply Spl.t | apply Spl.d)) | apply Bld.cons (cs := [.fn _ _]) rfl rfl rfl rfl (by repeat (first | exact Spl.z _ | apply Spl.t | apply Spl.d)) | apply Bld.cons (cs := _ :: _) rfl rfl rfl rfl (by repeat (first | exact Spl.z _ | apply Spl.t | apply Spl.d))))) ?_
    refine rt_w0 rfl (want_none rfl) (wr_store (cs := _ :: _) tok rfl rfl rfl rfl rfl rfl rfl rfl (by first | rfl | (simp [Cells.len] <;> omega)) (by first | rfl | exact data_get (map_at (by assumption)) | exact data_get (by assumption) | exact data_get (List.getElem?_set_self (by simp; omega)) | exact data_get (List.getElem?_set_self (by simpa using hlt))) (by repeat (first | exact Spl.z _ | apply Spl.t | apply Spl.d)) (by first | exact SetC.box _ _ | exact SetC.data _ _ (by repeat (first | exact AllD.nil | apply AllD.cons)) | exact SetC.av _ _ _) (by first | exact SetO.one _ _ | exact SetO.gen _ _ _)) ?_
    refine rt_w0 rfl (want_none rfl) (wr_store (cs := _ :: _) tok rfl rfl rfl rfl rfl rfl rfl rfl (by first | rfl | (simp [Cells.len] <;> omega)) (by first | rfl | exact data_get (map_at (by assumption)) | exact data_get (by assumption) | exact data_get (List.getElem?_set_self (by simp; omega)) | exact data_get (List.getElem?_set_self (by simpa using hlt))) (by repeat (first | exact Spl.z _ | apply Spl.t | apply Spl.d)) (by first | exact SetC.box _ _ | exact SetC.data _ _ (by repeat (first | exact AllD.nil | apply AllD.cons)) | exact SetC.av _ _ _) (by first | exact SetO.one _ _ | exact SetO.gen _ _ _)) ?_
    refine rt_p rfl (want_none rfl) rfl (pu_assign (r := .d _) rfl) ?_
    refine rt_nil ?_
    refine then_n ?_
    refine aw_ret ?_
    refine then_r ?_
    refine ret0 (rs := [.cell 2 39, .cell 3 39, .tmp 4]) 200 rfl (by repeat (first | exact ResR.nil | apply ResR.tmp (a := .d _) rfl | apply ResR.tmp (a := .ptr _ _ _ _ _) rfl | apply ResR.tmp (a := .own _ _ _) rfl | apply ResR.tmp (a := .agg _) rfl | apply ResR.tmp (a := .ref _) rfl | apply ResR.tmp (a := .tup _) rfl | apply ResR.tmp (a := .fn _ _) rfl | apply ResR.tmp (a := .dead) rfl | apply ResR.cell1 rfl rfl rfl rfl (by first | rfl | (simp [Cells.len] <;> omega)) (by first | rfl | exact data_get (map_at (by assumption)) | exact data_get (by assumption) | exact data_get (List.getElem?_set_self (by simp; omega)) | exact data_get (List.getElem?_set_self (by simpa using hlt))) rfl | apply ResR.cellN rfl rfl rfl rfl (by first | rfl | (simp [Cells.len] <;> omega)) (by first | rfl | exact data_get (map_at (by assumption)) | exact data_get (by assumption) | exact data_get (List.getElem?_set_self (by simp; omega)) | exact data_get (List.getElem?_set_self (by simpa using hlt))) (by repeat (first | exact Seg.z _ | apply Seg.t | apply Seg.d)))) (by repeat (first | exact abv_nil _ | exact abv_lks rfl | refine abv_upd ?_ rfl)) rfl ?_
    have hd0 : drOk xs = false := by simpa using hc
    rw [(box_1 hd0).1, (box_1 hd0).2]; rfl
  · skip
    try (have hd : drOk xs = true := by simpa using hc)
    try (have hl0 : xs.length ≠ 0 := by omega)
    first | (have hh0 := hs0; clear hh0) | (have hs00 := get0 hl0; obtain ⟨s0, hs0⟩ := hs00) | skip
    try (have hsr := sh_r (dr_get hd hs) hc)
    try (have hpe := sp1 hc)
    try (have hpe := sp2 hc)
    try (have hpe := sp3 ‹¬ s.K = 1› hc)
    refine aw_skip ?_
    refine then_n ?_
    refine aw_seq ?_
    refine aw_seq ?_
    refine aw_region (is := [0, 1, 2, 3]) rfl ?_
    refine rt_l rfl (want_none rfl) rfl (li_fieldAddr tok rfl rfl rfl rfl rfl rfl rfl (by first | rfl | (simp [Cells.len] <;> omega)) (by first | rfl | exact data_get (map_at (by assumption)) | exact data_get (by assumption) | exact data_get (List.getElem?_set_self (by simp; omega)) | exact data_get (List.getElem?_set_self (by simpa using hlt)))) ?_
    refine rt_l rfl (want_none rfl) rfl (li_load1 tok rfl rfl rfl rfl (by first | rfl | (simp [Cells.len] <;> omega)) (by first | rfl | exact data_get (map_at (by assumption)) | exact data_get (by assumption) | exact data_get (List.getElem?_set_self (by simp; omega)) | exact data_get (List.getElem?_set_self (by simpa using hlt))) rfl) ?_
    refine rt_p rfl (want_none rfl) rfl (pu_len_map tok rfl rfl rfl) ?_
    refine rt_p rfl (want_none rfl) rfl (pu_eql rfl rfl) ?_
    refine rt_nil ?_
    refine then_n ?_
    refine aw_condP _ rfl (fun hc => ?_) (fun hc => ?_)
    · skip
      try (have hd : drOk xs = true := by simpa using hc)
      try (have hl0 : xs.length ≠ 0 := by omega)
      first | (have hh0 := hs0; clear hh0) | (have hs00 := get0 hl0; obtain ⟨s0, hs0⟩ := hs00) | skip
      try (have hsr := sh_r (dr_get hd hs) hc)
      try (have hpe := sp1 hc)
      try (have hpe := sp2 hc)
      try (have hpe := sp3 ‹¬ s.K = 1› hc)
      refine aw_seq ?_
      refine aw_region (is := [0, 1, 2, 3, 4]) rfl ?_
      refine rt_p rfl (want_none rfl) rfl (pu_build (C0 := [.d (.v (.int .i64 0)), .d (.v (.int .i64 0))]) tok rfl rfl (by repeat (first | exact Plc.nil | apply Plc.cons rfl)) rfl (by repeat (first | exact Bld.nil _ | apply Bld.cons (cs := [.d _]) rfl rfl rfl rfl (by repeat (first | exact Spl.z _ | apply Spl.t | apply Spl.d)) | apply Bld.cons (cs := [.own _ _ _]) rfl rfl rfl rfl (by repeat (first | exact Spl.z _ | apply Spl.t | apply Spl.d)) | apply Bld.cons (cs := [.ptr _ _ _ _ _]) rfl rfl rfl rfl (by repeat (first | exact Spl.z _ | apply Spl.t | apply Spl.d)) | apply Bld.cons (cs := [.fn _ _]) rfl rfl rfl rfl (by repeat (first | exact Spl.z _ | apply Spl.t | apply Spl.d)) | apply Bld.cons (cs := _ :: _) rfl rfl rfl rfl (by repeat (first | exact Spl.z _ | apply Spl.t | apply Spl.d))))) ?_
      refine rt_p rfl (want_none rfl) rfl (pu_build (C0 := [.d (.v (.int .i64 0)), .d (.v (.int .i64 0))]) tok rfl rfl (by repeat (first | exact Plc.nil | apply Plc.cons rfl)) rfl (by repeat (first | exact Bld.nil _ | apply Bld.cons (cs := [.d _]) rfl rfl rfl rfl (by repeat (first | exact Spl.z _ | apply Spl.t | apply Spl.d)) | apply Bld.cons (cs := [.own _ _ _]) rfl rfl rfl rfl (by repeat (first | exact Spl.z _ | apply Spl.t | apply Spl.d)) | apply Bld.cons (cs := [.ptr _ _ _ _ _]) rfl rfl rfl rfl (by repeat (first | exact Spl.z _ | apply Spl.t | apply Spl.d)) | apply Bld.cons (cs := [.fn _ _]) rfl rfl rfl rfl (by repeat (first | exact Spl.z _ | apply Spl.t | apply Spl.d)) | apply Bld.cons (cs := _ :: _) rfl rfl rfl rfl (by repeat (first | exact Spl.z _ | apply Spl.t | apply Spl.d))))) ?_
      refine rt_w0 rfl (want_none rfl) (wr_store (cs := _ :: _) tok rfl rfl rfl rfl rfl rfl rfl rfl (by first | rfl | (simp [Cells.len] <;> omega)) (by first | rfl | exact data_get (map_at (by assumption)) | exact data_get (by assumption) | exact data_get (List.getElem?_set_self (by simp; omega)) | exact data_get (List.getElem?_set_self (by simpa using hlt))) (by repeat (first | exact Spl.z _ | apply Spl.t | apply Spl.d)) (by first | exact SetC.box _ _ | exact SetC.data _ _ (by repeat (first | exact AllD.nil | apply AllD.cons)) | exact SetC.av _ _ _) (by first | exact SetO.one _ _ | exact SetO.gen _ _ _)) ?_
      refine rt_w0 rfl (want_none rfl) (wr_store (cs := _ :: _) tok rfl rfl rfl rfl rfl rfl rfl rfl (by first | rfl | (simp [Cells.len] <;> omega)) (by first | rfl | exact data_get (map_at (by assumption)) | exact data_get (by assumption) | exact data_get (List.getElem?_set_self (by simp; omega)) | exact data_get (List.getElem?_set_self (by simpa using hlt))) (by repeat (first | exact Spl.z _ | apply Spl.t | apply Spl.d)) (by first | exact SetC.box _ _ | exact SetC.data _ _ (by repeat (first | exact AllD.nil | apply AllD.cons)) | exact SetC.av _ _ _) (by first | exact SetO.one _ _ | exact SetO.gen _ _ _)) ?_
      refine rt_p rfl (want_none rfl) rfl (pu_assign (r := .d _) rfl) ?_
      refine rt_nil ?_
      refine then_n ?_
      refine aw_ret ?_
      refine then_r ?_
      refine ret0 (rs := [.cell 2 39, .cell 3 39, .tmp 4]) 200 rfl (by repeat (first | exact ResR.nil | apply ResR.tmp (a := .d _) rfl | apply ResR.tmp (a := .ptr _ _ _ _ _) rfl | apply ResR.tmp (a := .own _ _ _) rfl | apply ResR.tmp (a := .agg _) rfl | apply ResR.tmp (a := .ref _) rfl | apply ResR.tmp (a := .tup _) rfl | apply ResR.tmp (a := .fn _ _) rfl | apply ResR.tmp (a := .dead) rfl | apply ResR.cell1 rfl rfl rfl rfl (by first | rfl | (simp [Cells.len] <;> omega)) (by first | rfl | exact data_get (map_at (by assumption)) | exact data_get (by assumption) | exact data_get (List.getElem?_set_self (by simp; omega)) | exact data_get (List.getElem?_set_self (by simpa using hlt))) rfl | apply ResR.cellN rfl rfl rfl rfl (by first | rfl | (simp [Cells.len] <;> omega)) (by first | rfl | exact data_get (map_at (by assumption)) | exact data_get (by assumption) | exact data_get (List.getElem?_set_self (by simp; omega)) | exact data_get (List.getElem?_set_self (by simpa using hlt))) (by repeat (first | exact Seg.z _ | apply Seg.t | apply Seg.d)))) (by repeat (first | exact abv_nil _ | exact abv_lks rfl | refine abv_upd ?_ rfl)) rfl ?_
      have hl : xs.length = 0 := by omega
      rw [(box_2 hd hl).1, (box_2 hd hl).2]; rfl
    · skip
      try (have hd : drOk xs = true := by simpa using hc)
      try (have hl0 : xs.length ≠ 0 := by omega)
      first | (have hh0 := hs0; clear hh0) | (have hs00 := get0 hl0; obtain ⟨s0, hs0⟩ := hs00) | skip
      try (have hsr := sh_r (dr_get hd hs) hc)
      try (have hpe := sp1 hc)
      try (have hpe := sp2 hc)
      try (have hpe := sp3 ‹¬ s.K = 1› hc)
      refine aw_skip ?_
      refine then_n ?_
      refine aw_seq ?_
      refine aw_region (is := [0, 1, 2, 3, 4, 5, 6]) rfl ?_
      refine rt_l rfl (want_none rfl) rfl (li_fieldAddr tok rfl rfl rfl rfl rfl rfl rfl (by first | rfl | (simp [Cells.len] <;> omega)) (by first | rfl | exact data_get (map_at (by assumption)) | exact data_get (by assumption) | exact data_get (List.getElem?_set_self (by simp; omega)) | exact data_get (List.getElem?_set_self (by simpa using hlt)))) ?_
      refine rt_l rfl (want_none rfl) rfl (li_load1 tok rfl rfl rfl rfl (by first | rfl | (simp [Cells.len] <;> omega)) (by first | rfl | exact data_get (map_at (by assumption)) | exact data_get (by assumption) | exact data_get (List.getElem?_set_self (by simp; omega)) | exact data_get (List.getElem?_set_self (by simpa using hlt))) rfl) ?_
      refine rt_p rfl (want_none rfl) rfl (pu_index_sl tok rfl rfl (by first | rfl | omega) rfl rfl rfl (by first | rfl | exact map_at (by assumption) | assumption) rfl) ?_
      refine rt_p rfl (want_none rfl) rfl (pu_fieldAddr_ref tok rfl rfl rfl rfl rfl rfl (by repeat (first | exact Drp.z _ | apply Drp.d))) ?_
      refine rt_p rfl (want_none rfl) rfl (pu_load_refN tok rfl rfl rfl (by repeat (first | exact SegD.z _ | apply SegD.t))) ?_
      refine rt_s rfl (want_none rfl) rfl (st_alloc 10 (cs := [.d (.v (.int .i64 0)), .d (.v (.int .i64 0))]) tok rfl rfl rfl) ?_
      refine rt_w0 rfl (want_none rfl) (wr_store (cs := _ :: _) tok rfl rfl rfl rfl rfl rfl rfl rfl (by first | rfl | (simp [Cells.len] <;> omega)) (by first | rfl | exact data_get (map_at (by assumption)) | exact data_get (by assumption) | exact data_get (List.getElem?_set_self (by simp; omega)) | exact data_get (List.getElem?_set_self (by simpa using hlt))) (by repeat (first | exact Spl.z _ | apply Spl.t | apply Spl.d)) (by first | exact SetC.box _ _ | exact SetC.data _ _ (by repeat (first | exact AllD.nil | apply AllD.cons)) | exact SetC.av _ _ _) (by first | exact SetO.one _ _ | exact SetO.gen _ _ _)) ?_
      refine rt_nil ?_
      refine then_n ?_
      refine aw_seq ?_
      refine aw_region (is := [0, 1, 2]) rfl ?_
      refine rt_l rfl (want_none rfl) rfl (li_loadN tok rfl rfl rfl rfl (by first | rfl | (simp [Cells.len] <;> omega)) (by first | rfl | exact data_get (map_at (by assumption)) | exact data_get (by assumption) | exact data_get (List.getElem?_set_self (by simp; omega)) | exact data_get (List.getElem?_set_self (by simpa using hlt))) (by repeat (first | exact Seg.z _ | apply Seg.t | apply Seg.d))) ?_
      refine rt_s rfl (want_none rfl) rfl (st_alloc 11 (cs := [.d (.v (.int .i64 0)), .d (.v (.int .i64 0))]) tok rfl rfl rfl) ?_
      refine rt_w0 rfl (want_none rfl) (wr_store (cs := _ :: _) tok rfl rfl rfl rfl rfl rfl rfl rfl (by first | rfl | (simp [Cells.len] <;> omega)) (by first | rfl | exact data_get (map_at (by assumption)) | exact data_get (by assumption) | exact data_get (List.getElem?_set_self (by simp; omega)) | exact data_get (List.getElem?_set_self (by simpa using hlt))) (by repeat (first | exact Spl.z _ | apply Spl.t | apply Spl.d)) (by first | exact SetC.box _ _ | exact SetC.data _ _ (by repeat (first | exact AllD.nil | apply AllD.cons)) | exact SetC.av _ _ _) (by first | exact SetO.one _ _ | exact SetO.gen _ _ _)) ?_
      refine rt_nil ?_
      refine then_n ?_
      refine aw_seq ?_
      refine aw_seq ?_
      refine aw_region (is := [0]) rfl ?_
      refine rt_p rfl (want_none rfl) rfl (pu_assign (r := .d _) rfl) ?_
      refine rt_nil ?_
      refine then_n ?_
      refine aw_block ?_
      refine aw_loop (ι := {k : Nat // k ≤ xs.length}) (fun p => ⟨updA (updA (updA (updA (updA (updA (updA ((fun _ => .dead)) 1 (.ptr 3 0 1 0 0)) 2 (.ptr 4 0 1 0 0)) 3 (.ptr 5 0 1 0 0)) 4 (.d (.v (.int .i64 0)))) 5 (.ptr 10 0 1 0 0)) 6 (.ptr 11 0 1 0 0)) 7 (.d (.v (.int .i64 (p.1)))), lks [.no, .no, .no, .live [⟨29, 1, .av [[.d (.sl (shpsD xs))]]⟩], .live [⟨39, 2, .av [[.d (.v (.int .i64 0)), .d (.v (.int .i64 0))]]⟩], .live [⟨39, 2, .av [[.d (.v (.int .i64 0)), .d (.v (.int .i64 0))]]⟩], .no, .no, .no, .no, .live [⟨39, 2, .av [[.d (.v (.int .i64 ((bxT spPts (a0 xs) xs p.1).lx))), .d (.v (.int .i64 ((bxT spPts (a0 xs) xs p.1).ly)))]]⟩], .live [⟨39, 2, .av [[.d (.v (.int .i64 ((bxT spPts (a0 xs) xs p.1).hx))), .d (.v (.int .i64 ((bxT spPts (a0 xs) xs p.1).hy)))]]⟩]]⟩) (fun p => xs.length - p.1) ⟨0, by omega⟩ ?_ ?_
      · (refine weak_of 200 (by repeat (first | exact abv_nil _ | exact abv_lks rfl | refine abv_upd ?_ rfl)) rfl (by repeat (first | exact WT.nil | refine WT.free_ rfl (by first | exact rfl | (exact eqI (by rw [a0_get hs0] <;> rfl)) | exact eqI (by omega) | exact eqI (by simp <;> fail) | exact eqI (by simp; omega) | exact eqOwn (by simp <;> fail) | exact eqOwn (by simp; omega) | (simp_all <;> fail)) ?_ | refine WT.ren_ (r' := _) rfl (by repeat (first | exact RenRL.nil | apply RenRL.cons | exact RenR.d _ | exact RenR.of_d (by first | (exact eqI (by rw [a0_get hs0] <;> rfl)) | exact eqI (by omega) | exact eqI (by simp <;> fail) | exact eqI (by simp; omega)) | apply RenR.agg | apply RenR.tup | exact RenR.own _ _ _ _ rfl | exact RenR.of_own (by first | rfl | (omega) | (simp <;> fail) | (simp; omega)) rfl | exact RenR.ptr _ _ _ _ _ _ rfl | exact RenR.ref _ | apply RenR.fn | exact RenR.dead)) ?_)) (by repeat (first | exact WH.nil _ | refine WH.data_ (by first | exact rfl | (exact eqI (by rw [a0_get hs0] <;> rfl)) | exact eqI (by omega) | exact eqI (by simp <;> fail) | exact eqI (by simp; omega) | exact eqOwn (by simp <;> fail) | exact eqOwn (by simp; omega) | (simp_all <;> fail)) ?_ | refine WH.cons (by first | exact rfl | (exact eqI (by rw [a0_get hs0] <;> rfl)) | exact eqI (by omega) | exact eqI (by simp <;> fail) | exact eqI (by simp; omega) | exact eqOwn (by simp <;> fail) | exact eqOwn (by simp; omega) | (simp_all <;> fail)) (by first | exact RenS.no | exact RenS.dead | exact RenS.data _ _ _ | (apply RenS.box; repeat (first | exact RenRL.nil | apply RenRL.cons | exact RenR.d _ | exact RenR.of_d (by first | (exact eqI (by rw [a0_get hs0] <;> rfl)) | exact eqI (by omega) | exact eqI (by simp <;> fail) | exact eqI (by simp; omega)) | apply RenR.agg | apply RenR.tup | exact RenR.own _ _ _ _ rfl | exact RenR.of_own (by first | rfl | (omega) | (simp <;> fail) | (simp; omega)) rfl | exact RenR.ptr _ _ _ _ _ _ rfl | exact RenR.ref _ | apply RenR.fn | exact RenR.dead)) | exact RenS.gen _) ?_)) rfl)
      · rintro ⟨k, hk⟩
        rcases Nat.lt_or_ge k xs.length with hlt | hge
        · skip
          obtain ⟨s, hs⟩ : ∃ s, xs[k]? = some s := ⟨_, List.getElem?_eq_getElem hlt⟩
          have hsl := sh_lim (dr_get hd hs)
          refine aw_seq ?_
          refine aw_seq ?_
          refine aw_region (is := [0, 1, 2, 3, 4]) rfl ?_
          refine rt_p rfl (want_none rfl) rfl (pu_move (r := .d _) rfl) ?_
          refine rt_l rfl (want_none rfl) rfl (li_fieldAddr tok rfl rfl rfl rfl rfl rfl rfl (by first | rfl | (simp [Cells.len] <;> omega)) (by first | rfl | exact data_get (map_at (by assumption)) | exact data_get (by assumption) | exact data_get (List.getElem?_set_self (by simp; omega)) | exact data_get (List.getElem?_set_self (by simpa using hlt)))) ?_
          refine rt_l rfl (want_none rfl) rfl (li_load1 tok rfl rfl rfl rfl (by first | rfl | (simp [Cells.len] <;> omega)) (by first | rfl | exact data_get (map_at (by assumption)) | exact data_get (by assumption) | exact data_get (List.getElem?_set_self (by simp; omega)) | exact data_get (List.getElem?_set_self (by simpa using hlt))) rfl) ?_
          refine rt_p rfl (want_none rfl) rfl (pu_len_map tok rfl rfl rfl) ?_
          refine rt_p rfl (want_none rfl) rfl (pu_lss rfl rfl) ?_
          refine rt_nil ?_
          refine then_n ?_
          refine aw_condP _ rfl (fun hc => ?_) (fun hc => ?_)
          · skip
            try (have hd : drOk xs = true := by simpa using hc)
            try (have hl0 : xs.length ≠ 0 := by omega)
            first | (have hh0 := hs0; clear hh0) | (have hs00 := get0 hl0; obtain ⟨s0, hs0⟩ := hs00) | skip
            try (have hsr := sh_r (dr_get hd hs) hc)
            try (have hpe := sp1 hc)
            try (have hpe := sp2 hc)
            try (have hpe := sp3 ‹¬ s.K = 1› hc)
            refine aw_skip ?_
            refine then_n ?_
            refine aw_seq ?_
            refine aw_block ?_
            refine aw_seq ?_
            refine aw_region (is := [0, 1, 2, 3, 4, 5, 6]) rfl ?_
            refine rt_l rfl (want_none rfl) rfl (li_fieldAddr tok rfl rfl rfl rfl rfl rfl rfl (by first | rfl | (simp [Cells.len] <;> omega)) (by first | rfl | exact data_get (map_at (by assumption)) | exact data_get (by assumption) | exact data_get (List.getElem?_set_self (by simp; omega)) | exact data_get (List.getElem?_set_self (by simpa using hlt)))) ?_
            refine rt_l rfl (want_none rfl) rfl (li_load1 tok rfl rfl rfl rfl (by first | rfl | (simp [Cells.len] <;> omega)) (by first | rfl | exact data_get (map_at (by assumption)) | exact data_get (by assumption) | exact data_get (List.getElem?_set_self (by simp; omega)) | exact data_get (List.getElem?_set_self (by simpa using hlt))) rfl) ?_
            refine rt_p rfl (want_none rfl) rfl (pu_move (r := .d _) rfl) ?_
            refine rt_p rfl (want_none rfl) rfl (pu_index_sl tok rfl rfl (by first | rfl | omega) rfl rfl rfl (by first | rfl | exact map_at (by assumption) | assumption) rfl) ?_
            refine rt_p rfl (want_none rfl) rfl (pu_load_refN tok rfl rfl rfl (by repeat (first | exact SegD.z _ | apply SegD.t))) ?_
            refine rt_s rfl (want_none rfl) rfl (st_alloc 12 (cs := [.d (.v (.int .i64 0)), .d (.v (.int .i64 0)), .d (.v (.int .i64 0)), .d (.v (.int .i64 0)), .d (.v (.int .i64 0)), .d (.v (.int .i64 0)), .d (.v (.string ⟨#[]⟩))]) tok rfl rfl rfl) ?_
            refine rt_w0 rfl (want_none rfl) (wr_store (cs := _ :: _) tok rfl rfl rfl rfl rfl rfl rfl rfl (by first | rfl | (simp [Cells.len] <;> omega)) (by first | rfl | exact data_get (map_at (by assumption)) | exact data_get (by assumption) | exact data_get (List.getElem?_set_self (by simp; omega)) | exact data_get (List.getElem?_set_self (by simpa using hlt))) (by repeat (first | exact Spl.z _ | apply Spl.t | apply Spl.d)) (by first | exact SetC.box _ _ | exact SetC.data _ _ (by repeat (first | exact AllD.nil | apply AllD.cons)) | exact SetC.av _ _ _) (by first | exact SetO.one _ _ | exact SetO.gen _ _ _)) ?_
            refine rt_nil ?_
            refine then_n ?_
            refine aw_seq ?_
            refine aw_region (is := [0, 1, 2, 3]) rfl ?_
            refine rt_l rfl (want_none rfl) rfl (li_fieldAddr tok rfl rfl rfl rfl rfl rfl rfl (by first | rfl | (simp [Cells.len] <;> omega)) (by first | rfl | exact data_get (map_at (by assumption)) | exact data_get (by assumption) | exact data_get (List.getElem?_set_self (by simp; omega)) | exact data_get (List.getElem?_set_self (by simpa using hlt)))) ?_
            refine rt_l rfl (want_none rfl) rfl (li_loadN tok rfl rfl rfl rfl (by first | rfl | (simp [Cells.len] <;> omega)) (by first | rfl | exact data_get (map_at (by assumption)) | exact data_get (by assumption) | exact data_get (List.getElem?_set_self (by simp; omega)) | exact data_get (List.getElem?_set_self (by simpa using hlt))) (by repeat (first | exact Seg.z _ | apply Seg.t | apply Seg.d))) ?_
            refine rt_s rfl (want_none rfl) rfl (st_slice 13 tok rfl rfl rfl (by repeat (first | exact Els.nil _ | apply Els.cons (cs := [.d _]) rfl rfl rfl | apply Els.cons (cs := [.own _ _ _]) rfl rfl rfl | apply Els.cons (cs := [.ptr _ _ _ _ _]) rfl rfl rfl | apply Els.cons (cs := [.fn _ _]) rfl rfl rfl | apply Els.cons (cs := _ :: _) rfl rfl rfl)) rfl rfl rfl (by first | exact Lay.data (by repeat (first | exact AllDD.nil | (apply AllDD.cons; (repeat (first | exact AllD.nil | apply AllD.cons))))) | exact Lay.av _) rfl) ?_
            refine rt_p rfl (want_none rfl) rfl (pu_assign (r := .own _ _ _) rfl) ?_
            refine rt_nil ?_
            refine then_n ?_
            refine aw_seq ?_
            refine aw_seq ?_
            refine aw_region (is := [0, 1]) rfl ?_
            refine rt_l rfl (want_none rfl) rfl (li_fieldAddr tok rfl rfl rfl rfl rfl rfl rfl (by first | rfl | (simp [Cells.len] <;> omega)) (by first | rfl | exact data_get (map_at (by assumption)) | exact data_get (by assumption) | exact data_get (List.getElem?_set_self (by simp; omega)) | exact data_get (List.getElem?_set_self (by simpa using hlt)))) ?_
            refine rt_l rfl (want_none rfl) rfl (li_load1 tok rfl rfl rfl rfl (by first | rfl | (simp [Cells.len] <;> omega)) (by first | rfl | exact data_get (map_at (by assumption)) | exact data_get (by assumption) | exact data_get (List.getElem?_set_self (by simp; omega)) | exact data_get (List.getElem?_set_self (by simpa using hlt))) rfl) ?_
            refine rt_nil ?_
            refine then_n ?_
            refine aw_block ?_
            refine aw_seq ?_
            refine aw_region (is := [0, 1]) rfl ?_
            refine rt_p rfl (want_none rfl) rfl (pu_eql rfl rfl) ?_
            refine rt_p rfl (want_none rfl) rfl (pu_assign (r := .d _) rfl) ?_
            refine rt_nil ?_
            refine then_n ?_
            refine aw_condP _ rfl (fun hc => ?_) (fun hc => ?_)
            · skip
              try (have hd : drOk xs = true := by simpa using hc)
              try (have hl0 : xs.length ≠ 0 := by omega)
              first | (have hh0 := hs0; clear hh0) | (have hs00 := get0 hl0; obtain ⟨s0, hs0⟩ := hs00) | skip
              try (have hsr := sh_r (dr_get hd hs) hc)
              try (have hpe := sp1 hc)
              try (have hpe := sp2 hc)
              try (have hpe := sp3 ‹¬ s.K = 1› hc)
              refine aw_region (is := [0, 1, 2, 3, 4, 5]) rfl ?_
              refine rt_p rfl (want_none rfl) rfl (pu_move (r := .own _ _ _) rfl) ?_
              refine rt_l rfl (want_none rfl) rfl (li_fieldAddr tok rfl rfl rfl rfl rfl rfl rfl (by first | rfl | (simp [Cells.len] <;> omega)) (by first | rfl | exact data_get (map_at (by assumption)) | exact data_get (by assumption) | exact data_get (List.getElem?_set_self (by simp; omega)) | exact data_get (List.getElem?_set_self (by simpa using hlt)))) ?_
              refine rt_l rfl (want_none rfl) rfl (li_loadN tok rfl rfl rfl rfl (by first | rfl | (simp [Cells.len] <;> omega)) (by first | rfl | exact data_get (map_at (by assumption)) | exact data_get (by assumption) | exact data_get (List.getElem?_set_self (by simp; omega)) | exact data_get (List.getElem?_set_self (by simpa using hlt))) (by repeat (first | exact Seg.z _ | apply Seg.t | apply Seg.d))) ?_
              refine rt_s rfl (want_none rfl) rfl (st_slice 14 tok rfl rfl rfl (by repeat (first | exact Els.nil _ | apply Els.cons (cs := [.d _]) rfl rfl rfl | apply Els.cons (cs := [.own _ _ _]) rfl rfl rfl | apply Els.cons (cs := [.ptr _ _ _ _ _]) rfl rfl rfl | apply Els.cons (cs := [.fn _ _]) rfl rfl rfl | apply Els.cons (cs := _ :: _) rfl rfl rfl)) rfl rfl rfl (by first | exact Lay.data (by repeat (first | exact AllDD.nil | (apply AllDD.cons; (repeat (first | exact AllD.nil | apply AllD.cons))))) | exact Lay.av _) rfl) ?_
              refine rt_w rfl (want_none rfl) rfl (wr_append_own tok rfl rfl rfl rfl rfl rfl rfl rfl rfl (by first | rfl | (simp [Cells.len] <;> omega)) rfl rfl rfl (by first | rfl | (simp [Cells.len] <;> omega)) rfl (by first | trivial | simp [Cells.oks, okL, ok1]) (by first | exact App.data _ _ | exact App.av _ _ | exact App.nil _) (by first | exact SetO.one _ _ | exact SetO.gen _ _ _) (by first | omega | (simp <;> omega)) (by first | omega | (simp <;> omega))) ?_
              refine rt_p rfl (want_none rfl) rfl (pu_assign (r := .own _ _ _) rfl) ?_
              refine rt_nil ?_
              refine block_n ?_
              refine then_n ?_
              refine aw_seq ?_
              refine aw_region (is := [0]) rfl ?_
              refine rt_p rfl (want_none rfl) rfl (pu_assign (r := .d _) rfl) ?_
              refine rt_nil ?_
              refine then_n ?_
              refine aw_block ?_
              refine aw_loop (ι := {j : Nat // j ≤ (spPts s).length}) (fun q => ⟨updA (updA (updA (updA (updA (updA (updA (updA (updA (updA (updA (updA ((fun _ => .dead)) 1 (.ptr 3 0 1 0 0)) 2 (.ptr 4 0 1 0 0)) 3 (.ptr 5 0 1 0 0)) 4 (.d (.v (.int .i64 0)))) 5 (.ptr 10 0 1 0 0)) 6 (.ptr 11 0 1 0 0)) 7 (.d (.v (.int .i64 (k))))) 8 (.ptr 12 0 1 0 0)) 9 (.own 13 0 (spPts s).length)) 10 (.d (.v (.int .i64 (q.1))))) 28 (.d (.v (.int .i64 (k))))) 37 (.d (.v (.int .i64 (k)))), lks [.no, .no, .no, .live [⟨29, 1, .av [[.d (.sl (shpsD xs))]]⟩], .live [⟨39, 2, .av [[.d (.v (.int .i64 0)), .d (.v (.int .i64 0))]]⟩], .live [⟨39, 2, .av [[.d (.v (.int .i64 0)), .d (.v (.int .i64 0))]]⟩], .no, .no, .no, .no, .live [⟨39, 2, .av [[.d (.v (.int .i64 ((bxP (bxT spPts (a0 xs) xs k) (spPts s) q.1).lx))), .d (.v (.int .i64 ((bxP (bxT spPts (a0 xs) xs k) (spPts s) q.1).ly)))]]⟩], .live [⟨39, 2, .av [[.d (.v (.int .i64 ((bxP (bxT spPts (a0 xs) xs k) (spPts s) q.1).hx))), .d (.v (.int .i64 ((bxP (bxT spPts (a0 xs) xs k) (spPts s) q.1).hy)))]]⟩], .live [⟨80, 7, .av [[.d (.v (.int .i64 (s.K))), .d (.v (.int .i64 (s.AX))), .d (.v (.int .i64 (s.AY))), .d (.v (.int .i64 (s.BX))), .d (.v (.int .i64 (s.BY))), .d (.v (.int .i64 (s.R))), .d (.v (.string (s.N)))]]⟩], .live [⟨39, 2, .data (ptsD (spPts s))⟩]]⟩) (fun q => (spPts s).length - q.1) ⟨0, by omega⟩ ?_ ?_
              · (refine weak_of 200 (by repeat (first | exact abv_nil _ | exact abv_lks rfl | refine abv_upd ?_ rfl)) rfl (by repeat (first | exact WT.nil | refine WT.free_ rfl (by first | exact rfl | (exact eqI rfl) | (exact eqData (by rw [hpe] <;> rfl)) | exact eqI (by omega) | exact eqI (by simp <;> fail) | exact eqI (by simp; omega) | exact eqOwn (by simp <;> fail) | exact eqOwn (by simp; omega) | (simp_all <;> fail)) ?_ | refine WT.ren_ (r' := _) rfl (by repeat (first | exact RenRL.nil | apply RenRL.cons | exact RenR.d _ | exact RenR.of_d (by first | (exact eqI rfl) | (exact eqData (by rw [hpe] <;> rfl)) | exact eqI (by omega) | exact eqI (by simp <;> fail) | exact eqI (by simp; omega)) | apply RenR.agg | apply RenR.tup | exact RenR.own _ _ _ _ rfl | exact RenR.of_own (by first | rfl | (rw [hpe] <;> rfl) | (omega) | (simp <;> fail) | (simp; omega)) rfl | exact RenR.ptr _ _ _ _ _ _ rfl | exact RenR.ref _ | apply RenR.fn | exact RenR.dead)) ?_)) (by repeat (first | exact WH.nil _ | refine WH.data_ (by first | exact rfl | (exact eqI rfl) | (exact eqData (by rw [hpe] <;> rfl)) | exact eqI (by omega) | exact eqI (by simp <;> fail) | exact eqI (by simp; omega) | exact eqOwn (by simp <;> fail) | exact eqOwn (by simp; omega) | (simp_all <;> fail)) ?_ | refine WH.cons (by first | exact rfl | (exact eqI rfl) | (exact eqData (by rw [hpe] <;> rfl)) | exact eqI (by omega) | exact eqI (by simp <;> fail) | exact eqI (by simp; omega) | exact eqOwn (by simp <;> fail) | exact eqOwn (by simp; omega) | (simp_all <;> fail)) (by first | exact RenS.no | exact RenS.dead | exact RenS.data _ _ _ | (apply RenS.box; repeat (first | exact RenRL.nil | apply RenRL.cons | exact RenR.d _ | exact RenR.of_d (by first | (exact eqI rfl) | (exact eqData (by rw [hpe] <;> rfl)) | exact eqI (by omega) | exact eqI (by simp <;> fail) | exact eqI (by simp; omega)) | apply RenR.agg | apply RenR.tup | exact RenR.own _ _ _ _ rfl | exact RenR.of_own (by first | rfl | (rw [hpe] <;> rfl) | (omega) | (simp <;> fail) | (simp; omega)) rfl | exact RenR.ptr _ _ _ _ _ _ rfl | exact RenR.ref _ | apply RenR.fn | exact RenR.dead)) | exact RenS.gen _) ?_)) rfl)
              · rintro ⟨j, hj⟩
                have hpl := pts_len s
                rcases Nat.lt_or_ge j (spPts s).length with hjl | hjg
                · skip
                  obtain ⟨pt, hpt⟩ : ∃ p, (spPts s)[j]? = some p := ⟨_, List.getElem?_eq_getElem hjl⟩
                  refine aw_seq ?_
                  refine aw_seq ?_
                  refine aw_region (is := [0, 1, 2, 3]) rfl ?_
                  refine rt_p rfl (want_none rfl) rfl (pu_move (r := .d _) rfl) ?_
                  refine rt_p rfl (want_none rfl) rfl (pu_move (r := .own _ _ _) rfl) ?_
                  refine rt_l rfl (want_none rfl) rfl (li_len tok rfl rfl rfl rfl (by first | rfl | (simp [Cells.len] <;> omega))) ?_
                  refine rt_p rfl (want_none rfl) rfl (pu_lss rfl rfl) ?_
                  refine rt_nil ?_
                  refine then_n ?_
                  refine aw_condP _ rfl (fun hc => ?_) (fun hc => ?_)
                  · skip
                    try (have hd : drOk xs = true := by simpa using hc)
                    try (have hl0 : xs.length ≠ 0 := by omega)
                    first | (have hh0 := hs0; clear hh0) | (have hs00 := get0 hl0; obtain ⟨s0, hs0⟩ := hs00) | skip
                    try (have hsr := sh_r (dr_get hd hs) hc)
                    try (have hpe := sp1 hc)
                    try (have hpe := sp2 hc)
                    try (have hpe := sp3 ‹¬ s.K = 1› hc)
                    refine aw_skip ?_
                    refine then_n ?_
                    refine aw_seq ?_
                    refine aw_block ?_
                    refine aw_seq ?_
                    refine aw_region_draw (is := [0, 1, 2, 3, 4, 5, 6, 8, 9, 10, 11, 12, 13, 14, 7, 15, 16, 17]) follows ?_
                    refine rt_lk rfl (want_none rfl) rfl (li_fieldAddr tok rfl rfl rfl rfl rfl rfl rfl (by first | rfl | (simp [Cells.len] <;> omega)) (by first | rfl | exact data_get (map_at (by assumption)) | exact data_get (by assumption) | exact data_get (List.getElem?_set_self (by simp; omega)) | exact data_get (List.getElem?_set_self (by simpa using hlt)))) rfl rfl rfl ?_
                    refine rt_lk rfl (want_none rfl) rfl (li_load1 tok rfl rfl rfl rfl (by first | rfl | (simp [Cells.len] <;> omega)) (by first | rfl | exact data_get (map_at (by assumption)) | exact data_get (by assumption) | exact data_get (List.getElem?_set_self (by simp; omega)) | exact data_get (List.getElem?_set_self (by simpa using hlt))) rfl) rfl rfl rfl ?_
                    refine rt_p rfl (want_none rfl) rfl (pu_move (r := .own _ _ _) rfl) ?_
                    refine rt_p rfl (want_none rfl) rfl (pu_move (r := .d _) rfl) ?_
                    refine rt_lk rfl (want_none rfl) rfl (li_index tok rfl rfl (by first | rfl | omega) (by first | omega) rfl rfl rfl rfl (by first | rfl | (simp [Cells.len] <;> omega)) rfl) rfl rfl rfl ?_
                    refine rt_lk rfl (want_none rfl) rfl (li_fieldAddr tok rfl rfl rfl rfl rfl rfl rfl (by first | rfl | (simp [Cells.len] <;> omega)) (by first | rfl | exact data_get (map_at (by assumption)) | exact data_get (by assumption) | exact data_get (List.getElem?_set_self (by simp; omega)) | exact data_get (List.getElem?_set_self (by simpa using hlt)))) rfl rfl rfl ?_
                    refine rt_lk rfl (want_none rfl) rfl (li_load1 tok rfl rfl rfl rfl (by first | rfl | (simp [Cells.len] <;> omega)) (by first | rfl | exact data_get (map_at (by assumption)) | exact data_get (by assumption) | exact data_get (List.getElem?_set_self (by simp; omega)) | exact data_get (List.getElem?_set_self (by simpa using hlt))) rfl) rfl rfl rfl ?_
                    refine rt_lk rfl (want_none rfl) rfl (li_fieldAddr tok rfl rfl rfl rfl rfl rfl rfl (by first | rfl | (simp [Cells.len] <;> omega)) (by first | rfl | exact data_get (map_at (by assumption)) | exact data_get (by assumption) | exact data_get (List.getElem?_set_self (by simp; omega)) | exact data_get (List.getElem?_set_self (by simpa using hlt)))) rfl rfl rfl ?_
                    refine rt_lk rfl (want_none rfl) rfl (li_load1 tok rfl rfl rfl rfl (by first | rfl | (simp [Cells.len] <;> omega)) (by first | rfl | exact data_get (map_at (by assumption)) | exact data_get (by assumption) | exact data_get (List.getElem?_set_self (by simp; omega)) | exact data_get (List.getElem?_set_self (by simpa using hlt))) rfl) rfl rfl rfl ?_
                    refine rt_p rfl (want_none rfl) rfl (pu_move (r := .own _ _ _) rfl) ?_
                    refine rt_p rfl (want_none rfl) rfl (pu_move (r := .d _) rfl) ?_
                    refine rt_lk rfl (want_none rfl) rfl (li_index tok rfl rfl (by first | rfl | omega) (by first | omega) rfl rfl rfl rfl (by first | rfl | (simp [Cells.len] <;> omega)) rfl) rfl rfl rfl ?_
                    refine rt_lk rfl (want_none rfl) rfl (li_fieldAddr tok rfl rfl rfl rfl rfl rfl rfl (by first | rfl | (simp [Cells.len] <;> omega)) (by first | rfl | exact data_get (map_at (by assumption)) | exact data_get (by assumption) | exact data_get (List.getElem?_set_self (by simp; omega)) | exact data_get (List.getElem?_set_self (by simpa using hlt)))) rfl rfl rfl ?_
                    refine rt_lk rfl (want_none rfl) rfl (li_load1 tok rfl rfl rfl rfl (by first | rfl | (simp [Cells.len] <;> omega)) (by first | rfl | exact data_get (map_at (by assumption)) | exact data_get (by assumption) | exact data_get (List.getElem?_set_self (by simp; omega)) | exact data_get (List.getElem?_set_self (by simpa using hlt))) rfl) rfl rfl rfl ?_
                    refine rt_c rfl (want_none rfl) rfl (sb_call 16 rfl rfl rfl (min_a _ _) (by repeat (first | exact abv_nil _ | exact abv_lks rfl | refine abv_upd ?_ rfl)) (by repeat (first | exact RenRL.nil | apply RenRL.cons | exact RenR.d _ | apply RenR.agg | apply RenR.tup | exact RenR.own _ _ _ _ rfl | exact RenR.ptr _ _ _ _ _ _ rfl | exact RenR.ref _ | apply RenR.fn | exact RenR.dead)) (by repeat (first | exact BirR.nil _ _ | (apply BirR.cons; (first | exact RenS.no | exact RenS.dead | exact RenS.data _ _ _ | (apply RenS.box; repeat (first | exact RenRL.nil | apply RenRL.cons | exact RenR.d _ | apply RenR.agg | apply RenR.tup | exact RenR.own _ _ _ _ rfl | exact RenR.ptr _ _ _ _ _ _ rfl | exact RenR.ref _ | apply RenR.fn | exact RenR.dead)) | exact RenS.gen _))))) ?_
                    refine rt_c rfl (want_none rfl) rfl (sb_call 20 rfl rfl rfl (min_a _ _) (by repeat (first | exact abv_nil _ | exact abv_lks rfl | refine abv_upd ?_ rfl)) (by repeat (first | exact RenRL.nil | apply RenRL.cons | exact RenR.d _ | apply RenR.agg | apply RenR.tup | exact RenR.own _ _ _ _ rfl | exact RenR.ptr _ _ _ _ _ _ rfl | exact RenR.ref _ | apply RenR.fn | exact RenR.dead)) (by repeat (first | exact BirR.nil _ _ | (apply BirR.cons; (first | exact RenS.no | exact RenS.dead | exact RenS.data _ _ _ | (apply RenS.box; repeat (first | exact RenRL.nil | apply RenRL.cons | exact RenR.d _ | apply RenR.agg | apply RenR.tup | exact RenR.own _ _ _ _ rfl | exact RenR.ptr _ _ _ _ _ _ rfl | exact RenR.ref _ | apply RenR.fn | exact RenR.dead)) | exact RenS.gen _))))) ?_
                    refine rt_p rfl (want_none rfl) rfl (pu_build (C0 := [.d (.v (.int .i64 0)), .d (.v (.int .i64 0))]) tok rfl rfl (by repeat (first | exact Plc.nil | apply Plc.cons rfl)) rfl (by repeat (first | exact Bld.nil _ | apply Bld.cons (cs := [.d _]) rfl rfl rfl rfl (by repeat (first | exact Spl.z _ | apply Spl.t | apply Spl.d)) | apply Bld.cons (cs := [.own _ _ _]) rfl rfl rfl rfl (by repeat (first | exact Spl.z _ | apply Spl.t | apply Spl.d)) | apply Bld.cons (cs := [.ptr _ _ _ _ _]) rfl rfl rfl rfl (by repeat (first | exact Spl.z _ | apply Spl.t | apply Spl.d)) | apply Bld.cons (cs := [.fn _ _]) rfl rfl rfl rfl (by repeat (first | exact Spl.z _ | apply Spl.t | apply Spl.d)) | apply Bld.cons (cs := _ :: _) rfl rfl rfl rfl (by repeat (first | exact Spl.z _ | apply Spl.t | apply Spl.d))))) ?_
                    refine rt_wk rfl (want_none rfl) (wr_store (cs := _ :: _) tok rfl rfl rfl rfl rfl rfl rfl rfl (by first | rfl | (simp [Cells.len] <;> omega)) (by first | rfl | exact data_get (map_at (by assumption)) | exact data_get (by assumption) | exact data_get (List.getElem?_set_self (by simp; omega)) | exact data_get (List.getElem?_set_self (by simpa using hlt))) (by repeat (first | exact Spl.z _ | apply Spl.t | apply Spl.d)) (by first | exact SetC.box _ _ | exact SetC.data _ _ (by repeat (first | exact AllD.nil | apply AllD.cons)) | exact SetC.av _ _ _) (by first | exact SetO.one _ _ | exact SetO.gen _ _ _)) ?_
                    refine rt_nil ?_
                    refine ⟨by kernel_rfl, ?_⟩
                    refine then_n ?_
                    refine aw_region_draw (is := [0, 1, 2, 3, 4, 5, 6, 8, 9, 10, 11, 12, 13, 14, 7, 15, 16, 17]) follows ?_
                    refine rt_lk rfl (want_none rfl) rfl (li_fieldAddr tok rfl rfl rfl rfl rfl rfl rfl (by first | rfl | (simp [Cells.len] <;> omega)) (by first | rfl | exact data_get (map_at (by assumption)) | exact data_get (by assumption) | exact data_get (List.getElem?_set_self (by simp; omega)) | exact data_get (List.getElem?_set_self (by simpa using hlt)))) rfl rfl rfl ?_
                    refine rt_lk rfl (want_none rfl) rfl (li_load1 tok rfl rfl rfl rfl (by first | rfl | (simp [Cells.len] <;> omega)) (by first | rfl | exact data_get (map_at (by assumption)) | exact data_get (by assumption) | exact data_get (List.getElem?_set_self (by simp; omega)) | exact data_get (List.getElem?_set_self (by simpa using hlt))) rfl) rfl rfl rfl ?_
                    refine rt_p rfl (want_none rfl) rfl (pu_move (r := .own _ _ _) rfl) ?_
                    refine rt_p rfl (want_none rfl) rfl (pu_move (r := .d _) rfl) ?_
                    refine rt_lk rfl (want_none rfl) rfl (li_index tok rfl rfl (by first | rfl | omega) (by first | omega) rfl rfl rfl rfl (by first | rfl | (simp [Cells.len] <;> omega)) rfl) rfl rfl rfl ?_
                    refine rt_lk rfl (want_none rfl) rfl (li_fieldAddr tok rfl rfl rfl rfl rfl rfl rfl (by first | rfl | (simp [Cells.len] <;> omega)) (by first | rfl | exact data_get (map_at (by assumption)) | exact data_get (by assumption) | exact data_get (List.getElem?_set_self (by simp; omega)) | exact data_get (List.getElem?_set_self (by simpa using hlt)))) rfl rfl rfl ?_
                    refine rt_lk rfl (want_none rfl) rfl (li_load1 tok rfl rfl rfl rfl (by first | rfl | (simp [Cells.len] <;> omega)) (by first | rfl | exact data_get (map_at (by assumption)) | exact data_get (by assumption) | exact data_get (List.getElem?_set_self (by simp; omega)) | exact data_get (List.getElem?_set_self (by simpa using hlt))) rfl) rfl rfl rfl ?_
                    refine rt_lk rfl (want_none rfl) rfl (li_fieldAddr tok rfl rfl rfl rfl rfl rfl rfl (by first | rfl | (simp [Cells.len] <;> omega)) (by first | rfl | exact data_get (map_at (by assumption)) | exact data_get (by assumption) | exact data_get (List.getElem?_set_self (by simp; omega)) | exact data_get (List.getElem?_set_self (by simpa using hlt)))) rfl rfl rfl ?_
                    refine rt_lk rfl (want_none rfl) rfl (li_load1 tok rfl rfl rfl rfl (by first | rfl | (simp [Cells.len] <;> omega)) (by first | rfl | exact data_get (map_at (by assumption)) | exact data_get (by assumption) | exact data_get (List.getElem?_set_self (by simp; omega)) | exact data_get (List.getElem?_set_self (by simpa using hlt))) rfl) rfl rfl rfl ?_
                    refine rt_p rfl (want_none rfl) rfl (pu_move (r := .own _ _ _) rfl) ?_
                    refine rt_p rfl (want_none rfl) rfl (pu_move (r := .d _) rfl) ?_
                    refine rt_lk rfl (want_none rfl) rfl (li_index tok rfl rfl (by first | rfl | omega) (by first | omega) rfl rfl rfl rfl (by first | rfl | (simp [Cells.len] <;> omega)) rfl) rfl rfl rfl ?_
                    refine rt_lk rfl (want_none rfl) rfl (li_fieldAddr tok rfl rfl rfl rfl rfl rfl rfl (by first | rfl | (simp [Cells.len] <;> omega)) (by first | rfl | exact data_get (map_at (by assumption)) | exact data_get (by assumption) | exact data_get (List.getElem?_set_self (by simp; omega)) | exact data_get (List.getElem?_set_self (by simpa using hlt)))) rfl rfl rfl ?_
                    refine rt_lk rfl (want_none rfl) rfl (li_load1 tok rfl rfl rfl rfl (by first | rfl | (simp [Cells.len] <;> omega)) (by first | rfl | exact data_get (map_at (by assumption)) | exact data_get (by assumption) | exact data_get (List.getElem?_set_self (by simp; omega)) | exact data_get (List.getElem?_set_self (by simpa using hlt))) rfl) rfl rfl rfl ?_
                    refine rt_c rfl (want_none rfl) rfl (sb_call 24 rfl rfl rfl (max_a _ _) (by repeat (first | exact abv_nil _ | exact abv_lks rfl | refine abv_upd ?_ rfl)) (by repeat (first | exact RenRL.nil | apply RenRL.cons | exact RenR.d _ | apply RenR.agg | apply RenR.tup | exact RenR.own _ _ _ _ rfl | exact RenR.ptr _ _ _ _ _ _ rfl | exact RenR.ref _ | apply RenR.fn | exact RenR.dead)) (by repeat (first | exact BirR.nil _ _ | (apply BirR.cons; (first | exact RenS.no | exact RenS.dead | exact RenS.data _ _ _ | (apply RenS.box; repeat (first | exact RenRL.nil | apply RenRL.cons | exact RenR.d _ | apply RenR.agg | apply RenR.tup | exact RenR.own _ _ _ _ rfl | exact RenR.ptr _ _ _ _ _ _ rfl | exact RenR.ref _ | apply RenR.fn | exact RenR.dead)) | exact RenS.gen _))))) ?_
                    refine rt_c rfl (want_none rfl) rfl (sb_call 28 rfl rfl rfl (max_a _ _) (by repeat (first | exact abv_nil _ | exact abv_lks rfl | refine abv_upd ?_ rfl)) (by repeat (first | exact RenRL.nil | apply RenRL.cons | exact RenR.d _ | apply RenR.agg | apply RenR.tup | exact RenR.own _ _ _ _ rfl | exact RenR.ptr _ _ _ _ _ _ rfl | exact RenR.ref _ | apply RenR.fn | exact RenR.dead)) (by repeat (first | exact BirR.nil _ _ | (apply BirR.cons; (first | exact RenS.no | exact RenS.dead | exact RenS.data _ _ _ | (apply RenS.box; repeat (first | exact RenRL.nil | apply RenRL.cons | exact RenR.d _ | apply RenR.agg | apply RenR.tup | exact RenR.own _ _ _ _ rfl | exact RenR.ptr _ _ _ _ _ _ rfl | exact RenR.ref _ | apply RenR.fn | exact RenR.dead)) | exact RenS.gen _))))) ?_
                    refine rt_p rfl (want_none rfl) rfl (pu_build (C0 := [.d (.v (.int .i64 0)), .d (.v (.int .i64 0))]) tok rfl rfl (by repeat (first | exact Plc.nil | apply Plc.cons rfl)) rfl (by repeat (first | exact Bld.nil _ | apply Bld.cons (cs := [.d _]) rfl rfl rfl rfl (by repeat (first | exact Spl.z _ | apply Spl.t | apply Spl.d)) | apply Bld.cons (cs := [.own _ _ _]) rfl rfl rfl rfl (by repeat (first | exact Spl.z _ | apply Spl.t | apply Spl.d)) | apply Bld.cons (cs := [.ptr _ _ _ _ _]) rfl rfl rfl rfl (by repeat (first | exact Spl.z _ | apply Spl.t | apply Spl.d)) | apply Bld.cons (cs := [.fn _ _]) rfl rfl rfl rfl (by repeat (first | exact Spl.z _ | apply Spl.t | apply Spl.d)) | apply Bld.cons (cs := _ :: _) rfl rfl rfl rfl (by repeat (first | exact Spl.z _ | apply Spl.t | apply Spl.d))))) ?_
                    refine rt_wk rfl (want_none rfl) (wr_store (cs := _ :: _) tok rfl rfl rfl rfl rfl rfl rfl rfl (by first | rfl | (simp [Cells.len] <;> omega)) (by first | rfl | exact data_get (map_at (by assumption)) | exact data_get (by assumption) | exact data_get (List.getElem?_set_self (by simp; omega)) | exact data_get (List.getElem?_set_self (by simpa using hlt))) (by repeat (first | exact Spl.z _ | apply Spl.t | apply Spl.d)) (by first | exact SetC.box _ _ | exact SetC.data _ _ (by repeat (first | exact AllD.nil | apply AllD.cons)) | exact SetC.av _ _ _) (by first | exact SetO.one _ _ | exact SetO.gen _ _ _)) ?_
                    refine rt_nil ?_
                    refine ⟨by kernel_rfl, ?_⟩
                    refine block_n ?_
                    refine then_n ?_
                    refine aw_region (is := [0, 1, 2]) rfl ?_
                    refine rt_p rfl (want_none rfl) rfl (pu_move (r := .d _) rfl) ?_
                    refine rt_p rfl (want_none rfl) rfl (pu_add rfl rfl (by omega) (by omega)) ?_
                    refine rt_p rfl (want_none rfl) rfl (pu_assign (r := .d _) rfl) ?_
                    refine rt_nil ?_
                    refine then_n ?_
                    refine ⟨⟨j + 1, by omega⟩, (by simp; omega), ?_⟩
                    (refine weak_of 200 (by repeat (first | exact abv_nil _ | exact abv_lks rfl | refine abv_upd ?_ rfl)) rfl (by repeat (first | exact WT.nil | refine WT.free_ rfl (by first | exact rfl | (exact eqI (by rw [bxP_succ _ hpt] <;> rfl)) | exact eqI (by omega) | exact eqI (by simp <;> fail) | exact eqI (by simp; omega) | exact eqOwn (by simp <;> fail) | exact eqOwn (by simp; omega) | (simp_all <;> fail)) ?_ | refine WT.ren_ (r' := _) rfl (by repeat (first | exact RenRL.nil | apply RenRL.cons | exact RenR.d _ | exact RenR.of_d (by first | (exact eqI (by rw [bxP_succ _ hpt] <;> rfl)) | exact eqI (by omega) | exact eqI (by simp <;> fail) | exact eqI (by simp; omega)) | apply RenR.agg | apply RenR.tup | exact RenR.own _ _ _ _ rfl | exact RenR.of_own (by first | rfl | (rw [hpe] <;> rfl) | (omega) | (simp <;> fail) | (simp; omega)) rfl | exact RenR.ptr _ _ _ _ _ _ rfl | exact RenR.ref _ | apply RenR.fn | exact RenR.dead)) ?_)) (by repeat (first | exact WH.nil _ | refine WH.data_ (by first | exact rfl | (exact eqI (by rw [bxP_succ _ hpt] <;> rfl)) | exact eqI (by omega) | exact eqI (by simp <;> fail) | exact eqI (by simp; omega) | exact eqOwn (by simp <;> fail) | exact eqOwn (by simp; omega) | (simp_all <;> fail)) ?_ | refine WH.cons (by first | exact rfl | (exact eqI (by rw [bxP_succ _ hpt] <;> rfl)) | exact eqI (by omega) | exact eqI (by simp <;> fail) | exact eqI (by simp; omega) | exact eqOwn (by simp <;> fail) | exact eqOwn (by simp; omega) | (simp_all <;> fail)) (by first | exact RenS.no | exact RenS.dead | exact RenS.data _ _ _ | (apply RenS.box; repeat (first | exact RenRL.nil | apply RenRL.cons | exact RenR.d _ | exact RenR.of_d (by first | (exact eqI (by rw [bxP_succ _ hpt] <;> rfl)) | exact eqI (by omega) | exact eqI (by simp <;> fail) | exact eqI (by simp; omega)) | apply RenR.agg | apply RenR.tup | exact RenR.own _ _ _ _ rfl | exact RenR.of_own (by first | rfl | (rw [hpe] <;> rfl) | (omega) | (simp <;> fail) | (simp; omega)) rfl | exact RenR.ptr _ _ _ _ _ _ rfl | exact RenR.ref _ | apply RenR.fn | exact RenR.dead)) | exact RenS.gen _) ?_)) rfl)
                  · exfalso; simp at hc; omega
                · skip
                  obtain rfl : j = (spPts s).length := by omega
                  refine aw_seq ?_
                  refine aw_seq ?_
                  refine aw_region (is := [0, 1, 2, 3]) rfl ?_
                  refine rt_p rfl (want_none rfl) rfl (pu_move (r := .d _) rfl) ?_
                  refine rt_p rfl (want_none rfl) rfl (pu_move (r := .own _ _ _) rfl) ?_
                  refine rt_l rfl (want_none rfl) rfl (li_len tok rfl rfl rfl rfl (by first | rfl | (simp [Cells.len] <;> omega))) ?_
                  refine rt_p rfl (want_none rfl) rfl (pu_lss rfl rfl) ?_
                  refine rt_nil ?_
                  refine then_n ?_
                  refine aw_condP _ rfl (fun hc => ?_) (fun hc => ?_)
                  · exfalso; simp at hc; done
                  · skip
                    try (have hd : drOk xs = true := by simpa using hc)
                    try (have hl0 : xs.length ≠ 0 := by omega)
                    first | (have hh0 := hs0; clear hh0) | (have hs00 := get0 hl0; obtain ⟨s0, hs0⟩ := hs00) | skip
                    try (have hsr := sh_r (dr_get hd hs) hc)
                    try (have hpe := sp1 hc)
                    try (have hpe := sp2 hc)
                    try (have hpe := sp3 ‹¬ s.K = 1› hc)
                    refine aw_exit ?_
                    refine then_e ?_
                    refine then_e ?_
                    refine block_hit ?_
                    refine block_n ?_
                    refine then_n ?_
                    refine aw_region (is := [0, 1, 2]) rfl ?_
                    refine rt_p rfl (want_none rfl) rfl (pu_move (r := .d _) rfl) ?_
                    refine rt_p rfl (want_none rfl) rfl (pu_add rfl rfl (by omega) (by omega)) ?_
                    refine rt_p rfl (want_none rfl) rfl (pu_assign (r := .d _) rfl) ?_
                    refine rt_nil ?_
                    refine then_n ?_
                    refine ⟨⟨k + 1, by omega⟩, (by simp; omega), ?_⟩
                    (refine weak_of 200 (by repeat (first | exact abv_nil _ | exact abv_lks rfl | refine abv_upd ?_ rfl)) rfl (by repeat (first | exact WT.nil | refine WT.free_ rfl (by first | exact rfl | (exact eqI (by rw [bxT_succ _ _ hs])) | exact eqI (by omega) | exact eqI (by simp <;> fail) | exact eqI (by simp; omega) | exact eqOwn (by simp <;> fail) | exact eqOwn (by simp; omega) | (simp_all <;> fail)) ?_ | refine WT.ren_ (r' := _) rfl (by repeat (first | exact RenRL.nil | apply RenRL.cons | exact RenR.d _ | exact RenR.of_d (by first | (exact eqI (by rw [bxT_succ _ _ hs])) | exact eqI (by omega) | exact eqI (by simp <;> fail) | exact eqI (by simp; omega)) | apply RenR.agg | apply RenR.tup | exact RenR.own _ _ _ _ rfl | exact RenR.of_own (by first | rfl | (omega) | (simp <;> fail) | (simp; omega)) rfl | exact RenR.ptr _ _ _ _ _ _ rfl | exact RenR.ref _ | apply RenR.fn | exact RenR.dead)) ?_)) (by repeat (first | exact WH.nil _ | refine WH.data_ (by first | exact rfl | (exact eqI (by rw [bxT_succ _ _ hs])) | exact eqI (by omega) | exact eqI (by simp <;> fail) | exact eqI (by simp; omega) | exact eqOwn (by simp <;> fail) | exact eqOwn (by simp; omega) | (simp_all <;> fail)) ?_ | refine WH.cons (by first | exact rfl | (exact eqI (by rw [bxT_succ _ _ hs])) | exact eqI (by omega) | exact eqI (by simp <;> fail) | exact eqI (by simp; omega) | exact eqOwn (by simp <;> fail) | exact eqOwn (by simp; omega) | (simp_all <;> fail)) (by first | exact RenS.no | exact RenS.dead | exact RenS.data _ _ _ | (apply RenS.box; repeat (first | exact RenRL.nil | apply RenRL.cons | exact RenR.d _ | exact RenR.of_d (by first | (exact eqI (by rw [bxT_succ _ _ hs])) | exact eqI (by omega) | exact eqI (by simp <;> fail) | exact eqI (by simp; omega)) | apply RenR.agg | apply RenR.tup | exact RenR.own _ _ _ _ rfl | exact RenR.of_own (by first | rfl | (omega) | (simp <;> fail) | (simp; omega)) rfl | exact RenR.ptr _ _ _ _ _ _ rfl | exact RenR.ref _ | apply RenR.fn | exact RenR.dead)) | exact RenS.gen _) ?_)) rfl)
            · skip
              try (have hd : drOk xs = true := by simpa using hc)
              try (have hl0 : xs.length ≠ 0 := by omega)
              first | (have hh0 := hs0; clear hh0) | (have hs00 := get0 hl0; obtain ⟨s0, hs0⟩ := hs00) | skip
              try (have hsr := sh_r (dr_get hd hs) hc)
              try (have hpe := sp1 hc)
              try (have hpe := sp2 hc)
              try (have hpe := sp3 ‹¬ s.K = 1› hc)
              refine aw_seq ?_
              refine aw_region (is := [0, 1]) rfl ?_
              refine rt_p rfl (want_none rfl) rfl (pu_eql rfl rfl) ?_
              refine rt_p rfl (want_none rfl) rfl (pu_assign (r := .d _) rfl) ?_
              refine rt_nil ?_
              refine then_n ?_
              refine aw_condP _ rfl (fun hc => ?_) (fun hc => ?_)
              · skip
                try (have hd : drOk xs = true := by simpa using hc)
                try (have hl0 : xs.length ≠ 0 := by omega)
                first | (have hh0 := hs0; clear hh0) | (have hs00 := get0 hl0; obtain ⟨s0, hs0⟩ := hs00) | skip
                try (have hsr := sh_r (dr_get hd hs) hc)
                try (have hpe := sp1 hc)
                try (have hpe := sp2 hc)
                try (have hpe := sp3 ‹¬ s.K = 1› hc)
                refine aw_region (is := [0, 1, 2, 3, 4, 5, 6, 7, 8, 9, 10, 11, 12, 13, 14, 15, 16, 17, 18, 19, 20, 21, 22, 23, 24, 25, 26, 27, 28, 29]) rfl ?_
                refine rt_p rfl (want_none rfl) rfl (pu_move (r := .own _ _ _) rfl) ?_
                refine rt_l rfl (want_none rfl) rfl (li_fieldAddr tok rfl rfl rfl rfl rfl rfl rfl (by first | rfl | (simp [Cells.len] <;> omega)) (by first | rfl | exact data_get (map_at (by assumption)) | exact data_get (by assumption) | exact data_get (List.getElem?_set_self (by simp; omega)) | exact data_get (List.getElem?_set_self (by simpa using hlt)))) ?_
                refine rt_l rfl (want_none rfl) rfl (li_fieldAddr tok rfl rfl rfl rfl rfl rfl rfl (by first | rfl | (simp [Cells.len] <;> omega)) (by first | rfl | exact data_get (map_at (by assumption)) | exact data_get (by assumption) | exact data_get (List.getElem?_set_self (by simp; omega)) | exact data_get (List.getElem?_set_self (by simpa using hlt)))) ?_
                refine rt_l rfl (want_none rfl) rfl (li_load1 tok rfl rfl rfl rfl (by first | rfl | (simp [Cells.len] <;> omega)) (by first | rfl | exact data_get (map_at (by assumption)) | exact data_get (by assumption) | exact data_get (List.getElem?_set_self (by simp; omega)) | exact data_get (List.getElem?_set_self (by simpa using hlt))) rfl) ?_
                refine rt_l rfl (want_none rfl) rfl (li_fieldAddr tok rfl rfl rfl rfl rfl rfl rfl (by first | rfl | (simp [Cells.len] <;> omega)) (by first | rfl | exact data_get (map_at (by assumption)) | exact data_get (by assumption) | exact data_get (List.getElem?_set_self (by simp; omega)) | exact data_get (List.getElem?_set_self (by simpa using hlt)))) ?_
                refine rt_l rfl (want_none rfl) rfl (li_load1 tok rfl rfl rfl rfl (by first | rfl | (simp [Cells.len] <;> omega)) (by first | rfl | exact data_get (map_at (by assumption)) | exact data_get (by assumption) | exact data_get (List.getElem?_set_self (by simp; omega)) | exact data_get (List.getElem?_set_self (by simpa using hlt))) rfl) ?_
                refine rt_p rfl (want_none rfl) rfl (pu_sub rfl rfl (by omega) (by omega)) ?_
                refine rt_l rfl (want_none rfl) rfl (li_fieldAddr tok rfl rfl rfl rfl rfl rfl rfl (by first | rfl | (simp [Cells.len] <;> omega)) (by first | rfl | exact data_get (map_at (by assumption)) | exact data_get (by assumption) | exact data_get (List.getElem?_set_self (by simp; omega)) | exact data_get (List.getElem?_set_self (by simpa using hlt)))) ?_
                refine rt_l rfl (want_none rfl) rfl (li_fieldAddr tok rfl rfl rfl rfl rfl rfl rfl (by first | rfl | (simp [Cells.len] <;> omega)) (by first | rfl | exact data_get (map_at (by assumption)) | exact data_get (by assumption) | exact data_get (List.getElem?_set_self (by simp; omega)) | exact data_get (List.getElem?_set_self (by simpa using hlt)))) ?_
                refine rt_l rfl (want_none rfl) rfl (li_load1 tok rfl rfl rfl rfl (by first | rfl | (simp [Cells.len] <;> omega)) (by first | rfl | exact data_get (map_at (by assumption)) | exact data_get (by assumption) | exact data_get (List.getElem?_set_self (by simp; omega)) | exact data_get (List.getElem?_set_self (by simpa using hlt))) rfl) ?_
                refine rt_l rfl (want_none rfl) rfl (li_fieldAddr tok rfl rfl rfl rfl rfl rfl rfl (by first | rfl | (simp [Cells.len] <;> omega)) (by first | rfl | exact data_get (map_at (by assumption)) | exact data_get (by assumption) | exact data_get (List.getElem?_set_self (by simp; omega)) | exact data_get (List.getElem?_set_self (by simpa using hlt)))) ?_
                refine rt_l rfl (want_none rfl) rfl (li_load1 tok rfl rfl rfl rfl (by first | rfl | (simp [Cells.len] <;> omega)) (by first | rfl | exact data_get (map_at (by assumption)) | exact data_get (by assumption) | exact data_get (List.getElem?_set_self (by simp; omega)) | exact data_get (List.getElem?_set_self (by simpa using hlt))) rfl) ?_
                refine rt_p rfl (want_none rfl) rfl (pu_sub rfl rfl (by omega) (by omega)) ?_
                refine rt_p rfl (want_none rfl) rfl (pu_build (C0 := [.d (.v (.int .i64 0)), .d (.v (.int .i64 0))]) tok rfl rfl (by repeat (first | exact Plc.nil | apply Plc.cons rfl)) rfl (by repeat (first | exact Bld.nil _ | apply Bld.cons (cs := [.d _]) rfl rfl rfl rfl (by repeat (first | exact Spl.z _ | apply Spl.t | apply Spl.d)) | apply Bld.cons (cs := [.own _ _ _]) rfl rfl rfl rfl (by repeat (first | exact Spl.z _ | apply Spl.t | apply Spl.d)) | apply Bld.cons (cs := [.ptr _ _ _ _ _]) rfl rfl rfl rfl (by repeat (first | exact Spl.z _ | apply Spl.t | apply Spl.d)) | apply Bld.cons (cs := [.fn _ _]) rfl rfl rfl rfl (by repeat (first | exact Spl.z _ | apply Spl.t | apply Spl.d)) | apply Bld.cons (cs := _ :: _) rfl rfl rfl rfl (by repeat (first | exact Spl.z _ | apply Spl.t | apply Spl.d))))) ?_
                refine rt_l rfl (want_none rfl) rfl (li_fieldAddr tok rfl rfl rfl rfl rfl rfl rfl (by first | rfl | (simp [Cells.len] <;> omega)) (by first | rfl | exact data_get (map_at (by assumption)) | exact data_get (by assumption) | exact data_get (List.getElem?_set_self (by simp; omega)) | exact data_get (List.getElem?_set_self (by simpa using hlt)))) ?_
                refine rt_l rfl (want_none rfl) rfl (li_fieldAddr tok rfl rfl rfl rfl rfl rfl rfl (by first | rfl | (simp [Cells.len] <;> omega)) (by first | rfl | exact data_get (map_at (by assumption)) | exact data_get (by assumption) | exact data_get (List.getElem?_set_self (by simp; omega)) | exact data_get (List.getElem?_set_self (by simpa using hlt)))) ?_
                refine rt_l rfl (want_none rfl) rfl (li_load1 tok rfl rfl rfl rfl (by first | rfl | (simp [Cells.len] <;> omega)) (by first | rfl | exact data_get (map_at (by assumption)) | exact data_get (by assumption) | exact data_get (List.getElem?_set_self (by simp; omega)) | exact data_get (List.getElem?_set_self (by simpa using hlt))) rfl) ?_
                refine rt_l rfl (want_none rfl) rfl (li_fieldAddr tok rfl rfl rfl rfl rfl rfl rfl (by first | rfl | (simp [Cells.len] <;> omega)) (by first | rfl | exact data_get (map_at (by assumption)) | exact data_get (by assumption) | exact data_get (List.getElem?_set_self (by simp; omega)) | exact data_get (List.getElem?_set_self (by simpa using hlt)))) ?_
                refine rt_l rfl (want_none rfl) rfl (li_load1 tok rfl rfl rfl rfl (by first | rfl | (simp [Cells.len] <;> omega)) (by first | rfl | exact data_get (map_at (by assumption)) | exact data_get (by assumption) | exact data_get (List.getElem?_set_self (by simp; omega)) | exact data_get (List.getElem?_set_self (by simpa using hlt))) rfl) ?_
                refine rt_p rfl (want_none rfl) rfl (pu_add rfl rfl (by omega) (by omega)) ?_
                refine rt_l rfl (want_none rfl) rfl (li_fieldAddr tok rfl rfl rfl rfl rfl rfl rfl (by first | rfl | (simp [Cells.len] <;> omega)) (by first | rfl | exact data_get (map_at (by assumption)) | exact data_get (by assumption) | exact data_get (List.getElem?_set_self (by simp; omega)) | exact data_get (List.getElem?_set_self (by simpa using hlt)))) ?_
                refine rt_l rfl (want_none rfl) rfl (li_fieldAddr tok rfl rfl rfl rfl rfl rfl rfl (by first | rfl | (simp [Cells.len] <;> omega)) (by first | rfl | exact data_get (map_at (by assumption)) | exact data_get (by assumption) | exact data_get (List.getElem?_set_self (by simp; omega)) | exact data_get (List.getElem?_set_self (by simpa using hlt)))) ?_
                refine rt_l rfl (want_none rfl) rfl (li_load1 tok rfl rfl rfl rfl (by first | rfl | (simp [Cells.len] <;> omega)) (by first | rfl | exact data_get (map_at (by assumption)) | exact data_get (by assumption) | exact data_get (List.getElem?_set_self (by simp; omega)) | exact data_get (List.getElem?_set_self (by simpa using hlt))) rfl) ?_
                refine rt_l rfl (want_none rfl) rfl (li_fieldAddr tok rfl rfl rfl rfl rfl rfl rfl (by first | rfl | (simp [Cells.len] <;> omega)) (by first | rfl | exact data_get (map_at (by assumption)) | exact data_get (by assumption) | exact data_get (List.getElem?_set_self (by simp; omega)) | exact data_get (List.getElem?_set_self (by simpa using hlt)))) ?_
                refine rt_l rfl (want_none rfl) rfl (li_load1 tok rfl rfl rfl rfl (by first | rfl | (simp [Cells.len] <;> omega)) (by first | rfl | exact data_get (map_at (by assumption)) | exact data_get (by assumption) | exact data_get (List.getElem?_set_self (by simp; omega)) | exact data_get (List.getElem?_set_self (by simpa using hlt))) rfl) ?_
                refine rt_p rfl (want_none rfl) rfl (pu_add rfl rfl (by omega) (by omega)) ?_
                refine rt_p rfl (want_none rfl) rfl (pu_build (C0 := [.d (.v (.int .i64 0)), .d (.v (.int .i64 0))]) tok rfl rfl (by repeat (first | exact Plc.nil | apply Plc.cons rfl)) rfl (by repeat (first | exact Bld.nil _ | apply Bld.cons (cs := [.d _]) rfl rfl rfl rfl (by repeat (first | exact Spl.z _ | apply Spl.t | apply Spl.d)) | apply Bld.cons (cs := [.own _ _ _]) rfl rfl rfl rfl (by repeat (first | exact Spl.z _ | apply Spl.t | apply Spl.d)) | apply Bld.cons (cs := [.ptr _ _ _ _ _]) rfl rfl rfl rfl (by repeat (first | exact Spl.z _ | apply Spl.t | apply Spl.d)) | apply Bld.cons (cs := [.fn _ _]) rfl rfl rfl rfl (by repeat (first | exact Spl.z _ | apply Spl.t | apply Spl.d)) | apply Bld.cons (cs := _ :: _) rfl rfl rfl rfl (by repeat (first | exact Spl.z _ | apply Spl.t | apply Spl.d))))) ?_
                refine rt_s rfl (want_none rfl) rfl (st_slice 32 tok rfl rfl rfl (by repeat (first | exact Els.nil _ | apply Els.cons (cs := [.d _]) rfl rfl rfl | apply Els.cons (cs := [.own _ _ _]) rfl rfl rfl | apply Els.cons (cs := [.ptr _ _ _ _ _]) rfl rfl rfl | apply Els.cons (cs := [.fn _ _]) rfl rfl rfl | apply Els.cons (cs := _ :: _) rfl rfl rfl)) rfl rfl rfl (by first | exact Lay.data (by repeat (first | exact AllDD.nil | (apply AllDD.cons; (repeat (first | exact AllD.nil | apply AllD.cons))))) | exact Lay.av _) rfl) ?_
                refine rt_w rfl (want_none rfl) rfl (wr_append_own tok rfl rfl rfl rfl rfl rfl rfl rfl rfl (by first | rfl | (simp [Cells.len] <;> omega)) rfl rfl rfl (by first | rfl | (simp [Cells.len] <;> omega)) rfl (by first | trivial | simp [Cells.oks, okL, ok1]) (by first | exact App.data _ _ | exact App.av _ _ | exact App.nil _) (by first | exact SetO.one _ _ | exact SetO.gen _ _ _) (by first | omega | (simp <;> omega)) (by first | omega | (simp <;> omega))) ?_
                refine rt_p rfl (want_none rfl) rfl (pu_assign (r := .own _ _ _) rfl) ?_
                refine rt_nil ?_
                refine block_n ?_
                refine then_n ?_
                refine aw_seq ?_
                refine aw_region (is := [0]) rfl ?_
                refine rt_p rfl (want_none rfl) rfl (pu_assign (r := .d _) rfl) ?_
                refine rt_nil ?_
                refine then_n ?_
                refine aw_block ?_
                refine aw_loop (ι := {j : Nat // j ≤ (spPts s).length}) (fun q => ⟨updA (updA (updA (updA (updA (updA (updA (updA (updA (updA (updA (updA ((fun _ => .dead)) 1 (.ptr 3 0 1 0 0)) 2 (.ptr 4 0 1 0 0)) 3 (.ptr 5 0 1 0 0)) 4 (.d (.v (.int .i64 0)))) 5 (.ptr 10 0 1 0 0)) 6 (.ptr 11 0 1 0 0)) 7 (.d (.v (.int .i64 (k))))) 8 (.ptr 12 0 1 0 0)) 9 (.own 13 0 (spPts s).length)) 10 (.d (.v (.int .i64 (q.1))))) 28 (.d (.v (.int .i64 (k))))) 37 (.d (.v (.int .i64 (k)))), lks [.no, .no, .no, .live [⟨29, 1, .av [[.d (.sl (shpsD xs))]]⟩], .live [⟨39, 2, .av [[.d (.v (.int .i64 0)), .d (.v (.int .i64 0))]]⟩], .live [⟨39, 2, .av [[.d (.v (.int .i64 0)), .d (.v (.int .i64 0))]]⟩], .no, .no, .no, .no, .live [⟨39, 2, .av [[.d (.v (.int .i64 ((bxP (bxT spPts (a0 xs) xs k) (spPts s) q.1).lx))), .d (.v (.int .i64 ((bxP (bxT spPts (a0 xs) xs k) (spPts s) q.1).ly)))]]⟩], .live [⟨39, 2, .av [[.d (.v (.int .i64 ((bxP (bxT spPts (a0 xs) xs k) (spPts s) q.1).hx))), .d (.v (.int .i64 ((bxP (bxT spPts (a0 xs) xs k) (spPts s) q.1).hy)))]]⟩], .live [⟨80, 7, .av [[.d (.v (.int .i64 (s.K))), .d (.v (.int .i64 (s.AX))), .d (.v (.int .i64 (s.AY))), .d (.v (.int .i64 (s.BX))), .d (.v (.int .i64 (s.BY))), .d (.v (.int .i64 (s.R))), .d (.v (.string (s.N)))]]⟩], .live [⟨39, 2, .data (ptsD (spPts s))⟩]]⟩) (fun q => (spPts s).length - q.1) ⟨0, by omega⟩ ?_ ?_
                · (refine weak_of 200 (by repeat (first | exact abv_nil _ | exact abv_lks rfl | refine abv_upd ?_ rfl)) rfl (by repeat (first | exact WT.nil | refine WT.free_ rfl (by first | exact rfl | (exact eqI rfl) | (exact eqData (by rw [hpe] <;> rfl)) | exact eqI (by omega) | exact eqI (by simp <;> fail) | exact eqI (by simp; omega) | exact eqOwn (by simp <;> fail) | exact eqOwn (by simp; omega) | (simp_all <;> fail)) ?_ | refine WT.ren_ (r' := _) rfl (by repeat (first | exact RenRL.nil | apply RenRL.cons | exact RenR.d _ | exact RenR.of_d (by first | (exact eqI rfl) | (exact eqData (by rw [hpe] <;> rfl)) | exact eqI (by omega) | exact eqI (by simp <;> fail) | exact eqI (by simp; omega)) | apply RenR.agg | apply RenR.tup | exact RenR.own _ _ _ _ rfl | exact RenR.of_own (by first | rfl | (rw [hpe] <;> rfl) | (omega) | (simp <;> fail) | (simp; omega)) rfl | exact RenR.ptr _ _ _ _ _ _ rfl | exact RenR.ref _ | apply RenR.fn | exact RenR.dead)) ?_)) (by repeat (first | exact WH.nil _ | refine WH.data_ (by first | exact rfl | (exact eqI rfl) | (exact eqData (by rw [hpe] <;> rfl)) | exact eqI (by omega) | exact eqI (by simp <;> fail) | exact eqI (by simp; omega) | exact eqOwn (by simp <;> fail) | exact eqOwn (by simp; omega) | (simp_all <;> fail)) ?_ | refine WH.cons (by first | exact rfl | (exact eqI rfl) | (exact eqData (by rw [hpe] <;> rfl)) | exact eqI (by omega) | exact eqI (by simp <;> fail) | exact eqI (by simp; omega) | exact eqOwn (by simp <;> fail) | exact eqOwn (by simp; omega) | (simp_all <;> fail)) (by first | exact RenS.no | exact RenS.dead | exact RenS.data _ _ _ | (apply RenS.box; repeat (first | exact RenRL.nil | apply RenRL.cons | exact RenR.d _ | exact RenR.of_d (by first | (exact eqI rfl) | (exact eqData (by rw [hpe] <;> rfl)) | exact eqI (by omega) | exact eqI (by simp <;> fail) | exact eqI (by simp; omega)) | apply RenR.agg | apply RenR.tup | exact RenR.own _ _ _ _ rfl | exact RenR.of_own (by first | rfl | (rw [hpe] <;> rfl) | (omega) | (simp <;> fail) | (simp; omega)) rfl | exact RenR.ptr _ _ _ _ _ _ rfl | exact RenR.ref _ | apply RenR.fn | exact RenR.dead)) | exact RenS.gen _) ?_)) rfl)
                · rintro ⟨j, hj⟩
                  have hpl := pts_len s
                  rcases Nat.lt_or_ge j (spPts s).length with hjl | hjg
                  · skip
                    obtain ⟨pt, hpt⟩ : ∃ p, (spPts s)[j]? = some p := ⟨_, List.getElem?_eq_getElem hjl⟩
                    refine aw_seq ?_
                    refine aw_seq ?_
                    refine aw_region (is := [0, 1, 2, 3]) rfl ?_
                    refine rt_p rfl (want_none rfl) rfl (pu_move (r := .d _) rfl) ?_
                    refine rt_p rfl (want_none rfl) rfl (pu_move (r := .own _ _ _) rfl) ?_
                    refine rt_l rfl (want_none rfl) rfl (li_len tok rfl rfl rfl rfl (by first | rfl | (simp [Cells.len] <;> omega))) ?_
                    refine rt_p rfl (want_none rfl) rfl (pu_lss rfl rfl) ?_
                    refine rt_nil ?_
                    refine then_n ?_
                    refine aw_condP _ rfl (fun hc => ?_) (fun hc => ?_)
                    · skip
                      try (have hd : drOk xs = true := by simpa using hc)
                      try (have hl0 : xs.length ≠ 0 := by omega)
                      first | (have hh0 := hs0; clear hh0) | (have hs00 := get0 hl0; obtain ⟨s0, hs0⟩ := hs00) | skip
                      try (have hsr := sh_r (dr_get hd hs) hc)
                      try (have hpe := sp1 hc)
                      try (have hpe := sp2 hc)
                      try (have hpe := sp3 ‹¬ s.K = 1› hc)
                      refine aw_skip ?_
                      refine then_n ?_
                      refine aw_seq ?_
                      refine aw_block ?_
                      refine aw_seq ?_
                      refine aw_region_draw (is := [0, 1, 2, 3, 4, 5, 6, 8, 9, 10, 11, 12, 13, 14, 7, 15, 16, 17]) follows ?_
                      refine rt_lk rfl (want_none rfl) rfl (li_fieldAddr tok rfl rfl rfl rfl rfl rfl rfl (by first | rfl | (simp [Cells.len] <;> omega)) (by first | rfl | exact data_get (map_at (by assumption)) | exact data_get (by assumption) | exact data_get (List.getElem?_set_self (by simp; omega)) | exact data_get (List.getElem?_set_self (by simpa using hlt)))) rfl rfl rfl ?_
                      refine rt_lk rfl (want_none rfl) rfl (li_load1 tok rfl rfl rfl rfl (by first | rfl | (simp [Cells.len] <;> omega)) (by first | rfl | exact data_get (map_at (by assumption)) | exact data_get (by assumption) | exact data_get (List.getElem?_set_self (by simp; omega)) | exact data_get (List.getElem?_set_self (by simpa using hlt))) rfl) rfl rfl rfl ?_
                      refine rt_p rfl (want_none rfl) rfl (pu_move (r := .own _ _ _) rfl) ?_
                      refine rt_p rfl (want_none rfl) rfl (pu_move (r := .d _) rfl) ?_
                      refine rt_lk rfl (want_none rfl) rfl (li_index tok rfl rfl (by first | rfl | omega) (by first | omega) rfl rfl rfl rfl (by first | rfl | (simp [Cells.len] <;> omega)) rfl) rfl rfl rfl ?_
                      refine rt_lk rfl (want_none rfl) rfl (li_fieldAddr tok rfl rfl rfl rfl rfl rfl rfl (by first | rfl | (simp [Cells.len] <;> omega)) (by first | rfl | exact data_get (map_at (by assumption)) | exact data_get (by assumption) | exact data_get (List.getElem?_set_self (by simp; omega)) | exact data_get (List.getElem?_set_self (by simpa using hlt)))) rfl rfl rfl ?_
                      refine rt_lk rfl (want_none rfl) rfl (li_load1 tok rfl rfl rfl rfl (by first | rfl | (simp [Cells.len] <;> omega)) (by first | rfl | exact data_get (map_at (by assumption)) | exact data_get (by assumption) | exact data_get (List.getElem?_set_self (by simp; omega)) | exact data_get (List.getElem?_set_self (by simpa using hlt))) rfl) rfl rfl rfl ?_
                      refine rt_lk rfl (want_none rfl) rfl (li_fieldAddr tok rfl rfl rfl rfl rfl rfl rfl (by first | rfl | (simp [Cells.len] <;> omega)) (by first | rfl | exact data_get (map_at (by assumption)) | exact data_get (by assumption) | exact data_get (List.getElem?_set_self (by simp; omega)) | exact data_get (List.getElem?_set_self (by simpa using hlt)))) rfl rfl rfl ?_
                      refine rt_lk rfl (want_none rfl) rfl (li_load1 tok rfl rfl rfl rfl (by first | rfl | (simp [Cells.len] <;> omega)) (by first | rfl | exact data_get (map_at (by assumption)) | exact data_get (by assumption) | exact data_get (List.getElem?_set_self (by simp; omega)) | exact data_get (List.getElem?_set_self (by simpa using hlt))) rfl) rfl rfl rfl ?_
                      refine rt_p rfl (want_none rfl) rfl (pu_move (r := .own _ _ _) rfl) ?_
                      refine rt_p rfl (want_none rfl) rfl (pu_move (r := .d _) rfl) ?_
                      refine rt_lk rfl (want_none rfl) rfl (li_index tok rfl rfl (by first | rfl | omega) (by first | omega) rfl rfl rfl rfl (by first | rfl | (simp [Cells.len] <;> omega)) rfl) rfl rfl rfl ?_
                      refine rt_lk rfl (want_none rfl) rfl (li_fieldAddr tok rfl rfl rfl rfl rfl rfl rfl (by first | rfl | (simp [Cells.len] <;> omega)) (by first | rfl | exact data_get (map_at (by assumption)) | exact data_get (by assumption) | exact data_get (List.getElem?_set_self (by simp; omega)) | exact data_get (List.getElem?_set_self (by simpa using hlt)))) rfl rfl rfl ?_
                      refine rt_lk rfl (want_none rfl) rfl (li_load1 tok rfl rfl rfl rfl (by first | rfl | (simp [Cells.len] <;> omega)) (by first | rfl | exact data_get (map_at (by assumption)) | exact data_get (by assumption) | exact data_get (List.getElem?_set_self (by simp; omega)) | exact data_get (List.getElem?_set_self (by simpa using hlt))) rfl) rfl rfl rfl ?_
                      refine rt_c rfl (want_none rfl) rfl (sb_call 16 rfl rfl rfl (min_a _ _) (by repeat (first | exact abv_nil _ | exact abv_lks rfl | refine abv_upd ?_ rfl)) (by repeat (first | exact RenRL.nil | apply RenRL.cons | exact RenR.d _ | apply RenR.agg | apply RenR.tup | exact RenR.own _ _ _ _ rfl | exact RenR.ptr _ _ _ _ _ _ rfl | exact RenR.ref _ | apply RenR.fn | exact RenR.dead)) (by repeat (first | exact BirR.nil _ _ | (apply BirR.cons; (first | exact RenS.no | exact RenS.dead | exact RenS.data _ _ _ | (apply RenS.box; repeat (first | exact RenRL.nil | apply RenRL.cons | exact RenR.d _ | apply RenR.agg | apply RenR.tup | exact RenR.own _ _ _ _ rfl | exact RenR.ptr _ _ _ _ _ _ rfl | exact RenR.ref _ | apply RenR.fn | exact RenR.dead)) | exact RenS.gen _))))) ?_
                      refine rt_c rfl (want_none rfl) rfl (sb_call 20 rfl rfl rfl (min_a _ _) (by repeat (first | exact abv_nil _ | exact abv_lks rfl | refine abv_upd ?_ rfl)) (by repeat (first | exact RenRL.nil | apply RenRL.cons | exact RenR.d _ | apply RenR.agg | apply RenR.tup | exact RenR.own _ _ _ _ rfl | exact RenR.ptr _ _ _ _ _ _ rfl | exact RenR.ref _ | apply RenR.fn | exact RenR.dead)) (by repeat (first | exact BirR.nil _ _ | (apply BirR.cons; (first | exact RenS.no | exact RenS.dead | exact RenS.data _ _ _ | (apply RenS.box; repeat (first | exact RenRL.nil | apply RenRL.cons | exact RenR.d _ | apply RenR.agg | apply RenR.tup | exact RenR.own _ _ _ _ rfl | exact RenR.ptr _ _ _ _ _ _ rfl | exact RenR.ref _ | apply RenR.fn | exact RenR.dead)) | exact RenS.gen _))))) ?_
                      refine rt_p rfl (want_none rfl) rfl (pu_build (C0 := [.d (.v (.int .i64 0)), .d (.v (.int .i64 0))]) tok rfl rfl (by repeat (first | exact Plc.nil | apply Plc.cons rfl)) rfl (by repeat (first | exact Bld.nil _ | apply Bld.cons (cs := [.d _]) rfl rfl rfl rfl (by repeat (first | exact Spl.z _ | apply Spl.t | apply Spl.d)) | apply Bld.cons (cs := [.own _ _ _]) rfl rfl rfl rfl (by repeat (first | exact Spl.z _ | apply Spl.t | apply Spl.d)) | apply Bld.cons (cs := [.ptr _ _ _ _ _]) rfl rfl rfl rfl (by repeat (first | exact Spl.z _ | apply Spl.t | apply Spl.d)) | apply Bld.cons (cs := [.fn _ _]) rfl rfl rfl rfl (by repeat (first | exact Spl.z _ | apply Spl.t | apply Spl.d)) | apply Bld.cons (cs := _ :: _) rfl rfl rfl rfl (by repeat (first | exact Spl.z _ | apply Spl.t | apply Spl.d))))) ?_
                      refine rt_wk rfl (want_none rfl) (wr_store (cs := _ :: _) tok rfl rfl rfl rfl rfl rfl rfl rfl (by first | rfl | (simp [Cells.len] <;> omega)) (by first | rfl | exact data_get (map_at (by assumption)) | exact data_get (by assumption) | exact data_get (List.getElem?_set_self (by simp; omega)) | exact data_get (List.getElem?_set_self (by simpa using hlt))) (by repeat (first | exact Spl.z _ | apply Spl.t | apply Spl.d)) (by first | exact SetC.box _ _ | exact SetC.data _ _ (by repeat (first | exact AllD.nil | apply AllD.cons)) | exact SetC.av _ _ _) (by first | exact SetO.one _ _ | exact SetO.gen _ _ _)) ?_
                      refine rt_nil ?_
                      refine ⟨by kernel_rfl, ?_⟩
                      refine then_n ?_
                      refine aw_region_draw (is := [0, 1, 2, 3, 4, 5, 6, 8, 9, 10, 11, 12, 13, 14, 7, 15, 16, 17]) follows ?_
                      refine rt_lk rfl (want_none rfl) rfl (li_fieldAddr tok rfl rfl rfl rfl rfl rfl rfl (by first | rfl | (simp [Cells.len] <;> omega)) (by first | rfl | exact data_get (map_at (by assumption)) | exact data_get (by assumption) | exact data_get (List.getElem?_set_self (by simp; omega)) | exact data_get (List.getElem?_set_self (by simpa using hlt)))) rfl rfl rfl ?_
                      refine rt_lk rfl (want_none rfl) rfl (li_load1 tok rfl rfl rfl rfl (by first | rfl | (simp [Cells.len] <;> omega)) (by first | rfl | exact data_get (map_at (by assumption)) | exact data_get (by assumption) | exact data_get (List.getElem?_set_self (by simp; omega)) | exact data_get (List.getElem?_set_self (by simpa using hlt))) rfl) rfl rfl rfl ?_
                      refine rt_p rfl (want_none rfl) rfl (pu_move (r := .own _ _ _) rfl) ?_
                      refine rt_p rfl (want_none rfl) rfl (pu_move (r := .d _) rfl) ?_
                      refine rt_lk rfl (want_none rfl) rfl (li_index tok rfl rfl (by first | rfl | omega) (by first | omega) rfl rfl rfl rfl (by first | rfl | (simp [Cells.len] <;> omega)) rfl) rfl rfl rfl ?_
                      refine rt_lk rfl (want_none rfl) rfl (li_fieldAddr tok rfl rfl rfl rfl rfl rfl rfl (by first | rfl | (simp [Cells.len] <;> omega)) (by first | rfl | exact data_get (map_at (by assumption)) | exact data_get (by assumption) | exact data_get (List.getElem?_set_self (by simp; omega)) | exact data_get (List.getElem?_set_self (by simpa using hlt)))) rfl rfl rfl ?_
                      refine rt_lk rfl (want_none rfl) rfl (li_load1 tok rfl rfl rfl rfl (by first | rfl | (simp [Cells.len] <;> omega)) (by first | rfl | exact data_get (map_at (by assumption)) | exact data_get (by assumption) | exact data_get (List.getElem?_set_self (by simp; omega)) | exact data_get (List.getElem?_set_self (by simpa using hlt))) rfl) rfl rfl rfl ?_
                      refine rt_lk rfl (want_none rfl) rfl (li_fieldAddr tok rfl rfl rfl rfl rfl rfl rfl (by first | rfl | (simp [Cells.len] <;> omega)) (by first | rfl | exact data_get (map_at (by assumption)) | exact data_get (by assumption) | exact data_get (List.getElem?_set_self (by simp; omega)) | exact data_get (List.getElem?_set_self (by simpa using hlt)))) rfl rfl rfl ?_
                      refine rt_lk rfl (want_none rfl) rfl (li_load1 tok rfl rfl rfl rfl (by first | rfl | (simp [Cells.len] <;> omega)) (by first | rfl | exact data_get (map_at (by assumption)) | exact data_get (by assumption) | exact data_get (List.getElem?_set_self (by simp; omega)) | exact data_get (List.getElem?_set_self (by simpa using hlt))) rfl) rfl rfl rfl ?_
                      refine rt_p rfl (want_none rfl) rfl (pu_move (r := .own _ _ _) rfl) ?_
                      refine rt_p rfl (want_none rfl) rfl (pu_move (r := .d _) rfl) ?_
                      refine rt_lk rfl (want_none rfl) rfl (li_index tok rfl rfl (by first | rfl | omega) (by first | omega) rfl rfl rfl rfl (by first | rfl | (simp [Cells.len] <;> omega)) rfl) rfl rfl rfl ?_
                      refine rt_lk rfl (want_none rfl) rfl (li_fieldAddr tok rfl rfl rfl rfl rfl rfl rfl (by first | rfl | (simp [Cells.len] <;> omega)) (by first | rfl | exact data_get (map_at (by assumption)) | exact data_get (by assumption) | exact data_get (List.getElem?_set_self (by simp; omega)) | exact data_get (List.getElem?_set_self (by simpa using hlt)))) rfl rfl rfl ?_
                      refine rt_lk rfl (want_none rfl) rfl (li_load1 tok rfl rfl rfl rfl (by first | rfl | (simp [Cells.len] <;> omega)) (by first | rfl | exact data_get (map_at (by assumption)) | exact data_get (by assumption) | exact data_get (List.getElem?_set_self (by simp; omega)) | exact data_get (List.getElem?_set_self (by simpa using hlt))) rfl) rfl rfl rfl ?_
                      refine rt_c rfl (want_none rfl) rfl (sb_call 24 rfl rfl rfl (max_a _ _) (by repeat (first | exact abv_nil _ | exact abv_lks rfl | refine abv_upd ?_ rfl)) (by repeat (first | exact RenRL.nil | apply RenRL.cons | exact RenR.d _ | apply RenR.agg | apply RenR.tup | exact RenR.own _ _ _ _ rfl | exact RenR.ptr _ _ _ _ _ _ rfl | exact RenR.ref _ | apply RenR.fn | exact RenR.dead)) (by repeat (first | exact BirR.nil _ _ | (apply BirR.cons; (first | exact RenS.no | exact RenS.dead | exact RenS.data _ _ _ | (apply RenS.box; repeat (first | exact RenRL.nil | apply RenRL.cons | exact RenR.d _ | apply RenR.agg | apply RenR.tup | exact RenR.own _ _ _ _ rfl | exact RenR.ptr _ _ _ _ _ _ rfl | exact RenR.ref _ | apply RenR.fn | exact RenR.dead)) | exact RenS.gen _))))) ?_
                      refine rt_c rfl (want_none rfl) rfl (sb_call 28 rfl rfl rfl (max_a _ _) (by repeat (first | exact abv_nil _ | exact abv_lks rfl | refine abv_upd ?_ rfl)) (by repeat (first | exact RenRL.nil | apply RenRL.cons | exact RenR.d _ | apply RenR.agg | apply RenR.tup | exact RenR.own _ _ _ _ rfl | exact RenR.ptr _ _ _ _ _ _ rfl | exact RenR.ref _ | apply RenR.fn | exact RenR.dead)) (by repeat (first | exact BirR.nil _ _ | (apply BirR.cons; (first | exact RenS.no | exact RenS.dead | exact RenS.data _ _ _ | (apply RenS.box; repeat (first | exact RenRL.nil | apply RenRL.cons | exact RenR.d _ | apply RenR.agg | apply RenR.tup | exact RenR.own _ _ _ _ rfl | exact RenR.ptr _ _ _ _ _ _ rfl | exact RenR.ref _ | apply RenR.fn | exact RenR.dead)) | exact RenS.gen _))))) ?_
                      refine rt_p rfl (want_none rfl) rfl (pu_build (C0 := [.d (.v (.int .i64 0)), .d (.v (.int .i64 0))]) tok rfl rfl (by repeat (first | exact Plc.nil | apply Plc.cons rfl)) rfl (by repeat (first | exact Bld.nil _ | apply Bld.cons (cs := [.d _]) rfl rfl rfl rfl (by repeat (first | exact Spl.z _ | apply Spl.t | apply Spl.d)) | apply Bld.cons (cs := [.own _ _ _]) rfl rfl rfl rfl (by repeat (first | exact Spl.z _ | apply Spl.t | apply Spl.d)) | apply Bld.cons (cs := [.ptr _ _ _ _ _]) rfl rfl rfl rfl (by repeat (first | exact Spl.z _ | apply Spl.t | apply Spl.d)) | apply Bld.cons (cs := [.fn _ _]) rfl rfl rfl rfl (by repeat (first | exact Spl.z _ | apply Spl.t | apply Spl.d)) | apply Bld.cons (cs := _ :: _) rfl rfl rfl rfl (by repeat (first | exact Spl.z _ | apply Spl.t | apply Spl.d))))) ?_
                      refine rt_wk rfl (want_none rfl) (wr_store (cs := _ :: _) tok rfl rfl rfl rfl rfl rfl rfl rfl (by first | rfl | (simp [Cells.len] <;> omega)) (by first | rfl | exact data_get (map_at (by assumption)) | exact data_get (by assumption) | exact data_get (List.getElem?_set_self (by simp; omega)) | exact data_get (List.getElem?_set_self (by simpa using hlt))) (by repeat (first | exact Spl.z _ | apply Spl.t | apply Spl.d)) (by first | exact SetC.box _ _ | exact SetC.data _ _ (by repeat (first | exact AllD.nil | apply AllD.cons)) | exact SetC.av _ _ _) (by first | exact SetO.one _ _ | exact SetO.gen _ _ _)) ?_
                      refine rt_nil ?_
                      refine ⟨by kernel_rfl, ?_⟩
                      refine block_n ?_
                      refine then_n ?_
                      refine aw_region (is := [0, 1, 2]) rfl ?_
                      refine rt_p rfl (want_none rfl) rfl (pu_move (r := .d _) rfl) ?_
                      refine rt_p rfl (want_none rfl) rfl (pu_add rfl rfl (by omega) (by omega)) ?_
                      refine rt_p rfl (want_none rfl) rfl (pu_assign (r := .d _) rfl) ?_
                      refine rt_nil ?_
                      refine then_n ?_
                      refine ⟨⟨j + 1, by omega⟩, (by simp; omega), ?_⟩
                      (refine weak_of 200 (by repeat (first | exact abv_nil _ | exact abv_lks rfl | refine abv_upd ?_ rfl)) rfl (by repeat (first | exact WT.nil | refine WT.free_ rfl (by first | exact rfl | (exact eqI (by rw [bxP_succ _ hpt] <;> rfl)) | exact eqI (by omega) | exact eqI (by simp <;> fail) | exact eqI (by simp; omega) | exact eqOwn (by simp <;> fail) | exact eqOwn (by simp; omega) | (simp_all <;> fail)) ?_ | refine WT.ren_ (r' := _) rfl (by repeat (first | exact RenRL.nil | apply RenRL.cons | exact RenR.d _ | exact RenR.of_d (by first | (exact eqI (by rw [bxP_succ _ hpt] <;> rfl)) | exact eqI (by omega) | exact eqI (by simp <;> fail) | exact eqI (by simp; omega)) | apply RenR.agg | apply RenR.tup | exact RenR.own _ _ _ _ rfl | exact RenR.of_own (by first | rfl | (rw [hpe] <;> rfl) | (omega) | (simp <;> fail) | (simp; omega)) rfl | exact RenR.ptr _ _ _ _ _ _ rfl | exact RenR.ref _ | apply RenR.fn | exact RenR.dead)) ?_)) (by repeat (first | exact WH.nil _ | refine WH.data_ (by first | exact rfl | (exact eqI (by rw [bxP_succ _ hpt] <;> rfl)) | exact eqI (by omega) | exact eqI (by simp <;> fail) | exact eqI (by simp; omega) | exact eqOwn (by simp <;> fail) | exact eqOwn (by simp; omega) | (simp_all <;> fail)) ?_ | refine WH.cons (by first | exact rfl | (exact eqI (by rw [bxP_succ _ hpt] <;> rfl)) | exact eqI (by omega) | exact eqI (by simp <;> fail) | exact eqI (by simp; omega) | exact eqOwn (by simp <;> fail) | exact eqOwn (by simp; omega) | (simp_all <;> fail)) (by first | exact RenS.no | exact RenS.dead | exact RenS.data _ _ _ | (apply RenS.box; repeat (first | exact RenRL.nil | apply RenRL.cons | exact RenR.d _ | exact RenR.of_d (by first | (exact eqI (by rw [bxP_succ _ hpt] <;> rfl)) | exact eqI (by omega) | exact eqI (by simp <;> fail) | exact eqI (by simp; omega)) | apply RenR.agg | apply RenR.tup | exact RenR.own _ _ _ _ rfl | exact RenR.of_own (by first | rfl | (rw [hpe] <;> rfl) | (omega) | (simp <;> fail) | (simp; omega)) rfl | exact RenR.ptr _ _ _ _ _ _ rfl | exact RenR.ref _ | apply RenR.fn | exact RenR.dead)) | exact RenS.gen _) ?_)) rfl)
                    · exfalso; simp at hc; omega
                  · skip
                    obtain rfl : j = (spPts s).length := by omega
                    refine aw_seq ?_
                    refine aw_seq ?_
                    refine aw_region (is := [0, 1, 2, 3]) rfl ?_
                    refine rt_p rfl (want_none rfl) rfl (pu_move (r := .d _) rfl) ?_
                    refine rt_p rfl (want_none rfl) rfl (pu_move (r := .own _ _ _) rfl) ?_
                    refine rt_l rfl (want_none rfl) rfl (li_len tok rfl rfl rfl rfl (by first | rfl | (simp [Cells.len] <;> omega))) ?_
                    refine rt_p rfl (want_none rfl) rfl (pu_lss rfl rfl) ?_
                    refine rt_nil ?_
                    refine then_n ?_
                    refine aw_condP _ rfl (fun hc => ?_) (fun hc => ?_)
                    · exfalso; simp at hc; done
                    · skip
                      try (have hd : drOk xs = true := by simpa using hc)
                      try (have hl0 : xs.length ≠ 0 := by omega)
                      first | (have hh0 := hs0; clear hh0) | (have hs00 := get0 hl0; obtain ⟨s0, hs0⟩ := hs00) | skip
                      try (have hsr := sh_r (dr_get hd hs) hc)
                      try (have hpe := sp1 hc)
                      try (have hpe := sp2 hc)
                      try (have hpe := sp3 ‹¬ s.K = 1› hc)
                      refine aw_exit ?_
                      refine then_e ?_
                      refine then_e ?_
                      refine block_hit ?_
                      refine block_n ?_
                      refine then_n ?_
                      refine aw_region (is := [0, 1, 2]) rfl ?_
                      refine rt_p rfl (want_none rfl) rfl (pu_move (r := .d _) rfl) ?_
                      refine rt_p rfl (want_none rfl) rfl (pu_add rfl rfl (by omega) (by omega)) ?_
                      refine rt_p rfl (want_none rfl) rfl (pu_assign (r := .d _) rfl) ?_
                      refine rt_nil ?_
                      refine then_n ?_
                      refine ⟨⟨k + 1, by omega⟩, (by simp; omega), ?_⟩
                      (refine weak_of 200 (by repeat (first | exact abv_nil _ | exact abv_lks rfl | refine abv_upd ?_ rfl)) rfl (by repeat (first | exact WT.nil | refine WT.free_ rfl (by first | exact rfl | (exact eqI (by rw [bxT_succ _ _ hs])) | exact eqI (by omega) | exact eqI (by simp <;> fail) | exact eqI (by simp; omega) | exact eqOwn (by simp <;> fail) | exact eqOwn (by simp; omega) | (simp_all <;> fail)) ?_ | refine WT.ren_ (r' := _) rfl (by repeat (first | exact RenRL.nil | apply RenRL.cons | exact RenR.d _ | exact RenR.of_d (by first | (exact eqI (by rw [bxT_succ _ _ hs])) | exact eqI (by omega) | exact eqI (by simp <;> fail) | exact eqI (by simp; omega)) | apply RenR.agg | apply RenR.tup | exact RenR.own _ _ _ _ rfl | exact RenR.of_own (by first | rfl | (omega) | (simp <;> fail) | (simp; omega)) rfl | exact RenR.ptr _ _ _ _ _ _ rfl | exact RenR.ref _ | apply RenR.fn | exact RenR.dead)) ?_)) (by repeat (first | exact WH.nil _ | refine WH.data_ (by first | exact rfl | (exact eqI (by rw [bxT_succ _ _ hs])) | exact eqI (by omega) | exact eqI (by simp <;> fail) | exact eqI (by simp; omega) | exact eqOwn (by simp <;> fail) | exact eqOwn (by simp; omega) | (simp_all <;> fail)) ?_ | refine WH.cons (by first | exact rfl | (exact eqI (by rw [bxT_succ _ _ hs])) | exact eqI (by omega) | exact eqI (by simp <;> fail) | exact eqI (by simp; omega) | exact eqOwn (by simp <;> fail) | exact eqOwn (by simp; omega) | (simp_all <;> fail)) (by first | exact RenS.no | exact RenS.dead | exact RenS.data _ _ _ | (apply RenS.box; repeat (first | exact RenRL.nil | apply RenRL.cons | exact RenR.d _ | exact RenR.of_d (by first | (exact eqI (by rw [bxT_succ _ _ hs])) | exact eqI (by omega) | exact eqI (by simp <;> fail) | exact eqI (by simp; omega)) | apply RenR.agg | apply RenR.tup | exact RenR.own _ _ _ _ rfl | exact RenR.of_own (by first | rfl | (omega) | (simp <;> fail) | (simp; omega)) rfl | exact RenR.ptr _ _ _ _ _ _ rfl | exact RenR.ref _ | apply RenR.fn | exact RenR.dead)) | exact RenS.gen _) ?_)) rfl)
              · skip
                try (have hd : drOk xs = true := by simpa using hc)
                try (have hl0 : xs.length ≠ 0 := by omega)
                first | (have hh0 := hs0; clear hh0) | (have hs00 := get0 hl0; obtain ⟨s0, hs0⟩ := hs00) | skip
                try (have hsr := sh_r (dr_get hd hs) hc)
                try (have hpe := sp1 hc)
                try (have hpe := sp2 hc)
                try (have hpe := sp3 ‹¬ s.K = 1› hc)
                refine aw_skip ?_
                refine block_n ?_
                refine then_n ?_
                refine aw_seq ?_
                refine aw_region (is := [0]) rfl ?_
                refine rt_p rfl (want_none rfl) rfl (pu_assign (r := .d _) rfl) ?_
                refine rt_nil ?_
                refine then_n ?_
                refine aw_block ?_
                refine aw_loop (ι := {j : Nat // j ≤ (spPts s).length}) (fun q => ⟨updA (updA (updA (updA (updA (updA (updA (updA (updA (updA (updA (updA ((fun _ => .dead)) 1 (.ptr 3 0 1 0 0)) 2 (.ptr 4 0 1 0 0)) 3 (.ptr 5 0 1 0 0)) 4 (.d (.v (.int .i64 0)))) 5 (.ptr 10 0 1 0 0)) 6 (.ptr 11 0 1 0 0)) 7 (.d (.v (.int .i64 (k))))) 8 (.ptr 12 0 1 0 0)) 9 (.own 13 0 (spPts s).length)) 10 (.d (.v (.int .i64 (q.1))))) 28 (.d (.v (.int .i64 (k))))) 37 (.d (.v (.int .i64 (k)))), lks [.no, .no, .no, .live [⟨29, 1, .av [[.d (.sl (shpsD xs))]]⟩], .live [⟨39, 2, .av [[.d (.v (.int .i64 0)), .d (.v (.int .i64 0))]]⟩], .live [⟨39, 2, .av [[.d (.v (.int .i64 0)), .d (.v (.int .i64 0))]]⟩], .no, .no, .no, .no, .live [⟨39, 2, .av [[.d (.v (.int .i64 ((bxP (bxT spPts (a0 xs) xs k) (spPts s) q.1).lx))), .d (.v (.int .i64 ((bxP (bxT spPts (a0 xs) xs k) (spPts s) q.1).ly)))]]⟩], .live [⟨39, 2, .av [[.d (.v (.int .i64 ((bxP (bxT spPts (a0 xs) xs k) (spPts s) q.1).hx))), .d (.v (.int .i64 ((bxP (bxT spPts (a0 xs) xs k) (spPts s) q.1).hy)))]]⟩], .live [⟨80, 7, .av [[.d (.v (.int .i64 (s.K))), .d (.v (.int .i64 (s.AX))), .d (.v (.int .i64 (s.AY))), .d (.v (.int .i64 (s.BX))), .d (.v (.int .i64 (s.BY))), .d (.v (.int .i64 (s.R))), .d (.v (.string (s.N)))]]⟩], .live [⟨39, 2, .data (ptsD (spPts s))⟩]]⟩) (fun q => (spPts s).length - q.1) ⟨0, by omega⟩ ?_ ?_
                · (refine weak_of 200 (by repeat (first | exact abv_nil _ | exact abv_lks rfl | refine abv_upd ?_ rfl)) rfl (by repeat (first | exact WT.nil | refine WT.free_ rfl (by first | exact rfl | (exact eqI rfl) | (exact eqData (by rw [hpe] <;> rfl)) | exact eqI (by omega) | exact eqI (by simp <;> fail) | exact eqI (by simp; omega) | exact eqOwn (by simp <;> fail) | exact eqOwn (by simp; omega) | (simp_all <;> fail)) ?_ | refine WT.ren_ (r' := _) rfl (by repeat (first | exact RenRL.nil | apply RenRL.cons | exact RenR.d _ | exact RenR.of_d (by first | (exact eqI rfl) | (exact eqData (by rw [hpe] <;> rfl)) | exact eqI (by omega) | exact eqI (by simp <;> fail) | exact eqI (by simp; omega)) | apply RenR.agg | apply RenR.tup | exact RenR.own _ _ _ _ rfl | exact RenR.of_own (by first | rfl | (rw [hpe] <;> rfl) | (omega) | (simp <;> fail) | (simp; omega)) rfl | exact RenR.ptr _ _ _ _ _ _ rfl | exact RenR.ref _ | apply RenR.fn | exact RenR.dead)) ?_)) (by repeat (first | exact WH.nil _ | refine WH.data_ (by first | exact rfl | (exact eqI rfl) | (exact eqData (by rw [hpe] <;> rfl)) | exact eqI (by omega) | exact eqI (by simp <;> fail) | exact eqI (by simp; omega) | exact eqOwn (by simp <;> fail) | exact eqOwn (by simp; omega) | (simp_all <;> fail)) ?_ | refine WH.cons (by first | exact rfl | (exact eqI rfl) | (exact eqData (by rw [hpe] <;> rfl)) | exact eqI (by omega) | exact eqI (by simp <;> fail) | exact eqI (by simp; omega) | exact eqOwn (by simp <;> fail) | exact eqOwn (by simp; omega) | (simp_all <;> fail)) (by first | exact RenS.no | exact RenS.dead | exact RenS.data _ _ _ | (apply RenS.box; repeat (first | exact RenRL.nil | apply RenRL.cons | exact RenR.d _ | exact RenR.of_d (by first | (exact eqI rfl) | (exact eqData (by rw [hpe] <;> rfl)) | exact eqI (by omega) | exact eqI (by simp <;> fail) | exact eqI (by simp; omega)) | apply RenR.agg | apply RenR.tup | exact RenR.own _ _ _ _ rfl | exact RenR.of_own (by first | rfl | (rw [hpe] <;> rfl) | (omega) | (simp <;> fail) | (simp; omega)) rfl | exact RenR.ptr _ _ _ _ _ _ rfl | exact RenR.ref _ | apply RenR.fn | exact RenR.dead)) | exact RenS.gen _) ?_)) rfl)
                · rintro ⟨j, hj⟩
                  have hpl := pts_len s
                  rcases Nat.lt_or_ge j (spPts s).length with hjl | hjg
                  · skip
                    obtain ⟨pt, hpt⟩ : ∃ p, (spPts s)[j]? = some p := ⟨_, List.getElem?_eq_getElem hjl⟩
                    refine aw_seq ?_
                    refine aw_seq ?_
                    refine aw_region (is := [0, 1, 2, 3]) rfl ?_
                    refine rt_p rfl (want_none rfl) rfl (pu_move (r := .d _) rfl) ?_
                    refine rt_p rfl (want_none rfl) rfl (pu_move (r := .own _ _ _) rfl) ?_
                    refine rt_l rfl (want_none rfl) rfl (li_len tok rfl rfl rfl rfl (by first | rfl | (simp [Cells.len] <;> omega))) ?_
                    refine rt_p rfl (want_none rfl) rfl (pu_lss rfl rfl) ?_
                    refine rt_nil ?_
                    refine then_n ?_
                    refine aw_condP _ rfl (fun hc => ?_) (fun hc => ?_)
                    · skip
                      try (have hd : drOk xs = true := by simpa using hc)
                      try (have hl0 : xs.length ≠ 0 := by omega)
                      first | (have hh0 := hs0; clear hh0) | (have hs00 := get0 hl0; obtain ⟨s0, hs0⟩ := hs00) | skip
                      try (have hsr := sh_r (dr_get hd hs) hc)
                      try (have hpe := sp1 hc)
                      try (have hpe := sp2 hc)
                      try (have hpe := sp3 ‹¬ s.K = 1› hc)
                      refine aw_skip ?_
                      refine then_n ?_
                      refine aw_seq ?_
                      refine aw_block ?_
                      refine aw_seq ?_
                      refine aw_region_draw (is := [0, 1, 2, 3, 4, 5, 6, 8, 9, 10, 11, 12, 13, 14, 7, 15, 16, 17]) follows ?_
                      refine rt_lk rfl (want_none rfl) rfl (li_fieldAddr tok rfl rfl rfl rfl rfl rfl rfl (by first | rfl | (simp [Cells.len] <;> omega)) (by first | rfl | exact data_get (map_at (by assumption)) | exact data_get (by assumption) | exact data_get (List.getElem?_set_self (by simp; omega)) | exact data_get (List.getElem?_set_self (by simpa using hlt)))) rfl rfl rfl ?_
                      refine rt_lk rfl (want_none rfl) rfl (li_load1 tok rfl rfl rfl rfl (by first | rfl | (simp [Cells.len] <;> omega)) (by first | rfl | exact data_get (map_at (by assumption)) | exact data_get (by assumption) | exact data_get (List.getElem?_set_self (by simp; omega)) | exact data_get (List.getElem?_set_self (by simpa using hlt))) rfl) rfl rfl rfl ?_
                      refine rt_p rfl (want_none rfl) rfl (pu_move (r := .own _ _ _) rfl) ?_
                      refine rt_p rfl (want_none rfl) rfl (pu_move (r := .d _) rfl) ?_
                      refine rt_lk rfl (want_none rfl) rfl (li_index tok rfl rfl (by first | rfl | omega) (by first | omega) rfl rfl rfl rfl (by first | rfl | (simp [Cells.len] <;> omega)) rfl) rfl rfl rfl ?_
                      refine rt_lk rfl (want_none rfl) rfl (li_fieldAddr tok rfl rfl rfl rfl rfl rfl rfl (by first | rfl | (simp [Cells.len] <;> omega)) (by first | rfl | exact data_get (map_at (by assumption)) | exact data_get (by assumption) | exact data_get (List.getElem?_set_self (by simp; omega)) | exact data_get (List.getElem?_set_self (by simpa using hlt)))) rfl rfl rfl ?_
                      refine rt_lk rfl (want_none rfl) rfl (li_load1 tok rfl rfl rfl rfl (by first | rfl | (simp [Cells.len] <;> omega)) (by first | rfl | exact data_get (map_at (by assumption)) | exact data_get (by assumption) | exact data_get (List.getElem?_set_self (by simp; omega)) | exact data_get (List.getElem?_set_self (by simpa using hlt))) rfl) rfl rfl rfl ?_
                      refine rt_lk rfl (want_none rfl) rfl (li_fieldAddr tok rfl rfl rfl rfl rfl rfl rfl (by first | rfl | (simp [Cells.len] <;> omega)) (by first | rfl | exact data_get (map_at (by assumption)) | exact data_get (by assumption) | exact data_get (List.getElem?_set_self (by simp; omega)) | exact data_get (List.getElem?_set_self (by simpa using hlt)))) rfl rfl rfl ?_
                      refine rt_lk rfl (want_none rfl) rfl (li_load1 tok rfl rfl rfl rfl (by first | rfl | (simp [Cells.len] <;> omega)) (by first | rfl | exact data_get (map_at (by assumption)) | exact data_get (by assumption) | exact data_get (List.getElem?_set_self (by simp; omega)) | exact data_get (List.getElem?_set_self (by simpa using hlt))) rfl) rfl rfl rfl ?_
                      refine rt_p rfl (want_none rfl) rfl (pu_move (r := .own _ _ _) rfl) ?_
                      refine rt_p rfl (want_none rfl) rfl (pu_move (r := .d _) rfl) ?_
                      refine rt_lk rfl (want_none rfl) rfl (li_index tok rfl rfl (by first | rfl | omega) (by first | omega) rfl rfl rfl rfl (by first | rfl | (simp [Cells.len] <;> omega)) rfl) rfl rfl rfl ?_
                      refine rt_lk rfl (want_none rfl) rfl (li_fieldAddr tok rfl rfl rfl rfl rfl rfl rfl (by first | rfl | (simp [Cells.len] <;> omega)) (by first | rfl | exact data_get (map_at (by assumption)) | exact data_get (by assumption) | exact data_get (List.getElem?_set_self (by simp; omega)) | exact data_get (List.getElem?_set_self (by simpa using hlt)))) rfl rfl rfl ?_
                      refine rt_lk rfl (want_none rfl) rfl (li_load1 tok rfl rfl rfl rfl (by first | rfl | (simp [Cells.len] <;> omega)) (by first | rfl | exact data_get (map_at (by assumption)) | exact data_get (by assumption) | exact data_get (List.getElem?_set_self (by simp; omega)) | exact data_get (List.getElem?_set_self (by simpa using hlt))) rfl) rfl rfl rfl ?_
                      refine rt_c rfl (want_none rfl) rfl (sb_call 16 rfl rfl rfl (min_a _ _) (by repeat (first | exact abv_nil _ | exact abv_lks rfl | refine abv_upd ?_ rfl)) (by repeat (first | exact RenRL.nil | apply RenRL.cons | exact RenR.d _ | apply RenR.agg | apply RenR.tup | exact RenR.own _ _ _ _ rfl | exact RenR.ptr _ _ _ _ _ _ rfl | exact RenR.ref _ | apply RenR.fn | exact RenR.dead)) (by repeat (first | exact BirR.nil _ _ | (apply BirR.cons; (first | exact RenS.no | exact RenS.dead | exact RenS.data _ _ _ | (apply RenS.box; repeat (first | exact RenRL.nil | apply RenRL.cons | exact RenR.d _ | apply RenR.agg | apply RenR.tup | exact RenR.own _ _ _ _ rfl | exact RenR.ptr _ _ _ _ _ _ rfl | exact RenR.ref _ | apply RenR.fn | exact RenR.dead)) | exact RenS.gen _))))) ?_
                      refine rt_c rfl (want_none rfl) rfl (sb_call 20 rfl rfl rfl (min_a _ _) (by repeat (first | exact abv_nil _ | exact abv_lks rfl | refine abv_upd ?_ rfl)) (by repeat (first | exact RenRL.nil | apply RenRL.cons | exact RenR.d _ | apply RenR.agg | apply RenR.tup | exact RenR.own _ _ _ _ rfl | exact RenR.ptr _ _ _ _ _ _ rfl | exact RenR.ref _ | apply RenR.fn | exact RenR.dead)) (by repeat (first | exact BirR.nil _ _ | (apply BirR.cons; (first | exact RenS.no | exact RenS.dead | exact RenS.data _ _ _ | (apply RenS.box; repeat (first | exact RenRL.nil | apply RenRL.cons | exact RenR.d _ | apply RenR.agg | apply RenR.tup | exact RenR.own _ _ _ _ rfl | exact RenR.ptr _ _ _ _ _ _ rfl | exact RenR.ref _ | apply RenR.fn | exact RenR.dead)) | exact RenS.gen _))))) ?_
                      refine rt_p rfl (want_none rfl) rfl (pu_build (C0 := [.d (.v (.int .i64 0)), .d (.v (.int .i64 0))]) tok rfl rfl (by repeat (first | exact Plc.nil | apply Plc.cons rfl)) rfl (by repeat (first | exact Bld.nil _ | apply Bld.cons (cs := [.d _]) rfl rfl rfl rfl (by repeat (first | exact Spl.z _ | apply Spl.t | apply Spl.d)) | apply Bld.cons (cs := [.own _ _ _]) rfl rfl rfl rfl (by repeat (first | exact Spl.z _ | apply Spl.t | apply Spl.d)) | apply Bld.cons (cs := [.ptr _ _ _ _ _]) rfl rfl rfl rfl (by repeat (first | exact Spl.z _ | apply Spl.t | apply Spl.d)) | apply Bld.cons (cs := [.fn _ _]) rfl rfl rfl rfl (by repeat (first | exact Spl.z _ | apply Spl.t | apply Spl.d)) | apply Bld.cons (cs := _ :: _) rfl rfl rfl rfl (by repeat (first | exact Spl.z _ | apply Spl.t | apply Spl.d))))) ?_
                      refine rt_wk rfl (want_none rfl) (wr_store (cs := _ :: _) tok rfl rfl rfl rfl rfl rfl rfl rfl (by first | rfl | (simp [Cells.len] <;> omega)) (by first | rfl | exact data_get (map_at (by assumption)) | exact data_get (by assumption) | exact data_get (List.getElem?_set_self (by simp; omega)) | exact data_get (List.getElem?_set_self (by simpa using hlt))) (by repeat (first | exact Spl.z _ | apply Spl.t | apply Spl.d)) (by first | exact SetC.box _ _ | exact SetC.data _ _ (by repeat (first | exact AllD.nil | apply AllD.cons)) | exact SetC.av _ _ _) (by first | exact SetO.one _ _ | exact SetO.gen _ _ _)) ?_
                      refine rt_nil ?_
                      refine ⟨by kernel_rfl, ?_⟩
                      refine then_n ?_
                      refine aw_region_draw (is := [0, 1, 2, 3, 4, 5, 6, 8, 9, 10, 11, 12, 13, 14, 7, 15, 16, 17]) follows ?_
                      refine rt_lk rfl (want_none rfl) rfl (li_fieldAddr tok rfl rfl rfl rfl rfl rfl rfl (by first | rfl | (simp [Cells.len] <;> omega)) (by first | rfl | exact data_get (map_at (by assumption)) | exact data_get (by assumption) | exact data_get (List.getElem?_set_self (by simp; omega)) | exact data_get (List.getElem?_set_self (by simpa using hlt)))) rfl rfl rfl ?_
                      refine rt_lk rfl (want_none rfl) rfl (li_load1 tok rfl rfl rfl rfl (by first | rfl | (simp [Cells.len] <;> omega)) (by first | rfl | exact data_get (map_at (by assumption)) | exact data_get (by assumption) | exact data_get (List.getElem?_set_self (by simp; omega)) | exact data_get (List.getElem?_set_self (by simpa using hlt))) rfl) rfl rfl rfl ?_
                      refine rt_p rfl (want_none rfl) rfl (pu_move (r := .own _ _ _) rfl) ?_
                      refine rt_p rfl (want_none rfl) rfl (pu_move (r := .d _) rfl) ?_
                      refine rt_lk rfl (want_none rfl) rfl (li_index tok rfl rfl (by first | rfl | omega) (by first | omega) rfl rfl rfl rfl (by first | rfl | (simp [Cells.len] <;> omega)) rfl) rfl rfl rfl ?_
                      refine rt_lk rfl (want_none rfl) rfl (li_fieldAddr tok rfl rfl rfl rfl rfl rfl rfl (by first | rfl | (simp [Cells.len] <;> omega)) (by first | rfl | exact data_get (map_at (by assumption)) | exact data_get (by assumption) | exact data_get (List.getElem?_set_self (by simp; omega)) | exact data_get (List.getElem?_set_self (by simpa using hlt)))) rfl rfl rfl ?_
                      refine rt_lk rfl (want_none rfl) rfl (li_load1 tok rfl rfl rfl rfl (by first | rfl | (simp [Cells.len] <;> omega)) (by first | rfl | exact data_get (map_at (by assumption)) | exact data_get (by assumption) | exact data_get (List.getElem?_set_self (by simp; omega)) | exact data_get (List.getElem?_set_self (by simpa using hlt))) rfl) rfl rfl rfl ?_
                      refine rt_lk rfl (want_none rfl) rfl (li_fieldAddr tok rfl rfl rfl rfl rfl rfl rfl (by first | rfl | (simp [Cells.len] <;> omega)) (by first | rfl | exact data_get (map_at (by assumption)) | exact data_get (by assumption) | exact data_get (List.getElem?_set_self (by simp; omega)) | exact data_get (List.getElem?_set_self (by simpa using hlt)))) rfl rfl rfl ?_
                      refine rt_lk rfl (want_none rfl) rfl (li_load1 tok rfl rfl rfl rfl (by first | rfl | (simp [Cells.len] <;> omega)) (by first | rfl | exact data_get (map_at (by assumption)) | exact data_get (by assumption) | exact data_get (List.getElem?_set_self (by simp; omega)) | exact data_get (List.getElem?_set_self (by simpa using hlt))) rfl) rfl rfl rfl ?_
                      refine rt_p rfl (want_none rfl) rfl (pu_move (r := .own _ _ _) rfl) ?_
                      refine rt_p rfl (want_none rfl) rfl (pu_move (r := .d _) rfl) ?_
                      refine rt_lk rfl (want_none rfl) rfl (li_index tok rfl rfl (by first | rfl | omega) (by first | omega) rfl rfl rfl rfl (by first | rfl | (simp [Cells.len] <;> omega)) rfl) rfl rfl rfl ?_
                      refine rt_lk rfl (want_none rfl) rfl (li_fieldAddr tok rfl rfl rfl rfl rfl rfl rfl (by first | rfl | (simp [Cells.len] <;> omega)) (by first | rfl | exact data_get (map_at (by assumption)) | exact data_get (by assumption) | exact data_get (List.getElem?_set_self (by simp; omega)) | exact data_get (List.getElem?_set_self (by simpa using hlt)))) rfl rfl rfl ?_
                      refine rt_lk rfl (want_none rfl) rfl (li_load1 tok rfl rfl rfl rfl (by first | rfl | (simp [Cells.len] <;> omega)) (by first | rfl | exact data_get (map_at (by assumption)) | exact data_get (by assumption) | exact data_get (List.getElem?_set_self (by simp; omega)) | exact data_get (List.getElem?_set_self (by simpa using hlt))) rfl) rfl rfl rfl ?_
                      refine rt_c rfl (want_none rfl) rfl (sb_call 24 rfl rfl rfl (max_a _ _) (by repeat (first | exact abv_nil _ | exact abv_lks rfl | refine abv_upd ?_ rfl)) (by repeat (first | exact RenRL.nil | apply RenRL.cons | exact RenR.d _ | apply RenR.agg | apply RenR.tup | exact RenR.own _ _ _ _ rfl | exact RenR.ptr _ _ _ _ _ _ rfl | exact RenR.ref _ | apply RenR.fn | exact RenR.dead)) (by repeat (first | exact BirR.nil _ _ | (apply BirR.cons; (first | exact RenS.no | exact RenS.dead | exact RenS.data _ _ _ | (apply RenS.box; repeat (first | exact RenRL.nil | apply RenRL.cons | exact RenR.d _ | apply RenR.agg | apply RenR.tup | exact RenR.own _ _ _ _ rfl | exact RenR.ptr _ _ _ _ _ _ rfl | exact RenR.ref _ | apply RenR.fn | exact RenR.dead)) | exact RenS.gen _))))) ?_
                      refine rt_c rfl (want_none rfl) rfl (sb_call 28 rfl rfl rfl (max_a _ _) (by repeat (first | exact abv_nil _ | exact abv_lks rfl | refine abv_upd ?_ rfl)) (by repeat (first | exact RenRL.nil | apply RenRL.cons | exact RenR.d _ | apply RenR.agg | apply RenR.tup | exact RenR.own _ _ _ _ rfl | exact RenR.ptr _ _ _ _ _ _ rfl | exact RenR.ref _ | apply RenR.fn | exact RenR.dead)) (by repeat (first | exact BirR.nil _ _ | (apply BirR.cons; (first | exact RenS.no | exact RenS.dead | exact RenS.data _ _ _ | (apply RenS.box; repeat (first | exact RenRL.nil | apply RenRL.cons | exact RenR.d _ | apply RenR.agg | apply RenR.tup | exact RenR.own _ _ _ _ rfl | exact RenR.ptr _ _ _ _ _ _ rfl | exact RenR.ref _ | apply RenR.fn | exact RenR.dead)) | exact RenS.gen _))))) ?_
                      refine rt_p rfl (want_none rfl) rfl (pu_build (C0 := [.d (.v (.int .i64 0)), .d (.v (.int .i64 0))]) tok rfl rfl (by repeat (first | exact Plc.nil | apply Plc.cons rfl)) rfl (by repeat (first | exact Bld.nil _ | apply Bld.cons (cs := [.d _]) rfl rfl rfl rfl (by repeat (first | exact Spl.z _ | apply Spl.t | apply Spl.d)) | apply Bld.cons (cs := [.own _ _ _]) rfl rfl rfl rfl (by repeat (first | exact Spl.z _ | apply Spl.t | apply Spl.d)) | apply Bld.cons (cs := [.ptr _ _ _ _ _]) rfl rfl rfl rfl (by repeat (first | exact Spl.z _ | apply Spl.t | apply Spl.d)) | apply Bld.cons (cs := [.fn _ _]) rfl rfl rfl rfl (by repeat (first | exact Spl.z _ | apply Spl.t | apply Spl.d)) | apply Bld.cons (cs := _ :: _) rfl rfl rfl rfl (by repeat (first | exact Spl.z _ | apply Spl.t | apply Spl.d))))) ?_
                      refine rt_wk rfl (want_none rfl) (wr_store (cs := _ :: _) tok rfl rfl rfl rfl rfl rfl rfl rfl (by first | rfl | (simp [Cells.len] <;> omega)) (by first | rfl | exact data_get (map_at (by assumption)) | exact data_get (by assumption) | exact data_get (List.getElem?_set_self (by simp; omega)) | exact data_get (List.getElem?_set_self (by simpa using hlt))) (by repeat (first | exact Spl.z _ | apply Spl.t | apply Spl.d)) (by first | exact SetC.box _ _ | exact SetC.data _ _ (by repeat (first | exact AllD.nil | apply AllD.cons)) | exact SetC.av _ _ _) (by first | exact SetO.one _ _ | exact SetO.gen _ _ _)) ?_
                      refine rt_nil ?_
                      refine ⟨by kernel_rfl, ?_⟩
                      refine block_n ?_
                      refine then_n ?_
                      refine aw_region (is := [0, 1, 2]) rfl ?_
                      refine rt_p rfl (want_none rfl) rfl (pu_move (r := .d _) rfl) ?_
                      refine rt_p rfl (want_none rfl) rfl (pu_add rfl rfl (by omega) (by omega)) ?_
                      refine rt_p rfl (want_none rfl) rfl (pu_assign (r := .d _) rfl) ?_
                      refine rt_nil ?_
                      refine then_n ?_
                      refine ⟨⟨j + 1, by omega⟩, (by simp; omega), ?_⟩
                      (refine weak_of 200 (by repeat (first | exact abv_nil _ | exact abv_lks rfl | refine abv_upd ?_ rfl)) rfl (by repeat (first | exact WT.nil | refine WT.free_ rfl (by first | exact rfl | (exact eqI (by rw [bxP_succ _ hpt] <;> rfl)) | exact eqI (by omega) | exact eqI (by simp <;> fail) | exact eqI (by simp; omega) | exact eqOwn (by simp <;> fail) | exact eqOwn (by simp; omega) | (simp_all <;> fail)) ?_ | refine WT.ren_ (r' := _) rfl (by repeat (first | exact RenRL.nil | apply RenRL.cons | exact RenR.d _ | exact RenR.of_d (by first | (exact eqI (by rw [bxP_succ _ hpt] <;> rfl)) | exact eqI (by omega) | exact eqI (by simp <;> fail) | exact eqI (by simp; omega)) | apply RenR.agg | apply RenR.tup | exact RenR.own _ _ _ _ rfl | exact RenR.of_own (by first | rfl | (rw [hpe] <;> rfl) | (omega) | (simp <;> fail) | (simp; omega)) rfl | exact RenR.ptr _ _ _ _ _ _ rfl | exact RenR.ref _ | apply RenR.fn | exact RenR.dead)) ?_)) (by repeat (first | exact WH.nil _ | refine WH.data_ (by first | exact rfl | (exact eqI (by rw [bxP_succ _ hpt] <;> rfl)) | exact eqI (by omega) | exact eqI (by simp <;> fail) | exact eqI (by simp; omega) | exact eqOwn (by simp <;> fail) | exact eqOwn (by simp; omega) | (simp_all <;> fail)) ?_ | refine WH.cons (by first | exact rfl | (exact eqI (by rw [bxP_succ _ hpt] <;> rfl)) | exact eqI (by omega) | exact eqI (by simp <;> fail) | exact eqI (by simp; omega) | exact eqOwn (by simp <;> fail) | exact eqOwn (by simp; omega) | (simp_all <;> fail)) (by first | exact RenS.no | exact RenS.dead | exact RenS.data _ _ _ | (apply RenS.box; repeat (first | exact RenRL.nil | apply RenRL.cons | exact RenR.d _ | exact RenR.of_d (by first | (exact eqI (by rw [bxP_succ _ hpt] <;> rfl)) | exact eqI (by omega) | exact eqI (by simp <;> fail) | exact eqI (by simp; omega)) | apply RenR.agg | apply RenR.tup | exact RenR.own _ _ _ _ rfl | exact RenR.of_own (by first | rfl | (rw [hpe] <;> rfl) | (omega) | (simp <;> fail) | (simp; omega)) rfl | exact RenR.ptr _ _ _ _ _ _ rfl | exact RenR.ref _ | apply RenR.fn | exact RenR.dead)) | exact RenS.gen _) ?_)) rfl)
                    · exfalso; simp at hc; omega
                  · skip
                    obtain rfl : j = (spPts s).length := by omega
                    refine aw_seq ?_
                    refine aw_seq ?_
                    refine aw_region (is := [0, 1, 2, 3]) rfl ?_
                    refine rt_p rfl (want_none rfl) rfl (pu_move (r := .d _) rfl) ?_
                    refine rt_p rfl (want_none rfl) rfl (pu_move (r := .own _ _ _) rfl) ?_
                    refine rt_l rfl (want_none rfl) rfl (li_len tok rfl rfl rfl rfl (by first | rfl | (simp [Cells.len] <;> omega))) ?_
                    refine rt_p rfl (want_none rfl) rfl (pu_lss rfl rfl) ?_
                    refine rt_nil ?_
                    refine then_n ?_
                    refine aw_condP _ rfl (fun hc => ?_) (fun hc => ?_)
                    · exfalso; simp at hc; done
                    · skip
                      try (have hd : drOk xs = true := by simpa using hc)
                      try (have hl0 : xs.length ≠ 0 := by omega)
                      first | (have hh0 := hs0; clear hh0) | (have hs00 := get0 hl0; obtain ⟨s0, hs0⟩ := hs00) | skip
                      try (have hsr := sh_r (dr_get hd hs) hc)
                      try (have hpe := sp1 hc)
                      try (have hpe := sp2 hc)
                      try (have hpe := sp3 ‹¬ s.K = 1› hc)
                      refine aw_exit ?_
                      refine then_e ?_
                      refine then_e ?_
                      refine block_hit ?_
                      refine block_n ?_
                      refine then_n ?_
                      refine aw_region (is := [0, 1, 2]) rfl ?_
                      refine rt_p rfl (want_none rfl) rfl (pu_move (r := .d _) rfl) ?_
                      refine rt_p rfl (want_none rfl) rfl (pu_add rfl rfl (by omega) (by omega)) ?_
                      refine rt_p rfl (want_none rfl) rfl (pu_assign (r := .d _) rfl) ?_
                      refine rt_nil ?_
                      refine then_n ?_
                      refine ⟨⟨k + 1, by omega⟩, (by simp; omega), ?_⟩
                      (refine weak_of 200 (by repeat (first | exact abv_nil _ | exact abv_lks rfl | refine abv_upd ?_ rfl)) rfl (by repeat (first | exact WT.nil | refine WT.free_ rfl (by first | exact rfl | (exact eqI (by rw [bxT_succ _ _ hs])) | exact eqI (by omega) | exact eqI (by simp <;> fail) | exact eqI (by simp; omega) | exact eqOwn (by simp <;> fail) | exact eqOwn (by simp; omega) | (simp_all <;> fail)) ?_ | refine WT.ren_ (r' := _) rfl (by repeat (first | exact RenRL.nil | apply RenRL.cons | exact RenR.d _ | exact RenR.of_d (by first | (exact eqI (by rw [bxT_succ _ _ hs])) | exact eqI (by omega) | exact eqI (by simp <;> fail) | exact eqI (by simp; omega)) | apply RenR.agg | apply RenR.tup | exact RenR.own _ _ _ _ rfl | exact RenR.of_own (by first | rfl | (omega) | (simp <;> fail) | (simp; omega)) rfl | exact RenR.ptr _ _ _ _ _ _ rfl | exact RenR.ref _ | apply RenR.fn | exact RenR.dead)) ?_)) (by repeat (first | exact WH.nil _ | refine WH.data_ (by first | exact rfl | (exact eqI (by rw [bxT_succ _ _ hs])) | exact eqI (by omega) | exact eqI (by simp <;> fail) | exact eqI (by simp; omega) | exact eqOwn (by simp <;> fail) | exact eqOwn (by simp; omega) | (simp_all <;> fail)) ?_ | refine WH.cons (by first | exact rfl | (exact eqI (by rw [bxT_succ _ _ hs])) | exact eqI (by omega) | exact eqI (by simp <;> fail) | exact eqI (by simp; omega) | exact eqOwn (by simp <;> fail) | exact eqOwn (by simp; omega) | (simp_all <;> fail)) (by first | exact RenS.no | exact RenS.dead | exact RenS.data _ _ _ | (apply RenS.box; repeat (first | exact RenRL.nil | apply RenRL.cons | exact RenR.d _ | exact RenR.of_d (by first | (exact eqI (by rw [bxT_succ _ _ hs])) | exact eqI (by omega) | exact eqI (by simp <;> fail) | exact eqI (by simp; omega)) | apply RenR.agg | apply RenR.tup | exact RenR.own _ _ _ _ rfl | exact RenR.of_own (by first | rfl | (omega) | (simp <;> fail) | (simp; omega)) rfl | exact RenR.ptr _ _ _ _ _ _ rfl | exact RenR.ref _ | apply RenR.fn | exact RenR.dead)) | exact RenS.gen _) ?_)) rfl)
          · exfalso; simp at hc; omega
        · skip
          obtain rfl : k = xs.length := by omega
          refine aw_seq ?_
          refine aw_seq ?_
          refine aw_region (is := [0, 1, 2, 3, 4]) rfl ?_
          refine rt_p rfl (want_none rfl) rfl (pu_move (r := .d _) rfl) ?_
          refine rt_l rfl (want_none rfl) rfl (li_fieldAddr tok rfl rfl rfl rfl rfl rfl rfl (by first | rfl | (simp [Cells.len] <;> omega)) (by first | rfl | exact data_get (map_at (by assumption)) | exact data_get (by assumption) | exact data_get (List.getElem?_set_self (by simp; omega)) | exact data_get (List.getElem?_set_self (by simpa using hlt)))) ?_
          refine rt_l rfl (want_none rfl) rfl (li_load1 tok rfl rfl rfl rfl (by first | rfl | (simp [Cells.len] <;> omega)) (by first | rfl | exact data_get (map_at (by assumption)) | exact data_get (by assumption) | exact data_get (List.getElem?_set_self (by simp; omega)) | exact data_get (List.getElem?_set_self (by simpa using hlt))) rfl) ?_
          refine rt_p rfl (want_none rfl) rfl (pu_len_map tok rfl rfl rfl) ?_
          refine rt_p rfl (want_none rfl) rfl (pu_lss rfl rfl) ?_
          refine rt_nil ?_
          refine then_n ?_
          refine aw_condP _ rfl (fun hc => ?_) (fun hc => ?_)
          · exfalso; simp at hc; done
          · skip
            try (have hd : drOk xs = true := by simpa using hc)
            try (have hl0 : xs.length ≠ 0 := by omega)
            first | (have hh0 := hs0; clear hh0) | (have hs00 := get0 hl0; obtain ⟨s0, hs0⟩ := hs00) | skip
            try (have hsr := sh_r (dr_get hd hs) hc)
            try (have hpe := sp1 hc)
            try (have hpe := sp2 hc)
            try (have hpe := sp3 ‹¬ s.K = 1› hc)
            refine aw_exit ?_
            refine then_e ?_
            refine then_e ?_
            refine block_hit ?_
            refine then_n ?_
            refine aw_seq ?_
            refine aw_region_draw (is := [0, 1, 2, 3, 4]) follows ?_
            refine rt_lk rfl (want_none rfl) rfl (li_loadN tok rfl rfl rfl rfl (by first | rfl | (simp [Cells.len] <;> omega)) (by first | rfl | exact data_get (map_at (by assumption)) | exact data_get (by assumption) | exact data_get (List.getElem?_set_self (by simp; omega)) | exact data_get (List.getElem?_set_self (by simpa using hlt))) (by repeat (first | exact Seg.z _ | apply Seg.t | apply Seg.d))) rfl rfl rfl ?_
            refine rt_lk rfl (want_none rfl) rfl (li_loadN tok rfl rfl rfl rfl (by first | rfl | (simp [Cells.len] <;> omega)) (by first | rfl | exact data_get (map_at (by assumption)) | exact data_get (by assumption) | exact data_get (List.getElem?_set_self (by simp; omega)) | exact data_get (List.getElem?_set_self (by simpa using hlt))) (by repeat (first | exact Seg.z _ | apply Seg.t | apply Seg.d))) rfl rfl rfl ?_
            refine rt_wk rfl (want_none rfl) (wr_store (cs := _ :: _) tok rfl rfl rfl rfl rfl rfl rfl rfl (by first | rfl | (simp [Cells.len] <;> omega)) (by first | rfl | exact data_get (map_at (by assumption)) | exact data_get (by assumption) | exact data_get (List.getElem?_set_self (by simp; omega)) | exact data_get (List.getElem?_set_self (by simpa using hlt))) (by repeat (first | exact Spl.z _ | apply Spl.t | apply Spl.d)) (by first | exact SetC.box _ _ | exact SetC.data _ _ (by repeat (first | exact AllD.nil | apply AllD.cons)) | exact SetC.av _ _ _) (by first | exact SetO.one _ _ | exact SetO.gen _ _ _)) ?_
            refine rt_wk rfl (want_none rfl) (wr_store (cs := _ :: _) tok rfl rfl rfl rfl rfl rfl rfl rfl (by first | rfl | (simp [Cells.len] <;> omega)) (by first | rfl | exact data_get (map_at (by assumption)) | exact data_get (by assumption) | exact data_get (List.getElem?_set_self (by simp; omega)) | exact data_get (List.getElem?_set_self (by simpa using hlt))) (by repeat (first | exact Spl.z _ | apply Spl.t | apply Spl.d)) (by first | exact SetC.box _ _ | exact SetC.data _ _ (by repeat (first | exact AllD.nil | apply AllD.cons)) | exact SetC.av _ _ _) (by first | exact SetO.one _ _ | exact SetO.gen _ _ _)) ?_
            refine rt_p rfl (want_none rfl) rfl (pu_assign (r := .d _) rfl) ?_
            refine rt_nil ?_
            refine ⟨by kernel_rfl, ?_⟩
            refine then_n ?_
            refine aw_ret ?_
            refine ret0 (rs := [.cell 2 39, .cell 3 39, .tmp 4]) 200 rfl (by repeat (first | exact ResR.nil | apply ResR.tmp (a := .d _) rfl | apply ResR.tmp (a := .ptr _ _ _ _ _) rfl | apply ResR.tmp (a := .own _ _ _) rfl | apply ResR.tmp (a := .agg _) rfl | apply ResR.tmp (a := .ref _) rfl | apply ResR.tmp (a := .tup _) rfl | apply ResR.tmp (a := .fn _ _) rfl | apply ResR.tmp (a := .dead) rfl | apply ResR.cell1 rfl rfl rfl rfl (by first | rfl | (simp [Cells.len] <;> omega)) (by first | rfl | exact data_get (map_at (by assumption)) | exact data_get (by assumption) | exact data_get (List.getElem?_set_self (by simp; omega)) | exact data_get (List.getElem?_set_self (by simpa using hlt))) rfl | apply ResR.cellN rfl rfl rfl rfl (by first | rfl | (simp [Cells.len] <;> omega)) (by first | rfl | exact data_get (map_at (by assumption)) | exact data_get (by assumption) | exact data_get (List.getElem?_set_self (by simp; omega)) | exact data_get (List.getElem?_set_self (by simpa using hlt))) (by repeat (first | exact Seg.z _ | apply Seg.t | apply Seg.d)))) (by repeat (first | exact abv_nil _ | exact abv_lks rfl | refine abv_upd ?_ rfl)) rfl ?_
            rw [(box_0 hd hl0).1, (box_0 hd hl0).2]; rfl
end Go.Proofs.Ytplnohfjeilodaa
