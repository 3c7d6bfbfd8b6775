/- drawings turned -/
import Derived.Test.YtplnohfjeilodaaTab
import Derived.Test.YtplnohfjeilodaaM28
import Derived.Test.YtplnohfjeilodaaProg
namespace Go.Proofs.Ytplnohfjeilodaa
open Go.RowKit
set_option linter.unusedVariables false
set_option maxRecDepth 100000
theorem sh_lim {s : Shp} (h : shB s = true) : -100000 ≤ s.AX ∧ s.AX ≤ 100000 ∧ -100000 ≤ s.AY ∧ s.AY ≤ 100000 ∧ -100000 ≤ s.BX ∧ s.BX ≤ 100000 ∧ -100000 ≤ s.BY ∧ s.BY ≤ 100000 ∧ (s.K ≠ 1 → s.BX = 0 ∧ s.BY = 0) := by
  unfold shB spB at h
  simp only [inB, Bool.and_eq_true, decide_eq_true_eq] at h
  obtain ⟨h1, h2⟩ := h
  split at h2
  · simp at h2; omega
  · split at h2
    · simp at h2; omega
    · split at h2
      · simp at h2; omega
      · simp at h2
theorem dr_get {xs : List Shp} {k : Nat} {s : Shp} (h : drOk xs = true) (hs : xs[k]? = some s) : shB s = true := by
  unfold drOk at h
  simp only [Bool.and_eq_true, List.all_eq_true] at h
  exact h.1 s (List.mem_of_getElem? hs)
theorem dr_len {xs : List Shp} (h : drOk xs = true) : xs.length ≤ 1200 := by
  unfold drOk at h
  simp only [Bool.and_eq_true, decide_eq_true_eq] at h
  exact h.2
def two (s : Shp) (a b c d : Int) : Shp := ⟨s.K, a, b, if s.K = 1 then c else 0, if s.K = 1 then d else 0, s.R, s.N⟩
def mapS (f : Shp → Shp) (xs : List Shp) (k : Nat) : List (List DV) := shpsD ((xs.take k).map f)
theorem mapS_len (f : Shp → Shp) (xs : List Shp) (k : Nat) (h : k ≤ xs.length) : (mapS f xs k).length = k := by simp [mapS]; omega
theorem mapS_0 (f : Shp → Shp) (xs : List Shp) : mapS f xs 0 = [] := by simp [mapS]
theorem mapS_succ {f : Shp → Shp} {xs : List Shp} {k : Nat} {s : Shp} (h : xs[k]? = some s) : mapS f xs k ++ [shpD (f s)] = mapS f xs (k + 1) := by
  unfold mapS
  rw [List.take_add_one, h]
  simp
theorem mapS_all (f : Shp → Shp) (xs : List Shp) : mapS f xs xs.length = shpsD (xs.map f) := by simp [mapS]
def turn (s : Shp) : Shp := two s (-s.AY) s.AX (-s.BY) s.BX
theorem l25Two_a (K AX AY BX BY R : Int) (Nm : ByteArray) (a b c d : Int) : FnC Try.prog 73 [] [.agg [.d (.v (.int .i64 K)), .d (.v (.int .i64 AX)), .d (.v (.int .i64 AY)), .d (.v (.int .i64 BX)), .d (.v (.int .i64 BY)), .d (.v (.int .i64 R)), .d (.v (.string Nm))], .agg [.d (.v (.int .i64 a)), .d (.v (.int .i64 b))], .agg [.d (.v (.int .i64 c)), .d (.v (.int .i64 d))]] [] (.agg [.d (.v (.int .i64 K)), .d (.v (.int .i64 a)), .d (.v (.int .i64 b)), .d (.v (.int .i64 (if K = 1 then c else 0))), .d (.v (.int .i64 (if K = 1 then d else 0))), .d (.v (.int .i64 R)), .d (.v (.string Nm))]) := by
  refine fnc_intro (T := tt) (N := 22) tok Try.func73 rfl rfl (by kernel_rfl) rfl rfl ?_
  refine aw_seq ?_
  refine aw_region (is := [0, 1, 2, 3]) rfl ?_
  refine rt_s rfl (want_none rfl) rfl (st_box 3 (cs := _ :: _) rfl rfl rfl) ?_
  refine rt_s rfl (want_none rfl) rfl (st_box 4 (cs := _ :: _) rfl rfl rfl) ?_
  refine rt_s rfl (want_none rfl) rfl (st_box 5 (cs := _ :: _) rfl rfl rfl) ?_
  refine rt_s rfl (want_none rfl) rfl (st_alloc 6 (cs := [.d (.v (.int .i64 0)), .d (.v (.int .i64 0)), .d (.v (.int .i64 0)), .d (.v (.int .i64 0)), .d (.v (.int .i64 0)), .d (.v (.int .i64 0)), .d (.v (.string ⟨#[]⟩))]) tok rfl rfl rfl) ?_
  refine rt_nil ?_
  refine then_n ?_
  refine aw_seq ?_
  refine aw_region (is := [0, 1, 2, 3, 4, 5, 6, 7, 8, 9]) rfl ?_
  refine rt_l rfl (want_none rfl) rfl (li_fieldAddr tok rfl rfl rfl rfl rfl rfl rfl (by first | rfl | (simp [Cells.len] <;> omega)) (by first | rfl | exact data_get (map_at (by assumption)) | exact data_get (by assumption) | exact data_get (List.getElem?_set_self (by simp; omega)) | exact data_get (List.getElem?_set_self (by simpa using hlt)))) ?_
  refine rt_l rfl (want_none rfl) rfl (li_load1 tok rfl rfl rfl rfl (by first | rfl | (simp [Cells.len] <;> omega)) (by first | rfl | exact data_get (map_at (by assumption)) | exact data_get (by assumption) | exact data_get (List.getElem?_set_self (by simp; omega)) | exact data_get (List.getElem?_set_self (by simpa using hlt))) rfl) ?_
  refine rt_l rfl (want_none rfl) rfl (li_loadN tok rfl rfl rfl rfl (by first | rfl | (simp [Cells.len] <;> omega)) (by first | rfl | exact data_get (map_at (by assumption)) | exact data_get (by assumption) | exact data_get (List.getElem?_set_self (by simp; omega)) | exact data_get (List.getElem?_set_self (by simpa using hlt))) (by repeat (first | exact Seg.z _ | apply Seg.t | apply Seg.d))) ?_
  refine rt_l rfl (want_none rfl) rfl (li_fieldAddr tok rfl rfl rfl rfl rfl rfl rfl (by first | rfl | (simp [Cells.len] <;> omega)) (by first | rfl | exact data_get (map_at (by assumption)) | exact data_get (by assumption) | exact data_get (List.getElem?_set_self (by simp; omega)) | exact data_get (List.getElem?_set_self (by simpa using hlt)))) ?_
  refine rt_l rfl (want_none rfl) rfl (li_load1 tok rfl rfl rfl rfl (by first | rfl | (simp [Cells.len] <;> omega)) (by first | rfl | exact data_get (map_at (by assumption)) | exact data_get (by assumption) | exact data_get (List.getElem?_set_self (by simp; omega)) | exact data_get (List.getElem?_set_self (by simpa using hlt))) rfl) ?_
  refine rt_l rfl (want_none rfl) rfl (li_fieldAddr tok rfl rfl rfl rfl rfl rfl rfl (by first | rfl | (simp [Cells.len] <;> omega)) (by first | rfl | exact data_get (map_at (by assumption)) | exact data_get (by assumption) | exact data_get (List.getElem?_set_self (by simp; omega)) | exact data_get (List.getElem?_set_self (by simpa using hlt)))) ?_
  refine rt_l rfl (want_none rfl) rfl (li_load1 tok rfl rfl rfl rfl (by first | rfl | (simp [Cells.len] <;> omega)) (by first | rfl | exact data_get (map_at (by assumption)) | exact data_get (by assumption) | exact data_get (List.getElem?_set_self (by simp; omega)) | exact data_get (List.getElem?_set_self (by simpa using hlt))) rfl) ?_
  refine rt_p rfl (want_none rfl) rfl (pu_build (C0 := [.d (.v (.int .i64 0)), .d (.v (.int .i64 0)), .d (.v (.int .i64 0)), .d (.v (.int .i64 0)), .d (.v (.int .i64 0)), .d (.v (.int .i64 0)), .d (.v (.string ⟨#[]⟩))]) tok rfl rfl (by repeat (first | exact Plc.nil | apply Plc.cons rfl)) rfl (by repeat (first | exact Bld.nil _ | apply Bld.cons (cs := [.d _]) rfl rfl rfl rfl (by repeat (first | exact Spl.z _ | apply Spl.t | apply Spl.d)) | apply Bld.cons (cs := [.own _ _ _]) rfl rfl rfl rfl (by repeat (first | exact Spl.z _ | apply Spl.t | apply Spl.d)) | apply Bld.cons (cs := [.ptr _ _ _ _ _]) rfl rfl rfl rfl (by repeat (first | exact Spl.z _ | apply Spl.t | apply Spl.d)) | apply Bld.cons (cs := [.fn _ _]) rfl rfl rfl rfl (by repeat (first | exact Spl.z _ | apply Spl.t | apply Spl.d)) | apply Bld.cons (cs := _ :: _) rfl rfl rfl rfl (by repeat (first | exact Spl.z _ | apply Spl.t | apply Spl.d))))) ?_
  refine rt_s rfl (want_none rfl) rfl (st_alloc 7 (cs := [.d (.v (.int .i64 0)), .d (.v (.int .i64 0)), .d (.v (.int .i64 0)), .d (.v (.int .i64 0)), .d (.v (.int .i64 0)), .d (.v (.int .i64 0)), .d (.v (.string ⟨#[]⟩))]) tok rfl rfl rfl) ?_
  refine rt_w0 rfl (want_none rfl) (wr_store (cs := _ :: _) tok rfl rfl rfl rfl rfl rfl rfl rfl (by first | rfl | (simp [Cells.len] <;> omega)) (by first | rfl | exact data_get (map_at (by assumption)) | exact data_get (by assumption) | exact data_get (List.getElem?_set_self (by simp; omega)) | exact data_get (List.getElem?_set_self (by simpa using hlt))) (by repeat (first | exact Spl.z _ | apply Spl.t | apply Spl.d)) (by first | exact SetC.box _ _ | exact SetC.data _ _ (by repeat (first | exact AllD.nil | apply AllD.cons)) | exact SetC.av _ _ _) (by first | exact SetO.one _ _ | exact SetO.gen _ _ _)) ?_
  refine rt_nil ?_
  refine then_n ?_
  refine aw_seq ?_
  refine aw_seq ?_
  refine aw_region (is := [0, 1, 2]) rfl ?_
  refine rt_l rfl (want_none rfl) rfl (li_fieldAddr tok rfl rfl rfl rfl rfl rfl rfl (by first | rfl | (simp [Cells.len] <;> omega)) (by first | rfl | exact data_get (map_at (by assumption)) | exact data_get (by assumption) | exact data_get (List.getElem?_set_self (by simp; omega)) | exact data_get (List.getElem?_set_self (by simpa using hlt)))) ?_
  refine rt_l rfl (want_none rfl) rfl (li_load1 tok rfl rfl rfl rfl (by first | rfl | (simp [Cells.len] <;> omega)) (by first | rfl | exact data_get (map_at (by assumption)) | exact data_get (by assumption) | exact data_get (List.getElem?_set_self (by simp; omega)) | exact data_get (List.getElem?_set_self (by simpa using hlt))) rfl) ?_
  refine rt_p rfl (want_none rfl) rfl (pu_eql rfl rfl) ?_
  refine rt_nil ?_
  refine then_n ?_
  refine aw_condP _ rfl (fun hc => ?_) (fun hc => ?_)
  · skip
    refine aw_region (is := [0, 1, 2]) rfl ?_
    refine rt_l rfl (want_none rfl) rfl (li_loadN tok rfl rfl rfl rfl (by first | rfl | (simp [Cells.len] <;> omega)) (by first | rfl | exact data_get (map_at (by assumption)) | exact data_get (by assumption) | exact data_get (List.getElem?_set_self (by simp; omega)) | exact data_get (List.getElem?_set_self (by simpa using hlt))) (by repeat (first | exact Seg.z _ | apply Seg.t | apply Seg.d))) ?_
    refine rt_l rfl (want_none rfl) rfl (li_fieldAddr tok rfl rfl rfl rfl rfl rfl rfl (by first | rfl | (simp [Cells.len] <;> omega)) (by first | rfl | exact data_get (map_at (by assumption)) | exact data_get (by assumption) | exact data_get (List.getElem?_set_self (by simp; omega)) | exact data_get (List.getElem?_set_self (by simpa using hlt)))) ?_
    refine rt_w0 rfl (want_none rfl) (wr_store (cs := _ :: _) tok rfl rfl rfl rfl rfl rfl rfl rfl (by first | rfl | (simp [Cells.len] <;> omega)) (by first | rfl | exact data_get (map_at (by assumption)) | exact data_get (by assumption) | exact data_get (List.getElem?_set_self (by simp; omega)) | exact data_get (List.getElem?_set_self (by simpa using hlt))) (by repeat (first | exact Spl.z _ | apply Spl.t | apply Spl.d)) (by first | exact SetC.box _ _ | exact SetC.data _ _ (by repeat (first | exact AllD.nil | apply AllD.cons)) | exact SetC.av _ _ _) (by first | exact SetO.one _ _ | exact SetO.gen _ _ _)) ?_
    refine rt_nil ?_
    refine then_n ?_
    refine aw_seq ?_
    refine aw_region (is := [0, 1]) rfl ?_
    refine rt_l rfl (want_none rfl) rfl (li_loadN tok rfl rfl rfl rfl (by first | rfl | (simp [Cells.len] <;> omega)) (by first | rfl | exact data_get (map_at (by assumption)) | exact data_get (by assumption) | exact data_get (List.getElem?_set_self (by simp; omega)) | exact data_get (List.getElem?_set_self (by simpa using hlt))) (by repeat (first | exact Seg.z _ | apply Seg.t | apply Seg.d))) ?_
    refine rt_w0 rfl (want_none rfl) (wr_store (cs := _ :: _) tok rfl rfl rfl rfl rfl rfl rfl rfl (by first | rfl | (simp [Cells.len] <;> omega)) (by first | rfl | exact data_get (map_at (by assumption)) | exact data_get (by assumption) | exact data_get (List.getElem?_set_self (by simp; omega)) | exact data_get (List.getElem?_set_self (by simpa using hlt))) (by repeat (first | exact Spl.z _ | apply Spl.t | apply Spl.d)) (by first | exact SetC.box _ _ | exact SetC.data _ _ (by repeat (first | exact AllD.nil | apply AllD.cons)) | exact SetC.av _ _ _) (by first | exact SetO.one _ _ | exact SetO.gen _ _ _)) ?_
    refine rt_nil ?_
    refine then_n ?_
    refine aw_ret ?_
    refine ret0 (rs := [.cell 6 80]) 200 rfl (by repeat (first | exact ResR.nil | apply ResR.tmp (a := .d _) rfl | apply ResR.tmp (a := .ptr _ _ _ _ _) rfl | apply ResR.tmp (a := .own _ _ _) rfl | apply ResR.tmp (a := .agg _) rfl | apply ResR.tmp (a := .ref _) rfl | apply ResR.tmp (a := .tup _) rfl | apply ResR.tmp (a := .fn _ _) rfl | apply ResR.tmp (a := .dead) rfl | apply ResR.cell1 rfl rfl rfl rfl (by first | rfl | (simp [Cells.len] <;> omega)) (by first | rfl | exact data_get (map_at (by assumption)) | exact data_get (by assumption) | exact data_get (List.getElem?_set_self (by simp; omega)) | exact data_get (List.getElem?_set_self (by simpa using hlt))) rfl | apply ResR.cellN rfl rfl rfl rfl (by first | rfl | (simp [Cells.len] <;> omega)) (by first | rfl | exact data_get (map_at (by assumption)) | exact data_get (by assumption) | exact data_get (List.getElem?_set_self (by simp; omega)) | exact data_get (List.getElem?_set_self (by simpa using hlt))) (by repeat (first | exact Seg.z _ | apply Seg.t | apply Seg.d)))) (by repeat (first | exact abv_nil _ | exact abv_lks rfl | refine abv_upd ?_ rfl)) rfl ?_
    first
      | (simp only [if_pos hc]; rfl)
      | (simp only [if_neg hc]; rfl)
  · skip
    refine aw_skip ?_
    refine then_n ?_
    refine aw_seq ?_
    refine aw_region (is := [0, 1]) rfl ?_
    refine rt_l rfl (want_none rfl) rfl (li_loadN tok rfl rfl rfl rfl (by first | rfl | (simp [Cells.len] <;> omega)) (by first | rfl | exact data_get (map_at (by assumption)) | exact data_get (by assumption) | exact data_get (List.getElem?_set_self (by simp; omega)) | exact data_get (List.getElem?_set_self (by simpa using hlt))) (by repeat (first | exact Seg.z _ | apply Seg.t | apply Seg.d))) ?_
    refine rt_w0 rfl (want_none rfl) (wr_store (cs := _ :: _) tok rfl rfl rfl rfl rfl rfl rfl rfl (by first | rfl | (simp [Cells.len] <;> omega)) (by first | rfl | exact data_get (map_at (by assumption)) | exact data_get (by assumption) | exact data_get (List.getElem?_set_self (by simp; omega)) | exact data_get (List.getElem?_set_self (by simpa using hlt))) (by repeat (first | exact Spl.z _ | apply Spl.t | apply Spl.d)) (by first | exact SetC.box _ _ | exact SetC.data _ _ (by repeat (first | exact AllD.nil | apply AllD.cons)) | exact SetC.av _ _ _) (by first | exact SetO.one _ _ | exact SetO.gen _ _ _)) ?_
    refine rt_nil ?_
    refine then_n ?_
    refine aw_ret ?_
    refine ret0 (rs := [.cell 6 80]) 200 rfl (by repeat (first | exact ResR.nil | apply ResR.tmp (a := .d _) rfl | apply ResR.tmp (a := .ptr _ _ _ _ _) rfl | apply ResR.tmp (a := .own _ _ _) rfl | apply ResR.tmp (a := .agg _) rfl | apply ResR.tmp (a := .ref _) rfl | apply ResR.tmp (a := .tup _) rfl | apply ResR.tmp (a := .fn _ _) rfl | apply ResR.tmp (a := .dead) rfl | apply ResR.cell1 rfl rfl rfl rfl (by first | rfl | (simp [Cells.len] <;> omega)) (by first | rfl | exact data_get (map_at (by assumption)) | exact data_get (by assumption) | exact data_get (List.getElem?_set_self (by simp; omega)) | exact data_get (List.getElem?_set_self (by simpa using hlt))) rfl | apply ResR.cellN rfl rfl rfl rfl (by first | rfl | (simp [Cells.len] <;> omega)) (by first | rfl | exact data_get (map_at (by assumption)) | exact data_get (by assumption) | exact data_get (List.getElem?_set_self (by simp; omega)) | exact data_get (List.getElem?_set_self (by simpa using hlt))) (by repeat (first | exact Seg.z _ | apply Seg.t | apply Seg.d)))) (by repeat (first | exact abv_nil _ | exact abv_lks rfl | refine abv_upd ?_ rfl)) rfl ?_
    first
      | (simp only [if_pos hc]; rfl)
      | (simp only [if_neg hc]; rfl)
theorem turn1_a (x y : Int) (h0 : -100000 ≤ y) (h1 : y ≤ 100000) : FnC Try.prog 75 [] [.agg [.d (.v (.int .i64 x)), .d (.v (.int .i64 y))]] [] (.agg [.d (.v (.int .i64 (-y))), .d (.v (.int .i64 x))]) := by
  refine fnc_intro (T := tt) (N := 9) tok Try.func75 rfl rfl (by kernel_rfl) rfl rfl ?_
  refine aw_seq ?_
  refine aw_region (is := [0, 1]) rfl ?_
  refine rt_s rfl (want_none rfl) rfl (st_box 3 (cs := _ :: _) rfl rfl rfl) ?_
  refine rt_s rfl (want_none rfl) rfl (st_alloc 4 (cs := [.d (.v (.int .i64 0)), .d (.v (.int .i64 0))]) tok rfl rfl rfl) ?_
  refine rt_nil ?_
  refine then_n ?_
  refine aw_seq ?_
  refine aw_region (is := [0, 1, 2, 3, 4, 5, 6]) rfl ?_
  refine rt_l rfl (want_none rfl) rfl (li_fieldAddr tok rfl rfl rfl rfl rfl rfl rfl (by first | rfl | (simp [Cells.len] <;> omega)) (by first | rfl | exact data_get (map_at (by assumption)) | exact data_get (by assumption) | exact data_get (List.getElem?_set_self (by simp; omega)) | exact data_get (List.getElem?_set_self (by simpa using hlt)))) ?_
  refine rt_l rfl (want_none rfl) rfl (li_load1 tok rfl rfl rfl rfl (by first | rfl | (simp [Cells.len] <;> omega)) (by first | rfl | exact data_get (map_at (by assumption)) | exact data_get (by assumption) | exact data_get (List.getElem?_set_self (by simp; omega)) | exact data_get (List.getElem?_set_self (by simpa using hlt))) rfl) ?_
  refine rt_p rfl (want_none rfl) rfl (pu_neg rfl (by omega) (by omega)) ?_
  refine rt_l rfl (want_none rfl) rfl (li_fieldAddr tok rfl rfl rfl rfl rfl rfl rfl (by first | rfl | (simp [Cells.len] <;> omega)) (by first | rfl | exact data_get (map_at (by assumption)) | exact data_get (by assumption) | exact data_get (List.getElem?_set_self (by simp; omega)) | exact data_get (List.getElem?_set_self (by simpa using hlt)))) ?_
  refine rt_l rfl (want_none rfl) rfl (li_load1 tok rfl rfl rfl rfl (by first | rfl | (simp [Cells.len] <;> omega)) (by first | rfl | exact data_get (map_at (by assumption)) | exact data_get (by assumption) | exact data_get (List.getElem?_set_self (by simp; omega)) | exact data_get (List.getElem?_set_self (by simpa using hlt))) rfl) ?_
  refine rt_p rfl (want_none rfl) rfl (pu_build (C0 := [.d (.v (.int .i64 0)), .d (.v (.int .i64 0))]) tok rfl rfl (by repeat (first | exact Plc.nil | apply Plc.cons rfl)) rfl (by repeat (first | exact Bld.nil _ | apply Bld.cons (cs := [.d _]) rfl rfl rfl rfl (by repeat (first | exact Spl.z _ | apply Spl.t | apply Spl.d)) | apply Bld.cons (cs := [.own _ _ _]) rfl rfl rfl rfl (by repeat (first | exact Spl.z _ | apply Spl.t | apply Spl.d)) | apply Bld.cons (cs := [.ptr _ _ _ _ _]) rfl rfl rfl rfl (by repeat (first | exact Spl.z _ | apply Spl.t | apply Spl.d)) | apply Bld.cons (cs := [.fn _ _]) rfl rfl rfl rfl (by repeat (first | exact Spl.z _ | apply Spl.t | apply Spl.d)) | apply Bld.cons (cs := _ :: _) rfl rfl rfl rfl (by repeat (first | exact Spl.z _ | apply Spl.t | apply Spl.d))))) ?_
  refine rt_w0 rfl (want_none rfl) (wr_store (cs := _ :: _) tok rfl rfl rfl rfl rfl rfl rfl rfl (by first | rfl | (simp [Cells.len] <;> omega)) (by first | rfl | exact data_get (map_at (by assumption)) | exact data_get (by assumption) | exact data_get (List.getElem?_set_self (by simp; omega)) | exact data_get (List.getElem?_set_self (by simpa using hlt))) (by repeat (first | exact Spl.z _ | apply Spl.t | apply Spl.d)) (by first | exact SetC.box _ _ | exact SetC.data _ _ (by repeat (first | exact AllD.nil | apply AllD.cons)) | exact SetC.av _ _ _) (by first | exact SetO.one _ _ | exact SetO.gen _ _ _)) ?_
  refine rt_nil ?_
  refine then_n ?_
  refine aw_ret ?_
  refine ret0 (rs := [.cell 2 39]) 200 rfl (by repeat (first | exact ResR.nil | apply ResR.tmp (a := .d _) rfl | apply ResR.tmp (a := .ptr _ _ _ _ _) rfl | apply ResR.tmp (a := .own _ _ _) rfl | apply ResR.tmp (a := .agg _) rfl | apply ResR.tmp (a := .ref _) rfl | apply ResR.tmp (a := .tup _) rfl | apply ResR.tmp (a := .fn _ _) rfl | apply ResR.tmp (a := .dead) rfl | apply ResR.cell1 rfl rfl rfl rfl (by first | rfl | (simp [Cells.len] <;> omega)) (by first | rfl | exact data_get (map_at (by assumption)) | exact data_get (by assumption) | exact data_get (List.getElem?_set_self (by simp; omega)) | exact data_get (List.getElem?_set_self (by simpa using hlt))) rfl | apply ResR.cellN rfl rfl rfl rfl (by first | rfl | (simp [Cells.len] <;> omega)) (by first | rfl | exact data_get (map_at (by assumption)) | exact data_get (by assumption) | exact data_get (List.getElem?_set_self (by simp; omega)) | exact data_get (List.getElem?_set_self (by simpa using hlt))) (by repeat (first | exact Seg.z _ | apply Seg.t | apply Seg.d)))) (by repeat (first | exact abv_nil _ | exact abv_lks rfl | refine abv_upd ?_ rfl)) rfl ?_
  rfl
def turnR (xs : List Shp) : List Shp := if drOk xs = true then xs.map turn else []
def errR (b : Bool) : Int := if b = true then 0 else 1
theorem turnR_t {xs : List Shp} (h : drOk xs = true) : turnR xs = xs.map turn := if_pos h
theorem turnR_f {xs : List Shp} (h : drOk xs = false) : turnR xs = [] := if_neg (by simp [h])
theorem turnR_ok {xs : List Shp} (hm : xs.length ≤ 1048576) : (turnR xs).length ≤ 1048576 := by unfold turnR; split <;> simp; exact hm
theorem turn_id {s : Shp} (h : shB s = true) : (⟨s.K, -s.AY, s.AX, if s.K = 1 then -s.BY else s.BX, if s.K = 1 then s.BX else s.BY, s.R, s.N⟩ : Shp) = turn s := by
  unfold turn two
  have := sh_lim h
  split <;> simp_all
theorem sTurn_a (xs : List Shp) (hm : xs.length ≤ 1048576) (hn : ∀ s ∈ xs, s.N.size ≤ 9223372036854775807) : FnC Try.prog 31 [] [.agg [.d (.sl (shpsD xs))]] [.live [⟨80, 7, .data (shpsD (turnR xs))⟩]] (.tup [.agg [.own 0 0 (turnR xs).length], .d (.v (.int .i64 (errR (drOk xs))))]) := by
  refine fnc_intro (T := tt) (N := 48) tok Try.func31 rfl rfl (by kernel_rfl) rfl rfl ?_
  refine aw_seq ?_
  refine aw_region (is := [0, 1, 2]) rfl ?_
  refine rt_s rfl (want_none rfl) rfl (st_box 3 (cs := _ :: _) rfl rfl rfl) ?_
  refine rt_s rfl (want_none rfl) rfl (st_alloc 4 (cs := [.d (.v (.slice none 0 0))]) tok rfl rfl rfl) ?_
  refine rt_p rfl (want_none rfl) rfl (pu_assign (r := .d _) rfl) ?_
  refine rt_nil ?_
  refine then_n ?_
  refine aw_seq ?_
  refine aw_seq ?_
  refine aw_region (is := [0, 1, 2]) rfl ?_
  refine rt_l rfl (want_none rfl) rfl (li_loadN tok rfl rfl rfl rfl (by first | rfl | (simp [Cells.len] <;> omega)) (by first | rfl | exact data_get (map_at (by assumption)) | exact data_get (by assumption) | exact data_get (List.getElem?_set_self (by simp; omega)) | exact data_get (List.getElem?_set_self (by simpa using hlt))) (by repeat (first | exact Seg.z _ | apply Seg.t | apply Seg.d))) ?_
  refine rt_s rfl (want_none rfl) rfl (st_call 5 rfl rfl rfl (l25Ok_a xs hm hn) (by repeat (first | exact abv_nil _ | exact abv_lks rfl | refine abv_upd ?_ rfl)) (by repeat (first | exact RenRL.nil | apply RenRL.cons | exact RenR.d _ | apply RenR.agg | apply RenR.tup | exact RenR.own _ _ _ _ rfl | exact RenR.ptr _ _ _ _ _ _ rfl | exact RenR.ref _ | apply RenR.fn | exact RenR.dead)) (by repeat (first | exact BirR.nil _ _ | (apply BirR.cons; (first | exact RenS.no | exact RenS.dead | exact RenS.data _ _ _ | (apply RenS.box; repeat (first | exact RenRL.nil | apply RenRL.cons | exact RenR.d _ | apply RenR.agg | apply RenR.tup | exact RenR.own _ _ _ _ rfl | exact RenR.ptr _ _ _ _ _ _ rfl | exact RenR.ref _ | apply RenR.fn | exact RenR.dead)) | exact RenS.gen _))))) ?_
  refine rt_p rfl (want_none rfl) rfl (pu_not rfl) ?_
  refine rt_nil ?_
  refine then_n ?_
  refine aw_cond _ rfl (fun hc => ?_) (fun hc => ?_)
  · skip
    refine aw_seq ?_
    refine aw_region (is := [0, 1, 2]) rfl ?_
    refine rt_p rfl (want_none rfl) rfl (pu_build (C0 := [.d (.v (.slice none 0 0))]) tok rfl rfl (by repeat (first | exact Plc.nil | apply Plc.cons rfl)) rfl (by repeat (first | exact Bld.nil _ | apply Bld.cons (cs := [.d _]) rfl rfl rfl rfl (by repeat (first | exact Spl.z _ | apply Spl.t | apply Spl.d)) | apply Bld.cons (cs := [.own _ _ _]) rfl rfl rfl rfl (by repeat (first | exact Spl.z _ | apply Spl.t | apply Spl.d)) | apply Bld.cons (cs := [.ptr _ _ _ _ _]) rfl rfl rfl rfl (by repeat (first | exact Spl.z _ | apply Spl.t | apply Spl.d)) | apply Bld.cons (cs := [.fn _ _]) rfl rfl rfl rfl (by repeat (first | exact Spl.z _ | apply Spl.t | apply Spl.d)) | apply Bld.cons (cs := _ :: _) rfl rfl rfl rfl (by repeat (first | exact Spl.z _ | apply Spl.t | apply Spl.d))))) ?_
    refine rt_w0 rfl (want_none rfl) (wr_store (cs := _ :: _) tok rfl rfl rfl rfl rfl rfl rfl rfl (by first | rfl | (simp [Cells.len] <;> omega)) (by first | rfl | exact data_get (map_at (by assumption)) | exact data_get (by assumption) | exact data_get (List.getElem?_set_self (by simp; omega)) | exact data_get (List.getElem?_set_self (by simpa using hlt))) (by repeat (first | exact Spl.z _ | apply Spl.t | apply Spl.d)) (by first | exact SetC.box _ _ | exact SetC.data _ _ (by repeat (first | exact AllD.nil | apply AllD.cons)) | exact SetC.av _ _ _) (by first | exact SetO.one _ _ | exact SetO.gen _ _ _)) ?_
    refine rt_p rfl (want_none rfl) rfl (pu_assign (r := .d _) rfl) ?_
    refine rt_nil ?_
    refine then_n ?_
    have hd : drOk xs = false := by simpa using hc
    refine aw_weak (weak_adopt 9 rfl 80 7 (kb := 4) (j := 0) rfl rfl (by repeat (first | exact Spl.z _ | apply Spl.t | apply Spl.d))) ?_
    refine aw_ret ?_
    refine then_r ?_
    refine retK (rs := [.cell 2 29, .tmp 3]) [9] 200 rfl (by repeat (first | exact ResR.nil | apply ResR.tmp (a := .d _) rfl | apply ResR.tmp (a := .ptr _ _ _ _ _) rfl | apply ResR.tmp (a := .own _ _ _) rfl | apply ResR.tmp (a := .agg _) rfl | apply ResR.tmp (a := .ref _) rfl | apply ResR.tmp (a := .tup _) rfl | apply ResR.tmp (a := .fn _ _) rfl | apply ResR.tmp (a := .dead) rfl | apply ResR.cell1 rfl rfl rfl rfl (by first | rfl | (simp [Cells.len] <;> omega)) (by first | rfl | exact data_get (map_at (by assumption)) | exact data_get (by assumption) | exact data_get (List.getElem?_set_self (by simp; omega)) | exact data_get (List.getElem?_set_self (by simpa using hlt))) rfl | apply ResR.cellN rfl rfl rfl rfl (by first | rfl | (simp [Cells.len] <;> omega)) (by first | rfl | exact data_get (map_at (by assumption)) | exact data_get (by assumption) | exact data_get (List.getElem?_set_self (by simp; omega)) | exact data_get (List.getElem?_set_self (by simpa using hlt))) (by repeat (first | exact Seg.z _ | apply Seg.t | apply Seg.d)))) (by repeat (first | exact abv_nil _ | exact abv_lks rfl | refine abv_upd ?_ rfl)) (by decide) (by decide) (by repeat (first | exact AtK.nil | refine AtK.data_ (by first | exact rfl | (exact eqData (by rw [turnR_f hd]; rfl))) ?_ | (apply AtK.cons rfl; (first | exact RenS.no | exact RenS.dead | exact RenS.data _ _ _ | (apply RenS.box; repeat (first | exact RenRL.nil | apply RenRL.cons | exact RenR.d _ | apply RenR.agg | apply RenR.tup | exact RenR.own _ _ _ _ rfl | exact RenR.ptr _ _ _ _ _ _ rfl | exact RenR.ref _ | apply RenR.fn | exact RenR.dead)) | exact RenS.gen _)))) ?_
    rw [turnR_f hd]; first | rfl | (simp only [hd]; rfl)
  · skip
    refine aw_skip ?_
    refine then_n ?_
    refine aw_seq ?_
    refine aw_region (is := [0, 1, 2]) rfl ?_
    refine rt_p rfl (want_none rfl) rfl (pu_build (C0 := [.d (.v (.slice none 0 0))]) tok rfl rfl (by repeat (first | exact Plc.nil | apply Plc.cons rfl)) rfl (by repeat (first | exact Bld.nil _ | apply Bld.cons (cs := [.d _]) rfl rfl rfl rfl (by repeat (first | exact Spl.z _ | apply Spl.t | apply Spl.d)) | apply Bld.cons (cs := [.own _ _ _]) rfl rfl rfl rfl (by repeat (first | exact Spl.z _ | apply Spl.t | apply Spl.d)) | apply Bld.cons (cs := [.ptr _ _ _ _ _]) rfl rfl rfl rfl (by repeat (first | exact Spl.z _ | apply Spl.t | apply Spl.d)) | apply Bld.cons (cs := [.fn _ _]) rfl rfl rfl rfl (by repeat (first | exact Spl.z _ | apply Spl.t | apply Spl.d)) | apply Bld.cons (cs := _ :: _) rfl rfl rfl rfl (by repeat (first | exact Spl.z _ | apply Spl.t | apply Spl.d))))) ?_
    refine rt_s rfl (want_none rfl) rfl (st_alloc 10 (cs := [.d (.v (.slice none 0 0))]) tok rfl rfl rfl) ?_
    refine rt_w0 rfl (want_none rfl) (wr_store (cs := _ :: _) tok rfl rfl rfl rfl rfl rfl rfl rfl (by first | rfl | (simp [Cells.len] <;> omega)) (by first | rfl | exact data_get (map_at (by assumption)) | exact data_get (by assumption) | exact data_get (List.getElem?_set_self (by simp; omega)) | exact data_get (List.getElem?_set_self (by simpa using hlt))) (by repeat (first | exact Spl.z _ | apply Spl.t | apply Spl.d)) (by first | exact SetC.box _ _ | exact SetC.data _ _ (by repeat (first | exact AllD.nil | apply AllD.cons)) | exact SetC.av _ _ _) (by first | exact SetO.one _ _ | exact SetO.gen _ _ _)) ?_
    refine rt_nil ?_
    refine then_n ?_
    refine aw_seq ?_
    refine aw_seq ?_
    refine aw_region (is := [0]) rfl ?_
    refine rt_p rfl (want_none rfl) rfl (pu_assign (r := .d _) rfl) ?_
    refine rt_nil ?_
    refine then_n ?_
    refine aw_block ?_
    have hd : drOk xs = true := by simpa using hc
    refine aw_weak (weak_adopt 11 rfl 80 7 (kb := 10) (j := 0) rfl rfl (by repeat (first | exact Spl.z _ | apply Spl.t | apply Spl.d))) ?_
    refine aw_loop (ι := {k : Nat // k ≤ xs.length}) (fun p => ⟨updA (updA (updA (updA (updA ((fun _ => .dead)) 1 (.ptr 3 0 1 0 0)) 2 (.ptr 4 0 1 0 0)) 3 (.d (.v (.int .i64 0)))) 4 (.ptr 10 0 1 0 0)) 5 (.d (.v (.int .i64 (p.1)))), lks [.no, .no, .no, .live [⟨29, 1, .av [[.d (.sl (shpsD xs))]]⟩], .live [⟨29, 1, .av [[.d (.v (.slice none 0 0))]]⟩], .no, .no, .no, .no, .no, .live [⟨29, 1, .av [[.own 11 0 (p.1)]]⟩], .live [⟨80, 7, .data (mapS (turn) xs p.1)⟩]]⟩) (fun p => xs.length - p.1) ⟨0, by omega⟩ ?_ ?_
    · (refine weak_of 200 (by repeat (first | exact abv_nil _ | exact abv_lks rfl | refine abv_upd ?_ rfl)) rfl (by repeat (first | exact WT.nil | refine WT.free_ rfl (by first | exact rfl | (exact eqData (mapS_0 (turn) xs).symm) | exact eqI (by omega) | exact eqI (by simp <;> fail) | exact eqI (by simp; omega) | exact eqOwn (by simp <;> fail) | exact eqOwn (by simp; omega) | (simp_all <;> fail)) ?_ | refine WT.ren_ (r' := _) rfl (by repeat (first | exact RenRL.nil | apply RenRL.cons | exact RenR.d _ | exact RenR.of_d (by first | (exact eqData (mapS_0 (turn) xs).symm) | exact eqI (by omega) | exact eqI (by simp <;> fail) | exact eqI (by simp; omega)) | apply RenR.agg | apply RenR.tup | exact RenR.own _ _ _ _ rfl | exact RenR.of_own (by first | rfl | (omega) | (simp <;> fail) | (simp; omega)) rfl | exact RenR.ptr _ _ _ _ _ _ rfl | exact RenR.ref _ | apply RenR.fn | exact RenR.dead)) ?_)) (by repeat (first | exact WH.nil _ | refine WH.data_ (by first | exact rfl | (exact eqData (mapS_0 (turn) xs).symm) | exact eqI (by omega) | exact eqI (by simp <;> fail) | exact eqI (by simp; omega) | exact eqOwn (by simp <;> fail) | exact eqOwn (by simp; omega) | (simp_all <;> fail)) ?_ | refine WH.cons (by first | exact rfl | (exact eqData (mapS_0 (turn) xs).symm) | exact eqI (by omega) | exact eqI (by simp <;> fail) | exact eqI (by simp; omega) | exact eqOwn (by simp <;> fail) | exact eqOwn (by simp; omega) | (simp_all <;> fail)) (by first | exact RenS.no | exact RenS.dead | exact RenS.data _ _ _ | (apply RenS.box; repeat (first | exact RenRL.nil | apply RenRL.cons | exact RenR.d _ | exact RenR.of_d (by first | (exact eqData (mapS_0 (turn) xs).symm) | exact eqI (by omega) | exact eqI (by simp <;> fail) | exact eqI (by simp; omega)) | apply RenR.agg | apply RenR.tup | exact RenR.own _ _ _ _ rfl | exact RenR.of_own (by first | rfl | (omega) | (simp <;> fail) | (simp; omega)) rfl | exact RenR.ptr _ _ _ _ _ _ rfl | exact RenR.ref _ | apply RenR.fn | exact RenR.dead)) | exact RenS.gen _) ?_)) rfl)
    · rintro ⟨k, hk⟩
      have hll := dr_len hd
      have hml := mapS_len (turn) xs k hk
      rcases Nat.lt_or_ge k xs.length with hlt | hge
      · skip
        obtain ⟨s, hs⟩ : ∃ s, xs[k]? = some s := ⟨_, List.getElem?_eq_getElem hlt⟩
        have hsl := sh_lim (dr_get hd hs)
        refine aw_seq ?_
        refine aw_seq ?_
        refine aw_region (is := [0, 1, 2, 3, 4]) rfl ?_
        refine rt_p rfl (want_none rfl) rfl (pu_move (r := .d _) rfl) ?_
        refine rt_l rfl (want_none rfl) rfl (li_fieldAddr tok rfl rfl rfl rfl rfl rfl rfl (by first | rfl | (simp [Cells.len] <;> omega)) (by first | rfl | exact data_get (map_at (by assumption)) | exact data_get (by assumption) | exact data_get (List.getElem?_set_self (by simp; omega)) | exact data_get (List.getElem?_set_self (by simpa using hlt)))) ?_
        refine rt_l rfl (want_none rfl) rfl (li_load1 tok rfl rfl rfl rfl (by first | rfl | (simp [Cells.len] <;> omega)) (by first | rfl | exact data_get (map_at (by assumption)) | exact data_get (by assumption) | exact data_get (List.getElem?_set_self (by simp; omega)) | exact data_get (List.getElem?_set_self (by simpa using hlt))) rfl) ?_
        refine rt_p rfl (want_none rfl) rfl (pu_len_map tok rfl rfl rfl) ?_
        refine rt_p rfl (want_none rfl) rfl (pu_lss rfl rfl) ?_
        refine rt_nil ?_
        refine then_n ?_
        refine aw_condP _ rfl (fun hc => ?_) (fun hc => ?_)
        · skip
          refine aw_skip ?_
          refine then_n ?_
          refine aw_seq ?_
          refine aw_block ?_
          refine aw_seq ?_
          refine aw_region (is := [0, 1, 2, 3, 4, 5, 6]) rfl ?_
          refine rt_l rfl (want_none rfl) rfl (li_fieldAddr tok rfl rfl rfl rfl rfl rfl rfl (by first | rfl | (simp [Cells.len] <;> omega)) (by first | rfl | exact data_get (map_at (by assumption)) | exact data_get (by assumption) | exact data_get (List.getElem?_set_self (by simp; omega)) | exact data_get (List.getElem?_set_self (by simpa using hlt)))) ?_
          refine rt_l rfl (want_none rfl) rfl (li_load1 tok rfl rfl rfl rfl (by first | rfl | (simp [Cells.len] <;> omega)) (by first | rfl | exact data_get (map_at (by assumption)) | exact data_get (by assumption) | exact data_get (List.getElem?_set_self (by simp; omega)) | exact data_get (List.getElem?_set_self (by simpa using hlt))) rfl) ?_
          refine rt_p rfl (want_none rfl) rfl (pu_move (r := .d _) rfl) ?_
          refine rt_p rfl (want_none rfl) rfl (pu_index_sl tok rfl rfl (by first | rfl | omega) rfl rfl rfl (by first | rfl | exact map_at (by assumption) | assumption) rfl) ?_
          refine rt_p rfl (want_none rfl) rfl (pu_load_refN tok rfl rfl rfl (by repeat (first | exact SegD.z _ | apply SegD.t))) ?_
          refine rt_s rfl (want_none rfl) rfl (st_alloc 12 (cs := [.d (.v (.int .i64 0)), .d (.v (.int .i64 0)), .d (.v (.int .i64 0)), .d (.v (.int .i64 0)), .d (.v (.int .i64 0)), .d (.v (.int .i64 0)), .d (.v (.string ⟨#[]⟩))]) tok rfl rfl rfl) ?_
          refine rt_w0 rfl (want_none rfl) (wr_store (cs := _ :: _) tok rfl rfl rfl rfl rfl rfl rfl rfl (by first | rfl | (simp [Cells.len] <;> omega)) (by first | rfl | exact data_get (map_at (by assumption)) | exact data_get (by assumption) | exact data_get (List.getElem?_set_self (by simp; omega)) | exact data_get (List.getElem?_set_self (by simpa using hlt))) (by repeat (first | exact Spl.z _ | apply Spl.t | apply Spl.d)) (by first | exact SetC.box _ _ | exact SetC.data _ _ (by repeat (first | exact AllD.nil | apply AllD.cons)) | exact SetC.av _ _ _) (by first | exact SetO.one _ _ | exact SetO.gen _ _ _)) ?_
          refine rt_nil ?_
          refine then_n ?_
          refine aw_region_draw (is := [0, 1, 2, 3, 4, 5, 6, 7, 8, 9, 10, 11, 12, 13, 14, 15, 16, 17, 18, 19, 20, 21, 22, 23]) follows ?_
          refine rt_lk rfl (want_none rfl) rfl (li_fieldAddr tok rfl rfl rfl rfl rfl rfl rfl (by first | rfl | (simp [Cells.len] <;> omega)) (by first | rfl | exact data_get (map_at (by assumption)) | exact data_get (by assumption) | exact data_get (List.getElem?_set_self (by simp; omega)) | exact data_get (List.getElem?_set_self (by simpa using hlt)))) rfl rfl rfl ?_
          refine rt_lk rfl (want_none rfl) rfl (li_load1 tok rfl rfl rfl rfl (by first | rfl | (simp [Cells.len] <;> omega)) (by first | rfl | exact data_get (map_at (by assumption)) | exact data_get (by assumption) | exact data_get (List.getElem?_set_self (by simp; omega)) | exact data_get (List.getElem?_set_self (by simpa using hlt))) rfl) rfl rfl rfl ?_
          refine rt_lk rfl (want_none rfl) rfl (li_loadN tok rfl rfl rfl rfl (by first | rfl | (simp [Cells.len] <;> omega)) (by first | rfl | exact data_get (map_at (by assumption)) | exact data_get (by assumption) | exact data_get (List.getElem?_set_self (by simp; omega)) | exact data_get (List.getElem?_set_self (by simpa using hlt))) (by repeat (first | exact Seg.z _ | apply Seg.t | apply Seg.d))) rfl rfl rfl ?_
          refine rt_lk rfl (want_none rfl) rfl (li_fieldAddr tok rfl rfl rfl rfl rfl rfl rfl (by first | rfl | (simp [Cells.len] <;> omega)) (by first | rfl | exact data_get (map_at (by assumption)) | exact data_get (by assumption) | exact data_get (List.getElem?_set_self (by simp; omega)) | exact data_get (List.getElem?_set_self (by simpa using hlt)))) rfl rfl rfl ?_
          refine rt_lk rfl (want_none rfl) rfl (li_fieldAddr tok rfl rfl rfl rfl rfl rfl rfl (by first | rfl | (simp [Cells.len] <;> omega)) (by first | rfl | exact data_get (map_at (by assumption)) | exact data_get (by assumption) | exact data_get (List.getElem?_set_self (by simp; omega)) | exact data_get (List.getElem?_set_self (by simpa using hlt)))) rfl rfl rfl ?_
          refine rt_lk rfl (want_none rfl) rfl (li_load1 tok rfl rfl rfl rfl (by first | rfl | (simp [Cells.len] <;> omega)) (by first | rfl | exact data_get (map_at (by assumption)) | exact data_get (by assumption) | exact data_get (List.getElem?_set_self (by simp; omega)) | exact data_get (List.getElem?_set_self (by simpa using hlt))) rfl) rfl rfl rfl ?_
          refine rt_p rfl (want_none rfl) rfl (pu_neg rfl (by omega) (by omega)) ?_
          refine rt_lk rfl (want_none rfl) rfl (li_fieldAddr tok rfl rfl rfl rfl rfl rfl rfl (by first | rfl | (simp [Cells.len] <;> omega)) (by first | rfl | exact data_get (map_at (by assumption)) | exact data_get (by assumption) | exact data_get (List.getElem?_set_self (by simp; omega)) | exact data_get (List.getElem?_set_self (by simpa using hlt)))) rfl rfl rfl ?_
          refine rt_lk rfl (want_none rfl) rfl (li_fieldAddr tok rfl rfl rfl rfl rfl rfl rfl (by first | rfl | (simp [Cells.len] <;> omega)) (by first | rfl | exact data_get (map_at (by assumption)) | exact data_get (by assumption) | exact data_get (List.getElem?_set_self (by simp; omega)) | exact data_get (List.getElem?_set_self (by simpa using hlt)))) rfl rfl rfl ?_
          refine rt_lk rfl (want_none rfl) rfl (li_load1 tok rfl rfl rfl rfl (by first | rfl | (simp [Cells.len] <;> omega)) (by first | rfl | exact data_get (map_at (by assumption)) | exact data_get (by assumption) | exact data_get (List.getElem?_set_self (by simp; omega)) | exact data_get (List.getElem?_set_self (by simpa using hlt))) rfl) rfl rfl rfl ?_
          refine rt_p rfl (want_none rfl) rfl (pu_build (C0 := [.d (.v (.int .i64 0)), .d (.v (.int .i64 0))]) tok rfl rfl (by repeat (first | exact Plc.nil | apply Plc.cons rfl)) rfl (by repeat (first | exact Bld.nil _ | apply Bld.cons (cs := [.d _]) rfl rfl rfl rfl (by repeat (first | exact Spl.z _ | apply Spl.t | apply Spl.d)) | apply Bld.cons (cs := [.own _ _ _]) rfl rfl rfl rfl (by repeat (first | exact Spl.z _ | apply Spl.t | apply Spl.d)) | apply Bld.cons (cs := [.ptr _ _ _ _ _]) rfl rfl rfl rfl (by repeat (first | exact Spl.z _ | apply Spl.t | apply Spl.d)) | apply Bld.cons (cs := [.fn _ _]) rfl rfl rfl rfl (by repeat (first | exact Spl.z _ | apply Spl.t | apply Spl.d)) | apply Bld.cons (cs := _ :: _) rfl rfl rfl rfl (by repeat (first | exact Spl.z _ | apply Spl.t | apply Spl.d))))) ?_
          refine rt_lk rfl (want_none rfl) rfl (li_fieldAddr tok rfl rfl rfl rfl rfl rfl rfl (by first | rfl | (simp [Cells.len] <;> omega)) (by first | rfl | exact data_get (map_at (by assumption)) | exact data_get (by assumption) | exact data_get (List.getElem?_set_self (by simp; omega)) | exact data_get (List.getElem?_set_self (by simpa using hlt)))) rfl rfl rfl ?_
          refine rt_lk rfl (want_none rfl) rfl (li_fieldAddr tok rfl rfl rfl rfl rfl rfl rfl (by first | rfl | (simp [Cells.len] <;> omega)) (by first | rfl | exact data_get (map_at (by assumption)) | exact data_get (by assumption) | exact data_get (List.getElem?_set_self (by simp; omega)) | exact data_get (List.getElem?_set_self (by simpa using hlt)))) rfl rfl rfl ?_
          refine rt_lk rfl (want_none rfl) rfl (li_load1 tok rfl rfl rfl rfl (by first | rfl | (simp [Cells.len] <;> omega)) (by first | rfl | exact data_get (map_at (by assumption)) | exact data_get (by assumption) | exact data_get (List.getElem?_set_self (by simp; omega)) | exact data_get (List.getElem?_set_self (by simpa using hlt))) rfl) rfl rfl rfl ?_
          refine rt_p rfl (want_none rfl) rfl (pu_neg rfl (by omega) (by omega)) ?_
          refine rt_lk rfl (want_none rfl) rfl (li_fieldAddr tok rfl rfl rfl rfl rfl rfl rfl (by first | rfl | (simp [Cells.len] <;> omega)) (by first | rfl | exact data_get (map_at (by assumption)) | exact data_get (by assumption) | exact data_get (List.getElem?_set_self (by simp; omega)) | exact data_get (List.getElem?_set_self (by simpa using hlt)))) rfl rfl rfl ?_
          refine rt_lk rfl (want_none rfl) rfl (li_fieldAddr tok rfl rfl rfl rfl rfl rfl rfl (by first | rfl | (simp [Cells.len] <;> omega)) (by first | rfl | exact data_get (map_at (by assumption)) | exact data_get (by assumption) | exact data_get (List.getElem?_set_self (by simp; omega)) | exact data_get (List.getElem?_set_self (by simpa using hlt)))) rfl rfl rfl ?_
          refine rt_lk rfl (want_none rfl) rfl (li_load1 tok rfl rfl rfl rfl (by first | rfl | (simp [Cells.len] <;> omega)) (by first | rfl | exact data_get (map_at (by assumption)) | exact data_get (by assumption) | exact data_get (List.getElem?_set_self (by simp; omega)) | exact data_get (List.getElem?_set_self (by simpa using hlt))) rfl) rfl rfl rfl ?_
          refine rt_p rfl (want_none rfl) rfl (pu_build (C0 := [.d (.v (.int .i64 0)), .d (.v (.int .i64 0))]) tok rfl rfl (by repeat (first | exact Plc.nil | apply Plc.cons rfl)) rfl (by repeat (first | exact Bld.nil _ | apply Bld.cons (cs := [.d _]) rfl rfl rfl rfl (by repeat (first | exact Spl.z _ | apply Spl.t | apply Spl.d)) | apply Bld.cons (cs := [.own _ _ _]) rfl rfl rfl rfl (by repeat (first | exact Spl.z _ | apply Spl.t | apply Spl.d)) | apply Bld.cons (cs := [.ptr _ _ _ _ _]) rfl rfl rfl rfl (by repeat (first | exact Spl.z _ | apply Spl.t | apply Spl.d)) | apply Bld.cons (cs := [.fn _ _]) rfl rfl rfl rfl (by repeat (first | exact Spl.z _ | apply Spl.t | apply Spl.d)) | apply Bld.cons (cs := _ :: _) rfl rfl rfl rfl (by repeat (first | exact Spl.z _ | apply Spl.t | apply Spl.d))))) ?_
          refine rt_c rfl (want_none rfl) rfl (sb_call 13 rfl rfl rfl (l25Two_a s.K s.AX s.AY s.BX s.BY s.R s.N (-s.AY) s.AX (-s.BY) s.BX) (by repeat (first | exact abv_nil _ | exact abv_lks rfl | refine abv_upd ?_ rfl)) (by repeat (first | exact RenRL.nil | apply RenRL.cons | exact RenR.d _ | apply RenR.agg | apply RenR.tup | exact RenR.own _ _ _ _ rfl | exact RenR.ptr _ _ _ _ _ _ rfl | exact RenR.ref _ | apply RenR.fn | exact RenR.dead)) (by repeat (first | exact BirR.nil _ _ | (apply BirR.cons; (first | exact RenS.no | exact RenS.dead | exact RenS.data _ _ _ | (apply RenS.box; repeat (first | exact RenRL.nil | apply RenRL.cons | exact RenR.d _ | apply RenR.agg | apply RenR.tup | exact RenR.own _ _ _ _ rfl | exact RenR.ptr _ _ _ _ _ _ rfl | exact RenR.ref _ | apply RenR.fn | exact RenR.dead)) | exact RenS.gen _))))) ?_
          refine rt_s rfl (want_none rfl) rfl (st_slice_val tok rfl rfl rfl (by repeat (first | exact Els.nil _ | apply Els.cons (cs := [.d _]) rfl rfl rfl | apply Els.cons (cs := [.own _ _ _]) rfl rfl rfl | apply Els.cons (cs := [.ptr _ _ _ _ _]) rfl rfl rfl | apply Els.cons (cs := [.fn _ _]) rfl rfl rfl | apply Els.cons (cs := _ :: _) rfl rfl rfl)) rfl rfl rfl (by repeat (first | exact AllDD.nil | (apply AllDD.cons; (repeat (first | exact AllD.nil | apply AllD.cons)))))) ?_
          refine rt_w rfl (want_none rfl) rfl (wr_append tok rfl rfl rfl rfl rfl rfl rfl rfl rfl (by first | rfl | (simp [Cells.len] <;> omega)) rfl rfl (by first | (simp; done) | (intro x hx; simp at hx; subst hx; rfl)) (by first | exact App.data _ _ | exact App.av _ _ | exact App.nil _) (by first | exact SetO.one _ _ | exact SetO.gen _ _ _) (by first | omega | (simp <;> omega)) (by first | omega | (simp <;> omega))) ?_
          refine rt_lk rfl (want_none rfl) rfl (li_fieldAddr tok rfl rfl rfl rfl rfl rfl rfl (by first | rfl | (simp [Cells.len] <;> omega)) (by first | rfl | exact data_get (map_at (by assumption)) | exact data_get (by assumption) | exact data_get (List.getElem?_set_self (by simp; omega)) | exact data_get (List.getElem?_set_self (by simpa using hlt)))) rfl rfl rfl ?_
          refine rt_wk rfl (want_none rfl) (wr_store (cs := [.own _ _ _]) tok rfl rfl rfl rfl rfl rfl rfl rfl (by first | rfl | (simp [Cells.len] <;> omega)) (by first | rfl | exact data_get (map_at (by assumption)) | exact data_get (by assumption) | exact data_get (List.getElem?_set_self (by simp; omega)) | exact data_get (List.getElem?_set_self (by simpa using hlt))) (by repeat (first | exact Spl.z _ | apply Spl.t | apply Spl.d)) (by first | exact SetC.box _ _ | exact SetC.data _ _ (by repeat (first | exact AllD.nil | apply AllD.cons)) | exact SetC.av _ _ _) (by first | exact SetO.one _ _ | exact SetO.gen _ _ _)) ?_
          refine rt_nil ?_
          refine ⟨by kernel_rfl, ?_⟩
          refine block_n ?_
          refine then_n ?_
          refine aw_region (is := [0, 1, 2]) rfl ?_
          refine rt_p rfl (want_none rfl) rfl (pu_move (r := .d _) rfl) ?_
          refine rt_p rfl (want_none rfl) rfl (pu_add rfl rfl (by omega) (by omega)) ?_
          refine rt_p rfl (want_none rfl) rfl (pu_assign (r := .d _) rfl) ?_
          refine rt_nil ?_
          refine then_n ?_
          refine ⟨⟨k + 1, by omega⟩, (by simp; omega), ?_⟩
          (refine weak_of 200 (by repeat (first | exact abv_nil _ | exact abv_lks rfl | refine abv_upd ?_ rfl)) rfl (by repeat (first | exact WT.nil | refine WT.free_ rfl (by first | exact rfl | (exact eqData (mapS_succ hs)) | exact eqI (by omega) | exact eqI (by simp <;> fail) | exact eqI (by simp; omega) | exact eqOwn (by simp <;> fail) | exact eqOwn (by simp; omega) | (simp_all <;> fail)) ?_ | refine WT.ren_ (r' := _) rfl (by repeat (first | exact RenRL.nil | apply RenRL.cons | exact RenR.d _ | exact RenR.of_d (by first | (exact eqData (mapS_succ hs)) | exact eqI (by omega) | exact eqI (by simp <;> fail) | exact eqI (by simp; omega)) | apply RenR.agg | apply RenR.tup | exact RenR.own _ _ _ _ rfl | exact RenR.of_own (by first | rfl | (omega) | (simp <;> fail) | (simp; omega)) rfl | exact RenR.ptr _ _ _ _ _ _ rfl | exact RenR.ref _ | apply RenR.fn | exact RenR.dead)) ?_)) (by repeat (first | exact WH.nil _ | refine WH.data_ (by first | exact rfl | (exact eqData (mapS_succ hs)) | exact eqI (by omega) | exact eqI (by simp <;> fail) | exact eqI (by simp; omega) | exact eqOwn (by simp <;> fail) | exact eqOwn (by simp; omega) | (simp_all <;> fail)) ?_ | refine WH.cons (by first | exact rfl | (exact eqData (mapS_succ hs)) | exact eqI (by omega) | exact eqI (by simp <;> fail) | exact eqI (by simp; omega) | exact eqOwn (by simp <;> fail) | exact eqOwn (by simp; omega) | (simp_all <;> fail)) (by first | exact RenS.no | exact RenS.dead | exact RenS.data _ _ _ | (apply RenS.box; repeat (first | exact RenRL.nil | apply RenRL.cons | exact RenR.d _ | exact RenR.of_d (by first | (exact eqData (mapS_succ hs)) | exact eqI (by omega) | exact eqI (by simp <;> fail) | exact eqI (by simp; omega)) | apply RenR.agg | apply RenR.tup | exact RenR.own _ _ _ _ rfl | exact RenR.of_own (by first | rfl | (omega) | (simp <;> fail) | (simp; omega)) rfl | exact RenR.ptr _ _ _ _ _ _ rfl | exact RenR.ref _ | apply RenR.fn | exact RenR.dead)) | exact RenS.gen _) ?_)) rfl)
        · exfalso; simp at hc; omega
      · skip
        obtain rfl : k = xs.length := by omega
        refine aw_seq ?_
        refine aw_seq ?_
        refine aw_region (is := [0, 1, 2, 3, 4]) rfl ?_
        refine rt_p rfl (want_none rfl) rfl (pu_move (r := .d _) rfl) ?_
        refine rt_l rfl (want_none rfl) rfl (li_fieldAddr tok rfl rfl rfl rfl rfl rfl rfl (by first | rfl | (simp [Cells.len] <;> omega)) (by first | rfl | exact data_get (map_at (by assumption)) | exact data_get (by assumption) | exact data_get (List.getElem?_set_self (by simp; omega)) | exact data_get (List.getElem?_set_self (by simpa using hlt)))) ?_
        refine rt_l rfl (want_none rfl) rfl (li_load1 tok rfl rfl rfl rfl (by first | rfl | (simp [Cells.len] <;> omega)) (by first | rfl | exact data_get (map_at (by assumption)) | exact data_get (by assumption) | exact data_get (List.getElem?_set_self (by simp; omega)) | exact data_get (List.getElem?_set_self (by simpa using hlt))) rfl) ?_
        refine rt_p rfl (want_none rfl) rfl (pu_len_map tok rfl rfl rfl) ?_
        refine rt_p rfl (want_none rfl) rfl (pu_lss rfl rfl) ?_
        refine rt_nil ?_
        refine then_n ?_
        refine aw_condP _ rfl (fun hc => ?_) (fun hc => ?_)
        · exfalso; simp at hc; done
        · skip
          refine aw_exit ?_
          refine then_e ?_
          refine then_e ?_
          refine block_hit ?_
          refine then_n ?_
          refine aw_seq ?_
          refine aw_region (is := [0, 1, 2]) rfl ?_
          refine rt_l rfl (want_none rfl) rfl (li_loadN tok rfl rfl rfl rfl (by first | rfl | (simp [Cells.len] <;> omega)) (by first | rfl | exact data_get (map_at (by assumption)) | exact data_get (by assumption) | exact data_get (List.getElem?_set_self (by simp; omega)) | exact data_get (List.getElem?_set_self (by simpa using hlt))) (by repeat (first | exact Seg.z _ | apply Seg.t | apply Seg.d))) ?_
          refine rt_w0 rfl (want_none rfl) (wr_store (cs := _ :: _) tok rfl rfl rfl rfl rfl rfl rfl rfl (by first | rfl | (simp [Cells.len] <;> omega)) (by first | rfl | exact data_get (map_at (by assumption)) | exact data_get (by assumption) | exact data_get (List.getElem?_set_self (by simp; omega)) | exact data_get (List.getElem?_set_self (by simpa using hlt))) (by repeat (first | exact Spl.z _ | apply Spl.t | apply Spl.d)) (by first | exact SetC.box _ _ | exact SetC.data _ _ (by repeat (first | exact AllD.nil | apply AllD.cons)) | exact SetC.av _ _ _) (by first | exact SetO.one _ _ | exact SetO.gen _ _ _)) ?_
          refine rt_p rfl (want_none rfl) rfl (pu_assign (r := .d _) rfl) ?_
          refine rt_nil ?_
          refine then_n ?_
          refine aw_ret ?_
          refine retK (rs := [.cell 2 29, .tmp 3]) [11] 200 rfl (by repeat (first | exact ResR.nil | apply ResR.tmp (a := .d _) rfl | apply ResR.tmp (a := .ptr _ _ _ _ _) rfl | apply ResR.tmp (a := .own _ _ _) rfl | apply ResR.tmp (a := .agg _) rfl | apply ResR.tmp (a := .ref _) rfl | apply ResR.tmp (a := .tup _) rfl | apply ResR.tmp (a := .fn _ _) rfl | apply ResR.tmp (a := .dead) rfl | apply ResR.cell1 rfl rfl rfl rfl (by first | rfl | (simp [Cells.len] <;> omega)) (by first | rfl | exact data_get (map_at (by assumption)) | exact data_get (by assumption) | exact data_get (List.getElem?_set_self (by simp; omega)) | exact data_get (List.getElem?_set_self (by simpa using hlt))) rfl | apply ResR.cellN rfl rfl rfl rfl (by first | rfl | (simp [Cells.len] <;> omega)) (by first | rfl | exact data_get (map_at (by assumption)) | exact data_get (by assumption) | exact data_get (List.getElem?_set_self (by simp; omega)) | exact data_get (List.getElem?_set_self (by simpa using hlt))) (by repeat (first | exact Seg.z _ | apply Seg.t | apply Seg.d)))) (by repeat (first | exact abv_nil _ | exact abv_lks rfl | refine abv_upd ?_ rfl)) (by decide) (by decide) (by repeat (first | exact AtK.nil | refine AtK.data_ (by first | exact rfl | (exact eqData (by rw [turnR_t hd]; exact mapS_all turn xs))) ?_ | (apply AtK.cons rfl; (first | exact RenS.no | exact RenS.dead | exact RenS.data _ _ _ | (apply RenS.box; repeat (first | exact RenRL.nil | apply RenRL.cons | exact RenR.d _ | apply RenR.agg | apply RenR.tup | exact RenR.own _ _ _ _ rfl | exact RenR.ptr _ _ _ _ _ _ rfl | exact RenR.ref _ | apply RenR.fn | exact RenR.dead)) | exact RenS.gen _)))) ?_
          first | rfl | (simp only [turnR_t hd, hd, List.length_map]; rfl)
theorem sf_shps (t z : Nat) (ys : List Shp) : SFlat (.live [⟨t, z, .data (shpsD ys)⟩]) := by
  intro o ho
  simp only [List.mem_singleton] at ho
  subst ho
  intro e he x hx
  simp only [shpsD, List.mem_map] at he
  obtain ⟨s, _, rfl⟩ := he
  simp only [shpD, List.mem_cons, List.not_mem_nil, or_false] at hx
  rcases hx with rfl | rfl | rfl | rfl | rfl | rfl | rfl <;> rfl
end Go.Proofs.Ytplnohfjeilodaa
