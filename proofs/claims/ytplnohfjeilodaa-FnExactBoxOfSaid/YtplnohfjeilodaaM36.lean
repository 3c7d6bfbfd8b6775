/- boxes of drawings, corners -/
import Derived.Test.YtplnohfjeilodaaTab
import Derived.Test.YtplnohfjeilodaaM35
import Derived.Test.YtplnohfjeilodaaProg
namespace Go.Proofs.Ytplnohfjeilodaa
open Go.RowKit
set_option linter.unusedVariables false
set_option maxRecDepth 100000
theorem ip1 {s : Shp} (h : s.K = 1) : imPts s = [(s.AX, s.AY), (s.BX, s.BY)] := if_pos h
theorem ip2 {s : Shp} (h : s.K = 2) : imPts s = [(s.AX - s.R, s.AY - s.R), (s.AX + s.R, s.AY + s.R)] := (if_neg (by omega)).trans (if_pos h)
theorem ip3 {s : Shp} (h : ¬ s.K = 1) (h2 : ¬ s.K = 2) : imPts s = [(s.AX, s.AY)] := (if_neg h).trans (if_neg h2)
def c0p (s : Shp) : Int × Int := if s.K = 2 then (s.AX - s.R, s.AY - s.R) else (s.AX, s.AY)
theorem imPts_0 (s : Shp) : (imPts s)[0]? = some (c0p s) := by
  unfold imPts c0p
  split
  · rename_i h; rw [if_neg (by omega)]; rfl
  · split <;> rfl
def c0 (xs : List Shp) : Bx := match xs with | [] => ⟨0, 0, 0, 0⟩ | s :: _ => ⟨(c0p s).1, (c0p s).2, (c0p s).1, (c0p s).2⟩
theorem c0_get {xs : List Shp} {s : Shp} (h : xs[0]? = some s) : c0 xs = ⟨(c0p s).1, (c0p s).2, (c0p s).1, (c0p s).2⟩ := by
  cases xs with
  | nil => simp at h
  | cons x xs => simp at h; subst h; rfl
theorem fb_min (b : Bx) (p : Int × Int) : fb b p = ⟨min b.lx p.1, min b.ly p.2, max b.hx p.1, max b.hy p.2⟩ := by
  unfold fb
  congr 1 <;> split <;> omega
theorem fold_eq {s : Shp} (h : shB s = true) (b : Bx) : (spPts s).foldl fb b = (imPts s).foldl fb b := by
  by_cases h1 : s.K = 1
  · rw [sp1 h1, ip1 h1]
  · by_cases h2 : s.K = 2
    · have := sh_r h h2
      rw [sp2 h2, ip2 h2]
      simp only [List.foldl, fb_min]
      congr 1 <;> omega
    · rw [sp3 h1 h2, ip3 h1 h2]
theorem fold_0 {s : Shp} (h : shB s = true) : (spPts s).foldl fb ⟨s.AX, s.AY, s.AX, s.AY⟩ = (imPts s).foldl fb ⟨(c0p s).1, (c0p s).2, (c0p s).1, (c0p s).2⟩ := by
  by_cases h1 : s.K = 1
  · rw [sp1 h1, ip1 h1]; unfold c0p; rw [if_neg (by omega)]
  · by_cases h2 : s.K = 2
    · have := sh_r h h2
      rw [sp2 h2, ip2 h2]; unfold c0p; rw [if_pos h2]
      simp only [List.foldl, fb_min]
      congr 1 <;> omega
    · rw [sp3 h1 h2, ip3 h1 h2]; unfold c0p; rw [if_neg h2]
theorem folds_eq (xs : List Shp) (b : Bx) (h : ∀ s ∈ xs, shB s = true) : xs.foldl (fun b s => (spPts s).foldl fb b) b = xs.foldl (fun b s => (imPts s).foldl fb b) b := by
  induction xs generalizing b with
  | nil => rfl
  | cons s xs ih =>
    simp only [List.foldl_cons]
    rw [fold_eq (h s (List.mem_cons_self ..)), ih _ fun s hs => h s (List.mem_cons_of_mem _ hs)]
theorem box_eq {xs : List Shp} (h : drOk xs = true) : bxT imPts (c0 xs) xs xs.length = bxT spPts (a0 xs) xs xs.length := by
  unfold bxT
  rw [List.take_length]
  have hv : ∀ s ∈ xs, shB s = true := by
    unfold drOk at h
    simp only [Bool.and_eq_true, List.all_eq_true] at h
    exact h.1
  cases xs with
  | nil => rfl
  | cons s xs =>
    simp only [List.foldl_cons]
    rw [← folds_eq _ _ fun s hs => hv s (List.mem_cons_of_mem _ hs)]
    show xs.foldl _ ((imPts s).foldl fb ⟨(c0p s).1, (c0p s).2, (c0p s).1, (c0p s).2⟩) = xs.foldl _ ((spPts s).foldl fb ⟨s.AX, s.AY, s.AX, s.AY⟩)
    rw [fold_0 (hv s (List.mem_cons_self ..))]
theorem corners_a (s : Shp) (hsl : -100000 ≤ s.AX ∧ s.AX ≤ 100000 ∧ -100000 ≤ s.AY ∧ s.AY ≤ 100000) (hsr : s.K = 2 → 1 ≤ s.R ∧ s.R ≤ 100000) : FnC Try.prog 67 [] [.agg [.d (.v (.int .i64 (s.K))), .d (.v (.int .i64 (s.AX))), .d (.v (.int .i64 (s.AY))), .d (.v (.int .i64 (s.BX))), .d (.v (.int .i64 (s.BY))), .d (.v (.int .i64 (s.R))), .d (.v (.string (s.N)))]] [.live [⟨39, 2, .data (ptsD (imPts s))⟩]] (.own 0 0 (imPts s).length) := by
  refine fnc_intro (T := tt) (N := 44) tok Try.func67 rfl rfl (by kernel_rfl) rfl rfl ?_
  refine aw_seq ?_
  refine aw_region (is := [0, 1]) rfl ?_
  refine rt_s rfl (want_none rfl) rfl (st_box 3 (cs := _ :: _) rfl rfl rfl) ?_
  refine rt_p rfl (want_none rfl) rfl (pu_assign (r := .d _) rfl) ?_
  refine rt_nil ?_
  refine then_n ?_
  refine aw_seq ?_
  refine aw_seq ?_
  refine aw_region (is := [0, 1]) rfl ?_
  refine rt_l rfl (want_none rfl) rfl (li_fieldAddr tok rfl rfl rfl rfl rfl rfl rfl (by first | rfl | (simp [Cells.len] <;> omega)) (by first | rfl | exact data_get (map_at (by assumption)) | exact data_get (by assumption) | exact data_get (List.getElem?_set_self (by simp; omega)) | exact data_get (List.getElem?_set_self (by simpa using hlt)))) ?_
  refine rt_l rfl (want_none rfl) rfl (li_load1 tok rfl rfl rfl rfl (by first | rfl | (simp [Cells.len] <;> omega)) (by first | rfl | exact data_get (map_at (by assumption)) | exact data_get (by assumption) | exact data_get (List.getElem?_set_self (by simp; omega)) | exact data_get (List.getElem?_set_self (by simpa using hlt))) rfl) ?_
  refine rt_nil ?_
  refine then_n ?_
  refine aw_block ?_
  refine aw_seq ?_
  refine aw_region (is := [0, 1]) rfl ?_
  refine rt_p rfl (want_none rfl) rfl (pu_eql rfl rfl) ?_
  refine rt_p rfl (want_none rfl) rfl (pu_assign (r := .d _) rfl) ?_
  refine rt_nil ?_
  refine then_n ?_
  refine aw_condP _ rfl (fun hc => ?_) (fun hc => ?_)
  · skip
    try (have hsr2 := hsr hc)
    try (have hpe := ip1 hc)
    try (have hpe := ip2 hc)
    try (have hpe := ip3 ‹¬ s.K = 1› hc)
    refine aw_seq ?_
    refine aw_region (is := [0, 1, 2, 3, 4, 5]) rfl ?_
    refine rt_l rfl (want_none rfl) rfl (li_fieldAddr tok rfl rfl rfl rfl rfl rfl rfl (by first | rfl | (simp [Cells.len] <;> omega)) (by first | rfl | exact data_get (map_at (by assumption)) | exact data_get (by assumption) | exact data_get (List.getElem?_set_self (by simp; omega)) | exact data_get (List.getElem?_set_self (by simpa using hlt)))) ?_
    refine rt_l rfl (want_none rfl) rfl (li_loadN tok rfl rfl rfl rfl (by first | rfl | (simp [Cells.len] <;> omega)) (by first | rfl | exact data_get (map_at (by assumption)) | exact data_get (by assumption) | exact data_get (List.getElem?_set_self (by simp; omega)) | exact data_get (List.getElem?_set_self (by simpa using hlt))) (by repeat (first | exact Seg.z _ | apply Seg.t | apply Seg.d))) ?_
    refine rt_l rfl (want_none rfl) rfl (li_fieldAddr tok rfl rfl rfl rfl rfl rfl rfl (by first | rfl | (simp [Cells.len] <;> omega)) (by first | rfl | exact data_get (map_at (by assumption)) | exact data_get (by assumption) | exact data_get (List.getElem?_set_self (by simp; omega)) | exact data_get (List.getElem?_set_self (by simpa using hlt)))) ?_
    refine rt_l rfl (want_none rfl) rfl (li_loadN tok rfl rfl rfl rfl (by first | rfl | (simp [Cells.len] <;> omega)) (by first | rfl | exact data_get (map_at (by assumption)) | exact data_get (by assumption) | exact data_get (List.getElem?_set_self (by simp; omega)) | exact data_get (List.getElem?_set_self (by simpa using hlt))) (by repeat (first | exact Seg.z _ | apply Seg.t | apply Seg.d))) ?_
    refine rt_s rfl (want_none rfl) rfl (st_slice 4 tok rfl rfl rfl (by repeat (first | exact Els.nil _ | apply Els.cons (cs := [.d _]) rfl rfl rfl | apply Els.cons (cs := [.own _ _ _]) rfl rfl rfl | apply Els.cons (cs := [.ptr _ _ _ _ _]) rfl rfl rfl | apply Els.cons (cs := [.fn _ _]) rfl rfl rfl | apply Els.cons (cs := _ :: _) rfl rfl rfl)) rfl rfl rfl (by first | exact Lay.data (by repeat (first | exact AllDD.nil | (apply AllDD.cons; (repeat (first | exact AllD.nil | apply AllD.cons))))) | exact Lay.av _) rfl) ?_
    refine rt_p rfl (want_none rfl) rfl (pu_assign (r := .own _ _ _) rfl) ?_
    refine rt_nil ?_
    refine then_n ?_
    refine aw_ret ?_
    refine block_r ?_
    refine then_r ?_
    refine retK (rs := [.tmp 2]) [4] 200 rfl (by repeat (first | exact ResR.nil | apply ResR.tmp (a := .d _) rfl | apply ResR.tmp (a := .ptr _ _ _ _ _) rfl | apply ResR.tmp (a := .own _ _ _) rfl | apply ResR.tmp (a := .agg _) rfl | apply ResR.tmp (a := .ref _) rfl | apply ResR.tmp (a := .tup _) rfl | apply ResR.tmp (a := .fn _ _) rfl | apply ResR.tmp (a := .dead) rfl | apply ResR.cell1 rfl rfl rfl rfl (by first | rfl | (simp [Cells.len] <;> omega)) (by first | rfl | exact data_get (map_at (by assumption)) | exact data_get (by assumption) | exact data_get (List.getElem?_set_self (by simp; omega)) | exact data_get (List.getElem?_set_self (by simpa using hlt))) rfl | apply ResR.cellN rfl rfl rfl rfl (by first | rfl | (simp [Cells.len] <;> omega)) (by first | rfl | exact data_get (map_at (by assumption)) | exact data_get (by assumption) | exact data_get (List.getElem?_set_self (by simp; omega)) | exact data_get (List.getElem?_set_self (by simpa using hlt))) (by repeat (first | exact Seg.z _ | apply Seg.t | apply Seg.d)))) (by repeat (first | exact abv_nil _ | exact abv_lks rfl | refine abv_upd ?_ rfl)) (by decide) (by decide) (by repeat (first | exact AtK.nil | refine AtK.data_ (by first | exact rfl | (exact eqData (by rw [hpe] <;> rfl))) ?_ | (apply AtK.cons rfl; (first | exact RenS.no | exact RenS.dead | exact RenS.data _ _ _ | (apply RenS.box; repeat (first | exact RenRL.nil | apply RenRL.cons | exact RenR.d _ | apply RenR.agg | apply RenR.tup | exact RenR.own _ _ _ _ rfl | exact RenR.ptr _ _ _ _ _ _ rfl | exact RenR.ref _ | apply RenR.fn | exact RenR.dead)) | exact RenS.gen _)))) ?_
    rw [hpe]; rfl
  · skip
    try (have hsr2 := hsr hc)
    try (have hpe := ip1 hc)
    try (have hpe := ip2 hc)
    try (have hpe := ip3 ‹¬ s.K = 1› hc)
    refine aw_seq ?_
    refine aw_region (is := [0, 1]) rfl ?_
    refine rt_p rfl (want_none rfl) rfl (pu_eql rfl rfl) ?_
    refine rt_p rfl (want_none rfl) rfl (pu_assign (r := .d _) rfl) ?_
    refine rt_nil ?_
    refine then_n ?_
    refine aw_condP _ rfl (fun hc => ?_) (fun hc => ?_)
    · skip
      try (have hsr2 := hsr hc)
      try (have hpe := ip1 hc)
      try (have hpe := ip2 hc)
      try (have hpe := ip3 ‹¬ s.K = 1› hc)
      refine aw_seq ?_
      refine aw_region (is := [0, 1, 2, 3, 4, 5, 6, 7, 8, 9, 10, 11, 12, 13, 14, 15, 16, 17, 18, 19, 20, 21, 22, 23, 24, 25, 26, 27]) rfl ?_
      refine rt_l rfl (want_none rfl) rfl (li_fieldAddr tok rfl rfl rfl rfl rfl rfl rfl (by first | rfl | (simp [Cells.len] <;> omega)) (by first | rfl | exact data_get (map_at (by assumption)) | exact data_get (by assumption) | exact data_get (List.getElem?_set_self (by simp; omega)) | exact data_get (List.getElem?_set_self (by simpa using hlt)))) ?_
      refine rt_l rfl (want_none rfl) rfl (li_fieldAddr tok rfl rfl rfl rfl rfl rfl rfl (by first | rfl | (simp [Cells.len] <;> omega)) (by first | rfl | exact data_get (map_at (by assumption)) | exact data_get (by assumption) | exact data_get (List.getElem?_set_self (by simp; omega)) | exact data_get (List.getElem?_set_self (by simpa using hlt)))) ?_
      refine rt_l rfl (want_none rfl) rfl (li_load1 tok rfl rfl rfl rfl (by first | rfl | (simp [Cells.len] <;> omega)) (by first | rfl | exact data_get (map_at (by assumption)) | exact data_get (by assumption) | exact data_get (List.getElem?_set_self (by simp; omega)) | exact data_get (List.getElem?_set_self (by simpa using hlt))) rfl) ?_
      refine rt_l rfl (want_none rfl) rfl (li_fieldAddr tok rfl rfl rfl rfl rfl rfl rfl (by first | rfl | (simp [Cells.len] <;> omega)) (by first | rfl | exact data_get (map_at (by assumption)) | exact data_get (by assumption) | exact data_get (List.getElem?_set_self (by simp; omega)) | exact data_get (List.getElem?_set_self (by simpa using hlt)))) ?_
      refine rt_l rfl (want_none rfl) rfl (li_load1 tok rfl rfl rfl rfl (by first | rfl | (simp [Cells.len] <;> omega)) (by first | rfl | exact data_get (map_at (by assumption)) | exact data_get (by assumption) | exact data_get (List.getElem?_set_self (by simp; omega)) | exact data_get (List.getElem?_set_self (by simpa using hlt))) rfl) ?_
      refine rt_p rfl (want_none rfl) rfl (pu_sub rfl rfl (by omega) (by omega)) ?_
      refine rt_l rfl (want_none rfl) rfl (li_fieldAddr tok rfl rfl rfl rfl rfl rfl rfl (by first | rfl | (simp [Cells.len] <;> omega)) (by first | rfl | exact data_get (map_at (by assumption)) | exact data_get (by assumption) | exact data_get (List.getElem?_set_self (by simp; omega)) | exact data_get (List.getElem?_set_self (by simpa using hlt)))) ?_
      refine rt_l rfl (want_none rfl) rfl (li_fieldAddr tok rfl rfl rfl rfl rfl rfl rfl (by first | rfl | (simp [Cells.len] <;> omega)) (by first | rfl | exact data_get (map_at (by assumption)) | exact data_get (by assumption) | exact data_get (List.getElem?_set_self (by simp; omega)) | exact data_get (List.getElem?_set_self (by simpa using hlt)))) ?_
      refine rt_l rfl (want_none rfl) rfl (li_load1 tok rfl rfl rfl rfl (by first | rfl | (simp [Cells.len] <;> omega)) (by first | rfl | exact data_get (map_at (by assumption)) | exact data_get (by assumption) | exact data_get (List.getElem?_set_self (by simp; omega)) | exact data_get (List.getElem?_set_self (by simpa using hlt))) rfl) ?_
      refine rt_l rfl (want_none rfl) rfl (li_fieldAddr tok rfl rfl rfl rfl rfl rfl rfl (by first | rfl | (simp [Cells.len] <;> omega)) (by first | rfl | exact data_get (map_at (by assumption)) | exact data_get (by assumption) | exact data_get (List.getElem?_set_self (by simp; omega)) | exact data_get (List.getElem?_set_self (by simpa using hlt)))) ?_
      refine rt_l rfl (want_none rfl) rfl (li_load1 tok rfl rfl rfl rfl (by first | rfl | (simp [Cells.len] <;> omega)) (by first | rfl | exact data_get (map_at (by assumption)) | exact data_get (by assumption) | exact data_get (List.getElem?_set_self (by simp; omega)) | exact data_get (List.getElem?_set_self (by simpa using hlt))) rfl) ?_
      refine rt_p rfl (want_none rfl) rfl (pu_sub rfl rfl (by omega) (by omega)) ?_
      refine rt_p rfl (want_none rfl) rfl (pu_build (C0 := [.d (.v (.int .i64 0)), .d (.v (.int .i64 0))]) tok rfl rfl (by repeat (first | exact Plc.nil | apply Plc.cons rfl)) rfl (by repeat (first | exact Bld.nil _ | apply Bld.cons (cs := [.d _]) rfl rfl rfl rfl (by repeat (first | exact Spl.z _ | apply Spl.t | apply Spl.d)) | apply Bld.cons (cs := [.own _ _ _]) rfl rfl rfl rfl (by repeat (first | exact Spl.z _ | apply Spl.t | apply Spl.d)) | apply Bld.cons (cs := [.ptr _ _ _ _ _]) rfl rfl rfl rfl (by repeat (first | exact Spl.z _ | apply Spl.t | apply Spl.d)) | apply Bld.cons (cs := [.fn _ _]) rfl rfl rfl rfl (by repeat (first | exact Spl.z _ | apply Spl.t | apply Spl.d)) | apply Bld.cons (cs := _ :: _) rfl rfl rfl rfl (by repeat (first | exact Spl.z _ | apply Spl.t | apply Spl.d))))) ?_
      refine rt_l rfl (want_none rfl) rfl (li_fieldAddr tok rfl rfl rfl rfl rfl rfl rfl (by first | rfl | (simp [Cells.len] <;> omega)) (by first | rfl | exact data_get (map_at (by assumption)) | exact data_get (by assumption) | exact data_get (List.getElem?_set_self (by simp; omega)) | exact data_get (List.getElem?_set_self (by simpa using hlt)))) ?_
      refine rt_l rfl (want_none rfl) rfl (li_fieldAddr tok rfl rfl rfl rfl rfl rfl rfl (by first | rfl | (simp [Cells.len] <;> omega)) (by first | rfl | exact data_get (map_at (by assumption)) | exact data_get (by assumption) | exact data_get (List.getElem?_set_self (by simp; omega)) | exact data_get (List.getElem?_set_self (by simpa using hlt)))) ?_
      refine rt_l rfl (want_none rfl) rfl (li_load1 tok rfl rfl rfl rfl (by first | rfl | (simp [Cells.len] <;> omega)) (by first | rfl | exact data_get (map_at (by assumption)) | exact data_get (by assumption) | exact data_get (List.getElem?_set_self (by simp; omega)) | exact data_get (List.getElem?_set_self (by simpa using hlt))) rfl) ?_
      refine rt_l rfl (want_none rfl) rfl (li_fieldAddr tok rfl rfl rfl rfl rfl rfl rfl (by first | rfl | (simp [Cells.len] <;> omega)) (by first | rfl | exact data_get (map_at (by assumption)) | exact data_get (by assumption) | exact data_get (List.getElem?_set_self (by simp; omega)) | exact data_get (List.getElem?_set_self (by simpa using hlt)))) ?_
      refine rt_l rfl (want_none rfl) rfl (li_load1 tok rfl rfl rfl rfl (by first | rfl | (simp [Cells.len] <;> omega)) (by first | rfl | exact data_get (map_at (by assumption)) | exact data_get (by assumption) | exact data_get (List.getElem?_set_self (by simp; omega)) | exact data_get (List.getElem?_set_self (by simpa using hlt))) rfl) ?_
      refine rt_p rfl (want_none rfl) rfl (pu_add rfl rfl (by omega) (by omega)) ?_
      refine rt_l rfl (want_none rfl) rfl (li_fieldAddr tok rfl rfl rfl rfl rfl rfl rfl (by first | rfl | (simp [Cells.len] <;> omega)) (by first | rfl | exact data_get (map_at (by assumption)) | exact data_get (by assumption) | exact data_get (List.getElem?_set_self (by simp; omega)) | exact data_get (List.getElem?_set_self (by simpa using hlt)))) ?_
      refine rt_l rfl (want_none rfl) rfl (li_fieldAddr tok rfl rfl rfl rfl rfl rfl rfl (by first | rfl | (simp [Cells.len] <;> omega)) (by first | rfl | exact data_get (map_at (by assumption)) | exact data_get (by assumption) | exact data_get (List.getElem?_set_self (by simp; omega)) | exact data_get (List.getElem?_set_self (by simpa using hlt)))) ?_
      refine rt_l rfl (want_none rfl) rfl (li_load1 tok rfl rfl rfl rfl (by first | rfl | (simp [Cells.len] <;> omega)) (by first | rfl | exact data_get (map_at (by assumption)) | exact data_get (by assumption) | exact data_get (List.getElem?_set_self (by simp; omega)) | exact data_get (List.getElem?_set_self (by simpa using hlt))) rfl) ?_
      refine rt_l rfl (want_none rfl) rfl (li_fieldAddr tok rfl rfl rfl rfl rfl rfl rfl (by first | rfl | (simp [Cells.len] <;> omega)) (by first | rfl | exact data_get (map_at (by assumption)) | exact data_get (by assumption) | exact data_get (List.getElem?_set_self (by simp; omega)) | exact data_get (List.getElem?_set_self (by simpa using hlt)))) ?_
      refine rt_l rfl (want_none rfl) rfl (li_load1 tok rfl rfl rfl rfl (by first | rfl | (simp [Cells.len] <;> omega)) (by first | rfl | exact data_get (map_at (by assumption)) | exact data_get (by assumption) | exact data_get (List.getElem?_set_self (by simp; omega)) | exact data_get (List.getElem?_set_self (by simpa using hlt))) rfl) ?_
      refine rt_p rfl (want_none rfl) rfl (pu_add rfl rfl (by omega) (by omega)) ?_
      refine rt_p rfl (want_none rfl) rfl (pu_build (C0 := [.d (.v (.int .i64 0)), .d (.v (.int .i64 0))]) tok rfl rfl (by repeat (first | exact Plc.nil | apply Plc.cons rfl)) rfl (by repeat (first | exact Bld.nil _ | apply Bld.cons (cs := [.d _]) rfl rfl rfl rfl (by repeat (first | exact Spl.z _ | apply Spl.t | apply Spl.d)) | apply Bld.cons (cs := [.own _ _ _]) rfl rfl rfl rfl (by repeat (first | exact Spl.z _ | apply Spl.t | apply Spl.d)) | apply Bld.cons (cs := [.ptr _ _ _ _ _]) rfl rfl rfl rfl (by repeat (first | exact Spl.z _ | apply Spl.t | apply Spl.d)) | apply Bld.cons (cs := [.fn _ _]) rfl rfl rfl rfl (by repeat (first | exact Spl.z _ | apply Spl.t | apply Spl.d)) | apply Bld.cons (cs := _ :: _) rfl rfl rfl rfl (by repeat (first | exact Spl.z _ | apply Spl.t | apply Spl.d))))) ?_
      refine rt_s rfl (want_none rfl) rfl (st_slice 5 tok rfl rfl rfl (by repeat (first | exact Els.nil _ | apply Els.cons (cs := [.d _]) rfl rfl rfl | apply Els.cons (cs := [.own _ _ _]) rfl rfl rfl | apply Els.cons (cs := [.ptr _ _ _ _ _]) rfl rfl rfl | apply Els.cons (cs := [.fn _ _]) rfl rfl rfl | apply Els.cons (cs := _ :: _) rfl rfl rfl)) rfl rfl rfl (by first | exact Lay.data (by repeat (first | exact AllDD.nil | (apply AllDD.cons; (repeat (first | exact AllD.nil | apply AllD.cons))))) | exact Lay.av _) rfl) ?_
      refine rt_p rfl (want_none rfl) rfl (pu_assign (r := .own _ _ _) rfl) ?_
      refine rt_nil ?_
      refine then_n ?_
      refine aw_ret ?_
      refine block_r ?_
      refine then_r ?_
      refine retK (rs := [.tmp 2]) [5] 200 rfl (by repeat (first | exact ResR.nil | apply ResR.tmp (a := .d _) rfl | apply ResR.tmp (a := .ptr _ _ _ _ _) rfl | apply ResR.tmp (a := .own _ _ _) rfl | apply ResR.tmp (a := .agg _) rfl | apply ResR.tmp (a := .ref _) rfl | apply ResR.tmp (a := .tup _) rfl | apply ResR.tmp (a := .fn _ _) rfl | apply ResR.tmp (a := .dead) rfl | apply ResR.cell1 rfl rfl rfl rfl (by first | rfl | (simp [Cells.len] <;> omega)) (by first | rfl | exact data_get (map_at (by assumption)) | exact data_get (by assumption) | exact data_get (List.getElem?_set_self (by simp; omega)) | exact data_get (List.getElem?_set_self (by simpa using hlt))) rfl | apply ResR.cellN rfl rfl rfl rfl (by first | rfl | (simp [Cells.len] <;> omega)) (by first | rfl | exact data_get (map_at (by assumption)) | exact data_get (by assumption) | exact data_get (List.getElem?_set_self (by simp; omega)) | exact data_get (List.getElem?_set_self (by simpa using hlt))) (by repeat (first | exact Seg.z _ | apply Seg.t | apply Seg.d)))) (by repeat (first | exact abv_nil _ | exact abv_lks rfl | refine abv_upd ?_ rfl)) (by decide) (by decide) (by repeat (first | exact AtK.nil | refine AtK.data_ (by first | exact rfl | (exact eqData (by rw [hpe] <;> rfl))) ?_ | (apply AtK.cons rfl; (first | exact RenS.no | exact RenS.dead | exact RenS.data _ _ _ | (apply RenS.box; repeat (first | exact RenRL.nil | apply RenRL.cons | exact RenR.d _ | apply RenR.agg | apply RenR.tup | exact RenR.own _ _ _ _ rfl | exact RenR.ptr _ _ _ _ _ _ rfl | exact RenR.ref _ | apply RenR.fn | exact RenR.dead)) | exact RenS.gen _)))) ?_
      rw [hpe]; rfl
    · skip
      try (have hsr2 := hsr hc)
      try (have hpe := ip1 hc)
      try (have hpe := ip2 hc)
      try (have hpe := ip3 ‹¬ s.K = 1› hc)
      refine aw_skip ?_
      refine block_n ?_
      refine then_n ?_
      refine aw_seq ?_
      refine aw_region (is := [0, 1, 2, 3]) rfl ?_
      refine rt_l rfl (want_none rfl) rfl (li_fieldAddr tok rfl rfl rfl rfl rfl rfl rfl (by first | rfl | (simp [Cells.len] <;> omega)) (by first | rfl | exact data_get (map_at (by assumption)) | exact data_get (by assumption) | exact data_get (List.getElem?_set_self (by simp; omega)) | exact data_get (List.getElem?_set_self (by simpa using hlt)))) ?_
      refine rt_l rfl (want_none rfl) rfl (li_loadN tok rfl rfl rfl rfl (by first | rfl | (simp [Cells.len] <;> omega)) (by first | rfl | exact data_get (map_at (by assumption)) | exact data_get (by assumption) | exact data_get (List.getElem?_set_self (by simp; omega)) | exact data_get (List.getElem?_set_self (by simpa using hlt))) (by repeat (first | exact Seg.z _ | apply Seg.t | apply Seg.d))) ?_
      refine rt_s rfl (want_none rfl) rfl (st_slice 6 tok rfl rfl rfl (by repeat (first | exact Els.nil _ | apply Els.cons (cs := [.d _]) rfl rfl rfl | apply Els.cons (cs := [.own _ _ _]) rfl rfl rfl | apply Els.cons (cs := [.ptr _ _ _ _ _]) rfl rfl rfl | apply Els.cons (cs := [.fn _ _]) rfl rfl rfl | apply Els.cons (cs := _ :: _) rfl rfl rfl)) rfl rfl rfl (by first | exact Lay.data (by repeat (first | exact AllDD.nil | (apply AllDD.cons; (repeat (first | exact AllD.nil | apply AllD.cons))))) | exact Lay.av _) rfl) ?_
      refine rt_p rfl (want_none rfl) rfl (pu_assign (r := .own _ _ _) rfl) ?_
      refine rt_nil ?_
      refine then_n ?_
      refine aw_ret ?_
      refine retK (rs := [.tmp 2]) [6] 200 rfl (by repeat (first | exact ResR.nil | apply ResR.tmp (a := .d _) rfl | apply ResR.tmp (a := .ptr _ _ _ _ _) rfl | apply ResR.tmp (a := .own _ _ _) rfl | apply ResR.tmp (a := .agg _) rfl | apply ResR.tmp (a := .ref _) rfl | apply ResR.tmp (a := .tup _) rfl | apply ResR.tmp (a := .fn _ _) rfl | apply ResR.tmp (a := .dead) rfl | apply ResR.cell1 rfl rfl rfl rfl (by first | rfl | (simp [Cells.len] <;> omega)) (by first | rfl | exact data_get (map_at (by assumption)) | exact data_get (by assumption) | exact data_get (List.getElem?_set_self (by simp; omega)) | exact data_get (List.getElem?_set_self (by simpa using hlt))) rfl | apply ResR.cellN rfl rfl rfl rfl (by first | rfl | (simp [Cells.len] <;> omega)) (by first | rfl | exact data_get (map_at (by assumption)) | exact data_get (by assumption) | exact data_get (List.getElem?_set_self (by simp; omega)) | exact data_get (List.getElem?_set_self (by simpa using hlt))) (by repeat (first | exact Seg.z _ | apply Seg.t | apply Seg.d)))) (by repeat (first | exact abv_nil _ | exact abv_lks rfl | refine abv_upd ?_ rfl)) (by decide) (by decide) (by repeat (first | exact AtK.nil | refine AtK.data_ (by first | exact rfl | (exact eqData (by rw [hpe] <;> rfl))) ?_ | (apply AtK.cons rfl; (first | exact RenS.no | exact RenS.dead | exact RenS.data _ _ _ | (apply RenS.box; repeat (first | exact RenRL.nil | apply RenRL.cons | exact RenR.d _ | apply RenR.agg | apply RenR.tup | exact RenR.own _ _ _ _ rfl | exact RenR.ptr _ _ _ _ _ _ rfl | exact RenR.ref _ | apply RenR.fn | exact RenR.dead)) | exact RenS.gen _)))) ?_
      rw [hpe]; rfl
end Go.Proofs.Ytplnohfjeilodaa
