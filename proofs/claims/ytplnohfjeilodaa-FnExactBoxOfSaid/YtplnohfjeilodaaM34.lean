/- boxes of drawings -/
import Derived.Test.YtplnohfjeilodaaTab
import Derived.Test.YtplnohfjeilodaaM29
import Derived.Test.YtplnohfjeilodaaProg
namespace Go.Proofs.Ytplnohfjeilodaa
open Go.RowKit
set_option linter.unusedVariables false
set_option maxRecDepth 100000
def spPts (s : Shp) : List (Int × Int) := if s.K = 1 then [(s.AX, s.AY), (s.BX, s.BY)] else if s.K = 2 then [(s.AX, s.AY), (s.AX - s.R, s.AY - s.R), (s.AX + s.R, s.AY + s.R)] else [(s.AX, s.AY)]
def imPts (s : Shp) : List (Int × Int) := if s.K = 1 then [(s.AX, s.AY), (s.BX, s.BY)] else if s.K = 2 then [(s.AX - s.R, s.AY - s.R), (s.AX + s.R, s.AY + s.R)] else [(s.AX, s.AY)]
def ptD (p : Int × Int) : List DV := [.v (.int .i64 p.1), .v (.int .i64 p.2)]
abbrev ptsD (l : List (Int × Int)) : List (List DV) := l.map ptD
structure Bx where
  lx : Int
  ly : Int
  hx : Int
  hy : Int
def fb (b : Bx) (p : Int × Int) : Bx := ⟨if b.lx < p.1 then b.lx else p.1, if b.ly < p.2 then b.ly else p.2, if b.hx > p.1 then b.hx else p.1, if b.hy > p.2 then b.hy else p.2⟩
def bxT (pts : Shp → List (Int × Int)) (b : Bx) (xs : List Shp) (k : Nat) : Bx := (xs.take k).foldl (fun b s => (pts s).foldl fb b) b
def bxP (b : Bx) (ps : List (Int × Int)) (j : Nat) : Bx := (ps.take j).foldl fb b
theorem bxT_succ (pts : Shp → List (Int × Int)) (b : Bx) {xs : List Shp} {k : Nat} {s : Shp} (h : xs[k]? = some s) : bxT pts b xs (k + 1) = bxP (bxT pts b xs k) (pts s) (pts s).length := by
  unfold bxT bxP
  rw [List.take_add_one, h]; simp
theorem bxP_succ (b : Bx) {ps : List (Int × Int)} {j : Nat} {p : Int × Int} (h : ps[j]? = some p) : bxP b ps (j + 1) = fb (bxP b ps j) p := by
  unfold bxP
  rw [List.take_add_one, h]; simp
theorem sh_r {s : Shp} (h : shB s = true) (hk : s.K = 2) : 1 ≤ s.R ∧ s.R ≤ 100000 := by
  unfold shB at h
  rw [if_neg (by omega), if_pos hk] at h
  simp only [inB, Bool.and_eq_true, decide_eq_true_eq] at h
  omega
theorem pts_len (s : Shp) : (spPts s).length ≤ 3 ∧ (imPts s).length ≤ 3 := by unfold spPts imPts; split <;> (try split) <;> simp
def a0 (xs : List Shp) : Bx := match xs with | [] => ⟨0, 0, 0, 0⟩ | s :: _ => ⟨s.AX, s.AY, s.AX, s.AY⟩
def boxS (xs : List Shp) : Bx := if (drOk xs && decide (xs ≠ [])) = true then bxT spPts (a0 xs) xs xs.length else ⟨0, 0, 0, 0⟩
def boxE (xs : List Shp) : Int := if drOk xs = true then (if xs = [] then 3 else 0) else 1
theorem box_1 {xs : List Shp} (h : drOk xs = false) : boxS xs = ⟨0, 0, 0, 0⟩ ∧ boxE xs = 1 := by simp [boxS, boxE, h]
theorem box_2 {xs : List Shp} (h : drOk xs = true) (h2 : xs.length = 0) : boxS xs = ⟨0, 0, 0, 0⟩ ∧ boxE xs = 3 := by obtain rfl := List.length_eq_zero_iff.1 h2; simp [boxS, boxE, h]
theorem box_0 {xs : List Shp} (h : drOk xs = true) (h2 : xs.length ≠ 0) : boxS xs = bxT spPts (a0 xs) xs xs.length ∧ boxE xs = 0 := by
  have : xs ≠ [] := fun e => h2 (by rw [e]; rfl)
  simp [boxS, boxE, h, this]
theorem sp1 {s : Shp} (h : s.K = 1) : spPts s = [(s.AX, s.AY), (s.BX, s.BY)] := if_pos h
theorem sp2 {s : Shp} (h : s.K = 2) : spPts s = [(s.AX, s.AY), (s.AX - s.R, s.AY - s.R), (s.AX + s.R, s.AY + s.R)] := (if_neg (by omega)).trans (if_pos h)
theorem sp3 {s : Shp} (h : ¬ s.K = 1) (h2 : ¬ s.K = 2) : spPts s = [(s.AX, s.AY)] := (if_neg h).trans (if_neg h2)
theorem get0 {xs : List Shp} (h : xs.length ≠ 0) : ∃ s, xs[0]? = some s := ⟨_, List.getElem?_eq_getElem (Nat.pos_of_ne_zero h)⟩
theorem a0_get {xs : List Shp} {s : Shp} (h : xs[0]? = some s) : a0 xs = ⟨s.AX, s.AY, s.AX, s.AY⟩ := by
  cases xs with
  | nil => simp at h
  | cons x xs => simp at h; subst h; rfl
theorem min_a (x y : Int) : FnC Try.prog 65 [] [.d (.v (.int .i64 x)), .d (.v (.int .i64 y))] [] (.d (.v (.int .i64 (if x < y then x else y)))) := by
  refine fnc_intro (T := tt) (N := 10) tok Try.func65 rfl rfl (by kernel_rfl) rfl rfl ?_
  refine aw_seq ?_
  refine aw_region (is := [0]) rfl ?_
  refine rt_p rfl (want_none rfl) rfl (pu_assign (r := .d _) rfl) ?_
  refine rt_nil ?_
  refine then_n ?_
  refine aw_seq ?_
  refine aw_seq ?_
  refine aw_region (is := [0, 1, 2]) rfl ?_
  refine rt_p rfl (want_none rfl) rfl (pu_move (r := .d _) rfl) ?_
  refine rt_p rfl (want_none rfl) rfl (pu_move (r := .d _) rfl) ?_
  refine rt_p rfl (want_none rfl) rfl (pu_lss rfl rfl) ?_
  refine rt_nil ?_
  refine then_n ?_
  refine aw_condP _ rfl (fun hc => ?_) (fun hc => ?_)
  · skip
    refine aw_seq ?_
    refine aw_region (is := [0, 1]) rfl ?_
    refine rt_p rfl (want_none rfl) rfl (pu_move (r := .d _) rfl) ?_
    refine rt_p rfl (want_none rfl) rfl (pu_assign (r := .d _) rfl) ?_
    refine rt_nil ?_
    refine then_n ?_
    refine aw_ret ?_
    refine then_r ?_
    refine ret0 (rs := [.tmp 4]) 200 rfl (by repeat (first | exact ResR.nil | apply ResR.tmp (a := .d _) rfl | apply ResR.tmp (a := .ptr _ _ _ _ _) rfl | apply ResR.tmp (a := .own _ _ _) rfl | apply ResR.tmp (a := .agg _) rfl | apply ResR.tmp (a := .ref _) rfl | apply ResR.tmp (a := .tup _) rfl | apply ResR.tmp (a := .fn _ _) rfl | apply ResR.tmp (a := .dead) rfl | apply ResR.cell1 rfl rfl rfl rfl (by first | rfl | (simp [Cells.len] <;> omega)) (by first | rfl | exact data_get (map_at (by assumption)) | exact data_get (by assumption) | exact data_get (List.getElem?_set_self (by simp; omega)) | exact data_get (List.getElem?_set_self (by simpa using hlt))) rfl | apply ResR.cellN rfl rfl rfl rfl (by first | rfl | (simp [Cells.len] <;> omega)) (by first | rfl | exact data_get (map_at (by assumption)) | exact data_get (by assumption) | exact data_get (List.getElem?_set_self (by simp; omega)) | exact data_get (List.getElem?_set_self (by simpa using hlt))) (by repeat (first | exact Seg.z _ | apply Seg.t | apply Seg.d)))) (by repeat (first | exact abv_nil _ | exact abv_lks rfl | refine abv_upd ?_ rfl)) rfl ?_
    exact reti (by first | rw [if_pos (by omega)] | rw [if_neg (by omega)])
  · skip
    refine aw_skip ?_
    refine then_n ?_
    refine aw_seq ?_
    refine aw_region (is := [0, 1]) rfl ?_
    refine rt_p rfl (want_none rfl) rfl (pu_move (r := .d _) rfl) ?_
    refine rt_p rfl (want_none rfl) rfl (pu_assign (r := .d _) rfl) ?_
    refine rt_nil ?_
    refine then_n ?_
    refine aw_ret ?_
    refine ret0 (rs := [.tmp 4]) 200 rfl (by repeat (first | exact ResR.nil | apply ResR.tmp (a := .d _) rfl | apply ResR.tmp (a := .ptr _ _ _ _ _) rfl | apply ResR.tmp (a := .own _ _ _) rfl | apply ResR.tmp (a := .agg _) rfl | apply ResR.tmp (a := .ref _) rfl | apply ResR.tmp (a := .tup _) rfl | apply ResR.tmp (a := .fn _ _) rfl | apply ResR.tmp (a := .dead) rfl | apply ResR.cell1 rfl rfl rfl rfl (by first | rfl | (simp [Cells.len] <;> omega)) (by first | rfl | exact data_get (map_at (by assumption)) | exact data_get (by assumption) | exact data_get (List.getElem?_set_self (by simp; omega)) | exact data_get (List.getElem?_set_self (by simpa using hlt))) rfl | apply ResR.cellN rfl rfl rfl rfl (by first | rfl | (simp [Cells.len] <;> omega)) (by first | rfl | exact data_get (map_at (by assumption)) | exact data_get (by assumption) | exact data_get (List.getElem?_set_self (by simp; omega)) | exact data_get (List.getElem?_set_self (by simpa using hlt))) (by repeat (first | exact Seg.z _ | apply Seg.t | apply Seg.d)))) (by repeat (first | exact abv_nil _ | exact abv_lks rfl | refine abv_upd ?_ rfl)) rfl ?_
    exact reti (by first | rw [if_pos (by omega)] | rw [if_neg (by omega)])
theorem max_a (x y : Int) : FnC Try.prog 66 [] [.d (.v (.int .i64 x)), .d (.v (.int .i64 y))] [] (.d (.v (.int .i64 (if x > y then x else y)))) := by
  refine fnc_intro (T := tt) (N := 10) tok Try.func66 rfl rfl (by kernel_rfl) rfl rfl ?_
  refine aw_seq ?_
  refine aw_region (is := [0]) rfl ?_
  refine rt_p rfl (want_none rfl) rfl (pu_assign (r := .d _) rfl) ?_
  refine rt_nil ?_
  refine then_n ?_
  refine aw_seq ?_
  refine aw_seq ?_
  refine aw_region (is := [0, 1, 2]) rfl ?_
  refine rt_p rfl (want_none rfl) rfl (pu_move (r := .d _) rfl) ?_
  refine rt_p rfl (want_none rfl) rfl (pu_move (r := .d _) rfl) ?_
  refine rt_p rfl (want_none rfl) rfl (pu_gtr rfl rfl) ?_
  refine rt_nil ?_
  refine then_n ?_
  refine aw_condP _ rfl (fun hc => ?_) (fun hc => ?_)
  · skip
    refine aw_seq ?_
    refine aw_region (is := [0, 1]) rfl ?_
    refine rt_p rfl (want_none rfl) rfl (pu_move (r := .d _) rfl) ?_
    refine rt_p rfl (want_none rfl) rfl (pu_assign (r := .d _) rfl) ?_
    refine rt_nil ?_
    refine then_n ?_
    refine aw_ret ?_
    refine then_r ?_
    refine ret0 (rs := [.tmp 4]) 200 rfl (by repeat (first | exact ResR.nil | apply ResR.tmp (a := .d _) rfl | apply ResR.tmp (a := .ptr _ _ _ _ _) rfl | apply ResR.tmp (a := .own _ _ _) rfl | apply ResR.tmp (a := .agg _) rfl | apply ResR.tmp (a := .ref _) rfl | apply ResR.tmp (a := .tup _) rfl | apply ResR.tmp (a := .fn _ _) rfl | apply ResR.tmp (a := .dead) rfl | apply ResR.cell1 rfl rfl rfl rfl (by first | rfl | (simp [Cells.len] <;> omega)) (by first | rfl | exact data_get (map_at (by assumption)) | exact data_get (by assumption) | exact data_get (List.getElem?_set_self (by simp; omega)) | exact data_get (List.getElem?_set_self (by simpa using hlt))) rfl | apply ResR.cellN rfl rfl rfl rfl (by first | rfl | (simp [Cells.len] <;> omega)) (by first | rfl | exact data_get (map_at (by assumption)) | exact data_get (by assumption) | exact data_get (List.getElem?_set_self (by simp; omega)) | exact data_get (List.getElem?_set_self (by simpa using hlt))) (by repeat (first | exact Seg.z _ | apply Seg.t | apply Seg.d)))) (by repeat (first | exact abv_nil _ | exact abv_lks rfl | refine abv_upd ?_ rfl)) rfl ?_
    exact reti (by first | rw [if_pos (by omega)] | rw [if_neg (by omega)])
  · skip
    refine aw_skip ?_
    refine then_n ?_
    refine aw_seq ?_
    refine aw_region (is := [0, 1]) rfl ?_
    refine rt_p rfl (want_none rfl) rfl (pu_move (r := .d _) rfl) ?_
    refine rt_p rfl (want_none rfl) rfl (pu_assign (r := .d _) rfl) ?_
    refine rt_nil ?_
    refine then_n ?_
    refine aw_ret ?_
    refine ret0 (rs := [.tmp 4]) 200 rfl (by repeat (first | exact ResR.nil | apply ResR.tmp (a := .d _) rfl | apply ResR.tmp (a := .ptr _ _ _ _ _) rfl | apply ResR.tmp (a := .own _ _ _) rfl | apply ResR.tmp (a := .agg _) rfl | apply ResR.tmp (a := .ref _) rfl | apply ResR.tmp (a := .tup _) rfl | apply ResR.tmp (a := .fn _ _) rfl | apply ResR.tmp (a := .dead) rfl | apply ResR.cell1 rfl rfl rfl rfl (by first | rfl | (simp [Cells.len] <;> omega)) (by first | rfl | exact data_get (map_at (by assumption)) | exact data_get (by assumption) | exact data_get (List.getElem?_set_self (by simp; omega)) | exact data_get (List.getElem?_set_self (by simpa using hlt))) rfl | apply ResR.cellN rfl rfl rfl rfl (by first | rfl | (simp [Cells.len] <;> omega)) (by first | rfl | exact data_get (map_at (by assumption)) | exact data_get (by assumption) | exact data_get (List.getElem?_set_self (by simp; omega)) | exact data_get (List.getElem?_set_self (by simpa using hlt))) (by repeat (first | exact Seg.z _ | apply Seg.t | apply Seg.d)))) (by repeat (first | exact abv_nil _ | exact abv_lks rfl | refine abv_upd ?_ rfl)) rfl ?_
    exact reti (by first | rw [if_pos (by omega)] | rw [if_neg (by omega)])
end Go.Proofs.Ytplnohfjeilodaa
