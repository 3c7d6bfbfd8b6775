/- valid drawings -/
import Derived.Test.YtplnohfjeilodaaTab
import Derived.Test.YtplnohfjeilodaaM27
import Derived.Test.YtplnohfjeilodaaProg
namespace Go.Proofs.Ytplnohfjeilodaa
open Go.RowKit
set_option linter.unusedVariables false
set_option maxRecDepth 100000
theorem all_next {xs : List Shp} {k : Nat} {s : Shp} (hs : xs[k]? = some s) (ha : (xs.take k).all shB = true) (h : shB s = true) : (xs.take (k + 1)).all shB = true := by
  rw [List.take_add_one, hs]; simp_all
theorem all_bad {xs : List Shp} {k : Nat} {s : Shp} (hs : xs[k]? = some s) (h : shB s = false) : xs.all shB = false := by
  rw [← Bool.not_eq_true, List.all_eq_true]
  intro ha
  rw [ha s (List.mem_of_getElem? hs)] at h; cases h
theorem all_end {xs : List Shp} {k : Nat} (hge : xs.length ≤ k) (ha : (xs.take k).all shB = true) : xs.all shB = true := by rwa [List.take_of_length_le hge] at ha
theorem find_at {xs : List Shp} {k : Nat} {s : Shp} (hs : xs[k]? = some s) (ha : (xs.take k).all shB = true) (h : shB s = false) : (k : Int) = (xs.findIdx (fun s => !shB s) : Int) := by
  have hlt : k < xs.length := (List.getElem?_eq_some_iff.1 hs).1
  have he : xs[k] = s := (List.getElem?_eq_some_iff.1 hs).2
  have h1 : ∀ j (hj : j < k), (!shB (xs[j]'(by omega))) = false := fun j hj => by
    have := List.all_eq_true.1 ha (xs[j]'(by omega)) (List.mem_of_getElem? (i := j) (by rw [List.getElem?_take, if_pos hj]; exact List.getElem?_eq_getElem (by omega)))
    simp [this]
  have h2 : xs.findIdx (fun s => !shB s) = k := by
    rw [List.findIdx_eq hlt]
    exact ⟨by rw [he, h]; rfl, h1⟩
  rw [h2]
theorem shB_eta (s : Shp) : shB ⟨s.K, s.AX, s.AY, s.BX, s.BY, s.R, s.N⟩ = shB s := rfl
theorem l25Ok_a (xs : List Shp) (hm : xs.length ≤ 1048576) (hn : ∀ s ∈ xs, s.N.size ≤ 9223372036854775807) : FnC Try.prog 61 [] [.agg [.d (.sl (shpsD xs))]] [] (.d (.v (.bool (drOk xs)))) := by
  refine fnc_intro (T := tt) (N := 22) tok Try.func61 rfl rfl (by kernel_rfl) rfl rfl ?_
  refine aw_seq ?_
  refine aw_region (is := [0, 1]) rfl ?_
  refine rt_s rfl (want_none rfl) rfl (st_box 3 (cs := _ :: _) rfl rfl rfl) ?_
  refine rt_p rfl (want_none rfl) rfl (pu_assign (r := .d _) rfl) ?_
  refine rt_nil ?_
  refine then_n ?_
  refine aw_seq ?_
  refine aw_seq ?_
  refine aw_region (is := [0]) rfl ?_
  refine rt_p rfl (want_none rfl) rfl (pu_assign (r := .d _) rfl) ?_
  refine rt_nil ?_
  refine then_n ?_
  refine aw_block ?_
  refine aw_loop (ι := {k : Nat // k ≤ xs.length ∧ (xs.take k).all shB = true}) (fun p => ⟨updA (updA ((fun _ => .dead)) 1 (.ptr 3 0 1 0 0)) 3 (.d (.v (.int .i64 (p.1)))), lks [.no, .no, .no, .live [⟨29, 1, .av [[.d (.sl (shpsD xs))]]⟩]]⟩) (fun p => xs.length - p.1) ⟨0, by omega, rfl⟩ ?_ ?_
  · (refine weak_of 200 (by repeat (first | exact abv_nil _ | exact abv_lks rfl | refine abv_upd ?_ rfl)) rfl (by repeat (first | exact WT.nil | refine WT.free_ rfl (by first | exact rfl | exact eqI (by omega) | exact eqI (by simp <;> fail) | exact eqI (by simp; omega) | exact eqOwn (by simp <;> fail) | exact eqOwn (by simp; omega) | (simp_all <;> fail)) ?_ | refine WT.ren_ (r' := _) rfl (by repeat (first | exact RenRL.nil | apply RenRL.cons | exact RenR.d _ | exact RenR.of_d (by first | exact rfl | exact eqI (by omega) | exact eqI (by simp <;> fail) | exact eqI (by simp; omega)) | apply RenR.agg | apply RenR.tup | exact RenR.own _ _ _ _ rfl | exact RenR.of_own (by first | rfl | (omega) | (simp <;> fail) | (simp; omega)) rfl | exact RenR.ptr _ _ _ _ _ _ rfl | exact RenR.ref _ | apply RenR.fn | exact RenR.dead)) ?_)) (by repeat (first | exact WH.nil _ | refine WH.data_ (by first | exact rfl | exact eqI (by omega) | exact eqI (by simp <;> fail) | exact eqI (by simp; omega) | exact eqOwn (by simp <;> fail) | exact eqOwn (by simp; omega) | (simp_all <;> fail)) ?_ | refine WH.cons (by first | exact rfl | exact eqI (by omega) | exact eqI (by simp <;> fail) | exact eqI (by simp; omega) | exact eqOwn (by simp <;> fail) | exact eqOwn (by simp; omega) | (simp_all <;> fail)) (by first | exact RenS.no | exact RenS.dead | exact RenS.data _ _ _ | (apply RenS.box; repeat (first | exact RenRL.nil | apply RenRL.cons | exact RenR.d _ | exact RenR.of_d (by first | exact rfl | exact eqI (by omega) | exact eqI (by simp <;> fail) | exact eqI (by simp; omega)) | apply RenR.agg | apply RenR.tup | exact RenR.own _ _ _ _ rfl | exact RenR.of_own (by first | rfl | (omega) | (simp <;> fail) | (simp; omega)) rfl | exact RenR.ptr _ _ _ _ _ _ rfl | exact RenR.ref _ | apply RenR.fn | exact RenR.dead)) | exact RenS.gen _) ?_)) rfl)
  · rintro ⟨k, hk, ha⟩
    rcases Nat.lt_or_ge k xs.length with hlt | hge
    · skip
      obtain ⟨s, hs⟩ : ∃ s, xs[k]? = some s := ⟨_, List.getElem?_eq_getElem hlt⟩
      refine aw_seq ?_
      refine aw_seq ?_
      refine aw_region (is := [0, 1, 2, 3, 4]) rfl ?_
      refine rt_p rfl (want_none rfl) rfl (pu_move (r := .d _) rfl) ?_
      refine rt_l rfl (want_none rfl) rfl (li_fieldAddr tok rfl rfl rfl rfl rfl rfl rfl (by first | rfl | (simp [Cells.len] <;> omega)) (by first | rfl | exact data_get (map_at (by assumption)) | exact data_get (by assumption) | exact data_get (List.getElem?_set_self (by simp; omega)) | exact data_get (List.getElem?_set_self (by simpa using hlt)))) ?_
      refine rt_l rfl (want_none rfl) rfl (li_load1 tok rfl rfl rfl rfl (by first | rfl | (simp [Cells.len] <;> omega)) (by first | rfl | exact data_get (map_at (by assumption)) | exact data_get (by assumption) | exact data_get (List.getElem?_set_self (by simp; omega)) | exact data_get (List.getElem?_set_self (by simpa using hlt))) rfl) ?_
      refine rt_p rfl (want_none rfl) rfl (pu_len_map tok rfl rfl rfl) ?_
      refine rt_p rfl (want_none rfl) rfl (pu_lss rfl rfl) ?_
      refine rt_nil ?_
      refine then_n ?_
      refine aw_condP _ rfl (fun hc => ?_) (fun hc => ?_)
      · skip
        refine aw_skip ?_
        refine then_n ?_
        refine aw_seq ?_
        refine aw_block ?_
        refine aw_seq ?_
        refine aw_region (is := [0, 1, 2, 3, 4, 5, 6]) rfl ?_
        refine rt_l rfl (want_none rfl) rfl (li_fieldAddr tok rfl rfl rfl rfl rfl rfl rfl (by first | rfl | (simp [Cells.len] <;> omega)) (by first | rfl | exact data_get (map_at (by assumption)) | exact data_get (by assumption) | exact data_get (List.getElem?_set_self (by simp; omega)) | exact data_get (List.getElem?_set_self (by simpa using hlt)))) ?_
        refine rt_l rfl (want_none rfl) rfl (li_load1 tok rfl rfl rfl rfl (by first | rfl | (simp [Cells.len] <;> omega)) (by first | rfl | exact data_get (map_at (by assumption)) | exact data_get (by assumption) | exact data_get (List.getElem?_set_self (by simp; omega)) | exact data_get (List.getElem?_set_self (by simpa using hlt))) rfl) ?_
        refine rt_p rfl (want_none rfl) rfl (pu_move (r := .d _) rfl) ?_
        refine rt_p rfl (want_none rfl) rfl (pu_index_sl tok rfl rfl (by first | rfl | omega) rfl rfl rfl (by first | rfl | exact map_at (by assumption) | assumption) rfl) ?_
        refine rt_p rfl (want_none rfl) rfl (pu_load_refN tok rfl rfl rfl (by repeat (first | exact SegD.z _ | apply SegD.t))) ?_
        refine rt_s rfl (want_none rfl) rfl (st_call 4 rfl rfl rfl (l25Shape_a s.K s.AX s.AY s.BX s.BY s.R s.N (hn s (List.mem_of_getElem? hs))) (by repeat (first | exact abv_nil _ | exact abv_lks rfl | refine abv_upd ?_ rfl)) (by repeat (first | exact RenRL.nil | apply RenRL.cons | exact RenR.d _ | apply RenR.agg | apply RenR.tup | exact RenR.own _ _ _ _ rfl | exact RenR.ptr _ _ _ _ _ _ rfl | exact RenR.ref _ | apply RenR.fn | exact RenR.dead)) (by repeat (first | exact BirR.nil _ _ | (apply BirR.cons; (first | exact RenS.no | exact RenS.dead | exact RenS.data _ _ _ | (apply RenS.box; repeat (first | exact RenRL.nil | apply RenRL.cons | exact RenR.d _ | apply RenR.agg | apply RenR.tup | exact RenR.own _ _ _ _ rfl | exact RenR.ptr _ _ _ _ _ _ rfl | exact RenR.ref _ | apply RenR.fn | exact RenR.dead)) | exact RenS.gen _))))) ?_
        refine rt_p rfl (want_none rfl) rfl (pu_not rfl) ?_
        refine rt_nil ?_
        refine then_n ?_
        refine aw_cond _ rfl (fun hc => ?_) (fun hc => ?_)
        · skip
          refine aw_seq ?_
          refine aw_region (is := [0]) rfl ?_
          refine rt_p rfl (want_none rfl) rfl (pu_assign (r := .d _) rfl) ?_
          refine rt_nil ?_
          refine then_n ?_
          refine aw_ret ?_
          refine block_r ?_
          refine then_r ?_
          refine then_r ?_
          refine block_r ?_
          refine then_r ?_
          refine ret0 (rs := [.tmp 2]) 200 rfl (by repeat (first | exact ResR.nil | apply ResR.tmp (a := .d _) rfl | apply ResR.tmp (a := .ptr _ _ _ _ _) rfl | apply ResR.tmp (a := .own _ _ _) rfl | apply ResR.tmp (a := .agg _) rfl | apply ResR.tmp (a := .ref _) rfl | apply ResR.tmp (a := .tup _) rfl | apply ResR.tmp (a := .fn _ _) rfl | apply ResR.tmp (a := .dead) rfl | apply ResR.cell1 rfl rfl rfl rfl (by first | rfl | (simp [Cells.len] <;> omega)) (by first | rfl | exact data_get (map_at (by assumption)) | exact data_get (by assumption) | exact data_get (List.getElem?_set_self (by simp; omega)) | exact data_get (List.getElem?_set_self (by simpa using hlt))) rfl | apply ResR.cellN rfl rfl rfl rfl (by first | rfl | (simp [Cells.len] <;> omega)) (by first | rfl | exact data_get (map_at (by assumption)) | exact data_get (by assumption) | exact data_get (List.getElem?_set_self (by simp; omega)) | exact data_get (List.getElem?_set_self (by simpa using hlt))) (by repeat (first | exact Seg.z _ | apply Seg.t | apply Seg.d)))) (by repeat (first | exact abv_nil _ | exact abv_lks rfl | refine abv_upd ?_ rfl)) rfl ?_
          first
            | exact retb (by unfold drOk; rw [all_bad hs (by simpa using hc)]; rfl)
            | exact retb (by unfold drOk; rw [all_end hge ha]; simp; omega)
            | exact retb (by unfold drOk; rw [all_end hge ha]; simp)
        · skip
          refine aw_skip ?_
          refine block_n ?_
          refine then_n ?_
          refine aw_region (is := [0, 1, 2]) rfl ?_
          refine rt_p rfl (want_none rfl) rfl (pu_move (r := .d _) rfl) ?_
          refine rt_p rfl (want_none rfl) rfl (pu_add rfl rfl (by omega) (by omega)) ?_
          refine rt_p rfl (want_none rfl) rfl (pu_assign (r := .d _) rfl) ?_
          refine rt_nil ?_
          refine then_n ?_
          refine ⟨⟨k + 1, by omega, all_next hs ha (by simpa using hc)⟩, (by simp; omega), ?_⟩
          (refine weak_of 200 (by repeat (first | exact abv_nil _ | exact abv_lks rfl | refine abv_upd ?_ rfl)) rfl (by repeat (first | exact WT.nil | refine WT.free_ rfl (by first | exact rfl | exact eqI (by omega) | exact eqI (by simp <;> fail) | exact eqI (by simp; omega) | exact eqOwn (by simp <;> fail) | exact eqOwn (by simp; omega) | (simp_all <;> fail)) ?_ | refine WT.ren_ (r' := _) rfl (by repeat (first | exact RenRL.nil | apply RenRL.cons | exact RenR.d _ | exact RenR.of_d (by first | exact rfl | exact eqI (by omega) | exact eqI (by simp <;> fail) | exact eqI (by simp; omega)) | apply RenR.agg | apply RenR.tup | exact RenR.own _ _ _ _ rfl | exact RenR.of_own (by first | rfl | (omega) | (simp <;> fail) | (simp; omega)) rfl | exact RenR.ptr _ _ _ _ _ _ rfl | exact RenR.ref _ | apply RenR.fn | exact RenR.dead)) ?_)) (by repeat (first | exact WH.nil _ | refine WH.data_ (by first | exact rfl | exact eqI (by omega) | exact eqI (by simp <;> fail) | exact eqI (by simp; omega) | exact eqOwn (by simp <;> fail) | exact eqOwn (by simp; omega) | (simp_all <;> fail)) ?_ | refine WH.cons (by first | exact rfl | exact eqI (by omega) | exact eqI (by simp <;> fail) | exact eqI (by simp; omega) | exact eqOwn (by simp <;> fail) | exact eqOwn (by simp; omega) | (simp_all <;> fail)) (by first | exact RenS.no | exact RenS.dead | exact RenS.data _ _ _ | (apply RenS.box; repeat (first | exact RenRL.nil | apply RenRL.cons | exact RenR.d _ | exact RenR.of_d (by first | exact rfl | exact eqI (by omega) | exact eqI (by simp <;> fail) | exact eqI (by simp; omega)) | apply RenR.agg | apply RenR.tup | exact RenR.own _ _ _ _ rfl | exact RenR.of_own (by first | rfl | (omega) | (simp <;> fail) | (simp; omega)) rfl | exact RenR.ptr _ _ _ _ _ _ rfl | exact RenR.ref _ | apply RenR.fn | exact RenR.dead)) | exact RenS.gen _) ?_)) rfl)
      · exfalso; simp at hc; omega
    · skip
      refine aw_seq ?_
      refine aw_seq ?_
      refine aw_region (is := [0, 1, 2, 3, 4]) rfl ?_
      refine rt_p rfl (want_none rfl) rfl (pu_move (r := .d _) rfl) ?_
      refine rt_l rfl (want_none rfl) rfl (li_fieldAddr tok rfl rfl rfl rfl rfl rfl rfl (by first | rfl | (simp [Cells.len] <;> omega)) (by first | rfl | exact data_get (map_at (by assumption)) | exact data_get (by assumption) | exact data_get (List.getElem?_set_self (by simp; omega)) | exact data_get (List.getElem?_set_self (by simpa using hlt)))) ?_
      refine rt_l rfl (want_none rfl) rfl (li_load1 tok rfl rfl rfl rfl (by first | rfl | (simp [Cells.len] <;> omega)) (by first | rfl | exact data_get (map_at (by assumption)) | exact data_get (by assumption) | exact data_get (List.getElem?_set_self (by simp; omega)) | exact data_get (List.getElem?_set_self (by simpa using hlt))) rfl) ?_
      refine rt_p rfl (want_none rfl) rfl (pu_len_map tok rfl rfl rfl) ?_
      refine rt_p rfl (want_none rfl) rfl (pu_lss rfl rfl) ?_
      refine rt_nil ?_
      refine then_n ?_
      refine aw_condP _ rfl (fun hc => ?_) (fun hc => ?_)
      · exfalso; simp at hc; omega
      · skip
        refine aw_exit ?_
        refine then_e ?_
        refine then_e ?_
        refine block_hit ?_
        refine then_n ?_
        refine aw_seq ?_
        refine aw_region (is := [0, 1, 2, 3, 4]) rfl ?_
        refine rt_l rfl (want_none rfl) rfl (li_fieldAddr tok rfl rfl rfl rfl rfl rfl rfl (by first | rfl | (simp [Cells.len] <;> omega)) (by first | rfl | exact data_get (map_at (by assumption)) | exact data_get (by assumption) | exact data_get (List.getElem?_set_self (by simp; omega)) | exact data_get (List.getElem?_set_self (by simpa using hlt)))) ?_
        refine rt_l rfl (want_none rfl) rfl (li_load1 tok rfl rfl rfl rfl (by first | rfl | (simp [Cells.len] <;> omega)) (by first | rfl | exact data_get (map_at (by assumption)) | exact data_get (by assumption) | exact data_get (List.getElem?_set_self (by simp; omega)) | exact data_get (List.getElem?_set_self (by simpa using hlt))) rfl) ?_
        refine rt_p rfl (want_none rfl) rfl (pu_len_map tok rfl rfl rfl) ?_
        refine rt_p rfl (want_none rfl) rfl (pu_leq rfl rfl) ?_
        refine rt_p rfl (want_none rfl) rfl (pu_assign (r := .d _) rfl) ?_
        refine rt_nil ?_
        refine then_n ?_
        refine aw_ret ?_
        refine ret0 (rs := [.tmp 2]) 200 rfl (by repeat (first | exact ResR.nil | apply ResR.tmp (a := .d _) rfl | apply ResR.tmp (a := .ptr _ _ _ _ _) rfl | apply ResR.tmp (a := .own _ _ _) rfl | apply ResR.tmp (a := .agg _) rfl | apply ResR.tmp (a := .ref _) rfl | apply ResR.tmp (a := .tup _) rfl | apply ResR.tmp (a := .fn _ _) rfl | apply ResR.tmp (a := .dead) rfl | apply ResR.cell1 rfl rfl rfl rfl (by first | rfl | (simp [Cells.len] <;> omega)) (by first | rfl | exact data_get (map_at (by assumption)) | exact data_get (by assumption) | exact data_get (List.getElem?_set_self (by simp; omega)) | exact data_get (List.getElem?_set_self (by simpa using hlt))) rfl | apply ResR.cellN rfl rfl rfl rfl (by first | rfl | (simp [Cells.len] <;> omega)) (by first | rfl | exact data_get (map_at (by assumption)) | exact data_get (by assumption) | exact data_get (List.getElem?_set_self (by simp; omega)) | exact data_get (List.getElem?_set_self (by simpa using hlt))) (by repeat (first | exact Seg.z _ | apply Seg.t | apply Seg.d)))) (by repeat (first | exact abv_nil _ | exact abv_lks rfl | refine abv_upd ?_ rfl)) rfl ?_
        first
          | exact retb (by unfold drOk; rw [all_bad hs (by simpa using hc)]; rfl)
          | exact retb (by unfold drOk; rw [all_end hge ha]; simp; omega)
          | exact retb (by unfold drOk; rw [all_end hge ha]; simp)
theorem sValidDrawing_a (xs : List Shp) (hm : xs.length ≤ 1048576) (hn : ∀ s ∈ xs, s.N.size ≤ 9223372036854775807) : FnC Try.prog 23 [] [.agg [.d (.sl (shpsD xs))]] [] (.d (.v (.bool (drOk xs)))) := by
  refine fnc_intro (T := tt) (N := 5) tok Try.func23 rfl rfl (by kernel_rfl) rfl rfl ?_
  refine aw_seq ?_
  refine aw_region (is := [0, 1]) rfl ?_
  refine rt_s rfl (want_none rfl) rfl (st_box 3 (cs := _ :: _) rfl rfl rfl) ?_
  refine rt_p rfl (want_none rfl) rfl (pu_assign (r := .d _) rfl) ?_
  refine rt_nil ?_
  refine then_n ?_
  refine aw_seq ?_
  refine aw_region (is := [0, 1, 2]) rfl ?_
  refine rt_l rfl (want_none rfl) rfl (li_loadN tok rfl rfl rfl rfl (by first | rfl | (simp [Cells.len] <;> omega)) (by first | rfl | exact data_get (map_at (by assumption)) | exact data_get (by assumption) | exact data_get (List.getElem?_set_self (by simp; omega)) | exact data_get (List.getElem?_set_self (by simpa using hlt))) (by repeat (first | exact Seg.z _ | apply Seg.t | apply Seg.d))) ?_
  refine rt_s rfl (want_none rfl) rfl (st_call 4 rfl rfl rfl (l25Ok_a xs hm hn) (by repeat (first | exact abv_nil _ | exact abv_lks rfl | refine abv_upd ?_ rfl)) (by repeat (first | exact RenRL.nil | apply RenRL.cons | exact RenR.d _ | apply RenR.agg | apply RenR.tup | exact RenR.own _ _ _ _ rfl | exact RenR.ptr _ _ _ _ _ _ rfl | exact RenR.ref _ | apply RenR.fn | exact RenR.dead)) (by repeat (first | exact BirR.nil _ _ | (apply BirR.cons; (first | exact RenS.no | exact RenS.dead | exact RenS.data _ _ _ | (apply RenS.box; repeat (first | exact RenRL.nil | apply RenRL.cons | exact RenR.d _ | apply RenR.agg | apply RenR.tup | exact RenR.own _ _ _ _ rfl | exact RenR.ptr _ _ _ _ _ _ rfl | exact RenR.ref _ | apply RenR.fn | exact RenR.dead)) | exact RenS.gen _))))) ?_
  refine rt_p rfl (want_none rfl) rfl (pu_assign (r := .d _) rfl) ?_
  refine rt_nil ?_
  refine then_n ?_
  refine aw_ret ?_
  refine ret0 (rs := [.tmp 2]) 200 rfl (by repeat (first | exact ResR.nil | apply ResR.tmp (a := .d _) rfl | apply ResR.tmp (a := .ptr _ _ _ _ _) rfl | apply ResR.tmp (a := .own _ _ _) rfl | apply ResR.tmp (a := .agg _) rfl | apply ResR.tmp (a := .ref _) rfl | apply ResR.tmp (a := .tup _) rfl | apply ResR.tmp (a := .fn _ _) rfl | apply ResR.tmp (a := .dead) rfl | apply ResR.cell1 rfl rfl rfl rfl (by first | rfl | (simp [Cells.len] <;> omega)) (by first | rfl | exact data_get (map_at (by assumption)) | exact data_get (by assumption) | exact data_get (List.getElem?_set_self (by simp; omega)) | exact data_get (List.getElem?_set_self (by simpa using hlt))) rfl | apply ResR.cellN rfl rfl rfl rfl (by first | rfl | (simp [Cells.len] <;> omega)) (by first | rfl | exact data_get (map_at (by assumption)) | exact data_get (by assumption) | exact data_get (List.getElem?_set_self (by simp; omega)) | exact data_get (List.getElem?_set_self (by simpa using hlt))) (by repeat (first | exact Seg.z _ | apply Seg.t | apply Seg.d)))) (by repeat (first | exact abv_nil _ | exact abv_lks rfl | refine abv_upd ?_ rfl)) rfl ?_
  rfl
theorem valid1_a (K AX AY BX BY R : Int) (Nm : ByteArray) (hz : Nm.size ≤ 9223372036854775807) : FnC Try.prog 63 [] [.agg [.d (.v (.int .i64 K)), .d (.v (.int .i64 AX)), .d (.v (.int .i64 AY)), .d (.v (.int .i64 BX)), .d (.v (.int .i64 BY)), .d (.v (.int .i64 R)), .d (.v (.string Nm))]] [] (.d (.v (.bool (!shB ⟨K, AX, AY, BX, BY, R, Nm⟩)))) := by
  refine fnc_intro (T := tt) (N := 6) tok Try.func63 rfl rfl (by kernel_rfl) rfl rfl ?_
  refine aw_seq ?_
  refine aw_region (is := [0, 1]) rfl ?_
  refine rt_s rfl (want_none rfl) rfl (st_box 3 (cs := _ :: _) rfl rfl rfl) ?_
  refine rt_p rfl (want_none rfl) rfl (pu_assign (r := .d _) rfl) ?_
  refine rt_nil ?_
  refine then_n ?_
  refine aw_seq ?_
  refine aw_region (is := [0, 1, 2, 3]) rfl ?_
  refine rt_l rfl (want_none rfl) rfl (li_loadN tok rfl rfl rfl rfl (by first | rfl | (simp [Cells.len] <;> omega)) (by first | rfl | exact data_get (map_at (by assumption)) | exact data_get (by assumption) | exact data_get (List.getElem?_set_self (by simp; omega)) | exact data_get (List.getElem?_set_self (by simpa using hlt))) (by repeat (first | exact Seg.z _ | apply Seg.t | apply Seg.d))) ?_
  refine rt_s rfl (want_none rfl) rfl (st_call 4 rfl rfl rfl (validShape_a _ _ _ _ _ _ _ hz) (by repeat (first | exact abv_nil _ | exact abv_lks rfl | refine abv_upd ?_ rfl)) (by repeat (first | exact RenRL.nil | apply RenRL.cons | exact RenR.d _ | apply RenR.agg | apply RenR.tup | exact RenR.own _ _ _ _ rfl | exact RenR.ptr _ _ _ _ _ _ rfl | exact RenR.ref _ | apply RenR.fn | exact RenR.dead)) (by repeat (first | exact BirR.nil _ _ | (apply BirR.cons; (first | exact RenS.no | exact RenS.dead | exact RenS.data _ _ _ | (apply RenS.box; repeat (first | exact RenRL.nil | apply RenRL.cons | exact RenR.d _ | apply RenR.agg | apply RenR.tup | exact RenR.own _ _ _ _ rfl | exact RenR.ptr _ _ _ _ _ _ rfl | exact RenR.ref _ | apply RenR.fn | exact RenR.dead)) | exact RenS.gen _))))) ?_
  refine rt_p rfl (want_none rfl) rfl (pu_not rfl) ?_
  refine rt_p rfl (want_none rfl) rfl (pu_assign (r := .d _) rfl) ?_
  refine rt_nil ?_
  refine then_n ?_
  refine aw_ret ?_
  refine ret0 (rs := [.tmp 2]) 200 rfl (by repeat (first | exact ResR.nil | apply ResR.tmp (a := .d _) rfl | apply ResR.tmp (a := .ptr _ _ _ _ _) rfl | apply ResR.tmp (a := .own _ _ _) rfl | apply ResR.tmp (a := .agg _) rfl | apply ResR.tmp (a := .ref _) rfl | apply ResR.tmp (a := .tup _) rfl | apply ResR.tmp (a := .fn _ _) rfl | apply ResR.tmp (a := .dead) rfl | apply ResR.cell1 rfl rfl rfl rfl (by first | rfl | (simp [Cells.len] <;> omega)) (by first | rfl | exact data_get (map_at (by assumption)) | exact data_get (by assumption) | exact data_get (List.getElem?_set_self (by simp; omega)) | exact data_get (List.getElem?_set_self (by simpa using hlt))) rfl | apply ResR.cellN rfl rfl rfl rfl (by first | rfl | (simp [Cells.len] <;> omega)) (by first | rfl | exact data_get (map_at (by assumption)) | exact data_get (by assumption) | exact data_get (List.getElem?_set_self (by simp; omega)) | exact data_get (List.getElem?_set_self (by simpa using hlt))) (by repeat (first | exact Seg.z _ | apply Seg.t | apply Seg.d)))) (by repeat (first | exact abv_nil _ | exact abv_lks rfl | refine abv_upd ?_ rfl)) rfl ?_
  rfl
theorem indexFunc_v (xs : List Shp) (hm : xs.length ≤ 1048576) (hn : ∀ s ∈ xs, s.N.size ≤ 9223372036854775807) : FnC Try.prog 102 [] [.d (.sl (shpsD xs)), .fn 63 []] [] (.d (.v (.int .i64 (if xs.all shB = true then -1 else (xs.findIdx (fun s => !shB s) : Int))))) := by
  refine fnc_intro (T := tt) (N := 19) tok Try.func102 rfl rfl (by kernel_rfl) rfl rfl ?_
  refine aw_seq ?_
  refine aw_region (is := [0]) rfl ?_
  refine rt_p rfl (want_none rfl) rfl (pu_assign (r := .d _) rfl) ?_
  refine rt_nil ?_
  refine then_n ?_
  refine aw_seq ?_
  refine aw_seq ?_
  refine aw_region (is := [0, 1, 2]) rfl ?_
  refine rt_p rfl (want_none rfl) rfl (pu_move (r := .d _) rfl) ?_
  refine rt_p rfl (want_none rfl) rfl (pu_len_map tok rfl rfl rfl) ?_
  refine rt_p rfl (want_none rfl) rfl (pu_move (r := .d _) rfl) ?_
  refine rt_nil ?_
  refine then_n ?_
  refine aw_block ?_
  refine aw_loop (ι := {k : Nat // k ≤ xs.length ∧ (xs.take k).all shB = true}) (fun p => ⟨updA (updA (updA (updA (updA ((fun _ => .dead)) 0 (.d (.sl (shpsD xs)))) 1 (.fn 63 [])) 6 (.d (.sl (shpsD xs)))) 7 (.d (.v (.int .i64 (xs.length))))) 8 (.d (.v (.int .i64 (p.1)))), lks [.no, .no, .no]⟩) (fun p => xs.length - p.1) ⟨0, by omega, rfl⟩ ?_ ?_
  · (refine weak_of 200 (by repeat (first | exact abv_nil _ | exact abv_lks rfl | refine abv_upd ?_ rfl)) rfl (by repeat (first | exact WT.nil | refine WT.free_ rfl (by first | exact rfl | exact eqI (by omega) | exact eqI (by simp <;> fail) | exact eqI (by simp; omega) | exact eqOwn (by simp <;> fail) | exact eqOwn (by simp; omega) | (simp_all <;> fail)) ?_ | refine WT.ren_ (r' := _) rfl (by repeat (first | exact RenRL.nil | apply RenRL.cons | exact RenR.d _ | exact RenR.of_d (by first | exact rfl | exact eqI (by omega) | exact eqI (by simp <;> fail) | exact eqI (by simp; omega)) | apply RenR.agg | apply RenR.tup | exact RenR.own _ _ _ _ rfl | exact RenR.of_own (by first | rfl | (omega) | (simp <;> fail) | (simp; omega)) rfl | exact RenR.ptr _ _ _ _ _ _ rfl | exact RenR.ref _ | apply RenR.fn | exact RenR.dead)) ?_)) (by repeat (first | exact WH.nil _ | refine WH.data_ (by first | exact rfl | exact eqI (by omega) | exact eqI (by simp <;> fail) | exact eqI (by simp; omega) | exact eqOwn (by simp <;> fail) | exact eqOwn (by simp; omega) | (simp_all <;> fail)) ?_ | refine WH.cons (by first | exact rfl | exact eqI (by omega) | exact eqI (by simp <;> fail) | exact eqI (by simp; omega) | exact eqOwn (by simp <;> fail) | exact eqOwn (by simp; omega) | (simp_all <;> fail)) (by first | exact RenS.no | exact RenS.dead | exact RenS.data _ _ _ | (apply RenS.box; repeat (first | exact RenRL.nil | apply RenRL.cons | exact RenR.d _ | exact RenR.of_d (by first | exact rfl | exact eqI (by omega) | exact eqI (by simp <;> fail) | exact eqI (by simp; omega)) | apply RenR.agg | apply RenR.tup | exact RenR.own _ _ _ _ rfl | exact RenR.of_own (by first | rfl | (omega) | (simp <;> fail) | (simp; omega)) rfl | exact RenR.ptr _ _ _ _ _ _ rfl | exact RenR.ref _ | apply RenR.fn | exact RenR.dead)) | exact RenS.gen _) ?_)) rfl)
  · rintro ⟨k, hk, ha⟩
    rcases Nat.lt_or_ge k xs.length with hlt | hge
    · skip
      obtain ⟨s, hs⟩ : ∃ s, xs[k]? = some s := ⟨_, List.getElem?_eq_getElem hlt⟩
      refine aw_seq ?_
      refine aw_region (is := [0]) rfl ?_
      refine rt_p rfl (want_none rfl) rfl (pu_lss rfl rfl) ?_
      refine rt_nil ?_
      refine then_n ?_
      refine aw_seq ?_
      refine aw_condP _ rfl (fun hc => ?_) (fun hc => ?_)
      · skip
        refine aw_skip ?_
        refine then_n ?_
        refine aw_seq ?_
        refine aw_block ?_
        refine aw_seq ?_
        refine aw_region (is := [0, 1]) rfl ?_
        refine rt_p rfl (want_none rfl) rfl (pu_move (r := .d _) rfl) ?_
        refine rt_p rfl (want_none rfl) rfl (pu_assign (r := .d _) rfl) ?_
        refine rt_nil ?_
        refine then_n ?_
        refine aw_seq ?_
        refine aw_region (is := [0, 1, 2, 3, 4, 5]) rfl ?_
        refine rt_p rfl (want_none rfl) rfl (pu_move (r := .fn _ _) rfl) ?_
        refine rt_p rfl (want_none rfl) rfl (pu_move (r := .d _) rfl) ?_
        refine rt_p rfl (want_none rfl) rfl (pu_move (r := .d _) rfl) ?_
        refine rt_p rfl (want_none rfl) rfl (pu_index_sl tok rfl rfl (by first | rfl | omega) rfl rfl rfl (by first | rfl | exact map_at (by assumption) | assumption) rfl) ?_
        refine rt_p rfl (want_none rfl) rfl (pu_load_refN tok rfl rfl rfl (by repeat (first | exact SegD.z _ | apply SegD.t))) ?_
        refine rt_s rfl (want_none rfl) rfl (st_call 3 rfl rfl rfl (valid1_a s.K s.AX s.AY s.BX s.BY s.R s.N (hn s (List.mem_of_getElem? hs))) (by repeat (first | exact abv_nil _ | exact abv_lks rfl | refine abv_upd ?_ rfl)) (by repeat (first | exact RenRL.nil | apply RenRL.cons | exact RenR.d _ | apply RenR.agg | apply RenR.tup | exact RenR.own _ _ _ _ rfl | exact RenR.ptr _ _ _ _ _ _ rfl | exact RenR.ref _ | apply RenR.fn | exact RenR.dead)) (by repeat (first | exact BirR.nil _ _ | (apply BirR.cons; (first | exact RenS.no | exact RenS.dead | exact RenS.data _ _ _ | (apply RenS.box; repeat (first | exact RenRL.nil | apply RenRL.cons | exact RenR.d _ | apply RenR.agg | apply RenR.tup | exact RenR.own _ _ _ _ rfl | exact RenR.ptr _ _ _ _ _ _ rfl | exact RenR.ref _ | apply RenR.fn | exact RenR.dead)) | exact RenS.gen _))))) ?_
        refine rt_nil ?_
        refine then_n ?_
        refine aw_cond _ rfl (fun hc => ?_) (fun hc => ?_)
        · skip
          refine aw_seq ?_
          refine aw_region (is := [0, 1]) rfl ?_
          refine rt_p rfl (want_none rfl) rfl (pu_move (r := .d _) rfl) ?_
          refine rt_p rfl (want_none rfl) rfl (pu_assign (r := .d _) rfl) ?_
          refine rt_nil ?_
          refine then_n ?_
          refine aw_ret ?_
          refine block_r ?_
          refine then_r ?_
          refine then_r ?_
          refine block_r ?_
          refine then_r ?_
          refine ret0 (rs := [.tmp 4]) 200 rfl (by repeat (first | exact ResR.nil | apply ResR.tmp (a := .d _) rfl | apply ResR.tmp (a := .ptr _ _ _ _ _) rfl | apply ResR.tmp (a := .own _ _ _) rfl | apply ResR.tmp (a := .agg _) rfl | apply ResR.tmp (a := .ref _) rfl | apply ResR.tmp (a := .tup _) rfl | apply ResR.tmp (a := .fn _ _) rfl | apply ResR.tmp (a := .dead) rfl | apply ResR.cell1 rfl rfl rfl rfl (by first | rfl | (simp [Cells.len] <;> omega)) (by first | rfl | exact data_get (map_at (by assumption)) | exact data_get (by assumption) | exact data_get (List.getElem?_set_self (by simp; omega)) | exact data_get (List.getElem?_set_self (by simpa using hlt))) rfl | apply ResR.cellN rfl rfl rfl rfl (by first | rfl | (simp [Cells.len] <;> omega)) (by first | rfl | exact data_get (map_at (by assumption)) | exact data_get (by assumption) | exact data_get (List.getElem?_set_self (by simp; omega)) | exact data_get (List.getElem?_set_self (by simpa using hlt))) (by repeat (first | exact Seg.z _ | apply Seg.t | apply Seg.d)))) (by repeat (first | exact abv_nil _ | exact abv_lks rfl | refine abv_upd ?_ rfl)) rfl ?_
          first
            | exact reti (by rw [if_neg (by rw [all_bad hs (by simpa using hc)]; simp)]; rw [find_at hs ha (by simpa using hc)])
            | exact reti (by rw [if_pos (all_end hge ha)])
        · skip
          refine aw_skip ?_
          refine block_n ?_
          refine then_n ?_
          refine aw_region (is := [0, 1]) rfl ?_
          refine rt_p rfl (want_none rfl) rfl (pu_add rfl rfl (by omega) (by omega)) ?_
          refine rt_p rfl (want_none rfl) rfl (pu_move (r := .d _) rfl) ?_
          refine rt_nil ?_
          refine then_n ?_
          refine ⟨⟨k + 1, by omega, all_next hs ha (by simpa using hc)⟩, (by simp; omega), ?_⟩
          (refine weak_of 200 (by repeat (first | exact abv_nil _ | exact abv_lks rfl | refine abv_upd ?_ rfl)) rfl (by repeat (first | exact WT.nil | refine WT.free_ rfl (by first | exact rfl | exact eqI (by omega) | exact eqI (by simp <;> fail) | exact eqI (by simp; omega) | exact eqOwn (by simp <;> fail) | exact eqOwn (by simp; omega) | (simp_all <;> fail)) ?_ | refine WT.ren_ (r' := _) rfl (by repeat (first | exact RenRL.nil | apply RenRL.cons | exact RenR.d _ | exact RenR.of_d (by first | exact rfl | exact eqI (by omega) | exact eqI (by simp <;> fail) | exact eqI (by simp; omega)) | apply RenR.agg | apply RenR.tup | exact RenR.own _ _ _ _ rfl | exact RenR.of_own (by first | rfl | (omega) | (simp <;> fail) | (simp; omega)) rfl | exact RenR.ptr _ _ _ _ _ _ rfl | exact RenR.ref _ | apply RenR.fn | exact RenR.dead)) ?_)) (by repeat (first | exact WH.nil _ | refine WH.data_ (by first | exact rfl | exact eqI (by omega) | exact eqI (by simp <;> fail) | exact eqI (by simp; omega) | exact eqOwn (by simp <;> fail) | exact eqOwn (by simp; omega) | (simp_all <;> fail)) ?_ | refine WH.cons (by first | exact rfl | exact eqI (by omega) | exact eqI (by simp <;> fail) | exact eqI (by simp; omega) | exact eqOwn (by simp <;> fail) | exact eqOwn (by simp; omega) | (simp_all <;> fail)) (by first | exact RenS.no | exact RenS.dead | exact RenS.data _ _ _ | (apply RenS.box; repeat (first | exact RenRL.nil | apply RenRL.cons | exact RenR.d _ | exact RenR.of_d (by first | exact rfl | exact eqI (by omega) | exact eqI (by simp <;> fail) | exact eqI (by simp; omega)) | apply RenR.agg | apply RenR.tup | exact RenR.own _ _ _ _ rfl | exact RenR.of_own (by first | rfl | (omega) | (simp <;> fail) | (simp; omega)) rfl | exact RenR.ptr _ _ _ _ _ _ rfl | exact RenR.ref _ | apply RenR.fn | exact RenR.dead)) | exact RenS.gen _) ?_)) rfl)
      · exfalso; simp at hc; omega
    · skip
      refine aw_seq ?_
      refine aw_region (is := [0]) rfl ?_
      refine rt_p rfl (want_none rfl) rfl (pu_lss rfl rfl) ?_
      refine rt_nil ?_
      refine then_n ?_
      refine aw_seq ?_
      refine aw_condP _ rfl (fun hc => ?_) (fun hc => ?_)
      · exfalso; simp at hc; omega
      · skip
        refine aw_exit ?_
        refine then_e ?_
        refine then_e ?_
        refine block_hit ?_
        refine then_n ?_
        refine aw_seq ?_
        refine aw_region (is := [0]) rfl ?_
        refine rt_p rfl (want_none rfl) rfl (pu_assign (r := .d _) rfl) ?_
        refine rt_nil ?_
        refine then_n ?_
        refine aw_ret ?_
        refine ret0 (rs := [.tmp 4]) 200 rfl (by repeat (first | exact ResR.nil | apply ResR.tmp (a := .d _) rfl | apply ResR.tmp (a := .ptr _ _ _ _ _) rfl | apply ResR.tmp (a := .own _ _ _) rfl | apply ResR.tmp (a := .agg _) rfl | apply ResR.tmp (a := .ref _) rfl | apply ResR.tmp (a := .tup _) rfl | apply ResR.tmp (a := .fn _ _) rfl | apply ResR.tmp (a := .dead) rfl | apply ResR.cell1 rfl rfl rfl rfl (by first | rfl | (simp [Cells.len] <;> omega)) (by first | rfl | exact data_get (map_at (by assumption)) | exact data_get (by assumption) | exact data_get (List.getElem?_set_self (by simp; omega)) | exact data_get (List.getElem?_set_self (by simpa using hlt))) rfl | apply ResR.cellN rfl rfl rfl rfl (by first | rfl | (simp [Cells.len] <;> omega)) (by first | rfl | exact data_get (map_at (by assumption)) | exact data_get (by assumption) | exact data_get (List.getElem?_set_self (by simp; omega)) | exact data_get (List.getElem?_set_self (by simpa using hlt))) (by repeat (first | exact Seg.z _ | apply Seg.t | apply Seg.d)))) (by repeat (first | exact abv_nil _ | exact abv_lks rfl | refine abv_upd ?_ rfl)) rfl ?_
        first
          | exact reti (by rw [if_neg (by rw [all_bad hs (by simpa using hc)]; simp)]; rw [find_at hs ha (by simpa using hc)])
          | exact reti (by rw [if_pos (all_end hge ha)])
theorem containsFunc_v (xs : List Shp) (hm : xs.length ≤ 1048576) (hn : ∀ s ∈ xs, s.N.size ≤ 9223372036854775807) : FnC Try.prog 62 [] [.d (.sl (shpsD xs)), .fn 63 []] [] (.d (.v (.bool (!xs.all shB)))) := by
  refine fnc_intro (T := tt) (N := 9) tok Try.func62 rfl rfl (by kernel_rfl) rfl rfl ?_
  refine aw_seq ?_
  refine aw_region (is := [0]) rfl ?_
  refine rt_p rfl (want_none rfl) rfl (pu_assign (r := .d _) rfl) ?_
  refine rt_nil ?_
  refine then_n ?_
  refine aw_seq ?_
  refine aw_region (is := [0, 1, 2, 3, 4]) rfl ?_
  refine rt_p rfl (want_none rfl) rfl (pu_move (r := .d _) rfl) ?_
  refine rt_p rfl (want_none rfl) rfl (pu_move (r := .fn _ _) rfl) ?_
  refine rt_s rfl (want_none rfl) rfl (st_call 3 rfl rfl rfl (indexFunc_v xs hm hn) (by repeat (first | exact abv_nil _ | exact abv_lks rfl | refine abv_upd ?_ rfl)) (by repeat (first | exact RenRL.nil | apply RenRL.cons | exact RenR.d _ | apply RenR.agg | apply RenR.tup | exact RenR.own _ _ _ _ rfl | exact RenR.ptr _ _ _ _ _ _ rfl | exact RenR.ref _ | apply RenR.fn | exact RenR.dead)) (by repeat (first | exact BirR.nil _ _ | (apply BirR.cons; (first | exact RenS.no | exact RenS.dead | exact RenS.data _ _ _ | (apply RenS.box; repeat (first | exact RenRL.nil | apply RenRL.cons | exact RenR.d _ | apply RenR.agg | apply RenR.tup | exact RenR.own _ _ _ _ rfl | exact RenR.ptr _ _ _ _ _ _ rfl | exact RenR.ref _ | apply RenR.fn | exact RenR.dead)) | exact RenS.gen _))))) ?_
  refine rt_p rfl (want_none rfl) rfl (pu_geq rfl rfl) ?_
  refine rt_p rfl (want_none rfl) rfl (pu_assign (r := .d _) rfl) ?_
  refine rt_nil ?_
  refine then_n ?_
  refine aw_ret ?_
  refine ret0 (rs := [.tmp 4]) 200 rfl (by repeat (first | exact ResR.nil | apply ResR.tmp (a := .d _) rfl | apply ResR.tmp (a := .ptr _ _ _ _ _) rfl | apply ResR.tmp (a := .own _ _ _) rfl | apply ResR.tmp (a := .agg _) rfl | apply ResR.tmp (a := .ref _) rfl | apply ResR.tmp (a := .tup _) rfl | apply ResR.tmp (a := .fn _ _) rfl | apply ResR.tmp (a := .dead) rfl | apply ResR.cell1 rfl rfl rfl rfl (by first | rfl | (simp [Cells.len] <;> omega)) (by first | rfl | exact data_get (map_at (by assumption)) | exact data_get (by assumption) | exact data_get (List.getElem?_set_self (by simp; omega)) | exact data_get (List.getElem?_set_self (by simpa using hlt))) rfl | apply ResR.cellN rfl rfl rfl rfl (by first | rfl | (simp [Cells.len] <;> omega)) (by first | rfl | exact data_get (map_at (by assumption)) | exact data_get (by assumption) | exact data_get (List.getElem?_set_self (by simp; omega)) | exact data_get (List.getElem?_set_self (by simpa using hlt))) (by repeat (first | exact Seg.z _ | apply Seg.t | apply Seg.d)))) (by repeat (first | exact abv_nil _ | exact abv_lks rfl | refine abv_upd ?_ rfl)) rfl ?_
  exact retb (by split <;> simp_all <;> omega)
theorem ValidDrawing_a (xs : List Shp) (hm : xs.length ≤ 1048576) (hn : ∀ s ∈ xs, s.N.size ≤ 9223372036854775807) : FnC Try.prog 24 [] [.agg [.d (.sl (shpsD xs))]] [] (.d (.v (.bool (drOk xs)))) := by
  refine fnc_intro (T := tt) (N := 13) tok Try.func24 rfl rfl (by kernel_rfl) rfl rfl ?_
  refine aw_seq ?_
  refine aw_region (is := [0, 1]) rfl ?_
  refine rt_s rfl (want_none rfl) rfl (st_box 3 (cs := _ :: _) rfl rfl rfl) ?_
  refine rt_p rfl (want_none rfl) rfl (pu_assign (r := .d _) rfl) ?_
  refine rt_nil ?_
  refine then_n ?_
  refine aw_seq ?_
  refine aw_region (is := [0, 1, 2, 3, 4, 5, 6, 7, 8, 9, 10]) rfl ?_
  refine rt_l rfl (want_none rfl) rfl (li_fieldAddr tok rfl rfl rfl rfl rfl rfl rfl (by first | rfl | (simp [Cells.len] <;> omega)) (by first | rfl | exact data_get (map_at (by assumption)) | exact data_get (by assumption) | exact data_get (List.getElem?_set_self (by simp; omega)) | exact data_get (List.getElem?_set_self (by simpa using hlt)))) ?_
  refine rt_l rfl (want_none rfl) rfl (li_load1 tok rfl rfl rfl rfl (by first | rfl | (simp [Cells.len] <;> omega)) (by first | rfl | exact data_get (map_at (by assumption)) | exact data_get (by assumption) | exact data_get (List.getElem?_set_self (by simp; omega)) | exact data_get (List.getElem?_set_self (by simpa using hlt))) rfl) ?_
  refine rt_p rfl (want_none rfl) rfl (pu_len_map tok rfl rfl rfl) ?_
  refine rt_p rfl (want_none rfl) rfl (pu_leq rfl rfl) ?_
  refine rt_p rfl (want_none rfl) rfl (pu_move (r := .d _) rfl) ?_
  refine rt_boolP (u := 7) rfl (fun hg => ?_) (fun hg => ?_)
  · skip
    refine rt_l rfl (want_some rfl rfl rfl rfl) rfl (li_fieldAddr tok rfl rfl rfl rfl rfl rfl rfl (by first | rfl | (simp [Cells.len] <;> omega)) (by first | rfl | exact data_get (map_at (by assumption)) | exact data_get (by assumption) | exact data_get (List.getElem?_set_self (by simp; omega)) | exact data_get (List.getElem?_set_self (by simpa using hlt)))) ?_
    refine rt_l rfl (want_some rfl rfl rfl rfl) rfl (li_load1 tok rfl rfl rfl rfl (by first | rfl | (simp [Cells.len] <;> omega)) (by first | rfl | exact data_get (map_at (by assumption)) | exact data_get (by assumption) | exact data_get (List.getElem?_set_self (by simp; omega)) | exact data_get (List.getElem?_set_self (by simpa using hlt))) rfl) ?_
    refine rt_s rfl (want_some rfl rfl rfl rfl) rfl (st_call 4 rfl rfl rfl (containsFunc_v xs hm hn) (by repeat (first | exact abv_nil _ | exact abv_lks rfl | refine abv_upd ?_ rfl)) (by repeat (first | exact RenRL.nil | apply RenRL.cons | exact RenR.d _ | apply RenR.agg | apply RenR.tup | exact RenR.own _ _ _ _ rfl | exact RenR.ptr _ _ _ _ _ _ rfl | exact RenR.ref _ | apply RenR.fn | exact RenR.dead)) (by repeat (first | exact BirR.nil _ _ | (apply BirR.cons; (first | exact RenS.no | exact RenS.dead | exact RenS.data _ _ _ | (apply RenS.box; repeat (first | exact RenRL.nil | apply RenRL.cons | exact RenR.d _ | apply RenR.agg | apply RenR.tup | exact RenR.own _ _ _ _ rfl | exact RenR.ptr _ _ _ _ _ _ rfl | exact RenR.ref _ | apply RenR.fn | exact RenR.dead)) | exact RenS.gen _))))) ?_
    refine rt_p rfl (want_some rfl rfl rfl rfl) rfl (pu_not rfl) ?_
    refine rt_p rfl (want_none rfl) rfl (pu_pick_t (r := .d _) rfl rfl) ?_
    refine rt_p rfl (want_none rfl) rfl (pu_assign (r := .d _) rfl) ?_
    refine rt_nil ?_
    refine then_n ?_
    refine aw_ret ?_
    refine ret0 (rs := [.tmp 2]) 200 rfl (by repeat (first | exact ResR.nil | apply ResR.tmp (a := .d _) rfl | apply ResR.tmp (a := .ptr _ _ _ _ _) rfl | apply ResR.tmp (a := .own _ _ _) rfl | apply ResR.tmp (a := .agg _) rfl | apply ResR.tmp (a := .ref _) rfl | apply ResR.tmp (a := .tup _) rfl | apply ResR.tmp (a := .fn _ _) rfl | apply ResR.tmp (a := .dead) rfl | apply ResR.cell1 rfl rfl rfl rfl (by first | rfl | (simp [Cells.len] <;> omega)) (by first | rfl | exact data_get (map_at (by assumption)) | exact data_get (by assumption) | exact data_get (List.getElem?_set_self (by simp; omega)) | exact data_get (List.getElem?_set_self (by simpa using hlt))) rfl | apply ResR.cellN rfl rfl rfl rfl (by first | rfl | (simp [Cells.len] <;> omega)) (by first | rfl | exact data_get (map_at (by assumption)) | exact data_get (by assumption) | exact data_get (List.getElem?_set_self (by simp; omega)) | exact data_get (List.getElem?_set_self (by simpa using hlt))) (by repeat (first | exact Seg.z _ | apply Seg.t | apply Seg.d)))) (by repeat (first | exact abv_nil _ | exact abv_lks rfl | refine abv_upd ?_ rfl)) rfl ?_
    exact retb (by simp_all [drOk] <;> omega)
  · skip
    refine rt_skip rfl rfl rfl (by first | exact .inl rfl | exact .inr rfl) rfl ?_
    refine rt_skip rfl rfl rfl (by first | exact .inl rfl | exact .inr rfl) rfl ?_
    refine rt_skip rfl rfl rfl (by first | exact .inl rfl | exact .inr rfl) rfl ?_
    refine rt_skip rfl rfl rfl (by first | exact .inl rfl | exact .inr rfl) rfl ?_
    refine rt_p rfl (want_none rfl) rfl (pu_pick_f (r := .d _) rfl rfl) ?_
    refine rt_p rfl (want_none rfl) rfl (pu_assign (r := .d _) rfl) ?_
    refine rt_nil ?_
    refine then_n ?_
    refine aw_ret ?_
    refine ret0 (rs := [.tmp 2]) 200 rfl (by repeat (first | exact ResR.nil | apply ResR.tmp (a := .d _) rfl | apply ResR.tmp (a := .ptr _ _ _ _ _) rfl | apply ResR.tmp (a := .own _ _ _) rfl | apply ResR.tmp (a := .agg _) rfl | apply ResR.tmp (a := .ref _) rfl | apply ResR.tmp (a := .tup _) rfl | apply ResR.tmp (a := .fn _ _) rfl | apply ResR.tmp (a := .dead) rfl | apply ResR.cell1 rfl rfl rfl rfl (by first | rfl | (simp [Cells.len] <;> omega)) (by first | rfl | exact data_get (map_at (by assumption)) | exact data_get (by assumption) | exact data_get (List.getElem?_set_self (by simp; omega)) | exact data_get (List.getElem?_set_self (by simpa using hlt))) rfl | apply ResR.cellN rfl rfl rfl rfl (by first | rfl | (simp [Cells.len] <;> omega)) (by first | rfl | exact data_get (map_at (by assumption)) | exact data_get (by assumption) | exact data_get (List.getElem?_set_self (by simp; omega)) | exact data_get (List.getElem?_set_self (by simpa using hlt))) (by repeat (first | exact Seg.z _ | apply Seg.t | apply Seg.d)))) (by repeat (first | exact abv_nil _ | exact abv_lks rfl | refine abv_upd ?_ rfl)) rfl ?_
    exact retb (by simp_all [drOk] <;> omega)
end Go.Proofs.Ytplnohfjeilodaa
