/- drawings, the helpers of the laws -/
import Derived.Test.YtplnohfjeilodaaTab
import Derived.Test.YtplnohfjeilodaaM25
import Derived.Test.YtplnohfjeilodaaProg
namespace Go.Proofs.Ytplnohfjeilodaa
open Go.RowKit
set_option linter.unusedVariables false
set_option maxRecDepth 100000
theorem szGo_ge : ∀ (xs : List Shp) (left : Int), 0 ≤ left → -1 ≤ szGo left xs ∧ szGo left xs ≤ left
  | [], left, h => by simp [szGo]; omega
  | s :: xs, left, h => by
    unfold szGo
    split
    · omega
    · have := szGo_ge xs (left - s.N.size) (by omega); omega
theorem szS_neg {left : Int} {xs : List Shp} (h : szS left xs < 0) : szS left xs = -1 := by
  unfold szS at h ⊢
  split
  · rfl
  · rename_i h2
    rw [if_neg h2] at h
    have := szGo_ge xs (left - xs.length) (by omega)
    omega
theorem szS_ge {left : Int} {xs : List Shp} (h : 0 ≤ szS left xs) : (xs.length : Int) ≤ left ∧ szS left xs ≤ left := by
  unfold szS at h ⊢
  split
  · rename_i h2; rw [if_pos h2] at h; omega
  · rename_i h2
    have := szGo_ge xs (left - xs.length) (by omega)
    omega
theorem szShape_c (K AX AY BX BY R : Int) (Nm : ByteArray) (left : Int) (h0 : 0 ≤ left) (h1 : left ≤ 1048576) (h2 : Nm.size ≤ 9223372036854775807) : FnC Try.prog 95 [] [.agg [.d (.v (.int .i64 K)), .d (.v (.int .i64 AX)), .d (.v (.int .i64 AY)), .d (.v (.int .i64 BX)), .d (.v (.int .i64 BY)), .d (.v (.int .i64 R)), .d (.v (.string Nm))], .d (.v (.int .i64 left))] [] (.d (.v (.int .i64 (if left - Nm.size < 0 then -1 else left - Nm.size)))) := by
  refine fnc_intro (T := tt) (N := 13) tok Try.func95 rfl rfl (by kernel_rfl) rfl rfl ?_
  refine aw_seq ?_
  refine aw_region (is := [0, 1]) rfl ?_
  refine rt_s rfl (want_none rfl) rfl (st_box 3 (cs := _ :: _) rfl rfl rfl) ?_
  refine rt_p rfl (want_none rfl) rfl (pu_assign (r := .d _) rfl) ?_
  refine rt_nil ?_
  refine then_n ?_
  refine aw_seq ?_
  refine aw_region (is := [0, 1, 2, 3, 4, 5]) rfl ?_
  refine rt_p rfl (want_none rfl) rfl (pu_move (r := .d _) rfl) ?_
  refine rt_l rfl (want_none rfl) rfl (li_fieldAddr tok rfl rfl rfl rfl rfl rfl rfl (by first | rfl | (simp [Cells.len] <;> omega)) (by first | rfl | exact data_get (map_at (by assumption)) | exact data_get (by assumption) | exact data_get (List.getElem?_set_self (by simp; omega)) | exact data_get (List.getElem?_set_self (by simpa using hlt)))) ?_
  refine rt_l rfl (want_none rfl) rfl (li_load1 tok rfl rfl rfl rfl (by first | rfl | (simp [Cells.len] <;> omega)) (by first | rfl | exact data_get (map_at (by assumption)) | exact data_get (by assumption) | exact data_get (List.getElem?_set_self (by simp; omega)) | exact data_get (List.getElem?_set_self (by simpa using hlt))) rfl) ?_
  refine rt_p rfl (want_none rfl) rfl (pu_len_str tok rfl rfl rfl) ?_
  refine rt_p rfl (want_none rfl) rfl (pu_sub rfl rfl (by omega) (by omega)) ?_
  refine rt_p rfl (want_none rfl) rfl (pu_assign (r := .d _) rfl) ?_
  refine rt_nil ?_
  refine then_n ?_
  refine aw_seq ?_
  refine aw_seq ?_
  refine aw_region (is := [0, 1]) rfl ?_
  refine rt_p rfl (want_none rfl) rfl (pu_move (r := .d _) rfl) ?_
  refine rt_p rfl (want_none rfl) rfl (pu_lss rfl rfl) ?_
  refine rt_nil ?_
  refine then_n ?_
  refine aw_condP _ rfl (fun hc => ?_) (fun hc => ?_)
  · skip
    refine aw_seq ?_
    refine aw_region (is := [0]) rfl ?_
    refine rt_p rfl (want_none rfl) rfl (pu_assign (r := .d _) rfl) ?_
    refine rt_nil ?_
    refine then_n ?_
    refine aw_ret ?_
    refine then_r ?_
    refine ret0 (rs := [.tmp 4]) 200 rfl (by repeat (first | exact ResR.nil | apply ResR.tmp (a := .d _) rfl | apply ResR.tmp (a := .ptr _ _ _ _ _) rfl | apply ResR.tmp (a := .own _ _ _) rfl | apply ResR.tmp (a := .agg _) rfl | apply ResR.tmp (a := .ref _) rfl | apply ResR.tmp (a := .tup _) rfl | apply ResR.tmp (a := .fn _ _) rfl | apply ResR.tmp (a := .dead) rfl | apply ResR.cell1 rfl rfl rfl rfl (by first | rfl | (simp [Cells.len] <;> omega)) (by first | rfl | exact data_get (map_at (by assumption)) | exact data_get (by assumption) | exact data_get (List.getElem?_set_self (by simp; omega)) | exact data_get (List.getElem?_set_self (by simpa using hlt))) rfl | apply ResR.cellN rfl rfl rfl rfl (by first | rfl | (simp [Cells.len] <;> omega)) (by first | rfl | exact data_get (map_at (by assumption)) | exact data_get (by assumption) | exact data_get (List.getElem?_set_self (by simp; omega)) | exact data_get (List.getElem?_set_self (by simpa using hlt))) (by repeat (first | exact Seg.z _ | apply Seg.t | apply Seg.d)))) (by repeat (first | exact abv_nil _ | exact abv_lks rfl | refine abv_upd ?_ rfl)) rfl ?_
    exact reti (by first | rw [if_pos (by omega)] | rw [if_neg (by omega)])
  · skip
    refine aw_skip ?_
    refine then_n ?_
    refine aw_seq ?_
    refine aw_region (is := [0, 1]) rfl ?_
    refine rt_p rfl (want_none rfl) rfl (pu_move (r := .d _) rfl) ?_
    refine rt_p rfl (want_none rfl) rfl (pu_assign (r := .d _) rfl) ?_
    refine rt_nil ?_
    refine then_n ?_
    refine aw_ret ?_
    refine ret0 (rs := [.tmp 4]) 200 rfl (by repeat (first | exact ResR.nil | apply ResR.tmp (a := .d _) rfl | apply ResR.tmp (a := .ptr _ _ _ _ _) rfl | apply ResR.tmp (a := .own _ _ _) rfl | apply ResR.tmp (a := .agg _) rfl | apply ResR.tmp (a := .ref _) rfl | apply ResR.tmp (a := .tup _) rfl | apply ResR.tmp (a := .fn _ _) rfl | apply ResR.tmp (a := .dead) rfl | apply ResR.cell1 rfl rfl rfl rfl (by first | rfl | (simp [Cells.len] <;> omega)) (by first | rfl | exact data_get (map_at (by assumption)) | exact data_get (by assumption) | exact data_get (List.getElem?_set_self (by simp; omega)) | exact data_get (List.getElem?_set_self (by simpa using hlt))) rfl | apply ResR.cellN rfl rfl rfl rfl (by first | rfl | (simp [Cells.len] <;> omega)) (by first | rfl | exact data_get (map_at (by assumption)) | exact data_get (by assumption) | exact data_get (List.getElem?_set_self (by simp; omega)) | exact data_get (List.getElem?_set_self (by simpa using hlt))) (by repeat (first | exact Seg.z _ | apply Seg.t | apply Seg.d)))) (by repeat (first | exact abv_nil _ | exact abv_lks rfl | refine abv_upd ?_ rfl)) rfl ?_
    exact reti (by first | rw [if_pos (by omega)] | rw [if_neg (by omega)])
theorem szShapeS_c (xs : List Shp) (left : Int) (h0 : 0 ≤ left) (h1 : left ≤ 1048576) (hm : xs.length ≤ 9223372036854775807) (hn : ∀ s ∈ xs, s.N.size ≤ 9223372036854775807) : FnC Try.prog 49 [] [.d (.sl (shpsD xs)), .d (.v (.int .i64 left))] [] (.d (.v (.int .i64 (szS left xs)))) := by
  refine fnc_intro (T := tt) (N := 27) tok Try.func49 rfl rfl (by kernel_rfl) rfl rfl ?_
  refine aw_seq ?_
  refine aw_region (is := [0]) rfl ?_
  refine rt_p rfl (want_none rfl) rfl (pu_assign (r := .d _) rfl) ?_
  refine rt_nil ?_
  refine then_n ?_
  refine aw_seq ?_
  refine aw_region (is := [0, 1, 2, 3, 4]) rfl ?_
  refine rt_p rfl (want_none rfl) rfl (pu_move (r := .d _) rfl) ?_
  refine rt_p rfl (want_none rfl) rfl (pu_move (r := .d _) rfl) ?_
  refine rt_p rfl (want_none rfl) rfl (pu_len_map tok rfl rfl rfl) ?_
  refine rt_p rfl (want_none rfl) rfl (pu_sub rfl rfl (by omega) (by omega)) ?_
  refine rt_p rfl (want_none rfl) rfl (pu_assign (r := .d _) rfl) ?_
  refine rt_nil ?_
  refine then_n ?_
  refine aw_seq ?_
  refine aw_seq ?_
  refine aw_region (is := [0, 1]) rfl ?_
  refine rt_p rfl (want_none rfl) rfl (pu_move (r := .d _) rfl) ?_
  refine rt_p rfl (want_none rfl) rfl (pu_lss rfl rfl) ?_
  refine rt_nil ?_
  refine then_n ?_
  refine aw_condP _ rfl (fun hc => ?_) (fun hc => ?_)
  · skip
    refine aw_seq ?_
    refine aw_region (is := [0]) rfl ?_
    refine rt_p rfl (want_none rfl) rfl (pu_assign (r := .d _) rfl) ?_
    refine rt_nil ?_
    refine then_n ?_
    refine aw_ret ?_
    refine then_r ?_
    refine ret0 (rs := [.tmp 4]) 200 rfl (by repeat (first | exact ResR.nil | apply ResR.tmp (a := .d _) rfl | apply ResR.tmp (a := .ptr _ _ _ _ _) rfl | apply ResR.tmp (a := .own _ _ _) rfl | apply ResR.tmp (a := .agg _) rfl | apply ResR.tmp (a := .ref _) rfl | apply ResR.tmp (a := .tup _) rfl | apply ResR.tmp (a := .fn _ _) rfl | apply ResR.tmp (a := .dead) rfl | apply ResR.cell1 rfl rfl rfl rfl (by first | rfl | (simp [Cells.len] <;> omega)) (by first | rfl | exact data_get (map_at (by assumption)) | exact data_get (by assumption) | exact data_get (List.getElem?_set_self (by simp; omega)) | exact data_get (List.getElem?_set_self (by simpa using hlt))) rfl | apply ResR.cellN rfl rfl rfl rfl (by first | rfl | (simp [Cells.len] <;> omega)) (by first | rfl | exact data_get (map_at (by assumption)) | exact data_get (by assumption) | exact data_get (List.getElem?_set_self (by simp; omega)) | exact data_get (List.getElem?_set_self (by simpa using hlt))) (by repeat (first | exact Seg.z _ | apply Seg.t | apply Seg.d)))) (by repeat (first | exact abv_nil _ | exact abv_lks rfl | refine abv_upd ?_ rfl)) rfl ?_
    first
      | exact reti (by unfold szS; rw [if_pos (by omega)])
      | exact reti (by rw [← h7]; rw [szGo_drop hs, if_pos (by split at hc <;> omega)])
      | exact reti ((szGo_end hge L).symm.trans h7)
  · skip
    refine aw_skip ?_
    refine then_n ?_
    refine aw_seq ?_
    refine aw_seq ?_
    refine aw_region (is := [0]) rfl ?_
    refine rt_p rfl (want_none rfl) rfl (pu_assign (r := .d _) rfl) ?_
    refine rt_nil ?_
    refine then_n ?_
    refine aw_block ?_
    refine aw_loop (ι := {p : Nat × Int // p.1 ≤ xs.length ∧ 0 ≤ p.2 ∧ p.2 ≤ 1048576 ∧ szGo p.2 (xs.drop p.1) = szS left xs}) (fun p => ⟨updA (updA (updA (updA (updA ((fun _ => .dead)) 0 (.d (.sl (shpsD xs)))) 1 (.d (.v (.int .i64 (p.1.2))))) 5 (.d (.v (.int .i64 (p.1.1))))) 6 (.d (.v (.int .i64 left)))) 7 (.d (.sl (shpsD xs))), lks [.no, .no, .no]⟩) (fun p => xs.length - p.1.1) ⟨(0, left - xs.length), by simp, by simp at hc; omega, by simp; omega, by simp at hc; unfold szS; rw [if_neg (by omega)]; rfl⟩ ?_ ?_
    · (refine weak_of 200 (by repeat (first | exact abv_nil _ | exact abv_lks rfl | refine abv_upd ?_ rfl)) rfl (by repeat (first | exact WT.nil | refine WT.free_ rfl (by first | exact rfl | exact eqI (by omega) | exact eqI (by simp <;> fail) | exact eqI (by simp; omega) | exact eqOwn (by simp <;> fail) | exact eqOwn (by simp; omega) | (simp_all <;> fail)) ?_ | refine WT.ren_ (r' := _) rfl (by repeat (first | exact RenRL.nil | apply RenRL.cons | exact RenR.d _ | exact RenR.of_d (by first | exact rfl | exact eqI (by omega) | exact eqI (by simp <;> fail) | exact eqI (by simp; omega)) | apply RenR.agg | apply RenR.tup | exact RenR.own _ _ _ _ rfl | exact RenR.of_own (by first | rfl | (omega) | (simp <;> fail) | (simp; omega)) rfl | exact RenR.ptr _ _ _ _ _ _ rfl | exact RenR.ref _ | apply RenR.fn | exact RenR.dead)) ?_)) (by repeat (first | exact WH.nil _ | refine WH.data_ (by first | exact rfl | exact eqI (by omega) | exact eqI (by simp <;> fail) | exact eqI (by simp; omega) | exact eqOwn (by simp <;> fail) | exact eqOwn (by simp; omega) | (simp_all <;> fail)) ?_ | refine WH.cons (by first | exact rfl | exact eqI (by omega) | exact eqI (by simp <;> fail) | exact eqI (by simp; omega) | exact eqOwn (by simp <;> fail) | exact eqOwn (by simp; omega) | (simp_all <;> fail)) (by first | exact RenS.no | exact RenS.dead | exact RenS.data _ _ _ | (apply RenS.box; repeat (first | exact RenRL.nil | apply RenRL.cons | exact RenR.d _ | exact RenR.of_d (by first | exact rfl | exact eqI (by omega) | exact eqI (by simp <;> fail) | exact eqI (by simp; omega)) | apply RenR.agg | apply RenR.tup | exact RenR.own _ _ _ _ rfl | exact RenR.of_own (by first | rfl | (omega) | (simp <;> fail) | (simp; omega)) rfl | exact RenR.ptr _ _ _ _ _ _ rfl | exact RenR.ref _ | apply RenR.fn | exact RenR.dead)) | exact RenS.gen _) ?_)) rfl)
    · rintro ⟨⟨k, L⟩, h4, h5, h6, h7⟩
      dsimp only at h4 h5 h6 h7
      rcases Nat.lt_or_ge k xs.length with hlt | hge
      · skip
        obtain ⟨s, hs⟩ : ∃ s, xs[k]? = some s := ⟨_, List.getElem?_eq_getElem hlt⟩
        refine aw_seq ?_
        refine aw_seq ?_
        refine aw_region (is := [0, 1, 2, 3]) rfl ?_
        refine rt_p rfl (want_none rfl) rfl (pu_move (r := .d _) rfl) ?_
        refine rt_p rfl (want_none rfl) rfl (pu_move (r := .d _) rfl) ?_
        refine rt_p rfl (want_none rfl) rfl (pu_len_map tok rfl rfl rfl) ?_
        refine rt_p rfl (want_none rfl) rfl (pu_lss rfl rfl) ?_
        refine rt_nil ?_
        refine then_n ?_
        refine aw_condP _ rfl (fun hc => ?_) (fun hc => ?_)
        · skip
          refine aw_skip ?_
          refine then_n ?_
          refine aw_seq ?_
          refine aw_block ?_
          refine aw_seq ?_
          refine aw_region (is := [0, 1, 2, 3, 4, 5, 6]) rfl ?_
          refine rt_p rfl (want_none rfl) rfl (pu_move (r := .d _) rfl) ?_
          refine rt_p rfl (want_none rfl) rfl (pu_move (r := .d _) rfl) ?_
          refine rt_p rfl (want_none rfl) rfl (pu_index_sl tok rfl rfl (by first | rfl | omega) rfl rfl rfl (by first | rfl | exact map_at (by assumption) | assumption) rfl) ?_
          refine rt_p rfl (want_none rfl) rfl (pu_load_refN tok rfl rfl rfl (by repeat (first | exact SegD.z _ | apply SegD.t))) ?_
          refine rt_p rfl (want_none rfl) rfl (pu_move (r := .d _) rfl) ?_
          refine rt_s rfl (want_none rfl) rfl (st_call 3 rfl rfl rfl (szShape_c s.K s.AX s.AY s.BX s.BY s.R s.N L h5 (by omega) (hn s (List.mem_of_getElem? hs))) (by repeat (first | exact abv_nil _ | exact abv_lks rfl | refine abv_upd ?_ rfl)) (by repeat (first | exact RenRL.nil | apply RenRL.cons | exact RenR.d _ | apply RenR.agg | apply RenR.tup | exact RenR.own _ _ _ _ rfl | exact RenR.ptr _ _ _ _ _ _ rfl | exact RenR.ref _ | apply RenR.fn | exact RenR.dead)) (by repeat (first | exact BirR.nil _ _ | (apply BirR.cons; (first | exact RenS.no | exact RenS.dead | exact RenS.data _ _ _ | (apply RenS.box; repeat (first | exact RenRL.nil | apply RenRL.cons | exact RenR.d _ | apply RenR.agg | apply RenR.tup | exact RenR.own _ _ _ _ rfl | exact RenR.ptr _ _ _ _ _ _ rfl | exact RenR.ref _ | apply RenR.fn | exact RenR.dead)) | exact RenS.gen _))))) ?_
          refine rt_p rfl (want_none rfl) rfl (pu_assign (r := .d _) rfl) ?_
          refine rt_nil ?_
          refine then_n ?_
          refine aw_seq ?_
          refine aw_region (is := [0, 1]) rfl ?_
          refine rt_p rfl (want_none rfl) rfl (pu_move (r := .d _) rfl) ?_
          refine rt_p rfl (want_none rfl) rfl (pu_lss rfl rfl) ?_
          refine rt_nil ?_
          refine then_n ?_
          refine aw_condP _ rfl (fun hc => ?_) (fun hc => ?_)
          · skip
            refine aw_seq ?_
            refine aw_region (is := [0]) rfl ?_
            refine rt_p rfl (want_none rfl) rfl (pu_assign (r := .d _) rfl) ?_
            refine rt_nil ?_
            refine then_n ?_
            refine aw_ret ?_
            refine block_r ?_
            refine then_r ?_
            refine then_r ?_
            refine block_r ?_
            refine then_r ?_
            refine ret0 (rs := [.tmp 4]) 200 rfl (by repeat (first | exact ResR.nil | apply ResR.tmp (a := .d _) rfl | apply ResR.tmp (a := .ptr _ _ _ _ _) rfl | apply ResR.tmp (a := .own _ _ _) rfl | apply ResR.tmp (a := .agg _) rfl | apply ResR.tmp (a := .ref _) rfl | apply ResR.tmp (a := .tup _) rfl | apply ResR.tmp (a := .fn _ _) rfl | apply ResR.tmp (a := .dead) rfl | apply ResR.cell1 rfl rfl rfl rfl (by first | rfl | (simp [Cells.len] <;> omega)) (by first | rfl | exact data_get (map_at (by assumption)) | exact data_get (by assumption) | exact data_get (List.getElem?_set_self (by simp; omega)) | exact data_get (List.getElem?_set_self (by simpa using hlt))) rfl | apply ResR.cellN rfl rfl rfl rfl (by first | rfl | (simp [Cells.len] <;> omega)) (by first | rfl | exact data_get (map_at (by assumption)) | exact data_get (by assumption) | exact data_get (List.getElem?_set_self (by simp; omega)) | exact data_get (List.getElem?_set_self (by simpa using hlt))) (by repeat (first | exact Seg.z _ | apply Seg.t | apply Seg.d)))) (by repeat (first | exact abv_nil _ | exact abv_lks rfl | refine abv_upd ?_ rfl)) rfl ?_
            first
              | exact reti (by unfold szS; rw [if_pos (by omega)])
              | exact reti (by rw [← h7]; rw [szGo_drop hs, if_pos (by split at hc <;> omega)])
              | exact reti ((szGo_end hge L).symm.trans h7)
          · skip
            refine aw_skip ?_
            refine block_n ?_
            refine then_n ?_
            refine aw_region (is := [0, 1, 2]) rfl ?_
            refine rt_p rfl (want_none rfl) rfl (pu_move (r := .d _) rfl) ?_
            refine rt_p rfl (want_none rfl) rfl (pu_add rfl rfl (by omega) (by omega)) ?_
            refine rt_p rfl (want_none rfl) rfl (pu_assign (r := .d _) rfl) ?_
            refine rt_nil ?_
            refine then_n ?_
            refine ⟨⟨(k + 1, L - s.N.size), by simp; omega, by first | (simp; omega) | (simp at hc; omega), by simp; omega, by simp only; rw [← h7]; rw [szGo_drop hs, if_neg (by first | omega | (simp at hc; omega))]⟩, (by simp; omega), ?_⟩
            (refine weak_of 200 (by repeat (first | exact abv_nil _ | exact abv_lks rfl | refine abv_upd ?_ rfl)) rfl (by repeat (first | exact WT.nil | refine WT.free_ rfl (by first | exact rfl | (exact eqI (by simp only; rw [if_neg (by split at hc <;> omega)])) | exact eqI (by omega) | exact eqI (by simp <;> fail) | exact eqI (by simp; omega) | exact eqOwn (by simp <;> fail) | exact eqOwn (by simp; omega) | (simp_all <;> fail)) ?_ | refine WT.ren_ (r' := _) rfl (by repeat (first | exact RenRL.nil | apply RenRL.cons | exact RenR.d _ | exact RenR.of_d (by first | (exact eqI (by simp only; rw [if_neg (by split at hc <;> omega)])) | exact eqI (by omega) | exact eqI (by simp <;> fail) | exact eqI (by simp; omega)) | apply RenR.agg | apply RenR.tup | exact RenR.own _ _ _ _ rfl | exact RenR.of_own (by first | rfl | (omega) | (simp <;> fail) | (simp; omega)) rfl | exact RenR.ptr _ _ _ _ _ _ rfl | exact RenR.ref _ | apply RenR.fn | exact RenR.dead)) ?_)) (by repeat (first | exact WH.nil _ | refine WH.data_ (by first | exact rfl | (exact eqI (by simp only; rw [if_neg (by split at hc <;> omega)])) | exact eqI (by omega) | exact eqI (by simp <;> fail) | exact eqI (by simp; omega) | exact eqOwn (by simp <;> fail) | exact eqOwn (by simp; omega) | (simp_all <;> fail)) ?_ | refine WH.cons (by first | exact rfl | (exact eqI (by simp only; rw [if_neg (by split at hc <;> omega)])) | exact eqI (by omega) | exact eqI (by simp <;> fail) | exact eqI (by simp; omega) | exact eqOwn (by simp <;> fail) | exact eqOwn (by simp; omega) | (simp_all <;> fail)) (by first | exact RenS.no | exact RenS.dead | exact RenS.data _ _ _ | (apply RenS.box; repeat (first | exact RenRL.nil | apply RenRL.cons | exact RenR.d _ | exact RenR.of_d (by first | (exact eqI (by simp only; rw [if_neg (by split at hc <;> omega)])) | exact eqI (by omega) | exact eqI (by simp <;> fail) | exact eqI (by simp; omega)) | apply RenR.agg | apply RenR.tup | exact RenR.own _ _ _ _ rfl | exact RenR.of_own (by first | rfl | (omega) | (simp <;> fail) | (simp; omega)) rfl | exact RenR.ptr _ _ _ _ _ _ rfl | exact RenR.ref _ | apply RenR.fn | exact RenR.dead)) | exact RenS.gen _) ?_)) rfl)
        · exfalso; simp at hc; omega
      · skip
        refine aw_seq ?_
        refine aw_seq ?_
        refine aw_region (is := [0, 1, 2, 3]) rfl ?_
        refine rt_p rfl (want_none rfl) rfl (pu_move (r := .d _) rfl) ?_
        refine rt_p rfl (want_none rfl) rfl (pu_move (r := .d _) rfl) ?_
        refine rt_p rfl (want_none rfl) rfl (pu_len_map tok rfl rfl rfl) ?_
        refine rt_p rfl (want_none rfl) rfl (pu_lss rfl rfl) ?_
        refine rt_nil ?_
        refine then_n ?_
        refine aw_condP _ rfl (fun hc => ?_) (fun hc => ?_)
        · exfalso; simp at hc; omega
        · skip
          refine aw_exit ?_
          refine then_e ?_
          refine then_e ?_
          refine block_hit ?_
          refine then_n ?_
          refine aw_seq ?_
          refine aw_region (is := [0, 1]) rfl ?_
          refine rt_p rfl (want_none rfl) rfl (pu_move (r := .d _) rfl) ?_
          refine rt_p rfl (want_none rfl) rfl (pu_assign (r := .d _) rfl) ?_
          refine rt_nil ?_
          refine then_n ?_
          refine aw_ret ?_
          refine ret0 (rs := [.tmp 4]) 200 rfl (by repeat (first | exact ResR.nil | apply ResR.tmp (a := .d _) rfl | apply ResR.tmp (a := .ptr _ _ _ _ _) rfl | apply ResR.tmp (a := .own _ _ _) rfl | apply ResR.tmp (a := .agg _) rfl | apply ResR.tmp (a := .ref _) rfl | apply ResR.tmp (a := .tup _) rfl | apply ResR.tmp (a := .fn _ _) rfl | apply ResR.tmp (a := .dead) rfl | apply ResR.cell1 rfl rfl rfl rfl (by first | rfl | (simp [Cells.len] <;> omega)) (by first | rfl | exact data_get (map_at (by assumption)) | exact data_get (by assumption) | exact data_get (List.getElem?_set_self (by simp; omega)) | exact data_get (List.getElem?_set_self (by simpa using hlt))) rfl | apply ResR.cellN rfl rfl rfl rfl (by first | rfl | (simp [Cells.len] <;> omega)) (by first | rfl | exact data_get (map_at (by assumption)) | exact data_get (by assumption) | exact data_get (List.getElem?_set_self (by simp; omega)) | exact data_get (List.getElem?_set_self (by simpa using hlt))) (by repeat (first | exact Seg.z _ | apply Seg.t | apply Seg.d)))) (by repeat (first | exact abv_nil _ | exact abv_lks rfl | refine abv_upd ?_ rfl)) rfl ?_
          first
            | exact reti (by unfold szS; rw [if_pos (by omega)])
            | exact reti (by rw [← h7]; rw [szGo_drop hs, if_pos (by split at hc <;> omega)])
            | exact reti ((szGo_end hge L).symm.trans h7)
theorem szDrawing_c (xs : List Shp) (left : Int) (h0 : 0 ≤ left) (h1 : left ≤ 1048576) (hm : xs.length ≤ 9223372036854775807) (hn : ∀ s ∈ xs, s.N.size ≤ 9223372036854775807) : FnC Try.prog 14 [] [.agg [.d (.sl (shpsD xs))], .d (.v (.int .i64 left))] [] (.d (.v (.int .i64 (szS left xs)))) := by
  refine fnc_intro (T := tt) (N := 12) tok Try.func14 rfl rfl (by kernel_rfl) rfl rfl ?_
  refine aw_seq ?_
  refine aw_region (is := [0, 1]) rfl ?_
  refine rt_s rfl (want_none rfl) rfl (st_box 3 (cs := _ :: _) rfl rfl rfl) ?_
  refine rt_p rfl (want_none rfl) rfl (pu_assign (r := .d _) rfl) ?_
  refine rt_nil ?_
  refine then_n ?_
  refine aw_seq ?_
  refine aw_region (is := [0, 1, 2, 3, 4]) rfl ?_
  refine rt_l rfl (want_none rfl) rfl (li_fieldAddr tok rfl rfl rfl rfl rfl rfl rfl (by first | rfl | (simp [Cells.len] <;> omega)) (by first | rfl | exact data_get (map_at (by assumption)) | exact data_get (by assumption) | exact data_get (List.getElem?_set_self (by simp; omega)) | exact data_get (List.getElem?_set_self (by simpa using hlt)))) ?_
  refine rt_l rfl (want_none rfl) rfl (li_load1 tok rfl rfl rfl rfl (by first | rfl | (simp [Cells.len] <;> omega)) (by first | rfl | exact data_get (map_at (by assumption)) | exact data_get (by assumption) | exact data_get (List.getElem?_set_self (by simp; omega)) | exact data_get (List.getElem?_set_self (by simpa using hlt))) rfl) ?_
  refine rt_p rfl (want_none rfl) rfl (pu_move (r := .d _) rfl) ?_
  refine rt_s rfl (want_none rfl) rfl (st_call 4 rfl rfl rfl (szShapeS_c xs left h0 h1 hm hn) (by repeat (first | exact abv_nil _ | exact abv_lks rfl | refine abv_upd ?_ rfl)) (by repeat (first | exact RenRL.nil | apply RenRL.cons | exact RenR.d _ | apply RenR.agg | apply RenR.tup | exact RenR.own _ _ _ _ rfl | exact RenR.ptr _ _ _ _ _ _ rfl | exact RenR.ref _ | apply RenR.fn | exact RenR.dead)) (by repeat (first | exact BirR.nil _ _ | (apply BirR.cons; (first | exact RenS.no | exact RenS.dead | exact RenS.data _ _ _ | (apply RenS.box; repeat (first | exact RenRL.nil | apply RenRL.cons | exact RenR.d _ | apply RenR.agg | apply RenR.tup | exact RenR.own _ _ _ _ rfl | exact RenR.ptr _ _ _ _ _ _ rfl | exact RenR.ref _ | apply RenR.fn | exact RenR.dead)) | exact RenS.gen _))))) ?_
  refine rt_p rfl (want_none rfl) rfl (pu_assign (r := .d _) rfl) ?_
  refine rt_nil ?_
  refine then_n ?_
  refine aw_seq ?_
  refine aw_seq ?_
  refine aw_region (is := [0, 1]) rfl ?_
  refine rt_p rfl (want_none rfl) rfl (pu_move (r := .d _) rfl) ?_
  refine rt_p rfl (want_none rfl) rfl (pu_lss rfl rfl) ?_
  refine rt_nil ?_
  refine then_n ?_
  refine aw_condP _ rfl (fun hc => ?_) (fun hc => ?_)
  · skip
    refine aw_seq ?_
    refine aw_region (is := [0]) rfl ?_
    refine rt_p rfl (want_none rfl) rfl (pu_assign (r := .d _) rfl) ?_
    refine rt_nil ?_
    refine then_n ?_
    refine aw_ret ?_
    refine then_r ?_
    refine ret0 (rs := [.tmp 4]) 200 rfl (by repeat (first | exact ResR.nil | apply ResR.tmp (a := .d _) rfl | apply ResR.tmp (a := .ptr _ _ _ _ _) rfl | apply ResR.tmp (a := .own _ _ _) rfl | apply ResR.tmp (a := .agg _) rfl | apply ResR.tmp (a := .ref _) rfl | apply ResR.tmp (a := .tup _) rfl | apply ResR.tmp (a := .fn _ _) rfl | apply ResR.tmp (a := .dead) rfl | apply ResR.cell1 rfl rfl rfl rfl (by first | rfl | (simp [Cells.len] <;> omega)) (by first | rfl | exact data_get (map_at (by assumption)) | exact data_get (by assumption) | exact data_get (List.getElem?_set_self (by simp; omega)) | exact data_get (List.getElem?_set_self (by simpa using hlt))) rfl | apply ResR.cellN rfl rfl rfl rfl (by first | rfl | (simp [Cells.len] <;> omega)) (by first | rfl | exact data_get (map_at (by assumption)) | exact data_get (by assumption) | exact data_get (List.getElem?_set_self (by simp; omega)) | exact data_get (List.getElem?_set_self (by simpa using hlt))) (by repeat (first | exact Seg.z _ | apply Seg.t | apply Seg.d)))) (by repeat (first | exact abv_nil _ | exact abv_lks rfl | refine abv_upd ?_ rfl)) rfl ?_
    first
      | exact reti (szS_neg (by omega)).symm
      | rfl
  · skip
    refine aw_skip ?_
    refine then_n ?_
    refine aw_seq ?_
    refine aw_region (is := [0, 1]) rfl ?_
    refine rt_p rfl (want_none rfl) rfl (pu_move (r := .d _) rfl) ?_
    refine rt_p rfl (want_none rfl) rfl (pu_assign (r := .d _) rfl) ?_
    refine rt_nil ?_
    refine then_n ?_
    refine aw_ret ?_
    refine ret0 (rs := [.tmp 4]) 200 rfl (by repeat (first | exact ResR.nil | apply ResR.tmp (a := .d _) rfl | apply ResR.tmp (a := .ptr _ _ _ _ _) rfl | apply ResR.tmp (a := .own _ _ _) rfl | apply ResR.tmp (a := .agg _) rfl | apply ResR.tmp (a := .ref _) rfl | apply ResR.tmp (a := .tup _) rfl | apply ResR.tmp (a := .fn _ _) rfl | apply ResR.tmp (a := .dead) rfl | apply ResR.cell1 rfl rfl rfl rfl (by first | rfl | (simp [Cells.len] <;> omega)) (by first | rfl | exact data_get (map_at (by assumption)) | exact data_get (by assumption) | exact data_get (List.getElem?_set_self (by simp; omega)) | exact data_get (List.getElem?_set_self (by simpa using hlt))) rfl | apply ResR.cellN rfl rfl rfl rfl (by first | rfl | (simp [Cells.len] <;> omega)) (by first | rfl | exact data_get (map_at (by assumption)) | exact data_get (by assumption) | exact data_get (List.getElem?_set_self (by simp; omega)) | exact data_get (List.getElem?_set_self (by simpa using hlt))) (by repeat (first | exact Seg.z _ | apply Seg.t | apply Seg.d)))) (by repeat (first | exact abv_nil _ | exact abv_lks rfl | refine abv_upd ?_ rfl)) rfl ?_
    first
      | exact reti (szS_neg (by omega)).symm
      | rfl
theorem toSpot_a (x y : Int) : FnC Try.prog 36 [] [.agg [.d (.v (.int .i64 x)), .d (.v (.int .i64 y))]] [] (.agg [.d (.v (.int .i64 x)), .d (.v (.int .i64 y))]) := by
  refine fnc_intro (T := tt) (N := 11) tok Try.func36 rfl rfl (by kernel_rfl) rfl rfl ?_
  refine aw_seq ?_
  refine aw_region (is := [0, 1]) rfl ?_
  refine rt_s rfl (want_none rfl) rfl (st_box 3 (cs := _ :: _) rfl rfl rfl) ?_
  refine rt_s rfl (want_none rfl) rfl (st_alloc 4 (cs := [.d (.v (.int .i64 0)), .d (.v (.int .i64 0))]) tok rfl rfl rfl) ?_
  refine rt_nil ?_
  refine then_n ?_
  refine aw_seq ?_
  refine aw_region (is := [0]) rfl ?_
  refine rt_s rfl (want_none rfl) rfl (st_alloc 5 (cs := [.d (.v (.int .i64 0)), .d (.v (.int .i64 0))]) tok rfl rfl rfl) ?_
  refine rt_nil ?_
  refine then_n ?_
  refine aw_seq ?_
  refine aw_region (is := [0, 1, 2, 3]) rfl ?_
  refine rt_l rfl (want_none rfl) rfl (li_fieldAddr tok rfl rfl rfl rfl rfl rfl rfl (by first | rfl | (simp [Cells.len] <;> omega)) (by first | rfl | exact data_get (map_at (by assumption)) | exact data_get (by assumption) | exact data_get (List.getElem?_set_self (by simp; omega)) | exact data_get (List.getElem?_set_self (by simpa using hlt)))) ?_
  refine rt_l rfl (want_none rfl) rfl (li_load1 tok rfl rfl rfl rfl (by first | rfl | (simp [Cells.len] <;> omega)) (by first | rfl | exact data_get (map_at (by assumption)) | exact data_get (by assumption) | exact data_get (List.getElem?_set_self (by simp; omega)) | exact data_get (List.getElem?_set_self (by simpa using hlt))) rfl) ?_
  refine rt_l rfl (want_none rfl) rfl (li_fieldAddr tok rfl rfl rfl rfl rfl rfl rfl (by first | rfl | (simp [Cells.len] <;> omega)) (by first | rfl | exact data_get (map_at (by assumption)) | exact data_get (by assumption) | exact data_get (List.getElem?_set_self (by simp; omega)) | exact data_get (List.getElem?_set_self (by simpa using hlt)))) ?_
  refine rt_w0 rfl (want_none rfl) (wr_store (cs := [.d _]) tok rfl rfl rfl rfl rfl rfl rfl rfl (by first | rfl | (simp [Cells.len] <;> omega)) (by first | rfl | exact data_get (map_at (by assumption)) | exact data_get (by assumption) | exact data_get (List.getElem?_set_self (by simp; omega)) | exact data_get (List.getElem?_set_self (by simpa using hlt))) (by repeat (first | exact Spl.z _ | apply Spl.t | apply Spl.d)) (by first | exact SetC.box _ _ | exact SetC.data _ _ (by repeat (first | exact AllD.nil | apply AllD.cons)) | exact SetC.av _ _ _) (by first | exact SetO.one _ _ | exact SetO.gen _ _ _)) ?_
  refine rt_nil ?_
  refine then_n ?_
  refine aw_seq ?_
  refine aw_region (is := [0, 1, 2, 3]) rfl ?_
  refine rt_l rfl (want_none rfl) rfl (li_fieldAddr tok rfl rfl rfl rfl rfl rfl rfl (by first | rfl | (simp [Cells.len] <;> omega)) (by first | rfl | exact data_get (map_at (by assumption)) | exact data_get (by assumption) | exact data_get (List.getElem?_set_self (by simp; omega)) | exact data_get (List.getElem?_set_self (by simpa using hlt)))) ?_
  refine rt_l rfl (want_none rfl) rfl (li_load1 tok rfl rfl rfl rfl (by first | rfl | (simp [Cells.len] <;> omega)) (by first | rfl | exact data_get (map_at (by assumption)) | exact data_get (by assumption) | exact data_get (List.getElem?_set_self (by simp; omega)) | exact data_get (List.getElem?_set_self (by simpa using hlt))) rfl) ?_
  refine rt_l rfl (want_none rfl) rfl (li_fieldAddr tok rfl rfl rfl rfl rfl rfl rfl (by first | rfl | (simp [Cells.len] <;> omega)) (by first | rfl | exact data_get (map_at (by assumption)) | exact data_get (by assumption) | exact data_get (List.getElem?_set_self (by simp; omega)) | exact data_get (List.getElem?_set_self (by simpa using hlt)))) ?_
  refine rt_w0 rfl (want_none rfl) (wr_store (cs := [.d _]) tok rfl rfl rfl rfl rfl rfl rfl rfl (by first | rfl | (simp [Cells.len] <;> omega)) (by first | rfl | exact data_get (map_at (by assumption)) | exact data_get (by assumption) | exact data_get (List.getElem?_set_self (by simp; omega)) | exact data_get (List.getElem?_set_self (by simpa using hlt))) (by repeat (first | exact Spl.z _ | apply Spl.t | apply Spl.d)) (by first | exact SetC.box _ _ | exact SetC.data _ _ (by repeat (first | exact AllD.nil | apply AllD.cons)) | exact SetC.av _ _ _) (by first | exact SetO.one _ _ | exact SetO.gen _ _ _)) ?_
  refine rt_nil ?_
  refine then_n ?_
  refine aw_seq ?_
  refine aw_region (is := [0, 1]) rfl ?_
  refine rt_l rfl (want_none rfl) rfl (li_loadN tok rfl rfl rfl rfl (by first | rfl | (simp [Cells.len] <;> omega)) (by first | rfl | exact data_get (map_at (by assumption)) | exact data_get (by assumption) | exact data_get (List.getElem?_set_self (by simp; omega)) | exact data_get (List.getElem?_set_self (by simpa using hlt))) (by repeat (first | exact Seg.z _ | apply Seg.t | apply Seg.d))) ?_
  refine rt_w0 rfl (want_none rfl) (wr_store (cs := _ :: _) tok rfl rfl rfl rfl rfl rfl rfl rfl (by first | rfl | (simp [Cells.len] <;> omega)) (by first | rfl | exact data_get (map_at (by assumption)) | exact data_get (by assumption) | exact data_get (List.getElem?_set_self (by simp; omega)) | exact data_get (List.getElem?_set_self (by simpa using hlt))) (by repeat (first | exact Spl.z _ | apply Spl.t | apply Spl.d)) (by first | exact SetC.box _ _ | exact SetC.data _ _ (by repeat (first | exact AllD.nil | apply AllD.cons)) | exact SetC.av _ _ _) (by first | exact SetO.one _ _ | exact SetO.gen _ _ _)) ?_
  refine rt_nil ?_
  refine then_n ?_
  refine aw_ret ?_
  refine ret0 (rs := [.cell 2 39]) 200 rfl (by repeat (first | exact ResR.nil | apply ResR.tmp (a := .d _) rfl | apply ResR.tmp (a := .ptr _ _ _ _ _) rfl | apply ResR.tmp (a := .own _ _ _) rfl | apply ResR.tmp (a := .agg _) rfl | apply ResR.tmp (a := .ref _) rfl | apply ResR.tmp (a := .tup _) rfl | apply ResR.tmp (a := .fn _ _) rfl | apply ResR.tmp (a := .dead) rfl | apply ResR.cell1 rfl rfl rfl rfl (by first | rfl | (simp [Cells.len] <;> omega)) (by first | rfl | exact data_get (map_at (by assumption)) | exact data_get (by assumption) | exact data_get (List.getElem?_set_self (by simp; omega)) | exact data_get (List.getElem?_set_self (by simpa using hlt))) rfl | apply ResR.cellN rfl rfl rfl rfl (by first | rfl | (simp [Cells.len] <;> omega)) (by first | rfl | exact data_get (map_at (by assumption)) | exact data_get (by assumption) | exact data_get (List.getElem?_set_self (by simp; omega)) | exact data_get (List.getElem?_set_self (by simpa using hlt))) (by repeat (first | exact Seg.z _ | apply Seg.t | apply Seg.d)))) (by repeat (first | exact abv_nil _ | exact abv_lks rfl | refine abv_upd ?_ rfl)) rfl ?_
  rfl
theorem toShape_a (K AX AY BX BY R : Int) (Nm : ByteArray) : FnC Try.prog 96 [] [.agg [.d (.v (.int .i64 K)), .d (.v (.int .i64 AX)), .d (.v (.int .i64 AY)), .d (.v (.int .i64 BX)), .d (.v (.int .i64 BY)), .d (.v (.int .i64 R)), .d (.v (.string Nm))]] [] (.agg [.d (.v (.int .i64 K)), .d (.v (.int .i64 AX)), .d (.v (.int .i64 AY)), .d (.v (.int .i64 BX)), .d (.v (.int .i64 BY)), .d (.v (.int .i64 R)), .d (.v (.string Nm))]) := by
  refine fnc_intro (T := tt) (N := 22) tok Try.func96 rfl rfl (by kernel_rfl) rfl rfl ?_
  refine aw_seq ?_
  refine aw_region (is := [0, 1]) rfl ?_
  refine rt_s rfl (want_none rfl) rfl (st_box 3 (cs := _ :: _) rfl rfl rfl) ?_
  refine rt_s rfl (want_none rfl) rfl (st_alloc 4 (cs := [.d (.v (.int .i64 0)), .d (.v (.int .i64 0)), .d (.v (.int .i64 0)), .d (.v (.int .i64 0)), .d (.v (.int .i64 0)), .d (.v (.int .i64 0)), .d (.v (.string ⟨#[]⟩))]) tok rfl rfl rfl) ?_
  refine rt_nil ?_
  refine then_n ?_
  refine aw_seq ?_
  refine aw_region (is := [0]) rfl ?_
  refine rt_s rfl (want_none rfl) rfl (st_alloc 5 (cs := [.d (.v (.int .i64 0)), .d (.v (.int .i64 0)), .d (.v (.int .i64 0)), .d (.v (.int .i64 0)), .d (.v (.int .i64 0)), .d (.v (.int .i64 0)), .d (.v (.string ⟨#[]⟩))]) tok rfl rfl rfl) ?_
  refine rt_nil ?_
  refine then_n ?_
  refine aw_seq ?_
  refine aw_region (is := [0, 1, 2, 3]) rfl ?_
  refine rt_l rfl (want_none rfl) rfl (li_fieldAddr tok rfl rfl rfl rfl rfl rfl rfl (by first | rfl | (simp [Cells.len] <;> omega)) (by first | rfl | exact data_get (map_at (by assumption)) | exact data_get (by assumption) | exact data_get (List.getElem?_set_self (by simp; omega)) | exact data_get (List.getElem?_set_self (by simpa using hlt)))) ?_
  refine rt_l rfl (want_none rfl) rfl (li_load1 tok rfl rfl rfl rfl (by first | rfl | (simp [Cells.len] <;> omega)) (by first | rfl | exact data_get (map_at (by assumption)) | exact data_get (by assumption) | exact data_get (List.getElem?_set_self (by simp; omega)) | exact data_get (List.getElem?_set_self (by simpa using hlt))) rfl) ?_
  refine rt_l rfl (want_none rfl) rfl (li_fieldAddr tok rfl rfl rfl rfl rfl rfl rfl (by first | rfl | (simp [Cells.len] <;> omega)) (by first | rfl | exact data_get (map_at (by assumption)) | exact data_get (by assumption) | exact data_get (List.getElem?_set_self (by simp; omega)) | exact data_get (List.getElem?_set_self (by simpa using hlt)))) ?_
  refine rt_w0 rfl (want_none rfl) (wr_store (cs := [.d _]) tok rfl rfl rfl rfl rfl rfl rfl rfl (by first | rfl | (simp [Cells.len] <;> omega)) (by first | rfl | exact data_get (map_at (by assumption)) | exact data_get (by assumption) | exact data_get (List.getElem?_set_self (by simp; omega)) | exact data_get (List.getElem?_set_self (by simpa using hlt))) (by repeat (first | exact Spl.z _ | apply Spl.t | apply Spl.d)) (by first | exact SetC.box _ _ | exact SetC.data _ _ (by repeat (first | exact AllD.nil | apply AllD.cons)) | exact SetC.av _ _ _) (by first | exact SetO.one _ _ | exact SetO.gen _ _ _)) ?_
  refine rt_nil ?_
  refine then_n ?_
  refine aw_seq ?_
  refine aw_region (is := [0, 1, 2, 3, 4]) rfl ?_
  refine rt_l rfl (want_none rfl) rfl (li_fieldAddr tok rfl rfl rfl rfl rfl rfl rfl (by first | rfl | (simp [Cells.len] <;> omega)) (by first | rfl | exact data_get (map_at (by assumption)) | exact data_get (by assumption) | exact data_get (List.getElem?_set_self (by simp; omega)) | exact data_get (List.getElem?_set_self (by simpa using hlt)))) ?_
  refine rt_l rfl (want_none rfl) rfl (li_loadN tok rfl rfl rfl rfl (by first | rfl | (simp [Cells.len] <;> omega)) (by first | rfl | exact data_get (map_at (by assumption)) | exact data_get (by assumption) | exact data_get (List.getElem?_set_self (by simp; omega)) | exact data_get (List.getElem?_set_self (by simpa using hlt))) (by repeat (first | exact Seg.z _ | apply Seg.t | apply Seg.d))) ?_
  refine rt_s rfl (want_none rfl) rfl (st_call 6 rfl rfl rfl (toSpot_a _ _) (by repeat (first | exact abv_nil _ | exact abv_lks rfl | refine abv_upd ?_ rfl)) (by repeat (first | exact RenRL.nil | apply RenRL.cons | exact RenR.d _ | apply RenR.agg | apply RenR.tup | exact RenR.own _ _ _ _ rfl | exact RenR.ptr _ _ _ _ _ _ rfl | exact RenR.ref _ | apply RenR.fn | exact RenR.dead)) (by repeat (first | exact BirR.nil _ _ | (apply BirR.cons; (first | exact RenS.no | exact RenS.dead | exact RenS.data _ _ _ | (apply RenS.box; repeat (first | exact RenRL.nil | apply RenRL.cons | exact RenR.d _ | apply RenR.agg | apply RenR.tup | exact RenR.own _ _ _ _ rfl | exact RenR.ptr _ _ _ _ _ _ rfl | exact RenR.ref _ | apply RenR.fn | exact RenR.dead)) | exact RenS.gen _))))) ?_
  refine rt_l rfl (want_none rfl) rfl (li_fieldAddr tok rfl rfl rfl rfl rfl rfl rfl (by first | rfl | (simp [Cells.len] <;> omega)) (by first | rfl | exact data_get (map_at (by assumption)) | exact data_get (by assumption) | exact data_get (List.getElem?_set_self (by simp; omega)) | exact data_get (List.getElem?_set_self (by simpa using hlt)))) ?_
  refine rt_w0 rfl (want_none rfl) (wr_store (cs := _ :: _) tok rfl rfl rfl rfl rfl rfl rfl rfl (by first | rfl | (simp [Cells.len] <;> omega)) (by first | rfl | exact data_get (map_at (by assumption)) | exact data_get (by assumption) | exact data_get (List.getElem?_set_self (by simp; omega)) | exact data_get (List.getElem?_set_self (by simpa using hlt))) (by repeat (first | exact Spl.z _ | apply Spl.t | apply Spl.d)) (by first | exact SetC.box _ _ | exact SetC.data _ _ (by repeat (first | exact AllD.nil | apply AllD.cons)) | exact SetC.av _ _ _) (by first | exact SetO.one _ _ | exact SetO.gen _ _ _)) ?_
  refine rt_nil ?_
  refine then_n ?_
  refine aw_seq ?_
  refine aw_region (is := [0, 1, 2, 3, 4]) rfl ?_
  refine rt_l rfl (want_none rfl) rfl (li_fieldAddr tok rfl rfl rfl rfl rfl rfl rfl (by first | rfl | (simp [Cells.len] <;> omega)) (by first | rfl | exact data_get (map_at (by assumption)) | exact data_get (by assumption) | exact data_get (List.getElem?_set_self (by simp; omega)) | exact data_get (List.getElem?_set_self (by simpa using hlt)))) ?_
  refine rt_l rfl (want_none rfl) rfl (li_loadN tok rfl rfl rfl rfl (by first | rfl | (simp [Cells.len] <;> omega)) (by first | rfl | exact data_get (map_at (by assumption)) | exact data_get (by assumption) | exact data_get (List.getElem?_set_self (by simp; omega)) | exact data_get (List.getElem?_set_self (by simpa using hlt))) (by repeat (first | exact Seg.z _ | apply Seg.t | apply Seg.d))) ?_
  refine rt_s rfl (want_none rfl) rfl (st_call 10 rfl rfl rfl (toSpot_a _ _) (by repeat (first | exact abv_nil _ | exact abv_lks rfl | refine abv_upd ?_ rfl)) (by repeat (first | exact RenRL.nil | apply RenRL.cons | exact RenR.d _ | apply RenR.agg | apply RenR.tup | exact RenR.own _ _ _ _ rfl | exact RenR.ptr _ _ _ _ _ _ rfl | exact RenR.ref _ | apply RenR.fn | exact RenR.dead)) (by repeat (first | exact BirR.nil _ _ | (apply BirR.cons; (first | exact RenS.no | exact RenS.dead | exact RenS.data _ _ _ | (apply RenS.box; repeat (first | exact RenRL.nil | apply RenRL.cons | exact RenR.d _ | apply RenR.agg | apply RenR.tup | exact RenR.own _ _ _ _ rfl | exact RenR.ptr _ _ _ _ _ _ rfl | exact RenR.ref _ | apply RenR.fn | exact RenR.dead)) | exact RenS.gen _))))) ?_
  refine rt_l rfl (want_none rfl) rfl (li_fieldAddr tok rfl rfl rfl rfl rfl rfl rfl (by first | rfl | (simp [Cells.len] <;> omega)) (by first | rfl | exact data_get (map_at (by assumption)) | exact data_get (by assumption) | exact data_get (List.getElem?_set_self (by simp; omega)) | exact data_get (List.getElem?_set_self (by simpa using hlt)))) ?_
  refine rt_w0 rfl (want_none rfl) (wr_store (cs := _ :: _) tok rfl rfl rfl rfl rfl rfl rfl rfl (by first | rfl | (simp [Cells.len] <;> omega)) (by first | rfl | exact data_get (map_at (by assumption)) | exact data_get (by assumption) | exact data_get (List.getElem?_set_self (by simp; omega)) | exact data_get (List.getElem?_set_self (by simpa using hlt))) (by repeat (first | exact Spl.z _ | apply Spl.t | apply Spl.d)) (by first | exact SetC.box _ _ | exact SetC.data _ _ (by repeat (first | exact AllD.nil | apply AllD.cons)) | exact SetC.av _ _ _) (by first | exact SetO.one _ _ | exact SetO.gen _ _ _)) ?_
  refine rt_nil ?_
  refine then_n ?_
  refine aw_seq ?_
  refine aw_region (is := [0, 1, 2, 3]) rfl ?_
  refine rt_l rfl (want_none rfl) rfl (li_fieldAddr tok rfl rfl rfl rfl rfl rfl rfl (by first | rfl | (simp [Cells.len] <;> omega)) (by first | rfl | exact data_get (map_at (by assumption)) | exact data_get (by assumption) | exact data_get (List.getElem?_set_self (by simp; omega)) | exact data_get (List.getElem?_set_self (by simpa using hlt)))) ?_
  refine rt_l rfl (want_none rfl) rfl (li_load1 tok rfl rfl rfl rfl (by first | rfl | (simp [Cells.len] <;> omega)) (by first | rfl | exact data_get (map_at (by assumption)) | exact data_get (by assumption) | exact data_get (List.getElem?_set_self (by simp; omega)) | exact data_get (List.getElem?_set_self (by simpa using hlt))) rfl) ?_
  refine rt_l rfl (want_none rfl) rfl (li_fieldAddr tok rfl rfl rfl rfl rfl rfl rfl (by first | rfl | (simp [Cells.len] <;> omega)) (by first | rfl | exact data_get (map_at (by assumption)) | exact data_get (by assumption) | exact data_get (List.getElem?_set_self (by simp; omega)) | exact data_get (List.getElem?_set_self (by simpa using hlt)))) ?_
  refine rt_w0 rfl (want_none rfl) (wr_store (cs := [.d _]) tok rfl rfl rfl rfl rfl rfl rfl rfl (by first | rfl | (simp [Cells.len] <;> omega)) (by first | rfl | exact data_get (map_at (by assumption)) | exact data_get (by assumption) | exact data_get (List.getElem?_set_self (by simp; omega)) | exact data_get (List.getElem?_set_self (by simpa using hlt))) (by repeat (first | exact Spl.z _ | apply Spl.t | apply Spl.d)) (by first | exact SetC.box _ _ | exact SetC.data _ _ (by repeat (first | exact AllD.nil | apply AllD.cons)) | exact SetC.av _ _ _) (by first | exact SetO.one _ _ | exact SetO.gen _ _ _)) ?_
  refine rt_nil ?_
  refine then_n ?_
  refine aw_seq ?_
  refine aw_region (is := [0, 1, 2, 3]) rfl ?_
  refine rt_l rfl (want_none rfl) rfl (li_fieldAddr tok rfl rfl rfl rfl rfl rfl rfl (by first | rfl | (simp [Cells.len] <;> omega)) (by first | rfl | exact data_get (map_at (by assumption)) | exact data_get (by assumption) | exact data_get (List.getElem?_set_self (by simp; omega)) | exact data_get (List.getElem?_set_self (by simpa using hlt)))) ?_
  refine rt_l rfl (want_none rfl) rfl (li_load1 tok rfl rfl rfl rfl (by first | rfl | (simp [Cells.len] <;> omega)) (by first | rfl | exact data_get (map_at (by assumption)) | exact data_get (by assumption) | exact data_get (List.getElem?_set_self (by simp; omega)) | exact data_get (List.getElem?_set_self (by simpa using hlt))) rfl) ?_
  refine rt_l rfl (want_none rfl) rfl (li_fieldAddr tok rfl rfl rfl rfl rfl rfl rfl (by first | rfl | (simp [Cells.len] <;> omega)) (by first | rfl | exact data_get (map_at (by assumption)) | exact data_get (by assumption) | exact data_get (List.getElem?_set_self (by simp; omega)) | exact data_get (List.getElem?_set_self (by simpa using hlt)))) ?_
  refine rt_w0 rfl (want_none rfl) (wr_store (cs := [.d _]) tok rfl rfl rfl rfl rfl rfl rfl rfl (by first | rfl | (simp [Cells.len] <;> omega)) (by first | rfl | exact data_get (map_at (by assumption)) | exact data_get (by assumption) | exact data_get (List.getElem?_set_self (by simp; omega)) | exact data_get (List.getElem?_set_self (by simpa using hlt))) (by repeat (first | exact Spl.z _ | apply Spl.t | apply Spl.d)) (by first | exact SetC.box _ _ | exact SetC.data _ _ (by repeat (first | exact AllD.nil | apply AllD.cons)) | exact SetC.av _ _ _) (by first | exact SetO.one _ _ | exact SetO.gen _ _ _)) ?_
  refine rt_nil ?_
  refine then_n ?_
  refine aw_seq ?_
  refine aw_region (is := [0, 1]) rfl ?_
  refine rt_l rfl (want_none rfl) rfl (li_loadN tok rfl rfl rfl rfl (by first | rfl | (simp [Cells.len] <;> omega)) (by first | rfl | exact data_get (map_at (by assumption)) | exact data_get (by assumption) | exact data_get (List.getElem?_set_self (by simp; omega)) | exact data_get (List.getElem?_set_self (by simpa using hlt))) (by repeat (first | exact Seg.z _ | apply Seg.t | apply Seg.d))) ?_
  refine rt_w0 rfl (want_none rfl) (wr_store (cs := _ :: _) tok rfl rfl rfl rfl rfl rfl rfl rfl (by first | rfl | (simp [Cells.len] <;> omega)) (by first | rfl | exact data_get (map_at (by assumption)) | exact data_get (by assumption) | exact data_get (List.getElem?_set_self (by simp; omega)) | exact data_get (List.getElem?_set_self (by simpa using hlt))) (by repeat (first | exact Spl.z _ | apply Spl.t | apply Spl.d)) (by first | exact SetC.box _ _ | exact SetC.data _ _ (by repeat (first | exact AllD.nil | apply AllD.cons)) | exact SetC.av _ _ _) (by first | exact SetO.one _ _ | exact SetO.gen _ _ _)) ?_
  refine rt_nil ?_
  refine then_n ?_
  refine aw_ret ?_
  refine ret0 (rs := [.cell 2 80]) 200 rfl (by repeat (first | exact ResR.nil | apply ResR.tmp (a := .d _) rfl | apply ResR.tmp (a := .ptr _ _ _ _ _) rfl | apply ResR.tmp (a := .own _ _ _) rfl | apply ResR.tmp (a := .agg _) rfl | apply ResR.tmp (a := .ref _) rfl | apply ResR.tmp (a := .tup _) rfl | apply ResR.tmp (a := .fn _ _) rfl | apply ResR.tmp (a := .dead) rfl | apply ResR.cell1 rfl rfl rfl rfl (by first | rfl | (simp [Cells.len] <;> omega)) (by first | rfl | exact data_get (map_at (by assumption)) | exact data_get (by assumption) | exact data_get (List.getElem?_set_self (by simp; omega)) | exact data_get (List.getElem?_set_self (by simpa using hlt))) rfl | apply ResR.cellN rfl rfl rfl rfl (by first | rfl | (simp [Cells.len] <;> omega)) (by first | rfl | exact data_get (map_at (by assumption)) | exact data_get (by assumption) | exact data_get (List.getElem?_set_self (by simp; omega)) | exact data_get (List.getElem?_set_self (by simpa using hlt))) (by repeat (first | exact Seg.z _ | apply Seg.t | apply Seg.d)))) (by repeat (first | exact abv_nil _ | exact abv_lks rfl | refine abv_upd ?_ rfl)) rfl ?_
  rfl
def zShp : List DV := [.v (.int .i64 0), .v (.int .i64 0), .v (.int .i64 0), .v (.int .i64 0), .v (.int .i64 0), .v (.int .i64 0), .v (.string ⟨#[]⟩)]
def fillS (xs : List Shp) (k : Nat) : List (List DV) := shpsD (xs.take k) ++ List.replicate (xs.length - k) zShp
theorem fillS_len (xs : List Shp) (k : Nat) (h : k ≤ xs.length) : (fillS xs k).length = xs.length := by simp [fillS]; omega
theorem fillS_get {xs : List Shp} {k : Nat} (h : k < xs.length) : (fillS xs k)[k]? = some zShp := by
  unfold fillS
  have hl : (shpsD (xs.take k)).length = k := by simp; omega
  rw [List.getElem?_append_right (by omega), hl, Nat.sub_self, List.getElem?_replicate, if_pos (by omega)]
theorem fillS_set {xs : List Shp} {k : Nat} {s : Shp} (h : xs[k]? = some s) : (fillS xs k).set k (shpD s) = fillS xs (k + 1) := by
  have hlt : k < xs.length := (List.getElem?_eq_some_iff.1 h).1
  have he : xs[k] = s := (List.getElem?_eq_some_iff.1 h).2
  unfold fillS
  have hl : (shpsD (xs.take k)).length = k := by simp; omega
  rw [List.set_append_right _ _ (by omega), hl, Nat.sub_self, show xs.length - k = (xs.length - (k + 1)) + 1 by omega, List.replicate_succ, List.set_cons_zero]
  rw [List.take_succ_eq_append_getElem hlt, he]
  simp [shpsD]
theorem fillS_0 (xs : List Shp) : fillS xs 0 = List.replicate xs.length zShp := by simp [fillS]
theorem fillS_all (xs : List Shp) : fillS xs xs.length = shpsD xs := by simp [fillS]
theorem toShapeS_a (xs : List Shp) (hm : xs.length ≤ 1048576) : FnC Try.prog 50 [] [.d (.sl (shpsD xs))] [.live [⟨80, 7, .data (shpsD xs)⟩]] (.own 0 0 xs.length) := by
  refine fnc_intro (T := tt) (N := 23) tok Try.func50 rfl rfl (by kernel_rfl) rfl rfl ?_
  refine aw_seq ?_
  refine aw_region (is := [0]) rfl ?_
  refine rt_p rfl (want_none rfl) rfl (pu_assign (r := .d _) rfl) ?_
  refine rt_nil ?_
  refine then_n ?_
  refine aw_seq ?_
  refine aw_region (is := [0, 1, 2, 3]) rfl ?_
  refine rt_p rfl (want_none rfl) rfl (pu_move (r := .d _) rfl) ?_
  refine rt_p rfl (want_none rfl) rfl (pu_len_map tok rfl rfl rfl) ?_
  refine rt_s rfl (want_none rfl) rfl (st_make 3 tok rfl rfl (by first | rfl | omega) (by first | rfl | omega) (by omega) rfl rfl rfl rfl rfl rfl rfl (by first | omega | (simp; omega)) (by omega) rfl) ?_
  refine rt_p rfl (want_none rfl) rfl (pu_assign (r := .own _ _ _) rfl) ?_
  refine rt_nil ?_
  refine then_n ?_
  refine aw_seq ?_
  refine aw_seq ?_
  refine aw_region (is := [0]) rfl ?_
  refine rt_p rfl (want_none rfl) rfl (pu_assign (r := .d _) rfl) ?_
  refine rt_nil ?_
  refine then_n ?_
  refine aw_block ?_
  refine aw_loop (ι := {k : Nat // k ≤ xs.length}) (fun p => ⟨updA (updA (updA (updA ((fun _ => .dead)) 0 (.d (.sl (shpsD xs)))) 3 (.own 3 0 xs.length)) 4 (.d (.v (.int .i64 (p.1))))) 5 (.d (.sl (shpsD xs))), lks [.no, .no, .no, .live [⟨80, 7, .data (fillS xs p.1)⟩]]⟩) (fun p => xs.length - p.1) ⟨0, by omega⟩ ?_ ?_
  · (refine weak_of 200 (by repeat (first | exact abv_nil _ | exact abv_lks rfl | refine abv_upd ?_ rfl)) rfl (by repeat (first | exact WT.nil | refine WT.free_ rfl (by first | exact rfl | (exact eqData (fillS_0 xs).symm) | exact eqI (by omega) | exact eqI (by simp <;> fail) | exact eqI (by simp; omega) | exact eqOwn (by simp <;> fail) | exact eqOwn (by simp; omega) | (simp_all <;> fail)) ?_ | refine WT.ren_ (r' := _) rfl (by repeat (first | exact RenRL.nil | apply RenRL.cons | exact RenR.d _ | exact RenR.of_d (by first | (exact eqData (fillS_0 xs).symm) | exact eqI (by omega) | exact eqI (by simp <;> fail) | exact eqI (by simp; omega)) | apply RenR.agg | apply RenR.tup | exact RenR.own _ _ _ _ rfl | exact RenR.of_own (by first | rfl | (omega) | (simp <;> fail) | (simp; omega)) rfl | exact RenR.ptr _ _ _ _ _ _ rfl | exact RenR.ref _ | apply RenR.fn | exact RenR.dead)) ?_)) (by repeat (first | exact WH.nil _ | refine WH.data_ (by first | exact rfl | (exact eqData (fillS_0 xs).symm) | exact eqI (by omega) | exact eqI (by simp <;> fail) | exact eqI (by simp; omega) | exact eqOwn (by simp <;> fail) | exact eqOwn (by simp; omega) | (simp_all <;> fail)) ?_ | refine WH.cons (by first | exact rfl | (exact eqData (fillS_0 xs).symm) | exact eqI (by omega) | exact eqI (by simp <;> fail) | exact eqI (by simp; omega) | exact eqOwn (by simp <;> fail) | exact eqOwn (by simp; omega) | (simp_all <;> fail)) (by first | exact RenS.no | exact RenS.dead | exact RenS.data _ _ _ | (apply RenS.box; repeat (first | exact RenRL.nil | apply RenRL.cons | exact RenR.d _ | exact RenR.of_d (by first | (exact eqData (fillS_0 xs).symm) | exact eqI (by omega) | exact eqI (by simp <;> fail) | exact eqI (by simp; omega)) | apply RenR.agg | apply RenR.tup | exact RenR.own _ _ _ _ rfl | exact RenR.of_own (by first | rfl | (omega) | (simp <;> fail) | (simp; omega)) rfl | exact RenR.ptr _ _ _ _ _ _ rfl | exact RenR.ref _ | apply RenR.fn | exact RenR.dead)) | exact RenS.gen _) ?_)) rfl)
  · rintro ⟨k, hk⟩
    have hfl := fillS_len xs k hk
    rcases Nat.lt_or_ge k xs.length with hlt | hge
    · skip
      obtain ⟨s, hs⟩ : ∃ s, xs[k]? = some s := ⟨_, List.getElem?_eq_getElem hlt⟩
      refine aw_seq ?_
      refine aw_seq ?_
      refine aw_region (is := [0, 1, 2, 3]) rfl ?_
      refine rt_p rfl (want_none rfl) rfl (pu_move (r := .d _) rfl) ?_
      refine rt_p rfl (want_none rfl) rfl (pu_move (r := .d _) rfl) ?_
      refine rt_p rfl (want_none rfl) rfl (pu_len_map tok rfl rfl rfl) ?_
      refine rt_p rfl (want_none rfl) rfl (pu_lss rfl rfl) ?_
      refine rt_nil ?_
      refine then_n ?_
      refine aw_condP _ rfl (fun hc => ?_) (fun hc => ?_)
      · skip
        refine aw_skip ?_
        refine then_n ?_
        refine aw_seq ?_
        refine aw_block ?_
        refine aw_region (is := [0, 1, 2, 3, 4, 5, 6, 7, 8]) rfl ?_
        refine rt_p rfl (want_none rfl) rfl (pu_move (r := .own _ _ _) rfl) ?_
        refine rt_p rfl (want_none rfl) rfl (pu_move (r := .d _) rfl) ?_
        refine rt_p rfl (want_none rfl) rfl (pu_move (r := .d _) rfl) ?_
        refine rt_p rfl (want_none rfl) rfl (pu_move (r := .d _) rfl) ?_
        refine rt_p rfl (want_none rfl) rfl (pu_index_sl tok rfl rfl (by first | rfl | omega) rfl rfl rfl (by first | rfl | exact map_at (by assumption) | assumption) rfl) ?_
        refine rt_p rfl (want_none rfl) rfl (pu_load_refN tok rfl rfl rfl (by repeat (first | exact SegD.z _ | apply SegD.t))) ?_
        refine rt_s rfl (want_none rfl) rfl (st_call 4 rfl rfl rfl (toShape_a s.K s.AX s.AY s.BX s.BY s.R s.N) (by repeat (first | exact abv_nil _ | exact abv_lks rfl | refine abv_upd ?_ rfl)) (by repeat (first | exact RenRL.nil | apply RenRL.cons | exact RenR.d _ | apply RenR.agg | apply RenR.tup | exact RenR.own _ _ _ _ rfl | exact RenR.ptr _ _ _ _ _ _ rfl | exact RenR.ref _ | apply RenR.fn | exact RenR.dead)) (by repeat (first | exact BirR.nil _ _ | (apply BirR.cons; (first | exact RenS.no | exact RenS.dead | exact RenS.data _ _ _ | (apply RenS.box; repeat (first | exact RenRL.nil | apply RenRL.cons | exact RenR.d _ | apply RenR.agg | apply RenR.tup | exact RenR.own _ _ _ _ rfl | exact RenR.ptr _ _ _ _ _ _ rfl | exact RenR.ref _ | apply RenR.fn | exact RenR.dead)) | exact RenS.gen _))))) ?_
        refine rt_l rfl (want_none rfl) rfl (li_index tok rfl rfl (by first | rfl | omega) (by first | omega) rfl rfl rfl rfl (by first | rfl | (simp [Cells.len] <;> omega)) rfl) ?_
        refine rt_w0 rfl (want_none rfl) (wr_store (cs := _ :: _) tok rfl rfl rfl rfl rfl rfl rfl rfl (by first | rfl | (simp [Cells.len] <;> omega)) (by first | rfl | exact data_get (map_at (by assumption)) | exact data_get (by assumption) | exact data_get (List.getElem?_set_self (by simp; omega)) | exact data_get (List.getElem?_set_self (by simpa using hlt)) | (exact data_get (fillS_get hlt))) (by repeat (first | exact Spl.z _ | apply Spl.t | apply Spl.d)) (by first | exact SetC.box _ _ | exact SetC.data _ _ (by repeat (first | exact AllD.nil | apply AllD.cons)) | exact SetC.av _ _ _) (by first | exact SetO.one _ _ | exact SetO.gen _ _ _)) ?_
        refine rt_nil ?_
        refine block_n ?_
        refine then_n ?_
        refine aw_region (is := [0, 1, 2]) rfl ?_
        refine rt_p rfl (want_none rfl) rfl (pu_move (r := .d _) rfl) ?_
        refine rt_p rfl (want_none rfl) rfl (pu_add rfl rfl (by omega) (by omega)) ?_
        refine rt_p rfl (want_none rfl) rfl (pu_assign (r := .d _) rfl) ?_
        refine rt_nil ?_
        refine then_n ?_
        refine ⟨⟨k + 1, by omega⟩, (by simp; omega), ?_⟩
        (refine weak_of 200 (by repeat (first | exact abv_nil _ | exact abv_lks rfl | refine abv_upd ?_ rfl)) rfl (by repeat (first | exact WT.nil | refine WT.free_ rfl (by first | exact rfl | (exact eqData (fillS_set hs)) | exact eqI (by omega) | exact eqI (by simp <;> fail) | exact eqI (by simp; omega) | exact eqOwn (by simp <;> fail) | exact eqOwn (by simp; omega) | (simp_all <;> fail)) ?_ | refine WT.ren_ (r' := _) rfl (by repeat (first | exact RenRL.nil | apply RenRL.cons | exact RenR.d _ | exact RenR.of_d (by first | (exact eqData (fillS_set hs)) | exact eqI (by omega) | exact eqI (by simp <;> fail) | exact eqI (by simp; omega)) | apply RenR.agg | apply RenR.tup | exact RenR.own _ _ _ _ rfl | exact RenR.of_own (by first | rfl | (omega) | (simp <;> fail) | (simp; omega)) rfl | exact RenR.ptr _ _ _ _ _ _ rfl | exact RenR.ref _ | apply RenR.fn | exact RenR.dead)) ?_)) (by repeat (first | exact WH.nil _ | refine WH.data_ (by first | exact rfl | (exact eqData (fillS_set hs)) | exact eqI (by omega) | exact eqI (by simp <;> fail) | exact eqI (by simp; omega) | exact eqOwn (by simp <;> fail) | exact eqOwn (by simp; omega) | (simp_all <;> fail)) ?_ | refine WH.cons (by first | exact rfl | (exact eqData (fillS_set hs)) | exact eqI (by omega) | exact eqI (by simp <;> fail) | exact eqI (by simp; omega) | exact eqOwn (by simp <;> fail) | exact eqOwn (by simp; omega) | (simp_all <;> fail)) (by first | exact RenS.no | exact RenS.dead | exact RenS.data _ _ _ | (apply RenS.box; repeat (first | exact RenRL.nil | apply RenRL.cons | exact RenR.d _ | exact RenR.of_d (by first | (exact eqData (fillS_set hs)) | exact eqI (by omega) | exact eqI (by simp <;> fail) | exact eqI (by simp; omega)) | apply RenR.agg | apply RenR.tup | exact RenR.own _ _ _ _ rfl | exact RenR.of_own (by first | rfl | (omega) | (simp <;> fail) | (simp; omega)) rfl | exact RenR.ptr _ _ _ _ _ _ rfl | exact RenR.ref _ | apply RenR.fn | exact RenR.dead)) | exact RenS.gen _) ?_)) rfl)
      · exfalso; simp at hc; omega
    · skip
      refine aw_seq ?_
      refine aw_seq ?_
      refine aw_region (is := [0, 1, 2, 3]) rfl ?_
      refine rt_p rfl (want_none rfl) rfl (pu_move (r := .d _) rfl) ?_
      refine rt_p rfl (want_none rfl) rfl (pu_move (r := .d _) rfl) ?_
      refine rt_p rfl (want_none rfl) rfl (pu_len_map tok rfl rfl rfl) ?_
      refine rt_p rfl (want_none rfl) rfl (pu_lss rfl rfl) ?_
      refine rt_nil ?_
      refine then_n ?_
      refine aw_condP _ rfl (fun hc => ?_) (fun hc => ?_)
      · exfalso; simp at hc; omega
      · skip
        refine aw_exit ?_
        refine then_e ?_
        refine then_e ?_
        refine block_hit ?_
        refine then_n ?_
        refine aw_seq ?_
        refine aw_region (is := [0, 1]) rfl ?_
        refine rt_p rfl (want_none rfl) rfl (pu_move (r := .own _ _ _) rfl) ?_
        refine rt_p rfl (want_none rfl) rfl (pu_assign (r := .own _ _ _) rfl) ?_
        refine rt_nil ?_
        refine then_n ?_
        refine aw_ret ?_
        obtain rfl : k = xs.length := by omega
        refine retK (rs := [.tmp 2]) [3] 200 rfl (by repeat (first | exact ResR.nil | apply ResR.tmp (a := .d _) rfl | apply ResR.tmp (a := .ptr _ _ _ _ _) rfl | apply ResR.tmp (a := .own _ _ _) rfl | apply ResR.tmp (a := .agg _) rfl | apply ResR.tmp (a := .ref _) rfl | apply ResR.tmp (a := .tup _) rfl | apply ResR.tmp (a := .fn _ _) rfl | apply ResR.tmp (a := .dead) rfl | apply ResR.cell1 rfl rfl rfl rfl (by first | rfl | (simp [Cells.len] <;> omega)) (by first | rfl | exact data_get (map_at (by assumption)) | exact data_get (by assumption) | exact data_get (List.getElem?_set_self (by simp; omega)) | exact data_get (List.getElem?_set_self (by simpa using hlt))) rfl | apply ResR.cellN rfl rfl rfl rfl (by first | rfl | (simp [Cells.len] <;> omega)) (by first | rfl | exact data_get (map_at (by assumption)) | exact data_get (by assumption) | exact data_get (List.getElem?_set_self (by simp; omega)) | exact data_get (List.getElem?_set_self (by simpa using hlt))) (by repeat (first | exact Seg.z _ | apply Seg.t | apply Seg.d)))) (by repeat (first | exact abv_nil _ | exact abv_lks rfl | refine abv_upd ?_ rfl)) (by decide) (by decide) (by repeat (first | exact AtK.nil | refine AtK.data_ (by first | exact rfl | (exact eqData (fillS_all xs))) ?_ | (apply AtK.cons rfl; (first | exact RenS.no | exact RenS.dead | exact RenS.data _ _ _ | (apply RenS.box; repeat (first | exact RenRL.nil | apply RenRL.cons | exact RenR.d _ | apply RenR.agg | apply RenR.tup | exact RenR.own _ _ _ _ rfl | exact RenR.ptr _ _ _ _ _ _ rfl | exact RenR.ref _ | apply RenR.fn | exact RenR.dead)) | exact RenS.gen _)))) ?_
        rfl
theorem toDrawing_a (xs : List Shp) (hm : xs.length ≤ 1048576) : FnC Try.prog 16 [] [.agg [.d (.sl (shpsD xs))]] [.live [⟨80, 7, .data (shpsD xs)⟩]] (.agg [.own 0 0 xs.length]) := by
  refine fnc_intro (T := tt) (N := 9) tok Try.func16 rfl rfl (by kernel_rfl) rfl rfl ?_
  refine aw_seq ?_
  refine aw_region (is := [0, 1]) rfl ?_
  refine rt_s rfl (want_none rfl) rfl (st_box 3 (cs := _ :: _) rfl rfl rfl) ?_
  refine rt_s rfl (want_none rfl) rfl (st_alloc 4 (cs := [.d (.v (.slice none 0 0))]) tok rfl rfl rfl) ?_
  refine rt_nil ?_
  refine then_n ?_
  refine aw_seq ?_
  refine aw_region (is := [0]) rfl ?_
  refine rt_s rfl (want_none rfl) rfl (st_alloc 5 (cs := [.d (.v (.slice none 0 0))]) tok rfl rfl rfl) ?_
  refine rt_nil ?_
  refine then_n ?_
  refine aw_seq ?_
  refine aw_region (is := [0, 1, 2, 3, 4]) rfl ?_
  refine rt_l rfl (want_none rfl) rfl (li_fieldAddr tok rfl rfl rfl rfl rfl rfl rfl (by first | rfl | (simp [Cells.len] <;> omega)) (by first | rfl | exact data_get (map_at (by assumption)) | exact data_get (by assumption) | exact data_get (List.getElem?_set_self (by simp; omega)) | exact data_get (List.getElem?_set_self (by simpa using hlt)))) ?_
  refine rt_l rfl (want_none rfl) rfl (li_load1 tok rfl rfl rfl rfl (by first | rfl | (simp [Cells.len] <;> omega)) (by first | rfl | exact data_get (map_at (by assumption)) | exact data_get (by assumption) | exact data_get (List.getElem?_set_self (by simp; omega)) | exact data_get (List.getElem?_set_self (by simpa using hlt))) rfl) ?_
  refine rt_s rfl (want_none rfl) rfl (st_call 6 rfl rfl rfl (toShapeS_a xs hm) (by repeat (first | exact abv_nil _ | exact abv_lks rfl | refine abv_upd ?_ rfl)) (by repeat (first | exact RenRL.nil | apply RenRL.cons | exact RenR.d _ | apply RenR.agg | apply RenR.tup | exact RenR.own _ _ _ _ rfl | exact RenR.ptr _ _ _ _ _ _ rfl | exact RenR.ref _ | apply RenR.fn | exact RenR.dead)) (by repeat (first | exact BirR.nil _ _ | (apply BirR.cons; (first | exact RenS.no | exact RenS.dead | exact RenS.data _ _ _ | (apply RenS.box; repeat (first | exact RenRL.nil | apply RenRL.cons | exact RenR.d _ | apply RenR.agg | apply RenR.tup | exact RenR.own _ _ _ _ rfl | exact RenR.ptr _ _ _ _ _ _ rfl | exact RenR.ref _ | apply RenR.fn | exact RenR.dead)) | exact RenS.gen _))))) ?_
  refine rt_l rfl (want_none rfl) rfl (li_fieldAddr tok rfl rfl rfl rfl rfl rfl rfl (by first | rfl | (simp [Cells.len] <;> omega)) (by first | rfl | exact data_get (map_at (by assumption)) | exact data_get (by assumption) | exact data_get (List.getElem?_set_self (by simp; omega)) | exact data_get (List.getElem?_set_self (by simpa using hlt)))) ?_
  refine rt_w0 rfl (want_none rfl) (wr_store (cs := [.own _ _ _]) tok rfl rfl rfl rfl rfl rfl rfl rfl (by first | rfl | (simp [Cells.len] <;> omega)) (by first | rfl | exact data_get (map_at (by assumption)) | exact data_get (by assumption) | exact data_get (List.getElem?_set_self (by simp; omega)) | exact data_get (List.getElem?_set_self (by simpa using hlt))) (by repeat (first | exact Spl.z _ | apply Spl.t | apply Spl.d)) (by first | exact SetC.box _ _ | exact SetC.data _ _ (by repeat (first | exact AllD.nil | apply AllD.cons)) | exact SetC.av _ _ _) (by first | exact SetO.one _ _ | exact SetO.gen _ _ _)) ?_
  refine rt_nil ?_
  refine then_n ?_
  refine aw_seq ?_
  refine aw_region (is := [0, 1]) rfl ?_
  refine rt_l rfl (want_none rfl) rfl (li_loadN tok rfl rfl rfl rfl (by first | rfl | (simp [Cells.len] <;> omega)) (by first | rfl | exact data_get (map_at (by assumption)) | exact data_get (by assumption) | exact data_get (List.getElem?_set_self (by simp; omega)) | exact data_get (List.getElem?_set_self (by simpa using hlt))) (by repeat (first | exact Seg.z _ | apply Seg.t | apply Seg.d))) ?_
  refine rt_w0 rfl (want_none rfl) (wr_store (cs := _ :: _) tok rfl rfl rfl rfl rfl rfl rfl rfl (by first | rfl | (simp [Cells.len] <;> omega)) (by first | rfl | exact data_get (map_at (by assumption)) | exact data_get (by assumption) | exact data_get (List.getElem?_set_self (by simp; omega)) | exact data_get (List.getElem?_set_self (by simpa using hlt))) (by repeat (first | exact Spl.z _ | apply Spl.t | apply Spl.d)) (by first | exact SetC.box _ _ | exact SetC.data _ _ (by repeat (first | exact AllD.nil | apply AllD.cons)) | exact SetC.av _ _ _) (by first | exact SetO.one _ _ | exact SetO.gen _ _ _)) ?_
  refine rt_nil ?_
  refine then_n ?_
  refine aw_ret ?_
  refine retK (rs := [.cell 2 29]) [6] 200 rfl (by repeat (first | exact ResR.nil | apply ResR.tmp (a := .d _) rfl | apply ResR.tmp (a := .ptr _ _ _ _ _) rfl | apply ResR.tmp (a := .own _ _ _) rfl | apply ResR.tmp (a := .agg _) rfl | apply ResR.tmp (a := .ref _) rfl | apply ResR.tmp (a := .tup _) rfl | apply ResR.tmp (a := .fn _ _) rfl | apply ResR.tmp (a := .dead) rfl | apply ResR.cell1 rfl rfl rfl rfl (by first | rfl | (simp [Cells.len] <;> omega)) (by first | rfl | exact data_get (map_at (by assumption)) | exact data_get (by assumption) | exact data_get (List.getElem?_set_self (by simp; omega)) | exact data_get (List.getElem?_set_self (by simpa using hlt))) rfl | apply ResR.cellN rfl rfl rfl rfl (by first | rfl | (simp [Cells.len] <;> omega)) (by first | rfl | exact data_get (map_at (by assumption)) | exact data_get (by assumption) | exact data_get (List.getElem?_set_self (by simp; omega)) | exact data_get (List.getElem?_set_self (by simpa using hlt))) (by repeat (first | exact Seg.z _ | apply Seg.t | apply Seg.d)))) (by repeat (first | exact abv_nil _ | exact abv_lks rfl | refine abv_upd ?_ rfl)) (by decide) (by decide) (by repeat (first | exact AtK.nil | refine AtK.data_ (by first | exact rfl) ?_ | (apply AtK.cons rfl; (first | exact RenS.no | exact RenS.dead | exact RenS.data _ _ _ | (apply RenS.box; repeat (first | exact RenRL.nil | apply RenRL.cons | exact RenR.d _ | apply RenR.agg | apply RenR.tup | exact RenR.own _ _ _ _ rfl | exact RenR.ptr _ _ _ _ _ _ rfl | exact RenR.ref _ | apply RenR.fn | exact RenR.dead)) | exact RenS.gen _)))) ?_
  rfl
theorem eqSpot_a (a b c d : Int) : FnC Try.prog 27 [] [.agg [.d (.v (.int .i64 a)), .d (.v (.int .i64 b))], .agg [.d (.v (.int .i64 c)), .d (.v (.int .i64 d))]] [] (.d (.v (.bool (decide (a = c ∧ b = d))))) := by
  refine fnc_intro (T := tt) (N := 15) tok Try.func27 rfl rfl (by kernel_rfl) rfl rfl ?_
  refine aw_seq ?_
  refine aw_region (is := [0, 1, 2]) rfl ?_
  refine rt_s rfl (want_none rfl) rfl (st_box 3 (cs := _ :: _) rfl rfl rfl) ?_
  refine rt_s rfl (want_none rfl) rfl (st_box 4 (cs := _ :: _) rfl rfl rfl) ?_
  refine rt_p rfl (want_none rfl) rfl (pu_assign (r := .d _) rfl) ?_
  refine rt_nil ?_
  refine then_n ?_
  refine aw_seq ?_
  refine aw_seq ?_
  refine aw_region (is := [0, 1, 2, 3, 4]) rfl ?_
  refine rt_l rfl (want_none rfl) rfl (li_fieldAddr tok rfl rfl rfl rfl rfl rfl rfl (by first | rfl | (simp [Cells.len] <;> omega)) (by first | rfl | exact data_get (map_at (by assumption)) | exact data_get (by assumption) | exact data_get (List.getElem?_set_self (by simp; omega)) | exact data_get (List.getElem?_set_self (by simpa using hlt)))) ?_
  refine rt_l rfl (want_none rfl) rfl (li_load1 tok rfl rfl rfl rfl (by first | rfl | (simp [Cells.len] <;> omega)) (by first | rfl | exact data_get (map_at (by assumption)) | exact data_get (by assumption) | exact data_get (List.getElem?_set_self (by simp; omega)) | exact data_get (List.getElem?_set_self (by simpa using hlt))) rfl) ?_
  refine rt_l rfl (want_none rfl) rfl (li_fieldAddr tok rfl rfl rfl rfl rfl rfl rfl (by first | rfl | (simp [Cells.len] <;> omega)) (by first | rfl | exact data_get (map_at (by assumption)) | exact data_get (by assumption) | exact data_get (List.getElem?_set_self (by simp; omega)) | exact data_get (List.getElem?_set_self (by simpa using hlt)))) ?_
  refine rt_l rfl (want_none rfl) rfl (li_load1 tok rfl rfl rfl rfl (by first | rfl | (simp [Cells.len] <;> omega)) (by first | rfl | exact data_get (map_at (by assumption)) | exact data_get (by assumption) | exact data_get (List.getElem?_set_self (by simp; omega)) | exact data_get (List.getElem?_set_self (by simpa using hlt))) rfl) ?_
  refine rt_p rfl (want_none rfl) rfl (pu_neq rfl rfl) ?_
  refine rt_nil ?_
  refine then_n ?_
  refine aw_condP _ rfl (fun hc => ?_) (fun hc => ?_)
  · skip
    refine aw_seq ?_
    refine aw_region (is := [0]) rfl ?_
    refine rt_p rfl (want_none rfl) rfl (pu_assign (r := .d _) rfl) ?_
    refine rt_nil ?_
    refine then_n ?_
    refine aw_ret ?_
    refine then_r ?_
    refine ret0 (rs := [.tmp 4]) 200 rfl (by repeat (first | exact ResR.nil | apply ResR.tmp (a := .d _) rfl | apply ResR.tmp (a := .ptr _ _ _ _ _) rfl | apply ResR.tmp (a := .own _ _ _) rfl | apply ResR.tmp (a := .agg _) rfl | apply ResR.tmp (a := .ref _) rfl | apply ResR.tmp (a := .tup _) rfl | apply ResR.tmp (a := .fn _ _) rfl | apply ResR.tmp (a := .dead) rfl | apply ResR.cell1 rfl rfl rfl rfl (by first | rfl | (simp [Cells.len] <;> omega)) (by first | rfl | exact data_get (map_at (by assumption)) | exact data_get (by assumption) | exact data_get (List.getElem?_set_self (by simp; omega)) | exact data_get (List.getElem?_set_self (by simpa using hlt))) rfl | apply ResR.cellN rfl rfl rfl rfl (by first | rfl | (simp [Cells.len] <;> omega)) (by first | rfl | exact data_get (map_at (by assumption)) | exact data_get (by assumption) | exact data_get (List.getElem?_set_self (by simp; omega)) | exact data_get (List.getElem?_set_self (by simpa using hlt))) (by repeat (first | exact Seg.z _ | apply Seg.t | apply Seg.d)))) (by repeat (first | exact abv_nil _ | exact abv_lks rfl | refine abv_upd ?_ rfl)) rfl ?_
    exact retb (by simp_all)
  · skip
    refine aw_skip ?_
    refine then_n ?_
    refine aw_seq ?_
    refine aw_seq ?_
    refine aw_region (is := [0, 1, 2, 3, 4]) rfl ?_
    refine rt_l rfl (want_none rfl) rfl (li_fieldAddr tok rfl rfl rfl rfl rfl rfl rfl (by first | rfl | (simp [Cells.len] <;> omega)) (by first | rfl | exact data_get (map_at (by assumption)) | exact data_get (by assumption) | exact data_get (List.getElem?_set_self (by simp; omega)) | exact data_get (List.getElem?_set_self (by simpa using hlt)))) ?_
    refine rt_l rfl (want_none rfl) rfl (li_load1 tok rfl rfl rfl rfl (by first | rfl | (simp [Cells.len] <;> omega)) (by first | rfl | exact data_get (map_at (by assumption)) | exact data_get (by assumption) | exact data_get (List.getElem?_set_self (by simp; omega)) | exact data_get (List.getElem?_set_self (by simpa using hlt))) rfl) ?_
    refine rt_l rfl (want_none rfl) rfl (li_fieldAddr tok rfl rfl rfl rfl rfl rfl rfl (by first | rfl | (simp [Cells.len] <;> omega)) (by first | rfl | exact data_get (map_at (by assumption)) | exact data_get (by assumption) | exact data_get (List.getElem?_set_self (by simp; omega)) | exact data_get (List.getElem?_set_self (by simpa using hlt)))) ?_
    refine rt_l rfl (want_none rfl) rfl (li_load1 tok rfl rfl rfl rfl (by first | rfl | (simp [Cells.len] <;> omega)) (by first | rfl | exact data_get (map_at (by assumption)) | exact data_get (by assumption) | exact data_get (List.getElem?_set_self (by simp; omega)) | exact data_get (List.getElem?_set_self (by simpa using hlt))) rfl) ?_
    refine rt_p rfl (want_none rfl) rfl (pu_neq rfl rfl) ?_
    refine rt_nil ?_
    refine then_n ?_
    refine aw_condP _ rfl (fun hc => ?_) (fun hc => ?_)
    · skip
      refine aw_seq ?_
      refine aw_region (is := [0]) rfl ?_
      refine rt_p rfl (want_none rfl) rfl (pu_assign (r := .d _) rfl) ?_
      refine rt_nil ?_
      refine then_n ?_
      refine aw_ret ?_
      refine then_r ?_
      refine ret0 (rs := [.tmp 4]) 200 rfl (by repeat (first | exact ResR.nil | apply ResR.tmp (a := .d _) rfl | apply ResR.tmp (a := .ptr _ _ _ _ _) rfl | apply ResR.tmp (a := .own _ _ _) rfl | apply ResR.tmp (a := .agg _) rfl | apply ResR.tmp (a := .ref _) rfl | apply ResR.tmp (a := .tup _) rfl | apply ResR.tmp (a := .fn _ _) rfl | apply ResR.tmp (a := .dead) rfl | apply ResR.cell1 rfl rfl rfl rfl (by first | rfl | (simp [Cells.len] <;> omega)) (by first | rfl | exact data_get (map_at (by assumption)) | exact data_get (by assumption) | exact data_get (List.getElem?_set_self (by simp; omega)) | exact data_get (List.getElem?_set_self (by simpa using hlt))) rfl | apply ResR.cellN rfl rfl rfl rfl (by first | rfl | (simp [Cells.len] <;> omega)) (by first | rfl | exact data_get (map_at (by assumption)) | exact data_get (by assumption) | exact data_get (List.getElem?_set_self (by simp; omega)) | exact data_get (List.getElem?_set_self (by simpa using hlt))) (by repeat (first | exact Seg.z _ | apply Seg.t | apply Seg.d)))) (by repeat (first | exact abv_nil _ | exact abv_lks rfl | refine abv_upd ?_ rfl)) rfl ?_
      exact retb (by simp_all)
    · skip
      refine aw_skip ?_
      refine then_n ?_
      refine aw_seq ?_
      refine aw_region (is := [0]) rfl ?_
      refine rt_p rfl (want_none rfl) rfl (pu_assign (r := .d _) rfl) ?_
      refine rt_nil ?_
      refine then_n ?_
      refine aw_ret ?_
      refine ret0 (rs := [.tmp 4]) 200 rfl (by repeat (first | exact ResR.nil | apply ResR.tmp (a := .d _) rfl | apply ResR.tmp (a := .ptr _ _ _ _ _) rfl | apply ResR.tmp (a := .own _ _ _) rfl | apply ResR.tmp (a := .agg _) rfl | apply ResR.tmp (a := .ref _) rfl | apply ResR.tmp (a := .tup _) rfl | apply ResR.tmp (a := .fn _ _) rfl | apply ResR.tmp (a := .dead) rfl | apply ResR.cell1 rfl rfl rfl rfl (by first | rfl | (simp [Cells.len] <;> omega)) (by first | rfl | exact data_get (map_at (by assumption)) | exact data_get (by assumption) | exact data_get (List.getElem?_set_self (by simp; omega)) | exact data_get (List.getElem?_set_self (by simpa using hlt))) rfl | apply ResR.cellN rfl rfl rfl rfl (by first | rfl | (simp [Cells.len] <;> omega)) (by first | rfl | exact data_get (map_at (by assumption)) | exact data_get (by assumption) | exact data_get (List.getElem?_set_self (by simp; omega)) | exact data_get (List.getElem?_set_self (by simpa using hlt))) (by repeat (first | exact Seg.z _ | apply Seg.t | apply Seg.d)))) (by repeat (first | exact abv_nil _ | exact abv_lks rfl | refine abv_upd ?_ rfl)) rfl ?_
      exact retb (by simp_all)
theorem eqShape_a (K AX AY BX BY R : Int) (Nm : ByteArray) (K2 AX2 AY2 BX2 BY2 R2 : Int) (Nm2 : ByteArray) : FnC Try.prog 97 [] [.agg [.d (.v (.int .i64 K)), .d (.v (.int .i64 AX)), .d (.v (.int .i64 AY)), .d (.v (.int .i64 BX)), .d (.v (.int .i64 BY)), .d (.v (.int .i64 R)), .d (.v (.string Nm))], .agg [.d (.v (.int .i64 K2)), .d (.v (.int .i64 AX2)), .d (.v (.int .i64 AY2)), .d (.v (.int .i64 BX2)), .d (.v (.int .i64 BY2)), .d (.v (.int .i64 R2)), .d (.v (.string Nm2))]] [] (.d (.v (.bool (decide (⟨K, AX, AY, BX, BY, R, Nm⟩ = (⟨K2, AX2, AY2, BX2, BY2, R2, Nm2⟩ : Shp)))))) := by
  refine fnc_intro (T := tt) (N := 32) tok Try.func97 rfl rfl (by kernel_rfl) rfl rfl ?_
  refine aw_seq ?_
  refine aw_region (is := [0, 1, 2]) rfl ?_
  refine rt_s rfl (want_none rfl) rfl (st_box 3 (cs := _ :: _) rfl rfl rfl) ?_
  refine rt_s rfl (want_none rfl) rfl (st_box 4 (cs := _ :: _) rfl rfl rfl) ?_
  refine rt_p rfl (want_none rfl) rfl (pu_assign (r := .d _) rfl) ?_
  refine rt_nil ?_
  refine then_n ?_
  refine aw_seq ?_
  refine aw_seq ?_
  refine aw_region (is := [0, 1, 2, 3, 4]) rfl ?_
  refine rt_l rfl (want_none rfl) rfl (li_fieldAddr tok rfl rfl rfl rfl rfl rfl rfl (by first | rfl | (simp [Cells.len] <;> omega)) (by first | rfl | exact data_get (map_at (by assumption)) | exact data_get (by assumption) | exact data_get (List.getElem?_set_self (by simp; omega)) | exact data_get (List.getElem?_set_self (by simpa using hlt)))) ?_
  refine rt_l rfl (want_none rfl) rfl (li_load1 tok rfl rfl rfl rfl (by first | rfl | (simp [Cells.len] <;> omega)) (by first | rfl | exact data_get (map_at (by assumption)) | exact data_get (by assumption) | exact data_get (List.getElem?_set_self (by simp; omega)) | exact data_get (List.getElem?_set_self (by simpa using hlt))) rfl) ?_
  refine rt_l rfl (want_none rfl) rfl (li_fieldAddr tok rfl rfl rfl rfl rfl rfl rfl (by first | rfl | (simp [Cells.len] <;> omega)) (by first | rfl | exact data_get (map_at (by assumption)) | exact data_get (by assumption) | exact data_get (List.getElem?_set_self (by simp; omega)) | exact data_get (List.getElem?_set_self (by simpa using hlt)))) ?_
  refine rt_l rfl (want_none rfl) rfl (li_load1 tok rfl rfl rfl rfl (by first | rfl | (simp [Cells.len] <;> omega)) (by first | rfl | exact data_get (map_at (by assumption)) | exact data_get (by assumption) | exact data_get (List.getElem?_set_self (by simp; omega)) | exact data_get (List.getElem?_set_self (by simpa using hlt))) rfl) ?_
  refine rt_p rfl (want_none rfl) rfl (pu_neq rfl rfl) ?_
  refine rt_nil ?_
  refine then_n ?_
  refine aw_condP _ rfl (fun hc => ?_) (fun hc => ?_)
  · skip
    refine aw_seq ?_
    refine aw_region (is := [0]) rfl ?_
    refine rt_p rfl (want_none rfl) rfl (pu_assign (r := .d _) rfl) ?_
    refine rt_nil ?_
    refine then_n ?_
    refine aw_ret ?_
    refine then_r ?_
    refine ret0 (rs := [.tmp 4]) 200 rfl (by repeat (first | exact ResR.nil | apply ResR.tmp (a := .d _) rfl | apply ResR.tmp (a := .ptr _ _ _ _ _) rfl | apply ResR.tmp (a := .own _ _ _) rfl | apply ResR.tmp (a := .agg _) rfl | apply ResR.tmp (a := .ref _) rfl | apply ResR.tmp (a := .tup _) rfl | apply ResR.tmp (a := .fn _ _) rfl | apply ResR.tmp (a := .dead) rfl | apply ResR.cell1 rfl rfl rfl rfl (by first | rfl | (simp [Cells.len] <;> omega)) (by first | rfl | exact data_get (map_at (by assumption)) | exact data_get (by assumption) | exact data_get (List.getElem?_set_self (by simp; omega)) | exact data_get (List.getElem?_set_self (by simpa using hlt))) rfl | apply ResR.cellN rfl rfl rfl rfl (by first | rfl | (simp [Cells.len] <;> omega)) (by first | rfl | exact data_get (map_at (by assumption)) | exact data_get (by assumption) | exact data_get (List.getElem?_set_self (by simp; omega)) | exact data_get (List.getElem?_set_self (by simpa using hlt))) (by repeat (first | exact Seg.z _ | apply Seg.t | apply Seg.d)))) (by repeat (first | exact abv_nil _ | exact abv_lks rfl | refine abv_upd ?_ rfl)) rfl ?_
    exact retb (by simp_all)
  · skip
    refine aw_skip ?_
    refine then_n ?_
    refine aw_seq ?_
    refine aw_seq ?_
    refine aw_region (is := [0, 1, 2, 3, 4, 5]) rfl ?_
    refine rt_l rfl (want_none rfl) rfl (li_fieldAddr tok rfl rfl rfl rfl rfl rfl rfl (by first | rfl | (simp [Cells.len] <;> omega)) (by first | rfl | exact data_get (map_at (by assumption)) | exact data_get (by assumption) | exact data_get (List.getElem?_set_self (by simp; omega)) | exact data_get (List.getElem?_set_self (by simpa using hlt)))) ?_
    refine rt_l rfl (want_none rfl) rfl (li_loadN tok rfl rfl rfl rfl (by first | rfl | (simp [Cells.len] <;> omega)) (by first | rfl | exact data_get (map_at (by assumption)) | exact data_get (by assumption) | exact data_get (List.getElem?_set_self (by simp; omega)) | exact data_get (List.getElem?_set_self (by simpa using hlt))) (by repeat (first | exact Seg.z _ | apply Seg.t | apply Seg.d))) ?_
    refine rt_l rfl (want_none rfl) rfl (li_fieldAddr tok rfl rfl rfl rfl rfl rfl rfl (by first | rfl | (simp [Cells.len] <;> omega)) (by first | rfl | exact data_get (map_at (by assumption)) | exact data_get (by assumption) | exact data_get (List.getElem?_set_self (by simp; omega)) | exact data_get (List.getElem?_set_self (by simpa using hlt)))) ?_
    refine rt_l rfl (want_none rfl) rfl (li_loadN tok rfl rfl rfl rfl (by first | rfl | (simp [Cells.len] <;> omega)) (by first | rfl | exact data_get (map_at (by assumption)) | exact data_get (by assumption) | exact data_get (List.getElem?_set_self (by simp; omega)) | exact data_get (List.getElem?_set_self (by simpa using hlt))) (by repeat (first | exact Seg.z _ | apply Seg.t | apply Seg.d))) ?_
    refine rt_s rfl (want_none rfl) rfl (st_call 5 rfl rfl rfl (eqSpot_a _ _ _ _) (by repeat (first | exact abv_nil _ | exact abv_lks rfl | refine abv_upd ?_ rfl)) (by repeat (first | exact RenRL.nil | apply RenRL.cons | exact RenR.d _ | apply RenR.agg | apply RenR.tup | exact RenR.own _ _ _ _ rfl | exact RenR.ptr _ _ _ _ _ _ rfl | exact RenR.ref _ | apply RenR.fn | exact RenR.dead)) (by repeat (first | exact BirR.nil _ _ | (apply BirR.cons; (first | exact RenS.no | exact RenS.dead | exact RenS.data _ _ _ | (apply RenS.box; repeat (first | exact RenRL.nil | apply RenRL.cons | exact RenR.d _ | apply RenR.agg | apply RenR.tup | exact RenR.own _ _ _ _ rfl | exact RenR.ptr _ _ _ _ _ _ rfl | exact RenR.ref _ | apply RenR.fn | exact RenR.dead)) | exact RenS.gen _))))) ?_
    refine rt_p rfl (want_none rfl) rfl (pu_notP rfl) ?_
    refine rt_nil ?_
    refine then_n ?_
    refine aw_condP _ rfl (fun hc => ?_) (fun hc => ?_)
    · skip
      refine aw_seq ?_
      refine aw_region (is := [0]) rfl ?_
      refine rt_p rfl (want_none rfl) rfl (pu_assign (r := .d _) rfl) ?_
      refine rt_nil ?_
      refine then_n ?_
      refine aw_ret ?_
      refine then_r ?_
      refine ret0 (rs := [.tmp 4]) 200 rfl (by repeat (first | exact ResR.nil | apply ResR.tmp (a := .d _) rfl | apply ResR.tmp (a := .ptr _ _ _ _ _) rfl | apply ResR.tmp (a := .own _ _ _) rfl | apply ResR.tmp (a := .agg _) rfl | apply ResR.tmp (a := .ref _) rfl | apply ResR.tmp (a := .tup _) rfl | apply ResR.tmp (a := .fn _ _) rfl | apply ResR.tmp (a := .dead) rfl | apply ResR.cell1 rfl rfl rfl rfl (by first | rfl | (simp [Cells.len] <;> omega)) (by first | rfl | exact data_get (map_at (by assumption)) | exact data_get (by assumption) | exact data_get (List.getElem?_set_self (by simp; omega)) | exact data_get (List.getElem?_set_self (by simpa using hlt))) rfl | apply ResR.cellN rfl rfl rfl rfl (by first | rfl | (simp [Cells.len] <;> omega)) (by first | rfl | exact data_get (map_at (by assumption)) | exact data_get (by assumption) | exact data_get (List.getElem?_set_self (by simp; omega)) | exact data_get (List.getElem?_set_self (by simpa using hlt))) (by repeat (first | exact Seg.z _ | apply Seg.t | apply Seg.d)))) (by repeat (first | exact abv_nil _ | exact abv_lks rfl | refine abv_upd ?_ rfl)) rfl ?_
      exact retb (by simp_all)
    · skip
      refine aw_skip ?_
      refine then_n ?_
      refine aw_seq ?_
      refine aw_seq ?_
      refine aw_region (is := [0, 1, 2, 3, 4, 5]) rfl ?_
      refine rt_l rfl (want_none rfl) rfl (li_fieldAddr tok rfl rfl rfl rfl rfl rfl rfl (by first | rfl | (simp [Cells.len] <;> omega)) (by first | rfl | exact data_get (map_at (by assumption)) | exact data_get (by assumption) | exact data_get (List.getElem?_set_self (by simp; omega)) | exact data_get (List.getElem?_set_self (by simpa using hlt)))) ?_
      refine rt_l rfl (want_none rfl) rfl (li_loadN tok rfl rfl rfl rfl (by first | rfl | (simp [Cells.len] <;> omega)) (by first | rfl | exact data_get (map_at (by assumption)) | exact data_get (by assumption) | exact data_get (List.getElem?_set_self (by simp; omega)) | exact data_get (List.getElem?_set_self (by simpa using hlt))) (by repeat (first | exact Seg.z _ | apply Seg.t | apply Seg.d))) ?_
      refine rt_l rfl (want_none rfl) rfl (li_fieldAddr tok rfl rfl rfl rfl rfl rfl rfl (by first | rfl | (simp [Cells.len] <;> omega)) (by first | rfl | exact data_get (map_at (by assumption)) | exact data_get (by assumption) | exact data_get (List.getElem?_set_self (by simp; omega)) | exact data_get (List.getElem?_set_self (by simpa using hlt)))) ?_
      refine rt_l rfl (want_none rfl) rfl (li_loadN tok rfl rfl rfl rfl (by first | rfl | (simp [Cells.len] <;> omega)) (by first | rfl | exact data_get (map_at (by assumption)) | exact data_get (by assumption) | exact data_get (List.getElem?_set_self (by simp; omega)) | exact data_get (List.getElem?_set_self (by simpa using hlt))) (by repeat (first | exact Seg.z _ | apply Seg.t | apply Seg.d))) ?_
      refine rt_s rfl (want_none rfl) rfl (st_call 9 rfl rfl rfl (eqSpot_a _ _ _ _) (by repeat (first | exact abv_nil _ | exact abv_lks rfl | refine abv_upd ?_ rfl)) (by repeat (first | exact RenRL.nil | apply RenRL.cons | exact RenR.d _ | apply RenR.agg | apply RenR.tup | exact RenR.own _ _ _ _ rfl | exact RenR.ptr _ _ _ _ _ _ rfl | exact RenR.ref _ | apply RenR.fn | exact RenR.dead)) (by repeat (first | exact BirR.nil _ _ | (apply BirR.cons; (first | exact RenS.no | exact RenS.dead | exact RenS.data _ _ _ | (apply RenS.box; repeat (first | exact RenRL.nil | apply RenRL.cons | exact RenR.d _ | apply RenR.agg | apply RenR.tup | exact RenR.own _ _ _ _ rfl | exact RenR.ptr _ _ _ _ _ _ rfl | exact RenR.ref _ | apply RenR.fn | exact RenR.dead)) | exact RenS.gen _))))) ?_
      refine rt_p rfl (want_none rfl) rfl (pu_notP rfl) ?_
      refine rt_nil ?_
      refine then_n ?_
      refine aw_condP _ rfl (fun hc => ?_) (fun hc => ?_)
      · skip
        refine aw_seq ?_
        refine aw_region (is := [0]) rfl ?_
        refine rt_p rfl (want_none rfl) rfl (pu_assign (r := .d _) rfl) ?_
        refine rt_nil ?_
        refine then_n ?_
        refine aw_ret ?_
        refine then_r ?_
        refine ret0 (rs := [.tmp 4]) 200 rfl (by repeat (first | exact ResR.nil | apply ResR.tmp (a := .d _) rfl | apply ResR.tmp (a := .ptr _ _ _ _ _) rfl | apply ResR.tmp (a := .own _ _ _) rfl | apply ResR.tmp (a := .agg _) rfl | apply ResR.tmp (a := .ref _) rfl | apply ResR.tmp (a := .tup _) rfl | apply ResR.tmp (a := .fn _ _) rfl | apply ResR.tmp (a := .dead) rfl | apply ResR.cell1 rfl rfl rfl rfl (by first | rfl | (simp [Cells.len] <;> omega)) (by first | rfl | exact data_get (map_at (by assumption)) | exact data_get (by assumption) | exact data_get (List.getElem?_set_self (by simp; omega)) | exact data_get (List.getElem?_set_self (by simpa using hlt))) rfl | apply ResR.cellN rfl rfl rfl rfl (by first | rfl | (simp [Cells.len] <;> omega)) (by first | rfl | exact data_get (map_at (by assumption)) | exact data_get (by assumption) | exact data_get (List.getElem?_set_self (by simp; omega)) | exact data_get (List.getElem?_set_self (by simpa using hlt))) (by repeat (first | exact Seg.z _ | apply Seg.t | apply Seg.d)))) (by repeat (first | exact abv_nil _ | exact abv_lks rfl | refine abv_upd ?_ rfl)) rfl ?_
        exact retb (by simp_all)
      · skip
        refine aw_skip ?_
        refine then_n ?_
        refine aw_seq ?_
        refine aw_seq ?_
        refine aw_region (is := [0, 1, 2, 3, 4]) rfl ?_
        refine rt_l rfl (want_none rfl) rfl (li_fieldAddr tok rfl rfl rfl rfl rfl rfl rfl (by first | rfl | (simp [Cells.len] <;> omega)) (by first | rfl | exact data_get (map_at (by assumption)) | exact data_get (by assumption) | exact data_get (List.getElem?_set_self (by simp; omega)) | exact data_get (List.getElem?_set_self (by simpa using hlt)))) ?_
        refine rt_l rfl (want_none rfl) rfl (li_load1 tok rfl rfl rfl rfl (by first | rfl | (simp [Cells.len] <;> omega)) (by first | rfl | exact data_get (map_at (by assumption)) | exact data_get (by assumption) | exact data_get (List.getElem?_set_self (by simp; omega)) | exact data_get (List.getElem?_set_self (by simpa using hlt))) rfl) ?_
        refine rt_l rfl (want_none rfl) rfl (li_fieldAddr tok rfl rfl rfl rfl rfl rfl rfl (by first | rfl | (simp [Cells.len] <;> omega)) (by first | rfl | exact data_get (map_at (by assumption)) | exact data_get (by assumption) | exact data_get (List.getElem?_set_self (by simp; omega)) | exact data_get (List.getElem?_set_self (by simpa using hlt)))) ?_
        refine rt_l rfl (want_none rfl) rfl (li_load1 tok rfl rfl rfl rfl (by first | rfl | (simp [Cells.len] <;> omega)) (by first | rfl | exact data_get (map_at (by assumption)) | exact data_get (by assumption) | exact data_get (List.getElem?_set_self (by simp; omega)) | exact data_get (List.getElem?_set_self (by simpa using hlt))) rfl) ?_
        refine rt_p rfl (want_none rfl) rfl (pu_neq rfl rfl) ?_
        refine rt_nil ?_
        refine then_n ?_
        refine aw_condP _ rfl (fun hc => ?_) (fun hc => ?_)
        · skip
          refine aw_seq ?_
          refine aw_region (is := [0]) rfl ?_
          refine rt_p rfl (want_none rfl) rfl (pu_assign (r := .d _) rfl) ?_
          refine rt_nil ?_
          refine then_n ?_
          refine aw_ret ?_
          refine then_r ?_
          refine ret0 (rs := [.tmp 4]) 200 rfl (by repeat (first | exact ResR.nil | apply ResR.tmp (a := .d _) rfl | apply ResR.tmp (a := .ptr _ _ _ _ _) rfl | apply ResR.tmp (a := .own _ _ _) rfl | apply ResR.tmp (a := .agg _) rfl | apply ResR.tmp (a := .ref _) rfl | apply ResR.tmp (a := .tup _) rfl | apply ResR.tmp (a := .fn _ _) rfl | apply ResR.tmp (a := .dead) rfl | apply ResR.cell1 rfl rfl rfl rfl (by first | rfl | (simp [Cells.len] <;> omega)) (by first | rfl | exact data_get (map_at (by assumption)) | exact data_get (by assumption) | exact data_get (List.getElem?_set_self (by simp; omega)) | exact data_get (List.getElem?_set_self (by simpa using hlt))) rfl | apply ResR.cellN rfl rfl rfl rfl (by first | rfl | (simp [Cells.len] <;> omega)) (by first | rfl | exact data_get (map_at (by assumption)) | exact data_get (by assumption) | exact data_get (List.getElem?_set_self (by simp; omega)) | exact data_get (List.getElem?_set_self (by simpa using hlt))) (by repeat (first | exact Seg.z _ | apply Seg.t | apply Seg.d)))) (by repeat (first | exact abv_nil _ | exact abv_lks rfl | refine abv_upd ?_ rfl)) rfl ?_
          exact retb (by simp_all)
        · skip
          refine aw_skip ?_
          refine then_n ?_
          refine aw_seq ?_
          refine aw_seq ?_
          refine aw_region (is := [0, 1, 2, 3, 4]) rfl ?_
          refine rt_l rfl (want_none rfl) rfl (li_fieldAddr tok rfl rfl rfl rfl rfl rfl rfl (by first | rfl | (simp [Cells.len] <;> omega)) (by first | rfl | exact data_get (map_at (by assumption)) | exact data_get (by assumption) | exact data_get (List.getElem?_set_self (by simp; omega)) | exact data_get (List.getElem?_set_self (by simpa using hlt)))) ?_
          refine rt_l rfl (want_none rfl) rfl (li_load1 tok rfl rfl rfl rfl (by first | rfl | (simp [Cells.len] <;> omega)) (by first | rfl | exact data_get (map_at (by assumption)) | exact data_get (by assumption) | exact data_get (List.getElem?_set_self (by simp; omega)) | exact data_get (List.getElem?_set_self (by simpa using hlt))) rfl) ?_
          refine rt_l rfl (want_none rfl) rfl (li_fieldAddr tok rfl rfl rfl rfl rfl rfl rfl (by first | rfl | (simp [Cells.len] <;> omega)) (by first | rfl | exact data_get (map_at (by assumption)) | exact data_get (by assumption) | exact data_get (List.getElem?_set_self (by simp; omega)) | exact data_get (List.getElem?_set_self (by simpa using hlt)))) ?_
          refine rt_l rfl (want_none rfl) rfl (li_load1 tok rfl rfl rfl rfl (by first | rfl | (simp [Cells.len] <;> omega)) (by first | rfl | exact data_get (map_at (by assumption)) | exact data_get (by assumption) | exact data_get (List.getElem?_set_self (by simp; omega)) | exact data_get (List.getElem?_set_self (by simpa using hlt))) rfl) ?_
          refine rt_p rfl (want_none rfl) rfl (pu_sneq rfl rfl) ?_
          refine rt_nil ?_
          refine then_n ?_
          refine aw_condP _ rfl (fun hc => ?_) (fun hc => ?_)
          · skip
            refine aw_seq ?_
            refine aw_region (is := [0]) rfl ?_
            refine rt_p rfl (want_none rfl) rfl (pu_assign (r := .d _) rfl) ?_
            refine rt_nil ?_
            refine then_n ?_
            refine aw_ret ?_
            refine then_r ?_
            refine ret0 (rs := [.tmp 4]) 200 rfl (by repeat (first | exact ResR.nil | apply ResR.tmp (a := .d _) rfl | apply ResR.tmp (a := .ptr _ _ _ _ _) rfl | apply ResR.tmp (a := .own _ _ _) rfl | apply ResR.tmp (a := .agg _) rfl | apply ResR.tmp (a := .ref _) rfl | apply ResR.tmp (a := .tup _) rfl | apply ResR.tmp (a := .fn _ _) rfl | apply ResR.tmp (a := .dead) rfl | apply ResR.cell1 rfl rfl rfl rfl (by first | rfl | (simp [Cells.len] <;> omega)) (by first | rfl | exact data_get (map_at (by assumption)) | exact data_get (by assumption) | exact data_get (List.getElem?_set_self (by simp; omega)) | exact data_get (List.getElem?_set_self (by simpa using hlt))) rfl | apply ResR.cellN rfl rfl rfl rfl (by first | rfl | (simp [Cells.len] <;> omega)) (by first | rfl | exact data_get (map_at (by assumption)) | exact data_get (by assumption) | exact data_get (List.getElem?_set_self (by simp; omega)) | exact data_get (List.getElem?_set_self (by simpa using hlt))) (by repeat (first | exact Seg.z _ | apply Seg.t | apply Seg.d)))) (by repeat (first | exact abv_nil _ | exact abv_lks rfl | refine abv_upd ?_ rfl)) rfl ?_
            exact retb (by simp_all)
          · skip
            refine aw_skip ?_
            refine then_n ?_
            refine aw_seq ?_
            refine aw_region (is := [0]) rfl ?_
            refine rt_p rfl (want_none rfl) rfl (pu_assign (r := .d _) rfl) ?_
            refine rt_nil ?_
            refine then_n ?_
            refine aw_ret ?_
            refine ret0 (rs := [.tmp 4]) 200 rfl (by repeat (first | exact ResR.nil | apply ResR.tmp (a := .d _) rfl | apply ResR.tmp (a := .ptr _ _ _ _ _) rfl | apply ResR.tmp (a := .own _ _ _) rfl | apply ResR.tmp (a := .agg _) rfl | apply ResR.tmp (a := .ref _) rfl | apply ResR.tmp (a := .tup _) rfl | apply ResR.tmp (a := .fn _ _) rfl | apply ResR.tmp (a := .dead) rfl | apply ResR.cell1 rfl rfl rfl rfl (by first | rfl | (simp [Cells.len] <;> omega)) (by first | rfl | exact data_get (map_at (by assumption)) | exact data_get (by assumption) | exact data_get (List.getElem?_set_self (by simp; omega)) | exact data_get (List.getElem?_set_self (by simpa using hlt))) rfl | apply ResR.cellN rfl rfl rfl rfl (by first | rfl | (simp [Cells.len] <;> omega)) (by first | rfl | exact data_get (map_at (by assumption)) | exact data_get (by assumption) | exact data_get (List.getElem?_set_self (by simp; omega)) | exact data_get (List.getElem?_set_self (by simpa using hlt))) (by repeat (first | exact Seg.z _ | apply Seg.t | apply Seg.d)))) (by repeat (first | exact abv_nil _ | exact abv_lks rfl | refine abv_upd ?_ rfl)) rfl ?_
            exact retb (by simp_all)
theorem eqShapeS_a (xs ys : List Shp) (hm : xs.length ≤ 9223372036854775807) (hm2 : ys.length ≤ 9223372036854775807) : FnC Try.prog 52 [] [.d (.sl (shpsD xs)), .d (.sl (shpsD ys))] [] (.d (.v (.bool (decide (xs = ys))))) := by
  refine fnc_intro (T := tt) (N := 27) tok Try.func52 rfl rfl (by kernel_rfl) rfl rfl ?_
  refine aw_seq ?_
  refine aw_region (is := [0]) rfl ?_
  refine rt_p rfl (want_none rfl) rfl (pu_assign (r := .d _) rfl) ?_
  refine rt_nil ?_
  refine then_n ?_
  refine aw_seq ?_
  refine aw_seq ?_
  refine aw_region (is := [0, 1, 2, 3, 4]) rfl ?_
  refine rt_p rfl (want_none rfl) rfl (pu_move (r := .d _) rfl) ?_
  refine rt_p rfl (want_none rfl) rfl (pu_len_map tok rfl rfl rfl) ?_
  refine rt_p rfl (want_none rfl) rfl (pu_move (r := .d _) rfl) ?_
  refine rt_p rfl (want_none rfl) rfl (pu_len_map tok rfl rfl rfl) ?_
  refine rt_p rfl (want_none rfl) rfl (pu_neq rfl rfl) ?_
  refine rt_nil ?_
  refine then_n ?_
  refine aw_condP _ rfl (fun hc => ?_) (fun hc => ?_)
  · skip
    refine aw_seq ?_
    refine aw_region (is := [0]) rfl ?_
    refine rt_p rfl (want_none rfl) rfl (pu_assign (r := .d _) rfl) ?_
    refine rt_nil ?_
    refine then_n ?_
    refine aw_ret ?_
    refine then_r ?_
    refine ret0 (rs := [.tmp 4]) 200 rfl (by repeat (first | exact ResR.nil | apply ResR.tmp (a := .d _) rfl | apply ResR.tmp (a := .ptr _ _ _ _ _) rfl | apply ResR.tmp (a := .own _ _ _) rfl | apply ResR.tmp (a := .agg _) rfl | apply ResR.tmp (a := .ref _) rfl | apply ResR.tmp (a := .tup _) rfl | apply ResR.tmp (a := .fn _ _) rfl | apply ResR.tmp (a := .dead) rfl | apply ResR.cell1 rfl rfl rfl rfl (by first | rfl | (simp [Cells.len] <;> omega)) (by first | rfl | exact data_get (map_at (by assumption)) | exact data_get (by assumption) | exact data_get (List.getElem?_set_self (by simp; omega)) | exact data_get (List.getElem?_set_self (by simpa using hlt))) rfl | apply ResR.cellN rfl rfl rfl rfl (by first | rfl | (simp [Cells.len] <;> omega)) (by first | rfl | exact data_get (map_at (by assumption)) | exact data_get (by assumption) | exact data_get (List.getElem?_set_self (by simp; omega)) | exact data_get (List.getElem?_set_self (by simpa using hlt))) (by repeat (first | exact Seg.z _ | apply Seg.t | apply Seg.d)))) (by repeat (first | exact abv_nil _ | exact abv_lks rfl | refine abv_upd ?_ rfl)) rfl ?_
    first
      | exact retb (by rw [decide_eq_false]; intro e; subst e; omega)
      | exact retb (by rw [decide_eq_false]; intro e; subst e; rw [hs] at hu; injection hu with hu; subst hu; simp_all)
      | exact retb (by rw [decide_eq_true]; rw [List.take_of_length_le hge, List.take_of_length_le (by omega)] at he; exact he)
  · skip
    refine aw_skip ?_
    refine then_n ?_
    refine aw_seq ?_
    refine aw_seq ?_
    refine aw_region (is := [0]) rfl ?_
    refine rt_p rfl (want_none rfl) rfl (pu_assign (r := .d _) rfl) ?_
    refine rt_nil ?_
    refine then_n ?_
    refine aw_block ?_
    refine aw_loop (ι := {k : Nat // k ≤ xs.length ∧ xs.take k = ys.take k}) (fun p => ⟨updA (updA (updA (updA (updA ((fun _ => .dead)) 0 (.d (.sl (shpsD xs)))) 1 (.d (.sl (shpsD ys)))) 5 (.d (.v (.int .i64 (p.1))))) 6 (.d (.sl (shpsD xs)))) 8 (.d (.sl (shpsD ys))), lks [.no, .no, .no]⟩) (fun p => xs.length - p.1) ⟨0, by omega, rfl⟩ ?_ ?_
    · (refine weak_of 200 (by repeat (first | exact abv_nil _ | exact abv_lks rfl | refine abv_upd ?_ rfl)) rfl (by repeat (first | exact WT.nil | refine WT.free_ rfl (by first | exact rfl | exact eqI (by omega) | exact eqI (by simp <;> fail) | exact eqI (by simp; omega) | exact eqOwn (by simp <;> fail) | exact eqOwn (by simp; omega) | (simp_all <;> fail)) ?_ | refine WT.ren_ (r' := _) rfl (by repeat (first | exact RenRL.nil | apply RenRL.cons | exact RenR.d _ | exact RenR.of_d (by first | exact rfl | exact eqI (by omega) | exact eqI (by simp <;> fail) | exact eqI (by simp; omega)) | apply RenR.agg | apply RenR.tup | exact RenR.own _ _ _ _ rfl | exact RenR.of_own (by first | rfl | (omega) | (simp <;> fail) | (simp; omega)) rfl | exact RenR.ptr _ _ _ _ _ _ rfl | exact RenR.ref _ | apply RenR.fn | exact RenR.dead)) ?_)) (by repeat (first | exact WH.nil _ | refine WH.data_ (by first | exact rfl | exact eqI (by omega) | exact eqI (by simp <;> fail) | exact eqI (by simp; omega) | exact eqOwn (by simp <;> fail) | exact eqOwn (by simp; omega) | (simp_all <;> fail)) ?_ | refine WH.cons (by first | exact rfl | exact eqI (by omega) | exact eqI (by simp <;> fail) | exact eqI (by simp; omega) | exact eqOwn (by simp <;> fail) | exact eqOwn (by simp; omega) | (simp_all <;> fail)) (by first | exact RenS.no | exact RenS.dead | exact RenS.data _ _ _ | (apply RenS.box; repeat (first | exact RenRL.nil | apply RenRL.cons | exact RenR.d _ | exact RenR.of_d (by first | exact rfl | exact eqI (by omega) | exact eqI (by simp <;> fail) | exact eqI (by simp; omega)) | apply RenR.agg | apply RenR.tup | exact RenR.own _ _ _ _ rfl | exact RenR.of_own (by first | rfl | (omega) | (simp <;> fail) | (simp; omega)) rfl | exact RenR.ptr _ _ _ _ _ _ rfl | exact RenR.ref _ | apply RenR.fn | exact RenR.dead)) | exact RenS.gen _) ?_)) rfl)
    · rintro ⟨k, hk, he⟩
      have hl : xs.length = ys.length := by omega
      rcases Nat.lt_or_ge k xs.length with hlt | hge
      · skip
        obtain ⟨s, hs⟩ : ∃ s, xs[k]? = some s := ⟨_, List.getElem?_eq_getElem hlt⟩
        obtain ⟨u, hu⟩ : ∃ u, ys[k]? = some u := ⟨_, List.getElem?_eq_getElem (by omega)⟩
        refine aw_seq ?_
        refine aw_seq ?_
        refine aw_region (is := [0, 1, 2, 3]) rfl ?_
        refine rt_p rfl (want_none rfl) rfl (pu_move (r := .d _) rfl) ?_
        refine rt_p rfl (want_none rfl) rfl (pu_move (r := .d _) rfl) ?_
        refine rt_p rfl (want_none rfl) rfl (pu_len_map tok rfl rfl rfl) ?_
        refine rt_p rfl (want_none rfl) rfl (pu_lss rfl rfl) ?_
        refine rt_nil ?_
        refine then_n ?_
        refine aw_condP _ rfl (fun hc => ?_) (fun hc => ?_)
        · skip
          refine aw_skip ?_
          refine then_n ?_
          refine aw_seq ?_
          refine aw_block ?_
          refine aw_seq ?_
          refine aw_region_draw (is := [0, 1, 2, 3, 4, 5, 6, 7, 8, 9]) follows ?_
          refine rt_p rfl (want_none rfl) rfl (pu_move (r := .d _) rfl) ?_
          refine rt_p rfl (want_none rfl) rfl (pu_move (r := .d _) rfl) ?_
          refine rt_p rfl (want_none rfl) rfl (pu_index_sl tok rfl rfl (by first | rfl | omega) rfl rfl rfl (by first | rfl | exact map_at (by assumption) | assumption) rfl) ?_
          refine rt_p rfl (want_none rfl) rfl (pu_load_refN tok rfl rfl rfl (by repeat (first | exact SegD.z _ | apply SegD.t))) ?_
          refine rt_p rfl (want_none rfl) rfl (pu_move (r := .d _) rfl) ?_
          refine rt_p rfl (want_none rfl) rfl (pu_move (r := .d _) rfl) ?_
          refine rt_p rfl (want_none rfl) rfl (pu_index_sl tok rfl rfl (by first | rfl | omega) rfl rfl rfl (by first | rfl | exact map_at (by assumption) | assumption) rfl) ?_
          refine rt_p rfl (want_none rfl) rfl (pu_load_refN tok rfl rfl rfl (by repeat (first | exact SegD.z _ | apply SegD.t))) ?_
          refine rt_c rfl (want_none rfl) rfl (sb_call 3 rfl rfl rfl (eqShape_a s.K s.AX s.AY s.BX s.BY s.R s.N u.K u.AX u.AY u.BX u.BY u.R u.N) (by repeat (first | exact abv_nil _ | exact abv_lks rfl | refine abv_upd ?_ rfl)) (by repeat (first | exact RenRL.nil | apply RenRL.cons | exact RenR.d _ | apply RenR.agg | apply RenR.tup | exact RenR.own _ _ _ _ rfl | exact RenR.ptr _ _ _ _ _ _ rfl | exact RenR.ref _ | apply RenR.fn | exact RenR.dead)) (by repeat (first | exact BirR.nil _ _ | (apply BirR.cons; (first | exact RenS.no | exact RenS.dead | exact RenS.data _ _ _ | (apply RenS.box; repeat (first | exact RenRL.nil | apply RenRL.cons | exact RenR.d _ | apply RenR.agg | apply RenR.tup | exact RenR.own _ _ _ _ rfl | exact RenR.ptr _ _ _ _ _ _ rfl | exact RenR.ref _ | apply RenR.fn | exact RenR.dead)) | exact RenS.gen _))))) ?_
          refine rt_p rfl (want_none rfl) rfl (pu_notP rfl) ?_
          refine rt_nil ?_
          refine ⟨by kernel_rfl, ?_⟩
          refine then_n ?_
          refine aw_condP _ rfl (fun hc => ?_) (fun hc => ?_)
          · skip
            refine aw_seq ?_
            refine aw_region (is := [0]) rfl ?_
            refine rt_p rfl (want_none rfl) rfl (pu_assign (r := .d _) rfl) ?_
            refine rt_nil ?_
            refine then_n ?_
            refine aw_ret ?_
            refine block_r ?_
            refine then_r ?_
            refine then_r ?_
            refine block_r ?_
            refine then_r ?_
            refine ret0 (rs := [.tmp 4]) 200 rfl (by repeat (first | exact ResR.nil | apply ResR.tmp (a := .d _) rfl | apply ResR.tmp (a := .ptr _ _ _ _ _) rfl | apply ResR.tmp (a := .own _ _ _) rfl | apply ResR.tmp (a := .agg _) rfl | apply ResR.tmp (a := .ref _) rfl | apply ResR.tmp (a := .tup _) rfl | apply ResR.tmp (a := .fn _ _) rfl | apply ResR.tmp (a := .dead) rfl | apply ResR.cell1 rfl rfl rfl rfl (by first | rfl | (simp [Cells.len] <;> omega)) (by first | rfl | exact data_get (map_at (by assumption)) | exact data_get (by assumption) | exact data_get (List.getElem?_set_self (by simp; omega)) | exact data_get (List.getElem?_set_self (by simpa using hlt))) rfl | apply ResR.cellN rfl rfl rfl rfl (by first | rfl | (simp [Cells.len] <;> omega)) (by first | rfl | exact data_get (map_at (by assumption)) | exact data_get (by assumption) | exact data_get (List.getElem?_set_self (by simp; omega)) | exact data_get (List.getElem?_set_self (by simpa using hlt))) (by repeat (first | exact Seg.z _ | apply Seg.t | apply Seg.d)))) (by repeat (first | exact abv_nil _ | exact abv_lks rfl | refine abv_upd ?_ rfl)) rfl ?_
            first
              | exact retb (by rw [decide_eq_false]; intro e; subst e; omega)
              | exact retb (by rw [decide_eq_false]; intro e; subst e; rw [hs] at hu; injection hu with hu; subst hu; simp_all)
              | exact retb (by rw [decide_eq_true]; rw [List.take_of_length_le hge, List.take_of_length_le (by omega)] at he; exact he)
          · skip
            refine aw_skip ?_
            refine block_n ?_
            refine then_n ?_
            refine aw_region (is := [0, 1, 2]) rfl ?_
            refine rt_p rfl (want_none rfl) rfl (pu_move (r := .d _) rfl) ?_
            refine rt_p rfl (want_none rfl) rfl (pu_add rfl rfl (by omega) (by omega)) ?_
            refine rt_p rfl (want_none rfl) rfl (pu_assign (r := .d _) rfl) ?_
            refine rt_nil ?_
            refine then_n ?_
            refine ⟨⟨k + 1, by omega, by rw [List.take_add_one, List.take_add_one, he, hs, hu, show s = u by cases s; cases u; simp_all]⟩, (by simp; omega), ?_⟩
            (refine weak_of 200 (by repeat (first | exact abv_nil _ | exact abv_lks rfl | refine abv_upd ?_ rfl)) rfl (by repeat (first | exact WT.nil | refine WT.free_ rfl (by first | exact rfl | exact eqI (by omega) | exact eqI (by simp <;> fail) | exact eqI (by simp; omega) | exact eqOwn (by simp <;> fail) | exact eqOwn (by simp; omega) | (simp_all <;> fail)) ?_ | refine WT.ren_ (r' := _) rfl (by repeat (first | exact RenRL.nil | apply RenRL.cons | exact RenR.d _ | exact RenR.of_d (by first | exact rfl | exact eqI (by omega) | exact eqI (by simp <;> fail) | exact eqI (by simp; omega)) | apply RenR.agg | apply RenR.tup | exact RenR.own _ _ _ _ rfl | exact RenR.of_own (by first | rfl | (omega) | (simp <;> fail) | (simp; omega)) rfl | exact RenR.ptr _ _ _ _ _ _ rfl | exact RenR.ref _ | apply RenR.fn | exact RenR.dead)) ?_)) (by repeat (first | exact WH.nil _ | refine WH.data_ (by first | exact rfl | exact eqI (by omega) | exact eqI (by simp <;> fail) | exact eqI (by simp; omega) | exact eqOwn (by simp <;> fail) | exact eqOwn (by simp; omega) | (simp_all <;> fail)) ?_ | refine WH.cons (by first | exact rfl | exact eqI (by omega) | exact eqI (by simp <;> fail) | exact eqI (by simp; omega) | exact eqOwn (by simp <;> fail) | exact eqOwn (by simp; omega) | (simp_all <;> fail)) (by first | exact RenS.no | exact RenS.dead | exact RenS.data _ _ _ | (apply RenS.box; repeat (first | exact RenRL.nil | apply RenRL.cons | exact RenR.d _ | exact RenR.of_d (by first | exact rfl | exact eqI (by omega) | exact eqI (by simp <;> fail) | exact eqI (by simp; omega)) | apply RenR.agg | apply RenR.tup | exact RenR.own _ _ _ _ rfl | exact RenR.of_own (by first | rfl | (omega) | (simp <;> fail) | (simp; omega)) rfl | exact RenR.ptr _ _ _ _ _ _ rfl | exact RenR.ref _ | apply RenR.fn | exact RenR.dead)) | exact RenS.gen _) ?_)) rfl)
        · exfalso; simp at hc; omega
      · skip
        refine aw_seq ?_
        refine aw_seq ?_
        refine aw_region (is := [0, 1, 2, 3]) rfl ?_
        refine rt_p rfl (want_none rfl) rfl (pu_move (r := .d _) rfl) ?_
        refine rt_p rfl (want_none rfl) rfl (pu_move (r := .d _) rfl) ?_
        refine rt_p rfl (want_none rfl) rfl (pu_len_map tok rfl rfl rfl) ?_
        refine rt_p rfl (want_none rfl) rfl (pu_lss rfl rfl) ?_
        refine rt_nil ?_
        refine then_n ?_
        refine aw_condP _ rfl (fun hc => ?_) (fun hc => ?_)
        · exfalso; simp at hc; omega
        · skip
          refine aw_exit ?_
          refine then_e ?_
          refine then_e ?_
          refine block_hit ?_
          refine then_n ?_
          refine aw_seq ?_
          refine aw_region (is := [0]) rfl ?_
          refine rt_p rfl (want_none rfl) rfl (pu_assign (r := .d _) rfl) ?_
          refine rt_nil ?_
          refine then_n ?_
          refine aw_ret ?_
          refine ret0 (rs := [.tmp 4]) 200 rfl (by repeat (first | exact ResR.nil | apply ResR.tmp (a := .d _) rfl | apply ResR.tmp (a := .ptr _ _ _ _ _) rfl | apply ResR.tmp (a := .own _ _ _) rfl | apply ResR.tmp (a := .agg _) rfl | apply ResR.tmp (a := .ref _) rfl | apply ResR.tmp (a := .tup _) rfl | apply ResR.tmp (a := .fn _ _) rfl | apply ResR.tmp (a := .dead) rfl | apply ResR.cell1 rfl rfl rfl rfl (by first | rfl | (simp [Cells.len] <;> omega)) (by first | rfl | exact data_get (map_at (by assumption)) | exact data_get (by assumption) | exact data_get (List.getElem?_set_self (by simp; omega)) | exact data_get (List.getElem?_set_self (by simpa using hlt))) rfl | apply ResR.cellN rfl rfl rfl rfl (by first | rfl | (simp [Cells.len] <;> omega)) (by first | rfl | exact data_get (map_at (by assumption)) | exact data_get (by assumption) | exact data_get (List.getElem?_set_self (by simp; omega)) | exact data_get (List.getElem?_set_self (by simpa using hlt))) (by repeat (first | exact Seg.z _ | apply Seg.t | apply Seg.d)))) (by repeat (first | exact abv_nil _ | exact abv_lks rfl | refine abv_upd ?_ rfl)) rfl ?_
          first
            | exact retb (by rw [decide_eq_false]; intro e; subst e; omega)
            | exact retb (by rw [decide_eq_false]; intro e; subst e; rw [hs] at hu; injection hu with hu; subst hu; simp_all)
            | exact retb (by rw [decide_eq_true]; rw [List.take_of_length_le hge, List.take_of_length_le (by omega)] at he; exact he)
theorem eqDrawing_a (xs ys : List Shp) (hm : xs.length ≤ 9223372036854775807) (hm2 : ys.length ≤ 9223372036854775807) : FnC Try.prog 18 [] [.agg [.d (.sl (shpsD xs))], .agg [.d (.sl (shpsD ys))]] [] (.d (.v (.bool (decide (xs = ys))))) := by
  refine fnc_intro (T := tt) (N := 11) tok Try.func18 rfl rfl (by kernel_rfl) rfl rfl ?_
  refine aw_seq ?_
  refine aw_region (is := [0, 1, 2]) rfl ?_
  refine rt_s rfl (want_none rfl) rfl (st_box 3 (cs := _ :: _) rfl rfl rfl) ?_
  refine rt_s rfl (want_none rfl) rfl (st_box 4 (cs := _ :: _) rfl rfl rfl) ?_
  refine rt_p rfl (want_none rfl) rfl (pu_assign (r := .d _) rfl) ?_
  refine rt_nil ?_
  refine then_n ?_
  refine aw_seq ?_
  refine aw_seq ?_
  refine aw_region (is := [0, 1, 2, 3, 4, 5]) rfl ?_
  refine rt_l rfl (want_none rfl) rfl (li_fieldAddr tok rfl rfl rfl rfl rfl rfl rfl (by first | rfl | (simp [Cells.len] <;> omega)) (by first | rfl | exact data_get (map_at (by assumption)) | exact data_get (by assumption) | exact data_get (List.getElem?_set_self (by simp; omega)) | exact data_get (List.getElem?_set_self (by simpa using hlt)))) ?_
  refine rt_l rfl (want_none rfl) rfl (li_load1 tok rfl rfl rfl rfl (by first | rfl | (simp [Cells.len] <;> omega)) (by first | rfl | exact data_get (map_at (by assumption)) | exact data_get (by assumption) | exact data_get (List.getElem?_set_self (by simp; omega)) | exact data_get (List.getElem?_set_self (by simpa using hlt))) rfl) ?_
  refine rt_l rfl (want_none rfl) rfl (li_fieldAddr tok rfl rfl rfl rfl rfl rfl rfl (by first | rfl | (simp [Cells.len] <;> omega)) (by first | rfl | exact data_get (map_at (by assumption)) | exact data_get (by assumption) | exact data_get (List.getElem?_set_self (by simp; omega)) | exact data_get (List.getElem?_set_self (by simpa using hlt)))) ?_
  refine rt_l rfl (want_none rfl) rfl (li_load1 tok rfl rfl rfl rfl (by first | rfl | (simp [Cells.len] <;> omega)) (by first | rfl | exact data_get (map_at (by assumption)) | exact data_get (by assumption) | exact data_get (List.getElem?_set_self (by simp; omega)) | exact data_get (List.getElem?_set_self (by simpa using hlt))) rfl) ?_
  refine rt_s rfl (want_none rfl) rfl (st_call 5 rfl rfl rfl (eqShapeS_a xs ys hm hm2) (by repeat (first | exact abv_nil _ | exact abv_lks rfl | refine abv_upd ?_ rfl)) (by repeat (first | exact RenRL.nil | apply RenRL.cons | exact RenR.d _ | apply RenR.agg | apply RenR.tup | exact RenR.own _ _ _ _ rfl | exact RenR.ptr _ _ _ _ _ _ rfl | exact RenR.ref _ | apply RenR.fn | exact RenR.dead)) (by repeat (first | exact BirR.nil _ _ | (apply BirR.cons; (first | exact RenS.no | exact RenS.dead | exact RenS.data _ _ _ | (apply RenS.box; repeat (first | exact RenRL.nil | apply RenRL.cons | exact RenR.d _ | apply RenR.agg | apply RenR.tup | exact RenR.own _ _ _ _ rfl | exact RenR.ptr _ _ _ _ _ _ rfl | exact RenR.ref _ | apply RenR.fn | exact RenR.dead)) | exact RenS.gen _))))) ?_
  refine rt_p rfl (want_none rfl) rfl (pu_notP rfl) ?_
  refine rt_nil ?_
  refine then_n ?_
  refine aw_condP _ rfl (fun hc => ?_) (fun hc => ?_)
  · skip
    refine aw_seq ?_
    refine aw_region (is := [0]) rfl ?_
    refine rt_p rfl (want_none rfl) rfl (pu_assign (r := .d _) rfl) ?_
    refine rt_nil ?_
    refine then_n ?_
    refine aw_ret ?_
    refine then_r ?_
    refine ret0 (rs := [.tmp 4]) 200 rfl (by repeat (first | exact ResR.nil | apply ResR.tmp (a := .d _) rfl | apply ResR.tmp (a := .ptr _ _ _ _ _) rfl | apply ResR.tmp (a := .own _ _ _) rfl | apply ResR.tmp (a := .agg _) rfl | apply ResR.tmp (a := .ref _) rfl | apply ResR.tmp (a := .tup _) rfl | apply ResR.tmp (a := .fn _ _) rfl | apply ResR.tmp (a := .dead) rfl | apply ResR.cell1 rfl rfl rfl rfl (by first | rfl | (simp [Cells.len] <;> omega)) (by first | rfl | exact data_get (map_at (by assumption)) | exact data_get (by assumption) | exact data_get (List.getElem?_set_self (by simp; omega)) | exact data_get (List.getElem?_set_self (by simpa using hlt))) rfl | apply ResR.cellN rfl rfl rfl rfl (by first | rfl | (simp [Cells.len] <;> omega)) (by first | rfl | exact data_get (map_at (by assumption)) | exact data_get (by assumption) | exact data_get (List.getElem?_set_self (by simp; omega)) | exact data_get (List.getElem?_set_self (by simpa using hlt))) (by repeat (first | exact Seg.z _ | apply Seg.t | apply Seg.d)))) (by repeat (first | exact abv_nil _ | exact abv_lks rfl | refine abv_upd ?_ rfl)) rfl ?_
    exact retb (by simp_all)
  · skip
    refine aw_skip ?_
    refine then_n ?_
    refine aw_seq ?_
    refine aw_region (is := [0]) rfl ?_
    refine rt_p rfl (want_none rfl) rfl (pu_assign (r := .d _) rfl) ?_
    refine rt_nil ?_
    refine then_n ?_
    refine aw_ret ?_
    refine ret0 (rs := [.tmp 4]) 200 rfl (by repeat (first | exact ResR.nil | apply ResR.tmp (a := .d _) rfl | apply ResR.tmp (a := .ptr _ _ _ _ _) rfl | apply ResR.tmp (a := .own _ _ _) rfl | apply ResR.tmp (a := .agg _) rfl | apply ResR.tmp (a := .ref _) rfl | apply ResR.tmp (a := .tup _) rfl | apply ResR.tmp (a := .fn _ _) rfl | apply ResR.tmp (a := .dead) rfl | apply ResR.cell1 rfl rfl rfl rfl (by first | rfl | (simp [Cells.len] <;> omega)) (by first | rfl | exact data_get (map_at (by assumption)) | exact data_get (by assumption) | exact data_get (List.getElem?_set_self (by simp; omega)) | exact data_get (List.getElem?_set_self (by simpa using hlt))) rfl | apply ResR.cellN rfl rfl rfl rfl (by first | rfl | (simp [Cells.len] <;> omega)) (by first | rfl | exact data_get (map_at (by assumption)) | exact data_get (by assumption) | exact data_get (List.getElem?_set_self (by simp; omega)) | exact data_get (List.getElem?_set_self (by simpa using hlt))) (by repeat (first | exact Seg.z _ | apply Seg.t | apply Seg.d)))) (by repeat (first | exact abv_nil _ | exact abv_lks rfl | refine abv_upd ?_ rfl)) rfl ?_
    exact retb (by simp_all)
def mkShp (k : Nat) : Shp := ⟨k, k + 1, k + 2, k + 3, k + 4, k + 5, mkText (k + 6)⟩
def mkShps (k n : Nat) : List Shp := (List.range n).map fun j => mkShp (k + 7 * j)
theorem mkShps_len (k n : Nat) : (mkShps k n).length = n := by simp [mkShps]
theorem mkShps_succ (k n : Nat) : mkShps k (n + 1) = mkShps k n ++ [mkShp (k + 7 * n)] := by simp [mkShps, List.range_succ]
theorem mkShps_get {k n j : Nat} (h : j < n) : (mkShps k n)[j]? = some (mkShp (k + 7 * j)) := by simp [mkShps, h]
def partS (xs : List Shp) (k j : Nat) : List (List DV) := shpsD (mkShps k j ++ xs.drop j)
theorem partS_len {xs : List Shp} {k j : Nat} (h : j ≤ xs.length) : (partS xs k j).length = xs.length := by simp [partS, mkShps_len]; omega
theorem partS_get {xs : List Shp} {k j : Nat} {s : Shp} (h : xs[j]? = some s) : (partS xs k j)[j]? = some (shpD s) := by
  unfold partS
  refine map_at ?_
  rw [List.getElem?_append_right (by rw [mkShps_len]; exact Nat.le_refl _), mkShps_len, Nat.sub_self, List.getElem?_drop, Nat.add_zero]
  exact h
theorem partS_set {xs : List Shp} {k j : Nat} (h : j < xs.length) : (partS xs k j).set j (shpD (mkShp (k + 7 * j))) = partS xs k (j + 1) := by
  unfold partS shpsD
  rw [← List.map_set, List.set_append_right _ _ (by rw [mkShps_len]; exact Nat.le_refl _), mkShps_len, Nat.sub_self, List.drop_eq_getElem_cons h, List.set_cons_zero, mkShps_succ]
  simp
theorem markText_a (k : Nat) (h0 : 0 < k) (h1 : k ≤ 1000000000000) : FnC Try.prog 100 [] [.d (.v (.int .i64 k))] [] (.d (.v (.string (mkText k)))) :=
  fnc_of (vs := [.int .i64 k]) (v := .string (mkText k)) (by kernel_rfl) rfl fun W => markText_c k W h0 h1
theorem markShapeS_a (xs : List Shp) (k : Nat) (h0 : 0 < k) (h1 : k ≤ 1000000) (hm : xs.length ≤ 1048576) : FnC Try.prog 59 [.live [⟨80, 7, .data (shpsD xs)⟩]] [.own 0 0 xs.length, .d (.v (.int .i64 ((k : Int))))] [.live [⟨80, 7, .data (shpsD (mkShps k xs.length))⟩]] (.d (.v (.int .i64 ((k : Int) + 7 * (xs.length : Int))))) := by
  refine fnc_intro (T := tt) (N := 67) tok Try.func59 rfl rfl (by kernel_rfl) rfl rfl ?_
  refine aw_seq ?_
  refine aw_region (is := [0]) rfl ?_
  refine rt_p rfl (want_none rfl) rfl (pu_assign (r := .d _) rfl) ?_
  refine rt_nil ?_
  refine then_n ?_
  refine aw_seq ?_
  refine aw_seq ?_
  refine aw_region (is := [0]) rfl ?_
  refine rt_p rfl (want_none rfl) rfl (pu_assign (r := .d _) rfl) ?_
  refine rt_nil ?_
  refine then_n ?_
  refine aw_block ?_
  refine aw_loop (ι := {j : Nat // j ≤ xs.length}) (fun p => ⟨updA (updA (updA (updA ((fun _ => .dead)) 0 (.own 0 0 xs.length)) 1 (.d (.v (.int .i64 ((k : Int) + 7 * (p.1 : Int)))))) 4 (.d (.v (.int .i64 0)))) 5 (.d (.v (.int .i64 (p.1)))), lks [.live [⟨80, 7, .data (partS xs k p.1)⟩], .no, .no]⟩) (fun p => xs.length - p.1) ⟨0, by omega⟩ ?_ ?_
  · (refine weak_of 200 (by repeat (first | exact abv_nil _ | exact abv_lks rfl | refine abv_upd ?_ rfl)) rfl (by repeat (first | exact WT.nil | refine WT.free_ rfl (by first | exact rfl | (exact eqData (by simp [partS, mkShps])) | exact eqI (by omega) | exact eqI (by simp <;> fail) | exact eqI (by simp; omega) | exact eqOwn (by simp <;> fail) | exact eqOwn (by simp; omega) | (simp_all <;> fail)) ?_ | refine WT.ren_ (r' := _) rfl (by repeat (first | exact RenRL.nil | apply RenRL.cons | exact RenR.d _ | exact RenR.of_d (by first | (exact eqData (by simp [partS, mkShps])) | exact eqI (by omega) | exact eqI (by simp <;> fail) | exact eqI (by simp; omega)) | apply RenR.agg | apply RenR.tup | exact RenR.own _ _ _ _ rfl | exact RenR.of_own (by first | rfl | (omega) | (simp <;> fail) | (simp; omega)) rfl | exact RenR.ptr _ _ _ _ _ _ rfl | exact RenR.ref _ | apply RenR.fn | exact RenR.dead)) ?_)) (by repeat (first | exact WH.nil _ | refine WH.data_ (by first | exact rfl | (exact eqData (by simp [partS, mkShps])) | exact eqI (by omega) | exact eqI (by simp <;> fail) | exact eqI (by simp; omega) | exact eqOwn (by simp <;> fail) | exact eqOwn (by simp; omega) | (simp_all <;> fail)) ?_ | refine WH.cons (by first | exact rfl | (exact eqData (by simp [partS, mkShps])) | exact eqI (by omega) | exact eqI (by simp <;> fail) | exact eqI (by simp; omega) | exact eqOwn (by simp <;> fail) | exact eqOwn (by simp; omega) | (simp_all <;> fail)) (by first | exact RenS.no | exact RenS.dead | exact RenS.data _ _ _ | (apply RenS.box; repeat (first | exact RenRL.nil | apply RenRL.cons | exact RenR.d _ | exact RenR.of_d (by first | (exact eqData (by simp [partS, mkShps])) | exact eqI (by omega) | exact eqI (by simp <;> fail) | exact eqI (by simp; omega)) | apply RenR.agg | apply RenR.tup | exact RenR.own _ _ _ _ rfl | exact RenR.of_own (by first | rfl | (omega) | (simp <;> fail) | (simp; omega)) rfl | exact RenR.ptr _ _ _ _ _ _ rfl | exact RenR.ref _ | apply RenR.fn | exact RenR.dead)) | exact RenS.gen _) ?_)) rfl)
  · rintro ⟨j, hj⟩
    have hpl := partS_len (k := k) hj
    rcases Nat.lt_or_ge j xs.length with hlt | hge
    · skip
      obtain ⟨s, hs⟩ : ∃ s, xs[j]? = some s := ⟨_, List.getElem?_eq_getElem hlt⟩
      refine aw_seq ?_
      refine aw_seq ?_
      refine aw_region (is := [0, 1, 2, 3]) rfl ?_
      refine rt_p rfl (want_none rfl) rfl (pu_move (r := .d _) rfl) ?_
      refine rt_p rfl (want_none rfl) rfl (pu_move (r := .own _ _ _) rfl) ?_
      refine rt_l rfl (want_none rfl) rfl (li_len tok rfl rfl rfl rfl (by first | rfl | (simp [Cells.len] <;> omega))) ?_
      refine rt_p rfl (want_none rfl) rfl (pu_lss rfl rfl) ?_
      refine rt_nil ?_
      refine then_n ?_
      refine aw_condP _ rfl (fun hc => ?_) (fun hc => ?_)
      · skip
        refine aw_skip ?_
        refine then_n ?_
        refine aw_seq ?_
        refine aw_block ?_
        refine aw_seq ?_
        refine aw_region (is := [0, 1, 2, 3, 4, 5]) rfl ?_
        refine rt_p rfl (want_none rfl) rfl (pu_move (r := .own _ _ _) rfl) ?_
        refine rt_p rfl (want_none rfl) rfl (pu_move (r := .d _) rfl) ?_
        refine rt_p rfl (want_none rfl) rfl (pu_move (r := .d _) rfl) ?_
        refine rt_l rfl (want_none rfl) rfl (li_index tok rfl rfl (by first | rfl | omega) (by first | omega) rfl rfl rfl rfl (by first | rfl | (simp [Cells.len] <;> omega)) rfl) ?_
        refine rt_l rfl (want_none rfl) rfl (li_fieldAddr tok rfl rfl rfl rfl rfl rfl rfl (by first | rfl | (simp [Cells.len] <;> omega)) (by first | rfl | exact data_get (map_at (by assumption)) | exact data_get (by assumption) | exact data_get (List.getElem?_set_self (by simp; omega)) | exact data_get (List.getElem?_set_self (by simpa using hlt)) | (exact data_get (partS_get hs)))) ?_
        refine rt_w0 rfl (want_none rfl) (wr_store (cs := [.d _]) tok rfl rfl rfl rfl rfl rfl rfl rfl (by first | rfl | (simp [Cells.len] <;> omega)) (by first | rfl | exact data_get (map_at (by assumption)) | exact data_get (by assumption) | exact data_get (List.getElem?_set_self (by simp; omega)) | exact data_get (List.getElem?_set_self (by simpa using hlt)) | (exact data_get (partS_get hs))) (by repeat (first | exact Spl.z _ | apply Spl.t | apply Spl.d)) (by first | exact SetC.box _ _ | exact SetC.data _ _ (by repeat (first | exact AllD.nil | apply AllD.cons)) | exact SetC.av _ _ _) (by first | exact SetO.one _ _ | exact SetO.gen _ _ _)) ?_
        refine rt_nil ?_
        refine then_n ?_
        refine aw_seq ?_
        refine aw_region (is := [0, 1, 2]) rfl ?_
        refine rt_p rfl (want_none rfl) rfl (pu_move (r := .d _) rfl) ?_
        refine rt_p rfl (want_none rfl) rfl (pu_add rfl rfl (by omega) (by omega)) ?_
        refine rt_p rfl (want_none rfl) rfl (pu_assign (r := .d _) rfl) ?_
        refine rt_nil ?_
        refine then_n ?_
        refine aw_seq ?_
        refine aw_region (is := [0, 1, 2, 3, 4, 5, 6]) rfl ?_
        refine rt_p rfl (want_none rfl) rfl (pu_move (r := .own _ _ _) rfl) ?_
        refine rt_p rfl (want_none rfl) rfl (pu_move (r := .d _) rfl) ?_
        refine rt_p rfl (want_none rfl) rfl (pu_move (r := .d _) rfl) ?_
        refine rt_l rfl (want_none rfl) rfl (li_index tok rfl rfl (by first | rfl | omega) (by first | omega) rfl rfl rfl rfl (by first | rfl | (simp [Cells.len] <;> omega)) rfl) ?_
        refine rt_l rfl (want_none rfl) rfl (li_fieldAddr tok rfl rfl rfl rfl rfl rfl rfl (by first | rfl | (simp [Cells.len] <;> omega)) (by first | rfl | exact data_get (map_at (by assumption)) | exact data_get (by assumption) | exact data_get (List.getElem?_set_self (by simp; omega)) | exact data_get (List.getElem?_set_self (by simpa using hlt)) | (exact data_get (partS_get hs)))) ?_
        refine rt_l rfl (want_none rfl) rfl (li_fieldAddr tok rfl rfl rfl rfl rfl rfl rfl (by first | rfl | (simp [Cells.len] <;> omega)) (by first | rfl | exact data_get (map_at (by assumption)) | exact data_get (by assumption) | exact data_get (List.getElem?_set_self (by simp; omega)) | exact data_get (List.getElem?_set_self (by simpa using hlt)) | (exact data_get (partS_get hs)))) ?_
        refine rt_w0 rfl (want_none rfl) (wr_store (cs := [.d _]) tok rfl rfl rfl rfl rfl rfl rfl rfl (by first | rfl | (simp [Cells.len] <;> omega)) (by first | rfl | exact data_get (map_at (by assumption)) | exact data_get (by assumption) | exact data_get (List.getElem?_set_self (by simp; omega)) | exact data_get (List.getElem?_set_self (by simpa using hlt)) | (exact data_get (partS_get hs))) (by repeat (first | exact Spl.z _ | apply Spl.t | apply Spl.d)) (by first | exact SetC.box _ _ | exact SetC.data _ _ (by repeat (first | exact AllD.nil | apply AllD.cons)) | exact SetC.av _ _ _) (by first | exact SetO.one _ _ | exact SetO.gen _ _ _)) ?_
        refine rt_nil ?_
        refine then_n ?_
        refine aw_seq ?_
        refine aw_region (is := [0, 1, 2]) rfl ?_
        refine rt_p rfl (want_none rfl) rfl (pu_move (r := .d _) rfl) ?_
        refine rt_p rfl (want_none rfl) rfl (pu_add rfl rfl (by omega) (by omega)) ?_
        refine rt_p rfl (want_none rfl) rfl (pu_assign (r := .d _) rfl) ?_
        refine rt_nil ?_
        refine then_n ?_
        refine aw_seq ?_
        refine aw_region (is := [0, 1, 2, 3, 4, 5, 6]) rfl ?_
        refine rt_p rfl (want_none rfl) rfl (pu_move (r := .own _ _ _) rfl) ?_
        refine rt_p rfl (want_none rfl) rfl (pu_move (r := .d _) rfl) ?_
        refine rt_p rfl (want_none rfl) rfl (pu_move (r := .d _) rfl) ?_
        refine rt_l rfl (want_none rfl) rfl (li_index tok rfl rfl (by first | rfl | omega) (by first | omega) rfl rfl rfl rfl (by first | rfl | (simp [Cells.len] <;> omega)) rfl) ?_
        refine rt_l rfl (want_none rfl) rfl (li_fieldAddr tok rfl rfl rfl rfl rfl rfl rfl (by first | rfl | (simp [Cells.len] <;> omega)) (by first | rfl | exact data_get (map_at (by assumption)) | exact data_get (by assumption) | exact data_get (List.getElem?_set_self (by simp; omega)) | exact data_get (List.getElem?_set_self (by simpa using hlt)) | (exact data_get (partS_get hs)))) ?_
        refine rt_l rfl (want_none rfl) rfl (li_fieldAddr tok rfl rfl rfl rfl rfl rfl rfl (by first | rfl | (simp [Cells.len] <;> omega)) (by first | rfl | exact data_get (map_at (by assumption)) | exact data_get (by assumption) | exact data_get (List.getElem?_set_self (by simp; omega)) | exact data_get (List.getElem?_set_self (by simpa using hlt)) | (exact data_get (partS_get hs)))) ?_
        refine rt_w0 rfl (want_none rfl) (wr_store (cs := [.d _]) tok rfl rfl rfl rfl rfl rfl rfl rfl (by first | rfl | (simp [Cells.len] <;> omega)) (by first | rfl | exact data_get (map_at (by assumption)) | exact data_get (by assumption) | exact data_get (List.getElem?_set_self (by simp; omega)) | exact data_get (List.getElem?_set_self (by simpa using hlt)) | (exact data_get (partS_get hs))) (by repeat (first | exact Spl.z _ | apply Spl.t | apply Spl.d)) (by first | exact SetC.box _ _ | exact SetC.data _ _ (by repeat (first | exact AllD.nil | apply AllD.cons)) | exact SetC.av _ _ _) (by first | exact SetO.one _ _ | exact SetO.gen _ _ _)) ?_
        refine rt_nil ?_
        refine then_n ?_
        refine aw_seq ?_
        refine aw_region (is := [0, 1, 2]) rfl ?_
        refine rt_p rfl (want_none rfl) rfl (pu_move (r := .d _) rfl) ?_
        refine rt_p rfl (want_none rfl) rfl (pu_add rfl rfl (by omega) (by omega)) ?_
        refine rt_p rfl (want_none rfl) rfl (pu_assign (r := .d _) rfl) ?_
        refine rt_nil ?_
        refine then_n ?_
        refine aw_seq ?_
        refine aw_region (is := [0, 1, 2, 3, 4, 5, 6]) rfl ?_
        refine rt_p rfl (want_none rfl) rfl (pu_move (r := .own _ _ _) rfl) ?_
        refine rt_p rfl (want_none rfl) rfl (pu_move (r := .d _) rfl) ?_
        refine rt_p rfl (want_none rfl) rfl (pu_move (r := .d _) rfl) ?_
        refine rt_l rfl (want_none rfl) rfl (li_index tok rfl rfl (by first | rfl | omega) (by first | omega) rfl rfl rfl rfl (by first | rfl | (simp [Cells.len] <;> omega)) rfl) ?_
        refine rt_l rfl (want_none rfl) rfl (li_fieldAddr tok rfl rfl rfl rfl rfl rfl rfl (by first | rfl | (simp [Cells.len] <;> omega)) (by first | rfl | exact data_get (map_at (by assumption)) | exact data_get (by assumption) | exact data_get (List.getElem?_set_self (by simp; omega)) | exact data_get (List.getElem?_set_self (by simpa using hlt)) | (exact data_get (partS_get hs)))) ?_
        refine rt_l rfl (want_none rfl) rfl (li_fieldAddr tok rfl rfl rfl rfl rfl rfl rfl (by first | rfl | (simp [Cells.len] <;> omega)) (by first | rfl | exact data_get (map_at (by assumption)) | exact data_get (by assumption) | exact data_get (List.getElem?_set_self (by simp; omega)) | exact data_get (List.getElem?_set_self (by simpa using hlt)) | (exact data_get (partS_get hs)))) ?_
        refine rt_w0 rfl (want_none rfl) (wr_store (cs := [.d _]) tok rfl rfl rfl rfl rfl rfl rfl rfl (by first | rfl | (simp [Cells.len] <;> omega)) (by first | rfl | exact data_get (map_at (by assumption)) | exact data_get (by assumption) | exact data_get (List.getElem?_set_self (by simp; omega)) | exact data_get (List.getElem?_set_self (by simpa using hlt)) | (exact data_get (partS_get hs))) (by repeat (first | exact Spl.z _ | apply Spl.t | apply Spl.d)) (by first | exact SetC.box _ _ | exact SetC.data _ _ (by repeat (first | exact AllD.nil | apply AllD.cons)) | exact SetC.av _ _ _) (by first | exact SetO.one _ _ | exact SetO.gen _ _ _)) ?_
        refine rt_nil ?_
        refine then_n ?_
        refine aw_seq ?_
        refine aw_region (is := [0, 1, 2]) rfl ?_
        refine rt_p rfl (want_none rfl) rfl (pu_move (r := .d _) rfl) ?_
        refine rt_p rfl (want_none rfl) rfl (pu_add rfl rfl (by omega) (by omega)) ?_
        refine rt_p rfl (want_none rfl) rfl (pu_assign (r := .d _) rfl) ?_
        refine rt_nil ?_
        refine then_n ?_
        refine aw_seq ?_
        refine aw_region (is := [0, 1, 2, 3, 4, 5, 6]) rfl ?_
        refine rt_p rfl (want_none rfl) rfl (pu_move (r := .own _ _ _) rfl) ?_
        refine rt_p rfl (want_none rfl) rfl (pu_move (r := .d _) rfl) ?_
        refine rt_p rfl (want_none rfl) rfl (pu_move (r := .d _) rfl) ?_
        refine rt_l rfl (want_none rfl) rfl (li_index tok rfl rfl (by first | rfl | omega) (by first | omega) rfl rfl rfl rfl (by first | rfl | (simp [Cells.len] <;> omega)) rfl) ?_
        refine rt_l rfl (want_none rfl) rfl (li_fieldAddr tok rfl rfl rfl rfl rfl rfl rfl (by first | rfl | (simp [Cells.len] <;> omega)) (by first | rfl | exact data_get (map_at (by assumption)) | exact data_get (by assumption) | exact data_get (List.getElem?_set_self (by simp; omega)) | exact data_get (List.getElem?_set_self (by simpa using hlt)) | (exact data_get (partS_get hs)))) ?_
        refine rt_l rfl (want_none rfl) rfl (li_fieldAddr tok rfl rfl rfl rfl rfl rfl rfl (by first | rfl | (simp [Cells.len] <;> omega)) (by first | rfl | exact data_get (map_at (by assumption)) | exact data_get (by assumption) | exact data_get (List.getElem?_set_self (by simp; omega)) | exact data_get (List.getElem?_set_self (by simpa using hlt)) | (exact data_get (partS_get hs)))) ?_
        refine rt_w0 rfl (want_none rfl) (wr_store (cs := [.d _]) tok rfl rfl rfl rfl rfl rfl rfl rfl (by first | rfl | (simp [Cells.len] <;> omega)) (by first | rfl | exact data_get (map_at (by assumption)) | exact data_get (by assumption) | exact data_get (List.getElem?_set_self (by simp; omega)) | exact data_get (List.getElem?_set_self (by simpa using hlt)) | (exact data_get (partS_get hs))) (by repeat (first | exact Spl.z _ | apply Spl.t | apply Spl.d)) (by first | exact SetC.box _ _ | exact SetC.data _ _ (by repeat (first | exact AllD.nil | apply AllD.cons)) | exact SetC.av _ _ _) (by first | exact SetO.one _ _ | exact SetO.gen _ _ _)) ?_
        refine rt_nil ?_
        refine then_n ?_
        refine aw_seq ?_
        refine aw_region (is := [0, 1, 2]) rfl ?_
        refine rt_p rfl (want_none rfl) rfl (pu_move (r := .d _) rfl) ?_
        refine rt_p rfl (want_none rfl) rfl (pu_add rfl rfl (by omega) (by omega)) ?_
        refine rt_p rfl (want_none rfl) rfl (pu_assign (r := .d _) rfl) ?_
        refine rt_nil ?_
        refine then_n ?_
        refine aw_seq ?_
        refine aw_region (is := [0, 1, 2, 3, 4, 5]) rfl ?_
        refine rt_p rfl (want_none rfl) rfl (pu_move (r := .own _ _ _) rfl) ?_
        refine rt_p rfl (want_none rfl) rfl (pu_move (r := .d _) rfl) ?_
        refine rt_p rfl (want_none rfl) rfl (pu_move (r := .d _) rfl) ?_
        refine rt_l rfl (want_none rfl) rfl (li_index tok rfl rfl (by first | rfl | omega) (by first | omega) rfl rfl rfl rfl (by first | rfl | (simp [Cells.len] <;> omega)) rfl) ?_
        refine rt_l rfl (want_none rfl) rfl (li_fieldAddr tok rfl rfl rfl rfl rfl rfl rfl (by first | rfl | (simp [Cells.len] <;> omega)) (by first | rfl | exact data_get (map_at (by assumption)) | exact data_get (by assumption) | exact data_get (List.getElem?_set_self (by simp; omega)) | exact data_get (List.getElem?_set_self (by simpa using hlt)) | (exact data_get (partS_get hs)))) ?_
        refine rt_w0 rfl (want_none rfl) (wr_store (cs := [.d _]) tok rfl rfl rfl rfl rfl rfl rfl rfl (by first | rfl | (simp [Cells.len] <;> omega)) (by first | rfl | exact data_get (map_at (by assumption)) | exact data_get (by assumption) | exact data_get (List.getElem?_set_self (by simp; omega)) | exact data_get (List.getElem?_set_self (by simpa using hlt)) | (exact data_get (partS_get hs))) (by repeat (first | exact Spl.z _ | apply Spl.t | apply Spl.d)) (by first | exact SetC.box _ _ | exact SetC.data _ _ (by repeat (first | exact AllD.nil | apply AllD.cons)) | exact SetC.av _ _ _) (by first | exact SetO.one _ _ | exact SetO.gen _ _ _)) ?_
        refine rt_nil ?_
        refine then_n ?_
        refine aw_seq ?_
        refine aw_region (is := [0, 1, 2]) rfl ?_
        refine rt_p rfl (want_none rfl) rfl (pu_move (r := .d _) rfl) ?_
        refine rt_p rfl (want_none rfl) rfl (pu_add rfl rfl (by omega) (by omega)) ?_
        refine rt_p rfl (want_none rfl) rfl (pu_assign (r := .d _) rfl) ?_
        refine rt_nil ?_
        refine then_n ?_
        refine aw_seq ?_
        refine aw_region (is := [0, 1, 2, 3, 4, 5, 6]) rfl ?_
        refine rt_p rfl (want_none rfl) rfl (pu_move (r := .own _ _ _) rfl) ?_
        refine rt_p rfl (want_none rfl) rfl (pu_move (r := .d _) rfl) ?_
        refine rt_p rfl (want_none rfl) rfl (pu_move (r := .d _) rfl) ?_
        refine rt_s rfl (want_none rfl) rfl (st_call 3 rfl rfl rfl (markText_a (k + 7 * j + 6) (by omega) (by omega)) (by repeat (first | exact abv_nil _ | exact abv_lks rfl | refine abv_upd ?_ rfl)) (by repeat (first | exact RenRL.nil | apply RenRL.cons | exact RenR.d _ | apply RenR.agg | apply RenR.tup | exact RenR.own _ _ _ _ rfl | exact RenR.ptr _ _ _ _ _ _ rfl | exact RenR.ref _ | apply RenR.fn | exact RenR.dead)) (by repeat (first | exact BirR.nil _ _ | (apply BirR.cons; (first | exact RenS.no | exact RenS.dead | exact RenS.data _ _ _ | (apply RenS.box; repeat (first | exact RenRL.nil | apply RenRL.cons | exact RenR.d _ | apply RenR.agg | apply RenR.tup | exact RenR.own _ _ _ _ rfl | exact RenR.ptr _ _ _ _ _ _ rfl | exact RenR.ref _ | apply RenR.fn | exact RenR.dead)) | exact RenS.gen _))))) ?_
        refine rt_l rfl (want_none rfl) rfl (li_index tok rfl rfl (by first | rfl | omega) (by first | omega) rfl rfl rfl rfl (by first | rfl | (simp [Cells.len] <;> omega)) rfl) ?_
        refine rt_l rfl (want_none rfl) rfl (li_fieldAddr tok rfl rfl rfl rfl rfl rfl rfl (by first | rfl | (simp [Cells.len] <;> omega)) (by first | rfl | exact data_get (map_at (by assumption)) | exact data_get (by assumption) | exact data_get (List.getElem?_set_self (by simp; omega)) | exact data_get (List.getElem?_set_self (by simpa using hlt)) | (exact data_get (partS_get hs)))) ?_
        refine rt_w0 rfl (want_none rfl) (wr_store (cs := [.d _]) tok rfl rfl rfl rfl rfl rfl rfl rfl (by first | rfl | (simp [Cells.len] <;> omega)) (by first | rfl | exact data_get (map_at (by assumption)) | exact data_get (by assumption) | exact data_get (List.getElem?_set_self (by simp; omega)) | exact data_get (List.getElem?_set_self (by simpa using hlt)) | (exact data_get (partS_get hs))) (by repeat (first | exact Spl.z _ | apply Spl.t | apply Spl.d)) (by first | exact SetC.box _ _ | exact SetC.data _ _ (by repeat (first | exact AllD.nil | apply AllD.cons)) | exact SetC.av _ _ _) (by first | exact SetO.one _ _ | exact SetO.gen _ _ _)) ?_
        refine rt_nil ?_
        refine then_n ?_
        refine aw_region (is := [0, 1, 2]) rfl ?_
        refine rt_p rfl (want_none rfl) rfl (pu_move (r := .d _) rfl) ?_
        refine rt_p rfl (want_none rfl) rfl (pu_add rfl rfl (by omega) (by omega)) ?_
        refine rt_p rfl (want_none rfl) rfl (pu_assign (r := .d _) rfl) ?_
        refine rt_nil ?_
        refine block_n ?_
        refine then_n ?_
        refine aw_region (is := [0, 1, 2]) rfl ?_
        refine rt_p rfl (want_none rfl) rfl (pu_move (r := .d _) rfl) ?_
        refine rt_p rfl (want_none rfl) rfl (pu_add rfl rfl (by omega) (by omega)) ?_
        refine rt_p rfl (want_none rfl) rfl (pu_assign (r := .d _) rfl) ?_
        refine rt_nil ?_
        refine then_n ?_
        refine ⟨⟨j + 1, by omega⟩, (by simp; omega), ?_⟩
        (refine weak_of 200 (by repeat (first | exact abv_nil _ | exact abv_lks rfl | refine abv_upd ?_ rfl)) rfl (by repeat (first | exact WT.nil | refine WT.free_ rfl (by first | exact rfl | (exact eqData (by simp only [List.set_set]; rw [← partS_set hlt]; congr 1)) | (exact eqI (by push_cast; omega)) | exact eqI (by omega) | exact eqI (by simp <;> fail) | exact eqI (by simp; omega) | exact eqOwn (by simp <;> fail) | exact eqOwn (by simp; omega) | (simp_all <;> fail)) ?_ | refine WT.ren_ (r' := _) rfl (by repeat (first | exact RenRL.nil | apply RenRL.cons | exact RenR.d _ | exact RenR.of_d (by first | (exact eqData (by simp only [List.set_set]; rw [← partS_set hlt]; congr 1)) | (exact eqI (by push_cast; omega)) | exact eqI (by omega) | exact eqI (by simp <;> fail) | exact eqI (by simp; omega)) | apply RenR.agg | apply RenR.tup | exact RenR.own _ _ _ _ rfl | exact RenR.of_own (by first | rfl | (omega) | (simp <;> fail) | (simp; omega)) rfl | exact RenR.ptr _ _ _ _ _ _ rfl | exact RenR.ref _ | apply RenR.fn | exact RenR.dead)) ?_)) (by repeat (first | exact WH.nil _ | refine WH.data_ (by first | exact rfl | (exact eqData (by simp only [List.set_set]; rw [← partS_set hlt]; congr 1)) | (exact eqI (by push_cast; omega)) | exact eqI (by omega) | exact eqI (by simp <;> fail) | exact eqI (by simp; omega) | exact eqOwn (by simp <;> fail) | exact eqOwn (by simp; omega) | (simp_all <;> fail)) ?_ | refine WH.cons (by first | exact rfl | (exact eqData (by simp only [List.set_set]; rw [← partS_set hlt]; congr 1)) | (exact eqI (by push_cast; omega)) | exact eqI (by omega) | exact eqI (by simp <;> fail) | exact eqI (by simp; omega) | exact eqOwn (by simp <;> fail) | exact eqOwn (by simp; omega) | (simp_all <;> fail)) (by first | exact RenS.no | exact RenS.dead | exact RenS.data _ _ _ | (apply RenS.box; repeat (first | exact RenRL.nil | apply RenRL.cons | exact RenR.d _ | exact RenR.of_d (by first | (exact eqData (by simp only [List.set_set]; rw [← partS_set hlt]; congr 1)) | (exact eqI (by push_cast; omega)) | exact eqI (by omega) | exact eqI (by simp <;> fail) | exact eqI (by simp; omega)) | apply RenR.agg | apply RenR.tup | exact RenR.own _ _ _ _ rfl | exact RenR.of_own (by first | rfl | (omega) | (simp <;> fail) | (simp; omega)) rfl | exact RenR.ptr _ _ _ _ _ _ rfl | exact RenR.ref _ | apply RenR.fn | exact RenR.dead)) | exact RenS.gen _) ?_)) rfl)
      · exfalso; simp at hc; omega
    · skip
      refine aw_seq ?_
      refine aw_seq ?_
      refine aw_region (is := [0, 1, 2, 3]) rfl ?_
      refine rt_p rfl (want_none rfl) rfl (pu_move (r := .d _) rfl) ?_
      refine rt_p rfl (want_none rfl) rfl (pu_move (r := .own _ _ _) rfl) ?_
      refine rt_l rfl (want_none rfl) rfl (li_len tok rfl rfl rfl rfl (by first | rfl | (simp [Cells.len] <;> omega))) ?_
      refine rt_p rfl (want_none rfl) rfl (pu_lss rfl rfl) ?_
      refine rt_nil ?_
      refine then_n ?_
      refine aw_condP _ rfl (fun hc => ?_) (fun hc => ?_)
      · exfalso; simp at hc; omega
      · skip
        refine aw_exit ?_
        refine then_e ?_
        refine then_e ?_
        refine block_hit ?_
        refine then_n ?_
        refine aw_seq ?_
        refine aw_region (is := [0, 1]) rfl ?_
        refine rt_p rfl (want_none rfl) rfl (pu_move (r := .d _) rfl) ?_
        refine rt_p rfl (want_none rfl) rfl (pu_assign (r := .d _) rfl) ?_
        refine rt_nil ?_
        refine then_n ?_
        refine aw_ret ?_
        obtain rfl : j = xs.length := by omega
        refine retP (rs := [.tmp 4]) 1 200 rfl rfl (by repeat (first | exact ResR.nil | apply ResR.tmp (a := .d _) rfl | apply ResR.tmp (a := .ptr _ _ _ _ _) rfl | apply ResR.tmp (a := .own _ _ _) rfl | apply ResR.tmp (a := .agg _) rfl | apply ResR.tmp (a := .ref _) rfl | apply ResR.tmp (a := .tup _) rfl | apply ResR.tmp (a := .fn _ _) rfl | apply ResR.tmp (a := .dead) rfl | apply ResR.cell1 rfl rfl rfl rfl (by first | rfl | (simp [Cells.len] <;> omega)) (by first | rfl | exact data_get (map_at (by assumption)) | exact data_get (by assumption) | exact data_get (List.getElem?_set_self (by simp; omega)) | exact data_get (List.getElem?_set_self (by simpa using hlt))) rfl | apply ResR.cellN rfl rfl rfl rfl (by first | rfl | (simp [Cells.len] <;> omega)) (by first | rfl | exact data_get (map_at (by assumption)) | exact data_get (by assumption) | exact data_get (List.getElem?_set_self (by simp; omega)) | exact data_get (List.getElem?_set_self (by simpa using hlt))) (by repeat (first | exact Seg.z _ | apply Seg.t | apply Seg.d)))) (by repeat (first | exact abv_nil _ | exact abv_lks rfl | refine abv_upd ?_ rfl)) rfl (by repeat (first | exact AtK.nil | refine AtK.data_ (by first | exact rfl | (exact eqData (by simp [partS]))) ?_ | (apply AtK.cons rfl; (first | exact RenS.no | exact RenS.dead | exact RenS.data _ _ _ | (apply RenS.box; repeat (first | exact RenRL.nil | apply RenRL.cons | exact RenR.d _ | apply RenR.agg | apply RenR.tup | exact RenR.own _ _ _ _ rfl | exact RenR.ptr _ _ _ _ _ _ rfl | exact RenR.ref _ | apply RenR.fn | exact RenR.dead)) | exact RenS.gen _)))) ?_
        rfl
end Go.Proofs.Ytplnohfjeilodaa
