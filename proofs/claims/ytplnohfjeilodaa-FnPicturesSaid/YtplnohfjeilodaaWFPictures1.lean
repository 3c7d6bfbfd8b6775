/- walks -/
import Derived.Test.YtplnohfjeilodaaXM
import Derived.Test.YtplnohfjeilodaaTab
import Derived.Test.YtplnohfjeilodaaProg
namespace Go.Proofs.Ytplnohfjeilodaa
open Go.RowKit
set_option linter.unusedVariables false
set_option maxRecDepth 100000
set_option maxHeartbeats 2000000
theorem eqg_Shape_ : Try.prog.eqGuardType Try.prog.depth 80 = false := by kernel_rfl
theorem run_eql_Shape_ {x y : Operand} (a b : Shape_) (w : World) : (do eqGuard .eql 80 x y (.agg #[.int .i64 a.Kind, .int .i64 a.A.X, .int .i64 a.A.Y, .int .i64 a.B.X, .int .i64 a.B.Y, .int .i64 a.R, .string a.Name]) (.agg #[.int .i64 b.Kind, .int .i64 b.A.X, .int .i64 b.A.Y, .int .i64 b.B.X, .int .i64 b.B.Y, .int .i64 b.R, .string b.Name]); binOp .eql 80 (.agg #[.int .i64 a.Kind, .int .i64 a.A.X, .int .i64 a.A.Y, .int .i64 a.B.X, .int .i64 a.B.Y, .int .i64 a.R, .string a.Name]) (.agg #[.int .i64 b.Kind, .int .i64 b.A.X, .int .i64 b.A.Y, .int .i64 b.B.X, .int .i64 b.B.Y, .int .i64 b.R, .string b.Name]) : Sem Value).run Try.prog w = .ok (.bool (decide (a = b))) w := by
  have g : (eqGuard .eql 80 x y (.agg #[.int .i64 a.Kind, .int .i64 a.A.X, .int .i64 a.A.Y, .int .i64 a.B.X, .int .i64 a.B.Y, .int .i64 a.R, .string a.Name]) (.agg #[.int .i64 b.Kind, .int .i64 b.A.X, .int .i64 b.A.Y, .int .i64 b.B.X, .int .i64 b.B.Y, .int .i64 b.R, .string b.Name])).run Try.prog w = .ok () w := by simp [eqGuard, eqg_Shape_]
  rw [Sem.run_bind, g, Result.andThen_ok]
  obtain ⟨x0, ⟨x1, x2⟩, ⟨x3, x4⟩, x5, x6⟩ := a
  obtain ⟨y0, ⟨y1, y2⟩, ⟨y3, y4⟩, y5, y6⟩ := b
  simp [go_sem]
  (repeat' split) <;> simp_all [bytes_inj]
theorem ps_eql_Shape_ {N : Nat} {t : Nat → AV} {h : Heap} {d : Tmp} {ty : TypeId} {pos : String} {aft : Array Edge} {g : Option (Nat × Bool)} {x y : Operand} {a b : Shape_} (hx : toV (evA N ⟨t, h⟩ x) = some (.agg #[.int .i64 a.Kind, .int .i64 a.A.X, .int .i64 a.A.Y, .int .i64 a.B.X, .int .i64 a.B.Y, .int .i64 a.R, .string a.Name])) (hy : toV (evA N ⟨t, h⟩ y) = some (.agg #[.int .i64 b.Kind, .int .i64 b.A.X, .int .i64 b.A.Y, .int .i64 b.B.X, .int .i64 b.B.Y, .int .i64 b.R, .string b.Name])) : Pure1 Try.prog N ⟨some d, .binOp .eql 80 x y 80, ty, pos, aft, g⟩ ⟨t, h⟩ (.d (.v (.bool (decide (a = b))))) := pu_bin hx hy (fun w => run_eql_Shape_ a b w)
theorem run_neq_Shape_ {x y : Operand} (a b : Shape_) (w : World) : (do eqGuard .neq 80 x y (.agg #[.int .i64 a.Kind, .int .i64 a.A.X, .int .i64 a.A.Y, .int .i64 a.B.X, .int .i64 a.B.Y, .int .i64 a.R, .string a.Name]) (.agg #[.int .i64 b.Kind, .int .i64 b.A.X, .int .i64 b.A.Y, .int .i64 b.B.X, .int .i64 b.B.Y, .int .i64 b.R, .string b.Name]); binOp .neq 80 (.agg #[.int .i64 a.Kind, .int .i64 a.A.X, .int .i64 a.A.Y, .int .i64 a.B.X, .int .i64 a.B.Y, .int .i64 a.R, .string a.Name]) (.agg #[.int .i64 b.Kind, .int .i64 b.A.X, .int .i64 b.A.Y, .int .i64 b.B.X, .int .i64 b.B.Y, .int .i64 b.R, .string b.Name]) : Sem Value).run Try.prog w = .ok (.bool (decide (a ≠ b))) w := by
  have g : (eqGuard .neq 80 x y (.agg #[.int .i64 a.Kind, .int .i64 a.A.X, .int .i64 a.A.Y, .int .i64 a.B.X, .int .i64 a.B.Y, .int .i64 a.R, .string a.Name]) (.agg #[.int .i64 b.Kind, .int .i64 b.A.X, .int .i64 b.A.Y, .int .i64 b.B.X, .int .i64 b.B.Y, .int .i64 b.R, .string b.Name])).run Try.prog w = .ok () w := by simp [eqGuard, eqg_Shape_]
  rw [Sem.run_bind, g, Result.andThen_ok]
  obtain ⟨x0, ⟨x1, x2⟩, ⟨x3, x4⟩, x5, x6⟩ := a
  obtain ⟨y0, ⟨y1, y2⟩, ⟨y3, y4⟩, y5, y6⟩ := b
  simp [go_sem]
  (repeat' split) <;> simp_all [bytes_inj]
theorem ps_neq_Shape_ {N : Nat} {t : Nat → AV} {h : Heap} {d : Tmp} {ty : TypeId} {pos : String} {aft : Array Edge} {g : Option (Nat × Bool)} {x y : Operand} {a b : Shape_} (hx : toV (evA N ⟨t, h⟩ x) = some (.agg #[.int .i64 a.Kind, .int .i64 a.A.X, .int .i64 a.A.Y, .int .i64 a.B.X, .int .i64 a.B.Y, .int .i64 a.R, .string a.Name])) (hy : toV (evA N ⟨t, h⟩ y) = some (.agg #[.int .i64 b.Kind, .int .i64 b.A.X, .int .i64 b.A.Y, .int .i64 b.B.X, .int .i64 b.B.Y, .int .i64 b.R, .string b.Name])) : Pure1 Try.prog N ⟨some d, .binOp .neq 80 x y 80, ty, pos, aft, g⟩ ⟨t, h⟩ (.d (.v (.bool (decide (a ≠ b))))) := pu_bin hx hy (fun w => run_neq_Shape_ a b w)
theorem eqg_Spot_ : Try.prog.eqGuardType Try.prog.depth 39 = false := by kernel_rfl
theorem run_eql_Spot_ {x y : Operand} (a b : Spot_) (w : World) : (do eqGuard .eql 39 x y (.agg #[.int .i64 a.X, .int .i64 a.Y]) (.agg #[.int .i64 b.X, .int .i64 b.Y]); binOp .eql 39 (.agg #[.int .i64 a.X, .int .i64 a.Y]) (.agg #[.int .i64 b.X, .int .i64 b.Y]) : Sem Value).run Try.prog w = .ok (.bool (decide (a = b))) w := by
  have g : (eqGuard .eql 39 x y (.agg #[.int .i64 a.X, .int .i64 a.Y]) (.agg #[.int .i64 b.X, .int .i64 b.Y])).run Try.prog w = .ok () w := by simp [eqGuard, eqg_Spot_]
  rw [Sem.run_bind, g, Result.andThen_ok]
  obtain ⟨x0, x1⟩ := a
  obtain ⟨y0, y1⟩ := b
  simp [go_sem]
  (repeat' split) <;> simp_all [bytes_inj]
theorem ps_eql_Spot_ {N : Nat} {t : Nat → AV} {h : Heap} {d : Tmp} {ty : TypeId} {pos : String} {aft : Array Edge} {g : Option (Nat × Bool)} {x y : Operand} {a b : Spot_} (hx : toV (evA N ⟨t, h⟩ x) = some (.agg #[.int .i64 a.X, .int .i64 a.Y])) (hy : toV (evA N ⟨t, h⟩ y) = some (.agg #[.int .i64 b.X, .int .i64 b.Y])) : Pure1 Try.prog N ⟨some d, .binOp .eql 39 x y 39, ty, pos, aft, g⟩ ⟨t, h⟩ (.d (.v (.bool (decide (a = b))))) := pu_bin hx hy (fun w => run_eql_Spot_ a b w)
theorem run_neq_Spot_ {x y : Operand} (a b : Spot_) (w : World) : (do eqGuard .neq 39 x y (.agg #[.int .i64 a.X, .int .i64 a.Y]) (.agg #[.int .i64 b.X, .int .i64 b.Y]); binOp .neq 39 (.agg #[.int .i64 a.X, .int .i64 a.Y]) (.agg #[.int .i64 b.X, .int .i64 b.Y]) : Sem Value).run Try.prog w = .ok (.bool (decide (a ≠ b))) w := by
  have g : (eqGuard .neq 39 x y (.agg #[.int .i64 a.X, .int .i64 a.Y]) (.agg #[.int .i64 b.X, .int .i64 b.Y])).run Try.prog w = .ok () w := by simp [eqGuard, eqg_Spot_]
  rw [Sem.run_bind, g, Result.andThen_ok]
  obtain ⟨x0, x1⟩ := a
  obtain ⟨y0, y1⟩ := b
  simp [go_sem]
  (repeat' split) <;> simp_all [bytes_inj]
theorem ps_neq_Spot_ {N : Nat} {t : Nat → AV} {h : Heap} {d : Tmp} {ty : TypeId} {pos : String} {aft : Array Edge} {g : Option (Nat × Bool)} {x y : Operand} {a b : Spot_} (hx : toV (evA N ⟨t, h⟩ x) = some (.agg #[.int .i64 a.X, .int .i64 a.Y])) (hy : toV (evA N ⟨t, h⟩ y) = some (.agg #[.int .i64 b.X, .int .i64 b.Y])) : Pure1 Try.prog N ⟨some d, .binOp .neq 39 x y 39, ty, pos, aft, g⟩ ⟨t, h⟩ (.d (.v (.bool (decide (a ≠ b))))) := pu_bin hx hy (fun w => run_neq_Spot_ a b w)
theorem l_f6big_c {p0 : List Int} {r : Bool} (h0 : l_f6big_m p0 = some r) : FnC Try.prog 38 [] [.d (.sl (List.map cU8 p0))] [] (.d (.v (.bool r))) := by
  refine fnc_intro (T := tt) (N := 6) tok Try.func38 rfl rfl (by kernel_rfl) rfl rfl ?_
  unfold l_f6big_m at h0
  refine aw_seq ?_
  refine aw_regionA (is := [0]) rfl ?_
  refine rp rfl w0 rfl (pu_assign (r := .d _) rfl) ?_
  refine ra_nil ?_
  refine then_n ?_
  refine aw_seq ?_
  refine aw_regionA (is := [0, 1, 2, 3]) rfl ?_
  refine rp rfl w0 rfl (pu_move (r := .d _) rfl) ?_
  refine rp rfl w0 rfl (pu_len_map tok rfl rfl rfl) ?_
  refine rp rfl w0 rfl (pu_gtr rfl rfl) ?_
  refine rp rfl w0 rfl (pu_assign (r := .d _) rfl) ?_
  refine ra_nil ?_
  refine then_n ?_
  refine aw_ret ?_
  cases h0
  exact ret0_ (rs := [.tmp 2]) rfl

theorem s_l00From_c {p0 : List Int} {r : L00Src_} (h0 : s_l00From_m p0 = some r) : FnC Try.prog 80 [] [.d (.sl (List.map cU8 p0))] [.live [⟨138, 3, .av [[.d (.sl (List.map cU8 r.code)), .d (.v (.int .i64 r.at_)), .d (.v (.int .u64 r.seed))]]⟩]] (.ptr 0 0 1 0 0) := by
  refine fnc_intro (T := tt) (N := 6) tok Try.func80 rfl rfl (by kernel_rfl) rfl rfl ?_
  unfold s_l00From_m at h0
  refine aw_seq ?_
  refine aw_regionA (is := [0]) rfl ?_
  refine rp rfl w0 rfl (pu_assign (r := .d _) rfl) ?_
  refine ra_nil ?_
  refine then_n ?_
  refine aw_seq ?_
  refine aw_regionA (is := [0, 1, 2, 3]) rfl ?_
  refine rp rfl w0 rfl (pu_move (r := .d _) rfl) ?_
  refine rp rfl w0 rfl (pu_build (C0 := [.d (.v (.slice none 0 0)), .d (.v (.int .i64 0)), .d (.v (.int .u64 0))]) tok rfl rfl (by repeat (first | exact Plc.nil | apply Plc.cons rfl)) rfl (by repeat (first | exact Bld.nil _ | apply Bld.cons (cs := [.d _]) rfl rfl rfl rfl (by repeat (first | exact Spl.z _ | apply Spl.t | apply Spl.d)) | apply Bld.cons (cs := [.own _ _ _]) rfl rfl rfl rfl (by repeat (first | exact Spl.z _ | apply Spl.t | apply Spl.d)) | apply Bld.cons (cs := [.ptr _ _ _ _ _]) rfl rfl rfl rfl (by repeat (first | exact Spl.z _ | apply Spl.t | apply Spl.d)) | apply Bld.cons (cs := [.fn _ _]) rfl rfl rfl rfl (by repeat (first | exact Spl.z _ | apply Spl.t | apply Spl.d)) | apply Bld.cons (cs := _ :: _) rfl rfl rfl rfl (by repeat (first | exact Spl.z _ | apply Spl.t | apply Spl.d))))) ?_
  refine rs rfl w0 rfl (st_box 3 (cs := _ :: _) rfl rfl rfl) ?_
  refine rp rfl w0 rfl (pu_assign (r := .ptr _ _ _ _ _) rfl) ?_
  refine ra_nil ?_
  refine then_n ?_
  refine aw_ret ?_
  cases h0
  exact retK_ (rs := [.tmp 2]) [3] rfl

theorem l00Src_next_b_c {p0 : L00Src_} {r : Int × L00Src_} (h0 : l00Src_next_b_m p0 = some r) : FnC Try.prog 121 [.live [⟨138, 3, .av [[.d (.sl (List.map cU8 p0.code)), .d (.v (.int .i64 p0.at_)), .d (.v (.int .u64 p0.seed))]]⟩]] [.ptr 0 0 1 0 0] [.live [⟨138, 3, .av [[.d (.sl (List.map cU8 r.2.code)), .d (.v (.int .i64 r.2.at_)), .d (.v (.int .u64 r.2.seed))]]⟩]] (.d (.v (.int .i64 r.1))) := by
  refine fnc_intro (T := tt) (N := 62) tok Try.func121 rfl rfl (by kernel_rfl) rfl rfl ?_
  unfold l00Src_next_b_m at h0
  refine aw_seq ?_
  refine aw_regionA (is := [0]) rfl ?_
  refine rp rfl w0 rfl (pu_assign (r := .d _) rfl) ?_
  refine ra_nil ?_
  refine then_n ?_
  refine aw_seq ?_
  refine aw_regionA (is := [0]) rfl ?_
  refine rp rfl w0 rfl (pu_assign (r := .d _) rfl) ?_
  refine ra_nil ?_
  refine then_n ?_
  obtain ⟨v2, h1, h0⟩ := bnd h0
  refine aw_cut ⟨updA (updA ((fun _ => .dead)) 0 (.ptr 0 0 1 0 0)) 3 (.d (.v (.int .i64 v2))), lks [.live [⟨138, 3, .av [[.d (.sl (List.map cU8 p0.code)), .d (.v (.int .i64 p0.at_)), .d (.v (.int .u64 p0.seed))]]⟩], .no, .no]⟩ ?_ ?_
  · skip
    refine aw_seq ?_
    refine aw_region_draw (is := [0, 1, 2, 3, 4, 5, 6, 7, 8, 9]) follows ?_
    refine rt_p rfl w0 rfl (pu_move (r := .ptr _ _ _ _ _) rfl) ?_
    refine rt_lk rfl w0 rfl (bx_nil rfl rfl) rfl rfl rfl ?_
    refine rt_lk rfl w0 rfl (bx_fa tok rfl rfl rfl rfl rfl rfl rfl) rfl rfl rfl ?_
    refine rt_lk rfl w0 rfl (bx_ld1 tok rfl rfl rfl rfl rfl) rfl rfl rfl ?_
    refine rt_p rfl w0 rfl (pu_move (r := .ptr _ _ _ _ _) rfl) ?_
    refine rt_lk rfl w0 rfl (bx_nil rfl rfl) rfl rfl rfl ?_
    refine rt_lk rfl w0 rfl (bx_fa tok rfl rfl rfl rfl rfl rfl rfl) rfl rfl rfl ?_
    refine rt_lk rfl w0 rfl (bx_ld1 tok rfl rfl rfl rfl rfl) rfl rfl rfl ?_
    refine rt_p rfl w0 rfl (pu_len_map tok rfl rfl rfl) ?_
    refine rt_p rfl w0 rfl (pu_lss rfl rfl) ?_
    refine rt_nil ?_
    refine ⟨by kernel_rfl, ?_⟩
    refine then_n ?_
    refine aw_if h1 rfl (fun hc h1 => ?_) (fun hc h1 => ?_)
    · skip
      refine aw_region_draw (is := [0, 1, 2, 3, 4, 5, 6, 7, 8, 9, 10, 11]) follows ?_
      refine rt_p rfl w0 rfl (pu_move (r := .ptr _ _ _ _ _) rfl) ?_
      refine rt_lk rfl w0 rfl (bx_nil rfl rfl) rfl rfl rfl ?_
      refine rt_lk rfl w0 rfl (bx_fa tok rfl rfl rfl rfl rfl rfl rfl) rfl rfl rfl ?_
      refine rt_lk rfl w0 rfl (bx_ld1 tok rfl rfl rfl rfl rfl) rfl rfl rfl ?_
      refine rt_p rfl w0 rfl (pu_move (r := .ptr _ _ _ _ _) rfl) ?_
      refine rt_lk rfl w0 rfl (bx_nil rfl rfl) rfl rfl rfl ?_
      refine rt_lk rfl w0 rfl (bx_fa tok rfl rfl rfl rfl rfl rfl rfl) rfl rfl rfl ?_
      refine rt_lk rfl w0 rfl (bx_ld1 tok rfl rfl rfl rfl rfl) rfl rfl rfl ?_
      obtain ⟨v1, hv1, h1⟩ := bnd h1
      refine rt_p rfl w0 rfl (sl_ix tok hv1 rfl rfl rfl rfl rfl rfl) ?_
      refine rt_p rfl w0 rfl (pu_load_ref1 tok rfl rfl rfl rfl) ?_
      refine rt_p rfl w0 rfl (pw_cv tok rfl rfl rfl rfl rfl) ?_
      refine rt_p rfl w0 rfl (pu_assign (r := .d _) rfl) ?_
      refine rt_nil ?_
      refine ⟨by kernel_rfl, ?_⟩
      refine then_n ?_
      cases h1
      exact wk [0, 1, 2]
    · skip
      refine aw_skip ?_
      refine then_n ?_
      cases h1
      exact wk [0, 1, 2]
  · skip
    refine aw_seq ?_
    refine aw_regionA (is := [0, 1, 2, 3, 4, 5, 6, 7]) rfl ?_
    refine rp rfl w0 rfl (pu_move (r := .ptr _ _ _ _ _) rfl) ?_
    refine rl rfl w0 rfl (bx_nil rfl rfl) ?_
    refine rl rfl w0 rfl (bx_fa tok rfl rfl rfl rfl rfl rfl rfl) ?_
    refine rl rfl w0 rfl (bx_ld1 tok rfl rfl rfl rfl rfl) ?_
    refine rp rfl w0 rfl (pw_add rfl rfl) ?_
    refine rl rfl w0 rfl (bx_nil rfl rfl) ?_
    refine rl rfl w0 rfl (bx_fa tok rfl rfl rfl rfl rfl rfl rfl) ?_
    refine rw0 rfl w0 (bx_st (cs := [.d _]) tok rfl rfl rfl rfl rfl rfl rfl) ?_
    refine ra_nil ?_
    refine then_n ?_
    refine aw_seq ?_
    refine aw_regionA (is := [0, 1, 2, 3, 4, 5, 6, 7, 8, 9, 10, 11, 12]) rfl ?_
    refine rp rfl w0 rfl (pu_move (r := .ptr _ _ _ _ _) rfl) ?_
    refine rp rfl w0 rfl (pu_move (r := .ptr _ _ _ _ _) rfl) ?_
    refine rl rfl w0 rfl (bx_nil rfl rfl) ?_
    refine rl rfl w0 rfl (bx_fa tok rfl rfl rfl rfl rfl rfl rfl) ?_
    refine rl rfl w0 rfl (bx_ld1 tok rfl rfl rfl rfl rfl) ?_
    refine rp rfl w0 rfl (pu_mulw rfl rfl) ?_
    refine rp rfl w0 rfl (pu_move (r := .d _) rfl) ?_
    refine rp rfl w0 rfl (pu_ii tok rfl rfl rfl rfl rfl) ?_
    refine rp rfl w0 rfl (pu_addw rfl rfl) ?_
    refine rp rfl w0 rfl (pu_addw rfl rfl) ?_
    refine rl rfl w0 rfl (bx_nil rfl rfl) ?_
    refine rl rfl w0 rfl (bx_fa tok rfl rfl rfl rfl rfl rfl rfl) ?_
    refine rw0 rfl w0 (bx_st (cs := [.d _]) tok rfl rfl rfl rfl rfl rfl rfl) ?_
    refine ra_nil ?_
    refine then_n ?_
    refine aw_seq ?_
    refine aw_seq ?_
    refine aw_region_draw (is := [0, 1, 2, 3, 4, 5, 6, 7, 8, 9]) follows ?_
    refine rt_p rfl w0 rfl (pu_move (r := .ptr _ _ _ _ _) rfl) ?_
    refine rt_lk rfl w0 rfl (bx_nil rfl rfl) rfl rfl rfl ?_
    refine rt_lk rfl w0 rfl (bx_fa tok rfl rfl rfl rfl rfl rfl rfl) rfl rfl rfl ?_
    refine rt_lk rfl w0 rfl (bx_ld1 tok rfl rfl rfl rfl rfl) rfl rfl rfl ?_
    refine rt_p rfl w0 rfl (pu_move (r := .ptr _ _ _ _ _) rfl) ?_
    refine rt_lk rfl w0 rfl (bx_nil rfl rfl) rfl rfl rfl ?_
    refine rt_lk rfl w0 rfl (bx_fa tok rfl rfl rfl rfl rfl rfl rfl) rfl rfl rfl ?_
    refine rt_lk rfl w0 rfl (bx_ld1 tok rfl rfl rfl rfl rfl) rfl rfl rfl ?_
    refine rt_p rfl w0 rfl (pu_len_map tok rfl rfl rfl) ?_
    refine rt_p rfl w0 rfl (pu_leq rfl rfl) ?_
    refine rt_nil ?_
    refine ⟨by kernel_rfl, ?_⟩
    refine then_n ?_
    refine aw_if h0 rfl (fun hc h0 => ?_) (fun hc h0 => ?_)
    · skip
      refine aw_seq ?_
      refine aw_regionA (is := [0, 1]) rfl ?_
      refine rp rfl w0 rfl (pu_move (r := .d _) rfl) ?_
      refine rp rfl w0 rfl (pu_assign (r := .d _) rfl) ?_
      refine ra_nil ?_
      refine then_n ?_
      refine aw_ret ?_
      refine then_r ?_
      cases h0
      exact retP_ (rs := [.tmp 2]) 1 rfl rfl
    · skip
      refine aw_skip ?_
      refine then_n ?_
      refine aw_seq ?_
      refine aw_regionA (is := [0, 1, 2, 3, 4, 5, 6, 7]) rfl ?_
      refine rp rfl w0 rfl (pu_move (r := .ptr _ _ _ _ _) rfl) ?_
      refine rl rfl w0 rfl (bx_nil rfl rfl) ?_
      refine rl rfl w0 rfl (bx_fa tok rfl rfl rfl rfl rfl rfl rfl) ?_
      refine rl rfl w0 rfl (bx_ld1 tok rfl rfl rfl rfl rfl) ?_
      refine rp rfl w0 rfl (pu_shr rfl rfl (by decide)) ?_
      refine rp rfl w0 rfl (pu_and rfl rfl) ?_
      refine rp rfl w0 rfl (pw_cv tok rfl rfl rfl rfl rfl) ?_
      refine rp rfl w0 rfl (pu_assign (r := .d _) rfl) ?_
      refine ra_nil ?_
      refine then_n ?_
      refine aw_ret ?_
      cases h0
      exact retP_ (rs := [.tmp 2]) 1 rfl rfl

theorem l00Src_pick_b_c {p0 : L00Src_} {p1 : Int} {r : Int × L00Src_} (h0 : l00Src_pick_b_m p0 p1 = some r) : FnC Try.prog 93 [.live [⟨138, 3, .av [[.d (.sl (List.map cU8 p0.code)), .d (.v (.int .i64 p0.at_)), .d (.v (.int .u64 p0.seed))]]⟩]] [.ptr 0 0 1 0 0, .d (.v (.int .i64 p1))] [.live [⟨138, 3, .av [[.d (.sl (List.map cU8 r.2.code)), .d (.v (.int .i64 r.2.at_)), .d (.v (.int .u64 r.2.seed))]]⟩]] (.d (.v (.int .i64 r.1))) := by
  refine fnc_intro (T := tt) (N := 20) tok Try.func93 rfl rfl (by kernel_rfl) rfl rfl ?_
  unfold l00Src_pick_b_m at h0
  refine aw_seq ?_
  refine aw_regionA (is := [0]) rfl ?_
  refine rp rfl w0 rfl (pu_assign (r := .d _) rfl) ?_
  refine ra_nil ?_
  refine then_n ?_
  refine aw_seq ?_
  refine aw_seq ?_
  refine aw_regionA (is := [0, 1]) rfl ?_
  refine rp rfl w0 rfl (pu_move (r := .d _) rfl) ?_
  refine rp rfl w0 rfl (pu_leq rfl rfl) ?_
  refine ra_nil ?_
  refine then_n ?_
  refine aw_if h0 rfl (fun hc h0 => ?_) (fun hc h0 => ?_)
  · skip
    refine aw_seq ?_
    refine aw_regionA (is := [0]) rfl ?_
    refine rp rfl w0 rfl (pu_assign (r := .d _) rfl) ?_
    refine ra_nil ?_
    refine then_n ?_
    refine aw_ret ?_
    refine then_r ?_
    cases h0
    exact retP_ (rs := [.tmp 4]) 1 rfl rfl
  · skip
    refine aw_skip ?_
    refine then_n ?_
    refine aw_seq ?_
    refine aw_regionA (is := [0, 1, 2]) rfl ?_
    refine rp rfl w0 rfl (pu_move (r := .ptr _ _ _ _ _) rfl) ?_
    obtain ⟨v1, hv1, h0⟩ := bnd h0
    refine rw1 rfl w0 rfl (c_callP [0] 300 (l00Src_next_b_c hv1) rfl rfl) ?_
    refine rp rfl w0 rfl (pu_assign (r := .d _) rfl) ?_
    refine ra_nil ?_
    refine then_n ?_
    obtain ⟨v3, h1, h0⟩ := bnd h0
    refine aw_cut ⟨updA (updA ((fun _ => .dead)) 1 (.d (.v (.int .i64 p1)))) 5 (.d (.v (.int .i64 v3.1))), lks [.live [⟨138, 3, .av [[.d (.sl (List.map cU8 v3.2.code)), .d (.v (.int .i64 v3.2.at_)), .d (.v (.int .u64 v3.2.seed))]]⟩], .no, .no]⟩ ?_ ?_
    · skip
      refine aw_seq ?_
      refine aw_regionA (is := [0, 1]) rfl ?_
      refine rp rfl w0 rfl (pu_move (r := .d _) rfl) ?_
      refine rp rfl w0 rfl (pu_gtr rfl rfl) ?_
      refine ra_nil ?_
      refine then_n ?_
      refine aw_if h1 rfl (fun hc h1 => ?_) (fun hc h1 => ?_)
      · skip
        refine aw_regionA (is := [0, 1, 2, 3, 4, 5]) rfl ?_
        refine rp rfl w0 rfl (pu_move (r := .d _) rfl) ?_
        refine rp rfl w0 rfl (pw_mul rfl rfl) ?_
        refine rp rfl w0 rfl (pu_move (r := .ptr _ _ _ _ _) rfl) ?_
        obtain ⟨v2, hv2, h1⟩ := bnd h1
        refine rw1 rfl w0 rfl (c_callP [0] 300 (l00Src_next_b_c hv2) rfl rfl) ?_
        refine rp rfl w0 rfl (pw_add rfl rfl) ?_
        refine rp rfl w0 rfl (pu_assign (r := .d _) rfl) ?_
        refine ra_nil ?_
        refine then_n ?_
        cases h1
        exact wk [0, 1, 2]
      · skip
        refine aw_skip ?_
        refine then_n ?_
        cases h1
        exact wk [0, 1, 2]
    · skip
      refine aw_seq ?_
      refine aw_regionA (is := [0, 1, 2, 3]) rfl ?_
      refine rp rfl w0 rfl (pu_move (r := .d _) rfl) ?_
      refine rp rfl w0 rfl (pu_move (r := .d _) rfl) ?_
      obtain ⟨hq4, h0⟩ := chk_e h0
      refine rp rfl w0 rfl (pu_remw rfl rfl hq4) ?_
      refine rp rfl w0 rfl (pu_assign (r := .d _) rfl) ?_
      refine ra_nil ?_
      refine then_n ?_
      refine aw_ret ?_
      cases h0
      exact retP_ (rs := [.tmp 4]) 1 rfl rfl

theorem l00Src_one_b_c {p0 : L00Src_} {p1 : Int} {r : Bool × L00Src_} (h0 : l00Src_one_b_m p0 p1 = some r) : FnC Try.prog 83 [.live [⟨138, 3, .av [[.d (.sl (List.map cU8 p0.code)), .d (.v (.int .i64 p0.at_)), .d (.v (.int .u64 p0.seed))]]⟩]] [.ptr 0 0 1 0 0, .d (.v (.int .i64 p1))] [.live [⟨138, 3, .av [[.d (.sl (List.map cU8 r.2.code)), .d (.v (.int .i64 r.2.at_)), .d (.v (.int .u64 r.2.seed))]]⟩]] (.d (.v (.bool r.1))) := by
  refine fnc_intro (T := tt) (N := 9) tok Try.func83 rfl rfl (by kernel_rfl) rfl rfl ?_
  unfold l00Src_one_b_m at h0
  refine aw_seq ?_
  refine aw_regionA (is := [0]) rfl ?_
  refine rp rfl w0 rfl (pu_assign (r := .d _) rfl) ?_
  refine ra_nil ?_
  refine then_n ?_
  refine aw_seq ?_
  refine aw_regionA (is := [0, 1, 2, 3, 4]) rfl ?_
  refine rp rfl w0 rfl (pu_move (r := .ptr _ _ _ _ _) rfl) ?_
  refine rp rfl w0 rfl (pu_move (r := .d _) rfl) ?_
  obtain ⟨v1, hv1, h0⟩ := bnd h0
  refine rw1 rfl w0 rfl (c_callP [0] 300 (l00Src_pick_b_c hv1) rfl rfl) ?_
  refine rp rfl w0 rfl (pu_eql rfl rfl) ?_
  refine rp rfl w0 rfl (pu_assign (r := .d _) rfl) ?_
  refine ra_nil ?_
  refine then_n ?_
  refine aw_ret ?_
  cases h0
  exact retP_ (rs := [.tmp 4]) 1 rfl rfl

theorem l00Src_among_b_c {p0 : L00Src_} {p1 : List Int} {r : Int × L00Src_} (h0 : l00Src_among_b_m p0 p1 = some r) : FnC Try.prog 84 [.live [⟨138, 3, .av [[.d (.sl (List.map cU8 p0.code)), .d (.v (.int .i64 p0.at_)), .d (.v (.int .u64 p0.seed))]]⟩]] [.ptr 0 0 1 0 0, .d (.sl (List.map cI p1))] [.live [⟨138, 3, .av [[.d (.sl (List.map cU8 r.2.code)), .d (.v (.int .i64 r.2.at_)), .d (.v (.int .u64 r.2.seed))]]⟩]] (.d (.v (.int .i64 r.1))) := by
  refine fnc_intro (T := tt) (N := 12) tok Try.func84 rfl rfl (by kernel_rfl) rfl rfl ?_
  unfold l00Src_among_b_m at h0
  refine aw_seq ?_
  refine aw_regionA (is := [0]) rfl ?_
  refine rp rfl w0 rfl (pu_assign (r := .d _) rfl) ?_
  refine ra_nil ?_
  refine then_n ?_
  refine aw_seq ?_
  refine aw_regionA (is := [0, 1, 2, 3, 4, 5, 6, 7]) rfl ?_
  refine rp rfl w0 rfl (pu_move (r := .d _) rfl) ?_
  refine rp rfl w0 rfl (pu_move (r := .ptr _ _ _ _ _) rfl) ?_
  refine rp rfl w0 rfl (pu_move (r := .d _) rfl) ?_
  refine rp rfl w0 rfl (pu_len_map tok rfl rfl rfl) ?_
  obtain ⟨v1, hv1, h0⟩ := bnd h0
  refine rw1 rfl w0 rfl (c_callP [0] 300 (l00Src_pick_b_c hv1) rfl rfl) ?_
  obtain ⟨v2, hv2, h0⟩ := bnd h0
  refine rp rfl w0 rfl (sl_ix tok hv2 rfl rfl rfl rfl rfl rfl) ?_
  refine rp rfl w0 rfl (pu_load_ref1 tok rfl rfl rfl rfl) ?_
  refine rp rfl w0 rfl (pu_assign (r := .d _) rfl) ?_
  refine ra_nil ?_
  refine then_n ?_
  refine aw_ret ?_
  cases h0
  exact retP_ (rs := [.tmp 4]) 1 rfl rfl

theorem s_l10DrawAngle_b_c {p0 : L00Src_} {r : Angle_ × L00Src_} (h0 : s_l10DrawAngle_b_m p0 = some r) : FnC Try.prog 133 [.live [⟨138, 3, .av [[.d (.sl (List.map cU8 p0.code)), .d (.v (.int .i64 p0.at_)), .d (.v (.int .u64 p0.seed))]]⟩]] [.ptr 0 0 1 0 0] [.live [⟨138, 3, .av [[.d (.sl (List.map cU8 r.2.code)), .d (.v (.int .i64 r.2.at_)), .d (.v (.int .u64 r.2.seed))]]⟩]] (.agg [.d (.v (.int .i64 r.1.Sin)), .d (.v (.int .i64 r.1.Cos)), .d (.v (.int .i64 r.1.Hyp))]) := by
  refine fnc_intro (T := tt) (N := 48) tok Try.func133 rfl rfl (by kernel_rfl) rfl rfl ?_
  unfold s_l10DrawAngle_b_m at h0
  refine aw_seq ?_
  refine aw_regionA (is := [0]) rfl ?_
  refine rs rfl w0 rfl (st_alloc 3 (cs := [.d (.v (.int .i64 0)), .d (.v (.int .i64 0)), .d (.v (.int .i64 0))]) tok rfl rfl rfl) ?_
  refine ra_nil ?_
  refine then_n ?_
  refine aw_seq ?_
  refine aw_regionA (is := [0, 1, 2, 3, 4, 5, 6, 7, 8, 9, 10]) rfl ?_
  refine rp rfl w0 rfl (pu_build (C0 := [.d (.v (.int .i64 0)), .d (.v (.int .i64 0)), .d (.v (.int .i64 0))]) tok rfl rfl (by repeat (first | exact Plc.nil | apply Plc.cons rfl)) rfl (by repeat (first | exact Bld.nil _ | apply Bld.cons (cs := [.d _]) rfl rfl rfl rfl (by repeat (first | exact Spl.z _ | apply Spl.t | apply Spl.d)) | apply Bld.cons (cs := [.own _ _ _]) rfl rfl rfl rfl (by repeat (first | exact Spl.z _ | apply Spl.t | apply Spl.d)) | apply Bld.cons (cs := [.ptr _ _ _ _ _]) rfl rfl rfl rfl (by repeat (first | exact Spl.z _ | apply Spl.t | apply Spl.d)) | apply Bld.cons (cs := [.fn _ _]) rfl rfl rfl rfl (by repeat (first | exact Spl.z _ | apply Spl.t | apply Spl.d)) | apply Bld.cons (cs := _ :: _) rfl rfl rfl rfl (by repeat (first | exact Spl.z _ | apply Spl.t | apply Spl.d))))) ?_
  refine rp rfl w0 rfl (pu_build (C0 := [.d (.v (.int .i64 0)), .d (.v (.int .i64 0)), .d (.v (.int .i64 0))]) tok rfl rfl (by repeat (first | exact Plc.nil | apply Plc.cons rfl)) rfl (by repeat (first | exact Bld.nil _ | apply Bld.cons (cs := [.d _]) rfl rfl rfl rfl (by repeat (first | exact Spl.z _ | apply Spl.t | apply Spl.d)) | apply Bld.cons (cs := [.own _ _ _]) rfl rfl rfl rfl (by repeat (first | exact Spl.z _ | apply Spl.t | apply Spl.d)) | apply Bld.cons (cs := [.ptr _ _ _ _ _]) rfl rfl rfl rfl (by repeat (first | exact Spl.z _ | apply Spl.t | apply Spl.d)) | apply Bld.cons (cs := [.fn _ _]) rfl rfl rfl rfl (by repeat (first | exact Spl.z _ | apply Spl.t | apply Spl.d)) | apply Bld.cons (cs := _ :: _) rfl rfl rfl rfl (by repeat (first | exact Spl.z _ | apply Spl.t | apply Spl.d))))) ?_
  refine rp rfl w0 rfl (pu_build (C0 := [.d (.v (.int .i64 0)), .d (.v (.int .i64 0)), .d (.v (.int .i64 0))]) tok rfl rfl (by repeat (first | exact Plc.nil | apply Plc.cons rfl)) rfl (by repeat (first | exact Bld.nil _ | apply Bld.cons (cs := [.d _]) rfl rfl rfl rfl (by repeat (first | exact Spl.z _ | apply Spl.t | apply Spl.d)) | apply Bld.cons (cs := [.own _ _ _]) rfl rfl rfl rfl (by repeat (first | exact Spl.z _ | apply Spl.t | apply Spl.d)) | apply Bld.cons (cs := [.ptr _ _ _ _ _]) rfl rfl rfl rfl (by repeat (first | exact Spl.z _ | apply Spl.t | apply Spl.d)) | apply Bld.cons (cs := [.fn _ _]) rfl rfl rfl rfl (by repeat (first | exact Spl.z _ | apply Spl.t | apply Spl.d)) | apply Bld.cons (cs := _ :: _) rfl rfl rfl rfl (by repeat (first | exact Spl.z _ | apply Spl.t | apply Spl.d))))) ?_
  refine rp rfl w0 rfl (pu_build (C0 := [.d (.v (.int .i64 0)), .d (.v (.int .i64 0)), .d (.v (.int .i64 0))]) tok rfl rfl (by repeat (first | exact Plc.nil | apply Plc.cons rfl)) rfl (by repeat (first | exact Bld.nil _ | apply Bld.cons (cs := [.d _]) rfl rfl rfl rfl (by repeat (first | exact Spl.z _ | apply Spl.t | apply Spl.d)) | apply Bld.cons (cs := [.own _ _ _]) rfl rfl rfl rfl (by repeat (first | exact Spl.z _ | apply Spl.t | apply Spl.d)) | apply Bld.cons (cs := [.ptr _ _ _ _ _]) rfl rfl rfl rfl (by repeat (first | exact Spl.z _ | apply Spl.t | apply Spl.d)) | apply Bld.cons (cs := [.fn _ _]) rfl rfl rfl rfl (by repeat (first | exact Spl.z _ | apply Spl.t | apply Spl.d)) | apply Bld.cons (cs := _ :: _) rfl rfl rfl rfl (by repeat (first | exact Spl.z _ | apply Spl.t | apply Spl.d))))) ?_
  refine rp rfl w0 rfl (pu_build (C0 := [.d (.v (.int .i64 0)), .d (.v (.int .i64 0)), .d (.v (.int .i64 0))]) tok rfl rfl (by repeat (first | exact Plc.nil | apply Plc.cons rfl)) rfl (by repeat (first | exact Bld.nil _ | apply Bld.cons (cs := [.d _]) rfl rfl rfl rfl (by repeat (first | exact Spl.z _ | apply Spl.t | apply Spl.d)) | apply Bld.cons (cs := [.own _ _ _]) rfl rfl rfl rfl (by repeat (first | exact Spl.z _ | apply Spl.t | apply Spl.d)) | apply Bld.cons (cs := [.ptr _ _ _ _ _]) rfl rfl rfl rfl (by repeat (first | exact Spl.z _ | apply Spl.t | apply Spl.d)) | apply Bld.cons (cs := [.fn _ _]) rfl rfl rfl rfl (by repeat (first | exact Spl.z _ | apply Spl.t | apply Spl.d)) | apply Bld.cons (cs := _ :: _) rfl rfl rfl rfl (by repeat (first | exact Spl.z _ | apply Spl.t | apply Spl.d))))) ?_
  refine rp rfl w0 rfl (pu_build (C0 := [.d (.v (.int .i64 0)), .d (.v (.int .i64 0)), .d (.v (.int .i64 0))]) tok rfl rfl (by repeat (first | exact Plc.nil | apply Plc.cons rfl)) rfl (by repeat (first | exact Bld.nil _ | apply Bld.cons (cs := [.d _]) rfl rfl rfl rfl (by repeat (first | exact Spl.z _ | apply Spl.t | apply Spl.d)) | apply Bld.cons (cs := [.own _ _ _]) rfl rfl rfl rfl (by repeat (first | exact Spl.z _ | apply Spl.t | apply Spl.d)) | apply Bld.cons (cs := [.ptr _ _ _ _ _]) rfl rfl rfl rfl (by repeat (first | exact Spl.z _ | apply Spl.t | apply Spl.d)) | apply Bld.cons (cs := [.fn _ _]) rfl rfl rfl rfl (by repeat (first | exact Spl.z _ | apply Spl.t | apply Spl.d)) | apply Bld.cons (cs := _ :: _) rfl rfl rfl rfl (by repeat (first | exact Spl.z _ | apply Spl.t | apply Spl.d))))) ?_
  refine rp rfl w0 rfl (pu_build (C0 := [.d (.v (.int .i64 0)), .d (.v (.int .i64 0)), .d (.v (.int .i64 0))]) tok rfl rfl (by repeat (first | exact Plc.nil | apply Plc.cons rfl)) rfl (by repeat (first | exact Bld.nil _ | apply Bld.cons (cs := [.d _]) rfl rfl rfl rfl (by repeat (first | exact Spl.z _ | apply Spl.t | apply Spl.d)) | apply Bld.cons (cs := [.own _ _ _]) rfl rfl rfl rfl (by repeat (first | exact Spl.z _ | apply Spl.t | apply Spl.d)) | apply Bld.cons (cs := [.ptr _ _ _ _ _]) rfl rfl rfl rfl (by repeat (first | exact Spl.z _ | apply Spl.t | apply Spl.d)) | apply Bld.cons (cs := [.fn _ _]) rfl rfl rfl rfl (by repeat (first | exact Spl.z _ | apply Spl.t | apply Spl.d)) | apply Bld.cons (cs := _ :: _) rfl rfl rfl rfl (by repeat (first | exact Spl.z _ | apply Spl.t | apply Spl.d))))) ?_
  refine rp rfl w0 rfl (pu_build (C0 := [.d (.v (.int .i64 0)), .d (.v (.int .i64 0)), .d (.v (.int .i64 0))]) tok rfl rfl (by repeat (first | exact Plc.nil | apply Plc.cons rfl)) rfl (by repeat (first | exact Bld.nil _ | apply Bld.cons (cs := [.d _]) rfl rfl rfl rfl (by repeat (first | exact Spl.z _ | apply Spl.t | apply Spl.d)) | apply Bld.cons (cs := [.own _ _ _]) rfl rfl rfl rfl (by repeat (first | exact Spl.z _ | apply Spl.t | apply Spl.d)) | apply Bld.cons (cs := [.ptr _ _ _ _ _]) rfl rfl rfl rfl (by repeat (first | exact Spl.z _ | apply Spl.t | apply Spl.d)) | apply Bld.cons (cs := [.fn _ _]) rfl rfl rfl rfl (by repeat (first | exact Spl.z _ | apply Spl.t | apply Spl.d)) | apply Bld.cons (cs := _ :: _) rfl rfl rfl rfl (by repeat (first | exact Spl.z _ | apply Spl.t | apply Spl.d))))) ?_
  refine rp rfl w0 rfl (pu_build (C0 := [.d (.v (.int .i64 0)), .d (.v (.int .i64 0)), .d (.v (.int .i64 0))]) tok rfl rfl (by repeat (first | exact Plc.nil | apply Plc.cons rfl)) rfl (by repeat (first | exact Bld.nil _ | apply Bld.cons (cs := [.d _]) rfl rfl rfl rfl (by repeat (first | exact Spl.z _ | apply Spl.t | apply Spl.d)) | apply Bld.cons (cs := [.own _ _ _]) rfl rfl rfl rfl (by repeat (first | exact Spl.z _ | apply Spl.t | apply Spl.d)) | apply Bld.cons (cs := [.ptr _ _ _ _ _]) rfl rfl rfl rfl (by repeat (first | exact Spl.z _ | apply Spl.t | apply Spl.d)) | apply Bld.cons (cs := [.fn _ _]) rfl rfl rfl rfl (by repeat (first | exact Spl.z _ | apply Spl.t | apply Spl.d)) | apply Bld.cons (cs := _ :: _) rfl rfl rfl rfl (by repeat (first | exact Spl.z _ | apply Spl.t | apply Spl.d))))) ?_
  refine rs rfl w0 rfl (bs_own 4 tok cAngle_ [(⟨5, 12, 13⟩ : Angle_), (⟨7, 24, 25⟩ : Angle_), (⟨8, 15, 17⟩ : Angle_), (⟨12, 35, 37⟩ : Angle_), (⟨3, 4, 5⟩ : Angle_), (⟨20, 21, 29⟩ : Angle_), (⟨9, 40, 41⟩ : Angle_), (⟨60, 11, 61⟩ : Angle_), (⟨33, 544, 545⟩ : Angle_)] rfl rfl rfl (by repeat (first | exact Els.nil _ | apply Els.cons (cs := [.d _]) rfl rfl rfl | apply Els.cons (cs := _ :: _) rfl rfl rfl)) rfl rfl rfl (by repeat (first | exact AllDD.nil | (apply AllDD.cons; (repeat (first | exact AllD.nil | apply AllD.cons))))) rfl rfl) ?_
  refine rp rfl w0 rfl (pu_assign (r := .own _ _ _) rfl) ?_
  refine ra_nil ?_
  refine then_n ?_
  refine aw_seq ?_
  refine aw_regionA (is := [0, 1, 2, 3, 4, 5, 6, 7, 8]) rfl ?_
  refine rp rfl w0 rfl (pu_move (r := .own _ _ _) rfl) ?_
  refine rp rfl w0 rfl (pu_move (r := .ptr _ _ _ _ _) rfl) ?_
  refine rp rfl w0 rfl (pu_move (r := .own _ _ _) rfl) ?_
  refine rl rfl w0 rfl (ow_len tok rfl rfl rfl rfl rfl) ?_
  obtain ⟨v1, hv1, h0⟩ := bnd h0
  refine rw1 rfl w0 rfl (c_callP [0] 300 (l00Src_pick_b_c hv1) rfl rfl) ?_
  obtain ⟨v2, hv2, h0⟩ := bnd h0
  refine rl rfl w0 rfl (ow_ix tok hv2 rfl rfl rfl rfl rfl rfl rfl rfl) ?_
  refine rl rfl w0 rfl (rw_ldN tok (atI_e hv2).2.1 rfl rfl rfl rfl rfl) ?_
  refine rs rfl w0 rfl (st_alloc 5 (cs := [.d (.v (.int .i64 0)), .d (.v (.int .i64 0)), .d (.v (.int .i64 0))]) tok rfl rfl rfl) ?_
  refine rw0 rfl w0 (bx_st (cs := _ :: _) tok rfl rfl rfl rfl rfl rfl rfl) ?_
  refine ra_nil ?_
  refine then_n ?_
  obtain ⟨v6, h1, h0⟩ := bnd h0
  refine aw_cut ⟨updA (updA ((fun _ => .dead)) 2 (.ptr 3 0 1 0 0)) 4 (.ptr 4 0 1 0 0), lks [.live [⟨138, 3, .av [[.d (.sl (List.map cU8 v6.1.code)), .d (.v (.int .i64 v6.1.at_)), .d (.v (.int .u64 v6.1.seed))]]⟩], .no, .no, .live [⟨48, 3, .av [[.d (.v (.int .i64 0)), .d (.v (.int .i64 0)), .d (.v (.int .i64 0))]]⟩], .live [⟨48, 3, .av [[.d (.v (.int .i64 v6.2.Sin)), .d (.v (.int .i64 v6.2.Cos)), .d (.v (.int .i64 v6.2.Hyp))]]⟩]]⟩ ?_ ?_
  · skip
    refine aw_seq ?_
    refine aw_regionA (is := [0, 1]) rfl ?_
    refine rp rfl w0 rfl (pu_move (r := .ptr _ _ _ _ _) rfl) ?_
    obtain ⟨v3, hv3, h1⟩ := bnd h1
    refine rw1 rfl w0 rfl (c_callP [0] 300 (l00Src_one_b_c hv3) rfl rfl) ?_
    refine ra_nil ?_
    refine then_n ?_
    refine aw_ifB h1 rfl (fun hc h1 => ?_) (fun hc h1 => ?_)
    · skip
      refine aw_seq ?_
      refine aw_regionA (is := [0, 1, 2, 3]) rfl ?_
      refine rp rfl w0 rfl (pu_move (r := .ptr _ _ _ _ _) rfl) ?_
      refine rs rfl w0 rfl (bs_val tok cI [2, 3] rfl rfl rfl (by repeat (first | exact Els.nil _ | apply Els.cons (cs := [.d _]) rfl rfl rfl | apply Els.cons (cs := _ :: _) rfl rfl rfl)) rfl rfl rfl (by repeat (first | exact AllDD.nil | (apply AllDD.cons; (repeat (first | exact AllD.nil | apply AllD.cons))))) rfl) ?_
      obtain ⟨v4, hv4, h1⟩ := bnd h1
      refine rw1 rfl w0 rfl (c_callP [0] 300 (l00Src_among_b_c hv4) rfl rfl) ?_
      refine rp rfl w0 rfl (pu_assign (r := .d _) rfl) ?_
      refine ra_nil ?_
      refine then_n ?_
      refine aw_seq ?_
      refine aw_regionA (is := [0, 1, 2, 3, 4, 5, 6, 7, 8, 9, 10, 11, 12, 13]) rfl ?_
      refine rp rfl w0 rfl (pu_move (r := .d _) rfl) ?_
      refine rl rfl w0 rfl (bx_fa tok rfl rfl rfl rfl rfl rfl rfl) ?_
      refine rl rfl w0 rfl (bx_ld1 tok rfl rfl rfl rfl rfl) ?_
      refine rp rfl w0 rfl (pw_mul rfl rfl) ?_
      refine rp rfl w0 rfl (pu_move (r := .d _) rfl) ?_
      refine rl rfl w0 rfl (bx_fa tok rfl rfl rfl rfl rfl rfl rfl) ?_
      refine rl rfl w0 rfl (bx_ld1 tok rfl rfl rfl rfl rfl) ?_
      refine rp rfl w0 rfl (pw_mul rfl rfl) ?_
      refine rp rfl w0 rfl (pu_move (r := .d _) rfl) ?_
      refine rl rfl w0 rfl (bx_fa tok rfl rfl rfl rfl rfl rfl rfl) ?_
      refine rl rfl w0 rfl (bx_ld1 tok rfl rfl rfl rfl rfl) ?_
      refine rp rfl w0 rfl (pw_mul rfl rfl) ?_
      refine rp rfl w0 rfl (pu_build (C0 := [.d (.v (.int .i64 0)), .d (.v (.int .i64 0)), .d (.v (.int .i64 0))]) tok rfl rfl (by repeat (first | exact Plc.nil | apply Plc.cons rfl)) rfl (by repeat (first | exact Bld.nil _ | apply Bld.cons (cs := [.d _]) rfl rfl rfl rfl (by repeat (first | exact Spl.z _ | apply Spl.t | apply Spl.d)) | apply Bld.cons (cs := [.own _ _ _]) rfl rfl rfl rfl (by repeat (first | exact Spl.z _ | apply Spl.t | apply Spl.d)) | apply Bld.cons (cs := [.ptr _ _ _ _ _]) rfl rfl rfl rfl (by repeat (first | exact Spl.z _ | apply Spl.t | apply Spl.d)) | apply Bld.cons (cs := [.fn _ _]) rfl rfl rfl rfl (by repeat (first | exact Spl.z _ | apply Spl.t | apply Spl.d)) | apply Bld.cons (cs := _ :: _) rfl rfl rfl rfl (by repeat (first | exact Spl.z _ | apply Spl.t | apply Spl.d))))) ?_
      refine rw0 rfl w0 (bx_st (cs := _ :: _) tok rfl rfl rfl rfl rfl rfl rfl) ?_
      refine ra_nil ?_
      refine then_n ?_
      refine aw_seq ?_
      refine aw_regionA (is := [0, 1, 2]) rfl ?_
      refine rl rfl w0 rfl (bx_fa tok rfl rfl rfl rfl rfl rfl rfl) ?_
      refine rl rfl w0 rfl (bx_ld1 tok rfl rfl rfl rfl rfl) ?_
      refine rp rfl w0 rfl (pu_gtr rfl rfl) ?_
      refine ra_nil ?_
      refine then_n ?_
      refine aw_if h1 rfl (fun hc h1 => ?_) (fun hc h1 => ?_)
      · skip
        refine aw_regionA (is := [0, 1, 2, 3]) rfl ?_
        refine rp rfl w0 rfl (pu_move (r := .own _ _ _) rfl) ?_
        obtain ⟨v5, hv5, h1⟩ := bnd h1
        refine rl rfl w0 rfl (ow_ix tok hv5 rfl rfl rfl rfl rfl rfl rfl rfl) ?_
        refine rl rfl w0 rfl (rw_ldN tok (atI_e hv5).2.1 rfl rfl rfl rfl rfl) ?_
        refine rw0 rfl w0 (bx_st (cs := _ :: _) tok rfl rfl rfl rfl rfl rfl rfl) ?_
        refine ra_nil ?_
        refine then_n ?_
        cases h1
        exact wk [0, 1, 2, 3, 5]
      · skip
        refine aw_skip ?_
        refine then_n ?_
        cases h1
        exact wk [0, 1, 2, 3, 5]
    · skip
      refine aw_skip ?_
      refine then_n ?_
      cases h1
      exact wk [0, 1, 2, 3, 5]
  · skip
    refine aw_seq ?_
    refine aw_regionA (is := [0, 1]) rfl ?_
    refine rl rfl w0 rfl (bx_ldN tok rfl rfl rfl rfl) ?_
    refine rw0 rfl w0 (bx_st (cs := _ :: _) tok rfl rfl rfl rfl rfl rfl rfl) ?_
    refine ra_nil ?_
    refine then_n ?_
    refine aw_ret ?_
    cases h0
    exact retP_ (rs := [.cell 2 48]) 1 rfl rfl

theorem s_l10Draw_b_c {p0 : L00Src_} {r : Profile_ × L00Src_} (h0 : s_l10Draw_b_m p0 = some r) : FnC Try.prog 120 [.live [⟨138, 3, .av [[.d (.sl (List.map cU8 p0.code)), .d (.v (.int .i64 p0.at_)), .d (.v (.int .u64 p0.seed))]]⟩]] [.ptr 0 0 1 0 0] [.live [⟨138, 3, .av [[.d (.sl (List.map cU8 r.2.code)), .d (.v (.int .i64 r.2.at_)), .d (.v (.int .u64 r.2.seed))]]⟩]] (.agg [.d (.v (.int .i64 r.1.Teeth)), .d (.v (.int .i64 r.1.Module)), .d (.v (.int .i64 r.1.Addendum)), .d (.v (.int .i64 r.1.Angle.Sin)), .d (.v (.int .i64 r.1.Angle.Cos)), .d (.v (.int .i64 r.1.Angle.Hyp))]) := by
  refine fnc_intro (T := tt) (N := 31) tok Try.func120 rfl rfl (by kernel_rfl) rfl rfl ?_
  unfold s_l10Draw_b_m at h0
  refine aw_seq ?_
  refine aw_regionA (is := [0]) rfl ?_
  refine rs rfl w0 rfl (st_alloc 3 (cs := [.d (.v (.int .i64 0)), .d (.v (.int .i64 0)), .d (.v (.int .i64 0)), .d (.v (.int .i64 0)), .d (.v (.int .i64 0)), .d (.v (.int .i64 0))]) tok rfl rfl rfl) ?_
  refine ra_nil ?_
  refine then_n ?_
  refine aw_seq ?_
  refine aw_regionA (is := [0, 1, 2, 3]) rfl ?_
  refine rp rfl w0 rfl (pu_move (r := .ptr _ _ _ _ _) rfl) ?_
  obtain ⟨v1, hv1, h0⟩ := bnd h0
  refine rw1 rfl w0 rfl (c_callP [0] 300 (l00Src_pick_b_c hv1) rfl rfl) ?_
  refine rp rfl w0 rfl (pw_add rfl rfl) ?_
  refine rp rfl w0 rfl (pu_assign (r := .d _) rfl) ?_
  refine ra_nil ?_
  refine then_n ?_
  obtain ⟨v4, h1, h0⟩ := bnd h0
  refine aw_cut ⟨updA (updA (updA ((fun _ => .dead)) 0 (.ptr 0 0 1 0 0)) 2 (.ptr 3 0 1 0 0)) 3 (.d (.v (.int .i64 v4.1))), lks [.live [⟨138, 3, .av [[.d (.sl (List.map cU8 v4.2.code)), .d (.v (.int .i64 v4.2.at_)), .d (.v (.int .u64 v4.2.seed))]]⟩], .no, .no, .live [⟨50, 6, .av [[.d (.v (.int .i64 0)), .d (.v (.int .i64 0)), .d (.v (.int .i64 0)), .d (.v (.int .i64 0)), .d (.v (.int .i64 0)), .d (.v (.int .i64 0))]]⟩]]⟩ ?_ ?_
  · skip
    refine aw_seq ?_
    refine aw_regionA (is := [0, 1]) rfl ?_
    refine rp rfl w0 rfl (pu_move (r := .ptr _ _ _ _ _) rfl) ?_
    obtain ⟨v2, hv2, h1⟩ := bnd h1
    refine rw1 rfl w0 rfl (c_callP [0] 300 (l00Src_one_b_c hv2) rfl rfl) ?_
    refine ra_nil ?_
    refine then_n ?_
    refine aw_ifB h1 rfl (fun hc h1 => ?_) (fun hc h1 => ?_)
    · skip
      refine aw_regionA (is := [0, 1, 2, 3]) rfl ?_
      refine rp rfl w0 rfl (pu_move (r := .ptr _ _ _ _ _) rfl) ?_
      refine rs rfl w0 rfl (bs_val tok cI [6, 240, 120] rfl rfl rfl (by repeat (first | exact Els.nil _ | apply Els.cons (cs := [.d _]) rfl rfl rfl | apply Els.cons (cs := _ :: _) rfl rfl rfl)) rfl rfl rfl (by repeat (first | exact AllDD.nil | (apply AllDD.cons; (repeat (first | exact AllD.nil | apply AllD.cons))))) rfl) ?_
      obtain ⟨v3, hv3, h1⟩ := bnd h1
      refine rw1 rfl w0 rfl (c_callP [0] 300 (l00Src_among_b_c hv3) rfl rfl) ?_
      refine rp rfl w0 rfl (pu_assign (r := .d _) rfl) ?_
      refine ra_nil ?_
      refine then_n ?_
      cases h1
      exact wk [0, 1, 2, 3]
    · skip
      refine aw_skip ?_
      refine then_n ?_
      cases h1
      exact wk [0, 1, 2, 3]
  · skip
    refine aw_seq ?_
    refine aw_regionA (is := [0, 1, 2, 3]) rfl ?_
    refine rp rfl w0 rfl (pu_move (r := .ptr _ _ _ _ _) rfl) ?_
    obtain ⟨v5, hv5, h0⟩ := bnd h0
    refine rw1 rfl w0 rfl (c_callP [0] 300 (l00Src_pick_b_c hv5) rfl rfl) ?_
    refine rp rfl w0 rfl (pw_add rfl rfl) ?_
    refine rp rfl w0 rfl (pu_assign (r := .d _) rfl) ?_
    refine ra_nil ?_
    refine then_n ?_
    obtain ⟨v8, h1, h0⟩ := bnd h0
    refine aw_cut ⟨updA (updA (updA (updA ((fun _ => .dead)) 0 (.ptr 0 0 1 0 0)) 2 (.ptr 3 0 1 0 0)) 3 (.d (.v (.int .i64 v4.1)))) 4 (.d (.v (.int .i64 v8.1))), lks [.live [⟨138, 3, .av [[.d (.sl (List.map cU8 v8.2.code)), .d (.v (.int .i64 v8.2.at_)), .d (.v (.int .u64 v8.2.seed))]]⟩], .no, .no, .live [⟨50, 6, .av [[.d (.v (.int .i64 0)), .d (.v (.int .i64 0)), .d (.v (.int .i64 0)), .d (.v (.int .i64 0)), .d (.v (.int .i64 0)), .d (.v (.int .i64 0))]]⟩]]⟩ ?_ ?_
    · skip
      refine aw_seq ?_
      refine aw_regionA (is := [0, 1]) rfl ?_
      refine rp rfl w0 rfl (pu_move (r := .ptr _ _ _ _ _) rfl) ?_
      obtain ⟨v6, hv6, h1⟩ := bnd h1
      refine rw1 rfl w0 rfl (c_callP [0] 300 (l00Src_one_b_c hv6) rfl rfl) ?_
      refine ra_nil ?_
      refine then_n ?_
      refine aw_ifB h1 rfl (fun hc h1 => ?_) (fun hc h1 => ?_)
      · skip
        refine aw_regionA (is := [0, 1, 2, 3]) rfl ?_
        refine rp rfl w0 rfl (pu_move (r := .ptr _ _ _ _ _) rfl) ?_
        refine rs rfl w0 rfl (bs_val tok cI [1, 500] rfl rfl rfl (by repeat (first | exact Els.nil _ | apply Els.cons (cs := [.d _]) rfl rfl rfl | apply Els.cons (cs := _ :: _) rfl rfl rfl)) rfl rfl rfl (by repeat (first | exact AllDD.nil | (apply AllDD.cons; (repeat (first | exact AllD.nil | apply AllD.cons))))) rfl) ?_
        obtain ⟨v7, hv7, h1⟩ := bnd h1
        refine rw1 rfl w0 rfl (c_callP [0] 300 (l00Src_among_b_c hv7) rfl rfl) ?_
        refine rp rfl w0 rfl (pu_assign (r := .d _) rfl) ?_
        refine ra_nil ?_
        refine then_n ?_
        cases h1
        exact wk [0, 1, 2, 3]
      · skip
        refine aw_skip ?_
        refine then_n ?_
        cases h1
        exact wk [0, 1, 2, 3]
    · skip
      refine aw_seq ?_
      refine aw_regionA (is := [0, 1, 2, 3]) rfl ?_
      refine rp rfl w0 rfl (pu_move (r := .ptr _ _ _ _ _) rfl) ?_
      obtain ⟨v9, hv9, h0⟩ := bnd h0
      refine rw1 rfl w0 rfl (c_callP [0] 300 (l00Src_pick_b_c hv9) rfl rfl) ?_
      refine rp rfl w0 rfl (pw_add rfl rfl) ?_
      refine rp rfl w0 rfl (pu_assign (r := .d _) rfl) ?_
      refine ra_nil ?_
      refine then_n ?_
      refine aw_seq ?_
      refine aw_regionA (is := [0, 1, 2, 3, 4, 5, 6]) rfl ?_
      refine rp rfl w0 rfl (pu_move (r := .d _) rfl) ?_
      refine rp rfl w0 rfl (pu_move (r := .d _) rfl) ?_
      refine rp rfl w0 rfl (pu_move (r := .d _) rfl) ?_
      refine rp rfl w0 rfl (pu_move (r := .ptr _ _ _ _ _) rfl) ?_
      obtain ⟨v10, hv10, h0⟩ := bnd h0
      refine rw1 rfl w0 rfl (c_callP [0] 300 (s_l10DrawAngle_b_c hv10) rfl rfl) ?_
      refine rp rfl w0 rfl (pu_build (C0 := [.d (.v (.int .i64 0)), .d (.v (.int .i64 0)), .d (.v (.int .i64 0)), .d (.v (.int .i64 0)), .d (.v (.int .i64 0)), .d (.v (.int .i64 0))]) tok rfl rfl (by repeat (first | exact Plc.nil | apply Plc.cons rfl)) rfl (by repeat (first | exact Bld.nil _ | apply Bld.cons (cs := [.d _]) rfl rfl rfl rfl (by repeat (first | exact Spl.z _ | apply Spl.t | apply Spl.d)) | apply Bld.cons (cs := [.own _ _ _]) rfl rfl rfl rfl (by repeat (first | exact Spl.z _ | apply Spl.t | apply Spl.d)) | apply Bld.cons (cs := [.ptr _ _ _ _ _]) rfl rfl rfl rfl (by repeat (first | exact Spl.z _ | apply Spl.t | apply Spl.d)) | apply Bld.cons (cs := [.fn _ _]) rfl rfl rfl rfl (by repeat (first | exact Spl.z _ | apply Spl.t | apply Spl.d)) | apply Bld.cons (cs := _ :: _) rfl rfl rfl rfl (by repeat (first | exact Spl.z _ | apply Spl.t | apply Spl.d))))) ?_
      refine rw0 rfl w0 (bx_st (cs := _ :: _) tok rfl rfl rfl rfl rfl rfl rfl) ?_
      refine ra_nil ?_
      refine then_n ?_
      refine aw_ret ?_
      cases h0
      exact retP_ (rs := [.cell 2 50]) 1 rfl rfl

theorem s_l10Bent_b_c {p0 : L00Src_} {r : Profile_ × L00Src_} (h0 : s_l10Bent_b_m p0 = some r) : FnC Try.prog 92 [.live [⟨138, 3, .av [[.d (.sl (List.map cU8 p0.code)), .d (.v (.int .i64 p0.at_)), .d (.v (.int .u64 p0.seed))]]⟩]] [.ptr 0 0 1 0 0] [.live [⟨138, 3, .av [[.d (.sl (List.map cU8 r.2.code)), .d (.v (.int .i64 r.2.at_)), .d (.v (.int .u64 r.2.seed))]]⟩]] (.agg [.d (.v (.int .i64 r.1.Teeth)), .d (.v (.int .i64 r.1.Module)), .d (.v (.int .i64 r.1.Addendum)), .d (.v (.int .i64 r.1.Angle.Sin)), .d (.v (.int .i64 r.1.Angle.Cos)), .d (.v (.int .i64 r.1.Angle.Hyp))]) := by
  refine fnc_intro (T := tt) (N := 35) tok Try.func92 rfl rfl (by kernel_rfl) rfl rfl ?_
  unfold s_l10Bent_b_m at h0
  refine aw_seq ?_
  refine aw_regionA (is := [0]) rfl ?_
  refine rs rfl w0 rfl (st_alloc 3 (cs := [.d (.v (.int .i64 0)), .d (.v (.int .i64 0)), .d (.v (.int .i64 0)), .d (.v (.int .i64 0)), .d (.v (.int .i64 0)), .d (.v (.int .i64 0))]) tok rfl rfl rfl) ?_
  refine ra_nil ?_
  refine then_n ?_
  refine aw_seq ?_
  refine aw_regionA (is := [0, 1, 2, 3]) rfl ?_
  refine rp rfl w0 rfl (pu_move (r := .ptr _ _ _ _ _) rfl) ?_
  obtain ⟨v1, hv1, h0⟩ := bnd h0
  refine rw1 rfl w0 rfl (c_callP [0] 300 (s_l10Draw_b_c hv1) rfl rfl) ?_
  refine rs rfl w0 rfl (st_alloc 4 (cs := [.d (.v (.int .i64 0)), .d (.v (.int .i64 0)), .d (.v (.int .i64 0)), .d (.v (.int .i64 0)), .d (.v (.int .i64 0)), .d (.v (.int .i64 0))]) tok rfl rfl rfl) ?_
  refine rw0 rfl w0 (bx_st (cs := _ :: _) tok rfl rfl rfl rfl rfl rfl rfl) ?_
  refine ra_nil ?_
  refine then_n ?_
  obtain ⟨v6, h1, h0⟩ := bnd h0
  refine aw_cut ⟨updA (updA ((fun _ => .dead)) 2 (.ptr 3 0 1 0 0)) 3 (.ptr 4 0 1 0 0), lks [.live [⟨138, 3, .av [[.d (.sl (List.map cU8 v6.1.code)), .d (.v (.int .i64 v6.1.at_)), .d (.v (.int .u64 v6.1.seed))]]⟩], .no, .no, .live [⟨50, 6, .av [[.d (.v (.int .i64 0)), .d (.v (.int .i64 0)), .d (.v (.int .i64 0)), .d (.v (.int .i64 0)), .d (.v (.int .i64 0)), .d (.v (.int .i64 0))]]⟩], .live [⟨50, 6, .av [[.d (.v (.int .i64 v6.2.Teeth)), .d (.v (.int .i64 v6.2.Module)), .d (.v (.int .i64 v6.2.Addendum)), .d (.v (.int .i64 v6.2.Angle.Sin)), .d (.v (.int .i64 v6.2.Angle.Cos)), .d (.v (.int .i64 v6.2.Angle.Hyp))]]⟩]]⟩ ?_ ?_
  · skip
    refine aw_seq ?_
    refine aw_regionA (is := [0, 1]) rfl ?_
    refine rp rfl w0 rfl (pu_move (r := .ptr _ _ _ _ _) rfl) ?_
    obtain ⟨v2, hv2, h1⟩ := bnd h1
    refine rw1 rfl w0 rfl (c_callP [0] 300 (l00Src_pick_b_c hv2) rfl rfl) ?_
    refine ra_nil ?_
    refine then_n ?_
    refine aw_block ?_
    refine aw_seq ?_
    refine aw_regionA (is := [0, 1]) rfl ?_
    refine rp rfl w0 rfl (pu_eql rfl rfl) ?_
    refine rp rfl w0 rfl (pu_assign (r := .d _) rfl) ?_
    refine ra_nil ?_
    refine then_n ?_
    refine aw_if h1 rfl (fun hc h1 => ?_) (fun hc h1 => ?_)
    · skip
      refine aw_regionA (is := [0, 1, 2, 3, 4]) rfl ?_
      refine rp rfl w0 rfl (pu_move (r := .ptr _ _ _ _ _) rfl) ?_
      refine rs rfl w0 rfl (bs_val tok cI [5, 241] rfl rfl rfl (by repeat (first | exact Els.nil _ | apply Els.cons (cs := [.d _]) rfl rfl rfl | apply Els.cons (cs := _ :: _) rfl rfl rfl)) rfl rfl rfl (by repeat (first | exact AllDD.nil | (apply AllDD.cons; (repeat (first | exact AllD.nil | apply AllD.cons))))) rfl) ?_
      obtain ⟨v3, hv3, h1⟩ := bnd h1
      refine rw1 rfl w0 rfl (c_callP [0] 300 (l00Src_among_b_c hv3) rfl rfl) ?_
      refine rl rfl w0 rfl (bx_fa tok rfl rfl rfl rfl rfl rfl rfl) ?_
      refine rw0 rfl w0 (bx_st (cs := [.d _]) tok rfl rfl rfl rfl rfl rfl rfl) ?_
      refine ra_nil ?_
      refine block_n ?_
      refine then_n ?_
      cases h1
      exact wk [0, 1, 2, 3, 4]
    · skip
      refine aw_seq ?_
      refine aw_regionA (is := [0, 1]) rfl ?_
      refine rp rfl w0 rfl (pu_eql rfl rfl) ?_
      refine rp rfl w0 rfl (pu_assign (r := .d _) rfl) ?_
      refine ra_nil ?_
      refine then_n ?_
      refine aw_if h1 rfl (fun hc h1 => ?_) (fun hc h1 => ?_)
      · skip
        refine aw_regionA (is := [0, 1, 2, 3, 4]) rfl ?_
        refine rp rfl w0 rfl (pu_move (r := .ptr _ _ _ _ _) rfl) ?_
        refine rs rfl w0 rfl (bs_val tok cI [0, 501] rfl rfl rfl (by repeat (first | exact Els.nil _ | apply Els.cons (cs := [.d _]) rfl rfl rfl | apply Els.cons (cs := _ :: _) rfl rfl rfl)) rfl rfl rfl (by repeat (first | exact AllDD.nil | (apply AllDD.cons; (repeat (first | exact AllD.nil | apply AllD.cons))))) rfl) ?_
        obtain ⟨v4, hv4, h1⟩ := bnd h1
        refine rw1 rfl w0 rfl (c_callP [0] 300 (l00Src_among_b_c hv4) rfl rfl) ?_
        refine rl rfl w0 rfl (bx_fa tok rfl rfl rfl rfl rfl rfl rfl) ?_
        refine rw0 rfl w0 (bx_st (cs := [.d _]) tok rfl rfl rfl rfl rfl rfl rfl) ?_
        refine ra_nil ?_
        refine block_n ?_
        refine then_n ?_
        cases h1
        exact wk [0, 1, 2, 3, 4]
      · skip
        refine aw_seq ?_
        refine aw_regionA (is := [0, 1]) rfl ?_
        refine rp rfl w0 rfl (pu_eql rfl rfl) ?_
        refine rp rfl w0 rfl (pu_assign (r := .d _) rfl) ?_
        refine ra_nil ?_
        refine then_n ?_
        refine aw_if h1 rfl (fun hc h1 => ?_) (fun hc h1 => ?_)
        · skip
          refine aw_regionA (is := [0, 1, 2, 3, 4]) rfl ?_
          refine rp rfl w0 rfl (pu_move (r := .ptr _ _ _ _ _) rfl) ?_
          refine rs rfl w0 rfl (bs_val tok cI [0, 21] rfl rfl rfl (by repeat (first | exact Els.nil _ | apply Els.cons (cs := [.d _]) rfl rfl rfl | apply Els.cons (cs := _ :: _) rfl rfl rfl)) rfl rfl rfl (by repeat (first | exact AllDD.nil | (apply AllDD.cons; (repeat (first | exact AllD.nil | apply AllD.cons))))) rfl) ?_
          obtain ⟨v5, hv5, h1⟩ := bnd h1
          refine rw1 rfl w0 rfl (c_callP [0] 300 (l00Src_among_b_c hv5) rfl rfl) ?_
          refine rl rfl w0 rfl (bx_fa tok rfl rfl rfl rfl rfl rfl rfl) ?_
          refine rw0 rfl w0 (bx_st (cs := [.d _]) tok rfl rfl rfl rfl rfl rfl rfl) ?_
          refine ra_nil ?_
          refine block_n ?_
          refine then_n ?_
          cases h1
          exact wk [0, 1, 2, 3, 4]
        · skip
          refine aw_seq ?_
          refine aw_regionA (is := [0, 1]) rfl ?_
          refine rp rfl w0 rfl (pu_eql rfl rfl) ?_
          refine rp rfl w0 rfl (pu_assign (r := .d _) rfl) ?_
          refine ra_nil ?_
          refine then_n ?_
          refine aw_if h1 rfl (fun hc h1 => ?_) (fun hc h1 => ?_)
          · skip
            refine aw_regionA (is := [0, 1, 2, 3, 4, 5, 6]) rfl ?_
            refine rl rfl w0 rfl (bx_fa tok rfl rfl rfl rfl rfl rfl rfl) ?_
            refine rl rfl w0 rfl (bx_fa tok rfl rfl rfl rfl rfl rfl rfl) ?_
            refine rl rfl w0 rfl (bx_ld1 tok rfl rfl rfl rfl rfl) ?_
            refine rp rfl w0 rfl (pw_add rfl rfl) ?_
            refine rl rfl w0 rfl (bx_fa tok rfl rfl rfl rfl rfl rfl rfl) ?_
            refine rl rfl w0 rfl (bx_fa tok rfl rfl rfl rfl rfl rfl rfl) ?_
            refine rw0 rfl w0 (bx_st (cs := [.d _]) tok rfl rfl rfl rfl rfl rfl rfl) ?_
            refine ra_nil ?_
            refine block_n ?_
            refine then_n ?_
            cases h1
            exact wk [0, 1, 2, 3, 4]
          · skip
            refine aw_skip ?_
            refine block_n ?_
            refine then_n ?_
            cases h1
            exact wk [0, 1, 2, 3, 4]
  · skip
    refine aw_seq ?_
    refine aw_regionA (is := [0, 1]) rfl ?_
    refine rl rfl w0 rfl (bx_ldN tok rfl rfl rfl rfl) ?_
    refine rw0 rfl w0 (bx_st (cs := _ :: _) tok rfl rfl rfl rfl rfl rfl rfl) ?_
    refine ra_nil ?_
    refine then_n ?_
    refine aw_ret ?_
    cases h0
    exact retP_ (rs := [.cell 2 50]) 1 rfl rfl

theorem s_DrawGearDrawing_c {p0 : List Int} {r : Profile_} (h0 : s_DrawGearDrawing_m p0 = some r) : FnC Try.prog 46 [] [.d (.sl (List.map cU8 p0))] [] (.agg [.d (.v (.int .i64 r.Teeth)), .d (.v (.int .i64 r.Module)), .d (.v (.int .i64 r.Addendum)), .d (.v (.int .i64 r.Angle.Sin)), .d (.v (.int .i64 r.Angle.Cos)), .d (.v (.int .i64 r.Angle.Hyp))]) := by
  refine fnc_intro (T := tt) (N := 6) tok Try.func46 rfl rfl (by kernel_rfl) rfl rfl ?_
  unfold s_DrawGearDrawing_m at h0
  refine aw_seq ?_
  refine aw_regionA (is := [0]) rfl ?_
  refine rs rfl w0 rfl (st_alloc 3 (cs := [.d (.v (.int .i64 0)), .d (.v (.int .i64 0)), .d (.v (.int .i64 0)), .d (.v (.int .i64 0)), .d (.v (.int .i64 0)), .d (.v (.int .i64 0))]) tok rfl rfl rfl) ?_
  refine ra_nil ?_
  refine then_n ?_
  refine aw_seq ?_
  refine aw_regionA (is := [0, 1, 2, 3]) rfl ?_
  refine rp rfl w0 rfl (pu_move (r := .d _) rfl) ?_
  obtain ⟨v1, hv1, h0⟩ := bnd h0
  refine rs rfl w0 rfl (c_call 4 (s_l00From_c hv1) rfl rfl rfl) ?_
  obtain ⟨v2, hv2, h0⟩ := bnd h0
  refine rw1 rfl w0 rfl (c_callP [4] 300 (s_l10Bent_b_c hv2) rfl rfl) ?_
  refine rw0 rfl w0 (bx_st (cs := _ :: _) tok rfl rfl rfl rfl rfl rfl rfl) ?_
  refine ra_nil ?_
  refine then_n ?_
  refine aw_ret ?_
  cases h0
  exact ret0_ (rs := [.cell 2 50]) rfl

theorem i_within_c {p0 : Int} {p1 : Int} {p2 : Int} {r : Bool} (h0 : i_within_m p0 p1 p2 = some r) : FnC Try.prog 55 [] [.d (.v (.int .i64 p0)), .d (.v (.int .i64 p1)), .d (.v (.int .i64 p2))] [] (.d (.v (.bool r))) := by
  refine fnc_intro (T := tt) (N := 15) tok Try.func55 rfl rfl (by kernel_rfl) rfl rfl ?_
  unfold i_within_m at h0
  refine aw_seq ?_
  refine aw_regionA (is := [0]) rfl ?_
  refine rp rfl w0 rfl (pu_assign (r := .d _) rfl) ?_
  refine ra_nil ?_
  refine then_n ?_
  refine aw_seq ?_
  refine aw_regionA (is := [0, 1, 2, 3, 4, 5, 6, 7, 8]) rfl ?_
  refine rp rfl w0 rfl (pu_move (r := .d _) rfl) ?_
  refine rp rfl w0 rfl (pu_move (r := .d _) rfl) ?_
  refine rp rfl w0 rfl (pu_geq rfl rfl) ?_
  refine rp rfl w0 rfl (pu_move (r := .d _) rfl) ?_
  refine ra_if (u := 10) h0 rfl (fun hc h0 => ?_) (fun hc h0 => ?_)
  · skip
    refine rp rfl (w1 rfl rfl rfl) rfl (pu_move (r := .d _) rfl) ?_
    refine rp rfl (w1 rfl rfl rfl) rfl (pu_move (r := .d _) rfl) ?_
    refine rp rfl (w1 rfl rfl rfl) rfl (pu_leq rfl rfl) ?_
    refine rp rfl w0 rfl (pu_pick_t (r := .d _) rfl rfl) ?_
    refine rp rfl w0 rfl (pu_assign (r := .d _) rfl) ?_
    refine ra_nil ?_
    refine then_n ?_
    refine aw_ret ?_
    cases h0
    exact ret0_ (rs := [.tmp 6]) rfl
  · skip
    refine rk rfl rfl rfl (by first | exact .inl rfl | exact .inr rfl) rfl ?_
    refine rk rfl rfl rfl (by first | exact .inl rfl | exact .inr rfl) rfl ?_
    refine rk rfl rfl rfl (by first | exact .inl rfl | exact .inr rfl) rfl ?_
    refine rp rfl w0 rfl (pu_pick_f (r := .d _) rfl rfl) ?_
    refine rp rfl w0 rfl (pu_assign (r := .d _) rfl) ?_
    refine ra_nil ?_
    refine then_n ?_
    refine aw_ret ?_
    cases h0
    exact ret0_ (rs := [.tmp 6]) rfl

theorem i_toothed_c {p0 : Int} {r : Bool} (h0 : i_toothed_m p0 = some r) : FnC Try.prog 126 [] [.d (.v (.int .i64 p0))] [] (.d (.v (.bool r))) := by
  refine fnc_intro (T := tt) (N := 5) tok Try.func126 rfl rfl (by kernel_rfl) rfl rfl ?_
  unfold i_toothed_m at h0
  refine aw_seq ?_
  refine aw_regionA (is := [0]) rfl ?_
  refine rp rfl w0 rfl (pu_assign (r := .d _) rfl) ?_
  refine ra_nil ?_
  refine then_n ?_
  refine aw_seq ?_
  refine aw_regionA (is := [0, 1, 2]) rfl ?_
  refine rp rfl w0 rfl (pu_move (r := .d _) rfl) ?_
  obtain ⟨v1, hv1, h0⟩ := bnd h0
  refine rs rfl w0 rfl (c_call 3 (i_within_c hv1) rfl rfl rfl) ?_
  refine rp rfl w0 rfl (pu_assign (r := .d _) rfl) ?_
  refine ra_nil ?_
  refine then_n ?_
  refine aw_ret ?_
  cases h0
  exact ret0_ (rs := [.tmp 2]) rfl

theorem i_ValidAngle_c {p0 : Angle_} {r : Bool} (h0 : i_ValidAngle_m p0 = some r) : FnC Try.prog 127 [] [.agg [.d (.v (.int .i64 p0.Sin)), .d (.v (.int .i64 p0.Cos)), .d (.v (.int .i64 p0.Hyp))]] [] (.d (.v (.bool r))) := by
  refine fnc_intro (T := tt) (N := 37) tok Try.func127 rfl rfl (by kernel_rfl) rfl rfl ?_
  unfold i_ValidAngle_m at h0
  refine aw_seq ?_
  refine aw_regionA (is := [0, 1]) rfl ?_
  refine rs rfl w0 rfl (st_box 3 (cs := _ :: _) rfl rfl rfl) ?_
  refine rp rfl w0 rfl (pu_assign (r := .d _) rfl) ?_
  refine ra_nil ?_
  refine then_n ?_
  obtain ⟨v4, h1, h0⟩ := bnd h0
  refine aw_cut ⟨updA (updA ((fun _ => .dead)) 1 (.ptr 3 0 1 0 0)) 3 (.d (.v (.bool v4))), lks [.no, .no, .no, .live [⟨48, 3, .av [[.d (.v (.int .i64 p0.Sin)), .d (.v (.int .i64 p0.Cos)), .d (.v (.int .i64 p0.Hyp))]]⟩]]⟩ ?_ ?_
  · skip
    refine aw_regionA (is := [0, 1, 2, 3, 4, 5, 6, 7, 8, 9, 10, 11, 12, 13]) rfl ?_
    refine rl rfl w0 rfl (bx_fa tok rfl rfl rfl rfl rfl rfl rfl) ?_
    refine rl rfl w0 rfl (bx_ld1 tok rfl rfl rfl rfl rfl) ?_
    obtain ⟨v1, hv1, h1⟩ := bnd h1
    refine rs rfl w0 rfl (c_call 4 (i_within_c hv1) rfl rfl rfl) ?_
    refine rp rfl w0 rfl (pu_move (r := .d _) rfl) ?_
    refine ra_ifB (u := 7) h1 rfl (fun hc h1 => ?_) (fun hc h1 => ?_)
    · skip
      refine rl rfl (w1 rfl rfl rfl) rfl (bx_fa tok rfl rfl rfl rfl rfl rfl rfl) ?_
      refine rl rfl (w1 rfl rfl rfl) rfl (bx_ld1 tok rfl rfl rfl rfl rfl) ?_
      obtain ⟨v2, hv2, h1⟩ := bnd h1
      refine rs rfl (w1 rfl rfl rfl) rfl (c_call 4 (i_within_c hv2) rfl rfl rfl) ?_
      refine rp rfl w0 rfl (pu_pick_t (r := .d _) rfl rfl) ?_
      refine rp rfl w0 rfl (pu_move (r := .d _) rfl) ?_
      refine ra_ifB (u := 12) h1 rfl (fun hc h1 => ?_) (fun hc h1 => ?_)
      · skip
        refine rl rfl (w1 rfl rfl rfl) rfl (bx_fa tok rfl rfl rfl rfl rfl rfl rfl) ?_
        refine rl rfl (w1 rfl rfl rfl) rfl (bx_ld1 tok rfl rfl rfl rfl rfl) ?_
        obtain ⟨v3, hv3, h1⟩ := bnd h1
        refine rs rfl (w1 rfl rfl rfl) rfl (c_call 4 (i_within_c hv3) rfl rfl rfl) ?_
        refine rp rfl w0 rfl (pu_pick_t (r := .d _) rfl rfl) ?_
        refine rp rfl w0 rfl (pu_assign (r := .d _) rfl) ?_
        refine ra_nil ?_
        refine then_n ?_
        cases h1
        exact wk [0, 1, 2, 3]
      · skip
        refine rk rfl rfl rfl (by first | exact .inl rfl | exact .inr rfl) rfl ?_
        refine rk rfl rfl rfl (by first | exact .inl rfl | exact .inr rfl) rfl ?_
        refine rk rfl rfl rfl (by first | exact .inl rfl | exact .inr rfl) rfl ?_
        refine rp rfl w0 rfl (pu_pick_f (r := .d _) rfl rfl) ?_
        refine rp rfl w0 rfl (pu_assign (r := .d _) rfl) ?_
        refine ra_nil ?_
        refine then_n ?_
        cases h1
        exact wk [0, 1, 2, 3]
    · skip
      refine rk rfl rfl rfl (by first | exact .inl rfl | exact .inr rfl) rfl ?_
      refine rk rfl rfl rfl (by first | exact .inl rfl | exact .inr rfl) rfl ?_
      refine rk rfl rfl rfl (by first | exact .inl rfl | exact .inr rfl) rfl ?_
      refine rp rfl w0 rfl (pu_pick_f (r := .d _) rfl rfl) ?_
      refine rp rfl w0 rfl (pu_move (r := .d _) rfl) ?_
      refine rk rfl rfl rfl (by first | exact .inl rfl | exact .inr rfl) rfl ?_
      refine rk rfl rfl rfl (by first | exact .inl rfl | exact .inr rfl) rfl ?_
      refine rk rfl rfl rfl (by first | exact .inl rfl | exact .inr rfl) rfl ?_
      refine rp rfl w0 rfl (pu_pick_f (r := .d _) rfl rfl) ?_
      refine rp rfl w0 rfl (pu_assign (r := .d _) rfl) ?_
      refine ra_nil ?_
      refine then_n ?_
      cases h1
      exact wk [0, 1, 2, 3]
  · skip
    refine aw_seq ?_
    refine aw_regionA (is := [0, 1, 2, 3, 4, 5, 6, 7, 8, 9, 10, 11, 12, 13, 14, 15, 16, 17, 18, 19, 20]) rfl ?_
    refine rp rfl w0 rfl (pu_move (r := .d _) rfl) ?_
    refine rp rfl w0 rfl (pu_move (r := .d _) rfl) ?_
    refine ra_ifB (u := 18) h0 rfl (fun hc h0 => ?_) (fun hc h0 => ?_)
    · skip
      refine rl rfl (w1 rfl rfl rfl) rfl (bx_fa tok rfl rfl rfl rfl rfl rfl rfl) ?_
      refine rl rfl (w1 rfl rfl rfl) rfl (bx_ld1 tok rfl rfl rfl rfl rfl) ?_
      refine rl rfl (w1 rfl rfl rfl) rfl (bx_fa tok rfl rfl rfl rfl rfl rfl rfl) ?_
      refine rl rfl (w1 rfl rfl rfl) rfl (bx_ld1 tok rfl rfl rfl rfl rfl) ?_
      refine rp rfl (w1 rfl rfl rfl) rfl (pw_mul rfl rfl) ?_
      refine rl rfl (w1 rfl rfl rfl) rfl (bx_fa tok rfl rfl rfl rfl rfl rfl rfl) ?_
      refine rl rfl (w1 rfl rfl rfl) rfl (bx_ld1 tok rfl rfl rfl rfl rfl) ?_
      refine rl rfl (w1 rfl rfl rfl) rfl (bx_fa tok rfl rfl rfl rfl rfl rfl rfl) ?_
      refine rl rfl (w1 rfl rfl rfl) rfl (bx_ld1 tok rfl rfl rfl rfl rfl) ?_
      refine rp rfl (w1 rfl rfl rfl) rfl (pw_mul rfl rfl) ?_
      refine rp rfl (w1 rfl rfl rfl) rfl (pw_add rfl rfl) ?_
      refine rl rfl (w1 rfl rfl rfl) rfl (bx_fa tok rfl rfl rfl rfl rfl rfl rfl) ?_
      refine rl rfl (w1 rfl rfl rfl) rfl (bx_ld1 tok rfl rfl rfl rfl rfl) ?_
      refine rl rfl (w1 rfl rfl rfl) rfl (bx_fa tok rfl rfl rfl rfl rfl rfl rfl) ?_
      refine rl rfl (w1 rfl rfl rfl) rfl (bx_ld1 tok rfl rfl rfl rfl rfl) ?_
      refine rp rfl (w1 rfl rfl rfl) rfl (pw_mul rfl rfl) ?_
      refine rp rfl (w1 rfl rfl rfl) rfl (pu_eql rfl rfl) ?_
      refine rp rfl w0 rfl (pu_pick_t (r := .d _) rfl rfl) ?_
      refine rp rfl w0 rfl (pu_assign (r := .d _) rfl) ?_
      refine ra_nil ?_
      refine then_n ?_
      refine aw_ret ?_
      cases h0
      exact ret0_ (rs := [.tmp 2]) rfl
    · skip
      refine rk rfl rfl rfl (by first | exact .inl rfl | exact .inr rfl) rfl ?_
      refine rk rfl rfl rfl (by first | exact .inl rfl | exact .inr rfl) rfl ?_
      refine rk rfl rfl rfl (by first | exact .inl rfl | exact .inr rfl) rfl ?_
      refine rk rfl rfl rfl (by first | exact .inl rfl | exact .inr rfl) rfl ?_
      refine rk rfl rfl rfl (by first | exact .inl rfl | exact .inr rfl) rfl ?_
      refine rk rfl rfl rfl (by first | exact .inl rfl | exact .inr rfl) rfl ?_
      refine rk rfl rfl rfl (by first | exact .inl rfl | exact .inr rfl) rfl ?_
      refine rk rfl rfl rfl (by first | exact .inl rfl | exact .inr rfl) rfl ?_
      refine rk rfl rfl rfl (by first | exact .inl rfl | exact .inr rfl) rfl ?_
      refine rk rfl rfl rfl (by first | exact .inl rfl | exact .inr rfl) rfl ?_
      refine rk rfl rfl rfl (by first | exact .inl rfl | exact .inr rfl) rfl ?_
      refine rk rfl rfl rfl (by first | exact .inl rfl | exact .inr rfl) rfl ?_
      refine rk rfl rfl rfl (by first | exact .inl rfl | exact .inr rfl) rfl ?_
      refine rk rfl rfl rfl (by first | exact .inl rfl | exact .inr rfl) rfl ?_
      refine rk rfl rfl rfl (by first | exact .inl rfl | exact .inr rfl) rfl ?_
      refine rk rfl rfl rfl (by first | exact .inl rfl | exact .inr rfl) rfl ?_
      refine rk rfl rfl rfl (by first | exact .inl rfl | exact .inr rfl) rfl ?_
      refine rp rfl w0 rfl (pu_pick_f (r := .d _) rfl rfl) ?_
      refine rp rfl w0 rfl (pu_assign (r := .d _) rfl) ?_
      refine ra_nil ?_
      refine then_n ?_
      refine aw_ret ?_
      cases h0
      exact ret0_ (rs := [.tmp 2]) rfl

theorem i_ValidProfile_c {p0 : Profile_} {r : Bool} (h0 : i_ValidProfile_m p0 = some r) : FnC Try.prog 107 [] [.agg [.d (.v (.int .i64 p0.Teeth)), .d (.v (.int .i64 p0.Module)), .d (.v (.int .i64 p0.Addendum)), .d (.v (.int .i64 p0.Angle.Sin)), .d (.v (.int .i64 p0.Angle.Cos)), .d (.v (.int .i64 p0.Angle.Hyp))]] [] (.d (.v (.bool r))) := by
  refine fnc_intro (T := tt) (N := 21) tok Try.func107 rfl rfl (by kernel_rfl) rfl rfl ?_
  unfold i_ValidProfile_m at h0
  refine aw_seq ?_
  refine aw_regionA (is := [0, 1]) rfl ?_
  refine rs rfl w0 rfl (st_box 3 (cs := _ :: _) rfl rfl rfl) ?_
  refine rp rfl w0 rfl (pu_assign (r := .d _) rfl) ?_
  refine ra_nil ?_
  refine then_n ?_
  refine aw_seq ?_
  refine aw_regionA (is := [0, 1, 2, 3, 4, 5, 6, 7, 8, 9, 10, 11, 12, 13, 14, 15, 16, 17, 18]) rfl ?_
  refine rl rfl w0 rfl (bx_fa tok rfl rfl rfl rfl rfl rfl rfl) ?_
  refine rl rfl w0 rfl (bx_ld1 tok rfl rfl rfl rfl rfl) ?_
  obtain ⟨v1, hv1, h0⟩ := bnd h0
  refine rs rfl w0 rfl (c_call 4 (i_toothed_c hv1) rfl rfl rfl) ?_
  refine rp rfl w0 rfl (pu_move (r := .d _) rfl) ?_
  refine ra_ifB (u := 6) h0 rfl (fun hc h0 => ?_) (fun hc h0 => ?_)
  · skip
    refine rl rfl (w1 rfl rfl rfl) rfl (bx_fa tok rfl rfl rfl rfl rfl rfl rfl) ?_
    refine rl rfl (w1 rfl rfl rfl) rfl (bx_ld1 tok rfl rfl rfl rfl rfl) ?_
    obtain ⟨v2, hv2, h0⟩ := bnd h0
    refine rs rfl (w1 rfl rfl rfl) rfl (c_call 4 (i_within_c hv2) rfl rfl rfl) ?_
    refine rp rfl w0 rfl (pu_pick_t (r := .d _) rfl rfl) ?_
    refine rp rfl w0 rfl (pu_move (r := .d _) rfl) ?_
    refine ra_ifB (u := 11) h0 rfl (fun hc h0 => ?_) (fun hc h0 => ?_)
    · skip
      refine rl rfl (w1 rfl rfl rfl) rfl (bx_fa tok rfl rfl rfl rfl rfl rfl rfl) ?_
      refine rl rfl (w1 rfl rfl rfl) rfl (bx_ld1 tok rfl rfl rfl rfl rfl) ?_
      obtain ⟨v3, hv3, h0⟩ := bnd h0
      refine rs rfl (w1 rfl rfl rfl) rfl (c_call 4 (i_within_c hv3) rfl rfl rfl) ?_
      refine rp rfl w0 rfl (pu_pick_t (r := .d _) rfl rfl) ?_
      refine rp rfl w0 rfl (pu_move (r := .d _) rfl) ?_
      refine ra_ifB (u := 16) h0 rfl (fun hc h0 => ?_) (fun hc h0 => ?_)
      · skip
        refine rl rfl (w1 rfl rfl rfl) rfl (bx_fa tok rfl rfl rfl rfl rfl rfl rfl) ?_
        refine rl rfl (w1 rfl rfl rfl) rfl (bx_ldN tok rfl rfl rfl rfl) ?_
        obtain ⟨v4, hv4, h0⟩ := bnd h0
        refine rs rfl (w1 rfl rfl rfl) rfl (c_call 4 (i_ValidAngle_c hv4) rfl rfl rfl) ?_
        refine rp rfl w0 rfl (pu_pick_t (r := .d _) rfl rfl) ?_
        refine rp rfl w0 rfl (pu_assign (r := .d _) rfl) ?_
        refine ra_nil ?_
        refine then_n ?_
        refine aw_ret ?_
        cases h0
        exact ret0_ (rs := [.tmp 2]) rfl
      · skip
        refine rk rfl rfl rfl (by first | exact .inl rfl | exact .inr rfl) rfl ?_
        refine rk rfl rfl rfl (by first | exact .inl rfl | exact .inr rfl) rfl ?_
        refine rk rfl rfl rfl (by first | exact .inl rfl | exact .inr rfl) rfl ?_
        refine rp rfl w0 rfl (pu_pick_f (r := .d _) rfl rfl) ?_
        refine rp rfl w0 rfl (pu_assign (r := .d _) rfl) ?_
        refine ra_nil ?_
        refine then_n ?_
        refine aw_ret ?_
        cases h0
        exact ret0_ (rs := [.tmp 2]) rfl
    · skip
      refine rk rfl rfl rfl (by first | exact .inl rfl | exact .inr rfl) rfl ?_
      refine rk rfl rfl rfl (by first | exact .inl rfl | exact .inr rfl) rfl ?_
      refine rk rfl rfl rfl (by first | exact .inl rfl | exact .inr rfl) rfl ?_
      refine rp rfl w0 rfl (pu_pick_f (r := .d _) rfl rfl) ?_
      refine rp rfl w0 rfl (pu_move (r := .d _) rfl) ?_
      refine rk rfl rfl rfl (by first | exact .inl rfl | exact .inr rfl) rfl ?_
      refine rk rfl rfl rfl (by first | exact .inl rfl | exact .inr rfl) rfl ?_
      refine rk rfl rfl rfl (by first | exact .inl rfl | exact .inr rfl) rfl ?_
      refine rp rfl w0 rfl (pu_pick_f (r := .d _) rfl rfl) ?_
      refine rp rfl w0 rfl (pu_assign (r := .d _) rfl) ?_
      refine ra_nil ?_
      refine then_n ?_
      refine aw_ret ?_
      cases h0
      exact ret0_ (rs := [.tmp 2]) rfl
  · skip
    refine rk rfl rfl rfl (by first | exact .inl rfl | exact .inr rfl) rfl ?_
    refine rk rfl rfl rfl (by first | exact .inl rfl | exact .inr rfl) rfl ?_
    refine rk rfl rfl rfl (by first | exact .inl rfl | exact .inr rfl) rfl ?_
    refine rp rfl w0 rfl (pu_pick_f (r := .d _) rfl rfl) ?_
    refine rp rfl w0 rfl (pu_move (r := .d _) rfl) ?_
    refine rk rfl rfl rfl (by first | exact .inl rfl | exact .inr rfl) rfl ?_
    refine rk rfl rfl rfl (by first | exact .inl rfl | exact .inr rfl) rfl ?_
    refine rk rfl rfl rfl (by first | exact .inl rfl | exact .inr rfl) rfl ?_
    refine rp rfl w0 rfl (pu_pick_f (r := .d _) rfl rfl) ?_
    refine rp rfl w0 rfl (pu_move (r := .d _) rfl) ?_
    refine rk rfl rfl rfl (by first | exact .inl rfl | exact .inr rfl) rfl ?_
    refine rk rfl rfl rfl (by first | exact .inl rfl | exact .inr rfl) rfl ?_
    refine rk rfl rfl rfl (by first | exact .inl rfl | exact .inr rfl) rfl ?_
    refine rp rfl w0 rfl (pu_pick_f (r := .d _) rfl rfl) ?_
    refine rp rfl w0 rfl (pu_assign (r := .d _) rfl) ?_
    refine ra_nil ?_
    refine then_n ?_
    refine aw_ret ?_
    cases h0
    exact ret0_ (rs := [.tmp 2]) rfl

theorem i_pitchOf_c {p0 : Profile_} {r : Int} (h0 : i_pitchOf_m p0 = some r) : FnC Try.prog 108 [] [.agg [.d (.v (.int .i64 p0.Teeth)), .d (.v (.int .i64 p0.Module)), .d (.v (.int .i64 p0.Addendum)), .d (.v (.int .i64 p0.Angle.Sin)), .d (.v (.int .i64 p0.Angle.Cos)), .d (.v (.int .i64 p0.Angle.Hyp))]] [] (.d (.v (.int .i64 r))) := by
  refine fnc_intro (T := tt) (N := 9) tok Try.func108 rfl rfl (by kernel_rfl) rfl rfl ?_
  unfold i_pitchOf_m at h0
  refine aw_seq ?_
  refine aw_regionA (is := [0, 1]) rfl ?_
  refine rs rfl w0 rfl (st_box 3 (cs := _ :: _) rfl rfl rfl) ?_
  refine rp rfl w0 rfl (pu_assign (r := .d _) rfl) ?_
  refine ra_nil ?_
  refine then_n ?_
  refine aw_seq ?_
  refine aw_regionA (is := [0, 1, 2, 3, 4, 5, 6]) rfl ?_
  refine rl rfl w0 rfl (bx_fa tok rfl rfl rfl rfl rfl rfl rfl) ?_
  refine rl rfl w0 rfl (bx_ld1 tok rfl rfl rfl rfl rfl) ?_
  refine rp rfl w0 rfl (pw_mul rfl rfl) ?_
  refine rl rfl w0 rfl (bx_fa tok rfl rfl rfl rfl rfl rfl rfl) ?_
  refine rl rfl w0 rfl (bx_ld1 tok rfl rfl rfl rfl rfl) ?_
  refine rp rfl w0 rfl (pw_mul rfl rfl) ?_
  refine rp rfl w0 rfl (pu_assign (r := .d _) rfl) ?_
  refine ra_nil ?_
  refine then_n ?_
  refine aw_ret ?_
  cases h0
  exact ret0_ (rs := [.tmp 2]) rfl

theorem i_outsideOf_c {p0 : Profile_} {r : Int} (h0 : i_outsideOf_m p0 = some r) : FnC Try.prog 109 [] [.agg [.d (.v (.int .i64 p0.Teeth)), .d (.v (.int .i64 p0.Module)), .d (.v (.int .i64 p0.Addendum)), .d (.v (.int .i64 p0.Angle.Sin)), .d (.v (.int .i64 p0.Angle.Cos)), .d (.v (.int .i64 p0.Angle.Hyp))]] [] (.d (.v (.int .i64 r))) := by
  refine fnc_intro (T := tt) (N := 12) tok Try.func109 rfl rfl (by kernel_rfl) rfl rfl ?_
  unfold i_outsideOf_m at h0
  refine aw_seq ?_
  refine aw_regionA (is := [0, 1]) rfl ?_
  refine rs rfl w0 rfl (st_box 3 (cs := _ :: _) rfl rfl rfl) ?_
  refine rp rfl w0 rfl (pu_assign (r := .d _) rfl) ?_
  refine ra_nil ?_
  refine then_n ?_
  refine aw_seq ?_
  refine aw_region_draw (is := [0, 2, 3, 4, 5, 6, 7, 1, 8, 9]) follows ?_
  refine rt_lk rfl w0 rfl (bx_ldN tok rfl rfl rfl rfl) rfl rfl rfl ?_
  refine rt_lk rfl w0 rfl (bx_fa tok rfl rfl rfl rfl rfl rfl rfl) rfl rfl rfl ?_
  refine rt_lk rfl w0 rfl (bx_ld1 tok rfl rfl rfl rfl rfl) rfl rfl rfl ?_
  refine rt_p rfl w0 rfl (pw_mul rfl rfl) ?_
  refine rt_lk rfl w0 rfl (bx_fa tok rfl rfl rfl rfl rfl rfl rfl) rfl rfl rfl ?_
  refine rt_lk rfl w0 rfl (bx_ld1 tok rfl rfl rfl rfl rfl) rfl rfl rfl ?_
  refine rt_p rfl w0 rfl (pw_mul rfl rfl) ?_
  obtain ⟨v1, hv1, h0⟩ := bnd h0
  refine rt_c rfl w0 rfl (b_call 4 (i_pitchOf_c hv1) rfl rfl rfl) ?_
  refine rt_p rfl w0 rfl (pw_add rfl rfl) ?_
  refine rt_p rfl w0 rfl (pu_assign (r := .d _) rfl) ?_
  refine rt_nil ?_
  refine ⟨by kernel_rfl, ?_⟩
  refine then_n ?_
  refine aw_ret ?_
  cases h0
  exact ret0_ (rs := [.tmp 2]) rfl

theorem i_Diameters_c {p0 : Profile_} {r : Int × Int × Int × Int} (h0 : i_Diameters_m p0 = some r) : FnC Try.prog 71 [] [.agg [.d (.v (.int .i64 p0.Teeth)), .d (.v (.int .i64 p0.Module)), .d (.v (.int .i64 p0.Addendum)), .d (.v (.int .i64 p0.Angle.Sin)), .d (.v (.int .i64 p0.Angle.Cos)), .d (.v (.int .i64 p0.Angle.Hyp))]] [] (.tup [.d (.v (.int .i64 r.1)), .d (.v (.int .i64 r.2.1)), .d (.v (.int .i64 r.2.2.1)), .d (.v (.int .i64 r.2.2.2))]) := by
  refine fnc_intro (T := tt) (N := 23) tok Try.func71 rfl rfl (by kernel_rfl) rfl rfl ?_
  unfold i_Diameters_m at h0
  refine aw_seq ?_
  refine aw_regionA (is := [0, 1, 2, 3, 4]) rfl ?_
  refine rs rfl w0 rfl (st_box 3 (cs := _ :: _) rfl rfl rfl) ?_
  refine rp rfl w0 rfl (pu_assign (r := .d _) rfl) ?_
  refine rp rfl w0 rfl (pu_assign (r := .d _) rfl) ?_
  refine rp rfl w0 rfl (pu_assign (r := .d _) rfl) ?_
  refine rp rfl w0 rfl (pu_assign (r := .d _) rfl) ?_
  refine ra_nil ?_
  refine then_n ?_
  refine aw_seq ?_
  refine aw_seq ?_
  refine aw_regionA (is := [0, 1, 2]) rfl ?_
  refine rl rfl w0 rfl (bx_ldN tok rfl rfl rfl rfl) ?_
  obtain ⟨v1, hv1, h0⟩ := bnd h0
  refine rs rfl w0 rfl (c_call 4 (i_ValidProfile_c hv1) rfl rfl rfl) ?_
  refine rp rfl w0 rfl (pu_not rfl) ?_
  refine ra_nil ?_
  refine then_n ?_
  refine aw_ifB h0 rfl (fun hc h0 => ?_) (fun hc h0 => ?_)
  · skip
    refine aw_seq ?_
    refine aw_regionA (is := [0, 1, 2, 3]) rfl ?_
    refine rp rfl w0 rfl (pu_assign (r := .d _) rfl) ?_
    refine rp rfl w0 rfl (pu_assign (r := .d _) rfl) ?_
    refine rp rfl w0 rfl (pu_assign (r := .d _) rfl) ?_
    refine rp rfl w0 rfl (pu_assign (r := .d _) rfl) ?_
    refine ra_nil ?_
    refine then_n ?_
    refine aw_ret ?_
    refine then_r ?_
    cases h0
    exact ret0_ (rs := [.tmp 2, .tmp 3, .tmp 4, .tmp 5]) rfl
  · skip
    refine aw_skip ?_
    refine then_n ?_
    refine aw_seq ?_
    refine aw_region_draw (is := [0, 2, 4, 6, 7, 8, 9, 10, 11, 12, 1, 3, 5, 13, 14, 15, 16, 17]) follows ?_
    refine rt_lk rfl w0 rfl (bx_ldN tok rfl rfl rfl rfl) rfl rfl rfl ?_
    refine rt_lk rfl w0 rfl (bx_ldN tok rfl rfl rfl rfl) rfl rfl rfl ?_
    refine rt_lk rfl w0 rfl (bx_ldN tok rfl rfl rfl rfl) rfl rfl rfl ?_
    refine rt_lk rfl w0 rfl (bx_fa tok rfl rfl rfl rfl rfl rfl rfl) rfl rfl rfl ?_
    refine rt_lk rfl w0 rfl (bx_ld1 tok rfl rfl rfl rfl rfl) rfl rfl rfl ?_
    refine rt_p rfl w0 rfl (pw_add rfl rfl) ?_
    refine rt_p rfl w0 rfl (pw_mul rfl rfl) ?_
    refine rt_lk rfl w0 rfl (bx_fa tok rfl rfl rfl rfl rfl rfl rfl) rfl rfl rfl ?_
    refine rt_lk rfl w0 rfl (bx_ld1 tok rfl rfl rfl rfl rfl) rfl rfl rfl ?_
    refine rt_p rfl w0 rfl (pw_mul rfl rfl) ?_
    obtain ⟨v2, hv2, h0⟩ := bnd h0
    refine rt_c rfl w0 rfl (b_call 4 (i_pitchOf_c hv2) rfl rfl rfl) ?_
    obtain ⟨v3, hv3, h0⟩ := bnd h0
    refine rt_c rfl w0 rfl (b_call 4 (i_outsideOf_c hv3) rfl rfl rfl) ?_
    obtain ⟨v4, hv4, h0⟩ := bnd h0
    refine rt_c rfl w0 rfl (b_call 4 (i_pitchOf_c hv4) rfl rfl rfl) ?_
    refine rt_p rfl w0 rfl (pw_sub rfl rfl) ?_
    refine rt_p rfl w0 rfl (pu_assign (r := .d _) rfl) ?_
    refine rt_p rfl w0 rfl (pu_assign (r := .d _) rfl) ?_
    refine rt_p rfl w0 rfl (pu_assign (r := .d _) rfl) ?_
    refine rt_p rfl w0 rfl (pu_assign (r := .d _) rfl) ?_
    refine rt_nil ?_
    refine ⟨by kernel_rfl, ?_⟩
    refine then_n ?_
    refine aw_ret ?_
    cases h0
    exact ret0_ (rs := [.tmp 2, .tmp 3, .tmp 4, .tmp 5]) rfl

theorem i_floorDiv_c {p0 : Int} {p1 : Int} {r : Int} (h0 : i_floorDiv_m p0 p1 = some r) : FnC Try.prog 136 [] [.d (.v (.int .i64 p0)), .d (.v (.int .i64 p1))] [] (.d (.v (.int .i64 r))) := by
  refine fnc_intro (T := tt) (N := 16) tok Try.func136 rfl rfl (by kernel_rfl) rfl rfl ?_
  unfold i_floorDiv_m at h0
  refine aw_seq ?_
  refine aw_regionA (is := [0]) rfl ?_
  refine rp rfl w0 rfl (pu_assign (r := .d _) rfl) ?_
  refine ra_nil ?_
  refine then_n ?_
  refine aw_seq ?_
  refine aw_regionA (is := [0, 1, 2, 3]) rfl ?_
  refine rp rfl w0 rfl (pu_move (r := .d _) rfl) ?_
  refine rp rfl w0 rfl (pu_move (r := .d _) rfl) ?_
  obtain ⟨hq1, h0⟩ := chk_e h0
  refine rp rfl w0 rfl (pw_quo rfl rfl hq1) ?_
  refine rp rfl w0 rfl (pu_assign (r := .d _) rfl) ?_
  refine ra_nil ?_
  refine then_n ?_
  obtain ⟨v3, h1, h0⟩ := bnd h0
  refine aw_cut ⟨updA ((fun _ => .dead)) 5 (.d (.v (.int .i64 v3))), lks [.no, .no, .no]⟩ ?_ ?_
  · skip
    refine aw_seq ?_
    refine aw_regionA (is := [0, 1, 2, 3]) rfl ?_
    refine rp rfl w0 rfl (pu_move (r := .d _) rfl) ?_
    refine rp rfl w0 rfl (pu_move (r := .d _) rfl) ?_
    obtain ⟨hq2, h1⟩ := chk_e h1
    refine rp rfl w0 rfl (pu_remw rfl rfl hq2) ?_
    refine rp rfl w0 rfl (pu_lss rfl rfl) ?_
    refine ra_nil ?_
    refine then_n ?_
    refine aw_if h1 rfl (fun hc h1 => ?_) (fun hc h1 => ?_)
    · skip
      refine aw_regionA (is := [0, 1, 2]) rfl ?_
      refine rp rfl w0 rfl (pu_move (r := .d _) rfl) ?_
      refine rp rfl w0 rfl (pw_sub rfl rfl) ?_
      refine rp rfl w0 rfl (pu_assign (r := .d _) rfl) ?_
      refine ra_nil ?_
      refine then_n ?_
      cases h1
      exact wk [0, 1, 2]
    · skip
      refine aw_skip ?_
      refine then_n ?_
      cases h1
      exact wk [0, 1, 2]
  · skip
    refine aw_seq ?_
    refine aw_regionA (is := [0, 1]) rfl ?_
    refine rp rfl w0 rfl (pu_move (r := .d _) rfl) ?_
    refine rp rfl w0 rfl (pu_assign (r := .d _) rfl) ?_
    refine ra_nil ?_
    refine then_n ?_
    refine aw_ret ?_
    cases h0
    exact ret0_ (rs := [.tmp 4]) rfl

theorem i_nearestDiv_c {p0 : Int} {p1 : Int} {r : Int} (h0 : i_nearestDiv_m p0 p1 = some r) : FnC Try.prog 125 [] [.d (.v (.int .i64 p0)), .d (.v (.int .i64 p1))] [] (.d (.v (.int .i64 r))) := by
  refine fnc_intro (T := tt) (N := 23) tok Try.func125 rfl rfl (by kernel_rfl) rfl rfl ?_
  unfold i_nearestDiv_m at h0
  refine aw_seq ?_
  refine aw_regionA (is := [0]) rfl ?_
  refine rp rfl w0 rfl (pu_assign (r := .d _) rfl) ?_
  refine ra_nil ?_
  refine then_n ?_
  refine aw_seq ?_
  refine aw_regionA (is := [0, 1, 2, 3]) rfl ?_
  refine rp rfl w0 rfl (pu_move (r := .d _) rfl) ?_
  refine rp rfl w0 rfl (pu_move (r := .d _) rfl) ?_
  obtain ⟨v1, hv1, h0⟩ := bnd h0
  refine rs rfl w0 rfl (c_call 3 (i_floorDiv_c hv1) rfl rfl rfl) ?_
  refine rp rfl w0 rfl (pu_assign (r := .d _) rfl) ?_
  refine ra_nil ?_
  refine then_n ?_
  obtain ⟨v2, h1, h0⟩ := bnd h0
  refine aw_cut ⟨updA ((fun _ => .dead)) 5 (.d (.v (.int .i64 v2))), lks [.no, .no, .no]⟩ ?_ ?_
  · skip
    refine aw_seq ?_
    refine aw_regionA (is := [0, 1, 2, 3, 4, 5]) rfl ?_
    refine rp rfl w0 rfl (pu_move (r := .d _) rfl) ?_
    refine rp rfl w0 rfl (pu_move (r := .d _) rfl) ?_
    refine rp rfl w0 rfl (pu_move (r := .d _) rfl) ?_
    refine rp rfl w0 rfl (pw_mul rfl rfl) ?_
    refine rp rfl w0 rfl (pw_sub rfl rfl) ?_
    refine rp rfl w0 rfl (pu_assign (r := .d _) rfl) ?_
    refine ra_nil ?_
    refine then_n ?_
    refine aw_seq ?_
    refine aw_regionA (is := [0, 1, 2, 3, 4]) rfl ?_
    refine rp rfl w0 rfl (pu_move (r := .d _) rfl) ?_
    refine rp rfl w0 rfl (pu_move (r := .d _) rfl) ?_
    refine rp rfl w0 rfl (pu_move (r := .d _) rfl) ?_
    refine rp rfl w0 rfl (pw_sub rfl rfl) ?_
    refine rp rfl w0 rfl (pu_geq rfl rfl) ?_
    refine ra_nil ?_
    refine then_n ?_
    refine aw_if h1 rfl (fun hc h1 => ?_) (fun hc h1 => ?_)
    · skip
      refine aw_regionA (is := [0, 1, 2]) rfl ?_
      refine rp rfl w0 rfl (pu_move (r := .d _) rfl) ?_
      refine rp rfl w0 rfl (pw_add rfl rfl) ?_
      refine rp rfl w0 rfl (pu_assign (r := .d _) rfl) ?_
      refine ra_nil ?_
      refine then_n ?_
      cases h1
      exact wk [0, 1, 2]
    · skip
      refine aw_skip ?_
      refine then_n ?_
      cases h1
      exact wk [0, 1, 2]
  · skip
    refine aw_seq ?_
    refine aw_regionA (is := [0, 1]) rfl ?_
    refine rp rfl w0 rfl (pu_move (r := .d _) rfl) ?_
    refine rp rfl w0 rfl (pu_assign (r := .d _) rfl) ?_
    refine ra_nil ?_
    refine then_n ?_
    refine aw_ret ?_
    cases h0
    exact ret0_ (rs := [.tmp 4]) rfl

theorem i_sineOf_c {n' : Nat} {p0 : Int} {p1 : Int} {p2 : Int} {r : Int} (h0 : i_sineOf_m n' p0 p1 p2 = some r) : FnC Try.prog 99 [] [.d (.v (.int .i64 p0)), .d (.v (.int .i64 p1)), .d (.v (.int .i64 p2))] [] (.d (.v (.int .i64 r))) := by
  induction n' generalizing p0 p1 p2 r with
  | zero => simp [i_sineOf_m] at h0
  | succ n' ih =>
  refine fnc_intro (T := tt) (N := 40) tok Try.func99 rfl rfl (by kernel_rfl) rfl rfl ?_
  unfold i_sineOf_m at h0
  refine aw_seq ?_
  refine aw_regionA (is := [0]) rfl ?_
  refine rp rfl w0 rfl (pu_assign (r := .d _) rfl) ?_
  refine ra_nil ?_
  refine then_n ?_
  refine aw_seq ?_
  refine aw_seq ?_
  refine aw_regionA (is := [0, 1, 2, 3]) rfl ?_
  refine rp rfl w0 rfl (pu_move (r := .d _) rfl) ?_
  refine rp rfl w0 rfl (pw_mul rfl rfl) ?_
  refine rp rfl w0 rfl (pu_move (r := .d _) rfl) ?_
  refine rp rfl w0 rfl (pu_gtr rfl rfl) ?_
  refine ra_nil ?_
  refine then_n ?_
  refine aw_if h0 rfl (fun hc h0 => ?_) (fun hc h0 => ?_)
  · skip
    refine aw_seq ?_
    refine aw_regionA (is := [0, 1, 2, 3, 4, 5, 6, 7, 8, 9]) rfl ?_
    refine rp rfl w0 rfl (pu_move (r := .d _) rfl) ?_
    refine rp rfl w0 rfl (pu_move (r := .d _) rfl) ?_
    refine rp rfl w0 rfl (pw_mul rfl rfl) ?_
    refine rp rfl w0 rfl (pu_move (r := .d _) rfl) ?_
    refine rp rfl w0 rfl (pw_sub rfl rfl) ?_
    refine rp rfl w0 rfl (pu_move (r := .d _) rfl) ?_
    refine rp rfl w0 rfl (pw_mul rfl rfl) ?_
    obtain ⟨v1, hv1, h0⟩ := bnd h0
    refine rs rfl w0 rfl (c_call 3 (ih hv1) rfl rfl rfl) ?_
    refine rp rfl w0 rfl (pw_neg rfl) ?_
    refine rp rfl w0 rfl (pu_assign (r := .d _) rfl) ?_
    refine ra_nil ?_
    refine then_n ?_
    refine aw_ret ?_
    refine then_r ?_
    cases h0
    exact ret0_ (rs := [.tmp 6]) rfl
  · skip
    refine aw_skip ?_
    refine then_n ?_
    refine aw_seq ?_
    refine aw_regionA (is := [0, 1, 2, 3, 4, 5, 6, 7]) rfl ?_
    refine rp rfl w0 rfl (pu_move (r := .d _) rfl) ?_
    refine rp rfl w0 rfl (pw_mul rfl rfl) ?_
    refine rp rfl w0 rfl (pu_move (r := .d _) rfl) ?_
    refine rp rfl w0 rfl (pu_move (r := .d _) rfl) ?_
    refine rp rfl w0 rfl (pw_mul rfl rfl) ?_
    refine rp rfl w0 rfl (pw_sub rfl rfl) ?_
    refine rp rfl w0 rfl (pw_mul rfl rfl) ?_
    refine rp rfl w0 rfl (pu_assign (r := .d _) rfl) ?_
    refine ra_nil ?_
    refine then_n ?_
    refine aw_seq ?_
    refine aw_regionA (is := [0, 1, 2, 3, 4, 5, 6, 7, 8, 9, 10, 11, 12]) rfl ?_
    refine rp rfl w0 rfl (pu_move (r := .d _) rfl) ?_
    refine rp rfl w0 rfl (pw_mul rfl rfl) ?_
    refine rp rfl w0 rfl (pu_move (r := .d _) rfl) ?_
    refine rp rfl w0 rfl (pw_mul rfl rfl) ?_
    refine rp rfl w0 rfl (pu_move (r := .d _) rfl) ?_
    refine rp rfl w0 rfl (pw_mul rfl rfl) ?_
    refine rp rfl w0 rfl (pu_move (r := .d _) rfl) ?_
    refine rp rfl w0 rfl (pw_mul rfl rfl) ?_
    refine rp rfl w0 rfl (pu_move (r := .d _) rfl) ?_
    refine rp rfl w0 rfl (pw_mul rfl rfl) ?_
    refine rp rfl w0 rfl (pw_sub rfl rfl) ?_
    obtain ⟨v2, hv2, h0⟩ := bnd h0
    refine rs rfl w0 rfl (c_call 3 (i_nearestDiv_c hv2) rfl rfl rfl) ?_
    refine rp rfl w0 rfl (pu_assign (r := .d _) rfl) ?_
    refine ra_nil ?_
    refine then_n ?_
    refine aw_ret ?_
    cases h0
    exact ret0_ (rs := [.tmp 6]) rfl

theorem i_roundSpot_c {p0 : Int} {p1 : Int} {p2 : Int} {r : Spot_} (h0 : i_roundSpot_m p0 p1 p2 = some r) : FnC Try.prog 58 [] [.d (.v (.int .i64 p0)), .d (.v (.int .i64 p1)), .d (.v (.int .i64 p2))] [] (.agg [.d (.v (.int .i64 r.X)), .d (.v (.int .i64 r.Y))]) := by
  refine fnc_intro (T := tt) (N := 23) tok Try.func58 rfl rfl (by kernel_rfl) rfl rfl ?_
  unfold i_roundSpot_m at h0
  refine aw_seq ?_
  refine aw_regionA (is := [0]) rfl ?_
  refine rs rfl w0 rfl (st_alloc 3 (cs := [.d (.v (.int .i64 0)), .d (.v (.int .i64 0))]) tok rfl rfl rfl) ?_
  refine ra_nil ?_
  refine then_n ?_
  refine aw_seq ?_
  refine aw_region_draw (is := [0, 1, 2, 4, 5, 6, 7, 8, 9, 10, 11, 12, 13, 3, 14, 15, 16]) follows ?_
  refine rt_p rfl w0 rfl (pu_move (r := .d _) rfl) ?_
  refine rt_p rfl w0 rfl (pu_move (r := .d _) rfl) ?_
  refine rt_p rfl w0 rfl (pu_move (r := .d _) rfl) ?_
  refine rt_p rfl w0 rfl (pu_move (r := .d _) rfl) ?_
  refine rt_p rfl w0 rfl (pu_move (r := .d _) rfl) ?_
  refine rt_p rfl w0 rfl (pw_mul rfl rfl) ?_
  refine rt_p rfl w0 rfl (pu_move (r := .d _) rfl) ?_
  refine rt_p rfl w0 rfl (pw_add rfl rfl) ?_
  refine rt_p rfl w0 rfl (pu_move (r := .d _) rfl) ?_
  refine rt_p rfl w0 rfl (pw_mul rfl rfl) ?_
  obtain ⟨hq1, h0⟩ := chk_e h0
  refine rt_p rfl w0 rfl (pu_remw rfl rfl hq1) ?_
  refine rt_p rfl w0 rfl (pu_move (r := .d _) rfl) ?_
  refine rt_p rfl w0 rfl (pw_mul rfl rfl) ?_
  obtain ⟨v2, hv2, h0⟩ := bnd h0
  refine rt_c rfl w0 rfl (b_call 4 (i_sineOf_c hv2) rfl rfl rfl) ?_
  obtain ⟨v3, hv3, h0⟩ := bnd h0
  refine rt_c rfl w0 rfl (b_call 4 (i_sineOf_c hv3) rfl rfl rfl) ?_
  refine rt_p rfl w0 rfl (pu_build (C0 := [.d (.v (.int .i64 0)), .d (.v (.int .i64 0))]) tok rfl rfl (by repeat (first | exact Plc.nil | apply Plc.cons rfl)) rfl (by repeat (first | exact Bld.nil _ | apply Bld.cons (cs := [.d _]) rfl rfl rfl rfl (by repeat (first | exact Spl.z _ | apply Spl.t | apply Spl.d)) | apply Bld.cons (cs := [.own _ _ _]) rfl rfl rfl rfl (by repeat (first | exact Spl.z _ | apply Spl.t | apply Spl.d)) | apply Bld.cons (cs := [.ptr _ _ _ _ _]) rfl rfl rfl rfl (by repeat (first | exact Spl.z _ | apply Spl.t | apply Spl.d)) | apply Bld.cons (cs := [.fn _ _]) rfl rfl rfl rfl (by repeat (first | exact Spl.z _ | apply Spl.t | apply Spl.d)) | apply Bld.cons (cs := _ :: _) rfl rfl rfl rfl (by repeat (first | exact Spl.z _ | apply Spl.t | apply Spl.d))))) ?_
  refine rt_wk rfl w0 (bx_st (cs := _ :: _) tok rfl rfl rfl rfl rfl rfl rfl) ?_
  refine rt_nil ?_
  refine ⟨by kernel_rfl, ?_⟩
  refine then_n ?_
  refine aw_ret ?_
  cases h0
  exact ret0_ (rs := [.cell 6 39]) rfl

theorem i_GearDrawing_1_c {p0 : Int} {p1 : Int} {p2 : Int} {p3 : Int} {r : Spot_} (h0 : i_GearDrawing_1_m p0 p1 p2 p3 = some r) : FnC Try.prog 72 [] [.d (.v (.int .i64 p0)), .ref (cI p1), .ref (cI p2), .ref (cI p3)] [] (.agg [.d (.v (.int .i64 r.X)), .d (.v (.int .i64 r.Y))]) := by
  refine fnc_intro (T := tt) (N := 17) tok Try.func72 rfl rfl (by kernel_rfl) rfl rfl ?_
  unfold i_GearDrawing_1_m at h0
  refine aw_seq ?_
  refine aw_regionA (is := [0]) rfl ?_
  refine rs rfl w0 rfl (st_alloc 3 (cs := [.d (.v (.int .i64 0)), .d (.v (.int .i64 0))]) tok rfl rfl rfl) ?_
  refine ra_nil ?_
  refine then_n ?_
  refine aw_seq ?_
  refine aw_seq ?_
  refine aw_regionA (is := [0, 1, 2]) rfl ?_
  refine rp rfl w0 rfl (pu_move (r := .d _) rfl) ?_
  refine rp rfl w0 rfl (pu_remw rfl rfl (by decide)) ?_
  refine rp rfl w0 rfl (pu_lss rfl rfl) ?_
  refine ra_nil ?_
  refine then_n ?_
  refine aw_if h0 rfl (fun hc h0 => ?_) (fun hc h0 => ?_)
  · skip
    refine aw_seq ?_
    refine aw_regionA (is := [0, 1, 2, 3, 4]) rfl ?_
    refine rp rfl w0 rfl (pu_load_ref1 tok rfl rfl rfl rfl) ?_
    refine rp rfl w0 rfl (pu_move (r := .d _) rfl) ?_
    refine rp rfl w0 rfl (pu_load_ref1 tok rfl rfl rfl rfl) ?_
    obtain ⟨v2, hv2, h0⟩ := bnd h0
    refine rs rfl w0 rfl (c_call 4 (i_roundSpot_c hv2) rfl rfl rfl) ?_
    refine rw0 rfl w0 (bx_st (cs := _ :: _) tok rfl rfl rfl rfl rfl rfl rfl) ?_
    refine ra_nil ?_
    refine then_n ?_
    refine aw_ret ?_
    refine then_r ?_
    cases h0
    exact ret0_ (rs := [.cell 5 39]) rfl
  · skip
    refine aw_skip ?_
    refine then_n ?_
    refine aw_seq ?_
    refine aw_regionA (is := [0, 1, 2, 3, 4]) rfl ?_
    refine rp rfl w0 rfl (pu_load_ref1 tok rfl rfl rfl rfl) ?_
    refine rp rfl w0 rfl (pu_move (r := .d _) rfl) ?_
    refine rp rfl w0 rfl (pu_load_ref1 tok rfl rfl rfl rfl) ?_
    obtain ⟨v3, hv3, h0⟩ := bnd h0
    refine rs rfl w0 rfl (c_call 4 (i_roundSpot_c hv3) rfl rfl rfl) ?_
    refine rw0 rfl w0 (bx_st (cs := _ :: _) tok rfl rfl rfl rfl rfl rfl rfl) ?_
    refine ra_nil ?_
    refine then_n ?_
    refine aw_ret ?_
    cases h0
    exact ret0_ (rs := [.cell 5 39]) rfl

theorem i_line_c {p0 : Spot_} {p1 : Spot_} {r : Shape_} (h0 : i_line_m p0 p1 = some r) : FnC Try.prog 57 [] [.agg [.d (.v (.int .i64 p0.X)), .d (.v (.int .i64 p0.Y))], .agg [.d (.v (.int .i64 p1.X)), .d (.v (.int .i64 p1.Y))]] [] (.agg [.d (.v (.int .i64 r.Kind)), .d (.v (.int .i64 r.A.X)), .d (.v (.int .i64 r.A.Y)), .d (.v (.int .i64 r.B.X)), .d (.v (.int .i64 r.B.Y)), .d (.v (.int .i64 r.R)), .d (.v (.string r.Name))]) := by
  refine fnc_intro (T := tt) (N := 8) tok Try.func57 rfl rfl (by kernel_rfl) rfl rfl ?_
  unfold i_line_m at h0
  refine aw_seq ?_
  refine aw_regionA (is := [0, 1, 2]) rfl ?_
  refine rs rfl w0 rfl (st_box 3 (cs := _ :: _) rfl rfl rfl) ?_
  refine rs rfl w0 rfl (st_box 4 (cs := _ :: _) rfl rfl rfl) ?_
  refine rs rfl w0 rfl (st_alloc 5 (cs := [.d (.v (.int .i64 0)), .d (.v (.int .i64 0)), .d (.v (.int .i64 0)), .d (.v (.int .i64 0)), .d (.v (.int .i64 0)), .d (.v (.int .i64 0)), .d (.v (.string (⟨#[]⟩ : ByteArray)))]) tok rfl rfl rfl) ?_
  refine ra_nil ?_
  refine then_n ?_
  refine aw_seq ?_
  refine aw_regionA (is := [0, 1, 2, 3]) rfl ?_
  refine rl rfl w0 rfl (bx_ldN tok rfl rfl rfl rfl) ?_
  refine rl rfl w0 rfl (bx_ldN tok rfl rfl rfl rfl) ?_
  refine rp rfl w0 rfl (pu_build (C0 := [.d (.v (.int .i64 0)), .d (.v (.int .i64 0)), .d (.v (.int .i64 0)), .d (.v (.int .i64 0)), .d (.v (.int .i64 0)), .d (.v (.int .i64 0)), .d (.v (.string (⟨#[]⟩ : ByteArray)))]) tok rfl rfl (by repeat (first | exact Plc.nil | apply Plc.cons rfl)) rfl (by repeat (first | exact Bld.nil _ | apply Bld.cons (cs := [.d _]) rfl rfl rfl rfl (by repeat (first | exact Spl.z _ | apply Spl.t | apply Spl.d)) | apply Bld.cons (cs := [.own _ _ _]) rfl rfl rfl rfl (by repeat (first | exact Spl.z _ | apply Spl.t | apply Spl.d)) | apply Bld.cons (cs := [.ptr _ _ _ _ _]) rfl rfl rfl rfl (by repeat (first | exact Spl.z _ | apply Spl.t | apply Spl.d)) | apply Bld.cons (cs := [.fn _ _]) rfl rfl rfl rfl (by repeat (first | exact Spl.z _ | apply Spl.t | apply Spl.d)) | apply Bld.cons (cs := _ :: _) rfl rfl rfl rfl (by repeat (first | exact Spl.z _ | apply Spl.t | apply Spl.d))))) ?_
  refine rw0 rfl w0 (bx_st (cs := _ :: _) tok rfl rfl rfl rfl rfl rfl rfl) ?_
  refine ra_nil ?_
  refine then_n ?_
  refine aw_ret ?_
  cases h0
  exact ret0_ (rs := [.cell 4 80]) rfl

theorem i_GearDrawing_c {p0 : Profile_} {r : Drawing_ × Int} (h0 : i_GearDrawing_m p0 = some r) : FnC Try.prog 30 [] [.agg [.d (.v (.int .i64 p0.Teeth)), .d (.v (.int .i64 p0.Module)), .d (.v (.int .i64 p0.Addendum)), .d (.v (.int .i64 p0.Angle.Sin)), .d (.v (.int .i64 p0.Angle.Cos)), .d (.v (.int .i64 p0.Angle.Hyp))]] [.live [⟨80, 7, .data (List.map cShape_ r.1.Shapes)⟩]] (.tup [.agg [.own 0 0 r.1.Shapes.length], .d (.v (.int .i64 r.2))]) := by
  refine fnc_intro (T := tt) (N := 63) tok Try.func30 rfl rfl (by kernel_rfl) rfl rfl ?_
  unfold i_GearDrawing_m at h0
  refine aw_seq ?_
  refine aw_regionA (is := [0, 1, 2]) rfl ?_
  refine rs rfl w0 rfl (st_box 3 (cs := _ :: _) rfl rfl rfl) ?_
  refine rs rfl w0 rfl (st_alloc 4 (cs := [.d (.v (.slice none 0 0))]) tok rfl rfl rfl) ?_
  refine rp rfl w0 rfl (pu_assign (r := .d _) rfl) ?_
  refine ra_nil ?_
  refine then_n ?_
  refine aw_seq ?_
  refine aw_regionA (is := [0, 1, 2, 3, 4, 5, 6, 7, 8, 9, 10]) rfl ?_
  refine rl rfl w0 rfl (bx_ldN tok rfl rfl rfl rfl) ?_
  obtain ⟨v1, hv1, h0⟩ := bnd h0
  refine rs rfl w0 rfl (c_call 5 (i_Diameters_c hv1) rfl rfl rfl) ?_
  refine rp rfl w0 rfl (pu_move (r := .tup _) rfl) ?_
  refine rp rfl w0 rfl (pu_extract rfl rfl) ?_
  refine rp rfl w0 rfl (pu_extract rfl rfl) ?_
  refine rp rfl w0 rfl (pu_extract rfl rfl) ?_
  refine rp rfl w0 rfl (pu_extract rfl rfl) ?_
  refine rp rfl w0 rfl (pu_assign (r := .d _) rfl) ?_
  refine rp rfl w0 rfl (pu_assign (r := .d _) rfl) ?_
  refine rp rfl w0 rfl (pu_assign (r := .d _) rfl) ?_
  refine rp rfl w0 rfl (pu_assign (r := .d _) rfl) ?_
  refine ra_nil ?_
  refine then_n ?_
  refine aw_seq ?_
  refine aw_seq ?_
  refine aw_regionA (is := [0, 1]) rfl ?_
  refine rp rfl w0 rfl (pu_move (r := .d _) rfl) ?_
  refine rp rfl w0 rfl (pu_neq rfl rfl) ?_
  refine ra_nil ?_
  refine then_n ?_
  refine aw_if h0 rfl (fun hc h0 => ?_) (fun hc h0 => ?_)
  · skip
    refine aw_seq ?_
    refine aw_regionA (is := [0, 1, 2, 3]) rfl ?_
    refine rp rfl w0 rfl (pu_build (C0 := [.d (.v (.slice none 0 0))]) tok rfl rfl (by repeat (first | exact Plc.nil | apply Plc.cons rfl)) rfl (by repeat (first | exact Bld.nil _ | apply Bld.cons (cs := [.d _]) rfl rfl rfl rfl (by repeat (first | exact Spl.z _ | apply Spl.t | apply Spl.d)) | apply Bld.cons (cs := [.own _ _ _]) rfl rfl rfl rfl (by repeat (first | exact Spl.z _ | apply Spl.t | apply Spl.d)) | apply Bld.cons (cs := [.ptr _ _ _ _ _]) rfl rfl rfl rfl (by repeat (first | exact Spl.z _ | apply Spl.t | apply Spl.d)) | apply Bld.cons (cs := [.fn _ _]) rfl rfl rfl rfl (by repeat (first | exact Spl.z _ | apply Spl.t | apply Spl.d)) | apply Bld.cons (cs := _ :: _) rfl rfl rfl rfl (by repeat (first | exact Spl.z _ | apply Spl.t | apply Spl.d))))) ?_
    refine rp rfl w0 rfl (pu_move (r := .d _) rfl) ?_
    refine rw0 rfl w0 (bx_st (cs := _ :: _) tok rfl rfl rfl rfl rfl rfl rfl) ?_
    refine rp rfl w0 rfl (pu_assign (r := .d _) rfl) ?_
    refine ra_nil ?_
    refine then_n ?_
    refine aw_weak (weak_adopt 5 rfl 80 7 (kb := 4) (j := 0) rfl rfl (by repeat (first | exact Spl.z _ | apply Spl.t | apply Spl.d))) ?_
    refine aw_ret ?_
    refine then_r ?_
    cases h0
    exact retK_ (rs := [.cell 2 29, .tmp 3]) [5] rfl
  · skip
    refine aw_skip ?_
    refine then_n ?_
    refine aw_seq ?_
    refine aw_regionA (is := [0, 1, 2, 3, 4, 5, 6, 7]) rfl ?_
    refine rp rfl w0 rfl (pu_move (r := .d _) rfl) ?_
    refine rp rfl w0 rfl (pw_quo rfl rfl (by decide)) ?_
    refine rp rfl w0 rfl (pu_move (r := .d _) rfl) ?_
    refine rp rfl w0 rfl (pw_quo rfl rfl (by decide)) ?_
    refine rs rfl w0 rfl (st_alloc 5 (cs := [.d (.v (.int .i64 0))]) tok rfl rfl rfl) ?_
    refine rs rfl w0 rfl (st_alloc 6 (cs := [.d (.v (.int .i64 0))]) tok rfl rfl rfl) ?_
    refine rw0 rfl w0 (bx_st (cs := [.d _]) tok rfl rfl rfl rfl rfl rfl rfl) ?_
    refine rw0 rfl w0 (bx_st (cs := [.d _]) tok rfl rfl rfl rfl rfl rfl rfl) ?_
    refine ra_nil ?_
    refine then_n ?_
    refine aw_seq ?_
    obtain ⟨v6, h1, h0⟩ := bnd h0
    refine aw_cut ⟨updA (updA (updA (updA (updA ((fun _ => .dead)) 1 (.ptr 3 0 1 0 0)) 2 (.ptr 4 0 1 0 0)) 8 (.ptr 5 0 1 0 0)) 9 (.ptr 6 0 1 0 0)) 36 (.d (.v (.bool v6))), lks [.no, .no, .no, .live [⟨50, 6, .av [[.d (.v (.int .i64 p0.Teeth)), .d (.v (.int .i64 p0.Module)), .d (.v (.int .i64 p0.Addendum)), .d (.v (.int .i64 p0.Angle.Sin)), .d (.v (.int .i64 p0.Angle.Cos)), .d (.v (.int .i64 p0.Angle.Hyp))]]⟩], .live [⟨29, 1, .av [[.d (.v (.slice none 0 0))]]⟩], .live [⟨2, 1, .av [[.d (.v (.int .i64 (w64 (v1.2.1.tdiv 20))))]]⟩], .live [⟨2, 1, .av [[.d (.v (.int .i64 (w64 (v1.2.2.1.tdiv 20))))]]⟩]]⟩ ?_ ?_
    · skip
      refine aw_regionA (is := [0, 1, 2, 3, 4, 5, 6, 7]) rfl ?_
      refine rl rfl w0 rfl (bx_ld1 tok rfl rfl rfl rfl rfl) ?_
      obtain ⟨v4, hv4, h1⟩ := bnd h1
      refine rs rfl w0 rfl (c_call 7 (i_within_c hv4) rfl rfl rfl) ?_
      refine rp rfl w0 rfl (pu_not rfl) ?_
      refine rp rfl w0 rfl (pu_move (r := .d _) rfl) ?_
      refine ra_ifB (u := 32) h1 rfl (fun hc h1 => ?_) (fun hc h1 => ?_)
      · skip
        refine rk rfl rfl rfl (by first | exact .inl rfl | exact .inr rfl) rfl ?_
        refine rk rfl rfl rfl (by first | exact .inl rfl | exact .inr rfl) rfl ?_
        refine rk rfl rfl rfl (by first | exact .inl rfl | exact .inr rfl) rfl ?_
        refine rp rfl w0 rfl (pu_pick_t (r := .d _) rfl rfl) ?_
        refine ra_nil ?_
        refine then_n ?_
        cases h1
        exact wk [0, 1, 2, 3, 4, 5, 6]
      · skip
        refine rl rfl (w1 rfl rfl rfl) rfl (bx_ld1 tok rfl rfl rfl rfl rfl) ?_
        obtain ⟨v5, hv5, h1⟩ := bnd h1
        refine rs rfl (w1 rfl rfl rfl) rfl (c_call 7 (i_within_c hv5) rfl rfl rfl) ?_
        refine rp rfl (w1 rfl rfl rfl) rfl (pu_not rfl) ?_
        refine rp rfl w0 rfl (pu_pick_f (r := .d _) rfl rfl) ?_
        refine ra_nil ?_
        refine then_n ?_
        cases h1
        exact wk [0, 1, 2, 3, 4, 5, 6]
    · skip
      refine aw_ifB h0 rfl (fun hc h0 => ?_) (fun hc h0 => ?_)
      · skip
        refine aw_seq ?_
        refine aw_regionA (is := [0, 1, 2]) rfl ?_
        refine rp rfl w0 rfl (pu_build (C0 := [.d (.v (.slice none 0 0))]) tok rfl rfl (by repeat (first | exact Plc.nil | apply Plc.cons rfl)) rfl (by repeat (first | exact Bld.nil _ | apply Bld.cons (cs := [.d _]) rfl rfl rfl rfl (by repeat (first | exact Spl.z _ | apply Spl.t | apply Spl.d)) | apply Bld.cons (cs := [.own _ _ _]) rfl rfl rfl rfl (by repeat (first | exact Spl.z _ | apply Spl.t | apply Spl.d)) | apply Bld.cons (cs := [.ptr _ _ _ _ _]) rfl rfl rfl rfl (by repeat (first | exact Spl.z _ | apply Spl.t | apply Spl.d)) | apply Bld.cons (cs := [.fn _ _]) rfl rfl rfl rfl (by repeat (first | exact Spl.z _ | apply Spl.t | apply Spl.d)) | apply Bld.cons (cs := _ :: _) rfl rfl rfl rfl (by repeat (first | exact Spl.z _ | apply Spl.t | apply Spl.d))))) ?_
        refine rw0 rfl w0 (bx_st (cs := _ :: _) tok rfl rfl rfl rfl rfl rfl rfl) ?_
        refine rp rfl w0 rfl (pu_assign (r := .d _) rfl) ?_
        refine ra_nil ?_
        refine then_n ?_
        refine aw_weak (weak_adopt 7 rfl 80 7 (kb := 4) (j := 0) rfl rfl (by repeat (first | exact Spl.z _ | apply Spl.t | apply Spl.d))) ?_
        refine aw_ret ?_
        refine then_r ?_
        cases h0
        exact retK_ (rs := [.cell 2 29, .tmp 3]) [7] rfl
      · skip
        refine aw_skip ?_
        refine then_n ?_
        refine aw_seq ?_
        refine aw_regionA (is := [0, 1, 2, 3, 4]) rfl ?_
        refine rl rfl w0 rfl (bx_fa tok rfl rfl rfl rfl rfl rfl rfl) ?_
        refine rl rfl w0 rfl (bx_ld1 tok rfl rfl rfl rfl rfl) ?_
        refine rp rfl w0 rfl (pw_mul rfl rfl) ?_
        refine rs rfl w0 rfl (st_alloc 7 (cs := [.d (.v (.int .i64 0))]) tok rfl rfl rfl) ?_
        refine rw0 rfl w0 (bx_st (cs := [.d _]) tok rfl rfl rfl rfl rfl rfl rfl) ?_
        refine ra_nil ?_
        refine then_n ?_
        refine aw_seq ?_
        refine aw_regionA (is := [0, 1]) rfl ?_
        refine rp rfl w0 rfl (pu_func rfl) ?_
        refine rp rfl w0 rfl (pu_assign (r := .fn _ _) rfl) ?_
        refine ra_nil ?_
        refine then_n ?_
        refine aw_seq ?_
        refine aw_regionA (is := [0]) rfl ?_
        refine rs rfl w0 rfl (st_alloc 8 (cs := [.d (.v (.slice none 0 0))]) tok rfl rfl rfl) ?_
        refine ra_nil ?_
        refine then_n ?_
        obtain ⟨v19, h1, h0⟩ := bnd h0
        refine aw_cut ⟨updA (updA ((fun _ => .dead)) 2 (.ptr 3 0 1 0 0)) 12 (.ptr 4 0 1 0 0), lks [.no, .no, .no, .live [⟨29, 1, .av [[.d (.v (.slice none 0 0))]]⟩], .live [⟨29, 1, .av [[.own 5 0 (v19).length]]⟩], .live [⟨80, 7, .data (List.map cShape_ v19)⟩]]⟩ ?_ ?_
        · skip
          refine aw_seq ?_
          refine aw_regionA (is := [0]) rfl ?_
          refine rp rfl w0 rfl (pu_assign (r := .d _) rfl) ?_
          refine ra_nil ?_
          refine then_n ?_
          refine aw_block ?_
          refine aw_loopM (fun s13 => ⟨updA (updA (updA (updA (updA ((fun _ => .dead)) 2 (.ptr 3 0 1 0 0)) 10 (.ptr 4 0 1 0 0)) 11 (.fn 72 [.ptr 5 0 1 0 0, .ptr 4 0 1 0 0, .ptr 6 0 1 0 0])) 12 (.ptr 7 0 1 0 0)) 13 (.d (.v (.int .i64 s13.1))), lks [.no, .no, .no, .live [⟨29, 1, .av [[.d (.v (.slice none 0 0))]]⟩], .live [⟨2, 1, .av [[.d (.v (.int .i64 (w64 (4 * p0.Teeth))))]]⟩], .live [⟨2, 1, .av [[.d (.v (.int .i64 (w64 (v1.2.1.tdiv 20))))]]⟩], .live [⟨2, 1, .av [[.d (.v (.int .i64 (w64 (v1.2.2.1.tdiv 20))))]]⟩], .live [⟨29, 1, .av [[.own 8 0 (s13.2).length]]⟩], .live [⟨80, 7, .data (List.map cShape_ s13.2)⟩]]⟩) h1 ?_ (fun s13 y h2 => ?_)
          · skip
            refine Weak.trans_ (weak_adopt 9 rfl 80 7 (kb := 8) (j := 0) rfl rfl (by repeat (first | exact Spl.z _ | apply Spl.t | apply Spl.d))) ?_
            exact wk [0, 1, 2, 4, 7, 5, 6, 8, 9]
          · skip
            refine aw_seq ?_
            refine aw_seq ?_
            refine aw_regionA (is := [0, 1, 2]) rfl ?_
            refine rp rfl w0 rfl (pu_move (r := .d _) rfl) ?_
            refine rl rfl w0 rfl (bx_ld1 tok rfl rfl rfl rfl rfl) ?_
            refine rp rfl w0 rfl (pu_lss rfl rfl) ?_
            refine ra_nil ?_
            refine then_n ?_
            refine aw_if h2 rfl (fun hc h2 => ?_) (fun hc h2 => ?_)
            · skip
              refine aw_skip ?_
              refine then_n ?_
              refine aw_seq ?_
              refine aw_block ?_
              refine aw_region_draw (is := [0, 1, 2, 3, 5, 6, 7, 8, 9, 4, 10, 11, 12, 13, 14, 15]) follows ?_
              refine rt_lk rfl w0 rfl (bx_fa tok rfl rfl rfl rfl rfl rfl rfl) rfl rfl rfl ?_
              refine rt_lk rfl w0 rfl (bx_ld1 tok rfl rfl rfl rfl rfl) rfl rfl rfl ?_
              refine rt_p rfl w0 rfl (pu_move (r := .fn _ _) rfl) ?_
              refine rt_p rfl w0 rfl (pu_move (r := .d _) rfl) ?_
              refine rt_p rfl w0 rfl (pu_move (r := .fn _ _) rfl) ?_
              refine rt_p rfl w0 rfl (pu_move (r := .d _) rfl) ?_
              refine rt_p rfl w0 rfl (pw_add rfl rfl) ?_
              refine rt_lk rfl w0 rfl (bx_ld1 tok rfl rfl rfl rfl rfl) rfl rfl rfl ?_
              obtain ⟨hq14, h2⟩ := chk_e h2
              refine rt_p rfl w0 rfl (pu_remw rfl rfl hq14) ?_
              obtain ⟨v15, hv15, h2⟩ := bnd h2
              refine rt_c rfl w0 rfl (b_callV 9 (i_GearDrawing_1_c hv15) rfl rfl) ?_
              obtain ⟨v16, hv16, h2⟩ := bnd h2
              refine rt_c rfl w0 rfl (b_callV 9 (i_GearDrawing_1_c hv16) rfl rfl) ?_
              obtain ⟨v17, hv17, h2⟩ := bnd h2
              refine rt_c rfl w0 rfl (b_call 9 (i_line_c hv17) rfl rfl rfl) ?_
              refine rt_s rfl w0 rfl (bs_val tok cShape_ [v17] rfl rfl rfl (by repeat (first | exact Els.nil _ | apply Els.cons (cs := [.d _]) rfl rfl rfl | apply Els.cons (cs := _ :: _) rfl rfl rfl)) rfl rfl rfl (by repeat (first | exact AllDD.nil | (apply AllDD.cons; (repeat (first | exact AllD.nil | apply AllD.cons))))) rfl) ?_
              obtain ⟨hq18, h2⟩ := chk_e h2
              refine rt_wkd rfl w0 rfl (ap_own tok hq18 rfl rfl rfl rfl rfl rfl rfl rfl rfl rfl rfl rfl (fun _ => rfl)) ?_
              refine rt_lk rfl w0 rfl (bx_fa tok rfl rfl rfl rfl rfl rfl rfl) rfl rfl rfl ?_
              refine rt_wk rfl w0 (bx_st (cs := [.own _ _ _]) tok rfl rfl rfl rfl rfl rfl rfl) ?_
              refine rt_nil ?_
              refine ⟨by kernel_rfl, ?_⟩
              refine block_n ?_
              refine then_n ?_
              refine aw_regionA (is := [0, 1, 2]) rfl ?_
              refine rp rfl w0 rfl (pu_move (r := .d _) rfl) ?_
              refine rp rfl w0 rfl (pw_add rfl rfl) ?_
              refine rp rfl w0 rfl (pu_assign (r := .d _) rfl) ?_
              refine ra_nil ?_
              refine loop_n ?_
              cases h2
              refine ⟨_, rfl, ?_⟩
              exact wk [0, 1, 2, 3, 4, 5, 6, 7, 8]
            · skip
              refine aw_exit ?_
              refine then_e ?_
              cases h2
              refine loop_x ⟨_, rfl, fun e => ?_⟩
              subst e
              refine block_hit ?_
              refine then_n ?_
              exact wk [0, 1, 2, 3, 7, 8]
        · skip
          refine aw_seq ?_
          refine aw_regionA (is := [0, 1, 2]) rfl ?_
          refine rl rfl w0 rfl (bx_ldN tok rfl rfl rfl rfl) ?_
          refine rw0 rfl w0 (bx_st (cs := _ :: _) tok rfl rfl rfl rfl rfl rfl rfl) ?_
          refine rp rfl w0 rfl (pu_assign (r := .d _) rfl) ?_
          refine ra_nil ?_
          refine then_n ?_
          refine aw_ret ?_
          cases h0
          exact retK_ (rs := [.cell 2 29, .tmp 3]) [5] rfl

theorem s_l00In_c {p0 : Int} {p1 : Int} {p2 : Int} {r : Bool} (h0 : s_l00In_m p0 p1 p2 = some r) : FnC Try.prog 53 [] [.d (.v (.int .i64 p0)), .d (.v (.int .i64 p1)), .d (.v (.int .i64 p2))] [] (.d (.v (.bool r))) := by
  refine fnc_intro (T := tt) (N := 15) tok Try.func53 rfl rfl (by kernel_rfl) rfl rfl ?_
  unfold s_l00In_m at h0
  refine aw_seq ?_
  refine aw_regionA (is := [0]) rfl ?_
  refine rp rfl w0 rfl (pu_assign (r := .d _) rfl) ?_
  refine ra_nil ?_
  refine then_n ?_
  refine aw_seq ?_
  refine aw_regionA (is := [0, 1, 2, 3, 4, 5, 6, 7, 8]) rfl ?_
  refine rp rfl w0 rfl (pu_move (r := .d _) rfl) ?_
  refine rp rfl w0 rfl (pu_move (r := .d _) rfl) ?_
  refine rp rfl w0 rfl (pu_geq rfl rfl) ?_
  refine rp rfl w0 rfl (pu_move (r := .d _) rfl) ?_
  refine ra_if (u := 10) h0 rfl (fun hc h0 => ?_) (fun hc h0 => ?_)
  · skip
    refine rp rfl (w1 rfl rfl rfl) rfl (pu_move (r := .d _) rfl) ?_
    refine rp rfl (w1 rfl rfl rfl) rfl (pu_move (r := .d _) rfl) ?_
    refine rp rfl (w1 rfl rfl rfl) rfl (pu_leq rfl rfl) ?_
    refine rp rfl w0 rfl (pu_pick_t (r := .d _) rfl rfl) ?_
    refine rp rfl w0 rfl (pu_assign (r := .d _) rfl) ?_
    refine ra_nil ?_
    refine then_n ?_
    refine aw_ret ?_
    cases h0
    exact ret0_ (rs := [.tmp 6]) rfl
  · skip
    refine rk rfl rfl rfl (by first | exact .inl rfl | exact .inr rfl) rfl ?_
    refine rk rfl rfl rfl (by first | exact .inl rfl | exact .inr rfl) rfl ?_
    refine rk rfl rfl rfl (by first | exact .inl rfl | exact .inr rfl) rfl ?_
    refine rp rfl w0 rfl (pu_pick_f (r := .d _) rfl rfl) ?_
    refine rp rfl w0 rfl (pu_assign (r := .d _) rfl) ?_
    refine ra_nil ?_
    refine then_n ?_
    refine aw_ret ?_
    cases h0
    exact ret0_ (rs := [.tmp 6]) rfl

theorem s_l10Angle_c {p0 : Angle_} {r : Bool} (h0 : s_l10Angle_m p0 = some r) : FnC Try.prog 104 [] [.agg [.d (.v (.int .i64 p0.Sin)), .d (.v (.int .i64 p0.Cos)), .d (.v (.int .i64 p0.Hyp))]] [] (.d (.v (.bool r))) := by
  refine fnc_intro (T := tt) (N := 36) tok Try.func104 rfl rfl (by kernel_rfl) rfl rfl ?_
  unfold s_l10Angle_m at h0
  refine aw_seq ?_
  refine aw_regionA (is := [0, 1]) rfl ?_
  refine rs rfl w0 rfl (st_box 3 (cs := _ :: _) rfl rfl rfl) ?_
  refine rp rfl w0 rfl (pu_assign (r := .d _) rfl) ?_
  refine ra_nil ?_
  refine then_n ?_
  refine aw_seq ?_
  obtain ⟨v4, h1, h0⟩ := bnd h0
  refine aw_cut ⟨updA (updA ((fun _ => .dead)) 1 (.ptr 3 0 1 0 0)) 18 (.d (.v (.bool v4))), lks [.no, .no, .no, .live [⟨48, 3, .av [[.d (.v (.int .i64 p0.Sin)), .d (.v (.int .i64 p0.Cos)), .d (.v (.int .i64 p0.Hyp))]]⟩]]⟩ ?_ ?_
  · skip
    refine aw_regionA (is := [0, 1, 2, 3, 4, 5, 6, 7, 8, 9, 10, 11, 12, 13, 14, 15]) rfl ?_
    refine rl rfl w0 rfl (bx_fa tok rfl rfl rfl rfl rfl rfl rfl) ?_
    refine rl rfl w0 rfl (bx_ld1 tok rfl rfl rfl rfl rfl) ?_
    obtain ⟨v1, hv1, h1⟩ := bnd h1
    refine rs rfl w0 rfl (c_call 4 (s_l00In_c hv1) rfl rfl rfl) ?_
    refine rp rfl w0 rfl (pu_not rfl) ?_
    refine rp rfl w0 rfl (pu_move (r := .d _) rfl) ?_
    refine ra_ifB (u := 7) h1 rfl (fun hc h1 => ?_) (fun hc h1 => ?_)
    · skip
      refine rk rfl rfl rfl (by first | exact .inl rfl | exact .inr rfl) rfl ?_
      refine rk rfl rfl rfl (by first | exact .inl rfl | exact .inr rfl) rfl ?_
      refine rk rfl rfl rfl (by first | exact .inl rfl | exact .inr rfl) rfl ?_
      refine rk rfl rfl rfl (by first | exact .inl rfl | exact .inr rfl) rfl ?_
      refine rp rfl w0 rfl (pu_pick_t (r := .d _) rfl rfl) ?_
      refine rp rfl w0 rfl (pu_move (r := .d _) rfl) ?_
      refine rk rfl rfl rfl (by first | exact .inl rfl | exact .inr rfl) rfl ?_
      refine rk rfl rfl rfl (by first | exact .inl rfl | exact .inr rfl) rfl ?_
      refine rk rfl rfl rfl (by first | exact .inl rfl | exact .inr rfl) rfl ?_
      refine rk rfl rfl rfl (by first | exact .inl rfl | exact .inr rfl) rfl ?_
      refine rp rfl w0 rfl (pu_pick_t (r := .d _) rfl rfl) ?_
      refine ra_nil ?_
      refine then_n ?_
      cases h1
      exact wk [0, 1, 2, 3]
    · skip
      refine rl rfl (w1 rfl rfl rfl) rfl (bx_fa tok rfl rfl rfl rfl rfl rfl rfl) ?_
      refine rl rfl (w1 rfl rfl rfl) rfl (bx_ld1 tok rfl rfl rfl rfl rfl) ?_
      obtain ⟨v2, hv2, h1⟩ := bnd h1
      refine rs rfl (w1 rfl rfl rfl) rfl (c_call 4 (s_l00In_c hv2) rfl rfl rfl) ?_
      refine rp rfl (w1 rfl rfl rfl) rfl (pu_not rfl) ?_
      refine rp rfl w0 rfl (pu_pick_f (r := .d _) rfl rfl) ?_
      refine rp rfl w0 rfl (pu_move (r := .d _) rfl) ?_
      refine ra_ifB (u := 13) h1 rfl (fun hc h1 => ?_) (fun hc h1 => ?_)
      · skip
        refine rk rfl rfl rfl (by first | exact .inl rfl | exact .inr rfl) rfl ?_
        refine rk rfl rfl rfl (by first | exact .inl rfl | exact .inr rfl) rfl ?_
        refine rk rfl rfl rfl (by first | exact .inl rfl | exact .inr rfl) rfl ?_
        refine rk rfl rfl rfl (by first | exact .inl rfl | exact .inr rfl) rfl ?_
        refine rp rfl w0 rfl (pu_pick_t (r := .d _) rfl rfl) ?_
        refine ra_nil ?_
        refine then_n ?_
        cases h1
        exact wk [0, 1, 2, 3]
      · skip
        refine rl rfl (w1 rfl rfl rfl) rfl (bx_fa tok rfl rfl rfl rfl rfl rfl rfl) ?_
        refine rl rfl (w1 rfl rfl rfl) rfl (bx_ld1 tok rfl rfl rfl rfl rfl) ?_
        obtain ⟨v3, hv3, h1⟩ := bnd h1
        refine rs rfl (w1 rfl rfl rfl) rfl (c_call 4 (s_l00In_c hv3) rfl rfl rfl) ?_
        refine rp rfl (w1 rfl rfl rfl) rfl (pu_not rfl) ?_
        refine rp rfl w0 rfl (pu_pick_f (r := .d _) rfl rfl) ?_
        refine ra_nil ?_
        refine then_n ?_
        cases h1
        exact wk [0, 1, 2, 3]
  · skip
    refine aw_ifB h0 rfl (fun hc h0 => ?_) (fun hc h0 => ?_)
    · skip
      refine aw_seq ?_
      refine aw_regionA (is := [0]) rfl ?_
      refine rp rfl w0 rfl (pu_assign (r := .d _) rfl) ?_
      refine ra_nil ?_
      refine then_n ?_
      refine aw_ret ?_
      refine then_r ?_
      cases h0
      exact ret0_ (rs := [.tmp 2]) rfl
    · skip
      refine aw_skip ?_
      refine then_n ?_
      refine aw_seq ?_
      refine aw_regionA (is := [0, 1, 2, 3, 4, 5, 6, 7, 8, 9, 10, 11, 12, 13, 14, 15, 16, 17]) rfl ?_
      refine rl rfl w0 rfl (bx_fa tok rfl rfl rfl rfl rfl rfl rfl) ?_
      refine rl rfl w0 rfl (bx_ld1 tok rfl rfl rfl rfl rfl) ?_
      refine rl rfl w0 rfl (bx_fa tok rfl rfl rfl rfl rfl rfl rfl) ?_
      refine rl rfl w0 rfl (bx_ld1 tok rfl rfl rfl rfl rfl) ?_
      refine rp rfl w0 rfl (pw_mul rfl rfl) ?_
      refine rl rfl w0 rfl (bx_fa tok rfl rfl rfl rfl rfl rfl rfl) ?_
      refine rl rfl w0 rfl (bx_ld1 tok rfl rfl rfl rfl rfl) ?_
      refine rl rfl w0 rfl (bx_fa tok rfl rfl rfl rfl rfl rfl rfl) ?_
      refine rl rfl w0 rfl (bx_ld1 tok rfl rfl rfl rfl rfl) ?_
      refine rp rfl w0 rfl (pw_mul rfl rfl) ?_
      refine rp rfl w0 rfl (pw_add rfl rfl) ?_
      refine rl rfl w0 rfl (bx_fa tok rfl rfl rfl rfl rfl rfl rfl) ?_
      refine rl rfl w0 rfl (bx_ld1 tok rfl rfl rfl rfl rfl) ?_
      refine rl rfl w0 rfl (bx_fa tok rfl rfl rfl rfl rfl rfl rfl) ?_
      refine rl rfl w0 rfl (bx_ld1 tok rfl rfl rfl rfl rfl) ?_
      refine rp rfl w0 rfl (pw_mul rfl rfl) ?_
      refine rp rfl w0 rfl (pu_eql rfl rfl) ?_
      refine rp rfl w0 rfl (pu_assign (r := .d _) rfl) ?_
      refine ra_nil ?_
      refine then_n ?_
      refine aw_ret ?_
      cases h0
      exact ret0_ (rs := [.tmp 2]) rfl

theorem s_l10Ok_c {p0 : Profile_} {r : Bool} (h0 : s_l10Ok_m p0 = some r) : FnC Try.prog 68 [] [.agg [.d (.v (.int .i64 p0.Teeth)), .d (.v (.int .i64 p0.Module)), .d (.v (.int .i64 p0.Addendum)), .d (.v (.int .i64 p0.Angle.Sin)), .d (.v (.int .i64 p0.Angle.Cos)), .d (.v (.int .i64 p0.Angle.Hyp))]] [] (.d (.v (.bool r))) := by
  refine fnc_intro (T := tt) (N := 21) tok Try.func68 rfl rfl (by kernel_rfl) rfl rfl ?_
  unfold s_l10Ok_m at h0
  refine aw_seq ?_
  refine aw_regionA (is := [0, 1]) rfl ?_
  refine rs rfl w0 rfl (st_box 3 (cs := _ :: _) rfl rfl rfl) ?_
  refine rp rfl w0 rfl (pu_assign (r := .d _) rfl) ?_
  refine ra_nil ?_
  refine then_n ?_
  refine aw_seq ?_
  refine aw_regionA (is := [0, 1, 2, 3, 4, 5, 6, 7, 8, 9, 10, 11, 12, 13, 14, 15, 16, 17, 18]) rfl ?_
  refine rl rfl w0 rfl (bx_fa tok rfl rfl rfl rfl rfl rfl rfl) ?_
  refine rl rfl w0 rfl (bx_ld1 tok rfl rfl rfl rfl rfl) ?_
  obtain ⟨v1, hv1, h0⟩ := bnd h0
  refine rs rfl w0 rfl (c_call 4 (s_l00In_c hv1) rfl rfl rfl) ?_
  refine rp rfl w0 rfl (pu_move (r := .d _) rfl) ?_
  refine ra_ifB (u := 6) h0 rfl (fun hc h0 => ?_) (fun hc h0 => ?_)
  · skip
    refine rl rfl (w1 rfl rfl rfl) rfl (bx_fa tok rfl rfl rfl rfl rfl rfl rfl) ?_
    refine rl rfl (w1 rfl rfl rfl) rfl (bx_ld1 tok rfl rfl rfl rfl rfl) ?_
    obtain ⟨v2, hv2, h0⟩ := bnd h0
    refine rs rfl (w1 rfl rfl rfl) rfl (c_call 4 (s_l00In_c hv2) rfl rfl rfl) ?_
    refine rp rfl w0 rfl (pu_pick_t (r := .d _) rfl rfl) ?_
    refine rp rfl w0 rfl (pu_move (r := .d _) rfl) ?_
    refine ra_ifB (u := 11) h0 rfl (fun hc h0 => ?_) (fun hc h0 => ?_)
    · skip
      refine rl rfl (w1 rfl rfl rfl) rfl (bx_fa tok rfl rfl rfl rfl rfl rfl rfl) ?_
      refine rl rfl (w1 rfl rfl rfl) rfl (bx_ld1 tok rfl rfl rfl rfl rfl) ?_
      obtain ⟨v3, hv3, h0⟩ := bnd h0
      refine rs rfl (w1 rfl rfl rfl) rfl (c_call 4 (s_l00In_c hv3) rfl rfl rfl) ?_
      refine rp rfl w0 rfl (pu_pick_t (r := .d _) rfl rfl) ?_
      refine rp rfl w0 rfl (pu_move (r := .d _) rfl) ?_
      refine ra_ifB (u := 16) h0 rfl (fun hc h0 => ?_) (fun hc h0 => ?_)
      · skip
        refine rl rfl (w1 rfl rfl rfl) rfl (bx_fa tok rfl rfl rfl rfl rfl rfl rfl) ?_
        refine rl rfl (w1 rfl rfl rfl) rfl (bx_ldN tok rfl rfl rfl rfl) ?_
        obtain ⟨v4, hv4, h0⟩ := bnd h0
        refine rs rfl (w1 rfl rfl rfl) rfl (c_call 4 (s_l10Angle_c hv4) rfl rfl rfl) ?_
        refine rp rfl w0 rfl (pu_pick_t (r := .d _) rfl rfl) ?_
        refine rp rfl w0 rfl (pu_assign (r := .d _) rfl) ?_
        refine ra_nil ?_
        refine then_n ?_
        refine aw_ret ?_
        cases h0
        exact ret0_ (rs := [.tmp 2]) rfl
      · skip
        refine rk rfl rfl rfl (by first | exact .inl rfl | exact .inr rfl) rfl ?_
        refine rk rfl rfl rfl (by first | exact .inl rfl | exact .inr rfl) rfl ?_
        refine rk rfl rfl rfl (by first | exact .inl rfl | exact .inr rfl) rfl ?_
        refine rp rfl w0 rfl (pu_pick_f (r := .d _) rfl rfl) ?_
        refine rp rfl w0 rfl (pu_assign (r := .d _) rfl) ?_
        refine ra_nil ?_
        refine then_n ?_
        refine aw_ret ?_
        cases h0
        exact ret0_ (rs := [.tmp 2]) rfl
    · skip
      refine rk rfl rfl rfl (by first | exact .inl rfl | exact .inr rfl) rfl ?_
      refine rk rfl rfl rfl (by first | exact .inl rfl | exact .inr rfl) rfl ?_
      refine rk rfl rfl rfl (by first | exact .inl rfl | exact .inr rfl) rfl ?_
      refine rp rfl w0 rfl (pu_pick_f (r := .d _) rfl rfl) ?_
      refine rp rfl w0 rfl (pu_move (r := .d _) rfl) ?_
      refine rk rfl rfl rfl (by first | exact .inl rfl | exact .inr rfl) rfl ?_
      refine rk rfl rfl rfl (by first | exact .inl rfl | exact .inr rfl) rfl ?_
      refine rk rfl rfl rfl (by first | exact .inl rfl | exact .inr rfl) rfl ?_
      refine rp rfl w0 rfl (pu_pick_f (r := .d _) rfl rfl) ?_
      refine rp rfl w0 rfl (pu_assign (r := .d _) rfl) ?_
      refine ra_nil ?_
      refine then_n ?_
      refine aw_ret ?_
      cases h0
      exact ret0_ (rs := [.tmp 2]) rfl
  · skip
    refine rk rfl rfl rfl (by first | exact .inl rfl | exact .inr rfl) rfl ?_
    refine rk rfl rfl rfl (by first | exact .inl rfl | exact .inr rfl) rfl ?_
    refine rk rfl rfl rfl (by first | exact .inl rfl | exact .inr rfl) rfl ?_
    refine rp rfl w0 rfl (pu_pick_f (r := .d _) rfl rfl) ?_
    refine rp rfl w0 rfl (pu_move (r := .d _) rfl) ?_
    refine rk rfl rfl rfl (by first | exact .inl rfl | exact .inr rfl) rfl ?_
    refine rk rfl rfl rfl (by first | exact .inl rfl | exact .inr rfl) rfl ?_
    refine rk rfl rfl rfl (by first | exact .inl rfl | exact .inr rfl) rfl ?_
    refine rp rfl w0 rfl (pu_pick_f (r := .d _) rfl rfl) ?_
    refine rp rfl w0 rfl (pu_move (r := .d _) rfl) ?_
    refine rk rfl rfl rfl (by first | exact .inl rfl | exact .inr rfl) rfl ?_
    refine rk rfl rfl rfl (by first | exact .inl rfl | exact .inr rfl) rfl ?_
    refine rk rfl rfl rfl (by first | exact .inl rfl | exact .inr rfl) rfl ?_
    refine rp rfl w0 rfl (pu_pick_f (r := .d _) rfl rfl) ?_
    refine rp rfl w0 rfl (pu_assign (r := .d _) rfl) ?_
    refine ra_nil ?_
    refine then_n ?_
    refine aw_ret ?_
    cases h0
    exact ret0_ (rs := [.tmp 2]) rfl

theorem s_l10Pitch_c {p0 : Profile_} {r : Int} (h0 : s_l10Pitch_m p0 = some r) : FnC Try.prog 105 [] [.agg [.d (.v (.int .i64 p0.Teeth)), .d (.v (.int .i64 p0.Module)), .d (.v (.int .i64 p0.Addendum)), .d (.v (.int .i64 p0.Angle.Sin)), .d (.v (.int .i64 p0.Angle.Cos)), .d (.v (.int .i64 p0.Angle.Hyp))]] [] (.d (.v (.int .i64 r))) := by
  refine fnc_intro (T := tt) (N := 9) tok Try.func105 rfl rfl (by kernel_rfl) rfl rfl ?_
  unfold s_l10Pitch_m at h0
  refine aw_seq ?_
  refine aw_regionA (is := [0, 1]) rfl ?_
  refine rs rfl w0 rfl (st_box 3 (cs := _ :: _) rfl rfl rfl) ?_
  refine rp rfl w0 rfl (pu_assign (r := .d _) rfl) ?_
  refine ra_nil ?_
  refine then_n ?_
  refine aw_seq ?_
  refine aw_regionA (is := [0, 1, 2, 3, 4, 5, 6]) rfl ?_
  refine rl rfl w0 rfl (bx_fa tok rfl rfl rfl rfl rfl rfl rfl) ?_
  refine rl rfl w0 rfl (bx_ld1 tok rfl rfl rfl rfl rfl) ?_
  refine rp rfl w0 rfl (pw_mul rfl rfl) ?_
  refine rl rfl w0 rfl (bx_fa tok rfl rfl rfl rfl rfl rfl rfl) ?_
  refine rl rfl w0 rfl (bx_ld1 tok rfl rfl rfl rfl rfl) ?_
  refine rp rfl w0 rfl (pw_mul rfl rfl) ?_
  refine rp rfl w0 rfl (pu_assign (r := .d _) rfl) ?_
  refine ra_nil ?_
  refine then_n ?_
  refine aw_ret ?_
  cases h0
  exact ret0_ (rs := [.tmp 2]) rfl

theorem s_l10Outside_c {p0 : Profile_} {r : Int} (h0 : s_l10Outside_m p0 = some r) : FnC Try.prog 106 [] [.agg [.d (.v (.int .i64 p0.Teeth)), .d (.v (.int .i64 p0.Module)), .d (.v (.int .i64 p0.Addendum)), .d (.v (.int .i64 p0.Angle.Sin)), .d (.v (.int .i64 p0.Angle.Cos)), .d (.v (.int .i64 p0.Angle.Hyp))]] [] (.d (.v (.int .i64 r))) := by
  refine fnc_intro (T := tt) (N := 12) tok Try.func106 rfl rfl (by kernel_rfl) rfl rfl ?_
  unfold s_l10Outside_m at h0
  refine aw_seq ?_
  refine aw_regionA (is := [0, 1]) rfl ?_
  refine rs rfl w0 rfl (st_box 3 (cs := _ :: _) rfl rfl rfl) ?_
  refine rp rfl w0 rfl (pu_assign (r := .d _) rfl) ?_
  refine ra_nil ?_
  refine then_n ?_
  refine aw_seq ?_
  refine aw_region_draw (is := [0, 2, 3, 4, 5, 6, 7, 1, 8, 9]) follows ?_
  refine rt_lk rfl w0 rfl (bx_ldN tok rfl rfl rfl rfl) rfl rfl rfl ?_
  refine rt_lk rfl w0 rfl (bx_fa tok rfl rfl rfl rfl rfl rfl rfl) rfl rfl rfl ?_
  refine rt_lk rfl w0 rfl (bx_ld1 tok rfl rfl rfl rfl rfl) rfl rfl rfl ?_
  refine rt_p rfl w0 rfl (pw_mul rfl rfl) ?_
  refine rt_lk rfl w0 rfl (bx_fa tok rfl rfl rfl rfl rfl rfl rfl) rfl rfl rfl ?_
  refine rt_lk rfl w0 rfl (bx_ld1 tok rfl rfl rfl rfl rfl) rfl rfl rfl ?_
  refine rt_p rfl w0 rfl (pw_mul rfl rfl) ?_
  obtain ⟨v1, hv1, h0⟩ := bnd h0
  refine rt_c rfl w0 rfl (b_call 4 (s_l10Pitch_c hv1) rfl rfl rfl) ?_
  refine rt_p rfl w0 rfl (pw_add rfl rfl) ?_
  refine rt_p rfl w0 rfl (pu_assign (r := .d _) rfl) ?_
  refine rt_nil ?_
  refine ⟨by kernel_rfl, ?_⟩
  refine then_n ?_
  refine aw_ret ?_
  cases h0
  exact ret0_ (rs := [.tmp 2]) rfl

theorem s_Diameters_c {p0 : Profile_} {r : Int × Int × Int × Int} (h0 : s_Diameters_m p0 = some r) : FnC Try.prog 69 [] [.agg [.d (.v (.int .i64 p0.Teeth)), .d (.v (.int .i64 p0.Module)), .d (.v (.int .i64 p0.Addendum)), .d (.v (.int .i64 p0.Angle.Sin)), .d (.v (.int .i64 p0.Angle.Cos)), .d (.v (.int .i64 p0.Angle.Hyp))]] [] (.tup [.d (.v (.int .i64 r.1)), .d (.v (.int .i64 r.2.1)), .d (.v (.int .i64 r.2.2.1)), .d (.v (.int .i64 r.2.2.2))]) := by
  refine fnc_intro (T := tt) (N := 23) tok Try.func69 rfl rfl (by kernel_rfl) rfl rfl ?_
  unfold s_Diameters_m at h0
  refine aw_seq ?_
  refine aw_regionA (is := [0, 1, 2, 3, 4]) rfl ?_
  refine rs rfl w0 rfl (st_box 3 (cs := _ :: _) rfl rfl rfl) ?_
  refine rp rfl w0 rfl (pu_assign (r := .d _) rfl) ?_
  refine rp rfl w0 rfl (pu_assign (r := .d _) rfl) ?_
  refine rp rfl w0 rfl (pu_assign (r := .d _) rfl) ?_
  refine rp rfl w0 rfl (pu_assign (r := .d _) rfl) ?_
  refine ra_nil ?_
  refine then_n ?_
  refine aw_seq ?_
  refine aw_seq ?_
  refine aw_regionA (is := [0, 1, 2]) rfl ?_
  refine rl rfl w0 rfl (bx_ldN tok rfl rfl rfl rfl) ?_
  obtain ⟨v1, hv1, h0⟩ := bnd h0
  refine rs rfl w0 rfl (c_call 4 (s_l10Ok_c hv1) rfl rfl rfl) ?_
  refine rp rfl w0 rfl (pu_not rfl) ?_
  refine ra_nil ?_
  refine then_n ?_
  refine aw_ifB h0 rfl (fun hc h0 => ?_) (fun hc h0 => ?_)
  · skip
    refine aw_seq ?_
    refine aw_regionA (is := [0, 1, 2, 3]) rfl ?_
    refine rp rfl w0 rfl (pu_assign (r := .d _) rfl) ?_
    refine rp rfl w0 rfl (pu_assign (r := .d _) rfl) ?_
    refine rp rfl w0 rfl (pu_assign (r := .d _) rfl) ?_
    refine rp rfl w0 rfl (pu_assign (r := .d _) rfl) ?_
    refine ra_nil ?_
    refine then_n ?_
    refine aw_ret ?_
    refine then_r ?_
    cases h0
    exact ret0_ (rs := [.tmp 2, .tmp 3, .tmp 4, .tmp 5]) rfl
  · skip
    refine aw_skip ?_
    refine then_n ?_
    refine aw_seq ?_
    refine aw_region_draw (is := [0, 2, 4, 6, 7, 8, 9, 10, 11, 12, 1, 3, 5, 13, 14, 15, 16, 17]) follows ?_
    refine rt_lk rfl w0 rfl (bx_ldN tok rfl rfl rfl rfl) rfl rfl rfl ?_
    refine rt_lk rfl w0 rfl (bx_ldN tok rfl rfl rfl rfl) rfl rfl rfl ?_
    refine rt_lk rfl w0 rfl (bx_ldN tok rfl rfl rfl rfl) rfl rfl rfl ?_
    refine rt_lk rfl w0 rfl (bx_fa tok rfl rfl rfl rfl rfl rfl rfl) rfl rfl rfl ?_
    refine rt_lk rfl w0 rfl (bx_ld1 tok rfl rfl rfl rfl rfl) rfl rfl rfl ?_
    refine rt_p rfl w0 rfl (pw_add rfl rfl) ?_
    refine rt_p rfl w0 rfl (pw_mul rfl rfl) ?_
    refine rt_lk rfl w0 rfl (bx_fa tok rfl rfl rfl rfl rfl rfl rfl) rfl rfl rfl ?_
    refine rt_lk rfl w0 rfl (bx_ld1 tok rfl rfl rfl rfl rfl) rfl rfl rfl ?_
    refine rt_p rfl w0 rfl (pw_mul rfl rfl) ?_
    obtain ⟨v2, hv2, h0⟩ := bnd h0
    refine rt_c rfl w0 rfl (b_call 4 (s_l10Pitch_c hv2) rfl rfl rfl) ?_
    obtain ⟨v3, hv3, h0⟩ := bnd h0
    refine rt_c rfl w0 rfl (b_call 4 (s_l10Outside_c hv3) rfl rfl rfl) ?_
    obtain ⟨v4, hv4, h0⟩ := bnd h0
    refine rt_c rfl w0 rfl (b_call 4 (s_l10Pitch_c hv4) rfl rfl rfl) ?_
    refine rt_p rfl w0 rfl (pw_sub rfl rfl) ?_
    refine rt_p rfl w0 rfl (pu_assign (r := .d _) rfl) ?_
    refine rt_p rfl w0 rfl (pu_assign (r := .d _) rfl) ?_
    refine rt_p rfl w0 rfl (pu_assign (r := .d _) rfl) ?_
    refine rt_p rfl w0 rfl (pu_assign (r := .d _) rfl) ?_
    refine rt_nil ?_
    refine ⟨by kernel_rfl, ?_⟩
    refine then_n ?_
    refine aw_ret ?_
    cases h0
    exact ret0_ (rs := [.tmp 2, .tmp 3, .tmp 4, .tmp 5]) rfl

theorem s_l02Down_c {p0 : Int} {p1 : Int} {r : Int} (h0 : s_l02Down_m p0 p1 = some r) : FnC Try.prog 135 [] [.d (.v (.int .i64 p0)), .d (.v (.int .i64 p1))] [] (.d (.v (.int .i64 r))) := by
  refine fnc_intro (T := tt) (N := 16) tok Try.func135 rfl rfl (by kernel_rfl) rfl rfl ?_
  unfold s_l02Down_m at h0
  refine aw_seq ?_
  refine aw_regionA (is := [0]) rfl ?_
  refine rp rfl w0 rfl (pu_assign (r := .d _) rfl) ?_
  refine ra_nil ?_
  refine then_n ?_
  refine aw_seq ?_
  refine aw_regionA (is := [0, 1, 2, 3]) rfl ?_
  refine rp rfl w0 rfl (pu_move (r := .d _) rfl) ?_
  refine rp rfl w0 rfl (pu_move (r := .d _) rfl) ?_
  obtain ⟨hq1, h0⟩ := chk_e h0
  refine rp rfl w0 rfl (pw_quo rfl rfl hq1) ?_
  refine rp rfl w0 rfl (pu_assign (r := .d _) rfl) ?_
  refine ra_nil ?_
  refine then_n ?_
  obtain ⟨v3, h1, h0⟩ := bnd h0
  refine aw_cut ⟨updA ((fun _ => .dead)) 5 (.d (.v (.int .i64 v3))), lks [.no, .no, .no]⟩ ?_ ?_
  · skip
    refine aw_seq ?_
    refine aw_regionA (is := [0, 1, 2, 3]) rfl ?_
    refine rp rfl w0 rfl (pu_move (r := .d _) rfl) ?_
    refine rp rfl w0 rfl (pu_move (r := .d _) rfl) ?_
    obtain ⟨hq2, h1⟩ := chk_e h1
    refine rp rfl w0 rfl (pu_remw rfl rfl hq2) ?_
    refine rp rfl w0 rfl (pu_lss rfl rfl) ?_
    refine ra_nil ?_
    refine then_n ?_
    refine aw_if h1 rfl (fun hc h1 => ?_) (fun hc h1 => ?_)
    · skip
      refine aw_regionA (is := [0, 1, 2]) rfl ?_
      refine rp rfl w0 rfl (pu_move (r := .d _) rfl) ?_
      refine rp rfl w0 rfl (pw_sub rfl rfl) ?_
      refine rp rfl w0 rfl (pu_assign (r := .d _) rfl) ?_
      refine ra_nil ?_
      refine then_n ?_
      cases h1
      exact wk [0, 1, 2]
    · skip
      refine aw_skip ?_
      refine then_n ?_
      cases h1
      exact wk [0, 1, 2]
  · skip
    refine aw_seq ?_
    refine aw_regionA (is := [0, 1]) rfl ?_
    refine rp rfl w0 rfl (pu_move (r := .d _) rfl) ?_
    refine rp rfl w0 rfl (pu_assign (r := .d _) rfl) ?_
    refine ra_nil ?_
    refine then_n ?_
    refine aw_ret ?_
    cases h0
    exact ret0_ (rs := [.tmp 4]) rfl

theorem s_l02Near_c {p0 : Int} {p1 : Int} {r : Int} (h0 : s_l02Near_m p0 p1 = some r) : FnC Try.prog 124 [] [.d (.v (.int .i64 p0)), .d (.v (.int .i64 p1))] [] (.d (.v (.int .i64 r))) := by
  refine fnc_intro (T := tt) (N := 12) tok Try.func124 rfl rfl (by kernel_rfl) rfl rfl ?_
  unfold s_l02Near_m at h0
  refine aw_seq ?_
  refine aw_regionA (is := [0]) rfl ?_
  refine rp rfl w0 rfl (pu_assign (r := .d _) rfl) ?_
  refine ra_nil ?_
  refine then_n ?_
  refine aw_seq ?_
  refine aw_regionA (is := [0, 1, 2, 3, 4, 5, 6, 7]) rfl ?_
  refine rp rfl w0 rfl (pu_move (r := .d _) rfl) ?_
  refine rp rfl w0 rfl (pw_mul rfl rfl) ?_
  refine rp rfl w0 rfl (pu_move (r := .d _) rfl) ?_
  refine rp rfl w0 rfl (pw_add rfl rfl) ?_
  refine rp rfl w0 rfl (pu_move (r := .d _) rfl) ?_
  refine rp rfl w0 rfl (pw_mul rfl rfl) ?_
  obtain ⟨v1, hv1, h0⟩ := bnd h0
  refine rs rfl w0 rfl (c_call 3 (s_l02Down_c hv1) rfl rfl rfl) ?_
  refine rp rfl w0 rfl (pu_assign (r := .d _) rfl) ?_
  refine ra_nil ?_
  refine then_n ?_
  refine aw_ret ?_
  cases h0
  exact ret0_ (rs := [.tmp 4]) rfl

theorem s_l25Sine_c {n' : Nat} {p0 : Int} {p1 : Int} {p2 : Int} {r : Int} (h0 : s_l25Sine_m n' p0 p1 p2 = some r) : FnC Try.prog 98 [] [.d (.v (.int .i64 p0)), .d (.v (.int .i64 p1)), .d (.v (.int .i64 p2))] [] (.d (.v (.int .i64 r))) := by
  induction n' generalizing p0 p1 p2 r with
  | zero => simp [s_l25Sine_m] at h0
  | succ n' ih =>
  refine fnc_intro (T := tt) (N := 40) tok Try.func98 rfl rfl (by kernel_rfl) rfl rfl ?_
  unfold s_l25Sine_m at h0
  refine aw_seq ?_
  refine aw_regionA (is := [0]) rfl ?_
  refine rp rfl w0 rfl (pu_assign (r := .d _) rfl) ?_
  refine ra_nil ?_
  refine then_n ?_
  refine aw_seq ?_
  refine aw_regionA (is := [0, 1, 2]) rfl ?_
  refine rp rfl w0 rfl (pu_move (r := .d _) rfl) ?_
  refine rp rfl w0 rfl (pw_mul rfl rfl) ?_
  refine rp rfl w0 rfl (pu_assign (r := .d _) rfl) ?_
  refine ra_nil ?_
  refine then_n ?_
  refine aw_seq ?_
  refine aw_seq ?_
  refine aw_regionA (is := [0, 1, 2]) rfl ?_
  refine rp rfl w0 rfl (pu_move (r := .d _) rfl) ?_
  refine rp rfl w0 rfl (pu_move (r := .d _) rfl) ?_
  refine rp rfl w0 rfl (pu_gtr rfl rfl) ?_
  refine ra_nil ?_
  refine then_n ?_
  refine aw_if h0 rfl (fun hc h0 => ?_) (fun hc h0 => ?_)
  · skip
    refine aw_seq ?_
    refine aw_regionA (is := [0, 1, 2, 3, 4, 5, 6, 7, 8, 9]) rfl ?_
    refine rp rfl w0 rfl (pu_move (r := .d _) rfl) ?_
    refine rp rfl w0 rfl (pu_move (r := .d _) rfl) ?_
    refine rp rfl w0 rfl (pw_mul rfl rfl) ?_
    refine rp rfl w0 rfl (pu_move (r := .d _) rfl) ?_
    refine rp rfl w0 rfl (pw_sub rfl rfl) ?_
    refine rp rfl w0 rfl (pu_move (r := .d _) rfl) ?_
    refine rp rfl w0 rfl (pw_mul rfl rfl) ?_
    obtain ⟨v1, hv1, h0⟩ := bnd h0
    refine rs rfl w0 rfl (c_call 3 (ih hv1) rfl rfl rfl) ?_
    refine rp rfl w0 rfl (pw_neg rfl) ?_
    refine rp rfl w0 rfl (pu_assign (r := .d _) rfl) ?_
    refine ra_nil ?_
    refine then_n ?_
    refine aw_ret ?_
    refine then_r ?_
    cases h0
    exact ret0_ (rs := [.tmp 6]) rfl
  · skip
    refine aw_skip ?_
    refine then_n ?_
    refine aw_seq ?_
    refine aw_regionA (is := [0, 1, 2, 3, 4, 5]) rfl ?_
    refine rp rfl w0 rfl (pu_move (r := .d _) rfl) ?_
    refine rp rfl w0 rfl (pu_move (r := .d _) rfl) ?_
    refine rp rfl w0 rfl (pu_move (r := .d _) rfl) ?_
    refine rp rfl w0 rfl (pw_sub rfl rfl) ?_
    refine rp rfl w0 rfl (pw_mul rfl rfl) ?_
    refine rp rfl w0 rfl (pu_assign (r := .d _) rfl) ?_
    refine ra_nil ?_
    refine then_n ?_
    refine aw_seq ?_
    refine aw_regionA (is := [0, 1, 2, 3, 4, 5, 6, 7, 8, 9, 10, 11, 12]) rfl ?_
    refine rp rfl w0 rfl (pu_move (r := .d _) rfl) ?_
    refine rp rfl w0 rfl (pw_mul rfl rfl) ?_
    refine rp rfl w0 rfl (pu_move (r := .d _) rfl) ?_
    refine rp rfl w0 rfl (pw_mul rfl rfl) ?_
    refine rp rfl w0 rfl (pu_move (r := .d _) rfl) ?_
    refine rp rfl w0 rfl (pw_mul rfl rfl) ?_
    refine rp rfl w0 rfl (pu_move (r := .d _) rfl) ?_
    refine rp rfl w0 rfl (pw_mul rfl rfl) ?_
    refine rp rfl w0 rfl (pu_move (r := .d _) rfl) ?_
    refine rp rfl w0 rfl (pw_mul rfl rfl) ?_
    refine rp rfl w0 rfl (pw_sub rfl rfl) ?_
    obtain ⟨v2, hv2, h0⟩ := bnd h0
    refine rs rfl w0 rfl (c_call 3 (s_l02Near_c hv2) rfl rfl rfl) ?_
    refine rp rfl w0 rfl (pu_assign (r := .d _) rfl) ?_
    refine ra_nil ?_
    refine then_n ?_
    refine aw_ret ?_
    cases h0
    exact ret0_ (rs := [.tmp 6]) rfl

theorem s_l25Round_c {p0 : Int} {p1 : Int} {p2 : Int} {r : Spot_} (h0 : s_l25Round_m p0 p1 p2 = some r) : FnC Try.prog 54 [] [.d (.v (.int .i64 p0)), .d (.v (.int .i64 p1)), .d (.v (.int .i64 p2))] [] (.agg [.d (.v (.int .i64 r.X)), .d (.v (.int .i64 r.Y))]) := by
  refine fnc_intro (T := tt) (N := 25) tok Try.func54 rfl rfl (by kernel_rfl) rfl rfl ?_
  unfold s_l25Round_m at h0
  refine aw_seq ?_
  refine aw_regionA (is := [0]) rfl ?_
  refine rs rfl w0 rfl (st_alloc 3 (cs := [.d (.v (.int .i64 0)), .d (.v (.int .i64 0))]) tok rfl rfl rfl) ?_
  refine ra_nil ?_
  refine then_n ?_
  refine aw_seq ?_
  refine aw_region_draw (is := [0, 1, 2, 3, 4, 6, 7, 8, 9, 10, 11, 12, 13, 14, 15, 5, 16, 17, 18]) follows ?_
  refine rt_p rfl w0 rfl (pu_move (r := .d _) rfl) ?_
  refine rt_p rfl w0 rfl (pu_move (r := .d _) rfl) ?_
  refine rt_p rfl w0 rfl (pu_move (r := .d _) rfl) ?_
  obtain ⟨hq1, h0⟩ := chk_e h0
  refine rt_p rfl w0 rfl (pu_remw rfl rfl hq1) ?_
  refine rt_p rfl w0 rfl (pu_move (r := .d _) rfl) ?_
  refine rt_p rfl w0 rfl (pu_move (r := .d _) rfl) ?_
  refine rt_p rfl w0 rfl (pu_move (r := .d _) rfl) ?_
  refine rt_p rfl w0 rfl (pw_mul rfl rfl) ?_
  refine rt_p rfl w0 rfl (pu_move (r := .d _) rfl) ?_
  refine rt_p rfl w0 rfl (pw_add rfl rfl) ?_
  refine rt_p rfl w0 rfl (pu_move (r := .d _) rfl) ?_
  refine rt_p rfl w0 rfl (pw_mul rfl rfl) ?_
  obtain ⟨hq2, h0⟩ := chk_e h0
  refine rt_p rfl w0 rfl (pu_remw rfl rfl hq2) ?_
  refine rt_p rfl w0 rfl (pu_move (r := .d _) rfl) ?_
  refine rt_p rfl w0 rfl (pw_mul rfl rfl) ?_
  obtain ⟨v3, hv3, h0⟩ := bnd h0
  refine rt_c rfl w0 rfl (b_call 4 (s_l25Sine_c hv3) rfl rfl rfl) ?_
  obtain ⟨v4, hv4, h0⟩ := bnd h0
  refine rt_c rfl w0 rfl (b_call 4 (s_l25Sine_c hv4) rfl rfl rfl) ?_
  refine rt_p rfl w0 rfl (pu_build (C0 := [.d (.v (.int .i64 0)), .d (.v (.int .i64 0))]) tok rfl rfl (by repeat (first | exact Plc.nil | apply Plc.cons rfl)) rfl (by repeat (first | exact Bld.nil _ | apply Bld.cons (cs := [.d _]) rfl rfl rfl rfl (by repeat (first | exact Spl.z _ | apply Spl.t | apply Spl.d)) | apply Bld.cons (cs := [.own _ _ _]) rfl rfl rfl rfl (by repeat (first | exact Spl.z _ | apply Spl.t | apply Spl.d)) | apply Bld.cons (cs := [.ptr _ _ _ _ _]) rfl rfl rfl rfl (by repeat (first | exact Spl.z _ | apply Spl.t | apply Spl.d)) | apply Bld.cons (cs := [.fn _ _]) rfl rfl rfl rfl (by repeat (first | exact Spl.z _ | apply Spl.t | apply Spl.d)) | apply Bld.cons (cs := _ :: _) rfl rfl rfl rfl (by repeat (first | exact Spl.z _ | apply Spl.t | apply Spl.d))))) ?_
  refine rt_wk rfl w0 (bx_st (cs := _ :: _) tok rfl rfl rfl rfl rfl rfl rfl) ?_
  refine rt_nil ?_
  refine ⟨by kernel_rfl, ?_⟩
  refine then_n ?_
  refine aw_ret ?_
  cases h0
  exact ret0_ (rs := [.cell 6 39]) rfl

theorem s_GearDrawing_c {p0 : Profile_} {r : Drawing_ × Int} (h0 : s_GearDrawing_m p0 = some r) : FnC Try.prog 28 [] [.agg [.d (.v (.int .i64 p0.Teeth)), .d (.v (.int .i64 p0.Module)), .d (.v (.int .i64 p0.Addendum)), .d (.v (.int .i64 p0.Angle.Sin)), .d (.v (.int .i64 p0.Angle.Cos)), .d (.v (.int .i64 p0.Angle.Hyp))]] [.live [⟨80, 7, .data (List.map cShape_ r.1.Shapes)⟩]] (.tup [.agg [.own 0 0 r.1.Shapes.length], .d (.v (.int .i64 r.2))]) := by
  refine fnc_intro (T := tt) (N := 77) tok Try.func28 rfl rfl (by kernel_rfl) rfl rfl ?_
  unfold s_GearDrawing_m at h0
  refine aw_seq ?_
  refine aw_regionA (is := [0, 1, 2]) rfl ?_
  refine rs rfl w0 rfl (st_box 3 (cs := _ :: _) rfl rfl rfl) ?_
  refine rs rfl w0 rfl (st_alloc 4 (cs := [.d (.v (.slice none 0 0))]) tok rfl rfl rfl) ?_
  refine rp rfl w0 rfl (pu_assign (r := .d _) rfl) ?_
  refine ra_nil ?_
  refine then_n ?_
  refine aw_seq ?_
  refine aw_seq ?_
  refine aw_regionA (is := [0, 1, 2]) rfl ?_
  refine rl rfl w0 rfl (bx_ldN tok rfl rfl rfl rfl) ?_
  obtain ⟨v1, hv1, h0⟩ := bnd h0
  refine rs rfl w0 rfl (c_call 5 (s_l10Ok_c hv1) rfl rfl rfl) ?_
  refine rp rfl w0 rfl (pu_not rfl) ?_
  refine ra_nil ?_
  refine then_n ?_
  refine aw_ifB h0 rfl (fun hc h0 => ?_) (fun hc h0 => ?_)
  · skip
    refine aw_seq ?_
    refine aw_regionA (is := [0, 1, 2]) rfl ?_
    refine rp rfl w0 rfl (pu_build (C0 := [.d (.v (.slice none 0 0))]) tok rfl rfl (by repeat (first | exact Plc.nil | apply Plc.cons rfl)) rfl (by repeat (first | exact Bld.nil _ | apply Bld.cons (cs := [.d _]) rfl rfl rfl rfl (by repeat (first | exact Spl.z _ | apply Spl.t | apply Spl.d)) | apply Bld.cons (cs := [.own _ _ _]) rfl rfl rfl rfl (by repeat (first | exact Spl.z _ | apply Spl.t | apply Spl.d)) | apply Bld.cons (cs := [.ptr _ _ _ _ _]) rfl rfl rfl rfl (by repeat (first | exact Spl.z _ | apply Spl.t | apply Spl.d)) | apply Bld.cons (cs := [.fn _ _]) rfl rfl rfl rfl (by repeat (first | exact Spl.z _ | apply Spl.t | apply Spl.d)) | apply Bld.cons (cs := _ :: _) rfl rfl rfl rfl (by repeat (first | exact Spl.z _ | apply Spl.t | apply Spl.d))))) ?_
    refine rw0 rfl w0 (bx_st (cs := _ :: _) tok rfl rfl rfl rfl rfl rfl rfl) ?_
    refine rp rfl w0 rfl (pu_assign (r := .d _) rfl) ?_
    refine ra_nil ?_
    refine then_n ?_
    refine aw_weak (weak_adopt 5 rfl 80 7 (kb := 4) (j := 0) rfl rfl (by repeat (first | exact Spl.z _ | apply Spl.t | apply Spl.d))) ?_
    refine aw_ret ?_
    refine then_r ?_
    cases h0
    exact retK_ (rs := [.cell 2 29, .tmp 3]) [5] rfl
  · skip
    refine aw_skip ?_
    refine then_n ?_
    refine aw_seq ?_
    refine aw_regionA (is := [0, 1, 2, 3, 4, 5, 6, 7, 8, 9, 10]) rfl ?_
    refine rl rfl w0 rfl (bx_ldN tok rfl rfl rfl rfl) ?_
    obtain ⟨v2, hv2, h0⟩ := bnd h0
    refine rs rfl w0 rfl (c_call 5 (s_Diameters_c hv2) rfl rfl rfl) ?_
    refine rp rfl w0 rfl (pu_move (r := .tup _) rfl) ?_
    refine rp rfl w0 rfl (pu_extract rfl rfl) ?_
    refine rp rfl w0 rfl (pu_extract rfl rfl) ?_
    refine rp rfl w0 rfl (pu_extract rfl rfl) ?_
    refine rp rfl w0 rfl (pu_extract rfl rfl) ?_
    refine rp rfl w0 rfl (pu_assign (r := .d _) rfl) ?_
    refine rp rfl w0 rfl (pu_assign (r := .d _) rfl) ?_
    refine rp rfl w0 rfl (pu_assign (r := .d _) rfl) ?_
    refine rp rfl w0 rfl (pu_assign (r := .d _) rfl) ?_
    refine ra_nil ?_
    refine then_n ?_
    refine aw_seq ?_
    refine aw_regionA (is := [0, 1, 2]) rfl ?_
    refine rp rfl w0 rfl (pu_move (r := .d _) rfl) ?_
    refine rp rfl w0 rfl (pw_quo rfl rfl (by decide)) ?_
    refine rp rfl w0 rfl (pu_assign (r := .d _) rfl) ?_
    refine ra_nil ?_
    refine then_n ?_
    refine aw_seq ?_
    refine aw_regionA (is := [0, 1, 2]) rfl ?_
    refine rp rfl w0 rfl (pu_move (r := .d _) rfl) ?_
    refine rp rfl w0 rfl (pw_quo rfl rfl (by decide)) ?_
    refine rp rfl w0 rfl (pu_assign (r := .d _) rfl) ?_
    refine ra_nil ?_
    refine then_n ?_
    refine aw_seq ?_
    obtain ⟨v7, h1, h0⟩ := bnd h0
    refine aw_cut ⟨updA (updA (updA (updA (updA ((fun _ => .dead)) 1 (.ptr 3 0 1 0 0)) 2 (.ptr 4 0 1 0 0)) 8 (.d (.v (.int .i64 (w64 (v2.2.1.tdiv 20)))))) 9 (.d (.v (.int .i64 (w64 (v2.2.2.1.tdiv 20)))))) 37 (.d (.v (.bool v7))), lks [.no, .no, .no, .live [⟨50, 6, .av [[.d (.v (.int .i64 p0.Teeth)), .d (.v (.int .i64 p0.Module)), .d (.v (.int .i64 p0.Addendum)), .d (.v (.int .i64 p0.Angle.Sin)), .d (.v (.int .i64 p0.Angle.Cos)), .d (.v (.int .i64 p0.Angle.Hyp))]]⟩], .live [⟨29, 1, .av [[.d (.v (.slice none 0 0))]]⟩]]⟩ ?_ ?_
    · skip
      refine aw_regionA (is := [0, 1, 2, 3, 4, 5, 6, 7]) rfl ?_
      refine rp rfl w0 rfl (pu_move (r := .d _) rfl) ?_
      obtain ⟨v5, hv5, h1⟩ := bnd h1
      refine rs rfl w0 rfl (c_call 5 (s_l00In_c hv5) rfl rfl rfl) ?_
      refine rp rfl w0 rfl (pu_not rfl) ?_
      refine rp rfl w0 rfl (pu_move (r := .d _) rfl) ?_
      refine ra_ifB (u := 33) h1 rfl (fun hc h1 => ?_) (fun hc h1 => ?_)
      · skip
        refine rk rfl rfl rfl (by first | exact .inl rfl | exact .inr rfl) rfl ?_
        refine rk rfl rfl rfl (by first | exact .inl rfl | exact .inr rfl) rfl ?_
        refine rk rfl rfl rfl (by first | exact .inl rfl | exact .inr rfl) rfl ?_
        refine rp rfl w0 rfl (pu_pick_t (r := .d _) rfl rfl) ?_
        refine ra_nil ?_
        refine then_n ?_
        cases h1
        exact wk [0, 1, 2, 3, 4]
      · skip
        refine rp rfl (w1 rfl rfl rfl) rfl (pu_move (r := .d _) rfl) ?_
        obtain ⟨v6, hv6, h1⟩ := bnd h1
        refine rs rfl (w1 rfl rfl rfl) rfl (c_call 5 (s_l00In_c hv6) rfl rfl rfl) ?_
        refine rp rfl (w1 rfl rfl rfl) rfl (pu_not rfl) ?_
        refine rp rfl w0 rfl (pu_pick_f (r := .d _) rfl rfl) ?_
        refine ra_nil ?_
        refine then_n ?_
        cases h1
        exact wk [0, 1, 2, 3, 4]
    · skip
      refine aw_ifB h0 rfl (fun hc h0 => ?_) (fun hc h0 => ?_)
      · skip
        refine aw_seq ?_
        refine aw_regionA (is := [0, 1, 2]) rfl ?_
        refine rp rfl w0 rfl (pu_build (C0 := [.d (.v (.slice none 0 0))]) tok rfl rfl (by repeat (first | exact Plc.nil | apply Plc.cons rfl)) rfl (by repeat (first | exact Bld.nil _ | apply Bld.cons (cs := [.d _]) rfl rfl rfl rfl (by repeat (first | exact Spl.z _ | apply Spl.t | apply Spl.d)) | apply Bld.cons (cs := [.own _ _ _]) rfl rfl rfl rfl (by repeat (first | exact Spl.z _ | apply Spl.t | apply Spl.d)) | apply Bld.cons (cs := [.ptr _ _ _ _ _]) rfl rfl rfl rfl (by repeat (first | exact Spl.z _ | apply Spl.t | apply Spl.d)) | apply Bld.cons (cs := [.fn _ _]) rfl rfl rfl rfl (by repeat (first | exact Spl.z _ | apply Spl.t | apply Spl.d)) | apply Bld.cons (cs := _ :: _) rfl rfl rfl rfl (by repeat (first | exact Spl.z _ | apply Spl.t | apply Spl.d))))) ?_
        refine rw0 rfl w0 (bx_st (cs := _ :: _) tok rfl rfl rfl rfl rfl rfl rfl) ?_
        refine rp rfl w0 rfl (pu_assign (r := .d _) rfl) ?_
        refine ra_nil ?_
        refine then_n ?_
        refine aw_weak (weak_adopt 5 rfl 80 7 (kb := 4) (j := 0) rfl rfl (by repeat (first | exact Spl.z _ | apply Spl.t | apply Spl.d))) ?_
        refine aw_ret ?_
        refine then_r ?_
        cases h0
        exact retK_ (rs := [.cell 2 29, .tmp 3]) [5] rfl
      · skip
        refine aw_skip ?_
        refine then_n ?_
        refine aw_seq ?_
        refine aw_regionA (is := [0, 1, 2, 3]) rfl ?_
        refine rl rfl w0 rfl (bx_fa tok rfl rfl rfl rfl rfl rfl rfl) ?_
        refine rl rfl w0 rfl (bx_ld1 tok rfl rfl rfl rfl rfl) ?_
        refine rp rfl w0 rfl (pw_mul rfl rfl) ?_
        refine rp rfl w0 rfl (pu_assign (r := .d _) rfl) ?_
        refine ra_nil ?_
        refine then_n ?_
        refine aw_seq ?_
        refine aw_regionA (is := [0, 1, 2]) rfl ?_
        refine rp rfl w0 rfl (pu_build (C0 := [.d (.v (.slice none 0 0))]) tok rfl rfl (by repeat (first | exact Plc.nil | apply Plc.cons rfl)) rfl (by repeat (first | exact Bld.nil _ | apply Bld.cons (cs := [.d _]) rfl rfl rfl rfl (by repeat (first | exact Spl.z _ | apply Spl.t | apply Spl.d)) | apply Bld.cons (cs := [.own _ _ _]) rfl rfl rfl rfl (by repeat (first | exact Spl.z _ | apply Spl.t | apply Spl.d)) | apply Bld.cons (cs := [.ptr _ _ _ _ _]) rfl rfl rfl rfl (by repeat (first | exact Spl.z _ | apply Spl.t | apply Spl.d)) | apply Bld.cons (cs := [.fn _ _]) rfl rfl rfl rfl (by repeat (first | exact Spl.z _ | apply Spl.t | apply Spl.d)) | apply Bld.cons (cs := _ :: _) rfl rfl rfl rfl (by repeat (first | exact Spl.z _ | apply Spl.t | apply Spl.d))))) ?_
        refine rs rfl w0 rfl (st_alloc 5 (cs := [.d (.v (.slice none 0 0))]) tok rfl rfl rfl) ?_
        refine rw0 rfl w0 (bx_st (cs := _ :: _) tok rfl rfl rfl rfl rfl rfl rfl) ?_
        refine ra_nil ?_
        refine then_n ?_
        obtain ⟨v26, h1, h0⟩ := bnd h0
        refine aw_cut ⟨updA (updA ((fun _ => .dead)) 2 (.ptr 3 0 1 0 0)) 11 (.ptr 4 0 1 0 0), lks [.no, .no, .no, .live [⟨29, 1, .av [[.d (.v (.slice none 0 0))]]⟩], .live [⟨29, 1, .av [[.own 5 0 (v26).length]]⟩], .live [⟨80, 7, .data (List.map cShape_ v26)⟩]]⟩ ?_ ?_
        · skip
          refine aw_seq ?_
          refine aw_regionA (is := [0]) rfl ?_
          refine rp rfl w0 rfl (pu_assign (r := .d _) rfl) ?_
          refine ra_nil ?_
          refine then_n ?_
          refine aw_block ?_
          refine aw_loopM (fun s17 => ⟨updA (updA (updA (updA (updA (updA ((fun _ => .dead)) 2 (.ptr 3 0 1 0 0)) 8 (.d (.v (.int .i64 (w64 (v2.2.1.tdiv 20)))))) 9 (.d (.v (.int .i64 (w64 (v2.2.2.1.tdiv 20)))))) 10 (.d (.v (.int .i64 (w64 (4 * p0.Teeth)))))) 11 (.ptr 4 0 1 0 0)) 12 (.d (.v (.int .i64 s17.1))), lks [.no, .no, .no, .live [⟨29, 1, .av [[.d (.v (.slice none 0 0))]]⟩], .live [⟨29, 1, .av [[.own 5 0 (s17.2).length]]⟩], .live [⟨80, 7, .data (List.map cShape_ s17.2)⟩]]⟩) h1 ?_ (fun s17 y h2 => ?_)
          · skip
            refine Weak.trans_ (weak_adopt 6 rfl 80 7 (kb := 5) (j := 0) rfl rfl (by repeat (first | exact Spl.z _ | apply Spl.t | apply Spl.d))) ?_
            exact wk [0, 1, 2, 4, 5, 6]
          · skip
            refine aw_seq ?_
            refine aw_seq ?_
            refine aw_regionA (is := [0, 1, 2]) rfl ?_
            refine rp rfl w0 rfl (pu_move (r := .d _) rfl) ?_
            refine rp rfl w0 rfl (pu_move (r := .d _) rfl) ?_
            refine rp rfl w0 rfl (pu_lss rfl rfl) ?_
            refine ra_nil ?_
            refine then_n ?_
            refine aw_if h2 rfl (fun hc h2 => ?_) (fun hc h2 => ?_)
            · skip
              refine aw_skip ?_
              refine then_n ?_
              refine aw_seq ?_
              refine aw_block ?_
              refine aw_seq ?_
              refine aw_regionA (is := [0, 1]) rfl ?_
              refine rp rfl w0 rfl (pu_move (r := .d _) rfl) ?_
              refine rp rfl w0 rfl (pu_assign (r := .d _) rfl) ?_
              refine ra_nil ?_
              refine then_n ?_
              refine aw_seq ?_
              refine aw_regionA (is := [0, 1]) rfl ?_
              refine rp rfl w0 rfl (pu_move (r := .d _) rfl) ?_
              refine rp rfl w0 rfl (pu_assign (r := .d _) rfl) ?_
              refine ra_nil ?_
              refine then_n ?_
              obtain ⟨v19, h3, h2⟩ := bnd h2
              refine aw_cut ⟨updA (updA (updA (updA (updA (updA (updA (updA ((fun _ => .dead)) 2 (.ptr 3 0 1 0 0)) 8 (.d (.v (.int .i64 (w64 (v2.2.1.tdiv 20)))))) 9 (.d (.v (.int .i64 (w64 (v2.2.2.1.tdiv 20)))))) 10 (.d (.v (.int .i64 (w64 (4 * p0.Teeth)))))) 11 (.ptr 4 0 1 0 0)) 12 (.d (.v (.int .i64 s17.1)))) 13 (.d (.v (.int .i64 v19)))) 14 (.d (.v (.int .i64 (w64 (v2.2.2.1.tdiv 20))))), lks [.no, .no, .no, .live [⟨29, 1, .av [[.d (.v (.slice none 0 0))]]⟩], .live [⟨29, 1, .av [[.own 5 0 (s17.2).length]]⟩], .live [⟨80, 7, .data (List.map cShape_ s17.2)⟩]]⟩ ?_ ?_
              · skip
                refine aw_seq ?_
                refine aw_regionA (is := [0, 1, 2]) rfl ?_
                refine rp rfl w0 rfl (pu_move (r := .d _) rfl) ?_
                refine rp rfl w0 rfl (pu_remw rfl rfl (by decide)) ?_
                refine rp rfl w0 rfl (pu_lss rfl rfl) ?_
                refine ra_nil ?_
                refine then_n ?_
                refine aw_if h3 rfl (fun hc h3 => ?_) (fun hc h3 => ?_)
                · skip
                  refine aw_regionA (is := [0, 1]) rfl ?_
                  refine rp rfl w0 rfl (pu_move (r := .d _) rfl) ?_
                  refine rp rfl w0 rfl (pu_assign (r := .d _) rfl) ?_
                  refine ra_nil ?_
                  refine then_n ?_
                  cases h3
                  exact wk [0, 1, 2, 3, 4, 5]
                · skip
                  refine aw_skip ?_
                  refine then_n ?_
                  cases h3
                  exact wk [0, 1, 2, 3, 4, 5]
              · skip
                obtain ⟨v21, h3, h2⟩ := bnd h2
                refine aw_cut ⟨updA (updA (updA (updA (updA (updA (updA (updA ((fun _ => .dead)) 2 (.ptr 3 0 1 0 0)) 8 (.d (.v (.int .i64 (w64 (v2.2.1.tdiv 20)))))) 9 (.d (.v (.int .i64 (w64 (v2.2.2.1.tdiv 20)))))) 10 (.d (.v (.int .i64 (w64 (4 * p0.Teeth)))))) 11 (.ptr 4 0 1 0 0)) 12 (.d (.v (.int .i64 s17.1)))) 13 (.d (.v (.int .i64 v19)))) 14 (.d (.v (.int .i64 v21))), lks [.no, .no, .no, .live [⟨29, 1, .av [[.d (.v (.slice none 0 0))]]⟩], .live [⟨29, 1, .av [[.own 5 0 (s17.2).length]]⟩], .live [⟨80, 7, .data (List.map cShape_ s17.2)⟩]]⟩ ?_ ?_
                · skip
                  refine aw_seq ?_
                  refine aw_regionA (is := [0, 1, 2, 3]) rfl ?_
                  refine rp rfl w0 rfl (pu_move (r := .d _) rfl) ?_
                  refine rp rfl w0 rfl (pw_add rfl rfl) ?_
                  refine rp rfl w0 rfl (pu_remw rfl rfl (by decide)) ?_
                  refine rp rfl w0 rfl (pu_lss rfl rfl) ?_
                  refine ra_nil ?_
                  refine then_n ?_
                  refine aw_if h3 rfl (fun hc h3 => ?_) (fun hc h3 => ?_)
                  · skip
                    refine aw_regionA (is := [0, 1]) rfl ?_
                    refine rp rfl w0 rfl (pu_move (r := .d _) rfl) ?_
                    refine rp rfl w0 rfl (pu_assign (r := .d _) rfl) ?_
                    refine ra_nil ?_
                    refine then_n ?_
                    cases h3
                    exact wk [0, 1, 2, 3, 4, 5]
                  · skip
                    refine aw_skip ?_
                    refine then_n ?_
                    cases h3
                    exact wk [0, 1, 2, 3, 4, 5]
                · skip
                  refine aw_region_draw (is := [0, 1, 2, 3, 4, 6, 7, 8, 9, 10, 11, 5, 12, 13, 14, 15, 16, 17]) follows ?_
                  refine rt_lk rfl w0 rfl (bx_fa tok rfl rfl rfl rfl rfl rfl rfl) rfl rfl rfl ?_
                  refine rt_lk rfl w0 rfl (bx_ld1 tok rfl rfl rfl rfl rfl) rfl rfl rfl ?_
                  refine rt_p rfl w0 rfl (pu_move (r := .d _) rfl) ?_
                  refine rt_p rfl w0 rfl (pu_move (r := .d _) rfl) ?_
                  refine rt_p rfl w0 rfl (pu_move (r := .d _) rfl) ?_
                  refine rt_p rfl w0 rfl (pu_move (r := .d _) rfl) ?_
                  refine rt_p rfl w0 rfl (pu_move (r := .d _) rfl) ?_
                  refine rt_p rfl w0 rfl (pw_add rfl rfl) ?_
                  refine rt_p rfl w0 rfl (pu_move (r := .d _) rfl) ?_
                  obtain ⟨hq22, h2⟩ := chk_e h2
                  refine rt_p rfl w0 rfl (pu_remw rfl rfl hq22) ?_
                  refine rt_p rfl w0 rfl (pu_move (r := .d _) rfl) ?_
                  obtain ⟨v23, hv23, h2⟩ := bnd h2
                  refine rt_c rfl w0 rfl (b_call 6 (s_l25Round_c hv23) rfl rfl rfl) ?_
                  obtain ⟨v24, hv24, h2⟩ := bnd h2
                  refine rt_c rfl w0 rfl (b_call 6 (s_l25Round_c hv24) rfl rfl rfl) ?_
                  refine rt_p rfl w0 rfl (pu_build (C0 := [.d (.v (.int .i64 0)), .d (.v (.int .i64 0)), .d (.v (.int .i64 0)), .d (.v (.int .i64 0)), .d (.v (.int .i64 0)), .d (.v (.int .i64 0)), .d (.v (.string (⟨#[]⟩ : ByteArray)))]) tok rfl rfl (by repeat (first | exact Plc.nil | apply Plc.cons rfl)) rfl (by repeat (first | exact Bld.nil _ | apply Bld.cons (cs := [.d _]) rfl rfl rfl rfl (by repeat (first | exact Spl.z _ | apply Spl.t | apply Spl.d)) | apply Bld.cons (cs := [.own _ _ _]) rfl rfl rfl rfl (by repeat (first | exact Spl.z _ | apply Spl.t | apply Spl.d)) | apply Bld.cons (cs := [.ptr _ _ _ _ _]) rfl rfl rfl rfl (by repeat (first | exact Spl.z _ | apply Spl.t | apply Spl.d)) | apply Bld.cons (cs := [.fn _ _]) rfl rfl rfl rfl (by repeat (first | exact Spl.z _ | apply Spl.t | apply Spl.d)) | apply Bld.cons (cs := _ :: _) rfl rfl rfl rfl (by repeat (first | exact Spl.z _ | apply Spl.t | apply Spl.d))))) ?_
                  refine rt_s rfl w0 rfl (bs_val tok cShape_ [(⟨1, v23, v24, 0, (⟨#[]⟩ : ByteArray)⟩ : Shape_)] rfl rfl rfl (by repeat (first | exact Els.nil _ | apply Els.cons (cs := [.d _]) rfl rfl rfl | apply Els.cons (cs := _ :: _) rfl rfl rfl)) rfl rfl rfl (by repeat (first | exact AllDD.nil | (apply AllDD.cons; (repeat (first | exact AllD.nil | apply AllD.cons))))) rfl) ?_
                  obtain ⟨hq25, h2⟩ := chk_e h2
                  refine rt_wkd rfl w0 rfl (ap_own tok hq25 rfl rfl rfl rfl rfl rfl rfl rfl rfl rfl rfl rfl (fun _ => rfl)) ?_
                  refine rt_lk rfl w0 rfl (bx_fa tok rfl rfl rfl rfl rfl rfl rfl) rfl rfl rfl ?_
                  refine rt_wk rfl w0 (bx_st (cs := [.own _ _ _]) tok rfl rfl rfl rfl rfl rfl rfl) ?_
                  refine rt_nil ?_
                  refine ⟨by kernel_rfl, ?_⟩
                  refine block_n ?_
                  refine then_n ?_
                  refine aw_regionA (is := [0, 1, 2]) rfl ?_
                  refine rp rfl w0 rfl (pu_move (r := .d _) rfl) ?_
                  refine rp rfl w0 rfl (pw_add rfl rfl) ?_
                  refine rp rfl w0 rfl (pu_assign (r := .d _) rfl) ?_
                  refine ra_nil ?_
                  refine loop_n ?_
                  cases h2
                  refine ⟨_, rfl, ?_⟩
                  exact wk [0, 1, 2, 3, 4, 5]
            · skip
              refine aw_exit ?_
              refine then_e ?_
              cases h2
              refine loop_x ⟨_, rfl, fun e => ?_⟩
              subst e
              refine block_hit ?_
              refine then_n ?_
              exact wk [0, 1, 2, 3, 4, 5]
        · skip
          refine aw_seq ?_
          refine aw_regionA (is := [0, 1, 2]) rfl ?_
          refine rl rfl w0 rfl (bx_ldN tok rfl rfl rfl rfl) ?_
          refine rw0 rfl w0 (bx_st (cs := _ :: _) tok rfl rfl rfl rfl rfl rfl rfl) ?_
          refine rp rfl w0 rfl (pu_assign (r := .d _) rfl) ?_
          refine ra_nil ?_
          refine then_n ?_
          refine aw_ret ?_
          cases h0
          exact retK_ (rs := [.cell 2 29, .tmp 3]) [5] rfl

theorem s_DrawDialDrawing_c {p0 : List Int} {r : Int × Int} (h0 : s_DrawDialDrawing_m p0 = some r) : FnC Try.prog 47 [] [.d (.sl (List.map cU8 p0))] [] (.tup [.d (.v (.int .i64 r.1)), .d (.v (.int .i64 r.2))]) := by
  refine fnc_intro (T := tt) (N := 29) tok Try.func47 rfl rfl (by kernel_rfl) rfl rfl ?_
  unfold s_DrawDialDrawing_m at h0
  refine aw_seq ?_
  refine aw_regionA (is := [0, 1]) rfl ?_
  refine rp rfl w0 rfl (pu_assign (r := .d _) rfl) ?_
  refine rp rfl w0 rfl (pu_assign (r := .d _) rfl) ?_
  refine ra_nil ?_
  refine then_n ?_
  refine aw_seq ?_
  refine aw_regionA (is := [0, 1, 2]) rfl ?_
  refine rp rfl w0 rfl (pu_move (r := .d _) rfl) ?_
  obtain ⟨v1, hv1, h0⟩ := bnd h0
  refine rs rfl w0 rfl (c_call 3 (s_l00From_c hv1) rfl rfl rfl) ?_
  refine rp rfl w0 rfl (pu_assign (r := .ptr _ _ _ _ _) rfl) ?_
  refine ra_nil ?_
  refine then_n ?_
  refine aw_seq ?_
  refine aw_regionA (is := [0, 1, 2, 3]) rfl ?_
  refine rp rfl w0 rfl (pu_move (r := .ptr _ _ _ _ _) rfl) ?_
  obtain ⟨v2, hv2, h0⟩ := bnd h0
  refine rw1 rfl w0 rfl (c_callP [3] 300 (l00Src_pick_b_c hv2) rfl rfl) ?_
  refine rp rfl w0 rfl (pw_add rfl rfl) ?_
  refine rp rfl w0 rfl (pu_assign (r := .d _) rfl) ?_
  refine ra_nil ?_
  refine then_n ?_
  refine aw_seq ?_
  refine aw_regionA (is := [0, 1, 2, 3]) rfl ?_
  refine rp rfl w0 rfl (pu_move (r := .ptr _ _ _ _ _) rfl) ?_
  obtain ⟨v3, hv3, h0⟩ := bnd h0
  refine rw1 rfl w0 rfl (c_callP [3] 300 (l00Src_pick_b_c hv3) rfl rfl) ?_
  refine rp rfl w0 rfl (pw_add rfl rfl) ?_
  refine rp rfl w0 rfl (pu_assign (r := .d _) rfl) ?_
  refine ra_nil ?_
  refine then_n ?_
  obtain ⟨v7, h1, h0⟩ := bnd h0
  refine aw_cut ⟨updA (updA ((fun _ => .dead)) 5 (.d (.v (.int .i64 v7.1)))) 6 (.d (.v (.int .i64 v7.2))), lks [.no, .no, .no]⟩ ?_ ?_
  · skip
    refine aw_seq ?_
    refine aw_regionA (is := [0, 1]) rfl ?_
    refine rp rfl w0 rfl (pu_move (r := .ptr _ _ _ _ _) rfl) ?_
    obtain ⟨v4, hv4, h1⟩ := bnd h1
    refine rw1 rfl w0 rfl (c_callP [3] 300 (l00Src_pick_b_c hv4) rfl rfl) ?_
    refine ra_nil ?_
    refine then_n ?_
    refine aw_block ?_
    refine aw_seq ?_
    refine aw_regionA (is := [0, 1]) rfl ?_
    refine rp rfl w0 rfl (pu_eql rfl rfl) ?_
    refine rp rfl w0 rfl (pu_assign (r := .d _) rfl) ?_
    refine ra_nil ?_
    refine then_n ?_
    refine aw_if h1 rfl (fun hc h1 => ?_) (fun hc h1 => ?_)
    · skip
      refine aw_regionA (is := [0, 1, 2, 3]) rfl ?_
      refine rp rfl w0 rfl (pu_move (r := .ptr _ _ _ _ _) rfl) ?_
      refine rs rfl w0 rfl (bs_val tok cI [9, 10, 100000, 100001] rfl rfl rfl (by repeat (first | exact Els.nil _ | apply Els.cons (cs := [.d _]) rfl rfl rfl | apply Els.cons (cs := _ :: _) rfl rfl rfl)) rfl rfl rfl (by repeat (first | exact AllDD.nil | (apply AllDD.cons; (repeat (first | exact AllD.nil | apply AllD.cons))))) rfl) ?_
      obtain ⟨v5, hv5, h1⟩ := bnd h1
      refine rw1 rfl w0 rfl (c_callP [3] 300 (l00Src_among_b_c hv5) rfl rfl) ?_
      refine rp rfl w0 rfl (pu_assign (r := .d _) rfl) ?_
      refine ra_nil ?_
      refine block_n ?_
      refine then_n ?_
      cases h1
      exact wk [0, 1, 2]
    · skip
      refine aw_seq ?_
      refine aw_regionA (is := [0, 1]) rfl ?_
      refine rp rfl w0 rfl (pu_eql rfl rfl) ?_
      refine rp rfl w0 rfl (pu_assign (r := .d _) rfl) ?_
      refine ra_nil ?_
      refine then_n ?_
      refine aw_if h1 rfl (fun hc h1 => ?_) (fun hc h1 => ?_)
      · skip
        refine aw_regionA (is := [0, 1, 2, 3]) rfl ?_
        refine rp rfl w0 rfl (pu_move (r := .ptr _ _ _ _ _) rfl) ?_
        refine rs rfl w0 rfl (bs_val tok cI [0, 1, 240, 241] rfl rfl rfl (by repeat (first | exact Els.nil _ | apply Els.cons (cs := [.d _]) rfl rfl rfl | apply Els.cons (cs := _ :: _) rfl rfl rfl)) rfl rfl rfl (by repeat (first | exact AllDD.nil | (apply AllDD.cons; (repeat (first | exact AllD.nil | apply AllD.cons))))) rfl) ?_
        obtain ⟨v6, hv6, h1⟩ := bnd h1
        refine rw1 rfl w0 rfl (c_callP [3] 300 (l00Src_among_b_c hv6) rfl rfl) ?_
        refine rp rfl w0 rfl (pu_assign (r := .d _) rfl) ?_
        refine ra_nil ?_
        refine block_n ?_
        refine then_n ?_
        cases h1
        exact wk [0, 1, 2]
      · skip
        refine aw_skip ?_
        refine block_n ?_
        refine then_n ?_
        cases h1
        exact wk [0, 1, 2]
  · skip
    refine aw_seq ?_
    refine aw_regionA (is := [0, 1, 2, 3]) rfl ?_
    refine rp rfl w0 rfl (pu_move (r := .d _) rfl) ?_
    refine rp rfl w0 rfl (pu_move (r := .d _) rfl) ?_
    refine rp rfl w0 rfl (pu_assign (r := .d _) rfl) ?_
    refine rp rfl w0 rfl (pu_assign (r := .d _) rfl) ?_
    refine ra_nil ?_
    refine then_n ?_
    refine aw_ret ?_
    cases h0
    exact ret0_ (rs := [.tmp 2, .tmp 3]) rfl

theorem i_circle_c {p0 : Spot_} {p1 : Int} {r : Shape_} (h0 : i_circle_m p0 p1 = some r) : FnC Try.prog 56 [] [.agg [.d (.v (.int .i64 p0.X)), .d (.v (.int .i64 p0.Y))], .d (.v (.int .i64 p1))] [] (.agg [.d (.v (.int .i64 r.Kind)), .d (.v (.int .i64 r.A.X)), .d (.v (.int .i64 r.A.Y)), .d (.v (.int .i64 r.B.X)), .d (.v (.int .i64 r.B.Y)), .d (.v (.int .i64 r.R)), .d (.v (.string r.Name))]) := by
  refine fnc_intro (T := tt) (N := 8) tok Try.func56 rfl rfl (by kernel_rfl) rfl rfl ?_
  unfold i_circle_m at h0
  refine aw_seq ?_
  refine aw_regionA (is := [0, 1]) rfl ?_
  refine rs rfl w0 rfl (st_box 3 (cs := _ :: _) rfl rfl rfl) ?_
  refine rs rfl w0 rfl (st_alloc 4 (cs := [.d (.v (.int .i64 0)), .d (.v (.int .i64 0)), .d (.v (.int .i64 0)), .d (.v (.int .i64 0)), .d (.v (.int .i64 0)), .d (.v (.int .i64 0)), .d (.v (.string (⟨#[]⟩ : ByteArray)))]) tok rfl rfl rfl) ?_
  refine ra_nil ?_
  refine then_n ?_
  refine aw_seq ?_
  refine aw_regionA (is := [0, 1, 2, 3]) rfl ?_
  refine rl rfl w0 rfl (bx_ldN tok rfl rfl rfl rfl) ?_
  refine rp rfl w0 rfl (pu_move (r := .d _) rfl) ?_
  refine rp rfl w0 rfl (pu_build (C0 := [.d (.v (.int .i64 0)), .d (.v (.int .i64 0)), .d (.v (.int .i64 0)), .d (.v (.int .i64 0)), .d (.v (.int .i64 0)), .d (.v (.int .i64 0)), .d (.v (.string (⟨#[]⟩ : ByteArray)))]) tok rfl rfl (by repeat (first | exact Plc.nil | apply Plc.cons rfl)) rfl (by repeat (first | exact Bld.nil _ | apply Bld.cons (cs := [.d _]) rfl rfl rfl rfl (by repeat (first | exact Spl.z _ | apply Spl.t | apply Spl.d)) | apply Bld.cons (cs := [.own _ _ _]) rfl rfl rfl rfl (by repeat (first | exact Spl.z _ | apply Spl.t | apply Spl.d)) | apply Bld.cons (cs := [.ptr _ _ _ _ _]) rfl rfl rfl rfl (by repeat (first | exact Spl.z _ | apply Spl.t | apply Spl.d)) | apply Bld.cons (cs := [.fn _ _]) rfl rfl rfl rfl (by repeat (first | exact Spl.z _ | apply Spl.t | apply Spl.d)) | apply Bld.cons (cs := _ :: _) rfl rfl rfl rfl (by repeat (first | exact Spl.z _ | apply Spl.t | apply Spl.d))))) ?_
  refine rw0 rfl w0 (bx_st (cs := _ :: _) tok rfl rfl rfl rfl rfl rfl rfl) ?_
  refine ra_nil ?_
  refine then_n ?_
  refine aw_ret ?_
  cases h0
  exact ret0_ (rs := [.cell 4 80]) rfl

theorem i_DialDrawing_c {p0 : Int} {p1 : Int} {r : Drawing_ × Int} (h0 : i_DialDrawing_m p0 p1 = some r) : FnC Try.prog 20 [] [.d (.v (.int .i64 p0)), .d (.v (.int .i64 p1))] [.live [⟨80, 7, .data (List.map cShape_ r.1.Shapes)⟩]] (.tup [.agg [.own 0 0 r.1.Shapes.length], .d (.v (.int .i64 r.2))]) := by
  refine fnc_intro (T := tt) (N := 44) tok Try.func20 rfl rfl (by kernel_rfl) rfl rfl ?_
  unfold i_DialDrawing_m at h0
  refine aw_seq ?_
  refine aw_regionA (is := [0, 1]) rfl ?_
  refine rs rfl w0 rfl (st_alloc 3 (cs := [.d (.v (.slice none 0 0))]) tok rfl rfl rfl) ?_
  refine rp rfl w0 rfl (pu_assign (r := .d _) rfl) ?_
  refine ra_nil ?_
  refine then_n ?_
  refine aw_seq ?_
  obtain ⟨v3, h1, h0⟩ := bnd h0
  refine aw_cut ⟨updA (updA (updA (updA ((fun _ => .dead)) 0 (.d (.v (.int .i64 p0)))) 1 (.d (.v (.int .i64 p1)))) 4 (.ptr 3 0 1 0 0)) 15 (.d (.v (.bool v3))), lks [.no, .no, .no, .live [⟨29, 1, .av [[.d (.v (.slice none 0 0))]]⟩]]⟩ ?_ ?_
  · skip
    refine aw_regionA (is := [0, 1, 2, 3, 4, 5, 6, 7]) rfl ?_
    refine rp rfl w0 rfl (pu_move (r := .d _) rfl) ?_
    obtain ⟨v1, hv1, h1⟩ := bnd h1
    refine rs rfl w0 rfl (c_call 4 (i_within_c hv1) rfl rfl rfl) ?_
    refine rp rfl w0 rfl (pu_not rfl) ?_
    refine rp rfl w0 rfl (pu_move (r := .d _) rfl) ?_
    refine ra_ifB (u := 11) h1 rfl (fun hc h1 => ?_) (fun hc h1 => ?_)
    · skip
      refine rk rfl rfl rfl (by first | exact .inl rfl | exact .inr rfl) rfl ?_
      refine rk rfl rfl rfl (by first | exact .inl rfl | exact .inr rfl) rfl ?_
      refine rk rfl rfl rfl (by first | exact .inl rfl | exact .inr rfl) rfl ?_
      refine rp rfl w0 rfl (pu_pick_t (r := .d _) rfl rfl) ?_
      refine ra_nil ?_
      refine then_n ?_
      cases h1
      exact wk [0, 1, 2, 3]
    · skip
      refine rp rfl (w1 rfl rfl rfl) rfl (pu_move (r := .d _) rfl) ?_
      obtain ⟨v2, hv2, h1⟩ := bnd h1
      refine rs rfl (w1 rfl rfl rfl) rfl (c_call 4 (i_within_c hv2) rfl rfl rfl) ?_
      refine rp rfl (w1 rfl rfl rfl) rfl (pu_not rfl) ?_
      refine rp rfl w0 rfl (pu_pick_f (r := .d _) rfl rfl) ?_
      refine ra_nil ?_
      refine then_n ?_
      cases h1
      exact wk [0, 1, 2, 3]
  · skip
    refine aw_ifB h0 rfl (fun hc h0 => ?_) (fun hc h0 => ?_)
    · skip
      refine aw_seq ?_
      refine aw_regionA (is := [0, 1, 2]) rfl ?_
      refine rp rfl w0 rfl (pu_build (C0 := [.d (.v (.slice none 0 0))]) tok rfl rfl (by repeat (first | exact Plc.nil | apply Plc.cons rfl)) rfl (by repeat (first | exact Bld.nil _ | apply Bld.cons (cs := [.d _]) rfl rfl rfl rfl (by repeat (first | exact Spl.z _ | apply Spl.t | apply Spl.d)) | apply Bld.cons (cs := [.own _ _ _]) rfl rfl rfl rfl (by repeat (first | exact Spl.z _ | apply Spl.t | apply Spl.d)) | apply Bld.cons (cs := [.ptr _ _ _ _ _]) rfl rfl rfl rfl (by repeat (first | exact Spl.z _ | apply Spl.t | apply Spl.d)) | apply Bld.cons (cs := [.fn _ _]) rfl rfl rfl rfl (by repeat (first | exact Spl.z _ | apply Spl.t | apply Spl.d)) | apply Bld.cons (cs := _ :: _) rfl rfl rfl rfl (by repeat (first | exact Spl.z _ | apply Spl.t | apply Spl.d))))) ?_
      refine rw0 rfl w0 (bx_st (cs := _ :: _) tok rfl rfl rfl rfl rfl rfl rfl) ?_
      refine rp rfl w0 rfl (pu_assign (r := .d _) rfl) ?_
      refine ra_nil ?_
      refine then_n ?_
      refine aw_weak (weak_adopt 4 rfl 80 7 (kb := 3) (j := 0) rfl rfl (by repeat (first | exact Spl.z _ | apply Spl.t | apply Spl.d))) ?_
      refine aw_ret ?_
      refine then_r ?_
      cases h0
      exact retK_ (rs := [.cell 4 29, .tmp 5]) [4] rfl
    · skip
      refine aw_skip ?_
      refine then_n ?_
      refine aw_seq ?_
      refine aw_regionA (is := [0, 1, 2, 3, 4, 5, 6]) rfl ?_
      refine rp rfl w0 rfl (pu_build (C0 := [.d (.v (.int .i64 0)), .d (.v (.int .i64 0))]) tok rfl rfl (by repeat (first | exact Plc.nil | apply Plc.cons rfl)) rfl (by repeat (first | exact Bld.nil _ | apply Bld.cons (cs := [.d _]) rfl rfl rfl rfl (by repeat (first | exact Spl.z _ | apply Spl.t | apply Spl.d)) | apply Bld.cons (cs := [.own _ _ _]) rfl rfl rfl rfl (by repeat (first | exact Spl.z _ | apply Spl.t | apply Spl.d)) | apply Bld.cons (cs := [.ptr _ _ _ _ _]) rfl rfl rfl rfl (by repeat (first | exact Spl.z _ | apply Spl.t | apply Spl.d)) | apply Bld.cons (cs := [.fn _ _]) rfl rfl rfl rfl (by repeat (first | exact Spl.z _ | apply Spl.t | apply Spl.d)) | apply Bld.cons (cs := _ :: _) rfl rfl rfl rfl (by repeat (first | exact Spl.z _ | apply Spl.t | apply Spl.d))))) ?_
      refine rp rfl w0 rfl (pu_move (r := .d _) rfl) ?_
      obtain ⟨v4, hv4, h0⟩ := bnd h0
      refine rs rfl w0 rfl (c_call 4 (i_circle_c hv4) rfl rfl rfl) ?_
      refine rs rfl w0 rfl (bs_own 4 tok cShape_ [v4] rfl rfl rfl (by repeat (first | exact Els.nil _ | apply Els.cons (cs := [.d _]) rfl rfl rfl | apply Els.cons (cs := _ :: _) rfl rfl rfl)) rfl rfl rfl (by repeat (first | exact AllDD.nil | (apply AllDD.cons; (repeat (first | exact AllD.nil | apply AllD.cons))))) rfl rfl) ?_
      refine rp rfl w0 rfl (pu_build (C0 := [.d (.v (.slice none 0 0))]) tok rfl rfl (by repeat (first | exact Plc.nil | apply Plc.cons rfl)) rfl (by repeat (first | exact Bld.nil _ | apply Bld.cons (cs := [.d _]) rfl rfl rfl rfl (by repeat (first | exact Spl.z _ | apply Spl.t | apply Spl.d)) | apply Bld.cons (cs := [.own _ _ _]) rfl rfl rfl rfl (by repeat (first | exact Spl.z _ | apply Spl.t | apply Spl.d)) | apply Bld.cons (cs := [.ptr _ _ _ _ _]) rfl rfl rfl rfl (by repeat (first | exact Spl.z _ | apply Spl.t | apply Spl.d)) | apply Bld.cons (cs := [.fn _ _]) rfl rfl rfl rfl (by repeat (first | exact Spl.z _ | apply Spl.t | apply Spl.d)) | apply Bld.cons (cs := _ :: _) rfl rfl rfl rfl (by repeat (first | exact Spl.z _ | apply Spl.t | apply Spl.d))))) ?_
      refine rs rfl w0 rfl (st_alloc 5 (cs := [.d (.v (.slice none 0 0))]) tok rfl rfl rfl) ?_
      refine rw0 rfl w0 (bx_st (cs := _ :: _) tok rfl rfl rfl rfl rfl rfl rfl) ?_
      refine ra_nil ?_
      refine then_n ?_
      obtain ⟨v17, h1, h0⟩ := bnd h0
      refine aw_cut ⟨updA (updA ((fun _ => .dead)) 4 (.ptr 3 0 1 0 0)) 6 (.ptr 4 0 1 0 0), lks [.no, .no, .no, .live [⟨29, 1, .av [[.d (.v (.slice none 0 0))]]⟩], .live [⟨29, 1, .av [[.own 5 0 (v17).length]]⟩], .live [⟨80, 7, .data (List.map cShape_ v17)⟩]]⟩ ?_ ?_
      · skip
        refine aw_seq ?_
        refine aw_regionA (is := [0]) rfl ?_
        refine rp rfl w0 rfl (pu_assign (r := .d _) rfl) ?_
        refine ra_nil ?_
        refine then_n ?_
        refine aw_block ?_
        refine aw_loopM (fun s11 => ⟨updA (updA (updA (updA (updA ((fun _ => .dead)) 0 (.d (.v (.int .i64 p0)))) 1 (.d (.v (.int .i64 p1)))) 4 (.ptr 3 0 1 0 0)) 6 (.ptr 4 0 1 0 0)) 7 (.d (.v (.int .i64 s11.1))), lks [.no, .no, .no, .live [⟨29, 1, .av [[.d (.v (.slice none 0 0))]]⟩], .live [⟨29, 1, .av [[.own 5 0 (s11.2).length]]⟩], .live [⟨80, 7, .data (List.map cShape_ s11.2)⟩]]⟩) h1 ?_ (fun s11 y h2 => ?_)
        · skip
          exact wk [0, 1, 2, 3, 5, 4]
        · skip
          refine aw_seq ?_
          refine aw_seq ?_
          refine aw_regionA (is := [0, 1, 2]) rfl ?_
          refine rp rfl w0 rfl (pu_move (r := .d _) rfl) ?_
          refine rp rfl w0 rfl (pu_move (r := .d _) rfl) ?_
          refine rp rfl w0 rfl (pu_lss rfl rfl) ?_
          refine ra_nil ?_
          refine then_n ?_
          refine aw_if h2 rfl (fun hc h2 => ?_) (fun hc h2 => ?_)
          · skip
            refine aw_skip ?_
            refine then_n ?_
            refine aw_seq ?_
            refine aw_block ?_
            refine aw_region_draw (is := [0, 1, 2, 3, 4, 5, 6, 8, 9, 10, 7, 11, 12, 13, 14, 15, 16]) follows ?_
            refine rt_lk rfl w0 rfl (bx_fa tok rfl rfl rfl rfl rfl rfl rfl) rfl rfl rfl ?_
            refine rt_lk rfl w0 rfl (bx_ld1 tok rfl rfl rfl rfl rfl) rfl rfl rfl ?_
            refine rt_p rfl w0 rfl (pu_move (r := .d _) rfl) ?_
            refine rt_p rfl w0 rfl (pw_mul rfl rfl) ?_
            refine rt_p rfl w0 rfl (pw_quo rfl rfl (by decide)) ?_
            refine rt_p rfl w0 rfl (pu_move (r := .d _) rfl) ?_
            refine rt_p rfl w0 rfl (pu_move (r := .d _) rfl) ?_
            refine rt_p rfl w0 rfl (pu_move (r := .d _) rfl) ?_
            refine rt_p rfl w0 rfl (pu_move (r := .d _) rfl) ?_
            refine rt_p rfl w0 rfl (pu_move (r := .d _) rfl) ?_
            obtain ⟨v13, hv13, h2⟩ := bnd h2
            refine rt_c rfl w0 rfl (b_call 6 (i_roundSpot_c hv13) rfl rfl rfl) ?_
            obtain ⟨v14, hv14, h2⟩ := bnd h2
            refine rt_c rfl w0 rfl (b_call 6 (i_roundSpot_c hv14) rfl rfl rfl) ?_
            obtain ⟨v15, hv15, h2⟩ := bnd h2
            refine rt_c rfl w0 rfl (b_call 6 (i_line_c hv15) rfl rfl rfl) ?_
            refine rt_s rfl w0 rfl (bs_val tok cShape_ [v15] rfl rfl rfl (by repeat (first | exact Els.nil _ | apply Els.cons (cs := [.d _]) rfl rfl rfl | apply Els.cons (cs := _ :: _) rfl rfl rfl)) rfl rfl rfl (by repeat (first | exact AllDD.nil | (apply AllDD.cons; (repeat (first | exact AllD.nil | apply AllD.cons))))) rfl) ?_
            obtain ⟨hq16, h2⟩ := chk_e h2
            refine rt_wkd rfl w0 rfl (ap_own tok hq16 rfl rfl rfl rfl rfl rfl rfl rfl rfl rfl rfl rfl (fun _ => rfl)) ?_
            refine rt_lk rfl w0 rfl (bx_fa tok rfl rfl rfl rfl rfl rfl rfl) rfl rfl rfl ?_
            refine rt_wk rfl w0 (bx_st (cs := [.own _ _ _]) tok rfl rfl rfl rfl rfl rfl rfl) ?_
            refine rt_nil ?_
            refine ⟨by kernel_rfl, ?_⟩
            refine block_n ?_
            refine then_n ?_
            refine aw_regionA (is := [0, 1, 2]) rfl ?_
            refine rp rfl w0 rfl (pu_move (r := .d _) rfl) ?_
            refine rp rfl w0 rfl (pw_add rfl rfl) ?_
            refine rp rfl w0 rfl (pu_assign (r := .d _) rfl) ?_
            refine ra_nil ?_
            refine loop_n ?_
            cases h2
            refine ⟨_, rfl, ?_⟩
            exact wk [0, 1, 2, 3, 4, 5]
          · skip
            refine aw_exit ?_
            refine then_e ?_
            cases h2
            refine loop_x ⟨_, rfl, fun e => ?_⟩
            subst e
            refine block_hit ?_
            refine then_n ?_
            exact wk [0, 1, 2, 3, 4, 5]
      · skip
        refine aw_seq ?_
        refine aw_regionA (is := [0, 1, 2]) rfl ?_
        refine rl rfl w0 rfl (bx_ldN tok rfl rfl rfl rfl) ?_
        refine rw0 rfl w0 (bx_st (cs := _ :: _) tok rfl rfl rfl rfl rfl rfl rfl) ?_
        refine rp rfl w0 rfl (pu_assign (r := .d _) rfl) ?_
        refine ra_nil ?_
        refine then_n ?_
        refine aw_ret ?_
        cases h0
        exact retK_ (rs := [.cell 4 29, .tmp 5]) [5] rfl

theorem s_DialDrawing_c {p0 : Int} {p1 : Int} {r : Drawing_ × Int} (h0 : s_DialDrawing_m p0 p1 = some r) : FnC Try.prog 19 [] [.d (.v (.int .i64 p0)), .d (.v (.int .i64 p1))] [.live [⟨80, 7, .data (List.map cShape_ r.1.Shapes)⟩]] (.tup [.agg [.own 0 0 r.1.Shapes.length], .d (.v (.int .i64 r.2))]) := by
  refine fnc_intro (T := tt) (N := 43) tok Try.func19 rfl rfl (by kernel_rfl) rfl rfl ?_
  unfold s_DialDrawing_m at h0
  refine aw_seq ?_
  refine aw_regionA (is := [0, 1]) rfl ?_
  refine rs rfl w0 rfl (st_alloc 3 (cs := [.d (.v (.slice none 0 0))]) tok rfl rfl rfl) ?_
  refine rp rfl w0 rfl (pu_assign (r := .d _) rfl) ?_
  refine ra_nil ?_
  refine then_n ?_
  refine aw_seq ?_
  obtain ⟨v3, h1, h0⟩ := bnd h0
  refine aw_cut ⟨updA (updA (updA (updA ((fun _ => .dead)) 0 (.d (.v (.int .i64 p0)))) 1 (.d (.v (.int .i64 p1)))) 4 (.ptr 3 0 1 0 0)) 15 (.d (.v (.bool v3))), lks [.no, .no, .no, .live [⟨29, 1, .av [[.d (.v (.slice none 0 0))]]⟩]]⟩ ?_ ?_
  · skip
    refine aw_regionA (is := [0, 1, 2, 3, 4, 5, 6, 7]) rfl ?_
    refine rp rfl w0 rfl (pu_move (r := .d _) rfl) ?_
    obtain ⟨v1, hv1, h1⟩ := bnd h1
    refine rs rfl w0 rfl (c_call 4 (s_l00In_c hv1) rfl rfl rfl) ?_
    refine rp rfl w0 rfl (pu_not rfl) ?_
    refine rp rfl w0 rfl (pu_move (r := .d _) rfl) ?_
    refine ra_ifB (u := 11) h1 rfl (fun hc h1 => ?_) (fun hc h1 => ?_)
    · skip
      refine rk rfl rfl rfl (by first | exact .inl rfl | exact .inr rfl) rfl ?_
      refine rk rfl rfl rfl (by first | exact .inl rfl | exact .inr rfl) rfl ?_
      refine rk rfl rfl rfl (by first | exact .inl rfl | exact .inr rfl) rfl ?_
      refine rp rfl w0 rfl (pu_pick_t (r := .d _) rfl rfl) ?_
      refine ra_nil ?_
      refine then_n ?_
      cases h1
      exact wk [0, 1, 2, 3]
    · skip
      refine rp rfl (w1 rfl rfl rfl) rfl (pu_move (r := .d _) rfl) ?_
      obtain ⟨v2, hv2, h1⟩ := bnd h1
      refine rs rfl (w1 rfl rfl rfl) rfl (c_call 4 (s_l00In_c hv2) rfl rfl rfl) ?_
      refine rp rfl (w1 rfl rfl rfl) rfl (pu_not rfl) ?_
      refine rp rfl w0 rfl (pu_pick_f (r := .d _) rfl rfl) ?_
      refine ra_nil ?_
      refine then_n ?_
      cases h1
      exact wk [0, 1, 2, 3]
  · skip
    refine aw_ifB h0 rfl (fun hc h0 => ?_) (fun hc h0 => ?_)
    · skip
      refine aw_seq ?_
      refine aw_regionA (is := [0, 1, 2]) rfl ?_
      refine rp rfl w0 rfl (pu_build (C0 := [.d (.v (.slice none 0 0))]) tok rfl rfl (by repeat (first | exact Plc.nil | apply Plc.cons rfl)) rfl (by repeat (first | exact Bld.nil _ | apply Bld.cons (cs := [.d _]) rfl rfl rfl rfl (by repeat (first | exact Spl.z _ | apply Spl.t | apply Spl.d)) | apply Bld.cons (cs := [.own _ _ _]) rfl rfl rfl rfl (by repeat (first | exact Spl.z _ | apply Spl.t | apply Spl.d)) | apply Bld.cons (cs := [.ptr _ _ _ _ _]) rfl rfl rfl rfl (by repeat (first | exact Spl.z _ | apply Spl.t | apply Spl.d)) | apply Bld.cons (cs := [.fn _ _]) rfl rfl rfl rfl (by repeat (first | exact Spl.z _ | apply Spl.t | apply Spl.d)) | apply Bld.cons (cs := _ :: _) rfl rfl rfl rfl (by repeat (first | exact Spl.z _ | apply Spl.t | apply Spl.d))))) ?_
      refine rw0 rfl w0 (bx_st (cs := _ :: _) tok rfl rfl rfl rfl rfl rfl rfl) ?_
      refine rp rfl w0 rfl (pu_assign (r := .d _) rfl) ?_
      refine ra_nil ?_
      refine then_n ?_
      refine aw_weak (weak_adopt 4 rfl 80 7 (kb := 3) (j := 0) rfl rfl (by repeat (first | exact Spl.z _ | apply Spl.t | apply Spl.d))) ?_
      refine aw_ret ?_
      refine then_r ?_
      cases h0
      exact retK_ (rs := [.cell 4 29, .tmp 5]) [4] rfl
    · skip
      refine aw_skip ?_
      refine then_n ?_
      refine aw_seq ?_
      refine aw_regionA (is := [0, 1, 2, 3, 4, 5]) rfl ?_
      refine rp rfl w0 rfl (pu_move (r := .d _) rfl) ?_
      refine rp rfl w0 rfl (pu_build (C0 := [.d (.v (.int .i64 0)), .d (.v (.int .i64 0)), .d (.v (.int .i64 0)), .d (.v (.int .i64 0)), .d (.v (.int .i64 0)), .d (.v (.int .i64 0)), .d (.v (.string (⟨#[]⟩ : ByteArray)))]) tok rfl rfl (by repeat (first | exact Plc.nil | apply Plc.cons rfl)) rfl (by repeat (first | exact Bld.nil _ | apply Bld.cons (cs := [.d _]) rfl rfl rfl rfl (by repeat (first | exact Spl.z _ | apply Spl.t | apply Spl.d)) | apply Bld.cons (cs := [.own _ _ _]) rfl rfl rfl rfl (by repeat (first | exact Spl.z _ | apply Spl.t | apply Spl.d)) | apply Bld.cons (cs := [.ptr _ _ _ _ _]) rfl rfl rfl rfl (by repeat (first | exact Spl.z _ | apply Spl.t | apply Spl.d)) | apply Bld.cons (cs := [.fn _ _]) rfl rfl rfl rfl (by repeat (first | exact Spl.z _ | apply Spl.t | apply Spl.d)) | apply Bld.cons (cs := _ :: _) rfl rfl rfl rfl (by repeat (first | exact Spl.z _ | apply Spl.t | apply Spl.d))))) ?_
      refine rs rfl w0 rfl (bs_own 4 tok cShape_ [(⟨2, (⟨0, 0⟩ : Spot_), (⟨0, 0⟩ : Spot_), p0, (⟨#[]⟩ : ByteArray)⟩ : Shape_)] rfl rfl rfl (by repeat (first | exact Els.nil _ | apply Els.cons (cs := [.d _]) rfl rfl rfl | apply Els.cons (cs := _ :: _) rfl rfl rfl)) rfl rfl rfl (by repeat (first | exact AllDD.nil | (apply AllDD.cons; (repeat (first | exact AllD.nil | apply AllD.cons))))) rfl rfl) ?_
      refine rp rfl w0 rfl (pu_build (C0 := [.d (.v (.slice none 0 0))]) tok rfl rfl (by repeat (first | exact Plc.nil | apply Plc.cons rfl)) rfl (by repeat (first | exact Bld.nil _ | apply Bld.cons (cs := [.d _]) rfl rfl rfl rfl (by repeat (first | exact Spl.z _ | apply Spl.t | apply Spl.d)) | apply Bld.cons (cs := [.own _ _ _]) rfl rfl rfl rfl (by repeat (first | exact Spl.z _ | apply Spl.t | apply Spl.d)) | apply Bld.cons (cs := [.ptr _ _ _ _ _]) rfl rfl rfl rfl (by repeat (first | exact Spl.z _ | apply Spl.t | apply Spl.d)) | apply Bld.cons (cs := [.fn _ _]) rfl rfl rfl rfl (by repeat (first | exact Spl.z _ | apply Spl.t | apply Spl.d)) | apply Bld.cons (cs := _ :: _) rfl rfl rfl rfl (by repeat (first | exact Spl.z _ | apply Spl.t | apply Spl.d))))) ?_
      refine rs rfl w0 rfl (st_alloc 5 (cs := [.d (.v (.slice none 0 0))]) tok rfl rfl rfl) ?_
      refine rw0 rfl w0 (bx_st (cs := _ :: _) tok rfl rfl rfl rfl rfl rfl rfl) ?_
      refine ra_nil ?_
      refine then_n ?_
      obtain ⟨v14, h1, h0⟩ := bnd h0
      refine aw_cut ⟨updA (updA ((fun _ => .dead)) 4 (.ptr 3 0 1 0 0)) 6 (.ptr 4 0 1 0 0), lks [.no, .no, .no, .live [⟨29, 1, .av [[.d (.v (.slice none 0 0))]]⟩], .live [⟨29, 1, .av [[.own 5 0 (v14).length]]⟩], .live [⟨80, 7, .data (List.map cShape_ v14)⟩]]⟩ ?_ ?_
      · skip
        refine aw_seq ?_
        refine aw_regionA (is := [0]) rfl ?_
        refine rp rfl w0 rfl (pu_assign (r := .d _) rfl) ?_
        refine ra_nil ?_
        refine then_n ?_
        refine aw_block ?_
        refine aw_loopM (fun s9 => ⟨updA (updA (updA (updA (updA ((fun _ => .dead)) 0 (.d (.v (.int .i64 p0)))) 1 (.d (.v (.int .i64 p1)))) 4 (.ptr 3 0 1 0 0)) 6 (.ptr 4 0 1 0 0)) 7 (.d (.v (.int .i64 s9.1))), lks [.no, .no, .no, .live [⟨29, 1, .av [[.d (.v (.slice none 0 0))]]⟩], .live [⟨29, 1, .av [[.own 5 0 (s9.2).length]]⟩], .live [⟨80, 7, .data (List.map cShape_ s9.2)⟩]]⟩) h1 ?_ (fun s9 y h2 => ?_)
        · skip
          exact wk [0, 1, 2, 3, 5, 4]
        · skip
          refine aw_seq ?_
          refine aw_seq ?_
          refine aw_regionA (is := [0, 1, 2]) rfl ?_
          refine rp rfl w0 rfl (pu_move (r := .d _) rfl) ?_
          refine rp rfl w0 rfl (pu_move (r := .d _) rfl) ?_
          refine rp rfl w0 rfl (pu_lss rfl rfl) ?_
          refine ra_nil ?_
          refine then_n ?_
          refine aw_if h2 rfl (fun hc h2 => ?_) (fun hc h2 => ?_)
          · skip
            refine aw_skip ?_
            refine then_n ?_
            refine aw_seq ?_
            refine aw_block ?_
            refine aw_region_draw (is := [0, 1, 2, 3, 4, 5, 6, 8, 9, 10, 7, 11, 12, 13, 14, 15, 16]) follows ?_
            refine rt_lk rfl w0 rfl (bx_fa tok rfl rfl rfl rfl rfl rfl rfl) rfl rfl rfl ?_
            refine rt_lk rfl w0 rfl (bx_ld1 tok rfl rfl rfl rfl rfl) rfl rfl rfl ?_
            refine rt_p rfl w0 rfl (pu_move (r := .d _) rfl) ?_
            refine rt_p rfl w0 rfl (pw_mul rfl rfl) ?_
            refine rt_p rfl w0 rfl (pw_quo rfl rfl (by decide)) ?_
            refine rt_p rfl w0 rfl (pu_move (r := .d _) rfl) ?_
            refine rt_p rfl w0 rfl (pu_move (r := .d _) rfl) ?_
            refine rt_p rfl w0 rfl (pu_move (r := .d _) rfl) ?_
            refine rt_p rfl w0 rfl (pu_move (r := .d _) rfl) ?_
            refine rt_p rfl w0 rfl (pu_move (r := .d _) rfl) ?_
            obtain ⟨v11, hv11, h2⟩ := bnd h2
            refine rt_c rfl w0 rfl (b_call 6 (s_l25Round_c hv11) rfl rfl rfl) ?_
            obtain ⟨v12, hv12, h2⟩ := bnd h2
            refine rt_c rfl w0 rfl (b_call 6 (s_l25Round_c hv12) rfl rfl rfl) ?_
            refine rt_p rfl w0 rfl (pu_build (C0 := [.d (.v (.int .i64 0)), .d (.v (.int .i64 0)), .d (.v (.int .i64 0)), .d (.v (.int .i64 0)), .d (.v (.int .i64 0)), .d (.v (.int .i64 0)), .d (.v (.string (⟨#[]⟩ : ByteArray)))]) tok rfl rfl (by repeat (first | exact Plc.nil | apply Plc.cons rfl)) rfl (by repeat (first | exact Bld.nil _ | apply Bld.cons (cs := [.d _]) rfl rfl rfl rfl (by repeat (first | exact Spl.z _ | apply Spl.t | apply Spl.d)) | apply Bld.cons (cs := [.own _ _ _]) rfl rfl rfl rfl (by repeat (first | exact Spl.z _ | apply Spl.t | apply Spl.d)) | apply Bld.cons (cs := [.ptr _ _ _ _ _]) rfl rfl rfl rfl (by repeat (first | exact Spl.z _ | apply Spl.t | apply Spl.d)) | apply Bld.cons (cs := [.fn _ _]) rfl rfl rfl rfl (by repeat (first | exact Spl.z _ | apply Spl.t | apply Spl.d)) | apply Bld.cons (cs := _ :: _) rfl rfl rfl rfl (by repeat (first | exact Spl.z _ | apply Spl.t | apply Spl.d))))) ?_
            refine rt_s rfl w0 rfl (bs_val tok cShape_ [(⟨1, v11, v12, 0, (⟨#[]⟩ : ByteArray)⟩ : Shape_)] rfl rfl rfl (by repeat (first | exact Els.nil _ | apply Els.cons (cs := [.d _]) rfl rfl rfl | apply Els.cons (cs := _ :: _) rfl rfl rfl)) rfl rfl rfl (by repeat (first | exact AllDD.nil | (apply AllDD.cons; (repeat (first | exact AllD.nil | apply AllD.cons))))) rfl) ?_
            obtain ⟨hq13, h2⟩ := chk_e h2
            refine rt_wkd rfl w0 rfl (ap_own tok hq13 rfl rfl rfl rfl rfl rfl rfl rfl rfl rfl rfl rfl (fun _ => rfl)) ?_
            refine rt_lk rfl w0 rfl (bx_fa tok rfl rfl rfl rfl rfl rfl rfl) rfl rfl rfl ?_
            refine rt_wk rfl w0 (bx_st (cs := [.own _ _ _]) tok rfl rfl rfl rfl rfl rfl rfl) ?_
            refine rt_nil ?_
            refine ⟨by kernel_rfl, ?_⟩
            refine block_n ?_
            refine then_n ?_
            refine aw_regionA (is := [0, 1, 2]) rfl ?_
            refine rp rfl w0 rfl (pu_move (r := .d _) rfl) ?_
            refine rp rfl w0 rfl (pw_add rfl rfl) ?_
            refine rp rfl w0 rfl (pu_assign (r := .d _) rfl) ?_
            refine ra_nil ?_
            refine loop_n ?_
            cases h2
            refine ⟨_, rfl, ?_⟩
            exact wk [0, 1, 2, 3, 4, 5]
          · skip
            refine aw_exit ?_
            refine then_e ?_
            cases h2
            refine loop_x ⟨_, rfl, fun e => ?_⟩
            subst e
            refine block_hit ?_
            refine then_n ?_
            exact wk [0, 1, 2, 3, 4, 5]
      · skip
        refine aw_seq ?_
        refine aw_regionA (is := [0, 1, 2]) rfl ?_
        refine rl rfl w0 rfl (bx_ldN tok rfl rfl rfl rfl) ?_
        refine rw0 rfl w0 (bx_st (cs := _ :: _) tok rfl rfl rfl rfl rfl rfl rfl) ?_
        refine rp rfl w0 rfl (pu_assign (r := .d _) rfl) ?_
        refine ra_nil ?_
        refine then_n ?_
        refine aw_ret ?_
        cases h0
        exact retK_ (rs := [.cell 4 29, .tmp 5]) [5] rfl

theorem s_l09DrawPoint_b_c {p0 : L00Src_} {p1 : Int} {p2 : Int} {r : Point_ × L00Src_} (h0 : s_l09DrawPoint_b_m p0 p1 p2 = some r) : FnC Try.prog 134 [.live [⟨138, 3, .av [[.d (.sl (List.map cU8 p0.code)), .d (.v (.int .i64 p0.at_)), .d (.v (.int .u64 p0.seed))]]⟩]] [.ptr 0 0 1 0 0, .d (.v (.int .i64 p1)), .d (.v (.int .i64 p2))] [.live [⟨138, 3, .av [[.d (.sl (List.map cU8 r.2.code)), .d (.v (.int .i64 r.2.at_)), .d (.v (.int .u64 r.2.seed))]]⟩]] (.agg [.d (.v (.int .i64 r.1.X)), .d (.v (.int .i64 r.1.Y))]) := by
  refine fnc_intro (T := tt) (N := 20) tok Try.func134 rfl rfl (by kernel_rfl) rfl rfl ?_
  unfold s_l09DrawPoint_b_m at h0
  refine aw_seq ?_
  refine aw_regionA (is := [0]) rfl ?_
  refine rs rfl w0 rfl (st_alloc 3 (cs := [.d (.v (.int .i64 0)), .d (.v (.int .i64 0))]) tok rfl rfl rfl) ?_
  refine ra_nil ?_
  refine then_n ?_
  refine aw_seq ?_
  refine aw_regionA (is := [0, 1, 2, 3, 4]) rfl ?_
  refine rp rfl w0 rfl (pu_move (r := .ptr _ _ _ _ _) rfl) ?_
  refine rp rfl w0 rfl (pu_move (r := .d _) rfl) ?_
  refine rp rfl w0 rfl (pw_add rfl rfl) ?_
  obtain ⟨v1, hv1, h0⟩ := bnd h0
  refine rw1 rfl w0 rfl (c_callP [0] 300 (l00Src_pick_b_c hv1) rfl rfl) ?_
  refine rp rfl w0 rfl (pu_assign (r := .d _) rfl) ?_
  refine ra_nil ?_
  refine then_n ?_
  refine aw_seq ?_
  refine aw_regionA (is := [0, 1, 2, 3, 4]) rfl ?_
  refine rp rfl w0 rfl (pu_move (r := .ptr _ _ _ _ _) rfl) ?_
  refine rp rfl w0 rfl (pu_move (r := .d _) rfl) ?_
  refine rp rfl w0 rfl (pw_add rfl rfl) ?_
  obtain ⟨v2, hv2, h0⟩ := bnd h0
  refine rw1 rfl w0 rfl (c_callP [0] 300 (l00Src_pick_b_c hv2) rfl rfl) ?_
  refine rp rfl w0 rfl (pu_assign (r := .d _) rfl) ?_
  refine ra_nil ?_
  refine then_n ?_
  refine aw_seq ?_
  refine aw_regionA (is := [0, 1, 2, 3]) rfl ?_
  refine rp rfl w0 rfl (pu_move (r := .d _) rfl) ?_
  refine rp rfl w0 rfl (pu_move (r := .d _) rfl) ?_
  refine rp rfl w0 rfl (pu_build (C0 := [.d (.v (.int .i64 0)), .d (.v (.int .i64 0))]) tok rfl rfl (by repeat (first | exact Plc.nil | apply Plc.cons rfl)) rfl (by repeat (first | exact Bld.nil _ | apply Bld.cons (cs := [.d _]) rfl rfl rfl rfl (by repeat (first | exact Spl.z _ | apply Spl.t | apply Spl.d)) | apply Bld.cons (cs := [.own _ _ _]) rfl rfl rfl rfl (by repeat (first | exact Spl.z _ | apply Spl.t | apply Spl.d)) | apply Bld.cons (cs := [.ptr _ _ _ _ _]) rfl rfl rfl rfl (by repeat (first | exact Spl.z _ | apply Spl.t | apply Spl.d)) | apply Bld.cons (cs := [.fn _ _]) rfl rfl rfl rfl (by repeat (first | exact Spl.z _ | apply Spl.t | apply Spl.d)) | apply Bld.cons (cs := _ :: _) rfl rfl rfl rfl (by repeat (first | exact Spl.z _ | apply Spl.t | apply Spl.d))))) ?_
  refine rw0 rfl w0 (bx_st (cs := _ :: _) tok rfl rfl rfl rfl rfl rfl rfl) ?_
  refine ra_nil ?_
  refine then_n ?_
  refine aw_ret ?_
  cases h0
  exact retP_ (rs := [.cell 6 113]) 1 rfl rfl

theorem s_l01Dec_c {p0 : Int} {r : ByteArray} (h0 : s_l01Dec_m p0 = some r) : FnC Try.prog 123 [] [.d (.v (.int .i64 p0))] [] (.d (.v (.string r))) := by
  refine fnc_intro (T := tt) (N := 34) tok Try.func123 rfl rfl (by kernel_rfl) rfl rfl ?_
  unfold s_l01Dec_m at h0
  refine aw_seq ?_
  refine aw_regionA (is := [0]) rfl ?_
  refine rp rfl w0 rfl (pu_assign (r := .d _) rfl) ?_
  refine ra_nil ?_
  refine then_n ?_
  refine aw_seq ?_
  refine aw_regionA (is := [0, 1]) rfl ?_
  refine rs rfl w0 rfl (st_slice0 3 tok rfl rfl rfl rfl) ?_
  refine rp rfl w0 rfl (pu_assign (r := .own _ _ _) rfl) ?_
  refine ra_nil ?_
  refine then_n ?_
  obtain ⟨v11, h1, h0⟩ := bnd h0
  refine aw_cut ⟨updA (updA ((fun _ => .dead)) 0 (.d (.v (.int .i64 p0)))) 3 (.own 3 0 (v11).length), lks [.no, .no, .no, .live [⟨5, 1, .data (List.map cU8 v11)⟩]]⟩ ?_ ?_
  · skip
    refine aw_seq ?_
    refine aw_regionA (is := [0, 1]) rfl ?_
    refine rp rfl w0 rfl (pu_move (r := .d _) rfl) ?_
    refine rp rfl w0 rfl (pu_assign (r := .d _) rfl) ?_
    refine ra_nil ?_
    refine then_n ?_
    refine aw_block ?_
    refine aw_loopM (fun s6 => ⟨updA (updA (updA ((fun _ => .dead)) 0 (.d (.v (.int .i64 p0)))) 3 (.own 3 0 (s6.2).length)) 4 (.d (.v (.int .i64 s6.1))), lks [.no, .no, .no, .live [⟨5, 1, .data (List.map cU8 s6.2)⟩]]⟩) h1 ?_ (fun s6 y h2 => ?_)
    · skip
      exact wk [0, 1, 2, 3]
    · skip
      refine aw_seq ?_
      refine aw_seq ?_
      refine aw_regionA (is := [0, 1]) rfl ?_
      refine rp rfl w0 rfl (pu_move (r := .d _) rfl) ?_
      refine rp rfl w0 rfl (pu_neq rfl rfl) ?_
      refine ra_nil ?_
      refine then_n ?_
      refine aw_if h2 rfl (fun hc h2 => ?_) (fun hc h2 => ?_)
      · skip
        refine aw_skip ?_
        refine then_n ?_
        refine aw_seq ?_
        refine aw_block ?_
        refine aw_seq ?_
        refine aw_regionA (is := [0, 1, 2]) rfl ?_
        refine rp rfl w0 rfl (pu_move (r := .d _) rfl) ?_
        refine rp rfl w0 rfl (pu_remw rfl rfl (by decide)) ?_
        refine rp rfl w0 rfl (pu_assign (r := .d _) rfl) ?_
        refine ra_nil ?_
        refine then_n ?_
        obtain ⟨v8, h3, h2⟩ := bnd h2
        refine aw_cut ⟨updA (updA (updA (updA ((fun _ => .dead)) 0 (.d (.v (.int .i64 p0)))) 3 (.own 3 0 (s6.2).length)) 4 (.d (.v (.int .i64 s6.1)))) 5 (.d (.v (.int .i64 v8))), lks [.no, .no, .no, .live [⟨5, 1, .data (List.map cU8 s6.2)⟩]]⟩ ?_ ?_
        · skip
          refine aw_seq ?_
          refine aw_regionA (is := [0, 1]) rfl ?_
          refine rp rfl w0 rfl (pu_move (r := .d _) rfl) ?_
          refine rp rfl w0 rfl (pu_lss rfl rfl) ?_
          refine ra_nil ?_
          refine then_n ?_
          refine aw_if h3 rfl (fun hc h3 => ?_) (fun hc h3 => ?_)
          · skip
            refine aw_regionA (is := [0, 1, 2]) rfl ?_
            refine rp rfl w0 rfl (pu_move (r := .d _) rfl) ?_
            refine rp rfl w0 rfl (pw_neg rfl) ?_
            refine rp rfl w0 rfl (pu_assign (r := .d _) rfl) ?_
            refine ra_nil ?_
            refine then_n ?_
            cases h3
            exact wk [0, 1, 2, 3]
          · skip
            refine aw_skip ?_
            refine then_n ?_
            cases h3
            exact wk [0, 1, 2, 3]
        · skip
          refine aw_regionA (is := [0, 1, 2, 3, 4, 5, 6]) rfl ?_
          refine rp rfl w0 rfl (pu_move (r := .d _) rfl) ?_
          refine rp rfl w0 rfl (pw_add rfl rfl) ?_
          refine rp rfl w0 rfl (pu_ii tok rfl rfl rfl rfl rfl) ?_
          refine rs rfl w0 rfl (bs_own 4 tok cU8 [IntKind.u8.wrap (w64 (48 + v8))] rfl rfl rfl (by repeat (first | exact Els.nil _ | apply Els.cons (cs := [.d _]) rfl rfl rfl | apply Els.cons (cs := _ :: _) rfl rfl rfl)) rfl rfl rfl (by repeat (first | exact AllDD.nil | (apply AllDD.cons; (repeat (first | exact AllD.nil | apply AllD.cons))))) rfl rfl) ?_
          refine rp rfl w0 rfl (pu_move (r := .own _ _ _) rfl) ?_
          obtain ⟨hq9, h2⟩ := chk_e h2
          refine rw1 rfl w0 rfl (ap_oo tok hq9 rfl rfl rfl rfl rfl rfl rfl rfl rfl rfl rfl rfl rfl rfl rfl) ?_
          refine rp rfl w0 rfl (pu_assign (r := .own _ _ _) rfl) ?_
          refine ra_nil ?_
          refine block_n ?_
          refine then_n ?_
          refine aw_regionA (is := [0, 1, 2]) rfl ?_
          refine rp rfl w0 rfl (pu_move (r := .d _) rfl) ?_
          refine rp rfl w0 rfl (pw_quo rfl rfl (by decide)) ?_
          refine rp rfl w0 rfl (pu_assign (r := .d _) rfl) ?_
          refine ra_nil ?_
          refine loop_n ?_
          cases h2
          refine ⟨_, rfl, ?_⟩
          exact wk [0, 1, 2, 4]
      · skip
        refine aw_exit ?_
        refine then_e ?_
        cases h2
        refine loop_x ⟨_, rfl, fun e => ?_⟩
        subst e
        refine block_hit ?_
        refine then_n ?_
        exact wk [0, 1, 2, 3]
  · skip
    refine aw_seq ?_
    refine aw_seq ?_
    refine aw_regionA (is := [0, 1, 2]) rfl ?_
    refine rp rfl w0 rfl (pu_move (r := .own _ _ _) rfl) ?_
    refine rl rfl w0 rfl (ow_len tok rfl rfl rfl rfl rfl) ?_
    refine rp rfl w0 rfl (pu_eql rfl rfl) ?_
    refine ra_nil ?_
    refine then_n ?_
    refine aw_if h0 rfl (fun hc h0 => ?_) (fun hc h0 => ?_)
    · skip
      refine aw_seq ?_
      refine aw_regionA (is := [0]) rfl ?_
      refine rp rfl w0 rfl (pu_assign (r := .d _) rfl) ?_
      refine ra_nil ?_
      refine then_n ?_
      refine aw_ret ?_
      refine then_r ?_
      cases h0
      exact ret0_ (rs := [.tmp 2]) rfl
    · skip
      refine aw_skip ?_
      refine then_n ?_
      refine aw_seq ?_
      refine aw_seq ?_
      refine aw_regionA (is := [0, 1]) rfl ?_
      refine rp rfl w0 rfl (pu_move (r := .d _) rfl) ?_
      refine rp rfl w0 rfl (pu_lss rfl rfl) ?_
      refine ra_nil ?_
      refine then_n ?_
      refine aw_if h0 rfl (fun hc h0 => ?_) (fun hc h0 => ?_)
      · skip
        refine aw_seq ?_
        refine aw_regionA (is := [0, 1, 2, 3]) rfl ?_
        refine rp rfl w0 rfl (pu_move (r := .own _ _ _) rfl) ?_
        refine rs rfl w0 rfl (cv_bo tok rfl rfl rfl rfl rfl rfl rfl rfl rfl rfl) ?_
        obtain ⟨hq12, h0⟩ := chk_e h0
        refine rp rfl w0 rfl (pu_cat rfl rfl hq12) ?_
        refine rp rfl w0 rfl (pu_assign (r := .d _) rfl) ?_
        refine ra_nil ?_
        refine then_n ?_
        refine aw_ret ?_
        refine then_r ?_
        cases h0
        exact ret0_ (rs := [.tmp 2]) rfl
      · skip
        refine aw_skip ?_
        refine then_n ?_
        refine aw_seq ?_
        refine aw_regionA (is := [0, 1, 2]) rfl ?_
        refine rp rfl w0 rfl (pu_move (r := .own _ _ _) rfl) ?_
        refine rs rfl w0 rfl (cv_bo tok rfl rfl rfl rfl rfl rfl rfl rfl rfl rfl) ?_
        refine rp rfl w0 rfl (pu_assign (r := .d _) rfl) ?_
        refine ra_nil ?_
        refine then_n ?_
        refine aw_ret ?_
        cases h0
        exact ret0_ (rs := [.tmp 2]) rfl

theorem s_l09Draw_b_c {p0 : L00Src_} {r : Plate_ × L00Src_} (h0 : s_l09Draw_b_m p0 = some r) : FnC Try.prog 122 [.live [⟨138, 3, .av [[.d (.sl (List.map cU8 p0.code)), .d (.v (.int .i64 p0.at_)), .d (.v (.int .u64 p0.seed))]]⟩]] [.ptr 0 0 1 0 0] [.live [⟨138, 3, .av [[.d (.sl (List.map cU8 r.2.code)), .d (.v (.int .i64 r.2.at_)), .d (.v (.int .u64 r.2.seed))]]⟩], .live [⟨115, 5, .data (List.map cSite_ r.1.Sites)⟩]] (.agg [.d (.v (.int .i64 r.1.Width)), .d (.v (.int .i64 r.1.Height)), .d (.v (.int .i64 r.1.Margin)), .d (.v (.int .i64 r.1.Gap)), .own 1 0 r.1.Sites.length]) := by
  refine fnc_intro (T := tt) (N := 88) tok Try.func122 rfl rfl (by kernel_rfl) rfl rfl ?_
  unfold s_l09Draw_b_m at h0
  refine aw_seq ?_
  refine aw_regionA (is := [0]) rfl ?_
  refine rs rfl w0 rfl (st_alloc 3 (cs := [.d (.v (.int .i64 0)), .d (.v (.int .i64 0)), .d (.v (.int .i64 0)), .d (.v (.int .i64 0)), .d (.v (.slice none 0 0))]) tok rfl rfl rfl) ?_
  refine ra_nil ?_
  refine then_n ?_
  refine aw_seq ?_
  refine aw_regionA (is := [0, 1, 2, 3]) rfl ?_
  refine rp rfl w0 rfl (pu_move (r := .ptr _ _ _ _ _) rfl) ?_
  obtain ⟨v1, hv1, h0⟩ := bnd h0
  refine rw1 rfl w0 rfl (c_callP [0] 300 (l00Src_pick_b_c hv1) rfl rfl) ?_
  refine rp rfl w0 rfl (pw_add rfl rfl) ?_
  refine rp rfl w0 rfl (pu_assign (r := .d _) rfl) ?_
  refine ra_nil ?_
  refine then_n ?_
  refine aw_seq ?_
  refine aw_regionA (is := [0, 1, 2, 3]) rfl ?_
  refine rp rfl w0 rfl (pu_move (r := .ptr _ _ _ _ _) rfl) ?_
  obtain ⟨v2, hv2, h0⟩ := bnd h0
  refine rw1 rfl w0 rfl (c_callP [0] 300 (l00Src_pick_b_c hv2) rfl rfl) ?_
  refine rp rfl w0 rfl (pw_add rfl rfl) ?_
  refine rp rfl w0 rfl (pu_assign (r := .d _) rfl) ?_
  refine ra_nil ?_
  refine then_n ?_
  obtain ⟨v5, h1, h0⟩ := bnd h0
  refine aw_cut ⟨updA (updA (updA (updA ((fun _ => .dead)) 0 (.ptr 0 0 1 0 0)) 2 (.ptr 3 0 1 0 0)) 3 (.d (.v (.int .i64 v5.1)))) 4 (.d (.v (.int .i64 (w64 (400 + v2.1))))), lks [.live [⟨138, 3, .av [[.d (.sl (List.map cU8 v5.2.code)), .d (.v (.int .i64 v5.2.at_)), .d (.v (.int .u64 v5.2.seed))]]⟩], .no, .no, .live [⟨70, 5, .av [[.d (.v (.int .i64 0)), .d (.v (.int .i64 0)), .d (.v (.int .i64 0)), .d (.v (.int .i64 0)), .d (.v (.slice none 0 0))]]⟩]]⟩ ?_ ?_
  · skip
    refine aw_seq ?_
    refine aw_regionA (is := [0, 1]) rfl ?_
    refine rp rfl w0 rfl (pu_move (r := .ptr _ _ _ _ _) rfl) ?_
    obtain ⟨v3, hv3, h1⟩ := bnd h1
    refine rw1 rfl w0 rfl (c_callP [0] 300 (l00Src_one_b_c hv3) rfl rfl) ?_
    refine ra_nil ?_
    refine then_n ?_
    refine aw_ifB h1 rfl (fun hc h1 => ?_) (fun hc h1 => ?_)
    · skip
      refine aw_regionA (is := [0, 1, 2, 3]) rfl ?_
      refine rp rfl w0 rfl (pu_move (r := .ptr _ _ _ _ _) rfl) ?_
      refine rs rfl w0 rfl (bs_val tok cI [1, 3, 10000] rfl rfl rfl (by repeat (first | exact Els.nil _ | apply Els.cons (cs := [.d _]) rfl rfl rfl | apply Els.cons (cs := _ :: _) rfl rfl rfl)) rfl rfl rfl (by repeat (first | exact AllDD.nil | (apply AllDD.cons; (repeat (first | exact AllD.nil | apply AllD.cons))))) rfl) ?_
      obtain ⟨v4, hv4, h1⟩ := bnd h1
      refine rw1 rfl w0 rfl (c_callP [0] 300 (l00Src_among_b_c hv4) rfl rfl) ?_
      refine rp rfl w0 rfl (pu_assign (r := .d _) rfl) ?_
      refine ra_nil ?_
      refine then_n ?_
      cases h1
      exact wk [0, 1, 2, 3]
    · skip
      refine aw_skip ?_
      refine then_n ?_
      cases h1
      exact wk [0, 1, 2, 3]
  · skip
    refine aw_seq ?_
    refine aw_regionA (is := [0, 1, 2]) rfl ?_
    refine rp rfl w0 rfl (pu_move (r := .ptr _ _ _ _ _) rfl) ?_
    obtain ⟨v6, hv6, h0⟩ := bnd h0
    refine rw1 rfl w0 rfl (c_callP [0] 300 (l00Src_pick_b_c hv6) rfl rfl) ?_
    refine rp rfl w0 rfl (pu_assign (r := .d _) rfl) ?_
    refine ra_nil ?_
    refine then_n ?_
    refine aw_seq ?_
    refine aw_regionA (is := [0, 1, 2]) rfl ?_
    refine rp rfl w0 rfl (pu_move (r := .ptr _ _ _ _ _) rfl) ?_
    obtain ⟨v7, hv7, h0⟩ := bnd h0
    refine rw1 rfl w0 rfl (c_callP [0] 300 (l00Src_pick_b_c hv7) rfl rfl) ?_
    refine rp rfl w0 rfl (pu_assign (r := .d _) rfl) ?_
    refine ra_nil ?_
    refine then_n ?_
    refine aw_seq ?_
    refine aw_regionA (is := [0, 1, 2, 3, 4, 5, 6]) rfl ?_
    refine rp rfl w0 rfl (pu_move (r := .d _) rfl) ?_
    refine rp rfl w0 rfl (pu_move (r := .d _) rfl) ?_
    refine rp rfl w0 rfl (pu_move (r := .d _) rfl) ?_
    refine rp rfl w0 rfl (pu_move (r := .d _) rfl) ?_
    refine rp rfl w0 rfl (pu_build (C0 := [.d (.v (.int .i64 0)), .d (.v (.int .i64 0)), .d (.v (.int .i64 0)), .d (.v (.int .i64 0)), .d (.v (.slice none 0 0))]) tok rfl rfl (by repeat (first | exact Plc.nil | apply Plc.cons rfl)) rfl (by repeat (first | exact Bld.nil _ | apply Bld.cons (cs := [.d _]) rfl rfl rfl rfl (by repeat (first | exact Spl.z _ | apply Spl.t | apply Spl.d)) | apply Bld.cons (cs := [.own _ _ _]) rfl rfl rfl rfl (by repeat (first | exact Spl.z _ | apply Spl.t | apply Spl.d)) | apply Bld.cons (cs := [.ptr _ _ _ _ _]) rfl rfl rfl rfl (by repeat (first | exact Spl.z _ | apply Spl.t | apply Spl.d)) | apply Bld.cons (cs := [.fn _ _]) rfl rfl rfl rfl (by repeat (first | exact Spl.z _ | apply Spl.t | apply Spl.d)) | apply Bld.cons (cs := _ :: _) rfl rfl rfl rfl (by repeat (first | exact Spl.z _ | apply Spl.t | apply Spl.d))))) ?_
    refine rs rfl w0 rfl (st_alloc 4 (cs := [.d (.v (.int .i64 0)), .d (.v (.int .i64 0)), .d (.v (.int .i64 0)), .d (.v (.int .i64 0)), .d (.v (.slice none 0 0))]) tok rfl rfl rfl) ?_
    refine rw0 rfl w0 (bx_st (cs := _ :: _) tok rfl rfl rfl rfl rfl rfl rfl) ?_
    refine ra_nil ?_
    refine then_n ?_
    refine aw_seq ?_
    refine aw_regionA (is := [0, 1, 2]) rfl ?_
    refine rp rfl w0 rfl (pu_move (r := .ptr _ _ _ _ _) rfl) ?_
    obtain ⟨v8, hv8, h0⟩ := bnd h0
    refine rw1 rfl w0 rfl (c_callP [0] 300 (l00Src_one_b_c hv8) rfl rfl) ?_
    refine rp rfl w0 rfl (pu_assign (r := .d _) rfl) ?_
    refine ra_nil ?_
    refine then_n ?_
    obtain ⟨v34, h1, h0⟩ := bnd h0
    refine aw_cut ⟨updA (updA ((fun _ => .dead)) 2 (.ptr 3 0 1 0 0)) 7 (.ptr 4 0 1 0 0), lks [.live [⟨138, 3, .av [[.d (.sl (List.map cU8 v34.1.code)), .d (.v (.int .i64 v34.1.at_)), .d (.v (.int .u64 v34.1.seed))]]⟩], .no, .no, .live [⟨70, 5, .av [[.d (.v (.int .i64 0)), .d (.v (.int .i64 0)), .d (.v (.int .i64 0)), .d (.v (.int .i64 0)), .d (.v (.slice none 0 0))]]⟩], .live [⟨70, 5, .av [[.d (.v (.int .i64 v5.1)), .d (.v (.int .i64 (w64 (400 + v2.1)))), .d (.v (.int .i64 v6.1)), .d (.v (.int .i64 v7.1)), .own 5 0 (v34.2).length]]⟩], .live [⟨115, 5, .data (List.map cSite_ v34.2)⟩]]⟩ ?_ ?_
    · skip
      refine aw_seq ?_
      refine aw_regionA (is := [0, 1, 2]) rfl ?_
      refine rp rfl w0 rfl (pu_move (r := .ptr _ _ _ _ _) rfl) ?_
      obtain ⟨v9, hv9, h1⟩ := bnd h1
      refine rw1 rfl w0 rfl (c_callP [0] 300 (l00Src_pick_b_c hv9) rfl rfl) ?_
      refine rp rfl w0 rfl (pu_assign (r := .d _) rfl) ?_
      refine ra_nil ?_
      refine then_n ?_
      refine aw_block ?_
      refine aw_loopM (fun s22 => ⟨updA (updA (updA (updA (updA (updA (updA ((fun _ => .dead)) 0 (.ptr 0 0 1 0 0)) 2 (.ptr 3 0 1 0 0)) 3 (.d (.v (.int .i64 v5.1)))) 4 (.d (.v (.int .i64 (w64 (400 + v2.1)))))) 7 (.ptr 4 0 1 0 0)) 8 (.d (.v (.bool v8.1)))) 9 (.d (.v (.int .i64 s22.1))), lks [.live [⟨138, 3, .av [[.d (.sl (List.map cU8 s22.2.1.code)), .d (.v (.int .i64 s22.2.1.at_)), .d (.v (.int .u64 s22.2.1.seed))]]⟩], .no, .no, .live [⟨70, 5, .av [[.d (.v (.int .i64 0)), .d (.v (.int .i64 0)), .d (.v (.int .i64 0)), .d (.v (.int .i64 0)), .d (.v (.slice none 0 0))]]⟩], .live [⟨70, 5, .av [[.d (.v (.int .i64 v5.1)), .d (.v (.int .i64 (w64 (400 + v2.1)))), .d (.v (.int .i64 v6.1)), .d (.v (.int .i64 v7.1)), .own 5 0 (s22.2.2).length]]⟩], .live [⟨115, 5, .data (List.map cSite_ s22.2.2)⟩]]⟩) h1 ?_ (fun s22 y h2 => ?_)
      · skip
        refine Weak.trans_ (weak_adopt 5 rfl 115 5 (kb := 4) (j := 4) rfl rfl (by repeat (first | exact Spl.z _ | apply Spl.t | apply Spl.d))) ?_
        exact wk [0, 1, 2, 3, 4, 5]
      · skip
        refine aw_seq ?_
        refine aw_seq ?_
        refine aw_regionA (is := [0, 1]) rfl ?_
        refine rp rfl w0 rfl (pu_move (r := .d _) rfl) ?_
        refine rp rfl w0 rfl (pu_gtr rfl rfl) ?_
        refine ra_nil ?_
        refine then_n ?_
        refine aw_if h2 rfl (fun hc h2 => ?_) (fun hc h2 => ?_)
        · skip
          refine aw_skip ?_
          refine then_n ?_
          refine aw_seq ?_
          refine aw_block ?_
          refine aw_seq ?_
          refine aw_regionA (is := [0, 1, 2, 3, 4, 5]) rfl ?_
          refine rp rfl w0 rfl (pu_move (r := .ptr _ _ _ _ _) rfl) ?_
          refine rp rfl w0 rfl (pu_move (r := .d _) rfl) ?_
          refine rp rfl w0 rfl (pu_move (r := .d _) rfl) ?_
          obtain ⟨v23, hv23, h2⟩ := bnd h2
          refine rw1 rfl w0 rfl (c_callP [0] 300 (s_l09DrawPoint_b_c hv23) rfl rfl) ?_
          refine rs rfl w0 rfl (st_alloc 6 (cs := [.d (.v (.int .i64 0)), .d (.v (.int .i64 0))]) tok rfl rfl rfl) ?_
          refine rw0 rfl w0 (bx_st (cs := _ :: _) tok rfl rfl rfl rfl rfl rfl rfl) ?_
          refine ra_nil ?_
          refine then_n ?_
          obtain ⟨v28, h3, h2⟩ := bnd h2
          refine aw_cut ⟨updA (updA (updA (updA (updA (updA (updA (updA ((fun _ => .dead)) 0 (.ptr 0 0 1 0 0)) 2 (.ptr 3 0 1 0 0)) 3 (.d (.v (.int .i64 v5.1)))) 4 (.d (.v (.int .i64 (w64 (400 + v2.1)))))) 7 (.ptr 4 0 1 0 0)) 8 (.d (.v (.bool v8.1)))) 9 (.d (.v (.int .i64 s22.1)))) 10 (.ptr 5 0 1 0 0), lks [.live [⟨138, 3, .av [[.d (.sl (List.map cU8 v23.2.code)), .d (.v (.int .i64 v23.2.at_)), .d (.v (.int .u64 v23.2.seed))]]⟩], .no, .no, .live [⟨70, 5, .av [[.d (.v (.int .i64 0)), .d (.v (.int .i64 0)), .d (.v (.int .i64 0)), .d (.v (.int .i64 0)), .d (.v (.slice none 0 0))]]⟩], .live [⟨70, 5, .av [[.d (.v (.int .i64 v5.1)), .d (.v (.int .i64 (w64 (400 + v2.1)))), .d (.v (.int .i64 v6.1)), .d (.v (.int .i64 v7.1)), .own 6 0 (s22.2.2).length]]⟩], .live [⟨113, 2, .av [[.d (.v (.int .i64 v28.X)), .d (.v (.int .i64 v28.Y))]]⟩], .live [⟨115, 5, .data (List.map cSite_ s22.2.2)⟩]]⟩ ?_ ?_
          · skip
            refine aw_seq ?_
            refine aw_regionA (is := [0]) rfl ?_
            refine rp rfl w0 rfl (pu_move (r := .d _) rfl) ?_
            refine ra_nil ?_
            refine then_n ?_
            refine aw_ifB h3 rfl (fun hc h3 => ?_) (fun hc h3 => ?_)
            · skip
              refine aw_seq ?_
              refine aw_regionA (is := [0, 1, 2, 3, 4, 5, 6, 7, 8, 9, 10]) rfl ?_
              refine rl rfl w0 rfl (bx_fa tok rfl rfl rfl rfl rfl rfl rfl) ?_
              refine rl rfl w0 rfl (bx_ld1 tok rfl rfl rfl rfl rfl) ?_
              refine rp rfl w0 rfl (pw_mul rfl rfl) ?_
              refine rp rfl w0 rfl (pu_move (r := .d _) rfl) ?_
              refine rp rfl w0 rfl (pw_add rfl rfl) ?_
              obtain ⟨hq24, h3⟩ := chk_e h3
              refine rp rfl w0 rfl (pw_quo rfl rfl hq24) ?_
              refine rp rfl w0 rfl (pu_move (r := .d _) rfl) ?_
              refine rp rfl w0 rfl (pw_quo rfl rfl (by decide)) ?_
              refine rp rfl w0 rfl (pw_mul rfl rfl) ?_
              refine rl rfl w0 rfl (bx_fa tok rfl rfl rfl rfl rfl rfl rfl) ?_
              refine rw0 rfl w0 (bx_st (cs := [.d _]) tok rfl rfl rfl rfl rfl rfl rfl) ?_
              refine ra_nil ?_
              refine then_n ?_
              refine aw_regionA (is := [0, 1, 2, 3, 4, 5, 6, 7, 8, 9, 10]) rfl ?_
              refine rl rfl w0 rfl (bx_fa tok rfl rfl rfl rfl rfl rfl rfl) ?_
              refine rl rfl w0 rfl (bx_ld1 tok rfl rfl rfl rfl rfl) ?_
              refine rp rfl w0 rfl (pw_mul rfl rfl) ?_
              refine rp rfl w0 rfl (pu_move (r := .d _) rfl) ?_
              refine rp rfl w0 rfl (pw_add rfl rfl) ?_
              obtain ⟨hq26, h3⟩ := chk_e h3
              refine rp rfl w0 rfl (pw_quo rfl rfl hq26) ?_
              refine rp rfl w0 rfl (pu_move (r := .d _) rfl) ?_
              refine rp rfl w0 rfl (pw_quo rfl rfl (by decide)) ?_
              refine rp rfl w0 rfl (pw_mul rfl rfl) ?_
              refine rl rfl w0 rfl (bx_fa tok rfl rfl rfl rfl rfl rfl rfl) ?_
              refine rw0 rfl w0 (bx_st (cs := [.d _]) tok rfl rfl rfl rfl rfl rfl rfl) ?_
              refine ra_nil ?_
              refine then_n ?_
              cases h3
              exact wk [0, 1, 2, 3, 4, 6, 5]
            · skip
              refine aw_skip ?_
              refine then_n ?_
              cases h3
              exact wk [0, 1, 2, 3, 4, 6, 5]
          · skip
            refine aw_seq ?_
            refine aw_regionA (is := [0, 1, 2, 3]) rfl ?_
            refine rp rfl w0 rfl (pu_move (r := .ptr _ _ _ _ _) rfl) ?_
            obtain ⟨v29, hv29, h2⟩ := bnd h2
            refine rw1 rfl w0 rfl (c_callP [0] 300 (l00Src_pick_b_c hv29) rfl rfl) ?_
            refine rp rfl w0 rfl (pw_add rfl rfl) ?_
            refine rp rfl w0 rfl (pu_assign (r := .d _) rfl) ?_
            refine ra_nil ?_
            refine then_n ?_
            refine aw_seq ?_
            refine aw_regionA (is := [0, 1, 2, 3, 4]) rfl ?_
            refine rp rfl w0 rfl (pu_move (r := .d _) rfl) ?_
            refine rp rfl w0 rfl (pu_move (r := .ptr _ _ _ _ _) rfl) ?_
            obtain ⟨v30, hv30, h2⟩ := bnd h2
            refine rw1 rfl w0 rfl (c_callP [0] 300 (l00Src_pick_b_c hv30) rfl rfl) ?_
            refine rp rfl w0 rfl (pw_add rfl rfl) ?_
            refine rp rfl w0 rfl (pu_assign (r := .d _) rfl) ?_
            refine ra_nil ?_
            refine then_n ?_
            refine aw_region_draw (is := [0, 1, 2, 3, 4, 7, 8, 9, 5, 6, 10, 11, 12, 13, 14]) follows ?_
            refine rt_lk rfl w0 rfl (bx_fa tok rfl rfl rfl rfl rfl rfl rfl) rfl rfl rfl ?_
            refine rt_lk rfl w0 rfl (bx_ld1 tok rfl rfl rfl rfl rfl) rfl rfl rfl ?_
            refine rt_lk rfl w0 rfl (bx_fa tok rfl rfl rfl rfl rfl rfl rfl) rfl rfl rfl ?_
            refine rt_lk rfl w0 rfl (bx_ld1 tok rfl rfl rfl rfl rfl) rfl rfl rfl ?_
            refine rt_lk rfl w0 rfl (ow_len tok rfl rfl rfl rfl rfl) rfl rfl rfl ?_
            refine rt_lk rfl w0 rfl (bx_ldN tok rfl rfl rfl rfl) rfl rfl rfl ?_
            refine rt_p rfl w0 rfl (pu_move (r := .d _) rfl) ?_
            refine rt_p rfl w0 rfl (pu_move (r := .d _) rfl) ?_
            obtain ⟨v31, hv31, h2⟩ := bnd h2
            refine rt_c rfl w0 rfl (b_call 7 (s_l01Dec_c hv31) rfl rfl rfl) ?_
            obtain ⟨hq32, h2⟩ := chk_e h2
            refine rt_p rfl w0 rfl (pu_cat rfl rfl hq32) ?_
            refine rt_p rfl w0 rfl (pu_build (C0 := [.d (.v (.string (⟨#[]⟩ : ByteArray))), .d (.v (.int .i64 0)), .d (.v (.int .i64 0)), .d (.v (.int .i64 0)), .d (.v (.int .i64 0))]) tok rfl rfl (by repeat (first | exact Plc.nil | apply Plc.cons rfl)) rfl (by repeat (first | exact Bld.nil _ | apply Bld.cons (cs := [.d _]) rfl rfl rfl rfl (by repeat (first | exact Spl.z _ | apply Spl.t | apply Spl.d)) | apply Bld.cons (cs := [.own _ _ _]) rfl rfl rfl rfl (by repeat (first | exact Spl.z _ | apply Spl.t | apply Spl.d)) | apply Bld.cons (cs := [.ptr _ _ _ _ _]) rfl rfl rfl rfl (by repeat (first | exact Spl.z _ | apply Spl.t | apply Spl.d)) | apply Bld.cons (cs := [.fn _ _]) rfl rfl rfl rfl (by repeat (first | exact Spl.z _ | apply Spl.t | apply Spl.d)) | apply Bld.cons (cs := _ :: _) rfl rfl rfl rfl (by repeat (first | exact Spl.z _ | apply Spl.t | apply Spl.d))))) ?_
            refine rt_s rfl w0 rfl (bs_val tok cSite_ [(⟨(⟨#[97]⟩ : ByteArray) ++ v31, v28, w64 ((w64 (1 + v29.1)) + v30.1), w64 (1 + v29.1)⟩ : Site_)] rfl rfl rfl (by repeat (first | exact Els.nil _ | apply Els.cons (cs := [.d _]) rfl rfl rfl | apply Els.cons (cs := _ :: _) rfl rfl rfl)) rfl rfl rfl (by repeat (first | exact AllDD.nil | (apply AllDD.cons; (repeat (first | exact AllD.nil | apply AllD.cons))))) rfl) ?_
            obtain ⟨hq33, h2⟩ := chk_e h2
            refine rt_wkd rfl w0 rfl (ap_own tok hq33 rfl rfl rfl rfl rfl rfl rfl rfl rfl rfl rfl rfl (fun _ => rfl)) ?_
            refine rt_lk rfl w0 rfl (bx_fa tok rfl rfl rfl rfl rfl rfl rfl) rfl rfl rfl ?_
            refine rt_wk rfl w0 (bx_st (cs := [.own _ _ _]) tok rfl rfl rfl rfl rfl rfl rfl) ?_
            refine rt_nil ?_
            refine ⟨by kernel_rfl, ?_⟩
            refine block_n ?_
            refine then_n ?_
            refine aw_regionA (is := [0, 1, 2]) rfl ?_
            refine rp rfl w0 rfl (pu_move (r := .d _) rfl) ?_
            refine rp rfl w0 rfl (pw_sub rfl rfl) ?_
            refine rp rfl w0 rfl (pu_assign (r := .d _) rfl) ?_
            refine ra_nil ?_
            refine loop_n ?_
            cases h2
            refine ⟨_, rfl, ?_⟩
            exact wk [0, 1, 2, 3, 4, 6]
        · skip
          refine aw_exit ?_
          refine then_e ?_
          cases h2
          refine loop_x ⟨_, rfl, fun e => ?_⟩
          subst e
          refine block_hit ?_
          refine then_n ?_
          exact wk [0, 1, 2, 3, 4, 5]
    · skip
      refine aw_seq ?_
      refine aw_regionA (is := [0, 1]) rfl ?_
      refine rl rfl w0 rfl (bx_ldN tok rfl rfl rfl rfl) ?_
      refine rw0 rfl w0 (bx_st (cs := _ :: _) tok rfl rfl rfl rfl rfl rfl rfl) ?_
      refine ra_nil ?_
      refine then_n ?_
      refine aw_ret ?_
      cases h0
      exact retM_ (rs := [.cell 2 70]) 1 [0, 5] rfl

theorem l00Src_text_b_c {p0 : L00Src_} {p1 : List ByteArray} {r : ByteArray × L00Src_} (h0 : l00Src_text_b_m p0 p1 = some r) : FnC Try.prog 112 [.live [⟨138, 3, .av [[.d (.sl (List.map cU8 p0.code)), .d (.v (.int .i64 p0.at_)), .d (.v (.int .u64 p0.seed))]]⟩]] [.ptr 0 0 1 0 0, .d (.sl (List.map cS p1))] [.live [⟨138, 3, .av [[.d (.sl (List.map cU8 r.2.code)), .d (.v (.int .i64 r.2.at_)), .d (.v (.int .u64 r.2.seed))]]⟩]] (.d (.v (.string r.1))) := by
  refine fnc_intro (T := tt) (N := 12) tok Try.func112 rfl rfl (by kernel_rfl) rfl rfl ?_
  unfold l00Src_text_b_m at h0
  refine aw_seq ?_
  refine aw_regionA (is := [0]) rfl ?_
  refine rp rfl w0 rfl (pu_assign (r := .d _) rfl) ?_
  refine ra_nil ?_
  refine then_n ?_
  refine aw_seq ?_
  refine aw_regionA (is := [0, 1, 2, 3, 4, 5, 6, 7]) rfl ?_
  refine rp rfl w0 rfl (pu_move (r := .d _) rfl) ?_
  refine rp rfl w0 rfl (pu_move (r := .ptr _ _ _ _ _) rfl) ?_
  refine rp rfl w0 rfl (pu_move (r := .d _) rfl) ?_
  refine rp rfl w0 rfl (pu_len_map tok rfl rfl rfl) ?_
  obtain ⟨v1, hv1, h0⟩ := bnd h0
  refine rw1 rfl w0 rfl (c_callP [0] 300 (l00Src_pick_b_c hv1) rfl rfl) ?_
  obtain ⟨v2, hv2, h0⟩ := bnd h0
  refine rp rfl w0 rfl (sl_ix tok hv2 rfl rfl rfl rfl rfl rfl) ?_
  refine rp rfl w0 rfl (pu_load_ref1 tok rfl rfl rfl rfl) ?_
  refine rp rfl w0 rfl (pu_assign (r := .d _) rfl) ?_
  refine ra_nil ?_
  refine then_n ?_
  refine aw_ret ?_
  cases h0
  exact retP_ (rs := [.tmp 4]) 1 rfl rfl

theorem s_l09Bent_b_c {p0 : L00Src_} {r : Plate_ × L00Src_} (h0 : s_l09Bent_b_m p0 = some r) : FnC Try.prog 94 [.live [⟨138, 3, .av [[.d (.sl (List.map cU8 p0.code)), .d (.v (.int .i64 p0.at_)), .d (.v (.int .u64 p0.seed))]]⟩]] [.ptr 0 0 1 0 0] [.live [⟨138, 3, .av [[.d (.sl (List.map cU8 r.2.code)), .d (.v (.int .i64 r.2.at_)), .d (.v (.int .u64 r.2.seed))]]⟩], .live [⟨115, 5, .data (List.map cSite_ r.1.Sites)⟩]] (.agg [.d (.v (.int .i64 r.1.Width)), .d (.v (.int .i64 r.1.Height)), .d (.v (.int .i64 r.1.Margin)), .d (.v (.int .i64 r.1.Gap)), .own 1 0 r.1.Sites.length]) := by
  refine fnc_intro (T := tt) (N := 120) tok Try.func94 rfl rfl (by kernel_rfl) rfl rfl ?_
  unfold s_l09Bent_b_m at h0
  refine aw_seq ?_
  refine aw_regionA (is := [0]) rfl ?_
  refine rs rfl w0 rfl (st_alloc 3 (cs := [.d (.v (.int .i64 0)), .d (.v (.int .i64 0)), .d (.v (.int .i64 0)), .d (.v (.int .i64 0)), .d (.v (.slice none 0 0))]) tok rfl rfl rfl) ?_
  refine ra_nil ?_
  refine then_n ?_
  refine aw_seq ?_
  refine aw_regionA (is := [0, 1, 2, 3]) rfl ?_
  refine rp rfl w0 rfl (pu_move (r := .ptr _ _ _ _ _) rfl) ?_
  obtain ⟨v1, hv1, h0⟩ := bnd h0
  refine rw1 rfl w0 rfl (c_callP [0, 4] 300 (fnc_pad 1 (s_l09Draw_b_c hv1)) rfl rfl) ?_
  refine rs rfl w0 rfl (st_alloc 5 (cs := [.d (.v (.int .i64 0)), .d (.v (.int .i64 0)), .d (.v (.int .i64 0)), .d (.v (.int .i64 0)), .d (.v (.slice none 0 0))]) tok rfl rfl rfl) ?_
  refine rw0 rfl w0 (bx_st (cs := _ :: _) tok rfl rfl rfl rfl rfl rfl rfl) ?_
  refine ra_nil ?_
  refine then_n ?_
  refine aw_seq ?_
  refine aw_regionA (is := [0, 1, 2, 3, 4, 5]) rfl ?_
  refine rp rfl w0 rfl (pu_move (r := .ptr _ _ _ _ _) rfl) ?_
  refine rl rfl w0 rfl (bx_fa tok rfl rfl rfl rfl rfl rfl rfl) ?_
  refine rl rfl w0 rfl (bx_ld1 tok rfl rfl rfl rfl rfl) ?_
  refine rl rfl w0 rfl (ow_len tok rfl rfl rfl rfl rfl) ?_
  obtain ⟨v2, hv2, h0⟩ := bnd h0
  refine rw1 rfl w0 rfl (c_callP [0] 300 (l00Src_pick_b_c hv2) rfl rfl) ?_
  refine rp rfl w0 rfl (pu_assign (r := .d _) rfl) ?_
  refine ra_nil ?_
  refine then_n ?_
  obtain ⟨v26, h1, h0⟩ := bnd h0
  refine aw_cut ⟨updA (updA ((fun _ => .dead)) 2 (.ptr 3 0 1 0 0)) 3 (.ptr 4 0 1 0 0), lks [.live [⟨138, 3, .av [[.d (.sl (List.map cU8 v26.1.code)), .d (.v (.int .i64 v26.1.at_)), .d (.v (.int .u64 v26.1.seed))]]⟩], .no, .no, .live [⟨70, 5, .av [[.d (.v (.int .i64 0)), .d (.v (.int .i64 0)), .d (.v (.int .i64 0)), .d (.v (.int .i64 0)), .d (.v (.slice none 0 0))]]⟩], .live [⟨70, 5, .av [[.d (.v (.int .i64 v26.2.1)), .d (.v (.int .i64 v1.1.Height)), .d (.v (.int .i64 v26.2.2.1)), .d (.v (.int .i64 v26.2.2.2.1)), .own 5 0 (v26.2.2.2.2).length]]⟩], .live [⟨115, 5, .data (List.map cSite_ v26.2.2.2.2)⟩]]⟩ ?_ ?_
  · skip
    refine aw_seq ?_
    refine aw_regionA (is := [0, 1]) rfl ?_
    refine rp rfl w0 rfl (pu_move (r := .ptr _ _ _ _ _) rfl) ?_
    obtain ⟨v3, hv3, h1⟩ := bnd h1
    refine rw1 rfl w0 rfl (c_callP [0] 300 (l00Src_pick_b_c hv3) rfl rfl) ?_
    refine ra_nil ?_
    refine then_n ?_
    refine aw_block ?_
    refine aw_seq ?_
    refine aw_regionA (is := [0, 1]) rfl ?_
    refine rp rfl w0 rfl (pu_eql rfl rfl) ?_
    refine rp rfl w0 rfl (pu_assign (r := .d _) rfl) ?_
    refine ra_nil ?_
    refine then_n ?_
    refine aw_if h1 rfl (fun hc h1 => ?_) (fun hc h1 => ?_)
    · skip
      refine aw_regionA (is := [0, 1, 2, 3, 4]) rfl ?_
      refine rp rfl w0 rfl (pu_move (r := .ptr _ _ _ _ _) rfl) ?_
      refine rs rfl w0 rfl (bs_val tok cI [0, 10001] rfl rfl rfl (by repeat (first | exact Els.nil _ | apply Els.cons (cs := [.d _]) rfl rfl rfl | apply Els.cons (cs := _ :: _) rfl rfl rfl)) rfl rfl rfl (by repeat (first | exact AllDD.nil | (apply AllDD.cons; (repeat (first | exact AllD.nil | apply AllD.cons))))) rfl) ?_
      obtain ⟨v4, hv4, h1⟩ := bnd h1
      refine rw1 rfl w0 rfl (c_callP [0] 300 (l00Src_among_b_c hv4) rfl rfl) ?_
      refine rl rfl w0 rfl (bx_fa tok rfl rfl rfl rfl rfl rfl rfl) ?_
      refine rw0 rfl w0 (bx_st (cs := [.d _]) tok rfl rfl rfl rfl rfl rfl rfl) ?_
      refine ra_nil ?_
      refine block_n ?_
      refine then_n ?_
      cases h1
      exact wk [0, 1, 2, 3, 5, 4]
    · skip
      refine aw_seq ?_
      refine aw_regionA (is := [0, 1]) rfl ?_
      refine rp rfl w0 rfl (pu_eql rfl rfl) ?_
      refine rp rfl w0 rfl (pu_assign (r := .d _) rfl) ?_
      refine ra_nil ?_
      refine then_n ?_
      refine aw_if h1 rfl (fun hc h1 => ?_) (fun hc h1 => ?_)
      · skip
        refine aw_regionA (is := [0, 1, 2, 3, 4]) rfl ?_
        refine rp rfl w0 rfl (pu_move (r := .ptr _ _ _ _ _) rfl) ?_
        refine rs rfl w0 rfl (bs_val tok cI [-1, 1000, 1001] rfl rfl rfl (by repeat (first | exact Els.nil _ | apply Els.cons (cs := [.d _]) rfl rfl rfl | apply Els.cons (cs := _ :: _) rfl rfl rfl)) rfl rfl rfl (by repeat (first | exact AllDD.nil | (apply AllDD.cons; (repeat (first | exact AllD.nil | apply AllD.cons))))) rfl) ?_
        obtain ⟨v5, hv5, h1⟩ := bnd h1
        refine rw1 rfl w0 rfl (c_callP [0] 300 (l00Src_among_b_c hv5) rfl rfl) ?_
        refine rl rfl w0 rfl (bx_fa tok rfl rfl rfl rfl rfl rfl rfl) ?_
        refine rw0 rfl w0 (bx_st (cs := [.d _]) tok rfl rfl rfl rfl rfl rfl rfl) ?_
        refine ra_nil ?_
        refine block_n ?_
        refine then_n ?_
        cases h1
        exact wk [0, 1, 2, 3, 5, 4]
      · skip
        refine aw_seq ?_
        refine aw_regionA (is := [0, 1]) rfl ?_
        refine rp rfl w0 rfl (pu_eql rfl rfl) ?_
        refine rp rfl w0 rfl (pu_assign (r := .d _) rfl) ?_
        refine ra_nil ?_
        refine then_n ?_
        refine aw_if h1 rfl (fun hc h1 => ?_) (fun hc h1 => ?_)
        · skip
          refine aw_seq ?_
          refine aw_regionA (is := [0, 1, 2, 3]) rfl ?_
          refine rl rfl w0 rfl (bx_fa tok rfl rfl rfl rfl rfl rfl rfl) ?_
          refine rl rfl w0 rfl (bx_ld1 tok rfl rfl rfl rfl rfl) ?_
          refine rl rfl w0 rfl (ow_len tok rfl rfl rfl rfl rfl) ?_
          refine rp rfl w0 rfl (pu_gtr rfl rfl) ?_
          refine ra_nil ?_
          refine then_n ?_
          refine aw_if h1 rfl (fun hc h1 => ?_) (fun hc h1 => ?_)
          · skip
            refine aw_region_draw (is := [0, 1, 2, 3, 4, 5, 6, 7, 8, 9, 10, 11, 12, 13, 14]) follows ?_
            refine rt_lk rfl w0 rfl (bx_fa tok rfl rfl rfl rfl rfl rfl rfl) rfl rfl rfl ?_
            refine rt_lk rfl w0 rfl (bx_ld1 tok rfl rfl rfl rfl rfl) rfl rfl rfl ?_
            refine rt_p rfl w0 rfl (pu_move (r := .d _) rfl) ?_
            refine rt_p rfl w0 rfl (pu_move (r := .ptr _ _ _ _ _) rfl) ?_
            refine rt_lk rfl w0 rfl (bx_fa tok rfl rfl rfl rfl rfl rfl rfl) rfl rfl rfl ?_
            refine rt_lk rfl w0 rfl (bx_ld1 tok rfl rfl rfl rfl rfl) rfl rfl rfl ?_
            refine rt_lk rfl w0 rfl (bx_fa tok rfl rfl rfl rfl rfl rfl rfl) rfl rfl rfl ?_
            refine rt_lk rfl w0 rfl (bx_ld1 tok rfl rfl rfl rfl rfl) rfl rfl rfl ?_
            refine rt_p rfl w0 rfl (pw_add rfl rfl) ?_
            refine rt_s rfl w0 rfl (bs_val tok cI [-1, v1.1.Width, w64 (v1.1.Width + 1)] rfl rfl rfl (by repeat (first | exact Els.nil _ | apply Els.cons (cs := [.d _]) rfl rfl rfl | apply Els.cons (cs := _ :: _) rfl rfl rfl)) rfl rfl rfl (by repeat (first | exact AllDD.nil | (apply AllDD.cons; (repeat (first | exact AllD.nil | apply AllD.cons))))) rfl) ?_
            obtain ⟨v6, hv6, h1⟩ := bnd h1
            refine rt_wkd rfl w0 rfl (c_callP [0] 300 (l00Src_among_b_c hv6) rfl rfl) ?_
            obtain ⟨v7, hv7, h1⟩ := bnd h1
            refine rt_lk rfl w0 rfl (ow_ix tok hv7 rfl rfl rfl rfl rfl rfl rfl rfl) rfl rfl rfl ?_
            refine rt_lk rfl w0 rfl (rw_fa tok (atI_e hv7).2.1 rfl rfl rfl rfl rfl rfl rfl rfl) rfl rfl rfl ?_
            refine rt_lk rfl w0 rfl (rw_fa tok (atI_e hv7).2.1 rfl rfl rfl rfl rfl rfl rfl rfl) rfl rfl rfl ?_
            refine rt_wk rfl w0 (rw_st (cs := [.d _]) tok (⟨v7.Name, (⟨v6.1, v7.At.Y⟩ : Point_), v7.Wheel, v7.Staff⟩ : Site_) (atI_e hv7).2.1 rfl rfl rfl rfl rfl rfl rfl rfl) ?_
            refine rt_nil ?_
            refine ⟨by kernel_rfl, ?_⟩
            refine block_n ?_
            refine then_n ?_
            cases h1
            exact wk [0, 1, 2, 3, 5, 4]
          · skip
            refine aw_skip ?_
            refine block_n ?_
            refine then_n ?_
            cases h1
            exact wk [0, 1, 2, 3, 5, 4]
        · skip
          refine aw_seq ?_
          refine aw_regionA (is := [0, 1]) rfl ?_
          refine rp rfl w0 rfl (pu_eql rfl rfl) ?_
          refine rp rfl w0 rfl (pu_assign (r := .d _) rfl) ?_
          refine ra_nil ?_
          refine then_n ?_
          refine aw_if h1 rfl (fun hc h1 => ?_) (fun hc h1 => ?_)
          · skip
            refine aw_seq ?_
            refine aw_regionA (is := [0, 1, 2, 3]) rfl ?_
            refine rl rfl w0 rfl (bx_fa tok rfl rfl rfl rfl rfl rfl rfl) ?_
            refine rl rfl w0 rfl (bx_ld1 tok rfl rfl rfl rfl rfl) ?_
            refine rl rfl w0 rfl (ow_len tok rfl rfl rfl rfl rfl) ?_
            refine rp rfl w0 rfl (pu_gtr rfl rfl) ?_
            refine ra_nil ?_
            refine then_n ?_
            refine aw_if h1 rfl (fun hc h1 => ?_) (fun hc h1 => ?_)
            · skip
              refine aw_region_draw (is := [0, 1, 2, 3, 4, 5, 6, 7, 8]) follows ?_
              refine rt_lk rfl w0 rfl (bx_fa tok rfl rfl rfl rfl rfl rfl rfl) rfl rfl rfl ?_
              refine rt_lk rfl w0 rfl (bx_ld1 tok rfl rfl rfl rfl rfl) rfl rfl rfl ?_
              refine rt_p rfl w0 rfl (pu_move (r := .d _) rfl) ?_
              refine rt_p rfl w0 rfl (pu_move (r := .ptr _ _ _ _ _) rfl) ?_
              refine rt_s rfl w0 rfl (bs_val tok cS [(⟨#[]⟩ : ByteArray), (⟨#[97, 48]⟩ : ByteArray), (⟨#[85, 112]⟩ : ByteArray), (⟨#[120]⟩ : ByteArray)] rfl rfl rfl (by repeat (first | exact Els.nil _ | apply Els.cons (cs := [.d _]) rfl rfl rfl | apply Els.cons (cs := _ :: _) rfl rfl rfl)) rfl rfl rfl (by repeat (first | exact AllDD.nil | (apply AllDD.cons; (repeat (first | exact AllD.nil | apply AllD.cons))))) rfl) ?_
              obtain ⟨v8, hv8, h1⟩ := bnd h1
              refine rt_wkd rfl w0 rfl (c_callP [0] 300 (l00Src_text_b_c hv8) rfl rfl) ?_
              obtain ⟨v9, hv9, h1⟩ := bnd h1
              refine rt_lk rfl w0 rfl (ow_ix tok hv9 rfl rfl rfl rfl rfl rfl rfl rfl) rfl rfl rfl ?_
              refine rt_lk rfl w0 rfl (rw_fa tok (atI_e hv9).2.1 rfl rfl rfl rfl rfl rfl rfl rfl) rfl rfl rfl ?_
              refine rt_wk rfl w0 (rw_st (cs := [.d _]) tok (⟨v8.1, v9.At, v9.Wheel, v9.Staff⟩ : Site_) (atI_e hv9).2.1 rfl rfl rfl rfl rfl rfl rfl rfl) ?_
              refine rt_nil ?_
              refine ⟨by kernel_rfl, ?_⟩
              refine block_n ?_
              refine then_n ?_
              cases h1
              exact wk [0, 1, 2, 3, 5, 4]
            · skip
              refine aw_skip ?_
              refine block_n ?_
              refine then_n ?_
              cases h1
              exact wk [0, 1, 2, 3, 5, 4]
          · skip
            refine aw_seq ?_
            refine aw_regionA (is := [0, 1]) rfl ?_
            refine rp rfl w0 rfl (pu_eql rfl rfl) ?_
            refine rp rfl w0 rfl (pu_assign (r := .d _) rfl) ?_
            refine ra_nil ?_
            refine then_n ?_
            refine aw_if h1 rfl (fun hc h1 => ?_) (fun hc h1 => ?_)
            · skip
              refine aw_seq ?_
              refine aw_regionA (is := [0, 1, 2, 3]) rfl ?_
              refine rl rfl w0 rfl (bx_fa tok rfl rfl rfl rfl rfl rfl rfl) ?_
              refine rl rfl w0 rfl (bx_ld1 tok rfl rfl rfl rfl rfl) ?_
              refine rl rfl w0 rfl (ow_len tok rfl rfl rfl rfl rfl) ?_
              refine rp rfl w0 rfl (pu_gtr rfl rfl) ?_
              refine ra_nil ?_
              refine then_n ?_
              refine aw_if h1 rfl (fun hc h1 => ?_) (fun hc h1 => ?_)
              · skip
                refine aw_region_draw (is := [0, 1, 2, 3, 4, 5, 6, 7, 8, 9, 10, 11, 12, 13, 14, 15, 16, 17, 18, 19, 20, 21]) follows ?_
                refine rt_lk rfl w0 rfl (bx_fa tok rfl rfl rfl rfl rfl rfl rfl) rfl rfl rfl ?_
                refine rt_lk rfl w0 rfl (bx_ld1 tok rfl rfl rfl rfl rfl) rfl rfl rfl ?_
                refine rt_p rfl w0 rfl (pu_move (r := .d _) rfl) ?_
                refine rt_p rfl w0 rfl (pu_move (r := .ptr _ _ _ _ _) rfl) ?_
                refine rt_lk rfl w0 rfl (bx_fa tok rfl rfl rfl rfl rfl rfl rfl) rfl rfl rfl ?_
                refine rt_lk rfl w0 rfl (bx_ld1 tok rfl rfl rfl rfl rfl) rfl rfl rfl ?_
                refine rt_p rfl w0 rfl (pu_move (r := .d _) rfl) ?_
                obtain ⟨v10, hv10, h1⟩ := bnd h1
                refine rt_lk rfl w0 rfl (ow_ix tok hv10 rfl rfl rfl rfl rfl rfl rfl rfl) rfl rfl rfl ?_
                refine rt_lk rfl w0 rfl (rw_fa tok (atI_e hv10).2.1 rfl rfl rfl rfl rfl rfl rfl rfl) rfl rfl rfl ?_
                refine rt_lk rfl w0 rfl (rw_ld1 tok (atI_e hv10).2.1 rfl rfl rfl rfl rfl rfl) rfl rfl rfl ?_
                refine rt_lk rfl w0 rfl (bx_fa tok rfl rfl rfl rfl rfl rfl rfl) rfl rfl rfl ?_
                refine rt_lk rfl w0 rfl (bx_ld1 tok rfl rfl rfl rfl rfl) rfl rfl rfl ?_
                refine rt_p rfl w0 rfl (pu_move (r := .d _) rfl) ?_
                obtain ⟨v11, hv11, h1⟩ := bnd h1
                refine rt_lk rfl w0 rfl (ow_ix tok hv11 rfl rfl rfl rfl rfl rfl rfl rfl) rfl rfl rfl ?_
                refine rt_lk rfl w0 rfl (rw_fa tok (atI_e hv11).2.1 rfl rfl rfl rfl rfl rfl rfl rfl) rfl rfl rfl ?_
                refine rt_lk rfl w0 rfl (rw_ld1 tok (atI_e hv11).2.1 rfl rfl rfl rfl rfl rfl) rfl rfl rfl ?_
                refine rt_p rfl w0 rfl (pw_add rfl rfl) ?_
                refine rt_s rfl w0 rfl (bs_val tok cI [0, 1001, v10.Wheel, w64 (v11.Wheel + 1)] rfl rfl rfl (by repeat (first | exact Els.nil _ | apply Els.cons (cs := [.d _]) rfl rfl rfl | apply Els.cons (cs := _ :: _) rfl rfl rfl)) rfl rfl rfl (by repeat (first | exact AllDD.nil | (apply AllDD.cons; (repeat (first | exact AllD.nil | apply AllD.cons))))) rfl) ?_
                obtain ⟨v12, hv12, h1⟩ := bnd h1
                refine rt_wkd rfl w0 rfl (c_callP [0] 300 (l00Src_among_b_c hv12) rfl rfl) ?_
                obtain ⟨v13, hv13, h1⟩ := bnd h1
                refine rt_lk rfl w0 rfl (ow_ix tok hv13 rfl rfl rfl rfl rfl rfl rfl rfl) rfl rfl rfl ?_
                refine rt_lk rfl w0 rfl (rw_fa tok (atI_e hv13).2.1 rfl rfl rfl rfl rfl rfl rfl rfl) rfl rfl rfl ?_
                refine rt_wk rfl w0 (rw_st (cs := [.d _]) tok (⟨v13.Name, v13.At, v13.Wheel, v12.1⟩ : Site_) (atI_e hv13).2.1 rfl rfl rfl rfl rfl rfl rfl rfl) ?_
                refine rt_nil ?_
                refine ⟨by kernel_rfl, ?_⟩
                refine block_n ?_
                refine then_n ?_
                cases h1
                exact wk [0, 1, 2, 3, 5, 4]
              · skip
                refine aw_skip ?_
                refine block_n ?_
                refine then_n ?_
                cases h1
                exact wk [0, 1, 2, 3, 5, 4]
            · skip
              refine aw_seq ?_
              refine aw_regionA (is := [0, 1]) rfl ?_
              refine rp rfl w0 rfl (pu_eql rfl rfl) ?_
              refine rp rfl w0 rfl (pu_assign (r := .d _) rfl) ?_
              refine ra_nil ?_
              refine then_n ?_
              refine aw_if h1 rfl (fun hc h1 => ?_) (fun hc h1 => ?_)
              · skip
                refine aw_seq ?_
                refine aw_regionA (is := [0, 1]) rfl ?_
                refine rl rfl w0 rfl (bx_fa tok rfl rfl rfl rfl rfl rfl rfl) ?_
                refine rw0 rfl w0 (bx_st (cs := [.d _]) tok rfl rfl rfl rfl rfl rfl rfl) ?_
                refine ra_nil ?_
                refine then_n ?_
                refine aw_seq ?_
                refine aw_regionA (is := [0, 1, 2, 3]) rfl ?_
                refine rp rfl w0 rfl (pu_move (r := .ptr _ _ _ _ _) rfl) ?_
                obtain ⟨v14, hv14, h1⟩ := bnd h1
                refine rw1 rfl w0 rfl (c_callP [0] 300 (l00Src_pick_b_c hv14) rfl rfl) ?_
                refine rp rfl w0 rfl (pw_add rfl rfl) ?_
                refine rp rfl w0 rfl (pu_assign (r := .d _) rfl) ?_
                refine ra_nil ?_
                refine then_n ?_
                refine aw_block ?_
                refine aw_loopM (fun s20 => ⟨updA (updA (updA ((fun _ => .dead)) 2 (.ptr 3 0 1 0 0)) 3 (.ptr 4 0 1 0 0)) 5 (.d (.v (.int .i64 s20.1))), lks [.live [⟨138, 3, .av [[.d (.sl (List.map cU8 v14.2.code)), .d (.v (.int .i64 v14.2.at_)), .d (.v (.int .u64 v14.2.seed))]]⟩], .no, .no, .live [⟨70, 5, .av [[.d (.v (.int .i64 0)), .d (.v (.int .i64 0)), .d (.v (.int .i64 0)), .d (.v (.int .i64 0)), .d (.v (.slice none 0 0))]]⟩], .live [⟨70, 5, .av [[.d (.v (.int .i64 v1.1.Width)), .d (.v (.int .i64 v1.1.Height)), .d (.v (.int .i64 v1.1.Margin)), .d (.v (.int .i64 v1.1.Gap)), .own 5 0 (s20.2).length]]⟩], .live [⟨115, 5, .data (List.map cSite_ s20.2)⟩]]⟩) h1 ?_ (fun s20 y h2 => ?_)
                · skip
                  refine Weak.trans_ (weak_adopt 6 rfl 115 5 (kb := 5) (j := 4) rfl rfl (by repeat (first | exact Spl.z _ | apply Spl.t | apply Spl.d))) ?_
                  exact wk [0, 1, 2, 3, 5, 6]
                · skip
                  refine aw_seq ?_
                  refine aw_seq ?_
                  refine aw_regionA (is := [0, 1]) rfl ?_
                  refine rp rfl w0 rfl (pu_move (r := .d _) rfl) ?_
                  refine rp rfl w0 rfl (pu_gtr rfl rfl) ?_
                  refine ra_nil ?_
                  refine then_n ?_
                  refine aw_if h2 rfl (fun hc h2 => ?_) (fun hc h2 => ?_)
                  · skip
                    refine aw_skip ?_
                    refine then_n ?_
                    refine aw_seq ?_
                    refine aw_block ?_
                    refine aw_region_draw (is := [0, 1, 2, 5, 6, 7, 8, 9, 10, 3, 4, 11, 12, 13, 14, 15]) follows ?_
                    refine rt_lk rfl w0 rfl (bx_fa tok rfl rfl rfl rfl rfl rfl rfl) rfl rfl rfl ?_
                    refine rt_lk rfl w0 rfl (bx_ld1 tok rfl rfl rfl rfl rfl) rfl rfl rfl ?_
                    refine rt_p rfl w0 rfl (pu_move (r := .d _) rfl) ?_
                    refine rt_p rfl w0 rfl (pu_move (r := .d _) rfl) ?_
                    refine rt_lk rfl w0 rfl (bx_fa tok rfl rfl rfl rfl rfl rfl rfl) rfl rfl rfl ?_
                    refine rt_lk rfl w0 rfl (bx_ld1 tok rfl rfl rfl rfl rfl) rfl rfl rfl ?_
                    refine rt_p rfl w0 rfl (pw_add rfl rfl) ?_
                    obtain ⟨hq21, h2⟩ := chk_e h2
                    refine rt_p rfl w0 rfl (pu_remw rfl rfl hq21) ?_
                    refine rt_p rfl w0 rfl (pu_build (C0 := [.d (.v (.int .i64 0)), .d (.v (.int .i64 0))]) tok rfl rfl (by repeat (first | exact Plc.nil | apply Plc.cons rfl)) rfl (by repeat (first | exact Bld.nil _ | apply Bld.cons (cs := [.d _]) rfl rfl rfl rfl (by repeat (first | exact Spl.z _ | apply Spl.t | apply Spl.d)) | apply Bld.cons (cs := [.own _ _ _]) rfl rfl rfl rfl (by repeat (first | exact Spl.z _ | apply Spl.t | apply Spl.d)) | apply Bld.cons (cs := [.ptr _ _ _ _ _]) rfl rfl rfl rfl (by repeat (first | exact Spl.z _ | apply Spl.t | apply Spl.d)) | apply Bld.cons (cs := [.fn _ _]) rfl rfl rfl rfl (by repeat (first | exact Spl.z _ | apply Spl.t | apply Spl.d)) | apply Bld.cons (cs := _ :: _) rfl rfl rfl rfl (by repeat (first | exact Spl.z _ | apply Spl.t | apply Spl.d))))) ?_
                    obtain ⟨v22, hv22, h2⟩ := bnd h2
                    refine rt_c rfl w0 rfl (b_call 6 (s_l01Dec_c hv22) rfl rfl rfl) ?_
                    obtain ⟨hq23, h2⟩ := chk_e h2
                    refine rt_p rfl w0 rfl (pu_cat rfl rfl hq23) ?_
                    refine rt_p rfl w0 rfl (pu_build (C0 := [.d (.v (.string (⟨#[]⟩ : ByteArray))), .d (.v (.int .i64 0)), .d (.v (.int .i64 0)), .d (.v (.int .i64 0)), .d (.v (.int .i64 0))]) tok rfl rfl (by repeat (first | exact Plc.nil | apply Plc.cons rfl)) rfl (by repeat (first | exact Bld.nil _ | apply Bld.cons (cs := [.d _]) rfl rfl rfl rfl (by repeat (first | exact Spl.z _ | apply Spl.t | apply Spl.d)) | apply Bld.cons (cs := [.own _ _ _]) rfl rfl rfl rfl (by repeat (first | exact Spl.z _ | apply Spl.t | apply Spl.d)) | apply Bld.cons (cs := [.ptr _ _ _ _ _]) rfl rfl rfl rfl (by repeat (first | exact Spl.z _ | apply Spl.t | apply Spl.d)) | apply Bld.cons (cs := [.fn _ _]) rfl rfl rfl rfl (by repeat (first | exact Spl.z _ | apply Spl.t | apply Spl.d)) | apply Bld.cons (cs := _ :: _) rfl rfl rfl rfl (by repeat (first | exact Spl.z _ | apply Spl.t | apply Spl.d))))) ?_
                    refine rt_s rfl w0 rfl (bs_val tok cSite_ [(⟨(⟨#[98]⟩ : ByteArray) ++ v22, (⟨s20.1.tmod (w64 (v1.1.Width + 1)), 0⟩ : Point_), 5, 5⟩ : Site_)] rfl rfl rfl (by repeat (first | exact Els.nil _ | apply Els.cons (cs := [.d _]) rfl rfl rfl | apply Els.cons (cs := _ :: _) rfl rfl rfl)) rfl rfl rfl (by repeat (first | exact AllDD.nil | (apply AllDD.cons; (repeat (first | exact AllD.nil | apply AllD.cons))))) rfl) ?_
                    obtain ⟨hq24, h2⟩ := chk_e h2
                    refine rt_wkd rfl w0 rfl (ap_own tok hq24 rfl rfl rfl rfl rfl rfl rfl rfl rfl rfl rfl rfl (fun _ => rfl)) ?_
                    refine rt_lk rfl w0 rfl (bx_fa tok rfl rfl rfl rfl rfl rfl rfl) rfl rfl rfl ?_
                    refine rt_wk rfl w0 (bx_st (cs := [.own _ _ _]) tok rfl rfl rfl rfl rfl rfl rfl) ?_
                    refine rt_nil ?_
                    refine ⟨by kernel_rfl, ?_⟩
                    refine block_n ?_
                    refine then_n ?_
                    refine aw_regionA (is := [0, 1, 2]) rfl ?_
                    refine rp rfl w0 rfl (pu_move (r := .d _) rfl) ?_
                    refine rp rfl w0 rfl (pw_sub rfl rfl) ?_
                    refine rp rfl w0 rfl (pu_assign (r := .d _) rfl) ?_
                    refine ra_nil ?_
                    refine loop_n ?_
                    cases h2
                    refine ⟨_, rfl, ?_⟩
                    exact wk [0, 1, 2, 3, 4, 5]
                  · skip
                    refine aw_exit ?_
                    refine then_e ?_
                    cases h2
                    refine loop_x ⟨_, rfl, fun e => ?_⟩
                    subst e
                    refine block_hit ?_
                    refine block_n ?_
                    refine then_n ?_
                    exact wk [0, 1, 2, 3, 4, 5]
              · skip
                refine aw_seq ?_
                refine aw_regionA (is := [0, 1]) rfl ?_
                refine rp rfl w0 rfl (pu_eql rfl rfl) ?_
                refine rp rfl w0 rfl (pu_assign (r := .d _) rfl) ?_
                refine ra_nil ?_
                refine then_n ?_
                refine aw_if h1 rfl (fun hc h1 => ?_) (fun hc h1 => ?_)
                · skip
                  refine aw_regionA (is := [0, 1, 2, 3, 4]) rfl ?_
                  refine rp rfl w0 rfl (pu_move (r := .ptr _ _ _ _ _) rfl) ?_
                  refine rs rfl w0 rfl (bs_val tok cI [-1, 1000, 1001] rfl rfl rfl (by repeat (first | exact Els.nil _ | apply Els.cons (cs := [.d _]) rfl rfl rfl | apply Els.cons (cs := _ :: _) rfl rfl rfl)) rfl rfl rfl (by repeat (first | exact AllDD.nil | (apply AllDD.cons; (repeat (first | exact AllD.nil | apply AllD.cons))))) rfl) ?_
                  obtain ⟨v25, hv25, h1⟩ := bnd h1
                  refine rw1 rfl w0 rfl (c_callP [0] 300 (l00Src_among_b_c hv25) rfl rfl) ?_
                  refine rl rfl w0 rfl (bx_fa tok rfl rfl rfl rfl rfl rfl rfl) ?_
                  refine rw0 rfl w0 (bx_st (cs := [.d _]) tok rfl rfl rfl rfl rfl rfl rfl) ?_
                  refine ra_nil ?_
                  refine block_n ?_
                  refine then_n ?_
                  cases h1
                  exact wk [0, 1, 2, 3, 5, 4]
                · skip
                  refine aw_skip ?_
                  refine block_n ?_
                  refine then_n ?_
                  cases h1
                  exact wk [0, 1, 2, 3, 5, 4]
  · skip
    refine aw_seq ?_
    refine aw_regionA (is := [0, 1]) rfl ?_
    refine rl rfl w0 rfl (bx_ldN tok rfl rfl rfl rfl) ?_
    refine rw0 rfl w0 (bx_st (cs := _ :: _) tok rfl rfl rfl rfl rfl rfl rfl) ?_
    refine ra_nil ?_
    refine then_n ?_
    refine aw_ret ?_
    cases h0
    exact retM_ (rs := [.cell 2 70]) 1 [0, 5] rfl

theorem s_DrawPlateDrawing_c {p0 : List Int} {r : Plate_} (h0 : s_DrawPlateDrawing_m p0 = some r) : FnC Try.prog 48 [] [.d (.sl (List.map cU8 p0))] [.live [⟨115, 5, .data (List.map cSite_ r.Sites)⟩]] (.agg [.d (.v (.int .i64 r.Width)), .d (.v (.int .i64 r.Height)), .d (.v (.int .i64 r.Margin)), .d (.v (.int .i64 r.Gap)), .own 0 0 r.Sites.length]) := by
  refine fnc_intro (T := tt) (N := 6) tok Try.func48 rfl rfl (by kernel_rfl) rfl rfl ?_
  unfold s_DrawPlateDrawing_m at h0
  refine aw_seq ?_
  refine aw_regionA (is := [0]) rfl ?_
  refine rs rfl w0 rfl (st_alloc 3 (cs := [.d (.v (.int .i64 0)), .d (.v (.int .i64 0)), .d (.v (.int .i64 0)), .d (.v (.int .i64 0)), .d (.v (.slice none 0 0))]) tok rfl rfl rfl) ?_
  refine ra_nil ?_
  refine then_n ?_
  refine aw_seq ?_
  refine aw_regionA (is := [0, 1, 2, 3]) rfl ?_
  refine rp rfl w0 rfl (pu_move (r := .d _) rfl) ?_
  obtain ⟨v1, hv1, h0⟩ := bnd h0
  refine rs rfl w0 rfl (c_call 4 (s_l00From_c hv1) rfl rfl rfl) ?_
  obtain ⟨v2, hv2, h0⟩ := bnd h0
  refine rw1 rfl w0 rfl (c_callP [4, 5] 300 (fnc_pad 1 (s_l09Bent_b_c hv2)) rfl rfl) ?_
  refine rw0 rfl w0 (bx_st (cs := _ :: _) tok rfl rfl rfl rfl rfl rfl rfl) ?_
  refine ra_nil ?_
  refine then_n ?_
  refine aw_ret ?_
  cases h0
  exact retK_ (rs := [.cell 2 70]) [5] rfl

end Go.Proofs.Ytplnohfjeilodaa
