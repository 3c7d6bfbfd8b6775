/- Texts of this claim, one behind the other (merged by a program of mine). -/
import Derived.Test.YtjjelnpehgoagaaGreatDoorProg
import Derived.Lib.ItoaLen
import Derived.Test.YtjjelnpehgoagaaGreatDoorGF3
set_option linter.unusedSimpArgs false
set_option linter.unusedVariables false
namespace Go.Proofs.YtjjelnpehgoagaaGreatDoor
open Go.RowKit
set_option linter.unusedVariables false
set_option maxRecDepth 100000
set_option maxHeartbeats 2000000
theorem eqg_Shape_ : Tryz.prog.eqGuardType Tryz.prog.depth 44 = false := by kernel_rfl
theorem run_eql_Shape_ {x y : Operand} (a b : Shape_) (w : World) : (do eqGuard .eql 44 x y (.agg #[.int .i64 a.Kind, .int .i64 a.A.X, .int .i64 a.A.Y, .int .i64 a.B.X, .int .i64 a.B.Y, .int .i64 a.R, .string a.Name]) (.agg #[.int .i64 b.Kind, .int .i64 b.A.X, .int .i64 b.A.Y, .int .i64 b.B.X, .int .i64 b.B.Y, .int .i64 b.R, .string b.Name]); binOp .eql 44 (.agg #[.int .i64 a.Kind, .int .i64 a.A.X, .int .i64 a.A.Y, .int .i64 a.B.X, .int .i64 a.B.Y, .int .i64 a.R, .string a.Name]) (.agg #[.int .i64 b.Kind, .int .i64 b.A.X, .int .i64 b.A.Y, .int .i64 b.B.X, .int .i64 b.B.Y, .int .i64 b.R, .string b.Name]) : Sem Value).run Tryz.prog w = .ok (.bool (decide (a = b))) w := by
  have g : (eqGuard .eql 44 x y (.agg #[.int .i64 a.Kind, .int .i64 a.A.X, .int .i64 a.A.Y, .int .i64 a.B.X, .int .i64 a.B.Y, .int .i64 a.R, .string a.Name]) (.agg #[.int .i64 b.Kind, .int .i64 b.A.X, .int .i64 b.A.Y, .int .i64 b.B.X, .int .i64 b.B.Y, .int .i64 b.R, .string b.Name])).run Tryz.prog w = .ok () w := by simp [eqGuard, eqg_Shape_]
  rw [Sem.run_bind, g, Result.andThen_ok]
  obtain ⟨x0, ⟨x1, x2⟩, ⟨x3, x4⟩, x5, x6⟩ := a
  obtain ⟨y0, ⟨y1, y2⟩, ⟨y3, y4⟩, y5, y6⟩ := b
  simp [go_sem]
  (repeat' split) <;> simp_all [bytes_inj]
theorem ps_eql_Shape_ {N : Nat} {t : Nat → AV} {h : Heap} {d : Tmp} {ty : TypeId} {pos : String} {aft : Array Edge} {g : Option (Nat × Bool)} {x y : Operand} {a b : Shape_} (hx : toV (evA N ⟨t, h⟩ x) = some (.agg #[.int .i64 a.Kind, .int .i64 a.A.X, .int .i64 a.A.Y, .int .i64 a.B.X, .int .i64 a.B.Y, .int .i64 a.R, .string a.Name])) (hy : toV (evA N ⟨t, h⟩ y) = some (.agg #[.int .i64 b.Kind, .int .i64 b.A.X, .int .i64 b.A.Y, .int .i64 b.B.X, .int .i64 b.B.Y, .int .i64 b.R, .string b.Name])) : Pure1 Tryz.prog N ⟨some d, .binOp .eql 44 x y 44, ty, pos, aft, g⟩ ⟨t, h⟩ (.d (.v (.bool (decide (a = b))))) := pu_bin hx hy (fun w => run_eql_Shape_ a b w)
theorem run_neq_Shape_ {x y : Operand} (a b : Shape_) (w : World) : (do eqGuard .neq 44 x y (.agg #[.int .i64 a.Kind, .int .i64 a.A.X, .int .i64 a.A.Y, .int .i64 a.B.X, .int .i64 a.B.Y, .int .i64 a.R, .string a.Name]) (.agg #[.int .i64 b.Kind, .int .i64 b.A.X, .int .i64 b.A.Y, .int .i64 b.B.X, .int .i64 b.B.Y, .int .i64 b.R, .string b.Name]); binOp .neq 44 (.agg #[.int .i64 a.Kind, .int .i64 a.A.X, .int .i64 a.A.Y, .int .i64 a.B.X, .int .i64 a.B.Y, .int .i64 a.R, .string a.Name]) (.agg #[.int .i64 b.Kind, .int .i64 b.A.X, .int .i64 b.A.Y, .int .i64 b.B.X, .int .i64 b.B.Y, .int .i64 b.R, .string b.Name]) : Sem Value).run Tryz.prog w = .ok (.bool (decide (a ≠ b))) w := by
  have g : (eqGuard .neq 44 x y (.agg #[.int .i64 a.Kind, .int .i64 a.A.X, .int .i64 a.A.Y, .int .i64 a.B.X, .int .i64 a.B.Y, .int .i64 a.R, .string a.Name]) (.agg #[.int .i64 b.Kind, .int .i64 b.A.X, .int .i64 b.A.Y, .int .i64 b.B.X, .int .i64 b.B.Y, .int .i64 b.R, .string b.Name])).run Tryz.prog w = .ok () w := by simp [eqGuard, eqg_Shape_]
  rw [Sem.run_bind, g, Result.andThen_ok]
  obtain ⟨x0, ⟨x1, x2⟩, ⟨x3, x4⟩, x5, x6⟩ := a
  obtain ⟨y0, ⟨y1, y2⟩, ⟨y3, y4⟩, y5, y6⟩ := b
  simp [go_sem]
  (repeat' split) <;> simp_all [bytes_inj]
theorem ps_neq_Shape_ {N : Nat} {t : Nat → AV} {h : Heap} {d : Tmp} {ty : TypeId} {pos : String} {aft : Array Edge} {g : Option (Nat × Bool)} {x y : Operand} {a b : Shape_} (hx : toV (evA N ⟨t, h⟩ x) = some (.agg #[.int .i64 a.Kind, .int .i64 a.A.X, .int .i64 a.A.Y, .int .i64 a.B.X, .int .i64 a.B.Y, .int .i64 a.R, .string a.Name])) (hy : toV (evA N ⟨t, h⟩ y) = some (.agg #[.int .i64 b.Kind, .int .i64 b.A.X, .int .i64 b.A.Y, .int .i64 b.B.X, .int .i64 b.B.Y, .int .i64 b.R, .string b.Name])) : Pure1 Tryz.prog N ⟨some d, .binOp .neq 44 x y 44, ty, pos, aft, g⟩ ⟨t, h⟩ (.d (.v (.bool (decide (a ≠ b))))) := pu_bin hx hy (fun w => run_neq_Shape_ a b w)
theorem eqg_Spot_ : Tryz.prog.eqGuardType Tryz.prog.depth 42 = false := by kernel_rfl
theorem run_eql_Spot_ {x y : Operand} (a b : Spot_) (w : World) : (do eqGuard .eql 42 x y (.agg #[.int .i64 a.X, .int .i64 a.Y]) (.agg #[.int .i64 b.X, .int .i64 b.Y]); binOp .eql 42 (.agg #[.int .i64 a.X, .int .i64 a.Y]) (.agg #[.int .i64 b.X, .int .i64 b.Y]) : Sem Value).run Tryz.prog w = .ok (.bool (decide (a = b))) w := by
  have g : (eqGuard .eql 42 x y (.agg #[.int .i64 a.X, .int .i64 a.Y]) (.agg #[.int .i64 b.X, .int .i64 b.Y])).run Tryz.prog w = .ok () w := by simp [eqGuard, eqg_Spot_]
  rw [Sem.run_bind, g, Result.andThen_ok]
  obtain ⟨x0, x1⟩ := a
  obtain ⟨y0, y1⟩ := b
  simp [go_sem]
  (repeat' split) <;> simp_all [bytes_inj]
theorem ps_eql_Spot_ {N : Nat} {t : Nat → AV} {h : Heap} {d : Tmp} {ty : TypeId} {pos : String} {aft : Array Edge} {g : Option (Nat × Bool)} {x y : Operand} {a b : Spot_} (hx : toV (evA N ⟨t, h⟩ x) = some (.agg #[.int .i64 a.X, .int .i64 a.Y])) (hy : toV (evA N ⟨t, h⟩ y) = some (.agg #[.int .i64 b.X, .int .i64 b.Y])) : Pure1 Tryz.prog N ⟨some d, .binOp .eql 42 x y 42, ty, pos, aft, g⟩ ⟨t, h⟩ (.d (.v (.bool (decide (a = b))))) := pu_bin hx hy (fun w => run_eql_Spot_ a b w)
theorem l_f6big_c {p0 : List Int} {r : Bool} (h0 : l_f6big_m p0 = some r) : FnC Tryz.prog 10 [] [.d (.sl (List.map cU8 p0))] [] (.d (.v (.bool r))) := by
  refine fnc_intro (T := tt) (N := 6) tok Tryz.func10 rfl rfl (by kernel_rfl) rfl rfl ?_
  unfold l_f6big_m at h0
  refine sq [0] ?_
  refine pa ?_
  refine nx ?_
  refine sq [0,1,2,3] ?_
  refine pm ?_
  refine rp rfl w0 rfl (pu_len_map tok rfl rfl rfl) ?_
  refine rp rfl w0 rfl (pu_gtr rfl rfl) ?_
  refine pa ?_
  refine nx ?_
  refine aw_ret ?_
  cases h0
  exact ret0_ (rs := [.tmp 2]) rfl

theorem s_l00From_c {p0 : List Int} {r : L00Src_} (h0 : s_l00From_m p0 = some r) : FnC Tryz.prog 31 [] [.d (.sl (List.map cU8 p0))] [.live [⟨84, 3, .av [[.d (.sl (List.map cU8 r.code)), .d (.v (.int .i64 r.at_)), .d (.v (.int .u64 r.seed))]]⟩]] (.ptr 0 0 1 0 0) := by
  refine fnc_intro (T := tt) (N := 6) tok Tryz.func31 rfl rfl (by kernel_rfl) rfl rfl ?_
  unfold s_l00From_m at h0
  refine sq [0] ?_
  refine pa ?_
  refine nx ?_
  refine sq [0,1,2,3] ?_
  refine pm ?_
  refine rp rfl w0 rfl (pbl (C0 := [.d (.v (.slice none 0 0)), .d (.v (.int .i64 0)), .d (.v (.int .u64 0))]) tok rfl rfl rfl) ?_
  refine rs rfl w0 rfl (st_box 3 (cs := _ :: _) rfl rfl rfl) ?_
  refine rp rfl w0 rfl (pu_assign (r := .ptr _ _ _ _ _) rfl) ?_
  refine nx ?_
  refine aw_ret ?_
  cases h0
  exact retK_ (rs := [.tmp 2]) [3] rfl

theorem l00Src_next_b_c {p0 : L00Src_} {r : Int × L00Src_} (h0 : l00Src_next_b_m p0 = some r) : FnC Tryz.prog 67 [.live [⟨84, 3, .av [[.d (.sl (List.map cU8 p0.code)), .d (.v (.int .i64 p0.at_)), .d (.v (.int .u64 p0.seed))]]⟩]] [.ptr 0 0 1 0 0] [.live [⟨84, 3, .av [[.d (.sl (List.map cU8 r.2.code)), .d (.v (.int .i64 r.2.at_)), .d (.v (.int .u64 r.2.seed))]]⟩]] (.d (.v (.int .i64 r.1))) := by
  refine fnc_intro (T := tt) (N := 62) tok Tryz.func67 rfl rfl (by kernel_rfl) rfl rfl ?_
  unfold l00Src_next_b_m at h0
  refine sq [0] ?_
  refine pa ?_
  refine nx ?_
  refine sq [0] ?_
  refine pa ?_
  refine nx ?_
  obtain ⟨v2, h1, h0⟩ := bnd h0
  refine aw_cut ⟨updA (updA ((fun _ => .dead)) 0 (.ptr 0 0 1 0 0)) 3 (.d (.v (.int .i64 v2))), lks [.live [⟨84, 3, .av [[.d (.sl (List.map cU8 p0.code)), .d (.v (.int .i64 p0.at_)), .d (.v (.int .u64 p0.seed))]]⟩], .no, .no]⟩ ?_ ?_
  refine aw_seq ?_
  refine aw_region_draw (is := [0, 1, 2, 3, 4, 5, 6, 7, 8, 9]) [0, 1, 3, 7, 0, 16, 48, 112, 240, 511] follows (by kernel_rfl) ?_
  refine rt_p rfl w0 rfl (pu_move (r := .ptr _ _ _ _ _) rfl) ?_
  refine rt_lk rfl w0 rfl (bx_nil rfl rfl) rfl rfl rfl ?_
  refine rt_lk rfl w0 rfl (bx_fa tok rfl rfl rfl rfl rfl rfl rfl) rfl rfl rfl ?_
  refine rt_lk rfl w0 rfl (bx_ld1 tok rfl rfl rfl rfl rfl) rfl rfl rfl ?_
  refine rt_p rfl w0 rfl (pu_move (r := .ptr _ _ _ _ _) rfl) ?_
  refine rt_lk rfl w0 rfl (bx_nil rfl rfl) rfl rfl rfl ?_
  refine rt_lk rfl w0 rfl (bx_fa tok rfl rfl rfl rfl rfl rfl rfl) rfl rfl rfl ?_
  refine rt_lk rfl w0 rfl (bx_ld1 tok rfl rfl rfl rfl rfl) rfl rfl rfl ?_
  refine rt_p rfl w0 rfl (pu_len_map tok rfl rfl rfl) ?_
  refine rt_p rfl w0 rfl (pu_lss rfl rfl) ?_
  refine rt_nil ?_
  refine ⟨by kernel_rfl, ?_⟩
  refine then_n ?_
  refine aw_if h1 rfl (fun hc h1 => ?_) (fun hc h1 => ?_)
  refine aw_region_draw (is := [0, 1, 2, 3, 4, 5, 6, 7, 8, 9, 10, 11]) [0, 1, 3, 7, 0, 16, 48, 112, 255, 511, 1023, 2047] follows (by kernel_rfl) ?_
  refine rt_p rfl w0 rfl (pu_move (r := .ptr _ _ _ _ _) rfl) ?_
  refine rt_lk rfl w0 rfl (bx_nil rfl rfl) rfl rfl rfl ?_
  refine rt_lk rfl w0 rfl (bx_fa tok rfl rfl rfl rfl rfl rfl rfl) rfl rfl rfl ?_
  refine rt_lk rfl w0 rfl (bx_ld1 tok rfl rfl rfl rfl rfl) rfl rfl rfl ?_
  refine rt_p rfl w0 rfl (pu_move (r := .ptr _ _ _ _ _) rfl) ?_
  refine rt_lk rfl w0 rfl (bx_nil rfl rfl) rfl rfl rfl ?_
  refine rt_lk rfl w0 rfl (bx_fa tok rfl rfl rfl rfl rfl rfl rfl) rfl rfl rfl ?_
  refine rt_lk rfl w0 rfl (bx_ld1 tok rfl rfl rfl rfl rfl) rfl rfl rfl ?_
  obtain ⟨v1, hv1, h1⟩ := bnd h1
  refine rt_p rfl w0 rfl (sl_ix tok hv1 rfl rfl rfl rfl rfl rfl) ?_
  refine tlr tok ?_
  refine rt_p rfl w0 rfl (pw_cv tok rfl rfl rfl rfl rfl) ?_
  refine tpa ?_
  refine rt_nil ?_
  refine ⟨by kernel_rfl, ?_⟩
  refine then_n ?_
  cases h1
  exact wk [0, 1, 2]
  refine sk ?_
  cases h1
  exact wk [0, 1, 2]
  refine sq [0,1,2,3,4,5,6,7] ?_
  refine rp rfl w0 rfl (pu_move (r := .ptr _ _ _ _ _) rfl) ?_
  refine rl rfl w0 rfl (bx_nil rfl rfl) ?_
  refine fa tok ?_
  refine ld tok ?_
  refine rp rfl w0 rfl (pw_add rfl rfl) ?_
  refine rl rfl w0 rfl (bx_nil rfl rfl) ?_
  refine fa tok ?_
  refine rw0 rfl w0 (bx_st (cs := [.d _]) tok rfl rfl rfl rfl rfl rfl rfl) ?_
  refine nx ?_
  refine sq [0,1,2,3,4,5,6,7,8,9,10,11,12] ?_
  refine rp rfl w0 rfl (pu_move (r := .ptr _ _ _ _ _) rfl) ?_
  refine rp rfl w0 rfl (pu_move (r := .ptr _ _ _ _ _) rfl) ?_
  refine rl rfl w0 rfl (bx_nil rfl rfl) ?_
  refine fa tok ?_
  refine ld tok ?_
  refine rp rfl w0 rfl (pu_mulw rfl rfl) ?_
  refine pm ?_
  refine rp rfl w0 rfl (pu_ii tok rfl rfl rfl rfl rfl) ?_
  refine rp rfl w0 rfl (pu_addw rfl rfl) ?_
  refine rp rfl w0 rfl (pu_addw rfl rfl) ?_
  refine rl rfl w0 rfl (bx_nil rfl rfl) ?_
  refine fa tok ?_
  refine rw0 rfl w0 (bx_st (cs := [.d _]) tok rfl rfl rfl rfl rfl rfl rfl) ?_
  refine nx ?_
  refine aw_seq ?_
  refine aw_seq ?_
  refine aw_region_draw (is := [0, 1, 2, 3, 4, 5, 6, 7, 8, 9]) [0, 1, 3, 7, 0, 16, 48, 112, 240, 511] follows (by kernel_rfl) ?_
  refine rt_p rfl w0 rfl (pu_move (r := .ptr _ _ _ _ _) rfl) ?_
  refine rt_lk rfl w0 rfl (bx_nil rfl rfl) rfl rfl rfl ?_
  refine rt_lk rfl w0 rfl (bx_fa tok rfl rfl rfl rfl rfl rfl rfl) rfl rfl rfl ?_
  refine rt_lk rfl w0 rfl (bx_ld1 tok rfl rfl rfl rfl rfl) rfl rfl rfl ?_
  refine rt_p rfl w0 rfl (pu_move (r := .ptr _ _ _ _ _) rfl) ?_
  refine rt_lk rfl w0 rfl (bx_nil rfl rfl) rfl rfl rfl ?_
  refine rt_lk rfl w0 rfl (bx_fa tok rfl rfl rfl rfl rfl rfl rfl) rfl rfl rfl ?_
  refine rt_lk rfl w0 rfl (bx_ld1 tok rfl rfl rfl rfl rfl) rfl rfl rfl ?_
  refine rt_p rfl w0 rfl (pu_len_map tok rfl rfl rfl) ?_
  refine rt_p rfl w0 rfl (pu_leq rfl rfl) ?_
  refine rt_nil ?_
  refine ⟨by kernel_rfl, ?_⟩
  refine then_n ?_
  refine aw_if h0 rfl (fun hc h0 => ?_) (fun hc h0 => ?_)
  refine sq [0,1] ?_
  refine pm ?_
  refine pa ?_
  refine nx ?_
  refine aw_ret ?_
  refine then_r ?_
  cases h0
  exact retP_ (rs := [.tmp 2]) 1 rfl rfl
  refine sk ?_
  refine sq [0,1,2,3,4,5,6,7] ?_
  refine rp rfl w0 rfl (pu_move (r := .ptr _ _ _ _ _) rfl) ?_
  refine rl rfl w0 rfl (bx_nil rfl rfl) ?_
  refine fa tok ?_
  refine ld tok ?_
  refine rp rfl w0 rfl (pu_shr rfl rfl (by decide)) ?_
  refine rp rfl w0 rfl (pu_and rfl rfl) ?_
  refine rp rfl w0 rfl (pw_cv tok rfl rfl rfl rfl rfl) ?_
  refine pa ?_
  refine nx ?_
  refine aw_ret ?_
  cases h0
  exact retP_ (rs := [.tmp 2]) 1 rfl rfl

theorem l00Src_pick_b_c {p0 : L00Src_} {p1 : Int} {r : Int × L00Src_} (h0 : l00Src_pick_b_m p0 p1 = some r) : FnC Tryz.prog 41 [.live [⟨84, 3, .av [[.d (.sl (List.map cU8 p0.code)), .d (.v (.int .i64 p0.at_)), .d (.v (.int .u64 p0.seed))]]⟩]] [.ptr 0 0 1 0 0, .d (.v (.int .i64 p1))] [.live [⟨84, 3, .av [[.d (.sl (List.map cU8 r.2.code)), .d (.v (.int .i64 r.2.at_)), .d (.v (.int .u64 r.2.seed))]]⟩]] (.d (.v (.int .i64 r.1))) := by
  refine fnc_intro (T := tt) (N := 20) tok Tryz.func41 rfl rfl (by kernel_rfl) rfl rfl ?_
  unfold l00Src_pick_b_m at h0
  refine sq [0] ?_
  refine pa ?_
  refine nx ?_
  refine aw_seq ?_
  refine sq [0,1] ?_
  refine pm ?_
  refine rp rfl w0 rfl (pu_leq rfl rfl) ?_
  refine nx ?_
  refine aw_if h0 rfl (fun hc h0 => ?_) (fun hc h0 => ?_)
  refine sq [0] ?_
  refine pa ?_
  refine nx ?_
  refine aw_ret ?_
  refine then_r ?_
  cases h0
  exact retP_ (rs := [.tmp 4]) 1 rfl rfl
  refine sk ?_
  refine sq [0,1,2] ?_
  refine rp rfl w0 rfl (pu_move (r := .ptr _ _ _ _ _) rfl) ?_
  obtain ⟨v1, hv1, h0⟩ := bnd h0
  refine rw1 rfl w0 rfl (c_callP [0] 300 (l00Src_next_b_c hv1) rfl rfl) ?_
  refine pa ?_
  refine nx ?_
  obtain ⟨v3, h1, h0⟩ := bnd h0
  refine aw_cut ⟨updA (updA ((fun _ => .dead)) 1 (.d (.v (.int .i64 p1)))) 5 (.d (.v (.int .i64 v3.1))), lks [.live [⟨84, 3, .av [[.d (.sl (List.map cU8 v3.2.code)), .d (.v (.int .i64 v3.2.at_)), .d (.v (.int .u64 v3.2.seed))]]⟩], .no, .no]⟩ ?_ ?_
  refine sq [0,1] ?_
  refine pm ?_
  refine rp rfl w0 rfl (pu_gtr rfl rfl) ?_
  refine nx ?_
  refine aw_if h1 rfl (fun hc h1 => ?_) (fun hc h1 => ?_)
  refine sr [0,1,2,3,4,5] ?_
  refine pm ?_
  refine rp rfl w0 rfl (pw_mul rfl rfl) ?_
  refine rp rfl w0 rfl (pu_move (r := .ptr _ _ _ _ _) rfl) ?_
  obtain ⟨v2, hv2, h1⟩ := bnd h1
  refine rw1 rfl w0 rfl (c_callP [0] 300 (l00Src_next_b_c hv2) rfl rfl) ?_
  refine rp rfl w0 rfl (pw_add rfl rfl) ?_
  refine pa ?_
  refine nx ?_
  cases h1
  exact wk [0, 1, 2]
  refine sk ?_
  cases h1
  exact wk [0, 1, 2]
  refine sq [0,1,2,3] ?_
  refine pm ?_
  refine pm ?_
  obtain ⟨hq4, h0⟩ := chk_e h0
  refine rp rfl w0 rfl (pu_remw rfl rfl hq4) ?_
  refine pa ?_
  refine nx ?_
  refine aw_ret ?_
  cases h0
  exact retP_ (rs := [.tmp 4]) 1 rfl rfl

theorem l00Src_one_b_c {p0 : L00Src_} {p1 : Int} {r : Bool × L00Src_} (h0 : l00Src_one_b_m p0 p1 = some r) : FnC Tryz.prog 40 [.live [⟨84, 3, .av [[.d (.sl (List.map cU8 p0.code)), .d (.v (.int .i64 p0.at_)), .d (.v (.int .u64 p0.seed))]]⟩]] [.ptr 0 0 1 0 0, .d (.v (.int .i64 p1))] [.live [⟨84, 3, .av [[.d (.sl (List.map cU8 r.2.code)), .d (.v (.int .i64 r.2.at_)), .d (.v (.int .u64 r.2.seed))]]⟩]] (.d (.v (.bool r.1))) := by
  refine fnc_intro (T := tt) (N := 9) tok Tryz.func40 rfl rfl (by kernel_rfl) rfl rfl ?_
  unfold l00Src_one_b_m at h0
  refine sq [0] ?_
  refine pa ?_
  refine nx ?_
  refine sq [0,1,2,3,4] ?_
  refine rp rfl w0 rfl (pu_move (r := .ptr _ _ _ _ _) rfl) ?_
  refine pm ?_
  obtain ⟨v1, hv1, h0⟩ := bnd h0
  refine rw1 rfl w0 rfl (c_callP [0] 300 (l00Src_pick_b_c hv1) rfl rfl) ?_
  refine rp rfl w0 rfl (pu_eql rfl rfl) ?_
  refine pa ?_
  refine nx ?_
  refine aw_ret ?_
  cases h0
  exact retP_ (rs := [.tmp 4]) 1 rfl rfl

theorem l00Src_among_b_c {p0 : L00Src_} {p1 : List Int} {r : Int × L00Src_} (h0 : l00Src_among_b_m p0 p1 = some r) : FnC Tryz.prog 58 [.live [⟨84, 3, .av [[.d (.sl (List.map cU8 p0.code)), .d (.v (.int .i64 p0.at_)), .d (.v (.int .u64 p0.seed))]]⟩]] [.ptr 0 0 1 0 0, .d (.sl (List.map cI p1))] [.live [⟨84, 3, .av [[.d (.sl (List.map cU8 r.2.code)), .d (.v (.int .i64 r.2.at_)), .d (.v (.int .u64 r.2.seed))]]⟩]] (.d (.v (.int .i64 r.1))) := by
  refine fnc_intro (T := tt) (N := 12) tok Tryz.func58 rfl rfl (by kernel_rfl) rfl rfl ?_
  unfold l00Src_among_b_m at h0
  refine sq [0] ?_
  refine pa ?_
  refine nx ?_
  refine sq [0,1,2,3,4,5,6,7] ?_
  refine pm ?_
  refine rp rfl w0 rfl (pu_move (r := .ptr _ _ _ _ _) rfl) ?_
  refine pm ?_
  refine rp rfl w0 rfl (pu_len_map tok rfl rfl rfl) ?_
  obtain ⟨v1, hv1, h0⟩ := bnd h0
  refine rw1 rfl w0 rfl (c_callP [0] 300 (l00Src_pick_b_c hv1) rfl rfl) ?_
  obtain ⟨v2, hv2, h0⟩ := bnd h0
  refine rp rfl w0 rfl (sl_ix tok hv2 rfl rfl rfl rfl rfl rfl) ?_
  refine lr tok ?_
  refine pa ?_
  refine nx ?_
  refine aw_ret ?_
  cases h0
  exact retP_ (rs := [.tmp 4]) 1 rfl rfl

theorem s_l25DrawSpot_b_c {p0 : L00Src_} {r : Spot_ × L00Src_} (h0 : s_l25DrawSpot_b_m p0 = some r) : FnC Tryz.prog 68 [.live [⟨84, 3, .av [[.d (.sl (List.map cU8 p0.code)), .d (.v (.int .i64 p0.at_)), .d (.v (.int .u64 p0.seed))]]⟩]] [.ptr 0 0 1 0 0] [.live [⟨84, 3, .av [[.d (.sl (List.map cU8 r.2.code)), .d (.v (.int .i64 r.2.at_)), .d (.v (.int .u64 r.2.seed))]]⟩]] (.agg [.d (.v (.int .i64 r.1.X)), .d (.v (.int .i64 r.1.Y))]) := by
  refine fnc_intro (T := tt) (N := 19) tok Tryz.func68 rfl rfl (by kernel_rfl) rfl rfl ?_
  unfold s_l25DrawSpot_b_m at h0
  refine sq [0] ?_
  refine rs rfl w0 rfl (st_alloc 3 (cs := [.d (.v (.int .i64 0)), .d (.v (.int .i64 0))]) tok rfl rfl rfl) ?_
  refine nx ?_
  refine sq [0,1,2,3] ?_
  refine rp rfl w0 rfl (pu_move (r := .ptr _ _ _ _ _) rfl) ?_
  obtain ⟨v1, hv1, h0⟩ := bnd h0
  refine rw1 rfl w0 rfl (c_callP [0] 300 (l00Src_pick_b_c hv1) rfl rfl) ?_
  refine rp rfl w0 rfl (pw_sub rfl rfl) ?_
  refine pa ?_
  refine nx ?_
  refine sq [0,1,2,3] ?_
  refine rp rfl w0 rfl (pu_move (r := .ptr _ _ _ _ _) rfl) ?_
  obtain ⟨v2, hv2, h0⟩ := bnd h0
  refine rw1 rfl w0 rfl (c_callP [0] 300 (l00Src_pick_b_c hv2) rfl rfl) ?_
  refine rp rfl w0 rfl (pw_sub rfl rfl) ?_
  refine pa ?_
  refine nx ?_
  obtain ⟨v5, h1, h0⟩ := bnd h0
  refine aw_cut ⟨updA (updA (updA ((fun _ => .dead)) 2 (.ptr 3 0 1 0 0)) 3 (.d (.v (.int .i64 v5.1)))) 4 (.d (.v (.int .i64 (w64 (v2.1 - 1000))))), lks [.live [⟨84, 3, .av [[.d (.sl (List.map cU8 v5.2.code)), .d (.v (.int .i64 v5.2.at_)), .d (.v (.int .u64 v5.2.seed))]]⟩], .no, .no, .live [⟨42, 2, .av [[.d (.v (.int .i64 0)), .d (.v (.int .i64 0))]]⟩]]⟩ ?_ ?_
  refine sq [0,1] ?_
  refine rp rfl w0 rfl (pu_move (r := .ptr _ _ _ _ _) rfl) ?_
  obtain ⟨v3, hv3, h1⟩ := bnd h1
  refine rw1 rfl w0 rfl (c_callP [0] 300 (l00Src_one_b_c hv3) rfl rfl) ?_
  refine nx ?_
  refine aw_ifB h1 rfl (fun hc h1 => ?_) (fun hc h1 => ?_)
  refine sr [0,1,2,3] ?_
  refine rp rfl w0 rfl (pu_move (r := .ptr _ _ _ _ _) rfl) ?_
  refine rs rfl w0 rfl (bs_val tok cI [-100000, 100000] rfl rfl rfl (by repeat (first | exact Els.nil _ | apply Els.cons (cs := [.d _]) rfl rfl rfl | apply Els.cons (cs := _ :: _) rfl rfl rfl)) rfl rfl rfl (by repeat (first | exact AllDD.nil | (apply AllDD.cons; (repeat (first | exact AllD.nil | apply AllD.cons))))) rfl) ?_
  obtain ⟨v4, hv4, h1⟩ := bnd h1
  refine rw1 rfl w0 rfl (c_callP [0] 300 (l00Src_among_b_c hv4) rfl rfl) ?_
  refine pa ?_
  refine nx ?_
  cases h1
  exact wk [0, 1, 2, 3]
  refine sk ?_
  cases h1
  exact wk [0, 1, 2, 3]
  refine sq [0,1,2,3] ?_
  refine pm ?_
  refine pm ?_
  refine rp rfl w0 rfl (pbl (C0 := [.d (.v (.int .i64 0)), .d (.v (.int .i64 0))]) tok rfl rfl rfl) ?_
  refine rw0 rfl w0 (bx_st (cs := _ :: _) tok rfl rfl rfl rfl rfl rfl rfl) ?_
  refine nx ?_
  refine aw_ret ?_
  cases h0
  exact retP_ (rs := [.cell 2 42]) 1 rfl rfl

theorem l00Src_text_b_c {p0 : L00Src_} {p1 : List ByteArray} {r : ByteArray × L00Src_} (h0 : l00Src_text_b_m p0 p1 = some r) : FnC Tryz.prog 59 [.live [⟨84, 3, .av [[.d (.sl (List.map cU8 p0.code)), .d (.v (.int .i64 p0.at_)), .d (.v (.int .u64 p0.seed))]]⟩]] [.ptr 0 0 1 0 0, .d (.sl (List.map cS p1))] [.live [⟨84, 3, .av [[.d (.sl (List.map cU8 r.2.code)), .d (.v (.int .i64 r.2.at_)), .d (.v (.int .u64 r.2.seed))]]⟩]] (.d (.v (.string r.1))) := by
  refine fnc_intro (T := tt) (N := 12) tok Tryz.func59 rfl rfl (by kernel_rfl) rfl rfl ?_
  unfold l00Src_text_b_m at h0
  refine sq [0] ?_
  refine pa ?_
  refine nx ?_
  refine sq [0,1,2,3,4,5,6,7] ?_
  refine pm ?_
  refine rp rfl w0 rfl (pu_move (r := .ptr _ _ _ _ _) rfl) ?_
  refine pm ?_
  refine rp rfl w0 rfl (pu_len_map tok rfl rfl rfl) ?_
  obtain ⟨v1, hv1, h0⟩ := bnd h0
  refine rw1 rfl w0 rfl (c_callP [0] 300 (l00Src_pick_b_c hv1) rfl rfl) ?_
  obtain ⟨v2, hv2, h0⟩ := bnd h0
  refine rp rfl w0 rfl (sl_ix tok hv2 rfl rfl rfl rfl rfl rfl) ?_
  refine lr tok ?_
  refine pa ?_
  refine nx ?_
  refine aw_ret ?_
  cases h0
  exact retP_ (rs := [.tmp 4]) 1 rfl rfl

theorem s_l25Draw_b_c {p0 : L00Src_} {r : Drawing_ × L00Src_} (h0 : s_l25Draw_b_m p0 = some r) : FnC Tryz.prog 43 [.live [⟨84, 3, .av [[.d (.sl (List.map cU8 p0.code)), .d (.v (.int .i64 p0.at_)), .d (.v (.int .u64 p0.seed))]]⟩]] [.ptr 0 0 1 0 0] [.live [⟨84, 3, .av [[.d (.sl (List.map cU8 r.2.code)), .d (.v (.int .i64 r.2.at_)), .d (.v (.int .u64 r.2.seed))]]⟩], .live [⟨44, 7, .data (List.map cShape_ r.1.Shapes)⟩]] (.agg [.own 1 0 r.1.Shapes.length]) := by
  refine fnc_intro (T := tt) (N := 51) tok Tryz.func43 rfl rfl (by kernel_rfl) rfl rfl ?_
  unfold s_l25Draw_b_m at h0
  refine sq [0] ?_
  refine rs rfl w0 rfl (st_alloc 3 (cs := [.d (.v (.slice none 0 0))]) tok rfl rfl rfl) ?_
  refine nx ?_
  refine sq [0,1,2] ?_
  refine rp rfl w0 rfl (pbl (C0 := [.d (.v (.slice none 0 0))]) tok rfl rfl rfl) ?_
  refine rs rfl w0 rfl (st_alloc 4 (cs := [.d (.v (.slice none 0 0))]) tok rfl rfl rfl) ?_
  refine rw0 rfl w0 (bx_st (cs := _ :: _) tok rfl rfl rfl rfl rfl rfl rfl) ?_
  refine nx ?_
  obtain ⟨v22, h1, h0⟩ := bnd h0
  refine aw_cut ⟨updA (updA ((fun _ => .dead)) 2 (.ptr 3 0 1 0 0)) 3 (.ptr 4 0 1 0 0), lks [.live [⟨84, 3, .av [[.d (.sl (List.map cU8 v22.1.code)), .d (.v (.int .i64 v22.1.at_)), .d (.v (.int .u64 v22.1.seed))]]⟩], .no, .no, .live [⟨24, 1, .av [[.d (.v (.slice none 0 0))]]⟩], .live [⟨24, 1, .av [[.own 5 0 (v22.2).length]]⟩], .live [⟨44, 7, .data (List.map cShape_ v22.2)⟩]]⟩ ?_ ?_
  refine sq [0,1,2] ?_
  refine rp rfl w0 rfl (pu_move (r := .ptr _ _ _ _ _) rfl) ?_
  obtain ⟨v1, hv1, h1⟩ := bnd h1
  refine rw1 rfl w0 rfl (c_callP [0] 300 (l00Src_pick_b_c hv1) rfl rfl) ?_
  refine pa ?_
  refine nx ?_
  refine aw_block ?_
  refine aw_loopM (fun s12 => ⟨updA (updA (updA (updA ((fun _ => .dead)) 0 (.ptr 0 0 1 0 0)) 2 (.ptr 3 0 1 0 0)) 3 (.ptr 4 0 1 0 0)) 4 (.d (.v (.int .i64 s12.1))), lks [.live [⟨84, 3, .av [[.d (.sl (List.map cU8 s12.2.1.code)), .d (.v (.int .i64 s12.2.1.at_)), .d (.v (.int .u64 s12.2.1.seed))]]⟩], .no, .no, .live [⟨24, 1, .av [[.d (.v (.slice none 0 0))]]⟩], .live [⟨24, 1, .av [[.own 5 0 (s12.2.2).length]]⟩], .live [⟨44, 7, .data (List.map cShape_ s12.2.2)⟩]]⟩) h1 ?_ (fun s12 y h2 => ?_)
  refine Weak.trans_ (weak_adopt 5 rfl 44 7 (kb := 4) (j := 0) rfl rfl (by repeat (first | exact Spl.z _ | apply Spl.t | apply Spl.d))) ?_
  exact wk [0, 1, 2, 3, 4, 5]
  refine aw_seq ?_
  refine sq [0,1] ?_
  refine pm ?_
  refine rp rfl w0 rfl (pu_gtr rfl rfl) ?_
  refine nx ?_
  refine aw_if h2 rfl (fun hc h2 => ?_) (fun hc h2 => ?_)
  refine sk ?_
  obtain ⟨v21, h3, h2⟩ := bnd h2
  refine aw_cut ⟨updA (updA (updA (updA ((fun _ => .dead)) 0 (.ptr 0 0 1 0 0)) 2 (.ptr 3 0 1 0 0)) 3 (.ptr 4 0 1 0 0)) 4 (.d (.v (.int .i64 s12.1))), lks [.live [⟨84, 3, .av [[.d (.sl (List.map cU8 v21.1.code)), .d (.v (.int .i64 v21.1.at_)), .d (.v (.int .u64 v21.1.seed))]]⟩], .no, .no, .live [⟨24, 1, .av [[.d (.v (.slice none 0 0))]]⟩], .live [⟨24, 1, .av [[.own 5 0 (v21.2).length]]⟩], .live [⟨44, 7, .data (List.map cShape_ v21.2)⟩]]⟩ ?_ ?_
  refine aw_block ?_
  refine sq [0,1,2,3] ?_
  refine rp rfl w0 rfl (pu_move (r := .ptr _ _ _ _ _) rfl) ?_
  obtain ⟨v13, hv13, h3⟩ := bnd h3
  refine rw1 rfl w0 rfl (c_callP [0] 300 (s_l25DrawSpot_b_c hv13) rfl rfl) ?_
  refine rs rfl w0 rfl (st_alloc 6 (cs := [.d (.v (.int .i64 0)), .d (.v (.int .i64 0))]) tok rfl rfl rfl) ?_
  refine rw0 rfl w0 (bx_st (cs := _ :: _) tok rfl rfl rfl rfl rfl rfl rfl) ?_
  refine nx ?_
  refine sq [0,1] ?_
  refine rp rfl w0 rfl (pu_move (r := .ptr _ _ _ _ _) rfl) ?_
  obtain ⟨v14, hv14, h3⟩ := bnd h3
  refine rw1 rfl w0 rfl (c_callP [0] 300 (l00Src_pick_b_c hv14) rfl rfl) ?_
  refine nx ?_
  refine aw_block ?_
  refine sq [0,1] ?_
  refine rp rfl w0 rfl (pu_eql rfl rfl) ?_
  refine pa ?_
  refine nx ?_
  refine aw_if h3 rfl (fun hc h3 => ?_) (fun hc h3 => ?_)
  refine aw_region_draw (is := [0, 1, 2, 3, 4, 5, 6, 7, 8, 9]) [0, 1, 0, 0, 8, 28, 60, 127, 255, 511] follows (by kernel_rfl) ?_
  refine rt_lk rfl w0 rfl (bx_fa tok rfl rfl rfl rfl rfl rfl rfl) rfl rfl rfl ?_
  refine rt_lk rfl w0 rfl (bx_ld1 tok rfl rfl rfl rfl rfl) rfl rfl rfl ?_
  refine rt_lk rfl w0 rfl (bx_ldN tok rfl rfl rfl rfl) rfl rfl rfl ?_
  refine rt_p rfl w0 rfl (pu_move (r := .ptr _ _ _ _ _) rfl) ?_
  obtain ⟨v15, hv15, h3⟩ := bnd h3
  refine rt_wkd rfl w0 rfl (c_callP [0] 300 (s_l25DrawSpot_b_c hv15) rfl rfl) ?_
  refine rt_p rfl w0 rfl (pbl (C0 := [.d (.v (.int .i64 0)), .d (.v (.int .i64 0)), .d (.v (.int .i64 0)), .d (.v (.int .i64 0)), .d (.v (.int .i64 0)), .d (.v (.int .i64 0)), .d (.v (.string (⟨#[]⟩ : ByteArray)))]) tok rfl rfl rfl) ?_
  refine rt_s rfl w0 rfl (bs_val tok cShape_ [(⟨1, v13.1, v15.1, 0, (⟨#[]⟩ : ByteArray)⟩ : Shape_)] rfl rfl rfl (by repeat (first | exact Els.nil _ | apply Els.cons (cs := [.d _]) rfl rfl rfl | apply Els.cons (cs := _ :: _) rfl rfl rfl)) rfl rfl rfl (by repeat (first | exact AllDD.nil | (apply AllDD.cons; (repeat (first | exact AllD.nil | apply AllD.cons))))) rfl) ?_
  obtain ⟨hq16, h3⟩ := chk_e h3
  refine rt_wkd rfl w0 rfl (ap_own tok hq16 rfl rfl rfl rfl rfl rfl rfl rfl rfl rfl rfl rfl (fun _ => rfl)) ?_
  refine rt_lk rfl w0 rfl (bx_fa tok rfl rfl rfl rfl rfl rfl rfl) rfl rfl rfl ?_
  refine rt_wk rfl w0 (bx_st (cs := [.own _ _ _]) tok rfl rfl rfl rfl rfl rfl rfl) ?_
  refine rt_nil ?_
  refine ⟨by kernel_rfl, ?_⟩
  refine block_n ?_
  refine block_n ?_
  refine then_n ?_
  cases h3
  exact wk [0, 1, 2, 3, 4, 5]
  refine sq [0,1] ?_
  refine rp rfl w0 rfl (pu_eql rfl rfl) ?_
  refine pa ?_
  refine nx ?_
  refine aw_if h3 rfl (fun hc h3 => ?_) (fun hc h3 => ?_)
  refine aw_region_draw (is := [0, 1, 2, 3, 4, 5, 6, 7, 8, 9, 10]) [0, 1, 0, 0, 8, 24, 60, 124, 255, 511, 1023] follows (by kernel_rfl) ?_
  refine rt_lk rfl w0 rfl (bx_fa tok rfl rfl rfl rfl rfl rfl rfl) rfl rfl rfl ?_
  refine rt_lk rfl w0 rfl (bx_ld1 tok rfl rfl rfl rfl rfl) rfl rfl rfl ?_
  refine rt_lk rfl w0 rfl (bx_ldN tok rfl rfl rfl rfl) rfl rfl rfl ?_
  refine rt_p rfl w0 rfl (pu_move (r := .ptr _ _ _ _ _) rfl) ?_
  obtain ⟨v17, hv17, h3⟩ := bnd h3
  refine rt_wkd rfl w0 rfl (c_callP [0] 300 (l00Src_pick_b_c hv17) rfl rfl) ?_
  refine rt_p rfl w0 rfl (pw_add rfl rfl) ?_
  refine rt_p rfl w0 rfl (pbl (C0 := [.d (.v (.int .i64 0)), .d (.v (.int .i64 0)), .d (.v (.int .i64 0)), .d (.v (.int .i64 0)), .d (.v (.int .i64 0)), .d (.v (.int .i64 0)), .d (.v (.string (⟨#[]⟩ : ByteArray)))]) tok rfl rfl rfl) ?_
  refine rt_s rfl w0 rfl (bs_val tok cShape_ [(⟨2, v13.1, (⟨0, 0⟩ : Spot_), w64 (1 + v17.1), (⟨#[]⟩ : ByteArray)⟩ : Shape_)] rfl rfl rfl (by repeat (first | exact Els.nil _ | apply Els.cons (cs := [.d _]) rfl rfl rfl | apply Els.cons (cs := _ :: _) rfl rfl rfl)) rfl rfl rfl (by repeat (first | exact AllDD.nil | (apply AllDD.cons; (repeat (first | exact AllD.nil | apply AllD.cons))))) rfl) ?_
  obtain ⟨hq18, h3⟩ := chk_e h3
  refine rt_wkd rfl w0 rfl (ap_own tok hq18 rfl rfl rfl rfl rfl rfl rfl rfl rfl rfl rfl rfl (fun _ => rfl)) ?_
  refine rt_lk rfl w0 rfl (bx_fa tok rfl rfl rfl rfl rfl rfl rfl) rfl rfl rfl ?_
  refine rt_wk rfl w0 (bx_st (cs := [.own _ _ _]) tok rfl rfl rfl rfl rfl rfl rfl) ?_
  refine rt_nil ?_
  refine ⟨by kernel_rfl, ?_⟩
  refine block_n ?_
  refine block_n ?_
  refine then_n ?_
  cases h3
  exact wk [0, 1, 2, 3, 4, 5]
  refine aw_region_draw (is := [0, 1, 2, 3, 4, 5, 6, 7, 8, 9, 10]) [0, 1, 0, 0, 0, 24, 60, 124, 255, 511, 1023] follows (by kernel_rfl) ?_
  refine rt_lk rfl w0 rfl (bx_fa tok rfl rfl rfl rfl rfl rfl rfl) rfl rfl rfl ?_
  refine rt_lk rfl w0 rfl (bx_ld1 tok rfl rfl rfl rfl rfl) rfl rfl rfl ?_
  refine rt_lk rfl w0 rfl (bx_ldN tok rfl rfl rfl rfl) rfl rfl rfl ?_
  refine rt_p rfl w0 rfl (pu_move (r := .ptr _ _ _ _ _) rfl) ?_
  refine rt_s rfl w0 rfl (bs_val tok cS [(⟨#[97]⟩ : ByteArray), (⟨#[103, 114, 101, 97, 116, 45, 119, 104, 101, 101, 108]⟩ : ByteArray), (⟨#[120, 49]⟩ : ByteArray)] rfl rfl rfl (by repeat (first | exact Els.nil _ | apply Els.cons (cs := [.d _]) rfl rfl rfl | apply Els.cons (cs := _ :: _) rfl rfl rfl)) rfl rfl rfl (by repeat (first | exact AllDD.nil | (apply AllDD.cons; (repeat (first | exact AllD.nil | apply AllD.cons))))) rfl) ?_
  obtain ⟨v19, hv19, h3⟩ := bnd h3
  refine rt_wkd rfl w0 rfl (c_callP [0] 300 (l00Src_text_b_c hv19) rfl rfl) ?_
  refine rt_p rfl w0 rfl (pbl (C0 := [.d (.v (.int .i64 0)), .d (.v (.int .i64 0)), .d (.v (.int .i64 0)), .d (.v (.int .i64 0)), .d (.v (.int .i64 0)), .d (.v (.int .i64 0)), .d (.v (.string (⟨#[]⟩ : ByteArray)))]) tok rfl rfl rfl) ?_
  refine rt_s rfl w0 rfl (bs_val tok cShape_ [(⟨3, v13.1, (⟨0, 0⟩ : Spot_), 0, v19.1⟩ : Shape_)] rfl rfl rfl (by repeat (first | exact Els.nil _ | apply Els.cons (cs := [.d _]) rfl rfl rfl | apply Els.cons (cs := _ :: _) rfl rfl rfl)) rfl rfl rfl (by repeat (first | exact AllDD.nil | (apply AllDD.cons; (repeat (first | exact AllD.nil | apply AllD.cons))))) rfl) ?_
  obtain ⟨hq20, h3⟩ := chk_e h3
  refine rt_wkd rfl w0 rfl (ap_own tok hq20 rfl rfl rfl rfl rfl rfl rfl rfl rfl rfl rfl rfl (fun _ => rfl)) ?_
  refine rt_lk rfl w0 rfl (bx_fa tok rfl rfl rfl rfl rfl rfl rfl) rfl rfl rfl ?_
  refine rt_wk rfl w0 (bx_st (cs := [.own _ _ _]) tok rfl rfl rfl rfl rfl rfl rfl) ?_
  refine rt_nil ?_
  refine ⟨by kernel_rfl, ?_⟩
  refine block_n ?_
  refine block_n ?_
  refine then_n ?_
  cases h3
  exact wk [0, 1, 2, 3, 4, 5]
  refine sr [0,1,2] ?_
  refine pm ?_
  refine rp rfl w0 rfl (pw_sub rfl rfl) ?_
  refine pa ?_
  refine ra_nil ?_
  refine loop_n ?_
  cases h2
  refine ⟨_, rfl, ?_⟩
  exact wk [0, 1, 2, 3, 4, 5]
  refine aw_exit ?_
  refine then_e ?_
  cases h2
  refine loop_x ⟨_, rfl, fun e => ?_⟩
  subst e
  refine block_hit ?_
  refine then_n ?_
  exact wk [0, 1, 2, 3, 4, 5]
  refine sq [0,1] ?_
  refine rl rfl w0 rfl (bx_ldN tok rfl rfl rfl rfl) ?_
  refine rw0 rfl w0 (bx_st (cs := _ :: _) tok rfl rfl rfl rfl rfl rfl rfl) ?_
  refine nx ?_
  refine aw_ret ?_
  cases h0
  exact retM_ (rs := [.cell 2 24]) 1 [0, 5] rfl

theorem s_l25Bent_b_c {p0 : L00Src_} {r : Drawing_ × L00Src_} (h0 : s_l25Bent_b_m p0 = some r) : FnC Tryz.prog 32 [.live [⟨84, 3, .av [[.d (.sl (List.map cU8 p0.code)), .d (.v (.int .i64 p0.at_)), .d (.v (.int .u64 p0.seed))]]⟩]] [.ptr 0 0 1 0 0] [.live [⟨84, 3, .av [[.d (.sl (List.map cU8 r.2.code)), .d (.v (.int .i64 r.2.at_)), .d (.v (.int .u64 r.2.seed))]]⟩], .live [⟨44, 7, .data (List.map cShape_ r.1.Shapes)⟩]] (.agg [.own 1 0 r.1.Shapes.length]) := by
  refine fnc_intro (T := tt) (N := 97) tok Tryz.func32 rfl rfl (by kernel_rfl) rfl rfl ?_
  unfold s_l25Bent_b_m at h0
  refine sq [0] ?_
  refine rs rfl w0 rfl (st_alloc 3 (cs := [.d (.v (.slice none 0 0))]) tok rfl rfl rfl) ?_
  refine nx ?_
  refine sq [0,1,2,3] ?_
  refine rp rfl w0 rfl (pu_move (r := .ptr _ _ _ _ _) rfl) ?_
  obtain ⟨v1, hv1, h0⟩ := bnd h0
  refine rw1 rfl w0 rfl (c_callP [0, 4] 300 (fnc_pad 1 (s_l25Draw_b_c hv1)) rfl rfl) ?_
  refine rs rfl w0 rfl (st_alloc 5 (cs := [.d (.v (.slice none 0 0))]) tok rfl rfl rfl) ?_
  refine rw0 rfl w0 (bx_st (cs := _ :: _) tok rfl rfl rfl rfl rfl rfl rfl) ?_
  refine nx ?_
  refine sq [0,1,2,3,4,5] ?_
  refine rp rfl w0 rfl (pu_move (r := .ptr _ _ _ _ _) rfl) ?_
  refine fa tok ?_
  refine ld tok ?_
  refine rl rfl w0 rfl (ow_len tok rfl rfl rfl rfl rfl) ?_
  obtain ⟨v2, hv2, h0⟩ := bnd h0
  refine rw1 rfl w0 rfl (c_callP [0] 300 (l00Src_pick_b_c hv2) rfl rfl) ?_
  refine pa ?_
  refine nx ?_
  refine sq [0,1,2] ?_
  refine rp rfl w0 rfl (pu_move (r := .ptr _ _ _ _ _) rfl) ?_
  obtain ⟨v3, hv3, h0⟩ := bnd h0
  refine rw1 rfl w0 rfl (c_callP [0] 300 (l00Src_pick_b_c hv3) rfl rfl) ?_
  refine pa ?_
  refine nx ?_
  obtain ⟨v12x, h1, h0⟩ := bnd h0
  refine aw_cutE v12x (fun v12 => ⟨updA (updA (updA (updA (updA ((fun _ => .dead)) 0 (.ptr 0 0 1 0 0)) 2 (.ptr 3 0 1 0 0)) 3 (.ptr 4 0 1 0 0)) 4 (.d (.v (.int .i64 v2.1)))) 5 (.d (.v (.int .i64 v3.1))), lks [.live [⟨84, 3, .av [[.d (.sl (List.map cU8 v3.2.code)), .d (.v (.int .i64 v3.2.at_)), .d (.v (.int .u64 v3.2.seed))]]⟩], .no, .no, .live [⟨24, 1, .av [[.d (.v (.slice none 0 0))]]⟩], .live [⟨24, 1, .av [[.own 5 0 (v1.1.Shapes).length]]⟩], .live [⟨44, 7, .data (List.map cShape_ v1.1.Shapes)⟩]]⟩) ?_ ?_
  refine sq [0,1] ?_
  refine pm ?_
  refine rp rfl w0 rfl (pu_eql rfl rfl) ?_
  refine nx ?_
  refine aw_if h1 rfl (fun hc h1 => ?_) (fun hc h1 => ?_)
  obtain ⟨v8, h2, h1⟩ := bnd h1
  refine aw_cut ⟨updA (updA (updA ((fun _ => .dead)) 0 (.ptr 0 0 1 0 0)) 2 (.ptr 3 0 1 0 0)) 3 (.ptr 4 0 1 0 0), lks [.live [⟨84, 3, .av [[.d (.sl (List.map cU8 v3.2.code)), .d (.v (.int .i64 v3.2.at_)), .d (.v (.int .u64 v3.2.seed))]]⟩], .no, .no, .live [⟨24, 1, .av [[.d (.v (.slice none 0 0))]]⟩], .live [⟨24, 1, .av [[.own 5 0 (v8).length]]⟩], .live [⟨44, 7, .data (List.map cShape_ v8)⟩]]⟩ ?_ ?_
  refine aw_block ?_
  refine aw_loopM (fun s6 => ⟨updA (updA (updA ((fun _ => .dead)) 0 (.ptr 0 0 1 0 0)) 2 (.ptr 3 0 1 0 0)) 3 (.ptr 4 0 1 0 0), lks [.live [⟨84, 3, .av [[.d (.sl (List.map cU8 v3.2.code)), .d (.v (.int .i64 v3.2.at_)), .d (.v (.int .u64 v3.2.seed))]]⟩], .no, .no, .live [⟨24, 1, .av [[.d (.v (.slice none 0 0))]]⟩], .live [⟨24, 1, .av [[.own 5 0 (s6).length]]⟩], .live [⟨44, 7, .data (List.map cShape_ s6)⟩]]⟩) h2 ?_ (fun s6 y h3 => ?_)
  exact wk [0, 1, 2, 3, 5, 4]
  refine aw_seq ?_
  refine sq [0,1,2,3] ?_
  refine fa tok ?_
  refine ld tok ?_
  refine rl rfl w0 rfl (ow_len tok rfl rfl rfl rfl rfl) ?_
  refine rp rfl w0 rfl (pu_lss rfl rfl) ?_
  refine nx ?_
  refine aw_if h3 rfl (fun hc h3 => ?_) (fun hc h3 => ?_)
  refine sk ?_
  refine aw_block ?_
  refine sr [0,1,2,3,4,5,6] ?_
  refine fa tok ?_
  refine ld tok ?_
  refine rp rfl w0 rfl (pbl (C0 := [.d (.v (.int .i64 0)), .d (.v (.int .i64 0)), .d (.v (.int .i64 0)), .d (.v (.int .i64 0)), .d (.v (.int .i64 0)), .d (.v (.int .i64 0)), .d (.v (.string (⟨#[]⟩ : ByteArray)))]) tok rfl rfl rfl) ?_
  refine rs rfl w0 rfl (bs_val tok cShape_ [(⟨2, (⟨0, 0⟩ : Spot_), (⟨0, 0⟩ : Spot_), 5, (⟨#[]⟩ : ByteArray)⟩ : Shape_)] rfl rfl rfl (by repeat (first | exact Els.nil _ | apply Els.cons (cs := [.d _]) rfl rfl rfl | apply Els.cons (cs := _ :: _) rfl rfl rfl)) rfl rfl rfl (by repeat (first | exact AllDD.nil | (apply AllDD.cons; (repeat (first | exact AllD.nil | apply AllD.cons))))) rfl) ?_
  obtain ⟨hq7, h3⟩ := chk_e h3
  refine rw1 rfl w0 rfl (ap_own tok hq7 rfl rfl rfl rfl rfl rfl rfl rfl rfl rfl rfl rfl (fun _ => rfl)) ?_
  refine fa tok ?_
  refine rw0 rfl w0 (bx_st (cs := [.own _ _ _]) tok rfl rfl rfl rfl rfl rfl rfl) ?_
  refine ra_nil ?_
  refine block_n ?_
  refine loop_n ?_
  cases h3
  refine ⟨_, rfl, ?_⟩
  exact wk [0, 1, 2, 3, 4, 5]
  refine aw_exit ?_
  refine then_e ?_
  cases h3
  refine loop_x ⟨_, rfl, fun e => ?_⟩
  subst e
  refine block_hit ?_
  refine then_n ?_
  exact wk [0, 1, 2, 3, 4, 5]
  obtain ⟨v11, h2, h1⟩ := bnd h1
  refine aw_cut ⟨updA (updA ((fun _ => .dead)) 2 (.ptr 3 0 1 0 0)) 3 (.ptr 4 0 1 0 0), lks [.live [⟨84, 3, .av [[.d (.sl (List.map cU8 v11.1.code)), .d (.v (.int .i64 v11.1.at_)), .d (.v (.int .u64 v11.1.seed))]]⟩], .no, .no, .live [⟨24, 1, .av [[.d (.v (.slice none 0 0))]]⟩], .live [⟨24, 1, .av [[.own 5 0 (v11.2).length]]⟩], .live [⟨44, 7, .data (List.map cShape_ v11.2)⟩]]⟩ ?_ ?_
  refine sq [0,1] ?_
  refine rp rfl w0 rfl (pu_move (r := .ptr _ _ _ _ _) rfl) ?_
  obtain ⟨v9, hv9, h2⟩ := bnd h2
  refine rw1 rfl w0 rfl (c_callP [0] 300 (l00Src_one_b_c hv9) rfl rfl) ?_
  refine nx ?_
  refine aw_ifB h2 rfl (fun hc h2 => ?_) (fun hc h2 => ?_)
  refine sr [0,1,2,3,4,5,6] ?_
  refine fa tok ?_
  refine ld tok ?_
  refine rp rfl w0 rfl (pbl (C0 := [.d (.v (.int .i64 0)), .d (.v (.int .i64 0)), .d (.v (.int .i64 0)), .d (.v (.int .i64 0)), .d (.v (.int .i64 0)), .d (.v (.int .i64 0)), .d (.v (.string (⟨#[]⟩ : ByteArray)))]) tok rfl rfl rfl) ?_
  refine rs rfl w0 rfl (bs_val tok cShape_ [(⟨2, (⟨0, 0⟩ : Spot_), (⟨0, 0⟩ : Spot_), 5, (⟨#[]⟩ : ByteArray)⟩ : Shape_)] rfl rfl rfl (by repeat (first | exact Els.nil _ | apply Els.cons (cs := [.d _]) rfl rfl rfl | apply Els.cons (cs := _ :: _) rfl rfl rfl)) rfl rfl rfl (by repeat (first | exact AllDD.nil | (apply AllDD.cons; (repeat (first | exact AllD.nil | apply AllD.cons))))) rfl) ?_
  obtain ⟨hq10, h2⟩ := chk_e h2
  refine rw1 rfl w0 rfl (ap_own tok hq10 rfl rfl rfl rfl rfl rfl rfl rfl rfl rfl rfl rfl (fun _ => rfl)) ?_
  refine fa tok ?_
  refine rw0 rfl w0 (bx_st (cs := [.own _ _ _]) tok rfl rfl rfl rfl rfl rfl rfl) ?_
  refine nx ?_
  cases h2
  exact wk [0, 1, 2, 3, 4, 5]
  refine sk ?_
  cases h2
  exact wk [0, 1, 2, 3, 4, 5]
  refine sq [0,1] ?_
  refine rl rfl w0 rfl (bx_ldN tok rfl rfl rfl rfl) ?_
  refine rw0 rfl w0 (bx_st (cs := _ :: _) tok rfl rfl rfl rfl rfl rfl rfl) ?_
  refine nx ?_
  refine aw_ret ?_
  cases h1
  replace h0 := orE_s h0
  refine then_r ?_
  cases h0
  exact retM_ (rs := [.cell 2 24]) 1 [0, 5] rfl
  refine sk ?_
  cases h1
  refine ⟨_, rfl, ?_⟩
  exact wk [0, 1, 2, 3, 5, 4]
  rintro v12 rfl
  replace h0 := orE_f h0
  refine aw_seq ?_
  refine sq [0,1,2,3] ?_
  refine fa tok ?_
  refine ld tok ?_
  refine rl rfl w0 rfl (ow_len tok rfl rfl rfl rfl rfl) ?_
  refine rp rfl w0 rfl (pu_eql rfl rfl) ?_
  refine nx ?_
  refine aw_if h0 rfl (fun hc h0 => ?_) (fun hc h0 => ?_)
  refine sq [0,1] ?_
  refine rl rfl w0 rfl (bx_ldN tok rfl rfl rfl rfl) ?_
  refine rw0 rfl w0 (bx_st (cs := _ :: _) tok rfl rfl rfl rfl rfl rfl rfl) ?_
  refine nx ?_
  refine aw_ret ?_
  refine then_r ?_
  cases h0
  exact retM_ (rs := [.cell 2 24]) 1 [0, 5] rfl
  refine sk ?_
  obtain ⟨v23, h1, h0⟩ := bnd h0
  refine aw_cut ⟨updA (updA ((fun _ => .dead)) 2 (.ptr 3 0 1 0 0)) 3 (.ptr 4 0 1 0 0), lks [.live [⟨84, 3, .av [[.d (.sl (List.map cU8 v23.1.code)), .d (.v (.int .i64 v23.1.at_)), .d (.v (.int .u64 v23.1.seed))]]⟩], .no, .no, .live [⟨24, 1, .av [[.d (.v (.slice none 0 0))]]⟩], .live [⟨24, 1, .av [[.own 5 0 (v23.2).length]]⟩], .live [⟨44, 7, .data (List.map cShape_ v23.2)⟩]]⟩ ?_ ?_
  refine sq [0] ?_
  refine pm ?_
  refine nx ?_
  refine aw_block ?_
  refine sq [0,1] ?_
  refine rp rfl w0 rfl (pu_eql rfl rfl) ?_
  refine pa ?_
  refine nx ?_
  refine aw_if h1 rfl (fun hc h1 => ?_) (fun hc h1 => ?_)
  refine aw_region_draw (is := [0, 1, 2, 3, 4, 5, 6, 7, 8]) [0, 1, 0, 0, 0, 24, 63, 127, 255] follows (by kernel_rfl) ?_
  refine rt_lk rfl w0 rfl (bx_fa tok rfl rfl rfl rfl rfl rfl rfl) rfl rfl rfl ?_
  refine rt_lk rfl w0 rfl (bx_ld1 tok rfl rfl rfl rfl rfl) rfl rfl rfl ?_
  refine tpm ?_
  refine rt_p rfl w0 rfl (pu_move (r := .ptr _ _ _ _ _) rfl) ?_
  refine rt_s rfl w0 rfl (bs_val tok cI [0, 4, 1, 2, 3] rfl rfl rfl (by repeat (first | exact Els.nil _ | apply Els.cons (cs := [.d _]) rfl rfl rfl | apply Els.cons (cs := _ :: _) rfl rfl rfl)) rfl rfl rfl (by repeat (first | exact AllDD.nil | (apply AllDD.cons; (repeat (first | exact AllD.nil | apply AllD.cons))))) rfl) ?_
  obtain ⟨v13, hv13, h1⟩ := bnd h1
  refine rt_wkd rfl w0 rfl (c_callP [0] 300 (l00Src_among_b_c hv13) rfl rfl) ?_
  obtain ⟨v14, hv14, h1⟩ := bnd h1
  refine rt_lk rfl w0 rfl (ow_ix tok hv14 rfl rfl rfl rfl rfl rfl rfl rfl) rfl rfl rfl ?_
  refine rt_lk rfl w0 rfl (rw_fa tok (atI_e hv14).2.1 rfl rfl rfl rfl rfl rfl rfl rfl) rfl rfl rfl ?_
  refine rt_wk rfl w0 (rw_st (cs := [.d _]) tok (⟨v13.1, v14.A, v14.B, v14.R, v14.Name⟩ : Shape_) (atI_e hv14).2.1 rfl rfl rfl rfl rfl rfl rfl rfl) ?_
  refine rt_nil ?_
  refine ⟨by kernel_rfl, ?_⟩
  refine block_n ?_
  refine then_n ?_
  cases h1
  exact wk [0, 1, 2, 3, 4, 5]
  refine sq [0,1] ?_
  refine rp rfl w0 rfl (pu_eql rfl rfl) ?_
  refine pa ?_
  refine nx ?_
  refine aw_if h1 rfl (fun hc h1 => ?_) (fun hc h1 => ?_)
  refine aw_region_draw (is := [0, 1, 2, 3, 4, 5, 6, 7, 8, 9]) [0, 1, 0, 0, 0, 24, 63, 127, 255, 511] follows (by kernel_rfl) ?_
  refine rt_lk rfl w0 rfl (bx_fa tok rfl rfl rfl rfl rfl rfl rfl) rfl rfl rfl ?_
  refine rt_lk rfl w0 rfl (bx_ld1 tok rfl rfl rfl rfl rfl) rfl rfl rfl ?_
  refine tpm ?_
  refine rt_p rfl w0 rfl (pu_move (r := .ptr _ _ _ _ _) rfl) ?_
  refine rt_s rfl w0 rfl (bs_val tok cI [-100001, 100001] rfl rfl rfl (by repeat (first | exact Els.nil _ | apply Els.cons (cs := [.d _]) rfl rfl rfl | apply Els.cons (cs := _ :: _) rfl rfl rfl)) rfl rfl rfl (by repeat (first | exact AllDD.nil | (apply AllDD.cons; (repeat (first | exact AllD.nil | apply AllD.cons))))) rfl) ?_
  obtain ⟨v15, hv15, h1⟩ := bnd h1
  refine rt_wkd rfl w0 rfl (c_callP [0] 300 (l00Src_among_b_c hv15) rfl rfl) ?_
  obtain ⟨v16, hv16, h1⟩ := bnd h1
  refine rt_lk rfl w0 rfl (ow_ix tok hv16 rfl rfl rfl rfl rfl rfl rfl rfl) rfl rfl rfl ?_
  refine rt_lk rfl w0 rfl (rw_fa tok (atI_e hv16).2.1 rfl rfl rfl rfl rfl rfl rfl rfl) rfl rfl rfl ?_
  refine rt_lk rfl w0 rfl (rw_fa tok (atI_e hv16).2.1 rfl rfl rfl rfl rfl rfl rfl rfl) rfl rfl rfl ?_
  refine rt_wk rfl w0 (rw_st (cs := [.d _]) tok (⟨v16.Kind, (⟨v15.1, v16.A.Y⟩ : Spot_), v16.B, v16.R, v16.Name⟩ : Shape_) (atI_e hv16).2.1 rfl rfl rfl rfl rfl rfl rfl rfl) ?_
  refine rt_nil ?_
  refine ⟨by kernel_rfl, ?_⟩
  refine block_n ?_
  refine then_n ?_
  cases h1
  exact wk [0, 1, 2, 3, 4, 5]
  refine sq [0,1] ?_
  refine rp rfl w0 rfl (pu_eql rfl rfl) ?_
  refine pa ?_
  refine nx ?_
  refine aw_if h1 rfl (fun hc h1 => ?_) (fun hc h1 => ?_)
  refine aw_region_draw (is := [0, 1, 2, 3, 4, 5, 6, 7, 8]) [0, 1, 0, 0, 0, 24, 63, 127, 255] follows (by kernel_rfl) ?_
  refine rt_lk rfl w0 rfl (bx_fa tok rfl rfl rfl rfl rfl rfl rfl) rfl rfl rfl ?_
  refine rt_lk rfl w0 rfl (bx_ld1 tok rfl rfl rfl rfl rfl) rfl rfl rfl ?_
  refine tpm ?_
  refine rt_p rfl w0 rfl (pu_move (r := .ptr _ _ _ _ _) rfl) ?_
  refine rt_s rfl w0 rfl (bs_val tok cI [-1, 0, 100000, 100001] rfl rfl rfl (by repeat (first | exact Els.nil _ | apply Els.cons (cs := [.d _]) rfl rfl rfl | apply Els.cons (cs := _ :: _) rfl rfl rfl)) rfl rfl rfl (by repeat (first | exact AllDD.nil | (apply AllDD.cons; (repeat (first | exact AllD.nil | apply AllD.cons))))) rfl) ?_
  obtain ⟨v17, hv17, h1⟩ := bnd h1
  refine rt_wkd rfl w0 rfl (c_callP [0] 300 (l00Src_among_b_c hv17) rfl rfl) ?_
  obtain ⟨v18, hv18, h1⟩ := bnd h1
  refine rt_lk rfl w0 rfl (ow_ix tok hv18 rfl rfl rfl rfl rfl rfl rfl rfl) rfl rfl rfl ?_
  refine rt_lk rfl w0 rfl (rw_fa tok (atI_e hv18).2.1 rfl rfl rfl rfl rfl rfl rfl rfl) rfl rfl rfl ?_
  refine rt_wk rfl w0 (rw_st (cs := [.d _]) tok (⟨v18.Kind, v18.A, v18.B, v17.1, v18.Name⟩ : Shape_) (atI_e hv18).2.1 rfl rfl rfl rfl rfl rfl rfl rfl) ?_
  refine rt_nil ?_
  refine ⟨by kernel_rfl, ?_⟩
  refine block_n ?_
  refine then_n ?_
  cases h1
  exact wk [0, 1, 2, 3, 4, 5]
  refine sq [0,1] ?_
  refine rp rfl w0 rfl (pu_eql rfl rfl) ?_
  refine pa ?_
  refine nx ?_
  refine aw_if h1 rfl (fun hc h1 => ?_) (fun hc h1 => ?_)
  refine aw_region_draw (is := [0, 1, 2, 3, 4, 5, 6, 7, 8]) [0, 1, 0, 0, 0, 24, 63, 127, 255] follows (by kernel_rfl) ?_
  refine rt_lk rfl w0 rfl (bx_fa tok rfl rfl rfl rfl rfl rfl rfl) rfl rfl rfl ?_
  refine rt_lk rfl w0 rfl (bx_ld1 tok rfl rfl rfl rfl rfl) rfl rfl rfl ?_
  refine tpm ?_
  refine rt_p rfl w0 rfl (pu_move (r := .ptr _ _ _ _ _) rfl) ?_
  refine rt_s rfl w0 rfl (bs_val tok cS [(⟨#[]⟩ : ByteArray), (⟨#[85, 112]⟩ : ByteArray), (⟨#[97, 98, 99, 100, 101, 102, 103, 104, 105, 106, 107, 108, 109]⟩ : ByteArray), (⟨#[97]⟩ : ByteArray)] rfl rfl rfl (by repeat (first | exact Els.nil _ | apply Els.cons (cs := [.d _]) rfl rfl rfl | apply Els.cons (cs := _ :: _) rfl rfl rfl)) rfl rfl rfl (by repeat (first | exact AllDD.nil | (apply AllDD.cons; (repeat (first | exact AllD.nil | apply AllD.cons))))) rfl) ?_
  obtain ⟨v19, hv19, h1⟩ := bnd h1
  refine rt_wkd rfl w0 rfl (c_callP [0] 300 (l00Src_text_b_c hv19) rfl rfl) ?_
  obtain ⟨v20, hv20, h1⟩ := bnd h1
  refine rt_lk rfl w0 rfl (ow_ix tok hv20 rfl rfl rfl rfl rfl rfl rfl rfl) rfl rfl rfl ?_
  refine rt_lk rfl w0 rfl (rw_fa tok (atI_e hv20).2.1 rfl rfl rfl rfl rfl rfl rfl rfl) rfl rfl rfl ?_
  refine rt_wk rfl w0 (rw_st (cs := [.d _]) tok (⟨v20.Kind, v20.A, v20.B, v20.R, v19.1⟩ : Shape_) (atI_e hv20).2.1 rfl rfl rfl rfl rfl rfl rfl rfl) ?_
  refine rt_nil ?_
  refine ⟨by kernel_rfl, ?_⟩
  refine block_n ?_
  refine then_n ?_
  cases h1
  exact wk [0, 1, 2, 3, 4, 5]
  refine sq [0,1] ?_
  refine rp rfl w0 rfl (pu_eql rfl rfl) ?_
  refine pa ?_
  refine nx ?_
  refine aw_if h1 rfl (fun hc h1 => ?_) (fun hc h1 => ?_)
  refine sr [0,1,2,3,4,5,6,7,8,9,10,11] ?_
  refine fa tok ?_
  refine ld tok ?_
  refine pm ?_
  obtain ⟨v21, hv21, h1⟩ := bnd h1
  refine rl rfl w0 rfl (ow_ix tok hv21 rfl rfl rfl rfl rfl rfl rfl rfl) ?_
  refine rl rfl w0 rfl (rw_fa tok (atI_e hv21).2.1 rfl rfl rfl rfl rfl rfl rfl rfl) ?_
  refine rl rfl w0 rfl (rw_fa tok (atI_e hv21).2.1 rfl rfl rfl rfl rfl rfl rfl rfl) ?_
  refine rl rfl w0 rfl (rw_ld1 tok (atI_e hv21).2.1 rfl rfl rfl rfl rfl rfl) ?_
  refine rp rfl w0 rfl (pw_add rfl rfl) ?_
  obtain ⟨v22, hv22, h1⟩ := bnd h1
  refine rl rfl w0 rfl (ow_ix tok hv22 rfl rfl rfl rfl rfl rfl rfl rfl) ?_
  refine rl rfl w0 rfl (rw_fa tok (atI_e hv22).2.1 rfl rfl rfl rfl rfl rfl rfl rfl) ?_
  refine rl rfl w0 rfl (rw_fa tok (atI_e hv22).2.1 rfl rfl rfl rfl rfl rfl rfl rfl) ?_
  refine rw0 rfl w0 (rw_st (cs := [.d _]) tok (⟨v22.Kind, v22.A, (⟨v22.B.X, w64 (v21.B.Y + 1)⟩ : Spot_), v22.R, v22.Name⟩ : Shape_) (atI_e hv22).2.1 rfl rfl rfl rfl rfl rfl rfl rfl) ?_
  refine ra_nil ?_
  refine block_n ?_
  refine then_n ?_
  cases h1
  exact wk [0, 1, 2, 3, 4, 5]
  refine aw_skip ?_
  refine block_n ?_
  refine then_n ?_
  cases h1
  exact wk [0, 1, 2, 3, 4, 5]
  refine sq [0,1] ?_
  refine rl rfl w0 rfl (bx_ldN tok rfl rfl rfl rfl) ?_
  refine rw0 rfl w0 (bx_st (cs := _ :: _) tok rfl rfl rfl rfl rfl rfl rfl) ?_
  refine nx ?_
  refine aw_ret ?_
  cases h0
  exact retM_ (rs := [.cell 2 24]) 1 [0, 5] rfl

theorem s_DrawJoinDrawings_c {p0 : List Int} {r : Drawing_ × Drawing_} (h0 : s_DrawJoinDrawings_m p0 = some r) : FnC Tryz.prog 11 [] [.d (.sl (List.map cU8 p0))] [.live [⟨44, 7, .data (List.map cShape_ r.2.Shapes)⟩]] (.tup [.agg [.d (.sl (List.map cShape_ r.1.Shapes))], .agg [.own 0 0 r.2.Shapes.length]]) := by
  refine fnc_intro (T := tt) (N := 13) tok Tryz.func11 rfl rfl (by kernel_rfl) rfl rfl ?_
  unfold s_DrawJoinDrawings_m at h0
  refine sq [0,1] ?_
  refine rs rfl w0 rfl (st_alloc 3 (cs := [.d (.v (.slice none 0 0))]) tok rfl rfl rfl) ?_
  refine rs rfl w0 rfl (st_alloc 4 (cs := [.d (.v (.slice none 0 0))]) tok rfl rfl rfl) ?_
  refine nx ?_
  refine sq [0,1,2] ?_
  refine pm ?_
  obtain ⟨v1, hv1, h0⟩ := bnd h0
  refine rs rfl w0 rfl (c_call 5 (s_l00From_c hv1) rfl rfl rfl) ?_
  refine rp rfl w0 rfl (pu_assign (r := .ptr _ _ _ _ _) rfl) ?_
  refine nx ?_
  refine sq [0,1,2,3] ?_
  refine rp rfl w0 rfl (pu_move (r := .ptr _ _ _ _ _) rfl) ?_
  obtain ⟨v2, hv2, h0⟩ := bnd h0
  refine rw1 rfl w0 rfl (c_callP [5, 6] 300 (fnc_pad 1 (s_l25Bent_b_c hv2)) rfl rfl) ?_
  refine rs rfl w0 rfl (st_alloc 7 (cs := [.d (.v (.slice none 0 0))]) tok rfl rfl rfl) ?_
  refine rw0 rfl w0 (bx_st (cs := _ :: _) tok rfl rfl rfl rfl rfl rfl rfl) ?_
  refine nx ?_
  refine aw_seq ?_
  refine aw_weak (fz_r (k := 6) (t' := updA (updA (updA (updA ((fun _ => .dead)) 2 (.ptr 3 0 1 0 0)) 3 (.ptr 4 0 1 0 0)) 4 (.ptr 5 0 1 0 0)) 5 (.ptr 7 0 1 0 0)) rfl (FzL.box (kb := 7) (ds := [.d (.sl (List.map cShape_ v2.1.Shapes))]) rfl rfl (by repeat (first | exact FzRL.nil | apply FzRL.cons | exact FzR.d _ | exact FzR.own rfl (by first | rfl | (simp; done) | (simp; omega)) | exact FzR.ptr rfl (by repeat (first | exact Drp.z _ | apply Drp.d)) | exact FzR.own' | exact FzR.ptr' | exact FzR.ref _ | apply FzR.agg | apply FzR.tup | apply FzR.fn | exact FzR.dead _)) (FzL.nil))) ?_
  refine aw_weak (fz_b (k := 7) (t' := updA (updA (updA (updA ((fun _ => .dead)) 2 (.ptr 3 0 1 0 0)) 3 (.ptr 4 0 1 0 0)) 4 (.ptr 5 0 1 0 0)) 5 (.ref (cDrawing_ v2.1))) rfl (FzL.nil)) ?_
  refine aw_region_draw (is := [0, 1, 2, 3, 4]) [0, 0, 2, 7, 15] follows (by kernel_rfl) ?_
  refine rt_p rfl w0 rfl (pu_load_refN tok rfl rfl rfl (by repeat (first | exact SegD.z _ | apply SegD.t))) ?_
  refine rt_p rfl w0 rfl (pu_move (r := .ptr _ _ _ _ _) rfl) ?_
  obtain ⟨v3, hv3, h0⟩ := bnd h0
  refine rt_w rfl w0 rfl (c_callP [5, 8] 300 (fnc_pad 1 (s_l25Bent_b_c hv3)) rfl rfl) ?_
  refine rt_wk rfl w0 (bx_st (cs := _ :: _) tok rfl rfl rfl rfl rfl rfl rfl) ?_
  refine rt_wk rfl w0 (bx_st (cs := _ :: _) tok rfl rfl rfl rfl rfl rfl rfl) ?_
  refine rt_nil ?_
  refine ⟨by kernel_rfl, ?_⟩
  refine then_n ?_
  refine aw_ret ?_
  cases h0
  exact retK_ (rs := [.cell 2 24, .cell 3 24]) [8] rfl

theorem i_within_c {p0 : Int} {p1 : Int} {p2 : Int} {r : Bool} (h0 : i_within_m p0 p1 p2 = some r) : FnC Tryz.prog 65 [] [.d (.v (.int .i64 p0)), .d (.v (.int .i64 p1)), .d (.v (.int .i64 p2))] [] (.d (.v (.bool r))) := by
  refine fnc_intro (T := tt) (N := 15) tok Tryz.func65 rfl rfl (by kernel_rfl) rfl rfl ?_
  unfold i_within_m at h0
  refine sq [0] ?_
  refine pa ?_
  refine nx ?_
  refine sq [0,1,2,3,4,5,6,7,8] ?_
  refine pm ?_
  refine pm ?_
  refine rp rfl w0 rfl (pu_geq rfl rfl) ?_
  refine pm ?_
  refine ra_if (u := 10) h0 rfl (fun hc h0 => ?_) (fun hc h0 => ?_)
  refine pm1 ?_
  refine pm1 ?_
  refine rp rfl (w1 rfl rfl rfl) rfl (pu_leq rfl rfl) ?_
  refine pkt ?_
  refine pa ?_
  refine nx ?_
  refine aw_ret ?_
  cases h0
  exact ret0_ (rs := [.tmp 6]) rfl
  iterate 3 refine k1 ?_
  refine pkf ?_
  refine pa ?_
  refine nx ?_
  refine aw_ret ?_
  cases h0
  exact ret0_ (rs := [.tmp 6]) rfl

theorem i_validSpot_c {p0 : Spot_} {r : Bool} (h0 : i_validSpot_m p0 = some r) : FnC Tryz.prog 64 [] [.agg [.d (.v (.int .i64 p0.X)), .d (.v (.int .i64 p0.Y))]] [] (.d (.v (.bool r))) := by
  refine fnc_intro (T := tt) (N := 11) tok Tryz.func64 rfl rfl (by kernel_rfl) rfl rfl ?_
  unfold i_validSpot_m at h0
  refine sq [0,1] ?_
  refine rs rfl w0 rfl (st_box 3 (cs := _ :: _) rfl rfl rfl) ?_
  refine pa ?_
  refine nx ?_
  refine sq [0,1,2,3,4,5,6,7,8] ?_
  refine fa tok ?_
  refine ld tok ?_
  obtain ⟨v1, hv1, h0⟩ := bnd h0
  refine rs rfl w0 rfl (c_call 4 (i_within_c hv1) rfl rfl rfl) ?_
  refine pm ?_
  refine ra_ifB (u := 6) h0 rfl (fun hc h0 => ?_) (fun hc h0 => ?_)
  refine fa1 tok ?_
  refine ld1 tok ?_
  obtain ⟨v2, hv2, h0⟩ := bnd h0
  refine rs rfl (w1 rfl rfl rfl) rfl (c_call 4 (i_within_c hv2) rfl rfl rfl) ?_
  refine pkt ?_
  refine pa ?_
  refine nx ?_
  refine aw_ret ?_
  cases h0
  exact ret0_ (rs := [.tmp 2]) rfl
  iterate 3 refine k1 ?_
  refine pkf ?_
  refine pa ?_
  refine nx ?_
  refine aw_ret ?_
  cases h0
  exact ret0_ (rs := [.tmp 2]) rfl

theorem i_line_c {p0 : Spot_} {p1 : Spot_} {r : Shape_} (h0 : i_line_m p0 p1 = some r) : FnC Tryz.prog 53 [] [.agg [.d (.v (.int .i64 p0.X)), .d (.v (.int .i64 p0.Y))], .agg [.d (.v (.int .i64 p1.X)), .d (.v (.int .i64 p1.Y))]] [] (.agg [.d (.v (.int .i64 r.Kind)), .d (.v (.int .i64 r.A.X)), .d (.v (.int .i64 r.A.Y)), .d (.v (.int .i64 r.B.X)), .d (.v (.int .i64 r.B.Y)), .d (.v (.int .i64 r.R)), .d (.v (.string r.Name))]) := by
  refine fnc_intro (T := tt) (N := 8) tok Tryz.func53 rfl rfl (by kernel_rfl) rfl rfl ?_
  unfold i_line_m at h0
  refine sq [0,1,2] ?_
  refine rs rfl w0 rfl (st_box 3 (cs := _ :: _) rfl rfl rfl) ?_
  refine rs rfl w0 rfl (st_box 4 (cs := _ :: _) rfl rfl rfl) ?_
  refine rs rfl w0 rfl (st_alloc 5 (cs := [.d (.v (.int .i64 0)), .d (.v (.int .i64 0)), .d (.v (.int .i64 0)), .d (.v (.int .i64 0)), .d (.v (.int .i64 0)), .d (.v (.int .i64 0)), .d (.v (.string (⟨#[]⟩ : ByteArray)))]) tok rfl rfl rfl) ?_
  refine nx ?_
  refine sq [0,1,2,3] ?_
  refine rl rfl w0 rfl (bx_ldN tok rfl rfl rfl rfl) ?_
  refine rl rfl w0 rfl (bx_ldN tok rfl rfl rfl rfl) ?_
  refine rp rfl w0 rfl (pbl (C0 := [.d (.v (.int .i64 0)), .d (.v (.int .i64 0)), .d (.v (.int .i64 0)), .d (.v (.int .i64 0)), .d (.v (.int .i64 0)), .d (.v (.int .i64 0)), .d (.v (.string (⟨#[]⟩ : ByteArray)))]) tok rfl rfl rfl) ?_
  refine rw0 rfl w0 (bx_st (cs := _ :: _) tok rfl rfl rfl rfl rfl rfl rfl) ?_
  refine nx ?_
  refine aw_ret ?_
  cases h0
  exact ret0_ (rs := [.cell 4 44]) rfl

theorem i_circle_c {p0 : Spot_} {p1 : Int} {r : Shape_} (h0 : i_circle_m p0 p1 = some r) : FnC Tryz.prog 54 [] [.agg [.d (.v (.int .i64 p0.X)), .d (.v (.int .i64 p0.Y))], .d (.v (.int .i64 p1))] [] (.agg [.d (.v (.int .i64 r.Kind)), .d (.v (.int .i64 r.A.X)), .d (.v (.int .i64 r.A.Y)), .d (.v (.int .i64 r.B.X)), .d (.v (.int .i64 r.B.Y)), .d (.v (.int .i64 r.R)), .d (.v (.string r.Name))]) := by
  refine fnc_intro (T := tt) (N := 8) tok Tryz.func54 rfl rfl (by kernel_rfl) rfl rfl ?_
  unfold i_circle_m at h0
  refine sq [0,1] ?_
  refine rs rfl w0 rfl (st_box 3 (cs := _ :: _) rfl rfl rfl) ?_
  refine rs rfl w0 rfl (st_alloc 4 (cs := [.d (.v (.int .i64 0)), .d (.v (.int .i64 0)), .d (.v (.int .i64 0)), .d (.v (.int .i64 0)), .d (.v (.int .i64 0)), .d (.v (.int .i64 0)), .d (.v (.string (⟨#[]⟩ : ByteArray)))]) tok rfl rfl rfl) ?_
  refine nx ?_
  refine sq [0,1,2,3] ?_
  refine rl rfl w0 rfl (bx_ldN tok rfl rfl rfl rfl) ?_
  refine pm ?_
  refine rp rfl w0 rfl (pbl (C0 := [.d (.v (.int .i64 0)), .d (.v (.int .i64 0)), .d (.v (.int .i64 0)), .d (.v (.int .i64 0)), .d (.v (.int .i64 0)), .d (.v (.int .i64 0)), .d (.v (.string (⟨#[]⟩ : ByteArray)))]) tok rfl rfl rfl) ?_
  refine rw0 rfl w0 (bx_st (cs := _ :: _) tok rfl rfl rfl rfl rfl rfl rfl) ?_
  refine nx ?_
  refine aw_ret ?_
  cases h0
  exact ret0_ (rs := [.cell 4 44]) rfl

theorem i_IsName_c {p0 : ByteArray} {r : Bool} (h0 : i_IsName_m p0 = some r) : FnC Tryz.prog 66 [] [.d (.v (.string p0))] [] (.d (.v (.bool r))) := by
  refine fnc_intro (T := tt) (N := 50) tok Tryz.func66 rfl rfl (by kernel_rfl) rfl rfl ?_
  unfold i_IsName_m at h0
  refine sq [0] ?_
  refine pa ?_
  refine nx ?_
  refine aw_seq ?_
  obtain ⟨v1, h1, h0⟩ := bnd h0
  refine aw_cut ⟨updA (updA ((fun _ => .dead)) 0 (.d (.v (.string p0)))) 14 (.d (.v (.bool v1))), lks [.no, .no, .no]⟩ ?_ ?_
  refine sr [0,1,2,3,4,5,6,7] ?_
  refine pm ?_
  refine rp rfl w0 rfl (pu_len_str tok rfl rfl rfl) ?_
  refine rp rfl w0 rfl (pu_lss rfl rfl) ?_
  refine pm ?_
  refine ra_if (u := 10) h1 rfl (fun hc h1 => ?_) (fun hc h1 => ?_)
  iterate 3 refine k1 ?_
  refine pkt ?_
  refine nx ?_
  cases h1
  exact wk [0, 1, 2]
  refine pm1 ?_
  refine rp rfl (w1 rfl rfl rfl) rfl (pu_len_str tok rfl rfl rfl) ?_
  refine rp rfl (w1 rfl rfl rfl) rfl (pu_gtr rfl rfl) ?_
  refine pkf ?_
  refine nx ?_
  cases h1
  exact wk [0, 1, 2]
  refine aw_ifB h0 rfl (fun hc h0 => ?_) (fun hc h0 => ?_)
  refine sq [0] ?_
  refine pa ?_
  refine nx ?_
  refine aw_ret ?_
  refine then_r ?_
  cases h0
  exact ret0_ (rs := [.tmp 2]) rfl
  refine sk ?_
  obtain ⟨v13x, h1, h0⟩ := bnd h0
  refine aw_cutE v13x (fun v13 => ⟨(fun _ => .dead), lks [.no, .no, .no]⟩) ?_ ?_
  refine sq [0,1,2,3] ?_
  refine pm ?_
  obtain ⟨hq2, h1⟩ := chk_e h1
  refine rs rfl w0 rfl (cv_sb tok hq2 rfl rfl rfl rfl rfl rfl rfl) ?_
  refine rp rfl w0 rfl (pu_len_map tok rfl rfl rfl) ?_
  refine pm ?_
  refine nx ?_
  refine aw_block ?_
  refine aw_loopM (fun s8 => ⟨updA (updA (updA ((fun _ => .dead)) 16 (.d (.sl (List.map cU8 (bytesL p0))))) 17 (.d (.v (.int .i64 ((bytesL p0).length : Int))))) 18 (.d (.v (.int .i64 s8))), lks [.no, .no, .no]⟩) h1 ?_ (fun s8 y h2 => ?_)
  exact wk [0, 1, 2]
  refine sq [0] ?_
  refine rp rfl w0 rfl (pu_lss rfl rfl) ?_
  refine nx ?_
  refine aw_seq ?_
  refine aw_if h2 rfl (fun hc h2 => ?_) (fun hc h2 => ?_)
  refine sk ?_
  refine aw_seq ?_
  refine aw_block ?_
  refine sq [0,1,2,3,4] ?_
  refine pm ?_
  obtain ⟨v9, hv9, h2⟩ := bnd h2
  refine rp rfl w0 rfl (sl_ix tok hv9 rfl rfl rfl rfl rfl rfl) ?_
  refine lr tok ?_
  refine pa ?_
  refine pa ?_
  refine nx ?_
  obtain ⟨v10, h3, h2⟩ := bnd h2
  refine aw_cut ⟨updA (updA (updA (updA (updA (updA ((fun _ => .dead)) 3 (.d (.v (.int .i64 s8)))) 4 (.d (.v (.int .u8 v9)))) 5 (.d (.v (.bool v10)))) 16 (.d (.sl (List.map cU8 (bytesL p0))))) 17 (.d (.v (.int .i64 ((bytesL p0).length : Int))))) 18 (.d (.v (.int .i64 s8))), lks [.no, .no, .no]⟩ ?_ ?_
  refine sr [0,1,2,3,4,5,6] ?_
  refine pm ?_
  refine rp rfl w0 rfl (pu_geq rfl rfl) ?_
  refine pm ?_
  refine ra_if (u := 25) h3 rfl (fun hc h3 => ?_) (fun hc h3 => ?_)
  refine pm1 ?_
  refine rp rfl (w1 rfl rfl rfl) rfl (pu_leq rfl rfl) ?_
  refine pkt ?_
  refine pa ?_
  refine nx ?_
  cases h3
  exact wk [0, 1, 2]
  refine k1 ?_
  refine k1 ?_
  refine pkf ?_
  refine pa ?_
  refine nx ?_
  cases h3
  exact wk [0, 1, 2]
  obtain ⟨v11, h3, h2⟩ := bnd h2
  refine aw_cut ⟨updA (updA (updA (updA (updA (updA ((fun _ => .dead)) 3 (.d (.v (.int .i64 s8)))) 5 (.d (.v (.bool v10)))) 6 (.d (.v (.bool v11)))) 16 (.d (.sl (List.map cU8 (bytesL p0))))) 17 (.d (.v (.int .i64 ((bytesL p0).length : Int))))) 18 (.d (.v (.int .i64 s8))), lks [.no, .no, .no]⟩ ?_ ?_
  refine sr [0,1,2,3,4,5,6,7,8,9,10] ?_
  refine pm ?_
  refine rp rfl w0 rfl (pu_geq rfl rfl) ?_
  refine pm ?_
  refine ra_if (u := 31) h3 rfl (fun hc h3 => ?_) (fun hc h3 => ?_)
  refine pm1 ?_
  refine rp rfl (w1 rfl rfl rfl) rfl (pu_leq rfl rfl) ?_
  refine pkt ?_
  refine pm ?_
  refine ra_if (u := 35) h3 rfl (fun hc h3 => ?_) (fun hc h3 => ?_)
  refine k1 ?_
  refine k1 ?_
  refine pkt ?_
  refine pa ?_
  refine nx ?_
  cases h3
  exact wk [0, 1, 2]
  refine pm1 ?_
  refine rp rfl (w1 rfl rfl rfl) rfl (pu_eql rfl rfl) ?_
  refine pkf ?_
  refine pa ?_
  refine nx ?_
  cases h3
  exact wk [0, 1, 2]
  refine k1 ?_
  refine k1 ?_
  refine pkf ?_
  refine pm ?_
  refine pm1 ?_
  refine rp rfl (w1 rfl rfl rfl) rfl (pu_eql rfl rfl) ?_
  refine pkf ?_
  refine pa ?_
  refine nx ?_
  cases h3
  exact wk [0, 1, 2]
  obtain ⟨v12, h3, h2⟩ := bnd h2
  refine aw_cut ⟨updA (updA (updA (updA ((fun _ => .dead)) 16 (.d (.sl (List.map cU8 (bytesL p0))))) 17 (.d (.v (.int .i64 ((bytesL p0).length : Int))))) 18 (.d (.v (.int .i64 s8)))) 48 (.d (.v (.bool v12))), lks [.no, .no, .no]⟩ ?_ ?_
  refine sr [0,1,2,3,4,5,6,7,8,9] ?_
  refine pm ?_
  refine rp rfl w0 rfl (pu_not rfl) ?_
  refine pm ?_
  refine ra_ifB (u := 41) h3 rfl (fun hc h3 => ?_) (fun hc h3 => ?_)
  refine pm1 ?_
  refine rp rfl (w1 rfl rfl rfl) rfl (pu_eql rfl rfl) ?_
  refine pm1 ?_
  refine ra_if (u := 44) h3 rfl (fun hc h3 => ?_) (fun hc h3 => ?_)
  refine k1 ?_
  refine k1 ?_
  refine pkt1 ?_
  refine pkt ?_
  refine nx ?_
  cases h3
  exact wk [0, 1, 2]
  refine pm1 ?_
  refine rp rfl (w1 rfl rfl rfl) rfl (pu_not rfl) ?_
  refine pkf1 ?_
  refine pkt ?_
  refine nx ?_
  cases h3
  exact wk [0, 1, 2]
  iterate 6 refine k1 ?_
  refine pkf ?_
  refine nx ?_
  cases h3
  exact wk [0, 1, 2]
  refine aw_ifB h2 rfl (fun hc h2 => ?_) (fun hc h2 => ?_)
  refine sq [0] ?_
  refine pa ?_
  refine nx ?_
  refine aw_ret ?_
  refine block_r ?_
  refine then_r ?_
  cases h2
  refine loop_r ⟨_, rfl, fun e => ?_⟩
  subst e
  refine block_r ?_
  replace h0 := orE_s h0
  refine then_r ?_
  cases h0
  exact ret0_ (rs := [.tmp 2]) rfl
  refine aw_skip ?_
  refine block_n ?_
  refine then_n ?_
  refine sr [0,1] ?_
  refine rp rfl w0 rfl (pw_add rfl rfl) ?_
  refine pm ?_
  refine ra_nil ?_
  refine loop_n ?_
  cases h2
  refine ⟨_, rfl, ?_⟩
  exact wk [0, 1, 2]
  refine aw_exit ?_
  refine then_e ?_
  cases h2
  refine loop_x ⟨_, rfl, fun e => ?_⟩
  subst e
  refine block_hit ?_
  refine then_n ?_
  refine ⟨_, rfl, ?_⟩
  exact wk [0, 1, 2]
  rintro v13 rfl
  replace h0 := orE_f h0
  refine sq [0] ?_
  refine pa ?_
  refine nx ?_
  refine aw_ret ?_
  cases h0
  exact ret0_ (rs := [.tmp 2]) rfl

theorem i_label_c {p0 : Spot_} {p1 : ByteArray} {r : Shape_} (h0 : i_label_m p0 p1 = some r) : FnC Tryz.prog 55 [] [.agg [.d (.v (.int .i64 p0.X)), .d (.v (.int .i64 p0.Y))], .d (.v (.string p1))] [] (.agg [.d (.v (.int .i64 r.Kind)), .d (.v (.int .i64 r.A.X)), .d (.v (.int .i64 r.A.Y)), .d (.v (.int .i64 r.B.X)), .d (.v (.int .i64 r.B.Y)), .d (.v (.int .i64 r.R)), .d (.v (.string r.Name))]) := by
  refine fnc_intro (T := tt) (N := 8) tok Tryz.func55 rfl rfl (by kernel_rfl) rfl rfl ?_
  unfold i_label_m at h0
  refine sq [0,1] ?_
  refine rs rfl w0 rfl (st_box 3 (cs := _ :: _) rfl rfl rfl) ?_
  refine rs rfl w0 rfl (st_alloc 4 (cs := [.d (.v (.int .i64 0)), .d (.v (.int .i64 0)), .d (.v (.int .i64 0)), .d (.v (.int .i64 0)), .d (.v (.int .i64 0)), .d (.v (.int .i64 0)), .d (.v (.string (⟨#[]⟩ : ByteArray)))]) tok rfl rfl rfl) ?_
  refine nx ?_
  refine sq [0,1,2,3] ?_
  refine rl rfl w0 rfl (bx_ldN tok rfl rfl rfl rfl) ?_
  refine pm ?_
  refine rp rfl w0 rfl (pbl (C0 := [.d (.v (.int .i64 0)), .d (.v (.int .i64 0)), .d (.v (.int .i64 0)), .d (.v (.int .i64 0)), .d (.v (.int .i64 0)), .d (.v (.int .i64 0)), .d (.v (.string (⟨#[]⟩ : ByteArray)))]) tok rfl rfl rfl) ?_
  refine rw0 rfl w0 (bx_st (cs := _ :: _) tok rfl rfl rfl rfl rfl rfl rfl) ?_
  refine nx ?_
  refine aw_ret ?_
  cases h0
  exact ret0_ (rs := [.cell 4 44]) rfl

theorem i_validShape_c {p0 : Shape_} {r : Bool} (h0 : i_validShape_m p0 = some r) : FnC Tryz.prog 39 [] [.agg [.d (.v (.int .i64 p0.Kind)), .d (.v (.int .i64 p0.A.X)), .d (.v (.int .i64 p0.A.Y)), .d (.v (.int .i64 p0.B.X)), .d (.v (.int .i64 p0.B.Y)), .d (.v (.int .i64 p0.R)), .d (.v (.string p0.Name))]] [] (.d (.v (.bool r))) := by
  refine fnc_intro (T := tt) (N := 51) tok Tryz.func39 rfl rfl (by kernel_rfl) rfl rfl ?_
  unfold i_validShape_m at h0
  refine sq [0,1] ?_
  refine rs rfl w0 rfl (st_box 3 (cs := _ :: _) rfl rfl rfl) ?_
  refine pa ?_
  refine nx ?_
  refine aw_seq ?_
  refine sq [0,1,2,3] ?_
  refine fa tok ?_
  refine rl rfl w0 rfl (bx_ldN tok rfl rfl rfl rfl) ?_
  obtain ⟨v1, hv1, h0⟩ := bnd h0
  refine rs rfl w0 rfl (c_call 4 (i_validSpot_c hv1) rfl rfl rfl) ?_
  refine rp rfl w0 rfl (pu_not rfl) ?_
  refine nx ?_
  refine aw_ifB h0 rfl (fun hc h0 => ?_) (fun hc h0 => ?_)
  refine sq [0] ?_
  refine pa ?_
  refine nx ?_
  refine aw_ret ?_
  refine then_r ?_
  cases h0
  exact ret0_ (rs := [.tmp 2]) rfl
  refine sk ?_
  refine aw_seq ?_
  refine sq [0,1] ?_
  refine fa tok ?_
  refine ld tok ?_
  refine nx ?_
  refine aw_block ?_
  refine sq [0,1] ?_
  refine rp rfl w0 rfl (pu_eql rfl rfl) ?_
  refine pa ?_
  refine nx ?_
  refine aw_if h0 rfl (fun hc h0 => ?_) (fun hc h0 => ?_)
  refine aw_seq ?_
  refine aw_region_draw (is := [0, 1, 2, 3, 4, 5, 6, 7, 8, 9, 10, 11, 12]) [0, 1, 3, 7, 15, 15, 47, 15, 143, 495, 1023, 2047, 4095] follows (by kernel_rfl) ?_
  refine rt_lk rfl w0 rfl (bx_fa tok rfl rfl rfl rfl rfl rfl rfl) rfl rfl rfl ?_
  refine rt_lk rfl w0 rfl (bx_ldN tok rfl rfl rfl rfl) rfl rfl rfl ?_
  obtain ⟨v2, hv2, h0⟩ := bnd h0
  refine rt_c rfl w0 rfl (b_call 4 (i_validSpot_c hv2) rfl rfl rfl) ?_
  refine tpm ?_
  refine rt_ifB (u := 14) h0 rfl (fun hc h0 => ?_) (fun hc h0 => ?_)
  refine rt_lk rfl (w1 rfl rfl rfl) rfl (bx_ldN tok rfl rfl rfl rfl) rfl rfl rfl ?_
  refine rt_lk rfl (w1 rfl rfl rfl) rfl (bx_fa tok rfl rfl rfl rfl rfl rfl rfl) rfl rfl rfl ?_
  refine rt_lk rfl (w1 rfl rfl rfl) rfl (bx_ldN tok rfl rfl rfl rfl) rfl rfl rfl ?_
  refine rt_lk rfl (w1 rfl rfl rfl) rfl (bx_fa tok rfl rfl rfl rfl rfl rfl rfl) rfl rfl rfl ?_
  refine rt_lk rfl (w1 rfl rfl rfl) rfl (bx_ldN tok rfl rfl rfl rfl) rfl rfl rfl ?_
  obtain ⟨v3, hv3, h0⟩ := bnd h0
  refine rt_c rfl (w1 rfl rfl rfl) rfl (b_call 4 (i_line_c hv3) rfl rfl rfl) ?_
  refine rt_p rfl (w1 rfl rfl rfl) rfl (ps_eql_Shape_ (a := p0) (b := v3) rfl rfl) ?_
  refine tpkt ?_
  refine tpa ?_
  refine rt_nil ?_
  refine ⟨by kernel_rfl, ?_⟩
  refine then_n ?_
  refine aw_ret ?_
  refine block_r ?_
  refine then_r ?_
  cases h0
  exact ret0_ (rs := [.tmp 2]) rfl
  iterate 7 refine k2 ?_
  refine tpkf ?_
  refine tpa ?_
  refine rt_nil ?_
  refine ⟨by kernel_rfl, ?_⟩
  refine then_n ?_
  refine aw_ret ?_
  refine block_r ?_
  refine then_r ?_
  cases h0
  exact ret0_ (rs := [.tmp 2]) rfl
  refine sq [0,1] ?_
  refine rp rfl w0 rfl (pu_eql rfl rfl) ?_
  refine pa ?_
  refine nx ?_
  refine aw_if h0 rfl (fun hc h0 => ?_) (fun hc h0 => ?_)
  refine aw_seq ?_
  refine aw_region_draw (is := [0, 1, 2, 3, 4, 5, 6, 7, 8, 9, 10, 11, 12]) [0, 1, 3, 7, 15, 15, 47, 15, 143, 495, 1023, 2047, 4095] follows (by kernel_rfl) ?_
  refine rt_lk rfl w0 rfl (bx_fa tok rfl rfl rfl rfl rfl rfl rfl) rfl rfl rfl ?_
  refine rt_lk rfl w0 rfl (bx_ld1 tok rfl rfl rfl rfl rfl) rfl rfl rfl ?_
  obtain ⟨v4, hv4, h0⟩ := bnd h0
  refine rt_c rfl w0 rfl (b_call 4 (i_within_c hv4) rfl rfl rfl) ?_
  refine tpm ?_
  refine rt_ifB (u := 28) h0 rfl (fun hc h0 => ?_) (fun hc h0 => ?_)
  refine rt_lk rfl (w1 rfl rfl rfl) rfl (bx_ldN tok rfl rfl rfl rfl) rfl rfl rfl ?_
  refine rt_lk rfl (w1 rfl rfl rfl) rfl (bx_fa tok rfl rfl rfl rfl rfl rfl rfl) rfl rfl rfl ?_
  refine rt_lk rfl (w1 rfl rfl rfl) rfl (bx_ldN tok rfl rfl rfl rfl) rfl rfl rfl ?_
  refine rt_lk rfl (w1 rfl rfl rfl) rfl (bx_fa tok rfl rfl rfl rfl rfl rfl rfl) rfl rfl rfl ?_
  refine rt_lk rfl (w1 rfl rfl rfl) rfl (bx_ld1 tok rfl rfl rfl rfl rfl) rfl rfl rfl ?_
  obtain ⟨v5, hv5, h0⟩ := bnd h0
  refine rt_c rfl (w1 rfl rfl rfl) rfl (b_call 4 (i_circle_c hv5) rfl rfl rfl) ?_
  refine rt_p rfl (w1 rfl rfl rfl) rfl (ps_eql_Shape_ (a := p0) (b := v5) rfl rfl) ?_
  refine tpkt ?_
  refine tpa ?_
  refine rt_nil ?_
  refine ⟨by kernel_rfl, ?_⟩
  refine then_n ?_
  refine aw_ret ?_
  refine block_r ?_
  refine then_r ?_
  cases h0
  exact ret0_ (rs := [.tmp 2]) rfl
  iterate 7 refine k2 ?_
  refine tpkf ?_
  refine tpa ?_
  refine rt_nil ?_
  refine ⟨by kernel_rfl, ?_⟩
  refine then_n ?_
  refine aw_ret ?_
  refine block_r ?_
  refine then_r ?_
  cases h0
  exact ret0_ (rs := [.tmp 2]) rfl
  refine sq [0,1] ?_
  refine rp rfl w0 rfl (pu_eql rfl rfl) ?_
  refine pa ?_
  refine nx ?_
  refine aw_if h0 rfl (fun hc h0 => ?_) (fun hc h0 => ?_)
  refine aw_seq ?_
  refine aw_region_draw (is := [0, 1, 2, 3, 4, 5, 6, 7, 8, 9, 10, 11, 12]) [0, 1, 3, 7, 15, 15, 47, 15, 143, 495, 1023, 2047, 4095] follows (by kernel_rfl) ?_
  refine rt_lk rfl w0 rfl (bx_fa tok rfl rfl rfl rfl rfl rfl rfl) rfl rfl rfl ?_
  refine rt_lk rfl w0 rfl (bx_ld1 tok rfl rfl rfl rfl rfl) rfl rfl rfl ?_
  obtain ⟨v6, hv6, h0⟩ := bnd h0
  refine rt_c rfl w0 rfl (b_call 4 (i_IsName_c hv6) rfl rfl rfl) ?_
  refine tpm ?_
  refine rt_ifB (u := 42) h0 rfl (fun hc h0 => ?_) (fun hc h0 => ?_)
  refine rt_lk rfl (w1 rfl rfl rfl) rfl (bx_ldN tok rfl rfl rfl rfl) rfl rfl rfl ?_
  refine rt_lk rfl (w1 rfl rfl rfl) rfl (bx_fa tok rfl rfl rfl rfl rfl rfl rfl) rfl rfl rfl ?_
  refine rt_lk rfl (w1 rfl rfl rfl) rfl (bx_ldN tok rfl rfl rfl rfl) rfl rfl rfl ?_
  refine rt_lk rfl (w1 rfl rfl rfl) rfl (bx_fa tok rfl rfl rfl rfl rfl rfl rfl) rfl rfl rfl ?_
  refine rt_lk rfl (w1 rfl rfl rfl) rfl (bx_ld1 tok rfl rfl rfl rfl rfl) rfl rfl rfl ?_
  obtain ⟨v7, hv7, h0⟩ := bnd h0
  refine rt_c rfl (w1 rfl rfl rfl) rfl (b_call 4 (i_label_c hv7) rfl rfl rfl) ?_
  refine rt_p rfl (w1 rfl rfl rfl) rfl (ps_eql_Shape_ (a := p0) (b := v7) rfl rfl) ?_
  refine tpkt ?_
  refine tpa ?_
  refine rt_nil ?_
  refine ⟨by kernel_rfl, ?_⟩
  refine then_n ?_
  refine aw_ret ?_
  refine block_r ?_
  refine then_r ?_
  cases h0
  exact ret0_ (rs := [.tmp 2]) rfl
  iterate 7 refine k2 ?_
  refine tpkf ?_
  refine tpa ?_
  refine rt_nil ?_
  refine ⟨by kernel_rfl, ?_⟩
  refine then_n ?_
  refine aw_ret ?_
  refine block_r ?_
  refine then_r ?_
  cases h0
  exact ret0_ (rs := [.tmp 2]) rfl
  refine aw_skip ?_
  refine block_n ?_
  refine then_n ?_
  refine sq [0] ?_
  refine pa ?_
  refine nx ?_
  refine aw_ret ?_
  cases h0
  exact ret0_ (rs := [.tmp 2]) rfl

theorem i_ValidDrawing_1_c {p0 : Shape_} {r : Bool} (h0 : i_ValidDrawing_1_m p0 = some r) : FnC Tryz.prog 38 [] [.agg [.d (.v (.int .i64 p0.Kind)), .d (.v (.int .i64 p0.A.X)), .d (.v (.int .i64 p0.A.Y)), .d (.v (.int .i64 p0.B.X)), .d (.v (.int .i64 p0.B.Y)), .d (.v (.int .i64 p0.R)), .d (.v (.string p0.Name))]] [] (.d (.v (.bool r))) := by
  refine fnc_intro (T := tt) (N := 6) tok Tryz.func38 rfl rfl (by kernel_rfl) rfl rfl ?_
  unfold i_ValidDrawing_1_m at h0
  refine sq [0,1] ?_
  refine rs rfl w0 rfl (st_box 3 (cs := _ :: _) rfl rfl rfl) ?_
  refine pa ?_
  refine nx ?_
  refine sq [0,1,2,3] ?_
  refine rl rfl w0 rfl (bx_ldN tok rfl rfl rfl rfl) ?_
  obtain ⟨v1, hv1, h0⟩ := bnd h0
  refine rs rfl w0 rfl (c_call 4 (i_validShape_c hv1) rfl rfl rfl) ?_
  refine rp rfl w0 rfl (pu_not rfl) ?_
  refine pa ?_
  refine nx ?_
  refine aw_ret ?_
  cases h0
  exact ret0_ (rs := [.tmp 2]) rfl

theorem slices_IndexFunc_LShape_Shape_i_ValidDrawing_1_c {p0 : List Shape_} {r : Int} (h0 : slices_IndexFunc_LShape_Shape_i_ValidDrawing_1_m p0 = some r) : FnC Tryz.prog 63 [] [.d (.sl (List.map cShape_ p0)), .fn 38 []] [] (.d (.v (.int .i64 r))) := by
  refine fnc_intro (T := tt) (N := 19) tok Tryz.func63 rfl rfl (by kernel_rfl) rfl rfl ?_
  unfold slices_IndexFunc_LShape_Shape_i_ValidDrawing_1_m at h0
  refine sq [0] ?_
  refine pa ?_
  refine nx ?_
  obtain ⟨v7x, h1, h0⟩ := bnd h0
  refine aw_cutE v7x (fun v7 => ⟨(fun _ => .dead), lks [.no, .no, .no]⟩) ?_ ?_
  refine sq [0,1,2] ?_
  refine pm ?_
  refine rp rfl w0 rfl (pu_len_map tok rfl rfl rfl) ?_
  refine pm ?_
  refine nx ?_
  refine aw_block ?_
  refine aw_loopM (fun s4 => ⟨updA (updA (updA (updA ((fun _ => .dead)) 0 (.d (.sl (List.map cShape_ p0)))) 1 (.fn 38 [])) 7 (.d (.v (.int .i64 (p0.length : Int))))) 8 (.d (.v (.int .i64 s4))), lks [.no, .no, .no]⟩) h1 ?_ (fun s4 y h2 => ?_)
  exact wk [0, 1, 2]
  refine sq [0] ?_
  refine rp rfl w0 rfl (pu_lss rfl rfl) ?_
  refine nx ?_
  refine aw_seq ?_
  refine aw_if h2 rfl (fun hc h2 => ?_) (fun hc h2 => ?_)
  refine sk ?_
  refine aw_seq ?_
  refine aw_block ?_
  refine sq [0,1] ?_
  refine pm ?_
  refine pa ?_
  refine nx ?_
  refine sq [0,1,2,3,4,5] ?_
  refine rp rfl w0 rfl (pu_move (r := .fn _ _) rfl) ?_
  refine pm ?_
  refine pm ?_
  obtain ⟨v5, hv5, h2⟩ := bnd h2
  refine rp rfl w0 rfl (sl_ix tok hv5 rfl rfl rfl rfl rfl rfl) ?_
  refine rp rfl w0 rfl (pu_load_refN tok rfl rfl rfl (by repeat (first | exact SegD.z _ | apply SegD.t))) ?_
  obtain ⟨v6, hv6, h2⟩ := bnd h2
  refine rs rfl w0 rfl (c_call 3 (i_ValidDrawing_1_c hv6) rfl rfl rfl) ?_
  refine nx ?_
  refine aw_ifB h2 rfl (fun hc h2 => ?_) (fun hc h2 => ?_)
  refine sq [0,1] ?_
  refine pm ?_
  refine pa ?_
  refine nx ?_
  refine aw_ret ?_
  refine block_r ?_
  refine then_r ?_
  cases h2
  refine loop_r ⟨_, rfl, fun e => ?_⟩
  subst e
  refine block_r ?_
  replace h0 := orE_s h0
  refine then_r ?_
  cases h0
  exact ret0_ (rs := [.tmp 4]) rfl
  refine aw_skip ?_
  refine block_n ?_
  refine then_n ?_
  refine sr [0,1] ?_
  refine rp rfl w0 rfl (pw_add rfl rfl) ?_
  refine pm ?_
  refine ra_nil ?_
  refine loop_n ?_
  cases h2
  refine ⟨_, rfl, ?_⟩
  exact wk [0, 1, 2]
  refine aw_exit ?_
  refine then_e ?_
  cases h2
  refine loop_x ⟨_, rfl, fun e => ?_⟩
  subst e
  refine block_hit ?_
  refine then_n ?_
  refine ⟨_, rfl, ?_⟩
  exact wk [0, 1, 2]
  rintro v7 rfl
  replace h0 := orE_f h0
  refine sq [0] ?_
  refine pa ?_
  refine nx ?_
  refine aw_ret ?_
  cases h0
  exact ret0_ (rs := [.tmp 4]) rfl

theorem slices_ContainsFunc_LShape_Shape_i_ValidDrawing_1_c {p0 : List Shape_} {r : Bool} (h0 : slices_ContainsFunc_LShape_Shape_i_ValidDrawing_1_m p0 = some r) : FnC Tryz.prog 37 [] [.d (.sl (List.map cShape_ p0)), .fn 38 []] [] (.d (.v (.bool r))) := by
  refine fnc_intro (T := tt) (N := 9) tok Tryz.func37 rfl rfl (by kernel_rfl) rfl rfl ?_
  unfold slices_ContainsFunc_LShape_Shape_i_ValidDrawing_1_m at h0
  refine sq [0] ?_
  refine pa ?_
  refine nx ?_
  refine sq [0,1,2,3,4] ?_
  refine pm ?_
  refine rp rfl w0 rfl (pu_move (r := .fn _ _) rfl) ?_
  obtain ⟨v1, hv1, h0⟩ := bnd h0
  refine rs rfl w0 rfl (c_call 3 (slices_IndexFunc_LShape_Shape_i_ValidDrawing_1_c hv1) rfl rfl rfl) ?_
  refine rp rfl w0 rfl (pu_geq rfl rfl) ?_
  refine pa ?_
  refine nx ?_
  refine aw_ret ?_
  cases h0
  exact ret0_ (rs := [.tmp 4]) rfl

theorem i_ValidDrawing_c {p0 : Drawing_} {r : Bool} (h0 : i_ValidDrawing_m p0 = some r) : FnC Tryz.prog 17 [] [.agg [.d (.sl (List.map cShape_ p0.Shapes))]] [] (.d (.v (.bool r))) := by
  refine fnc_intro (T := tt) (N := 13) tok Tryz.func17 rfl rfl (by kernel_rfl) rfl rfl ?_
  unfold i_ValidDrawing_m at h0
  refine sq [0,1] ?_
  refine rs rfl w0 rfl (st_box 3 (cs := _ :: _) rfl rfl rfl) ?_
  refine pa ?_
  refine nx ?_
  refine sq [0,1,2,3,4,5,6,7,8,9,10] ?_
  refine fa tok ?_
  refine ld tok ?_
  refine rp rfl w0 rfl (pu_len_map tok rfl rfl rfl) ?_
  refine rp rfl w0 rfl (pu_leq rfl rfl) ?_
  refine pm ?_
  refine ra_if (u := 7) h0 rfl (fun hc h0 => ?_) (fun hc h0 => ?_)
  refine fa1 tok ?_
  refine ld1 tok ?_
  obtain ⟨v1, hv1, h0⟩ := bnd h0
  refine rs rfl (w1 rfl rfl rfl) rfl (c_call 4 (slices_ContainsFunc_LShape_Shape_i_ValidDrawing_1_c hv1) rfl rfl rfl) ?_
  refine rp rfl (w1 rfl rfl rfl) rfl (pu_not rfl) ?_
  refine pkt ?_
  refine pa ?_
  refine nx ?_
  refine aw_ret ?_
  cases h0
  exact ret0_ (rs := [.tmp 2]) rfl
  iterate 4 refine k1 ?_
  refine pkf ?_
  refine pa ?_
  refine nx ?_
  refine aw_ret ?_
  cases h0
  exact ret0_ (rs := [.tmp 2]) rfl

theorem slices_Grow_LShape_Shape_n_c {p1 : Int} {r : List Shape_} (h0 : slices_Grow_LShape_Shape_n_m p1 = some r) : FnC Tryz.prog 60 [] [.d (.v (.slice none 0 0)), .d (.v (.int .i64 p1))] [.live [⟨44, 7, .data (List.map cShape_ r)⟩]] (.own 0 0 r.length) := by
  refine fnc_intro (T := tt) (N := 27) tok Tryz.func60 rfl rfl (by kernel_rfl) rfl rfl ?_
  unfold slices_Grow_LShape_Shape_n_m at h0
  refine sq [0] ?_
  refine pa ?_
  refine nx ?_
  obtain ⟨v1, h1, h0⟩ := bnd h0
  refine aw_cut ⟨updA (updA ((fun _ => .dead)) 0 (.d (.v (.slice none 0 0)))) 1 (.d (.v (.int .i64 p1))), lks [.no, .no, .no]⟩ ?_ ?_
  refine sq [0,1] ?_
  refine pm ?_
  refine rp rfl w0 rfl (pu_lss rfl rfl) ?_
  refine nx ?_
  refine aw_if h1 rfl (fun hc h1 => ?_) (fun hc h1 => ?_)
  cases h1
  refine sk ?_
  cases h1
  exact wk [0, 1, 2]
  obtain ⟨v4, h1, h0⟩ := bnd h0
  refine aw_cut ⟨updA ((fun _ => .dead)) 0 (.own 3 0 (v4).length), lks [.no, .no, .no, .live [⟨44, 7, .data (List.map cShape_ v4)⟩]]⟩ ?_ ?_
  refine sq [0,1,2,3,4,5,6,7] ?_
  refine pm ?_
  refine pm ?_
  refine rp rfl w0 rfl (pu_cap_nil tok rfl rfl rfl) ?_
  refine pm ?_
  refine rp rfl w0 rfl (pu_len_nil tok rfl rfl rfl) ?_
  refine rp rfl w0 rfl (pw_sub rfl rfl) ?_
  refine rp rfl w0 rfl (pw_sub rfl rfl) ?_
  refine pa ?_
  refine nx ?_
  refine sq [0,1] ?_
  refine pm ?_
  refine rp rfl w0 rfl (pu_gtr rfl rfl) ?_
  refine nx ?_
  refine aw_if h1 rfl (fun hc h1 => ?_) (fun hc h1 => ?_)
  refine sr [0,1,2,3,4,5,6,7,8,9] ?_
  refine pm ?_
  refine pm ?_
  refine rp rfl w0 rfl (pu_cap_nil tok rfl rfl rfl) ?_
  refine rp rfl w0 rfl (pu_sub_nil tok rfl rfl rfl rfl rfl) ?_
  refine pm ?_
  obtain ⟨hq2, h1⟩ := chk_e h1
  refine rs rfl w0 rfl (ap_cnt 3 tok (c := cShape_) (⟨0, (⟨0, 0⟩ : Spot_), (⟨0, 0⟩ : Spot_), 0, (⟨#[]⟩ : ByteArray)⟩ : Shape_) hq2 rfl rfl rfl rfl rfl rfl rfl rfl rfl rfl rfl rfl rfl rfl rfl) ?_
  refine pm ?_
  refine rp rfl w0 rfl (pu_len_nil tok rfl rfl rfl) ?_
  obtain ⟨hq3, h1⟩ := chk_e h1
  refine rw1 rfl w0 rfl (ow_sub 4 tok hq3 rfl rfl rfl rfl rfl rfl rfl rfl) ?_
  refine rp rfl w0 rfl (pu_assign (r := .own _ _ _) rfl) ?_
  refine nx ?_
  cases h1
  exact wk [0, 1, 2, 4]
  refine sk ?_
  cases h1
  refine Weak.trans_ (weak_adopt_t 3 rfl 44 7 (d := 0) rfl) ?_
  exact wk [0, 1, 2, 3]
  refine sq [0,1] ?_
  refine rp rfl w0 rfl (pu_move (r := .own _ _ _) rfl) ?_
  refine rp rfl w0 rfl (pu_assign (r := .own _ _ _) rfl) ?_
  refine nx ?_
  refine aw_ret ?_
  cases h0
  exact retK_ (rs := [.tmp 4]) [3] rfl

theorem slices_Concat_LShape_Shape_c {p0 : List (List Shape_)} {r : List Shape_} (h0 : slices_Concat_LShape_Shape_m p0 = some r) : FnC Tryz.prog 33 [] [.d (.sl (List.map (cL cShape_) p0))] [.live [⟨44, 7, .data (List.map cShape_ r)⟩]] (.own 0 0 r.length) := by
  refine fnc_intro (T := tt) (N := 36) tok Tryz.func33 rfl rfl (by kernel_rfl) rfl rfl ?_
  unfold slices_Concat_LShape_Shape_m at h0
  refine sq [0] ?_
  refine pa ?_
  refine nx ?_
  refine sq [0] ?_
  refine pa ?_
  refine nx ?_
  obtain ⟨v7, h1, h0⟩ := bnd h0
  refine aw_cut ⟨updA (updA ((fun _ => .dead)) 0 (.d (.sl (List.map (cL cShape_) p0)))) 3 (.d (.v (.int .i64 v7))), lks [.no, .no, .no]⟩ ?_ ?_
  refine sq [0,1,2] ?_
  refine pm ?_
  refine rp rfl w0 rfl (pu_len_map tok rfl rfl rfl) ?_
  refine pm ?_
  refine nx ?_
  refine aw_block ?_
  refine aw_loopM (fun s4 => ⟨updA (updA (updA (updA (updA ((fun _ => .dead)) 0 (.d (.sl (List.map (cL cShape_) p0)))) 3 (.d (.v (.int .i64 s4.1)))) 9 (.d (.sl (List.map (cL cShape_) p0)))) 10 (.d (.v (.int .i64 (p0.length : Int))))) 11 (.d (.v (.int .i64 s4.2))), lks [.no, .no, .no]⟩) h1 ?_ (fun s4 y h2 => ?_)
  exact wk [0, 1, 2]
  refine sq [0] ?_
  refine rp rfl w0 rfl (pu_lss rfl rfl) ?_
  refine nx ?_
  refine aw_seq ?_
  refine aw_if h2 rfl (fun hc h2 => ?_) (fun hc h2 => ?_)
  refine sk ?_
  obtain ⟨v6, h3, h2⟩ := bnd h2
  refine aw_cut ⟨updA (updA (updA (updA (updA ((fun _ => .dead)) 0 (.d (.sl (List.map (cL cShape_) p0)))) 3 (.d (.v (.int .i64 v6)))) 9 (.d (.sl (List.map (cL cShape_) p0)))) 10 (.d (.v (.int .i64 (p0.length : Int))))) 11 (.d (.v (.int .i64 s4.2))), lks [.no, .no, .no]⟩ ?_ ?_
  refine aw_block ?_
  refine sq [0,1,2] ?_
  obtain ⟨v5, hv5, h3⟩ := bnd h3
  refine rp rfl w0 rfl (sl_ix tok hv5 rfl rfl rfl rfl rfl rfl) ?_
  refine lr tok ?_
  refine pa ?_
  refine nx ?_
  refine sq [0,1,2,3,4] ?_
  refine pm ?_
  refine pm ?_
  refine rp rfl w0 rfl (pu_len_map tok rfl rfl rfl) ?_
  refine rp rfl w0 rfl (pw_add rfl rfl) ?_
  refine pa ?_
  refine nx ?_
  refine sq [0,1] ?_
  refine pm ?_
  refine rp rfl w0 rfl (pu_lss rfl rfl) ?_
  refine nx ?_
  refine aw_if h3 rfl (fun hc h3 => ?_) (fun hc h3 => ?_)
  cases h3
  refine aw_skip ?_
  refine block_n ?_
  refine then_n ?_
  cases h3
  exact wk [0, 1, 2]
  refine sr [0,1] ?_
  refine rp rfl w0 rfl (pw_add rfl rfl) ?_
  refine pm ?_
  refine ra_nil ?_
  refine loop_n ?_
  cases h2
  refine ⟨_, rfl, ?_⟩
  exact wk [0, 1, 2]
  refine aw_exit ?_
  refine then_e ?_
  cases h2
  refine loop_x ⟨_, rfl, fun e => ?_⟩
  subst e
  refine block_hit ?_
  refine then_n ?_
  exact wk [0, 1, 2]
  refine sq [0,1,2] ?_
  refine pm ?_
  obtain ⟨v8, hv8, h0⟩ := bnd h0
  refine rs rfl w0 rfl (c_call 3 (slices_Grow_LShape_Shape_n_c hv8) rfl rfl rfl) ?_
  refine rp rfl w0 rfl (pu_assign (r := .own _ _ _) rfl) ?_
  refine nx ?_
  obtain ⟨v15, h1, h0⟩ := bnd h0
  refine aw_cut ⟨updA ((fun _ => .dead)) 6 (.own 3 0 (v15).length), lks [.no, .no, .no, .live [⟨44, 7, .data (List.map cShape_ v15)⟩]]⟩ ?_ ?_
  refine sq [0,1,2] ?_
  refine pm ?_
  refine rp rfl w0 rfl (pu_len_map tok rfl rfl rfl) ?_
  refine pm ?_
  refine nx ?_
  refine aw_block ?_
  refine aw_loopM (fun s12 => ⟨updA (updA (updA (updA ((fun _ => .dead)) 6 (.own 3 0 (s12.2).length)) 25 (.d (.sl (List.map (cL cShape_) p0)))) 26 (.d (.v (.int .i64 (p0.length : Int))))) 27 (.d (.v (.int .i64 s12.1))), lks [.no, .no, .no, .live [⟨44, 7, .data (List.map cShape_ s12.2)⟩]]⟩) h1 ?_ (fun s12 y h2 => ?_)
  exact wk [0, 1, 2, 3]
  refine sq [0] ?_
  refine rp rfl w0 rfl (pu_lss rfl rfl) ?_
  refine nx ?_
  refine aw_seq ?_
  refine aw_if h2 rfl (fun hc h2 => ?_) (fun hc h2 => ?_)
  refine sk ?_
  refine aw_seq ?_
  refine aw_block ?_
  refine sq [0,1,2] ?_
  obtain ⟨v13, hv13, h2⟩ := bnd h2
  refine rp rfl w0 rfl (sl_ix tok hv13 rfl rfl rfl rfl rfl rfl) ?_
  refine lr tok ?_
  refine pa ?_
  refine nx ?_
  refine sr [0,1,2,3] ?_
  refine rp rfl w0 rfl (pu_move (r := .own _ _ _) rfl) ?_
  refine pm ?_
  obtain ⟨hq14, h2⟩ := chk_e h2
  refine rw1 rfl w0 rfl (ap_own tok hq14 rfl rfl rfl rfl rfl rfl rfl rfl rfl rfl rfl rfl (fun _ => rfl)) ?_
  refine rp rfl w0 rfl (pu_assign (r := .own _ _ _) rfl) ?_
  refine ra_nil ?_
  refine block_n ?_
  refine then_n ?_
  refine sr [0,1] ?_
  refine rp rfl w0 rfl (pw_add rfl rfl) ?_
  refine pm ?_
  refine ra_nil ?_
  refine loop_n ?_
  cases h2
  refine ⟨_, rfl, ?_⟩
  exact wk [0, 1, 2, 3]
  refine aw_exit ?_
  refine then_e ?_
  cases h2
  refine loop_x ⟨_, rfl, fun e => ?_⟩
  subst e
  refine block_hit ?_
  refine then_n ?_
  exact wk [0, 1, 2, 3]
  refine sq [0,1] ?_
  refine rp rfl w0 rfl (pu_move (r := .own _ _ _) rfl) ?_
  refine rp rfl w0 rfl (pu_assign (r := .own _ _ _) rfl) ?_
  refine nx ?_
  refine aw_ret ?_
  cases h0
  exact retK_ (rs := [.tmp 2]) [3] rfl

theorem i_JoinDrawings_c {p0 : Drawing_} {p1 : Drawing_} {r : Drawing_ × Int} (h0 : i_JoinDrawings_m p0 p1 = some r) : FnC Tryz.prog 12 [] [.agg [.d (.sl (List.map cShape_ p0.Shapes))], .agg [.d (.sl (List.map cShape_ p1.Shapes))]] [.live [⟨44, 7, .data (List.map cShape_ r.1.Shapes)⟩]] (.tup [.agg [.own 0 0 r.1.Shapes.length], .d (.v (.int .i64 r.2))]) := by
  refine fnc_intro (T := tt) (N := 31) tok Tryz.func12 rfl rfl (by kernel_rfl) rfl rfl ?_
  unfold i_JoinDrawings_m at h0
  refine sq [0,1,2,3] ?_
  refine rs rfl w0 rfl (st_box 3 (cs := _ :: _) rfl rfl rfl) ?_
  refine rs rfl w0 rfl (st_box 4 (cs := _ :: _) rfl rfl rfl) ?_
  refine rs rfl w0 rfl (st_alloc 5 (cs := [.d (.v (.slice none 0 0))]) tok rfl rfl rfl) ?_
  refine pa ?_
  refine nx ?_
  refine aw_seq ?_
  obtain ⟨v3, h1, h0⟩ := bnd h0
  refine aw_cut ⟨updA (updA (updA (updA ((fun _ => .dead)) 2 (.ptr 3 0 1 0 0)) 3 (.ptr 4 0 1 0 0)) 4 (.ptr 5 0 1 0 0)) 13 (.d (.v (.bool v3))), lks [.no, .no, .no, .live [⟨24, 1, .av [[.d (.sl (List.map cShape_ p0.Shapes))]]⟩], .live [⟨24, 1, .av [[.d (.sl (List.map cShape_ p1.Shapes))]]⟩], .live [⟨24, 1, .av [[.d (.v (.slice none 0 0))]]⟩]]⟩ ?_ ?_
  refine sr [0,1,2,3,4,5,6,7] ?_
  refine rl rfl w0 rfl (bx_ldN tok rfl rfl rfl rfl) ?_
  obtain ⟨v1, hv1, h1⟩ := bnd h1
  refine rs rfl w0 rfl (c_call 6 (i_ValidDrawing_c hv1) rfl rfl rfl) ?_
  refine rp rfl w0 rfl (pu_not rfl) ?_
  refine pm ?_
  refine ra_ifB (u := 9) h1 rfl (fun hc h1 => ?_) (fun hc h1 => ?_)
  iterate 3 refine k1 ?_
  refine pkt ?_
  refine nx ?_
  cases h1
  exact wk [0, 1, 2, 3, 4, 5]
  refine rl rfl (w1 rfl rfl rfl) rfl (bx_ldN tok rfl rfl rfl rfl) ?_
  obtain ⟨v2, hv2, h1⟩ := bnd h1
  refine rs rfl (w1 rfl rfl rfl) rfl (c_call 6 (i_ValidDrawing_c hv2) rfl rfl rfl) ?_
  refine rp rfl (w1 rfl rfl rfl) rfl (pu_not rfl) ?_
  refine pkf ?_
  refine nx ?_
  cases h1
  exact wk [0, 1, 2, 3, 4, 5]
  refine aw_ifB h0 rfl (fun hc h0 => ?_) (fun hc h0 => ?_)
  refine sq [0,1,2] ?_
  refine rp rfl w0 rfl (pbl (C0 := [.d (.v (.slice none 0 0))]) tok rfl rfl rfl) ?_
  refine rw0 rfl w0 (bx_st (cs := _ :: _) tok rfl rfl rfl rfl rfl rfl rfl) ?_
  refine pa ?_
  refine nx ?_
  refine aw_weak (weak_adopt 6 rfl 44 7 (kb := 5) (j := 0) rfl rfl (by repeat (first | exact Spl.z _ | apply Spl.t | apply Spl.d))) ?_
  refine aw_ret ?_
  refine then_r ?_
  cases h0
  exact retK_ (rs := [.cell 4 24, .tmp 5]) [6] rfl
  refine sk ?_
  refine aw_seq ?_
  refine sq [0,1,2,3,4,5,6,7] ?_
  refine fa tok ?_
  refine ld tok ?_
  refine rp rfl w0 rfl (pu_len_map tok rfl rfl rfl) ?_
  refine fa tok ?_
  refine ld tok ?_
  refine rp rfl w0 rfl (pu_len_map tok rfl rfl rfl) ?_
  refine rp rfl w0 rfl (pw_add rfl rfl) ?_
  refine rp rfl w0 rfl (pu_gtr rfl rfl) ?_
  refine nx ?_
  refine aw_if h0 rfl (fun hc h0 => ?_) (fun hc h0 => ?_)
  refine sq [0,1,2] ?_
  refine rp rfl w0 rfl (pbl (C0 := [.d (.v (.slice none 0 0))]) tok rfl rfl rfl) ?_
  refine rw0 rfl w0 (bx_st (cs := _ :: _) tok rfl rfl rfl rfl rfl rfl rfl) ?_
  refine pa ?_
  refine nx ?_
  refine aw_weak (weak_adopt 6 rfl 44 7 (kb := 5) (j := 0) rfl rfl (by repeat (first | exact Spl.z _ | apply Spl.t | apply Spl.d))) ?_
  refine aw_ret ?_
  refine then_r ?_
  cases h0
  exact retK_ (rs := [.cell 4 24, .tmp 5]) [6] rfl
  refine sk ?_
  refine sq [0,1,2,3,4,5,6,7,8] ?_
  refine fa tok ?_
  refine ld tok ?_
  refine fa tok ?_
  refine ld tok ?_
  refine rs rfl w0 rfl (bs_val tok (cL cShape_) [p0.Shapes, p1.Shapes] rfl rfl rfl (by repeat (first | exact Els.nil _ | apply Els.cons (cs := [.d _]) rfl rfl rfl | apply Els.cons (cs := _ :: _) rfl rfl rfl)) rfl rfl rfl (by repeat (first | exact AllDD.nil | (apply AllDD.cons; (repeat (first | exact AllD.nil | apply AllD.cons))))) rfl) ?_
  obtain ⟨v4, hv4, h0⟩ := bnd h0
  refine rs rfl w0 rfl (c_call 6 (slices_Concat_LShape_Shape_c hv4) rfl rfl rfl) ?_
  refine rp rfl w0 rfl (pbl (C0 := [.d (.v (.slice none 0 0))]) tok rfl rfl rfl) ?_
  refine rw0 rfl w0 (bx_st (cs := _ :: _) tok rfl rfl rfl rfl rfl rfl rfl) ?_
  refine pa ?_
  refine nx ?_
  refine aw_ret ?_
  cases h0
  exact retK_ (rs := [.cell 4 24, .tmp 5]) [6] rfl

theorem s_l00In_c {p0 : Int} {p1 : Int} {p2 : Int} {r : Bool} (h0 : s_l00In_m p0 p1 p2 = some r) : FnC Tryz.prog 72 [] [.d (.v (.int .i64 p0)), .d (.v (.int .i64 p1)), .d (.v (.int .i64 p2))] [] (.d (.v (.bool r))) := by
  refine fnc_intro (T := tt) (N := 15) tok Tryz.func72 rfl rfl (by kernel_rfl) rfl rfl ?_
  unfold s_l00In_m at h0
  refine sq [0] ?_
  refine pa ?_
  refine nx ?_
  refine sq [0,1,2,3,4,5,6,7,8] ?_
  refine pm ?_
  refine pm ?_
  refine rp rfl w0 rfl (pu_geq rfl rfl) ?_
  refine pm ?_
  refine ra_if (u := 10) h0 rfl (fun hc h0 => ?_) (fun hc h0 => ?_)
  refine pm1 ?_
  refine pm1 ?_
  refine rp rfl (w1 rfl rfl rfl) rfl (pu_leq rfl rfl) ?_
  refine pkt ?_
  refine pa ?_
  refine nx ?_
  refine aw_ret ?_
  cases h0
  exact ret0_ (rs := [.tmp 6]) rfl
  iterate 3 refine k1 ?_
  refine pkf ?_
  refine pa ?_
  refine nx ?_
  refine aw_ret ?_
  cases h0
  exact ret0_ (rs := [.tmp 6]) rfl

theorem s_l25Spot_c {p0 : Spot_} {r : Bool} (h0 : s_l25Spot_m p0 = some r) : FnC Tryz.prog 71 [] [.agg [.d (.v (.int .i64 p0.X)), .d (.v (.int .i64 p0.Y))]] [] (.d (.v (.bool r))) := by
  refine fnc_intro (T := tt) (N := 11) tok Tryz.func71 rfl rfl (by kernel_rfl) rfl rfl ?_
  unfold s_l25Spot_m at h0
  refine sq [0,1] ?_
  refine rs rfl w0 rfl (st_box 3 (cs := _ :: _) rfl rfl rfl) ?_
  refine pa ?_
  refine nx ?_
  refine sq [0,1,2,3,4,5,6,7,8] ?_
  refine fa tok ?_
  refine ld tok ?_
  obtain ⟨v1, hv1, h0⟩ := bnd h0
  refine rs rfl w0 rfl (c_call 4 (s_l00In_c hv1) rfl rfl rfl) ?_
  refine pm ?_
  refine ra_ifB (u := 6) h0 rfl (fun hc h0 => ?_) (fun hc h0 => ?_)
  refine fa1 tok ?_
  refine ld1 tok ?_
  obtain ⟨v2, hv2, h0⟩ := bnd h0
  refine rs rfl (w1 rfl rfl rfl) rfl (c_call 4 (s_l00In_c hv2) rfl rfl rfl) ?_
  refine pkt ?_
  refine pa ?_
  refine nx ?_
  refine aw_ret ?_
  cases h0
  exact ret0_ (rs := [.tmp 2]) rfl
  iterate 3 refine k1 ?_
  refine pkf ?_
  refine pa ?_
  refine nx ?_
  refine aw_ret ?_
  cases h0
  exact ret0_ (rs := [.tmp 2]) rfl

theorem s_l01Small_c {p0 : Int} {r : Bool} (h0 : s_l01Small_m p0 = some r) : FnC Tryz.prog 83 [] [.d (.v (.int .u8 p0))] [] (.d (.v (.bool r))) := by
  refine fnc_intro (T := tt) (N := 9) tok Tryz.func83 rfl rfl (by kernel_rfl) rfl rfl ?_
  unfold s_l01Small_m at h0
  refine sq [0] ?_
  refine pa ?_
  refine nx ?_
  refine sq [0,1,2,3,4,5,6] ?_
  refine pm ?_
  refine rp rfl w0 rfl (pu_geq rfl rfl) ?_
  refine pm ?_
  refine ra_if (u := 5) h0 rfl (fun hc h0 => ?_) (fun hc h0 => ?_)
  refine pm1 ?_
  refine rp rfl (w1 rfl rfl rfl) rfl (pu_leq rfl rfl) ?_
  refine pkt ?_
  refine pa ?_
  refine nx ?_
  refine aw_ret ?_
  cases h0
  exact ret0_ (rs := [.tmp 2]) rfl
  refine k1 ?_
  refine k1 ?_
  refine pkf ?_
  refine pa ?_
  refine nx ?_
  refine aw_ret ?_
  cases h0
  exact ret0_ (rs := [.tmp 2]) rfl

theorem s_l01Digit_c {p0 : Int} {r : Bool} (h0 : s_l01Digit_m p0 = some r) : FnC Tryz.prog 69 [] [.d (.v (.int .u8 p0))] [] (.d (.v (.bool r))) := by
  refine fnc_intro (T := tt) (N := 9) tok Tryz.func69 rfl rfl (by kernel_rfl) rfl rfl ?_
  unfold s_l01Digit_m at h0
  refine sq [0] ?_
  refine pa ?_
  refine nx ?_
  refine sq [0,1,2,3,4,5,6] ?_
  refine pm ?_
  refine rp rfl w0 rfl (pu_geq rfl rfl) ?_
  refine pm ?_
  refine ra_if (u := 5) h0 rfl (fun hc h0 => ?_) (fun hc h0 => ?_)
  refine pm1 ?_
  refine rp rfl (w1 rfl rfl rfl) rfl (pu_leq rfl rfl) ?_
  refine pkt ?_
  refine pa ?_
  refine nx ?_
  refine aw_ret ?_
  cases h0
  exact ret0_ (rs := [.tmp 2]) rfl
  refine k1 ?_
  refine k1 ?_
  refine pkf ?_
  refine pa ?_
  refine nx ?_
  refine aw_ret ?_
  cases h0
  exact ret0_ (rs := [.tmp 2]) rfl

theorem s_IsName_c {p0 : ByteArray} {r : Bool} (h0 : s_IsName_m p0 = some r) : FnC Tryz.prog 73 [] [.d (.v (.string p0))] [] (.d (.v (.bool r))) := by
  refine fnc_intro (T := tt) (N := 41) tok Tryz.func73 rfl rfl (by kernel_rfl) rfl rfl ?_
  unfold s_IsName_m at h0
  refine sq [0] ?_
  refine pa ?_
  refine nx ?_
  refine aw_seq ?_
  obtain ⟨v3, h1, h0⟩ := bnd h0
  refine aw_cut ⟨updA (updA ((fun _ => .dead)) 0 (.d (.v (.string p0)))) 16 (.d (.v (.bool v3))), lks [.no, .no, .no]⟩ ?_ ?_
  refine sr [0,1,2,3,4,5,6,7,8,9,10,11,12] ?_
  refine pm ?_
  refine rp rfl w0 rfl (pu_seql rfl rfl) ?_
  refine pm ?_
  refine ra_if (u := 6) h1 rfl (fun hc h1 => ?_) (fun hc h1 => ?_)
  iterate 3 refine k1 ?_
  refine pkt ?_
  refine pm ?_
  iterate 4 refine k1 ?_
  refine pkt ?_
  refine nx ?_
  cases h1
  exact wk [0, 1, 2]
  refine pm1 ?_
  refine rp rfl (w1 rfl rfl rfl) rfl (pu_len_str tok rfl rfl rfl) ?_
  refine rp rfl (w1 rfl rfl rfl) rfl (pu_gtr rfl rfl) ?_
  refine pkf ?_
  refine pm ?_
  refine ra_if (u := 11) h1 rfl (fun hc h1 => ?_) (fun hc h1 => ?_)
  iterate 4 refine k1 ?_
  refine pkt ?_
  refine nx ?_
  cases h1
  exact wk [0, 1, 2]
  refine pm1 ?_
  obtain ⟨v1, hv1, h1⟩ := bnd h1
  refine rp rfl (w1 rfl rfl rfl) rfl (pu_sidx tok hv1 rfl rfl rfl rfl) ?_
  obtain ⟨v2, hv2, h1⟩ := bnd h1
  refine rs rfl (w1 rfl rfl rfl) rfl (c_call 3 (s_l01Small_c hv2) rfl rfl rfl) ?_
  refine rp rfl (w1 rfl rfl rfl) rfl (pu_not rfl) ?_
  refine pkf ?_
  refine nx ?_
  cases h1
  exact wk [0, 1, 2]
  refine aw_ifB h0 rfl (fun hc h0 => ?_) (fun hc h0 => ?_)
  refine sq [0] ?_
  refine pa ?_
  refine nx ?_
  refine aw_ret ?_
  refine then_r ?_
  cases h0
  exact ret0_ (rs := [.tmp 2]) rfl
  refine sk ?_
  obtain ⟨v18x, h1, h0⟩ := bnd h0
  refine aw_cutE v18x (fun v18 => ⟨(fun _ => .dead), lks [.no, .no, .no]⟩) ?_ ?_
  refine sq [0] ?_
  refine pa ?_
  refine nx ?_
  refine aw_block ?_
  refine aw_loopM (fun s11 => ⟨updA (updA ((fun _ => .dead)) 0 (.d (.v (.string p0)))) 3 (.d (.v (.int .i64 s11))), lks [.no, .no, .no]⟩) h1 ?_ (fun s11 y h2 => ?_)
  exact wk [0, 1, 2]
  refine aw_seq ?_
  refine sq [0,1,2,3] ?_
  refine pm ?_
  refine pm ?_
  refine rp rfl w0 rfl (pu_len_str tok rfl rfl rfl) ?_
  refine rp rfl w0 rfl (pu_lss rfl rfl) ?_
  refine nx ?_
  refine aw_if h2 rfl (fun hc h2 => ?_) (fun hc h2 => ?_)
  refine sk ?_
  refine aw_seq ?_
  refine aw_block ?_
  obtain ⟨v17, h3, h2⟩ := bnd h2
  refine aw_cut ⟨updA (updA (updA ((fun _ => .dead)) 0 (.d (.v (.string p0)))) 3 (.d (.v (.int .i64 s11)))) 40 (.d (.v (.bool v17))), lks [.no, .no, .no]⟩ ?_ ?_
  refine sr [0,1,2,3,4,5,6,7,8,9,10,11,12,13,14,15,16,17] ?_
  refine pm ?_
  refine pm ?_
  obtain ⟨v12, hv12, h3⟩ := bnd h3
  refine rp rfl w0 rfl (pu_sidx tok hv12 rfl rfl rfl rfl) ?_
  obtain ⟨v13, hv13, h3⟩ := bnd h3
  refine rs rfl w0 rfl (c_call 3 (s_l01Small_c hv13) rfl rfl rfl) ?_
  refine rp rfl w0 rfl (pu_not rfl) ?_
  refine pm ?_
  refine ra_ifB (u := 28) h3 rfl (fun hc h3 => ?_) (fun hc h3 => ?_)
  refine pm1 ?_
  refine pm1 ?_
  obtain ⟨v14, hv14, h3⟩ := bnd h3
  refine rp rfl (w1 rfl rfl rfl) rfl (pu_sidx tok hv14 rfl rfl rfl rfl) ?_
  obtain ⟨v15, hv15, h3⟩ := bnd h3
  refine rs rfl (w1 rfl rfl rfl) rfl (c_call 3 (s_l01Digit_c hv15) rfl rfl rfl) ?_
  refine rp rfl (w1 rfl rfl rfl) rfl (pu_not rfl) ?_
  refine pkt ?_
  refine pm ?_
  refine ra_ifB (u := 35) h3 rfl (fun hc h3 => ?_) (fun hc h3 => ?_)
  refine pm1 ?_
  refine pm1 ?_
  obtain ⟨v16, hv16, h3⟩ := bnd h3
  refine rp rfl (w1 rfl rfl rfl) rfl (pu_sidx tok hv16 rfl rfl rfl rfl) ?_
  refine rp rfl (w1 rfl rfl rfl) rfl (pu_neq rfl rfl) ?_
  refine pkt ?_
  refine nx ?_
  cases h3
  exact wk [0, 1, 2]
  iterate 4 refine k1 ?_
  refine pkf ?_
  refine nx ?_
  cases h3
  exact wk [0, 1, 2]
  iterate 5 refine k1 ?_
  refine pkf ?_
  refine pm ?_
  iterate 4 refine k1 ?_
  refine pkf ?_
  refine nx ?_
  cases h3
  exact wk [0, 1, 2]
  refine aw_ifB h2 rfl (fun hc h2 => ?_) (fun hc h2 => ?_)
  refine sq [0] ?_
  refine pa ?_
  refine nx ?_
  refine aw_ret ?_
  refine block_r ?_
  refine then_r ?_
  cases h2
  refine loop_r ⟨_, rfl, fun e => ?_⟩
  subst e
  refine block_r ?_
  replace h0 := orE_s h0
  refine then_r ?_
  cases h0
  exact ret0_ (rs := [.tmp 2]) rfl
  refine aw_skip ?_
  refine block_n ?_
  refine then_n ?_
  refine sr [0,1,2] ?_
  refine pm ?_
  refine rp rfl w0 rfl (pw_add rfl rfl) ?_
  refine pa ?_
  refine ra_nil ?_
  refine loop_n ?_
  cases h2
  refine ⟨_, rfl, ?_⟩
  exact wk [0, 1, 2]
  refine aw_exit ?_
  refine then_e ?_
  cases h2
  refine loop_x ⟨_, rfl, fun e => ?_⟩
  subst e
  refine block_hit ?_
  refine then_n ?_
  refine ⟨_, rfl, ?_⟩
  exact wk [0, 1, 2]
  rintro v18 rfl
  replace h0 := orE_f h0
  refine sq [0] ?_
  refine pa ?_
  refine nx ?_
  refine aw_ret ?_
  cases h0
  exact ret0_ (rs := [.tmp 2]) rfl

theorem s_l25Shape_c {p0 : Shape_} {r : Bool} (h0 : s_l25Shape_m p0 = some r) : FnC Tryz.prog 46 [] [.agg [.d (.v (.int .i64 p0.Kind)), .d (.v (.int .i64 p0.A.X)), .d (.v (.int .i64 p0.A.Y)), .d (.v (.int .i64 p0.B.X)), .d (.v (.int .i64 p0.B.Y)), .d (.v (.int .i64 p0.R)), .d (.v (.string p0.Name))]] [] (.d (.v (.bool r))) := by
  refine fnc_intro (T := tt) (N := 58) tok Tryz.func46 rfl rfl (by kernel_rfl) rfl rfl ?_
  unfold s_l25Shape_m at h0
  refine sq [0,1] ?_
  refine rs rfl w0 rfl (st_box 3 (cs := _ :: _) rfl rfl rfl) ?_
  refine pa ?_
  refine nx ?_
  refine aw_seq ?_
  refine sq [0,1,2,3] ?_
  refine fa tok ?_
  refine rl rfl w0 rfl (bx_ldN tok rfl rfl rfl rfl) ?_
  obtain ⟨v1, hv1, h0⟩ := bnd h0
  refine rs rfl w0 rfl (c_call 4 (s_l25Spot_c hv1) rfl rfl rfl) ?_
  refine rp rfl w0 rfl (pu_not rfl) ?_
  refine nx ?_
  refine aw_ifB h0 rfl (fun hc h0 => ?_) (fun hc h0 => ?_)
  refine sq [0] ?_
  refine pa ?_
  refine nx ?_
  refine aw_ret ?_
  refine then_r ?_
  cases h0
  exact ret0_ (rs := [.tmp 2]) rfl
  refine sk ?_
  refine sq [0,1,2] ?_
  refine rp rfl w0 rfl (pbl (C0 := [.d (.v (.int .i64 0)), .d (.v (.int .i64 0))]) tok rfl rfl rfl) ?_
  refine rs rfl w0 rfl (st_alloc 4 (cs := [.d (.v (.int .i64 0)), .d (.v (.int .i64 0))]) tok rfl rfl rfl) ?_
  refine rw0 rfl w0 (bx_st (cs := _ :: _) tok rfl rfl rfl rfl rfl rfl rfl) ?_
  refine nx ?_
  refine aw_seq ?_
  refine sq [0,1] ?_
  refine fa tok ?_
  refine ld tok ?_
  refine nx ?_
  refine aw_block ?_
  refine sq [0,1] ?_
  refine rp rfl w0 rfl (pu_eql rfl rfl) ?_
  refine pa ?_
  refine nx ?_
  refine aw_if h0 rfl (fun hc h0 => ?_) (fun hc h0 => ?_)
  refine sq [0,1,2,3,4,5,6,7,8,9,10,11,12,13] ?_
  refine fa tok ?_
  refine rl rfl w0 rfl (bx_ldN tok rfl rfl rfl rfl) ?_
  obtain ⟨v2, hv2, h0⟩ := bnd h0
  refine rs rfl w0 rfl (c_call 5 (s_l25Spot_c hv2) rfl rfl rfl) ?_
  refine pm ?_
  refine ra_ifB (u := 16) h0 rfl (fun hc h0 => ?_) (fun hc h0 => ?_)
  refine fa1 tok ?_
  refine ld1 tok ?_
  refine rp rfl (w1 rfl rfl rfl) rfl (pu_eql rfl rfl) ?_
  refine pkt ?_
  refine pm ?_
  refine ra_if (u := 21) h0 rfl (fun hc h0 => ?_) (fun hc h0 => ?_)
  refine fa1 tok ?_
  refine ld1 tok ?_
  refine rp rfl (w1 rfl rfl rfl) rfl (pu_seql rfl rfl) ?_
  refine pkt ?_
  refine pa ?_
  refine nx ?_
  refine aw_ret ?_
  refine block_r ?_
  refine then_r ?_
  cases h0
  exact ret0_ (rs := [.tmp 2]) rfl
  iterate 3 refine k1 ?_
  refine pkf ?_
  refine pa ?_
  refine nx ?_
  refine aw_ret ?_
  refine block_r ?_
  refine then_r ?_
  cases h0
  exact ret0_ (rs := [.tmp 2]) rfl
  iterate 3 refine k1 ?_
  refine pkf ?_
  refine pm ?_
  iterate 3 refine k1 ?_
  refine pkf ?_
  refine pa ?_
  refine nx ?_
  refine aw_ret ?_
  refine block_r ?_
  refine then_r ?_
  cases h0
  exact ret0_ (rs := [.tmp 2]) rfl
  refine sq [0,1] ?_
  refine rp rfl w0 rfl (pu_eql rfl rfl) ?_
  refine pa ?_
  refine nx ?_
  refine aw_if h0 rfl (fun hc h0 => ?_) (fun hc h0 => ?_)
  refine sq [0,1,2,3,4,5,6,7,8,9,10,11,12,13,14] ?_
  refine fa tok ?_
  refine rl rfl w0 rfl (bx_ldN tok rfl rfl rfl rfl) ?_
  refine rl rfl w0 rfl (bx_ldN tok rfl rfl rfl rfl) ?_
  refine rp rfl w0 rfl (ps_eql_Spot_ (a := p0.B) (b := (⟨0, 0⟩ : Spot_)) rfl rfl) ?_
  refine pm ?_
  refine ra_if (u := 32) h0 rfl (fun hc h0 => ?_) (fun hc h0 => ?_)
  refine fa1 tok ?_
  refine ld1 tok ?_
  obtain ⟨v3, hv3, h0⟩ := bnd h0
  refine rs rfl (w1 rfl rfl rfl) rfl (c_call 5 (s_l00In_c hv3) rfl rfl rfl) ?_
  refine pkt ?_
  refine pm ?_
  refine ra_ifB (u := 37) h0 rfl (fun hc h0 => ?_) (fun hc h0 => ?_)
  refine fa1 tok ?_
  refine ld1 tok ?_
  refine rp rfl (w1 rfl rfl rfl) rfl (pu_seql rfl rfl) ?_
  refine pkt ?_
  refine pa ?_
  refine nx ?_
  refine aw_ret ?_
  refine block_r ?_
  refine then_r ?_
  cases h0
  exact ret0_ (rs := [.tmp 2]) rfl
  iterate 3 refine k1 ?_
  refine pkf ?_
  refine pa ?_
  refine nx ?_
  refine aw_ret ?_
  refine block_r ?_
  refine then_r ?_
  cases h0
  exact ret0_ (rs := [.tmp 2]) rfl
  iterate 3 refine k1 ?_
  refine pkf ?_
  refine pm ?_
  iterate 3 refine k1 ?_
  refine pkf ?_
  refine pa ?_
  refine nx ?_
  refine aw_ret ?_
  refine block_r ?_
  refine then_r ?_
  cases h0
  exact ret0_ (rs := [.tmp 2]) rfl
  refine sq [0,1] ?_
  refine rp rfl w0 rfl (pu_eql rfl rfl) ?_
  refine pa ?_
  refine nx ?_
  refine aw_if h0 rfl (fun hc h0 => ?_) (fun hc h0 => ?_)
  refine sq [0,1,2,3,4,5,6,7,8,9,10,11,12,13,14] ?_
  refine fa tok ?_
  refine rl rfl w0 rfl (bx_ldN tok rfl rfl rfl rfl) ?_
  refine rl rfl w0 rfl (bx_ldN tok rfl rfl rfl rfl) ?_
  refine rp rfl w0 rfl (ps_eql_Spot_ (a := p0.B) (b := (⟨0, 0⟩ : Spot_)) rfl rfl) ?_
  refine pm ?_
  refine ra_if (u := 48) h0 rfl (fun hc h0 => ?_) (fun hc h0 => ?_)
  refine fa1 tok ?_
  refine ld1 tok ?_
  refine rp rfl (w1 rfl rfl rfl) rfl (pu_eql rfl rfl) ?_
  refine pkt ?_
  refine pm ?_
  refine ra_if (u := 53) h0 rfl (fun hc h0 => ?_) (fun hc h0 => ?_)
  refine fa1 tok ?_
  refine ld1 tok ?_
  obtain ⟨v4, hv4, h0⟩ := bnd h0
  refine rs rfl (w1 rfl rfl rfl) rfl (c_call 5 (s_IsName_c hv4) rfl rfl rfl) ?_
  refine pkt ?_
  refine pa ?_
  refine nx ?_
  refine aw_ret ?_
  refine block_r ?_
  refine then_r ?_
  cases h0
  exact ret0_ (rs := [.tmp 2]) rfl
  iterate 3 refine k1 ?_
  refine pkf ?_
  refine pa ?_
  refine nx ?_
  refine aw_ret ?_
  refine block_r ?_
  refine then_r ?_
  cases h0
  exact ret0_ (rs := [.tmp 2]) rfl
  iterate 3 refine k1 ?_
  refine pkf ?_
  refine pm ?_
  iterate 3 refine k1 ?_
  refine pkf ?_
  refine pa ?_
  refine nx ?_
  refine aw_ret ?_
  refine block_r ?_
  refine then_r ?_
  cases h0
  exact ret0_ (rs := [.tmp 2]) rfl
  refine aw_skip ?_
  refine block_n ?_
  refine then_n ?_
  refine sq [0] ?_
  refine pa ?_
  refine nx ?_
  refine aw_ret ?_
  cases h0
  exact ret0_ (rs := [.tmp 2]) rfl

theorem s_l25Ok_c {p0 : Drawing_} {r : Bool} (h0 : s_l25Ok_m p0 = some r) : FnC Tryz.prog 24 [] [.agg [.d (.sl (List.map cShape_ p0.Shapes))]] [] (.d (.v (.bool r))) := by
  refine fnc_intro (T := tt) (N := 22) tok Tryz.func24 rfl rfl (by kernel_rfl) rfl rfl ?_
  unfold s_l25Ok_m at h0
  refine sq [0,1] ?_
  refine rs rfl w0 rfl (st_box 3 (cs := _ :: _) rfl rfl rfl) ?_
  refine pa ?_
  refine nx ?_
  obtain ⟨v7x, h1, h0⟩ := bnd h0
  refine aw_cutE v7x (fun v7 => ⟨updA ((fun _ => .dead)) 1 (.ptr 3 0 1 0 0), lks [.no, .no, .no, .live [⟨24, 1, .av [[.d (.sl (List.map cShape_ p0.Shapes))]]⟩]]⟩) ?_ ?_
  refine sq [0] ?_
  refine pa ?_
  refine nx ?_
  refine aw_block ?_
  refine aw_loopM (fun s4 => ⟨updA (updA ((fun _ => .dead)) 1 (.ptr 3 0 1 0 0)) 3 (.d (.v (.int .i64 s4))), lks [.no, .no, .no, .live [⟨24, 1, .av [[.d (.sl (List.map cShape_ p0.Shapes))]]⟩]]⟩) h1 ?_ (fun s4 y h2 => ?_)
  exact wk [0, 1, 2, 3]
  refine aw_seq ?_
  refine sq [0,1,2,3,4] ?_
  refine pm ?_
  refine fa tok ?_
  refine ld tok ?_
  refine rp rfl w0 rfl (pu_len_map tok rfl rfl rfl) ?_
  refine rp rfl w0 rfl (pu_lss rfl rfl) ?_
  refine nx ?_
  refine aw_if h2 rfl (fun hc h2 => ?_) (fun hc h2 => ?_)
  refine sk ?_
  refine aw_seq ?_
  refine aw_block ?_
  refine sq [0,1,2,3,4,5,6] ?_
  refine fa tok ?_
  refine ld tok ?_
  refine pm ?_
  obtain ⟨v5, hv5, h2⟩ := bnd h2
  refine rp rfl w0 rfl (sl_ix tok hv5 rfl rfl rfl rfl rfl rfl) ?_
  refine rp rfl w0 rfl (pu_load_refN tok rfl rfl rfl (by repeat (first | exact SegD.z _ | apply SegD.t))) ?_
  obtain ⟨v6, hv6, h2⟩ := bnd h2
  refine rs rfl w0 rfl (c_call 4 (s_l25Shape_c hv6) rfl rfl rfl) ?_
  refine rp rfl w0 rfl (pu_not rfl) ?_
  refine nx ?_
  refine aw_ifB h2 rfl (fun hc h2 => ?_) (fun hc h2 => ?_)
  refine sq [0] ?_
  refine pa ?_
  refine nx ?_
  refine aw_ret ?_
  refine block_r ?_
  refine then_r ?_
  cases h2
  refine loop_r ⟨_, rfl, fun e => ?_⟩
  subst e
  refine block_r ?_
  replace h0 := orE_s h0
  refine then_r ?_
  cases h0
  exact ret0_ (rs := [.tmp 2]) rfl
  refine aw_skip ?_
  refine block_n ?_
  refine then_n ?_
  refine sr [0,1,2] ?_
  refine pm ?_
  refine rp rfl w0 rfl (pw_add rfl rfl) ?_
  refine pa ?_
  refine ra_nil ?_
  refine loop_n ?_
  cases h2
  refine ⟨_, rfl, ?_⟩
  exact wk [0, 1, 2, 3]
  refine aw_exit ?_
  refine then_e ?_
  cases h2
  refine loop_x ⟨_, rfl, fun e => ?_⟩
  subst e
  refine block_hit ?_
  refine then_n ?_
  refine ⟨_, rfl, ?_⟩
  exact wk [0, 1, 2, 3]
  rintro v7 rfl
  replace h0 := orE_f h0
  refine sq [0,1,2,3,4] ?_
  refine fa tok ?_
  refine ld tok ?_
  refine rp rfl w0 rfl (pu_len_map tok rfl rfl rfl) ?_
  refine rp rfl w0 rfl (pu_leq rfl rfl) ?_
  refine pa ?_
  refine nx ?_
  refine aw_ret ?_
  cases h0
  exact ret0_ (rs := [.tmp 2]) rfl

theorem s_JoinDrawings_c {p0 : Drawing_} {p1 : Drawing_} {r : Drawing_ × Int} (h0 : s_JoinDrawings_m p0 p1 = some r) : FnC Tryz.prog 13 [] [.agg [.d (.sl (List.map cShape_ p0.Shapes))], .agg [.d (.sl (List.map cShape_ p1.Shapes))]] [.live [⟨44, 7, .data (List.map cShape_ r.1.Shapes)⟩]] (.tup [.agg [.own 0 0 r.1.Shapes.length], .d (.v (.int .i64 r.2))]) := by
  refine fnc_intro (T := tt) (N := 32) tok Tryz.func13 rfl rfl (by kernel_rfl) rfl rfl ?_
  unfold s_JoinDrawings_m at h0
  refine sq [0,1,2,3] ?_
  refine rs rfl w0 rfl (st_box 3 (cs := _ :: _) rfl rfl rfl) ?_
  refine rs rfl w0 rfl (st_box 4 (cs := _ :: _) rfl rfl rfl) ?_
  refine rs rfl w0 rfl (st_alloc 5 (cs := [.d (.v (.slice none 0 0))]) tok rfl rfl rfl) ?_
  refine pa ?_
  refine nx ?_
  refine aw_seq ?_
  obtain ⟨v3, h1, h0⟩ := bnd h0
  refine aw_cut ⟨updA (updA (updA (updA ((fun _ => .dead)) 2 (.ptr 3 0 1 0 0)) 3 (.ptr 4 0 1 0 0)) 4 (.ptr 5 0 1 0 0)) 13 (.d (.v (.bool v3))), lks [.no, .no, .no, .live [⟨24, 1, .av [[.d (.sl (List.map cShape_ p0.Shapes))]]⟩], .live [⟨24, 1, .av [[.d (.sl (List.map cShape_ p1.Shapes))]]⟩], .live [⟨24, 1, .av [[.d (.v (.slice none 0 0))]]⟩]]⟩ ?_ ?_
  refine sr [0,1,2,3,4,5,6,7] ?_
  refine rl rfl w0 rfl (bx_ldN tok rfl rfl rfl rfl) ?_
  obtain ⟨v1, hv1, h1⟩ := bnd h1
  refine rs rfl w0 rfl (c_call 6 (s_l25Ok_c hv1) rfl rfl rfl) ?_
  refine rp rfl w0 rfl (pu_not rfl) ?_
  refine pm ?_
  refine ra_ifB (u := 9) h1 rfl (fun hc h1 => ?_) (fun hc h1 => ?_)
  iterate 3 refine k1 ?_
  refine pkt ?_
  refine nx ?_
  cases h1
  exact wk [0, 1, 2, 3, 4, 5]
  refine rl rfl (w1 rfl rfl rfl) rfl (bx_ldN tok rfl rfl rfl rfl) ?_
  obtain ⟨v2, hv2, h1⟩ := bnd h1
  refine rs rfl (w1 rfl rfl rfl) rfl (c_call 6 (s_l25Ok_c hv2) rfl rfl rfl) ?_
  refine rp rfl (w1 rfl rfl rfl) rfl (pu_not rfl) ?_
  refine pkf ?_
  refine nx ?_
  cases h1
  exact wk [0, 1, 2, 3, 4, 5]
  refine aw_ifB h0 rfl (fun hc h0 => ?_) (fun hc h0 => ?_)
  refine sq [0,1,2] ?_
  refine rp rfl w0 rfl (pbl (C0 := [.d (.v (.slice none 0 0))]) tok rfl rfl rfl) ?_
  refine rw0 rfl w0 (bx_st (cs := _ :: _) tok rfl rfl rfl rfl rfl rfl rfl) ?_
  refine pa ?_
  refine nx ?_
  refine aw_weak (weak_adopt 6 rfl 44 7 (kb := 5) (j := 0) rfl rfl (by repeat (first | exact Spl.z _ | apply Spl.t | apply Spl.d))) ?_
  refine aw_ret ?_
  refine then_r ?_
  cases h0
  exact retK_ (rs := [.cell 4 24, .tmp 5]) [6] rfl
  refine sk ?_
  refine aw_seq ?_
  refine sq [0,1,2,3,4,5,6,7] ?_
  refine fa tok ?_
  refine ld tok ?_
  refine rp rfl w0 rfl (pu_len_map tok rfl rfl rfl) ?_
  refine fa tok ?_
  refine ld tok ?_
  refine rp rfl w0 rfl (pu_len_map tok rfl rfl rfl) ?_
  refine rp rfl w0 rfl (pw_add rfl rfl) ?_
  refine rp rfl w0 rfl (pu_gtr rfl rfl) ?_
  refine nx ?_
  refine aw_if h0 rfl (fun hc h0 => ?_) (fun hc h0 => ?_)
  refine sq [0,1,2] ?_
  refine rp rfl w0 rfl (pbl (C0 := [.d (.v (.slice none 0 0))]) tok rfl rfl rfl) ?_
  refine rw0 rfl w0 (bx_st (cs := _ :: _) tok rfl rfl rfl rfl rfl rfl rfl) ?_
  refine pa ?_
  refine nx ?_
  refine aw_weak (weak_adopt 6 rfl 44 7 (kb := 5) (j := 0) rfl rfl (by repeat (first | exact Spl.z _ | apply Spl.t | apply Spl.d))) ?_
  refine aw_ret ?_
  refine then_r ?_
  cases h0
  exact retK_ (rs := [.cell 4 24, .tmp 5]) [6] rfl
  refine sk ?_
  refine aw_seq ?_
  refine aw_region_draw (is := [1, 2, 4, 5, 0, 3, 6, 7, 8, 9]) [0, 0, 2, 7, 0, 16, 63, 127, 255, 511] follows (by kernel_rfl) ?_
  refine rt_lk rfl w0 rfl (bx_fa tok rfl rfl rfl rfl rfl rfl rfl) rfl rfl rfl ?_
  refine rt_lk rfl w0 rfl (bx_ld1 tok rfl rfl rfl rfl rfl) rfl rfl rfl ?_
  refine rt_lk rfl w0 rfl (bx_fa tok rfl rfl rfl rfl rfl rfl rfl) rfl rfl rfl ?_
  refine rt_lk rfl w0 rfl (bx_ld1 tok rfl rfl rfl rfl rfl) rfl rfl rfl ?_
  refine rt_s rfl w0 rfl (st_slice0 6 tok rfl rfl rfl rfl) ?_
  obtain ⟨hq4, h0⟩ := chk_e h0
  refine rt_wkd rfl w0 rfl (ap_own tok hq4 rfl rfl rfl rfl rfl rfl rfl rfl rfl rfl rfl rfl (fun _ => rfl)) ?_
  obtain ⟨hq5, h0⟩ := chk_e h0
  refine rt_wkd rfl w0 rfl (ap_own tok hq5 rfl rfl rfl rfl rfl rfl rfl rfl rfl rfl rfl rfl (fun _ => rfl)) ?_
  refine rt_p rfl w0 rfl (pbl (C0 := [.d (.v (.slice none 0 0))]) tok rfl rfl rfl) ?_
  refine rt_wk rfl w0 (bx_st (cs := _ :: _) tok rfl rfl rfl rfl rfl rfl rfl) ?_
  refine tpa ?_
  refine rt_nil ?_
  refine ⟨by kernel_rfl, ?_⟩
  refine then_n ?_
  refine aw_ret ?_
  cases h0
  exact retK_ (rs := [.cell 4 24, .tmp 5]) [6] rfl

theorem strconv_FormatInt_c {p0 p1 : Int} {r : ByteArray} (h0 : strconv_FormatInt_m p0 p1 = some r) : FnC Tryz.prog 82 [] [.d (.v (.int .i64 p0)), .d (.v (.int .i64 p1))] [] (.d (.v (.string r))) := by
  obtain ⟨⟨q0, q1, q2⟩, h0⟩ := chk_e h0
  cases h0
  subst q2
  exact sh_fmt q0 q1

theorem i_Decimal_c {p0 : Int} {r : ByteArray} (h0 : i_Decimal_m p0 = some r) : FnC Tryz.prog 62 [] [.d (.v (.int .i64 p0))] [] (.d (.v (.string r))) := by
  refine fnc_intro (T := tt) (N := 5) tok Tryz.func62 rfl rfl (by kernel_rfl) rfl rfl ?_
  unfold i_Decimal_m at h0
  refine sq [0] ?_
  refine pa ?_
  refine nx ?_
  refine sq [0,1,2] ?_
  refine pm ?_
  obtain ⟨v1, hv1, h0⟩ := bnd h0
  refine rs rfl w0 rfl (c_call 3 (strconv_FormatInt_c hv1) rfl rfl rfl) ?_
  refine pa ?_
  refine nx ?_
  refine aw_ret ?_
  cases h0
  exact ret0_ (rs := [.tmp 2]) rfl

theorem i_shapeText_c {p0 : Shape_} {r : ByteArray} (h0 : i_shapeText_m p0 = some r) : FnC Tryz.prog 35 [] [.agg [.d (.v (.int .i64 p0.Kind)), .d (.v (.int .i64 p0.A.X)), .d (.v (.int .i64 p0.A.Y)), .d (.v (.int .i64 p0.B.X)), .d (.v (.int .i64 p0.B.Y)), .d (.v (.int .i64 p0.R)), .d (.v (.string p0.Name))]] [] (.d (.v (.string r))) := by
  refine fnc_intro (T := tt) (N := 47) tok Tryz.func35 rfl rfl (by kernel_rfl) rfl rfl ?_
  unfold i_shapeText_m at h0
  refine sq [0,1] ?_
  refine rs rfl w0 rfl (st_box 3 (cs := _ :: _) rfl rfl rfl) ?_
  refine pa ?_
  refine nx ?_
  refine aw_seq ?_
  refine aw_region_draw (is := [0, 1, 2, 5, 6, 7, 3, 4, 8, 9, 10]) [0, 1, 3, 7, 15, 0, 32, 96, 239, 511, 1023] follows (by kernel_rfl) ?_
  refine rt_lk rfl w0 rfl (bx_fa tok rfl rfl rfl rfl rfl rfl rfl) rfl rfl rfl ?_
  refine rt_lk rfl w0 rfl (bx_fa tok rfl rfl rfl rfl rfl rfl rfl) rfl rfl rfl ?_
  refine rt_lk rfl w0 rfl (bx_ld1 tok rfl rfl rfl rfl rfl) rfl rfl rfl ?_
  refine rt_lk rfl w0 rfl (bx_fa tok rfl rfl rfl rfl rfl rfl rfl) rfl rfl rfl ?_
  refine rt_lk rfl w0 rfl (bx_fa tok rfl rfl rfl rfl rfl rfl rfl) rfl rfl rfl ?_
  refine rt_lk rfl w0 rfl (bx_ld1 tok rfl rfl rfl rfl rfl) rfl rfl rfl ?_
  obtain ⟨v1, hv1, h0⟩ := bnd h0
  refine rt_c rfl w0 rfl (b_call 4 (i_Decimal_c hv1) rfl rfl rfl) ?_
  obtain ⟨hq2, h0⟩ := chk_e h0
  refine rt_p rfl w0 rfl (pu_cat rfl rfl hq2) ?_
  obtain ⟨v3, hv3, h0⟩ := bnd h0
  refine rt_c rfl w0 rfl (b_call 4 (i_Decimal_c hv3) rfl rfl rfl) ?_
  obtain ⟨hq4, h0⟩ := chk_e h0
  refine rt_p rfl w0 rfl (pu_cat rfl rfl hq4) ?_
  refine tpa ?_
  refine rt_nil ?_
  refine ⟨by kernel_rfl, ?_⟩
  refine then_n ?_
  refine aw_seq ?_
  refine sq [0,1] ?_
  refine fa tok ?_
  refine ld tok ?_
  refine nx ?_
  refine aw_block ?_
  refine sq [0,1] ?_
  refine rp rfl w0 rfl (pu_eql rfl rfl) ?_
  refine pa ?_
  refine nx ?_
  refine aw_if h0 rfl (fun hc h0 => ?_) (fun hc h0 => ?_)
  refine aw_seq ?_
  refine aw_region_draw (is := [0, 1, 2, 3, 4, 5, 9, 10, 11, 6, 7, 8, 12, 13, 14]) [0, 1, 3, 0, 8, 24, 56, 127, 255, 0, 512, 1536, 3704, 8191, 16383] follows (by kernel_rfl) ?_
  refine tpm ?_
  obtain ⟨hq5, h0⟩ := chk_e h0
  refine rt_p rfl w0 rfl (pu_cat rfl rfl hq5) ?_
  obtain ⟨hq6, h0⟩ := chk_e h0
  refine rt_p rfl w0 rfl (pu_cat rfl rfl hq6) ?_
  refine rt_lk rfl w0 rfl (bx_fa tok rfl rfl rfl rfl rfl rfl rfl) rfl rfl rfl ?_
  refine rt_lk rfl w0 rfl (bx_fa tok rfl rfl rfl rfl rfl rfl rfl) rfl rfl rfl ?_
  refine rt_lk rfl w0 rfl (bx_ld1 tok rfl rfl rfl rfl rfl) rfl rfl rfl ?_
  refine rt_lk rfl w0 rfl (bx_fa tok rfl rfl rfl rfl rfl rfl rfl) rfl rfl rfl ?_
  refine rt_lk rfl w0 rfl (bx_fa tok rfl rfl rfl rfl rfl rfl rfl) rfl rfl rfl ?_
  refine rt_lk rfl w0 rfl (bx_ld1 tok rfl rfl rfl rfl rfl) rfl rfl rfl ?_
  obtain ⟨v7, hv7, h0⟩ := bnd h0
  refine rt_c rfl w0 rfl (b_call 4 (i_Decimal_c hv7) rfl rfl rfl) ?_
  obtain ⟨hq8, h0⟩ := chk_e h0
  refine rt_p rfl w0 rfl (pu_cat rfl rfl hq8) ?_
  obtain ⟨hq9, h0⟩ := chk_e h0
  refine rt_p rfl w0 rfl (pu_cat rfl rfl hq9) ?_
  obtain ⟨v10, hv10, h0⟩ := bnd h0
  refine rt_c rfl w0 rfl (b_call 4 (i_Decimal_c hv10) rfl rfl rfl) ?_
  obtain ⟨hq11, h0⟩ := chk_e h0
  refine rt_p rfl w0 rfl (pu_cat rfl rfl hq11) ?_
  refine tpa ?_
  refine rt_nil ?_
  refine ⟨by kernel_rfl, ?_⟩
  refine then_n ?_
  refine aw_ret ?_
  refine block_r ?_
  refine then_r ?_
  cases h0
  exact ret0_ (rs := [.tmp 2]) rfl
  refine sq [0,1] ?_
  refine rp rfl w0 rfl (pu_eql rfl rfl) ?_
  refine pa ?_
  refine nx ?_
  refine aw_if h0 rfl (fun hc h0 => ?_) (fun hc h0 => ?_)
  refine sq [0,1,2,3,4,5,6,7] ?_
  refine pm ?_
  obtain ⟨hq12, h0⟩ := chk_e h0
  refine rp rfl w0 rfl (pu_cat rfl rfl hq12) ?_
  obtain ⟨hq13, h0⟩ := chk_e h0
  refine rp rfl w0 rfl (pu_cat rfl rfl hq13) ?_
  refine fa tok ?_
  refine ld tok ?_
  obtain ⟨v14, hv14, h0⟩ := bnd h0
  refine rs rfl w0 rfl (c_call 4 (i_Decimal_c hv14) rfl rfl rfl) ?_
  obtain ⟨hq15, h0⟩ := chk_e h0
  refine rp rfl w0 rfl (pu_cat rfl rfl hq15) ?_
  refine pa ?_
  refine nx ?_
  refine aw_ret ?_
  refine block_r ?_
  refine then_r ?_
  cases h0
  exact ret0_ (rs := [.tmp 2]) rfl
  refine aw_skip ?_
  refine block_n ?_
  refine then_n ?_
  refine sq [0,1,2,3,4,5,6] ?_
  refine pm ?_
  obtain ⟨hq16, h0⟩ := chk_e h0
  refine rp rfl w0 rfl (pu_cat rfl rfl hq16) ?_
  obtain ⟨hq17, h0⟩ := chk_e h0
  refine rp rfl w0 rfl (pu_cat rfl rfl hq17) ?_
  refine fa tok ?_
  refine ld tok ?_
  obtain ⟨hq18, h0⟩ := chk_e h0
  refine rp rfl w0 rfl (pu_cat rfl rfl hq18) ?_
  refine pa ?_
  refine nx ?_
  refine aw_ret ?_
  cases h0
  exact ret0_ (rs := [.tmp 2]) rfl

theorem i_DrawingText_c {p0 : Drawing_} {r : ByteArray} (h0 : i_DrawingText_m p0 = some r) : FnC Tryz.prog 14 [] [.agg [.d (.sl (List.map cShape_ p0.Shapes))]] [] (.d (.v (.string r))) := by
  unfold i_DrawingText_m at h0
  obtain ⟨v1, hv1, h0⟩ := bnd h0
  exact sh_draw (i_ValidDrawing_c hv1) (fun s t h => i_shapeText_c h) h0

theorem s_SameDrawing_c {p0 : Drawing_} {p1 : Drawing_} {r : Bool} (h0 : s_SameDrawing_m p0 p1 = some r) : FnC Tryz.prog 15 [] [.agg [.d (.sl (List.map cShape_ p0.Shapes))], .agg [.d (.sl (List.map cShape_ p1.Shapes))]] [] (.d (.v (.bool r))) := by
  refine fnc_intro (T := tt) (N := 31) tok Tryz.func15 rfl rfl (by kernel_rfl) rfl rfl ?_
  unfold s_SameDrawing_m at h0
  refine sq [0,1,2] ?_
  refine rs rfl w0 rfl (st_box 3 (cs := _ :: _) rfl rfl rfl) ?_
  refine rs rfl w0 rfl (st_box 4 (cs := _ :: _) rfl rfl rfl) ?_
  refine pa ?_
  refine nx ?_
  refine aw_seq ?_
  refine sq [0,1,2,3,4,5,6] ?_
  refine fa tok ?_
  refine ld tok ?_
  refine rp rfl w0 rfl (pu_len_map tok rfl rfl rfl) ?_
  refine fa tok ?_
  refine ld tok ?_
  refine rp rfl w0 rfl (pu_len_map tok rfl rfl rfl) ?_
  refine rp rfl w0 rfl (pu_neq rfl rfl) ?_
  refine nx ?_
  refine aw_if h0 rfl (fun hc h0 => ?_) (fun hc h0 => ?_)
  refine sq [0] ?_
  refine pa ?_
  refine nx ?_
  refine aw_ret ?_
  refine then_r ?_
  cases h0
  exact ret0_ (rs := [.tmp 4]) rfl
  refine sk ?_
  obtain ⟨v7x, h1, h0⟩ := bnd h0
  refine aw_cutE v7x (fun v7 => ⟨(fun _ => .dead), lks [.no, .no, .no]⟩) ?_ ?_
  refine sq [0] ?_
  refine pa ?_
  refine nx ?_
  refine aw_block ?_
  refine aw_loopM (fun s4 => ⟨updA (updA (updA ((fun _ => .dead)) 2 (.ptr 3 0 1 0 0)) 3 (.ptr 4 0 1 0 0)) 5 (.d (.v (.int .i64 s4))), lks [.no, .no, .no, .live [⟨24, 1, .av [[.d (.sl (List.map cShape_ p0.Shapes))]]⟩], .live [⟨24, 1, .av [[.d (.sl (List.map cShape_ p1.Shapes))]]⟩]]⟩) h1 ?_ (fun s4 y h2 => ?_)
  exact wk [0, 1, 2, 3, 4]
  refine aw_seq ?_
  refine sq [0,1,2,3,4] ?_
  refine pm ?_
  refine fa tok ?_
  refine ld tok ?_
  refine rp rfl w0 rfl (pu_len_map tok rfl rfl rfl) ?_
  refine rp rfl w0 rfl (pu_lss rfl rfl) ?_
  refine nx ?_
  refine aw_if h2 rfl (fun hc h2 => ?_) (fun hc h2 => ?_)
  refine sk ?_
  refine aw_seq ?_
  refine aw_block ?_
  refine aw_seq ?_
  refine aw_region_draw (is := [0, 1, 2, 3, 4, 5, 6, 7, 8, 9, 10]) [0, 1, 0, 7, 15, 0, 32, 0, 224, 480, 1023] follows (by kernel_rfl) ?_
  refine rt_lk rfl w0 rfl (bx_fa tok rfl rfl rfl rfl rfl rfl rfl) rfl rfl rfl ?_
  refine rt_lk rfl w0 rfl (bx_ld1 tok rfl rfl rfl rfl rfl) rfl rfl rfl ?_
  refine tpm ?_
  obtain ⟨v5, hv5, h2⟩ := bnd h2
  refine rt_p rfl w0 rfl (sl_ix tok hv5 rfl rfl rfl rfl rfl rfl) ?_
  refine rt_p rfl w0 rfl (pu_load_refN tok rfl rfl rfl (by repeat (first | exact SegD.z _ | apply SegD.t))) ?_
  refine rt_lk rfl w0 rfl (bx_fa tok rfl rfl rfl rfl rfl rfl rfl) rfl rfl rfl ?_
  refine rt_lk rfl w0 rfl (bx_ld1 tok rfl rfl rfl rfl rfl) rfl rfl rfl ?_
  refine tpm ?_
  obtain ⟨v6, hv6, h2⟩ := bnd h2
  refine rt_p rfl w0 rfl (sl_ix tok hv6 rfl rfl rfl rfl rfl rfl) ?_
  refine rt_p rfl w0 rfl (pu_load_refN tok rfl rfl rfl (by repeat (first | exact SegD.z _ | apply SegD.t))) ?_
  refine rt_p rfl w0 rfl (ps_neq_Shape_ (a := v5) (b := v6) rfl rfl) ?_
  refine rt_nil ?_
  refine ⟨by kernel_rfl, ?_⟩
  refine then_n ?_
  refine aw_if h2 rfl (fun hc h2 => ?_) (fun hc h2 => ?_)
  refine sq [0] ?_
  refine pa ?_
  refine nx ?_
  refine aw_ret ?_
  refine block_r ?_
  refine then_r ?_
  cases h2
  refine loop_r ⟨_, rfl, fun e => ?_⟩
  subst e
  refine block_r ?_
  replace h0 := orE_s h0
  refine then_r ?_
  cases h0
  exact ret0_ (rs := [.tmp 4]) rfl
  refine aw_skip ?_
  refine block_n ?_
  refine then_n ?_
  refine sr [0,1,2] ?_
  refine pm ?_
  refine rp rfl w0 rfl (pw_add rfl rfl) ?_
  refine pa ?_
  refine ra_nil ?_
  refine loop_n ?_
  cases h2
  refine ⟨_, rfl, ?_⟩
  exact wk [0, 1, 2, 3, 4]
  refine aw_exit ?_
  refine then_e ?_
  cases h2
  refine loop_x ⟨_, rfl, fun e => ?_⟩
  subst e
  refine block_hit ?_
  refine then_n ?_
  refine ⟨_, rfl, ?_⟩
  exact wk [0, 1, 2]
  rintro v7 rfl
  replace h0 := orE_f h0
  refine sq [0] ?_
  refine pa ?_
  refine nx ?_
  refine aw_ret ?_
  cases h0
  exact ret0_ (rs := [.tmp 4]) rfl

theorem s_l01Dec_c {p0 : Int} {r : ByteArray} (h0 : s_l01Dec_m p0 = some r) : FnC Tryz.prog 70 [] [.d (.v (.int .i64 p0))] [] (.d (.v (.string r))) := by
  refine fnc_intro (T := tt) (N := 34) tok Tryz.func70 rfl rfl (by kernel_rfl) rfl rfl ?_
  unfold s_l01Dec_m at h0
  refine sq [0] ?_
  refine pa ?_
  refine nx ?_
  refine sq [0,1] ?_
  refine rs rfl w0 rfl (st_slice0 3 tok rfl rfl rfl rfl) ?_
  refine rp rfl w0 rfl (pu_assign (r := .own _ _ _) rfl) ?_
  refine nx ?_
  obtain ⟨v11, h1, h0⟩ := bnd h0
  refine aw_cut ⟨updA (updA ((fun _ => .dead)) 0 (.d (.v (.int .i64 p0)))) 3 (.own 3 0 (v11).length), lks [.no, .no, .no, .live [⟨5, 1, .data (List.map cU8 v11)⟩]]⟩ ?_ ?_
  refine sq [0,1] ?_
  refine pm ?_
  refine pa ?_
  refine nx ?_
  refine aw_block ?_
  refine aw_loopM (fun s6 => ⟨updA (updA (updA ((fun _ => .dead)) 0 (.d (.v (.int .i64 p0)))) 3 (.own 3 0 (s6.2).length)) 4 (.d (.v (.int .i64 s6.1))), lks [.no, .no, .no, .live [⟨5, 1, .data (List.map cU8 s6.2)⟩]]⟩) h1 ?_ (fun s6 y h2 => ?_)
  exact wk [0, 1, 2, 3]
  refine aw_seq ?_
  refine sq [0,1] ?_
  refine pm ?_
  refine rp rfl w0 rfl (pu_neq rfl rfl) ?_
  refine nx ?_
  refine aw_if h2 rfl (fun hc h2 => ?_) (fun hc h2 => ?_)
  refine sk ?_
  refine aw_seq ?_
  refine aw_block ?_
  refine sq [0,1,2] ?_
  refine pm ?_
  refine rp rfl w0 rfl (pu_remw rfl rfl (by decide)) ?_
  refine pa ?_
  refine nx ?_
  obtain ⟨v8, h3, h2⟩ := bnd h2
  refine aw_cut ⟨updA (updA (updA (updA ((fun _ => .dead)) 0 (.d (.v (.int .i64 p0)))) 3 (.own 3 0 (s6.2).length)) 4 (.d (.v (.int .i64 s6.1)))) 5 (.d (.v (.int .i64 v8))), lks [.no, .no, .no, .live [⟨5, 1, .data (List.map cU8 s6.2)⟩]]⟩ ?_ ?_
  refine sq [0,1] ?_
  refine pm ?_
  refine rp rfl w0 rfl (pu_lss rfl rfl) ?_
  refine nx ?_
  refine aw_if h3 rfl (fun hc h3 => ?_) (fun hc h3 => ?_)
  refine sr [0,1,2] ?_
  refine pm ?_
  refine rp rfl w0 rfl (pw_neg rfl) ?_
  refine pa ?_
  refine nx ?_
  cases h3
  exact wk [0, 1, 2, 3]
  refine sk ?_
  cases h3
  exact wk [0, 1, 2, 3]
  refine sr [0,1,2,3,4,5,6] ?_
  refine pm ?_
  refine rp rfl w0 rfl (pw_add rfl rfl) ?_
  refine rp rfl w0 rfl (pu_ii tok rfl rfl rfl rfl rfl) ?_
  refine rs rfl w0 rfl (bs_own 4 tok cU8 [IntKind.u8.wrap (w64 (48 + v8))] rfl rfl rfl (by repeat (first | exact Els.nil _ | apply Els.cons (cs := [.d _]) rfl rfl rfl | apply Els.cons (cs := _ :: _) rfl rfl rfl)) rfl rfl rfl (by repeat (first | exact AllDD.nil | (apply AllDD.cons; (repeat (first | exact AllD.nil | apply AllD.cons))))) rfl rfl) ?_
  refine rp rfl w0 rfl (pu_move (r := .own _ _ _) rfl) ?_
  obtain ⟨hq9, h2⟩ := chk_e h2
  refine rw1 rfl w0 rfl (ap_oo tok hq9 rfl rfl rfl rfl rfl rfl rfl rfl rfl rfl rfl rfl rfl rfl rfl) ?_
  refine rp rfl w0 rfl (pu_assign (r := .own _ _ _) rfl) ?_
  refine ra_nil ?_
  refine block_n ?_
  refine then_n ?_
  refine sr [0,1,2] ?_
  refine pm ?_
  refine rp rfl w0 rfl (pw_quo rfl rfl (by decide)) ?_
  refine pa ?_
  refine ra_nil ?_
  refine loop_n ?_
  cases h2
  refine ⟨_, rfl, ?_⟩
  exact wk [0, 1, 2, 4]
  refine aw_exit ?_
  refine then_e ?_
  cases h2
  refine loop_x ⟨_, rfl, fun e => ?_⟩
  subst e
  refine block_hit ?_
  refine then_n ?_
  exact wk [0, 1, 2, 3]
  refine aw_seq ?_
  refine sq [0,1,2] ?_
  refine rp rfl w0 rfl (pu_move (r := .own _ _ _) rfl) ?_
  refine rl rfl w0 rfl (ow_len tok rfl rfl rfl rfl rfl) ?_
  refine rp rfl w0 rfl (pu_eql rfl rfl) ?_
  refine nx ?_
  refine aw_if h0 rfl (fun hc h0 => ?_) (fun hc h0 => ?_)
  refine sq [0] ?_
  refine pa ?_
  refine nx ?_
  refine aw_ret ?_
  refine then_r ?_
  cases h0
  exact ret0_ (rs := [.tmp 2]) rfl
  refine sk ?_
  refine aw_seq ?_
  refine sq [0,1] ?_
  refine pm ?_
  refine rp rfl w0 rfl (pu_lss rfl rfl) ?_
  refine nx ?_
  refine aw_if h0 rfl (fun hc h0 => ?_) (fun hc h0 => ?_)
  refine sq [0,1,2,3] ?_
  refine rp rfl w0 rfl (pu_move (r := .own _ _ _) rfl) ?_
  refine rs rfl w0 rfl (cv_bo tok rfl rfl rfl rfl rfl rfl rfl rfl rfl rfl) ?_
  obtain ⟨hq12, h0⟩ := chk_e h0
  refine rp rfl w0 rfl (pu_cat rfl rfl hq12) ?_
  refine pa ?_
  refine nx ?_
  refine aw_ret ?_
  refine then_r ?_
  cases h0
  exact ret0_ (rs := [.tmp 2]) rfl
  refine sk ?_
  refine sq [0,1,2] ?_
  refine rp rfl w0 rfl (pu_move (r := .own _ _ _) rfl) ?_
  refine rs rfl w0 rfl (cv_bo tok rfl rfl rfl rfl rfl rfl rfl rfl rfl rfl) ?_
  refine pa ?_
  refine nx ?_
  refine aw_ret ?_
  cases h0
  exact ret0_ (rs := [.tmp 2]) rfl

theorem s_l25At_c {p0 : Spot_} {r : ByteArray} (h0 : s_l25At_m p0 = some r) : FnC Tryz.prog 74 [] [.agg [.d (.v (.int .i64 p0.X)), .d (.v (.int .i64 p0.Y))]] [] (.d (.v (.string r))) := by
  refine fnc_intro (T := tt) (N := 12) tok Tryz.func74 rfl rfl (by kernel_rfl) rfl rfl ?_
  unfold s_l25At_m at h0
  refine sq [0,1] ?_
  refine rs rfl w0 rfl (st_box 3 (cs := _ :: _) rfl rfl rfl) ?_
  refine pa ?_
  refine nx ?_
  refine aw_seq ?_
  refine aw_region_draw (is := [0, 1, 5, 6, 2, 3, 4, 7, 8, 9]) [0, 1, 3, 7, 15, 0, 32, 103, 255, 511] follows (by kernel_rfl) ?_
  refine rt_lk rfl w0 rfl (bx_fa tok rfl rfl rfl rfl rfl rfl rfl) rfl rfl rfl ?_
  refine rt_lk rfl w0 rfl (bx_ld1 tok rfl rfl rfl rfl rfl) rfl rfl rfl ?_
  refine rt_lk rfl w0 rfl (bx_fa tok rfl rfl rfl rfl rfl rfl rfl) rfl rfl rfl ?_
  refine rt_lk rfl w0 rfl (bx_ld1 tok rfl rfl rfl rfl rfl) rfl rfl rfl ?_
  obtain ⟨v1, hv1, h0⟩ := bnd h0
  refine rt_c rfl w0 rfl (b_call 4 (s_l01Dec_c hv1) rfl rfl rfl) ?_
  obtain ⟨hq2, h0⟩ := chk_e h0
  refine rt_p rfl w0 rfl (pu_cat rfl rfl hq2) ?_
  obtain ⟨hq3, h0⟩ := chk_e h0
  refine rt_p rfl w0 rfl (pu_cat rfl rfl hq3) ?_
  obtain ⟨v4, hv4, h0⟩ := bnd h0
  refine rt_c rfl w0 rfl (b_call 4 (s_l01Dec_c hv4) rfl rfl rfl) ?_
  obtain ⟨hq5, h0⟩ := chk_e h0
  refine rt_p rfl w0 rfl (pu_cat rfl rfl hq5) ?_
  refine tpa ?_
  refine rt_nil ?_
  refine ⟨by kernel_rfl, ?_⟩
  refine then_n ?_
  refine aw_ret ?_
  cases h0
  exact ret0_ (rs := [.tmp 2]) rfl

theorem s_l25Line_c {p0 : Shape_} {r : ByteArray} (h0 : s_l25Line_m p0 = some r) : FnC Tryz.prog 47 [] [.agg [.d (.v (.int .i64 p0.Kind)), .d (.v (.int .i64 p0.A.X)), .d (.v (.int .i64 p0.A.Y)), .d (.v (.int .i64 p0.B.X)), .d (.v (.int .i64 p0.B.Y)), .d (.v (.int .i64 p0.R)), .d (.v (.string p0.Name))]] [] (.d (.v (.string r))) := by
  refine fnc_intro (T := tt) (N := 34) tok Tryz.func47 rfl rfl (by kernel_rfl) rfl rfl ?_
  unfold s_l25Line_m at h0
  refine sq [0,1] ?_
  refine rs rfl w0 rfl (st_box 3 (cs := _ :: _) rfl rfl rfl) ?_
  refine pa ?_
  refine nx ?_
  refine aw_seq ?_
  refine sq [0,1] ?_
  refine fa tok ?_
  refine ld tok ?_
  refine nx ?_
  refine aw_block ?_
  refine sq [0,1] ?_
  refine rp rfl w0 rfl (pu_eql rfl rfl) ?_
  refine pa ?_
  refine nx ?_
  refine aw_if h0 rfl (fun hc h0 => ?_) (fun hc h0 => ?_)
  refine aw_seq ?_
  refine aw_region_draw (is := [0, 1, 4, 5, 2, 3, 6, 7, 8]) [0, 1, 3, 7, 0, 16, 55, 127, 255] follows (by kernel_rfl) ?_
  refine rt_lk rfl w0 rfl (bx_fa tok rfl rfl rfl rfl rfl rfl rfl) rfl rfl rfl ?_
  refine rt_lk rfl w0 rfl (bx_ldN tok rfl rfl rfl rfl) rfl rfl rfl ?_
  refine rt_lk rfl w0 rfl (bx_fa tok rfl rfl rfl rfl rfl rfl rfl) rfl rfl rfl ?_
  refine rt_lk rfl w0 rfl (bx_ldN tok rfl rfl rfl rfl) rfl rfl rfl ?_
  obtain ⟨v1, hv1, h0⟩ := bnd h0
  refine rt_c rfl w0 rfl (b_call 4 (s_l25At_c hv1) rfl rfl rfl) ?_
  obtain ⟨hq2, h0⟩ := chk_e h0
  refine rt_p rfl w0 rfl (pu_cat rfl rfl hq2) ?_
  obtain ⟨v3, hv3, h0⟩ := bnd h0
  refine rt_c rfl w0 rfl (b_call 4 (s_l25At_c hv3) rfl rfl rfl) ?_
  obtain ⟨hq4, h0⟩ := chk_e h0
  refine rt_p rfl w0 rfl (pu_cat rfl rfl hq4) ?_
  refine tpa ?_
  refine rt_nil ?_
  refine ⟨by kernel_rfl, ?_⟩
  refine then_n ?_
  refine aw_ret ?_
  refine block_r ?_
  refine then_r ?_
  cases h0
  exact ret0_ (rs := [.tmp 2]) rfl
  refine sq [0,1] ?_
  refine rp rfl w0 rfl (pu_eql rfl rfl) ?_
  refine pa ?_
  refine nx ?_
  refine aw_if h0 rfl (fun hc h0 => ?_) (fun hc h0 => ?_)
  refine aw_seq ?_
  refine aw_region_draw (is := [0, 1, 5, 6, 2, 3, 4, 7, 8, 9]) [0, 1, 3, 7, 15, 0, 32, 103, 255, 511] follows (by kernel_rfl) ?_
  refine rt_lk rfl w0 rfl (bx_fa tok rfl rfl rfl rfl rfl rfl rfl) rfl rfl rfl ?_
  refine rt_lk rfl w0 rfl (bx_ldN tok rfl rfl rfl rfl) rfl rfl rfl ?_
  refine rt_lk rfl w0 rfl (bx_fa tok rfl rfl rfl rfl rfl rfl rfl) rfl rfl rfl ?_
  refine rt_lk rfl w0 rfl (bx_ld1 tok rfl rfl rfl rfl rfl) rfl rfl rfl ?_
  obtain ⟨v5, hv5, h0⟩ := bnd h0
  refine rt_c rfl w0 rfl (b_call 4 (s_l25At_c hv5) rfl rfl rfl) ?_
  obtain ⟨hq6, h0⟩ := chk_e h0
  refine rt_p rfl w0 rfl (pu_cat rfl rfl hq6) ?_
  obtain ⟨hq7, h0⟩ := chk_e h0
  refine rt_p rfl w0 rfl (pu_cat rfl rfl hq7) ?_
  obtain ⟨v8, hv8, h0⟩ := bnd h0
  refine rt_c rfl w0 rfl (b_call 4 (s_l01Dec_c hv8) rfl rfl rfl) ?_
  obtain ⟨hq9, h0⟩ := chk_e h0
  refine rt_p rfl w0 rfl (pu_cat rfl rfl hq9) ?_
  refine tpa ?_
  refine rt_nil ?_
  refine ⟨by kernel_rfl, ?_⟩
  refine then_n ?_
  refine aw_ret ?_
  refine block_r ?_
  refine then_r ?_
  cases h0
  exact ret0_ (rs := [.tmp 2]) rfl
  refine aw_skip ?_
  refine block_n ?_
  refine then_n ?_
  refine aw_seq ?_
  refine aw_region_draw (is := [0, 1, 5, 6, 2, 3, 4, 7, 8]) [0, 1, 3, 7, 15, 0, 32, 127, 255] follows (by kernel_rfl) ?_
  refine rt_lk rfl w0 rfl (bx_fa tok rfl rfl rfl rfl rfl rfl rfl) rfl rfl rfl ?_
  refine rt_lk rfl w0 rfl (bx_ldN tok rfl rfl rfl rfl) rfl rfl rfl ?_
  refine rt_lk rfl w0 rfl (bx_fa tok rfl rfl rfl rfl rfl rfl rfl) rfl rfl rfl ?_
  refine rt_lk rfl w0 rfl (bx_ld1 tok rfl rfl rfl rfl rfl) rfl rfl rfl ?_
  obtain ⟨v10, hv10, h0⟩ := bnd h0
  refine rt_c rfl w0 rfl (b_call 4 (s_l25At_c hv10) rfl rfl rfl) ?_
  obtain ⟨hq11, h0⟩ := chk_e h0
  refine rt_p rfl w0 rfl (pu_cat rfl rfl hq11) ?_
  obtain ⟨hq12, h0⟩ := chk_e h0
  refine rt_p rfl w0 rfl (pu_cat rfl rfl hq12) ?_
  obtain ⟨hq13, h0⟩ := chk_e h0
  refine rt_p rfl w0 rfl (pu_cat rfl rfl hq13) ?_
  refine tpa ?_
  refine rt_nil ?_
  refine ⟨by kernel_rfl, ?_⟩
  refine then_n ?_
  refine aw_ret ?_
  cases h0
  exact ret0_ (rs := [.tmp 2]) rfl

theorem s_l25Text_c {p0 : Drawing_} {r : ByteArray} (h0 : s_l25Text_m p0 = some r) : FnC Tryz.prog 25 [] [.agg [.d (.sl (List.map cShape_ p0.Shapes))]] [] (.d (.v (.string r))) := by
  refine fnc_intro (T := tt) (N := 22) tok Tryz.func25 rfl rfl (by kernel_rfl) rfl rfl ?_
  unfold s_l25Text_m at h0
  refine sq [0,1] ?_
  refine rs rfl w0 rfl (st_box 3 (cs := _ :: _) rfl rfl rfl) ?_
  refine pa ?_
  refine nx ?_
  refine sq [0] ?_
  refine pa ?_
  refine nx ?_
  obtain ⟨v11, h1, h0⟩ := bnd h0
  refine aw_cut ⟨updA ((fun _ => .dead)) 3 (.d (.v (.string v11))), lks [.no, .no, .no]⟩ ?_ ?_
  refine sq [0] ?_
  refine pa ?_
  refine nx ?_
  refine aw_block ?_
  refine aw_loopM (fun s6 => ⟨updA (updA (updA ((fun _ => .dead)) 1 (.ptr 3 0 1 0 0)) 3 (.d (.v (.string s6.1)))) 4 (.d (.v (.int .i64 s6.2))), lks [.no, .no, .no, .live [⟨24, 1, .av [[.d (.sl (List.map cShape_ p0.Shapes))]]⟩]]⟩) h1 ?_ (fun s6 y h2 => ?_)
  exact wk [0, 1, 2, 3]
  refine aw_seq ?_
  refine sq [0,1,2,3,4] ?_
  refine pm ?_
  refine fa tok ?_
  refine ld tok ?_
  refine rp rfl w0 rfl (pu_len_map tok rfl rfl rfl) ?_
  refine rp rfl w0 rfl (pu_lss rfl rfl) ?_
  refine nx ?_
  refine aw_if h2 rfl (fun hc h2 => ?_) (fun hc h2 => ?_)
  refine sk ?_
  refine aw_seq ?_
  refine aw_block ?_
  refine sr [0,1,2,3,4,5,6,7,8,9] ?_
  refine pm ?_
  refine fa tok ?_
  refine ld tok ?_
  refine pm ?_
  obtain ⟨v7, hv7, h2⟩ := bnd h2
  refine rp rfl w0 rfl (sl_ix tok hv7 rfl rfl rfl rfl rfl rfl) ?_
  refine rp rfl w0 rfl (pu_load_refN tok rfl rfl rfl (by repeat (first | exact SegD.z _ | apply SegD.t))) ?_
  obtain ⟨v8, hv8, h2⟩ := bnd h2
  refine rs rfl w0 rfl (c_call 4 (s_l25Line_c hv8) rfl rfl rfl) ?_
  obtain ⟨hq9, h2⟩ := chk_e h2
  refine rp rfl w0 rfl (pu_cat rfl rfl hq9) ?_
  obtain ⟨hq10, h2⟩ := chk_e h2
  refine rp rfl w0 rfl (pu_cat rfl rfl hq10) ?_
  refine pa ?_
  refine ra_nil ?_
  refine block_n ?_
  refine then_n ?_
  refine sr [0,1,2] ?_
  refine pm ?_
  refine rp rfl w0 rfl (pw_add rfl rfl) ?_
  refine pa ?_
  refine ra_nil ?_
  refine loop_n ?_
  cases h2
  refine ⟨_, rfl, ?_⟩
  exact wk [0, 1, 2, 3]
  refine aw_exit ?_
  refine then_e ?_
  cases h2
  refine loop_x ⟨_, rfl, fun e => ?_⟩
  subst e
  refine block_hit ?_
  refine then_n ?_
  exact wk [0, 1, 2]
  refine sq [0,1] ?_
  refine pm ?_
  refine pa ?_
  refine nx ?_
  refine aw_ret ?_
  cases h0
  exact ret0_ (rs := [.tmp 2]) rfl

theorem s_DrawingText_c {p0 : Drawing_} {r : ByteArray} (h0 : s_DrawingText_m p0 = some r) : FnC Tryz.prog 16 [] [.agg [.d (.sl (List.map cShape_ p0.Shapes))]] [] (.d (.v (.string r))) := by
  refine fnc_intro (T := tt) (N := 8) tok Tryz.func16 rfl rfl (by kernel_rfl) rfl rfl ?_
  unfold s_DrawingText_m at h0
  refine sq [0,1] ?_
  refine rs rfl w0 rfl (st_box 3 (cs := _ :: _) rfl rfl rfl) ?_
  refine pa ?_
  refine nx ?_
  refine aw_seq ?_
  refine sq [0,1,2] ?_
  refine rl rfl w0 rfl (bx_ldN tok rfl rfl rfl rfl) ?_
  obtain ⟨v1, hv1, h0⟩ := bnd h0
  refine rs rfl w0 rfl (c_call 4 (s_l25Ok_c hv1) rfl rfl rfl) ?_
  refine rp rfl w0 rfl (pu_not rfl) ?_
  refine nx ?_
  refine aw_ifB h0 rfl (fun hc h0 => ?_) (fun hc h0 => ?_)
  refine sq [0] ?_
  refine pa ?_
  refine nx ?_
  refine aw_ret ?_
  refine then_r ?_
  cases h0
  exact ret0_ (rs := [.tmp 2]) rfl
  refine sk ?_
  refine sq [0,1,2] ?_
  refine rl rfl w0 rfl (bx_ldN tok rfl rfl rfl rfl) ?_
  obtain ⟨v2, hv2, h0⟩ := bnd h0
  refine rs rfl w0 rfl (c_call 4 (s_l25Text_c hv2) rfl rfl rfl) ?_
  refine pa ?_
  refine nx ?_
  refine aw_ret ?_
  cases h0
  exact ret0_ (rs := [.tmp 2]) rfl

theorem s_ValidDrawing_c {p0 : Drawing_} {r : Bool} (h0 : s_ValidDrawing_m p0 = some r) : FnC Tryz.prog 18 [] [.agg [.d (.sl (List.map cShape_ p0.Shapes))]] [] (.d (.v (.bool r))) := by
  refine fnc_intro (T := tt) (N := 5) tok Tryz.func18 rfl rfl (by kernel_rfl) rfl rfl ?_
  unfold s_ValidDrawing_m at h0
  refine sq [0,1] ?_
  refine rs rfl w0 rfl (st_box 3 (cs := _ :: _) rfl rfl rfl) ?_
  refine pa ?_
  refine nx ?_
  refine sq [0,1,2] ?_
  refine rl rfl w0 rfl (bx_ldN tok rfl rfl rfl rfl) ?_
  obtain ⟨v1, hv1, h0⟩ := bnd h0
  refine rs rfl w0 rfl (c_call 4 (s_l25Ok_c hv1) rfl rfl rfl) ?_
  refine pa ?_
  refine nx ?_
  refine aw_ret ?_
  cases h0
  exact ret0_ (rs := [.tmp 2]) rfl

theorem s_l01Spoil_b_c {p0 : L00Src_} {p1 : ByteArray} {r : ByteArray × L00Src_} (h0 : s_l01Spoil_b_m p0 p1 = some r) : FnC Tryz.prog 42 [.live [⟨84, 3, .av [[.d (.sl (List.map cU8 p0.code)), .d (.v (.int .i64 p0.at_)), .d (.v (.int .u64 p0.seed))]]⟩]] [.ptr 0 0 1 0 0, .d (.v (.string p1))] [.live [⟨84, 3, .av [[.d (.sl (List.map cU8 r.2.code)), .d (.v (.int .i64 r.2.at_)), .d (.v (.int .u64 r.2.seed))]]⟩]] (.d (.v (.string r.1))) := by
  refine fnc_intro (T := tt) (N := 44) tok Tryz.func42 rfl rfl (by kernel_rfl) rfl rfl ?_
  unfold s_l01Spoil_b_m at h0
  refine sq [0] ?_
  refine pa ?_
  refine nx ?_
  obtain ⟨v12, h1, h0⟩ := bnd h0
  refine aw_cut ⟨updA ((fun _ => .dead)) 1 (.d (.v (.string v12.1))), lks [.live [⟨84, 3, .av [[.d (.sl (List.map cU8 v12.2.code)), .d (.v (.int .i64 v12.2.at_)), .d (.v (.int .u64 v12.2.seed))]]⟩], .no, .no]⟩ ?_ ?_
  refine sq [0,1] ?_
  refine rp rfl w0 rfl (pu_move (r := .ptr _ _ _ _ _) rfl) ?_
  obtain ⟨v1, hv1, h1⟩ := bnd h1
  refine rw1 rfl w0 rfl (c_callP [0] 300 (l00Src_pick_b_c hv1) rfl rfl) ?_
  refine nx ?_
  refine aw_block ?_
  refine sq [0,1] ?_
  refine rp rfl w0 rfl (pu_eql rfl rfl) ?_
  refine pa ?_
  refine nx ?_
  refine aw_if h1 rfl (fun hc h1 => ?_) (fun hc h1 => ?_)
  refine sq [0,1,2,3,4,5] ?_
  refine rp rfl w0 rfl (pu_move (r := .ptr _ _ _ _ _) rfl) ?_
  refine pm ?_
  refine rp rfl w0 rfl (pu_len_str tok rfl rfl rfl) ?_
  refine rp rfl w0 rfl (pw_add rfl rfl) ?_
  obtain ⟨v2, hv2, h1⟩ := bnd h1
  refine rw1 rfl w0 rfl (c_callP [0] 300 (l00Src_pick_b_c hv2) rfl rfl) ?_
  refine pa ?_
  refine nx ?_
  refine aw_region_draw (is := [0, 1, 2, 3, 7, 8, 9, 4, 5, 6, 10, 11]) [0, 0, 3, 0, 0, 24, 63, 0, 0, 384, 1023, 2047] follows (by kernel_rfl) ?_
  refine tpm ?_
  refine tpm ?_
  obtain ⟨hq3, h1⟩ := chk_e h1
  refine rt_p rfl w0 rfl (pu_ssub tok hq3 rfl (.inl ⟨rfl, rfl⟩) (.inr ⟨_, _, rfl, rfl⟩) rfl rfl) ?_
  refine rt_p rfl w0 rfl (pu_move (r := .ptr _ _ _ _ _) rfl) ?_
  refine tpm ?_
  refine tpm ?_
  obtain ⟨hq4, h1⟩ := chk_e h1
  refine rt_p rfl w0 rfl (pu_ssub tok hq4 rfl (.inr ⟨_, _, rfl, rfl⟩) (.inl ⟨rfl, rfl⟩) rfl rfl) ?_
  refine rt_s rfl w0 rfl (bs_val tok cS [(⟨#[32]⟩ : ByteArray), (⟨#[48]⟩ : ByteArray), (⟨#[45]⟩ : ByteArray), (⟨#[120]⟩ : ByteArray), (⟨#[49]⟩ : ByteArray), (⟨#[57]⟩ : ByteArray), (⟨#[46]⟩ : ByteArray)] rfl rfl rfl (by repeat (first | exact Els.nil _ | apply Els.cons (cs := [.d _]) rfl rfl rfl | apply Els.cons (cs := _ :: _) rfl rfl rfl)) rfl rfl rfl (by repeat (first | exact AllDD.nil | (apply AllDD.cons; (repeat (first | exact AllD.nil | apply AllD.cons))))) rfl) ?_
  obtain ⟨v5, hv5, h1⟩ := bnd h1
  refine rt_wkd rfl w0 rfl (c_callP [0] 300 (l00Src_text_b_c hv5) rfl rfl) ?_
  obtain ⟨hq6, h1⟩ := chk_e h1
  refine rt_p rfl w0 rfl (pu_cat rfl rfl hq6) ?_
  obtain ⟨hq7, h1⟩ := chk_e h1
  refine rt_p rfl w0 rfl (pu_cat rfl rfl hq7) ?_
  refine tpa ?_
  refine rt_nil ?_
  refine ⟨by kernel_rfl, ?_⟩
  refine block_n ?_
  refine then_n ?_
  cases h1
  exact wk [0, 1, 2]
  refine sq [0,1] ?_
  refine rp rfl w0 rfl (pu_eql rfl rfl) ?_
  refine pa ?_
  refine nx ?_
  refine aw_if h1 rfl (fun hc h1 => ?_) (fun hc h1 => ?_)
  refine sq [0,1] ?_
  refine pm ?_
  refine rp rfl w0 rfl (pu_sneq rfl rfl) ?_
  refine nx ?_
  refine aw_if h1 rfl (fun hc h1 => ?_) (fun hc h1 => ?_)
  refine sq [0,1,2,3,4] ?_
  refine rp rfl w0 rfl (pu_move (r := .ptr _ _ _ _ _) rfl) ?_
  refine pm ?_
  refine rp rfl w0 rfl (pu_len_str tok rfl rfl rfl) ?_
  obtain ⟨v8, hv8, h1⟩ := bnd h1
  refine rw1 rfl w0 rfl (c_callP [0] 300 (l00Src_pick_b_c hv8) rfl rfl) ?_
  refine pa ?_
  refine nx ?_
  refine aw_region_draw (is := [0, 1, 2, 3, 4, 5, 6, 7, 8]) [0, 0, 3, 0, 0, 16, 56, 127, 255] follows (by kernel_rfl) ?_
  refine tpm ?_
  refine tpm ?_
  obtain ⟨hq9, h1⟩ := chk_e h1
  refine rt_p rfl w0 rfl (pu_ssub tok hq9 rfl (.inl ⟨rfl, rfl⟩) (.inr ⟨_, _, rfl, rfl⟩) rfl rfl) ?_
  refine tpm ?_
  refine tpm ?_
  refine rt_p rfl w0 rfl (pw_add rfl rfl) ?_
  obtain ⟨hq10, h1⟩ := chk_e h1
  refine rt_p rfl w0 rfl (pu_ssub tok hq10 rfl (.inr ⟨_, _, rfl, rfl⟩) (.inl ⟨rfl, rfl⟩) rfl rfl) ?_
  obtain ⟨hq11, h1⟩ := chk_e h1
  refine rt_p rfl w0 rfl (pu_cat rfl rfl hq11) ?_
  refine tpa ?_
  refine rt_nil ?_
  refine ⟨by kernel_rfl, ?_⟩
  refine block_n ?_
  refine then_n ?_
  cases h1
  exact wk [0, 1, 2]
  refine aw_skip ?_
  refine block_n ?_
  refine then_n ?_
  cases h1
  exact wk [0, 1, 2]
  refine aw_skip ?_
  refine block_n ?_
  refine then_n ?_
  cases h1
  exact wk [0, 1, 2]
  refine sq [0,1] ?_
  refine pm ?_
  refine pa ?_
  refine nx ?_
  refine aw_ret ?_
  cases h0
  exact retP_ (rs := [.tmp 4]) 1 rfl rfl

theorem s_DrawReadDrawing_c {p0 : List Int} {r : ByteArray} (h0 : s_DrawReadDrawing_m p0 = some r) : FnC Tryz.prog 19 [] [.d (.sl (List.map cU8 p0))] [] (.d (.v (.string r))) := by
  refine fnc_intro (T := tt) (N := 18) tok Tryz.func19 rfl rfl (by kernel_rfl) rfl rfl ?_
  unfold s_DrawReadDrawing_m at h0
  refine sq [0] ?_
  refine pa ?_
  refine nx ?_
  refine sq [0,1,2] ?_
  refine pm ?_
  obtain ⟨v1, hv1, h0⟩ := bnd h0
  refine rs rfl w0 rfl (c_call 3 (s_l00From_c hv1) rfl rfl rfl) ?_
  refine rp rfl w0 rfl (pu_assign (r := .ptr _ _ _ _ _) rfl) ?_
  refine nx ?_
  refine aw_seq ?_
  refine sq [0,1] ?_
  refine rp rfl w0 rfl (pu_move (r := .ptr _ _ _ _ _) rfl) ?_
  obtain ⟨v2, hv2, h0⟩ := bnd h0
  refine rw1 rfl w0 rfl (c_callP [3] 300 (l00Src_one_b_c hv2) rfl rfl) ?_
  refine nx ?_
  refine aw_ifB h0 rfl (fun hc h0 => ?_) (fun hc h0 => ?_)
  refine sq [0,1,2,3,4,5] ?_
  refine rp rfl w0 rfl (pu_move (r := .ptr _ _ _ _ _) rfl) ?_
  obtain ⟨v3, hv3, h0⟩ := bnd h0
  refine rw1 rfl w0 rfl (c_callP [3] 300 (l00Src_pick_b_c hv3) rfl rfl) ?_
  refine rp rfl w0 rfl (pw_add rfl rfl) ?_
  obtain ⟨hq4, h0⟩ := chk_e h0
  refine rs rfl w0 rfl (mk_own 4 tok (c := cU8) 0 hq4 rfl rfl rfl rfl rfl rfl rfl rfl rfl rfl rfl rfl rfl) ?_
  refine rs rfl w0 rfl (cv_bo tok rfl rfl rfl rfl rfl rfl rfl rfl rfl rfl) ?_
  refine pa ?_
  refine nx ?_
  refine aw_ret ?_
  refine then_r ?_
  cases h0
  exact ret0_ (rs := [.tmp 2]) rfl
  refine sk ?_
  refine sq [0,1,2,3,4,5] ?_
  refine rp rfl w0 rfl (pu_move (r := .ptr _ _ _ _ _) rfl) ?_
  refine rp rfl w0 rfl (pu_move (r := .ptr _ _ _ _ _) rfl) ?_
  obtain ⟨v5, hv5, h0⟩ := bnd h0
  refine rw1 rfl w0 rfl (c_callP [3, 4] 300 (fnc_pad 1 (s_l25Draw_b_c hv5)) rfl rfl) ?_
  obtain ⟨v6, hv6, h0⟩ := bnd h0
  refine rs rfl w0 rfl (c_callV 5 (s_l25Text_c hv6) rfl rfl) ?_
  obtain ⟨v7, hv7, h0⟩ := bnd h0
  refine rw1 rfl w0 rfl (c_callP [3] 300 (s_l01Spoil_b_c hv7) rfl rfl) ?_
  refine pa ?_
  refine nx ?_
  refine aw_ret ?_
  cases h0
  exact ret0_ (rs := [.tmp 2]) rfl

theorem internal_stringslite_HasSuffix_c {p0 : ByteArray} {p1 : ByteArray} {r : Bool} (h0 : internal_stringslite_HasSuffix_m p0 p1 = some r) : FnC Tryz.prog 75 [] [.d (.v (.string p0)), .d (.v (.string p1))] [] (.d (.v (.bool r))) := by
  refine fnc_intro (T := tt) (N := 21) tok Tryz.func75 rfl rfl (by kernel_rfl) rfl rfl ?_
  unfold internal_stringslite_HasSuffix_m at h0
  refine sq [0] ?_
  refine pa ?_
  refine nx ?_
  refine sq [0,1,2,3,4,5,6,7,8,9,10,11,12,13,14,15,16] ?_
  refine pm ?_
  refine rp rfl w0 rfl (pu_len_str tok rfl rfl rfl) ?_
  refine pm ?_
  refine rp rfl w0 rfl (pu_len_str tok rfl rfl rfl) ?_
  refine rp rfl w0 rfl (pu_geq rfl rfl) ?_
  refine pm ?_
  refine ra_if (u := 10) h0 rfl (fun hc h0 => ?_) (fun hc h0 => ?_)
  refine pm1 ?_
  refine pm1 ?_
  refine rp rfl (w1 rfl rfl rfl) rfl (pu_len_str tok rfl rfl rfl) ?_
  refine pm1 ?_
  refine rp rfl (w1 rfl rfl rfl) rfl (pu_len_str tok rfl rfl rfl) ?_
  refine rp rfl (w1 rfl rfl rfl) rfl (pw_sub rfl rfl) ?_
  obtain ⟨hq1, h0⟩ := chk_e h0
  refine rp rfl (w1 rfl rfl rfl) rfl (pu_ssub tok hq1 rfl (.inr ⟨_, _, rfl, rfl⟩) (.inl ⟨rfl, rfl⟩) rfl rfl) ?_
  refine pm1 ?_
  refine rp rfl (w1 rfl rfl rfl) rfl (pu_seql rfl rfl) ?_
  refine pkt ?_
  refine pa ?_
  refine nx ?_
  refine aw_ret ?_
  cases h0
  exact ret0_ (rs := [.tmp 4]) rfl
  iterate 9 refine k1 ?_
  refine pkf ?_
  refine pa ?_
  refine nx ?_
  refine aw_ret ?_
  cases h0
  exact ret0_ (rs := [.tmp 4]) rfl

theorem strings_HasSuffix_c {p0 : ByteArray} {p1 : ByteArray} {r : Bool} (h0 : strings_HasSuffix_m p0 p1 = some r) : FnC Tryz.prog 48 [] [.d (.v (.string p0)), .d (.v (.string p1))] [] (.d (.v (.bool r))) := by
  refine fnc_intro (T := tt) (N := 8) tok Tryz.func48 rfl rfl (by kernel_rfl) rfl rfl ?_
  unfold strings_HasSuffix_m at h0
  refine sq [0] ?_
  refine pa ?_
  refine nx ?_
  refine sq [0,1,2,3] ?_
  refine pm ?_
  refine pm ?_
  obtain ⟨v1, hv1, h0⟩ := bnd h0
  refine rs rfl w0 rfl (c_call 3 (internal_stringslite_HasSuffix_c hv1) rfl rfl rfl) ?_
  refine pa ?_
  refine nx ?_
  refine aw_ret ?_
  cases h0
  exact ret0_ (rs := [.tmp 4]) rfl

theorem internal_stringslite_TrimSuffix_c {p0 : ByteArray} {p1 : ByteArray} {r : ByteArray} (h0 : internal_stringslite_TrimSuffix_m p0 p1 = some r) : FnC Tryz.prog 77 [] [.d (.v (.string p0)), .d (.v (.string p1))] [] (.d (.v (.string r))) := by
  refine fnc_intro (T := tt) (N := 16) tok Tryz.func77 rfl rfl (by kernel_rfl) rfl rfl ?_
  unfold internal_stringslite_TrimSuffix_m at h0
  refine sq [0] ?_
  refine pa ?_
  refine nx ?_
  refine aw_seq ?_
  refine sq [0,1,2] ?_
  refine pm ?_
  refine pm ?_
  obtain ⟨v1, hv1, h0⟩ := bnd h0
  refine rs rfl w0 rfl (c_call 3 (internal_stringslite_HasSuffix_c hv1) rfl rfl rfl) ?_
  refine nx ?_
  refine aw_ifB h0 rfl (fun hc h0 => ?_) (fun hc h0 => ?_)
  refine sq [0,1,2,3,4,5,6,7] ?_
  refine pm ?_
  refine pm ?_
  refine rp rfl w0 rfl (pu_len_str tok rfl rfl rfl) ?_
  refine pm ?_
  refine rp rfl w0 rfl (pu_len_str tok rfl rfl rfl) ?_
  refine rp rfl w0 rfl (pw_sub rfl rfl) ?_
  obtain ⟨hq2, h0⟩ := chk_e h0
  refine rp rfl w0 rfl (pu_ssub tok hq2 rfl (.inl ⟨rfl, rfl⟩) (.inr ⟨_, _, rfl, rfl⟩) rfl rfl) ?_
  refine pa ?_
  refine nx ?_
  refine aw_ret ?_
  refine then_r ?_
  cases h0
  exact ret0_ (rs := [.tmp 4]) rfl
  refine sk ?_
  refine sq [0,1] ?_
  refine pm ?_
  refine pa ?_
  refine nx ?_
  refine aw_ret ?_
  cases h0
  exact ret0_ (rs := [.tmp 4]) rfl

theorem strings_TrimSuffix_c {p0 : ByteArray} {p1 : ByteArray} {r : ByteArray} (h0 : strings_TrimSuffix_m p0 p1 = some r) : FnC Tryz.prog 50 [] [.d (.v (.string p0)), .d (.v (.string p1))] [] (.d (.v (.string r))) := by
  refine fnc_intro (T := tt) (N := 8) tok Tryz.func50 rfl rfl (by kernel_rfl) rfl rfl ?_
  unfold strings_TrimSuffix_m at h0
  refine sq [0] ?_
  refine pa ?_
  refine nx ?_
  refine sq [0,1,2,3] ?_
  refine pm ?_
  refine pm ?_
  obtain ⟨v1, hv1, h0⟩ := bnd h0
  refine rs rfl w0 rfl (c_call 3 (internal_stringslite_TrimSuffix_c hv1) rfl rfl rfl) ?_
  refine pa ?_
  refine nx ?_
  refine aw_ret ?_
  cases h0
  exact ret0_ (rs := [.tmp 4]) rfl

theorem strings_Count_c {p0 p1 : ByteArray} {r : Int} (h0 : strings_Count_m p0 p1 = some r) : FnC Tryz.prog 85 [] [.d (.v (.string p0)), .d (.v (.string p1))] [] (.d (.v (.int .i64 r))) := by
  obtain ⟨q0, h0⟩ := chk_e h0
  cases h0
  obtain ⟨⟨l⟩⟩ := p1
  match l, q0 with
  | [c], _ => exact sh_count

theorem internal_stringslite_Index_c {p0 p1 : ByteArray} {r : Int} (h0 : internal_stringslite_Index_m p0 p1 = some r) : FnC Tryz.prog 94 [] [.d (.v (.string p0)), .d (.v (.string p1))] [] (.d (.v (.int .i64 r))) := by
  obtain ⟨q0, h0⟩ := chk_e h0
  cases h0
  obtain ⟨⟨l⟩⟩ := p1
  match l, q0 with
  | [c], _ => exact sh_index

theorem strings_Index_c {p0 : ByteArray} {p1 : ByteArray} {r : Int} (h0 : strings_Index_m p0 p1 = some r) : FnC Tryz.prog 86 [] [.d (.v (.string p0)), .d (.v (.string p1))] [] (.d (.v (.int .i64 r))) := by
  refine fnc_intro (T := tt) (N := 8) tok Tryz.func86 rfl rfl (by kernel_rfl) rfl rfl ?_
  unfold strings_Index_m at h0
  refine sq [0] ?_
  refine pa ?_
  refine nx ?_
  refine sq [0,1,2,3] ?_
  refine pm ?_
  refine pm ?_
  obtain ⟨v1, hv1, h0⟩ := bnd h0
  refine rs rfl w0 rfl (c_call 3 (internal_stringslite_Index_c hv1) rfl rfl rfl) ?_
  refine pa ?_
  refine nx ?_
  refine aw_ret ?_
  cases h0
  exact ret0_ (rs := [.tmp 4]) rfl

theorem strings_genSplit_c {p0 : ByteArray} {p1 : ByteArray} {p2 : Int} {p3 : Int} {r : List ByteArray} (h0 : strings_genSplit_m p0 p1 p2 p3 = some r) : FnC Tryz.prog 76 [] [.d (.v (.string p0)), .d (.v (.string p1)), .d (.v (.int .i64 p2)), .d (.v (.int .i64 p3))] [.live [⟨9, 1, .data (List.map cS r)⟩]] (.own 0 0 r.length) := by
  refine fnc_intro (T := tt) (N := 66) tok Tryz.func76 rfl rfl (by kernel_rfl) rfl rfl ?_
  unfold strings_genSplit_m at h0
  refine sq [0] ?_
  refine pa ?_
  refine nx ?_
  refine aw_seq ?_
  refine sq [0,1] ?_
  refine pm ?_
  refine rp rfl w0 rfl (pu_eql rfl rfl) ?_
  refine nx ?_
  refine aw_if h0 rfl (fun hc h0 => ?_) (fun hc h0 => ?_)
  refine sq [0] ?_
  refine pa ?_
  refine nx ?_
  refine aw_weak (weak_adopt_t 3 rfl 9 1 (d := 8) rfl) ?_
  refine aw_ret ?_
  refine then_r ?_
  cases h0
  exact retK_ (rs := [.tmp 8]) [3] rfl
  refine sk ?_
  refine aw_seq ?_
  refine sq [0,1] ?_
  refine pm ?_
  refine rp rfl w0 rfl (pu_seql rfl rfl) ?_
  refine nx ?_
  refine aw_if h0 rfl (fun hc h0 => ?_) (fun hc h0 => ?_)
  cases h0
  refine sk ?_
  obtain ⟨v2, h1, h0⟩ := bnd h0
  refine aw_cut ⟨updA (updA (updA (updA ((fun _ => .dead)) 0 (.d (.v (.string p0)))) 1 (.d (.v (.string p1)))) 2 (.d (.v (.int .i64 p2)))) 3 (.d (.v (.int .i64 v2))), lks [.no, .no, .no]⟩ ?_ ?_
  refine sq [0,1] ?_
  refine pm ?_
  refine rp rfl w0 rfl (pu_lss rfl rfl) ?_
  refine nx ?_
  refine aw_if h1 rfl (fun hc h1 => ?_) (fun hc h1 => ?_)
  refine sr [0,1,2,3,4] ?_
  refine pm ?_
  refine pm ?_
  obtain ⟨v1, hv1, h1⟩ := bnd h1
  refine rs rfl w0 rfl (c_call 3 (strings_Count_c hv1) rfl rfl rfl) ?_
  refine rp rfl w0 rfl (pw_add rfl rfl) ?_
  refine pa ?_
  refine nx ?_
  cases h1
  exact wk [0, 1, 2]
  refine sk ?_
  cases h1
  exact wk [0, 1, 2]
  refine sq [0,1,2,3,4,5] ?_
  refine pm ?_
  refine pm ?_
  refine rp rfl w0 rfl (pu_len_str tok rfl rfl rfl) ?_
  refine rp rfl w0 rfl (pw_add rfl rfl) ?_
  refine rp rfl w0 rfl (pu_min rfl rfl) ?_
  refine pa ?_
  refine nx ?_
  refine sq [0,1,2] ?_
  refine pm ?_
  obtain ⟨hq3, h0⟩ := chk_e h0
  refine rs rfl w0 rfl (mk_own 3 tok (c := cS) (⟨#[]⟩ : ByteArray) hq3 rfl rfl rfl rfl rfl rfl rfl rfl rfl rfl rfl rfl rfl) ?_
  refine rp rfl w0 rfl (pu_assign (r := .own _ _ _) rfl) ?_
  refine nx ?_
  refine sq [0,1,2] ?_
  refine pm ?_
  refine rp rfl w0 rfl (pw_sub rfl rfl) ?_
  refine pa ?_
  refine nx ?_
  refine sq [0] ?_
  refine pa ?_
  refine nx ?_
  obtain ⟨v14, h1, h0⟩ := bnd h0
  refine aw_cut ⟨updA (updA (updA ((fun _ => .dead)) 0 (.d (.v (.string v14.1)))) 9 (.own 3 0 (v14.2.2).length)) 10 (.d (.v (.int .i64 v14.2.1))), lks [.no, .no, .no, .live [⟨9, 1, .data (List.map cS v14.2.2)⟩]]⟩ ?_ ?_
  refine aw_block ?_
  refine aw_loopM (fun s9 => ⟨updA (updA (updA (updA (updA (updA ((fun _ => .dead)) 0 (.d (.v (.string s9.1)))) 1 (.d (.v (.string p1)))) 2 (.d (.v (.int .i64 p2)))) 3 (.d (.v (.int .i64 (w64 ((min v2 (w64 ((p0.size : Int) + 1))) - 1)))))) 9 (.own 3 0 (s9.2.2).length)) 10 (.d (.v (.int .i64 s9.2.1))), lks [.no, .no, .no, .live [⟨9, 1, .data (List.map cS s9.2.2)⟩]]⟩) h1 ?_ (fun s9 y h2 => ?_)
  exact wk [0, 1, 2, 3]
  refine aw_seq ?_
  refine sq [0,1,2] ?_
  refine pm ?_
  refine pm ?_
  refine rp rfl w0 rfl (pu_lss rfl rfl) ?_
  refine nx ?_
  refine aw_if h2 rfl (fun hc h2 => ?_) (fun hc h2 => ?_)
  refine sk ?_
  refine aw_block ?_
  refine sq [0,1,2,3] ?_
  refine pm ?_
  refine pm ?_
  obtain ⟨v10, hv10, h2⟩ := bnd h2
  refine rs rfl w0 rfl (c_call 4 (strings_Index_c hv10) rfl rfl rfl) ?_
  refine pa ?_
  refine nx ?_
  refine aw_seq ?_
  refine sq [0,1] ?_
  refine pm ?_
  refine rp rfl w0 rfl (pu_lss rfl rfl) ?_
  refine nx ?_
  refine aw_if h2 rfl (fun hc h2 => ?_) (fun hc h2 => ?_)
  refine aw_exit ?_
  refine then_e ?_
  refine block_e rfl ?_
  cases h2
  refine loop_x ⟨_, rfl, fun e => ?_⟩
  subst e
  refine block_hit ?_
  refine then_n ?_
  exact wk [0, 1, 2, 3]
  refine sk ?_
  refine sq [0,1,2,3,4,5,6,7,8] ?_
  refine rp rfl w0 rfl (pu_move (r := .own _ _ _) rfl) ?_
  iterate 4 refine pm ?_
  refine rp rfl w0 rfl (pw_add rfl rfl) ?_
  obtain ⟨hq11, h2⟩ := chk_e h2
  refine rp rfl w0 rfl (pu_ssub tok hq11 rfl (.inl ⟨rfl, rfl⟩) (.inr ⟨_, _, rfl, rfl⟩) rfl rfl) ?_
  obtain ⟨v12, hv12, h2⟩ := bnd h2
  refine rl rfl w0 rfl (ow_ix tok hv12 rfl rfl rfl rfl rfl rfl rfl rfl) ?_
  refine rw0 rfl w0 (rw_st (cs := [.d _]) tok (s9.1.extract (0 : Int).toNat (w64 (v10 + p2)).toNat) (atI_e hv12).2.1 rfl rfl rfl rfl rfl rfl rfl rfl) ?_
  refine nx ?_
  refine sq [0,1,2,3,4,5,6] ?_
  iterate 3 refine pm ?_
  refine rp rfl w0 rfl (pu_len_str tok rfl rfl rfl) ?_
  refine rp rfl w0 rfl (pw_add rfl rfl) ?_
  obtain ⟨hq13, h2⟩ := chk_e h2
  refine rp rfl w0 rfl (pu_ssub tok hq13 rfl (.inr ⟨_, _, rfl, rfl⟩) (.inl ⟨rfl, rfl⟩) rfl rfl) ?_
  refine pa ?_
  refine nx ?_
  refine sr [0,1,2] ?_
  refine pm ?_
  refine rp rfl w0 rfl (pw_add rfl rfl) ?_
  refine pa ?_
  refine ra_nil ?_
  refine block_n ?_
  refine loop_n ?_
  cases h2
  refine ⟨_, rfl, ?_⟩
  exact wk [0, 1, 2, 3]
  refine aw_exit ?_
  refine then_e ?_
  cases h2
  refine loop_x ⟨_, rfl, fun e => ?_⟩
  subst e
  refine block_hit ?_
  refine then_n ?_
  exact wk [0, 1, 2, 3]
  refine sq [0,1,2,3,4] ?_
  refine rp rfl w0 rfl (pu_move (r := .own _ _ _) rfl) ?_
  refine pm ?_
  refine pm ?_
  obtain ⟨v15, hv15, h0⟩ := bnd h0
  refine rl rfl w0 rfl (ow_ix tok hv15 rfl rfl rfl rfl rfl rfl rfl rfl) ?_
  refine rw0 rfl w0 (rw_st (cs := [.d _]) tok v14.1 (atI_e hv15).2.1 rfl rfl rfl rfl rfl rfl rfl rfl) ?_
  refine nx ?_
  refine sq [0,1,2,3,4] ?_
  refine rp rfl w0 rfl (pu_move (r := .own _ _ _) rfl) ?_
  refine pm ?_
  refine rp rfl w0 rfl (pw_add rfl rfl) ?_
  obtain ⟨hq16, h0⟩ := chk_e h0
  refine rw1 rfl w0 rfl (ow_sub 4 tok hq16 rfl rfl rfl rfl rfl rfl (by first | (simp; done) | omega | (simp; omega)) rfl) ?_
  refine rp rfl w0 rfl (pu_assign (r := .own _ _ _) rfl) ?_
  refine nx ?_
  refine aw_ret ?_
  cases h0
  exact retK_ (rs := [.tmp 8]) [4] rfl

theorem strings_Split_c {p0 : ByteArray} {p1 : ByteArray} {r : List ByteArray} (h0 : strings_Split_m p0 p1 = some r) : FnC Tryz.prog 49 [] [.d (.v (.string p0)), .d (.v (.string p1))] [.live [⟨9, 1, .data (List.map cS r)⟩]] (.own 0 0 r.length) := by
  refine fnc_intro (T := tt) (N := 8) tok Tryz.func49 rfl rfl (by kernel_rfl) rfl rfl ?_
  unfold strings_Split_m at h0
  refine sq [0] ?_
  refine pa ?_
  refine nx ?_
  refine sq [0,1,2,3] ?_
  refine pm ?_
  refine pm ?_
  obtain ⟨v1, hv1, h0⟩ := bnd h0
  refine rs rfl w0 rfl (c_call 3 (strings_genSplit_c hv1) rfl rfl rfl) ?_
  refine rp rfl w0 rfl (pu_assign (r := .own _ _ _) rfl) ?_
  refine nx ?_
  refine aw_ret ?_
  cases h0
  exact retK_ (rs := [.tmp 4]) [3] rfl

theorem i_linesOf_c {p0 : ByteArray} {r : List ByteArray × Bool} (h0 : i_linesOf_m p0 = some r) : FnC Tryz.prog 26 [] [.d (.v (.string p0))] [.live [⟨9, 1, .data (List.map cS r.1)⟩]] (.tup [.own 0 0 r.1.length, .d (.v (.bool r.2))]) := by
  refine fnc_intro (T := tt) (N := 12) tok Tryz.func26 rfl rfl (by kernel_rfl) rfl rfl ?_
  unfold i_linesOf_m at h0
  refine sq [0,1] ?_
  refine pa ?_
  refine pa ?_
  refine nx ?_
  refine aw_seq ?_
  refine sq [0,1] ?_
  refine pm ?_
  refine rp rfl w0 rfl (pu_seql rfl rfl) ?_
  refine nx ?_
  refine aw_if h0 rfl (fun hc h0 => ?_) (fun hc h0 => ?_)
  refine sq [0,1] ?_
  refine pa ?_
  refine pa ?_
  refine nx ?_
  refine aw_weak (weak_adopt_t 3 rfl 9 1 (d := 2) rfl) ?_
  refine aw_ret ?_
  refine then_r ?_
  cases h0
  exact retK_ (rs := [.tmp 2, .tmp 3]) [3] rfl
  refine sk ?_
  refine aw_seq ?_
  refine sq [0,1,2] ?_
  refine pm ?_
  obtain ⟨v1, hv1, h0⟩ := bnd h0
  refine rs rfl w0 rfl (c_call 3 (strings_HasSuffix_c hv1) rfl rfl rfl) ?_
  refine rp rfl w0 rfl (pu_not rfl) ?_
  refine nx ?_
  refine aw_ifB h0 rfl (fun hc h0 => ?_) (fun hc h0 => ?_)
  refine sq [0,1] ?_
  refine pa ?_
  refine pa ?_
  refine nx ?_
  refine aw_weak (weak_adopt_t 3 rfl 9 1 (d := 2) rfl) ?_
  refine aw_ret ?_
  refine then_r ?_
  cases h0
  exact retK_ (rs := [.tmp 2, .tmp 3]) [3] rfl
  refine sk ?_
  refine sq [0,1,2,3,4] ?_
  refine pm ?_
  obtain ⟨v2, hv2, h0⟩ := bnd h0
  refine rs rfl w0 rfl (c_call 3 (strings_TrimSuffix_c hv2) rfl rfl rfl) ?_
  obtain ⟨v3, hv3, h0⟩ := bnd h0
  refine rs rfl w0 rfl (c_call 3 (strings_Split_c hv3) rfl rfl rfl) ?_
  refine rp rfl w0 rfl (pu_assign (r := .own _ _ _) rfl) ?_
  refine pa ?_
  refine nx ?_
  refine aw_ret ?_
  cases h0
  exact retK_ (rs := [.tmp 2, .tmp 3]) [3] rfl

theorem i_wordsOf_c {p0 : ByteArray} {r : List ByteArray} (h0 : i_wordsOf_m p0 = some r) : FnC Tryz.prog 51 [] [.d (.v (.string p0))] [.live [⟨9, 1, .data (List.map cS r)⟩]] (.own 0 0 r.length) := by
  refine fnc_intro (T := tt) (N := 5) tok Tryz.func51 rfl rfl (by kernel_rfl) rfl rfl ?_
  unfold i_wordsOf_m at h0
  refine sq [0] ?_
  refine pa ?_
  refine nx ?_
  refine sq [0,1,2] ?_
  refine pm ?_
  obtain ⟨v1, hv1, h0⟩ := bnd h0
  refine rs rfl w0 rfl (c_call 3 (strings_Split_c hv1) rfl rfl rfl) ?_
  refine rp rfl w0 rfl (pu_assign (r := .own _ _ _) rfl) ?_
  refine nx ?_
  refine aw_ret ?_
  cases h0
  exact retK_ (rs := [.tmp 2]) [3] rfl

theorem i_ReadDecimal_c {p0 : ByteArray} {r : Int × Bool} (h0 : i_ReadDecimal_m p0 = some r) : FnC Tryz.prog 52 [] [.d (.v (.string p0))] [] (.tup [.d (.v (.int .i64 r.1)), .d (.v (.bool r.2))]) := by
  obtain ⟨q0, h0⟩ := chk_e h0
  cases h0
  exact sh_read q0

theorem i_readShape_c {p0 : ByteArray} {r : Shape_ × Bool} (h0 : i_readShape_m p0 = some r) : FnC Tryz.prog 27 [] [.d (.v (.string p0))] [] (.tup [.agg [.d (.v (.int .i64 r.1.Kind)), .d (.v (.int .i64 r.1.A.X)), .d (.v (.int .i64 r.1.A.Y)), .d (.v (.int .i64 r.1.B.X)), .d (.v (.int .i64 r.1.B.Y)), .d (.v (.int .i64 r.1.R)), .d (.v (.string r.1.Name))], .d (.v (.bool r.2))]) := by
  refine fnc_intro (T := tt) (N := 97) tok Tryz.func27 rfl rfl (by kernel_rfl) rfl rfl ?_
  unfold i_readShape_m at h0
  refine sq [0,1] ?_
  refine rs rfl w0 rfl (st_alloc 3 (cs := [.d (.v (.int .i64 0)), .d (.v (.int .i64 0)), .d (.v (.int .i64 0)), .d (.v (.int .i64 0)), .d (.v (.int .i64 0)), .d (.v (.int .i64 0)), .d (.v (.string (⟨#[]⟩ : ByteArray)))]) tok rfl rfl rfl) ?_
  refine pa ?_
  refine nx ?_
  refine sq [0,1,2] ?_
  refine pm ?_
  obtain ⟨v1, hv1, h0⟩ := bnd h0
  refine rs rfl w0 rfl (c_call 4 (i_wordsOf_c hv1) rfl rfl rfl) ?_
  refine rp rfl w0 rfl (pu_assign (r := .own _ _ _) rfl) ?_
  refine nx ?_
  refine sq [0,1,2,3] ?_
  refine rp rfl w0 rfl (pu_move (r := .own _ _ _) rfl) ?_
  refine rl rfl w0 rfl (ow_len tok rfl rfl rfl rfl rfl) ?_
  obtain ⟨hq2, h0⟩ := chk_e h0
  refine rs rfl w0 rfl (mk_own 5 tok (c := cI) 0 hq2 rfl rfl rfl rfl rfl rfl rfl rfl rfl rfl rfl rfl rfl) ?_
  refine rp rfl w0 rfl (pu_assign (r := .own _ _ _) rfl) ?_
  refine nx ?_
  obtain ⟨v11, h1, h0⟩ := bnd h0
  refine aw_cut ⟨updA (updA (updA ((fun _ => .dead)) 2 (.ptr 3 0 1 0 0)) 4 (.own 4 0 (v1).length)) 5 (.own 5 0 (v11).length), lks [.no, .no, .no, .live [⟨44, 7, .av [[.d (.v (.int .i64 0)), .d (.v (.int .i64 0)), .d (.v (.int .i64 0)), .d (.v (.int .i64 0)), .d (.v (.int .i64 0)), .d (.v (.int .i64 0)), .d (.v (.string (⟨#[]⟩ : ByteArray)))]]⟩], .live [⟨9, 1, .data (List.map cS v1)⟩], .live [⟨2, 1, .data (List.map cI v11)⟩]]⟩ ?_ ?_
  refine sq [0,1,2] ?_
  refine rp rfl w0 rfl (pu_move (r := .own _ _ _) rfl) ?_
  refine rl rfl w0 rfl (ow_len tok rfl rfl rfl rfl rfl) ?_
  refine pm ?_
  refine nx ?_
  refine aw_block ?_
  refine aw_loopM (fun s7 => ⟨updA (updA (updA (updA (updA (updA ((fun _ => .dead)) 2 (.ptr 3 0 1 0 0)) 4 (.own 4 0 (v1).length)) 5 (.own 5 0 (s7.2).length)) 13 (.own 4 0 (v1).length)) 14 (.d (.v (.int .i64 (v1.length : Int))))) 15 (.d (.v (.int .i64 s7.1))), lks [.no, .no, .no, .live [⟨44, 7, .av [[.d (.v (.int .i64 0)), .d (.v (.int .i64 0)), .d (.v (.int .i64 0)), .d (.v (.int .i64 0)), .d (.v (.int .i64 0)), .d (.v (.int .i64 0)), .d (.v (.string (⟨#[]⟩ : ByteArray)))]]⟩], .live [⟨9, 1, .data (List.map cS v1)⟩], .live [⟨2, 1, .data (List.map cI s7.2)⟩]]⟩) h1 ?_ (fun s7 y h2 => ?_)
  exact wk [0, 1, 2, 3, 4, 5]
  refine sq [0] ?_
  refine rp rfl w0 rfl (pu_lss rfl rfl) ?_
  refine nx ?_
  refine aw_seq ?_
  refine aw_if h2 rfl (fun hc h2 => ?_) (fun hc h2 => ?_)
  refine sk ?_
  refine aw_seq ?_
  refine aw_block ?_
  refine sq [0,1,2,3,4] ?_
  refine pm ?_
  obtain ⟨v8, hv8, h2⟩ := bnd h2
  refine rl rfl w0 rfl (ow_ix tok hv8 rfl rfl rfl rfl rfl rfl rfl rfl) ?_
  refine rl rfl w0 rfl (rw_ld1 tok (atI_e hv8).2.1 rfl rfl rfl rfl rfl rfl) ?_
  refine pa ?_
  refine pa ?_
  refine nx ?_
  refine sr [0,1,2,3,4,5,6,7,8] ?_
  refine rp rfl w0 rfl (pu_move (r := .own _ _ _) rfl) ?_
  refine pm ?_
  refine pm ?_
  obtain ⟨v9, hv9, h2⟩ := bnd h2
  refine rs rfl w0 rfl (c_call 6 (i_ReadDecimal_c hv9) rfl rfl rfl) ?_
  refine rp rfl w0 rfl (pu_move (r := .tup _) rfl) ?_
  refine rp rfl w0 rfl (pu_extract rfl rfl) ?_
  refine rp rfl w0 rfl (pu_extract rfl rfl) ?_
  obtain ⟨v10, hv10, h2⟩ := bnd h2
  refine rl rfl w0 rfl (ow_ix tok hv10 rfl rfl rfl rfl rfl rfl rfl rfl) ?_
  refine rw0 rfl w0 (rw_st (cs := [.d _]) tok v9.1 (atI_e hv10).2.1 rfl rfl rfl rfl rfl rfl rfl rfl) ?_
  refine ra_nil ?_
  refine block_n ?_
  refine then_n ?_
  refine sr [0,1] ?_
  refine rp rfl w0 rfl (pw_add rfl rfl) ?_
  refine pm ?_
  refine ra_nil ?_
  refine loop_n ?_
  cases h2
  refine ⟨_, rfl, ?_⟩
  exact wk [0, 1, 2, 3, 4, 5]
  refine aw_exit ?_
  refine then_e ?_
  cases h2
  refine loop_x ⟨_, rfl, fun e => ?_⟩
  subst e
  refine block_hit ?_
  refine then_n ?_
  exact wk [0, 1, 2, 3, 4, 5]
  refine aw_seq ?_
  refine aw_block ?_
  obtain ⟨v13, h1, h0⟩ := bnd h0
  refine aw_cut ⟨updA (updA (updA (updA ((fun _ => .dead)) 2 (.ptr 3 0 1 0 0)) 4 (.own 4 0 (v1).length)) 5 (.own 5 0 (v11).length)) 29 (.d (.v (.bool v13))), lks [.no, .no, .no, .live [⟨44, 7, .av [[.d (.v (.int .i64 0)), .d (.v (.int .i64 0)), .d (.v (.int .i64 0)), .d (.v (.int .i64 0)), .d (.v (.int .i64 0)), .d (.v (.int .i64 0)), .d (.v (.string (⟨#[]⟩ : ByteArray)))]]⟩], .live [⟨9, 1, .data (List.map cS v1)⟩], .live [⟨2, 1, .data (List.map cI v11)⟩]]⟩ ?_ ?_
  refine sr [0,1,2,3,4,5,6,7,8,9] ?_
  refine rp rfl w0 rfl (pu_move (r := .own _ _ _) rfl) ?_
  obtain ⟨v12, hv12, h1⟩ := bnd h1
  refine rl rfl w0 rfl (ow_ix tok hv12 rfl rfl rfl rfl rfl rfl rfl rfl) ?_
  refine rl rfl w0 rfl (rw_ld1 tok (atI_e hv12).2.1 rfl rfl rfl rfl rfl rfl) ?_
  refine rp rfl w0 rfl (pu_seql rfl rfl) ?_
  refine pm ?_
  refine ra_if (u := 34) h1 rfl (fun hc h1 => ?_) (fun hc h1 => ?_)
  refine rp rfl (w1 rfl rfl rfl) rfl (pu_move (r := .own _ _ _) rfl) ?_
  refine rl rfl (w1 rfl rfl rfl) rfl (ow_len tok rfl rfl rfl rfl rfl) ?_
  refine rp rfl (w1 rfl rfl rfl) rfl (pu_eql rfl rfl) ?_
  refine pkt ?_
  refine pa ?_
  refine nx ?_
  cases h1
  exact wk [0, 1, 2, 3, 4, 5]
  iterate 3 refine k1 ?_
  refine pkf ?_
  refine pa ?_
  refine nx ?_
  cases h1
  exact wk [0, 1, 2, 3, 4, 5]
  refine aw_ifB h0 rfl (fun hc h0 => ?_) (fun hc h0 => ?_)
  refine aw_seq ?_
  refine aw_region_draw (is := [0, 1, 2, 3, 4, 5, 6, 7, 8, 9, 10, 11, 12, 13, 14, 15, 16]) [0, 1, 3, 0, 8, 24, 63, 0, 128, 384, 0, 1024, 3072, 8064, 16383, 32767, 65535] follows (by kernel_rfl) ?_
  refine rt_p rfl w0 rfl (pu_move (r := .own _ _ _) rfl) ?_
  obtain ⟨v14, hv14, h0⟩ := bnd h0
  refine rt_lk rfl w0 rfl (ow_ix tok hv14 rfl rfl rfl rfl rfl rfl rfl rfl) rfl rfl rfl ?_
  refine rt_lk rfl w0 rfl (rw_ld1 tok (atI_e hv14).2.1 rfl rfl rfl rfl rfl rfl) rfl rfl rfl ?_
  refine rt_p rfl w0 rfl (pu_move (r := .own _ _ _) rfl) ?_
  obtain ⟨v15, hv15, h0⟩ := bnd h0
  refine rt_lk rfl w0 rfl (ow_ix tok hv15 rfl rfl rfl rfl rfl rfl rfl rfl) rfl rfl rfl ?_
  refine rt_lk rfl w0 rfl (rw_ld1 tok (atI_e hv15).2.1 rfl rfl rfl rfl rfl rfl) rfl rfl rfl ?_
  refine rt_p rfl w0 rfl (pbl (C0 := [.d (.v (.int .i64 0)), .d (.v (.int .i64 0))]) tok rfl rfl rfl) ?_
  refine rt_p rfl w0 rfl (pu_move (r := .own _ _ _) rfl) ?_
  obtain ⟨v16, hv16, h0⟩ := bnd h0
  refine rt_lk rfl w0 rfl (ow_ix tok hv16 rfl rfl rfl rfl rfl rfl rfl rfl) rfl rfl rfl ?_
  refine rt_lk rfl w0 rfl (rw_ld1 tok (atI_e hv16).2.1 rfl rfl rfl rfl rfl rfl) rfl rfl rfl ?_
  refine rt_p rfl w0 rfl (pu_move (r := .own _ _ _) rfl) ?_
  obtain ⟨v17, hv17, h0⟩ := bnd h0
  refine rt_lk rfl w0 rfl (ow_ix tok hv17 rfl rfl rfl rfl rfl rfl rfl rfl) rfl rfl rfl ?_
  refine rt_lk rfl w0 rfl (rw_ld1 tok (atI_e hv17).2.1 rfl rfl rfl rfl rfl rfl) rfl rfl rfl ?_
  refine rt_p rfl w0 rfl (pbl (C0 := [.d (.v (.int .i64 0)), .d (.v (.int .i64 0))]) tok rfl rfl rfl) ?_
  obtain ⟨v18, hv18, h0⟩ := bnd h0
  refine rt_c rfl w0 rfl (b_call 6 (i_line_c hv18) rfl rfl rfl) ?_
  refine rt_wk rfl w0 (bx_st (cs := _ :: _) tok rfl rfl rfl rfl rfl rfl rfl) ?_
  refine tpa ?_
  refine rt_nil ?_
  refine ⟨by kernel_rfl, ?_⟩
  refine then_n ?_
  refine aw_ret ?_
  refine block_r ?_
  refine then_r ?_
  cases h0
  exact ret0_ (rs := [.cell 2 44, .tmp 3]) rfl
  obtain ⟨v20, h1, h0⟩ := bnd h0
  refine aw_cut ⟨updA (updA (updA (updA ((fun _ => .dead)) 2 (.ptr 3 0 1 0 0)) 4 (.own 4 0 (v1).length)) 5 (.own 5 0 (v11).length)) 54 (.d (.v (.bool v20))), lks [.no, .no, .no, .live [⟨44, 7, .av [[.d (.v (.int .i64 0)), .d (.v (.int .i64 0)), .d (.v (.int .i64 0)), .d (.v (.int .i64 0)), .d (.v (.int .i64 0)), .d (.v (.int .i64 0)), .d (.v (.string (⟨#[]⟩ : ByteArray)))]]⟩], .live [⟨9, 1, .data (List.map cS v1)⟩], .live [⟨2, 1, .data (List.map cI v11)⟩]]⟩ ?_ ?_
  refine sr [0,1,2,3,4,5,6,7,8,9] ?_
  refine rp rfl w0 rfl (pu_move (r := .own _ _ _) rfl) ?_
  obtain ⟨v19, hv19, h1⟩ := bnd h1
  refine rl rfl w0 rfl (ow_ix tok hv19 rfl rfl rfl rfl rfl rfl rfl rfl) ?_
  refine rl rfl w0 rfl (rw_ld1 tok (atI_e hv19).2.1 rfl rfl rfl rfl rfl rfl) ?_
  refine rp rfl w0 rfl (pu_seql rfl rfl) ?_
  refine pm ?_
  refine ra_if (u := 59) h1 rfl (fun hc h1 => ?_) (fun hc h1 => ?_)
  refine rp rfl (w1 rfl rfl rfl) rfl (pu_move (r := .own _ _ _) rfl) ?_
  refine rl rfl (w1 rfl rfl rfl) rfl (ow_len tok rfl rfl rfl rfl rfl) ?_
  refine rp rfl (w1 rfl rfl rfl) rfl (pu_eql rfl rfl) ?_
  refine pkt ?_
  refine pa ?_
  refine nx ?_
  cases h1
  exact wk [0, 1, 2, 3, 4, 5]
  iterate 3 refine k1 ?_
  refine pkf ?_
  refine pa ?_
  refine nx ?_
  cases h1
  exact wk [0, 1, 2, 3, 4, 5]
  refine aw_ifB h0 rfl (fun hc h0 => ?_) (fun hc h0 => ?_)
  refine aw_seq ?_
  refine aw_region_draw (is := [0, 1, 2, 3, 4, 5, 6, 7, 8, 9, 10, 11, 12]) [0, 1, 3, 0, 8, 24, 63, 0, 128, 384, 1023, 2047, 4095] follows (by kernel_rfl) ?_
  refine rt_p rfl w0 rfl (pu_move (r := .own _ _ _) rfl) ?_
  obtain ⟨v21, hv21, h0⟩ := bnd h0
  refine rt_lk rfl w0 rfl (ow_ix tok hv21 rfl rfl rfl rfl rfl rfl rfl rfl) rfl rfl rfl ?_
  refine rt_lk rfl w0 rfl (rw_ld1 tok (atI_e hv21).2.1 rfl rfl rfl rfl rfl rfl) rfl rfl rfl ?_
  refine rt_p rfl w0 rfl (pu_move (r := .own _ _ _) rfl) ?_
  obtain ⟨v22, hv22, h0⟩ := bnd h0
  refine rt_lk rfl w0 rfl (ow_ix tok hv22 rfl rfl rfl rfl rfl rfl rfl rfl) rfl rfl rfl ?_
  refine rt_lk rfl w0 rfl (rw_ld1 tok (atI_e hv22).2.1 rfl rfl rfl rfl rfl rfl) rfl rfl rfl ?_
  refine rt_p rfl w0 rfl (pbl (C0 := [.d (.v (.int .i64 0)), .d (.v (.int .i64 0))]) tok rfl rfl rfl) ?_
  refine rt_p rfl w0 rfl (pu_move (r := .own _ _ _) rfl) ?_
  obtain ⟨v23, hv23, h0⟩ := bnd h0
  refine rt_lk rfl w0 rfl (ow_ix tok hv23 rfl rfl rfl rfl rfl rfl rfl rfl) rfl rfl rfl ?_
  refine rt_lk rfl w0 rfl (rw_ld1 tok (atI_e hv23).2.1 rfl rfl rfl rfl rfl rfl) rfl rfl rfl ?_
  obtain ⟨v24, hv24, h0⟩ := bnd h0
  refine rt_c rfl w0 rfl (b_call 6 (i_circle_c hv24) rfl rfl rfl) ?_
  refine rt_wk rfl w0 (bx_st (cs := _ :: _) tok rfl rfl rfl rfl rfl rfl rfl) ?_
  refine tpa ?_
  refine rt_nil ?_
  refine ⟨by kernel_rfl, ?_⟩
  refine then_n ?_
  refine aw_ret ?_
  refine block_r ?_
  refine then_r ?_
  cases h0
  exact ret0_ (rs := [.cell 2 44, .tmp 3]) rfl
  obtain ⟨v26, h1, h0⟩ := bnd h0
  refine aw_cut ⟨updA (updA (updA (updA ((fun _ => .dead)) 2 (.ptr 3 0 1 0 0)) 4 (.own 4 0 (v1).length)) 5 (.own 5 0 (v11).length)) 75 (.d (.v (.bool v26))), lks [.no, .no, .no, .live [⟨44, 7, .av [[.d (.v (.int .i64 0)), .d (.v (.int .i64 0)), .d (.v (.int .i64 0)), .d (.v (.int .i64 0)), .d (.v (.int .i64 0)), .d (.v (.int .i64 0)), .d (.v (.string (⟨#[]⟩ : ByteArray)))]]⟩], .live [⟨9, 1, .data (List.map cS v1)⟩], .live [⟨2, 1, .data (List.map cI v11)⟩]]⟩ ?_ ?_
  refine sr [0,1,2,3,4,5,6,7,8,9] ?_
  refine rp rfl w0 rfl (pu_move (r := .own _ _ _) rfl) ?_
  obtain ⟨v25, hv25, h1⟩ := bnd h1
  refine rl rfl w0 rfl (ow_ix tok hv25 rfl rfl rfl rfl rfl rfl rfl rfl) ?_
  refine rl rfl w0 rfl (rw_ld1 tok (atI_e hv25).2.1 rfl rfl rfl rfl rfl rfl) ?_
  refine rp rfl w0 rfl (pu_seql rfl rfl) ?_
  refine pm ?_
  refine ra_if (u := 80) h1 rfl (fun hc h1 => ?_) (fun hc h1 => ?_)
  refine rp rfl (w1 rfl rfl rfl) rfl (pu_move (r := .own _ _ _) rfl) ?_
  refine rl rfl (w1 rfl rfl rfl) rfl (ow_len tok rfl rfl rfl rfl rfl) ?_
  refine rp rfl (w1 rfl rfl rfl) rfl (pu_eql rfl rfl) ?_
  refine pkt ?_
  refine pa ?_
  refine nx ?_
  cases h1
  exact wk [0, 1, 2, 3, 4, 5]
  iterate 3 refine k1 ?_
  refine pkf ?_
  refine pa ?_
  refine nx ?_
  cases h1
  exact wk [0, 1, 2, 3, 4, 5]
  refine aw_ifB h0 rfl (fun hc h0 => ?_) (fun hc h0 => ?_)
  refine aw_seq ?_
  refine aw_region_draw (is := [0, 1, 2, 3, 4, 5, 6, 7, 8, 9, 10, 11, 12]) [0, 1, 3, 0, 8, 24, 63, 0, 128, 384, 1023, 2047, 4095] follows (by kernel_rfl) ?_
  refine rt_p rfl w0 rfl (pu_move (r := .own _ _ _) rfl) ?_
  obtain ⟨v27, hv27, h0⟩ := bnd h0
  refine rt_lk rfl w0 rfl (ow_ix tok hv27 rfl rfl rfl rfl rfl rfl rfl rfl) rfl rfl rfl ?_
  refine rt_lk rfl w0 rfl (rw_ld1 tok (atI_e hv27).2.1 rfl rfl rfl rfl rfl rfl) rfl rfl rfl ?_
  refine rt_p rfl w0 rfl (pu_move (r := .own _ _ _) rfl) ?_
  obtain ⟨v28, hv28, h0⟩ := bnd h0
  refine rt_lk rfl w0 rfl (ow_ix tok hv28 rfl rfl rfl rfl rfl rfl rfl rfl) rfl rfl rfl ?_
  refine rt_lk rfl w0 rfl (rw_ld1 tok (atI_e hv28).2.1 rfl rfl rfl rfl rfl rfl) rfl rfl rfl ?_
  refine rt_p rfl w0 rfl (pbl (C0 := [.d (.v (.int .i64 0)), .d (.v (.int .i64 0))]) tok rfl rfl rfl) ?_
  refine rt_p rfl w0 rfl (pu_move (r := .own _ _ _) rfl) ?_
  obtain ⟨v29, hv29, h0⟩ := bnd h0
  refine rt_lk rfl w0 rfl (ow_ix tok hv29 rfl rfl rfl rfl rfl rfl rfl rfl) rfl rfl rfl ?_
  refine rt_lk rfl w0 rfl (rw_ld1 tok (atI_e hv29).2.1 rfl rfl rfl rfl rfl rfl) rfl rfl rfl ?_
  obtain ⟨v30, hv30, h0⟩ := bnd h0
  refine rt_c rfl w0 rfl (b_call 6 (i_label_c hv30) rfl rfl rfl) ?_
  refine rt_wk rfl w0 (bx_st (cs := _ :: _) tok rfl rfl rfl rfl rfl rfl rfl) ?_
  refine tpa ?_
  refine rt_nil ?_
  refine ⟨by kernel_rfl, ?_⟩
  refine then_n ?_
  refine aw_ret ?_
  refine block_r ?_
  refine then_r ?_
  cases h0
  exact ret0_ (rs := [.cell 2 44, .tmp 3]) rfl
  refine aw_skip ?_
  refine block_n ?_
  refine then_n ?_
  refine sq [0,1,2] ?_
  refine rp rfl w0 rfl (pbl (C0 := [.d (.v (.int .i64 0)), .d (.v (.int .i64 0)), .d (.v (.int .i64 0)), .d (.v (.int .i64 0)), .d (.v (.int .i64 0)), .d (.v (.int .i64 0)), .d (.v (.string (⟨#[]⟩ : ByteArray)))]) tok rfl rfl rfl) ?_
  refine rw0 rfl w0 (bx_st (cs := _ :: _) tok rfl rfl rfl rfl rfl rfl rfl) ?_
  refine pa ?_
  refine nx ?_
  refine aw_ret ?_
  cases h0
  exact ret0_ (rs := [.cell 2 44, .tmp 3]) rfl

theorem i_ReadDrawing_c {p0 : ByteArray} {r : Drawing_ × Bool} (h0 : i_ReadDrawing_m p0 = some r) : FnC Tryz.prog 6 [] [.d (.v (.string p0))] [.live [⟨44, 7, .data (List.map cShape_ r.1.Shapes)⟩]] (.tup [.agg [.own 0 0 r.1.Shapes.length], .d (.v (.bool r.2))]) := by
  refine fnc_intro (T := tt) (N := 56) tok Tryz.func6 rfl rfl (by kernel_rfl) rfl rfl ?_
  unfold i_ReadDrawing_m at h0
  refine sq [0,1] ?_
  refine rs rfl w0 rfl (st_alloc 3 (cs := [.d (.v (.slice none 0 0))]) tok rfl rfl rfl) ?_
  refine pa ?_
  refine nx ?_
  refine sq [0,1,2,3,4,5,6] ?_
  refine pm ?_
  obtain ⟨v1, hv1, h0⟩ := bnd h0
  refine rs rfl w0 rfl (c_call 4 (i_linesOf_c hv1) rfl rfl rfl) ?_
  refine rp rfl w0 rfl (pu_move (r := .tup _) rfl) ?_
  refine rp rfl w0 rfl (pu_extract rfl rfl) ?_
  refine rp rfl w0 rfl (pu_extract rfl rfl) ?_
  refine rp rfl w0 rfl (pu_assign (r := .own _ _ _) rfl) ?_
  refine pa ?_
  refine nx ?_
  refine aw_seq ?_
  obtain ⟨v2, h1, h0⟩ := bnd h0
  refine aw_cut ⟨updA (updA (updA (updA ((fun _ => .dead)) 0 (.d (.v (.string p0)))) 2 (.ptr 3 0 1 0 0)) 4 (.own 4 0 (v1.1).length)) 22 (.d (.v (.bool v2))), lks [.no, .no, .no, .live [⟨24, 1, .av [[.d (.v (.slice none 0 0))]]⟩], .live [⟨9, 1, .data (List.map cS v1.1)⟩]]⟩ ?_ ?_
  refine sr [0,1,2,3,4,5,6] ?_
  refine pm ?_
  refine rp rfl w0 rfl (pu_not rfl) ?_
  refine pm ?_
  refine ra_ifB (u := 18) h1 rfl (fun hc h1 => ?_) (fun hc h1 => ?_)
  iterate 3 refine k1 ?_
  refine pkt ?_
  refine nx ?_
  cases h1
  exact wk [0, 1, 2, 3, 4]
  refine pm1 ?_
  refine rp rfl (w1 rfl rfl rfl) rfl (pu_len_str tok rfl rfl rfl) ?_
  refine rp rfl (w1 rfl rfl rfl) rfl (pu_gtr rfl rfl) ?_
  refine pkf ?_
  refine nx ?_
  cases h1
  exact wk [0, 1, 2, 3, 4]
  refine aw_ifB h0 rfl (fun hc h0 => ?_) (fun hc h0 => ?_)
  refine sq [0,1,2] ?_
  refine rp rfl w0 rfl (pbl (C0 := [.d (.v (.slice none 0 0))]) tok rfl rfl rfl) ?_
  refine rw0 rfl w0 (bx_st (cs := _ :: _) tok rfl rfl rfl rfl rfl rfl rfl) ?_
  refine pa ?_
  refine nx ?_
  refine aw_weak (weak_adopt 5 rfl 44 7 (kb := 3) (j := 0) rfl rfl (by repeat (first | exact Spl.z _ | apply Spl.t | apply Spl.d))) ?_
  refine aw_ret ?_
  refine then_r ?_
  cases h0
  exact retK_ (rs := [.cell 2 24, .tmp 3]) [5] rfl
  refine sk ?_
  refine sq [0] ?_
  refine rs rfl w0 rfl (st_alloc 5 (cs := [.d (.v (.slice none 0 0))]) tok rfl rfl rfl) ?_
  refine nx ?_
  obtain ⟨v11x, h1, h0⟩ := bnd h0
  refine aw_cutE v11x (fun v11 => ⟨updA (updA (updA ((fun _ => .dead)) 0 (.d (.v (.string p0)))) 2 (.ptr 3 0 1 0 0)) 6 (.ptr 4 0 1 0 0), lks [.no, .no, .no, .live [⟨24, 1, .av [[.d (.v (.slice none 0 0))]]⟩], .live [⟨24, 1, .av [[.own 5 0 (v11).length]]⟩], .live [⟨44, 7, .data (List.map cShape_ v11)⟩]]⟩) ?_ ?_
  refine sq [0,1,2] ?_
  refine rp rfl w0 rfl (pu_move (r := .own _ _ _) rfl) ?_
  refine rl rfl w0 rfl (ow_len tok rfl rfl rfl rfl rfl) ?_
  refine pm ?_
  refine nx ?_
  refine aw_block ?_
  refine aw_loopM (fun s7 => ⟨updA (updA (updA (updA (updA (updA ((fun _ => .dead)) 0 (.d (.v (.string p0)))) 2 (.ptr 3 0 1 0 0)) 6 (.ptr 4 0 1 0 0)) 24 (.own 5 0 (v1.1).length)) 25 (.d (.v (.int .i64 (v1.1.length : Int))))) 26 (.d (.v (.int .i64 s7.1))), lks [.no, .no, .no, .live [⟨24, 1, .av [[.d (.v (.slice none 0 0))]]⟩], .live [⟨24, 1, .av [[.own 6 0 (s7.2).length]]⟩], .live [⟨9, 1, .data (List.map cS v1.1)⟩], .live [⟨44, 7, .data (List.map cShape_ s7.2)⟩]]⟩) h1 ?_ (fun s7 y h2 => ?_)
  refine Weak.trans_ (weak_adopt 6 rfl 44 7 (kb := 5) (j := 0) rfl rfl (by repeat (first | exact Spl.z _ | apply Spl.t | apply Spl.d))) ?_
  exact wk [0, 1, 2, 3, 5, 4, 6]
  refine sq [0] ?_
  refine rp rfl w0 rfl (pu_lss rfl rfl) ?_
  refine nx ?_
  refine aw_seq ?_
  refine aw_if h2 rfl (fun hc h2 => ?_) (fun hc h2 => ?_)
  refine sk ?_
  refine aw_seq ?_
  refine aw_block ?_
  refine sq [0,1,2] ?_
  obtain ⟨v8, hv8, h2⟩ := bnd h2
  refine rl rfl w0 rfl (ow_ix tok hv8 rfl rfl rfl rfl rfl rfl rfl rfl) ?_
  refine rl rfl w0 rfl (rw_ld1 tok (atI_e hv8).2.1 rfl rfl rfl rfl rfl rfl) ?_
  refine pa ?_
  refine nx ?_
  refine sq [0,1,2,3,4,5,6,7] ?_
  refine pm ?_
  obtain ⟨v9, hv9, h2⟩ := bnd h2
  refine rs rfl w0 rfl (c_call 7 (i_readShape_c hv9) rfl rfl rfl) ?_
  refine rp rfl w0 rfl (pu_move (r := .tup _) rfl) ?_
  refine rp rfl w0 rfl (pu_extract rfl rfl) ?_
  refine rp rfl w0 rfl (pu_extract rfl rfl) ?_
  refine rs rfl w0 rfl (st_alloc 7 (cs := [.d (.v (.int .i64 0)), .d (.v (.int .i64 0)), .d (.v (.int .i64 0)), .d (.v (.int .i64 0)), .d (.v (.int .i64 0)), .d (.v (.int .i64 0)), .d (.v (.string (⟨#[]⟩ : ByteArray)))]) tok rfl rfl rfl) ?_
  refine rw0 rfl w0 (bx_st (cs := _ :: _) tok rfl rfl rfl rfl rfl rfl rfl) ?_
  refine pa ?_
  refine nx ?_
  refine aw_seq ?_
  refine sq [0,1] ?_
  refine pm ?_
  refine rp rfl w0 rfl (pu_not rfl) ?_
  refine nx ?_
  refine aw_ifB h2 rfl (fun hc h2 => ?_) (fun hc h2 => ?_)
  refine sq [0,1,2] ?_
  refine rp rfl w0 rfl (pbl (C0 := [.d (.v (.slice none 0 0))]) tok rfl rfl rfl) ?_
  refine rw0 rfl w0 (bx_st (cs := _ :: _) tok rfl rfl rfl rfl rfl rfl rfl) ?_
  refine pa ?_
  refine nx ?_
  refine aw_weak (weak_adopt 8 rfl 44 7 (kb := 3) (j := 0) rfl rfl (by repeat (first | exact Spl.z _ | apply Spl.t | apply Spl.d))) ?_
  refine aw_ret ?_
  refine then_r ?_
  refine block_r ?_
  refine then_r ?_
  cases h2
  refine loop_r ⟨_, rfl, fun e => ?_⟩
  subst e
  refine block_r ?_
  replace h0 := orE_s h0
  refine then_r ?_
  cases h0
  exact retK_ (rs := [.cell 2 24, .tmp 3]) [8] rfl
  refine sk ?_
  refine sr [0,1,2,3,4,5,6] ?_
  refine fa tok ?_
  refine ld tok ?_
  refine rl rfl w0 rfl (bx_ldN tok rfl rfl rfl rfl) ?_
  refine rs rfl w0 rfl (bs_val tok cShape_ [v9.1] rfl rfl rfl (by repeat (first | exact Els.nil _ | apply Els.cons (cs := [.d _]) rfl rfl rfl | apply Els.cons (cs := _ :: _) rfl rfl rfl)) rfl rfl rfl (by repeat (first | exact AllDD.nil | (apply AllDD.cons; (repeat (first | exact AllD.nil | apply AllD.cons))))) rfl) ?_
  obtain ⟨hq10, h2⟩ := chk_e h2
  refine rw1 rfl w0 rfl (ap_own tok hq10 rfl rfl rfl rfl rfl rfl rfl rfl rfl rfl rfl rfl (fun _ => rfl)) ?_
  refine fa tok ?_
  refine rw0 rfl w0 (bx_st (cs := [.own _ _ _]) tok rfl rfl rfl rfl rfl rfl rfl) ?_
  refine ra_nil ?_
  refine block_n ?_
  refine then_n ?_
  refine sr [0,1] ?_
  refine rp rfl w0 rfl (pw_add rfl rfl) ?_
  refine pm ?_
  refine ra_nil ?_
  refine loop_n ?_
  cases h2
  refine ⟨_, rfl, ?_⟩
  exact wk [0, 1, 2, 3, 4, 5, 6]
  refine aw_exit ?_
  refine then_e ?_
  cases h2
  refine loop_x ⟨_, rfl, fun e => ?_⟩
  subst e
  refine block_hit ?_
  refine then_n ?_
  refine ⟨_, rfl, ?_⟩
  exact wk [0, 1, 2, 3, 4, 6]
  rintro v11 rfl
  replace h0 := orE_f h0
  refine aw_seq ?_
  obtain ⟨v14, h1, h0⟩ := bnd h0
  refine aw_cut ⟨updA (updA (updA ((fun _ => .dead)) 2 (.ptr 3 0 1 0 0)) 6 (.ptr 4 0 1 0 0)) 53 (.d (.v (.bool v14))), lks [.no, .no, .no, .live [⟨24, 1, .av [[.d (.v (.slice none 0 0))]]⟩], .live [⟨24, 1, .av [[.own 5 0 (v11).length]]⟩], .live [⟨44, 7, .data (List.map cShape_ v11)⟩]]⟩ ?_ ?_
  refine sr [0,1,2,3,4,5,6,7,8] ?_
  refine rl rfl w0 rfl (bx_ldN tok rfl rfl rfl rfl) ?_
  obtain ⟨v12, hv12, h1⟩ := bnd h1
  refine rs rfl w0 rfl (c_callV 6 (i_ValidDrawing_c hv12) rfl rfl) ?_
  refine rp rfl w0 rfl (pu_not rfl) ?_
  refine pm ?_
  refine ra_ifB (u := 48) h1 rfl (fun hc h1 => ?_) (fun hc h1 => ?_)
  iterate 4 refine k1 ?_
  refine pkt ?_
  refine nx ?_
  cases h1
  exact wk [0, 1, 2, 3, 4, 5]
  refine rl rfl (w1 rfl rfl rfl) rfl (bx_ldN tok rfl rfl rfl rfl) ?_
  obtain ⟨v13, hv13, h1⟩ := bnd h1
  refine rs rfl (w1 rfl rfl rfl) rfl (c_callV 6 (i_DrawingText_c hv13) rfl rfl) ?_
  refine pm1 ?_
  refine rp rfl (w1 rfl rfl rfl) rfl (pu_sneq rfl rfl) ?_
  refine pkf ?_
  refine nx ?_
  cases h1
  exact wk [0, 1, 2, 3, 4, 5]
  refine aw_ifB h0 rfl (fun hc h0 => ?_) (fun hc h0 => ?_)
  refine sq [0,1,2] ?_
  refine rp rfl w0 rfl (pbl (C0 := [.d (.v (.slice none 0 0))]) tok rfl rfl rfl) ?_
  refine rw0 rfl w0 (bx_st (cs := _ :: _) tok rfl rfl rfl rfl rfl rfl rfl) ?_
  refine pa ?_
  refine nx ?_
  refine aw_weak (weak_adopt 6 rfl 44 7 (kb := 3) (j := 0) rfl rfl (by repeat (first | exact Spl.z _ | apply Spl.t | apply Spl.d))) ?_
  refine aw_ret ?_
  refine then_r ?_
  cases h0
  exact retK_ (rs := [.cell 2 24, .tmp 3]) [6] rfl
  refine sk ?_
  refine sq [0,1,2] ?_
  refine rl rfl w0 rfl (bx_ldN tok rfl rfl rfl rfl) ?_
  refine rw0 rfl w0 (bx_st (cs := _ :: _) tok rfl rfl rfl rfl rfl rfl rfl) ?_
  refine pa ?_
  refine nx ?_
  refine aw_ret ?_
  cases h0
  exact retK_ (rs := [.cell 2 24, .tmp 3]) [5] rfl

theorem s_l01Split_c {p0 : ByteArray} {p1 : Int} {r : List ByteArray} (h0 : s_l01Split_m p0 p1 = some r) : FnC Tryz.prog 22 [] [.d (.v (.string p0)), .d (.v (.int .u8 p1))] [.live [⟨9, 1, .data (List.map cS r)⟩]] (.own 0 0 r.length) := by
  refine fnc_intro (T := tt) (N := 35) tok Tryz.func22 rfl rfl (by kernel_rfl) rfl rfl ?_
  unfold s_l01Split_m at h0
  refine sq [0] ?_
  refine pa ?_
  refine nx ?_
  refine sq [0,1] ?_
  refine rs rfl w0 rfl (st_slice0 3 tok rfl rfl rfl rfl) ?_
  refine rp rfl w0 rfl (pu_assign (r := .own _ _ _) rfl) ?_
  refine nx ?_
  refine sq [0] ?_
  refine pa ?_
  refine nx ?_
  obtain ⟨v11, h1, h0⟩ := bnd h0
  refine aw_cut ⟨updA (updA (updA ((fun _ => .dead)) 0 (.d (.v (.string p0)))) 5 (.own 3 0 (v11.2).length)) 6 (.d (.v (.int .i64 v11.1))), lks [.no, .no, .no, .live [⟨9, 1, .data (List.map cS v11.2)⟩]]⟩ ?_ ?_
  refine sq [0] ?_
  refine pa ?_
  refine nx ?_
  refine aw_block ?_
  refine aw_loopM (fun s6 => ⟨updA (updA (updA (updA (updA ((fun _ => .dead)) 0 (.d (.v (.string p0)))) 1 (.d (.v (.int .u8 p1)))) 5 (.own 3 0 (s6.2.2).length)) 6 (.d (.v (.int .i64 s6.1)))) 7 (.d (.v (.int .i64 s6.2.1))), lks [.no, .no, .no, .live [⟨9, 1, .data (List.map cS s6.2.2)⟩]]⟩) h1 ?_ (fun s6 y h2 => ?_)
  exact wk [0, 1, 2, 3]
  refine aw_seq ?_
  refine sq [0,1,2,3] ?_
  refine pm ?_
  refine pm ?_
  refine rp rfl w0 rfl (pu_len_str tok rfl rfl rfl) ?_
  refine rp rfl w0 rfl (pu_lss rfl rfl) ?_
  refine nx ?_
  refine aw_if h2 rfl (fun hc h2 => ?_) (fun hc h2 => ?_)
  refine sk ?_
  obtain ⟨v10, h3, h2⟩ := bnd h2
  refine aw_cut ⟨updA (updA (updA (updA (updA ((fun _ => .dead)) 0 (.d (.v (.string p0)))) 1 (.d (.v (.int .u8 p1)))) 5 (.own 3 0 (v10.2).length)) 6 (.d (.v (.int .i64 v10.1)))) 7 (.d (.v (.int .i64 s6.2.1))), lks [.no, .no, .no, .live [⟨9, 1, .data (List.map cS v10.2)⟩]]⟩ ?_ ?_
  refine aw_block ?_
  refine sq [0,1,2,3,4] ?_
  refine pm ?_
  refine pm ?_
  obtain ⟨v7, hv7, h3⟩ := bnd h3
  refine rp rfl w0 rfl (pu_sidx tok hv7 rfl rfl rfl rfl) ?_
  refine pm ?_
  refine rp rfl w0 rfl (pu_eql rfl rfl) ?_
  refine nx ?_
  refine aw_if h3 rfl (fun hc h3 => ?_) (fun hc h3 => ?_)
  refine sq [0,1,2,3,4,5,6,7] ?_
  refine rp rfl w0 rfl (pu_move (r := .own _ _ _) rfl) ?_
  iterate 3 refine pm ?_
  obtain ⟨hq8, h3⟩ := chk_e h3
  refine rp rfl w0 rfl (pu_ssub tok hq8 rfl (.inr ⟨_, _, rfl, rfl⟩) (.inr ⟨_, _, rfl, rfl⟩) rfl rfl) ?_
  refine rs rfl w0 rfl (bs_val tok cS [p0.extract s6.1.toNat s6.2.1.toNat] rfl rfl rfl (by repeat (first | exact Els.nil _ | apply Els.cons (cs := [.d _]) rfl rfl rfl | apply Els.cons (cs := _ :: _) rfl rfl rfl)) rfl rfl rfl (by repeat (first | exact AllDD.nil | (apply AllDD.cons; (repeat (first | exact AllD.nil | apply AllD.cons))))) rfl) ?_
  obtain ⟨hq9, h3⟩ := chk_e h3
  refine rw1 rfl w0 rfl (ap_own tok hq9 rfl rfl rfl rfl rfl rfl rfl rfl rfl rfl rfl rfl (fun _ => rfl)) ?_
  refine rp rfl w0 rfl (pu_assign (r := .own _ _ _) rfl) ?_
  refine nx ?_
  refine sr [0,1,2] ?_
  refine pm ?_
  refine rp rfl w0 rfl (pw_add rfl rfl) ?_
  refine pa ?_
  refine ra_nil ?_
  refine block_n ?_
  refine then_n ?_
  cases h3
  exact wk [0, 1, 2, 3]
  refine aw_skip ?_
  refine block_n ?_
  refine then_n ?_
  cases h3
  exact wk [0, 1, 2, 3]
  refine sr [0,1,2] ?_
  refine pm ?_
  refine rp rfl w0 rfl (pw_add rfl rfl) ?_
  refine pa ?_
  refine ra_nil ?_
  refine loop_n ?_
  cases h2
  refine ⟨_, rfl, ?_⟩
  exact wk [0, 1, 2, 3]
  refine aw_exit ?_
  refine then_e ?_
  cases h2
  refine loop_x ⟨_, rfl, fun e => ?_⟩
  subst e
  refine block_hit ?_
  refine then_n ?_
  exact wk [0, 1, 2, 3]
  refine sq [0,1,2,3,4,5,6] ?_
  refine rp rfl w0 rfl (pu_move (r := .own _ _ _) rfl) ?_
  refine pm ?_
  refine pm ?_
  obtain ⟨hq12, h0⟩ := chk_e h0
  refine rp rfl w0 rfl (pu_ssub tok hq12 rfl (.inr ⟨_, _, rfl, rfl⟩) (.inl ⟨rfl, rfl⟩) rfl rfl) ?_
  refine rs rfl w0 rfl (bs_val tok cS [p0.extract v11.1.toNat (p0.size : Int).toNat] rfl rfl rfl (by repeat (first | exact Els.nil _ | apply Els.cons (cs := [.d _]) rfl rfl rfl | apply Els.cons (cs := _ :: _) rfl rfl rfl)) rfl rfl rfl (by repeat (first | exact AllDD.nil | (apply AllDD.cons; (repeat (first | exact AllD.nil | apply AllD.cons))))) rfl) ?_
  obtain ⟨hq13, h0⟩ := chk_e h0
  refine rw1 rfl w0 rfl (ap_own tok hq13 rfl rfl rfl rfl rfl rfl rfl rfl rfl rfl rfl rfl (fun _ => rfl)) ?_
  refine rp rfl w0 rfl (pu_assign (r := .own _ _ _) rfl) ?_
  refine nx ?_
  refine aw_ret ?_
  cases h0
  exact retK_ (rs := [.tmp 4]) [3] rfl

theorem s_l01Number_c {p0 : ByteArray} {r : Int × Bool} (h0 : s_l01Number_m p0 = some r) : FnC Tryz.prog 45 [] [.d (.v (.string p0))] [] (.tup [.d (.v (.int .i64 r.1)), .d (.v (.bool r.2))]) := by
  refine fnc_intro (T := tt) (N := 56) tok Tryz.func45 rfl rfl (by kernel_rfl) rfl rfl ?_
  unfold s_l01Number_m at h0
  refine sq [0,1] ?_
  refine pa ?_
  refine pa ?_
  refine nx ?_
  refine sq [0,1] ?_
  refine pm ?_
  refine pa ?_
  refine nx ?_
  obtain ⟨v4, h1, h0⟩ := bnd h0
  refine aw_cut ⟨updA (updA ((fun _ => .dead)) 0 (.d (.v (.string p0)))) 4 (.d (.v (.string v4))), lks [.no, .no, .no]⟩ ?_ ?_
  obtain ⟨v2, h2, h1⟩ := bnd h1
  refine aw_cut ⟨updA (updA (updA ((fun _ => .dead)) 0 (.d (.v (.string p0)))) 4 (.d (.v (.string p0)))) 14 (.d (.v (.bool v2))), lks [.no, .no, .no]⟩ ?_ ?_
  refine sr [0,1,2,3,4,5,6] ?_
  refine pm ?_
  refine rp rfl w0 rfl (pu_sneq rfl rfl) ?_
  refine pm ?_
  refine ra_if (u := 10) h2 rfl (fun hc h2 => ?_) (fun hc h2 => ?_)
  refine pm1 ?_
  obtain ⟨v1, hv1, h2⟩ := bnd h2
  refine rp rfl (w1 rfl rfl rfl) rfl (pu_sidx tok hv1 rfl rfl rfl rfl) ?_
  refine rp rfl (w1 rfl rfl rfl) rfl (pu_eql rfl rfl) ?_
  refine pkt ?_
  refine nx ?_
  cases h2
  exact wk [0, 1, 2]
  iterate 3 refine k1 ?_
  refine pkf ?_
  refine nx ?_
  cases h2
  exact wk [0, 1, 2]
  refine aw_ifB h1 rfl (fun hc h1 => ?_) (fun hc h1 => ?_)
  refine sr [0,1,2] ?_
  refine pm ?_
  obtain ⟨hq3, h1⟩ := chk_e h1
  refine rp rfl w0 rfl (pu_ssub tok hq3 rfl (.inr ⟨_, _, rfl, rfl⟩) (.inl ⟨rfl, rfl⟩) rfl rfl) ?_
  refine pa ?_
  refine nx ?_
  cases h1
  exact wk [0, 1, 2]
  refine sk ?_
  cases h1
  exact wk [0, 1, 2]
  refine aw_seq ?_
  obtain ⟨v5, h1, h0⟩ := bnd h0
  refine aw_cut ⟨updA (updA (updA ((fun _ => .dead)) 0 (.d (.v (.string p0)))) 4 (.d (.v (.string v4)))) 24 (.d (.v (.bool v5))), lks [.no, .no, .no]⟩ ?_ ?_
  refine sr [0,1,2,3,4,5,6,7] ?_
  refine pm ?_
  refine rp rfl w0 rfl (pu_len_str tok rfl rfl rfl) ?_
  refine rp rfl w0 rfl (pu_lss rfl rfl) ?_
  refine pm ?_
  refine ra_if (u := 20) h1 rfl (fun hc h1 => ?_) (fun hc h1 => ?_)
  iterate 3 refine k1 ?_
  refine pkt ?_
  refine nx ?_
  cases h1
  exact wk [0, 1, 2]
  refine pm1 ?_
  refine rp rfl (w1 rfl rfl rfl) rfl (pu_len_str tok rfl rfl rfl) ?_
  refine rp rfl (w1 rfl rfl rfl) rfl (pu_gtr rfl rfl) ?_
  refine pkf ?_
  refine nx ?_
  cases h1
  exact wk [0, 1, 2]
  refine aw_ifB h0 rfl (fun hc h0 => ?_) (fun hc h0 => ?_)
  refine sq [0,1] ?_
  refine pa ?_
  refine pa ?_
  refine nx ?_
  refine aw_ret ?_
  refine then_r ?_
  cases h0
  exact ret0_ (rs := [.tmp 2, .tmp 3]) rfl
  refine sk ?_
  refine sq [0] ?_
  refine pa ?_
  refine nx ?_
  obtain ⟨v14x, h1, h0⟩ := bnd h0
  refine aw_cutE v14x (fun v14 => ⟨updA (updA (updA ((fun _ => .dead)) 0 (.d (.v (.string p0)))) 4 (.d (.v (.string v4)))) 5 (.d (.v (.int .i64 v14))), lks [.no, .no, .no]⟩) ?_ ?_
  refine sq [0] ?_
  refine pa ?_
  refine nx ?_
  refine aw_block ?_
  refine aw_loopM (fun s10 => ⟨updA (updA (updA (updA ((fun _ => .dead)) 0 (.d (.v (.string p0)))) 4 (.d (.v (.string v4)))) 5 (.d (.v (.int .i64 s10.1)))) 6 (.d (.v (.int .i64 s10.2))), lks [.no, .no, .no]⟩) h1 ?_ (fun s10 y h2 => ?_)
  exact wk [0, 1, 2]
  refine aw_seq ?_
  refine sq [0,1,2,3] ?_
  refine pm ?_
  refine pm ?_
  refine rp rfl w0 rfl (pu_len_str tok rfl rfl rfl) ?_
  refine rp rfl w0 rfl (pu_lss rfl rfl) ?_
  refine nx ?_
  refine aw_if h2 rfl (fun hc h2 => ?_) (fun hc h2 => ?_)
  refine sk ?_
  refine aw_seq ?_
  refine aw_block ?_
  refine aw_seq ?_
  refine sq [0,1,2,3,4] ?_
  refine pm ?_
  refine pm ?_
  obtain ⟨v11, hv11, h2⟩ := bnd h2
  refine rp rfl w0 rfl (pu_sidx tok hv11 rfl rfl rfl rfl) ?_
  obtain ⟨v12, hv12, h2⟩ := bnd h2
  refine rs rfl w0 rfl (c_call 3 (s_l01Digit_c hv12) rfl rfl rfl) ?_
  refine rp rfl w0 rfl (pu_not rfl) ?_
  refine nx ?_
  refine aw_ifB h2 rfl (fun hc h2 => ?_) (fun hc h2 => ?_)
  refine sq [0,1] ?_
  refine pa ?_
  refine pa ?_
  refine nx ?_
  refine aw_ret ?_
  refine then_r ?_
  refine block_r ?_
  refine then_r ?_
  cases h2
  refine loop_r ⟨_, rfl, fun e => ?_⟩
  subst e
  refine block_r ?_
  replace h0 := orE_s h0
  refine then_r ?_
  cases h0
  exact ret0_ (rs := [.tmp 2, .tmp 3]) rfl
  refine sk ?_
  refine sr [0,1,2,3,4,5,6,7,8] ?_
  refine pm ?_
  refine rp rfl w0 rfl (pw_mul rfl rfl) ?_
  refine pm ?_
  refine pm ?_
  obtain ⟨v13, hv13, h2⟩ := bnd h2
  refine rp rfl w0 rfl (pu_sidx tok hv13 rfl rfl rfl rfl) ?_
  refine rp rfl w0 rfl (pu_subw rfl rfl) ?_
  refine rp rfl w0 rfl (pw_cv tok rfl rfl rfl rfl rfl) ?_
  refine rp rfl w0 rfl (pw_add rfl rfl) ?_
  refine pa ?_
  refine ra_nil ?_
  refine block_n ?_
  refine then_n ?_
  refine sr [0,1,2] ?_
  refine pm ?_
  refine rp rfl w0 rfl (pw_add rfl rfl) ?_
  refine pa ?_
  refine ra_nil ?_
  refine loop_n ?_
  cases h2
  refine ⟨_, rfl, ?_⟩
  exact wk [0, 1, 2]
  refine aw_exit ?_
  refine then_e ?_
  cases h2
  refine loop_x ⟨_, rfl, fun e => ?_⟩
  subst e
  refine block_hit ?_
  refine then_n ?_
  refine ⟨_, rfl, ?_⟩
  exact wk [0, 1, 2]
  rintro v14 rfl
  replace h0 := orE_f h0
  obtain ⟨v15, h1, h0⟩ := bnd h0
  refine aw_cut ⟨updA (updA ((fun _ => .dead)) 0 (.d (.v (.string p0)))) 5 (.d (.v (.int .i64 v15))), lks [.no, .no, .no]⟩ ?_ ?_
  refine sq [0,1,2,3,4] ?_
  refine pm ?_
  refine rp rfl w0 rfl (pu_len_str tok rfl rfl rfl) ?_
  refine pm ?_
  refine rp rfl w0 rfl (pu_len_str tok rfl rfl rfl) ?_
  refine rp rfl w0 rfl (pu_lss rfl rfl) ?_
  refine nx ?_
  refine aw_if h1 rfl (fun hc h1 => ?_) (fun hc h1 => ?_)
  refine sr [0,1,2] ?_
  refine pm ?_
  refine rp rfl w0 rfl (pw_neg rfl) ?_
  refine pa ?_
  refine nx ?_
  cases h1
  exact wk [0, 1, 2]
  refine sk ?_
  cases h1
  exact wk [0, 1, 2]
  refine aw_seq ?_
  refine sq [0,1,2,3] ?_
  refine pm ?_
  obtain ⟨v16, hv16, h0⟩ := bnd h0
  refine rs rfl w0 rfl (c_call 3 (s_l01Dec_c hv16) rfl rfl rfl) ?_
  refine pm ?_
  refine rp rfl w0 rfl (pu_sneq rfl rfl) ?_
  refine nx ?_
  refine aw_if h0 rfl (fun hc h0 => ?_) (fun hc h0 => ?_)
  refine sq [0,1] ?_
  refine pa ?_
  refine pa ?_
  refine nx ?_
  refine aw_ret ?_
  refine then_r ?_
  cases h0
  exact ret0_ (rs := [.tmp 2, .tmp 3]) rfl
  refine sk ?_
  refine sq [0,1,2] ?_
  refine pm ?_
  refine pa ?_
  refine pa ?_
  refine nx ?_
  refine aw_ret ?_
  cases h0
  exact ret0_ (rs := [.tmp 2, .tmp 3]) rfl

theorem s_l25Read_c {p0 : ByteArray} {r : Shape_} (h0 : s_l25Read_m p0 = some r) : FnC Tryz.prog 23 [] [.d (.v (.string p0))] [] (.agg [.d (.v (.int .i64 r.Kind)), .d (.v (.int .i64 r.A.X)), .d (.v (.int .i64 r.A.Y)), .d (.v (.int .i64 r.B.X)), .d (.v (.int .i64 r.B.Y)), .d (.v (.int .i64 r.R)), .d (.v (.string r.Name))]) := by
  refine fnc_intro (T := tt) (N := 92) tok Tryz.func23 rfl rfl (by kernel_rfl) rfl rfl ?_
  unfold s_l25Read_m at h0
  refine sq [0] ?_
  refine rs rfl w0 rfl (st_alloc 3 (cs := [.d (.v (.int .i64 0)), .d (.v (.int .i64 0)), .d (.v (.int .i64 0)), .d (.v (.int .i64 0)), .d (.v (.int .i64 0)), .d (.v (.int .i64 0)), .d (.v (.string (⟨#[]⟩ : ByteArray)))]) tok rfl rfl rfl) ?_
  refine nx ?_
  refine sq [0,1,2] ?_
  refine pm ?_
  obtain ⟨v1, hv1, h0⟩ := bnd h0
  refine rs rfl w0 rfl (c_call 4 (s_l01Split_c hv1) rfl rfl rfl) ?_
  refine rp rfl w0 rfl (pu_assign (r := .own _ _ _) rfl) ?_
  refine nx ?_
  refine sq [0,1] ?_
  refine rs rfl w0 rfl (st_slice0 5 tok rfl rfl rfl rfl) ?_
  refine rp rfl w0 rfl (pu_assign (r := .own _ _ _) rfl) ?_
  refine nx ?_
  obtain ⟨v10, h1, h0⟩ := bnd h0
  refine aw_cut ⟨updA (updA (updA ((fun _ => .dead)) 2 (.ptr 3 0 1 0 0)) 3 (.own 4 0 (v1).length)) 4 (.own 5 0 (v10).length), lks [.no, .no, .no, .live [⟨44, 7, .av [[.d (.v (.int .i64 0)), .d (.v (.int .i64 0)), .d (.v (.int .i64 0)), .d (.v (.int .i64 0)), .d (.v (.int .i64 0)), .d (.v (.int .i64 0)), .d (.v (.string (⟨#[]⟩ : ByteArray)))]]⟩], .live [⟨9, 1, .data (List.map cS v1)⟩], .live [⟨2, 1, .data (List.map cI v10)⟩]]⟩ ?_ ?_
  refine sq [0] ?_
  refine pa ?_
  refine nx ?_
  refine aw_block ?_
  refine aw_loopM (fun s6 => ⟨updA (updA (updA (updA ((fun _ => .dead)) 2 (.ptr 3 0 1 0 0)) 3 (.own 4 0 (v1).length)) 4 (.own 5 0 (s6.2).length)) 5 (.d (.v (.int .i64 s6.1))), lks [.no, .no, .no, .live [⟨44, 7, .av [[.d (.v (.int .i64 0)), .d (.v (.int .i64 0)), .d (.v (.int .i64 0)), .d (.v (.int .i64 0)), .d (.v (.int .i64 0)), .d (.v (.int .i64 0)), .d (.v (.string (⟨#[]⟩ : ByteArray)))]]⟩], .live [⟨9, 1, .data (List.map cS v1)⟩], .live [⟨2, 1, .data (List.map cI s6.2)⟩]]⟩) h1 ?_ (fun s6 y h2 => ?_)
  exact wk [0, 1, 2, 3, 4, 5]
  refine aw_seq ?_
  refine sq [0,1,2,3] ?_
  refine pm ?_
  refine rp rfl w0 rfl (pu_move (r := .own _ _ _) rfl) ?_
  refine rl rfl w0 rfl (ow_len tok rfl rfl rfl rfl rfl) ?_
  refine rp rfl w0 rfl (pu_lss rfl rfl) ?_
  refine nx ?_
  refine aw_if h2 rfl (fun hc h2 => ?_) (fun hc h2 => ?_)
  refine sk ?_
  refine aw_seq ?_
  refine aw_block ?_
  refine sq [0,1,2,3,4,5,6,7,8,9] ?_
  refine rp rfl w0 rfl (pu_move (r := .own _ _ _) rfl) ?_
  refine pm ?_
  obtain ⟨v7, hv7, h2⟩ := bnd h2
  refine rl rfl w0 rfl (ow_ix tok hv7 rfl rfl rfl rfl rfl rfl rfl rfl) ?_
  refine rl rfl w0 rfl (rw_ld1 tok (atI_e hv7).2.1 rfl rfl rfl rfl rfl rfl) ?_
  obtain ⟨v8, hv8, h2⟩ := bnd h2
  refine rs rfl w0 rfl (c_call 6 (s_l01Number_c hv8) rfl rfl rfl) ?_
  refine rp rfl w0 rfl (pu_move (r := .tup _) rfl) ?_
  refine rp rfl w0 rfl (pu_extract rfl rfl) ?_
  refine rp rfl w0 rfl (pu_extract rfl rfl) ?_
  refine pa ?_
  refine pa ?_
  refine nx ?_
  refine sr [0,1,2,3,4] ?_
  refine rp rfl w0 rfl (pu_move (r := .own _ _ _) rfl) ?_
  refine pm ?_
  refine rs rfl w0 rfl (bs_val tok cI [v8.1] rfl rfl rfl (by repeat (first | exact Els.nil _ | apply Els.cons (cs := [.d _]) rfl rfl rfl | apply Els.cons (cs := _ :: _) rfl rfl rfl)) rfl rfl rfl (by repeat (first | exact AllDD.nil | (apply AllDD.cons; (repeat (first | exact AllD.nil | apply AllD.cons))))) rfl) ?_
  obtain ⟨hq9, h2⟩ := chk_e h2
  refine rw1 rfl w0 rfl (ap_own tok hq9 rfl rfl rfl rfl rfl rfl rfl rfl rfl rfl rfl rfl (fun _ => rfl)) ?_
  refine rp rfl w0 rfl (pu_assign (r := .own _ _ _) rfl) ?_
  refine ra_nil ?_
  refine block_n ?_
  refine then_n ?_
  refine sr [0,1,2] ?_
  refine pm ?_
  refine rp rfl w0 rfl (pw_add rfl rfl) ?_
  refine pa ?_
  refine ra_nil ?_
  refine loop_n ?_
  cases h2
  refine ⟨_, rfl, ?_⟩
  exact wk [0, 1, 2, 3, 4, 5]
  refine aw_exit ?_
  refine then_e ?_
  cases h2
  refine loop_x ⟨_, rfl, fun e => ?_⟩
  subst e
  refine block_hit ?_
  refine then_n ?_
  exact wk [0, 1, 2, 3, 4, 5]
  refine sq [0,1,2] ?_
  refine rp rfl w0 rfl (pbl (C0 := [.d (.v (.int .i64 0)), .d (.v (.int .i64 0)), .d (.v (.int .i64 0)), .d (.v (.int .i64 0)), .d (.v (.int .i64 0)), .d (.v (.int .i64 0)), .d (.v (.string (⟨#[]⟩ : ByteArray)))]) tok rfl rfl rfl) ?_
  refine rs rfl w0 rfl (st_alloc 6 (cs := [.d (.v (.int .i64 0)), .d (.v (.int .i64 0)), .d (.v (.int .i64 0)), .d (.v (.int .i64 0)), .d (.v (.int .i64 0)), .d (.v (.int .i64 0)), .d (.v (.string (⟨#[]⟩ : ByteArray)))]) tok rfl rfl rfl) ?_
  refine rw0 rfl w0 (bx_st (cs := _ :: _) tok rfl rfl rfl rfl rfl rfl rfl) ?_
  refine nx ?_
  obtain ⟨v13, h1, h0⟩ := bnd h0
  refine aw_cut ⟨updA (updA (updA (updA ((fun _ => .dead)) 2 (.ptr 3 0 1 0 0)) 3 (.own 4 0 (v1).length)) 4 (.own 5 0 (v10).length)) 8 (.ptr 6 0 1 0 0), lks [.no, .no, .no, .live [⟨44, 7, .av [[.d (.v (.int .i64 0)), .d (.v (.int .i64 0)), .d (.v (.int .i64 0)), .d (.v (.int .i64 0)), .d (.v (.int .i64 0)), .d (.v (.int .i64 0)), .d (.v (.string (⟨#[]⟩ : ByteArray)))]]⟩], .live [⟨9, 1, .data (List.map cS v1)⟩], .live [⟨2, 1, .data (List.map cI v10)⟩], .live [⟨44, 7, .av [[.d (.v (.int .i64 v13.Kind)), .d (.v (.int .i64 v13.A.X)), .d (.v (.int .i64 v13.A.Y)), .d (.v (.int .i64 v13.B.X)), .d (.v (.int .i64 v13.B.Y)), .d (.v (.int .i64 v13.R)), .d (.v (.string v13.Name))]]⟩]]⟩ ?_ ?_
  refine sq [0,1,2] ?_
  refine rp rfl w0 rfl (pu_move (r := .own _ _ _) rfl) ?_
  refine rl rfl w0 rfl (ow_len tok rfl rfl rfl rfl rfl) ?_
  refine rp rfl w0 rfl (pu_gtr rfl rfl) ?_
  refine nx ?_
  refine aw_if h1 rfl (fun hc h1 => ?_) (fun hc h1 => ?_)
  refine aw_region_draw (is := [0, 1, 2, 3, 4, 5, 6, 7, 8]) [0, 1, 3, 0, 8, 24, 63, 127, 255] follows (by kernel_rfl) ?_
  refine rt_p rfl w0 rfl (pu_move (r := .own _ _ _) rfl) ?_
  obtain ⟨v11, hv11, h1⟩ := bnd h1
  refine rt_lk rfl w0 rfl (ow_ix tok hv11 rfl rfl rfl rfl rfl rfl rfl rfl) rfl rfl rfl ?_
  refine rt_lk rfl w0 rfl (rw_ld1 tok (atI_e hv11).2.1 rfl rfl rfl rfl rfl rfl) rfl rfl rfl ?_
  refine rt_p rfl w0 rfl (pu_move (r := .own _ _ _) rfl) ?_
  obtain ⟨v12, hv12, h1⟩ := bnd h1
  refine rt_lk rfl w0 rfl (ow_ix tok hv12 rfl rfl rfl rfl rfl rfl rfl rfl) rfl rfl rfl ?_
  refine rt_lk rfl w0 rfl (rw_ld1 tok (atI_e hv12).2.1 rfl rfl rfl rfl rfl rfl) rfl rfl rfl ?_
  refine rt_p rfl w0 rfl (pbl (C0 := [.d (.v (.int .i64 0)), .d (.v (.int .i64 0))]) tok rfl rfl rfl) ?_
  refine rt_lk rfl w0 rfl (bx_fa tok rfl rfl rfl rfl rfl rfl rfl) rfl rfl rfl ?_
  refine rt_wk rfl w0 (bx_st (cs := _ :: _) tok rfl rfl rfl rfl rfl rfl rfl) ?_
  refine rt_nil ?_
  refine ⟨by kernel_rfl, ?_⟩
  refine then_n ?_
  cases h1
  exact wk [0, 1, 2, 3, 4, 5, 6]
  refine sk ?_
  cases h1
  exact wk [0, 1, 2, 3, 4, 5, 6]
  obtain ⟨v24, h1, h0⟩ := bnd h0
  refine aw_cut ⟨updA (updA ((fun _ => .dead)) 2 (.ptr 3 0 1 0 0)) 8 (.ptr 4 0 1 0 0), lks [.no, .no, .no, .live [⟨44, 7, .av [[.d (.v (.int .i64 0)), .d (.v (.int .i64 0)), .d (.v (.int .i64 0)), .d (.v (.int .i64 0)), .d (.v (.int .i64 0)), .d (.v (.int .i64 0)), .d (.v (.string (⟨#[]⟩ : ByteArray)))]]⟩], .live [⟨44, 7, .av [[.d (.v (.int .i64 v24.Kind)), .d (.v (.int .i64 v24.A.X)), .d (.v (.int .i64 v24.A.Y)), .d (.v (.int .i64 v24.B.X)), .d (.v (.int .i64 v24.B.Y)), .d (.v (.int .i64 v24.R)), .d (.v (.string v24.Name))]]⟩]]⟩ ?_ ?_
  refine aw_block ?_
  obtain ⟨v15, h2, h1⟩ := bnd h1
  refine aw_cut ⟨updA (updA (updA (updA (updA ((fun _ => .dead)) 2 (.ptr 3 0 1 0 0)) 3 (.own 4 0 (v1).length)) 4 (.own 5 0 (v10).length)) 8 (.ptr 6 0 1 0 0)) 42 (.d (.v (.bool v15))), lks [.no, .no, .no, .live [⟨44, 7, .av [[.d (.v (.int .i64 0)), .d (.v (.int .i64 0)), .d (.v (.int .i64 0)), .d (.v (.int .i64 0)), .d (.v (.int .i64 0)), .d (.v (.int .i64 0)), .d (.v (.string (⟨#[]⟩ : ByteArray)))]]⟩], .live [⟨9, 1, .data (List.map cS v1)⟩], .live [⟨2, 1, .data (List.map cI v10)⟩], .live [⟨44, 7, .av [[.d (.v (.int .i64 v13.Kind)), .d (.v (.int .i64 v13.A.X)), .d (.v (.int .i64 v13.A.Y)), .d (.v (.int .i64 v13.B.X)), .d (.v (.int .i64 v13.B.Y)), .d (.v (.int .i64 v13.R)), .d (.v (.string v13.Name))]]⟩]]⟩ ?_ ?_
  refine sr [0,1,2,3,4,5,6,7,8,9] ?_
  refine rp rfl w0 rfl (pu_move (r := .own _ _ _) rfl) ?_
  obtain ⟨v14, hv14, h2⟩ := bnd h2
  refine rl rfl w0 rfl (ow_ix tok hv14 rfl rfl rfl rfl rfl rfl rfl rfl) ?_
  refine rl rfl w0 rfl (rw_ld1 tok (atI_e hv14).2.1 rfl rfl rfl rfl rfl rfl) ?_
  refine rp rfl w0 rfl (pu_seql rfl rfl) ?_
  refine pm ?_
  refine ra_if (u := 47) h2 rfl (fun hc h2 => ?_) (fun hc h2 => ?_)
  refine rp rfl (w1 rfl rfl rfl) rfl (pu_move (r := .own _ _ _) rfl) ?_
  refine rl rfl (w1 rfl rfl rfl) rfl (ow_len tok rfl rfl rfl rfl rfl) ?_
  refine rp rfl (w1 rfl rfl rfl) rfl (pu_eql rfl rfl) ?_
  refine pkt ?_
  refine pa ?_
  refine nx ?_
  cases h2
  exact wk [0, 1, 2, 3, 4, 5, 6]
  iterate 3 refine k1 ?_
  refine pkf ?_
  refine pa ?_
  refine nx ?_
  cases h2
  exact wk [0, 1, 2, 3, 4, 5, 6]
  refine aw_ifB h1 rfl (fun hc h1 => ?_) (fun hc h1 => ?_)
  refine sq [0,1] ?_
  refine fa tok ?_
  refine rw0 rfl w0 (bx_st (cs := [.d _]) tok rfl rfl rfl rfl rfl rfl rfl) ?_
  refine nx ?_
  refine aw_region_draw (is := [0, 1, 2, 3, 4, 5, 6, 7, 8]) [0, 1, 3, 0, 8, 24, 63, 127, 255] follows (by kernel_rfl) ?_
  refine rt_p rfl w0 rfl (pu_move (r := .own _ _ _) rfl) ?_
  obtain ⟨v16, hv16, h1⟩ := bnd h1
  refine rt_lk rfl w0 rfl (ow_ix tok hv16 rfl rfl rfl rfl rfl rfl rfl rfl) rfl rfl rfl ?_
  refine rt_lk rfl w0 rfl (rw_ld1 tok (atI_e hv16).2.1 rfl rfl rfl rfl rfl rfl) rfl rfl rfl ?_
  refine rt_p rfl w0 rfl (pu_move (r := .own _ _ _) rfl) ?_
  obtain ⟨v17, hv17, h1⟩ := bnd h1
  refine rt_lk rfl w0 rfl (ow_ix tok hv17 rfl rfl rfl rfl rfl rfl rfl rfl) rfl rfl rfl ?_
  refine rt_lk rfl w0 rfl (rw_ld1 tok (atI_e hv17).2.1 rfl rfl rfl rfl rfl rfl) rfl rfl rfl ?_
  refine rt_p rfl w0 rfl (pbl (C0 := [.d (.v (.int .i64 0)), .d (.v (.int .i64 0))]) tok rfl rfl rfl) ?_
  refine rt_lk rfl w0 rfl (bx_fa tok rfl rfl rfl rfl rfl rfl rfl) rfl rfl rfl ?_
  refine rt_wk rfl w0 (bx_st (cs := _ :: _) tok rfl rfl rfl rfl rfl rfl rfl) ?_
  refine rt_nil ?_
  refine ⟨by kernel_rfl, ?_⟩
  refine block_n ?_
  refine then_n ?_
  cases h1
  exact wk [0, 1, 2, 3, 6]
  obtain ⟨v19, h2, h1⟩ := bnd h1
  refine aw_cut ⟨updA (updA (updA (updA (updA ((fun _ => .dead)) 2 (.ptr 3 0 1 0 0)) 3 (.own 4 0 (v1).length)) 4 (.own 5 0 (v10).length)) 8 (.ptr 6 0 1 0 0)) 61 (.d (.v (.bool v19))), lks [.no, .no, .no, .live [⟨44, 7, .av [[.d (.v (.int .i64 0)), .d (.v (.int .i64 0)), .d (.v (.int .i64 0)), .d (.v (.int .i64 0)), .d (.v (.int .i64 0)), .d (.v (.int .i64 0)), .d (.v (.string (⟨#[]⟩ : ByteArray)))]]⟩], .live [⟨9, 1, .data (List.map cS v1)⟩], .live [⟨2, 1, .data (List.map cI v10)⟩], .live [⟨44, 7, .av [[.d (.v (.int .i64 v13.Kind)), .d (.v (.int .i64 v13.A.X)), .d (.v (.int .i64 v13.A.Y)), .d (.v (.int .i64 v13.B.X)), .d (.v (.int .i64 v13.B.Y)), .d (.v (.int .i64 v13.R)), .d (.v (.string v13.Name))]]⟩]]⟩ ?_ ?_
  refine sr [0,1,2,3,4,5,6,7,8,9] ?_
  refine rp rfl w0 rfl (pu_move (r := .own _ _ _) rfl) ?_
  obtain ⟨v18, hv18, h2⟩ := bnd h2
  refine rl rfl w0 rfl (ow_ix tok hv18 rfl rfl rfl rfl rfl rfl rfl rfl) ?_
  refine rl rfl w0 rfl (rw_ld1 tok (atI_e hv18).2.1 rfl rfl rfl rfl rfl rfl) ?_
  refine rp rfl w0 rfl (pu_seql rfl rfl) ?_
  refine pm ?_
  refine ra_if (u := 66) h2 rfl (fun hc h2 => ?_) (fun hc h2 => ?_)
  refine rp rfl (w1 rfl rfl rfl) rfl (pu_move (r := .own _ _ _) rfl) ?_
  refine rl rfl (w1 rfl rfl rfl) rfl (ow_len tok rfl rfl rfl rfl rfl) ?_
  refine rp rfl (w1 rfl rfl rfl) rfl (pu_eql rfl rfl) ?_
  refine pkt ?_
  refine pa ?_
  refine nx ?_
  cases h2
  exact wk [0, 1, 2, 3, 4, 5, 6]
  iterate 3 refine k1 ?_
  refine pkf ?_
  refine pa ?_
  refine nx ?_
  cases h2
  exact wk [0, 1, 2, 3, 4, 5, 6]
  refine aw_ifB h1 rfl (fun hc h1 => ?_) (fun hc h1 => ?_)
  refine sq [0,1] ?_
  refine fa tok ?_
  refine rw0 rfl w0 (bx_st (cs := [.d _]) tok rfl rfl rfl rfl rfl rfl rfl) ?_
  refine nx ?_
  refine sr [0,1,2,3,4] ?_
  refine rp rfl w0 rfl (pu_move (r := .own _ _ _) rfl) ?_
  obtain ⟨v20, hv20, h1⟩ := bnd h1
  refine rl rfl w0 rfl (ow_ix tok hv20 rfl rfl rfl rfl rfl rfl rfl rfl) ?_
  refine rl rfl w0 rfl (rw_ld1 tok (atI_e hv20).2.1 rfl rfl rfl rfl rfl rfl) ?_
  refine fa tok ?_
  refine rw0 rfl w0 (bx_st (cs := [.d _]) tok rfl rfl rfl rfl rfl rfl rfl) ?_
  refine ra_nil ?_
  refine block_n ?_
  refine then_n ?_
  cases h1
  exact wk [0, 1, 2, 3, 6]
  obtain ⟨v22, h2, h1⟩ := bnd h1
  refine aw_cut ⟨updA (updA (updA (updA ((fun _ => .dead)) 2 (.ptr 3 0 1 0 0)) 3 (.own 4 0 (v1).length)) 8 (.ptr 5 0 1 0 0)) 76 (.d (.v (.bool v22))), lks [.no, .no, .no, .live [⟨44, 7, .av [[.d (.v (.int .i64 0)), .d (.v (.int .i64 0)), .d (.v (.int .i64 0)), .d (.v (.int .i64 0)), .d (.v (.int .i64 0)), .d (.v (.int .i64 0)), .d (.v (.string (⟨#[]⟩ : ByteArray)))]]⟩], .live [⟨9, 1, .data (List.map cS v1)⟩], .live [⟨44, 7, .av [[.d (.v (.int .i64 v13.Kind)), .d (.v (.int .i64 v13.A.X)), .d (.v (.int .i64 v13.A.Y)), .d (.v (.int .i64 v13.B.X)), .d (.v (.int .i64 v13.B.Y)), .d (.v (.int .i64 v13.R)), .d (.v (.string v13.Name))]]⟩]]⟩ ?_ ?_
  refine sr [0,1,2,3,4,5,6,7,8,9] ?_
  refine rp rfl w0 rfl (pu_move (r := .own _ _ _) rfl) ?_
  obtain ⟨v21, hv21, h2⟩ := bnd h2
  refine rl rfl w0 rfl (ow_ix tok hv21 rfl rfl rfl rfl rfl rfl rfl rfl) ?_
  refine rl rfl w0 rfl (rw_ld1 tok (atI_e hv21).2.1 rfl rfl rfl rfl rfl rfl) ?_
  refine rp rfl w0 rfl (pu_seql rfl rfl) ?_
  refine pm ?_
  refine ra_if (u := 81) h2 rfl (fun hc h2 => ?_) (fun hc h2 => ?_)
  refine rp rfl (w1 rfl rfl rfl) rfl (pu_move (r := .own _ _ _) rfl) ?_
  refine rl rfl (w1 rfl rfl rfl) rfl (ow_len tok rfl rfl rfl rfl rfl) ?_
  refine rp rfl (w1 rfl rfl rfl) rfl (pu_eql rfl rfl) ?_
  refine pkt ?_
  refine pa ?_
  refine nx ?_
  cases h2
  exact wk [0, 1, 2, 3, 4, 6]
  iterate 3 refine k1 ?_
  refine pkf ?_
  refine pa ?_
  refine nx ?_
  cases h2
  exact wk [0, 1, 2, 3, 4, 6]
  refine aw_ifB h1 rfl (fun hc h1 => ?_) (fun hc h1 => ?_)
  refine sq [0,1] ?_
  refine fa tok ?_
  refine rw0 rfl w0 (bx_st (cs := [.d _]) tok rfl rfl rfl rfl rfl rfl rfl) ?_
  refine nx ?_
  refine sr [0,1,2,3,4] ?_
  refine rp rfl w0 rfl (pu_move (r := .own _ _ _) rfl) ?_
  obtain ⟨v23, hv23, h1⟩ := bnd h1
  refine rl rfl w0 rfl (ow_ix tok hv23 rfl rfl rfl rfl rfl rfl rfl rfl) ?_
  refine rl rfl w0 rfl (rw_ld1 tok (atI_e hv23).2.1 rfl rfl rfl rfl rfl rfl) ?_
  refine fa tok ?_
  refine rw0 rfl w0 (bx_st (cs := [.d _]) tok rfl rfl rfl rfl rfl rfl rfl) ?_
  refine ra_nil ?_
  refine block_n ?_
  refine then_n ?_
  cases h1
  exact wk [0, 1, 2, 3, 5]
  refine aw_skip ?_
  refine block_n ?_
  refine then_n ?_
  cases h1
  exact wk [0, 1, 2, 3, 5]
  refine sq [0,1] ?_
  refine rl rfl w0 rfl (bx_ldN tok rfl rfl rfl rfl) ?_
  refine rw0 rfl w0 (bx_st (cs := _ :: _) tok rfl rfl rfl rfl rfl rfl rfl) ?_
  refine nx ?_
  refine aw_ret ?_
  cases h0
  exact ret0_ (rs := [.cell 2 44]) rfl

theorem s_ReadDrawing_c {p0 : ByteArray} {r : Drawing_ × Bool} (h0 : s_ReadDrawing_m p0 = some r) : FnC Tryz.prog 5 [] [.d (.v (.string p0))] [.live [⟨44, 7, .data (List.map cShape_ r.1.Shapes)⟩]] (.tup [.agg [.own 0 0 r.1.Shapes.length], .d (.v (.bool r.2))]) := by
  refine fnc_intro (T := tt) (N := 42) tok Tryz.func5 rfl rfl (by kernel_rfl) rfl rfl ?_
  unfold s_ReadDrawing_m at h0
  refine sq [0,1] ?_
  refine rs rfl w0 rfl (st_alloc 3 (cs := [.d (.v (.slice none 0 0))]) tok rfl rfl rfl) ?_
  refine pa ?_
  refine nx ?_
  refine aw_seq ?_
  refine sq [0,1,2] ?_
  refine pm ?_
  refine rp rfl w0 rfl (pu_len_str tok rfl rfl rfl) ?_
  refine rp rfl w0 rfl (pu_gtr rfl rfl) ?_
  refine nx ?_
  refine aw_if h0 rfl (fun hc h0 => ?_) (fun hc h0 => ?_)
  refine sq [0,1,2] ?_
  refine rp rfl w0 rfl (pbl (C0 := [.d (.v (.slice none 0 0))]) tok rfl rfl rfl) ?_
  refine rw0 rfl w0 (bx_st (cs := _ :: _) tok rfl rfl rfl rfl rfl rfl rfl) ?_
  refine pa ?_
  refine nx ?_
  refine aw_weak (weak_adopt 4 rfl 44 7 (kb := 3) (j := 0) rfl rfl (by repeat (first | exact Spl.z _ | apply Spl.t | apply Spl.d))) ?_
  refine aw_ret ?_
  refine then_r ?_
  cases h0
  exact retK_ (rs := [.cell 2 24, .tmp 3]) [4] rfl
  refine sk ?_
  refine sq [0,1,2] ?_
  refine pm ?_
  obtain ⟨v1, hv1, h0⟩ := bnd h0
  refine rs rfl w0 rfl (c_call 4 (s_l01Split_c hv1) rfl rfl rfl) ?_
  refine rp rfl w0 rfl (pu_assign (r := .own _ _ _) rfl) ?_
  refine nx ?_
  refine sq [0,1,2] ?_
  refine rp rfl w0 rfl (pbl (C0 := [.d (.v (.slice none 0 0))]) tok rfl rfl rfl) ?_
  refine rs rfl w0 rfl (st_alloc 5 (cs := [.d (.v (.slice none 0 0))]) tok rfl rfl rfl) ?_
  refine rw0 rfl w0 (bx_st (cs := _ :: _) tok rfl rfl rfl rfl rfl rfl rfl) ?_
  refine nx ?_
  obtain ⟨v10, h1, h0⟩ := bnd h0
  refine aw_cut ⟨updA (updA (updA ((fun _ => .dead)) 0 (.d (.v (.string p0)))) 2 (.ptr 3 0 1 0 0)) 5 (.ptr 4 0 1 0 0), lks [.no, .no, .no, .live [⟨24, 1, .av [[.d (.v (.slice none 0 0))]]⟩], .live [⟨24, 1, .av [[.own 5 0 (v10).length]]⟩], .live [⟨44, 7, .data (List.map cShape_ v10)⟩]]⟩ ?_ ?_
  refine sq [0] ?_
  refine pa ?_
  refine nx ?_
  refine aw_block ?_
  refine aw_loopM (fun s6 => ⟨updA (updA (updA (updA (updA ((fun _ => .dead)) 0 (.d (.v (.string p0)))) 2 (.ptr 3 0 1 0 0)) 4 (.own 4 0 (v1).length)) 5 (.ptr 5 0 1 0 0)) 6 (.d (.v (.int .i64 s6.1))), lks [.no, .no, .no, .live [⟨24, 1, .av [[.d (.v (.slice none 0 0))]]⟩], .live [⟨9, 1, .data (List.map cS v1)⟩], .live [⟨24, 1, .av [[.own 6 0 (s6.2).length]]⟩], .live [⟨44, 7, .data (List.map cShape_ s6.2)⟩]]⟩) h1 ?_ (fun s6 y h2 => ?_)
  refine Weak.trans_ (weak_adopt 6 rfl 44 7 (kb := 5) (j := 0) rfl rfl (by repeat (first | exact Spl.z _ | apply Spl.t | apply Spl.d))) ?_
  exact wk [0, 1, 2, 3, 4, 5, 6]
  refine aw_seq ?_
  refine sq [0,1,2,3,4] ?_
  refine pm ?_
  refine rp rfl w0 rfl (pw_add rfl rfl) ?_
  refine rp rfl w0 rfl (pu_move (r := .own _ _ _) rfl) ?_
  refine rl rfl w0 rfl (ow_len tok rfl rfl rfl rfl rfl) ?_
  refine rp rfl w0 rfl (pu_lss rfl rfl) ?_
  refine nx ?_
  refine aw_if h2 rfl (fun hc h2 => ?_) (fun hc h2 => ?_)
  refine sk ?_
  refine aw_seq ?_
  refine aw_block ?_
  refine aw_region_draw (is := [0, 1, 2, 3, 4, 5, 6, 7, 8, 9, 10]) [0, 1, 0, 0, 12, 28, 60, 124, 255, 511, 1023] follows (by kernel_rfl) ?_
  refine rt_lk rfl w0 rfl (bx_fa tok rfl rfl rfl rfl rfl rfl rfl) rfl rfl rfl ?_
  refine rt_lk rfl w0 rfl (bx_ld1 tok rfl rfl rfl rfl rfl) rfl rfl rfl ?_
  refine rt_p rfl w0 rfl (pu_move (r := .own _ _ _) rfl) ?_
  refine tpm ?_
  obtain ⟨v7, hv7, h2⟩ := bnd h2
  refine rt_lk rfl w0 rfl (ow_ix tok hv7 rfl rfl rfl rfl rfl rfl rfl rfl) rfl rfl rfl ?_
  refine rt_lk rfl w0 rfl (rw_ld1 tok (atI_e hv7).2.1 rfl rfl rfl rfl rfl rfl) rfl rfl rfl ?_
  obtain ⟨v8, hv8, h2⟩ := bnd h2
  refine rt_c rfl w0 rfl (b_call 7 (s_l25Read_c hv8) rfl rfl rfl) ?_
  refine rt_s rfl w0 rfl (bs_val tok cShape_ [v8] rfl rfl rfl (by repeat (first | exact Els.nil _ | apply Els.cons (cs := [.d _]) rfl rfl rfl | apply Els.cons (cs := _ :: _) rfl rfl rfl)) rfl rfl rfl (by repeat (first | exact AllDD.nil | (apply AllDD.cons; (repeat (first | exact AllD.nil | apply AllD.cons))))) rfl) ?_
  obtain ⟨hq9, h2⟩ := chk_e h2
  refine rt_wkd rfl w0 rfl (ap_own tok hq9 rfl rfl rfl rfl rfl rfl rfl rfl rfl rfl rfl rfl (fun _ => rfl)) ?_
  refine rt_lk rfl w0 rfl (bx_fa tok rfl rfl rfl rfl rfl rfl rfl) rfl rfl rfl ?_
  refine rt_wk rfl w0 (bx_st (cs := [.own _ _ _]) tok rfl rfl rfl rfl rfl rfl rfl) ?_
  refine rt_nil ?_
  refine ⟨by kernel_rfl, ?_⟩
  refine block_n ?_
  refine then_n ?_
  refine sr [0,1,2] ?_
  refine pm ?_
  refine rp rfl w0 rfl (pw_add rfl rfl) ?_
  refine pa ?_
  refine ra_nil ?_
  refine loop_n ?_
  cases h2
  refine ⟨_, rfl, ?_⟩
  exact wk [0, 1, 2, 3, 4, 5, 6]
  refine aw_exit ?_
  refine then_e ?_
  cases h2
  refine loop_x ⟨_, rfl, fun e => ?_⟩
  subst e
  refine block_hit ?_
  refine then_n ?_
  exact wk [0, 1, 2, 3, 5, 6]
  refine aw_seq ?_
  obtain ⟨v13, h1, h0⟩ := bnd h0
  refine aw_cut ⟨updA (updA (updA ((fun _ => .dead)) 2 (.ptr 3 0 1 0 0)) 5 (.ptr 4 0 1 0 0)) 39 (.d (.v (.bool v13))), lks [.no, .no, .no, .live [⟨24, 1, .av [[.d (.v (.slice none 0 0))]]⟩], .live [⟨24, 1, .av [[.own 5 0 (v10).length]]⟩], .live [⟨44, 7, .data (List.map cShape_ v10)⟩]]⟩ ?_ ?_
  refine sr [0,1,2,3,4,5,6,7,8] ?_
  refine rl rfl w0 rfl (bx_ldN tok rfl rfl rfl rfl) ?_
  obtain ⟨v11, hv11, h1⟩ := bnd h1
  refine rs rfl w0 rfl (c_callV 6 (s_l25Ok_c hv11) rfl rfl) ?_
  refine rp rfl w0 rfl (pu_not rfl) ?_
  refine pm ?_
  refine ra_ifB (u := 34) h1 rfl (fun hc h1 => ?_) (fun hc h1 => ?_)
  iterate 4 refine k1 ?_
  refine pkt ?_
  refine nx ?_
  cases h1
  exact wk [0, 1, 2, 3, 4, 5]
  refine rl rfl (w1 rfl rfl rfl) rfl (bx_ldN tok rfl rfl rfl rfl) ?_
  obtain ⟨v12, hv12, h1⟩ := bnd h1
  refine rs rfl (w1 rfl rfl rfl) rfl (c_callV 6 (s_l25Text_c hv12) rfl rfl) ?_
  refine pm1 ?_
  refine rp rfl (w1 rfl rfl rfl) rfl (pu_sneq rfl rfl) ?_
  refine pkf ?_
  refine nx ?_
  cases h1
  exact wk [0, 1, 2, 3, 4, 5]
  refine aw_ifB h0 rfl (fun hc h0 => ?_) (fun hc h0 => ?_)
  refine sq [0,1,2] ?_
  refine rp rfl w0 rfl (pbl (C0 := [.d (.v (.slice none 0 0))]) tok rfl rfl rfl) ?_
  refine rw0 rfl w0 (bx_st (cs := _ :: _) tok rfl rfl rfl rfl rfl rfl rfl) ?_
  refine pa ?_
  refine nx ?_
  refine aw_weak (weak_adopt 6 rfl 44 7 (kb := 3) (j := 0) rfl rfl (by repeat (first | exact Spl.z _ | apply Spl.t | apply Spl.d))) ?_
  refine aw_ret ?_
  refine then_r ?_
  cases h0
  exact retK_ (rs := [.cell 2 24, .tmp 3]) [6] rfl
  refine sk ?_
  refine sq [0,1,2] ?_
  refine rl rfl w0 rfl (bx_ldN tok rfl rfl rfl rfl) ?_
  refine rw0 rfl w0 (bx_st (cs := _ :: _) tok rfl rfl rfl rfl rfl rfl rfl) ?_
  refine pa ?_
  refine nx ?_
  refine aw_ret ?_
  cases h0
  exact retK_ (rs := [.cell 2 24, .tmp 3]) [5] rfl

theorem s_DrawSameDrawing_c {p0 : List Int} {r : Drawing_ × Drawing_} (h0 : s_DrawSameDrawing_m p0 = some r) : FnC Tryz.prog 20 [] [.d (.sl (List.map cU8 p0))] [.live [⟨44, 7, .data (List.map cShape_ r.1.Shapes)⟩], .live [⟨44, 7, .data (List.map cShape_ r.2.Shapes)⟩]] (.tup [.agg [.own 0 0 r.1.Shapes.length], .agg [.own 1 0 r.2.Shapes.length]]) := by
  refine fnc_intro (T := tt) (N := 45) tok Tryz.func20 rfl rfl (by kernel_rfl) rfl rfl ?_
  unfold s_DrawSameDrawing_m at h0
  refine sq [0,1] ?_
  refine rs rfl w0 rfl (st_alloc 3 (cs := [.d (.v (.slice none 0 0))]) tok rfl rfl rfl) ?_
  refine rs rfl w0 rfl (st_alloc 4 (cs := [.d (.v (.slice none 0 0))]) tok rfl rfl rfl) ?_
  refine nx ?_
  refine sq [0,1,2] ?_
  refine pm ?_
  obtain ⟨v1, hv1, h0⟩ := bnd h0
  refine rs rfl w0 rfl (c_call 5 (s_l00From_c hv1) rfl rfl rfl) ?_
  refine rp rfl w0 rfl (pu_assign (r := .ptr _ _ _ _ _) rfl) ?_
  refine nx ?_
  refine sq [0,1,2,3] ?_
  refine rp rfl w0 rfl (pu_move (r := .ptr _ _ _ _ _) rfl) ?_
  obtain ⟨v2, hv2, h0⟩ := bnd h0
  refine rw1 rfl w0 rfl (c_callP [5, 6] 300 (fnc_pad 1 (s_l25Draw_b_c hv2)) rfl rfl) ?_
  refine rs rfl w0 rfl (st_alloc 7 (cs := [.d (.v (.slice none 0 0))]) tok rfl rfl rfl) ?_
  refine rw0 rfl w0 (bx_st (cs := _ :: _) tok rfl rfl rfl rfl rfl rfl rfl) ?_
  refine nx ?_
  refine sq [0,1,2,3,4,5,6] ?_
  refine rs rfl w0 rfl (st_slice0 8 tok rfl rfl rfl rfl) ?_
  refine fa tok ?_
  refine ld tok ?_
  obtain ⟨hq3, h0⟩ := chk_e h0
  refine rw1 rfl w0 rfl (ap_oo tok hq3 rfl rfl rfl rfl rfl rfl rfl rfl rfl rfl rfl rfl rfl rfl rfl) ?_
  refine rp rfl w0 rfl (pbl (C0 := [.d (.v (.slice none 0 0))]) tok rfl rfl rfl) ?_
  refine rs rfl w0 rfl (st_alloc 9 (cs := [.d (.v (.slice none 0 0))]) tok rfl rfl rfl) ?_
  refine rw0 rfl w0 (bx_st (cs := _ :: _) tok rfl rfl rfl rfl rfl rfl rfl) ?_
  refine nx ?_
  obtain ⟨v10, h1, h0⟩ := bnd h0
  refine aw_cut ⟨updA (updA (updA (updA ((fun _ => .dead)) 2 (.ptr 3 0 1 0 0)) 3 (.ptr 4 0 1 0 0)) 5 (.ptr 5 0 1 0 0)) 6 (.ptr 6 0 1 0 0), lks [.no, .no, .no, .live [⟨24, 1, .av [[.d (.v (.slice none 0 0))]]⟩], .live [⟨24, 1, .av [[.d (.v (.slice none 0 0))]]⟩], .live [⟨24, 1, .av [[.own 7 0 (v2.1.Shapes).length]]⟩], .live [⟨24, 1, .av [[.own 8 0 (v10).length]]⟩], .live [⟨44, 7, .data (List.map cShape_ v2.1.Shapes)⟩], .live [⟨44, 7, .data (List.map cShape_ v10)⟩]]⟩ ?_ ?_
  obtain ⟨v5, h2, h1⟩ := bnd h1
  refine aw_cut ⟨updA (updA (updA (updA (updA (updA ((fun _ => .dead)) 2 (.ptr 3 0 1 0 0)) 3 (.ptr 4 0 1 0 0)) 4 (.ptr 5 0 1 0 0)) 5 (.ptr 6 0 1 0 0)) 6 (.ptr 7 0 1 0 0)) 24 (.d (.v (.bool v5.1))), lks [.no, .no, .no, .live [⟨24, 1, .av [[.d (.v (.slice none 0 0))]]⟩], .live [⟨24, 1, .av [[.d (.v (.slice none 0 0))]]⟩], .live [⟨84, 3, .av [[.d (.sl (List.map cU8 v5.2.code)), .d (.v (.int .i64 v5.2.at_)), .d (.v (.int .u64 v5.2.seed))]]⟩], .live [⟨24, 1, .av [[.own 8 0 (v2.1.Shapes).length]]⟩], .live [⟨24, 1, .av [[.own 9 0 (([] : List Shape_) ++ v2.1.Shapes).length]]⟩], .live [⟨44, 7, .data (List.map cShape_ v2.1.Shapes)⟩], .live [⟨44, 7, .data (List.map cShape_ (([] : List Shape_) ++ v2.1.Shapes))⟩]]⟩ ?_ ?_
  refine sr [0,1,2,3,4,5,6,7] ?_
  refine fa tok ?_
  refine ld tok ?_
  refine rl rfl w0 rfl (ow_len tok rfl rfl rfl rfl rfl) ?_
  refine rp rfl w0 rfl (pu_gtr rfl rfl) ?_
  refine pm ?_
  refine ra_if (u := 21) h2 rfl (fun hc h2 => ?_) (fun hc h2 => ?_)
  refine rp rfl (w1 rfl rfl rfl) rfl (pu_move (r := .ptr _ _ _ _ _) rfl) ?_
  obtain ⟨v4, hv4, h2⟩ := bnd h2
  refine rw1 rfl (w1 rfl rfl rfl) rfl (c_callP [5] 300 (l00Src_one_b_c hv4) rfl rfl) ?_
  refine pkt ?_
  refine nx ?_
  cases h2
  exact wk [0, 1, 2, 3, 4, 5, 7, 9, 6, 8]
  refine k1 ?_
  refine k1 ?_
  refine pkf ?_
  refine nx ?_
  cases h2
  exact wk [0, 1, 2, 3, 4, 5, 7, 9, 6, 8]
  refine aw_ifB h1 rfl (fun hc h1 => ?_) (fun hc h1 => ?_)
  refine sq [0,1,2,3,4,5] ?_
  refine rp rfl w0 rfl (pu_move (r := .ptr _ _ _ _ _) rfl) ?_
  refine fa tok ?_
  refine ld tok ?_
  refine rl rfl w0 rfl (ow_len tok rfl rfl rfl rfl rfl) ?_
  obtain ⟨v6, hv6, h1⟩ := bnd h1
  refine rw1 rfl w0 rfl (c_callP [5] 300 (l00Src_pick_b_c hv6) rfl rfl) ?_
  refine pa ?_
  refine nx ?_
  refine aw_region_draw (is := [0, 1, 2, 3, 4, 5, 6, 7, 8, 9, 10, 11, 12, 13]) [0, 1, 0, 7, 15, 31, 63, 0, 128, 511, 1023, 2047, 4095, 8191] follows (by kernel_rfl) ?_
  refine rt_lk rfl w0 rfl (bx_fa tok rfl rfl rfl rfl rfl rfl rfl) rfl rfl rfl ?_
  refine rt_lk rfl w0 rfl (bx_ld1 tok rfl rfl rfl rfl rfl) rfl rfl rfl ?_
  refine tpm ?_
  obtain ⟨v7, hv7, h1⟩ := bnd h1
  refine rt_lk rfl w0 rfl (ow_ix tok hv7 rfl rfl rfl rfl rfl rfl rfl rfl) rfl rfl rfl ?_
  refine rt_lk rfl w0 rfl (rw_fa tok (atI_e hv7).2.1 rfl rfl rfl rfl rfl rfl rfl rfl) rfl rfl rfl ?_
  refine rt_lk rfl w0 rfl (rw_fa tok (atI_e hv7).2.1 rfl rfl rfl rfl rfl rfl rfl rfl) rfl rfl rfl ?_
  refine rt_lk rfl w0 rfl (rw_ld1 tok (atI_e hv7).2.1 rfl rfl rfl rfl rfl rfl) rfl rfl rfl ?_
  refine rt_p rfl w0 rfl (pu_move (r := .ptr _ _ _ _ _) rfl) ?_
  obtain ⟨v8, hv8, h1⟩ := bnd h1
  refine rt_wkd rfl w0 rfl (c_callP [5] 300 (l00Src_pick_b_c hv8) rfl rfl) ?_
  refine rt_p rfl w0 rfl (pw_add rfl rfl) ?_
  obtain ⟨v9, hv9, h1⟩ := bnd h1
  refine rt_lk rfl w0 rfl (ow_ix tok hv9 rfl rfl rfl rfl rfl rfl rfl rfl) rfl rfl rfl ?_
  refine rt_lk rfl w0 rfl (rw_fa tok (atI_e hv9).2.1 rfl rfl rfl rfl rfl rfl rfl rfl) rfl rfl rfl ?_
  refine rt_lk rfl w0 rfl (rw_fa tok (atI_e hv9).2.1 rfl rfl rfl rfl rfl rfl rfl rfl) rfl rfl rfl ?_
  refine rt_wk rfl w0 (rw_st (cs := [.d _]) tok (⟨v9.Kind, (⟨v9.A.X, w64 (v7.A.Y + v8.1)⟩ : Spot_), v9.B, v9.R, v9.Name⟩ : Shape_) (atI_e hv9).2.1 rfl rfl rfl rfl rfl rfl rfl rfl) ?_
  refine rt_nil ?_
  refine ⟨by kernel_rfl, ?_⟩
  refine then_n ?_
  cases h1
  exact wk [0, 1, 2, 3, 4, 6, 7, 8, 9]
  refine sk ?_
  cases h1
  exact wk [0, 1, 2, 3, 4, 6, 7, 8, 9]
  refine aw_seq ?_
  refine aw_region_draw (is := [0, 1, 2, 3]) [0, 0, 1, 7] follows (by kernel_rfl) ?_
  refine rt_lk rfl w0 rfl (bx_ldN tok rfl rfl rfl rfl) rfl rfl rfl ?_
  refine rt_lk rfl w0 rfl (bx_ldN tok rfl rfl rfl rfl) rfl rfl rfl ?_
  refine rt_wk rfl w0 (bx_st (cs := _ :: _) tok rfl rfl rfl rfl rfl rfl rfl) ?_
  refine rt_wk rfl w0 (bx_st (cs := _ :: _) tok rfl rfl rfl rfl rfl rfl rfl) ?_
  refine rt_nil ?_
  refine ⟨by kernel_rfl, ?_⟩
  refine then_n ?_
  refine aw_ret ?_
  cases h0
  exact retK_ (rs := [.cell 2 24, .cell 3 24]) [7, 8] rfl

theorem slices_Equal_LShape_Shape_c {p0 : List Shape_} {p1 : List Shape_} {r : Bool} (h0 : slices_Equal_LShape_Shape_m p0 p1 = some r) : FnC Tryz.prog 44 [] [.d (.sl (List.map cShape_ p0)), .d (.sl (List.map cShape_ p1))] [] (.d (.v (.bool r))) := by
  refine fnc_intro (T := tt) (N := 26) tok Tryz.func44 rfl rfl (by kernel_rfl) rfl rfl ?_
  unfold slices_Equal_LShape_Shape_m at h0
  refine sq [0] ?_
  refine pa ?_
  refine nx ?_
  refine aw_seq ?_
  refine sq [0,1,2,3,4] ?_
  refine pm ?_
  refine rp rfl w0 rfl (pu_len_map tok rfl rfl rfl) ?_
  refine pm ?_
  refine rp rfl w0 rfl (pu_len_map tok rfl rfl rfl) ?_
  refine rp rfl w0 rfl (pu_neq rfl rfl) ?_
  refine nx ?_
  refine aw_if h0 rfl (fun hc h0 => ?_) (fun hc h0 => ?_)
  refine sq [0] ?_
  refine pa ?_
  refine nx ?_
  refine aw_ret ?_
  refine then_r ?_
  cases h0
  exact ret0_ (rs := [.tmp 4]) rfl
  refine sk ?_
  obtain ⟨v7x, h1, h0⟩ := bnd h0
  refine aw_cutE v7x (fun v7 => ⟨(fun _ => .dead), lks [.no, .no, .no]⟩) ?_ ?_
  refine sq [0,1,2] ?_
  refine pm ?_
  refine rp rfl w0 rfl (pu_len_map tok rfl rfl rfl) ?_
  refine pm ?_
  refine nx ?_
  refine aw_block ?_
  refine aw_loopM (fun s4 => ⟨updA (updA (updA (updA ((fun _ => .dead)) 0 (.d (.sl (List.map cShape_ p0)))) 1 (.d (.sl (List.map cShape_ p1)))) 12 (.d (.v (.int .i64 (p0.length : Int))))) 13 (.d (.v (.int .i64 s4))), lks [.no, .no, .no]⟩) h1 ?_ (fun s4 y h2 => ?_)
  exact wk [0, 1, 2]
  refine sq [0] ?_
  refine rp rfl w0 rfl (pu_lss rfl rfl) ?_
  refine nx ?_
  refine aw_seq ?_
  refine aw_if h2 rfl (fun hc h2 => ?_) (fun hc h2 => ?_)
  refine sk ?_
  refine aw_seq ?_
  refine aw_block ?_
  refine sq [0,1] ?_
  refine pm ?_
  refine pa ?_
  refine nx ?_
  refine aw_seq ?_
  refine aw_region_draw (is := [0, 1, 2, 3, 4, 5, 6, 7, 8]) [0, 0, 3, 7, 0, 0, 48, 112, 255] follows (by kernel_rfl) ?_
  refine tpm ?_
  refine tpm ?_
  obtain ⟨v5, hv5, h2⟩ := bnd h2
  refine rt_p rfl w0 rfl (sl_ix tok hv5 rfl rfl rfl rfl rfl rfl) ?_
  refine rt_p rfl w0 rfl (pu_load_refN tok rfl rfl rfl (by repeat (first | exact SegD.z _ | apply SegD.t))) ?_
  refine tpm ?_
  refine tpm ?_
  obtain ⟨v6, hv6, h2⟩ := bnd h2
  refine rt_p rfl w0 rfl (sl_ix tok hv6 rfl rfl rfl rfl rfl rfl) ?_
  refine rt_p rfl w0 rfl (pu_load_refN tok rfl rfl rfl (by repeat (first | exact SegD.z _ | apply SegD.t))) ?_
  refine rt_p rfl w0 rfl (ps_neq_Shape_ (a := v5) (b := v6) rfl rfl) ?_
  refine rt_nil ?_
  refine ⟨by kernel_rfl, ?_⟩
  refine then_n ?_
  refine aw_if h2 rfl (fun hc h2 => ?_) (fun hc h2 => ?_)
  refine sq [0] ?_
  refine pa ?_
  refine nx ?_
  refine aw_ret ?_
  refine block_r ?_
  refine then_r ?_
  cases h2
  refine loop_r ⟨_, rfl, fun e => ?_⟩
  subst e
  refine block_r ?_
  replace h0 := orE_s h0
  refine then_r ?_
  cases h0
  exact ret0_ (rs := [.tmp 4]) rfl
  refine aw_skip ?_
  refine block_n ?_
  refine then_n ?_
  refine sr [0,1] ?_
  refine rp rfl w0 rfl (pw_add rfl rfl) ?_
  refine pm ?_
  refine ra_nil ?_
  refine loop_n ?_
  cases h2
  refine ⟨_, rfl, ?_⟩
  exact wk [0, 1, 2]
  refine aw_exit ?_
  refine then_e ?_
  cases h2
  refine loop_x ⟨_, rfl, fun e => ?_⟩
  subst e
  refine block_hit ?_
  refine then_n ?_
  refine ⟨_, rfl, ?_⟩
  exact wk [0, 1, 2]
  rintro v7 rfl
  replace h0 := orE_f h0
  refine sq [0] ?_
  refine pa ?_
  refine nx ?_
  refine aw_ret ?_
  cases h0
  exact ret0_ (rs := [.tmp 4]) rfl

theorem i_SameDrawing_c {p0 : Drawing_} {p1 : Drawing_} {r : Bool} (h0 : i_SameDrawing_m p0 p1 = some r) : FnC Tryz.prog 21 [] [.agg [.d (.sl (List.map cShape_ p0.Shapes))], .agg [.d (.sl (List.map cShape_ p1.Shapes))]] [] (.d (.v (.bool r))) := by
  refine fnc_intro (T := tt) (N := 10) tok Tryz.func21 rfl rfl (by kernel_rfl) rfl rfl ?_
  unfold i_SameDrawing_m at h0
  refine sq [0,1,2] ?_
  refine rs rfl w0 rfl (st_box 3 (cs := _ :: _) rfl rfl rfl) ?_
  refine rs rfl w0 rfl (st_box 4 (cs := _ :: _) rfl rfl rfl) ?_
  refine pa ?_
  refine nx ?_
  refine sq [0,1,2,3,4,5] ?_
  refine fa tok ?_
  refine ld tok ?_
  refine fa tok ?_
  refine ld tok ?_
  obtain ⟨v1, hv1, h0⟩ := bnd h0
  refine rs rfl w0 rfl (c_call 5 (slices_Equal_LShape_Shape_c hv1) rfl rfl rfl) ?_
  refine pa ?_
  refine nx ?_
  refine aw_ret ?_
  cases h0
  exact ret0_ (rs := [.tmp 4]) rfl

theorem l_FnDrawings_c {p0 : List Int} {r : Bool} (h0 : l_FnDrawings_m p0 = some r) : FnC Tryz.prog 4 [] [.d (.sl (List.map cU8 p0))] [] (.d (.v (.bool r))) := by
  refine fnc_intro (T := tt) (N := 121) tok Tryz.func4 rfl rfl (by kernel_rfl) rfl rfl ?_
  unfold l_FnDrawings_m at h0
  refine sq [0] ?_
  refine pa ?_
  refine nx ?_
  refine aw_seq ?_
  refine sq [0,1] ?_
  refine pm ?_
  obtain ⟨v1, hv1, h0⟩ := bnd h0
  refine rs rfl w0 rfl (c_call 3 (l_f6big_c hv1) rfl rfl rfl) ?_
  refine nx ?_
  refine aw_ifB h0 rfl (fun hc h0 => ?_) (fun hc h0 => ?_)
  refine sq [0] ?_
  refine pa ?_
  refine nx ?_
  refine aw_ret ?_
  refine then_r ?_
  cases h0
  exact ret0_ (rs := [.tmp 2]) rfl
  refine sk ?_
  refine sq [0,1,2,3,4,5,6,7,8] ?_
  refine pm ?_
  obtain ⟨v2, hv2, h0⟩ := bnd h0
  refine rs rfl w0 rfl (c_call 3 (s_DrawJoinDrawings_c hv2) rfl rfl rfl) ?_
  refine rp rfl w0 rfl (pu_move (r := .tup _) rfl) ?_
  refine rp rfl w0 rfl (pu_extract rfl rfl) ?_
  refine rp rfl w0 rfl (pu_extract rfl rfl) ?_
  refine rs rfl w0 rfl (st_alloc 4 (cs := [.d (.v (.slice none 0 0))]) tok rfl rfl rfl) ?_
  refine rs rfl w0 rfl (st_alloc 5 (cs := [.d (.v (.slice none 0 0))]) tok rfl rfl rfl) ?_
  refine rw0 rfl w0 (bx_st (cs := _ :: _) tok rfl rfl rfl rfl rfl rfl rfl) ?_
  refine rw0 rfl w0 (bx_st (cs := _ :: _) tok rfl rfl rfl rfl rfl rfl rfl) ?_
  refine nx ?_
  refine sq [0,1,2,3,4,5,6,7,8] ?_
  refine rl rfl w0 rfl (bx_ldN tok rfl rfl rfl rfl) ?_
  refine rl rfl w0 rfl (bx_ldN tok rfl rfl rfl rfl) ?_
  obtain ⟨v3, hv3, h0⟩ := bnd h0
  refine rs rfl w0 rfl (c_callV 6 (i_JoinDrawings_c hv3) rfl rfl) ?_
  refine rp rfl w0 rfl (pu_move (r := .tup _) rfl) ?_
  refine rp rfl w0 rfl (pu_extract rfl rfl) ?_
  refine rp rfl w0 rfl (pu_extract rfl rfl) ?_
  refine rs rfl w0 rfl (st_alloc 7 (cs := [.d (.v (.slice none 0 0))]) tok rfl rfl rfl) ?_
  refine rw0 rfl w0 (bx_st (cs := _ :: _) tok rfl rfl rfl rfl rfl rfl rfl) ?_
  refine pa ?_
  refine nx ?_
  refine sq [0,1,2,3,4,5,6,7,8] ?_
  refine rl rfl w0 rfl (bx_ldN tok rfl rfl rfl rfl) ?_
  refine rl rfl w0 rfl (bx_ldN tok rfl rfl rfl rfl) ?_
  obtain ⟨v4, hv4, h0⟩ := bnd h0
  refine rs rfl w0 rfl (c_callV 8 (s_JoinDrawings_c hv4) rfl rfl) ?_
  refine rp rfl w0 rfl (pu_move (r := .tup _) rfl) ?_
  refine rp rfl w0 rfl (pu_extract rfl rfl) ?_
  refine rp rfl w0 rfl (pu_extract rfl rfl) ?_
  refine rs rfl w0 rfl (st_alloc 9 (cs := [.d (.v (.slice none 0 0))]) tok rfl rfl rfl) ?_
  refine rw0 rfl w0 (bx_st (cs := _ :: _) tok rfl rfl rfl rfl rfl rfl rfl) ?_
  refine pa ?_
  refine nx ?_
  refine sq [0,1,2] ?_
  refine rl rfl w0 rfl (bx_ldN tok rfl rfl rfl rfl) ?_
  obtain ⟨v5, hv5, h0⟩ := bnd h0
  refine rs rfl w0 rfl (c_call 10 (i_DrawingText_c hv5) rfl rfl rfl) ?_
  refine pa ?_
  refine nx ?_
  refine sq [0,1,2] ?_
  refine rl rfl w0 rfl (bx_ldN tok rfl rfl rfl rfl) ?_
  obtain ⟨v6, hv6, h0⟩ := bnd h0
  refine rs rfl w0 rfl (c_callV 10 (i_DrawingText_c hv6) rfl rfl) ?_
  refine pa ?_
  refine nx ?_
  refine aw_seq ?_
  obtain ⟨v11, h1, h0⟩ := bnd h0
  refine aw_cut ⟨updA (updA (updA (updA (updA (updA (updA ((fun _ => .dead)) 0 (.d (.sl (List.map cU8 p0)))) 3 (.ptr 3 0 1 0 0)) 5 (.ptr 4 0 1 0 0)) 6 (.d (.v (.int .i64 v3.2)))) 9 (.d (.v (.string v5)))) 10 (.d (.v (.string v6)))) 64 (.d (.v (.bool v11))), lks [.no, .no, .no, .live [⟨24, 1, .av [[.d (.sl (List.map cShape_ v2.1.Shapes))]]⟩], .live [⟨24, 1, .av [[.own 5 0 (v3.1.Shapes).length]]⟩], .live [⟨44, 7, .data (List.map cShape_ v3.1.Shapes)⟩]]⟩ ?_ ?_
  refine aw_region_draw (is := [0, 1, 2, 3, 4, 5, 6, 7, 8, 9, 10, 11, 12, 13, 14, 15, 16, 18, 17, 19, 20, 21]) [0, 0, 3, 7, 15, 15, 63, 127, 255, 511, 1023, 1023, 3071, 8191, 16383, 32767, 65535, 131071, 65535, 524287, 1048575, 2097151] follows (by kernel_rfl) ?_
  refine tpm ?_
  refine tpm ?_
  refine rt_p rfl w0 rfl (pu_neq rfl rfl) ?_
  refine tpm ?_
  refine rt_if (u := 46) h1 rfl (fun hc h1 => ?_) (fun hc h1 => ?_)
  iterate 4 refine k2 ?_
  refine tpkt ?_
  refine tpm ?_
  iterate 4 refine k2 ?_
  refine tpkt ?_
  refine tpm ?_
  iterate 5 refine k2 ?_
  refine tpkt ?_
  refine rt_nil ?_
  refine ⟨by kernel_rfl, ?_⟩
  refine then_n ?_
  cases h1
  exact wk [0, 1, 2, 4, 7, 6]
  refine rt_lk rfl (w1 rfl rfl rfl) rfl (bx_ldN tok rfl rfl rfl rfl) rfl rfl rfl ?_
  refine rt_lk rfl (w1 rfl rfl rfl) rfl (bx_ldN tok rfl rfl rfl rfl) rfl rfl rfl ?_
  obtain ⟨v7, hv7, h1⟩ := bnd h1
  refine rt_c rfl (w1 rfl rfl rfl) rfl (b_callV 10 (s_SameDrawing_c hv7) rfl rfl) ?_
  refine rt_p rfl (w1 rfl rfl rfl) rfl (pu_not rfl) ?_
  refine tpkf ?_
  refine tpm ?_
  refine rt_ifB (u := 52) h1 rfl (fun hc h1 => ?_) (fun hc h1 => ?_)
  iterate 4 refine k2 ?_
  refine tpkt ?_
  refine tpm ?_
  iterate 5 refine k2 ?_
  refine tpkt ?_
  refine rt_nil ?_
  refine ⟨by kernel_rfl, ?_⟩
  refine then_n ?_
  cases h1
  exact wk [0, 1, 2, 4, 7, 6]
  refine tpm1 ?_
  refine rt_lk rfl (w1 rfl rfl rfl) rfl (bx_ldN tok rfl rfl rfl rfl) rfl rfl rfl ?_
  obtain ⟨v8, hv8, h1⟩ := bnd h1
  refine rt_c rfl (w1 rfl rfl rfl) rfl (b_call 10 (s_DrawingText_c hv8) rfl rfl rfl) ?_
  refine rt_p rfl (w1 rfl rfl rfl) rfl (pu_sneq rfl rfl) ?_
  refine tpkf ?_
  refine tpm ?_
  refine rt_if (u := 58) h1 rfl (fun hc h1 => ?_) (fun hc h1 => ?_)
  iterate 5 refine k2 ?_
  refine tpkt ?_
  refine rt_nil ?_
  refine ⟨by kernel_rfl, ?_⟩
  refine then_n ?_
  cases h1
  exact wk [0, 1, 2, 4, 7, 6]
  refine rt_lk rfl (w1 rfl rfl rfl) rfl (bx_ldN tok rfl rfl rfl rfl) rfl rfl rfl ?_
  refine rt_lk rfl (w1 rfl rfl rfl) rfl (bx_ldN tok rfl rfl rfl rfl) rfl rfl rfl ?_
  obtain ⟨v9, hv9, h1⟩ := bnd h1
  refine rt_c rfl (w1 rfl rfl rfl) rfl (b_call 10 (i_ValidDrawing_c hv9) rfl rfl rfl) ?_
  obtain ⟨v10, hv10, h1⟩ := bnd h1
  refine rt_c rfl (w1 rfl rfl rfl) rfl (b_call 10 (s_ValidDrawing_c hv10) rfl rfl rfl) ?_
  refine rt_p rfl (w1 rfl rfl rfl) rfl (pu_bneq tok rfl rfl rfl rfl) ?_
  refine tpkf ?_
  refine rt_nil ?_
  refine ⟨by kernel_rfl, ?_⟩
  refine then_n ?_
  cases h1
  exact wk [0, 1, 2, 4, 7, 6]
  refine aw_ifB h0 rfl (fun hc h0 => ?_) (fun hc h0 => ?_)
  refine sq [0] ?_
  refine pa ?_
  refine nx ?_
  refine aw_ret ?_
  refine then_r ?_
  cases h0
  exact ret0_ (rs := [.tmp 2]) rfl
  refine sk ?_
  refine sq [0,1,2] ?_
  refine pm ?_
  obtain ⟨v12, hv12, h0⟩ := bnd h0
  refine rs rfl w0 rfl (c_call 6 (s_DrawReadDrawing_c hv12) rfl rfl rfl) ?_
  refine pa ?_
  refine nx ?_
  refine sq [0,1,2,3,4,5,6,7] ?_
  refine pm ?_
  obtain ⟨v13, hv13, h0⟩ := bnd h0
  refine rs rfl w0 rfl (c_call 6 (i_ReadDrawing_c hv13) rfl rfl rfl) ?_
  refine rp rfl w0 rfl (pu_move (r := .tup _) rfl) ?_
  refine rp rfl w0 rfl (pu_extract rfl rfl) ?_
  refine rp rfl w0 rfl (pu_extract rfl rfl) ?_
  refine rs rfl w0 rfl (st_alloc 7 (cs := [.d (.v (.slice none 0 0))]) tok rfl rfl rfl) ?_
  refine rw0 rfl w0 (bx_st (cs := _ :: _) tok rfl rfl rfl rfl rfl rfl rfl) ?_
  refine pa ?_
  refine nx ?_
  refine sq [0,1,2,3,4,5,6,7] ?_
  refine pm ?_
  obtain ⟨v14, hv14, h0⟩ := bnd h0
  refine rs rfl w0 rfl (c_call 8 (s_ReadDrawing_c hv14) rfl rfl rfl) ?_
  refine rp rfl w0 rfl (pu_move (r := .tup _) rfl) ?_
  refine rp rfl w0 rfl (pu_extract rfl rfl) ?_
  refine rp rfl w0 rfl (pu_extract rfl rfl) ?_
  refine rs rfl w0 rfl (st_alloc 9 (cs := [.d (.v (.slice none 0 0))]) tok rfl rfl rfl) ?_
  refine rw0 rfl w0 (bx_st (cs := _ :: _) tok rfl rfl rfl rfl rfl rfl rfl) ?_
  refine pa ?_
  refine nx ?_
  refine sq [0,1,2,3,4,5,6,7,8] ?_
  refine pm ?_
  obtain ⟨v15, hv15, h0⟩ := bnd h0
  refine rs rfl w0 rfl (c_call 10 (s_DrawSameDrawing_c hv15) rfl rfl rfl) ?_
  refine rp rfl w0 rfl (pu_move (r := .tup _) rfl) ?_
  refine rp rfl w0 rfl (pu_extract rfl rfl) ?_
  refine rp rfl w0 rfl (pu_extract rfl rfl) ?_
  refine rs rfl w0 rfl (st_alloc 12 (cs := [.d (.v (.slice none 0 0))]) tok rfl rfl rfl) ?_
  refine rs rfl w0 rfl (st_alloc 13 (cs := [.d (.v (.slice none 0 0))]) tok rfl rfl rfl) ?_
  refine rw0 rfl w0 (bx_st (cs := _ :: _) tok rfl rfl rfl rfl rfl rfl rfl) ?_
  refine rw0 rfl w0 (bx_st (cs := _ :: _) tok rfl rfl rfl rfl rfl rfl rfl) ?_
  refine nx ?_
  refine aw_seq ?_
  obtain ⟨v19, h1, h0⟩ := bnd h0
  refine aw_cut ⟨updA (updA (updA (updA (updA (updA ((fun _ => .dead)) 3 (.ptr 3 0 1 0 0)) 5 (.ptr 4 0 1 0 0)) 6 (.d (.v (.int .i64 v3.2)))) 9 (.d (.v (.string v5)))) 10 (.d (.v (.string v6)))) 99 (.d (.v (.bool v19))), lks [.no, .no, .no, .live [⟨24, 1, .av [[.d (.sl (List.map cShape_ v2.1.Shapes))]]⟩], .live [⟨24, 1, .av [[.own 5 0 (v3.1.Shapes).length]]⟩], .live [⟨44, 7, .data (List.map cShape_ v3.1.Shapes)⟩]]⟩ ?_ ?_
  refine aw_region_draw (is := [0, 1, 2, 3, 4, 5, 6, 7, 8, 9, 10, 11, 13, 14, 12, 15, 16, 17]) [0, 0, 3, 7, 15, 15, 63, 127, 255, 511, 1023, 1023, 4095, 1023, 1023, 32767, 65535, 131071] follows (by kernel_rfl) ?_
  refine tpm ?_
  refine tpm ?_
  refine rt_p rfl w0 rfl (pu_bneq tok rfl rfl rfl rfl) ?_
  refine tpm ?_
  refine rt_ifB (u := 85) h1 rfl (fun hc h1 => ?_) (fun hc h1 => ?_)
  iterate 4 refine k2 ?_
  refine tpkt ?_
  refine tpm ?_
  iterate 7 refine k2 ?_
  refine tpkt ?_
  refine rt_nil ?_
  refine ⟨by kernel_rfl, ?_⟩
  refine then_n ?_
  cases h1
  exact wk [0, 1, 2, 3, 4, 5]
  refine rt_lk rfl (w1 rfl rfl rfl) rfl (bx_ldN tok rfl rfl rfl rfl) rfl rfl rfl ?_
  refine rt_lk rfl (w1 rfl rfl rfl) rfl (bx_ldN tok rfl rfl rfl rfl) rfl rfl rfl ?_
  obtain ⟨v16, hv16, h1⟩ := bnd h1
  refine rt_c rfl (w1 rfl rfl rfl) rfl (b_callV 14 (s_SameDrawing_c hv16) rfl rfl) ?_
  refine rt_p rfl (w1 rfl rfl rfl) rfl (pu_not rfl) ?_
  refine tpkf ?_
  refine tpm ?_
  refine rt_ifB (u := 91) h1 rfl (fun hc h1 => ?_) (fun hc h1 => ?_)
  iterate 7 refine k2 ?_
  refine tpkt ?_
  refine rt_nil ?_
  refine ⟨by kernel_rfl, ?_⟩
  refine then_n ?_
  cases h1
  exact wk [0, 1, 2, 3, 4, 5]
  iterate 4 refine rt_lk rfl (w1 rfl rfl rfl) rfl (bx_ldN tok rfl rfl rfl rfl) rfl rfl rfl ?_
  obtain ⟨v17, hv17, h1⟩ := bnd h1
  refine rt_c rfl (w1 rfl rfl rfl) rfl (b_callV 14 (i_SameDrawing_c hv17) rfl rfl) ?_
  obtain ⟨v18, hv18, h1⟩ := bnd h1
  refine rt_c rfl (w1 rfl rfl rfl) rfl (b_callV 14 (s_SameDrawing_c hv18) rfl rfl) ?_
  refine rt_p rfl (w1 rfl rfl rfl) rfl (pu_bneq tok rfl rfl rfl rfl) ?_
  refine tpkf ?_
  refine rt_nil ?_
  refine ⟨by kernel_rfl, ?_⟩
  refine then_n ?_
  cases h1
  exact wk [0, 1, 2, 3, 4, 5]
  refine aw_ifB h0 rfl (fun hc h0 => ?_) (fun hc h0 => ?_)
  refine sq [0] ?_
  refine pa ?_
  refine nx ?_
  refine aw_ret ?_
  refine then_r ?_
  cases h0
  exact ret0_ (rs := [.tmp 2]) rfl
  refine sk ?_
  refine aw_seq ?_
  refine sq [0,1] ?_
  refine pm ?_
  refine rp rfl w0 rfl (pu_neq rfl rfl) ?_
  refine nx ?_
  refine aw_if h0 rfl (fun hc h0 => ?_) (fun hc h0 => ?_)
  refine sq [0] ?_
  refine pa ?_
  refine nx ?_
  refine aw_ret ?_
  refine then_r ?_
  cases h0
  exact ret0_ (rs := [.tmp 2]) rfl
  refine sk ?_
  refine sq [0,1,2,3,4,5,6,7] ?_
  refine pm ?_
  obtain ⟨v20, hv20, h0⟩ := bnd h0
  refine rs rfl w0 rfl (c_call 6 (i_ReadDrawing_c hv20) rfl rfl rfl) ?_
  refine rp rfl w0 rfl (pu_move (r := .tup _) rfl) ?_
  refine rp rfl w0 rfl (pu_extract rfl rfl) ?_
  refine rp rfl w0 rfl (pu_extract rfl rfl) ?_
  refine rs rfl w0 rfl (st_alloc 7 (cs := [.d (.v (.slice none 0 0))]) tok rfl rfl rfl) ?_
  refine rw0 rfl w0 (bx_st (cs := _ :: _) tok rfl rfl rfl rfl rfl rfl rfl) ?_
  refine pa ?_
  refine nx ?_
  refine sq [0,1,2,3,4,5,6,7,8,9,10,11,12,13,14] ?_
  refine pm ?_
  refine pm ?_
  refine ra_ifB (u := 108) h0 rfl (fun hc h0 => ?_) (fun hc h0 => ?_)
  refine rl rfl (w1 rfl rfl rfl) rfl (bx_ldN tok rfl rfl rfl rfl) ?_
  refine rl rfl (w1 rfl rfl rfl) rfl (bx_ldN tok rfl rfl rfl rfl) ?_
  obtain ⟨v21, hv21, h0⟩ := bnd h0
  refine rs rfl (w1 rfl rfl rfl) rfl (c_callV 8 (s_SameDrawing_c hv21) rfl rfl) ?_
  refine pkt ?_
  refine pm ?_
  refine ra_ifB (u := 113) h0 rfl (fun hc h0 => ?_) (fun hc h0 => ?_)
  refine rl rfl (w1 rfl rfl rfl) rfl (bx_ldN tok rfl rfl rfl rfl) ?_
  obtain ⟨v22, hv22, h0⟩ := bnd h0
  refine rs rfl (w1 rfl rfl rfl) rfl (c_callV 8 (i_DrawingText_c hv22) rfl rfl) ?_
  refine pm1 ?_
  refine pm1 ?_
  obtain ⟨hq23, h0⟩ := chk_e h0
  refine rp rfl (w1 rfl rfl rfl) rfl (pu_cat rfl rfl hq23) ?_
  refine rp rfl (w1 rfl rfl rfl) rfl (pu_seql rfl rfl) ?_
  refine pkt ?_
  refine pa ?_
  refine nx ?_
  refine aw_ret ?_
  cases h0
  exact ret0_ (rs := [.tmp 2]) rfl
  iterate 6 refine k1 ?_
  refine pkf ?_
  refine pa ?_
  refine nx ?_
  refine aw_ret ?_
  cases h0
  exact ret0_ (rs := [.tmp 2]) rfl
  iterate 3 refine k1 ?_
  refine pkf ?_
  refine pm ?_
  iterate 6 refine k1 ?_
  refine pkf ?_
  refine pa ?_
  refine nx ?_
  refine aw_ret ?_
  cases h0
  exact ret0_ (rs := [.tmp 2]) rfl

end Go.Proofs.YtjjelnpehgoagaaGreatDoor
namespace Go.Proofs.YtjjelnpehgoagaaGreatDoor
set_option linter.unusedVariables false
set_option maxRecDepth 100000
def decB (n : Int) : ByteArray := ⟨(Lib.itoa n).toArray⟩
theorem decB_size {n : Int} (h : osI n) : (decB n).size ≤ 21 := by
  have := Lib.itoa_length_le n h.1 h.2
  simpa [decB, ByteArray.size] using this
def dgs (u : Nat) : List Int := if h : u = 0 then [] else dgs (u / 10) ++ [48 + ((u % 10 : Nat) : Int)]
termination_by u
decreasing_by omega
theorem dgs_zero : dgs 0 = [] := by rw [dgs, dif_pos rfl]
theorem dgs_pos {u : Nat} (h : u ≠ 0) : dgs u = dgs (u / 10) ++ [48 + ((u % 10 : Nat) : Int)] := by rw [dgs, dif_neg h]
theorem u8_dig (d : Nat) (h : d < 10) : UInt8.ofNat (48 + (d : Int)).toNat = 48 + UInt8.ofNat d := by
  rw [show (48 + (d : Int)).toNat = 48 + d by omega, UInt8.ofNat_add]
  rfl
theorem dgs_dec : ∀ (u : Nat), u ≠ 0 → (strOfNums (dgs u)).data.toList = Lib.decDigits u := by
  intro u
  induction u using Nat.strongRecOn with
  | _ u ih =>
    intro h
    rw [dgs_pos h, Lib.decDigits]
    by_cases h1 : u < 10
    · rw [dif_pos h1, show u / 10 = 0 by omega, dgs_zero, show u % 10 = u by omega]
      simp [strOfNums]
      exact u8_dig u (by omega)
    · rw [dif_neg h1, ← ih (u / 10) (by omega) (by omega)]
      simp [strOfNums]
      exact u8_dig (u % 10) (by omega)
theorem dgs_len : ∀ (k u : Nat), u < 10 ^ k → (dgs u).length ≤ k
  | 0, u, h => by
    have : u = 0 := by simpa using h
    subst this
    rw [dgs_zero]; exact Nat.le_refl _
  | k + 1, u, h => by
    by_cases h0 : u = 0
    · subst h0; rw [dgs_zero]; exact Nat.zero_le _
    · rw [dgs_pos h0, List.length_append]
      have := dgs_len k (u / 10) (by rw [Nat.pow_succ] at h; omega)
      simp; omega
theorem s_l01Dec_eq {n : Int} (hn : osI n) : s_l01Dec_m n = some (decB n) := by
  obtain ⟨h0, h1⟩ := hn
  unfold s_l01Dec_m
  rw [loopM_eq (x := dgs n.natAbs) (fun s : Int × List Int => osI s.1 ∧ dgs s.1.natAbs ++ s.2 = dgs n.natAbs) (fun s => s.1.natAbs) (fun s hs => ?_) (s0 := (n, [])) ⟨⟨h0, h1⟩, by simp⟩ (by dsimp only; omega)]
  · simp only [Option.bind_some]
    by_cases hz : n = 0
    · subst hz
      rw [Int.natAbs_zero, dgs_zero, if_pos (by simp)]
      simp [decB, Lib.itoa, Lib.decDigits]
    · have hp : n.natAbs ≠ 0 := by omega
      have hl : (dgs n.natAbs).length ≠ 0 := by rw [dgs_pos hp]; simp
      have hL := dgs_len 19 n.natAbs (by omega)
      have e := dgs_dec n.natAbs hp
      have es : strOfNums (dgs n.natAbs) = ⟨(Lib.decDigits n.natAbs).toArray⟩ := by rw [← e]
      rw [if_neg (by omega)]
      split
      · rename_i hneg
        rw [chk_t (by simp [strOfNums, ByteArray.size]; omega), es]
        simp only [decB, Lib.itoa, if_pos hneg]
        congr 1
      · rename_i hneg
        rw [es]
        simp only [decB, Lib.itoa, if_neg hneg]
        rw [show n.toNat = n.natAbs by omega]
  · obtain ⟨k, out⟩ := s
    obtain ⟨⟨a0, a1⟩, a2⟩ := hs
    simp only at a0 a1 a2 ⊢
    by_cases hk : k = 0
    · right
      subst hk
      rw [Int.natAbs_zero, dgs_zero] at a2
      simp at a2 ⊢
      exact a2
    · left
      rw [if_pos hk]
      have hd : (if k.tmod 10 < 0 then some (w64 (-(k.tmod 10))) else some (k.tmod 10)) = some (((k.natAbs % 10 : Nat)) : Int) := by
        have e1 : ((k.tmod 10).natAbs) = k.natAbs % 10 := Int.natAbs_tmod _ _
        split
        · rw [w64_in (by omega) (by omega)]; congr 1; omega
        · congr 1; omega
      rw [hd]
      simp only [Option.bind_some]
      have hL : (dgs n.natAbs).length ≤ 19 := dgs_len 19 n.natAbs (by omega)
      have hle : out.length ≤ 19 := by rw [← a2] at hL; simp at hL; omega
      have ew : IntKind.u8.wrap (w64 (48 + ((k.natAbs % 10 : Nat) : Int))) = 48 + ((k.natAbs % 10 : Nat) : Int) := by
        rw [w64_in (by omega) (by omega)]
        exact IntWalk.u8_in _ ⟨by omega, by omega⟩
      have eq : (k.tdiv 10).natAbs = k.natAbs / 10 := Int.natAbs_tdiv _ _
      rw [chk_t (by simp; omega), ew, w64_in (by omega) (by omega)]
      refine ⟨_, rfl, ⟨⟨by dsimp only; omega, by dsimp only; omega⟩, ?_⟩, ?_⟩
      · dsimp only
        rw [eq, ← a2, dgs_pos (u := k.natAbs) (by omega)]
        simp
      · dsimp only
        omega
theorem i_Decimal_eq {n : Int} (hn : osI n) : i_Decimal_m n = some (decB n) := by
  unfold i_Decimal_m strconv_FormatInt_m
  rw [chk_t ⟨hn.1, hn.2, rfl⟩]
  rfl
end Go.Proofs.YtjjelnpehgoagaaGreatDoor
namespace Go.Proofs.YtjjelnpehgoagaaGreatDoor
set_option linter.unusedVariables false
end Go.Proofs.YtjjelnpehgoagaaGreatDoor
namespace Go.Proofs.YtjjelnpehgoagaaGreatDoor
open Go.RowKit
set_option linter.unusedVariables false
set_option maxRecDepth 100000
set_option maxHeartbeats 2000000
end Go.Proofs.YtjjelnpehgoagaaGreatDoor
