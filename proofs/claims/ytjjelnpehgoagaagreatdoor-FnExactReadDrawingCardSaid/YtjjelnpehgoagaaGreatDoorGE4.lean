/- Texts of this claim, one behind the other (merged by a program of mine). -/
import Derived.Test.YtjjelnpehgoagaaGreatDoorProg
import Derived.Lib.ItoaLen
import Derived.Test.YtjjelnpehgoagaaGreatDoorGE3
set_option linter.unusedSimpArgs false
set_option linter.unusedVariables false
namespace Go.Proofs.YtjjelnpehgoagaaGreatDoor
open Go.RowKit
set_option linter.unusedVariables false
set_option maxRecDepth 100000
set_option maxHeartbeats 2000000
theorem eqg_Spot_ : Tryz.prog.eqGuardType Tryz.prog.depth 42 = false := by kernel_rfl
theorem run_eql_Spot_ {x y : Operand} (a b : Spot_) (w : World) : (do eqGuard .eql 42 x y (.agg #[.int .i64 a.X, .int .i64 a.Y]) (.agg #[.int .i64 b.X, .int .i64 b.Y]); binOp .eql 42 (.agg #[.int .i64 a.X, .int .i64 a.Y]) (.agg #[.int .i64 b.X, .int .i64 b.Y]) : Sem Value).run Tryz.prog w = .ok (.bool (decide (a = b))) w := by
  have g : (eqGuard .eql 42 x y (.agg #[.int .i64 a.X, .int .i64 a.Y]) (.agg #[.int .i64 b.X, .int .i64 b.Y])).run Tryz.prog w = .ok () w := by simp [eqGuard, eqg_Spot_]
  rw [Sem.run_bind, g, Result.andThen_ok]
  obtain ⟨x0, x1⟩ := a
  obtain ⟨y0, y1⟩ := b
  simp [go_sem]
  (repeat' split) <;> simp_all [bytes_inj]
theorem ps_eql_Spot_ {N : Nat} {t : Nat → AV} {h : Heap} {d : Tmp} {ty : TypeId} {pos : String} {aft : Array Edge} {g : Option (Nat × Bool)} {x y : Operand} {a b : Spot_} (hx : toV (evA N ⟨t, h⟩ x) = some (.agg #[.int .i64 a.X, .int .i64 a.Y])) (hy : toV (evA N ⟨t, h⟩ y) = some (.agg #[.int .i64 b.X, .int .i64 b.Y])) : Pure1 Tryz.prog N ⟨some d, .binOp .eql 42 x y 42, ty, pos, aft, g⟩ ⟨t, h⟩ (.d (.v (.bool (decide (a = b))))) := pu_bin hx hy (fun w => run_eql_Spot_ a b w)
theorem eqg_Shape_ : Tryz.prog.eqGuardType Tryz.prog.depth 44 = false := by kernel_rfl
theorem run_eql_Shape_ {x y : Operand} (a b : Shape_) (w : World) : (do eqGuard .eql 44 x y (.agg #[.int .i64 a.Kind, .int .i64 a.A.X, .int .i64 a.A.Y, .int .i64 a.B.X, .int .i64 a.B.Y, .int .i64 a.R, .string a.Name]) (.agg #[.int .i64 b.Kind, .int .i64 b.A.X, .int .i64 b.A.Y, .int .i64 b.B.X, .int .i64 b.B.Y, .int .i64 b.R, .string b.Name]); binOp .eql 44 (.agg #[.int .i64 a.Kind, .int .i64 a.A.X, .int .i64 a.A.Y, .int .i64 a.B.X, .int .i64 a.B.Y, .int .i64 a.R, .string a.Name]) (.agg #[.int .i64 b.Kind, .int .i64 b.A.X, .int .i64 b.A.Y, .int .i64 b.B.X, .int .i64 b.B.Y, .int .i64 b.R, .string b.Name]) : Sem Value).run Tryz.prog w = .ok (.bool (decide (a = b))) w := by
  have g : (eqGuard .eql 44 x y (.agg #[.int .i64 a.Kind, .int .i64 a.A.X, .int .i64 a.A.Y, .int .i64 a.B.X, .int .i64 a.B.Y, .int .i64 a.R, .string a.Name]) (.agg #[.int .i64 b.Kind, .int .i64 b.A.X, .int .i64 b.A.Y, .int .i64 b.B.X, .int .i64 b.B.Y, .int .i64 b.R, .string b.Name])).run Tryz.prog w = .ok () w := by simp [eqGuard, eqg_Shape_]
  rw [Sem.run_bind, g, Result.andThen_ok]
  obtain ⟨x0, ⟨x1, x2⟩, ⟨x3, x4⟩, x5, x6⟩ := a
  obtain ⟨y0, ⟨y1, y2⟩, ⟨y3, y4⟩, y5, y6⟩ := b
  simp [go_sem]
  (repeat' split) <;> simp_all [bytes_inj]
theorem ps_eql_Shape_ {N : Nat} {t : Nat → AV} {h : Heap} {d : Tmp} {ty : TypeId} {pos : String} {aft : Array Edge} {g : Option (Nat × Bool)} {x y : Operand} {a b : Shape_} (hx : toV (evA N ⟨t, h⟩ x) = some (.agg #[.int .i64 a.Kind, .int .i64 a.A.X, .int .i64 a.A.Y, .int .i64 a.B.X, .int .i64 a.B.Y, .int .i64 a.R, .string a.Name])) (hy : toV (evA N ⟨t, h⟩ y) = some (.agg #[.int .i64 b.Kind, .int .i64 b.A.X, .int .i64 b.A.Y, .int .i64 b.B.X, .int .i64 b.B.Y, .int .i64 b.R, .string b.Name])) : Pure1 Tryz.prog N ⟨some d, .binOp .eql 44 x y 44, ty, pos, aft, g⟩ ⟨t, h⟩ (.d (.v (.bool (decide (a = b))))) := pu_bin hx hy (fun w => run_eql_Shape_ a b w)
theorem s_l01Split_c {p0 : ByteArray} {p1 : Int} {r : List ByteArray} (h0 : s_l01Split_m p0 p1 = some r) : FnC Tryz.prog 22 [] [.d (.v (.string p0)), .d (.v (.int .u8 p1))] [.live [⟨9, 1, .data (List.map cS r)⟩]] (.own 0 0 r.length) := by
  refine fnc_intro (T := tt) (N := 35) tok Tryz.func22 rfl rfl (by kernel_rfl) rfl rfl ?_
  unfold s_l01Split_m at h0
  refine sq [0] ?_
  refine pa ?_
  refine nx ?_
  refine sq [0,1] ?_
  refine rs rfl w0 rfl (st_slice0 3 tok rfl rfl rfl rfl) ?_
  refine rp rfl w0 rfl (pu_assign (r := .own _ _ _) rfl) ?_
  refine nx ?_
  refine sq [0] ?_
  refine pa ?_
  refine nx ?_
  obtain ⟨v11, h1, h0⟩ := bnd h0
  refine aw_cut ⟨updA (updA (updA ((fun _ => .dead)) 0 (.d (.v (.string p0)))) 5 (.own 3 0 (v11.2).length)) 6 (.d (.v (.int .i64 v11.1))), lks [.no, .no, .no, .live [⟨9, 1, .data (List.map cS v11.2)⟩]]⟩ ?_ ?_
  refine sq [0] ?_
  refine pa ?_
  refine nx ?_
  refine aw_block ?_
  refine aw_loopM (fun s6 => ⟨updA (updA (updA (updA (updA ((fun _ => .dead)) 0 (.d (.v (.string p0)))) 1 (.d (.v (.int .u8 p1)))) 5 (.own 3 0 (s6.2.2).length)) 6 (.d (.v (.int .i64 s6.1)))) 7 (.d (.v (.int .i64 s6.2.1))), lks [.no, .no, .no, .live [⟨9, 1, .data (List.map cS s6.2.2)⟩]]⟩) h1 ?_ (fun s6 y h2 => ?_)
  exact wk [0, 1, 2, 3]
  refine aw_seq ?_
  refine sq [0,1,2,3] ?_
  refine pm ?_
  refine pm ?_
  refine rp rfl w0 rfl (pu_len_str tok rfl rfl rfl) ?_
  refine rp rfl w0 rfl (pu_lss rfl rfl) ?_
  refine nx ?_
  refine aw_if h2 rfl (fun hc h2 => ?_) (fun hc h2 => ?_)
  refine sk ?_
  obtain ⟨v10, h3, h2⟩ := bnd h2
  refine aw_cut ⟨updA (updA (updA (updA (updA ((fun _ => .dead)) 0 (.d (.v (.string p0)))) 1 (.d (.v (.int .u8 p1)))) 5 (.own 3 0 (v10.2).length)) 6 (.d (.v (.int .i64 v10.1)))) 7 (.d (.v (.int .i64 s6.2.1))), lks [.no, .no, .no, .live [⟨9, 1, .data (List.map cS v10.2)⟩]]⟩ ?_ ?_
  refine aw_block ?_
  refine sq [0,1,2,3,4] ?_
  refine pm ?_
  refine pm ?_
  obtain ⟨v7, hv7, h3⟩ := bnd h3
  refine rp rfl w0 rfl (pu_sidx tok hv7 rfl rfl rfl rfl) ?_
  refine pm ?_
  refine rp rfl w0 rfl (pu_eql rfl rfl) ?_
  refine nx ?_
  refine aw_if h3 rfl (fun hc h3 => ?_) (fun hc h3 => ?_)
  refine sq [0,1,2,3,4,5,6,7] ?_
  refine rp rfl w0 rfl (pu_move (r := .own _ _ _) rfl) ?_
  iterate 3 refine pm ?_
  obtain ⟨hq8, h3⟩ := chk_e h3
  refine rp rfl w0 rfl (pu_ssub tok hq8 rfl (.inr ⟨_, _, rfl, rfl⟩) (.inr ⟨_, _, rfl, rfl⟩) rfl rfl) ?_
  refine rs rfl w0 rfl (bs_val tok cS [p0.extract s6.1.toNat s6.2.1.toNat] rfl rfl rfl (by repeat (first | exact Els.nil _ | apply Els.cons (cs := [.d _]) rfl rfl rfl | apply Els.cons (cs := _ :: _) rfl rfl rfl)) rfl rfl rfl (by repeat (first | exact AllDD.nil | (apply AllDD.cons; (repeat (first | exact AllD.nil | apply AllD.cons))))) rfl) ?_
  obtain ⟨hq9, h3⟩ := chk_e h3
  refine rw1 rfl w0 rfl (ap_own tok hq9 rfl rfl rfl rfl rfl rfl rfl rfl rfl rfl rfl rfl (fun _ => rfl)) ?_
  refine rp rfl w0 rfl (pu_assign (r := .own _ _ _) rfl) ?_
  refine nx ?_
  refine sr [0,1,2] ?_
  refine pm ?_
  refine rp rfl w0 rfl (pw_add rfl rfl) ?_
  refine pa ?_
  refine ra_nil ?_
  refine block_n ?_
  refine then_n ?_
  cases h3
  exact wk [0, 1, 2, 3]
  refine aw_skip ?_
  refine block_n ?_
  refine then_n ?_
  cases h3
  exact wk [0, 1, 2, 3]
  refine sr [0,1,2] ?_
  refine pm ?_
  refine rp rfl w0 rfl (pw_add rfl rfl) ?_
  refine pa ?_
  refine ra_nil ?_
  refine loop_n ?_
  cases h2
  refine ⟨_, rfl, ?_⟩
  exact wk [0, 1, 2, 3]
  refine aw_exit ?_
  refine then_e ?_
  cases h2
  refine loop_x ⟨_, rfl, fun e => ?_⟩
  subst e
  refine block_hit ?_
  refine then_n ?_
  exact wk [0, 1, 2, 3]
  refine sq [0,1,2,3,4,5,6] ?_
  refine rp rfl w0 rfl (pu_move (r := .own _ _ _) rfl) ?_
  refine pm ?_
  refine pm ?_
  obtain ⟨hq12, h0⟩ := chk_e h0
  refine rp rfl w0 rfl (pu_ssub tok hq12 rfl (.inr ⟨_, _, rfl, rfl⟩) (.inl ⟨rfl, rfl⟩) rfl rfl) ?_
  refine rs rfl w0 rfl (bs_val tok cS [p0.extract v11.1.toNat (p0.size : Int).toNat] rfl rfl rfl (by repeat (first | exact Els.nil _ | apply Els.cons (cs := [.d _]) rfl rfl rfl | apply Els.cons (cs := _ :: _) rfl rfl rfl)) rfl rfl rfl (by repeat (first | exact AllDD.nil | (apply AllDD.cons; (repeat (first | exact AllD.nil | apply AllD.cons))))) rfl) ?_
  obtain ⟨hq13, h0⟩ := chk_e h0
  refine rw1 rfl w0 rfl (ap_own tok hq13 rfl rfl rfl rfl rfl rfl rfl rfl rfl rfl rfl rfl (fun _ => rfl)) ?_
  refine rp rfl w0 rfl (pu_assign (r := .own _ _ _) rfl) ?_
  refine nx ?_
  refine aw_ret ?_
  cases h0
  exact retK_ (rs := [.tmp 4]) [3] rfl

theorem s_l01Digit_c {p0 : Int} {r : Bool} (h0 : s_l01Digit_m p0 = some r) : FnC Tryz.prog 69 [] [.d (.v (.int .u8 p0))] [] (.d (.v (.bool r))) := by
  refine fnc_intro (T := tt) (N := 9) tok Tryz.func69 rfl rfl (by kernel_rfl) rfl rfl ?_
  unfold s_l01Digit_m at h0
  refine sq [0] ?_
  refine pa ?_
  refine nx ?_
  refine sq [0,1,2,3,4,5,6] ?_
  refine pm ?_
  refine rp rfl w0 rfl (pu_geq rfl rfl) ?_
  refine pm ?_
  refine ra_if (u := 5) h0 rfl (fun hc h0 => ?_) (fun hc h0 => ?_)
  refine pm1 ?_
  refine rp rfl (w1 rfl rfl rfl) rfl (pu_leq rfl rfl) ?_
  refine pkt ?_
  refine pa ?_
  refine nx ?_
  refine aw_ret ?_
  cases h0
  exact ret0_ (rs := [.tmp 2]) rfl
  refine k1 ?_
  refine k1 ?_
  refine pkf ?_
  refine pa ?_
  refine nx ?_
  refine aw_ret ?_
  cases h0
  exact ret0_ (rs := [.tmp 2]) rfl

theorem s_l01Dec_c {p0 : Int} {r : ByteArray} (h0 : s_l01Dec_m p0 = some r) : FnC Tryz.prog 70 [] [.d (.v (.int .i64 p0))] [] (.d (.v (.string r))) := by
  refine fnc_intro (T := tt) (N := 34) tok Tryz.func70 rfl rfl (by kernel_rfl) rfl rfl ?_
  unfold s_l01Dec_m at h0
  refine sq [0] ?_
  refine pa ?_
  refine nx ?_
  refine sq [0,1] ?_
  refine rs rfl w0 rfl (st_slice0 3 tok rfl rfl rfl rfl) ?_
  refine rp rfl w0 rfl (pu_assign (r := .own _ _ _) rfl) ?_
  refine nx ?_
  obtain ⟨v11, h1, h0⟩ := bnd h0
  refine aw_cut ⟨updA (updA ((fun _ => .dead)) 0 (.d (.v (.int .i64 p0)))) 3 (.own 3 0 (v11).length), lks [.no, .no, .no, .live [⟨5, 1, .data (List.map cU8 v11)⟩]]⟩ ?_ ?_
  refine sq [0,1] ?_
  refine pm ?_
  refine pa ?_
  refine nx ?_
  refine aw_block ?_
  refine aw_loopM (fun s6 => ⟨updA (updA (updA ((fun _ => .dead)) 0 (.d (.v (.int .i64 p0)))) 3 (.own 3 0 (s6.2).length)) 4 (.d (.v (.int .i64 s6.1))), lks [.no, .no, .no, .live [⟨5, 1, .data (List.map cU8 s6.2)⟩]]⟩) h1 ?_ (fun s6 y h2 => ?_)
  exact wk [0, 1, 2, 3]
  refine aw_seq ?_
  refine sq [0,1] ?_
  refine pm ?_
  refine rp rfl w0 rfl (pu_neq rfl rfl) ?_
  refine nx ?_
  refine aw_if h2 rfl (fun hc h2 => ?_) (fun hc h2 => ?_)
  refine sk ?_
  refine aw_seq ?_
  refine aw_block ?_
  refine sq [0,1,2] ?_
  refine pm ?_
  refine rp rfl w0 rfl (pu_remw rfl rfl (by decide)) ?_
  refine pa ?_
  refine nx ?_
  obtain ⟨v8, h3, h2⟩ := bnd h2
  refine aw_cut ⟨updA (updA (updA (updA ((fun _ => .dead)) 0 (.d (.v (.int .i64 p0)))) 3 (.own 3 0 (s6.2).length)) 4 (.d (.v (.int .i64 s6.1)))) 5 (.d (.v (.int .i64 v8))), lks [.no, .no, .no, .live [⟨5, 1, .data (List.map cU8 s6.2)⟩]]⟩ ?_ ?_
  refine sq [0,1] ?_
  refine pm ?_
  refine rp rfl w0 rfl (pu_lss rfl rfl) ?_
  refine nx ?_
  refine aw_if h3 rfl (fun hc h3 => ?_) (fun hc h3 => ?_)
  refine sr [0,1,2] ?_
  refine pm ?_
  refine rp rfl w0 rfl (pw_neg rfl) ?_
  refine pa ?_
  refine nx ?_
  cases h3
  exact wk [0, 1, 2, 3]
  refine sk ?_
  cases h3
  exact wk [0, 1, 2, 3]
  refine sr [0,1,2,3,4,5,6] ?_
  refine pm ?_
  refine rp rfl w0 rfl (pw_add rfl rfl) ?_
  refine rp rfl w0 rfl (pu_ii tok rfl rfl rfl rfl rfl) ?_
  refine rs rfl w0 rfl (bs_own 4 tok cU8 [IntKind.u8.wrap (w64 (48 + v8))] rfl rfl rfl (by repeat (first | exact Els.nil _ | apply Els.cons (cs := [.d _]) rfl rfl rfl | apply Els.cons (cs := _ :: _) rfl rfl rfl)) rfl rfl rfl (by repeat (first | exact AllDD.nil | (apply AllDD.cons; (repeat (first | exact AllD.nil | apply AllD.cons))))) rfl rfl) ?_
  refine rp rfl w0 rfl (pu_move (r := .own _ _ _) rfl) ?_
  obtain ⟨hq9, h2⟩ := chk_e h2
  refine rw1 rfl w0 rfl (ap_oo tok hq9 rfl rfl rfl rfl rfl rfl rfl rfl rfl rfl rfl rfl rfl rfl rfl) ?_
  refine rp rfl w0 rfl (pu_assign (r := .own _ _ _) rfl) ?_
  refine ra_nil ?_
  refine block_n ?_
  refine then_n ?_
  refine sr [0,1,2] ?_
  refine pm ?_
  refine rp rfl w0 rfl (pw_quo rfl rfl (by decide)) ?_
  refine pa ?_
  refine ra_nil ?_
  refine loop_n ?_
  cases h2
  refine ⟨_, rfl, ?_⟩
  exact wk [0, 1, 2, 4]
  refine aw_exit ?_
  refine then_e ?_
  cases h2
  refine loop_x ⟨_, rfl, fun e => ?_⟩
  subst e
  refine block_hit ?_
  refine then_n ?_
  exact wk [0, 1, 2, 3]
  refine aw_seq ?_
  refine sq [0,1,2] ?_
  refine rp rfl w0 rfl (pu_move (r := .own _ _ _) rfl) ?_
  refine rl rfl w0 rfl (ow_len tok rfl rfl rfl rfl rfl) ?_
  refine rp rfl w0 rfl (pu_eql rfl rfl) ?_
  refine nx ?_
  refine aw_if h0 rfl (fun hc h0 => ?_) (fun hc h0 => ?_)
  refine sq [0] ?_
  refine pa ?_
  refine nx ?_
  refine aw_ret ?_
  refine then_r ?_
  cases h0
  exact ret0_ (rs := [.tmp 2]) rfl
  refine sk ?_
  refine aw_seq ?_
  refine sq [0,1] ?_
  refine pm ?_
  refine rp rfl w0 rfl (pu_lss rfl rfl) ?_
  refine nx ?_
  refine aw_if h0 rfl (fun hc h0 => ?_) (fun hc h0 => ?_)
  refine sq [0,1,2,3] ?_
  refine rp rfl w0 rfl (pu_move (r := .own _ _ _) rfl) ?_
  refine rs rfl w0 rfl (cv_bo tok rfl rfl rfl rfl rfl rfl rfl rfl rfl rfl) ?_
  obtain ⟨hq12, h0⟩ := chk_e h0
  refine rp rfl w0 rfl (pu_cat rfl rfl hq12) ?_
  refine pa ?_
  refine nx ?_
  refine aw_ret ?_
  refine then_r ?_
  cases h0
  exact ret0_ (rs := [.tmp 2]) rfl
  refine sk ?_
  refine sq [0,1,2] ?_
  refine rp rfl w0 rfl (pu_move (r := .own _ _ _) rfl) ?_
  refine rs rfl w0 rfl (cv_bo tok rfl rfl rfl rfl rfl rfl rfl rfl rfl rfl) ?_
  refine pa ?_
  refine nx ?_
  refine aw_ret ?_
  cases h0
  exact ret0_ (rs := [.tmp 2]) rfl

theorem s_l01Number_c {p0 : ByteArray} {r : Int × Bool} (h0 : s_l01Number_m p0 = some r) : FnC Tryz.prog 45 [] [.d (.v (.string p0))] [] (.tup [.d (.v (.int .i64 r.1)), .d (.v (.bool r.2))]) := by
  refine fnc_intro (T := tt) (N := 56) tok Tryz.func45 rfl rfl (by kernel_rfl) rfl rfl ?_
  unfold s_l01Number_m at h0
  refine sq [0,1] ?_
  refine pa ?_
  refine pa ?_
  refine nx ?_
  refine sq [0,1] ?_
  refine pm ?_
  refine pa ?_
  refine nx ?_
  obtain ⟨v4, h1, h0⟩ := bnd h0
  refine aw_cut ⟨updA (updA ((fun _ => .dead)) 0 (.d (.v (.string p0)))) 4 (.d (.v (.string v4))), lks [.no, .no, .no]⟩ ?_ ?_
  obtain ⟨v2, h2, h1⟩ := bnd h1
  refine aw_cut ⟨updA (updA (updA ((fun _ => .dead)) 0 (.d (.v (.string p0)))) 4 (.d (.v (.string p0)))) 14 (.d (.v (.bool v2))), lks [.no, .no, .no]⟩ ?_ ?_
  refine sr [0,1,2,3,4,5,6] ?_
  refine pm ?_
  refine rp rfl w0 rfl (pu_sneq rfl rfl) ?_
  refine pm ?_
  refine ra_if (u := 10) h2 rfl (fun hc h2 => ?_) (fun hc h2 => ?_)
  refine pm1 ?_
  obtain ⟨v1, hv1, h2⟩ := bnd h2
  refine rp rfl (w1 rfl rfl rfl) rfl (pu_sidx tok hv1 rfl rfl rfl rfl) ?_
  refine rp rfl (w1 rfl rfl rfl) rfl (pu_eql rfl rfl) ?_
  refine pkt ?_
  refine nx ?_
  cases h2
  exact wk [0, 1, 2]
  iterate 3 refine k1 ?_
  refine pkf ?_
  refine nx ?_
  cases h2
  exact wk [0, 1, 2]
  refine aw_ifB h1 rfl (fun hc h1 => ?_) (fun hc h1 => ?_)
  refine sr [0,1,2] ?_
  refine pm ?_
  obtain ⟨hq3, h1⟩ := chk_e h1
  refine rp rfl w0 rfl (pu_ssub tok hq3 rfl (.inr ⟨_, _, rfl, rfl⟩) (.inl ⟨rfl, rfl⟩) rfl rfl) ?_
  refine pa ?_
  refine nx ?_
  cases h1
  exact wk [0, 1, 2]
  refine sk ?_
  cases h1
  exact wk [0, 1, 2]
  refine aw_seq ?_
  obtain ⟨v5, h1, h0⟩ := bnd h0
  refine aw_cut ⟨updA (updA (updA ((fun _ => .dead)) 0 (.d (.v (.string p0)))) 4 (.d (.v (.string v4)))) 24 (.d (.v (.bool v5))), lks [.no, .no, .no]⟩ ?_ ?_
  refine sr [0,1,2,3,4,5,6,7] ?_
  refine pm ?_
  refine rp rfl w0 rfl (pu_len_str tok rfl rfl rfl) ?_
  refine rp rfl w0 rfl (pu_lss rfl rfl) ?_
  refine pm ?_
  refine ra_if (u := 20) h1 rfl (fun hc h1 => ?_) (fun hc h1 => ?_)
  iterate 3 refine k1 ?_
  refine pkt ?_
  refine nx ?_
  cases h1
  exact wk [0, 1, 2]
  refine pm1 ?_
  refine rp rfl (w1 rfl rfl rfl) rfl (pu_len_str tok rfl rfl rfl) ?_
  refine rp rfl (w1 rfl rfl rfl) rfl (pu_gtr rfl rfl) ?_
  refine pkf ?_
  refine nx ?_
  cases h1
  exact wk [0, 1, 2]
  refine aw_ifB h0 rfl (fun hc h0 => ?_) (fun hc h0 => ?_)
  refine sq [0,1] ?_
  refine pa ?_
  refine pa ?_
  refine nx ?_
  refine aw_ret ?_
  refine then_r ?_
  cases h0
  exact ret0_ (rs := [.tmp 2, .tmp 3]) rfl
  refine sk ?_
  refine sq [0] ?_
  refine pa ?_
  refine nx ?_
  obtain ⟨v14x, h1, h0⟩ := bnd h0
  refine aw_cutE v14x (fun v14 => ⟨updA (updA (updA ((fun _ => .dead)) 0 (.d (.v (.string p0)))) 4 (.d (.v (.string v4)))) 5 (.d (.v (.int .i64 v14))), lks [.no, .no, .no]⟩) ?_ ?_
  refine sq [0] ?_
  refine pa ?_
  refine nx ?_
  refine aw_block ?_
  refine aw_loopM (fun s10 => ⟨updA (updA (updA (updA ((fun _ => .dead)) 0 (.d (.v (.string p0)))) 4 (.d (.v (.string v4)))) 5 (.d (.v (.int .i64 s10.1)))) 6 (.d (.v (.int .i64 s10.2))), lks [.no, .no, .no]⟩) h1 ?_ (fun s10 y h2 => ?_)
  exact wk [0, 1, 2]
  refine aw_seq ?_
  refine sq [0,1,2,3] ?_
  refine pm ?_
  refine pm ?_
  refine rp rfl w0 rfl (pu_len_str tok rfl rfl rfl) ?_
  refine rp rfl w0 rfl (pu_lss rfl rfl) ?_
  refine nx ?_
  refine aw_if h2 rfl (fun hc h2 => ?_) (fun hc h2 => ?_)
  refine sk ?_
  refine aw_seq ?_
  refine aw_block ?_
  refine aw_seq ?_
  refine sq [0,1,2,3,4] ?_
  refine pm ?_
  refine pm ?_
  obtain ⟨v11, hv11, h2⟩ := bnd h2
  refine rp rfl w0 rfl (pu_sidx tok hv11 rfl rfl rfl rfl) ?_
  obtain ⟨v12, hv12, h2⟩ := bnd h2
  refine rs rfl w0 rfl (c_call 3 (s_l01Digit_c hv12) rfl rfl rfl) ?_
  refine rp rfl w0 rfl (pu_not rfl) ?_
  refine nx ?_
  refine aw_ifB h2 rfl (fun hc h2 => ?_) (fun hc h2 => ?_)
  refine sq [0,1] ?_
  refine pa ?_
  refine pa ?_
  refine nx ?_
  refine aw_ret ?_
  refine then_r ?_
  refine block_r ?_
  refine then_r ?_
  cases h2
  refine loop_r ⟨_, rfl, fun e => ?_⟩
  subst e
  refine block_r ?_
  replace h0 := orE_s h0
  refine then_r ?_
  cases h0
  exact ret0_ (rs := [.tmp 2, .tmp 3]) rfl
  refine sk ?_
  refine sr [0,1,2,3,4,5,6,7,8] ?_
  refine pm ?_
  refine rp rfl w0 rfl (pw_mul rfl rfl) ?_
  refine pm ?_
  refine pm ?_
  obtain ⟨v13, hv13, h2⟩ := bnd h2
  refine rp rfl w0 rfl (pu_sidx tok hv13 rfl rfl rfl rfl) ?_
  refine rp rfl w0 rfl (pu_subw rfl rfl) ?_
  refine rp rfl w0 rfl (pw_cv tok rfl rfl rfl rfl rfl) ?_
  refine rp rfl w0 rfl (pw_add rfl rfl) ?_
  refine pa ?_
  refine ra_nil ?_
  refine block_n ?_
  refine then_n ?_
  refine sr [0,1,2] ?_
  refine pm ?_
  refine rp rfl w0 rfl (pw_add rfl rfl) ?_
  refine pa ?_
  refine ra_nil ?_
  refine loop_n ?_
  cases h2
  refine ⟨_, rfl, ?_⟩
  exact wk [0, 1, 2]
  refine aw_exit ?_
  refine then_e ?_
  cases h2
  refine loop_x ⟨_, rfl, fun e => ?_⟩
  subst e
  refine block_hit ?_
  refine then_n ?_
  refine ⟨_, rfl, ?_⟩
  exact wk [0, 1, 2]
  rintro v14 rfl
  replace h0 := orE_f h0
  obtain ⟨v15, h1, h0⟩ := bnd h0
  refine aw_cut ⟨updA (updA ((fun _ => .dead)) 0 (.d (.v (.string p0)))) 5 (.d (.v (.int .i64 v15))), lks [.no, .no, .no]⟩ ?_ ?_
  refine sq [0,1,2,3,4] ?_
  refine pm ?_
  refine rp rfl w0 rfl (pu_len_str tok rfl rfl rfl) ?_
  refine pm ?_
  refine rp rfl w0 rfl (pu_len_str tok rfl rfl rfl) ?_
  refine rp rfl w0 rfl (pu_lss rfl rfl) ?_
  refine nx ?_
  refine aw_if h1 rfl (fun hc h1 => ?_) (fun hc h1 => ?_)
  refine sr [0,1,2] ?_
  refine pm ?_
  refine rp rfl w0 rfl (pw_neg rfl) ?_
  refine pa ?_
  refine nx ?_
  cases h1
  exact wk [0, 1, 2]
  refine sk ?_
  cases h1
  exact wk [0, 1, 2]
  refine aw_seq ?_
  refine sq [0,1,2,3] ?_
  refine pm ?_
  obtain ⟨v16, hv16, h0⟩ := bnd h0
  refine rs rfl w0 rfl (c_call 3 (s_l01Dec_c hv16) rfl rfl rfl) ?_
  refine pm ?_
  refine rp rfl w0 rfl (pu_sneq rfl rfl) ?_
  refine nx ?_
  refine aw_if h0 rfl (fun hc h0 => ?_) (fun hc h0 => ?_)
  refine sq [0,1] ?_
  refine pa ?_
  refine pa ?_
  refine nx ?_
  refine aw_ret ?_
  refine then_r ?_
  cases h0
  exact ret0_ (rs := [.tmp 2, .tmp 3]) rfl
  refine sk ?_
  refine sq [0,1,2] ?_
  refine pm ?_
  refine pa ?_
  refine pa ?_
  refine nx ?_
  refine aw_ret ?_
  cases h0
  exact ret0_ (rs := [.tmp 2, .tmp 3]) rfl

theorem s_l25Read_c {p0 : ByteArray} {r : Shape_} (h0 : s_l25Read_m p0 = some r) : FnC Tryz.prog 23 [] [.d (.v (.string p0))] [] (.agg [.d (.v (.int .i64 r.Kind)), .d (.v (.int .i64 r.A.X)), .d (.v (.int .i64 r.A.Y)), .d (.v (.int .i64 r.B.X)), .d (.v (.int .i64 r.B.Y)), .d (.v (.int .i64 r.R)), .d (.v (.string r.Name))]) := by
  refine fnc_intro (T := tt) (N := 92) tok Tryz.func23 rfl rfl (by kernel_rfl) rfl rfl ?_
  unfold s_l25Read_m at h0
  refine sq [0] ?_
  refine rs rfl w0 rfl (st_alloc 3 (cs := [.d (.v (.int .i64 0)), .d (.v (.int .i64 0)), .d (.v (.int .i64 0)), .d (.v (.int .i64 0)), .d (.v (.int .i64 0)), .d (.v (.int .i64 0)), .d (.v (.string (⟨#[]⟩ : ByteArray)))]) tok rfl rfl rfl) ?_
  refine nx ?_
  refine sq [0,1,2] ?_
  refine pm ?_
  obtain ⟨v1, hv1, h0⟩ := bnd h0
  refine rs rfl w0 rfl (c_call 4 (s_l01Split_c hv1) rfl rfl rfl) ?_
  refine rp rfl w0 rfl (pu_assign (r := .own _ _ _) rfl) ?_
  refine nx ?_
  refine sq [0,1] ?_
  refine rs rfl w0 rfl (st_slice0 5 tok rfl rfl rfl rfl) ?_
  refine rp rfl w0 rfl (pu_assign (r := .own _ _ _) rfl) ?_
  refine nx ?_
  obtain ⟨v10, h1, h0⟩ := bnd h0
  refine aw_cut ⟨updA (updA (updA ((fun _ => .dead)) 2 (.ptr 3 0 1 0 0)) 3 (.own 4 0 (v1).length)) 4 (.own 5 0 (v10).length), lks [.no, .no, .no, .live [⟨44, 7, .av [[.d (.v (.int .i64 0)), .d (.v (.int .i64 0)), .d (.v (.int .i64 0)), .d (.v (.int .i64 0)), .d (.v (.int .i64 0)), .d (.v (.int .i64 0)), .d (.v (.string (⟨#[]⟩ : ByteArray)))]]⟩], .live [⟨9, 1, .data (List.map cS v1)⟩], .live [⟨2, 1, .data (List.map cI v10)⟩]]⟩ ?_ ?_
  refine sq [0] ?_
  refine pa ?_
  refine nx ?_
  refine aw_block ?_
  refine aw_loopM (fun s6 => ⟨updA (updA (updA (updA ((fun _ => .dead)) 2 (.ptr 3 0 1 0 0)) 3 (.own 4 0 (v1).length)) 4 (.own 5 0 (s6.2).length)) 5 (.d (.v (.int .i64 s6.1))), lks [.no, .no, .no, .live [⟨44, 7, .av [[.d (.v (.int .i64 0)), .d (.v (.int .i64 0)), .d (.v (.int .i64 0)), .d (.v (.int .i64 0)), .d (.v (.int .i64 0)), .d (.v (.int .i64 0)), .d (.v (.string (⟨#[]⟩ : ByteArray)))]]⟩], .live [⟨9, 1, .data (List.map cS v1)⟩], .live [⟨2, 1, .data (List.map cI s6.2)⟩]]⟩) h1 ?_ (fun s6 y h2 => ?_)
  exact wk [0, 1, 2, 3, 4, 5]
  refine aw_seq ?_
  refine sq [0,1,2,3] ?_
  refine pm ?_
  refine rp rfl w0 rfl (pu_move (r := .own _ _ _) rfl) ?_
  refine rl rfl w0 rfl (ow_len tok rfl rfl rfl rfl rfl) ?_
  refine rp rfl w0 rfl (pu_lss rfl rfl) ?_
  refine nx ?_
  refine aw_if h2 rfl (fun hc h2 => ?_) (fun hc h2 => ?_)
  refine sk ?_
  refine aw_seq ?_
  refine aw_block ?_
  refine sq [0,1,2,3,4,5,6,7,8,9] ?_
  refine rp rfl w0 rfl (pu_move (r := .own _ _ _) rfl) ?_
  refine pm ?_
  obtain ⟨v7, hv7, h2⟩ := bnd h2
  refine rl rfl w0 rfl (ow_ix tok hv7 rfl rfl rfl rfl rfl rfl rfl rfl) ?_
  refine rl rfl w0 rfl (rw_ld1 tok (atI_e hv7).2.1 rfl rfl rfl rfl rfl rfl) ?_
  obtain ⟨v8, hv8, h2⟩ := bnd h2
  refine rs rfl w0 rfl (c_call 6 (s_l01Number_c hv8) rfl rfl rfl) ?_
  refine rp rfl w0 rfl (pu_move (r := .tup _) rfl) ?_
  refine rp rfl w0 rfl (pu_extract rfl rfl) ?_
  refine rp rfl w0 rfl (pu_extract rfl rfl) ?_
  refine pa ?_
  refine pa ?_
  refine nx ?_
  refine sr [0,1,2,3,4] ?_
  refine rp rfl w0 rfl (pu_move (r := .own _ _ _) rfl) ?_
  refine pm ?_
  refine rs rfl w0 rfl (bs_val tok cI [v8.1] rfl rfl rfl (by repeat (first | exact Els.nil _ | apply Els.cons (cs := [.d _]) rfl rfl rfl | apply Els.cons (cs := _ :: _) rfl rfl rfl)) rfl rfl rfl (by repeat (first | exact AllDD.nil | (apply AllDD.cons; (repeat (first | exact AllD.nil | apply AllD.cons))))) rfl) ?_
  obtain ⟨hq9, h2⟩ := chk_e h2
  refine rw1 rfl w0 rfl (ap_own tok hq9 rfl rfl rfl rfl rfl rfl rfl rfl rfl rfl rfl rfl (fun _ => rfl)) ?_
  refine rp rfl w0 rfl (pu_assign (r := .own _ _ _) rfl) ?_
  refine ra_nil ?_
  refine block_n ?_
  refine then_n ?_
  refine sr [0,1,2] ?_
  refine pm ?_
  refine rp rfl w0 rfl (pw_add rfl rfl) ?_
  refine pa ?_
  refine ra_nil ?_
  refine loop_n ?_
  cases h2
  refine ⟨_, rfl, ?_⟩
  exact wk [0, 1, 2, 3, 4, 5]
  refine aw_exit ?_
  refine then_e ?_
  cases h2
  refine loop_x ⟨_, rfl, fun e => ?_⟩
  subst e
  refine block_hit ?_
  refine then_n ?_
  exact wk [0, 1, 2, 3, 4, 5]
  refine sq [0,1,2] ?_
  refine rp rfl w0 rfl (pbl (C0 := [.d (.v (.int .i64 0)), .d (.v (.int .i64 0)), .d (.v (.int .i64 0)), .d (.v (.int .i64 0)), .d (.v (.int .i64 0)), .d (.v (.int .i64 0)), .d (.v (.string (⟨#[]⟩ : ByteArray)))]) tok rfl rfl rfl) ?_
  refine rs rfl w0 rfl (st_alloc 6 (cs := [.d (.v (.int .i64 0)), .d (.v (.int .i64 0)), .d (.v (.int .i64 0)), .d (.v (.int .i64 0)), .d (.v (.int .i64 0)), .d (.v (.int .i64 0)), .d (.v (.string (⟨#[]⟩ : ByteArray)))]) tok rfl rfl rfl) ?_
  refine rw0 rfl w0 (bx_st (cs := _ :: _) tok rfl rfl rfl rfl rfl rfl rfl) ?_
  refine nx ?_
  obtain ⟨v13, h1, h0⟩ := bnd h0
  refine aw_cut ⟨updA (updA (updA (updA ((fun _ => .dead)) 2 (.ptr 3 0 1 0 0)) 3 (.own 4 0 (v1).length)) 4 (.own 5 0 (v10).length)) 8 (.ptr 6 0 1 0 0), lks [.no, .no, .no, .live [⟨44, 7, .av [[.d (.v (.int .i64 0)), .d (.v (.int .i64 0)), .d (.v (.int .i64 0)), .d (.v (.int .i64 0)), .d (.v (.int .i64 0)), .d (.v (.int .i64 0)), .d (.v (.string (⟨#[]⟩ : ByteArray)))]]⟩], .live [⟨9, 1, .data (List.map cS v1)⟩], .live [⟨2, 1, .data (List.map cI v10)⟩], .live [⟨44, 7, .av [[.d (.v (.int .i64 v13.Kind)), .d (.v (.int .i64 v13.A.X)), .d (.v (.int .i64 v13.A.Y)), .d (.v (.int .i64 v13.B.X)), .d (.v (.int .i64 v13.B.Y)), .d (.v (.int .i64 v13.R)), .d (.v (.string v13.Name))]]⟩]]⟩ ?_ ?_
  refine sq [0,1,2] ?_
  refine rp rfl w0 rfl (pu_move (r := .own _ _ _) rfl) ?_
  refine rl rfl w0 rfl (ow_len tok rfl rfl rfl rfl rfl) ?_
  refine rp rfl w0 rfl (pu_gtr rfl rfl) ?_
  refine nx ?_
  refine aw_if h1 rfl (fun hc h1 => ?_) (fun hc h1 => ?_)
  refine aw_region_draw (is := [0, 1, 2, 3, 4, 5, 6, 7, 8]) [0, 1, 3, 0, 8, 24, 63, 127, 255] follows (by kernel_rfl) ?_
  refine rt_p rfl w0 rfl (pu_move (r := .own _ _ _) rfl) ?_
  obtain ⟨v11, hv11, h1⟩ := bnd h1
  refine rt_lk rfl w0 rfl (ow_ix tok hv11 rfl rfl rfl rfl rfl rfl rfl rfl) rfl rfl rfl ?_
  refine rt_lk rfl w0 rfl (rw_ld1 tok (atI_e hv11).2.1 rfl rfl rfl rfl rfl rfl) rfl rfl rfl ?_
  refine rt_p rfl w0 rfl (pu_move (r := .own _ _ _) rfl) ?_
  obtain ⟨v12, hv12, h1⟩ := bnd h1
  refine rt_lk rfl w0 rfl (ow_ix tok hv12 rfl rfl rfl rfl rfl rfl rfl rfl) rfl rfl rfl ?_
  refine rt_lk rfl w0 rfl (rw_ld1 tok (atI_e hv12).2.1 rfl rfl rfl rfl rfl rfl) rfl rfl rfl ?_
  refine rt_p rfl w0 rfl (pbl (C0 := [.d (.v (.int .i64 0)), .d (.v (.int .i64 0))]) tok rfl rfl rfl) ?_
  refine rt_lk rfl w0 rfl (bx_fa tok rfl rfl rfl rfl rfl rfl rfl) rfl rfl rfl ?_
  refine rt_wk rfl w0 (bx_st (cs := _ :: _) tok rfl rfl rfl rfl rfl rfl rfl) ?_
  refine rt_nil ?_
  refine ⟨by kernel_rfl, ?_⟩
  refine then_n ?_
  cases h1
  exact wk [0, 1, 2, 3, 4, 5, 6]
  refine sk ?_
  cases h1
  exact wk [0, 1, 2, 3, 4, 5, 6]
  obtain ⟨v24, h1, h0⟩ := bnd h0
  refine aw_cut ⟨updA (updA ((fun _ => .dead)) 2 (.ptr 3 0 1 0 0)) 8 (.ptr 4 0 1 0 0), lks [.no, .no, .no, .live [⟨44, 7, .av [[.d (.v (.int .i64 0)), .d (.v (.int .i64 0)), .d (.v (.int .i64 0)), .d (.v (.int .i64 0)), .d (.v (.int .i64 0)), .d (.v (.int .i64 0)), .d (.v (.string (⟨#[]⟩ : ByteArray)))]]⟩], .live [⟨44, 7, .av [[.d (.v (.int .i64 v24.Kind)), .d (.v (.int .i64 v24.A.X)), .d (.v (.int .i64 v24.A.Y)), .d (.v (.int .i64 v24.B.X)), .d (.v (.int .i64 v24.B.Y)), .d (.v (.int .i64 v24.R)), .d (.v (.string v24.Name))]]⟩]]⟩ ?_ ?_
  refine aw_block ?_
  obtain ⟨v15, h2, h1⟩ := bnd h1
  refine aw_cut ⟨updA (updA (updA (updA (updA ((fun _ => .dead)) 2 (.ptr 3 0 1 0 0)) 3 (.own 4 0 (v1).length)) 4 (.own 5 0 (v10).length)) 8 (.ptr 6 0 1 0 0)) 42 (.d (.v (.bool v15))), lks [.no, .no, .no, .live [⟨44, 7, .av [[.d (.v (.int .i64 0)), .d (.v (.int .i64 0)), .d (.v (.int .i64 0)), .d (.v (.int .i64 0)), .d (.v (.int .i64 0)), .d (.v (.int .i64 0)), .d (.v (.string (⟨#[]⟩ : ByteArray)))]]⟩], .live [⟨9, 1, .data (List.map cS v1)⟩], .live [⟨2, 1, .data (List.map cI v10)⟩], .live [⟨44, 7, .av [[.d (.v (.int .i64 v13.Kind)), .d (.v (.int .i64 v13.A.X)), .d (.v (.int .i64 v13.A.Y)), .d (.v (.int .i64 v13.B.X)), .d (.v (.int .i64 v13.B.Y)), .d (.v (.int .i64 v13.R)), .d (.v (.string v13.Name))]]⟩]]⟩ ?_ ?_
  refine sr [0,1,2,3,4,5,6,7,8,9] ?_
  refine rp rfl w0 rfl (pu_move (r := .own _ _ _) rfl) ?_
  obtain ⟨v14, hv14, h2⟩ := bnd h2
  refine rl rfl w0 rfl (ow_ix tok hv14 rfl rfl rfl rfl rfl rfl rfl rfl) ?_
  refine rl rfl w0 rfl (rw_ld1 tok (atI_e hv14).2.1 rfl rfl rfl rfl rfl rfl) ?_
  refine rp rfl w0 rfl (pu_seql rfl rfl) ?_
  refine pm ?_
  refine ra_if (u := 47) h2 rfl (fun hc h2 => ?_) (fun hc h2 => ?_)
  refine rp rfl (w1 rfl rfl rfl) rfl (pu_move (r := .own _ _ _) rfl) ?_
  refine rl rfl (w1 rfl rfl rfl) rfl (ow_len tok rfl rfl rfl rfl rfl) ?_
  refine rp rfl (w1 rfl rfl rfl) rfl (pu_eql rfl rfl) ?_
  refine pkt ?_
  refine pa ?_
  refine nx ?_
  cases h2
  exact wk [0, 1, 2, 3, 4, 5, 6]
  iterate 3 refine k1 ?_
  refine pkf ?_
  refine pa ?_
  refine nx ?_
  cases h2
  exact wk [0, 1, 2, 3, 4, 5, 6]
  refine aw_ifB h1 rfl (fun hc h1 => ?_) (fun hc h1 => ?_)
  refine sq [0,1] ?_
  refine fa tok ?_
  refine rw0 rfl w0 (bx_st (cs := [.d _]) tok rfl rfl rfl rfl rfl rfl rfl) ?_
  refine nx ?_
  refine aw_region_draw (is := [0, 1, 2, 3, 4, 5, 6, 7, 8]) [0, 1, 3, 0, 8, 24, 63, 127, 255] follows (by kernel_rfl) ?_
  refine rt_p rfl w0 rfl (pu_move (r := .own _ _ _) rfl) ?_
  obtain ⟨v16, hv16, h1⟩ := bnd h1
  refine rt_lk rfl w0 rfl (ow_ix tok hv16 rfl rfl rfl rfl rfl rfl rfl rfl) rfl rfl rfl ?_
  refine rt_lk rfl w0 rfl (rw_ld1 tok (atI_e hv16).2.1 rfl rfl rfl rfl rfl rfl) rfl rfl rfl ?_
  refine rt_p rfl w0 rfl (pu_move (r := .own _ _ _) rfl) ?_
  obtain ⟨v17, hv17, h1⟩ := bnd h1
  refine rt_lk rfl w0 rfl (ow_ix tok hv17 rfl rfl rfl rfl rfl rfl rfl rfl) rfl rfl rfl ?_
  refine rt_lk rfl w0 rfl (rw_ld1 tok (atI_e hv17).2.1 rfl rfl rfl rfl rfl rfl) rfl rfl rfl ?_
  refine rt_p rfl w0 rfl (pbl (C0 := [.d (.v (.int .i64 0)), .d (.v (.int .i64 0))]) tok rfl rfl rfl) ?_
  refine rt_lk rfl w0 rfl (bx_fa tok rfl rfl rfl rfl rfl rfl rfl) rfl rfl rfl ?_
  refine rt_wk rfl w0 (bx_st (cs := _ :: _) tok rfl rfl rfl rfl rfl rfl rfl) ?_
  refine rt_nil ?_
  refine ⟨by kernel_rfl, ?_⟩
  refine block_n ?_
  refine then_n ?_
  cases h1
  exact wk [0, 1, 2, 3, 6]
  obtain ⟨v19, h2, h1⟩ := bnd h1
  refine aw_cut ⟨updA (updA (updA (updA (updA ((fun _ => .dead)) 2 (.ptr 3 0 1 0 0)) 3 (.own 4 0 (v1).length)) 4 (.own 5 0 (v10).length)) 8 (.ptr 6 0 1 0 0)) 61 (.d (.v (.bool v19))), lks [.no, .no, .no, .live [⟨44, 7, .av [[.d (.v (.int .i64 0)), .d (.v (.int .i64 0)), .d (.v (.int .i64 0)), .d (.v (.int .i64 0)), .d (.v (.int .i64 0)), .d (.v (.int .i64 0)), .d (.v (.string (⟨#[]⟩ : ByteArray)))]]⟩], .live [⟨9, 1, .data (List.map cS v1)⟩], .live [⟨2, 1, .data (List.map cI v10)⟩], .live [⟨44, 7, .av [[.d (.v (.int .i64 v13.Kind)), .d (.v (.int .i64 v13.A.X)), .d (.v (.int .i64 v13.A.Y)), .d (.v (.int .i64 v13.B.X)), .d (.v (.int .i64 v13.B.Y)), .d (.v (.int .i64 v13.R)), .d (.v (.string v13.Name))]]⟩]]⟩ ?_ ?_
  refine sr [0,1,2,3,4,5,6,7,8,9] ?_
  refine rp rfl w0 rfl (pu_move (r := .own _ _ _) rfl) ?_
  obtain ⟨v18, hv18, h2⟩ := bnd h2
  refine rl rfl w0 rfl (ow_ix tok hv18 rfl rfl rfl rfl rfl rfl rfl rfl) ?_
  refine rl rfl w0 rfl (rw_ld1 tok (atI_e hv18).2.1 rfl rfl rfl rfl rfl rfl) ?_
  refine rp rfl w0 rfl (pu_seql rfl rfl) ?_
  refine pm ?_
  refine ra_if (u := 66) h2 rfl (fun hc h2 => ?_) (fun hc h2 => ?_)
  refine rp rfl (w1 rfl rfl rfl) rfl (pu_move (r := .own _ _ _) rfl) ?_
  refine rl rfl (w1 rfl rfl rfl) rfl (ow_len tok rfl rfl rfl rfl rfl) ?_
  refine rp rfl (w1 rfl rfl rfl) rfl (pu_eql rfl rfl) ?_
  refine pkt ?_
  refine pa ?_
  refine nx ?_
  cases h2
  exact wk [0, 1, 2, 3, 4, 5, 6]
  iterate 3 refine k1 ?_
  refine pkf ?_
  refine pa ?_
  refine nx ?_
  cases h2
  exact wk [0, 1, 2, 3, 4, 5, 6]
  refine aw_ifB h1 rfl (fun hc h1 => ?_) (fun hc h1 => ?_)
  refine sq [0,1] ?_
  refine fa tok ?_
  refine rw0 rfl w0 (bx_st (cs := [.d _]) tok rfl rfl rfl rfl rfl rfl rfl) ?_
  refine nx ?_
  refine sr [0,1,2,3,4] ?_
  refine rp rfl w0 rfl (pu_move (r := .own _ _ _) rfl) ?_
  obtain ⟨v20, hv20, h1⟩ := bnd h1
  refine rl rfl w0 rfl (ow_ix tok hv20 rfl rfl rfl rfl rfl rfl rfl rfl) ?_
  refine rl rfl w0 rfl (rw_ld1 tok (atI_e hv20).2.1 rfl rfl rfl rfl rfl rfl) ?_
  refine fa tok ?_
  refine rw0 rfl w0 (bx_st (cs := [.d _]) tok rfl rfl rfl rfl rfl rfl rfl) ?_
  refine ra_nil ?_
  refine block_n ?_
  refine then_n ?_
  cases h1
  exact wk [0, 1, 2, 3, 6]
  obtain ⟨v22, h2, h1⟩ := bnd h1
  refine aw_cut ⟨updA (updA (updA (updA ((fun _ => .dead)) 2 (.ptr 3 0 1 0 0)) 3 (.own 4 0 (v1).length)) 8 (.ptr 5 0 1 0 0)) 76 (.d (.v (.bool v22))), lks [.no, .no, .no, .live [⟨44, 7, .av [[.d (.v (.int .i64 0)), .d (.v (.int .i64 0)), .d (.v (.int .i64 0)), .d (.v (.int .i64 0)), .d (.v (.int .i64 0)), .d (.v (.int .i64 0)), .d (.v (.string (⟨#[]⟩ : ByteArray)))]]⟩], .live [⟨9, 1, .data (List.map cS v1)⟩], .live [⟨44, 7, .av [[.d (.v (.int .i64 v13.Kind)), .d (.v (.int .i64 v13.A.X)), .d (.v (.int .i64 v13.A.Y)), .d (.v (.int .i64 v13.B.X)), .d (.v (.int .i64 v13.B.Y)), .d (.v (.int .i64 v13.R)), .d (.v (.string v13.Name))]]⟩]]⟩ ?_ ?_
  refine sr [0,1,2,3,4,5,6,7,8,9] ?_
  refine rp rfl w0 rfl (pu_move (r := .own _ _ _) rfl) ?_
  obtain ⟨v21, hv21, h2⟩ := bnd h2
  refine rl rfl w0 rfl (ow_ix tok hv21 rfl rfl rfl rfl rfl rfl rfl rfl) ?_
  refine rl rfl w0 rfl (rw_ld1 tok (atI_e hv21).2.1 rfl rfl rfl rfl rfl rfl) ?_
  refine rp rfl w0 rfl (pu_seql rfl rfl) ?_
  refine pm ?_
  refine ra_if (u := 81) h2 rfl (fun hc h2 => ?_) (fun hc h2 => ?_)
  refine rp rfl (w1 rfl rfl rfl) rfl (pu_move (r := .own _ _ _) rfl) ?_
  refine rl rfl (w1 rfl rfl rfl) rfl (ow_len tok rfl rfl rfl rfl rfl) ?_
  refine rp rfl (w1 rfl rfl rfl) rfl (pu_eql rfl rfl) ?_
  refine pkt ?_
  refine pa ?_
  refine nx ?_
  cases h2
  exact wk [0, 1, 2, 3, 4, 6]
  iterate 3 refine k1 ?_
  refine pkf ?_
  refine pa ?_
  refine nx ?_
  cases h2
  exact wk [0, 1, 2, 3, 4, 6]
  refine aw_ifB h1 rfl (fun hc h1 => ?_) (fun hc h1 => ?_)
  refine sq [0,1] ?_
  refine fa tok ?_
  refine rw0 rfl w0 (bx_st (cs := [.d _]) tok rfl rfl rfl rfl rfl rfl rfl) ?_
  refine nx ?_
  refine sr [0,1,2,3,4] ?_
  refine rp rfl w0 rfl (pu_move (r := .own _ _ _) rfl) ?_
  obtain ⟨v23, hv23, h1⟩ := bnd h1
  refine rl rfl w0 rfl (ow_ix tok hv23 rfl rfl rfl rfl rfl rfl rfl rfl) ?_
  refine rl rfl w0 rfl (rw_ld1 tok (atI_e hv23).2.1 rfl rfl rfl rfl rfl rfl) ?_
  refine fa tok ?_
  refine rw0 rfl w0 (bx_st (cs := [.d _]) tok rfl rfl rfl rfl rfl rfl rfl) ?_
  refine ra_nil ?_
  refine block_n ?_
  refine then_n ?_
  cases h1
  exact wk [0, 1, 2, 3, 5]
  refine aw_skip ?_
  refine block_n ?_
  refine then_n ?_
  cases h1
  exact wk [0, 1, 2, 3, 5]
  refine sq [0,1] ?_
  refine rl rfl w0 rfl (bx_ldN tok rfl rfl rfl rfl) ?_
  refine rw0 rfl w0 (bx_st (cs := _ :: _) tok rfl rfl rfl rfl rfl rfl rfl) ?_
  refine nx ?_
  refine aw_ret ?_
  cases h0
  exact ret0_ (rs := [.cell 2 44]) rfl

theorem s_l00In_c {p0 : Int} {p1 : Int} {p2 : Int} {r : Bool} (h0 : s_l00In_m p0 p1 p2 = some r) : FnC Tryz.prog 72 [] [.d (.v (.int .i64 p0)), .d (.v (.int .i64 p1)), .d (.v (.int .i64 p2))] [] (.d (.v (.bool r))) := by
  refine fnc_intro (T := tt) (N := 15) tok Tryz.func72 rfl rfl (by kernel_rfl) rfl rfl ?_
  unfold s_l00In_m at h0
  refine sq [0] ?_
  refine pa ?_
  refine nx ?_
  refine sq [0,1,2,3,4,5,6,7,8] ?_
  refine pm ?_
  refine pm ?_
  refine rp rfl w0 rfl (pu_geq rfl rfl) ?_
  refine pm ?_
  refine ra_if (u := 10) h0 rfl (fun hc h0 => ?_) (fun hc h0 => ?_)
  refine pm1 ?_
  refine pm1 ?_
  refine rp rfl (w1 rfl rfl rfl) rfl (pu_leq rfl rfl) ?_
  refine pkt ?_
  refine pa ?_
  refine nx ?_
  refine aw_ret ?_
  cases h0
  exact ret0_ (rs := [.tmp 6]) rfl
  iterate 3 refine k1 ?_
  refine pkf ?_
  refine pa ?_
  refine nx ?_
  refine aw_ret ?_
  cases h0
  exact ret0_ (rs := [.tmp 6]) rfl

theorem s_l25Spot_c {p0 : Spot_} {r : Bool} (h0 : s_l25Spot_m p0 = some r) : FnC Tryz.prog 71 [] [.agg [.d (.v (.int .i64 p0.X)), .d (.v (.int .i64 p0.Y))]] [] (.d (.v (.bool r))) := by
  refine fnc_intro (T := tt) (N := 11) tok Tryz.func71 rfl rfl (by kernel_rfl) rfl rfl ?_
  unfold s_l25Spot_m at h0
  refine sq [0,1] ?_
  refine rs rfl w0 rfl (st_box 3 (cs := _ :: _) rfl rfl rfl) ?_
  refine pa ?_
  refine nx ?_
  refine sq [0,1,2,3,4,5,6,7,8] ?_
  refine fa tok ?_
  refine ld tok ?_
  obtain ⟨v1, hv1, h0⟩ := bnd h0
  refine rs rfl w0 rfl (c_call 4 (s_l00In_c hv1) rfl rfl rfl) ?_
  refine pm ?_
  refine ra_ifB (u := 6) h0 rfl (fun hc h0 => ?_) (fun hc h0 => ?_)
  refine fa1 tok ?_
  refine ld1 tok ?_
  obtain ⟨v2, hv2, h0⟩ := bnd h0
  refine rs rfl (w1 rfl rfl rfl) rfl (c_call 4 (s_l00In_c hv2) rfl rfl rfl) ?_
  refine pkt ?_
  refine pa ?_
  refine nx ?_
  refine aw_ret ?_
  cases h0
  exact ret0_ (rs := [.tmp 2]) rfl
  iterate 3 refine k1 ?_
  refine pkf ?_
  refine pa ?_
  refine nx ?_
  refine aw_ret ?_
  cases h0
  exact ret0_ (rs := [.tmp 2]) rfl

theorem s_l01Small_c {p0 : Int} {r : Bool} (h0 : s_l01Small_m p0 = some r) : FnC Tryz.prog 83 [] [.d (.v (.int .u8 p0))] [] (.d (.v (.bool r))) := by
  refine fnc_intro (T := tt) (N := 9) tok Tryz.func83 rfl rfl (by kernel_rfl) rfl rfl ?_
  unfold s_l01Small_m at h0
  refine sq [0] ?_
  refine pa ?_
  refine nx ?_
  refine sq [0,1,2,3,4,5,6] ?_
  refine pm ?_
  refine rp rfl w0 rfl (pu_geq rfl rfl) ?_
  refine pm ?_
  refine ra_if (u := 5) h0 rfl (fun hc h0 => ?_) (fun hc h0 => ?_)
  refine pm1 ?_
  refine rp rfl (w1 rfl rfl rfl) rfl (pu_leq rfl rfl) ?_
  refine pkt ?_
  refine pa ?_
  refine nx ?_
  refine aw_ret ?_
  cases h0
  exact ret0_ (rs := [.tmp 2]) rfl
  refine k1 ?_
  refine k1 ?_
  refine pkf ?_
  refine pa ?_
  refine nx ?_
  refine aw_ret ?_
  cases h0
  exact ret0_ (rs := [.tmp 2]) rfl

theorem s_IsName_c {p0 : ByteArray} {r : Bool} (h0 : s_IsName_m p0 = some r) : FnC Tryz.prog 73 [] [.d (.v (.string p0))] [] (.d (.v (.bool r))) := by
  refine fnc_intro (T := tt) (N := 41) tok Tryz.func73 rfl rfl (by kernel_rfl) rfl rfl ?_
  unfold s_IsName_m at h0
  refine sq [0] ?_
  refine pa ?_
  refine nx ?_
  refine aw_seq ?_
  obtain ⟨v3, h1, h0⟩ := bnd h0
  refine aw_cut ⟨updA (updA ((fun _ => .dead)) 0 (.d (.v (.string p0)))) 16 (.d (.v (.bool v3))), lks [.no, .no, .no]⟩ ?_ ?_
  refine sr [0,1,2,3,4,5,6,7,8,9,10,11,12] ?_
  refine pm ?_
  refine rp rfl w0 rfl (pu_seql rfl rfl) ?_
  refine pm ?_
  refine ra_if (u := 6) h1 rfl (fun hc h1 => ?_) (fun hc h1 => ?_)
  iterate 3 refine k1 ?_
  refine pkt ?_
  refine pm ?_
  iterate 4 refine k1 ?_
  refine pkt ?_
  refine nx ?_
  cases h1
  exact wk [0, 1, 2]
  refine pm1 ?_
  refine rp rfl (w1 rfl rfl rfl) rfl (pu_len_str tok rfl rfl rfl) ?_
  refine rp rfl (w1 rfl rfl rfl) rfl (pu_gtr rfl rfl) ?_
  refine pkf ?_
  refine pm ?_
  refine ra_if (u := 11) h1 rfl (fun hc h1 => ?_) (fun hc h1 => ?_)
  iterate 4 refine k1 ?_
  refine pkt ?_
  refine nx ?_
  cases h1
  exact wk [0, 1, 2]
  refine pm1 ?_
  obtain ⟨v1, hv1, h1⟩ := bnd h1
  refine rp rfl (w1 rfl rfl rfl) rfl (pu_sidx tok hv1 rfl rfl rfl rfl) ?_
  obtain ⟨v2, hv2, h1⟩ := bnd h1
  refine rs rfl (w1 rfl rfl rfl) rfl (c_call 3 (s_l01Small_c hv2) rfl rfl rfl) ?_
  refine rp rfl (w1 rfl rfl rfl) rfl (pu_not rfl) ?_
  refine pkf ?_
  refine nx ?_
  cases h1
  exact wk [0, 1, 2]
  refine aw_ifB h0 rfl (fun hc h0 => ?_) (fun hc h0 => ?_)
  refine sq [0] ?_
  refine pa ?_
  refine nx ?_
  refine aw_ret ?_
  refine then_r ?_
  cases h0
  exact ret0_ (rs := [.tmp 2]) rfl
  refine sk ?_
  obtain ⟨v18x, h1, h0⟩ := bnd h0
  refine aw_cutE v18x (fun v18 => ⟨(fun _ => .dead), lks [.no, .no, .no]⟩) ?_ ?_
  refine sq [0] ?_
  refine pa ?_
  refine nx ?_
  refine aw_block ?_
  refine aw_loopM (fun s11 => ⟨updA (updA ((fun _ => .dead)) 0 (.d (.v (.string p0)))) 3 (.d (.v (.int .i64 s11))), lks [.no, .no, .no]⟩) h1 ?_ (fun s11 y h2 => ?_)
  exact wk [0, 1, 2]
  refine aw_seq ?_
  refine sq [0,1,2,3] ?_
  refine pm ?_
  refine pm ?_
  refine rp rfl w0 rfl (pu_len_str tok rfl rfl rfl) ?_
  refine rp rfl w0 rfl (pu_lss rfl rfl) ?_
  refine nx ?_
  refine aw_if h2 rfl (fun hc h2 => ?_) (fun hc h2 => ?_)
  refine sk ?_
  refine aw_seq ?_
  refine aw_block ?_
  obtain ⟨v17, h3, h2⟩ := bnd h2
  refine aw_cut ⟨updA (updA (updA ((fun _ => .dead)) 0 (.d (.v (.string p0)))) 3 (.d (.v (.int .i64 s11)))) 40 (.d (.v (.bool v17))), lks [.no, .no, .no]⟩ ?_ ?_
  refine sr [0,1,2,3,4,5,6,7,8,9,10,11,12,13,14,15,16,17] ?_
  refine pm ?_
  refine pm ?_
  obtain ⟨v12, hv12, h3⟩ := bnd h3
  refine rp rfl w0 rfl (pu_sidx tok hv12 rfl rfl rfl rfl) ?_
  obtain ⟨v13, hv13, h3⟩ := bnd h3
  refine rs rfl w0 rfl (c_call 3 (s_l01Small_c hv13) rfl rfl rfl) ?_
  refine rp rfl w0 rfl (pu_not rfl) ?_
  refine pm ?_
  refine ra_ifB (u := 28) h3 rfl (fun hc h3 => ?_) (fun hc h3 => ?_)
  refine pm1 ?_
  refine pm1 ?_
  obtain ⟨v14, hv14, h3⟩ := bnd h3
  refine rp rfl (w1 rfl rfl rfl) rfl (pu_sidx tok hv14 rfl rfl rfl rfl) ?_
  obtain ⟨v15, hv15, h3⟩ := bnd h3
  refine rs rfl (w1 rfl rfl rfl) rfl (c_call 3 (s_l01Digit_c hv15) rfl rfl rfl) ?_
  refine rp rfl (w1 rfl rfl rfl) rfl (pu_not rfl) ?_
  refine pkt ?_
  refine pm ?_
  refine ra_ifB (u := 35) h3 rfl (fun hc h3 => ?_) (fun hc h3 => ?_)
  refine pm1 ?_
  refine pm1 ?_
  obtain ⟨v16, hv16, h3⟩ := bnd h3
  refine rp rfl (w1 rfl rfl rfl) rfl (pu_sidx tok hv16 rfl rfl rfl rfl) ?_
  refine rp rfl (w1 rfl rfl rfl) rfl (pu_neq rfl rfl) ?_
  refine pkt ?_
  refine nx ?_
  cases h3
  exact wk [0, 1, 2]
  iterate 4 refine k1 ?_
  refine pkf ?_
  refine nx ?_
  cases h3
  exact wk [0, 1, 2]
  iterate 5 refine k1 ?_
  refine pkf ?_
  refine pm ?_
  iterate 4 refine k1 ?_
  refine pkf ?_
  refine nx ?_
  cases h3
  exact wk [0, 1, 2]
  refine aw_ifB h2 rfl (fun hc h2 => ?_) (fun hc h2 => ?_)
  refine sq [0] ?_
  refine pa ?_
  refine nx ?_
  refine aw_ret ?_
  refine block_r ?_
  refine then_r ?_
  cases h2
  refine loop_r ⟨_, rfl, fun e => ?_⟩
  subst e
  refine block_r ?_
  replace h0 := orE_s h0
  refine then_r ?_
  cases h0
  exact ret0_ (rs := [.tmp 2]) rfl
  refine aw_skip ?_
  refine block_n ?_
  refine then_n ?_
  refine sr [0,1,2] ?_
  refine pm ?_
  refine rp rfl w0 rfl (pw_add rfl rfl) ?_
  refine pa ?_
  refine ra_nil ?_
  refine loop_n ?_
  cases h2
  refine ⟨_, rfl, ?_⟩
  exact wk [0, 1, 2]
  refine aw_exit ?_
  refine then_e ?_
  cases h2
  refine loop_x ⟨_, rfl, fun e => ?_⟩
  subst e
  refine block_hit ?_
  refine then_n ?_
  refine ⟨_, rfl, ?_⟩
  exact wk [0, 1, 2]
  rintro v18 rfl
  replace h0 := orE_f h0
  refine sq [0] ?_
  refine pa ?_
  refine nx ?_
  refine aw_ret ?_
  cases h0
  exact ret0_ (rs := [.tmp 2]) rfl

theorem s_l25Shape_c {p0 : Shape_} {r : Bool} (h0 : s_l25Shape_m p0 = some r) : FnC Tryz.prog 46 [] [.agg [.d (.v (.int .i64 p0.Kind)), .d (.v (.int .i64 p0.A.X)), .d (.v (.int .i64 p0.A.Y)), .d (.v (.int .i64 p0.B.X)), .d (.v (.int .i64 p0.B.Y)), .d (.v (.int .i64 p0.R)), .d (.v (.string p0.Name))]] [] (.d (.v (.bool r))) := by
  refine fnc_intro (T := tt) (N := 58) tok Tryz.func46 rfl rfl (by kernel_rfl) rfl rfl ?_
  unfold s_l25Shape_m at h0
  refine sq [0,1] ?_
  refine rs rfl w0 rfl (st_box 3 (cs := _ :: _) rfl rfl rfl) ?_
  refine pa ?_
  refine nx ?_
  refine aw_seq ?_
  refine sq [0,1,2,3] ?_
  refine fa tok ?_
  refine rl rfl w0 rfl (bx_ldN tok rfl rfl rfl rfl) ?_
  obtain ⟨v1, hv1, h0⟩ := bnd h0
  refine rs rfl w0 rfl (c_call 4 (s_l25Spot_c hv1) rfl rfl rfl) ?_
  refine rp rfl w0 rfl (pu_not rfl) ?_
  refine nx ?_
  refine aw_ifB h0 rfl (fun hc h0 => ?_) (fun hc h0 => ?_)
  refine sq [0] ?_
  refine pa ?_
  refine nx ?_
  refine aw_ret ?_
  refine then_r ?_
  cases h0
  exact ret0_ (rs := [.tmp 2]) rfl
  refine sk ?_
  refine sq [0,1,2] ?_
  refine rp rfl w0 rfl (pbl (C0 := [.d (.v (.int .i64 0)), .d (.v (.int .i64 0))]) tok rfl rfl rfl) ?_
  refine rs rfl w0 rfl (st_alloc 4 (cs := [.d (.v (.int .i64 0)), .d (.v (.int .i64 0))]) tok rfl rfl rfl) ?_
  refine rw0 rfl w0 (bx_st (cs := _ :: _) tok rfl rfl rfl rfl rfl rfl rfl) ?_
  refine nx ?_
  refine aw_seq ?_
  refine sq [0,1] ?_
  refine fa tok ?_
  refine ld tok ?_
  refine nx ?_
  refine aw_block ?_
  refine sq [0,1] ?_
  refine rp rfl w0 rfl (pu_eql rfl rfl) ?_
  refine pa ?_
  refine nx ?_
  refine aw_if h0 rfl (fun hc h0 => ?_) (fun hc h0 => ?_)
  refine sq [0,1,2,3,4,5,6,7,8,9,10,11,12,13] ?_
  refine fa tok ?_
  refine rl rfl w0 rfl (bx_ldN tok rfl rfl rfl rfl) ?_
  obtain ⟨v2, hv2, h0⟩ := bnd h0
  refine rs rfl w0 rfl (c_call 5 (s_l25Spot_c hv2) rfl rfl rfl) ?_
  refine pm ?_
  refine ra_ifB (u := 16) h0 rfl (fun hc h0 => ?_) (fun hc h0 => ?_)
  refine fa1 tok ?_
  refine ld1 tok ?_
  refine rp rfl (w1 rfl rfl rfl) rfl (pu_eql rfl rfl) ?_
  refine pkt ?_
  refine pm ?_
  refine ra_if (u := 21) h0 rfl (fun hc h0 => ?_) (fun hc h0 => ?_)
  refine fa1 tok ?_
  refine ld1 tok ?_
  refine rp rfl (w1 rfl rfl rfl) rfl (pu_seql rfl rfl) ?_
  refine pkt ?_
  refine pa ?_
  refine nx ?_
  refine aw_ret ?_
  refine block_r ?_
  refine then_r ?_
  cases h0
  exact ret0_ (rs := [.tmp 2]) rfl
  iterate 3 refine k1 ?_
  refine pkf ?_
  refine pa ?_
  refine nx ?_
  refine aw_ret ?_
  refine block_r ?_
  refine then_r ?_
  cases h0
  exact ret0_ (rs := [.tmp 2]) rfl
  iterate 3 refine k1 ?_
  refine pkf ?_
  refine pm ?_
  iterate 3 refine k1 ?_
  refine pkf ?_
  refine pa ?_
  refine nx ?_
  refine aw_ret ?_
  refine block_r ?_
  refine then_r ?_
  cases h0
  exact ret0_ (rs := [.tmp 2]) rfl
  refine sq [0,1] ?_
  refine rp rfl w0 rfl (pu_eql rfl rfl) ?_
  refine pa ?_
  refine nx ?_
  refine aw_if h0 rfl (fun hc h0 => ?_) (fun hc h0 => ?_)
  refine sq [0,1,2,3,4,5,6,7,8,9,10,11,12,13,14] ?_
  refine fa tok ?_
  refine rl rfl w0 rfl (bx_ldN tok rfl rfl rfl rfl) ?_
  refine rl rfl w0 rfl (bx_ldN tok rfl rfl rfl rfl) ?_
  refine rp rfl w0 rfl (ps_eql_Spot_ (a := p0.B) (b := (⟨0, 0⟩ : Spot_)) rfl rfl) ?_
  refine pm ?_
  refine ra_if (u := 32) h0 rfl (fun hc h0 => ?_) (fun hc h0 => ?_)
  refine fa1 tok ?_
  refine ld1 tok ?_
  obtain ⟨v3, hv3, h0⟩ := bnd h0
  refine rs rfl (w1 rfl rfl rfl) rfl (c_call 5 (s_l00In_c hv3) rfl rfl rfl) ?_
  refine pkt ?_
  refine pm ?_
  refine ra_ifB (u := 37) h0 rfl (fun hc h0 => ?_) (fun hc h0 => ?_)
  refine fa1 tok ?_
  refine ld1 tok ?_
  refine rp rfl (w1 rfl rfl rfl) rfl (pu_seql rfl rfl) ?_
  refine pkt ?_
  refine pa ?_
  refine nx ?_
  refine aw_ret ?_
  refine block_r ?_
  refine then_r ?_
  cases h0
  exact ret0_ (rs := [.tmp 2]) rfl
  iterate 3 refine k1 ?_
  refine pkf ?_
  refine pa ?_
  refine nx ?_
  refine aw_ret ?_
  refine block_r ?_
  refine then_r ?_
  cases h0
  exact ret0_ (rs := [.tmp 2]) rfl
  iterate 3 refine k1 ?_
  refine pkf ?_
  refine pm ?_
  iterate 3 refine k1 ?_
  refine pkf ?_
  refine pa ?_
  refine nx ?_
  refine aw_ret ?_
  refine block_r ?_
  refine then_r ?_
  cases h0
  exact ret0_ (rs := [.tmp 2]) rfl
  refine sq [0,1] ?_
  refine rp rfl w0 rfl (pu_eql rfl rfl) ?_
  refine pa ?_
  refine nx ?_
  refine aw_if h0 rfl (fun hc h0 => ?_) (fun hc h0 => ?_)
  refine sq [0,1,2,3,4,5,6,7,8,9,10,11,12,13,14] ?_
  refine fa tok ?_
  refine rl rfl w0 rfl (bx_ldN tok rfl rfl rfl rfl) ?_
  refine rl rfl w0 rfl (bx_ldN tok rfl rfl rfl rfl) ?_
  refine rp rfl w0 rfl (ps_eql_Spot_ (a := p0.B) (b := (⟨0, 0⟩ : Spot_)) rfl rfl) ?_
  refine pm ?_
  refine ra_if (u := 48) h0 rfl (fun hc h0 => ?_) (fun hc h0 => ?_)
  refine fa1 tok ?_
  refine ld1 tok ?_
  refine rp rfl (w1 rfl rfl rfl) rfl (pu_eql rfl rfl) ?_
  refine pkt ?_
  refine pm ?_
  refine ra_if (u := 53) h0 rfl (fun hc h0 => ?_) (fun hc h0 => ?_)
  refine fa1 tok ?_
  refine ld1 tok ?_
  obtain ⟨v4, hv4, h0⟩ := bnd h0
  refine rs rfl (w1 rfl rfl rfl) rfl (c_call 5 (s_IsName_c hv4) rfl rfl rfl) ?_
  refine pkt ?_
  refine pa ?_
  refine nx ?_
  refine aw_ret ?_
  refine block_r ?_
  refine then_r ?_
  cases h0
  exact ret0_ (rs := [.tmp 2]) rfl
  iterate 3 refine k1 ?_
  refine pkf ?_
  refine pa ?_
  refine nx ?_
  refine aw_ret ?_
  refine block_r ?_
  refine then_r ?_
  cases h0
  exact ret0_ (rs := [.tmp 2]) rfl
  iterate 3 refine k1 ?_
  refine pkf ?_
  refine pm ?_
  iterate 3 refine k1 ?_
  refine pkf ?_
  refine pa ?_
  refine nx ?_
  refine aw_ret ?_
  refine block_r ?_
  refine then_r ?_
  cases h0
  exact ret0_ (rs := [.tmp 2]) rfl
  refine aw_skip ?_
  refine block_n ?_
  refine then_n ?_
  refine sq [0] ?_
  refine pa ?_
  refine nx ?_
  refine aw_ret ?_
  cases h0
  exact ret0_ (rs := [.tmp 2]) rfl

theorem s_l25Ok_c {p0 : Drawing_} {r : Bool} (h0 : s_l25Ok_m p0 = some r) : FnC Tryz.prog 24 [] [.agg [.d (.sl (List.map cShape_ p0.Shapes))]] [] (.d (.v (.bool r))) := by
  refine fnc_intro (T := tt) (N := 22) tok Tryz.func24 rfl rfl (by kernel_rfl) rfl rfl ?_
  unfold s_l25Ok_m at h0
  refine sq [0,1] ?_
  refine rs rfl w0 rfl (st_box 3 (cs := _ :: _) rfl rfl rfl) ?_
  refine pa ?_
  refine nx ?_
  obtain ⟨v7x, h1, h0⟩ := bnd h0
  refine aw_cutE v7x (fun v7 => ⟨updA ((fun _ => .dead)) 1 (.ptr 3 0 1 0 0), lks [.no, .no, .no, .live [⟨24, 1, .av [[.d (.sl (List.map cShape_ p0.Shapes))]]⟩]]⟩) ?_ ?_
  refine sq [0] ?_
  refine pa ?_
  refine nx ?_
  refine aw_block ?_
  refine aw_loopM (fun s4 => ⟨updA (updA ((fun _ => .dead)) 1 (.ptr 3 0 1 0 0)) 3 (.d (.v (.int .i64 s4))), lks [.no, .no, .no, .live [⟨24, 1, .av [[.d (.sl (List.map cShape_ p0.Shapes))]]⟩]]⟩) h1 ?_ (fun s4 y h2 => ?_)
  exact wk [0, 1, 2, 3]
  refine aw_seq ?_
  refine sq [0,1,2,3,4] ?_
  refine pm ?_
  refine fa tok ?_
  refine ld tok ?_
  refine rp rfl w0 rfl (pu_len_map tok rfl rfl rfl) ?_
  refine rp rfl w0 rfl (pu_lss rfl rfl) ?_
  refine nx ?_
  refine aw_if h2 rfl (fun hc h2 => ?_) (fun hc h2 => ?_)
  refine sk ?_
  refine aw_seq ?_
  refine aw_block ?_
  refine sq [0,1,2,3,4,5,6] ?_
  refine fa tok ?_
  refine ld tok ?_
  refine pm ?_
  obtain ⟨v5, hv5, h2⟩ := bnd h2
  refine rp rfl w0 rfl (sl_ix tok hv5 rfl rfl rfl rfl rfl rfl) ?_
  refine rp rfl w0 rfl (pu_load_refN tok rfl rfl rfl (by repeat (first | exact SegD.z _ | apply SegD.t))) ?_
  obtain ⟨v6, hv6, h2⟩ := bnd h2
  refine rs rfl w0 rfl (c_call 4 (s_l25Shape_c hv6) rfl rfl rfl) ?_
  refine rp rfl w0 rfl (pu_not rfl) ?_
  refine nx ?_
  refine aw_ifB h2 rfl (fun hc h2 => ?_) (fun hc h2 => ?_)
  refine sq [0] ?_
  refine pa ?_
  refine nx ?_
  refine aw_ret ?_
  refine block_r ?_
  refine then_r ?_
  cases h2
  refine loop_r ⟨_, rfl, fun e => ?_⟩
  subst e
  refine block_r ?_
  replace h0 := orE_s h0
  refine then_r ?_
  cases h0
  exact ret0_ (rs := [.tmp 2]) rfl
  refine aw_skip ?_
  refine block_n ?_
  refine then_n ?_
  refine sr [0,1,2] ?_
  refine pm ?_
  refine rp rfl w0 rfl (pw_add rfl rfl) ?_
  refine pa ?_
  refine ra_nil ?_
  refine loop_n ?_
  cases h2
  refine ⟨_, rfl, ?_⟩
  exact wk [0, 1, 2, 3]
  refine aw_exit ?_
  refine then_e ?_
  cases h2
  refine loop_x ⟨_, rfl, fun e => ?_⟩
  subst e
  refine block_hit ?_
  refine then_n ?_
  refine ⟨_, rfl, ?_⟩
  exact wk [0, 1, 2, 3]
  rintro v7 rfl
  replace h0 := orE_f h0
  refine sq [0,1,2,3,4] ?_
  refine fa tok ?_
  refine ld tok ?_
  refine rp rfl w0 rfl (pu_len_map tok rfl rfl rfl) ?_
  refine rp rfl w0 rfl (pu_leq rfl rfl) ?_
  refine pa ?_
  refine nx ?_
  refine aw_ret ?_
  cases h0
  exact ret0_ (rs := [.tmp 2]) rfl

theorem s_l25At_c {p0 : Spot_} {r : ByteArray} (h0 : s_l25At_m p0 = some r) : FnC Tryz.prog 74 [] [.agg [.d (.v (.int .i64 p0.X)), .d (.v (.int .i64 p0.Y))]] [] (.d (.v (.string r))) := by
  refine fnc_intro (T := tt) (N := 12) tok Tryz.func74 rfl rfl (by kernel_rfl) rfl rfl ?_
  unfold s_l25At_m at h0
  refine sq [0,1] ?_
  refine rs rfl w0 rfl (st_box 3 (cs := _ :: _) rfl rfl rfl) ?_
  refine pa ?_
  refine nx ?_
  refine aw_seq ?_
  refine aw_region_draw (is := [0, 1, 5, 6, 2, 3, 4, 7, 8, 9]) [0, 1, 3, 7, 15, 0, 32, 103, 255, 511] follows (by kernel_rfl) ?_
  refine rt_lk rfl w0 rfl (bx_fa tok rfl rfl rfl rfl rfl rfl rfl) rfl rfl rfl ?_
  refine rt_lk rfl w0 rfl (bx_ld1 tok rfl rfl rfl rfl rfl) rfl rfl rfl ?_
  refine rt_lk rfl w0 rfl (bx_fa tok rfl rfl rfl rfl rfl rfl rfl) rfl rfl rfl ?_
  refine rt_lk rfl w0 rfl (bx_ld1 tok rfl rfl rfl rfl rfl) rfl rfl rfl ?_
  obtain ⟨v1, hv1, h0⟩ := bnd h0
  refine rt_c rfl w0 rfl (b_call 4 (s_l01Dec_c hv1) rfl rfl rfl) ?_
  obtain ⟨hq2, h0⟩ := chk_e h0
  refine rt_p rfl w0 rfl (pu_cat rfl rfl hq2) ?_
  obtain ⟨hq3, h0⟩ := chk_e h0
  refine rt_p rfl w0 rfl (pu_cat rfl rfl hq3) ?_
  obtain ⟨v4, hv4, h0⟩ := bnd h0
  refine rt_c rfl w0 rfl (b_call 4 (s_l01Dec_c hv4) rfl rfl rfl) ?_
  obtain ⟨hq5, h0⟩ := chk_e h0
  refine rt_p rfl w0 rfl (pu_cat rfl rfl hq5) ?_
  refine tpa ?_
  refine rt_nil ?_
  refine ⟨by kernel_rfl, ?_⟩
  refine then_n ?_
  refine aw_ret ?_
  cases h0
  exact ret0_ (rs := [.tmp 2]) rfl

theorem s_l25Line_c {p0 : Shape_} {r : ByteArray} (h0 : s_l25Line_m p0 = some r) : FnC Tryz.prog 47 [] [.agg [.d (.v (.int .i64 p0.Kind)), .d (.v (.int .i64 p0.A.X)), .d (.v (.int .i64 p0.A.Y)), .d (.v (.int .i64 p0.B.X)), .d (.v (.int .i64 p0.B.Y)), .d (.v (.int .i64 p0.R)), .d (.v (.string p0.Name))]] [] (.d (.v (.string r))) := by
  refine fnc_intro (T := tt) (N := 34) tok Tryz.func47 rfl rfl (by kernel_rfl) rfl rfl ?_
  unfold s_l25Line_m at h0
  refine sq [0,1] ?_
  refine rs rfl w0 rfl (st_box 3 (cs := _ :: _) rfl rfl rfl) ?_
  refine pa ?_
  refine nx ?_
  refine aw_seq ?_
  refine sq [0,1] ?_
  refine fa tok ?_
  refine ld tok ?_
  refine nx ?_
  refine aw_block ?_
  refine sq [0,1] ?_
  refine rp rfl w0 rfl (pu_eql rfl rfl) ?_
  refine pa ?_
  refine nx ?_
  refine aw_if h0 rfl (fun hc h0 => ?_) (fun hc h0 => ?_)
  refine aw_seq ?_
  refine aw_region_draw (is := [0, 1, 4, 5, 2, 3, 6, 7, 8]) [0, 1, 3, 7, 0, 16, 55, 127, 255] follows (by kernel_rfl) ?_
  refine rt_lk rfl w0 rfl (bx_fa tok rfl rfl rfl rfl rfl rfl rfl) rfl rfl rfl ?_
  refine rt_lk rfl w0 rfl (bx_ldN tok rfl rfl rfl rfl) rfl rfl rfl ?_
  refine rt_lk rfl w0 rfl (bx_fa tok rfl rfl rfl rfl rfl rfl rfl) rfl rfl rfl ?_
  refine rt_lk rfl w0 rfl (bx_ldN tok rfl rfl rfl rfl) rfl rfl rfl ?_
  obtain ⟨v1, hv1, h0⟩ := bnd h0
  refine rt_c rfl w0 rfl (b_call 4 (s_l25At_c hv1) rfl rfl rfl) ?_
  obtain ⟨hq2, h0⟩ := chk_e h0
  refine rt_p rfl w0 rfl (pu_cat rfl rfl hq2) ?_
  obtain ⟨v3, hv3, h0⟩ := bnd h0
  refine rt_c rfl w0 rfl (b_call 4 (s_l25At_c hv3) rfl rfl rfl) ?_
  obtain ⟨hq4, h0⟩ := chk_e h0
  refine rt_p rfl w0 rfl (pu_cat rfl rfl hq4) ?_
  refine tpa ?_
  refine rt_nil ?_
  refine ⟨by kernel_rfl, ?_⟩
  refine then_n ?_
  refine aw_ret ?_
  refine block_r ?_
  refine then_r ?_
  cases h0
  exact ret0_ (rs := [.tmp 2]) rfl
  refine sq [0,1] ?_
  refine rp rfl w0 rfl (pu_eql rfl rfl) ?_
  refine pa ?_
  refine nx ?_
  refine aw_if h0 rfl (fun hc h0 => ?_) (fun hc h0 => ?_)
  refine aw_seq ?_
  refine aw_region_draw (is := [0, 1, 5, 6, 2, 3, 4, 7, 8, 9]) [0, 1, 3, 7, 15, 0, 32, 103, 255, 511] follows (by kernel_rfl) ?_
  refine rt_lk rfl w0 rfl (bx_fa tok rfl rfl rfl rfl rfl rfl rfl) rfl rfl rfl ?_
  refine rt_lk rfl w0 rfl (bx_ldN tok rfl rfl rfl rfl) rfl rfl rfl ?_
  refine rt_lk rfl w0 rfl (bx_fa tok rfl rfl rfl rfl rfl rfl rfl) rfl rfl rfl ?_
  refine rt_lk rfl w0 rfl (bx_ld1 tok rfl rfl rfl rfl rfl) rfl rfl rfl ?_
  obtain ⟨v5, hv5, h0⟩ := bnd h0
  refine rt_c rfl w0 rfl (b_call 4 (s_l25At_c hv5) rfl rfl rfl) ?_
  obtain ⟨hq6, h0⟩ := chk_e h0
  refine rt_p rfl w0 rfl (pu_cat rfl rfl hq6) ?_
  obtain ⟨hq7, h0⟩ := chk_e h0
  refine rt_p rfl w0 rfl (pu_cat rfl rfl hq7) ?_
  obtain ⟨v8, hv8, h0⟩ := bnd h0
  refine rt_c rfl w0 rfl (b_call 4 (s_l01Dec_c hv8) rfl rfl rfl) ?_
  obtain ⟨hq9, h0⟩ := chk_e h0
  refine rt_p rfl w0 rfl (pu_cat rfl rfl hq9) ?_
  refine tpa ?_
  refine rt_nil ?_
  refine ⟨by kernel_rfl, ?_⟩
  refine then_n ?_
  refine aw_ret ?_
  refine block_r ?_
  refine then_r ?_
  cases h0
  exact ret0_ (rs := [.tmp 2]) rfl
  refine aw_skip ?_
  refine block_n ?_
  refine then_n ?_
  refine aw_seq ?_
  refine aw_region_draw (is := [0, 1, 5, 6, 2, 3, 4, 7, 8]) [0, 1, 3, 7, 15, 0, 32, 127, 255] follows (by kernel_rfl) ?_
  refine rt_lk rfl w0 rfl (bx_fa tok rfl rfl rfl rfl rfl rfl rfl) rfl rfl rfl ?_
  refine rt_lk rfl w0 rfl (bx_ldN tok rfl rfl rfl rfl) rfl rfl rfl ?_
  refine rt_lk rfl w0 rfl (bx_fa tok rfl rfl rfl rfl rfl rfl rfl) rfl rfl rfl ?_
  refine rt_lk rfl w0 rfl (bx_ld1 tok rfl rfl rfl rfl rfl) rfl rfl rfl ?_
  obtain ⟨v10, hv10, h0⟩ := bnd h0
  refine rt_c rfl w0 rfl (b_call 4 (s_l25At_c hv10) rfl rfl rfl) ?_
  obtain ⟨hq11, h0⟩ := chk_e h0
  refine rt_p rfl w0 rfl (pu_cat rfl rfl hq11) ?_
  obtain ⟨hq12, h0⟩ := chk_e h0
  refine rt_p rfl w0 rfl (pu_cat rfl rfl hq12) ?_
  obtain ⟨hq13, h0⟩ := chk_e h0
  refine rt_p rfl w0 rfl (pu_cat rfl rfl hq13) ?_
  refine tpa ?_
  refine rt_nil ?_
  refine ⟨by kernel_rfl, ?_⟩
  refine then_n ?_
  refine aw_ret ?_
  cases h0
  exact ret0_ (rs := [.tmp 2]) rfl

theorem s_l25Text_c {p0 : Drawing_} {r : ByteArray} (h0 : s_l25Text_m p0 = some r) : FnC Tryz.prog 25 [] [.agg [.d (.sl (List.map cShape_ p0.Shapes))]] [] (.d (.v (.string r))) := by
  refine fnc_intro (T := tt) (N := 22) tok Tryz.func25 rfl rfl (by kernel_rfl) rfl rfl ?_
  unfold s_l25Text_m at h0
  refine sq [0,1] ?_
  refine rs rfl w0 rfl (st_box 3 (cs := _ :: _) rfl rfl rfl) ?_
  refine pa ?_
  refine nx ?_
  refine sq [0] ?_
  refine pa ?_
  refine nx ?_
  obtain ⟨v11, h1, h0⟩ := bnd h0
  refine aw_cut ⟨updA ((fun _ => .dead)) 3 (.d (.v (.string v11))), lks [.no, .no, .no]⟩ ?_ ?_
  refine sq [0] ?_
  refine pa ?_
  refine nx ?_
  refine aw_block ?_
  refine aw_loopM (fun s6 => ⟨updA (updA (updA ((fun _ => .dead)) 1 (.ptr 3 0 1 0 0)) 3 (.d (.v (.string s6.1)))) 4 (.d (.v (.int .i64 s6.2))), lks [.no, .no, .no, .live [⟨24, 1, .av [[.d (.sl (List.map cShape_ p0.Shapes))]]⟩]]⟩) h1 ?_ (fun s6 y h2 => ?_)
  exact wk [0, 1, 2, 3]
  refine aw_seq ?_
  refine sq [0,1,2,3,4] ?_
  refine pm ?_
  refine fa tok ?_
  refine ld tok ?_
  refine rp rfl w0 rfl (pu_len_map tok rfl rfl rfl) ?_
  refine rp rfl w0 rfl (pu_lss rfl rfl) ?_
  refine nx ?_
  refine aw_if h2 rfl (fun hc h2 => ?_) (fun hc h2 => ?_)
  refine sk ?_
  refine aw_seq ?_
  refine aw_block ?_
  refine sr [0,1,2,3,4,5,6,7,8,9] ?_
  refine pm ?_
  refine fa tok ?_
  refine ld tok ?_
  refine pm ?_
  obtain ⟨v7, hv7, h2⟩ := bnd h2
  refine rp rfl w0 rfl (sl_ix tok hv7 rfl rfl rfl rfl rfl rfl) ?_
  refine rp rfl w0 rfl (pu_load_refN tok rfl rfl rfl (by repeat (first | exact SegD.z _ | apply SegD.t))) ?_
  obtain ⟨v8, hv8, h2⟩ := bnd h2
  refine rs rfl w0 rfl (c_call 4 (s_l25Line_c hv8) rfl rfl rfl) ?_
  obtain ⟨hq9, h2⟩ := chk_e h2
  refine rp rfl w0 rfl (pu_cat rfl rfl hq9) ?_
  obtain ⟨hq10, h2⟩ := chk_e h2
  refine rp rfl w0 rfl (pu_cat rfl rfl hq10) ?_
  refine pa ?_
  refine ra_nil ?_
  refine block_n ?_
  refine then_n ?_
  refine sr [0,1,2] ?_
  refine pm ?_
  refine rp rfl w0 rfl (pw_add rfl rfl) ?_
  refine pa ?_
  refine ra_nil ?_
  refine loop_n ?_
  cases h2
  refine ⟨_, rfl, ?_⟩
  exact wk [0, 1, 2, 3]
  refine aw_exit ?_
  refine then_e ?_
  cases h2
  refine loop_x ⟨_, rfl, fun e => ?_⟩
  subst e
  refine block_hit ?_
  refine then_n ?_
  exact wk [0, 1, 2]
  refine sq [0,1] ?_
  refine pm ?_
  refine pa ?_
  refine nx ?_
  refine aw_ret ?_
  cases h0
  exact ret0_ (rs := [.tmp 2]) rfl

theorem s_ReadDrawing_c {p0 : ByteArray} {r : Drawing_ × Bool} (h0 : s_ReadDrawing_m p0 = some r) : FnC Tryz.prog 5 [] [.d (.v (.string p0))] [.live [⟨44, 7, .data (List.map cShape_ r.1.Shapes)⟩]] (.tup [.agg [.own 0 0 r.1.Shapes.length], .d (.v (.bool r.2))]) := by
  refine fnc_intro (T := tt) (N := 42) tok Tryz.func5 rfl rfl (by kernel_rfl) rfl rfl ?_
  unfold s_ReadDrawing_m at h0
  refine sq [0,1] ?_
  refine rs rfl w0 rfl (st_alloc 3 (cs := [.d (.v (.slice none 0 0))]) tok rfl rfl rfl) ?_
  refine pa ?_
  refine nx ?_
  refine aw_seq ?_
  refine sq [0,1,2] ?_
  refine pm ?_
  refine rp rfl w0 rfl (pu_len_str tok rfl rfl rfl) ?_
  refine rp rfl w0 rfl (pu_gtr rfl rfl) ?_
  refine nx ?_
  refine aw_if h0 rfl (fun hc h0 => ?_) (fun hc h0 => ?_)
  refine sq [0,1,2] ?_
  refine rp rfl w0 rfl (pbl (C0 := [.d (.v (.slice none 0 0))]) tok rfl rfl rfl) ?_
  refine rw0 rfl w0 (bx_st (cs := _ :: _) tok rfl rfl rfl rfl rfl rfl rfl) ?_
  refine pa ?_
  refine nx ?_
  refine aw_weak (weak_adopt 4 rfl 44 7 (kb := 3) (j := 0) rfl rfl (by repeat (first | exact Spl.z _ | apply Spl.t | apply Spl.d))) ?_
  refine aw_ret ?_
  refine then_r ?_
  cases h0
  exact retK_ (rs := [.cell 2 24, .tmp 3]) [4] rfl
  refine sk ?_
  refine sq [0,1,2] ?_
  refine pm ?_
  obtain ⟨v1, hv1, h0⟩ := bnd h0
  refine rs rfl w0 rfl (c_call 4 (s_l01Split_c hv1) rfl rfl rfl) ?_
  refine rp rfl w0 rfl (pu_assign (r := .own _ _ _) rfl) ?_
  refine nx ?_
  refine sq [0,1,2] ?_
  refine rp rfl w0 rfl (pbl (C0 := [.d (.v (.slice none 0 0))]) tok rfl rfl rfl) ?_
  refine rs rfl w0 rfl (st_alloc 5 (cs := [.d (.v (.slice none 0 0))]) tok rfl rfl rfl) ?_
  refine rw0 rfl w0 (bx_st (cs := _ :: _) tok rfl rfl rfl rfl rfl rfl rfl) ?_
  refine nx ?_
  obtain ⟨v10, h1, h0⟩ := bnd h0
  refine aw_cut ⟨updA (updA (updA ((fun _ => .dead)) 0 (.d (.v (.string p0)))) 2 (.ptr 3 0 1 0 0)) 5 (.ptr 4 0 1 0 0), lks [.no, .no, .no, .live [⟨24, 1, .av [[.d (.v (.slice none 0 0))]]⟩], .live [⟨24, 1, .av [[.own 5 0 (v10).length]]⟩], .live [⟨44, 7, .data (List.map cShape_ v10)⟩]]⟩ ?_ ?_
  refine sq [0] ?_
  refine pa ?_
  refine nx ?_
  refine aw_block ?_
  refine aw_loopM (fun s6 => ⟨updA (updA (updA (updA (updA ((fun _ => .dead)) 0 (.d (.v (.string p0)))) 2 (.ptr 3 0 1 0 0)) 4 (.own 4 0 (v1).length)) 5 (.ptr 5 0 1 0 0)) 6 (.d (.v (.int .i64 s6.1))), lks [.no, .no, .no, .live [⟨24, 1, .av [[.d (.v (.slice none 0 0))]]⟩], .live [⟨9, 1, .data (List.map cS v1)⟩], .live [⟨24, 1, .av [[.own 6 0 (s6.2).length]]⟩], .live [⟨44, 7, .data (List.map cShape_ s6.2)⟩]]⟩) h1 ?_ (fun s6 y h2 => ?_)
  refine Weak.trans_ (weak_adopt 6 rfl 44 7 (kb := 5) (j := 0) rfl rfl (by repeat (first | exact Spl.z _ | apply Spl.t | apply Spl.d))) ?_
  exact wk [0, 1, 2, 3, 4, 5, 6]
  refine aw_seq ?_
  refine sq [0,1,2,3,4] ?_
  refine pm ?_
  refine rp rfl w0 rfl (pw_add rfl rfl) ?_
  refine rp rfl w0 rfl (pu_move (r := .own _ _ _) rfl) ?_
  refine rl rfl w0 rfl (ow_len tok rfl rfl rfl rfl rfl) ?_
  refine rp rfl w0 rfl (pu_lss rfl rfl) ?_
  refine nx ?_
  refine aw_if h2 rfl (fun hc h2 => ?_) (fun hc h2 => ?_)
  refine sk ?_
  refine aw_seq ?_
  refine aw_block ?_
  refine aw_region_draw (is := [0, 1, 2, 3, 4, 5, 6, 7, 8, 9, 10]) [0, 1, 0, 0, 12, 28, 60, 124, 255, 511, 1023] follows (by kernel_rfl) ?_
  refine rt_lk rfl w0 rfl (bx_fa tok rfl rfl rfl rfl rfl rfl rfl) rfl rfl rfl ?_
  refine rt_lk rfl w0 rfl (bx_ld1 tok rfl rfl rfl rfl rfl) rfl rfl rfl ?_
  refine rt_p rfl w0 rfl (pu_move (r := .own _ _ _) rfl) ?_
  refine tpm ?_
  obtain ⟨v7, hv7, h2⟩ := bnd h2
  refine rt_lk rfl w0 rfl (ow_ix tok hv7 rfl rfl rfl rfl rfl rfl rfl rfl) rfl rfl rfl ?_
  refine rt_lk rfl w0 rfl (rw_ld1 tok (atI_e hv7).2.1 rfl rfl rfl rfl rfl rfl) rfl rfl rfl ?_
  obtain ⟨v8, hv8, h2⟩ := bnd h2
  refine rt_c rfl w0 rfl (b_call 7 (s_l25Read_c hv8) rfl rfl rfl) ?_
  refine rt_s rfl w0 rfl (bs_val tok cShape_ [v8] rfl rfl rfl (by repeat (first | exact Els.nil _ | apply Els.cons (cs := [.d _]) rfl rfl rfl | apply Els.cons (cs := _ :: _) rfl rfl rfl)) rfl rfl rfl (by repeat (first | exact AllDD.nil | (apply AllDD.cons; (repeat (first | exact AllD.nil | apply AllD.cons))))) rfl) ?_
  obtain ⟨hq9, h2⟩ := chk_e h2
  refine rt_wkd rfl w0 rfl (ap_own tok hq9 rfl rfl rfl rfl rfl rfl rfl rfl rfl rfl rfl rfl (fun _ => rfl)) ?_
  refine rt_lk rfl w0 rfl (bx_fa tok rfl rfl rfl rfl rfl rfl rfl) rfl rfl rfl ?_
  refine rt_wk rfl w0 (bx_st (cs := [.own _ _ _]) tok rfl rfl rfl rfl rfl rfl rfl) ?_
  refine rt_nil ?_
  refine ⟨by kernel_rfl, ?_⟩
  refine block_n ?_
  refine then_n ?_
  refine sr [0,1,2] ?_
  refine pm ?_
  refine rp rfl w0 rfl (pw_add rfl rfl) ?_
  refine pa ?_
  refine ra_nil ?_
  refine loop_n ?_
  cases h2
  refine ⟨_, rfl, ?_⟩
  exact wk [0, 1, 2, 3, 4, 5, 6]
  refine aw_exit ?_
  refine then_e ?_
  cases h2
  refine loop_x ⟨_, rfl, fun e => ?_⟩
  subst e
  refine block_hit ?_
  refine then_n ?_
  exact wk [0, 1, 2, 3, 5, 6]
  refine aw_seq ?_
  obtain ⟨v13, h1, h0⟩ := bnd h0
  refine aw_cut ⟨updA (updA (updA ((fun _ => .dead)) 2 (.ptr 3 0 1 0 0)) 5 (.ptr 4 0 1 0 0)) 39 (.d (.v (.bool v13))), lks [.no, .no, .no, .live [⟨24, 1, .av [[.d (.v (.slice none 0 0))]]⟩], .live [⟨24, 1, .av [[.own 5 0 (v10).length]]⟩], .live [⟨44, 7, .data (List.map cShape_ v10)⟩]]⟩ ?_ ?_
  refine sr [0,1,2,3,4,5,6,7,8] ?_
  refine rl rfl w0 rfl (bx_ldN tok rfl rfl rfl rfl) ?_
  obtain ⟨v11, hv11, h1⟩ := bnd h1
  refine rs rfl w0 rfl (c_callV 6 (s_l25Ok_c hv11) rfl rfl) ?_
  refine rp rfl w0 rfl (pu_not rfl) ?_
  refine pm ?_
  refine ra_ifB (u := 34) h1 rfl (fun hc h1 => ?_) (fun hc h1 => ?_)
  iterate 4 refine k1 ?_
  refine pkt ?_
  refine nx ?_
  cases h1
  exact wk [0, 1, 2, 3, 4, 5]
  refine rl rfl (w1 rfl rfl rfl) rfl (bx_ldN tok rfl rfl rfl rfl) ?_
  obtain ⟨v12, hv12, h1⟩ := bnd h1
  refine rs rfl (w1 rfl rfl rfl) rfl (c_callV 6 (s_l25Text_c hv12) rfl rfl) ?_
  refine pm1 ?_
  refine rp rfl (w1 rfl rfl rfl) rfl (pu_sneq rfl rfl) ?_
  refine pkf ?_
  refine nx ?_
  cases h1
  exact wk [0, 1, 2, 3, 4, 5]
  refine aw_ifB h0 rfl (fun hc h0 => ?_) (fun hc h0 => ?_)
  refine sq [0,1,2] ?_
  refine rp rfl w0 rfl (pbl (C0 := [.d (.v (.slice none 0 0))]) tok rfl rfl rfl) ?_
  refine rw0 rfl w0 (bx_st (cs := _ :: _) tok rfl rfl rfl rfl rfl rfl rfl) ?_
  refine pa ?_
  refine nx ?_
  refine aw_weak (weak_adopt 6 rfl 44 7 (kb := 3) (j := 0) rfl rfl (by repeat (first | exact Spl.z _ | apply Spl.t | apply Spl.d))) ?_
  refine aw_ret ?_
  refine then_r ?_
  cases h0
  exact retK_ (rs := [.cell 2 24, .tmp 3]) [6] rfl
  refine sk ?_
  refine sq [0,1,2] ?_
  refine rl rfl w0 rfl (bx_ldN tok rfl rfl rfl rfl) ?_
  refine rw0 rfl w0 (bx_st (cs := _ :: _) tok rfl rfl rfl rfl rfl rfl rfl) ?_
  refine pa ?_
  refine nx ?_
  refine aw_ret ?_
  cases h0
  exact retK_ (rs := [.cell 2 24, .tmp 3]) [5] rfl

theorem internal_stringslite_HasSuffix_c {p0 : ByteArray} {p1 : ByteArray} {r : Bool} (h0 : internal_stringslite_HasSuffix_m p0 p1 = some r) : FnC Tryz.prog 75 [] [.d (.v (.string p0)), .d (.v (.string p1))] [] (.d (.v (.bool r))) := by
  refine fnc_intro (T := tt) (N := 21) tok Tryz.func75 rfl rfl (by kernel_rfl) rfl rfl ?_
  unfold internal_stringslite_HasSuffix_m at h0
  refine sq [0] ?_
  refine pa ?_
  refine nx ?_
  refine sq [0,1,2,3,4,5,6,7,8,9,10,11,12,13,14,15,16] ?_
  refine pm ?_
  refine rp rfl w0 rfl (pu_len_str tok rfl rfl rfl) ?_
  refine pm ?_
  refine rp rfl w0 rfl (pu_len_str tok rfl rfl rfl) ?_
  refine rp rfl w0 rfl (pu_geq rfl rfl) ?_
  refine pm ?_
  refine ra_if (u := 10) h0 rfl (fun hc h0 => ?_) (fun hc h0 => ?_)
  refine pm1 ?_
  refine pm1 ?_
  refine rp rfl (w1 rfl rfl rfl) rfl (pu_len_str tok rfl rfl rfl) ?_
  refine pm1 ?_
  refine rp rfl (w1 rfl rfl rfl) rfl (pu_len_str tok rfl rfl rfl) ?_
  refine rp rfl (w1 rfl rfl rfl) rfl (pw_sub rfl rfl) ?_
  obtain ⟨hq1, h0⟩ := chk_e h0
  refine rp rfl (w1 rfl rfl rfl) rfl (pu_ssub tok hq1 rfl (.inr ⟨_, _, rfl, rfl⟩) (.inl ⟨rfl, rfl⟩) rfl rfl) ?_
  refine pm1 ?_
  refine rp rfl (w1 rfl rfl rfl) rfl (pu_seql rfl rfl) ?_
  refine pkt ?_
  refine pa ?_
  refine nx ?_
  refine aw_ret ?_
  cases h0
  exact ret0_ (rs := [.tmp 4]) rfl
  iterate 9 refine k1 ?_
  refine pkf ?_
  refine pa ?_
  refine nx ?_
  refine aw_ret ?_
  cases h0
  exact ret0_ (rs := [.tmp 4]) rfl

theorem strings_HasSuffix_c {p0 : ByteArray} {p1 : ByteArray} {r : Bool} (h0 : strings_HasSuffix_m p0 p1 = some r) : FnC Tryz.prog 48 [] [.d (.v (.string p0)), .d (.v (.string p1))] [] (.d (.v (.bool r))) := by
  refine fnc_intro (T := tt) (N := 8) tok Tryz.func48 rfl rfl (by kernel_rfl) rfl rfl ?_
  unfold strings_HasSuffix_m at h0
  refine sq [0] ?_
  refine pa ?_
  refine nx ?_
  refine sq [0,1,2,3] ?_
  refine pm ?_
  refine pm ?_
  obtain ⟨v1, hv1, h0⟩ := bnd h0
  refine rs rfl w0 rfl (c_call 3 (internal_stringslite_HasSuffix_c hv1) rfl rfl rfl) ?_
  refine pa ?_
  refine nx ?_
  refine aw_ret ?_
  cases h0
  exact ret0_ (rs := [.tmp 4]) rfl

theorem internal_stringslite_TrimSuffix_c {p0 : ByteArray} {p1 : ByteArray} {r : ByteArray} (h0 : internal_stringslite_TrimSuffix_m p0 p1 = some r) : FnC Tryz.prog 77 [] [.d (.v (.string p0)), .d (.v (.string p1))] [] (.d (.v (.string r))) := by
  refine fnc_intro (T := tt) (N := 16) tok Tryz.func77 rfl rfl (by kernel_rfl) rfl rfl ?_
  unfold internal_stringslite_TrimSuffix_m at h0
  refine sq [0] ?_
  refine pa ?_
  refine nx ?_
  refine aw_seq ?_
  refine sq [0,1,2] ?_
  refine pm ?_
  refine pm ?_
  obtain ⟨v1, hv1, h0⟩ := bnd h0
  refine rs rfl w0 rfl (c_call 3 (internal_stringslite_HasSuffix_c hv1) rfl rfl rfl) ?_
  refine nx ?_
  refine aw_ifB h0 rfl (fun hc h0 => ?_) (fun hc h0 => ?_)
  refine sq [0,1,2,3,4,5,6,7] ?_
  refine pm ?_
  refine pm ?_
  refine rp rfl w0 rfl (pu_len_str tok rfl rfl rfl) ?_
  refine pm ?_
  refine rp rfl w0 rfl (pu_len_str tok rfl rfl rfl) ?_
  refine rp rfl w0 rfl (pw_sub rfl rfl) ?_
  obtain ⟨hq2, h0⟩ := chk_e h0
  refine rp rfl w0 rfl (pu_ssub tok hq2 rfl (.inl ⟨rfl, rfl⟩) (.inr ⟨_, _, rfl, rfl⟩) rfl rfl) ?_
  refine pa ?_
  refine nx ?_
  refine aw_ret ?_
  refine then_r ?_
  cases h0
  exact ret0_ (rs := [.tmp 4]) rfl
  refine sk ?_
  refine sq [0,1] ?_
  refine pm ?_
  refine pa ?_
  refine nx ?_
  refine aw_ret ?_
  cases h0
  exact ret0_ (rs := [.tmp 4]) rfl

theorem strings_TrimSuffix_c {p0 : ByteArray} {p1 : ByteArray} {r : ByteArray} (h0 : strings_TrimSuffix_m p0 p1 = some r) : FnC Tryz.prog 50 [] [.d (.v (.string p0)), .d (.v (.string p1))] [] (.d (.v (.string r))) := by
  refine fnc_intro (T := tt) (N := 8) tok Tryz.func50 rfl rfl (by kernel_rfl) rfl rfl ?_
  unfold strings_TrimSuffix_m at h0
  refine sq [0] ?_
  refine pa ?_
  refine nx ?_
  refine sq [0,1,2,3] ?_
  refine pm ?_
  refine pm ?_
  obtain ⟨v1, hv1, h0⟩ := bnd h0
  refine rs rfl w0 rfl (c_call 3 (internal_stringslite_TrimSuffix_c hv1) rfl rfl rfl) ?_
  refine pa ?_
  refine nx ?_
  refine aw_ret ?_
  cases h0
  exact ret0_ (rs := [.tmp 4]) rfl

theorem strings_Count_c {p0 p1 : ByteArray} {r : Int} (h0 : strings_Count_m p0 p1 = some r) : FnC Tryz.prog 85 [] [.d (.v (.string p0)), .d (.v (.string p1))] [] (.d (.v (.int .i64 r))) := by
  obtain ⟨q0, h0⟩ := chk_e h0
  cases h0
  obtain ⟨⟨l⟩⟩ := p1
  match l, q0 with
  | [c], _ => exact sh_count

theorem internal_stringslite_Index_c {p0 p1 : ByteArray} {r : Int} (h0 : internal_stringslite_Index_m p0 p1 = some r) : FnC Tryz.prog 94 [] [.d (.v (.string p0)), .d (.v (.string p1))] [] (.d (.v (.int .i64 r))) := by
  obtain ⟨q0, h0⟩ := chk_e h0
  cases h0
  obtain ⟨⟨l⟩⟩ := p1
  match l, q0 with
  | [c], _ => exact sh_index

theorem strings_Index_c {p0 : ByteArray} {p1 : ByteArray} {r : Int} (h0 : strings_Index_m p0 p1 = some r) : FnC Tryz.prog 86 [] [.d (.v (.string p0)), .d (.v (.string p1))] [] (.d (.v (.int .i64 r))) := by
  refine fnc_intro (T := tt) (N := 8) tok Tryz.func86 rfl rfl (by kernel_rfl) rfl rfl ?_
  unfold strings_Index_m at h0
  refine sq [0] ?_
  refine pa ?_
  refine nx ?_
  refine sq [0,1,2,3] ?_
  refine pm ?_
  refine pm ?_
  obtain ⟨v1, hv1, h0⟩ := bnd h0
  refine rs rfl w0 rfl (c_call 3 (internal_stringslite_Index_c hv1) rfl rfl rfl) ?_
  refine pa ?_
  refine nx ?_
  refine aw_ret ?_
  cases h0
  exact ret0_ (rs := [.tmp 4]) rfl

theorem strings_genSplit_c {p0 : ByteArray} {p1 : ByteArray} {p2 : Int} {p3 : Int} {r : List ByteArray} (h0 : strings_genSplit_m p0 p1 p2 p3 = some r) : FnC Tryz.prog 76 [] [.d (.v (.string p0)), .d (.v (.string p1)), .d (.v (.int .i64 p2)), .d (.v (.int .i64 p3))] [.live [⟨9, 1, .data (List.map cS r)⟩]] (.own 0 0 r.length) := by
  refine fnc_intro (T := tt) (N := 66) tok Tryz.func76 rfl rfl (by kernel_rfl) rfl rfl ?_
  unfold strings_genSplit_m at h0
  refine sq [0] ?_
  refine pa ?_
  refine nx ?_
  refine aw_seq ?_
  refine sq [0,1] ?_
  refine pm ?_
  refine rp rfl w0 rfl (pu_eql rfl rfl) ?_
  refine nx ?_
  refine aw_if h0 rfl (fun hc h0 => ?_) (fun hc h0 => ?_)
  refine sq [0] ?_
  refine pa ?_
  refine nx ?_
  refine aw_weak (weak_adopt_t 3 rfl 9 1 (d := 8) rfl) ?_
  refine aw_ret ?_
  refine then_r ?_
  cases h0
  exact retK_ (rs := [.tmp 8]) [3] rfl
  refine sk ?_
  refine aw_seq ?_
  refine sq [0,1] ?_
  refine pm ?_
  refine rp rfl w0 rfl (pu_seql rfl rfl) ?_
  refine nx ?_
  refine aw_if h0 rfl (fun hc h0 => ?_) (fun hc h0 => ?_)
  cases h0
  refine sk ?_
  obtain ⟨v2, h1, h0⟩ := bnd h0
  refine aw_cut ⟨updA (updA (updA (updA ((fun _ => .dead)) 0 (.d (.v (.string p0)))) 1 (.d (.v (.string p1)))) 2 (.d (.v (.int .i64 p2)))) 3 (.d (.v (.int .i64 v2))), lks [.no, .no, .no]⟩ ?_ ?_
  refine sq [0,1] ?_
  refine pm ?_
  refine rp rfl w0 rfl (pu_lss rfl rfl) ?_
  refine nx ?_
  refine aw_if h1 rfl (fun hc h1 => ?_) (fun hc h1 => ?_)
  refine sr [0,1,2,3,4] ?_
  refine pm ?_
  refine pm ?_
  obtain ⟨v1, hv1, h1⟩ := bnd h1
  refine rs rfl w0 rfl (c_call 3 (strings_Count_c hv1) rfl rfl rfl) ?_
  refine rp rfl w0 rfl (pw_add rfl rfl) ?_
  refine pa ?_
  refine nx ?_
  cases h1
  exact wk [0, 1, 2]
  refine sk ?_
  cases h1
  exact wk [0, 1, 2]
  refine sq [0,1,2,3,4,5] ?_
  refine pm ?_
  refine pm ?_
  refine rp rfl w0 rfl (pu_len_str tok rfl rfl rfl) ?_
  refine rp rfl w0 rfl (pw_add rfl rfl) ?_
  refine rp rfl w0 rfl (pu_min rfl rfl) ?_
  refine pa ?_
  refine nx ?_
  refine sq [0,1,2] ?_
  refine pm ?_
  obtain ⟨hq3, h0⟩ := chk_e h0
  refine rs rfl w0 rfl (mk_own 3 tok (c := cS) (⟨#[]⟩ : ByteArray) hq3 rfl rfl rfl rfl rfl rfl rfl rfl rfl rfl rfl rfl rfl) ?_
  refine rp rfl w0 rfl (pu_assign (r := .own _ _ _) rfl) ?_
  refine nx ?_
  refine sq [0,1,2] ?_
  refine pm ?_
  refine rp rfl w0 rfl (pw_sub rfl rfl) ?_
  refine pa ?_
  refine nx ?_
  refine sq [0] ?_
  refine pa ?_
  refine nx ?_
  obtain ⟨v14, h1, h0⟩ := bnd h0
  refine aw_cut ⟨updA (updA (updA ((fun _ => .dead)) 0 (.d (.v (.string v14.1)))) 9 (.own 3 0 (v14.2.2).length)) 10 (.d (.v (.int .i64 v14.2.1))), lks [.no, .no, .no, .live [⟨9, 1, .data (List.map cS v14.2.2)⟩]]⟩ ?_ ?_
  refine aw_block ?_
  refine aw_loopM (fun s9 => ⟨updA (updA (updA (updA (updA (updA ((fun _ => .dead)) 0 (.d (.v (.string s9.1)))) 1 (.d (.v (.string p1)))) 2 (.d (.v (.int .i64 p2)))) 3 (.d (.v (.int .i64 (w64 ((min v2 (w64 ((p0.size : Int) + 1))) - 1)))))) 9 (.own 3 0 (s9.2.2).length)) 10 (.d (.v (.int .i64 s9.2.1))), lks [.no, .no, .no, .live [⟨9, 1, .data (List.map cS s9.2.2)⟩]]⟩) h1 ?_ (fun s9 y h2 => ?_)
  exact wk [0, 1, 2, 3]
  refine aw_seq ?_
  refine sq [0,1,2] ?_
  refine pm ?_
  refine pm ?_
  refine rp rfl w0 rfl (pu_lss rfl rfl) ?_
  refine nx ?_
  refine aw_if h2 rfl (fun hc h2 => ?_) (fun hc h2 => ?_)
  refine sk ?_
  refine aw_block ?_
  refine sq [0,1,2,3] ?_
  refine pm ?_
  refine pm ?_
  obtain ⟨v10, hv10, h2⟩ := bnd h2
  refine rs rfl w0 rfl (c_call 4 (strings_Index_c hv10) rfl rfl rfl) ?_
  refine pa ?_
  refine nx ?_
  refine aw_seq ?_
  refine sq [0,1] ?_
  refine pm ?_
  refine rp rfl w0 rfl (pu_lss rfl rfl) ?_
  refine nx ?_
  refine aw_if h2 rfl (fun hc h2 => ?_) (fun hc h2 => ?_)
  refine aw_exit ?_
  refine then_e ?_
  refine block_e rfl ?_
  cases h2
  refine loop_x ⟨_, rfl, fun e => ?_⟩
  subst e
  refine block_hit ?_
  refine then_n ?_
  exact wk [0, 1, 2, 3]
  refine sk ?_
  refine sq [0,1,2,3,4,5,6,7,8] ?_
  refine rp rfl w0 rfl (pu_move (r := .own _ _ _) rfl) ?_
  iterate 4 refine pm ?_
  refine rp rfl w0 rfl (pw_add rfl rfl) ?_
  obtain ⟨hq11, h2⟩ := chk_e h2
  refine rp rfl w0 rfl (pu_ssub tok hq11 rfl (.inl ⟨rfl, rfl⟩) (.inr ⟨_, _, rfl, rfl⟩) rfl rfl) ?_
  obtain ⟨v12, hv12, h2⟩ := bnd h2
  refine rl rfl w0 rfl (ow_ix tok hv12 rfl rfl rfl rfl rfl rfl rfl rfl) ?_
  refine rw0 rfl w0 (rw_st (cs := [.d _]) tok (s9.1.extract (0 : Int).toNat (w64 (v10 + p2)).toNat) (atI_e hv12).2.1 rfl rfl rfl rfl rfl rfl rfl rfl) ?_
  refine nx ?_
  refine sq [0,1,2,3,4,5,6] ?_
  iterate 3 refine pm ?_
  refine rp rfl w0 rfl (pu_len_str tok rfl rfl rfl) ?_
  refine rp rfl w0 rfl (pw_add rfl rfl) ?_
  obtain ⟨hq13, h2⟩ := chk_e h2
  refine rp rfl w0 rfl (pu_ssub tok hq13 rfl (.inr ⟨_, _, rfl, rfl⟩) (.inl ⟨rfl, rfl⟩) rfl rfl) ?_
  refine pa ?_
  refine nx ?_
  refine sr [0,1,2] ?_
  refine pm ?_
  refine rp rfl w0 rfl (pw_add rfl rfl) ?_
  refine pa ?_
  refine ra_nil ?_
  refine block_n ?_
  refine loop_n ?_
  cases h2
  refine ⟨_, rfl, ?_⟩
  exact wk [0, 1, 2, 3]
  refine aw_exit ?_
  refine then_e ?_
  cases h2
  refine loop_x ⟨_, rfl, fun e => ?_⟩
  subst e
  refine block_hit ?_
  refine then_n ?_
  exact wk [0, 1, 2, 3]
  refine sq [0,1,2,3,4] ?_
  refine rp rfl w0 rfl (pu_move (r := .own _ _ _) rfl) ?_
  refine pm ?_
  refine pm ?_
  obtain ⟨v15, hv15, h0⟩ := bnd h0
  refine rl rfl w0 rfl (ow_ix tok hv15 rfl rfl rfl rfl rfl rfl rfl rfl) ?_
  refine rw0 rfl w0 (rw_st (cs := [.d _]) tok v14.1 (atI_e hv15).2.1 rfl rfl rfl rfl rfl rfl rfl rfl) ?_
  refine nx ?_
  refine sq [0,1,2,3,4] ?_
  refine rp rfl w0 rfl (pu_move (r := .own _ _ _) rfl) ?_
  refine pm ?_
  refine rp rfl w0 rfl (pw_add rfl rfl) ?_
  obtain ⟨hq16, h0⟩ := chk_e h0
  refine rw1 rfl w0 rfl (ow_sub 4 tok hq16 rfl rfl rfl rfl rfl rfl (by first | (simp; done) | omega | (simp; omega)) rfl) ?_
  refine rp rfl w0 rfl (pu_assign (r := .own _ _ _) rfl) ?_
  refine nx ?_
  refine aw_ret ?_
  cases h0
  exact retK_ (rs := [.tmp 8]) [4] rfl

theorem strings_Split_c {p0 : ByteArray} {p1 : ByteArray} {r : List ByteArray} (h0 : strings_Split_m p0 p1 = some r) : FnC Tryz.prog 49 [] [.d (.v (.string p0)), .d (.v (.string p1))] [.live [⟨9, 1, .data (List.map cS r)⟩]] (.own 0 0 r.length) := by
  refine fnc_intro (T := tt) (N := 8) tok Tryz.func49 rfl rfl (by kernel_rfl) rfl rfl ?_
  unfold strings_Split_m at h0
  refine sq [0] ?_
  refine pa ?_
  refine nx ?_
  refine sq [0,1,2,3] ?_
  refine pm ?_
  refine pm ?_
  obtain ⟨v1, hv1, h0⟩ := bnd h0
  refine rs rfl w0 rfl (c_call 3 (strings_genSplit_c hv1) rfl rfl rfl) ?_
  refine rp rfl w0 rfl (pu_assign (r := .own _ _ _) rfl) ?_
  refine nx ?_
  refine aw_ret ?_
  cases h0
  exact retK_ (rs := [.tmp 4]) [3] rfl

theorem i_linesOf_c {p0 : ByteArray} {r : List ByteArray × Bool} (h0 : i_linesOf_m p0 = some r) : FnC Tryz.prog 26 [] [.d (.v (.string p0))] [.live [⟨9, 1, .data (List.map cS r.1)⟩]] (.tup [.own 0 0 r.1.length, .d (.v (.bool r.2))]) := by
  refine fnc_intro (T := tt) (N := 12) tok Tryz.func26 rfl rfl (by kernel_rfl) rfl rfl ?_
  unfold i_linesOf_m at h0
  refine sq [0,1] ?_
  refine pa ?_
  refine pa ?_
  refine nx ?_
  refine aw_seq ?_
  refine sq [0,1] ?_
  refine pm ?_
  refine rp rfl w0 rfl (pu_seql rfl rfl) ?_
  refine nx ?_
  refine aw_if h0 rfl (fun hc h0 => ?_) (fun hc h0 => ?_)
  refine sq [0,1] ?_
  refine pa ?_
  refine pa ?_
  refine nx ?_
  refine aw_weak (weak_adopt_t 3 rfl 9 1 (d := 2) rfl) ?_
  refine aw_ret ?_
  refine then_r ?_
  cases h0
  exact retK_ (rs := [.tmp 2, .tmp 3]) [3] rfl
  refine sk ?_
  refine aw_seq ?_
  refine sq [0,1,2] ?_
  refine pm ?_
  obtain ⟨v1, hv1, h0⟩ := bnd h0
  refine rs rfl w0 rfl (c_call 3 (strings_HasSuffix_c hv1) rfl rfl rfl) ?_
  refine rp rfl w0 rfl (pu_not rfl) ?_
  refine nx ?_
  refine aw_ifB h0 rfl (fun hc h0 => ?_) (fun hc h0 => ?_)
  refine sq [0,1] ?_
  refine pa ?_
  refine pa ?_
  refine nx ?_
  refine aw_weak (weak_adopt_t 3 rfl 9 1 (d := 2) rfl) ?_
  refine aw_ret ?_
  refine then_r ?_
  cases h0
  exact retK_ (rs := [.tmp 2, .tmp 3]) [3] rfl
  refine sk ?_
  refine sq [0,1,2,3,4] ?_
  refine pm ?_
  obtain ⟨v2, hv2, h0⟩ := bnd h0
  refine rs rfl w0 rfl (c_call 3 (strings_TrimSuffix_c hv2) rfl rfl rfl) ?_
  obtain ⟨v3, hv3, h0⟩ := bnd h0
  refine rs rfl w0 rfl (c_call 3 (strings_Split_c hv3) rfl rfl rfl) ?_
  refine rp rfl w0 rfl (pu_assign (r := .own _ _ _) rfl) ?_
  refine pa ?_
  refine nx ?_
  refine aw_ret ?_
  cases h0
  exact retK_ (rs := [.tmp 2, .tmp 3]) [3] rfl

theorem i_wordsOf_c {p0 : ByteArray} {r : List ByteArray} (h0 : i_wordsOf_m p0 = some r) : FnC Tryz.prog 51 [] [.d (.v (.string p0))] [.live [⟨9, 1, .data (List.map cS r)⟩]] (.own 0 0 r.length) := by
  refine fnc_intro (T := tt) (N := 5) tok Tryz.func51 rfl rfl (by kernel_rfl) rfl rfl ?_
  unfold i_wordsOf_m at h0
  refine sq [0] ?_
  refine pa ?_
  refine nx ?_
  refine sq [0,1,2] ?_
  refine pm ?_
  obtain ⟨v1, hv1, h0⟩ := bnd h0
  refine rs rfl w0 rfl (c_call 3 (strings_Split_c hv1) rfl rfl rfl) ?_
  refine rp rfl w0 rfl (pu_assign (r := .own _ _ _) rfl) ?_
  refine nx ?_
  refine aw_ret ?_
  cases h0
  exact retK_ (rs := [.tmp 2]) [3] rfl

theorem i_ReadDecimal_c {p0 : ByteArray} {r : Int × Bool} (h0 : i_ReadDecimal_m p0 = some r) : FnC Tryz.prog 52 [] [.d (.v (.string p0))] [] (.tup [.d (.v (.int .i64 r.1)), .d (.v (.bool r.2))]) := by
  obtain ⟨q0, h0⟩ := chk_e h0
  cases h0
  exact sh_read q0

theorem i_line_c {p0 : Spot_} {p1 : Spot_} {r : Shape_} (h0 : i_line_m p0 p1 = some r) : FnC Tryz.prog 53 [] [.agg [.d (.v (.int .i64 p0.X)), .d (.v (.int .i64 p0.Y))], .agg [.d (.v (.int .i64 p1.X)), .d (.v (.int .i64 p1.Y))]] [] (.agg [.d (.v (.int .i64 r.Kind)), .d (.v (.int .i64 r.A.X)), .d (.v (.int .i64 r.A.Y)), .d (.v (.int .i64 r.B.X)), .d (.v (.int .i64 r.B.Y)), .d (.v (.int .i64 r.R)), .d (.v (.string r.Name))]) := by
  refine fnc_intro (T := tt) (N := 8) tok Tryz.func53 rfl rfl (by kernel_rfl) rfl rfl ?_
  unfold i_line_m at h0
  refine sq [0,1,2] ?_
  refine rs rfl w0 rfl (st_box 3 (cs := _ :: _) rfl rfl rfl) ?_
  refine rs rfl w0 rfl (st_box 4 (cs := _ :: _) rfl rfl rfl) ?_
  refine rs rfl w0 rfl (st_alloc 5 (cs := [.d (.v (.int .i64 0)), .d (.v (.int .i64 0)), .d (.v (.int .i64 0)), .d (.v (.int .i64 0)), .d (.v (.int .i64 0)), .d (.v (.int .i64 0)), .d (.v (.string (⟨#[]⟩ : ByteArray)))]) tok rfl rfl rfl) ?_
  refine nx ?_
  refine sq [0,1,2,3] ?_
  refine rl rfl w0 rfl (bx_ldN tok rfl rfl rfl rfl) ?_
  refine rl rfl w0 rfl (bx_ldN tok rfl rfl rfl rfl) ?_
  refine rp rfl w0 rfl (pbl (C0 := [.d (.v (.int .i64 0)), .d (.v (.int .i64 0)), .d (.v (.int .i64 0)), .d (.v (.int .i64 0)), .d (.v (.int .i64 0)), .d (.v (.int .i64 0)), .d (.v (.string (⟨#[]⟩ : ByteArray)))]) tok rfl rfl rfl) ?_
  refine rw0 rfl w0 (bx_st (cs := _ :: _) tok rfl rfl rfl rfl rfl rfl rfl) ?_
  refine nx ?_
  refine aw_ret ?_
  cases h0
  exact ret0_ (rs := [.cell 4 44]) rfl

theorem i_circle_c {p0 : Spot_} {p1 : Int} {r : Shape_} (h0 : i_circle_m p0 p1 = some r) : FnC Tryz.prog 54 [] [.agg [.d (.v (.int .i64 p0.X)), .d (.v (.int .i64 p0.Y))], .d (.v (.int .i64 p1))] [] (.agg [.d (.v (.int .i64 r.Kind)), .d (.v (.int .i64 r.A.X)), .d (.v (.int .i64 r.A.Y)), .d (.v (.int .i64 r.B.X)), .d (.v (.int .i64 r.B.Y)), .d (.v (.int .i64 r.R)), .d (.v (.string r.Name))]) := by
  refine fnc_intro (T := tt) (N := 8) tok Tryz.func54 rfl rfl (by kernel_rfl) rfl rfl ?_
  unfold i_circle_m at h0
  refine sq [0,1] ?_
  refine rs rfl w0 rfl (st_box 3 (cs := _ :: _) rfl rfl rfl) ?_
  refine rs rfl w0 rfl (st_alloc 4 (cs := [.d (.v (.int .i64 0)), .d (.v (.int .i64 0)), .d (.v (.int .i64 0)), .d (.v (.int .i64 0)), .d (.v (.int .i64 0)), .d (.v (.int .i64 0)), .d (.v (.string (⟨#[]⟩ : ByteArray)))]) tok rfl rfl rfl) ?_
  refine nx ?_
  refine sq [0,1,2,3] ?_
  refine rl rfl w0 rfl (bx_ldN tok rfl rfl rfl rfl) ?_
  refine pm ?_
  refine rp rfl w0 rfl (pbl (C0 := [.d (.v (.int .i64 0)), .d (.v (.int .i64 0)), .d (.v (.int .i64 0)), .d (.v (.int .i64 0)), .d (.v (.int .i64 0)), .d (.v (.int .i64 0)), .d (.v (.string (⟨#[]⟩ : ByteArray)))]) tok rfl rfl rfl) ?_
  refine rw0 rfl w0 (bx_st (cs := _ :: _) tok rfl rfl rfl rfl rfl rfl rfl) ?_
  refine nx ?_
  refine aw_ret ?_
  cases h0
  exact ret0_ (rs := [.cell 4 44]) rfl

theorem i_label_c {p0 : Spot_} {p1 : ByteArray} {r : Shape_} (h0 : i_label_m p0 p1 = some r) : FnC Tryz.prog 55 [] [.agg [.d (.v (.int .i64 p0.X)), .d (.v (.int .i64 p0.Y))], .d (.v (.string p1))] [] (.agg [.d (.v (.int .i64 r.Kind)), .d (.v (.int .i64 r.A.X)), .d (.v (.int .i64 r.A.Y)), .d (.v (.int .i64 r.B.X)), .d (.v (.int .i64 r.B.Y)), .d (.v (.int .i64 r.R)), .d (.v (.string r.Name))]) := by
  refine fnc_intro (T := tt) (N := 8) tok Tryz.func55 rfl rfl (by kernel_rfl) rfl rfl ?_
  unfold i_label_m at h0
  refine sq [0,1] ?_
  refine rs rfl w0 rfl (st_box 3 (cs := _ :: _) rfl rfl rfl) ?_
  refine rs rfl w0 rfl (st_alloc 4 (cs := [.d (.v (.int .i64 0)), .d (.v (.int .i64 0)), .d (.v (.int .i64 0)), .d (.v (.int .i64 0)), .d (.v (.int .i64 0)), .d (.v (.int .i64 0)), .d (.v (.string (⟨#[]⟩ : ByteArray)))]) tok rfl rfl rfl) ?_
  refine nx ?_
  refine sq [0,1,2,3] ?_
  refine rl rfl w0 rfl (bx_ldN tok rfl rfl rfl rfl) ?_
  refine pm ?_
  refine rp rfl w0 rfl (pbl (C0 := [.d (.v (.int .i64 0)), .d (.v (.int .i64 0)), .d (.v (.int .i64 0)), .d (.v (.int .i64 0)), .d (.v (.int .i64 0)), .d (.v (.int .i64 0)), .d (.v (.string (⟨#[]⟩ : ByteArray)))]) tok rfl rfl rfl) ?_
  refine rw0 rfl w0 (bx_st (cs := _ :: _) tok rfl rfl rfl rfl rfl rfl rfl) ?_
  refine nx ?_
  refine aw_ret ?_
  cases h0
  exact ret0_ (rs := [.cell 4 44]) rfl

theorem i_readShape_c {p0 : ByteArray} {r : Shape_ × Bool} (h0 : i_readShape_m p0 = some r) : FnC Tryz.prog 27 [] [.d (.v (.string p0))] [] (.tup [.agg [.d (.v (.int .i64 r.1.Kind)), .d (.v (.int .i64 r.1.A.X)), .d (.v (.int .i64 r.1.A.Y)), .d (.v (.int .i64 r.1.B.X)), .d (.v (.int .i64 r.1.B.Y)), .d (.v (.int .i64 r.1.R)), .d (.v (.string r.1.Name))], .d (.v (.bool r.2))]) := by
  refine fnc_intro (T := tt) (N := 97) tok Tryz.func27 rfl rfl (by kernel_rfl) rfl rfl ?_
  unfold i_readShape_m at h0
  refine sq [0,1] ?_
  refine rs rfl w0 rfl (st_alloc 3 (cs := [.d (.v (.int .i64 0)), .d (.v (.int .i64 0)), .d (.v (.int .i64 0)), .d (.v (.int .i64 0)), .d (.v (.int .i64 0)), .d (.v (.int .i64 0)), .d (.v (.string (⟨#[]⟩ : ByteArray)))]) tok rfl rfl rfl) ?_
  refine pa ?_
  refine nx ?_
  refine sq [0,1,2] ?_
  refine pm ?_
  obtain ⟨v1, hv1, h0⟩ := bnd h0
  refine rs rfl w0 rfl (c_call 4 (i_wordsOf_c hv1) rfl rfl rfl) ?_
  refine rp rfl w0 rfl (pu_assign (r := .own _ _ _) rfl) ?_
  refine nx ?_
  refine sq [0,1,2,3] ?_
  refine rp rfl w0 rfl (pu_move (r := .own _ _ _) rfl) ?_
  refine rl rfl w0 rfl (ow_len tok rfl rfl rfl rfl rfl) ?_
  obtain ⟨hq2, h0⟩ := chk_e h0
  refine rs rfl w0 rfl (mk_own 5 tok (c := cI) 0 hq2 rfl rfl rfl rfl rfl rfl rfl rfl rfl rfl rfl rfl rfl) ?_
  refine rp rfl w0 rfl (pu_assign (r := .own _ _ _) rfl) ?_
  refine nx ?_
  obtain ⟨v11, h1, h0⟩ := bnd h0
  refine aw_cut ⟨updA (updA (updA ((fun _ => .dead)) 2 (.ptr 3 0 1 0 0)) 4 (.own 4 0 (v1).length)) 5 (.own 5 0 (v11).length), lks [.no, .no, .no, .live [⟨44, 7, .av [[.d (.v (.int .i64 0)), .d (.v (.int .i64 0)), .d (.v (.int .i64 0)), .d (.v (.int .i64 0)), .d (.v (.int .i64 0)), .d (.v (.int .i64 0)), .d (.v (.string (⟨#[]⟩ : ByteArray)))]]⟩], .live [⟨9, 1, .data (List.map cS v1)⟩], .live [⟨2, 1, .data (List.map cI v11)⟩]]⟩ ?_ ?_
  refine sq [0,1,2] ?_
  refine rp rfl w0 rfl (pu_move (r := .own _ _ _) rfl) ?_
  refine rl rfl w0 rfl (ow_len tok rfl rfl rfl rfl rfl) ?_
  refine pm ?_
  refine nx ?_
  refine aw_block ?_
  refine aw_loopM (fun s7 => ⟨updA (updA (updA (updA (updA (updA ((fun _ => .dead)) 2 (.ptr 3 0 1 0 0)) 4 (.own 4 0 (v1).length)) 5 (.own 5 0 (s7.2).length)) 13 (.own 4 0 (v1).length)) 14 (.d (.v (.int .i64 (v1.length : Int))))) 15 (.d (.v (.int .i64 s7.1))), lks [.no, .no, .no, .live [⟨44, 7, .av [[.d (.v (.int .i64 0)), .d (.v (.int .i64 0)), .d (.v (.int .i64 0)), .d (.v (.int .i64 0)), .d (.v (.int .i64 0)), .d (.v (.int .i64 0)), .d (.v (.string (⟨#[]⟩ : ByteArray)))]]⟩], .live [⟨9, 1, .data (List.map cS v1)⟩], .live [⟨2, 1, .data (List.map cI s7.2)⟩]]⟩) h1 ?_ (fun s7 y h2 => ?_)
  exact wk [0, 1, 2, 3, 4, 5]
  refine sq [0] ?_
  refine rp rfl w0 rfl (pu_lss rfl rfl) ?_
  refine nx ?_
  refine aw_seq ?_
  refine aw_if h2 rfl (fun hc h2 => ?_) (fun hc h2 => ?_)
  refine sk ?_
  refine aw_seq ?_
  refine aw_block ?_
  refine sq [0,1,2,3,4] ?_
  refine pm ?_
  obtain ⟨v8, hv8, h2⟩ := bnd h2
  refine rl rfl w0 rfl (ow_ix tok hv8 rfl rfl rfl rfl rfl rfl rfl rfl) ?_
  refine rl rfl w0 rfl (rw_ld1 tok (atI_e hv8).2.1 rfl rfl rfl rfl rfl rfl) ?_
  refine pa ?_
  refine pa ?_
  refine nx ?_
  refine sr [0,1,2,3,4,5,6,7,8] ?_
  refine rp rfl w0 rfl (pu_move (r := .own _ _ _) rfl) ?_
  refine pm ?_
  refine pm ?_
  obtain ⟨v9, hv9, h2⟩ := bnd h2
  refine rs rfl w0 rfl (c_call 6 (i_ReadDecimal_c hv9) rfl rfl rfl) ?_
  refine rp rfl w0 rfl (pu_move (r := .tup _) rfl) ?_
  refine rp rfl w0 rfl (pu_extract rfl rfl) ?_
  refine rp rfl w0 rfl (pu_extract rfl rfl) ?_
  obtain ⟨v10, hv10, h2⟩ := bnd h2
  refine rl rfl w0 rfl (ow_ix tok hv10 rfl rfl rfl rfl rfl rfl rfl rfl) ?_
  refine rw0 rfl w0 (rw_st (cs := [.d _]) tok v9.1 (atI_e hv10).2.1 rfl rfl rfl rfl rfl rfl rfl rfl) ?_
  refine ra_nil ?_
  refine block_n ?_
  refine then_n ?_
  refine sr [0,1] ?_
  refine rp rfl w0 rfl (pw_add rfl rfl) ?_
  refine pm ?_
  refine ra_nil ?_
  refine loop_n ?_
  cases h2
  refine ⟨_, rfl, ?_⟩
  exact wk [0, 1, 2, 3, 4, 5]
  refine aw_exit ?_
  refine then_e ?_
  cases h2
  refine loop_x ⟨_, rfl, fun e => ?_⟩
  subst e
  refine block_hit ?_
  refine then_n ?_
  exact wk [0, 1, 2, 3, 4, 5]
  refine aw_seq ?_
  refine aw_block ?_
  obtain ⟨v13, h1, h0⟩ := bnd h0
  refine aw_cut ⟨updA (updA (updA (updA ((fun _ => .dead)) 2 (.ptr 3 0 1 0 0)) 4 (.own 4 0 (v1).length)) 5 (.own 5 0 (v11).length)) 29 (.d (.v (.bool v13))), lks [.no, .no, .no, .live [⟨44, 7, .av [[.d (.v (.int .i64 0)), .d (.v (.int .i64 0)), .d (.v (.int .i64 0)), .d (.v (.int .i64 0)), .d (.v (.int .i64 0)), .d (.v (.int .i64 0)), .d (.v (.string (⟨#[]⟩ : ByteArray)))]]⟩], .live [⟨9, 1, .data (List.map cS v1)⟩], .live [⟨2, 1, .data (List.map cI v11)⟩]]⟩ ?_ ?_
  refine sr [0,1,2,3,4,5,6,7,8,9] ?_
  refine rp rfl w0 rfl (pu_move (r := .own _ _ _) rfl) ?_
  obtain ⟨v12, hv12, h1⟩ := bnd h1
  refine rl rfl w0 rfl (ow_ix tok hv12 rfl rfl rfl rfl rfl rfl rfl rfl) ?_
  refine rl rfl w0 rfl (rw_ld1 tok (atI_e hv12).2.1 rfl rfl rfl rfl rfl rfl) ?_
  refine rp rfl w0 rfl (pu_seql rfl rfl) ?_
  refine pm ?_
  refine ra_if (u := 34) h1 rfl (fun hc h1 => ?_) (fun hc h1 => ?_)
  refine rp rfl (w1 rfl rfl rfl) rfl (pu_move (r := .own _ _ _) rfl) ?_
  refine rl rfl (w1 rfl rfl rfl) rfl (ow_len tok rfl rfl rfl rfl rfl) ?_
  refine rp rfl (w1 rfl rfl rfl) rfl (pu_eql rfl rfl) ?_
  refine pkt ?_
  refine pa ?_
  refine nx ?_
  cases h1
  exact wk [0, 1, 2, 3, 4, 5]
  iterate 3 refine k1 ?_
  refine pkf ?_
  refine pa ?_
  refine nx ?_
  cases h1
  exact wk [0, 1, 2, 3, 4, 5]
  refine aw_ifB h0 rfl (fun hc h0 => ?_) (fun hc h0 => ?_)
  refine aw_seq ?_
  refine aw_region_draw (is := [0, 1, 2, 3, 4, 5, 6, 7, 8, 9, 10, 11, 12, 13, 14, 15, 16]) [0, 1, 3, 0, 8, 24, 63, 0, 128, 384, 0, 1024, 3072, 8064, 16383, 32767, 65535] follows (by kernel_rfl) ?_
  refine rt_p rfl w0 rfl (pu_move (r := .own _ _ _) rfl) ?_
  obtain ⟨v14, hv14, h0⟩ := bnd h0
  refine rt_lk rfl w0 rfl (ow_ix tok hv14 rfl rfl rfl rfl rfl rfl rfl rfl) rfl rfl rfl ?_
  refine rt_lk rfl w0 rfl (rw_ld1 tok (atI_e hv14).2.1 rfl rfl rfl rfl rfl rfl) rfl rfl rfl ?_
  refine rt_p rfl w0 rfl (pu_move (r := .own _ _ _) rfl) ?_
  obtain ⟨v15, hv15, h0⟩ := bnd h0
  refine rt_lk rfl w0 rfl (ow_ix tok hv15 rfl rfl rfl rfl rfl rfl rfl rfl) rfl rfl rfl ?_
  refine rt_lk rfl w0 rfl (rw_ld1 tok (atI_e hv15).2.1 rfl rfl rfl rfl rfl rfl) rfl rfl rfl ?_
  refine rt_p rfl w0 rfl (pbl (C0 := [.d (.v (.int .i64 0)), .d (.v (.int .i64 0))]) tok rfl rfl rfl) ?_
  refine rt_p rfl w0 rfl (pu_move (r := .own _ _ _) rfl) ?_
  obtain ⟨v16, hv16, h0⟩ := bnd h0
  refine rt_lk rfl w0 rfl (ow_ix tok hv16 rfl rfl rfl rfl rfl rfl rfl rfl) rfl rfl rfl ?_
  refine rt_lk rfl w0 rfl (rw_ld1 tok (atI_e hv16).2.1 rfl rfl rfl rfl rfl rfl) rfl rfl rfl ?_
  refine rt_p rfl w0 rfl (pu_move (r := .own _ _ _) rfl) ?_
  obtain ⟨v17, hv17, h0⟩ := bnd h0
  refine rt_lk rfl w0 rfl (ow_ix tok hv17 rfl rfl rfl rfl rfl rfl rfl rfl) rfl rfl rfl ?_
  refine rt_lk rfl w0 rfl (rw_ld1 tok (atI_e hv17).2.1 rfl rfl rfl rfl rfl rfl) rfl rfl rfl ?_
  refine rt_p rfl w0 rfl (pbl (C0 := [.d (.v (.int .i64 0)), .d (.v (.int .i64 0))]) tok rfl rfl rfl) ?_
  obtain ⟨v18, hv18, h0⟩ := bnd h0
  refine rt_c rfl w0 rfl (b_call 6 (i_line_c hv18) rfl rfl rfl) ?_
  refine rt_wk rfl w0 (bx_st (cs := _ :: _) tok rfl rfl rfl rfl rfl rfl rfl) ?_
  refine tpa ?_
  refine rt_nil ?_
  refine ⟨by kernel_rfl, ?_⟩
  refine then_n ?_
  refine aw_ret ?_
  refine block_r ?_
  refine then_r ?_
  cases h0
  exact ret0_ (rs := [.cell 2 44, .tmp 3]) rfl
  obtain ⟨v20, h1, h0⟩ := bnd h0
  refine aw_cut ⟨updA (updA (updA (updA ((fun _ => .dead)) 2 (.ptr 3 0 1 0 0)) 4 (.own 4 0 (v1).length)) 5 (.own 5 0 (v11).length)) 54 (.d (.v (.bool v20))), lks [.no, .no, .no, .live [⟨44, 7, .av [[.d (.v (.int .i64 0)), .d (.v (.int .i64 0)), .d (.v (.int .i64 0)), .d (.v (.int .i64 0)), .d (.v (.int .i64 0)), .d (.v (.int .i64 0)), .d (.v (.string (⟨#[]⟩ : ByteArray)))]]⟩], .live [⟨9, 1, .data (List.map cS v1)⟩], .live [⟨2, 1, .data (List.map cI v11)⟩]]⟩ ?_ ?_
  refine sr [0,1,2,3,4,5,6,7,8,9] ?_
  refine rp rfl w0 rfl (pu_move (r := .own _ _ _) rfl) ?_
  obtain ⟨v19, hv19, h1⟩ := bnd h1
  refine rl rfl w0 rfl (ow_ix tok hv19 rfl rfl rfl rfl rfl rfl rfl rfl) ?_
  refine rl rfl w0 rfl (rw_ld1 tok (atI_e hv19).2.1 rfl rfl rfl rfl rfl rfl) ?_
  refine rp rfl w0 rfl (pu_seql rfl rfl) ?_
  refine pm ?_
  refine ra_if (u := 59) h1 rfl (fun hc h1 => ?_) (fun hc h1 => ?_)
  refine rp rfl (w1 rfl rfl rfl) rfl (pu_move (r := .own _ _ _) rfl) ?_
  refine rl rfl (w1 rfl rfl rfl) rfl (ow_len tok rfl rfl rfl rfl rfl) ?_
  refine rp rfl (w1 rfl rfl rfl) rfl (pu_eql rfl rfl) ?_
  refine pkt ?_
  refine pa ?_
  refine nx ?_
  cases h1
  exact wk [0, 1, 2, 3, 4, 5]
  iterate 3 refine k1 ?_
  refine pkf ?_
  refine pa ?_
  refine nx ?_
  cases h1
  exact wk [0, 1, 2, 3, 4, 5]
  refine aw_ifB h0 rfl (fun hc h0 => ?_) (fun hc h0 => ?_)
  refine aw_seq ?_
  refine aw_region_draw (is := [0, 1, 2, 3, 4, 5, 6, 7, 8, 9, 10, 11, 12]) [0, 1, 3, 0, 8, 24, 63, 0, 128, 384, 1023, 2047, 4095] follows (by kernel_rfl) ?_
  refine rt_p rfl w0 rfl (pu_move (r := .own _ _ _) rfl) ?_
  obtain ⟨v21, hv21, h0⟩ := bnd h0
  refine rt_lk rfl w0 rfl (ow_ix tok hv21 rfl rfl rfl rfl rfl rfl rfl rfl) rfl rfl rfl ?_
  refine rt_lk rfl w0 rfl (rw_ld1 tok (atI_e hv21).2.1 rfl rfl rfl rfl rfl rfl) rfl rfl rfl ?_
  refine rt_p rfl w0 rfl (pu_move (r := .own _ _ _) rfl) ?_
  obtain ⟨v22, hv22, h0⟩ := bnd h0
  refine rt_lk rfl w0 rfl (ow_ix tok hv22 rfl rfl rfl rfl rfl rfl rfl rfl) rfl rfl rfl ?_
  refine rt_lk rfl w0 rfl (rw_ld1 tok (atI_e hv22).2.1 rfl rfl rfl rfl rfl rfl) rfl rfl rfl ?_
  refine rt_p rfl w0 rfl (pbl (C0 := [.d (.v (.int .i64 0)), .d (.v (.int .i64 0))]) tok rfl rfl rfl) ?_
  refine rt_p rfl w0 rfl (pu_move (r := .own _ _ _) rfl) ?_
  obtain ⟨v23, hv23, h0⟩ := bnd h0
  refine rt_lk rfl w0 rfl (ow_ix tok hv23 rfl rfl rfl rfl rfl rfl rfl rfl) rfl rfl rfl ?_
  refine rt_lk rfl w0 rfl (rw_ld1 tok (atI_e hv23).2.1 rfl rfl rfl rfl rfl rfl) rfl rfl rfl ?_
  obtain ⟨v24, hv24, h0⟩ := bnd h0
  refine rt_c rfl w0 rfl (b_call 6 (i_circle_c hv24) rfl rfl rfl) ?_
  refine rt_wk rfl w0 (bx_st (cs := _ :: _) tok rfl rfl rfl rfl rfl rfl rfl) ?_
  refine tpa ?_
  refine rt_nil ?_
  refine ⟨by kernel_rfl, ?_⟩
  refine then_n ?_
  refine aw_ret ?_
  refine block_r ?_
  refine then_r ?_
  cases h0
  exact ret0_ (rs := [.cell 2 44, .tmp 3]) rfl
  obtain ⟨v26, h1, h0⟩ := bnd h0
  refine aw_cut ⟨updA (updA (updA (updA ((fun _ => .dead)) 2 (.ptr 3 0 1 0 0)) 4 (.own 4 0 (v1).length)) 5 (.own 5 0 (v11).length)) 75 (.d (.v (.bool v26))), lks [.no, .no, .no, .live [⟨44, 7, .av [[.d (.v (.int .i64 0)), .d (.v (.int .i64 0)), .d (.v (.int .i64 0)), .d (.v (.int .i64 0)), .d (.v (.int .i64 0)), .d (.v (.int .i64 0)), .d (.v (.string (⟨#[]⟩ : ByteArray)))]]⟩], .live [⟨9, 1, .data (List.map cS v1)⟩], .live [⟨2, 1, .data (List.map cI v11)⟩]]⟩ ?_ ?_
  refine sr [0,1,2,3,4,5,6,7,8,9] ?_
  refine rp rfl w0 rfl (pu_move (r := .own _ _ _) rfl) ?_
  obtain ⟨v25, hv25, h1⟩ := bnd h1
  refine rl rfl w0 rfl (ow_ix tok hv25 rfl rfl rfl rfl rfl rfl rfl rfl) ?_
  refine rl rfl w0 rfl (rw_ld1 tok (atI_e hv25).2.1 rfl rfl rfl rfl rfl rfl) ?_
  refine rp rfl w0 rfl (pu_seql rfl rfl) ?_
  refine pm ?_
  refine ra_if (u := 80) h1 rfl (fun hc h1 => ?_) (fun hc h1 => ?_)
  refine rp rfl (w1 rfl rfl rfl) rfl (pu_move (r := .own _ _ _) rfl) ?_
  refine rl rfl (w1 rfl rfl rfl) rfl (ow_len tok rfl rfl rfl rfl rfl) ?_
  refine rp rfl (w1 rfl rfl rfl) rfl (pu_eql rfl rfl) ?_
  refine pkt ?_
  refine pa ?_
  refine nx ?_
  cases h1
  exact wk [0, 1, 2, 3, 4, 5]
  iterate 3 refine k1 ?_
  refine pkf ?_
  refine pa ?_
  refine nx ?_
  cases h1
  exact wk [0, 1, 2, 3, 4, 5]
  refine aw_ifB h0 rfl (fun hc h0 => ?_) (fun hc h0 => ?_)
  refine aw_seq ?_
  refine aw_region_draw (is := [0, 1, 2, 3, 4, 5, 6, 7, 8, 9, 10, 11, 12]) [0, 1, 3, 0, 8, 24, 63, 0, 128, 384, 1023, 2047, 4095] follows (by kernel_rfl) ?_
  refine rt_p rfl w0 rfl (pu_move (r := .own _ _ _) rfl) ?_
  obtain ⟨v27, hv27, h0⟩ := bnd h0
  refine rt_lk rfl w0 rfl (ow_ix tok hv27 rfl rfl rfl rfl rfl rfl rfl rfl) rfl rfl rfl ?_
  refine rt_lk rfl w0 rfl (rw_ld1 tok (atI_e hv27).2.1 rfl rfl rfl rfl rfl rfl) rfl rfl rfl ?_
  refine rt_p rfl w0 rfl (pu_move (r := .own _ _ _) rfl) ?_
  obtain ⟨v28, hv28, h0⟩ := bnd h0
  refine rt_lk rfl w0 rfl (ow_ix tok hv28 rfl rfl rfl rfl rfl rfl rfl rfl) rfl rfl rfl ?_
  refine rt_lk rfl w0 rfl (rw_ld1 tok (atI_e hv28).2.1 rfl rfl rfl rfl rfl rfl) rfl rfl rfl ?_
  refine rt_p rfl w0 rfl (pbl (C0 := [.d (.v (.int .i64 0)), .d (.v (.int .i64 0))]) tok rfl rfl rfl) ?_
  refine rt_p rfl w0 rfl (pu_move (r := .own _ _ _) rfl) ?_
  obtain ⟨v29, hv29, h0⟩ := bnd h0
  refine rt_lk rfl w0 rfl (ow_ix tok hv29 rfl rfl rfl rfl rfl rfl rfl rfl) rfl rfl rfl ?_
  refine rt_lk rfl w0 rfl (rw_ld1 tok (atI_e hv29).2.1 rfl rfl rfl rfl rfl rfl) rfl rfl rfl ?_
  obtain ⟨v30, hv30, h0⟩ := bnd h0
  refine rt_c rfl w0 rfl (b_call 6 (i_label_c hv30) rfl rfl rfl) ?_
  refine rt_wk rfl w0 (bx_st (cs := _ :: _) tok rfl rfl rfl rfl rfl rfl rfl) ?_
  refine tpa ?_
  refine rt_nil ?_
  refine ⟨by kernel_rfl, ?_⟩
  refine then_n ?_
  refine aw_ret ?_
  refine block_r ?_
  refine then_r ?_
  cases h0
  exact ret0_ (rs := [.cell 2 44, .tmp 3]) rfl
  refine aw_skip ?_
  refine block_n ?_
  refine then_n ?_
  refine sq [0,1,2] ?_
  refine rp rfl w0 rfl (pbl (C0 := [.d (.v (.int .i64 0)), .d (.v (.int .i64 0)), .d (.v (.int .i64 0)), .d (.v (.int .i64 0)), .d (.v (.int .i64 0)), .d (.v (.int .i64 0)), .d (.v (.string (⟨#[]⟩ : ByteArray)))]) tok rfl rfl rfl) ?_
  refine rw0 rfl w0 (bx_st (cs := _ :: _) tok rfl rfl rfl rfl rfl rfl rfl) ?_
  refine pa ?_
  refine nx ?_
  refine aw_ret ?_
  cases h0
  exact ret0_ (rs := [.cell 2 44, .tmp 3]) rfl

theorem i_within_c {p0 : Int} {p1 : Int} {p2 : Int} {r : Bool} (h0 : i_within_m p0 p1 p2 = some r) : FnC Tryz.prog 65 [] [.d (.v (.int .i64 p0)), .d (.v (.int .i64 p1)), .d (.v (.int .i64 p2))] [] (.d (.v (.bool r))) := by
  refine fnc_intro (T := tt) (N := 15) tok Tryz.func65 rfl rfl (by kernel_rfl) rfl rfl ?_
  unfold i_within_m at h0
  refine sq [0] ?_
  refine pa ?_
  refine nx ?_
  refine sq [0,1,2,3,4,5,6,7,8] ?_
  refine pm ?_
  refine pm ?_
  refine rp rfl w0 rfl (pu_geq rfl rfl) ?_
  refine pm ?_
  refine ra_if (u := 10) h0 rfl (fun hc h0 => ?_) (fun hc h0 => ?_)
  refine pm1 ?_
  refine pm1 ?_
  refine rp rfl (w1 rfl rfl rfl) rfl (pu_leq rfl rfl) ?_
  refine pkt ?_
  refine pa ?_
  refine nx ?_
  refine aw_ret ?_
  cases h0
  exact ret0_ (rs := [.tmp 6]) rfl
  iterate 3 refine k1 ?_
  refine pkf ?_
  refine pa ?_
  refine nx ?_
  refine aw_ret ?_
  cases h0
  exact ret0_ (rs := [.tmp 6]) rfl

theorem i_validSpot_c {p0 : Spot_} {r : Bool} (h0 : i_validSpot_m p0 = some r) : FnC Tryz.prog 64 [] [.agg [.d (.v (.int .i64 p0.X)), .d (.v (.int .i64 p0.Y))]] [] (.d (.v (.bool r))) := by
  refine fnc_intro (T := tt) (N := 11) tok Tryz.func64 rfl rfl (by kernel_rfl) rfl rfl ?_
  unfold i_validSpot_m at h0
  refine sq [0,1] ?_
  refine rs rfl w0 rfl (st_box 3 (cs := _ :: _) rfl rfl rfl) ?_
  refine pa ?_
  refine nx ?_
  refine sq [0,1,2,3,4,5,6,7,8] ?_
  refine fa tok ?_
  refine ld tok ?_
  obtain ⟨v1, hv1, h0⟩ := bnd h0
  refine rs rfl w0 rfl (c_call 4 (i_within_c hv1) rfl rfl rfl) ?_
  refine pm ?_
  refine ra_ifB (u := 6) h0 rfl (fun hc h0 => ?_) (fun hc h0 => ?_)
  refine fa1 tok ?_
  refine ld1 tok ?_
  obtain ⟨v2, hv2, h0⟩ := bnd h0
  refine rs rfl (w1 rfl rfl rfl) rfl (c_call 4 (i_within_c hv2) rfl rfl rfl) ?_
  refine pkt ?_
  refine pa ?_
  refine nx ?_
  refine aw_ret ?_
  cases h0
  exact ret0_ (rs := [.tmp 2]) rfl
  iterate 3 refine k1 ?_
  refine pkf ?_
  refine pa ?_
  refine nx ?_
  refine aw_ret ?_
  cases h0
  exact ret0_ (rs := [.tmp 2]) rfl

theorem i_IsName_c {p0 : ByteArray} {r : Bool} (h0 : i_IsName_m p0 = some r) : FnC Tryz.prog 66 [] [.d (.v (.string p0))] [] (.d (.v (.bool r))) := by
  refine fnc_intro (T := tt) (N := 50) tok Tryz.func66 rfl rfl (by kernel_rfl) rfl rfl ?_
  unfold i_IsName_m at h0
  refine sq [0] ?_
  refine pa ?_
  refine nx ?_
  refine aw_seq ?_
  obtain ⟨v1, h1, h0⟩ := bnd h0
  refine aw_cut ⟨updA (updA ((fun _ => .dead)) 0 (.d (.v (.string p0)))) 14 (.d (.v (.bool v1))), lks [.no, .no, .no]⟩ ?_ ?_
  refine sr [0,1,2,3,4,5,6,7] ?_
  refine pm ?_
  refine rp rfl w0 rfl (pu_len_str tok rfl rfl rfl) ?_
  refine rp rfl w0 rfl (pu_lss rfl rfl) ?_
  refine pm ?_
  refine ra_if (u := 10) h1 rfl (fun hc h1 => ?_) (fun hc h1 => ?_)
  iterate 3 refine k1 ?_
  refine pkt ?_
  refine nx ?_
  cases h1
  exact wk [0, 1, 2]
  refine pm1 ?_
  refine rp rfl (w1 rfl rfl rfl) rfl (pu_len_str tok rfl rfl rfl) ?_
  refine rp rfl (w1 rfl rfl rfl) rfl (pu_gtr rfl rfl) ?_
  refine pkf ?_
  refine nx ?_
  cases h1
  exact wk [0, 1, 2]
  refine aw_ifB h0 rfl (fun hc h0 => ?_) (fun hc h0 => ?_)
  refine sq [0] ?_
  refine pa ?_
  refine nx ?_
  refine aw_ret ?_
  refine then_r ?_
  cases h0
  exact ret0_ (rs := [.tmp 2]) rfl
  refine sk ?_
  obtain ⟨v13x, h1, h0⟩ := bnd h0
  refine aw_cutE v13x (fun v13 => ⟨(fun _ => .dead), lks [.no, .no, .no]⟩) ?_ ?_
  refine sq [0,1,2,3] ?_
  refine pm ?_
  obtain ⟨hq2, h1⟩ := chk_e h1
  refine rs rfl w0 rfl (cv_sb tok hq2 rfl rfl rfl rfl rfl rfl rfl) ?_
  refine rp rfl w0 rfl (pu_len_map tok rfl rfl rfl) ?_
  refine pm ?_
  refine nx ?_
  refine aw_block ?_
  refine aw_loopM (fun s8 => ⟨updA (updA (updA ((fun _ => .dead)) 16 (.d (.sl (List.map cU8 (bytesL p0))))) 17 (.d (.v (.int .i64 ((bytesL p0).length : Int))))) 18 (.d (.v (.int .i64 s8))), lks [.no, .no, .no]⟩) h1 ?_ (fun s8 y h2 => ?_)
  exact wk [0, 1, 2]
  refine sq [0] ?_
  refine rp rfl w0 rfl (pu_lss rfl rfl) ?_
  refine nx ?_
  refine aw_seq ?_
  refine aw_if h2 rfl (fun hc h2 => ?_) (fun hc h2 => ?_)
  refine sk ?_
  refine aw_seq ?_
  refine aw_block ?_
  refine sq [0,1,2,3,4] ?_
  refine pm ?_
  obtain ⟨v9, hv9, h2⟩ := bnd h2
  refine rp rfl w0 rfl (sl_ix tok hv9 rfl rfl rfl rfl rfl rfl) ?_
  refine lr tok ?_
  refine pa ?_
  refine pa ?_
  refine nx ?_
  obtain ⟨v10, h3, h2⟩ := bnd h2
  refine aw_cut ⟨updA (updA (updA (updA (updA (updA ((fun _ => .dead)) 3 (.d (.v (.int .i64 s8)))) 4 (.d (.v (.int .u8 v9)))) 5 (.d (.v (.bool v10)))) 16 (.d (.sl (List.map cU8 (bytesL p0))))) 17 (.d (.v (.int .i64 ((bytesL p0).length : Int))))) 18 (.d (.v (.int .i64 s8))), lks [.no, .no, .no]⟩ ?_ ?_
  refine sr [0,1,2,3,4,5,6] ?_
  refine pm ?_
  refine rp rfl w0 rfl (pu_geq rfl rfl) ?_
  refine pm ?_
  refine ra_if (u := 25) h3 rfl (fun hc h3 => ?_) (fun hc h3 => ?_)
  refine pm1 ?_
  refine rp rfl (w1 rfl rfl rfl) rfl (pu_leq rfl rfl) ?_
  refine pkt ?_
  refine pa ?_
  refine nx ?_
  cases h3
  exact wk [0, 1, 2]
  refine k1 ?_
  refine k1 ?_
  refine pkf ?_
  refine pa ?_
  refine nx ?_
  cases h3
  exact wk [0, 1, 2]
  obtain ⟨v11, h3, h2⟩ := bnd h2
  refine aw_cut ⟨updA (updA (updA (updA (updA (updA ((fun _ => .dead)) 3 (.d (.v (.int .i64 s8)))) 5 (.d (.v (.bool v10)))) 6 (.d (.v (.bool v11)))) 16 (.d (.sl (List.map cU8 (bytesL p0))))) 17 (.d (.v (.int .i64 ((bytesL p0).length : Int))))) 18 (.d (.v (.int .i64 s8))), lks [.no, .no, .no]⟩ ?_ ?_
  refine sr [0,1,2,3,4,5,6,7,8,9,10] ?_
  refine pm ?_
  refine rp rfl w0 rfl (pu_geq rfl rfl) ?_
  refine pm ?_
  refine ra_if (u := 31) h3 rfl (fun hc h3 => ?_) (fun hc h3 => ?_)
  refine pm1 ?_
  refine rp rfl (w1 rfl rfl rfl) rfl (pu_leq rfl rfl) ?_
  refine pkt ?_
  refine pm ?_
  refine ra_if (u := 35) h3 rfl (fun hc h3 => ?_) (fun hc h3 => ?_)
  refine k1 ?_
  refine k1 ?_
  refine pkt ?_
  refine pa ?_
  refine nx ?_
  cases h3
  exact wk [0, 1, 2]
  refine pm1 ?_
  refine rp rfl (w1 rfl rfl rfl) rfl (pu_eql rfl rfl) ?_
  refine pkf ?_
  refine pa ?_
  refine nx ?_
  cases h3
  exact wk [0, 1, 2]
  refine k1 ?_
  refine k1 ?_
  refine pkf ?_
  refine pm ?_
  refine pm1 ?_
  refine rp rfl (w1 rfl rfl rfl) rfl (pu_eql rfl rfl) ?_
  refine pkf ?_
  refine pa ?_
  refine nx ?_
  cases h3
  exact wk [0, 1, 2]
  obtain ⟨v12, h3, h2⟩ := bnd h2
  refine aw_cut ⟨updA (updA (updA (updA ((fun _ => .dead)) 16 (.d (.sl (List.map cU8 (bytesL p0))))) 17 (.d (.v (.int .i64 ((bytesL p0).length : Int))))) 18 (.d (.v (.int .i64 s8)))) 48 (.d (.v (.bool v12))), lks [.no, .no, .no]⟩ ?_ ?_
  refine sr [0,1,2,3,4,5,6,7,8,9] ?_
  refine pm ?_
  refine rp rfl w0 rfl (pu_not rfl) ?_
  refine pm ?_
  refine ra_ifB (u := 41) h3 rfl (fun hc h3 => ?_) (fun hc h3 => ?_)
  refine pm1 ?_
  refine rp rfl (w1 rfl rfl rfl) rfl (pu_eql rfl rfl) ?_
  refine pm1 ?_
  refine ra_if (u := 44) h3 rfl (fun hc h3 => ?_) (fun hc h3 => ?_)
  refine k1 ?_
  refine k1 ?_
  refine pkt1 ?_
  refine pkt ?_
  refine nx ?_
  cases h3
  exact wk [0, 1, 2]
  refine pm1 ?_
  refine rp rfl (w1 rfl rfl rfl) rfl (pu_not rfl) ?_
  refine pkf1 ?_
  refine pkt ?_
  refine nx ?_
  cases h3
  exact wk [0, 1, 2]
  iterate 6 refine k1 ?_
  refine pkf ?_
  refine nx ?_
  cases h3
  exact wk [0, 1, 2]
  refine aw_ifB h2 rfl (fun hc h2 => ?_) (fun hc h2 => ?_)
  refine sq [0] ?_
  refine pa ?_
  refine nx ?_
  refine aw_ret ?_
  refine block_r ?_
  refine then_r ?_
  cases h2
  refine loop_r ⟨_, rfl, fun e => ?_⟩
  subst e
  refine block_r ?_
  replace h0 := orE_s h0
  refine then_r ?_
  cases h0
  exact ret0_ (rs := [.tmp 2]) rfl
  refine aw_skip ?_
  refine block_n ?_
  refine then_n ?_
  refine sr [0,1] ?_
  refine rp rfl w0 rfl (pw_add rfl rfl) ?_
  refine pm ?_
  refine ra_nil ?_
  refine loop_n ?_
  cases h2
  refine ⟨_, rfl, ?_⟩
  exact wk [0, 1, 2]
  refine aw_exit ?_
  refine then_e ?_
  cases h2
  refine loop_x ⟨_, rfl, fun e => ?_⟩
  subst e
  refine block_hit ?_
  refine then_n ?_
  refine ⟨_, rfl, ?_⟩
  exact wk [0, 1, 2]
  rintro v13 rfl
  replace h0 := orE_f h0
  refine sq [0] ?_
  refine pa ?_
  refine nx ?_
  refine aw_ret ?_
  cases h0
  exact ret0_ (rs := [.tmp 2]) rfl

theorem i_validShape_c {p0 : Shape_} {r : Bool} (h0 : i_validShape_m p0 = some r) : FnC Tryz.prog 39 [] [.agg [.d (.v (.int .i64 p0.Kind)), .d (.v (.int .i64 p0.A.X)), .d (.v (.int .i64 p0.A.Y)), .d (.v (.int .i64 p0.B.X)), .d (.v (.int .i64 p0.B.Y)), .d (.v (.int .i64 p0.R)), .d (.v (.string p0.Name))]] [] (.d (.v (.bool r))) := by
  refine fnc_intro (T := tt) (N := 51) tok Tryz.func39 rfl rfl (by kernel_rfl) rfl rfl ?_
  unfold i_validShape_m at h0
  refine sq [0,1] ?_
  refine rs rfl w0 rfl (st_box 3 (cs := _ :: _) rfl rfl rfl) ?_
  refine pa ?_
  refine nx ?_
  refine aw_seq ?_
  refine sq [0,1,2,3] ?_
  refine fa tok ?_
  refine rl rfl w0 rfl (bx_ldN tok rfl rfl rfl rfl) ?_
  obtain ⟨v1, hv1, h0⟩ := bnd h0
  refine rs rfl w0 rfl (c_call 4 (i_validSpot_c hv1) rfl rfl rfl) ?_
  refine rp rfl w0 rfl (pu_not rfl) ?_
  refine nx ?_
  refine aw_ifB h0 rfl (fun hc h0 => ?_) (fun hc h0 => ?_)
  refine sq [0] ?_
  refine pa ?_
  refine nx ?_
  refine aw_ret ?_
  refine then_r ?_
  cases h0
  exact ret0_ (rs := [.tmp 2]) rfl
  refine sk ?_
  refine aw_seq ?_
  refine sq [0,1] ?_
  refine fa tok ?_
  refine ld tok ?_
  refine nx ?_
  refine aw_block ?_
  refine sq [0,1] ?_
  refine rp rfl w0 rfl (pu_eql rfl rfl) ?_
  refine pa ?_
  refine nx ?_
  refine aw_if h0 rfl (fun hc h0 => ?_) (fun hc h0 => ?_)
  refine aw_seq ?_
  refine aw_region_draw (is := [0, 1, 2, 3, 4, 5, 6, 7, 8, 9, 10, 11, 12]) [0, 1, 3, 7, 15, 15, 47, 15, 143, 495, 1023, 2047, 4095] follows (by kernel_rfl) ?_
  refine rt_lk rfl w0 rfl (bx_fa tok rfl rfl rfl rfl rfl rfl rfl) rfl rfl rfl ?_
  refine rt_lk rfl w0 rfl (bx_ldN tok rfl rfl rfl rfl) rfl rfl rfl ?_
  obtain ⟨v2, hv2, h0⟩ := bnd h0
  refine rt_c rfl w0 rfl (b_call 4 (i_validSpot_c hv2) rfl rfl rfl) ?_
  refine tpm ?_
  refine rt_ifB (u := 14) h0 rfl (fun hc h0 => ?_) (fun hc h0 => ?_)
  refine rt_lk rfl (w1 rfl rfl rfl) rfl (bx_ldN tok rfl rfl rfl rfl) rfl rfl rfl ?_
  refine rt_lk rfl (w1 rfl rfl rfl) rfl (bx_fa tok rfl rfl rfl rfl rfl rfl rfl) rfl rfl rfl ?_
  refine rt_lk rfl (w1 rfl rfl rfl) rfl (bx_ldN tok rfl rfl rfl rfl) rfl rfl rfl ?_
  refine rt_lk rfl (w1 rfl rfl rfl) rfl (bx_fa tok rfl rfl rfl rfl rfl rfl rfl) rfl rfl rfl ?_
  refine rt_lk rfl (w1 rfl rfl rfl) rfl (bx_ldN tok rfl rfl rfl rfl) rfl rfl rfl ?_
  obtain ⟨v3, hv3, h0⟩ := bnd h0
  refine rt_c rfl (w1 rfl rfl rfl) rfl (b_call 4 (i_line_c hv3) rfl rfl rfl) ?_
  refine rt_p rfl (w1 rfl rfl rfl) rfl (ps_eql_Shape_ (a := p0) (b := v3) rfl rfl) ?_
  refine tpkt ?_
  refine tpa ?_
  refine rt_nil ?_
  refine ⟨by kernel_rfl, ?_⟩
  refine then_n ?_
  refine aw_ret ?_
  refine block_r ?_
  refine then_r ?_
  cases h0
  exact ret0_ (rs := [.tmp 2]) rfl
  iterate 7 refine k2 ?_
  refine tpkf ?_
  refine tpa ?_
  refine rt_nil ?_
  refine ⟨by kernel_rfl, ?_⟩
  refine then_n ?_
  refine aw_ret ?_
  refine block_r ?_
  refine then_r ?_
  cases h0
  exact ret0_ (rs := [.tmp 2]) rfl
  refine sq [0,1] ?_
  refine rp rfl w0 rfl (pu_eql rfl rfl) ?_
  refine pa ?_
  refine nx ?_
  refine aw_if h0 rfl (fun hc h0 => ?_) (fun hc h0 => ?_)
  refine aw_seq ?_
  refine aw_region_draw (is := [0, 1, 2, 3, 4, 5, 6, 7, 8, 9, 10, 11, 12]) [0, 1, 3, 7, 15, 15, 47, 15, 143, 495, 1023, 2047, 4095] follows (by kernel_rfl) ?_
  refine rt_lk rfl w0 rfl (bx_fa tok rfl rfl rfl rfl rfl rfl rfl) rfl rfl rfl ?_
  refine rt_lk rfl w0 rfl (bx_ld1 tok rfl rfl rfl rfl rfl) rfl rfl rfl ?_
  obtain ⟨v4, hv4, h0⟩ := bnd h0
  refine rt_c rfl w0 rfl (b_call 4 (i_within_c hv4) rfl rfl rfl) ?_
  refine tpm ?_
  refine rt_ifB (u := 28) h0 rfl (fun hc h0 => ?_) (fun hc h0 => ?_)
  refine rt_lk rfl (w1 rfl rfl rfl) rfl (bx_ldN tok rfl rfl rfl rfl) rfl rfl rfl ?_
  refine rt_lk rfl (w1 rfl rfl rfl) rfl (bx_fa tok rfl rfl rfl rfl rfl rfl rfl) rfl rfl rfl ?_
  refine rt_lk rfl (w1 rfl rfl rfl) rfl (bx_ldN tok rfl rfl rfl rfl) rfl rfl rfl ?_
  refine rt_lk rfl (w1 rfl rfl rfl) rfl (bx_fa tok rfl rfl rfl rfl rfl rfl rfl) rfl rfl rfl ?_
  refine rt_lk rfl (w1 rfl rfl rfl) rfl (bx_ld1 tok rfl rfl rfl rfl rfl) rfl rfl rfl ?_
  obtain ⟨v5, hv5, h0⟩ := bnd h0
  refine rt_c rfl (w1 rfl rfl rfl) rfl (b_call 4 (i_circle_c hv5) rfl rfl rfl) ?_
  refine rt_p rfl (w1 rfl rfl rfl) rfl (ps_eql_Shape_ (a := p0) (b := v5) rfl rfl) ?_
  refine tpkt ?_
  refine tpa ?_
  refine rt_nil ?_
  refine ⟨by kernel_rfl, ?_⟩
  refine then_n ?_
  refine aw_ret ?_
  refine block_r ?_
  refine then_r ?_
  cases h0
  exact ret0_ (rs := [.tmp 2]) rfl
  iterate 7 refine k2 ?_
  refine tpkf ?_
  refine tpa ?_
  refine rt_nil ?_
  refine ⟨by kernel_rfl, ?_⟩
  refine then_n ?_
  refine aw_ret ?_
  refine block_r ?_
  refine then_r ?_
  cases h0
  exact ret0_ (rs := [.tmp 2]) rfl
  refine sq [0,1] ?_
  refine rp rfl w0 rfl (pu_eql rfl rfl) ?_
  refine pa ?_
  refine nx ?_
  refine aw_if h0 rfl (fun hc h0 => ?_) (fun hc h0 => ?_)
  refine aw_seq ?_
  refine aw_region_draw (is := [0, 1, 2, 3, 4, 5, 6, 7, 8, 9, 10, 11, 12]) [0, 1, 3, 7, 15, 15, 47, 15, 143, 495, 1023, 2047, 4095] follows (by kernel_rfl) ?_
  refine rt_lk rfl w0 rfl (bx_fa tok rfl rfl rfl rfl rfl rfl rfl) rfl rfl rfl ?_
  refine rt_lk rfl w0 rfl (bx_ld1 tok rfl rfl rfl rfl rfl) rfl rfl rfl ?_
  obtain ⟨v6, hv6, h0⟩ := bnd h0
  refine rt_c rfl w0 rfl (b_call 4 (i_IsName_c hv6) rfl rfl rfl) ?_
  refine tpm ?_
  refine rt_ifB (u := 42) h0 rfl (fun hc h0 => ?_) (fun hc h0 => ?_)
  refine rt_lk rfl (w1 rfl rfl rfl) rfl (bx_ldN tok rfl rfl rfl rfl) rfl rfl rfl ?_
  refine rt_lk rfl (w1 rfl rfl rfl) rfl (bx_fa tok rfl rfl rfl rfl rfl rfl rfl) rfl rfl rfl ?_
  refine rt_lk rfl (w1 rfl rfl rfl) rfl (bx_ldN tok rfl rfl rfl rfl) rfl rfl rfl ?_
  refine rt_lk rfl (w1 rfl rfl rfl) rfl (bx_fa tok rfl rfl rfl rfl rfl rfl rfl) rfl rfl rfl ?_
  refine rt_lk rfl (w1 rfl rfl rfl) rfl (bx_ld1 tok rfl rfl rfl rfl rfl) rfl rfl rfl ?_
  obtain ⟨v7, hv7, h0⟩ := bnd h0
  refine rt_c rfl (w1 rfl rfl rfl) rfl (b_call 4 (i_label_c hv7) rfl rfl rfl) ?_
  refine rt_p rfl (w1 rfl rfl rfl) rfl (ps_eql_Shape_ (a := p0) (b := v7) rfl rfl) ?_
  refine tpkt ?_
  refine tpa ?_
  refine rt_nil ?_
  refine ⟨by kernel_rfl, ?_⟩
  refine then_n ?_
  refine aw_ret ?_
  refine block_r ?_
  refine then_r ?_
  cases h0
  exact ret0_ (rs := [.tmp 2]) rfl
  iterate 7 refine k2 ?_
  refine tpkf ?_
  refine tpa ?_
  refine rt_nil ?_
  refine ⟨by kernel_rfl, ?_⟩
  refine then_n ?_
  refine aw_ret ?_
  refine block_r ?_
  refine then_r ?_
  cases h0
  exact ret0_ (rs := [.tmp 2]) rfl
  refine aw_skip ?_
  refine block_n ?_
  refine then_n ?_
  refine sq [0] ?_
  refine pa ?_
  refine nx ?_
  refine aw_ret ?_
  cases h0
  exact ret0_ (rs := [.tmp 2]) rfl

theorem i_ValidDrawing_1_c {p0 : Shape_} {r : Bool} (h0 : i_ValidDrawing_1_m p0 = some r) : FnC Tryz.prog 38 [] [.agg [.d (.v (.int .i64 p0.Kind)), .d (.v (.int .i64 p0.A.X)), .d (.v (.int .i64 p0.A.Y)), .d (.v (.int .i64 p0.B.X)), .d (.v (.int .i64 p0.B.Y)), .d (.v (.int .i64 p0.R)), .d (.v (.string p0.Name))]] [] (.d (.v (.bool r))) := by
  refine fnc_intro (T := tt) (N := 6) tok Tryz.func38 rfl rfl (by kernel_rfl) rfl rfl ?_
  unfold i_ValidDrawing_1_m at h0
  refine sq [0,1] ?_
  refine rs rfl w0 rfl (st_box 3 (cs := _ :: _) rfl rfl rfl) ?_
  refine pa ?_
  refine nx ?_
  refine sq [0,1,2,3] ?_
  refine rl rfl w0 rfl (bx_ldN tok rfl rfl rfl rfl) ?_
  obtain ⟨v1, hv1, h0⟩ := bnd h0
  refine rs rfl w0 rfl (c_call 4 (i_validShape_c hv1) rfl rfl rfl) ?_
  refine rp rfl w0 rfl (pu_not rfl) ?_
  refine pa ?_
  refine nx ?_
  refine aw_ret ?_
  cases h0
  exact ret0_ (rs := [.tmp 2]) rfl

theorem slices_IndexFunc_LShape_Shape_i_ValidDrawing_1_c {p0 : List Shape_} {r : Int} (h0 : slices_IndexFunc_LShape_Shape_i_ValidDrawing_1_m p0 = some r) : FnC Tryz.prog 63 [] [.d (.sl (List.map cShape_ p0)), .fn 38 []] [] (.d (.v (.int .i64 r))) := by
  refine fnc_intro (T := tt) (N := 19) tok Tryz.func63 rfl rfl (by kernel_rfl) rfl rfl ?_
  unfold slices_IndexFunc_LShape_Shape_i_ValidDrawing_1_m at h0
  refine sq [0] ?_
  refine pa ?_
  refine nx ?_
  obtain ⟨v7x, h1, h0⟩ := bnd h0
  refine aw_cutE v7x (fun v7 => ⟨(fun _ => .dead), lks [.no, .no, .no]⟩) ?_ ?_
  refine sq [0,1,2] ?_
  refine pm ?_
  refine rp rfl w0 rfl (pu_len_map tok rfl rfl rfl) ?_
  refine pm ?_
  refine nx ?_
  refine aw_block ?_
  refine aw_loopM (fun s4 => ⟨updA (updA (updA (updA ((fun _ => .dead)) 0 (.d (.sl (List.map cShape_ p0)))) 1 (.fn 38 [])) 7 (.d (.v (.int .i64 (p0.length : Int))))) 8 (.d (.v (.int .i64 s4))), lks [.no, .no, .no]⟩) h1 ?_ (fun s4 y h2 => ?_)
  exact wk [0, 1, 2]
  refine sq [0] ?_
  refine rp rfl w0 rfl (pu_lss rfl rfl) ?_
  refine nx ?_
  refine aw_seq ?_
  refine aw_if h2 rfl (fun hc h2 => ?_) (fun hc h2 => ?_)
  refine sk ?_
  refine aw_seq ?_
  refine aw_block ?_
  refine sq [0,1] ?_
  refine pm ?_
  refine pa ?_
  refine nx ?_
  refine sq [0,1,2,3,4,5] ?_
  refine rp rfl w0 rfl (pu_move (r := .fn _ _) rfl) ?_
  refine pm ?_
  refine pm ?_
  obtain ⟨v5, hv5, h2⟩ := bnd h2
  refine rp rfl w0 rfl (sl_ix tok hv5 rfl rfl rfl rfl rfl rfl) ?_
  refine rp rfl w0 rfl (pu_load_refN tok rfl rfl rfl (by repeat (first | exact SegD.z _ | apply SegD.t))) ?_
  obtain ⟨v6, hv6, h2⟩ := bnd h2
  refine rs rfl w0 rfl (c_call 3 (i_ValidDrawing_1_c hv6) rfl rfl rfl) ?_
  refine nx ?_
  refine aw_ifB h2 rfl (fun hc h2 => ?_) (fun hc h2 => ?_)
  refine sq [0,1] ?_
  refine pm ?_
  refine pa ?_
  refine nx ?_
  refine aw_ret ?_
  refine block_r ?_
  refine then_r ?_
  cases h2
  refine loop_r ⟨_, rfl, fun e => ?_⟩
  subst e
  refine block_r ?_
  replace h0 := orE_s h0
  refine then_r ?_
  cases h0
  exact ret0_ (rs := [.tmp 4]) rfl
  refine aw_skip ?_
  refine block_n ?_
  refine then_n ?_
  refine sr [0,1] ?_
  refine rp rfl w0 rfl (pw_add rfl rfl) ?_
  refine pm ?_
  refine ra_nil ?_
  refine loop_n ?_
  cases h2
  refine ⟨_, rfl, ?_⟩
  exact wk [0, 1, 2]
  refine aw_exit ?_
  refine then_e ?_
  cases h2
  refine loop_x ⟨_, rfl, fun e => ?_⟩
  subst e
  refine block_hit ?_
  refine then_n ?_
  refine ⟨_, rfl, ?_⟩
  exact wk [0, 1, 2]
  rintro v7 rfl
  replace h0 := orE_f h0
  refine sq [0] ?_
  refine pa ?_
  refine nx ?_
  refine aw_ret ?_
  cases h0
  exact ret0_ (rs := [.tmp 4]) rfl

theorem slices_ContainsFunc_LShape_Shape_i_ValidDrawing_1_c {p0 : List Shape_} {r : Bool} (h0 : slices_ContainsFunc_LShape_Shape_i_ValidDrawing_1_m p0 = some r) : FnC Tryz.prog 37 [] [.d (.sl (List.map cShape_ p0)), .fn 38 []] [] (.d (.v (.bool r))) := by
  refine fnc_intro (T := tt) (N := 9) tok Tryz.func37 rfl rfl (by kernel_rfl) rfl rfl ?_
  unfold slices_ContainsFunc_LShape_Shape_i_ValidDrawing_1_m at h0
  refine sq [0] ?_
  refine pa ?_
  refine nx ?_
  refine sq [0,1,2,3,4] ?_
  refine pm ?_
  refine rp rfl w0 rfl (pu_move (r := .fn _ _) rfl) ?_
  obtain ⟨v1, hv1, h0⟩ := bnd h0
  refine rs rfl w0 rfl (c_call 3 (slices_IndexFunc_LShape_Shape_i_ValidDrawing_1_c hv1) rfl rfl rfl) ?_
  refine rp rfl w0 rfl (pu_geq rfl rfl) ?_
  refine pa ?_
  refine nx ?_
  refine aw_ret ?_
  cases h0
  exact ret0_ (rs := [.tmp 4]) rfl

theorem i_ValidDrawing_c {p0 : Drawing_} {r : Bool} (h0 : i_ValidDrawing_m p0 = some r) : FnC Tryz.prog 17 [] [.agg [.d (.sl (List.map cShape_ p0.Shapes))]] [] (.d (.v (.bool r))) := by
  refine fnc_intro (T := tt) (N := 13) tok Tryz.func17 rfl rfl (by kernel_rfl) rfl rfl ?_
  unfold i_ValidDrawing_m at h0
  refine sq [0,1] ?_
  refine rs rfl w0 rfl (st_box 3 (cs := _ :: _) rfl rfl rfl) ?_
  refine pa ?_
  refine nx ?_
  refine sq [0,1,2,3,4,5,6,7,8,9,10] ?_
  refine fa tok ?_
  refine ld tok ?_
  refine rp rfl w0 rfl (pu_len_map tok rfl rfl rfl) ?_
  refine rp rfl w0 rfl (pu_leq rfl rfl) ?_
  refine pm ?_
  refine ra_if (u := 7) h0 rfl (fun hc h0 => ?_) (fun hc h0 => ?_)
  refine fa1 tok ?_
  refine ld1 tok ?_
  obtain ⟨v1, hv1, h0⟩ := bnd h0
  refine rs rfl (w1 rfl rfl rfl) rfl (c_call 4 (slices_ContainsFunc_LShape_Shape_i_ValidDrawing_1_c hv1) rfl rfl rfl) ?_
  refine rp rfl (w1 rfl rfl rfl) rfl (pu_not rfl) ?_
  refine pkt ?_
  refine pa ?_
  refine nx ?_
  refine aw_ret ?_
  cases h0
  exact ret0_ (rs := [.tmp 2]) rfl
  iterate 4 refine k1 ?_
  refine pkf ?_
  refine pa ?_
  refine nx ?_
  refine aw_ret ?_
  cases h0
  exact ret0_ (rs := [.tmp 2]) rfl

theorem strconv_FormatInt_c {p0 p1 : Int} {r : ByteArray} (h0 : strconv_FormatInt_m p0 p1 = some r) : FnC Tryz.prog 82 [] [.d (.v (.int .i64 p0)), .d (.v (.int .i64 p1))] [] (.d (.v (.string r))) := by
  obtain ⟨⟨q0, q1, q2⟩, h0⟩ := chk_e h0
  cases h0
  subst q2
  exact sh_fmt q0 q1

theorem i_Decimal_c {p0 : Int} {r : ByteArray} (h0 : i_Decimal_m p0 = some r) : FnC Tryz.prog 62 [] [.d (.v (.int .i64 p0))] [] (.d (.v (.string r))) := by
  refine fnc_intro (T := tt) (N := 5) tok Tryz.func62 rfl rfl (by kernel_rfl) rfl rfl ?_
  unfold i_Decimal_m at h0
  refine sq [0] ?_
  refine pa ?_
  refine nx ?_
  refine sq [0,1,2] ?_
  refine pm ?_
  obtain ⟨v1, hv1, h0⟩ := bnd h0
  refine rs rfl w0 rfl (c_call 3 (strconv_FormatInt_c hv1) rfl rfl rfl) ?_
  refine pa ?_
  refine nx ?_
  refine aw_ret ?_
  cases h0
  exact ret0_ (rs := [.tmp 2]) rfl

theorem i_shapeText_c {p0 : Shape_} {r : ByteArray} (h0 : i_shapeText_m p0 = some r) : FnC Tryz.prog 35 [] [.agg [.d (.v (.int .i64 p0.Kind)), .d (.v (.int .i64 p0.A.X)), .d (.v (.int .i64 p0.A.Y)), .d (.v (.int .i64 p0.B.X)), .d (.v (.int .i64 p0.B.Y)), .d (.v (.int .i64 p0.R)), .d (.v (.string p0.Name))]] [] (.d (.v (.string r))) := by
  refine fnc_intro (T := tt) (N := 47) tok Tryz.func35 rfl rfl (by kernel_rfl) rfl rfl ?_
  unfold i_shapeText_m at h0
  refine sq [0,1] ?_
  refine rs rfl w0 rfl (st_box 3 (cs := _ :: _) rfl rfl rfl) ?_
  refine pa ?_
  refine nx ?_
  refine aw_seq ?_
  refine aw_region_draw (is := [0, 1, 2, 5, 6, 7, 3, 4, 8, 9, 10]) [0, 1, 3, 7, 15, 0, 32, 96, 239, 511, 1023] follows (by kernel_rfl) ?_
  refine rt_lk rfl w0 rfl (bx_fa tok rfl rfl rfl rfl rfl rfl rfl) rfl rfl rfl ?_
  refine rt_lk rfl w0 rfl (bx_fa tok rfl rfl rfl rfl rfl rfl rfl) rfl rfl rfl ?_
  refine rt_lk rfl w0 rfl (bx_ld1 tok rfl rfl rfl rfl rfl) rfl rfl rfl ?_
  refine rt_lk rfl w0 rfl (bx_fa tok rfl rfl rfl rfl rfl rfl rfl) rfl rfl rfl ?_
  refine rt_lk rfl w0 rfl (bx_fa tok rfl rfl rfl rfl rfl rfl rfl) rfl rfl rfl ?_
  refine rt_lk rfl w0 rfl (bx_ld1 tok rfl rfl rfl rfl rfl) rfl rfl rfl ?_
  obtain ⟨v1, hv1, h0⟩ := bnd h0
  refine rt_c rfl w0 rfl (b_call 4 (i_Decimal_c hv1) rfl rfl rfl) ?_
  obtain ⟨hq2, h0⟩ := chk_e h0
  refine rt_p rfl w0 rfl (pu_cat rfl rfl hq2) ?_
  obtain ⟨v3, hv3, h0⟩ := bnd h0
  refine rt_c rfl w0 rfl (b_call 4 (i_Decimal_c hv3) rfl rfl rfl) ?_
  obtain ⟨hq4, h0⟩ := chk_e h0
  refine rt_p rfl w0 rfl (pu_cat rfl rfl hq4) ?_
  refine tpa ?_
  refine rt_nil ?_
  refine ⟨by kernel_rfl, ?_⟩
  refine then_n ?_
  refine aw_seq ?_
  refine sq [0,1] ?_
  refine fa tok ?_
  refine ld tok ?_
  refine nx ?_
  refine aw_block ?_
  refine sq [0,1] ?_
  refine rp rfl w0 rfl (pu_eql rfl rfl) ?_
  refine pa ?_
  refine nx ?_
  refine aw_if h0 rfl (fun hc h0 => ?_) (fun hc h0 => ?_)
  refine aw_seq ?_
  refine aw_region_draw (is := [0, 1, 2, 3, 4, 5, 9, 10, 11, 6, 7, 8, 12, 13, 14]) [0, 1, 3, 0, 8, 24, 56, 127, 255, 0, 512, 1536, 3704, 8191, 16383] follows (by kernel_rfl) ?_
  refine tpm ?_
  obtain ⟨hq5, h0⟩ := chk_e h0
  refine rt_p rfl w0 rfl (pu_cat rfl rfl hq5) ?_
  obtain ⟨hq6, h0⟩ := chk_e h0
  refine rt_p rfl w0 rfl (pu_cat rfl rfl hq6) ?_
  refine rt_lk rfl w0 rfl (bx_fa tok rfl rfl rfl rfl rfl rfl rfl) rfl rfl rfl ?_
  refine rt_lk rfl w0 rfl (bx_fa tok rfl rfl rfl rfl rfl rfl rfl) rfl rfl rfl ?_
  refine rt_lk rfl w0 rfl (bx_ld1 tok rfl rfl rfl rfl rfl) rfl rfl rfl ?_
  refine rt_lk rfl w0 rfl (bx_fa tok rfl rfl rfl rfl rfl rfl rfl) rfl rfl rfl ?_
  refine rt_lk rfl w0 rfl (bx_fa tok rfl rfl rfl rfl rfl rfl rfl) rfl rfl rfl ?_
  refine rt_lk rfl w0 rfl (bx_ld1 tok rfl rfl rfl rfl rfl) rfl rfl rfl ?_
  obtain ⟨v7, hv7, h0⟩ := bnd h0
  refine rt_c rfl w0 rfl (b_call 4 (i_Decimal_c hv7) rfl rfl rfl) ?_
  obtain ⟨hq8, h0⟩ := chk_e h0
  refine rt_p rfl w0 rfl (pu_cat rfl rfl hq8) ?_
  obtain ⟨hq9, h0⟩ := chk_e h0
  refine rt_p rfl w0 rfl (pu_cat rfl rfl hq9) ?_
  obtain ⟨v10, hv10, h0⟩ := bnd h0
  refine rt_c rfl w0 rfl (b_call 4 (i_Decimal_c hv10) rfl rfl rfl) ?_
  obtain ⟨hq11, h0⟩ := chk_e h0
  refine rt_p rfl w0 rfl (pu_cat rfl rfl hq11) ?_
  refine tpa ?_
  refine rt_nil ?_
  refine ⟨by kernel_rfl, ?_⟩
  refine then_n ?_
  refine aw_ret ?_
  refine block_r ?_
  refine then_r ?_
  cases h0
  exact ret0_ (rs := [.tmp 2]) rfl
  refine sq [0,1] ?_
  refine rp rfl w0 rfl (pu_eql rfl rfl) ?_
  refine pa ?_
  refine nx ?_
  refine aw_if h0 rfl (fun hc h0 => ?_) (fun hc h0 => ?_)
  refine sq [0,1,2,3,4,5,6,7] ?_
  refine pm ?_
  obtain ⟨hq12, h0⟩ := chk_e h0
  refine rp rfl w0 rfl (pu_cat rfl rfl hq12) ?_
  obtain ⟨hq13, h0⟩ := chk_e h0
  refine rp rfl w0 rfl (pu_cat rfl rfl hq13) ?_
  refine fa tok ?_
  refine ld tok ?_
  obtain ⟨v14, hv14, h0⟩ := bnd h0
  refine rs rfl w0 rfl (c_call 4 (i_Decimal_c hv14) rfl rfl rfl) ?_
  obtain ⟨hq15, h0⟩ := chk_e h0
  refine rp rfl w0 rfl (pu_cat rfl rfl hq15) ?_
  refine pa ?_
  refine nx ?_
  refine aw_ret ?_
  refine block_r ?_
  refine then_r ?_
  cases h0
  exact ret0_ (rs := [.tmp 2]) rfl
  refine aw_skip ?_
  refine block_n ?_
  refine then_n ?_
  refine sq [0,1,2,3,4,5,6] ?_
  refine pm ?_
  obtain ⟨hq16, h0⟩ := chk_e h0
  refine rp rfl w0 rfl (pu_cat rfl rfl hq16) ?_
  obtain ⟨hq17, h0⟩ := chk_e h0
  refine rp rfl w0 rfl (pu_cat rfl rfl hq17) ?_
  refine fa tok ?_
  refine ld tok ?_
  obtain ⟨hq18, h0⟩ := chk_e h0
  refine rp rfl w0 rfl (pu_cat rfl rfl hq18) ?_
  refine pa ?_
  refine nx ?_
  refine aw_ret ?_
  cases h0
  exact ret0_ (rs := [.tmp 2]) rfl

theorem i_DrawingText_c {p0 : Drawing_} {r : ByteArray} (h0 : i_DrawingText_m p0 = some r) : FnC Tryz.prog 14 [] [.agg [.d (.sl (List.map cShape_ p0.Shapes))]] [] (.d (.v (.string r))) := by
  unfold i_DrawingText_m at h0
  obtain ⟨v1, hv1, h0⟩ := bnd h0
  exact sh_draw (i_ValidDrawing_c hv1) (fun s t h => i_shapeText_c h) h0

theorem i_ReadDrawing_c {p0 : ByteArray} {r : Drawing_ × Bool} (h0 : i_ReadDrawing_m p0 = some r) : FnC Tryz.prog 6 [] [.d (.v (.string p0))] [.live [⟨44, 7, .data (List.map cShape_ r.1.Shapes)⟩]] (.tup [.agg [.own 0 0 r.1.Shapes.length], .d (.v (.bool r.2))]) := by
  refine fnc_intro (T := tt) (N := 56) tok Tryz.func6 rfl rfl (by kernel_rfl) rfl rfl ?_
  unfold i_ReadDrawing_m at h0
  refine sq [0,1] ?_
  refine rs rfl w0 rfl (st_alloc 3 (cs := [.d (.v (.slice none 0 0))]) tok rfl rfl rfl) ?_
  refine pa ?_
  refine nx ?_
  refine sq [0,1,2,3,4,5,6] ?_
  refine pm ?_
  obtain ⟨v1, hv1, h0⟩ := bnd h0
  refine rs rfl w0 rfl (c_call 4 (i_linesOf_c hv1) rfl rfl rfl) ?_
  refine rp rfl w0 rfl (pu_move (r := .tup _) rfl) ?_
  refine rp rfl w0 rfl (pu_extract rfl rfl) ?_
  refine rp rfl w0 rfl (pu_extract rfl rfl) ?_
  refine rp rfl w0 rfl (pu_assign (r := .own _ _ _) rfl) ?_
  refine pa ?_
  refine nx ?_
  refine aw_seq ?_
  obtain ⟨v2, h1, h0⟩ := bnd h0
  refine aw_cut ⟨updA (updA (updA (updA ((fun _ => .dead)) 0 (.d (.v (.string p0)))) 2 (.ptr 3 0 1 0 0)) 4 (.own 4 0 (v1.1).length)) 22 (.d (.v (.bool v2))), lks [.no, .no, .no, .live [⟨24, 1, .av [[.d (.v (.slice none 0 0))]]⟩], .live [⟨9, 1, .data (List.map cS v1.1)⟩]]⟩ ?_ ?_
  refine sr [0,1,2,3,4,5,6] ?_
  refine pm ?_
  refine rp rfl w0 rfl (pu_not rfl) ?_
  refine pm ?_
  refine ra_ifB (u := 18) h1 rfl (fun hc h1 => ?_) (fun hc h1 => ?_)
  iterate 3 refine k1 ?_
  refine pkt ?_
  refine nx ?_
  cases h1
  exact wk [0, 1, 2, 3, 4]
  refine pm1 ?_
  refine rp rfl (w1 rfl rfl rfl) rfl (pu_len_str tok rfl rfl rfl) ?_
  refine rp rfl (w1 rfl rfl rfl) rfl (pu_gtr rfl rfl) ?_
  refine pkf ?_
  refine nx ?_
  cases h1
  exact wk [0, 1, 2, 3, 4]
  refine aw_ifB h0 rfl (fun hc h0 => ?_) (fun hc h0 => ?_)
  refine sq [0,1,2] ?_
  refine rp rfl w0 rfl (pbl (C0 := [.d (.v (.slice none 0 0))]) tok rfl rfl rfl) ?_
  refine rw0 rfl w0 (bx_st (cs := _ :: _) tok rfl rfl rfl rfl rfl rfl rfl) ?_
  refine pa ?_
  refine nx ?_
  refine aw_weak (weak_adopt 5 rfl 44 7 (kb := 3) (j := 0) rfl rfl (by repeat (first | exact Spl.z _ | apply Spl.t | apply Spl.d))) ?_
  refine aw_ret ?_
  refine then_r ?_
  cases h0
  exact retK_ (rs := [.cell 2 24, .tmp 3]) [5] rfl
  refine sk ?_
  refine sq [0] ?_
  refine rs rfl w0 rfl (st_alloc 5 (cs := [.d (.v (.slice none 0 0))]) tok rfl rfl rfl) ?_
  refine nx ?_
  obtain ⟨v11x, h1, h0⟩ := bnd h0
  refine aw_cutE v11x (fun v11 => ⟨updA (updA (updA ((fun _ => .dead)) 0 (.d (.v (.string p0)))) 2 (.ptr 3 0 1 0 0)) 6 (.ptr 4 0 1 0 0), lks [.no, .no, .no, .live [⟨24, 1, .av [[.d (.v (.slice none 0 0))]]⟩], .live [⟨24, 1, .av [[.own 5 0 (v11).length]]⟩], .live [⟨44, 7, .data (List.map cShape_ v11)⟩]]⟩) ?_ ?_
  refine sq [0,1,2] ?_
  refine rp rfl w0 rfl (pu_move (r := .own _ _ _) rfl) ?_
  refine rl rfl w0 rfl (ow_len tok rfl rfl rfl rfl rfl) ?_
  refine pm ?_
  refine nx ?_
  refine aw_block ?_
  refine aw_loopM (fun s7 => ⟨updA (updA (updA (updA (updA (updA ((fun _ => .dead)) 0 (.d (.v (.string p0)))) 2 (.ptr 3 0 1 0 0)) 6 (.ptr 4 0 1 0 0)) 24 (.own 5 0 (v1.1).length)) 25 (.d (.v (.int .i64 (v1.1.length : Int))))) 26 (.d (.v (.int .i64 s7.1))), lks [.no, .no, .no, .live [⟨24, 1, .av [[.d (.v (.slice none 0 0))]]⟩], .live [⟨24, 1, .av [[.own 6 0 (s7.2).length]]⟩], .live [⟨9, 1, .data (List.map cS v1.1)⟩], .live [⟨44, 7, .data (List.map cShape_ s7.2)⟩]]⟩) h1 ?_ (fun s7 y h2 => ?_)
  refine Weak.trans_ (weak_adopt 6 rfl 44 7 (kb := 5) (j := 0) rfl rfl (by repeat (first | exact Spl.z _ | apply Spl.t | apply Spl.d))) ?_
  exact wk [0, 1, 2, 3, 5, 4, 6]
  refine sq [0] ?_
  refine rp rfl w0 rfl (pu_lss rfl rfl) ?_
  refine nx ?_
  refine aw_seq ?_
  refine aw_if h2 rfl (fun hc h2 => ?_) (fun hc h2 => ?_)
  refine sk ?_
  refine aw_seq ?_
  refine aw_block ?_
  refine sq [0,1,2] ?_
  obtain ⟨v8, hv8, h2⟩ := bnd h2
  refine rl rfl w0 rfl (ow_ix tok hv8 rfl rfl rfl rfl rfl rfl rfl rfl) ?_
  refine rl rfl w0 rfl (rw_ld1 tok (atI_e hv8).2.1 rfl rfl rfl rfl rfl rfl) ?_
  refine pa ?_
  refine nx ?_
  refine sq [0,1,2,3,4,5,6,7] ?_
  refine pm ?_
  obtain ⟨v9, hv9, h2⟩ := bnd h2
  refine rs rfl w0 rfl (c_call 7 (i_readShape_c hv9) rfl rfl rfl) ?_
  refine rp rfl w0 rfl (pu_move (r := .tup _) rfl) ?_
  refine rp rfl w0 rfl (pu_extract rfl rfl) ?_
  refine rp rfl w0 rfl (pu_extract rfl rfl) ?_
  refine rs rfl w0 rfl (st_alloc 7 (cs := [.d (.v (.int .i64 0)), .d (.v (.int .i64 0)), .d (.v (.int .i64 0)), .d (.v (.int .i64 0)), .d (.v (.int .i64 0)), .d (.v (.int .i64 0)), .d (.v (.string (⟨#[]⟩ : ByteArray)))]) tok rfl rfl rfl) ?_
  refine rw0 rfl w0 (bx_st (cs := _ :: _) tok rfl rfl rfl rfl rfl rfl rfl) ?_
  refine pa ?_
  refine nx ?_
  refine aw_seq ?_
  refine sq [0,1] ?_
  refine pm ?_
  refine rp rfl w0 rfl (pu_not rfl) ?_
  refine nx ?_
  refine aw_ifB h2 rfl (fun hc h2 => ?_) (fun hc h2 => ?_)
  refine sq [0,1,2] ?_
  refine rp rfl w0 rfl (pbl (C0 := [.d (.v (.slice none 0 0))]) tok rfl rfl rfl) ?_
  refine rw0 rfl w0 (bx_st (cs := _ :: _) tok rfl rfl rfl rfl rfl rfl rfl) ?_
  refine pa ?_
  refine nx ?_
  refine aw_weak (weak_adopt 8 rfl 44 7 (kb := 3) (j := 0) rfl rfl (by repeat (first | exact Spl.z _ | apply Spl.t | apply Spl.d))) ?_
  refine aw_ret ?_
  refine then_r ?_
  refine block_r ?_
  refine then_r ?_
  cases h2
  refine loop_r ⟨_, rfl, fun e => ?_⟩
  subst e
  refine block_r ?_
  replace h0 := orE_s h0
  refine then_r ?_
  cases h0
  exact retK_ (rs := [.cell 2 24, .tmp 3]) [8] rfl
  refine sk ?_
  refine sr [0,1,2,3,4,5,6] ?_
  refine fa tok ?_
  refine ld tok ?_
  refine rl rfl w0 rfl (bx_ldN tok rfl rfl rfl rfl) ?_
  refine rs rfl w0 rfl (bs_val tok cShape_ [v9.1] rfl rfl rfl (by repeat (first | exact Els.nil _ | apply Els.cons (cs := [.d _]) rfl rfl rfl | apply Els.cons (cs := _ :: _) rfl rfl rfl)) rfl rfl rfl (by repeat (first | exact AllDD.nil | (apply AllDD.cons; (repeat (first | exact AllD.nil | apply AllD.cons))))) rfl) ?_
  obtain ⟨hq10, h2⟩ := chk_e h2
  refine rw1 rfl w0 rfl (ap_own tok hq10 rfl rfl rfl rfl rfl rfl rfl rfl rfl rfl rfl rfl (fun _ => rfl)) ?_
  refine fa tok ?_
  refine rw0 rfl w0 (bx_st (cs := [.own _ _ _]) tok rfl rfl rfl rfl rfl rfl rfl) ?_
  refine ra_nil ?_
  refine block_n ?_
  refine then_n ?_
  refine sr [0,1] ?_
  refine rp rfl w0 rfl (pw_add rfl rfl) ?_
  refine pm ?_
  refine ra_nil ?_
  refine loop_n ?_
  cases h2
  refine ⟨_, rfl, ?_⟩
  exact wk [0, 1, 2, 3, 4, 5, 6]
  refine aw_exit ?_
  refine then_e ?_
  cases h2
  refine loop_x ⟨_, rfl, fun e => ?_⟩
  subst e
  refine block_hit ?_
  refine then_n ?_
  refine ⟨_, rfl, ?_⟩
  exact wk [0, 1, 2, 3, 4, 6]
  rintro v11 rfl
  replace h0 := orE_f h0
  refine aw_seq ?_
  obtain ⟨v14, h1, h0⟩ := bnd h0
  refine aw_cut ⟨updA (updA (updA ((fun _ => .dead)) 2 (.ptr 3 0 1 0 0)) 6 (.ptr 4 0 1 0 0)) 53 (.d (.v (.bool v14))), lks [.no, .no, .no, .live [⟨24, 1, .av [[.d (.v (.slice none 0 0))]]⟩], .live [⟨24, 1, .av [[.own 5 0 (v11).length]]⟩], .live [⟨44, 7, .data (List.map cShape_ v11)⟩]]⟩ ?_ ?_
  refine sr [0,1,2,3,4,5,6,7,8] ?_
  refine rl rfl w0 rfl (bx_ldN tok rfl rfl rfl rfl) ?_
  obtain ⟨v12, hv12, h1⟩ := bnd h1
  refine rs rfl w0 rfl (c_callV 6 (i_ValidDrawing_c hv12) rfl rfl) ?_
  refine rp rfl w0 rfl (pu_not rfl) ?_
  refine pm ?_
  refine ra_ifB (u := 48) h1 rfl (fun hc h1 => ?_) (fun hc h1 => ?_)
  iterate 4 refine k1 ?_
  refine pkt ?_
  refine nx ?_
  cases h1
  exact wk [0, 1, 2, 3, 4, 5]
  refine rl rfl (w1 rfl rfl rfl) rfl (bx_ldN tok rfl rfl rfl rfl) ?_
  obtain ⟨v13, hv13, h1⟩ := bnd h1
  refine rs rfl (w1 rfl rfl rfl) rfl (c_callV 6 (i_DrawingText_c hv13) rfl rfl) ?_
  refine pm1 ?_
  refine rp rfl (w1 rfl rfl rfl) rfl (pu_sneq rfl rfl) ?_
  refine pkf ?_
  refine nx ?_
  cases h1
  exact wk [0, 1, 2, 3, 4, 5]
  refine aw_ifB h0 rfl (fun hc h0 => ?_) (fun hc h0 => ?_)
  refine sq [0,1,2] ?_
  refine rp rfl w0 rfl (pbl (C0 := [.d (.v (.slice none 0 0))]) tok rfl rfl rfl) ?_
  refine rw0 rfl w0 (bx_st (cs := _ :: _) tok rfl rfl rfl rfl rfl rfl rfl) ?_
  refine pa ?_
  refine nx ?_
  refine aw_weak (weak_adopt 6 rfl 44 7 (kb := 3) (j := 0) rfl rfl (by repeat (first | exact Spl.z _ | apply Spl.t | apply Spl.d))) ?_
  refine aw_ret ?_
  refine then_r ?_
  cases h0
  exact retK_ (rs := [.cell 2 24, .tmp 3]) [6] rfl
  refine sk ?_
  refine sq [0,1,2] ?_
  refine rl rfl w0 rfl (bx_ldN tok rfl rfl rfl rfl) ?_
  refine rw0 rfl w0 (bx_st (cs := _ :: _) tok rfl rfl rfl rfl rfl rfl rfl) ?_
  refine pa ?_
  refine nx ?_
  refine aw_ret ?_
  cases h0
  exact retK_ (rs := [.cell 2 24, .tmp 3]) [5] rfl

theorem l_eqSpot_c {p0 : Spot_} {p1 : Spot_} {r : Bool} (h0 : l_eqSpot_m p0 p1 = some r) : FnC Tryz.prog 80 [] [.agg [.d (.v (.int .i64 p0.X)), .d (.v (.int .i64 p0.Y))], .agg [.d (.v (.int .i64 p1.X)), .d (.v (.int .i64 p1.Y))]] [] (.d (.v (.bool r))) := by
  refine fnc_intro (T := tt) (N := 15) tok Tryz.func80 rfl rfl (by kernel_rfl) rfl rfl ?_
  unfold l_eqSpot_m at h0
  refine sq [0,1,2] ?_
  refine rs rfl w0 rfl (st_box 3 (cs := _ :: _) rfl rfl rfl) ?_
  refine rs rfl w0 rfl (st_box 4 (cs := _ :: _) rfl rfl rfl) ?_
  refine pa ?_
  refine nx ?_
  refine aw_seq ?_
  refine sq [0,1,2,3,4] ?_
  refine fa tok ?_
  refine ld tok ?_
  refine fa tok ?_
  refine ld tok ?_
  refine rp rfl w0 rfl (pu_neq rfl rfl) ?_
  refine nx ?_
  refine aw_if h0 rfl (fun hc h0 => ?_) (fun hc h0 => ?_)
  refine sq [0] ?_
  refine pa ?_
  refine nx ?_
  refine aw_ret ?_
  refine then_r ?_
  cases h0
  exact ret0_ (rs := [.tmp 4]) rfl
  refine sk ?_
  refine aw_seq ?_
  refine sq [0,1,2,3,4] ?_
  refine fa tok ?_
  refine ld tok ?_
  refine fa tok ?_
  refine ld tok ?_
  refine rp rfl w0 rfl (pu_neq rfl rfl) ?_
  refine nx ?_
  refine aw_if h0 rfl (fun hc h0 => ?_) (fun hc h0 => ?_)
  refine sq [0] ?_
  refine pa ?_
  refine nx ?_
  refine aw_ret ?_
  refine then_r ?_
  cases h0
  exact ret0_ (rs := [.tmp 4]) rfl
  refine sk ?_
  refine sq [0] ?_
  refine pa ?_
  refine nx ?_
  refine aw_ret ?_
  cases h0
  exact ret0_ (rs := [.tmp 4]) rfl

theorem l_eqShape_c {p0 : Shape_} {p1 : Shape_} {r : Bool} (h0 : l_eqShape_m p0 p1 = some r) : FnC Tryz.prog 56 [] [.agg [.d (.v (.int .i64 p0.Kind)), .d (.v (.int .i64 p0.A.X)), .d (.v (.int .i64 p0.A.Y)), .d (.v (.int .i64 p0.B.X)), .d (.v (.int .i64 p0.B.Y)), .d (.v (.int .i64 p0.R)), .d (.v (.string p0.Name))], .agg [.d (.v (.int .i64 p1.Kind)), .d (.v (.int .i64 p1.A.X)), .d (.v (.int .i64 p1.A.Y)), .d (.v (.int .i64 p1.B.X)), .d (.v (.int .i64 p1.B.Y)), .d (.v (.int .i64 p1.R)), .d (.v (.string p1.Name))]] [] (.d (.v (.bool r))) := by
  refine fnc_intro (T := tt) (N := 32) tok Tryz.func56 rfl rfl (by kernel_rfl) rfl rfl ?_
  unfold l_eqShape_m at h0
  refine sq [0,1,2] ?_
  refine rs rfl w0 rfl (st_box 3 (cs := _ :: _) rfl rfl rfl) ?_
  refine rs rfl w0 rfl (st_box 4 (cs := _ :: _) rfl rfl rfl) ?_
  refine pa ?_
  refine nx ?_
  refine aw_seq ?_
  refine sq [0,1,2,3,4] ?_
  refine fa tok ?_
  refine ld tok ?_
  refine fa tok ?_
  refine ld tok ?_
  refine rp rfl w0 rfl (pu_neq rfl rfl) ?_
  refine nx ?_
  refine aw_if h0 rfl (fun hc h0 => ?_) (fun hc h0 => ?_)
  refine sq [0] ?_
  refine pa ?_
  refine nx ?_
  refine aw_ret ?_
  refine then_r ?_
  cases h0
  exact ret0_ (rs := [.tmp 4]) rfl
  refine sk ?_
  refine aw_seq ?_
  refine sq [0,1,2,3,4,5] ?_
  refine fa tok ?_
  refine rl rfl w0 rfl (bx_ldN tok rfl rfl rfl rfl) ?_
  refine fa tok ?_
  refine rl rfl w0 rfl (bx_ldN tok rfl rfl rfl rfl) ?_
  obtain ⟨v1, hv1, h0⟩ := bnd h0
  refine rs rfl w0 rfl (c_call 5 (l_eqSpot_c hv1) rfl rfl rfl) ?_
  refine rp rfl w0 rfl (pu_not rfl) ?_
  refine nx ?_
  refine aw_ifB h0 rfl (fun hc h0 => ?_) (fun hc h0 => ?_)
  refine sq [0] ?_
  refine pa ?_
  refine nx ?_
  refine aw_ret ?_
  refine then_r ?_
  cases h0
  exact ret0_ (rs := [.tmp 4]) rfl
  refine sk ?_
  refine aw_seq ?_
  refine sq [0,1,2,3,4,5] ?_
  refine fa tok ?_
  refine rl rfl w0 rfl (bx_ldN tok rfl rfl rfl rfl) ?_
  refine fa tok ?_
  refine rl rfl w0 rfl (bx_ldN tok rfl rfl rfl rfl) ?_
  obtain ⟨v2, hv2, h0⟩ := bnd h0
  refine rs rfl w0 rfl (c_call 5 (l_eqSpot_c hv2) rfl rfl rfl) ?_
  refine rp rfl w0 rfl (pu_not rfl) ?_
  refine nx ?_
  refine aw_ifB h0 rfl (fun hc h0 => ?_) (fun hc h0 => ?_)
  refine sq [0] ?_
  refine pa ?_
  refine nx ?_
  refine aw_ret ?_
  refine then_r ?_
  cases h0
  exact ret0_ (rs := [.tmp 4]) rfl
  refine sk ?_
  refine aw_seq ?_
  refine sq [0,1,2,3,4] ?_
  refine fa tok ?_
  refine ld tok ?_
  refine fa tok ?_
  refine ld tok ?_
  refine rp rfl w0 rfl (pu_neq rfl rfl) ?_
  refine nx ?_
  refine aw_if h0 rfl (fun hc h0 => ?_) (fun hc h0 => ?_)
  refine sq [0] ?_
  refine pa ?_
  refine nx ?_
  refine aw_ret ?_
  refine then_r ?_
  cases h0
  exact ret0_ (rs := [.tmp 4]) rfl
  refine sk ?_
  refine aw_seq ?_
  refine sq [0,1,2,3,4] ?_
  refine fa tok ?_
  refine ld tok ?_
  refine fa tok ?_
  refine ld tok ?_
  refine rp rfl w0 rfl (pu_sneq rfl rfl) ?_
  refine nx ?_
  refine aw_if h0 rfl (fun hc h0 => ?_) (fun hc h0 => ?_)
  refine sq [0] ?_
  refine pa ?_
  refine nx ?_
  refine aw_ret ?_
  refine then_r ?_
  cases h0
  exact ret0_ (rs := [.tmp 4]) rfl
  refine sk ?_
  refine sq [0] ?_
  refine pa ?_
  refine nx ?_
  refine aw_ret ?_
  cases h0
  exact ret0_ (rs := [.tmp 4]) rfl

theorem l_eqShapeS_c {p0 : List Shape_} {p1 : List Shape_} {r : Bool} (h0 : l_eqShapeS_m p0 p1 = some r) : FnC Tryz.prog 28 [] [.d (.sl (List.map cShape_ p0)), .d (.sl (List.map cShape_ p1))] [] (.d (.v (.bool r))) := by
  refine fnc_intro (T := tt) (N := 27) tok Tryz.func28 rfl rfl (by kernel_rfl) rfl rfl ?_
  unfold l_eqShapeS_m at h0
  refine sq [0] ?_
  refine pa ?_
  refine nx ?_
  refine aw_seq ?_
  refine sq [0,1,2,3,4] ?_
  refine pm ?_
  refine rp rfl w0 rfl (pu_len_map tok rfl rfl rfl) ?_
  refine pm ?_
  refine rp rfl w0 rfl (pu_len_map tok rfl rfl rfl) ?_
  refine rp rfl w0 rfl (pu_neq rfl rfl) ?_
  refine nx ?_
  refine aw_if h0 rfl (fun hc h0 => ?_) (fun hc h0 => ?_)
  refine sq [0] ?_
  refine pa ?_
  refine nx ?_
  refine aw_ret ?_
  refine then_r ?_
  cases h0
  exact ret0_ (rs := [.tmp 4]) rfl
  refine sk ?_
  obtain ⟨v9x, h1, h0⟩ := bnd h0
  refine aw_cutE v9x (fun v9 => ⟨(fun _ => .dead), lks [.no, .no, .no]⟩) ?_ ?_
  refine sq [0] ?_
  refine pa ?_
  refine nx ?_
  refine aw_block ?_
  refine aw_loopM (fun s5 => ⟨updA (updA (updA ((fun _ => .dead)) 0 (.d (.sl (List.map cShape_ p0)))) 1 (.d (.sl (List.map cShape_ p1)))) 5 (.d (.v (.int .i64 s5))), lks [.no, .no, .no]⟩) h1 ?_ (fun s5 y h2 => ?_)
  exact wk [0, 1, 2]
  refine aw_seq ?_
  refine sq [0,1,2,3] ?_
  refine pm ?_
  refine pm ?_
  refine rp rfl w0 rfl (pu_len_map tok rfl rfl rfl) ?_
  refine rp rfl w0 rfl (pu_lss rfl rfl) ?_
  refine nx ?_
  refine aw_if h2 rfl (fun hc h2 => ?_) (fun hc h2 => ?_)
  refine sk ?_
  refine aw_seq ?_
  refine aw_block ?_
  refine aw_seq ?_
  refine aw_region_draw (is := [0, 1, 2, 3, 4, 5, 6, 7, 8, 9]) [0, 0, 3, 7, 0, 0, 48, 112, 255, 511] follows (by kernel_rfl) ?_
  refine tpm ?_
  refine tpm ?_
  obtain ⟨v6, hv6, h2⟩ := bnd h2
  refine rt_p rfl w0 rfl (sl_ix tok hv6 rfl rfl rfl rfl rfl rfl) ?_
  refine rt_p rfl w0 rfl (pu_load_refN tok rfl rfl rfl (by repeat (first | exact SegD.z _ | apply SegD.t))) ?_
  refine tpm ?_
  refine tpm ?_
  obtain ⟨v7, hv7, h2⟩ := bnd h2
  refine rt_p rfl w0 rfl (sl_ix tok hv7 rfl rfl rfl rfl rfl rfl) ?_
  refine rt_p rfl w0 rfl (pu_load_refN tok rfl rfl rfl (by repeat (first | exact SegD.z _ | apply SegD.t))) ?_
  obtain ⟨v8, hv8, h2⟩ := bnd h2
  refine rt_c rfl w0 rfl (b_call 3 (l_eqShape_c hv8) rfl rfl rfl) ?_
  refine rt_p rfl w0 rfl (pu_not rfl) ?_
  refine rt_nil ?_
  refine ⟨by kernel_rfl, ?_⟩
  refine then_n ?_
  refine aw_ifB h2 rfl (fun hc h2 => ?_) (fun hc h2 => ?_)
  refine sq [0] ?_
  refine pa ?_
  refine nx ?_
  refine aw_ret ?_
  refine block_r ?_
  refine then_r ?_
  cases h2
  refine loop_r ⟨_, rfl, fun e => ?_⟩
  subst e
  refine block_r ?_
  replace h0 := orE_s h0
  refine then_r ?_
  cases h0
  exact ret0_ (rs := [.tmp 4]) rfl
  refine aw_skip ?_
  refine block_n ?_
  refine then_n ?_
  refine sr [0,1,2] ?_
  refine pm ?_
  refine rp rfl w0 rfl (pw_add rfl rfl) ?_
  refine pa ?_
  refine ra_nil ?_
  refine loop_n ?_
  cases h2
  refine ⟨_, rfl, ?_⟩
  exact wk [0, 1, 2]
  refine aw_exit ?_
  refine then_e ?_
  cases h2
  refine loop_x ⟨_, rfl, fun e => ?_⟩
  subst e
  refine block_hit ?_
  refine then_n ?_
  refine ⟨_, rfl, ?_⟩
  exact wk [0, 1, 2]
  rintro v9 rfl
  replace h0 := orE_f h0
  refine sq [0] ?_
  refine pa ?_
  refine nx ?_
  refine aw_ret ?_
  cases h0
  exact ret0_ (rs := [.tmp 4]) rfl

theorem l_eqDrawing_c {p0 : Drawing_} {p1 : Drawing_} {r : Bool} (h0 : l_eqDrawing_m p0 p1 = some r) : FnC Tryz.prog 7 [] [.agg [.d (.sl (List.map cShape_ p0.Shapes))], .agg [.d (.sl (List.map cShape_ p1.Shapes))]] [] (.d (.v (.bool r))) := by
  refine fnc_intro (T := tt) (N := 11) tok Tryz.func7 rfl rfl (by kernel_rfl) rfl rfl ?_
  unfold l_eqDrawing_m at h0
  refine sq [0,1,2] ?_
  refine rs rfl w0 rfl (st_box 3 (cs := _ :: _) rfl rfl rfl) ?_
  refine rs rfl w0 rfl (st_box 4 (cs := _ :: _) rfl rfl rfl) ?_
  refine pa ?_
  refine nx ?_
  refine aw_seq ?_
  refine sq [0,1,2,3,4,5] ?_
  refine fa tok ?_
  refine ld tok ?_
  refine fa tok ?_
  refine ld tok ?_
  obtain ⟨v1, hv1, h0⟩ := bnd h0
  refine rs rfl w0 rfl (c_call 5 (l_eqShapeS_c hv1) rfl rfl rfl) ?_
  refine rp rfl w0 rfl (pu_not rfl) ?_
  refine nx ?_
  refine aw_ifB h0 rfl (fun hc h0 => ?_) (fun hc h0 => ?_)
  refine sq [0] ?_
  refine pa ?_
  refine nx ?_
  refine aw_ret ?_
  refine then_r ?_
  cases h0
  exact ret0_ (rs := [.tmp 4]) rfl
  refine sk ?_
  refine sq [0] ?_
  refine pa ?_
  refine nx ?_
  refine aw_ret ?_
  cases h0
  exact ret0_ (rs := [.tmp 4]) rfl

theorem l_markText_c {p0 : Int} {r : ByteArray} (h0 : l_markText_m p0 = some r) : FnC Tryz.prog 57 [] [.d (.v (.int .i64 p0))] [] (.d (.v (.string r))) := by
  refine fnc_intro (T := tt) (N := 20) tok Tryz.func57 rfl rfl (by kernel_rfl) rfl rfl ?_
  unfold l_markText_m at h0
  refine sq [0] ?_
  refine pa ?_
  refine nx ?_
  refine aw_seq ?_
  refine sq [0,1] ?_
  refine pm ?_
  refine rp rfl w0 rfl (pu_leq rfl rfl) ?_
  refine nx ?_
  refine aw_if h0 rfl (fun hc h0 => ?_) (fun hc h0 => ?_)
  refine sq [0] ?_
  refine pa ?_
  refine nx ?_
  refine aw_ret ?_
  refine then_r ?_
  cases h0
  exact ret0_ (rs := [.tmp 2]) rfl
  refine sk ?_
  refine sq [0] ?_
  refine pa ?_
  refine nx ?_
  obtain ⟨v9, h1, h0⟩ := bnd h0
  refine aw_cut ⟨updA ((fun _ => .dead)) 3 (.d (.v (.string v9))), lks [.no, .no, .no]⟩ ?_ ?_
  refine aw_block ?_
  refine aw_loopM (fun s5 => ⟨updA (updA ((fun _ => .dead)) 0 (.d (.v (.int .i64 s5.1)))) 3 (.d (.v (.string s5.2))), lks [.no, .no, .no]⟩) h1 ?_ (fun s5 y h2 => ?_)
  exact wk [0, 1, 2]
  refine aw_seq ?_
  refine sq [0,1] ?_
  refine pm ?_
  refine rp rfl w0 rfl (pu_gtr rfl rfl) ?_
  refine nx ?_
  refine aw_if h2 rfl (fun hc h2 => ?_) (fun hc h2 => ?_)
  refine sk ?_
  refine aw_block ?_
  refine sq [0,1,2,3,4,5,6,7,8] ?_
  refine pm ?_
  refine rp rfl w0 rfl (pu_remw rfl rfl (by decide)) ?_
  refine rp rfl w0 rfl (pw_add rfl rfl) ?_
  refine rp rfl w0 rfl (pu_ii tok rfl rfl rfl rfl rfl) ?_
  refine rs rfl w0 rfl (bs_own 3 tok cU8 [IntKind.u8.wrap (w64 (48 + (s5.1.tmod 10)))] rfl rfl rfl (by repeat (first | exact Els.nil _ | apply Els.cons (cs := [.d _]) rfl rfl rfl | apply Els.cons (cs := _ :: _) rfl rfl rfl)) rfl rfl rfl (by repeat (first | exact AllDD.nil | (apply AllDD.cons; (repeat (first | exact AllD.nil | apply AllD.cons))))) rfl rfl) ?_
  refine rs rfl w0 rfl (cv_bo tok rfl rfl rfl rfl rfl rfl rfl rfl rfl rfl) ?_
  refine pm ?_
  obtain ⟨hq7, h2⟩ := chk_e h2
  refine rp rfl w0 rfl (pu_cat rfl rfl hq7) ?_
  refine pa ?_
  refine nx ?_
  refine sr [0,1,2] ?_
  refine pm ?_
  refine rp rfl w0 rfl (pw_quo rfl rfl (by decide)) ?_
  refine pa ?_
  refine ra_nil ?_
  refine block_n ?_
  refine loop_n ?_
  cases h2
  refine ⟨_, rfl, ?_⟩
  exact wk [0, 1, 2]
  refine aw_exit ?_
  refine then_e ?_
  cases h2
  refine loop_x ⟨_, rfl, fun e => ?_⟩
  subst e
  refine block_hit ?_
  refine then_n ?_
  exact wk [0, 1, 2]
  refine sq [0,1,2] ?_
  refine pm ?_
  obtain ⟨hq10, h0⟩ := chk_e h0
  refine rp rfl w0 rfl (pu_cat rfl rfl hq10) ?_
  refine pa ?_
  refine nx ?_
  refine aw_ret ?_
  cases h0
  exact ret0_ (rs := [.tmp 2]) rfl

theorem l_markShapeS_o_c {p0 : List Shape_} {p1 : Int} {r : Int × List Shape_} (h0 : l_markShapeS_o_m p0 p1 = some r) : FnC Tryz.prog 29 [.live [⟨44, 7, .data (List.map cShape_ p0)⟩]] [.own 0 0 (p0).length, .d (.v (.int .i64 p1))] [.live [⟨44, 7, .data (List.map cShape_ r.2)⟩]] (.d (.v (.int .i64 r.1))) := by
  refine fnc_intro (T := tt) (N := 67) tok Tryz.func29 rfl rfl (by kernel_rfl) rfl rfl ?_
  unfold l_markShapeS_o_m at h0
  refine sq [0] ?_
  refine pa ?_
  refine nx ?_
  obtain ⟨v19, h1, h0⟩ := bnd h0
  refine aw_cut ⟨updA ((fun _ => .dead)) 1 (.d (.v (.int .i64 v19.1))), lks [.live [⟨44, 7, .data (List.map cShape_ v19.2)⟩], .no, .no]⟩ ?_ ?_
  refine sq [0] ?_
  refine pa ?_
  refine nx ?_
  refine aw_block ?_
  refine aw_loopM (fun s10 => ⟨updA (updA (updA ((fun _ => .dead)) 0 (.own 0 0 (s10.2.2).length)) 1 (.d (.v (.int .i64 s10.1)))) 5 (.d (.v (.int .i64 s10.2.1))), lks [.live [⟨44, 7, .data (List.map cShape_ s10.2.2)⟩], .no, .no]⟩) h1 ?_ (fun s10 y h2 => ?_)
  exact wk [0, 1, 2]
  refine aw_seq ?_
  refine sq [0,1,2,3] ?_
  refine pm ?_
  refine rp rfl w0 rfl (pu_move (r := .own _ _ _) rfl) ?_
  refine rl rfl w0 rfl (ow_len tok rfl rfl rfl rfl rfl) ?_
  refine rp rfl w0 rfl (pu_lss rfl rfl) ?_
  refine nx ?_
  refine aw_if h2 rfl (fun hc h2 => ?_) (fun hc h2 => ?_)
  refine sk ?_
  refine aw_seq ?_
  refine aw_block ?_
  refine sq [0,1,2,3,4,5] ?_
  refine rp rfl w0 rfl (pu_move (r := .own _ _ _) rfl) ?_
  refine pm ?_
  refine pm ?_
  obtain ⟨v11, hv11, h2⟩ := bnd h2
  refine rl rfl w0 rfl (ow_ix tok hv11 rfl rfl rfl rfl rfl rfl rfl rfl) ?_
  refine rl rfl w0 rfl (rw_fa tok (atI_e hv11).2.1 rfl rfl rfl rfl rfl rfl rfl rfl) ?_
  refine rw0 rfl w0 (rw_st (cs := [.d _]) tok (⟨s10.1, v11.A, v11.B, v11.R, v11.Name⟩ : Shape_) (atI_e hv11).2.1 rfl rfl rfl rfl rfl rfl rfl rfl) ?_
  refine nx ?_
  refine sq [0,1,2] ?_
  refine pm ?_
  refine rp rfl w0 rfl (pw_add rfl rfl) ?_
  refine pa ?_
  refine nx ?_
  refine sq [0,1,2,3,4,5,6] ?_
  refine rp rfl w0 rfl (pu_move (r := .own _ _ _) rfl) ?_
  refine pm ?_
  refine pm ?_
  obtain ⟨v12, hv12, h2⟩ := bnd h2
  refine rl rfl w0 rfl (ow_ix tok hv12 rfl rfl rfl rfl rfl rfl (by first | (simp; done) | omega | (simp; omega)) rfl) ?_
  refine rl rfl w0 rfl (rw_fa tok (atI_e hv12).2.1 rfl rfl rfl rfl rfl rfl rfl (by first | (simp; done) | omega | (simp; omega))) ?_
  refine rl rfl w0 rfl (rw_fa tok (atI_e hv12).2.1 rfl rfl rfl rfl rfl rfl rfl (by first | (simp; done) | omega | (simp; omega))) ?_
  refine rw0 rfl w0 (rw_st (cs := [.d _]) tok (⟨v12.Kind, (⟨w64 (s10.1 + 1), v12.A.Y⟩ : Spot_), v12.B, v12.R, v12.Name⟩ : Shape_) (atI_e hv12).2.1 rfl rfl rfl rfl rfl rfl rfl (by first | (simp; done) | omega | (simp; omega))) ?_
  refine nx ?_
  refine sq [0,1,2] ?_
  refine pm ?_
  refine rp rfl w0 rfl (pw_add rfl rfl) ?_
  refine pa ?_
  refine nx ?_
  refine sq [0,1,2,3,4,5,6] ?_
  refine rp rfl w0 rfl (pu_move (r := .own _ _ _) rfl) ?_
  refine pm ?_
  refine pm ?_
  obtain ⟨v13, hv13, h2⟩ := bnd h2
  refine rl rfl w0 rfl (ow_ix tok hv13 rfl rfl rfl rfl rfl rfl (by first | (simp; done) | omega | (simp; omega)) rfl) ?_
  refine rl rfl w0 rfl (rw_fa tok (atI_e hv13).2.1 rfl rfl rfl rfl rfl rfl rfl (by first | (simp; done) | omega | (simp; omega))) ?_
  refine rl rfl w0 rfl (rw_fa tok (atI_e hv13).2.1 rfl rfl rfl rfl rfl rfl rfl (by first | (simp; done) | omega | (simp; omega))) ?_
  refine rw0 rfl w0 (rw_st (cs := [.d _]) tok (⟨v13.Kind, (⟨v13.A.X, w64 ((w64 (s10.1 + 1)) + 1)⟩ : Spot_), v13.B, v13.R, v13.Name⟩ : Shape_) (atI_e hv13).2.1 rfl rfl rfl rfl rfl rfl rfl (by first | (simp; done) | omega | (simp; omega))) ?_
  refine nx ?_
  refine sq [0,1,2] ?_
  refine pm ?_
  refine rp rfl w0 rfl (pw_add rfl rfl) ?_
  refine pa ?_
  refine nx ?_
  refine sq [0,1,2,3,4,5,6] ?_
  refine rp rfl w0 rfl (pu_move (r := .own _ _ _) rfl) ?_
  refine pm ?_
  refine pm ?_
  obtain ⟨v14, hv14, h2⟩ := bnd h2
  refine rl rfl w0 rfl (ow_ix tok hv14 rfl rfl rfl rfl rfl rfl (by first | (simp; done) | omega | (simp; omega)) rfl) ?_
  refine rl rfl w0 rfl (rw_fa tok (atI_e hv14).2.1 rfl rfl rfl rfl rfl rfl rfl (by first | (simp; done) | omega | (simp; omega))) ?_
  refine rl rfl w0 rfl (rw_fa tok (atI_e hv14).2.1 rfl rfl rfl rfl rfl rfl rfl (by first | (simp; done) | omega | (simp; omega))) ?_
  refine rw0 rfl w0 (rw_st (cs := [.d _]) tok (⟨v14.Kind, v14.A, (⟨w64 ((w64 ((w64 (s10.1 + 1)) + 1)) + 1), v14.B.Y⟩ : Spot_), v14.R, v14.Name⟩ : Shape_) (atI_e hv14).2.1 rfl rfl rfl rfl rfl rfl rfl (by first | (simp; done) | omega | (simp; omega))) ?_
  refine nx ?_
  refine sq [0,1,2] ?_
  refine pm ?_
  refine rp rfl w0 rfl (pw_add rfl rfl) ?_
  refine pa ?_
  refine nx ?_
  refine sq [0,1,2,3,4,5,6] ?_
  refine rp rfl w0 rfl (pu_move (r := .own _ _ _) rfl) ?_
  refine pm ?_
  refine pm ?_
  obtain ⟨v15, hv15, h2⟩ := bnd h2
  refine rl rfl w0 rfl (ow_ix tok hv15 rfl rfl rfl rfl rfl rfl (by first | (simp; done) | omega | (simp; omega)) rfl) ?_
  refine rl rfl w0 rfl (rw_fa tok (atI_e hv15).2.1 rfl rfl rfl rfl rfl rfl rfl (by first | (simp; done) | omega | (simp; omega))) ?_
  refine rl rfl w0 rfl (rw_fa tok (atI_e hv15).2.1 rfl rfl rfl rfl rfl rfl rfl (by first | (simp; done) | omega | (simp; omega))) ?_
  refine rw0 rfl w0 (rw_st (cs := [.d _]) tok (⟨v15.Kind, v15.A, (⟨v15.B.X, w64 ((w64 ((w64 ((w64 (s10.1 + 1)) + 1)) + 1)) + 1)⟩ : Spot_), v15.R, v15.Name⟩ : Shape_) (atI_e hv15).2.1 rfl rfl rfl rfl rfl rfl rfl (by first | (simp; done) | omega | (simp; omega))) ?_
  refine nx ?_
  refine sq [0,1,2] ?_
  refine pm ?_
  refine rp rfl w0 rfl (pw_add rfl rfl) ?_
  refine pa ?_
  refine nx ?_
  refine sq [0,1,2,3,4,5] ?_
  refine rp rfl w0 rfl (pu_move (r := .own _ _ _) rfl) ?_
  refine pm ?_
  refine pm ?_
  obtain ⟨v16, hv16, h2⟩ := bnd h2
  refine rl rfl w0 rfl (ow_ix tok hv16 rfl rfl rfl rfl rfl rfl (by first | (simp; done) | omega | (simp; omega)) rfl) ?_
  refine rl rfl w0 rfl (rw_fa tok (atI_e hv16).2.1 rfl rfl rfl rfl rfl rfl rfl (by first | (simp; done) | omega | (simp; omega))) ?_
  refine rw0 rfl w0 (rw_st (cs := [.d _]) tok (⟨v16.Kind, v16.A, v16.B, w64 ((w64 ((w64 ((w64 ((w64 (s10.1 + 1)) + 1)) + 1)) + 1)) + 1), v16.Name⟩ : Shape_) (atI_e hv16).2.1 rfl rfl rfl rfl rfl rfl rfl (by first | (simp; done) | omega | (simp; omega))) ?_
  refine nx ?_
  refine sq [0,1,2] ?_
  refine pm ?_
  refine rp rfl w0 rfl (pw_add rfl rfl) ?_
  refine pa ?_
  refine nx ?_
  refine sq [0,1,2,3,4,5,6] ?_
  refine rp rfl w0 rfl (pu_move (r := .own _ _ _) rfl) ?_
  refine pm ?_
  refine pm ?_
  obtain ⟨v17, hv17, h2⟩ := bnd h2
  refine rs rfl w0 rfl (c_call 3 (l_markText_c hv17) rfl rfl rfl) ?_
  obtain ⟨v18, hv18, h2⟩ := bnd h2
  refine rl rfl w0 rfl (ow_ix tok hv18 rfl rfl rfl rfl rfl rfl (by first | (simp; done) | omega | (simp; omega)) rfl) ?_
  refine rl rfl w0 rfl (rw_fa tok (atI_e hv18).2.1 rfl rfl rfl rfl rfl rfl rfl (by first | (simp; done) | omega | (simp; omega))) ?_
  refine rw0 rfl w0 (rw_st (cs := [.d _]) tok (⟨v18.Kind, v18.A, v18.B, v18.R, v17⟩ : Shape_) (atI_e hv18).2.1 rfl rfl rfl rfl rfl rfl rfl (by first | (simp; done) | omega | (simp; omega))) ?_
  refine nx ?_
  refine sr [0,1,2] ?_
  refine pm ?_
  refine rp rfl w0 rfl (pw_add rfl rfl) ?_
  refine pa ?_
  refine ra_nil ?_
  refine block_n ?_
  refine then_n ?_
  refine sr [0,1,2] ?_
  refine pm ?_
  refine rp rfl w0 rfl (pw_add rfl rfl) ?_
  refine pa ?_
  refine ra_nil ?_
  refine loop_n ?_
  cases h2
  refine ⟨_, rfl, ?_⟩
  exact wk [0, 1, 2]
  refine aw_exit ?_
  refine then_e ?_
  cases h2
  refine loop_x ⟨_, rfl, fun e => ?_⟩
  subst e
  refine block_hit ?_
  refine then_n ?_
  exact wk [0, 1, 2]
  refine sq [0,1] ?_
  refine pm ?_
  refine pa ?_
  refine nx ?_
  refine aw_ret ?_
  cases h0
  exact retP_ (rs := [.tmp 4]) 1 rfl rfl

theorem l_markDrawing_o_c {p0 : Drawing_} {p1 : Int} {r : Int × List Shape_} (h0 : l_markDrawing_o_m p0 p1 = some r) : FnC Tryz.prog 8 [.live [⟨44, 7, .data (List.map cShape_ p0.Shapes)⟩]] [.agg [.own 0 0 (p0.Shapes).length], .d (.v (.int .i64 p1))] [.live [⟨44, 7, .data (List.map cShape_ r.2)⟩]] (.d (.v (.int .i64 r.1))) := by
  refine fnc_intro (T := tt) (N := 10) tok Tryz.func8 rfl rfl (by kernel_rfl) rfl rfl ?_
  unfold l_markDrawing_o_m at h0
  refine sq [0,1] ?_
  refine rs rfl w0 rfl (st_box 3 (cs := _ :: _) rfl rfl rfl) ?_
  refine pa ?_
  refine nx ?_
  refine sq [0,1,2,3,4] ?_
  refine fa tok ?_
  refine ld tok ?_
  refine pm ?_
  obtain ⟨v1, hv1, h0⟩ := bnd h0
  obtain ⟨hq2, h0⟩ := chk_e h0
  refine rw1 rfl w0 rfl (c_callP [0] 300 (l_markShapeS_o_c hv1) rfl rfl) ?_
  refine pa ?_
  refine nx ?_
  refine sq [0,1] ?_
  refine pm ?_
  refine pa ?_
  refine nx ?_
  refine aw_ret ?_
  cases h0
  exact retP_ (rs := [.tmp 4]) 1 rfl rfl

theorem l_heldShapeS_c {p0 : List Shape_} {p1 : Int} {r : Int} (h0 : l_heldShapeS_m p0 p1 = some r) : FnC Tryz.prog 30 [] [.d (.sl (List.map cShape_ p0)), .d (.v (.int .i64 p1))] [] (.d (.v (.int .i64 r))) := by
  refine fnc_intro (T := tt) (N := 81) tok Tryz.func30 rfl rfl (by kernel_rfl) rfl rfl ?_
  unfold l_heldShapeS_m at h0
  refine sq [0] ?_
  refine pa ?_
  refine nx ?_
  obtain ⟨v19x, h1, h0⟩ := bnd h0
  refine aw_cutE v19x (fun v19 => ⟨updA ((fun _ => .dead)) 1 (.d (.v (.int .i64 v19))), lks [.no, .no, .no]⟩) ?_ ?_
  refine sq [0] ?_
  refine pa ?_
  refine nx ?_
  refine aw_block ?_
  refine aw_loopM (fun s10 => ⟨updA (updA (updA ((fun _ => .dead)) 0 (.d (.sl (List.map cShape_ p0)))) 1 (.d (.v (.int .i64 s10.1)))) 5 (.d (.v (.int .i64 s10.2))), lks [.no, .no, .no]⟩) h1 ?_ (fun s10 y h2 => ?_)
  exact wk [0, 1, 2]
  refine aw_seq ?_
  refine sq [0,1,2,3] ?_
  refine pm ?_
  refine pm ?_
  refine rp rfl w0 rfl (pu_len_map tok rfl rfl rfl) ?_
  refine rp rfl w0 rfl (pu_lss rfl rfl) ?_
  refine nx ?_
  refine aw_if h2 rfl (fun hc h2 => ?_) (fun hc h2 => ?_)
  refine sk ?_
  refine aw_seq ?_
  refine aw_block ?_
  refine aw_seq ?_
  refine sq [0,1,2,3,4,5,6] ?_
  refine pm ?_
  refine pm ?_
  obtain ⟨v11, hv11, h2⟩ := bnd h2
  refine rp rfl w0 rfl (sl_ix tok hv11 rfl rfl rfl rfl rfl rfl) ?_
  refine fr tok ?_
  refine lr tok ?_
  refine pm ?_
  refine rp rfl w0 rfl (pu_neq rfl rfl) ?_
  refine nx ?_
  refine aw_if h2 rfl (fun hc h2 => ?_) (fun hc h2 => ?_)
  refine sq [0] ?_
  refine pa ?_
  refine nx ?_
  refine aw_ret ?_
  refine then_r ?_
  refine block_r ?_
  refine then_r ?_
  cases h2
  refine loop_r ⟨_, rfl, fun e => ?_⟩
  subst e
  refine block_r ?_
  replace h0 := orE_s h0
  refine then_r ?_
  cases h0
  exact ret0_ (rs := [.tmp 4]) rfl
  refine sk ?_
  refine sq [0,1,2] ?_
  refine pm ?_
  refine rp rfl w0 rfl (pw_add rfl rfl) ?_
  refine pa ?_
  refine nx ?_
  refine aw_seq ?_
  refine sq [0,1,2,3,4,5,6,7] ?_
  refine pm ?_
  refine pm ?_
  obtain ⟨v12, hv12, h2⟩ := bnd h2
  refine rp rfl w0 rfl (sl_ix tok hv12 rfl rfl rfl rfl rfl rfl) ?_
  refine fr tok ?_
  refine fr tok ?_
  refine lr tok ?_
  refine pm ?_
  refine rp rfl w0 rfl (pu_neq rfl rfl) ?_
  refine nx ?_
  refine aw_if h2 rfl (fun hc h2 => ?_) (fun hc h2 => ?_)
  refine sq [0] ?_
  refine pa ?_
  refine nx ?_
  refine aw_ret ?_
  refine then_r ?_
  refine block_r ?_
  refine then_r ?_
  cases h2
  refine loop_r ⟨_, rfl, fun e => ?_⟩
  subst e
  refine block_r ?_
  replace h0 := orE_s h0
  refine then_r ?_
  cases h0
  exact ret0_ (rs := [.tmp 4]) rfl
  refine sk ?_
  refine sq [0,1,2] ?_
  refine pm ?_
  refine rp rfl w0 rfl (pw_add rfl rfl) ?_
  refine pa ?_
  refine nx ?_
  refine aw_seq ?_
  refine sq [0,1,2,3,4,5,6,7] ?_
  refine pm ?_
  refine pm ?_
  obtain ⟨v13, hv13, h2⟩ := bnd h2
  refine rp rfl w0 rfl (sl_ix tok hv13 rfl rfl rfl rfl rfl rfl) ?_
  refine fr tok ?_
  refine fr tok ?_
  refine lr tok ?_
  refine pm ?_
  refine rp rfl w0 rfl (pu_neq rfl rfl) ?_
  refine nx ?_
  refine aw_if h2 rfl (fun hc h2 => ?_) (fun hc h2 => ?_)
  refine sq [0] ?_
  refine pa ?_
  refine nx ?_
  refine aw_ret ?_
  refine then_r ?_
  refine block_r ?_
  refine then_r ?_
  cases h2
  refine loop_r ⟨_, rfl, fun e => ?_⟩
  subst e
  refine block_r ?_
  replace h0 := orE_s h0
  refine then_r ?_
  cases h0
  exact ret0_ (rs := [.tmp 4]) rfl
  refine sk ?_
  refine sq [0,1,2] ?_
  refine pm ?_
  refine rp rfl w0 rfl (pw_add rfl rfl) ?_
  refine pa ?_
  refine nx ?_
  refine aw_seq ?_
  refine sq [0,1,2,3,4,5,6,7] ?_
  refine pm ?_
  refine pm ?_
  obtain ⟨v14, hv14, h2⟩ := bnd h2
  refine rp rfl w0 rfl (sl_ix tok hv14 rfl rfl rfl rfl rfl rfl) ?_
  refine fr tok ?_
  refine fr tok ?_
  refine lr tok ?_
  refine pm ?_
  refine rp rfl w0 rfl (pu_neq rfl rfl) ?_
  refine nx ?_
  refine aw_if h2 rfl (fun hc h2 => ?_) (fun hc h2 => ?_)
  refine sq [0] ?_
  refine pa ?_
  refine nx ?_
  refine aw_ret ?_
  refine then_r ?_
  refine block_r ?_
  refine then_r ?_
  cases h2
  refine loop_r ⟨_, rfl, fun e => ?_⟩
  subst e
  refine block_r ?_
  replace h0 := orE_s h0
  refine then_r ?_
  cases h0
  exact ret0_ (rs := [.tmp 4]) rfl
  refine sk ?_
  refine sq [0,1,2] ?_
  refine pm ?_
  refine rp rfl w0 rfl (pw_add rfl rfl) ?_
  refine pa ?_
  refine nx ?_
  refine aw_seq ?_
  refine sq [0,1,2,3,4,5,6,7] ?_
  refine pm ?_
  refine pm ?_
  obtain ⟨v15, hv15, h2⟩ := bnd h2
  refine rp rfl w0 rfl (sl_ix tok hv15 rfl rfl rfl rfl rfl rfl) ?_
  refine fr tok ?_
  refine fr tok ?_
  refine lr tok ?_
  refine pm ?_
  refine rp rfl w0 rfl (pu_neq rfl rfl) ?_
  refine nx ?_
  refine aw_if h2 rfl (fun hc h2 => ?_) (fun hc h2 => ?_)
  refine sq [0] ?_
  refine pa ?_
  refine nx ?_
  refine aw_ret ?_
  refine then_r ?_
  refine block_r ?_
  refine then_r ?_
  cases h2
  refine loop_r ⟨_, rfl, fun e => ?_⟩
  subst e
  refine block_r ?_
  replace h0 := orE_s h0
  refine then_r ?_
  cases h0
  exact ret0_ (rs := [.tmp 4]) rfl
  refine sk ?_
  refine sq [0,1,2] ?_
  refine pm ?_
  refine rp rfl w0 rfl (pw_add rfl rfl) ?_
  refine pa ?_
  refine nx ?_
  refine aw_seq ?_
  refine sq [0,1,2,3,4,5,6] ?_
  refine pm ?_
  refine pm ?_
  obtain ⟨v16, hv16, h2⟩ := bnd h2
  refine rp rfl w0 rfl (sl_ix tok hv16 rfl rfl rfl rfl rfl rfl) ?_
  refine fr tok ?_
  refine lr tok ?_
  refine pm ?_
  refine rp rfl w0 rfl (pu_neq rfl rfl) ?_
  refine nx ?_
  refine aw_if h2 rfl (fun hc h2 => ?_) (fun hc h2 => ?_)
  refine sq [0] ?_
  refine pa ?_
  refine nx ?_
  refine aw_ret ?_
  refine then_r ?_
  refine block_r ?_
  refine then_r ?_
  cases h2
  refine loop_r ⟨_, rfl, fun e => ?_⟩
  subst e
  refine block_r ?_
  replace h0 := orE_s h0
  refine then_r ?_
  cases h0
  exact ret0_ (rs := [.tmp 4]) rfl
  refine sk ?_
  refine sq [0,1,2] ?_
  refine pm ?_
  refine rp rfl w0 rfl (pw_add rfl rfl) ?_
  refine pa ?_
  refine nx ?_
  refine aw_seq ?_
  refine aw_seq ?_
  refine aw_region_draw (is := [0, 1, 2, 3, 4, 5, 6, 7]) [0, 0, 3, 7, 15, 0, 32, 127] follows (by kernel_rfl) ?_
  refine tpm ?_
  refine tpm ?_
  obtain ⟨v17, hv17, h2⟩ := bnd h2
  refine rt_p rfl w0 rfl (sl_ix tok hv17 rfl rfl rfl rfl rfl rfl) ?_
  refine tfr tok ?_
  refine tlr tok ?_
  refine tpm ?_
  obtain ⟨v18, hv18, h2⟩ := bnd h2
  refine rt_c rfl w0 rfl (b_call 3 (l_markText_c hv18) rfl rfl rfl) ?_
  refine rt_p rfl w0 rfl (pu_sneq rfl rfl) ?_
  refine rt_nil ?_
  refine ⟨by kernel_rfl, ?_⟩
  refine then_n ?_
  refine aw_if h2 rfl (fun hc h2 => ?_) (fun hc h2 => ?_)
  refine sq [0] ?_
  refine pa ?_
  refine nx ?_
  refine aw_ret ?_
  refine then_r ?_
  refine block_r ?_
  refine then_r ?_
  cases h2
  refine loop_r ⟨_, rfl, fun e => ?_⟩
  subst e
  refine block_r ?_
  replace h0 := orE_s h0
  refine then_r ?_
  cases h0
  exact ret0_ (rs := [.tmp 4]) rfl
  refine sk ?_
  refine sr [0,1,2] ?_
  refine pm ?_
  refine rp rfl w0 rfl (pw_add rfl rfl) ?_
  refine pa ?_
  refine ra_nil ?_
  refine block_n ?_
  refine then_n ?_
  refine sr [0,1,2] ?_
  refine pm ?_
  refine rp rfl w0 rfl (pw_add rfl rfl) ?_
  refine pa ?_
  refine ra_nil ?_
  refine loop_n ?_
  cases h2
  refine ⟨_, rfl, ?_⟩
  exact wk [0, 1, 2]
  refine aw_exit ?_
  refine then_e ?_
  cases h2
  refine loop_x ⟨_, rfl, fun e => ?_⟩
  subst e
  refine block_hit ?_
  refine then_n ?_
  refine ⟨_, rfl, ?_⟩
  exact wk [0, 1, 2]
  rintro v19 rfl
  replace h0 := orE_f h0
  refine sq [0,1] ?_
  refine pm ?_
  refine pa ?_
  refine nx ?_
  refine aw_ret ?_
  cases h0
  exact ret0_ (rs := [.tmp 4]) rfl

theorem l_heldDrawing_c {p0 : Drawing_} {p1 : Int} {r : Int} (h0 : l_heldDrawing_m p0 p1 = some r) : FnC Tryz.prog 9 [] [.agg [.d (.sl (List.map cShape_ p0.Shapes))], .d (.v (.int .i64 p1))] [] (.d (.v (.int .i64 r))) := by
  refine fnc_intro (T := tt) (N := 12) tok Tryz.func9 rfl rfl (by kernel_rfl) rfl rfl ?_
  unfold l_heldDrawing_m at h0
  refine sq [0,1] ?_
  refine rs rfl w0 rfl (st_box 3 (cs := _ :: _) rfl rfl rfl) ?_
  refine pa ?_
  refine nx ?_
  refine sq [0,1,2,3,4] ?_
  refine fa tok ?_
  refine ld tok ?_
  refine pm ?_
  obtain ⟨v1, hv1, h0⟩ := bnd h0
  refine rs rfl w0 rfl (c_call 4 (l_heldShapeS_c hv1) rfl rfl rfl) ?_
  refine pa ?_
  refine nx ?_
  refine aw_seq ?_
  refine sq [0,1] ?_
  refine pm ?_
  refine rp rfl w0 rfl (pu_lss rfl rfl) ?_
  refine nx ?_
  refine aw_if h0 rfl (fun hc h0 => ?_) (fun hc h0 => ?_)
  refine sq [0] ?_
  refine pa ?_
  refine nx ?_
  refine aw_ret ?_
  refine then_r ?_
  cases h0
  exact ret0_ (rs := [.tmp 4]) rfl
  refine sk ?_
  refine sq [0,1] ?_
  refine pm ?_
  refine pa ?_
  refine nx ?_
  refine aw_ret ?_
  cases h0
  exact ret0_ (rs := [.tmp 4]) rfl

theorem l_FnExactReadDrawing_c {p0 : ByteArray} {r : Bool} (h0 : l_FnExactReadDrawing_m p0 = some r) : FnC Tryz.prog 3 [] [.d (.v (.string p0))] [] (.d (.v (.bool r))) := by
  refine fnc_intro (T := tt) (N := 66) tok Tryz.func3 rfl rfl (by kernel_rfl) rfl rfl ?_
  unfold l_FnExactReadDrawing_m at h0
  refine sq [0] ?_
  refine pa ?_
  refine nx ?_
  refine aw_seq ?_
  refine sq [0,1,2] ?_
  refine pm ?_
  refine rp rfl w0 rfl (pu_len_str tok rfl rfl rfl) ?_
  refine rp rfl w0 rfl (pu_gtr rfl rfl) ?_
  refine nx ?_
  refine aw_if h0 rfl (fun hc h0 => ?_) (fun hc h0 => ?_)
  refine sq [0] ?_
  refine pa ?_
  refine nx ?_
  refine aw_ret ?_
  refine then_r ?_
  cases h0
  exact ret0_ (rs := [.tmp 2]) rfl
  refine sk ?_
  refine sq [0,1,2,3,4,5,6,7] ?_
  refine pm ?_
  obtain ⟨v1, hv1, h0⟩ := bnd h0
  refine rs rfl w0 rfl (c_call 3 (s_ReadDrawing_c hv1) rfl rfl rfl) ?_
  refine rp rfl w0 rfl (pu_move (r := .tup _) rfl) ?_
  refine rp rfl w0 rfl (pu_extract rfl rfl) ?_
  refine rp rfl w0 rfl (pu_extract rfl rfl) ?_
  refine rs rfl w0 rfl (st_alloc 4 (cs := [.d (.v (.slice none 0 0))]) tok rfl rfl rfl) ?_
  refine rw0 rfl w0 (bx_st (cs := _ :: _) tok rfl rfl rfl rfl rfl rfl rfl) ?_
  refine pa ?_
  refine nx ?_
  refine sq [0,1,2,3,4,5,6,7] ?_
  refine pm ?_
  obtain ⟨v2, hv2, h0⟩ := bnd h0
  refine rs rfl w0 rfl (c_call 5 (i_ReadDrawing_c hv2) rfl rfl rfl) ?_
  refine rp rfl w0 rfl (pu_move (r := .tup _) rfl) ?_
  refine rp rfl w0 rfl (pu_extract rfl rfl) ?_
  refine rp rfl w0 rfl (pu_extract rfl rfl) ?_
  refine rs rfl w0 rfl (st_alloc 6 (cs := [.d (.v (.slice none 0 0))]) tok rfl rfl rfl) ?_
  refine rw0 rfl w0 (bx_st (cs := _ :: _) tok rfl rfl rfl rfl rfl rfl rfl) ?_
  refine pa ?_
  refine nx ?_
  refine aw_seq ?_
  obtain ⟨v4, h1, h0⟩ := bnd h0
  refine aw_cut ⟨updA (updA (updA (updA (updA ((fun _ => .dead)) 0 (.d (.v (.string p0)))) 3 (.ptr 3 0 1 0 0)) 4 (.d (.v (.bool v1.2)))) 5 (.ptr 4 0 1 0 0)) 32 (.d (.v (.bool v4))), lks [.no, .no, .no, .live [⟨24, 1, .av [[.own 5 0 (v1.1.Shapes).length]]⟩], .live [⟨24, 1, .av [[.own 6 0 (v2.1.Shapes).length]]⟩], .live [⟨44, 7, .data (List.map cShape_ v1.1.Shapes)⟩], .live [⟨44, 7, .data (List.map cShape_ v2.1.Shapes)⟩]]⟩ ?_ ?_
  refine sr [0,1,2,3,4,5,6,7,8] ?_
  refine rl rfl w0 rfl (bx_ldN tok rfl rfl rfl rfl) ?_
  refine rl rfl w0 rfl (bx_ldN tok rfl rfl rfl rfl) ?_
  obtain ⟨v3, hv3, h1⟩ := bnd h1
  refine rs rfl w0 rfl (c_callV 7 (l_eqDrawing_c hv3) rfl rfl) ?_
  refine rp rfl w0 rfl (pu_not rfl) ?_
  refine pm ?_
  refine ra_ifB (u := 28) h1 rfl (fun hc h1 => ?_) (fun hc h1 => ?_)
  iterate 3 refine k1 ?_
  refine pkt ?_
  refine nx ?_
  cases h1
  exact wk [0, 1, 2, 4, 6, 3, 5]
  refine pm1 ?_
  refine pm1 ?_
  refine rp rfl (w1 rfl rfl rfl) rfl (pu_bneq tok rfl rfl rfl rfl) ?_
  refine pkf ?_
  refine nx ?_
  cases h1
  exact wk [0, 1, 2, 4, 6, 3, 5]
  refine aw_ifB h0 rfl (fun hc h0 => ?_) (fun hc h0 => ?_)
  refine sq [0] ?_
  refine pa ?_
  refine nx ?_
  refine aw_ret ?_
  refine then_r ?_
  cases h0
  exact ret0_ (rs := [.tmp 2]) rfl
  refine sk ?_
  refine sq [0] ?_
  refine pa ?_
  refine nx ?_
  refine sq [0,1,2,3] ?_
  refine rl rfl w0 rfl (bx_ldN tok rfl rfl rfl rfl) ?_
  refine pm ?_
  obtain ⟨v5, hv5, h0⟩ := bnd h0
  obtain ⟨hq6, h0⟩ := chk_e h0
  refine rw1 rfl w0 rfl (c_callP [6] 300 (l_markDrawing_o_c hv5) rfl rfl) ?_
  refine pa ?_
  refine nx ?_
  refine sq [0] ?_
  refine pa ?_
  refine nx ?_
  refine sq [0,1,2,3] ?_
  refine rl rfl w0 rfl (bx_ldN tok rfl rfl rfl rfl) ?_
  refine pm ?_
  obtain ⟨v7, hv7, h0⟩ := bnd h0
  refine rs rfl w0 rfl (c_callV 7 (l_heldDrawing_c hv7) rfl rfl) ?_
  refine pa ?_
  refine nx ?_
  refine aw_seq ?_
  refine sq [0,1] ?_
  refine pm ?_
  refine rp rfl w0 rfl (pu_lss rfl rfl) ?_
  refine nx ?_
  refine aw_if h0 rfl (fun hc h0 => ?_) (fun hc h0 => ?_)
  refine sq [0] ?_
  refine pa ?_
  refine nx ?_
  refine aw_ret ?_
  refine then_r ?_
  cases h0
  exact ret0_ (rs := [.tmp 2]) rfl
  refine sk ?_
  refine aw_seq ?_
  refine sq [0,1,2] ?_
  refine pm ?_
  refine pm ?_
  refine rp rfl w0 rfl (pu_neq rfl rfl) ?_
  refine nx ?_
  refine aw_if h0 rfl (fun hc h0 => ?_) (fun hc h0 => ?_)
  refine sq [0] ?_
  refine pa ?_
  refine nx ?_
  refine aw_ret ?_
  refine then_r ?_
  cases h0
  exact ret0_ (rs := [.tmp 2]) rfl
  refine sk ?_
  refine sq [0,1,2,3,4,5,6,7] ?_
  refine pm ?_
  obtain ⟨v8, hv8, h0⟩ := bnd h0
  refine rs rfl w0 rfl (c_call 7 (i_ReadDrawing_c hv8) rfl rfl rfl) ?_
  refine rp rfl w0 rfl (pu_move (r := .tup _) rfl) ?_
  refine rp rfl w0 rfl (pu_extract rfl rfl) ?_
  refine rp rfl w0 rfl (pu_extract rfl rfl) ?_
  refine rs rfl w0 rfl (st_alloc 8 (cs := [.d (.v (.slice none 0 0))]) tok rfl rfl rfl) ?_
  refine rw0 rfl w0 (bx_st (cs := _ :: _) tok rfl rfl rfl rfl rfl rfl rfl) ?_
  refine pa ?_
  refine nx ?_
  refine aw_seq ?_
  obtain ⟨v10, h1, h0⟩ := bnd h0
  refine aw_cut ⟨updA (updA (updA ((fun _ => .dead)) 5 (.ptr 3 0 1 0 0)) 7 (.d (.v (.int .i64 v5.1)))) 57 (.d (.v (.bool v10))), lks [.no, .no, .no, .live [⟨24, 1, .av [[.own 4 0 (v5.2).length]]⟩], .live [⟨44, 7, .data (List.map cShape_ v5.2)⟩]]⟩ ?_ ?_
  refine sr [0,1,2,3,4,5,6,7,8] ?_
  refine rl rfl w0 rfl (bx_ldN tok rfl rfl rfl rfl) ?_
  refine rl rfl w0 rfl (bx_ldN tok rfl rfl rfl rfl) ?_
  obtain ⟨v9, hv9, h1⟩ := bnd h1
  refine rs rfl w0 rfl (c_callV 9 (l_eqDrawing_c hv9) rfl rfl) ?_
  refine rp rfl w0 rfl (pu_not rfl) ?_
  refine pm ?_
  refine ra_ifB (u := 53) h1 rfl (fun hc h1 => ?_) (fun hc h1 => ?_)
  iterate 3 refine k1 ?_
  refine pkt ?_
  refine nx ?_
  cases h1
  exact wk [0, 1, 2, 4, 6]
  refine pm1 ?_
  refine pm1 ?_
  refine rp rfl (w1 rfl rfl rfl) rfl (pu_bneq tok rfl rfl rfl rfl) ?_
  refine pkf ?_
  refine nx ?_
  cases h1
  exact wk [0, 1, 2, 4, 6]
  refine aw_ifB h0 rfl (fun hc h0 => ?_) (fun hc h0 => ?_)
  refine sq [0] ?_
  refine pa ?_
  refine nx ?_
  refine aw_ret ?_
  refine then_r ?_
  cases h0
  exact ret0_ (rs := [.tmp 2]) rfl
  refine sk ?_
  refine sq [0] ?_
  refine pa ?_
  refine nx ?_
  refine sq [0,1,2,3] ?_
  refine rl rfl w0 rfl (bx_ldN tok rfl rfl rfl rfl) ?_
  refine pm ?_
  obtain ⟨v11, hv11, h0⟩ := bnd h0
  refine rs rfl w0 rfl (c_callV 5 (l_heldDrawing_c hv11) rfl rfl) ?_
  refine pa ?_
  refine nx ?_
  refine aw_seq ?_
  refine sq [0,1] ?_
  refine pm ?_
  refine rp rfl w0 rfl (pu_lss rfl rfl) ?_
  refine nx ?_
  refine aw_if h0 rfl (fun hc h0 => ?_) (fun hc h0 => ?_)
  refine sq [0] ?_
  refine pa ?_
  refine nx ?_
  refine aw_ret ?_
  refine then_r ?_
  cases h0
  exact ret0_ (rs := [.tmp 2]) rfl
  refine sk ?_
  refine aw_seq ?_
  refine sq [0,1,2] ?_
  refine pm ?_
  refine pm ?_
  refine rp rfl w0 rfl (pu_neq rfl rfl) ?_
  refine nx ?_
  refine aw_if h0 rfl (fun hc h0 => ?_) (fun hc h0 => ?_)
  refine sq [0] ?_
  refine pa ?_
  refine nx ?_
  refine aw_ret ?_
  refine then_r ?_
  cases h0
  exact ret0_ (rs := [.tmp 2]) rfl
  refine sk ?_
  refine sq [0] ?_
  refine pa ?_
  refine nx ?_
  refine aw_ret ?_
  cases h0
  exact ret0_ (rs := [.tmp 2]) rfl

end Go.Proofs.YtjjelnpehgoagaaGreatDoor
namespace Go.Proofs.YtjjelnpehgoagaaGreatDoor
set_option linter.unusedVariables false
set_option maxRecDepth 100000
def decB (n : Int) : ByteArray := ⟨(Lib.itoa n).toArray⟩
theorem decB_size {n : Int} (h : osI n) : (decB n).size ≤ 21 := by
  have := Lib.itoa_length_le n h.1 h.2
  simpa [decB, ByteArray.size] using this
def dgs (u : Nat) : List Int := if h : u = 0 then [] else dgs (u / 10) ++ [48 + ((u % 10 : Nat) : Int)]
termination_by u
decreasing_by omega
theorem dgs_zero : dgs 0 = [] := by rw [dgs, dif_pos rfl]
theorem dgs_pos {u : Nat} (h : u ≠ 0) : dgs u = dgs (u / 10) ++ [48 + ((u % 10 : Nat) : Int)] := by rw [dgs, dif_neg h]
theorem u8_dig (d : Nat) (h : d < 10) : UInt8.ofNat (48 + (d : Int)).toNat = 48 + UInt8.ofNat d := by
  rw [show (48 + (d : Int)).toNat = 48 + d by omega, UInt8.ofNat_add]
  rfl
theorem dgs_dec : ∀ (u : Nat), u ≠ 0 → (strOfNums (dgs u)).data.toList = Lib.decDigits u := by
  intro u
  induction u using Nat.strongRecOn with
  | _ u ih =>
    intro h
    rw [dgs_pos h, Lib.decDigits]
    by_cases h1 : u < 10
    · rw [dif_pos h1, show u / 10 = 0 by omega, dgs_zero, show u % 10 = u by omega]
      simp [strOfNums]
      exact u8_dig u (by omega)
    · rw [dif_neg h1, ← ih (u / 10) (by omega) (by omega)]
      simp [strOfNums]
      exact u8_dig (u % 10) (by omega)
theorem dgs_len : ∀ (k u : Nat), u < 10 ^ k → (dgs u).length ≤ k
  | 0, u, h => by
    have : u = 0 := by simpa using h
    subst this
    rw [dgs_zero]; exact Nat.le_refl _
  | k + 1, u, h => by
    by_cases h0 : u = 0
    · subst h0; rw [dgs_zero]; exact Nat.zero_le _
    · rw [dgs_pos h0, List.length_append]
      have := dgs_len k (u / 10) (by rw [Nat.pow_succ] at h; omega)
      simp; omega
theorem s_l01Dec_eq {n : Int} (hn : osI n) : s_l01Dec_m n = some (decB n) := by
  obtain ⟨h0, h1⟩ := hn
  unfold s_l01Dec_m
  rw [loopM_eq (x := dgs n.natAbs) (fun s : Int × List Int => osI s.1 ∧ dgs s.1.natAbs ++ s.2 = dgs n.natAbs) (fun s => s.1.natAbs) (fun s hs => ?_) (s0 := (n, [])) ⟨⟨h0, h1⟩, by simp⟩ (by dsimp only; omega)]
  · simp only [Option.bind_some]
    by_cases hz : n = 0
    · subst hz
      rw [Int.natAbs_zero, dgs_zero, if_pos (by simp)]
      simp [decB, Lib.itoa, Lib.decDigits]
    · have hp : n.natAbs ≠ 0 := by omega
      have hl : (dgs n.natAbs).length ≠ 0 := by rw [dgs_pos hp]; simp
      have hL := dgs_len 19 n.natAbs (by omega)
      have e := dgs_dec n.natAbs hp
      have es : strOfNums (dgs n.natAbs) = ⟨(Lib.decDigits n.natAbs).toArray⟩ := by rw [← e]
      rw [if_neg (by omega)]
      split
      · rename_i hneg
        rw [chk_t (by simp [strOfNums, ByteArray.size]; omega), es]
        simp only [decB, Lib.itoa, if_pos hneg]
        congr 1
      · rename_i hneg
        rw [es]
        simp only [decB, Lib.itoa, if_neg hneg]
        rw [show n.toNat = n.natAbs by omega]
  · obtain ⟨k, out⟩ := s
    obtain ⟨⟨a0, a1⟩, a2⟩ := hs
    simp only at a0 a1 a2 ⊢
    by_cases hk : k = 0
    · right
      subst hk
      rw [Int.natAbs_zero, dgs_zero] at a2
      simp at a2 ⊢
      exact a2
    · left
      rw [if_pos hk]
      have hd : (if k.tmod 10 < 0 then some (w64 (-(k.tmod 10))) else some (k.tmod 10)) = some (((k.natAbs % 10 : Nat)) : Int) := by
        have e1 : ((k.tmod 10).natAbs) = k.natAbs % 10 := Int.natAbs_tmod _ _
        split
        · rw [w64_in (by omega) (by omega)]; congr 1; omega
        · congr 1; omega
      rw [hd]
      simp only [Option.bind_some]
      have hL : (dgs n.natAbs).length ≤ 19 := dgs_len 19 n.natAbs (by omega)
      have hle : out.length ≤ 19 := by rw [← a2] at hL; simp at hL; omega
      have ew : IntKind.u8.wrap (w64 (48 + ((k.natAbs % 10 : Nat) : Int))) = 48 + ((k.natAbs % 10 : Nat) : Int) := by
        rw [w64_in (by omega) (by omega)]
        exact IntWalk.u8_in _ ⟨by omega, by omega⟩
      have eq : (k.tdiv 10).natAbs = k.natAbs / 10 := Int.natAbs_tdiv _ _
      rw [chk_t (by simp; omega), ew, w64_in (by omega) (by omega)]
      refine ⟨_, rfl, ⟨⟨by dsimp only; omega, by dsimp only; omega⟩, ?_⟩, ?_⟩
      · dsimp only
        rw [eq, ← a2, dgs_pos (u := k.natAbs) (by omega)]
        simp
      · dsimp only
        omega
theorem i_Decimal_eq {n : Int} (hn : osI n) : i_Decimal_m n = some (decB n) := by
  unfold i_Decimal_m strconv_FormatInt_m
  rw [chk_t ⟨hn.1, hn.2, rfl⟩]
  rfl
end Go.Proofs.YtjjelnpehgoagaaGreatDoor
namespace Go.Proofs.YtjjelnpehgoagaaGreatDoor
set_option linter.unusedVariables false
def smS (x : ByteArray) : Prop := x.size ≤ 1048576
def smL {α : Type} (sm : α → Prop) (xs : List α) : Prop := xs.length ≤ 1048576 ∧ ∀ m ∈ xs, sm m
theorem strOf_one (b : Int) : (strOfNums [b]).size = 1 := by simp [strOfNums, ByteArray.size]
theorem markText_some {k : Int} (h0 : 0 ≤ k) (h1 : k ≤ 1000000000000000000) : ∃ t, l_markText_m k = some t := by
  unfold l_markText_m
  by_cases hk : k ≤ 0
  · exact ⟨_, if_pos hk⟩
  · rw [if_neg hk]
    obtain ⟨x, hx, hp⟩ := loopM_of (S := Int × ByteArray) (X := ByteArray) (step := fun s5 => (if 0 < s5.1 then (chk ((strOfNums [IntKind.u8.wrap (w64 (48 + (s5.1.tmod 10)))]).size + s5.2.size ≤ 9223372036854775807) (some (.inl (w64 (s5.1.tdiv 10), (strOfNums [IntKind.u8.wrap (w64 (48 + (s5.1.tmod 10)))]) ++ s5.2)))) else some (.inr s5.2)))
      (fun (s : Int × ByteArray) => 0 ≤ s.1 ∧ s.1 + s.2.size ≤ 1000000000000000000) (fun (s : Int × ByteArray) => s.1.toNat) (fun x => (x.size : Int) ≤ 1000000000000000000) (fun s hI => by
        obtain ⟨i, b⟩ := s
        obtain ⟨q0, q1⟩ := hI
        dsimp only at q0 q1 ⊢
        by_cases hi : 0 < i
        · left
          have e1 : i.tdiv 10 = i / 10 := Int.tdiv_eq_ediv_of_nonneg q0
          have e2 : w64 (i / 10) = i / 10 := w64_in (by omega) (by omega)
          have e3 := strOf_one (IntKind.u8.wrap (w64 (48 + (i.tmod 10))))
          refine ⟨_, by rw [if_pos hi, chk_t (by rw [e3]; omega)], ?_, ?_⟩
          · dsimp only
            rw [e1, e2, ByteArray.size_append, e3]
            push_cast
            omega
          · dsimp only
            rw [e1, e2]; omega
        · right; exact ⟨b, by rw [if_neg hi], by omega⟩) (k, ⟨#[]⟩) ⟨h0, by show k + ((0 : Nat) : Int) ≤ _; omega⟩ (by dsimp only; omega)
    rw [hx]
    refine ⟨_, chk_t ?_⟩
    have : (⟨#[109]⟩ : ByteArray).size = 1 := rfl
    rw [this]; omega
def mkT (k : Int) : ByteArray := (l_markText_m k).getD ⟨#[]⟩
theorem markText_eq {k : Int} (h0 : 0 ≤ k) (h1 : k ≤ 1000000000000000000) : l_markText_m k = some (mkT k) := by
  obtain ⟨t, ht⟩ := markText_some h0 h1
  unfold mkT; rw [ht]; rfl
end Go.Proofs.YtjjelnpehgoagaaGreatDoor
namespace Go.Proofs.YtjjelnpehgoagaaGreatDoor
open Go.RowKit
set_option linter.unusedVariables false
set_option maxRecDepth 100000
set_option maxHeartbeats 2000000
def smSpot_ (x : Spot_) : Prop := (fun _ => True) x.X ∧ (fun _ => True) x.Y
def smShape_ (x : Shape_) : Prop := (fun _ => True) x.Kind ∧ smSpot_ x.A ∧ smSpot_ x.B ∧ (fun _ => True) x.R ∧ smS x.Name
def smDrawing_ (x : Drawing_) : Prop := (smL smShape_) x.Shapes
theorem eqSpot_refl {x : Spot_} (h : smSpot_ x) : l_eqSpot_m x x = some true := by
  unfold l_eqSpot_m
  simp []
theorem eqShape_refl {x : Shape_} (h : smShape_ x) : l_eqShape_m x x = some true := by
  unfold l_eqShape_m
  simp [eqSpot_refl h.2.1, eqSpot_refl h.2.2.1]
theorem eqShapeS_refl {x : List Shape_} (h : (smL smShape_) x) : l_eqShapeS_m x x = some true := by
  unfold l_eqShapeS_m
  rw [if_neg (by simp), eqS_refl (by have := h.1; omega) fun v hv => eqShape_refl (h.2 v hv)]; rfl
theorem eqDrawing_refl {x : Drawing_} (h : smDrawing_ x) : l_eqDrawing_m x x = some true := by
  unfold l_eqDrawing_m
  simp [eqShapeS_refl h]
def mkShapeS (k : Int) : Shape_ := ⟨k, ⟨k + 1, k + 2⟩, ⟨k + 3, k + 4⟩, k + 5, mkT (k + 6)⟩
theorem markShapeS_eq {x : List Shape_} {k : Int} (h0 : 0 ≤ k) (hk : k ≤ 100000000000000) (hl : x.length ≤ 1048576) : l_markShapeS_o_m x k = some (k + 7 * x.length, (List.range x.length).map fun (j : Nat) => mkShapeS (k + 7 * (j : Int))) := by
  unfold l_markShapeS_o_m
  rw [markS_ok (c := 7) (B := 1000000000000000) (M := mkShapeS) (by omega) (fun k i ys a1 a2 a3 a4 a5 => ?_) (fun k i ys a => by simp [a]) h0 hl (by omega)]
  · rfl
  · obtain ⟨e, he, _, _⟩ := atI_some a3 a4
    have w : ∀ n : Int, 0 ≤ n → n ≤ 2000000000000000 → w64 n = n := fun n p q => w64_in (by omega) (by omega)
    simp only [if_pos a4, he, Option.bind_some, List.set_set, atI_set a3 a4, w (k + 1) (by omega) (by omega), w (k + 1 + 1) (by omega) (by omega), w (k + 1 + 1 + 1) (by omega) (by omega), w (k + 1 + 1 + 1 + 1) (by omega) (by omega), w (k + 1 + 1 + 1 + 1 + 1) (by omega) (by omega), w (k + 1 + 1 + 1 + 1 + 1 + 1) (by omega) (by omega), w (k + 1 + 1 + 1 + 1 + 1 + 1 + 1) (by omega) (by omega), w (i + 1) (by omega) (by omega), markText_eq (show 0 ≤ k + 1 + 1 + 1 + 1 + 1 + 1 by omega) (by omega)]
    simp [mkShapeS, Int.add_assoc]
theorem heldShapeS_eq {n : Nat} {k : Int} (h0 : 0 ≤ k) (hk : k ≤ 100000000000000) (hl : n ≤ 1048576) : l_heldShapeS_m ((List.range n).map fun (j : Nat) => mkShapeS (k + 7 * (j : Int))) k = some (k + 7 * n) := by
  unfold l_heldShapeS_m
  rw [heldS_ok (c := 7) (B := 1000000000000000) (M := mkShapeS) (n := n) (by omega) (fun k' i a1 a2 a3 a4 a5 => ?_) (fun k i a => by simp [a]) h0 hl (by omega)]
  · rfl
  · have he := marked_get (M := mkShapeS) (k0 := k) (c := 7) a3 a4
    have w : ∀ n : Int, 0 ≤ n → n ≤ 2000000000000000 → w64 n = n := fun n p q => w64_in (by omega) (by omega)
    rw [← a5] at he
    simp only [List.length_map, List.length_range, if_pos a4, he, Option.bind_some, w (k' + 1) (by omega) (by omega), w (k' + 1 + 1) (by omega) (by omega), w (k' + 1 + 1 + 1) (by omega) (by omega), w (k' + 1 + 1 + 1 + 1) (by omega) (by omega), w (k' + 1 + 1 + 1 + 1 + 1) (by omega) (by omega), w (k' + 1 + 1 + 1 + 1 + 1 + 1) (by omega) (by omega), w (k' + 1 + 1 + 1 + 1 + 1 + 1 + 1) (by omega) (by omega), w (i + 1) (by omega) (by omega), markText_eq (show 0 ≤ k' + 1 + 1 + 1 + 1 + 1 + 1 by omega) (by omega)]
    simp [mkShapeS, Int.add_assoc]
theorem markDrawing_eq {x : Drawing_} {k : Int} (h0 : 0 ≤ k) (hk : k ≤ 8000000000000) (h : smDrawing_ x) : l_markDrawing_o_m x k = some (k + 7 * x.Shapes.length, ((List.range x.Shapes.length).map fun (j : Nat) => mkShapeS (k + 7 * (j : Int)))) := by
  have g0 := (h).1
  unfold l_markDrawing_o_m
  simp only [markShapeS_eq (x := x.Shapes) (k := k) (by omega) (by omega) (h).1, Option.bind_some, List.length_map, List.length_range, chk_true]
theorem heldDrawing_eq {x : Drawing_} {k : Int} (h0 : 0 ≤ k) (hk : k ≤ 8000000000000) (h : smDrawing_ x) : l_heldDrawing_m ⟨((List.range x.Shapes.length).map fun (j : Nat) => mkShapeS (k + 7 * (j : Int)))⟩ k = some (k + 7 * x.Shapes.length) := by
  have g0 := (h).1
  unfold l_heldDrawing_m
  simp only [heldShapeS_eq (n := x.Shapes.length) (k := k) (by omega) (by omega) (h).1, Option.bind_some, List.length_map, List.length_range, Int.not_lt.2 (show 0 ≤ k + 7 * x.Shapes.length by omega), if_false]
end Go.Proofs.YtjjelnpehgoagaaGreatDoor
namespace Go.Proofs.YtjjelnpehgoagaaGreatDoor
set_option linter.unusedVariables false
set_option maxRecDepth 100000
theorem ba_szD (a b : ByteArray) : (a ++ b).size = a.size + b.size := ByteArray.size_append
theorem foldS_ok {α β : Type} {xs : List α} {f : β → α → β} {step : β × Int → Option ((β × Int) ⊕ β)} (I : Nat → β → Prop) (b0 : β) (h0 : I 0 b0) (hI : ∀ (i : Nat) (hi : i < xs.length) b, I i b → I (i + 1) (f b xs[i])) (hS : ∀ (i : Nat) (hi : i < xs.length) b, I i b → step (b, (i : Int)) = some (.inl (f b xs[i], (i : Int) + 1))) (hE : ∀ b, step (b, (xs.length : Int)) = some (.inr b)) (hn : xs.length ≤ 9223372036854775807) : loopM step (b0, 0) = some (xs.foldl f b0) := by
  refine loopM_eq (fun (s : β × Int) => 0 ≤ s.2 ∧ s.2 ≤ xs.length ∧ s.1 = (xs.take s.2.toNat).foldl f b0 ∧ I s.2.toNat s.1) (fun (s : β × Int) => ((xs.length : Int) - s.2).toNat) (fun s hI' => ?_) (by simpa using h0) (by simp; omega)
  obtain ⟨b, i⟩ := s
  obtain ⟨q0, q1, q2, q3⟩ := hI'
  dsimp only at q0 q1 q2 q3 ⊢
  obtain ⟨j, rfl⟩ : ∃ j : Nat, i = j := ⟨i.toNat, by omega⟩
  have e2 : ((j : Int)).toNat = j := by omega
  rw [e2] at q2 q3
  by_cases hs : j < xs.length
  · left
    have e : ((j : Int) + 1).toNat = j + 1 := by omega
    refine ⟨_, hS j hs b q3, ⟨by dsimp only; omega, by dsimp only; omega, ?_, ?_⟩, by dsimp only; omega⟩
    · dsimp only
      rw [e, q2, List.take_succ_eq_append_getElem hs, List.foldl_append]; rfl
    · dsimp only
      rw [e]; exact hI j hs b q3
  · right
    have : j = xs.length := by omega
    subst this
    rw [hE b, q2, List.take_length]
def spcB : ByteArray := ⟨#[32]⟩
def lineB : ByteArray := ⟨#[108, 105, 110, 101]⟩
def circB : ByteArray := ⟨#[99, 105, 114, 99, 108, 101]⟩
def labB : ByteArray := ⟨#[108, 97, 98, 101, 108]⟩
def atT (a : Spot_) : ByteArray := ((spcB ++ decB a.X) ++ spcB) ++ decB a.Y
def lineT (s : Shape_) : ByteArray := if s.Kind = 1 then (lineB ++ atT s.A) ++ atT s.B else if s.Kind = 2 then ((circB ++ atT s.A) ++ spcB) ++ decB s.R else ((labB ++ atT s.A) ++ spcB) ++ s.Name
def drawT (xs : List Shape_) : ByteArray := xs.foldl (fun a s => a ++ (lineT s ++ nlB)) ⟨#[]⟩
theorem sp_os {s : Spot_} (h : spB s = true) : osI s.X ∧ osI s.Y := by
  unfold spB at h
  rw [Bool.and_eq_true] at h
  have h1 := of_decide_eq_true h.1
  have h2 := of_decide_eq_true h.2
  exact ⟨⟨by omega, by omega⟩, ⟨by omega, by omega⟩⟩
theorem sh_os {s : Shape_} (h : shB s = true) : (osI s.A.X ∧ osI s.A.Y) ∧ (s.Kind = 1 → osI s.B.X ∧ osI s.B.Y) ∧ (s.Kind = 2 → osI s.R) ∧ s.Name.size ≤ 12 := by
  unfold shB at h
  rw [Bool.and_eq_true] at h
  obtain ⟨h1, h2⟩ := h
  refine ⟨sp_os h1, fun hk => ?_, fun hk => ?_, ?_⟩
  · rw [if_pos hk, Bool.and_eq_true] at h2
    exact sp_os h2.1
  · rw [if_neg (by omega), if_pos hk, Bool.and_eq_true, Bool.and_eq_true] at h2
    have := of_decide_eq_true h2.2.1
    exact ⟨by omega, by omega⟩
  · split at h2
    · simp only [Bool.and_eq_true, decide_eq_true_eq] at h2
      rw [h2.2.2]; exact Nat.zero_le _
    · split at h2
      · simp only [Bool.and_eq_true, decide_eq_true_eq] at h2
        rw [h2.2.2]; exact Nat.zero_le _
      · split at h2
        · simp only [Bool.and_eq_true, decide_eq_true_eq] at h2
          have := h2.2.2
          unfold nameB at this
          simp at this
          omega
        · cases h2
theorem atT_size {a : Spot_} (h1 : osI a.X) (h2 : osI a.Y) : (atT a).size ≤ 44 := by
  have z1 := decB_size h1
  have z2 := decB_size h2
  have p1 : spcB.size = 1 := rfl
  unfold atT
  simp only [ba_szD, p1]
  omega
theorem s_l25At_eq {a : Spot_} (h1 : osI a.X) (h2 : osI a.Y) : s_l25At_m a = some (atT a) := by
  have z1 := decB_size h1
  have z2 := decB_size h2
  unfold s_l25At_m
  rw [show (⟨#[32]⟩ : ByteArray) = spcB from rfl, s_l01Dec_eq h1, s_l01Dec_eq h2]
  have p1 : spcB.size = 1 := rfl
  simp only [Option.bind_some, ba_szD, p1]
  rw [chk_t (by omega), chk_t (by omega), chk_t (by omega)]
  rfl
theorem lineT_size {s : Shape_} (h : shB s = true) : (lineT s).size ≤ 200 := by
  obtain ⟨⟨a1, a2⟩, b1, r1, n1⟩ := sh_os h
  have z1 := atT_size a1 a2
  have p1 : spcB.size = 1 := rfl
  have p2 : lineB.size = 4 := rfl
  have p3 : circB.size = 6 := rfl
  have p4 : labB.size = 5 := rfl
  unfold lineT
  split
  · rename_i hk
    have z2 := atT_size (b1 hk).1 (b1 hk).2
    simp only [ba_szD, p2]; omega
  · split
    · rename_i hk
      have z2 := decB_size (r1 hk)
      simp only [ba_szD, p1, p3]; omega
    · simp only [ba_szD, p1, p4]; omega
theorem s_l25Line_eq {s : Shape_} (h : shB s = true) : s_l25Line_m s = some (lineT s) := by
  obtain ⟨⟨a1, a2⟩, b1, r1, n1⟩ := sh_os h
  have z1 := atT_size a1 a2
  have p1 : spcB.size = 1 := rfl
  have p2 : lineB.size = 4 := rfl
  have p3 : circB.size = 6 := rfl
  have p4 : labB.size = 5 := rfl
  unfold s_l25Line_m lineT
  rw [show (⟨#[32]⟩ : ByteArray) = spcB from rfl, show (⟨#[108, 105, 110, 101]⟩ : ByteArray) = lineB from rfl, show (⟨#[99, 105, 114, 99, 108, 101]⟩ : ByteArray) = circB from rfl, show (⟨#[108, 97, 98, 101, 108]⟩ : ByteArray) = labB from rfl, s_l25At_eq a1 a2]
  by_cases h1 : s.Kind = 1
  · have z2 := atT_size (b1 h1).1 (b1 h1).2
    rw [if_pos h1, if_pos h1, s_l25At_eq (b1 h1).1 (b1 h1).2]
    simp only [Option.bind_some, ba_szD, p1, p2]
    rw [chk_t (by omega), chk_t (by omega)]
  · rw [if_neg h1, if_neg h1]
    by_cases h2 : s.Kind = 2
    · have z2 := decB_size (r1 h2)
      rw [if_pos h2, if_pos h2, s_l01Dec_eq (r1 h2)]
      simp only [Option.bind_some, ba_szD, p1, p3]
      rw [chk_t (by omega), chk_t (by omega), chk_t (by omega)]
    · rw [if_neg h2, if_neg h2]
      simp only [Option.bind_some, ba_szD, p1, p4]
      rw [chk_t (by omega), chk_t (by omega), chk_t (by omega)]
theorem i_shapeText_eq {s : Shape_} (h : shB s = true) : i_shapeText_m s = some (lineT s) := by
  obtain ⟨⟨a1, a2⟩, b1, r1, n1⟩ := sh_os h
  have y1 := decB_size a1
  have y2 := decB_size a2
  have p1 : spcB.size = 1 := rfl
  have p2 : (lineB ++ spcB).size = 5 := rfl
  have p3 : (circB ++ spcB).size = 7 := rfl
  have p4 : (labB ++ spcB).size = 6 := rfl
  unfold i_shapeText_m lineT
  rw [show (⟨#[32]⟩ : ByteArray) = spcB from rfl, show (⟨#[108, 105, 110, 101, 32]⟩ : ByteArray) = lineB ++ spcB from rfl, show (⟨#[99, 105, 114, 99, 108, 101, 32]⟩ : ByteArray) = circB ++ spcB from rfl, show (⟨#[108, 97, 98, 101, 108, 32]⟩ : ByteArray) = labB ++ spcB from rfl, i_Decimal_eq a1, i_Decimal_eq a2]
  simp only [Option.bind_some]
  rw [chk_t (by simp only [ba_szD, p1]; omega), chk_t (by simp only [ba_szD, p1]; omega)]
  by_cases h1 : s.Kind = 1
  · have z1 := decB_size (b1 h1).1
    have z2 := decB_size (b1 h1).2
    rw [if_pos h1, if_pos h1, i_Decimal_eq (b1 h1).1, i_Decimal_eq (b1 h1).2]
    simp only [Option.bind_some]
    generalize hq : lineB ++ spcB = q at *
    rw [chk_t (by simp only [ba_szD, p1, p2]; omega), chk_t (by simp only [ba_szD, p1, p2]; omega), chk_t (by simp only [ba_szD, p1, p2]; omega), chk_t (by simp only [ba_szD, p1, p2]; omega), chk_t (by simp only [ba_szD, p1, p2]; omega), ← hq]
    unfold atT
    simp only [ByteArray.append_assoc]
  · rw [if_neg h1, if_neg h1]
    by_cases h2 : s.Kind = 2
    · have z1 := decB_size (r1 h2)
      rw [if_pos h2, if_pos h2, i_Decimal_eq (r1 h2)]
      simp only [Option.bind_some]
      generalize hq : circB ++ spcB = q at *
      rw [chk_t (by simp only [ba_szD, p1, p3]; omega), chk_t (by simp only [ba_szD, p1, p3]; omega), chk_t (by simp only [ba_szD, p1, p3]; omega), ← hq]
      unfold atT
      simp only [ByteArray.append_assoc]
    · rw [if_neg h2, if_neg h2]
      generalize hq : labB ++ spcB = q at *
      rw [chk_t (by simp only [ba_szD, p1, p4]; omega), chk_t (by simp only [ba_szD, p1, p4]; omega), chk_t (by simp only [ba_szD, p1, p4]; omega), ← hq]
      unfold atT
      simp only [ByteArray.append_assoc]
theorem linesM_eq {f : Shape_ → Option ByteArray} (hf : ∀ s, shB s = true → f s = some (lineT s)) : ∀ (xs : List Shape_) (acc : ByteArray), (∀ s ∈ xs, shB s = true) → acc.size + xs.length * 201 ≤ 140737488355328 → linesM f xs acc = some (xs.foldl (fun a s => a ++ (lineT s ++ nlB)) acc)
  | [], acc, _, _ => rfl
  | s :: r, acc, h, hl => by
    have hs := h s (by simp)
    have z := lineT_size hs
    have p : nlB.size = 1 := rfl
    rw [List.length_cons] at hl
    unfold linesM
    rw [hf s hs, Option.bind_some, chk_t (by omega), List.foldl_cons]
    exact linesM_eq hf r _ (fun t ht => h t (by simp [ht])) (by simp only [ba_szD, p]; omega)
theorem dr_all {x : Drawing_} (h : drB x = true) : x.Shapes.length ≤ 1200 ∧ ∀ s ∈ x.Shapes, shB s = true := by
  unfold drB at h
  rw [Bool.and_eq_true] at h
  exact ⟨of_decide_eq_true h.1, List.all_eq_true.1 h.2⟩
def textD (x : Drawing_) : ByteArray := if drB x = true then drawT x.Shapes else ⟨#[]⟩
theorem i_DrawingText_eq (x : Drawing_) : i_DrawingText_m x = some (textD x) := by
  unfold i_DrawingText_m textD
  rw [i_ValidDrawing_eq, Option.bind_some]
  cases h : drB x
  · rfl
  · obtain ⟨h1, h2⟩ := dr_all h
    rw [if_pos rfl, if_pos rfl]
    exact linesM_eq (fun s hs => i_shapeText_eq hs) _ _ h2 (by show 0 + _ ≤ _; omega)
theorem s_l25Text_eq {x : Drawing_} (h : drB x = true) : s_l25Text_m x = some (drawT x.Shapes) := by
  obtain ⟨h1, h2⟩ := dr_all h
  unfold s_l25Text_m
  have p : nlB.size = 1 := rfl
  have := foldS_ok (xs := x.Shapes) (f := fun a s => a ++ (lineT s ++ nlB)) (step := fun s6 => (if s6.2 < (x.Shapes.length : Int) then ((atI x.Shapes s6.2).bind fun v7 => ((s_l25Line_m v7).bind fun v8 => (chk (v8.size + nlB.size ≤ 9223372036854775807) (chk (s6.1.size + (v8 ++ nlB).size ≤ 9223372036854775807) (some (.inl (s6.1 ++ (v8 ++ nlB), w64 (s6.2 + 1)))))))) else some (.inr s6.1))) (fun i b => b.size ≤ 201 * i) ⟨#[]⟩ (Nat.zero_le _) (fun i hi b hb => by
    have z := lineT_size (h2 _ (List.getElem_mem hi))
    simp only [ba_szD, p]; omega) (fun i hi b hb => by
    have hs := h2 _ (List.getElem_mem hi)
    have z := lineT_size hs
    have hi' : (i : Int) < (x.Shapes.length : Int) := by omega
    have e1 : w64 ((i : Int) + 1) = (i : Int) + 1 := w64_in (by omega) (by omega)
    simp only [if_pos hi', atI_lt hi, Option.bind_some, s_l25Line_eq hs]
    rw [chk_t (by rw [p]; omega), chk_t (by simp only [ba_szD, p]; omega), e1]) (fun b => by simp) (by omega)
  rw [show (⟨#[10]⟩ : ByteArray) = nlB from rfl, this]; rfl
end Go.Proofs.YtjjelnpehgoagaaGreatDoor
namespace Go.Proofs.YtjjelnpehgoagaaGreatDoor
set_option linter.unusedVariables false
set_option maxRecDepth 100000
abbrev tl (s : ByteArray) : List UInt8 := s.data.toList
def ba (l : List UInt8) : ByteArray := ⟨l.toArray⟩
theorem tl_ba (l : List UInt8) : tl (ba l) = l := rfl
theorem ba_tl (s : ByteArray) : ba (tl s) = s := rfl
theorem tl_inj {a b : ByteArray} (h : tl a = tl b) : a = b := by rw [← ba_tl a, ← ba_tl b, h]
theorem ba_size (l : List UInt8) : (ba l).size = l.length := by simp [ba, ByteArray.size]
theorem tl_len (s : ByteArray) : (tl s).length = s.size := by show s.data.toList.length = s.data.size; rw [Array.length_toList]
theorem tl_app (a b : ByteArray) : tl (a ++ b) = tl a ++ tl b := by show (a ++ b).data.toList = _; rw [ByteArray.data_append, Array.toList_append]
theorem tl_ext (s : ByteArray) (i j : Nat) : tl (s.extract i j) = ((tl s).take j).drop i := by
  simp [tl, ByteArray.data_extract, Array.toList_extract, List.extract_eq_take_drop]
  try rw [List.drop_take]
theorem strAt_l (s : ByteArray) (i : Nat) : strAt s (i : Int) = ((tl s)[i]?).map fun b => (b.toNat : Int) := by
  rw [strAt_bytes, atI_nat]
  simp [bytesL, tl]
theorem dig1 (d : Nat) (h : d < 10) : (UInt8.ofNat (48 + d)).toNat = 48 + d := by
  simp [UInt8.toNat_ofNat']; omega
theorem dec_digits : ∀ (u : Nat), ∀ b ∈ Lib.decDigits u, 48 ≤ b.toNat ∧ b.toNat ≤ 57 := by
  intro u
  induction u using Nat.strongRecOn with
  | _ u ih =>
    intro b hb
    rw [Lib.decDigits] at hb
    by_cases h1 : u < 10
    · rw [dif_pos h1, List.mem_singleton] at hb
      subst hb
      rw [dig1 u h1]; omega
    · rw [dif_neg h1, List.mem_append, List.mem_singleton] at hb
      rcases hb with hb | rfl
      · exact ih (u / 10) (by omega) b hb
      · rw [dig1 _ (by omega)]; omega
def valL (a : Nat) (l : List UInt8) : Nat := l.foldl (fun a b => a * 10 + (b.toNat - 48)) a
theorem valL_app (a : Nat) (l m : List UInt8) : valL a (l ++ m) = valL (valL a l) m := by simp [valL]
theorem valL_dec : ∀ (u : Nat), valL 0 (Lib.decDigits u) = u := by
  intro u
  induction u using Nat.strongRecOn with
  | _ u ih =>
    rw [Lib.decDigits]
    by_cases h1 : u < 10
    · rw [dif_pos h1]
      simp only [valL, List.foldl_cons, List.foldl_nil, dig1 u h1]; omega
    · rw [dif_neg h1, valL_app, ih (u / 10) (by omega)]
      simp only [valL, List.foldl_cons, List.foldl_nil, dig1 (u % 10) (by omega)]; omega
theorem valL_ge : ∀ (l : List UInt8) (a : Nat), a ≤ valL a l
  | [], a => Nat.le_refl _
  | b :: l, a => by
    have := valL_ge l (a * 10 + (b.toNat - 48))
    have e : valL a (b :: l) = valL (a * 10 + (b.toNat - 48)) l := rfl
    omega
theorem dec_len {u : Nat} (h : u < 1000000000000000000) : 1 ≤ (Lib.decDigits u).length ∧ (Lib.decDigits u).length ≤ 18 := by
  by_cases h0 : u = 0
  · subst h0; rw [Lib.decDigits]; simp
  · have e := congrArg List.length (dgs_dec u h0)
    have l := dgs_len 18 u (by omega)
    have p : (dgs u).length ≠ 0 := by rw [dgs_pos h0]; simp
    have e2 : (strOfNums (dgs u)).data.toList.length = (dgs u).length := by simp [strOfNums]
    omega
theorem parse_val {M : Nat} (hM : 18446744073709551615 ≤ M) : ∀ (l : List UInt8) (a : Nat), (∀ b ∈ l, 48 ≤ b.toNat ∧ b.toNat ≤ 57) → valL a l < 1844674407370955162 → Lib.parseUintM M a l = .ok (valL a l)
  | [], a, _, _ => rfl
  | b :: l, a, h, hv => by
    have hb := h b (by simp)
    have e : valL a (b :: l) = valL (a * 10 + (b.toNat - 48)) l := rfl
    have g := valL_ge l (a * 10 + (b.toNat - 48))
    rw [Lib.parseUintM, if_pos hb, if_neg (by omega), if_neg (by omega), parse_val hM l _ (fun c hc => h c (by simp [hc])) (by omega), e]
theorem decB_nat {n : Int} (h0 : 0 ≤ n) : tl (decB n) = Lib.decDigits n.toNat := by
  show (Lib.itoa n) = _
  rw [Lib.itoa, if_neg (by omega)]
theorem readD_dec {n : Int} (h0 : 0 ≤ n) (h1 : n < 1000000000000000000) : readD (decB n) = (n, true) := by
  have e := decB_nat h0
  have hl := dec_len (u := n.toNat) (by omega)
  have hd := dec_digits n.toNat
  have hv := valL_dec n.toNat
  obtain ⟨c, r, hcr⟩ : ∃ c r, Lib.decDigits n.toNat = c :: r := by
    cases h : Lib.decDigits n.toNat with
    | nil => rw [h] at hl; simp at hl
    | cons c r => exact ⟨c, r, rfl⟩
  have hc := hd c (by rw [hcr]; simp)
  have e1 : digitsOf (decB n) = decB n := by
    unfold digitsOf
    rw [show (decB n).data.toList = Lib.decDigits n.toNat from e, Lib.trimPrefix, if_neg ?_]
    · exact tl_inj e.symm
    · rw [hcr]
      intro hp
      have : c.toNat = 45 := by
        have hp : Lib.hasPrefix (c :: r) [45] = true := hp
        simp [Lib.hasPrefix] at hp
        first | (rw [hp]; rfl) | (rw [← hp]; rfl)
      omega
  have hs : (decB n).size = (Lib.decDigits n.toNat).length := by rw [← tl_len, e]
  have hp : Lib.parseIntB 64 (decB n).data.toList = .ok n := by
    rw [show (decB n).data.toList = Lib.decDigits n.toNat from e]
    unfold Lib.parseIntB
    rw [hcr]
    simp only
    rw [if_neg (by omega), ← hcr]
    unfold Lib.parseUintB
    rw [if_neg (by rw [hcr]; simp), parse_val (by decide) _ _ hd (by rw [hv]; omega), hv]
    simp only
    rw [if_neg (by omega), if_neg (by omega), if_neg (by omega)]
    congr 1; omega
  unfold readD
  rw [e1, if_neg (by omega), hp]
  simp only
  exact if_pos rfl
theorem idx_app {c : UInt8} : ∀ (a b : List UInt8), c ∉ a → Lib.indexByte (a ++ c :: b) c = a.length
  | [], b, _ => by simp [Lib.indexByte]
  | x :: a, b, h => by
    have hx : (x == c) = false := by simp at h ⊢; exact fun e => h.1 e.symm
    have ih := idx_app a b (fun hc => h (List.mem_cons_of_mem _ hc))
    have hne : ((a.length : Int) == -1) = false := by simp
    simp only [List.cons_append, Lib.indexByte, hx, ih, hne, Bool.false_eq_true, if_false, List.length_cons]
    omega
def splitL (c : UInt8) : List UInt8 → List (List UInt8)
  | [] => [[]]
  | b :: l => if b = c then [] :: splitL c l else (b :: (splitL c l).headD []) :: (splitL c l).tail
theorem splitL_ne (c : UInt8) : ∀ l, splitL c l ≠ []
  | [] => by simp [splitL]
  | b :: l => by unfold splitL; split <;> simp
theorem splitL_none {c : UInt8} : ∀ {l : List UInt8}, c ∉ l → splitL c l = [l]
  | [], _ => rfl
  | b :: l, h => by
    have ih := splitL_none (l := l) (fun hc => h (List.mem_cons_of_mem _ hc))
    have hb : b ≠ c := fun e => h (by simp [e])
    unfold splitL
    rw [if_neg hb, ih]; rfl
theorem splitL_app {c : UInt8} : ∀ {a b : List UInt8}, c ∉ a → splitL c (a ++ c :: b) = a :: splitL c b
  | [], b, _ => by simp [splitL]
  | x :: a, b, h => by
    have ih := splitL_app (a := a) (b := b) (fun hc => h (List.mem_cons_of_mem _ hc))
    have hb : x ≠ c := fun e => h (by simp [e])
    rw [List.cons_append, splitL, if_neg hb, ih]; rfl
def glue (out : List (List UInt8)) (pend : List UInt8) (rest : List (List UInt8)) : List (List UInt8) := out ++ (pend ++ rest.headD []) :: rest.tail
theorem s_l01Split_eq {p : ByteArray} {c : UInt8} (hp : p.size ≤ 1048576) : s_l01Split_m p (c.toNat : Int) = some ((splitL c (tl p)).map ba) := by
  unfold s_l01Split_m
  have hl := tl_len p
  refine Exists.elim (loopM_of (S := Int × Int × List ByteArray) (X := Int × List ByteArray) (step := fun s6 => (if s6.2.1 < (p.size : Int) then
      ((((strAt p s6.2.1).bind fun v7 => (if v7 = (c.toNat : Int) then (chk (0 ≤ s6.1 ∧ s6.1 ≤ s6.2.1 ∧ s6.2.1 ≤ (p.size : Int)) (chk ((s6.2.2.length + [p.extract s6.1.toNat s6.2.1.toNat].length) * 1 * 64 ≤ 140737488355328) (some (w64 (s6.2.1 + 1), s6.2.2 ++ [p.extract s6.1.toNat s6.2.1.toNat])))) else some (s6.1, s6.2.2))) : Option (Int × List ByteArray)).bind fun v10 =>
        some (.inl (v10.1, w64 (s6.2.1 + 1), v10.2))) else some (.inr (s6.1, s6.2.2))))
    (fun (s : Int × Int × List ByteArray) => ∃ (f i : Nat) (out : List (List UInt8)), s = ((f : Int), (i : Int), out.map ba) ∧ f ≤ i ∧ i ≤ p.size ∧ out.length ≤ i ∧ glue out (((tl p).take i).drop f) (splitL c ((tl p).drop i)) = splitL c (tl p))
    (fun s => ((p.size : Int) - s.2.1).toNat)
    (fun x => ∃ (f : Nat) (out : List (List UInt8)), x = ((f : Int), out.map ba) ∧ f ≤ p.size ∧ out.length ≤ p.size ∧ out ++ [(tl p).drop f] = splitL c (tl p)) (fun s hI => ?_) (0, 0, []) ⟨0, 0, [], rfl, Nat.le_refl _, Nat.zero_le _, Nat.zero_le _, ?_⟩ (by dsimp only; omega)) (fun x hxP => ?_)
  · obtain ⟨f, i, out, rfl, h1, h2, h3, h4⟩ := hI
    dsimp only
    by_cases hi : i < p.size
    · left
      have hit : i < (tl p).length := by omega
      have hs : strAt p (i : Int) = some (((tl p)[i].toNat : Nat) : Int) := by rw [strAt_l, List.getElem?_eq_getElem hit]; rfl
      have hd : (tl p).drop i = (tl p)[i] :: (tl p).drop (i + 1) := List.drop_eq_getElem_cons hit
      have ht : (tl p).take (i + 1) = (tl p).take i ++ [(tl p)[i]] := List.take_succ_eq_append_getElem hit
      rw [if_pos (by omega), hs, Option.bind_some, w64_in (by omega) (by omega)]
      rw [hd] at h4
      by_cases hb : (tl p)[i] = c
      · rw [if_pos (by rw [hb]), chk_t (by omega), chk_t (by simp; omega)]
        refine ⟨_, rfl, ⟨i + 1, i + 1, out ++ [((tl p).take i).drop f], ?_, Nat.le_refl _, by omega, by simp; omega, ?_⟩, by dsimp only; omega⟩
        · dsimp only
          refine Prod.ext (by push_cast; rfl) (Prod.ext (by push_cast; rfl) ?_)
          dsimp only
          rw [List.map_append]
          congr 1
          simp only [List.map_cons, List.map_nil]
          congr 1
          exact tl_inj (by rw [tl_ext, tl_ba]; simp)
        · rw [← h4, splitL, if_pos hb, ht]
          simp only [glue]
          have e0 : ((tl p).take i ++ [(tl p)[i]]).drop (i + 1) = [] := List.drop_eq_nil_of_le (by simp; omega)
          rw [e0]
          cases hq : splitL c ((tl p).drop (i + 1)) with
          | nil => exact absurd hq (splitL_ne _ _)
          | cons y ys => simp
      · have hbn : ¬ (((tl p)[i].toNat : Nat) : Int) = ((c.toNat : Nat) : Int) := fun e => hb (UInt8.toNat_inj.1 (by omega))
        rw [if_neg hbn]
        refine ⟨_, rfl, ⟨f, i + 1, out, ?_, by omega, by omega, by omega, ?_⟩, by dsimp only; omega⟩
        · exact Prod.ext rfl (Prod.ext (by push_cast; rfl) rfl)
        · rw [← h4, splitL, if_neg hb, ht]
          simp only [glue]
          rw [List.drop_append_of_le_length (by simp; omega)]
          simp
    · right
      have : i = p.size := by omega
      subst this
      rw [if_neg (by omega)]
      refine ⟨_, rfl, f, out, rfl, h1, h3, ?_⟩
      have e1 : (tl p).drop p.size = [] := List.drop_of_length_le (by omega)
      rw [← h4, e1, List.take_of_length_le (by omega)]
      simp [glue, splitL]
  · simp [glue]
    cases hq : splitL c (tl p) with
    | nil => exact absurd hq (splitL_ne _ _)
    | cons y ys => simp
  · obtain ⟨hx, hP⟩ := hxP
    rw [hx, Option.bind_some]
    obtain ⟨f, out, rfl, h1, h2, h3⟩ := hP
    dsimp only
    rw [chk_t (by omega), chk_t (by simp; omega), ← h3]
    congr 1
    rw [List.map_append]
    congr 1
    simp only [List.map_cons, List.map_nil]
    congr 1
    exact tl_inj (by rw [tl_ext, tl_ba, List.take_of_length_le (by omega)]; simp)
end Go.Proofs.YtjjelnpehgoagaaGreatDoor
namespace Go.Proofs.YtjjelnpehgoagaaGreatDoor
set_option linter.unusedVariables false
set_option maxRecDepth 100000
theorem s_digit (b : Int) : s_l01Digit_m b = some (decide (48 ≤ b ∧ b ≤ 57)) := by
  unfold s_l01Digit_m
  by_cases h : 48 ≤ b <;> simp [h]
theorem u8sub {b : Nat} (h0 : 48 ≤ b) (h1 : b ≤ 57) : w64 (IntKind.u8.wrap ((b : Int) - 48)) = (b : Int) - 48 := by
  have e : IntKind.u8.wrap ((b : Int) - 48) = (b : Int) - 48 := by
    unfold IntKind.wrap
    simp [IntKind.signed, IntKind.bits]
    omega
  rw [e, w64_in (by omega) (by omega)]
theorem num_loop {l : List UInt8} (hl : l.length ≤ 18) {step : Int × Int → Option ((Int × Int) ⊕ (Int ⊕ (Int × Bool)))}
    (hS : ∀ (n : Int) (i : Nat) (b : UInt8), l[i]? = some b → 0 ≤ n → n < 1000000000000000000 → step (n, (i : Int)) = if 48 ≤ b.toNat ∧ b.toNat ≤ 57 then some (.inl (w64 (w64 (10 * n) + ((b.toNat : Int) - 48)), w64 ((i : Int) + 1))) else some (.inr (.inr (0, false))))
    (hE : ∀ n, step (n, (l.length : Int)) = some (.inr (.inl n))) :
    ∃ x, loopM step (0, 0) = some x ∧ ((x = .inr (0, false)) ∨ ∃ n, x = .inl n ∧ 0 ≤ n ∧ n < 1000000000000000000 ∧ n = (valL 0 l : Int)) ∧ ((∀ b ∈ l, 48 ≤ b.toNat ∧ b.toNat ≤ 57) → x = .inl (valL 0 l : Int)) := by
  have pw : ∀ i : Nat, i ≤ 18 → (10 : Int) ^ i ≤ 1000000000000000000 := fun i hi => by
    have : (10 : Nat) ^ i ≤ 10 ^ 18 := Nat.pow_le_pow_right (by omega) hi
    have h2 : ((10 ^ i : Nat) : Int) ≤ ((10 ^ 18 : Nat) : Int) := by omega
    simpa using h2
  refine loopM_of (fun (s : Int × Int) => ∃ i : Nat, i ≤ l.length ∧ s = ((valL 0 (l.take i) : Int), (i : Int)) ∧ (valL 0 (l.take i) : Int) < 10 ^ i) (fun s => ((l.length : Int) - s.2).toNat) _ (fun s hI => ?_) (0, 0) ⟨0, Nat.zero_le _, rfl, by simp [valL]⟩ (by dsimp only; omega)
  obtain ⟨i, hi, rfl, hv⟩ := hI
  have hp := pw i (by omega)
  by_cases hlt : i < l.length
  · have hb : l[i]? = some l[i] := List.getElem?_eq_getElem hlt
    rw [hS _ i l[i] hb (by omega) (by omega)]
    by_cases hd : 48 ≤ l[i].toNat ∧ l[i].toNat ≤ 57
    · left
      have ht : l.take (i + 1) = l.take i ++ [l[i]] := by rw [List.take_add_one, hb]; rfl
      have hval : valL 0 (l.take (i + 1)) = valL 0 (l.take i) * 10 + (l[i].toNat - 48) := by rw [ht, valL_app]; rfl
      have hp2 := pw (i + 1) (by omega)
      have hps : (10 : Int) ^ (i + 1) = 10 * 10 ^ i := by rw [Int.pow_succ]; omega
      rw [if_pos hd, w64_in (x := 10 * _) (by omega) (by omega), w64_in (by omega) (by omega), w64_in (by omega) (by omega)]
      refine ⟨_, rfl, ⟨i + 1, by omega, ?_, ?_⟩, by dsimp only; omega⟩
      · rw [hval]
        refine Prod.ext ?_ (by push_cast; rfl)
        dsimp only
        omega
      · rw [hval, hps]
        omega
    · right
      rw [if_neg hd]
      exact ⟨_, rfl, .inl rfl, fun hall => absurd (hall _ (List.getElem_mem hlt)) hd⟩
  · right
    have : i = l.length := by omega
    subst this
    rw [hE]
    rw [List.take_length] at hv ⊢
    exact ⟨_, rfl, .inr ⟨_, rfl, by omega, by omega, rfl⟩, fun _ => rfl⟩
theorem s_l01Number_ok {p : ByteArray} (hp : p.size ≤ 1048576) : (∃ r, s_l01Number_m p = some r ∧ (r.2 = true → decB r.1 = p ∧ osI r.1)) ∧ ∀ n : Int, 0 ≤ n → n < 1000000000000000000 → p = decB n → s_l01Number_m p = some (n, true) := by
  unfold s_l01Number_m
  -- the text behind the sign
  obtain ⟨t, ht, hts, htd⟩ : ∃ t : ByteArray, ((((if p ≠ (⟨#[]⟩ : ByteArray) then ((strAt p 0).bind fun v1 => some (decide (v1 = 45))) else some false) : Option Bool).bind fun v2 =>
      (if v2 = true then (chk (0 ≤ (1 : Int) ∧ (1 : Int) ≤ (p.size : Int) ∧ (p.size : Int) ≤ (p.size : Int)) (some (p.extract (1 : Int).toNat (p.size : Int).toNat))) else some p)) : Option ByteArray) = some t ∧ t.size ≤ p.size ∧ ((∀ b ∈ tl p, 48 ≤ b.toNat ∧ b.toNat ≤ 57) → t = p) := by
    by_cases he : p = ⟨#[]⟩
    · exact ⟨p, by simp [he], Nat.le_refl _, fun _ => rfl⟩
    · have hpos : 0 < p.size := by
        rcases Nat.eq_zero_or_pos p.size with h | h
        · exact absurd (tl_inj (List.eq_nil_of_length_eq_zero (by rw [tl_len, h]))) he
        · exact h
      have hl := tl_len p
      have h0 : strAt p 0 = some (((tl p)[0].toNat : Nat) : Int) := by
        have := strAt_l p 0
        rw [List.getElem?_eq_getElem (by omega)] at this
        exact this
      rw [if_pos he, h0]
      simp only [Option.bind_some]
      by_cases hm : (((tl p)[0].toNat : Nat) : Int) = 45
      · refine ⟨p.extract (1 : Int).toNat (p.size : Int).toNat, ?_, ?_, fun hall => ?_⟩
        · simp only [hm, decide_true, if_true]
          rw [chk_t (by omega)]
        · rw [← tl_len, tl_ext, ← tl_len]; simp
        · have := hall _ (List.getElem_mem (show 0 < (tl p).length by omega)); omega
      · exact ⟨p, by rw [decide_eq_false hm, if_neg (by decide)], Nat.le_refl _, fun _ => rfl⟩
  rw [ht, Option.bind_some]
  have hl := tl_len t
  by_cases hz : (t.size : Int) < 1 ∨ 18 < (t.size : Int)
  · have e : ((if (t.size : Int) < 1 then some true else some (decide (18 < (t.size : Int)))) : Option Bool) = some true := by
      rcases hz with h | h
      · rw [if_pos h]
      · split
        · rfl
        · rw [decide_eq_true h]
    rw [e, Option.bind_some, if_pos rfl]
    refine ⟨⟨_, rfl, fun h => by cases h⟩, fun n h0 h1 hpn => ?_⟩
    exfalso
    have e2 := decB_nat h0
    have hd := dec_digits n.toNat
    have hln := dec_len (u := n.toNat) (by omega)
    have htp := htd (by rw [hpn, e2]; exact hd)
    rw [htp, ← tl_len, hpn, e2] at hz
    omega
  · have e : ((if (t.size : Int) < 1 then some true else some (decide (18 < (t.size : Int)))) : Option Bool) = some false := by
      rw [if_neg (fun h => hz (.inl h)), decide_eq_false (fun h => hz (.inr h))]
    rw [e, Option.bind_some, if_neg (by decide)]
    obtain ⟨x, hx, hx1, hx2⟩ := num_loop (l := tl t) (by omega) (step := fun s10 => (if s10.2 < (t.size : Int) then ((strAt t s10.2).bind fun v11 => ((s_l01Digit_m v11).bind fun v12 => (if (!v12) = true then some (.inr (.inr (0, false))) else ((strAt t s10.2).bind fun v13 => some (.inl (w64 ((w64 (10 * s10.1)) + (w64 (IntKind.u8.wrap (v13 - 48)))), w64 (s10.2 + 1))))))) else some (.inr (.inl s10.1)))) (fun n i b hb h0 h1 => by
        have hi : i < (tl t).length := (List.getElem?_eq_some_iff.1 hb).1
        have hs : strAt t (i : Int) = some ((b.toNat : Nat) : Int) := by rw [strAt_l, hb]; rfl
        simp only [if_pos (show (i : Int) < (t.size : Int) by omega), hs, Option.bind_some, s_digit]
        by_cases hd : 48 ≤ b.toNat ∧ b.toNat ≤ 57
        · rw [if_pos hd, decide_eq_true (show 48 ≤ ((b.toNat : Nat) : Int) ∧ ((b.toNat : Nat) : Int) ≤ 57 by omega), u8sub hd.1 hd.2]; rfl
        · rw [if_neg hd, decide_eq_false (show ¬ (48 ≤ ((b.toNat : Nat) : Int) ∧ ((b.toNat : Nat) : Int) ≤ 57) by omega)]; rfl) (fun n => by simp only [if_neg (show ¬ ((tl t).length : Int) < (t.size : Int) by omega)])
    rw [hx, Option.bind_some]
    refine ⟨?_, fun n h0 h1 hpn => ?_⟩
    · rcases hx1 with rfl | ⟨v, rfl, v0, v1, _⟩
      · exact ⟨(0, false), rfl, fun h => by cases h⟩
      · simp only [orE_l]
        obtain ⟨m, hm, hmo⟩ : ∃ m, ((if (t.size : Int) < (p.size : Int) then some (w64 (-v)) else some v) : Option Int) = some m ∧ osI m := by
          split
          · exact ⟨_, rfl, by rw [w64_in (by omega) (by omega)]; exact ⟨by omega, by omega⟩⟩
          · exact ⟨_, rfl, by omega, by omega⟩
        rw [hm, Option.bind_some, s_l01Dec_eq hmo, Option.bind_some]
        by_cases hq : decB m = p
        · rw [if_neg (by simp [hq])]
          exact ⟨_, rfl, fun _ => ⟨hq, hmo⟩⟩
        · rw [if_pos hq]
          exact ⟨_, rfl, fun h => by cases h⟩
    · have e2 := decB_nat h0
      have hd := dec_digits n.toNat
      have htp := htd (by rw [hpn, e2]; exact hd)
      have hv := hx2 (by rw [htp, hpn, e2]; exact hd)
      rw [htp, hpn, e2, valL_dec] at hv
      subst hv
      simp only [orE_l]
      rw [if_neg (by rw [htp]; omega), Option.bind_some, show ((n.toNat : Nat) : Int) = n by omega, s_l01Dec_eq ⟨by omega, by omega⟩, Option.bind_some, if_neg (by simp [hpn])]
theorem decB_neg {m : Nat} (h : 0 < m) : tl (decB (-(m : Int))) = 45 :: Lib.decDigits m := by
  show Lib.itoa _ = _
  rw [Lib.itoa, if_pos (by omega)]
  congr 2
  omega
theorem readD_neg {m : Nat} (h0 : 0 < m) (h1 : m < 1000000000000000000) : readD (decB (-(m : Int))) = (-(m : Int), true) := by
  have e := decB_neg h0
  have hl := dec_len h1
  have hd := dec_digits m
  have hv := valL_dec m
  have e1 : digitsOf (decB (-(m : Int))) = ba (Lib.decDigits m) := by
    unfold digitsOf
    rw [show (decB (-(m : Int))).data.toList = 45 :: Lib.decDigits m from e, Lib.trimPrefix, if_pos (by simp [Lib.hasPrefix, minusB])]
    rfl
  have hs : (ba (Lib.decDigits m)).size = (Lib.decDigits m).length := ba_size _
  have hp : Lib.parseIntB 64 (decB (-(m : Int))).data.toList = .ok (-(m : Int)) := by
    rw [show (decB (-(m : Int))).data.toList = 45 :: Lib.decDigits m from e]
    unfold Lib.parseIntB
    simp only
    rw [if_pos (by decide)]
    unfold Lib.parseUintB
    rw [if_neg (by intro h; rw [h] at hl; simp at hl), parse_val (by decide) _ _ hd (by rw [hv]; omega), hv]
    simp only
    rw [if_neg (by simp), if_neg (by simp; omega), if_pos (by decide)]
  unfold readD
  rw [e1, if_neg (by omega), hp]
  simp only
  exact if_pos rfl
theorem s_l01Number_neg {m : Nat} (h0 : 0 < m) (h1 : m < 1000000000000000000) : s_l01Number_m (decB (-(m : Int))) = some (-(m : Int), true) := by
  have e := decB_neg h0
  have hl := dec_len h1
  have hd := dec_digits m
  have hv := valL_dec m
  generalize hp : decB (-(m : Int)) = p at *
  have hsz : p.size = (Lib.decDigits m).length + 1 := by rw [← tl_len, e]; rfl
  have hne : p ≠ ⟨#[]⟩ := by intro h; have : (⟨#[]⟩ : ByteArray).size = 0 := rfl; rw [h] at hsz; omega
  have hat : strAt p 0 = some 45 := by
    have := strAt_l p 0
    rw [e] at this
    exact this
  have hex : p.extract (1 : Int).toNat (p.size : Int).toNat = ba (Lib.decDigits m) := by
    refine tl_inj ?_
    rw [tl_ext, e]
    simp [hsz, tl_ba]
  unfold s_l01Number_m
  rw [if_pos hne, hat]
  simp only [Option.bind_some, decide_true, if_true]
  rw [chk_t (by omega), Option.bind_some, hex]
  generalize ht : ba (Lib.decDigits m) = t
  have htl : tl t = Lib.decDigits m := by rw [← ht]; rfl
  have hts : t.size = (Lib.decDigits m).length := by rw [← tl_len, htl]
  rw [if_neg (by omega), decide_eq_false (by omega), Option.bind_some, if_neg (by decide)]
  have hl2 := tl_len t
  obtain ⟨x, hx, hx1, hx2⟩ := num_loop (l := tl t) (by omega) (step := fun s10 => (if s10.2 < (t.size : Int) then ((strAt t s10.2).bind fun v11 => ((s_l01Digit_m v11).bind fun v12 => (if (!v12) = true then some (.inr (.inr (0, false))) else ((strAt t s10.2).bind fun v13 => some (.inl (w64 ((w64 (10 * s10.1)) + (w64 (IntKind.u8.wrap (v13 - 48)))), w64 (s10.2 + 1))))))) else some (.inr (.inl s10.1)))) (fun n i b hb h0 h1 => by
        have hi : i < (tl t).length := (List.getElem?_eq_some_iff.1 hb).1
        have hs : strAt t (i : Int) = some ((b.toNat : Nat) : Int) := by rw [strAt_l, hb]; rfl
        simp only [if_pos (show (i : Int) < (t.size : Int) by omega), hs, Option.bind_some, s_digit]
        by_cases hd : 48 ≤ b.toNat ∧ b.toNat ≤ 57
        · rw [if_pos hd, decide_eq_true (show 48 ≤ ((b.toNat : Nat) : Int) ∧ ((b.toNat : Nat) : Int) ≤ 57 by omega), u8sub hd.1 hd.2]; rfl
        · rw [if_neg hd, decide_eq_false (show ¬ (48 ≤ ((b.toNat : Nat) : Int) ∧ ((b.toNat : Nat) : Int) ≤ 57) by omega)]; rfl) (fun n => by simp only [if_neg (show ¬ ((tl t).length : Int) < (t.size : Int) by omega)])
  rw [hx, Option.bind_some]
  have hv2 := hx2 (by rw [htl]; exact hd)
  rw [htl, hv] at hv2
  subst hv2
  simp only [orE_l]
  rw [if_pos (by omega), Option.bind_some, w64_in (by omega) (by omega), s_l01Dec_eq ⟨by omega, by omega⟩, Option.bind_some, hp, if_neg (fun h => h rfl)]
theorem s_number {n : Int} (h0 : -1000000 ≤ n) (h1 : n ≤ 1000000) : s_l01Number_m (decB n) = some (n, true) := by
  rcases Int.lt_or_le n 0 with h | h
  · obtain ⟨m, rfl⟩ : ∃ m : Nat, n = -(m : Int) := ⟨n.natAbs, by omega⟩
    exact s_l01Number_neg (by omega) (by omega)
  · have hz := decB_size (n := n) ⟨by omega, by omega⟩
    exact (s_l01Number_ok (p := decB n) (by omega)).2 n h (by omega) rfl
theorem r_number {n : Int} (h0 : -1000000 ≤ n) (h1 : n ≤ 1000000) : readD (decB n) = (n, true) := by
  rcases Int.lt_or_le n 0 with h | h
  · obtain ⟨m, rfl⟩ : ∃ m : Nat, n = -(m : Int) := ⟨n.natAbs, by omega⟩
    exact readD_neg (by omega) (by omega)
  · exact readD_dec h (by omega)
theorem dec_bytes (n : Int) : ∀ b ∈ tl (decB n), b.toNat = 45 ∨ 48 ≤ b.toNat ∧ b.toNat ≤ 57 := by
  intro b hb
  rcases Int.lt_or_le n 0 with h | h
  · obtain ⟨m, rfl⟩ : ∃ m : Nat, n = -(m : Int) := ⟨n.natAbs, by omega⟩
    rw [decB_neg (by omega)] at hb
    rcases List.mem_cons.1 hb with rfl | hb
    · exact .inl rfl
    · exact .inr (dec_digits m b hb)
  · rw [decB_nat h] at hb
    exact .inr (dec_digits _ b hb)
theorem i_ReadDecimal_eq {p : ByteArray} (hp : p.size ≤ 1048576) : i_ReadDecimal_m p = some (readD p) := by
  unfold i_ReadDecimal_m
  rw [chk_t (by omega)]
end Go.Proofs.YtjjelnpehgoagaaGreatDoor
namespace Go.Proofs.YtjjelnpehgoagaaGreatDoor
set_option linter.unusedVariables false
set_option maxRecDepth 100000
theorem index_eq (s : ByteArray) (c : UInt8) : strings_Index_m s ⟨#[c]⟩ = some (Lib.indexByte (tl s) c) := by
  unfold strings_Index_m internal_stringslite_Index_m
  rw [chk_t (show (⟨#[c]⟩ : ByteArray).size = 1 from rfl)]; rfl
theorem split_loop {p : ByteArray} {c : UInt8} {n : Nat} (hn : n = (tl p).count c + 1) (hp : p.size ≤ 1048576) : ∃ x, loopM (S := ByteArray × Int × List ByteArray) (X := ByteArray × Int × List ByteArray) (fun s9 =>
    (if s9.2.1 < (n : Int) - 1 then
    ((strings_Index_m s9.1 ⟨#[c]⟩).bind fun v10 =>
    (if v10 < 0 then
    some (.inr (s9.1, s9.2.1, s9.2.2))
    else
    (chk (0 ≤ (0 : Int) ∧ (0 : Int) ≤ (w64 (v10 + 0)) ∧ (w64 (v10 + 0)) ≤ (s9.1.size : Int)) (
    ((atI s9.2.2 s9.2.1).bind fun v12 =>
    (chk (0 ≤ (w64 (v10 + 1)) ∧ (w64 (v10 + 1)) ≤ (s9.1.size : Int) ∧ (s9.1.size : Int) ≤ (s9.1.size : Int)) (
    some (.inl (s9.1.extract (w64 (v10 + 1)).toNat (s9.1.size : Int).toNat, w64 (s9.2.1 + 1), List.set s9.2.2 s9.2.1.toNat (s9.1.extract (0 : Int).toNat (w64 (v10 + 0)).toNat))))))))))
    else
    some (.inr (s9.1, s9.2.1, s9.2.2)))) (p, 0, List.replicate n (⟨#[]⟩ : ByteArray)) = some x ∧ x.2.1 = (n : Int) - 1 ∧ ∃ out : List (List UInt8), out.length + 1 = n ∧ splitL c (tl p) = out ++ [tl x.1] ∧ x.2.2 = out.map ba ++ [⟨#[]⟩] := by
  have hcl := List.count_le_length (a := c) (l := tl p)
  have hpl := tl_len p
  refine loopM_of (fun (s : ByteArray × Int × List ByteArray) => ∃ out : List (List UInt8), s.2.1 = (out.length : Int) ∧ out.length + (tl s.1).count c + 1 = n ∧ splitL c (tl p) = out ++ splitL c (tl s.1) ∧ s.2.2 = out.map ba ++ List.replicate (n - out.length) ⟨#[]⟩ ∧ s.1.size ≤ p.size) (fun s => ((n : Int) - s.2.1).toNat) _ (fun s hI => ?_) _ ⟨[], rfl, by show 0 + (tl p).count c + 1 = n; omega, by simp, by simp, Nat.le_refl _⟩ ?_
  · obtain ⟨t, i, a⟩ := s
    obtain ⟨out, h1, h2, h3, h4, h5⟩ := hI
    dsimp only at h1 h2 h3 h4 h5 ⊢
    subst h1
    have hlt := tl_len t
    by_cases hc : c ∈ tl t
    · left
      have hcnt : 0 < (tl t).count c := List.count_pos_iff.2 hc
      obtain ⟨u, v, huv, hu⟩ := List.eq_append_cons_of_mem hc
      have hidx : Lib.indexByte (tl t) c = (u.length : Int) := by rw [huv]; exact idx_app u v hu
      have hsz : t.size = u.length + (v.length + 1) := by rw [← hlt, huv]; simp
      have hcv : (tl t).count c = v.count c + 1 := by
        rw [huv, List.count_append, List.count_cons_self, List.count_eq_zero.2 hu]; omega
      rw [if_pos (by omega), index_eq, hidx, Option.bind_some, if_neg (by omega), w64_in (x := (u.length : Int) + 0) (by omega) (by omega), w64_in (x := (u.length : Int) + 1) (by omega) (by omega), chk_t (by omega)]
      have hat : atI a (out.length : Int) = some ⟨#[]⟩ := by
        rw [h4]
        have hl : out.length < (out.map ba ++ List.replicate (n - out.length) (⟨#[]⟩ : ByteArray)).length := by simp; omega
        rw [atI_lt hl]
        simp
      rw [hat, Option.bind_some, chk_t (by omega), w64_in (x := (out.length : Int) + 1) (by omega) (by omega)]
      have e1 : t.extract ((u.length : Int) + 1).toNat (t.size : Int).toNat = ba v := by
        refine tl_inj ?_
        have q1 : ((u.length : Int) + 1).toNat = u.length + 1 := by omega
        have q2 : (t.size : Int).toNat = t.size := by omega
        rw [tl_ext, q1, q2, ← hlt, List.take_length, huv, tl_ba]
        simp [List.drop_append]
      have e2 : t.extract (0 : Int).toNat ((u.length : Int) + 0).toNat = ba u := by
        refine tl_inj ?_
        have q1 : ((u.length : Int) + 0).toNat = u.length := by omega
        rw [tl_ext, q1, huv, tl_ba]
        simp
      have e3 : ((out.length : Int)).toNat = out.length := by omega
      rw [e1, e2, e3]
      refine ⟨_, rfl, ⟨out ++ [u], by simp, ?_, ?_, ?_, ?_⟩, by dsimp only; omega⟩
      · show (out ++ [u]).length + (tl (ba v)).count c + 1 = n
        rw [tl_ba, List.length_append, List.length_singleton]; omega
      · show splitL c (tl p) = (out ++ [u]) ++ splitL c (tl (ba v))
        rw [h3, huv, splitL_app hu, tl_ba, List.append_assoc]; rfl
      · show List.set a out.length (ba u) = (out ++ [u]).map ba ++ List.replicate (n - (out ++ [u]).length) ⟨#[]⟩
        obtain ⟨k, hk⟩ : ∃ k, n - out.length = k + 1 := ⟨n - out.length - 1, by omega⟩
        have hk2 : n - (out ++ [u]).length = k := by simp; omega
        rw [h4, hk, hk2, List.replicate_succ, List.map_append]
        have hl : (out.map ba).length = out.length := List.length_map _
        rw [List.set_append_right _ _ (by omega), hl, Nat.sub_self]
        simp
      · show (ba v).size ≤ p.size
        rw [ba_size]; omega
    · right
      have hcnt : (tl t).count c = 0 := List.count_eq_zero.2 hc
      rw [if_neg (by omega)]
      refine ⟨_, rfl, by dsimp only; omega, out, by omega, ?_, ?_⟩
      · rw [h3, splitL_none hc]
      · dsimp only
        rw [h4, show n - out.length = 1 by omega]; rfl
  · dsimp only
    have := List.count_le_length (a := c) (l := tl p)
    have := tl_len p
    omega
theorem split_eq {p : ByteArray} {c : UInt8} (hp : p.size ≤ 1048576) : strings_Split_m p ⟨#[c]⟩ = some ((splitL c (tl p)).map ba) := by
  have hcl := List.count_le_length (a := c) (l := tl p)
  have hpl := tl_len p
  unfold strings_Split_m strings_genSplit_m
  have hne : ¬ ((⟨#[c]⟩ : ByteArray) = ⟨#[]⟩) := by
    intro h
    have : (⟨#[c]⟩ : ByteArray).size = (⟨#[]⟩ : ByteArray).size := by rw [h]
    exact absurd this (by decide : ¬ (1 : Nat) = 0)
  have hcount : strings_Count_m p ⟨#[c]⟩ = some (((tl p).count c : Nat) : Int) := by
    unfold strings_Count_m
    rw [chk_t (show (⟨#[c]⟩ : ByteArray).size = 1 from rfl)]; rfl
  have hone : ((⟨#[c]⟩ : ByteArray).size : Int) = 1 := rfl
  rw [if_neg (by decide), if_neg hne, if_pos (by decide), hcount]
  simp only [Option.bind_some]
  have e1 : w64 ((((tl p).count c : Nat) : Int) + 1) = (((tl p).count c + 1 : Nat) : Int) := by rw [w64_in (by omega) (by omega)]; omega
  have e2 : w64 ((p.size : Int) + 1) = (p.size : Int) + 1 := w64_in (by omega) (by omega)
  rw [e1, e2]
  have e3 : min (((tl p).count c + 1 : Nat) : Int) ((p.size : Int) + 1) = (((tl p).count c + 1 : Nat) : Int) := by omega
  rw [e3, chk_t ⟨by omega, trivial, by omega⟩]
  have e4 : w64 ((((tl p).count c + 1 : Nat) : Int) - 1) = (((tl p).count c + 1 : Nat) : Int) - 1 := w64_in (by omega) (by omega)
  have e5 : ((((tl p).count c + 1 : Nat) : Int)).toNat = (tl p).count c + 1 := by omega
  rw [e4, e5, hone]
  obtain ⟨⟨t, i, a⟩, h1, h2, out, h3, h4, h5⟩ := split_loop (p := p) (c := c) rfl hp
  rw [h1, Option.bind_some]
  dsimp only at h2 h4 h5 ⊢
  subst h2 h5
  have hi : (((tl p).count c + 1 : Nat) : Int) - 1 = ((out.length : Nat) : Int) := by omega
  rw [hi]
  have hl : out.length < (out.map ba ++ [(⟨#[]⟩ : ByteArray)]).length := by simp
  have e6 : ((out.length : Int)).toNat = out.length := by omega
  have e7 : w64 ((out.length : Int) + 1) = (out.length : Int) + 1 := w64_in (by omega) (by omega)
  have e8 : ((out.length : Int) + 1).toNat = out.length + 1 := by omega
  have e9 : List.set (out.map ba ++ [(⟨#[]⟩ : ByteArray)]) out.length t = out.map ba ++ [t] := by
    rw [List.set_append_right _ _ (by simp)]; simp
  rw [atI_lt hl, Option.bind_some, e6, e7, e9, chk_t (by simp; omega), e8, Option.bind_some, h4]
  congr 1
  rw [List.take_of_length_le (by simp)]
  simp [ba_tl]
end Go.Proofs.YtjjelnpehgoagaaGreatDoor
namespace Go.Proofs.YtjjelnpehgoagaaGreatDoor
set_option linter.unusedVariables false
set_option maxRecDepth 100000
theorem splitL_snoc {c : UInt8} : ∀ (l : List UInt8), splitL c (l ++ [c]) = splitL c l ++ [[]]
  | [] => by simp [splitL]
  | b :: l => by
    have ih := splitL_snoc (c := c) l
    rw [List.cons_append, splitL, splitL]
    split
    · rw [ih]; rfl
    · rw [ih]
      cases h : splitL c l with
      | nil => exact absurd h (splitL_ne c l)
      | cons y ys => rfl
theorem splitL_len {c : UInt8} : ∀ (l : List UInt8), (∀ x ∈ splitL c l, x.length ≤ l.length) ∧ (splitL c l).length ≤ l.length + 1
  | [] => by simp [splitL]
  | b :: l => by
    obtain ⟨h1, h2⟩ := splitL_len (c := c) l
    unfold splitL
    split
    · refine ⟨fun x hx => ?_, by simp; omega⟩
      rcases List.mem_cons.1 hx with rfl | hx
      · simp
      · have := h1 x hx; simp; omega
    · cases h : splitL c l with
      | nil => exact absurd h (splitL_ne c l)
      | cons y ys =>
        rw [h] at h1 h2
        refine ⟨fun x hx => ?_, by simp at h2 ⊢; omega⟩
        rcases List.mem_cons.1 hx with rfl | hx
        · have := h1 y (by simp); simp; omega
        · have := h1 x (by simp at hx ⊢; exact .inr hx); simp; omega
def lineW (s : Shape_) : List ByteArray := if s.Kind = 1 then [lineB, decB s.A.X, decB s.A.Y, decB s.B.X, decB s.B.Y] else if s.Kind = 2 then [circB, decB s.A.X, decB s.A.Y, decB s.R] else [labB, decB s.A.X, decB s.A.Y, s.Name]
theorem dec_no {n : Int} {c : UInt8} (hc : c.toNat < 45) : c ∉ tl (decB n) := by
  intro h
  have := dec_bytes n c h
  omega
theorem name_no {s : ByteArray} (h : nameB s = true) {c : UInt8} (hc : c.toNat < 45) : c ∉ tl s := by
  intro hm
  unfold nameB at h
  simp only [Bool.and_eq_true] at h
  have := List.all_eq_true.1 h.2 (c.toNat : Int) (List.mem_map.2 ⟨c, hm, rfl⟩)
  simp [okB, smB, dgB] at this
  omega
theorem sh_name {s : Shape_} (h : shB s = true) (h1 : ¬ s.Kind = 1) (h2 : ¬ s.Kind = 2) : s.Kind = 3 ∧ s.B = ⟨0, 0⟩ ∧ s.R = 0 ∧ nameB s.Name = true := by
  unfold shB at h
  rw [Bool.and_eq_true, if_neg h1, if_neg h2] at h
  obtain ⟨_, h⟩ := h
  split at h
  · simp only [Bool.and_eq_true, decide_eq_true_eq] at h
    rename_i h3
    exact ⟨h3, h⟩
  · cases h
theorem sh_1 {s : Shape_} (h : shB s = true) (h1 : s.Kind = 1) : s.R = 0 ∧ s.Name = ⟨#[]⟩ := by
  unfold shB at h
  rw [Bool.and_eq_true, if_pos h1] at h
  simp only [Bool.and_eq_true, decide_eq_true_eq] at h
  exact h.2.2
theorem sh_2 {s : Shape_} (h : shB s = true) (h2 : s.Kind = 2) : s.B = ⟨0, 0⟩ ∧ s.Name = ⟨#[]⟩ := by
  unfold shB at h
  rw [Bool.and_eq_true, if_neg (by omega), if_pos h2] at h
  simp only [Bool.and_eq_true, decide_eq_true_eq] at h
  exact ⟨h.2.1, h.2.2.2⟩
theorem line_words {s : Shape_} (h : shB s = true) : (splitL 32 (tl (lineT s))).map ba = lineW s := by
  have a1 : (32 : UInt8) ∉ tl (decB s.A.X) := dec_no (by decide)
  have a2 : (32 : UInt8) ∉ tl (decB s.A.Y) := dec_no (by decide)
  have q : tl spcB = [32] := rfl
  unfold lineT lineW
  by_cases h1 : s.Kind = 1
  · have b1 : (32 : UInt8) ∉ tl (decB s.B.X) := dec_no (by decide)
    have b2 : (32 : UInt8) ∉ tl (decB s.B.Y) := dec_no (by decide)
    have e : tl ((lineB ++ atT s.A) ++ atT s.B) = tl lineB ++ 32 :: (tl (decB s.A.X) ++ 32 :: (tl (decB s.A.Y) ++ 32 :: (tl (decB s.B.X) ++ 32 :: tl (decB s.B.Y)))) := by
      unfold atT; simp only [tl_app, q]; simp
    rw [if_pos h1, if_pos h1, e, splitL_app (by decide), splitL_app a1, splitL_app a2, splitL_app b1, splitL_none b2]; rfl
  · rw [if_neg h1, if_neg h1]
    by_cases h2 : s.Kind = 2
    · have b1 : (32 : UInt8) ∉ tl (decB s.R) := dec_no (by decide)
      have e : tl (((circB ++ atT s.A) ++ spcB) ++ decB s.R) = tl circB ++ 32 :: (tl (decB s.A.X) ++ 32 :: (tl (decB s.A.Y) ++ 32 :: tl (decB s.R))) := by
        unfold atT; simp only [tl_app, q]; simp
      rw [if_pos h2, if_pos h2, e, splitL_app (by decide), splitL_app a1, splitL_app a2, splitL_none b1]; rfl
    · have b1 : (32 : UInt8) ∉ tl s.Name := name_no (sh_name h h1 h2).2.2.2 (by decide)
      have e : tl (((labB ++ atT s.A) ++ spcB) ++ s.Name) = tl labB ++ 32 :: (tl (decB s.A.X) ++ 32 :: (tl (decB s.A.Y) ++ 32 :: tl s.Name)) := by
        unfold atT; simp only [tl_app, q]; simp
      rw [if_neg h2, if_neg h2, e, splitL_app (by decide), splitL_app a1, splitL_app a2, splitL_none b1]; rfl
theorem line_no {s : Shape_} (h : shB s = true) : (10 : UInt8) ∉ tl (lineT s) := by
  have a1 : (10 : UInt8) ∉ tl (decB s.A.X) := dec_no (by decide)
  have a2 : (10 : UInt8) ∉ tl (decB s.A.Y) := dec_no (by decide)
  have q : (10 : UInt8) ∉ tl spcB := by decide
  have q1 : (10 : UInt8) ∉ tl lineB := by decide
  have q2 : (10 : UInt8) ∉ tl circB := by decide
  have q3 : (10 : UInt8) ∉ tl labB := by decide
  unfold lineT
  by_cases h1 : s.Kind = 1
  · have b1 : (10 : UInt8) ∉ tl (decB s.B.X) := dec_no (by decide)
    have b2 : (10 : UInt8) ∉ tl (decB s.B.Y) := dec_no (by decide)
    rw [if_pos h1]
    unfold atT
    simp only [tl_app, List.mem_append, not_or]
    exact ⟨⟨q1, ⟨⟨q, a1⟩, q⟩, a2⟩, ⟨⟨q, b1⟩, q⟩, b2⟩
  · rw [if_neg h1]
    by_cases h2 : s.Kind = 2
    · have b1 : (10 : UInt8) ∉ tl (decB s.R) := dec_no (by decide)
      rw [if_pos h2]
      unfold atT
      simp only [tl_app, List.mem_append, not_or]
      exact ⟨⟨⟨q2, ⟨⟨q, a1⟩, q⟩, a2⟩, q⟩, b1⟩
    · have b1 : (10 : UInt8) ∉ tl s.Name := name_no (sh_name h h1 h2).2.2.2 (by decide)
      rw [if_neg h2]
      unfold atT
      simp only [tl_app, List.mem_append, not_or]
      exact ⟨⟨⟨q3, ⟨⟨q, a1⟩, q⟩, a2⟩, q⟩, b1⟩
theorem draw_tl : ∀ (xs : List Shape_) (acc : ByteArray), tl (xs.foldl (fun a s => a ++ (lineT s ++ nlB)) acc) = tl acc ++ xs.flatMap fun s => tl (lineT s) ++ [10]
  | [], acc => by simp
  | s :: r, acc => by
    rw [List.foldl_cons, draw_tl r, tl_app, tl_app, List.flatMap_cons, List.append_assoc]; rfl
theorem draw_split : ∀ (xs : List Shape_), (∀ s ∈ xs, shB s = true) → splitL 10 (xs.flatMap fun s => tl (lineT s) ++ [10]) = xs.map (fun s => tl (lineT s)) ++ [[]]
  | [], _ => rfl
  | s :: r, h => by
    rw [List.flatMap_cons, List.append_assoc]
    show splitL 10 (tl (lineT s) ++ 10 :: _) = _
    rw [splitL_app (line_no (h s (by simp)))]
    show _ :: splitL 10 (r.flatMap fun s => tl (lineT s) ++ [10]) = _
    rw [draw_split r fun t ht => h t (by simp [ht])]; rfl
theorem draw_lines {xs : List Shape_} (h : ∀ s ∈ xs, shB s = true) : splitL 10 (tl (drawT xs)) = xs.map (fun s => tl (lineT s)) ++ [[]] := by
  unfold drawT
  rw [draw_tl]
  exact draw_split xs h
theorem dec_len6 {u : Nat} (h : u < 1000000) : (Lib.decDigits u).length ≤ 6 := by
  by_cases h0 : u = 0
  · subst h0; rw [Lib.decDigits]; simp
  · have e := congrArg List.length (dgs_dec u h0)
    have l := dgs_len 6 u (by omega)
    have e2 : (strOfNums (dgs u)).data.toList.length = (dgs u).length := by simp [strOfNums]
    omega
theorem dec_size7 {n : Int} (h0 : -100000 ≤ n) (h1 : n ≤ 100000) : (decB n).size ≤ 7 := by
  rw [← tl_len]
  rcases Int.lt_or_le n 0 with h | h
  · obtain ⟨m, rfl⟩ : ∃ m : Nat, n = -(m : Int) := ⟨n.natAbs, by omega⟩
    have := dec_len6 (u := m) (by omega)
    rw [decB_neg (by omega), List.length_cons]; omega
  · have := dec_len6 (u := n.toNat) (by omega)
    rw [decB_nat h]; omega
theorem sp_bd {s : Spot_} (h : spB s = true) : (-100000 ≤ s.X ∧ s.X ≤ 100000) ∧ -100000 ≤ s.Y ∧ s.Y ≤ 100000 := by
  unfold spB at h
  rw [Bool.and_eq_true] at h
  exact ⟨of_decide_eq_true h.1, of_decide_eq_true h.2⟩
theorem sh_bd {s : Shape_} (h : shB s = true) : spB s.A = true ∧ (s.Kind = 1 → spB s.B = true) ∧ (s.Kind = 2 → 1 ≤ s.R ∧ s.R ≤ 100000) := by
  unfold shB at h
  rw [Bool.and_eq_true] at h
  refine ⟨h.1, fun hk => ?_, fun hk => ?_⟩
  · have := h.2; rw [if_pos hk, Bool.and_eq_true] at this; exact this.1
  · have := h.2; rw [if_neg (by omega), if_pos hk, Bool.and_eq_true, Bool.and_eq_true] at this; exact of_decide_eq_true this.2.1
theorem line_short {s : Shape_} (h : shB s = true) : (lineT s).size ≤ 49 := by
  obtain ⟨h1, h2, h3⟩ := sh_bd h
  have h4 := (sh_os h).2.2.2
  obtain ⟨ax, ay⟩ := sp_bd h1
  have z1 := dec_size7 ax.1 ax.2
  have z2 := dec_size7 ay.1 ay.2
  have p1 : spcB.size = 1 := rfl
  have p2 : lineB.size = 4 := rfl
  have p3 : circB.size = 6 := rfl
  have p4 : labB.size = 5 := rfl
  unfold lineT
  split
  · rename_i hk
    obtain ⟨bx, by_⟩ := sp_bd (h2 hk)
    have z3 := dec_size7 bx.1 bx.2
    have z4 := dec_size7 by_.1 by_.2
    unfold atT
    simp only [ba_szD, p1, p2]; omega
  · split
    · rename_i hk
      have z3 := dec_size7 (n := s.R) (by have := (h3 hk).1; omega) (h3 hk).2
      unfold atT
      simp only [ba_szD, p1, p3]; omega
    · unfold atT
      simp only [ba_szD, p1, p4]; omega
theorem draw_short {x : Drawing_} (h : drB x = true) : (drawT x.Shapes).size ≤ 60000 := by
  obtain ⟨h1, h2⟩ := dr_all h
  have key : ∀ (xs : List Shape_), (∀ s ∈ xs, shB s = true) → (xs.flatMap fun s => tl (lineT s) ++ [10]).length ≤ 50 * xs.length := by
    intro xs
    induction xs with
    | nil => intro _; simp
    | cons s r ih =>
      intro h
      have z := line_short (h s (by simp))
      have := ih fun t ht => h t (by simp [ht])
      rw [List.flatMap_cons, List.length_append, List.length_append, tl_len]
      simp only [List.length_cons, List.length_nil]
      omega
  rw [← tl_len]
  unfold drawT
  rw [draw_tl]
  have := key _ h2
  simp at this ⊢
  omega
end Go.Proofs.YtjjelnpehgoagaaGreatDoor
