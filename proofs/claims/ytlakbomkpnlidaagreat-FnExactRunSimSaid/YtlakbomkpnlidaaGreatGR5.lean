/- Texts of this claim, one behind the other (merged by a program of mine). -/
import Derived.Test.YtlakbomkpnlidaaGreatProg
import Derived.Test.YtlakbomkpnlidaaGreatGR4
set_option linter.unusedSimpArgs false
set_option linter.unusedVariables false
namespace Go.Proofs.YtlakbomkpnlidaaGreat
open Go.RowKit
set_option linter.unusedVariables false
set_option maxRecDepth 100000
set_option maxHeartbeats 2000000
theorem eqg_Mesh_ : Tryz.prog.eqGuardType Tryz.prog.depth 215 = false := by kernel_rfl
theorem run_eql_Mesh_ {x y : Operand} (a b : Mesh_) (w : World) : (do eqGuard .eql 215 x y (.agg #[.int .i64 a.A, .int .i64 a.WheelA, .int .i64 a.B, .int .i64 a.WheelB]) (.agg #[.int .i64 b.A, .int .i64 b.WheelA, .int .i64 b.B, .int .i64 b.WheelB]); binOp .eql 215 (.agg #[.int .i64 a.A, .int .i64 a.WheelA, .int .i64 a.B, .int .i64 a.WheelB]) (.agg #[.int .i64 b.A, .int .i64 b.WheelA, .int .i64 b.B, .int .i64 b.WheelB]) : Sem Value).run Tryz.prog w = .ok (.bool (decide (a = b))) w := by
  have g : (eqGuard .eql 215 x y (.agg #[.int .i64 a.A, .int .i64 a.WheelA, .int .i64 a.B, .int .i64 a.WheelB]) (.agg #[.int .i64 b.A, .int .i64 b.WheelA, .int .i64 b.B, .int .i64 b.WheelB])).run Tryz.prog w = .ok () w := by simp [eqGuard, eqg_Mesh_]
  rw [Sem.run_bind, g, Result.andThen_ok]
  obtain ⟨x0, x1, x2, x3⟩ := a
  obtain ⟨y0, y1, y2, y3⟩ := b
  simp [go_sem]
  (repeat' split) <;> simp_all [bytes_inj]
theorem ps_eql_Mesh_ {N : Nat} {t : Nat → AV} {h : Heap} {d : Tmp} {ty : TypeId} {pos : String} {aft : Array Edge} {g : Option (Nat × Bool)} {x y : Operand} {a b : Mesh_} (hx : toV (evA N ⟨t, h⟩ x) = some (.agg #[.int .i64 a.A, .int .i64 a.WheelA, .int .i64 a.B, .int .i64 a.WheelB])) (hy : toV (evA N ⟨t, h⟩ y) = some (.agg #[.int .i64 b.A, .int .i64 b.WheelA, .int .i64 b.B, .int .i64 b.WheelB])) : Pure1 Tryz.prog N ⟨some d, .binOp .eql 215 x y 215, ty, pos, aft, g⟩ ⟨t, h⟩ (.d (.v (.bool (decide (a = b))))) := pu_bin hx hy (fun w => run_eql_Mesh_ a b w)
theorem eqg_Ratio_ : Tryz.prog.eqGuardType Tryz.prog.depth 164 = false := by kernel_rfl
theorem run_eql_Ratio_ {x y : Operand} (a b : Ratio_) (w : World) : (do eqGuard .eql 164 x y (.agg #[.int .i64 a.Num, .int .i64 a.Den]) (.agg #[.int .i64 b.Num, .int .i64 b.Den]); binOp .eql 164 (.agg #[.int .i64 a.Num, .int .i64 a.Den]) (.agg #[.int .i64 b.Num, .int .i64 b.Den]) : Sem Value).run Tryz.prog w = .ok (.bool (decide (a = b))) w := by
  have g : (eqGuard .eql 164 x y (.agg #[.int .i64 a.Num, .int .i64 a.Den]) (.agg #[.int .i64 b.Num, .int .i64 b.Den])).run Tryz.prog w = .ok () w := by simp [eqGuard, eqg_Ratio_]
  rw [Sem.run_bind, g, Result.andThen_ok]
  obtain ⟨x0, x1⟩ := a
  obtain ⟨y0, y1⟩ := b
  simp [go_sem]
  (repeat' split) <;> simp_all [bytes_inj]
theorem ps_eql_Ratio_ {N : Nat} {t : Nat → AV} {h : Heap} {d : Tmp} {ty : TypeId} {pos : String} {aft : Array Edge} {g : Option (Nat × Bool)} {x y : Operand} {a b : Ratio_} (hx : toV (evA N ⟨t, h⟩ x) = some (.agg #[.int .i64 a.Num, .int .i64 a.Den])) (hy : toV (evA N ⟨t, h⟩ y) = some (.agg #[.int .i64 b.Num, .int .i64 b.Den])) : Pure1 Tryz.prog N ⟨some d, .binOp .eql 164 x y 164, ty, pos, aft, g⟩ ⟨t, h⟩ (.d (.v (.bool (decide (a = b))))) := pu_bin hx hy (fun w => run_eql_Ratio_ a b w)
theorem run_neq_Ratio_ {x y : Operand} (a b : Ratio_) (w : World) : (do eqGuard .neq 164 x y (.agg #[.int .i64 a.Num, .int .i64 a.Den]) (.agg #[.int .i64 b.Num, .int .i64 b.Den]); binOp .neq 164 (.agg #[.int .i64 a.Num, .int .i64 a.Den]) (.agg #[.int .i64 b.Num, .int .i64 b.Den]) : Sem Value).run Tryz.prog w = .ok (.bool (decide (a ≠ b))) w := by
  have g : (eqGuard .neq 164 x y (.agg #[.int .i64 a.Num, .int .i64 a.Den]) (.agg #[.int .i64 b.Num, .int .i64 b.Den])).run Tryz.prog w = .ok () w := by simp [eqGuard, eqg_Ratio_]
  rw [Sem.run_bind, g, Result.andThen_ok]
  obtain ⟨x0, x1⟩ := a
  obtain ⟨y0, y1⟩ := b
  simp [go_sem]
  (repeat' split) <;> simp_all [bytes_inj]
theorem ps_neq_Ratio_ {N : Nat} {t : Nat → AV} {h : Heap} {d : Tmp} {ty : TypeId} {pos : String} {aft : Array Edge} {g : Option (Nat × Bool)} {x y : Operand} {a b : Ratio_} (hx : toV (evA N ⟨t, h⟩ x) = some (.agg #[.int .i64 a.Num, .int .i64 a.Den])) (hy : toV (evA N ⟨t, h⟩ y) = some (.agg #[.int .i64 b.Num, .int .i64 b.Den])) : Pure1 Tryz.prog N ⟨some d, .binOp .neq 164 x y 164, ty, pos, aft, g⟩ ⟨t, h⟩ (.d (.v (.bool (decide (a ≠ b))))) := pu_bin hx hy (fun w => run_neq_Ratio_ a b w)
theorem l_szInt64S_c {p0 : List Int} {p1 : Int} {r : Int} (h0 : l_szInt64S_m p0 p1 = some r) : FnC Tryz.prog 65 [] [.d (.sl (List.map cI p0)), .d (.v (.int .i64 p1))] [] (.d (.v (.int .i64 r))) := by
  refine fnc_intro (T := tt) (N := 12) tok Tryz.func65 rfl rfl (by kernel_rfl) rfl rfl ?_
  unfold l_szInt64S_m at h0
  refine sq [0] ?_
  refine pa ?_
  refine nx ?_
  refine sq [0,1,2,3,4] ?_
  refine pm ?_
  refine pm ?_
  refine rp rfl w0 rfl (pu_len_map tok rfl rfl rfl) ?_
  refine rp rfl w0 rfl (pw_sub rfl rfl) ?_
  refine pa ?_
  refine nx ?_
  refine aw_seq ?_
  refine sq [0,1] ?_
  refine pm ?_
  refine rp rfl w0 rfl (pu_lss rfl rfl) ?_
  refine nx ?_
  refine aw_if h0 rfl (fun hc h0 => ?_) (fun hc h0 => ?_)
  refine sq [0] ?_
  refine pa ?_
  refine nx ?_
  refine aw_ret ?_
  refine then_r ?_
  cases h0
  exact ret0_ (rs := [.tmp 4]) rfl
  refine sk ?_
  refine sq [0,1] ?_
  refine pm ?_
  refine pa ?_
  refine nx ?_
  refine aw_ret ?_
  cases h0
  exact ret0_ (rs := [.tmp 4]) rfl

theorem l_szArbor_c {p0 : Arbor_} {p1 : Int} {r : Int} (h0 : l_szArbor_m p0 p1 = some r) : FnC Tryz.prog 177 [] [.agg [.d (.v (.string p0.Name)), .d (.sl (List.map cI p0.Wheels))], .d (.v (.int .i64 p1))] [] (.d (.v (.int .i64 r))) := by
  refine fnc_intro (T := tt) (N := 19) tok Tryz.func177 rfl rfl (by kernel_rfl) rfl rfl ?_
  unfold l_szArbor_m at h0
  refine sq [0,1] ?_
  refine rs rfl w0 rfl (st_box 3 (cs := _ :: _) rfl rfl rfl) ?_
  refine pa ?_
  refine nx ?_
  refine sq [0,1,2,3,4,5] ?_
  refine pm ?_
  refine fa tok ?_
  refine ld tok ?_
  refine rp rfl w0 rfl (pu_len_str tok rfl rfl rfl) ?_
  refine rp rfl w0 rfl (pw_sub rfl rfl) ?_
  refine pa ?_
  refine nx ?_
  refine aw_seq ?_
  refine sq [0,1] ?_
  refine pm ?_
  refine rp rfl w0 rfl (pu_lss rfl rfl) ?_
  refine nx ?_
  refine aw_if h0 rfl (fun hc h0 => ?_) (fun hc h0 => ?_)
  refine sq [0] ?_
  refine pa ?_
  refine nx ?_
  refine aw_ret ?_
  refine then_r ?_
  cases h0
  exact ret0_ (rs := [.tmp 4]) rfl
  refine sk ?_
  refine sq [0,1,2,3,4] ?_
  refine fa tok ?_
  refine ld tok ?_
  refine pm ?_
  obtain ⟨v1, hv1, h0⟩ := bnd h0
  refine rs rfl w0 rfl (c_call 4 (l_szInt64S_c hv1) rfl rfl rfl) ?_
  refine pa ?_
  refine nx ?_
  refine aw_seq ?_
  refine sq [0,1] ?_
  refine pm ?_
  refine rp rfl w0 rfl (pu_lss rfl rfl) ?_
  refine nx ?_
  refine aw_if h0 rfl (fun hc h0 => ?_) (fun hc h0 => ?_)
  refine sq [0] ?_
  refine pa ?_
  refine nx ?_
  refine aw_ret ?_
  refine then_r ?_
  cases h0
  exact ret0_ (rs := [.tmp 4]) rfl
  refine sk ?_
  refine sq [0,1] ?_
  refine pm ?_
  refine pa ?_
  refine nx ?_
  refine aw_ret ?_
  cases h0
  exact ret0_ (rs := [.tmp 4]) rfl

theorem l_szArborS_c {p0 : List Arbor_} {p1 : Int} {r : Int} (h0 : l_szArborS_m p0 p1 = some r) : FnC Tryz.prog 114 [] [.d (.sl (List.map cArbor_ p0)), .d (.v (.int .i64 p1))] [] (.d (.v (.int .i64 r))) := by
  refine fnc_intro (T := tt) (N := 27) tok Tryz.func114 rfl rfl (by kernel_rfl) rfl rfl ?_
  unfold l_szArborS_m at h0
  refine sq [0] ?_
  refine pa ?_
  refine nx ?_
  refine sq [0,1,2,3,4] ?_
  refine pm ?_
  refine pm ?_
  refine rp rfl w0 rfl (pu_len_map tok rfl rfl rfl) ?_
  refine rp rfl w0 rfl (pw_sub rfl rfl) ?_
  refine pa ?_
  refine nx ?_
  refine aw_seq ?_
  refine sq [0,1] ?_
  refine pm ?_
  refine rp rfl w0 rfl (pu_lss rfl rfl) ?_
  refine nx ?_
  refine aw_if h0 rfl (fun hc h0 => ?_) (fun hc h0 => ?_)
  refine sq [0] ?_
  refine pa ?_
  refine nx ?_
  refine aw_ret ?_
  refine then_r ?_
  cases h0
  exact ret0_ (rs := [.tmp 4]) rfl
  refine sk ?_
  obtain ⟨v7x, h1, h0⟩ := bnd h0
  refine aw_cutE v7x (fun v7 => ⟨updA ((fun _ => .dead)) 1 (.d (.v (.int .i64 v7))), lks [.no, .no, .no]⟩) ?_ ?_
  refine sq [0] ?_
  refine pa ?_
  refine nx ?_
  refine aw_block ?_
  refine aw_loopM (fun s4 => ⟨updA (updA (updA ((fun _ => .dead)) 0 (.d (.sl (List.map cArbor_ p0)))) 1 (.d (.v (.int .i64 s4.1)))) 5 (.d (.v (.int .i64 s4.2))), lks [.no, .no, .no]⟩) h1 ?_ (fun s4 y h2 => ?_)
  exact wk [0, 1, 2]
  refine aw_seq ?_
  refine sq [0,1,2,3] ?_
  refine pm ?_
  refine pm ?_
  refine rp rfl w0 rfl (pu_len_map tok rfl rfl rfl) ?_
  refine rp rfl w0 rfl (pu_lss rfl rfl) ?_
  refine nx ?_
  refine aw_if h2 rfl (fun hc h2 => ?_) (fun hc h2 => ?_)
  refine sk ?_
  refine aw_seq ?_
  refine aw_block ?_
  refine sq [0,1,2,3,4,5,6] ?_
  refine pm ?_
  refine pm ?_
  obtain ⟨v5, hv5, h2⟩ := bnd h2
  refine rp rfl w0 rfl (sl_ix tok hv5 rfl rfl rfl rfl rfl rfl) ?_
  refine rp rfl w0 rfl (pu_load_refN tok rfl rfl rfl (by repeat (first | exact SegD.z _ | apply SegD.t))) ?_
  refine pm ?_
  obtain ⟨v6, hv6, h2⟩ := bnd h2
  refine rs rfl w0 rfl (c_call 3 (l_szArbor_c hv6) rfl rfl rfl) ?_
  refine pa ?_
  refine nx ?_
  refine sq [0,1] ?_
  refine pm ?_
  refine rp rfl w0 rfl (pu_lss rfl rfl) ?_
  refine nx ?_
  refine aw_if h2 rfl (fun hc h2 => ?_) (fun hc h2 => ?_)
  refine sq [0] ?_
  refine pa ?_
  refine nx ?_
  refine aw_ret ?_
  refine block_r ?_
  refine then_r ?_
  cases h2
  refine loop_r ⟨_, rfl, fun e => ?_⟩
  subst e
  refine block_r ?_
  replace h0 := orE_s h0
  refine then_r ?_
  cases h0
  exact ret0_ (rs := [.tmp 4]) rfl
  refine aw_skip ?_
  refine block_n ?_
  refine then_n ?_
  refine sr [0,1,2] ?_
  refine pm ?_
  refine rp rfl w0 rfl (pw_add rfl rfl) ?_
  refine pa ?_
  refine ra_nil ?_
  refine loop_n ?_
  cases h2
  refine ⟨_, rfl, ?_⟩
  exact wk [0, 1, 2]
  refine aw_exit ?_
  refine then_e ?_
  cases h2
  refine loop_x ⟨_, rfl, fun e => ?_⟩
  subst e
  refine block_hit ?_
  refine then_n ?_
  refine ⟨_, rfl, ?_⟩
  exact wk [0, 1, 2]
  rintro v7 rfl
  replace h0 := orE_f h0
  refine sq [0,1] ?_
  refine pm ?_
  refine pa ?_
  refine nx ?_
  refine aw_ret ?_
  cases h0
  exact ret0_ (rs := [.tmp 4]) rfl

theorem l_szMeshS_c {p0 : List Mesh_} {p1 : Int} {r : Int} (h0 : l_szMeshS_m p0 p1 = some r) : FnC Tryz.prog 115 [] [.d (.sl (List.map cMesh_ p0)), .d (.v (.int .i64 p1))] [] (.d (.v (.int .i64 r))) := by
  refine fnc_intro (T := tt) (N := 12) tok Tryz.func115 rfl rfl (by kernel_rfl) rfl rfl ?_
  unfold l_szMeshS_m at h0
  refine sq [0] ?_
  refine pa ?_
  refine nx ?_
  refine sq [0,1,2,3,4] ?_
  refine pm ?_
  refine pm ?_
  refine rp rfl w0 rfl (pu_len_map tok rfl rfl rfl) ?_
  refine rp rfl w0 rfl (pw_sub rfl rfl) ?_
  refine pa ?_
  refine nx ?_
  refine aw_seq ?_
  refine sq [0,1] ?_
  refine pm ?_
  refine rp rfl w0 rfl (pu_lss rfl rfl) ?_
  refine nx ?_
  refine aw_if h0 rfl (fun hc h0 => ?_) (fun hc h0 => ?_)
  refine sq [0] ?_
  refine pa ?_
  refine nx ?_
  refine aw_ret ?_
  refine then_r ?_
  cases h0
  exact ret0_ (rs := [.tmp 4]) rfl
  refine sk ?_
  refine sq [0,1] ?_
  refine pm ?_
  refine pa ?_
  refine nx ?_
  refine aw_ret ?_
  cases h0
  exact ret0_ (rs := [.tmp 4]) rfl

theorem l_szWorks_c {p0 : Works_} {p1 : Int} {r : Int} (h0 : l_szWorks_m p0 p1 = some r) : FnC Tryz.prog 63 [] [.agg [.d (.sl (List.map cArbor_ p0.Arbors)), .d (.sl (List.map cMesh_ p0.Meshes))], .d (.v (.int .i64 p1))] [] (.d (.v (.int .i64 r))) := by
  refine fnc_intro (T := tt) (N := 18) tok Tryz.func63 rfl rfl (by kernel_rfl) rfl rfl ?_
  unfold l_szWorks_m at h0
  refine sq [0,1] ?_
  refine rs rfl w0 rfl (st_box 3 (cs := _ :: _) rfl rfl rfl) ?_
  refine pa ?_
  refine nx ?_
  refine sq [0,1,2,3,4] ?_
  refine fa tok ?_
  refine ld tok ?_
  refine pm ?_
  obtain ⟨v1, hv1, h0⟩ := bnd h0
  refine rs rfl w0 rfl (c_call 4 (l_szArborS_c hv1) rfl rfl rfl) ?_
  refine pa ?_
  refine nx ?_
  refine aw_seq ?_
  refine sq [0,1] ?_
  refine pm ?_
  refine rp rfl w0 rfl (pu_lss rfl rfl) ?_
  refine nx ?_
  refine aw_if h0 rfl (fun hc h0 => ?_) (fun hc h0 => ?_)
  refine sq [0] ?_
  refine pa ?_
  refine nx ?_
  refine aw_ret ?_
  refine then_r ?_
  cases h0
  exact ret0_ (rs := [.tmp 4]) rfl
  refine sk ?_
  refine sq [0,1,2,3,4] ?_
  refine fa tok ?_
  refine ld tok ?_
  refine pm ?_
  obtain ⟨v2, hv2, h0⟩ := bnd h0
  refine rs rfl w0 rfl (c_call 4 (l_szMeshS_c hv2) rfl rfl rfl) ?_
  refine pa ?_
  refine nx ?_
  refine aw_seq ?_
  refine sq [0,1] ?_
  refine pm ?_
  refine rp rfl w0 rfl (pu_lss rfl rfl) ?_
  refine nx ?_
  refine aw_if h0 rfl (fun hc h0 => ?_) (fun hc h0 => ?_)
  refine sq [0] ?_
  refine pa ?_
  refine nx ?_
  refine aw_ret ?_
  refine then_r ?_
  cases h0
  exact ret0_ (rs := [.tmp 4]) rfl
  refine sk ?_
  refine sq [0,1] ?_
  refine pm ?_
  refine pa ?_
  refine nx ?_
  refine aw_ret ?_
  cases h0
  exact ret0_ (rs := [.tmp 4]) rfl

theorem l_szMonth_c {p0 : Month_} {p1 : Int} {r : Int} (h0 : l_szMonth_m p0 p1 = some r) : FnC Tryz.prog 178 [] [.agg [.d (.v (.string p0.Name)), .d (.v (.int .i64 p0.Days)), .d (.v (.int .i64 p0.Leap))], .d (.v (.int .i64 p1))] [] (.d (.v (.int .i64 r))) := by
  refine fnc_intro (T := tt) (N := 13) tok Tryz.func178 rfl rfl (by kernel_rfl) rfl rfl ?_
  unfold l_szMonth_m at h0
  refine sq [0,1] ?_
  refine rs rfl w0 rfl (st_box 3 (cs := _ :: _) rfl rfl rfl) ?_
  refine pa ?_
  refine nx ?_
  refine sq [0,1,2,3,4,5] ?_
  refine pm ?_
  refine fa tok ?_
  refine ld tok ?_
  refine rp rfl w0 rfl (pu_len_str tok rfl rfl rfl) ?_
  refine rp rfl w0 rfl (pw_sub rfl rfl) ?_
  refine pa ?_
  refine nx ?_
  refine aw_seq ?_
  refine sq [0,1] ?_
  refine pm ?_
  refine rp rfl w0 rfl (pu_lss rfl rfl) ?_
  refine nx ?_
  refine aw_if h0 rfl (fun hc h0 => ?_) (fun hc h0 => ?_)
  refine sq [0] ?_
  refine pa ?_
  refine nx ?_
  refine aw_ret ?_
  refine then_r ?_
  cases h0
  exact ret0_ (rs := [.tmp 4]) rfl
  refine sk ?_
  refine sq [0,1] ?_
  refine pm ?_
  refine pa ?_
  refine nx ?_
  refine aw_ret ?_
  cases h0
  exact ret0_ (rs := [.tmp 4]) rfl

theorem l_szMonthS_c {p0 : List Month_} {p1 : Int} {r : Int} (h0 : l_szMonthS_m p0 p1 = some r) : FnC Tryz.prog 116 [] [.d (.sl (List.map cMonth_ p0)), .d (.v (.int .i64 p1))] [] (.d (.v (.int .i64 r))) := by
  refine fnc_intro (T := tt) (N := 27) tok Tryz.func116 rfl rfl (by kernel_rfl) rfl rfl ?_
  unfold l_szMonthS_m at h0
  refine sq [0] ?_
  refine pa ?_
  refine nx ?_
  refine sq [0,1,2,3,4] ?_
  refine pm ?_
  refine pm ?_
  refine rp rfl w0 rfl (pu_len_map tok rfl rfl rfl) ?_
  refine rp rfl w0 rfl (pw_sub rfl rfl) ?_
  refine pa ?_
  refine nx ?_
  refine aw_seq ?_
  refine sq [0,1] ?_
  refine pm ?_
  refine rp rfl w0 rfl (pu_lss rfl rfl) ?_
  refine nx ?_
  refine aw_if h0 rfl (fun hc h0 => ?_) (fun hc h0 => ?_)
  refine sq [0] ?_
  refine pa ?_
  refine nx ?_
  refine aw_ret ?_
  refine then_r ?_
  cases h0
  exact ret0_ (rs := [.tmp 4]) rfl
  refine sk ?_
  obtain ⟨v7x, h1, h0⟩ := bnd h0
  refine aw_cutE v7x (fun v7 => ⟨updA ((fun _ => .dead)) 1 (.d (.v (.int .i64 v7))), lks [.no, .no, .no]⟩) ?_ ?_
  refine sq [0] ?_
  refine pa ?_
  refine nx ?_
  refine aw_block ?_
  refine aw_loopM (fun s4 => ⟨updA (updA (updA ((fun _ => .dead)) 0 (.d (.sl (List.map cMonth_ p0)))) 1 (.d (.v (.int .i64 s4.1)))) 5 (.d (.v (.int .i64 s4.2))), lks [.no, .no, .no]⟩) h1 ?_ (fun s4 y h2 => ?_)
  exact wk [0, 1, 2]
  refine aw_seq ?_
  refine sq [0,1,2,3] ?_
  refine pm ?_
  refine pm ?_
  refine rp rfl w0 rfl (pu_len_map tok rfl rfl rfl) ?_
  refine rp rfl w0 rfl (pu_lss rfl rfl) ?_
  refine nx ?_
  refine aw_if h2 rfl (fun hc h2 => ?_) (fun hc h2 => ?_)
  refine sk ?_
  refine aw_seq ?_
  refine aw_block ?_
  refine sq [0,1,2,3,4,5,6] ?_
  refine pm ?_
  refine pm ?_
  obtain ⟨v5, hv5, h2⟩ := bnd h2
  refine rp rfl w0 rfl (sl_ix tok hv5 rfl rfl rfl rfl rfl rfl) ?_
  refine rp rfl w0 rfl (pu_load_refN tok rfl rfl rfl (by repeat (first | exact SegD.z _ | apply SegD.t))) ?_
  refine pm ?_
  obtain ⟨v6, hv6, h2⟩ := bnd h2
  refine rs rfl w0 rfl (c_call 3 (l_szMonth_c hv6) rfl rfl rfl) ?_
  refine pa ?_
  refine nx ?_
  refine sq [0,1] ?_
  refine pm ?_
  refine rp rfl w0 rfl (pu_lss rfl rfl) ?_
  refine nx ?_
  refine aw_if h2 rfl (fun hc h2 => ?_) (fun hc h2 => ?_)
  refine sq [0] ?_
  refine pa ?_
  refine nx ?_
  refine aw_ret ?_
  refine block_r ?_
  refine then_r ?_
  cases h2
  refine loop_r ⟨_, rfl, fun e => ?_⟩
  subst e
  refine block_r ?_
  replace h0 := orE_s h0
  refine then_r ?_
  cases h0
  exact ret0_ (rs := [.tmp 4]) rfl
  refine aw_skip ?_
  refine block_n ?_
  refine then_n ?_
  refine sr [0,1,2] ?_
  refine pm ?_
  refine rp rfl w0 rfl (pw_add rfl rfl) ?_
  refine pa ?_
  refine ra_nil ?_
  refine loop_n ?_
  cases h2
  refine ⟨_, rfl, ?_⟩
  exact wk [0, 1, 2]
  refine aw_exit ?_
  refine then_e ?_
  cases h2
  refine loop_x ⟨_, rfl, fun e => ?_⟩
  subst e
  refine block_hit ?_
  refine then_n ?_
  refine ⟨_, rfl, ?_⟩
  exact wk [0, 1, 2]
  rintro v7 rfl
  replace h0 := orE_f h0
  refine sq [0,1] ?_
  refine pm ?_
  refine pa ?_
  refine nx ?_
  refine aw_ret ?_
  cases h0
  exact ret0_ (rs := [.tmp 4]) rfl

theorem l_szLeapRuleS_c {p0 : List LeapRule_} {p1 : Int} {r : Int} (h0 : l_szLeapRuleS_m p0 p1 = some r) : FnC Tryz.prog 117 [] [.d (.sl (List.map cLeapRule_ p0)), .d (.v (.int .i64 p1))] [] (.d (.v (.int .i64 r))) := by
  refine fnc_intro (T := tt) (N := 12) tok Tryz.func117 rfl rfl (by kernel_rfl) rfl rfl ?_
  unfold l_szLeapRuleS_m at h0
  refine sq [0] ?_
  refine pa ?_
  refine nx ?_
  refine sq [0,1,2,3,4] ?_
  refine pm ?_
  refine pm ?_
  refine rp rfl w0 rfl (pu_len_map tok rfl rfl rfl) ?_
  refine rp rfl w0 rfl (pw_sub rfl rfl) ?_
  refine pa ?_
  refine nx ?_
  refine aw_seq ?_
  refine sq [0,1] ?_
  refine pm ?_
  refine rp rfl w0 rfl (pu_lss rfl rfl) ?_
  refine nx ?_
  refine aw_if h0 rfl (fun hc h0 => ?_) (fun hc h0 => ?_)
  refine sq [0] ?_
  refine pa ?_
  refine nx ?_
  refine aw_ret ?_
  refine then_r ?_
  cases h0
  exact ret0_ (rs := [.tmp 4]) rfl
  refine sk ?_
  refine sq [0,1] ?_
  refine pm ?_
  refine pa ?_
  refine nx ?_
  refine aw_ret ?_
  cases h0
  exact ret0_ (rs := [.tmp 4]) rfl

theorem l_szCalendar_c {p0 : Calendar_} {p1 : Int} {r : Int} (h0 : l_szCalendar_m p0 p1 = some r) : FnC Tryz.prog 64 [] [.agg [.d (.v (.string p0.Name)), .d (.sl (List.map cMonth_ p0.Months)), .d (.sl (List.map cLeapRule_ p0.Rules)), .d (.v (.int .i64 p0.Week))], .d (.v (.int .i64 p1))] [] (.d (.v (.int .i64 r))) := by
  refine fnc_intro (T := tt) (N := 25) tok Tryz.func64 rfl rfl (by kernel_rfl) rfl rfl ?_
  unfold l_szCalendar_m at h0
  refine sq [0,1] ?_
  refine rs rfl w0 rfl (st_box 3 (cs := _ :: _) rfl rfl rfl) ?_
  refine pa ?_
  refine nx ?_
  refine sq [0,1,2,3,4,5] ?_
  refine pm ?_
  refine fa tok ?_
  refine ld tok ?_
  refine rp rfl w0 rfl (pu_len_str tok rfl rfl rfl) ?_
  refine rp rfl w0 rfl (pw_sub rfl rfl) ?_
  refine pa ?_
  refine nx ?_
  refine aw_seq ?_
  refine sq [0,1] ?_
  refine pm ?_
  refine rp rfl w0 rfl (pu_lss rfl rfl) ?_
  refine nx ?_
  refine aw_if h0 rfl (fun hc h0 => ?_) (fun hc h0 => ?_)
  refine sq [0] ?_
  refine pa ?_
  refine nx ?_
  refine aw_ret ?_
  refine then_r ?_
  cases h0
  exact ret0_ (rs := [.tmp 4]) rfl
  refine sk ?_
  refine sq [0,1,2,3,4] ?_
  refine fa tok ?_
  refine ld tok ?_
  refine pm ?_
  obtain ⟨v1, hv1, h0⟩ := bnd h0
  refine rs rfl w0 rfl (c_call 4 (l_szMonthS_c hv1) rfl rfl rfl) ?_
  refine pa ?_
  refine nx ?_
  refine aw_seq ?_
  refine sq [0,1] ?_
  refine pm ?_
  refine rp rfl w0 rfl (pu_lss rfl rfl) ?_
  refine nx ?_
  refine aw_if h0 rfl (fun hc h0 => ?_) (fun hc h0 => ?_)
  refine sq [0] ?_
  refine pa ?_
  refine nx ?_
  refine aw_ret ?_
  refine then_r ?_
  cases h0
  exact ret0_ (rs := [.tmp 4]) rfl
  refine sk ?_
  refine sq [0,1,2,3,4] ?_
  refine fa tok ?_
  refine ld tok ?_
  refine pm ?_
  obtain ⟨v2, hv2, h0⟩ := bnd h0
  refine rs rfl w0 rfl (c_call 4 (l_szLeapRuleS_c hv2) rfl rfl rfl) ?_
  refine pa ?_
  refine nx ?_
  refine aw_seq ?_
  refine sq [0,1] ?_
  refine pm ?_
  refine rp rfl w0 rfl (pu_lss rfl rfl) ?_
  refine nx ?_
  refine aw_if h0 rfl (fun hc h0 => ?_) (fun hc h0 => ?_)
  refine sq [0] ?_
  refine pa ?_
  refine nx ?_
  refine aw_ret ?_
  refine then_r ?_
  cases h0
  exact ret0_ (rs := [.tmp 4]) rfl
  refine sk ?_
  refine sq [0,1] ?_
  refine pm ?_
  refine pa ?_
  refine nx ?_
  refine aw_ret ?_
  cases h0
  exact ret0_ (rs := [.tmp 4]) rfl

theorem l_szMovement_c {p0 : Movement_} {p1 : Int} {r : Int} (h0 : l_szMovement_m p0 p1 = some r) : FnC Tryz.prog 25 [] [.agg [.d (.v (.string p0.Name)), .d (.sl (List.map cArbor_ p0.Works.Arbors)), .d (.sl (List.map cMesh_ p0.Works.Meshes)), .d (.v (.int .i64 p0.Minute)), .d (.v (.int .i64 p0.Hour)), .d (.v (.int .i64 p0.Escape)), .d (.v (.int .i64 p0.Teeth)), .d (.v (.int .i64 p0.Beats)), .d (.v (.string p0.Calendar.Name)), .d (.sl (List.map cMonth_ p0.Calendar.Months)), .d (.sl (List.map cLeapRule_ p0.Calendar.Rules)), .d (.v (.int .i64 p0.Calendar.Week)), .d (.sl (List.map cI p0.Cam)), .d (.v (.int .i64 p0.Strike))], .d (.v (.int .i64 p1))] [] (.d (.v (.int .i64 r))) := by
  refine fnc_intro (T := tt) (N := 31) tok Tryz.func25 rfl rfl (by kernel_rfl) rfl rfl ?_
  unfold l_szMovement_m at h0
  refine sq [0,1] ?_
  refine rs rfl w0 rfl (st_box 3 (cs := _ :: _) rfl rfl rfl) ?_
  refine pa ?_
  refine nx ?_
  refine sq [0,1,2,3,4,5] ?_
  refine pm ?_
  refine fa tok ?_
  refine ld tok ?_
  refine rp rfl w0 rfl (pu_len_str tok rfl rfl rfl) ?_
  refine rp rfl w0 rfl (pw_sub rfl rfl) ?_
  refine pa ?_
  refine nx ?_
  refine aw_seq ?_
  refine sq [0,1] ?_
  refine pm ?_
  refine rp rfl w0 rfl (pu_lss rfl rfl) ?_
  refine nx ?_
  refine aw_if h0 rfl (fun hc h0 => ?_) (fun hc h0 => ?_)
  refine sq [0] ?_
  refine pa ?_
  refine nx ?_
  refine aw_ret ?_
  refine then_r ?_
  cases h0
  exact ret0_ (rs := [.tmp 4]) rfl
  refine sk ?_
  refine sq [0,1,2,3,4] ?_
  refine fa tok ?_
  refine rl rfl w0 rfl (bx_ldN tok rfl rfl rfl rfl) ?_
  refine pm ?_
  obtain ⟨v1, hv1, h0⟩ := bnd h0
  refine rs rfl w0 rfl (c_call 4 (l_szWorks_c hv1) rfl rfl rfl) ?_
  refine pa ?_
  refine nx ?_
  refine aw_seq ?_
  refine sq [0,1] ?_
  refine pm ?_
  refine rp rfl w0 rfl (pu_lss rfl rfl) ?_
  refine nx ?_
  refine aw_if h0 rfl (fun hc h0 => ?_) (fun hc h0 => ?_)
  refine sq [0] ?_
  refine pa ?_
  refine nx ?_
  refine aw_ret ?_
  refine then_r ?_
  cases h0
  exact ret0_ (rs := [.tmp 4]) rfl
  refine sk ?_
  refine sq [0,1,2,3,4] ?_
  refine fa tok ?_
  refine rl rfl w0 rfl (bx_ldN tok rfl rfl rfl rfl) ?_
  refine pm ?_
  obtain ⟨v2, hv2, h0⟩ := bnd h0
  refine rs rfl w0 rfl (c_call 4 (l_szCalendar_c hv2) rfl rfl rfl) ?_
  refine pa ?_
  refine nx ?_
  refine aw_seq ?_
  refine sq [0,1] ?_
  refine pm ?_
  refine rp rfl w0 rfl (pu_lss rfl rfl) ?_
  refine nx ?_
  refine aw_if h0 rfl (fun hc h0 => ?_) (fun hc h0 => ?_)
  refine sq [0] ?_
  refine pa ?_
  refine nx ?_
  refine aw_ret ?_
  refine then_r ?_
  cases h0
  exact ret0_ (rs := [.tmp 4]) rfl
  refine sk ?_
  refine sq [0,1,2,3,4] ?_
  refine fa tok ?_
  refine ld tok ?_
  refine pm ?_
  obtain ⟨v3, hv3, h0⟩ := bnd h0
  refine rs rfl w0 rfl (c_call 4 (l_szInt64S_c hv3) rfl rfl rfl) ?_
  refine pa ?_
  refine nx ?_
  refine aw_seq ?_
  refine sq [0,1] ?_
  refine pm ?_
  refine rp rfl w0 rfl (pu_lss rfl rfl) ?_
  refine nx ?_
  refine aw_if h0 rfl (fun hc h0 => ?_) (fun hc h0 => ?_)
  refine sq [0] ?_
  refine pa ?_
  refine nx ?_
  refine aw_ret ?_
  refine then_r ?_
  cases h0
  exact ret0_ (rs := [.tmp 4]) rfl
  refine sk ?_
  refine sq [0,1] ?_
  refine pm ?_
  refine pa ?_
  refine nx ?_
  refine aw_ret ?_
  cases h0
  exact ret0_ (rs := [.tmp 4]) rfl

theorem l_szPerpetual_c {p0 : Perpetual_} {p1 : Int} {r : Int} (h0 : l_szPerpetual_m p0 p1 = some r) : FnC Tryz.prog 26 [] [.agg [.d (.sl (List.map cI p0.Cam)), .d (.v (.int .i64 p0.Months)), .d (.v (.int .i64 p0.Teeth)), .d (.v (.int .i64 p0.At)), .d (.v (.int .i64 p0.Day)), .d (.v (.int .i64 p0.Week)), .d (.v (.int .i64 p0.Weekday))], .d (.v (.int .i64 p1))] [] (.d (.v (.int .i64 r))) := by
  refine fnc_intro (T := tt) (N := 12) tok Tryz.func26 rfl rfl (by kernel_rfl) rfl rfl ?_
  unfold l_szPerpetual_m at h0
  refine sq [0,1] ?_
  refine rs rfl w0 rfl (st_box 3 (cs := _ :: _) rfl rfl rfl) ?_
  refine pa ?_
  refine nx ?_
  refine sq [0,1,2,3,4] ?_
  refine fa tok ?_
  refine ld tok ?_
  refine pm ?_
  obtain ⟨v1, hv1, h0⟩ := bnd h0
  refine rs rfl w0 rfl (c_call 4 (l_szInt64S_c hv1) rfl rfl rfl) ?_
  refine pa ?_
  refine nx ?_
  refine aw_seq ?_
  refine sq [0,1] ?_
  refine pm ?_
  refine rp rfl w0 rfl (pu_lss rfl rfl) ?_
  refine nx ?_
  refine aw_if h0 rfl (fun hc h0 => ?_) (fun hc h0 => ?_)
  refine sq [0] ?_
  refine pa ?_
  refine nx ?_
  refine aw_ret ?_
  refine then_r ?_
  cases h0
  exact ret0_ (rs := [.tmp 4]) rfl
  refine sk ?_
  refine sq [0,1] ?_
  refine pm ?_
  refine pa ?_
  refine nx ?_
  refine aw_ret ?_
  cases h0
  exact ret0_ (rs := [.tmp 4]) rfl

theorem l_szSim_c {p0 : Sim_} {p1 : Int} {r : Int} (h0 : l_szSim_m p0 p1 = some r) : FnC Tryz.prog 7 [] [.agg [.d (.v (.string p0.Movement.Name)), .d (.sl (List.map cArbor_ p0.Movement.Works.Arbors)), .d (.sl (List.map cMesh_ p0.Movement.Works.Meshes)), .d (.v (.int .i64 p0.Movement.Minute)), .d (.v (.int .i64 p0.Movement.Hour)), .d (.v (.int .i64 p0.Movement.Escape)), .d (.v (.int .i64 p0.Movement.Teeth)), .d (.v (.int .i64 p0.Movement.Beats)), .d (.v (.string p0.Movement.Calendar.Name)), .d (.sl (List.map cMonth_ p0.Movement.Calendar.Months)), .d (.sl (List.map cLeapRule_ p0.Movement.Calendar.Rules)), .d (.v (.int .i64 p0.Movement.Calendar.Week)), .d (.sl (List.map cI p0.Movement.Cam)), .d (.v (.int .i64 p0.Movement.Strike)), .d (.v (.int .i64 p0.Start.Year)), .d (.v (.int .i64 p0.Start.Month)), .d (.v (.int .i64 p0.Start.Day)), .d (.v (.int .i64 p0.First)), .d (.v (.int .i64 p0.Clock)), .d (.sl (List.map cI p0.Dial.Cam)), .d (.v (.int .i64 p0.Dial.Months)), .d (.v (.int .i64 p0.Dial.Teeth)), .d (.v (.int .i64 p0.Dial.At)), .d (.v (.int .i64 p0.Dial.Day)), .d (.v (.int .i64 p0.Dial.Week)), .d (.v (.int .i64 p0.Dial.Weekday))], .d (.v (.int .i64 p1))] [] (.d (.v (.int .i64 r))) := by
  refine fnc_intro (T := tt) (N := 18) tok Tryz.func7 rfl rfl (by kernel_rfl) rfl rfl ?_
  unfold l_szSim_m at h0
  refine sq [0,1] ?_
  refine rs rfl w0 rfl (st_box 3 (cs := _ :: _) rfl rfl rfl) ?_
  refine pa ?_
  refine nx ?_
  refine sq [0,1,2,3,4] ?_
  refine fa tok ?_
  refine rl rfl w0 rfl (bx_ldN tok rfl rfl rfl rfl) ?_
  refine pm ?_
  obtain ⟨v1, hv1, h0⟩ := bnd h0
  refine rs rfl w0 rfl (c_call 4 (l_szMovement_c hv1) rfl rfl rfl) ?_
  refine pa ?_
  refine nx ?_
  refine aw_seq ?_
  refine sq [0,1] ?_
  refine pm ?_
  refine rp rfl w0 rfl (pu_lss rfl rfl) ?_
  refine nx ?_
  refine aw_if h0 rfl (fun hc h0 => ?_) (fun hc h0 => ?_)
  refine sq [0] ?_
  refine pa ?_
  refine nx ?_
  refine aw_ret ?_
  refine then_r ?_
  cases h0
  exact ret0_ (rs := [.tmp 4]) rfl
  refine sk ?_
  refine sq [0,1,2,3,4] ?_
  refine fa tok ?_
  refine rl rfl w0 rfl (bx_ldN tok rfl rfl rfl rfl) ?_
  refine pm ?_
  obtain ⟨v2, hv2, h0⟩ := bnd h0
  refine rs rfl w0 rfl (c_call 4 (l_szPerpetual_c hv2) rfl rfl rfl) ?_
  refine pa ?_
  refine nx ?_
  refine aw_seq ?_
  refine sq [0,1] ?_
  refine pm ?_
  refine rp rfl w0 rfl (pu_lss rfl rfl) ?_
  refine nx ?_
  refine aw_if h0 rfl (fun hc h0 => ?_) (fun hc h0 => ?_)
  refine sq [0] ?_
  refine pa ?_
  refine nx ?_
  refine aw_ret ?_
  refine then_r ?_
  cases h0
  exact ret0_ (rs := [.tmp 4]) rfl
  refine sk ?_
  refine sq [0,1] ?_
  refine pm ?_
  refine pa ?_
  refine nx ?_
  refine aw_ret ?_
  cases h0
  exact ret0_ (rs := [.tmp 4]) rfl

theorem l_toInt64S_c {p0 : List Int} {r : List Int} (h0 : l_toInt64S_m p0 = some r) : FnC Tryz.prog 75 [] [.d (.sl (List.map cI p0))] [.live [⟨2, 1, .data (List.map cI r)⟩]] (.own 0 0 r.length) := by
  refine fnc_intro (T := tt) (N := 22) tok Tryz.func75 rfl rfl (by kernel_rfl) rfl rfl ?_
  unfold l_toInt64S_m at h0
  refine sq [0] ?_
  refine pa ?_
  refine nx ?_
  refine sq [0,1,2,3] ?_
  refine pm ?_
  refine rp rfl w0 rfl (pu_len_map tok rfl rfl rfl) ?_
  obtain ⟨hq1, h0⟩ := chk_e h0
  refine rs rfl w0 rfl (mk_own 3 tok (c := cI) 0 hq1 rfl rfl rfl rfl rfl rfl rfl rfl rfl rfl rfl rfl rfl) ?_
  refine rp rfl w0 rfl (pu_assign (r := .own _ _ _) rfl) ?_
  refine nx ?_
  obtain ⟨v8, h1, h0⟩ := bnd h0
  refine aw_cut ⟨updA ((fun _ => .dead)) 3 (.own 3 0 (v8).length), lks [.no, .no, .no, .live [⟨2, 1, .data (List.map cI v8)⟩]]⟩ ?_ ?_
  refine sq [0] ?_
  refine pa ?_
  refine nx ?_
  refine aw_block ?_
  refine aw_loopM (fun s5 => ⟨updA (updA (updA ((fun _ => .dead)) 0 (.d (.sl (List.map cI p0)))) 3 (.own 3 0 (s5.2).length)) 4 (.d (.v (.int .i64 s5.1))), lks [.no, .no, .no, .live [⟨2, 1, .data (List.map cI s5.2)⟩]]⟩) h1 ?_ (fun s5 y h2 => ?_)
  exact wk [0, 1, 2, 3]
  refine aw_seq ?_
  refine sq [0,1,2,3] ?_
  refine pm ?_
  refine pm ?_
  refine rp rfl w0 rfl (pu_len_map tok rfl rfl rfl) ?_
  refine rp rfl w0 rfl (pu_lss rfl rfl) ?_
  refine nx ?_
  refine aw_if h2 rfl (fun hc h2 => ?_) (fun hc h2 => ?_)
  refine sk ?_
  refine aw_seq ?_
  refine aw_block ?_
  refine sr [0,1,2,3,4,5,6,7] ?_
  refine rp rfl w0 rfl (pu_move (r := .own _ _ _) rfl) ?_
  iterate 3 refine pm ?_
  obtain ⟨v6, hv6, h2⟩ := bnd h2
  refine rp rfl w0 rfl (sl_ix tok hv6 rfl rfl rfl rfl rfl rfl) ?_
  refine lr tok ?_
  obtain ⟨v7, hv7, h2⟩ := bnd h2
  refine rl rfl w0 rfl (ow_ix tok hv7 rfl rfl rfl rfl rfl rfl rfl rfl) ?_
  refine rw0 rfl w0 (rw_st (cs := [.d _]) tok v6 (atI_e hv7).2.1 rfl rfl rfl rfl rfl rfl rfl rfl) ?_
  refine ra_nil ?_
  refine block_n ?_
  refine then_n ?_
  refine sr [0,1,2] ?_
  refine pm ?_
  refine rp rfl w0 rfl (pw_add rfl rfl) ?_
  refine pa ?_
  refine ra_nil ?_
  refine loop_n ?_
  cases h2
  refine ⟨_, rfl, ?_⟩
  exact wk [0, 1, 2, 3]
  refine aw_exit ?_
  refine then_e ?_
  cases h2
  refine loop_x ⟨_, rfl, fun e => ?_⟩
  subst e
  refine block_hit ?_
  refine then_n ?_
  exact wk [0, 1, 2, 3]
  refine sq [0,1] ?_
  refine rp rfl w0 rfl (pu_move (r := .own _ _ _) rfl) ?_
  refine rp rfl w0 rfl (pu_assign (r := .own _ _ _) rfl) ?_
  refine nx ?_
  refine aw_ret ?_
  cases h0
  exact retK_ (rs := [.tmp 2]) [3] rfl

theorem l_toArbor_c {p0 : Arbor_} {r : Arbor_} (h0 : l_toArbor_m p0 = some r) : FnC Tryz.prog 191 [] [.agg [.d (.v (.string p0.Name)), .d (.sl (List.map cI p0.Wheels))]] [.live [⟨2, 1, .data (List.map cI r.Wheels)⟩]] (.agg [.d (.v (.string r.Name)), .own 0 0 r.Wheels.length]) := by
  refine fnc_intro (T := tt) (N := 12) tok Tryz.func191 rfl rfl (by kernel_rfl) rfl rfl ?_
  unfold l_toArbor_m at h0
  refine sq [0,1] ?_
  refine rs rfl w0 rfl (st_box 3 (cs := _ :: _) rfl rfl rfl) ?_
  refine rs rfl w0 rfl (st_alloc 4 (cs := [.d (.v (.string (⟨#[]⟩ : ByteArray))), .d (.v (.slice none 0 0))]) tok rfl rfl rfl) ?_
  refine nx ?_
  refine sq [0] ?_
  refine rs rfl w0 rfl (st_alloc 5 (cs := [.d (.v (.string (⟨#[]⟩ : ByteArray))), .d (.v (.slice none 0 0))]) tok rfl rfl rfl) ?_
  refine nx ?_
  refine sq [0,1,2,3] ?_
  refine fa tok ?_
  refine ld tok ?_
  refine fa tok ?_
  refine rw0 rfl w0 (bx_st (cs := [.d _]) tok rfl rfl rfl rfl rfl rfl rfl) ?_
  refine nx ?_
  refine sq [0,1,2,3,4] ?_
  refine fa tok ?_
  refine ld tok ?_
  obtain ⟨v1, hv1, h0⟩ := bnd h0
  refine rs rfl w0 rfl (c_call 6 (l_toInt64S_c hv1) rfl rfl rfl) ?_
  refine fa tok ?_
  refine rw0 rfl w0 (bx_st (cs := [.own _ _ _]) tok rfl rfl rfl rfl rfl rfl rfl) ?_
  refine nx ?_
  refine sq [0,1] ?_
  refine rl rfl w0 rfl (bx_ldN tok rfl rfl rfl rfl) ?_
  refine rw0 rfl w0 (bx_st (cs := _ :: _) tok rfl rfl rfl rfl rfl rfl rfl) ?_
  refine nx ?_
  refine aw_ret ?_
  cases h0
  exact retK_ (rs := [.cell 2 213]) [6] rfl

theorem l_toArborS_c {p0 : List Arbor_} {r : List Arbor_} (h0 : l_toArborS_m p0 = some r) : FnC Tryz.prog 130 [] [.d (.sl (List.map cArbor_ p0))] [.live [⟨213, 2, .av (nestL 1 cArbor_ r)⟩], .live (famL 2 1 cArbor_ r)] (.own 0 0 r.length) := by
  refine fnc_intro (T := tt) (N := 23) tok Tryz.func130 rfl rfl (by kernel_rfl) rfl rfl ?_
  unfold l_toArborS_m at h0
  refine sq [0] ?_
  refine pa ?_
  refine nx ?_
  refine sq [0,1,2,3] ?_
  refine pm ?_
  refine rp rfl w0 rfl (pu_len_map tok rfl rfl rfl) ?_
  obtain ⟨hq1, h0⟩ := chk_e h0
  refine rs rfl w0 rfl (mk_av 3 tok (⟨(⟨#[]⟩ : ByteArray), []⟩ : Arbor_) hq1 rfl rfl rfl rfl rfl rfl rfl rfl rfl rfl rfl) ?_
  refine ra_weak (weak_adoptN 4 (k := 3) 2 1 (c := cArbor_) (⟨(⟨#[]⟩ : ByteArray), []⟩ : Arbor_) rfl rfl (by repeat (first | exact NilC.nil | apply NilC.v | apply NilC.nl))) ?_
  refine rp rfl w0 rfl (pu_assign (r := .own _ _ _) rfl) ?_
  refine nx ?_
  obtain ⟨v10, h1, h0⟩ := bnd h0
  refine aw_cut ⟨updA ((fun _ => .dead)) 3 (.own 3 0 (v10).length), lks [.no, .no, .no, .live [⟨213, 2, .av (nestL 4 cArbor_ v10)⟩], .live (famL 2 1 cArbor_ v10)]⟩ ?_ ?_
  refine sq [0] ?_
  refine pa ?_
  refine nx ?_
  refine aw_block ?_
  refine aw_loopM (fun s6 => ⟨updA (updA (updA ((fun _ => .dead)) 0 (.d (.sl (List.map cArbor_ p0)))) 3 (.own 3 0 (s6.2).length)) 4 (.d (.v (.int .i64 s6.1))), lks [.no, .no, .no, .live [⟨213, 2, .av (nestL 4 cArbor_ s6.2)⟩], .live (famL 2 1 cArbor_ s6.2)]⟩) h1 ?_ (fun s6 y h2 => ?_)
  exact wk [0, 1, 2, 3, 4]
  refine aw_seq ?_
  refine sq [0,1,2,3] ?_
  refine pm ?_
  refine pm ?_
  refine rp rfl w0 rfl (pu_len_map tok rfl rfl rfl) ?_
  refine rp rfl w0 rfl (pu_lss rfl rfl) ?_
  refine nx ?_
  refine aw_if h2 rfl (fun hc h2 => ?_) (fun hc h2 => ?_)
  refine sk ?_
  refine aw_seq ?_
  refine aw_block ?_
  refine sr [0,1,2,3,4,5,6,7,8] ?_
  refine rp rfl w0 rfl (pu_move (r := .own _ _ _) rfl) ?_
  iterate 3 refine pm ?_
  obtain ⟨v7, hv7, h2⟩ := bnd h2
  refine rp rfl w0 rfl (sl_ix tok hv7 rfl rfl rfl rfl rfl rfl) ?_
  refine rp rfl w0 rfl (pu_load_refN tok rfl rfl rfl (by repeat (first | exact SegD.z _ | apply SegD.t))) ?_
  obtain ⟨v8, hv8, h2⟩ := bnd h2
  refine rs rfl w0 rfl (c_call 5 (l_toArbor_c hv8) rfl rfl rfl) ?_
  obtain ⟨v9, hv9, h2⟩ := bnd h2
  refine rl rfl w0 rfl (nst_ix tok hv9 rfl rfl rfl rfl rfl rfl rfl rfl) ?_
  refine rw0 rfl w0 (nst_sto (cs := _ :: _) tok (atI_e hv9).2.1 rfl rfl rfl rfl rfl rfl rfl rfl rfl) ?_
  refine ra_weak (absorb_set 6 (k := 3) (kf := 4) (k2 := 5) (m := s6.1.toNat) v8 rfl rfl rfl rfl rfl rfl rfl (by repeat (first | exact NstC.nil | apply NstC.v | apply NstC.sl (by first | rfl | (simp; done)))) rfl rfl rfl (List.getElem?_eq_some_iff.1 (atI_e hv9).2.1).1) ?_
  refine ra_nil ?_
  refine block_n ?_
  refine then_n ?_
  refine sr [0,1,2] ?_
  refine pm ?_
  refine rp rfl w0 rfl (pw_add rfl rfl) ?_
  refine pa ?_
  refine ra_nil ?_
  refine loop_n ?_
  cases h2
  refine ⟨_, rfl, ?_⟩
  exact wk [0, 1, 2, 3, 6]
  refine aw_exit ?_
  refine then_e ?_
  cases h2
  refine loop_x ⟨_, rfl, fun e => ?_⟩
  subst e
  refine block_hit ?_
  refine then_n ?_
  exact wk [0, 1, 2, 3, 4]
  refine sq [0,1] ?_
  refine rp rfl w0 rfl (pu_move (r := .own _ _ _) rfl) ?_
  refine rp rfl w0 rfl (pu_assign (r := .own _ _ _) rfl) ?_
  refine nx ?_
  refine aw_ret ?_
  cases h0
  exact retK_ (rs := [.tmp 2]) [3, 4] rfl

theorem l_toMesh_c {p0 : Mesh_} {r : Mesh_} (h0 : l_toMesh_m p0 = some r) : FnC Tryz.prog 192 [] [.agg [.d (.v (.int .i64 p0.A)), .d (.v (.int .i64 p0.WheelA)), .d (.v (.int .i64 p0.B)), .d (.v (.int .i64 p0.WheelB))]] [] (.agg [.d (.v (.int .i64 r.A)), .d (.v (.int .i64 r.WheelA)), .d (.v (.int .i64 r.B)), .d (.v (.int .i64 r.WheelB))]) := by
  refine fnc_intro (T := tt) (N := 17) tok Tryz.func192 rfl rfl (by kernel_rfl) rfl rfl ?_
  unfold l_toMesh_m at h0
  refine sq [0,1] ?_
  refine rs rfl w0 rfl (st_box 3 (cs := _ :: _) rfl rfl rfl) ?_
  refine rs rfl w0 rfl (st_alloc 4 (cs := [.d (.v (.int .i64 0)), .d (.v (.int .i64 0)), .d (.v (.int .i64 0)), .d (.v (.int .i64 0))]) tok rfl rfl rfl) ?_
  refine nx ?_
  refine sq [0] ?_
  refine rs rfl w0 rfl (st_alloc 5 (cs := [.d (.v (.int .i64 0)), .d (.v (.int .i64 0)), .d (.v (.int .i64 0)), .d (.v (.int .i64 0))]) tok rfl rfl rfl) ?_
  refine nx ?_
  refine sq [0,1,2,3] ?_
  refine fa tok ?_
  refine ld tok ?_
  refine fa tok ?_
  refine rw0 rfl w0 (bx_st (cs := [.d _]) tok rfl rfl rfl rfl rfl rfl rfl) ?_
  refine nx ?_
  refine sq [0,1,2,3] ?_
  refine fa tok ?_
  refine ld tok ?_
  refine fa tok ?_
  refine rw0 rfl w0 (bx_st (cs := [.d _]) tok rfl rfl rfl rfl rfl rfl rfl) ?_
  refine nx ?_
  refine sq [0,1,2,3] ?_
  refine fa tok ?_
  refine ld tok ?_
  refine fa tok ?_
  refine rw0 rfl w0 (bx_st (cs := [.d _]) tok rfl rfl rfl rfl rfl rfl rfl) ?_
  refine nx ?_
  refine sq [0,1,2,3] ?_
  refine fa tok ?_
  refine ld tok ?_
  refine fa tok ?_
  refine rw0 rfl w0 (bx_st (cs := [.d _]) tok rfl rfl rfl rfl rfl rfl rfl) ?_
  refine nx ?_
  refine sq [0,1] ?_
  refine rl rfl w0 rfl (bx_ldN tok rfl rfl rfl rfl) ?_
  refine rw0 rfl w0 (bx_st (cs := _ :: _) tok rfl rfl rfl rfl rfl rfl rfl) ?_
  refine nx ?_
  refine aw_ret ?_
  cases h0
  exact ret0_ (rs := [.cell 2 215]) rfl

theorem l_toMeshS_c {p0 : List Mesh_} {r : List Mesh_} (h0 : l_toMeshS_m p0 = some r) : FnC Tryz.prog 131 [] [.d (.sl (List.map cMesh_ p0))] [.live [⟨215, 4, .data (List.map cMesh_ r)⟩]] (.own 0 0 r.length) := by
  refine fnc_intro (T := tt) (N := 23) tok Tryz.func131 rfl rfl (by kernel_rfl) rfl rfl ?_
  unfold l_toMeshS_m at h0
  refine sq [0] ?_
  refine pa ?_
  refine nx ?_
  refine sq [0,1,2,3] ?_
  refine pm ?_
  refine rp rfl w0 rfl (pu_len_map tok rfl rfl rfl) ?_
  obtain ⟨hq1, h0⟩ := chk_e h0
  refine rs rfl w0 rfl (mk_own 3 tok (c := cMesh_) (⟨0, 0, 0, 0⟩ : Mesh_) hq1 rfl rfl rfl rfl rfl rfl rfl rfl rfl rfl rfl rfl rfl) ?_
  refine rp rfl w0 rfl (pu_assign (r := .own _ _ _) rfl) ?_
  refine nx ?_
  obtain ⟨v10, h1, h0⟩ := bnd h0
  refine aw_cut ⟨updA ((fun _ => .dead)) 3 (.own 3 0 (v10).length), lks [.no, .no, .no, .live [⟨215, 4, .data (List.map cMesh_ v10)⟩]]⟩ ?_ ?_
  refine sq [0] ?_
  refine pa ?_
  refine nx ?_
  refine aw_block ?_
  refine aw_loopM (fun s6 => ⟨updA (updA (updA ((fun _ => .dead)) 0 (.d (.sl (List.map cMesh_ p0)))) 3 (.own 3 0 (s6.2).length)) 4 (.d (.v (.int .i64 s6.1))), lks [.no, .no, .no, .live [⟨215, 4, .data (List.map cMesh_ s6.2)⟩]]⟩) h1 ?_ (fun s6 y h2 => ?_)
  exact wk [0, 1, 2, 3]
  refine aw_seq ?_
  refine sq [0,1,2,3] ?_
  refine pm ?_
  refine pm ?_
  refine rp rfl w0 rfl (pu_len_map tok rfl rfl rfl) ?_
  refine rp rfl w0 rfl (pu_lss rfl rfl) ?_
  refine nx ?_
  refine aw_if h2 rfl (fun hc h2 => ?_) (fun hc h2 => ?_)
  refine sk ?_
  refine aw_seq ?_
  refine aw_block ?_
  refine sr [0,1,2,3,4,5,6,7,8] ?_
  refine rp rfl w0 rfl (pu_move (r := .own _ _ _) rfl) ?_
  iterate 3 refine pm ?_
  obtain ⟨v7, hv7, h2⟩ := bnd h2
  refine rp rfl w0 rfl (sl_ix tok hv7 rfl rfl rfl rfl rfl rfl) ?_
  refine rp rfl w0 rfl (pu_load_refN tok rfl rfl rfl (by repeat (first | exact SegD.z _ | apply SegD.t))) ?_
  obtain ⟨v8, hv8, h2⟩ := bnd h2
  refine rs rfl w0 rfl (c_call 4 (l_toMesh_c hv8) rfl rfl rfl) ?_
  obtain ⟨v9, hv9, h2⟩ := bnd h2
  refine rl rfl w0 rfl (ow_ix tok hv9 rfl rfl rfl rfl rfl rfl rfl rfl) ?_
  refine rw0 rfl w0 (rw_st (cs := _ :: _) tok v8 (atI_e hv9).2.1 rfl rfl rfl rfl rfl rfl rfl rfl) ?_
  refine ra_nil ?_
  refine block_n ?_
  refine then_n ?_
  refine sr [0,1,2] ?_
  refine pm ?_
  refine rp rfl w0 rfl (pw_add rfl rfl) ?_
  refine pa ?_
  refine ra_nil ?_
  refine loop_n ?_
  cases h2
  refine ⟨_, rfl, ?_⟩
  exact wk [0, 1, 2, 3]
  refine aw_exit ?_
  refine then_e ?_
  cases h2
  refine loop_x ⟨_, rfl, fun e => ?_⟩
  subst e
  refine block_hit ?_
  refine then_n ?_
  exact wk [0, 1, 2, 3]
  refine sq [0,1] ?_
  refine rp rfl w0 rfl (pu_move (r := .own _ _ _) rfl) ?_
  refine rp rfl w0 rfl (pu_assign (r := .own _ _ _) rfl) ?_
  refine nx ?_
  refine aw_ret ?_
  cases h0
  exact retK_ (rs := [.tmp 2]) [3] rfl

theorem l_toWorks_c {p0 : Works_} {r : Works_} (h0 : l_toWorks_m p0 = some r) : FnC Tryz.prog 73 [] [.agg [.d (.sl (List.map cArbor_ p0.Arbors)), .d (.sl (List.map cMesh_ p0.Meshes))]] [.live [⟨213, 2, .av (nestL 1 cArbor_ r.Arbors)⟩], .live (famL 2 1 cArbor_ r.Arbors), .live [⟨215, 4, .data (List.map cMesh_ r.Meshes)⟩]] (.agg [.own 0 0 r.Arbors.length, .own 2 0 r.Meshes.length]) := by
  refine fnc_intro (T := tt) (N := 13) tok Tryz.func73 rfl rfl (by kernel_rfl) rfl rfl ?_
  unfold l_toWorks_m at h0
  refine sq [0,1] ?_
  refine rs rfl w0 rfl (st_box 3 (cs := _ :: _) rfl rfl rfl) ?_
  refine rs rfl w0 rfl (st_alloc 4 (cs := [.d (.v (.slice none 0 0)), .d (.v (.slice none 0 0))]) tok rfl rfl rfl) ?_
  refine nx ?_
  refine sq [0] ?_
  refine rs rfl w0 rfl (st_alloc 5 (cs := [.d (.v (.slice none 0 0)), .d (.v (.slice none 0 0))]) tok rfl rfl rfl) ?_
  refine nx ?_
  refine sq [0,1,2,3,4] ?_
  refine fa tok ?_
  refine ld tok ?_
  obtain ⟨v1, hv1, h0⟩ := bnd h0
  refine rs rfl w0 rfl (c_call 6 (l_toArborS_c hv1) rfl rfl rfl) ?_
  refine fa tok ?_
  refine rw0 rfl w0 (bx_st (cs := [.own _ _ _]) tok rfl rfl rfl rfl rfl rfl rfl) ?_
  refine nx ?_
  refine sq [0,1,2,3,4] ?_
  refine fa tok ?_
  refine ld tok ?_
  obtain ⟨v2, hv2, h0⟩ := bnd h0
  refine rs rfl w0 rfl (c_call 8 (l_toMeshS_c hv2) rfl rfl rfl) ?_
  refine fa tok ?_
  refine rw0 rfl w0 (bx_st (cs := [.own _ _ _]) tok rfl rfl rfl rfl rfl rfl rfl) ?_
  refine nx ?_
  refine sq [0,1] ?_
  refine rl rfl w0 rfl (bx_ldN tok rfl rfl rfl rfl) ?_
  refine rw0 rfl w0 (bx_st (cs := _ :: _) tok rfl rfl rfl rfl rfl rfl rfl) ?_
  refine nx ?_
  refine aw_ret ?_
  cases h0
  exact retK_ (rs := [.cell 2 43]) [6, 7, 8] rfl

theorem l_toMonth_c {p0 : Month_} {r : Month_} (h0 : l_toMonth_m p0 = some r) : FnC Tryz.prog 193 [] [.agg [.d (.v (.string p0.Name)), .d (.v (.int .i64 p0.Days)), .d (.v (.int .i64 p0.Leap))]] [] (.agg [.d (.v (.string r.Name)), .d (.v (.int .i64 r.Days)), .d (.v (.int .i64 r.Leap))]) := by
  refine fnc_intro (T := tt) (N := 14) tok Tryz.func193 rfl rfl (by kernel_rfl) rfl rfl ?_
  unfold l_toMonth_m at h0
  refine sq [0,1] ?_
  refine rs rfl w0 rfl (st_box 3 (cs := _ :: _) rfl rfl rfl) ?_
  refine rs rfl w0 rfl (st_alloc 4 (cs := [.d (.v (.string (⟨#[]⟩ : ByteArray))), .d (.v (.int .i64 0)), .d (.v (.int .i64 0))]) tok rfl rfl rfl) ?_
  refine nx ?_
  refine sq [0] ?_
  refine rs rfl w0 rfl (st_alloc 5 (cs := [.d (.v (.string (⟨#[]⟩ : ByteArray))), .d (.v (.int .i64 0)), .d (.v (.int .i64 0))]) tok rfl rfl rfl) ?_
  refine nx ?_
  refine sq [0,1,2,3] ?_
  refine fa tok ?_
  refine ld tok ?_
  refine fa tok ?_
  refine rw0 rfl w0 (bx_st (cs := [.d _]) tok rfl rfl rfl rfl rfl rfl rfl) ?_
  refine nx ?_
  refine sq [0,1,2,3] ?_
  refine fa tok ?_
  refine ld tok ?_
  refine fa tok ?_
  refine rw0 rfl w0 (bx_st (cs := [.d _]) tok rfl rfl rfl rfl rfl rfl rfl) ?_
  refine nx ?_
  refine sq [0,1,2,3] ?_
  refine fa tok ?_
  refine ld tok ?_
  refine fa tok ?_
  refine rw0 rfl w0 (bx_st (cs := [.d _]) tok rfl rfl rfl rfl rfl rfl rfl) ?_
  refine nx ?_
  refine sq [0,1] ?_
  refine rl rfl w0 rfl (bx_ldN tok rfl rfl rfl rfl) ?_
  refine rw0 rfl w0 (bx_st (cs := _ :: _) tok rfl rfl rfl rfl rfl rfl rfl) ?_
  refine nx ?_
  refine aw_ret ?_
  cases h0
  exact ret0_ (rs := [.cell 2 147]) rfl

theorem l_toMonthS_c {p0 : List Month_} {r : List Month_} (h0 : l_toMonthS_m p0 = some r) : FnC Tryz.prog 132 [] [.d (.sl (List.map cMonth_ p0))] [.live [⟨147, 3, .data (List.map cMonth_ r)⟩]] (.own 0 0 r.length) := by
  refine fnc_intro (T := tt) (N := 23) tok Tryz.func132 rfl rfl (by kernel_rfl) rfl rfl ?_
  unfold l_toMonthS_m at h0
  refine sq [0] ?_
  refine pa ?_
  refine nx ?_
  refine sq [0,1,2,3] ?_
  refine pm ?_
  refine rp rfl w0 rfl (pu_len_map tok rfl rfl rfl) ?_
  obtain ⟨hq1, h0⟩ := chk_e h0
  refine rs rfl w0 rfl (mk_own 3 tok (c := cMonth_) (⟨(⟨#[]⟩ : ByteArray), 0, 0⟩ : Month_) hq1 rfl rfl rfl rfl rfl rfl rfl rfl rfl rfl rfl rfl rfl) ?_
  refine rp rfl w0 rfl (pu_assign (r := .own _ _ _) rfl) ?_
  refine nx ?_
  obtain ⟨v10, h1, h0⟩ := bnd h0
  refine aw_cut ⟨updA ((fun _ => .dead)) 3 (.own 3 0 (v10).length), lks [.no, .no, .no, .live [⟨147, 3, .data (List.map cMonth_ v10)⟩]]⟩ ?_ ?_
  refine sq [0] ?_
  refine pa ?_
  refine nx ?_
  refine aw_block ?_
  refine aw_loopM (fun s6 => ⟨updA (updA (updA ((fun _ => .dead)) 0 (.d (.sl (List.map cMonth_ p0)))) 3 (.own 3 0 (s6.2).length)) 4 (.d (.v (.int .i64 s6.1))), lks [.no, .no, .no, .live [⟨147, 3, .data (List.map cMonth_ s6.2)⟩]]⟩) h1 ?_ (fun s6 y h2 => ?_)
  exact wk [0, 1, 2, 3]
  refine aw_seq ?_
  refine sq [0,1,2,3] ?_
  refine pm ?_
  refine pm ?_
  refine rp rfl w0 rfl (pu_len_map tok rfl rfl rfl) ?_
  refine rp rfl w0 rfl (pu_lss rfl rfl) ?_
  refine nx ?_
  refine aw_if h2 rfl (fun hc h2 => ?_) (fun hc h2 => ?_)
  refine sk ?_
  refine aw_seq ?_
  refine aw_block ?_
  refine sr [0,1,2,3,4,5,6,7,8] ?_
  refine rp rfl w0 rfl (pu_move (r := .own _ _ _) rfl) ?_
  iterate 3 refine pm ?_
  obtain ⟨v7, hv7, h2⟩ := bnd h2
  refine rp rfl w0 rfl (sl_ix tok hv7 rfl rfl rfl rfl rfl rfl) ?_
  refine rp rfl w0 rfl (pu_load_refN tok rfl rfl rfl (by repeat (first | exact SegD.z _ | apply SegD.t))) ?_
  obtain ⟨v8, hv8, h2⟩ := bnd h2
  refine rs rfl w0 rfl (c_call 4 (l_toMonth_c hv8) rfl rfl rfl) ?_
  obtain ⟨v9, hv9, h2⟩ := bnd h2
  refine rl rfl w0 rfl (ow_ix tok hv9 rfl rfl rfl rfl rfl rfl rfl rfl) ?_
  refine rw0 rfl w0 (rw_st (cs := _ :: _) tok v8 (atI_e hv9).2.1 rfl rfl rfl rfl rfl rfl rfl rfl) ?_
  refine ra_nil ?_
  refine block_n ?_
  refine then_n ?_
  refine sr [0,1,2] ?_
  refine pm ?_
  refine rp rfl w0 rfl (pw_add rfl rfl) ?_
  refine pa ?_
  refine ra_nil ?_
  refine loop_n ?_
  cases h2
  refine ⟨_, rfl, ?_⟩
  exact wk [0, 1, 2, 3]
  refine aw_exit ?_
  refine then_e ?_
  cases h2
  refine loop_x ⟨_, rfl, fun e => ?_⟩
  subst e
  refine block_hit ?_
  refine then_n ?_
  exact wk [0, 1, 2, 3]
  refine sq [0,1] ?_
  refine rp rfl w0 rfl (pu_move (r := .own _ _ _) rfl) ?_
  refine rp rfl w0 rfl (pu_assign (r := .own _ _ _) rfl) ?_
  refine nx ?_
  refine aw_ret ?_
  cases h0
  exact retK_ (rs := [.tmp 2]) [3] rfl

theorem l_toLeapRule_c {p0 : LeapRule_} {r : LeapRule_} (h0 : l_toLeapRule_m p0 = some r) : FnC Tryz.prog 194 [] [.agg [.d (.v (.int .i64 p0.Every)), .d (.v (.int .i64 p0.Rest)), .d (.v (.bool p0.Leap))]] [] (.agg [.d (.v (.int .i64 r.Every)), .d (.v (.int .i64 r.Rest)), .d (.v (.bool r.Leap))]) := by
  refine fnc_intro (T := tt) (N := 14) tok Tryz.func194 rfl rfl (by kernel_rfl) rfl rfl ?_
  unfold l_toLeapRule_m at h0
  refine sq [0,1] ?_
  refine rs rfl w0 rfl (st_box 3 (cs := _ :: _) rfl rfl rfl) ?_
  refine rs rfl w0 rfl (st_alloc 4 (cs := [.d (.v (.int .i64 0)), .d (.v (.int .i64 0)), .d (.v (.bool false))]) tok rfl rfl rfl) ?_
  refine nx ?_
  refine sq [0] ?_
  refine rs rfl w0 rfl (st_alloc 5 (cs := [.d (.v (.int .i64 0)), .d (.v (.int .i64 0)), .d (.v (.bool false))]) tok rfl rfl rfl) ?_
  refine nx ?_
  refine sq [0,1,2,3] ?_
  refine fa tok ?_
  refine ld tok ?_
  refine fa tok ?_
  refine rw0 rfl w0 (bx_st (cs := [.d _]) tok rfl rfl rfl rfl rfl rfl rfl) ?_
  refine nx ?_
  refine sq [0,1,2,3] ?_
  refine fa tok ?_
  refine ld tok ?_
  refine fa tok ?_
  refine rw0 rfl w0 (bx_st (cs := [.d _]) tok rfl rfl rfl rfl rfl rfl rfl) ?_
  refine nx ?_
  refine sq [0,1,2,3] ?_
  refine fa tok ?_
  refine ld tok ?_
  refine fa tok ?_
  refine rw0 rfl w0 (bx_st (cs := [.d _]) tok rfl rfl rfl rfl rfl rfl rfl) ?_
  refine nx ?_
  refine sq [0,1] ?_
  refine rl rfl w0 rfl (bx_ldN tok rfl rfl rfl rfl) ?_
  refine rw0 rfl w0 (bx_st (cs := _ :: _) tok rfl rfl rfl rfl rfl rfl rfl) ?_
  refine nx ?_
  refine aw_ret ?_
  cases h0
  exact ret0_ (rs := [.cell 2 179]) rfl

theorem l_toLeapRuleS_c {p0 : List LeapRule_} {r : List LeapRule_} (h0 : l_toLeapRuleS_m p0 = some r) : FnC Tryz.prog 133 [] [.d (.sl (List.map cLeapRule_ p0))] [.live [⟨179, 3, .data (List.map cLeapRule_ r)⟩]] (.own 0 0 r.length) := by
  refine fnc_intro (T := tt) (N := 23) tok Tryz.func133 rfl rfl (by kernel_rfl) rfl rfl ?_
  unfold l_toLeapRuleS_m at h0
  refine sq [0] ?_
  refine pa ?_
  refine nx ?_
  refine sq [0,1,2,3] ?_
  refine pm ?_
  refine rp rfl w0 rfl (pu_len_map tok rfl rfl rfl) ?_
  obtain ⟨hq1, h0⟩ := chk_e h0
  refine rs rfl w0 rfl (mk_own 3 tok (c := cLeapRule_) (⟨0, 0, false⟩ : LeapRule_) hq1 rfl rfl rfl rfl rfl rfl rfl rfl rfl rfl rfl rfl rfl) ?_
  refine rp rfl w0 rfl (pu_assign (r := .own _ _ _) rfl) ?_
  refine nx ?_
  obtain ⟨v10, h1, h0⟩ := bnd h0
  refine aw_cut ⟨updA ((fun _ => .dead)) 3 (.own 3 0 (v10).length), lks [.no, .no, .no, .live [⟨179, 3, .data (List.map cLeapRule_ v10)⟩]]⟩ ?_ ?_
  refine sq [0] ?_
  refine pa ?_
  refine nx ?_
  refine aw_block ?_
  refine aw_loopM (fun s6 => ⟨updA (updA (updA ((fun _ => .dead)) 0 (.d (.sl (List.map cLeapRule_ p0)))) 3 (.own 3 0 (s6.2).length)) 4 (.d (.v (.int .i64 s6.1))), lks [.no, .no, .no, .live [⟨179, 3, .data (List.map cLeapRule_ s6.2)⟩]]⟩) h1 ?_ (fun s6 y h2 => ?_)
  exact wk [0, 1, 2, 3]
  refine aw_seq ?_
  refine sq [0,1,2,3] ?_
  refine pm ?_
  refine pm ?_
  refine rp rfl w0 rfl (pu_len_map tok rfl rfl rfl) ?_
  refine rp rfl w0 rfl (pu_lss rfl rfl) ?_
  refine nx ?_
  refine aw_if h2 rfl (fun hc h2 => ?_) (fun hc h2 => ?_)
  refine sk ?_
  refine aw_seq ?_
  refine aw_block ?_
  refine sr [0,1,2,3,4,5,6,7,8] ?_
  refine rp rfl w0 rfl (pu_move (r := .own _ _ _) rfl) ?_
  iterate 3 refine pm ?_
  obtain ⟨v7, hv7, h2⟩ := bnd h2
  refine rp rfl w0 rfl (sl_ix tok hv7 rfl rfl rfl rfl rfl rfl) ?_
  refine rp rfl w0 rfl (pu_load_refN tok rfl rfl rfl (by repeat (first | exact SegD.z _ | apply SegD.t))) ?_
  obtain ⟨v8, hv8, h2⟩ := bnd h2
  refine rs rfl w0 rfl (c_call 4 (l_toLeapRule_c hv8) rfl rfl rfl) ?_
  obtain ⟨v9, hv9, h2⟩ := bnd h2
  refine rl rfl w0 rfl (ow_ix tok hv9 rfl rfl rfl rfl rfl rfl rfl rfl) ?_
  refine rw0 rfl w0 (rw_st (cs := _ :: _) tok v8 (atI_e hv9).2.1 rfl rfl rfl rfl rfl rfl rfl rfl) ?_
  refine ra_nil ?_
  refine block_n ?_
  refine then_n ?_
  refine sr [0,1,2] ?_
  refine pm ?_
  refine rp rfl w0 rfl (pw_add rfl rfl) ?_
  refine pa ?_
  refine ra_nil ?_
  refine loop_n ?_
  cases h2
  refine ⟨_, rfl, ?_⟩
  exact wk [0, 1, 2, 3]
  refine aw_exit ?_
  refine then_e ?_
  cases h2
  refine loop_x ⟨_, rfl, fun e => ?_⟩
  subst e
  refine block_hit ?_
  refine then_n ?_
  exact wk [0, 1, 2, 3]
  refine sq [0,1] ?_
  refine rp rfl w0 rfl (pu_move (r := .own _ _ _) rfl) ?_
  refine rp rfl w0 rfl (pu_assign (r := .own _ _ _) rfl) ?_
  refine nx ?_
  refine aw_ret ?_
  cases h0
  exact retK_ (rs := [.tmp 2]) [3] rfl

theorem l_toCalendar_c {p0 : Calendar_} {r : Calendar_} (h0 : l_toCalendar_m p0 = some r) : FnC Tryz.prog 74 [] [.agg [.d (.v (.string p0.Name)), .d (.sl (List.map cMonth_ p0.Months)), .d (.sl (List.map cLeapRule_ p0.Rules)), .d (.v (.int .i64 p0.Week))]] [.live [⟨147, 3, .data (List.map cMonth_ r.Months)⟩], .live [⟨179, 3, .data (List.map cLeapRule_ r.Rules)⟩]] (.agg [.d (.v (.string r.Name)), .own 0 0 r.Months.length, .own 1 0 r.Rules.length, .d (.v (.int .i64 r.Week))]) := by
  refine fnc_intro (T := tt) (N := 19) tok Tryz.func74 rfl rfl (by kernel_rfl) rfl rfl ?_
  unfold l_toCalendar_m at h0
  refine sq [0,1] ?_
  refine rs rfl w0 rfl (st_box 3 (cs := _ :: _) rfl rfl rfl) ?_
  refine rs rfl w0 rfl (st_alloc 4 (cs := [.d (.v (.string (⟨#[]⟩ : ByteArray))), .d (.v (.slice none 0 0)), .d (.v (.slice none 0 0)), .d (.v (.int .i64 0))]) tok rfl rfl rfl) ?_
  refine nx ?_
  refine sq [0] ?_
  refine rs rfl w0 rfl (st_alloc 5 (cs := [.d (.v (.string (⟨#[]⟩ : ByteArray))), .d (.v (.slice none 0 0)), .d (.v (.slice none 0 0)), .d (.v (.int .i64 0))]) tok rfl rfl rfl) ?_
  refine nx ?_
  refine sq [0,1,2,3] ?_
  refine fa tok ?_
  refine ld tok ?_
  refine fa tok ?_
  refine rw0 rfl w0 (bx_st (cs := [.d _]) tok rfl rfl rfl rfl rfl rfl rfl) ?_
  refine nx ?_
  refine sq [0,1,2,3,4] ?_
  refine fa tok ?_
  refine ld tok ?_
  obtain ⟨v1, hv1, h0⟩ := bnd h0
  refine rs rfl w0 rfl (c_call 6 (l_toMonthS_c hv1) rfl rfl rfl) ?_
  refine fa tok ?_
  refine rw0 rfl w0 (bx_st (cs := [.own _ _ _]) tok rfl rfl rfl rfl rfl rfl rfl) ?_
  refine nx ?_
  refine sq [0,1,2,3,4] ?_
  refine fa tok ?_
  refine ld tok ?_
  obtain ⟨v2, hv2, h0⟩ := bnd h0
  refine rs rfl w0 rfl (c_call 7 (l_toLeapRuleS_c hv2) rfl rfl rfl) ?_
  refine fa tok ?_
  refine rw0 rfl w0 (bx_st (cs := [.own _ _ _]) tok rfl rfl rfl rfl rfl rfl rfl) ?_
  refine nx ?_
  refine sq [0,1,2,3] ?_
  refine fa tok ?_
  refine ld tok ?_
  refine fa tok ?_
  refine rw0 rfl w0 (bx_st (cs := [.d _]) tok rfl rfl rfl rfl rfl rfl rfl) ?_
  refine nx ?_
  refine sq [0,1] ?_
  refine rl rfl w0 rfl (bx_ldN tok rfl rfl rfl rfl) ?_
  refine rw0 rfl w0 (bx_st (cs := _ :: _) tok rfl rfl rfl rfl rfl rfl rfl) ?_
  refine nx ?_
  refine aw_ret ?_
  cases h0
  exact retK_ (rs := [.cell 2 47]) [6, 7] rfl

theorem l_toMovement_c {p0 : Movement_} {r : Movement_} (h0 : l_toMovement_m p0 = some r) : FnC Tryz.prog 32 [] [.agg [.d (.v (.string p0.Name)), .d (.sl (List.map cArbor_ p0.Works.Arbors)), .d (.sl (List.map cMesh_ p0.Works.Meshes)), .d (.v (.int .i64 p0.Minute)), .d (.v (.int .i64 p0.Hour)), .d (.v (.int .i64 p0.Escape)), .d (.v (.int .i64 p0.Teeth)), .d (.v (.int .i64 p0.Beats)), .d (.v (.string p0.Calendar.Name)), .d (.sl (List.map cMonth_ p0.Calendar.Months)), .d (.sl (List.map cLeapRule_ p0.Calendar.Rules)), .d (.v (.int .i64 p0.Calendar.Week)), .d (.sl (List.map cI p0.Cam)), .d (.v (.int .i64 p0.Strike))]] [.live [⟨213, 2, .av (nestL 1 cArbor_ r.Works.Arbors)⟩], .live (famL 2 1 cArbor_ r.Works.Arbors), .live [⟨215, 4, .data (List.map cMesh_ r.Works.Meshes)⟩], .live [⟨147, 3, .data (List.map cMonth_ r.Calendar.Months)⟩], .live [⟨179, 3, .data (List.map cLeapRule_ r.Calendar.Rules)⟩], .live [⟨2, 1, .data (List.map cI r.Cam)⟩]] (.agg [.d (.v (.string r.Name)), .own 0 0 r.Works.Arbors.length, .own 2 0 r.Works.Meshes.length, .d (.v (.int .i64 r.Minute)), .d (.v (.int .i64 r.Hour)), .d (.v (.int .i64 r.Escape)), .d (.v (.int .i64 r.Teeth)), .d (.v (.int .i64 r.Beats)), .d (.v (.string r.Calendar.Name)), .own 3 0 r.Calendar.Months.length, .own 4 0 r.Calendar.Rules.length, .d (.v (.int .i64 r.Calendar.Week)), .own 5 0 r.Cam.length, .d (.v (.int .i64 r.Strike))]) := by
  refine fnc_intro (T := tt) (N := 38) tok Tryz.func32 rfl rfl (by kernel_rfl) rfl rfl ?_
  unfold l_toMovement_m at h0
  refine sq [0,1] ?_
  refine rs rfl w0 rfl (st_box 3 (cs := _ :: _) rfl rfl rfl) ?_
  refine rs rfl w0 rfl (st_alloc 4 (cs := [.d (.v (.string (⟨#[]⟩ : ByteArray))), .d (.v (.slice none 0 0)), .d (.v (.slice none 0 0)), .d (.v (.int .i64 0)), .d (.v (.int .i64 0)), .d (.v (.int .i64 0)), .d (.v (.int .i64 0)), .d (.v (.int .i64 0)), .d (.v (.string (⟨#[]⟩ : ByteArray))), .d (.v (.slice none 0 0)), .d (.v (.slice none 0 0)), .d (.v (.int .i64 0)), .d (.v (.slice none 0 0)), .d (.v (.int .i64 0))]) tok rfl rfl rfl) ?_
  refine nx ?_
  refine sq [0] ?_
  refine rs rfl w0 rfl (st_alloc 5 (cs := [.d (.v (.string (⟨#[]⟩ : ByteArray))), .d (.v (.slice none 0 0)), .d (.v (.slice none 0 0)), .d (.v (.int .i64 0)), .d (.v (.int .i64 0)), .d (.v (.int .i64 0)), .d (.v (.int .i64 0)), .d (.v (.int .i64 0)), .d (.v (.string (⟨#[]⟩ : ByteArray))), .d (.v (.slice none 0 0)), .d (.v (.slice none 0 0)), .d (.v (.int .i64 0)), .d (.v (.slice none 0 0)), .d (.v (.int .i64 0))]) tok rfl rfl rfl) ?_
  refine nx ?_
  refine sq [0,1,2,3] ?_
  refine fa tok ?_
  refine ld tok ?_
  refine fa tok ?_
  refine rw0 rfl w0 (bx_st (cs := [.d _]) tok rfl rfl rfl rfl rfl rfl rfl) ?_
  refine nx ?_
  refine sq [0,1,2,3,4] ?_
  refine fa tok ?_
  refine rl rfl w0 rfl (bx_ldN tok rfl rfl rfl rfl) ?_
  obtain ⟨v1, hv1, h0⟩ := bnd h0
  refine rs rfl w0 rfl (c_call 6 (l_toWorks_c hv1) rfl rfl rfl) ?_
  refine fa tok ?_
  refine rw0 rfl w0 (bx_st (cs := _ :: _) tok rfl rfl rfl rfl rfl rfl rfl) ?_
  refine nx ?_
  refine sq [0,1,2,3] ?_
  refine fa tok ?_
  refine ld tok ?_
  refine fa tok ?_
  refine rw0 rfl w0 (bx_st (cs := [.d _]) tok rfl rfl rfl rfl rfl rfl rfl) ?_
  refine nx ?_
  refine sq [0,1,2,3] ?_
  refine fa tok ?_
  refine ld tok ?_
  refine fa tok ?_
  refine rw0 rfl w0 (bx_st (cs := [.d _]) tok rfl rfl rfl rfl rfl rfl rfl) ?_
  refine nx ?_
  refine sq [0,1,2,3] ?_
  refine fa tok ?_
  refine ld tok ?_
  refine fa tok ?_
  refine rw0 rfl w0 (bx_st (cs := [.d _]) tok rfl rfl rfl rfl rfl rfl rfl) ?_
  refine nx ?_
  refine sq [0,1,2,3] ?_
  refine fa tok ?_
  refine ld tok ?_
  refine fa tok ?_
  refine rw0 rfl w0 (bx_st (cs := [.d _]) tok rfl rfl rfl rfl rfl rfl rfl) ?_
  refine nx ?_
  refine sq [0,1,2,3] ?_
  refine fa tok ?_
  refine ld tok ?_
  refine fa tok ?_
  refine rw0 rfl w0 (bx_st (cs := [.d _]) tok rfl rfl rfl rfl rfl rfl rfl) ?_
  refine nx ?_
  refine sq [0,1,2,3,4] ?_
  refine fa tok ?_
  refine rl rfl w0 rfl (bx_ldN tok rfl rfl rfl rfl) ?_
  obtain ⟨v2, hv2, h0⟩ := bnd h0
  refine rs rfl w0 rfl (c_call 9 (l_toCalendar_c hv2) rfl rfl rfl) ?_
  refine fa tok ?_
  refine rw0 rfl w0 (bx_st (cs := _ :: _) tok rfl rfl rfl rfl rfl rfl rfl) ?_
  refine nx ?_
  refine sq [0,1,2,3,4] ?_
  refine fa tok ?_
  refine ld tok ?_
  obtain ⟨v3, hv3, h0⟩ := bnd h0
  refine rs rfl w0 rfl (c_call 11 (l_toInt64S_c hv3) rfl rfl rfl) ?_
  refine fa tok ?_
  refine rw0 rfl w0 (bx_st (cs := [.own _ _ _]) tok rfl rfl rfl rfl rfl rfl rfl) ?_
  refine nx ?_
  refine sq [0,1,2,3] ?_
  refine fa tok ?_
  refine ld tok ?_
  refine fa tok ?_
  refine rw0 rfl w0 (bx_st (cs := [.d _]) tok rfl rfl rfl rfl rfl rfl rfl) ?_
  refine nx ?_
  refine sq [0,1] ?_
  refine rl rfl w0 rfl (bx_ldN tok rfl rfl rfl rfl) ?_
  refine rw0 rfl w0 (bx_st (cs := _ :: _) tok rfl rfl rfl rfl rfl rfl rfl) ?_
  refine nx ?_
  refine aw_ret ?_
  cases h0
  exact retK_ (rs := [.cell 2 49]) [6, 7, 8, 9, 10, 11] rfl

theorem l_toDate_c {p0 : Date_} {r : Date_} (h0 : l_toDate_m p0 = some r) : FnC Tryz.prog 33 [] [.agg [.d (.v (.int .i64 p0.Year)), .d (.v (.int .i64 p0.Month)), .d (.v (.int .i64 p0.Day))]] [] (.agg [.d (.v (.int .i64 r.Year)), .d (.v (.int .i64 r.Month)), .d (.v (.int .i64 r.Day))]) := by
  refine fnc_intro (T := tt) (N := 14) tok Tryz.func33 rfl rfl (by kernel_rfl) rfl rfl ?_
  unfold l_toDate_m at h0
  refine sq [0,1] ?_
  refine rs rfl w0 rfl (st_box 3 (cs := _ :: _) rfl rfl rfl) ?_
  refine rs rfl w0 rfl (st_alloc 4 (cs := [.d (.v (.int .i64 0)), .d (.v (.int .i64 0)), .d (.v (.int .i64 0))]) tok rfl rfl rfl) ?_
  refine nx ?_
  refine sq [0] ?_
  refine rs rfl w0 rfl (st_alloc 5 (cs := [.d (.v (.int .i64 0)), .d (.v (.int .i64 0)), .d (.v (.int .i64 0))]) tok rfl rfl rfl) ?_
  refine nx ?_
  refine sq [0,1,2,3] ?_
  refine fa tok ?_
  refine ld tok ?_
  refine fa tok ?_
  refine rw0 rfl w0 (bx_st (cs := [.d _]) tok rfl rfl rfl rfl rfl rfl rfl) ?_
  refine nx ?_
  refine sq [0,1,2,3] ?_
  refine fa tok ?_
  refine ld tok ?_
  refine fa tok ?_
  refine rw0 rfl w0 (bx_st (cs := [.d _]) tok rfl rfl rfl rfl rfl rfl rfl) ?_
  refine nx ?_
  refine sq [0,1,2,3] ?_
  refine fa tok ?_
  refine ld tok ?_
  refine fa tok ?_
  refine rw0 rfl w0 (bx_st (cs := [.d _]) tok rfl rfl rfl rfl rfl rfl rfl) ?_
  refine nx ?_
  refine sq [0,1] ?_
  refine rl rfl w0 rfl (bx_ldN tok rfl rfl rfl rfl) ?_
  refine rw0 rfl w0 (bx_st (cs := _ :: _) tok rfl rfl rfl rfl rfl rfl rfl) ?_
  refine nx ?_
  refine aw_ret ?_
  cases h0
  exact ret0_ (rs := [.cell 2 50]) rfl

theorem l_toPerpetual_c {p0 : Perpetual_} {r : Perpetual_} (h0 : l_toPerpetual_m p0 = some r) : FnC Tryz.prog 34 [] [.agg [.d (.sl (List.map cI p0.Cam)), .d (.v (.int .i64 p0.Months)), .d (.v (.int .i64 p0.Teeth)), .d (.v (.int .i64 p0.At)), .d (.v (.int .i64 p0.Day)), .d (.v (.int .i64 p0.Week)), .d (.v (.int .i64 p0.Weekday))]] [.live [⟨2, 1, .data (List.map cI r.Cam)⟩]] (.agg [.own 0 0 r.Cam.length, .d (.v (.int .i64 r.Months)), .d (.v (.int .i64 r.Teeth)), .d (.v (.int .i64 r.At)), .d (.v (.int .i64 r.Day)), .d (.v (.int .i64 r.Week)), .d (.v (.int .i64 r.Weekday))]) := by
  refine fnc_intro (T := tt) (N := 27) tok Tryz.func34 rfl rfl (by kernel_rfl) rfl rfl ?_
  unfold l_toPerpetual_m at h0
  refine sq [0,1] ?_
  refine rs rfl w0 rfl (st_box 3 (cs := _ :: _) rfl rfl rfl) ?_
  refine rs rfl w0 rfl (st_alloc 4 (cs := [.d (.v (.slice none 0 0)), .d (.v (.int .i64 0)), .d (.v (.int .i64 0)), .d (.v (.int .i64 0)), .d (.v (.int .i64 0)), .d (.v (.int .i64 0)), .d (.v (.int .i64 0))]) tok rfl rfl rfl) ?_
  refine nx ?_
  refine sq [0] ?_
  refine rs rfl w0 rfl (st_alloc 5 (cs := [.d (.v (.slice none 0 0)), .d (.v (.int .i64 0)), .d (.v (.int .i64 0)), .d (.v (.int .i64 0)), .d (.v (.int .i64 0)), .d (.v (.int .i64 0)), .d (.v (.int .i64 0))]) tok rfl rfl rfl) ?_
  refine nx ?_
  refine sq [0,1,2,3,4] ?_
  refine fa tok ?_
  refine ld tok ?_
  obtain ⟨v1, hv1, h0⟩ := bnd h0
  refine rs rfl w0 rfl (c_call 6 (l_toInt64S_c hv1) rfl rfl rfl) ?_
  refine fa tok ?_
  refine rw0 rfl w0 (bx_st (cs := [.own _ _ _]) tok rfl rfl rfl rfl rfl rfl rfl) ?_
  refine nx ?_
  refine sq [0,1,2,3] ?_
  refine fa tok ?_
  refine ld tok ?_
  refine fa tok ?_
  refine rw0 rfl w0 (bx_st (cs := [.d _]) tok rfl rfl rfl rfl rfl rfl rfl) ?_
  refine nx ?_
  refine sq [0,1,2,3] ?_
  refine fa tok ?_
  refine ld tok ?_
  refine fa tok ?_
  refine rw0 rfl w0 (bx_st (cs := [.d _]) tok rfl rfl rfl rfl rfl rfl rfl) ?_
  refine nx ?_
  refine sq [0,1,2,3] ?_
  refine fa tok ?_
  refine ld tok ?_
  refine fa tok ?_
  refine rw0 rfl w0 (bx_st (cs := [.d _]) tok rfl rfl rfl rfl rfl rfl rfl) ?_
  refine nx ?_
  refine sq [0,1,2,3] ?_
  refine fa tok ?_
  refine ld tok ?_
  refine fa tok ?_
  refine rw0 rfl w0 (bx_st (cs := [.d _]) tok rfl rfl rfl rfl rfl rfl rfl) ?_
  refine nx ?_
  refine sq [0,1,2,3] ?_
  refine fa tok ?_
  refine ld tok ?_
  refine fa tok ?_
  refine rw0 rfl w0 (bx_st (cs := [.d _]) tok rfl rfl rfl rfl rfl rfl rfl) ?_
  refine nx ?_
  refine sq [0,1,2,3] ?_
  refine fa tok ?_
  refine ld tok ?_
  refine fa tok ?_
  refine rw0 rfl w0 (bx_st (cs := [.d _]) tok rfl rfl rfl rfl rfl rfl rfl) ?_
  refine nx ?_
  refine sq [0,1] ?_
  refine rl rfl w0 rfl (bx_ldN tok rfl rfl rfl rfl) ?_
  refine rw0 rfl w0 (bx_st (cs := _ :: _) tok rfl rfl rfl rfl rfl rfl rfl) ?_
  refine nx ?_
  refine aw_ret ?_
  cases h0
  exact retK_ (rs := [.cell 2 51]) [6] rfl

theorem l_toSim_c {p0 : Sim_} {r : Sim_} (h0 : l_toSim_m p0 = some r) : FnC Tryz.prog 9 [] [.agg [.d (.v (.string p0.Movement.Name)), .d (.sl (List.map cArbor_ p0.Movement.Works.Arbors)), .d (.sl (List.map cMesh_ p0.Movement.Works.Meshes)), .d (.v (.int .i64 p0.Movement.Minute)), .d (.v (.int .i64 p0.Movement.Hour)), .d (.v (.int .i64 p0.Movement.Escape)), .d (.v (.int .i64 p0.Movement.Teeth)), .d (.v (.int .i64 p0.Movement.Beats)), .d (.v (.string p0.Movement.Calendar.Name)), .d (.sl (List.map cMonth_ p0.Movement.Calendar.Months)), .d (.sl (List.map cLeapRule_ p0.Movement.Calendar.Rules)), .d (.v (.int .i64 p0.Movement.Calendar.Week)), .d (.sl (List.map cI p0.Movement.Cam)), .d (.v (.int .i64 p0.Movement.Strike)), .d (.v (.int .i64 p0.Start.Year)), .d (.v (.int .i64 p0.Start.Month)), .d (.v (.int .i64 p0.Start.Day)), .d (.v (.int .i64 p0.First)), .d (.v (.int .i64 p0.Clock)), .d (.sl (List.map cI p0.Dial.Cam)), .d (.v (.int .i64 p0.Dial.Months)), .d (.v (.int .i64 p0.Dial.Teeth)), .d (.v (.int .i64 p0.Dial.At)), .d (.v (.int .i64 p0.Dial.Day)), .d (.v (.int .i64 p0.Dial.Week)), .d (.v (.int .i64 p0.Dial.Weekday))]] [.live [⟨213, 2, .av (nestL 1 cArbor_ r.Movement.Works.Arbors)⟩], .live (famL 2 1 cArbor_ r.Movement.Works.Arbors), .live [⟨215, 4, .data (List.map cMesh_ r.Movement.Works.Meshes)⟩], .live [⟨147, 3, .data (List.map cMonth_ r.Movement.Calendar.Months)⟩], .live [⟨179, 3, .data (List.map cLeapRule_ r.Movement.Calendar.Rules)⟩], .live [⟨2, 1, .data (List.map cI r.Movement.Cam)⟩], .live [⟨2, 1, .data (List.map cI r.Dial.Cam)⟩]] (.agg [.d (.v (.string r.Movement.Name)), .own 0 0 r.Movement.Works.Arbors.length, .own 2 0 r.Movement.Works.Meshes.length, .d (.v (.int .i64 r.Movement.Minute)), .d (.v (.int .i64 r.Movement.Hour)), .d (.v (.int .i64 r.Movement.Escape)), .d (.v (.int .i64 r.Movement.Teeth)), .d (.v (.int .i64 r.Movement.Beats)), .d (.v (.string r.Movement.Calendar.Name)), .own 3 0 r.Movement.Calendar.Months.length, .own 4 0 r.Movement.Calendar.Rules.length, .d (.v (.int .i64 r.Movement.Calendar.Week)), .own 5 0 r.Movement.Cam.length, .d (.v (.int .i64 r.Movement.Strike)), .d (.v (.int .i64 r.Start.Year)), .d (.v (.int .i64 r.Start.Month)), .d (.v (.int .i64 r.Start.Day)), .d (.v (.int .i64 r.First)), .d (.v (.int .i64 r.Clock)), .own 6 0 r.Dial.Cam.length, .d (.v (.int .i64 r.Dial.Months)), .d (.v (.int .i64 r.Dial.Teeth)), .d (.v (.int .i64 r.Dial.At)), .d (.v (.int .i64 r.Dial.Day)), .d (.v (.int .i64 r.Dial.Week)), .d (.v (.int .i64 r.Dial.Weekday))]) := by
  refine fnc_intro (T := tt) (N := 23) tok Tryz.func9 rfl rfl (by kernel_rfl) rfl rfl ?_
  unfold l_toSim_m at h0
  refine sq [0,1] ?_
  refine rs rfl w0 rfl (st_box 3 (cs := _ :: _) rfl rfl rfl) ?_
  refine rs rfl w0 rfl (st_alloc 4 (cs := [.d (.v (.string (⟨#[]⟩ : ByteArray))), .d (.v (.slice none 0 0)), .d (.v (.slice none 0 0)), .d (.v (.int .i64 0)), .d (.v (.int .i64 0)), .d (.v (.int .i64 0)), .d (.v (.int .i64 0)), .d (.v (.int .i64 0)), .d (.v (.string (⟨#[]⟩ : ByteArray))), .d (.v (.slice none 0 0)), .d (.v (.slice none 0 0)), .d (.v (.int .i64 0)), .d (.v (.slice none 0 0)), .d (.v (.int .i64 0)), .d (.v (.int .i64 0)), .d (.v (.int .i64 0)), .d (.v (.int .i64 0)), .d (.v (.int .i64 0)), .d (.v (.int .i64 0)), .d (.v (.slice none 0 0)), .d (.v (.int .i64 0)), .d (.v (.int .i64 0)), .d (.v (.int .i64 0)), .d (.v (.int .i64 0)), .d (.v (.int .i64 0)), .d (.v (.int .i64 0))]) tok rfl rfl rfl) ?_
  refine nx ?_
  refine sq [0] ?_
  refine rs rfl w0 rfl (st_alloc 5 (cs := [.d (.v (.string (⟨#[]⟩ : ByteArray))), .d (.v (.slice none 0 0)), .d (.v (.slice none 0 0)), .d (.v (.int .i64 0)), .d (.v (.int .i64 0)), .d (.v (.int .i64 0)), .d (.v (.int .i64 0)), .d (.v (.int .i64 0)), .d (.v (.string (⟨#[]⟩ : ByteArray))), .d (.v (.slice none 0 0)), .d (.v (.slice none 0 0)), .d (.v (.int .i64 0)), .d (.v (.slice none 0 0)), .d (.v (.int .i64 0)), .d (.v (.int .i64 0)), .d (.v (.int .i64 0)), .d (.v (.int .i64 0)), .d (.v (.int .i64 0)), .d (.v (.int .i64 0)), .d (.v (.slice none 0 0)), .d (.v (.int .i64 0)), .d (.v (.int .i64 0)), .d (.v (.int .i64 0)), .d (.v (.int .i64 0)), .d (.v (.int .i64 0)), .d (.v (.int .i64 0))]) tok rfl rfl rfl) ?_
  refine nx ?_
  refine sq [0,1,2,3,4] ?_
  refine fa tok ?_
  refine rl rfl w0 rfl (bx_ldN tok rfl rfl rfl rfl) ?_
  obtain ⟨v1, hv1, h0⟩ := bnd h0
  refine rs rfl w0 rfl (c_call 6 (l_toMovement_c hv1) rfl rfl rfl) ?_
  refine fa tok ?_
  refine rw0 rfl w0 (bx_st (cs := _ :: _) tok rfl rfl rfl rfl rfl rfl rfl) ?_
  refine nx ?_
  refine sq [0,1,2,3,4] ?_
  refine fa tok ?_
  refine rl rfl w0 rfl (bx_ldN tok rfl rfl rfl rfl) ?_
  obtain ⟨v2, hv2, h0⟩ := bnd h0
  refine rs rfl w0 rfl (c_call 12 (l_toDate_c hv2) rfl rfl rfl) ?_
  refine fa tok ?_
  refine rw0 rfl w0 (bx_st (cs := _ :: _) tok rfl rfl rfl rfl rfl rfl rfl) ?_
  refine nx ?_
  refine sq [0,1,2,3] ?_
  refine fa tok ?_
  refine ld tok ?_
  refine fa tok ?_
  refine rw0 rfl w0 (bx_st (cs := [.d _]) tok rfl rfl rfl rfl rfl rfl rfl) ?_
  refine nx ?_
  refine sq [0,1,2,3] ?_
  refine fa tok ?_
  refine ld tok ?_
  refine fa tok ?_
  refine rw0 rfl w0 (bx_st (cs := [.d _]) tok rfl rfl rfl rfl rfl rfl rfl) ?_
  refine nx ?_
  refine sq [0,1,2,3,4] ?_
  refine fa tok ?_
  refine rl rfl w0 rfl (bx_ldN tok rfl rfl rfl rfl) ?_
  obtain ⟨v3, hv3, h0⟩ := bnd h0
  refine rs rfl w0 rfl (c_call 12 (l_toPerpetual_c hv3) rfl rfl rfl) ?_
  refine fa tok ?_
  refine rw0 rfl w0 (bx_st (cs := _ :: _) tok rfl rfl rfl rfl rfl rfl rfl) ?_
  refine nx ?_
  refine sq [0,1] ?_
  refine rl rfl w0 rfl (bx_ldN tok rfl rfl rfl rfl) ?_
  refine rw0 rfl w0 (bx_st (cs := _ :: _) tok rfl rfl rfl rfl rfl rfl rfl) ?_
  refine nx ?_
  refine aw_ret ?_
  cases h0
  exact retK_ (rs := [.cell 2 53]) [6, 7, 8, 9, 10, 11, 12] rfl

theorem s_l01Small_c {p0 : Int} {r : Bool} (h0 : s_l01Small_m p0 = some r) : FnC Tryz.prog 179 [] [.d (.v (.int .u8 p0))] [] (.d (.v (.bool r))) := by
  refine fnc_intro (T := tt) (N := 9) tok Tryz.func179 rfl rfl (by kernel_rfl) rfl rfl ?_
  unfold s_l01Small_m at h0
  refine sq [0] ?_
  refine pa ?_
  refine nx ?_
  refine sq [0,1,2,3,4,5,6] ?_
  refine pm ?_
  refine rp rfl w0 rfl (pu_geq rfl rfl) ?_
  refine pm ?_
  refine ra_if (u := 5) h0 rfl (fun hc h0 => ?_) (fun hc h0 => ?_)
  refine pm1 ?_
  refine rp rfl (w1 rfl rfl rfl) rfl (pu_leq rfl rfl) ?_
  refine pkt ?_
  refine pa ?_
  refine nx ?_
  refine aw_ret ?_
  cases h0
  exact ret0_ (rs := [.tmp 2]) rfl
  refine k1 ?_
  refine k1 ?_
  refine pkf ?_
  refine pa ?_
  refine nx ?_
  refine aw_ret ?_
  cases h0
  exact ret0_ (rs := [.tmp 2]) rfl

theorem s_l01Digit_c {p0 : Int} {r : Bool} (h0 : s_l01Digit_m p0 = some r) : FnC Tryz.prog 180 [] [.d (.v (.int .u8 p0))] [] (.d (.v (.bool r))) := by
  refine fnc_intro (T := tt) (N := 9) tok Tryz.func180 rfl rfl (by kernel_rfl) rfl rfl ?_
  unfold s_l01Digit_m at h0
  refine sq [0] ?_
  refine pa ?_
  refine nx ?_
  refine sq [0,1,2,3,4,5,6] ?_
  refine pm ?_
  refine rp rfl w0 rfl (pu_geq rfl rfl) ?_
  refine pm ?_
  refine ra_if (u := 5) h0 rfl (fun hc h0 => ?_) (fun hc h0 => ?_)
  refine pm1 ?_
  refine rp rfl (w1 rfl rfl rfl) rfl (pu_leq rfl rfl) ?_
  refine pkt ?_
  refine pa ?_
  refine nx ?_
  refine aw_ret ?_
  cases h0
  exact ret0_ (rs := [.tmp 2]) rfl
  refine k1 ?_
  refine k1 ?_
  refine pkf ?_
  refine pa ?_
  refine nx ?_
  refine aw_ret ?_
  cases h0
  exact ret0_ (rs := [.tmp 2]) rfl

theorem s_IsName_c {p0 : ByteArray} {r : Bool} (h0 : s_IsName_m p0 = some r) : FnC Tryz.prog 118 [] [.d (.v (.string p0))] [] (.d (.v (.bool r))) := by
  refine fnc_intro (T := tt) (N := 41) tok Tryz.func118 rfl rfl (by kernel_rfl) rfl rfl ?_
  unfold s_IsName_m at h0
  refine sq [0] ?_
  refine pa ?_
  refine nx ?_
  refine aw_seq ?_
  obtain ⟨v3, h1, h0⟩ := bnd h0
  refine aw_cut ⟨updA (updA ((fun _ => .dead)) 0 (.d (.v (.string p0)))) 16 (.d (.v (.bool v3))), lks [.no, .no, .no]⟩ ?_ ?_
  refine sr [0,1,2,3,4,5,6,7,8,9,10,11,12] ?_
  refine pm ?_
  refine rp rfl w0 rfl (pu_seql rfl rfl) ?_
  refine pm ?_
  refine ra_if (u := 6) h1 rfl (fun hc h1 => ?_) (fun hc h1 => ?_)
  iterate 3 refine k1 ?_
  refine pkt ?_
  refine pm ?_
  iterate 4 refine k1 ?_
  refine pkt ?_
  refine nx ?_
  cases h1
  exact wk [0, 1, 2]
  refine pm1 ?_
  refine rp rfl (w1 rfl rfl rfl) rfl (pu_len_str tok rfl rfl rfl) ?_
  refine rp rfl (w1 rfl rfl rfl) rfl (pu_gtr rfl rfl) ?_
  refine pkf ?_
  refine pm ?_
  refine ra_if (u := 11) h1 rfl (fun hc h1 => ?_) (fun hc h1 => ?_)
  iterate 4 refine k1 ?_
  refine pkt ?_
  refine nx ?_
  cases h1
  exact wk [0, 1, 2]
  refine pm1 ?_
  obtain ⟨v1, hv1, h1⟩ := bnd h1
  refine rp rfl (w1 rfl rfl rfl) rfl (pu_sidx tok hv1 rfl rfl rfl rfl) ?_
  obtain ⟨v2, hv2, h1⟩ := bnd h1
  refine rs rfl (w1 rfl rfl rfl) rfl (c_call 3 (s_l01Small_c hv2) rfl rfl rfl) ?_
  refine rp rfl (w1 rfl rfl rfl) rfl (pu_not rfl) ?_
  refine pkf ?_
  refine nx ?_
  cases h1
  exact wk [0, 1, 2]
  refine aw_ifB h0 rfl (fun hc h0 => ?_) (fun hc h0 => ?_)
  refine sq [0] ?_
  refine pa ?_
  refine nx ?_
  refine aw_ret ?_
  refine then_r ?_
  cases h0
  exact ret0_ (rs := [.tmp 2]) rfl
  refine sk ?_
  obtain ⟨v18x, h1, h0⟩ := bnd h0
  refine aw_cutE v18x (fun v18 => ⟨(fun _ => .dead), lks [.no, .no, .no]⟩) ?_ ?_
  refine sq [0] ?_
  refine pa ?_
  refine nx ?_
  refine aw_block ?_
  refine aw_loopM (fun s11 => ⟨updA (updA ((fun _ => .dead)) 0 (.d (.v (.string p0)))) 3 (.d (.v (.int .i64 s11))), lks [.no, .no, .no]⟩) h1 ?_ (fun s11 y h2 => ?_)
  exact wk [0, 1, 2]
  refine aw_seq ?_
  refine sq [0,1,2,3] ?_
  refine pm ?_
  refine pm ?_
  refine rp rfl w0 rfl (pu_len_str tok rfl rfl rfl) ?_
  refine rp rfl w0 rfl (pu_lss rfl rfl) ?_
  refine nx ?_
  refine aw_if h2 rfl (fun hc h2 => ?_) (fun hc h2 => ?_)
  refine sk ?_
  refine aw_seq ?_
  refine aw_block ?_
  obtain ⟨v17, h3, h2⟩ := bnd h2
  refine aw_cut ⟨updA (updA (updA ((fun _ => .dead)) 0 (.d (.v (.string p0)))) 3 (.d (.v (.int .i64 s11)))) 40 (.d (.v (.bool v17))), lks [.no, .no, .no]⟩ ?_ ?_
  refine sr [0,1,2,3,4,5,6,7,8,9,10,11,12,13,14,15,16,17] ?_
  refine pm ?_
  refine pm ?_
  obtain ⟨v12, hv12, h3⟩ := bnd h3
  refine rp rfl w0 rfl (pu_sidx tok hv12 rfl rfl rfl rfl) ?_
  obtain ⟨v13, hv13, h3⟩ := bnd h3
  refine rs rfl w0 rfl (c_call 3 (s_l01Small_c hv13) rfl rfl rfl) ?_
  refine rp rfl w0 rfl (pu_not rfl) ?_
  refine pm ?_
  refine ra_ifB (u := 28) h3 rfl (fun hc h3 => ?_) (fun hc h3 => ?_)
  refine pm1 ?_
  refine pm1 ?_
  obtain ⟨v14, hv14, h3⟩ := bnd h3
  refine rp rfl (w1 rfl rfl rfl) rfl (pu_sidx tok hv14 rfl rfl rfl rfl) ?_
  obtain ⟨v15, hv15, h3⟩ := bnd h3
  refine rs rfl (w1 rfl rfl rfl) rfl (c_call 3 (s_l01Digit_c hv15) rfl rfl rfl) ?_
  refine rp rfl (w1 rfl rfl rfl) rfl (pu_not rfl) ?_
  refine pkt ?_
  refine pm ?_
  refine ra_ifB (u := 35) h3 rfl (fun hc h3 => ?_) (fun hc h3 => ?_)
  refine pm1 ?_
  refine pm1 ?_
  obtain ⟨v16, hv16, h3⟩ := bnd h3
  refine rp rfl (w1 rfl rfl rfl) rfl (pu_sidx tok hv16 rfl rfl rfl rfl) ?_
  refine rp rfl (w1 rfl rfl rfl) rfl (pu_neq rfl rfl) ?_
  refine pkt ?_
  refine nx ?_
  cases h3
  exact wk [0, 1, 2]
  iterate 4 refine k1 ?_
  refine pkf ?_
  refine nx ?_
  cases h3
  exact wk [0, 1, 2]
  iterate 5 refine k1 ?_
  refine pkf ?_
  refine pm ?_
  iterate 4 refine k1 ?_
  refine pkf ?_
  refine nx ?_
  cases h3
  exact wk [0, 1, 2]
  refine aw_ifB h2 rfl (fun hc h2 => ?_) (fun hc h2 => ?_)
  refine sq [0] ?_
  refine pa ?_
  refine nx ?_
  refine aw_ret ?_
  refine block_r ?_
  refine then_r ?_
  cases h2
  refine loop_r ⟨_, rfl, fun e => ?_⟩
  subst e
  refine block_r ?_
  replace h0 := orE_s h0
  refine then_r ?_
  cases h0
  exact ret0_ (rs := [.tmp 2]) rfl
  refine aw_skip ?_
  refine block_n ?_
  refine then_n ?_
  refine sr [0,1,2] ?_
  refine pm ?_
  refine rp rfl w0 rfl (pw_add rfl rfl) ?_
  refine pa ?_
  refine ra_nil ?_
  refine loop_n ?_
  cases h2
  refine ⟨_, rfl, ?_⟩
  exact wk [0, 1, 2]
  refine aw_exit ?_
  refine then_e ?_
  cases h2
  refine loop_x ⟨_, rfl, fun e => ?_⟩
  subst e
  refine block_hit ?_
  refine then_n ?_
  refine ⟨_, rfl, ?_⟩
  exact wk [0, 1, 2]
  rintro v18 rfl
  replace h0 := orE_f h0
  refine sq [0] ?_
  refine pa ?_
  refine nx ?_
  refine aw_ret ?_
  cases h0
  exact ret0_ (rs := [.tmp 2]) rfl

theorem s_l00In_c {p0 : Int} {p1 : Int} {p2 : Int} {r : Bool} (h0 : s_l00In_m p0 p1 p2 = some r) : FnC Tryz.prog 47 [] [.d (.v (.int .i64 p0)), .d (.v (.int .i64 p1)), .d (.v (.int .i64 p2))] [] (.d (.v (.bool r))) := by
  refine fnc_intro (T := tt) (N := 15) tok Tryz.func47 rfl rfl (by kernel_rfl) rfl rfl ?_
  unfold s_l00In_m at h0
  refine sq [0] ?_
  refine pa ?_
  refine nx ?_
  refine sq [0,1,2,3,4,5,6,7,8] ?_
  refine pm ?_
  refine pm ?_
  refine rp rfl w0 rfl (pu_geq rfl rfl) ?_
  refine pm ?_
  refine ra_if (u := 10) h0 rfl (fun hc h0 => ?_) (fun hc h0 => ?_)
  refine pm1 ?_
  refine pm1 ?_
  refine rp rfl (w1 rfl rfl rfl) rfl (pu_leq rfl rfl) ?_
  refine pkt ?_
  refine pa ?_
  refine nx ?_
  refine aw_ret ?_
  cases h0
  exact ret0_ (rs := [.tmp 6]) rfl
  iterate 3 refine k1 ?_
  refine pkf ?_
  refine pa ?_
  refine nx ?_
  refine aw_ret ?_
  cases h0
  exact ret0_ (rs := [.tmp 6]) rfl

theorem s_l05Teeth_c {p0 : Int} {r : Bool} (h0 : s_l05Teeth_m p0 = some r) : FnC Tryz.prog 121 [] [.d (.v (.int .i64 p0))] [] (.d (.v (.bool r))) := by
  refine fnc_intro (T := tt) (N := 5) tok Tryz.func121 rfl rfl (by kernel_rfl) rfl rfl ?_
  unfold s_l05Teeth_m at h0
  refine sq [0] ?_
  refine pa ?_
  refine nx ?_
  refine sq [0,1,2] ?_
  refine pm ?_
  obtain ⟨v1, hv1, h0⟩ := bnd h0
  refine rs rfl w0 rfl (c_call 3 (s_l00In_c hv1) rfl rfl rfl) ?_
  refine pa ?_
  refine nx ?_
  refine aw_ret ?_
  cases h0
  exact ret0_ (rs := [.tmp 2]) rfl

theorem s_l08Arbor_c {p0 : Arbor_} {r : Bool} (h0 : s_l08Arbor_m p0 = some r) : FnC Tryz.prog 181 [] [.ref (cArbor_ p0)] [] (.d (.v (.bool r))) := by
  refine fnc_intro (T := tt) (N := 35) tok Tryz.func181 rfl rfl (by kernel_rfl) rfl rfl ?_
  unfold s_l08Arbor_m at h0
  refine sq [0] ?_
  refine pa ?_
  refine nx ?_
  obtain ⟨v7x, h1, h0⟩ := bnd h0
  refine aw_cutE v7x (fun v7 => ⟨updA ((fun _ => .dead)) 0 (.ref (cArbor_ p0)), lks [.no, .no, .no]⟩) ?_ ?_
  refine sq [0] ?_
  refine pa ?_
  refine nx ?_
  refine aw_block ?_
  refine aw_loopM (fun s4 => ⟨updA (updA ((fun _ => .dead)) 0 (.ref (cArbor_ p0))) 3 (.d (.v (.int .i64 s4))), lks [.no, .no, .no]⟩) h1 ?_ (fun s4 y h2 => ?_)
  exact wk [0, 1, 2]
  refine aw_seq ?_
  refine sq [0,1,2,3,4,5,6] ?_
  refine pm ?_
  refine pmr ?_
  refine nr ?_
  refine fr tok ?_
  refine lr tok ?_
  refine rp rfl w0 rfl (pu_len_map tok rfl rfl rfl) ?_
  refine rp rfl w0 rfl (pu_lss rfl rfl) ?_
  refine nx ?_
  refine aw_if h2 rfl (fun hc h2 => ?_) (fun hc h2 => ?_)
  refine sk ?_
  refine aw_seq ?_
  refine aw_block ?_
  refine sq [0,1,2,3,4,5,6,7,8] ?_
  refine pmr ?_
  refine nr ?_
  refine fr tok ?_
  refine lr tok ?_
  refine pm ?_
  obtain ⟨v5, hv5, h2⟩ := bnd h2
  refine rp rfl w0 rfl (sl_ix tok hv5 rfl rfl rfl rfl rfl rfl) ?_
  refine lr tok ?_
  obtain ⟨v6, hv6, h2⟩ := bnd h2
  refine rs rfl w0 rfl (c_call 3 (s_l05Teeth_c hv6) rfl rfl rfl) ?_
  refine rp rfl w0 rfl (pu_not rfl) ?_
  refine nx ?_
  refine aw_ifB h2 rfl (fun hc h2 => ?_) (fun hc h2 => ?_)
  refine sq [0] ?_
  refine pa ?_
  refine nx ?_
  refine aw_ret ?_
  refine block_r ?_
  refine then_r ?_
  cases h2
  refine loop_r ⟨_, rfl, fun e => ?_⟩
  subst e
  refine block_r ?_
  replace h0 := orE_s h0
  refine then_r ?_
  cases h0
  exact ret0_ (rs := [.tmp 2]) rfl
  refine aw_skip ?_
  refine block_n ?_
  refine then_n ?_
  refine sr [0,1,2] ?_
  refine pm ?_
  refine rp rfl w0 rfl (pw_add rfl rfl) ?_
  refine pa ?_
  refine ra_nil ?_
  refine loop_n ?_
  cases h2
  refine ⟨_, rfl, ?_⟩
  exact wk [0, 1, 2]
  refine aw_exit ?_
  refine then_e ?_
  cases h2
  refine loop_x ⟨_, rfl, fun e => ?_⟩
  subst e
  refine block_hit ?_
  refine then_n ?_
  refine ⟨_, rfl, ?_⟩
  exact wk [0, 1, 2]
  rintro v7 rfl
  replace h0 := orE_f h0
  refine sq [0,1,2,3,4,5,6,7,8,9,10,11,12,13] ?_
  refine pmr ?_
  refine nr ?_
  refine fr tok ?_
  refine lr tok ?_
  obtain ⟨v8, hv8, h0⟩ := bnd h0
  refine rs rfl w0 rfl (c_call 3 (s_IsName_c hv8) rfl rfl rfl) ?_
  refine pm ?_
  refine ra_ifB (u := 27) h0 rfl (fun hc h0 => ?_) (fun hc h0 => ?_)
  refine pmr1 ?_
  refine nr1 ?_
  refine fr1 tok ?_
  refine lr1 tok ?_
  refine rp rfl (w1 rfl rfl rfl) rfl (pu_len_map tok rfl rfl rfl) ?_
  refine rp rfl (w1 rfl rfl rfl) rfl (pu_leq rfl rfl) ?_
  refine pkt ?_
  refine pa ?_
  refine nx ?_
  refine aw_ret ?_
  cases h0
  exact ret0_ (rs := [.tmp 2]) rfl
  iterate 6 refine k1 ?_
  refine pkf ?_
  refine pa ?_
  refine nx ?_
  refine aw_ret ?_
  cases h0
  exact ret0_ (rs := [.tmp 2]) rfl

theorem s_l08Find_c {p0 : Works_} {p1 : ByteArray} {r : Int} (h0 : s_l08Find_m p0 p1 = some r) : FnC Tryz.prog 182 [] [.ref (cWorks_ p0), .d (.v (.string p1))] [] (.d (.v (.int .i64 r))) := by
  refine fnc_intro (T := tt) (N := 26) tok Tryz.func182 rfl rfl (by kernel_rfl) rfl rfl ?_
  unfold s_l08Find_m at h0
  refine sq [0] ?_
  refine pa ?_
  refine nx ?_
  obtain ⟨v5x, h1, h0⟩ := bnd h0
  refine aw_cutE v5x (fun v5 => ⟨(fun _ => .dead), lks [.no, .no, .no]⟩) ?_ ?_
  refine sq [0] ?_
  refine pa ?_
  refine nx ?_
  refine aw_block ?_
  refine aw_loopM (fun s3 => ⟨updA (updA (updA ((fun _ => .dead)) 0 (.ref (cWorks_ p0))) 1 (.d (.v (.string p1)))) 5 (.d (.v (.int .i64 s3))), lks [.no, .no, .no]⟩) h1 ?_ (fun s3 y h2 => ?_)
  exact wk [0, 1, 2]
  refine aw_seq ?_
  refine sq [0,1,2,3,4,5,6] ?_
  refine pm ?_
  refine pmr ?_
  refine nr ?_
  refine fr tok ?_
  refine lr tok ?_
  refine rp rfl w0 rfl (pu_len_map tok rfl rfl rfl) ?_
  refine rp rfl w0 rfl (pu_lss rfl rfl) ?_
  refine nx ?_
  refine aw_if h2 rfl (fun hc h2 => ?_) (fun hc h2 => ?_)
  refine sk ?_
  refine aw_seq ?_
  refine aw_block ?_
  refine sq [0,1,2,3,4,5,6,7,8,9] ?_
  refine pmr ?_
  refine nr ?_
  refine fr tok ?_
  refine lr tok ?_
  refine pm ?_
  obtain ⟨v4, hv4, h2⟩ := bnd h2
  refine rp rfl w0 rfl (sl_ix tok hv4 rfl rfl rfl rfl rfl rfl) ?_
  refine fr tok ?_
  refine lr tok ?_
  refine pm ?_
  refine rp rfl w0 rfl (pu_seql rfl rfl) ?_
  refine nx ?_
  refine aw_if h2 rfl (fun hc h2 => ?_) (fun hc h2 => ?_)
  refine sq [0,1] ?_
  refine pm ?_
  refine pa ?_
  refine nx ?_
  refine aw_ret ?_
  refine block_r ?_
  refine then_r ?_
  cases h2
  refine loop_r ⟨_, rfl, fun e => ?_⟩
  subst e
  refine block_r ?_
  replace h0 := orE_s h0
  refine then_r ?_
  cases h0
  exact ret0_ (rs := [.tmp 4]) rfl
  refine aw_skip ?_
  refine block_n ?_
  refine then_n ?_
  refine sr [0,1,2] ?_
  refine pm ?_
  refine rp rfl w0 rfl (pw_add rfl rfl) ?_
  refine pa ?_
  refine ra_nil ?_
  refine loop_n ?_
  cases h2
  refine ⟨_, rfl, ?_⟩
  exact wk [0, 1, 2]
  refine aw_exit ?_
  refine then_e ?_
  cases h2
  refine loop_x ⟨_, rfl, fun e => ?_⟩
  subst e
  refine block_hit ?_
  refine then_n ?_
  refine ⟨_, rfl, ?_⟩
  exact wk [0, 1, 2]
  rintro v5 rfl
  replace h0 := orE_f h0
  refine sq [0] ?_
  refine pa ?_
  refine nx ?_
  refine aw_ret ?_
  cases h0
  exact ret0_ (rs := [.tmp 4]) rfl

theorem s_l08Wheel_c {p0 : Works_} {p1 : Int} {p2 : Int} {r : Bool} (h0 : s_l08Wheel_m p0 p1 p2 = some r) : FnC Tryz.prog 227 [] [.ref (cWorks_ p0), .d (.v (.int .i64 p1)), .d (.v (.int .i64 p2))] [] (.d (.v (.bool r))) := by
  refine fnc_intro (T := tt) (N := 29) tok Tryz.func227 rfl rfl (by kernel_rfl) rfl rfl ?_
  unfold s_l08Wheel_m at h0
  refine sq [0] ?_
  refine pa ?_
  refine nx ?_
  refine sq [0,1,2,3,4,5,6,7,8,9,10,11,12,13,14,15,16,17,18,19,20,21,22] ?_
  refine pm ?_
  refine pmr ?_
  refine nr ?_
  refine fr tok ?_
  refine lr tok ?_
  refine rp rfl w0 rfl (pu_len_map tok rfl rfl rfl) ?_
  refine rp rfl w0 rfl (pw_sub rfl rfl) ?_
  obtain ⟨v1, hv1, h0⟩ := bnd h0
  refine rs rfl w0 rfl (c_call 3 (s_l00In_c hv1) rfl rfl rfl) ?_
  refine pm ?_
  refine ra_ifB (u := 15) h0 rfl (fun hc h0 => ?_) (fun hc h0 => ?_)
  refine pm1 ?_
  refine pmr1 ?_
  refine nr1 ?_
  refine fr1 tok ?_
  refine lr1 tok ?_
  refine pm1 ?_
  obtain ⟨v2, hv2, h0⟩ := bnd h0
  refine rp rfl (w1 rfl rfl rfl) rfl (sl_ix tok hv2 rfl rfl rfl rfl rfl rfl) ?_
  refine fr1 tok ?_
  refine lr1 tok ?_
  refine rp rfl (w1 rfl rfl rfl) rfl (pu_len_map tok rfl rfl rfl) ?_
  refine rp rfl (w1 rfl rfl rfl) rfl (pw_sub rfl rfl) ?_
  obtain ⟨v3, hv3, h0⟩ := bnd h0
  refine rs rfl (w1 rfl rfl rfl) rfl (c_call 3 (s_l00In_c hv3) rfl rfl rfl) ?_
  refine pkt ?_
  refine pa ?_
  refine nx ?_
  refine aw_ret ?_
  cases h0
  exact ret0_ (rs := [.tmp 6]) rfl
  iterate 12 refine k1 ?_
  refine pkf ?_
  refine pa ?_
  refine nx ?_
  refine aw_ret ?_
  cases h0
  exact ret0_ (rs := [.tmp 6]) rfl

theorem s_l08Mesh_c {p0 : Works_} {p1 : Mesh_} {r : Bool} (h0 : s_l08Mesh_m p0 p1 = some r) : FnC Tryz.prog 183 [] [.ref (cWorks_ p0), .agg [.d (.v (.int .i64 p1.A)), .d (.v (.int .i64 p1.WheelA)), .d (.v (.int .i64 p1.B)), .d (.v (.int .i64 p1.WheelB))]] [] (.d (.v (.bool r))) := by
  refine fnc_intro (T := tt) (N := 26) tok Tryz.func183 rfl rfl (by kernel_rfl) rfl rfl ?_
  unfold s_l08Mesh_m at h0
  refine sq [0,1] ?_
  refine rs rfl w0 rfl (st_box 3 (cs := _ :: _) rfl rfl rfl) ?_
  refine pa ?_
  refine nx ?_
  refine sq [0,1,2,3,4,5,6,7,8,9,10,11,12,13,14,15,16,17,18,19,20,21] ?_
  refine fa tok ?_
  refine ld tok ?_
  refine fa tok ?_
  refine ld tok ?_
  refine rp rfl w0 rfl (pu_neq rfl rfl) ?_
  refine pm ?_
  refine ra_if (u := 10) h0 rfl (fun hc h0 => ?_) (fun hc h0 => ?_)
  refine pmr1 ?_
  refine fa1 tok ?_
  refine ld1 tok ?_
  refine fa1 tok ?_
  refine ld1 tok ?_
  obtain ⟨v1, hv1, h0⟩ := bnd h0
  refine rs rfl (w1 rfl rfl rfl) rfl (c_call 4 (s_l08Wheel_c hv1) rfl rfl rfl) ?_
  refine pkt ?_
  refine pm ?_
  refine ra_ifB (u := 18) h0 rfl (fun hc h0 => ?_) (fun hc h0 => ?_)
  refine pmr1 ?_
  refine fa1 tok ?_
  refine ld1 tok ?_
  refine fa1 tok ?_
  refine ld1 tok ?_
  obtain ⟨v2, hv2, h0⟩ := bnd h0
  refine rs rfl (w1 rfl rfl rfl) rfl (c_call 4 (s_l08Wheel_c hv2) rfl rfl rfl) ?_
  refine pkt ?_
  refine pa ?_
  refine nx ?_
  refine aw_ret ?_
  cases h0
  exact ret0_ (rs := [.tmp 4]) rfl
  iterate 6 refine k1 ?_
  refine pkf ?_
  refine pa ?_
  refine nx ?_
  refine aw_ret ?_
  cases h0
  exact ret0_ (rs := [.tmp 4]) rfl
  iterate 6 refine k1 ?_
  refine pkf ?_
  refine pm ?_
  iterate 6 refine k1 ?_
  refine pkf ?_
  refine pa ?_
  refine nx ?_
  refine aw_ret ?_
  cases h0
  exact ret0_ (rs := [.tmp 4]) rfl

theorem s_l08Equal_c {p0 : Mesh_} {p1 : Mesh_} {r : Bool} (h0 : s_l08Equal_m p0 p1 = some r) : FnC Tryz.prog 228 [] [.agg [.d (.v (.int .i64 p0.A)), .d (.v (.int .i64 p0.WheelA)), .d (.v (.int .i64 p0.B)), .d (.v (.int .i64 p0.WheelB))], .agg [.d (.v (.int .i64 p1.A)), .d (.v (.int .i64 p1.WheelA)), .d (.v (.int .i64 p1.B)), .d (.v (.int .i64 p1.WheelB))]] [] (.d (.v (.bool r))) := by
  refine fnc_intro (T := tt) (N := 36) tok Tryz.func228 rfl rfl (by kernel_rfl) rfl rfl ?_
  unfold s_l08Equal_m at h0
  refine sq [0,1,2] ?_
  refine rs rfl w0 rfl (st_box 3 (cs := _ :: _) rfl rfl rfl) ?_
  refine rs rfl w0 rfl (st_box 4 (cs := _ :: _) rfl rfl rfl) ?_
  refine pa ?_
  refine nx ?_
  refine sq [0,1,2,3,4,5,6,7,8,9,10,11,12,13,14,15,16,17,18,19,20,21,22,23,24,25,26,27,28,29,30,31] ?_
  refine rl rfl w0 rfl (bx_ldN tok rfl rfl rfl rfl) ?_
  refine rl rfl w0 rfl (bx_ldN tok rfl rfl rfl rfl) ?_
  refine rp rfl w0 rfl (ps_eql_Mesh_ (a := p0) (b := p1) rfl rfl) ?_
  refine pm ?_
  refine ra_if (u := 8) h0 rfl (fun hc h0 => ?_) (fun hc h0 => ?_)
  iterate 26 refine k1 ?_
  refine pkt ?_
  refine pa ?_
  refine nx ?_
  refine aw_ret ?_
  cases h0
  exact ret0_ (rs := [.tmp 4]) rfl
  refine fa1 tok ?_
  refine ld1 tok ?_
  refine fa1 tok ?_
  refine ld1 tok ?_
  refine rp rfl (w1 rfl rfl rfl) rfl (pu_eql rfl rfl) ?_
  refine pm1 ?_
  refine ra_if (u := 14) h0 rfl (fun hc h0 => ?_) (fun hc h0 => ?_)
  refine fa1 tok ?_
  refine ld1 tok ?_
  refine fa1 tok ?_
  refine ld1 tok ?_
  refine rp rfl (w1 rfl rfl rfl) rfl (pu_eql rfl rfl) ?_
  refine pkt1 ?_
  refine pm1 ?_
  refine ra_if (u := 21) h0 rfl (fun hc h0 => ?_) (fun hc h0 => ?_)
  refine fa1 tok ?_
  refine ld1 tok ?_
  refine fa1 tok ?_
  refine ld1 tok ?_
  refine rp rfl (w1 rfl rfl rfl) rfl (pu_eql rfl rfl) ?_
  refine pkt1 ?_
  refine pm1 ?_
  refine ra_if (u := 28) h0 rfl (fun hc h0 => ?_) (fun hc h0 => ?_)
  refine fa1 tok ?_
  refine ld1 tok ?_
  refine fa1 tok ?_
  refine ld1 tok ?_
  refine rp rfl (w1 rfl rfl rfl) rfl (pu_eql rfl rfl) ?_
  refine pkt1 ?_
  refine pkf ?_
  refine pa ?_
  refine nx ?_
  refine aw_ret ?_
  cases h0
  exact ret0_ (rs := [.tmp 4]) rfl
  iterate 5 refine k1 ?_
  refine pkf1 ?_
  refine pkf ?_
  refine pa ?_
  refine nx ?_
  refine aw_ret ?_
  cases h0
  exact ret0_ (rs := [.tmp 4]) rfl
  iterate 5 refine k1 ?_
  refine pkf1 ?_
  refine pm1 ?_
  iterate 5 refine k1 ?_
  refine pkf1 ?_
  refine pkf ?_
  refine pa ?_
  refine nx ?_
  refine aw_ret ?_
  cases h0
  exact ret0_ (rs := [.tmp 4]) rfl
  iterate 5 refine k1 ?_
  refine pkf1 ?_
  refine pm1 ?_
  iterate 5 refine k1 ?_
  refine pkf1 ?_
  refine pm1 ?_
  iterate 5 refine k1 ?_
  refine pkf1 ?_
  refine pkf ?_
  refine pa ?_
  refine nx ?_
  refine aw_ret ?_
  cases h0
  exact ret0_ (rs := [.tmp 4]) rfl

theorem s_l08Known_c {p0 : Works_} {p1 : Mesh_} {p2 : Int} {r : Bool} (h0 : s_l08Known_m p0 p1 p2 = some r) : FnC Tryz.prog 184 [] [.ref (cWorks_ p0), .agg [.d (.v (.int .i64 p1.A)), .d (.v (.int .i64 p1.WheelA)), .d (.v (.int .i64 p1.B)), .d (.v (.int .i64 p1.WheelB))], .d (.v (.int .i64 p2))] [] (.d (.v (.bool r))) := by
  refine fnc_intro (T := tt) (N := 22) tok Tryz.func184 rfl rfl (by kernel_rfl) rfl rfl ?_
  unfold s_l08Known_m at h0
  refine sq [0,1] ?_
  refine rs rfl w0 rfl (st_box 3 (cs := _ :: _) rfl rfl rfl) ?_
  refine pa ?_
  refine nx ?_
  obtain ⟨v7x, h1, h0⟩ := bnd h0
  refine aw_cutE v7x (fun v7 => ⟨(fun _ => .dead), lks [.no, .no, .no]⟩) ?_ ?_
  refine sq [0] ?_
  refine pa ?_
  refine nx ?_
  refine aw_block ?_
  refine aw_loopM (fun s4 => ⟨updA (updA (updA (updA ((fun _ => .dead)) 0 (.ref (cWorks_ p0))) 2 (.d (.v (.int .i64 p2)))) 4 (.ptr 3 0 1 0 0)) 7 (.d (.v (.int .i64 s4))), lks [.no, .no, .no, .live [⟨215, 4, .av [[.d (.v (.int .i64 p1.A)), .d (.v (.int .i64 p1.WheelA)), .d (.v (.int .i64 p1.B)), .d (.v (.int .i64 p1.WheelB))]]⟩]]⟩) h1 ?_ (fun s4 y h2 => ?_)
  exact wk [0, 1, 2, 3]
  refine aw_seq ?_
  refine sq [0,1,2] ?_
  refine pm ?_
  refine pm ?_
  refine rp rfl w0 rfl (pu_lss rfl rfl) ?_
  refine nx ?_
  refine aw_if h2 rfl (fun hc h2 => ?_) (fun hc h2 => ?_)
  refine sk ?_
  refine aw_seq ?_
  refine aw_block ?_
  refine aw_seq ?_
  refine aw_region_draw (is := [0, 1, 2, 3, 4, 5, 6, 7, 8]) [0, 1, 3, 7, 0, 31, 63, 0, 255] follows (by kernel_rfl) ?_
  refine tpmr ?_
  refine tnr ?_
  refine tfr tok ?_
  refine tlr tok ?_
  refine tpm ?_
  obtain ⟨v5, hv5, h2⟩ := bnd h2
  refine rt_p rfl w0 rfl (sl_ix tok hv5 rfl rfl rfl rfl rfl rfl) ?_
  refine rt_p rfl w0 rfl (pu_load_refN tok rfl rfl rfl (by repeat (first | exact SegD.z _ | apply SegD.t))) ?_
  refine rt_lk rfl w0 rfl (bx_ldN tok rfl rfl rfl rfl) rfl rfl rfl ?_
  obtain ⟨v6, hv6, h2⟩ := bnd h2
  refine rt_c rfl w0 rfl (b_call 4 (s_l08Equal_c hv6) rfl rfl rfl) ?_
  refine rt_nil ?_
  refine ⟨by kernel_rfl, ?_⟩
  refine then_n ?_
  refine aw_ifB h2 rfl (fun hc h2 => ?_) (fun hc h2 => ?_)
  refine sq [0] ?_
  refine pa ?_
  refine nx ?_
  refine aw_ret ?_
  refine block_r ?_
  refine then_r ?_
  cases h2
  refine loop_r ⟨_, rfl, fun e => ?_⟩
  subst e
  refine block_r ?_
  replace h0 := orE_s h0
  refine then_r ?_
  cases h0
  exact ret0_ (rs := [.tmp 6]) rfl
  refine aw_skip ?_
  refine block_n ?_
  refine then_n ?_
  refine sr [0,1,2] ?_
  refine pm ?_
  refine rp rfl w0 rfl (pw_add rfl rfl) ?_
  refine pa ?_
  refine ra_nil ?_
  refine loop_n ?_
  cases h2
  refine ⟨_, rfl, ?_⟩
  exact wk [0, 1, 2, 3]
  refine aw_exit ?_
  refine then_e ?_
  cases h2
  refine loop_x ⟨_, rfl, fun e => ?_⟩
  subst e
  refine block_hit ?_
  refine then_n ?_
  refine ⟨_, rfl, ?_⟩
  exact wk [0, 1, 2]
  rintro v7 rfl
  replace h0 := orE_f h0
  refine sq [0] ?_
  refine pa ?_
  refine nx ?_
  refine aw_ret ?_
  cases h0
  exact ret0_ (rs := [.tmp 6]) rfl

theorem s_l08Ok_c {p0 : Works_} {r : Bool} (h0 : s_l08Ok_m p0 = some r) : FnC Tryz.prog 119 [] [.ref (cWorks_ p0)] [] (.d (.v (.bool r))) := by
  refine fnc_intro (T := tt) (N := 81) tok Tryz.func119 rfl rfl (by kernel_rfl) rfl rfl ?_
  unfold s_l08Ok_m at h0
  refine sq [0] ?_
  refine pa ?_
  refine nx ?_
  obtain ⟨v13x, h1, h0⟩ := bnd h0
  refine aw_cutE v13x (fun v13 => ⟨updA ((fun _ => .dead)) 0 (.ref (cWorks_ p0)), lks [.no, .no, .no]⟩) ?_ ?_
  refine sq [0] ?_
  refine pa ?_
  refine nx ?_
  refine aw_block ?_
  refine aw_loopM (fun s7 => ⟨updA (updA ((fun _ => .dead)) 0 (.ref (cWorks_ p0))) 3 (.d (.v (.int .i64 s7))), lks [.no, .no, .no]⟩) h1 ?_ (fun s7 y h2 => ?_)
  exact wk [0, 1, 2]
  refine aw_seq ?_
  refine sq [0,1,2,3,4,5,6] ?_
  refine pm ?_
  refine pmr ?_
  refine nr ?_
  refine fr tok ?_
  refine lr tok ?_
  refine rp rfl w0 rfl (pu_len_map tok rfl rfl rfl) ?_
  refine rp rfl w0 rfl (pu_lss rfl rfl) ?_
  refine nx ?_
  refine aw_if h2 rfl (fun hc h2 => ?_) (fun hc h2 => ?_)
  refine sk ?_
  refine aw_seq ?_
  refine aw_block ?_
  obtain ⟨v12, h3, h2⟩ := bnd h2
  refine aw_cut ⟨updA (updA (updA ((fun _ => .dead)) 0 (.ref (cWorks_ p0))) 3 (.d (.v (.int .i64 s7)))) 35 (.d (.v (.bool v12))), lks [.no, .no, .no]⟩ ?_ ?_
  refine sr [0,1,2,3,4,5,6,7,8,9,10,11,12,13,14,15,16,17,18,19,20,21] ?_
  refine pmr ?_
  refine nr ?_
  refine fr tok ?_
  refine lr tok ?_
  refine pm ?_
  obtain ⟨v8, hv8, h3⟩ := bnd h3
  refine rp rfl w0 rfl (sl_ix tok hv8 rfl rfl rfl rfl rfl rfl) ?_
  obtain ⟨v9, hv9, h3⟩ := bnd h3
  refine rs rfl w0 rfl (c_call 3 (s_l08Arbor_c hv9) rfl rfl rfl) ?_
  refine rp rfl w0 rfl (pu_not rfl) ?_
  refine pm ?_
  refine ra_ifB (u := 22) h3 rfl (fun hc h3 => ?_) (fun hc h3 => ?_)
  iterate 12 refine k1 ?_
  refine pkt ?_
  refine nx ?_
  cases h3
  exact wk [0, 1, 2]
  refine pmr1 ?_
  refine pmr1 ?_
  refine nr1 ?_
  refine fr1 tok ?_
  refine lr1 tok ?_
  refine pm1 ?_
  obtain ⟨v10, hv10, h3⟩ := bnd h3
  refine rp rfl (w1 rfl rfl rfl) rfl (sl_ix tok hv10 rfl rfl rfl rfl rfl rfl) ?_
  refine fr1 tok ?_
  refine lr1 tok ?_
  obtain ⟨v11, hv11, h3⟩ := bnd h3
  refine rs rfl (w1 rfl rfl rfl) rfl (c_call 3 (s_l08Find_c hv11) rfl rfl rfl) ?_
  refine pm1 ?_
  refine rp rfl (w1 rfl rfl rfl) rfl (pu_neq rfl rfl) ?_
  refine pkf ?_
  refine nx ?_
  cases h3
  refine Weak.trans_ (weak_pre (d := 26) (ds := (cL cArbor_) p0.Arbors) rfl (by repeat (first | exact Pre.z _ | apply Pre.t))) ?_
  refine Weak.trans_ (weak_pre (d := 30) (ds := cS v10.Name) rfl (by repeat (first | exact Pre.z _ | apply Pre.t))) ?_
  exact wk [0, 1, 2]
  refine aw_ifB h2 rfl (fun hc h2 => ?_) (fun hc h2 => ?_)
  refine sq [0] ?_
  refine pa ?_
  refine nx ?_
  refine aw_ret ?_
  refine block_r ?_
  refine then_r ?_
  cases h2
  refine loop_r ⟨_, rfl, fun e => ?_⟩
  subst e
  refine block_r ?_
  replace h0 := orE_s h0
  refine then_r ?_
  cases h0
  exact ret0_ (rs := [.tmp 2]) rfl
  refine aw_skip ?_
  refine block_n ?_
  refine then_n ?_
  refine sr [0,1,2] ?_
  refine pm ?_
  refine rp rfl w0 rfl (pw_add rfl rfl) ?_
  refine pa ?_
  refine ra_nil ?_
  refine loop_n ?_
  cases h2
  refine ⟨_, rfl, ?_⟩
  exact wk [0, 1, 2]
  refine aw_exit ?_
  refine then_e ?_
  cases h2
  refine loop_x ⟨_, rfl, fun e => ?_⟩
  subst e
  refine block_hit ?_
  refine then_n ?_
  refine ⟨_, rfl, ?_⟩
  exact wk [0, 1, 2]
  rintro v13 rfl
  replace h0 := orE_f h0
  obtain ⟨v26x, h1, h0⟩ := bnd h0
  refine aw_cutE v26x (fun v26 => ⟨updA ((fun _ => .dead)) 0 (.ref (cWorks_ p0)), lks [.no, .no, .no]⟩) ?_ ?_
  refine sq [0] ?_
  refine pa ?_
  refine nx ?_
  refine aw_block ?_
  refine aw_loopM (fun s20 => ⟨updA (updA ((fun _ => .dead)) 0 (.ref (cWorks_ p0))) 4 (.d (.v (.int .i64 s20))), lks [.no, .no, .no]⟩) h1 ?_ (fun s20 y h2 => ?_)
  exact wk [0, 1, 2]
  refine aw_seq ?_
  refine sq [0,1,2,3,4,5,6] ?_
  refine pm ?_
  refine pmr ?_
  refine nr ?_
  refine fr tok ?_
  refine lr tok ?_
  refine rp rfl w0 rfl (pu_len_map tok rfl rfl rfl) ?_
  refine rp rfl w0 rfl (pu_lss rfl rfl) ?_
  refine nx ?_
  refine aw_if h2 rfl (fun hc h2 => ?_) (fun hc h2 => ?_)
  refine sk ?_
  refine aw_seq ?_
  refine aw_block ?_
  obtain ⟨v25, h3, h2⟩ := bnd h2
  refine aw_cut ⟨updA (updA (updA ((fun _ => .dead)) 0 (.ref (cWorks_ p0))) 4 (.d (.v (.int .i64 s20)))) 66 (.d (.v (.bool v25))), lks [.no, .no, .no]⟩ ?_ ?_
  refine sr [0,1,2,3,4,5,6,7,8,9,10,11,12,13,14,15,16,17,18,19,20,21] ?_
  refine pmr ?_
  refine pmr ?_
  refine nr ?_
  refine fr tok ?_
  refine lr tok ?_
  refine pm ?_
  obtain ⟨v21, hv21, h3⟩ := bnd h3
  refine rp rfl w0 rfl (sl_ix tok hv21 rfl rfl rfl rfl rfl rfl) ?_
  refine rp rfl w0 rfl (pu_load_refN tok rfl rfl rfl (by repeat (first | exact SegD.z _ | apply SegD.t))) ?_
  obtain ⟨v22, hv22, h3⟩ := bnd h3
  refine rs rfl w0 rfl (c_call 3 (s_l08Mesh_c hv22) rfl rfl rfl) ?_
  refine rp rfl w0 rfl (pu_not rfl) ?_
  refine pm ?_
  refine ra_ifB (u := 55) h3 rfl (fun hc h3 => ?_) (fun hc h3 => ?_)
  iterate 10 refine k1 ?_
  refine pkt ?_
  refine nx ?_
  cases h3
  exact wk [0, 1, 2]
  refine pmr1 ?_
  refine pmr1 ?_
  refine nr1 ?_
  refine fr1 tok ?_
  refine lr1 tok ?_
  refine pm1 ?_
  obtain ⟨v23, hv23, h3⟩ := bnd h3
  refine rp rfl (w1 rfl rfl rfl) rfl (sl_ix tok hv23 rfl rfl rfl rfl rfl rfl) ?_
  refine rp rfl (w1 rfl rfl rfl) rfl (pu_load_refN tok rfl rfl rfl (by repeat (first | exact SegD.z _ | apply SegD.t))) ?_
  refine pm1 ?_
  obtain ⟨v24, hv24, h3⟩ := bnd h3
  refine rs rfl (w1 rfl rfl rfl) rfl (c_call 3 (s_l08Known_c hv24) rfl rfl rfl) ?_
  refine pkf ?_
  refine nx ?_
  cases h3
  refine Weak.trans_ (weak_pre (d := 59) (ds := (cL cMesh_) p0.Meshes) rfl (by repeat (first | exact Pre.z _ | apply Pre.t))) ?_
  exact wk [0, 1, 2]
  refine aw_ifB h2 rfl (fun hc h2 => ?_) (fun hc h2 => ?_)
  refine sq [0] ?_
  refine pa ?_
  refine nx ?_
  refine aw_ret ?_
  refine block_r ?_
  refine then_r ?_
  cases h2
  refine loop_r ⟨_, rfl, fun e => ?_⟩
  subst e
  refine block_r ?_
  replace h0 := orE_s h0
  refine then_r ?_
  cases h0
  exact ret0_ (rs := [.tmp 2]) rfl
  refine aw_skip ?_
  refine block_n ?_
  refine then_n ?_
  refine sr [0,1,2] ?_
  refine pm ?_
  refine rp rfl w0 rfl (pw_add rfl rfl) ?_
  refine pa ?_
  refine ra_nil ?_
  refine loop_n ?_
  cases h2
  refine ⟨_, rfl, ?_⟩
  exact wk [0, 1, 2]
  refine aw_exit ?_
  refine then_e ?_
  cases h2
  refine loop_x ⟨_, rfl, fun e => ?_⟩
  subst e
  refine block_hit ?_
  refine then_n ?_
  refine ⟨_, rfl, ?_⟩
  exact wk [0, 1, 2]
  rintro v26 rfl
  replace h0 := orE_f h0
  refine sq [0,1,2,3,4,5,6,7,8,9,10,11,12,13,14] ?_
  refine pmr ?_
  refine nr ?_
  refine fr tok ?_
  refine lr tok ?_
  refine rp rfl w0 rfl (pu_len_map tok rfl rfl rfl) ?_
  refine rp rfl w0 rfl (pu_leq rfl rfl) ?_
  refine pm ?_
  refine ra_if (u := 73) h0 rfl (fun hc h0 => ?_) (fun hc h0 => ?_)
  refine pmr1 ?_
  refine nr1 ?_
  refine fr1 tok ?_
  refine lr1 tok ?_
  refine rp rfl (w1 rfl rfl rfl) rfl (pu_len_map tok rfl rfl rfl) ?_
  refine rp rfl (w1 rfl rfl rfl) rfl (pu_leq rfl rfl) ?_
  refine pkt ?_
  refine pa ?_
  refine nx ?_
  refine aw_ret ?_
  cases h0
  exact ret0_ (rs := [.tmp 2]) rfl
  iterate 6 refine k1 ?_
  refine pkf ?_
  refine pa ?_
  refine nx ?_
  refine aw_ret ?_
  cases h0
  exact ret0_ (rs := [.tmp 2]) rfl

theorem s_l08Root_c {p0 : Works_} {p1 : Int} {r : Bool} (h0 : s_l08Root_m p0 p1 = some r) : FnC Tryz.prog 120 [] [.ref (cWorks_ p0), .d (.v (.int .i64 p1))] [] (.d (.v (.bool r))) := by
  refine fnc_intro (T := tt) (N := 13) tok Tryz.func120 rfl rfl (by kernel_rfl) rfl rfl ?_
  unfold s_l08Root_m at h0
  refine sq [0] ?_
  refine pa ?_
  refine nx ?_
  refine sq [0,1,2,3,4,5,6,7,8] ?_
  refine pm ?_
  refine pmr ?_
  refine nr ?_
  refine fr tok ?_
  refine lr tok ?_
  refine rp rfl w0 rfl (pu_len_map tok rfl rfl rfl) ?_
  refine rp rfl w0 rfl (pw_sub rfl rfl) ?_
  obtain ⟨v1, hv1, h0⟩ := bnd h0
  refine rs rfl w0 rfl (c_call 3 (s_l00In_c hv1) rfl rfl rfl) ?_
  refine pa ?_
  refine nx ?_
  refine aw_ret ?_
  cases h0
  exact ret0_ (rs := [.tmp 4]) rfl

theorem s_l02Gcd_c {p0 : Int} {p1 : Int} {r : Int} (h0 : s_l02Gcd_m p0 p1 = some r) : FnC Tryz.prog 229 [] [.d (.v (.int .i64 p0)), .d (.v (.int .i64 p1))] [] (.d (.v (.int .i64 r))) := by
  refine fnc_intro (T := tt) (N := 14) tok Tryz.func229 rfl rfl (by kernel_rfl) rfl rfl ?_
  unfold s_l02Gcd_m at h0
  refine sq [0] ?_
  refine pa ?_
  refine nx ?_
  obtain ⟨v5, h1, h0⟩ := bnd h0
  refine aw_cut ⟨updA ((fun _ => .dead)) 0 (.d (.v (.int .i64 v5))), lks [.no, .no, .no]⟩ ?_ ?_
  refine aw_block ?_
  refine aw_loopM (fun s3 => ⟨updA (updA ((fun _ => .dead)) 0 (.d (.v (.int .i64 s3.1)))) 1 (.d (.v (.int .i64 s3.2))), lks [.no, .no, .no]⟩) h1 ?_ (fun s3 y h2 => ?_)
  exact wk [0, 1, 2]
  refine aw_seq ?_
  refine sq [0,1] ?_
  refine pm ?_
  refine rp rfl w0 rfl (pu_gtr rfl rfl) ?_
  refine nx ?_
  refine aw_if h2 rfl (fun hc h2 => ?_) (fun hc h2 => ?_)
  refine sk ?_
  refine aw_block ?_
  refine sq [0,1,2,3] ?_
  refine pm ?_
  refine pm ?_
  obtain ⟨hq4, h2⟩ := chk_e h2
  refine rp rfl w0 rfl (pu_remw rfl rfl hq4) ?_
  refine pa ?_
  refine nx ?_
  refine sq [0,1] ?_
  refine pm ?_
  refine pa ?_
  refine nx ?_
  refine sr [0,1] ?_
  refine pm ?_
  refine pa ?_
  refine ra_nil ?_
  refine block_n ?_
  refine loop_n ?_
  cases h2
  refine ⟨_, rfl, ?_⟩
  exact wk [0, 1, 2]
  refine aw_exit ?_
  refine then_e ?_
  cases h2
  refine loop_x ⟨_, rfl, fun e => ?_⟩
  subst e
  refine block_hit ?_
  refine then_n ?_
  exact wk [0, 1, 2]
  refine sq [0,1] ?_
  refine pm ?_
  refine pa ?_
  refine nx ?_
  refine aw_ret ?_
  cases h0
  exact ret0_ (rs := [.tmp 4]) rfl

theorem s_l15Years_c {p0 : List LeapRule_} {r : Int × Bool} (h0 : s_l15Years_m p0 = some r) : FnC Tryz.prog 185 [] [.d (.sl (List.map cLeapRule_ p0))] [] (.tup [.d (.v (.int .i64 r.1)), .d (.v (.bool r.2))]) := by
  refine fnc_intro (T := tt) (N := 55) tok Tryz.func185 rfl rfl (by kernel_rfl) rfl rfl ?_
  unfold s_l15Years_m at h0
  refine sq [0,1] ?_
  refine pa ?_
  refine pa ?_
  refine nx ?_
  refine sq [0] ?_
  refine pa ?_
  refine nx ?_
  obtain ⟨v23x, h1, h0⟩ := bnd h0
  refine aw_cutE v23x (fun v23 => ⟨updA (updA ((fun _ => .dead)) 0 (.d (.sl (List.map cLeapRule_ p0)))) 4 (.d (.v (.int .i64 v23))), lks [.no, .no, .no]⟩) ?_ ?_
  refine sq [0] ?_
  refine pa ?_
  refine nx ?_
  refine aw_block ?_
  refine aw_loopM (fun s12 => ⟨updA (updA (updA ((fun _ => .dead)) 0 (.d (.sl (List.map cLeapRule_ p0)))) 4 (.d (.v (.int .i64 s12.1)))) 5 (.d (.v (.int .i64 s12.2))), lks [.no, .no, .no]⟩) h1 ?_ (fun s12 y h2 => ?_)
  exact wk [0, 1, 2]
  refine aw_seq ?_
  refine sq [0,1,2,3] ?_
  refine pm ?_
  refine pm ?_
  refine rp rfl w0 rfl (pu_len_map tok rfl rfl rfl) ?_
  refine rp rfl w0 rfl (pu_lss rfl rfl) ?_
  refine nx ?_
  refine aw_if h2 rfl (fun hc h2 => ?_) (fun hc h2 => ?_)
  refine sk ?_
  refine aw_seq ?_
  refine aw_block ?_
  refine aw_seq ?_
  obtain ⟨v18, h3, h2⟩ := bnd h2
  refine aw_cut ⟨updA (updA (updA (updA ((fun _ => .dead)) 0 (.d (.sl (List.map cLeapRule_ p0)))) 4 (.d (.v (.int .i64 s12.1)))) 5 (.d (.v (.int .i64 s12.2)))) 33 (.d (.v (.bool v18))), lks [.no, .no, .no]⟩ ?_ ?_
  refine aw_region_draw (is := [0, 1, 2, 3, 4, 5, 6, 7, 8, 9, 10, 11, 12, 13, 14, 15, 16, 17, 18, 19, 20, 21]) [0, 0, 3, 7, 15, 31, 63, 127, 255, 255, 1023, 2047, 4095, 255, 255, 24831, 57599, 123135, 254207, 524287, 1048575, 2097151] follows (by kernel_rfl) ?_
  refine tpm ?_
  refine tpm ?_
  obtain ⟨v13, hv13, h3⟩ := bnd h3
  refine rt_p rfl w0 rfl (sl_ix tok hv13 rfl rfl rfl rfl rfl rfl) ?_
  refine tfr tok ?_
  refine tlr tok ?_
  obtain ⟨v14, hv14, h3⟩ := bnd h3
  refine rt_c rfl w0 rfl (b_call 3 (s_l00In_c hv14) rfl rfl rfl) ?_
  refine rt_p rfl w0 rfl (pu_not rfl) ?_
  refine tpm ?_
  refine rt_ifB (u := 19) h3 rfl (fun hc h3 => ?_) (fun hc h3 => ?_)
  iterate 13 refine k2 ?_
  refine tpkt ?_
  refine rt_nil ?_
  refine ⟨by kernel_rfl, ?_⟩
  refine then_n ?_
  cases h3
  exact wk [0, 1, 2]
  refine tpm1 ?_
  refine tpm1 ?_
  obtain ⟨v15, hv15, h3⟩ := bnd h3
  refine rt_p rfl (w1 rfl rfl rfl) rfl (sl_ix tok hv15 rfl rfl rfl rfl rfl rfl) ?_
  refine tfr1 tok ?_
  refine tlr1 tok ?_
  refine tpm1 ?_
  refine tpm1 ?_
  obtain ⟨v16, hv16, h3⟩ := bnd h3
  refine rt_p rfl (w1 rfl rfl rfl) rfl (sl_ix tok hv16 rfl rfl rfl rfl rfl rfl) ?_
  refine tfr1 tok ?_
  refine tlr1 tok ?_
  refine rt_p rfl (w1 rfl rfl rfl) rfl (pw_sub rfl rfl) ?_
  obtain ⟨v17, hv17, h3⟩ := bnd h3
  refine rt_c rfl (w1 rfl rfl rfl) rfl (b_call 3 (s_l00In_c hv17) rfl rfl rfl) ?_
  refine rt_p rfl (w1 rfl rfl rfl) rfl (pu_not rfl) ?_
  refine tpkf ?_
  refine rt_nil ?_
  refine ⟨by kernel_rfl, ?_⟩
  refine then_n ?_
  cases h3
  refine Weak.trans_ (weak_pre (d := 23) (ds := cI v15.Rest) rfl (by repeat (first | exact Pre.z _ | apply Pre.t))) ?_
  refine Weak.trans_ (weak_pre (d := 28) (ds := cI v16.Every) rfl (by repeat (first | exact Pre.z _ | apply Pre.t))) ?_
  exact wk [0, 1, 2]
  refine aw_ifB h2 rfl (fun hc h2 => ?_) (fun hc h2 => ?_)
  refine sq [0,1] ?_
  refine pa ?_
  refine pa ?_
  refine nx ?_
  refine aw_ret ?_
  refine then_r ?_
  refine block_r ?_
  refine then_r ?_
  cases h2
  refine loop_r ⟨_, rfl, fun e => ?_⟩
  subst e
  refine block_r ?_
  replace h0 := orE_s h0
  refine then_r ?_
  cases h0
  exact ret0_ (rs := [.tmp 2, .tmp 3]) rfl
  refine sk ?_
  refine aw_seq ?_
  refine aw_region_draw (is := [0, 1, 2, 3, 4, 5, 6, 9, 10, 11, 12, 13, 7, 8, 14, 15]) [0, 0, 0, 0, 12, 28, 60, 126, 255, 0, 0, 1536, 3584, 7680, 16383, 32767] follows (by kernel_rfl) ?_
  iterate 4 refine tpm ?_
  obtain ⟨v19, hv19, h2⟩ := bnd h2
  refine rt_p rfl w0 rfl (sl_ix tok hv19 rfl rfl rfl rfl rfl rfl) ?_
  refine tfr tok ?_
  refine tlr tok ?_
  refine tpm ?_
  refine tpm ?_
  obtain ⟨v20, hv20, h2⟩ := bnd h2
  refine rt_p rfl w0 rfl (sl_ix tok hv20 rfl rfl rfl rfl rfl rfl) ?_
  refine tfr tok ?_
  refine tlr tok ?_
  obtain ⟨v21, hv21, h2⟩ := bnd h2
  refine rt_c rfl w0 rfl (b_call 3 (s_l02Gcd_c hv21) rfl rfl rfl) ?_
  obtain ⟨hq22, h2⟩ := chk_e h2
  refine rt_p rfl w0 rfl (pw_quo rfl rfl hq22) ?_
  refine rt_p rfl w0 rfl (pw_mul rfl rfl) ?_
  refine tpa ?_
  refine rt_nil ?_
  refine ⟨by kernel_rfl, ?_⟩
  refine then_n ?_
  refine sq [0,1] ?_
  refine pm ?_
  refine rp rfl w0 rfl (pu_gtr rfl rfl) ?_
  refine nx ?_
  refine aw_if h2 rfl (fun hc h2 => ?_) (fun hc h2 => ?_)
  refine sq [0,1] ?_
  refine pa ?_
  refine pa ?_
  refine nx ?_
  refine aw_ret ?_
  refine block_r ?_
  refine then_r ?_
  cases h2
  refine loop_r ⟨_, rfl, fun e => ?_⟩
  subst e
  refine block_r ?_
  replace h0 := orE_s h0
  refine then_r ?_
  cases h0
  exact ret0_ (rs := [.tmp 2, .tmp 3]) rfl
  refine aw_skip ?_
  refine block_n ?_
  refine then_n ?_
  refine sr [0,1,2] ?_
  refine pm ?_
  refine rp rfl w0 rfl (pw_add rfl rfl) ?_
  refine pa ?_
  refine ra_nil ?_
  refine loop_n ?_
  cases h2
  refine ⟨_, rfl, ?_⟩
  exact wk [0, 1, 2]
  refine aw_exit ?_
  refine then_e ?_
  cases h2
  refine loop_x ⟨_, rfl, fun e => ?_⟩
  subst e
  refine block_hit ?_
  refine then_n ?_
  refine ⟨_, rfl, ?_⟩
  exact wk [0, 1, 2]
  rintro v23 rfl
  replace h0 := orE_f h0
  refine sq [0,1,2,3,4,5] ?_
  refine pm ?_
  refine pm ?_
  refine rp rfl w0 rfl (pu_len_map tok rfl rfl rfl) ?_
  refine rp rfl w0 rfl (pu_leq rfl rfl) ?_
  refine pa ?_
  refine pa ?_
  refine nx ?_
  refine aw_ret ?_
  cases h0
  exact ret0_ (rs := [.tmp 2, .tmp 3]) rfl

theorem s_l15Months_c {p0 : List Month_} {r : Bool} (h0 : s_l15Months_m p0 = some r) : FnC Tryz.prog 186 [] [.d (.sl (List.map cMonth_ p0))] [] (.d (.v (.bool r))) := by
  refine fnc_intro (T := tt) (N := 55) tok Tryz.func186 rfl rfl (by kernel_rfl) rfl rfl ?_
  unfold s_l15Months_m at h0
  refine sq [0] ?_
  refine pa ?_
  refine nx ?_
  obtain ⟨v31x, h1, h0⟩ := bnd h0
  refine aw_cutE v31x (fun v31 => ⟨updA ((fun _ => .dead)) 0 (.d (.sl (List.map cMonth_ p0))), lks [.no, .no, .no]⟩) ?_ ?_
  refine sq [0] ?_
  refine pa ?_
  refine nx ?_
  refine aw_block ?_
  refine aw_loopM (fun s16 => ⟨updA (updA ((fun _ => .dead)) 0 (.d (.sl (List.map cMonth_ p0)))) 3 (.d (.v (.int .i64 s16))), lks [.no, .no, .no]⟩) h1 ?_ (fun s16 y h2 => ?_)
  exact wk [0, 1, 2]
  refine aw_seq ?_
  refine sq [0,1,2,3] ?_
  refine pm ?_
  refine pm ?_
  refine rp rfl w0 rfl (pu_len_map tok rfl rfl rfl) ?_
  refine rp rfl w0 rfl (pu_lss rfl rfl) ?_
  refine nx ?_
  refine aw_if h2 rfl (fun hc h2 => ?_) (fun hc h2 => ?_)
  refine sk ?_
  obtain ⟨v30x, h3, h2⟩ := bnd h2
  refine aw_cutE v30x (fun v30 => ⟨updA (updA ((fun _ => .dead)) 0 (.d (.sl (List.map cMonth_ p0)))) 3 (.d (.v (.int .i64 s16))), lks [.no, .no, .no]⟩) ?_ ?_
  refine aw_block ?_
  refine aw_seq ?_
  obtain ⟨v23, h4, h3⟩ := bnd h3
  refine aw_cut ⟨updA (updA (updA ((fun _ => .dead)) 0 (.d (.sl (List.map cMonth_ p0)))) 3 (.d (.v (.int .i64 s16)))) 35 (.d (.v (.bool v23))), lks [.no, .no, .no]⟩ ?_ ?_
  refine sr [0,1,2,3,4,5,6,7,8,9,10,11,12,13,14,15,16,17,18,19,20,21,22,23,24] ?_
  refine pm ?_
  refine pm ?_
  obtain ⟨v17, hv17, h4⟩ := bnd h4
  refine rp rfl w0 rfl (sl_ix tok hv17 rfl rfl rfl rfl rfl rfl) ?_
  refine fr tok ?_
  refine lr tok ?_
  obtain ⟨v18, hv18, h4⟩ := bnd h4
  refine rs rfl w0 rfl (c_call 3 (s_IsName_c hv18) rfl rfl rfl) ?_
  refine rp rfl w0 rfl (pu_not rfl) ?_
  refine pm ?_
  refine ra_ifB (u := 18) h4 rfl (fun hc h4 => ?_) (fun hc h4 => ?_)
  iterate 7 refine k1 ?_
  refine pkt ?_
  refine pm ?_
  iterate 7 refine k1 ?_
  refine pkt ?_
  refine nx ?_
  cases h4
  exact wk [0, 1, 2]
  refine pm1 ?_
  refine pm1 ?_
  obtain ⟨v19, hv19, h4⟩ := bnd h4
  refine rp rfl (w1 rfl rfl rfl) rfl (sl_ix tok hv19 rfl rfl rfl rfl rfl rfl) ?_
  refine fr1 tok ?_
  refine lr1 tok ?_
  obtain ⟨v20, hv20, h4⟩ := bnd h4
  refine rs rfl (w1 rfl rfl rfl) rfl (c_call 3 (s_l00In_c hv20) rfl rfl rfl) ?_
  refine rp rfl (w1 rfl rfl rfl) rfl (pu_not rfl) ?_
  refine pkf ?_
  refine pm ?_
  refine ra_ifB (u := 27) h4 rfl (fun hc h4 => ?_) (fun hc h4 => ?_)
  iterate 7 refine k1 ?_
  refine pkt ?_
  refine nx ?_
  cases h4
  refine Weak.trans_ (weak_pre (d := 22) (ds := cI v19.Days) rfl (by repeat (first | exact Pre.z _ | apply Pre.t))) ?_
  exact wk [0, 1, 2]
  refine pm1 ?_
  refine pm1 ?_
  obtain ⟨v21, hv21, h4⟩ := bnd h4
  refine rp rfl (w1 rfl rfl rfl) rfl (sl_ix tok hv21 rfl rfl rfl rfl rfl rfl) ?_
  refine fr1 tok ?_
  refine lr1 tok ?_
  obtain ⟨v22, hv22, h4⟩ := bnd h4
  refine rs rfl (w1 rfl rfl rfl) rfl (c_call 3 (s_l00In_c hv22) rfl rfl rfl) ?_
  refine rp rfl (w1 rfl rfl rfl) rfl (pu_not rfl) ?_
  refine pkf ?_
  refine nx ?_
  cases h4
  refine Weak.trans_ (weak_pre (d := 22) (ds := cI v19.Days) rfl (by repeat (first | exact Pre.z _ | apply Pre.t))) ?_
  refine Weak.trans_ (weak_pre (d := 31) (ds := cI v21.Leap) rfl (by repeat (first | exact Pre.z _ | apply Pre.t))) ?_
  exact wk [0, 1, 2]
  refine aw_ifB h3 rfl (fun hc h3 => ?_) (fun hc h3 => ?_)
  refine sq [0] ?_
  refine pa ?_
  refine nx ?_
  refine aw_ret ?_
  refine then_r ?_
  refine block_r ?_
  cases h3
  replace h2 := orE_s h2
  refine then_r ?_
  cases h2
  refine loop_r ⟨_, rfl, fun e => ?_⟩
  subst e
  refine block_r ?_
  replace h0 := orE_s h0
  refine then_r ?_
  cases h0
  exact ret0_ (rs := [.tmp 2]) rfl
  refine sk ?_
  refine sq [0] ?_
  refine pa ?_
  refine nx ?_
  refine aw_block ?_
  refine aw_loopM (fun s27 => ⟨updA (updA (updA ((fun _ => .dead)) 0 (.d (.sl (List.map cMonth_ p0)))) 3 (.d (.v (.int .i64 s16)))) 4 (.d (.v (.int .i64 s27))), lks [.no, .no, .no]⟩) h3 ?_ (fun s27 y h4 => ?_)
  exact wk [0, 1, 2]
  refine aw_seq ?_
  refine sq [0,1,2] ?_
  refine pm ?_
  refine pm ?_
  refine rp rfl w0 rfl (pu_lss rfl rfl) ?_
  refine nx ?_
  refine aw_if h4 rfl (fun hc h4 => ?_) (fun hc h4 => ?_)
  refine sk ?_
  refine aw_seq ?_
  refine aw_block ?_
  refine aw_seq ?_
  refine aw_region_draw (is := [0, 1, 2, 3, 4, 5, 6, 7, 8, 9, 10]) [0, 0, 3, 7, 15, 0, 0, 96, 224, 480, 1023] follows (by kernel_rfl) ?_
  refine tpm ?_
  refine tpm ?_
  obtain ⟨v28, hv28, h4⟩ := bnd h4
  refine rt_p rfl w0 rfl (sl_ix tok hv28 rfl rfl rfl rfl rfl rfl) ?_
  refine tfr tok ?_
  refine tlr tok ?_
  refine tpm ?_
  refine tpm ?_
  obtain ⟨v29, hv29, h4⟩ := bnd h4
  refine rt_p rfl w0 rfl (sl_ix tok hv29 rfl rfl rfl rfl rfl rfl) ?_
  refine tfr tok ?_
  refine tlr tok ?_
  refine rt_p rfl w0 rfl (pu_seql rfl rfl) ?_
  refine rt_nil ?_
  refine ⟨by kernel_rfl, ?_⟩
  refine then_n ?_
  refine aw_if h4 rfl (fun hc h4 => ?_) (fun hc h4 => ?_)
  refine sq [0] ?_
  refine pa ?_
  refine nx ?_
  refine aw_ret ?_
  refine block_r ?_
  refine then_r ?_
  cases h4
  refine loop_r ⟨_, rfl, fun e => ?_⟩
  subst e
  refine block_r ?_
  refine block_r ?_
  replace h2 := orE_s h2
  refine then_r ?_
  cases h2
  refine loop_r ⟨_, rfl, fun e => ?_⟩
  subst e
  refine block_r ?_
  replace h0 := orE_s h0
  refine then_r ?_
  cases h0
  exact ret0_ (rs := [.tmp 2]) rfl
  refine aw_skip ?_
  refine block_n ?_
  refine then_n ?_
  refine sr [0,1,2] ?_
  refine pm ?_
  refine rp rfl w0 rfl (pw_add rfl rfl) ?_
  refine pa ?_
  refine ra_nil ?_
  refine loop_n ?_
  cases h4
  refine ⟨_, rfl, ?_⟩
  exact wk [0, 1, 2]
  refine aw_exit ?_
  refine then_e ?_
  cases h4
  refine loop_x ⟨_, rfl, fun e => ?_⟩
  subst e
  refine block_hit ?_
  refine block_n ?_
  refine then_n ?_
  refine ⟨_, rfl, ?_⟩
  exact wk [0, 1, 2]
  rintro v30 rfl
  replace h2 := orE_f h2
  refine sr [0,1,2] ?_
  refine pm ?_
  refine rp rfl w0 rfl (pw_add rfl rfl) ?_
  refine pa ?_
  refine ra_nil ?_
  refine loop_n ?_
  cases h2
  refine ⟨_, rfl, ?_⟩
  exact wk [0, 1, 2]
  refine aw_exit ?_
  refine then_e ?_
  cases h2
  refine loop_x ⟨_, rfl, fun e => ?_⟩
  subst e
  refine block_hit ?_
  refine then_n ?_
  refine ⟨_, rfl, ?_⟩
  exact wk [0, 1, 2]
  rintro v31 rfl
  replace h0 := orE_f h0
  refine sq [0,1,2,3] ?_
  refine pm ?_
  refine rp rfl w0 rfl (pu_len_map tok rfl rfl rfl) ?_
  obtain ⟨v32, hv32, h0⟩ := bnd h0
  refine rs rfl w0 rfl (c_call 3 (s_l00In_c hv32) rfl rfl rfl) ?_
  refine pa ?_
  refine nx ?_
  refine aw_ret ?_
  cases h0
  exact ret0_ (rs := [.tmp 2]) rfl

theorem s_l15Ok_c {p0 : Calendar_} {r : Bool} (h0 : s_l15Ok_m p0 = some r) : FnC Tryz.prog 122 [] [.ref (cCalendar_ p0)] [] (.d (.v (.bool r))) := by
  refine fnc_intro (T := tt) (N := 35) tok Tryz.func122 rfl rfl (by kernel_rfl) rfl rfl ?_
  unfold s_l15Ok_m at h0
  refine sq [0] ?_
  refine pa ?_
  refine nx ?_
  refine sq [0,1,2,3,4,5,6,7,8,9] ?_
  refine pmr ?_
  refine nr ?_
  refine fr tok ?_
  refine lr tok ?_
  obtain ⟨v1, hv1, h0⟩ := bnd h0
  refine rs rfl w0 rfl (c_call 3 (s_l15Years_c hv1) rfl rfl rfl) ?_
  refine rp rfl w0 rfl (pu_move (r := .tup _) rfl) ?_
  refine rp rfl w0 rfl (pu_extract rfl rfl) ?_
  refine rp rfl w0 rfl (pu_extract rfl rfl) ?_
  refine pa ?_
  refine pa ?_
  refine nx ?_
  refine sq [0,1,2,3,4,5,6,7,8,9,10,11,12,13,14,15,16,17,18,19,20,21,22] ?_
  refine pm ?_
  refine pm ?_
  refine ra_ifB (u := 14) h0 rfl (fun hc h0 => ?_) (fun hc h0 => ?_)
  refine pmr1 ?_
  refine nr1 ?_
  refine fr1 tok ?_
  refine lr1 tok ?_
  obtain ⟨v2, hv2, h0⟩ := bnd h0
  refine rs rfl (w1 rfl rfl rfl) rfl (c_call 3 (s_IsName_c hv2) rfl rfl rfl) ?_
  refine pkt ?_
  refine pm ?_
  refine ra_ifB (u := 21) h0 rfl (fun hc h0 => ?_) (fun hc h0 => ?_)
  refine pmr1 ?_
  refine nr1 ?_
  refine fr1 tok ?_
  refine lr1 tok ?_
  obtain ⟨v3, hv3, h0⟩ := bnd h0
  refine rs rfl (w1 rfl rfl rfl) rfl (c_call 3 (s_l15Months_c hv3) rfl rfl rfl) ?_
  refine pkt ?_
  refine pm ?_
  refine ra_ifB (u := 28) h0 rfl (fun hc h0 => ?_) (fun hc h0 => ?_)
  refine pmr1 ?_
  refine nr1 ?_
  refine fr1 tok ?_
  refine lr1 tok ?_
  obtain ⟨v4, hv4, h0⟩ := bnd h0
  refine rs rfl (w1 rfl rfl rfl) rfl (c_call 3 (s_l00In_c hv4) rfl rfl rfl) ?_
  refine pkt ?_
  refine pa ?_
  refine nx ?_
  refine aw_ret ?_
  cases h0
  exact ret0_ (rs := [.tmp 2]) rfl
  iterate 5 refine k1 ?_
  refine pkf ?_
  refine pa ?_
  refine nx ?_
  refine aw_ret ?_
  cases h0
  exact ret0_ (rs := [.tmp 2]) rfl
  iterate 5 refine k1 ?_
  refine pkf ?_
  refine pm ?_
  iterate 5 refine k1 ?_
  refine pkf ?_
  refine pa ?_
  refine nx ?_
  refine aw_ret ?_
  cases h0
  exact ret0_ (rs := [.tmp 2]) rfl
  iterate 5 refine k1 ?_
  refine pkf ?_
  refine pm ?_
  iterate 5 refine k1 ?_
  refine pkf ?_
  refine pm ?_
  iterate 5 refine k1 ?_
  refine pkf ?_
  refine pa ?_
  refine nx ?_
  refine aw_ret ?_
  cases h0
  exact ret0_ (rs := [.tmp 2]) rfl

theorem s_l17Ok_c {p0 : List Int} {r : Bool} (h0 : s_l17Ok_m p0 = some r) : FnC Tryz.prog 123 [] [.d (.sl (List.map cI p0))] [] (.d (.v (.bool r))) := by
  refine fnc_intro (T := tt) (N := 19) tok Tryz.func123 rfl rfl (by kernel_rfl) rfl rfl ?_
  unfold s_l17Ok_m at h0
  refine sq [0] ?_
  refine pa ?_
  refine nx ?_
  obtain ⟨v7x, h1, h0⟩ := bnd h0
  refine aw_cutE v7x (fun v7 => ⟨updA ((fun _ => .dead)) 0 (.d (.sl (List.map cI p0))), lks [.no, .no, .no]⟩) ?_ ?_
  refine sq [0] ?_
  refine pa ?_
  refine nx ?_
  refine aw_block ?_
  refine aw_loopM (fun s4 => ⟨updA (updA ((fun _ => .dead)) 0 (.d (.sl (List.map cI p0)))) 3 (.d (.v (.int .i64 s4))), lks [.no, .no, .no]⟩) h1 ?_ (fun s4 y h2 => ?_)
  exact wk [0, 1, 2]
  refine aw_seq ?_
  refine sq [0,1,2,3] ?_
  refine pm ?_
  refine pm ?_
  refine rp rfl w0 rfl (pu_len_map tok rfl rfl rfl) ?_
  refine rp rfl w0 rfl (pu_lss rfl rfl) ?_
  refine nx ?_
  refine aw_if h2 rfl (fun hc h2 => ?_) (fun hc h2 => ?_)
  refine sk ?_
  refine aw_seq ?_
  refine aw_block ?_
  refine sq [0,1,2,3,4,5] ?_
  refine pm ?_
  refine pm ?_
  obtain ⟨v5, hv5, h2⟩ := bnd h2
  refine rp rfl w0 rfl (sl_ix tok hv5 rfl rfl rfl rfl rfl rfl) ?_
  refine lr tok ?_
  obtain ⟨v6, hv6, h2⟩ := bnd h2
  refine rs rfl w0 rfl (c_call 3 (s_l00In_c hv6) rfl rfl rfl) ?_
  refine rp rfl w0 rfl (pu_not rfl) ?_
  refine nx ?_
  refine aw_ifB h2 rfl (fun hc h2 => ?_) (fun hc h2 => ?_)
  refine sq [0] ?_
  refine pa ?_
  refine nx ?_
  refine aw_ret ?_
  refine block_r ?_
  refine then_r ?_
  cases h2
  refine loop_r ⟨_, rfl, fun e => ?_⟩
  subst e
  refine block_r ?_
  replace h0 := orE_s h0
  refine then_r ?_
  cases h0
  exact ret0_ (rs := [.tmp 2]) rfl
  refine aw_skip ?_
  refine block_n ?_
  refine then_n ?_
  refine sr [0,1,2] ?_
  refine pm ?_
  refine rp rfl w0 rfl (pw_add rfl rfl) ?_
  refine pa ?_
  refine ra_nil ?_
  refine loop_n ?_
  cases h2
  refine ⟨_, rfl, ?_⟩
  exact wk [0, 1, 2]
  refine aw_exit ?_
  refine then_e ?_
  cases h2
  refine loop_x ⟨_, rfl, fun e => ?_⟩
  subst e
  refine block_hit ?_
  refine then_n ?_
  refine ⟨_, rfl, ?_⟩
  exact wk [0, 1, 2]
  rintro v7 rfl
  replace h0 := orE_f h0
  refine sq [0,1,2,3] ?_
  refine pm ?_
  refine rp rfl w0 rfl (pu_len_map tok rfl rfl rfl) ?_
  obtain ⟨v8, hv8, h0⟩ := bnd h0
  refine rs rfl w0 rfl (c_call 3 (s_l00In_c hv8) rfl rfl rfl) ?_
  refine pa ?_
  refine nx ?_
  refine aw_ret ?_
  cases h0
  exact ret0_ (rs := [.tmp 2]) rfl

theorem s_l26Ok_c {p0 : Movement_} {r : Bool} (h0 : s_l26Ok_m p0 = some r) : FnC Tryz.prog 66 [] [.ref (cMovement_ p0)] [] (.d (.v (.bool r))) := by
  refine fnc_intro (T := tt) (N := 81) tok Tryz.func66 rfl rfl (by kernel_rfl) rfl rfl ?_
  unfold s_l26Ok_m at h0
  refine sq [0] ?_
  refine pa ?_
  refine nx ?_
  refine aw_seq ?_
  obtain ⟨v6, h1, h0⟩ := bnd h0
  refine aw_cut ⟨updA (updA ((fun _ => .dead)) 0 (.ref (cMovement_ p0))) 48 (.d (.v (.bool v6))), lks [.no, .no, .no]⟩ ?_ ?_
  refine aw_region_draw (is := [0, 1, 2, 3, 4, 5, 6, 7, 8, 9, 10, 11, 12, 13, 14, 15, 16, 17, 18, 19, 20, 21, 22, 23, 24, 25, 26, 27, 28, 29, 30, 31, 32, 33, 34, 35, 36, 37, 38, 39, 40, 41, 42, 43, 44, 45]) [0, 1, 3, 7, 15, 31, 63, 127, 255, 511, 1023, 2047, 4095, 8191, 16383, 32767, 65535, 16383, 147455, 409599, 933887, 2097151, 4194303, 8388607, 16777215, 33554431, 67108863, 134217727, 33554431, 301989887, 838860799, 1912602623, 4294967295, 8589934591, 17179869183, 34359738367, 68719476735, 137438953471, 274877906943, 68719476735, 618475290623, 1717986918399, 3917010173951, 8796093022207, 17592186044415, 35184372088831] follows (by kernel_rfl) ?_
  refine tpmr ?_
  refine tnr ?_
  refine tfr tok ?_
  refine tlr tok ?_
  obtain ⟨v1, hv1, h1⟩ := bnd h1
  refine rt_c rfl w0 rfl (b_call 3 (s_IsName_c hv1) rfl rfl rfl) ?_
  refine rt_p rfl w0 rfl (pu_not rfl) ?_
  refine tpm ?_
  refine rt_ifB (u := 9) h1 rfl (fun hc h1 => ?_) (fun hc h1 => ?_)
  iterate 5 refine k2 ?_
  refine tpkt ?_
  refine tpm ?_
  iterate 9 refine k2 ?_
  refine tpkt ?_
  refine tpm ?_
  iterate 9 refine k2 ?_
  refine tpkt ?_
  refine tpm ?_
  iterate 9 refine k2 ?_
  refine tpkt ?_
  refine rt_nil ?_
  refine ⟨by kernel_rfl, ?_⟩
  refine then_n ?_
  cases h1
  exact wk [0, 1, 2]
  refine tpmr1 ?_
  refine tnr1 ?_
  refine tfr1 tok ?_
  obtain ⟨v2, hv2, h1⟩ := bnd h1
  refine rt_c rfl (w1 rfl rfl rfl) rfl (b_call 3 (fnc_pre (s_l08Ok_c hv2)) rfl rfl rfl) ?_
  refine rt_p rfl (w1 rfl rfl rfl) rfl (pu_not rfl) ?_
  refine tpkf ?_
  refine tpm ?_
  refine rt_ifB (u := 16) h1 rfl (fun hc h1 => ?_) (fun hc h1 => ?_)
  iterate 9 refine k2 ?_
  refine tpkt ?_
  refine tpm ?_
  iterate 9 refine k2 ?_
  refine tpkt ?_
  refine tpm ?_
  iterate 9 refine k2 ?_
  refine tpkt ?_
  refine rt_nil ?_
  refine ⟨by kernel_rfl, ?_⟩
  refine then_n ?_
  cases h1
  exact wk [0, 1, 2]
  refine tpmr1 ?_
  refine tnr1 ?_
  refine tfr1 tok ?_
  refine tpmr1 ?_
  refine tnr1 ?_
  refine tfr1 tok ?_
  refine tlr1 tok ?_
  obtain ⟨v3, hv3, h1⟩ := bnd h1
  refine rt_c rfl (w1 rfl rfl rfl) rfl (b_call 3 (fnc_pre (s_l08Root_c hv3)) rfl rfl rfl) ?_
  refine rt_p rfl (w1 rfl rfl rfl) rfl (pu_not rfl) ?_
  refine tpkf ?_
  refine tpm ?_
  refine rt_ifB (u := 27) h1 rfl (fun hc h1 => ?_) (fun hc h1 => ?_)
  iterate 9 refine k2 ?_
  refine tpkt ?_
  refine tpm ?_
  iterate 9 refine k2 ?_
  refine tpkt ?_
  refine rt_nil ?_
  refine ⟨by kernel_rfl, ?_⟩
  refine then_n ?_
  cases h1
  exact wk [0, 1, 2]
  refine tpmr1 ?_
  refine tnr1 ?_
  refine tfr1 tok ?_
  refine tpmr1 ?_
  refine tnr1 ?_
  refine tfr1 tok ?_
  refine tlr1 tok ?_
  obtain ⟨v4, hv4, h1⟩ := bnd h1
  refine rt_c rfl (w1 rfl rfl rfl) rfl (b_call 3 (fnc_pre (s_l08Root_c hv4)) rfl rfl rfl) ?_
  refine rt_p rfl (w1 rfl rfl rfl) rfl (pu_not rfl) ?_
  refine tpkf ?_
  refine tpm ?_
  refine rt_ifB (u := 38) h1 rfl (fun hc h1 => ?_) (fun hc h1 => ?_)
  iterate 9 refine k2 ?_
  refine tpkt ?_
  refine rt_nil ?_
  refine ⟨by kernel_rfl, ?_⟩
  refine then_n ?_
  cases h1
  exact wk [0, 1, 2]
  refine tpmr1 ?_
  refine tnr1 ?_
  refine tfr1 tok ?_
  refine tpmr1 ?_
  refine tnr1 ?_
  refine tfr1 tok ?_
  refine tlr1 tok ?_
  obtain ⟨v5, hv5, h1⟩ := bnd h1
  refine rt_c rfl (w1 rfl rfl rfl) rfl (b_call 3 (fnc_pre (s_l08Root_c hv5)) rfl rfl rfl) ?_
  refine rt_p rfl (w1 rfl rfl rfl) rfl (pu_not rfl) ?_
  refine tpkf ?_
  refine rt_nil ?_
  refine ⟨by kernel_rfl, ?_⟩
  refine then_n ?_
  cases h1
  exact wk [0, 1, 2]
  refine aw_ifB h0 rfl (fun hc h0 => ?_) (fun hc h0 => ?_)
  refine sq [0] ?_
  refine pa ?_
  refine nx ?_
  refine aw_ret ?_
  refine then_r ?_
  cases h0
  exact ret0_ (rs := [.tmp 2]) rfl
  refine sk ?_
  refine sq [0,1,2,3,4,5,6,7,8,9,10,11,12,13,14,15,16,17,18,19,20,21,22,23,24,25,26,27,28,29,30,31,32] ?_
  refine pmr ?_
  refine nr ?_
  refine fr tok ?_
  refine lr tok ?_
  obtain ⟨v7, hv7, h0⟩ := bnd h0
  refine rs rfl w0 rfl (c_call 3 (s_l05Teeth_c hv7) rfl rfl rfl) ?_
  refine pm ?_
  refine ra_ifB (u := 54) h0 rfl (fun hc h0 => ?_) (fun hc h0 => ?_)
  refine pmr1 ?_
  refine nr1 ?_
  refine fr1 tok ?_
  refine lr1 tok ?_
  obtain ⟨v8, hv8, h0⟩ := bnd h0
  refine rs rfl (w1 rfl rfl rfl) rfl (c_call 3 (s_l00In_c hv8) rfl rfl rfl) ?_
  refine pkt ?_
  refine pm ?_
  refine ra_ifB (u := 61) h0 rfl (fun hc h0 => ?_) (fun hc h0 => ?_)
  refine pmr1 ?_
  refine nr1 ?_
  refine fr1 tok ?_
  obtain ⟨v9, hv9, h0⟩ := bnd h0
  refine rs rfl (w1 rfl rfl rfl) rfl (c_call 3 (fnc_pre (s_l15Ok_c hv9)) rfl rfl rfl) ?_
  refine pkt ?_
  refine pm ?_
  refine ra_ifB (u := 67) h0 rfl (fun hc h0 => ?_) (fun hc h0 => ?_)
  refine pmr1 ?_
  refine nr1 ?_
  refine fr1 tok ?_
  refine lr1 tok ?_
  obtain ⟨v10, hv10, h0⟩ := bnd h0
  refine rs rfl (w1 rfl rfl rfl) rfl (c_call 3 (s_l17Ok_c hv10) rfl rfl rfl) ?_
  refine pkt ?_
  refine pm ?_
  refine ra_ifB (u := 74) h0 rfl (fun hc h0 => ?_) (fun hc h0 => ?_)
  refine pmr1 ?_
  refine nr1 ?_
  refine fr1 tok ?_
  refine lr1 tok ?_
  obtain ⟨v11, hv11, h0⟩ := bnd h0
  refine rs rfl (w1 rfl rfl rfl) rfl (c_call 3 (s_l00In_c hv11) rfl rfl rfl) ?_
  refine pkt ?_
  refine pa ?_
  refine nx ?_
  refine aw_ret ?_
  cases h0
  exact ret0_ (rs := [.tmp 2]) rfl
  iterate 5 refine k1 ?_
  refine pkf ?_
  refine pa ?_
  refine nx ?_
  refine aw_ret ?_
  cases h0
  exact ret0_ (rs := [.tmp 2]) rfl
  iterate 5 refine k1 ?_
  refine pkf ?_
  refine pm ?_
  iterate 5 refine k1 ?_
  refine pkf ?_
  refine pa ?_
  refine nx ?_
  refine aw_ret ?_
  cases h0
  exact ret0_ (rs := [.tmp 2]) rfl
  iterate 4 refine k1 ?_
  refine pkf ?_
  refine pm ?_
  iterate 5 refine k1 ?_
  refine pkf ?_
  refine pm ?_
  iterate 5 refine k1 ?_
  refine pkf ?_
  refine pa ?_
  refine nx ?_
  refine aw_ret ?_
  cases h0
  exact ret0_ (rs := [.tmp 2]) rfl
  iterate 5 refine k1 ?_
  refine pkf ?_
  refine pm ?_
  iterate 4 refine k1 ?_
  refine pkf ?_
  refine pm ?_
  iterate 5 refine k1 ?_
  refine pkf ?_
  refine pm ?_
  iterate 5 refine k1 ?_
  refine pkf ?_
  refine pa ?_
  refine nx ?_
  refine aw_ret ?_
  cases h0
  exact ret0_ (rs := [.tmp 2]) rfl

theorem s_l02Whole_c {p0 : Int} {r : Ratio_} (h0 : s_l02Whole_m p0 = some r) : FnC Tryz.prog 187 [] [.d (.v (.int .i64 p0))] [] (.agg [.d (.v (.int .i64 r.Num)), .d (.v (.int .i64 r.Den))]) := by
  refine fnc_intro (T := tt) (N := 5) tok Tryz.func187 rfl rfl (by kernel_rfl) rfl rfl ?_
  unfold s_l02Whole_m at h0
  refine sq [0] ?_
  refine rs rfl w0 rfl (st_alloc 3 (cs := [.d (.v (.int .i64 0)), .d (.v (.int .i64 0))]) tok rfl rfl rfl) ?_
  refine nx ?_
  refine sq [0,1,2] ?_
  refine pm ?_
  refine rp rfl w0 rfl (pbl (C0 := [.d (.v (.int .i64 0)), .d (.v (.int .i64 0))]) tok rfl rfl rfl) ?_
  refine rw0 rfl w0 (bx_st (cs := _ :: _) tok rfl rfl rfl rfl rfl rfl rfl) ?_
  refine nx ?_
  refine aw_ret ?_
  cases h0
  exact ret0_ (rs := [.cell 2 164]) rfl

theorem s_l08Pair_c {p0 : Works_} {p1 : Mesh_} {r : Pair_} (h0 : s_l08Pair_m p0 p1 = some r) : FnC Tryz.prog 230 [] [.ref (cWorks_ p0), .agg [.d (.v (.int .i64 p1.A)), .d (.v (.int .i64 p1.WheelA)), .d (.v (.int .i64 p1.B)), .d (.v (.int .i64 p1.WheelB))]] [] (.agg [.d (.v (.int .i64 r.Driver)), .d (.v (.int .i64 r.Driven))]) := by
  refine fnc_intro (T := tt) (N := 32) tok Tryz.func230 rfl rfl (by kernel_rfl) rfl rfl ?_
  unfold s_l08Pair_m at h0
  refine sq [0,1] ?_
  refine rs rfl w0 rfl (st_box 3 (cs := _ :: _) rfl rfl rfl) ?_
  refine rs rfl w0 rfl (st_alloc 4 (cs := [.d (.v (.int .i64 0)), .d (.v (.int .i64 0))]) tok rfl rfl rfl) ?_
  refine nx ?_
  refine aw_seq ?_
  refine aw_region_draw (is := [0, 1, 2, 3, 4, 5, 6, 7, 8, 9, 10, 11, 12, 13, 14, 15, 16, 17, 18, 19, 20, 21, 22, 23, 24, 25, 26, 27]) [0, 1, 3, 7, 0, 16, 63, 127, 255, 0, 512, 2047, 4095, 0, 8192, 24576, 57344, 0, 131072, 516096, 1040384, 2088960, 0, 4194304, 16769024, 33546240, 67108863, 134217727] follows (by kernel_rfl) ?_
  refine tpmr ?_
  refine tnr ?_
  refine tfr tok ?_
  refine tlr tok ?_
  refine rt_lk rfl w0 rfl (bx_fa tok rfl rfl rfl rfl rfl rfl rfl) rfl rfl rfl ?_
  refine rt_lk rfl w0 rfl (bx_ld1 tok rfl rfl rfl rfl rfl) rfl rfl rfl ?_
  obtain ⟨v1, hv1, h0⟩ := bnd h0
  refine rt_p rfl w0 rfl (sl_ix tok hv1 rfl rfl rfl rfl rfl rfl) ?_
  refine tfr tok ?_
  refine tlr tok ?_
  refine rt_lk rfl w0 rfl (bx_fa tok rfl rfl rfl rfl rfl rfl rfl) rfl rfl rfl ?_
  refine rt_lk rfl w0 rfl (bx_ld1 tok rfl rfl rfl rfl rfl) rfl rfl rfl ?_
  obtain ⟨v2, hv2, h0⟩ := bnd h0
  refine rt_p rfl w0 rfl (sl_ix tok hv2 rfl rfl rfl rfl rfl rfl) ?_
  refine tlr tok ?_
  refine tpmr ?_
  refine tnr ?_
  refine tfr tok ?_
  refine tlr tok ?_
  refine rt_lk rfl w0 rfl (bx_fa tok rfl rfl rfl rfl rfl rfl rfl) rfl rfl rfl ?_
  refine rt_lk rfl w0 rfl (bx_ld1 tok rfl rfl rfl rfl rfl) rfl rfl rfl ?_
  obtain ⟨v3, hv3, h0⟩ := bnd h0
  refine rt_p rfl w0 rfl (sl_ix tok hv3 rfl rfl rfl rfl rfl rfl) ?_
  refine tfr tok ?_
  refine tlr tok ?_
  refine rt_lk rfl w0 rfl (bx_fa tok rfl rfl rfl rfl rfl rfl rfl) rfl rfl rfl ?_
  refine rt_lk rfl w0 rfl (bx_ld1 tok rfl rfl rfl rfl rfl) rfl rfl rfl ?_
  obtain ⟨v4, hv4, h0⟩ := bnd h0
  refine rt_p rfl w0 rfl (sl_ix tok hv4 rfl rfl rfl rfl rfl rfl) ?_
  refine tlr tok ?_
  refine rt_p rfl w0 rfl (pbl (C0 := [.d (.v (.int .i64 0)), .d (.v (.int .i64 0))]) tok rfl rfl rfl) ?_
  refine rt_wk rfl w0 (bx_st (cs := _ :: _) tok rfl rfl rfl rfl rfl rfl rfl) ?_
  refine rt_nil ?_
  refine ⟨by kernel_rfl, ?_⟩
  refine then_n ?_
  refine aw_ret ?_
  cases h0
  exact ret0_ (rs := [.cell 4 191]) rfl

theorem s_l02Part_c {p0 : Int} {r : Int} (h0 : s_l02Part_m p0 = some r) : FnC Tryz.prog 215 [] [.d (.v (.int .i64 p0))] [] (.d (.v (.int .u64 r))) := by
  refine fnc_intro (T := tt) (N := 10) tok Tryz.func215 rfl rfl (by kernel_rfl) rfl rfl ?_
  unfold s_l02Part_m at h0
  refine sq [0] ?_
  refine pa ?_
  refine nx ?_
  refine aw_seq ?_
  refine sq [0,1] ?_
  refine pm ?_
  refine rp rfl w0 rfl (pu_lss rfl rfl) ?_
  refine nx ?_
  refine aw_if h0 rfl (fun hc h0 => ?_) (fun hc h0 => ?_)
  refine sq [0,1,2,3] ?_
  refine pm ?_
  refine rp rfl w0 rfl (pu_ii tok rfl rfl rfl rfl rfl) ?_
  refine rp rfl w0 rfl (pu_negw rfl) ?_
  refine pa ?_
  refine nx ?_
  refine aw_ret ?_
  refine then_r ?_
  cases h0
  exact ret0_ (rs := [.tmp 2]) rfl
  refine sk ?_
  refine sq [0,1,2] ?_
  refine pm ?_
  refine rp rfl w0 rfl (pu_ii tok rfl rfl rfl rfl rfl) ?_
  refine pa ?_
  refine nx ?_
  refine aw_ret ?_
  cases h0
  exact ret0_ (rs := [.tmp 2]) rfl

theorem s_l02Make_c {p0 : Int} {p1 : Int} {r : Ratio_ × Bool} (h0 : s_l02Make_m p0 p1 = some r) : FnC Tryz.prog 161 [] [.d (.v (.int .i64 p0)), .d (.v (.int .i64 p1))] [] (.tup [.agg [.d (.v (.int .i64 r.1.Num)), .d (.v (.int .i64 r.1.Den))], .d (.v (.bool r.2))]) := by
  refine fnc_intro (T := tt) (N := 53) tok Tryz.func161 rfl rfl (by kernel_rfl) rfl rfl ?_
  unfold s_l02Make_m at h0
  refine sq [0,1] ?_
  refine rs rfl w0 rfl (st_alloc 3 (cs := [.d (.v (.int .i64 0)), .d (.v (.int .i64 0))]) tok rfl rfl rfl) ?_
  refine pa ?_
  refine nx ?_
  refine sq [0,1,2] ?_
  refine pm ?_
  obtain ⟨v1, hv1, h0⟩ := bnd h0
  refine rs rfl w0 rfl (c_call 4 (s_l02Part_c hv1) rfl rfl rfl) ?_
  refine pa ?_
  refine nx ?_
  refine sq [0,1,2] ?_
  refine pm ?_
  obtain ⟨v2, hv2, h0⟩ := bnd h0
  refine rs rfl w0 rfl (c_call 4 (s_l02Part_c hv2) rfl rfl rfl) ?_
  refine pa ?_
  refine nx ?_
  refine sq [0,1] ?_
  refine pm ?_
  refine pa ?_
  refine nx ?_
  refine sq [0,1] ?_
  refine pm ?_
  refine pa ?_
  refine nx ?_
  obtain ⟨v7, h1, h0⟩ := bnd h0
  refine aw_cut ⟨updA (updA (updA (updA (updA (updA ((fun _ => .dead)) 0 (.d (.v (.int .i64 p0)))) 1 (.d (.v (.int .i64 p1)))) 4 (.ptr 3 0 1 0 0)) 6 (.d (.v (.int .u64 v1)))) 7 (.d (.v (.int .u64 v2)))) 8 (.d (.v (.int .u64 v7))), lks [.no, .no, .no, .live [⟨164, 2, .av [[.d (.v (.int .i64 0)), .d (.v (.int .i64 0))]]⟩]]⟩ ?_ ?_
  refine aw_block ?_
  refine aw_loopM (fun s5 => ⟨updA (updA (updA (updA (updA (updA (updA ((fun _ => .dead)) 0 (.d (.v (.int .i64 p0)))) 1 (.d (.v (.int .i64 p1)))) 4 (.ptr 3 0 1 0 0)) 6 (.d (.v (.int .u64 v1)))) 7 (.d (.v (.int .u64 v2)))) 8 (.d (.v (.int .u64 s5.1)))) 9 (.d (.v (.int .u64 s5.2))), lks [.no, .no, .no, .live [⟨164, 2, .av [[.d (.v (.int .i64 0)), .d (.v (.int .i64 0))]]⟩]]⟩) h1 ?_ (fun s5 y h2 => ?_)
  exact wk [0, 1, 2, 3]
  refine aw_seq ?_
  refine sq [0,1] ?_
  refine pm ?_
  refine rp rfl w0 rfl (pu_gtr rfl rfl) ?_
  refine nx ?_
  refine aw_if h2 rfl (fun hc h2 => ?_) (fun hc h2 => ?_)
  refine sk ?_
  refine aw_block ?_
  refine sq [0,1,2,3] ?_
  refine pm ?_
  refine pm ?_
  obtain ⟨hq6, h2⟩ := chk_e h2
  refine rp rfl w0 rfl (pu_remw rfl rfl hq6) ?_
  refine pa ?_
  refine nx ?_
  refine sq [0,1] ?_
  refine pm ?_
  refine pa ?_
  refine nx ?_
  refine sr [0,1] ?_
  refine pm ?_
  refine pa ?_
  refine ra_nil ?_
  refine block_n ?_
  refine loop_n ?_
  cases h2
  refine ⟨_, rfl, ?_⟩
  exact wk [0, 1, 2, 3]
  refine aw_exit ?_
  refine then_e ?_
  cases h2
  refine loop_x ⟨_, rfl, fun e => ?_⟩
  subst e
  refine block_hit ?_
  refine then_n ?_
  exact wk [0, 1, 2, 3]
  refine sq [0,1,2,3] ?_
  refine pm ?_
  refine pm ?_
  obtain ⟨hq8, h0⟩ := chk_e h0
  refine rp rfl w0 rfl (pu_quow rfl rfl hq8) ?_
  refine pa ?_
  refine nx ?_
  refine sq [0,1,2,3] ?_
  refine pm ?_
  refine pm ?_
  obtain ⟨hq9, h0⟩ := chk_e h0
  refine rp rfl w0 rfl (pu_quow rfl rfl hq9) ?_
  refine pa ?_
  refine nx ?_
  refine aw_seq ?_
  obtain ⟨v10, h1, h0⟩ := bnd h0
  refine aw_cut ⟨updA (updA (updA (updA (updA (updA ((fun _ => .dead)) 0 (.d (.v (.int .i64 p0)))) 1 (.d (.v (.int .i64 p1)))) 4 (.ptr 3 0 1 0 0)) 6 (.d (.v (.int .u64 (IntKind.u64.wrap (v1.tdiv v7)))))) 7 (.d (.v (.int .u64 (IntKind.u64.wrap (v2.tdiv v7)))))) 36 (.d (.v (.bool v10))), lks [.no, .no, .no, .live [⟨164, 2, .av [[.d (.v (.int .i64 0)), .d (.v (.int .i64 0))]]⟩]]⟩ ?_ ?_
  refine sr [0,1,2,3,4,5] ?_
  refine pm ?_
  refine rp rfl w0 rfl (pu_gtr rfl rfl) ?_
  refine pm ?_
  refine ra_if (u := 33) h1 rfl (fun hc h1 => ?_) (fun hc h1 => ?_)
  refine k1 ?_
  refine k1 ?_
  refine pkt ?_
  refine nx ?_
  cases h1
  exact wk [0, 1, 2, 3]
  refine pm1 ?_
  refine rp rfl (w1 rfl rfl rfl) rfl (pu_gtr rfl rfl) ?_
  refine pkf ?_
  refine nx ?_
  cases h1
  exact wk [0, 1, 2, 3]
  refine aw_ifB h0 rfl (fun hc h0 => ?_) (fun hc h0 => ?_)
  refine sq [0,1,2] ?_
  refine rp rfl w0 rfl (pbl (C0 := [.d (.v (.int .i64 0)), .d (.v (.int .i64 0))]) tok rfl rfl rfl) ?_
  refine rw0 rfl w0 (bx_st (cs := _ :: _) tok rfl rfl rfl rfl rfl rfl rfl) ?_
  refine pa ?_
  refine nx ?_
  refine aw_ret ?_
  refine then_r ?_
  cases h0
  exact ret0_ (rs := [.cell 4 164, .tmp 5]) rfl
  refine sk ?_
  refine sq [0,1,2,3,4,5,6] ?_
  refine pm ?_
  refine rp rfl w0 rfl (pw_cv tok rfl rfl rfl rfl rfl) ?_
  refine pm ?_
  refine rp rfl w0 rfl (pw_cv tok rfl rfl rfl rfl rfl) ?_
  refine rp rfl w0 rfl (pbl (C0 := [.d (.v (.int .i64 0)), .d (.v (.int .i64 0))]) tok rfl rfl rfl) ?_
  refine rs rfl w0 rfl (st_alloc 4 (cs := [.d (.v (.int .i64 0)), .d (.v (.int .i64 0))]) tok rfl rfl rfl) ?_
  refine rw0 rfl w0 (bx_st (cs := _ :: _) tok rfl rfl rfl rfl rfl rfl rfl) ?_
  refine nx ?_
  obtain ⟨v11, h1, h0⟩ := bnd h0
  refine aw_cut ⟨updA (updA ((fun _ => .dead)) 4 (.ptr 3 0 1 0 0)) 11 (.ptr 4 0 1 0 0), lks [.no, .no, .no, .live [⟨164, 2, .av [[.d (.v (.int .i64 0)), .d (.v (.int .i64 0))]]⟩], .live [⟨164, 2, .av [[.d (.v (.int .i64 v11.Num)), .d (.v (.int .i64 v11.Den))]]⟩]]⟩ ?_ ?_
  refine sq [0,1,2,3,4] ?_
  refine pm ?_
  refine rp rfl w0 rfl (pu_lss rfl rfl) ?_
  refine pm ?_
  refine rp rfl w0 rfl (pu_lss rfl rfl) ?_
  refine rp rfl w0 rfl (pu_bneq tok rfl rfl rfl rfl) ?_
  refine nx ?_
  refine aw_ifB h1 rfl (fun hc h1 => ?_) (fun hc h1 => ?_)
  refine sr [0,1,2,3,4] ?_
  refine fa tok ?_
  refine ld tok ?_
  refine rp rfl w0 rfl (pw_neg rfl) ?_
  refine fa tok ?_
  refine rw0 rfl w0 (bx_st (cs := [.d _]) tok rfl rfl rfl rfl rfl rfl rfl) ?_
  refine nx ?_
  cases h1
  exact wk [0, 1, 2, 3, 4]
  refine sk ?_
  cases h1
  exact wk [0, 1, 2, 3, 4]
  refine sq [0,1,2] ?_
  refine rl rfl w0 rfl (bx_ldN tok rfl rfl rfl rfl) ?_
  refine rw0 rfl w0 (bx_st (cs := _ :: _) tok rfl rfl rfl rfl rfl rfl rfl) ?_
  refine pa ?_
  refine nx ?_
  refine aw_ret ?_
  cases h0
  exact ret0_ (rs := [.cell 4 164, .tmp 5]) rfl

theorem s_l02Mul_c {p0 : Ratio_} {p1 : Ratio_} {r : Ratio_ × Bool} (h0 : s_l02Mul_m p0 p1 = some r) : FnC Tryz.prog 231 [] [.agg [.d (.v (.int .i64 p0.Num)), .d (.v (.int .i64 p0.Den))], .agg [.d (.v (.int .i64 p1.Num)), .d (.v (.int .i64 p1.Den))]] [] (.tup [.agg [.d (.v (.int .i64 r.1.Num)), .d (.v (.int .i64 r.1.Den))], .d (.v (.bool r.2))]) := by
  refine fnc_intro (T := tt) (N := 19) tok Tryz.func231 rfl rfl (by kernel_rfl) rfl rfl ?_
  unfold s_l02Mul_m at h0
  refine sq [0,1,2,3] ?_
  refine rs rfl w0 rfl (st_box 3 (cs := _ :: _) rfl rfl rfl) ?_
  refine rs rfl w0 rfl (st_box 4 (cs := _ :: _) rfl rfl rfl) ?_
  refine rs rfl w0 rfl (st_alloc 5 (cs := [.d (.v (.int .i64 0)), .d (.v (.int .i64 0))]) tok rfl rfl rfl) ?_
  refine pa ?_
  refine nx ?_
  refine sq [0,1,2,3,4,5,6,7,8,9,10,11,12,13,14] ?_
  refine fa tok ?_
  refine ld tok ?_
  refine fa tok ?_
  refine ld tok ?_
  refine rp rfl w0 rfl (pw_mul rfl rfl) ?_
  refine fa tok ?_
  refine ld tok ?_
  refine fa tok ?_
  refine ld tok ?_
  refine rp rfl w0 rfl (pw_mul rfl rfl) ?_
  obtain ⟨v1, hv1, h0⟩ := bnd h0
  refine rs rfl w0 rfl (c_call 6 (s_l02Make_c hv1) rfl rfl rfl) ?_
  refine rp rfl w0 rfl (pu_extract rfl rfl) ?_
  refine rp rfl w0 rfl (pu_extract rfl rfl) ?_
  refine rw0 rfl w0 (bx_st (cs := _ :: _) tok rfl rfl rfl rfl rfl rfl rfl) ?_
  refine pa ?_
  refine nx ?_
  refine aw_ret ?_
  cases h0
  exact ret0_ (rs := [.cell 4 164, .tmp 5]) rfl

theorem s_l08Round_o_o_c {p0 : Works_} {p1 : List Bool} {p2 : List Ratio_} {r : Bool × Bool × List Bool × List Ratio_} (h0 : s_l08Round_o_o_m p0 p1 p2 = some r) : FnC Tryz.prog 188 [.live [⟨4, 1, .data (List.map cB p1)⟩], .live [⟨164, 2, .data (List.map cRatio_ p2)⟩]] [.ref (cWorks_ p0), .own 0 0 (p1).length, .own 1 0 (p2).length] [.live [⟨4, 1, .data (List.map cB r.2.2.1)⟩], .live [⟨164, 2, .data (List.map cRatio_ r.2.2.2)⟩]] (.tup [.d (.v (.bool r.1)), .d (.v (.bool r.2.1))]) := by
  refine fnc_intro (T := tt) (N := 92) tok Tryz.func188 rfl rfl (by kernel_rfl) rfl rfl ?_
  unfold s_l08Round_o_o_m at h0
  refine sq [0,1] ?_
  refine pa ?_
  refine pa ?_
  refine nx ?_
  refine sq [0] ?_
  refine pa ?_
  refine nx ?_
  obtain ⟨v27x, h1, h0⟩ := bnd h0
  refine aw_cutE v27x (fun v27 => ⟨updA ((fun _ => .dead)) 8 (.d (.v (.bool v27.1))), lks [.live [⟨4, 1, .data (List.map cB v27.2.1)⟩], .live [⟨164, 2, .data (List.map cRatio_ v27.2.2)⟩], .no]⟩) ?_ ?_
  refine sq [0] ?_
  refine pa ?_
  refine nx ?_
  refine aw_block ?_
  refine aw_loopM (fun s14 => ⟨updA (updA (updA (updA (updA ((fun _ => .dead)) 0 (.ref (cWorks_ p0))) 1 (.own 0 0 (s14.2.2.1).length)) 2 (.own 1 0 (s14.2.2.2).length)) 8 (.d (.v (.bool s14.1)))) 9 (.d (.v (.int .i64 s14.2.1))), lks [.live [⟨4, 1, .data (List.map cB s14.2.2.1)⟩], .live [⟨164, 2, .data (List.map cRatio_ s14.2.2.2)⟩], .no]⟩) h1 ?_ (fun s14 y h2 => ?_)
  exact wk [0, 1, 2]
  refine aw_seq ?_
  refine sq [0,1,2,3,4,5,6] ?_
  refine pm ?_
  refine pmr ?_
  refine nr ?_
  refine fr tok ?_
  refine lr tok ?_
  refine rp rfl w0 rfl (pu_len_map tok rfl rfl rfl) ?_
  refine rp rfl w0 rfl (pu_lss rfl rfl) ?_
  refine nx ?_
  refine aw_if h2 rfl (fun hc h2 => ?_) (fun hc h2 => ?_)
  refine sk ?_
  obtain ⟨v26x, h3, h2⟩ := bnd h2
  refine aw_cutE v26x (fun v26 => ⟨updA (updA (updA (updA (updA ((fun _ => .dead)) 0 (.ref (cWorks_ p0))) 1 (.own 0 0 (v26.2.1).length)) 2 (.own 1 0 (v26.2.2).length)) 8 (.d (.v (.bool v26.1)))) 9 (.d (.v (.int .i64 s14.2.1))), lks [.live [⟨4, 1, .data (List.map cB v26.2.1)⟩], .live [⟨164, 2, .data (List.map cRatio_ v26.2.2)⟩], .no]⟩) ?_ ?_
  refine aw_block ?_
  refine sq [0,1,2,3,4,5,6,7,8] ?_
  refine pmr ?_
  refine nr ?_
  refine fr tok ?_
  refine lr tok ?_
  refine pm ?_
  obtain ⟨v15, hv15, h3⟩ := bnd h3
  refine rp rfl w0 rfl (sl_ix tok hv15 rfl rfl rfl rfl rfl rfl) ?_
  refine rp rfl w0 rfl (pu_load_refN tok rfl rfl rfl (by repeat (first | exact SegD.z _ | apply SegD.t))) ?_
  refine rs rfl w0 rfl (st_alloc 3 (cs := [.d (.v (.int .i64 0)), .d (.v (.int .i64 0)), .d (.v (.int .i64 0)), .d (.v (.int .i64 0))]) tok rfl rfl rfl) ?_
  refine rw0 rfl w0 (bx_st (cs := _ :: _) tok rfl rfl rfl rfl rfl rfl rfl) ?_
  refine nx ?_
  refine sq [0,1,2,3,4] ?_
  refine pmr ?_
  refine rl rfl w0 rfl (bx_ldN tok rfl rfl rfl rfl) ?_
  obtain ⟨v16, hv16, h3⟩ := bnd h3
  refine rs rfl w0 rfl (c_call 4 (s_l08Pair_c hv16) rfl rfl rfl) ?_
  refine rs rfl w0 rfl (st_alloc 4 (cs := [.d (.v (.int .i64 0)), .d (.v (.int .i64 0))]) tok rfl rfl rfl) ?_
  refine rw0 rfl w0 (bx_st (cs := _ :: _) tok rfl rfl rfl rfl rfl rfl rfl) ?_
  refine nx ?_
  refine aw_seq ?_
  refine aw_seq ?_
  refine aw_region_draw (is := [0, 1, 2, 3, 4, 5, 6, 7, 8, 9, 10]) [0, 0, 2, 7, 15, 0, 0, 64, 224, 480, 1023] follows (by kernel_rfl) ?_
  refine rt_p rfl w0 rfl (pu_move (r := .own _ _ _) rfl) ?_
  refine rt_lk rfl w0 rfl (bx_fa tok rfl rfl rfl rfl rfl rfl rfl) rfl rfl rfl ?_
  refine rt_lk rfl w0 rfl (bx_ld1 tok rfl rfl rfl rfl rfl) rfl rfl rfl ?_
  obtain ⟨v17, hv17, h3⟩ := bnd h3
  refine rt_lk rfl w0 rfl (ow_ix tok hv17 rfl rfl rfl rfl rfl rfl rfl rfl) rfl rfl rfl ?_
  refine rt_lk rfl w0 rfl (rw_ld1 tok (atI_e hv17).2.1 rfl rfl rfl rfl rfl rfl) rfl rfl rfl ?_
  refine rt_p rfl w0 rfl (pu_move (r := .own _ _ _) rfl) ?_
  refine rt_lk rfl w0 rfl (bx_fa tok rfl rfl rfl rfl rfl rfl rfl) rfl rfl rfl ?_
  refine rt_lk rfl w0 rfl (bx_ld1 tok rfl rfl rfl rfl rfl) rfl rfl rfl ?_
  obtain ⟨v18, hv18, h3⟩ := bnd h3
  refine rt_lk rfl w0 rfl (ow_ix tok hv18 rfl rfl rfl rfl rfl rfl rfl rfl) rfl rfl rfl ?_
  refine rt_lk rfl w0 rfl (rw_ld1 tok (atI_e hv18).2.1 rfl rfl rfl rfl rfl rfl) rfl rfl rfl ?_
  refine rt_p rfl w0 rfl (pu_beql tok rfl rfl rfl rfl) ?_
  refine rt_nil ?_
  refine ⟨by kernel_rfl, ?_⟩
  refine then_n ?_
  refine aw_ifB h3 rfl (fun hc h3 => ?_) (fun hc h3 => ?_)
  refine aw_exit ?_
  refine then_e ?_
  refine block_hit ?_
  refine then_n ?_
  cases h3
  refine ⟨_, rfl, ?_⟩
  exact wk [0, 1, 2]
  refine sk ?_
  obtain ⟨v20, h4, h3⟩ := bnd h3
  refine aw_cut ⟨updA (updA (updA (updA (updA (updA ((fun _ => .dead)) 0 (.ref (cWorks_ p0))) 1 (.own 0 0 (s14.2.2.1).length)) 2 (.own 1 0 (s14.2.2.2).length)) 9 (.d (.v (.int .i64 s14.2.1)))) 10 (.ptr 3 0 1 0 0)) 11 (.ptr 4 0 1 0 0), lks [.live [⟨4, 1, .data (List.map cB s14.2.2.1)⟩], .live [⟨164, 2, .data (List.map cRatio_ s14.2.2.2)⟩], .no, .live [⟨215, 4, .av [[.d (.v (.int .i64 v20.1.A)), .d (.v (.int .i64 v20.1.WheelA)), .d (.v (.int .i64 v20.1.B)), .d (.v (.int .i64 v20.1.WheelB))]]⟩], .live [⟨191, 2, .av [[.d (.v (.int .i64 v20.2.Driver)), .d (.v (.int .i64 v20.2.Driven))]]⟩]]⟩ ?_ ?_
  refine sq [0,1,2,3,4] ?_
  refine rp rfl w0 rfl (pu_move (r := .own _ _ _) rfl) ?_
  refine fa tok ?_
  refine ld tok ?_
  obtain ⟨v19, hv19, h4⟩ := bnd h4
  refine rl rfl w0 rfl (ow_ix tok hv19 rfl rfl rfl rfl rfl rfl rfl rfl) ?_
  refine rl rfl w0 rfl (rw_ld1 tok (atI_e hv19).2.1 rfl rfl rfl rfl rfl rfl) ?_
  refine nx ?_
  refine aw_ifB h4 rfl (fun hc h4 => ?_) (fun hc h4 => ?_)
  refine sq [0,1,2,3,4,5] ?_
  refine fa tok ?_
  refine ld tok ?_
  refine fa tok ?_
  refine ld tok ?_
  refine rp rfl w0 rfl (pbl (C0 := [.d (.v (.int .i64 0)), .d (.v (.int .i64 0)), .d (.v (.int .i64 0)), .d (.v (.int .i64 0))]) tok rfl rfl rfl) ?_
  refine rw0 rfl w0 (bx_st (cs := _ :: _) tok rfl rfl rfl rfl rfl rfl rfl) ?_
  refine nx ?_
  refine sr [0,1,2,3,4,5] ?_
  refine fa tok ?_
  refine ld tok ?_
  refine fa tok ?_
  refine ld tok ?_
  refine rp rfl w0 rfl (pbl (C0 := [.d (.v (.int .i64 0)), .d (.v (.int .i64 0))]) tok rfl rfl rfl) ?_
  refine rw0 rfl w0 (bx_st (cs := _ :: _) tok rfl rfl rfl rfl rfl rfl rfl) ?_
  refine nx ?_
  cases h4
  exact wk [0, 1, 2, 3, 4]
  refine sk ?_
  cases h4
  exact wk [0, 1, 2, 3, 4]
  refine sq [0,1,2,3,4,5,6,7,8,9,10,11] ?_
  refine fa tok ?_
  refine ld tok ?_
  refine rp rfl w0 rfl (pw_neg rfl) ?_
  refine fa tok ?_
  refine ld tok ?_
  obtain ⟨v21, hv21, h3⟩ := bnd h3
  refine rs rfl w0 rfl (c_call 5 (s_l02Make_c hv21) rfl rfl rfl) ?_
  refine rp rfl w0 rfl (pu_move (r := .tup _) rfl) ?_
  refine rp rfl w0 rfl (pu_extract rfl rfl) ?_
  refine rp rfl w0 rfl (pu_extract rfl rfl) ?_
  refine rs rfl w0 rfl (st_alloc 5 (cs := [.d (.v (.int .i64 0)), .d (.v (.int .i64 0))]) tok rfl rfl rfl) ?_
  refine rw0 rfl w0 (bx_st (cs := _ :: _) tok rfl rfl rfl rfl rfl rfl rfl) ?_
  refine pa ?_
  refine nx ?_
  refine aw_seq ?_
  refine aw_region_draw (is := [0, 1, 2, 3, 4, 5, 6, 7, 8, 9, 10, 11, 12]) [0, 0, 2, 7, 15, 0, 63, 127, 255, 255, 0, 1535, 4095] follows (by kernel_rfl) ?_
  refine rt_p rfl w0 rfl (pu_move (r := .own _ _ _) rfl) ?_
  refine rt_lk rfl w0 rfl (bx_fa tok rfl rfl rfl rfl rfl rfl rfl) rfl rfl rfl ?_
  refine rt_lk rfl w0 rfl (bx_ld1 tok rfl rfl rfl rfl rfl) rfl rfl rfl ?_
  obtain ⟨v22, hv22, h3⟩ := bnd h3
  refine rt_lk rfl w0 rfl (ow_ix tok hv22 rfl rfl rfl rfl rfl rfl rfl rfl) rfl rfl rfl ?_
  refine rt_lk rfl w0 rfl (rw_ldN tok (atI_e hv22).2.1 rfl rfl rfl rfl rfl) rfl rfl rfl ?_
  refine rt_lk rfl w0 rfl (bx_ldN tok rfl rfl rfl rfl) rfl rfl rfl ?_
  obtain ⟨v23, hv23, h3⟩ := bnd h3
  refine rt_c rfl w0 rfl (b_call 7 (s_l02Mul_c hv23) rfl rfl rfl) ?_
  refine rt_p rfl w0 rfl (pu_move (r := .tup _) rfl) ?_
  refine rt_p rfl w0 rfl (pu_extract rfl rfl) ?_
  refine rt_p rfl w0 rfl (pu_extract rfl rfl) ?_
  refine rt_a rfl w0 rfl rfl (fun hx hk => st_alloc 6 (cs := [.d (.v (.int .i64 0)), .d (.v (.int .i64 0))]) tok rfl rfl hk) ?_
  refine rt_wk rfl w0 (bx_st (cs := _ :: _) tok rfl rfl rfl rfl rfl rfl rfl) ?_
  refine tpa ?_
  refine rt_nil ?_
  refine ⟨by kernel_rfl, ?_⟩
  refine then_n ?_
  refine aw_seq ?_
  refine sq [0,1] ?_
  refine pm ?_
  refine rp rfl w0 rfl (pu_not rfl) ?_
  refine nx ?_
  refine aw_ifB h3 rfl (fun hc h3 => ?_) (fun hc h3 => ?_)
  refine sq [0,1] ?_
  refine pa ?_
  refine pa ?_
  refine nx ?_
  refine aw_ret ?_
  refine then_r ?_
  refine block_r ?_
  cases h3
  replace h2 := orE_s h2
  refine then_r ?_
  cases h2
  refine loop_r ⟨_, rfl, fun e => ?_⟩
  subst e
  refine block_r ?_
  replace h0 := orE_s h0
  refine then_r ?_
  cases h0
  exact retP_ (rs := [.tmp 6, .tmp 7]) 2 rfl rfl
  refine sk ?_
  refine sq [0,1,2,3,4,5] ?_
  refine rp rfl w0 rfl (pu_move (r := .own _ _ _) rfl) ?_
  refine fa tok ?_
  refine ld tok ?_
  refine rl rfl w0 rfl (bx_ldN tok rfl rfl rfl rfl) ?_
  obtain ⟨v24, hv24, h3⟩ := bnd h3
  refine rl rfl w0 rfl (ow_ix tok hv24 rfl rfl rfl rfl rfl rfl rfl rfl) ?_
  refine rw0 rfl w0 (rw_st (cs := _ :: _) tok v23.1 (atI_e hv24).2.1 rfl rfl rfl rfl rfl rfl rfl rfl) ?_
  refine nx ?_
  refine sq [0,1,2,3,4] ?_
  refine rp rfl w0 rfl (pu_move (r := .own _ _ _) rfl) ?_
  refine fa tok ?_
  refine ld tok ?_
  obtain ⟨v25, hv25, h3⟩ := bnd h3
  refine rl rfl w0 rfl (ow_ix tok hv25 rfl rfl rfl rfl rfl rfl rfl rfl) ?_
  refine rw0 rfl w0 (rw_st (cs := [.d _]) tok true (atI_e hv25).2.1 rfl rfl rfl rfl rfl rfl rfl rfl) ?_
  refine nx ?_
  refine sr [0] ?_
  refine pa ?_
  refine ra_nil ?_
  refine block_n ?_
  refine then_n ?_
  cases h3
  refine ⟨_, rfl, ?_⟩
  exact wk [0, 1, 2]
  rintro v26 rfl
  replace h2 := orE_f h2
  refine sr [0,1,2] ?_
  refine pm ?_
  refine rp rfl w0 rfl (pw_add rfl rfl) ?_
  refine pa ?_
  refine ra_nil ?_
  refine loop_n ?_
  cases h2
  refine ⟨_, rfl, ?_⟩
  exact wk [0, 1, 2]
  refine aw_exit ?_
  refine then_e ?_
  cases h2
  refine loop_x ⟨_, rfl, fun e => ?_⟩
  subst e
  refine block_hit ?_
  refine then_n ?_
  refine ⟨_, rfl, ?_⟩
  exact wk [0, 1, 2]
  rintro v27 rfl
  replace h0 := orE_f h0
  refine sq [0,1,2] ?_
  refine pm ?_
  refine pa ?_
  refine pa ?_
  refine nx ?_
  refine aw_ret ?_
  cases h0
  exact retP_ (rs := [.tmp 6, .tmp 7]) 2 rfl rfl

theorem s_l08Fits_c {p0 : Works_} {p1 : Mesh_} {p2 : List Ratio_} {r : Bool} (h0 : s_l08Fits_m p0 p1 p2 = some r) : FnC Tryz.prog 189 [] [.ref (cWorks_ p0), .agg [.d (.v (.int .i64 p1.A)), .d (.v (.int .i64 p1.WheelA)), .d (.v (.int .i64 p1.B)), .d (.v (.int .i64 p1.WheelB))], .d (.sl (List.map cRatio_ p2))] [] (.d (.v (.bool r))) := by
  refine fnc_intro (T := tt) (N := 44) tok Tryz.func189 rfl rfl (by kernel_rfl) rfl rfl ?_
  unfold s_l08Fits_m at h0
  refine sq [0,1] ?_
  refine rs rfl w0 rfl (st_box 3 (cs := _ :: _) rfl rfl rfl) ?_
  refine pa ?_
  refine nx ?_
  refine sq [0,1,2,3,4] ?_
  refine pmr ?_
  refine rl rfl w0 rfl (bx_ldN tok rfl rfl rfl rfl) ?_
  obtain ⟨v1, hv1, h0⟩ := bnd h0
  refine rs rfl w0 rfl (c_call 4 (s_l08Pair_c hv1) rfl rfl rfl) ?_
  refine rs rfl w0 rfl (st_alloc 4 (cs := [.d (.v (.int .i64 0)), .d (.v (.int .i64 0))]) tok rfl rfl rfl) ?_
  refine rw0 rfl w0 (bx_st (cs := _ :: _) tok rfl rfl rfl rfl rfl rfl rfl) ?_
  refine nx ?_
  refine sq [0,1,2,3,4,5,6,7,8,9,10,11] ?_
  refine fa tok ?_
  refine ld tok ?_
  refine rp rfl w0 rfl (pw_neg rfl) ?_
  refine fa tok ?_
  refine ld tok ?_
  obtain ⟨v2, hv2, h0⟩ := bnd h0
  refine rs rfl w0 rfl (c_call 5 (s_l02Make_c hv2) rfl rfl rfl) ?_
  refine rp rfl w0 rfl (pu_move (r := .tup _) rfl) ?_
  refine rp rfl w0 rfl (pu_extract rfl rfl) ?_
  refine rp rfl w0 rfl (pu_extract rfl rfl) ?_
  refine rs rfl w0 rfl (st_alloc 5 (cs := [.d (.v (.int .i64 0)), .d (.v (.int .i64 0))]) tok rfl rfl rfl) ?_
  refine rw0 rfl w0 (bx_st (cs := _ :: _) tok rfl rfl rfl rfl rfl rfl rfl) ?_
  refine pa ?_
  refine nx ?_
  refine aw_seq ?_
  refine aw_region_draw (is := [0, 1, 2, 3, 4, 5, 6, 7, 8, 9, 10, 11, 12]) [0, 0, 2, 7, 15, 0, 63, 127, 255, 255, 0, 1535, 4095] follows (by kernel_rfl) ?_
  refine tpm ?_
  refine rt_lk rfl w0 rfl (bx_fa tok rfl rfl rfl rfl rfl rfl rfl) rfl rfl rfl ?_
  refine rt_lk rfl w0 rfl (bx_ld1 tok rfl rfl rfl rfl rfl) rfl rfl rfl ?_
  obtain ⟨v3, hv3, h0⟩ := bnd h0
  refine rt_p rfl w0 rfl (sl_ix tok hv3 rfl rfl rfl rfl rfl rfl) ?_
  refine rt_p rfl w0 rfl (pu_load_refN tok rfl rfl rfl (by repeat (first | exact SegD.z _ | apply SegD.t))) ?_
  refine rt_lk rfl w0 rfl (bx_ldN tok rfl rfl rfl rfl) rfl rfl rfl ?_
  obtain ⟨v4, hv4, h0⟩ := bnd h0
  refine rt_c rfl w0 rfl (b_call 7 (s_l02Mul_c hv4) rfl rfl rfl) ?_
  refine rt_p rfl w0 rfl (pu_move (r := .tup _) rfl) ?_
  refine rt_p rfl w0 rfl (pu_extract rfl rfl) ?_
  refine rt_p rfl w0 rfl (pu_extract rfl rfl) ?_
  refine rt_a rfl w0 rfl rfl (fun hx hk => st_alloc 6 (cs := [.d (.v (.int .i64 0)), .d (.v (.int .i64 0))]) tok rfl rfl hk) ?_
  refine rt_wk rfl w0 (bx_st (cs := _ :: _) tok rfl rfl rfl rfl rfl rfl rfl) ?_
  refine tpa ?_
  refine rt_nil ?_
  refine ⟨by kernel_rfl, ?_⟩
  refine then_n ?_
  refine aw_seq ?_
  refine aw_region_draw (is := [0, 1, 2, 3, 4, 5, 6, 7, 8, 9, 10]) [0, 1, 3, 3, 3, 19, 59, 123, 255, 511, 1023] follows (by kernel_rfl) ?_
  refine tpm ?_
  refine tpm ?_
  refine rt_ifB (u := 35) h0 rfl (fun hc h0 => ?_) (fun hc h0 => ?_)
  refine rt_lk rfl (w1 rfl rfl rfl) rfl (bx_ldN tok rfl rfl rfl rfl) rfl rfl rfl ?_
  refine tpm1 ?_
  refine rt_lk rfl (w1 rfl rfl rfl) rfl (bx_fa tok rfl rfl rfl rfl rfl rfl rfl) rfl rfl rfl ?_
  refine rt_lk rfl (w1 rfl rfl rfl) rfl (bx_ld1 tok rfl rfl rfl rfl rfl) rfl rfl rfl ?_
  obtain ⟨v5, hv5, h0⟩ := bnd h0
  refine rt_p rfl (w1 rfl rfl rfl) rfl (sl_ix tok hv5 rfl rfl rfl rfl rfl rfl) ?_
  refine rt_p rfl (w1 rfl rfl rfl) rfl (pu_load_refN tok rfl rfl rfl (by repeat (first | exact SegD.z _ | apply SegD.t))) ?_
  refine rt_p rfl (w1 rfl rfl rfl) rfl (ps_eql_Ratio_ (a := v4.1) (b := v5) rfl rfl) ?_
  refine tpkt ?_
  refine tpa ?_
  refine rt_nil ?_
  refine ⟨by kernel_rfl, ?_⟩
  refine then_n ?_
  refine aw_ret ?_
  cases h0
  exact ret0_ (rs := [.tmp 6]) rfl
  iterate 7 refine k2 ?_
  refine tpkf ?_
  refine tpa ?_
  refine rt_nil ?_
  refine ⟨by kernel_rfl, ?_⟩
  refine then_n ?_
  refine aw_ret ?_
  cases h0
  exact ret0_ (rs := [.tmp 6]) rfl

theorem s_l08Speeds_c {p0 : Works_} {p1 : Int} {r : List Ratio_ × Int} (h0 : s_l08Speeds_m p0 p1 = some r) : FnC Tryz.prog 124 [] [.ref (cWorks_ p0), .d (.v (.int .i64 p1))] [.live [⟨164, 2, .data (List.map cRatio_ r.1)⟩]] (.tup [.own 0 0 r.1.length, .d (.v (.int .i64 r.2))]) := by
  refine fnc_intro (T := tt) (N := 79) tok Tryz.func124 rfl rfl (by kernel_rfl) rfl rfl ?_
  unfold s_l08Speeds_m at h0
  refine sq [0,1] ?_
  refine pa ?_
  refine pa ?_
  refine nx ?_
  refine aw_seq ?_
  refine sq [0,1,2,3] ?_
  refine pmr ?_
  refine pm ?_
  obtain ⟨v1, hv1, h0⟩ := bnd h0
  refine rs rfl w0 rfl (c_call 3 (s_l08Root_c hv1) rfl rfl rfl) ?_
  refine rp rfl w0 rfl (pu_not rfl) ?_
  refine nx ?_
  refine aw_ifB h0 rfl (fun hc h0 => ?_) (fun hc h0 => ?_)
  refine sq [0,1] ?_
  refine pa ?_
  refine pa ?_
  refine nx ?_
  refine aw_weak (weak_adopt_t 3 rfl 164 2 (d := 4) rfl) ?_
  refine aw_ret ?_
  refine then_r ?_
  cases h0
  exact retK_ (rs := [.tmp 4, .tmp 5]) [3] rfl
  refine sk ?_
  refine sq [0,1,2,3,4,5,6] ?_
  refine pmr ?_
  refine nr ?_
  refine fr tok ?_
  refine lr tok ?_
  refine rp rfl w0 rfl (pu_len_map tok rfl rfl rfl) ?_
  obtain ⟨hq2, h0⟩ := chk_e h0
  refine rs rfl w0 rfl (mk_own 3 tok (c := cB) false hq2 rfl rfl rfl rfl rfl rfl rfl rfl rfl rfl rfl rfl rfl) ?_
  refine rp rfl w0 rfl (pu_assign (r := .own _ _ _) rfl) ?_
  refine nx ?_
  refine sq [0,1,2,3,4,5,6] ?_
  refine pmr ?_
  refine nr ?_
  refine fr tok ?_
  refine lr tok ?_
  refine rp rfl w0 rfl (pu_len_map tok rfl rfl rfl) ?_
  obtain ⟨hq3, h0⟩ := chk_e h0
  refine rs rfl w0 rfl (mk_own 4 tok (c := cRatio_) (⟨0, 0⟩ : Ratio_) hq3 rfl rfl rfl rfl rfl rfl rfl rfl rfl rfl rfl rfl rfl) ?_
  refine rp rfl w0 rfl (pu_assign (r := .own _ _ _) rfl) ?_
  refine nx ?_
  refine sq [0,1,2,3] ?_
  refine rp rfl w0 rfl (pu_move (r := .own _ _ _) rfl) ?_
  refine pm ?_
  obtain ⟨v4, hv4, h0⟩ := bnd h0
  refine rl rfl w0 rfl (ow_ix tok hv4 rfl rfl rfl rfl rfl rfl rfl rfl) ?_
  refine rw0 rfl w0 (rw_st (cs := [.d _]) tok true (atI_e hv4).2.1 rfl rfl rfl rfl rfl rfl rfl rfl) ?_
  refine nx ?_
  refine sq [0,1,2,3,4] ?_
  refine rp rfl w0 rfl (pu_move (r := .own _ _ _) rfl) ?_
  refine pm ?_
  obtain ⟨v5, hv5, h0⟩ := bnd h0
  refine rs rfl w0 rfl (c_call 5 (s_l02Whole_c hv5) rfl rfl rfl) ?_
  obtain ⟨v6, hv6, h0⟩ := bnd h0
  refine rl rfl w0 rfl (ow_ix tok hv6 rfl rfl rfl rfl rfl rfl rfl rfl) ?_
  refine rw0 rfl w0 (rw_st (cs := _ :: _) tok v5 (atI_e hv6).2.1 rfl rfl rfl rfl rfl rfl rfl rfl) ?_
  refine nx ?_
  obtain ⟨v15x, h1, h0⟩ := bnd h0
  refine aw_cutE v15x (fun v15 => ⟨updA (updA (updA ((fun _ => .dead)) 0 (.ref (cWorks_ p0))) 6 (.own 3 0 (v15.1).length)) 7 (.own 4 0 (v15.2).length), lks [.no, .no, .no, .live [⟨4, 1, .data (List.map cB v15.1)⟩], .live [⟨164, 2, .data (List.map cRatio_ v15.2)⟩]]⟩) ?_ ?_
  refine sq [0] ?_
  refine pa ?_
  refine nx ?_
  refine aw_block ?_
  refine aw_loopM (fun s11 => ⟨updA (updA (updA (updA ((fun _ => .dead)) 0 (.ref (cWorks_ p0))) 6 (.own 3 0 (s11.2.1).length)) 7 (.own 4 0 (s11.2.2).length)) 8 (.d (.v (.bool s11.1))), lks [.no, .no, .no, .live [⟨4, 1, .data (List.map cB s11.2.1)⟩], .live [⟨164, 2, .data (List.map cRatio_ s11.2.2)⟩]]⟩) h1 ?_ (fun s11 y h2 => ?_)
  exact wk [0, 1, 2, 3, 4]
  refine aw_seq ?_
  refine sq [0] ?_
  refine pm ?_
  refine nx ?_
  refine aw_ifB h2 rfl (fun hc h2 => ?_) (fun hc h2 => ?_)
  refine sk ?_
  refine aw_block ?_
  refine sq [0,1,2,3,4,5,6,7,8] ?_
  refine pmr ?_
  refine rp rfl w0 rfl (pu_move (r := .own _ _ _) rfl) ?_
  refine rp rfl w0 rfl (pu_move (r := .own _ _ _) rfl) ?_
  obtain ⟨v12, hv12, h2⟩ := bnd h2
  obtain ⟨hq13, h2⟩ := chk_e h2
  obtain ⟨hq14, h2⟩ := chk_e h2
  refine rw1 rfl w0 rfl (c_callP [3, 4] 300 (s_l08Round_o_o_c hv12) rfl rfl) ?_
  refine rp rfl w0 rfl (pu_move (r := .tup _) rfl) ?_
  refine rp rfl w0 rfl (pu_extract rfl rfl) ?_
  refine rp rfl w0 rfl (pu_extract rfl rfl) ?_
  refine pa ?_
  refine pa ?_
  refine nx ?_
  refine aw_seq ?_
  refine sq [0,1] ?_
  refine pm ?_
  refine rp rfl w0 rfl (pu_not rfl) ?_
  refine nx ?_
  refine aw_ifB h2 rfl (fun hc h2 => ?_) (fun hc h2 => ?_)
  refine sq [0,1] ?_
  refine pa ?_
  refine pa ?_
  refine nx ?_
  refine aw_weak (weak_adopt_t 5 rfl 164 2 (d := 4) rfl) ?_
  refine aw_ret ?_
  refine then_r ?_
  refine block_r ?_
  cases h2
  refine loop_r ⟨_, rfl, fun e => ?_⟩
  subst e
  refine block_r ?_
  replace h0 := orE_s h0
  refine then_r ?_
  cases h0
  exact retK_ (rs := [.tmp 4, .tmp 5]) [5] rfl
  refine sk ?_
  refine sr [0,1] ?_
  refine pm ?_
  refine pa ?_
  refine ra_nil ?_
  refine block_n ?_
  refine loop_n ?_
  cases h2
  refine ⟨_, rfl, ?_⟩
  exact wk [0, 1, 2, 3, 4]
  refine aw_exit ?_
  refine then_e ?_
  cases h2
  refine loop_x ⟨_, rfl, fun e => ?_⟩
  subst e
  refine block_hit ?_
  refine then_n ?_
  refine ⟨_, rfl, ?_⟩
  exact wk [0, 1, 2, 3, 4]
  rintro v15 rfl
  replace h0 := orE_f h0
  obtain ⟨v20x, h1, h0⟩ := bnd h0
  refine aw_cutE v20x (fun v20 => ⟨updA (updA ((fun _ => .dead)) 0 (.ref (cWorks_ p0))) 7 (.own 3 0 (v15.2).length), lks [.no, .no, .no, .live [⟨164, 2, .data (List.map cRatio_ v15.2)⟩]]⟩) ?_ ?_
  refine sq [0] ?_
  refine pa ?_
  refine nx ?_
  refine aw_block ?_
  refine aw_loopM (fun s18 => ⟨updA (updA (updA (updA ((fun _ => .dead)) 0 (.ref (cWorks_ p0))) 6 (.own 3 0 (v15.1).length)) 7 (.own 4 0 (v15.2).length)) 11 (.d (.v (.int .i64 s18))), lks [.no, .no, .no, .live [⟨4, 1, .data (List.map cB v15.1)⟩], .live [⟨164, 2, .data (List.map cRatio_ v15.2)⟩]]⟩) h1 ?_ (fun s18 y h2 => ?_)
  exact wk [0, 1, 2, 3, 4]
  refine aw_seq ?_
  refine sq [0,1,2,3] ?_
  refine pm ?_
  refine rp rfl w0 rfl (pu_move (r := .own _ _ _) rfl) ?_
  refine rl rfl w0 rfl (ow_len tok rfl rfl rfl rfl rfl) ?_
  refine rp rfl w0 rfl (pu_lss rfl rfl) ?_
  refine nx ?_
  refine aw_if h2 rfl (fun hc h2 => ?_) (fun hc h2 => ?_)
  refine sk ?_
  refine aw_seq ?_
  refine aw_block ?_
  refine sq [0,1,2,3,4] ?_
  refine rp rfl w0 rfl (pu_move (r := .own _ _ _) rfl) ?_
  refine pm ?_
  obtain ⟨v19, hv19, h2⟩ := bnd h2
  refine rl rfl w0 rfl (ow_ix tok hv19 rfl rfl rfl rfl rfl rfl rfl rfl) ?_
  refine rl rfl w0 rfl (rw_ld1 tok (atI_e hv19).2.1 rfl rfl rfl rfl rfl rfl) ?_
  refine rp rfl w0 rfl (pu_not rfl) ?_
  refine nx ?_
  refine aw_ifB h2 rfl (fun hc h2 => ?_) (fun hc h2 => ?_)
  refine sq [0,1] ?_
  refine pa ?_
  refine pa ?_
  refine nx ?_
  refine aw_weak (weak_adopt_t 5 rfl 164 2 (d := 4) rfl) ?_
  refine aw_ret ?_
  refine block_r ?_
  refine then_r ?_
  cases h2
  refine loop_r ⟨_, rfl, fun e => ?_⟩
  subst e
  refine block_r ?_
  replace h0 := orE_s h0
  refine then_r ?_
  cases h0
  exact retK_ (rs := [.tmp 4, .tmp 5]) [5] rfl
  refine aw_skip ?_
  refine block_n ?_
  refine then_n ?_
  refine sr [0,1,2] ?_
  refine pm ?_
  refine rp rfl w0 rfl (pw_add rfl rfl) ?_
  refine pa ?_
  refine ra_nil ?_
  refine loop_n ?_
  cases h2
  refine ⟨_, rfl, ?_⟩
  exact wk [0, 1, 2, 3, 4]
  refine aw_exit ?_
  refine then_e ?_
  cases h2
  refine loop_x ⟨_, rfl, fun e => ?_⟩
  subst e
  refine block_hit ?_
  refine then_n ?_
  refine ⟨_, rfl, ?_⟩
  exact wk [0, 1, 2, 4]
  rintro v20 rfl
  replace h0 := orE_f h0
  obtain ⟨v27x, h1, h0⟩ := bnd h0
  refine aw_cutE v27x (fun v27 => ⟨updA ((fun _ => .dead)) 7 (.own 3 0 (v15.2).length), lks [.no, .no, .no, .live [⟨164, 2, .data (List.map cRatio_ v15.2)⟩]]⟩) ?_ ?_
  refine sq [0] ?_
  refine pa ?_
  refine nx ?_
  refine aw_block ?_
  refine aw_loopM (fun s24 => ⟨updA (updA (updA ((fun _ => .dead)) 0 (.ref (cWorks_ p0))) 7 (.own 3 0 (v15.2).length)) 12 (.d (.v (.int .i64 s24))), lks [.no, .no, .no, .live [⟨164, 2, .data (List.map cRatio_ v15.2)⟩]]⟩) h1 ?_ (fun s24 y h2 => ?_)
  exact wk [0, 1, 2, 3]
  refine aw_seq ?_
  refine sq [0,1,2,3,4,5,6] ?_
  refine pm ?_
  refine pmr ?_
  refine nr ?_
  refine fr tok ?_
  refine lr tok ?_
  refine rp rfl w0 rfl (pu_len_map tok rfl rfl rfl) ?_
  refine rp rfl w0 rfl (pu_lss rfl rfl) ?_
  refine nx ?_
  refine aw_if h2 rfl (fun hc h2 => ?_) (fun hc h2 => ?_)
  refine sk ?_
  refine aw_seq ?_
  refine aw_block ?_
  refine sq [0,1,2,3,4,5,6,7,8,9,10] ?_
  refine pmr ?_
  refine pmr ?_
  refine nr ?_
  refine fr tok ?_
  refine lr tok ?_
  refine pm ?_
  obtain ⟨v25, hv25, h2⟩ := bnd h2
  refine rp rfl w0 rfl (sl_ix tok hv25 rfl rfl rfl rfl rfl rfl) ?_
  refine rp rfl w0 rfl (pu_load_refN tok rfl rfl rfl (by repeat (first | exact SegD.z _ | apply SegD.t))) ?_
  refine rp rfl w0 rfl (pu_move (r := .own _ _ _) rfl) ?_
  obtain ⟨v26, hv26, h2⟩ := bnd h2
  refine rs rfl w0 rfl (c_callV 4 (s_l08Fits_c hv26) rfl rfl) ?_
  refine rp rfl w0 rfl (pu_not rfl) ?_
  refine nx ?_
  refine aw_ifB h2 rfl (fun hc h2 => ?_) (fun hc h2 => ?_)
  refine sq [0,1] ?_
  refine pa ?_
  refine pa ?_
  refine nx ?_
  refine aw_weak (weak_adopt_t 4 rfl 164 2 (d := 4) rfl) ?_
  refine aw_ret ?_
  refine block_r ?_
  refine then_r ?_
  cases h2
  refine loop_r ⟨_, rfl, fun e => ?_⟩
  subst e
  refine block_r ?_
  replace h0 := orE_s h0
  refine then_r ?_
  cases h0
  exact retK_ (rs := [.tmp 4, .tmp 5]) [4] rfl
  refine aw_skip ?_
  refine block_n ?_
  refine then_n ?_
  refine sr [0,1,2] ?_
  refine pm ?_
  refine rp rfl w0 rfl (pw_add rfl rfl) ?_
  refine pa ?_
  refine ra_nil ?_
  refine loop_n ?_
  cases h2
  refine ⟨_, rfl, ?_⟩
  exact wk [0, 1, 2, 3]
  refine aw_exit ?_
  refine then_e ?_
  cases h2
  refine loop_x ⟨_, rfl, fun e => ?_⟩
  subst e
  refine block_hit ?_
  refine then_n ?_
  refine ⟨_, rfl, ?_⟩
  exact wk [0, 1, 2, 3]
  rintro v27 rfl
  replace h0 := orE_f h0
  refine sq [0,1,2] ?_
  refine rp rfl w0 rfl (pu_move (r := .own _ _ _) rfl) ?_
  refine rp rfl w0 rfl (pu_assign (r := .own _ _ _) rfl) ?_
  refine pa ?_
  refine nx ?_
  refine aw_ret ?_
  cases h0
  exact retK_ (rs := [.tmp 4, .tmp 5]) [3] rfl

theorem s_l02Size_c {p0 : Int} {r : Int} (h0 : s_l02Size_m p0 = some r) : FnC Tryz.prog 190 [] [.d (.v (.int .i64 p0))] [] (.d (.v (.int .i64 r))) := by
  refine fnc_intro (T := tt) (N := 8) tok Tryz.func190 rfl rfl (by kernel_rfl) rfl rfl ?_
  unfold s_l02Size_m at h0
  refine sq [0] ?_
  refine pa ?_
  refine nx ?_
  refine aw_seq ?_
  refine sq [0,1] ?_
  refine pm ?_
  refine rp rfl w0 rfl (pu_lss rfl rfl) ?_
  refine nx ?_
  refine aw_if h0 rfl (fun hc h0 => ?_) (fun hc h0 => ?_)
  refine sq [0,1,2] ?_
  refine pm ?_
  refine rp rfl w0 rfl (pw_neg rfl) ?_
  refine pa ?_
  refine nx ?_
  refine aw_ret ?_
  refine then_r ?_
  cases h0
  exact ret0_ (rs := [.tmp 2]) rfl
  refine sk ?_
  refine sq [0,1] ?_
  refine pm ?_
  refine pa ?_
  refine nx ?_
  refine aw_ret ?_
  cases h0
  exact ret0_ (rs := [.tmp 2]) rfl

theorem s_l26Beats_c {p0 : Movement_} {p1 : Ratio_} {r : Bool} (h0 : s_l26Beats_m p0 p1 = some r) : FnC Tryz.prog 125 [] [.ref (cMovement_ p0), .agg [.d (.v (.int .i64 p1.Num)), .d (.v (.int .i64 p1.Den))]] [] (.d (.v (.bool r))) := by
  refine fnc_intro (T := tt) (N := 22) tok Tryz.func125 rfl rfl (by kernel_rfl) rfl rfl ?_
  unfold s_l26Beats_m at h0
  refine sq [0,1] ?_
  refine rs rfl w0 rfl (st_box 3 (cs := _ :: _) rfl rfl rfl) ?_
  refine pa ?_
  refine nx ?_
  refine aw_seq ?_
  refine aw_region_draw (is := [0, 1, 2, 3, 4, 5, 6, 9, 10, 11, 12, 13, 14, 15, 7, 8, 16, 17]) [0, 1, 3, 7, 15, 0, 32, 96, 255, 0, 512, 1536, 3584, 0, 8192, 32256, 65535, 131071] follows (by kernel_rfl) ?_
  refine tpmr ?_
  refine tnr ?_
  refine tfr tok ?_
  refine tlr tok ?_
  refine rt_p rfl w0 rfl (pw_mul rfl rfl) ?_
  refine rt_lk rfl w0 rfl (bx_fa tok rfl rfl rfl rfl rfl rfl rfl) rfl rfl rfl ?_
  refine rt_lk rfl w0 rfl (bx_ld1 tok rfl rfl rfl rfl rfl) rfl rfl rfl ?_
  refine tpmr ?_
  refine tnr ?_
  refine tfr tok ?_
  refine tlr tok ?_
  refine rt_lk rfl w0 rfl (bx_fa tok rfl rfl rfl rfl rfl rfl rfl) rfl rfl rfl ?_
  refine rt_lk rfl w0 rfl (bx_ld1 tok rfl rfl rfl rfl rfl) rfl rfl rfl ?_
  refine rt_p rfl w0 rfl (pw_mul rfl rfl) ?_
  obtain ⟨v1, hv1, h0⟩ := bnd h0
  refine rt_c rfl w0 rfl (b_call 4 (s_l02Size_c hv1) rfl rfl rfl) ?_
  refine rt_p rfl w0 rfl (pw_mul rfl rfl) ?_
  refine rt_p rfl w0 rfl (pu_eql rfl rfl) ?_
  refine tpa ?_
  refine rt_nil ?_
  refine ⟨by kernel_rfl, ?_⟩
  refine then_n ?_
  refine aw_ret ?_
  cases h0
  exact ret0_ (rs := [.tmp 4]) rfl

theorem s_l17Ask_c {p0 : Calendar_} {p1 : List Int} {r : Int} (h0 : s_l17Ask_m p0 p1 = some r) : FnC Tryz.prog 126 [] [.ref (cCalendar_ p0), .d (.sl (List.map cI p1))] [] (.d (.v (.int .i64 r))) := by
  refine fnc_intro (T := tt) (N := 22) tok Tryz.func126 rfl rfl (by kernel_rfl) rfl rfl ?_
  unfold s_l17Ask_m at h0
  refine sq [0] ?_
  refine pa ?_
  refine nx ?_
  refine aw_seq ?_
  obtain ⟨v3, h1, h0⟩ := bnd h0
  refine aw_cut ⟨updA (updA (updA ((fun _ => .dead)) 0 (.ref (cCalendar_ p0))) 1 (.d (.sl (List.map cI p1)))) 12 (.d (.v (.bool v3))), lks [.no, .no, .no]⟩ ?_ ?_
  refine sr [0,1,2,3,4,5,6,7] ?_
  refine pmr ?_
  obtain ⟨v1, hv1, h1⟩ := bnd h1
  refine rs rfl w0 rfl (c_call 3 (s_l15Ok_c hv1) rfl rfl rfl) ?_
  refine rp rfl w0 rfl (pu_not rfl) ?_
  refine pm ?_
  refine ra_ifB (u := 8) h1 rfl (fun hc h1 => ?_) (fun hc h1 => ?_)
  iterate 3 refine k1 ?_
  refine pkt ?_
  refine nx ?_
  cases h1
  exact wk [0, 1, 2]
  refine pm1 ?_
  obtain ⟨v2, hv2, h1⟩ := bnd h1
  refine rs rfl (w1 rfl rfl rfl) rfl (c_call 3 (s_l17Ok_c hv2) rfl rfl rfl) ?_
  refine rp rfl (w1 rfl rfl rfl) rfl (pu_not rfl) ?_
  refine pkf ?_
  refine nx ?_
  cases h1
  exact wk [0, 1, 2]
  refine aw_ifB h0 rfl (fun hc h0 => ?_) (fun hc h0 => ?_)
  refine sq [0] ?_
  refine pa ?_
  refine nx ?_
  refine aw_ret ?_
  refine then_r ?_
  cases h0
  exact ret0_ (rs := [.tmp 4]) rfl
  refine sk ?_
  refine aw_seq ?_
  refine sq [0,1,2,3,4,5,6,7,8] ?_
  refine pm ?_
  refine rp rfl w0 rfl (pu_len_map tok rfl rfl rfl) ?_
  refine pmr ?_
  refine nr ?_
  refine fr tok ?_
  refine lr tok ?_
  refine rp rfl w0 rfl (pu_len_map tok rfl rfl rfl) ?_
  obtain ⟨hq4, h0⟩ := chk_e h0
  refine rp rfl w0 rfl (pu_remw rfl rfl hq4) ?_
  refine rp rfl w0 rfl (pu_neq rfl rfl) ?_
  refine nx ?_
  refine aw_if h0 rfl (fun hc h0 => ?_) (fun hc h0 => ?_)
  refine sq [0] ?_
  refine pa ?_
  refine nx ?_
  refine aw_ret ?_
  refine then_r ?_
  cases h0
  exact ret0_ (rs := [.tmp 4]) rfl
  refine sk ?_
  refine sq [0] ?_
  refine pa ?_
  refine nx ?_
  refine aw_ret ?_
  cases h0
  exact ret0_ (rs := [.tmp 4]) rfl

theorem s_l26Faults_c {p0 : Movement_} {r : List ByteArray} (h0 : s_l26Faults_m p0 = some r) : FnC Tryz.prog 67 [] [.ref (cMovement_ p0)] [.live [⟨9, 1, .data (List.map cS r)⟩]] (.own 0 0 r.length) := by
  refine fnc_intro (T := tt) (N := 61) tok Tryz.func67 rfl rfl (by kernel_rfl) rfl rfl ?_
  unfold s_l26Faults_m at h0
  refine sq [0] ?_
  refine pa ?_
  refine nx ?_
  refine sq [0,1] ?_
  refine rs rfl w0 rfl (st_slice0 3 tok rfl rfl rfl rfl) ?_
  refine rp rfl w0 rfl (pu_assign (r := .own _ _ _) rfl) ?_
  refine nx ?_
  refine aw_seq ?_
  refine aw_region_draw (is := [0, 1, 2, 3, 4, 5, 6, 7, 8, 9, 10, 11, 12]) [0, 1, 3, 0, 8, 24, 56, 127, 255, 511, 511, 1023, 4095] follows (by kernel_rfl) ?_
  refine tpmr ?_
  refine tnr ?_
  refine tfr tok ?_
  refine tpmr ?_
  refine tnr ?_
  refine tfr tok ?_
  refine tlr tok ?_
  obtain ⟨v1, hv1, h0⟩ := bnd h0
  refine rt_c rfl w0 rfl (b_call 4 (fnc_pre (s_l08Speeds_c hv1)) rfl rfl rfl) ?_
  refine rt_p rfl w0 rfl (pu_move (r := .tup _) rfl) ?_
  refine rt_p rfl w0 rfl (pu_extract rfl rfl) ?_
  refine rt_p rfl w0 rfl (pu_extract rfl rfl) ?_
  refine rt_p rfl w0 rfl (pu_assign (r := .own _ _ _) rfl) ?_
  refine tpa ?_
  refine rt_nil ?_
  refine ⟨by kernel_rfl, ?_⟩
  refine then_n ?_
  obtain ⟨v9, h1, h0⟩ := bnd h0
  refine aw_cut ⟨updA (updA ((fun _ => .dead)) 0 (.ref (cMovement_ p0))) 3 (.own 3 0 (v9).length), lks [.no, .no, .no, .live [⟨9, 1, .data (List.map cS v9)⟩]]⟩ ?_ ?_
  refine sq [0,1] ?_
  refine pm ?_
  refine rp rfl w0 rfl (pu_neq rfl rfl) ?_
  refine nx ?_
  refine aw_if h1 rfl (fun hc h1 => ?_) (fun hc h1 => ?_)
  refine sr [0,1,2,3] ?_
  refine rp rfl w0 rfl (pu_move (r := .own _ _ _) rfl) ?_
  refine rs rfl w0 rfl (bs_val tok cS [(⟨#[119, 111, 114, 107, 115]⟩ : ByteArray)] rfl rfl rfl (by repeat (first | exact Els.nil _ | apply Els.cons (cs := [.d _]) rfl rfl rfl | apply Els.cons (cs := _ :: _) rfl rfl rfl)) rfl rfl rfl (by repeat (first | exact AllDD.nil | (apply AllDD.cons; (repeat (first | exact AllD.nil | apply AllD.cons))))) rfl) ?_
  obtain ⟨hq2, h1⟩ := chk_e h1
  refine rw1 rfl w0 rfl (ap_own tok hq2 rfl rfl rfl rfl rfl rfl rfl rfl rfl rfl rfl rfl (fun _ => rfl)) ?_
  refine rp rfl w0 rfl (pu_assign (r := .own _ _ _) rfl) ?_
  refine nx ?_
  cases h1
  exact wk [0, 1, 2, 3]
  obtain ⟨v5, h2, h1⟩ := bnd h1
  refine aw_cut ⟨updA (updA (updA ((fun _ => .dead)) 0 (.ref (cMovement_ p0))) 3 (.own 3 0 (v5).length)) 4 (.own 4 0 (v1.1).length), lks [.no, .no, .no, .live [⟨9, 1, .data (List.map cS v5)⟩], .live [⟨164, 2, .data (List.map cRatio_ v1.1)⟩]]⟩ ?_ ?_
  refine sq [0,1,2,3,4,5,6,7,8] ?_
  refine rp rfl w0 rfl (pu_move (r := .own _ _ _) rfl) ?_
  refine pmr ?_
  refine nr ?_
  refine fr tok ?_
  refine lr tok ?_
  obtain ⟨v3, hv3, h2⟩ := bnd h2
  refine rl rfl w0 rfl (ow_ix tok hv3 rfl rfl rfl rfl rfl rfl rfl rfl) ?_
  refine rl rfl w0 rfl (rw_ldN tok (atI_e hv3).2.1 rfl rfl rfl rfl rfl) ?_
  refine rp rfl w0 rfl (pbl (C0 := [.d (.v (.int .i64 0)), .d (.v (.int .i64 0))]) tok rfl rfl rfl) ?_
  refine rp rfl w0 rfl (ps_neq_Ratio_ (a := v3) (b := (⟨1, 12⟩ : Ratio_)) rfl rfl) ?_
  refine nx ?_
  refine aw_if h2 rfl (fun hc h2 => ?_) (fun hc h2 => ?_)
  refine sr [0,1,2,3] ?_
  refine rp rfl w0 rfl (pu_move (r := .own _ _ _) rfl) ?_
  refine rs rfl w0 rfl (bs_val tok cS [(⟨#[104, 111, 117, 114]⟩ : ByteArray)] rfl rfl rfl (by repeat (first | exact Els.nil _ | apply Els.cons (cs := [.d _]) rfl rfl rfl | apply Els.cons (cs := _ :: _) rfl rfl rfl)) rfl rfl rfl (by repeat (first | exact AllDD.nil | (apply AllDD.cons; (repeat (first | exact AllD.nil | apply AllD.cons))))) rfl) ?_
  obtain ⟨hq4, h2⟩ := chk_e h2
  refine rw1 rfl w0 rfl (ap_own tok hq4 rfl rfl rfl rfl rfl rfl rfl rfl rfl rfl rfl rfl (fun _ => rfl)) ?_
  refine rp rfl w0 rfl (pu_assign (r := .own _ _ _) rfl) ?_
  refine nx ?_
  cases h2
  exact wk [0, 1, 2, 3, 4]
  refine sk ?_
  cases h2
  exact wk [0, 1, 2, 3, 4]
  refine sq [0,1,2,3,4,5,6,7,8,9] ?_
  refine pmr ?_
  refine rp rfl w0 rfl (pu_move (r := .own _ _ _) rfl) ?_
  refine pmr ?_
  refine nr ?_
  refine fr tok ?_
  refine lr tok ?_
  obtain ⟨v6, hv6, h1⟩ := bnd h1
  refine rl rfl w0 rfl (ow_ix tok hv6 rfl rfl rfl rfl rfl rfl rfl rfl) ?_
  refine rl rfl w0 rfl (rw_ldN tok (atI_e hv6).2.1 rfl rfl rfl rfl rfl) ?_
  obtain ⟨v7, hv7, h1⟩ := bnd h1
  refine rs rfl w0 rfl (c_call 5 (s_l26Beats_c hv7) rfl rfl rfl) ?_
  refine rp rfl w0 rfl (pu_not rfl) ?_
  refine nx ?_
  refine aw_ifB h1 rfl (fun hc h1 => ?_) (fun hc h1 => ?_)
  refine sr [0,1,2,3] ?_
  refine rp rfl w0 rfl (pu_move (r := .own _ _ _) rfl) ?_
  refine rs rfl w0 rfl (bs_val tok cS [(⟨#[98, 101, 97, 116, 115]⟩ : ByteArray)] rfl rfl rfl (by repeat (first | exact Els.nil _ | apply Els.cons (cs := [.d _]) rfl rfl rfl | apply Els.cons (cs := _ :: _) rfl rfl rfl)) rfl rfl rfl (by repeat (first | exact AllDD.nil | (apply AllDD.cons; (repeat (first | exact AllD.nil | apply AllD.cons))))) rfl) ?_
  obtain ⟨hq8, h1⟩ := chk_e h1
  refine rw1 rfl w0 rfl (ap_own tok hq8 rfl rfl rfl rfl rfl rfl rfl rfl rfl rfl rfl rfl (fun _ => rfl)) ?_
  refine rp rfl w0 rfl (pu_assign (r := .own _ _ _) rfl) ?_
  refine nx ?_
  cases h1
  exact wk [0, 1, 2, 3]
  refine sk ?_
  cases h1
  exact wk [0, 1, 2, 3]
  obtain ⟨v12, h1, h0⟩ := bnd h0
  refine aw_cut ⟨updA ((fun _ => .dead)) 3 (.own 3 0 (v12).length), lks [.no, .no, .no, .live [⟨9, 1, .data (List.map cS v12)⟩]]⟩ ?_ ?_
  refine aw_seq ?_
  refine aw_region_draw (is := [0, 1, 2, 3, 4, 5, 6, 7, 8]) [0, 1, 3, 0, 8, 24, 56, 127, 255] follows (by kernel_rfl) ?_
  refine tpmr ?_
  refine tnr ?_
  refine tfr tok ?_
  refine tpmr ?_
  refine tnr ?_
  refine tfr tok ?_
  refine tlr tok ?_
  obtain ⟨v10, hv10, h1⟩ := bnd h1
  refine rt_c rfl w0 rfl (b_call 4 (fnc_pre (s_l17Ask_c hv10)) rfl rfl rfl) ?_
  refine rt_p rfl w0 rfl (pu_neq rfl rfl) ?_
  refine rt_nil ?_
  refine ⟨by kernel_rfl, ?_⟩
  refine then_n ?_
  refine aw_if h1 rfl (fun hc h1 => ?_) (fun hc h1 => ?_)
  refine sr [0,1,2,3] ?_
  refine rp rfl w0 rfl (pu_move (r := .own _ _ _) rfl) ?_
  refine rs rfl w0 rfl (bs_val tok cS [(⟨#[99, 97, 109]⟩ : ByteArray)] rfl rfl rfl (by repeat (first | exact Els.nil _ | apply Els.cons (cs := [.d _]) rfl rfl rfl | apply Els.cons (cs := _ :: _) rfl rfl rfl)) rfl rfl rfl (by repeat (first | exact AllDD.nil | (apply AllDD.cons; (repeat (first | exact AllD.nil | apply AllD.cons))))) rfl) ?_
  obtain ⟨hq11, h1⟩ := chk_e h1
  refine rw1 rfl w0 rfl (ap_own tok hq11 rfl rfl rfl rfl rfl rfl rfl rfl rfl rfl rfl rfl (fun _ => rfl)) ?_
  refine rp rfl w0 rfl (pu_assign (r := .own _ _ _) rfl) ?_
  refine nx ?_
  cases h1
  exact wk [0, 1, 2, 3]
  refine sk ?_
  cases h1
  exact wk [0, 1, 2, 3]
  refine sq [0,1] ?_
  refine rp rfl w0 rfl (pu_move (r := .own _ _ _) rfl) ?_
  refine rp rfl w0 rfl (pu_assign (r := .own _ _ _) rfl) ?_
  refine nx ?_
  refine aw_ret ?_
  cases h0
  exact retK_ (rs := [.tmp 2]) [3] rfl

theorem s_l18Ok_c {p0 : Perpetual_} {r : Bool} (h0 : s_l18Ok_m p0 = some r) : FnC Tryz.prog 68 [] [.ref (cPerpetual_ p0)] [] (.d (.v (.bool r))) := by
  refine fnc_intro (T := tt) (N := 99) tok Tryz.func68 rfl rfl (by kernel_rfl) rfl rfl ?_
  unfold s_l18Ok_m at h0
  refine sq [0] ?_
  refine pa ?_
  refine nx ?_
  refine aw_seq ?_
  obtain ⟨v4, h1, h0⟩ := bnd h0
  refine aw_cut ⟨updA (updA ((fun _ => .dead)) 0 (.ref (cPerpetual_ p0))) 37 (.d (.v (.bool v4))), lks [.no, .no, .no]⟩ ?_ ?_
  refine aw_region_draw (is := [0, 1, 2, 3, 4, 5, 6, 7, 8, 9, 10, 11, 12, 13, 14, 15, 16, 17, 18, 19, 20, 21, 22, 23, 24, 25, 26, 27, 28, 29, 30, 31, 32, 33]) [0, 1, 3, 7, 15, 31, 63, 127, 255, 511, 1023, 2047, 4095, 8191, 16383, 32767, 65535, 131071, 262143, 16383, 540671, 1589247, 3686399, 8388607, 16777215, 33554431, 67108863, 134217727, 268435455, 536870911, 1073741823, 2147483647, 4294967295, 8589934591] follows (by kernel_rfl) ?_
  refine tpmr ?_
  refine tnr ?_
  refine tfr tok ?_
  refine tlr tok ?_
  obtain ⟨v1, hv1, h1⟩ := bnd h1
  refine rt_c rfl w0 rfl (b_call 3 (s_l17Ok_c hv1) rfl rfl rfl) ?_
  refine rt_p rfl w0 rfl (pu_not rfl) ?_
  refine tpm ?_
  refine rt_ifB (u := 10) h1 rfl (fun hc h1 => ?_) (fun hc h1 => ?_)
  iterate 5 refine k2 ?_
  refine tpkt ?_
  refine tpm ?_
  iterate 11 refine k2 ?_
  refine tpkt ?_
  refine tpm ?_
  iterate 6 refine k2 ?_
  refine tpkt ?_
  refine rt_nil ?_
  refine ⟨by kernel_rfl, ?_⟩
  refine then_n ?_
  cases h1
  exact wk [0, 1, 2]
  refine tpmr1 ?_
  refine tnr1 ?_
  refine tfr1 tok ?_
  refine tlr1 tok ?_
  refine rt_p rfl (w1 rfl rfl rfl) rfl (pu_lss rfl rfl) ?_
  refine tpkf ?_
  refine tpm ?_
  refine rt_if (u := 17) h1 rfl (fun hc h1 => ?_) (fun hc h1 => ?_)
  iterate 11 refine k2 ?_
  refine tpkt ?_
  refine tpm ?_
  iterate 6 refine k2 ?_
  refine tpkt ?_
  refine rt_nil ?_
  refine ⟨by kernel_rfl, ?_⟩
  refine then_n ?_
  cases h1
  exact wk [0, 1, 2]
  refine tpmr1 ?_
  refine tnr1 ?_
  refine tfr1 tok ?_
  refine tlr1 tok ?_
  refine rt_p rfl (w1 rfl rfl rfl) rfl (pu_len_map tok rfl rfl rfl) ?_
  refine tpmr1 ?_
  refine tnr1 ?_
  refine tfr1 tok ?_
  refine tlr1 tok ?_
  obtain ⟨hq2, h1⟩ := chk_e h1
  refine rt_p rfl (w1 rfl rfl rfl) rfl (pu_remw rfl rfl hq2) ?_
  refine rt_p rfl (w1 rfl rfl rfl) rfl (pu_neq rfl rfl) ?_
  refine tpkf ?_
  refine tpm ?_
  refine rt_if (u := 30) h1 rfl (fun hc h1 => ?_) (fun hc h1 => ?_)
  iterate 6 refine k2 ?_
  refine tpkt ?_
  refine rt_nil ?_
  refine ⟨by kernel_rfl, ?_⟩
  refine then_n ?_
  cases h1
  exact wk [0, 1, 2]
  refine tpmr1 ?_
  refine tnr1 ?_
  refine tfr1 tok ?_
  refine tlr1 tok ?_
  obtain ⟨v3, hv3, h1⟩ := bnd h1
  refine rt_c rfl (w1 rfl rfl rfl) rfl (b_call 3 (s_l00In_c hv3) rfl rfl rfl) ?_
  refine rt_p rfl (w1 rfl rfl rfl) rfl (pu_not rfl) ?_
  refine tpkf ?_
  refine rt_nil ?_
  refine ⟨by kernel_rfl, ?_⟩
  refine then_n ?_
  cases h1
  exact wk [0, 1, 2]
  refine aw_ifB h0 rfl (fun hc h0 => ?_) (fun hc h0 => ?_)
  refine sq [0] ?_
  refine pa ?_
  refine nx ?_
  refine aw_ret ?_
  refine then_r ?_
  cases h0
  exact ret0_ (rs := [.tmp 2]) rfl
  refine sk ?_
  obtain ⟨v9x, h1, h0⟩ := bnd h0
  refine aw_cutE v9x (fun v9 => ⟨updA ((fun _ => .dead)) 0 (.ref (cPerpetual_ p0)), lks [.no, .no, .no]⟩) ?_ ?_
  refine sq [0] ?_
  refine pa ?_
  refine nx ?_
  refine aw_block ?_
  refine aw_loopM (fun s7 => ⟨updA (updA ((fun _ => .dead)) 0 (.ref (cPerpetual_ p0))) 3 (.d (.v (.int .i64 s7))), lks [.no, .no, .no]⟩) h1 ?_ (fun s7 y h2 => ?_)
  exact wk [0, 1, 2]
  refine aw_seq ?_
  refine sq [0,1,2,3,4,5,6] ?_
  refine pm ?_
  refine pmr ?_
  refine nr ?_
  refine fr tok ?_
  refine lr tok ?_
  refine rp rfl w0 rfl (pu_len_map tok rfl rfl rfl) ?_
  refine rp rfl w0 rfl (pu_lss rfl rfl) ?_
  refine nx ?_
  refine aw_if h2 rfl (fun hc h2 => ?_) (fun hc h2 => ?_)
  refine sk ?_
  refine aw_seq ?_
  refine aw_block ?_
  refine aw_seq ?_
  refine aw_region_draw (is := [0, 1, 2, 3, 4, 5, 6, 7, 8, 9, 10, 11]) [0, 1, 3, 7, 0, 31, 63, 0, 128, 384, 896, 2047] follows (by kernel_rfl) ?_
  refine tpmr ?_
  refine tnr ?_
  refine tfr tok ?_
  refine tlr tok ?_
  refine tpm ?_
  obtain ⟨v8, hv8, h2⟩ := bnd h2
  refine rt_p rfl w0 rfl (sl_ix tok hv8 rfl rfl rfl rfl rfl rfl) ?_
  refine tlr tok ?_
  refine tpmr ?_
  refine tnr ?_
  refine tfr tok ?_
  refine tlr tok ?_
  refine rt_p rfl w0 rfl (pu_gtr rfl rfl) ?_
  refine rt_nil ?_
  refine ⟨by kernel_rfl, ?_⟩
  refine then_n ?_
  refine aw_if h2 rfl (fun hc h2 => ?_) (fun hc h2 => ?_)
  refine sq [0] ?_
  refine pa ?_
  refine nx ?_
  refine aw_ret ?_
  refine block_r ?_
  refine then_r ?_
  cases h2
  refine loop_r ⟨_, rfl, fun e => ?_⟩
  subst e
  refine block_r ?_
  replace h0 := orE_s h0
  refine then_r ?_
  cases h0
  exact ret0_ (rs := [.tmp 2]) rfl
  refine aw_skip ?_
  refine block_n ?_
  refine then_n ?_
  refine sr [0,1,2] ?_
  refine pm ?_
  refine rp rfl w0 rfl (pw_add rfl rfl) ?_
  refine pa ?_
  refine ra_nil ?_
  refine loop_n ?_
  cases h2
  refine ⟨_, rfl, ?_⟩
  exact wk [0, 1, 2]
  refine aw_exit ?_
  refine then_e ?_
  cases h2
  refine loop_x ⟨_, rfl, fun e => ?_⟩
  subst e
  refine block_hit ?_
  refine then_n ?_
  refine ⟨_, rfl, ?_⟩
  exact wk [0, 1, 2]
  rintro v9 rfl
  replace h0 := orE_f h0
  refine aw_seq ?_
  refine aw_region_draw (is := [0, 1, 2, 3, 4, 5, 6, 7, 8, 9, 10, 11, 12, 13, 14, 15, 16, 17, 18, 19, 20, 21, 22, 23, 24, 25, 26, 27, 28, 29, 30, 31, 32, 33, 34, 35, 36, 37, 38, 39, 40]) [0, 1, 3, 7, 0, 16, 48, 112, 240, 496, 1023, 2047, 4095, 8191, 16383, 32767, 4095, 69631, 200703, 462847, 1048575, 2097151, 4194303, 8388607, 16777215, 33554431, 67108863, 134217727, 268435455, 536870911, 1073741823, 2147483647, 4294967295, 8589934591, 1073741823, 18253611007, 52613349375, 121332826111, 274877906943, 549755813887, 1099511627775] follows (by kernel_rfl) ?_
  refine tpmr ?_
  refine tnr ?_
  refine tfr tok ?_
  refine tlr tok ?_
  refine tpmr ?_
  refine tnr ?_
  refine tfr tok ?_
  refine tlr tok ?_
  refine rt_p rfl w0 rfl (pu_len_map tok rfl rfl rfl) ?_
  refine rt_p rfl w0 rfl (pw_sub rfl rfl) ?_
  obtain ⟨v10, hv10, h0⟩ := bnd h0
  refine rt_c rfl w0 rfl (b_call 3 (s_l00In_c hv10) rfl rfl rfl) ?_
  refine tpm ?_
  refine rt_ifB (u := 70) h0 rfl (fun hc h0 => ?_) (fun hc h0 => ?_)
  refine tpmr1 ?_
  refine tnr1 ?_
  refine tfr1 tok ?_
  refine tlr1 tok ?_
  refine tpmr1 ?_
  refine tnr1 ?_
  refine tfr1 tok ?_
  refine tlr1 tok ?_
  obtain ⟨v11, hv11, h0⟩ := bnd h0
  refine rt_c rfl (w1 rfl rfl rfl) rfl (b_call 3 (s_l00In_c hv11) rfl rfl rfl) ?_
  refine tpkt ?_
  refine tpm ?_
  refine rt_ifB (u := 81) h0 rfl (fun hc h0 => ?_) (fun hc h0 => ?_)
  refine tpmr1 ?_
  refine tnr1 ?_
  refine tfr1 tok ?_
  refine tlr1 tok ?_
  obtain ⟨v12, hv12, h0⟩ := bnd h0
  refine rt_c rfl (w1 rfl rfl rfl) rfl (b_call 3 (s_l00In_c hv12) rfl rfl rfl) ?_
  refine tpkt ?_
  refine tpm ?_
  refine rt_ifB (u := 88) h0 rfl (fun hc h0 => ?_) (fun hc h0 => ?_)
  refine tpmr1 ?_
  refine tnr1 ?_
  refine tfr1 tok ?_
  refine tlr1 tok ?_
  refine tpmr1 ?_
  refine tnr1 ?_
  refine tfr1 tok ?_
  refine tlr1 tok ?_
  obtain ⟨v13, hv13, h0⟩ := bnd h0
  refine rt_c rfl (w1 rfl rfl rfl) rfl (b_call 3 (s_l00In_c hv13) rfl rfl rfl) ?_
  refine tpkt ?_
  refine tpa ?_
  refine rt_nil ?_
  refine ⟨by kernel_rfl, ?_⟩
  refine then_n ?_
  refine aw_ret ?_
  cases h0
  exact ret0_ (rs := [.tmp 2]) rfl
  iterate 9 refine k2 ?_
  refine tpkf ?_
  refine tpa ?_
  refine rt_nil ?_
  refine ⟨by kernel_rfl, ?_⟩
  refine then_n ?_
  refine aw_ret ?_
  cases h0
  exact ret0_ (rs := [.tmp 2]) rfl
  iterate 5 refine k2 ?_
  refine tpkf ?_
  refine tpm ?_
  iterate 9 refine k2 ?_
  refine tpkf ?_
  refine tpa ?_
  refine rt_nil ?_
  refine ⟨by kernel_rfl, ?_⟩
  refine then_n ?_
  refine aw_ret ?_
  cases h0
  exact ret0_ (rs := [.tmp 2]) rfl
  iterate 9 refine k2 ?_
  refine tpkf ?_
  refine tpm ?_
  iterate 5 refine k2 ?_
  refine tpkf ?_
  refine tpm ?_
  iterate 9 refine k2 ?_
  refine tpkf ?_
  refine tpa ?_
  refine rt_nil ?_
  refine ⟨by kernel_rfl, ?_⟩
  refine then_n ?_
  refine aw_ret ?_
  cases h0
  exact ret0_ (rs := [.tmp 2]) rfl

theorem s_l15Year_c {p0 : Int} {r : Bool} (h0 : s_l15Year_m p0 = some r) : FnC Tryz.prog 220 [] [.d (.v (.int .i64 p0))] [] (.d (.v (.bool r))) := by
  refine fnc_intro (T := tt) (N := 5) tok Tryz.func220 rfl rfl (by kernel_rfl) rfl rfl ?_
  unfold s_l15Year_m at h0
  refine sq [0] ?_
  refine pa ?_
  refine nx ?_
  refine sq [0,1,2] ?_
  refine pm ?_
  obtain ⟨v1, hv1, h0⟩ := bnd h0
  refine rs rfl w0 rfl (c_call 3 (s_l00In_c hv1) rfl rfl rfl) ?_
  refine pa ?_
  refine nx ?_
  refine aw_ret ?_
  cases h0
  exact ret0_ (rs := [.tmp 2]) rfl

theorem s_l15Leap_c {p0 : Calendar_} {p1 : Int} {r : Bool} (h0 : s_l15Leap_m p0 p1 = some r) : FnC Tryz.prog 210 [] [.ref (cCalendar_ p0), .d (.v (.int .i64 p1))] [] (.d (.v (.bool r))) := by
  refine fnc_intro (T := tt) (N := 44) tok Tryz.func210 rfl rfl (by kernel_rfl) rfl rfl ?_
  unfold s_l15Leap_m at h0
  refine sq [0] ?_
  refine pa ?_
  refine nx ?_
  refine sq [0] ?_
  refine pa ?_
  refine nx ?_
  obtain ⟨v13, h1, h0⟩ := bnd h0
  refine aw_cut ⟨updA ((fun _ => .dead)) 5 (.d (.v (.bool v13))), lks [.no, .no, .no]⟩ ?_ ?_
  refine sq [0] ?_
  refine pa ?_
  refine nx ?_
  refine aw_block ?_
  refine aw_loopM (fun s7 => ⟨updA (updA (updA (updA ((fun _ => .dead)) 0 (.ref (cCalendar_ p0))) 1 (.d (.v (.int .i64 p1)))) 5 (.d (.v (.bool s7.1)))) 6 (.d (.v (.int .i64 s7.2))), lks [.no, .no, .no]⟩) h1 ?_ (fun s7 y h2 => ?_)
  exact wk [0, 1, 2]
  refine aw_seq ?_
  refine sq [0,1,2,3,4,5,6] ?_
  refine pm ?_
  refine pmr ?_
  refine nr ?_
  refine fr tok ?_
  refine lr tok ?_
  refine rp rfl w0 rfl (pu_len_map tok rfl rfl rfl) ?_
  refine rp rfl w0 rfl (pu_lss rfl rfl) ?_
  refine nx ?_
  refine aw_if h2 rfl (fun hc h2 => ?_) (fun hc h2 => ?_)
  refine sk ?_
  obtain ⟨v12, h3, h2⟩ := bnd h2
  refine aw_cut ⟨updA (updA (updA (updA ((fun _ => .dead)) 0 (.ref (cCalendar_ p0))) 1 (.d (.v (.int .i64 p1)))) 5 (.d (.v (.bool v12)))) 6 (.d (.v (.int .i64 s7.2))), lks [.no, .no, .no]⟩ ?_ ?_
  refine aw_block ?_
  refine aw_seq ?_
  refine aw_region_draw (is := [0, 1, 2, 3, 4, 5, 6, 7, 8, 9, 10, 11, 12, 13, 14, 15, 16, 17, 18]) [0, 0, 2, 6, 14, 0, 62, 126, 254, 511, 0, 1024, 3072, 7168, 0, 31744, 64512, 130048, 262143] follows (by kernel_rfl) ?_
  refine tpm ?_
  refine tpmr ?_
  refine tnr ?_
  refine tfr tok ?_
  refine tlr tok ?_
  refine tpm ?_
  obtain ⟨v8, hv8, h3⟩ := bnd h3
  refine rt_p rfl w0 rfl (sl_ix tok hv8 rfl rfl rfl rfl rfl rfl) ?_
  refine tfr tok ?_
  refine tlr tok ?_
  obtain ⟨hq9, h3⟩ := chk_e h3
  refine rt_p rfl w0 rfl (pu_remw rfl rfl hq9) ?_
  refine tpmr ?_
  refine tnr ?_
  refine tfr tok ?_
  refine tlr tok ?_
  refine tpm ?_
  obtain ⟨v10, hv10, h3⟩ := bnd h3
  refine rt_p rfl w0 rfl (sl_ix tok hv10 rfl rfl rfl rfl rfl rfl) ?_
  refine tfr tok ?_
  refine tlr tok ?_
  refine rt_p rfl w0 rfl (pu_eql rfl rfl) ?_
  refine rt_nil ?_
  refine ⟨by kernel_rfl, ?_⟩
  refine then_n ?_
  refine aw_if h3 rfl (fun hc h3 => ?_) (fun hc h3 => ?_)
  refine sr [0,1,2,3,4,5,6,7,8] ?_
  refine pmr ?_
  refine nr ?_
  refine fr tok ?_
  refine lr tok ?_
  refine pm ?_
  obtain ⟨v11, hv11, h3⟩ := bnd h3
  refine rp rfl w0 rfl (sl_ix tok hv11 rfl rfl rfl rfl rfl rfl) ?_
  refine fr tok ?_
  refine lr tok ?_
  refine pa ?_
  refine ra_nil ?_
  refine block_n ?_
  refine then_n ?_
  cases h3
  exact wk [0, 1, 2]
  refine aw_skip ?_
  refine block_n ?_
  refine then_n ?_
  cases h3
  exact wk [0, 1, 2]
  refine sr [0,1,2] ?_
  refine pm ?_
  refine rp rfl w0 rfl (pw_add rfl rfl) ?_
  refine pa ?_
  refine ra_nil ?_
  refine loop_n ?_
  cases h2
  refine ⟨_, rfl, ?_⟩
  exact wk [0, 1, 2]
  refine aw_exit ?_
  refine then_e ?_
  cases h2
  refine loop_x ⟨_, rfl, fun e => ?_⟩
  subst e
  refine block_hit ?_
  refine then_n ?_
  exact wk [0, 1, 2]
  refine sq [0,1] ?_
  refine pm ?_
  refine pa ?_
  refine nx ?_
  refine aw_ret ?_
  cases h0
  exact ret0_ (rs := [.tmp 4]) rfl

theorem s_l15Days_c {p0 : Calendar_} {p1 : Int} {p2 : Int} {r : Int} (h0 : s_l15Days_m p0 p1 p2 = some r) : FnC Tryz.prog 155 [] [.ref (cCalendar_ p0), .d (.v (.int .i64 p1)), .d (.v (.int .i64 p2))] [] (.d (.v (.int .i64 r))) := by
  refine fnc_intro (T := tt) (N := 26) tok Tryz.func155 rfl rfl (by kernel_rfl) rfl rfl ?_
  unfold s_l15Days_m at h0
  refine sq [0] ?_
  refine pa ?_
  refine nx ?_
  refine aw_seq ?_
  refine sq [0,1,2] ?_
  refine pmr ?_
  refine pm ?_
  obtain ⟨v1, hv1, h0⟩ := bnd h0
  refine rs rfl w0 rfl (c_call 3 (s_l15Leap_c hv1) rfl rfl rfl) ?_
  refine nx ?_
  refine aw_ifB h0 rfl (fun hc h0 => ?_) (fun hc h0 => ?_)
  refine sq [0,1,2,3,4,5,6,7,8] ?_
  refine pmr ?_
  refine nr ?_
  refine fr tok ?_
  refine lr tok ?_
  refine pm ?_
  obtain ⟨v2, hv2, h0⟩ := bnd h0
  refine rp rfl w0 rfl (sl_ix tok hv2 rfl rfl rfl rfl rfl rfl) ?_
  refine fr tok ?_
  refine lr tok ?_
  refine pa ?_
  refine nx ?_
  refine aw_ret ?_
  refine then_r ?_
  cases h0
  exact ret0_ (rs := [.tmp 6]) rfl
  refine sk ?_
  refine sq [0,1,2,3,4,5,6,7,8] ?_
  refine pmr ?_
  refine nr ?_
  refine fr tok ?_
  refine lr tok ?_
  refine pm ?_
  obtain ⟨v3, hv3, h0⟩ := bnd h0
  refine rp rfl w0 rfl (sl_ix tok hv3 rfl rfl rfl rfl rfl rfl) ?_
  refine fr tok ?_
  refine lr tok ?_
  refine pa ?_
  refine nx ?_
  refine aw_ret ?_
  cases h0
  exact ret0_ (rs := [.tmp 6]) rfl

theorem s_l16Ok_c {p0 : Calendar_} {p1 : Date_} {r : Bool} (h0 : s_l16Ok_m p0 p1 = some r) : FnC Tryz.prog 164 [] [.ref (cCalendar_ p0), .agg [.d (.v (.int .i64 p1.Year)), .d (.v (.int .i64 p1.Month)), .d (.v (.int .i64 p1.Day))]] [] (.d (.v (.bool r))) := by
  refine fnc_intro (T := tt) (N := 30) tok Tryz.func164 rfl rfl (by kernel_rfl) rfl rfl ?_
  unfold s_l16Ok_m at h0
  refine sq [0,1] ?_
  refine rs rfl w0 rfl (st_box 3 (cs := _ :: _) rfl rfl rfl) ?_
  refine pa ?_
  refine nx ?_
  refine aw_seq ?_
  obtain ⟨v3, h1, h0⟩ := bnd h0
  refine aw_cut ⟨updA (updA (updA ((fun _ => .dead)) 0 (.ref (cCalendar_ p0))) 3 (.ptr 3 0 1 0 0)) 19 (.d (.v (.bool v3))), lks [.no, .no, .no, .live [⟨50, 3, .av [[.d (.v (.int .i64 p1.Year)), .d (.v (.int .i64 p1.Month)), .d (.v (.int .i64 p1.Day))]]⟩]]⟩ ?_ ?_
  refine aw_region_draw (is := [0, 1, 2, 3, 4, 5, 6, 7, 8, 9, 10, 11, 12, 13, 14]) [0, 1, 3, 7, 15, 31, 63, 31, 159, 415, 927, 1951, 4095, 8191, 16383] follows (by kernel_rfl) ?_
  refine rt_lk rfl w0 rfl (bx_fa tok rfl rfl rfl rfl rfl rfl rfl) rfl rfl rfl ?_
  refine rt_lk rfl w0 rfl (bx_ld1 tok rfl rfl rfl rfl rfl) rfl rfl rfl ?_
  obtain ⟨v1, hv1, h1⟩ := bnd h1
  refine rt_c rfl w0 rfl (b_call 4 (s_l15Year_c hv1) rfl rfl rfl) ?_
  refine rt_p rfl w0 rfl (pu_not rfl) ?_
  refine tpm ?_
  refine rt_ifB (u := 9) h1 rfl (fun hc h1 => ?_) (fun hc h1 => ?_)
  iterate 9 refine k2 ?_
  refine tpkt ?_
  refine rt_nil ?_
  refine ⟨by kernel_rfl, ?_⟩
  refine then_n ?_
  cases h1
  exact wk [0, 1, 2, 3]
  refine rt_lk rfl (w1 rfl rfl rfl) rfl (bx_fa tok rfl rfl rfl rfl rfl rfl rfl) rfl rfl rfl ?_
  refine rt_lk rfl (w1 rfl rfl rfl) rfl (bx_ld1 tok rfl rfl rfl rfl rfl) rfl rfl rfl ?_
  refine tpmr1 ?_
  refine tnr1 ?_
  refine tfr1 tok ?_
  refine tlr1 tok ?_
  refine rt_p rfl (w1 rfl rfl rfl) rfl (pu_len_map tok rfl rfl rfl) ?_
  obtain ⟨v2, hv2, h1⟩ := bnd h1
  refine rt_c rfl (w1 rfl rfl rfl) rfl (b_call 4 (s_l00In_c hv2) rfl rfl rfl) ?_
  refine rt_p rfl (w1 rfl rfl rfl) rfl (pu_not rfl) ?_
  refine tpkf ?_
  refine rt_nil ?_
  refine ⟨by kernel_rfl, ?_⟩
  refine then_n ?_
  cases h1
  exact wk [0, 1, 2, 3]
  refine aw_ifB h0 rfl (fun hc h0 => ?_) (fun hc h0 => ?_)
  refine sq [0] ?_
  refine pa ?_
  refine nx ?_
  refine aw_ret ?_
  refine then_r ?_
  cases h0
  exact ret0_ (rs := [.tmp 4]) rfl
  refine sk ?_
  refine aw_seq ?_
  refine aw_region_draw (is := [0, 1, 2, 3, 4, 5, 6, 7, 8, 9, 10]) [0, 1, 0, 0, 8, 0, 32, 96, 252, 511, 1023] follows (by kernel_rfl) ?_
  refine rt_lk rfl w0 rfl (bx_fa tok rfl rfl rfl rfl rfl rfl rfl) rfl rfl rfl ?_
  refine rt_lk rfl w0 rfl (bx_ld1 tok rfl rfl rfl rfl rfl) rfl rfl rfl ?_
  refine tpmr ?_
  refine rt_lk rfl w0 rfl (bx_fa tok rfl rfl rfl rfl rfl rfl rfl) rfl rfl rfl ?_
  refine rt_lk rfl w0 rfl (bx_ld1 tok rfl rfl rfl rfl rfl) rfl rfl rfl ?_
  refine rt_lk rfl w0 rfl (bx_fa tok rfl rfl rfl rfl rfl rfl rfl) rfl rfl rfl ?_
  refine rt_lk rfl w0 rfl (bx_ld1 tok rfl rfl rfl rfl rfl) rfl rfl rfl ?_
  refine rt_p rfl w0 rfl (pw_sub rfl rfl) ?_
  obtain ⟨v4, hv4, h0⟩ := bnd h0
  refine rt_c rfl w0 rfl (b_call 4 (s_l15Days_c hv4) rfl rfl rfl) ?_
  obtain ⟨v5, hv5, h0⟩ := bnd h0
  refine rt_c rfl w0 rfl (b_call 4 (s_l00In_c hv5) rfl rfl rfl) ?_
  refine tpa ?_
  refine rt_nil ?_
  refine ⟨by kernel_rfl, ?_⟩
  refine then_n ?_
  refine aw_ret ?_
  cases h0
  exact ret0_ (rs := [.tmp 4]) rfl

theorem s_l00Own_c {p0 : List Int} {r : List Int} (h0 : s_l00Own_m p0 = some r) : FnC Tryz.prog 129 [] [.d (.sl (List.map cI p0))] [.live [⟨2, 1, .data (List.map cI r)⟩]] (.own 0 0 r.length) := by
  refine fnc_intro (T := tt) (N := 6) tok Tryz.func129 rfl rfl (by kernel_rfl) rfl rfl ?_
  unfold s_l00Own_m at h0
  refine sq [0] ?_
  refine pa ?_
  refine nx ?_
  refine sq [0,1,2,3] ?_
  refine rs rfl w0 rfl (st_slice0 3 tok rfl rfl rfl rfl) ?_
  refine pm ?_
  obtain ⟨hq1, h0⟩ := chk_e h0
  refine rw1 rfl w0 rfl (ap_own tok hq1 rfl rfl rfl rfl rfl rfl rfl rfl rfl rfl rfl rfl (fun _ => rfl)) ?_
  refine rp rfl w0 rfl (pu_assign (r := .own _ _ _) rfl) ?_
  refine nx ?_
  refine aw_ret ?_
  cases h0
  exact retK_ (rs := [.tmp 2]) [3] rfl

theorem s_l00Max_c {p0 : Int} {p1 : Int} {r : Int} (h0 : s_l00Max_m p0 p1 = some r) : FnC Tryz.prog 165 [] [.d (.v (.int .i64 p0)), .d (.v (.int .i64 p1))] [] (.d (.v (.int .i64 r))) := by
  refine fnc_intro (T := tt) (N := 10) tok Tryz.func165 rfl rfl (by kernel_rfl) rfl rfl ?_
  unfold s_l00Max_m at h0
  refine sq [0] ?_
  refine pa ?_
  refine nx ?_
  refine aw_seq ?_
  refine sq [0,1,2] ?_
  refine pm ?_
  refine pm ?_
  refine rp rfl w0 rfl (pu_gtr rfl rfl) ?_
  refine nx ?_
  refine aw_if h0 rfl (fun hc h0 => ?_) (fun hc h0 => ?_)
  refine sq [0,1] ?_
  refine pm ?_
  refine pa ?_
  refine nx ?_
  refine aw_ret ?_
  refine then_r ?_
  cases h0
  exact ret0_ (rs := [.tmp 4]) rfl
  refine sk ?_
  refine sq [0,1] ?_
  refine pm ?_
  refine pa ?_
  refine nx ?_
  refine aw_ret ?_
  cases h0
  exact ret0_ (rs := [.tmp 4]) rfl

theorem s_SetPerpetual_c {p0 : Calendar_} {p1 : List Int} {p2 : Date_} {p3 : Int} {r : Perpetual_ × Int} (h0 : s_SetPerpetual_m p0 p1 p2 p3 = some r) : FnC Tryz.prog 102 [] [.agg [.d (.v (.string p0.Name)), .d (.sl (List.map cMonth_ p0.Months)), .d (.sl (List.map cLeapRule_ p0.Rules)), .d (.v (.int .i64 p0.Week))], .d (.sl (List.map cI p1)), .agg [.d (.v (.int .i64 p2.Year)), .d (.v (.int .i64 p2.Month)), .d (.v (.int .i64 p2.Day))], .d (.v (.int .i64 p3))] [.live [⟨2, 1, .data (List.map cI r.1.Cam)⟩]] (.tup [.agg [.own 0 0 r.1.Cam.length, .d (.v (.int .i64 r.1.Months)), .d (.v (.int .i64 r.1.Teeth)), .d (.v (.int .i64 r.1.At)), .d (.v (.int .i64 r.1.Day)), .d (.v (.int .i64 r.1.Week)), .d (.v (.int .i64 r.1.Weekday))], .d (.v (.int .i64 r.2))]) := by
  refine fnc_intro (T := tt) (N := 97) tok Tryz.func102 rfl rfl (by kernel_rfl) rfl rfl ?_
  unfold s_SetPerpetual_m at h0
  refine sq [0,1,2,3] ?_
  refine rs rfl w0 rfl (st_box 3 (cs := _ :: _) rfl rfl rfl) ?_
  refine rs rfl w0 rfl (st_box 4 (cs := _ :: _) rfl rfl rfl) ?_
  refine rs rfl w0 rfl (st_alloc 5 (cs := [.d (.v (.slice none 0 0)), .d (.v (.int .i64 0)), .d (.v (.int .i64 0)), .d (.v (.int .i64 0)), .d (.v (.int .i64 0)), .d (.v (.int .i64 0)), .d (.v (.int .i64 0))]) tok rfl rfl rfl) ?_
  refine pa ?_
  refine nx ?_
  refine sq [0,1,2] ?_
  refine pm ?_
  obtain ⟨v1, hv1, h0⟩ := bnd h0
  refine rs rfl w0 rfl (c_callV 6 (s_l17Ask_c hv1) rfl rfl) ?_
  refine pa ?_
  refine nx ?_
  refine aw_seq ?_
  refine sq [0,1] ?_
  refine pm ?_
  refine rp rfl w0 rfl (pu_neq rfl rfl) ?_
  refine nx ?_
  refine aw_if h0 rfl (fun hc h0 => ?_) (fun hc h0 => ?_)
  refine sq [0,1,2,3] ?_
  refine rp rfl w0 rfl (pbl (C0 := [.d (.v (.slice none 0 0)), .d (.v (.int .i64 0)), .d (.v (.int .i64 0)), .d (.v (.int .i64 0)), .d (.v (.int .i64 0)), .d (.v (.int .i64 0)), .d (.v (.int .i64 0))]) tok rfl rfl rfl) ?_
  refine pm ?_
  refine rw0 rfl w0 (bx_st (cs := _ :: _) tok rfl rfl rfl rfl rfl rfl rfl) ?_
  refine pa ?_
  refine nx ?_
  refine aw_weak (weak_adopt 6 rfl 2 1 (kb := 5) (j := 0) rfl rfl (by repeat (first | exact Spl.z _ | apply Spl.t | apply Spl.d))) ?_
  refine aw_ret ?_
  refine then_r ?_
  cases h0
  exact retK_ (rs := [.cell 8 51, .tmp 9]) [6] rfl
  refine sk ?_
  refine aw_seq ?_
  obtain ⟨v4, h1, h0⟩ := bnd h0
  refine aw_cut ⟨updA (updA (updA (updA (updA (updA ((fun _ => .dead)) 1 (.d (.sl (List.map cI p1)))) 3 (.d (.v (.int .i64 p3)))) 4 (.ptr 3 0 1 0 0)) 6 (.ptr 4 0 1 0 0)) 8 (.ptr 5 0 1 0 0)) 30 (.d (.v (.bool v4))), lks [.no, .no, .no, .live [⟨47, 4, .av [[.d (.v (.string p0.Name)), .d (.sl (List.map cMonth_ p0.Months)), .d (.sl (List.map cLeapRule_ p0.Rules)), .d (.v (.int .i64 p0.Week))]]⟩], .live [⟨50, 3, .av [[.d (.v (.int .i64 p2.Year)), .d (.v (.int .i64 p2.Month)), .d (.v (.int .i64 p2.Day))]]⟩], .live [⟨51, 7, .av [[.d (.v (.slice none 0 0)), .d (.v (.int .i64 0)), .d (.v (.int .i64 0)), .d (.v (.int .i64 0)), .d (.v (.int .i64 0)), .d (.v (.int .i64 0)), .d (.v (.int .i64 0))]]⟩]]⟩ ?_ ?_
  refine sr [0,1,2,3,4,5,6,7,8,9] ?_
  refine rl rfl w0 rfl (bx_ldN tok rfl rfl rfl rfl) ?_
  obtain ⟨v2, hv2, h1⟩ := bnd h1
  refine rs rfl w0 rfl (c_callV 6 (s_l16Ok_c hv2) rfl rfl) ?_
  refine rp rfl w0 rfl (pu_not rfl) ?_
  refine pm ?_
  refine ra_ifB (u := 24) h1 rfl (fun hc h1 => ?_) (fun hc h1 => ?_)
  iterate 5 refine k1 ?_
  refine pkt ?_
  refine nx ?_
  cases h1
  exact wk [0, 1, 2, 3, 4, 5]
  refine pm1 ?_
  refine fa1 tok ?_
  refine ld1 tok ?_
  obtain ⟨v3, hv3, h1⟩ := bnd h1
  refine rs rfl (w1 rfl rfl rfl) rfl (c_call 6 (s_l00In_c hv3) rfl rfl rfl) ?_
  refine rp rfl (w1 rfl rfl rfl) rfl (pu_not rfl) ?_
  refine pkf ?_
  refine nx ?_
  cases h1
  exact wk [0, 1, 2, 3, 4, 5]
  refine aw_ifB h0 rfl (fun hc h0 => ?_) (fun hc h0 => ?_)
  refine sq [0,1,2] ?_
  refine rp rfl w0 rfl (pbl (C0 := [.d (.v (.slice none 0 0)), .d (.v (.int .i64 0)), .d (.v (.int .i64 0)), .d (.v (.int .i64 0)), .d (.v (.int .i64 0)), .d (.v (.int .i64 0)), .d (.v (.int .i64 0))]) tok rfl rfl rfl) ?_
  refine rw0 rfl w0 (bx_st (cs := _ :: _) tok rfl rfl rfl rfl rfl rfl rfl) ?_
  refine pa ?_
  refine nx ?_
  refine aw_weak (weak_adopt 6 rfl 2 1 (kb := 5) (j := 0) rfl rfl (by repeat (first | exact Spl.z _ | apply Spl.t | apply Spl.d))) ?_
  refine aw_ret ?_
  refine then_r ?_
  cases h0
  exact retK_ (rs := [.cell 8 51, .tmp 9]) [6] rfl
  refine sk ?_
  refine sq [0,1,2,3] ?_
  refine fa tok ?_
  refine ld tok ?_
  refine rp rfl w0 rfl (pu_len_map tok rfl rfl rfl) ?_
  refine pa ?_
  refine nx ?_
  refine aw_seq ?_
  refine aw_region_draw (is := [0, 2, 3, 4, 5, 6, 7, 1, 8, 9, 10]) [0, 1, 0, 0, 8, 0, 32, 0, 255, 0, 1023] follows (by kernel_rfl) ?_
  refine tpm ?_
  refine tpm ?_
  refine rt_lk rfl w0 rfl (bx_fa tok rfl rfl rfl rfl rfl rfl rfl) rfl rfl rfl ?_
  refine rt_lk rfl w0 rfl (bx_ld1 tok rfl rfl rfl rfl rfl) rfl rfl rfl ?_
  refine rt_lk rfl w0 rfl (bx_fa tok rfl rfl rfl rfl rfl rfl rfl) rfl rfl rfl ?_
  refine rt_lk rfl w0 rfl (bx_ld1 tok rfl rfl rfl rfl rfl) rfl rfl rfl ?_
  refine tpm ?_
  obtain ⟨v5, hv5, h0⟩ := bnd h0
  refine rt_c rfl w0 rfl (b_call 7 (s_l00Own_c hv5) rfl rfl rfl) ?_
  refine rt_p rfl w0 rfl (pbl (C0 := [.d (.v (.slice none 0 0)), .d (.v (.int .i64 0)), .d (.v (.int .i64 0)), .d (.v (.int .i64 0)), .d (.v (.int .i64 0)), .d (.v (.int .i64 0)), .d (.v (.int .i64 0))]) tok rfl rfl rfl) ?_
  refine rt_a rfl w0 rfl rfl (fun hx hk => st_alloc 6 (cs := [.d (.v (.slice none 0 0)), .d (.v (.int .i64 0)), .d (.v (.int .i64 0)), .d (.v (.int .i64 0)), .d (.v (.int .i64 0)), .d (.v (.int .i64 0)), .d (.v (.int .i64 0))]) tok rfl rfl hk) ?_
  refine rt_wk rfl w0 (bx_st (cs := _ :: _) tok rfl rfl rfl rfl rfl rfl rfl) ?_
  refine rt_nil ?_
  refine ⟨by kernel_rfl, ?_⟩
  refine then_n ?_
  refine aw_seq ?_
  refine aw_region_draw (is := [0, 1, 2, 3, 4, 5, 6, 7, 8, 9, 10, 11, 12, 13, 14]) [0, 1, 0, 4, 0, 28, 63, 0, 255, 0, 512, 2047, 4095, 8191, 16383] follows (by kernel_rfl) ?_
  refine rt_lk rfl w0 rfl (bx_fa tok rfl rfl rfl rfl rfl rfl rfl) rfl rfl rfl ?_
  refine rt_lk rfl w0 rfl (bx_ld1 tok rfl rfl rfl rfl rfl) rfl rfl rfl ?_
  refine tpm ?_
  refine rt_p rfl w0 rfl (pu_len_map tok rfl rfl rfl) ?_
  refine tpm ?_
  obtain ⟨hq6, h0⟩ := chk_e h0
  refine rt_p rfl w0 rfl (pw_quo rfl rfl hq6) ?_
  obtain ⟨hq7, h0⟩ := chk_e h0
  refine rt_p rfl w0 rfl (pu_remw rfl rfl hq7) ?_
  refine tpm ?_
  refine rt_p rfl w0 rfl (pw_mul rfl rfl) ?_
  refine rt_lk rfl w0 rfl (bx_fa tok rfl rfl rfl rfl rfl rfl rfl) rfl rfl rfl ?_
  refine rt_lk rfl w0 rfl (bx_ld1 tok rfl rfl rfl rfl rfl) rfl rfl rfl ?_
  refine rt_p rfl w0 rfl (pw_add rfl rfl) ?_
  refine rt_p rfl w0 rfl (pw_sub rfl rfl) ?_
  refine rt_lk rfl w0 rfl (bx_fa tok rfl rfl rfl rfl rfl rfl rfl) rfl rfl rfl ?_
  refine rt_wk rfl w0 (bx_st (cs := [.d _]) tok rfl rfl rfl rfl rfl rfl rfl) ?_
  refine rt_nil ?_
  refine ⟨by kernel_rfl, ?_⟩
  refine then_n ?_
  obtain ⟨v14, h1, h0⟩ := bnd h0
  refine aw_cut ⟨updA (updA (updA ((fun _ => .dead)) 4 (.ptr 3 0 1 0 0)) 8 (.ptr 4 0 1 0 0)) 12 (.ptr 5 0 1 0 0), lks [.no, .no, .no, .live [⟨47, 4, .av [[.d (.v (.string p0.Name)), .d (.sl (List.map cMonth_ p0.Months)), .d (.sl (List.map cLeapRule_ p0.Rules)), .d (.v (.int .i64 p0.Week))]]⟩], .live [⟨51, 7, .av [[.d (.v (.slice none 0 0)), .d (.v (.int .i64 0)), .d (.v (.int .i64 0)), .d (.v (.int .i64 0)), .d (.v (.int .i64 0)), .d (.v (.int .i64 0)), .d (.v (.int .i64 0))]]⟩], .live [⟨51, 7, .av [[.own 6 0 (v5).length, .d (.v (.int .i64 (p0.Months.length : Int))), .d (.v (.int .i64 v14)), .d (.v (.int .i64 (w64 ((w64 ((w64 ((p2.Year.tmod (w64 ((p1.length : Int).tdiv (p0.Months.length : Int)))) * (p0.Months.length : Int))) + p2.Month)) - 1)))), .d (.v (.int .i64 p2.Day)), .d (.v (.int .i64 p0.Week)), .d (.v (.int .i64 p3))]]⟩], .live [⟨2, 1, .data (List.map cI v5)⟩]]⟩ ?_ ?_
  refine sq [0] ?_
  refine pa ?_
  refine nx ?_
  refine aw_block ?_
  refine aw_loopM (fun s11 => ⟨updA (updA (updA (updA (updA ((fun _ => .dead)) 1 (.d (.sl (List.map cI p1)))) 4 (.ptr 3 0 1 0 0)) 8 (.ptr 4 0 1 0 0)) 12 (.ptr 5 0 1 0 0)) 13 (.d (.v (.int .i64 s11.1))), lks [.no, .no, .no, .live [⟨47, 4, .av [[.d (.v (.string p0.Name)), .d (.sl (List.map cMonth_ p0.Months)), .d (.sl (List.map cLeapRule_ p0.Rules)), .d (.v (.int .i64 p0.Week))]]⟩], .live [⟨51, 7, .av [[.d (.v (.slice none 0 0)), .d (.v (.int .i64 0)), .d (.v (.int .i64 0)), .d (.v (.int .i64 0)), .d (.v (.int .i64 0)), .d (.v (.int .i64 0)), .d (.v (.int .i64 0))]]⟩], .live [⟨51, 7, .av [[.own 6 0 (v5).length, .d (.v (.int .i64 (p0.Months.length : Int))), .d (.v (.int .i64 s11.2)), .d (.v (.int .i64 (w64 ((w64 ((w64 ((p2.Year.tmod (w64 ((p1.length : Int).tdiv (p0.Months.length : Int)))) * (p0.Months.length : Int))) + p2.Month)) - 1)))), .d (.v (.int .i64 p2.Day)), .d (.v (.int .i64 p0.Week)), .d (.v (.int .i64 p3))]]⟩], .live [⟨2, 1, .data (List.map cI v5)⟩]]⟩) h1 ?_ (fun s11 y h2 => ?_)
  exact wk [0, 1, 2, 3, 5, 6, 7]
  refine aw_seq ?_
  refine sq [0,1,2,3] ?_
  refine pm ?_
  refine pm ?_
  refine rp rfl w0 rfl (pu_len_map tok rfl rfl rfl) ?_
  refine rp rfl w0 rfl (pu_lss rfl rfl) ?_
  refine nx ?_
  refine aw_if h2 rfl (fun hc h2 => ?_) (fun hc h2 => ?_)
  refine sk ?_
  refine aw_seq ?_
  refine aw_block ?_
  refine aw_region_draw (is := [0, 1, 2, 3, 4, 5, 6, 7, 8]) [0, 1, 0, 0, 12, 28, 63, 127, 255] follows (by kernel_rfl) ?_
  refine rt_lk rfl w0 rfl (bx_fa tok rfl rfl rfl rfl rfl rfl rfl) rfl rfl rfl ?_
  refine rt_lk rfl w0 rfl (bx_ld1 tok rfl rfl rfl rfl rfl) rfl rfl rfl ?_
  refine tpm ?_
  refine tpm ?_
  obtain ⟨v12, hv12, h2⟩ := bnd h2
  refine rt_p rfl w0 rfl (sl_ix tok hv12 rfl rfl rfl rfl rfl rfl) ?_
  refine tlr tok ?_
  obtain ⟨v13, hv13, h2⟩ := bnd h2
  refine rt_c rfl w0 rfl (b_call 7 (s_l00Max_c hv13) rfl rfl rfl) ?_
  refine rt_lk rfl w0 rfl (bx_fa tok rfl rfl rfl rfl rfl rfl rfl) rfl rfl rfl ?_
  refine rt_wk rfl w0 (bx_st (cs := [.d _]) tok rfl rfl rfl rfl rfl rfl rfl) ?_
  refine rt_nil ?_
  refine ⟨by kernel_rfl, ?_⟩
  refine block_n ?_
  refine then_n ?_
  refine sr [0,1,2] ?_
  refine pm ?_
  refine rp rfl w0 rfl (pw_add rfl rfl) ?_
  refine pa ?_
  refine ra_nil ?_
  refine loop_n ?_
  cases h2
  refine ⟨_, rfl, ?_⟩
  exact wk [0, 1, 2, 3, 4, 5, 6]
  refine aw_exit ?_
  refine then_e ?_
  cases h2
  refine loop_x ⟨_, rfl, fun e => ?_⟩
  subst e
  refine block_hit ?_
  refine then_n ?_
  exact wk [0, 1, 2, 3, 4, 5, 6]
  obtain ⟨v25, h1, h0⟩ := bnd h0
  refine aw_cut ⟨updA (updA ((fun _ => .dead)) 8 (.ptr 3 0 1 0 0)) 12 (.ptr 4 0 1 0 0), lks [.no, .no, .no, .live [⟨51, 7, .av [[.d (.v (.slice none 0 0)), .d (.v (.int .i64 0)), .d (.v (.int .i64 0)), .d (.v (.int .i64 0)), .d (.v (.int .i64 0)), .d (.v (.int .i64 0)), .d (.v (.int .i64 0))]]⟩], .live [⟨51, 7, .av [[.own 5 0 (v5).length, .d (.v (.int .i64 (p0.Months.length : Int))), .d (.v (.int .i64 v25)), .d (.v (.int .i64 (w64 ((w64 ((w64 ((p2.Year.tmod (w64 ((p1.length : Int).tdiv (p0.Months.length : Int)))) * (p0.Months.length : Int))) + p2.Month)) - 1)))), .d (.v (.int .i64 p2.Day)), .d (.v (.int .i64 p0.Week)), .d (.v (.int .i64 p3))]]⟩], .live [⟨2, 1, .data (List.map cI v5)⟩]]⟩ ?_ ?_
  refine sq [0] ?_
  refine pa ?_
  refine nx ?_
  refine aw_block ?_
  refine aw_loopM (fun s20 => ⟨updA (updA (updA (updA ((fun _ => .dead)) 4 (.ptr 3 0 1 0 0)) 8 (.ptr 4 0 1 0 0)) 12 (.ptr 5 0 1 0 0)) 14 (.d (.v (.int .i64 s20.1))), lks [.no, .no, .no, .live [⟨47, 4, .av [[.d (.v (.string p0.Name)), .d (.sl (List.map cMonth_ p0.Months)), .d (.sl (List.map cLeapRule_ p0.Rules)), .d (.v (.int .i64 p0.Week))]]⟩], .live [⟨51, 7, .av [[.d (.v (.slice none 0 0)), .d (.v (.int .i64 0)), .d (.v (.int .i64 0)), .d (.v (.int .i64 0)), .d (.v (.int .i64 0)), .d (.v (.int .i64 0)), .d (.v (.int .i64 0))]]⟩], .live [⟨51, 7, .av [[.own 6 0 (v5).length, .d (.v (.int .i64 (p0.Months.length : Int))), .d (.v (.int .i64 s20.2)), .d (.v (.int .i64 (w64 ((w64 ((w64 ((p2.Year.tmod (w64 ((p1.length : Int).tdiv (p0.Months.length : Int)))) * (p0.Months.length : Int))) + p2.Month)) - 1)))), .d (.v (.int .i64 p2.Day)), .d (.v (.int .i64 p0.Week)), .d (.v (.int .i64 p3))]]⟩], .live [⟨2, 1, .data (List.map cI v5)⟩]]⟩) h1 ?_ (fun s20 y h2 => ?_)
  exact wk [0, 1, 2, 3, 4, 5, 6]
  refine aw_seq ?_
  refine sq [0,1,2,3,4] ?_
  refine pm ?_
  refine fa tok ?_
  refine ld tok ?_
  refine rp rfl w0 rfl (pu_len_map tok rfl rfl rfl) ?_
  refine rp rfl w0 rfl (pu_lss rfl rfl) ?_
  refine nx ?_
  refine aw_if h2 rfl (fun hc h2 => ?_) (fun hc h2 => ?_)
  refine sk ?_
  refine aw_seq ?_
  refine aw_block ?_
  refine aw_region_draw (is := [0, 1, 2, 3, 4, 5, 6, 7, 8, 9, 10, 11, 12, 13, 14, 15, 16, 17]) [0, 1, 0, 4, 0, 28, 60, 124, 0, 256, 0, 1792, 3840, 7936, 16380, 32767, 65535, 131071] follows (by kernel_rfl) ?_
  refine rt_lk rfl w0 rfl (bx_fa tok rfl rfl rfl rfl rfl rfl rfl) rfl rfl rfl ?_
  refine rt_lk rfl w0 rfl (bx_ld1 tok rfl rfl rfl rfl rfl) rfl rfl rfl ?_
  refine rt_lk rfl w0 rfl (bx_fa tok rfl rfl rfl rfl rfl rfl rfl) rfl rfl rfl ?_
  refine rt_lk rfl w0 rfl (bx_ld1 tok rfl rfl rfl rfl rfl) rfl rfl rfl ?_
  refine tpm ?_
  obtain ⟨v21, hv21, h2⟩ := bnd h2
  refine rt_p rfl w0 rfl (sl_ix tok hv21 rfl rfl rfl rfl rfl rfl) ?_
  refine tfr tok ?_
  refine tlr tok ?_
  refine rt_lk rfl w0 rfl (bx_fa tok rfl rfl rfl rfl rfl rfl rfl) rfl rfl rfl ?_
  refine rt_lk rfl w0 rfl (bx_ld1 tok rfl rfl rfl rfl rfl) rfl rfl rfl ?_
  refine tpm ?_
  obtain ⟨v22, hv22, h2⟩ := bnd h2
  refine rt_p rfl w0 rfl (sl_ix tok hv22 rfl rfl rfl rfl rfl rfl) ?_
  refine tfr tok ?_
  refine tlr tok ?_
  obtain ⟨v23, hv23, h2⟩ := bnd h2
  refine rt_c rfl w0 rfl (b_call 7 (s_l00Max_c hv23) rfl rfl rfl) ?_
  obtain ⟨v24, hv24, h2⟩ := bnd h2
  refine rt_c rfl w0 rfl (b_call 7 (s_l00Max_c hv24) rfl rfl rfl) ?_
  refine rt_lk rfl w0 rfl (bx_fa tok rfl rfl rfl rfl rfl rfl rfl) rfl rfl rfl ?_
  refine rt_wk rfl w0 (bx_st (cs := [.d _]) tok rfl rfl rfl rfl rfl rfl rfl) ?_
  refine rt_nil ?_
  refine ⟨by kernel_rfl, ?_⟩
  refine block_n ?_
  refine then_n ?_
  refine sr [0,1,2] ?_
  refine pm ?_
  refine rp rfl w0 rfl (pw_add rfl rfl) ?_
  refine pa ?_
  refine ra_nil ?_
  refine loop_n ?_
  cases h2
  refine ⟨_, rfl, ?_⟩
  exact wk [0, 1, 2, 3, 4, 5, 6]
  refine aw_exit ?_
  refine then_e ?_
  cases h2
  refine loop_x ⟨_, rfl, fun e => ?_⟩
  subst e
  refine block_hit ?_
  refine then_n ?_
  exact wk [0, 1, 2, 4, 5, 6]
  refine sq [0,1,2] ?_
  refine rl rfl w0 rfl (bx_ldN tok rfl rfl rfl rfl) ?_
  refine rw0 rfl w0 (bx_st (cs := _ :: _) tok rfl rfl rfl rfl rfl rfl rfl) ?_
  refine pa ?_
  refine nx ?_
  refine aw_ret ?_
  cases h0
  exact retK_ (rs := [.cell 8 51, .tmp 9]) [5] rfl

theorem s_l27Dial_c {p0 : Movement_} {p1 : Date_} {p2 : Int} {r : Perpetual_ × Int} (h0 : s_l27Dial_m p0 p1 p2 = some r) : FnC Tryz.prog 55 [] [.ref (cMovement_ p0), .agg [.d (.v (.int .i64 p1.Year)), .d (.v (.int .i64 p1.Month)), .d (.v (.int .i64 p1.Day))], .d (.v (.int .i64 p2))] [.live [⟨2, 1, .data (List.map cI r.1.Cam)⟩]] (.tup [.agg [.own 0 0 r.1.Cam.length, .d (.v (.int .i64 r.1.Months)), .d (.v (.int .i64 r.1.Teeth)), .d (.v (.int .i64 r.1.At)), .d (.v (.int .i64 r.1.Day)), .d (.v (.int .i64 r.1.Week)), .d (.v (.int .i64 r.1.Weekday))], .d (.v (.int .i64 r.2))]) := by
  refine fnc_intro (T := tt) (N := 21) tok Tryz.func55 rfl rfl (by kernel_rfl) rfl rfl ?_
  unfold s_l27Dial_m at h0
  refine sq [0,1,2] ?_
  refine rs rfl w0 rfl (st_box 3 (cs := _ :: _) rfl rfl rfl) ?_
  refine rs rfl w0 rfl (st_alloc 4 (cs := [.d (.v (.slice none 0 0)), .d (.v (.int .i64 0)), .d (.v (.int .i64 0)), .d (.v (.int .i64 0)), .d (.v (.int .i64 0)), .d (.v (.int .i64 0)), .d (.v (.int .i64 0))]) tok rfl rfl rfl) ?_
  refine pa ?_
  refine nx ?_
  refine aw_seq ?_
  refine aw_region_draw (is := [0, 1, 2, 3, 4, 5, 6, 7, 8, 9, 10, 11, 12, 13, 14]) [0, 1, 3, 7, 0, 16, 48, 112, 0, 0, 1023, 2047, 2047, 8191, 16383] follows (by kernel_rfl) ?_
  refine tpmr ?_
  refine tnr ?_
  refine tfr tok ?_
  refine rt_p rfl w0 rfl (pu_load_refN tok rfl rfl rfl (by repeat (first | exact SegD.z _ | apply SegD.t))) ?_
  refine tpmr ?_
  refine tnr ?_
  refine tfr tok ?_
  refine tlr tok ?_
  refine rt_lk rfl w0 rfl (bx_ldN tok rfl rfl rfl rfl) rfl rfl rfl ?_
  refine tpm ?_
  obtain ⟨v1, hv1, h0⟩ := bnd h0
  refine rt_c rfl w0 rfl (b_call 5 (s_SetPerpetual_c hv1) rfl rfl rfl) ?_
  refine rt_p rfl w0 rfl (pu_extract rfl rfl) ?_
  refine rt_p rfl w0 rfl (pu_extract rfl rfl) ?_
  refine rt_wk rfl w0 (bx_st (cs := _ :: _) tok rfl rfl rfl rfl rfl rfl rfl) ?_
  refine tpa ?_
  refine rt_nil ?_
  refine ⟨by kernel_rfl, ?_⟩
  refine then_n ?_
  refine aw_ret ?_
  cases h0
  exact retK_ (rs := [.cell 6 51, .tmp 7]) [5] rfl

theorem s_l00Same_c {p0 : List Int} {p1 : List Int} {r : Bool} (h0 : s_l00Same_m p0 p1 = some r) : FnC Tryz.prog 69 [] [.d (.sl (List.map cI p0)), .d (.sl (List.map cI p1))] [] (.d (.v (.bool r))) := by
  refine fnc_intro (T := tt) (N := 26) tok Tryz.func69 rfl rfl (by kernel_rfl) rfl rfl ?_
  unfold s_l00Same_m at h0
  refine sq [0] ?_
  refine pa ?_
  refine nx ?_
  refine aw_seq ?_
  refine sq [0,1,2,3,4] ?_
  refine pm ?_
  refine rp rfl w0 rfl (pu_len_map tok rfl rfl rfl) ?_
  refine pm ?_
  refine rp rfl w0 rfl (pu_len_map tok rfl rfl rfl) ?_
  refine rp rfl w0 rfl (pu_neq rfl rfl) ?_
  refine nx ?_
  refine aw_if h0 rfl (fun hc h0 => ?_) (fun hc h0 => ?_)
  refine sq [0] ?_
  refine pa ?_
  refine nx ?_
  refine aw_ret ?_
  refine then_r ?_
  cases h0
  exact ret0_ (rs := [.tmp 4]) rfl
  refine sk ?_
  obtain ⟨v7x, h1, h0⟩ := bnd h0
  refine aw_cutE v7x (fun v7 => ⟨(fun _ => .dead), lks [.no, .no, .no]⟩) ?_ ?_
  refine sq [0] ?_
  refine pa ?_
  refine nx ?_
  refine aw_block ?_
  refine aw_loopM (fun s4 => ⟨updA (updA (updA ((fun _ => .dead)) 0 (.d (.sl (List.map cI p0)))) 1 (.d (.sl (List.map cI p1)))) 5 (.d (.v (.int .i64 s4))), lks [.no, .no, .no]⟩) h1 ?_ (fun s4 y h2 => ?_)
  exact wk [0, 1, 2]
  refine aw_seq ?_
  refine sq [0,1,2,3] ?_
  refine pm ?_
  refine pm ?_
  refine rp rfl w0 rfl (pu_len_map tok rfl rfl rfl) ?_
  refine rp rfl w0 rfl (pu_lss rfl rfl) ?_
  refine nx ?_
  refine aw_if h2 rfl (fun hc h2 => ?_) (fun hc h2 => ?_)
  refine sk ?_
  refine aw_seq ?_
  refine aw_block ?_
  refine aw_seq ?_
  refine aw_region_draw (is := [0, 1, 2, 3, 4, 5, 6, 7, 8]) [0, 0, 3, 7, 0, 0, 48, 112, 255] follows (by kernel_rfl) ?_
  refine tpm ?_
  refine tpm ?_
  obtain ⟨v5, hv5, h2⟩ := bnd h2
  refine rt_p rfl w0 rfl (sl_ix tok hv5 rfl rfl rfl rfl rfl rfl) ?_
  refine tlr tok ?_
  refine tpm ?_
  refine tpm ?_
  obtain ⟨v6, hv6, h2⟩ := bnd h2
  refine rt_p rfl w0 rfl (sl_ix tok hv6 rfl rfl rfl rfl rfl rfl) ?_
  refine tlr tok ?_
  refine rt_p rfl w0 rfl (pu_neq rfl rfl) ?_
  refine rt_nil ?_
  refine ⟨by kernel_rfl, ?_⟩
  refine then_n ?_
  refine aw_if h2 rfl (fun hc h2 => ?_) (fun hc h2 => ?_)
  refine sq [0] ?_
  refine pa ?_
  refine nx ?_
  refine aw_ret ?_
  refine block_r ?_
  refine then_r ?_
  cases h2
  refine loop_r ⟨_, rfl, fun e => ?_⟩
  subst e
  refine block_r ?_
  replace h0 := orE_s h0
  refine then_r ?_
  cases h0
  exact ret0_ (rs := [.tmp 4]) rfl
  refine aw_skip ?_
  refine block_n ?_
  refine then_n ?_
  refine sr [0,1,2] ?_
  refine pm ?_
  refine rp rfl w0 rfl (pw_add rfl rfl) ?_
  refine pa ?_
  refine ra_nil ?_
  refine loop_n ?_
  cases h2
  refine ⟨_, rfl, ?_⟩
  exact wk [0, 1, 2]
  refine aw_exit ?_
  refine then_e ?_
  cases h2
  refine loop_x ⟨_, rfl, fun e => ?_⟩
  subst e
  refine block_hit ?_
  refine then_n ?_
  refine ⟨_, rfl, ?_⟩
  exact wk [0, 1, 2]
  rintro v7 rfl
  replace h0 := orE_f h0
  refine sq [0] ?_
  refine pa ?_
  refine nx ?_
  refine aw_ret ?_
  cases h0
  exact ret0_ (rs := [.tmp 4]) rfl

theorem s_l27Ok_c {p0 : Sim_} {r : Bool} (h0 : s_l27Ok_m p0 = some r) : FnC Tryz.prog 27 [] [.ref (cSim_ p0)] [] (.d (.v (.bool r))) := by
  refine fnc_intro (T := tt) (N := 90) tok Tryz.func27 rfl rfl (by kernel_rfl) rfl rfl ?_
  unfold s_l27Ok_m at h0
  refine sq [0] ?_
  refine pa ?_
  refine nx ?_
  refine sq [0,1,2,3] ?_
  refine pmr ?_
  refine nr ?_
  refine fr tok ?_
  refine par ?_
  refine nx ?_
  refine aw_seq ?_
  obtain ⟨v5, h1, h0⟩ := bnd h0
  refine aw_cut ⟨updA (updA (updA ((fun _ => .dead)) 0 (.ref (cSim_ p0))) 3 (.ref (cMovement_ p0.Movement))) 32 (.d (.v (.bool v5))), lks [.no, .no, .no]⟩ ?_ ?_
  refine sr [0,1,2,3,4,5,6,7,8,9,10,11,12,13,14,15,16,17,18,19,20,21,22,23] ?_
  refine pmr ?_
  obtain ⟨v1, hv1, h1⟩ := bnd h1
  refine rs rfl w0 rfl (c_call 3 (fnc_pre (s_l26Ok_c hv1)) rfl rfl rfl) ?_
  refine rp rfl w0 rfl (pu_not rfl) ?_
  refine pm ?_
  refine ra_ifB (u := 12) h1 rfl (fun hc h1 => ?_) (fun hc h1 => ?_)
  iterate 4 refine k1 ?_
  refine pkt ?_
  refine pm ?_
  iterate 6 refine k1 ?_
  refine pkt ?_
  refine pm ?_
  iterate 5 refine k1 ?_
  refine pkt ?_
  refine nx ?_
  cases h1
  refine Weak.trans_ (weak_pre (d := 3) (ds := cMovement_ p0.Movement) rfl (by repeat (first | exact Pre.z _ | apply Pre.t))) ?_
  exact wk [0, 1, 2]
  refine pmr1 ?_
  obtain ⟨v2, hv2, h1⟩ := bnd h1
  refine rs rfl (w1 rfl rfl rfl) rfl (c_call 3 (fnc_pre (s_l26Faults_c hv2)) rfl rfl rfl) ?_
  refine rl rfl (w1 rfl rfl rfl) rfl (ow_len tok rfl rfl rfl rfl rfl) ?_
  refine rp rfl (w1 rfl rfl rfl) rfl (pu_gtr rfl rfl) ?_
  refine pkf ?_
  refine pm ?_
  refine ra_if (u := 18) h1 rfl (fun hc h1 => ?_) (fun hc h1 => ?_)
  iterate 6 refine k1 ?_
  refine pkt ?_
  refine pm ?_
  iterate 5 refine k1 ?_
  refine pkt ?_
  refine nx ?_
  cases h1
  refine Weak.trans_ (weak_pre (d := 3) (ds := cMovement_ p0.Movement) rfl (by repeat (first | exact Pre.z _ | apply Pre.t))) ?_
  exact wk [0, 1, 2]
  refine pmr1 ?_
  refine nr1 ?_
  refine fr1 tok ?_
  refine lr1 tok ?_
  obtain ⟨v3, hv3, h1⟩ := bnd h1
  refine rs rfl (w1 rfl rfl rfl) rfl (c_call 4 (s_l00In_c hv3) rfl rfl rfl) ?_
  refine rp rfl (w1 rfl rfl rfl) rfl (pu_not rfl) ?_
  refine pkf ?_
  refine pm ?_
  refine ra_ifB (u := 26) h1 rfl (fun hc h1 => ?_) (fun hc h1 => ?_)
  iterate 5 refine k1 ?_
  refine pkt ?_
  refine nx ?_
  cases h1
  refine Weak.trans_ (weak_pre (d := 3) (ds := cMovement_ p0.Movement) rfl (by repeat (first | exact Pre.z _ | apply Pre.t))) ?_
  exact wk [0, 1, 2]
  refine pmr1 ?_
  refine nr1 ?_
  refine fr1 tok ?_
  obtain ⟨v4, hv4, h1⟩ := bnd h1
  refine rs rfl (w1 rfl rfl rfl) rfl (c_call 4 (fnc_pre (s_l18Ok_c hv4)) rfl rfl rfl) ?_
  refine rp rfl (w1 rfl rfl rfl) rfl (pu_not rfl) ?_
  refine pkf ?_
  refine nx ?_
  cases h1
  refine Weak.trans_ (weak_pre (d := 3) (ds := cMovement_ p0.Movement) rfl (by repeat (first | exact Pre.z _ | apply Pre.t))) ?_
  exact wk [0, 1, 2]
  refine aw_ifB h0 rfl (fun hc h0 => ?_) (fun hc h0 => ?_)
  refine sq [0] ?_
  refine pa ?_
  refine nx ?_
  refine aw_ret ?_
  refine then_r ?_
  cases h0
  exact ret0_ (rs := [.tmp 2]) rfl
  refine sk ?_
  refine aw_seq ?_
  refine aw_region_draw (is := [0, 1, 2, 3, 4, 5, 6, 7, 8, 9, 10, 11, 12, 13, 14, 15]) [0, 0, 2, 6, 14, 0, 32, 96, 224, 511, 1023, 2047, 2047, 0, 12287, 32767] follows (by kernel_rfl) ?_
  refine tpmr ?_
  refine tpmr ?_
  refine tnr ?_
  refine tfr tok ?_
  refine rt_p rfl w0 rfl (pu_load_refN tok rfl rfl rfl (by repeat (first | exact SegD.z _ | apply SegD.t))) ?_
  refine tpmr ?_
  refine tnr ?_
  refine tfr tok ?_
  refine tlr tok ?_
  obtain ⟨v6, hv6, h0⟩ := bnd h0
  refine rt_c rfl w0 rfl (b_call 4 (s_l27Dial_c hv6) rfl rfl rfl) ?_
  refine rt_p rfl w0 rfl (pu_move (r := .tup _) rfl) ?_
  refine rt_p rfl w0 rfl (pu_extract rfl rfl) ?_
  refine rt_p rfl w0 rfl (pu_extract rfl rfl) ?_
  refine rt_a rfl w0 rfl rfl (fun hx hk => st_alloc 3 (cs := [.d (.v (.slice none 0 0)), .d (.v (.int .i64 0)), .d (.v (.int .i64 0)), .d (.v (.int .i64 0)), .d (.v (.int .i64 0)), .d (.v (.int .i64 0)), .d (.v (.int .i64 0))]) tok rfl rfl hk) ?_
  refine rt_wk rfl w0 (bx_st (cs := _ :: _) tok rfl rfl rfl rfl rfl rfl rfl) ?_
  refine tpa ?_
  refine rt_nil ?_
  refine ⟨by kernel_rfl, ?_⟩
  refine then_n ?_
  refine aw_seq ?_
  refine aw_region_draw (is := [0, 1, 2, 3, 4, 5, 6, 7, 8, 9, 10, 11, 12, 13, 14, 15, 16, 17, 18, 19, 20, 21, 22, 23, 24, 25, 26, 27, 28, 29, 30, 31, 32, 33, 34, 35, 36, 37, 38, 39, 40, 41, 42, 43, 44]) [0, 1, 3, 7, 15, 31, 63, 127, 7, 263, 775, 1799, 4095, 8191, 16383, 32767, 65535, 131071, 262143, 524287, 32767, 1081343, 4194303, 8388607, 16777215, 33554431, 67108863, 134217727, 268435455, 536870911, 33554431, 1107296255, 4294967295, 8589934591, 17179869183, 34359738367, 68719476735, 137438953471, 274877906943, 549755813887, 34359738367, 1133871366143, 4398046511103, 8796093022207, 17592186044415] follows (by kernel_rfl) ?_
  refine tpm ?_
  refine rt_p rfl w0 rfl (pu_eql rfl rfl) ?_
  refine tpm ?_
  refine rt_if (u := 48) h0 rfl (fun hc h0 => ?_) (fun hc h0 => ?_)
  refine tpmr1 ?_
  refine tnr1 ?_
  refine tfr1 tok ?_
  refine tfr1 tok ?_
  refine tlr1 tok ?_
  refine tpmr1 ?_
  refine tnr1 ?_
  refine tfr1 tok ?_
  refine tlr1 tok ?_
  obtain ⟨v7, hv7, h0⟩ := bnd h0
  refine rt_c rfl (w1 rfl rfl rfl) rfl (b_call 5 (s_l00Same_c hv7) rfl rfl rfl) ?_
  refine tpkt ?_
  refine tpm ?_
  refine rt_ifB (u := 60) h0 rfl (fun hc h0 => ?_) (fun hc h0 => ?_)
  refine tpmr1 ?_
  refine tnr1 ?_
  refine tfr1 tok ?_
  refine tfr1 tok ?_
  refine tlr1 tok ?_
  refine rt_lk rfl (w1 rfl rfl rfl) rfl (bx_fa tok rfl rfl rfl rfl rfl rfl rfl) rfl rfl rfl ?_
  refine rt_lk rfl (w1 rfl rfl rfl) rfl (bx_ld1 tok rfl rfl rfl rfl rfl) rfl rfl rfl ?_
  refine rt_p rfl (w1 rfl rfl rfl) rfl (pu_eql rfl rfl) ?_
  refine tpkt ?_
  refine tpm ?_
  refine rt_if (u := 70) h0 rfl (fun hc h0 => ?_) (fun hc h0 => ?_)
  refine tpmr1 ?_
  refine tnr1 ?_
  refine tfr1 tok ?_
  refine tfr1 tok ?_
  refine tlr1 tok ?_
  refine rt_lk rfl (w1 rfl rfl rfl) rfl (bx_fa tok rfl rfl rfl rfl rfl rfl rfl) rfl rfl rfl ?_
  refine rt_lk rfl (w1 rfl rfl rfl) rfl (bx_ld1 tok rfl rfl rfl rfl rfl) rfl rfl rfl ?_
  refine rt_p rfl (w1 rfl rfl rfl) rfl (pu_eql rfl rfl) ?_
  refine tpkt ?_
  refine tpm ?_
  refine rt_if (u := 80) h0 rfl (fun hc h0 => ?_) (fun hc h0 => ?_)
  refine tpmr1 ?_
  refine tnr1 ?_
  refine tfr1 tok ?_
  refine tfr1 tok ?_
  refine tlr1 tok ?_
  refine rt_lk rfl (w1 rfl rfl rfl) rfl (bx_fa tok rfl rfl rfl rfl rfl rfl rfl) rfl rfl rfl ?_
  refine rt_lk rfl (w1 rfl rfl rfl) rfl (bx_ld1 tok rfl rfl rfl rfl rfl) rfl rfl rfl ?_
  refine rt_p rfl (w1 rfl rfl rfl) rfl (pu_eql rfl rfl) ?_
  refine tpkt ?_
  refine tpa ?_
  refine rt_nil ?_
  refine ⟨by kernel_rfl, ?_⟩
  refine then_n ?_
  refine aw_ret ?_
  cases h0
  exact ret0_ (rs := [.tmp 2]) rfl
  iterate 8 refine k2 ?_
  refine tpkf ?_
  refine tpa ?_
  refine rt_nil ?_
  refine ⟨by kernel_rfl, ?_⟩
  refine then_n ?_
  refine aw_ret ?_
  cases h0
  exact ret0_ (rs := [.tmp 2]) rfl
  iterate 8 refine k2 ?_
  refine tpkf ?_
  refine tpm ?_
  iterate 8 refine k2 ?_
  refine tpkf ?_
  refine tpa ?_
  refine rt_nil ?_
  refine ⟨by kernel_rfl, ?_⟩
  refine then_n ?_
  refine aw_ret ?_
  cases h0
  exact ret0_ (rs := [.tmp 2]) rfl
  iterate 8 refine k2 ?_
  refine tpkf ?_
  refine tpm ?_
  iterate 8 refine k2 ?_
  refine tpkf ?_
  refine tpm ?_
  iterate 8 refine k2 ?_
  refine tpkf ?_
  refine tpa ?_
  refine rt_nil ?_
  refine ⟨by kernel_rfl, ?_⟩
  refine then_n ?_
  refine aw_ret ?_
  cases h0
  exact ret0_ (rs := [.tmp 2]) rfl
  iterate 10 refine k2 ?_
  refine tpkf ?_
  refine tpm ?_
  iterate 8 refine k2 ?_
  refine tpkf ?_
  refine tpm ?_
  iterate 8 refine k2 ?_
  refine tpkf ?_
  refine tpm ?_
  iterate 8 refine k2 ?_
  refine tpkf ?_
  refine tpa ?_
  refine rt_nil ?_
  refine ⟨by kernel_rfl, ?_⟩
  refine then_n ?_
  refine aw_ret ?_
  cases h0
  exact ret0_ (rs := [.tmp 2]) rfl

theorem s_l08Own_c {p0 : Works_} {r : Works_} (h0 : s_l08Own_m p0 = some r) : FnC Tryz.prog 127 [] [.ref (cWorks_ p0)] [.live [⟨213, 2, .av (nestL 1 cArbor_ r.Arbors)⟩], .live (famL 2 1 cArbor_ r.Arbors), .live [⟨215, 4, .data (List.map cMesh_ r.Meshes)⟩]] (.agg [.own 0 0 r.Arbors.length, .own 2 0 r.Meshes.length]) := by
  refine fnc_intro (T := tt) (N := 45) tok Tryz.func127 rfl rfl (by kernel_rfl) rfl rfl ?_
  unfold s_l08Own_m at h0
  refine sq [0] ?_
  refine rs rfl w0 rfl (st_alloc 3 (cs := [.d (.v (.slice none 0 0)), .d (.v (.slice none 0 0))]) tok rfl rfl rfl) ?_
  refine nx ?_
  refine sq [0,1,2,3,4,5,6,7,8] ?_
  refine rs rfl w0 rfl (st_slice0 4 tok rfl rfl rfl rfl) ?_
  refine pmr ?_
  refine nr ?_
  refine fr tok ?_
  refine lr tok ?_
  obtain ⟨hq1, h0⟩ := chk_e h0
  refine rw1 rfl w0 rfl (ap_own tok hq1 rfl rfl rfl rfl rfl rfl rfl rfl rfl rfl rfl rfl (fun _ => rfl)) ?_
  refine rp rfl w0 rfl (pbl (C0 := [.d (.v (.slice none 0 0)), .d (.v (.slice none 0 0))]) tok rfl rfl rfl) ?_
  refine rs rfl w0 rfl (st_alloc 5 (cs := [.d (.v (.slice none 0 0)), .d (.v (.slice none 0 0))]) tok rfl rfl rfl) ?_
  refine rw0 rfl w0 (bx_st (cs := _ :: _) tok rfl rfl rfl rfl rfl rfl rfl) ?_
  refine nx ?_
  obtain ⟨v12, h1, h0⟩ := bnd h0
  refine aw_cut ⟨updA (updA ((fun _ => .dead)) 2 (.ptr 3 0 1 0 0)) 3 (.ptr 4 0 1 0 0), lks [.no, .no, .no, .live [⟨43, 2, .av [[.d (.v (.slice none 0 0)), .d (.v (.slice none 0 0))]]⟩], .live [⟨43, 2, .av [[.own 5 0 (v12).length, .own 6 0 (([] : List Mesh_) ++ p0.Meshes).length]]⟩], .live [⟨213, 2, .av (nestL 7 cArbor_ v12)⟩], .live [⟨215, 4, .data (List.map cMesh_ (([] : List Mesh_) ++ p0.Meshes))⟩], .live (famL 2 1 cArbor_ v12)]⟩ ?_ ?_
  refine sq [0] ?_
  refine pa ?_
  refine nx ?_
  refine aw_block ?_
  refine aw_loopM (fun s7 => ⟨updA (updA (updA (updA ((fun _ => .dead)) 0 (.ref (cWorks_ p0))) 2 (.ptr 3 0 1 0 0)) 3 (.ptr 4 0 1 0 0)) 4 (.d (.v (.int .i64 s7.1))), lks [.no, .no, .no, .live [⟨43, 2, .av [[.d (.v (.slice none 0 0)), .d (.v (.slice none 0 0))]]⟩], .live [⟨43, 2, .av [[.own 5 0 (s7.2).length, .own 6 0 (([] : List Mesh_) ++ p0.Meshes).length]]⟩], .live [⟨213, 2, .av (nestL 7 cArbor_ s7.2)⟩], .live [⟨215, 4, .data (List.map cMesh_ (([] : List Mesh_) ++ p0.Meshes))⟩], .live (famL 2 1 cArbor_ s7.2)]⟩) h1 ?_ (fun s7 y h2 => ?_)
  refine Weak.trans_ (weak_adopt 6 rfl 213 2 (kb := 5) (j := 0) rfl rfl (by repeat (first | exact Spl.z _ | apply Spl.t | apply Spl.d))) ?_
  refine Weak.trans_ (weak_nest0 7 (k := 6) 2 1 cArbor_ rfl rfl) ?_
  exact wk [0, 1, 2, 3, 5, 6, 4, 7]
  refine aw_seq ?_
  refine sq [0,1,2,3,4,5,6] ?_
  refine pm ?_
  refine pmr ?_
  refine nr ?_
  refine fr tok ?_
  refine lr tok ?_
  refine rp rfl w0 rfl (pu_len_map tok rfl rfl rfl) ?_
  refine rp rfl w0 rfl (pu_lss rfl rfl) ?_
  refine nx ?_
  refine aw_if h2 rfl (fun hc h2 => ?_) (fun hc h2 => ?_)
  refine sk ?_
  refine aw_seq ?_
  refine aw_block ?_
  refine aw_region_drawW (is := [0, 1, 2, 3, 4, 5, 6, 7, 8, 9, 10, 11, 12, 13, 14, 15, 16, 17, 18, 19, 20, 21, 22, 23]) [0, 1, 0, 4, 12, 28, 0, 124, 252, 508, 0, 1024, 3072, 7168, 0, 31744, 64512, 130048, 261120, 524284, 1048572, 2097151, 4194303, 8388607] follows (by kernel_rfl) ?_
  refine rt_lk rfl w0 rfl (bx_fa tok rfl rfl rfl rfl rfl rfl rfl) rfl rfl rfl ?_
  refine rt_lk rfl w0 rfl (bx_ld1 tok rfl rfl rfl rfl rfl) rfl rfl rfl ?_
  refine tpmr ?_
  refine tnr ?_
  refine tfr tok ?_
  refine tlr tok ?_
  refine tpm ?_
  obtain ⟨v8, hv8, h2⟩ := bnd h2
  refine rt_p rfl w0 rfl (sl_ix tok hv8 rfl rfl rfl rfl rfl rfl) ?_
  refine tfr tok ?_
  refine tlr tok ?_
  refine tpmr ?_
  refine tnr ?_
  refine tfr tok ?_
  refine tlr tok ?_
  refine tpm ?_
  obtain ⟨v9, hv9, h2⟩ := bnd h2
  refine rt_p rfl w0 rfl (sl_ix tok hv9 rfl rfl rfl rfl rfl rfl) ?_
  refine tfr tok ?_
  refine tlr tok ?_
  obtain ⟨v10, hv10, h2⟩ := bnd h2
  refine rt_c rfl w0 rfl (b_call 8 (s_l00Own_c hv10) rfl rfl rfl) ?_
  refine rt_p rfl w0 rfl (pbl (C0 := [.d (.v (.string (⟨#[]⟩ : ByteArray))), .d (.v (.slice none 0 0))]) tok rfl rfl rfl) ?_
  refine rt_s rfl w0 rfl (bs_av 9 tok rfl rfl rfl (by repeat (first | exact Els.nil _ | apply Els.cons (cs := [.d _]) rfl rfl rfl | apply Els.cons (cs := _ :: _) rfl rfl rfl)) rfl rfl rfl rfl) ?_
  obtain ⟨hq11, h2⟩ := chk_e h2
  refine rt_wkd rfl w0 rfl (nst_app tok (⟨v8.Name, v10⟩ : Arbor_) hq11 rfl rfl rfl rfl rfl rfl rfl rfl rfl rfl rfl rfl rfl rfl rfl) ?_
  refine rt_lk rfl w0 rfl (bx_fa tok rfl rfl rfl rfl rfl rfl rfl) rfl rfl rfl ?_
  refine rt_wk rfl w0 (bx_st (cs := [.own _ _ _]) tok rfl rfl rfl rfl rfl rfl rfl) ?_
  refine rt_nil ?_
  refine ⟨by kernel_rfl, _, Weak.trans_ (absorb_app 10 (k := 5) (kf := 7) (k2 := 8) (⟨v8.Name, v10⟩ : Arbor_) rfl rfl rfl rfl rfl rfl rfl (by repeat (first | exact NstC.nil | apply NstC.v | apply NstC.sl (by first | rfl | (simp; done)))) rfl rfl rfl) (Weak.refl_), ?_⟩
  refine block_n ?_
  refine then_n ?_
  refine sr [0,1,2] ?_
  refine pm ?_
  refine rp rfl w0 rfl (pw_add rfl rfl) ?_
  refine pa ?_
  refine ra_nil ?_
  refine loop_n ?_
  cases h2
  refine ⟨_, rfl, ?_⟩
  exact wk [0, 1, 2, 3, 4, 5, 6, 10]
  refine aw_exit ?_
  refine then_e ?_
  cases h2
  refine loop_x ⟨_, rfl, fun e => ?_⟩
  subst e
  refine block_hit ?_
  refine then_n ?_
  exact wk [0, 1, 2, 3, 4, 5, 6, 7]
  refine sq [0,1] ?_
  refine rl rfl w0 rfl (bx_ldN tok rfl rfl rfl rfl) ?_
  refine rw0 rfl w0 (bx_st (cs := _ :: _) tok rfl rfl rfl rfl rfl rfl rfl) ?_
  refine nx ?_
  refine aw_ret ?_
  cases h0
  exact retK_ (rs := [.cell 2 43]) [5, 7, 6] rfl

theorem s_l15Own_c {p0 : Calendar_} {r : Calendar_} (h0 : s_l15Own_m p0 = some r) : FnC Tryz.prog 128 [] [.ref (cCalendar_ p0)] [.live [⟨147, 3, .data (List.map cMonth_ r.Months)⟩], .live [⟨179, 3, .data (List.map cLeapRule_ r.Rules)⟩]] (.agg [.d (.v (.string r.Name)), .own 0 0 r.Months.length, .own 1 0 r.Rules.length, .d (.v (.int .i64 r.Week))]) := by
  refine fnc_intro (T := tt) (N := 22) tok Tryz.func128 rfl rfl (by kernel_rfl) rfl rfl ?_
  unfold s_l15Own_m at h0
  refine sq [0] ?_
  refine rs rfl w0 rfl (st_alloc 3 (cs := [.d (.v (.string (⟨#[]⟩ : ByteArray))), .d (.v (.slice none 0 0)), .d (.v (.slice none 0 0)), .d (.v (.int .i64 0))]) tok rfl rfl rfl) ?_
  refine nx ?_
  refine sq [0,1,2,3,4] ?_
  refine pmr ?_
  refine nr ?_
  refine rp rfl w0 rfl (pu_load_refN tok rfl rfl rfl (by repeat (first | exact SegD.z _ | apply SegD.t))) ?_
  refine rs rfl w0 rfl (st_alloc 4 (cs := [.d (.v (.string (⟨#[]⟩ : ByteArray))), .d (.v (.slice none 0 0)), .d (.v (.slice none 0 0)), .d (.v (.int .i64 0))]) tok rfl rfl rfl) ?_
  refine rw0 rfl w0 (bx_st (cs := _ :: _) tok rfl rfl rfl rfl rfl rfl rfl) ?_
  refine nx ?_
  refine sq [0,1,2,3,4,5,6,7] ?_
  refine rs rfl w0 rfl (st_slice0 5 tok rfl rfl rfl rfl) ?_
  refine pmr ?_
  refine nr ?_
  refine fr tok ?_
  refine lr tok ?_
  obtain ⟨hq1, h0⟩ := chk_e h0
  refine rw1 rfl w0 rfl (ap_own tok hq1 rfl rfl rfl rfl rfl rfl rfl rfl rfl rfl rfl rfl (fun _ => rfl)) ?_
  refine fa tok ?_
  refine rw0 rfl w0 (bx_st (cs := [.own _ _ _]) tok rfl rfl rfl rfl rfl rfl rfl) ?_
  refine nx ?_
  refine sq [0,1,2,3,4,5,6,7] ?_
  refine rs rfl w0 rfl (st_slice0 6 tok rfl rfl rfl rfl) ?_
  refine pmr ?_
  refine nr ?_
  refine fr tok ?_
  refine lr tok ?_
  obtain ⟨hq2, h0⟩ := chk_e h0
  refine rw1 rfl w0 rfl (ap_own tok hq2 rfl rfl rfl rfl rfl rfl rfl rfl rfl rfl rfl rfl (fun _ => rfl)) ?_
  refine fa tok ?_
  refine rw0 rfl w0 (bx_st (cs := [.own _ _ _]) tok rfl rfl rfl rfl rfl rfl rfl) ?_
  refine nx ?_
  refine sq [0,1] ?_
  refine rl rfl w0 rfl (bx_ldN tok rfl rfl rfl rfl) ?_
  refine rw0 rfl w0 (bx_st (cs := _ :: _) tok rfl rfl rfl rfl rfl rfl rfl) ?_
  refine nx ?_
  refine aw_ret ?_
  cases h0
  exact retK_ (rs := [.cell 2 47]) [5, 6] rfl

theorem s_l26Own_c {p0 : Movement_} {r : Movement_} (h0 : s_l26Own_m p0 = some r) : FnC Tryz.prog 70 [] [.ref (cMovement_ p0)] [.live [⟨213, 2, .av (nestL 1 cArbor_ r.Works.Arbors)⟩], .live (famL 2 1 cArbor_ r.Works.Arbors), .live [⟨215, 4, .data (List.map cMesh_ r.Works.Meshes)⟩], .live [⟨147, 3, .data (List.map cMonth_ r.Calendar.Months)⟩], .live [⟨179, 3, .data (List.map cLeapRule_ r.Calendar.Rules)⟩], .live [⟨2, 1, .data (List.map cI r.Cam)⟩]] (.agg [.d (.v (.string r.Name)), .own 0 0 r.Works.Arbors.length, .own 2 0 r.Works.Meshes.length, .d (.v (.int .i64 r.Minute)), .d (.v (.int .i64 r.Hour)), .d (.v (.int .i64 r.Escape)), .d (.v (.int .i64 r.Teeth)), .d (.v (.int .i64 r.Beats)), .d (.v (.string r.Calendar.Name)), .own 3 0 r.Calendar.Months.length, .own 4 0 r.Calendar.Rules.length, .d (.v (.int .i64 r.Calendar.Week)), .own 5 0 r.Cam.length, .d (.v (.int .i64 r.Strike))]) := by
  refine fnc_intro (T := tt) (N := 24) tok Tryz.func70 rfl rfl (by kernel_rfl) rfl rfl ?_
  unfold s_l26Own_m at h0
  refine sq [0] ?_
  refine rs rfl w0 rfl (st_alloc 3 (cs := [.d (.v (.string (⟨#[]⟩ : ByteArray))), .d (.v (.slice none 0 0)), .d (.v (.slice none 0 0)), .d (.v (.int .i64 0)), .d (.v (.int .i64 0)), .d (.v (.int .i64 0)), .d (.v (.int .i64 0)), .d (.v (.int .i64 0)), .d (.v (.string (⟨#[]⟩ : ByteArray))), .d (.v (.slice none 0 0)), .d (.v (.slice none 0 0)), .d (.v (.int .i64 0)), .d (.v (.slice none 0 0)), .d (.v (.int .i64 0))]) tok rfl rfl rfl) ?_
  refine nx ?_
  refine sq [0,1,2,3,4] ?_
  refine pmr ?_
  refine nr ?_
  refine rp rfl w0 rfl (pu_load_refN tok rfl rfl rfl (by repeat (first | exact SegD.z _ | apply SegD.t))) ?_
  refine rs rfl w0 rfl (st_alloc 4 (cs := [.d (.v (.string (⟨#[]⟩ : ByteArray))), .d (.v (.slice none 0 0)), .d (.v (.slice none 0 0)), .d (.v (.int .i64 0)), .d (.v (.int .i64 0)), .d (.v (.int .i64 0)), .d (.v (.int .i64 0)), .d (.v (.int .i64 0)), .d (.v (.string (⟨#[]⟩ : ByteArray))), .d (.v (.slice none 0 0)), .d (.v (.slice none 0 0)), .d (.v (.int .i64 0)), .d (.v (.slice none 0 0)), .d (.v (.int .i64 0))]) tok rfl rfl rfl) ?_
  refine rw0 rfl w0 (bx_st (cs := _ :: _) tok rfl rfl rfl rfl rfl rfl rfl) ?_
  refine nx ?_
  refine sq [0,1,2,3,4,5] ?_
  refine pmr ?_
  refine nr ?_
  refine fr tok ?_
  obtain ⟨v1, hv1, h0⟩ := bnd h0
  refine rs rfl w0 rfl (c_call 5 (fnc_pre (s_l08Own_c hv1)) rfl rfl rfl) ?_
  refine fa tok ?_
  refine rw0 rfl w0 (bx_st (cs := _ :: _) tok rfl rfl rfl rfl rfl rfl rfl) ?_
  refine nx ?_
  refine sq [0,1,2,3,4,5] ?_
  refine pmr ?_
  refine nr ?_
  refine fr tok ?_
  obtain ⟨v2, hv2, h0⟩ := bnd h0
  refine rs rfl w0 rfl (c_call 8 (fnc_pre (s_l15Own_c hv2)) rfl rfl rfl) ?_
  refine fa tok ?_
  refine rw0 rfl w0 (bx_st (cs := _ :: _) tok rfl rfl rfl rfl rfl rfl rfl) ?_
  refine nx ?_
  refine sq [0,1,2,3,4,5,6] ?_
  refine pmr ?_
  refine nr ?_
  refine fr tok ?_
  refine lr tok ?_
  obtain ⟨v3, hv3, h0⟩ := bnd h0
  refine rs rfl w0 rfl (c_call 10 (s_l00Own_c hv3) rfl rfl rfl) ?_
  refine fa tok ?_
  refine rw0 rfl w0 (bx_st (cs := [.own _ _ _]) tok rfl rfl rfl rfl rfl rfl rfl) ?_
  refine nx ?_
  refine sq [0,1] ?_
  refine rl rfl w0 rfl (bx_ldN tok rfl rfl rfl rfl) ?_
  refine rw0 rfl w0 (bx_st (cs := _ :: _) tok rfl rfl rfl rfl rfl rfl rfl) ?_
  refine nx ?_
  refine aw_ret ?_
  cases h0
  exact retK_ (rs := [.cell 2 49]) [5, 6, 7, 8, 9, 10] rfl

theorem s_l18Own_c {p0 : Perpetual_} {r : Perpetual_} (h0 : s_l18Own_m p0 = some r) : FnC Tryz.prog 71 [] [.ref (cPerpetual_ p0)] [.live [⟨2, 1, .data (List.map cI r.Cam)⟩]] (.agg [.own 0 0 r.Cam.length, .d (.v (.int .i64 r.Months)), .d (.v (.int .i64 r.Teeth)), .d (.v (.int .i64 r.At)), .d (.v (.int .i64 r.Day)), .d (.v (.int .i64 r.Week)), .d (.v (.int .i64 r.Weekday))]) := by
  refine fnc_intro (T := tt) (N := 14) tok Tryz.func71 rfl rfl (by kernel_rfl) rfl rfl ?_
  unfold s_l18Own_m at h0
  refine sq [0] ?_
  refine rs rfl w0 rfl (st_alloc 3 (cs := [.d (.v (.slice none 0 0)), .d (.v (.int .i64 0)), .d (.v (.int .i64 0)), .d (.v (.int .i64 0)), .d (.v (.int .i64 0)), .d (.v (.int .i64 0)), .d (.v (.int .i64 0))]) tok rfl rfl rfl) ?_
  refine nx ?_
  refine sq [0,1,2,3,4] ?_
  refine pmr ?_
  refine nr ?_
  refine rp rfl w0 rfl (pu_load_refN tok rfl rfl rfl (by repeat (first | exact SegD.z _ | apply SegD.t))) ?_
  refine rs rfl w0 rfl (st_alloc 4 (cs := [.d (.v (.slice none 0 0)), .d (.v (.int .i64 0)), .d (.v (.int .i64 0)), .d (.v (.int .i64 0)), .d (.v (.int .i64 0)), .d (.v (.int .i64 0)), .d (.v (.int .i64 0))]) tok rfl rfl rfl) ?_
  refine rw0 rfl w0 (bx_st (cs := _ :: _) tok rfl rfl rfl rfl rfl rfl rfl) ?_
  refine nx ?_
  refine sq [0,1,2,3,4,5,6] ?_
  refine pmr ?_
  refine nr ?_
  refine fr tok ?_
  refine lr tok ?_
  obtain ⟨v1, hv1, h0⟩ := bnd h0
  refine rs rfl w0 rfl (c_call 5 (s_l00Own_c hv1) rfl rfl rfl) ?_
  refine fa tok ?_
  refine rw0 rfl w0 (bx_st (cs := [.own _ _ _]) tok rfl rfl rfl rfl rfl rfl rfl) ?_
  refine nx ?_
  refine sq [0,1] ?_
  refine rl rfl w0 rfl (bx_ldN tok rfl rfl rfl rfl) ?_
  refine rw0 rfl w0 (bx_st (cs := _ :: _) tok rfl rfl rfl rfl rfl rfl rfl) ?_
  refine nx ?_
  refine aw_ret ?_
  cases h0
  exact retK_ (rs := [.cell 2 51]) [5] rfl

theorem s_l27Own_c {p0 : Sim_} {r : Sim_} (h0 : s_l27Own_m p0 = some r) : FnC Tryz.prog 28 [] [.ref (cSim_ p0)] [.live [⟨213, 2, .av (nestL 1 cArbor_ r.Movement.Works.Arbors)⟩], .live (famL 2 1 cArbor_ r.Movement.Works.Arbors), .live [⟨215, 4, .data (List.map cMesh_ r.Movement.Works.Meshes)⟩], .live [⟨147, 3, .data (List.map cMonth_ r.Movement.Calendar.Months)⟩], .live [⟨179, 3, .data (List.map cLeapRule_ r.Movement.Calendar.Rules)⟩], .live [⟨2, 1, .data (List.map cI r.Movement.Cam)⟩], .live [⟨2, 1, .data (List.map cI r.Dial.Cam)⟩]] (.agg [.d (.v (.string r.Movement.Name)), .own 0 0 r.Movement.Works.Arbors.length, .own 2 0 r.Movement.Works.Meshes.length, .d (.v (.int .i64 r.Movement.Minute)), .d (.v (.int .i64 r.Movement.Hour)), .d (.v (.int .i64 r.Movement.Escape)), .d (.v (.int .i64 r.Movement.Teeth)), .d (.v (.int .i64 r.Movement.Beats)), .d (.v (.string r.Movement.Calendar.Name)), .own 3 0 r.Movement.Calendar.Months.length, .own 4 0 r.Movement.Calendar.Rules.length, .d (.v (.int .i64 r.Movement.Calendar.Week)), .own 5 0 r.Movement.Cam.length, .d (.v (.int .i64 r.Movement.Strike)), .d (.v (.int .i64 r.Start.Year)), .d (.v (.int .i64 r.Start.Month)), .d (.v (.int .i64 r.Start.Day)), .d (.v (.int .i64 r.First)), .d (.v (.int .i64 r.Clock)), .own 6 0 r.Dial.Cam.length, .d (.v (.int .i64 r.Dial.Months)), .d (.v (.int .i64 r.Dial.Teeth)), .d (.v (.int .i64 r.Dial.At)), .d (.v (.int .i64 r.Dial.Day)), .d (.v (.int .i64 r.Dial.Week)), .d (.v (.int .i64 r.Dial.Weekday))]) := by
  refine fnc_intro (T := tt) (N := 18) tok Tryz.func28 rfl rfl (by kernel_rfl) rfl rfl ?_
  unfold s_l27Own_m at h0
  refine sq [0] ?_
  refine rs rfl w0 rfl (st_alloc 3 (cs := [.d (.v (.string (⟨#[]⟩ : ByteArray))), .d (.v (.slice none 0 0)), .d (.v (.slice none 0 0)), .d (.v (.int .i64 0)), .d (.v (.int .i64 0)), .d (.v (.int .i64 0)), .d (.v (.int .i64 0)), .d (.v (.int .i64 0)), .d (.v (.string (⟨#[]⟩ : ByteArray))), .d (.v (.slice none 0 0)), .d (.v (.slice none 0 0)), .d (.v (.int .i64 0)), .d (.v (.slice none 0 0)), .d (.v (.int .i64 0)), .d (.v (.int .i64 0)), .d (.v (.int .i64 0)), .d (.v (.int .i64 0)), .d (.v (.int .i64 0)), .d (.v (.int .i64 0)), .d (.v (.slice none 0 0)), .d (.v (.int .i64 0)), .d (.v (.int .i64 0)), .d (.v (.int .i64 0)), .d (.v (.int .i64 0)), .d (.v (.int .i64 0)), .d (.v (.int .i64 0))]) tok rfl rfl rfl) ?_
  refine nx ?_
  refine sq [0,1,2,3,4] ?_
  refine pmr ?_
  refine nr ?_
  refine rp rfl w0 rfl (pu_load_refN tok rfl rfl rfl (by repeat (first | exact SegD.z _ | apply SegD.t))) ?_
  refine rs rfl w0 rfl (st_alloc 4 (cs := [.d (.v (.string (⟨#[]⟩ : ByteArray))), .d (.v (.slice none 0 0)), .d (.v (.slice none 0 0)), .d (.v (.int .i64 0)), .d (.v (.int .i64 0)), .d (.v (.int .i64 0)), .d (.v (.int .i64 0)), .d (.v (.int .i64 0)), .d (.v (.string (⟨#[]⟩ : ByteArray))), .d (.v (.slice none 0 0)), .d (.v (.slice none 0 0)), .d (.v (.int .i64 0)), .d (.v (.slice none 0 0)), .d (.v (.int .i64 0)), .d (.v (.int .i64 0)), .d (.v (.int .i64 0)), .d (.v (.int .i64 0)), .d (.v (.int .i64 0)), .d (.v (.int .i64 0)), .d (.v (.slice none 0 0)), .d (.v (.int .i64 0)), .d (.v (.int .i64 0)), .d (.v (.int .i64 0)), .d (.v (.int .i64 0)), .d (.v (.int .i64 0)), .d (.v (.int .i64 0))]) tok rfl rfl rfl) ?_
  refine rw0 rfl w0 (bx_st (cs := _ :: _) tok rfl rfl rfl rfl rfl rfl rfl) ?_
  refine nx ?_
  refine sq [0,1,2,3,4,5] ?_
  refine pmr ?_
  refine nr ?_
  refine fr tok ?_
  obtain ⟨v1, hv1, h0⟩ := bnd h0
  refine rs rfl w0 rfl (c_call 5 (fnc_pre (s_l26Own_c hv1)) rfl rfl rfl) ?_
  refine fa tok ?_
  refine rw0 rfl w0 (bx_st (cs := _ :: _) tok rfl rfl rfl rfl rfl rfl rfl) ?_
  refine nx ?_
  refine sq [0,1,2,3,4,5] ?_
  refine pmr ?_
  refine nr ?_
  refine fr tok ?_
  obtain ⟨v2, hv2, h0⟩ := bnd h0
  refine rs rfl w0 rfl (c_call 11 (fnc_pre (s_l18Own_c hv2)) rfl rfl rfl) ?_
  refine fa tok ?_
  refine rw0 rfl w0 (bx_st (cs := _ :: _) tok rfl rfl rfl rfl rfl rfl rfl) ?_
  refine nx ?_
  refine sq [0,1] ?_
  refine rl rfl w0 rfl (bx_ldN tok rfl rfl rfl rfl) ?_
  refine rw0 rfl w0 (bx_st (cs := _ :: _) tok rfl rfl rfl rfl rfl rfl rfl) ?_
  refine nx ?_
  refine aw_ret ?_
  cases h0
  exact retK_ (rs := [.cell 2 53]) [5, 6, 7, 8, 9, 10, 11] rfl

theorem s_l18Steps_c {p0 : Perpetual_} {r : Int} (h0 : s_l18Steps_m p0 = some r) : FnC Tryz.prog 90 [] [.ref (cPerpetual_ p0)] [] (.d (.v (.int .i64 r))) := by
  refine fnc_intro (T := tt) (N := 28) tok Tryz.func90 rfl rfl (by kernel_rfl) rfl rfl ?_
  unfold s_l18Steps_m at h0
  refine sq [0] ?_
  refine pa ?_
  refine nx ?_
  refine aw_seq ?_
  refine aw_seq ?_
  refine aw_region_draw (is := [0, 1, 2, 3, 4, 5, 6, 7, 8, 9, 10, 11, 12, 13, 14]) [0, 1, 3, 7, 0, 16, 48, 112, 0, 256, 768, 1792, 4080, 8176, 16383] follows (by kernel_rfl) ?_
  refine tpmr ?_
  refine tnr ?_
  refine tfr tok ?_
  refine tlr tok ?_
  refine tpmr ?_
  refine tnr ?_
  refine tfr tok ?_
  refine tlr tok ?_
  refine tpmr ?_
  refine tnr ?_
  refine tfr tok ?_
  refine tlr tok ?_
  obtain ⟨v1, hv1, h0⟩ := bnd h0
  refine rt_p rfl w0 rfl (sl_ix tok hv1 rfl rfl rfl rfl rfl rfl) ?_
  refine tlr tok ?_
  refine rt_p rfl w0 rfl (pu_eql rfl rfl) ?_
  refine rt_nil ?_
  refine ⟨by kernel_rfl, ?_⟩
  refine then_n ?_
  refine aw_if h0 rfl (fun hc h0 => ?_) (fun hc h0 => ?_)
  refine aw_seq ?_
  refine aw_region_draw (is := [0, 1, 2, 3, 4, 5, 6, 7, 8, 9, 10]) [0, 1, 3, 7, 15, 0, 32, 96, 224, 511, 1023] follows (by kernel_rfl) ?_
  refine tpmr ?_
  refine tnr ?_
  refine tfr tok ?_
  refine tlr tok ?_
  refine rt_p rfl w0 rfl (pw_add rfl rfl) ?_
  refine tpmr ?_
  refine tnr ?_
  refine tfr tok ?_
  refine tlr tok ?_
  refine rt_p rfl w0 rfl (pw_sub rfl rfl) ?_
  refine tpa ?_
  refine rt_nil ?_
  refine ⟨by kernel_rfl, ?_⟩
  refine then_n ?_
  refine aw_ret ?_
  refine then_r ?_
  cases h0
  exact ret0_ (rs := [.tmp 2]) rfl
  refine sk ?_
  refine sq [0] ?_
  refine pa ?_
  refine nx ?_
  refine aw_ret ?_
  cases h0
  exact ret0_ (rs := [.tmp 2]) rfl

end Go.Proofs.YtlakbomkpnlidaaGreat
