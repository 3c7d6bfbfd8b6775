/- walks -/
import Derived.Test.YtplnohfjeilodaaXM
import Derived.Test.YtplnohfjeilodaaTab
import Derived.Test.YtplnohfjeilodaaProg
namespace Go.Proofs.Ytplnohfjeilodaa
open Go.RowKit
set_option linter.unusedVariables false
set_option maxRecDepth 100000
set_option maxHeartbeats 2000000
theorem eqg_Spot_ : Try.prog.eqGuardType Try.prog.depth 39 = false := by kernel_rfl
theorem run_eql_Spot_ {x y : Operand} (a b : Spot_) (w : World) : (do eqGuard .eql 39 x y (.agg #[.int .i64 a.X, .int .i64 a.Y]) (.agg #[.int .i64 b.X, .int .i64 b.Y]); binOp .eql 39 (.agg #[.int .i64 a.X, .int .i64 a.Y]) (.agg #[.int .i64 b.X, .int .i64 b.Y]) : Sem Value).run Try.prog w = .ok (.bool (decide (a = b))) w := by
  have g : (eqGuard .eql 39 x y (.agg #[.int .i64 a.X, .int .i64 a.Y]) (.agg #[.int .i64 b.X, .int .i64 b.Y])).run Try.prog w = .ok () w := by simp [eqGuard, eqg_Spot_]
  rw [Sem.run_bind, g, Result.andThen_ok]
  obtain ⟨x0, x1⟩ := a
  obtain ⟨y0, y1⟩ := b
  simp [go_sem]
  (repeat' split) <;> simp_all [bytes_inj]
theorem ps_eql_Spot_ {N : Nat} {t : Nat → AV} {h : Heap} {d : Tmp} {ty : TypeId} {pos : String} {aft : Array Edge} {g : Option (Nat × Bool)} {x y : Operand} {a b : Spot_} (hx : toV (evA N ⟨t, h⟩ x) = some (.agg #[.int .i64 a.X, .int .i64 a.Y])) (hy : toV (evA N ⟨t, h⟩ y) = some (.agg #[.int .i64 b.X, .int .i64 b.Y])) : Pure1 Try.prog N ⟨some d, .binOp .eql 39 x y 39, ty, pos, aft, g⟩ ⟨t, h⟩ (.d (.v (.bool (decide (a = b))))) := pu_bin hx hy (fun w => run_eql_Spot_ a b w)
theorem run_neq_Spot_ {x y : Operand} (a b : Spot_) (w : World) : (do eqGuard .neq 39 x y (.agg #[.int .i64 a.X, .int .i64 a.Y]) (.agg #[.int .i64 b.X, .int .i64 b.Y]); binOp .neq 39 (.agg #[.int .i64 a.X, .int .i64 a.Y]) (.agg #[.int .i64 b.X, .int .i64 b.Y]) : Sem Value).run Try.prog w = .ok (.bool (decide (a ≠ b))) w := by
  have g : (eqGuard .neq 39 x y (.agg #[.int .i64 a.X, .int .i64 a.Y]) (.agg #[.int .i64 b.X, .int .i64 b.Y])).run Try.prog w = .ok () w := by simp [eqGuard, eqg_Spot_]
  rw [Sem.run_bind, g, Result.andThen_ok]
  obtain ⟨x0, x1⟩ := a
  obtain ⟨y0, y1⟩ := b
  simp [go_sem]
  (repeat' split) <;> simp_all [bytes_inj]
theorem ps_neq_Spot_ {N : Nat} {t : Nat → AV} {h : Heap} {d : Tmp} {ty : TypeId} {pos : String} {aft : Array Edge} {g : Option (Nat × Bool)} {x y : Operand} {a b : Spot_} (hx : toV (evA N ⟨t, h⟩ x) = some (.agg #[.int .i64 a.X, .int .i64 a.Y])) (hy : toV (evA N ⟨t, h⟩ y) = some (.agg #[.int .i64 b.X, .int .i64 b.Y])) : Pure1 Try.prog N ⟨some d, .binOp .neq 39 x y 39, ty, pos, aft, g⟩ ⟨t, h⟩ (.d (.v (.bool (decide (a ≠ b))))) := pu_bin hx hy (fun w => run_neq_Spot_ a b w)
theorem eqg_Shape_ : Try.prog.eqGuardType Try.prog.depth 80 = false := by kernel_rfl
theorem run_eql_Shape_ {x y : Operand} (a b : Shape_) (w : World) : (do eqGuard .eql 80 x y (.agg #[.int .i64 a.Kind, .int .i64 a.A.X, .int .i64 a.A.Y, .int .i64 a.B.X, .int .i64 a.B.Y, .int .i64 a.R, .string a.Name]) (.agg #[.int .i64 b.Kind, .int .i64 b.A.X, .int .i64 b.A.Y, .int .i64 b.B.X, .int .i64 b.B.Y, .int .i64 b.R, .string b.Name]); binOp .eql 80 (.agg #[.int .i64 a.Kind, .int .i64 a.A.X, .int .i64 a.A.Y, .int .i64 a.B.X, .int .i64 a.B.Y, .int .i64 a.R, .string a.Name]) (.agg #[.int .i64 b.Kind, .int .i64 b.A.X, .int .i64 b.A.Y, .int .i64 b.B.X, .int .i64 b.B.Y, .int .i64 b.R, .string b.Name]) : Sem Value).run Try.prog w = .ok (.bool (decide (a = b))) w := by
  have g : (eqGuard .eql 80 x y (.agg #[.int .i64 a.Kind, .int .i64 a.A.X, .int .i64 a.A.Y, .int .i64 a.B.X, .int .i64 a.B.Y, .int .i64 a.R, .string a.Name]) (.agg #[.int .i64 b.Kind, .int .i64 b.A.X, .int .i64 b.A.Y, .int .i64 b.B.X, .int .i64 b.B.Y, .int .i64 b.R, .string b.Name])).run Try.prog w = .ok () w := by simp [eqGuard, eqg_Shape_]
  rw [Sem.run_bind, g, Result.andThen_ok]
  obtain ⟨x0, ⟨x1, x2⟩, ⟨x3, x4⟩, x5, x6⟩ := a
  obtain ⟨y0, ⟨y1, y2⟩, ⟨y3, y4⟩, y5, y6⟩ := b
  simp [go_sem]
  (repeat' split) <;> simp_all [bytes_inj]
theorem ps_eql_Shape_ {N : Nat} {t : Nat → AV} {h : Heap} {d : Tmp} {ty : TypeId} {pos : String} {aft : Array Edge} {g : Option (Nat × Bool)} {x y : Operand} {a b : Shape_} (hx : toV (evA N ⟨t, h⟩ x) = some (.agg #[.int .i64 a.Kind, .int .i64 a.A.X, .int .i64 a.A.Y, .int .i64 a.B.X, .int .i64 a.B.Y, .int .i64 a.R, .string a.Name])) (hy : toV (evA N ⟨t, h⟩ y) = some (.agg #[.int .i64 b.Kind, .int .i64 b.A.X, .int .i64 b.A.Y, .int .i64 b.B.X, .int .i64 b.B.Y, .int .i64 b.R, .string b.Name])) : Pure1 Try.prog N ⟨some d, .binOp .eql 80 x y 80, ty, pos, aft, g⟩ ⟨t, h⟩ (.d (.v (.bool (decide (a = b))))) := pu_bin hx hy (fun w => run_eql_Shape_ a b w)
theorem run_neq_Shape_ {x y : Operand} (a b : Shape_) (w : World) : (do eqGuard .neq 80 x y (.agg #[.int .i64 a.Kind, .int .i64 a.A.X, .int .i64 a.A.Y, .int .i64 a.B.X, .int .i64 a.B.Y, .int .i64 a.R, .string a.Name]) (.agg #[.int .i64 b.Kind, .int .i64 b.A.X, .int .i64 b.A.Y, .int .i64 b.B.X, .int .i64 b.B.Y, .int .i64 b.R, .string b.Name]); binOp .neq 80 (.agg #[.int .i64 a.Kind, .int .i64 a.A.X, .int .i64 a.A.Y, .int .i64 a.B.X, .int .i64 a.B.Y, .int .i64 a.R, .string a.Name]) (.agg #[.int .i64 b.Kind, .int .i64 b.A.X, .int .i64 b.A.Y, .int .i64 b.B.X, .int .i64 b.B.Y, .int .i64 b.R, .string b.Name]) : Sem Value).run Try.prog w = .ok (.bool (decide (a ≠ b))) w := by
  have g : (eqGuard .neq 80 x y (.agg #[.int .i64 a.Kind, .int .i64 a.A.X, .int .i64 a.A.Y, .int .i64 a.B.X, .int .i64 a.B.Y, .int .i64 a.R, .string a.Name]) (.agg #[.int .i64 b.Kind, .int .i64 b.A.X, .int .i64 b.A.Y, .int .i64 b.B.X, .int .i64 b.B.Y, .int .i64 b.R, .string b.Name])).run Try.prog w = .ok () w := by simp [eqGuard, eqg_Shape_]
  rw [Sem.run_bind, g, Result.andThen_ok]
  obtain ⟨x0, ⟨x1, x2⟩, ⟨x3, x4⟩, x5, x6⟩ := a
  obtain ⟨y0, ⟨y1, y2⟩, ⟨y3, y4⟩, y5, y6⟩ := b
  simp [go_sem]
  (repeat' split) <;> simp_all [bytes_inj]
theorem ps_neq_Shape_ {N : Nat} {t : Nat → AV} {h : Heap} {d : Tmp} {ty : TypeId} {pos : String} {aft : Array Edge} {g : Option (Nat × Bool)} {x y : Operand} {a b : Shape_} (hx : toV (evA N ⟨t, h⟩ x) = some (.agg #[.int .i64 a.Kind, .int .i64 a.A.X, .int .i64 a.A.Y, .int .i64 a.B.X, .int .i64 a.B.Y, .int .i64 a.R, .string a.Name])) (hy : toV (evA N ⟨t, h⟩ y) = some (.agg #[.int .i64 b.Kind, .int .i64 b.A.X, .int .i64 b.A.Y, .int .i64 b.B.X, .int .i64 b.B.Y, .int .i64 b.R, .string b.Name])) : Pure1 Try.prog N ⟨some d, .binOp .neq 80 x y 80, ty, pos, aft, g⟩ ⟨t, h⟩ (.d (.v (.bool (decide (a ≠ b))))) := pu_bin hx hy (fun w => run_neq_Shape_ a b w)
theorem l_szShape_c {p0 : Shape_} {p1 : Int} {r : Int} (h0 : l_szShape_m p0 p1 = some r) : FnC Try.prog 95 [] [.agg [.d (.v (.int .i64 p0.Kind)), .d (.v (.int .i64 p0.A.X)), .d (.v (.int .i64 p0.A.Y)), .d (.v (.int .i64 p0.B.X)), .d (.v (.int .i64 p0.B.Y)), .d (.v (.int .i64 p0.R)), .d (.v (.string p0.Name))], .d (.v (.int .i64 p1))] [] (.d (.v (.int .i64 r))) := by
  refine fnc_intro (T := tt) (N := 13) tok Try.func95 rfl rfl (by kernel_rfl) rfl rfl ?_
  unfold l_szShape_m at h0
  refine aw_seq ?_
  refine aw_regionA (is := [0, 1]) rfl ?_
  refine rs rfl w0 rfl (st_box 3 (cs := _ :: _) rfl rfl rfl) ?_
  refine rp rfl w0 rfl (pu_assign (r := .d _) rfl) ?_
  refine ra_nil ?_
  refine then_n ?_
  refine aw_seq ?_
  refine aw_regionA (is := [0, 1, 2, 3, 4, 5]) rfl ?_
  refine rp rfl w0 rfl (pu_move (r := .d _) rfl) ?_
  refine rl rfl w0 rfl (bx_fa tok rfl rfl rfl rfl rfl rfl rfl) ?_
  refine rl rfl w0 rfl (bx_ld1 tok rfl rfl rfl rfl rfl) ?_
  refine rp rfl w0 rfl (pu_len_str tok rfl rfl rfl) ?_
  refine rp rfl w0 rfl (pw_sub rfl rfl) ?_
  refine rp rfl w0 rfl (pu_assign (r := .d _) rfl) ?_
  refine ra_nil ?_
  refine then_n ?_
  refine aw_seq ?_
  refine aw_seq ?_
  refine aw_regionA (is := [0, 1]) rfl ?_
  refine rp rfl w0 rfl (pu_move (r := .d _) rfl) ?_
  refine rp rfl w0 rfl (pu_lss rfl rfl) ?_
  refine ra_nil ?_
  refine then_n ?_
  refine aw_if h0 rfl (fun hc h0 => ?_) (fun hc h0 => ?_)
  · skip
    refine aw_seq ?_
    refine aw_regionA (is := [0]) rfl ?_
    refine rp rfl w0 rfl (pu_assign (r := .d _) rfl) ?_
    refine ra_nil ?_
    refine then_n ?_
    refine aw_ret ?_
    refine then_r ?_
    cases h0
    exact ret0_ (rs := [.tmp 4]) rfl
  · skip
    refine aw_skip ?_
    refine then_n ?_
    refine aw_seq ?_
    refine aw_regionA (is := [0, 1]) rfl ?_
    refine rp rfl w0 rfl (pu_move (r := .d _) rfl) ?_
    refine rp rfl w0 rfl (pu_assign (r := .d _) rfl) ?_
    refine ra_nil ?_
    refine then_n ?_
    refine aw_ret ?_
    cases h0
    exact ret0_ (rs := [.tmp 4]) rfl

theorem l_szShapeS_c {p0 : List Shape_} {p1 : Int} {r : Int} (h0 : l_szShapeS_m p0 p1 = some r) : FnC Try.prog 49 [] [.d (.sl (List.map cShape_ p0)), .d (.v (.int .i64 p1))] [] (.d (.v (.int .i64 r))) := by
  refine fnc_intro (T := tt) (N := 27) tok Try.func49 rfl rfl (by kernel_rfl) rfl rfl ?_
  unfold l_szShapeS_m at h0
  refine aw_seq ?_
  refine aw_regionA (is := [0]) rfl ?_
  refine rp rfl w0 rfl (pu_assign (r := .d _) rfl) ?_
  refine ra_nil ?_
  refine then_n ?_
  refine aw_seq ?_
  refine aw_regionA (is := [0, 1, 2, 3, 4]) rfl ?_
  refine rp rfl w0 rfl (pu_move (r := .d _) rfl) ?_
  refine rp rfl w0 rfl (pu_move (r := .d _) rfl) ?_
  refine rp rfl w0 rfl (pu_len_map tok rfl rfl rfl) ?_
  refine rp rfl w0 rfl (pw_sub rfl rfl) ?_
  refine rp rfl w0 rfl (pu_assign (r := .d _) rfl) ?_
  refine ra_nil ?_
  refine then_n ?_
  refine aw_seq ?_
  refine aw_seq ?_
  refine aw_regionA (is := [0, 1]) rfl ?_
  refine rp rfl w0 rfl (pu_move (r := .d _) rfl) ?_
  refine rp rfl w0 rfl (pu_lss rfl rfl) ?_
  refine ra_nil ?_
  refine then_n ?_
  refine aw_if h0 rfl (fun hc h0 => ?_) (fun hc h0 => ?_)
  · skip
    refine aw_seq ?_
    refine aw_regionA (is := [0]) rfl ?_
    refine rp rfl w0 rfl (pu_assign (r := .d _) rfl) ?_
    refine ra_nil ?_
    refine then_n ?_
    refine aw_ret ?_
    refine then_r ?_
    cases h0
    exact ret0_ (rs := [.tmp 4]) rfl
  · skip
    refine aw_skip ?_
    refine then_n ?_
    obtain ⟨v7x, h1, h0⟩ := bnd h0
    refine aw_cutE v7x (fun v7 => ⟨updA ((fun _ => .dead)) 1 (.d (.v (.int .i64 v7))), lks [.no, .no, .no]⟩) ?_ ?_
    · skip
      refine aw_seq ?_
      refine aw_regionA (is := [0]) rfl ?_
      refine rp rfl w0 rfl (pu_assign (r := .d _) rfl) ?_
      refine ra_nil ?_
      refine then_n ?_
      refine aw_block ?_
      refine aw_loopM (fun s4 => ⟨updA (updA (updA ((fun _ => .dead)) 0 (.d (.sl (List.map cShape_ p0)))) 1 (.d (.v (.int .i64 s4.1)))) 5 (.d (.v (.int .i64 s4.2))), lks [.no, .no, .no]⟩) h1 ?_ (fun s4 y h2 => ?_)
      · skip
        exact wk [0, 1, 2]
      · skip
        refine aw_seq ?_
        refine aw_seq ?_
        refine aw_regionA (is := [0, 1, 2, 3]) rfl ?_
        refine rp rfl w0 rfl (pu_move (r := .d _) rfl) ?_
        refine rp rfl w0 rfl (pu_move (r := .d _) rfl) ?_
        refine rp rfl w0 rfl (pu_len_map tok rfl rfl rfl) ?_
        refine rp rfl w0 rfl (pu_lss rfl rfl) ?_
        refine ra_nil ?_
        refine then_n ?_
        refine aw_if h2 rfl (fun hc h2 => ?_) (fun hc h2 => ?_)
        · skip
          refine aw_skip ?_
          refine then_n ?_
          refine aw_seq ?_
          refine aw_block ?_
          refine aw_seq ?_
          refine aw_regionA (is := [0, 1, 2, 3, 4, 5, 6]) rfl ?_
          refine rp rfl w0 rfl (pu_move (r := .d _) rfl) ?_
          refine rp rfl w0 rfl (pu_move (r := .d _) rfl) ?_
          obtain ⟨v5, hv5, h2⟩ := bnd h2
          refine rp rfl w0 rfl (sl_ix tok hv5 rfl rfl rfl rfl rfl rfl) ?_
          refine rp rfl w0 rfl (pu_load_refN tok rfl rfl rfl (by repeat (first | exact SegD.z _ | apply SegD.t))) ?_
          refine rp rfl w0 rfl (pu_move (r := .d _) rfl) ?_
          obtain ⟨v6, hv6, h2⟩ := bnd h2
          refine rs rfl w0 rfl (c_call 3 (l_szShape_c hv6) rfl rfl rfl) ?_
          refine rp rfl w0 rfl (pu_assign (r := .d _) rfl) ?_
          refine ra_nil ?_
          refine then_n ?_
          refine aw_seq ?_
          refine aw_regionA (is := [0, 1]) rfl ?_
          refine rp rfl w0 rfl (pu_move (r := .d _) rfl) ?_
          refine rp rfl w0 rfl (pu_lss rfl rfl) ?_
          refine ra_nil ?_
          refine then_n ?_
          refine aw_if h2 rfl (fun hc h2 => ?_) (fun hc h2 => ?_)
          · skip
            refine aw_seq ?_
            refine aw_regionA (is := [0]) rfl ?_
            refine rp rfl w0 rfl (pu_assign (r := .d _) rfl) ?_
            refine ra_nil ?_
            refine then_n ?_
            refine aw_ret ?_
            refine block_r ?_
            refine then_r ?_
            cases h2
            refine loop_r ⟨_, rfl, fun e => ?_⟩
            subst e
            refine block_r ?_
            replace h0 := orE_s h0
            refine then_r ?_
            cases h0
            exact ret0_ (rs := [.tmp 4]) rfl
          · skip
            refine aw_skip ?_
            refine block_n ?_
            refine then_n ?_
            refine aw_regionA (is := [0, 1, 2]) rfl ?_
            refine rp rfl w0 rfl (pu_move (r := .d _) rfl) ?_
            refine rp rfl w0 rfl (pw_add rfl rfl) ?_
            refine rp rfl w0 rfl (pu_assign (r := .d _) rfl) ?_
            refine ra_nil ?_
            refine loop_n ?_
            cases h2
            refine ⟨_, rfl, ?_⟩
            exact wk [0, 1, 2]
        · skip
          refine aw_exit ?_
          refine then_e ?_
          cases h2
          refine loop_x ⟨_, rfl, fun e => ?_⟩
          subst e
          refine block_hit ?_
          refine then_n ?_
          refine ⟨_, rfl, ?_⟩
          exact wk [0, 1, 2]
    · skip
      rintro v7 rfl
      replace h0 := orE_f h0
      refine aw_seq ?_
      refine aw_regionA (is := [0, 1]) rfl ?_
      refine rp rfl w0 rfl (pu_move (r := .d _) rfl) ?_
      refine rp rfl w0 rfl (pu_assign (r := .d _) rfl) ?_
      refine ra_nil ?_
      refine then_n ?_
      refine aw_ret ?_
      cases h0
      exact ret0_ (rs := [.tmp 4]) rfl

theorem l_szDrawing_c {p0 : Drawing_} {p1 : Int} {r : Int} (h0 : l_szDrawing_m p0 p1 = some r) : FnC Try.prog 14 [] [.agg [.d (.sl (List.map cShape_ p0.Shapes))], .d (.v (.int .i64 p1))] [] (.d (.v (.int .i64 r))) := by
  refine fnc_intro (T := tt) (N := 12) tok Try.func14 rfl rfl (by kernel_rfl) rfl rfl ?_
  unfold l_szDrawing_m at h0
  refine aw_seq ?_
  refine aw_regionA (is := [0, 1]) rfl ?_
  refine rs rfl w0 rfl (st_box 3 (cs := _ :: _) rfl rfl rfl) ?_
  refine rp rfl w0 rfl (pu_assign (r := .d _) rfl) ?_
  refine ra_nil ?_
  refine then_n ?_
  refine aw_seq ?_
  refine aw_regionA (is := [0, 1, 2, 3, 4]) rfl ?_
  refine rl rfl w0 rfl (bx_fa tok rfl rfl rfl rfl rfl rfl rfl) ?_
  refine rl rfl w0 rfl (bx_ld1 tok rfl rfl rfl rfl rfl) ?_
  refine rp rfl w0 rfl (pu_move (r := .d _) rfl) ?_
  obtain ⟨v1, hv1, h0⟩ := bnd h0
  refine rs rfl w0 rfl (c_call 4 (l_szShapeS_c hv1) rfl rfl rfl) ?_
  refine rp rfl w0 rfl (pu_assign (r := .d _) rfl) ?_
  refine ra_nil ?_
  refine then_n ?_
  refine aw_seq ?_
  refine aw_seq ?_
  refine aw_regionA (is := [0, 1]) rfl ?_
  refine rp rfl w0 rfl (pu_move (r := .d _) rfl) ?_
  refine rp rfl w0 rfl (pu_lss rfl rfl) ?_
  refine ra_nil ?_
  refine then_n ?_
  refine aw_if h0 rfl (fun hc h0 => ?_) (fun hc h0 => ?_)
  · skip
    refine aw_seq ?_
    refine aw_regionA (is := [0]) rfl ?_
    refine rp rfl w0 rfl (pu_assign (r := .d _) rfl) ?_
    refine ra_nil ?_
    refine then_n ?_
    refine aw_ret ?_
    refine then_r ?_
    cases h0
    exact ret0_ (rs := [.tmp 4]) rfl
  · skip
    refine aw_skip ?_
    refine then_n ?_
    refine aw_seq ?_
    refine aw_regionA (is := [0, 1]) rfl ?_
    refine rp rfl w0 rfl (pu_move (r := .d _) rfl) ?_
    refine rp rfl w0 rfl (pu_assign (r := .d _) rfl) ?_
    refine ra_nil ?_
    refine then_n ?_
    refine aw_ret ?_
    cases h0
    exact ret0_ (rs := [.tmp 4]) rfl

theorem l_toSpot_c {p0 : Spot_} {r : Spot_} (h0 : l_toSpot_m p0 = some r) : FnC Try.prog 36 [] [.agg [.d (.v (.int .i64 p0.X)), .d (.v (.int .i64 p0.Y))]] [] (.agg [.d (.v (.int .i64 r.X)), .d (.v (.int .i64 r.Y))]) := by
  refine fnc_intro (T := tt) (N := 11) tok Try.func36 rfl rfl (by kernel_rfl) rfl rfl ?_
  unfold l_toSpot_m at h0
  refine aw_seq ?_
  refine aw_regionA (is := [0, 1]) rfl ?_
  refine rs rfl w0 rfl (st_box 3 (cs := _ :: _) rfl rfl rfl) ?_
  refine rs rfl w0 rfl (st_alloc 4 (cs := [.d (.v (.int .i64 0)), .d (.v (.int .i64 0))]) tok rfl rfl rfl) ?_
  refine ra_nil ?_
  refine then_n ?_
  refine aw_seq ?_
  refine aw_regionA (is := [0]) rfl ?_
  refine rs rfl w0 rfl (st_alloc 5 (cs := [.d (.v (.int .i64 0)), .d (.v (.int .i64 0))]) tok rfl rfl rfl) ?_
  refine ra_nil ?_
  refine then_n ?_
  refine aw_seq ?_
  refine aw_regionA (is := [0, 1, 2, 3]) rfl ?_
  refine rl rfl w0 rfl (bx_fa tok rfl rfl rfl rfl rfl rfl rfl) ?_
  refine rl rfl w0 rfl (bx_ld1 tok rfl rfl rfl rfl rfl) ?_
  refine rl rfl w0 rfl (bx_fa tok rfl rfl rfl rfl rfl rfl rfl) ?_
  refine rw0 rfl w0 (bx_st (cs := [.d _]) tok rfl rfl rfl rfl rfl rfl rfl) ?_
  refine ra_nil ?_
  refine then_n ?_
  refine aw_seq ?_
  refine aw_regionA (is := [0, 1, 2, 3]) rfl ?_
  refine rl rfl w0 rfl (bx_fa tok rfl rfl rfl rfl rfl rfl rfl) ?_
  refine rl rfl w0 rfl (bx_ld1 tok rfl rfl rfl rfl rfl) ?_
  refine rl rfl w0 rfl (bx_fa tok rfl rfl rfl rfl rfl rfl rfl) ?_
  refine rw0 rfl w0 (bx_st (cs := [.d _]) tok rfl rfl rfl rfl rfl rfl rfl) ?_
  refine ra_nil ?_
  refine then_n ?_
  refine aw_seq ?_
  refine aw_regionA (is := [0, 1]) rfl ?_
  refine rl rfl w0 rfl (bx_ldN tok rfl rfl rfl rfl) ?_
  refine rw0 rfl w0 (bx_st (cs := _ :: _) tok rfl rfl rfl rfl rfl rfl rfl) ?_
  refine ra_nil ?_
  refine then_n ?_
  refine aw_ret ?_
  cases h0
  exact ret0_ (rs := [.cell 2 39]) rfl

theorem l_toShape_c {p0 : Shape_} {r : Shape_} (h0 : l_toShape_m p0 = some r) : FnC Try.prog 96 [] [.agg [.d (.v (.int .i64 p0.Kind)), .d (.v (.int .i64 p0.A.X)), .d (.v (.int .i64 p0.A.Y)), .d (.v (.int .i64 p0.B.X)), .d (.v (.int .i64 p0.B.Y)), .d (.v (.int .i64 p0.R)), .d (.v (.string p0.Name))]] [] (.agg [.d (.v (.int .i64 r.Kind)), .d (.v (.int .i64 r.A.X)), .d (.v (.int .i64 r.A.Y)), .d (.v (.int .i64 r.B.X)), .d (.v (.int .i64 r.B.Y)), .d (.v (.int .i64 r.R)), .d (.v (.string r.Name))]) := by
  refine fnc_intro (T := tt) (N := 22) tok Try.func96 rfl rfl (by kernel_rfl) rfl rfl ?_
  unfold l_toShape_m at h0
  refine aw_seq ?_
  refine aw_regionA (is := [0, 1]) rfl ?_
  refine rs rfl w0 rfl (st_box 3 (cs := _ :: _) rfl rfl rfl) ?_
  refine rs rfl w0 rfl (st_alloc 4 (cs := [.d (.v (.int .i64 0)), .d (.v (.int .i64 0)), .d (.v (.int .i64 0)), .d (.v (.int .i64 0)), .d (.v (.int .i64 0)), .d (.v (.int .i64 0)), .d (.v (.string (⟨#[]⟩ : ByteArray)))]) tok rfl rfl rfl) ?_
  refine ra_nil ?_
  refine then_n ?_
  refine aw_seq ?_
  refine aw_regionA (is := [0]) rfl ?_
  refine rs rfl w0 rfl (st_alloc 5 (cs := [.d (.v (.int .i64 0)), .d (.v (.int .i64 0)), .d (.v (.int .i64 0)), .d (.v (.int .i64 0)), .d (.v (.int .i64 0)), .d (.v (.int .i64 0)), .d (.v (.string (⟨#[]⟩ : ByteArray)))]) tok rfl rfl rfl) ?_
  refine ra_nil ?_
  refine then_n ?_
  refine aw_seq ?_
  refine aw_regionA (is := [0, 1, 2, 3]) rfl ?_
  refine rl rfl w0 rfl (bx_fa tok rfl rfl rfl rfl rfl rfl rfl) ?_
  refine rl rfl w0 rfl (bx_ld1 tok rfl rfl rfl rfl rfl) ?_
  refine rl rfl w0 rfl (bx_fa tok rfl rfl rfl rfl rfl rfl rfl) ?_
  refine rw0 rfl w0 (bx_st (cs := [.d _]) tok rfl rfl rfl rfl rfl rfl rfl) ?_
  refine ra_nil ?_
  refine then_n ?_
  refine aw_seq ?_
  refine aw_regionA (is := [0, 1, 2, 3, 4]) rfl ?_
  refine rl rfl w0 rfl (bx_fa tok rfl rfl rfl rfl rfl rfl rfl) ?_
  refine rl rfl w0 rfl (bx_ldN tok rfl rfl rfl rfl) ?_
  obtain ⟨v1, hv1, h0⟩ := bnd h0
  refine rs rfl w0 rfl (c_call 6 (l_toSpot_c hv1) rfl rfl rfl) ?_
  refine rl rfl w0 rfl (bx_fa tok rfl rfl rfl rfl rfl rfl rfl) ?_
  refine rw0 rfl w0 (bx_st (cs := _ :: _) tok rfl rfl rfl rfl rfl rfl rfl) ?_
  refine ra_nil ?_
  refine then_n ?_
  refine aw_seq ?_
  refine aw_regionA (is := [0, 1, 2, 3, 4]) rfl ?_
  refine rl rfl w0 rfl (bx_fa tok rfl rfl rfl rfl rfl rfl rfl) ?_
  refine rl rfl w0 rfl (bx_ldN tok rfl rfl rfl rfl) ?_
  obtain ⟨v2, hv2, h0⟩ := bnd h0
  refine rs rfl w0 rfl (c_call 6 (l_toSpot_c hv2) rfl rfl rfl) ?_
  refine rl rfl w0 rfl (bx_fa tok rfl rfl rfl rfl rfl rfl rfl) ?_
  refine rw0 rfl w0 (bx_st (cs := _ :: _) tok rfl rfl rfl rfl rfl rfl rfl) ?_
  refine ra_nil ?_
  refine then_n ?_
  refine aw_seq ?_
  refine aw_regionA (is := [0, 1, 2, 3]) rfl ?_
  refine rl rfl w0 rfl (bx_fa tok rfl rfl rfl rfl rfl rfl rfl) ?_
  refine rl rfl w0 rfl (bx_ld1 tok rfl rfl rfl rfl rfl) ?_
  refine rl rfl w0 rfl (bx_fa tok rfl rfl rfl rfl rfl rfl rfl) ?_
  refine rw0 rfl w0 (bx_st (cs := [.d _]) tok rfl rfl rfl rfl rfl rfl rfl) ?_
  refine ra_nil ?_
  refine then_n ?_
  refine aw_seq ?_
  refine aw_regionA (is := [0, 1, 2, 3]) rfl ?_
  refine rl rfl w0 rfl (bx_fa tok rfl rfl rfl rfl rfl rfl rfl) ?_
  refine rl rfl w0 rfl (bx_ld1 tok rfl rfl rfl rfl rfl) ?_
  refine rl rfl w0 rfl (bx_fa tok rfl rfl rfl rfl rfl rfl rfl) ?_
  refine rw0 rfl w0 (bx_st (cs := [.d _]) tok rfl rfl rfl rfl rfl rfl rfl) ?_
  refine ra_nil ?_
  refine then_n ?_
  refine aw_seq ?_
  refine aw_regionA (is := [0, 1]) rfl ?_
  refine rl rfl w0 rfl (bx_ldN tok rfl rfl rfl rfl) ?_
  refine rw0 rfl w0 (bx_st (cs := _ :: _) tok rfl rfl rfl rfl rfl rfl rfl) ?_
  refine ra_nil ?_
  refine then_n ?_
  refine aw_ret ?_
  cases h0
  exact ret0_ (rs := [.cell 2 80]) rfl

theorem l_toShapeS_c {p0 : List Shape_} {r : List Shape_} (h0 : l_toShapeS_m p0 = some r) : FnC Try.prog 50 [] [.d (.sl (List.map cShape_ p0))] [.live [⟨80, 7, .data (List.map cShape_ r)⟩]] (.own 0 0 r.length) := by
  refine fnc_intro (T := tt) (N := 23) tok Try.func50 rfl rfl (by kernel_rfl) rfl rfl ?_
  unfold l_toShapeS_m at h0
  refine aw_seq ?_
  refine aw_regionA (is := [0]) rfl ?_
  refine rp rfl w0 rfl (pu_assign (r := .d _) rfl) ?_
  refine ra_nil ?_
  refine then_n ?_
  refine aw_seq ?_
  refine aw_regionA (is := [0, 1, 2, 3]) rfl ?_
  refine rp rfl w0 rfl (pu_move (r := .d _) rfl) ?_
  refine rp rfl w0 rfl (pu_len_map tok rfl rfl rfl) ?_
  obtain ⟨hq1, h0⟩ := chk_e h0
  refine rs rfl w0 rfl (mk_own 3 tok (c := cShape_) (⟨0, (⟨0, 0⟩ : Spot_), (⟨0, 0⟩ : Spot_), 0, (⟨#[]⟩ : ByteArray)⟩ : Shape_) hq1 rfl rfl rfl rfl rfl rfl rfl rfl rfl rfl rfl rfl rfl) ?_
  refine rp rfl w0 rfl (pu_assign (r := .own _ _ _) rfl) ?_
  refine ra_nil ?_
  refine then_n ?_
  obtain ⟨v10, h1, h0⟩ := bnd h0
  refine aw_cut ⟨updA ((fun _ => .dead)) 3 (.own 3 0 (v10).length), lks [.no, .no, .no, .live [⟨80, 7, .data (List.map cShape_ v10)⟩]]⟩ ?_ ?_
  · skip
    refine aw_seq ?_
    refine aw_regionA (is := [0]) rfl ?_
    refine rp rfl w0 rfl (pu_assign (r := .d _) rfl) ?_
    refine ra_nil ?_
    refine then_n ?_
    refine aw_block ?_
    refine aw_loopM (fun s6 => ⟨updA (updA (updA ((fun _ => .dead)) 0 (.d (.sl (List.map cShape_ p0)))) 3 (.own 3 0 (s6.2).length)) 4 (.d (.v (.int .i64 s6.1))), lks [.no, .no, .no, .live [⟨80, 7, .data (List.map cShape_ s6.2)⟩]]⟩) h1 ?_ (fun s6 y h2 => ?_)
    · skip
      exact wk [0, 1, 2, 3]
    · skip
      refine aw_seq ?_
      refine aw_seq ?_
      refine aw_regionA (is := [0, 1, 2, 3]) rfl ?_
      refine rp rfl w0 rfl (pu_move (r := .d _) rfl) ?_
      refine rp rfl w0 rfl (pu_move (r := .d _) rfl) ?_
      refine rp rfl w0 rfl (pu_len_map tok rfl rfl rfl) ?_
      refine rp rfl w0 rfl (pu_lss rfl rfl) ?_
      refine ra_nil ?_
      refine then_n ?_
      refine aw_if h2 rfl (fun hc h2 => ?_) (fun hc h2 => ?_)
      · skip
        refine aw_skip ?_
        refine then_n ?_
        refine aw_seq ?_
        refine aw_block ?_
        refine aw_regionA (is := [0, 1, 2, 3, 4, 5, 6, 7, 8]) rfl ?_
        refine rp rfl w0 rfl (pu_move (r := .own _ _ _) rfl) ?_
        refine rp rfl w0 rfl (pu_move (r := .d _) rfl) ?_
        refine rp rfl w0 rfl (pu_move (r := .d _) rfl) ?_
        refine rp rfl w0 rfl (pu_move (r := .d _) rfl) ?_
        obtain ⟨v7, hv7, h2⟩ := bnd h2
        refine rp rfl w0 rfl (sl_ix tok hv7 rfl rfl rfl rfl rfl rfl) ?_
        refine rp rfl w0 rfl (pu_load_refN tok rfl rfl rfl (by repeat (first | exact SegD.z _ | apply SegD.t))) ?_
        obtain ⟨v8, hv8, h2⟩ := bnd h2
        refine rs rfl w0 rfl (c_call 4 (l_toShape_c hv8) rfl rfl rfl) ?_
        obtain ⟨v9, hv9, h2⟩ := bnd h2
        refine rl rfl w0 rfl (ow_ix tok hv9 rfl rfl rfl rfl rfl rfl rfl rfl) ?_
        refine rw0 rfl w0 (rw_st (cs := _ :: _) tok v8 (atI_e hv9).2.1 rfl rfl rfl rfl rfl rfl rfl rfl) ?_
        refine ra_nil ?_
        refine block_n ?_
        refine then_n ?_
        refine aw_regionA (is := [0, 1, 2]) rfl ?_
        refine rp rfl w0 rfl (pu_move (r := .d _) rfl) ?_
        refine rp rfl w0 rfl (pw_add rfl rfl) ?_
        refine rp rfl w0 rfl (pu_assign (r := .d _) rfl) ?_
        refine ra_nil ?_
        refine loop_n ?_
        cases h2
        refine ⟨_, rfl, ?_⟩
        exact wk [0, 1, 2, 3]
      · skip
        refine aw_exit ?_
        refine then_e ?_
        cases h2
        refine loop_x ⟨_, rfl, fun e => ?_⟩
        subst e
        refine block_hit ?_
        refine then_n ?_
        exact wk [0, 1, 2, 3]
  · skip
    refine aw_seq ?_
    refine aw_regionA (is := [0, 1]) rfl ?_
    refine rp rfl w0 rfl (pu_move (r := .own _ _ _) rfl) ?_
    refine rp rfl w0 rfl (pu_assign (r := .own _ _ _) rfl) ?_
    refine ra_nil ?_
    refine then_n ?_
    refine aw_ret ?_
    cases h0
    exact retK_ (rs := [.tmp 2]) [3] rfl

theorem l_toDrawing_c {p0 : Drawing_} {r : Drawing_} (h0 : l_toDrawing_m p0 = some r) : FnC Try.prog 16 [] [.agg [.d (.sl (List.map cShape_ p0.Shapes))]] [.live [⟨80, 7, .data (List.map cShape_ r.Shapes)⟩]] (.agg [.own 0 0 r.Shapes.length]) := by
  refine fnc_intro (T := tt) (N := 9) tok Try.func16 rfl rfl (by kernel_rfl) rfl rfl ?_
  unfold l_toDrawing_m at h0
  refine aw_seq ?_
  refine aw_regionA (is := [0, 1]) rfl ?_
  refine rs rfl w0 rfl (st_box 3 (cs := _ :: _) rfl rfl rfl) ?_
  refine rs rfl w0 rfl (st_alloc 4 (cs := [.d (.v (.slice none 0 0))]) tok rfl rfl rfl) ?_
  refine ra_nil ?_
  refine then_n ?_
  refine aw_seq ?_
  refine aw_regionA (is := [0]) rfl ?_
  refine rs rfl w0 rfl (st_alloc 5 (cs := [.d (.v (.slice none 0 0))]) tok rfl rfl rfl) ?_
  refine ra_nil ?_
  refine then_n ?_
  refine aw_seq ?_
  refine aw_regionA (is := [0, 1, 2, 3, 4]) rfl ?_
  refine rl rfl w0 rfl (bx_fa tok rfl rfl rfl rfl rfl rfl rfl) ?_
  refine rl rfl w0 rfl (bx_ld1 tok rfl rfl rfl rfl rfl) ?_
  obtain ⟨v1, hv1, h0⟩ := bnd h0
  refine rs rfl w0 rfl (c_call 6 (l_toShapeS_c hv1) rfl rfl rfl) ?_
  refine rl rfl w0 rfl (bx_fa tok rfl rfl rfl rfl rfl rfl rfl) ?_
  refine rw0 rfl w0 (bx_st (cs := [.own _ _ _]) tok rfl rfl rfl rfl rfl rfl rfl) ?_
  refine ra_nil ?_
  refine then_n ?_
  refine aw_seq ?_
  refine aw_regionA (is := [0, 1]) rfl ?_
  refine rl rfl w0 rfl (bx_ldN tok rfl rfl rfl rfl) ?_
  refine rw0 rfl w0 (bx_st (cs := _ :: _) tok rfl rfl rfl rfl rfl rfl rfl) ?_
  refine ra_nil ?_
  refine then_n ?_
  refine aw_ret ?_
  cases h0
  exact retK_ (rs := [.cell 2 29]) [6] rfl

theorem s_l00In_c {p0 : Int} {p1 : Int} {p2 : Int} {r : Bool} (h0 : s_l00In_m p0 p1 p2 = some r) : FnC Try.prog 53 [] [.d (.v (.int .i64 p0)), .d (.v (.int .i64 p1)), .d (.v (.int .i64 p2))] [] (.d (.v (.bool r))) := by
  refine fnc_intro (T := tt) (N := 15) tok Try.func53 rfl rfl (by kernel_rfl) rfl rfl ?_
  unfold s_l00In_m at h0
  refine aw_seq ?_
  refine aw_regionA (is := [0]) rfl ?_
  refine rp rfl w0 rfl (pu_assign (r := .d _) rfl) ?_
  refine ra_nil ?_
  refine then_n ?_
  refine aw_seq ?_
  refine aw_regionA (is := [0, 1, 2, 3, 4, 5, 6, 7, 8]) rfl ?_
  refine rp rfl w0 rfl (pu_move (r := .d _) rfl) ?_
  refine rp rfl w0 rfl (pu_move (r := .d _) rfl) ?_
  refine rp rfl w0 rfl (pu_geq rfl rfl) ?_
  refine rp rfl w0 rfl (pu_move (r := .d _) rfl) ?_
  refine ra_if (u := 10) h0 rfl (fun hc h0 => ?_) (fun hc h0 => ?_)
  · skip
    refine rp rfl (w1 rfl rfl rfl) rfl (pu_move (r := .d _) rfl) ?_
    refine rp rfl (w1 rfl rfl rfl) rfl (pu_move (r := .d _) rfl) ?_
    refine rp rfl (w1 rfl rfl rfl) rfl (pu_leq rfl rfl) ?_
    refine rp rfl w0 rfl (pu_pick_t (r := .d _) rfl rfl) ?_
    refine rp rfl w0 rfl (pu_assign (r := .d _) rfl) ?_
    refine ra_nil ?_
    refine then_n ?_
    refine aw_ret ?_
    cases h0
    exact ret0_ (rs := [.tmp 6]) rfl
  · skip
    refine rk rfl rfl rfl (by first | exact .inl rfl | exact .inr rfl) rfl ?_
    refine rk rfl rfl rfl (by first | exact .inl rfl | exact .inr rfl) rfl ?_
    refine rk rfl rfl rfl (by first | exact .inl rfl | exact .inr rfl) rfl ?_
    refine rp rfl w0 rfl (pu_pick_f (r := .d _) rfl rfl) ?_
    refine rp rfl w0 rfl (pu_assign (r := .d _) rfl) ?_
    refine ra_nil ?_
    refine then_n ?_
    refine aw_ret ?_
    cases h0
    exact ret0_ (rs := [.tmp 6]) rfl

theorem s_l25Spot_c {p0 : Spot_} {r : Bool} (h0 : s_l25Spot_m p0 = some r) : FnC Try.prog 77 [] [.agg [.d (.v (.int .i64 p0.X)), .d (.v (.int .i64 p0.Y))]] [] (.d (.v (.bool r))) := by
  refine fnc_intro (T := tt) (N := 11) tok Try.func77 rfl rfl (by kernel_rfl) rfl rfl ?_
  unfold s_l25Spot_m at h0
  refine aw_seq ?_
  refine aw_regionA (is := [0, 1]) rfl ?_
  refine rs rfl w0 rfl (st_box 3 (cs := _ :: _) rfl rfl rfl) ?_
  refine rp rfl w0 rfl (pu_assign (r := .d _) rfl) ?_
  refine ra_nil ?_
  refine then_n ?_
  refine aw_seq ?_
  refine aw_regionA (is := [0, 1, 2, 3, 4, 5, 6, 7, 8]) rfl ?_
  refine rl rfl w0 rfl (bx_fa tok rfl rfl rfl rfl rfl rfl rfl) ?_
  refine rl rfl w0 rfl (bx_ld1 tok rfl rfl rfl rfl rfl) ?_
  obtain ⟨v1, hv1, h0⟩ := bnd h0
  refine rs rfl w0 rfl (c_call 4 (s_l00In_c hv1) rfl rfl rfl) ?_
  refine rp rfl w0 rfl (pu_move (r := .d _) rfl) ?_
  refine ra_ifB (u := 6) h0 rfl (fun hc h0 => ?_) (fun hc h0 => ?_)
  · skip
    refine rl rfl (w1 rfl rfl rfl) rfl (bx_fa tok rfl rfl rfl rfl rfl rfl rfl) ?_
    refine rl rfl (w1 rfl rfl rfl) rfl (bx_ld1 tok rfl rfl rfl rfl rfl) ?_
    obtain ⟨v2, hv2, h0⟩ := bnd h0
    refine rs rfl (w1 rfl rfl rfl) rfl (c_call 4 (s_l00In_c hv2) rfl rfl rfl) ?_
    refine rp rfl w0 rfl (pu_pick_t (r := .d _) rfl rfl) ?_
    refine rp rfl w0 rfl (pu_assign (r := .d _) rfl) ?_
    refine ra_nil ?_
    refine then_n ?_
    refine aw_ret ?_
    cases h0
    exact ret0_ (rs := [.tmp 2]) rfl
  · skip
    refine rk rfl rfl rfl (by first | exact .inl rfl | exact .inr rfl) rfl ?_
    refine rk rfl rfl rfl (by first | exact .inl rfl | exact .inr rfl) rfl ?_
    refine rk rfl rfl rfl (by first | exact .inl rfl | exact .inr rfl) rfl ?_
    refine rp rfl w0 rfl (pu_pick_f (r := .d _) rfl rfl) ?_
    refine rp rfl w0 rfl (pu_assign (r := .d _) rfl) ?_
    refine ra_nil ?_
    refine then_n ?_
    refine aw_ret ?_
    cases h0
    exact ret0_ (rs := [.tmp 2]) rfl

theorem s_l01Small_c {p0 : Int} {r : Bool} (h0 : s_l01Small_m p0 = some r) : FnC Try.prog 128 [] [.d (.v (.int .u8 p0))] [] (.d (.v (.bool r))) := by
  refine fnc_intro (T := tt) (N := 9) tok Try.func128 rfl rfl (by kernel_rfl) rfl rfl ?_
  unfold s_l01Small_m at h0
  refine aw_seq ?_
  refine aw_regionA (is := [0]) rfl ?_
  refine rp rfl w0 rfl (pu_assign (r := .d _) rfl) ?_
  refine ra_nil ?_
  refine then_n ?_
  refine aw_seq ?_
  refine aw_regionA (is := [0, 1, 2, 3, 4, 5, 6]) rfl ?_
  refine rp rfl w0 rfl (pu_move (r := .d _) rfl) ?_
  refine rp rfl w0 rfl (pu_geq rfl rfl) ?_
  refine rp rfl w0 rfl (pu_move (r := .d _) rfl) ?_
  refine ra_if (u := 5) h0 rfl (fun hc h0 => ?_) (fun hc h0 => ?_)
  · skip
    refine rp rfl (w1 rfl rfl rfl) rfl (pu_move (r := .d _) rfl) ?_
    refine rp rfl (w1 rfl rfl rfl) rfl (pu_leq rfl rfl) ?_
    refine rp rfl w0 rfl (pu_pick_t (r := .d _) rfl rfl) ?_
    refine rp rfl w0 rfl (pu_assign (r := .d _) rfl) ?_
    refine ra_nil ?_
    refine then_n ?_
    refine aw_ret ?_
    cases h0
    exact ret0_ (rs := [.tmp 2]) rfl
  · skip
    refine rk rfl rfl rfl (by first | exact .inl rfl | exact .inr rfl) rfl ?_
    refine rk rfl rfl rfl (by first | exact .inl rfl | exact .inr rfl) rfl ?_
    refine rp rfl w0 rfl (pu_pick_f (r := .d _) rfl rfl) ?_
    refine rp rfl w0 rfl (pu_assign (r := .d _) rfl) ?_
    refine ra_nil ?_
    refine then_n ?_
    refine aw_ret ?_
    cases h0
    exact ret0_ (rs := [.tmp 2]) rfl

theorem s_l01Digit_c {p0 : Int} {r : Bool} (h0 : s_l01Digit_m p0 = some r) : FnC Try.prog 129 [] [.d (.v (.int .u8 p0))] [] (.d (.v (.bool r))) := by
  refine fnc_intro (T := tt) (N := 9) tok Try.func129 rfl rfl (by kernel_rfl) rfl rfl ?_
  unfold s_l01Digit_m at h0
  refine aw_seq ?_
  refine aw_regionA (is := [0]) rfl ?_
  refine rp rfl w0 rfl (pu_assign (r := .d _) rfl) ?_
  refine ra_nil ?_
  refine then_n ?_
  refine aw_seq ?_
  refine aw_regionA (is := [0, 1, 2, 3, 4, 5, 6]) rfl ?_
  refine rp rfl w0 rfl (pu_move (r := .d _) rfl) ?_
  refine rp rfl w0 rfl (pu_geq rfl rfl) ?_
  refine rp rfl w0 rfl (pu_move (r := .d _) rfl) ?_
  refine ra_if (u := 5) h0 rfl (fun hc h0 => ?_) (fun hc h0 => ?_)
  · skip
    refine rp rfl (w1 rfl rfl rfl) rfl (pu_move (r := .d _) rfl) ?_
    refine rp rfl (w1 rfl rfl rfl) rfl (pu_leq rfl rfl) ?_
    refine rp rfl w0 rfl (pu_pick_t (r := .d _) rfl rfl) ?_
    refine rp rfl w0 rfl (pu_assign (r := .d _) rfl) ?_
    refine ra_nil ?_
    refine then_n ?_
    refine aw_ret ?_
    cases h0
    exact ret0_ (rs := [.tmp 2]) rfl
  · skip
    refine rk rfl rfl rfl (by first | exact .inl rfl | exact .inr rfl) rfl ?_
    refine rk rfl rfl rfl (by first | exact .inl rfl | exact .inr rfl) rfl ?_
    refine rp rfl w0 rfl (pu_pick_f (r := .d _) rfl rfl) ?_
    refine rp rfl w0 rfl (pu_assign (r := .d _) rfl) ?_
    refine ra_nil ?_
    refine then_n ?_
    refine aw_ret ?_
    cases h0
    exact ret0_ (rs := [.tmp 2]) rfl

theorem s_IsName_c {p0 : ByteArray} {r : Bool} (h0 : s_IsName_m p0 = some r) : FnC Try.prog 114 [] [.d (.v (.string p0))] [] (.d (.v (.bool r))) := by
  refine fnc_intro (T := tt) (N := 41) tok Try.func114 rfl rfl (by kernel_rfl) rfl rfl ?_
  unfold s_IsName_m at h0
  refine aw_seq ?_
  refine aw_regionA (is := [0]) rfl ?_
  refine rp rfl w0 rfl (pu_assign (r := .d _) rfl) ?_
  refine ra_nil ?_
  refine then_n ?_
  refine aw_seq ?_
  obtain ⟨v3, h1, h0⟩ := bnd h0
  refine aw_cut ⟨updA (updA ((fun _ => .dead)) 0 (.d (.v (.string p0)))) 16 (.d (.v (.bool v3))), lks [.no, .no, .no]⟩ ?_ ?_
  · skip
    refine aw_regionA (is := [0, 1, 2, 3, 4, 5, 6, 7, 8, 9, 10, 11, 12]) rfl ?_
    refine rp rfl w0 rfl (pu_move (r := .d _) rfl) ?_
    refine rp rfl w0 rfl (pu_seql rfl rfl) ?_
    refine rp rfl w0 rfl (pu_move (r := .d _) rfl) ?_
    refine ra_if (u := 6) h1 rfl (fun hc h1 => ?_) (fun hc h1 => ?_)
    · skip
      refine rk rfl rfl rfl (by first | exact .inl rfl | exact .inr rfl) rfl ?_
      refine rk rfl rfl rfl (by first | exact .inl rfl | exact .inr rfl) rfl ?_
      refine rk rfl rfl rfl (by first | exact .inl rfl | exact .inr rfl) rfl ?_
      refine rp rfl w0 rfl (pu_pick_t (r := .d _) rfl rfl) ?_
      refine rp rfl w0 rfl (pu_move (r := .d _) rfl) ?_
      refine rk rfl rfl rfl (by first | exact .inl rfl | exact .inr rfl) rfl ?_
      refine rk rfl rfl rfl (by first | exact .inl rfl | exact .inr rfl) rfl ?_
      refine rk rfl rfl rfl (by first | exact .inl rfl | exact .inr rfl) rfl ?_
      refine rk rfl rfl rfl (by first | exact .inl rfl | exact .inr rfl) rfl ?_
      refine rp rfl w0 rfl (pu_pick_t (r := .d _) rfl rfl) ?_
      refine ra_nil ?_
      refine then_n ?_
      cases h1
      exact wk [0, 1, 2]
    · skip
      refine rp rfl (w1 rfl rfl rfl) rfl (pu_move (r := .d _) rfl) ?_
      refine rp rfl (w1 rfl rfl rfl) rfl (pu_len_str tok rfl rfl rfl) ?_
      refine rp rfl (w1 rfl rfl rfl) rfl (pu_gtr rfl rfl) ?_
      refine rp rfl w0 rfl (pu_pick_f (r := .d _) rfl rfl) ?_
      refine rp rfl w0 rfl (pu_move (r := .d _) rfl) ?_
      refine ra_if (u := 11) h1 rfl (fun hc h1 => ?_) (fun hc h1 => ?_)
      · skip
        refine rk rfl rfl rfl (by first | exact .inl rfl | exact .inr rfl) rfl ?_
        refine rk rfl rfl rfl (by first | exact .inl rfl | exact .inr rfl) rfl ?_
        refine rk rfl rfl rfl (by first | exact .inl rfl | exact .inr rfl) rfl ?_
        refine rk rfl rfl rfl (by first | exact .inl rfl | exact .inr rfl) rfl ?_
        refine rp rfl w0 rfl (pu_pick_t (r := .d _) rfl rfl) ?_
        refine ra_nil ?_
        refine then_n ?_
        cases h1
        exact wk [0, 1, 2]
      · skip
        refine rp rfl (w1 rfl rfl rfl) rfl (pu_move (r := .d _) rfl) ?_
        obtain ⟨v1, hv1, h1⟩ := bnd h1
        refine rp rfl (w1 rfl rfl rfl) rfl (pu_sidx tok hv1 rfl rfl rfl rfl) ?_
        obtain ⟨v2, hv2, h1⟩ := bnd h1
        refine rs rfl (w1 rfl rfl rfl) rfl (c_call 3 (s_l01Small_c hv2) rfl rfl rfl) ?_
        refine rp rfl (w1 rfl rfl rfl) rfl (pu_not rfl) ?_
        refine rp rfl w0 rfl (pu_pick_f (r := .d _) rfl rfl) ?_
        refine ra_nil ?_
        refine then_n ?_
        cases h1
        exact wk [0, 1, 2]
  · skip
    refine aw_ifB h0 rfl (fun hc h0 => ?_) (fun hc h0 => ?_)
    · skip
      refine aw_seq ?_
      refine aw_regionA (is := [0]) rfl ?_
      refine rp rfl w0 rfl (pu_assign (r := .d _) rfl) ?_
      refine ra_nil ?_
      refine then_n ?_
      refine aw_ret ?_
      refine then_r ?_
      cases h0
      exact ret0_ (rs := [.tmp 2]) rfl
    · skip
      refine aw_skip ?_
      refine then_n ?_
      obtain ⟨v18x, h1, h0⟩ := bnd h0
      refine aw_cutE v18x (fun v18 => ⟨(fun _ => .dead), lks [.no, .no, .no]⟩) ?_ ?_
      · skip
        refine aw_seq ?_
        refine aw_regionA (is := [0]) rfl ?_
        refine rp rfl w0 rfl (pu_assign (r := .d _) rfl) ?_
        refine ra_nil ?_
        refine then_n ?_
        refine aw_block ?_
        refine aw_loopM (fun s11 => ⟨updA (updA ((fun _ => .dead)) 0 (.d (.v (.string p0)))) 3 (.d (.v (.int .i64 s11))), lks [.no, .no, .no]⟩) h1 ?_ (fun s11 y h2 => ?_)
        · skip
          exact wk [0, 1, 2]
        · skip
          refine aw_seq ?_
          refine aw_seq ?_
          refine aw_regionA (is := [0, 1, 2, 3]) rfl ?_
          refine rp rfl w0 rfl (pu_move (r := .d _) rfl) ?_
          refine rp rfl w0 rfl (pu_move (r := .d _) rfl) ?_
          refine rp rfl w0 rfl (pu_len_str tok rfl rfl rfl) ?_
          refine rp rfl w0 rfl (pu_lss rfl rfl) ?_
          refine ra_nil ?_
          refine then_n ?_
          refine aw_if h2 rfl (fun hc h2 => ?_) (fun hc h2 => ?_)
          · skip
            refine aw_skip ?_
            refine then_n ?_
            refine aw_seq ?_
            refine aw_block ?_
            obtain ⟨v17, h3, h2⟩ := bnd h2
            refine aw_cut ⟨updA (updA (updA ((fun _ => .dead)) 0 (.d (.v (.string p0)))) 3 (.d (.v (.int .i64 s11)))) 40 (.d (.v (.bool v17))), lks [.no, .no, .no]⟩ ?_ ?_
            · skip
              refine aw_regionA (is := [0, 1, 2, 3, 4, 5, 6, 7, 8, 9, 10, 11, 12, 13, 14, 15, 16, 17]) rfl ?_
              refine rp rfl w0 rfl (pu_move (r := .d _) rfl) ?_
              refine rp rfl w0 rfl (pu_move (r := .d _) rfl) ?_
              obtain ⟨v12, hv12, h3⟩ := bnd h3
              refine rp rfl w0 rfl (pu_sidx tok hv12 rfl rfl rfl rfl) ?_
              obtain ⟨v13, hv13, h3⟩ := bnd h3
              refine rs rfl w0 rfl (c_call 3 (s_l01Small_c hv13) rfl rfl rfl) ?_
              refine rp rfl w0 rfl (pu_not rfl) ?_
              refine rp rfl w0 rfl (pu_move (r := .d _) rfl) ?_
              refine ra_ifB (u := 28) h3 rfl (fun hc h3 => ?_) (fun hc h3 => ?_)
              · skip
                refine rp rfl (w1 rfl rfl rfl) rfl (pu_move (r := .d _) rfl) ?_
                refine rp rfl (w1 rfl rfl rfl) rfl (pu_move (r := .d _) rfl) ?_
                obtain ⟨v14, hv14, h3⟩ := bnd h3
                refine rp rfl (w1 rfl rfl rfl) rfl (pu_sidx tok hv14 rfl rfl rfl rfl) ?_
                obtain ⟨v15, hv15, h3⟩ := bnd h3
                refine rs rfl (w1 rfl rfl rfl) rfl (c_call 3 (s_l01Digit_c hv15) rfl rfl rfl) ?_
                refine rp rfl (w1 rfl rfl rfl) rfl (pu_not rfl) ?_
                refine rp rfl w0 rfl (pu_pick_t (r := .d _) rfl rfl) ?_
                refine rp rfl w0 rfl (pu_move (r := .d _) rfl) ?_
                refine ra_ifB (u := 35) h3 rfl (fun hc h3 => ?_) (fun hc h3 => ?_)
                · skip
                  refine rp rfl (w1 rfl rfl rfl) rfl (pu_move (r := .d _) rfl) ?_
                  refine rp rfl (w1 rfl rfl rfl) rfl (pu_move (r := .d _) rfl) ?_
                  obtain ⟨v16, hv16, h3⟩ := bnd h3
                  refine rp rfl (w1 rfl rfl rfl) rfl (pu_sidx tok hv16 rfl rfl rfl rfl) ?_
                  refine rp rfl (w1 rfl rfl rfl) rfl (pu_neq rfl rfl) ?_
                  refine rp rfl w0 rfl (pu_pick_t (r := .d _) rfl rfl) ?_
                  refine ra_nil ?_
                  refine then_n ?_
                  cases h3
                  exact wk [0, 1, 2]
                · skip
                  refine rk rfl rfl rfl (by first | exact .inl rfl | exact .inr rfl) rfl ?_
                  refine rk rfl rfl rfl (by first | exact .inl rfl | exact .inr rfl) rfl ?_
                  refine rk rfl rfl rfl (by first | exact .inl rfl | exact .inr rfl) rfl ?_
                  refine rk rfl rfl rfl (by first | exact .inl rfl | exact .inr rfl) rfl ?_
                  refine rp rfl w0 rfl (pu_pick_f (r := .d _) rfl rfl) ?_
                  refine ra_nil ?_
                  refine then_n ?_
                  cases h3
                  exact wk [0, 1, 2]
              · skip
                refine rk rfl rfl rfl (by first | exact .inl rfl | exact .inr rfl) rfl ?_
                refine rk rfl rfl rfl (by first | exact .inl rfl | exact .inr rfl) rfl ?_
                refine rk rfl rfl rfl (by first | exact .inl rfl | exact .inr rfl) rfl ?_
                refine rk rfl rfl rfl (by first | exact .inl rfl | exact .inr rfl) rfl ?_
                refine rk rfl rfl rfl (by first | exact .inl rfl | exact .inr rfl) rfl ?_
                refine rp rfl w0 rfl (pu_pick_f (r := .d _) rfl rfl) ?_
                refine rp rfl w0 rfl (pu_move (r := .d _) rfl) ?_
                refine rk rfl rfl rfl (by first | exact .inl rfl | exact .inr rfl) rfl ?_
                refine rk rfl rfl rfl (by first | exact .inl rfl | exact .inr rfl) rfl ?_
                refine rk rfl rfl rfl (by first | exact .inl rfl | exact .inr rfl) rfl ?_
                refine rk rfl rfl rfl (by first | exact .inl rfl | exact .inr rfl) rfl ?_
                refine rp rfl w0 rfl (pu_pick_f (r := .d _) rfl rfl) ?_
                refine ra_nil ?_
                refine then_n ?_
                cases h3
                exact wk [0, 1, 2]
            · skip
              refine aw_ifB h2 rfl (fun hc h2 => ?_) (fun hc h2 => ?_)
              · skip
                refine aw_seq ?_
                refine aw_regionA (is := [0]) rfl ?_
                refine rp rfl w0 rfl (pu_assign (r := .d _) rfl) ?_
                refine ra_nil ?_
                refine then_n ?_
                refine aw_ret ?_
                refine block_r ?_
                refine then_r ?_
                cases h2
                refine loop_r ⟨_, rfl, fun e => ?_⟩
                subst e
                refine block_r ?_
                replace h0 := orE_s h0
                refine then_r ?_
                cases h0
                exact ret0_ (rs := [.tmp 2]) rfl
              · skip
                refine aw_skip ?_
                refine block_n ?_
                refine then_n ?_
                refine aw_regionA (is := [0, 1, 2]) rfl ?_
                refine rp rfl w0 rfl (pu_move (r := .d _) rfl) ?_
                refine rp rfl w0 rfl (pw_add rfl rfl) ?_
                refine rp rfl w0 rfl (pu_assign (r := .d _) rfl) ?_
                refine ra_nil ?_
                refine loop_n ?_
                cases h2
                refine ⟨_, rfl, ?_⟩
                exact wk [0, 1, 2]
          · skip
            refine aw_exit ?_
            refine then_e ?_
            cases h2
            refine loop_x ⟨_, rfl, fun e => ?_⟩
            subst e
            refine block_hit ?_
            refine then_n ?_
            refine ⟨_, rfl, ?_⟩
            exact wk [0, 1, 2]
      · skip
        rintro v18 rfl
        replace h0 := orE_f h0
        refine aw_seq ?_
        refine aw_regionA (is := [0]) rfl ?_
        refine rp rfl w0 rfl (pu_assign (r := .d _) rfl) ?_
        refine ra_nil ?_
        refine then_n ?_
        refine aw_ret ?_
        cases h0
        exact ret0_ (rs := [.tmp 2]) rfl

theorem s_l25Shape_c {p0 : Shape_} {r : Bool} (h0 : s_l25Shape_m p0 = some r) : FnC Try.prog 101 [] [.agg [.d (.v (.int .i64 p0.Kind)), .d (.v (.int .i64 p0.A.X)), .d (.v (.int .i64 p0.A.Y)), .d (.v (.int .i64 p0.B.X)), .d (.v (.int .i64 p0.B.Y)), .d (.v (.int .i64 p0.R)), .d (.v (.string p0.Name))]] [] (.d (.v (.bool r))) := by
  refine fnc_intro (T := tt) (N := 58) tok Try.func101 rfl rfl (by kernel_rfl) rfl rfl ?_
  unfold s_l25Shape_m at h0
  refine aw_seq ?_
  refine aw_regionA (is := [0, 1]) rfl ?_
  refine rs rfl w0 rfl (st_box 3 (cs := _ :: _) rfl rfl rfl) ?_
  refine rp rfl w0 rfl (pu_assign (r := .d _) rfl) ?_
  refine ra_nil ?_
  refine then_n ?_
  refine aw_seq ?_
  refine aw_seq ?_
  refine aw_regionA (is := [0, 1, 2, 3]) rfl ?_
  refine rl rfl w0 rfl (bx_fa tok rfl rfl rfl rfl rfl rfl rfl) ?_
  refine rl rfl w0 rfl (bx_ldN tok rfl rfl rfl rfl) ?_
  obtain ⟨v1, hv1, h0⟩ := bnd h0
  refine rs rfl w0 rfl (c_call 4 (s_l25Spot_c hv1) rfl rfl rfl) ?_
  refine rp rfl w0 rfl (pu_not rfl) ?_
  refine ra_nil ?_
  refine then_n ?_
  refine aw_ifB h0 rfl (fun hc h0 => ?_) (fun hc h0 => ?_)
  · skip
    refine aw_seq ?_
    refine aw_regionA (is := [0]) rfl ?_
    refine rp rfl w0 rfl (pu_assign (r := .d _) rfl) ?_
    refine ra_nil ?_
    refine then_n ?_
    refine aw_ret ?_
    refine then_r ?_
    cases h0
    exact ret0_ (rs := [.tmp 2]) rfl
  · skip
    refine aw_skip ?_
    refine then_n ?_
    refine aw_seq ?_
    refine aw_regionA (is := [0, 1, 2]) rfl ?_
    refine rp rfl w0 rfl (pu_build (C0 := [.d (.v (.int .i64 0)), .d (.v (.int .i64 0))]) tok rfl rfl (by repeat (first | exact Plc.nil | apply Plc.cons rfl)) rfl (by repeat (first | exact Bld.nil _ | apply Bld.cons (cs := [.d _]) rfl rfl rfl rfl (by repeat (first | exact Spl.z _ | apply Spl.t | apply Spl.d)) | apply Bld.cons (cs := [.own _ _ _]) rfl rfl rfl rfl (by repeat (first | exact Spl.z _ | apply Spl.t | apply Spl.d)) | apply Bld.cons (cs := [.ptr _ _ _ _ _]) rfl rfl rfl rfl (by repeat (first | exact Spl.z _ | apply Spl.t | apply Spl.d)) | apply Bld.cons (cs := [.fn _ _]) rfl rfl rfl rfl (by repeat (first | exact Spl.z _ | apply Spl.t | apply Spl.d)) | apply Bld.cons (cs := _ :: _) rfl rfl rfl rfl (by repeat (first | exact Spl.z _ | apply Spl.t | apply Spl.d))))) ?_
    refine rs rfl w0 rfl (st_alloc 4 (cs := [.d (.v (.int .i64 0)), .d (.v (.int .i64 0))]) tok rfl rfl rfl) ?_
    refine rw0 rfl w0 (bx_st (cs := _ :: _) tok rfl rfl rfl rfl rfl rfl rfl) ?_
    refine ra_nil ?_
    refine then_n ?_
    refine aw_seq ?_
    refine aw_seq ?_
    refine aw_regionA (is := [0, 1]) rfl ?_
    refine rl rfl w0 rfl (bx_fa tok rfl rfl rfl rfl rfl rfl rfl) ?_
    refine rl rfl w0 rfl (bx_ld1 tok rfl rfl rfl rfl rfl) ?_
    refine ra_nil ?_
    refine then_n ?_
    refine aw_block ?_
    refine aw_seq ?_
    refine aw_regionA (is := [0, 1]) rfl ?_
    refine rp rfl w0 rfl (pu_eql rfl rfl) ?_
    refine rp rfl w0 rfl (pu_assign (r := .d _) rfl) ?_
    refine ra_nil ?_
    refine then_n ?_
    refine aw_if h0 rfl (fun hc h0 => ?_) (fun hc h0 => ?_)
    · skip
      refine aw_seq ?_
      refine aw_regionA (is := [0, 1, 2, 3, 4, 5, 6, 7, 8, 9, 10, 11, 12, 13]) rfl ?_
      refine rl rfl w0 rfl (bx_fa tok rfl rfl rfl rfl rfl rfl rfl) ?_
      refine rl rfl w0 rfl (bx_ldN tok rfl rfl rfl rfl) ?_
      obtain ⟨v2, hv2, h0⟩ := bnd h0
      refine rs rfl w0 rfl (c_call 5 (s_l25Spot_c hv2) rfl rfl rfl) ?_
      refine rp rfl w0 rfl (pu_move (r := .d _) rfl) ?_
      refine ra_ifB (u := 16) h0 rfl (fun hc h0 => ?_) (fun hc h0 => ?_)
      · skip
        refine rl rfl (w1 rfl rfl rfl) rfl (bx_fa tok rfl rfl rfl rfl rfl rfl rfl) ?_
        refine rl rfl (w1 rfl rfl rfl) rfl (bx_ld1 tok rfl rfl rfl rfl rfl) ?_
        refine rp rfl (w1 rfl rfl rfl) rfl (pu_eql rfl rfl) ?_
        refine rp rfl w0 rfl (pu_pick_t (r := .d _) rfl rfl) ?_
        refine rp rfl w0 rfl (pu_move (r := .d _) rfl) ?_
        refine ra_if (u := 21) h0 rfl (fun hc h0 => ?_) (fun hc h0 => ?_)
        · skip
          refine rl rfl (w1 rfl rfl rfl) rfl (bx_fa tok rfl rfl rfl rfl rfl rfl rfl) ?_
          refine rl rfl (w1 rfl rfl rfl) rfl (bx_ld1 tok rfl rfl rfl rfl rfl) ?_
          refine rp rfl (w1 rfl rfl rfl) rfl (pu_seql rfl rfl) ?_
          refine rp rfl w0 rfl (pu_pick_t (r := .d _) rfl rfl) ?_
          refine rp rfl w0 rfl (pu_assign (r := .d _) rfl) ?_
          refine ra_nil ?_
          refine then_n ?_
          refine aw_ret ?_
          refine block_r ?_
          refine then_r ?_
          cases h0
          exact ret0_ (rs := [.tmp 2]) rfl
        · skip
          refine rk rfl rfl rfl (by first | exact .inl rfl | exact .inr rfl) rfl ?_
          refine rk rfl rfl rfl (by first | exact .inl rfl | exact .inr rfl) rfl ?_
          refine rk rfl rfl rfl (by first | exact .inl rfl | exact .inr rfl) rfl ?_
          refine rp rfl w0 rfl (pu_pick_f (r := .d _) rfl rfl) ?_
          refine rp rfl w0 rfl (pu_assign (r := .d _) rfl) ?_
          refine ra_nil ?_
          refine then_n ?_
          refine aw_ret ?_
          refine block_r ?_
          refine then_r ?_
          cases h0
          exact ret0_ (rs := [.tmp 2]) rfl
      · skip
        refine rk rfl rfl rfl (by first | exact .inl rfl | exact .inr rfl) rfl ?_
        refine rk rfl rfl rfl (by first | exact .inl rfl | exact .inr rfl) rfl ?_
        refine rk rfl rfl rfl (by first | exact .inl rfl | exact .inr rfl) rfl ?_
        refine rp rfl w0 rfl (pu_pick_f (r := .d _) rfl rfl) ?_
        refine rp rfl w0 rfl (pu_move (r := .d _) rfl) ?_
        refine rk rfl rfl rfl (by first | exact .inl rfl | exact .inr rfl) rfl ?_
        refine rk rfl rfl rfl (by first | exact .inl rfl | exact .inr rfl) rfl ?_
        refine rk rfl rfl rfl (by first | exact .inl rfl | exact .inr rfl) rfl ?_
        refine rp rfl w0 rfl (pu_pick_f (r := .d _) rfl rfl) ?_
        refine rp rfl w0 rfl (pu_assign (r := .d _) rfl) ?_
        refine ra_nil ?_
        refine then_n ?_
        refine aw_ret ?_
        refine block_r ?_
        refine then_r ?_
        cases h0
        exact ret0_ (rs := [.tmp 2]) rfl
    · skip
      refine aw_seq ?_
      refine aw_regionA (is := [0, 1]) rfl ?_
      refine rp rfl w0 rfl (pu_eql rfl rfl) ?_
      refine rp rfl w0 rfl (pu_assign (r := .d _) rfl) ?_
      refine ra_nil ?_
      refine then_n ?_
      refine aw_if h0 rfl (fun hc h0 => ?_) (fun hc h0 => ?_)
      · skip
        refine aw_seq ?_
        refine aw_regionA (is := [0, 1, 2, 3, 4, 5, 6, 7, 8, 9, 10, 11, 12, 13, 14]) rfl ?_
        refine rl rfl w0 rfl (bx_fa tok rfl rfl rfl rfl rfl rfl rfl) ?_
        refine rl rfl w0 rfl (bx_ldN tok rfl rfl rfl rfl) ?_
        refine rl rfl w0 rfl (bx_ldN tok rfl rfl rfl rfl) ?_
        refine rp rfl w0 rfl (ps_eql_Spot_ (a := p0.B) (b := (⟨0, 0⟩ : Spot_)) rfl rfl) ?_
        refine rp rfl w0 rfl (pu_move (r := .d _) rfl) ?_
        refine ra_if (u := 32) h0 rfl (fun hc h0 => ?_) (fun hc h0 => ?_)
        · skip
          refine rl rfl (w1 rfl rfl rfl) rfl (bx_fa tok rfl rfl rfl rfl rfl rfl rfl) ?_
          refine rl rfl (w1 rfl rfl rfl) rfl (bx_ld1 tok rfl rfl rfl rfl rfl) ?_
          obtain ⟨v3, hv3, h0⟩ := bnd h0
          refine rs rfl (w1 rfl rfl rfl) rfl (c_call 5 (s_l00In_c hv3) rfl rfl rfl) ?_
          refine rp rfl w0 rfl (pu_pick_t (r := .d _) rfl rfl) ?_
          refine rp rfl w0 rfl (pu_move (r := .d _) rfl) ?_
          refine ra_ifB (u := 37) h0 rfl (fun hc h0 => ?_) (fun hc h0 => ?_)
          · skip
            refine rl rfl (w1 rfl rfl rfl) rfl (bx_fa tok rfl rfl rfl rfl rfl rfl rfl) ?_
            refine rl rfl (w1 rfl rfl rfl) rfl (bx_ld1 tok rfl rfl rfl rfl rfl) ?_
            refine rp rfl (w1 rfl rfl rfl) rfl (pu_seql rfl rfl) ?_
            refine rp rfl w0 rfl (pu_pick_t (r := .d _) rfl rfl) ?_
            refine rp rfl w0 rfl (pu_assign (r := .d _) rfl) ?_
            refine ra_nil ?_
            refine then_n ?_
            refine aw_ret ?_
            refine block_r ?_
            refine then_r ?_
            cases h0
            exact ret0_ (rs := [.tmp 2]) rfl
          · skip
            refine rk rfl rfl rfl (by first | exact .inl rfl | exact .inr rfl) rfl ?_
            refine rk rfl rfl rfl (by first | exact .inl rfl | exact .inr rfl) rfl ?_
            refine rk rfl rfl rfl (by first | exact .inl rfl | exact .inr rfl) rfl ?_
            refine rp rfl w0 rfl (pu_pick_f (r := .d _) rfl rfl) ?_
            refine rp rfl w0 rfl (pu_assign (r := .d _) rfl) ?_
            refine ra_nil ?_
            refine then_n ?_
            refine aw_ret ?_
            refine block_r ?_
            refine then_r ?_
            cases h0
            exact ret0_ (rs := [.tmp 2]) rfl
        · skip
          refine rk rfl rfl rfl (by first | exact .inl rfl | exact .inr rfl) rfl ?_
          refine rk rfl rfl rfl (by first | exact .inl rfl | exact .inr rfl) rfl ?_
          refine rk rfl rfl rfl (by first | exact .inl rfl | exact .inr rfl) rfl ?_
          refine rp rfl w0 rfl (pu_pick_f (r := .d _) rfl rfl) ?_
          refine rp rfl w0 rfl (pu_move (r := .d _) rfl) ?_
          refine rk rfl rfl rfl (by first | exact .inl rfl | exact .inr rfl) rfl ?_
          refine rk rfl rfl rfl (by first | exact .inl rfl | exact .inr rfl) rfl ?_
          refine rk rfl rfl rfl (by first | exact .inl rfl | exact .inr rfl) rfl ?_
          refine rp rfl w0 rfl (pu_pick_f (r := .d _) rfl rfl) ?_
          refine rp rfl w0 rfl (pu_assign (r := .d _) rfl) ?_
          refine ra_nil ?_
          refine then_n ?_
          refine aw_ret ?_
          refine block_r ?_
          refine then_r ?_
          cases h0
          exact ret0_ (rs := [.tmp 2]) rfl
      · skip
        refine aw_seq ?_
        refine aw_regionA (is := [0, 1]) rfl ?_
        refine rp rfl w0 rfl (pu_eql rfl rfl) ?_
        refine rp rfl w0 rfl (pu_assign (r := .d _) rfl) ?_
        refine ra_nil ?_
        refine then_n ?_
        refine aw_if h0 rfl (fun hc h0 => ?_) (fun hc h0 => ?_)
        · skip
          refine aw_seq ?_
          refine aw_regionA (is := [0, 1, 2, 3, 4, 5, 6, 7, 8, 9, 10, 11, 12, 13, 14]) rfl ?_
          refine rl rfl w0 rfl (bx_fa tok rfl rfl rfl rfl rfl rfl rfl) ?_
          refine rl rfl w0 rfl (bx_ldN tok rfl rfl rfl rfl) ?_
          refine rl rfl w0 rfl (bx_ldN tok rfl rfl rfl rfl) ?_
          refine rp rfl w0 rfl (ps_eql_Spot_ (a := p0.B) (b := (⟨0, 0⟩ : Spot_)) rfl rfl) ?_
          refine rp rfl w0 rfl (pu_move (r := .d _) rfl) ?_
          refine ra_if (u := 48) h0 rfl (fun hc h0 => ?_) (fun hc h0 => ?_)
          · skip
            refine rl rfl (w1 rfl rfl rfl) rfl (bx_fa tok rfl rfl rfl rfl rfl rfl rfl) ?_
            refine rl rfl (w1 rfl rfl rfl) rfl (bx_ld1 tok rfl rfl rfl rfl rfl) ?_
            refine rp rfl (w1 rfl rfl rfl) rfl (pu_eql rfl rfl) ?_
            refine rp rfl w0 rfl (pu_pick_t (r := .d _) rfl rfl) ?_
            refine rp rfl w0 rfl (pu_move (r := .d _) rfl) ?_
            refine ra_if (u := 53) h0 rfl (fun hc h0 => ?_) (fun hc h0 => ?_)
            · skip
              refine rl rfl (w1 rfl rfl rfl) rfl (bx_fa tok rfl rfl rfl rfl rfl rfl rfl) ?_
              refine rl rfl (w1 rfl rfl rfl) rfl (bx_ld1 tok rfl rfl rfl rfl rfl) ?_
              obtain ⟨v4, hv4, h0⟩ := bnd h0
              refine rs rfl (w1 rfl rfl rfl) rfl (c_call 5 (s_IsName_c hv4) rfl rfl rfl) ?_
              refine rp rfl w0 rfl (pu_pick_t (r := .d _) rfl rfl) ?_
              refine rp rfl w0 rfl (pu_assign (r := .d _) rfl) ?_
              refine ra_nil ?_
              refine then_n ?_
              refine aw_ret ?_
              refine block_r ?_
              refine then_r ?_
              cases h0
              exact ret0_ (rs := [.tmp 2]) rfl
            · skip
              refine rk rfl rfl rfl (by first | exact .inl rfl | exact .inr rfl) rfl ?_
              refine rk rfl rfl rfl (by first | exact .inl rfl | exact .inr rfl) rfl ?_
              refine rk rfl rfl rfl (by first | exact .inl rfl | exact .inr rfl) rfl ?_
              refine rp rfl w0 rfl (pu_pick_f (r := .d _) rfl rfl) ?_
              refine rp rfl w0 rfl (pu_assign (r := .d _) rfl) ?_
              refine ra_nil ?_
              refine then_n ?_
              refine aw_ret ?_
              refine block_r ?_
              refine then_r ?_
              cases h0
              exact ret0_ (rs := [.tmp 2]) rfl
          · skip
            refine rk rfl rfl rfl (by first | exact .inl rfl | exact .inr rfl) rfl ?_
            refine rk rfl rfl rfl (by first | exact .inl rfl | exact .inr rfl) rfl ?_
            refine rk rfl rfl rfl (by first | exact .inl rfl | exact .inr rfl) rfl ?_
            refine rp rfl w0 rfl (pu_pick_f (r := .d _) rfl rfl) ?_
            refine rp rfl w0 rfl (pu_move (r := .d _) rfl) ?_
            refine rk rfl rfl rfl (by first | exact .inl rfl | exact .inr rfl) rfl ?_
            refine rk rfl rfl rfl (by first | exact .inl rfl | exact .inr rfl) rfl ?_
            refine rk rfl rfl rfl (by first | exact .inl rfl | exact .inr rfl) rfl ?_
            refine rp rfl w0 rfl (pu_pick_f (r := .d _) rfl rfl) ?_
            refine rp rfl w0 rfl (pu_assign (r := .d _) rfl) ?_
            refine ra_nil ?_
            refine then_n ?_
            refine aw_ret ?_
            refine block_r ?_
            refine then_r ?_
            cases h0
            exact ret0_ (rs := [.tmp 2]) rfl
        · skip
          refine aw_skip ?_
          refine block_n ?_
          refine then_n ?_
          refine aw_seq ?_
          refine aw_regionA (is := [0]) rfl ?_
          refine rp rfl w0 rfl (pu_assign (r := .d _) rfl) ?_
          refine ra_nil ?_
          refine then_n ?_
          refine aw_ret ?_
          cases h0
          exact ret0_ (rs := [.tmp 2]) rfl

theorem s_l25Ok_c {p0 : Drawing_} {r : Bool} (h0 : s_l25Ok_m p0 = some r) : FnC Try.prog 61 [] [.agg [.d (.sl (List.map cShape_ p0.Shapes))]] [] (.d (.v (.bool r))) := by
  refine fnc_intro (T := tt) (N := 22) tok Try.func61 rfl rfl (by kernel_rfl) rfl rfl ?_
  unfold s_l25Ok_m at h0
  refine aw_seq ?_
  refine aw_regionA (is := [0, 1]) rfl ?_
  refine rs rfl w0 rfl (st_box 3 (cs := _ :: _) rfl rfl rfl) ?_
  refine rp rfl w0 rfl (pu_assign (r := .d _) rfl) ?_
  refine ra_nil ?_
  refine then_n ?_
  obtain ⟨v7x, h1, h0⟩ := bnd h0
  refine aw_cutE v7x (fun v7 => ⟨updA ((fun _ => .dead)) 1 (.ptr 3 0 1 0 0), lks [.no, .no, .no, .live [⟨29, 1, .av [[.d (.sl (List.map cShape_ p0.Shapes))]]⟩]]⟩) ?_ ?_
  · skip
    refine aw_seq ?_
    refine aw_regionA (is := [0]) rfl ?_
    refine rp rfl w0 rfl (pu_assign (r := .d _) rfl) ?_
    refine ra_nil ?_
    refine then_n ?_
    refine aw_block ?_
    refine aw_loopM (fun s4 => ⟨updA (updA ((fun _ => .dead)) 1 (.ptr 3 0 1 0 0)) 3 (.d (.v (.int .i64 s4))), lks [.no, .no, .no, .live [⟨29, 1, .av [[.d (.sl (List.map cShape_ p0.Shapes))]]⟩]]⟩) h1 ?_ (fun s4 y h2 => ?_)
    · skip
      exact wk [0, 1, 2, 3]
    · skip
      refine aw_seq ?_
      refine aw_seq ?_
      refine aw_regionA (is := [0, 1, 2, 3, 4]) rfl ?_
      refine rp rfl w0 rfl (pu_move (r := .d _) rfl) ?_
      refine rl rfl w0 rfl (bx_fa tok rfl rfl rfl rfl rfl rfl rfl) ?_
      refine rl rfl w0 rfl (bx_ld1 tok rfl rfl rfl rfl rfl) ?_
      refine rp rfl w0 rfl (pu_len_map tok rfl rfl rfl) ?_
      refine rp rfl w0 rfl (pu_lss rfl rfl) ?_
      refine ra_nil ?_
      refine then_n ?_
      refine aw_if h2 rfl (fun hc h2 => ?_) (fun hc h2 => ?_)
      · skip
        refine aw_skip ?_
        refine then_n ?_
        refine aw_seq ?_
        refine aw_block ?_
        refine aw_seq ?_
        refine aw_regionA (is := [0, 1, 2, 3, 4, 5, 6]) rfl ?_
        refine rl rfl w0 rfl (bx_fa tok rfl rfl rfl rfl rfl rfl rfl) ?_
        refine rl rfl w0 rfl (bx_ld1 tok rfl rfl rfl rfl rfl) ?_
        refine rp rfl w0 rfl (pu_move (r := .d _) rfl) ?_
        obtain ⟨v5, hv5, h2⟩ := bnd h2
        refine rp rfl w0 rfl (sl_ix tok hv5 rfl rfl rfl rfl rfl rfl) ?_
        refine rp rfl w0 rfl (pu_load_refN tok rfl rfl rfl (by repeat (first | exact SegD.z _ | apply SegD.t))) ?_
        obtain ⟨v6, hv6, h2⟩ := bnd h2
        refine rs rfl w0 rfl (c_call 4 (s_l25Shape_c hv6) rfl rfl rfl) ?_
        refine rp rfl w0 rfl (pu_not rfl) ?_
        refine ra_nil ?_
        refine then_n ?_
        refine aw_ifB h2 rfl (fun hc h2 => ?_) (fun hc h2 => ?_)
        · skip
          refine aw_seq ?_
          refine aw_regionA (is := [0]) rfl ?_
          refine rp rfl w0 rfl (pu_assign (r := .d _) rfl) ?_
          refine ra_nil ?_
          refine then_n ?_
          refine aw_ret ?_
          refine block_r ?_
          refine then_r ?_
          cases h2
          refine loop_r ⟨_, rfl, fun e => ?_⟩
          subst e
          refine block_r ?_
          replace h0 := orE_s h0
          refine then_r ?_
          cases h0
          exact ret0_ (rs := [.tmp 2]) rfl
        · skip
          refine aw_skip ?_
          refine block_n ?_
          refine then_n ?_
          refine aw_regionA (is := [0, 1, 2]) rfl ?_
          refine rp rfl w0 rfl (pu_move (r := .d _) rfl) ?_
          refine rp rfl w0 rfl (pw_add rfl rfl) ?_
          refine rp rfl w0 rfl (pu_assign (r := .d _) rfl) ?_
          refine ra_nil ?_
          refine loop_n ?_
          cases h2
          refine ⟨_, rfl, ?_⟩
          exact wk [0, 1, 2, 3]
      · skip
        refine aw_exit ?_
        refine then_e ?_
        cases h2
        refine loop_x ⟨_, rfl, fun e => ?_⟩
        subst e
        refine block_hit ?_
        refine then_n ?_
        refine ⟨_, rfl, ?_⟩
        exact wk [0, 1, 2, 3]
  · skip
    rintro v7 rfl
    replace h0 := orE_f h0
    refine aw_seq ?_
    refine aw_regionA (is := [0, 1, 2, 3, 4]) rfl ?_
    refine rl rfl w0 rfl (bx_fa tok rfl rfl rfl rfl rfl rfl rfl) ?_
    refine rl rfl w0 rfl (bx_ld1 tok rfl rfl rfl rfl rfl) ?_
    refine rp rfl w0 rfl (pu_len_map tok rfl rfl rfl) ?_
    refine rp rfl w0 rfl (pu_leq rfl rfl) ?_
    refine rp rfl w0 rfl (pu_assign (r := .d _) rfl) ?_
    refine ra_nil ?_
    refine then_n ?_
    refine aw_ret ?_
    cases h0
    exact ret0_ (rs := [.tmp 2]) rfl

theorem s_JoinDrawings_c {p0 : Drawing_} {p1 : Drawing_} {r : Drawing_ × Int} (h0 : s_JoinDrawings_m p0 p1 = some r) : FnC Try.prog 33 [] [.agg [.d (.sl (List.map cShape_ p0.Shapes))], .agg [.d (.sl (List.map cShape_ p1.Shapes))]] [.live [⟨80, 7, .data (List.map cShape_ r.1.Shapes)⟩]] (.tup [.agg [.own 0 0 r.1.Shapes.length], .d (.v (.int .i64 r.2))]) := by
  refine fnc_intro (T := tt) (N := 32) tok Try.func33 rfl rfl (by kernel_rfl) rfl rfl ?_
  unfold s_JoinDrawings_m at h0
  refine aw_seq ?_
  refine aw_regionA (is := [0, 1, 2, 3]) rfl ?_
  refine rs rfl w0 rfl (st_box 3 (cs := _ :: _) rfl rfl rfl) ?_
  refine rs rfl w0 rfl (st_box 4 (cs := _ :: _) rfl rfl rfl) ?_
  refine rs rfl w0 rfl (st_alloc 5 (cs := [.d (.v (.slice none 0 0))]) tok rfl rfl rfl) ?_
  refine rp rfl w0 rfl (pu_assign (r := .d _) rfl) ?_
  refine ra_nil ?_
  refine then_n ?_
  refine aw_seq ?_
  obtain ⟨v3, h1, h0⟩ := bnd h0
  refine aw_cut ⟨updA (updA (updA (updA ((fun _ => .dead)) 2 (.ptr 3 0 1 0 0)) 3 (.ptr 4 0 1 0 0)) 4 (.ptr 5 0 1 0 0)) 13 (.d (.v (.bool v3))), lks [.no, .no, .no, .live [⟨29, 1, .av [[.d (.sl (List.map cShape_ p0.Shapes))]]⟩], .live [⟨29, 1, .av [[.d (.sl (List.map cShape_ p1.Shapes))]]⟩], .live [⟨29, 1, .av [[.d (.v (.slice none 0 0))]]⟩]]⟩ ?_ ?_
  · skip
    refine aw_regionA (is := [0, 1, 2, 3, 4, 5, 6, 7]) rfl ?_
    refine rl rfl w0 rfl (bx_ldN tok rfl rfl rfl rfl) ?_
    obtain ⟨v1, hv1, h1⟩ := bnd h1
    refine rs rfl w0 rfl (c_call 6 (s_l25Ok_c hv1) rfl rfl rfl) ?_
    refine rp rfl w0 rfl (pu_not rfl) ?_
    refine rp rfl w0 rfl (pu_move (r := .d _) rfl) ?_
    refine ra_ifB (u := 9) h1 rfl (fun hc h1 => ?_) (fun hc h1 => ?_)
    · skip
      refine rk rfl rfl rfl (by first | exact .inl rfl | exact .inr rfl) rfl ?_
      refine rk rfl rfl rfl (by first | exact .inl rfl | exact .inr rfl) rfl ?_
      refine rk rfl rfl rfl (by first | exact .inl rfl | exact .inr rfl) rfl ?_
      refine rp rfl w0 rfl (pu_pick_t (r := .d _) rfl rfl) ?_
      refine ra_nil ?_
      refine then_n ?_
      cases h1
      exact wk [0, 1, 2, 3, 4, 5]
    · skip
      refine rl rfl (w1 rfl rfl rfl) rfl (bx_ldN tok rfl rfl rfl rfl) ?_
      obtain ⟨v2, hv2, h1⟩ := bnd h1
      refine rs rfl (w1 rfl rfl rfl) rfl (c_call 6 (s_l25Ok_c hv2) rfl rfl rfl) ?_
      refine rp rfl (w1 rfl rfl rfl) rfl (pu_not rfl) ?_
      refine rp rfl w0 rfl (pu_pick_f (r := .d _) rfl rfl) ?_
      refine ra_nil ?_
      refine then_n ?_
      cases h1
      exact wk [0, 1, 2, 3, 4, 5]
  · skip
    refine aw_ifB h0 rfl (fun hc h0 => ?_) (fun hc h0 => ?_)
    · skip
      refine aw_seq ?_
      refine aw_regionA (is := [0, 1, 2]) rfl ?_
      refine rp rfl w0 rfl (pu_build (C0 := [.d (.v (.slice none 0 0))]) tok rfl rfl (by repeat (first | exact Plc.nil | apply Plc.cons rfl)) rfl (by repeat (first | exact Bld.nil _ | apply Bld.cons (cs := [.d _]) rfl rfl rfl rfl (by repeat (first | exact Spl.z _ | apply Spl.t | apply Spl.d)) | apply Bld.cons (cs := [.own _ _ _]) rfl rfl rfl rfl (by repeat (first | exact Spl.z _ | apply Spl.t | apply Spl.d)) | apply Bld.cons (cs := [.ptr _ _ _ _ _]) rfl rfl rfl rfl (by repeat (first | exact Spl.z _ | apply Spl.t | apply Spl.d)) | apply Bld.cons (cs := [.fn _ _]) rfl rfl rfl rfl (by repeat (first | exact Spl.z _ | apply Spl.t | apply Spl.d)) | apply Bld.cons (cs := _ :: _) rfl rfl rfl rfl (by repeat (first | exact Spl.z _ | apply Spl.t | apply Spl.d))))) ?_
      refine rw0 rfl w0 (bx_st (cs := _ :: _) tok rfl rfl rfl rfl rfl rfl rfl) ?_
      refine rp rfl w0 rfl (pu_assign (r := .d _) rfl) ?_
      refine ra_nil ?_
      refine then_n ?_
      refine aw_weak (weak_adopt 6 rfl 80 7 (kb := 5) (j := 0) rfl rfl (by repeat (first | exact Spl.z _ | apply Spl.t | apply Spl.d))) ?_
      refine aw_ret ?_
      refine then_r ?_
      cases h0
      exact retK_ (rs := [.cell 4 29, .tmp 5]) [6] rfl
    · skip
      refine aw_skip ?_
      refine then_n ?_
      refine aw_seq ?_
      refine aw_seq ?_
      refine aw_regionA (is := [0, 1, 2, 3, 4, 5, 6, 7]) rfl ?_
      refine rl rfl w0 rfl (bx_fa tok rfl rfl rfl rfl rfl rfl rfl) ?_
      refine rl rfl w0 rfl (bx_ld1 tok rfl rfl rfl rfl rfl) ?_
      refine rp rfl w0 rfl (pu_len_map tok rfl rfl rfl) ?_
      refine rl rfl w0 rfl (bx_fa tok rfl rfl rfl rfl rfl rfl rfl) ?_
      refine rl rfl w0 rfl (bx_ld1 tok rfl rfl rfl rfl rfl) ?_
      refine rp rfl w0 rfl (pu_len_map tok rfl rfl rfl) ?_
      refine rp rfl w0 rfl (pw_add rfl rfl) ?_
      refine rp rfl w0 rfl (pu_gtr rfl rfl) ?_
      refine ra_nil ?_
      refine then_n ?_
      refine aw_if h0 rfl (fun hc h0 => ?_) (fun hc h0 => ?_)
      · skip
        refine aw_seq ?_
        refine aw_regionA (is := [0, 1, 2]) rfl ?_
        refine rp rfl w0 rfl (pu_build (C0 := [.d (.v (.slice none 0 0))]) tok rfl rfl (by repeat (first | exact Plc.nil | apply Plc.cons rfl)) rfl (by repeat (first | exact Bld.nil _ | apply Bld.cons (cs := [.d _]) rfl rfl rfl rfl (by repeat (first | exact Spl.z _ | apply Spl.t | apply Spl.d)) | apply Bld.cons (cs := [.own _ _ _]) rfl rfl rfl rfl (by repeat (first | exact Spl.z _ | apply Spl.t | apply Spl.d)) | apply Bld.cons (cs := [.ptr _ _ _ _ _]) rfl rfl rfl rfl (by repeat (first | exact Spl.z _ | apply Spl.t | apply Spl.d)) | apply Bld.cons (cs := [.fn _ _]) rfl rfl rfl rfl (by repeat (first | exact Spl.z _ | apply Spl.t | apply Spl.d)) | apply Bld.cons (cs := _ :: _) rfl rfl rfl rfl (by repeat (first | exact Spl.z _ | apply Spl.t | apply Spl.d))))) ?_
        refine rw0 rfl w0 (bx_st (cs := _ :: _) tok rfl rfl rfl rfl rfl rfl rfl) ?_
        refine rp rfl w0 rfl (pu_assign (r := .d _) rfl) ?_
        refine ra_nil ?_
        refine then_n ?_
        refine aw_weak (weak_adopt 6 rfl 80 7 (kb := 5) (j := 0) rfl rfl (by repeat (first | exact Spl.z _ | apply Spl.t | apply Spl.d))) ?_
        refine aw_ret ?_
        refine then_r ?_
        cases h0
        exact retK_ (rs := [.cell 4 29, .tmp 5]) [6] rfl
      · skip
        refine aw_skip ?_
        refine then_n ?_
        refine aw_seq ?_
        refine aw_region_draw (is := [1, 2, 4, 5, 0, 3, 6, 7, 8, 9]) follows ?_
        refine rt_lk rfl w0 rfl (bx_fa tok rfl rfl rfl rfl rfl rfl rfl) rfl rfl rfl ?_
        refine rt_lk rfl w0 rfl (bx_ld1 tok rfl rfl rfl rfl rfl) rfl rfl rfl ?_
        refine rt_lk rfl w0 rfl (bx_fa tok rfl rfl rfl rfl rfl rfl rfl) rfl rfl rfl ?_
        refine rt_lk rfl w0 rfl (bx_ld1 tok rfl rfl rfl rfl rfl) rfl rfl rfl ?_
        refine rt_s rfl w0 rfl (st_slice0 6 tok rfl rfl rfl rfl) ?_
        obtain ⟨hq4, h0⟩ := chk_e h0
        refine rt_wkd rfl w0 rfl (ap_own tok hq4 rfl rfl rfl rfl rfl rfl rfl rfl rfl rfl rfl rfl (fun _ => rfl)) ?_
        obtain ⟨hq5, h0⟩ := chk_e h0
        refine rt_wkd rfl w0 rfl (ap_own tok hq5 rfl rfl rfl rfl rfl rfl rfl rfl rfl rfl rfl rfl (fun _ => rfl)) ?_
        refine rt_p rfl w0 rfl (pu_build (C0 := [.d (.v (.slice none 0 0))]) tok rfl rfl (by repeat (first | exact Plc.nil | apply Plc.cons rfl)) rfl (by repeat (first | exact Bld.nil _ | apply Bld.cons (cs := [.d _]) rfl rfl rfl rfl (by repeat (first | exact Spl.z _ | apply Spl.t | apply Spl.d)) | apply Bld.cons (cs := [.own _ _ _]) rfl rfl rfl rfl (by repeat (first | exact Spl.z _ | apply Spl.t | apply Spl.d)) | apply Bld.cons (cs := [.ptr _ _ _ _ _]) rfl rfl rfl rfl (by repeat (first | exact Spl.z _ | apply Spl.t | apply Spl.d)) | apply Bld.cons (cs := [.fn _ _]) rfl rfl rfl rfl (by repeat (first | exact Spl.z _ | apply Spl.t | apply Spl.d)) | apply Bld.cons (cs := _ :: _) rfl rfl rfl rfl (by repeat (first | exact Spl.z _ | apply Spl.t | apply Spl.d))))) ?_
        refine rt_wk rfl w0 (bx_st (cs := _ :: _) tok rfl rfl rfl rfl rfl rfl rfl) ?_
        refine rt_p rfl w0 rfl (pu_assign (r := .d _) rfl) ?_
        refine rt_nil ?_
        refine ⟨by kernel_rfl, ?_⟩
        refine then_n ?_
        refine aw_ret ?_
        cases h0
        exact retK_ (rs := [.cell 4 29, .tmp 5]) [6] rfl

theorem i_within_c {p0 : Int} {p1 : Int} {p2 : Int} {r : Bool} (h0 : i_within_m p0 p1 p2 = some r) : FnC Try.prog 55 [] [.d (.v (.int .i64 p0)), .d (.v (.int .i64 p1)), .d (.v (.int .i64 p2))] [] (.d (.v (.bool r))) := by
  refine fnc_intro (T := tt) (N := 15) tok Try.func55 rfl rfl (by kernel_rfl) rfl rfl ?_
  unfold i_within_m at h0
  refine aw_seq ?_
  refine aw_regionA (is := [0]) rfl ?_
  refine rp rfl w0 rfl (pu_assign (r := .d _) rfl) ?_
  refine ra_nil ?_
  refine then_n ?_
  refine aw_seq ?_
  refine aw_regionA (is := [0, 1, 2, 3, 4, 5, 6, 7, 8]) rfl ?_
  refine rp rfl w0 rfl (pu_move (r := .d _) rfl) ?_
  refine rp rfl w0 rfl (pu_move (r := .d _) rfl) ?_
  refine rp rfl w0 rfl (pu_geq rfl rfl) ?_
  refine rp rfl w0 rfl (pu_move (r := .d _) rfl) ?_
  refine ra_if (u := 10) h0 rfl (fun hc h0 => ?_) (fun hc h0 => ?_)
  · skip
    refine rp rfl (w1 rfl rfl rfl) rfl (pu_move (r := .d _) rfl) ?_
    refine rp rfl (w1 rfl rfl rfl) rfl (pu_move (r := .d _) rfl) ?_
    refine rp rfl (w1 rfl rfl rfl) rfl (pu_leq rfl rfl) ?_
    refine rp rfl w0 rfl (pu_pick_t (r := .d _) rfl rfl) ?_
    refine rp rfl w0 rfl (pu_assign (r := .d _) rfl) ?_
    refine ra_nil ?_
    refine then_n ?_
    refine aw_ret ?_
    cases h0
    exact ret0_ (rs := [.tmp 6]) rfl
  · skip
    refine rk rfl rfl rfl (by first | exact .inl rfl | exact .inr rfl) rfl ?_
    refine rk rfl rfl rfl (by first | exact .inl rfl | exact .inr rfl) rfl ?_
    refine rk rfl rfl rfl (by first | exact .inl rfl | exact .inr rfl) rfl ?_
    refine rp rfl w0 rfl (pu_pick_f (r := .d _) rfl rfl) ?_
    refine rp rfl w0 rfl (pu_assign (r := .d _) rfl) ?_
    refine ra_nil ?_
    refine then_n ?_
    refine aw_ret ?_
    cases h0
    exact ret0_ (rs := [.tmp 6]) rfl

theorem i_validSpot_c {p0 : Spot_} {r : Bool} (h0 : i_validSpot_m p0 = some r) : FnC Try.prog 78 [] [.agg [.d (.v (.int .i64 p0.X)), .d (.v (.int .i64 p0.Y))]] [] (.d (.v (.bool r))) := by
  refine fnc_intro (T := tt) (N := 11) tok Try.func78 rfl rfl (by kernel_rfl) rfl rfl ?_
  unfold i_validSpot_m at h0
  refine aw_seq ?_
  refine aw_regionA (is := [0, 1]) rfl ?_
  refine rs rfl w0 rfl (st_box 3 (cs := _ :: _) rfl rfl rfl) ?_
  refine rp rfl w0 rfl (pu_assign (r := .d _) rfl) ?_
  refine ra_nil ?_
  refine then_n ?_
  refine aw_seq ?_
  refine aw_regionA (is := [0, 1, 2, 3, 4, 5, 6, 7, 8]) rfl ?_
  refine rl rfl w0 rfl (bx_fa tok rfl rfl rfl rfl rfl rfl rfl) ?_
  refine rl rfl w0 rfl (bx_ld1 tok rfl rfl rfl rfl rfl) ?_
  obtain ⟨v1, hv1, h0⟩ := bnd h0
  refine rs rfl w0 rfl (c_call 4 (i_within_c hv1) rfl rfl rfl) ?_
  refine rp rfl w0 rfl (pu_move (r := .d _) rfl) ?_
  refine ra_ifB (u := 6) h0 rfl (fun hc h0 => ?_) (fun hc h0 => ?_)
  · skip
    refine rl rfl (w1 rfl rfl rfl) rfl (bx_fa tok rfl rfl rfl rfl rfl rfl rfl) ?_
    refine rl rfl (w1 rfl rfl rfl) rfl (bx_ld1 tok rfl rfl rfl rfl rfl) ?_
    obtain ⟨v2, hv2, h0⟩ := bnd h0
    refine rs rfl (w1 rfl rfl rfl) rfl (c_call 4 (i_within_c hv2) rfl rfl rfl) ?_
    refine rp rfl w0 rfl (pu_pick_t (r := .d _) rfl rfl) ?_
    refine rp rfl w0 rfl (pu_assign (r := .d _) rfl) ?_
    refine ra_nil ?_
    refine then_n ?_
    refine aw_ret ?_
    cases h0
    exact ret0_ (rs := [.tmp 2]) rfl
  · skip
    refine rk rfl rfl rfl (by first | exact .inl rfl | exact .inr rfl) rfl ?_
    refine rk rfl rfl rfl (by first | exact .inl rfl | exact .inr rfl) rfl ?_
    refine rk rfl rfl rfl (by first | exact .inl rfl | exact .inr rfl) rfl ?_
    refine rp rfl w0 rfl (pu_pick_f (r := .d _) rfl rfl) ?_
    refine rp rfl w0 rfl (pu_assign (r := .d _) rfl) ?_
    refine ra_nil ?_
    refine then_n ?_
    refine aw_ret ?_
    cases h0
    exact ret0_ (rs := [.tmp 2]) rfl

theorem i_line_c {p0 : Spot_} {p1 : Spot_} {r : Shape_} (h0 : i_line_m p0 p1 = some r) : FnC Try.prog 57 [] [.agg [.d (.v (.int .i64 p0.X)), .d (.v (.int .i64 p0.Y))], .agg [.d (.v (.int .i64 p1.X)), .d (.v (.int .i64 p1.Y))]] [] (.agg [.d (.v (.int .i64 r.Kind)), .d (.v (.int .i64 r.A.X)), .d (.v (.int .i64 r.A.Y)), .d (.v (.int .i64 r.B.X)), .d (.v (.int .i64 r.B.Y)), .d (.v (.int .i64 r.R)), .d (.v (.string r.Name))]) := by
  refine fnc_intro (T := tt) (N := 8) tok Try.func57 rfl rfl (by kernel_rfl) rfl rfl ?_
  unfold i_line_m at h0
  refine aw_seq ?_
  refine aw_regionA (is := [0, 1, 2]) rfl ?_
  refine rs rfl w0 rfl (st_box 3 (cs := _ :: _) rfl rfl rfl) ?_
  refine rs rfl w0 rfl (st_box 4 (cs := _ :: _) rfl rfl rfl) ?_
  refine rs rfl w0 rfl (st_alloc 5 (cs := [.d (.v (.int .i64 0)), .d (.v (.int .i64 0)), .d (.v (.int .i64 0)), .d (.v (.int .i64 0)), .d (.v (.int .i64 0)), .d (.v (.int .i64 0)), .d (.v (.string (⟨#[]⟩ : ByteArray)))]) tok rfl rfl rfl) ?_
  refine ra_nil ?_
  refine then_n ?_
  refine aw_seq ?_
  refine aw_regionA (is := [0, 1, 2, 3]) rfl ?_
  refine rl rfl w0 rfl (bx_ldN tok rfl rfl rfl rfl) ?_
  refine rl rfl w0 rfl (bx_ldN tok rfl rfl rfl rfl) ?_
  refine rp rfl w0 rfl (pu_build (C0 := [.d (.v (.int .i64 0)), .d (.v (.int .i64 0)), .d (.v (.int .i64 0)), .d (.v (.int .i64 0)), .d (.v (.int .i64 0)), .d (.v (.int .i64 0)), .d (.v (.string (⟨#[]⟩ : ByteArray)))]) tok rfl rfl (by repeat (first | exact Plc.nil | apply Plc.cons rfl)) rfl (by repeat (first | exact Bld.nil _ | apply Bld.cons (cs := [.d _]) rfl rfl rfl rfl (by repeat (first | exact Spl.z _ | apply Spl.t | apply Spl.d)) | apply Bld.cons (cs := [.own _ _ _]) rfl rfl rfl rfl (by repeat (first | exact Spl.z _ | apply Spl.t | apply Spl.d)) | apply Bld.cons (cs := [.ptr _ _ _ _ _]) rfl rfl rfl rfl (by repeat (first | exact Spl.z _ | apply Spl.t | apply Spl.d)) | apply Bld.cons (cs := [.fn _ _]) rfl rfl rfl rfl (by repeat (first | exact Spl.z _ | apply Spl.t | apply Spl.d)) | apply Bld.cons (cs := _ :: _) rfl rfl rfl rfl (by repeat (first | exact Spl.z _ | apply Spl.t | apply Spl.d))))) ?_
  refine rw0 rfl w0 (bx_st (cs := _ :: _) tok rfl rfl rfl rfl rfl rfl rfl) ?_
  refine ra_nil ?_
  refine then_n ?_
  refine aw_ret ?_
  cases h0
  exact ret0_ (rs := [.cell 4 80]) rfl

theorem i_circle_c {p0 : Spot_} {p1 : Int} {r : Shape_} (h0 : i_circle_m p0 p1 = some r) : FnC Try.prog 56 [] [.agg [.d (.v (.int .i64 p0.X)), .d (.v (.int .i64 p0.Y))], .d (.v (.int .i64 p1))] [] (.agg [.d (.v (.int .i64 r.Kind)), .d (.v (.int .i64 r.A.X)), .d (.v (.int .i64 r.A.Y)), .d (.v (.int .i64 r.B.X)), .d (.v (.int .i64 r.B.Y)), .d (.v (.int .i64 r.R)), .d (.v (.string r.Name))]) := by
  refine fnc_intro (T := tt) (N := 8) tok Try.func56 rfl rfl (by kernel_rfl) rfl rfl ?_
  unfold i_circle_m at h0
  refine aw_seq ?_
  refine aw_regionA (is := [0, 1]) rfl ?_
  refine rs rfl w0 rfl (st_box 3 (cs := _ :: _) rfl rfl rfl) ?_
  refine rs rfl w0 rfl (st_alloc 4 (cs := [.d (.v (.int .i64 0)), .d (.v (.int .i64 0)), .d (.v (.int .i64 0)), .d (.v (.int .i64 0)), .d (.v (.int .i64 0)), .d (.v (.int .i64 0)), .d (.v (.string (⟨#[]⟩ : ByteArray)))]) tok rfl rfl rfl) ?_
  refine ra_nil ?_
  refine then_n ?_
  refine aw_seq ?_
  refine aw_regionA (is := [0, 1, 2, 3]) rfl ?_
  refine rl rfl w0 rfl (bx_ldN tok rfl rfl rfl rfl) ?_
  refine rp rfl w0 rfl (pu_move (r := .d _) rfl) ?_
  refine rp rfl w0 rfl (pu_build (C0 := [.d (.v (.int .i64 0)), .d (.v (.int .i64 0)), .d (.v (.int .i64 0)), .d (.v (.int .i64 0)), .d (.v (.int .i64 0)), .d (.v (.int .i64 0)), .d (.v (.string (⟨#[]⟩ : ByteArray)))]) tok rfl rfl (by repeat (first | exact Plc.nil | apply Plc.cons rfl)) rfl (by repeat (first | exact Bld.nil _ | apply Bld.cons (cs := [.d _]) rfl rfl rfl rfl (by repeat (first | exact Spl.z _ | apply Spl.t | apply Spl.d)) | apply Bld.cons (cs := [.own _ _ _]) rfl rfl rfl rfl (by repeat (first | exact Spl.z _ | apply Spl.t | apply Spl.d)) | apply Bld.cons (cs := [.ptr _ _ _ _ _]) rfl rfl rfl rfl (by repeat (first | exact Spl.z _ | apply Spl.t | apply Spl.d)) | apply Bld.cons (cs := [.fn _ _]) rfl rfl rfl rfl (by repeat (first | exact Spl.z _ | apply Spl.t | apply Spl.d)) | apply Bld.cons (cs := _ :: _) rfl rfl rfl rfl (by repeat (first | exact Spl.z _ | apply Spl.t | apply Spl.d))))) ?_
  refine rw0 rfl w0 (bx_st (cs := _ :: _) tok rfl rfl rfl rfl rfl rfl rfl) ?_
  refine ra_nil ?_
  refine then_n ?_
  refine aw_ret ?_
  cases h0
  exact ret0_ (rs := [.cell 4 80]) rfl

theorem i_IsName_c {p0 : ByteArray} {r : Bool} (h0 : i_IsName_m p0 = some r) : FnC Try.prog 103 [] [.d (.v (.string p0))] [] (.d (.v (.bool r))) := by
  refine fnc_intro (T := tt) (N := 50) tok Try.func103 rfl rfl (by kernel_rfl) rfl rfl ?_
  unfold i_IsName_m at h0
  refine aw_seq ?_
  refine aw_regionA (is := [0]) rfl ?_
  refine rp rfl w0 rfl (pu_assign (r := .d _) rfl) ?_
  refine ra_nil ?_
  refine then_n ?_
  refine aw_seq ?_
  obtain ⟨v1, h1, h0⟩ := bnd h0
  refine aw_cut ⟨updA (updA ((fun _ => .dead)) 0 (.d (.v (.string p0)))) 14 (.d (.v (.bool v1))), lks [.no, .no, .no]⟩ ?_ ?_
  · skip
    refine aw_regionA (is := [0, 1, 2, 3, 4, 5, 6, 7]) rfl ?_
    refine rp rfl w0 rfl (pu_move (r := .d _) rfl) ?_
    refine rp rfl w0 rfl (pu_len_str tok rfl rfl rfl) ?_
    refine rp rfl w0 rfl (pu_lss rfl rfl) ?_
    refine rp rfl w0 rfl (pu_move (r := .d _) rfl) ?_
    refine ra_if (u := 10) h1 rfl (fun hc h1 => ?_) (fun hc h1 => ?_)
    · skip
      refine rk rfl rfl rfl (by first | exact .inl rfl | exact .inr rfl) rfl ?_
      refine rk rfl rfl rfl (by first | exact .inl rfl | exact .inr rfl) rfl ?_
      refine rk rfl rfl rfl (by first | exact .inl rfl | exact .inr rfl) rfl ?_
      refine rp rfl w0 rfl (pu_pick_t (r := .d _) rfl rfl) ?_
      refine ra_nil ?_
      refine then_n ?_
      cases h1
      exact wk [0, 1, 2]
    · skip
      refine rp rfl (w1 rfl rfl rfl) rfl (pu_move (r := .d _) rfl) ?_
      refine rp rfl (w1 rfl rfl rfl) rfl (pu_len_str tok rfl rfl rfl) ?_
      refine rp rfl (w1 rfl rfl rfl) rfl (pu_gtr rfl rfl) ?_
      refine rp rfl w0 rfl (pu_pick_f (r := .d _) rfl rfl) ?_
      refine ra_nil ?_
      refine then_n ?_
      cases h1
      exact wk [0, 1, 2]
  · skip
    refine aw_ifB h0 rfl (fun hc h0 => ?_) (fun hc h0 => ?_)
    · skip
      refine aw_seq ?_
      refine aw_regionA (is := [0]) rfl ?_
      refine rp rfl w0 rfl (pu_assign (r := .d _) rfl) ?_
      refine ra_nil ?_
      refine then_n ?_
      refine aw_ret ?_
      refine then_r ?_
      cases h0
      exact ret0_ (rs := [.tmp 2]) rfl
    · skip
      refine aw_skip ?_
      refine then_n ?_
      obtain ⟨v13x, h1, h0⟩ := bnd h0
      refine aw_cutE v13x (fun v13 => ⟨(fun _ => .dead), lks [.no, .no, .no]⟩) ?_ ?_
      · skip
        refine aw_seq ?_
        refine aw_regionA (is := [0, 1, 2, 3]) rfl ?_
        refine rp rfl w0 rfl (pu_move (r := .d _) rfl) ?_
        obtain ⟨hq2, h1⟩ := chk_e h1
        refine rs rfl w0 rfl (cv_sb tok hq2 rfl rfl rfl rfl rfl rfl rfl) ?_
        refine rp rfl w0 rfl (pu_len_map tok rfl rfl rfl) ?_
        refine rp rfl w0 rfl (pu_move (r := .d _) rfl) ?_
        refine ra_nil ?_
        refine then_n ?_
        refine aw_block ?_
        refine aw_loopM (fun s8 => ⟨updA (updA (updA ((fun _ => .dead)) 16 (.d (.sl (List.map cU8 (bytesL p0))))) 17 (.d (.v (.int .i64 ((bytesL p0).length : Int))))) 18 (.d (.v (.int .i64 s8))), lks [.no, .no, .no]⟩) h1 ?_ (fun s8 y h2 => ?_)
        · skip
          exact wk [0, 1, 2]
        · skip
          refine aw_seq ?_
          refine aw_regionA (is := [0]) rfl ?_
          refine rp rfl w0 rfl (pu_lss rfl rfl) ?_
          refine ra_nil ?_
          refine then_n ?_
          refine aw_seq ?_
          refine aw_if h2 rfl (fun hc h2 => ?_) (fun hc h2 => ?_)
          · skip
            refine aw_skip ?_
            refine then_n ?_
            refine aw_seq ?_
            refine aw_block ?_
            refine aw_seq ?_
            refine aw_regionA (is := [0, 1, 2, 3, 4]) rfl ?_
            refine rp rfl w0 rfl (pu_move (r := .d _) rfl) ?_
            obtain ⟨v9, hv9, h2⟩ := bnd h2
            refine rp rfl w0 rfl (sl_ix tok hv9 rfl rfl rfl rfl rfl rfl) ?_
            refine rp rfl w0 rfl (pu_load_ref1 tok rfl rfl rfl rfl) ?_
            refine rp rfl w0 rfl (pu_assign (r := .d _) rfl) ?_
            refine rp rfl w0 rfl (pu_assign (r := .d _) rfl) ?_
            refine ra_nil ?_
            refine then_n ?_
            obtain ⟨v10, h3, h2⟩ := bnd h2
            refine aw_cut ⟨updA (updA (updA (updA (updA (updA ((fun _ => .dead)) 3 (.d (.v (.int .i64 s8)))) 4 (.d (.v (.int .u8 v9)))) 5 (.d (.v (.bool v10)))) 16 (.d (.sl (List.map cU8 (bytesL p0))))) 17 (.d (.v (.int .i64 ((bytesL p0).length : Int))))) 18 (.d (.v (.int .i64 s8))), lks [.no, .no, .no]⟩ ?_ ?_
            · skip
              refine aw_regionA (is := [0, 1, 2, 3, 4, 5, 6]) rfl ?_
              refine rp rfl w0 rfl (pu_move (r := .d _) rfl) ?_
              refine rp rfl w0 rfl (pu_geq rfl rfl) ?_
              refine rp rfl w0 rfl (pu_move (r := .d _) rfl) ?_
              refine ra_if (u := 25) h3 rfl (fun hc h3 => ?_) (fun hc h3 => ?_)
              · skip
                refine rp rfl (w1 rfl rfl rfl) rfl (pu_move (r := .d _) rfl) ?_
                refine rp rfl (w1 rfl rfl rfl) rfl (pu_leq rfl rfl) ?_
                refine rp rfl w0 rfl (pu_pick_t (r := .d _) rfl rfl) ?_
                refine rp rfl w0 rfl (pu_assign (r := .d _) rfl) ?_
                refine ra_nil ?_
                refine then_n ?_
                cases h3
                exact wk [0, 1, 2]
              · skip
                refine rk rfl rfl rfl (by first | exact .inl rfl | exact .inr rfl) rfl ?_
                refine rk rfl rfl rfl (by first | exact .inl rfl | exact .inr rfl) rfl ?_
                refine rp rfl w0 rfl (pu_pick_f (r := .d _) rfl rfl) ?_
                refine rp rfl w0 rfl (pu_assign (r := .d _) rfl) ?_
                refine ra_nil ?_
                refine then_n ?_
                cases h3
                exact wk [0, 1, 2]
            · skip
              obtain ⟨v11, h3, h2⟩ := bnd h2
              refine aw_cut ⟨updA (updA (updA (updA (updA (updA ((fun _ => .dead)) 3 (.d (.v (.int .i64 s8)))) 5 (.d (.v (.bool v10)))) 6 (.d (.v (.bool v11)))) 16 (.d (.sl (List.map cU8 (bytesL p0))))) 17 (.d (.v (.int .i64 ((bytesL p0).length : Int))))) 18 (.d (.v (.int .i64 s8))), lks [.no, .no, .no]⟩ ?_ ?_
              · skip
                refine aw_regionA (is := [0, 1, 2, 3, 4, 5, 6, 7, 8, 9, 10]) rfl ?_
                refine rp rfl w0 rfl (pu_move (r := .d _) rfl) ?_
                refine rp rfl w0 rfl (pu_geq rfl rfl) ?_
                refine rp rfl w0 rfl (pu_move (r := .d _) rfl) ?_
                refine ra_if (u := 31) h3 rfl (fun hc h3 => ?_) (fun hc h3 => ?_)
                · skip
                  refine rp rfl (w1 rfl rfl rfl) rfl (pu_move (r := .d _) rfl) ?_
                  refine rp rfl (w1 rfl rfl rfl) rfl (pu_leq rfl rfl) ?_
                  refine rp rfl w0 rfl (pu_pick_t (r := .d _) rfl rfl) ?_
                  refine rp rfl w0 rfl (pu_move (r := .d _) rfl) ?_
                  refine ra_if (u := 35) h3 rfl (fun hc h3 => ?_) (fun hc h3 => ?_)
                  · skip
                    refine rk rfl rfl rfl (by first | exact .inl rfl | exact .inr rfl) rfl ?_
                    refine rk rfl rfl rfl (by first | exact .inl rfl | exact .inr rfl) rfl ?_
                    refine rp rfl w0 rfl (pu_pick_t (r := .d _) rfl rfl) ?_
                    refine rp rfl w0 rfl (pu_assign (r := .d _) rfl) ?_
                    refine ra_nil ?_
                    refine then_n ?_
                    cases h3
                    exact wk [0, 1, 2]
                  · skip
                    refine rp rfl (w1 rfl rfl rfl) rfl (pu_move (r := .d _) rfl) ?_
                    refine rp rfl (w1 rfl rfl rfl) rfl (pu_eql rfl rfl) ?_
                    refine rp rfl w0 rfl (pu_pick_f (r := .d _) rfl rfl) ?_
                    refine rp rfl w0 rfl (pu_assign (r := .d _) rfl) ?_
                    refine ra_nil ?_
                    refine then_n ?_
                    cases h3
                    exact wk [0, 1, 2]
                · skip
                  refine rk rfl rfl rfl (by first | exact .inl rfl | exact .inr rfl) rfl ?_
                  refine rk rfl rfl rfl (by first | exact .inl rfl | exact .inr rfl) rfl ?_
                  refine rp rfl w0 rfl (pu_pick_f (r := .d _) rfl rfl) ?_
                  refine rp rfl w0 rfl (pu_move (r := .d _) rfl) ?_
                  refine rp rfl (w1 rfl rfl rfl) rfl (pu_move (r := .d _) rfl) ?_
                  refine rp rfl (w1 rfl rfl rfl) rfl (pu_eql rfl rfl) ?_
                  refine rp rfl w0 rfl (pu_pick_f (r := .d _) rfl rfl) ?_
                  refine rp rfl w0 rfl (pu_assign (r := .d _) rfl) ?_
                  refine ra_nil ?_
                  refine then_n ?_
                  cases h3
                  exact wk [0, 1, 2]
              · skip
                obtain ⟨v12, h3, h2⟩ := bnd h2
                refine aw_cut ⟨updA (updA (updA (updA ((fun _ => .dead)) 16 (.d (.sl (List.map cU8 (bytesL p0))))) 17 (.d (.v (.int .i64 ((bytesL p0).length : Int))))) 18 (.d (.v (.int .i64 s8)))) 48 (.d (.v (.bool v12))), lks [.no, .no, .no]⟩ ?_ ?_
                · skip
                  refine aw_regionA (is := [0, 1, 2, 3, 4, 5, 6, 7, 8, 9]) rfl ?_
                  refine rp rfl w0 rfl (pu_move (r := .d _) rfl) ?_
                  refine rp rfl w0 rfl (pu_not rfl) ?_
                  refine rp rfl w0 rfl (pu_move (r := .d _) rfl) ?_
                  refine ra_ifB (u := 41) h3 rfl (fun hc h3 => ?_) (fun hc h3 => ?_)
                  · skip
                    refine rp rfl (w1 rfl rfl rfl) rfl (pu_move (r := .d _) rfl) ?_
                    refine rp rfl (w1 rfl rfl rfl) rfl (pu_eql rfl rfl) ?_
                    refine rp rfl (w1 rfl rfl rfl) rfl (pu_move (r := .d _) rfl) ?_
                    refine ra_if (u := 44) h3 rfl (fun hc h3 => ?_) (fun hc h3 => ?_)
                    · skip
                      refine rk rfl rfl rfl (by first | exact .inl rfl | exact .inr rfl) rfl ?_
                      refine rk rfl rfl rfl (by first | exact .inl rfl | exact .inr rfl) rfl ?_
                      refine rp rfl (w1 rfl rfl rfl) rfl (pu_pick_t (r := .d _) rfl rfl) ?_
                      refine rp rfl w0 rfl (pu_pick_t (r := .d _) rfl rfl) ?_
                      refine ra_nil ?_
                      refine then_n ?_
                      cases h3
                      exact wk [0, 1, 2]
                    · skip
                      refine rp rfl (w1 rfl rfl rfl) rfl (pu_move (r := .d _) rfl) ?_
                      refine rp rfl (w1 rfl rfl rfl) rfl (pu_not rfl) ?_
                      refine rp rfl (w1 rfl rfl rfl) rfl (pu_pick_f (r := .d _) rfl rfl) ?_
                      refine rp rfl w0 rfl (pu_pick_t (r := .d _) rfl rfl) ?_
                      refine ra_nil ?_
                      refine then_n ?_
                      cases h3
                      exact wk [0, 1, 2]
                  · skip
                    refine rk rfl rfl rfl (by first | exact .inl rfl | exact .inr rfl) rfl ?_
                    refine rk rfl rfl rfl (by first | exact .inl rfl | exact .inr rfl) rfl ?_
                    refine rk rfl rfl rfl (by first | exact .inl rfl | exact .inr rfl) rfl ?_
                    refine rk rfl rfl rfl (by first | exact .inl rfl | exact .inr rfl) rfl ?_
                    refine rk rfl rfl rfl (by first | exact .inl rfl | exact .inr rfl) rfl ?_
                    refine rk rfl rfl rfl (by first | exact .inl rfl | exact .inr rfl) rfl ?_
                    refine rp rfl w0 rfl (pu_pick_f (r := .d _) rfl rfl) ?_
                    refine ra_nil ?_
                    refine then_n ?_
                    cases h3
                    exact wk [0, 1, 2]
                · skip
                  refine aw_ifB h2 rfl (fun hc h2 => ?_) (fun hc h2 => ?_)
                  · skip
                    refine aw_seq ?_
                    refine aw_regionA (is := [0]) rfl ?_
                    refine rp rfl w0 rfl (pu_assign (r := .d _) rfl) ?_
                    refine ra_nil ?_
                    refine then_n ?_
                    refine aw_ret ?_
                    refine block_r ?_
                    refine then_r ?_
                    cases h2
                    refine loop_r ⟨_, rfl, fun e => ?_⟩
                    subst e
                    refine block_r ?_
                    replace h0 := orE_s h0
                    refine then_r ?_
                    cases h0
                    exact ret0_ (rs := [.tmp 2]) rfl
                  · skip
                    refine aw_skip ?_
                    refine block_n ?_
                    refine then_n ?_
                    refine aw_regionA (is := [0, 1]) rfl ?_
                    refine rp rfl w0 rfl (pw_add rfl rfl) ?_
                    refine rp rfl w0 rfl (pu_move (r := .d _) rfl) ?_
                    refine ra_nil ?_
                    refine loop_n ?_
                    cases h2
                    refine ⟨_, rfl, ?_⟩
                    exact wk [0, 1, 2]
          · skip
            refine aw_exit ?_
            refine then_e ?_
            cases h2
            refine loop_x ⟨_, rfl, fun e => ?_⟩
            subst e
            refine block_hit ?_
            refine then_n ?_
            refine ⟨_, rfl, ?_⟩
            exact wk [0, 1, 2]
      · skip
        rintro v13 rfl
        replace h0 := orE_f h0
        refine aw_seq ?_
        refine aw_regionA (is := [0]) rfl ?_
        refine rp rfl w0 rfl (pu_assign (r := .d _) rfl) ?_
        refine ra_nil ?_
        refine then_n ?_
        refine aw_ret ?_
        cases h0
        exact ret0_ (rs := [.tmp 2]) rfl

theorem i_label_c {p0 : Spot_} {p1 : ByteArray} {r : Shape_} (h0 : i_label_m p0 p1 = some r) : FnC Try.prog 89 [] [.agg [.d (.v (.int .i64 p0.X)), .d (.v (.int .i64 p0.Y))], .d (.v (.string p1))] [] (.agg [.d (.v (.int .i64 r.Kind)), .d (.v (.int .i64 r.A.X)), .d (.v (.int .i64 r.A.Y)), .d (.v (.int .i64 r.B.X)), .d (.v (.int .i64 r.B.Y)), .d (.v (.int .i64 r.R)), .d (.v (.string r.Name))]) := by
  refine fnc_intro (T := tt) (N := 8) tok Try.func89 rfl rfl (by kernel_rfl) rfl rfl ?_
  unfold i_label_m at h0
  refine aw_seq ?_
  refine aw_regionA (is := [0, 1]) rfl ?_
  refine rs rfl w0 rfl (st_box 3 (cs := _ :: _) rfl rfl rfl) ?_
  refine rs rfl w0 rfl (st_alloc 4 (cs := [.d (.v (.int .i64 0)), .d (.v (.int .i64 0)), .d (.v (.int .i64 0)), .d (.v (.int .i64 0)), .d (.v (.int .i64 0)), .d (.v (.int .i64 0)), .d (.v (.string (⟨#[]⟩ : ByteArray)))]) tok rfl rfl rfl) ?_
  refine ra_nil ?_
  refine then_n ?_
  refine aw_seq ?_
  refine aw_regionA (is := [0, 1, 2, 3]) rfl ?_
  refine rl rfl w0 rfl (bx_ldN tok rfl rfl rfl rfl) ?_
  refine rp rfl w0 rfl (pu_move (r := .d _) rfl) ?_
  refine rp rfl w0 rfl (pu_build (C0 := [.d (.v (.int .i64 0)), .d (.v (.int .i64 0)), .d (.v (.int .i64 0)), .d (.v (.int .i64 0)), .d (.v (.int .i64 0)), .d (.v (.int .i64 0)), .d (.v (.string (⟨#[]⟩ : ByteArray)))]) tok rfl rfl (by repeat (first | exact Plc.nil | apply Plc.cons rfl)) rfl (by repeat (first | exact Bld.nil _ | apply Bld.cons (cs := [.d _]) rfl rfl rfl rfl (by repeat (first | exact Spl.z _ | apply Spl.t | apply Spl.d)) | apply Bld.cons (cs := [.own _ _ _]) rfl rfl rfl rfl (by repeat (first | exact Spl.z _ | apply Spl.t | apply Spl.d)) | apply Bld.cons (cs := [.ptr _ _ _ _ _]) rfl rfl rfl rfl (by repeat (first | exact Spl.z _ | apply Spl.t | apply Spl.d)) | apply Bld.cons (cs := [.fn _ _]) rfl rfl rfl rfl (by repeat (first | exact Spl.z _ | apply Spl.t | apply Spl.d)) | apply Bld.cons (cs := _ :: _) rfl rfl rfl rfl (by repeat (first | exact Spl.z _ | apply Spl.t | apply Spl.d))))) ?_
  refine rw0 rfl w0 (bx_st (cs := _ :: _) tok rfl rfl rfl rfl rfl rfl rfl) ?_
  refine ra_nil ?_
  refine then_n ?_
  refine aw_ret ?_
  cases h0
  exact ret0_ (rs := [.cell 4 80]) rfl

theorem i_validShape_c {p0 : Shape_} {r : Bool} (h0 : i_validShape_m p0 = some r) : FnC Try.prog 64 [] [.agg [.d (.v (.int .i64 p0.Kind)), .d (.v (.int .i64 p0.A.X)), .d (.v (.int .i64 p0.A.Y)), .d (.v (.int .i64 p0.B.X)), .d (.v (.int .i64 p0.B.Y)), .d (.v (.int .i64 p0.R)), .d (.v (.string p0.Name))]] [] (.d (.v (.bool r))) := by
  refine fnc_intro (T := tt) (N := 51) tok Try.func64 rfl rfl (by kernel_rfl) rfl rfl ?_
  unfold i_validShape_m at h0
  refine aw_seq ?_
  refine aw_regionA (is := [0, 1]) rfl ?_
  refine rs rfl w0 rfl (st_box 3 (cs := _ :: _) rfl rfl rfl) ?_
  refine rp rfl w0 rfl (pu_assign (r := .d _) rfl) ?_
  refine ra_nil ?_
  refine then_n ?_
  refine aw_seq ?_
  refine aw_seq ?_
  refine aw_regionA (is := [0, 1, 2, 3]) rfl ?_
  refine rl rfl w0 rfl (bx_fa tok rfl rfl rfl rfl rfl rfl rfl) ?_
  refine rl rfl w0 rfl (bx_ldN tok rfl rfl rfl rfl) ?_
  obtain ⟨v1, hv1, h0⟩ := bnd h0
  refine rs rfl w0 rfl (c_call 4 (i_validSpot_c hv1) rfl rfl rfl) ?_
  refine rp rfl w0 rfl (pu_not rfl) ?_
  refine ra_nil ?_
  refine then_n ?_
  refine aw_ifB h0 rfl (fun hc h0 => ?_) (fun hc h0 => ?_)
  · skip
    refine aw_seq ?_
    refine aw_regionA (is := [0]) rfl ?_
    refine rp rfl w0 rfl (pu_assign (r := .d _) rfl) ?_
    refine ra_nil ?_
    refine then_n ?_
    refine aw_ret ?_
    refine then_r ?_
    cases h0
    exact ret0_ (rs := [.tmp 2]) rfl
  · skip
    refine aw_skip ?_
    refine then_n ?_
    refine aw_seq ?_
    refine aw_seq ?_
    refine aw_regionA (is := [0, 1]) rfl ?_
    refine rl rfl w0 rfl (bx_fa tok rfl rfl rfl rfl rfl rfl rfl) ?_
    refine rl rfl w0 rfl (bx_ld1 tok rfl rfl rfl rfl rfl) ?_
    refine ra_nil ?_
    refine then_n ?_
    refine aw_block ?_
    refine aw_seq ?_
    refine aw_regionA (is := [0, 1]) rfl ?_
    refine rp rfl w0 rfl (pu_eql rfl rfl) ?_
    refine rp rfl w0 rfl (pu_assign (r := .d _) rfl) ?_
    refine ra_nil ?_
    refine then_n ?_
    refine aw_if h0 rfl (fun hc h0 => ?_) (fun hc h0 => ?_)
    · skip
      refine aw_seq ?_
      refine aw_region_draw (is := [0, 1, 2, 3, 4, 5, 6, 7, 8, 9, 10, 11, 12]) follows ?_
      refine rt_lk rfl w0 rfl (bx_fa tok rfl rfl rfl rfl rfl rfl rfl) rfl rfl rfl ?_
      refine rt_lk rfl w0 rfl (bx_ldN tok rfl rfl rfl rfl) rfl rfl rfl ?_
      obtain ⟨v2, hv2, h0⟩ := bnd h0
      refine rt_c rfl w0 rfl (b_call 4 (i_validSpot_c hv2) rfl rfl rfl) ?_
      refine rt_p rfl w0 rfl (pu_move (r := .d _) rfl) ?_
      refine rt_ifB (u := 14) h0 rfl (fun hc h0 => ?_) (fun hc h0 => ?_)
      · skip
        refine rt_lk rfl (w1 rfl rfl rfl) rfl (bx_ldN tok rfl rfl rfl rfl) rfl rfl rfl ?_
        refine rt_lk rfl (w1 rfl rfl rfl) rfl (bx_fa tok rfl rfl rfl rfl rfl rfl rfl) rfl rfl rfl ?_
        refine rt_lk rfl (w1 rfl rfl rfl) rfl (bx_ldN tok rfl rfl rfl rfl) rfl rfl rfl ?_
        refine rt_lk rfl (w1 rfl rfl rfl) rfl (bx_fa tok rfl rfl rfl rfl rfl rfl rfl) rfl rfl rfl ?_
        refine rt_lk rfl (w1 rfl rfl rfl) rfl (bx_ldN tok rfl rfl rfl rfl) rfl rfl rfl ?_
        obtain ⟨v3, hv3, h0⟩ := bnd h0
        refine rt_c rfl (w1 rfl rfl rfl) rfl (b_call 4 (i_line_c hv3) rfl rfl rfl) ?_
        refine rt_p rfl (w1 rfl rfl rfl) rfl (ps_eql_Shape_ (a := p0) (b := v3) rfl rfl) ?_
        refine rt_p rfl w0 rfl (pu_pick_t (r := .d _) rfl rfl) ?_
        refine rt_p rfl w0 rfl (pu_assign (r := .d _) rfl) ?_
        refine rt_nil ?_
        refine ⟨by kernel_rfl, ?_⟩
        refine then_n ?_
        refine aw_ret ?_
        refine block_r ?_
        refine then_r ?_
        cases h0
        exact ret0_ (rs := [.tmp 2]) rfl
      · skip
        refine rt_skip rfl rfl rfl (by first | exact .inl rfl | exact .inr rfl) rfl ?_
        refine rt_skip rfl rfl rfl (by first | exact .inl rfl | exact .inr rfl) rfl ?_
        refine rt_skip rfl rfl rfl (by first | exact .inl rfl | exact .inr rfl) rfl ?_
        refine rt_skip rfl rfl rfl (by first | exact .inl rfl | exact .inr rfl) rfl ?_
        refine rt_skip rfl rfl rfl (by first | exact .inl rfl | exact .inr rfl) rfl ?_
        refine rt_skip rfl rfl rfl (by first | exact .inl rfl | exact .inr rfl) rfl ?_
        refine rt_skip rfl rfl rfl (by first | exact .inl rfl | exact .inr rfl) rfl ?_
        refine rt_p rfl w0 rfl (pu_pick_f (r := .d _) rfl rfl) ?_
        refine rt_p rfl w0 rfl (pu_assign (r := .d _) rfl) ?_
        refine rt_nil ?_
        refine ⟨by kernel_rfl, ?_⟩
        refine then_n ?_
        refine aw_ret ?_
        refine block_r ?_
        refine then_r ?_
        cases h0
        exact ret0_ (rs := [.tmp 2]) rfl
    · skip
      refine aw_seq ?_
      refine aw_regionA (is := [0, 1]) rfl ?_
      refine rp rfl w0 rfl (pu_eql rfl rfl) ?_
      refine rp rfl w0 rfl (pu_assign (r := .d _) rfl) ?_
      refine ra_nil ?_
      refine then_n ?_
      refine aw_if h0 rfl (fun hc h0 => ?_) (fun hc h0 => ?_)
      · skip
        refine aw_seq ?_
        refine aw_region_draw (is := [0, 1, 2, 3, 4, 5, 6, 7, 8, 9, 10, 11, 12]) follows ?_
        refine rt_lk rfl w0 rfl (bx_fa tok rfl rfl rfl rfl rfl rfl rfl) rfl rfl rfl ?_
        refine rt_lk rfl w0 rfl (bx_ld1 tok rfl rfl rfl rfl rfl) rfl rfl rfl ?_
        obtain ⟨v4, hv4, h0⟩ := bnd h0
        refine rt_c rfl w0 rfl (b_call 4 (i_within_c hv4) rfl rfl rfl) ?_
        refine rt_p rfl w0 rfl (pu_move (r := .d _) rfl) ?_
        refine rt_ifB (u := 28) h0 rfl (fun hc h0 => ?_) (fun hc h0 => ?_)
        · skip
          refine rt_lk rfl (w1 rfl rfl rfl) rfl (bx_ldN tok rfl rfl rfl rfl) rfl rfl rfl ?_
          refine rt_lk rfl (w1 rfl rfl rfl) rfl (bx_fa tok rfl rfl rfl rfl rfl rfl rfl) rfl rfl rfl ?_
          refine rt_lk rfl (w1 rfl rfl rfl) rfl (bx_ldN tok rfl rfl rfl rfl) rfl rfl rfl ?_
          refine rt_lk rfl (w1 rfl rfl rfl) rfl (bx_fa tok rfl rfl rfl rfl rfl rfl rfl) rfl rfl rfl ?_
          refine rt_lk rfl (w1 rfl rfl rfl) rfl (bx_ld1 tok rfl rfl rfl rfl rfl) rfl rfl rfl ?_
          obtain ⟨v5, hv5, h0⟩ := bnd h0
          refine rt_c rfl (w1 rfl rfl rfl) rfl (b_call 4 (i_circle_c hv5) rfl rfl rfl) ?_
          refine rt_p rfl (w1 rfl rfl rfl) rfl (ps_eql_Shape_ (a := p0) (b := v5) rfl rfl) ?_
          refine rt_p rfl w0 rfl (pu_pick_t (r := .d _) rfl rfl) ?_
          refine rt_p rfl w0 rfl (pu_assign (r := .d _) rfl) ?_
          refine rt_nil ?_
          refine ⟨by kernel_rfl, ?_⟩
          refine then_n ?_
          refine aw_ret ?_
          refine block_r ?_
          refine then_r ?_
          cases h0
          exact ret0_ (rs := [.tmp 2]) rfl
        · skip
          refine rt_skip rfl rfl rfl (by first | exact .inl rfl | exact .inr rfl) rfl ?_
          refine rt_skip rfl rfl rfl (by first | exact .inl rfl | exact .inr rfl) rfl ?_
          refine rt_skip rfl rfl rfl (by first | exact .inl rfl | exact .inr rfl) rfl ?_
          refine rt_skip rfl rfl rfl (by first | exact .inl rfl | exact .inr rfl) rfl ?_
          refine rt_skip rfl rfl rfl (by first | exact .inl rfl | exact .inr rfl) rfl ?_
          refine rt_skip rfl rfl rfl (by first | exact .inl rfl | exact .inr rfl) rfl ?_
          refine rt_skip rfl rfl rfl (by first | exact .inl rfl | exact .inr rfl) rfl ?_
          refine rt_p rfl w0 rfl (pu_pick_f (r := .d _) rfl rfl) ?_
          refine rt_p rfl w0 rfl (pu_assign (r := .d _) rfl) ?_
          refine rt_nil ?_
          refine ⟨by kernel_rfl, ?_⟩
          refine then_n ?_
          refine aw_ret ?_
          refine block_r ?_
          refine then_r ?_
          cases h0
          exact ret0_ (rs := [.tmp 2]) rfl
      · skip
        refine aw_seq ?_
        refine aw_regionA (is := [0, 1]) rfl ?_
        refine rp rfl w0 rfl (pu_eql rfl rfl) ?_
        refine rp rfl w0 rfl (pu_assign (r := .d _) rfl) ?_
        refine ra_nil ?_
        refine then_n ?_
        refine aw_if h0 rfl (fun hc h0 => ?_) (fun hc h0 => ?_)
        · skip
          refine aw_seq ?_
          refine aw_region_draw (is := [0, 1, 2, 3, 4, 5, 6, 7, 8, 9, 10, 11, 12]) follows ?_
          refine rt_lk rfl w0 rfl (bx_fa tok rfl rfl rfl rfl rfl rfl rfl) rfl rfl rfl ?_
          refine rt_lk rfl w0 rfl (bx_ld1 tok rfl rfl rfl rfl rfl) rfl rfl rfl ?_
          obtain ⟨v6, hv6, h0⟩ := bnd h0
          refine rt_c rfl w0 rfl (b_call 4 (i_IsName_c hv6) rfl rfl rfl) ?_
          refine rt_p rfl w0 rfl (pu_move (r := .d _) rfl) ?_
          refine rt_ifB (u := 42) h0 rfl (fun hc h0 => ?_) (fun hc h0 => ?_)
          · skip
            refine rt_lk rfl (w1 rfl rfl rfl) rfl (bx_ldN tok rfl rfl rfl rfl) rfl rfl rfl ?_
            refine rt_lk rfl (w1 rfl rfl rfl) rfl (bx_fa tok rfl rfl rfl rfl rfl rfl rfl) rfl rfl rfl ?_
            refine rt_lk rfl (w1 rfl rfl rfl) rfl (bx_ldN tok rfl rfl rfl rfl) rfl rfl rfl ?_
            refine rt_lk rfl (w1 rfl rfl rfl) rfl (bx_fa tok rfl rfl rfl rfl rfl rfl rfl) rfl rfl rfl ?_
            refine rt_lk rfl (w1 rfl rfl rfl) rfl (bx_ld1 tok rfl rfl rfl rfl rfl) rfl rfl rfl ?_
            obtain ⟨v7, hv7, h0⟩ := bnd h0
            refine rt_c rfl (w1 rfl rfl rfl) rfl (b_call 4 (i_label_c hv7) rfl rfl rfl) ?_
            refine rt_p rfl (w1 rfl rfl rfl) rfl (ps_eql_Shape_ (a := p0) (b := v7) rfl rfl) ?_
            refine rt_p rfl w0 rfl (pu_pick_t (r := .d _) rfl rfl) ?_
            refine rt_p rfl w0 rfl (pu_assign (r := .d _) rfl) ?_
            refine rt_nil ?_
            refine ⟨by kernel_rfl, ?_⟩
            refine then_n ?_
            refine aw_ret ?_
            refine block_r ?_
            refine then_r ?_
            cases h0
            exact ret0_ (rs := [.tmp 2]) rfl
          · skip
            refine rt_skip rfl rfl rfl (by first | exact .inl rfl | exact .inr rfl) rfl ?_
            refine rt_skip rfl rfl rfl (by first | exact .inl rfl | exact .inr rfl) rfl ?_
            refine rt_skip rfl rfl rfl (by first | exact .inl rfl | exact .inr rfl) rfl ?_
            refine rt_skip rfl rfl rfl (by first | exact .inl rfl | exact .inr rfl) rfl ?_
            refine rt_skip rfl rfl rfl (by first | exact .inl rfl | exact .inr rfl) rfl ?_
            refine rt_skip rfl rfl rfl (by first | exact .inl rfl | exact .inr rfl) rfl ?_
            refine rt_skip rfl rfl rfl (by first | exact .inl rfl | exact .inr rfl) rfl ?_
            refine rt_p rfl w0 rfl (pu_pick_f (r := .d _) rfl rfl) ?_
            refine rt_p rfl w0 rfl (pu_assign (r := .d _) rfl) ?_
            refine rt_nil ?_
            refine ⟨by kernel_rfl, ?_⟩
            refine then_n ?_
            refine aw_ret ?_
            refine block_r ?_
            refine then_r ?_
            cases h0
            exact ret0_ (rs := [.tmp 2]) rfl
        · skip
          refine aw_skip ?_
          refine block_n ?_
          refine then_n ?_
          refine aw_seq ?_
          refine aw_regionA (is := [0]) rfl ?_
          refine rp rfl w0 rfl (pu_assign (r := .d _) rfl) ?_
          refine ra_nil ?_
          refine then_n ?_
          refine aw_ret ?_
          cases h0
          exact ret0_ (rs := [.tmp 2]) rfl

theorem i_ValidDrawing_1_c {p0 : Shape_} {r : Bool} (h0 : i_ValidDrawing_1_m p0 = some r) : FnC Try.prog 63 [] [.agg [.d (.v (.int .i64 p0.Kind)), .d (.v (.int .i64 p0.A.X)), .d (.v (.int .i64 p0.A.Y)), .d (.v (.int .i64 p0.B.X)), .d (.v (.int .i64 p0.B.Y)), .d (.v (.int .i64 p0.R)), .d (.v (.string p0.Name))]] [] (.d (.v (.bool r))) := by
  refine fnc_intro (T := tt) (N := 6) tok Try.func63 rfl rfl (by kernel_rfl) rfl rfl ?_
  unfold i_ValidDrawing_1_m at h0
  refine aw_seq ?_
  refine aw_regionA (is := [0, 1]) rfl ?_
  refine rs rfl w0 rfl (st_box 3 (cs := _ :: _) rfl rfl rfl) ?_
  refine rp rfl w0 rfl (pu_assign (r := .d _) rfl) ?_
  refine ra_nil ?_
  refine then_n ?_
  refine aw_seq ?_
  refine aw_regionA (is := [0, 1, 2, 3]) rfl ?_
  refine rl rfl w0 rfl (bx_ldN tok rfl rfl rfl rfl) ?_
  obtain ⟨v1, hv1, h0⟩ := bnd h0
  refine rs rfl w0 rfl (c_call 4 (i_validShape_c hv1) rfl rfl rfl) ?_
  refine rp rfl w0 rfl (pu_not rfl) ?_
  refine rp rfl w0 rfl (pu_assign (r := .d _) rfl) ?_
  refine ra_nil ?_
  refine then_n ?_
  refine aw_ret ?_
  cases h0
  exact ret0_ (rs := [.tmp 2]) rfl

theorem slices_IndexFunc_LShape_Shape_i_ValidDrawing_1_c {p0 : List Shape_} {r : Int} (h0 : slices_IndexFunc_LShape_Shape_i_ValidDrawing_1_m p0 = some r) : FnC Try.prog 102 [] [.d (.sl (List.map cShape_ p0)), .fn 63 []] [] (.d (.v (.int .i64 r))) := by
  refine fnc_intro (T := tt) (N := 19) tok Try.func102 rfl rfl (by kernel_rfl) rfl rfl ?_
  unfold slices_IndexFunc_LShape_Shape_i_ValidDrawing_1_m at h0
  refine aw_seq ?_
  refine aw_regionA (is := [0]) rfl ?_
  refine rp rfl w0 rfl (pu_assign (r := .d _) rfl) ?_
  refine ra_nil ?_
  refine then_n ?_
  obtain ⟨v7x, h1, h0⟩ := bnd h0
  refine aw_cutE v7x (fun v7 => ⟨(fun _ => .dead), lks [.no, .no, .no]⟩) ?_ ?_
  · skip
    refine aw_seq ?_
    refine aw_regionA (is := [0, 1, 2]) rfl ?_
    refine rp rfl w0 rfl (pu_move (r := .d _) rfl) ?_
    refine rp rfl w0 rfl (pu_len_map tok rfl rfl rfl) ?_
    refine rp rfl w0 rfl (pu_move (r := .d _) rfl) ?_
    refine ra_nil ?_
    refine then_n ?_
    refine aw_block ?_
    refine aw_loopM (fun s4 => ⟨updA (updA (updA (updA ((fun _ => .dead)) 0 (.d (.sl (List.map cShape_ p0)))) 1 (.fn 63 [])) 7 (.d (.v (.int .i64 (p0.length : Int))))) 8 (.d (.v (.int .i64 s4))), lks [.no, .no, .no]⟩) h1 ?_ (fun s4 y h2 => ?_)
    · skip
      exact wk [0, 1, 2]
    · skip
      refine aw_seq ?_
      refine aw_regionA (is := [0]) rfl ?_
      refine rp rfl w0 rfl (pu_lss rfl rfl) ?_
      refine ra_nil ?_
      refine then_n ?_
      refine aw_seq ?_
      refine aw_if h2 rfl (fun hc h2 => ?_) (fun hc h2 => ?_)
      · skip
        refine aw_skip ?_
        refine then_n ?_
        refine aw_seq ?_
        refine aw_block ?_
        refine aw_seq ?_
        refine aw_regionA (is := [0, 1]) rfl ?_
        refine rp rfl w0 rfl (pu_move (r := .d _) rfl) ?_
        refine rp rfl w0 rfl (pu_assign (r := .d _) rfl) ?_
        refine ra_nil ?_
        refine then_n ?_
        refine aw_seq ?_
        refine aw_regionA (is := [0, 1, 2, 3, 4, 5]) rfl ?_
        refine rp rfl w0 rfl (pu_move (r := .fn _ _) rfl) ?_
        refine rp rfl w0 rfl (pu_move (r := .d _) rfl) ?_
        refine rp rfl w0 rfl (pu_move (r := .d _) rfl) ?_
        obtain ⟨v5, hv5, h2⟩ := bnd h2
        refine rp rfl w0 rfl (sl_ix tok hv5 rfl rfl rfl rfl rfl rfl) ?_
        refine rp rfl w0 rfl (pu_load_refN tok rfl rfl rfl (by repeat (first | exact SegD.z _ | apply SegD.t))) ?_
        obtain ⟨v6, hv6, h2⟩ := bnd h2
        refine rs rfl w0 rfl (c_call 3 (i_ValidDrawing_1_c hv6) rfl rfl rfl) ?_
        refine ra_nil ?_
        refine then_n ?_
        refine aw_ifB h2 rfl (fun hc h2 => ?_) (fun hc h2 => ?_)
        · skip
          refine aw_seq ?_
          refine aw_regionA (is := [0, 1]) rfl ?_
          refine rp rfl w0 rfl (pu_move (r := .d _) rfl) ?_
          refine rp rfl w0 rfl (pu_assign (r := .d _) rfl) ?_
          refine ra_nil ?_
          refine then_n ?_
          refine aw_ret ?_
          refine block_r ?_
          refine then_r ?_
          cases h2
          refine loop_r ⟨_, rfl, fun e => ?_⟩
          subst e
          refine block_r ?_
          replace h0 := orE_s h0
          refine then_r ?_
          cases h0
          exact ret0_ (rs := [.tmp 4]) rfl
        · skip
          refine aw_skip ?_
          refine block_n ?_
          refine then_n ?_
          refine aw_regionA (is := [0, 1]) rfl ?_
          refine rp rfl w0 rfl (pw_add rfl rfl) ?_
          refine rp rfl w0 rfl (pu_move (r := .d _) rfl) ?_
          refine ra_nil ?_
          refine loop_n ?_
          cases h2
          refine ⟨_, rfl, ?_⟩
          exact wk [0, 1, 2]
      · skip
        refine aw_exit ?_
        refine then_e ?_
        cases h2
        refine loop_x ⟨_, rfl, fun e => ?_⟩
        subst e
        refine block_hit ?_
        refine then_n ?_
        refine ⟨_, rfl, ?_⟩
        exact wk [0, 1, 2]
  · skip
    rintro v7 rfl
    replace h0 := orE_f h0
    refine aw_seq ?_
    refine aw_regionA (is := [0]) rfl ?_
    refine rp rfl w0 rfl (pu_assign (r := .d _) rfl) ?_
    refine ra_nil ?_
    refine then_n ?_
    refine aw_ret ?_
    cases h0
    exact ret0_ (rs := [.tmp 4]) rfl

theorem slices_ContainsFunc_LShape_Shape_i_ValidDrawing_1_c {p0 : List Shape_} {r : Bool} (h0 : slices_ContainsFunc_LShape_Shape_i_ValidDrawing_1_m p0 = some r) : FnC Try.prog 62 [] [.d (.sl (List.map cShape_ p0)), .fn 63 []] [] (.d (.v (.bool r))) := by
  refine fnc_intro (T := tt) (N := 9) tok Try.func62 rfl rfl (by kernel_rfl) rfl rfl ?_
  unfold slices_ContainsFunc_LShape_Shape_i_ValidDrawing_1_m at h0
  refine aw_seq ?_
  refine aw_regionA (is := [0]) rfl ?_
  refine rp rfl w0 rfl (pu_assign (r := .d _) rfl) ?_
  refine ra_nil ?_
  refine then_n ?_
  refine aw_seq ?_
  refine aw_regionA (is := [0, 1, 2, 3, 4]) rfl ?_
  refine rp rfl w0 rfl (pu_move (r := .d _) rfl) ?_
  refine rp rfl w0 rfl (pu_move (r := .fn _ _) rfl) ?_
  obtain ⟨v1, hv1, h0⟩ := bnd h0
  refine rs rfl w0 rfl (c_call 3 (slices_IndexFunc_LShape_Shape_i_ValidDrawing_1_c hv1) rfl rfl rfl) ?_
  refine rp rfl w0 rfl (pu_geq rfl rfl) ?_
  refine rp rfl w0 rfl (pu_assign (r := .d _) rfl) ?_
  refine ra_nil ?_
  refine then_n ?_
  refine aw_ret ?_
  cases h0
  exact ret0_ (rs := [.tmp 4]) rfl

theorem i_ValidDrawing_c {p0 : Drawing_} {r : Bool} (h0 : i_ValidDrawing_m p0 = some r) : FnC Try.prog 24 [] [.agg [.d (.sl (List.map cShape_ p0.Shapes))]] [] (.d (.v (.bool r))) := by
  refine fnc_intro (T := tt) (N := 13) tok Try.func24 rfl rfl (by kernel_rfl) rfl rfl ?_
  unfold i_ValidDrawing_m at h0
  refine aw_seq ?_
  refine aw_regionA (is := [0, 1]) rfl ?_
  refine rs rfl w0 rfl (st_box 3 (cs := _ :: _) rfl rfl rfl) ?_
  refine rp rfl w0 rfl (pu_assign (r := .d _) rfl) ?_
  refine ra_nil ?_
  refine then_n ?_
  refine aw_seq ?_
  refine aw_regionA (is := [0, 1, 2, 3, 4, 5, 6, 7, 8, 9, 10]) rfl ?_
  refine rl rfl w0 rfl (bx_fa tok rfl rfl rfl rfl rfl rfl rfl) ?_
  refine rl rfl w0 rfl (bx_ld1 tok rfl rfl rfl rfl rfl) ?_
  refine rp rfl w0 rfl (pu_len_map tok rfl rfl rfl) ?_
  refine rp rfl w0 rfl (pu_leq rfl rfl) ?_
  refine rp rfl w0 rfl (pu_move (r := .d _) rfl) ?_
  refine ra_if (u := 7) h0 rfl (fun hc h0 => ?_) (fun hc h0 => ?_)
  · skip
    refine rl rfl (w1 rfl rfl rfl) rfl (bx_fa tok rfl rfl rfl rfl rfl rfl rfl) ?_
    refine rl rfl (w1 rfl rfl rfl) rfl (bx_ld1 tok rfl rfl rfl rfl rfl) ?_
    obtain ⟨v1, hv1, h0⟩ := bnd h0
    refine rs rfl (w1 rfl rfl rfl) rfl (c_call 4 (slices_ContainsFunc_LShape_Shape_i_ValidDrawing_1_c hv1) rfl rfl rfl) ?_
    refine rp rfl (w1 rfl rfl rfl) rfl (pu_not rfl) ?_
    refine rp rfl w0 rfl (pu_pick_t (r := .d _) rfl rfl) ?_
    refine rp rfl w0 rfl (pu_assign (r := .d _) rfl) ?_
    refine ra_nil ?_
    refine then_n ?_
    refine aw_ret ?_
    cases h0
    exact ret0_ (rs := [.tmp 2]) rfl
  · skip
    refine rk rfl rfl rfl (by first | exact .inl rfl | exact .inr rfl) rfl ?_
    refine rk rfl rfl rfl (by first | exact .inl rfl | exact .inr rfl) rfl ?_
    refine rk rfl rfl rfl (by first | exact .inl rfl | exact .inr rfl) rfl ?_
    refine rk rfl rfl rfl (by first | exact .inl rfl | exact .inr rfl) rfl ?_
    refine rp rfl w0 rfl (pu_pick_f (r := .d _) rfl rfl) ?_
    refine rp rfl w0 rfl (pu_assign (r := .d _) rfl) ?_
    refine ra_nil ?_
    refine then_n ?_
    refine aw_ret ?_
    cases h0
    exact ret0_ (rs := [.tmp 2]) rfl

theorem slices_Grow_LShape_Shape_n_c {p1 : Int} {r : List Shape_} (h0 : slices_Grow_LShape_Shape_n_m p1 = some r) : FnC Try.prog 110 [] [.d (.v (.slice none 0 0)), .d (.v (.int .i64 p1))] [.live [⟨80, 7, .data (List.map cShape_ r)⟩]] (.own 0 0 r.length) := by
  refine fnc_intro (T := tt) (N := 27) tok Try.func110 rfl rfl (by kernel_rfl) rfl rfl ?_
  unfold slices_Grow_LShape_Shape_n_m at h0
  refine aw_seq ?_
  refine aw_regionA (is := [0]) rfl ?_
  refine rp rfl w0 rfl (pu_assign (r := .d _) rfl) ?_
  refine ra_nil ?_
  refine then_n ?_
  obtain ⟨v1, h1, h0⟩ := bnd h0
  refine aw_cut ⟨updA (updA ((fun _ => .dead)) 0 (.d (.v (.slice none 0 0)))) 1 (.d (.v (.int .i64 p1))), lks [.no, .no, .no]⟩ ?_ ?_
  · skip
    refine aw_seq ?_
    refine aw_regionA (is := [0, 1]) rfl ?_
    refine rp rfl w0 rfl (pu_move (r := .d _) rfl) ?_
    refine rp rfl w0 rfl (pu_lss rfl rfl) ?_
    refine ra_nil ?_
    refine then_n ?_
    refine aw_if h1 rfl (fun hc h1 => ?_) (fun hc h1 => ?_)
    · skip
      cases h1
    · skip
      refine aw_skip ?_
      refine then_n ?_
      cases h1
      exact wk [0, 1, 2]
  · skip
    obtain ⟨v4, h1, h0⟩ := bnd h0
    refine aw_cut ⟨updA ((fun _ => .dead)) 0 (.own 3 0 (v4).length), lks [.no, .no, .no, .live [⟨80, 7, .data (List.map cShape_ v4)⟩]]⟩ ?_ ?_
    · skip
      refine aw_seq ?_
      refine aw_regionA (is := [0, 1, 2, 3, 4, 5, 6, 7]) rfl ?_
      refine rp rfl w0 rfl (pu_move (r := .d _) rfl) ?_
      refine rp rfl w0 rfl (pu_move (r := .d _) rfl) ?_
      refine rp rfl w0 rfl (pu_cap_nil tok rfl rfl rfl) ?_
      refine rp rfl w0 rfl (pu_move (r := .d _) rfl) ?_
      refine rp rfl w0 rfl (pu_len_nil tok rfl rfl rfl) ?_
      refine rp rfl w0 rfl (pw_sub rfl rfl) ?_
      refine rp rfl w0 rfl (pw_sub rfl rfl) ?_
      refine rp rfl w0 rfl (pu_assign (r := .d _) rfl) ?_
      refine ra_nil ?_
      refine then_n ?_
      refine aw_seq ?_
      refine aw_regionA (is := [0, 1]) rfl ?_
      refine rp rfl w0 rfl (pu_move (r := .d _) rfl) ?_
      refine rp rfl w0 rfl (pu_gtr rfl rfl) ?_
      refine ra_nil ?_
      refine then_n ?_
      refine aw_if h1 rfl (fun hc h1 => ?_) (fun hc h1 => ?_)
      · skip
        refine aw_regionA (is := [0, 1, 2, 3, 4, 5, 6, 7, 8, 9]) rfl ?_
        refine rp rfl w0 rfl (pu_move (r := .d _) rfl) ?_
        refine rp rfl w0 rfl (pu_move (r := .d _) rfl) ?_
        refine rp rfl w0 rfl (pu_cap_nil tok rfl rfl rfl) ?_
        refine rp rfl w0 rfl (pu_sub_nil tok rfl rfl rfl rfl rfl) ?_
        refine rp rfl w0 rfl (pu_move (r := .d _) rfl) ?_
        obtain ⟨hq2, h1⟩ := chk_e h1
        refine rs rfl w0 rfl (ap_cnt 3 tok (c := cShape_) (⟨0, (⟨0, 0⟩ : Spot_), (⟨0, 0⟩ : Spot_), 0, (⟨#[]⟩ : ByteArray)⟩ : Shape_) hq2 rfl rfl rfl rfl rfl rfl rfl rfl rfl rfl rfl rfl rfl rfl rfl) ?_
        refine rp rfl w0 rfl (pu_move (r := .d _) rfl) ?_
        refine rp rfl w0 rfl (pu_len_nil tok rfl rfl rfl) ?_
        obtain ⟨hq3, h1⟩ := chk_e h1
        refine rw1 rfl w0 rfl (ow_sub 4 tok hq3 rfl rfl rfl rfl rfl rfl rfl rfl) ?_
        refine rp rfl w0 rfl (pu_assign (r := .own _ _ _) rfl) ?_
        refine ra_nil ?_
        refine then_n ?_
        cases h1
        exact wk [0, 1, 2, 4]
      · skip
        refine aw_skip ?_
        refine then_n ?_
        cases h1
        refine Weak.trans_ (weak_adopt_t 3 rfl 80 7 (d := 0) rfl) ?_
        exact wk [0, 1, 2, 3]
    · skip
      refine aw_seq ?_
      refine aw_regionA (is := [0, 1]) rfl ?_
      refine rp rfl w0 rfl (pu_move (r := .own _ _ _) rfl) ?_
      refine rp rfl w0 rfl (pu_assign (r := .own _ _ _) rfl) ?_
      refine ra_nil ?_
      refine then_n ?_
      refine aw_ret ?_
      cases h0
      exact retK_ (rs := [.tmp 4]) [3] rfl

theorem slices_Concat_LShape_Shape_c {p0 : List (List Shape_)} {r : List Shape_} (h0 : slices_Concat_LShape_Shape_m p0 = some r) : FnC Try.prog 76 [] [.d (.sl (List.map (cL cShape_) p0))] [.live [⟨80, 7, .data (List.map cShape_ r)⟩]] (.own 0 0 r.length) := by
  refine fnc_intro (T := tt) (N := 36) tok Try.func76 rfl rfl (by kernel_rfl) rfl rfl ?_
  unfold slices_Concat_LShape_Shape_m at h0
  refine aw_seq ?_
  refine aw_regionA (is := [0]) rfl ?_
  refine rp rfl w0 rfl (pu_assign (r := .d _) rfl) ?_
  refine ra_nil ?_
  refine then_n ?_
  refine aw_seq ?_
  refine aw_regionA (is := [0]) rfl ?_
  refine rp rfl w0 rfl (pu_assign (r := .d _) rfl) ?_
  refine ra_nil ?_
  refine then_n ?_
  obtain ⟨v7, h1, h0⟩ := bnd h0
  refine aw_cut ⟨updA (updA ((fun _ => .dead)) 0 (.d (.sl (List.map (cL cShape_) p0)))) 3 (.d (.v (.int .i64 v7))), lks [.no, .no, .no]⟩ ?_ ?_
  · skip
    refine aw_seq ?_
    refine aw_regionA (is := [0, 1, 2]) rfl ?_
    refine rp rfl w0 rfl (pu_move (r := .d _) rfl) ?_
    refine rp rfl w0 rfl (pu_len_map tok rfl rfl rfl) ?_
    refine rp rfl w0 rfl (pu_move (r := .d _) rfl) ?_
    refine ra_nil ?_
    refine then_n ?_
    refine aw_block ?_
    refine aw_loopM (fun s4 => ⟨updA (updA (updA (updA (updA ((fun _ => .dead)) 0 (.d (.sl (List.map (cL cShape_) p0)))) 3 (.d (.v (.int .i64 s4.1)))) 9 (.d (.sl (List.map (cL cShape_) p0)))) 10 (.d (.v (.int .i64 (p0.length : Int))))) 11 (.d (.v (.int .i64 s4.2))), lks [.no, .no, .no]⟩) h1 ?_ (fun s4 y h2 => ?_)
    · skip
      exact wk [0, 1, 2]
    · skip
      refine aw_seq ?_
      refine aw_regionA (is := [0]) rfl ?_
      refine rp rfl w0 rfl (pu_lss rfl rfl) ?_
      refine ra_nil ?_
      refine then_n ?_
      refine aw_seq ?_
      refine aw_if h2 rfl (fun hc h2 => ?_) (fun hc h2 => ?_)
      · skip
        refine aw_skip ?_
        refine then_n ?_
        obtain ⟨v6, h3, h2⟩ := bnd h2
        refine aw_cut ⟨updA (updA (updA (updA (updA ((fun _ => .dead)) 0 (.d (.sl (List.map (cL cShape_) p0)))) 3 (.d (.v (.int .i64 v6)))) 9 (.d (.sl (List.map (cL cShape_) p0)))) 10 (.d (.v (.int .i64 (p0.length : Int))))) 11 (.d (.v (.int .i64 s4.2))), lks [.no, .no, .no]⟩ ?_ ?_
        · skip
          refine aw_block ?_
          refine aw_seq ?_
          refine aw_regionA (is := [0, 1, 2]) rfl ?_
          obtain ⟨v5, hv5, h3⟩ := bnd h3
          refine rp rfl w0 rfl (sl_ix tok hv5 rfl rfl rfl rfl rfl rfl) ?_
          refine rp rfl w0 rfl (pu_load_ref1 tok rfl rfl rfl rfl) ?_
          refine rp rfl w0 rfl (pu_assign (r := .d _) rfl) ?_
          refine ra_nil ?_
          refine then_n ?_
          refine aw_seq ?_
          refine aw_regionA (is := [0, 1, 2, 3, 4]) rfl ?_
          refine rp rfl w0 rfl (pu_move (r := .d _) rfl) ?_
          refine rp rfl w0 rfl (pu_move (r := .d _) rfl) ?_
          refine rp rfl w0 rfl (pu_len_map tok rfl rfl rfl) ?_
          refine rp rfl w0 rfl (pw_add rfl rfl) ?_
          refine rp rfl w0 rfl (pu_assign (r := .d _) rfl) ?_
          refine ra_nil ?_
          refine then_n ?_
          refine aw_seq ?_
          refine aw_regionA (is := [0, 1]) rfl ?_
          refine rp rfl w0 rfl (pu_move (r := .d _) rfl) ?_
          refine rp rfl w0 rfl (pu_lss rfl rfl) ?_
          refine ra_nil ?_
          refine then_n ?_
          refine aw_if h3 rfl (fun hc h3 => ?_) (fun hc h3 => ?_)
          · skip
            cases h3
          · skip
            refine aw_skip ?_
            refine block_n ?_
            refine then_n ?_
            cases h3
            exact wk [0, 1, 2]
        · skip
          refine aw_regionA (is := [0, 1]) rfl ?_
          refine rp rfl w0 rfl (pw_add rfl rfl) ?_
          refine rp rfl w0 rfl (pu_move (r := .d _) rfl) ?_
          refine ra_nil ?_
          refine loop_n ?_
          cases h2
          refine ⟨_, rfl, ?_⟩
          exact wk [0, 1, 2]
      · skip
        refine aw_exit ?_
        refine then_e ?_
        cases h2
        refine loop_x ⟨_, rfl, fun e => ?_⟩
        subst e
        refine block_hit ?_
        refine then_n ?_
        exact wk [0, 1, 2]
  · skip
    refine aw_seq ?_
    refine aw_regionA (is := [0, 1, 2]) rfl ?_
    refine rp rfl w0 rfl (pu_move (r := .d _) rfl) ?_
    obtain ⟨v8, hv8, h0⟩ := bnd h0
    refine rs rfl w0 rfl (c_call 3 (slices_Grow_LShape_Shape_n_c hv8) rfl rfl rfl) ?_
    refine rp rfl w0 rfl (pu_assign (r := .own _ _ _) rfl) ?_
    refine ra_nil ?_
    refine then_n ?_
    obtain ⟨v15, h1, h0⟩ := bnd h0
    refine aw_cut ⟨updA ((fun _ => .dead)) 6 (.own 3 0 (v15).length), lks [.no, .no, .no, .live [⟨80, 7, .data (List.map cShape_ v15)⟩]]⟩ ?_ ?_
    · skip
      refine aw_seq ?_
      refine aw_regionA (is := [0, 1, 2]) rfl ?_
      refine rp rfl w0 rfl (pu_move (r := .d _) rfl) ?_
      refine rp rfl w0 rfl (pu_len_map tok rfl rfl rfl) ?_
      refine rp rfl w0 rfl (pu_move (r := .d _) rfl) ?_
      refine ra_nil ?_
      refine then_n ?_
      refine aw_block ?_
      refine aw_loopM (fun s12 => ⟨updA (updA (updA (updA ((fun _ => .dead)) 6 (.own 3 0 (s12.2).length)) 25 (.d (.sl (List.map (cL cShape_) p0)))) 26 (.d (.v (.int .i64 (p0.length : Int))))) 27 (.d (.v (.int .i64 s12.1))), lks [.no, .no, .no, .live [⟨80, 7, .data (List.map cShape_ s12.2)⟩]]⟩) h1 ?_ (fun s12 y h2 => ?_)
      · skip
        exact wk [0, 1, 2, 3]
      · skip
        refine aw_seq ?_
        refine aw_regionA (is := [0]) rfl ?_
        refine rp rfl w0 rfl (pu_lss rfl rfl) ?_
        refine ra_nil ?_
        refine then_n ?_
        refine aw_seq ?_
        refine aw_if h2 rfl (fun hc h2 => ?_) (fun hc h2 => ?_)
        · skip
          refine aw_skip ?_
          refine then_n ?_
          refine aw_seq ?_
          refine aw_block ?_
          refine aw_seq ?_
          refine aw_regionA (is := [0, 1, 2]) rfl ?_
          obtain ⟨v13, hv13, h2⟩ := bnd h2
          refine rp rfl w0 rfl (sl_ix tok hv13 rfl rfl rfl rfl rfl rfl) ?_
          refine rp rfl w0 rfl (pu_load_ref1 tok rfl rfl rfl rfl) ?_
          refine rp rfl w0 rfl (pu_assign (r := .d _) rfl) ?_
          refine ra_nil ?_
          refine then_n ?_
          refine aw_regionA (is := [0, 1, 2, 3]) rfl ?_
          refine rp rfl w0 rfl (pu_move (r := .own _ _ _) rfl) ?_
          refine rp rfl w0 rfl (pu_move (r := .d _) rfl) ?_
          obtain ⟨hq14, h2⟩ := chk_e h2
          refine rw1 rfl w0 rfl (ap_own tok hq14 rfl rfl rfl rfl rfl rfl rfl rfl rfl rfl rfl rfl (fun _ => rfl)) ?_
          refine rp rfl w0 rfl (pu_assign (r := .own _ _ _) rfl) ?_
          refine ra_nil ?_
          refine block_n ?_
          refine then_n ?_
          refine aw_regionA (is := [0, 1]) rfl ?_
          refine rp rfl w0 rfl (pw_add rfl rfl) ?_
          refine rp rfl w0 rfl (pu_move (r := .d _) rfl) ?_
          refine ra_nil ?_
          refine loop_n ?_
          cases h2
          refine ⟨_, rfl, ?_⟩
          exact wk [0, 1, 2, 3]
        · skip
          refine aw_exit ?_
          refine then_e ?_
          cases h2
          refine loop_x ⟨_, rfl, fun e => ?_⟩
          subst e
          refine block_hit ?_
          refine then_n ?_
          exact wk [0, 1, 2, 3]
    · skip
      refine aw_seq ?_
      refine aw_regionA (is := [0, 1]) rfl ?_
      refine rp rfl w0 rfl (pu_move (r := .own _ _ _) rfl) ?_
      refine rp rfl w0 rfl (pu_assign (r := .own _ _ _) rfl) ?_
      refine ra_nil ?_
      refine then_n ?_
      refine aw_ret ?_
      cases h0
      exact retK_ (rs := [.tmp 2]) [3] rfl

theorem i_JoinDrawings_c {p0 : Drawing_} {p1 : Drawing_} {r : Drawing_ × Int} (h0 : i_JoinDrawings_m p0 p1 = some r) : FnC Try.prog 34 [] [.agg [.d (.sl (List.map cShape_ p0.Shapes))], .agg [.d (.sl (List.map cShape_ p1.Shapes))]] [.live [⟨80, 7, .data (List.map cShape_ r.1.Shapes)⟩]] (.tup [.agg [.own 0 0 r.1.Shapes.length], .d (.v (.int .i64 r.2))]) := by
  refine fnc_intro (T := tt) (N := 31) tok Try.func34 rfl rfl (by kernel_rfl) rfl rfl ?_
  unfold i_JoinDrawings_m at h0
  refine aw_seq ?_
  refine aw_regionA (is := [0, 1, 2, 3]) rfl ?_
  refine rs rfl w0 rfl (st_box 3 (cs := _ :: _) rfl rfl rfl) ?_
  refine rs rfl w0 rfl (st_box 4 (cs := _ :: _) rfl rfl rfl) ?_
  refine rs rfl w0 rfl (st_alloc 5 (cs := [.d (.v (.slice none 0 0))]) tok rfl rfl rfl) ?_
  refine rp rfl w0 rfl (pu_assign (r := .d _) rfl) ?_
  refine ra_nil ?_
  refine then_n ?_
  refine aw_seq ?_
  obtain ⟨v3, h1, h0⟩ := bnd h0
  refine aw_cut ⟨updA (updA (updA (updA ((fun _ => .dead)) 2 (.ptr 3 0 1 0 0)) 3 (.ptr 4 0 1 0 0)) 4 (.ptr 5 0 1 0 0)) 13 (.d (.v (.bool v3))), lks [.no, .no, .no, .live [⟨29, 1, .av [[.d (.sl (List.map cShape_ p0.Shapes))]]⟩], .live [⟨29, 1, .av [[.d (.sl (List.map cShape_ p1.Shapes))]]⟩], .live [⟨29, 1, .av [[.d (.v (.slice none 0 0))]]⟩]]⟩ ?_ ?_
  · skip
    refine aw_regionA (is := [0, 1, 2, 3, 4, 5, 6, 7]) rfl ?_
    refine rl rfl w0 rfl (bx_ldN tok rfl rfl rfl rfl) ?_
    obtain ⟨v1, hv1, h1⟩ := bnd h1
    refine rs rfl w0 rfl (c_call 6 (i_ValidDrawing_c hv1) rfl rfl rfl) ?_
    refine rp rfl w0 rfl (pu_not rfl) ?_
    refine rp rfl w0 rfl (pu_move (r := .d _) rfl) ?_
    refine ra_ifB (u := 9) h1 rfl (fun hc h1 => ?_) (fun hc h1 => ?_)
    · skip
      refine rk rfl rfl rfl (by first | exact .inl rfl | exact .inr rfl) rfl ?_
      refine rk rfl rfl rfl (by first | exact .inl rfl | exact .inr rfl) rfl ?_
      refine rk rfl rfl rfl (by first | exact .inl rfl | exact .inr rfl) rfl ?_
      refine rp rfl w0 rfl (pu_pick_t (r := .d _) rfl rfl) ?_
      refine ra_nil ?_
      refine then_n ?_
      cases h1
      exact wk [0, 1, 2, 3, 4, 5]
    · skip
      refine rl rfl (w1 rfl rfl rfl) rfl (bx_ldN tok rfl rfl rfl rfl) ?_
      obtain ⟨v2, hv2, h1⟩ := bnd h1
      refine rs rfl (w1 rfl rfl rfl) rfl (c_call 6 (i_ValidDrawing_c hv2) rfl rfl rfl) ?_
      refine rp rfl (w1 rfl rfl rfl) rfl (pu_not rfl) ?_
      refine rp rfl w0 rfl (pu_pick_f (r := .d _) rfl rfl) ?_
      refine ra_nil ?_
      refine then_n ?_
      cases h1
      exact wk [0, 1, 2, 3, 4, 5]
  · skip
    refine aw_ifB h0 rfl (fun hc h0 => ?_) (fun hc h0 => ?_)
    · skip
      refine aw_seq ?_
      refine aw_regionA (is := [0, 1, 2]) rfl ?_
      refine rp rfl w0 rfl (pu_build (C0 := [.d (.v (.slice none 0 0))]) tok rfl rfl (by repeat (first | exact Plc.nil | apply Plc.cons rfl)) rfl (by repeat (first | exact Bld.nil _ | apply Bld.cons (cs := [.d _]) rfl rfl rfl rfl (by repeat (first | exact Spl.z _ | apply Spl.t | apply Spl.d)) | apply Bld.cons (cs := [.own _ _ _]) rfl rfl rfl rfl (by repeat (first | exact Spl.z _ | apply Spl.t | apply Spl.d)) | apply Bld.cons (cs := [.ptr _ _ _ _ _]) rfl rfl rfl rfl (by repeat (first | exact Spl.z _ | apply Spl.t | apply Spl.d)) | apply Bld.cons (cs := [.fn _ _]) rfl rfl rfl rfl (by repeat (first | exact Spl.z _ | apply Spl.t | apply Spl.d)) | apply Bld.cons (cs := _ :: _) rfl rfl rfl rfl (by repeat (first | exact Spl.z _ | apply Spl.t | apply Spl.d))))) ?_
      refine rw0 rfl w0 (bx_st (cs := _ :: _) tok rfl rfl rfl rfl rfl rfl rfl) ?_
      refine rp rfl w0 rfl (pu_assign (r := .d _) rfl) ?_
      refine ra_nil ?_
      refine then_n ?_
      refine aw_weak (weak_adopt 6 rfl 80 7 (kb := 5) (j := 0) rfl rfl (by repeat (first | exact Spl.z _ | apply Spl.t | apply Spl.d))) ?_
      refine aw_ret ?_
      refine then_r ?_
      cases h0
      exact retK_ (rs := [.cell 4 29, .tmp 5]) [6] rfl
    · skip
      refine aw_skip ?_
      refine then_n ?_
      refine aw_seq ?_
      refine aw_seq ?_
      refine aw_regionA (is := [0, 1, 2, 3, 4, 5, 6, 7]) rfl ?_
      refine rl rfl w0 rfl (bx_fa tok rfl rfl rfl rfl rfl rfl rfl) ?_
      refine rl rfl w0 rfl (bx_ld1 tok rfl rfl rfl rfl rfl) ?_
      refine rp rfl w0 rfl (pu_len_map tok rfl rfl rfl) ?_
      refine rl rfl w0 rfl (bx_fa tok rfl rfl rfl rfl rfl rfl rfl) ?_
      refine rl rfl w0 rfl (bx_ld1 tok rfl rfl rfl rfl rfl) ?_
      refine rp rfl w0 rfl (pu_len_map tok rfl rfl rfl) ?_
      refine rp rfl w0 rfl (pw_add rfl rfl) ?_
      refine rp rfl w0 rfl (pu_gtr rfl rfl) ?_
      refine ra_nil ?_
      refine then_n ?_
      refine aw_if h0 rfl (fun hc h0 => ?_) (fun hc h0 => ?_)
      · skip
        refine aw_seq ?_
        refine aw_regionA (is := [0, 1, 2]) rfl ?_
        refine rp rfl w0 rfl (pu_build (C0 := [.d (.v (.slice none 0 0))]) tok rfl rfl (by repeat (first | exact Plc.nil | apply Plc.cons rfl)) rfl (by repeat (first | exact Bld.nil _ | apply Bld.cons (cs := [.d _]) rfl rfl rfl rfl (by repeat (first | exact Spl.z _ | apply Spl.t | apply Spl.d)) | apply Bld.cons (cs := [.own _ _ _]) rfl rfl rfl rfl (by repeat (first | exact Spl.z _ | apply Spl.t | apply Spl.d)) | apply Bld.cons (cs := [.ptr _ _ _ _ _]) rfl rfl rfl rfl (by repeat (first | exact Spl.z _ | apply Spl.t | apply Spl.d)) | apply Bld.cons (cs := [.fn _ _]) rfl rfl rfl rfl (by repeat (first | exact Spl.z _ | apply Spl.t | apply Spl.d)) | apply Bld.cons (cs := _ :: _) rfl rfl rfl rfl (by repeat (first | exact Spl.z _ | apply Spl.t | apply Spl.d))))) ?_
        refine rw0 rfl w0 (bx_st (cs := _ :: _) tok rfl rfl rfl rfl rfl rfl rfl) ?_
        refine rp rfl w0 rfl (pu_assign (r := .d _) rfl) ?_
        refine ra_nil ?_
        refine then_n ?_
        refine aw_weak (weak_adopt 6 rfl 80 7 (kb := 5) (j := 0) rfl rfl (by repeat (first | exact Spl.z _ | apply Spl.t | apply Spl.d))) ?_
        refine aw_ret ?_
        refine then_r ?_
        cases h0
        exact retK_ (rs := [.cell 4 29, .tmp 5]) [6] rfl
      · skip
        refine aw_skip ?_
        refine then_n ?_
        refine aw_seq ?_
        refine aw_regionA (is := [0, 1, 2, 3, 4, 5, 6, 7, 8]) rfl ?_
        refine rl rfl w0 rfl (bx_fa tok rfl rfl rfl rfl rfl rfl rfl) ?_
        refine rl rfl w0 rfl (bx_ld1 tok rfl rfl rfl rfl rfl) ?_
        refine rl rfl w0 rfl (bx_fa tok rfl rfl rfl rfl rfl rfl rfl) ?_
        refine rl rfl w0 rfl (bx_ld1 tok rfl rfl rfl rfl rfl) ?_
        refine rs rfl w0 rfl (bs_val tok (cL cShape_) [p0.Shapes, p1.Shapes] rfl rfl rfl (by repeat (first | exact Els.nil _ | apply Els.cons (cs := [.d _]) rfl rfl rfl | apply Els.cons (cs := _ :: _) rfl rfl rfl)) rfl rfl rfl (by repeat (first | exact AllDD.nil | (apply AllDD.cons; (repeat (first | exact AllD.nil | apply AllD.cons))))) rfl) ?_
        obtain ⟨v4, hv4, h0⟩ := bnd h0
        refine rs rfl w0 rfl (c_call 6 (slices_Concat_LShape_Shape_c hv4) rfl rfl rfl) ?_
        refine rp rfl w0 rfl (pu_build (C0 := [.d (.v (.slice none 0 0))]) tok rfl rfl (by repeat (first | exact Plc.nil | apply Plc.cons rfl)) rfl (by repeat (first | exact Bld.nil _ | apply Bld.cons (cs := [.d _]) rfl rfl rfl rfl (by repeat (first | exact Spl.z _ | apply Spl.t | apply Spl.d)) | apply Bld.cons (cs := [.own _ _ _]) rfl rfl rfl rfl (by repeat (first | exact Spl.z _ | apply Spl.t | apply Spl.d)) | apply Bld.cons (cs := [.ptr _ _ _ _ _]) rfl rfl rfl rfl (by repeat (first | exact Spl.z _ | apply Spl.t | apply Spl.d)) | apply Bld.cons (cs := [.fn _ _]) rfl rfl rfl rfl (by repeat (first | exact Spl.z _ | apply Spl.t | apply Spl.d)) | apply Bld.cons (cs := _ :: _) rfl rfl rfl rfl (by repeat (first | exact Spl.z _ | apply Spl.t | apply Spl.d))))) ?_
        refine rw0 rfl w0 (bx_st (cs := _ :: _) tok rfl rfl rfl rfl rfl rfl rfl) ?_
        refine rp rfl w0 rfl (pu_assign (r := .d _) rfl) ?_
        refine ra_nil ?_
        refine then_n ?_
        refine aw_ret ?_
        cases h0
        exact retK_ (rs := [.cell 4 29, .tmp 5]) [6] rfl

theorem l_eqSpot_c {p0 : Spot_} {p1 : Spot_} {r : Bool} (h0 : l_eqSpot_m p0 p1 = some r) : FnC Try.prog 27 [] [.agg [.d (.v (.int .i64 p0.X)), .d (.v (.int .i64 p0.Y))], .agg [.d (.v (.int .i64 p1.X)), .d (.v (.int .i64 p1.Y))]] [] (.d (.v (.bool r))) := by
  refine fnc_intro (T := tt) (N := 15) tok Try.func27 rfl rfl (by kernel_rfl) rfl rfl ?_
  unfold l_eqSpot_m at h0
  refine aw_seq ?_
  refine aw_regionA (is := [0, 1, 2]) rfl ?_
  refine rs rfl w0 rfl (st_box 3 (cs := _ :: _) rfl rfl rfl) ?_
  refine rs rfl w0 rfl (st_box 4 (cs := _ :: _) rfl rfl rfl) ?_
  refine rp rfl w0 rfl (pu_assign (r := .d _) rfl) ?_
  refine ra_nil ?_
  refine then_n ?_
  refine aw_seq ?_
  refine aw_seq ?_
  refine aw_regionA (is := [0, 1, 2, 3, 4]) rfl ?_
  refine rl rfl w0 rfl (bx_fa tok rfl rfl rfl rfl rfl rfl rfl) ?_
  refine rl rfl w0 rfl (bx_ld1 tok rfl rfl rfl rfl rfl) ?_
  refine rl rfl w0 rfl (bx_fa tok rfl rfl rfl rfl rfl rfl rfl) ?_
  refine rl rfl w0 rfl (bx_ld1 tok rfl rfl rfl rfl rfl) ?_
  refine rp rfl w0 rfl (pu_neq rfl rfl) ?_
  refine ra_nil ?_
  refine then_n ?_
  refine aw_if h0 rfl (fun hc h0 => ?_) (fun hc h0 => ?_)
  · skip
    refine aw_seq ?_
    refine aw_regionA (is := [0]) rfl ?_
    refine rp rfl w0 rfl (pu_assign (r := .d _) rfl) ?_
    refine ra_nil ?_
    refine then_n ?_
    refine aw_ret ?_
    refine then_r ?_
    cases h0
    exact ret0_ (rs := [.tmp 4]) rfl
  · skip
    refine aw_skip ?_
    refine then_n ?_
    refine aw_seq ?_
    refine aw_seq ?_
    refine aw_regionA (is := [0, 1, 2, 3, 4]) rfl ?_
    refine rl rfl w0 rfl (bx_fa tok rfl rfl rfl rfl rfl rfl rfl) ?_
    refine rl rfl w0 rfl (bx_ld1 tok rfl rfl rfl rfl rfl) ?_
    refine rl rfl w0 rfl (bx_fa tok rfl rfl rfl rfl rfl rfl rfl) ?_
    refine rl rfl w0 rfl (bx_ld1 tok rfl rfl rfl rfl rfl) ?_
    refine rp rfl w0 rfl (pu_neq rfl rfl) ?_
    refine ra_nil ?_
    refine then_n ?_
    refine aw_if h0 rfl (fun hc h0 => ?_) (fun hc h0 => ?_)
    · skip
      refine aw_seq ?_
      refine aw_regionA (is := [0]) rfl ?_
      refine rp rfl w0 rfl (pu_assign (r := .d _) rfl) ?_
      refine ra_nil ?_
      refine then_n ?_
      refine aw_ret ?_
      refine then_r ?_
      cases h0
      exact ret0_ (rs := [.tmp 4]) rfl
    · skip
      refine aw_skip ?_
      refine then_n ?_
      refine aw_seq ?_
      refine aw_regionA (is := [0]) rfl ?_
      refine rp rfl w0 rfl (pu_assign (r := .d _) rfl) ?_
      refine ra_nil ?_
      refine then_n ?_
      refine aw_ret ?_
      cases h0
      exact ret0_ (rs := [.tmp 4]) rfl

theorem l_eqShape_c {p0 : Shape_} {p1 : Shape_} {r : Bool} (h0 : l_eqShape_m p0 p1 = some r) : FnC Try.prog 97 [] [.agg [.d (.v (.int .i64 p0.Kind)), .d (.v (.int .i64 p0.A.X)), .d (.v (.int .i64 p0.A.Y)), .d (.v (.int .i64 p0.B.X)), .d (.v (.int .i64 p0.B.Y)), .d (.v (.int .i64 p0.R)), .d (.v (.string p0.Name))], .agg [.d (.v (.int .i64 p1.Kind)), .d (.v (.int .i64 p1.A.X)), .d (.v (.int .i64 p1.A.Y)), .d (.v (.int .i64 p1.B.X)), .d (.v (.int .i64 p1.B.Y)), .d (.v (.int .i64 p1.R)), .d (.v (.string p1.Name))]] [] (.d (.v (.bool r))) := by
  refine fnc_intro (T := tt) (N := 32) tok Try.func97 rfl rfl (by kernel_rfl) rfl rfl ?_
  unfold l_eqShape_m at h0
  refine aw_seq ?_
  refine aw_regionA (is := [0, 1, 2]) rfl ?_
  refine rs rfl w0 rfl (st_box 3 (cs := _ :: _) rfl rfl rfl) ?_
  refine rs rfl w0 rfl (st_box 4 (cs := _ :: _) rfl rfl rfl) ?_
  refine rp rfl w0 rfl (pu_assign (r := .d _) rfl) ?_
  refine ra_nil ?_
  refine then_n ?_
  refine aw_seq ?_
  refine aw_seq ?_
  refine aw_regionA (is := [0, 1, 2, 3, 4]) rfl ?_
  refine rl rfl w0 rfl (bx_fa tok rfl rfl rfl rfl rfl rfl rfl) ?_
  refine rl rfl w0 rfl (bx_ld1 tok rfl rfl rfl rfl rfl) ?_
  refine rl rfl w0 rfl (bx_fa tok rfl rfl rfl rfl rfl rfl rfl) ?_
  refine rl rfl w0 rfl (bx_ld1 tok rfl rfl rfl rfl rfl) ?_
  refine rp rfl w0 rfl (pu_neq rfl rfl) ?_
  refine ra_nil ?_
  refine then_n ?_
  refine aw_if h0 rfl (fun hc h0 => ?_) (fun hc h0 => ?_)
  · skip
    refine aw_seq ?_
    refine aw_regionA (is := [0]) rfl ?_
    refine rp rfl w0 rfl (pu_assign (r := .d _) rfl) ?_
    refine ra_nil ?_
    refine then_n ?_
    refine aw_ret ?_
    refine then_r ?_
    cases h0
    exact ret0_ (rs := [.tmp 4]) rfl
  · skip
    refine aw_skip ?_
    refine then_n ?_
    refine aw_seq ?_
    refine aw_seq ?_
    refine aw_regionA (is := [0, 1, 2, 3, 4, 5]) rfl ?_
    refine rl rfl w0 rfl (bx_fa tok rfl rfl rfl rfl rfl rfl rfl) ?_
    refine rl rfl w0 rfl (bx_ldN tok rfl rfl rfl rfl) ?_
    refine rl rfl w0 rfl (bx_fa tok rfl rfl rfl rfl rfl rfl rfl) ?_
    refine rl rfl w0 rfl (bx_ldN tok rfl rfl rfl rfl) ?_
    obtain ⟨v1, hv1, h0⟩ := bnd h0
    refine rs rfl w0 rfl (c_call 5 (l_eqSpot_c hv1) rfl rfl rfl) ?_
    refine rp rfl w0 rfl (pu_not rfl) ?_
    refine ra_nil ?_
    refine then_n ?_
    refine aw_ifB h0 rfl (fun hc h0 => ?_) (fun hc h0 => ?_)
    · skip
      refine aw_seq ?_
      refine aw_regionA (is := [0]) rfl ?_
      refine rp rfl w0 rfl (pu_assign (r := .d _) rfl) ?_
      refine ra_nil ?_
      refine then_n ?_
      refine aw_ret ?_
      refine then_r ?_
      cases h0
      exact ret0_ (rs := [.tmp 4]) rfl
    · skip
      refine aw_skip ?_
      refine then_n ?_
      refine aw_seq ?_
      refine aw_seq ?_
      refine aw_regionA (is := [0, 1, 2, 3, 4, 5]) rfl ?_
      refine rl rfl w0 rfl (bx_fa tok rfl rfl rfl rfl rfl rfl rfl) ?_
      refine rl rfl w0 rfl (bx_ldN tok rfl rfl rfl rfl) ?_
      refine rl rfl w0 rfl (bx_fa tok rfl rfl rfl rfl rfl rfl rfl) ?_
      refine rl rfl w0 rfl (bx_ldN tok rfl rfl rfl rfl) ?_
      obtain ⟨v2, hv2, h0⟩ := bnd h0
      refine rs rfl w0 rfl (c_call 5 (l_eqSpot_c hv2) rfl rfl rfl) ?_
      refine rp rfl w0 rfl (pu_not rfl) ?_
      refine ra_nil ?_
      refine then_n ?_
      refine aw_ifB h0 rfl (fun hc h0 => ?_) (fun hc h0 => ?_)
      · skip
        refine aw_seq ?_
        refine aw_regionA (is := [0]) rfl ?_
        refine rp rfl w0 rfl (pu_assign (r := .d _) rfl) ?_
        refine ra_nil ?_
        refine then_n ?_
        refine aw_ret ?_
        refine then_r ?_
        cases h0
        exact ret0_ (rs := [.tmp 4]) rfl
      · skip
        refine aw_skip ?_
        refine then_n ?_
        refine aw_seq ?_
        refine aw_seq ?_
        refine aw_regionA (is := [0, 1, 2, 3, 4]) rfl ?_
        refine rl rfl w0 rfl (bx_fa tok rfl rfl rfl rfl rfl rfl rfl) ?_
        refine rl rfl w0 rfl (bx_ld1 tok rfl rfl rfl rfl rfl) ?_
        refine rl rfl w0 rfl (bx_fa tok rfl rfl rfl rfl rfl rfl rfl) ?_
        refine rl rfl w0 rfl (bx_ld1 tok rfl rfl rfl rfl rfl) ?_
        refine rp rfl w0 rfl (pu_neq rfl rfl) ?_
        refine ra_nil ?_
        refine then_n ?_
        refine aw_if h0 rfl (fun hc h0 => ?_) (fun hc h0 => ?_)
        · skip
          refine aw_seq ?_
          refine aw_regionA (is := [0]) rfl ?_
          refine rp rfl w0 rfl (pu_assign (r := .d _) rfl) ?_
          refine ra_nil ?_
          refine then_n ?_
          refine aw_ret ?_
          refine then_r ?_
          cases h0
          exact ret0_ (rs := [.tmp 4]) rfl
        · skip
          refine aw_skip ?_
          refine then_n ?_
          refine aw_seq ?_
          refine aw_seq ?_
          refine aw_regionA (is := [0, 1, 2, 3, 4]) rfl ?_
          refine rl rfl w0 rfl (bx_fa tok rfl rfl rfl rfl rfl rfl rfl) ?_
          refine rl rfl w0 rfl (bx_ld1 tok rfl rfl rfl rfl rfl) ?_
          refine rl rfl w0 rfl (bx_fa tok rfl rfl rfl rfl rfl rfl rfl) ?_
          refine rl rfl w0 rfl (bx_ld1 tok rfl rfl rfl rfl rfl) ?_
          refine rp rfl w0 rfl (pu_sneq rfl rfl) ?_
          refine ra_nil ?_
          refine then_n ?_
          refine aw_if h0 rfl (fun hc h0 => ?_) (fun hc h0 => ?_)
          · skip
            refine aw_seq ?_
            refine aw_regionA (is := [0]) rfl ?_
            refine rp rfl w0 rfl (pu_assign (r := .d _) rfl) ?_
            refine ra_nil ?_
            refine then_n ?_
            refine aw_ret ?_
            refine then_r ?_
            cases h0
            exact ret0_ (rs := [.tmp 4]) rfl
          · skip
            refine aw_skip ?_
            refine then_n ?_
            refine aw_seq ?_
            refine aw_regionA (is := [0]) rfl ?_
            refine rp rfl w0 rfl (pu_assign (r := .d _) rfl) ?_
            refine ra_nil ?_
            refine then_n ?_
            refine aw_ret ?_
            cases h0
            exact ret0_ (rs := [.tmp 4]) rfl

theorem l_eqShapeS_c {p0 : List Shape_} {p1 : List Shape_} {r : Bool} (h0 : l_eqShapeS_m p0 p1 = some r) : FnC Try.prog 52 [] [.d (.sl (List.map cShape_ p0)), .d (.sl (List.map cShape_ p1))] [] (.d (.v (.bool r))) := by
  refine fnc_intro (T := tt) (N := 27) tok Try.func52 rfl rfl (by kernel_rfl) rfl rfl ?_
  unfold l_eqShapeS_m at h0
  refine aw_seq ?_
  refine aw_regionA (is := [0]) rfl ?_
  refine rp rfl w0 rfl (pu_assign (r := .d _) rfl) ?_
  refine ra_nil ?_
  refine then_n ?_
  refine aw_seq ?_
  refine aw_seq ?_
  refine aw_regionA (is := [0, 1, 2, 3, 4]) rfl ?_
  refine rp rfl w0 rfl (pu_move (r := .d _) rfl) ?_
  refine rp rfl w0 rfl (pu_len_map tok rfl rfl rfl) ?_
  refine rp rfl w0 rfl (pu_move (r := .d _) rfl) ?_
  refine rp rfl w0 rfl (pu_len_map tok rfl rfl rfl) ?_
  refine rp rfl w0 rfl (pu_neq rfl rfl) ?_
  refine ra_nil ?_
  refine then_n ?_
  refine aw_if h0 rfl (fun hc h0 => ?_) (fun hc h0 => ?_)
  · skip
    refine aw_seq ?_
    refine aw_regionA (is := [0]) rfl ?_
    refine rp rfl w0 rfl (pu_assign (r := .d _) rfl) ?_
    refine ra_nil ?_
    refine then_n ?_
    refine aw_ret ?_
    refine then_r ?_
    cases h0
    exact ret0_ (rs := [.tmp 4]) rfl
  · skip
    refine aw_skip ?_
    refine then_n ?_
    obtain ⟨v9x, h1, h0⟩ := bnd h0
    refine aw_cutE v9x (fun v9 => ⟨(fun _ => .dead), lks [.no, .no, .no]⟩) ?_ ?_
    · skip
      refine aw_seq ?_
      refine aw_regionA (is := [0]) rfl ?_
      refine rp rfl w0 rfl (pu_assign (r := .d _) rfl) ?_
      refine ra_nil ?_
      refine then_n ?_
      refine aw_block ?_
      refine aw_loopM (fun s5 => ⟨updA (updA (updA ((fun _ => .dead)) 0 (.d (.sl (List.map cShape_ p0)))) 1 (.d (.sl (List.map cShape_ p1)))) 5 (.d (.v (.int .i64 s5))), lks [.no, .no, .no]⟩) h1 ?_ (fun s5 y h2 => ?_)
      · skip
        exact wk [0, 1, 2]
      · skip
        refine aw_seq ?_
        refine aw_seq ?_
        refine aw_regionA (is := [0, 1, 2, 3]) rfl ?_
        refine rp rfl w0 rfl (pu_move (r := .d _) rfl) ?_
        refine rp rfl w0 rfl (pu_move (r := .d _) rfl) ?_
        refine rp rfl w0 rfl (pu_len_map tok rfl rfl rfl) ?_
        refine rp rfl w0 rfl (pu_lss rfl rfl) ?_
        refine ra_nil ?_
        refine then_n ?_
        refine aw_if h2 rfl (fun hc h2 => ?_) (fun hc h2 => ?_)
        · skip
          refine aw_skip ?_
          refine then_n ?_
          refine aw_seq ?_
          refine aw_block ?_
          refine aw_seq ?_
          refine aw_region_draw (is := [0, 1, 2, 3, 4, 5, 6, 7, 8, 9]) follows ?_
          refine rt_p rfl w0 rfl (pu_move (r := .d _) rfl) ?_
          refine rt_p rfl w0 rfl (pu_move (r := .d _) rfl) ?_
          obtain ⟨v6, hv6, h2⟩ := bnd h2
          refine rt_p rfl w0 rfl (sl_ix tok hv6 rfl rfl rfl rfl rfl rfl) ?_
          refine rt_p rfl w0 rfl (pu_load_refN tok rfl rfl rfl (by repeat (first | exact SegD.z _ | apply SegD.t))) ?_
          refine rt_p rfl w0 rfl (pu_move (r := .d _) rfl) ?_
          refine rt_p rfl w0 rfl (pu_move (r := .d _) rfl) ?_
          obtain ⟨v7, hv7, h2⟩ := bnd h2
          refine rt_p rfl w0 rfl (sl_ix tok hv7 rfl rfl rfl rfl rfl rfl) ?_
          refine rt_p rfl w0 rfl (pu_load_refN tok rfl rfl rfl (by repeat (first | exact SegD.z _ | apply SegD.t))) ?_
          obtain ⟨v8, hv8, h2⟩ := bnd h2
          refine rt_c rfl w0 rfl (b_call 3 (l_eqShape_c hv8) rfl rfl rfl) ?_
          refine rt_p rfl w0 rfl (pu_not rfl) ?_
          refine rt_nil ?_
          refine ⟨by kernel_rfl, ?_⟩
          refine then_n ?_
          refine aw_ifB h2 rfl (fun hc h2 => ?_) (fun hc h2 => ?_)
          · skip
            refine aw_seq ?_
            refine aw_regionA (is := [0]) rfl ?_
            refine rp rfl w0 rfl (pu_assign (r := .d _) rfl) ?_
            refine ra_nil ?_
            refine then_n ?_
            refine aw_ret ?_
            refine block_r ?_
            refine then_r ?_
            cases h2
            refine loop_r ⟨_, rfl, fun e => ?_⟩
            subst e
            refine block_r ?_
            replace h0 := orE_s h0
            refine then_r ?_
            cases h0
            exact ret0_ (rs := [.tmp 4]) rfl
          · skip
            refine aw_skip ?_
            refine block_n ?_
            refine then_n ?_
            refine aw_regionA (is := [0, 1, 2]) rfl ?_
            refine rp rfl w0 rfl (pu_move (r := .d _) rfl) ?_
            refine rp rfl w0 rfl (pw_add rfl rfl) ?_
            refine rp rfl w0 rfl (pu_assign (r := .d _) rfl) ?_
            refine ra_nil ?_
            refine loop_n ?_
            cases h2
            refine ⟨_, rfl, ?_⟩
            exact wk [0, 1, 2]
        · skip
          refine aw_exit ?_
          refine then_e ?_
          cases h2
          refine loop_x ⟨_, rfl, fun e => ?_⟩
          subst e
          refine block_hit ?_
          refine then_n ?_
          refine ⟨_, rfl, ?_⟩
          exact wk [0, 1, 2]
    · skip
      rintro v9 rfl
      replace h0 := orE_f h0
      refine aw_seq ?_
      refine aw_regionA (is := [0]) rfl ?_
      refine rp rfl w0 rfl (pu_assign (r := .d _) rfl) ?_
      refine ra_nil ?_
      refine then_n ?_
      refine aw_ret ?_
      cases h0
      exact ret0_ (rs := [.tmp 4]) rfl

theorem l_eqDrawing_c {p0 : Drawing_} {p1 : Drawing_} {r : Bool} (h0 : l_eqDrawing_m p0 p1 = some r) : FnC Try.prog 18 [] [.agg [.d (.sl (List.map cShape_ p0.Shapes))], .agg [.d (.sl (List.map cShape_ p1.Shapes))]] [] (.d (.v (.bool r))) := by
  refine fnc_intro (T := tt) (N := 11) tok Try.func18 rfl rfl (by kernel_rfl) rfl rfl ?_
  unfold l_eqDrawing_m at h0
  refine aw_seq ?_
  refine aw_regionA (is := [0, 1, 2]) rfl ?_
  refine rs rfl w0 rfl (st_box 3 (cs := _ :: _) rfl rfl rfl) ?_
  refine rs rfl w0 rfl (st_box 4 (cs := _ :: _) rfl rfl rfl) ?_
  refine rp rfl w0 rfl (pu_assign (r := .d _) rfl) ?_
  refine ra_nil ?_
  refine then_n ?_
  refine aw_seq ?_
  refine aw_seq ?_
  refine aw_regionA (is := [0, 1, 2, 3, 4, 5]) rfl ?_
  refine rl rfl w0 rfl (bx_fa tok rfl rfl rfl rfl rfl rfl rfl) ?_
  refine rl rfl w0 rfl (bx_ld1 tok rfl rfl rfl rfl rfl) ?_
  refine rl rfl w0 rfl (bx_fa tok rfl rfl rfl rfl rfl rfl rfl) ?_
  refine rl rfl w0 rfl (bx_ld1 tok rfl rfl rfl rfl rfl) ?_
  obtain ⟨v1, hv1, h0⟩ := bnd h0
  refine rs rfl w0 rfl (c_call 5 (l_eqShapeS_c hv1) rfl rfl rfl) ?_
  refine rp rfl w0 rfl (pu_not rfl) ?_
  refine ra_nil ?_
  refine then_n ?_
  refine aw_ifB h0 rfl (fun hc h0 => ?_) (fun hc h0 => ?_)
  · skip
    refine aw_seq ?_
    refine aw_regionA (is := [0]) rfl ?_
    refine rp rfl w0 rfl (pu_assign (r := .d _) rfl) ?_
    refine ra_nil ?_
    refine then_n ?_
    refine aw_ret ?_
    refine then_r ?_
    cases h0
    exact ret0_ (rs := [.tmp 4]) rfl
  · skip
    refine aw_skip ?_
    refine then_n ?_
    refine aw_seq ?_
    refine aw_regionA (is := [0]) rfl ?_
    refine rp rfl w0 rfl (pu_assign (r := .d _) rfl) ?_
    refine ra_nil ?_
    refine then_n ?_
    refine aw_ret ?_
    cases h0
    exact ret0_ (rs := [.tmp 4]) rfl

theorem l_markText_c {p0 : Int} {r : ByteArray} (h0 : l_markText_m p0 = some r) : FnC Try.prog 100 [] [.d (.v (.int .i64 p0))] [] (.d (.v (.string r))) := by
  refine fnc_intro (T := tt) (N := 20) tok Try.func100 rfl rfl (by kernel_rfl) rfl rfl ?_
  unfold l_markText_m at h0
  refine aw_seq ?_
  refine aw_regionA (is := [0]) rfl ?_
  refine rp rfl w0 rfl (pu_assign (r := .d _) rfl) ?_
  refine ra_nil ?_
  refine then_n ?_
  refine aw_seq ?_
  refine aw_seq ?_
  refine aw_regionA (is := [0, 1]) rfl ?_
  refine rp rfl w0 rfl (pu_move (r := .d _) rfl) ?_
  refine rp rfl w0 rfl (pu_leq rfl rfl) ?_
  refine ra_nil ?_
  refine then_n ?_
  refine aw_if h0 rfl (fun hc h0 => ?_) (fun hc h0 => ?_)
  · skip
    refine aw_seq ?_
    refine aw_regionA (is := [0]) rfl ?_
    refine rp rfl w0 rfl (pu_assign (r := .d _) rfl) ?_
    refine ra_nil ?_
    refine then_n ?_
    refine aw_ret ?_
    refine then_r ?_
    cases h0
    exact ret0_ (rs := [.tmp 2]) rfl
  · skip
    refine aw_skip ?_
    refine then_n ?_
    refine aw_seq ?_
    refine aw_regionA (is := [0]) rfl ?_
    refine rp rfl w0 rfl (pu_assign (r := .d _) rfl) ?_
    refine ra_nil ?_
    refine then_n ?_
    obtain ⟨v9, h1, h0⟩ := bnd h0
    refine aw_cut ⟨updA ((fun _ => .dead)) 3 (.d (.v (.string v9))), lks [.no, .no, .no]⟩ ?_ ?_
    · skip
      refine aw_block ?_
      refine aw_loopM (fun s5 => ⟨updA (updA ((fun _ => .dead)) 0 (.d (.v (.int .i64 s5.1)))) 3 (.d (.v (.string s5.2))), lks [.no, .no, .no]⟩) h1 ?_ (fun s5 y h2 => ?_)
      · skip
        exact wk [0, 1, 2]
      · skip
        refine aw_seq ?_
        refine aw_seq ?_
        refine aw_regionA (is := [0, 1]) rfl ?_
        refine rp rfl w0 rfl (pu_move (r := .d _) rfl) ?_
        refine rp rfl w0 rfl (pu_gtr rfl rfl) ?_
        refine ra_nil ?_
        refine then_n ?_
        refine aw_if h2 rfl (fun hc h2 => ?_) (fun hc h2 => ?_)
        · skip
          refine aw_skip ?_
          refine then_n ?_
          refine aw_block ?_
          refine aw_seq ?_
          refine aw_regionA (is := [0, 1, 2, 3, 4, 5, 6, 7, 8]) rfl ?_
          refine rp rfl w0 rfl (pu_move (r := .d _) rfl) ?_
          refine rp rfl w0 rfl (pu_remw rfl rfl (by decide)) ?_
          refine rp rfl w0 rfl (pw_add rfl rfl) ?_
          refine rp rfl w0 rfl (pu_ii tok rfl rfl rfl rfl rfl) ?_
          refine rs rfl w0 rfl (bs_own 3 tok cU8 [IntKind.u8.wrap (w64 (48 + (s5.1.tmod 10)))] rfl rfl rfl (by repeat (first | exact Els.nil _ | apply Els.cons (cs := [.d _]) rfl rfl rfl | apply Els.cons (cs := _ :: _) rfl rfl rfl)) rfl rfl rfl (by repeat (first | exact AllDD.nil | (apply AllDD.cons; (repeat (first | exact AllD.nil | apply AllD.cons))))) rfl rfl) ?_
          refine rs rfl w0 rfl (cv_bo tok rfl rfl rfl rfl rfl rfl rfl rfl rfl rfl) ?_
          refine rp rfl w0 rfl (pu_move (r := .d _) rfl) ?_
          obtain ⟨hq7, h2⟩ := chk_e h2
          refine rp rfl w0 rfl (pu_cat rfl rfl hq7) ?_
          refine rp rfl w0 rfl (pu_assign (r := .d _) rfl) ?_
          refine ra_nil ?_
          refine then_n ?_
          refine aw_regionA (is := [0, 1, 2]) rfl ?_
          refine rp rfl w0 rfl (pu_move (r := .d _) rfl) ?_
          refine rp rfl w0 rfl (pw_quo rfl rfl (by decide)) ?_
          refine rp rfl w0 rfl (pu_assign (r := .d _) rfl) ?_
          refine ra_nil ?_
          refine block_n ?_
          refine loop_n ?_
          cases h2
          refine ⟨_, rfl, ?_⟩
          exact wk [0, 1, 2]
        · skip
          refine aw_exit ?_
          refine then_e ?_
          cases h2
          refine loop_x ⟨_, rfl, fun e => ?_⟩
          subst e
          refine block_hit ?_
          refine then_n ?_
          exact wk [0, 1, 2]
    · skip
      refine aw_seq ?_
      refine aw_regionA (is := [0, 1, 2]) rfl ?_
      refine rp rfl w0 rfl (pu_move (r := .d _) rfl) ?_
      obtain ⟨hq10, h0⟩ := chk_e h0
      refine rp rfl w0 rfl (pu_cat rfl rfl hq10) ?_
      refine rp rfl w0 rfl (pu_assign (r := .d _) rfl) ?_
      refine ra_nil ?_
      refine then_n ?_
      refine aw_ret ?_
      cases h0
      exact ret0_ (rs := [.tmp 2]) rfl

theorem l_markShapeS_o_c {p0 : List Shape_} {p1 : Int} {r : Int × List Shape_} (h0 : l_markShapeS_o_m p0 p1 = some r) : FnC Try.prog 59 [.live [⟨80, 7, .data (List.map cShape_ p0)⟩]] [.own 0 0 (p0).length, .d (.v (.int .i64 p1))] [.live [⟨80, 7, .data (List.map cShape_ r.2)⟩]] (.d (.v (.int .i64 r.1))) := by
  refine fnc_intro (T := tt) (N := 67) tok Try.func59 rfl rfl (by kernel_rfl) rfl rfl ?_
  unfold l_markShapeS_o_m at h0
  refine aw_seq ?_
  refine aw_regionA (is := [0]) rfl ?_
  refine rp rfl w0 rfl (pu_assign (r := .d _) rfl) ?_
  refine ra_nil ?_
  refine then_n ?_
  obtain ⟨v19, h1, h0⟩ := bnd h0
  refine aw_cut ⟨updA ((fun _ => .dead)) 1 (.d (.v (.int .i64 v19.1))), lks [.live [⟨80, 7, .data (List.map cShape_ v19.2)⟩], .no, .no]⟩ ?_ ?_
  · skip
    refine aw_seq ?_
    refine aw_regionA (is := [0]) rfl ?_
    refine rp rfl w0 rfl (pu_assign (r := .d _) rfl) ?_
    refine ra_nil ?_
    refine then_n ?_
    refine aw_block ?_
    refine aw_loopM (fun s10 => ⟨updA (updA (updA ((fun _ => .dead)) 0 (.own 0 0 (s10.2.2).length)) 1 (.d (.v (.int .i64 s10.1)))) 5 (.d (.v (.int .i64 s10.2.1))), lks [.live [⟨80, 7, .data (List.map cShape_ s10.2.2)⟩], .no, .no]⟩) h1 ?_ (fun s10 y h2 => ?_)
    · skip
      exact wk [0, 1, 2]
    · skip
      refine aw_seq ?_
      refine aw_seq ?_
      refine aw_regionA (is := [0, 1, 2, 3]) rfl ?_
      refine rp rfl w0 rfl (pu_move (r := .d _) rfl) ?_
      refine rp rfl w0 rfl (pu_move (r := .own _ _ _) rfl) ?_
      refine rl rfl w0 rfl (ow_len tok rfl rfl rfl rfl rfl) ?_
      refine rp rfl w0 rfl (pu_lss rfl rfl) ?_
      refine ra_nil ?_
      refine then_n ?_
      refine aw_if h2 rfl (fun hc h2 => ?_) (fun hc h2 => ?_)
      · skip
        refine aw_skip ?_
        refine then_n ?_
        refine aw_seq ?_
        refine aw_block ?_
        refine aw_seq ?_
        refine aw_regionA (is := [0, 1, 2, 3, 4, 5]) rfl ?_
        refine rp rfl w0 rfl (pu_move (r := .own _ _ _) rfl) ?_
        refine rp rfl w0 rfl (pu_move (r := .d _) rfl) ?_
        refine rp rfl w0 rfl (pu_move (r := .d _) rfl) ?_
        obtain ⟨v11, hv11, h2⟩ := bnd h2
        refine rl rfl w0 rfl (ow_ix tok hv11 rfl rfl rfl rfl rfl rfl rfl rfl) ?_
        refine rl rfl w0 rfl (rw_fa tok (atI_e hv11).2.1 rfl rfl rfl rfl rfl rfl rfl rfl) ?_
        refine rw0 rfl w0 (rw_st (cs := [.d _]) tok (⟨s10.1, v11.A, v11.B, v11.R, v11.Name⟩ : Shape_) (atI_e hv11).2.1 rfl rfl rfl rfl rfl rfl rfl rfl) ?_
        refine ra_nil ?_
        refine then_n ?_
        refine aw_seq ?_
        refine aw_regionA (is := [0, 1, 2]) rfl ?_
        refine rp rfl w0 rfl (pu_move (r := .d _) rfl) ?_
        refine rp rfl w0 rfl (pw_add rfl rfl) ?_
        refine rp rfl w0 rfl (pu_assign (r := .d _) rfl) ?_
        refine ra_nil ?_
        refine then_n ?_
        refine aw_seq ?_
        refine aw_regionA (is := [0, 1, 2, 3, 4, 5, 6]) rfl ?_
        refine rp rfl w0 rfl (pu_move (r := .own _ _ _) rfl) ?_
        refine rp rfl w0 rfl (pu_move (r := .d _) rfl) ?_
        refine rp rfl w0 rfl (pu_move (r := .d _) rfl) ?_
        obtain ⟨v12, hv12, h2⟩ := bnd h2
        refine rl rfl w0 rfl (ow_ix tok hv12 rfl rfl rfl rfl rfl rfl (by first | (simp; done) | omega | (simp; omega)) rfl) ?_
        refine rl rfl w0 rfl (rw_fa tok (atI_e hv12).2.1 rfl rfl rfl rfl rfl rfl rfl (by first | (simp; done) | omega | (simp; omega))) ?_
        refine rl rfl w0 rfl (rw_fa tok (atI_e hv12).2.1 rfl rfl rfl rfl rfl rfl rfl (by first | (simp; done) | omega | (simp; omega))) ?_
        refine rw0 rfl w0 (rw_st (cs := [.d _]) tok (⟨v12.Kind, (⟨w64 (s10.1 + 1), v12.A.Y⟩ : Spot_), v12.B, v12.R, v12.Name⟩ : Shape_) (atI_e hv12).2.1 rfl rfl rfl rfl rfl rfl rfl (by first | (simp; done) | omega | (simp; omega))) ?_
        refine ra_nil ?_
        refine then_n ?_
        refine aw_seq ?_
        refine aw_regionA (is := [0, 1, 2]) rfl ?_
        refine rp rfl w0 rfl (pu_move (r := .d _) rfl) ?_
        refine rp rfl w0 rfl (pw_add rfl rfl) ?_
        refine rp rfl w0 rfl (pu_assign (r := .d _) rfl) ?_
        refine ra_nil ?_
        refine then_n ?_
        refine aw_seq ?_
        refine aw_regionA (is := [0, 1, 2, 3, 4, 5, 6]) rfl ?_
        refine rp rfl w0 rfl (pu_move (r := .own _ _ _) rfl) ?_
        refine rp rfl w0 rfl (pu_move (r := .d _) rfl) ?_
        refine rp rfl w0 rfl (pu_move (r := .d _) rfl) ?_
        obtain ⟨v13, hv13, h2⟩ := bnd h2
        refine rl rfl w0 rfl (ow_ix tok hv13 rfl rfl rfl rfl rfl rfl (by first | (simp; done) | omega | (simp; omega)) rfl) ?_
        refine rl rfl w0 rfl (rw_fa tok (atI_e hv13).2.1 rfl rfl rfl rfl rfl rfl rfl (by first | (simp; done) | omega | (simp; omega))) ?_
        refine rl rfl w0 rfl (rw_fa tok (atI_e hv13).2.1 rfl rfl rfl rfl rfl rfl rfl (by first | (simp; done) | omega | (simp; omega))) ?_
        refine rw0 rfl w0 (rw_st (cs := [.d _]) tok (⟨v13.Kind, (⟨v13.A.X, w64 ((w64 (s10.1 + 1)) + 1)⟩ : Spot_), v13.B, v13.R, v13.Name⟩ : Shape_) (atI_e hv13).2.1 rfl rfl rfl rfl rfl rfl rfl (by first | (simp; done) | omega | (simp; omega))) ?_
        refine ra_nil ?_
        refine then_n ?_
        refine aw_seq ?_
        refine aw_regionA (is := [0, 1, 2]) rfl ?_
        refine rp rfl w0 rfl (pu_move (r := .d _) rfl) ?_
        refine rp rfl w0 rfl (pw_add rfl rfl) ?_
        refine rp rfl w0 rfl (pu_assign (r := .d _) rfl) ?_
        refine ra_nil ?_
        refine then_n ?_
        refine aw_seq ?_
        refine aw_regionA (is := [0, 1, 2, 3, 4, 5, 6]) rfl ?_
        refine rp rfl w0 rfl (pu_move (r := .own _ _ _) rfl) ?_
        refine rp rfl w0 rfl (pu_move (r := .d _) rfl) ?_
        refine rp rfl w0 rfl (pu_move (r := .d _) rfl) ?_
        obtain ⟨v14, hv14, h2⟩ := bnd h2
        refine rl rfl w0 rfl (ow_ix tok hv14 rfl rfl rfl rfl rfl rfl (by first | (simp; done) | omega | (simp; omega)) rfl) ?_
        refine rl rfl w0 rfl (rw_fa tok (atI_e hv14).2.1 rfl rfl rfl rfl rfl rfl rfl (by first | (simp; done) | omega | (simp; omega))) ?_
        refine rl rfl w0 rfl (rw_fa tok (atI_e hv14).2.1 rfl rfl rfl rfl rfl rfl rfl (by first | (simp; done) | omega | (simp; omega))) ?_
        refine rw0 rfl w0 (rw_st (cs := [.d _]) tok (⟨v14.Kind, v14.A, (⟨w64 ((w64 ((w64 (s10.1 + 1)) + 1)) + 1), v14.B.Y⟩ : Spot_), v14.R, v14.Name⟩ : Shape_) (atI_e hv14).2.1 rfl rfl rfl rfl rfl rfl rfl (by first | (simp; done) | omega | (simp; omega))) ?_
        refine ra_nil ?_
        refine then_n ?_
        refine aw_seq ?_
        refine aw_regionA (is := [0, 1, 2]) rfl ?_
        refine rp rfl w0 rfl (pu_move (r := .d _) rfl) ?_
        refine rp rfl w0 rfl (pw_add rfl rfl) ?_
        refine rp rfl w0 rfl (pu_assign (r := .d _) rfl) ?_
        refine ra_nil ?_
        refine then_n ?_
        refine aw_seq ?_
        refine aw_regionA (is := [0, 1, 2, 3, 4, 5, 6]) rfl ?_
        refine rp rfl w0 rfl (pu_move (r := .own _ _ _) rfl) ?_
        refine rp rfl w0 rfl (pu_move (r := .d _) rfl) ?_
        refine rp rfl w0 rfl (pu_move (r := .d _) rfl) ?_
        obtain ⟨v15, hv15, h2⟩ := bnd h2
        refine rl rfl w0 rfl (ow_ix tok hv15 rfl rfl rfl rfl rfl rfl (by first | (simp; done) | omega | (simp; omega)) rfl) ?_
        refine rl rfl w0 rfl (rw_fa tok (atI_e hv15).2.1 rfl rfl rfl rfl rfl rfl rfl (by first | (simp; done) | omega | (simp; omega))) ?_
        refine rl rfl w0 rfl (rw_fa tok (atI_e hv15).2.1 rfl rfl rfl rfl rfl rfl rfl (by first | (simp; done) | omega | (simp; omega))) ?_
        refine rw0 rfl w0 (rw_st (cs := [.d _]) tok (⟨v15.Kind, v15.A, (⟨v15.B.X, w64 ((w64 ((w64 ((w64 (s10.1 + 1)) + 1)) + 1)) + 1)⟩ : Spot_), v15.R, v15.Name⟩ : Shape_) (atI_e hv15).2.1 rfl rfl rfl rfl rfl rfl rfl (by first | (simp; done) | omega | (simp; omega))) ?_
        refine ra_nil ?_
        refine then_n ?_
        refine aw_seq ?_
        refine aw_regionA (is := [0, 1, 2]) rfl ?_
        refine rp rfl w0 rfl (pu_move (r := .d _) rfl) ?_
        refine rp rfl w0 rfl (pw_add rfl rfl) ?_
        refine rp rfl w0 rfl (pu_assign (r := .d _) rfl) ?_
        refine ra_nil ?_
        refine then_n ?_
        refine aw_seq ?_
        refine aw_regionA (is := [0, 1, 2, 3, 4, 5]) rfl ?_
        refine rp rfl w0 rfl (pu_move (r := .own _ _ _) rfl) ?_
        refine rp rfl w0 rfl (pu_move (r := .d _) rfl) ?_
        refine rp rfl w0 rfl (pu_move (r := .d _) rfl) ?_
        obtain ⟨v16, hv16, h2⟩ := bnd h2
        refine rl rfl w0 rfl (ow_ix tok hv16 rfl rfl rfl rfl rfl rfl (by first | (simp; done) | omega | (simp; omega)) rfl) ?_
        refine rl rfl w0 rfl (rw_fa tok (atI_e hv16).2.1 rfl rfl rfl rfl rfl rfl rfl (by first | (simp; done) | omega | (simp; omega))) ?_
        refine rw0 rfl w0 (rw_st (cs := [.d _]) tok (⟨v16.Kind, v16.A, v16.B, w64 ((w64 ((w64 ((w64 ((w64 (s10.1 + 1)) + 1)) + 1)) + 1)) + 1), v16.Name⟩ : Shape_) (atI_e hv16).2.1 rfl rfl rfl rfl rfl rfl rfl (by first | (simp; done) | omega | (simp; omega))) ?_
        refine ra_nil ?_
        refine then_n ?_
        refine aw_seq ?_
        refine aw_regionA (is := [0, 1, 2]) rfl ?_
        refine rp rfl w0 rfl (pu_move (r := .d _) rfl) ?_
        refine rp rfl w0 rfl (pw_add rfl rfl) ?_
        refine rp rfl w0 rfl (pu_assign (r := .d _) rfl) ?_
        refine ra_nil ?_
        refine then_n ?_
        refine aw_seq ?_
        refine aw_regionA (is := [0, 1, 2, 3, 4, 5, 6]) rfl ?_
        refine rp rfl w0 rfl (pu_move (r := .own _ _ _) rfl) ?_
        refine rp rfl w0 rfl (pu_move (r := .d _) rfl) ?_
        refine rp rfl w0 rfl (pu_move (r := .d _) rfl) ?_
        obtain ⟨v17, hv17, h2⟩ := bnd h2
        refine rs rfl w0 rfl (c_call 3 (l_markText_c hv17) rfl rfl rfl) ?_
        obtain ⟨v18, hv18, h2⟩ := bnd h2
        refine rl rfl w0 rfl (ow_ix tok hv18 rfl rfl rfl rfl rfl rfl (by first | (simp; done) | omega | (simp; omega)) rfl) ?_
        refine rl rfl w0 rfl (rw_fa tok (atI_e hv18).2.1 rfl rfl rfl rfl rfl rfl rfl (by first | (simp; done) | omega | (simp; omega))) ?_
        refine rw0 rfl w0 (rw_st (cs := [.d _]) tok (⟨v18.Kind, v18.A, v18.B, v18.R, v17⟩ : Shape_) (atI_e hv18).2.1 rfl rfl rfl rfl rfl rfl rfl (by first | (simp; done) | omega | (simp; omega))) ?_
        refine ra_nil ?_
        refine then_n ?_
        refine aw_regionA (is := [0, 1, 2]) rfl ?_
        refine rp rfl w0 rfl (pu_move (r := .d _) rfl) ?_
        refine rp rfl w0 rfl (pw_add rfl rfl) ?_
        refine rp rfl w0 rfl (pu_assign (r := .d _) rfl) ?_
        refine ra_nil ?_
        refine block_n ?_
        refine then_n ?_
        refine aw_regionA (is := [0, 1, 2]) rfl ?_
        refine rp rfl w0 rfl (pu_move (r := .d _) rfl) ?_
        refine rp rfl w0 rfl (pw_add rfl rfl) ?_
        refine rp rfl w0 rfl (pu_assign (r := .d _) rfl) ?_
        refine ra_nil ?_
        refine loop_n ?_
        cases h2
        refine ⟨_, rfl, ?_⟩
        exact wk [0, 1, 2]
      · skip
        refine aw_exit ?_
        refine then_e ?_
        cases h2
        refine loop_x ⟨_, rfl, fun e => ?_⟩
        subst e
        refine block_hit ?_
        refine then_n ?_
        exact wk [0, 1, 2]
  · skip
    refine aw_seq ?_
    refine aw_regionA (is := [0, 1]) rfl ?_
    refine rp rfl w0 rfl (pu_move (r := .d _) rfl) ?_
    refine rp rfl w0 rfl (pu_assign (r := .d _) rfl) ?_
    refine ra_nil ?_
    refine then_n ?_
    refine aw_ret ?_
    cases h0
    exact retP_ (rs := [.tmp 4]) 1 rfl rfl

theorem l_markDrawing_o_c {p0 : Drawing_} {p1 : Int} {r : Int × List Shape_} (h0 : l_markDrawing_o_m p0 p1 = some r) : FnC Try.prog 21 [.live [⟨80, 7, .data (List.map cShape_ p0.Shapes)⟩]] [.agg [.own 0 0 (p0.Shapes).length], .d (.v (.int .i64 p1))] [.live [⟨80, 7, .data (List.map cShape_ r.2)⟩]] (.d (.v (.int .i64 r.1))) := by
  refine fnc_intro (T := tt) (N := 10) tok Try.func21 rfl rfl (by kernel_rfl) rfl rfl ?_
  unfold l_markDrawing_o_m at h0
  refine aw_seq ?_
  refine aw_regionA (is := [0, 1]) rfl ?_
  refine rs rfl w0 rfl (st_box 3 (cs := _ :: _) rfl rfl rfl) ?_
  refine rp rfl w0 rfl (pu_assign (r := .d _) rfl) ?_
  refine ra_nil ?_
  refine then_n ?_
  refine aw_seq ?_
  refine aw_regionA (is := [0, 1, 2, 3, 4]) rfl ?_
  refine rl rfl w0 rfl (bx_fa tok rfl rfl rfl rfl rfl rfl rfl) ?_
  refine rl rfl w0 rfl (bx_ld1 tok rfl rfl rfl rfl rfl) ?_
  refine rp rfl w0 rfl (pu_move (r := .d _) rfl) ?_
  obtain ⟨v1, hv1, h0⟩ := bnd h0
  obtain ⟨hq2, h0⟩ := chk_e h0
  refine rw1 rfl w0 rfl (c_callP [0] 300 (l_markShapeS_o_c hv1) rfl rfl) ?_
  refine rp rfl w0 rfl (pu_assign (r := .d _) rfl) ?_
  refine ra_nil ?_
  refine then_n ?_
  refine aw_seq ?_
  refine aw_regionA (is := [0, 1]) rfl ?_
  refine rp rfl w0 rfl (pu_move (r := .d _) rfl) ?_
  refine rp rfl w0 rfl (pu_assign (r := .d _) rfl) ?_
  refine ra_nil ?_
  refine then_n ?_
  refine aw_ret ?_
  cases h0
  exact retP_ (rs := [.tmp 4]) 1 rfl rfl

theorem l_heldShapeS_c {p0 : List Shape_} {p1 : Int} {r : Int} (h0 : l_heldShapeS_m p0 p1 = some r) : FnC Try.prog 60 [] [.d (.sl (List.map cShape_ p0)), .d (.v (.int .i64 p1))] [] (.d (.v (.int .i64 r))) := by
  refine fnc_intro (T := tt) (N := 81) tok Try.func60 rfl rfl (by kernel_rfl) rfl rfl ?_
  unfold l_heldShapeS_m at h0
  refine aw_seq ?_
  refine aw_regionA (is := [0]) rfl ?_
  refine rp rfl w0 rfl (pu_assign (r := .d _) rfl) ?_
  refine ra_nil ?_
  refine then_n ?_
  obtain ⟨v19x, h1, h0⟩ := bnd h0
  refine aw_cutE v19x (fun v19 => ⟨updA ((fun _ => .dead)) 1 (.d (.v (.int .i64 v19))), lks [.no, .no, .no]⟩) ?_ ?_
  · skip
    refine aw_seq ?_
    refine aw_regionA (is := [0]) rfl ?_
    refine rp rfl w0 rfl (pu_assign (r := .d _) rfl) ?_
    refine ra_nil ?_
    refine then_n ?_
    refine aw_block ?_
    refine aw_loopM (fun s10 => ⟨updA (updA (updA ((fun _ => .dead)) 0 (.d (.sl (List.map cShape_ p0)))) 1 (.d (.v (.int .i64 s10.1)))) 5 (.d (.v (.int .i64 s10.2))), lks [.no, .no, .no]⟩) h1 ?_ (fun s10 y h2 => ?_)
    · skip
      exact wk [0, 1, 2]
    · skip
      refine aw_seq ?_
      refine aw_seq ?_
      refine aw_regionA (is := [0, 1, 2, 3]) rfl ?_
      refine rp rfl w0 rfl (pu_move (r := .d _) rfl) ?_
      refine rp rfl w0 rfl (pu_move (r := .d _) rfl) ?_
      refine rp rfl w0 rfl (pu_len_map tok rfl rfl rfl) ?_
      refine rp rfl w0 rfl (pu_lss rfl rfl) ?_
      refine ra_nil ?_
      refine then_n ?_
      refine aw_if h2 rfl (fun hc h2 => ?_) (fun hc h2 => ?_)
      · skip
        refine aw_skip ?_
        refine then_n ?_
        refine aw_seq ?_
        refine aw_block ?_
        refine aw_seq ?_
        refine aw_seq ?_
        refine aw_regionA (is := [0, 1, 2, 3, 4, 5, 6]) rfl ?_
        refine rp rfl w0 rfl (pu_move (r := .d _) rfl) ?_
        refine rp rfl w0 rfl (pu_move (r := .d _) rfl) ?_
        obtain ⟨v11, hv11, h2⟩ := bnd h2
        refine rp rfl w0 rfl (sl_ix tok hv11 rfl rfl rfl rfl rfl rfl) ?_
        refine rp rfl w0 rfl (pu_fieldAddr_ref tok rfl rfl rfl rfl rfl rfl (by repeat (first | exact Drp.z _ | apply Drp.d))) ?_
        refine rp rfl w0 rfl (pu_load_ref1 tok rfl rfl rfl rfl) ?_
        refine rp rfl w0 rfl (pu_move (r := .d _) rfl) ?_
        refine rp rfl w0 rfl (pu_neq rfl rfl) ?_
        refine ra_nil ?_
        refine then_n ?_
        refine aw_if h2 rfl (fun hc h2 => ?_) (fun hc h2 => ?_)
        · skip
          refine aw_seq ?_
          refine aw_regionA (is := [0]) rfl ?_
          refine rp rfl w0 rfl (pu_assign (r := .d _) rfl) ?_
          refine ra_nil ?_
          refine then_n ?_
          refine aw_ret ?_
          refine then_r ?_
          refine block_r ?_
          refine then_r ?_
          cases h2
          refine loop_r ⟨_, rfl, fun e => ?_⟩
          subst e
          refine block_r ?_
          replace h0 := orE_s h0
          refine then_r ?_
          cases h0
          exact ret0_ (rs := [.tmp 4]) rfl
        · skip
          refine aw_skip ?_
          refine then_n ?_
          refine aw_seq ?_
          refine aw_regionA (is := [0, 1, 2]) rfl ?_
          refine rp rfl w0 rfl (pu_move (r := .d _) rfl) ?_
          refine rp rfl w0 rfl (pw_add rfl rfl) ?_
          refine rp rfl w0 rfl (pu_assign (r := .d _) rfl) ?_
          refine ra_nil ?_
          refine then_n ?_
          refine aw_seq ?_
          refine aw_seq ?_
          refine aw_regionA (is := [0, 1, 2, 3, 4, 5, 6, 7]) rfl ?_
          refine rp rfl w0 rfl (pu_move (r := .d _) rfl) ?_
          refine rp rfl w0 rfl (pu_move (r := .d _) rfl) ?_
          obtain ⟨v12, hv12, h2⟩ := bnd h2
          refine rp rfl w0 rfl (sl_ix tok hv12 rfl rfl rfl rfl rfl rfl) ?_
          refine rp rfl w0 rfl (pu_fieldAddr_ref tok rfl rfl rfl rfl rfl rfl (by repeat (first | exact Drp.z _ | apply Drp.d))) ?_
          refine rp rfl w0 rfl (pu_fieldAddr_ref tok rfl rfl rfl rfl rfl rfl (by repeat (first | exact Drp.z _ | apply Drp.d))) ?_
          refine rp rfl w0 rfl (pu_load_ref1 tok rfl rfl rfl rfl) ?_
          refine rp rfl w0 rfl (pu_move (r := .d _) rfl) ?_
          refine rp rfl w0 rfl (pu_neq rfl rfl) ?_
          refine ra_nil ?_
          refine then_n ?_
          refine aw_if h2 rfl (fun hc h2 => ?_) (fun hc h2 => ?_)
          · skip
            refine aw_seq ?_
            refine aw_regionA (is := [0]) rfl ?_
            refine rp rfl w0 rfl (pu_assign (r := .d _) rfl) ?_
            refine ra_nil ?_
            refine then_n ?_
            refine aw_ret ?_
            refine then_r ?_
            refine block_r ?_
            refine then_r ?_
            cases h2
            refine loop_r ⟨_, rfl, fun e => ?_⟩
            subst e
            refine block_r ?_
            replace h0 := orE_s h0
            refine then_r ?_
            cases h0
            exact ret0_ (rs := [.tmp 4]) rfl
          · skip
            refine aw_skip ?_
            refine then_n ?_
            refine aw_seq ?_
            refine aw_regionA (is := [0, 1, 2]) rfl ?_
            refine rp rfl w0 rfl (pu_move (r := .d _) rfl) ?_
            refine rp rfl w0 rfl (pw_add rfl rfl) ?_
            refine rp rfl w0 rfl (pu_assign (r := .d _) rfl) ?_
            refine ra_nil ?_
            refine then_n ?_
            refine aw_seq ?_
            refine aw_seq ?_
            refine aw_regionA (is := [0, 1, 2, 3, 4, 5, 6, 7]) rfl ?_
            refine rp rfl w0 rfl (pu_move (r := .d _) rfl) ?_
            refine rp rfl w0 rfl (pu_move (r := .d _) rfl) ?_
            obtain ⟨v13, hv13, h2⟩ := bnd h2
            refine rp rfl w0 rfl (sl_ix tok hv13 rfl rfl rfl rfl rfl rfl) ?_
            refine rp rfl w0 rfl (pu_fieldAddr_ref tok rfl rfl rfl rfl rfl rfl (by repeat (first | exact Drp.z _ | apply Drp.d))) ?_
            refine rp rfl w0 rfl (pu_fieldAddr_ref tok rfl rfl rfl rfl rfl rfl (by repeat (first | exact Drp.z _ | apply Drp.d))) ?_
            refine rp rfl w0 rfl (pu_load_ref1 tok rfl rfl rfl rfl) ?_
            refine rp rfl w0 rfl (pu_move (r := .d _) rfl) ?_
            refine rp rfl w0 rfl (pu_neq rfl rfl) ?_
            refine ra_nil ?_
            refine then_n ?_
            refine aw_if h2 rfl (fun hc h2 => ?_) (fun hc h2 => ?_)
            · skip
              refine aw_seq ?_
              refine aw_regionA (is := [0]) rfl ?_
              refine rp rfl w0 rfl (pu_assign (r := .d _) rfl) ?_
              refine ra_nil ?_
              refine then_n ?_
              refine aw_ret ?_
              refine then_r ?_
              refine block_r ?_
              refine then_r ?_
              cases h2
              refine loop_r ⟨_, rfl, fun e => ?_⟩
              subst e
              refine block_r ?_
              replace h0 := orE_s h0
              refine then_r ?_
              cases h0
              exact ret0_ (rs := [.tmp 4]) rfl
            · skip
              refine aw_skip ?_
              refine then_n ?_
              refine aw_seq ?_
              refine aw_regionA (is := [0, 1, 2]) rfl ?_
              refine rp rfl w0 rfl (pu_move (r := .d _) rfl) ?_
              refine rp rfl w0 rfl (pw_add rfl rfl) ?_
              refine rp rfl w0 rfl (pu_assign (r := .d _) rfl) ?_
              refine ra_nil ?_
              refine then_n ?_
              refine aw_seq ?_
              refine aw_seq ?_
              refine aw_regionA (is := [0, 1, 2, 3, 4, 5, 6, 7]) rfl ?_
              refine rp rfl w0 rfl (pu_move (r := .d _) rfl) ?_
              refine rp rfl w0 rfl (pu_move (r := .d _) rfl) ?_
              obtain ⟨v14, hv14, h2⟩ := bnd h2
              refine rp rfl w0 rfl (sl_ix tok hv14 rfl rfl rfl rfl rfl rfl) ?_
              refine rp rfl w0 rfl (pu_fieldAddr_ref tok rfl rfl rfl rfl rfl rfl (by repeat (first | exact Drp.z _ | apply Drp.d))) ?_
              refine rp rfl w0 rfl (pu_fieldAddr_ref tok rfl rfl rfl rfl rfl rfl (by repeat (first | exact Drp.z _ | apply Drp.d))) ?_
              refine rp rfl w0 rfl (pu_load_ref1 tok rfl rfl rfl rfl) ?_
              refine rp rfl w0 rfl (pu_move (r := .d _) rfl) ?_
              refine rp rfl w0 rfl (pu_neq rfl rfl) ?_
              refine ra_nil ?_
              refine then_n ?_
              refine aw_if h2 rfl (fun hc h2 => ?_) (fun hc h2 => ?_)
              · skip
                refine aw_seq ?_
                refine aw_regionA (is := [0]) rfl ?_
                refine rp rfl w0 rfl (pu_assign (r := .d _) rfl) ?_
                refine ra_nil ?_
                refine then_n ?_
                refine aw_ret ?_
                refine then_r ?_
                refine block_r ?_
                refine then_r ?_
                cases h2
                refine loop_r ⟨_, rfl, fun e => ?_⟩
                subst e
                refine block_r ?_
                replace h0 := orE_s h0
                refine then_r ?_
                cases h0
                exact ret0_ (rs := [.tmp 4]) rfl
              · skip
                refine aw_skip ?_
                refine then_n ?_
                refine aw_seq ?_
                refine aw_regionA (is := [0, 1, 2]) rfl ?_
                refine rp rfl w0 rfl (pu_move (r := .d _) rfl) ?_
                refine rp rfl w0 rfl (pw_add rfl rfl) ?_
                refine rp rfl w0 rfl (pu_assign (r := .d _) rfl) ?_
                refine ra_nil ?_
                refine then_n ?_
                refine aw_seq ?_
                refine aw_seq ?_
                refine aw_regionA (is := [0, 1, 2, 3, 4, 5, 6, 7]) rfl ?_
                refine rp rfl w0 rfl (pu_move (r := .d _) rfl) ?_
                refine rp rfl w0 rfl (pu_move (r := .d _) rfl) ?_
                obtain ⟨v15, hv15, h2⟩ := bnd h2
                refine rp rfl w0 rfl (sl_ix tok hv15 rfl rfl rfl rfl rfl rfl) ?_
                refine rp rfl w0 rfl (pu_fieldAddr_ref tok rfl rfl rfl rfl rfl rfl (by repeat (first | exact Drp.z _ | apply Drp.d))) ?_
                refine rp rfl w0 rfl (pu_fieldAddr_ref tok rfl rfl rfl rfl rfl rfl (by repeat (first | exact Drp.z _ | apply Drp.d))) ?_
                refine rp rfl w0 rfl (pu_load_ref1 tok rfl rfl rfl rfl) ?_
                refine rp rfl w0 rfl (pu_move (r := .d _) rfl) ?_
                refine rp rfl w0 rfl (pu_neq rfl rfl) ?_
                refine ra_nil ?_
                refine then_n ?_
                refine aw_if h2 rfl (fun hc h2 => ?_) (fun hc h2 => ?_)
                · skip
                  refine aw_seq ?_
                  refine aw_regionA (is := [0]) rfl ?_
                  refine rp rfl w0 rfl (pu_assign (r := .d _) rfl) ?_
                  refine ra_nil ?_
                  refine then_n ?_
                  refine aw_ret ?_
                  refine then_r ?_
                  refine block_r ?_
                  refine then_r ?_
                  cases h2
                  refine loop_r ⟨_, rfl, fun e => ?_⟩
                  subst e
                  refine block_r ?_
                  replace h0 := orE_s h0
                  refine then_r ?_
                  cases h0
                  exact ret0_ (rs := [.tmp 4]) rfl
                · skip
                  refine aw_skip ?_
                  refine then_n ?_
                  refine aw_seq ?_
                  refine aw_regionA (is := [0, 1, 2]) rfl ?_
                  refine rp rfl w0 rfl (pu_move (r := .d _) rfl) ?_
                  refine rp rfl w0 rfl (pw_add rfl rfl) ?_
                  refine rp rfl w0 rfl (pu_assign (r := .d _) rfl) ?_
                  refine ra_nil ?_
                  refine then_n ?_
                  refine aw_seq ?_
                  refine aw_seq ?_
                  refine aw_regionA (is := [0, 1, 2, 3, 4, 5, 6]) rfl ?_
                  refine rp rfl w0 rfl (pu_move (r := .d _) rfl) ?_
                  refine rp rfl w0 rfl (pu_move (r := .d _) rfl) ?_
                  obtain ⟨v16, hv16, h2⟩ := bnd h2
                  refine rp rfl w0 rfl (sl_ix tok hv16 rfl rfl rfl rfl rfl rfl) ?_
                  refine rp rfl w0 rfl (pu_fieldAddr_ref tok rfl rfl rfl rfl rfl rfl (by repeat (first | exact Drp.z _ | apply Drp.d))) ?_
                  refine rp rfl w0 rfl (pu_load_ref1 tok rfl rfl rfl rfl) ?_
                  refine rp rfl w0 rfl (pu_move (r := .d _) rfl) ?_
                  refine rp rfl w0 rfl (pu_neq rfl rfl) ?_
                  refine ra_nil ?_
                  refine then_n ?_
                  refine aw_if h2 rfl (fun hc h2 => ?_) (fun hc h2 => ?_)
                  · skip
                    refine aw_seq ?_
                    refine aw_regionA (is := [0]) rfl ?_
                    refine rp rfl w0 rfl (pu_assign (r := .d _) rfl) ?_
                    refine ra_nil ?_
                    refine then_n ?_
                    refine aw_ret ?_
                    refine then_r ?_
                    refine block_r ?_
                    refine then_r ?_
                    cases h2
                    refine loop_r ⟨_, rfl, fun e => ?_⟩
                    subst e
                    refine block_r ?_
                    replace h0 := orE_s h0
                    refine then_r ?_
                    cases h0
                    exact ret0_ (rs := [.tmp 4]) rfl
                  · skip
                    refine aw_skip ?_
                    refine then_n ?_
                    refine aw_seq ?_
                    refine aw_regionA (is := [0, 1, 2]) rfl ?_
                    refine rp rfl w0 rfl (pu_move (r := .d _) rfl) ?_
                    refine rp rfl w0 rfl (pw_add rfl rfl) ?_
                    refine rp rfl w0 rfl (pu_assign (r := .d _) rfl) ?_
                    refine ra_nil ?_
                    refine then_n ?_
                    refine aw_seq ?_
                    refine aw_seq ?_
                    refine aw_region_draw (is := [0, 1, 2, 3, 4, 5, 6, 7]) follows ?_
                    refine rt_p rfl w0 rfl (pu_move (r := .d _) rfl) ?_
                    refine rt_p rfl w0 rfl (pu_move (r := .d _) rfl) ?_
                    obtain ⟨v17, hv17, h2⟩ := bnd h2
                    refine rt_p rfl w0 rfl (sl_ix tok hv17 rfl rfl rfl rfl rfl rfl) ?_
                    refine rt_p rfl w0 rfl (pu_fieldAddr_ref tok rfl rfl rfl rfl rfl rfl (by repeat (first | exact Drp.z _ | apply Drp.d))) ?_
                    refine rt_p rfl w0 rfl (pu_load_ref1 tok rfl rfl rfl rfl) ?_
                    refine rt_p rfl w0 rfl (pu_move (r := .d _) rfl) ?_
                    obtain ⟨v18, hv18, h2⟩ := bnd h2
                    refine rt_c rfl w0 rfl (b_call 3 (l_markText_c hv18) rfl rfl rfl) ?_
                    refine rt_p rfl w0 rfl (pu_sneq rfl rfl) ?_
                    refine rt_nil ?_
                    refine ⟨by kernel_rfl, ?_⟩
                    refine then_n ?_
                    refine aw_if h2 rfl (fun hc h2 => ?_) (fun hc h2 => ?_)
                    · skip
                      refine aw_seq ?_
                      refine aw_regionA (is := [0]) rfl ?_
                      refine rp rfl w0 rfl (pu_assign (r := .d _) rfl) ?_
                      refine ra_nil ?_
                      refine then_n ?_
                      refine aw_ret ?_
                      refine then_r ?_
                      refine block_r ?_
                      refine then_r ?_
                      cases h2
                      refine loop_r ⟨_, rfl, fun e => ?_⟩
                      subst e
                      refine block_r ?_
                      replace h0 := orE_s h0
                      refine then_r ?_
                      cases h0
                      exact ret0_ (rs := [.tmp 4]) rfl
                    · skip
                      refine aw_skip ?_
                      refine then_n ?_
                      refine aw_regionA (is := [0, 1, 2]) rfl ?_
                      refine rp rfl w0 rfl (pu_move (r := .d _) rfl) ?_
                      refine rp rfl w0 rfl (pw_add rfl rfl) ?_
                      refine rp rfl w0 rfl (pu_assign (r := .d _) rfl) ?_
                      refine ra_nil ?_
                      refine block_n ?_
                      refine then_n ?_
                      refine aw_regionA (is := [0, 1, 2]) rfl ?_
                      refine rp rfl w0 rfl (pu_move (r := .d _) rfl) ?_
                      refine rp rfl w0 rfl (pw_add rfl rfl) ?_
                      refine rp rfl w0 rfl (pu_assign (r := .d _) rfl) ?_
                      refine ra_nil ?_
                      refine loop_n ?_
                      cases h2
                      refine ⟨_, rfl, ?_⟩
                      exact wk [0, 1, 2]
      · skip
        refine aw_exit ?_
        refine then_e ?_
        cases h2
        refine loop_x ⟨_, rfl, fun e => ?_⟩
        subst e
        refine block_hit ?_
        refine then_n ?_
        refine ⟨_, rfl, ?_⟩
        exact wk [0, 1, 2]
  · skip
    rintro v19 rfl
    replace h0 := orE_f h0
    refine aw_seq ?_
    refine aw_regionA (is := [0, 1]) rfl ?_
    refine rp rfl w0 rfl (pu_move (r := .d _) rfl) ?_
    refine rp rfl w0 rfl (pu_assign (r := .d _) rfl) ?_
    refine ra_nil ?_
    refine then_n ?_
    refine aw_ret ?_
    cases h0
    exact ret0_ (rs := [.tmp 4]) rfl

theorem l_heldDrawing_c {p0 : Drawing_} {p1 : Int} {r : Int} (h0 : l_heldDrawing_m p0 p1 = some r) : FnC Try.prog 22 [] [.agg [.d (.sl (List.map cShape_ p0.Shapes))], .d (.v (.int .i64 p1))] [] (.d (.v (.int .i64 r))) := by
  refine fnc_intro (T := tt) (N := 12) tok Try.func22 rfl rfl (by kernel_rfl) rfl rfl ?_
  unfold l_heldDrawing_m at h0
  refine aw_seq ?_
  refine aw_regionA (is := [0, 1]) rfl ?_
  refine rs rfl w0 rfl (st_box 3 (cs := _ :: _) rfl rfl rfl) ?_
  refine rp rfl w0 rfl (pu_assign (r := .d _) rfl) ?_
  refine ra_nil ?_
  refine then_n ?_
  refine aw_seq ?_
  refine aw_regionA (is := [0, 1, 2, 3, 4]) rfl ?_
  refine rl rfl w0 rfl (bx_fa tok rfl rfl rfl rfl rfl rfl rfl) ?_
  refine rl rfl w0 rfl (bx_ld1 tok rfl rfl rfl rfl rfl) ?_
  refine rp rfl w0 rfl (pu_move (r := .d _) rfl) ?_
  obtain ⟨v1, hv1, h0⟩ := bnd h0
  refine rs rfl w0 rfl (c_call 4 (l_heldShapeS_c hv1) rfl rfl rfl) ?_
  refine rp rfl w0 rfl (pu_assign (r := .d _) rfl) ?_
  refine ra_nil ?_
  refine then_n ?_
  refine aw_seq ?_
  refine aw_seq ?_
  refine aw_regionA (is := [0, 1]) rfl ?_
  refine rp rfl w0 rfl (pu_move (r := .d _) rfl) ?_
  refine rp rfl w0 rfl (pu_lss rfl rfl) ?_
  refine ra_nil ?_
  refine then_n ?_
  refine aw_if h0 rfl (fun hc h0 => ?_) (fun hc h0 => ?_)
  · skip
    refine aw_seq ?_
    refine aw_regionA (is := [0]) rfl ?_
    refine rp rfl w0 rfl (pu_assign (r := .d _) rfl) ?_
    refine ra_nil ?_
    refine then_n ?_
    refine aw_ret ?_
    refine then_r ?_
    cases h0
    exact ret0_ (rs := [.tmp 4]) rfl
  · skip
    refine aw_skip ?_
    refine then_n ?_
    refine aw_seq ?_
    refine aw_regionA (is := [0, 1]) rfl ?_
    refine rp rfl w0 rfl (pu_move (r := .d _) rfl) ?_
    refine rp rfl w0 rfl (pu_assign (r := .d _) rfl) ?_
    refine ra_nil ?_
    refine then_n ?_
    refine aw_ret ?_
    cases h0
    exact ret0_ (rs := [.tmp 4]) rfl

theorem l_FnExactJoinDrawings_c {p0 : Drawing_} {p1 : Drawing_} {r : Bool} (h0 : l_FnExactJoinDrawings_m p0 p1 = some r) : FnC Try.prog 9 [] [.agg [.d (.sl (List.map cShape_ p0.Shapes))], .agg [.d (.sl (List.map cShape_ p1.Shapes))]] [] (.d (.v (.bool r))) := by
  refine fnc_intro (T := tt) (N := 119) tok Try.func9 rfl rfl (by kernel_rfl) rfl rfl ?_
  unfold l_FnExactJoinDrawings_m at h0
  refine aw_seq ?_
  refine aw_regionA (is := [0, 1, 2]) rfl ?_
  refine rs rfl w0 rfl (st_box 3 (cs := _ :: _) rfl rfl rfl) ?_
  refine rs rfl w0 rfl (st_box 4 (cs := _ :: _) rfl rfl rfl) ?_
  refine rp rfl w0 rfl (pu_assign (r := .d _) rfl) ?_
  refine ra_nil ?_
  refine then_n ?_
  refine aw_seq ?_
  refine aw_regionA (is := [0]) rfl ?_
  refine rp rfl w0 rfl (pu_assign (r := .d _) rfl) ?_
  refine ra_nil ?_
  refine then_n ?_
  refine aw_seq ?_
  refine aw_regionA (is := [0, 1, 2, 3]) rfl ?_
  refine rl rfl w0 rfl (bx_ldN tok rfl rfl rfl rfl) ?_
  refine rp rfl w0 rfl (pu_move (r := .d _) rfl) ?_
  obtain ⟨v1, hv1, h0⟩ := bnd h0
  refine rs rfl w0 rfl (c_call 5 (l_szDrawing_c hv1) rfl rfl rfl) ?_
  refine rp rfl w0 rfl (pu_assign (r := .d _) rfl) ?_
  refine ra_nil ?_
  refine then_n ?_
  refine aw_seq ?_
  refine aw_seq ?_
  refine aw_regionA (is := [0, 1]) rfl ?_
  refine rp rfl w0 rfl (pu_move (r := .d _) rfl) ?_
  refine rp rfl w0 rfl (pu_lss rfl rfl) ?_
  refine ra_nil ?_
  refine then_n ?_
  refine aw_if h0 rfl (fun hc h0 => ?_) (fun hc h0 => ?_)
  · skip
    refine aw_seq ?_
    refine aw_regionA (is := [0]) rfl ?_
    refine rp rfl w0 rfl (pu_assign (r := .d _) rfl) ?_
    refine ra_nil ?_
    refine then_n ?_
    refine aw_ret ?_
    refine then_r ?_
    cases h0
    exact ret0_ (rs := [.tmp 4]) rfl
  · skip
    refine aw_skip ?_
    refine then_n ?_
    refine aw_seq ?_
    refine aw_regionA (is := [0, 1, 2, 3]) rfl ?_
    refine rl rfl w0 rfl (bx_ldN tok rfl rfl rfl rfl) ?_
    refine rp rfl w0 rfl (pu_move (r := .d _) rfl) ?_
    obtain ⟨v2, hv2, h0⟩ := bnd h0
    refine rs rfl w0 rfl (c_call 5 (l_szDrawing_c hv2) rfl rfl rfl) ?_
    refine rp rfl w0 rfl (pu_assign (r := .d _) rfl) ?_
    refine ra_nil ?_
    refine then_n ?_
    refine aw_seq ?_
    refine aw_seq ?_
    refine aw_regionA (is := [0, 1]) rfl ?_
    refine rp rfl w0 rfl (pu_move (r := .d _) rfl) ?_
    refine rp rfl w0 rfl (pu_lss rfl rfl) ?_
    refine ra_nil ?_
    refine then_n ?_
    refine aw_if h0 rfl (fun hc h0 => ?_) (fun hc h0 => ?_)
    · skip
      refine aw_seq ?_
      refine aw_regionA (is := [0]) rfl ?_
      refine rp rfl w0 rfl (pu_assign (r := .d _) rfl) ?_
      refine ra_nil ?_
      refine then_n ?_
      refine aw_ret ?_
      refine then_r ?_
      cases h0
      exact ret0_ (rs := [.tmp 4]) rfl
    · skip
      refine aw_skip ?_
      refine then_n ?_
      refine aw_seq ?_
      refine aw_region_draw (is := [0, 2, 1, 3, 4, 5, 6, 7, 8, 9, 10]) follows ?_
      refine rt_lk rfl w0 rfl (bx_ldN tok rfl rfl rfl rfl) rfl rfl rfl ?_
      refine rt_lk rfl w0 rfl (bx_ldN tok rfl rfl rfl rfl) rfl rfl rfl ?_
      obtain ⟨v3, hv3, h0⟩ := bnd h0
      refine rt_c rfl w0 rfl (b_call 6 (l_toDrawing_c hv3) rfl rfl rfl) ?_
      obtain ⟨v4, hv4, h0⟩ := bnd h0
      refine rt_c rfl w0 rfl (b_call 7 (l_toDrawing_c hv4) rfl rfl rfl) ?_
      obtain ⟨v5, hv5, h0⟩ := bnd h0
      refine rt_c rfl w0 rfl (b_callV 8 (s_JoinDrawings_c hv5) rfl rfl) ?_
      refine rt_p rfl w0 rfl (pu_move (r := .tup _) rfl) ?_
      refine rt_p rfl w0 rfl (pu_extract rfl rfl) ?_
      refine rt_p rfl w0 rfl (pu_extract rfl rfl) ?_
      refine rt_a rfl w0 rfl rfl (fun hx hk => st_alloc 5 (cs := [.d (.v (.slice none 0 0))]) tok rfl rfl hk) ?_
      refine rt_wk rfl w0 (bx_st (cs := _ :: _) tok rfl rfl rfl rfl rfl rfl rfl) ?_
      refine rt_p rfl w0 rfl (pu_assign (r := .d _) rfl) ?_
      refine rt_nil ?_
      refine ⟨by kernel_rfl, ?_⟩
      refine then_n ?_
      refine aw_seq ?_
      refine aw_regionA (is := [0, 1, 2, 3]) rfl ?_
      refine rl rfl w0 rfl (bx_ldN tok rfl rfl rfl rfl) ?_
      obtain ⟨v6, hv6, h0⟩ := bnd h0
      refine rs rfl w0 rfl (c_call 9 (l_toDrawing_c hv6) rfl rfl rfl) ?_
      refine rs rfl w0 rfl (st_alloc 10 (cs := [.d (.v (.slice none 0 0))]) tok rfl rfl rfl) ?_
      refine rw0 rfl w0 (bx_st (cs := _ :: _) tok rfl rfl rfl rfl rfl rfl rfl) ?_
      refine ra_nil ?_
      refine then_n ?_
      refine aw_seq ?_
      refine aw_regionA (is := [0, 1, 2, 3]) rfl ?_
      refine rl rfl w0 rfl (bx_ldN tok rfl rfl rfl rfl) ?_
      obtain ⟨v7, hv7, h0⟩ := bnd h0
      refine rs rfl w0 rfl (c_call 11 (l_toDrawing_c hv7) rfl rfl rfl) ?_
      refine rs rfl w0 rfl (st_alloc 12 (cs := [.d (.v (.slice none 0 0))]) tok rfl rfl rfl) ?_
      refine rw0 rfl w0 (bx_st (cs := _ :: _) tok rfl rfl rfl rfl rfl rfl rfl) ?_
      refine ra_nil ?_
      refine then_n ?_
      refine aw_seq ?_
      refine aw_regionA (is := [0, 1, 2, 3, 4, 5, 6, 7, 8]) rfl ?_
      refine rl rfl w0 rfl (bx_ldN tok rfl rfl rfl rfl) ?_
      refine rl rfl w0 rfl (bx_ldN tok rfl rfl rfl rfl) ?_
      obtain ⟨v8, hv8, h0⟩ := bnd h0
      refine rs rfl w0 rfl (c_callV 13 (i_JoinDrawings_c hv8) rfl rfl) ?_
      refine rp rfl w0 rfl (pu_move (r := .tup _) rfl) ?_
      refine rp rfl w0 rfl (pu_extract rfl rfl) ?_
      refine rp rfl w0 rfl (pu_extract rfl rfl) ?_
      refine rs rfl w0 rfl (st_alloc 14 (cs := [.d (.v (.slice none 0 0))]) tok rfl rfl rfl) ?_
      refine rw0 rfl w0 (bx_st (cs := _ :: _) tok rfl rfl rfl rfl rfl rfl rfl) ?_
      refine rp rfl w0 rfl (pu_assign (r := .d _) rfl) ?_
      refine ra_nil ?_
      refine then_n ?_
      refine aw_seq ?_
      obtain ⟨v10, h1, h0⟩ := bnd h0
      refine aw_cut ⟨updA (updA (updA (updA (updA (updA (updA (updA (updA ((fun _ => .dead)) 2 (.ptr 3 0 1 0 0)) 3 (.ptr 4 0 1 0 0)) 6 (.ptr 5 0 1 0 0)) 7 (.d (.v (.int .i64 v5.2)))) 8 (.ptr 6 0 1 0 0)) 9 (.ptr 7 0 1 0 0)) 10 (.ptr 8 0 1 0 0)) 11 (.d (.v (.int .i64 v8.2)))) 53 (.d (.v (.bool v10))), lks [.no, .no, .no, .live [⟨24, 1, .av [[.d (.sl (List.map cShape_ p0.Shapes))]]⟩], .live [⟨24, 1, .av [[.d (.sl (List.map cShape_ p1.Shapes))]]⟩], .live [⟨29, 1, .av [[.own 9 0 (v5.1.Shapes).length]]⟩], .live [⟨29, 1, .av [[.own 10 0 (v6.Shapes).length]]⟩], .live [⟨29, 1, .av [[.own 11 0 (v7.Shapes).length]]⟩], .live [⟨29, 1, .av [[.own 12 0 (v8.1.Shapes).length]]⟩], .live [⟨80, 7, .data (List.map cShape_ v5.1.Shapes)⟩], .live [⟨80, 7, .data (List.map cShape_ v6.Shapes)⟩], .live [⟨80, 7, .data (List.map cShape_ v7.Shapes)⟩], .live [⟨80, 7, .data (List.map cShape_ v8.1.Shapes)⟩]]⟩ ?_ ?_
      · skip
        refine aw_regionA (is := [0, 1, 2, 3, 4, 5, 6, 7, 8]) rfl ?_
        refine rl rfl w0 rfl (bx_ldN tok rfl rfl rfl rfl) ?_
        refine rl rfl w0 rfl (bx_ldN tok rfl rfl rfl rfl) ?_
        obtain ⟨v9, hv9, h1⟩ := bnd h1
        refine rs rfl w0 rfl (c_callV 15 (l_eqDrawing_c hv9) rfl rfl) ?_
        refine rp rfl w0 rfl (pu_not rfl) ?_
        refine rp rfl w0 rfl (pu_move (r := .d _) rfl) ?_
        refine ra_ifB (u := 49) h1 rfl (fun hc h1 => ?_) (fun hc h1 => ?_)
        · skip
          refine rk rfl rfl rfl (by first | exact .inl rfl | exact .inr rfl) rfl ?_
          refine rk rfl rfl rfl (by first | exact .inl rfl | exact .inr rfl) rfl ?_
          refine rk rfl rfl rfl (by first | exact .inl rfl | exact .inr rfl) rfl ?_
          refine rp rfl w0 rfl (pu_pick_t (r := .d _) rfl rfl) ?_
          refine ra_nil ?_
          refine then_n ?_
          cases h1
          exact wk [0, 1, 2, 3, 4, 5, 10, 12, 14, 8, 9, 11, 13]
        · skip
          refine rp rfl (w1 rfl rfl rfl) rfl (pu_move (r := .d _) rfl) ?_
          refine rp rfl (w1 rfl rfl rfl) rfl (pu_move (r := .d _) rfl) ?_
          refine rp rfl (w1 rfl rfl rfl) rfl (pu_neq rfl rfl) ?_
          refine rp rfl w0 rfl (pu_pick_f (r := .d _) rfl rfl) ?_
          refine ra_nil ?_
          refine then_n ?_
          cases h1
          exact wk [0, 1, 2, 3, 4, 5, 10, 12, 14, 8, 9, 11, 13]
      · skip
        refine aw_ifB h0 rfl (fun hc h0 => ?_) (fun hc h0 => ?_)
        · skip
          refine aw_seq ?_
          refine aw_regionA (is := [0]) rfl ?_
          refine rp rfl w0 rfl (pu_assign (r := .d _) rfl) ?_
          refine ra_nil ?_
          refine then_n ?_
          refine aw_ret ?_
          refine then_r ?_
          cases h0
          exact ret0_ (rs := [.tmp 4]) rfl
        · skip
          refine aw_skip ?_
          refine then_n ?_
          refine aw_seq ?_
          refine aw_seq ?_
          refine aw_region_draw (is := [0, 1, 2, 3, 4]) follows ?_
          refine rt_lk rfl w0 rfl (bx_ldN tok rfl rfl rfl rfl) rfl rfl rfl ?_
          refine rt_lk rfl w0 rfl (bx_ldN tok rfl rfl rfl rfl) rfl rfl rfl ?_
          obtain ⟨v11, hv11, h0⟩ := bnd h0
          refine rt_c rfl w0 rfl (b_call 13 (l_toDrawing_c hv11) rfl rfl rfl) ?_
          obtain ⟨v12, hv12, h0⟩ := bnd h0
          refine rt_c rfl w0 rfl (b_callV 14 (l_eqDrawing_c hv12) rfl rfl) ?_
          refine rt_p rfl w0 rfl (pu_not rfl) ?_
          refine rt_nil ?_
          refine ⟨by kernel_rfl, ?_⟩
          refine then_n ?_
          refine aw_ifB h0 rfl (fun hc h0 => ?_) (fun hc h0 => ?_)
          · skip
            refine aw_seq ?_
            refine aw_regionA (is := [0]) rfl ?_
            refine rp rfl w0 rfl (pu_assign (r := .d _) rfl) ?_
            refine ra_nil ?_
            refine then_n ?_
            refine aw_ret ?_
            refine then_r ?_
            cases h0
            exact ret0_ (rs := [.tmp 4]) rfl
          · skip
            refine aw_skip ?_
            refine then_n ?_
            refine aw_seq ?_
            refine aw_seq ?_
            refine aw_region_draw (is := [0, 1, 2, 3, 4]) follows ?_
            refine rt_lk rfl w0 rfl (bx_ldN tok rfl rfl rfl rfl) rfl rfl rfl ?_
            refine rt_lk rfl w0 rfl (bx_ldN tok rfl rfl rfl rfl) rfl rfl rfl ?_
            obtain ⟨v13, hv13, h0⟩ := bnd h0
            refine rt_c rfl w0 rfl (b_call 14 (l_toDrawing_c hv13) rfl rfl rfl) ?_
            obtain ⟨v14, hv14, h0⟩ := bnd h0
            refine rt_c rfl w0 rfl (b_callV 15 (l_eqDrawing_c hv14) rfl rfl) ?_
            refine rt_p rfl w0 rfl (pu_not rfl) ?_
            refine rt_nil ?_
            refine ⟨by kernel_rfl, ?_⟩
            refine then_n ?_
            refine aw_ifB h0 rfl (fun hc h0 => ?_) (fun hc h0 => ?_)
            · skip
              refine aw_seq ?_
              refine aw_regionA (is := [0]) rfl ?_
              refine rp rfl w0 rfl (pu_assign (r := .d _) rfl) ?_
              refine ra_nil ?_
              refine then_n ?_
              refine aw_ret ?_
              refine then_r ?_
              cases h0
              exact ret0_ (rs := [.tmp 4]) rfl
            · skip
              refine aw_skip ?_
              refine then_n ?_
              refine aw_seq ?_
              refine aw_regionA (is := [0]) rfl ?_
              refine rp rfl w0 rfl (pu_assign (r := .d _) rfl) ?_
              refine ra_nil ?_
              refine then_n ?_
              refine aw_seq ?_
              refine aw_regionA (is := [0, 1, 2, 3]) rfl ?_
              refine rl rfl w0 rfl (bx_ldN tok rfl rfl rfl rfl) ?_
              refine rp rfl w0 rfl (pu_move (r := .d _) rfl) ?_
              obtain ⟨v15, hv15, h0⟩ := bnd h0
              obtain ⟨hq16, h0⟩ := chk_e h0
              refine rw1 rfl w0 rfl (c_callP [10] 300 (l_markDrawing_o_c hv15) rfl rfl) ?_
              refine rp rfl w0 rfl (pu_assign (r := .d _) rfl) ?_
              refine ra_nil ?_
              refine then_n ?_
              refine aw_seq ?_
              refine aw_regionA (is := [0, 1, 2, 3]) rfl ?_
              refine rl rfl w0 rfl (bx_ldN tok rfl rfl rfl rfl) ?_
              refine rp rfl w0 rfl (pu_move (r := .d _) rfl) ?_
              obtain ⟨v17, hv17, h0⟩ := bnd h0
              obtain ⟨hq18, h0⟩ := chk_e h0
              refine rw1 rfl w0 rfl (c_callP [11] 300 (l_markDrawing_o_c hv17) rfl rfl) ?_
              refine rp rfl w0 rfl (pu_assign (r := .d _) rfl) ?_
              refine ra_nil ?_
              refine then_n ?_
              refine aw_seq ?_
              obtain ⟨v20, h1, h0⟩ := bnd h0
              refine aw_cut ⟨updA (updA (updA (updA (updA (updA ((fun _ => .dead)) 2 (.ptr 3 0 1 0 0)) 3 (.ptr 4 0 1 0 0)) 6 (.ptr 5 0 1 0 0)) 7 (.d (.v (.int .i64 v5.2)))) 10 (.ptr 6 0 1 0 0)) 82 (.d (.v (.bool v20))), lks [.no, .no, .no, .live [⟨24, 1, .av [[.d (.sl (List.map cShape_ p0.Shapes))]]⟩], .live [⟨24, 1, .av [[.d (.sl (List.map cShape_ p1.Shapes))]]⟩], .live [⟨29, 1, .av [[.own 7 0 (v5.1.Shapes).length]]⟩], .live [⟨29, 1, .av [[.own 8 0 (v8.1.Shapes).length]]⟩], .live [⟨80, 7, .data (List.map cShape_ v5.1.Shapes)⟩], .live [⟨80, 7, .data (List.map cShape_ v8.1.Shapes)⟩]]⟩ ?_ ?_
              · skip
                refine aw_regionA (is := [0, 1, 2, 3, 4, 5, 6, 7, 8, 9, 10, 11, 12]) rfl ?_
                refine rp rfl w0 rfl (pu_move (r := .d _) rfl) ?_
                refine rp rfl w0 rfl (pu_lss rfl rfl) ?_
                refine rp rfl w0 rfl (pu_move (r := .d _) rfl) ?_
                refine ra_if (u := 72) h1 rfl (fun hc h1 => ?_) (fun hc h1 => ?_)
                · skip
                  refine rk rfl rfl rfl (by first | exact .inl rfl | exact .inr rfl) rfl ?_
                  refine rk rfl rfl rfl (by first | exact .inl rfl | exact .inr rfl) rfl ?_
                  refine rk rfl rfl rfl (by first | exact .inl rfl | exact .inr rfl) rfl ?_
                  refine rk rfl rfl rfl (by first | exact .inl rfl | exact .inr rfl) rfl ?_
                  refine rp rfl w0 rfl (pu_pick_t (r := .d _) rfl rfl) ?_
                  refine rp rfl w0 rfl (pu_move (r := .d _) rfl) ?_
                  refine rk rfl rfl rfl (by first | exact .inl rfl | exact .inr rfl) rfl ?_
                  refine rk rfl rfl rfl (by first | exact .inl rfl | exact .inr rfl) rfl ?_
                  refine rk rfl rfl rfl (by first | exact .inl rfl | exact .inr rfl) rfl ?_
                  refine rp rfl w0 rfl (pu_pick_t (r := .d _) rfl rfl) ?_
                  refine ra_nil ?_
                  refine then_n ?_
                  cases h1
                  exact wk [0, 1, 2, 3, 4, 5, 8, 9, 12]
                · skip
                  refine rl rfl (w1 rfl rfl rfl) rfl (bx_ldN tok rfl rfl rfl rfl) ?_
                  refine rl rfl (w1 rfl rfl rfl) rfl (bx_ldN tok rfl rfl rfl rfl) ?_
                  obtain ⟨v19, hv19, h1⟩ := bnd h1
                  refine rs rfl (w1 rfl rfl rfl) rfl (c_callV 15 (l_eqDrawing_c hv19) rfl rfl) ?_
                  refine rp rfl (w1 rfl rfl rfl) rfl (pu_not rfl) ?_
                  refine rp rfl w0 rfl (pu_pick_f (r := .d _) rfl rfl) ?_
                  refine rp rfl w0 rfl (pu_move (r := .d _) rfl) ?_
                  refine ra_ifB (u := 78) h1 rfl (fun hc h1 => ?_) (fun hc h1 => ?_)
                  · skip
                    refine rk rfl rfl rfl (by first | exact .inl rfl | exact .inr rfl) rfl ?_
                    refine rk rfl rfl rfl (by first | exact .inl rfl | exact .inr rfl) rfl ?_
                    refine rk rfl rfl rfl (by first | exact .inl rfl | exact .inr rfl) rfl ?_
                    refine rp rfl w0 rfl (pu_pick_t (r := .d _) rfl rfl) ?_
                    refine ra_nil ?_
                    refine then_n ?_
                    cases h1
                    exact wk [0, 1, 2, 3, 4, 5, 8, 9, 12]
                  · skip
                    refine rp rfl (w1 rfl rfl rfl) rfl (pu_move (r := .d _) rfl) ?_
                    refine rp rfl (w1 rfl rfl rfl) rfl (pu_move (r := .d _) rfl) ?_
                    refine rp rfl (w1 rfl rfl rfl) rfl (pu_neq rfl rfl) ?_
                    refine rp rfl w0 rfl (pu_pick_f (r := .d _) rfl rfl) ?_
                    refine ra_nil ?_
                    refine then_n ?_
                    cases h1
                    exact wk [0, 1, 2, 3, 4, 5, 8, 9, 12]
              · skip
                refine aw_ifB h0 rfl (fun hc h0 => ?_) (fun hc h0 => ?_)
                · skip
                  refine aw_seq ?_
                  refine aw_regionA (is := [0]) rfl ?_
                  refine rp rfl w0 rfl (pu_assign (r := .d _) rfl) ?_
                  refine ra_nil ?_
                  refine then_n ?_
                  refine aw_ret ?_
                  refine then_r ?_
                  cases h0
                  exact ret0_ (rs := [.tmp 4]) rfl
                · skip
                  refine aw_skip ?_
                  refine then_n ?_
                  refine aw_seq ?_
                  refine aw_regionA (is := [0]) rfl ?_
                  refine rp rfl w0 rfl (pu_assign (r := .d _) rfl) ?_
                  refine ra_nil ?_
                  refine then_n ?_
                  refine aw_seq ?_
                  refine aw_regionA (is := [0, 1, 2, 3]) rfl ?_
                  refine rl rfl w0 rfl (bx_ldN tok rfl rfl rfl rfl) ?_
                  refine rp rfl w0 rfl (pu_move (r := .d _) rfl) ?_
                  obtain ⟨v21, hv21, h0⟩ := bnd h0
                  obtain ⟨hq22, h0⟩ := chk_e h0
                  refine rw1 rfl w0 rfl (c_callP [8] 300 (l_markDrawing_o_c hv21) rfl rfl) ?_
                  refine rp rfl w0 rfl (pu_assign (r := .d _) rfl) ?_
                  refine ra_nil ?_
                  refine then_n ?_
                  refine aw_seq ?_
                  refine aw_regionA (is := [0]) rfl ?_
                  refine rp rfl w0 rfl (pu_assign (r := .d _) rfl) ?_
                  refine ra_nil ?_
                  refine then_n ?_
                  refine aw_seq ?_
                  refine aw_regionA (is := [0, 1, 2, 3]) rfl ?_
                  refine rl rfl w0 rfl (bx_ldN tok rfl rfl rfl rfl) ?_
                  refine rp rfl w0 rfl (pu_move (r := .d _) rfl) ?_
                  obtain ⟨v23, hv23, h0⟩ := bnd h0
                  refine rs rfl w0 rfl (c_callV 9 (l_heldDrawing_c hv23) rfl rfl) ?_
                  refine rp rfl w0 rfl (pu_assign (r := .d _) rfl) ?_
                  refine ra_nil ?_
                  refine then_n ?_
                  refine aw_seq ?_
                  refine aw_seq ?_
                  refine aw_regionA (is := [0, 1]) rfl ?_
                  refine rp rfl w0 rfl (pu_move (r := .d _) rfl) ?_
                  refine rp rfl w0 rfl (pu_lss rfl rfl) ?_
                  refine ra_nil ?_
                  refine then_n ?_
                  refine aw_if h0 rfl (fun hc h0 => ?_) (fun hc h0 => ?_)
                  · skip
                    refine aw_seq ?_
                    refine aw_regionA (is := [0]) rfl ?_
                    refine rp rfl w0 rfl (pu_assign (r := .d _) rfl) ?_
                    refine ra_nil ?_
                    refine then_n ?_
                    refine aw_ret ?_
                    refine then_r ?_
                    cases h0
                    exact ret0_ (rs := [.tmp 4]) rfl
                  · skip
                    refine aw_skip ?_
                    refine then_n ?_
                    refine aw_seq ?_
                    refine aw_seq ?_
                    refine aw_regionA (is := [0, 1, 2]) rfl ?_
                    refine rp rfl w0 rfl (pu_move (r := .d _) rfl) ?_
                    refine rp rfl w0 rfl (pu_move (r := .d _) rfl) ?_
                    refine rp rfl w0 rfl (pu_neq rfl rfl) ?_
                    refine ra_nil ?_
                    refine then_n ?_
                    refine aw_if h0 rfl (fun hc h0 => ?_) (fun hc h0 => ?_)
                    · skip
                      refine aw_seq ?_
                      refine aw_regionA (is := [0]) rfl ?_
                      refine rp rfl w0 rfl (pu_assign (r := .d _) rfl) ?_
                      refine ra_nil ?_
                      refine then_n ?_
                      refine aw_ret ?_
                      refine then_r ?_
                      cases h0
                      exact ret0_ (rs := [.tmp 4]) rfl
                    · skip
                      refine aw_skip ?_
                      refine then_n ?_
                      refine aw_seq ?_
                      refine aw_region_draw (is := [0, 2, 1, 3, 4, 5, 6, 7, 8, 9, 10]) follows ?_
                      refine rt_lk rfl w0 rfl (bx_ldN tok rfl rfl rfl rfl) rfl rfl rfl ?_
                      refine rt_lk rfl w0 rfl (bx_ldN tok rfl rfl rfl rfl) rfl rfl rfl ?_
                      obtain ⟨v24, hv24, h0⟩ := bnd h0
                      refine rt_c rfl w0 rfl (b_call 10 (l_toDrawing_c hv24) rfl rfl rfl) ?_
                      obtain ⟨v25, hv25, h0⟩ := bnd h0
                      refine rt_c rfl w0 rfl (b_call 11 (l_toDrawing_c hv25) rfl rfl rfl) ?_
                      obtain ⟨v26, hv26, h0⟩ := bnd h0
                      refine rt_c rfl w0 rfl (b_callV 12 (i_JoinDrawings_c hv26) rfl rfl) ?_
                      refine rt_p rfl w0 rfl (pu_move (r := .tup _) rfl) ?_
                      refine rt_p rfl w0 rfl (pu_extract rfl rfl) ?_
                      refine rt_p rfl w0 rfl (pu_extract rfl rfl) ?_
                      refine rt_a rfl w0 rfl rfl (fun hx hk => st_alloc 9 (cs := [.d (.v (.slice none 0 0))]) tok rfl rfl hk) ?_
                      refine rt_wk rfl w0 (bx_st (cs := _ :: _) tok rfl rfl rfl rfl rfl rfl rfl) ?_
                      refine rt_p rfl w0 rfl (pu_assign (r := .d _) rfl) ?_
                      refine rt_nil ?_
                      refine ⟨by kernel_rfl, ?_⟩
                      refine then_n ?_
                      refine aw_seq ?_
                      obtain ⟨v28, h1, h0⟩ := bnd h0
                      refine aw_cut ⟨updA (updA (updA ((fun _ => .dead)) 10 (.ptr 3 0 1 0 0)) 13 (.d (.v (.int .i64 v21.1)))) 110 (.d (.v (.bool v28))), lks [.no, .no, .no, .live [⟨29, 1, .av [[.own 4 0 (v21.2).length]]⟩], .live [⟨80, 7, .data (List.map cShape_ v21.2)⟩]]⟩ ?_ ?_
                      · skip
                        refine aw_regionA (is := [0, 1, 2, 3, 4, 5, 6, 7, 8]) rfl ?_
                        refine rl rfl w0 rfl (bx_ldN tok rfl rfl rfl rfl) ?_
                        refine rl rfl w0 rfl (bx_ldN tok rfl rfl rfl rfl) ?_
                        obtain ⟨v27, hv27, h1⟩ := bnd h1
                        refine rs rfl w0 rfl (c_callV 13 (l_eqDrawing_c hv27) rfl rfl) ?_
                        refine rp rfl w0 rfl (pu_not rfl) ?_
                        refine rp rfl w0 rfl (pu_move (r := .d _) rfl) ?_
                        refine ra_ifB (u := 106) h1 rfl (fun hc h1 => ?_) (fun hc h1 => ?_)
                        · skip
                          refine rk rfl rfl rfl (by first | exact .inl rfl | exact .inr rfl) rfl ?_
                          refine rk rfl rfl rfl (by first | exact .inl rfl | exact .inr rfl) rfl ?_
                          refine rk rfl rfl rfl (by first | exact .inl rfl | exact .inr rfl) rfl ?_
                          refine rp rfl w0 rfl (pu_pick_t (r := .d _) rfl rfl) ?_
                          refine ra_nil ?_
                          refine then_n ?_
                          cases h1
                          exact wk [0, 1, 2, 6, 8]
                        · skip
                          refine rp rfl (w1 rfl rfl rfl) rfl (pu_move (r := .d _) rfl) ?_
                          refine rp rfl (w1 rfl rfl rfl) rfl (pu_move (r := .d _) rfl) ?_
                          refine rp rfl (w1 rfl rfl rfl) rfl (pu_neq rfl rfl) ?_
                          refine rp rfl w0 rfl (pu_pick_f (r := .d _) rfl rfl) ?_
                          refine ra_nil ?_
                          refine then_n ?_
                          cases h1
                          exact wk [0, 1, 2, 6, 8]
                      · skip
                        refine aw_ifB h0 rfl (fun hc h0 => ?_) (fun hc h0 => ?_)
                        · skip
                          refine aw_seq ?_
                          refine aw_regionA (is := [0]) rfl ?_
                          refine rp rfl w0 rfl (pu_assign (r := .d _) rfl) ?_
                          refine ra_nil ?_
                          refine then_n ?_
                          refine aw_ret ?_
                          refine then_r ?_
                          cases h0
                          exact ret0_ (rs := [.tmp 4]) rfl
                        · skip
                          refine aw_skip ?_
                          refine then_n ?_
                          refine aw_seq ?_
                          refine aw_regionA (is := [0]) rfl ?_
                          refine rp rfl w0 rfl (pu_assign (r := .d _) rfl) ?_
                          refine ra_nil ?_
                          refine then_n ?_
                          refine aw_seq ?_
                          refine aw_regionA (is := [0, 1, 2, 3]) rfl ?_
                          refine rl rfl w0 rfl (bx_ldN tok rfl rfl rfl rfl) ?_
                          refine rp rfl w0 rfl (pu_move (r := .d _) rfl) ?_
                          obtain ⟨v29, hv29, h0⟩ := bnd h0
                          refine rs rfl w0 rfl (c_callV 5 (l_heldDrawing_c hv29) rfl rfl) ?_
                          refine rp rfl w0 rfl (pu_assign (r := .d _) rfl) ?_
                          refine ra_nil ?_
                          refine then_n ?_
                          refine aw_seq ?_
                          refine aw_seq ?_
                          refine aw_regionA (is := [0, 1]) rfl ?_
                          refine rp rfl w0 rfl (pu_move (r := .d _) rfl) ?_
                          refine rp rfl w0 rfl (pu_lss rfl rfl) ?_
                          refine ra_nil ?_
                          refine then_n ?_
                          refine aw_if h0 rfl (fun hc h0 => ?_) (fun hc h0 => ?_)
                          · skip
                            refine aw_seq ?_
                            refine aw_regionA (is := [0]) rfl ?_
                            refine rp rfl w0 rfl (pu_assign (r := .d _) rfl) ?_
                            refine ra_nil ?_
                            refine then_n ?_
                            refine aw_ret ?_
                            refine then_r ?_
                            cases h0
                            exact ret0_ (rs := [.tmp 4]) rfl
                          · skip
                            refine aw_skip ?_
                            refine then_n ?_
                            refine aw_seq ?_
                            refine aw_seq ?_
                            refine aw_regionA (is := [0, 1, 2]) rfl ?_
                            refine rp rfl w0 rfl (pu_move (r := .d _) rfl) ?_
                            refine rp rfl w0 rfl (pu_move (r := .d _) rfl) ?_
                            refine rp rfl w0 rfl (pu_neq rfl rfl) ?_
                            refine ra_nil ?_
                            refine then_n ?_
                            refine aw_if h0 rfl (fun hc h0 => ?_) (fun hc h0 => ?_)
                            · skip
                              refine aw_seq ?_
                              refine aw_regionA (is := [0]) rfl ?_
                              refine rp rfl w0 rfl (pu_assign (r := .d _) rfl) ?_
                              refine ra_nil ?_
                              refine then_n ?_
                              refine aw_ret ?_
                              refine then_r ?_
                              cases h0
                              exact ret0_ (rs := [.tmp 4]) rfl
                            · skip
                              refine aw_skip ?_
                              refine then_n ?_
                              refine aw_seq ?_
                              refine aw_regionA (is := [0]) rfl ?_
                              refine rp rfl w0 rfl (pu_assign (r := .d _) rfl) ?_
                              refine ra_nil ?_
                              refine then_n ?_
                              refine aw_ret ?_
                              cases h0
                              exact ret0_ (rs := [.tmp 4]) rfl

end Go.Proofs.Ytplnohfjeilodaa
