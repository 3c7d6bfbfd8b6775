/- Texts of this claim, one behind the other (merged by a program of mine). -/
import Derived.Test.YtgcdbbidmfdonaaGreatProg
import Derived.Test.YtgcdbbidmfdonaaGreatGD4
set_option linter.unusedSimpArgs false
set_option linter.unusedVariables false
namespace Go.Proofs.YtgcdbbidmfdonaaGreat
open Go.RowKit
set_option linter.unusedVariables false
set_option maxRecDepth 100000
set_option maxHeartbeats 2000000
theorem aMk : Tryz.prog.eqGuardType Tryz.prog.depth 125 = false := by kernel_rfl
theorem aE9 {x y : Operand} (a b : cY) (w : World) : (do eqGuard .eql 125 x y (.agg #[.int .i64 a.A, .int .i64 a.WheelA, .int .i64 a.B, .int .i64 a.WheelB]) (.agg #[.int .i64 b.A, .int .i64 b.WheelA, .int .i64 b.B, .int .i64 b.WheelB]); binOp .eql 125 (.agg #[.int .i64 a.A, .int .i64 a.WheelA, .int .i64 a.B, .int .i64 a.WheelB]) (.agg #[.int .i64 b.A, .int .i64 b.WheelA, .int .i64 b.B, .int .i64 b.WheelB]) : Sem Value).run Tryz.prog w = .ok (.bool (decide (a = b))) w := by
 have g : (eqGuard .eql 125 x y (.agg #[.int .i64 a.A, .int .i64 a.WheelA, .int .i64 a.B, .int .i64 a.WheelB]) (.agg #[.int .i64 b.A, .int .i64 b.WheelA, .int .i64 b.B, .int .i64 b.WheelB])).run Tryz.prog w = .ok () w := by simp [eqGuard,aMk]
 rw [Sem.run_bind,g,Result.andThen_ok]
 obtain ⟨x0,x1,x2,x3⟩ := a
 obtain ⟨y0,y1,y2,y3⟩ := b
 simp [go_sem]
 (repeat' split) <;> simp_all [aA9]
theorem uS {N : Nat} {t : Nat → AV} {h : dW} {d : Tmp} {ty : TypeId} {pos : String} {aft : Array Edge} {g : Option (Nat × Bool)} {x y : Operand} {a b : cY} (hx : toV (evA N ⟨t,h⟩ x) = some (.agg #[.int .i64 a.A, .int .i64 a.WheelA, .int .i64 a.B, .int .i64 a.WheelB])) (hy : toV (evA N ⟨t,h⟩ y) = some (.agg #[.int .i64 b.A, .int .i64 b.WheelA, .int .i64 b.B, .int .i64 b.WheelB])) : eR Tryz.prog N ⟨some d, .binOp .eql 125 x y 125,ty,pos,aft,g⟩ ⟨t,h⟩ (dB (decide (a = b))) := nN hx hy (fun w => aE9 a b w)
theorem aDh : Tryz.prog.eqGuardType Tryz.prog.depth 62 = false := by kernel_rfl
theorem aC2 {x y : Operand} (a b : aA) (w : World) : (do eqGuard .eql 62 x y (.agg #[.int .i64 a.Num, .int .i64 a.Den]) (.agg #[.int .i64 b.Num, .int .i64 b.Den]); binOp .eql 62 (.agg #[.int .i64 a.Num, .int .i64 a.Den]) (.agg #[.int .i64 b.Num, .int .i64 b.Den]) : Sem Value).run Tryz.prog w = .ok (.bool (decide (a = b))) w := by
 have g : (eqGuard .eql 62 x y (.agg #[.int .i64 a.Num, .int .i64 a.Den]) (.agg #[.int .i64 b.Num, .int .i64 b.Den])).run Tryz.prog w = .ok () w := by simp [eqGuard,aDh]
 rw [Sem.run_bind,g,Result.andThen_ok]
 obtain ⟨x0,x1⟩ := a
 obtain ⟨y0,y1⟩ := b
 simp [go_sem]
 (repeat' split) <;> simp_all [aA9]
theorem xT {N : Nat} {t : Nat → AV} {h : dW} {d : Tmp} {ty : TypeId} {pos : String} {aft : Array Edge} {g : Option (Nat × Bool)} {x y : Operand} {a b : aA} (hx : toV (evA N ⟨t,h⟩ x) = some (.agg #[.int .i64 a.Num, .int .i64 a.Den])) (hy : toV (evA N ⟨t,h⟩ y) = some (.agg #[.int .i64 b.Num, .int .i64 b.Den])) : eR Tryz.prog N ⟨some d, .binOp .eql 62 x y 62,ty,pos,aft,g⟩ ⟨t,h⟩ (dB (decide (a = b))) := nN hx hy (fun w => aC2 a b w)
theorem aC3 {x y : Operand} (a b : aA) (w : World) : (do eqGuard .neq 62 x y (.agg #[.int .i64 a.Num, .int .i64 a.Den]) (.agg #[.int .i64 b.Num, .int .i64 b.Den]); binOp .neq 62 (.agg #[.int .i64 a.Num, .int .i64 a.Den]) (.agg #[.int .i64 b.Num, .int .i64 b.Den]) : Sem Value).run Tryz.prog w = .ok (.bool (decide (a ≠ b))) w := by
 have g : (eqGuard .neq 62 x y (.agg #[.int .i64 a.Num, .int .i64 a.Den]) (.agg #[.int .i64 b.Num, .int .i64 b.Den])).run Tryz.prog w = .ok () w := by simp [eqGuard,aDh]
 rw [Sem.run_bind,g,Result.andThen_ok]
 obtain ⟨x0,x1⟩ := a
 obtain ⟨y0,y1⟩ := b
 simp [go_sem]
 (repeat' split) <;> simp_all [aA9]
theorem xU {N : Nat} {t : Nat → AV} {h : dW} {d : Tmp} {ty : TypeId} {pos : String} {aft : Array Edge} {g : Option (Nat × Bool)} {x y : Operand} {a b : aA} (hx : toV (evA N ⟨t,h⟩ x) = some (.agg #[.int .i64 a.Num, .int .i64 a.Den])) (hy : toV (evA N ⟨t,h⟩ y) = some (.agg #[.int .i64 b.Num, .int .i64 b.Den])) : eR Tryz.prog N ⟨some d, .binOp .neq 62 x y 62,ty,pos,aft,g⟩ ⟨t,h⟩ (dB (decide (a ≠ b))) := nN hx hy (fun w => aC3 a b w)
theorem aLf {p0 : List Int} {p1 : List Int} {r : Bool} (h0 : vJ p0 p1 = some r) : FnC Tryz.prog 7 [] [dL cU8 p0,(dL cU8 p1)] [] (dB r) := by
 refine fi 13 tok Tryz.func7 ?_
 unfold vJ at h0
 refine sq [0] (pa (nx (sq [0,1,2,3,4,5,6,7,8] ?_)))
 refine pm ?_
 refine rP rfl (aL tok rfl rfl rfl) (rP rfl (gO rfl rfl) (pm ?_))
 refine fI (u := 8) h0 rfl (fun hc h0 => ?_) (fun hc h0 => ?_)
 iterate 3 refine k1 ?_
 refine pkt ?_
 refine pa (nx (aD ?_))
 cases h0
 exact r0t 4 rfl
 refine pm1 ?_
 refine rp rfl (w1 rfl rfl rfl) rfl (aL tok rfl rfl rfl) (rp rfl (w1 rfl rfl rfl) rfl (gO rfl rfl) (pkf ?_))
 refine pa (nx (aD ?_))
 cases h0
 exact r0t 4 rfl
theorem aI0 {p0 : List Int} {r : cG} (h0 : tT p0 = some r) : FnC Tryz.prog 38 [] [dL cU8 p0] [.live [⟨157,3, .av [[dL cU8 r.code,(dI r.at_), .d (.v (.int .u64 r.seed))]]⟩]] (.ptr 0 0 1 0 0) := by
 refine fi 6 tok Tryz.func38 ?_
 unfold tT at h0
 refine sq [0] (pa (nx (sq [0,1,2,3] ?_)))
 refine pm ?_
 refine rP rfl (pbl (C0 := [zl,z0, .d (.v (.int .u64 0))]) tok rfl rfl rfl) (bxx 3 ?_)
 refine rP rfl (aR (r := .ptr _ _ _ _ _) rfl) (nx (aD ?_))
 cases h0
 exact eK (rs := [.tmp 2]) [3] rfl
theorem uQ {p0 : cG} {r : Int × cG} (h0 : iR p0 = some r) : FnC Tryz.prog 132 [.live [⟨157,3, .av [[dL cU8 p0.code,(dI p0.at_), .d (.v (.int .u64 p0.seed))]]⟩]] [.ptr 0 0 1 0 0] [.live [⟨157,3, .av [[dL cU8 r.2.code,(dI r.2.at_), .d (.v (.int .u64 r.2.seed))]]⟩]] (dI r.1) := by
 refine fi 62 tok Tryz.func132 ?_
 unfold iR at h0
 refine sq [0] (pa (nx (sq [0] ?_)))
 refine pa (nx ?_)
 obtain ⟨v2,h1,h0⟩ := bnd h0
 refine bC ⟨aB (aB ((fun _ => .dead)) 0 (.ptr 0 0 1 0 0)) 3 (dI v2),lks [.live [⟨157,3, .av [[dL cU8 p0.code,(dI p0.at_), .d (.v (.int .u64 p0.seed))]]⟩], .no, .no]⟩ ?_ ?_
 refine aE (aK (is := [0,1,2,3,4,5,6,7,8,9]) [0,1,3,7,0,16,48,112,240,511] follows (by kernel_rfl) (tP rfl (aF (r := .ptr _ _ _ _ _) rfl) (dG rfl w0 rfl (lD rfl rfl) rfl rfl rfl (tfa tok ?_))))
 refine tld tok ?_
 refine tP rfl (aF (r := .ptr _ _ _ _ _) rfl) (dG rfl w0 rfl (lD rfl rfl) rfl rfl rfl (tfa tok ?_))
 refine tld tok ?_
 refine tP rfl (aL tok rfl rfl rfl) (tP rfl (bK rfl rfl) (bS ?_))
 refine ⟨by kernel_rfl,?_⟩
 refine aH ?_
 refine bR h1 rfl (fun hc h1 => ?_) (fun hc h1 => ?_)
 refine aK (is := [0,1,2,3,4,5,6,7,8,9,10,11]) [0,1,3,7,0,16,48,112,255,511,1023,2047] follows (by kernel_rfl) (tP rfl (aF (r := .ptr _ _ _ _ _) rfl) (dG rfl w0 rfl (lD rfl rfl) rfl rfl rfl (tfa tok ?_)))
 refine tld tok ?_
 refine tP rfl (aF (r := .ptr _ _ _ _ _) rfl) (dG rfl w0 rfl (lD rfl rfl) rfl rfl rfl (tfa tok ?_))
 refine tld tok ?_
 obtain ⟨v1,hv1,h1⟩ := bnd h1
 refine tP rfl (cO tok hv1 rfl rfl rfl rfl rfl rfl) (tlr tok ?_)
 refine tP rfl (aG1 tok rfl rfl rfl rfl rfl) (tpa ?_)
 refine bS ?_
 refine ⟨by kernel_rfl,?_⟩
 refine aH ?_
 cases h1
 exact wk [0,1,2]
 refine sk ?_
 cases h1
 exact wk [0,1,2]
 refine sq [0,1,2,3,4,5,6,7] (rP rfl (aF (r := .ptr _ _ _ _ _) rfl) (rL rfl (lD rfl rfl) (fa tok ?_)))
 refine ld tok ?_
 refine rP rfl (bN rfl rfl) (rL rfl (lD rfl rfl) (fa tok ?_))
 refine bs1 tok (nx (sq [0,1,2,3,4,5,6,7,8,9,10,11,12] ?_))
 refine rP rfl (aF (r := .ptr _ _ _ _ _) rfl) (rP rfl (aF (r := .ptr _ _ _ _ _) rfl) (rL rfl (lD rfl rfl) (fa tok ?_)))
 refine ld tok ?_
 refine rP rfl (aNu rfl rfl) (pm ?_)
 refine rP rfl (aG0 tok rfl rfl rfl rfl rfl) (rP rfl (aIs rfl rfl) (rP rfl (aIs rfl rfl) (rL rfl (lD rfl rfl) (fa tok ?_))))
 refine bs1 tok (nx (aE (aE ?_)))
 refine aK (is := [0,1,2,3,4,5,6,7,8,9]) [0,1,3,7,0,16,48,112,240,511] follows (by kernel_rfl) (tP rfl (aF (r := .ptr _ _ _ _ _) rfl) (dG rfl w0 rfl (lD rfl rfl) rfl rfl rfl (tfa tok ?_)))
 refine tld tok ?_
 refine tP rfl (aF (r := .ptr _ _ _ _ _) rfl) (dG rfl w0 rfl (lD rfl rfl) rfl rfl rfl (tfa tok ?_))
 refine tld tok ?_
 refine tP rfl (aL tok rfl rfl rfl) (tP rfl (gR rfl rfl) (bS ?_))
 refine ⟨by kernel_rfl,?_⟩
 refine aH ?_
 refine bR h0 rfl (fun hc h0 => ?_) (fun hc h0 => ?_)
 refine sq [0,1] (pm ?_)
 refine pa (nx (aD (aT ?_)))
 cases h0
 exact aB7 (rs := [.tmp 2]) 1 rfl rfl
 refine sk (sq [0,1,2,3,4,5,6,7] (rP rfl (aF (r := .ptr _ _ _ _ _) rfl) (rL rfl (lD rfl rfl) (fa tok ?_))))
 refine ld tok ?_
 refine rP rfl (aQ6 rfl rfl (by decide)) (rP rfl (aTr rfl rfl) (rP rfl (aG1 tok rfl rfl rfl rfl rfl) (pa (nx (aD ?_)))))
 cases h0
 exact aB7 (rs := [.tmp 2]) 1 rfl rfl
theorem eC {p0 : cG} {p1 : Int} {r : Int × cG} (h0 : dC p0 p1 = some r) : FnC Tryz.prog 55 [.live [⟨157,3, .av [[dL cU8 p0.code,(dI p0.at_), .d (.v (.int .u64 p0.seed))]]⟩]] [.ptr 0 0 1 0 0,(dI p1)] [.live [⟨157,3, .av [[dL cU8 r.2.code,(dI r.2.at_), .d (.v (.int .u64 r.2.seed))]]⟩]] (dI r.1) := by
 refine fi 20 tok Tryz.func55 ?_
 unfold dC at h0
 refine sq [0] (pa (nx (aE (sq [0,1] ?_))))
 refine pm ?_
 refine rP rfl (gR rfl rfl) (nx ?_)
 refine bR h0 rfl (fun hc h0 => ?_) (fun hc h0 => ?_)
 refine sq [0] (pa (nx (aD (aT ?_))))
 cases h0
 exact aB7 (rs := [.tmp 4]) 1 rfl rfl
 refine sk (sq [0,1,2] (rP rfl (aF (r := .ptr _ _ _ _ _) rfl) ?_))
 obtain ⟨v1,hv1,h0⟩ := bnd h0
 refine rw1 rfl w0 rfl (gK [0] 300 (uQ hv1) rfl rfl) (pa (nx ?_))
 obtain ⟨v3,h1,h0⟩ := bnd h0
 refine bC ⟨aB (aB ((fun _ => .dead)) 1 (dI p1)) 5 (dI v3.1),lks [.live [⟨157,3, .av [[dL cU8 v3.2.code,(dI v3.2.at_), .d (.v (.int .u64 v3.2.seed))]]⟩], .no, .no]⟩ ?_ ?_
 refine sq [0,1] (pm ?_)
 refine rP rfl (gO rfl rfl) (nx ?_)
 refine bR h1 rfl (fun hc h1 => ?_) (fun hc h1 => ?_)
 refine sr [0,1,2,3,4,5] (pm ?_)
 refine rP rfl (eG rfl rfl) (rP rfl (aF (r := .ptr _ _ _ _ _) rfl) ?_)
 obtain ⟨v2,hv2,h1⟩ := bnd h1
 refine rw1 rfl w0 rfl (gK [0] 300 (uQ hv2) rfl rfl) (rP rfl (bN rfl rfl) (pa (nx ?_)))
 cases h1
 exact wk [0,1,2]
 refine sk ?_
 cases h1
 exact wk [0,1,2]
 refine sq [0,1,2,3] (pm ?_)
 refine pm ?_
 obtain ⟨hq4,h0⟩ := dM h0
 refine rP rfl (mB rfl rfl hq4) (pa (nx (aD ?_)))
 cases h0
 exact aB7 (rs := [.tmp 4]) 1 rfl rfl
theorem oU {p0 : cG} {p1 : Int} {r : Bool × cG} (h0 : iG p0 p1 = some r) : FnC Tryz.prog 115 [.live [⟨157,3, .av [[dL cU8 p0.code,(dI p0.at_), .d (.v (.int .u64 p0.seed))]]⟩]] [.ptr 0 0 1 0 0,(dI p1)] [.live [⟨157,3, .av [[dL cU8 r.2.code,(dI r.2.at_), .d (.v (.int .u64 r.2.seed))]]⟩]] (dB r.1) := by
 refine fi 9 tok Tryz.func115 ?_
 unfold iG at h0
 refine sq [0] (pa (nx (sq [0,1,2,3,4] ?_)))
 refine rP rfl (aF (r := .ptr _ _ _ _ _) rfl) (pm ?_)
 obtain ⟨v1,hv1,h0⟩ := bnd h0
 refine rw1 rfl w0 rfl (gK [0] 300 (eC hv1) rfl rfl) (rP rfl (iT rfl rfl) (pa (nx (aD ?_))))
 cases h0
 exact aB7 (rs := [.tmp 4]) 1 rfl rfl
theorem zC  {r : List ByteArray} (h0 : kQ  = some r) : FnC Tryz.prog 212 [] [] [.live [⟨9,1, .data (List.map cS r)⟩]] (.own 0 0 r.length) := by
 refine fi 2 tok Tryz.func212 ?_
 unfold kQ at h0
 refine sq [0] (pa (nx (sq [0,1] ?_)))
 refine rS rfl (nB 3 tok cS [(⟨#[101,103,121,112,116,105,97,110]⟩ : ByteArray),(⟨#[102,105,120,101,100]⟩ : ByteArray),(⟨#[103,114,101,103,111,114,105,97,110]⟩ : ByteArray),(⟨#[106,117,108,105,97,110]⟩ : ByteArray)] rfl rfl rfl (by repeat (first | exact Els.nil _ | apply Els.cons (cs := [.d _]) rfl rfl rfl | apply Els.cons (cs := _ :: _) rfl rfl rfl)) rfl rfl rfl (by repeat (first | exact cH.nil | (apply cH.cons; (repeat (first | exact fA.nil | apply fA.cons))))) rfl rfl) (rP rfl (aR (r := .own _ _ _) rfl) (nx (aD ?_)))
 cases h0
 exact eK (rs := [.tmp 0]) [3] rfl
theorem aBx {p0 : cG} {p1 : List ByteArray} {r : ByteArray × cG} (h0 : nJ p0 p1 = some r) : FnC Tryz.prog 211 [.live [⟨157,3, .av [[dL cU8 p0.code,(dI p0.at_), .d (.v (.int .u64 p0.seed))]]⟩]] [.ptr 0 0 1 0 0,(dL cS p1)] [.live [⟨157,3, .av [[dL cU8 r.2.code,(dI r.2.at_), .d (.v (.int .u64 r.2.seed))]]⟩]] (dS r.1) := by
 refine fi 12 tok Tryz.func211 ?_
 unfold nJ at h0
 refine sq [0] (pa (nx (sq [0,1,2,3,4,5,6,7] ?_)))
 refine pm ?_
 refine rP rfl (aF (r := .ptr _ _ _ _ _) rfl) (pm ?_)
 refine rP rfl (aL tok rfl rfl rfl) ?_
 obtain ⟨v1,hv1,h0⟩ := bnd h0
 refine rw1 rfl w0 rfl (gK [0] 300 (eC hv1) rfl rfl) ?_
 obtain ⟨v2,hv2,h0⟩ := bnd h0
 refine rP rfl (cO tok hv2 rfl rfl rfl rfl rfl rfl) (lr tok ?_)
 refine pa (nx (aD ?_))
 cases h0
 exact aB7 (rs := [.tmp 4]) 1 rfl rfl
theorem aDu {p0 : Int} {r : ByteArray} (h0 : oG p0 = some r) : FnC Tryz.prog 213 [] [dI p0] [] (dS r) := by
 refine fi 34 tok Tryz.func213 ?_
 unfold oG at h0
 refine sq [0] (pa (nx (sq [0,1] ?_)))
 refine rS rfl (eM 3 tok rfl rfl rfl rfl) (rP rfl (aR (r := .own _ _ _) rfl) (nx ?_))
 obtain ⟨v11,h1,h0⟩ := bnd h0
 refine bC ⟨aB (aB ((fun _ => .dead)) 0 (dI p0)) 3 (.own 3 0 (v11).length),lks [.no, .no, .no, .live [⟨5,1, .data (List.map cU8 v11)⟩]]⟩ ?_ ?_
 refine sq [0,1] (pm ?_)
 refine pa (nx (aG ?_))
 refine aZ (fun s6 => ⟨aB (aB (aB ((fun _ => .dead)) 0 (dI p0)) 3 (.own 3 0 (s6.2).length)) 4 (dI s6.1),lks [.no, .no, .no, .live [⟨5,1, .data (List.map cU8 s6.2)⟩]]⟩) h1 ?_ (fun s6 y h2 => ?_)
 exact wk [0,1,2,3]
 refine aE (sq [0,1] (pm ?_))
 refine rP rfl (eB rfl rfl) (nx ?_)
 refine bR h2 rfl (fun hc h2 => ?_) (fun hc h2 => ?_)
 refine sk (aE (aG (sq [0,1,2] (pm ?_))))
 refine rP rfl (mB rfl rfl (by decide)) (pa (nx ?_))
 obtain ⟨v8,h3,h2⟩ := bnd h2
 refine bC ⟨aB (aB (aB (aB ((fun _ => .dead)) 0 (dI p0)) 3 (.own 3 0 (s6.2).length)) 4 (dI s6.1)) 5 (dI v8),lks [.no, .no, .no, .live [⟨5,1, .data (List.map cU8 s6.2)⟩]]⟩ ?_ ?_
 refine sq [0,1] (pm ?_)
 refine rP rfl (bK rfl rfl) (nx ?_)
 refine bR h3 rfl (fun hc h3 => ?_) (fun hc h3 => ?_)
 refine sr [0,1,2] (pm ?_)
 refine rP rfl (uT rfl) (pa (nx ?_))
 cases h3
 exact wk [0,1,2,3]
 refine sk ?_
 cases h3
 exact wk [0,1,2,3]
 refine sr [0,1,2,3,4,5,6] (pm ?_)
 refine rP rfl (bN rfl rfl) (rP rfl (aG0 tok rfl rfl rfl rfl rfl) (rS rfl (nB 4 tok cU8 [IntKind.u8.wrap (w64 (48 + v8))] rfl rfl rfl (by repeat (first | exact Els.nil _ | apply Els.cons (cs := [.d _]) rfl rfl rfl | apply Els.cons (cs := _ :: _) rfl rfl rfl)) rfl rfl rfl (by repeat (first | exact cH.nil | (apply cH.cons; (repeat (first | exact fA.nil | apply fA.cons))))) rfl rfl) (rP rfl (aF (r := .own _ _ _) rfl) ?_)))
 obtain ⟨hq9,h2⟩ := dM h2
 refine rw1 rfl w0 rfl (aUp tok hq9 rfl rfl rfl rfl rfl rfl rfl rfl rfl rfl rfl rfl rfl rfl rfl) (rP rfl (aR (r := .own _ _ _) rfl) (aX (bB (aH (sr [0,1,2] (pm ?_))))))
 refine rP rfl (sN rfl rfl (by decide)) (pa (aX ?_))
 refine cB ?_
 cases h2
 refine ⟨_,rfl,?_⟩
 exact wk [0,1,2,4]
 refine bI (cC ?_)
 cases h2
 refine cD ⟨_,rfl,fun e => ?_⟩
 subst e
 refine aU (aH ?_)
 exact wk [0,1,2,3]
 refine aE (sq [0,1,2] (rP rfl (aF (r := .own _ _ _) rfl) (rL rfl (rC tok rfl rfl rfl rfl rfl) (rP rfl (iT rfl rfl) (nx ?_)))))
 refine bR h0 rfl (fun hc h0 => ?_) (fun hc h0 => ?_)
 refine sq [0] (pa (nx (aD (aT ?_))))
 cases h0
 exact r0t 2 rfl
 refine sk (aE (sq [0,1] (pm ?_)))
 refine rP rfl (bK rfl rfl) (nx ?_)
 refine bR h0 rfl (fun hc h0 => ?_) (fun hc h0 => ?_)
 refine sq [0,1,2,3] (rP rfl (aF (r := .own _ _ _) rfl) (rS rfl (aS8 tok rfl rfl rfl rfl rfl rfl rfl rfl rfl rfl) ?_))
 obtain ⟨hq12,h0⟩ := dM h0
 refine rP rfl (aNs rfl rfl hq12) (pa (nx (aD (aT ?_))))
 cases h0
 exact r0t 2 rfl
 refine sk (sq [0,1,2] (rP rfl (aF (r := .own _ _ _) rfl) (rS rfl (aS8 tok rfl rfl rfl rfl rfl rfl rfl rfl rfl rfl) (pa (nx (aD ?_))))))
 cases h0
 exact r0t 2 rfl
theorem zX {p0 : Int} {p1 : Int} {r : List cA} (h0 : rY p0 p1 = some r) : FnC Tryz.prog 193 [] [dI p0,(dI p1)] [.live [⟨170,3, .data (List.map aY r)⟩]] (.own 0 0 r.length) := by
 refine fi 23 tok Tryz.func193 ?_
 unfold rY at h0
 refine sq [0] (pa (nx (sq [0,1] ?_)))
 refine rS rfl (eM 3 tok rfl rfl rfl rfl) (rP rfl (aR (r := .own _ _ _) rfl) (nx ?_))
 obtain ⟨v9,h1,h0⟩ := bnd h0
 refine bC ⟨aB ((fun _ => .dead)) 5 (.own 3 0 (v9).length),lks [.no, .no, .no, .live [⟨170,3, .data (List.map aY v9)⟩]]⟩ ?_ ?_
 refine sq [0] (pa (nx (aG ?_)))
 refine aZ (fun s5 => ⟨aB (aB (aB (aB ((fun _ => .dead)) 0 (dI p0)) 1 (dI p1)) 5 (.own 3 0 (s5.2).length)) 6 (dI s5.1),lks [.no, .no, .no, .live [⟨170,3, .data (List.map aY s5.2)⟩]]⟩) h1 ?_ (fun s5 y h2 => ?_)
 exact wk [0,1,2,3]
 refine aE (sq [0,1,2] (pm ?_))
 refine pm ?_
 refine rP rfl (gR rfl rfl) (nx ?_)
 refine bR h2 rfl (fun hc h2 => ?_) (fun hc h2 => ?_)
 refine sk (aE (aG (sr [0,1,2,3,4,5,6,7,8,9] (rP rfl (aF (r := .own _ _ _) rfl) (pm ?_)))))
 obtain ⟨v6,hv6,h2⟩ := bnd h2
 refine rS rfl (aM 4 (aDu hv6) rfl rfl rfl) ?_
 obtain ⟨hq7,h2⟩ := dM h2
 refine rP rfl (aNs rfl rfl hq7) (pm ?_)
 refine pm ?_
 refine rP rfl (pbl (C0 := [ze,z0,z0]) tok rfl rfl rfl) (rS rfl (jV tok aY [(⟨(⟨#[109]⟩ : ByteArray) ++ v6,p1,p1⟩ : cA)] rfl rfl rfl (by repeat (first | exact Els.nil _ | apply Els.cons (cs := [.d _]) rfl rfl rfl | apply Els.cons (cs := _ :: _) rfl rfl rfl)) rfl rfl rfl (by repeat (first | exact cH.nil | (apply cH.cons; (repeat (first | exact fA.nil | apply fA.cons))))) rfl) ?_)
 obtain ⟨hq8,h2⟩ := dM h2
 refine rw1 rfl w0 rfl (fL tok hq8 rfl rfl rfl rfl rfl rfl rfl rfl rfl rfl rfl rfl (fun _ => rfl)) (rP rfl (aR (r := .own _ _ _) rfl) (aX (bB (aH (sr [0,1,2] (pm ?_))))))
 refine rP rfl (bN rfl rfl) (pa (aX ?_))
 refine cB ?_
 cases h2
 refine ⟨_,rfl,?_⟩
 exact wk [0,1,2,3]
 refine bI (cC ?_)
 cases h2
 refine cD ⟨_,rfl,fun e => ?_⟩
 subst e
 refine aU (aH ?_)
 exact wk [0,1,2,3]
 refine sq [0,1] (rP rfl (aF (r := .own _ _ _) rfl) (rP rfl (aR (r := .own _ _ _) rfl) (nx (aD ?_))))
 cases h0
 exact eK (rs := [.tmp 4]) [3] rfl
theorem uB  {r : List bD} (h0 : lU  = some r) : FnC Tryz.prog 194 [] [] [.live [⟨181,3, .data (List.map aP r)⟩]] (.own 0 0 r.length) := by
 refine fi 5 tok Tryz.func194 ?_
 unfold lU at h0
 refine sq [0] (pa (nx (sq [0,1,2,3,4] ?_)))
 iterate 3 refine rP rfl (pbl (C0 := [z0,z0,(dB false)]) tok rfl rfl rfl) ?_
 refine rS rfl (nB 3 tok aP [(⟨4,0,true⟩ : bD),(⟨100,0,false⟩ : bD),(⟨400,0,true⟩ : bD)] rfl rfl rfl (by repeat (first | exact Els.nil _ | apply Els.cons (cs := [.d _]) rfl rfl rfl | apply Els.cons (cs := _ :: _) rfl rfl rfl)) rfl rfl rfl (by repeat (first | exact cH.nil | (apply cH.cons; (repeat (first | exact fA.nil | apply fA.cons))))) rfl rfl) (rP rfl (aR (r := .own _ _ _) rfl) (nx (aD ?_)))
 cases h0
 exact eK (rs := [.tmp 0]) [3] rfl
theorem zY  {r : List cA} (h0 : rZ  = some r) : FnC Tryz.prog 195 [] [] [.live [⟨170,3, .data (List.map aY r)⟩]] (.own 0 0 r.length) := by
 refine fi 32 tok Tryz.func195 ?_
 unfold rZ at h0
 refine sq [0] (pa (nx (sq [0,1] ?_)))
 refine rS rfl (nB 3 tok cS [(⟨#[106,97,110]⟩ : ByteArray),(⟨#[102,101,98]⟩ : ByteArray),(⟨#[109,97,114]⟩ : ByteArray),(⟨#[97,112,114]⟩ : ByteArray),(⟨#[109,97,121]⟩ : ByteArray),(⟨#[106,117,110]⟩ : ByteArray),(⟨#[106,117,108]⟩ : ByteArray),(⟨#[97,117,103]⟩ : ByteArray),(⟨#[115,101,112]⟩ : ByteArray),(⟨#[111,99,116]⟩ : ByteArray),(⟨#[110,111,118]⟩ : ByteArray),(⟨#[100,101,99]⟩ : ByteArray)] rfl rfl rfl (by repeat (first | exact Els.nil _ | apply Els.cons (cs := [.d _]) rfl rfl rfl | apply Els.cons (cs := _ :: _) rfl rfl rfl)) rfl rfl rfl (by repeat (first | exact cH.nil | (apply cH.cons; (repeat (first | exact fA.nil | apply fA.cons))))) rfl rfl) (rP rfl (aR (r := .own _ _ _) rfl) (nx (sq [0,1] (rS rfl (nB 4 tok cI [31,28,31,30,31,30,31,31,30,31,30,31] rfl rfl rfl (by repeat (first | exact Els.nil _ | apply Els.cons (cs := [.d _]) rfl rfl rfl | apply Els.cons (cs := _ :: _) rfl rfl rfl)) rfl rfl rfl (by repeat (first | exact cH.nil | (apply cH.cons; (repeat (first | exact fA.nil | apply fA.cons))))) rfl rfl) (rP rfl (aR (r := .own _ _ _) rfl) (nx (sq [0,1] (rS rfl (eM 5 tok rfl rfl rfl rfl) (rP rfl (aR (r := .own _ _ _) rfl) (nx ?_))))))))))
 obtain ⟨v11,h1,h0⟩ := bnd h0
 refine bC ⟨aB ((fun _ => .dead)) 3 (.own 3 0 (v11).length),lks [.no, .no, .no, .live [⟨170,3, .data (List.map aY v11)⟩]]⟩ ?_ ?_
 refine sq [0] (pa (nx (aG ?_)))
 refine aZ (fun s6 => ⟨aB (aB (aB (aB ((fun _ => .dead)) 1 (.own 3 0 ([(⟨#[106,97,110]⟩ : ByteArray),(⟨#[102,101,98]⟩ : ByteArray),(⟨#[109,97,114]⟩ : ByteArray),(⟨#[97,112,114]⟩ : ByteArray),(⟨#[109,97,121]⟩ : ByteArray),(⟨#[106,117,110]⟩ : ByteArray),(⟨#[106,117,108]⟩ : ByteArray),(⟨#[97,117,103]⟩ : ByteArray),(⟨#[115,101,112]⟩ : ByteArray),(⟨#[111,99,116]⟩ : ByteArray),(⟨#[110,111,118]⟩ : ByteArray),(⟨#[100,101,99]⟩ : ByteArray)]).length)) 2 (.own 4 0 ([31,28,31,30,31,30,31,31,30,31,30,31]).length)) 3 (.own 5 0 (s6.2).length)) 4 (dI s6.1),lks [.no, .no, .no, .live [⟨9,1, .data (List.map cS [(⟨#[106,97,110]⟩ : ByteArray),(⟨#[102,101,98]⟩ : ByteArray),(⟨#[109,97,114]⟩ : ByteArray),(⟨#[97,112,114]⟩ : ByteArray),(⟨#[109,97,121]⟩ : ByteArray),(⟨#[106,117,110]⟩ : ByteArray),(⟨#[106,117,108]⟩ : ByteArray),(⟨#[97,117,103]⟩ : ByteArray),(⟨#[115,101,112]⟩ : ByteArray),(⟨#[111,99,116]⟩ : ByteArray),(⟨#[110,111,118]⟩ : ByteArray),(⟨#[100,101,99]⟩ : ByteArray)])⟩], .live [⟨2,1, .data (List.map cI [31,28,31,30,31,30,31,31,30,31,30,31])⟩], .live [⟨170,3, .data (List.map aY s6.2)⟩]]⟩) h1 ?_ (fun s6 y h2 => ?_)
 exact wk [0,1,2,3,4,5]
 refine aE (sq [0,1] (pm ?_))
 refine rP rfl (bK rfl rfl) (nx ?_)
 refine bR h2 rfl (fun hc h2 => ?_) (fun hc h2 => ?_)
 refine sk (aE (aG (aK (is := [0,1,2,3,4,5,6,7,8,9,10,11,12,13,14,15,16]) [0,0,0,6,14,0,0,96,224,0,0,1536,3584,8190,16382,32767,65535] follows (by kernel_rfl) (tP rfl (aF (r := .own _ _ _) rfl) (tP rfl (aF (r := .own _ _ _) rfl) (tpm ?_))))))
 obtain ⟨v7,hv7,h2⟩ := bnd h2
 refine dG rfl w0 rfl (jU tok hv7 rfl rfl rfl rfl rfl rfl rfl rfl) rfl rfl rfl (dG rfl w0 rfl (lK tok (gV hv7).2.1 rfl rfl rfl rfl rfl rfl) rfl rfl rfl (tP rfl (aF (r := .own _ _ _) rfl) (tpm ?_)))
 obtain ⟨v8,hv8,h2⟩ := bnd h2
 refine dG rfl w0 rfl (jU tok hv8 rfl rfl rfl rfl rfl rfl rfl rfl) rfl rfl rfl (dG rfl w0 rfl (lK tok (gV hv8).2.1 rfl rfl rfl rfl rfl rfl) rfl rfl rfl (tP rfl (aF (r := .own _ _ _) rfl) (tpm ?_)))
 obtain ⟨v9,hv9,h2⟩ := bnd h2
 refine dG rfl w0 rfl (jU tok hv9 rfl rfl rfl rfl rfl rfl rfl rfl) rfl rfl rfl (dG rfl w0 rfl (lK tok (gV hv9).2.1 rfl rfl rfl rfl rfl rfl) rfl rfl rfl (tP rfl (pbl (C0 := [ze,z0,z0]) tok rfl rfl rfl) (aSh rfl w0 rfl (jV tok aY [(⟨v7,v8,v9⟩ : cA)] rfl rfl rfl (by repeat (first | exact Els.nil _ | apply Els.cons (cs := [.d _]) rfl rfl rfl | apply Els.cons (cs := _ :: _) rfl rfl rfl)) rfl rfl rfl (by repeat (first | exact cH.nil | (apply cH.cons; (repeat (first | exact fA.nil | apply fA.cons))))) rfl) ?_)))
 obtain ⟨hq10,h2⟩ := dM h2
 refine yB rfl w0 rfl (fL tok hq10 rfl rfl rfl rfl rfl rfl rfl rfl rfl rfl rfl rfl (fun _ => rfl)) (tP rfl (aR (r := .own _ _ _) rfl) (bS ?_))
 refine ⟨by kernel_rfl,?_⟩
 refine bB (aH (sr [0,1,2] (pm ?_)))
 refine rP rfl (bN rfl rfl) (pa (aX ?_))
 refine cB ?_
 cases h2
 refine ⟨_,rfl,?_⟩
 exact wk [0,1,2,3,4,5]
 refine bI (cC ?_)
 cases h2
 refine cD ⟨_,rfl,fun e => ?_⟩
 subst e
 refine aU (aH ?_)
 exact wk [0,1,2,5]
 refine sq [0,1,2,3] (rP rfl (aF (r := .own _ _ _) rfl) ?_)
 obtain ⟨v12,hv12,h0⟩ := bnd h0
 refine rL rfl (jU tok hv12 rfl rfl rfl rfl rfl rfl rfl rfl) (rL rfl (aQh tok (gV hv12).2.1 rfl rfl rfl rfl rfl rfl rfl rfl) (rw0 rfl w0 (aIx (cs := [.d _]) tok (⟨v12.Name,v12.Days,29⟩ : cA) (gV hv12).2.1 rfl rfl rfl rfl rfl rfl rfl rfl) (nx (sq [0,1] (rP rfl (aF (r := .own _ _ _) rfl) (rP rfl (aR (r := .own _ _ _) rfl) (nx (aD ?_))))))))
 cases h0
 exact eK (rs := [.tmp 0]) [3] rfl
theorem zB {p0 : ByteArray} {r : aI × Int} (h0 : kP p0 = some r) : FnC Tryz.prog 113 [] [dS p0] [.live [⟨170,3, .data (List.map aY r.1.Months)⟩], .live [⟨181,3, .data (List.map aP r.1.Rules)⟩]] (.tup [.agg [dS r.1.Name, .own 0 0 r.1.Months.length, .own 1 0 r.1.Rules.length,(dI r.1.Week)],(dI r.2)]) := by
 refine fi 36 tok Tryz.func113 ?_
 unfold kP at h0
 refine sq [0,1] (al 3 [ze,zl,zl,z0] tok ?_)
 refine pa (nx (aE (sq [0] ?_)))
 refine pm (nx (aG (sq [0,1] ?_)))
 refine rP rfl (tQ rfl rfl) (pa (nx ?_))
 refine bR h0 rfl (fun hc h0 => ?_) (fun hc h0 => ?_)
 refine sq [0,1,2,3,4,5,6,7] (pm ?_)
 obtain ⟨v1,hv1,h0⟩ := bnd h0
 refine rS rfl (aM 4 (zX hv1) rfl rfl rfl) (rP rfl (pbl (C0 := [ze,z0,z0]) tok rfl rfl rfl) (rS rfl (jV tok aY [(⟨(⟨#[109,49,51]⟩ : ByteArray),5,5⟩ : cA)] rfl rfl rfl (by repeat (first | exact Els.nil _ | apply Els.cons (cs := [.d _]) rfl rfl rfl | apply Els.cons (cs := _ :: _) rfl rfl rfl)) rfl rfl rfl (by repeat (first | exact cH.nil | (apply cH.cons; (repeat (first | exact fA.nil | apply fA.cons))))) rfl) ?_))
 obtain ⟨hq2,h0⟩ := dM h0
 refine rw1 rfl w0 rfl (fL tok hq2 rfl rfl rfl rfl rfl rfl rfl rfl rfl rfl rfl rfl (fun _ => rfl)) (rP rfl (pbl (C0 := [ze,zl,zl,z0]) tok rfl rfl rfl) (bst tok ?_))
 refine pa (nx ?_)
 refine wa 5 181 3 3 2 (aD ?_)
 refine bG (aT ?_)
 cases h0
 exact eK (rs := [.cell 2 31, .tmp 3]) [4,5] rfl
 refine sq [0,1] (rP rfl (tQ rfl rfl) (pa (nx ?_)))
 refine bR h0 rfl (fun hc h0 => ?_) (fun hc h0 => ?_)
 refine sq [0,1,2,3,4,5,6,7,8] (pm ?_)
 obtain ⟨v3,hv3,h0⟩ := bnd h0
 refine rS rfl (aM 4 (zX hv3) rfl rfl rfl) (rP rfl (pbl (C0 := [ze,z0,z0]) tok rfl rfl rfl) (rS rfl (jV tok aY [(⟨(⟨#[109,49,51]⟩ : ByteArray),29,30⟩ : cA)] rfl rfl rfl (by repeat (first | exact Els.nil _ | apply Els.cons (cs := [.d _]) rfl rfl rfl | apply Els.cons (cs := _ :: _) rfl rfl rfl)) rfl rfl rfl (by repeat (first | exact cH.nil | (apply cH.cons; (repeat (first | exact fA.nil | apply fA.cons))))) rfl) ?_))
 obtain ⟨hq4,h0⟩ := dM h0
 refine rw1 rfl w0 rfl (fL tok hq4 rfl rfl rfl rfl rfl rfl rfl rfl rfl rfl rfl rfl (fun _ => rfl)) ?_
 obtain ⟨v5,hv5,h0⟩ := bnd h0
 refine rS rfl (aM 5 (uB hv5) rfl rfl rfl) (rP rfl (pbl (C0 := [ze,zl,zl,z0]) tok rfl rfl rfl) (bst tok ?_))
 refine pa (nx (aD ?_))
 refine bG (aT ?_)
 cases h0
 exact eK (rs := [.cell 2 31, .tmp 3]) [4,5] rfl
 refine sq [0,1] (rP rfl (tQ rfl rfl) (pa (nx ?_)))
 refine bR h0 rfl (fun hc h0 => ?_) (fun hc h0 => ?_)
 refine sq [0,1,2,3,4,5] (pm ?_)
 obtain ⟨v6,hv6,h0⟩ := bnd h0
 refine rS rfl (aM 4 (zY hv6) rfl rfl rfl) ?_
 obtain ⟨v7,hv7,h0⟩ := bnd h0
 refine rS rfl (aM 5 (uB hv7) rfl rfl rfl) (rP rfl (pbl (C0 := [ze,zl,zl,z0]) tok rfl rfl rfl) (bst tok ?_))
 refine pa (nx (aD ?_))
 refine bG (aT ?_)
 cases h0
 exact eK (rs := [.cell 2 31, .tmp 3]) [4,5] rfl
 refine sq [0,1] (rP rfl (tQ rfl rfl) (pa (nx ?_)))
 refine bR h0 rfl (fun hc h0 => ?_) (fun hc h0 => ?_)
 refine sq [0,1,2,3,4,5,6] (pm ?_)
 obtain ⟨v8,hv8,h0⟩ := bnd h0
 refine rS rfl (aM 4 (zY hv8) rfl rfl rfl) (rP rfl (pbl (C0 := [z0,z0,(dB false)]) tok rfl rfl rfl) (rS rfl (nB 5 tok aP [(⟨4,0,true⟩ : bD)] rfl rfl rfl (by repeat (first | exact Els.nil _ | apply Els.cons (cs := [.d _]) rfl rfl rfl | apply Els.cons (cs := _ :: _) rfl rfl rfl)) rfl rfl rfl (by repeat (first | exact cH.nil | (apply cH.cons; (repeat (first | exact fA.nil | apply fA.cons))))) rfl rfl) (rP rfl (pbl (C0 := [ze,zl,zl,z0]) tok rfl rfl rfl) (bst tok ?_))))
 refine pa (nx (aD ?_))
 refine bG (aT ?_)
 cases h0
 exact eK (rs := [.cell 2 31, .tmp 3]) [4,5] rfl
 refine cW (bB (aH (sq [0,1,2] (rP rfl (pbl (C0 := [ze,zl,zl,z0]) tok rfl rfl rfl) (bst tok ?_)))))
 refine pa (nx ?_)
 refine wa 4 170 3 3 1 ?_
 refine wa 5 181 3 3 2 (aD ?_)
 cases h0
 exact eK (rs := [.cell 2 31, .tmp 3]) [4,5] rfl
theorem qA {p0 : cG} {p1 : List Int} {r : Int × cG} (h0 : gY p0 p1 = some r) : FnC Tryz.prog 56 [.live [⟨157,3, .av [[dL cU8 p0.code,(dI p0.at_), .d (.v (.int .u64 p0.seed))]]⟩]] [.ptr 0 0 1 0 0,(dL cI p1)] [.live [⟨157,3, .av [[dL cU8 r.2.code,(dI r.2.at_), .d (.v (.int .u64 r.2.seed))]]⟩]] (dI r.1) := by
 refine fi 12 tok Tryz.func56 ?_
 unfold gY at h0
 refine sq [0] (pa (nx (sq [0,1,2,3,4,5,6,7] ?_)))
 refine pm ?_
 refine rP rfl (aF (r := .ptr _ _ _ _ _) rfl) (pm ?_)
 refine rP rfl (aL tok rfl rfl rfl) ?_
 obtain ⟨v1,hv1,h0⟩ := bnd h0
 refine rw1 rfl w0 rfl (gK [0] 300 (eC hv1) rfl rfl) ?_
 obtain ⟨v2,hv2,h0⟩ := bnd h0
 refine rP rfl (cO tok hv2 rfl rfl rfl rfl rfl rfl) (lr tok ?_)
 refine pa (nx (aD ?_))
 cases h0
 exact aB7 (rs := [.tmp 4]) 1 rfl rfl
theorem eL {p0 : Int} {p1 : Int} {p2 : Int} {r : Bool} (h0 : dU p0 p1 p2 = some r) : FnC Tryz.prog 90 [] [dI p0,(dI p1),(dI p2)] [] (dB r) := by
 refine fi 15 tok Tryz.func90 ?_
 unfold dU at h0
 refine sq [0] (pa (nx (sq [0,1,2,3,4,5,6,7,8] ?_)))
 refine pm ?_
 refine pm ?_
 refine rP rfl (rF rfl rfl) (pm ?_)
 refine fI (u := 10) h0 rfl (fun hc h0 => ?_) (fun hc h0 => ?_)
 refine pm1 ?_
 refine pm1 ?_
 refine rp rfl (w1 rfl rfl rfl) rfl (gR rfl rfl) (pkt ?_)
 refine pa (nx (aD ?_))
 cases h0
 exact r0t 6 rfl
 iterate 3 refine k1 ?_
 refine pkf ?_
 refine pa (nx (aD ?_))
 cases h0
 exact r0t 6 rfl
theorem zE {p0 : Int} {p1 : Int} {r : Int} (h0 : oJ p0 p1 = some r) : FnC Tryz.prog 163 [] [dI p0,(dI p1)] [] (dI r) := by
 refine fi 14 tok Tryz.func163 ?_
 unfold oJ at h0
 refine sq [0] (pa (nx ?_))
 obtain ⟨v5,h1,h0⟩ := bnd h0
 refine bC ⟨aB ((fun _ => .dead)) 0 (dI v5),lks [.no, .no, .no]⟩ ?_ ?_
 refine aG ?_
 refine aZ (fun s3 => ⟨aB (aB ((fun _ => .dead)) 0 (dI s3.1)) 1 (dI s3.2),lks [.no, .no, .no]⟩) h1 ?_ (fun s3 y h2 => ?_)
 exact wk [0,1,2]
 refine aE (sq [0,1] (pm ?_))
 refine rP rfl (gO rfl rfl) (nx ?_)
 refine bR h2 rfl (fun hc h2 => ?_) (fun hc h2 => ?_)
 refine sk (aG (sq [0,1,2,3] (pm ?_)))
 refine pm ?_
 obtain ⟨hq4,h2⟩ := dM h2
 refine rP rfl (mB rfl rfl hq4) (pa (nx (sq [0,1] ?_)))
 refine pm ?_
 refine pa (nx (sr [0,1] ?_))
 refine pm ?_
 refine pa (aX ?_)
 refine bB (cB ?_)
 cases h2
 refine ⟨_,rfl,?_⟩
 exact wk [0,1,2]
 refine bI (cC ?_)
 cases h2
 refine cD ⟨_,rfl,fun e => ?_⟩
 subst e
 refine aU (aH ?_)
 exact wk [0,1,2]
 refine sq [0,1] (pm ?_)
 refine pa (nx (aD ?_))
 cases h0
 exact r0t 4 rfl
theorem zZ {p0 : List bD} {r : Int × Bool} (h0 : mY p0 = some r) : FnC Tryz.prog 166 [] [dL aP p0] [] (.tup [dI r.1,(dB r.2)]) := by
 refine fi 55 tok Tryz.func166 ?_
 unfold mY at h0
 refine sq [0,1] (pa ?_)
 refine pa (nx (sq [0] ?_))
 refine pa (nx ?_)
 obtain ⟨v23x,h1,h0⟩ := bnd h0
 refine eN v23x (fun v23 => ⟨aB (aB ((fun _ => .dead)) 0 (dL aP p0)) 4 (dI v23),lks [.no, .no, .no]⟩) ?_ ?_
 refine sq [0] (pa (nx (aG ?_)))
 refine aZ (fun s12 => ⟨aB (aB (aB ((fun _ => .dead)) 0 (dL aP p0)) 4 (dI s12.1)) 5 (dI s12.2),lks [.no, .no, .no]⟩) h1 ?_ (fun s12 y h2 => ?_)
 exact wk [0,1,2]
 refine aE (sq [0,1,2,3] (pm ?_))
 refine pm ?_
 refine rP rfl (aL tok rfl rfl rfl) (rP rfl (bK rfl rfl) (nx ?_))
 refine bR h2 rfl (fun hc h2 => ?_) (fun hc h2 => ?_)
 refine sk (aE (aG (aE ?_)))
 obtain ⟨v18,h3,h2⟩ := bnd h2
 refine bC ⟨aB (aB (aB (aB ((fun _ => .dead)) 0 (dL aP p0)) 4 (dI s12.1)) 5 (dI s12.2)) 33 (dB v18),lks [.no, .no, .no]⟩ ?_ ?_
 refine aK (is := [0,1,2,3,4,5,6,7,8,9,10,11,12,13,14,15,16,17,18,19,20,21]) [0,0,3,7,15,31,63,127,255,255,1023,2047,4095,255,255,24831,57599,123135,254207,524287,1048575,2097151] follows (by kernel_rfl) (tpm ?_)
 refine tpm ?_
 obtain ⟨v13,hv13,h3⟩ := bnd h3
 refine tP rfl (cO tok hv13 rfl rfl rfl rfl rfl rfl) (tfr tok ?_)
 refine tlr tok ?_
 obtain ⟨v14,hv14,h3⟩ := bnd h3
 refine mS rfl w0 rfl (dF 3 (eL hv14) rfl rfl rfl) (tP rfl (cE rfl) (tpm ?_))
 refine yA (u := 19) h3 rfl (fun hc h3 => ?_) (fun hc h3 => ?_)
 iterate 13 refine k2 ?_
 refine aCn ?_
 refine bS ?_
 refine ⟨by kernel_rfl,?_⟩
 refine aH ?_
 cases h3
 exact wk [0,1,2]
 refine aF1 ?_
 refine aF1 ?_
 obtain ⟨v15,hv15,h3⟩ := bnd h3
 refine rQ rfl (w1 rfl rfl rfl) rfl (cO tok hv15 rfl rfl rfl rfl rfl rfl) (aH0 tok ?_)
 refine aLw tok ?_
 refine aF1 ?_
 refine aF1 ?_
 obtain ⟨v16,hv16,h3⟩ := bnd h3
 refine rQ rfl (w1 rfl rfl rfl) rfl (cO tok hv16 rfl rfl rfl rfl rfl rfl) (aH0 tok ?_)
 refine aLw tok ?_
 refine rQ rfl (w1 rfl rfl rfl) rfl (hY rfl rfl) ?_
 obtain ⟨v17,hv17,h3⟩ := bnd h3
 refine mS rfl (w1 rfl rfl rfl) rfl (dF 3 (eL hv17) rfl rfl rfl) (rQ rfl (w1 rfl rfl rfl) rfl (cE rfl) (aFu ?_))
 refine bS ?_
 refine ⟨by kernel_rfl,?_⟩
 refine aH ?_
 cases h3
 refine lO.trans_ (kU (d := 23) (ds := cI v15.Rest) rfl (by repeat (first | exact Pre.z _ | apply Pre.t))) (lO.trans_ (kU (d := 28) (ds := cI v16.Every) rfl (by repeat (first | exact Pre.z _ | apply Pre.t))) ?_)
 exact wk [0,1,2]
 refine bP h2 rfl (fun hc h2 => ?_) (fun hc h2 => ?_)
 refine sq [0,1] (pa ?_)
 refine pa (nx (aD (aT ?_)))
 refine bG (aT ?_)
 cases h2
 refine fC ⟨_,rfl,fun e => ?_⟩
 subst e
 refine bG ?_
 replace h0 := jF h0
 refine aT ?_
 cases h0
 exact eI (rs := [.tmp 2, .tmp 3]) rfl
 refine sk (aE (aK (is := [0,1,2,3,4,5,6,9,10,11,12,13,7,8,14,15]) [0,0,0,0,12,28,60,126,255,0,0,1536,3584,7680,16383,32767] follows (by kernel_rfl) ?_))
 iterate 4 refine tpm ?_
 obtain ⟨v19,hv19,h2⟩ := bnd h2
 refine tP rfl (cO tok hv19 rfl rfl rfl rfl rfl rfl) (tfr tok ?_)
 refine tlr tok ?_
 refine tpm ?_
 refine tpm ?_
 obtain ⟨v20,hv20,h2⟩ := bnd h2
 refine tP rfl (cO tok hv20 rfl rfl rfl rfl rfl rfl) (tfr tok ?_)
 refine tlr tok ?_
 obtain ⟨v21,hv21,h2⟩ := bnd h2
 refine mS rfl w0 rfl (dF 3 (zE hv21) rfl rfl rfl) ?_
 obtain ⟨hq22,h2⟩ := dM h2
 refine tP rfl (sN rfl rfl hq22) (tP rfl (eG rfl rfl) (tpa ?_))
 refine bS ?_
 refine ⟨by kernel_rfl,?_⟩
 refine aH (sq [0,1] (pm ?_))
 refine rP rfl (gO rfl rfl) (nx ?_)
 refine bR h2 rfl (fun hc h2 => ?_) (fun hc h2 => ?_)
 refine sq [0,1] (pa ?_)
 refine pa (nx (aD ?_))
 refine bG (aT ?_)
 cases h2
 refine fC ⟨_,rfl,fun e => ?_⟩
 subst e
 refine bG ?_
 replace h0 := jF h0
 refine aT ?_
 cases h0
 exact eI (rs := [.tmp 2, .tmp 3]) rfl
 refine cW (bB (aH (sr [0,1,2] (pm ?_))))
 refine rP rfl (bN rfl rfl) (pa (aX ?_))
 refine cB ?_
 cases h2
 refine ⟨_,rfl,?_⟩
 exact wk [0,1,2]
 refine bI (cC ?_)
 cases h2
 refine cD ⟨_,rfl,fun e => ?_⟩
 subst e
 refine aU (aH ?_)
 refine ⟨_,rfl,?_⟩
 exact wk [0,1,2]
 rintro v23 rfl
 replace h0 := lZ h0
 refine sq [0,1,2,3,4,5] (pm ?_)
 refine pm ?_
 refine rP rfl (aL tok rfl rfl rfl) (rP rfl (gR rfl rfl) (pa ?_))
 refine pa (nx (aD ?_))
 cases h0
 exact eI (rs := [.tmp 2, .tmp 3]) rfl
theorem zR {p0 : Int} {r : Bool} (h0 : mU p0 = some r) : FnC Tryz.prog 168 [] [.d (.v (.int .u8 p0))] [] (dB r) := by
 refine fi 9 tok Tryz.func168 ?_
 unfold mU at h0
 refine sq [0] (pa (nx (sq [0,1,2,3,4,5,6] ?_)))
 refine pm ?_
 refine rP rfl (rF rfl rfl) (pm ?_)
 refine fI (u := 5) h0 rfl (fun hc h0 => ?_) (fun hc h0 => ?_)
 refine pm1 ?_
 refine rp rfl (w1 rfl rfl rfl) rfl (gR rfl rfl) (pkt ?_)
 refine pa (nx (aD ?_))
 cases h0
 exact r0t 2 rfl
 refine k1 ?_
 refine k1 ?_
 refine pkf ?_
 refine pa (nx (aD ?_))
 cases h0
 exact r0t 2 rfl
theorem aG6 {p0 : Int} {r : Bool} (h0 : pM p0 = some r) : FnC Tryz.prog 169 [] [.d (.v (.int .u8 p0))] [] (dB r) := by
 refine fi 9 tok Tryz.func169 ?_
 unfold pM at h0
 refine sq [0] (pa (nx (sq [0,1,2,3,4,5,6] ?_)))
 refine pm ?_
 refine rP rfl (rF rfl rfl) (pm ?_)
 refine fI (u := 5) h0 rfl (fun hc h0 => ?_) (fun hc h0 => ?_)
 refine pm1 ?_
 refine rp rfl (w1 rfl rfl rfl) rfl (gR rfl rfl) (pkt ?_)
 refine pa (nx (aD ?_))
 cases h0
 exact r0t 2 rfl
 refine k1 ?_
 refine k1 ?_
 refine pkf ?_
 refine pa (nx (aD ?_))
 cases h0
 exact r0t 2 rfl
theorem sP {p0 : ByteArray} {r : Bool} (h0 : kR p0 = some r) : FnC Tryz.prog 89 [] [dS p0] [] (dB r) := by
 refine fi 41 tok Tryz.func89 ?_
 unfold kR at h0
 refine sq [0] (pa (nx (aE ?_)))
 obtain ⟨v3,h1,h0⟩ := bnd h0
 refine bC ⟨aB (aB ((fun _ => .dead)) 0 (dS p0)) 16 (dB v3),lks [.no, .no, .no]⟩ ?_ ?_
 refine sr [0,1,2,3,4,5,6,7,8,9,10,11,12] (pm ?_)
 refine rP rfl (tQ rfl rfl) (pm ?_)
 refine fI (u := 6) h1 rfl (fun hc h1 => ?_) (fun hc h1 => ?_)
 iterate 3 refine k1 ?_
 refine pkt ?_
 refine pm ?_
 iterate 4 refine k1 ?_
 refine pkt (nx ?_)
 cases h1
 exact wk [0,1,2]
 refine pm1 ?_
 refine rp rfl (w1 rfl rfl rfl) rfl (vQ tok rfl rfl rfl) (rp rfl (w1 rfl rfl rfl) rfl (gO rfl rfl) (pkf ?_))
 refine pm ?_
 refine fI (u := 11) h1 rfl (fun hc h1 => ?_) (fun hc h1 => ?_)
 iterate 4 refine k1 ?_
 refine pkt (nx ?_)
 cases h1
 exact wk [0,1,2]
 refine pm1 ?_
 obtain ⟨v1,hv1,h1⟩ := bnd h1
 refine rp rfl (w1 rfl rfl rfl) rfl (aE7 tok hv1 rfl rfl rfl rfl) ?_
 obtain ⟨v2,hv2,h1⟩ := bnd h1
 refine rs rfl (w1 rfl rfl rfl) rfl (aM 3 (zR hv2) rfl rfl rfl) (rp rfl (w1 rfl rfl rfl) rfl (cE rfl) (pkf (nx ?_)))
 cases h1
 exact wk [0,1,2]
 refine bP h0 rfl (fun hc h0 => ?_) (fun hc h0 => ?_)
 refine sq [0] (pa (nx (aD (aT ?_))))
 cases h0
 exact r0t 2 rfl
 refine sk ?_
 obtain ⟨v18x,h1,h0⟩ := bnd h0
 refine eN v18x (fun v18 => ⟨(fun _ => .dead),lks [.no, .no, .no]⟩) ?_ ?_
 refine sq [0] (pa (nx (aG ?_)))
 refine aZ (fun s11 => ⟨aB (aB ((fun _ => .dead)) 0 (dS p0)) 3 (dI s11),lks [.no, .no, .no]⟩) h1 ?_ (fun s11 y h2 => ?_)
 exact wk [0,1,2]
 refine aE (sq [0,1,2,3] (pm ?_))
 refine pm ?_
 refine rP rfl (vQ tok rfl rfl rfl) (rP rfl (bK rfl rfl) (nx ?_))
 refine bR h2 rfl (fun hc h2 => ?_) (fun hc h2 => ?_)
 refine sk (aE (aG ?_))
 obtain ⟨v17,h3,h2⟩ := bnd h2
 refine bC ⟨aB (aB (aB ((fun _ => .dead)) 0 (dS p0)) 3 (dI s11)) 40 (dB v17),lks [.no, .no, .no]⟩ ?_ ?_
 refine sr [0,1,2,3,4,5,6,7,8,9,10,11,12,13,14,15,16,17] (pm ?_)
 refine pm ?_
 obtain ⟨v12,hv12,h3⟩ := bnd h3
 refine rP rfl (aE7 tok hv12 rfl rfl rfl rfl) ?_
 obtain ⟨v13,hv13,h3⟩ := bnd h3
 refine rS rfl (aM 3 (zR hv13) rfl rfl rfl) (rP rfl (cE rfl) (pm ?_))
 refine dQ (u := 28) h3 rfl (fun hc h3 => ?_) (fun hc h3 => ?_)
 refine pm1 ?_
 refine pm1 ?_
 obtain ⟨v14,hv14,h3⟩ := bnd h3
 refine rp rfl (w1 rfl rfl rfl) rfl (aE7 tok hv14 rfl rfl rfl rfl) ?_
 obtain ⟨v15,hv15,h3⟩ := bnd h3
 refine rs rfl (w1 rfl rfl rfl) rfl (aM 3 (aG6 hv15) rfl rfl rfl) (rp rfl (w1 rfl rfl rfl) rfl (cE rfl) (pkt ?_))
 refine pm ?_
 refine dQ (u := 35) h3 rfl (fun hc h3 => ?_) (fun hc h3 => ?_)
 refine pm1 ?_
 refine pm1 ?_
 obtain ⟨v16,hv16,h3⟩ := bnd h3
 refine rp rfl (w1 rfl rfl rfl) rfl (aE7 tok hv16 rfl rfl rfl rfl) (rp rfl (w1 rfl rfl rfl) rfl (eB rfl rfl) (pkt (nx ?_)))
 cases h3
 exact wk [0,1,2]
 iterate 4 refine k1 ?_
 refine pkf (nx ?_)
 cases h3
 exact wk [0,1,2]
 iterate 5 refine k1 ?_
 refine pkf ?_
 refine pm ?_
 iterate 4 refine k1 ?_
 refine pkf (nx ?_)
 cases h3
 exact wk [0,1,2]
 refine bP h2 rfl (fun hc h2 => ?_) (fun hc h2 => ?_)
 refine sq [0] (pa (nx (aD ?_)))
 refine bG (aT ?_)
 cases h2
 refine fC ⟨_,rfl,fun e => ?_⟩
 subst e
 refine bG ?_
 replace h0 := jF h0
 refine aT ?_
 cases h0
 exact r0t 2 rfl
 refine cW (bB (aH (sr [0,1,2] (pm ?_))))
 refine rP rfl (bN rfl rfl) (pa (aX ?_))
 refine cB ?_
 cases h2
 refine ⟨_,rfl,?_⟩
 exact wk [0,1,2]
 refine bI (cC ?_)
 cases h2
 refine cD ⟨_,rfl,fun e => ?_⟩
 subst e
 refine aU (aH ?_)
 refine ⟨_,rfl,?_⟩
 exact wk [0,1,2]
 rintro v18 rfl
 replace h0 := lZ h0
 refine sq [0] (pa (nx (aD ?_)))
 cases h0
 exact r0t 2 rfl
theorem aFj {p0 : List cA} {r : Bool} (h0 : nR p0 = some r) : FnC Tryz.prog 167 [] [dL aY p0] [] (dB r) := by
 refine fi 55 tok Tryz.func167 ?_
 unfold nR at h0
 refine sq [0] (pa (nx ?_))
 obtain ⟨v31x,h1,h0⟩ := bnd h0
 refine eN v31x (fun v31 => ⟨aB ((fun _ => .dead)) 0 (dL aY p0),lks [.no, .no, .no]⟩) ?_ ?_
 refine sq [0] (pa (nx (aG ?_)))
 refine aZ (fun s16 => ⟨aB (aB ((fun _ => .dead)) 0 (dL aY p0)) 3 (dI s16),lks [.no, .no, .no]⟩) h1 ?_ (fun s16 y h2 => ?_)
 exact wk [0,1,2]
 refine aE (sq [0,1,2,3] (pm ?_))
 refine pm ?_
 refine rP rfl (aL tok rfl rfl rfl) (rP rfl (bK rfl rfl) (nx ?_))
 refine bR h2 rfl (fun hc h2 => ?_) (fun hc h2 => ?_)
 refine sk ?_
 obtain ⟨v30x,h3,h2⟩ := bnd h2
 refine eN v30x (fun v30 => ⟨aB (aB ((fun _ => .dead)) 0 (dL aY p0)) 3 (dI s16),lks [.no, .no, .no]⟩) ?_ ?_
 refine aG (aE ?_)
 obtain ⟨v23,h4,h3⟩ := bnd h3
 refine bC ⟨aB (aB (aB ((fun _ => .dead)) 0 (dL aY p0)) 3 (dI s16)) 35 (dB v23),lks [.no, .no, .no]⟩ ?_ ?_
 refine sr [0,1,2,3,4,5,6,7,8,9,10,11,12,13,14,15,16,17,18,19,20,21,22,23,24] (pm ?_)
 refine pm ?_
 obtain ⟨v17,hv17,h4⟩ := bnd h4
 refine rP rfl (cO tok hv17 rfl rfl rfl rfl rfl rfl) (fr tok ?_)
 refine lr tok ?_
 obtain ⟨v18,hv18,h4⟩ := bnd h4
 refine rS rfl (aM 3 (sP hv18) rfl rfl rfl) (rP rfl (cE rfl) (pm ?_))
 refine dQ (u := 18) h4 rfl (fun hc h4 => ?_) (fun hc h4 => ?_)
 iterate 7 refine k1 ?_
 refine pkt ?_
 refine pm ?_
 iterate 7 refine k1 ?_
 refine pkt (nx ?_)
 cases h4
 exact wk [0,1,2]
 refine pm1 ?_
 refine pm1 ?_
 obtain ⟨v19,hv19,h4⟩ := bnd h4
 refine rp rfl (w1 rfl rfl rfl) rfl (cO tok hv19 rfl rfl rfl rfl rfl rfl) (fr1 tok ?_)
 refine lr1 tok ?_
 obtain ⟨v20,hv20,h4⟩ := bnd h4
 refine rs rfl (w1 rfl rfl rfl) rfl (aM 3 (eL hv20) rfl rfl rfl) (rp rfl (w1 rfl rfl rfl) rfl (cE rfl) (pkf ?_))
 refine pm ?_
 refine dQ (u := 27) h4 rfl (fun hc h4 => ?_) (fun hc h4 => ?_)
 iterate 7 refine k1 ?_
 refine pkt (nx ?_)
 cases h4
 refine lO.trans_ (kU (d := 22) (ds := cI v19.Days) rfl (by repeat (first | exact Pre.z _ | apply Pre.t))) ?_
 exact wk [0,1,2]
 refine pm1 ?_
 refine pm1 ?_
 obtain ⟨v21,hv21,h4⟩ := bnd h4
 refine rp rfl (w1 rfl rfl rfl) rfl (cO tok hv21 rfl rfl rfl rfl rfl rfl) (fr1 tok ?_)
 refine lr1 tok ?_
 obtain ⟨v22,hv22,h4⟩ := bnd h4
 refine rs rfl (w1 rfl rfl rfl) rfl (aM 3 (eL hv22) rfl rfl rfl) (rp rfl (w1 rfl rfl rfl) rfl (cE rfl) (pkf (nx ?_)))
 cases h4
 refine lO.trans_ (kU (d := 22) (ds := cI v19.Days) rfl (by repeat (first | exact Pre.z _ | apply Pre.t))) (lO.trans_ (kU (d := 31) (ds := cI v21.Leap) rfl (by repeat (first | exact Pre.z _ | apply Pre.t))) ?_)
 exact wk [0,1,2]
 refine bP h3 rfl (fun hc h3 => ?_) (fun hc h3 => ?_)
 refine sq [0] (pa (nx (aD (aT ?_))))
 refine bG ?_
 cases h3
 replace h2 := jF h2
 refine aT ?_
 cases h2
 refine fC ⟨_,rfl,fun e => ?_⟩
 subst e
 refine bG ?_
 replace h0 := jF h0
 refine aT ?_
 cases h0
 exact r0t 2 rfl
 refine sk (sq [0] (pa (nx (aG ?_))))
 refine aZ (fun s27 => ⟨aB (aB (aB ((fun _ => .dead)) 0 (dL aY p0)) 3 (dI s16)) 4 (dI s27),lks [.no, .no, .no]⟩) h3 ?_ (fun s27 y h4 => ?_)
 exact wk [0,1,2]
 refine aE (sq [0,1,2] (pm ?_))
 refine pm ?_
 refine rP rfl (bK rfl rfl) (nx ?_)
 refine bR h4 rfl (fun hc h4 => ?_) (fun hc h4 => ?_)
 refine sk (aE (aG (aE (aK (is := [0,1,2,3,4,5,6,7,8,9,10]) [0,0,3,7,15,0,0,96,224,480,1023] follows (by kernel_rfl) (tpm ?_)))))
 refine tpm ?_
 obtain ⟨v28,hv28,h4⟩ := bnd h4
 refine tP rfl (cO tok hv28 rfl rfl rfl rfl rfl rfl) (tfr tok ?_)
 refine tlr tok ?_
 refine tpm ?_
 refine tpm ?_
 obtain ⟨v29,hv29,h4⟩ := bnd h4
 refine tP rfl (cO tok hv29 rfl rfl rfl rfl rfl rfl) (tfr tok ?_)
 refine tlr tok ?_
 refine tP rfl (tQ rfl rfl) (bS ?_)
 refine ⟨by kernel_rfl,?_⟩
 refine aH ?_
 refine bR h4 rfl (fun hc h4 => ?_) (fun hc h4 => ?_)
 refine sq [0] (pa (nx (aD ?_)))
 refine bG (aT ?_)
 cases h4
 refine fC ⟨_,rfl,fun e => ?_⟩
 subst e
 refine bG (bG ?_)
 replace h2 := jF h2
 refine aT ?_
 cases h2
 refine fC ⟨_,rfl,fun e => ?_⟩
 subst e
 refine bG ?_
 replace h0 := jF h0
 refine aT ?_
 cases h0
 exact r0t 2 rfl
 refine cW (bB (aH (sr [0,1,2] (pm ?_))))
 refine rP rfl (bN rfl rfl) (pa (aX ?_))
 refine cB ?_
 cases h4
 refine ⟨_,rfl,?_⟩
 exact wk [0,1,2]
 refine bI (cC ?_)
 cases h4
 refine cD ⟨_,rfl,fun e => ?_⟩
 subst e
 refine aU ?_
 refine bB (aH ?_)
 refine ⟨_,rfl,?_⟩
 exact wk [0,1,2]
 rintro v30 rfl
 replace h2 := lZ h2
 refine sr [0,1,2] (pm ?_)
 refine rP rfl (bN rfl rfl) (pa (aX ?_))
 refine cB ?_
 cases h2
 refine ⟨_,rfl,?_⟩
 exact wk [0,1,2]
 refine bI (cC ?_)
 cases h2
 refine cD ⟨_,rfl,fun e => ?_⟩
 subst e
 refine aU (aH ?_)
 refine ⟨_,rfl,?_⟩
 exact wk [0,1,2]
 rintro v31 rfl
 replace h0 := lZ h0
 refine sq [0,1,2,3] (pm ?_)
 refine rP rfl (aL tok rfl rfl rfl) ?_
 obtain ⟨v32,hv32,h0⟩ := bnd h0
 refine rS rfl (aM 3 (eL hv32) rfl rfl rfl) (pa (nx (aD ?_)))
 cases h0
 exact r0t 2 rfl
theorem yH {p0 : aI} {r : Bool} (h0 : pW p0 = some r) : FnC Tryz.prog 88 [] [.ref (dR p0)] [] (dB r) := by
 refine fi 35 tok Tryz.func88 ?_
 unfold pW at h0
 refine sq [0] (pa (nx (sq [0,1,2,3,4,5,6,7,8,9] ?_)))
 refine pmr ?_
 refine nr ?_
 refine fr tok ?_
 refine lr tok ?_
 obtain ⟨v1,hv1,h0⟩ := bnd h0
 refine rS rfl (aM 3 (zZ hv1) rfl rfl rfl) (rP rfl (aF (r := .tup _) rfl) (rP rfl (aJ rfl rfl) (rP rfl (aJ rfl rfl) (pa ?_))))
 refine pa (nx (sq [0,1,2,3,4,5,6,7,8,9,10,11,12,13,14,15,16,17,18,19,20,21,22] ?_))
 refine pm ?_
 refine pm ?_
 refine dQ (u := 14) h0 rfl (fun hc h0 => ?_) (fun hc h0 => ?_)
 refine aGz ?_
 refine nr1 ?_
 refine fr1 tok ?_
 refine lr1 tok ?_
 obtain ⟨v2,hv2,h0⟩ := bnd h0
 refine rs rfl (w1 rfl rfl rfl) rfl (aM 3 (sP hv2) rfl rfl rfl) (pkt ?_)
 refine pm ?_
 refine dQ (u := 21) h0 rfl (fun hc h0 => ?_) (fun hc h0 => ?_)
 refine aGz ?_
 refine nr1 ?_
 refine fr1 tok ?_
 refine lr1 tok ?_
 obtain ⟨v3,hv3,h0⟩ := bnd h0
 refine rs rfl (w1 rfl rfl rfl) rfl (aM 3 (aFj hv3) rfl rfl rfl) (pkt ?_)
 refine pm ?_
 refine dQ (u := 28) h0 rfl (fun hc h0 => ?_) (fun hc h0 => ?_)
 refine aGz ?_
 refine nr1 ?_
 refine fr1 tok ?_
 refine lr1 tok ?_
 obtain ⟨v4,hv4,h0⟩ := bnd h0
 refine rs rfl (w1 rfl rfl rfl) rfl (aM 3 (eL hv4) rfl rfl rfl) (pkt ?_)
 refine pa (nx (aD ?_))
 cases h0
 exact r0t 2 rfl
 iterate 5 refine k1 ?_
 refine pkf ?_
 refine pa (nx (aD ?_))
 cases h0
 exact r0t 2 rfl
 iterate 5 refine k1 ?_
 refine pkf ?_
 refine pm ?_
 iterate 5 refine k1 ?_
 refine pkf ?_
 refine pa (nx (aD ?_))
 cases h0
 exact r0t 2 rfl
 iterate 5 refine k1 ?_
 refine pkf ?_
 refine pm ?_
 iterate 5 refine k1 ?_
 refine pkf ?_
 refine pm ?_
 iterate 5 refine k1 ?_
 refine pkf ?_
 refine pa (nx (aD ?_))
 cases h0
 exact r0t 2 rfl
theorem aFi {p0 : cG} {r : aI × cG} (h0 : nQ p0 = some r) : FnC Tryz.prog 140 [.live [⟨157,3, .av [[dL cU8 p0.code,(dI p0.at_), .d (.v (.int .u64 p0.seed))]]⟩]] [.ptr 0 0 1 0 0] [.live [⟨157,3, .av [[dL cU8 r.2.code,(dI r.2.at_), .d (.v (.int .u64 r.2.seed))]]⟩], .live [⟨170,3, .data (List.map aY r.1.Months)⟩], .live [⟨181,3, .data (List.map aP r.1.Rules)⟩]] (.agg [dS r.1.Name, .own 1 0 r.1.Months.length, .own 2 0 r.1.Rules.length,(dI r.1.Week)]) := by
 refine fi 85 tok Tryz.func140 ?_
 unfold nQ at h0
 refine sq [0] (al 3 [ze,zl,zl,z0] tok (nx (aE (sq [0,1] ?_))))
 refine rP rfl (aF (r := .ptr _ _ _ _ _) rfl) ?_
 obtain ⟨v1,hv1,h0⟩ := bnd h0
 refine rw1 rfl w0 rfl (gK [0] 300 (oU hv1) rfl rfl) (nx ?_)
 refine bP h0 rfl (fun hc h0 => ?_) (fun hc h0 => ?_)
 refine sq [0,1,2,3,4,5,6,7,8,9] (rP rfl (aF (r := .ptr _ _ _ _ _) rfl) ?_)
 obtain ⟨v2,hv2,h0⟩ := bnd h0
 refine rS rfl (aM 4 (zC hv2) rfl rfl rfl) ?_
 obtain ⟨v3,hv3,h0⟩ := bnd h0
 refine mD (yP (k := 4) (t' := aB (aB (aB ((fun _ => .dead)) 2 (.ptr 3 0 1 0 0)) 14 (.ptr 0 0 1 0 0)) 15 (dL cS v2)) rfl (FzL.nil)) (rw1 rfl w0 rfl (gK [0] 300 (aBx hv3) rfl rfl) ?_)
 obtain ⟨v4,hv4,h0⟩ := bnd h0
 refine rS rfl (aM 5 (zB hv4) rfl rfl rfl) (rP rfl (aF (r := .tup _) rfl) (rP rfl (aJ rfl rfl) (rP rfl (aJ rfl rfl) (al 7 [ze,zl,zl,z0] tok ?_))))
 refine bst tok ?_
 refine pa (nx (sq [0,1] ?_))
 refine rL rfl (aW tok rfl rfl rfl rfl) (bst tok (nx (aD (aT ?_))))
 cases h0
 exact aSf (rs := [.cell 2 31]) 1 [0,5,6] rfl
 refine sk (sq [0,1,2,3,4,5] (rP rfl (aF (r := .ptr _ _ _ _ _) rfl) ?_))
 obtain ⟨v5,hv5,h0⟩ := bnd h0
 refine rw1 rfl w0 rfl (gK [0] 300 (eC hv5) rfl rfl) (rP rfl (bN rfl rfl) (rP rfl (pbl (C0 := [ze,zl,zl,z0]) tok rfl rfl rfl) (al 4 [ze,zl,zl,z0] tok ?_)))
 refine bst tok (nx (sq [0,1,2,3] ?_))
 refine rP rfl (aF (r := .ptr _ _ _ _ _) rfl) ?_
 obtain ⟨v6,hv6,h0⟩ := bnd h0
 refine rw1 rfl w0 rfl (gK [0] 300 (eC hv6) rfl rfl) (rP rfl (bN rfl rfl) (pa (nx ?_)))
 obtain ⟨v23,h1,h0⟩ := bnd h0
 refine bC ⟨aB (aB (aB ((fun _ => .dead)) 0 (.ptr 0 0 1 0 0)) 2 (.ptr 3 0 1 0 0)) 5 (.ptr 4 0 1 0 0),lks [.live [⟨157,3, .av [[dL cU8 v23.1.code,(dI v23.1.at_), .d (.v (.int .u64 v23.1.seed))]]⟩], .no, .no, .live [⟨31,4, .av [[ze,zl,zl,z0]]⟩], .live [⟨31,4, .av [[dS (⟨#[111,119,110]⟩ : ByteArray), .own 5 0 (v23.2).length,zl,(dI (w64 (1 + v5.1)))]]⟩], .live [⟨170,3, .data (List.map aY v23.2)⟩]]⟩ ?_ ?_
 refine sq [0] (pa (nx (aG ?_)))
 refine aZ (fun s15 => ⟨aB (aB (aB (aB (aB ((fun _ => .dead)) 0 (.ptr 0 0 1 0 0)) 2 (.ptr 3 0 1 0 0)) 5 (.ptr 4 0 1 0 0)) 6 (dI (w64 (1 + v6.1)))) 7 (dI s15.1),lks [.live [⟨157,3, .av [[dL cU8 s15.2.1.code,(dI s15.2.1.at_), .d (.v (.int .u64 s15.2.1.seed))]]⟩], .no, .no, .live [⟨31,4, .av [[ze,zl,zl,z0]]⟩], .live [⟨31,4, .av [[dS (⟨#[111,119,110]⟩ : ByteArray), .own 5 0 (s15.2.2).length,zl,(dI (w64 (1 + v5.1)))]]⟩], .live [⟨170,3, .data (List.map aY s15.2.2)⟩]]⟩) h1 ?_ (fun s15 y h2 => ?_)
 refine lO.trans_ (sW 5 rfl 170 3 (kb := 4) (j := 1) rfl rfl (by repeat (first | exact Spl.z _ | apply Spl.t | apply Spl.d))) ?_
 exact wk [0,1,2,3,4,5]
 refine aE (sq [0,1,2] (pm ?_))
 refine pm ?_
 refine rP rfl (gR rfl rfl) (nx ?_)
 refine bR h2 rfl (fun hc h2 => ?_) (fun hc h2 => ?_)
 refine sk (aE (aG (sq [0,1,2,3,4,5,6,7,8] (pm ?_))))
 obtain ⟨v16,hv16,h2⟩ := bnd h2
 refine rS rfl (aM 6 (aDu hv16) rfl rfl rfl) ?_
 obtain ⟨hq17,h2⟩ := dM h2
 refine rP rfl (aNs rfl rfl hq17) (rP rfl (aF (r := .ptr _ _ _ _ _) rfl) ?_)
 obtain ⟨v18,hv18,h2⟩ := bnd h2
 refine rw1 rfl w0 rfl (gK [0] 300 (eC hv18) rfl rfl) (rP rfl (bN rfl rfl) (rP rfl (pbl (C0 := [ze,z0,z0]) tok rfl rfl rfl) (al 6 [ze,z0,z0] tok ?_)))
 refine bst tok (nx (sq [0,1,2,3] ?_))
 refine fa tok ?_
 refine ld tok ?_
 refine fa tok ?_
 refine bs1 tok (nx ?_)
 obtain ⟨v21,h3,h2⟩ := bnd h2
 refine bC ⟨aB (aB (aB (aB (aB (aB ((fun _ => .dead)) 0 (.ptr 0 0 1 0 0)) 2 (.ptr 3 0 1 0 0)) 5 (.ptr 4 0 1 0 0)) 6 (dI (w64 (1 + v6.1)))) 7 (dI s15.1)) 8 (.ptr 5 0 1 0 0),lks [.live [⟨157,3, .av [[dL cU8 v21.1.code,(dI v21.1.at_), .d (.v (.int .u64 v21.1.seed))]]⟩], .no, .no, .live [⟨31,4, .av [[ze,zl,zl,z0]]⟩], .live [⟨31,4, .av [[dS (⟨#[111,119,110]⟩ : ByteArray), .own 6 0 (s15.2.2).length,zl,(dI (w64 (1 + v5.1)))]]⟩], .live [⟨170,3, .av [[dS v21.2.Name,(dI v21.2.Days),(dI v21.2.Leap)]]⟩], .live [⟨170,3, .data (List.map aY s15.2.2)⟩]]⟩ ?_ ?_
 refine sq [0,1] (rP rfl (aF (r := .ptr _ _ _ _ _) rfl) ?_)
 obtain ⟨v19,hv19,h3⟩ := bnd h3
 refine rw1 rfl w0 rfl (gK [0] 300 (oU hv19) rfl rfl) (nx ?_)
 refine bP h3 rfl (fun hc h3 => ?_) (fun hc h3 => ?_)
 refine sr [0,1,2,3,4] (rP rfl (aF (r := .ptr _ _ _ _ _) rfl) ?_)
 obtain ⟨v20,hv20,h3⟩ := bnd h3
 refine rw1 rfl w0 rfl (gK [0] 300 (eC hv20) rfl rfl) (rP rfl (bN rfl rfl) (fa tok ?_))
 refine bs1 tok (nx ?_)
 cases h3
 exact wk [0,1,2,3,4,6,5]
 refine sk ?_
 cases h3
 exact wk [0,1,2,3,4,6,5]
 refine sr [0,1,2,3,4,5,6] (fa tok ?_)
 refine ld tok ?_
 refine rL rfl (aW tok rfl rfl rfl rfl) (rS rfl (jV tok aY [v21.2] rfl rfl rfl (by repeat (first | exact Els.nil _ | apply Els.cons (cs := [.d _]) rfl rfl rfl | apply Els.cons (cs := _ :: _) rfl rfl rfl)) rfl rfl rfl (by repeat (first | exact cH.nil | (apply cH.cons; (repeat (first | exact fA.nil | apply fA.cons))))) rfl) ?_)
 obtain ⟨hq22,h2⟩ := dM h2
 refine rw1 rfl w0 rfl (fL tok hq22 rfl rfl rfl rfl rfl rfl rfl rfl rfl rfl rfl rfl (fun _ => rfl)) (fa tok ?_)
 refine rw0 rfl w0 (kY (cs := [.own _ _ _]) tok rfl rfl rfl rfl rfl rfl rfl) (aX (bB (aH (sr [0,1,2] (pm ?_)))))
 refine rP rfl (bN rfl rfl) (pa (aX ?_))
 refine cB ?_
 cases h2
 refine ⟨_,rfl,?_⟩
 exact wk [0,1,2,3,4,6]
 refine bI (cC ?_)
 cases h2
 refine cD ⟨_,rfl,fun e => ?_⟩
 subst e
 refine aU (aH ?_)
 exact wk [0,1,2,3,4,5]
 obtain ⟨v35,h1,h0⟩ := bnd h0
 refine bC ⟨aB (aB ((fun _ => .dead)) 2 (.ptr 3 0 1 0 0)) 5 (.ptr 4 0 1 0 0),lks [.live [⟨157,3, .av [[dL cU8 v35.1.code,(dI v35.1.at_), .d (.v (.int .u64 v35.1.seed))]]⟩], .no, .no, .live [⟨31,4, .av [[ze,zl,zl,z0]]⟩], .live [⟨31,4, .av [[dS (⟨#[111,119,110]⟩ : ByteArray), .own 5 0 (v23.2).length, .own 6 0 (v35.2).length,(dI (w64 (1 + v5.1)))]]⟩], .live [⟨170,3, .data (List.map aY v23.2)⟩], .live [⟨181,3, .data (List.map aP v35.2)⟩]]⟩ ?_ ?_
 refine sq [0,1,2] (rP rfl (aF (r := .ptr _ _ _ _ _) rfl) ?_)
 obtain ⟨v24,hv24,h1⟩ := bnd h1
 refine rw1 rfl w0 rfl (gK [0] 300 (eC hv24) rfl rfl) (pa (nx (aG ?_)))
 refine aZ (fun s30 => ⟨aB (aB (aB (aB ((fun _ => .dead)) 0 (.ptr 0 0 1 0 0)) 2 (.ptr 3 0 1 0 0)) 5 (.ptr 4 0 1 0 0)) 9 (dI s30.1),lks [.live [⟨157,3, .av [[dL cU8 s30.2.1.code,(dI s30.2.1.at_), .d (.v (.int .u64 s30.2.1.seed))]]⟩], .no, .no, .live [⟨31,4, .av [[ze,zl,zl,z0]]⟩], .live [⟨31,4, .av [[dS (⟨#[111,119,110]⟩ : ByteArray), .own 5 0 (v23.2).length, .own 6 0 (s30.2.2).length,(dI (w64 (1 + v5.1)))]]⟩], .live [⟨170,3, .data (List.map aY v23.2)⟩], .live [⟨181,3, .data (List.map aP s30.2.2)⟩]]⟩) h1 ?_ (fun s30 y h2 => ?_)
 refine lO.trans_ (sW 6 rfl 181 3 (kb := 4) (j := 2) rfl rfl (by repeat (first | exact Spl.z _ | apply Spl.t | apply Spl.d))) ?_
 exact wk [0,1,2,3,4,5,6]
 refine aE (sq [0,1] (pm ?_))
 refine rP rfl (gO rfl rfl) (nx ?_)
 refine bR h2 rfl (fun hc h2 => ?_) (fun hc h2 => ?_)
 refine sk (aE (aG (sq [0,1,2,3,4,5] (rP rfl (aF (r := .ptr _ _ _ _ _) rfl) (rS rfl (jV tok cI [1,2,3,4,5,8,33,100] rfl rfl rfl (by repeat (first | exact Els.nil _ | apply Els.cons (cs := [.d _]) rfl rfl rfl | apply Els.cons (cs := _ :: _) rfl rfl rfl)) rfl rfl rfl (by repeat (first | exact cH.nil | (apply cH.cons; (repeat (first | exact fA.nil | apply fA.cons))))) rfl) ?_)))))
 obtain ⟨v31,hv31,h2⟩ := bnd h2
 refine rw1 rfl w0 rfl (gK [0] 300 (qA hv31) rfl rfl) (rP rfl (pbl (C0 := [z0,z0,(dB false)]) tok rfl rfl rfl) (al 7 [z0,z0,(dB false)] tok ?_))
 refine bst tok (nx (sq [0,1,2,3,4,5] ?_))
 refine rP rfl (aF (r := .ptr _ _ _ _ _) rfl) (fa tok ?_)
 refine ld tok ?_
 obtain ⟨v32,hv32,h2⟩ := bnd h2
 refine rw1 rfl w0 rfl (gK [0] 300 (eC hv32) rfl rfl) (fa tok ?_)
 refine bs1 tok (nx (sq [0,1,2,3,4] ?_))
 refine rP rfl (aF (r := .ptr _ _ _ _ _) rfl) ?_
 obtain ⟨v33,hv33,h2⟩ := bnd h2
 refine rw1 rfl w0 rfl (gK [0] 300 (oU hv33) rfl rfl) (rP rfl (cE rfl) (fa tok ?_))
 refine bs1 tok (nx (sr [0,1,2,3,4,5,6] ?_))
 refine fa tok ?_
 refine ld tok ?_
 refine rL rfl (aW tok rfl rfl rfl rfl) (rS rfl (jV tok aP [(⟨v31.1,v32.1, !v33.1⟩ : bD)] rfl rfl rfl (by repeat (first | exact Els.nil _ | apply Els.cons (cs := [.d _]) rfl rfl rfl | apply Els.cons (cs := _ :: _) rfl rfl rfl)) rfl rfl rfl (by repeat (first | exact cH.nil | (apply cH.cons; (repeat (first | exact fA.nil | apply fA.cons))))) rfl) ?_)
 obtain ⟨hq34,h2⟩ := dM h2
 refine rw1 rfl w0 rfl (fL tok hq34 rfl rfl rfl rfl rfl rfl rfl rfl rfl rfl rfl rfl (fun _ => rfl)) (fa tok ?_)
 refine rw0 rfl w0 (kY (cs := [.own _ _ _]) tok rfl rfl rfl rfl rfl rfl rfl) (aX (bB (aH (sr [0,1,2] (pm ?_)))))
 refine rP rfl (hY rfl rfl) (pa (aX ?_))
 refine cB ?_
 cases h2
 refine ⟨_,rfl,?_⟩
 exact wk [0,1,2,3,4,5,6]
 refine bI (cC ?_)
 cases h2
 refine cD ⟨_,rfl,fun e => ?_⟩
 subst e
 refine aU (aH ?_)
 exact wk [0,1,2,3,4,5,6]
 obtain ⟨v37,h1,h0⟩ := bnd h0
 refine bC ⟨aB (aB ((fun _ => .dead)) 2 (.ptr 3 0 1 0 0)) 5 (.ptr 4 0 1 0 0),lks [.live [⟨157,3, .av [[dL cU8 v35.1.code,(dI v35.1.at_), .d (.v (.int .u64 v35.1.seed))]]⟩], .no, .no, .live [⟨31,4, .av [[ze,zl,zl,z0]]⟩], .live [⟨31,4, .av [[dS (⟨#[111,119,110]⟩ : ByteArray), .own 5 0 (v23.2).length, .own 6 0 (v37).length,(dI (w64 (1 + v5.1)))]]⟩], .live [⟨170,3, .data (List.map aY v23.2)⟩], .live [⟨181,3, .data (List.map aP v37)⟩]]⟩ ?_ ?_
 refine sq [0,1] ?_
 obtain ⟨v36,hv36,h1⟩ := bnd h1
 refine rS rfl (fU 7 (yH hv36) rfl rfl) (rP rfl (cE rfl) (nx ?_))
 refine bP h1 rfl (fun hc h1 => ?_) (fun hc h1 => ?_)
 refine sr [0,1,2] (rS rfl (eM 7 tok rfl rfl rfl rfl) (fa tok ?_))
 refine rw0 rfl w0 (kY (cs := [.own _ _ _]) tok rfl rfl rfl rfl rfl rfl rfl) (nx ?_)
 cases h1
 exact wk [0,1,2,3,4,5,7]
 refine sk ?_
 cases h1
 exact wk [0,1,2,3,4,5,6]
 refine sq [0,1] (rL rfl (aW tok rfl rfl rfl rfl) (bst tok (nx (aD ?_))))
 cases h0
 exact aSf (rs := [.cell 2 31]) 1 [0,5,6] rfl
theorem pN {p0 : Int} {r : Bool} (h0 : hZ p0 = some r) : FnC Tryz.prog 91 [] [dI p0] [] (dB r) := by
 refine fi 5 tok Tryz.func91 ?_
 unfold hZ at h0
 refine sq [0] (pa (nx (sq [0,1,2] ?_)))
 refine pm ?_
 obtain ⟨v1,hv1,h0⟩ := bnd h0
 refine rS rfl (aM 3 (eL hv1) rfl rfl rfl) (pa (nx (aD ?_)))
 cases h0
 exact r0t 2 rfl
theorem aHk {p0 : aI} {p1 : Int} {r : Bool} (h0 : pY p0 p1 = some r) : FnC Tryz.prog 170 [] [.ref (dR p0),(dI p1)] [] (dB r) := by
 refine fi 17 tok Tryz.func170 ?_
 unfold pY at h0
 refine sq [0] (pa (nx (sq [0,1,2,3,4,5,6,7,8,9,10,11,12] ?_)))
 refine pm ?_
 obtain ⟨v1,hv1,h0⟩ := bnd h0
 refine rS rfl (aM 3 (eL hv1) rfl rfl rfl) (pm ?_)
 refine dQ (u := 7) h0 rfl (fun hc h0 => ?_) (fun hc h0 => ?_)
 refine pm1 ?_
 refine aGz ?_
 refine nr1 ?_
 refine fr1 tok ?_
 refine lr1 tok ?_
 refine rp rfl (w1 rfl rfl rfl) rfl (aL tok rfl rfl rfl) (rp rfl (w1 rfl rfl rfl) rfl (eG rfl rfl) (rp rfl (w1 rfl rfl rfl) rfl (gR rfl rfl) (pkt ?_)))
 refine pa (nx (aD ?_))
 cases h0
 exact r0t 4 rfl
 iterate 8 refine k1 ?_
 refine pkf ?_
 refine pa (nx (aD ?_))
 cases h0
 exact r0t 4 rfl
theorem aFk {p0 : aI} {p1 : Int} {r : Int} (h0 : jJ p0 p1 = some r) : FnC Tryz.prog 171 [] [.ref (dR p0),(dI p1)] [] (dI r) := by
 refine fi 22 tok Tryz.func171 ?_
 unfold jJ at h0
 refine sq [0] (pa (nx (sq [0,1,2,3,4,5,6,7,8,9] ?_)))
 refine pmr ?_
 refine nr ?_
 refine fr tok ?_
 refine lr tok ?_
 obtain ⟨v1,hv1,h0⟩ := bnd h0
 refine rS rfl (aM 3 (zZ hv1) rfl rfl rfl) (rP rfl (aF (r := .tup _) rfl) (rP rfl (aJ rfl rfl) (rP rfl (aJ rfl rfl) (pa ?_))))
 refine pa (nx (sq [0,1,2,3,4,5,6,7] ?_))
 iterate 3 refine pm ?_
 obtain ⟨v2,hv2,h0⟩ := bnd h0
 refine rS rfl (aM 3 (zE hv2) rfl rfl rfl) ?_
 obtain ⟨hq3,h0⟩ := dM h0
 refine rP rfl (sN rfl rfl hq3) (pm ?_)
 refine rP rfl (eG rfl rfl) (pa (nx (aD ?_)))
 cases h0
 exact r0t 4 rfl
theorem aCg {p0 : aI} {p1 : Int} {r : Bool} (h0 : oP p0 p1 = some r) : FnC Tryz.prog 237 [] [.ref (dR p0),(dI p1)] [] (dB r) := by
 refine fi 44 tok Tryz.func237 ?_
 unfold oP at h0
 refine sq [0] (pa (nx (sq [0] ?_)))
 refine pa (nx ?_)
 obtain ⟨v13,h1,h0⟩ := bnd h0
 refine bC ⟨aB ((fun _ => .dead)) 5 (dB v13),lks [.no, .no, .no]⟩ ?_ ?_
 refine sq [0] (pa (nx (aG ?_)))
 refine aZ (fun s7 => ⟨aB (aB (aB (aB ((fun _ => .dead)) 0 (.ref (dR p0))) 1 (dI p1)) 5 (dB s7.1)) 6 (dI s7.2),lks [.no, .no, .no]⟩) h1 ?_ (fun s7 y h2 => ?_)
 exact wk [0,1,2]
 refine aE (sq [0,1,2,3,4,5,6] (pm ?_))
 refine pmr ?_
 refine nr ?_
 refine fr tok ?_
 refine lr tok ?_
 refine rP rfl (aL tok rfl rfl rfl) (rP rfl (bK rfl rfl) (nx ?_))
 refine bR h2 rfl (fun hc h2 => ?_) (fun hc h2 => ?_)
 refine sk ?_
 obtain ⟨v12,h3,h2⟩ := bnd h2
 refine bC ⟨aB (aB (aB (aB ((fun _ => .dead)) 0 (.ref (dR p0))) 1 (dI p1)) 5 (dB v12)) 6 (dI s7.2),lks [.no, .no, .no]⟩ ?_ ?_
 refine aG (aE (aK (is := [0,1,2,3,4,5,6,7,8,9,10,11,12,13,14,15,16,17,18]) [0,0,2,6,14,0,62,126,254,511,0,1024,3072,7168,0,31744,64512,130048,262143] follows (by kernel_rfl) (tpm ?_)))
 refine aD3 ?_
 refine tnr ?_
 refine tfr tok ?_
 refine tlr tok ?_
 refine tpm ?_
 obtain ⟨v8,hv8,h3⟩ := bnd h3
 refine tP rfl (cO tok hv8 rfl rfl rfl rfl rfl rfl) (tfr tok ?_)
 refine tlr tok ?_
 obtain ⟨hq9,h3⟩ := dM h3
 refine tP rfl (mB rfl rfl hq9) (aD3 ?_)
 refine tnr ?_
 refine tfr tok ?_
 refine tlr tok ?_
 refine tpm ?_
 obtain ⟨v10,hv10,h3⟩ := bnd h3
 refine tP rfl (cO tok hv10 rfl rfl rfl rfl rfl rfl) (tfr tok ?_)
 refine tlr tok ?_
 refine tP rfl (iT rfl rfl) (bS ?_)
 refine ⟨by kernel_rfl,?_⟩
 refine aH ?_
 refine bR h3 rfl (fun hc h3 => ?_) (fun hc h3 => ?_)
 refine sr [0,1,2,3,4,5,6,7,8] (pmr ?_)
 refine nr ?_
 refine fr tok ?_
 refine lr tok ?_
 refine pm ?_
 obtain ⟨v11,hv11,h3⟩ := bnd h3
 refine rP rfl (cO tok hv11 rfl rfl rfl rfl rfl rfl) (fr tok ?_)
 refine lr tok ?_
 refine pa (aX ?_)
 refine bB (aH ?_)
 cases h3
 exact wk [0,1,2]
 refine cW (bB (aH ?_))
 cases h3
 exact wk [0,1,2]
 refine sr [0,1,2] (pm ?_)
 refine rP rfl (bN rfl rfl) (pa (aX ?_))
 refine cB ?_
 cases h2
 refine ⟨_,rfl,?_⟩
 exact wk [0,1,2]
 refine bI (cC ?_)
 cases h2
 refine cD ⟨_,rfl,fun e => ?_⟩
 subst e
 refine aU (aH ?_)
 exact wk [0,1,2]
 refine sq [0,1] (pm ?_)
 refine pa (nx (aD ?_))
 cases h0
 exact r0t 4 rfl
theorem aLo {p0 : Int} {p1 : Int} {r : Int} (h0 : sR p0 p1 = some r) : FnC Tryz.prog 238 [] [dI p0,(dI p1)] [] (dI r) := by
 refine fi 10 tok Tryz.func238 ?_
 unfold sR at h0
 refine sq [0] (pa (nx (aE (sq [0,1,2] ?_))))
 refine pm ?_
 refine pm ?_
 refine rP rfl (bK rfl rfl) (nx ?_)
 refine bR h0 rfl (fun hc h0 => ?_) (fun hc h0 => ?_)
 refine sq [0,1] (pm ?_)
 refine pa (nx (aD (aT ?_)))
 cases h0
 exact r0t 4 rfl
 refine sk (sq [0,1] (pm ?_))
 refine pa (nx (aD ?_))
 cases h0
 exact r0t 4 rfl
theorem aHj {p0 : aI} {p1 : Int} {p2 : Int} {p3 : Int} {p4 : Int} {r : Int} (h0 : gD p0 p1 p2 p3 p4 = some r) : FnC Tryz.prog 172 [] [.ref (dR p0),(dI p1),(dI p2),(dI p3),(dI p4)] [] (dI r) := by
 refine fi 62 tok Tryz.func172 ?_
 unfold gD at h0
 refine sq [0] (pa (nx (sq [0] ?_)))
 refine pa (nx (sq [0] ?_))
 refine pa (nx ?_)
 obtain ⟨v7,h1,h0⟩ := bnd h0
 refine bC ⟨aB (aB (aB (aB ((fun _ => .dead)) 0 (.ref (dR p0))) 4 (dI p4)) 11 (dI v7.1)) 12 (dI v7.2),lks [.no, .no, .no]⟩ ?_ ?_
 refine sq [0,1] (pm ?_)
 refine pa (nx (aG ?_))
 refine aZ (fun s4 => ⟨aB (aB (aB (aB (aB (aB (aB ((fun _ => .dead)) 0 (.ref (dR p0))) 2 (dI p2)) 3 (dI p3)) 4 (dI p4)) 11 (dI s4.1)) 12 (dI s4.2.1)) 13 (dI s4.2.2),lks [.no, .no, .no]⟩) h1 ?_ (fun s4 y h2 => ?_)
 exact wk [0,1,2]
 refine aE (sq [0,1,2] (pm ?_))
 refine pm ?_
 refine rP rfl (bK rfl rfl) (nx ?_)
 refine bR h2 rfl (fun hc h2 => ?_) (fun hc h2 => ?_)
 refine sk ?_
 obtain ⟨v6,h3,h2⟩ := bnd h2
 refine bC ⟨aB (aB (aB (aB (aB (aB (aB ((fun _ => .dead)) 0 (.ref (dR p0))) 2 (dI p2)) 3 (dI p3)) 4 (dI p4)) 11 (dI v6)) 12 (dI (w64 (s4.2.1 + 1)))) 13 (dI s4.2.2),lks [.no, .no, .no]⟩ ?_ ?_
 refine aG (sq [0,1,2] (pm ?_))
 refine rP rfl (bN rfl rfl) (pa (nx (sq [0,1,2] ?_)))
 refine pmr ?_
 refine pm ?_
 obtain ⟨v5,hv5,h3⟩ := bnd h3
 refine rS rfl (aM 3 (aCg hv5) rfl rfl rfl) (nx ?_)
 refine bP h3 rfl (fun hc h3 => ?_) (fun hc h3 => ?_)
 refine sr [0,1,2] (pm ?_)
 refine rP rfl (bN rfl rfl) (pa (aX ?_))
 refine bB (aH ?_)
 cases h3
 exact wk [0,1,2]
 refine cW (bB (aH ?_))
 cases h3
 exact wk [0,1,2]
 refine sr [0,1,2,3] (pm ?_)
 refine pm ?_
 refine rP rfl (bN rfl rfl) (pa (aX ?_))
 refine cB ?_
 cases h2
 refine ⟨_,rfl,?_⟩
 exact wk [0,1,2]
 refine bI (cC ?_)
 cases h2
 refine cD ⟨_,rfl,fun e => ?_⟩
 subst e
 refine aU (aH ?_)
 exact wk [0,1,2]
 refine sq [0,1,2,3,4,5,6] (pmr ?_)
 refine nr ?_
 refine fr tok ?_
 refine lr tok ?_
 refine pm ?_
 obtain ⟨v8,hv8,h0⟩ := bnd h0
 refine rP rfl (cO tok hv8 rfl rfl rfl rfl rfl rfl) (par (nx (aE (aG (sq [0,1,2,3,4] ?_)))))
 refine pm ?_
 refine rP rfl (eG rfl rfl) (pm ?_)
 refine rP rfl (gO rfl rfl) (pa (nx ?_))
 refine bR h0 rfl (fun hc h0 => ?_) (fun hc h0 => ?_)
 refine sq [0,1,2,3,4] (pmr ?_)
 refine nr ?_
 refine fr tok ?_
 refine lr tok ?_
 refine pa (nx (aD ?_))
 refine bG (aT ?_)
 cases h0
 exact r0t 10 rfl
 refine sq [0,1,2,3,4] (pm ?_)
 refine rP rfl (eG rfl rfl) (pm ?_)
 refine rP rfl (bK rfl rfl) (pa (nx ?_))
 refine bR h0 rfl (fun hc h0 => ?_) (fun hc h0 => ?_)
 refine sq [0,1,2,3,4] (pmr ?_)
 refine nr ?_
 refine fr tok ?_
 refine lr tok ?_
 refine pa (nx (aD ?_))
 refine bG (aT ?_)
 cases h0
 exact r0t 10 rfl
 refine cW (bB (aH (aE (aK (is := [0,1,2,3,4,5,6,7,8,9]) [0,1,3,7,0,16,48,112,255,511] follows (by kernel_rfl) (aD3 ?_)))))
 refine tnr ?_
 refine tfr tok ?_
 refine tlr tok ?_
 refine aD3 ?_
 refine tnr ?_
 refine tfr tok ?_
 refine tlr tok ?_
 obtain ⟨v9,hv9,h0⟩ := bnd h0
 refine mS rfl w0 rfl (dF 3 (aLo hv9) rfl rfl rfl) (tpa ?_)
 refine bS ?_
 refine ⟨by kernel_rfl,?_⟩
 refine aH (aD ?_)
 cases h0
 exact r0t 10 rfl
theorem aCf {p0 : aI} {p1 : Int} {p2 : Int} {r : Int} (h0 : oO p0 p1 p2 = some r) : FnC Tryz.prog 191 [] [.ref (dR p0),(dI p1),(dI p2)] [] (dI r) := by
 refine fi 26 tok Tryz.func191 ?_
 unfold oO at h0
 refine sq [0] (pa (nx (aE (sq [0,1,2] ?_))))
 refine pmr ?_
 refine pm ?_
 obtain ⟨v1,hv1,h0⟩ := bnd h0
 refine rS rfl (aM 3 (aCg hv1) rfl rfl rfl) (nx ?_)
 refine bP h0 rfl (fun hc h0 => ?_) (fun hc h0 => ?_)
 refine sq [0,1,2,3,4,5,6,7,8] (pmr ?_)
 refine nr ?_
 refine fr tok ?_
 refine lr tok ?_
 refine pm ?_
 obtain ⟨v2,hv2,h0⟩ := bnd h0
 refine rP rfl (cO tok hv2 rfl rfl rfl rfl rfl rfl) (fr tok ?_)
 refine lr tok ?_
 refine pa (nx (aD (aT ?_)))
 cases h0
 exact r0t 6 rfl
 refine sk (sq [0,1,2,3,4,5,6,7,8] (pmr ?_))
 refine nr ?_
 refine fr tok ?_
 refine lr tok ?_
 refine pm ?_
 obtain ⟨v3,hv3,h0⟩ := bnd h0
 refine rP rfl (cO tok hv3 rfl rfl rfl rfl rfl rfl) (fr tok ?_)
 refine lr tok ?_
 refine pa (nx (aD ?_))
 cases h0
 exact r0t 6 rfl
theorem aHi {p0 : aI} {p1 : List Int} {p2 : Int} {p3 : Int} {r : qQ × Bool} (h0 : pX p0 p1 p2 p3 = some r) : FnC Tryz.prog 239 [] [.ref (dR p0),(dL cI p1),(dI p2),(dI p3)] [] (.tup [.agg [dI r.1.Year,(dI r.1.Month),(dI r.1.Shown),(dI r.1.Right)],(dB r.2)]) := by
 refine fi 49 tok Tryz.func239 ?_
 unfold pX at h0
 refine sq [0,1] (al 3 [z0,z0,z0,z0] tok ?_)
 refine pa (nx (sq [0,1,2,3,4,5,6,7,8] ?_))
 refine pm ?_
 refine rP rfl (aL tok rfl rfl rfl) (pmr ?_)
 refine nr ?_
 refine fr tok ?_
 refine lr tok ?_
 refine rP rfl (aL tok rfl rfl rfl) ?_
 obtain ⟨hq1,h0⟩ := dM h0
 refine rP rfl (sN rfl rfl hq1) (pa (nx (sq [0,1,2,3,4,5,6,7,8,9] ?_)))
 refine pm ?_
 refine pm ?_
 refine rP rfl (bN rfl rfl) (pmr ?_)
 refine pm ?_
 refine pm ?_
 obtain ⟨v2,hv2,h0⟩ := bnd h0
 refine rS rfl (aM 4 (aCf hv2) rfl rfl rfl) (rP rfl (pbl (C0 := [z0,z0,z0,z0]) tok rfl rfl rfl) (al 4 [z0,z0,z0,z0] tok ?_))
 refine bst tok (nx (aE ?_))
 refine aK (is := [0,1,2,3,4,5,6,7,8,9,10,11,12,13,14,15]) [0,0,0,6,0,16,48,112,240,510,0,2046,4095,8191,16383,32767] follows (by kernel_rfl) ?_
 iterate 3 refine tpm ?_
 obtain ⟨hq3,h0⟩ := dM h0
 refine tP rfl (mB rfl rfl hq3) (aD3 ?_)
 refine tnr ?_
 refine tfr tok ?_
 refine tlr tok ?_
 refine tP rfl (aL tok rfl rfl rfl) (tP rfl (eG rfl rfl) (tpm ?_))
 refine tP rfl (bN rfl rfl) ?_
 obtain ⟨v4,hv4,h0⟩ := bnd h0
 refine tP rfl (cO tok hv4 rfl rfl rfl rfl rfl rfl) (tlr tok ?_)
 refine tfa tok ?_
 refine qH rfl w0 (kY (cs := [.d _]) tok rfl rfl rfl rfl rfl rfl rfl) (bS ?_)
 refine ⟨by kernel_rfl,?_⟩
 refine aH (aE (aK (is := [0,1,2,3,4,5,6,7]) [0,0,2,0,8,30,1,127] follows (by kernel_rfl) (dG rfl w0 rfl (aW tok rfl rfl rfl rfl) rfl rfl rfl (tfa tok ?_))))
 refine tld tok ?_
 refine tfa tok ?_
 refine tld tok ?_
 refine tP rfl (eB rfl rfl) (qH rfl w0 (kY (cs := _ :: _) tok rfl rfl rfl rfl rfl rfl rfl) (tpa ?_))
 refine bS ?_
 refine ⟨by kernel_rfl,?_⟩
 refine aH (aD ?_)
 cases h0
 exact eI (rs := [.cell 8 177, .tmp 9]) rfl
theorem aHh {p0 : aI} {p1 : List Int} {p2 : Int} {r : Int} (h0 : mZ p0 p1 p2 = some r) : FnC Tryz.prog 173 [] [.ref (dR p0),(dL cI p1),(dI p2)] [] (dI r) := by
 refine fi 38 tok Tryz.func173 ?_
 unfold mZ at h0
 refine sq [0] (pa (nx (sq [0] ?_)))
 refine pa (nx ?_)
 obtain ⟨v17,h1,h0⟩ := bnd h0
 refine bC ⟨aB ((fun _ => .dead)) 7 (dI v17),lks [.no, .no, .no]⟩ ?_ ?_
 refine sq [0] (pa (nx (aG ?_)))
 refine aZ (fun s9 => ⟨aB (aB (aB (aB (aB ((fun _ => .dead)) 0 (.ref (dR p0))) 1 (dL cI p1)) 2 (dI p2)) 7 (dI s9.1)) 8 (dI s9.2),lks [.no, .no, .no]⟩) h1 ?_ (fun s9 y h2 => ?_)
 exact wk [0,1,2]
 refine aE (sq [0,1,2] (pm ?_))
 refine pm ?_
 refine rP rfl (bK rfl rfl) (nx ?_)
 refine bR h2 rfl (fun hc h2 => ?_) (fun hc h2 => ?_)
 refine sk ?_
 obtain ⟨v16,h3,h2⟩ := bnd h2
 refine bC ⟨aB (aB (aB (aB (aB ((fun _ => .dead)) 0 (.ref (dR p0))) 1 (dL cI p1)) 2 (dI p2)) 7 (dI v16)) 8 (dI s9.2),lks [.no, .no, .no]⟩ ?_ ?_
 refine aG (sq [0] (pa (nx (aG ?_))))
 refine aZ (fun s13 => ⟨aB (aB (aB (aB (aB (aB ((fun _ => .dead)) 0 (.ref (dR p0))) 1 (dL cI p1)) 2 (dI p2)) 7 (dI s13.1)) 8 (dI s9.2)) 9 (dI s13.2),lks [.no, .no, .no]⟩) h3 ?_ (fun s13 y h4 => ?_)
 exact wk [0,1,2]
 refine aE (sq [0,1,2,3,4,5,6] (pm ?_))
 refine pmr ?_
 refine nr ?_
 refine fr tok ?_
 refine lr tok ?_
 refine rP rfl (aL tok rfl rfl rfl) (rP rfl (bK rfl rfl) (nx ?_))
 refine bR h4 rfl (fun hc h4 => ?_) (fun hc h4 => ?_)
 refine sk ?_
 obtain ⟨v15,h5,h4⟩ := bnd h4
 refine bC ⟨aB (aB (aB (aB (aB (aB ((fun _ => .dead)) 0 (.ref (dR p0))) 1 (dL cI p1)) 2 (dI p2)) 7 (dI v15)) 8 (dI s9.2)) 9 (dI s13.2),lks [.no, .no, .no]⟩ ?_ ?_
 refine aG (sq [0,1,2,3,4,5,6,7,8,9,10] (pmr ?_))
 iterate 3 refine pm ?_
 obtain ⟨v14,hv14,h5⟩ := bnd h5
 refine rS rfl (aM 3 (aHi hv14) rfl rfl rfl) (rP rfl (aF (r := .tup _) rfl) (rP rfl (aJ rfl rfl) (rP rfl (aJ rfl rfl) (al 3 [z0,z0,z0,z0] tok ?_))))
 refine bst tok ?_
 refine pa (nx (sq [0] ?_))
 refine pm (nx ?_)
 refine bP h5 rfl (fun hc h5 => ?_) (fun hc h5 => ?_)
 refine sr [0,1,2] (pm ?_)
 refine rP rfl (bN rfl rfl) (pa (aX ?_))
 refine bB (aH ?_)
 cases h5
 exact wk [0,1,2]
 refine cW (bB (aH ?_))
 cases h5
 exact wk [0,1,2]
 refine sr [0,1,2] (pm ?_)
 refine rP rfl (bN rfl rfl) (pa (aX ?_))
 refine cB ?_
 cases h4
 refine ⟨_,rfl,?_⟩
 exact wk [0,1,2]
 refine bI (cC ?_)
 cases h4
 refine cD ⟨_,rfl,fun e => ?_⟩
 subst e
 refine aU ?_
 refine bB (aH ?_)
 exact wk [0,1,2]
 refine sr [0,1,2] (pm ?_)
 refine rP rfl (bN rfl rfl) (pa (aX ?_))
 refine cB ?_
 cases h2
 refine ⟨_,rfl,?_⟩
 exact wk [0,1,2]
 refine bI (cC ?_)
 cases h2
 refine cD ⟨_,rfl,fun e => ?_⟩
 subst e
 refine aU (aH ?_)
 exact wk [0,1,2]
 refine sq [0,1] (pm ?_)
 refine pa (nx (aD ?_))
 cases h0
 exact r0t 6 rfl
theorem aIy {p0 : aI} {p1 : Int} {r : List Int × Int × Int} (h0 : mF p0 p1 = some r) : FnC Tryz.prog 92 [] [.agg [dS p0.Name,(dL aY p0.Months),(dL aP p0.Rules),(dI p0.Week)],(dI p1)] [.live [⟨2,1, .data (List.map cI r.1)⟩]] (.tup [.own 0 0 r.1.length,(dI r.2.1),(dI r.2.2)]) := by
 refine fi 43 tok Tryz.func92 ?_
 unfold mF at h0
 refine sq [0,1,2,3] (bxx 3 ?_)
 iterate 3 refine pa ?_
 refine nx (aE (sq [0,1] ?_))
 obtain ⟨v1,hv1,h0⟩ := bnd h0
 refine rS rfl (fU 4 (yH hv1) rfl rfl) (rP rfl (cE rfl) (nx ?_))
 refine bP h0 rfl (fun hc h0 => ?_) (fun hc h0 => ?_)
 refine sq [0,1,2] ?_
 iterate 3 refine pa ?_
 refine nx (cM (dE 4 rfl 2 1 (d := 4) rfl) (aD (aT ?_)))
 cases h0
 exact eK (rs := [.tmp 4, .tmp 5, .tmp 6]) [4] rfl
 refine sk (aE (sq [0,1,2] (pm ?_)))
 obtain ⟨v2,hv2,h0⟩ := bnd h0
 refine rS rfl (fU 4 (aHk hv2) rfl rfl) (rP rfl (cE rfl) (nx ?_))
 refine bP h0 rfl (fun hc h0 => ?_) (fun hc h0 => ?_)
 refine sq [0,1,2] ?_
 iterate 3 refine pa ?_
 refine nx (cM (dE 4 rfl 2 1 (d := 4) rfl) (aD (aT ?_)))
 cases h0
 exact eK (rs := [.tmp 4, .tmp 5, .tmp 6]) [4] rfl
 refine sk (sq [0,1,2] (pm ?_))
 obtain ⟨v3,hv3,h0⟩ := bnd h0
 refine rS rfl (fU 4 (aFk hv3) rfl rfl) (pa (nx (sq [0,1] ?_)))
 refine rS rfl (eM 4 tok rfl rfl rfl rfl) (rP rfl (aR (r := .own _ _ _) rfl) (nx ?_))
 obtain ⟨v20,h1,h0⟩ := bnd h0
 refine bC ⟨aB (aB (aB ((fun _ => .dead)) 2 (.ptr 3 0 1 0 0)) 7 (dI v3)) 8 (.own 4 0 (v20).length),lks [.no, .no, .no, .live [⟨31,4, .av [[dS p0.Name,(dL aY p0.Months),(dL aP p0.Rules),(dI p0.Week)]]⟩], .live [⟨2,1, .data (List.map cI v20)⟩]]⟩ ?_ ?_
 refine sq [0] (pa (nx (aG ?_)))
 refine aZ (fun s12 => ⟨aB (aB (aB (aB (aB ((fun _ => .dead)) 1 (dI p1)) 2 (.ptr 3 0 1 0 0)) 7 (dI v3)) 8 (.own 4 0 (s12.2).length)) 9 (dI s12.1),lks [.no, .no, .no, .live [⟨31,4, .av [[dS p0.Name,(dL aY p0.Months),(dL aP p0.Rules),(dI p0.Week)]]⟩], .live [⟨2,1, .data (List.map cI s12.2)⟩]]⟩) h1 ?_ (fun s12 y h2 => ?_)
 exact wk [0,1,2,3,4]
 refine aE (sq [0,1,2] (pm ?_))
 refine pm ?_
 refine rP rfl (bK rfl rfl) (nx ?_)
 refine bR h2 rfl (fun hc h2 => ?_) (fun hc h2 => ?_)
 refine sk ?_
 obtain ⟨v19,h3,h2⟩ := bnd h2
 refine bC ⟨aB (aB (aB (aB (aB ((fun _ => .dead)) 1 (dI p1)) 2 (.ptr 3 0 1 0 0)) 7 (dI v3)) 8 (.own 4 0 (v19).length)) 9 (dI s12.1),lks [.no, .no, .no, .live [⟨31,4, .av [[dS p0.Name,(dL aY p0.Months),(dL aP p0.Rules),(dI p0.Week)]]⟩], .live [⟨2,1, .data (List.map cI v19)⟩]]⟩ ?_ ?_
 refine aG (sq [0] (pa (nx (aG ?_))))
 refine aZ (fun s16 => ⟨aB (aB (aB (aB (aB (aB ((fun _ => .dead)) 1 (dI p1)) 2 (.ptr 3 0 1 0 0)) 7 (dI v3)) 8 (.own 4 0 (s16.2).length)) 9 (dI s12.1)) 10 (dI s16.1),lks [.no, .no, .no, .live [⟨31,4, .av [[dS p0.Name,(dL aY p0.Months),(dL aP p0.Rules),(dI p0.Week)]]⟩], .live [⟨2,1, .data (List.map cI s16.2)⟩]]⟩) h3 ?_ (fun s16 y h4 => ?_)
 exact wk [0,1,2,3,4]
 refine aE (sq [0,1,2,3,4] (pm ?_))
 refine fa tok ?_
 refine ld tok ?_
 refine rP rfl (aL tok rfl rfl rfl) (rP rfl (bK rfl rfl) (nx ?_))
 refine bR h4 rfl (fun hc h4 => ?_) (fun hc h4 => ?_)
 refine sk (aE (aG (sr [0,1,2,3,4,5,6,7,8] (rP rfl (aF (r := .own _ _ _) rfl) ?_))))
 iterate 4 refine pm ?_
 obtain ⟨v17,hv17,h4⟩ := bnd h4
 refine rS rfl (fU 5 (aHj hv17) rfl rfl) (rS rfl (jV tok cI [v17] rfl rfl rfl (by repeat (first | exact Els.nil _ | apply Els.cons (cs := [.d _]) rfl rfl rfl | apply Els.cons (cs := _ :: _) rfl rfl rfl)) rfl rfl rfl (by repeat (first | exact cH.nil | (apply cH.cons; (repeat (first | exact fA.nil | apply fA.cons))))) rfl) ?_)
 obtain ⟨hq18,h4⟩ := dM h4
 refine rw1 rfl w0 rfl (fL tok hq18 rfl rfl rfl rfl rfl rfl rfl rfl rfl rfl rfl rfl (fun _ => rfl)) (rP rfl (aR (r := .own _ _ _) rfl) (aX (bB (aH (sr [0,1,2] (pm ?_))))))
 refine rP rfl (bN rfl rfl) (pa (aX ?_))
 refine cB ?_
 cases h4
 refine ⟨_,rfl,?_⟩
 exact wk [0,1,2,3,4]
 refine bI (cC ?_)
 cases h4
 refine cD ⟨_,rfl,fun e => ?_⟩
 subst e
 refine aU ?_
 refine bB (aH ?_)
 exact wk [0,1,2,3,4]
 refine sr [0,1,2] (pm ?_)
 refine rP rfl (bN rfl rfl) (pa (aX ?_))
 refine cB ?_
 cases h2
 refine ⟨_,rfl,?_⟩
 exact wk [0,1,2,3,4]
 refine bI (cC ?_)
 cases h2
 refine cD ⟨_,rfl,fun e => ?_⟩
 subst e
 refine aU (aH ?_)
 exact wk [0,1,2,3,4]
 refine sq [0,1,2,3,4,5,6] (rP rfl (aF (r := .own _ _ _) rfl) (rP rfl (aF (r := .own _ _ _) rfl) (pm ?_)))
 obtain ⟨v21,hv21,h0⟩ := bnd h0
 refine rS rfl (fU 5 (aHh hv21) rfl rfl) (rP rfl (aR (r := .own _ _ _) rfl) (pa ?_))
 refine pa (nx (aD ?_))
 cases h0
 exact eK (rs := [.tmp 4, .tmp 5, .tmp 6]) [4] rfl
theorem aCd {p0 : Int} {r : Int} (h0 : oL p0 = some r) : FnC Tryz.prog 174 [] [dI p0] [] (.d (.v (.int .u64 r))) := by
 refine fi 10 tok Tryz.func174 ?_
 unfold oL at h0
 refine sq [0] (pa (nx (aE (sq [0,1] ?_))))
 refine pm ?_
 refine rP rfl (bK rfl rfl) (nx ?_)
 refine bR h0 rfl (fun hc h0 => ?_) (fun hc h0 => ?_)
 refine sq [0,1,2,3] (pm ?_)
 refine rP rfl (aG0 tok rfl rfl rfl rfl rfl) (rP rfl (aNv rfl) (pa (nx (aD (aT ?_)))))
 cases h0
 exact r0t 2 rfl
 refine sk (sq [0,1,2] (pm ?_))
 refine rP rfl (aG0 tok rfl rfl rfl rfl rfl) (pa (nx (aD ?_)))
 cases h0
 exact r0t 2 rfl
theorem tV {p0 : Int} {p1 : Int} {r : aA × Bool} (h0 : eV p0 p1 = some r) : FnC Tryz.prog 93 [] [dI p0,(dI p1)] [] (.tup [.agg [dI r.1.Num,(dI r.1.Den)],(dB r.2)]) := by
 refine fi 53 tok Tryz.func93 ?_
 unfold eV at h0
 refine sq [0,1] (al 3 [z0,z0] tok ?_)
 refine pa (nx (sq [0,1,2] ?_))
 refine pm ?_
 obtain ⟨v1,hv1,h0⟩ := bnd h0
 refine rS rfl (aM 4 (aCd hv1) rfl rfl rfl) (pa (nx (sq [0,1,2] ?_)))
 refine pm ?_
 obtain ⟨v2,hv2,h0⟩ := bnd h0
 refine rS rfl (aM 4 (aCd hv2) rfl rfl rfl) (pa (nx (sq [0,1] ?_)))
 refine pm ?_
 refine pa (nx (sq [0,1] ?_))
 refine pm ?_
 refine pa (nx ?_)
 obtain ⟨v7,h1,h0⟩ := bnd h0
 refine bC ⟨aB (aB (aB (aB (aB (aB ((fun _ => .dead)) 0 (dI p0)) 1 (dI p1)) 4 (.ptr 3 0 1 0 0)) 6 (.d (.v (.int .u64 v1)))) 7 (.d (.v (.int .u64 v2)))) 8 (.d (.v (.int .u64 v7))),lks [.no, .no, .no, .live [⟨62,2, .av [[z0,z0]]⟩]]⟩ ?_ ?_
 refine aG ?_
 refine aZ (fun s5 => ⟨aB (aB (aB (aB (aB (aB (aB ((fun _ => .dead)) 0 (dI p0)) 1 (dI p1)) 4 (.ptr 3 0 1 0 0)) 6 (.d (.v (.int .u64 v1)))) 7 (.d (.v (.int .u64 v2)))) 8 (.d (.v (.int .u64 s5.1)))) 9 (.d (.v (.int .u64 s5.2))),lks [.no, .no, .no, .live [⟨62,2, .av [[z0,z0]]⟩]]⟩) h1 ?_ (fun s5 y h2 => ?_)
 exact wk [0,1,2,3]
 refine aE (sq [0,1] (pm ?_))
 refine rP rfl (gO rfl rfl) (nx ?_)
 refine bR h2 rfl (fun hc h2 => ?_) (fun hc h2 => ?_)
 refine sk (aG (sq [0,1,2,3] (pm ?_)))
 refine pm ?_
 obtain ⟨hq6,h2⟩ := dM h2
 refine rP rfl (mB rfl rfl hq6) (pa (nx (sq [0,1] ?_)))
 refine pm ?_
 refine pa (nx (sr [0,1] ?_))
 refine pm ?_
 refine pa (aX ?_)
 refine bB (cB ?_)
 cases h2
 refine ⟨_,rfl,?_⟩
 exact wk [0,1,2,3]
 refine bI (cC ?_)
 cases h2
 refine cD ⟨_,rfl,fun e => ?_⟩
 subst e
 refine aU (aH ?_)
 exact wk [0,1,2,3]
 refine sq [0,1,2,3] (pm ?_)
 refine pm ?_
 obtain ⟨hq8,h0⟩ := dM h0
 refine rP rfl (aB5 rfl rfl hq8) (pa (nx (sq [0,1,2,3] ?_)))
 refine pm ?_
 refine pm ?_
 obtain ⟨hq9,h0⟩ := dM h0
 refine rP rfl (aB5 rfl rfl hq9) (pa (nx (aE ?_)))
 obtain ⟨v10,h1,h0⟩ := bnd h0
 refine bC ⟨aB (aB (aB (aB (aB (aB ((fun _ => .dead)) 0 (dI p0)) 1 (dI p1)) 4 (.ptr 3 0 1 0 0)) 6 (.d (.v (.int .u64 (IntKind.u64.wrap (v1.tdiv v7)))))) 7 (.d (.v (.int .u64 (IntKind.u64.wrap (v2.tdiv v7)))))) 36 (dB v10),lks [.no, .no, .no, .live [⟨62,2, .av [[z0,z0]]⟩]]⟩ ?_ ?_
 refine sr [0,1,2,3,4,5] (pm ?_)
 refine rP rfl (gO rfl rfl) (pm ?_)
 refine fI (u := 33) h1 rfl (fun hc h1 => ?_) (fun hc h1 => ?_)
 refine k1 ?_
 refine k1 ?_
 refine pkt (nx ?_)
 cases h1
 exact wk [0,1,2,3]
 refine pm1 ?_
 refine rp rfl (w1 rfl rfl rfl) rfl (gO rfl rfl) (pkf (nx ?_))
 cases h1
 exact wk [0,1,2,3]
 refine bP h0 rfl (fun hc h0 => ?_) (fun hc h0 => ?_)
 refine sq [0,1,2] (rP rfl (pbl (C0 := [z0,z0]) tok rfl rfl rfl) (bst tok ?_))
 refine pa (nx (aD (aT ?_)))
 cases h0
 exact eI (rs := [.cell 4 62, .tmp 5]) rfl
 refine sk (sq [0,1,2,3,4,5,6] (pm ?_))
 refine rP rfl (aG1 tok rfl rfl rfl rfl rfl) (pm ?_)
 refine rP rfl (aG1 tok rfl rfl rfl rfl rfl) (rP rfl (pbl (C0 := [z0,z0]) tok rfl rfl rfl) (al 4 [z0,z0] tok ?_))
 refine bst tok (nx ?_)
 obtain ⟨v11,h1,h0⟩ := bnd h0
 refine bC ⟨aB (aB ((fun _ => .dead)) 4 (.ptr 3 0 1 0 0)) 11 (.ptr 4 0 1 0 0),lks [.no, .no, .no, .live [⟨62,2, .av [[z0,z0]]⟩], .live [⟨62,2, .av [[dI v11.Num,(dI v11.Den)]]⟩]]⟩ ?_ ?_
 refine sq [0,1,2,3,4] (pm ?_)
 refine rP rfl (bK rfl rfl) (pm ?_)
 refine rP rfl (bK rfl rfl) (rP rfl (aNr tok rfl rfl rfl rfl) (nx ?_))
 refine bP h1 rfl (fun hc h1 => ?_) (fun hc h1 => ?_)
 refine sr [0,1,2,3,4] (fa tok ?_)
 refine ld tok ?_
 refine rP rfl (uT rfl) (fa tok ?_)
 refine bs1 tok (nx ?_)
 cases h1
 exact wk [0,1,2,3,4]
 refine sk ?_
 cases h1
 exact wk [0,1,2,3,4]
 refine sq [0,1,2] (rL rfl (aW tok rfl rfl rfl rfl) (bst tok ?_))
 refine pa (nx (aD ?_))
 cases h0
 exact eI (rs := [.cell 4 62, .tmp 5]) rfl
theorem aFm  {r : iD} (h0 : nT  = some r) : FnC Tryz.prog 95 [] [] [] (.agg [dI r.LowDriver,(dI r.HighDriver),(dI r.LowDriven),(dI r.HighDriven),(dI r.Stages)]) := by
 refine fi 2 tok Tryz.func95 ?_
 unfold nT at h0
 refine sq [0] (al 3 [z0,z0,z0,z0,z0] tok (nx (sq [0,1] ?_)))
 refine rP rfl (pbl (C0 := [z0,z0,z0,z0,z0]) tok rfl rfl rfl) (bst tok (nx (aD ?_)))
 cases h0
 exact eI (rs := [.cell 0 119]) rfl
theorem tW {p0 : Int} {r : Int} (h0 : jH p0 = some r) : FnC Tryz.prog 164 [] [dI p0] [] (dI r) := by
 refine fi 8 tok Tryz.func164 ?_
 unfold jH at h0
 refine sq [0] (pa (nx (aE (sq [0,1] ?_))))
 refine pm ?_
 refine rP rfl (bK rfl rfl) (nx ?_)
 refine bR h0 rfl (fun hc h0 => ?_) (fun hc h0 => ?_)
 refine sq [0,1,2] (pm ?_)
 refine rP rfl (uT rfl) (pa (nx (aD (aT ?_))))
 cases h0
 exact r0t 2 rfl
 refine sk (sq [0,1] (pm ?_))
 refine pa (nx (aD ?_))
 cases h0
 exact r0t 2 rfl
theorem sS {p0 : aA} {r : Bool} (h0 : lM p0 = some r) : FnC Tryz.prog 81 [] [.agg [dI p0.Num,(dI p0.Den)]] [] (dB r) := by
 refine fi 20 tok Tryz.func81 ?_
 unfold lM at h0
 refine sq [0,1] (bxx 3 ?_)
 refine pa (nx (aE ?_))
 refine aK (is := [0,1,2,3,4,5,6,7,8,9,10,12,13,11,14,15,16,17]) [0,1,3,7,15,31,63,127,255,511,1023,2047,511,4607,16383,32767,65535,131071] follows (by kernel_rfl) (tfa tok ?_)
 refine tld tok ?_
 obtain ⟨v1,hv1,h0⟩ := bnd h0
 refine mS rfl w0 rfl (dF 4 (eL hv1) rfl rfl rfl) (tpm ?_)
 refine yA (u := 6) h0 rfl (fun hc h0 => ?_) (fun hc h0 => ?_)
 refine dG rfl (w1 rfl rfl rfl) rfl (aEb tok rfl rfl rfl rfl rfl rfl rfl) rfl rfl rfl (dG rfl (w1 rfl rfl rfl) rfl (xB tok rfl rfl rfl rfl rfl) rfl rfl rfl ?_)
 obtain ⟨v2,hv2,h0⟩ := bnd h0
 refine mS rfl (w1 rfl rfl rfl) rfl (dF 4 (eL hv2) rfl rfl rfl) (aCn ?_)
 refine tpm ?_
 refine yA (u := 11) h0 rfl (fun hc h0 => ?_) (fun hc h0 => ?_)
 refine dG rfl (w1 rfl rfl rfl) rfl (aEb tok rfl rfl rfl rfl rfl rfl rfl) rfl rfl rfl (dG rfl (w1 rfl rfl rfl) rfl (xB tok rfl rfl rfl rfl rfl) rfl rfl rfl (dG rfl (w1 rfl rfl rfl) rfl (aEb tok rfl rfl rfl rfl rfl rfl rfl) rfl rfl rfl (dG rfl (w1 rfl rfl rfl) rfl (xB tok rfl rfl rfl rfl rfl) rfl rfl rfl ?_)))
 obtain ⟨v3,hv3,h0⟩ := bnd h0
 refine mS rfl (w1 rfl rfl rfl) rfl (dF 4 (tW hv3) rfl rfl rfl) ?_
 obtain ⟨v4,hv4,h0⟩ := bnd h0
 refine mS rfl (w1 rfl rfl rfl) rfl (dF 4 (zE hv4) rfl rfl rfl) (rQ rfl (w1 rfl rfl rfl) rfl (iT rfl rfl) (aCn ?_))
 refine tpa ?_
 refine bS ?_
 refine ⟨by kernel_rfl,?_⟩
 refine aH (aD ?_)
 cases h0
 exact r0t 2 rfl
 iterate 7 refine k2 ?_
 refine aFu ?_
 refine tpa ?_
 refine bS ?_
 refine ⟨by kernel_rfl,?_⟩
 refine aH (aD ?_)
 cases h0
 exact r0t 2 rfl
 iterate 3 refine k2 ?_
 refine aFu ?_
 refine tpm ?_
 iterate 7 refine k2 ?_
 refine aFu ?_
 refine tpa ?_
 refine bS ?_
 refine ⟨by kernel_rfl,?_⟩
 refine aH (aD ?_)
 cases h0
 exact r0t 2 rfl
theorem zU {p0 : Int} {p1 : Int} {r : Bool} (h0 : rX p0 p1 = some r) : FnC Tryz.prog 240 [] [dI p0,(dI p1)] [] (dB r) := by
 refine fi 18 tok Tryz.func240 ?_
 unfold rX at h0
 refine sq [0] (pa (nx (sq [0,1,2,3,4,5,6,7,8,9,10,11,12,13] ?_)))
 refine pm ?_
 refine rP rfl (rF rfl rfl) (pm ?_)
 refine fI (u := 7) h0 rfl (fun hc h0 => ?_) (fun hc h0 => ?_)
 refine pm1 ?_
 refine rp rfl (w1 rfl rfl rfl) rfl (gR rfl rfl) (pkt ?_)
 refine pm ?_
 refine fI (u := 11) h0 rfl (fun hc h0 => ?_) (fun hc h0 => ?_)
 iterate 3 refine pm1 ?_
 refine rp rfl (w1 rfl rfl rfl) rfl (bN rfl rfl) ?_
 obtain ⟨v1,hv1,h0⟩ := bnd h0
 refine rs rfl (w1 rfl rfl rfl) rfl (aM 3 (eL hv1) rfl rfl rfl) (pkt ?_)
 refine pa (nx (aD ?_))
 cases h0
 exact r0t 4 rfl
 iterate 5 refine k1 ?_
 refine pkf ?_
 refine pa (nx (aD ?_))
 cases h0
 exact r0t 4 rfl
 refine k1 ?_
 refine k1 ?_
 refine pkf ?_
 refine pm ?_
 iterate 5 refine k1 ?_
 refine pkf ?_
 refine pa (nx (aD ?_))
 cases h0
 exact r0t 4 rfl
theorem aN4 {p0 : iD} {r : Bool} (h0 : uX p0 = some r) : FnC Tryz.prog 175 [] [.ref (aAm p0)] [] (dB r) := by
 refine fi 30 tok Tryz.func175 ?_
 unfold uX at h0
 refine sq [0] (pa (nx (aE ?_)))
 refine aK (is := [0,1,2,3,4,5,6,7,8,9,10,11,12,13,14,15,16,17,18,19,20,21,22,23,24,25,26,27]) [0,1,3,7,0,16,48,112,255,511,1023,2047,4095,8191,1023,17407,50175,115711,262143,524287,1048575,2097151,4194303,8388607,16777215,33554431,67108863,134217727] follows (by kernel_rfl) (aD3 ?_)
 refine tnr ?_
 refine tfr tok ?_
 refine tlr tok ?_
 refine aD3 ?_
 refine tnr ?_
 refine tfr tok ?_
 refine tlr tok ?_
 obtain ⟨v1,hv1,h0⟩ := bnd h0
 refine mS rfl w0 rfl (dF 3 (zU hv1) rfl rfl rfl) (tpm ?_)
 refine yA (u := 12) h0 rfl (fun hc h0 => ?_) (fun hc h0 => ?_)
 refine aC8 ?_
 refine aO1 ?_
 refine aH0 tok ?_
 refine aLw tok ?_
 refine aC8 ?_
 refine aO1 ?_
 refine aH0 tok ?_
 refine aLw tok ?_
 obtain ⟨v2,hv2,h0⟩ := bnd h0
 refine mS rfl (w1 rfl rfl rfl) rfl (dF 3 (zU hv2) rfl rfl rfl) (aCn ?_)
 refine tpm ?_
 refine yA (u := 23) h0 rfl (fun hc h0 => ?_) (fun hc h0 => ?_)
 refine aC8 ?_
 refine aO1 ?_
 refine aH0 tok ?_
 refine aLw tok ?_
 obtain ⟨v3,hv3,h0⟩ := bnd h0
 refine mS rfl (w1 rfl rfl rfl) rfl (dF 3 (eL hv3) rfl rfl rfl) (aCn ?_)
 refine tpa ?_
 refine bS ?_
 refine ⟨by kernel_rfl,?_⟩
 refine aH (aD ?_)
 cases h0
 exact r0t 2 rfl
 iterate 5 refine k2 ?_
 refine aFu ?_
 refine tpa ?_
 refine bS ?_
 refine ⟨by kernel_rfl,?_⟩
 refine aH (aD ?_)
 cases h0
 exact r0t 2 rfl
 iterate 9 refine k2 ?_
 refine aFu ?_
 refine tpm ?_
 iterate 5 refine k2 ?_
 refine aFu ?_
 refine tpa ?_
 refine bS ?_
 refine ⟨by kernel_rfl,?_⟩
 refine aH (aD ?_)
 cases h0
 exact r0t 2 rfl
theorem aLp {p0 : aA} {r : Bool} (h0 : sT p0 = some r) : FnC Tryz.prog 176 [] [.agg [dI p0.Num,(dI p0.Den)]] [] (dB r) := by
 refine fi 11 tok Tryz.func176 ?_
 unfold sT at h0
 refine sq [0,1] (bxx 3 ?_)
 refine pa (nx (sq [0,1,2,3,4,5,6,7,8] ?_))
 refine fa tok ?_
 refine ld tok ?_
 obtain ⟨v1,hv1,h0⟩ := bnd h0
 refine rS rfl (aM 4 (eL hv1) rfl rfl rfl) (pm ?_)
 refine dQ (u := 6) h0 rfl (fun hc h0 => ?_) (fun hc h0 => ?_)
 refine fa1 tok ?_
 refine ld1 tok ?_
 refine rp rfl (w1 rfl rfl rfl) rfl (gR rfl rfl) (pkt ?_)
 refine pa (nx (aD ?_))
 cases h0
 exact r0t 2 rfl
 iterate 3 refine k1 ?_
 refine pkf ?_
 refine pa (nx (aD ?_))
 cases h0
 exact r0t 2 rfl
theorem aDt {p0 : List Int} {r : List Int} (h0 : qN p0 = some r) : FnC Tryz.prog 204 [] [dL cI p0] [.live [⟨2,1, .data (List.map cI r)⟩]] (.own 0 0 r.length) := by
 refine fi 6 tok Tryz.func204 ?_
 unfold qN at h0
 refine sq [0] (pa (nx (sq [0,1,2,3] ?_)))
 refine rS rfl (eM 3 tok rfl rfl rfl rfl) (pm ?_)
 obtain ⟨hq1,h0⟩ := dM h0
 refine rw1 rfl w0 rfl (fL tok hq1 rfl rfl rfl rfl rfl rfl rfl rfl rfl rfl rfl rfl (fun _ => rfl)) (rP rfl (aR (r := .own _ _ _) rfl) (nx (aD ?_)))
 cases h0
 exact eK (rs := [.tmp 2]) [3] rfl
theorem uY {p0 : Int} {p1 : Int} {p2 : Int} {r : List aO} (h0 : fN p0 p1 p2 = some r) : FnC Tryz.prog 272 [] [dI p0,(dI p1),(dI p2)] [] (dL aQ r) := by
 refine fi 67 tok Tryz.func272 ?_
 unfold fN at h0
 refine sq [0] (pa (nx (sq [0,1,2] ?_)))
 refine rP rfl (pbl (C0 := [z0,zl]) tok rfl rfl rfl) (rS rfl (aRp tok aQ [(⟨1,[]⟩ : aO)] rfl rfl rfl (by repeat (first | exact Els.nil _ | apply Els.cons (cs := [.d _]) rfl rfl rfl | apply Els.cons (cs := _ :: _) rfl rfl rfl)) rfl rfl rfl (by repeat (first | exact aF2.nil | (apply aF2.cons; (repeat (first | exact aLy.nil | apply aLy.niln | apply aLy.cons))))) rfl) (pa (nx ?_)))
 obtain ⟨v75,h1,h0⟩ := bnd h0
 refine bC ⟨aB ((fun _ => .dead)) 7 (dL aQ v75),lks [.no, .no, .no]⟩ ?_ ?_
 refine sq [0] (pa (nx (aG ?_)))
 refine aZ (fun s38 => ⟨aB (aB (aB (aB (aB ((fun _ => .dead)) 0 (dI p0)) 1 (dI p1)) 2 (dI p2)) 7 (dL aQ s38.1)) 8 (dI s38.2),lks [.no, .no, .no]⟩) h1 ?_ (fun s38 y h2 => ?_)
 exact wk [0,1,2]
 refine aE (sq [0,1,2] (pm ?_))
 refine pm ?_
 refine rP rfl (bK rfl rfl) (nx ?_)
 refine bR h2 rfl (fun hc h2 => ?_) (fun hc h2 => ?_)
 refine sk ?_
 obtain ⟨v74,h3,h2⟩ := bnd h2
 refine bC ⟨aB (aB (aB (aB (aB ((fun _ => .dead)) 0 (dI p0)) 1 (dI p1)) 2 (dI p2)) 7 (.own 3 0 (v74).length)) 8 (dI s38.2),lks [.no, .no, .no, .live [⟨306,2, .data (List.map aQ v74)⟩]]⟩ ?_ ?_
 refine aG (sq [0,1] (rS rfl (eM 3 tok rfl rfl rfl rfl) (rP rfl (aR (r := .own _ _ _) rfl) (nx ?_))))
 obtain ⟨v73,h4,h3⟩ := bnd h3
 refine bC ⟨aB (aB (aB (aB (aB ((fun _ => .dead)) 0 (dI p0)) 1 (dI p1)) 2 (dI p2)) 8 (dI s38.2)) 9 (.own 3 0 (v73).length),lks [.no, .no, .no, .live [⟨306,2, .data (List.map aQ v73)⟩]]⟩ ?_ ?_
 refine sq [0] (pa (nx (aG ?_)))
 refine aZ (fun s56 => ⟨aB (aB (aB (aB (aB (aB (aB ((fun _ => .dead)) 0 (dI p0)) 1 (dI p1)) 2 (dI p2)) 7 (dL aQ s38.1)) 8 (dI s38.2)) 9 (.own 3 0 (s56.2).length)) 10 (dI s56.1),lks [.no, .no, .no, .live [⟨306,2, .data (List.map aQ s56.2)⟩]]⟩) h4 ?_ (fun s56 y h5 => ?_)
 exact wk [0,1,2,3]
 refine aE (sq [0,1,2,3] (pm ?_))
 refine pm ?_
 refine rP rfl (aL tok rfl rfl rfl) (rP rfl (bK rfl rfl) (nx ?_))
 refine bR h5 rfl (fun hc h5 => ?_) (fun hc h5 => ?_)
 refine sk ?_
 obtain ⟨v72,h6,h5⟩ := bnd h5
 refine bC ⟨aB (aB (aB (aB (aB (aB (aB ((fun _ => .dead)) 0 (dI p0)) 1 (dI p1)) 2 (dI p2)) 7 (dL aQ s38.1)) 8 (dI s38.2)) 9 (.own 3 0 (v72).length)) 10 (dI s56.1),lks [.no, .no, .no, .live [⟨306,2, .data (List.map aQ v72)⟩]]⟩ ?_ ?_
 refine aG (sq [0,1] (pm ?_))
 refine pa (nx ?_)
 obtain ⟨v59,h7,h6⟩ := bnd h6
 refine bC ⟨aB (aB (aB (aB (aB (aB (aB (aB ((fun _ => .dead)) 0 (dI p0)) 1 (dI p1)) 2 (dI p2)) 7 (dL aQ s38.1)) 8 (dI s38.2)) 9 (.own 3 0 (s56.2).length)) 10 (dI s56.1)) 11 (dI v59),lks [.no, .no, .no, .live [⟨306,2, .data (List.map aQ s56.2)⟩]]⟩ ?_ ?_
 refine sq [0,1] (pm ?_)
 refine rP rfl (gO rfl rfl) (nx ?_)
 refine bR h7 rfl (fun hc h7 => ?_) (fun hc h7 => ?_)
 refine sr [0,1,2,3,4,5,6,7,8,9] (pm ?_)
 refine pm ?_
 obtain ⟨v57,hv57,h7⟩ := bnd h7
 refine rP rfl (cO tok hv57 rfl rfl rfl rfl rfl rfl) (fr tok ?_)
 refine lr tok ?_
 refine pm ?_
 refine rP rfl (hY rfl rfl) ?_
 obtain ⟨v58,hv58,h7⟩ := bnd h7
 refine rP rfl (cO tok hv58 rfl rfl rfl rfl rfl rfl) (lr tok ?_)
 refine pa (nx ?_)
 cases h7
 exact wk [0,1,2,3]
 refine sk ?_
 cases h7
 exact wk [0,1,2,3]
 refine sq [0,1] (pm ?_)
 refine pa (nx (aG ?_))
 refine aZ (fun s66 => ⟨aB (aB (aB (aB (aB (aB (aB (aB ((fun _ => .dead)) 0 (dI p0)) 1 (dI p1)) 2 (dI p2)) 7 (dL aQ s38.1)) 8 (dI s38.2)) 9 (.own 3 0 (s66.2).length)) 10 (dI s56.1)) 12 (dI s66.1),lks [.no, .no, .no, .live [⟨306,2, .data (List.map aQ s66.2)⟩]]⟩) h6 ?_ (fun s66 y h7 => ?_)
 exact wk [0,1,2,3]
 refine aE (sq [0,1,2] (pm ?_))
 refine pm ?_
 refine rP rfl (gR rfl rfl) (nx ?_)
 refine bR h7 rfl (fun hc h7 => ?_) (fun hc h7 => ?_)
 refine sk (aE (aG (aK (is := [0,1,2,3,4,5,6,7,8,9,10,11,12,14,13,15,16,17,18,19,20]) [0,0,0,6,14,30,0,126,0,0,768,1792,3840,7936,0,16384,65280,131070,262142,524287,1048575] follows (by kernel_rfl) (tP rfl (aF (r := .own _ _ _) rfl) (tpm ?_)))))
 refine tpm ?_
 obtain ⟨v67,hv67,h7⟩ := bnd h7
 refine tP rfl (cO tok hv67 rfl rfl rfl rfl rfl rfl) (tfr tok ?_)
 refine tlr tok ?_
 refine tpm ?_
 refine tP rfl (eG rfl rfl) (tpm ?_)
 refine tpm ?_
 obtain ⟨v68,hv68,h7⟩ := bnd h7
 refine tP rfl (cO tok hv68 rfl rfl rfl rfl rfl rfl) (tfr tok ?_)
 refine tlr tok ?_
 refine tpm ?_
 obtain ⟨v69,hv69,h7⟩ := bnd h7
 refine mS rfl w0 rfl (dF 6 (aDt hv69) rfl rfl rfl) (aAx rfl w0 rfl rfl (fun hx hk => vY 4 tok cI [s66.1] rfl rfl rfl (by repeat (first | exact Els.nil _ | apply Els.cons (cs := [.d _]) rfl rfl rfl | apply Els.cons (cs := _ :: _) rfl rfl rfl)) rfl rfl rfl (by repeat (first | exact cH.nil | (apply cH.cons; (repeat (first | exact fA.nil | apply fA.cons))))) rfl hk) ?_)
 obtain ⟨hq70,h7⟩ := dM h7
 refine yB rfl w0 rfl (aWb (fL tok hq70 rfl rfl rfl rfl rfl rfl rfl rfl rfl rfl rfl rfl (fun _ => rfl))) (tP rfl (pbl (C0 := [z0,zl]) tok rfl rfl rfl) (aAx rfl w0 rfl rfl (fun hx hk => vY 5 tok aQ [(⟨w64 (v67.value * s66.1),v69 ++ [s66.1]⟩ : aO)] rfl rfl rfl (by repeat (first | exact Els.nil _ | apply Els.cons (cs := [.d _]) rfl rfl rfl | apply Els.cons (cs := _ :: _) rfl rfl rfl)) rfl rfl rfl (by repeat (first | exact cH.nil | (apply cH.cons; (repeat (first | exact fA.nil | apply fA.cons))))) rfl hk) ?_))
 obtain ⟨hq71,h7⟩ := dM h7
 refine yB rfl w0 rfl (fL tok hq71 rfl rfl rfl rfl rfl rfl rfl rfl rfl rfl rfl rfl (fun _ => rfl)) (tP rfl (aR (r := .own _ _ _) rfl) (bS ?_))
 refine ⟨by kernel_rfl,?_⟩
 refine bB (aH (sr [0,1,2] (pm ?_)))
 refine rP rfl (bN rfl rfl) (pa (aX ?_))
 refine cB ?_
 cases h7
 refine ⟨_,rfl,?_⟩
 exact wk [0,1,2,3]
 refine bI (cC ?_)
 cases h7
 refine cD ⟨_,rfl,fun e => ?_⟩
 subst e
 refine aU ?_
 refine bB (aH ?_)
 exact wk [0,1,2,3]
 refine sr [0,1,2] (pm ?_)
 refine rP rfl (bN rfl rfl) (pa (aX ?_))
 refine cB ?_
 cases h5
 refine ⟨_,rfl,?_⟩
 exact wk [0,1,2,3]
 refine bI (cC ?_)
 cases h5
 refine cD ⟨_,rfl,fun e => ?_⟩
 subst e
 refine aU (aH ?_)
 exact wk [0,1,2,3]
 refine sr [0,1] (rP rfl (aF (r := .own _ _ _) rfl) (rP rfl (aR (r := .own _ _ _) rfl) (aX (bB (aH ?_)))))
 cases h3
 exact wk [0,1,2,3]
 refine sr [0,1,2] (pm ?_)
 refine rP rfl (bN rfl rfl) (pa (aX ?_))
 refine cB ?_
 cases h2
 refine ⟨_,rfl,?_⟩
 refine lO.trans_ (yP (k := 3) (t' := aB (aB (aB (aB (aB ((fun _ => .dead)) 0 (dI p0)) 1 (dI p1)) 2 (dI p2)) 7 (dL aQ v74)) 8 (dI (w64 (s38.2 + 1)))) rfl (FzL.nil)) ?_
 exact wk [0,1,2]
 refine bI (cC ?_)
 cases h2
 refine cD ⟨_,rfl,fun e => ?_⟩
 subst e
 refine aU (aH ?_)
 exact wk [0,1,2]
 refine sq [0,1] (pm ?_)
 refine pa (nx (aD ?_))
 cases h0
 exact r0t 6 rfl
theorem aHa {p0 : List aO} {p1 : List aO} {r : List aO} (h0 : pR p0 p1 = some r) : FnC Tryz.prog 283 [] [dL aQ p0,(dL aQ p1)] [.live [⟨306,2, .data (List.map aQ r)⟩]] (.own 0 0 r.length) := by
 refine fi 53 tok Tryz.func283 ?_
 unfold pR at h0
 refine sq [0] (pa (nx (sq [0,1] ?_)))
 refine rS rfl (eM 3 tok rfl rfl rfl rfl) (rP rfl (aR (r := .own _ _ _) rfl) (nx (sq [0] (pa (nx ?_)))))
 obtain ⟨v35,h1,h0⟩ := bnd h0
 refine bC ⟨aB (aB (aB ((fun _ => .dead)) 0 (dL aQ p0)) 5 (.own 3 0 (v35.2).length)) 6 (dI v35.1),lks [.no, .no, .no, .live [⟨306,2, .data (List.map aQ v35.2)⟩]]⟩ ?_ ?_
 refine sq [0] (pa (nx (aG ?_)))
 refine aZ (fun s18 => ⟨aB (aB (aB (aB (aB ((fun _ => .dead)) 0 (dL aQ p0)) 1 (dL aQ p1)) 5 (.own 3 0 (s18.2.2).length)) 6 (dI s18.1)) 7 (dI s18.2.1),lks [.no, .no, .no, .live [⟨306,2, .data (List.map aQ s18.2.2)⟩]]⟩) h1 ?_ (fun s18 y h2 => ?_)
 exact wk [0,1,2,3]
 refine aE (sq [0,1,2,3] (pm ?_))
 refine pm ?_
 refine rP rfl (aL tok rfl rfl rfl) (rP rfl (bK rfl rfl) (nx ?_))
 refine bR h2 rfl (fun hc h2 => ?_) (fun hc h2 => ?_)
 refine sk ?_
 obtain ⟨v34,h3,h2⟩ := bnd h2
 refine bC ⟨aB (aB (aB (aB (aB ((fun _ => .dead)) 0 (dL aQ p0)) 1 (dL aQ p1)) 5 (.own 3 0 (v34.2).length)) 6 (dI v34.1)) 7 (dI s18.2.1),lks [.no, .no, .no, .live [⟨306,2, .data (List.map aQ v34.2)⟩]]⟩ ?_ ?_
 refine aG ?_
 obtain ⟨v31,h4,h3⟩ := bnd h3
 refine bC ⟨aB (aB (aB (aB (aB ((fun _ => .dead)) 0 (dL aQ p0)) 1 (dL aQ p1)) 5 (.own 3 0 (v31.2).length)) 6 (dI v31.1)) 7 (dI s18.2.1),lks [.no, .no, .no, .live [⟨306,2, .data (List.map aQ v31.2)⟩]]⟩ ?_ ?_
 refine aG ?_
 refine aZ (fun s25 => ⟨aB (aB (aB (aB (aB ((fun _ => .dead)) 0 (dL aQ p0)) 1 (dL aQ p1)) 5 (.own 3 0 (s25.2).length)) 6 (dI s25.1)) 7 (dI s18.2.1),lks [.no, .no, .no, .live [⟨306,2, .data (List.map aQ s25.2)⟩]]⟩) h4 ?_ (fun s25 y h5 => ?_)
 exact wk [0,1,2,3]
 refine aE ?_
 obtain ⟨v28,h6,h5⟩ := bnd h5
 refine bC ⟨aB (aB (aB (aB (aB (aB ((fun _ => .dead)) 0 (dL aQ p0)) 1 (dL aQ p1)) 5 (.own 3 0 (s25.2).length)) 6 (dI s25.1)) 7 (dI s18.2.1)) 31 (dB v28),lks [.no, .no, .no, .live [⟨306,2, .data (List.map aQ s25.2)⟩]]⟩ ?_ ?_
 refine aK (is := [0,1,2,3,4,5,6,7,8,9,10,11,12,13,14,15,16]) [0,0,2,7,15,31,31,127,255,511,31,31,3103,7199,15391,32767,65535] follows (by kernel_rfl) (tpm ?_)
 refine tpm ?_
 refine tP rfl (aL tok rfl rfl rfl) (tP rfl (bK rfl rfl) (tpm ?_))
 refine aG4 (u := 19) h6 rfl (fun hc h6 => ?_) (fun hc h6 => ?_)
 refine aF1 ?_
 refine aF1 ?_
 obtain ⟨v26,hv26,h6⟩ := bnd h6
 refine rQ rfl (w1 rfl rfl rfl) rfl (cO tok hv26 rfl rfl rfl rfl rfl rfl) (aH0 tok ?_)
 refine aLw tok ?_
 refine aF1 ?_
 refine aF1 ?_
 obtain ⟨v27,hv27,h6⟩ := bnd h6
 refine rQ rfl (w1 rfl rfl rfl) rfl (cO tok hv27 rfl rfl rfl rfl rfl rfl) (aH0 tok ?_)
 refine aLw tok ?_
 refine rQ rfl (w1 rfl rfl rfl) rfl (gR rfl rfl) (aCn ?_)
 refine bS ?_
 refine ⟨by kernel_rfl,?_⟩
 refine aH ?_
 cases h6
 refine lO.trans_ (kU (d := 23) (ds := cI v26.value) rfl (by repeat (first | exact Pre.z _ | apply Pre.t))) (lO.trans_ (kU (d := 28) (ds := cI v27.value) rfl (by repeat (first | exact Pre.z _ | apply Pre.t))) ?_)
 exact wk [0,1,2,3]
 iterate 11 refine k2 ?_
 refine aFu ?_
 refine bS ?_
 refine ⟨by kernel_rfl,?_⟩
 refine aH ?_
 cases h6
 exact wk [0,1,2,3]
 refine bP h5 rfl (fun hc h5 => ?_) (fun hc h5 => ?_)
 refine sk (aG (sq [0,1,2,3,4,5,6,7] (rP rfl (aF (r := .own _ _ _) rfl) (pm ?_))))
 refine pm ?_
 obtain ⟨v29,hv29,h5⟩ := bnd h5
 refine rP rfl (cO tok hv29 rfl rfl rfl rfl rfl rfl) (rP rfl (bU tok rfl rfl rfl (by repeat (first | exact lN.z _ | apply lN.t))) (rS rfl (jV tok aQ [v29] rfl rfl rfl (by repeat (first | exact Els.nil _ | apply Els.cons (cs := [.d _]) rfl rfl rfl | apply Els.cons (cs := _ :: _) rfl rfl rfl)) rfl rfl rfl (by repeat (first | exact cH.nil | (apply cH.cons; (repeat (first | exact fA.nil | apply fA.cons))))) rfl) ?_))
 obtain ⟨hq30,h5⟩ := dM h5
 refine rw1 rfl w0 rfl (fL tok hq30 rfl rfl rfl rfl rfl rfl rfl rfl rfl rfl rfl rfl (fun _ => rfl)) (rP rfl (aR (r := .own _ _ _) rfl) (nx (sr [0,1,2] (pm ?_))))
 refine rP rfl (bN rfl rfl) (pa (aX ?_))
 refine bB (cB ?_)
 cases h5
 refine ⟨_,rfl,?_⟩
 exact wk [0,1,2,3]
 refine bI (cC ?_)
 cases h5
 refine cD ⟨_,rfl,fun e => ?_⟩
 subst e
 refine aU (aH ?_)
 exact wk [0,1,2,3]
 refine sr [0,1,2,3,4,5,6,7] (rP rfl (aF (r := .own _ _ _) rfl) (pm ?_))
 refine pm ?_
 obtain ⟨v32,hv32,h3⟩ := bnd h3
 refine rP rfl (cO tok hv32 rfl rfl rfl rfl rfl rfl) (rP rfl (bU tok rfl rfl rfl (by repeat (first | exact lN.z _ | apply lN.t))) (rS rfl (jV tok aQ [v32] rfl rfl rfl (by repeat (first | exact Els.nil _ | apply Els.cons (cs := [.d _]) rfl rfl rfl | apply Els.cons (cs := _ :: _) rfl rfl rfl)) rfl rfl rfl (by repeat (first | exact cH.nil | (apply cH.cons; (repeat (first | exact fA.nil | apply fA.cons))))) rfl) ?_))
 obtain ⟨hq33,h3⟩ := dM h3
 refine rw1 rfl w0 rfl (fL tok hq33 rfl rfl rfl rfl rfl rfl rfl rfl rfl rfl rfl rfl (fun _ => rfl)) (rP rfl (aR (r := .own _ _ _) rfl) (aX (bB (aH ?_))))
 cases h3
 exact wk [0,1,2,3]
 refine sr [0,1,2] (pm ?_)
 refine rP rfl (bN rfl rfl) (pa (aX ?_))
 refine cB ?_
 cases h2
 refine ⟨_,rfl,?_⟩
 exact wk [0,1,2,3]
 refine bI (cC ?_)
 cases h2
 refine cD ⟨_,rfl,fun e => ?_⟩
 subst e
 refine aU (aH ?_)
 exact wk [0,1,2,3]
 refine sq [0,1,2,3,4,5] (rP rfl (aF (r := .own _ _ _) rfl) (pm ?_))
 refine pm ?_
 obtain ⟨hq36,h0⟩ := dM h0
 refine rP rfl (tO tok hq36 rfl (.inr ⟨_,_,rfl,rfl⟩) (.inl ⟨rfl,rfl⟩) rfl rfl rfl (fun _ => rfl)) ?_
 obtain ⟨hq37,h0⟩ := dM h0
 refine rw1 rfl w0 rfl (fL tok hq37 rfl rfl rfl rfl rfl rfl rfl rfl rfl rfl rfl rfl (fun _ => rfl)) (rP rfl (aR (r := .own _ _ _) rfl) (nx (aD ?_)))
 cases h0
 exact eK (rs := [.tmp 4]) [3] rfl
theorem aI4 {n' : Nat} {p0 : List aO} {r : List aO} (h0 : jI n' p0 = some r) : FnC Tryz.prog 273 [] [dL aQ p0] [] (dL aQ r) := by
 induction n' generalizing p0 r with
 | zero => simp [jI] at h0
 | succ n' ih =>
 refine fi 20 tok Tryz.func273 ?_
 unfold jI at h0
 refine sq [0] (pa (nx (aE (sq [0,1,2] ?_))))
 refine pm ?_
 refine rP rfl (aL tok rfl rfl rfl) (rP rfl (bK rfl rfl) (nx ?_))
 refine bR h0 rfl (fun hc h0 => ?_) (fun hc h0 => ?_)
 refine sq [0,1] (pm ?_)
 refine pa (nx (aD (aT ?_)))
 cases h0
 exact r0t 2 rfl
 refine sk (sq [0,1,2,3] (pm ?_))
 refine rP rfl (aL tok rfl rfl rfl) (rP rfl (sN rfl rfl (by decide)) (pa (nx (aE ?_))))
 refine aK (is := [0,1,2,4,5,6,3,7,8,9]) [0,0,3,7,0,0,48,127,255,511] follows (by kernel_rfl) (tpm ?_)
 refine tpm ?_
 obtain ⟨hq2,h0⟩ := dM h0
 refine tP rfl (tO tok hq2 rfl (.inl ⟨rfl,rfl⟩) (.inr ⟨_,_,rfl,rfl⟩) rfl rfl rfl (fun _ => rfl)) (tpm ?_)
 refine tpm ?_
 obtain ⟨hq3,h0⟩ := dM h0
 refine tP rfl (tO tok hq3 rfl (.inr ⟨_,_,rfl,rfl⟩) (.inl ⟨rfl,rfl⟩) rfl rfl rfl (fun _ => rfl)) ?_
 obtain ⟨v4,hv4,h0⟩ := bnd h0
 refine mS rfl w0 rfl (dF 3 (ih hv4) rfl rfl rfl) ?_
 obtain ⟨v5,hv5,h0⟩ := bnd h0
 refine mS rfl w0 rfl (dF 3 (ih hv5) rfl rfl rfl) ?_
 obtain ⟨v6,hv6,h0⟩ := bnd h0
 refine mS rfl w0 rfl (dF 3 (aHa hv6) rfl rfl rfl) (tP rfl (aR (r := .own _ _ _) rfl) (bS ?_))
 refine ⟨by kernel_rfl,?_⟩
 refine aH (cM (yP (k := 3) (t' := aB ((fun _ => .dead)) 2 (dL aQ v6)) rfl (FzL.nil)) (aD ?_))
 cases h0
 exact r0t 2 rfl
theorem aG9 {p0 : List aO} {p1 : Int} {r : Int} (h0 : pO p0 p1 = some r) : FnC Tryz.prog 274 [] [dL aQ p0,(dI p1)] [] (dI r) := by
 refine fi 28 tok Tryz.func274 ?_
 unfold pO at h0
 refine sq [0] (pa (nx (sq [0] ?_)))
 refine pa (nx (sq [0,1,2] ?_))
 refine pm ?_
 refine rP rfl (aL tok rfl rfl rfl) (pa (nx ?_))
 obtain ⟨v7,h1,h0⟩ := bnd h0
 refine bC ⟨aB ((fun _ => .dead)) 5 (dI v7),lks [.no, .no, .no]⟩ ?_ ?_
 refine aG ?_
 refine aZ (fun s4 => ⟨aB (aB (aB (aB ((fun _ => .dead)) 0 (dL aQ p0)) 1 (dI p1)) 5 (dI s4.1)) 6 (dI s4.2),lks [.no, .no, .no]⟩) h1 ?_ (fun s4 y h2 => ?_)
 exact wk [0,1,2]
 refine aE (sq [0,1,2] (pm ?_))
 refine pm ?_
 refine rP rfl (bK rfl rfl) (nx ?_)
 refine bR h2 rfl (fun hc h2 => ?_) (fun hc h2 => ?_)
 refine sk (aG (sq [0,1,2,3,4] (pm ?_)))
 refine pm ?_
 refine rP rfl (bN rfl rfl) (rP rfl (sN rfl rfl (by decide)) (pa (nx (sq [0,1,2,3,4,5,6] ?_))))
 refine pm ?_
 refine pm ?_
 obtain ⟨v6,hv6,h2⟩ := bnd h2
 refine rP rfl (cO tok hv6 rfl rfl rfl rfl rfl rfl) (fr tok ?_)
 refine lr tok ?_
 refine pm ?_
 refine rP rfl (bK rfl rfl) (nx ?_)
 refine bR h2 rfl (fun hc h2 => ?_) (fun hc h2 => ?_)
 refine sr [0,1,2] (pm ?_)
 refine rP rfl (bN rfl rfl) (pa (aX ?_))
 refine bB (cB ?_)
 cases h2
 refine ⟨_,rfl,?_⟩
 exact wk [0,1,2]
 refine sr [0,1] (pm ?_)
 refine pa (aX ?_)
 refine bB (cB ?_)
 cases h2
 refine ⟨_,rfl,?_⟩
 exact wk [0,1,2]
 refine bI (cC ?_)
 cases h2
 refine cD ⟨_,rfl,fun e => ?_⟩
 subst e
 refine aU (aH ?_)
 exact wk [0,1,2]
 refine sq [0,1] (pm ?_)
 refine pa (nx (aD ?_))
 cases h0
 exact r0t 4 rfl
theorem aCe {p0 : List Int} {r : List Int} (h0 : oM p0 = some r) : FnC Tryz.prog 299 [] [dL cI p0] [.live [⟨2,1, .data (List.map cI r)⟩]] (.own 0 0 r.length) := by
 refine fi 48 tok Tryz.func299 ?_
 unfold oM at h0
 refine sq [0] (pa (nx (sq [0,1] ?_)))
 refine rS rfl (eM 3 tok rfl rfl rfl rfl) (rP rfl (aR (r := .own _ _ _) rfl) (nx ?_))
 obtain ⟨v35,h1,h0⟩ := bnd h0
 refine bC ⟨aB ((fun _ => .dead)) 3 (.own 3 0 (v35).length),lks [.no, .no, .no, .live [⟨2,1, .data (List.map cI v35)⟩]]⟩ ?_ ?_
 refine sq [0] (pa (nx (aG ?_)))
 refine aZ (fun s18 => ⟨aB (aB (aB ((fun _ => .dead)) 0 (dL cI p0)) 3 (.own 3 0 (s18.2).length)) 4 (dI s18.1),lks [.no, .no, .no, .live [⟨2,1, .data (List.map cI s18.2)⟩]]⟩) h1 ?_ (fun s18 y h2 => ?_)
 exact wk [0,1,2,3]
 refine aE (sq [0,1,2,3] (pm ?_))
 refine pm ?_
 refine rP rfl (aL tok rfl rfl rfl) (rP rfl (bK rfl rfl) (nx ?_))
 refine bR h2 rfl (fun hc h2 => ?_) (fun hc h2 => ?_)
 refine sk ?_
 obtain ⟨v34,h3,h2⟩ := bnd h2
 refine bC ⟨aB (aB (aB ((fun _ => .dead)) 0 (dL cI p0)) 3 (.own 3 0 (v34).length)) 4 (dI s18.1),lks [.no, .no, .no, .live [⟨2,1, .data (List.map cI v34)⟩]]⟩ ?_ ?_
 refine aG (sq [0,1,2] (rP rfl (aF (r := .own _ _ _) rfl) (rL rfl (rC tok rfl rfl rfl rfl rfl) (pa (nx ?_)))))
 obtain ⟨v27,h4,h3⟩ := bnd h3
 refine bC ⟨aB (aB (aB (aB ((fun _ => .dead)) 0 (dL cI p0)) 3 (.own 3 0 (s18.2).length)) 4 (dI s18.1)) 5 (dI v27),lks [.no, .no, .no, .live [⟨2,1, .data (List.map cI s18.2)⟩]]⟩ ?_ ?_
 refine aG ?_
 refine aZ (fun s23 => ⟨aB (aB (aB (aB ((fun _ => .dead)) 0 (dL cI p0)) 3 (.own 3 0 (s18.2).length)) 4 (dI s18.1)) 5 (dI s23),lks [.no, .no, .no, .live [⟨2,1, .data (List.map cI s18.2)⟩]]⟩) h4 ?_ (fun s23 y h5 => ?_)
 exact wk [0,1,2,3]
 refine aE ?_
 obtain ⟨v26,h6,h5⟩ := bnd h5
 refine bC ⟨aB (aB (aB (aB (aB ((fun _ => .dead)) 0 (dL cI p0)) 3 (.own 3 0 (s18.2).length)) 4 (dI s18.1)) 5 (dI s23)) 29 (dB v26),lks [.no, .no, .no, .live [⟨2,1, .data (List.map cI s18.2)⟩]]⟩ ?_ ?_
 refine aK (is := [0,1,2,3,4,5,6,7,8,9,10,11,12,13]) [0,1,3,7,7,23,63,127,7,7,775,1799,4095,8191] follows (by kernel_rfl) (tpm ?_)
 refine tP rfl (gO rfl rfl) (tpm ?_)
 refine aG4 (u := 18) h6 rfl (fun hc h6 => ?_) (fun hc h6 => ?_)
 refine rQ rfl (w1 rfl rfl rfl) rfl (aF (r := .own _ _ _) rfl) (aF1 ?_)
 refine rQ rfl (w1 rfl rfl rfl) rfl (hY rfl rfl) ?_
 obtain ⟨v24,hv24,h6⟩ := bnd h6
 refine dG rfl (w1 rfl rfl rfl) rfl (jU tok hv24 rfl rfl rfl rfl rfl rfl rfl rfl) rfl rfl rfl (dG rfl (w1 rfl rfl rfl) rfl (lK tok (gV hv24).2.1 rfl rfl rfl rfl rfl rfl) rfl rfl rfl (aF1 ?_))
 refine aF1 ?_
 obtain ⟨v25,hv25,h6⟩ := bnd h6
 refine rQ rfl (w1 rfl rfl rfl) rfl (cO tok hv25 rfl rfl rfl rfl rfl rfl) (aLw tok ?_)
 refine rQ rfl (w1 rfl rfl rfl) rfl (gO rfl rfl) (aCn ?_)
 refine bS ?_
 refine ⟨by kernel_rfl,?_⟩
 refine aH ?_
 cases h6
 exact wk [0,1,2,3]
 iterate 10 refine k2 ?_
 refine aFu ?_
 refine bS ?_
 refine ⟨by kernel_rfl,?_⟩
 refine aH ?_
 cases h6
 exact wk [0,1,2,3]
 refine bP h5 rfl (fun hc h5 => ?_) (fun hc h5 => ?_)
 refine sk (aG (sr [0,1,2] (pm ?_)))
 refine rP rfl (hY rfl rfl) (pa (aX ?_))
 refine bB (cB ?_)
 cases h5
 refine ⟨_,rfl,?_⟩
 exact wk [0,1,2,3]
 refine bI (cC ?_)
 cases h5
 refine cD ⟨_,rfl,fun e => ?_⟩
 subst e
 refine aU (aH ?_)
 exact wk [0,1,2,3]
 refine aE (cM (yP (k := 3) (t' := aB (aB (aB (aB ((fun _ => .dead)) 0 (dL cI p0)) 3 (dL cI s18.2)) 4 (dI s18.1)) 5 (dI v27)) rfl (FzL.nil)) (aK (is := [0,1,2,4,5,6,7,3,8,9,10]) [0,0,3,7,0,0,48,112,240,511,1023] follows (by kernel_rfl) (tpm ?_)))
 refine tpm ?_
 obtain ⟨hq28,h3⟩ := dM h3
 refine tP rfl (tO tok hq28 rfl (.inl ⟨rfl,rfl⟩) (.inr ⟨_,_,rfl,rfl⟩) rfl rfl rfl (fun _ => rfl)) (tpm ?_)
 refine tpm ?_
 obtain ⟨v29,hv29,h3⟩ := bnd h3
 refine tP rfl (cO tok hv29 rfl rfl rfl rfl rfl rfl) (tlr tok ?_)
 obtain ⟨v30,hv30,h3⟩ := bnd h3
 refine mS rfl w0 rfl (dF 5 (aDt hv30) rfl rfl rfl) (aAx rfl w0 rfl rfl (fun hx hk => vY 4 tok cI [v29] rfl rfl rfl (by repeat (first | exact Els.nil _ | apply Els.cons (cs := [.d _]) rfl rfl rfl | apply Els.cons (cs := _ :: _) rfl rfl rfl)) rfl rfl rfl (by repeat (first | exact cH.nil | (apply cH.cons; (repeat (first | exact fA.nil | apply fA.cons))))) rfl hk) ?_)
 obtain ⟨hq31,h3⟩ := dM h3
 refine yB rfl w0 rfl (fL tok hq31 rfl rfl rfl rfl rfl rfl rfl rfl rfl rfl rfl rfl (fun _ => rfl)) (tP rfl (aR (r := .own _ _ _) rfl) (bS ?_))
 refine ⟨by kernel_rfl,?_⟩
 refine aH (sr [0,1,2,3,4,5] (rP rfl (aF (r := .own _ _ _) rfl) (pm ?_)))
 refine pm ?_
 obtain ⟨hq32,h3⟩ := dM h3
 refine rP rfl (tO tok hq32 rfl (.inr ⟨_,_,rfl,rfl⟩) (.inl ⟨rfl,rfl⟩) rfl rfl rfl (fun _ => rfl)) ?_
 obtain ⟨hq33,h3⟩ := dM h3
 refine rw1 rfl w0 rfl (fL tok hq33 rfl rfl rfl rfl rfl rfl rfl rfl rfl rfl rfl rfl (fun _ => rfl)) (rP rfl (aR (r := .own _ _ _) rfl) (aX (bB (aH ?_))))
 cases h3
 exact wk [0,1,2,5]
 refine sr [0,1,2] (pm ?_)
 refine rP rfl (bN rfl rfl) (pa (aX ?_))
 refine cB ?_
 cases h2
 refine ⟨_,rfl,?_⟩
 exact wk [0,1,2,3]
 refine bI (cC ?_)
 cases h2
 refine cD ⟨_,rfl,fun e => ?_⟩
 subst e
 refine aU (aH ?_)
 exact wk [0,1,2,3]
 refine sq [0,1] (rP rfl (aF (r := .own _ _ _) rfl) (rP rfl (aR (r := .own _ _ _) rfl) (nx (aD ?_))))
 cases h0
 exact eK (rs := [.tmp 2]) [3] rfl
theorem aG7 {p0 : List Int} {p1 : List Int} {r : List bE} (h0 : iZ p0 p1 = some r) : FnC Tryz.prog 284 [] [dL cI p0,(dL cI p1)] [.live [⟨121,2, .data (List.map bW r)⟩]] (.own 0 0 r.length) := by
 refine fi 37 tok Tryz.func284 ?_
 unfold iZ at h0
 refine sq [0] (pa (nx (sq [0,1,2] ?_)))
 refine pm ?_
 obtain ⟨v1,hv1,h0⟩ := bnd h0
 refine rS rfl (aM 3 (aCe hv1) rfl rfl rfl) (rP rfl (aR (r := .own _ _ _) rfl) (nx (sq [0,1,2] (pm ?_))))
 obtain ⟨v2,hv2,h0⟩ := bnd h0
 refine rS rfl (aM 4 (aCe hv2) rfl rfl rfl) (rP rfl (aR (r := .own _ _ _) rfl) (nx (sq [0,1] (rS rfl (eM 5 tok rfl rfl rfl rfl) (rP rfl (aR (r := .own _ _ _) rfl) (nx ?_))))))
 obtain ⟨v11,h1,h0⟩ := bnd h0
 refine bC ⟨aB ((fun _ => .dead)) 7 (.own 3 0 (v11).length),lks [.no, .no, .no, .live [⟨121,2, .data (List.map bW v11)⟩]]⟩ ?_ ?_
 refine sq [0] (pa (nx (aG ?_)))
 refine aZ (fun s7 => ⟨aB (aB (aB (aB ((fun _ => .dead)) 5 (.own 3 0 (v1).length)) 6 (.own 4 0 (v2).length)) 7 (.own 5 0 (s7.2).length)) 8 (dI s7.1),lks [.no, .no, .no, .live [⟨2,1, .data (List.map cI v1)⟩], .live [⟨2,1, .data (List.map cI v2)⟩], .live [⟨121,2, .data (List.map bW s7.2)⟩]]⟩) h1 ?_ (fun s7 y h2 => ?_)
 exact wk [0,1,2,3,4,5]
 refine aE (sq [0,1,2,3] (pm ?_))
 refine rP rfl (aF (r := .own _ _ _) rfl) (rL rfl (rC tok rfl rfl rfl rfl rfl) (rP rfl (bK rfl rfl) (nx ?_)))
 refine bR h2 rfl (fun hc h2 => ?_) (fun hc h2 => ?_)
 refine sk (aE (aG (aK (is := [0,1,2,3,4,5,6,7,8,9,10,11,12,13,14,15,16]) [0,0,0,4,12,0,60,126,254,0,0,1536,3584,8190,16382,32767,65535] follows (by kernel_rfl) ?_)))
 iterate 3 refine tP rfl (aF (r := .own _ _ _) rfl) ?_
 refine dG rfl w0 rfl (rC tok rfl rfl rfl rfl rfl) rfl rfl rfl (tP rfl (hY rfl rfl) (tpm ?_))
 refine tP rfl (hY rfl rfl) ?_
 obtain ⟨v8,hv8,h2⟩ := bnd h2
 refine dG rfl w0 rfl (jU tok hv8 rfl rfl rfl rfl rfl rfl rfl rfl) rfl rfl rfl (dG rfl w0 rfl (lK tok (gV hv8).2.1 rfl rfl rfl rfl rfl rfl) rfl rfl rfl (tP rfl (aF (r := .own _ _ _) rfl) (tpm ?_)))
 obtain ⟨v9,hv9,h2⟩ := bnd h2
 refine dG rfl w0 rfl (jU tok hv9 rfl rfl rfl rfl rfl rfl rfl rfl) rfl rfl rfl (dG rfl w0 rfl (lK tok (gV hv9).2.1 rfl rfl rfl rfl rfl rfl) rfl rfl rfl (tP rfl (pbl (C0 := [z0,z0]) tok rfl rfl rfl) (aSh rfl w0 rfl (jV tok bW [(⟨v8,v9⟩ : bE)] rfl rfl rfl (by repeat (first | exact Els.nil _ | apply Els.cons (cs := [.d _]) rfl rfl rfl | apply Els.cons (cs := _ :: _) rfl rfl rfl)) rfl rfl rfl (by repeat (first | exact cH.nil | (apply cH.cons; (repeat (first | exact fA.nil | apply fA.cons))))) rfl) ?_)))
 obtain ⟨hq10,h2⟩ := dM h2
 refine yB rfl w0 rfl (fL tok hq10 rfl rfl rfl rfl rfl rfl rfl rfl rfl rfl rfl rfl (fun _ => rfl)) (tP rfl (aR (r := .own _ _ _) rfl) (bS ?_))
 refine ⟨by kernel_rfl,?_⟩
 refine bB (aH (sr [0,1,2] (pm ?_)))
 refine rP rfl (bN rfl rfl) (pa (aX ?_))
 refine cB ?_
 cases h2
 refine ⟨_,rfl,?_⟩
 exact wk [0,1,2,3,4,5]
 refine bI (cC ?_)
 cases h2
 refine cD ⟨_,rfl,fun e => ?_⟩
 subst e
 refine aU (aH ?_)
 exact wk [0,1,2,5]
 refine sq [0,1] (rP rfl (aF (r := .own _ _ _) rfl) (rP rfl (aR (r := .own _ _ _) rfl) (nx (aD ?_))))
 cases h0
 exact eK (rs := [.tmp 4]) [3] rfl
theorem aDy {p0 : List bE} {r : Int} (h0 : kS p0 = some r) : FnC Tryz.prog 300 [] [dL bW p0] [] (dI r) := by
 refine fi 25 tok Tryz.func300 ?_
 unfold kS at h0
 refine sq [0] (pa (nx (sq [0] ?_)))
 refine pa (nx ?_)
 obtain ⟨v7,h1,h0⟩ := bnd h0
 refine bC ⟨aB ((fun _ => .dead)) 3 (dI v7),lks [.no, .no, .no]⟩ ?_ ?_
 refine sq [0] (pa (nx (aG ?_)))
 refine aZ (fun s4 => ⟨aB (aB (aB ((fun _ => .dead)) 0 (dL bW p0)) 3 (dI s4.1)) 4 (dI s4.2),lks [.no, .no, .no]⟩) h1 ?_ (fun s4 y h2 => ?_)
 exact wk [0,1,2]
 refine aE (sq [0,1,2,3] (pm ?_))
 refine pm ?_
 refine rP rfl (aL tok rfl rfl rfl) (rP rfl (bK rfl rfl) (nx ?_))
 refine bR h2 rfl (fun hc h2 => ?_) (fun hc h2 => ?_)
 refine sk (aE (aG (aK (is := [0,1,2,3,4,5,6,7,8,9,10,11,12,13]) [0,0,0,6,14,30,0,0,192,448,960,2046,4095,8191] follows (by kernel_rfl) ?_)))
 iterate 3 refine tpm ?_
 obtain ⟨v5,hv5,h2⟩ := bnd h2
 refine tP rfl (cO tok hv5 rfl rfl rfl rfl rfl rfl) (tfr tok ?_)
 refine tlr tok ?_
 refine tpm ?_
 refine tpm ?_
 obtain ⟨v6,hv6,h2⟩ := bnd h2
 refine tP rfl (cO tok hv6 rfl rfl rfl rfl rfl rfl) (tfr tok ?_)
 refine tlr tok ?_
 refine tP rfl (bN rfl rfl) (tP rfl (bN rfl rfl) (tpa ?_))
 refine bS ?_
 refine ⟨by kernel_rfl,?_⟩
 refine bB (aH (sr [0,1,2] (pm ?_)))
 refine rP rfl (bN rfl rfl) (pa (aX ?_))
 refine cB ?_
 cases h2
 refine ⟨_,rfl,?_⟩
 exact wk [0,1,2]
 refine bI (cC ?_)
 cases h2
 refine cD ⟨_,rfl,fun e => ?_⟩
 subst e
 refine aU (aH ?_)
 exact wk [0,1,2]
 refine sq [0,1] (pm ?_)
 refine pa (nx (aD ?_))
 cases h0
 exact r0t 2 rfl
theorem uV {p0 : Int} {r : aA} (h0 : iY p0 = some r) : FnC Tryz.prog 251 [] [dI p0] [] (.agg [dI r.Num,(dI r.Den)]) := by
 refine fi 5 tok Tryz.func251 ?_
 unfold iY at h0
 refine sq [0] (al 3 [z0,z0] tok (nx (sq [0,1,2] ?_)))
 refine pm ?_
 refine rP rfl (pbl (C0 := [z0,z0]) tok rfl rfl rfl) (bst tok (nx (aD ?_)))
 cases h0
 exact eI (rs := [.cell 2 62]) rfl
theorem aC5 {p0 : aA} {p1 : aA} {r : Int} (h0 : oX p0 p1 = some r) : FnC Tryz.prog 301 [] [.agg [dI p0.Num,(dI p0.Den)], .agg [dI p1.Num,(dI p1.Den)]] [] (dI r) := by
 refine fi 25 tok Tryz.func301 ?_
 unfold oX at h0
 refine sq [0,1,2] (bxx 3 ?_)
 refine bxx 4 ?_
 refine pa (nx (sq [0,1,2,3,4,5] ?_))
 refine fa tok ?_
 refine ld tok ?_
 refine fa tok ?_
 refine ld tok ?_
 refine rP rfl (eG rfl rfl) (pa (nx (sq [0,1,2,3,4,5] ?_)))
 refine fa tok ?_
 refine ld tok ?_
 refine fa tok ?_
 refine ld tok ?_
 refine rP rfl (eG rfl rfl) (pa (nx (aE (aG (sq [0,1,2,3] ?_)))))
 refine pm ?_
 refine pm ?_
 refine rP rfl (bK rfl rfl) (pa (nx ?_))
 refine bR h0 rfl (fun hc h0 => ?_) (fun hc h0 => ?_)
 refine sq [0] (pa (nx (aD ?_)))
 refine bG (aT ?_)
 cases h0
 exact r0t 4 rfl
 refine sq [0,1,2,3] (pm ?_)
 refine pm ?_
 refine rP rfl (gO rfl rfl) (pa (nx ?_))
 refine bR h0 rfl (fun hc h0 => ?_) (fun hc h0 => ?_)
 refine sq [0] (pa (nx (aD ?_)))
 refine bG (aT ?_)
 cases h0
 exact r0t 4 rfl
 refine cW (bB (aH (sq [0] (pa (nx (aD ?_))))))
 cases h0
 exact r0t 4 rfl
theorem aC6 {p0 : List bE} {p1 : List bE} {r : Int} (h0 : iH p0 p1 = some r) : FnC Tryz.prog 285 [] [dL bW p0,(dL bW p1)] [] (dI r) := by
 refine fi 91 tok Tryz.func285 ?_
 unfold iH at h0
 refine sq [0] (pa (nx (sq [0,1,2,3] ?_)))
 refine pm ?_
 obtain ⟨v1,hv1,h0⟩ := bnd h0
 refine rS rfl (aM 3 (aDy hv1) rfl rfl rfl) (rS rfl (nB 3 tok cI [v1] rfl rfl rfl (by repeat (first | exact Els.nil _ | apply Els.cons (cs := [.d _]) rfl rfl rfl | apply Els.cons (cs := _ :: _) rfl rfl rfl)) rfl rfl rfl (by repeat (first | exact cH.nil | (apply cH.cons; (repeat (first | exact fA.nil | apply fA.cons))))) rfl rfl) (rP rfl (aR (r := .own _ _ _) rfl) (nx (sq [0,1,2,3] (pm ?_)))))
 obtain ⟨v2,hv2,h0⟩ := bnd h0
 refine rS rfl (aM 4 (aDy hv2) rfl rfl rfl) (rS rfl (nB 4 tok cI [v2] rfl rfl rfl (by repeat (first | exact Els.nil _ | apply Els.cons (cs := [.d _]) rfl rfl rfl | apply Els.cons (cs := _ :: _) rfl rfl rfl)) rfl rfl rfl (by repeat (first | exact cH.nil | (apply cH.cons; (repeat (first | exact fA.nil | apply fA.cons))))) rfl rfl) (rP rfl (aR (r := .own _ _ _) rfl) (nx ?_)))
 obtain ⟨v11,h1,h0⟩ := bnd h0
 refine bC ⟨aB (aB (aB ((fun _ => .dead)) 1 (dL bW p1)) 5 (.own 3 0 (v11).length)) 6 (.own 4 0 ([v2]).length),lks [.no, .no, .no, .live [⟨2,1, .data (List.map cI v11)⟩], .live [⟨2,1, .data (List.map cI [v2])⟩]]⟩ ?_ ?_
 refine sq [0] (pa (nx (aG ?_)))
 refine aZ (fun s7 => ⟨aB (aB (aB (aB (aB ((fun _ => .dead)) 0 (dL bW p0)) 1 (dL bW p1)) 5 (.own 3 0 (s7.2).length)) 6 (.own 4 0 ([v2]).length)) 7 (dI s7.1),lks [.no, .no, .no, .live [⟨2,1, .data (List.map cI s7.2)⟩], .live [⟨2,1, .data (List.map cI [v2])⟩]]⟩) h1 ?_ (fun s7 y h2 => ?_)
 exact wk [0,1,2,3,4]
 refine aE (sq [0,1,2,3] (pm ?_))
 refine pm ?_
 refine rP rfl (aL tok rfl rfl rfl) (rP rfl (bK rfl rfl) (nx ?_))
 refine bR h2 rfl (fun hc h2 => ?_) (fun hc h2 => ?_)
 refine sk (aE (aG (aK (is := [0,1,2,3,4,5,6,7,8,9,10,11,12,13]) [0,0,0,6,14,30,0,0,192,448,960,2046,4095,8191] follows (by kernel_rfl) (tP rfl (aF (r := .own _ _ _) rfl) (tpm ?_)))))
 refine tpm ?_
 obtain ⟨v8,hv8,h2⟩ := bnd h2
 refine tP rfl (cO tok hv8 rfl rfl rfl rfl rfl rfl) (tfr tok ?_)
 refine tlr tok ?_
 refine tpm ?_
 refine tpm ?_
 obtain ⟨v9,hv9,h2⟩ := bnd h2
 refine tP rfl (cO tok hv9 rfl rfl rfl rfl rfl rfl) (tfr tok ?_)
 refine tlr tok ?_
 refine aSh rfl w0 rfl (jV tok cI [v8.Driver,v9.Driven] rfl rfl rfl (by repeat (first | exact Els.nil _ | apply Els.cons (cs := [.d _]) rfl rfl rfl | apply Els.cons (cs := _ :: _) rfl rfl rfl)) rfl rfl rfl (by repeat (first | exact cH.nil | (apply cH.cons; (repeat (first | exact fA.nil | apply fA.cons))))) rfl) ?_
 obtain ⟨hq10,h2⟩ := dM h2
 refine yB rfl w0 rfl (fL tok hq10 rfl rfl rfl rfl rfl rfl rfl rfl rfl rfl rfl rfl (fun _ => rfl)) (tP rfl (aR (r := .own _ _ _) rfl) (bS ?_))
 refine ⟨by kernel_rfl,?_⟩
 refine bB (aH (sr [0,1,2] (pm ?_)))
 refine rP rfl (bN rfl rfl) (pa (aX ?_))
 refine cB ?_
 cases h2
 refine ⟨_,rfl,?_⟩
 exact wk [0,1,2,3,4]
 refine bI (cC ?_)
 cases h2
 refine cD ⟨_,rfl,fun e => ?_⟩
 subst e
 refine aU (aH ?_)
 exact wk [0,1,2,3,4]
 obtain ⟨v20,h1,h0⟩ := bnd h0
 refine bC ⟨aB (aB ((fun _ => .dead)) 5 (.own 3 0 (v11).length)) 6 (.own 4 0 (v20).length),lks [.no, .no, .no, .live [⟨2,1, .data (List.map cI v11)⟩], .live [⟨2,1, .data (List.map cI v20)⟩]]⟩ ?_ ?_
 refine sq [0] (pa (nx (aG ?_)))
 refine aZ (fun s16 => ⟨aB (aB (aB (aB ((fun _ => .dead)) 1 (dL bW p1)) 5 (.own 3 0 (v11).length)) 6 (.own 4 0 (s16.2).length)) 8 (dI s16.1),lks [.no, .no, .no, .live [⟨2,1, .data (List.map cI v11)⟩], .live [⟨2,1, .data (List.map cI s16.2)⟩]]⟩) h1 ?_ (fun s16 y h2 => ?_)
 exact wk [0,1,2,3,4]
 refine aE (sq [0,1,2,3] (pm ?_))
 refine pm ?_
 refine rP rfl (aL tok rfl rfl rfl) (rP rfl (bK rfl rfl) (nx ?_))
 refine bR h2 rfl (fun hc h2 => ?_) (fun hc h2 => ?_)
 refine sk (aE (aG (aK (is := [0,1,2,3,4,5,6,7,8,9,10,11,12,13]) [0,0,0,6,14,30,0,0,192,448,960,2046,4095,8191] follows (by kernel_rfl) (tP rfl (aF (r := .own _ _ _) rfl) (tpm ?_)))))
 refine tpm ?_
 obtain ⟨v17,hv17,h2⟩ := bnd h2
 refine tP rfl (cO tok hv17 rfl rfl rfl rfl rfl rfl) (tfr tok ?_)
 refine tlr tok ?_
 refine tpm ?_
 refine tpm ?_
 obtain ⟨v18,hv18,h2⟩ := bnd h2
 refine tP rfl (cO tok hv18 rfl rfl rfl rfl rfl rfl) (tfr tok ?_)
 refine tlr tok ?_
 refine aSh rfl w0 rfl (jV tok cI [v17.Driver,v18.Driven] rfl rfl rfl (by repeat (first | exact Els.nil _ | apply Els.cons (cs := [.d _]) rfl rfl rfl | apply Els.cons (cs := _ :: _) rfl rfl rfl)) rfl rfl rfl (by repeat (first | exact cH.nil | (apply cH.cons; (repeat (first | exact fA.nil | apply fA.cons))))) rfl) ?_
 obtain ⟨hq19,h2⟩ := dM h2
 refine yB rfl w0 rfl (fL tok hq19 rfl rfl rfl rfl rfl rfl rfl rfl rfl rfl rfl rfl (fun _ => rfl)) (tP rfl (aR (r := .own _ _ _) rfl) (bS ?_))
 refine ⟨by kernel_rfl,?_⟩
 refine bB (aH (sr [0,1,2] (pm ?_)))
 refine rP rfl (bN rfl rfl) (pa (aX ?_))
 refine cB ?_
 cases h2
 refine ⟨_,rfl,?_⟩
 exact wk [0,1,2,3,4]
 refine bI (cC ?_)
 cases h2
 refine cD ⟨_,rfl,fun e => ?_⟩
 subst e
 refine aU (aH ?_)
 exact wk [0,1,2,3,4]
 obtain ⟨v33x,h1,h0⟩ := bnd h0
 refine eN v33x (fun v33 => ⟨aB (aB ((fun _ => .dead)) 5 (.own 3 0 (v11).length)) 6 (.own 4 0 (v20).length),lks [.no, .no, .no, .live [⟨2,1, .data (List.map cI v11)⟩], .live [⟨2,1, .data (List.map cI v20)⟩]]⟩) ?_ ?_
 refine sq [0] (pa (nx (aG ?_)))
 refine aZ (fun s27 => ⟨aB (aB (aB ((fun _ => .dead)) 5 (.own 3 0 (v11).length)) 6 (.own 4 0 (v20).length)) 9 (dI s27),lks [.no, .no, .no, .live [⟨2,1, .data (List.map cI v11)⟩], .live [⟨2,1, .data (List.map cI v20)⟩]]⟩) h1 ?_ (fun s27 y h2 => ?_)
 exact wk [0,1,2,3,4]
 refine aE ?_
 obtain ⟨v28,h3,h2⟩ := bnd h2
 refine bC ⟨aB (aB (aB (aB ((fun _ => .dead)) 5 (.own 3 0 (v11).length)) 6 (.own 4 0 (v20).length)) 9 (dI s27)) 63 (dB v28),lks [.no, .no, .no, .live [⟨2,1, .data (List.map cI v11)⟩], .live [⟨2,1, .data (List.map cI v20)⟩]]⟩ ?_ ?_
 refine sr [0,1,2,3,4,5,6,7,8,9] (pm ?_)
 refine rP rfl (aF (r := .own _ _ _) rfl) (rL rfl (rC tok rfl rfl rfl rfl rfl) (rP rfl (bK rfl rfl) (pm ?_)))
 refine fI (u := 58) h3 rfl (fun hc h3 => ?_) (fun hc h3 => ?_)
 refine pm1 ?_
 refine rp rfl (w1 rfl rfl rfl) rfl (aF (r := .own _ _ _) rfl) (rl rfl (w1 rfl rfl rfl) rfl (rC tok rfl rfl rfl rfl rfl) (rp rfl (w1 rfl rfl rfl) rfl (bK rfl rfl) (pkt (nx ?_))))
 cases h3
 exact wk [0,1,2,3,4]
 iterate 4 refine k1 ?_
 refine pkf (nx ?_)
 cases h3
 exact wk [0,1,2,3,4]
 refine bP h2 rfl (fun hc h2 => ?_) (fun hc h2 => ?_)
 refine sk (aE (aG (aE (aE (aK (is := [0,1,2,3,4,5,6,7,8]) [0,0,3,7,0,0,48,112,255] follows (by kernel_rfl) (tP rfl (aF (r := .own _ _ _) rfl) (tpm ?_)))))))
 obtain ⟨v29,hv29,h2⟩ := bnd h2
 refine dG rfl w0 rfl (jU tok hv29 rfl rfl rfl rfl rfl rfl rfl rfl) rfl rfl rfl (dG rfl w0 rfl (lK tok (gV hv29).2.1 rfl rfl rfl rfl rfl rfl) rfl rfl rfl (tP rfl (aF (r := .own _ _ _) rfl) (tpm ?_)))
 obtain ⟨v30,hv30,h2⟩ := bnd h2
 refine dG rfl w0 rfl (jU tok hv30 rfl rfl rfl rfl rfl rfl rfl rfl) rfl rfl rfl (dG rfl w0 rfl (lK tok (gV hv30).2.1 rfl rfl rfl rfl rfl rfl) rfl rfl rfl (tP rfl (bK rfl rfl) (bS ?_)))
 refine ⟨by kernel_rfl,?_⟩
 refine aH ?_
 refine bR h2 rfl (fun hc h2 => ?_) (fun hc h2 => ?_)
 refine sq [0] (pa (nx (aD (aT ?_))))
 refine bG (aT ?_)
 cases h2
 refine fC ⟨_,rfl,fun e => ?_⟩
 subst e
 refine bG ?_
 replace h0 := jF h0
 refine aT ?_
 cases h0
 exact r0t 4 rfl
 refine sk (aE (aK (is := [0,1,2,3,4,5,6,7,8]) [0,0,3,7,0,0,48,112,255] follows (by kernel_rfl) (tP rfl (aF (r := .own _ _ _) rfl) (tpm ?_))))
 obtain ⟨v31,hv31,h2⟩ := bnd h2
 refine dG rfl w0 rfl (jU tok hv31 rfl rfl rfl rfl rfl rfl rfl rfl) rfl rfl rfl (dG rfl w0 rfl (lK tok (gV hv31).2.1 rfl rfl rfl rfl rfl rfl) rfl rfl rfl (tP rfl (aF (r := .own _ _ _) rfl) (tpm ?_)))
 obtain ⟨v32,hv32,h2⟩ := bnd h2
 refine dG rfl w0 rfl (jU tok hv32 rfl rfl rfl rfl rfl rfl rfl rfl) rfl rfl rfl (dG rfl w0 rfl (lK tok (gV hv32).2.1 rfl rfl rfl rfl rfl rfl) rfl rfl rfl (tP rfl (gO rfl rfl) (bS ?_)))
 refine ⟨by kernel_rfl,?_⟩
 refine aH ?_
 refine bR h2 rfl (fun hc h2 => ?_) (fun hc h2 => ?_)
 refine sq [0] (pa (nx (aD ?_)))
 refine bG (aT ?_)
 cases h2
 refine fC ⟨_,rfl,fun e => ?_⟩
 subst e
 refine bG ?_
 replace h0 := jF h0
 refine aT ?_
 cases h0
 exact r0t 4 rfl
 refine cW (bB (aH (sr [0,1,2] (pm ?_))))
 refine rP rfl (bN rfl rfl) (pa (aX ?_))
 refine cB ?_
 cases h2
 refine ⟨_,rfl,?_⟩
 exact wk [0,1,2,3,4]
 refine bI (cC ?_)
 cases h2
 refine cD ⟨_,rfl,fun e => ?_⟩
 subst e
 refine aU (aH ?_)
 refine ⟨_,rfl,?_⟩
 exact wk [0,1,2,3,4]
 rintro v33 rfl
 replace h0 := lZ h0
 refine sq [0,1,2,3,4,5,6,7] (rP rfl (aF (r := .own _ _ _) rfl) (rL rfl (rC tok rfl rfl rfl rfl rfl) ?_))
 obtain ⟨v34,hv34,h0⟩ := bnd h0
 refine rS rfl (aM 5 (uV hv34) rfl rfl rfl) (rP rfl (aF (r := .own _ _ _) rfl) (rL rfl (rC tok rfl rfl rfl rfl rfl) ?_))
 obtain ⟨v35,hv35,h0⟩ := bnd h0
 refine rS rfl (aM 5 (uV hv35) rfl rfl rfl) ?_
 obtain ⟨v36,hv36,h0⟩ := bnd h0
 refine rS rfl (aM 5 (aC5 hv36) rfl rfl rfl) (pa (nx (aD ?_)))
 cases h0
 exact r0t 4 rfl
theorem uA {p0 : dK} {p1 : aA} {p2 : aO} {p3 : aO} {r : dK} (h0 : eZ p0 p1 p2 p3 = some r) : FnC Tryz.prog 275 [.live [⟨304,4, .av [[dI p0.driver,(dI p0.driven),(dI p0.off),(dL bW p0.train)]]⟩]] [.ptr 0 0 1 0 0, .agg [dI p1.Num,(dI p1.Den)], .ref (aQ p2), .ref (aQ p3)] [.live [⟨304,4, .av [[dI r.driver,(dI r.driven),(dI r.off),(dL bW r.train)]]⟩]] (.tup []) := by
 refine fi 105 tok Tryz.func275 ?_
 unfold eZ at h0
 refine sq [0] (bxx 3 (nx (aE ?_)))
 refine aK (is := [0,1,2,3,4,5,6,7,8,9,10,11,12,13,14,15,16]) [0,1,3,7,0,16,63,0,128,384,896,0,2048,8064,16383,32767,65535] follows (by kernel_rfl) (aD3 ?_)
 refine tnr ?_
 refine tfr tok ?_
 refine tlr tok ?_
 refine tfa tok ?_
 refine tld tok ?_
 refine tP rfl (eG rfl rfl) (aD3 ?_)
 refine tnr ?_
 refine tfr tok ?_
 refine tlr tok ?_
 refine tfa tok ?_
 refine tld tok ?_
 refine tP rfl (eG rfl rfl) (tP rfl (hY rfl rfl) ?_)
 obtain ⟨v1,hv1,h0⟩ := bnd h0
 refine mS rfl w0 rfl (dF 4 (tW hv1) rfl rfl rfl) (tpa ?_)
 refine bS ?_
 refine ⟨by kernel_rfl,?_⟩
 refine aH (sq [0,1,2,3,4,5,6] (pm ?_))
 refine rP rfl (aF (r := .ptr _ _ _ _ _) rfl) (rL rfl (lD rfl rfl) (fa tok ?_))
 refine ld tok ?_
 refine rP rfl (eG rfl rfl) (pa (nx (aE ?_)))
 refine aK (is := [0,1,2,3,4,5,6,7,8,9]) [0,1,3,7,0,16,48,112,255,511] follows (by kernel_rfl) (tP rfl (aF (r := .ptr _ _ _ _ _) rfl) (dG rfl w0 rfl (lD rfl rfl) rfl rfl rfl (tfa tok ?_)))
 refine tld tok ?_
 refine aD3 ?_
 refine tnr ?_
 refine tfr tok ?_
 refine tlr tok ?_
 refine tP rfl (eG rfl rfl) (tpa ?_)
 refine bS ?_
 refine ⟨by kernel_rfl,?_⟩
 refine aH (aE ?_)
 obtain ⟨v2,h1,h0⟩ := bnd h0
 refine bC ⟨aB (aB (aB (aB (aB (aB (aB ((fun _ => .dead)) 0 (.ptr 0 0 1 0 0)) 2 (.ref (aQ p2))) 3 (.ref (aQ p3))) 8 (dI v1)) 9 (dI (w64 (v1 * p0.driven)))) 10 (dI (w64 (p0.off * p3.value)))) 53 (dB v2),lks [.live [⟨304,4, .av [[dI p0.driver,(dI p0.driven),(dI p0.off),(dL bW p0.train)]]⟩], .no, .no]⟩ ?_ ?_
 refine sr [0,1,2,3,4,5,6,7,8,9,10] (rP rfl (aF (r := .ptr _ _ _ _ _) rfl) (rL rfl (lD rfl rfl) (fa tok ?_)))
 refine ld tok ?_
 refine rP rfl (aL tok rfl rfl rfl) (rP rfl (gO rfl rfl) (pm ?_))
 refine fI (u := 49) h1 rfl (fun hc h1 => ?_) (fun hc h1 => ?_)
 refine pm1 ?_
 refine pm1 ?_
 refine rp rfl (w1 rfl rfl rfl) rfl (gO rfl rfl) (pkt (nx ?_))
 cases h1
 exact wk [0,1,2]
 iterate 3 refine k1 ?_
 refine pkf (nx ?_)
 cases h1
 exact wk [0,1,2]
 refine bP h0 rfl (fun hc h0 => ?_) (fun hc h0 => ?_)
 refine aD (aT ?_)
 cases h0
 exact aB7 (rs := []) 1 rfl rfl
 refine sk (aE (aK (is := [0,1,2,3,4,5,6,7,8,9]) [0,1,3,7,0,16,48,112,255,511] follows (by kernel_rfl) (aD3 ?_)))
 refine tnr ?_
 refine tfr tok ?_
 refine tlr tok ?_
 refine aD3 ?_
 refine tnr ?_
 refine tfr tok ?_
 refine tlr tok ?_
 obtain ⟨v3,hv3,h0⟩ := bnd h0
 refine mS rfl w0 rfl (dF 3 (aG7 hv3) rfl rfl rfl) (tP rfl (aR (r := .own _ _ _) rfl) (bS ?_))
 refine ⟨by kernel_rfl,?_⟩
 refine aH ?_
 obtain ⟨v5,h1,h0⟩ := bnd h0
 refine bC ⟨aB (aB (aB (aB (aB (aB ((fun _ => .dead)) 0 (.ptr 0 0 1 0 0)) 2 (.ref (aQ p2))) 3 (.ref (aQ p3))) 8 (dI v1)) 11 (.own 3 0 (v3).length)) 82 (dB v5),lks [.live [⟨304,4, .av [[dI p0.driver,(dI p0.driven),(dI p0.off),(dL bW p0.train)]]⟩], .no, .no, .live [⟨121,2, .data (List.map bW v3)⟩]]⟩ ?_ ?_
 refine sr [0,1,2,3,4,5,6,7,8,9,10,11,12,13,14,15,16,17,18,19] (rP rfl (aF (r := .ptr _ _ _ _ _) rfl) (rL rfl (lD rfl rfl) (fa tok ?_)))
 refine ld tok ?_
 refine rP rfl (aL tok rfl rfl rfl) (rP rfl (iT rfl rfl) (pm ?_))
 refine fI (u := 69) h1 rfl (fun hc h1 => ?_) (fun hc h1 => ?_)
 iterate 3 refine k1 ?_
 refine pkt ?_
 refine pm ?_
 iterate 7 refine k1 ?_
 refine pkt (nx ?_)
 cases h1
 exact wk [0,1,2,3]
 refine pm1 ?_
 refine pm1 ?_
 refine rp rfl (w1 rfl rfl rfl) rfl (bK rfl rfl) (pkf ?_)
 refine pm ?_
 refine fI (u := 74) h1 rfl (fun hc h1 => ?_) (fun hc h1 => ?_)
 iterate 7 refine k1 ?_
 refine pkt (nx ?_)
 cases h1
 exact wk [0,1,2,3]
 refine rp rfl (w1 rfl rfl rfl) rfl (aF (r := .own _ _ _) rfl) (rp rfl (w1 rfl rfl rfl) rfl (aF (r := .ptr _ _ _ _ _) rfl) (rl rfl (w1 rfl rfl rfl) rfl (lD rfl rfl) (fa1 tok ?_)))
 refine ld1 tok ?_
 obtain ⟨v4,hv4,h1⟩ := bnd h1
 refine rs rfl (w1 rfl rfl rfl) rfl (fU 4 (aC6 hv4) rfl rfl) (rp rfl (w1 rfl rfl rfl) rfl (bK rfl rfl) (pkf (nx ?_)))
 cases h1
 exact wk [0,1,2,3]
 refine bP h0 rfl (fun hc h0 => ?_) (fun hc h0 => ?_)
 refine sq [0,1,2,3,4,5,6,7] (rP rfl (aF (r := .ptr _ _ _ _ _) rfl) (pmr ?_))
 refine nr ?_
 refine fr tok ?_
 refine lr tok ?_
 refine rL rfl (lD rfl rfl) (fa tok ?_)
 refine bs1 tok (nx (sq [0,1,2,3,4,5,6,7] ?_))
 refine rP rfl (aF (r := .ptr _ _ _ _ _) rfl) (pmr ?_)
 refine nr ?_
 refine fr tok ?_
 refine lr tok ?_
 refine rL rfl (lD rfl rfl) (fa tok ?_)
 refine bs1 tok (nx (sq [0,1,2,3,4] ?_))
 refine rP rfl (aF (r := .ptr _ _ _ _ _) rfl) (pm ?_)
 refine rL rfl (lD rfl rfl) (fa tok ?_)
 refine bs1 tok (nx (sr [0,1,2,3,4] ?_))
 refine rP rfl (aF (r := .ptr _ _ _ _ _) rfl) (rP rfl (aF (r := .own _ _ _) rfl) (rL rfl (lD rfl rfl) (fa tok ?_)))
 refine mD (yP (k := 3) (t' := aB (aB ((fun _ => .dead)) 102 (dL bW v3)) 104 (.ptr 0 0 1 0 3)) rfl (FzL.nil)) (bs1 tok (aX ?_))
 cases h0
 exact aB7 (rs := []) 1 rfl rfl
 refine cW ?_
 cases h0
 exact aB7 (rs := []) 1 rfl rfl
theorem aFd {p0 : aA} {p1 : iD} {r : List bE} (h0 : iB p0 p1 = some r) : FnC Tryz.prog 241 [] [.agg [dI p0.Num,(dI p0.Den)], .ref (aAm p1)] [] (dL bW r) := by
 refine fi 129 tok Tryz.func241 ?_
 unfold iB at h0
 refine sq [0,1] (bxx 3 ?_)
 refine pa (nx (aE ?_))
 refine aK (is := [0,1,2,3,4,5,6,7,8,9,10,11,12,13]) [0,1,3,7,0,16,48,112,0,256,768,1792,4095,8191] follows (by kernel_rfl) (aD3 ?_)
 refine tnr ?_
 refine tfr tok ?_
 refine tlr tok ?_
 refine aD3 ?_
 refine tnr ?_
 refine tfr tok ?_
 refine tlr tok ?_
 refine aD3 ?_
 refine tnr ?_
 refine tfr tok ?_
 refine tlr tok ?_
 obtain ⟨v1,hv1,h0⟩ := bnd h0
 refine mS rfl w0 rfl (dF 4 (uY hv1) rfl rfl rfl) (tpa ?_)
 refine bS ?_
 refine ⟨by kernel_rfl,?_⟩
 refine aH (aE (aK (is := [0,1,2,3,4,5,6,7,8,9,10,11,12,13,14]) [0,1,3,7,0,16,48,112,0,256,768,1792,4095,8191,16383] follows (by kernel_rfl) (aD3 ?_)))
 refine tnr ?_
 refine tfr tok ?_
 refine tlr tok ?_
 refine aD3 ?_
 refine tnr ?_
 refine tfr tok ?_
 refine tlr tok ?_
 refine aD3 ?_
 refine tnr ?_
 refine tfr tok ?_
 refine tlr tok ?_
 obtain ⟨v2,hv2,h0⟩ := bnd h0
 refine mS rfl w0 rfl (dF 4 (uY hv2) rfl rfl rfl) ?_
 obtain ⟨v3,hv3,h0⟩ := bnd h0
 refine mS rfl w0 rfl (dF 4 (aI4 hv3) rfl rfl rfl) (tpa ?_)
 refine bS ?_
 refine ⟨by kernel_rfl,?_⟩
 refine aH (sq [0,1,2] (rP rfl (pbl (C0 := [z0,z0,z0,zl]) tok rfl rfl rfl) (bxx 4 ?_)))
 refine mD (sW 5 rfl 121 2 (kb := 4) (j := 3) rfl rfl (by repeat (first | exact Spl.z _ | apply Spl.t | apply Spl.d))) (mD (yP (k := 5) (t' := aB (aB (aB (aB (aB ((fun _ => .dead)) 2 (.ptr 3 0 1 0 0)) 5 (dL aQ v1)) 6 (dL aQ v3)) 41 (.agg [z0,z0,z0,zl])) 42 (.ptr 4 0 1 0 0)) rfl (FzL.box (kb := 4) (ds := [z0,z0,z0,(dL bW ([] : List bE))]) rfl rfl (by repeat (first | exact oZ.nil | apply oZ.cons | exact FzR.d _ | exact FzR.own rfl (by first | rfl | (simp; done) | (simp; omega)) | exact FzR.ptr rfl (by repeat (first | exact Drp.z _ | apply Drp.d)) | exact FzR.own' | exact FzR.ptr' | exact FzR.ref _ | apply FzR.agg | apply FzR.tup | apply FzR.fn | exact FzR.dead _)) (FzL.nil))) (rP rfl (aR (r := .ptr _ _ _ _ _) rfl) (nx ?_)))
 obtain ⟨v70,h1,h0⟩ := bnd h0
 refine bC ⟨aB ((fun _ => .dead)) 7 (.ptr 3 0 1 0 0),lks [.no, .no, .no, .live [⟨304,4, .av [[dI v70.driver,(dI v70.driven),(dI v70.off),(dL bW v70.train)]]⟩]]⟩ ?_ ?_
 refine sq [0] (pa (nx (aG ?_)))
 refine aZ (fun s37 => ⟨aB (aB (aB (aB (aB ((fun _ => .dead)) 2 (.ptr 3 0 1 0 0)) 5 (dL aQ v1)) 6 (dL aQ v3)) 7 (.ptr 4 0 1 0 0)) 8 (dI s37.1),lks [.no, .no, .no, .live [⟨62,2, .av [[dI p0.Num,(dI p0.Den)]]⟩], .live [⟨304,4, .av [[dI s37.2.driver,(dI s37.2.driven),(dI s37.2.off),(dL bW s37.2.train)]]⟩]]⟩) h1 ?_ (fun s37 y h2 => ?_)
 exact wk [0,1,2,3,4]
 refine aE (sq [0,1,2,3] (pm ?_))
 refine pm ?_
 refine rP rfl (aL tok rfl rfl rfl) (rP rfl (bK rfl rfl) (nx ?_))
 refine bR h2 rfl (fun hc h2 => ?_) (fun hc h2 => ?_)
 refine sk ?_
 obtain ⟨v69,h3,h2⟩ := bnd h2
 refine bC ⟨aB (aB (aB (aB (aB ((fun _ => .dead)) 2 (.ptr 3 0 1 0 0)) 5 (dL aQ v1)) 6 (dL aQ v3)) 7 (.ptr 4 0 1 0 0)) 8 (dI s37.1),lks [.no, .no, .no, .live [⟨62,2, .av [[dI p0.Num,(dI p0.Den)]]⟩], .live [⟨304,4, .av [[dI v69.driver,(dI v69.driven),(dI v69.off),(dL bW v69.train)]]⟩]]⟩ ?_ ?_
 refine aG (aE (aK (is := [0,1,2,3,4,5,6,7,8,9,10,11]) [0,0,3,7,15,0,32,127,0,256,1023,2047] follows (by kernel_rfl) (tpm ?_)))
 refine tpm ?_
 obtain ⟨v38,hv38,h3⟩ := bnd h3
 refine tP rfl (cO tok hv38 rfl rfl rfl rfl rfl rfl) (tfr tok ?_)
 refine tlr tok ?_
 refine tfa tok ?_
 refine tld tok ?_
 refine tP rfl (eG rfl rfl) (tfa tok ?_)
 refine tld tok ?_
 obtain ⟨hq39,h3⟩ := dM h3
 refine tP rfl (sN rfl rfl hq39) (tpa ?_)
 refine bS ?_
 refine ⟨by kernel_rfl,?_⟩
 refine aH (sq [0,1,2,3,4] (pm ?_))
 refine pm ?_
 refine rP rfl (bN rfl rfl) ?_
 obtain ⟨v40,hv40,h3⟩ := bnd h3
 refine rS rfl (aM 5 (aG9 hv40) rfl rfl rfl) (pa (nx ?_))
 obtain ⟨v54,h4,h3⟩ := bnd h3
 refine bC ⟨aB (aB (aB (aB (aB (aB ((fun _ => .dead)) 2 (.ptr 3 0 1 0 0)) 5 (dL aQ v1)) 6 (dL aQ v3)) 7 (.ptr 4 0 1 0 0)) 8 (dI s37.1)) 10 (dI v40),lks [.no, .no, .no, .live [⟨62,2, .av [[dI p0.Num,(dI p0.Den)]]⟩], .live [⟨304,4, .av [[dI v54.driver,(dI v54.driven),(dI v54.off),(dL bW v54.train)]]⟩]]⟩ ?_ ?_
 refine sq [0,1] (pm ?_)
 refine rP rfl (gO rfl rfl) (nx ?_)
 refine bR h4 rfl (fun hc h4 => ?_) (fun hc h4 => ?_)
 refine sq [0,1,2,3,4,5,6] (pm ?_)
 refine pm ?_
 refine rP rfl (hY rfl rfl) ?_
 obtain ⟨v41,hv41,h4⟩ := bnd h4
 refine rP rfl (cO tok hv41 rfl rfl rfl rfl rfl rfl) (fr tok ?_)
 refine lr tok ?_
 refine pa (nx (sq [0,1,2] ?_))
 refine pm ?_
 refine rP rfl (hY rfl rfl) (pa (nx (aG ?_)))
 refine aZ (fun s48 => ⟨aB (aB (aB (aB (aB (aB (aB (aB ((fun _ => .dead)) 2 (.ptr 3 0 1 0 0)) 5 (dL aQ v1)) 6 (dL aQ v3)) 7 (.ptr 4 0 1 0 0)) 8 (dI s37.1)) 10 (dI v40)) 11 (dI v41.value)) 12 (dI s48.1),lks [.no, .no, .no, .live [⟨62,2, .av [[dI p0.Num,(dI p0.Den)]]⟩], .live [⟨304,4, .av [[dI s48.2.driver,(dI s48.2.driven),(dI s48.2.off),(dL bW s48.2.train)]]⟩]]⟩) h4 ?_ (fun s48 y h5 => ?_)
 exact wk [0,1,2,3,4]
 refine aE ?_
 obtain ⟨v50,h6,h5⟩ := bnd h5
 refine bC ⟨aB (aB (aB (aB (aB (aB (aB (aB (aB ((fun _ => .dead)) 2 (.ptr 3 0 1 0 0)) 5 (dL aQ v1)) 6 (dL aQ v3)) 7 (.ptr 4 0 1 0 0)) 8 (dI s37.1)) 10 (dI v40)) 11 (dI v41.value)) 12 (dI s48.1)) 84 (dB v50),lks [.no, .no, .no, .live [⟨62,2, .av [[dI p0.Num,(dI p0.Den)]]⟩], .live [⟨304,4, .av [[dI s48.2.driver,(dI s48.2.driven),(dI s48.2.off),(dL bW s48.2.train)]]⟩]]⟩ ?_ ?_
 refine sr [0,1,2,3,4,5,6,7,8,9,10] (pm ?_)
 refine rP rfl (rF rfl rfl) (pm ?_)
 refine fI (u := 76) h6 rfl (fun hc h6 => ?_) (fun hc h6 => ?_)
 refine pm1 ?_
 refine pm1 ?_
 obtain ⟨v49,hv49,h6⟩ := bnd h6
 refine rp rfl (w1 rfl rfl rfl) rfl (cO tok hv49 rfl rfl rfl rfl rfl rfl) (fr1 tok ?_)
 refine lr1 tok ?_
 refine pm1 ?_
 refine rp rfl (w1 rfl rfl rfl) rfl (iT rfl rfl) (pkt (nx ?_))
 cases h6
 refine lO.trans_ (kU (d := 80) (ds := cI v49.value) rfl (by repeat (first | exact Pre.z _ | apply Pre.t))) ?_
 exact wk [0,1,2,3,4]
 iterate 7 refine k1 ?_
 refine pkf (nx ?_)
 cases h6
 exact wk [0,1,2,3,4]
 refine bP h5 rfl (fun hc h5 => ?_) (fun hc h5 => ?_)
 refine sk (aE (aG (aK (is := [0,1,2,3,4,5,6,7,8]) [0,0,0,0,12,0,0,96,255] follows (by kernel_rfl) (tP rfl (aF (r := .ptr _ _ _ _ _) rfl) (dG rfl w0 rfl (aW tok rfl rfl rfl rfl) rfl rfl rfl (tpm ?_))))))
 refine tpm ?_
 obtain ⟨v51,hv51,h5⟩ := bnd h5
 refine tP rfl (cO tok hv51 rfl rfl rfl rfl rfl rfl) (tpm ?_)
 refine tpm ?_
 obtain ⟨v52,hv52,h5⟩ := bnd h5
 refine tP rfl (cO tok hv52 rfl rfl rfl rfl rfl rfl) ?_
 obtain ⟨v53,hv53,h5⟩ := bnd h5
 refine aSi rfl w0 rfl (by repeat (first | exact lW _ | exact lV rfl | refine lX ?_ rfl)) (aEc 4 (uA hv53) rfl rfl rfl) ?_
 refine bS ?_
 refine ⟨by kernel_rfl,?_⟩
 refine bB (aH (sr [0,1,2] (pm ?_)))
 refine rP rfl (hY rfl rfl) (pa (aX ?_))
 refine cB ?_
 cases h5
 refine ⟨_,rfl,?_⟩
 exact wk [0,1,2,3,4]
 refine bI (cC ?_)
 cases h5
 refine cD ⟨_,rfl,fun e => ?_⟩
 subst e
 refine aU (aH ?_)
 exact wk [0,1,2,3,4]
 refine sk ?_
 cases h4
 exact wk [0,1,2,3,4]
 refine sq [0,1] (pm ?_)
 refine pa (nx (aG ?_))
 refine aZ (fun s62 => ⟨aB (aB (aB (aB (aB (aB (aB ((fun _ => .dead)) 2 (.ptr 3 0 1 0 0)) 5 (dL aQ v1)) 6 (dL aQ v3)) 7 (.ptr 4 0 1 0 0)) 8 (dI s37.1)) 10 (dI v40)) 13 (dI s62.1),lks [.no, .no, .no, .live [⟨62,2, .av [[dI p0.Num,(dI p0.Den)]]⟩], .live [⟨304,4, .av [[dI s62.2.driver,(dI s62.2.driven),(dI s62.2.off),(dL bW s62.2.train)]]⟩]]⟩) h3 ?_ (fun s62 y h4 => ?_)
 exact wk [0,1,2,3,4]
 refine aE ?_
 obtain ⟨v65,h5,h4⟩ := bnd h4
 refine bC ⟨aB (aB (aB (aB (aB (aB (aB (aB ((fun _ => .dead)) 2 (.ptr 3 0 1 0 0)) 5 (dL aQ v1)) 6 (dL aQ v3)) 7 (.ptr 4 0 1 0 0)) 8 (dI s37.1)) 10 (dI v40)) 13 (dI s62.1)) 113 (dB v65),lks [.no, .no, .no, .live [⟨62,2, .av [[dI p0.Num,(dI p0.Den)]]⟩], .live [⟨304,4, .av [[dI s62.2.driver,(dI s62.2.driven),(dI s62.2.off),(dL bW s62.2.train)]]⟩]]⟩ ?_ ?_
 refine aK (is := [0,1,2,3,4,5,6,7,8,9,10,11,12,13,14,15,16]) [0,0,2,7,15,31,31,127,255,511,31,31,3103,7199,15391,32767,65535] follows (by kernel_rfl) (tpm ?_)
 refine tpm ?_
 refine tP rfl (aL tok rfl rfl rfl) (tP rfl (bK rfl rfl) (tpm ?_))
 refine aG4 (u := 101) h5 rfl (fun hc h5 => ?_) (fun hc h5 => ?_)
 refine aF1 ?_
 refine aF1 ?_
 obtain ⟨v63,hv63,h5⟩ := bnd h5
 refine rQ rfl (w1 rfl rfl rfl) rfl (cO tok hv63 rfl rfl rfl rfl rfl rfl) (aH0 tok ?_)
 refine aLw tok ?_
 refine aF1 ?_
 refine aF1 ?_
 obtain ⟨v64,hv64,h5⟩ := bnd h5
 refine rQ rfl (w1 rfl rfl rfl) rfl (cO tok hv64 rfl rfl rfl rfl rfl rfl) (aH0 tok ?_)
 refine aLw tok ?_
 refine rQ rfl (w1 rfl rfl rfl) rfl (iT rfl rfl) (aCn ?_)
 refine bS ?_
 refine ⟨by kernel_rfl,?_⟩
 refine aH ?_
 cases h5
 refine lO.trans_ (kU (d := 105) (ds := cI v63.value) rfl (by repeat (first | exact Pre.z _ | apply Pre.t))) (lO.trans_ (kU (d := 110) (ds := cI v64.value) rfl (by repeat (first | exact Pre.z _ | apply Pre.t))) ?_)
 exact wk [0,1,2,3,4]
 iterate 11 refine k2 ?_
 refine aFu ?_
 refine bS ?_
 refine ⟨by kernel_rfl,?_⟩
 refine aH ?_
 cases h5
 exact wk [0,1,2,3,4]
 refine bP h4 rfl (fun hc h4 => ?_) (fun hc h4 => ?_)
 refine sk (aE (aG (aK (is := [0,1,2,3,4,5,6,7,8]) [0,0,0,0,12,0,0,96,255] follows (by kernel_rfl) (tP rfl (aF (r := .ptr _ _ _ _ _) rfl) (dG rfl w0 rfl (aW tok rfl rfl rfl rfl) rfl rfl rfl (tpm ?_))))))
 refine tpm ?_
 obtain ⟨v66,hv66,h4⟩ := bnd h4
 refine tP rfl (cO tok hv66 rfl rfl rfl rfl rfl rfl) (tpm ?_)
 refine tpm ?_
 obtain ⟨v67,hv67,h4⟩ := bnd h4
 refine tP rfl (cO tok hv67 rfl rfl rfl rfl rfl rfl) ?_
 obtain ⟨v68,hv68,h4⟩ := bnd h4
 refine aSi rfl w0 rfl (by repeat (first | exact lW _ | exact lV rfl | refine lX ?_ rfl)) (aEc 4 (uA hv68) rfl rfl rfl) ?_
 refine bS ?_
 refine ⟨by kernel_rfl,?_⟩
 refine bB (aH (sr [0,1,2] (pm ?_)))
 refine rP rfl (bN rfl rfl) (pa (aX ?_))
 refine cB ?_
 cases h4
 refine ⟨_,rfl,?_⟩
 exact wk [0,1,2,3,4]
 refine bI (cC ?_)
 cases h4
 refine cD ⟨_,rfl,fun e => ?_⟩
 subst e
 refine aU ?_
 refine bB (aH ?_)
 exact wk [0,1,2,3,4]
 refine sr [0,1,2] (pm ?_)
 refine rP rfl (bN rfl rfl) (pa (aX ?_))
 refine cB ?_
 cases h2
 refine ⟨_,rfl,?_⟩
 exact wk [0,1,2,3,4]
 refine bI (cC ?_)
 cases h2
 refine cD ⟨_,rfl,fun e => ?_⟩
 subst e
 refine aU (aH ?_)
 exact wk [0,1,2,4]
 refine sq [0,1,2,3,4] (rP rfl (aF (r := .ptr _ _ _ _ _) rfl) (rL rfl (lD rfl rfl) (fa tok ?_)))
 refine ld tok ?_
 refine pa (nx (aD ?_))
 cases h0
 exact r0t 4 rfl
theorem aI1 {p0 : bE} {r : Bool} (h0 : tX p0 = some r) : FnC Tryz.prog 286 [] [.agg [dI p0.Driver,(dI p0.Driven)]] [] (dB r) := by
 refine fi 11 tok Tryz.func286 ?_
 unfold tX at h0
 refine sq [0,1] (bxx 3 ?_)
 refine pa (nx (sq [0,1,2,3,4,5,6,7,8] ?_))
 refine fa tok ?_
 refine ld tok ?_
 obtain ⟨v1,hv1,h0⟩ := bnd h0
 refine rS rfl (aM 4 (pN hv1) rfl rfl rfl) (pm ?_)
 refine dQ (u := 6) h0 rfl (fun hc h0 => ?_) (fun hc h0 => ?_)
 refine fa1 tok ?_
 refine ld1 tok ?_
 obtain ⟨v2,hv2,h0⟩ := bnd h0
 refine rs rfl (w1 rfl rfl rfl) rfl (aM 4 (pN hv2) rfl rfl rfl) (pkt ?_)
 refine pa (nx (aD ?_))
 cases h0
 exact r0t 2 rfl
 iterate 3 refine k1 ?_
 refine pkf ?_
 refine pa (nx (aD ?_))
 cases h0
 exact r0t 2 rfl
theorem aN3 {p0 : List bE} {r : Bool} (h0 : uW p0 = some r) : FnC Tryz.prog 276 [] [dL bW p0] [] (dB r) := by
 refine fi 19 tok Tryz.func276 ?_
 unfold uW at h0
 refine sq [0] (pa (nx ?_))
 obtain ⟨v7x,h1,h0⟩ := bnd h0
 refine eN v7x (fun v7 => ⟨aB ((fun _ => .dead)) 0 (dL bW p0),lks [.no, .no, .no]⟩) ?_ ?_
 refine sq [0] (pa (nx (aG ?_)))
 refine aZ (fun s4 => ⟨aB (aB ((fun _ => .dead)) 0 (dL bW p0)) 3 (dI s4),lks [.no, .no, .no]⟩) h1 ?_ (fun s4 y h2 => ?_)
 exact wk [0,1,2]
 refine aE (sq [0,1,2,3] (pm ?_))
 refine pm ?_
 refine rP rfl (aL tok rfl rfl rfl) (rP rfl (bK rfl rfl) (nx ?_))
 refine bR h2 rfl (fun hc h2 => ?_) (fun hc h2 => ?_)
 refine sk (aE (aG (sq [0,1,2,3,4,5] (pm ?_))))
 refine pm ?_
 obtain ⟨v5,hv5,h2⟩ := bnd h2
 refine rP rfl (cO tok hv5 rfl rfl rfl rfl rfl rfl) (rP rfl (bU tok rfl rfl rfl (by repeat (first | exact lN.z _ | apply lN.t))) ?_)
 obtain ⟨v6,hv6,h2⟩ := bnd h2
 refine rS rfl (aM 3 (aI1 hv6) rfl rfl rfl) (rP rfl (cE rfl) (nx ?_))
 refine bP h2 rfl (fun hc h2 => ?_) (fun hc h2 => ?_)
 refine sq [0] (pa (nx (aD ?_)))
 refine bG (aT ?_)
 cases h2
 refine fC ⟨_,rfl,fun e => ?_⟩
 subst e
 refine bG ?_
 replace h0 := jF h0
 refine aT ?_
 cases h0
 exact r0t 2 rfl
 refine cW (bB (aH (sr [0,1,2] (pm ?_))))
 refine rP rfl (bN rfl rfl) (pa (aX ?_))
 refine cB ?_
 cases h2
 refine ⟨_,rfl,?_⟩
 exact wk [0,1,2]
 refine bI (cC ?_)
 cases h2
 refine cD ⟨_,rfl,fun e => ?_⟩
 subst e
 refine aU (aH ?_)
 refine ⟨_,rfl,?_⟩
 exact wk [0,1,2]
 rintro v7 rfl
 replace h0 := lZ h0
 refine sq [0,1,2,3] (pm ?_)
 refine rP rfl (aL tok rfl rfl rfl) (rP rfl (gR rfl rfl) (pa (nx (aD ?_))))
 cases h0
 exact r0t 2 rfl
theorem aDw {p0 : aA} {p1 : aA} {r : aA × Bool} (h0 : hH p0 p1 = some r) : FnC Tryz.prog 83 [] [.agg [dI p0.Num,(dI p0.Den)], .agg [dI p1.Num,(dI p1.Den)]] [] (.tup [.agg [dI r.1.Num,(dI r.1.Den)],(dB r.2)]) := by
 refine fi 19 tok Tryz.func83 ?_
 unfold hH at h0
 refine sq [0,1,2,3] (bxx 3 ?_)
 refine bxx 4 ?_
 refine al 5 [z0,z0] tok ?_
 refine pa (nx (sq [0,1,2,3,4,5,6,7,8,9,10,11,12,13,14] ?_))
 refine fa tok ?_
 refine ld tok ?_
 refine fa tok ?_
 refine ld tok ?_
 refine rP rfl (eG rfl rfl) (fa tok ?_)
 refine ld tok ?_
 refine fa tok ?_
 refine ld tok ?_
 refine rP rfl (eG rfl rfl) ?_
 obtain ⟨v1,hv1,h0⟩ := bnd h0
 refine rS rfl (aM 6 (tV hv1) rfl rfl rfl) (rP rfl (aJ rfl rfl) (rP rfl (aJ rfl rfl) (bst tok ?_)))
 refine pa (nx (aD ?_))
 cases h0
 exact eI (rs := [.cell 4 62, .tmp 5]) rfl
theorem aG8 {p0 : List bE} {r : aA × Bool} (h0 : jA p0 = some r) : FnC Tryz.prog 287 [] [dL bW p0] [] (.tup [.agg [dI r.1.Num,(dI r.1.Den)],(dB r.2)]) := by
 refine fi 43 tok Tryz.func287 ?_
 unfold jA at h0
 refine sq [0,1] (al 3 [z0,z0] tok ?_)
 refine pa (nx (sq [0,1,2] ?_))
 obtain ⟨v1,hv1,h0⟩ := bnd h0
 refine rS rfl (aM 4 (uV hv1) rfl rfl rfl) (al 4 [z0,z0] tok ?_)
 refine bst tok (nx ?_)
 obtain ⟨v12x,h1,h0⟩ := bnd h0
 refine eN v12x (fun v12 => ⟨aB (aB ((fun _ => .dead)) 2 (.ptr 3 0 1 0 0)) 4 (.ptr 4 0 1 0 0),lks [.no, .no, .no, .live [⟨62,2, .av [[z0,z0]]⟩], .live [⟨62,2, .av [[dI v12.Num,(dI v12.Den)]]⟩]]⟩) ?_ ?_
 refine sq [0] (pa (nx (aG ?_)))
 refine aZ (fun s7 => ⟨aB (aB (aB (aB ((fun _ => .dead)) 0 (dL bW p0)) 2 (.ptr 3 0 1 0 0)) 4 (.ptr 4 0 1 0 0)) 5 (dI s7.1),lks [.no, .no, .no, .live [⟨62,2, .av [[z0,z0]]⟩], .live [⟨62,2, .av [[dI s7.2.Num,(dI s7.2.Den)]]⟩]]⟩) h1 ?_ (fun s7 y h2 => ?_)
 exact wk [0,1,2,3,4]
 refine aE (sq [0,1,2,3] (pm ?_))
 refine pm ?_
 refine rP rfl (aL tok rfl rfl rfl) (rP rfl (bK rfl rfl) (nx ?_))
 refine bR h2 rfl (fun hc h2 => ?_) (fun hc h2 => ?_)
 refine sk (aE (aG (aE (aK (is := [0,1,2,3,4,5,6,7,8,9,10,11,12,13,14,15,16,17]) [0,0,3,7,15,31,0,0,192,448,960,2047,4095,8191,8191,0,49151,131071] follows (by kernel_rfl) (tpm ?_)))))
 refine tpm ?_
 obtain ⟨v8,hv8,h2⟩ := bnd h2
 refine tP rfl (cO tok hv8 rfl rfl rfl rfl rfl rfl) (tfr tok ?_)
 refine tlr tok ?_
 refine tP rfl (uT rfl) (tpm ?_)
 refine tpm ?_
 obtain ⟨v9,hv9,h2⟩ := bnd h2
 refine tP rfl (cO tok hv9 rfl rfl rfl rfl rfl rfl) (tfr tok ?_)
 refine tlr tok ?_
 obtain ⟨v10,hv10,h2⟩ := bnd h2
 refine mS rfl w0 rfl (dF 6 (tV hv10) rfl rfl rfl) (tP rfl (aF (r := .tup _) rfl) (tP rfl (aJ rfl rfl) (tP rfl (aJ rfl rfl) (aAx rfl w0 rfl rfl (fun hx hk => nV 5 (cs := [z0,z0]) tok rfl rfl hk) (qH rfl w0 (kY (cs := _ :: _) tok rfl rfl rfl rfl rfl rfl rfl) (tpa ?_))))))
 refine bS ?_
 refine ⟨by kernel_rfl,?_⟩
 refine aH (sq [0,1,2,3,4,5,6,7,8] (rL rfl (aW tok rfl rfl rfl rfl) (rL rfl (aW tok rfl rfl rfl rfl) ?_)))
 obtain ⟨v11,hv11,h2⟩ := bnd h2
 refine rS rfl (aM 6 (aDw hv11) rfl rfl rfl) (rP rfl (aF (r := .tup _) rfl) (rP rfl (aJ rfl rfl) (rP rfl (aJ rfl rfl) (al 6 [z0,z0] tok ?_))))
 refine bst tok ?_
 refine pa (nx (aE (sq [0,1] ?_)))
 refine pm ?_
 refine rP rfl (cE rfl) (nx ?_)
 refine bP h2 rfl (fun hc h2 => ?_) (fun hc h2 => ?_)
 refine sq [0,1,2] (rP rfl (pbl (C0 := [z0,z0]) tok rfl rfl rfl) (bst tok ?_))
 refine pa (nx (aD (aT ?_)))
 refine bG (aT ?_)
 cases h2
 refine fC ⟨_,rfl,fun e => ?_⟩
 subst e
 refine bG ?_
 replace h0 := jF h0
 refine aT ?_
 cases h0
 exact eI (rs := [.cell 2 62, .tmp 3]) rfl
 refine sk (sr [0,1] (rL rfl (aW tok rfl rfl rfl rfl) (bst tok (aX ?_))))
 refine bB (aH (sr [0,1,2] (pm ?_)))
 refine rP rfl (bN rfl rfl) (pa (aX ?_))
 refine cB ?_
 cases h2
 refine ⟨_,rfl,?_⟩
 exact wk [0,1,2,3,4]
 refine bI (cC ?_)
 cases h2
 refine cD ⟨_,rfl,fun e => ?_⟩
 subst e
 refine aU (aH ?_)
 refine ⟨_,rfl,?_⟩
 exact wk [0,1,2,3,4]
 rintro v12 rfl
 replace h0 := lZ h0
 refine sq [0,1,2] (rL rfl (aW tok rfl rfl rfl rfl) (bst tok ?_))
 refine pa (nx (aD ?_))
 cases h0
 exact eI (rs := [.cell 2 62, .tmp 3]) rfl
theorem aDx {p0 : aA} {r : aA} (h0 : oK p0 = some r) : FnC Tryz.prog 85 [] [.agg [dI p0.Num,(dI p0.Den)]] [] (.agg [dI r.Num,(dI r.Den)]) := by
 refine fi 9 tok Tryz.func85 ?_
 unfold oK at h0
 refine sq [0,1] (bxx 3 ?_)
 refine al 4 [z0,z0] tok (nx (sq [0,1,2,3,4,5,6] ?_))
 refine fa tok ?_
 refine ld tok ?_
 refine rP rfl (uT rfl) (fa tok ?_)
 refine ld tok ?_
 refine rP rfl (pbl (C0 := [z0,z0]) tok rfl rfl rfl) (bst tok (nx (aD ?_)))
 cases h0
 exact eI (rs := [.cell 2 62]) rfl
theorem aDv {p0 : aA} {p1 : aA} {r : aA × Bool} (h0 : oH p0 p1 = some r) : FnC Tryz.prog 84 [] [.agg [dI p0.Num,(dI p0.Den)], .agg [dI p1.Num,(dI p1.Den)]] [] (.tup [.agg [dI r.1.Num,(dI r.1.Den)],(dB r.2)]) := by
 refine fi 25 tok Tryz.func84 ?_
 unfold oH at h0
 refine sq [0,1,2,3] (bxx 3 ?_)
 refine bxx 4 ?_
 refine al 5 [z0,z0] tok ?_
 refine pa (nx (sq [0,1,2,3,4,5,6,7,8,9,10,11,12,13,14,15,16,17,18,19,20] ?_))
 refine fa tok ?_
 refine ld tok ?_
 refine fa tok ?_
 refine ld tok ?_
 refine rP rfl (eG rfl rfl) (fa tok ?_)
 refine ld tok ?_
 refine fa tok ?_
 refine ld tok ?_
 refine rP rfl (eG rfl rfl) (rP rfl (bN rfl rfl) (fa tok ?_))
 refine ld tok ?_
 refine fa tok ?_
 refine ld tok ?_
 refine rP rfl (eG rfl rfl) ?_
 obtain ⟨v1,hv1,h0⟩ := bnd h0
 refine rS rfl (aM 6 (tV hv1) rfl rfl rfl) (rP rfl (aJ rfl rfl) (rP rfl (aJ rfl rfl) (bst tok ?_)))
 refine pa (nx (aD ?_))
 cases h0
 exact eI (rs := [.cell 4 62, .tmp 5]) rfl
theorem aI2 {p0 : List bE} {p1 : aA} {r : aA × Bool} (h0 : oN p0 p1 = some r) : FnC Tryz.prog 277 [] [dL bW p0, .agg [dI p1.Num,(dI p1.Den)]] [] (.tup [.agg [dI r.1.Num,(dI r.1.Den)],(dB r.2)]) := by
 refine fi 26 tok Tryz.func277 ?_
 unfold oN at h0
 refine sq [0,1,2] (bxx 3 ?_)
 refine al 4 [z0,z0] tok ?_
 refine pa (nx (sq [0,1,2,3,4,5,6,7] ?_))
 refine pm ?_
 obtain ⟨v1,hv1,h0⟩ := bnd h0
 refine rS rfl (aM 5 (aG8 hv1) rfl rfl rfl) (rP rfl (aF (r := .tup _) rfl) (rP rfl (aJ rfl rfl) (rP rfl (aJ rfl rfl) (al 5 [z0,z0] tok ?_))))
 refine bst tok ?_
 refine pa (nx (aE (sq [0,1] ?_)))
 refine pm ?_
 refine rP rfl (cE rfl) (nx ?_)
 refine bP h0 rfl (fun hc h0 => ?_) (fun hc h0 => ?_)
 refine sq [0,1,2] (rP rfl (pbl (C0 := [z0,z0]) tok rfl rfl rfl) (bst tok ?_))
 refine pa (nx (aD (aT ?_)))
 cases h0
 exact eI (rs := [.cell 4 62, .tmp 5]) rfl
 refine sk (sq [0,1,2,3,4] (fa tok ?_))
 refine ld tok ?_
 obtain ⟨v2,hv2,h0⟩ := bnd h0
 refine rS rfl (aM 6 (tW hv2) rfl rfl rfl) (fa tok ?_)
 refine bs1 tok (nx (aE ?_))
 refine aK (is := [0,1,2,3,4,5,6,7]) [0,0,2,7,15,15,63,127] follows (by kernel_rfl) (dG rfl w0 rfl (aW tok rfl rfl rfl rfl) rfl rfl rfl (dG rfl w0 rfl (aW tok rfl rfl rfl rfl) rfl rfl rfl ?_))
 obtain ⟨v3,hv3,h0⟩ := bnd h0
 refine mS rfl w0 rfl (dF 6 (aDx hv3) rfl rfl rfl) ?_
 obtain ⟨v4,hv4,h0⟩ := bnd h0
 refine mS rfl w0 rfl (dF 6 (aDv hv4) rfl rfl rfl) (tP rfl (aJ rfl rfl) (tP rfl (aJ rfl rfl) (qH rfl w0 (kY (cs := _ :: _) tok rfl rfl rfl rfl rfl rfl rfl) (tpa ?_))))
 refine bS ?_
 refine ⟨by kernel_rfl,?_⟩
 refine aH (aD ?_)
 cases h0
 exact eI (rs := [.cell 4 62, .tmp 5]) rfl
theorem aIz {p0 : List bE} {p1 : aA} {r : aA × Int} (h0 : oE p0 p1 = some r) : FnC Tryz.prog 242 [] [dL bW p0, .agg [dI p1.Num,(dI p1.Den)]] [] (.tup [.agg [dI r.1.Num,(dI r.1.Den)],(dI r.2)]) := by
 refine fi 31 tok Tryz.func242 ?_
 unfold oE at h0
 refine sq [0,1,2] (bxx 3 ?_)
 refine al 4 [z0,z0] tok ?_
 refine pa (nx (aE ?_))
 obtain ⟨v3,h1,h0⟩ := bnd h0
 refine bC ⟨aB (aB (aB (aB ((fun _ => .dead)) 0 (dL bW p0)) 3 (.ptr 3 0 1 0 0)) 4 (.ptr 4 0 1 0 0)) 15 (dB v3),lks [.no, .no, .no, .live [⟨62,2, .av [[dI p1.Num,(dI p1.Den)]]⟩], .live [⟨62,2, .av [[z0,z0]]⟩]]⟩ ?_ ?_
 refine sr [0,1,2,3,4,5,6,7] (pm ?_)
 obtain ⟨v1,hv1,h1⟩ := bnd h1
 refine rS rfl (aM 5 (aN3 hv1) rfl rfl rfl) (rP rfl (cE rfl) (pm ?_))
 refine dQ (u := 11) h1 rfl (fun hc h1 => ?_) (fun hc h1 => ?_)
 iterate 3 refine k1 ?_
 refine pkt (nx ?_)
 cases h1
 exact wk [0,1,2,3,4]
 refine rl rfl (w1 rfl rfl rfl) rfl (aW tok rfl rfl rfl rfl) ?_
 obtain ⟨v2,hv2,h1⟩ := bnd h1
 refine rs rfl (w1 rfl rfl rfl) rfl (aM 5 (sS hv2) rfl rfl rfl) (rp rfl (w1 rfl rfl rfl) rfl (cE rfl) (pkf (nx ?_)))
 cases h1
 exact wk [0,1,2,3,4]
 refine bP h0 rfl (fun hc h0 => ?_) (fun hc h0 => ?_)
 refine sq [0,1,2] (rP rfl (pbl (C0 := [z0,z0]) tok rfl rfl rfl) (bst tok ?_))
 refine pa (nx (aD (aT ?_)))
 cases h0
 exact eI (rs := [.cell 4 62, .tmp 5]) rfl
 refine sk (sq [0,1,2,3,4,5,6,7,8] (pm ?_))
 refine rL rfl (aW tok rfl rfl rfl rfl) ?_
 obtain ⟨v4,hv4,h0⟩ := bnd h0
 refine rS rfl (aM 5 (aI2 hv4) rfl rfl rfl) (rP rfl (aF (r := .tup _) rfl) (rP rfl (aJ rfl rfl) (rP rfl (aJ rfl rfl) (al 5 [z0,z0] tok ?_))))
 refine bst tok ?_
 refine pa (nx (aE (sq [0,1] ?_)))
 refine pm ?_
 refine rP rfl (cE rfl) (nx ?_)
 refine bP h0 rfl (fun hc h0 => ?_) (fun hc h0 => ?_)
 refine sq [0,1,2] (rP rfl (pbl (C0 := [z0,z0]) tok rfl rfl rfl) (bst tok ?_))
 refine pa (nx (aD (aT ?_)))
 cases h0
 exact eI (rs := [.cell 4 62, .tmp 5]) rfl
 refine sk (sq [0,1,2,3,4] (fa tok ?_))
 refine ld tok ?_
 obtain ⟨v5,hv5,h0⟩ := bnd h0
 refine rS rfl (aM 6 (tW hv5) rfl rfl rfl) (fa tok ?_)
 refine bs1 tok (nx (sq [0,1,2] ?_))
 refine rL rfl (aW tok rfl rfl rfl rfl) (bst tok ?_)
 refine pa (nx (aD ?_))
 cases h0
 exact eI (rs := [.cell 4 62, .tmp 5]) rfl
theorem aI3 {p0 : aA} {p1 : iD} {r : sE × Int} (h0 : rH p0 p1 = some r) : FnC Tryz.prog 177 [] [.agg [dI p0.Num,(dI p0.Den)], .ref (aAm p1)] [] (.tup [.agg [dL bW r.1.Train,(dI r.1.Error.Num),(dI r.1.Error.Den)],(dI r.2)]) := by
 refine fi 25 tok Tryz.func177 ?_
 unfold rH at h0
 refine sq [0,1,2] (bxx 3 ?_)
 refine al 4 [zl,z0,z0] tok ?_
 refine pa (nx (sq [0,1,2,3] ?_))
 refine rL rfl (aW tok rfl rfl rfl rfl) (pmr ?_)
 obtain ⟨v1,hv1,h0⟩ := bnd h0
 refine rS rfl (aM 5 (aFd hv1) rfl rfl rfl) (pa (nx (sq [0,1,2,3,4,5,6,7,8] ?_)))
 refine pm ?_
 refine rL rfl (aW tok rfl rfl rfl rfl) ?_
 obtain ⟨v2,hv2,h0⟩ := bnd h0
 refine rS rfl (aM 5 (aIz hv2) rfl rfl rfl) (rP rfl (aF (r := .tup _) rfl) (rP rfl (aJ rfl rfl) (rP rfl (aJ rfl rfl) (al 5 [z0,z0] tok ?_))))
 refine bst tok ?_
 refine pa (nx (aE (sq [0,1] ?_)))
 refine pm ?_
 refine rP rfl (eB rfl rfl) (nx ?_)
 refine bR h0 rfl (fun hc h0 => ?_) (fun hc h0 => ?_)
 refine sq [0,1,2,3] (rP rfl (pbl (C0 := [zl,z0,z0]) tok rfl rfl rfl) (pm ?_))
 refine bst tok ?_
 refine pa (nx ?_)
 refine wa 6 121 2 4 0 ?_
 refine cM (yP (k := 6) (t' := aB (aB ((fun _ => .dead)) 4 (.ptr 4 0 1 0 0)) 5 (dI v2.2)) rfl (FzL.box (kb := 4) (ds := [dL bW ([] : List bE),z0,z0]) rfl rfl (by repeat (first | exact oZ.nil | apply oZ.cons | exact FzR.d _ | exact FzR.own rfl (by first | rfl | (simp; done) | (simp; omega)) | exact FzR.ptr rfl (by repeat (first | exact Drp.z _ | apply Drp.d)) | exact FzR.own' | exact FzR.ptr' | exact FzR.ref _ | apply FzR.agg | apply FzR.tup | apply FzR.fn | exact FzR.dead _)) (FzL.nil))) (aD (aT ?_))
 cases h0
 exact eI (rs := [.cell 4 115, .tmp 5]) rfl
 refine sk (sq [0,1,2,3,4] (pm ?_))
 refine rL rfl (aW tok rfl rfl rfl rfl) (rP rfl (pbl (C0 := [zl,z0,z0]) tok rfl rfl rfl) (bst tok ?_))
 refine pa (nx (aD ?_))
 cases h0
 exact eI (rs := [.cell 4 115, .tmp 5]) rfl
theorem aFa {p0 : aA} {p1 : iD} {r : sE × Int} (h0 : jG p0 p1 = some r) : FnC Tryz.prog 94 [] [.agg [dI p0.Num,(dI p0.Den)], .agg [dI p1.LowDriver,(dI p1.HighDriver),(dI p1.LowDriven),(dI p1.HighDriven),(dI p1.Stages)]] [] (.tup [.agg [dL bW r.1.Train,(dI r.1.Error.Num),(dI r.1.Error.Den)],(dI r.2)]) := by
 refine fi 22 tok Tryz.func94 ?_
 unfold jG at h0
 refine sq [0,1,2,3] (bxx 3 ?_)
 refine bxx 4 ?_
 refine al 5 [zl,z0,z0] tok ?_
 refine pa (nx (aE ?_))
 obtain ⟨v3,h1,h0⟩ := bnd h0
 refine bC ⟨aB (aB (aB (aB ((fun _ => .dead)) 2 (.ptr 3 0 1 0 0)) 3 (.ptr 4 0 1 0 0)) 4 (.ptr 5 0 1 0 0)) 12 (dB v3),lks [.no, .no, .no, .live [⟨62,2, .av [[dI p0.Num,(dI p0.Den)]]⟩], .live [⟨119,5, .av [[dI p1.LowDriver,(dI p1.HighDriver),(dI p1.LowDriven),(dI p1.HighDriven),(dI p1.Stages)]]⟩], .live [⟨115,3, .av [[zl,z0,z0]]⟩]]⟩ ?_ ?_
 refine sr [0,1,2,3,4,5,6] (rL rfl (aW tok rfl rfl rfl rfl) ?_)
 obtain ⟨v1,hv1,h1⟩ := bnd h1
 refine rS rfl (aM 6 (sS hv1) rfl rfl rfl) (rP rfl (cE rfl) (pm ?_))
 refine dQ (u := 9) h1 rfl (fun hc h1 => ?_) (fun hc h1 => ?_)
 refine k1 ?_
 refine k1 ?_
 refine pkt (nx ?_)
 cases h1
 exact wk [0,1,2,3,4,5]
 obtain ⟨v2,hv2,h1⟩ := bnd h1
 refine rs rfl (w1 rfl rfl rfl) rfl (fU 6 (aN4 hv2) rfl rfl) (rp rfl (w1 rfl rfl rfl) rfl (cE rfl) (pkf (nx ?_)))
 cases h1
 exact wk [0,1,2,3,4,5]
 refine bP h0 rfl (fun hc h0 => ?_) (fun hc h0 => ?_)
 refine sq [0,1,2] (rP rfl (pbl (C0 := [zl,z0,z0]) tok rfl rfl rfl) (bst tok ?_))
 refine pa (nx ?_)
 refine wa 6 121 2 5 0 ?_
 refine cM (yP (k := 6) (t' := aB (aB ((fun _ => .dead)) 4 (.ptr 5 0 1 0 0)) 5 (dI 1)) rfl (FzL.box (kb := 5) (ds := [dL bW ([] : List bE),z0,z0]) rfl rfl (by repeat (first | exact oZ.nil | apply oZ.cons | exact FzR.d _ | exact FzR.own rfl (by first | rfl | (simp; done) | (simp; omega)) | exact FzR.ptr rfl (by repeat (first | exact Drp.z _ | apply Drp.d)) | exact FzR.own' | exact FzR.ptr' | exact FzR.ref _ | apply FzR.agg | apply FzR.tup | apply FzR.fn | exact FzR.dead _)) (FzL.nil))) (aD (aT ?_))
 cases h0
 exact eI (rs := [.cell 4 115, .tmp 5]) rfl
 refine sk (aE (sq [0,1,2] (rL rfl (aW tok rfl rfl rfl rfl) ?_)))
 obtain ⟨v4,hv4,h0⟩ := bnd h0
 refine rS rfl (aM 6 (aLp hv4) rfl rfl rfl) (rP rfl (cE rfl) (nx ?_))
 refine bP h0 rfl (fun hc h0 => ?_) (fun hc h0 => ?_)
 refine sq [0,1,2] (rP rfl (pbl (C0 := [zl,z0,z0]) tok rfl rfl rfl) (bst tok ?_))
 refine pa (nx ?_)
 refine wa 6 121 2 5 0 ?_
 refine cM (yP (k := 6) (t' := aB (aB ((fun _ => .dead)) 4 (.ptr 5 0 1 0 0)) 5 (dI 2)) rfl (FzL.box (kb := 5) (ds := [dL bW ([] : List bE),z0,z0]) rfl rfl (by repeat (first | exact oZ.nil | apply oZ.cons | exact FzR.d _ | exact FzR.own rfl (by first | rfl | (simp; done) | (simp; omega)) | exact FzR.ptr rfl (by repeat (first | exact Drp.z _ | apply Drp.d)) | exact FzR.own' | exact FzR.ptr' | exact FzR.ref _ | apply FzR.agg | apply FzR.tup | apply FzR.fn | exact FzR.dead _)) (FzL.nil))) (aD (aT ?_))
 cases h0
 exact eI (rs := [.cell 4 115, .tmp 5]) rfl
 refine sk (sq [0,1,2,3,4,5] (rL rfl (aW tok rfl rfl rfl rfl) ?_))
 obtain ⟨v5,hv5,h0⟩ := bnd h0
 refine mD (aWj (k := 4) (t' := aB (aB (aB ((fun _ => .dead)) 3 (.ref (aAm p1))) 4 (.ptr 5 0 1 0 0)) 18 (.agg [dI p0.Num,(dI p0.Den)])) rfl (FzL.nil)) (rS rfl (aM 6 (aI3 hv5) rfl rfl rfl) (rP rfl (aJ rfl rfl) (rP rfl (aJ rfl rfl) (bst tok ?_))))
 refine pa (nx (aD ?_))
 cases h0
 exact eI (rs := [.cell 4 115, .tmp 5]) rfl
theorem aAa {p0 : List bE} {r : bJ} (h0 : kJ p0 = some r) : FnC Tryz.prog 96 [] [dL bW p0] [.live [⟨123,2, .data (List.map bF r.Arbors)⟩], .live [⟨125,4, .data (List.map cQ r.Meshes)⟩]] (.agg [.own 0 0 r.Arbors.length, .own 1 0 r.Meshes.length]) := by
 refine fi 36 tok Tryz.func96 ?_
 unfold kJ at h0
 refine sq [0] (al 3 [zl,zl] tok (nx (aE ?_)))
 refine aK (is := [0,1,2,3,6,7,8,9,10,11,12,13,16,17,18,19,27,28,29,30,4,5,14,15,20,21,22,23,24,25,26,31,32,33]) [0,1,3,7,15,31,0,64,192,448,0,1024,3072,7168,16320,32704,0,65536,196608,458752,983040,2031616,0,4194304,0,16777216,67108863,0,0,0,0,2013265920,4294967295,8589934591] follows (by kernel_rfl) (tpm ?_)
 obtain ⟨v1,hv1,h0⟩ := bnd h0
 refine tP rfl (cO tok hv1 rfl rfl rfl rfl rfl rfl) (tfr tok ?_)
 refine tlr tok ?_
 refine tpm ?_
 obtain ⟨v2,hv2,h0⟩ := bnd h0
 refine tP rfl (cO tok hv2 rfl rfl rfl rfl rfl rfl) (tfr tok ?_)
 refine tlr tok ?_
 refine tpm ?_
 obtain ⟨v3,hv3,h0⟩ := bnd h0
 refine tP rfl (cO tok hv3 rfl rfl rfl rfl rfl rfl) (tfr tok ?_)
 refine tlr tok ?_
 refine tpm ?_
 obtain ⟨v4,hv4,h0⟩ := bnd h0
 refine tP rfl (cO tok hv4 rfl rfl rfl rfl rfl rfl) (tfr tok ?_)
 refine tlr tok ?_
 iterate 4 refine tP rfl (pbl (C0 := [z0,z0,z0,z0]) tok rfl rfl rfl) ?_
 refine aAx rfl w0 rfl rfl (fun hx hk => vY 4 tok cI [v1.Driver,12] rfl rfl rfl (by repeat (first | exact Els.nil _ | apply Els.cons (cs := [.d _]) rfl rfl rfl | apply Els.cons (cs := _ :: _) rfl rfl rfl)) rfl rfl rfl (by repeat (first | exact cH.nil | (apply cH.cons; (repeat (first | exact fA.nil | apply fA.cons))))) rfl hk) (tP rfl (pbl (C0 := [ze,zl]) tok rfl rfl rfl) (aAx rfl w0 rfl rfl (fun hx hk => vY 5 tok cI [v2.Driven,v3.Driver] rfl rfl rfl (by repeat (first | exact Els.nil _ | apply Els.cons (cs := [.d _]) rfl rfl rfl | apply Els.cons (cs := _ :: _) rfl rfl rfl)) rfl rfl rfl (by repeat (first | exact cH.nil | (apply cH.cons; (repeat (first | exact fA.nil | apply fA.cons))))) rfl hk) (tP rfl (pbl (C0 := [ze,zl]) tok rfl rfl rfl) (aAx rfl w0 rfl rfl (fun hx hk => vY 6 tok cI [v4.Driven] rfl rfl rfl (by repeat (first | exact Els.nil _ | apply Els.cons (cs := [.d _]) rfl rfl rfl | apply Els.cons (cs := _ :: _) rfl rfl rfl)) rfl rfl rfl (by repeat (first | exact cH.nil | (apply cH.cons; (repeat (first | exact fA.nil | apply fA.cons))))) rfl hk) (tP rfl (pbl (C0 := [ze,zl]) tok rfl rfl rfl) (aAx rfl w0 rfl rfl (fun hx hk => vY 7 tok cI [36,10] rfl rfl rfl (by repeat (first | exact Els.nil _ | apply Els.cons (cs := [.d _]) rfl rfl rfl | apply Els.cons (cs := _ :: _) rfl rfl rfl)) rfl rfl rfl (by repeat (first | exact cH.nil | (apply cH.cons; (repeat (first | exact fA.nil | apply fA.cons))))) rfl hk) (tP rfl (pbl (C0 := [ze,zl]) tok rfl rfl rfl) (aAx rfl w0 rfl rfl (fun hx hk => vY 8 tok cI [40] rfl rfl rfl (by repeat (first | exact Els.nil _ | apply Els.cons (cs := [.d _]) rfl rfl rfl | apply Els.cons (cs := _ :: _) rfl rfl rfl)) rfl rfl rfl (by repeat (first | exact cH.nil | (apply cH.cons; (repeat (first | exact fA.nil | apply fA.cons))))) rfl hk) (tP rfl (pbl (C0 := [ze,zl]) tok rfl rfl rfl) (aAx rfl w0 rfl rfl (fun hx hk => nB 9 tok bF [(⟨(⟨#[99,101,110,116,101,114]⟩ : ByteArray),[v1.Driver,12]⟩ : dH),(⟨(⟨#[116,104,105,114,100]⟩ : ByteArray),[v2.Driven,v3.Driver]⟩ : dH),(⟨(⟨#[101,115,99,97,112,101]⟩ : ByteArray),[v4.Driven]⟩ : dH),(⟨(⟨#[109,105,110,117,116,101]⟩ : ByteArray),[36,10]⟩ : dH),(⟨(⟨#[104,111,117,114]⟩ : ByteArray),[40]⟩ : dH)] rfl rfl rfl (by repeat (first | exact Els.nil _ | apply Els.cons (cs := [.d _]) rfl rfl rfl | apply Els.cons (cs := _ :: _) rfl rfl rfl)) rfl rfl rfl (by repeat (first | exact cH.nil | (apply cH.cons; (repeat (first | exact fA.nil | apply fA.cons))))) rfl hk) (aAx rfl w0 rfl rfl (fun hx hk => nB 10 tok cQ [(⟨0,0,1,0⟩ : cY),(⟨1,1,2,0⟩ : cY),(⟨0,1,3,0⟩ : cY),(⟨3,1,4,0⟩ : cY)] rfl rfl rfl (by repeat (first | exact Els.nil _ | apply Els.cons (cs := [.d _]) rfl rfl rfl | apply Els.cons (cs := _ :: _) rfl rfl rfl)) rfl rfl rfl (by repeat (first | exact cH.nil | (apply cH.cons; (repeat (first | exact fA.nil | apply fA.cons))))) rfl hk) (tP rfl (pbl (C0 := [zl,zl]) tok rfl rfl rfl) (qH rfl w0 (kY (cs := _ :: _) tok rfl rfl rfl rfl rfl rfl rfl) (bS ?_))))))))))))))
 refine ⟨by kernel_rfl,?_⟩
 refine aH (aD ?_)
 cases h0
 exact eK (rs := [.cell 2 27]) [9,10] rfl
theorem aLr {p0 : aI} {r : aI} (h0 : sU p0 = some r) : FnC Tryz.prog 97 [] [.ref (dR p0)] [.live [⟨170,3, .data (List.map aY r.Months)⟩], .live [⟨181,3, .data (List.map aP r.Rules)⟩]] (.agg [dS r.Name, .own 0 0 r.Months.length, .own 1 0 r.Rules.length,(dI r.Week)]) := by
 refine fi 22 tok Tryz.func97 ?_
 unfold sU at h0
 refine sq [0] (al 3 [ze,zl,zl,z0] tok (nx (sq [0,1,2,3,4] ?_)))
 refine pmr ?_
 refine nr ?_
 refine rP rfl (bU tok rfl rfl rfl (by repeat (first | exact lN.z _ | apply lN.t))) (al 4 [ze,zl,zl,z0] tok ?_)
 refine bst tok (nx (sq [0,1,2,3,4,5,6,7] ?_))
 refine rS rfl (eM 5 tok rfl rfl rfl rfl) (pmr ?_)
 refine nr ?_
 refine fr tok ?_
 refine lr tok ?_
 obtain ⟨hq1,h0⟩ := dM h0
 refine rw1 rfl w0 rfl (fL tok hq1 rfl rfl rfl rfl rfl rfl rfl rfl rfl rfl rfl rfl (fun _ => rfl)) (fa tok ?_)
 refine rw0 rfl w0 (kY (cs := [.own _ _ _]) tok rfl rfl rfl rfl rfl rfl rfl) (nx (sq [0,1,2,3,4,5,6,7] (rS rfl (eM 6 tok rfl rfl rfl rfl) (pmr ?_))))
 refine nr ?_
 refine fr tok ?_
 refine lr tok ?_
 obtain ⟨hq2,h0⟩ := dM h0
 refine rw1 rfl w0 rfl (fL tok hq2 rfl rfl rfl rfl rfl rfl rfl rfl rfl rfl rfl rfl (fun _ => rfl)) (fa tok ?_)
 refine rw0 rfl w0 (kY (cs := [.own _ _ _]) tok rfl rfl rfl rfl rfl rfl rfl) (nx (sq [0,1] (rL rfl (aW tok rfl rfl rfl rfl) (bst tok (nx (aD ?_))))))
 cases h0
 exact eK (rs := [.cell 2 31]) [5,6] rfl
end Go.Proofs.YtgcdbbidmfdonaaGreat
