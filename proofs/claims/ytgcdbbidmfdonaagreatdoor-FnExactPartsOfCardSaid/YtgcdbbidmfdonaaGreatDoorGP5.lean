/- Texts of this claim, one behind the other (merged by a program of mine). -/
import Derived.Test.YtgcdbbidmfdonaaGreatDoorProg
import Derived.Lib.ItoaLen
import Derived.Test.YtgcdbbidmfdonaaGreatDoorGP4
set_option linter.unusedSimpArgs false
set_option linter.unusedVariables false
namespace Go.Proofs.YtgcdbbidmfdonaaGreatDoor
open Go.RowKit
set_option linter.unusedVariables false
set_option maxRecDepth 100000
set_option maxHeartbeats 2000000
theorem aCi : Tryz.prog.eqGuardType Tryz.prog.depth 131 = false := by kernel_rfl
theorem vA {x y : Operand} (a b : bJ) (w : World) : (do eqGuard .eql 131 x y (.agg #[.int .i64 a.A, .int .i64 a.WheelA, .int .i64 a.B, .int .i64 a.WheelB]) (.agg #[.int .i64 b.A, .int .i64 b.WheelA, .int .i64 b.B, .int .i64 b.WheelB]); binOp .eql 131 (.agg #[.int .i64 a.A, .int .i64 a.WheelA, .int .i64 a.B, .int .i64 a.WheelB]) (.agg #[.int .i64 b.A, .int .i64 b.WheelA, .int .i64 b.B, .int .i64 b.WheelB]) : Sem Value).run Tryz.prog w = .ok (.bool (decide (a = b))) w := by
 have g : (eqGuard .eql 131 x y (.agg #[.int .i64 a.A, .int .i64 a.WheelA, .int .i64 a.B, .int .i64 a.WheelB]) (.agg #[.int .i64 b.A, .int .i64 b.WheelA, .int .i64 b.B, .int .i64 b.WheelB])).run Tryz.prog w = .ok () w := by simp [eqGuard,aCi]
 rw [Sem.run_bind,g,Result.andThen_ok]
 obtain ⟨x0,x1,x2,x3⟩ := a
 obtain ⟨y0,y1,y2,y3⟩ := b
 simp [go_sem]
 (repeat' split) <;> simp_all [aDk]
theorem mR {N : Nat} {t : Nat → AV} {h : bZ} {d : Tmp} {ty : TypeId} {pos : String} {aft : Array Edge} {g : Option (Nat × Bool)} {x y : Operand} {a b : bJ} (hx : toV (evA N ⟨t,h⟩ x) = some (.agg #[.int .i64 a.A, .int .i64 a.WheelA, .int .i64 a.B, .int .i64 a.WheelB])) (hy : toV (evA N ⟨t,h⟩ y) = some (.agg #[.int .i64 b.A, .int .i64 b.WheelA, .int .i64 b.B, .int .i64 b.WheelB])) : dE Tryz.prog N ⟨some d, .binOp .eql 131 x y 131,ty,pos,aft,g⟩ ⟨t,h⟩ (dB (decide (a = b))) := jM hx hy (fun w => vA a b w)
theorem qC {p0 : List Int} {p1 : Int} {r : Int} (h0 : gS p0 p1 = some r) : FnC Tryz.prog 15 [] [dL cI p0,(dI p1)] [] (dI r) := by
 refine fi 12 tok Tryz.func15 ?_
 unfold gS at h0
 refine sq [0] (pa (nx (sq [0,1,2,3,4] ?_)))
 refine pm ?_
 refine pm ?_
 refine rP rfl (aB tok rfl rfl rfl) (rP rfl (iB rfl rfl) (pa (nx (aC (sq [0,1] ?_)))))
 refine pm ?_
 refine rP rfl (bC rfl rfl) (nx ?_)
 refine bA h0 rfl (fun hc h0 => ?_) (fun hc h0 => ?_)
 refine sq [0] (pa (nx (aA (aG ?_))))
 cases h0
 exact r0t 4 rfl
 refine sk (sq [0,1] (pm ?_))
 refine pa (nx (aA ?_))
 cases h0
 exact r0t 4 rfl
theorem aAa {p0 : bH} {p1 : Int} {r : Int} (h0 : kE p0 p1 = some r) : FnC Tryz.prog 79 [] [.agg [dS p0.Name,(dL cI p0.Wheels)],(dI p1)] [] (dI r) := by
 refine fi 19 tok Tryz.func79 ?_
 unfold kE at h0
 refine sq [0,1] (bxx 3 ?_)
 refine pa (nx (sq [0,1,2,3,4,5] ?_))
 refine pm ?_
 refine fa tok ?_
 refine ld tok ?_
 refine rP rfl (gX tok rfl rfl rfl) (rP rfl (iB rfl rfl) (pa (nx (aC (sq [0,1] ?_)))))
 refine pm ?_
 refine rP rfl (bC rfl rfl) (nx ?_)
 refine bA h0 rfl (fun hc h0 => ?_) (fun hc h0 => ?_)
 refine sq [0] (pa (nx (aA (aG ?_))))
 cases h0
 exact r0t 4 rfl
 refine sk (sq [0,1,2,3,4] (fa tok ?_))
 refine ld tok ?_
 refine pm ?_
 obtain ⟨v1,hv1,h0⟩ := bnd h0
 refine rS rfl (aK 4 (qC hv1) rfl rfl rfl) (pa (nx (aC (sq [0,1] ?_))))
 refine pm ?_
 refine rP rfl (bC rfl rfl) (nx ?_)
 refine bA h0 rfl (fun hc h0 => ?_) (fun hc h0 => ?_)
 refine sq [0] (pa (nx (aA (aG ?_))))
 cases h0
 exact r0t 4 rfl
 refine sk (sq [0,1] (pm ?_))
 refine pa (nx (aA ?_))
 cases h0
 exact r0t 4 rfl
theorem wS {p0 : List bH} {p1 : Int} {r : Int} (h0 : jB p0 p1 = some r) : FnC Tryz.prog 37 [] [dL aJ p0,(dI p1)] [] (dI r) := by
 refine fi 27 tok Tryz.func37 ?_
 unfold jB at h0
 refine sq [0] (pa (nx (sq [0,1,2,3,4] ?_)))
 refine pm ?_
 refine pm ?_
 refine rP rfl (aB tok rfl rfl rfl) (rP rfl (iB rfl rfl) (pa (nx (aC (sq [0,1] ?_)))))
 refine pm ?_
 refine rP rfl (bC rfl rfl) (nx ?_)
 refine bA h0 rfl (fun hc h0 => ?_) (fun hc h0 => ?_)
 refine sq [0] (pa (nx (aA (aG ?_))))
 cases h0
 exact r0t 4 rfl
 refine sk ?_
 obtain ⟨v7x,h1,h0⟩ := bnd h0
 refine cQ v7x (fun v7 => ⟨aF ((fun _ => .dead)) 1 (dI v7),lks [.no, .no, .no]⟩) ?_ ?_
 refine sq [0] (pa (nx (aD ?_)))
 refine aR (fun s4 => ⟨aF (aF (aF ((fun _ => .dead)) 0 (dL aJ p0)) 1 (dI s4.1)) 5 (dI s4.2),lks [.no, .no, .no]⟩) h1 ?_ (fun s4 y h2 => ?_)
 exact wk [0,1,2]
 refine aC (sq [0,1,2,3] (pm ?_))
 refine pm ?_
 refine rP rfl (aB tok rfl rfl rfl) (rP rfl (bC rfl rfl) (nx ?_))
 refine bA h2 rfl (fun hc h2 => ?_) (fun hc h2 => ?_)
 refine sk (aC (aD (sq [0,1,2,3,4,5,6] (pm ?_))))
 refine pm ?_
 obtain ⟨v5,hv5,h2⟩ := bnd h2
 refine rP rfl (cO tok hv5 rfl rfl rfl rfl rfl rfl) (rP rfl (aW tok rfl rfl rfl (by repeat (first | exact gY.z _ | apply gY.t))) (pm ?_))
 obtain ⟨v6,hv6,h2⟩ := bnd h2
 refine rS rfl (aK 3 (aAa hv6) rfl rfl rfl) (pa (nx (sq [0,1] ?_)))
 refine pm ?_
 refine rP rfl (bC rfl rfl) (nx ?_)
 refine bA h2 rfl (fun hc h2 => ?_) (fun hc h2 => ?_)
 refine sq [0] (pa (nx (aA ?_)))
 refine aS (aG ?_)
 cases h2
 refine dC ⟨_,rfl,fun e => ?_⟩
 subst e
 refine aS ?_
 replace h0 := fG h0
 refine aG ?_
 cases h0
 exact r0t 4 rfl
 refine cU (bG (aI (sr [0,1,2] (pm ?_))))
 refine rP rfl (bM rfl rfl) (pa (bE ?_))
 refine bU ?_
 cases h2
 refine ⟨_,rfl,?_⟩
 exact wk [0,1,2]
 refine bI (bT ?_)
 cases h2
 refine bW ⟨_,rfl,fun e => ?_⟩
 subst e
 refine aM (aI ?_)
 refine ⟨_,rfl,?_⟩
 exact wk [0,1,2]
 rintro v7 rfl
 replace h0 := hJ h0
 refine sq [0,1] (pm ?_)
 refine pa (nx (aA ?_))
 cases h0
 exact r0t 4 rfl
theorem aAh {p0 : List bJ} {p1 : Int} {r : Int} (h0 : jT p0 p1 = some r) : FnC Tryz.prog 38 [] [dL bF p0,(dI p1)] [] (dI r) := by
 refine fi 12 tok Tryz.func38 ?_
 unfold jT at h0
 refine sq [0] (pa (nx (sq [0,1,2,3,4] ?_)))
 refine pm ?_
 refine pm ?_
 refine rP rfl (aB tok rfl rfl rfl) (rP rfl (iB rfl rfl) (pa (nx (aC (sq [0,1] ?_)))))
 refine pm ?_
 refine rP rfl (bC rfl rfl) (nx ?_)
 refine bA h0 rfl (fun hc h0 => ?_) (fun hc h0 => ?_)
 refine sq [0] (pa (nx (aA (aG ?_))))
 cases h0
 exact r0t 4 rfl
 refine sk (sq [0,1] (pm ?_))
 refine pa (nx (aA ?_))
 cases h0
 exact r0t 4 rfl
theorem aAk {p0 : bQ} {p1 : Int} {r : Int} (h0 : kJ p0 p1 = some r) : FnC Tryz.prog 13 [] [.agg [dL aJ p0.Arbors,(dL bF p0.Meshes)],(dI p1)] [] (dI r) := by
 refine fi 18 tok Tryz.func13 ?_
 unfold kJ at h0
 refine sq [0,1] (bxx 3 ?_)
 refine pa (nx (sq [0,1,2,3,4] ?_))
 refine fa tok ?_
 refine ld tok ?_
 refine pm ?_
 obtain ⟨v1,hv1,h0⟩ := bnd h0
 refine rS rfl (aK 4 (wS hv1) rfl rfl rfl) (pa (nx (aC (sq [0,1] ?_))))
 refine pm ?_
 refine rP rfl (bC rfl rfl) (nx ?_)
 refine bA h0 rfl (fun hc h0 => ?_) (fun hc h0 => ?_)
 refine sq [0] (pa (nx (aA (aG ?_))))
 cases h0
 exact r0t 4 rfl
 refine sk (sq [0,1,2,3,4] (fa tok ?_))
 refine ld tok ?_
 refine pm ?_
 obtain ⟨v2,hv2,h0⟩ := bnd h0
 refine rS rfl (aK 4 (aAh hv2) rfl rfl rfl) (pa (nx (aC (sq [0,1] ?_))))
 refine pm ?_
 refine rP rfl (bC rfl rfl) (nx ?_)
 refine bA h0 rfl (fun hc h0 => ?_) (fun hc h0 => ?_)
 refine sq [0] (pa (nx (aA (aG ?_))))
 cases h0
 exact r0t 4 rfl
 refine sk (sq [0,1] (pm ?_))
 refine pa (nx (aA ?_))
 cases h0
 exact r0t 4 rfl
theorem zG {p0 : aZ} {p1 : Int} {r : Int} (h0 : jW p0 p1 = some r) : FnC Tryz.prog 80 [] [.agg [dS p0.Name,(dI p0.Days),(dI p0.Leap)],(dI p1)] [] (dI r) := by
 refine fi 13 tok Tryz.func80 ?_
 unfold jW at h0
 refine sq [0,1] (bxx 3 ?_)
 refine pa (nx (sq [0,1,2,3,4,5] ?_))
 refine pm ?_
 refine fa tok ?_
 refine ld tok ?_
 refine rP rfl (gX tok rfl rfl rfl) (rP rfl (iB rfl rfl) (pa (nx (aC (sq [0,1] ?_)))))
 refine pm ?_
 refine rP rfl (bC rfl rfl) (nx ?_)
 refine bA h0 rfl (fun hc h0 => ?_) (fun hc h0 => ?_)
 refine sq [0] (pa (nx (aA (aG ?_))))
 cases h0
 exact r0t 4 rfl
 refine sk (sq [0,1] (pm ?_))
 refine pa (nx (aA ?_))
 cases h0
 exact r0t 4 rfl
theorem wN {p0 : List aZ} {p1 : Int} {r : Int} (h0 : iZ p0 p1 = some r) : FnC Tryz.prog 39 [] [dL aN p0,(dI p1)] [] (dI r) := by
 refine fi 27 tok Tryz.func39 ?_
 unfold iZ at h0
 refine sq [0] (pa (nx (sq [0,1,2,3,4] ?_)))
 refine pm ?_
 refine pm ?_
 refine rP rfl (aB tok rfl rfl rfl) (rP rfl (iB rfl rfl) (pa (nx (aC (sq [0,1] ?_)))))
 refine pm ?_
 refine rP rfl (bC rfl rfl) (nx ?_)
 refine bA h0 rfl (fun hc h0 => ?_) (fun hc h0 => ?_)
 refine sq [0] (pa (nx (aA (aG ?_))))
 cases h0
 exact r0t 4 rfl
 refine sk ?_
 obtain ⟨v7x,h1,h0⟩ := bnd h0
 refine cQ v7x (fun v7 => ⟨aF ((fun _ => .dead)) 1 (dI v7),lks [.no, .no, .no]⟩) ?_ ?_
 refine sq [0] (pa (nx (aD ?_)))
 refine aR (fun s4 => ⟨aF (aF (aF ((fun _ => .dead)) 0 (dL aN p0)) 1 (dI s4.1)) 5 (dI s4.2),lks [.no, .no, .no]⟩) h1 ?_ (fun s4 y h2 => ?_)
 exact wk [0,1,2]
 refine aC (sq [0,1,2,3] (pm ?_))
 refine pm ?_
 refine rP rfl (aB tok rfl rfl rfl) (rP rfl (bC rfl rfl) (nx ?_))
 refine bA h2 rfl (fun hc h2 => ?_) (fun hc h2 => ?_)
 refine sk (aC (aD (sq [0,1,2,3,4,5,6] (pm ?_))))
 refine pm ?_
 obtain ⟨v5,hv5,h2⟩ := bnd h2
 refine rP rfl (cO tok hv5 rfl rfl rfl rfl rfl rfl) (rP rfl (aW tok rfl rfl rfl (by repeat (first | exact gY.z _ | apply gY.t))) (pm ?_))
 obtain ⟨v6,hv6,h2⟩ := bnd h2
 refine rS rfl (aK 3 (zG hv6) rfl rfl rfl) (pa (nx (sq [0,1] ?_)))
 refine pm ?_
 refine rP rfl (bC rfl rfl) (nx ?_)
 refine bA h2 rfl (fun hc h2 => ?_) (fun hc h2 => ?_)
 refine sq [0] (pa (nx (aA ?_)))
 refine aS (aG ?_)
 cases h2
 refine dC ⟨_,rfl,fun e => ?_⟩
 subst e
 refine aS ?_
 replace h0 := fG h0
 refine aG ?_
 cases h0
 exact r0t 4 rfl
 refine cU (bG (aI (sr [0,1,2] (pm ?_))))
 refine rP rfl (bM rfl rfl) (pa (bE ?_))
 refine bU ?_
 cases h2
 refine ⟨_,rfl,?_⟩
 exact wk [0,1,2]
 refine bI (bT ?_)
 cases h2
 refine bW ⟨_,rfl,fun e => ?_⟩
 subst e
 refine aM (aI ?_)
 refine ⟨_,rfl,?_⟩
 exact wk [0,1,2]
 rintro v7 rfl
 replace h0 := hJ h0
 refine sq [0,1] (pm ?_)
 refine pa (nx (aA ?_))
 cases h0
 exact r0t 4 rfl
theorem rZ {p0 : List aH} {p1 : Int} {r : Int} (h0 : fF p0 p1 = some r) : FnC Tryz.prog 40 [] [dL aE p0,(dI p1)] [] (dI r) := by
 refine fi 12 tok Tryz.func40 ?_
 unfold fF at h0
 refine sq [0] (pa (nx (sq [0,1,2,3,4] ?_)))
 refine pm ?_
 refine pm ?_
 refine rP rfl (aB tok rfl rfl rfl) (rP rfl (iB rfl rfl) (pa (nx (aC (sq [0,1] ?_)))))
 refine pm ?_
 refine rP rfl (bC rfl rfl) (nx ?_)
 refine bA h0 rfl (fun hc h0 => ?_) (fun hc h0 => ?_)
 refine sq [0] (pa (nx (aA (aG ?_))))
 cases h0
 exact r0t 4 rfl
 refine sk (sq [0,1] (pm ?_))
 refine pa (nx (aA ?_))
 cases h0
 exact r0t 4 rfl
theorem tN {p0 : bP} {p1 : Int} {r : Int} (h0 : fS p0 p1 = some r) : FnC Tryz.prog 14 [] [.agg [dS p0.Name,(dL aN p0.Months),(dL aE p0.Rules),(dI p0.Week)],(dI p1)] [] (dI r) := by
 refine fi 25 tok Tryz.func14 ?_
 unfold fS at h0
 refine sq [0,1] (bxx 3 ?_)
 refine pa (nx (sq [0,1,2,3,4,5] ?_))
 refine pm ?_
 refine fa tok ?_
 refine ld tok ?_
 refine rP rfl (gX tok rfl rfl rfl) (rP rfl (iB rfl rfl) (pa (nx (aC (sq [0,1] ?_)))))
 refine pm ?_
 refine rP rfl (bC rfl rfl) (nx ?_)
 refine bA h0 rfl (fun hc h0 => ?_) (fun hc h0 => ?_)
 refine sq [0] (pa (nx (aA (aG ?_))))
 cases h0
 exact r0t 4 rfl
 refine sk (sq [0,1,2,3,4] (fa tok ?_))
 refine ld tok ?_
 refine pm ?_
 obtain ⟨v1,hv1,h0⟩ := bnd h0
 refine rS rfl (aK 4 (wN hv1) rfl rfl rfl) (pa (nx (aC (sq [0,1] ?_))))
 refine pm ?_
 refine rP rfl (bC rfl rfl) (nx ?_)
 refine bA h0 rfl (fun hc h0 => ?_) (fun hc h0 => ?_)
 refine sq [0] (pa (nx (aA (aG ?_))))
 cases h0
 exact r0t 4 rfl
 refine sk (sq [0,1,2,3,4] (fa tok ?_))
 refine ld tok ?_
 refine pm ?_
 obtain ⟨v2,hv2,h0⟩ := bnd h0
 refine rS rfl (aK 4 (rZ hv2) rfl rfl rfl) (pa (nx (aC (sq [0,1] ?_))))
 refine pm ?_
 refine rP rfl (bC rfl rfl) (nx ?_)
 refine bA h0 rfl (fun hc h0 => ?_) (fun hc h0 => ?_)
 refine sq [0] (pa (nx (aA (aG ?_))))
 cases h0
 exact r0t 4 rfl
 refine sk (sq [0,1] (pm ?_))
 refine pa (nx (aA ?_))
 cases h0
 exact r0t 4 rfl
theorem tL {p0 : aV} {p1 : Int} {r : Int} (h0 : fQ p0 p1 = some r) : FnC Tryz.prog 4 [] [.agg [dS p0.Name,(dL aJ p0.Works.Arbors),(dL bF p0.Works.Meshes),(dI p0.Minute),(dI p0.Hour),(dI p0.Escape),(dI p0.Teeth),(dI p0.Beats),(dS p0.Calendar.Name),(dL aN p0.Calendar.Months),(dL aE p0.Calendar.Rules),(dI p0.Calendar.Week),(dL cI p0.Cam),(dI p0.Strike)],(dI p1)] [] (dI r) := by
 refine fi 31 tok Tryz.func4 ?_
 unfold fQ at h0
 refine sq [0,1] (bxx 3 ?_)
 refine pa (nx (sq [0,1,2,3,4,5] ?_))
 refine pm ?_
 refine fa tok ?_
 refine ld tok ?_
 refine rP rfl (gX tok rfl rfl rfl) (rP rfl (iB rfl rfl) (pa (nx (aC (sq [0,1] ?_)))))
 refine pm ?_
 refine rP rfl (bC rfl rfl) (nx ?_)
 refine bA h0 rfl (fun hc h0 => ?_) (fun hc h0 => ?_)
 refine sq [0] (pa (nx (aA (aG ?_))))
 cases h0
 exact r0t 4 rfl
 refine sk (sq [0,1,2,3,4] (fa tok ?_))
 refine rL rfl (cM tok rfl rfl rfl rfl) (pm ?_)
 obtain ⟨v1,hv1,h0⟩ := bnd h0
 refine rS rfl (aK 4 (aAk hv1) rfl rfl rfl) (pa (nx (aC (sq [0,1] ?_))))
 refine pm ?_
 refine rP rfl (bC rfl rfl) (nx ?_)
 refine bA h0 rfl (fun hc h0 => ?_) (fun hc h0 => ?_)
 refine sq [0] (pa (nx (aA (aG ?_))))
 cases h0
 exact r0t 4 rfl
 refine sk (sq [0,1,2,3,4] (fa tok ?_))
 refine rL rfl (cM tok rfl rfl rfl rfl) (pm ?_)
 obtain ⟨v2,hv2,h0⟩ := bnd h0
 refine rS rfl (aK 4 (tN hv2) rfl rfl rfl) (pa (nx (aC (sq [0,1] ?_))))
 refine pm ?_
 refine rP rfl (bC rfl rfl) (nx ?_)
 refine bA h0 rfl (fun hc h0 => ?_) (fun hc h0 => ?_)
 refine sq [0] (pa (nx (aA (aG ?_))))
 cases h0
 exact r0t 4 rfl
 refine sk (sq [0,1,2,3,4] (fa tok ?_))
 refine ld tok ?_
 refine pm ?_
 obtain ⟨v3,hv3,h0⟩ := bnd h0
 refine rS rfl (aK 4 (qC hv3) rfl rfl rfl) (pa (nx (aC (sq [0,1] ?_))))
 refine pm ?_
 refine rP rfl (bC rfl rfl) (nx ?_)
 refine bA h0 rfl (fun hc h0 => ?_) (fun hc h0 => ?_)
 refine sq [0] (pa (nx (aA (aG ?_))))
 cases h0
 exact r0t 4 rfl
 refine sk (sq [0,1] (pm ?_))
 refine pa (nx (aA ?_))
 cases h0
 exact r0t 4 rfl
theorem pY {p0 : List Int} {r : List Int} (h0 : gQ p0 = some r) : FnC Tryz.prog 23 [] [dL cI p0] [.live [⟨2,1, .data (List.map cI r)⟩]] (.own 0 0 r.length) := by
 refine fi 22 tok Tryz.func23 ?_
 unfold gQ at h0
 refine sq [0] (pa (nx (sq [0,1,2,3] ?_)))
 refine pm ?_
 refine rP rfl (aB tok rfl rfl rfl) ?_
 obtain ⟨hq1,h0⟩ := cJ h0
 refine rS rfl (aA2 3 tok (c := cI) 0 hq1 rfl rfl rfl rfl rfl rfl rfl rfl rfl rfl rfl rfl rfl) (rP rfl (aQ (r := .own _ _ _) rfl) (nx ?_))
 obtain ⟨v8,h1,h0⟩ := bnd h0
 refine bR ⟨aF ((fun _ => .dead)) 3 (.own 3 0 (v8).length),lks [.no, .no, .no, .live [⟨2,1, .data (List.map cI v8)⟩]]⟩ ?_ ?_
 refine sq [0] (pa (nx (aD ?_)))
 refine aR (fun s5 => ⟨aF (aF (aF ((fun _ => .dead)) 0 (dL cI p0)) 3 (.own 3 0 (s5.2).length)) 4 (dI s5.1),lks [.no, .no, .no, .live [⟨2,1, .data (List.map cI s5.2)⟩]]⟩) h1 ?_ (fun s5 y h2 => ?_)
 exact wk [0,1,2,3]
 refine aC (sq [0,1,2,3] (pm ?_))
 refine pm ?_
 refine rP rfl (aB tok rfl rfl rfl) (rP rfl (bC rfl rfl) (nx ?_))
 refine bA h2 rfl (fun hc h2 => ?_) (fun hc h2 => ?_)
 refine sk (aC (aD (sr [0,1,2,3,4,5,6,7] (rP rfl (aL (r := .own _ _ _) rfl) ?_))))
 iterate 3 refine pm ?_
 obtain ⟨v6,hv6,h2⟩ := bnd h2
 refine rP rfl (cO tok hv6 rfl rfl rfl rfl rfl rfl) (lr tok ?_)
 obtain ⟨v7,hv7,h2⟩ := bnd h2
 refine rL rfl (mJ tok hv7 rfl rfl rfl rfl rfl rfl rfl rfl) (rw0 rfl w0 (nI (cs := [.d _]) tok v6 (eI hv7).2.1 rfl rfl rfl rfl rfl rfl rfl rfl) (bE (bG (aI (sr [0,1,2] (pm ?_))))))
 refine rP rfl (bM rfl rfl) (pa (bE ?_))
 refine bU ?_
 cases h2
 refine ⟨_,rfl,?_⟩
 exact wk [0,1,2,3]
 refine bI (bT ?_)
 cases h2
 refine bW ⟨_,rfl,fun e => ?_⟩
 subst e
 refine aM (aI ?_)
 exact wk [0,1,2,3]
 refine sq [0,1] (rP rfl (aL (r := .own _ _ _) rfl) (rP rfl (aQ (r := .own _ _ _) rfl) (nx (aA ?_))))
 cases h0
 exact lT (rs := [.tmp 2]) [3] rfl
theorem yX {p0 : bH} {r : bH} (h0 : kN p0 = some r) : FnC Tryz.prog 89 [] [.agg [dS p0.Name,(dL cI p0.Wheels)]] [.live [⟨2,1, .data (List.map cI r.Wheels)⟩]] (.agg [dS r.Name, .own 0 0 r.Wheels.length]) := by
 refine fi 12 tok Tryz.func89 ?_
 unfold kN at h0
 refine sq [0,1] (bxx 3 ?_)
 refine al 4 [ze,zl] tok (nx (sq [0] ?_))
 refine al 5 [ze,zl] tok (nx (sq [0,1,2,3] ?_))
 refine fa tok ?_
 refine ld tok ?_
 refine fa tok ?_
 refine bs1 tok (nx (sq [0,1,2,3,4] ?_))
 refine fa tok ?_
 refine ld tok ?_
 obtain ⟨v1,hv1,h0⟩ := bnd h0
 refine rS rfl (aK 6 (pY hv1) rfl rfl rfl) (fa tok ?_)
 refine rw0 rfl w0 (wK (cs := [.own _ _ _]) tok rfl rfl rfl rfl rfl rfl rfl) (nx (sq [0,1] (rL rfl (cM tok rfl rfl rfl rfl) (bst tok (nx (aA ?_))))))
 cases h0
 exact lT (rs := [.cell 2 59]) [6] rfl
theorem wR {p0 : List bH} {r : List bH} (h0 : jC p0 = some r) : FnC Tryz.prog 50 [] [dL aJ p0] [.live [⟨59,2, .av (dK 1 aJ r)⟩], .live (lR 2 1 aJ r)] (.own 0 0 r.length) := by
 refine fi 23 tok Tryz.func50 ?_
 unfold jC at h0
 refine sq [0] (pa (nx (sq [0,1,2,3] ?_)))
 refine pm ?_
 refine rP rfl (aB tok rfl rfl rfl) ?_
 obtain ⟨hq1,h0⟩ := cJ h0
 refine rS rfl (aIu 3 tok (⟨(⟨#[]⟩ : ByteArray),[]⟩ : bH) hq1 rfl rfl rfl rfl rfl rfl rfl rfl rfl rfl rfl) (aC2 (yS 4 (k := 3) 2 1 (c := aJ) (⟨(⟨#[]⟩ : ByteArray),[]⟩ : bH) rfl rfl (by repeat (first | exact aDx.nil | apply aDx.v | apply aDx.nl))) (rP rfl (aQ (r := .own _ _ _) rfl) (nx ?_)))
 obtain ⟨v10,h1,h0⟩ := bnd h0
 refine bR ⟨aF ((fun _ => .dead)) 3 (.own 3 0 (v10).length),lks [.no, .no, .no, .live [⟨59,2, .av (dK 4 aJ v10)⟩], .live (lR 2 1 aJ v10)]⟩ ?_ ?_
 refine sq [0] (pa (nx (aD ?_)))
 refine aR (fun s6 => ⟨aF (aF (aF ((fun _ => .dead)) 0 (dL aJ p0)) 3 (.own 3 0 (s6.2).length)) 4 (dI s6.1),lks [.no, .no, .no, .live [⟨59,2, .av (dK 4 aJ s6.2)⟩], .live (lR 2 1 aJ s6.2)]⟩) h1 ?_ (fun s6 y h2 => ?_)
 exact wk [0,1,2,3,4]
 refine aC (sq [0,1,2,3] (pm ?_))
 refine pm ?_
 refine rP rfl (aB tok rfl rfl rfl) (rP rfl (bC rfl rfl) (nx ?_))
 refine bA h2 rfl (fun hc h2 => ?_) (fun hc h2 => ?_)
 refine sk (aC (aD (sr [0,1,2,3,4,5,6,7,8] (rP rfl (aL (r := .own _ _ _) rfl) ?_))))
 iterate 3 refine pm ?_
 obtain ⟨v7,hv7,h2⟩ := bnd h2
 refine rP rfl (cO tok hv7 rfl rfl rfl rfl rfl rfl) (rP rfl (aW tok rfl rfl rfl (by repeat (first | exact gY.z _ | apply gY.t))) ?_)
 obtain ⟨v8,hv8,h2⟩ := bnd h2
 refine rS rfl (aK 5 (yX hv8) rfl rfl rfl) ?_
 obtain ⟨v9,hv9,h2⟩ := bnd h2
 refine rL rfl (aCv tok hv9 rfl rfl rfl rfl rfl rfl rfl rfl) (rw0 rfl w0 (aFz (cs := _ :: _) tok (eI hv9).2.1 rfl rfl rfl rfl rfl rfl rfl rfl rfl) ?_)
 refine aC2 (aBu 6 (k := 3) (kf := 4) (k2 := 5) (m := s6.1.toNat) v8 rfl rfl rfl rfl rfl rfl rfl (by repeat (first | exact aDw.nil | apply aDw.v | apply aDw.sl (by first | rfl | (simp; done)))) rfl rfl rfl (List.getElem?_eq_some_iff.1 (eI hv9).2.1).1) ?_
 refine bE (bG (aI (sr [0,1,2] (pm ?_))))
 refine rP rfl (bM rfl rfl) (pa (bE ?_))
 refine bU ?_
 cases h2
 refine ⟨_,rfl,?_⟩
 exact wk [0,1,2,3,6]
 refine bI (bT ?_)
 cases h2
 refine bW ⟨_,rfl,fun e => ?_⟩
 subst e
 refine aM (aI ?_)
 exact wk [0,1,2,3,4]
 refine sq [0,1] (rP rfl (aL (r := .own _ _ _) rfl) (rP rfl (aQ (r := .own _ _ _) rfl) (nx (aA ?_))))
 cases h0
 exact lT (rs := [.tmp 2]) [3,4] rfl
theorem aB8 {p0 : bJ} {r : bJ} (h0 : nF p0 = some r) : FnC Tryz.prog 90 [] [.agg [dI p0.A,(dI p0.WheelA),(dI p0.B),(dI p0.WheelB)]] [] (.agg [dI r.A,(dI r.WheelA),(dI r.B),(dI r.WheelB)]) := by
 refine fi 17 tok Tryz.func90 ?_
 unfold nF at h0
 refine sq [0,1] (bxx 3 ?_)
 refine al 4 [z0,z0,z0,z0] tok (nx (sq [0] ?_))
 refine al 5 [z0,z0,z0,z0] tok (nx (sq [0,1,2,3] ?_))
 refine fa tok ?_
 refine ld tok ?_
 refine fa tok ?_
 refine bs1 tok (nx (sq [0,1,2,3] ?_))
 refine fa tok ?_
 refine ld tok ?_
 refine fa tok ?_
 refine bs1 tok (nx (sq [0,1,2,3] ?_))
 refine fa tok ?_
 refine ld tok ?_
 refine fa tok ?_
 refine bs1 tok (nx (sq [0,1,2,3] ?_))
 refine fa tok ?_
 refine ld tok ?_
 refine fa tok ?_
 refine bs1 tok (nx (sq [0,1] ?_))
 refine rL rfl (cM tok rfl rfl rfl rfl) (bst tok (nx (aA ?_)))
 cases h0
 exact aBn (rs := [.cell 2 131]) rfl
theorem zJ {p0 : List bJ} {r : List bJ} (h0 : kB p0 = some r) : FnC Tryz.prog 51 [] [dL bF p0] [.live [⟨131,4, .data (List.map bF r)⟩]] (.own 0 0 r.length) := by
 refine fi 23 tok Tryz.func51 ?_
 unfold kB at h0
 refine sq [0] (pa (nx (sq [0,1,2,3] ?_)))
 refine pm ?_
 refine rP rfl (aB tok rfl rfl rfl) ?_
 obtain ⟨hq1,h0⟩ := cJ h0
 refine rS rfl (aA2 3 tok (c := bF) (⟨0,0,0,0⟩ : bJ) hq1 rfl rfl rfl rfl rfl rfl rfl rfl rfl rfl rfl rfl rfl) (rP rfl (aQ (r := .own _ _ _) rfl) (nx ?_))
 obtain ⟨v10,h1,h0⟩ := bnd h0
 refine bR ⟨aF ((fun _ => .dead)) 3 (.own 3 0 (v10).length),lks [.no, .no, .no, .live [⟨131,4, .data (List.map bF v10)⟩]]⟩ ?_ ?_
 refine sq [0] (pa (nx (aD ?_)))
 refine aR (fun s6 => ⟨aF (aF (aF ((fun _ => .dead)) 0 (dL bF p0)) 3 (.own 3 0 (s6.2).length)) 4 (dI s6.1),lks [.no, .no, .no, .live [⟨131,4, .data (List.map bF s6.2)⟩]]⟩) h1 ?_ (fun s6 y h2 => ?_)
 exact wk [0,1,2,3]
 refine aC (sq [0,1,2,3] (pm ?_))
 refine pm ?_
 refine rP rfl (aB tok rfl rfl rfl) (rP rfl (bC rfl rfl) (nx ?_))
 refine bA h2 rfl (fun hc h2 => ?_) (fun hc h2 => ?_)
 refine sk (aC (aD (sr [0,1,2,3,4,5,6,7,8] (rP rfl (aL (r := .own _ _ _) rfl) ?_))))
 iterate 3 refine pm ?_
 obtain ⟨v7,hv7,h2⟩ := bnd h2
 refine rP rfl (cO tok hv7 rfl rfl rfl rfl rfl rfl) (rP rfl (aW tok rfl rfl rfl (by repeat (first | exact gY.z _ | apply gY.t))) ?_)
 obtain ⟨v8,hv8,h2⟩ := bnd h2
 refine rS rfl (aK 4 (aB8 hv8) rfl rfl rfl) ?_
 obtain ⟨v9,hv9,h2⟩ := bnd h2
 refine rL rfl (mJ tok hv9 rfl rfl rfl rfl rfl rfl rfl rfl) (rw0 rfl w0 (nI (cs := _ :: _) tok v8 (eI hv9).2.1 rfl rfl rfl rfl rfl rfl rfl rfl) (bE (bG (aI (sr [0,1,2] (pm ?_))))))
 refine rP rfl (bM rfl rfl) (pa (bE ?_))
 refine bU ?_
 cases h2
 refine ⟨_,rfl,?_⟩
 exact wk [0,1,2,3]
 refine bI (bT ?_)
 cases h2
 refine bW ⟨_,rfl,fun e => ?_⟩
 subst e
 refine aM (aI ?_)
 exact wk [0,1,2,3]
 refine sq [0,1] (rP rfl (aL (r := .own _ _ _) rfl) (rP rfl (aQ (r := .own _ _ _) rfl) (nx (aA ?_))))
 cases h0
 exact lT (rs := [.tmp 2]) [3] rfl
theorem yZ {p0 : bQ} {r : bQ} (h0 : kL p0 = some r) : FnC Tryz.prog 21 [] [.agg [dL aJ p0.Arbors,(dL bF p0.Meshes)]] [.live [⟨59,2, .av (dK 1 aJ r.Arbors)⟩], .live (lR 2 1 aJ r.Arbors), .live [⟨131,4, .data (List.map bF r.Meshes)⟩]] (.agg [.own 0 0 r.Arbors.length, .own 2 0 r.Meshes.length]) := by
 refine fi 13 tok Tryz.func21 ?_
 unfold kL at h0
 refine sq [0,1] (bxx 3 ?_)
 refine al 4 [zl,zl] tok (nx (sq [0] ?_))
 refine al 5 [zl,zl] tok (nx (sq [0,1,2,3,4] ?_))
 refine fa tok ?_
 refine ld tok ?_
 obtain ⟨v1,hv1,h0⟩ := bnd h0
 refine rS rfl (aK 6 (wR hv1) rfl rfl rfl) (fa tok ?_)
 refine rw0 rfl w0 (wK (cs := [.own _ _ _]) tok rfl rfl rfl rfl rfl rfl rfl) (nx (sq [0,1,2,3,4] (fa tok ?_)))
 refine ld tok ?_
 obtain ⟨v2,hv2,h0⟩ := bnd h0
 refine rS rfl (aK 8 (zJ hv2) rfl rfl rfl) (fa tok ?_)
 refine rw0 rfl w0 (wK (cs := [.own _ _ _]) tok rfl rfl rfl rfl rfl rfl rfl) (nx (sq [0,1] (rL rfl (cM tok rfl rfl rfl rfl) (bst tok (nx (aA ?_))))))
 cases h0
 exact lT (rs := [.cell 2 40]) [6,7,8] rfl
theorem zN {p0 : aZ} {r : aZ} (h0 : mD p0 = some r) : FnC Tryz.prog 91 [] [.agg [dS p0.Name,(dI p0.Days),(dI p0.Leap)]] [] (.agg [dS r.Name,(dI r.Days),(dI r.Leap)]) := by
 refine fi 14 tok Tryz.func91 ?_
 unfold mD at h0
 refine sq [0,1] (bxx 3 ?_)
 refine al 4 [ze,z0,z0] tok (nx (sq [0] ?_))
 refine al 5 [ze,z0,z0] tok (nx (sq [0,1,2,3] ?_))
 refine fa tok ?_
 refine ld tok ?_
 refine fa tok ?_
 refine bs1 tok (nx (sq [0,1,2,3] ?_))
 refine fa tok ?_
 refine ld tok ?_
 refine fa tok ?_
 refine bs1 tok (nx (sq [0,1,2,3] ?_))
 refine fa tok ?_
 refine ld tok ?_
 refine fa tok ?_
 refine bs1 tok (nx (sq [0,1] ?_))
 refine rL rfl (cM tok rfl rfl rfl rfl) (bst tok (nx (aA ?_)))
 cases h0
 exact aBn (rs := [.cell 2 139]) rfl
theorem yJ {p0 : List aZ} {r : List aZ} (h0 : jE p0 = some r) : FnC Tryz.prog 52 [] [dL aN p0] [.live [⟨139,3, .data (List.map aN r)⟩]] (.own 0 0 r.length) := by
 refine fi 23 tok Tryz.func52 ?_
 unfold jE at h0
 refine sq [0] (pa (nx (sq [0,1,2,3] ?_)))
 refine pm ?_
 refine rP rfl (aB tok rfl rfl rfl) ?_
 obtain ⟨hq1,h0⟩ := cJ h0
 refine rS rfl (aA2 3 tok (c := aN) (⟨(⟨#[]⟩ : ByteArray),0,0⟩ : aZ) hq1 rfl rfl rfl rfl rfl rfl rfl rfl rfl rfl rfl rfl rfl) (rP rfl (aQ (r := .own _ _ _) rfl) (nx ?_))
 obtain ⟨v10,h1,h0⟩ := bnd h0
 refine bR ⟨aF ((fun _ => .dead)) 3 (.own 3 0 (v10).length),lks [.no, .no, .no, .live [⟨139,3, .data (List.map aN v10)⟩]]⟩ ?_ ?_
 refine sq [0] (pa (nx (aD ?_)))
 refine aR (fun s6 => ⟨aF (aF (aF ((fun _ => .dead)) 0 (dL aN p0)) 3 (.own 3 0 (s6.2).length)) 4 (dI s6.1),lks [.no, .no, .no, .live [⟨139,3, .data (List.map aN s6.2)⟩]]⟩) h1 ?_ (fun s6 y h2 => ?_)
 exact wk [0,1,2,3]
 refine aC (sq [0,1,2,3] (pm ?_))
 refine pm ?_
 refine rP rfl (aB tok rfl rfl rfl) (rP rfl (bC rfl rfl) (nx ?_))
 refine bA h2 rfl (fun hc h2 => ?_) (fun hc h2 => ?_)
 refine sk (aC (aD (sr [0,1,2,3,4,5,6,7,8] (rP rfl (aL (r := .own _ _ _) rfl) ?_))))
 iterate 3 refine pm ?_
 obtain ⟨v7,hv7,h2⟩ := bnd h2
 refine rP rfl (cO tok hv7 rfl rfl rfl rfl rfl rfl) (rP rfl (aW tok rfl rfl rfl (by repeat (first | exact gY.z _ | apply gY.t))) ?_)
 obtain ⟨v8,hv8,h2⟩ := bnd h2
 refine rS rfl (aK 4 (zN hv8) rfl rfl rfl) ?_
 obtain ⟨v9,hv9,h2⟩ := bnd h2
 refine rL rfl (mJ tok hv9 rfl rfl rfl rfl rfl rfl rfl rfl) (rw0 rfl w0 (nI (cs := _ :: _) tok v8 (eI hv9).2.1 rfl rfl rfl rfl rfl rfl rfl rfl) (bE (bG (aI (sr [0,1,2] (pm ?_))))))
 refine rP rfl (bM rfl rfl) (pa (bE ?_))
 refine bU ?_
 cases h2
 refine ⟨_,rfl,?_⟩
 exact wk [0,1,2,3]
 refine bI (bT ?_)
 cases h2
 refine bW ⟨_,rfl,fun e => ?_⟩
 subst e
 refine aM (aI ?_)
 exact wk [0,1,2,3]
 refine sq [0,1] (rP rfl (aL (r := .own _ _ _) rfl) (rP rfl (aQ (r := .own _ _ _) rfl) (nx (aA ?_))))
 cases h0
 exact lT (rs := [.tmp 2]) [3] rfl
theorem tG {p0 : aH} {r : aH} (h0 : iN p0 = some r) : FnC Tryz.prog 92 [] [.agg [dI p0.Every,(dI p0.Rest),(dB p0.Leap)]] [] (.agg [dI r.Every,(dI r.Rest),(dB r.Leap)]) := by
 refine fi 14 tok Tryz.func92 ?_
 unfold iN at h0
 refine sq [0,1] (bxx 3 ?_)
 refine al 4 [z0,z0,(dB false)] tok (nx (sq [0] ?_))
 refine al 5 [z0,z0,(dB false)] tok (nx (sq [0,1,2,3] ?_))
 refine fa tok ?_
 refine ld tok ?_
 refine fa tok ?_
 refine bs1 tok (nx (sq [0,1,2,3] ?_))
 refine fa tok ?_
 refine ld tok ?_
 refine fa tok ?_
 refine bs1 tok (nx (sq [0,1,2,3] ?_))
 refine fa tok ?_
 refine ld tok ?_
 refine fa tok ?_
 refine bs1 tok (nx (sq [0,1] ?_))
 refine rL rfl (cM tok rfl rfl rfl rfl) (bst tok (nx (aA ?_)))
 cases h0
 exact aBn (rs := [.cell 2 142]) rfl
theorem sN {p0 : List aH} {r : List aH} (h0 : fL p0 = some r) : FnC Tryz.prog 53 [] [dL aE p0] [.live [⟨142,3, .data (List.map aE r)⟩]] (.own 0 0 r.length) := by
 refine fi 23 tok Tryz.func53 ?_
 unfold fL at h0
 refine sq [0] (pa (nx (sq [0,1,2,3] ?_)))
 refine pm ?_
 refine rP rfl (aB tok rfl rfl rfl) ?_
 obtain ⟨hq1,h0⟩ := cJ h0
 refine rS rfl (aA2 3 tok (c := aE) (⟨0,0,false⟩ : aH) hq1 rfl rfl rfl rfl rfl rfl rfl rfl rfl rfl rfl rfl rfl) (rP rfl (aQ (r := .own _ _ _) rfl) (nx ?_))
 obtain ⟨v10,h1,h0⟩ := bnd h0
 refine bR ⟨aF ((fun _ => .dead)) 3 (.own 3 0 (v10).length),lks [.no, .no, .no, .live [⟨142,3, .data (List.map aE v10)⟩]]⟩ ?_ ?_
 refine sq [0] (pa (nx (aD ?_)))
 refine aR (fun s6 => ⟨aF (aF (aF ((fun _ => .dead)) 0 (dL aE p0)) 3 (.own 3 0 (s6.2).length)) 4 (dI s6.1),lks [.no, .no, .no, .live [⟨142,3, .data (List.map aE s6.2)⟩]]⟩) h1 ?_ (fun s6 y h2 => ?_)
 exact wk [0,1,2,3]
 refine aC (sq [0,1,2,3] (pm ?_))
 refine pm ?_
 refine rP rfl (aB tok rfl rfl rfl) (rP rfl (bC rfl rfl) (nx ?_))
 refine bA h2 rfl (fun hc h2 => ?_) (fun hc h2 => ?_)
 refine sk (aC (aD (sr [0,1,2,3,4,5,6,7,8] (rP rfl (aL (r := .own _ _ _) rfl) ?_))))
 iterate 3 refine pm ?_
 obtain ⟨v7,hv7,h2⟩ := bnd h2
 refine rP rfl (cO tok hv7 rfl rfl rfl rfl rfl rfl) (rP rfl (aW tok rfl rfl rfl (by repeat (first | exact gY.z _ | apply gY.t))) ?_)
 obtain ⟨v8,hv8,h2⟩ := bnd h2
 refine rS rfl (aK 4 (tG hv8) rfl rfl rfl) ?_
 obtain ⟨v9,hv9,h2⟩ := bnd h2
 refine rL rfl (mJ tok hv9 rfl rfl rfl rfl rfl rfl rfl rfl) (rw0 rfl w0 (nI (cs := _ :: _) tok v8 (eI hv9).2.1 rfl rfl rfl rfl rfl rfl rfl rfl) (bE (bG (aI (sr [0,1,2] (pm ?_))))))
 refine rP rfl (bM rfl rfl) (pa (bE ?_))
 refine bU ?_
 cases h2
 refine ⟨_,rfl,?_⟩
 exact wk [0,1,2,3]
 refine bI (bT ?_)
 cases h2
 refine bW ⟨_,rfl,fun e => ?_⟩
 subst e
 refine aM (aI ?_)
 exact wk [0,1,2,3]
 refine sq [0,1] (rP rfl (aL (r := .own _ _ _) rfl) (rP rfl (aQ (r := .own _ _ _) rfl) (nx (aA ?_))))
 cases h0
 exact lT (rs := [.tmp 2]) [3] rfl
theorem tA {p0 : bP} {r : bP} (h0 : fU p0 = some r) : FnC Tryz.prog 22 [] [.agg [dS p0.Name,(dL aN p0.Months),(dL aE p0.Rules),(dI p0.Week)]] [.live [⟨139,3, .data (List.map aN r.Months)⟩], .live [⟨142,3, .data (List.map aE r.Rules)⟩]] (.agg [dS r.Name, .own 0 0 r.Months.length, .own 1 0 r.Rules.length,(dI r.Week)]) := by
 refine fi 19 tok Tryz.func22 ?_
 unfold fU at h0
 refine sq [0,1] (bxx 3 ?_)
 refine al 4 [ze,zl,zl,z0] tok (nx (sq [0] ?_))
 refine al 5 [ze,zl,zl,z0] tok (nx (sq [0,1,2,3] ?_))
 refine fa tok ?_
 refine ld tok ?_
 refine fa tok ?_
 refine bs1 tok (nx (sq [0,1,2,3,4] ?_))
 refine fa tok ?_
 refine ld tok ?_
 obtain ⟨v1,hv1,h0⟩ := bnd h0
 refine rS rfl (aK 6 (yJ hv1) rfl rfl rfl) (fa tok ?_)
 refine rw0 rfl w0 (wK (cs := [.own _ _ _]) tok rfl rfl rfl rfl rfl rfl rfl) (nx (sq [0,1,2,3,4] (fa tok ?_)))
 refine ld tok ?_
 obtain ⟨v2,hv2,h0⟩ := bnd h0
 refine rS rfl (aK 7 (sN hv2) rfl rfl rfl) (fa tok ?_)
 refine rw0 rfl w0 (wK (cs := [.own _ _ _]) tok rfl rfl rfl rfl rfl rfl rfl) (nx (sq [0,1,2,3] (fa tok ?_)))
 refine ld tok ?_
 refine fa tok ?_
 refine bs1 tok (nx (sq [0,1] ?_))
 refine rL rfl (cM tok rfl rfl rfl rfl) (bst tok (nx (aA ?_)))
 cases h0
 exact lT (rs := [.cell 2 44]) [6,7] rfl
theorem iQ {p0 : aV} {r : aV} (h0 : dG p0 = some r) : FnC Tryz.prog 6 [] [.agg [dS p0.Name,(dL aJ p0.Works.Arbors),(dL bF p0.Works.Meshes),(dI p0.Minute),(dI p0.Hour),(dI p0.Escape),(dI p0.Teeth),(dI p0.Beats),(dS p0.Calendar.Name),(dL aN p0.Calendar.Months),(dL aE p0.Calendar.Rules),(dI p0.Calendar.Week),(dL cI p0.Cam),(dI p0.Strike)]] [.live [⟨59,2, .av (dK 1 aJ r.Works.Arbors)⟩], .live (lR 2 1 aJ r.Works.Arbors), .live [⟨131,4, .data (List.map bF r.Works.Meshes)⟩], .live [⟨139,3, .data (List.map aN r.Calendar.Months)⟩], .live [⟨142,3, .data (List.map aE r.Calendar.Rules)⟩], .live [⟨2,1, .data (List.map cI r.Cam)⟩]] (.agg [dS r.Name, .own 0 0 r.Works.Arbors.length, .own 2 0 r.Works.Meshes.length,(dI r.Minute),(dI r.Hour),(dI r.Escape),(dI r.Teeth),(dI r.Beats),(dS r.Calendar.Name), .own 3 0 r.Calendar.Months.length, .own 4 0 r.Calendar.Rules.length,(dI r.Calendar.Week), .own 5 0 r.Cam.length,(dI r.Strike)]) := by
 refine fi 38 tok Tryz.func6 ?_
 unfold dG at h0
 refine sq [0,1] (bxx 3 ?_)
 refine al 4 [ze,zl,zl,z0,z0,z0,z0,z0,ze,zl,zl,z0,zl,z0] tok (nx (sq [0] ?_))
 refine al 5 [ze,zl,zl,z0,z0,z0,z0,z0,ze,zl,zl,z0,zl,z0] tok (nx (sq [0,1,2,3] ?_))
 refine fa tok ?_
 refine ld tok ?_
 refine fa tok ?_
 refine bs1 tok (nx (sq [0,1,2,3,4] ?_))
 refine fa tok ?_
 refine rL rfl (cM tok rfl rfl rfl rfl) ?_
 obtain ⟨v1,hv1,h0⟩ := bnd h0
 refine rS rfl (aK 6 (yZ hv1) rfl rfl rfl) (fa tok ?_)
 refine bst tok (nx (sq [0,1,2,3] ?_))
 refine fa tok ?_
 refine ld tok ?_
 refine fa tok ?_
 refine bs1 tok (nx (sq [0,1,2,3] ?_))
 refine fa tok ?_
 refine ld tok ?_
 refine fa tok ?_
 refine bs1 tok (nx (sq [0,1,2,3] ?_))
 refine fa tok ?_
 refine ld tok ?_
 refine fa tok ?_
 refine bs1 tok (nx (sq [0,1,2,3] ?_))
 refine fa tok ?_
 refine ld tok ?_
 refine fa tok ?_
 refine bs1 tok (nx (sq [0,1,2,3] ?_))
 refine fa tok ?_
 refine ld tok ?_
 refine fa tok ?_
 refine bs1 tok (nx (sq [0,1,2,3,4] ?_))
 refine fa tok ?_
 refine rL rfl (cM tok rfl rfl rfl rfl) ?_
 obtain ⟨v2,hv2,h0⟩ := bnd h0
 refine rS rfl (aK 9 (tA hv2) rfl rfl rfl) (fa tok ?_)
 refine bst tok (nx (sq [0,1,2,3,4] ?_))
 refine fa tok ?_
 refine ld tok ?_
 obtain ⟨v3,hv3,h0⟩ := bnd h0
 refine rS rfl (aK 11 (pY hv3) rfl rfl rfl) (fa tok ?_)
 refine rw0 rfl w0 (wK (cs := [.own _ _ _]) tok rfl rfl rfl rfl rfl rfl rfl) (nx (sq [0,1,2,3] (fa tok ?_)))
 refine ld tok ?_
 refine fa tok ?_
 refine bs1 tok (nx (sq [0,1] ?_))
 refine rL rfl (cM tok rfl rfl rfl rfl) (bst tok (nx (aA ?_)))
 cases h0
 exact lT (rs := [.cell 2 46]) [6,7,8,9,10,11] rfl
theorem pS {p0 : Int} {r : Bool} (h0 : gO p0 = some r) : FnC Tryz.prog 81 [] [.d (.v (.int .u8 p0))] [] (dB r) := by
 refine fi 9 tok Tryz.func81 ?_
 unfold gO at h0
 refine sq [0] (pa (nx (sq [0,1,2,3,4,5,6] ?_)))
 refine pm ?_
 refine rP rfl (nK rfl rfl) (pm ?_)
 refine jJ (u := 5) h0 rfl (fun hc h0 => ?_) (fun hc h0 => ?_)
 refine pm1 ?_
 refine rp rfl (w1 rfl rfl rfl) rfl (kK rfl rfl) (pkt ?_)
 refine pa (nx (aA ?_))
 cases h0
 exact r0t 2 rfl
 refine k1 ?_
 refine k1 ?_
 refine pkf ?_
 refine pa (nx (aA ?_))
 cases h0
 exact r0t 2 rfl
theorem yH {p0 : Int} {r : Bool} (h0 : jA p0 = some r) : FnC Tryz.prog 82 [] [.d (.v (.int .u8 p0))] [] (dB r) := by
 refine fi 9 tok Tryz.func82 ?_
 unfold jA at h0
 refine sq [0] (pa (nx (sq [0,1,2,3,4,5,6] ?_)))
 refine pm ?_
 refine rP rfl (nK rfl rfl) (pm ?_)
 refine jJ (u := 5) h0 rfl (fun hc h0 => ?_) (fun hc h0 => ?_)
 refine pm1 ?_
 refine rp rfl (w1 rfl rfl rfl) rfl (kK rfl rfl) (pkt ?_)
 refine pa (nx (aA ?_))
 cases h0
 exact r0t 2 rfl
 refine k1 ?_
 refine k1 ?_
 refine pkf ?_
 refine pa (nx (aA ?_))
 cases h0
 exact r0t 2 rfl
theorem nG {p0 : ByteArray} {r : Bool} (h0 : gU p0 = some r) : FnC Tryz.prog 41 [] [dS p0] [] (dB r) := by
 refine fi 41 tok Tryz.func41 ?_
 unfold gU at h0
 refine sq [0] (pa (nx (aC ?_)))
 obtain ⟨v3,h1,h0⟩ := bnd h0
 refine bR ⟨aF (aF ((fun _ => .dead)) 0 (dS p0)) 16 (dB v3),lks [.no, .no, .no]⟩ ?_ ?_
 refine sr [0,1,2,3,4,5,6,7,8,9,10,11,12] (pm ?_)
 refine rP rfl (sA rfl rfl) (pm ?_)
 refine jJ (u := 6) h1 rfl (fun hc h1 => ?_) (fun hc h1 => ?_)
 iterate 3 refine k1 ?_
 refine pkt ?_
 refine pm ?_
 iterate 4 refine k1 ?_
 refine pkt (nx ?_)
 cases h1
 exact wk [0,1,2]
 refine pm1 ?_
 refine rp rfl (w1 rfl rfl rfl) rfl (gX tok rfl rfl rfl) (rp rfl (w1 rfl rfl rfl) rfl (kV rfl rfl) (pkf ?_))
 refine pm ?_
 refine jJ (u := 11) h1 rfl (fun hc h1 => ?_) (fun hc h1 => ?_)
 iterate 4 refine k1 ?_
 refine pkt (nx ?_)
 cases h1
 exact wk [0,1,2]
 refine pm1 ?_
 obtain ⟨v1,hv1,h1⟩ := bnd h1
 refine rp rfl (w1 rfl rfl rfl) rfl (vJ tok hv1 rfl rfl rfl rfl) ?_
 obtain ⟨v2,hv2,h1⟩ := bnd h1
 refine rs rfl (w1 rfl rfl rfl) rfl (aK 3 (pS hv2) rfl rfl rfl) (rp rfl (w1 rfl rfl rfl) rfl (bX rfl) (pkf (nx ?_)))
 cases h1
 exact wk [0,1,2]
 refine cF h0 rfl (fun hc h0 => ?_) (fun hc h0 => ?_)
 refine sq [0] (pa (nx (aA (aG ?_))))
 cases h0
 exact r0t 2 rfl
 refine sk ?_
 obtain ⟨v18x,h1,h0⟩ := bnd h0
 refine cQ v18x (fun v18 => ⟨(fun _ => .dead),lks [.no, .no, .no]⟩) ?_ ?_
 refine sq [0] (pa (nx (aD ?_)))
 refine aR (fun s11 => ⟨aF (aF ((fun _ => .dead)) 0 (dS p0)) 3 (dI s11),lks [.no, .no, .no]⟩) h1 ?_ (fun s11 y h2 => ?_)
 exact wk [0,1,2]
 refine aC (sq [0,1,2,3] (pm ?_))
 refine pm ?_
 refine rP rfl (gX tok rfl rfl rfl) (rP rfl (bC rfl rfl) (nx ?_))
 refine bA h2 rfl (fun hc h2 => ?_) (fun hc h2 => ?_)
 refine sk (aC (aD ?_))
 obtain ⟨v17,h3,h2⟩ := bnd h2
 refine bR ⟨aF (aF (aF ((fun _ => .dead)) 0 (dS p0)) 3 (dI s11)) 40 (dB v17),lks [.no, .no, .no]⟩ ?_ ?_
 refine sr [0,1,2,3,4,5,6,7,8,9,10,11,12,13,14,15,16,17] (pm ?_)
 refine pm ?_
 obtain ⟨v12,hv12,h3⟩ := bnd h3
 refine rP rfl (vJ tok hv12 rfl rfl rfl rfl) ?_
 obtain ⟨v13,hv13,h3⟩ := bnd h3
 refine rS rfl (aK 3 (pS hv13) rfl rfl rfl) (rP rfl (bX rfl) (pm ?_))
 refine cT (u := 28) h3 rfl (fun hc h3 => ?_) (fun hc h3 => ?_)
 refine pm1 ?_
 refine pm1 ?_
 obtain ⟨v14,hv14,h3⟩ := bnd h3
 refine rp rfl (w1 rfl rfl rfl) rfl (vJ tok hv14 rfl rfl rfl rfl) ?_
 obtain ⟨v15,hv15,h3⟩ := bnd h3
 refine rs rfl (w1 rfl rfl rfl) rfl (aK 3 (yH hv15) rfl rfl rfl) (rp rfl (w1 rfl rfl rfl) rfl (bX rfl) (pkt ?_))
 refine pm ?_
 refine cT (u := 35) h3 rfl (fun hc h3 => ?_) (fun hc h3 => ?_)
 refine pm1 ?_
 refine pm1 ?_
 obtain ⟨v16,hv16,h3⟩ := bnd h3
 refine rp rfl (w1 rfl rfl rfl) rfl (vJ tok hv16 rfl rfl rfl rfl) (rp rfl (w1 rfl rfl rfl) rfl (dD rfl rfl) (pkt (nx ?_)))
 cases h3
 exact wk [0,1,2]
 iterate 4 refine k1 ?_
 refine pkf (nx ?_)
 cases h3
 exact wk [0,1,2]
 iterate 5 refine k1 ?_
 refine pkf ?_
 refine pm ?_
 iterate 4 refine k1 ?_
 refine pkf (nx ?_)
 cases h3
 exact wk [0,1,2]
 refine cF h2 rfl (fun hc h2 => ?_) (fun hc h2 => ?_)
 refine sq [0] (pa (nx (aA ?_)))
 refine aS (aG ?_)
 cases h2
 refine dC ⟨_,rfl,fun e => ?_⟩
 subst e
 refine aS ?_
 replace h0 := fG h0
 refine aG ?_
 cases h0
 exact r0t 2 rfl
 refine cU (bG (aI (sr [0,1,2] (pm ?_))))
 refine rP rfl (bM rfl rfl) (pa (bE ?_))
 refine bU ?_
 cases h2
 refine ⟨_,rfl,?_⟩
 exact wk [0,1,2]
 refine bI (bT ?_)
 cases h2
 refine bW ⟨_,rfl,fun e => ?_⟩
 subst e
 refine aM (aI ?_)
 refine ⟨_,rfl,?_⟩
 exact wk [0,1,2]
 rintro v18 rfl
 replace h0 := hJ h0
 refine sq [0] (pa (nx (aA ?_)))
 cases h0
 exact r0t 2 rfl
theorem dZ {p0 : Int} {p1 : Int} {p2 : Int} {r : Bool} (h0 : cV p0 p1 p2 = some r) : FnC Tryz.prog 45 [] [dI p0,(dI p1),(dI p2)] [] (dB r) := by
 refine fi 15 tok Tryz.func45 ?_
 unfold cV at h0
 refine sq [0] (pa (nx (sq [0,1,2,3,4,5,6,7,8] ?_)))
 refine pm ?_
 refine pm ?_
 refine rP rfl (nK rfl rfl) (pm ?_)
 refine jJ (u := 10) h0 rfl (fun hc h0 => ?_) (fun hc h0 => ?_)
 refine pm1 ?_
 refine pm1 ?_
 refine rp rfl (w1 rfl rfl rfl) rfl (kK rfl rfl) (pkt ?_)
 refine pa (nx (aA ?_))
 cases h0
 exact r0t 6 rfl
 iterate 3 refine k1 ?_
 refine pkf ?_
 refine pa (nx (aA ?_))
 cases h0
 exact r0t 6 rfl
theorem pX {p0 : Int} {r : Bool} (h0 : gT p0 = some r) : FnC Tryz.prog 44 [] [dI p0] [] (dB r) := by
 refine fi 5 tok Tryz.func44 ?_
 unfold gT at h0
 refine sq [0] (pa (nx (sq [0,1,2] ?_)))
 refine pm ?_
 obtain ⟨v1,hv1,h0⟩ := bnd h0
 refine rS rfl (aK 3 (dZ hv1) rfl rfl rfl) (pa (nx (aA ?_)))
 cases h0
 exact r0t 2 rfl
theorem wQ {p0 : bH} {r : Bool} (h0 : jF p0 = some r) : FnC Tryz.prog 83 [] [.ref (aJ p0)] [] (dB r) := by
 refine fi 35 tok Tryz.func83 ?_
 unfold jF at h0
 refine sq [0] (pa (nx ?_))
 obtain ⟨v7x,h1,h0⟩ := bnd h0
 refine cQ v7x (fun v7 => ⟨aF ((fun _ => .dead)) 0 (.ref (aJ p0)),lks [.no, .no, .no]⟩) ?_ ?_
 refine sq [0] (pa (nx (aD ?_)))
 refine aR (fun s4 => ⟨aF (aF ((fun _ => .dead)) 0 (.ref (aJ p0))) 3 (dI s4),lks [.no, .no, .no]⟩) h1 ?_ (fun s4 y h2 => ?_)
 exact wk [0,1,2]
 refine aC (sq [0,1,2,3,4,5,6] (pm ?_))
 refine pmr ?_
 refine nr ?_
 refine fr tok ?_
 refine lr tok ?_
 refine rP rfl (aB tok rfl rfl rfl) (rP rfl (bC rfl rfl) (nx ?_))
 refine bA h2 rfl (fun hc h2 => ?_) (fun hc h2 => ?_)
 refine sk (aC (aD (sq [0,1,2,3,4,5,6,7,8] (pmr ?_))))
 refine nr ?_
 refine fr tok ?_
 refine lr tok ?_
 refine pm ?_
 obtain ⟨v5,hv5,h2⟩ := bnd h2
 refine rP rfl (cO tok hv5 rfl rfl rfl rfl rfl rfl) (lr tok ?_)
 obtain ⟨v6,hv6,h2⟩ := bnd h2
 refine rS rfl (aK 3 (pX hv6) rfl rfl rfl) (rP rfl (bX rfl) (nx ?_))
 refine cF h2 rfl (fun hc h2 => ?_) (fun hc h2 => ?_)
 refine sq [0] (pa (nx (aA ?_)))
 refine aS (aG ?_)
 cases h2
 refine dC ⟨_,rfl,fun e => ?_⟩
 subst e
 refine aS ?_
 replace h0 := fG h0
 refine aG ?_
 cases h0
 exact r0t 2 rfl
 refine cU (bG (aI (sr [0,1,2] (pm ?_))))
 refine rP rfl (bM rfl rfl) (pa (bE ?_))
 refine bU ?_
 cases h2
 refine ⟨_,rfl,?_⟩
 exact wk [0,1,2]
 refine bI (bT ?_)
 cases h2
 refine bW ⟨_,rfl,fun e => ?_⟩
 subst e
 refine aM (aI ?_)
 refine ⟨_,rfl,?_⟩
 exact wk [0,1,2]
 rintro v7 rfl
 replace h0 := hJ h0
 refine sq [0,1,2,3,4,5,6,7,8,9,10,11,12,13] (pmr ?_)
 refine nr ?_
 refine fr tok ?_
 refine lr tok ?_
 obtain ⟨v8,hv8,h0⟩ := bnd h0
 refine rS rfl (aK 3 (nG hv8) rfl rfl rfl) (pm ?_)
 refine cT (u := 27) h0 rfl (fun hc h0 => ?_) (fun hc h0 => ?_)
 refine yN ?_
 refine nr1 ?_
 refine fr1 tok ?_
 refine lr1 tok ?_
 refine rp rfl (w1 rfl rfl rfl) rfl (aB tok rfl rfl rfl) (rp rfl (w1 rfl rfl rfl) rfl (kK rfl rfl) (pkt ?_))
 refine pa (nx (aA ?_))
 cases h0
 exact r0t 2 rfl
 iterate 6 refine k1 ?_
 refine pkf ?_
 refine pa (nx (aA ?_))
 cases h0
 exact r0t 2 rfl
theorem zX {p0 : bQ} {p1 : ByteArray} {r : Int} (h0 : kA p0 p1 = some r) : FnC Tryz.prog 84 [] [.ref (gF p0),(dS p1)] [] (dI r) := by
 refine fi 26 tok Tryz.func84 ?_
 unfold kA at h0
 refine sq [0] (pa (nx ?_))
 obtain ⟨v5x,h1,h0⟩ := bnd h0
 refine cQ v5x (fun v5 => ⟨(fun _ => .dead),lks [.no, .no, .no]⟩) ?_ ?_
 refine sq [0] (pa (nx (aD ?_)))
 refine aR (fun s3 => ⟨aF (aF (aF ((fun _ => .dead)) 0 (.ref (gF p0))) 1 (dS p1)) 5 (dI s3),lks [.no, .no, .no]⟩) h1 ?_ (fun s3 y h2 => ?_)
 exact wk [0,1,2]
 refine aC (sq [0,1,2,3,4,5,6] (pm ?_))
 refine pmr ?_
 refine nr ?_
 refine fr tok ?_
 refine lr tok ?_
 refine rP rfl (aB tok rfl rfl rfl) (rP rfl (bC rfl rfl) (nx ?_))
 refine bA h2 rfl (fun hc h2 => ?_) (fun hc h2 => ?_)
 refine sk (aC (aD (sq [0,1,2,3,4,5,6,7,8,9] (pmr ?_))))
 refine nr ?_
 refine fr tok ?_
 refine lr tok ?_
 refine pm ?_
 obtain ⟨v4,hv4,h2⟩ := bnd h2
 refine rP rfl (cO tok hv4 rfl rfl rfl rfl rfl rfl) (fr tok ?_)
 refine lr tok ?_
 refine pm ?_
 refine rP rfl (sA rfl rfl) (nx ?_)
 refine bA h2 rfl (fun hc h2 => ?_) (fun hc h2 => ?_)
 refine sq [0,1] (pm ?_)
 refine pa (nx (aA ?_))
 refine aS (aG ?_)
 cases h2
 refine dC ⟨_,rfl,fun e => ?_⟩
 subst e
 refine aS ?_
 replace h0 := fG h0
 refine aG ?_
 cases h0
 exact r0t 4 rfl
 refine cU (bG (aI (sr [0,1,2] (pm ?_))))
 refine rP rfl (bM rfl rfl) (pa (bE ?_))
 refine bU ?_
 cases h2
 refine ⟨_,rfl,?_⟩
 exact wk [0,1,2]
 refine bI (bT ?_)
 cases h2
 refine bW ⟨_,rfl,fun e => ?_⟩
 subst e
 refine aM (aI ?_)
 refine ⟨_,rfl,?_⟩
 exact wk [0,1,2]
 rintro v5 rfl
 replace h0 := hJ h0
 refine sq [0] (pa (nx (aA ?_)))
 cases h0
 exact r0t 4 rfl
theorem pT {p0 : bQ} {p1 : Int} {p2 : Int} {r : Bool} (h0 : gM p0 p1 p2 = some r) : FnC Tryz.prog 111 [] [.ref (gF p0),(dI p1),(dI p2)] [] (dB r) := by
 refine fi 29 tok Tryz.func111 ?_
 unfold gM at h0
 refine sq [0] (pa (nx (sq [0,1,2,3,4,5,6,7,8,9,10,11,12,13,14,15,16,17,18,19,20,21,22] ?_)))
 refine pm ?_
 refine pmr ?_
 refine nr ?_
 refine fr tok ?_
 refine lr tok ?_
 refine rP rfl (aB tok rfl rfl rfl) (rP rfl (iB rfl rfl) ?_)
 obtain ⟨v1,hv1,h0⟩ := bnd h0
 refine rS rfl (aK 3 (dZ hv1) rfl rfl rfl) (pm ?_)
 refine cT (u := 15) h0 rfl (fun hc h0 => ?_) (fun hc h0 => ?_)
 refine pm1 ?_
 refine yN ?_
 refine nr1 ?_
 refine fr1 tok ?_
 refine lr1 tok ?_
 refine pm1 ?_
 obtain ⟨v2,hv2,h0⟩ := bnd h0
 refine rp rfl (w1 rfl rfl rfl) rfl (cO tok hv2 rfl rfl rfl rfl rfl rfl) (fr1 tok ?_)
 refine lr1 tok ?_
 refine rp rfl (w1 rfl rfl rfl) rfl (aB tok rfl rfl rfl) (rp rfl (w1 rfl rfl rfl) rfl (iB rfl rfl) ?_)
 obtain ⟨v3,hv3,h0⟩ := bnd h0
 refine rs rfl (w1 rfl rfl rfl) rfl (aK 3 (dZ hv3) rfl rfl rfl) (pkt ?_)
 refine pa (nx (aA ?_))
 cases h0
 exact r0t 6 rfl
 iterate 12 refine k1 ?_
 refine pkf ?_
 refine pa (nx (aA ?_))
 cases h0
 exact r0t 6 rfl
theorem zE {p0 : bQ} {p1 : bJ} {r : Bool} (h0 : jS p0 p1 = some r) : FnC Tryz.prog 85 [] [.ref (gF p0), .agg [dI p1.A,(dI p1.WheelA),(dI p1.B),(dI p1.WheelB)]] [] (dB r) := by
 refine fi 26 tok Tryz.func85 ?_
 unfold jS at h0
 refine sq [0,1] (bxx 3 ?_)
 refine pa (nx (sq [0,1,2,3,4,5,6,7,8,9,10,11,12,13,14,15,16,17,18,19,20,21] ?_))
 refine fa tok ?_
 refine ld tok ?_
 refine fa tok ?_
 refine ld tok ?_
 refine rP rfl (dD rfl rfl) (pm ?_)
 refine jJ (u := 10) h0 rfl (fun hc h0 => ?_) (fun hc h0 => ?_)
 refine yN ?_
 refine fa1 tok ?_
 refine ld1 tok ?_
 refine fa1 tok ?_
 refine ld1 tok ?_
 obtain ⟨v1,hv1,h0⟩ := bnd h0
 refine rs rfl (w1 rfl rfl rfl) rfl (aK 4 (pT hv1) rfl rfl rfl) (pkt ?_)
 refine pm ?_
 refine cT (u := 18) h0 rfl (fun hc h0 => ?_) (fun hc h0 => ?_)
 refine yN ?_
 refine fa1 tok ?_
 refine ld1 tok ?_
 refine fa1 tok ?_
 refine ld1 tok ?_
 obtain ⟨v2,hv2,h0⟩ := bnd h0
 refine rs rfl (w1 rfl rfl rfl) rfl (aK 4 (pT hv2) rfl rfl rfl) (pkt ?_)
 refine pa (nx (aA ?_))
 cases h0
 exact r0t 4 rfl
 iterate 6 refine k1 ?_
 refine pkf ?_
 refine pa (nx (aA ?_))
 cases h0
 exact r0t 4 rfl
 iterate 6 refine k1 ?_
 refine pkf ?_
 refine pm ?_
 iterate 6 refine k1 ?_
 refine pkf ?_
 refine pa (nx (aA ?_))
 cases h0
 exact r0t 4 rfl
theorem xA {p0 : bJ} {p1 : bJ} {r : Bool} (h0 : iX p0 p1 = some r) : FnC Tryz.prog 112 [] [.agg [dI p0.A,(dI p0.WheelA),(dI p0.B),(dI p0.WheelB)], .agg [dI p1.A,(dI p1.WheelA),(dI p1.B),(dI p1.WheelB)]] [] (dB r) := by
 refine fi 36 tok Tryz.func112 ?_
 unfold iX at h0
 refine sq [0,1,2] (bxx 3 ?_)
 refine bxx 4 ?_
 refine pa (nx (sq [0,1,2,3,4,5,6,7,8,9,10,11,12,13,14,15,16,17,18,19,20,21,22,23,24,25,26,27,28,29,30,31] ?_))
 refine rL rfl (cM tok rfl rfl rfl rfl) (rL rfl (cM tok rfl rfl rfl rfl) (rP rfl (mR (a := p0) (b := p1) rfl rfl) (pm ?_)))
 refine jJ (u := 8) h0 rfl (fun hc h0 => ?_) (fun hc h0 => ?_)
 iterate 26 refine k1 ?_
 refine pkt ?_
 refine pa (nx (aA ?_))
 cases h0
 exact r0t 4 rfl
 refine fa1 tok ?_
 refine ld1 tok ?_
 refine fa1 tok ?_
 refine ld1 tok ?_
 refine rp rfl (w1 rfl rfl rfl) rfl (pC rfl rfl) (pm1 ?_)
 refine jJ (u := 14) h0 rfl (fun hc h0 => ?_) (fun hc h0 => ?_)
 refine fa1 tok ?_
 refine ld1 tok ?_
 refine fa1 tok ?_
 refine ld1 tok ?_
 refine rp rfl (w1 rfl rfl rfl) rfl (pC rfl rfl) (aIa ?_)
 refine pm1 ?_
 refine jJ (u := 21) h0 rfl (fun hc h0 => ?_) (fun hc h0 => ?_)
 refine fa1 tok ?_
 refine ld1 tok ?_
 refine fa1 tok ?_
 refine ld1 tok ?_
 refine rp rfl (w1 rfl rfl rfl) rfl (pC rfl rfl) (aIa ?_)
 refine pm1 ?_
 refine jJ (u := 28) h0 rfl (fun hc h0 => ?_) (fun hc h0 => ?_)
 refine fa1 tok ?_
 refine ld1 tok ?_
 refine fa1 tok ?_
 refine ld1 tok ?_
 refine rp rfl (w1 rfl rfl rfl) rfl (pC rfl rfl) (aIa ?_)
 refine pkf ?_
 refine pa (nx (aA ?_))
 cases h0
 exact r0t 4 rfl
 iterate 5 refine k1 ?_
 refine aGh ?_
 refine pkf ?_
 refine pa (nx (aA ?_))
 cases h0
 exact r0t 4 rfl
 iterate 5 refine k1 ?_
 refine aGh ?_
 refine pm1 ?_
 iterate 5 refine k1 ?_
 refine aGh ?_
 refine pkf ?_
 refine pa (nx (aA ?_))
 cases h0
 exact r0t 4 rfl
 iterate 5 refine k1 ?_
 refine aGh ?_
 refine pm1 ?_
 iterate 5 refine k1 ?_
 refine aGh ?_
 refine pm1 ?_
 iterate 5 refine k1 ?_
 refine aGh ?_
 refine pkf ?_
 refine pa (nx (aA ?_))
 cases h0
 exact r0t 4 rfl
theorem yI {p0 : bQ} {p1 : bJ} {p2 : Int} {r : Bool} (h0 : jH p0 p1 p2 = some r) : FnC Tryz.prog 86 [] [.ref (gF p0), .agg [dI p1.A,(dI p1.WheelA),(dI p1.B),(dI p1.WheelB)],(dI p2)] [] (dB r) := by
 refine fi 22 tok Tryz.func86 ?_
 unfold jH at h0
 refine sq [0,1] (bxx 3 ?_)
 refine pa (nx ?_)
 obtain ⟨v7x,h1,h0⟩ := bnd h0
 refine cQ v7x (fun v7 => ⟨(fun _ => .dead),lks [.no, .no, .no]⟩) ?_ ?_
 refine sq [0] (pa (nx (aD ?_)))
 refine aR (fun s4 => ⟨aF (aF (aF (aF ((fun _ => .dead)) 0 (.ref (gF p0))) 2 (dI p2)) 4 (.ptr 3 0 1 0 0)) 7 (dI s4),lks [.no, .no, .no, .live [⟨131,4, .av [[dI p1.A,(dI p1.WheelA),(dI p1.B),(dI p1.WheelB)]]⟩]]⟩) h1 ?_ (fun s4 y h2 => ?_)
 exact wk [0,1,2,3]
 refine aC (sq [0,1,2] (pm ?_))
 refine pm ?_
 refine rP rfl (bC rfl rfl) (nx ?_)
 refine bA h2 rfl (fun hc h2 => ?_) (fun hc h2 => ?_)
 refine sk (aC (aD (aC (bL (is := [0,1,2,3,4,5,6,7,8]) [0,1,3,7,0,31,63,0,255] follows (by kernel_rfl) (aJn ?_)))))
 refine tnr ?_
 refine tfr tok ?_
 refine tlr tok ?_
 refine tpm ?_
 obtain ⟨v5,hv5,h2⟩ := bnd h2
 refine tP rfl (cO tok hv5 rfl rfl rfl rfl rfl rfl) (tP rfl (aW tok rfl rfl rfl (by repeat (first | exact gY.z _ | apply gY.t))) (zA rfl w0 rfl (cM tok rfl rfl rfl rfl) rfl rfl rfl ?_))
 obtain ⟨v6,hv6,h2⟩ := bnd h2
 refine wG rfl w0 rfl (jD 4 (xA hv6) rfl rfl rfl) (dW ?_)
 refine ⟨by kernel_rfl,?_⟩
 refine aI ?_
 refine cF h2 rfl (fun hc h2 => ?_) (fun hc h2 => ?_)
 refine sq [0] (pa (nx (aA ?_)))
 refine aS (aG ?_)
 cases h2
 refine dC ⟨_,rfl,fun e => ?_⟩
 subst e
 refine aS ?_
 replace h0 := fG h0
 refine aG ?_
 cases h0
 exact r0t 6 rfl
 refine cU (bG (aI (sr [0,1,2] (pm ?_))))
 refine rP rfl (bM rfl rfl) (pa (bE ?_))
 refine bU ?_
 cases h2
 refine ⟨_,rfl,?_⟩
 exact wk [0,1,2,3]
 refine bI (bT ?_)
 cases h2
 refine bW ⟨_,rfl,fun e => ?_⟩
 subst e
 refine aM (aI ?_)
 refine ⟨_,rfl,?_⟩
 exact wk [0,1,2]
 rintro v7 rfl
 replace h0 := hJ h0
 refine sq [0] (pa (nx (aA ?_)))
 cases h0
 exact r0t 6 rfl
theorem aCj {p0 : bQ} {r : Bool} (h0 : mU p0 = some r) : FnC Tryz.prog 42 [] [.ref (gF p0)] [] (dB r) := by
 refine fi 81 tok Tryz.func42 ?_
 unfold mU at h0
 refine sq [0] (pa (nx ?_))
 obtain ⟨v13x,h1,h0⟩ := bnd h0
 refine cQ v13x (fun v13 => ⟨aF ((fun _ => .dead)) 0 (.ref (gF p0)),lks [.no, .no, .no]⟩) ?_ ?_
 refine sq [0] (pa (nx (aD ?_)))
 refine aR (fun s7 => ⟨aF (aF ((fun _ => .dead)) 0 (.ref (gF p0))) 3 (dI s7),lks [.no, .no, .no]⟩) h1 ?_ (fun s7 y h2 => ?_)
 exact wk [0,1,2]
 refine aC (sq [0,1,2,3,4,5,6] (pm ?_))
 refine pmr ?_
 refine nr ?_
 refine fr tok ?_
 refine lr tok ?_
 refine rP rfl (aB tok rfl rfl rfl) (rP rfl (bC rfl rfl) (nx ?_))
 refine bA h2 rfl (fun hc h2 => ?_) (fun hc h2 => ?_)
 refine sk (aC (aD ?_))
 obtain ⟨v12,h3,h2⟩ := bnd h2
 refine bR ⟨aF (aF (aF ((fun _ => .dead)) 0 (.ref (gF p0))) 3 (dI s7)) 35 (dB v12),lks [.no, .no, .no]⟩ ?_ ?_
 refine sr [0,1,2,3,4,5,6,7,8,9,10,11,12,13,14,15,16,17,18,19,20,21] (pmr ?_)
 refine nr ?_
 refine fr tok ?_
 refine lr tok ?_
 refine pm ?_
 obtain ⟨v8,hv8,h3⟩ := bnd h3
 refine rP rfl (cO tok hv8 rfl rfl rfl rfl rfl rfl) ?_
 obtain ⟨v9,hv9,h3⟩ := bnd h3
 refine rS rfl (aK 3 (wQ hv9) rfl rfl rfl) (rP rfl (bX rfl) (pm ?_))
 refine cT (u := 22) h3 rfl (fun hc h3 => ?_) (fun hc h3 => ?_)
 iterate 12 refine k1 ?_
 refine pkt (nx ?_)
 cases h3
 exact wk [0,1,2]
 refine yN ?_
 refine yN ?_
 refine nr1 ?_
 refine fr1 tok ?_
 refine lr1 tok ?_
 refine pm1 ?_
 obtain ⟨v10,hv10,h3⟩ := bnd h3
 refine rp rfl (w1 rfl rfl rfl) rfl (cO tok hv10 rfl rfl rfl rfl rfl rfl) (fr1 tok ?_)
 refine lr1 tok ?_
 obtain ⟨v11,hv11,h3⟩ := bnd h3
 refine rs rfl (w1 rfl rfl rfl) rfl (aK 3 (zX hv11) rfl rfl rfl) (pm1 ?_)
 refine rp rfl (w1 rfl rfl rfl) rfl (dD rfl rfl) (pkf (nx ?_))
 cases h3
 refine nC.trans_ (kX (d := 26) (ds := (cL aJ) p0.Arbors) rfl (by repeat (first | exact Pre.z _ | apply Pre.t))) (nC.trans_ (kX (d := 30) (ds := cS v10.Name) rfl (by repeat (first | exact Pre.z _ | apply Pre.t))) ?_)
 exact wk [0,1,2]
 refine cF h2 rfl (fun hc h2 => ?_) (fun hc h2 => ?_)
 refine sq [0] (pa (nx (aA ?_)))
 refine aS (aG ?_)
 cases h2
 refine dC ⟨_,rfl,fun e => ?_⟩
 subst e
 refine aS ?_
 replace h0 := fG h0
 refine aG ?_
 cases h0
 exact r0t 2 rfl
 refine cU (bG (aI (sr [0,1,2] (pm ?_))))
 refine rP rfl (bM rfl rfl) (pa (bE ?_))
 refine bU ?_
 cases h2
 refine ⟨_,rfl,?_⟩
 exact wk [0,1,2]
 refine bI (bT ?_)
 cases h2
 refine bW ⟨_,rfl,fun e => ?_⟩
 subst e
 refine aM (aI ?_)
 refine ⟨_,rfl,?_⟩
 exact wk [0,1,2]
 rintro v13 rfl
 replace h0 := hJ h0
 obtain ⟨v26x,h1,h0⟩ := bnd h0
 refine cQ v26x (fun v26 => ⟨aF ((fun _ => .dead)) 0 (.ref (gF p0)),lks [.no, .no, .no]⟩) ?_ ?_
 refine sq [0] (pa (nx (aD ?_)))
 refine aR (fun s20 => ⟨aF (aF ((fun _ => .dead)) 0 (.ref (gF p0))) 4 (dI s20),lks [.no, .no, .no]⟩) h1 ?_ (fun s20 y h2 => ?_)
 exact wk [0,1,2]
 refine aC (sq [0,1,2,3,4,5,6] (pm ?_))
 refine pmr ?_
 refine nr ?_
 refine fr tok ?_
 refine lr tok ?_
 refine rP rfl (aB tok rfl rfl rfl) (rP rfl (bC rfl rfl) (nx ?_))
 refine bA h2 rfl (fun hc h2 => ?_) (fun hc h2 => ?_)
 refine sk (aC (aD ?_))
 obtain ⟨v25,h3,h2⟩ := bnd h2
 refine bR ⟨aF (aF (aF ((fun _ => .dead)) 0 (.ref (gF p0))) 4 (dI s20)) 66 (dB v25),lks [.no, .no, .no]⟩ ?_ ?_
 refine sr [0,1,2,3,4,5,6,7,8,9,10,11,12,13,14,15,16,17,18,19,20,21] (pmr ?_)
 refine pmr ?_
 refine nr ?_
 refine fr tok ?_
 refine lr tok ?_
 refine pm ?_
 obtain ⟨v21,hv21,h3⟩ := bnd h3
 refine rP rfl (cO tok hv21 rfl rfl rfl rfl rfl rfl) (rP rfl (aW tok rfl rfl rfl (by repeat (first | exact gY.z _ | apply gY.t))) ?_)
 obtain ⟨v22,hv22,h3⟩ := bnd h3
 refine rS rfl (aK 3 (zE hv22) rfl rfl rfl) (rP rfl (bX rfl) (pm ?_))
 refine cT (u := 55) h3 rfl (fun hc h3 => ?_) (fun hc h3 => ?_)
 iterate 10 refine k1 ?_
 refine pkt (nx ?_)
 cases h3
 exact wk [0,1,2]
 refine yN ?_
 refine yN ?_
 refine nr1 ?_
 refine fr1 tok ?_
 refine lr1 tok ?_
 refine pm1 ?_
 obtain ⟨v23,hv23,h3⟩ := bnd h3
 refine rp rfl (w1 rfl rfl rfl) rfl (cO tok hv23 rfl rfl rfl rfl rfl rfl) (rp rfl (w1 rfl rfl rfl) rfl (aW tok rfl rfl rfl (by repeat (first | exact gY.z _ | apply gY.t))) (pm1 ?_))
 obtain ⟨v24,hv24,h3⟩ := bnd h3
 refine rs rfl (w1 rfl rfl rfl) rfl (aK 3 (yI hv24) rfl rfl rfl) (pkf (nx ?_))
 cases h3
 refine nC.trans_ (kX (d := 59) (ds := (cL bF) p0.Meshes) rfl (by repeat (first | exact Pre.z _ | apply Pre.t))) ?_
 exact wk [0,1,2]
 refine cF h2 rfl (fun hc h2 => ?_) (fun hc h2 => ?_)
 refine sq [0] (pa (nx (aA ?_)))
 refine aS (aG ?_)
 cases h2
 refine dC ⟨_,rfl,fun e => ?_⟩
 subst e
 refine aS ?_
 replace h0 := fG h0
 refine aG ?_
 cases h0
 exact r0t 2 rfl
 refine cU (bG (aI (sr [0,1,2] (pm ?_))))
 refine rP rfl (bM rfl rfl) (pa (bE ?_))
 refine bU ?_
 cases h2
 refine ⟨_,rfl,?_⟩
 exact wk [0,1,2]
 refine bI (bT ?_)
 cases h2
 refine bW ⟨_,rfl,fun e => ?_⟩
 subst e
 refine aM (aI ?_)
 refine ⟨_,rfl,?_⟩
 exact wk [0,1,2]
 rintro v26 rfl
 replace h0 := hJ h0
 refine sq [0,1,2,3,4,5,6,7,8,9,10,11,12,13,14] (pmr ?_)
 refine nr ?_
 refine fr tok ?_
 refine lr tok ?_
 refine rP rfl (aB tok rfl rfl rfl) (rP rfl (kK rfl rfl) (pm ?_))
 refine jJ (u := 73) h0 rfl (fun hc h0 => ?_) (fun hc h0 => ?_)
 refine yN ?_
 refine nr1 ?_
 refine fr1 tok ?_
 refine lr1 tok ?_
 refine rp rfl (w1 rfl rfl rfl) rfl (aB tok rfl rfl rfl) (rp rfl (w1 rfl rfl rfl) rfl (kK rfl rfl) (pkt ?_))
 refine pa (nx (aA ?_))
 cases h0
 exact r0t 2 rfl
 iterate 6 refine k1 ?_
 refine pkf ?_
 refine pa (nx (aA ?_))
 cases h0
 exact r0t 2 rfl
theorem nU {p0 : bQ} {p1 : Int} {r : Bool} (h0 : gJ p0 p1 = some r) : FnC Tryz.prog 43 [] [.ref (gF p0),(dI p1)] [] (dB r) := by
 refine fi 13 tok Tryz.func43 ?_
 unfold gJ at h0
 refine sq [0] (pa (nx (sq [0,1,2,3,4,5,6,7,8] ?_)))
 refine pm ?_
 refine pmr ?_
 refine nr ?_
 refine fr tok ?_
 refine lr tok ?_
 refine rP rfl (aB tok rfl rfl rfl) (rP rfl (iB rfl rfl) ?_)
 obtain ⟨v1,hv1,h0⟩ := bnd h0
 refine rS rfl (aK 3 (dZ hv1) rfl rfl rfl) (pa (nx (aA ?_)))
 cases h0
 exact r0t 4 rfl
theorem aBh {p0 : Int} {p1 : Int} {r : Int} (h0 : lP p0 p1 = some r) : FnC Tryz.prog 113 [] [dI p0,(dI p1)] [] (dI r) := by
 refine fi 14 tok Tryz.func113 ?_
 unfold lP at h0
 refine sq [0] (pa (nx ?_))
 obtain ⟨v5,h1,h0⟩ := bnd h0
 refine bR ⟨aF ((fun _ => .dead)) 0 (dI v5),lks [.no, .no, .no]⟩ ?_ ?_
 refine aD ?_
 refine aR (fun s3 => ⟨aF (aF ((fun _ => .dead)) 0 (dI s3.1)) 1 (dI s3.2),lks [.no, .no, .no]⟩) h1 ?_ (fun s3 y h2 => ?_)
 exact wk [0,1,2]
 refine aC (sq [0,1] (pm ?_))
 refine rP rfl (kV rfl rfl) (nx ?_)
 refine bA h2 rfl (fun hc h2 => ?_) (fun hc h2 => ?_)
 refine sk (aD (sq [0,1,2,3] (pm ?_)))
 refine pm ?_
 obtain ⟨hq4,h2⟩ := cJ h2
 refine rP rfl (rH rfl rfl hq4) (pa (nx (sq [0,1] ?_)))
 refine pm ?_
 refine pa (nx (sr [0,1] ?_))
 refine pm ?_
 refine pa (bE ?_)
 refine bG (bU ?_)
 cases h2
 refine ⟨_,rfl,?_⟩
 exact wk [0,1,2]
 refine bI (bT ?_)
 cases h2
 refine bW ⟨_,rfl,fun e => ?_⟩
 subst e
 refine aM (aI ?_)
 exact wk [0,1,2]
 refine sq [0,1] (pm ?_)
 refine pa (nx (aA ?_))
 cases h0
 exact r0t 4 rfl
theorem xZ {p0 : List aH} {r : Int × Bool} (h0 : iT p0 = some r) : FnC Tryz.prog 87 [] [dL aE p0] [] (.tup [dI r.1,(dB r.2)]) := by
 refine fi 55 tok Tryz.func87 ?_
 unfold iT at h0
 refine sq [0,1] (pa ?_)
 refine pa (nx (sq [0] ?_))
 refine pa (nx ?_)
 obtain ⟨v23x,h1,h0⟩ := bnd h0
 refine cQ v23x (fun v23 => ⟨aF (aF ((fun _ => .dead)) 0 (dL aE p0)) 4 (dI v23),lks [.no, .no, .no]⟩) ?_ ?_
 refine sq [0] (pa (nx (aD ?_)))
 refine aR (fun s12 => ⟨aF (aF (aF ((fun _ => .dead)) 0 (dL aE p0)) 4 (dI s12.1)) 5 (dI s12.2),lks [.no, .no, .no]⟩) h1 ?_ (fun s12 y h2 => ?_)
 exact wk [0,1,2]
 refine aC (sq [0,1,2,3] (pm ?_))
 refine pm ?_
 refine rP rfl (aB tok rfl rfl rfl) (rP rfl (bC rfl rfl) (nx ?_))
 refine bA h2 rfl (fun hc h2 => ?_) (fun hc h2 => ?_)
 refine sk (aC (aD (aC ?_)))
 obtain ⟨v18,h3,h2⟩ := bnd h2
 refine bR ⟨aF (aF (aF (aF ((fun _ => .dead)) 0 (dL aE p0)) 4 (dI s12.1)) 5 (dI s12.2)) 33 (dB v18),lks [.no, .no, .no]⟩ ?_ ?_
 refine bL (is := [0,1,2,3,4,5,6,7,8,9,10,11,12,13,14,15,16,17,18,19,20,21]) [0,0,3,7,15,31,63,127,255,255,1023,2047,4095,255,255,24831,57599,123135,254207,524287,1048575,2097151] follows (by kernel_rfl) (tpm ?_)
 refine tpm ?_
 obtain ⟨v13,hv13,h3⟩ := bnd h3
 refine tP rfl (cO tok hv13 rfl rfl rfl rfl rfl rfl) (tfr tok ?_)
 refine tlr tok ?_
 obtain ⟨v14,hv14,h3⟩ := bnd h3
 refine wG rfl w0 rfl (jD 3 (dZ hv14) rfl rfl rfl) (tP rfl (bX rfl) (tpm ?_))
 refine xM (u := 19) h3 rfl (fun hc h3 => ?_) (fun hc h3 => ?_)
 iterate 13 refine k2 ?_
 refine aCd ?_
 refine dW ?_
 refine ⟨by kernel_rfl,?_⟩
 refine aI ?_
 cases h3
 exact wk [0,1,2]
 refine aF9 ?_
 refine aF9 ?_
 obtain ⟨v15,hv15,h3⟩ := bnd h3
 refine pM rfl (w1 rfl rfl rfl) rfl (cO tok hv15 rfl rfl rfl rfl rfl rfl) (aD4 tok ?_)
 refine aG5 tok ?_
 refine aF9 ?_
 refine aF9 ?_
 obtain ⟨v16,hv16,h3⟩ := bnd h3
 refine pM rfl (w1 rfl rfl rfl) rfl (cO tok hv16 rfl rfl rfl rfl rfl rfl) (aD4 tok ?_)
 refine aG5 tok ?_
 refine pM rfl (w1 rfl rfl rfl) rfl (iB rfl rfl) ?_
 obtain ⟨v17,hv17,h3⟩ := bnd h3
 refine wG rfl (w1 rfl rfl rfl) rfl (jD 3 (dZ hv17) rfl rfl rfl) (pM rfl (w1 rfl rfl rfl) rfl (bX rfl) (aHa ?_))
 refine dW ?_
 refine ⟨by kernel_rfl,?_⟩
 refine aI ?_
 cases h3
 refine nC.trans_ (kX (d := 23) (ds := cI v15.Rest) rfl (by repeat (first | exact Pre.z _ | apply Pre.t))) (nC.trans_ (kX (d := 28) (ds := cI v16.Every) rfl (by repeat (first | exact Pre.z _ | apply Pre.t))) ?_)
 exact wk [0,1,2]
 refine cF h2 rfl (fun hc h2 => ?_) (fun hc h2 => ?_)
 refine sq [0,1] (pa ?_)
 refine pa (nx (aA (aG ?_)))
 refine aS (aG ?_)
 cases h2
 refine dC ⟨_,rfl,fun e => ?_⟩
 subst e
 refine aS ?_
 replace h0 := fG h0
 refine aG ?_
 cases h0
 exact aBn (rs := [.tmp 2, .tmp 3]) rfl
 refine sk (aC (bL (is := [0,1,2,3,4,5,6,9,10,11,12,13,7,8,14,15]) [0,0,0,0,12,28,60,126,255,0,0,1536,3584,7680,16383,32767] follows (by kernel_rfl) ?_))
 iterate 4 refine tpm ?_
 obtain ⟨v19,hv19,h2⟩ := bnd h2
 refine tP rfl (cO tok hv19 rfl rfl rfl rfl rfl rfl) (tfr tok ?_)
 refine tlr tok ?_
 refine tpm ?_
 refine tpm ?_
 obtain ⟨v20,hv20,h2⟩ := bnd h2
 refine tP rfl (cO tok hv20 rfl rfl rfl rfl rfl rfl) (tfr tok ?_)
 refine tlr tok ?_
 obtain ⟨v21,hv21,h2⟩ := bnd h2
 refine wG rfl w0 rfl (jD 3 (aBh hv21) rfl rfl rfl) ?_
 obtain ⟨hq22,h2⟩ := cJ h2
 refine tP rfl (aAp rfl rfl hq22) (tP rfl (aFd rfl rfl) (tpa ?_))
 refine dW ?_
 refine ⟨by kernel_rfl,?_⟩
 refine aI (sq [0,1] (pm ?_))
 refine rP rfl (kV rfl rfl) (nx ?_)
 refine bA h2 rfl (fun hc h2 => ?_) (fun hc h2 => ?_)
 refine sq [0,1] (pa ?_)
 refine pa (nx (aA ?_))
 refine aS (aG ?_)
 cases h2
 refine dC ⟨_,rfl,fun e => ?_⟩
 subst e
 refine aS ?_
 replace h0 := fG h0
 refine aG ?_
 cases h0
 exact aBn (rs := [.tmp 2, .tmp 3]) rfl
 refine cU (bG (aI (sr [0,1,2] (pm ?_))))
 refine rP rfl (bM rfl rfl) (pa (bE ?_))
 refine bU ?_
 cases h2
 refine ⟨_,rfl,?_⟩
 exact wk [0,1,2]
 refine bI (bT ?_)
 cases h2
 refine bW ⟨_,rfl,fun e => ?_⟩
 subst e
 refine aM (aI ?_)
 refine ⟨_,rfl,?_⟩
 exact wk [0,1,2]
 rintro v23 rfl
 replace h0 := hJ h0
 refine sq [0,1,2,3,4,5] (pm ?_)
 refine pm ?_
 refine rP rfl (aB tok rfl rfl rfl) (rP rfl (kK rfl rfl) (pa ?_))
 refine pa (nx (aA ?_))
 cases h0
 exact aBn (rs := [.tmp 2, .tmp 3]) rfl
theorem uY {p0 : List aZ} {r : Bool} (h0 : iG p0 = some r) : FnC Tryz.prog 88 [] [dL aN p0] [] (dB r) := by
 refine fi 55 tok Tryz.func88 ?_
 unfold iG at h0
 refine sq [0] (pa (nx ?_))
 obtain ⟨v31x,h1,h0⟩ := bnd h0
 refine cQ v31x (fun v31 => ⟨aF ((fun _ => .dead)) 0 (dL aN p0),lks [.no, .no, .no]⟩) ?_ ?_
 refine sq [0] (pa (nx (aD ?_)))
 refine aR (fun s16 => ⟨aF (aF ((fun _ => .dead)) 0 (dL aN p0)) 3 (dI s16),lks [.no, .no, .no]⟩) h1 ?_ (fun s16 y h2 => ?_)
 exact wk [0,1,2]
 refine aC (sq [0,1,2,3] (pm ?_))
 refine pm ?_
 refine rP rfl (aB tok rfl rfl rfl) (rP rfl (bC rfl rfl) (nx ?_))
 refine bA h2 rfl (fun hc h2 => ?_) (fun hc h2 => ?_)
 refine sk ?_
 obtain ⟨v30x,h3,h2⟩ := bnd h2
 refine cQ v30x (fun v30 => ⟨aF (aF ((fun _ => .dead)) 0 (dL aN p0)) 3 (dI s16),lks [.no, .no, .no]⟩) ?_ ?_
 refine aD (aC ?_)
 obtain ⟨v23,h4,h3⟩ := bnd h3
 refine bR ⟨aF (aF (aF ((fun _ => .dead)) 0 (dL aN p0)) 3 (dI s16)) 35 (dB v23),lks [.no, .no, .no]⟩ ?_ ?_
 refine sr [0,1,2,3,4,5,6,7,8,9,10,11,12,13,14,15,16,17,18,19,20,21,22,23,24] (pm ?_)
 refine pm ?_
 obtain ⟨v17,hv17,h4⟩ := bnd h4
 refine rP rfl (cO tok hv17 rfl rfl rfl rfl rfl rfl) (fr tok ?_)
 refine lr tok ?_
 obtain ⟨v18,hv18,h4⟩ := bnd h4
 refine rS rfl (aK 3 (nG hv18) rfl rfl rfl) (rP rfl (bX rfl) (pm ?_))
 refine cT (u := 18) h4 rfl (fun hc h4 => ?_) (fun hc h4 => ?_)
 iterate 7 refine k1 ?_
 refine pkt ?_
 refine pm ?_
 iterate 7 refine k1 ?_
 refine pkt (nx ?_)
 cases h4
 exact wk [0,1,2]
 refine pm1 ?_
 refine pm1 ?_
 obtain ⟨v19,hv19,h4⟩ := bnd h4
 refine rp rfl (w1 rfl rfl rfl) rfl (cO tok hv19 rfl rfl rfl rfl rfl rfl) (fr1 tok ?_)
 refine lr1 tok ?_
 obtain ⟨v20,hv20,h4⟩ := bnd h4
 refine rs rfl (w1 rfl rfl rfl) rfl (aK 3 (dZ hv20) rfl rfl rfl) (rp rfl (w1 rfl rfl rfl) rfl (bX rfl) (pkf ?_))
 refine pm ?_
 refine cT (u := 27) h4 rfl (fun hc h4 => ?_) (fun hc h4 => ?_)
 iterate 7 refine k1 ?_
 refine pkt (nx ?_)
 cases h4
 refine nC.trans_ (kX (d := 22) (ds := cI v19.Days) rfl (by repeat (first | exact Pre.z _ | apply Pre.t))) ?_
 exact wk [0,1,2]
 refine pm1 ?_
 refine pm1 ?_
 obtain ⟨v21,hv21,h4⟩ := bnd h4
 refine rp rfl (w1 rfl rfl rfl) rfl (cO tok hv21 rfl rfl rfl rfl rfl rfl) (fr1 tok ?_)
 refine lr1 tok ?_
 obtain ⟨v22,hv22,h4⟩ := bnd h4
 refine rs rfl (w1 rfl rfl rfl) rfl (aK 3 (dZ hv22) rfl rfl rfl) (rp rfl (w1 rfl rfl rfl) rfl (bX rfl) (pkf (nx ?_)))
 cases h4
 refine nC.trans_ (kX (d := 22) (ds := cI v19.Days) rfl (by repeat (first | exact Pre.z _ | apply Pre.t))) (nC.trans_ (kX (d := 31) (ds := cI v21.Leap) rfl (by repeat (first | exact Pre.z _ | apply Pre.t))) ?_)
 exact wk [0,1,2]
 refine cF h3 rfl (fun hc h3 => ?_) (fun hc h3 => ?_)
 refine sq [0] (pa (nx (aA (aG ?_))))
 refine aS ?_
 cases h3
 replace h2 := fG h2
 refine aG ?_
 cases h2
 refine dC ⟨_,rfl,fun e => ?_⟩
 subst e
 refine aS ?_
 replace h0 := fG h0
 refine aG ?_
 cases h0
 exact r0t 2 rfl
 refine sk (sq [0] (pa (nx (aD ?_))))
 refine aR (fun s27 => ⟨aF (aF (aF ((fun _ => .dead)) 0 (dL aN p0)) 3 (dI s16)) 4 (dI s27),lks [.no, .no, .no]⟩) h3 ?_ (fun s27 y h4 => ?_)
 exact wk [0,1,2]
 refine aC (sq [0,1,2] (pm ?_))
 refine pm ?_
 refine rP rfl (bC rfl rfl) (nx ?_)
 refine bA h4 rfl (fun hc h4 => ?_) (fun hc h4 => ?_)
 refine sk (aC (aD (aC (bL (is := [0,1,2,3,4,5,6,7,8,9,10]) [0,0,3,7,15,0,0,96,224,480,1023] follows (by kernel_rfl) (tpm ?_)))))
 refine tpm ?_
 obtain ⟨v28,hv28,h4⟩ := bnd h4
 refine tP rfl (cO tok hv28 rfl rfl rfl rfl rfl rfl) (tfr tok ?_)
 refine tlr tok ?_
 refine tpm ?_
 refine tpm ?_
 obtain ⟨v29,hv29,h4⟩ := bnd h4
 refine tP rfl (cO tok hv29 rfl rfl rfl rfl rfl rfl) (tfr tok ?_)
 refine tlr tok ?_
 refine tP rfl (sA rfl rfl) (dW ?_)
 refine ⟨by kernel_rfl,?_⟩
 refine aI ?_
 refine bA h4 rfl (fun hc h4 => ?_) (fun hc h4 => ?_)
 refine sq [0] (pa (nx (aA ?_)))
 refine aS (aG ?_)
 cases h4
 refine dC ⟨_,rfl,fun e => ?_⟩
 subst e
 refine aS (aS ?_)
 replace h2 := fG h2
 refine aG ?_
 cases h2
 refine dC ⟨_,rfl,fun e => ?_⟩
 subst e
 refine aS ?_
 replace h0 := fG h0
 refine aG ?_
 cases h0
 exact r0t 2 rfl
 refine cU (bG (aI (sr [0,1,2] (pm ?_))))
 refine rP rfl (bM rfl rfl) (pa (bE ?_))
 refine bU ?_
 cases h4
 refine ⟨_,rfl,?_⟩
 exact wk [0,1,2]
 refine bI (bT ?_)
 cases h4
 refine bW ⟨_,rfl,fun e => ?_⟩
 subst e
 refine aM ?_
 refine bG (aI ?_)
 refine ⟨_,rfl,?_⟩
 exact wk [0,1,2]
 rintro v30 rfl
 replace h2 := hJ h2
 refine sr [0,1,2] (pm ?_)
 refine rP rfl (bM rfl rfl) (pa (bE ?_))
 refine bU ?_
 cases h2
 refine ⟨_,rfl,?_⟩
 exact wk [0,1,2]
 refine bI (bT ?_)
 cases h2
 refine bW ⟨_,rfl,fun e => ?_⟩
 subst e
 refine aM (aI ?_)
 refine ⟨_,rfl,?_⟩
 exact wk [0,1,2]
 rintro v31 rfl
 replace h0 := hJ h0
 refine sq [0,1,2,3] (pm ?_)
 refine rP rfl (aB tok rfl rfl rfl) ?_
 obtain ⟨v32,hv32,h0⟩ := bnd h0
 refine rS rfl (aK 3 (dZ hv32) rfl rfl rfl) (pa (nx (aA ?_)))
 cases h0
 exact r0t 2 rfl
theorem aC6 {p0 : bP} {r : Bool} (h0 : mP p0 = some r) : FnC Tryz.prog 46 [] [.ref (tZ p0)] [] (dB r) := by
 refine fi 35 tok Tryz.func46 ?_
 unfold mP at h0
 refine sq [0] (pa (nx (sq [0,1,2,3,4,5,6,7,8,9] ?_)))
 refine pmr ?_
 refine nr ?_
 refine fr tok ?_
 refine lr tok ?_
 obtain ⟨v1,hv1,h0⟩ := bnd h0
 refine rS rfl (aK 3 (xZ hv1) rfl rfl rfl) (rP rfl (aL (r := .tup _) rfl) (rP rfl (dU rfl rfl) (rP rfl (dU rfl rfl) (pa ?_))))
 refine pa (nx (sq [0,1,2,3,4,5,6,7,8,9,10,11,12,13,14,15,16,17,18,19,20,21,22] ?_))
 refine pm ?_
 refine pm ?_
 refine cT (u := 14) h0 rfl (fun hc h0 => ?_) (fun hc h0 => ?_)
 refine yN ?_
 refine nr1 ?_
 refine fr1 tok ?_
 refine lr1 tok ?_
 obtain ⟨v2,hv2,h0⟩ := bnd h0
 refine rs rfl (w1 rfl rfl rfl) rfl (aK 3 (nG hv2) rfl rfl rfl) (pkt ?_)
 refine pm ?_
 refine cT (u := 21) h0 rfl (fun hc h0 => ?_) (fun hc h0 => ?_)
 refine yN ?_
 refine nr1 ?_
 refine fr1 tok ?_
 refine lr1 tok ?_
 obtain ⟨v3,hv3,h0⟩ := bnd h0
 refine rs rfl (w1 rfl rfl rfl) rfl (aK 3 (uY hv3) rfl rfl rfl) (pkt ?_)
 refine pm ?_
 refine cT (u := 28) h0 rfl (fun hc h0 => ?_) (fun hc h0 => ?_)
 refine yN ?_
 refine nr1 ?_
 refine fr1 tok ?_
 refine lr1 tok ?_
 obtain ⟨v4,hv4,h0⟩ := bnd h0
 refine rs rfl (w1 rfl rfl rfl) rfl (aK 3 (dZ hv4) rfl rfl rfl) (pkt ?_)
 refine pa (nx (aA ?_))
 cases h0
 exact r0t 2 rfl
 iterate 5 refine k1 ?_
 refine pkf ?_
 refine pa (nx (aA ?_))
 cases h0
 exact r0t 2 rfl
 iterate 5 refine k1 ?_
 refine pkf ?_
 refine pm ?_
 iterate 5 refine k1 ?_
 refine pkf ?_
 refine pa (nx (aA ?_))
 cases h0
 exact r0t 2 rfl
 iterate 5 refine k1 ?_
 refine pkf ?_
 refine pm ?_
 iterate 5 refine k1 ?_
 refine pkf ?_
 refine pm ?_
 iterate 5 refine k1 ?_
 refine pkf ?_
 refine pa (nx (aA ?_))
 cases h0
 exact r0t 2 rfl
theorem xP {p0 : List Int} {r : Bool} (h0 : lQ p0 = some r) : FnC Tryz.prog 47 [] [dL cI p0] [] (dB r) := by
 refine fi 19 tok Tryz.func47 ?_
 unfold lQ at h0
 refine sq [0] (pa (nx ?_))
 obtain ⟨v7x,h1,h0⟩ := bnd h0
 refine cQ v7x (fun v7 => ⟨aF ((fun _ => .dead)) 0 (dL cI p0),lks [.no, .no, .no]⟩) ?_ ?_
 refine sq [0] (pa (nx (aD ?_)))
 refine aR (fun s4 => ⟨aF (aF ((fun _ => .dead)) 0 (dL cI p0)) 3 (dI s4),lks [.no, .no, .no]⟩) h1 ?_ (fun s4 y h2 => ?_)
 exact wk [0,1,2]
 refine aC (sq [0,1,2,3] (pm ?_))
 refine pm ?_
 refine rP rfl (aB tok rfl rfl rfl) (rP rfl (bC rfl rfl) (nx ?_))
 refine bA h2 rfl (fun hc h2 => ?_) (fun hc h2 => ?_)
 refine sk (aC (aD (sq [0,1,2,3,4,5] (pm ?_))))
 refine pm ?_
 obtain ⟨v5,hv5,h2⟩ := bnd h2
 refine rP rfl (cO tok hv5 rfl rfl rfl rfl rfl rfl) (lr tok ?_)
 obtain ⟨v6,hv6,h2⟩ := bnd h2
 refine rS rfl (aK 3 (dZ hv6) rfl rfl rfl) (rP rfl (bX rfl) (nx ?_))
 refine cF h2 rfl (fun hc h2 => ?_) (fun hc h2 => ?_)
 refine sq [0] (pa (nx (aA ?_)))
 refine aS (aG ?_)
 cases h2
 refine dC ⟨_,rfl,fun e => ?_⟩
 subst e
 refine aS ?_
 replace h0 := fG h0
 refine aG ?_
 cases h0
 exact r0t 2 rfl
 refine cU (bG (aI (sr [0,1,2] (pm ?_))))
 refine rP rfl (bM rfl rfl) (pa (bE ?_))
 refine bU ?_
 cases h2
 refine ⟨_,rfl,?_⟩
 exact wk [0,1,2]
 refine bI (bT ?_)
 cases h2
 refine bW ⟨_,rfl,fun e => ?_⟩
 subst e
 refine aM (aI ?_)
 refine ⟨_,rfl,?_⟩
 exact wk [0,1,2]
 rintro v7 rfl
 replace h0 := hJ h0
 refine sq [0,1,2,3] (pm ?_)
 refine rP rfl (aB tok rfl rfl rfl) ?_
 obtain ⟨v8,hv8,h0⟩ := bnd h0
 refine rS rfl (aK 3 (dZ hv8) rfl rfl rfl) (pa (nx (aA ?_)))
 cases h0
 exact r0t 2 rfl
theorem aCf {p0 : aV} {r : Bool} (h0 : mT p0 = some r) : FnC Tryz.prog 16 [] [.ref (mX p0)] [] (dB r) := by
 refine fi 81 tok Tryz.func16 ?_
 unfold mT at h0
 refine sq [0] (pa (nx (aC ?_)))
 obtain ⟨v6,h1,h0⟩ := bnd h0
 refine bR ⟨aF (aF ((fun _ => .dead)) 0 (.ref (mX p0))) 48 (dB v6),lks [.no, .no, .no]⟩ ?_ ?_
 refine bL (is := [0,1,2,3,4,5,6,7,8,9,10,11,12,13,14,15,16,17,18,19,20,21,22,23,24,25,26,27,28,29,30,31,32,33,34,35,36,37,38,39,40,41,42,43,44,45]) [0,1,3,7,15,31,63,127,255,511,1023,2047,4095,8191,16383,32767,65535,16383,147455,409599,933887,2097151,4194303,8388607,16777215,33554431,67108863,134217727,33554431,301989887,838860799,1912602623,4294967295,8589934591,17179869183,34359738367,68719476735,137438953471,274877906943,68719476735,618475290623,1717986918399,3917010173951,8796093022207,17592186044415,35184372088831] follows (by kernel_rfl) (aJn ?_)
 refine tnr ?_
 refine tfr tok ?_
 refine tlr tok ?_
 obtain ⟨v1,hv1,h1⟩ := bnd h1
 refine wG rfl w0 rfl (jD 3 (nG hv1) rfl rfl rfl) (tP rfl (bX rfl) (tpm ?_))
 refine xM (u := 9) h1 rfl (fun hc h1 => ?_) (fun hc h1 => ?_)
 iterate 5 refine k2 ?_
 refine aCd ?_
 refine tpm ?_
 iterate 9 refine k2 ?_
 refine aCd ?_
 refine tpm ?_
 iterate 9 refine k2 ?_
 refine aCd ?_
 refine tpm ?_
 iterate 9 refine k2 ?_
 refine aCd ?_
 refine dW ?_
 refine ⟨by kernel_rfl,?_⟩
 refine aI ?_
 cases h1
 exact wk [0,1,2]
 refine aAb ?_
 refine aFy ?_
 refine aD4 tok ?_
 obtain ⟨v2,hv2,h1⟩ := bnd h1
 refine wG rfl (w1 rfl rfl rfl) rfl (jD 3 (qZ (aCj hv2)) rfl rfl rfl) (pM rfl (w1 rfl rfl rfl) rfl (bX rfl) (aHa ?_))
 refine tpm ?_
 refine xM (u := 16) h1 rfl (fun hc h1 => ?_) (fun hc h1 => ?_)
 iterate 9 refine k2 ?_
 refine aCd ?_
 refine tpm ?_
 iterate 9 refine k2 ?_
 refine aCd ?_
 refine tpm ?_
 iterate 9 refine k2 ?_
 refine aCd ?_
 refine dW ?_
 refine ⟨by kernel_rfl,?_⟩
 refine aI ?_
 cases h1
 exact wk [0,1,2]
 refine aAb ?_
 refine aFy ?_
 refine aD4 tok ?_
 refine aAb ?_
 refine aFy ?_
 refine aD4 tok ?_
 refine aG5 tok ?_
 obtain ⟨v3,hv3,h1⟩ := bnd h1
 refine wG rfl (w1 rfl rfl rfl) rfl (jD 3 (qZ (nU hv3)) rfl rfl rfl) (pM rfl (w1 rfl rfl rfl) rfl (bX rfl) (aHa ?_))
 refine tpm ?_
 refine xM (u := 27) h1 rfl (fun hc h1 => ?_) (fun hc h1 => ?_)
 iterate 9 refine k2 ?_
 refine aCd ?_
 refine tpm ?_
 iterate 9 refine k2 ?_
 refine aCd ?_
 refine dW ?_
 refine ⟨by kernel_rfl,?_⟩
 refine aI ?_
 cases h1
 exact wk [0,1,2]
 refine aAb ?_
 refine aFy ?_
 refine aD4 tok ?_
 refine aAb ?_
 refine aFy ?_
 refine aD4 tok ?_
 refine aG5 tok ?_
 obtain ⟨v4,hv4,h1⟩ := bnd h1
 refine wG rfl (w1 rfl rfl rfl) rfl (jD 3 (qZ (nU hv4)) rfl rfl rfl) (pM rfl (w1 rfl rfl rfl) rfl (bX rfl) (aHa ?_))
 refine tpm ?_
 refine xM (u := 38) h1 rfl (fun hc h1 => ?_) (fun hc h1 => ?_)
 iterate 9 refine k2 ?_
 refine aCd ?_
 refine dW ?_
 refine ⟨by kernel_rfl,?_⟩
 refine aI ?_
 cases h1
 exact wk [0,1,2]
 refine aAb ?_
 refine aFy ?_
 refine aD4 tok ?_
 refine aAb ?_
 refine aFy ?_
 refine aD4 tok ?_
 refine aG5 tok ?_
 obtain ⟨v5,hv5,h1⟩ := bnd h1
 refine wG rfl (w1 rfl rfl rfl) rfl (jD 3 (qZ (nU hv5)) rfl rfl rfl) (pM rfl (w1 rfl rfl rfl) rfl (bX rfl) (aHa ?_))
 refine dW ?_
 refine ⟨by kernel_rfl,?_⟩
 refine aI ?_
 cases h1
 exact wk [0,1,2]
 refine cF h0 rfl (fun hc h0 => ?_) (fun hc h0 => ?_)
 refine sq [0] (pa (nx (aA (aG ?_))))
 cases h0
 exact r0t 2 rfl
 refine sk (sq [0,1,2,3,4,5,6,7,8,9,10,11,12,13,14,15,16,17,18,19,20,21,22,23,24,25,26,27,28,29,30,31,32] (pmr ?_))
 refine nr ?_
 refine fr tok ?_
 refine lr tok ?_
 obtain ⟨v7,hv7,h0⟩ := bnd h0
 refine rS rfl (aK 3 (pX hv7) rfl rfl rfl) (pm ?_)
 refine cT (u := 54) h0 rfl (fun hc h0 => ?_) (fun hc h0 => ?_)
 refine yN ?_
 refine nr1 ?_
 refine fr1 tok ?_
 refine lr1 tok ?_
 obtain ⟨v8,hv8,h0⟩ := bnd h0
 refine rs rfl (w1 rfl rfl rfl) rfl (aK 3 (dZ hv8) rfl rfl rfl) (pkt ?_)
 refine pm ?_
 refine cT (u := 61) h0 rfl (fun hc h0 => ?_) (fun hc h0 => ?_)
 refine yN ?_
 refine nr1 ?_
 refine fr1 tok ?_
 obtain ⟨v9,hv9,h0⟩ := bnd h0
 refine rs rfl (w1 rfl rfl rfl) rfl (aK 3 (qZ (aC6 hv9)) rfl rfl rfl) (pkt ?_)
 refine pm ?_
 refine cT (u := 67) h0 rfl (fun hc h0 => ?_) (fun hc h0 => ?_)
 refine yN ?_
 refine nr1 ?_
 refine fr1 tok ?_
 refine lr1 tok ?_
 obtain ⟨v10,hv10,h0⟩ := bnd h0
 refine rs rfl (w1 rfl rfl rfl) rfl (aK 3 (xP hv10) rfl rfl rfl) (pkt ?_)
 refine pm ?_
 refine cT (u := 74) h0 rfl (fun hc h0 => ?_) (fun hc h0 => ?_)
 refine yN ?_
 refine nr1 ?_
 refine fr1 tok ?_
 refine lr1 tok ?_
 obtain ⟨v11,hv11,h0⟩ := bnd h0
 refine rs rfl (w1 rfl rfl rfl) rfl (aK 3 (dZ hv11) rfl rfl rfl) (pkt ?_)
 refine pa (nx (aA ?_))
 cases h0
 exact r0t 2 rfl
 iterate 5 refine k1 ?_
 refine pkf ?_
 refine pa (nx (aA ?_))
 cases h0
 exact r0t 2 rfl
 iterate 5 refine k1 ?_
 refine pkf ?_
 refine pm ?_
 iterate 5 refine k1 ?_
 refine pkf ?_
 refine pa (nx (aA ?_))
 cases h0
 exact r0t 2 rfl
 iterate 4 refine k1 ?_
 refine pkf ?_
 refine pm ?_
 iterate 5 refine k1 ?_
 refine pkf ?_
 refine pm ?_
 iterate 5 refine k1 ?_
 refine pkf ?_
 refine pa (nx (aA ?_))
 cases h0
 exact r0t 2 rfl
 iterate 5 refine k1 ?_
 refine pkf ?_
 refine pm ?_
 iterate 4 refine k1 ?_
 refine pkf ?_
 refine pm ?_
 iterate 5 refine k1 ?_
 refine pkf ?_
 refine pm ?_
 iterate 5 refine k1 ?_
 refine pkf ?_
 refine pa (nx (aA ?_))
 cases h0
 exact r0t 2 rfl
theorem aBs {p0 : List Int} {r : List Int} (h0 : lJ p0 = some r) : FnC Tryz.prog 48 [] [dL cI p0] [.live [⟨2,1, .data (List.map cI r)⟩]] (.own 0 0 r.length) := by
 refine fi 6 tok Tryz.func48 ?_
 unfold lJ at h0
 refine sq [0] (pa (nx (sq [0,1,2,3] ?_)))
 refine rS rfl (lM 3 tok rfl rfl rfl rfl) (pm ?_)
 obtain ⟨hq1,h0⟩ := cJ h0
 refine rw1 rfl w0 rfl (lO tok hq1 rfl rfl rfl rfl rfl rfl rfl rfl rfl rfl rfl rfl (fun _ => rfl)) (rP rfl (aQ (r := .own _ _ _) rfl) (nx (aA ?_)))
 cases h0
 exact lT (rs := [.tmp 2]) [3] rfl
theorem aAj {p0 : List Int} {r : List Int} (h0 : iH p0 = some r) : FnC Tryz.prog 17 [] [dL cI p0] [.live [⟨2,1, .data (List.map cI r)⟩]] (.own 0 0 r.length) := by
 refine fi 48 tok Tryz.func17 ?_
 unfold iH at h0
 refine sq [0] (pa (nx (sq [0,1] ?_)))
 refine rS rfl (lM 3 tok rfl rfl rfl rfl) (rP rfl (aQ (r := .own _ _ _) rfl) (nx ?_))
 obtain ⟨v35,h1,h0⟩ := bnd h0
 refine bR ⟨aF ((fun _ => .dead)) 3 (.own 3 0 (v35).length),lks [.no, .no, .no, .live [⟨2,1, .data (List.map cI v35)⟩]]⟩ ?_ ?_
 refine sq [0] (pa (nx (aD ?_)))
 refine aR (fun s18 => ⟨aF (aF (aF ((fun _ => .dead)) 0 (dL cI p0)) 3 (.own 3 0 (s18.2).length)) 4 (dI s18.1),lks [.no, .no, .no, .live [⟨2,1, .data (List.map cI s18.2)⟩]]⟩) h1 ?_ (fun s18 y h2 => ?_)
 exact wk [0,1,2,3]
 refine aC (sq [0,1,2,3] (pm ?_))
 refine pm ?_
 refine rP rfl (aB tok rfl rfl rfl) (rP rfl (bC rfl rfl) (nx ?_))
 refine bA h2 rfl (fun hc h2 => ?_) (fun hc h2 => ?_)
 refine sk ?_
 obtain ⟨v34,h3,h2⟩ := bnd h2
 refine bR ⟨aF (aF (aF ((fun _ => .dead)) 0 (dL cI p0)) 3 (.own 3 0 (v34).length)) 4 (dI s18.1),lks [.no, .no, .no, .live [⟨2,1, .data (List.map cI v34)⟩]]⟩ ?_ ?_
 refine aD (sq [0,1,2] (rP rfl (aL (r := .own _ _ _) rfl) (rL rfl (nL tok rfl rfl rfl rfl rfl) (pa (nx ?_)))))
 obtain ⟨v27,h4,h3⟩ := bnd h3
 refine bR ⟨aF (aF (aF (aF ((fun _ => .dead)) 0 (dL cI p0)) 3 (.own 3 0 (s18.2).length)) 4 (dI s18.1)) 5 (dI v27),lks [.no, .no, .no, .live [⟨2,1, .data (List.map cI s18.2)⟩]]⟩ ?_ ?_
 refine aD ?_
 refine aR (fun s23 => ⟨aF (aF (aF (aF ((fun _ => .dead)) 0 (dL cI p0)) 3 (.own 3 0 (s18.2).length)) 4 (dI s18.1)) 5 (dI s23),lks [.no, .no, .no, .live [⟨2,1, .data (List.map cI s18.2)⟩]]⟩) h4 ?_ (fun s23 y h5 => ?_)
 exact wk [0,1,2,3]
 refine aC ?_
 obtain ⟨v26,h6,h5⟩ := bnd h5
 refine bR ⟨aF (aF (aF (aF (aF ((fun _ => .dead)) 0 (dL cI p0)) 3 (.own 3 0 (s18.2).length)) 4 (dI s18.1)) 5 (dI s23)) 29 (dB v26),lks [.no, .no, .no, .live [⟨2,1, .data (List.map cI s18.2)⟩]]⟩ ?_ ?_
 refine bL (is := [0,1,2,3,4,5,6,7,8,9,10,11,12,13]) [0,1,3,7,7,23,63,127,7,7,775,1799,4095,8191] follows (by kernel_rfl) (tpm ?_)
 refine tP rfl (kV rfl rfl) (tpm ?_)
 refine aJe (u := 18) h6 rfl (fun hc h6 => ?_) (fun hc h6 => ?_)
 refine pM rfl (w1 rfl rfl rfl) rfl (aL (r := .own _ _ _) rfl) (aF9 ?_)
 refine pM rfl (w1 rfl rfl rfl) rfl (iB rfl rfl) ?_
 obtain ⟨v24,hv24,h6⟩ := bnd h6
 refine zA rfl (w1 rfl rfl rfl) rfl (mJ tok hv24 rfl rfl rfl rfl rfl rfl rfl rfl) rfl rfl rfl (zA rfl (w1 rfl rfl rfl) rfl (aFh tok (eI hv24).2.1 rfl rfl rfl rfl rfl rfl) rfl rfl rfl (aF9 ?_))
 refine aF9 ?_
 obtain ⟨v25,hv25,h6⟩ := bnd h6
 refine pM rfl (w1 rfl rfl rfl) rfl (cO tok hv25 rfl rfl rfl rfl rfl rfl) (aG5 tok ?_)
 refine pM rfl (w1 rfl rfl rfl) rfl (kV rfl rfl) (aCd ?_)
 refine dW ?_
 refine ⟨by kernel_rfl,?_⟩
 refine aI ?_
 cases h6
 exact wk [0,1,2,3]
 iterate 10 refine k2 ?_
 refine aHa ?_
 refine dW ?_
 refine ⟨by kernel_rfl,?_⟩
 refine aI ?_
 cases h6
 exact wk [0,1,2,3]
 refine cF h5 rfl (fun hc h5 => ?_) (fun hc h5 => ?_)
 refine sk (aD (sr [0,1,2] (pm ?_)))
 refine rP rfl (iB rfl rfl) (pa (bE ?_))
 refine bG (bU ?_)
 cases h5
 refine ⟨_,rfl,?_⟩
 exact wk [0,1,2,3]
 refine bI (bT ?_)
 cases h5
 refine bW ⟨_,rfl,fun e => ?_⟩
 subst e
 refine aM (aI ?_)
 exact wk [0,1,2,3]
 refine aC (nP (aKj (k := 3) (t' := aF (aF (aF (aF ((fun _ => .dead)) 0 (dL cI p0)) 3 (dL cI s18.2)) 4 (dI s18.1)) 5 (dI v27)) rfl (FzL.nil)) (bL (is := [0,1,2,4,5,6,7,3,8,9,10]) [0,0,3,7,0,0,48,112,240,511,1023] follows (by kernel_rfl) (tpm ?_)))
 refine tpm ?_
 obtain ⟨hq28,h3⟩ := cJ h3
 refine tP rfl (rC tok hq28 rfl (.inl ⟨rfl,rfl⟩) (.inr ⟨_,_,rfl,rfl⟩) rfl rfl rfl (fun _ => rfl)) (tpm ?_)
 refine tpm ?_
 obtain ⟨v29,hv29,h3⟩ := bnd h3
 refine tP rfl (cO tok hv29 rfl rfl rfl rfl rfl rfl) (tlr tok ?_)
 obtain ⟨v30,hv30,h3⟩ := bnd h3
 refine wG rfl w0 rfl (jD 5 (aBs hv30) rfl rfl rfl) (aKl rfl w0 rfl rfl (fun hx hk => aHv 4 tok cI [v29] rfl rfl rfl (by repeat (first | exact Els.nil _ | apply Els.cons (cs := [.d _]) rfl rfl rfl | apply Els.cons (cs := _ :: _) rfl rfl rfl)) rfl rfl rfl (by repeat (first | exact eX.nil | (apply eX.cons; (repeat (first | exact mE.nil | apply mE.cons))))) rfl hk) ?_)
 obtain ⟨hq31,h3⟩ := cJ h3
 refine aHx rfl w0 rfl (lO tok hq31 rfl rfl rfl rfl rfl rfl rfl rfl rfl rfl rfl rfl (fun _ => rfl)) (tP rfl (aQ (r := .own _ _ _) rfl) (dW ?_))
 refine ⟨by kernel_rfl,?_⟩
 refine aI (sr [0,1,2,3,4,5] (rP rfl (aL (r := .own _ _ _) rfl) (pm ?_)))
 refine pm ?_
 obtain ⟨hq32,h3⟩ := cJ h3
 refine rP rfl (rC tok hq32 rfl (.inr ⟨_,_,rfl,rfl⟩) (.inl ⟨rfl,rfl⟩) rfl rfl rfl (fun _ => rfl)) ?_
 obtain ⟨hq33,h3⟩ := cJ h3
 refine rw1 rfl w0 rfl (lO tok hq33 rfl rfl rfl rfl rfl rfl rfl rfl rfl rfl rfl rfl (fun _ => rfl)) (rP rfl (aQ (r := .own _ _ _) rfl) (bE (bG (aI ?_))))
 cases h3
 exact wk [0,1,2,5]
 refine sr [0,1,2] (pm ?_)
 refine rP rfl (bM rfl rfl) (pa (bE ?_))
 refine bU ?_
 cases h2
 refine ⟨_,rfl,?_⟩
 exact wk [0,1,2,3]
 refine bI (bT ?_)
 cases h2
 refine bW ⟨_,rfl,fun e => ?_⟩
 subst e
 refine aM (aI ?_)
 exact wk [0,1,2,3]
 refine sq [0,1] (rP rfl (aL (r := .own _ _ _) rfl) (rP rfl (aQ (r := .own _ _ _) rfl) (nx (aA ?_))))
 cases h0
 exact lT (rs := [.tmp 2]) [3] rfl
theorem mZ {p0 : Int} {r : ByteArray} (h0 : gL p0 = some r) : FnC Tryz.prog 20 [] [dI p0] [] (dS r) := by
 refine fi 34 tok Tryz.func20 ?_
 unfold gL at h0
 refine sq [0] (pa (nx (sq [0,1] ?_)))
 refine rS rfl (lM 3 tok rfl rfl rfl rfl) (rP rfl (aQ (r := .own _ _ _) rfl) (nx ?_))
 obtain ⟨v11,h1,h0⟩ := bnd h0
 refine bR ⟨aF (aF ((fun _ => .dead)) 0 (dI p0)) 3 (.own 3 0 (v11).length),lks [.no, .no, .no, .live [⟨5,1, .data (List.map cU8 v11)⟩]]⟩ ?_ ?_
 refine sq [0,1] (pm ?_)
 refine pa (nx (aD ?_))
 refine aR (fun s6 => ⟨aF (aF (aF ((fun _ => .dead)) 0 (dI p0)) 3 (.own 3 0 (s6.2).length)) 4 (dI s6.1),lks [.no, .no, .no, .live [⟨5,1, .data (List.map cU8 s6.2)⟩]]⟩) h1 ?_ (fun s6 y h2 => ?_)
 exact wk [0,1,2,3]
 refine aC (sq [0,1] (pm ?_))
 refine rP rfl (dD rfl rfl) (nx ?_)
 refine bA h2 rfl (fun hc h2 => ?_) (fun hc h2 => ?_)
 refine sk (aC (aD (sq [0,1,2] (pm ?_))))
 refine rP rfl (rH rfl rfl (by decide)) (pa (nx ?_))
 obtain ⟨v8,h3,h2⟩ := bnd h2
 refine bR ⟨aF (aF (aF (aF ((fun _ => .dead)) 0 (dI p0)) 3 (.own 3 0 (s6.2).length)) 4 (dI s6.1)) 5 (dI v8),lks [.no, .no, .no, .live [⟨5,1, .data (List.map cU8 s6.2)⟩]]⟩ ?_ ?_
 refine sq [0,1] (pm ?_)
 refine rP rfl (bC rfl rfl) (nx ?_)
 refine bA h3 rfl (fun hc h3 => ?_) (fun hc h3 => ?_)
 refine sr [0,1,2] (pm ?_)
 refine rP rfl (aFf rfl) (pa (nx ?_))
 cases h3
 exact wk [0,1,2,3]
 refine sk ?_
 cases h3
 exact wk [0,1,2,3]
 refine sr [0,1,2,3,4,5,6] (pm ?_)
 refine rP rfl (bM rfl rfl) (rP rfl (aH6 tok rfl rfl rfl rfl rfl) (rS rfl (aAv 4 tok cU8 [IntKind.u8.wrap (w64 (48 + v8))] rfl rfl rfl (by repeat (first | exact Els.nil _ | apply Els.cons (cs := [.d _]) rfl rfl rfl | apply Els.cons (cs := _ :: _) rfl rfl rfl)) rfl rfl rfl (by repeat (first | exact eX.nil | (apply eX.cons; (repeat (first | exact mE.nil | apply mE.cons))))) rfl rfl) (rP rfl (aL (r := .own _ _ _) rfl) ?_)))
 obtain ⟨hq9,h2⟩ := cJ h2
 refine rw1 rfl w0 rfl (aJh tok hq9 rfl rfl rfl rfl rfl rfl rfl rfl rfl rfl rfl rfl rfl rfl rfl) (rP rfl (aQ (r := .own _ _ _) rfl) (bE (bG (aI (sr [0,1,2] (pm ?_))))))
 refine rP rfl (aAp rfl rfl (by decide)) (pa (bE ?_))
 refine bU ?_
 cases h2
 refine ⟨_,rfl,?_⟩
 exact wk [0,1,2,4]
 refine bI (bT ?_)
 cases h2
 refine bW ⟨_,rfl,fun e => ?_⟩
 subst e
 refine aM (aI ?_)
 exact wk [0,1,2,3]
 refine aC (sq [0,1,2] (rP rfl (aL (r := .own _ _ _) rfl) (rL rfl (nL tok rfl rfl rfl rfl rfl) (rP rfl (pC rfl rfl) (nx ?_)))))
 refine bA h0 rfl (fun hc h0 => ?_) (fun hc h0 => ?_)
 refine sq [0] (pa (nx (aA (aG ?_))))
 cases h0
 exact r0t 2 rfl
 refine sk (aC (sq [0,1] (pm ?_)))
 refine rP rfl (bC rfl rfl) (nx ?_)
 refine bA h0 rfl (fun hc h0 => ?_) (fun hc h0 => ?_)
 refine sq [0,1,2,3] (rP rfl (aL (r := .own _ _ _) rfl) (rS rfl (aGi tok rfl rfl rfl rfl rfl rfl rfl rfl rfl rfl) ?_))
 obtain ⟨hq12,h0⟩ := cJ h0
 refine rP rfl (jL rfl rfl hq12) (pa (nx (aA (aG ?_))))
 cases h0
 exact r0t 2 rfl
 refine sk (sq [0,1,2] (rP rfl (aL (r := .own _ _ _) rfl) (rS rfl (aGi tok rfl rfl rfl rfl rfl rfl rfl rfl rfl rfl) (pa (nx (aA ?_))))))
 cases h0
 exact r0t 2 rfl
theorem yV {p0 : List Int} {r : ByteArray} (h0 : iI p0 = some r) : FnC Tryz.prog 18 [] [dL cI p0] [] (dS r) := by
 refine fi 23 tok Tryz.func18 ?_
 unfold iI at h0
 refine sq [0] (pa (nx (sq [0] ?_)))
 refine pa (nx ?_)
 obtain ⟨v13,h1,h0⟩ := bnd h0
 refine bR ⟨aF ((fun _ => .dead)) 3 (dS v13),lks [.no, .no, .no]⟩ ?_ ?_
 refine sq [0] (pa (nx (aD ?_)))
 refine aR (fun s7 => ⟨aF (aF (aF ((fun _ => .dead)) 0 (dL cI p0)) 3 (dS s7.1)) 4 (dI s7.2),lks [.no, .no, .no]⟩) h1 ?_ (fun s7 y h2 => ?_)
 exact wk [0,1,2]
 refine aC (sq [0,1,2,3] (pm ?_))
 refine pm ?_
 refine rP rfl (aB tok rfl rfl rfl) (rP rfl (bC rfl rfl) (nx ?_))
 refine bA h2 rfl (fun hc h2 => ?_) (fun hc h2 => ?_)
 refine sk (aC (aD ?_))
 obtain ⟨v9,h3,h2⟩ := bnd h2
 refine bR ⟨aF (aF (aF ((fun _ => .dead)) 0 (dL cI p0)) 3 (dS v9)) 4 (dI s7.2),lks [.no, .no, .no]⟩ ?_ ?_
 refine sq [0,1] (pm ?_)
 refine rP rfl (kV rfl rfl) (nx ?_)
 refine bA h3 rfl (fun hc h3 => ?_) (fun hc h3 => ?_)
 refine sr [0,1,2] (pm ?_)
 obtain ⟨hq8,h3⟩ := cJ h3
 refine rP rfl (jL rfl rfl hq8) (pa (nx ?_))
 cases h3
 exact wk [0,1,2]
 refine sk ?_
 cases h3
 exact wk [0,1,2]
 refine sr [0,1,2,3,4,5,6,7] ?_
 iterate 3 refine pm ?_
 obtain ⟨v10,hv10,h2⟩ := bnd h2
 refine rP rfl (cO tok hv10 rfl rfl rfl rfl rfl rfl) (lr tok ?_)
 obtain ⟨v11,hv11,h2⟩ := bnd h2
 refine rS rfl (aK 3 (mZ hv11) rfl rfl rfl) ?_
 obtain ⟨hq12,h2⟩ := cJ h2
 refine rP rfl (jL rfl rfl hq12) (pa (bE ?_))
 refine bG (aI (sr [0,1,2] (pm ?_)))
 refine rP rfl (bM rfl rfl) (pa (bE ?_))
 refine bU ?_
 cases h2
 refine ⟨_,rfl,?_⟩
 exact wk [0,1,2]
 refine bI (bT ?_)
 cases h2
 refine bW ⟨_,rfl,fun e => ?_⟩
 subst e
 refine aM (aI ?_)
 exact wk [0,1,2]
 refine sq [0,1] (pm ?_)
 refine pa (nx (aA ?_))
 cases h0
 exact r0t 2 rfl
theorem aB1 {p0 : List Int} {p1 : Int} {r : List Int} (h0 : jR p0 p1 = some r) : FnC Tryz.prog 49 [] [dL cI p0,(dI p1)] [.live [⟨2,1, .data (List.map cI r)⟩]] (.own 0 0 r.length) := by
 refine fi 49 tok Tryz.func49 ?_
 unfold jR at h0
 refine sq [0] (pa (nx (sq [0,1] ?_)))
 refine rS rfl (lM 3 tok rfl rfl rfl rfl) (rP rfl (aQ (r := .own _ _ _) rfl) (nx (sq [0] (pa (nx ?_)))))
 obtain ⟨v17,h1,h0⟩ := bnd h0
 refine bR ⟨aF (aF (aF ((fun _ => .dead)) 1 (dI p1)) 5 (.own 3 0 (v17.2).length)) 6 (dB v17.1),lks [.no, .no, .no, .live [⟨2,1, .data (List.map cI v17.2)⟩]]⟩ ?_ ?_
 refine sq [0] (pa (nx (aD ?_)))
 refine aR (fun s9 => ⟨aF (aF (aF (aF (aF ((fun _ => .dead)) 0 (dL cI p0)) 1 (dI p1)) 5 (.own 3 0 (s9.2.2).length)) 6 (dB s9.1)) 7 (dI s9.2.1),lks [.no, .no, .no, .live [⟨2,1, .data (List.map cI s9.2.2)⟩]]⟩) h1 ?_ (fun s9 y h2 => ?_)
 exact wk [0,1,2,3]
 refine aC (sq [0,1,2,3] (pm ?_))
 refine pm ?_
 refine rP rfl (aB tok rfl rfl rfl) (rP rfl (bC rfl rfl) (nx ?_))
 refine bA h2 rfl (fun hc h2 => ?_) (fun hc h2 => ?_)
 refine sk (aC (aD ?_))
 obtain ⟨v14,h3,h2⟩ := bnd h2
 refine bR ⟨aF (aF (aF (aF (aF ((fun _ => .dead)) 0 (dL cI p0)) 1 (dI p1)) 5 (.own 3 0 (v14.2).length)) 6 (dB v14.1)) 7 (dI s9.2.1),lks [.no, .no, .no, .live [⟨2,1, .data (List.map cI v14.2)⟩]]⟩ ?_ ?_
 obtain ⟨v11,h4,h3⟩ := bnd h3
 refine bR ⟨aF (aF (aF (aF (aF (aF ((fun _ => .dead)) 0 (dL cI p0)) 1 (dI p1)) 5 (.own 3 0 (s9.2.2).length)) 6 (dB s9.1)) 7 (dI s9.2.1)) 24 (dB v11),lks [.no, .no, .no, .live [⟨2,1, .data (List.map cI s9.2.2)⟩]]⟩ ?_ ?_
 refine sr [0,1,2,3,4,5,6,7,8,9] (pm ?_)
 refine rP rfl (bX rfl) (pm ?_)
 refine cT (u := 17) h4 rfl (fun hc h4 => ?_) (fun hc h4 => ?_)
 refine pm1 ?_
 refine pm1 ?_
 obtain ⟨v10,hv10,h4⟩ := bnd h4
 refine rp rfl (w1 rfl rfl rfl) rfl (cO tok hv10 rfl rfl rfl rfl rfl rfl) (lr1 tok ?_)
 refine pm1 ?_
 refine rp rfl (w1 rfl rfl rfl) rfl (nK rfl rfl) (pkt (nx ?_))
 cases h4
 exact wk [0,1,2,3]
 iterate 6 refine k1 ?_
 refine pkf (nx ?_)
 cases h4
 exact wk [0,1,2,3]
 refine cF h3 rfl (fun hc h3 => ?_) (fun hc h3 => ?_)
 refine sq [0] (pa (nx (sq [0,1,2,3,4,5] ?_)))
 refine pm ?_
 refine pm ?_
 obtain ⟨v12,hv12,h3⟩ := bnd h3
 refine rP rfl (cO tok hv12 rfl rfl rfl rfl rfl rfl) (lr tok ?_)
 refine pm ?_
 refine rP rfl (kV rfl rfl) (nx ?_)
 refine bA h3 rfl (fun hc h3 => ?_) (fun hc h3 => ?_)
 refine sr [0,1,2,3,4] (rP rfl (aL (r := .own _ _ _) rfl) (pm ?_))
 refine rS rfl (nJ tok cI [p1] rfl rfl rfl (by repeat (first | exact Els.nil _ | apply Els.cons (cs := [.d _]) rfl rfl rfl | apply Els.cons (cs := _ :: _) rfl rfl rfl)) rfl rfl rfl (by repeat (first | exact eX.nil | (apply eX.cons; (repeat (first | exact mE.nil | apply mE.cons))))) rfl) ?_
 obtain ⟨hq13,h3⟩ := cJ h3
 refine rw1 rfl w0 rfl (lO tok hq13 rfl rfl rfl rfl rfl rfl rfl rfl rfl rfl rfl rfl (fun _ => rfl)) (rP rfl (aQ (r := .own _ _ _) rfl) (nx ?_))
 cases h3
 exact wk [0,1,2,3]
 refine sk ?_
 cases h3
 exact wk [0,1,2,3]
 refine sk ?_
 cases h3
 exact wk [0,1,2,3]
 refine sr [0,1,2,3,4,5,6,7] (rP rfl (aL (r := .own _ _ _) rfl) (pm ?_))
 refine pm ?_
 obtain ⟨v15,hv15,h2⟩ := bnd h2
 refine rP rfl (cO tok hv15 rfl rfl rfl rfl rfl rfl) (lr tok ?_)
 refine rS rfl (nJ tok cI [v15] rfl rfl rfl (by repeat (first | exact Els.nil _ | apply Els.cons (cs := [.d _]) rfl rfl rfl | apply Els.cons (cs := _ :: _) rfl rfl rfl)) rfl rfl rfl (by repeat (first | exact eX.nil | (apply eX.cons; (repeat (first | exact mE.nil | apply mE.cons))))) rfl) ?_
 obtain ⟨hq16,h2⟩ := cJ h2
 refine rw1 rfl w0 rfl (lO tok hq16 rfl rfl rfl rfl rfl rfl rfl rfl rfl rfl rfl rfl (fun _ => rfl)) (rP rfl (aQ (r := .own _ _ _) rfl) (bE (bG (aI (sr [0,1,2] (pm ?_))))))
 refine rP rfl (bM rfl rfl) (pa (bE ?_))
 refine bU ?_
 cases h2
 refine ⟨_,rfl,?_⟩
 exact wk [0,1,2,3]
 refine bI (bT ?_)
 cases h2
 refine bW ⟨_,rfl,fun e => ?_⟩
 subst e
 refine aM (aI ?_)
 exact wk [0,1,2,3]
 obtain ⟨v19,h1,h0⟩ := bnd h0
 refine bR ⟨aF ((fun _ => .dead)) 5 (.own 3 0 (v19).length),lks [.no, .no, .no, .live [⟨2,1, .data (List.map cI v19)⟩]]⟩ ?_ ?_
 refine sq [0,1] (pm ?_)
 refine rP rfl (bX rfl) (nx ?_)
 refine cF h1 rfl (fun hc h1 => ?_) (fun hc h1 => ?_)
 refine sr [0,1,2,3,4] (rP rfl (aL (r := .own _ _ _) rfl) (pm ?_))
 refine rS rfl (nJ tok cI [p1] rfl rfl rfl (by repeat (first | exact Els.nil _ | apply Els.cons (cs := [.d _]) rfl rfl rfl | apply Els.cons (cs := _ :: _) rfl rfl rfl)) rfl rfl rfl (by repeat (first | exact eX.nil | (apply eX.cons; (repeat (first | exact mE.nil | apply mE.cons))))) rfl) ?_
 obtain ⟨hq18,h1⟩ := cJ h1
 refine rw1 rfl w0 rfl (lO tok hq18 rfl rfl rfl rfl rfl rfl rfl rfl rfl rfl rfl rfl (fun _ => rfl)) (rP rfl (aQ (r := .own _ _ _) rfl) (nx ?_))
 cases h1
 exact wk [0,1,2,3]
 refine sk ?_
 cases h1
 exact wk [0,1,2,3]
 refine sq [0,1] (rP rfl (aL (r := .own _ _ _) rfl) (rP rfl (aQ (r := .own _ _ _) rfl) (nx (aA ?_))))
 cases h0
 exact lT (rs := [.tmp 4]) [3] rfl
theorem vF {p0 : List Int} {r : List Int × Int} (h0 : iF p0 = some r) : FnC Tryz.prog 19 [] [dL cI p0] [.live [⟨2,1, .data (List.map cI r.1)⟩]] (.tup [.own 0 0 r.1.length,(dI r.2)]) := by
 refine fi 23 tok Tryz.func19 ?_
 unfold iF at h0
 refine sq [0,1] (pa ?_)
 refine pa (nx (aC (sq [0,1,2] ?_)))
 refine pm ?_
 obtain ⟨v1,hv1,h0⟩ := bnd h0
 refine rS rfl (aK 3 (xP hv1) rfl rfl rfl) (rP rfl (bX rfl) (nx ?_))
 refine cF h0 rfl (fun hc h0 => ?_) (fun hc h0 => ?_)
 refine sq [0,1] (pa ?_)
 refine pa (nx ?_)
 refine nP (lF 3 rfl 2 1 (d := 2) rfl) (aA (aG ?_))
 cases h0
 exact lT (rs := [.tmp 2, .tmp 3]) [3] rfl
 refine sk (sq [0,1] (rS rfl (lM 3 tok rfl rfl rfl rfl) (rP rfl (aQ (r := .own _ _ _) rfl) (nx ?_))))
 obtain ⟨v8,h1,h0⟩ := bnd h0
 refine bR ⟨aF ((fun _ => .dead)) 4 (.own 3 0 (v8).length),lks [.no, .no, .no, .live [⟨2,1, .data (List.map cI v8)⟩]]⟩ ?_ ?_
 refine sq [0] (pa (nx (aD ?_)))
 refine aR (fun s5 => ⟨aF (aF (aF ((fun _ => .dead)) 0 (dL cI p0)) 4 (.own 3 0 (s5.2).length)) 5 (dI s5.1),lks [.no, .no, .no, .live [⟨2,1, .data (List.map cI s5.2)⟩]]⟩) h1 ?_ (fun s5 y h2 => ?_)
 exact wk [0,1,2,3]
 refine aC (sq [0,1,2,3] (pm ?_))
 refine pm ?_
 refine rP rfl (aB tok rfl rfl rfl) (rP rfl (bC rfl rfl) (nx ?_))
 refine bA h2 rfl (fun hc h2 => ?_) (fun hc h2 => ?_)
 refine sk (aC (aD (sr [0,1,2,3,4,5,6] (rP rfl (aL (r := .own _ _ _) rfl) (pm ?_)))))
 refine pm ?_
 obtain ⟨v6,hv6,h2⟩ := bnd h2
 refine rP rfl (cO tok hv6 rfl rfl rfl rfl rfl rfl) (lr tok ?_)
 obtain ⟨v7,hv7,h2⟩ := bnd h2
 refine rS rfl (gZ 4 (aB1 hv7) rfl rfl) (rP rfl (aQ (r := .own _ _ _) rfl) (bE (bG (aI (sr [0,1,2] (pm ?_))))))
 refine rP rfl (bM rfl rfl) (pa (bE ?_))
 refine bU ?_
 cases h2
 refine ⟨_,rfl,?_⟩
 exact wk [0,1,2,4]
 refine bI (bT ?_)
 cases h2
 refine bW ⟨_,rfl,fun e => ?_⟩
 subst e
 refine aM (aI ?_)
 exact wk [0,1,2,3]
 refine sq [0,1,2] (rP rfl (aL (r := .own _ _ _) rfl) (rP rfl (aQ (r := .own _ _ _) rfl) (pa (nx (aA ?_)))))
 cases h0
 exact lT (rs := [.tmp 2, .tmp 3]) [3] rfl
theorem aAe {p0 : aV} {r : List ByteArray × Int} (h0 : kO p0 = some r) : FnC Tryz.prog 5 [] [.agg [dS p0.Name,(dL aJ p0.Works.Arbors),(dL bF p0.Works.Meshes),(dI p0.Minute),(dI p0.Hour),(dI p0.Escape),(dI p0.Teeth),(dI p0.Beats),(dS p0.Calendar.Name),(dL aN p0.Calendar.Months),(dL aE p0.Calendar.Rules),(dI p0.Calendar.Week),(dL cI p0.Cam),(dI p0.Strike)]] [.live [⟨9,1, .data (List.map cS r.1)⟩]] (.tup [.own 0 0 r.1.length,(dI r.2)]) := by
 refine fi 75 tok Tryz.func5 ?_
 unfold kO at h0
 refine sq [0,1,2] (bxx 3 ?_)
 refine pa ?_
 refine pa (nx (aC (sq [0,1] ?_)))
 obtain ⟨v1,hv1,h0⟩ := bnd h0
 refine rS rfl (gZ 4 (aCf hv1) rfl rfl) (rP rfl (bX rfl) (nx ?_))
 refine cF h0 rfl (fun hc h0 => ?_) (fun hc h0 => ?_)
 refine sq [0,1] (pa ?_)
 refine pa (nx ?_)
 refine nP (lF 4 rfl 9 1 (d := 2) rfl) (aA (aG ?_))
 cases h0
 exact lT (rs := [.tmp 2, .tmp 3]) [4] rfl
 refine sk (sq [0,1] (rS rfl (lM 4 tok rfl rfl rfl rfl) (rP rfl (aQ (r := .own _ _ _) rfl) (nx ?_))))
 obtain ⟨v22,h1,h0⟩ := bnd h0
 refine bR ⟨aF (aF ((fun _ => .dead)) 1 (.ptr 3 0 1 0 0)) 4 (.own 4 0 (v22).length),lks [.no, .no, .no, .live [⟨46,14, .av [[dS p0.Name,(dL aJ p0.Works.Arbors),(dL bF p0.Works.Meshes),(dI p0.Minute),(dI p0.Hour),(dI p0.Escape),(dI p0.Teeth),(dI p0.Beats),(dS p0.Calendar.Name),(dL aN p0.Calendar.Months),(dL aE p0.Calendar.Rules),(dI p0.Calendar.Week),(dL cI p0.Cam),(dI p0.Strike)]]⟩], .live [⟨9,1, .data (List.map cS v22)⟩]]⟩ ?_ ?_
 refine sq [0] (pa (nx (aD ?_)))
 refine aR (fun s12 => ⟨aF (aF (aF ((fun _ => .dead)) 1 (.ptr 3 0 1 0 0)) 4 (.own 4 0 (s12.2).length)) 5 (dI s12.1),lks [.no, .no, .no, .live [⟨46,14, .av [[dS p0.Name,(dL aJ p0.Works.Arbors),(dL bF p0.Works.Meshes),(dI p0.Minute),(dI p0.Hour),(dI p0.Escape),(dI p0.Teeth),(dI p0.Beats),(dS p0.Calendar.Name),(dL aN p0.Calendar.Months),(dL aE p0.Calendar.Rules),(dI p0.Calendar.Week),(dL cI p0.Cam),(dI p0.Strike)]]⟩], .live [⟨9,1, .data (List.map cS s12.2)⟩]]⟩) h1 ?_ (fun s12 y h2 => ?_)
 exact wk [0,1,2,3,4]
 refine aC (sq [0,1,2,3,4,5] (pm ?_))
 refine fa tok ?_
 refine fa tok ?_
 refine ld tok ?_
 refine rP rfl (aB tok rfl rfl rfl) (rP rfl (bC rfl rfl) (nx ?_))
 refine bA h2 rfl (fun hc h2 => ?_) (fun hc h2 => ?_)
 refine sk (aC (aD (sq [0,1,2,3,4,5,6,7,8] (fa tok ?_))))
 refine fa tok ?_
 refine ld tok ?_
 refine pm ?_
 obtain ⟨v13,hv13,h2⟩ := bnd h2
 refine rP rfl (cO tok hv13 rfl rfl rfl rfl rfl rfl) (fr tok ?_)
 refine lr tok ?_
 obtain ⟨hq14,h2⟩ := cJ h2
 refine rP rfl (jL rfl rfl hq14) (pa (nx (sq [0,1,2,3,4,5,6,7,8] ?_)))
 refine fa tok ?_
 refine fa tok ?_
 refine ld tok ?_
 refine pm ?_
 obtain ⟨v15,hv15,h2⟩ := bnd h2
 refine rP rfl (cO tok hv15 rfl rfl rfl rfl rfl rfl) (fr tok ?_)
 refine lr tok ?_
 obtain ⟨v16,hv16,h2⟩ := bnd h2
 refine rS rfl (aK 5 (aAj hv16) rfl rfl rfl) (rP rfl (aQ (r := .own _ _ _) rfl) (nx ?_))
 obtain ⟨v20,h3,h2⟩ := bnd h2
 refine bR ⟨aF (aF (aF (aF ((fun _ => .dead)) 1 (.ptr 3 0 1 0 0)) 4 (.own 4 0 (s12.2).length)) 5 (dI s12.1)) 6 (dS v20),lks [.no, .no, .no, .live [⟨46,14, .av [[dS p0.Name,(dL aJ p0.Works.Arbors),(dL bF p0.Works.Meshes),(dI p0.Minute),(dI p0.Hour),(dI p0.Escape),(dI p0.Teeth),(dI p0.Beats),(dS p0.Calendar.Name),(dL aN p0.Calendar.Months),(dL aE p0.Calendar.Rules),(dI p0.Calendar.Week),(dL cI p0.Cam),(dI p0.Strike)]]⟩], .live [⟨9,1, .data (List.map cS s12.2)⟩]]⟩ ?_ ?_
 refine sq [0,1,2] (rP rfl (aL (r := .own _ _ _) rfl) (rL rfl (nL tok rfl rfl rfl rfl rfl) (rP rfl (kV rfl rfl) (nx ?_))))
 refine bA h3 rfl (fun hc h3 => ?_) (fun hc h3 => ?_)
 refine sr [0,1,2,3,4,5] (pm ?_)
 refine rP rfl (aL (r := .own _ _ _) rfl) ?_
 obtain ⟨v17,hv17,h3⟩ := bnd h3
 refine rS rfl (gZ 6 (yV hv17) rfl rfl) ?_
 obtain ⟨hq18,h3⟩ := cJ h3
 refine rP rfl (jL rfl rfl hq18) ?_
 obtain ⟨hq19,h3⟩ := cJ h3
 refine rP rfl (jL rfl rfl hq19) (pa (nx ?_))
 cases h3
 exact wk [0,1,2,3,4]
 refine sk ?_
 cases h3
 exact wk [0,1,2,3,4]
 refine sr [0,1,2,3,4] (rP rfl (aL (r := .own _ _ _) rfl) (pm ?_))
 refine rS rfl (nJ tok cS [v20] rfl rfl rfl (by repeat (first | exact Els.nil _ | apply Els.cons (cs := [.d _]) rfl rfl rfl | apply Els.cons (cs := _ :: _) rfl rfl rfl)) rfl rfl rfl (by repeat (first | exact eX.nil | (apply eX.cons; (repeat (first | exact mE.nil | apply mE.cons))))) rfl) ?_
 obtain ⟨hq21,h2⟩ := cJ h2
 refine rw1 rfl w0 rfl (lO tok hq21 rfl rfl rfl rfl rfl rfl rfl rfl rfl rfl rfl rfl (fun _ => rfl)) (rP rfl (aQ (r := .own _ _ _) rfl) (bE (bG (aI (sr [0,1,2] (pm ?_))))))
 refine rP rfl (bM rfl rfl) (pa (bE ?_))
 refine bU ?_
 cases h2
 refine ⟨_,rfl,?_⟩
 exact wk [0,1,2,3,4]
 refine bI (bT ?_)
 cases h2
 refine bW ⟨_,rfl,fun e => ?_⟩
 subst e
 refine aM (aI ?_)
 exact wk [0,1,2,3,4]
 refine sq [0,1,2,3,4,5,6,7] (fa tok ?_)
 refine ld tok ?_
 obtain ⟨v23,hv23,h0⟩ := bnd h0
 refine rS rfl (aK 5 (vF hv23) rfl rfl rfl) (rP rfl (aL (r := .tup _) rfl) (rP rfl (dU rfl rfl) (rP rfl (dU rfl rfl) (rP rfl (aQ (r := .own _ _ _) rfl) (pa (nx (sq [0,1,2,3,4,5,6,7] ?_)))))))
 refine rP rfl (aL (r := .own _ _ _) rfl) (fa tok ?_)
 refine ld tok ?_
 obtain ⟨v24,hv24,h0⟩ := bnd h0
 refine rS rfl (aK 6 (mZ hv24) rfl rfl rfl) ?_
 obtain ⟨hq25,h0⟩ := cJ h0
 refine rP rfl (jL rfl rfl hq25) (rS rfl (nJ tok cS [(⟨#[101,115,99,97,112,101,45,119,104,101,101,108,32]⟩ : ByteArray) ++ v24] rfl rfl rfl (by repeat (first | exact Els.nil _ | apply Els.cons (cs := [.d _]) rfl rfl rfl | apply Els.cons (cs := _ :: _) rfl rfl rfl)) rfl rfl rfl (by repeat (first | exact eX.nil | (apply eX.cons; (repeat (first | exact mE.nil | apply mE.cons))))) rfl) ?_)
 obtain ⟨hq26,h0⟩ := cJ h0
 refine rw1 rfl w0 rfl (lO tok hq26 rfl rfl rfl rfl rfl rfl rfl rfl rfl rfl rfl rfl (fun _ => rfl)) (rP rfl (aQ (r := .own _ _ _) rfl) (nx (sq [0,1,2,3,4,5,6,7,8,9,10,11,12,13,14] (rP rfl (aL (r := .own _ _ _) rfl) (fa tok ?_)))))
 refine ld tok ?_
 refine rP rfl (aB tok rfl rfl rfl) ?_
 obtain ⟨v27,hv27,h0⟩ := bnd h0
 refine rS rfl (aK 6 (mZ hv27) rfl rfl rfl) ?_
 obtain ⟨hq28,h0⟩ := cJ h0
 refine rP rfl (jL rfl rfl hq28) ?_
 obtain ⟨hq29,h0⟩ := cJ h0
 refine rP rfl (jL rfl rfl hq29) (rP rfl (aL (r := .own _ _ _) rfl) (rL rfl (nL tok rfl rfl rfl rfl rfl) ?_))
 obtain ⟨v30,hv30,h0⟩ := bnd h0
 refine rS rfl (aK 6 (mZ hv30) rfl rfl rfl) ?_
 obtain ⟨hq31,h0⟩ := cJ h0
 refine rP rfl (jL rfl rfl hq31) (rS rfl (nJ tok cS [(((⟨#[99,97,109,32]⟩ : ByteArray) ++ v27) ++ (⟨#[32]⟩ : ByteArray)) ++ v30] rfl rfl rfl (by repeat (first | exact Els.nil _ | apply Els.cons (cs := [.d _]) rfl rfl rfl | apply Els.cons (cs := _ :: _) rfl rfl rfl)) rfl rfl rfl (by repeat (first | exact eX.nil | (apply eX.cons; (repeat (first | exact mE.nil | apply mE.cons))))) rfl) ?_)
 obtain ⟨hq32,h0⟩ := cJ h0
 refine rw1 rfl w0 rfl (lO tok hq32 rfl rfl rfl rfl rfl rfl rfl rfl rfl rfl rfl rfl (fun _ => rfl)) (rP rfl (aQ (r := .own _ _ _) rfl) (pa (nx (aA ?_))))
 cases h0
 exact lT (rs := [.tmp 2, .tmp 3]) [4] rfl
theorem dV {p0 : Int} {p1 : Int} {p2 : Int} {r : Bool} (h0 : cR p0 p1 p2 = some r) : FnC Tryz.prog 56 [] [dI p0,(dI p1),(dI p2)] [] (dB r) := by
 refine fi 15 tok Tryz.func56 ?_
 unfold cR at h0
 refine sq [0] (pa (nx (sq [0,1,2,3,4,5,6,7,8] ?_)))
 refine pm ?_
 refine pm ?_
 refine rP rfl (nK rfl rfl) (pm ?_)
 refine jJ (u := 10) h0 rfl (fun hc h0 => ?_) (fun hc h0 => ?_)
 refine pm1 ?_
 refine pm1 ?_
 refine rp rfl (w1 rfl rfl rfl) rfl (kK rfl rfl) (pkt ?_)
 refine pa (nx (aA ?_))
 cases h0
 exact r0t 6 rfl
 iterate 3 refine k1 ?_
 refine pkf ?_
 refine pa (nx (aA ?_))
 cases h0
 exact r0t 6 rfl
theorem nX {p0 : bQ} {p1 : Int} {r : Bool} (h0 : gH p0 p1 = some r) : FnC Tryz.prog 54 [] [.agg [dL aJ p0.Arbors,(dL bF p0.Meshes)],(dI p1)] [] (dB r) := by
 refine fi 11 tok Tryz.func54 ?_
 unfold gH at h0
 refine sq [0,1] (bxx 3 ?_)
 refine pa (nx (sq [0,1,2,3,4,5,6] ?_))
 refine pm ?_
 refine fa tok ?_
 refine ld tok ?_
 refine rP rfl (aB tok rfl rfl rfl) (rP rfl (iB rfl rfl) ?_)
 obtain ⟨v1,hv1,h0⟩ := bnd h0
 refine rS rfl (aK 4 (dV hv1) rfl rfl rfl) (pa (nx (aA ?_)))
 cases h0
 exact r0t 4 rfl
theorem rR {p0 : Int} {r : Bool} (h0 : iJ p0 = some r) : FnC Tryz.prog 55 [] [dI p0] [] (dB r) := by
 refine fi 5 tok Tryz.func55 ?_
 unfold iJ at h0
 refine sq [0] (pa (nx (sq [0,1,2] ?_)))
 refine pm ?_
 obtain ⟨v1,hv1,h0⟩ := bnd h0
 refine rS rfl (aK 3 (dV hv1) rfl rfl rfl) (pa (nx (aA ?_)))
 cases h0
 exact r0t 2 rfl
theorem nE {p0 : ByteArray} {r : Bool} (h0 : gN p0 = some r) : FnC Tryz.prog 57 [] [dS p0] [] (dB r) := by
 refine fi 50 tok Tryz.func57 ?_
 unfold gN at h0
 refine sq [0] (pa (nx (aC ?_)))
 obtain ⟨v1,h1,h0⟩ := bnd h0
 refine bR ⟨aF (aF ((fun _ => .dead)) 0 (dS p0)) 14 (dB v1),lks [.no, .no, .no]⟩ ?_ ?_
 refine sr [0,1,2,3,4,5,6,7] (pm ?_)
 refine rP rfl (gX tok rfl rfl rfl) (rP rfl (bC rfl rfl) (pm ?_))
 refine jJ (u := 10) h1 rfl (fun hc h1 => ?_) (fun hc h1 => ?_)
 iterate 3 refine k1 ?_
 refine pkt (nx ?_)
 cases h1
 exact wk [0,1,2]
 refine pm1 ?_
 refine rp rfl (w1 rfl rfl rfl) rfl (gX tok rfl rfl rfl) (rp rfl (w1 rfl rfl rfl) rfl (kV rfl rfl) (pkf (nx ?_)))
 cases h1
 exact wk [0,1,2]
 refine cF h0 rfl (fun hc h0 => ?_) (fun hc h0 => ?_)
 refine sq [0] (pa (nx (aA (aG ?_))))
 cases h0
 exact r0t 2 rfl
 refine sk ?_
 obtain ⟨v13x,h1,h0⟩ := bnd h0
 refine cQ v13x (fun v13 => ⟨(fun _ => .dead),lks [.no, .no, .no]⟩) ?_ ?_
 refine sq [0,1,2,3] (pm ?_)
 obtain ⟨hq2,h1⟩ := cJ h1
 refine rS rfl (aI4 tok hq2 rfl rfl rfl rfl rfl rfl rfl) (rP rfl (aB tok rfl rfl rfl) (pm (nx (aD ?_))))
 refine aR (fun s8 => ⟨aF (aF (aF ((fun _ => .dead)) 16 (dL cU8 (cA p0))) 17 (dI ((cA p0).length : Int))) 18 (dI s8),lks [.no, .no, .no]⟩) h1 ?_ (fun s8 y h2 => ?_)
 exact wk [0,1,2]
 refine sq [0] (rP rfl (bC rfl rfl) (nx (aC ?_)))
 refine bA h2 rfl (fun hc h2 => ?_) (fun hc h2 => ?_)
 refine sk (aC (aD (sq [0,1,2,3,4] (pm ?_))))
 obtain ⟨v9,hv9,h2⟩ := bnd h2
 refine rP rfl (cO tok hv9 rfl rfl rfl rfl rfl rfl) (lr tok ?_)
 refine pa ?_
 refine pa (nx ?_)
 obtain ⟨v10,h3,h2⟩ := bnd h2
 refine bR ⟨aF (aF (aF (aF (aF (aF ((fun _ => .dead)) 3 (dI s8)) 4 (.d (.v (.int .u8 v9)))) 5 (dB v10)) 16 (dL cU8 (cA p0))) 17 (dI ((cA p0).length : Int))) 18 (dI s8),lks [.no, .no, .no]⟩ ?_ ?_
 refine sr [0,1,2,3,4,5,6] (pm ?_)
 refine rP rfl (nK rfl rfl) (pm ?_)
 refine jJ (u := 25) h3 rfl (fun hc h3 => ?_) (fun hc h3 => ?_)
 refine pm1 ?_
 refine rp rfl (w1 rfl rfl rfl) rfl (kK rfl rfl) (pkt ?_)
 refine pa (nx ?_)
 cases h3
 exact wk [0,1,2]
 refine k1 ?_
 refine k1 ?_
 refine pkf ?_
 refine pa (nx ?_)
 cases h3
 exact wk [0,1,2]
 obtain ⟨v11,h3,h2⟩ := bnd h2
 refine bR ⟨aF (aF (aF (aF (aF (aF ((fun _ => .dead)) 3 (dI s8)) 5 (dB v10)) 6 (dB v11)) 16 (dL cU8 (cA p0))) 17 (dI ((cA p0).length : Int))) 18 (dI s8),lks [.no, .no, .no]⟩ ?_ ?_
 refine sr [0,1,2,3,4,5,6,7,8,9,10] (pm ?_)
 refine rP rfl (nK rfl rfl) (pm ?_)
 refine jJ (u := 31) h3 rfl (fun hc h3 => ?_) (fun hc h3 => ?_)
 refine pm1 ?_
 refine rp rfl (w1 rfl rfl rfl) rfl (kK rfl rfl) (pkt ?_)
 refine pm ?_
 refine jJ (u := 35) h3 rfl (fun hc h3 => ?_) (fun hc h3 => ?_)
 refine k1 ?_
 refine k1 ?_
 refine pkt ?_
 refine pa (nx ?_)
 cases h3
 exact wk [0,1,2]
 refine pm1 ?_
 refine rp rfl (w1 rfl rfl rfl) rfl (pC rfl rfl) (pkf ?_)
 refine pa (nx ?_)
 cases h3
 exact wk [0,1,2]
 refine k1 ?_
 refine k1 ?_
 refine pkf ?_
 refine pm ?_
 refine pm1 ?_
 refine rp rfl (w1 rfl rfl rfl) rfl (pC rfl rfl) (pkf ?_)
 refine pa (nx ?_)
 cases h3
 exact wk [0,1,2]
 obtain ⟨v12,h3,h2⟩ := bnd h2
 refine bR ⟨aF (aF (aF (aF ((fun _ => .dead)) 16 (dL cU8 (cA p0))) 17 (dI ((cA p0).length : Int))) 18 (dI s8)) 48 (dB v12),lks [.no, .no, .no]⟩ ?_ ?_
 refine sr [0,1,2,3,4,5,6,7,8,9] (pm ?_)
 refine rP rfl (bX rfl) (pm ?_)
 refine cT (u := 41) h3 rfl (fun hc h3 => ?_) (fun hc h3 => ?_)
 refine pm1 ?_
 refine rp rfl (w1 rfl rfl rfl) rfl (pC rfl rfl) (pm1 ?_)
 refine jJ (u := 44) h3 rfl (fun hc h3 => ?_) (fun hc h3 => ?_)
 refine k1 ?_
 refine k1 ?_
 refine aIa ?_
 refine pkt (nx ?_)
 cases h3
 exact wk [0,1,2]
 refine pm1 ?_
 refine rp rfl (w1 rfl rfl rfl) rfl (bX rfl) (aGh ?_)
 refine pkt (nx ?_)
 cases h3
 exact wk [0,1,2]
 iterate 6 refine k1 ?_
 refine pkf (nx ?_)
 cases h3
 exact wk [0,1,2]
 refine cF h2 rfl (fun hc h2 => ?_) (fun hc h2 => ?_)
 refine sq [0] (pa (nx (aA ?_)))
 refine aS (aG ?_)
 cases h2
 refine dC ⟨_,rfl,fun e => ?_⟩
 subst e
 refine aS ?_
 replace h0 := fG h0
 refine aG ?_
 cases h0
 exact r0t 2 rfl
 refine cU (bG (aI (sr [0,1] (rP rfl (bM rfl rfl) (pm (bE ?_))))))
 refine bU ?_
 cases h2
 refine ⟨_,rfl,?_⟩
 exact wk [0,1,2]
 refine bI (bT ?_)
 cases h2
 refine bW ⟨_,rfl,fun e => ?_⟩
 subst e
 refine aM (aI ?_)
 refine ⟨_,rfl,?_⟩
 exact wk [0,1,2]
 rintro v13 rfl
 replace h0 := hJ h0
 refine sq [0] (pa (nx (aA ?_)))
 cases h0
 exact r0t 2 rfl
theorem tC {p0 : bH} {r : Bool} (h0 : fY p0 = some r) : FnC Tryz.prog 93 [] [.agg [dS p0.Name,(dL cI p0.Wheels)]] [] (dB r) := by
 refine fi 25 tok Tryz.func93 ?_
 unfold fY at h0
 refine sq [0,1] (bxx 3 ?_)
 refine pa (nx ?_)
 obtain ⟨v7x,h1,h0⟩ := bnd h0
 refine cQ v7x (fun v7 => ⟨aF ((fun _ => .dead)) 1 (.ptr 3 0 1 0 0),lks [.no, .no, .no, .live [⟨59,2, .av [[dS p0.Name,(dL cI p0.Wheels)]]⟩]]⟩) ?_ ?_
 refine sq [0,1,2,3] (fa tok ?_)
 refine ld tok ?_
 refine rP rfl (aB tok rfl rfl rfl) (pm (nx (aD ?_)))
 refine aR (fun s4 => ⟨aF (aF (aF (aF ((fun _ => .dead)) 1 (.ptr 3 0 1 0 0)) 6 (dL cI p0.Wheels)) 7 (dI (p0.Wheels.length : Int))) 8 (dI s4),lks [.no, .no, .no, .live [⟨59,2, .av [[dS p0.Name,(dL cI p0.Wheels)]]⟩]]⟩) h1 ?_ (fun s4 y h2 => ?_)
 exact wk [0,1,2,3]
 refine sq [0] (rP rfl (bC rfl rfl) (nx (aC ?_)))
 refine bA h2 rfl (fun hc h2 => ?_) (fun hc h2 => ?_)
 refine sk (aC (aD (sq [0,1,2] ?_)))
 obtain ⟨v5,hv5,h2⟩ := bnd h2
 refine rP rfl (cO tok hv5 rfl rfl rfl rfl rfl rfl) (lr tok ?_)
 refine pa (nx (sq [0,1,2] ?_))
 refine pm ?_
 obtain ⟨v6,hv6,h2⟩ := bnd h2
 refine rS rfl (aK 4 (rR hv6) rfl rfl rfl) (rP rfl (bX rfl) (nx ?_))
 refine cF h2 rfl (fun hc h2 => ?_) (fun hc h2 => ?_)
 refine sq [0] (pa (nx (aA ?_)))
 refine aS (aG ?_)
 cases h2
 refine dC ⟨_,rfl,fun e => ?_⟩
 subst e
 refine aS ?_
 replace h0 := fG h0
 refine aG ?_
 cases h0
 exact r0t 2 rfl
 refine cU (bG (aI (sr [0,1] (rP rfl (bM rfl rfl) (pm (bE ?_))))))
 refine bU ?_
 cases h2
 refine ⟨_,rfl,?_⟩
 exact wk [0,1,2,3]
 refine bI (bT ?_)
 cases h2
 refine bW ⟨_,rfl,fun e => ?_⟩
 subst e
 refine aM (aI ?_)
 refine ⟨_,rfl,?_⟩
 exact wk [0,1,2,3]
 rintro v7 rfl
 replace h0 := hJ h0
 refine sq [0,1,2,3,4,5,6,7,8,9] (fa tok ?_)
 refine ld tok ?_
 obtain ⟨v8,hv8,h0⟩ := bnd h0
 refine rS rfl (aK 4 (nE hv8) rfl rfl rfl) (pm ?_)
 refine cT (u := 19) h0 rfl (fun hc h0 => ?_) (fun hc h0 => ?_)
 refine fa1 tok ?_
 refine ld1 tok ?_
 refine rp rfl (w1 rfl rfl rfl) rfl (aB tok rfl rfl rfl) (rp rfl (w1 rfl rfl rfl) rfl (kK rfl rfl) (pkt ?_))
 refine pa (nx (aA ?_))
 cases h0
 exact r0t 2 rfl
 iterate 4 refine k1 ?_
 refine pkf ?_
 refine pa (nx (aA ?_))
 cases h0
 exact r0t 2 rfl
theorem pV {p0 : bQ} {p1 : Int} {p2 : Int} {r : Bool} (h0 : gP p0 p1 p2 = some r) : FnC Tryz.prog 114 [] [.agg [dL aJ p0.Arbors,(dL bF p0.Meshes)],(dI p1),(dI p2)] [] (dB r) := by
 refine fi 25 tok Tryz.func114 ?_
 unfold gP at h0
 refine sq [0,1] (bxx 3 ?_)
 refine pa (nx (sq [0,1,2,3,4,5,6,7,8,9,10,11,12,13,14,15,16,17,18] ?_))
 refine pm ?_
 refine fa tok ?_
 refine ld tok ?_
 refine rP rfl (aB tok rfl rfl rfl) (rP rfl (iB rfl rfl) ?_)
 obtain ⟨v1,hv1,h0⟩ := bnd h0
 refine rS rfl (aK 4 (dV hv1) rfl rfl rfl) (pm ?_)
 refine cT (u := 13) h0 rfl (fun hc h0 => ?_) (fun hc h0 => ?_)
 refine pm1 ?_
 refine fa1 tok ?_
 refine ld1 tok ?_
 refine pm1 ?_
 obtain ⟨v2,hv2,h0⟩ := bnd h0
 refine rp rfl (w1 rfl rfl rfl) rfl (cO tok hv2 rfl rfl rfl rfl rfl rfl) (fr1 tok ?_)
 refine lr1 tok ?_
 refine rp rfl (w1 rfl rfl rfl) rfl (aB tok rfl rfl rfl) (rp rfl (w1 rfl rfl rfl) rfl (iB rfl rfl) ?_)
 obtain ⟨v3,hv3,h0⟩ := bnd h0
 refine rs rfl (w1 rfl rfl rfl) rfl (aK 4 (dV hv3) rfl rfl rfl) (pkt ?_)
 refine pa (nx (aA ?_))
 cases h0
 exact r0t 6 rfl
 iterate 10 refine k1 ?_
 refine pkf ?_
 refine pa (nx (aA ?_))
 cases h0
 exact r0t 6 rfl
theorem aDq {p0 : bQ} {p1 : bJ} {r : Bool} (h0 : mQ p0 p1 = some r) : FnC Tryz.prog 94 [] [.agg [dL aJ p0.Arbors,(dL bF p0.Meshes)], .agg [dI p1.A,(dI p1.WheelA),(dI p1.B),(dI p1.WheelB)]] [] (dB r) := by
 refine fi 26 tok Tryz.func94 ?_
 unfold mQ at h0
 refine sq [0,1,2] (bxx 3 ?_)
 refine bxx 4 ?_
 refine pa (nx (sq [0,1,2,3,4,5,6,7,8,9,10,11,12,13,14,15,16,17,18,19,20,21] ?_))
 refine fa tok ?_
 refine ld tok ?_
 refine fa tok ?_
 refine ld tok ?_
 refine rP rfl (dD rfl rfl) (pm ?_)
 refine jJ (u := 10) h0 rfl (fun hc h0 => ?_) (fun hc h0 => ?_)
 refine rl rfl (w1 rfl rfl rfl) rfl (cM tok rfl rfl rfl rfl) (fa1 tok ?_)
 refine ld1 tok ?_
 refine fa1 tok ?_
 refine ld1 tok ?_
 obtain ⟨v1,hv1,h0⟩ := bnd h0
 refine rs rfl (w1 rfl rfl rfl) rfl (aK 5 (pV hv1) rfl rfl rfl) (pkt ?_)
 refine pm ?_
 refine cT (u := 18) h0 rfl (fun hc h0 => ?_) (fun hc h0 => ?_)
 refine rl rfl (w1 rfl rfl rfl) rfl (cM tok rfl rfl rfl rfl) (fa1 tok ?_)
 refine ld1 tok ?_
 refine fa1 tok ?_
 refine ld1 tok ?_
 obtain ⟨v2,hv2,h0⟩ := bnd h0
 refine rs rfl (w1 rfl rfl rfl) rfl (aK 5 (pV hv2) rfl rfl rfl) (pkt ?_)
 refine pa (nx (aA ?_))
 cases h0
 exact r0t 4 rfl
 iterate 6 refine k1 ?_
 refine pkf ?_
 refine pa (nx (aA ?_))
 cases h0
 exact r0t 4 rfl
 iterate 6 refine k1 ?_
 refine pkf ?_
 refine pm ?_
 iterate 6 refine k1 ?_
 refine pkf ?_
 refine pa (nx (aA ?_))
 cases h0
 exact r0t 4 rfl
theorem xE {p0 : bJ} {p1 : bJ} {r : Bool} (h0 : iW p0 p1 = some r) : FnC Tryz.prog 97 [] [.agg [dI p0.A,(dI p0.WheelA),(dI p0.B),(dI p0.WheelB)], .agg [dI p1.A,(dI p1.WheelA),(dI p1.B),(dI p1.WheelB)]] [] (dB r) := by
 refine fi 21 tok Tryz.func97 ?_
 unfold iW at h0
 refine sq [0,1,2] (bxx 3 ?_)
 refine bxx 4 ?_
 refine pa (nx (sq [0,1,2,3,4,5,6,7,8,9,10,11,12,13,14,15,16] ?_))
 refine rL rfl (cM tok rfl rfl rfl rfl) (rL rfl (cM tok rfl rfl rfl rfl) (rP rfl (mR (a := p0) (b := p1) rfl rfl) (pm ?_)))
 refine jJ (u := 8) h0 rfl (fun hc h0 => ?_) (fun hc h0 => ?_)
 iterate 11 refine k1 ?_
 refine pkt ?_
 refine pa (nx (aA ?_))
 cases h0
 exact r0t 4 rfl
 refine rl rfl (w1 rfl rfl rfl) rfl (cM tok rfl rfl rfl rfl) (fa1 tok ?_)
 refine ld1 tok ?_
 refine fa1 tok ?_
 refine ld1 tok ?_
 refine fa1 tok ?_
 refine ld1 tok ?_
 refine fa1 tok ?_
 refine ld1 tok ?_
 refine rp rfl (w1 rfl rfl rfl) rfl (pbl (C0 := [z0,z0,z0,z0]) tok rfl rfl rfl) (rp rfl (w1 rfl rfl rfl) rfl (mR (a := p0) (b := (⟨p1.B,p1.WheelB,p1.A,p1.WheelA⟩ : bJ)) rfl rfl) (pkf ?_))
 refine pa (nx (aA ?_))
 cases h0
 exact r0t 4 rfl
theorem qL {p0 : bJ} {p1 : bJ} {r : Bool} (h0 : gB p0 p1 = some r) : FnC Tryz.prog 96 [] [.agg [dI p0.A,(dI p0.WheelA),(dI p0.B),(dI p0.WheelB)], .ref (bF p1)] [] (dB r) := by
 refine fi 7 tok Tryz.func96 ?_
 unfold gB at h0
 refine sq [0,1] (bxx 3 ?_)
 refine pa (nx (sq [0,1,2,3] ?_))
 refine rP rfl (aW tok rfl rfl rfl (by repeat (first | exact gY.z _ | apply gY.t))) (rL rfl (cM tok rfl rfl rfl rfl) ?_)
 obtain ⟨v1,hv1,h0⟩ := bnd h0
 refine rS rfl (aK 4 (xE hv1) rfl rfl rfl) (pa (nx (aA ?_)))
 cases h0
 exact r0t 3 rfl
theorem eP {p0 : List bJ} {p1_0 : bJ} {r : Int} (h0 : bK p0 p1_0 = some r) : FnC Tryz.prog 115 [] [dL bF p0, .fn 96 [.ref (bF p1_0)]] [] (dI r) := by
 refine fi 19 tok Tryz.func115 ?_
 unfold bK at h0
 refine sq [0] (pa (nx ?_))
 obtain ⟨v7x,h1,h0⟩ := bnd h0
 refine cQ v7x (fun v7 => ⟨(fun _ => .dead),lks [.no, .no, .no]⟩) ?_ ?_
 refine sq [0,1,2] (pm ?_)
 refine rP rfl (aB tok rfl rfl rfl) (pm (nx (aD ?_)))
 refine aR (fun s4 => ⟨aF (aF (aF (aF ((fun _ => .dead)) 0 (dL bF p0)) 1 (.fn 96 [.ref (bF p1_0)])) 7 (dI (p0.length : Int))) 8 (dI s4),lks [.no, .no, .no]⟩) h1 ?_ (fun s4 y h2 => ?_)
 exact wk [0,1,2]
 refine sq [0] (rP rfl (bC rfl rfl) (nx (aC ?_)))
 refine bA h2 rfl (fun hc h2 => ?_) (fun hc h2 => ?_)
 refine sk (aC (aD (sq [0,1] (pm ?_))))
 refine pa (nx (sq [0,1,2,3,4,5] ?_))
 refine rP rfl (aL (r := .fn _ _) rfl) (pm ?_)
 refine pm ?_
 obtain ⟨v5,hv5,h2⟩ := bnd h2
 refine rP rfl (cO tok hv5 rfl rfl rfl rfl rfl rfl) (rP rfl (aW tok rfl rfl rfl (by repeat (first | exact gY.z _ | apply gY.t))) ?_)
 obtain ⟨v6,hv6,h2⟩ := bnd h2
 refine rS rfl (aK 3 (qL hv6) rfl rfl rfl) (nx ?_)
 refine cF h2 rfl (fun hc h2 => ?_) (fun hc h2 => ?_)
 refine sq [0,1] (pm ?_)
 refine pa (nx (aA ?_))
 refine aS (aG ?_)
 cases h2
 refine dC ⟨_,rfl,fun e => ?_⟩
 subst e
 refine aS ?_
 replace h0 := fG h0
 refine aG ?_
 cases h0
 exact r0t 4 rfl
 refine cU (bG (aI (sr [0,1] (rP rfl (bM rfl rfl) (pm (bE ?_))))))
 refine bU ?_
 cases h2
 refine ⟨_,rfl,?_⟩
 exact wk [0,1,2]
 refine bI (bT ?_)
 cases h2
 refine bW ⟨_,rfl,fun e => ?_⟩
 subst e
 refine aM (aI ?_)
 refine ⟨_,rfl,?_⟩
 exact wk [0,1,2]
 rintro v7 rfl
 replace h0 := hJ h0
 refine sq [0] (pa (nx (aA ?_)))
 cases h0
 exact r0t 4 rfl
theorem eB {p0 : List bJ} {p1_0 : bJ} {r : Bool} (h0 : aT p0 p1_0 = some r) : FnC Tryz.prog 95 [] [dL bF p0, .fn 96 [.ref (bF p1_0)]] [] (dB r) := by
 refine fi 9 tok Tryz.func95 ?_
 unfold aT at h0
 refine sq [0] (pa (nx (sq [0,1,2,3,4] ?_)))
 refine pm ?_
 refine rP rfl (aL (r := .fn _ _) rfl) ?_
 obtain ⟨v1,hv1,h0⟩ := bnd h0
 refine rS rfl (aK 3 (eP hv1) rfl rfl rfl) (rP rfl (nK rfl rfl) (pa (nx (aA ?_))))
 cases h0
 exact r0t 4 rfl
theorem sZ {p0 : bQ} {r : Bool} (h0 : fW p0 = some r) : FnC Tryz.prog 58 [] [.agg [dL aJ p0.Arbors,(dL bF p0.Meshes)]] [] (dB r) := by
 refine fi 67 tok Tryz.func58 ?_
 unfold fW at h0
 refine sq [0,1] (bxx 3 ?_)
 refine pa (nx (aC ?_))
 obtain ⟨v1,h1,h0⟩ := bnd h0
 refine bR ⟨aF (aF ((fun _ => .dead)) 1 (.ptr 3 0 1 0 0)) 18 (dB v1),lks [.no, .no, .no, .live [⟨40,2, .av [[dL aJ p0.Arbors,(dL bF p0.Meshes)]]⟩]]⟩ ?_ ?_
 refine sr [0,1,2,3,4,5,6,7,8,9] (fa tok ?_)
 refine ld tok ?_
 refine rP rfl (aB tok rfl rfl rfl) (rP rfl (kV rfl rfl) (pm ?_))
 refine jJ (u := 13) h1 rfl (fun hc h1 => ?_) (fun hc h1 => ?_)
 iterate 4 refine k1 ?_
 refine pkt (nx ?_)
 cases h1
 exact wk [0,1,2,3]
 refine fa1 tok ?_
 refine ld1 tok ?_
 refine rp rfl (w1 rfl rfl rfl) rfl (aB tok rfl rfl rfl) (rp rfl (w1 rfl rfl rfl) rfl (kV rfl rfl) (pkf (nx ?_)))
 cases h1
 exact wk [0,1,2,3]
 refine cF h0 rfl (fun hc h0 => ?_) (fun hc h0 => ?_)
 refine sq [0] (pa (nx (aA (aG ?_))))
 cases h0
 exact r0t 2 rfl
 refine sk ?_
 obtain ⟨v20x,h1,h0⟩ := bnd h0
 refine cQ v20x (fun v20 => ⟨aF ((fun _ => .dead)) 1 (.ptr 3 0 1 0 0),lks [.no, .no, .no, .live [⟨40,2, .av [[dL aJ p0.Arbors,(dL bF p0.Meshes)]]⟩]]⟩) ?_ ?_
 refine sq [0,1,2,3] (fa tok ?_)
 refine ld tok ?_
 refine rP rfl (aB tok rfl rfl rfl) (pm (nx (aD ?_)))
 refine aR (fun s11 => ⟨aF (aF (aF (aF ((fun _ => .dead)) 1 (.ptr 3 0 1 0 0)) 20 (dL aJ p0.Arbors)) 21 (dI (p0.Arbors.length : Int))) 22 (dI s11),lks [.no, .no, .no, .live [⟨40,2, .av [[dL aJ p0.Arbors,(dL bF p0.Meshes)]]⟩]]⟩) h1 ?_ (fun s11 y h2 => ?_)
 exact wk [0,1,2,3]
 refine sq [0] (rP rfl (bC rfl rfl) (nx (aC ?_)))
 refine bA h2 rfl (fun hc h2 => ?_) (fun hc h2 => ?_)
 refine sk ?_
 obtain ⟨v19x,h3,h2⟩ := bnd h2
 refine cQ v19x (fun v19 => ⟨aF (aF (aF (aF ((fun _ => .dead)) 1 (.ptr 3 0 1 0 0)) 20 (dL aJ p0.Arbors)) 21 (dI (p0.Arbors.length : Int))) 22 (dI s11),lks [.no, .no, .no, .live [⟨40,2, .av [[dL aJ p0.Arbors,(dL bF p0.Meshes)]]⟩]]⟩) ?_ ?_
 refine aD (sq [0,1,2,3,4,5] (pm ?_))
 obtain ⟨v12,hv12,h3⟩ := bnd h3
 refine rP rfl (cO tok hv12 rfl rfl rfl rfl rfl rfl) (rP rfl (aW tok rfl rfl rfl (by repeat (first | exact gY.z _ | apply gY.t))) (al 4 [ze,zl] tok ?_))
 refine pa ?_
 refine bst tok (nx (aC (sq [0,1,2] ?_)))
 refine rL rfl (cM tok rfl rfl rfl rfl) ?_
 obtain ⟨v13,hv13,h3⟩ := bnd h3
 refine rS rfl (aK 5 (tC hv13) rfl rfl rfl) (rP rfl (bX rfl) (nx ?_))
 refine cF h3 rfl (fun hc h3 => ?_) (fun hc h3 => ?_)
 refine sq [0] (pa (nx (aA (aG ?_))))
 refine aS ?_
 cases h3
 replace h2 := fG h2
 refine aG ?_
 cases h2
 refine dC ⟨_,rfl,fun e => ?_⟩
 subst e
 refine aS ?_
 replace h0 := fG h0
 refine aG ?_
 cases h0
 exact r0t 2 rfl
 refine sk (sq [0,1,2,3,4,5] (fa tok ?_))
 refine ld tok ?_
 refine pm ?_
 obtain ⟨hq14,h3⟩ := cJ h3
 refine rP rfl (rC tok hq14 rfl (.inl ⟨rfl,rfl⟩) (.inr ⟨_,_,rfl,rfl⟩) rfl rfl rfl (fun _ => rfl)) (rP rfl (aB tok rfl rfl rfl) (pm (nx (aD ?_))))
 refine aR (fun s17 => ⟨aF (aF (aF (aF (aF (aF (aF (aF ((fun _ => .dead)) 1 (.ptr 3 0 1 0 0)) 4 (.ptr 4 0 1 0 0)) 20 (dL aJ p0.Arbors)) 21 (dI (p0.Arbors.length : Int))) 22 (dI s11)) 33 (dL aJ (sX p0.Arbors (0 : Int) s11))) 34 (dI ((sX p0.Arbors (0 : Int) s11).length : Int))) 35 (dI s17),lks [.no, .no, .no, .live [⟨40,2, .av [[dL aJ p0.Arbors,(dL bF p0.Meshes)]]⟩], .live [⟨59,2, .av [[dS v12.Name,(dL cI v12.Wheels)]]⟩]]⟩) h3 ?_ (fun s17 y h4 => ?_)
 exact wk [0,1,2,3,4]
 refine sq [0] (rP rfl (bC rfl rfl) (nx (aC ?_)))
 refine bA h4 rfl (fun hc h4 => ?_) (fun hc h4 => ?_)
 refine sk (aC (aD (sq [0,1,2,3] ?_)))
 obtain ⟨v18,hv18,h4⟩ := bnd h4
 refine rP rfl (cO tok hv18 rfl rfl rfl rfl rfl rfl) (rP rfl (aW tok rfl rfl rfl (by repeat (first | exact gY.z _ | apply gY.t))) (al 5 [ze,zl] tok ?_))
 refine bst tok (nx (sq [0,1,2,3,4] ?_))
 refine fa tok ?_
 refine ld tok ?_
 refine fa tok ?_
 refine ld tok ?_
 refine rP rfl (sA rfl rfl) (nx ?_)
 refine bA h4 rfl (fun hc h4 => ?_) (fun hc h4 => ?_)
 refine sq [0] (pa (nx (aA ?_)))
 refine aS (aG ?_)
 cases h4
 refine dC ⟨_,rfl,fun e => ?_⟩
 subst e
 refine aS (aS ?_)
 replace h2 := fG h2
 refine aG ?_
 cases h2
 refine dC ⟨_,rfl,fun e => ?_⟩
 subst e
 refine aS ?_
 replace h0 := fG h0
 refine aG ?_
 cases h0
 exact r0t 2 rfl
 refine cU (bG (aI (sr [0,1] (rP rfl (bM rfl rfl) (pm (bE ?_))))))
 refine bU ?_
 cases h4
 refine ⟨_,rfl,?_⟩
 exact wk [0,1,2,3,4]
 refine bI (bT ?_)
 cases h4
 refine bW ⟨_,rfl,fun e => ?_⟩
 subst e
 refine aM ?_
 refine bG (aI ?_)
 refine ⟨_,rfl,?_⟩
 exact wk [0,1,2,3]
 rintro v19 rfl
 replace h2 := hJ h2
 refine sr [0,1] (rP rfl (bM rfl rfl) (pm (bE ?_)))
 refine bU ?_
 cases h2
 refine ⟨_,rfl,?_⟩
 exact wk [0,1,2,3]
 refine bI (bT ?_)
 cases h2
 refine bW ⟨_,rfl,fun e => ?_⟩
 subst e
 refine aM (aI ?_)
 refine ⟨_,rfl,?_⟩
 exact wk [0,1,2,3]
 rintro v20 rfl
 replace h0 := hJ h0
 obtain ⟨v33x,h1,h0⟩ := bnd h0
 refine cQ v33x (fun v33 => ⟨(fun _ => .dead),lks [.no, .no, .no]⟩) ?_ ?_
 refine sq [0,1,2,3] (fa tok ?_)
 refine ld tok ?_
 refine rP rfl (aB tok rfl rfl rfl) (pm (nx (aD ?_)))
 refine aR (fun s27 => ⟨aF (aF (aF (aF ((fun _ => .dead)) 1 (.ptr 3 0 1 0 0)) 47 (dL bF p0.Meshes)) 48 (dI (p0.Meshes.length : Int))) 49 (dI s27),lks [.no, .no, .no, .live [⟨40,2, .av [[dL aJ p0.Arbors,(dL bF p0.Meshes)]]⟩]]⟩) h1 ?_ (fun s27 y h2 => ?_)
 exact wk [0,1,2,3]
 refine sq [0] (rP rfl (bC rfl rfl) (nx (aC ?_)))
 refine bA h2 rfl (fun hc h2 => ?_) (fun hc h2 => ?_)
 refine sk (aC (aD (sq [0,1,2,3,4,5] (pm ?_))))
 obtain ⟨v28,hv28,h2⟩ := bnd h2
 refine rP rfl (cO tok hv28 rfl rfl rfl rfl rfl rfl) (rP rfl (aW tok rfl rfl rfl (by repeat (first | exact gY.z _ | apply gY.t))) (al 4 [z0,z0,z0,z0] tok ?_))
 refine pa ?_
 refine bst tok (nx ?_)
 obtain ⟨v32,h3,h2⟩ := bnd h2
 refine bR ⟨aF (aF (aF (aF (aF ((fun _ => .dead)) 1 (.ptr 3 0 1 0 0)) 47 (dL bF p0.Meshes)) 48 (dI (p0.Meshes.length : Int))) 49 (dI s27)) 65 (dB v32),lks [.no, .no, .no, .live [⟨40,2, .av [[dL aJ p0.Arbors,(dL bF p0.Meshes)]]⟩]]⟩ ?_ ?_
 refine sr [0,1,2,3,4,5,6,7,8,9,10,11] (rL rfl (cM tok rfl rfl rfl rfl) (rL rfl (cM tok rfl rfl rfl rfl) ?_))
 obtain ⟨v29,hv29,h3⟩ := bnd h3
 refine rS rfl (aK 5 (aDq hv29) rfl rfl rfl) (rP rfl (bX rfl) (pm ?_))
 refine cT (u := 58) h3 rfl (fun hc h3 => ?_) (fun hc h3 => ?_)
 iterate 6 refine k1 ?_
 refine pkt (nx ?_)
 cases h3
 exact wk [0,1,2,3]
 refine fa1 tok ?_
 refine ld1 tok ?_
 refine pm1 ?_
 obtain ⟨hq30,h3⟩ := cJ h3
 refine rp rfl (w1 rfl rfl rfl) rfl (rC tok hq30 rfl (.inl ⟨rfl,rfl⟩) (.inr ⟨_,_,rfl,rfl⟩) rfl rfl rfl (fun _ => rfl)) (rp rfl (w1 rfl rfl rfl) rfl (zL rfl) ?_)
 obtain ⟨v31,hv31,h3⟩ := bnd h3
 refine rs rfl (w1 rfl rfl rfl) rfl (gZ 5 (eB hv31) rfl rfl) (pkf (nx ?_))
 cases h3
 exact wk [0,1,2,3]
 refine cF h2 rfl (fun hc h2 => ?_) (fun hc h2 => ?_)
 refine sq [0] (pa (nx (aA ?_)))
 refine aS (aG ?_)
 cases h2
 refine dC ⟨_,rfl,fun e => ?_⟩
 subst e
 refine aS ?_
 replace h0 := fG h0
 refine aG ?_
 cases h0
 exact r0t 2 rfl
 refine cU (bG (aI (sr [0,1] (rP rfl (bM rfl rfl) (pm (bE ?_))))))
 refine bU ?_
 cases h2
 refine ⟨_,rfl,?_⟩
 exact wk [0,1,2,3]
 refine bI (bT ?_)
 cases h2
 refine bW ⟨_,rfl,fun e => ?_⟩
 subst e
 refine aM (aI ?_)
 refine ⟨_,rfl,?_⟩
 exact wk [0,1,2]
 rintro v33 rfl
 replace h0 := hJ h0
 refine sq [0] (pa (nx (aA ?_)))
 cases h0
 exact r0t 2 rfl
theorem nQ {p0 : aZ} {p1 : aZ} {r : Bool} (h0 : eU p0 p1 = some r) : FnC Tryz.prog 99 [] [.agg [dS p0.Name,(dI p0.Days),(dI p0.Leap)], .ref (aN p1)] [] (dB r) := by
 refine fi 9 tok Tryz.func99 ?_
 unfold eU at h0
 refine sq [0,1] (bxx 3 ?_)
 refine pa (nx (sq [0,1,2,3,4,5] ?_))
 refine fa tok ?_
 refine ld tok ?_
 refine fr tok ?_
 refine lr tok ?_
 refine rP rfl (sA rfl rfl) (pa (nx (aA ?_)))
 cases h0
 exact r0t 3 rfl
theorem dQ {p0 : List aZ} {p1_0 : aZ} {r : Int} (h0 : bD p0 p1_0 = some r) : FnC Tryz.prog 116 [] [dL aN p0, .fn 99 [.ref (aN p1_0)]] [] (dI r) := by
 refine fi 19 tok Tryz.func116 ?_
 unfold bD at h0
 refine sq [0] (pa (nx ?_))
 obtain ⟨v7x,h1,h0⟩ := bnd h0
 refine cQ v7x (fun v7 => ⟨(fun _ => .dead),lks [.no, .no, .no]⟩) ?_ ?_
 refine sq [0,1,2] (pm ?_)
 refine rP rfl (aB tok rfl rfl rfl) (pm (nx (aD ?_)))
 refine aR (fun s4 => ⟨aF (aF (aF (aF ((fun _ => .dead)) 0 (dL aN p0)) 1 (.fn 99 [.ref (aN p1_0)])) 7 (dI (p0.length : Int))) 8 (dI s4),lks [.no, .no, .no]⟩) h1 ?_ (fun s4 y h2 => ?_)
 exact wk [0,1,2]
 refine sq [0] (rP rfl (bC rfl rfl) (nx (aC ?_)))
 refine bA h2 rfl (fun hc h2 => ?_) (fun hc h2 => ?_)
 refine sk (aC (aD (sq [0,1] (pm ?_))))
 refine pa (nx (sq [0,1,2,3,4,5] ?_))
 refine rP rfl (aL (r := .fn _ _) rfl) (pm ?_)
 refine pm ?_
 obtain ⟨v5,hv5,h2⟩ := bnd h2
 refine rP rfl (cO tok hv5 rfl rfl rfl rfl rfl rfl) (rP rfl (aW tok rfl rfl rfl (by repeat (first | exact gY.z _ | apply gY.t))) ?_)
 obtain ⟨v6,hv6,h2⟩ := bnd h2
 refine rS rfl (aK 3 (nQ hv6) rfl rfl rfl) (nx ?_)
 refine cF h2 rfl (fun hc h2 => ?_) (fun hc h2 => ?_)
 refine sq [0,1] (pm ?_)
 refine pa (nx (aA ?_))
 refine aS (aG ?_)
 cases h2
 refine dC ⟨_,rfl,fun e => ?_⟩
 subst e
 refine aS ?_
 replace h0 := fG h0
 refine aG ?_
 cases h0
 exact r0t 4 rfl
 refine cU (bG (aI (sr [0,1] (rP rfl (bM rfl rfl) (pm (bE ?_))))))
 refine bU ?_
 cases h2
 refine ⟨_,rfl,?_⟩
 exact wk [0,1,2]
 refine bI (bT ?_)
 cases h2
 refine bW ⟨_,rfl,fun e => ?_⟩
 subst e
 refine aM (aI ?_)
 refine ⟨_,rfl,?_⟩
 exact wk [0,1,2]
 rintro v7 rfl
 replace h0 := hJ h0
 refine sq [0] (pa (nx (aA ?_)))
 cases h0
 exact r0t 4 rfl
theorem dJ {p0 : List aZ} {p1_0 : aZ} {r : Bool} (h0 : aO p0 p1_0 = some r) : FnC Tryz.prog 98 [] [dL aN p0, .fn 99 [.ref (aN p1_0)]] [] (dB r) := by
 refine fi 9 tok Tryz.func98 ?_
 unfold aO at h0
 refine sq [0] (pa (nx (sq [0,1,2,3,4] ?_)))
 refine pm ?_
 refine rP rfl (aL (r := .fn _ _) rfl) ?_
 obtain ⟨v1,hv1,h0⟩ := bnd h0
 refine rS rfl (aK 3 (dQ hv1) rfl rfl rfl) (rP rfl (nK rfl rfl) (pa (nx (aA ?_))))
 cases h0
 exact r0t 4 rfl
theorem aG2 {p0 : Int} {p1 : Int} {r : Int} (h0 : pR p0 p1 = some r) : FnC Tryz.prog 117 [] [dI p0,(dI p1)] [] (dI r) := by
 refine fi 16 tok Tryz.func117 ?_
 unfold pR at h0
 refine sq [0] (pa (nx ?_))
 obtain ⟨v5,h1,h0⟩ := bnd h0
 refine bR ⟨aF ((fun _ => .dead)) 0 (dI v5),lks [.no, .no, .no]⟩ ?_ ?_
 refine aD ?_
 refine aR (fun s3 => ⟨aF (aF ((fun _ => .dead)) 0 (dI s3.1)) 1 (dI s3.2),lks [.no, .no, .no]⟩) h1 ?_ (fun s3 y h2 => ?_)
 exact wk [0,1,2]
 refine aC (sq [0,1] (pm ?_))
 refine rP rfl (dD rfl rfl) (nx ?_)
 refine bA h2 rfl (fun hc h2 => ?_) (fun hc h2 => ?_)
 refine sk (aD (bL (is := [0,1,2,3,4,5]) [0,0,0,6,3,31] follows (by kernel_rfl) ?_))
 iterate 3 refine tpm ?_
 obtain ⟨hq4,h2⟩ := cJ h2
 refine tP rfl (rH rfl rfl hq4) (tpa ?_)
 refine tpa ?_
 refine dW ?_
 refine ⟨by kernel_rfl,?_⟩
 refine bG (bU ?_)
 cases h2
 refine ⟨_,rfl,?_⟩
 exact wk [0,1,2]
 refine bI (bT ?_)
 cases h2
 refine bW ⟨_,rfl,fun e => ?_⟩
 subst e
 refine aM (aI ?_)
 exact wk [0,1,2]
 refine aC (sq [0,1] (pm ?_))
 refine rP rfl (bC rfl rfl) (nx ?_)
 refine bA h0 rfl (fun hc h0 => ?_) (fun hc h0 => ?_)
 refine sq [0,1,2] (pm ?_)
 refine rP rfl (aFf rfl) (pa (nx (aA (aG ?_))))
 cases h0
 exact r0t 4 rfl
 refine sk (sq [0,1] (pm ?_))
 refine pa (nx (aA ?_))
 cases h0
 exact r0t 4 rfl
theorem tH {p0 : List aH} {r : Int} (h0 : fX p0 = some r) : FnC Tryz.prog 100 [] [dL aE p0] [] (dI r) := by
 refine fi 25 tok Tryz.func100 ?_
 unfold fX at h0
 refine sq [0] (pa (nx (sq [0] ?_)))
 refine pa (nx ?_)
 obtain ⟨v11,h1,h0⟩ := bnd h0
 refine bR ⟨aF ((fun _ => .dead)) 3 (dI v11),lks [.no, .no, .no]⟩ ?_ ?_
 refine sq [0,1,2] (pm ?_)
 refine rP rfl (aB tok rfl rfl rfl) (pm (nx (aD ?_)))
 refine aR (fun s6 => ⟨aF (aF (aF (aF ((fun _ => .dead)) 3 (dI s6.1)) 6 (dL aE p0)) 7 (dI (p0.length : Int))) 8 (dI s6.2),lks [.no, .no, .no]⟩) h1 ?_ (fun s6 y h2 => ?_)
 exact wk [0,1,2]
 refine sq [0] (rP rfl (bC rfl rfl) (nx (aC ?_)))
 refine bA h2 rfl (fun hc h2 => ?_) (fun hc h2 => ?_)
 refine sk ?_
 obtain ⟨v10,h3,h2⟩ := bnd h2
 refine bR ⟨aF (aF (aF (aF ((fun _ => .dead)) 3 (dI v10)) 6 (dL aE p0)) 7 (dI (p0.length : Int))) 8 (dI s6.2),lks [.no, .no, .no]⟩ ?_ ?_
 refine aD (sq [0,1,2,3] ?_)
 obtain ⟨v7,hv7,h3⟩ := bnd h3
 refine rP rfl (cO tok hv7 rfl rfl rfl rfl rfl rfl) (rP rfl (aW tok rfl rfl rfl (by repeat (first | exact gY.z _ | apply gY.t))) (al 3 [z0,z0,(dB false)] tok ?_))
 refine bst tok (nx (sq [0,1] ?_))
 refine pm ?_
 refine rP rfl (kK rfl rfl) (nx ?_)
 refine bA h3 rfl (fun hc h3 => ?_) (fun hc h3 => ?_)
 refine bL (is := [0,1,2,3,6,7,4,5,8,9]) [0,0,0,4,14,31,0,64,255,511] follows (by kernel_rfl) (tpm ?_)
 refine tpm ?_
 refine tfa tok ?_
 refine tld tok ?_
 refine tfa tok ?_
 refine tld tok ?_
 obtain ⟨v8,hv8,h3⟩ := bnd h3
 refine wG rfl w0 rfl (jD 4 (aG2 hv8) rfl rfl rfl) ?_
 obtain ⟨hq9,h3⟩ := cJ h3
 refine tP rfl (aAp rfl rfl hq9) (tP rfl (aFd rfl rfl) (tpa ?_))
 refine dW ?_
 refine ⟨by kernel_rfl,?_⟩
 refine bG (aI ?_)
 cases h3
 exact wk [0,1,2]
 refine cU (bG (aI ?_))
 cases h3
 exact wk [0,1,2]
 refine sr [0,1] (rP rfl (bM rfl rfl) (pm (bE ?_)))
 refine bU ?_
 cases h2
 refine ⟨_,rfl,?_⟩
 exact wk [0,1,2]
 refine bI (bT ?_)
 cases h2
 refine bW ⟨_,rfl,fun e => ?_⟩
 subst e
 refine aM (aI ?_)
 exact wk [0,1,2]
 refine sq [0,1] (pm ?_)
 refine pa (nx (aA ?_))
 cases h0
 exact r0t 2 rfl
theorem pF {p0 : bP} {r : Bool} (h0 : eJ p0 = some r) : FnC Tryz.prog 59 [] [.agg [dS p0.Name,(dL aN p0.Months),(dL aE p0.Rules),(dI p0.Week)]] [] (dB r) := by
 refine fi 91 tok Tryz.func59 ?_
 unfold eJ at h0
 refine sq [0,1] (bxx 3 ?_)
 refine pa (nx (aC ?_))
 obtain ⟨v3,h1,h0⟩ := bnd h0
 refine bR ⟨aF (aF ((fun _ => .dead)) 1 (.ptr 3 0 1 0 0)) 34 (dB v3),lks [.no, .no, .no, .live [⟨44,4, .av [[dS p0.Name,(dL aN p0.Months),(dL aE p0.Rules),(dI p0.Week)]]⟩]]⟩ ?_ ?_
 refine sr [0,1,2,3,4,5,6,7,8,9,10,11,12,13,14,15,16,17,18,19,20,21,22,23,24,25,26,27] (fa tok ?_)
 refine ld tok ?_
 obtain ⟨v1,hv1,h1⟩ := bnd h1
 refine rS rfl (aK 4 (nE hv1) rfl rfl rfl) (rP rfl (bX rfl) (pm ?_))
 refine cT (u := 11) h1 rfl (fun hc h1 => ?_) (fun hc h1 => ?_)
 iterate 4 refine k1 ?_
 refine pkt ?_
 refine pm ?_
 iterate 4 refine k1 ?_
 refine pkt ?_
 refine pm ?_
 iterate 4 refine k1 ?_
 refine pkt ?_
 refine pm ?_
 iterate 4 refine k1 ?_
 refine pkt (nx ?_)
 cases h1
 exact wk [0,1,2,3]
 refine fa1 tok ?_
 refine ld1 tok ?_
 refine rp rfl (w1 rfl rfl rfl) rfl (aB tok rfl rfl rfl) (rp rfl (w1 rfl rfl rfl) rfl (bC rfl rfl) (pkf ?_))
 refine pm ?_
 refine jJ (u := 17) h1 rfl (fun hc h1 => ?_) (fun hc h1 => ?_)
 iterate 4 refine k1 ?_
 refine pkt ?_
 refine pm ?_
 iterate 4 refine k1 ?_
 refine pkt ?_
 refine pm ?_
 iterate 4 refine k1 ?_
 refine pkt (nx ?_)
 cases h1
 exact wk [0,1,2,3]
 refine fa1 tok ?_
 refine ld1 tok ?_
 refine rp rfl (w1 rfl rfl rfl) rfl (aB tok rfl rfl rfl) (rp rfl (w1 rfl rfl rfl) rfl (kV rfl rfl) (pkf ?_))
 refine pm ?_
 refine jJ (u := 23) h1 rfl (fun hc h1 => ?_) (fun hc h1 => ?_)
 iterate 4 refine k1 ?_
 refine pkt ?_
 refine pm ?_
 iterate 4 refine k1 ?_
 refine pkt (nx ?_)
 cases h1
 exact wk [0,1,2,3]
 refine fa1 tok ?_
 refine ld1 tok ?_
 refine rp rfl (w1 rfl rfl rfl) rfl (aB tok rfl rfl rfl) (rp rfl (w1 rfl rfl rfl) rfl (kV rfl rfl) (pkf ?_))
 refine pm ?_
 refine jJ (u := 29) h1 rfl (fun hc h1 => ?_) (fun hc h1 => ?_)
 iterate 4 refine k1 ?_
 refine pkt (nx ?_)
 cases h1
 exact wk [0,1,2,3]
 refine fa1 tok ?_
 refine ld1 tok ?_
 obtain ⟨v2,hv2,h1⟩ := bnd h1
 refine rs rfl (w1 rfl rfl rfl) rfl (aK 4 (dV hv2) rfl rfl rfl) (rp rfl (w1 rfl rfl rfl) rfl (bX rfl) (pkf (nx ?_)))
 cases h1
 exact wk [0,1,2,3]
 refine cF h0 rfl (fun hc h0 => ?_) (fun hc h0 => ?_)
 refine sq [0] (pa (nx (aA (aG ?_))))
 cases h0
 exact r0t 2 rfl
 refine sk ?_
 obtain ⟨v20x,h1,h0⟩ := bnd h0
 refine cQ v20x (fun v20 => ⟨aF ((fun _ => .dead)) 1 (.ptr 3 0 1 0 0),lks [.no, .no, .no, .live [⟨44,4, .av [[dS p0.Name,(dL aN p0.Months),(dL aE p0.Rules),(dI p0.Week)]]⟩]]⟩) ?_ ?_
 refine sq [0,1,2,3] (fa tok ?_)
 refine ld tok ?_
 refine rP rfl (aB tok rfl rfl rfl) (pm (nx (aD ?_)))
 refine aR (fun s12 => ⟨aF (aF (aF (aF ((fun _ => .dead)) 1 (.ptr 3 0 1 0 0)) 36 (dL aN p0.Months)) 37 (dI (p0.Months.length : Int))) 38 (dI s12),lks [.no, .no, .no, .live [⟨44,4, .av [[dS p0.Name,(dL aN p0.Months),(dL aE p0.Rules),(dI p0.Week)]]⟩]]⟩) h1 ?_ (fun s12 y h2 => ?_)
 exact wk [0,1,2,3]
 refine sq [0] (rP rfl (bC rfl rfl) (nx (aC ?_)))
 refine bA h2 rfl (fun hc h2 => ?_) (fun hc h2 => ?_)
 refine sk (aC (aD (sq [0,1,2,3,4,5] (pm ?_))))
 obtain ⟨v13,hv13,h2⟩ := bnd h2
 refine rP rfl (cO tok hv13 rfl rfl rfl rfl rfl rfl) (rP rfl (aW tok rfl rfl rfl (by repeat (first | exact gY.z _ | apply gY.t))) (al 4 [ze,z0,z0] tok ?_))
 refine pa ?_
 refine bst tok (nx (aC ?_))
 obtain ⟨v17,h3,h2⟩ := bnd h2
 refine bR ⟨aF (aF (aF (aF (aF (aF (aF ((fun _ => .dead)) 1 (.ptr 3 0 1 0 0)) 3 (dI s12)) 4 (.ptr 4 0 1 0 0)) 36 (dL aN p0.Months)) 37 (dI (p0.Months.length : Int))) 38 (dI s12)) 58 (dB v17),lks [.no, .no, .no, .live [⟨44,4, .av [[dS p0.Name,(dL aN p0.Months),(dL aE p0.Rules),(dI p0.Week)]]⟩], .live [⟨139,3, .av [[dS v13.Name,(dI v13.Days),(dI v13.Leap)]]⟩]]⟩ ?_ ?_
 refine sr [0,1,2,3,4,5,6,7,8,9,10,11,12,13,14,15] (fa tok ?_)
 refine ld tok ?_
 obtain ⟨v14,hv14,h3⟩ := bnd h3
 refine rS rfl (aK 5 (nE hv14) rfl rfl rfl) (rP rfl (bX rfl) (pm ?_))
 refine cT (u := 47) h3 rfl (fun hc h3 => ?_) (fun hc h3 => ?_)
 iterate 4 refine k1 ?_
 refine pkt ?_
 refine pm ?_
 iterate 4 refine k1 ?_
 refine pkt (nx ?_)
 cases h3
 exact wk [0,1,2,3,4]
 refine fa1 tok ?_
 refine ld1 tok ?_
 obtain ⟨v15,hv15,h3⟩ := bnd h3
 refine rs rfl (w1 rfl rfl rfl) rfl (aK 5 (dV hv15) rfl rfl rfl) (rp rfl (w1 rfl rfl rfl) rfl (bX rfl) (pkf ?_))
 refine pm ?_
 refine cT (u := 53) h3 rfl (fun hc h3 => ?_) (fun hc h3 => ?_)
 iterate 4 refine k1 ?_
 refine pkt (nx ?_)
 cases h3
 exact wk [0,1,2,3,4]
 refine fa1 tok ?_
 refine ld1 tok ?_
 obtain ⟨v16,hv16,h3⟩ := bnd h3
 refine rs rfl (w1 rfl rfl rfl) rfl (aK 5 (dV hv16) rfl rfl rfl) (rp rfl (w1 rfl rfl rfl) rfl (bX rfl) (pkf (nx ?_)))
 cases h3
 exact wk [0,1,2,3,4]
 refine cF h2 rfl (fun hc h2 => ?_) (fun hc h2 => ?_)
 refine sq [0] (pa (nx (aA (aG ?_))))
 refine aS (aG ?_)
 cases h2
 refine dC ⟨_,rfl,fun e => ?_⟩
 subst e
 refine aS ?_
 replace h0 := fG h0
 refine aG ?_
 cases h0
 exact r0t 2 rfl
 refine sk (sq [0,1,2,3,4,5] (fa tok ?_))
 refine ld tok ?_
 refine pm ?_
 obtain ⟨hq18,h2⟩ := cJ h2
 refine rP rfl (rC tok hq18 rfl (.inl ⟨rfl,rfl⟩) (.inr ⟨_,_,rfl,rfl⟩) rfl rfl rfl (fun _ => rfl)) (rP rfl (zL rfl) ?_)
 obtain ⟨v19,hv19,h2⟩ := bnd h2
 refine rS rfl (gZ 5 (dJ hv19) rfl rfl) (nx ?_)
 refine cF h2 rfl (fun hc h2 => ?_) (fun hc h2 => ?_)
 refine sq [0] (pa (nx (aA ?_)))
 refine aS (aG ?_)
 cases h2
 refine dC ⟨_,rfl,fun e => ?_⟩
 subst e
 refine aS ?_
 replace h0 := fG h0
 refine aG ?_
 cases h0
 exact r0t 2 rfl
 refine cU (bG (aI (sr [0,1] (rP rfl (bM rfl rfl) (pm (bE ?_))))))
 refine bU ?_
 cases h2
 refine ⟨_,rfl,?_⟩
 exact wk [0,1,2,3]
 refine bI (bT ?_)
 cases h2
 refine bW ⟨_,rfl,fun e => ?_⟩
 subst e
 refine aM (aI ?_)
 refine ⟨_,rfl,?_⟩
 exact wk [0,1,2,3]
 rintro v20 rfl
 replace h0 := hJ h0
 obtain ⟨v31x,h1,h0⟩ := bnd h0
 refine cQ v31x (fun v31 => ⟨aF ((fun _ => .dead)) 1 (.ptr 3 0 1 0 0),lks [.no, .no, .no, .live [⟨44,4, .av [[dS p0.Name,(dL aN p0.Months),(dL aE p0.Rules),(dI p0.Week)]]⟩]]⟩) ?_ ?_
 refine sq [0,1,2,3] (fa tok ?_)
 refine ld tok ?_
 refine rP rfl (aB tok rfl rfl rfl) (pm (nx (aD ?_)))
 refine aR (fun s26 => ⟨aF (aF (aF (aF ((fun _ => .dead)) 1 (.ptr 3 0 1 0 0)) 67 (dL aE p0.Rules)) 68 (dI (p0.Rules.length : Int))) 69 (dI s26),lks [.no, .no, .no, .live [⟨44,4, .av [[dS p0.Name,(dL aN p0.Months),(dL aE p0.Rules),(dI p0.Week)]]⟩]]⟩) h1 ?_ (fun s26 y h2 => ?_)
 exact wk [0,1,2,3]
 refine sq [0] (rP rfl (bC rfl rfl) (nx (aC ?_)))
 refine bA h2 rfl (fun hc h2 => ?_) (fun hc h2 => ?_)
 refine sk (aC (aD (sq [0,1,2,3] ?_)))
 obtain ⟨v27,hv27,h2⟩ := bnd h2
 refine rP rfl (cO tok hv27 rfl rfl rfl rfl rfl rfl) (rP rfl (aW tok rfl rfl rfl (by repeat (first | exact gY.z _ | apply gY.t))) (al 4 [z0,z0,(dB false)] tok ?_))
 refine bst tok (nx ?_)
 obtain ⟨v30,h3,h2⟩ := bnd h2
 refine bR ⟨aF (aF (aF (aF (aF ((fun _ => .dead)) 1 (.ptr 3 0 1 0 0)) 67 (dL aE p0.Rules)) 68 (dI (p0.Rules.length : Int))) 69 (dI s26)) 85 (dB v30),lks [.no, .no, .no, .live [⟨44,4, .av [[dS p0.Name,(dL aN p0.Months),(dL aE p0.Rules),(dI p0.Week)]]⟩]]⟩ ?_ ?_
 refine sr [0,1,2,3,4,5,6,7,8,9,10,11,12] (fa tok ?_)
 refine ld tok ?_
 obtain ⟨v28,hv28,h3⟩ := bnd h3
 refine rS rfl (aK 5 (dV hv28) rfl rfl rfl) (rP rfl (bX rfl) (pm ?_))
 refine cT (u := 77) h3 rfl (fun hc h3 => ?_) (fun hc h3 => ?_)
 iterate 7 refine k1 ?_
 refine pkt (nx ?_)
 cases h3
 exact wk [0,1,2,3]
 refine fa1 tok ?_
 refine ld1 tok ?_
 refine fa1 tok ?_
 refine ld1 tok ?_
 refine rp rfl (w1 rfl rfl rfl) rfl (iB rfl rfl) ?_
 obtain ⟨v29,hv29,h3⟩ := bnd h3
 refine rs rfl (w1 rfl rfl rfl) rfl (aK 5 (dV hv29) rfl rfl rfl) (rp rfl (w1 rfl rfl rfl) rfl (bX rfl) (pkf (nx ?_)))
 cases h3
 exact wk [0,1,2,3]
 refine cF h2 rfl (fun hc h2 => ?_) (fun hc h2 => ?_)
 refine sq [0] (pa (nx (aA ?_)))
 refine aS (aG ?_)
 cases h2
 refine dC ⟨_,rfl,fun e => ?_⟩
 subst e
 refine aS ?_
 replace h0 := fG h0
 refine aG ?_
 cases h0
 exact r0t 2 rfl
 refine cU (bG (aI (sr [0,1] (rP rfl (bM rfl rfl) (pm (bE ?_))))))
 refine bU ?_
 cases h2
 refine ⟨_,rfl,?_⟩
 exact wk [0,1,2,3]
 refine bI (bT ?_)
 cases h2
 refine bW ⟨_,rfl,fun e => ?_⟩
 subst e
 refine aM (aI ?_)
 refine ⟨_,rfl,?_⟩
 exact wk [0,1,2,3]
 rintro v31 rfl
 replace h0 := hJ h0
 refine sq [0,1,2,3,4] (fa tok ?_)
 refine ld tok ?_
 obtain ⟨v32,hv32,h0⟩ := bnd h0
 refine rS rfl (aK 4 (tH hv32) rfl rfl rfl) (rP rfl (kK rfl rfl) (pa (nx (aA ?_))))
 cases h0
 exact r0t 2 rfl
theorem pW {p0 : List Int} {r : Bool} (h0 : gV p0 = some r) : FnC Tryz.prog 60 [] [dL cI p0] [] (dB r) := by
 refine fi 23 tok Tryz.func60 ?_
 unfold gV at h0
 refine sq [0] (pa (nx ?_))
 obtain ⟨v7x,h1,h0⟩ := bnd h0
 refine cQ v7x (fun v7 => ⟨aF ((fun _ => .dead)) 0 (dL cI p0),lks [.no, .no, .no]⟩) ?_ ?_
 refine sq [0,1,2] (pm ?_)
 refine rP rfl (aB tok rfl rfl rfl) (pm (nx (aD ?_)))
 refine aR (fun s4 => ⟨aF (aF (aF (aF ((fun _ => .dead)) 0 (dL cI p0)) 5 (dL cI p0)) 6 (dI (p0.length : Int))) 7 (dI s4),lks [.no, .no, .no]⟩) h1 ?_ (fun s4 y h2 => ?_)
 exact wk [0,1,2]
 refine sq [0] (rP rfl (bC rfl rfl) (nx (aC ?_)))
 refine bA h2 rfl (fun hc h2 => ?_) (fun hc h2 => ?_)
 refine sk (aC (aD (sq [0,1,2] ?_)))
 obtain ⟨v5,hv5,h2⟩ := bnd h2
 refine rP rfl (cO tok hv5 rfl rfl rfl rfl rfl rfl) (lr tok ?_)
 refine pa (nx (sq [0,1,2] ?_))
 refine pm ?_
 obtain ⟨v6,hv6,h2⟩ := bnd h2
 refine rS rfl (aK 3 (dV hv6) rfl rfl rfl) (rP rfl (bX rfl) (nx ?_))
 refine cF h2 rfl (fun hc h2 => ?_) (fun hc h2 => ?_)
 refine sq [0] (pa (nx (aA ?_)))
 refine aS (aG ?_)
 cases h2
 refine dC ⟨_,rfl,fun e => ?_⟩
 subst e
 refine aS ?_
 replace h0 := fG h0
 refine aG ?_
 cases h0
 exact r0t 2 rfl
 refine cU (bG (aI (sr [0,1] (rP rfl (bM rfl rfl) (pm (bE ?_))))))
 refine bU ?_
 cases h2
 refine ⟨_,rfl,?_⟩
 exact wk [0,1,2]
 refine bI (bT ?_)
 cases h2
 refine bW ⟨_,rfl,fun e => ?_⟩
 subst e
 refine aM (aI ?_)
 refine ⟨_,rfl,?_⟩
 exact wk [0,1,2]
 rintro v7 rfl
 replace h0 := hJ h0
 refine sq [0,1,2,3,4,5,6,7,8] (pm ?_)
 refine rP rfl (aB tok rfl rfl rfl) (rP rfl (nK rfl rfl) (pm ?_))
 refine jJ (u := 18) h0 rfl (fun hc h0 => ?_) (fun hc h0 => ?_)
 refine pm1 ?_
 refine rp rfl (w1 rfl rfl rfl) rfl (aB tok rfl rfl rfl) (rp rfl (w1 rfl rfl rfl) rfl (kK rfl rfl) (pkt ?_))
 refine pa (nx (aA ?_))
 cases h0
 exact r0t 2 rfl
 iterate 3 refine k1 ?_
 refine pkf ?_
 refine pa (nx (aA ?_))
 cases h0
 exact r0t 2 rfl
theorem pO {p0 : aV} {r : Bool} (h0 : eG p0 = some r) : FnC Tryz.prog 24 [] [.agg [dS p0.Name,(dL aJ p0.Works.Arbors),(dL bF p0.Works.Meshes),(dI p0.Minute),(dI p0.Hour),(dI p0.Escape),(dI p0.Teeth),(dI p0.Beats),(dS p0.Calendar.Name),(dL aN p0.Calendar.Months),(dL aE p0.Calendar.Rules),(dI p0.Calendar.Week),(dL cI p0.Cam),(dI p0.Strike)]] [] (dB r) := by
 refine fi 61 tok Tryz.func24 ?_
 unfold eG at h0
 refine sq [0,1] (bxx 3 ?_)
 refine pa (nx ?_)
 obtain ⟨v4,h1,h0⟩ := bnd h0
 refine bR ⟨aF (aF ((fun _ => .dead)) 1 (.ptr 3 0 1 0 0)) 3 (dB v4),lks [.no, .no, .no, .live [⟨46,14, .av [[dS p0.Name,(dL aJ p0.Works.Arbors),(dL bF p0.Works.Meshes),(dI p0.Minute),(dI p0.Hour),(dI p0.Escape),(dI p0.Teeth),(dI p0.Beats),(dS p0.Calendar.Name),(dL aN p0.Calendar.Months),(dL aE p0.Calendar.Rules),(dI p0.Calendar.Week),(dL cI p0.Cam),(dI p0.Strike)]]⟩]]⟩ ?_ ?_
 refine sr [0,1,2,3,4,5,6,7,8,9,10,11,12,13,14,15,16,17,18,19] (fa tok ?_)
 refine rL rfl (cM tok rfl rfl rfl rfl) (fa tok ?_)
 refine ld tok ?_
 obtain ⟨v1,hv1,h1⟩ := bnd h1
 refine rS rfl (aK 4 (nX hv1) rfl rfl rfl) (pm ?_)
 refine cT (u := 10) h1 rfl (fun hc h1 => ?_) (fun hc h1 => ?_)
 refine fa1 tok ?_
 refine rl rfl (w1 rfl rfl rfl) rfl (cM tok rfl rfl rfl rfl) (fa1 tok ?_)
 refine ld1 tok ?_
 obtain ⟨v2,hv2,h1⟩ := bnd h1
 refine rs rfl (w1 rfl rfl rfl) rfl (aK 4 (nX hv2) rfl rfl rfl) (pkt ?_)
 refine pm ?_
 refine cT (u := 17) h1 rfl (fun hc h1 => ?_) (fun hc h1 => ?_)
 refine fa1 tok ?_
 refine rl rfl (w1 rfl rfl rfl) rfl (cM tok rfl rfl rfl rfl) (fa1 tok ?_)
 refine ld1 tok ?_
 obtain ⟨v3,hv3,h1⟩ := bnd h1
 refine rs rfl (w1 rfl rfl rfl) rfl (aK 4 (nX hv3) rfl rfl rfl) (pkt ?_)
 refine pa (nx ?_)
 cases h1
 exact wk [0,1,2,3]
 iterate 5 refine k1 ?_
 refine pkf ?_
 refine pa (nx ?_)
 cases h1
 exact wk [0,1,2,3]
 iterate 5 refine k1 ?_
 refine pkf ?_
 refine pm ?_
 iterate 5 refine k1 ?_
 refine pkf ?_
 refine pa (nx ?_)
 cases h1
 exact wk [0,1,2,3]
 obtain ⟨v8,h1,h0⟩ := bnd h0
 refine bR ⟨aF (aF (aF ((fun _ => .dead)) 1 (.ptr 3 0 1 0 0)) 3 (dB v4)) 4 (dB v8),lks [.no, .no, .no, .live [⟨46,14, .av [[dS p0.Name,(dL aJ p0.Works.Arbors),(dL bF p0.Works.Meshes),(dI p0.Minute),(dI p0.Hour),(dI p0.Escape),(dI p0.Teeth),(dI p0.Beats),(dS p0.Calendar.Name),(dL aN p0.Calendar.Months),(dL aE p0.Calendar.Rules),(dI p0.Calendar.Week),(dL cI p0.Cam),(dI p0.Strike)]]⟩]]⟩ ?_ ?_
 refine sr [0,1,2,3,4,5,6,7,8,9,10,11,12,13] (fa tok ?_)
 refine ld tok ?_
 obtain ⟨v5,hv5,h1⟩ := bnd h1
 refine rS rfl (aK 4 (rR hv5) rfl rfl rfl) (pm ?_)
 refine cT (u := 27) h1 rfl (fun hc h1 => ?_) (fun hc h1 => ?_)
 refine fa1 tok ?_
 refine ld1 tok ?_
 obtain ⟨v6,hv6,h1⟩ := bnd h1
 refine rs rfl (w1 rfl rfl rfl) rfl (aK 4 (dV hv6) rfl rfl rfl) (pkt ?_)
 refine pm ?_
 refine cT (u := 32) h1 rfl (fun hc h1 => ?_) (fun hc h1 => ?_)
 refine fa1 tok ?_
 refine ld1 tok ?_
 obtain ⟨v7,hv7,h1⟩ := bnd h1
 refine rs rfl (w1 rfl rfl rfl) rfl (aK 4 (dV hv7) rfl rfl rfl) (pkt ?_)
 refine pa (nx ?_)
 cases h1
 exact wk [0,1,2,3]
 iterate 3 refine k1 ?_
 refine pkf ?_
 refine pa (nx ?_)
 cases h1
 exact wk [0,1,2,3]
 iterate 3 refine k1 ?_
 refine pkf ?_
 refine pm ?_
 iterate 3 refine k1 ?_
 refine pkf ?_
 refine pa (nx ?_)
 cases h1
 exact wk [0,1,2,3]
 refine sq [0,1,2,3,4,5,6,7,8,9,10,11,12,13,14,15,16,17,18,19,20,21,22,23,24] (pm ?_)
 refine pm ?_
 refine cT (u := 38) h0 rfl (fun hc h0 => ?_) (fun hc h0 => ?_)
 refine pm1 ?_
 refine pkt ?_
 refine pm ?_
 refine cT (u := 41) h0 rfl (fun hc h0 => ?_) (fun hc h0 => ?_)
 refine fa1 tok ?_
 refine ld1 tok ?_
 obtain ⟨v9,hv9,h0⟩ := bnd h0
 refine rs rfl (w1 rfl rfl rfl) rfl (aK 4 (nE hv9) rfl rfl rfl) (pkt ?_)
 refine pm ?_
 refine cT (u := 46) h0 rfl (fun hc h0 => ?_) (fun hc h0 => ?_)
 refine fa1 tok ?_
 refine rl rfl (w1 rfl rfl rfl) rfl (cM tok rfl rfl rfl rfl) ?_
 obtain ⟨v10,hv10,h0⟩ := bnd h0
 refine rs rfl (w1 rfl rfl rfl) rfl (aK 4 (sZ hv10) rfl rfl rfl) (pkt ?_)
 refine pm ?_
 refine cT (u := 51) h0 rfl (fun hc h0 => ?_) (fun hc h0 => ?_)
 refine fa1 tok ?_
 refine rl rfl (w1 rfl rfl rfl) rfl (cM tok rfl rfl rfl rfl) ?_
 obtain ⟨v11,hv11,h0⟩ := bnd h0
 refine rs rfl (w1 rfl rfl rfl) rfl (aK 4 (pF hv11) rfl rfl rfl) (pkt ?_)
 refine pm ?_
 refine cT (u := 56) h0 rfl (fun hc h0 => ?_) (fun hc h0 => ?_)
 refine fa1 tok ?_
 refine ld1 tok ?_
 obtain ⟨v12,hv12,h0⟩ := bnd h0
 refine rs rfl (w1 rfl rfl rfl) rfl (aK 4 (pW hv12) rfl rfl rfl) (pkt ?_)
 refine pa (nx (aA ?_))
 cases h0
 exact r0t 2 rfl
 iterate 3 refine k1 ?_
 refine pkf ?_
 refine pa (nx (aA ?_))
 cases h0
 exact r0t 2 rfl
 iterate 3 refine k1 ?_
 refine pkf ?_
 refine pm ?_
 iterate 3 refine k1 ?_
 refine pkf ?_
 refine pa (nx (aA ?_))
 cases h0
 exact r0t 2 rfl
 iterate 3 refine k1 ?_
 refine pkf ?_
 refine pm ?_
 iterate 3 refine k1 ?_
 refine pkf ?_
 refine pm ?_
 iterate 3 refine k1 ?_
 refine pkf ?_
 refine pa (nx (aA ?_))
 cases h0
 exact r0t 2 rfl
 iterate 3 refine k1 ?_
 refine pkf ?_
 refine pm ?_
 iterate 3 refine k1 ?_
 refine pkf ?_
 refine pm ?_
 iterate 3 refine k1 ?_
 refine pkf ?_
 refine pm ?_
 iterate 3 refine k1 ?_
 refine pkf ?_
 refine pa (nx (aA ?_))
 cases h0
 exact r0t 2 rfl
 refine k1 ?_
 refine pkf ?_
 refine pm ?_
 iterate 3 refine k1 ?_
 refine pkf ?_
 refine pm ?_
 iterate 3 refine k1 ?_
 refine pkf ?_
 refine pm ?_
 iterate 3 refine k1 ?_
 refine pkf ?_
 refine pm ?_
 iterate 3 refine k1 ?_
 refine pkf ?_
 refine pa (nx (aA ?_))
 cases h0
 exact r0t 2 rfl
theorem jO {p0 : List Int} {r : List Int} (h0 : cN p0 = some r) : FnC Tryz.prog 26 [] [dL cI p0] [] (.fn 63 [.ref ((cL cI) r)]) := by
 refine fi 4 tok Tryz.func26 ?_
 unfold cN at h0
 refine sq [0,1] (rS rfl (aFk 3 (cs := [.d _]) rfl rfl rfl) (pa (nx (sq [0,1] ?_))))
 refine rP rfl (zL rfl) (rP rfl (aQ (r := .fn _ _) rfl) (nx (nP (aJ9 (k := 3) (t' := aF ((fun _ => .dead)) 2 (.fn 63 [.ref ((cL cI) p0)])) rfl (FzL.nil)) (aA ?_))))
 cases h0
 exact r0t 2 rfl
theorem mI {p0 : List Int} {r : List Int} (h0 : fB p0 = some r) : FnC Tryz.prog 61 [] [.fn 63 [.ref (cL cI p0)]] [.live [⟨2,1, .data (List.map cI r)⟩]] (.own 0 0 r.length) := by
 obtain ⟨q0,h0⟩ := cJ h0
 cases h0
 exact aC7 q0
theorem jP {p0 : List Int} {r : List Int} (h0 : dF p0 = some r) : FnC Tryz.prog 62 [.live [⟨2,1, .data (List.map cI p0)⟩]] [.own 0 0 (p0).length] [.live [⟨2,1, .data (List.map cI r)⟩]] (.tup []) := by
 obtain ⟨q0,h0⟩ := cJ h0
 cases h0
 exact aHl q0
theorem dP {p0_0 : List Int} {r : List Int} (h0 : bB p0_0 = some r) : FnC Tryz.prog 25 [] [.fn 63 [.ref ((cL cI) p0_0)]] [.live [⟨2,1, .data (List.map cI r)⟩]] (.own 0 0 r.length) := by
 refine fi 9 tok Tryz.func25 ?_
 unfold bB at h0
 refine sq [0] (pa (nx (sq [0,1,2] ?_)))
 refine rP rfl (aL (r := .fn _ _) rfl) ?_
 obtain ⟨v1,hv1,h0⟩ := bnd h0
 refine rS rfl (aK 3 (mI hv1) rfl rfl rfl) (rP rfl (aQ (r := .own _ _ _) rfl) (nx (sq [0,1] (rP rfl (aL (r := .own _ _ _) rfl) ?_))))
 obtain ⟨v2,hv2,h0⟩ := bnd h0
 obtain ⟨hq3,h0⟩ := cJ h0
 refine rw1 rfl w0 rfl (lI [3] 300 (jP hv2) rfl rfl) (nx (sq [0,1] (rP rfl (aL (r := .own _ _ _) rfl) (rP rfl (aQ (r := .own _ _ _) rfl) (nx (aA ?_))))))
 cases h0
 exact lT (rs := [.tmp 2]) [3] rfl
theorem nY {p0 p1 : Int} {r : ByteArray} (h0 : gI p0 p1 = some r) : FnC Tryz.prog 64 [] [dI p0,(dI p1)] [] (dS r) := by
 obtain ⟨⟨q0,q1,q2⟩,h0⟩ := cJ h0
 cases h0
 subst q2
 exact aHm q0 q1
theorem mF {p0 : Int} {r : ByteArray} (h0 : fJ p0 = some r) : FnC Tryz.prog 27 [] [dI p0] [] (dS r) := by
 refine fi 5 tok Tryz.func27 ?_
 unfold fJ at h0
 refine sq [0] (pa (nx (sq [0,1,2] ?_)))
 refine pm ?_
 obtain ⟨v1,hv1,h0⟩ := bnd h0
 refine rS rfl (aK 3 (nY hv1) rfl rfl rfl) (pa (nx (aA ?_)))
 cases h0
 exact r0t 2 rfl
theorem sY {p0 : List ByteArray} {p1 r : ByteArray} (h0 : lH p0 p1 = some r) : FnC Tryz.prog 28 [] [dL cS p0,(dS p1)] [] (dS r) := by
 obtain ⟨⟨q0,q1⟩,h0⟩ := cJ h0
 cases h0
 exact aGj q0 q1
theorem uW {p0 : List Int} {r : List Int × Int} (h0 : hU p0 = some r) : FnC Tryz.prog 29 [] [dL cI p0] [] (.tup [dL cI r.1,(dI r.2)]) := by
 unfold hU at h0
 obtain ⟨v1,hv1,h0⟩ := bnd h0
 obtain ⟨⟨q0,q1⟩,h0⟩ := cJ h0
 cases h0
 exact aD3 q0 q1 (pW hv1)
theorem sT {p0 : aV} {r : List ByteArray × Int} (h0 : iK p0 = some r) : FnC Tryz.prog 7 [] [.agg [dS p0.Name,(dL aJ p0.Works.Arbors),(dL bF p0.Works.Meshes),(dI p0.Minute),(dI p0.Hour),(dI p0.Escape),(dI p0.Teeth),(dI p0.Beats),(dS p0.Calendar.Name),(dL aN p0.Calendar.Months),(dL aE p0.Calendar.Rules),(dI p0.Calendar.Week),(dL cI p0.Cam),(dI p0.Strike)]] [.live [⟨9,1, .data (List.map cS r.1)⟩]] (.tup [.own 0 0 r.1.length,(dI r.2)]) := by
 refine fi 74 tok Tryz.func7 ?_
 unfold iK at h0
 refine sq [0,1,2] (bxx 3 ?_)
 refine pa ?_
 refine pa (nx (aC (sq [0,1,2] ?_)))
 refine rL rfl (cM tok rfl rfl rfl rfl) ?_
 obtain ⟨v1,hv1,h0⟩ := bnd h0
 refine rS rfl (aK 4 (pO hv1) rfl rfl rfl) (rP rfl (bX rfl) (nx ?_))
 refine cF h0 rfl (fun hc h0 => ?_) (fun hc h0 => ?_)
 refine sq [0,1] (pa ?_)
 refine pa (nx ?_)
 refine nP (lF 4 rfl 9 1 (d := 2) rfl) (aA (aG ?_))
 cases h0
 exact lT (rs := [.tmp 2, .tmp 3]) [4] rfl
 refine sk (sq [0] (pa (nx ?_)))
 obtain ⟨v34,h1,h0⟩ := bnd h0
 refine bR ⟨aF (aF ((fun _ => .dead)) 1 (.ptr 3 0 1 0 0)) 4 (.own 4 0 (v34).length),lks [.no, .no, .no, .live [⟨46,14, .av [[dS p0.Name,(dL aJ p0.Works.Arbors),(dL bF p0.Works.Meshes),(dI p0.Minute),(dI p0.Hour),(dI p0.Escape),(dI p0.Teeth),(dI p0.Beats),(dS p0.Calendar.Name),(dL aN p0.Calendar.Months),(dL aE p0.Calendar.Rules),(dI p0.Calendar.Week),(dL cI p0.Cam),(dI p0.Strike)]]⟩], .live [⟨9,1, .data (List.map cS v34)⟩]]⟩ ?_ ?_
 refine sq [0,1,2,3,4] (fa tok ?_)
 refine fa tok ?_
 refine ld tok ?_
 refine rP rfl (aB tok rfl rfl rfl) (pm (nx (aD ?_)))
 refine aR (fun s18 => ⟨aF (aF (aF (aF (aF ((fun _ => .dead)) 1 (.ptr 3 0 1 0 0)) 4 (.own 4 0 (s18.2).length)) 17 (dL aJ p0.Works.Arbors)) 18 (dI (p0.Works.Arbors.length : Int))) 19 (dI s18.1),lks [.no, .no, .no, .live [⟨46,14, .av [[dS p0.Name,(dL aJ p0.Works.Arbors),(dL bF p0.Works.Meshes),(dI p0.Minute),(dI p0.Hour),(dI p0.Escape),(dI p0.Teeth),(dI p0.Beats),(dS p0.Calendar.Name),(dL aN p0.Calendar.Months),(dL aE p0.Calendar.Rules),(dI p0.Calendar.Week),(dL cI p0.Cam),(dI p0.Strike)]]⟩], .live [⟨9,1, .data (List.map cS s18.2)⟩]]⟩) h1 ?_ (fun s18 y h2 => ?_)
 refine nC.trans_ (lF 4 rfl 9 1 (d := 4) rfl) ?_
 exact wk [0,1,2,3,4]
 refine sq [0] (rP rfl (bC rfl rfl) (nx (aC ?_)))
 refine bA h2 rfl (fun hc h2 => ?_) (fun hc h2 => ?_)
 refine sk ?_
 obtain ⟨v33,h3,h2⟩ := bnd h2
 refine bR ⟨aF (aF (aF (aF (aF ((fun _ => .dead)) 1 (.ptr 3 0 1 0 0)) 4 (.own 4 0 (v33).length)) 17 (dL aJ p0.Works.Arbors)) 18 (dI (p0.Works.Arbors.length : Int))) 19 (dI s18.1),lks [.no, .no, .no, .live [⟨46,14, .av [[dS p0.Name,(dL aJ p0.Works.Arbors),(dL bF p0.Works.Meshes),(dI p0.Minute),(dI p0.Hour),(dI p0.Escape),(dI p0.Teeth),(dI p0.Beats),(dS p0.Calendar.Name),(dL aN p0.Calendar.Months),(dL aE p0.Calendar.Rules),(dI p0.Calendar.Week),(dL cI p0.Cam),(dI p0.Strike)]]⟩], .live [⟨9,1, .data (List.map cS v33)⟩]]⟩ ?_ ?_
 refine aD (sq [0,1,2,3] ?_)
 obtain ⟨v19,hv19,h3⟩ := bnd h3
 refine rP rfl (cO tok hv19 rfl rfl rfl rfl rfl rfl) (rP rfl (aW tok rfl rfl rfl (by repeat (first | exact gY.z _ | apply gY.t))) (al 5 [ze,zl] tok ?_))
 refine bst tok (nx (sq [0,1,2,3] ?_))
 refine fa tok ?_
 refine ld tok ?_
 refine rS rfl (aAv 6 tok cS [(⟨#[97,114,98,111,114]⟩ : ByteArray),v19.Name] rfl rfl rfl (by repeat (first | exact Els.nil _ | apply Els.cons (cs := [.d _]) rfl rfl rfl | apply Els.cons (cs := _ :: _) rfl rfl rfl)) rfl rfl rfl (by repeat (first | exact eX.nil | (apply eX.cons; (repeat (first | exact mE.nil | apply mE.cons))))) rfl rfl) (rP rfl (aQ (r := .own _ _ _) rfl) (nx ?_))
 obtain ⟨v30,h4,h3⟩ := bnd h3
 refine bR ⟨aF (aF (aF (aF (aF (aF ((fun _ => .dead)) 1 (.ptr 3 0 1 0 0)) 4 (.own 4 0 (s18.2).length)) 7 (.own 5 0 (v30).length)) 17 (dL aJ p0.Works.Arbors)) 18 (dI (p0.Works.Arbors.length : Int))) 19 (dI s18.1),lks [.no, .no, .no, .live [⟨46,14, .av [[dS p0.Name,(dL aJ p0.Works.Arbors),(dL bF p0.Works.Meshes),(dI p0.Minute),(dI p0.Hour),(dI p0.Escape),(dI p0.Teeth),(dI p0.Beats),(dS p0.Calendar.Name),(dL aN p0.Calendar.Months),(dL aE p0.Calendar.Rules),(dI p0.Calendar.Week),(dL cI p0.Cam),(dI p0.Strike)]]⟩], .live [⟨9,1, .data (List.map cS s18.2)⟩], .live [⟨9,1, .data (List.map cS v30)⟩]]⟩ ?_ ?_
 refine sq [0,1,2,3,4,5] (fa tok ?_)
 refine ld tok ?_
 obtain ⟨v20,hv20,h4⟩ := bnd h4
 refine rS rfl (aK 7 (jO hv20) rfl rfl rfl) ?_
 obtain ⟨v21,hv21,h4⟩ := bnd h4
 refine rS rfl (aK 7 (dP hv21) rfl rfl rfl) (rL rfl (nL tok rfl rfl rfl rfl rfl) (pm (nx (aD ?_))))
 refine aR (fun s26 => ⟨aF (aF (aF (aF (aF (aF (aF (aF (aF ((fun _ => .dead)) 1 (.ptr 3 0 1 0 0)) 4 (.own 4 0 (s18.2).length)) 7 (.own 5 0 (s26.2).length)) 17 (dL aJ p0.Works.Arbors)) 18 (dI (p0.Works.Arbors.length : Int))) 19 (dI s18.1)) 29 (.own 6 0 (v21).length)) 30 (dI (v21.length : Int))) 31 (dI s26.1),lks [.no, .no, .no, .live [⟨46,14, .av [[dS p0.Name,(dL aJ p0.Works.Arbors),(dL bF p0.Works.Meshes),(dI p0.Minute),(dI p0.Hour),(dI p0.Escape),(dI p0.Teeth),(dI p0.Beats),(dS p0.Calendar.Name),(dL aN p0.Calendar.Months),(dL aE p0.Calendar.Rules),(dI p0.Calendar.Week),(dL cI p0.Cam),(dI p0.Strike)]]⟩], .live [⟨9,1, .data (List.map cS s18.2)⟩], .live [⟨9,1, .data (List.map cS s26.2)⟩], .live [⟨2,1, .data (List.map cI v21)⟩]]⟩) h4 ?_ (fun s26 y h5 => ?_)
 exact wk [0,1,2,3,4,6,7]
 refine sq [0] (rP rfl (bC rfl rfl) (nx (aC ?_)))
 refine bA h5 rfl (fun hc h5 => ?_) (fun hc h5 => ?_)
 refine sk (aC (aD (sq [0,1,2] ?_)))
 obtain ⟨v27,hv27,h5⟩ := bnd h5
 refine rL rfl (mJ tok hv27 rfl rfl rfl rfl rfl rfl rfl rfl) (rL rfl (aFh tok (eI hv27).2.1 rfl rfl rfl rfl rfl rfl) (pa (nx (sr [0,1,2,3,4,5] ?_))))
 refine rP rfl (aL (r := .own _ _ _) rfl) (pm ?_)
 obtain ⟨v28,hv28,h5⟩ := bnd h5
 refine rS rfl (aK 7 (mF hv28) rfl rfl rfl) (rS rfl (nJ tok cS [v28] rfl rfl rfl (by repeat (first | exact Els.nil _ | apply Els.cons (cs := [.d _]) rfl rfl rfl | apply Els.cons (cs := _ :: _) rfl rfl rfl)) rfl rfl rfl (by repeat (first | exact eX.nil | (apply eX.cons; (repeat (first | exact mE.nil | apply mE.cons))))) rfl) ?_)
 obtain ⟨hq29,h5⟩ := cJ h5
 refine rw1 rfl w0 rfl (lO tok hq29 rfl rfl rfl rfl rfl rfl rfl rfl rfl rfl rfl rfl (fun _ => rfl)) (rP rfl (aQ (r := .own _ _ _) rfl) (bE (bG (aI (sr [0,1] (rP rfl (bM rfl rfl) (pm (bE ?_))))))))
 refine bU ?_
 cases h5
 refine ⟨_,rfl,?_⟩
 exact wk [0,1,2,3,4,5,6]
 refine bI (bT ?_)
 cases h5
 refine bW ⟨_,rfl,fun e => ?_⟩
 subst e
 refine aM (aI ?_)
 exact wk [0,1,2,3,4,5]
 refine sr [0,1,2,3,4,5] (rP rfl (aL (r := .own _ _ _) rfl) (rP rfl (aL (r := .own _ _ _) rfl) ?_))
 obtain ⟨v31,hv31,h3⟩ := bnd h3
 refine rS rfl (gZ 6 (sY hv31) rfl rfl) (rS rfl (nJ tok cS [v31] rfl rfl rfl (by repeat (first | exact Els.nil _ | apply Els.cons (cs := [.d _]) rfl rfl rfl | apply Els.cons (cs := _ :: _) rfl rfl rfl)) rfl rfl rfl (by repeat (first | exact eX.nil | (apply eX.cons; (repeat (first | exact mE.nil | apply mE.cons))))) rfl) ?_)
 obtain ⟨hq32,h3⟩ := cJ h3
 refine rw1 rfl w0 rfl (lO tok hq32 rfl rfl rfl rfl rfl rfl rfl rfl rfl rfl rfl rfl (fun _ => rfl)) (rP rfl (aQ (r := .own _ _ _) rfl) (bE (bG (aI ?_))))
 cases h3
 exact wk [0,1,2,3,4]
 refine sr [0,1] (rP rfl (bM rfl rfl) (pm (bE ?_)))
 refine bU ?_
 cases h2
 refine ⟨_,rfl,?_⟩
 exact wk [0,1,2,3,4]
 refine bI (bT ?_)
 cases h2
 refine bW ⟨_,rfl,fun e => ?_⟩
 subst e
 refine aM (aI ?_)
 exact wk [0,1,2,3,4]
 refine sq [0,1,2,3,4,5,6,7] (fa tok ?_)
 refine ld tok ?_
 obtain ⟨v35,hv35,h0⟩ := bnd h0
 refine rS rfl (aK 5 (uW hv35) rfl rfl rfl) (rP rfl (aL (r := .tup _) rfl) (rP rfl (dU rfl rfl) (rP rfl (dU rfl rfl) (pa ?_))))
 refine pa (nx (sq [0,1,2,3,4,5,6,7] ?_))
 refine rP rfl (aL (r := .own _ _ _) rfl) (fa tok ?_)
 refine ld tok ?_
 obtain ⟨v36,hv36,h0⟩ := bnd h0
 refine rS rfl (aK 5 (mF hv36) rfl rfl rfl) ?_
 obtain ⟨hq37,h0⟩ := cJ h0
 refine rP rfl (jL rfl rfl hq37) (rS rfl (nJ tok cS [(⟨#[101,115,99,97,112,101,45,119,104,101,101,108,32]⟩ : ByteArray) ++ v36] rfl rfl rfl (by repeat (first | exact Els.nil _ | apply Els.cons (cs := [.d _]) rfl rfl rfl | apply Els.cons (cs := _ :: _) rfl rfl rfl)) rfl rfl rfl (by repeat (first | exact eX.nil | (apply eX.cons; (repeat (first | exact mE.nil | apply mE.cons))))) rfl) ?_)
 obtain ⟨hq38,h0⟩ := cJ h0
 refine rw1 rfl w0 rfl (lO tok hq38 rfl rfl rfl rfl rfl rfl rfl rfl rfl rfl rfl rfl (fun _ => rfl)) (rP rfl (aQ (r := .own _ _ _) rfl) (nx (sq [0,1,2,3,4,5,6,7,8,9,10,11,12,13] (rP rfl (aL (r := .own _ _ _) rfl) (fa tok ?_)))))
 refine ld tok ?_
 refine rP rfl (aB tok rfl rfl rfl) ?_
 obtain ⟨v39,hv39,h0⟩ := bnd h0
 refine rS rfl (aK 5 (mF hv39) rfl rfl rfl) ?_
 obtain ⟨hq40,h0⟩ := cJ h0
 refine rP rfl (jL rfl rfl hq40) ?_
 obtain ⟨hq41,h0⟩ := cJ h0
 refine rP rfl (jL rfl rfl hq41) (pm ?_)
 refine rP rfl (aB tok rfl rfl rfl) ?_
 obtain ⟨v42,hv42,h0⟩ := bnd h0
 refine rS rfl (aK 5 (mF hv42) rfl rfl rfl) ?_
 obtain ⟨hq43,h0⟩ := cJ h0
 refine rP rfl (jL rfl rfl hq43) (rS rfl (nJ tok cS [(((⟨#[99,97,109,32]⟩ : ByteArray) ++ v39) ++ (⟨#[32]⟩ : ByteArray)) ++ v42] rfl rfl rfl (by repeat (first | exact Els.nil _ | apply Els.cons (cs := [.d _]) rfl rfl rfl | apply Els.cons (cs := _ :: _) rfl rfl rfl)) rfl rfl rfl (by repeat (first | exact eX.nil | (apply eX.cons; (repeat (first | exact mE.nil | apply mE.cons))))) rfl) ?_)
 obtain ⟨hq44,h0⟩ := cJ h0
 refine rw1 rfl w0 rfl (lO tok hq44 rfl rfl rfl rfl rfl rfl rfl rfl rfl rfl rfl rfl (fun _ => rfl)) (rP rfl (aQ (r := .own _ _ _) rfl) (nx (sq [0,1,2] (rP rfl (aL (r := .own _ _ _) rfl) (rP rfl (aQ (r := .own _ _ _) rfl) (pa (nx (aA ?_))))))))
 cases h0
 exact lT (rs := [.tmp 2, .tmp 3]) [4] rfl
theorem lV {p0 : List ByteArray} {p1 : List ByteArray} {r : Bool} (h0 : eR p0 p1 = some r) : FnC Tryz.prog 8 [] [dL cS p0,(dL cS p1)] [] (dB r) := by
 refine fi 26 tok Tryz.func8 ?_
 unfold eR at h0
 refine sq [0] (pa (nx (aC (sq [0,1,2,3,4] ?_))))
 refine pm ?_
 refine rP rfl (aB tok rfl rfl rfl) (pm ?_)
 refine rP rfl (aB tok rfl rfl rfl) (rP rfl (dD rfl rfl) (nx ?_))
 refine bA h0 rfl (fun hc h0 => ?_) (fun hc h0 => ?_)
 refine sq [0] (pa (nx (aA (aG ?_))))
 cases h0
 exact r0t 4 rfl
 refine sk ?_
 obtain ⟨v7x,h1,h0⟩ := bnd h0
 refine cQ v7x (fun v7 => ⟨(fun _ => .dead),lks [.no, .no, .no]⟩) ?_ ?_
 refine sq [0] (pa (nx (aD ?_)))
 refine aR (fun s4 => ⟨aF (aF (aF ((fun _ => .dead)) 0 (dL cS p0)) 1 (dL cS p1)) 5 (dI s4),lks [.no, .no, .no]⟩) h1 ?_ (fun s4 y h2 => ?_)
 exact wk [0,1,2]
 refine aC (sq [0,1,2,3] (pm ?_))
 refine pm ?_
 refine rP rfl (aB tok rfl rfl rfl) (rP rfl (bC rfl rfl) (nx ?_))
 refine bA h2 rfl (fun hc h2 => ?_) (fun hc h2 => ?_)
 refine sk (aC (aD (aC (bL (is := [0,1,2,3,4,5,6,7,8]) [0,0,3,7,0,0,48,112,255] follows (by kernel_rfl) (tpm ?_)))))
 refine tpm ?_
 obtain ⟨v5,hv5,h2⟩ := bnd h2
 refine tP rfl (cO tok hv5 rfl rfl rfl rfl rfl rfl) (tlr tok ?_)
 refine tpm ?_
 refine tpm ?_
 obtain ⟨v6,hv6,h2⟩ := bnd h2
 refine tP rfl (cO tok hv6 rfl rfl rfl rfl rfl rfl) (tlr tok ?_)
 refine tP rfl (pK rfl rfl) (dW ?_)
 refine ⟨by kernel_rfl,?_⟩
 refine aI ?_
 refine bA h2 rfl (fun hc h2 => ?_) (fun hc h2 => ?_)
 refine sq [0] (pa (nx (aA ?_)))
 refine aS (aG ?_)
 cases h2
 refine dC ⟨_,rfl,fun e => ?_⟩
 subst e
 refine aS ?_
 replace h0 := fG h0
 refine aG ?_
 cases h0
 exact r0t 4 rfl
 refine cU (bG (aI (sr [0,1,2] (pm ?_))))
 refine rP rfl (bM rfl rfl) (pa (bE ?_))
 refine bU ?_
 cases h2
 refine ⟨_,rfl,?_⟩
 exact wk [0,1,2]
 refine bI (bT ?_)
 cases h2
 refine bW ⟨_,rfl,fun e => ?_⟩
 subst e
 refine aM (aI ?_)
 refine ⟨_,rfl,?_⟩
 exact wk [0,1,2]
 rintro v7 rfl
 replace h0 := hJ h0
 refine sq [0] (pa (nx (aA ?_)))
 cases h0
 exact r0t 4 rfl
theorem pU {p0 : List Int} {p1 : List Int} {r : Bool} (h0 : gW p0 p1 = some r) : FnC Tryz.prog 32 [] [dL cI p0,(dL cI p1)] [] (dB r) := by
 refine fi 26 tok Tryz.func32 ?_
 unfold gW at h0
 refine sq [0] (pa (nx (aC (sq [0,1,2,3,4] ?_))))
 refine pm ?_
 refine rP rfl (aB tok rfl rfl rfl) (pm ?_)
 refine rP rfl (aB tok rfl rfl rfl) (rP rfl (dD rfl rfl) (nx ?_))
 refine bA h0 rfl (fun hc h0 => ?_) (fun hc h0 => ?_)
 refine sq [0] (pa (nx (aA (aG ?_))))
 cases h0
 exact r0t 4 rfl
 refine sk ?_
 obtain ⟨v7x,h1,h0⟩ := bnd h0
 refine cQ v7x (fun v7 => ⟨(fun _ => .dead),lks [.no, .no, .no]⟩) ?_ ?_
 refine sq [0] (pa (nx (aD ?_)))
 refine aR (fun s4 => ⟨aF (aF (aF ((fun _ => .dead)) 0 (dL cI p0)) 1 (dL cI p1)) 5 (dI s4),lks [.no, .no, .no]⟩) h1 ?_ (fun s4 y h2 => ?_)
 exact wk [0,1,2]
 refine aC (sq [0,1,2,3] (pm ?_))
 refine pm ?_
 refine rP rfl (aB tok rfl rfl rfl) (rP rfl (bC rfl rfl) (nx ?_))
 refine bA h2 rfl (fun hc h2 => ?_) (fun hc h2 => ?_)
 refine sk (aC (aD (aC (bL (is := [0,1,2,3,4,5,6,7,8]) [0,0,3,7,0,0,48,112,255] follows (by kernel_rfl) (tpm ?_)))))
 refine tpm ?_
 obtain ⟨v5,hv5,h2⟩ := bnd h2
 refine tP rfl (cO tok hv5 rfl rfl rfl rfl rfl rfl) (tlr tok ?_)
 refine tpm ?_
 refine tpm ?_
 obtain ⟨v6,hv6,h2⟩ := bnd h2
 refine tP rfl (cO tok hv6 rfl rfl rfl rfl rfl rfl) (tlr tok ?_)
 refine tP rfl (dD rfl rfl) (dW ?_)
 refine ⟨by kernel_rfl,?_⟩
 refine aI ?_
 refine bA h2 rfl (fun hc h2 => ?_) (fun hc h2 => ?_)
 refine sq [0] (pa (nx (aA ?_)))
 refine aS (aG ?_)
 cases h2
 refine dC ⟨_,rfl,fun e => ?_⟩
 subst e
 refine aS ?_
 replace h0 := fG h0
 refine aG ?_
 cases h0
 exact r0t 4 rfl
 refine cU (bG (aI (sr [0,1,2] (pm ?_))))
 refine rP rfl (bM rfl rfl) (pa (bE ?_))
 refine bU ?_
 cases h2
 refine ⟨_,rfl,?_⟩
 exact wk [0,1,2]
 refine bI (bT ?_)
 cases h2
 refine bW ⟨_,rfl,fun e => ?_⟩
 subst e
 refine aM (aI ?_)
 refine ⟨_,rfl,?_⟩
 exact wk [0,1,2]
 rintro v7 rfl
 replace h0 := hJ h0
 refine sq [0] (pa (nx (aA ?_)))
 cases h0
 exact r0t 4 rfl
theorem zQ {p0 : bH} {p1 : bH} {r : Bool} (h0 : jZ p0 p1 = some r) : FnC Tryz.prog 107 [] [.agg [dS p0.Name,(dL cI p0.Wheels)], .agg [dS p1.Name,(dL cI p1.Wheels)]] [] (dB r) := by
 refine fi 16 tok Tryz.func107 ?_
 unfold jZ at h0
 refine sq [0,1,2] (bxx 3 ?_)
 refine bxx 4 ?_
 refine pa (nx (aC (sq [0,1,2,3,4] ?_)))
 refine fa tok ?_
 refine ld tok ?_
 refine fa tok ?_
 refine ld tok ?_
 refine rP rfl (pK rfl rfl) (nx ?_)
 refine bA h0 rfl (fun hc h0 => ?_) (fun hc h0 => ?_)
 refine sq [0] (pa (nx (aA (aG ?_))))
 cases h0
 exact r0t 4 rfl
 refine sk (aC (sq [0,1,2,3,4,5] (fa tok ?_)))
 refine ld tok ?_
 refine fa tok ?_
 refine ld tok ?_
 obtain ⟨v1,hv1,h0⟩ := bnd h0
 refine rS rfl (aK 5 (pU hv1) rfl rfl rfl) (rP rfl (bX rfl) (nx ?_))
 refine cF h0 rfl (fun hc h0 => ?_) (fun hc h0 => ?_)
 refine sq [0] (pa (nx (aA (aG ?_))))
 cases h0
 exact r0t 4 rfl
 refine sk (sq [0] (pa (nx (aA ?_))))
 cases h0
 exact r0t 4 rfl
theorem yG {p0 : List bH} {p1 : List bH} {r : Bool} (h0 : jG p0 p1 = some r) : FnC Tryz.prog 71 [] [dL aJ p0,(dL aJ p1)] [] (dB r) := by
 refine fi 27 tok Tryz.func71 ?_
 unfold jG at h0
 refine sq [0] (pa (nx (aC (sq [0,1,2,3,4] ?_))))
 refine pm ?_
 refine rP rfl (aB tok rfl rfl rfl) (pm ?_)
 refine rP rfl (aB tok rfl rfl rfl) (rP rfl (dD rfl rfl) (nx ?_))
 refine bA h0 rfl (fun hc h0 => ?_) (fun hc h0 => ?_)
 refine sq [0] (pa (nx (aA (aG ?_))))
 cases h0
 exact r0t 4 rfl
 refine sk ?_
 obtain ⟨v9x,h1,h0⟩ := bnd h0
 refine cQ v9x (fun v9 => ⟨(fun _ => .dead),lks [.no, .no, .no]⟩) ?_ ?_
 refine sq [0] (pa (nx (aD ?_)))
 refine aR (fun s5 => ⟨aF (aF (aF ((fun _ => .dead)) 0 (dL aJ p0)) 1 (dL aJ p1)) 5 (dI s5),lks [.no, .no, .no]⟩) h1 ?_ (fun s5 y h2 => ?_)
 exact wk [0,1,2]
 refine aC (sq [0,1,2,3] (pm ?_))
 refine pm ?_
 refine rP rfl (aB tok rfl rfl rfl) (rP rfl (bC rfl rfl) (nx ?_))
 refine bA h2 rfl (fun hc h2 => ?_) (fun hc h2 => ?_)
 refine sk (aC (aD (aC (bL (is := [0,1,2,3,4,5,6,7,8,9]) [0,0,3,7,0,0,48,112,255,511] follows (by kernel_rfl) (tpm ?_)))))
 refine tpm ?_
 obtain ⟨v6,hv6,h2⟩ := bnd h2
 refine tP rfl (cO tok hv6 rfl rfl rfl rfl rfl rfl) (tP rfl (aW tok rfl rfl rfl (by repeat (first | exact gY.z _ | apply gY.t))) (tpm ?_))
 refine tpm ?_
 obtain ⟨v7,hv7,h2⟩ := bnd h2
 refine tP rfl (cO tok hv7 rfl rfl rfl rfl rfl rfl) (tP rfl (aW tok rfl rfl rfl (by repeat (first | exact gY.z _ | apply gY.t))) ?_)
 obtain ⟨v8,hv8,h2⟩ := bnd h2
 refine wG rfl w0 rfl (jD 3 (zQ hv8) rfl rfl rfl) (tP rfl (bX rfl) (dW ?_))
 refine ⟨by kernel_rfl,?_⟩
 refine aI ?_
 refine cF h2 rfl (fun hc h2 => ?_) (fun hc h2 => ?_)
 refine sq [0] (pa (nx (aA ?_)))
 refine aS (aG ?_)
 cases h2
 refine dC ⟨_,rfl,fun e => ?_⟩
 subst e
 refine aS ?_
 replace h0 := fG h0
 refine aG ?_
 cases h0
 exact r0t 4 rfl
 refine cU (bG (aI (sr [0,1,2] (pm ?_))))
 refine rP rfl (bM rfl rfl) (pa (bE ?_))
 refine bU ?_
 cases h2
 refine ⟨_,rfl,?_⟩
 exact wk [0,1,2]
 refine bI (bT ?_)
 cases h2
 refine bW ⟨_,rfl,fun e => ?_⟩
 subst e
 refine aM (aI ?_)
 refine ⟨_,rfl,?_⟩
 exact wk [0,1,2]
 rintro v9 rfl
 replace h0 := hJ h0
 refine sq [0] (pa (nx (aA ?_)))
 cases h0
 exact r0t 4 rfl
theorem aCa {p0 : bJ} {p1 : bJ} {r : Bool} (h0 : lK p0 p1 = some r) : FnC Tryz.prog 108 [] [.agg [dI p0.A,(dI p0.WheelA),(dI p0.B),(dI p0.WheelB)], .agg [dI p1.A,(dI p1.WheelA),(dI p1.B),(dI p1.WheelB)]] [] (dB r) := by
 refine fi 25 tok Tryz.func108 ?_
 unfold lK at h0
 refine sq [0,1,2] (bxx 3 ?_)
 refine bxx 4 ?_
 refine pa (nx (aC (sq [0,1,2,3,4] ?_)))
 refine fa tok ?_
 refine ld tok ?_
 refine fa tok ?_
 refine ld tok ?_
 refine rP rfl (dD rfl rfl) (nx ?_)
 refine bA h0 rfl (fun hc h0 => ?_) (fun hc h0 => ?_)
 refine sq [0] (pa (nx (aA (aG ?_))))
 cases h0
 exact r0t 4 rfl
 refine sk (aC (sq [0,1,2,3,4] (fa tok ?_)))
 refine ld tok ?_
 refine fa tok ?_
 refine ld tok ?_
 refine rP rfl (dD rfl rfl) (nx ?_)
 refine bA h0 rfl (fun hc h0 => ?_) (fun hc h0 => ?_)
 refine sq [0] (pa (nx (aA (aG ?_))))
 cases h0
 exact r0t 4 rfl
 refine sk (aC (sq [0,1,2,3,4] (fa tok ?_)))
 refine ld tok ?_
 refine fa tok ?_
 refine ld tok ?_
 refine rP rfl (dD rfl rfl) (nx ?_)
 refine bA h0 rfl (fun hc h0 => ?_) (fun hc h0 => ?_)
 refine sq [0] (pa (nx (aA (aG ?_))))
 cases h0
 exact r0t 4 rfl
 refine sk (aC (sq [0,1,2,3,4] (fa tok ?_)))
 refine ld tok ?_
 refine fa tok ?_
 refine ld tok ?_
 refine rP rfl (dD rfl rfl) (nx ?_)
 refine bA h0 rfl (fun hc h0 => ?_) (fun hc h0 => ?_)
 refine sq [0] (pa (nx (aA (aG ?_))))
 cases h0
 exact r0t 4 rfl
 refine sk (sq [0] (pa (nx (aA ?_))))
 cases h0
 exact r0t 4 rfl
end Go.Proofs.YtgcdbbidmfdonaaGreatDoor
namespace Go.Proofs.YtgcdbbidmfdonaaGreatDoor
open Go.RowKit
set_option linter.unusedVariables false
set_option maxRecDepth 100000
set_option maxHeartbeats 2000000
theorem aAd {p0 : List bJ} {p1 : List bJ} {r : Bool} (h0 : jY p0 p1 = some r) : FnC Tryz.prog 72 [] [dL bF p0,(dL bF p1)] [] (dB r) := by
 refine fi 27 tok Tryz.func72 ?_
 unfold jY at h0
 refine sq [0] (pa (nx (aC (sq [0,1,2,3,4] ?_))))
 refine pm ?_
 refine rP rfl (aB tok rfl rfl rfl) (pm ?_)
 refine rP rfl (aB tok rfl rfl rfl) (rP rfl (dD rfl rfl) (nx ?_))
 refine bA h0 rfl (fun hc h0 => ?_) (fun hc h0 => ?_)
 refine sq [0] (pa (nx (aA (aG ?_))))
 cases h0
 exact r0t 4 rfl
 refine sk ?_
 obtain ⟨v9x,h1,h0⟩ := bnd h0
 refine cQ v9x (fun v9 => ⟨(fun _ => .dead),lks [.no, .no, .no]⟩) ?_ ?_
 refine sq [0] (pa (nx (aD ?_)))
 refine aR (fun s5 => ⟨aF (aF (aF ((fun _ => .dead)) 0 (dL bF p0)) 1 (dL bF p1)) 5 (dI s5),lks [.no, .no, .no]⟩) h1 ?_ (fun s5 y h2 => ?_)
 exact wk [0,1,2]
 refine aC (sq [0,1,2,3] (pm ?_))
 refine pm ?_
 refine rP rfl (aB tok rfl rfl rfl) (rP rfl (bC rfl rfl) (nx ?_))
 refine bA h2 rfl (fun hc h2 => ?_) (fun hc h2 => ?_)
 refine sk (aC (aD (aC (bL (is := [0,1,2,3,4,5,6,7,8,9]) [0,0,3,7,0,0,48,112,255,511] follows (by kernel_rfl) (tpm ?_)))))
 refine tpm ?_
 obtain ⟨v6,hv6,h2⟩ := bnd h2
 refine tP rfl (cO tok hv6 rfl rfl rfl rfl rfl rfl) (tP rfl (aW tok rfl rfl rfl (by repeat (first | exact gY.z _ | apply gY.t))) (tpm ?_))
 refine tpm ?_
 obtain ⟨v7,hv7,h2⟩ := bnd h2
 refine tP rfl (cO tok hv7 rfl rfl rfl rfl rfl rfl) (tP rfl (aW tok rfl rfl rfl (by repeat (first | exact gY.z _ | apply gY.t))) ?_)
 obtain ⟨v8,hv8,h2⟩ := bnd h2
 refine wG rfl w0 rfl (jD 3 (aCa hv8) rfl rfl rfl) (tP rfl (bX rfl) (dW ?_))
 refine ⟨by kernel_rfl,?_⟩
 refine aI ?_
 refine cF h2 rfl (fun hc h2 => ?_) (fun hc h2 => ?_)
 refine sq [0] (pa (nx (aA ?_)))
 refine aS (aG ?_)
 cases h2
 refine dC ⟨_,rfl,fun e => ?_⟩
 subst e
 refine aS ?_
 replace h0 := fG h0
 refine aG ?_
 cases h0
 exact r0t 4 rfl
 refine cU (bG (aI (sr [0,1,2] (pm ?_))))
 refine rP rfl (bM rfl rfl) (pa (bE ?_))
 refine bU ?_
 cases h2
 refine ⟨_,rfl,?_⟩
 exact wk [0,1,2]
 refine bI (bT ?_)
 cases h2
 refine bW ⟨_,rfl,fun e => ?_⟩
 subst e
 refine aM (aI ?_)
 refine ⟨_,rfl,?_⟩
 exact wk [0,1,2]
 rintro v9 rfl
 replace h0 := hJ h0
 refine sq [0] (pa (nx (aA ?_)))
 cases h0
 exact r0t 4 rfl
theorem zW {p0 : bQ} {p1 : bQ} {r : Bool} (h0 : kG p0 p1 = some r) : FnC Tryz.prog 30 [] [.agg [dL aJ p0.Arbors,(dL bF p0.Meshes)], .agg [dL aJ p1.Arbors,(dL bF p1.Meshes)]] [] (dB r) := by
 refine fi 17 tok Tryz.func30 ?_
 unfold kG at h0
 refine sq [0,1,2] (bxx 3 ?_)
 refine bxx 4 ?_
 refine pa (nx (aC (sq [0,1,2,3,4,5] ?_)))
 refine fa tok ?_
 refine ld tok ?_
 refine fa tok ?_
 refine ld tok ?_
 obtain ⟨v1,hv1,h0⟩ := bnd h0
 refine rS rfl (aK 5 (yG hv1) rfl rfl rfl) (rP rfl (bX rfl) (nx ?_))
 refine cF h0 rfl (fun hc h0 => ?_) (fun hc h0 => ?_)
 refine sq [0] (pa (nx (aA (aG ?_))))
 cases h0
 exact r0t 4 rfl
 refine sk (aC (sq [0,1,2,3,4,5] (fa tok ?_)))
 refine ld tok ?_
 refine fa tok ?_
 refine ld tok ?_
 obtain ⟨v2,hv2,h0⟩ := bnd h0
 refine rS rfl (aK 5 (aAd hv2) rfl rfl rfl) (rP rfl (bX rfl) (nx ?_))
 refine cF h0 rfl (fun hc h0 => ?_) (fun hc h0 => ?_)
 refine sq [0] (pa (nx (aA (aG ?_))))
 cases h0
 exact r0t 4 rfl
 refine sk (sq [0] (pa (nx (aA ?_))))
 cases h0
 exact r0t 4 rfl
theorem zV {p0 : aZ} {p1 : aZ} {r : Bool} (h0 : kM p0 p1 = some r) : FnC Tryz.prog 109 [] [.agg [dS p0.Name,(dI p0.Days),(dI p0.Leap)], .agg [dS p1.Name,(dI p1.Days),(dI p1.Leap)]] [] (dB r) := by
 refine fi 20 tok Tryz.func109 ?_
 unfold kM at h0
 refine sq [0,1,2] (bxx 3 ?_)
 refine bxx 4 ?_
 refine pa (nx (aC (sq [0,1,2,3,4] ?_)))
 refine fa tok ?_
 refine ld tok ?_
 refine fa tok ?_
 refine ld tok ?_
 refine rP rfl (pK rfl rfl) (nx ?_)
 refine bA h0 rfl (fun hc h0 => ?_) (fun hc h0 => ?_)
 refine sq [0] (pa (nx (aA (aG ?_))))
 cases h0
 exact r0t 4 rfl
 refine sk (aC (sq [0,1,2,3,4] (fa tok ?_)))
 refine ld tok ?_
 refine fa tok ?_
 refine ld tok ?_
 refine rP rfl (dD rfl rfl) (nx ?_)
 refine bA h0 rfl (fun hc h0 => ?_) (fun hc h0 => ?_)
 refine sq [0] (pa (nx (aA (aG ?_))))
 cases h0
 exact r0t 4 rfl
 refine sk (aC (sq [0,1,2,3,4] (fa tok ?_)))
 refine ld tok ?_
 refine fa tok ?_
 refine ld tok ?_
 refine rP rfl (dD rfl rfl) (nx ?_)
 refine bA h0 rfl (fun hc h0 => ?_) (fun hc h0 => ?_)
 refine sq [0] (pa (nx (aA (aG ?_))))
 cases h0
 exact r0t 4 rfl
 refine sk (sq [0] (pa (nx (aA ?_))))
 cases h0
 exact r0t 4 rfl
theorem xK {p0 : List aZ} {p1 : List aZ} {r : Bool} (h0 : iY p0 p1 = some r) : FnC Tryz.prog 73 [] [dL aN p0,(dL aN p1)] [] (dB r) := by
 refine fi 27 tok Tryz.func73 ?_
 unfold iY at h0
 refine sq [0] (pa (nx (aC (sq [0,1,2,3,4] ?_))))
 refine pm ?_
 refine rP rfl (aB tok rfl rfl rfl) (pm ?_)
 refine rP rfl (aB tok rfl rfl rfl) (rP rfl (dD rfl rfl) (nx ?_))
 refine bA h0 rfl (fun hc h0 => ?_) (fun hc h0 => ?_)
 refine sq [0] (pa (nx (aA (aG ?_))))
 cases h0
 exact r0t 4 rfl
 refine sk ?_
 obtain ⟨v9x,h1,h0⟩ := bnd h0
 refine cQ v9x (fun v9 => ⟨(fun _ => .dead),lks [.no, .no, .no]⟩) ?_ ?_
 refine sq [0] (pa (nx (aD ?_)))
 refine aR (fun s5 => ⟨aF (aF (aF ((fun _ => .dead)) 0 (dL aN p0)) 1 (dL aN p1)) 5 (dI s5),lks [.no, .no, .no]⟩) h1 ?_ (fun s5 y h2 => ?_)
 exact wk [0,1,2]
 refine aC (sq [0,1,2,3] (pm ?_))
 refine pm ?_
 refine rP rfl (aB tok rfl rfl rfl) (rP rfl (bC rfl rfl) (nx ?_))
 refine bA h2 rfl (fun hc h2 => ?_) (fun hc h2 => ?_)
 refine sk (aC (aD (aC (bL (is := [0,1,2,3,4,5,6,7,8,9]) [0,0,3,7,0,0,48,112,255,511] follows (by kernel_rfl) (tpm ?_)))))
 refine tpm ?_
 obtain ⟨v6,hv6,h2⟩ := bnd h2
 refine tP rfl (cO tok hv6 rfl rfl rfl rfl rfl rfl) (tP rfl (aW tok rfl rfl rfl (by repeat (first | exact gY.z _ | apply gY.t))) (tpm ?_))
 refine tpm ?_
 obtain ⟨v7,hv7,h2⟩ := bnd h2
 refine tP rfl (cO tok hv7 rfl rfl rfl rfl rfl rfl) (tP rfl (aW tok rfl rfl rfl (by repeat (first | exact gY.z _ | apply gY.t))) ?_)
 obtain ⟨v8,hv8,h2⟩ := bnd h2
 refine wG rfl w0 rfl (jD 3 (zV hv8) rfl rfl rfl) (tP rfl (bX rfl) (dW ?_))
 refine ⟨by kernel_rfl,?_⟩
 refine aI ?_
 refine cF h2 rfl (fun hc h2 => ?_) (fun hc h2 => ?_)
 refine sq [0] (pa (nx (aA ?_)))
 refine aS (aG ?_)
 cases h2
 refine dC ⟨_,rfl,fun e => ?_⟩
 subst e
 refine aS ?_
 replace h0 := fG h0
 refine aG ?_
 cases h0
 exact r0t 4 rfl
 refine cU (bG (aI (sr [0,1,2] (pm ?_))))
 refine rP rfl (bM rfl rfl) (pa (bE ?_))
 refine bU ?_
 cases h2
 refine ⟨_,rfl,?_⟩
 exact wk [0,1,2]
 refine bI (bT ?_)
 cases h2
 refine bW ⟨_,rfl,fun e => ?_⟩
 subst e
 refine aM (aI ?_)
 refine ⟨_,rfl,?_⟩
 exact wk [0,1,2]
 rintro v9 rfl
 replace h0 := hJ h0
 refine sq [0] (pa (nx (aA ?_)))
 cases h0
 exact r0t 4 rfl
theorem tJ {p0 : aH} {p1 : aH} {r : Bool} (h0 : fR p0 p1 = some r) : FnC Tryz.prog 110 [] [.agg [dI p0.Every,(dI p0.Rest),(dB p0.Leap)], .agg [dI p1.Every,(dI p1.Rest),(dB p1.Leap)]] [] (dB r) := by
 refine fi 20 tok Tryz.func110 ?_
 unfold fR at h0
 refine sq [0,1,2] (bxx 3 ?_)
 refine bxx 4 ?_
 refine pa (nx (aC (sq [0,1,2,3,4] ?_)))
 refine fa tok ?_
 refine ld tok ?_
 refine fa tok ?_
 refine ld tok ?_
 refine rP rfl (dD rfl rfl) (nx ?_)
 refine bA h0 rfl (fun hc h0 => ?_) (fun hc h0 => ?_)
 refine sq [0] (pa (nx (aA (aG ?_))))
 cases h0
 exact r0t 4 rfl
 refine sk (aC (sq [0,1,2,3,4] (fa tok ?_)))
 refine ld tok ?_
 refine fa tok ?_
 refine ld tok ?_
 refine rP rfl (dD rfl rfl) (nx ?_)
 refine bA h0 rfl (fun hc h0 => ?_) (fun hc h0 => ?_)
 refine sq [0] (pa (nx (aA (aG ?_))))
 cases h0
 exact r0t 4 rfl
 refine sk (aC (sq [0,1,2,3,4] (fa tok ?_)))
 refine ld tok ?_
 refine fa tok ?_
 refine ld tok ?_
 refine rP rfl (aFx tok rfl rfl rfl rfl) (nx ?_)
 refine cF h0 rfl (fun hc h0 => ?_) (fun hc h0 => ?_)
 refine sq [0] (pa (nx (aA (aG ?_))))
 cases h0
 exact r0t 4 rfl
 refine sk (sq [0] (pa (nx (aA ?_))))
 cases h0
 exact r0t 4 rfl
theorem rK {p0 : List aH} {p1 : List aH} {r : Bool} (h0 : fE p0 p1 = some r) : FnC Tryz.prog 74 [] [dL aE p0,(dL aE p1)] [] (dB r) := by
 refine fi 27 tok Tryz.func74 ?_
 unfold fE at h0
 refine sq [0] (pa (nx (aC (sq [0,1,2,3,4] ?_))))
 refine pm ?_
 refine rP rfl (aB tok rfl rfl rfl) (pm ?_)
 refine rP rfl (aB tok rfl rfl rfl) (rP rfl (dD rfl rfl) (nx ?_))
 refine bA h0 rfl (fun hc h0 => ?_) (fun hc h0 => ?_)
 refine sq [0] (pa (nx (aA (aG ?_))))
 cases h0
 exact r0t 4 rfl
 refine sk ?_
 obtain ⟨v9x,h1,h0⟩ := bnd h0
 refine cQ v9x (fun v9 => ⟨(fun _ => .dead),lks [.no, .no, .no]⟩) ?_ ?_
 refine sq [0] (pa (nx (aD ?_)))
 refine aR (fun s5 => ⟨aF (aF (aF ((fun _ => .dead)) 0 (dL aE p0)) 1 (dL aE p1)) 5 (dI s5),lks [.no, .no, .no]⟩) h1 ?_ (fun s5 y h2 => ?_)
 exact wk [0,1,2]
 refine aC (sq [0,1,2,3] (pm ?_))
 refine pm ?_
 refine rP rfl (aB tok rfl rfl rfl) (rP rfl (bC rfl rfl) (nx ?_))
 refine bA h2 rfl (fun hc h2 => ?_) (fun hc h2 => ?_)
 refine sk (aC (aD (aC (bL (is := [0,1,2,3,4,5,6,7,8,9]) [0,0,3,7,0,0,48,112,255,511] follows (by kernel_rfl) (tpm ?_)))))
 refine tpm ?_
 obtain ⟨v6,hv6,h2⟩ := bnd h2
 refine tP rfl (cO tok hv6 rfl rfl rfl rfl rfl rfl) (tP rfl (aW tok rfl rfl rfl (by repeat (first | exact gY.z _ | apply gY.t))) (tpm ?_))
 refine tpm ?_
 obtain ⟨v7,hv7,h2⟩ := bnd h2
 refine tP rfl (cO tok hv7 rfl rfl rfl rfl rfl rfl) (tP rfl (aW tok rfl rfl rfl (by repeat (first | exact gY.z _ | apply gY.t))) ?_)
 obtain ⟨v8,hv8,h2⟩ := bnd h2
 refine wG rfl w0 rfl (jD 3 (tJ hv8) rfl rfl rfl) (tP rfl (bX rfl) (dW ?_))
 refine ⟨by kernel_rfl,?_⟩
 refine aI ?_
 refine cF h2 rfl (fun hc h2 => ?_) (fun hc h2 => ?_)
 refine sq [0] (pa (nx (aA ?_)))
 refine aS (aG ?_)
 cases h2
 refine dC ⟨_,rfl,fun e => ?_⟩
 subst e
 refine aS ?_
 replace h0 := fG h0
 refine aG ?_
 cases h0
 exact r0t 4 rfl
 refine cU (bG (aI (sr [0,1,2] (pm ?_))))
 refine rP rfl (bM rfl rfl) (pa (bE ?_))
 refine bU ?_
 cases h2
 refine ⟨_,rfl,?_⟩
 exact wk [0,1,2]
 refine bI (bT ?_)
 cases h2
 refine bW ⟨_,rfl,fun e => ?_⟩
 subst e
 refine aM (aI ?_)
 refine ⟨_,rfl,?_⟩
 exact wk [0,1,2]
 rintro v9 rfl
 replace h0 := hJ h0
 refine sq [0] (pa (nx (aA ?_)))
 cases h0
 exact r0t 4 rfl
theorem tF {p0 : bP} {p1 : bP} {r : Bool} (h0 : gA p0 p1 = some r) : FnC Tryz.prog 31 [] [.agg [dS p0.Name,(dL aN p0.Months),(dL aE p0.Rules),(dI p0.Week)], .agg [dS p1.Name,(dL aN p1.Months),(dL aE p1.Rules),(dI p1.Week)]] [] (dB r) := by
 refine fi 27 tok Tryz.func31 ?_
 unfold gA at h0
 refine sq [0,1,2] (bxx 3 ?_)
 refine bxx 4 ?_
 refine pa (nx (aC (sq [0,1,2,3,4] ?_)))
 refine fa tok ?_
 refine ld tok ?_
 refine fa tok ?_
 refine ld tok ?_
 refine rP rfl (pK rfl rfl) (nx ?_)
 refine bA h0 rfl (fun hc h0 => ?_) (fun hc h0 => ?_)
 refine sq [0] (pa (nx (aA (aG ?_))))
 cases h0
 exact r0t 4 rfl
 refine sk (aC (sq [0,1,2,3,4,5] (fa tok ?_)))
 refine ld tok ?_
 refine fa tok ?_
 refine ld tok ?_
 obtain ⟨v1,hv1,h0⟩ := bnd h0
 refine rS rfl (aK 5 (xK hv1) rfl rfl rfl) (rP rfl (bX rfl) (nx ?_))
 refine cF h0 rfl (fun hc h0 => ?_) (fun hc h0 => ?_)
 refine sq [0] (pa (nx (aA (aG ?_))))
 cases h0
 exact r0t 4 rfl
 refine sk (aC (sq [0,1,2,3,4,5] (fa tok ?_)))
 refine ld tok ?_
 refine fa tok ?_
 refine ld tok ?_
 obtain ⟨v2,hv2,h0⟩ := bnd h0
 refine rS rfl (aK 5 (rK hv2) rfl rfl rfl) (rP rfl (bX rfl) (nx ?_))
 refine cF h0 rfl (fun hc h0 => ?_) (fun hc h0 => ?_)
 refine sq [0] (pa (nx (aA (aG ?_))))
 cases h0
 exact r0t 4 rfl
 refine sk (aC (sq [0,1,2,3,4] (fa tok ?_)))
 refine ld tok ?_
 refine fa tok ?_
 refine ld tok ?_
 refine rP rfl (dD rfl rfl) (nx ?_)
 refine bA h0 rfl (fun hc h0 => ?_) (fun hc h0 => ?_)
 refine sq [0] (pa (nx (aA (aG ?_))))
 cases h0
 exact r0t 4 rfl
 refine sk (sq [0] (pa (nx (aA ?_))))
 cases h0
 exact r0t 4 rfl
theorem tE {p0 : aV} {p1 : aV} {r : Bool} (h0 : fZ p0 p1 = some r) : FnC Tryz.prog 9 [] [.agg [dS p0.Name,(dL aJ p0.Works.Arbors),(dL bF p0.Works.Meshes),(dI p0.Minute),(dI p0.Hour),(dI p0.Escape),(dI p0.Teeth),(dI p0.Beats),(dS p0.Calendar.Name),(dL aN p0.Calendar.Months),(dL aE p0.Calendar.Rules),(dI p0.Calendar.Week),(dL cI p0.Cam),(dI p0.Strike)], .agg [dS p1.Name,(dL aJ p1.Works.Arbors),(dL bF p1.Works.Meshes),(dI p1.Minute),(dI p1.Hour),(dI p1.Escape),(dI p1.Teeth),(dI p1.Beats),(dS p1.Calendar.Name),(dL aN p1.Calendar.Months),(dL aE p1.Calendar.Rules),(dI p1.Calendar.Week),(dL cI p1.Cam),(dI p1.Strike)]] [] (dB r) := by
 refine fi 58 tok Tryz.func9 ?_
 unfold fZ at h0
 refine sq [0,1,2] (bxx 3 ?_)
 refine bxx 4 ?_
 refine pa (nx (aC (sq [0,1,2,3,4] ?_)))
 refine fa tok ?_
 refine ld tok ?_
 refine fa tok ?_
 refine ld tok ?_
 refine rP rfl (pK rfl rfl) (nx ?_)
 refine bA h0 rfl (fun hc h0 => ?_) (fun hc h0 => ?_)
 refine sq [0] (pa (nx (aA (aG ?_))))
 cases h0
 exact r0t 4 rfl
 refine sk (aC (sq [0,1,2,3,4,5] (fa tok ?_)))
 refine rL rfl (cM tok rfl rfl rfl rfl) (fa tok ?_)
 refine rL rfl (cM tok rfl rfl rfl rfl) ?_
 obtain ⟨v1,hv1,h0⟩ := bnd h0
 refine rS rfl (aK 5 (zW hv1) rfl rfl rfl) (rP rfl (bX rfl) (nx ?_))
 refine cF h0 rfl (fun hc h0 => ?_) (fun hc h0 => ?_)
 refine sq [0] (pa (nx (aA (aG ?_))))
 cases h0
 exact r0t 4 rfl
 refine sk (aC (sq [0,1,2,3,4] (fa tok ?_)))
 refine ld tok ?_
 refine fa tok ?_
 refine ld tok ?_
 refine rP rfl (dD rfl rfl) (nx ?_)
 refine bA h0 rfl (fun hc h0 => ?_) (fun hc h0 => ?_)
 refine sq [0] (pa (nx (aA (aG ?_))))
 cases h0
 exact r0t 4 rfl
 refine sk (aC (sq [0,1,2,3,4] (fa tok ?_)))
 refine ld tok ?_
 refine fa tok ?_
 refine ld tok ?_
 refine rP rfl (dD rfl rfl) (nx ?_)
 refine bA h0 rfl (fun hc h0 => ?_) (fun hc h0 => ?_)
 refine sq [0] (pa (nx (aA (aG ?_))))
 cases h0
 exact r0t 4 rfl
 refine sk (aC (sq [0,1,2,3,4] (fa tok ?_)))
 refine ld tok ?_
 refine fa tok ?_
 refine ld tok ?_
 refine rP rfl (dD rfl rfl) (nx ?_)
 refine bA h0 rfl (fun hc h0 => ?_) (fun hc h0 => ?_)
 refine sq [0] (pa (nx (aA (aG ?_))))
 cases h0
 exact r0t 4 rfl
 refine sk (aC (sq [0,1,2,3,4] (fa tok ?_)))
 refine ld tok ?_
 refine fa tok ?_
 refine ld tok ?_
 refine rP rfl (dD rfl rfl) (nx ?_)
 refine bA h0 rfl (fun hc h0 => ?_) (fun hc h0 => ?_)
 refine sq [0] (pa (nx (aA (aG ?_))))
 cases h0
 exact r0t 4 rfl
 refine sk (aC (sq [0,1,2,3,4] (fa tok ?_)))
 refine ld tok ?_
 refine fa tok ?_
 refine ld tok ?_
 refine rP rfl (dD rfl rfl) (nx ?_)
 refine bA h0 rfl (fun hc h0 => ?_) (fun hc h0 => ?_)
 refine sq [0] (pa (nx (aA (aG ?_))))
 cases h0
 exact r0t 4 rfl
 refine sk (aC (sq [0,1,2,3,4,5] (fa tok ?_)))
 refine rL rfl (cM tok rfl rfl rfl rfl) (fa tok ?_)
 refine rL rfl (cM tok rfl rfl rfl rfl) ?_
 obtain ⟨v2,hv2,h0⟩ := bnd h0
 refine rS rfl (aK 5 (tF hv2) rfl rfl rfl) (rP rfl (bX rfl) (nx ?_))
 refine cF h0 rfl (fun hc h0 => ?_) (fun hc h0 => ?_)
 refine sq [0] (pa (nx (aA (aG ?_))))
 cases h0
 exact r0t 4 rfl
 refine sk (aC (sq [0,1,2,3,4,5] (fa tok ?_)))
 refine ld tok ?_
 refine fa tok ?_
 refine ld tok ?_
 obtain ⟨v3,hv3,h0⟩ := bnd h0
 refine rS rfl (aK 5 (pU hv3) rfl rfl rfl) (rP rfl (bX rfl) (nx ?_))
 refine cF h0 rfl (fun hc h0 => ?_) (fun hc h0 => ?_)
 refine sq [0] (pa (nx (aA (aG ?_))))
 cases h0
 exact r0t 4 rfl
 refine sk (aC (sq [0,1,2,3,4] (fa tok ?_)))
 refine ld tok ?_
 refine fa tok ?_
 refine ld tok ?_
 refine rP rfl (dD rfl rfl) (nx ?_)
 refine bA h0 rfl (fun hc h0 => ?_) (fun hc h0 => ?_)
 refine sq [0] (pa (nx (aA (aG ?_))))
 cases h0
 exact r0t 4 rfl
 refine sk (sq [0] (pa (nx (aA ?_))))
 cases h0
 exact r0t 4 rfl
theorem lD {p0 : Int} {r : ByteArray} (h0 : dH p0 = some r) : FnC Tryz.prog 36 [] [dI p0] [] (dS r) := by
 refine fi 20 tok Tryz.func36 ?_
 unfold dH at h0
 refine sq [0] (pa (nx (aC (sq [0,1] ?_))))
 refine pm ?_
 refine rP rfl (kK rfl rfl) (nx ?_)
 refine bA h0 rfl (fun hc h0 => ?_) (fun hc h0 => ?_)
 refine sq [0] (pa (nx (aA (aG ?_))))
 cases h0
 exact r0t 2 rfl
 refine sk (sq [0] (pa (nx ?_)))
 obtain ⟨v9,h1,h0⟩ := bnd h0
 refine bR ⟨aF ((fun _ => .dead)) 3 (dS v9),lks [.no, .no, .no]⟩ ?_ ?_
 refine aD ?_
 refine aR (fun s5 => ⟨aF (aF ((fun _ => .dead)) 0 (dI s5.1)) 3 (dS s5.2),lks [.no, .no, .no]⟩) h1 ?_ (fun s5 y h2 => ?_)
 exact wk [0,1,2]
 refine aC (sq [0,1] (pm ?_))
 refine rP rfl (kV rfl rfl) (nx ?_)
 refine bA h2 rfl (fun hc h2 => ?_) (fun hc h2 => ?_)
 refine sk (aD (sq [0,1,2,3,4,5,6,7,8] (pm ?_)))
 refine rP rfl (rH rfl rfl (by decide)) (rP rfl (bM rfl rfl) (rP rfl (aH6 tok rfl rfl rfl rfl rfl) (rS rfl (aAv 3 tok cU8 [IntKind.u8.wrap (w64 (48 + (s5.1.tmod 10)))] rfl rfl rfl (by repeat (first | exact Els.nil _ | apply Els.cons (cs := [.d _]) rfl rfl rfl | apply Els.cons (cs := _ :: _) rfl rfl rfl)) rfl rfl rfl (by repeat (first | exact eX.nil | (apply eX.cons; (repeat (first | exact mE.nil | apply mE.cons))))) rfl rfl) (rS rfl (aGi tok rfl rfl rfl rfl rfl rfl rfl rfl rfl rfl) (pm ?_)))))
 obtain ⟨hq7,h2⟩ := cJ h2
 refine rP rfl (jL rfl rfl hq7) (pa (nx (sr [0,1,2] ?_)))
 refine pm ?_
 refine rP rfl (aAp rfl rfl (by decide)) (pa (bE ?_))
 refine bG (bU ?_)
 cases h2
 refine ⟨_,rfl,?_⟩
 exact wk [0,1,2]
 refine bI (bT ?_)
 cases h2
 refine bW ⟨_,rfl,fun e => ?_⟩
 subst e
 refine aM (aI ?_)
 exact wk [0,1,2]
 refine sq [0,1,2] (pm ?_)
 obtain ⟨hq10,h0⟩ := cJ h0
 refine rP rfl (jL rfl rfl hq10) (pa (nx (aA ?_)))
 cases h0
 exact r0t 2 rfl
theorem mH {p0 : List Int} {p1 : Int} {r : Int × List Int} (h0 : dT p0 p1 = some r) : FnC Tryz.prog 35 [.live [⟨2,1, .data (List.map cI p0)⟩]] [.own 0 0 (p0).length,(dI p1)] [.live [⟨2,1, .data (List.map cI r.2)⟩]] (dI r.1) := by
 refine fi 19 tok Tryz.func35 ?_
 unfold dT at h0
 refine sq [0] (pa (nx ?_))
 obtain ⟨v5,h1,h0⟩ := bnd h0
 refine bR ⟨aF ((fun _ => .dead)) 1 (dI v5.1),lks [.live [⟨2,1, .data (List.map cI v5.2)⟩], .no, .no]⟩ ?_ ?_
 refine sq [0] (pa (nx (aD ?_)))
 refine aR (fun s3 => ⟨aF (aF (aF ((fun _ => .dead)) 0 (.own 0 0 (s3.2.2).length)) 1 (dI s3.1)) 5 (dI s3.2.1),lks [.live [⟨2,1, .data (List.map cI s3.2.2)⟩], .no, .no]⟩) h1 ?_ (fun s3 y h2 => ?_)
 exact wk [0,1,2]
 refine aC (sq [0,1,2,3] (pm ?_))
 refine rP rfl (aL (r := .own _ _ _) rfl) (rL rfl (nL tok rfl rfl rfl rfl rfl) (rP rfl (bC rfl rfl) (nx ?_)))
 refine bA h2 rfl (fun hc h2 => ?_) (fun hc h2 => ?_)
 refine sk (aC (aD (sq [0,1,2,3,4] (rP rfl (aL (r := .own _ _ _) rfl) (pm ?_)))))
 refine pm ?_
 obtain ⟨v4,hv4,h2⟩ := bnd h2
 refine rL rfl (mJ tok hv4 rfl rfl rfl rfl rfl rfl rfl rfl) (rw0 rfl w0 (nI (cs := [.d _]) tok s3.1 (eI hv4).2.1 rfl rfl rfl rfl rfl rfl rfl rfl) (nx (sr [0,1,2] (pm ?_))))
 refine rP rfl (bM rfl rfl) (pa (bE ?_))
 refine bG (aI (sr [0,1,2] (pm ?_)))
 refine rP rfl (bM rfl rfl) (pa (bE ?_))
 refine bU ?_
 cases h2
 refine ⟨_,rfl,?_⟩
 exact wk [0,1,2]
 refine bI (bT ?_)
 cases h2
 refine bW ⟨_,rfl,fun e => ?_⟩
 subst e
 refine aM (aI ?_)
 exact wk [0,1,2]
 refine sq [0,1] (pm ?_)
 refine pa (nx (aA ?_))
 cases h0
 exact uS (rs := [.tmp 4]) 1 rfl rfl
theorem qK {p0 : List bH} {p1 : Int} {r : Int × List bH} (h0 : eV p0 p1 = some r) : FnC Tryz.prog 75 [.live [⟨59,2, .av (dK 1 aJ p0)⟩], .live (lR 2 1 aJ p0)] [.own 0 0 (p0).length,(dI p1)] [.live [⟨59,2, .av (dK 1 aJ r.2)⟩], .live (lR 2 1 aJ r.2)] (dI r.1) := by
 refine fi 28 tok Tryz.func75 ?_
 unfold eV at h0
 refine sq [0] (pa (nx ?_))
 obtain ⟨v13,h1,h0⟩ := bnd h0
 refine bR ⟨aF ((fun _ => .dead)) 1 (dI v13.1),lks [.live [⟨59,2, .av (dK 1 aJ v13.2)⟩], .live (lR 2 1 aJ v13.2), .no]⟩ ?_ ?_
 refine sq [0] (pa (nx (aD ?_)))
 refine aR (fun s7 => ⟨aF (aF (aF ((fun _ => .dead)) 0 (.own 0 0 (s7.2.2).length)) 1 (dI s7.1)) 5 (dI s7.2.1),lks [.live [⟨59,2, .av (dK 1 aJ s7.2.2)⟩], .live (lR 2 1 aJ s7.2.2), .no]⟩) h1 ?_ (fun s7 y h2 => ?_)
 exact wk [0,1,2]
 refine aC (sq [0,1,2,3] (pm ?_))
 refine rP rfl (aL (r := .own _ _ _) rfl) (rL rfl (aFw tok rfl rfl rfl rfl rfl) (rP rfl (bC rfl rfl) (nx ?_)))
 refine bA h2 rfl (fun hc h2 => ?_) (fun hc h2 => ?_)
 refine sk (aC (aD (sq [0,1,2,3,4,5,6] (rP rfl (aL (r := .own _ _ _) rfl) (pm ?_)))))
 refine pm ?_
 obtain ⟨v8,hv8,h2⟩ := bnd h2
 refine rS rfl (aK 3 (lD hv8) rfl rfl rfl) ?_
 obtain ⟨v9,hv9,h2⟩ := bnd h2
 refine rL rfl (aCv tok hv9 rfl rfl rfl rfl rfl rfl rfl rfl) (rL rfl (aFg tok (eI hv9).2.1 rfl rfl rfl rfl rfl rfl rfl rfl) (rw0 rfl w0 (aHw (cs := [.d _]) tok (⟨v8,v9.Wheels⟩ : bH) (eI hv9).2.1 rfl rfl rfl rfl rfl rfl rfl rfl rfl rfl rfl) (nx (sq [0,1,2] (pm ?_)))))
 refine rP rfl (bM rfl rfl) (pa (nx (sr [0,1,2,3,4,5,6,7] ?_)))
 refine rP rfl (aL (r := .own _ _ _) rfl) (pm ?_)
 obtain ⟨v10,hv10,h2⟩ := bnd h2
 refine rL rfl (aCv tok hv10 rfl rfl rfl rfl rfl rfl (by first | (simp; done) | omega | (simp; omega)) rfl) (rL rfl (aFg tok (eI hv10).2.1 rfl rfl rfl rfl rfl rfl rfl (by first | (simp; done) | omega | (simp; omega))) (rL rfl (aF3 tok (eI hv10).2.1 rfl rfl rfl rfl (by first | (simp; done) | omega | (simp; omega)) rfl) (pm ?_)))
 obtain ⟨v11,hv11,h2⟩ := bnd h2
 obtain ⟨hq12,h2⟩ := cJ h2
 refine rw1 rfl w0 rfl (aG0 (k := 0) (kf := 1) (⟨v10.Name,v11.2⟩ : bH) (mH hv11) (eI hv10).2.1 (by simp only [eN,aJ,List.length_map,hq12]) rfl rfl rfl rfl rfl rfl rfl) (pa (bE ?_))
 refine bG (aI (sr [0,1,2] (pm ?_)))
 refine rP rfl (bM rfl rfl) (pa (bE ?_))
 refine bU ?_
 cases h2
 refine ⟨_,rfl,?_⟩
 exact wk [0,1,2]
 refine bI (bT ?_)
 cases h2
 refine bW ⟨_,rfl,fun e => ?_⟩
 subst e
 refine aM (aI ?_)
 exact wk [0,1,2]
 refine sq [0,1] (pm ?_)
 refine pa (nx (aA ?_))
 cases h0
 exact uS (rs := [.tmp 4]) 2 rfl rfl
theorem sL {p0 : List bJ} {p1 : Int} {r : Int × List bJ} (h0 : fI p0 p1 = some r) : FnC Tryz.prog 76 [.live [⟨131,4, .data (List.map bF p0)⟩]] [.own 0 0 (p0).length,(dI p1)] [.live [⟨131,4, .data (List.map bF r.2)⟩]] (dI r.1) := by
 refine fi 41 tok Tryz.func76 ?_
 unfold fI at h0
 refine sq [0] (pa (nx ?_))
 obtain ⟨v11,h1,h0⟩ := bnd h0
 refine bR ⟨aF ((fun _ => .dead)) 1 (dI v11.1),lks [.live [⟨131,4, .data (List.map bF v11.2)⟩], .no, .no]⟩ ?_ ?_
 refine sq [0] (pa (nx (aD ?_)))
 refine aR (fun s6 => ⟨aF (aF (aF ((fun _ => .dead)) 0 (.own 0 0 (s6.2.2).length)) 1 (dI s6.1)) 5 (dI s6.2.1),lks [.live [⟨131,4, .data (List.map bF s6.2.2)⟩], .no, .no]⟩) h1 ?_ (fun s6 y h2 => ?_)
 exact wk [0,1,2]
 refine aC (sq [0,1,2,3] (pm ?_))
 refine rP rfl (aL (r := .own _ _ _) rfl) (rL rfl (nL tok rfl rfl rfl rfl rfl) (rP rfl (bC rfl rfl) (nx ?_)))
 refine bA h2 rfl (fun hc h2 => ?_) (fun hc h2 => ?_)
 refine sk (aC (aD (sq [0,1,2,3,4,5] (rP rfl (aL (r := .own _ _ _) rfl) (pm ?_)))))
 refine pm ?_
 obtain ⟨v7,hv7,h2⟩ := bnd h2
 refine rL rfl (mJ tok hv7 rfl rfl rfl rfl rfl rfl rfl rfl) (rL rfl (tK tok (eI hv7).2.1 rfl rfl rfl rfl rfl rfl rfl rfl) (rw0 rfl w0 (nI (cs := [.d _]) tok (⟨s6.1,v7.WheelA,v7.B,v7.WheelB⟩ : bJ) (eI hv7).2.1 rfl rfl rfl rfl rfl rfl rfl rfl) (nx (sq [0,1,2] (pm ?_)))))
 refine rP rfl (bM rfl rfl) (pa (nx (sq [0,1,2,3,4,5] ?_)))
 refine rP rfl (aL (r := .own _ _ _) rfl) (pm ?_)
 refine pm ?_
 obtain ⟨v8,hv8,h2⟩ := bnd h2
 refine rL rfl (mJ tok hv8 rfl rfl rfl rfl rfl rfl (by first | (simp; done) | omega | (simp; omega)) rfl) (rL rfl (tK tok (eI hv8).2.1 rfl rfl rfl rfl rfl rfl rfl (by first | (simp; done) | omega | (simp; omega))) (rw0 rfl w0 (nI (cs := [.d _]) tok (⟨v8.A,w64 (s6.1 + 1),v8.B,v8.WheelB⟩ : bJ) (eI hv8).2.1 rfl rfl rfl rfl rfl rfl rfl (by first | (simp; done) | omega | (simp; omega))) (nx (sq [0,1,2] (pm ?_)))))
 refine rP rfl (bM rfl rfl) (pa (nx (sq [0,1,2,3,4,5] ?_)))
 refine rP rfl (aL (r := .own _ _ _) rfl) (pm ?_)
 refine pm ?_
 obtain ⟨v9,hv9,h2⟩ := bnd h2
 refine rL rfl (mJ tok hv9 rfl rfl rfl rfl rfl rfl (by first | (simp; done) | omega | (simp; omega)) rfl) (rL rfl (tK tok (eI hv9).2.1 rfl rfl rfl rfl rfl rfl rfl (by first | (simp; done) | omega | (simp; omega))) (rw0 rfl w0 (nI (cs := [.d _]) tok (⟨v9.A,v9.WheelA,w64 ((w64 (s6.1 + 1)) + 1),v9.WheelB⟩ : bJ) (eI hv9).2.1 rfl rfl rfl rfl rfl rfl rfl (by first | (simp; done) | omega | (simp; omega))) (nx (sq [0,1,2] (pm ?_)))))
 refine rP rfl (bM rfl rfl) (pa (nx (sq [0,1,2,3,4,5] ?_)))
 refine rP rfl (aL (r := .own _ _ _) rfl) (pm ?_)
 refine pm ?_
 obtain ⟨v10,hv10,h2⟩ := bnd h2
 refine rL rfl (mJ tok hv10 rfl rfl rfl rfl rfl rfl (by first | (simp; done) | omega | (simp; omega)) rfl) (rL rfl (tK tok (eI hv10).2.1 rfl rfl rfl rfl rfl rfl rfl (by first | (simp; done) | omega | (simp; omega))) (rw0 rfl w0 (nI (cs := [.d _]) tok (⟨v10.A,v10.WheelA,v10.B,w64 ((w64 ((w64 (s6.1 + 1)) + 1)) + 1)⟩ : bJ) (eI hv10).2.1 rfl rfl rfl rfl rfl rfl rfl (by first | (simp; done) | omega | (simp; omega))) (nx (sr [0,1,2] (pm ?_)))))
 refine rP rfl (bM rfl rfl) (pa (bE ?_))
 refine bG (aI (sr [0,1,2] (pm ?_)))
 refine rP rfl (bM rfl rfl) (pa (bE ?_))
 refine bU ?_
 cases h2
 refine ⟨_,rfl,?_⟩
 exact wk [0,1,2]
 refine bI (bT ?_)
 cases h2
 refine bW ⟨_,rfl,fun e => ?_⟩
 subst e
 refine aM (aI ?_)
 exact wk [0,1,2]
 refine sq [0,1] (pm ?_)
 refine pa (nx (aA ?_))
 cases h0
 exact uS (rs := [.tmp 4]) 1 rfl rfl
theorem sP {p0 : bQ} {p1 : Int} {r : Int × List bH × List bJ} (h0 : fH p0 p1 = some r) : FnC Tryz.prog 33 [.live [⟨59,2, .av (dK 1 aJ p0.Arbors)⟩], .live (lR 2 1 aJ p0.Arbors), .live [⟨131,4, .data (List.map bF p0.Meshes)⟩]] [.agg [.own 0 0 (p0.Arbors).length, .own 2 0 (p0.Meshes).length],(dI p1)] [.live [⟨59,2, .av (dK 1 aJ r.2.1)⟩], .live (lR 2 1 aJ r.2.1), .live [⟨131,4, .data (List.map bF r.2.2)⟩]] (dI r.1) := by
 refine fi 14 tok Tryz.func33 ?_
 unfold fH at h0
 refine sq [0,1] (bxx 3 ?_)
 refine pa (nx (sq [0,1,2,3,4] ?_))
 refine fa tok ?_
 refine ld tok ?_
 refine pm ?_
 obtain ⟨v1,hv1,h0⟩ := bnd h0
 obtain ⟨hq2,h0⟩ := cJ h0
 refine rw1 rfl w0 rfl (lI [0,1] 300 (qK hv1) rfl rfl) (pa (nx (sq [0,1,2,3,4] ?_)))
 refine fa tok ?_
 refine ld tok ?_
 refine pm ?_
 obtain ⟨v3,hv3,h0⟩ := bnd h0
 obtain ⟨hq4,h0⟩ := cJ h0
 refine rw1 rfl w0 rfl (lI [2] 300 (sL hv3) rfl rfl) (pa (nx (sq [0,1] ?_)))
 refine pm ?_
 refine pa (nx (aA ?_))
 cases h0
 exact uS (rs := [.tmp 4]) 3 rfl rfl
theorem qJ {p0 : List aZ} {p1 : Int} {r : Int × List aZ} (h0 : eY p0 p1 = some r) : FnC Tryz.prog 77 [.live [⟨139,3, .data (List.map aN p0)⟩]] [.own 0 0 (p0).length,(dI p1)] [.live [⟨139,3, .data (List.map aN r.2)⟩]] (dI r.1) := by
 refine fi 35 tok Tryz.func77 ?_
 unfold eY at h0
 refine sq [0] (pa (nx ?_))
 obtain ⟨v11,h1,h0⟩ := bnd h0
 refine bR ⟨aF ((fun _ => .dead)) 1 (dI v11.1),lks [.live [⟨139,3, .data (List.map aN v11.2)⟩], .no, .no]⟩ ?_ ?_
 refine sq [0] (pa (nx (aD ?_)))
 refine aR (fun s6 => ⟨aF (aF (aF ((fun _ => .dead)) 0 (.own 0 0 (s6.2.2).length)) 1 (dI s6.1)) 5 (dI s6.2.1),lks [.live [⟨139,3, .data (List.map aN s6.2.2)⟩], .no, .no]⟩) h1 ?_ (fun s6 y h2 => ?_)
 exact wk [0,1,2]
 refine aC (sq [0,1,2,3] (pm ?_))
 refine rP rfl (aL (r := .own _ _ _) rfl) (rL rfl (nL tok rfl rfl rfl rfl rfl) (rP rfl (bC rfl rfl) (nx ?_)))
 refine bA h2 rfl (fun hc h2 => ?_) (fun hc h2 => ?_)
 refine sk (aC (aD (sq [0,1,2,3,4,5,6] (rP rfl (aL (r := .own _ _ _) rfl) (pm ?_)))))
 refine pm ?_
 obtain ⟨v7,hv7,h2⟩ := bnd h2
 refine rS rfl (aK 3 (lD hv7) rfl rfl rfl) ?_
 obtain ⟨v8,hv8,h2⟩ := bnd h2
 refine rL rfl (mJ tok hv8 rfl rfl rfl rfl rfl rfl rfl rfl) (rL rfl (tK tok (eI hv8).2.1 rfl rfl rfl rfl rfl rfl rfl rfl) (rw0 rfl w0 (nI (cs := [.d _]) tok (⟨v7,v8.Days,v8.Leap⟩ : aZ) (eI hv8).2.1 rfl rfl rfl rfl rfl rfl rfl rfl) (nx (sq [0,1,2] (pm ?_)))))
 refine rP rfl (bM rfl rfl) (pa (nx (sq [0,1,2,3,4,5] ?_)))
 refine rP rfl (aL (r := .own _ _ _) rfl) (pm ?_)
 refine pm ?_
 obtain ⟨v9,hv9,h2⟩ := bnd h2
 refine rL rfl (mJ tok hv9 rfl rfl rfl rfl rfl rfl (by first | (simp; done) | omega | (simp; omega)) rfl) (rL rfl (tK tok (eI hv9).2.1 rfl rfl rfl rfl rfl rfl rfl (by first | (simp; done) | omega | (simp; omega))) (rw0 rfl w0 (nI (cs := [.d _]) tok (⟨v9.Name,w64 (s6.1 + 1),v9.Leap⟩ : aZ) (eI hv9).2.1 rfl rfl rfl rfl rfl rfl rfl (by first | (simp; done) | omega | (simp; omega))) (nx (sq [0,1,2] (pm ?_)))))
 refine rP rfl (bM rfl rfl) (pa (nx (sq [0,1,2,3,4,5] ?_)))
 refine rP rfl (aL (r := .own _ _ _) rfl) (pm ?_)
 refine pm ?_
 obtain ⟨v10,hv10,h2⟩ := bnd h2
 refine rL rfl (mJ tok hv10 rfl rfl rfl rfl rfl rfl (by first | (simp; done) | omega | (simp; omega)) rfl) (rL rfl (tK tok (eI hv10).2.1 rfl rfl rfl rfl rfl rfl rfl (by first | (simp; done) | omega | (simp; omega))) (rw0 rfl w0 (nI (cs := [.d _]) tok (⟨v10.Name,v10.Days,w64 ((w64 (s6.1 + 1)) + 1)⟩ : aZ) (eI hv10).2.1 rfl rfl rfl rfl rfl rfl rfl (by first | (simp; done) | omega | (simp; omega))) (nx (sr [0,1,2] (pm ?_)))))
 refine rP rfl (bM rfl rfl) (pa (bE ?_))
 refine bG (aI (sr [0,1,2] (pm ?_)))
 refine rP rfl (bM rfl rfl) (pa (bE ?_))
 refine bU ?_
 cases h2
 refine ⟨_,rfl,?_⟩
 exact wk [0,1,2]
 refine bI (bT ?_)
 cases h2
 refine bW ⟨_,rfl,fun e => ?_⟩
 subst e
 refine aM (aI ?_)
 exact wk [0,1,2]
 refine sq [0,1] (pm ?_)
 refine pa (nx (aA ?_))
 cases h0
 exact uS (rs := [.tmp 4]) 1 rfl rfl
theorem nR {p0 : List aH} {p1 : Int} {r : Int × List aH} (h0 : dO p0 p1 = some r) : FnC Tryz.prog 78 [.live [⟨142,3, .data (List.map aE p0)⟩]] [.own 0 0 (p0).length,(dI p1)] [.live [⟨142,3, .data (List.map aE r.2)⟩]] (dI r.1) := by
 refine fi 36 tok Tryz.func78 ?_
 unfold dO at h0
 refine sq [0] (pa (nx ?_))
 obtain ⟨v11,h1,h0⟩ := bnd h0
 refine bR ⟨aF ((fun _ => .dead)) 1 (dI v11.1),lks [.live [⟨142,3, .data (List.map aE v11.2)⟩], .no, .no]⟩ ?_ ?_
 refine sq [0] (pa (nx (aD ?_)))
 refine aR (fun s6 => ⟨aF (aF (aF ((fun _ => .dead)) 0 (.own 0 0 (s6.2.2).length)) 1 (dI s6.1)) 5 (dI s6.2.1),lks [.live [⟨142,3, .data (List.map aE s6.2.2)⟩], .no, .no]⟩) h1 ?_ (fun s6 y h2 => ?_)
 exact wk [0,1,2]
 refine aC (sq [0,1,2,3] (pm ?_))
 refine rP rfl (aL (r := .own _ _ _) rfl) (rL rfl (nL tok rfl rfl rfl rfl rfl) (rP rfl (bC rfl rfl) (nx ?_)))
 refine bA h2 rfl (fun hc h2 => ?_) (fun hc h2 => ?_)
 refine sk (aC (aD (sq [0,1,2,3,4,5] (rP rfl (aL (r := .own _ _ _) rfl) (pm ?_)))))
 refine pm ?_
 obtain ⟨v7,hv7,h2⟩ := bnd h2
 refine rL rfl (mJ tok hv7 rfl rfl rfl rfl rfl rfl rfl rfl) (rL rfl (tK tok (eI hv7).2.1 rfl rfl rfl rfl rfl rfl rfl rfl) (rw0 rfl w0 (nI (cs := [.d _]) tok (⟨s6.1,v7.Rest,v7.Leap⟩ : aH) (eI hv7).2.1 rfl rfl rfl rfl rfl rfl rfl rfl) (nx (sq [0,1,2] (pm ?_)))))
 refine rP rfl (bM rfl rfl) (pa (nx (sq [0,1,2,3,4,5] ?_)))
 refine rP rfl (aL (r := .own _ _ _) rfl) (pm ?_)
 refine pm ?_
 obtain ⟨v8,hv8,h2⟩ := bnd h2
 refine rL rfl (mJ tok hv8 rfl rfl rfl rfl rfl rfl (by first | (simp; done) | omega | (simp; omega)) rfl) (rL rfl (tK tok (eI hv8).2.1 rfl rfl rfl rfl rfl rfl rfl (by first | (simp; done) | omega | (simp; omega))) (rw0 rfl w0 (nI (cs := [.d _]) tok (⟨v8.Every,w64 (s6.1 + 1),v8.Leap⟩ : aH) (eI hv8).2.1 rfl rfl rfl rfl rfl rfl rfl (by first | (simp; done) | omega | (simp; omega))) (nx (sq [0,1,2] (pm ?_)))))
 refine rP rfl (bM rfl rfl) (pa (nx (sq [0,1,2,3,4,5,6,7] ?_)))
 refine rP rfl (aL (r := .own _ _ _) rfl) (pm ?_)
 refine pm ?_
 refine rP rfl (rH rfl rfl (by decide)) (rP rfl (pC rfl rfl) ?_)
 obtain ⟨v10,hv10,h2⟩ := bnd h2
 refine rL rfl (mJ tok hv10 rfl rfl rfl rfl rfl rfl (by first | (simp; done) | omega | (simp; omega)) rfl) (rL rfl (tK tok (eI hv10).2.1 rfl rfl rfl rfl rfl rfl rfl (by first | (simp; done) | omega | (simp; omega))) (rw0 rfl w0 (nI (cs := [.d _]) tok (⟨v10.Every,v10.Rest,decide (((w64 ((w64 (s6.1 + 1)) + 1)).tmod 3) = 0)⟩ : aH) (eI hv10).2.1 rfl rfl rfl rfl rfl rfl rfl (by first | (simp; done) | omega | (simp; omega))) (nx (sr [0,1,2] (pm ?_)))))
 refine rP rfl (bM rfl rfl) (pa (bE ?_))
 refine bG (aI (sr [0,1,2] (pm ?_)))
 refine rP rfl (bM rfl rfl) (pa (bE ?_))
 refine bU ?_
 cases h2
 refine ⟨_,rfl,?_⟩
 exact wk [0,1,2]
 refine bI (bT ?_)
 cases h2
 refine bW ⟨_,rfl,fun e => ?_⟩
 subst e
 refine aM (aI ?_)
 exact wk [0,1,2]
 refine sq [0,1] (pm ?_)
 refine pa (nx (aA ?_))
 cases h0
 exact uS (rs := [.tmp 4]) 1 rfl rfl
theorem oI {p0 : bP} {p1 : Int} {r : Int × List aZ × List aH} (h0 : eA p0 p1 = some r) : FnC Tryz.prog 34 [.live [⟨139,3, .data (List.map aN p0.Months)⟩], .live [⟨142,3, .data (List.map aE p0.Rules)⟩]] [.agg [dS p0.Name, .own 0 0 (p0.Months).length, .own 1 0 (p0.Rules).length,(dI p0.Week)],(dI p1)] [.live [⟨139,3, .data (List.map aN r.2.1)⟩], .live [⟨142,3, .data (List.map aE r.2.2)⟩]] (dI r.1) := by
 refine fi 14 tok Tryz.func34 ?_
 unfold eA at h0
 refine sq [0,1] (bxx 3 ?_)
 refine pa (nx (sq [0,1,2,3,4] ?_))
 refine fa tok ?_
 refine ld tok ?_
 refine pm ?_
 obtain ⟨v1,hv1,h0⟩ := bnd h0
 obtain ⟨hq2,h0⟩ := cJ h0
 refine rw1 rfl w0 rfl (lI [0] 300 (qJ hv1) rfl rfl) (pa (nx (sq [0,1,2,3,4] ?_)))
 refine fa tok ?_
 refine ld tok ?_
 refine pm ?_
 obtain ⟨v3,hv3,h0⟩ := bnd h0
 obtain ⟨hq4,h0⟩ := cJ h0
 refine rw1 rfl w0 rfl (lI [1] 300 (nR hv3) rfl rfl) (pa (nx (sq [0,1] ?_)))
 refine pm ?_
 refine pa (nx (aA ?_))
 cases h0
 exact uS (rs := [.tmp 4]) 2 rfl rfl
theorem oF {p0 : aV} {p1 : Int} {r : Int × List bH × List bJ × List aZ × List aH × List Int} (h0 : dY p0 p1 = some r) : FnC Tryz.prog 10 [.live [⟨59,2, .av (dK 1 aJ p0.Works.Arbors)⟩], .live (lR 2 1 aJ p0.Works.Arbors), .live [⟨131,4, .data (List.map bF p0.Works.Meshes)⟩], .live [⟨139,3, .data (List.map aN p0.Calendar.Months)⟩], .live [⟨142,3, .data (List.map aE p0.Calendar.Rules)⟩], .live [⟨2,1, .data (List.map cI p0.Cam)⟩]] [.agg [dS p0.Name, .own 0 0 (p0.Works.Arbors).length, .own 2 0 (p0.Works.Meshes).length,(dI p0.Minute),(dI p0.Hour),(dI p0.Escape),(dI p0.Teeth),(dI p0.Beats),(dS p0.Calendar.Name), .own 3 0 (p0.Calendar.Months).length, .own 4 0 (p0.Calendar.Rules).length,(dI p0.Calendar.Week), .own 5 0 (p0.Cam).length,(dI p0.Strike)],(dI p1)] [.live [⟨59,2, .av (dK 1 aJ r.2.1)⟩], .live (lR 2 1 aJ r.2.1), .live [⟨131,4, .data (List.map bF r.2.2.1)⟩], .live [⟨139,3, .data (List.map aN r.2.2.2.1)⟩], .live [⟨142,3, .data (List.map aE r.2.2.2.2.1)⟩], .live [⟨2,1, .data (List.map cI r.2.2.2.2.2)⟩]] (dI r.1) := by
 refine uE (L := 6) (T := tt) (N := 18) tok Tryz.func10 rfl rfl (by kernel_rfl) rfl rfl ?_
 unfold dY at h0
 refine sq [0,1] (bxx 6 ?_)
 refine pa (nx (sq [0,1,2,3,4] ?_))
 refine fa tok ?_
 refine rL rfl (cM tok rfl rfl rfl rfl) (pm ?_)
 obtain ⟨v1,hv1,h0⟩ := bnd h0
 obtain ⟨hq2,h0⟩ := cJ h0
 obtain ⟨hq3,h0⟩ := cJ h0
 refine rw1 rfl w0 rfl (lI [0,1,2] 300 (sP hv1) rfl rfl) (pa (nx (sq [0,1,2,3,4] ?_)))
 refine fa tok ?_
 refine rL rfl (cM tok rfl rfl rfl rfl) (pm ?_)
 obtain ⟨v4,hv4,h0⟩ := bnd h0
 obtain ⟨hq5,h0⟩ := cJ h0
 obtain ⟨hq6,h0⟩ := cJ h0
 refine rw1 rfl w0 rfl (lI [3,4] 300 (oI hv4) rfl rfl) (pa (nx (sq [0,1,2,3,4] ?_)))
 refine fa tok ?_
 refine ld tok ?_
 refine pm ?_
 obtain ⟨v7,hv7,h0⟩ := bnd h0
 obtain ⟨hq8,h0⟩ := cJ h0
 refine rw1 rfl w0 rfl (lI [5] 300 (mH hv7) rfl rfl) (pa (nx (sq [0,1] ?_)))
 refine pm ?_
 refine pa (nx (aA ?_))
 cases h0
 exact uS (rs := [.tmp 4]) 6 rfl rfl
theorem pH {p0 : List ByteArray} {p1 : Int} {r : Int × List ByteArray} (h0 : eM p0 p1 = some r) : FnC Tryz.prog 11 [.live [⟨9,1, .data (List.map cS p0)⟩]] [.own 0 0 (p0).length,(dI p1)] [.live [⟨9,1, .data (List.map cS r.2)⟩]] (dI r.1) := by
 refine fi 20 tok Tryz.func11 ?_
 unfold eM at h0
 refine sq [0] (pa (nx ?_))
 obtain ⟨v7,h1,h0⟩ := bnd h0
 refine bR ⟨aF ((fun _ => .dead)) 1 (dI v7.1),lks [.live [⟨9,1, .data (List.map cS v7.2)⟩], .no, .no]⟩ ?_ ?_
 refine sq [0] (pa (nx (aD ?_)))
 refine aR (fun s4 => ⟨aF (aF (aF ((fun _ => .dead)) 0 (.own 0 0 (s4.2.2).length)) 1 (dI s4.1)) 5 (dI s4.2.1),lks [.live [⟨9,1, .data (List.map cS s4.2.2)⟩], .no, .no]⟩) h1 ?_ (fun s4 y h2 => ?_)
 exact wk [0,1,2]
 refine aC (sq [0,1,2,3] (pm ?_))
 refine rP rfl (aL (r := .own _ _ _) rfl) (rL rfl (nL tok rfl rfl rfl rfl rfl) (rP rfl (bC rfl rfl) (nx ?_)))
 refine bA h2 rfl (fun hc h2 => ?_) (fun hc h2 => ?_)
 refine sk (aC (aD (sq [0,1,2,3,4,5] (rP rfl (aL (r := .own _ _ _) rfl) (pm ?_)))))
 refine pm ?_
 obtain ⟨v5,hv5,h2⟩ := bnd h2
 refine rS rfl (aK 3 (lD hv5) rfl rfl rfl) ?_
 obtain ⟨v6,hv6,h2⟩ := bnd h2
 refine rL rfl (mJ tok hv6 rfl rfl rfl rfl rfl rfl rfl rfl) (rw0 rfl w0 (nI (cs := [.d _]) tok v5 (eI hv6).2.1 rfl rfl rfl rfl rfl rfl rfl rfl) (nx (sr [0,1,2] (pm ?_))))
 refine rP rfl (bM rfl rfl) (pa (bE ?_))
 refine bG (aI (sr [0,1,2] (pm ?_)))
 refine rP rfl (bM rfl rfl) (pa (bE ?_))
 refine bU ?_
 cases h2
 refine ⟨_,rfl,?_⟩
 exact wk [0,1,2]
 refine bI (bT ?_)
 cases h2
 refine bW ⟨_,rfl,fun e => ?_⟩
 subst e
 refine aM (aI ?_)
 exact wk [0,1,2]
 refine sq [0,1] (pm ?_)
 refine pa (nx (aA ?_))
 cases h0
 exact uS (rs := [.tmp 4]) 1 rfl rfl
theorem mN {p0 : List ByteArray} {p1 : Int} {r : Int} (h0 : eK p0 p1 = some r) : FnC Tryz.prog 12 [] [dL cS p0,(dI p1)] [] (dI r) := by
 refine fi 22 tok Tryz.func12 ?_
 unfold eK at h0
 refine sq [0] (pa (nx ?_))
 obtain ⟨v7x,h1,h0⟩ := bnd h0
 refine cQ v7x (fun v7 => ⟨aF ((fun _ => .dead)) 1 (dI v7),lks [.no, .no, .no]⟩) ?_ ?_
 refine sq [0] (pa (nx (aD ?_)))
 refine aR (fun s4 => ⟨aF (aF (aF ((fun _ => .dead)) 0 (dL cS p0)) 1 (dI s4.1)) 5 (dI s4.2),lks [.no, .no, .no]⟩) h1 ?_ (fun s4 y h2 => ?_)
 exact wk [0,1,2]
 refine aC (sq [0,1,2,3] (pm ?_))
 refine pm ?_
 refine rP rfl (aB tok rfl rfl rfl) (rP rfl (bC rfl rfl) (nx ?_))
 refine bA h2 rfl (fun hc h2 => ?_) (fun hc h2 => ?_)
 refine sk (aC (aD (aC (aC (bL (is := [0,1,2,3,4,5,6]) [0,0,3,7,0,16,63] follows (by kernel_rfl) (tpm ?_))))))
 refine tpm ?_
 obtain ⟨v5,hv5,h2⟩ := bnd h2
 refine tP rfl (cO tok hv5 rfl rfl rfl rfl rfl rfl) (tlr tok ?_)
 refine tpm ?_
 obtain ⟨v6,hv6,h2⟩ := bnd h2
 refine wG rfl w0 rfl (jD 3 (lD hv6) rfl rfl rfl) (tP rfl (pK rfl rfl) (dW ?_))
 refine ⟨by kernel_rfl,?_⟩
 refine aI ?_
 refine bA h2 rfl (fun hc h2 => ?_) (fun hc h2 => ?_)
 refine sq [0] (pa (nx (aA (aG ?_))))
 refine aS (aG ?_)
 cases h2
 refine dC ⟨_,rfl,fun e => ?_⟩
 subst e
 refine aS ?_
 replace h0 := fG h0
 refine aG ?_
 cases h0
 exact r0t 4 rfl
 refine sk (sr [0,1,2] (pm ?_))
 refine rP rfl (bM rfl rfl) (pa (bE ?_))
 refine bG (aI (sr [0,1,2] (pm ?_)))
 refine rP rfl (bM rfl rfl) (pa (bE ?_))
 refine bU ?_
 cases h2
 refine ⟨_,rfl,?_⟩
 exact wk [0,1,2]
 refine bI (bT ?_)
 cases h2
 refine bW ⟨_,rfl,fun e => ?_⟩
 subst e
 refine aM (aI ?_)
 refine ⟨_,rfl,?_⟩
 exact wk [0,1,2]
 rintro v7 rfl
 replace h0 := hJ h0
 refine sq [0,1] (pm ?_)
 refine pa (nx (aA ?_))
 cases h0
 exact r0t 4 rfl
theorem oH {p0 : aV} {r : Bool} (h0 : fD p0 = some r) : FnC Tryz.prog 3 [] [.agg [dS p0.Name,(dL aJ p0.Works.Arbors),(dL bF p0.Works.Meshes),(dI p0.Minute),(dI p0.Hour),(dI p0.Escape),(dI p0.Teeth),(dI p0.Beats),(dS p0.Calendar.Name),(dL aN p0.Calendar.Months),(dL aE p0.Calendar.Rules),(dI p0.Calendar.Week),(dL cI p0.Cam),(dI p0.Strike)]] [] (dB r) := by
 refine fi 96 tok Tryz.func3 ?_
 unfold fD at h0
 refine sq [0,1] (bxx 3 ?_)
 refine pa (nx (sq [0] ?_))
 refine pa (nx (sq [0,1,2,3] ?_))
 refine rL rfl (cM tok rfl rfl rfl rfl) (pm ?_)
 obtain ⟨v1,hv1,h0⟩ := bnd h0
 refine rS rfl (aK 4 (tL hv1) rfl rfl rfl) (pa (nx (aC (sq [0,1] ?_))))
 refine pm ?_
 refine rP rfl (bC rfl rfl) (nx ?_)
 refine bA h0 rfl (fun hc h0 => ?_) (fun hc h0 => ?_)
 refine sq [0] (pa (nx (aA (aG ?_))))
 cases h0
 exact r0t 2 rfl
 refine sk (sq [0,1,2,3,4,5,6,7] (rL rfl (cM tok rfl rfl rfl rfl) ?_))
 obtain ⟨v2,hv2,h0⟩ := bnd h0
 refine rS rfl (aK 4 (iQ hv2) rfl rfl rfl) ?_
 obtain ⟨v3,hv3,h0⟩ := bnd h0
 refine rS rfl (gZ 10 (aAe hv3) rfl rfl) (rP rfl (aL (r := .tup _) rfl) (rP rfl (dU rfl rfl) (rP rfl (dU rfl rfl) (rP rfl (aQ (r := .own _ _ _) rfl) (pa (nx (sq [0,1,2,3] ?_)))))))
 refine rL rfl (cM tok rfl rfl rfl rfl) ?_
 obtain ⟨v4,hv4,h0⟩ := bnd h0
 refine rS rfl (aK 11 (iQ hv4) rfl rfl rfl) (al 17 [ze,zl,zl,z0,z0,z0,z0,z0,ze,zl,zl,z0,zl,z0] tok ?_)
 refine bst tok (nx (sq [0,1,2,3,4,5,6] ?_))
 refine rL rfl (cM tok rfl rfl rfl rfl) ?_
 obtain ⟨v5,hv5,h0⟩ := bnd h0
 refine rS rfl (gZ 18 (sT hv5) rfl rfl) (rP rfl (aL (r := .tup _) rfl) (rP rfl (dU rfl rfl) (rP rfl (dU rfl rfl) (rP rfl (aQ (r := .own _ _ _) rfl) (pa (nx (aC ?_)))))))
 obtain ⟨v7,h1,h0⟩ := bnd h0
 refine bR ⟨aF (aF (aF (aF (aF (aF (aF ((fun _ => .dead)) 1 (.ptr 3 0 1 0 0)) 4 (.own 4 0 (v3.1).length)) 5 (dI v3.2)) 6 (.ptr 5 0 1 0 0)) 7 (.own 6 0 (v5.1).length)) 8 (dI v5.2)) 40 (dB v7),lks [.no, .no, .no, .live [⟨32,14, .av [[dS p0.Name,(dL aJ p0.Works.Arbors),(dL bF p0.Works.Meshes),(dI p0.Minute),(dI p0.Hour),(dI p0.Escape),(dI p0.Teeth),(dI p0.Beats),(dS p0.Calendar.Name),(dL aN p0.Calendar.Months),(dL aE p0.Calendar.Rules),(dI p0.Calendar.Week),(dL cI p0.Cam),(dI p0.Strike)]]⟩], .live [⟨9,1, .data (List.map cS v3.1)⟩], .live [⟨46,14, .av [[dS v4.Name, .own 7 0 (v4.Works.Arbors).length, .own 8 0 (v4.Works.Meshes).length,(dI v4.Minute),(dI v4.Hour),(dI v4.Escape),(dI v4.Teeth),(dI v4.Beats),(dS v4.Calendar.Name), .own 9 0 (v4.Calendar.Months).length, .own 10 0 (v4.Calendar.Rules).length,(dI v4.Calendar.Week), .own 11 0 (v4.Cam).length,(dI v4.Strike)]]⟩], .live [⟨9,1, .data (List.map cS v5.1)⟩], .live [⟨59,2, .av (dK 12 aJ v4.Works.Arbors)⟩], .live [⟨131,4, .data (List.map bF v4.Works.Meshes)⟩], .live [⟨139,3, .data (List.map aN v4.Calendar.Months)⟩], .live [⟨142,3, .data (List.map aE v4.Calendar.Rules)⟩], .live [⟨2,1, .data (List.map cI v4.Cam)⟩], .live (lR 2 1 aJ v4.Works.Arbors)]⟩ ?_ ?_
 refine sr [0,1,2,3,4,5,6,7,8] (rP rfl (aL (r := .own _ _ _) rfl) (rP rfl (aL (r := .own _ _ _) rfl) ?_))
 obtain ⟨v6,hv6,h1⟩ := bnd h1
 refine rS rfl (gZ 19 (lV hv6) rfl rfl) (rP rfl (bX rfl) (pm ?_))
 refine cT (u := 36) h1 rfl (fun hc h1 => ?_) (fun hc h1 => ?_)
 iterate 3 refine k1 ?_
 refine pkt (nx ?_)
 cases h1
 exact wk [0,1,2,3,10,17,18,11,13,14,15,16,12]
 refine pm1 ?_
 refine pm1 ?_
 refine rp rfl (w1 rfl rfl rfl) rfl (dD rfl rfl) (pkf (nx ?_))
 cases h1
 exact wk [0,1,2,3,10,17,18,11,13,14,15,16,12]
 refine cF h0 rfl (fun hc h0 => ?_) (fun hc h0 => ?_)
 refine sq [0] (pa (nx (aA (aG ?_))))
 cases h0
 exact r0t 2 rfl
 refine sk (aC (aC (bL (is := [0,1,2,3,4]) [0,0,2,7,15] follows (by kernel_rfl) (zA rfl w0 rfl (cM tok rfl rfl rfl rfl) rfl rfl rfl (zA rfl w0 rfl (cM tok rfl rfl rfl rfl) rfl rfl rfl ?_)))))
 obtain ⟨v8,hv8,h0⟩ := bnd h0
 refine wG rfl w0 rfl (jD 13 (iQ hv8) rfl rfl rfl) ?_
 obtain ⟨v9,hv9,h0⟩ := bnd h0
 refine wG rfl w0 rfl (aGk 19 (tE hv9) rfl rfl) (tP rfl (bX rfl) (dW ?_))
 refine ⟨by kernel_rfl,?_⟩
 refine aI ?_
 refine cF h0 rfl (fun hc h0 => ?_) (fun hc h0 => ?_)
 refine sq [0] (pa (nx (aA (aG ?_))))
 cases h0
 exact r0t 2 rfl
 refine sk (sq [0] (pa (nx (sq [0,1,2,3] ?_))))
 refine rL rfl (cM tok rfl rfl rfl rfl) (pm ?_)
 obtain ⟨v10,hv10,h0⟩ := bnd h0
 obtain ⟨hq11,h0⟩ := cJ h0
 obtain ⟨hq12,h0⟩ := cJ h0
 obtain ⟨hq13,h0⟩ := cJ h0
 obtain ⟨hq14,h0⟩ := cJ h0
 obtain ⟨hq15,h0⟩ := cJ h0
 refine rw1 rfl w0 rfl (lI [7,12,8,9,10,11] 300 (oF hv10) rfl rfl) (pa (nx (aC ?_)))
 obtain ⟨v17,h1,h0⟩ := bnd h0
 refine bR ⟨aF (aF (aF (aF (aF ((fun _ => .dead)) 1 (.ptr 3 0 1 0 0)) 4 (.own 4 0 (v3.1).length)) 5 (dI v3.2)) 7 (.own 5 0 (v5.1).length)) 61 (dB v17),lks [.no, .no, .no, .live [⟨32,14, .av [[dS p0.Name,(dL aJ p0.Works.Arbors),(dL bF p0.Works.Meshes),(dI p0.Minute),(dI p0.Hour),(dI p0.Escape),(dI p0.Teeth),(dI p0.Beats),(dS p0.Calendar.Name),(dL aN p0.Calendar.Months),(dL aE p0.Calendar.Rules),(dI p0.Calendar.Week),(dL cI p0.Cam),(dI p0.Strike)]]⟩], .live [⟨9,1, .data (List.map cS v3.1)⟩], .live [⟨9,1, .data (List.map cS v5.1)⟩]]⟩ ?_ ?_
 refine sr [0,1,2,3,4,5,6,7,8,9,10,11,12] (pm ?_)
 refine rP rfl (bC rfl rfl) (pm ?_)
 refine jJ (u := 51) h1 rfl (fun hc h1 => ?_) (fun hc h1 => ?_)
 iterate 4 refine k1 ?_
 refine pkt ?_
 refine pm ?_
 iterate 3 refine k1 ?_
 refine pkt (nx ?_)
 cases h1
 exact wk [0,1,2,3,4,6]
 refine rp rfl (w1 rfl rfl rfl) rfl (aL (r := .own _ _ _) rfl) (rp rfl (w1 rfl rfl rfl) rfl (aL (r := .own _ _ _) rfl) ?_)
 obtain ⟨v16,hv16,h1⟩ := bnd h1
 refine rs rfl (w1 rfl rfl rfl) rfl (gZ 19 (lV hv16) rfl rfl) (rp rfl (w1 rfl rfl rfl) rfl (bX rfl) (pkf ?_))
 refine pm ?_
 refine cT (u := 57) h1 rfl (fun hc h1 => ?_) (fun hc h1 => ?_)
 iterate 3 refine k1 ?_
 refine pkt (nx ?_)
 cases h1
 exact wk [0,1,2,3,4,6]
 refine pm1 ?_
 refine pm1 ?_
 refine rp rfl (w1 rfl rfl rfl) rfl (dD rfl rfl) (pkf (nx ?_))
 cases h1
 exact wk [0,1,2,3,4,6]
 refine cF h0 rfl (fun hc h0 => ?_) (fun hc h0 => ?_)
 refine sq [0] (pa (nx (aA (aG ?_))))
 cases h0
 exact r0t 2 rfl
 refine sk (sq [0] (pa (nx (sq [0,1,2,3] ?_))))
 refine rP rfl (aL (r := .own _ _ _) rfl) (pm ?_)
 obtain ⟨v18,hv18,h0⟩ := bnd h0
 obtain ⟨hq19,h0⟩ := cJ h0
 refine rw1 rfl w0 rfl (lI [5] 300 (pH hv18) rfl rfl) (pa (nx (sq [0] ?_)))
 refine pa (nx (sq [0,1,2,3] ?_))
 refine rP rfl (aL (r := .own _ _ _) rfl) (pm ?_)
 obtain ⟨v20,hv20,h0⟩ := bnd h0
 refine rS rfl (gZ 6 (mN hv20) rfl rfl) (pa (nx (aC (sq [0,1] ?_))))
 refine pm ?_
 refine rP rfl (bC rfl rfl) (nx ?_)
 refine bA h0 rfl (fun hc h0 => ?_) (fun hc h0 => ?_)
 refine sq [0] (pa (nx (aA (aG ?_))))
 cases h0
 exact r0t 2 rfl
 refine sk (aC (sq [0,1,2] (pm ?_)))
 refine pm ?_
 refine rP rfl (dD rfl rfl) (nx ?_)
 refine bA h0 rfl (fun hc h0 => ?_) (fun hc h0 => ?_)
 refine sq [0] (pa (nx (aA (aG ?_))))
 cases h0
 exact r0t 2 rfl
 refine sk (sq [0,1,2,3,4,5,6,7] (rL rfl (cM tok rfl rfl rfl rfl) ?_))
 obtain ⟨v21,hv21,h0⟩ := bnd h0
 refine rS rfl (aK 6 (iQ hv21) rfl rfl rfl) ?_
 obtain ⟨v22,hv22,h0⟩ := bnd h0
 refine rS rfl (gZ 12 (sT hv22) rfl rfl) (rP rfl (aL (r := .tup _) rfl) (rP rfl (dU rfl rfl) (rP rfl (dU rfl rfl) (rP rfl (aQ (r := .own _ _ _) rfl) (pa (nx (aC ?_)))))))
 obtain ⟨v24,h1,h0⟩ := bnd h0
 refine bR ⟨aF (aF (aF ((fun _ => .dead)) 7 (.own 3 0 (v18.2).length)) 10 (dI v18.1)) 87 (dB v24),lks [.no, .no, .no, .live [⟨9,1, .data (List.map cS v18.2)⟩]]⟩ ?_ ?_
 refine sr [0,1,2,3,4,5,6,7,8] (rP rfl (aL (r := .own _ _ _) rfl) (rP rfl (aL (r := .own _ _ _) rfl) ?_))
 obtain ⟨v23,hv23,h1⟩ := bnd h1
 refine rS rfl (gZ 13 (lV hv23) rfl rfl) (rP rfl (bX rfl) (pm ?_))
 refine cT (u := 83) h1 rfl (fun hc h1 => ?_) (fun hc h1 => ?_)
 iterate 3 refine k1 ?_
 refine pkt (nx ?_)
 cases h1
 exact wk [0,1,2,5]
 refine pm1 ?_
 refine pm1 ?_
 refine rp rfl (w1 rfl rfl rfl) rfl (dD rfl rfl) (pkf (nx ?_))
 cases h1
 exact wk [0,1,2,5]
 refine cF h0 rfl (fun hc h0 => ?_) (fun hc h0 => ?_)
 refine sq [0] (pa (nx (aA (aG ?_))))
 cases h0
 exact r0t 2 rfl
 refine sk (sq [0] (pa (nx (sq [0,1,2,3] ?_))))
 refine rP rfl (aL (r := .own _ _ _) rfl) (pm ?_)
 obtain ⟨v25,hv25,h0⟩ := bnd h0
 refine rS rfl (gZ 4 (mN hv25) rfl rfl) (pa (nx (aC (sq [0,1] ?_))))
 refine pm ?_
 refine rP rfl (bC rfl rfl) (nx ?_)
 refine bA h0 rfl (fun hc h0 => ?_) (fun hc h0 => ?_)
 refine sq [0] (pa (nx (aA (aG ?_))))
 cases h0
 exact r0t 2 rfl
 refine sk (aC (sq [0,1,2] (pm ?_)))
 refine pm ?_
 refine rP rfl (dD rfl rfl) (nx ?_)
 refine bA h0 rfl (fun hc h0 => ?_) (fun hc h0 => ?_)
 refine sq [0] (pa (nx (aA (aG ?_))))
 cases h0
 exact r0t 2 rfl
 refine sk (sq [0] (pa (nx (aA ?_))))
 cases h0
 exact r0t 2 rfl
end Go.Proofs.YtgcdbbidmfdonaaGreatDoor
namespace Go.Proofs.YtgcdbbidmfdonaaGreatDoor
set_option linter.unusedVariables false
set_option maxRecDepth 100000
def oO (n : Int) : ByteArray := ⟨(Lib.itoa n).toArray⟩
theorem fT {n : Int} (h : osI n) : (oO n).size ≤ 21 := by
 have := Lib.itoa_length_le n h.1 h.2
 simpa [oO,ByteArray.size] using this
def dgs (u : Nat) : List Int := if h : u = 0 then [] else dgs (u / 10) ++ [48 + ((u % 10 : Nat) : Int)]
termination_by u
decreasing_by omega
theorem oN : dgs 0 = [] := by rw [dgs,dif_pos rfl]
theorem vT {u : Nat} (h : u ≠ 0) : dgs u = dgs (u / 10) ++ [48 + ((u % 10 : Nat) : Int)] := by rw [dgs,dif_neg h]
theorem aFm (d : Nat) (h : d < 10) : UInt8.ofNat (48 + (d : Int)).toNat = 48 + UInt8.ofNat d := by
 rw [show (48 + (d : Int)).toNat = 48 + d by omega,UInt8.ofNat_add]
 rfl
theorem aGp : ∀ (u : Nat),u ≠ 0 → (strOfNums (dgs u)).data.toList = Lib.decDigits u := by
 intro u
 induction u using Nat.strongRecOn with
 | _ u ih =>
  intro h
  rw [vT h,Lib.decDigits]
  by_cases h1 : u < 10
  ·rw [dif_pos h1,show u / 10 = 0 by omega,oN,show u % 10 = u by omega]
   simp [strOfNums]
   exact aFm u (by omega)
  ·rw [dif_neg h1, ← ih (u / 10) (by omega) (by omega)]
   simp [strOfNums]
   exact aFm (u % 10) (by omega)
theorem zC : ∀ (k u : Nat),u < 10 ^ k → (dgs u).length ≤ k
 | 0,u,h => by
  have : u = 0 := by simpa using h
  subst this
  rw [oN]; exact Nat.le_refl _
 | k + 1,u,h => by
  by_cases h0 : u = 0
  ·subst h0; rw [oN]; exact Nat.zero_le _
  ·rw [vT h0,List.length_append]
   have := zC k (u / 10) (by rw [Nat.pow_succ] at h; omega)
   simp; omega
theorem lS {n : Int} (hn : osI n) : gL n = some (oO n) := by
 obtain ⟨h0,h1⟩ := hn
 unfold gL
 rw [lB (x := dgs n.natAbs) (fun s : Int × List Int => osI s.1 ∧ dgs s.1.natAbs ++ s.2 = dgs n.natAbs) (fun s => s.1.natAbs) (fun s hs => ?_) (s0 := (n,[])) ⟨⟨h0,h1⟩,by simp⟩ (by dsimp only; omega)]
 ·simp only [Option.bind_some]
  by_cases hz : n = 0
  ·subst hz
   rw [Int.natAbs_zero,oN,if_pos (by simp)]
   simp [oO,Lib.itoa,Lib.decDigits]
  ·have hp : n.natAbs ≠ 0 := by omega
   have hl : (dgs n.natAbs).length ≠ 0 := by rw [vT hp]; simp
   have hL := zC 19 n.natAbs (by omega)
   have e := aGp n.natAbs hp
   have es : strOfNums (dgs n.natAbs) = ⟨(Lib.decDigits n.natAbs).toArray⟩ := by rw [← e]
   rw [if_neg (by omega)]
   split
   ·rename_i hneg
    rw [cW (by simp [strOfNums,ByteArray.size]; omega),es]
    simp only [oO,Lib.itoa,if_pos hneg]
    congr 1
   ·rename_i hneg
    rw [es]
    simp only [oO,Lib.itoa,if_neg hneg]
    rw [show n.toNat = n.natAbs by omega]
 ·obtain ⟨k,out⟩ := s
  obtain ⟨⟨a0,a1⟩,a2⟩ := hs
  simp only at a0 a1 a2 ⊢
  by_cases hk : k = 0
  ·right
   subst hk
   rw [Int.natAbs_zero,oN] at a2
   simp at a2 ⊢
   exact a2
  ·left
   rw [if_pos hk]
   have hd : (if k.tmod 10 < 0 then some (w64 (-(k.tmod 10))) else some (k.tmod 10)) = some (((k.natAbs % 10 : Nat)) : Int) := by
    have e1 : ((k.tmod 10).natAbs) = k.natAbs % 10 := Int.natAbs_tmod _ _
    split
    ·rw [cG (by omega) (by omega)]; congr 1; omega
    ·congr 1; omega
   rw [hd]
   simp only [Option.bind_some]
   have hL : (dgs n.natAbs).length ≤ 19 := zC 19 n.natAbs (by omega)
   have hle : out.length ≤ 19 := by rw [← a2] at hL; simp at hL; omega
   have ew : IntKind.u8.wrap (w64 (48 + ((k.natAbs % 10 : Nat) : Int))) = 48 + ((k.natAbs % 10 : Nat) : Int) := by
    rw [cG (by omega) (by omega)]
    exact IntWalk.u8_in _ ⟨by omega,by omega⟩
   have eq : (k.tdiv 10).natAbs = k.natAbs / 10 := Int.natAbs_tdiv _ _
   rw [cW (by simp; omega),ew,cG (by omega) (by omega)]
   refine ⟨_,rfl,⟨⟨by dsimp only; omega,by dsimp only; omega⟩,?_⟩,?_⟩
   ·dsimp only
    rw [eq, ← a2,vT (u := k.natAbs) (by omega)]
    simp
   ·dsimp only
    omega
theorem kY {n : Int} (hn : osI n) : fJ n = some (oO n) := by
 unfold fJ gI
 rw [cW ⟨hn.1,hn.2,rfl⟩]
 rfl
end Go.Proofs.YtgcdbbidmfdonaaGreatDoor
