/- Texts of this claim, one behind the other (merged by a program of mine). -/
import Derived.Test.YtgcdbbidmfdonaaGreatProg
import Derived.Test.YtgcdbbidmfdonaaGreatGR6
set_option linter.unusedSimpArgs false
set_option linter.unusedVariables false
namespace Go.Proofs.YtgcdbbidmfdonaaGreat
open Go.RowKit
set_option linter.unusedVariables false
set_option maxRecDepth 100000
set_option maxHeartbeats 2000000
theorem zI {p0 : aH} {r : Bool} (h0 : gT p0 = some r) : FnC Tryz.prog 61 [] [.agg [dL cI p0.Cam, (dI p0.Months), (dI p0.Teeth), (dI p0.At), (dI p0.Day), (dI p0.Week), (dI p0.Weekday)]] [] (dB r) := by
 refine fi 58 tok Tryz.func61 ?_
 unfold gT at h0
 refine sq [0,1] (bxx 3 ?_)
 refine pa (nx (aD ?_))
 obtain ⟨v3, h1, h0⟩ := bnd h0
 refine bH ⟨aE (aE ((fun _ => .dead)) 1 (.ptr 3 0 1 0 0)) 20 (dB v3), lks [.no, .no, .no, .live [⟨38, 7, .av [[dL cI p0.Cam, (dI p0.Months), (dI p0.Teeth), (dI p0.At), (dI p0.Day), (dI p0.Week), (dI p0.Weekday)]]⟩]]⟩ ?_ ?_
 refine sr [0,1,2,3,4,5,6,7,8,9,10,11,12,13,14,15,16,17] (fa tok ?_)
 refine ld tok ?_
 obtain ⟨v1, hv1, h1⟩ := bnd h1
 refine rS rfl (aO 4 (uW hv1) rfl rfl rfl) (rP rfl (bQ rfl) (pm ?_))
 refine cY (u := 7) h1 rfl (fun hc h1 => ?_) (fun hc h1 => ?_)
 iterate 3 refine k1 ?_
 refine pkt ?_
 refine pm ?_
 iterate 7 refine k1 ?_
 refine pkt (nx ?_)
 cases h1
 exact wk [0,1,2,3]
 refine fa1 tok ?_
 refine ld1 tok ?_
 refine rp rfl (w1 rfl rfl rfl) rfl (bR rfl rfl) (pkf ?_)
 refine pm ?_
 refine eP (u := 12) h1 rfl (fun hc h1 => ?_) (fun hc h1 => ?_)
 iterate 7 refine k1 ?_
 refine pkt (nx ?_)
 cases h1
 exact wk [0,1,2,3]
 refine fa1 tok ?_
 refine ld1 tok ?_
 refine rp rfl (w1 rfl rfl rfl) rfl (aL tok rfl rfl rfl) (fa1 tok ?_)
 refine ld1 tok ?_
 obtain ⟨hq2, h1⟩ := dP h1
 refine rp rfl (w1 rfl rfl rfl) rfl (fP rfl rfl hq2) (rp rfl (w1 rfl rfl rfl) rfl (dW rfl rfl) (pkf (nx ?_)))
 cases h1
 exact wk [0,1,2,3]
 refine bM h0 rfl (fun hc h0 => ?_) (fun hc h0 => ?_)
 refine sq [0] (pa (nx (aA (aR ?_))))
 cases h0
 exact r0t 2 rfl
 refine sk (aD ?_)
 obtain ⟨v5, h1, h0⟩ := bnd h0
 refine bH ⟨aE (aE ((fun _ => .dead)) 1 (.ptr 3 0 1 0 0)) 31 (dB v5), lks [.no, .no, .no, .live [⟨38, 7, .av [[dL cI p0.Cam, (dI p0.Months), (dI p0.Teeth), (dI p0.At), (dI p0.Day), (dI p0.Week), (dI p0.Weekday)]]⟩]]⟩ ?_ ?_
 refine aC (is := [0,1,2,3,4,5,7,8,6,9,10]) [0,1,3,7,15,31,63,15,143,511,1023] follows (by kernel_rfl) (tfa tok ?_)
 refine tld tok ?_
 refine tP rfl (eQ rfl rfl) (tpm ?_)
 refine zM (u := 24) h1 rfl (fun hc h1 => ?_) (fun hc h1 => ?_)
 iterate 6 refine k2 ?_
 refine rI ?_
 refine bC ?_
 refine ⟨by kernel_rfl, ?_⟩
 refine aI ?_
 cases h1
 exact wk [0,1,2,3]
 refine bW rfl (w1 rfl rfl rfl) rfl (sH tok rfl rfl rfl rfl rfl rfl rfl) rfl rfl rfl (bW rfl (w1 rfl rfl rfl) rfl (lD tok rfl rfl rfl rfl rfl) rfl rfl rfl (bW rfl (w1 rfl rfl rfl) rfl (sH tok rfl rfl rfl rfl rfl rfl rfl) rfl rfl rfl (bW rfl (w1 rfl rfl rfl) rfl (lD tok rfl rfl rfl rfl rfl) rfl rfl rfl ?_)))
 obtain ⟨v4, hv4, h1⟩ := bnd h1
 refine iL rfl (w1 rfl rfl rfl) rfl (cR 4 (lB hv4) rfl rfl rfl) (mL rfl (w1 rfl rfl rfl) rfl (eQ rfl rfl) (qN ?_))
 refine bC ?_
 refine ⟨by kernel_rfl, ?_⟩
 refine aI ?_
 cases h1
 exact wk [0,1,2,3]
 refine bM h0 rfl (fun hc h0 => ?_) (fun hc h0 => ?_)
 refine sq [0] (pa (nx (aA (aR ?_))))
 cases h0
 exact r0t 2 rfl
 refine sk (sq [0,1,2,3,4,5,6,7,8,9,10,11,12,13,14,15,16,17,18,19,20,21,22,23,24,25,26] (fa tok ?_))
 refine ld tok ?_
 refine fa tok ?_
 refine ld tok ?_
 refine rP rfl (aL tok rfl rfl rfl) (rP rfl (eZ rfl rfl) ?_)
 obtain ⟨v6, hv6, h0⟩ := bnd h0
 refine rS rfl (aO 4 (dF hv6) rfl rfl rfl) (pm ?_)
 refine cY (u := 39) h0 rfl (fun hc h0 => ?_) (fun hc h0 => ?_)
 refine fa1 tok ?_
 refine ld1 tok ?_
 refine fa1 tok ?_
 refine ld1 tok ?_
 obtain ⟨v7, hv7, h0⟩ := bnd h0
 refine rs rfl (w1 rfl rfl rfl) rfl (aO 4 (dF hv7) rfl rfl rfl) (pkt ?_)
 refine pm ?_
 refine cY (u := 46) h0 rfl (fun hc h0 => ?_) (fun hc h0 => ?_)
 refine fa1 tok ?_
 refine ld1 tok ?_
 obtain ⟨v8, hv8, h0⟩ := bnd h0
 refine rs rfl (w1 rfl rfl rfl) rfl (aO 4 (dF hv8) rfl rfl rfl) (pkt ?_)
 refine pm ?_
 refine cY (u := 51) h0 rfl (fun hc h0 => ?_) (fun hc h0 => ?_)
 refine fa1 tok ?_
 refine ld1 tok ?_
 refine fa1 tok ?_
 refine ld1 tok ?_
 obtain ⟨v9, hv9, h0⟩ := bnd h0
 refine rs rfl (w1 rfl rfl rfl) rfl (aO 4 (dF hv9) rfl rfl rfl) (pkt ?_)
 refine pa (nx (aA ?_))
 cases h0
 exact r0t 2 rfl
 iterate 5 refine k1 ?_
 refine pkf ?_
 refine pa (nx (aA ?_))
 cases h0
 exact r0t 2 rfl
 iterate 3 refine k1 ?_
 refine pkf ?_
 refine pm ?_
 iterate 5 refine k1 ?_
 refine pkf ?_
 refine pa (nx (aA ?_))
 cases h0
 exact r0t 2 rfl
 iterate 5 refine k1 ?_
 refine pkf ?_
 refine pm ?_
 iterate 3 refine k1 ?_
 refine pkf ?_
 refine pm ?_
 iterate 5 refine k1 ?_
 refine pkf ?_
 refine pa (nx (aA ?_))
 cases h0
 exact r0t 2 rfl

theorem rE {p0 : List Int} {p1 : List Int} {r : Bool} (h0 : eL p0 p1 = some r) : FnC Tryz.prog 119 [] [dL cI p0, (dL cI p1)] [] (dB r) := by
 refine fi 26 tok Tryz.func119 ?_
 unfold eL at h0
 refine sq [0] (pa (nx (aD (sq [0,1,2,3,4] ?_))))
 refine pm ?_
 refine rP rfl (aL tok rfl rfl rfl) (pm ?_)
 refine rP rfl (aL tok rfl rfl rfl) (rP rfl (dW rfl rfl) (nx ?_))
 refine bN h0 rfl (fun hc h0 => ?_) (fun hc h0 => ?_)
 refine sq [0] (pa (nx (aA (aR ?_))))
 cases h0
 exact r0t 4 rfl
 refine sk ?_
 obtain ⟨v7x, h1, h0⟩ := bnd h0
 refine dZ v7x (fun v7 => ⟨(fun _ => .dead), lks [.no, .no, .no]⟩) ?_ ?_
 refine sq [0,1,2] (pm ?_)
 refine rP rfl (aL tok rfl rfl rfl) (pm (nx (aK ?_)))
 refine bD (fun s4 => ⟨aE (aE (aE (aE ((fun _ => .dead)) 0 (dL cI p0)) 1 (dL cI p1)) 12 (dI (p0.length : Int))) 13 (dI s4), lks [.no, .no, .no]⟩) h1 ?_ (fun s4 y h2 => ?_)
 exact wk [0,1,2]
 refine sq [0] (rP rfl (bR rfl rfl) (nx (aD ?_)))
 refine bN h2 rfl (fun hc h2 => ?_) (fun hc h2 => ?_)
 refine sk (aD (aK (sq [0,1] (pm ?_))))
 refine pa (nx (aD ?_))
 refine aC (is := [0,1,2,3,4,5,6,7,8]) [0,0,3,7,0,0,48,112,255] follows (by kernel_rfl) (tpm ?_)
 refine tpm ?_
 obtain ⟨v5, hv5, h2⟩ := bnd h2
 refine tP rfl (cK tok hv5 rfl rfl rfl rfl rfl rfl) (tlr tok ?_)
 refine tpm ?_
 refine tpm ?_
 obtain ⟨v6, hv6, h2⟩ := bnd h2
 refine tP rfl (cK tok hv6 rfl rfl rfl rfl rfl rfl) (tlr tok ?_)
 refine tP rfl (dW rfl rfl) (bC ?_)
 refine ⟨by kernel_rfl, ?_⟩
 refine aI ?_
 refine bN h2 rfl (fun hc h2 => ?_) (fun hc h2 => ?_)
 refine sq [0] (pa (nx (aA ?_)))
 refine bJ (aR ?_)
 cases h2
 refine eX ⟨_, rfl, fun e => ?_⟩
 subst e
 refine bJ ?_
 replace h0 := gF h0
 refine aR ?_
 cases h0
 exact r0t 4 rfl
 refine cV (bG (aI (sr [0,1] (rP rfl (bI rfl rfl) (pm (bB ?_))))))
 refine cE ?_
 cases h2
 refine ⟨_, rfl, ?_⟩
 exact wk [0,1,2]
 refine bL (bZ ?_)
 cases h2
 refine cG ⟨_, rfl, fun e => ?_⟩
 subst e
 refine aX (aI ?_)
 refine ⟨_, rfl, ?_⟩
 exact wk [0,1,2]
 rintro v7 rfl
 replace h0 := iF h0
 refine sq [0] (pa (nx (aA ?_)))
 cases h0
 exact r0t 4 rfl

theorem oQ {p0 : dM} {r : Bool} (h0 : gD p0 = some r) : FnC Tryz.prog 41 [] [.agg [dS p0.Movement.Name, (dL aM p0.Movement.Works.Arbors), (dL bF p0.Movement.Works.Meshes), (dI p0.Movement.Minute), (dI p0.Movement.Hour), (dI p0.Movement.Escape), (dI p0.Movement.Teeth), (dI p0.Movement.Beats), (dS p0.Movement.Calendar.Name), (dL aP p0.Movement.Calendar.Months), (dL aF p0.Movement.Calendar.Rules), (dI p0.Movement.Calendar.Week), (dL cI p0.Movement.Cam), (dI p0.Movement.Strike), (dI p0.Start.Year), (dI p0.Start.Month), (dI p0.Start.Day), (dI p0.First), (dI p0.Clock), (dL cI p0.Dial.Cam), (dI p0.Dial.Months), (dI p0.Dial.Teeth), (dI p0.Dial.At), (dI p0.Dial.Day), (dI p0.Dial.Week), (dI p0.Dial.Weekday)]] [] (dB r) := by
 refine fi 61 tok Tryz.func41 ?_
 unfold gD at h0
 refine sq [0,1] (bxx 3 ?_)
 refine pa (nx (sq [0,1,2,3,4,5,6,7,8,9,10,11,12] ?_))
 refine fa tok ?_
 refine rL rfl (aT tok rfl rfl rfl rfl) (fa tok ?_)
 refine rL rfl (aT tok rfl rfl rfl rfl) (fa tok ?_)
 refine ld tok ?_
 obtain ⟨v1, hv1, h0⟩ := bnd h0
 refine rS rfl (aO 4 (aL3 hv1) rfl rfl rfl) (rP rfl (aG (r := .tup _) rfl) (rP rfl (aN rfl rfl) (rP rfl (aN rfl rfl) (al 11 [ze, zl, zl, z0, z0, z0, z0, z0, ze, zl, zl, z0, zl, z0, z0, z0, z0, z0, z0, zl, z0, z0, z0, z0, z0, z0] tok ?_))))
 refine bst tok ?_
 refine pa (nx (aD ?_))
 obtain ⟨v4, h1, h0⟩ := bnd h0
 refine bH ⟨aE (aE (aE ((fun _ => .dead)) 1 (.ptr 3 0 1 0 0)) 3 (.ptr 4 0 1 0 0)) 30 (dB v4), lks [.no, .no, .no, .live [⟨40, 26, .av [[dS p0.Movement.Name, (dL aM p0.Movement.Works.Arbors), (dL bF p0.Movement.Works.Meshes), (dI p0.Movement.Minute), (dI p0.Movement.Hour), (dI p0.Movement.Escape), (dI p0.Movement.Teeth), (dI p0.Movement.Beats), (dS p0.Movement.Calendar.Name), (dL aP p0.Movement.Calendar.Months), (dL aF p0.Movement.Calendar.Rules), (dI p0.Movement.Calendar.Week), (dL cI p0.Movement.Cam), (dI p0.Movement.Strike), (dI p0.Start.Year), (dI p0.Start.Month), (dI p0.Start.Day), (dI p0.First), (dI p0.Clock), (dL cI p0.Dial.Cam), (dI p0.Dial.Months), (dI p0.Dial.Teeth), (dI p0.Dial.At), (dI p0.Dial.Day), (dI p0.Dial.Week), (dI p0.Dial.Weekday)]]⟩], .live [⟨40, 26, .av [[dS v1.1.Movement.Name, .own 5 0 (v1.1.Movement.Works.Arbors).length, .own 6 0 (v1.1.Movement.Works.Meshes).length, (dI v1.1.Movement.Minute), (dI v1.1.Movement.Hour), (dI v1.1.Movement.Escape), (dI v1.1.Movement.Teeth), (dI v1.1.Movement.Beats), (dS v1.1.Movement.Calendar.Name), .own 7 0 (v1.1.Movement.Calendar.Months).length, .own 8 0 (v1.1.Movement.Calendar.Rules).length, (dI v1.1.Movement.Calendar.Week), .own 9 0 (v1.1.Movement.Cam).length, (dI v1.1.Movement.Strike), (dI v1.1.Start.Year), (dI v1.1.Start.Month), (dI v1.1.Start.Day), (dI v1.1.First), (dI v1.1.Clock), .own 10 0 (v1.1.Dial.Cam).length, (dI v1.1.Dial.Months), (dI v1.1.Dial.Teeth), (dI v1.1.Dial.At), (dI v1.1.Dial.Day), (dI v1.1.Dial.Week), (dI v1.1.Dial.Weekday)]]⟩], .live [⟨123, 2, .av (eU 11 aM v1.1.Movement.Works.Arbors)⟩], .live [⟨125, 4, .data (List.map bF v1.1.Movement.Works.Meshes)⟩], .live [⟨170, 3, .data (List.map aP v1.1.Movement.Calendar.Months)⟩], .live [⟨181, 3, .data (List.map aF v1.1.Movement.Calendar.Rules)⟩], .live [⟨2, 1, .data (List.map cI v1.1.Movement.Cam)⟩], .live [⟨2, 1, .data (List.map cI v1.1.Dial.Cam)⟩], .live (lT 2 1 aM v1.1.Movement.Works.Arbors)]⟩ ?_ ?_
 refine sr [0,1,2,3,4,5,6,7,8,9,10,11,12,13] (pm ?_)
 refine rP rfl (dW rfl rfl) (pm ?_)
 refine eP (u := 19) h1 rfl (fun hc h1 => ?_) (fun hc h1 => ?_)
 iterate 4 refine k1 ?_
 refine pkt ?_
 refine pm ?_
 iterate 4 refine k1 ?_
 refine pkt (nx ?_)
 cases h1
 exact wk [0,1,2,3,11,4,6,7,8,9,10,5]
 refine fa1 tok ?_
 refine ld1 tok ?_
 obtain ⟨v2, hv2, h1⟩ := bnd h1
 refine rs rfl (w1 rfl rfl rfl) rfl (aO 12 (dF hv2) rfl rfl rfl) (rp rfl (w1 rfl rfl rfl) rfl (bQ rfl) (pkf ?_))
 refine pm ?_
 refine cY (u := 25) h1 rfl (fun hc h1 => ?_) (fun hc h1 => ?_)
 iterate 4 refine k1 ?_
 refine pkt (nx ?_)
 cases h1
 exact wk [0,1,2,3,11,4,6,7,8,9,10,5]
 refine fa1 tok ?_
 refine rl rfl (w1 rfl rfl rfl) rfl (aT tok rfl rfl rfl rfl) ?_
 obtain ⟨v3, hv3, h1⟩ := bnd h1
 refine rs rfl (w1 rfl rfl rfl) rfl (aO 12 (zI hv3) rfl rfl rfl) (rp rfl (w1 rfl rfl rfl) rfl (bQ rfl) (pkf (nx ?_)))
 cases h1
 exact wk [0,1,2,3,11,4,6,7,8,9,10,5]
 refine bM h0 rfl (fun hc h0 => ?_) (fun hc h0 => ?_)
 refine sq [0] (pa (nx (aA (aR ?_))))
 cases h0
 exact r0t 2 rfl
 refine sk (aD (aC (is := [0,1,2,3,4,5,6,7]) [0,1,0,4,0,0,51,127] follows (by kernel_rfl) (tfa tok ?_)))
 refine bW rfl w0 rfl (aT tok rfl rfl rfl rfl) rfl rfl rfl (tfa tok ?_)
 refine bW rfl w0 rfl (aT tok rfl rfl rfl rfl) rfl rfl rfl (aAz rfl w0 rfl rfl (fun hx hk => iQ 12 (cs := [zl, z0, z0, z0, z0, z0, z0]) tok rfl rfl hk) (aAz rfl w0 rfl rfl (fun hx hk => iQ 13 (cs := [zl, z0, z0, z0, z0, z0, z0]) tok rfl rfl hk) (iN rfl w0 (fR (cs := _ :: _) tok rfl rfl rfl rfl rfl rfl rfl) (iN rfl w0 (fR (cs := _ :: _) tok rfl rfl rfl rfl rfl rfl rfl) (bC ?_)))))
 refine ⟨by kernel_rfl, ?_⟩
 refine aI (sq [0,1,2,3,4,5,6,7,8,9,10,11,12,13,14,15,16,17,18,19,20,21,22,23,24,25,26] (fa tok ?_))
 refine ld tok ?_
 refine fa tok ?_
 refine ld tok ?_
 obtain ⟨v5, hv5, h0⟩ := bnd h0
 refine rS rfl (dR 14 (rE hv5) rfl rfl) (pm ?_)
 refine cY (u := 40) h0 rfl (fun hc h0 => ?_) (fun hc h0 => ?_)
 refine fa1 tok ?_
 refine ld1 tok ?_
 refine fa1 tok ?_
 refine ld1 tok ?_
 refine rp rfl (w1 rfl rfl rfl) rfl (dV rfl rfl) (pkt ?_)
 refine pm ?_
 refine eP (u := 47) h0 rfl (fun hc h0 => ?_) (fun hc h0 => ?_)
 refine fa1 tok ?_
 refine ld1 tok ?_
 refine fa1 tok ?_
 refine ld1 tok ?_
 refine rp rfl (w1 rfl rfl rfl) rfl (dV rfl rfl) (pkt ?_)
 refine pm ?_
 refine eP (u := 54) h0 rfl (fun hc h0 => ?_) (fun hc h0 => ?_)
 refine fa1 tok ?_
 refine ld1 tok ?_
 refine fa1 tok ?_
 refine ld1 tok ?_
 refine rp rfl (w1 rfl rfl rfl) rfl (dV rfl rfl) (pkt ?_)
 refine pa (nx (aA ?_))
 cases h0
 exact r0t 2 rfl
 iterate 5 refine k1 ?_
 refine pkf ?_
 refine pa (nx (aA ?_))
 cases h0
 exact r0t 2 rfl
 iterate 5 refine k1 ?_
 refine pkf ?_
 refine pm ?_
 iterate 5 refine k1 ?_
 refine pkf ?_
 refine pa (nx (aA ?_))
 cases h0
 exact r0t 2 rfl
 iterate 5 refine k1 ?_
 refine pkf ?_
 refine pm ?_
 iterate 5 refine k1 ?_
 refine pkf ?_
 refine pm ?_
 iterate 5 refine k1 ?_
 refine pkf ?_
 refine pa (nx (aA ?_))
 cases h0
 exact r0t 2 rfl

theorem aDb {p0 : aH} {r : aH} (h0 : mR p0 = some r) : FnC Tryz.prog 120 [] [.agg [dL cI p0.Cam, (dI p0.Months), (dI p0.Teeth), (dI p0.At), (dI p0.Day), (dI p0.Week), (dI p0.Weekday)]] [.live [⟨2, 1, .data (List.map cI r.Cam)⟩]] (.agg [.own 0 0 r.Cam.length, (dI r.Months), (dI r.Teeth), (dI r.At), (dI r.Day), (dI r.Week), (dI r.Weekday)]) := by
 refine fi 8 tok Tryz.func120 ?_
 unfold mR at h0
 refine sq [0,1] (bxx 3 ?_)
 refine al 4 [zl, z0, z0, z0, z0, z0, z0] tok (nx (sq [0,1,2,3,4] ?_))
 refine fa tok ?_
 refine ld tok ?_
 obtain ⟨v1, hv1, h0⟩ := bnd h0
 refine rS rfl (aO 5 (fH hv1) rfl rfl rfl) (fa tok ?_)
 refine rw0 rfl w0 (fR (cs := [.own _ _ _]) tok rfl rfl rfl rfl rfl rfl rfl) (nx (sq [0,1] (rL rfl (aT tok rfl rfl rfl rfl) (bst tok (nx (aA ?_))))))
 cases h0
 exact dG (rs := [.cell 2 38]) [5] rfl

theorem xU {p0 : dM} {r : dM} (h0 : jY p0 = some r) : FnC Tryz.prog 43 [] [.agg [dS p0.Movement.Name, (dL aM p0.Movement.Works.Arbors), (dL bF p0.Movement.Works.Meshes), (dI p0.Movement.Minute), (dI p0.Movement.Hour), (dI p0.Movement.Escape), (dI p0.Movement.Teeth), (dI p0.Movement.Beats), (dS p0.Movement.Calendar.Name), (dL aP p0.Movement.Calendar.Months), (dL aF p0.Movement.Calendar.Rules), (dI p0.Movement.Calendar.Week), (dL cI p0.Movement.Cam), (dI p0.Movement.Strike), (dI p0.Start.Year), (dI p0.Start.Month), (dI p0.Start.Day), (dI p0.First), (dI p0.Clock), (dL cI p0.Dial.Cam), (dI p0.Dial.Months), (dI p0.Dial.Teeth), (dI p0.Dial.At), (dI p0.Dial.Day), (dI p0.Dial.Week), (dI p0.Dial.Weekday)]] [.live [⟨123, 2, .av (eU 1 aM r.Movement.Works.Arbors)⟩], .live (lT 2 1 aM r.Movement.Works.Arbors), .live [⟨125, 4, .data (List.map bF r.Movement.Works.Meshes)⟩], .live [⟨170, 3, .data (List.map aP r.Movement.Calendar.Months)⟩], .live [⟨181, 3, .data (List.map aF r.Movement.Calendar.Rules)⟩], .live [⟨2, 1, .data (List.map cI r.Movement.Cam)⟩], .live [⟨2, 1, .data (List.map cI r.Dial.Cam)⟩]] (.agg [dS r.Movement.Name, .own 0 0 r.Movement.Works.Arbors.length, .own 2 0 r.Movement.Works.Meshes.length, (dI r.Movement.Minute), (dI r.Movement.Hour), (dI r.Movement.Escape), (dI r.Movement.Teeth), (dI r.Movement.Beats), (dS r.Movement.Calendar.Name), .own 3 0 r.Movement.Calendar.Months.length, .own 4 0 r.Movement.Calendar.Rules.length, (dI r.Movement.Calendar.Week), .own 5 0 r.Movement.Cam.length, (dI r.Movement.Strike), (dI r.Start.Year), (dI r.Start.Month), (dI r.Start.Day), (dI r.First), (dI r.Clock), .own 6 0 r.Dial.Cam.length, (dI r.Dial.Months), (dI r.Dial.Teeth), (dI r.Dial.At), (dI r.Dial.Day), (dI r.Dial.Week), (dI r.Dial.Weekday)]) := by
 refine fi 12 tok Tryz.func43 ?_
 unfold jY at h0
 refine sq [0,1] (bxx 3 ?_)
 refine al 4 [ze, zl, zl, z0, z0, z0, z0, z0, ze, zl, zl, z0, zl, z0, z0, z0, z0, z0, z0, zl, z0, z0, z0, z0, z0, z0] tok (nx (sq [0,1,2,3,4] ?_))
 refine fa tok ?_
 refine rL rfl (aT tok rfl rfl rfl rfl) ?_
 obtain ⟨v1, hv1, h0⟩ := bnd h0
 refine rS rfl (aO 5 (uF hv1) rfl rfl rfl) (fa tok ?_)
 refine bst tok (nx (sq [0,1,2,3,4] ?_))
 refine fa tok ?_
 refine rL rfl (aT tok rfl rfl rfl rfl) ?_
 obtain ⟨v2, hv2, h0⟩ := bnd h0
 refine rS rfl (aO 11 (aDb hv2) rfl rfl rfl) (fa tok ?_)
 refine bst tok (nx (sq [0,1] ?_))
 refine rL rfl (aT tok rfl rfl rfl rfl) (bst tok (nx (aA ?_)))
 cases h0
 exact dG (rs := [.cell 2 40]) [5,6,7,8,9,10,11] rfl

theorem aAk {p0 : aH} {r : Int} (h0 : iJ p0 = some r) : FnC Tryz.prog 121 [] [.agg [dL cI p0.Cam, (dI p0.Months), (dI p0.Teeth), (dI p0.At), (dI p0.Day), (dI p0.Week), (dI p0.Weekday)]] [] (dI r) := by
 refine fi 18 tok Tryz.func121 ?_
 unfold iJ at h0
 refine sq [0,1] (bxx 3 ?_)
 refine pa (nx (aD (aD ?_)))
 refine aC (is := [0,1,2,3,4,5,6,7,8]) [0,1,0,4,0,16,60,124,255] follows (by kernel_rfl) (tfa tok ?_)
 refine tld tok ?_
 refine tfa tok ?_
 refine tld tok ?_
 refine tfa tok ?_
 refine tld tok ?_
 obtain ⟨v1, hv1, h0⟩ := bnd h0
 refine tP rfl (cK tok hv1 rfl rfl rfl rfl rfl rfl) (tlr tok ?_)
 refine tP rfl (dV rfl rfl) (bC ?_)
 refine ⟨by kernel_rfl, ?_⟩
 refine aI ?_
 refine bN h0 rfl (fun hc h0 => ?_) (fun hc h0 => ?_)
 refine sq [0,1,2,3,4,5,6] (fa tok ?_)
 refine ld tok ?_
 refine rP rfl (bI rfl rfl) (fa tok ?_)
 refine ld tok ?_
 refine rP rfl (eZ rfl rfl) (pa (nx (aA (aR ?_))))
 cases h0
 exact r0t 2 rfl
 refine sk (sq [0] (pa (nx (aA ?_))))
 cases h0
 exact r0t 2 rfl

theorem kI {p0 : dM} {r : dM} (h0 : dY p0 = some r) : FnC Tryz.prog 49 [.live [⟨40, 26, .av [[dS p0.Movement.Name, .own 1 0 (p0.Movement.Works.Arbors).length, .own 3 0 (p0.Movement.Works.Meshes).length, (dI p0.Movement.Minute), (dI p0.Movement.Hour), (dI p0.Movement.Escape), (dI p0.Movement.Teeth), (dI p0.Movement.Beats), (dS p0.Movement.Calendar.Name), .own 4 0 (p0.Movement.Calendar.Months).length, .own 5 0 (p0.Movement.Calendar.Rules).length, (dI p0.Movement.Calendar.Week), .own 6 0 (p0.Movement.Cam).length, (dI p0.Movement.Strike), (dI p0.Start.Year), (dI p0.Start.Month), (dI p0.Start.Day), (dI p0.First), (dI p0.Clock), .own 7 0 (p0.Dial.Cam).length, (dI p0.Dial.Months), (dI p0.Dial.Teeth), (dI p0.Dial.At), (dI p0.Dial.Day), (dI p0.Dial.Week), (dI p0.Dial.Weekday)]]⟩], .live [⟨123, 2, .av (eU 2 aM p0.Movement.Works.Arbors)⟩], .live (lT 2 1 aM p0.Movement.Works.Arbors), .live [⟨125, 4, .data (List.map bF p0.Movement.Works.Meshes)⟩], .live [⟨170, 3, .data (List.map aP p0.Movement.Calendar.Months)⟩], .live [⟨181, 3, .data (List.map aF p0.Movement.Calendar.Rules)⟩], .live [⟨2, 1, .data (List.map cI p0.Movement.Cam)⟩], .live [⟨2, 1, .data (List.map cI p0.Dial.Cam)⟩]] [.ptr 0 0 1 0 19] [.live [⟨40, 26, .av [[dS r.Movement.Name, .own 1 0 (r.Movement.Works.Arbors).length, .own 3 0 (r.Movement.Works.Meshes).length, (dI r.Movement.Minute), (dI r.Movement.Hour), (dI r.Movement.Escape), (dI r.Movement.Teeth), (dI r.Movement.Beats), (dS r.Movement.Calendar.Name), .own 4 0 (r.Movement.Calendar.Months).length, .own 5 0 (r.Movement.Calendar.Rules).length, (dI r.Movement.Calendar.Week), .own 6 0 (r.Movement.Cam).length, (dI r.Movement.Strike), (dI r.Start.Year), (dI r.Start.Month), (dI r.Start.Day), (dI r.First), (dI r.Clock), .own 7 0 (r.Dial.Cam).length, (dI r.Dial.Months), (dI r.Dial.Teeth), (dI r.Dial.At), (dI r.Dial.Day), (dI r.Dial.Week), (dI r.Dial.Weekday)]]⟩], .live [⟨123, 2, .av (eU 2 aM r.Movement.Works.Arbors)⟩], .live (lT 2 1 aM r.Movement.Works.Arbors), .live [⟨125, 4, .data (List.map bF r.Movement.Works.Meshes)⟩], .live [⟨170, 3, .data (List.map aP r.Movement.Calendar.Months)⟩], .live [⟨181, 3, .data (List.map aF r.Movement.Calendar.Rules)⟩], .live [⟨2, 1, .data (List.map cI r.Movement.Cam)⟩], .live [⟨2, 1, .data (List.map cI r.Dial.Cam)⟩]] (.tup []) := by
 refine nW (L := 8) (T := tt) (N := 16) tok Tryz.func49 rfl rfl (by kernel_rfl) rfl rfl ?_
 unfold dY at h0
 refine aC (is := [0,1,2,3,4,5,6,7,8,9,10,11,12,13,14]) [0,0,2,6,14,30,0,64,192,448,960,2046,4095,8191,16383] follows (by kernel_rfl) (tP rfl (aG (r := .ptr _ _ _ _ _) rfl) (tP rfl (aG (r := .ptr _ _ _ _ _) rfl) (bW rfl w0 rfl (dQ rfl rfl) rfl rfl rfl (tfa tok ?_))))
 refine tld tok ?_
 refine tP rfl (bI rfl rfl) (tP rfl (aG (r := .ptr _ _ _ _ _) rfl) (bW rfl w0 rfl (dQ rfl rfl) rfl rfl rfl (tfa tok ?_)))
 refine tld tok ?_
 refine bW rfl w0 rfl (pW tok rfl rfl rfl rfl rfl) rfl rfl rfl ?_
 obtain ⟨hq1, h0⟩ := dP h0
 refine tP rfl (fP rfl rfl hq1) (bW rfl w0 rfl (dQ rfl rfl) rfl rfl rfl (tfa tok ?_))
 refine iN rfl w0 (fR (cs := [.d _]) tok rfl rfl rfl rfl rfl rfl rfl) (bC ?_)
 refine ⟨by kernel_rfl, ?_⟩
 cases h0
 exact qI (rs := []) 8 rfl rfl

theorem kX {p0 : dM} {p1 : Int} {r : dM} (h0 : eD p0 p1 = some r) : FnC Tryz.prog 48 [.live [⟨40, 26, .av [[dS p0.Movement.Name, .own 1 0 (p0.Movement.Works.Arbors).length, .own 3 0 (p0.Movement.Works.Meshes).length, (dI p0.Movement.Minute), (dI p0.Movement.Hour), (dI p0.Movement.Escape), (dI p0.Movement.Teeth), (dI p0.Movement.Beats), (dS p0.Movement.Calendar.Name), .own 4 0 (p0.Movement.Calendar.Months).length, .own 5 0 (p0.Movement.Calendar.Rules).length, (dI p0.Movement.Calendar.Week), .own 6 0 (p0.Movement.Cam).length, (dI p0.Movement.Strike), (dI p0.Start.Year), (dI p0.Start.Month), (dI p0.Start.Day), (dI p0.First), (dI p0.Clock), .own 7 0 (p0.Dial.Cam).length, (dI p0.Dial.Months), (dI p0.Dial.Teeth), (dI p0.Dial.At), (dI p0.Dial.Day), (dI p0.Dial.Week), (dI p0.Dial.Weekday)]]⟩], .live [⟨123, 2, .av (eU 2 aM p0.Movement.Works.Arbors)⟩], .live (lT 2 1 aM p0.Movement.Works.Arbors), .live [⟨125, 4, .data (List.map bF p0.Movement.Works.Meshes)⟩], .live [⟨170, 3, .data (List.map aP p0.Movement.Calendar.Months)⟩], .live [⟨181, 3, .data (List.map aF p0.Movement.Calendar.Rules)⟩], .live [⟨2, 1, .data (List.map cI p0.Movement.Cam)⟩], .live [⟨2, 1, .data (List.map cI p0.Dial.Cam)⟩]] [.ptr 0 0 1 0 19, (dI p1)] [.live [⟨40, 26, .av [[dS r.Movement.Name, .own 1 0 (r.Movement.Works.Arbors).length, .own 3 0 (r.Movement.Works.Meshes).length, (dI r.Movement.Minute), (dI r.Movement.Hour), (dI r.Movement.Escape), (dI r.Movement.Teeth), (dI r.Movement.Beats), (dS r.Movement.Calendar.Name), .own 4 0 (r.Movement.Calendar.Months).length, .own 5 0 (r.Movement.Calendar.Rules).length, (dI r.Movement.Calendar.Week), .own 6 0 (r.Movement.Cam).length, (dI r.Movement.Strike), (dI r.Start.Year), (dI r.Start.Month), (dI r.Start.Day), (dI r.First), (dI r.Clock), .own 7 0 (r.Dial.Cam).length, (dI r.Dial.Months), (dI r.Dial.Teeth), (dI r.Dial.At), (dI r.Dial.Day), (dI r.Dial.Week), (dI r.Dial.Weekday)]]⟩], .live [⟨123, 2, .av (eU 2 aM r.Movement.Works.Arbors)⟩], .live (lT 2 1 aM r.Movement.Works.Arbors), .live [⟨125, 4, .data (List.map bF r.Movement.Works.Meshes)⟩], .live [⟨170, 3, .data (List.map aP r.Movement.Calendar.Months)⟩], .live [⟨181, 3, .data (List.map aF r.Movement.Calendar.Rules)⟩], .live [⟨2, 1, .data (List.map cI r.Movement.Cam)⟩], .live [⟨2, 1, .data (List.map cI r.Dial.Cam)⟩]] (.tup []) := by
 refine nW (L := 8) (T := tt) (N := 34) tok Tryz.func48 rfl rfl (by kernel_rfl) rfl rfl ?_
 unfold eD at h0
 refine sq [0,1,2,3,4,5,6,7,8] (rP rfl (aG (r := .ptr _ _ _ _ _) rfl) (rL rfl (dQ rfl rfl) (fa tok ?_)))
 refine ld tok ?_
 refine pm ?_
 refine rP rfl (bI rfl rfl) (rL rfl (dQ rfl rfl) (fa tok ?_))
 refine bs1 tok (nx (aD ?_))
 refine aC (is := [0,1,2,3,4,5,6,7,8]) [0,1,3,7,0,16,48,112,255] follows (by kernel_rfl) (tP rfl (aG (r := .ptr _ _ _ _ _) rfl) (bW rfl w0 rfl (dQ rfl rfl) rfl rfl rfl (tfa tok ?_)))
 refine tld tok ?_
 refine tP rfl (aG (r := .ptr _ _ _ _ _) rfl) (bW rfl w0 rfl (dQ rfl rfl) rfl rfl rfl (tfa tok ?_))
 refine tld tok ?_
 refine tP rfl (eQ rfl rfl) (bC ?_)
 refine ⟨by kernel_rfl, ?_⟩
 refine aI ?_
 refine bN h0 rfl (fun hc h0 => ?_) (fun hc h0 => ?_)
 refine aD (aC (is := [0,1,2,3,4,5,6,7,8,9,10,11]) [0,1,3,7,0,16,48,112,255,511,1023,2047] follows (by kernel_rfl) (tP rfl (aG (r := .ptr _ _ _ _ _) rfl) (bW rfl w0 rfl (dQ rfl rfl) rfl rfl rfl (tfa tok ?_))))
 refine tld tok ?_
 refine tP rfl (aG (r := .ptr _ _ _ _ _) rfl) (bW rfl w0 rfl (dQ rfl rfl) rfl rfl rfl (tfa tok ?_))
 refine tld tok ?_
 refine tP rfl (eZ rfl rfl) (bW rfl w0 rfl (dQ rfl rfl) rfl rfl rfl (tfa tok ?_))
 refine iN rfl w0 (fR (cs := [.d _]) tok rfl rfl rfl rfl rfl rfl rfl) (bC ?_)
 refine ⟨by kernel_rfl, ?_⟩
 refine aI (sr [0,1] (rP rfl (aG (r := .ptr _ _ _ _ _) rfl) ?_))
 obtain ⟨v1, hv1, h0⟩ := bnd h0
 refine rw1 rfl w0 rfl (eA [0,1,2,3,4,5,6,7] 300 (kI hv1) rfl rfl) (bB ?_)
 cases h0
 exact qI (rs := []) 8 rfl rfl
 refine cV ?_
 cases h0
 exact qI (rs := []) 8 rfl rfl

theorem iU {p0 : dM} {r : dM} (h0 : dO p0 = some r) : FnC Tryz.prog 50 [.live [⟨40, 26, .av [[dS p0.Movement.Name, .own 1 0 (p0.Movement.Works.Arbors).length, .own 3 0 (p0.Movement.Works.Meshes).length, (dI p0.Movement.Minute), (dI p0.Movement.Hour), (dI p0.Movement.Escape), (dI p0.Movement.Teeth), (dI p0.Movement.Beats), (dS p0.Movement.Calendar.Name), .own 4 0 (p0.Movement.Calendar.Months).length, .own 5 0 (p0.Movement.Calendar.Rules).length, (dI p0.Movement.Calendar.Week), .own 6 0 (p0.Movement.Cam).length, (dI p0.Movement.Strike), (dI p0.Start.Year), (dI p0.Start.Month), (dI p0.Start.Day), (dI p0.First), (dI p0.Clock), .own 7 0 (p0.Dial.Cam).length, (dI p0.Dial.Months), (dI p0.Dial.Teeth), (dI p0.Dial.At), (dI p0.Dial.Day), (dI p0.Dial.Week), (dI p0.Dial.Weekday)]]⟩], .live [⟨123, 2, .av (eU 2 aM p0.Movement.Works.Arbors)⟩], .live (lT 2 1 aM p0.Movement.Works.Arbors), .live [⟨125, 4, .data (List.map bF p0.Movement.Works.Meshes)⟩], .live [⟨170, 3, .data (List.map aP p0.Movement.Calendar.Months)⟩], .live [⟨181, 3, .data (List.map aF p0.Movement.Calendar.Rules)⟩], .live [⟨2, 1, .data (List.map cI p0.Movement.Cam)⟩], .live [⟨2, 1, .data (List.map cI p0.Dial.Cam)⟩]] [.ptr 0 0 1 0 19] [.live [⟨40, 26, .av [[dS r.Movement.Name, .own 1 0 (r.Movement.Works.Arbors).length, .own 3 0 (r.Movement.Works.Meshes).length, (dI r.Movement.Minute), (dI r.Movement.Hour), (dI r.Movement.Escape), (dI r.Movement.Teeth), (dI r.Movement.Beats), (dS r.Movement.Calendar.Name), .own 4 0 (r.Movement.Calendar.Months).length, .own 5 0 (r.Movement.Calendar.Rules).length, (dI r.Movement.Calendar.Week), .own 6 0 (r.Movement.Cam).length, (dI r.Movement.Strike), (dI r.Start.Year), (dI r.Start.Month), (dI r.Start.Day), (dI r.First), (dI r.Clock), .own 7 0 (r.Dial.Cam).length, (dI r.Dial.Months), (dI r.Dial.Teeth), (dI r.Dial.At), (dI r.Dial.Day), (dI r.Dial.Week), (dI r.Dial.Weekday)]]⟩], .live [⟨123, 2, .av (eU 2 aM r.Movement.Works.Arbors)⟩], .live (lT 2 1 aM r.Movement.Works.Arbors), .live [⟨125, 4, .data (List.map bF r.Movement.Works.Meshes)⟩], .live [⟨170, 3, .data (List.map aP r.Movement.Calendar.Months)⟩], .live [⟨181, 3, .data (List.map aF r.Movement.Calendar.Rules)⟩], .live [⟨2, 1, .data (List.map cI r.Movement.Cam)⟩], .live [⟨2, 1, .data (List.map cI r.Dial.Cam)⟩]] (.tup []) := by
 refine nW (L := 8) (T := tt) (N := 15) tok Tryz.func50 rfl rfl (by kernel_rfl) rfl rfl ?_
 unfold dO at h0
 refine aC (is := [0,1,2,3,4,5,6,7,8,9,10,11,12,13]) [0,0,2,6,14,0,32,96,224,510,1022,2047,4095,8191] follows (by kernel_rfl) (tP rfl (aG (r := .ptr _ _ _ _ _) rfl) (tP rfl (aG (r := .ptr _ _ _ _ _) rfl) (bW rfl w0 rfl (dQ rfl rfl) rfl rfl rfl (tfa tok ?_))))
 refine tld tok ?_
 refine tP rfl (aG (r := .ptr _ _ _ _ _) rfl) (bW rfl w0 rfl (dQ rfl rfl) rfl rfl rfl (tfa tok ?_))
 refine tld tok ?_
 obtain ⟨hq1, h0⟩ := dP h0
 refine tP rfl (fP rfl rfl hq1) (tP rfl (bI rfl rfl) (bW rfl w0 rfl (dQ rfl rfl) rfl rfl rfl (tfa tok ?_)))
 refine iN rfl w0 (fR (cs := [.d _]) tok rfl rfl rfl rfl rfl rfl rfl) (bC ?_)
 refine ⟨by kernel_rfl, ?_⟩
 cases h0
 exact qI (rs := []) 8 rfl rfl

theorem rH {p0 : dM} {r : dM} (h0 : dK p0 = some r) : FnC Tryz.prog 44 [.live [⟨40, 26, .av [[dS p0.Movement.Name, .own 1 0 (p0.Movement.Works.Arbors).length, .own 3 0 (p0.Movement.Works.Meshes).length, (dI p0.Movement.Minute), (dI p0.Movement.Hour), (dI p0.Movement.Escape), (dI p0.Movement.Teeth), (dI p0.Movement.Beats), (dS p0.Movement.Calendar.Name), .own 4 0 (p0.Movement.Calendar.Months).length, .own 5 0 (p0.Movement.Calendar.Rules).length, (dI p0.Movement.Calendar.Week), .own 6 0 (p0.Movement.Cam).length, (dI p0.Movement.Strike), (dI p0.Start.Year), (dI p0.Start.Month), (dI p0.Start.Day), (dI p0.First), (dI p0.Clock), .own 7 0 (p0.Dial.Cam).length, (dI p0.Dial.Months), (dI p0.Dial.Teeth), (dI p0.Dial.At), (dI p0.Dial.Day), (dI p0.Dial.Week), (dI p0.Dial.Weekday)]]⟩], .live [⟨123, 2, .av (eU 2 aM p0.Movement.Works.Arbors)⟩], .live (lT 2 1 aM p0.Movement.Works.Arbors), .live [⟨125, 4, .data (List.map bF p0.Movement.Works.Meshes)⟩], .live [⟨170, 3, .data (List.map aP p0.Movement.Calendar.Months)⟩], .live [⟨181, 3, .data (List.map aF p0.Movement.Calendar.Rules)⟩], .live [⟨2, 1, .data (List.map cI p0.Movement.Cam)⟩], .live [⟨2, 1, .data (List.map cI p0.Dial.Cam)⟩]] [.ptr 0 0 1 0 19] [.live [⟨40, 26, .av [[dS r.Movement.Name, .own 1 0 (r.Movement.Works.Arbors).length, .own 3 0 (r.Movement.Works.Meshes).length, (dI r.Movement.Minute), (dI r.Movement.Hour), (dI r.Movement.Escape), (dI r.Movement.Teeth), (dI r.Movement.Beats), (dS r.Movement.Calendar.Name), .own 4 0 (r.Movement.Calendar.Months).length, .own 5 0 (r.Movement.Calendar.Rules).length, (dI r.Movement.Calendar.Week), .own 6 0 (r.Movement.Cam).length, (dI r.Movement.Strike), (dI r.Start.Year), (dI r.Start.Month), (dI r.Start.Day), (dI r.First), (dI r.Clock), .own 7 0 (r.Dial.Cam).length, (dI r.Dial.Months), (dI r.Dial.Teeth), (dI r.Dial.At), (dI r.Dial.Day), (dI r.Dial.Week), (dI r.Dial.Weekday)]]⟩], .live [⟨123, 2, .av (eU 2 aM r.Movement.Works.Arbors)⟩], .live (lT 2 1 aM r.Movement.Works.Arbors), .live [⟨125, 4, .data (List.map bF r.Movement.Works.Meshes)⟩], .live [⟨170, 3, .data (List.map aP r.Movement.Calendar.Months)⟩], .live [⟨181, 3, .data (List.map aF r.Movement.Calendar.Rules)⟩], .live [⟨2, 1, .data (List.map cI r.Movement.Cam)⟩], .live [⟨2, 1, .data (List.map cI r.Dial.Cam)⟩]] (.tup []) := by
 refine nW (L := 8) (T := tt) (N := 10) tok Tryz.func44 rfl rfl (by kernel_rfl) rfl rfl ?_
 unfold dK at h0
 refine sq [0,1,2,3,4,5] (rP rfl (aG (r := .ptr _ _ _ _ _) rfl) (rP rfl (aG (r := .ptr _ _ _ _ _) rfl) (rL rfl (dQ rfl rfl) (rL rfl (aT tok rfl rfl rfl rfl) ?_))))
 obtain ⟨v1, hv1, h0⟩ := bnd h0
 refine rS rfl (dR 8 (aAk hv1) rfl rfl) ?_
 obtain ⟨v2, hv2, h0⟩ := bnd h0
 refine rw1 rfl w0 rfl (eA [0,1,2,3,4,5,6,7] 300 (kX hv2) rfl rfl) (nx (sr [0,1] (rP rfl (aG (r := .ptr _ _ _ _ _) rfl) ?_)))
 obtain ⟨v3, hv3, h0⟩ := bnd h0
 refine rw1 rfl w0 rfl (eA [0,1,2,3,4,5,6,7] 300 (iU hv3) rfl rfl) (bB ?_)
 cases h0
 exact qI (rs := []) 8 rfl rfl

theorem wS {p0 : Int} {r : Int} (h0 : oG p0 = some r) : FnC Tryz.prog 122 [] [dI p0] [] (dI r) := by
 refine fi 15 tok Tryz.func122 ?_
 unfold oG at h0
 refine sq [0] (pa (nx (sq [0,1,2] ?_)))
 refine pm ?_
 refine rP rfl (fP rfl rfl (by decide)) (pa (nx (sq [0,1,2,3,4,5,6,7,8,9] ?_)))
 refine pm ?_
 refine rP rfl (kA rfl rfl (by decide)) (rP rfl (fL rfl rfl) (pm ?_))
 refine pm ?_
 refine rP rfl (bI rfl rfl) (rP rfl (fL rfl rfl) (rP rfl (kA rfl rfl (by decide)) (rP rfl (bI rfl rfl) (pa (nx (aA ?_))))))
 cases h0
 exact r0t 2 rfl

theorem aBp {p0 : Int} {p1 : Int} {p2 : Int} {r : Int × Int} (h0 : jD p0 p1 p2 = some r) : FnC Tryz.prog 45 [] [dI p0, (dI p1), (dI p2)] [] (.tup [dI r.1, (dI r.2)]) := by
 refine fi 30 tok Tryz.func45 ?_
 unfold jD at h0
 refine sq [0,1] (pa ?_)
 refine pa (nx (aD ?_))
 obtain ⟨v3, h1, h0⟩ := bnd h0
 refine bH ⟨aE (aE (aE (aE ((fun _ => .dead)) 0 (dI p0)) 1 (dI p1)) 2 (dI p2)) 20 (dB v3), lks [.no, .no, .no]⟩ ?_ ?_
 refine sr [0,1,2,3,4,5,6,7,8,9,10,11,12] (pm ?_)
 obtain ⟨v1, hv1, h1⟩ := bnd h1
 refine rS rfl (aO 3 (dF hv1) rfl rfl rfl) (rP rfl (bQ rfl) (pm ?_))
 refine cY (u := 11) h1 rfl (fun hc h1 => ?_) (fun hc h1 => ?_)
 iterate 4 refine k1 ?_
 refine pkt ?_
 refine pm ?_
 refine k1 ?_
 refine k1 ?_
 refine pkt (nx ?_)
 cases h1
 exact wk [0,1,2]
 refine pm1 ?_
 refine pm1 ?_
 obtain ⟨v2, hv2, h1⟩ := bnd h1
 refine rs rfl (w1 rfl rfl rfl) rfl (aO 3 (dF hv2) rfl rfl rfl) (rp rfl (w1 rfl rfl rfl) rfl (bQ rfl) (pkf ?_))
 refine pm ?_
 refine cY (u := 17) h1 rfl (fun hc h1 => ?_) (fun hc h1 => ?_)
 refine k1 ?_
 refine k1 ?_
 refine pkt (nx ?_)
 cases h1
 exact wk [0,1,2]
 refine pm1 ?_
 refine rp rfl (w1 rfl rfl rfl) rfl (eQ rfl rfl) (pkf (nx ?_))
 cases h1
 exact wk [0,1,2]
 refine bM h0 rfl (fun hc h0 => ?_) (fun hc h0 => ?_)
 refine sq [0,1] (pa ?_)
 refine pa (nx (aA (aR ?_)))
 cases h0
 exact fV (rs := [.tmp 6, .tmp 7]) rfl
 refine sk (aD (sq [0,1] (pm ?_)))
 refine rP rfl (dV rfl rfl) (nx ?_)
 refine bN h0 rfl (fun hc h0 => ?_) (fun hc h0 => ?_)
 refine sq [0,1] (pa ?_)
 refine pa (nx (aA (aR ?_)))
 cases h0
 exact fV (rs := [.tmp 6, .tmp 7]) rfl
 refine sk (sq [0,1,2,3,4,5,6,7,8] (pm ?_))
 refine rP rfl (kA rfl rfl (by decide)) ?_
 obtain ⟨v5, hv5, h0⟩ := bnd h0
 refine rS rfl (aO 3 (wS hv5) rfl rfl rfl) (pm ?_)
 refine rP rfl (kA rfl rfl (by decide)) ?_
 obtain ⟨v7, hv7, h0⟩ := bnd h0
 refine rS rfl (aO 3 (wS hv7) rfl rfl rfl) (rP rfl (eZ rfl rfl) (pa ?_))
 refine pa (nx (aA ?_))
 cases h0
 exact fV (rs := [.tmp 6, .tmp 7]) rfl

theorem zZ {p0 : dM} {p1 : Int} {r : dM × Int × Int} (h0 : nP p0 p1 = some r) : FnC Tryz.prog 10 [] [.agg [dS p0.Movement.Name, (dL aM p0.Movement.Works.Arbors), (dL bF p0.Movement.Works.Meshes), (dI p0.Movement.Minute), (dI p0.Movement.Hour), (dI p0.Movement.Escape), (dI p0.Movement.Teeth), (dI p0.Movement.Beats), (dS p0.Movement.Calendar.Name), (dL aP p0.Movement.Calendar.Months), (dL aF p0.Movement.Calendar.Rules), (dI p0.Movement.Calendar.Week), (dL cI p0.Movement.Cam), (dI p0.Movement.Strike), (dI p0.Start.Year), (dI p0.Start.Month), (dI p0.Start.Day), (dI p0.First), (dI p0.Clock), (dL cI p0.Dial.Cam), (dI p0.Dial.Months), (dI p0.Dial.Teeth), (dI p0.Dial.At), (dI p0.Dial.Day), (dI p0.Dial.Week), (dI p0.Dial.Weekday)], (dI p1)] [.live [⟨123, 2, .av (eU 1 aM r.1.Movement.Works.Arbors)⟩], .live (lT 2 1 aM r.1.Movement.Works.Arbors), .live [⟨125, 4, .data (List.map bF r.1.Movement.Works.Meshes)⟩], .live [⟨170, 3, .data (List.map aP r.1.Movement.Calendar.Months)⟩], .live [⟨181, 3, .data (List.map aF r.1.Movement.Calendar.Rules)⟩], .live [⟨2, 1, .data (List.map cI r.1.Movement.Cam)⟩], .live [⟨2, 1, .data (List.map cI r.1.Dial.Cam)⟩]] (.tup [.agg [dS r.1.Movement.Name, .own 0 0 r.1.Movement.Works.Arbors.length, .own 2 0 r.1.Movement.Works.Meshes.length, (dI r.1.Movement.Minute), (dI r.1.Movement.Hour), (dI r.1.Movement.Escape), (dI r.1.Movement.Teeth), (dI r.1.Movement.Beats), (dS r.1.Movement.Calendar.Name), .own 3 0 r.1.Movement.Calendar.Months.length, .own 4 0 r.1.Movement.Calendar.Rules.length, (dI r.1.Movement.Calendar.Week), .own 5 0 r.1.Movement.Cam.length, (dI r.1.Movement.Strike), (dI r.1.Start.Year), (dI r.1.Start.Month), (dI r.1.Start.Day), (dI r.1.First), (dI r.1.Clock), .own 6 0 r.1.Dial.Cam.length, (dI r.1.Dial.Months), (dI r.1.Dial.Teeth), (dI r.1.Dial.At), (dI r.1.Dial.Day), (dI r.1.Dial.Week), (dI r.1.Dial.Weekday)], (dI r.2.1), (dI r.2.2)]) := by
 refine fi 59 tok Tryz.func10 ?_
 unfold nP at h0
 refine sq [0,1,2,3] (bxx 3 ?_)
 refine al 4 [ze, zl, zl, z0, z0, z0, z0, z0, ze, zl, zl, z0, zl, z0, z0, z0, z0, z0, z0, zl, z0, z0, z0, z0, z0, z0] tok ?_
 refine pa ?_
 refine pa (nx (aD (sq [0,1,2] ?_)))
 refine rL rfl (aT tok rfl rfl rfl rfl) ?_
 obtain ⟨v1, hv1, h0⟩ := bnd h0
 refine rS rfl (aO 5 (oQ hv1) rfl rfl rfl) (rP rfl (bQ rfl) (nx ?_))
 refine bM h0 rfl (fun hc h0 => ?_) (fun hc h0 => ?_)
 refine sq [0,1,2,3] (rP rfl (pbl (C0 := [ze, zl, zl, z0, z0, z0, z0, z0, ze, zl, zl, z0, zl, z0, z0, z0, z0, z0, z0, zl, z0, z0, z0, z0, z0, z0]) tok rfl rfl rfl) (bst tok ?_))
 refine pa ?_
 refine pa (nx ?_)
 refine wa 5 123 2 4 1 ?_
 refine cJ (dT 6 (k := 5) 2 1 aM rfl rfl) (wa 7 125 4 4 2 ?_)
 refine wa 8 170 3 4 9 ?_
 refine wa 9 181 3 4 10 ?_
 refine wa 10 2 1 4 12 ?_
 refine wa 11 2 1 4 19 (aA (aR ?_))
 cases h0
 exact dG (rs := [.cell 4 40, .tmp 5, .tmp 6]) [5,6,7,8,9,10,11] rfl
 refine sk (aD ?_)
 obtain ⟨v3, h1, h0⟩ := bnd h0
 refine bH ⟨aE (aE (aE (aE ((fun _ => .dead)) 1 (dI p1)) 2 (.ptr 3 0 1 0 0)) 4 (.ptr 4 0 1 0 0)) 24 (dB v3), lks [.no, .no, .no, .live [⟨40, 26, .av [[dS p0.Movement.Name, (dL aM p0.Movement.Works.Arbors), (dL bF p0.Movement.Works.Meshes), (dI p0.Movement.Minute), (dI p0.Movement.Hour), (dI p0.Movement.Escape), (dI p0.Movement.Teeth), (dI p0.Movement.Beats), (dS p0.Movement.Calendar.Name), (dL aP p0.Movement.Calendar.Months), (dL aF p0.Movement.Calendar.Rules), (dI p0.Movement.Calendar.Week), (dL cI p0.Movement.Cam), (dI p0.Movement.Strike), (dI p0.Start.Year), (dI p0.Start.Month), (dI p0.Start.Day), (dI p0.First), (dI p0.Clock), (dL cI p0.Dial.Cam), (dI p0.Dial.Months), (dI p0.Dial.Teeth), (dI p0.Dial.At), (dI p0.Dial.Day), (dI p0.Dial.Week), (dI p0.Dial.Weekday)]]⟩], .live [⟨40, 26, .av [[ze, zl, zl, z0, z0, z0, z0, z0, ze, zl, zl, z0, zl, z0, z0, z0, z0, z0, z0, zl, z0, z0, z0, z0, z0, z0]]⟩]]⟩ ?_ ?_
 refine sr [0,1,2,3,4,5,6,7,8,9] (pm ?_)
 obtain ⟨v2, hv2, h1⟩ := bnd h1
 refine rS rfl (aO 5 (dF hv2) rfl rfl rfl) (rP rfl (bQ rfl) (pm ?_))
 refine cY (u := 18) h1 rfl (fun hc h1 => ?_) (fun hc h1 => ?_)
 iterate 5 refine k1 ?_
 refine pkt (nx ?_)
 cases h1
 exact wk [0,1,2,3,4]
 refine fa1 tok ?_
 refine ld1 tok ?_
 refine pm1 ?_
 refine rp rfl (w1 rfl rfl rfl) rfl (bI rfl rfl) (rp rfl (w1 rfl rfl rfl) rfl (eQ rfl rfl) (pkf (nx ?_)))
 cases h1
 exact wk [0,1,2,3,4]
 refine bM h0 rfl (fun hc h0 => ?_) (fun hc h0 => ?_)
 refine sq [0,1,2,3] (rP rfl (pbl (C0 := [ze, zl, zl, z0, z0, z0, z0, z0, ze, zl, zl, z0, zl, z0, z0, z0, z0, z0, z0, zl, z0, z0, z0, z0, z0, z0]) tok rfl rfl rfl) (bst tok ?_))
 refine pa ?_
 refine pa (nx ?_)
 refine wa 5 123 2 4 1 ?_
 refine cJ (dT 6 (k := 5) 2 1 aM rfl rfl) (wa 7 125 4 4 2 ?_)
 refine wa 8 170 3 4 9 ?_
 refine wa 9 181 3 4 10 ?_
 refine wa 10 2 1 4 12 ?_
 refine wa 11 2 1 4 19 (aA (aR ?_))
 cases h0
 exact dG (rs := [.cell 4 40, .tmp 5, .tmp 6]) [5,6,7,8,9,10,11] rfl
 refine sk (sq [0,1,2] (fa tok ?_))
 refine ld tok ?_
 refine pa (nx (sq [0,1,2] ?_))
 refine rL rfl (aT tok rfl rfl rfl rfl) ?_
 obtain ⟨v4, hv4, h0⟩ := bnd h0
 refine rS rfl (aO 5 (xU hv4) rfl rfl rfl) (bst tok (nx (sq [0,1,2,3,4,5] ?_)))
 refine fa tok ?_
 refine ld tok ?_
 refine pm ?_
 refine rP rfl (bI rfl rfl) (fa tok ?_)
 refine bs1 tok (nx ?_)
 obtain ⟨v11, h1, h0⟩ := bnd h0
 refine bH ⟨aE (aE (aE ((fun _ => .dead)) 2 (.ptr 3 0 1 0 0)) 4 (.ptr 4 0 1 0 0)) 7 (dI p0.Clock), lks [.no, .no, .no, .live [⟨40, 26, .av [[dS v11.1, .own 5 0 (v11.2.2.2.2.2.2.2.2.2.2.2.2.2.2.2.2.2.2.1).length, .own 6 0 (v11.2.2.2.2.2.2.2.2.2.2.2.2.2.2.2.2.2.2.2.1).length, (dI v11.2.1), (dI v11.2.2.1), (dI v11.2.2.2.1), (dI v11.2.2.2.2.1), (dI v11.2.2.2.2.2.1), (dS v11.2.2.2.2.2.2.1), .own 7 0 (v11.2.2.2.2.2.2.2.2.2.2.2.2.2.2.2.2.2.2.2.2.1).length, .own 8 0 (v11.2.2.2.2.2.2.2.2.2.2.2.2.2.2.2.2.2.2.2.2.2.1).length, (dI v11.2.2.2.2.2.2.2.1), .own 9 0 (v11.2.2.2.2.2.2.2.2.2.2.2.2.2.2.2.2.2.2.2.2.2.2.1).length, (dI v11.2.2.2.2.2.2.2.2.1), (dI v11.2.2.2.2.2.2.2.2.2.1.Year), (dI v11.2.2.2.2.2.2.2.2.2.1.Month), (dI v11.2.2.2.2.2.2.2.2.2.1.Day), (dI v11.2.2.2.2.2.2.2.2.2.2.1), (dI v11.2.2.2.2.2.2.2.2.2.2.2.1), .own 10 0 (v11.2.2.2.2.2.2.2.2.2.2.2.2.2.2.2.2.2.2.2.2.2.2.2).length, (dI v11.2.2.2.2.2.2.2.2.2.2.2.2.1), (dI v11.2.2.2.2.2.2.2.2.2.2.2.2.2.1), (dI v11.2.2.2.2.2.2.2.2.2.2.2.2.2.2.1), (dI v11.2.2.2.2.2.2.2.2.2.2.2.2.2.2.2.1), (dI v11.2.2.2.2.2.2.2.2.2.2.2.2.2.2.2.2.1), (dI v11.2.2.2.2.2.2.2.2.2.2.2.2.2.2.2.2.2.1)]]⟩], .live [⟨40, 26, .av [[ze, zl, zl, z0, z0, z0, z0, z0, ze, zl, zl, z0, zl, z0, z0, z0, z0, z0, z0, zl, z0, z0, z0, z0, z0, z0]]⟩], .live [⟨123, 2, .av (eU 11 aM v11.2.2.2.2.2.2.2.2.2.2.2.2.2.2.2.2.2.2.1)⟩], .live [⟨125, 4, .data (List.map bF v11.2.2.2.2.2.2.2.2.2.2.2.2.2.2.2.2.2.2.2.1)⟩], .live [⟨170, 3, .data (List.map aP v11.2.2.2.2.2.2.2.2.2.2.2.2.2.2.2.2.2.2.2.2.1)⟩], .live [⟨181, 3, .data (List.map aF v11.2.2.2.2.2.2.2.2.2.2.2.2.2.2.2.2.2.2.2.2.2.1)⟩], .live [⟨2, 1, .data (List.map cI v11.2.2.2.2.2.2.2.2.2.2.2.2.2.2.2.2.2.2.2.2.2.2.1)⟩], .live [⟨2, 1, .data (List.map cI v11.2.2.2.2.2.2.2.2.2.2.2.2.2.2.2.2.2.2.2.2.2.2.2)⟩], .live (lT 2 1 aM v11.2.2.2.2.2.2.2.2.2.2.2.2.2.2.2.2.2.2.1)]⟩ ?_ ?_
 refine sq [0,1,2,3,4,5,6] (fa tok ?_)
 refine ld tok ?_
 refine rP rfl (kA rfl rfl (by decide)) (pm ?_)
 refine rP rfl (kA rfl rfl (by decide)) (rP rfl (eZ rfl rfl) (pa (nx (aK ?_))))
 refine bD (fun s9 => ⟨aE (aE (aE (aE ((fun _ => .dead)) 2 (.ptr 3 0 1 0 0)) 4 (.ptr 4 0 1 0 0)) 7 (dI p0.Clock)) 8 (dI s9.1), lks [.no, .no, .no, .live [⟨40, 26, .av [[dS s9.2.1, .own 5 0 (s9.2.2.2.2.2.2.2.2.2.2.2.2.2.2.2.2.2.2.2.1).length, .own 6 0 (s9.2.2.2.2.2.2.2.2.2.2.2.2.2.2.2.2.2.2.2.2.1).length, (dI s9.2.2.1), (dI s9.2.2.2.1), (dI s9.2.2.2.2.1), (dI s9.2.2.2.2.2.1), (dI s9.2.2.2.2.2.2.1), (dS s9.2.2.2.2.2.2.2.1), .own 7 0 (s9.2.2.2.2.2.2.2.2.2.2.2.2.2.2.2.2.2.2.2.2.2.1).length, .own 8 0 (s9.2.2.2.2.2.2.2.2.2.2.2.2.2.2.2.2.2.2.2.2.2.2.1).length, (dI s9.2.2.2.2.2.2.2.2.1), .own 9 0 (s9.2.2.2.2.2.2.2.2.2.2.2.2.2.2.2.2.2.2.2.2.2.2.2.1).length, (dI s9.2.2.2.2.2.2.2.2.2.1), (dI s9.2.2.2.2.2.2.2.2.2.2.1.Year), (dI s9.2.2.2.2.2.2.2.2.2.2.1.Month), (dI s9.2.2.2.2.2.2.2.2.2.2.1.Day), (dI s9.2.2.2.2.2.2.2.2.2.2.2.1), (dI s9.2.2.2.2.2.2.2.2.2.2.2.2.1), .own 10 0 (s9.2.2.2.2.2.2.2.2.2.2.2.2.2.2.2.2.2.2.2.2.2.2.2.2).length, (dI s9.2.2.2.2.2.2.2.2.2.2.2.2.2.1), (dI s9.2.2.2.2.2.2.2.2.2.2.2.2.2.2.1), (dI s9.2.2.2.2.2.2.2.2.2.2.2.2.2.2.2.1), (dI s9.2.2.2.2.2.2.2.2.2.2.2.2.2.2.2.2.1), (dI s9.2.2.2.2.2.2.2.2.2.2.2.2.2.2.2.2.2.1), (dI s9.2.2.2.2.2.2.2.2.2.2.2.2.2.2.2.2.2.2.1)]]⟩], .live [⟨40, 26, .av [[ze, zl, zl, z0, z0, z0, z0, z0, ze, zl, zl, z0, zl, z0, z0, z0, z0, z0, z0, zl, z0, z0, z0, z0, z0, z0]]⟩], .live [⟨123, 2, .av (eU 11 aM s9.2.2.2.2.2.2.2.2.2.2.2.2.2.2.2.2.2.2.2.1)⟩], .live [⟨125, 4, .data (List.map bF s9.2.2.2.2.2.2.2.2.2.2.2.2.2.2.2.2.2.2.2.2.1)⟩], .live [⟨170, 3, .data (List.map aP s9.2.2.2.2.2.2.2.2.2.2.2.2.2.2.2.2.2.2.2.2.2.1)⟩], .live [⟨181, 3, .data (List.map aF s9.2.2.2.2.2.2.2.2.2.2.2.2.2.2.2.2.2.2.2.2.2.2.1)⟩], .live [⟨2, 1, .data (List.map cI s9.2.2.2.2.2.2.2.2.2.2.2.2.2.2.2.2.2.2.2.2.2.2.2.1)⟩], .live [⟨2, 1, .data (List.map cI s9.2.2.2.2.2.2.2.2.2.2.2.2.2.2.2.2.2.2.2.2.2.2.2.2)⟩], .live (lT 2 1 aM s9.2.2.2.2.2.2.2.2.2.2.2.2.2.2.2.2.2.2.2.1)]⟩) h1 ?_ (fun s9 y h2 => ?_)
 exact wk [0,1,2,3,4,5,7,8,9,10,11,6]
 refine aD (sq [0,1] (pm ?_))
 refine rP rfl (eQ rfl rfl) (nx ?_)
 refine bN h2 rfl (fun hc h2 => ?_) (fun hc h2 => ?_)
 refine sk (aD (aK (sr [0,1] (fa tok ?_))))
 obtain ⟨v10, hv10, h2⟩ := bnd h2
 refine rw1 rfl w0 rfl (eA [3,5,11,6,7,8,9,10] 300 (rH hv10) rfl rfl) (bB (bG (aI (sr [0,1,2] (pm ?_)))))
 refine rP rfl (eZ rfl rfl) (pa (bB ?_))
 refine cE ?_
 cases h2
 refine ⟨_, rfl, ?_⟩
 exact wk [0,1,2,3,4,5,6,7,8,9,10,11]
 refine bL (bZ ?_)
 cases h2
 refine cG ⟨_, rfl, fun e => ?_⟩
 subst e
 refine aX (aI ?_)
 exact wk [0,1,2,3,4,5,6,7,8,9,10,11]
 refine sq [0,1,2,3,4,5,6,7,8,9,10,11] (fa tok ?_)
 refine fa tok ?_
 refine ld tok ?_
 refine pm ?_
 refine fa tok ?_
 refine ld tok ?_
 obtain ⟨v12, hv12, h0⟩ := bnd h0
 refine rS rfl (aO 12 (aBp hv12) rfl rfl rfl) (rP rfl (aG (r := .tup _) rfl) (rP rfl (aN rfl rfl) (rP rfl (aN rfl rfl) (pa ?_))))
 refine pa (nx (sq [0,1,2,3,4] ?_))
 refine rL rfl (aT tok rfl rfl rfl rfl) (pm ?_)
 refine bst tok ?_
 refine pa ?_
 refine pa (nx (aA ?_))
 cases h0
 exact dG (rs := [.cell 4 40, .tmp 5, .tmp 6]) [5,11,6,7,8,9,10] rfl

theorem aFi {p0 : bE} {p1 : bE} {r : Bool} (h0 : nH p0 p1 = some r) : FnC Tryz.prog 123 [] [.agg [dL aM p0.Arbors, (dL bF p0.Meshes)], .agg [dL aM p1.Arbors, (dL bF p1.Meshes)]] [] (dB r) := by
 refine fi 77 tok Tryz.func123 ?_
 unfold nH at h0
 refine sq [0,1,2] (bxx 3 ?_)
 refine bxx 4 ?_
 refine pa (nx (aD ?_))
 obtain ⟨v1, h1, h0⟩ := bnd h0
 refine bH ⟨aE (aE (aE ((fun _ => .dead)) 2 (.ptr 3 0 1 0 0)) 3 (.ptr 4 0 1 0 0)) 22 (dB v1), lks [.no, .no, .no, .live [⟨27, 2, .av [[dL aM p0.Arbors, (dL bF p0.Meshes)]]⟩], .live [⟨27, 2, .av [[dL aM p1.Arbors, (dL bF p1.Meshes)]]⟩]]⟩ ?_ ?_
 refine sr [0,1,2,3,4,5,6,7,8,9,10,11,12,13,14,15] (fa tok ?_)
 refine ld tok ?_
 refine rP rfl (aL tok rfl rfl rfl) (fa tok ?_)
 refine ld tok ?_
 refine rP rfl (aL tok rfl rfl rfl) (rP rfl (dW rfl rfl) (pm ?_))
 refine eP (u := 14) h1 rfl (fun hc h1 => ?_) (fun hc h1 => ?_)
 iterate 7 refine k1 ?_
 refine pkt (nx ?_)
 cases h1
 exact wk [0,1,2,3,4]
 refine fa1 tok ?_
 refine ld1 tok ?_
 refine rp rfl (w1 rfl rfl rfl) rfl (aL tok rfl rfl rfl) (fa1 tok ?_)
 refine ld1 tok ?_
 refine rp rfl (w1 rfl rfl rfl) rfl (aL tok rfl rfl rfl) (rp rfl (w1 rfl rfl rfl) rfl (dW rfl rfl) (pkf (nx ?_)))
 cases h1
 exact wk [0,1,2,3,4]
 refine bM h0 rfl (fun hc h0 => ?_) (fun hc h0 => ?_)
 refine sq [0] (pa (nx (aA (aR ?_))))
 cases h0
 exact r0t 4 rfl
 refine sk ?_
 obtain ⟨v16x, h1, h0⟩ := bnd h0
 refine dZ v16x (fun v16 => ⟨aE (aE ((fun _ => .dead)) 2 (.ptr 3 0 1 0 0)) 3 (.ptr 4 0 1 0 0), lks [.no, .no, .no, .live [⟨27, 2, .av [[dL aM p0.Arbors, (dL bF p0.Meshes)]]⟩], .live [⟨27, 2, .av [[dL aM p1.Arbors, (dL bF p1.Meshes)]]⟩]]⟩) ?_ ?_
 refine sq [0] (pa (nx (aK ?_)))
 refine bD (fun s9 => ⟨aE (aE (aE ((fun _ => .dead)) 2 (.ptr 3 0 1 0 0)) 3 (.ptr 4 0 1 0 0)) 5 (dI s9), lks [.no, .no, .no, .live [⟨27, 2, .av [[dL aM p0.Arbors, (dL bF p0.Meshes)]]⟩], .live [⟨27, 2, .av [[dL aM p1.Arbors, (dL bF p1.Meshes)]]⟩]]⟩) h1 ?_ (fun s9 y h2 => ?_)
 exact wk [0,1,2,3,4]
 refine aD (sq [0,1,2,3,4] (pm ?_))
 refine fa tok ?_
 refine ld tok ?_
 refine rP rfl (aL tok rfl rfl rfl) (rP rfl (bR rfl rfl) (nx ?_))
 refine bN h2 rfl (fun hc h2 => ?_) (fun hc h2 => ?_)
 refine sk (aD (aK ?_))
 obtain ⟨v15, h3, h2⟩ := bnd h2
 refine bH ⟨aE (aE (aE (aE ((fun _ => .dead)) 2 (.ptr 3 0 1 0 0)) 3 (.ptr 4 0 1 0 0)) 5 (dI s9)) 58 (dB v15), lks [.no, .no, .no, .live [⟨27, 2, .av [[dL aM p0.Arbors, (dL bF p0.Meshes)]]⟩], .live [⟨27, 2, .av [[dL aM p1.Arbors, (dL bF p1.Meshes)]]⟩]]⟩ ?_ ?_
 refine aC (is := [0,1,2,3,4,5,6,7,8,9,10,11,12,13,14,15,16,17,18,19,20,21,22,23,24,25,26,27,28]) [0,1,0,7,15,31,0,64,0,448,960,1984,4095,8191,16383,32767,16383,131071,262143,524287,16383,1064959,16383,7356415,15745023,32522239,67108863,134217727,268435455] follows (by kernel_rfl) (tfa tok ?_)
 refine tld tok ?_
 refine tpm ?_
 obtain ⟨v10, hv10, h3⟩ := bnd h3
 refine tP rfl (cK tok hv10 rfl rfl rfl rfl rfl rfl) (tfr tok ?_)
 refine tlr tok ?_
 refine tfa tok ?_
 refine tld tok ?_
 refine tpm ?_
 obtain ⟨v11, hv11, h3⟩ := bnd h3
 refine tP rfl (cK tok hv11 rfl rfl rfl rfl rfl rfl) (tfr tok ?_)
 refine tlr tok ?_
 refine tP rfl (aJo rfl rfl) (tpm ?_)
 refine zM (u := 43) h3 rfl (fun hc h3 => ?_) (fun hc h3 => ?_)
 iterate 14 refine k2 ?_
 refine rI ?_
 refine bC ?_
 refine ⟨by kernel_rfl, ?_⟩
 refine aI ?_
 cases h3
 exact wk [0,1,2,3,4]
 refine bW rfl (w1 rfl rfl rfl) rfl (sH tok rfl rfl rfl rfl rfl rfl rfl) rfl rfl rfl (bW rfl (w1 rfl rfl rfl) rfl (lD tok rfl rfl rfl rfl rfl) rfl rfl rfl (aGx ?_))
 obtain ⟨v12, hv12, h3⟩ := bnd h3
 refine mL rfl (w1 rfl rfl rfl) rfl (cK tok hv12 rfl rfl rfl rfl rfl rfl) (sE tok ?_)
 refine uM tok ?_
 refine bW rfl (w1 rfl rfl rfl) rfl (sH tok rfl rfl rfl rfl rfl rfl rfl) rfl rfl rfl (bW rfl (w1 rfl rfl rfl) rfl (lD tok rfl rfl rfl rfl rfl) rfl rfl rfl (aGx ?_))
 obtain ⟨v13, hv13, h3⟩ := bnd h3
 refine mL rfl (w1 rfl rfl rfl) rfl (cK tok hv13 rfl rfl rfl rfl rfl rfl) (sE tok ?_)
 refine uM tok ?_
 obtain ⟨v14, hv14, h3⟩ := bnd h3
 refine iL rfl (w1 rfl rfl rfl) rfl (cR 5 (tC hv14) rfl rfl rfl) (mL rfl (w1 rfl rfl rfl) rfl (bQ rfl) (qN ?_))
 refine bC ?_
 refine ⟨by kernel_rfl, ?_⟩
 refine aI ?_
 cases h3
 refine lI.trans_ (fX (d := 48) (ds := (cL cI) v12.Wheels) rfl (by repeat (first | exact Pre.z _ | apply Pre.t))) (lI.trans_ (fX (d := 54) (ds := (cL cI) v13.Wheels) rfl (by repeat (first | exact Pre.z _ | apply Pre.t))) ?_)
 exact wk [0,1,2,3,4]
 refine bM h2 rfl (fun hc h2 => ?_) (fun hc h2 => ?_)
 refine sq [0] (pa (nx (aA ?_)))
 refine bJ (aR ?_)
 cases h2
 refine eX ⟨_, rfl, fun e => ?_⟩
 subst e
 refine bJ ?_
 replace h0 := gF h0
 refine aR ?_
 cases h0
 exact r0t 4 rfl
 refine cV (bG (aI (sr [0,1,2] (pm ?_))))
 refine rP rfl (bI rfl rfl) (pa (bB ?_))
 refine cE ?_
 cases h2
 refine ⟨_, rfl, ?_⟩
 exact wk [0,1,2,3,4]
 refine bL (bZ ?_)
 cases h2
 refine cG ⟨_, rfl, fun e => ?_⟩
 subst e
 refine aX (aI ?_)
 refine ⟨_, rfl, ?_⟩
 exact wk [0,1,2,3,4]
 rintro v16 rfl
 replace h0 := iF h0
 obtain ⟨v23x, h1, h0⟩ := bnd h0
 refine dZ v23x (fun v23 => ⟨(fun _ => .dead), lks [.no, .no, .no]⟩) ?_ ?_
 refine sq [0] (pa (nx (aK ?_)))
 refine bD (fun s20 => ⟨aE (aE (aE ((fun _ => .dead)) 2 (.ptr 3 0 1 0 0)) 3 (.ptr 4 0 1 0 0)) 6 (dI s20), lks [.no, .no, .no, .live [⟨27, 2, .av [[dL aM p0.Arbors, (dL bF p0.Meshes)]]⟩], .live [⟨27, 2, .av [[dL aM p1.Arbors, (dL bF p1.Meshes)]]⟩]]⟩) h1 ?_ (fun s20 y h2 => ?_)
 exact wk [0,1,2,3,4]
 refine aD (sq [0,1,2,3,4] (pm ?_))
 refine fa tok ?_
 refine ld tok ?_
 refine rP rfl (aL tok rfl rfl rfl) (rP rfl (bR rfl rfl) (nx ?_))
 refine bN h2 rfl (fun hc h2 => ?_) (fun hc h2 => ?_)
 refine sk (aD (aK (aD (aC (is := [0,1,2,3,4,5,6,7,8,9,10]) [0,1,0,7,15,0,32,0,224,480,1023] follows (by kernel_rfl) (tfa tok ?_)))))
 refine tld tok ?_
 refine tpm ?_
 obtain ⟨v21, hv21, h2⟩ := bnd h2
 refine tP rfl (cK tok hv21 rfl rfl rfl rfl rfl rfl) (tP rfl (bK tok rfl rfl rfl (by repeat (first | exact iA.z _ | apply iA.t))) (tfa tok ?_))
 refine tld tok ?_
 refine tpm ?_
 obtain ⟨v22, hv22, h2⟩ := bnd h2
 refine tP rfl (cK tok hv22 rfl rfl rfl rfl rfl rfl) (tP rfl (bK tok rfl rfl rfl (by repeat (first | exact iA.z _ | apply iA.t))) (tP rfl (aHu (a := v21) (b := v22) rfl rfl) (bC ?_)))
 refine ⟨by kernel_rfl, ?_⟩
 refine aI ?_
 refine bN h2 rfl (fun hc h2 => ?_) (fun hc h2 => ?_)
 refine sq [0] (pa (nx (aA ?_)))
 refine bJ (aR ?_)
 cases h2
 refine eX ⟨_, rfl, fun e => ?_⟩
 subst e
 refine bJ ?_
 replace h0 := gF h0
 refine aR ?_
 cases h0
 exact r0t 4 rfl
 refine cV (bG (aI (sr [0,1,2] (pm ?_))))
 refine rP rfl (bI rfl rfl) (pa (bB ?_))
 refine cE ?_
 cases h2
 refine ⟨_, rfl, ?_⟩
 exact wk [0,1,2,3,4]
 refine bL (bZ ?_)
 cases h2
 refine cG ⟨_, rfl, fun e => ?_⟩
 subst e
 refine aX (aI ?_)
 refine ⟨_, rfl, ?_⟩
 exact wk [0,1,2]
 rintro v23 rfl
 replace h0 := iF h0
 refine sq [0] (pa (nx (aA ?_)))
 cases h0
 exact r0t 4 rfl

theorem aKg {p0 : aB} {p1 : aB} {r : Bool} (h0 : rA p0 p1 = some r) : FnC Tryz.prog 124 [] [.ref (bY p0), .ref (bY p1)] [] (dB r) := by
 refine fi 101 tok Tryz.func124 ?_
 unfold rA at h0
 refine sq [0] (pa (nx (aD ?_)))
 obtain ⟨v1, h1, h0⟩ := bnd h0
 refine bH ⟨aE (aE (aE ((fun _ => .dead)) 0 (.ref (bY p0))) 1 (.ref (bY p1))) 52 (dB v1), lks [.no, .no, .no]⟩ ?_ ?_
 refine aC (is := [0,1,2,3,4,5,6,7,8,9,10,11,12,13,14,15,16,17,18,19,20,21,22,23,24,25,26,27,28,29,30,31,32,33,34,35,36,37,38,39,40,41,42,43,44,45]) [0,1,3,7,0,16,48,112,255,511,1023,2047,4095,8191,1023,17407,50175,115711,262143,524287,1048575,2097151,4194303,8388607,16777215,33554431,2097151,69206015,203423743,471859199,1008730111,2147483647,4294967295,8589934591,17179869183,34359738367,68719476735,137438953471,274877906943,17179869183,566935683071,1666447310847,3865470566399,8263517077503,17592186044415,35184372088831] follows (by kernel_rfl) (pR ?_)
 refine tnr ?_
 refine tfr tok ?_
 refine tlr tok ?_
 refine pR ?_
 refine tnr ?_
 refine tfr tok ?_
 refine tlr tok ?_
 refine tP rfl (aJo rfl rfl) (tpm ?_)
 refine zM (u := 16) h1 rfl (fun hc h1 => ?_) (fun hc h1 => ?_)
 iterate 9 refine k2 ?_
 refine rI ?_
 refine tpm ?_
 iterate 11 refine k2 ?_
 refine rI ?_
 refine tpm ?_
 iterate 11 refine k2 ?_
 refine rI ?_
 refine bC ?_
 refine ⟨by kernel_rfl, ?_⟩
 refine aI ?_
 cases h1
 exact wk [0,1,2]
 refine lX ?_
 refine xP ?_
 refine sE tok ?_
 refine uM tok ?_
 refine lX ?_
 refine xP ?_
 refine sE tok ?_
 refine uM tok ?_
 refine mL rfl (w1 rfl rfl rfl) rfl (dW rfl rfl) (qN ?_)
 refine tpm ?_
 refine zM (u := 27) h1 rfl (fun hc h1 => ?_) (fun hc h1 => ?_)
 iterate 11 refine k2 ?_
 refine rI ?_
 refine tpm ?_
 iterate 11 refine k2 ?_
 refine rI ?_
 refine bC ?_
 refine ⟨by kernel_rfl, ?_⟩
 refine aI ?_
 cases h1
 exact wk [0,1,2]
 refine lX ?_
 refine xP ?_
 refine sE tok ?_
 refine uM tok ?_
 refine mL rfl (w1 rfl rfl rfl) rfl (aL tok rfl rfl rfl) (lX ?_)
 refine xP ?_
 refine sE tok ?_
 refine uM tok ?_
 refine mL rfl (w1 rfl rfl rfl) rfl (aL tok rfl rfl rfl) (mL rfl (w1 rfl rfl rfl) rfl (dW rfl rfl) (qN ?_))
 refine tpm ?_
 refine zM (u := 40) h1 rfl (fun hc h1 => ?_) (fun hc h1 => ?_)
 iterate 11 refine k2 ?_
 refine rI ?_
 refine bC ?_
 refine ⟨by kernel_rfl, ?_⟩
 refine aI ?_
 cases h1
 exact wk [0,1,2]
 refine lX ?_
 refine xP ?_
 refine sE tok ?_
 refine uM tok ?_
 refine mL rfl (w1 rfl rfl rfl) rfl (aL tok rfl rfl rfl) (lX ?_)
 refine xP ?_
 refine sE tok ?_
 refine uM tok ?_
 refine mL rfl (w1 rfl rfl rfl) rfl (aL tok rfl rfl rfl) (mL rfl (w1 rfl rfl rfl) rfl (dW rfl rfl) (qN ?_))
 refine bC ?_
 refine ⟨by kernel_rfl, ?_⟩
 refine aI ?_
 cases h1
 exact wk [0,1,2]
 refine bM h0 rfl (fun hc h0 => ?_) (fun hc h0 => ?_)
 refine sq [0] (pa (nx (aA (aR ?_))))
 cases h0
 exact r0t 4 rfl
 refine sk ?_
 obtain ⟨v8x, h1, h0⟩ := bnd h0
 refine dZ v8x (fun v8 => ⟨aE (aE ((fun _ => .dead)) 0 (.ref (bY p0))) 1 (.ref (bY p1)), lks [.no, .no, .no]⟩) ?_ ?_
 refine sq [0] (pa (nx (aK ?_)))
 refine bD (fun s5 => ⟨aE (aE (aE ((fun _ => .dead)) 0 (.ref (bY p0))) 1 (.ref (bY p1))) 5 (dI s5), lks [.no, .no, .no]⟩) h1 ?_ (fun s5 y h2 => ?_)
 exact wk [0,1,2]
 refine aD (sq [0,1,2,3,4,5,6] (pm ?_))
 refine pmr ?_
 refine nr ?_
 refine fr tok ?_
 refine lr tok ?_
 refine rP rfl (aL tok rfl rfl rfl) (rP rfl (bR rfl rfl) (nx ?_))
 refine bN h2 rfl (fun hc h2 => ?_) (fun hc h2 => ?_)
 refine sk (aD (aK (aD (aC (is := [0,1,2,3,4,5,6,7,8,9,10,11,12,13,14]) [0,1,3,7,0,31,63,0,128,384,896,0,3968,8064,16383] follows (by kernel_rfl) (pR ?_)))))
 refine tnr ?_
 refine tfr tok ?_
 refine tlr tok ?_
 refine tpm ?_
 obtain ⟨v6, hv6, h2⟩ := bnd h2
 refine tP rfl (cK tok hv6 rfl rfl rfl rfl rfl rfl) (tP rfl (bK tok rfl rfl rfl (by repeat (first | exact iA.z _ | apply iA.t))) (pR ?_))
 refine tnr ?_
 refine tfr tok ?_
 refine tlr tok ?_
 refine tpm ?_
 obtain ⟨v7, hv7, h2⟩ := bnd h2
 refine tP rfl (cK tok hv7 rfl rfl rfl rfl rfl rfl) (tP rfl (bK tok rfl rfl rfl (by repeat (first | exact iA.z _ | apply iA.t))) (tP rfl (aFz (a := v6) (b := v7) rfl rfl) (bC ?_)))
 refine ⟨by kernel_rfl, ?_⟩
 refine aI ?_
 refine bN h2 rfl (fun hc h2 => ?_) (fun hc h2 => ?_)
 refine sq [0] (pa (nx (aA ?_)))
 refine bJ (aR ?_)
 cases h2
 refine eX ⟨_, rfl, fun e => ?_⟩
 subst e
 refine bJ ?_
 replace h0 := gF h0
 refine aR ?_
 cases h0
 exact r0t 4 rfl
 refine cV (bG (aI (sr [0,1,2] (pm ?_))))
 refine rP rfl (bI rfl rfl) (pa (bB ?_))
 refine cE ?_
 cases h2
 refine ⟨_, rfl, ?_⟩
 exact wk [0,1,2]
 refine bL (bZ ?_)
 cases h2
 refine cG ⟨_, rfl, fun e => ?_⟩
 subst e
 refine aX (aI ?_)
 refine ⟨_, rfl, ?_⟩
 exact wk [0,1,2]
 rintro v8 rfl
 replace h0 := iF h0
 obtain ⟨v15x, h1, h0⟩ := bnd h0
 refine dZ v15x (fun v15 => ⟨(fun _ => .dead), lks [.no, .no, .no]⟩) ?_ ?_
 refine sq [0] (pa (nx (aK ?_)))
 refine bD (fun s12 => ⟨aE (aE (aE ((fun _ => .dead)) 0 (.ref (bY p0))) 1 (.ref (bY p1))) 6 (dI s12), lks [.no, .no, .no]⟩) h1 ?_ (fun s12 y h2 => ?_)
 exact wk [0,1,2]
 refine aD (sq [0,1,2,3,4,5,6] (pm ?_))
 refine pmr ?_
 refine nr ?_
 refine fr tok ?_
 refine lr tok ?_
 refine rP rfl (aL tok rfl rfl rfl) (rP rfl (bR rfl rfl) (nx ?_))
 refine bN h2 rfl (fun hc h2 => ?_) (fun hc h2 => ?_)
 refine sk (aD (aK (aD (aC (is := [0,1,2,3,4,5,6,7,8,9,10,11,12,13,14]) [0,1,3,7,0,31,63,0,128,384,896,0,3968,8064,16383] follows (by kernel_rfl) (pR ?_)))))
 refine tnr ?_
 refine tfr tok ?_
 refine tlr tok ?_
 refine tpm ?_
 obtain ⟨v13, hv13, h2⟩ := bnd h2
 refine tP rfl (cK tok hv13 rfl rfl rfl rfl rfl rfl) (tP rfl (bK tok rfl rfl rfl (by repeat (first | exact iA.z _ | apply iA.t))) (pR ?_))
 refine tnr ?_
 refine tfr tok ?_
 refine tlr tok ?_
 refine tpm ?_
 obtain ⟨v14, hv14, h2⟩ := bnd h2
 refine tP rfl (cK tok hv14 rfl rfl rfl rfl rfl rfl) (tP rfl (bK tok rfl rfl rfl (by repeat (first | exact iA.z _ | apply iA.t))) (tP rfl (aBl (a := v13) (b := v14) rfl rfl) (bC ?_)))
 refine ⟨by kernel_rfl, ?_⟩
 refine aI ?_
 refine bN h2 rfl (fun hc h2 => ?_) (fun hc h2 => ?_)
 refine sq [0] (pa (nx (aA ?_)))
 refine bJ (aR ?_)
 cases h2
 refine eX ⟨_, rfl, fun e => ?_⟩
 subst e
 refine bJ ?_
 replace h0 := gF h0
 refine aR ?_
 cases h0
 exact r0t 4 rfl
 refine cV (bG (aI (sr [0,1,2] (pm ?_))))
 refine rP rfl (bI rfl rfl) (pa (bB ?_))
 refine cE ?_
 cases h2
 refine ⟨_, rfl, ?_⟩
 exact wk [0,1,2]
 refine bL (bZ ?_)
 cases h2
 refine cG ⟨_, rfl, fun e => ?_⟩
 subst e
 refine aX (aI ?_)
 refine ⟨_, rfl, ?_⟩
 exact wk [0,1,2]
 rintro v15 rfl
 replace h0 := iF h0
 refine sq [0] (pa (nx (aA ?_)))
 cases h0
 exact r0t 4 rfl

theorem aBt {p0 : aU} {p1 : aU} {r : Bool} (h0 : iX p0 p1 = some r) : FnC Tryz.prog 46 [] [.agg [dS p0.Name, (dL aM p0.Works.Arbors), (dL bF p0.Works.Meshes), (dI p0.Minute), (dI p0.Hour), (dI p0.Escape), (dI p0.Teeth), (dI p0.Beats), (dS p0.Calendar.Name), (dL aP p0.Calendar.Months), (dL aF p0.Calendar.Rules), (dI p0.Calendar.Week), (dL cI p0.Cam), (dI p0.Strike)], .agg [dS p1.Name, (dL aM p1.Works.Arbors), (dL bF p1.Works.Meshes), (dI p1.Minute), (dI p1.Hour), (dI p1.Escape), (dI p1.Teeth), (dI p1.Beats), (dS p1.Calendar.Name), (dL aP p1.Calendar.Months), (dL aF p1.Calendar.Rules), (dI p1.Calendar.Week), (dL cI p1.Cam), (dI p1.Strike)]] [] (dB r) := by
 refine fi 69 tok Tryz.func46 ?_
 unfold iX at h0
 refine sq [0,1,2] (bxx 3 ?_)
 refine bxx 4 ?_
 refine pa (nx (aD ?_))
 obtain ⟨v1, h1, h0⟩ := bnd h0
 refine bH ⟨aE (aE (aE ((fun _ => .dead)) 2 (.ptr 3 0 1 0 0)) 3 (.ptr 4 0 1 0 0)) 51 (dB v1), lks [.no, .no, .no, .live [⟨34, 14, .av [[dS p0.Name, (dL aM p0.Works.Arbors), (dL bF p0.Works.Meshes), (dI p0.Minute), (dI p0.Hour), (dI p0.Escape), (dI p0.Teeth), (dI p0.Beats), (dS p0.Calendar.Name), (dL aP p0.Calendar.Months), (dL aF p0.Calendar.Rules), (dI p0.Calendar.Week), (dL cI p0.Cam), (dI p0.Strike)]]⟩], .live [⟨34, 14, .av [[dS p1.Name, (dL aM p1.Works.Arbors), (dL bF p1.Works.Meshes), (dI p1.Minute), (dI p1.Hour), (dI p1.Escape), (dI p1.Teeth), (dI p1.Beats), (dS p1.Calendar.Name), (dL aP p1.Calendar.Months), (dL aF p1.Calendar.Rules), (dI p1.Calendar.Week), (dL cI p1.Cam), (dI p1.Strike)]]⟩]]⟩ ?_ ?_
 refine sr [0,1,2,3,4,5,6,7,8,9,10,11,12,13,14,15,16,17,18,19,20,21,22,23,24,25,26,27,28,29,30,31,32,33,34,35,36,37,38,39,40,41,42,43,44,45,46] (fa tok ?_)
 refine ld tok ?_
 refine fa tok ?_
 refine ld tok ?_
 refine rP rfl (aJo rfl rfl) (pm ?_)
 refine eP (u := 10) h1 rfl (fun hc h1 => ?_) (fun hc h1 => ?_)
 iterate 5 refine k1 ?_
 refine pkt ?_
 refine pm ?_
 iterate 5 refine k1 ?_
 refine pkt ?_
 refine pm ?_
 iterate 5 refine k1 ?_
 refine pkt ?_
 refine pm ?_
 iterate 5 refine k1 ?_
 refine pkt ?_
 refine pm ?_
 iterate 5 refine k1 ?_
 refine pkt ?_
 refine pm ?_
 iterate 5 refine k1 ?_
 refine pkt (nx ?_)
 cases h1
 exact wk [0,1,2,3,4]
 refine fa1 tok ?_
 refine ld1 tok ?_
 refine fa1 tok ?_
 refine ld1 tok ?_
 refine rp rfl (w1 rfl rfl rfl) rfl (dW rfl rfl) (pkf ?_)
 refine pm ?_
 refine eP (u := 17) h1 rfl (fun hc h1 => ?_) (fun hc h1 => ?_)
 iterate 5 refine k1 ?_
 refine pkt ?_
 refine pm ?_
 iterate 5 refine k1 ?_
 refine pkt ?_
 refine pm ?_
 iterate 5 refine k1 ?_
 refine pkt ?_
 refine pm ?_
 iterate 5 refine k1 ?_
 refine pkt ?_
 refine pm ?_
 iterate 5 refine k1 ?_
 refine pkt (nx ?_)
 cases h1
 exact wk [0,1,2,3,4]
 refine fa1 tok ?_
 refine ld1 tok ?_
 refine fa1 tok ?_
 refine ld1 tok ?_
 refine rp rfl (w1 rfl rfl rfl) rfl (dW rfl rfl) (pkf ?_)
 refine pm ?_
 refine eP (u := 24) h1 rfl (fun hc h1 => ?_) (fun hc h1 => ?_)
 iterate 5 refine k1 ?_
 refine pkt ?_
 refine pm ?_
 iterate 5 refine k1 ?_
 refine pkt ?_
 refine pm ?_
 iterate 5 refine k1 ?_
 refine pkt ?_
 refine pm ?_
 iterate 5 refine k1 ?_
 refine pkt (nx ?_)
 cases h1
 exact wk [0,1,2,3,4]
 refine fa1 tok ?_
 refine ld1 tok ?_
 refine fa1 tok ?_
 refine ld1 tok ?_
 refine rp rfl (w1 rfl rfl rfl) rfl (dW rfl rfl) (pkf ?_)
 refine pm ?_
 refine eP (u := 31) h1 rfl (fun hc h1 => ?_) (fun hc h1 => ?_)
 iterate 5 refine k1 ?_
 refine pkt ?_
 refine pm ?_
 iterate 5 refine k1 ?_
 refine pkt ?_
 refine pm ?_
 iterate 5 refine k1 ?_
 refine pkt (nx ?_)
 cases h1
 exact wk [0,1,2,3,4]
 refine fa1 tok ?_
 refine ld1 tok ?_
 refine fa1 tok ?_
 refine ld1 tok ?_
 refine rp rfl (w1 rfl rfl rfl) rfl (dW rfl rfl) (pkf ?_)
 refine pm ?_
 refine eP (u := 38) h1 rfl (fun hc h1 => ?_) (fun hc h1 => ?_)
 iterate 5 refine k1 ?_
 refine pkt ?_
 refine pm ?_
 iterate 5 refine k1 ?_
 refine pkt (nx ?_)
 cases h1
 exact wk [0,1,2,3,4]
 refine fa1 tok ?_
 refine ld1 tok ?_
 refine fa1 tok ?_
 refine ld1 tok ?_
 refine rp rfl (w1 rfl rfl rfl) rfl (dW rfl rfl) (pkf ?_)
 refine pm ?_
 refine eP (u := 45) h1 rfl (fun hc h1 => ?_) (fun hc h1 => ?_)
 iterate 5 refine k1 ?_
 refine pkt (nx ?_)
 cases h1
 exact wk [0,1,2,3,4]
 refine fa1 tok ?_
 refine ld1 tok ?_
 refine fa1 tok ?_
 refine ld1 tok ?_
 refine rp rfl (w1 rfl rfl rfl) rfl (dW rfl rfl) (pkf (nx ?_))
 cases h1
 exact wk [0,1,2,3,4]
 refine bM h0 rfl (fun hc h0 => ?_) (fun hc h0 => ?_)
 refine sq [0] (pa (nx (aA (aR ?_))))
 cases h0
 exact r0t 4 rfl
 refine sk (sq [0,1,2,3,4,5,6,7,8,9,10,11,12,13,14,15,16,17] (fa tok ?_))
 refine rL rfl (aT tok rfl rfl rfl rfl) (fa tok ?_)
 refine rL rfl (aT tok rfl rfl rfl rfl) ?_
 obtain ⟨v2, hv2, h0⟩ := bnd h0
 refine rS rfl (aO 5 (aFi hv2) rfl rfl rfl) (pm ?_)
 refine cY (u := 57) h0 rfl (fun hc h0 => ?_) (fun hc h0 => ?_)
 refine fa1 tok ?_
 refine fa1 tok ?_
 obtain ⟨v3, hv3, h0⟩ := bnd h0
 refine rs rfl (w1 rfl rfl rfl) rfl (dR 5 (aKg hv3) rfl rfl) (pkt ?_)
 refine pm ?_
 refine cY (u := 62) h0 rfl (fun hc h0 => ?_) (fun hc h0 => ?_)
 refine fa1 tok ?_
 refine ld1 tok ?_
 refine fa1 tok ?_
 refine ld1 tok ?_
 obtain ⟨v4, hv4, h0⟩ := bnd h0
 refine rs rfl (w1 rfl rfl rfl) rfl (aO 5 (tC hv4) rfl rfl rfl) (pkt ?_)
 refine pa (nx (aA ?_))
 cases h0
 exact r0t 4 rfl
 iterate 5 refine k1 ?_
 refine pkf ?_
 refine pa (nx (aA ?_))
 cases h0
 exact r0t 4 rfl
 iterate 3 refine k1 ?_
 refine pkf ?_
 refine pm ?_
 iterate 5 refine k1 ?_
 refine pkf ?_
 refine pa (nx (aA ?_))
 cases h0
 exact r0t 4 rfl

theorem aAg {p0 : aH} {p1 : aH} {r : Bool} (h0 : kS p0 p1 = some r) : FnC Tryz.prog 47 [] [.agg [dL cI p0.Cam, (dI p0.Months), (dI p0.Teeth), (dI p0.At), (dI p0.Day), (dI p0.Week), (dI p0.Weekday)], .agg [dL cI p1.Cam, (dI p1.Months), (dI p1.Teeth), (dI p1.At), (dI p1.Day), (dI p1.Week), (dI p1.Weekday)]] [] (dB r) := by
 refine fi 52 tok Tryz.func47 ?_
 unfold kS at h0
 refine sq [0,1,2] (bxx 3 ?_)
 refine bxx 4 ?_
 refine pa (nx (sq [0,1,2,3,4,5,6,7,8,9,10,11,12,13,14,15,16,17,18,19,20,21,22,23,24,25,26,27,28,29,30,31,32,33,34,35,36,37,38,39,40,41,42,43,44,45,46,47] ?_))
 refine fa tok ?_
 refine ld tok ?_
 refine fa tok ?_
 refine ld tok ?_
 obtain ⟨v1, hv1, h0⟩ := bnd h0
 refine rS rfl (aO 5 (tC hv1) rfl rfl rfl) (pm ?_)
 refine cY (u := 10) h0 rfl (fun hc h0 => ?_) (fun hc h0 => ?_)
 refine fa1 tok ?_
 refine ld1 tok ?_
 refine fa1 tok ?_
 refine ld1 tok ?_
 refine rp rfl (w1 rfl rfl rfl) rfl (dV rfl rfl) (pkt ?_)
 refine pm ?_
 refine eP (u := 17) h0 rfl (fun hc h0 => ?_) (fun hc h0 => ?_)
 refine fa1 tok ?_
 refine ld1 tok ?_
 refine fa1 tok ?_
 refine ld1 tok ?_
 refine rp rfl (w1 rfl rfl rfl) rfl (dV rfl rfl) (pkt ?_)
 refine pm ?_
 refine eP (u := 24) h0 rfl (fun hc h0 => ?_) (fun hc h0 => ?_)
 refine fa1 tok ?_
 refine ld1 tok ?_
 refine fa1 tok ?_
 refine ld1 tok ?_
 refine rp rfl (w1 rfl rfl rfl) rfl (dV rfl rfl) (pkt ?_)
 refine pm ?_
 refine eP (u := 31) h0 rfl (fun hc h0 => ?_) (fun hc h0 => ?_)
 refine fa1 tok ?_
 refine ld1 tok ?_
 refine fa1 tok ?_
 refine ld1 tok ?_
 refine rp rfl (w1 rfl rfl rfl) rfl (dV rfl rfl) (pkt ?_)
 refine pm ?_
 refine eP (u := 38) h0 rfl (fun hc h0 => ?_) (fun hc h0 => ?_)
 refine fa1 tok ?_
 refine ld1 tok ?_
 refine fa1 tok ?_
 refine ld1 tok ?_
 refine rp rfl (w1 rfl rfl rfl) rfl (dV rfl rfl) (pkt ?_)
 refine pm ?_
 refine eP (u := 45) h0 rfl (fun hc h0 => ?_) (fun hc h0 => ?_)
 refine fa1 tok ?_
 refine ld1 tok ?_
 refine fa1 tok ?_
 refine ld1 tok ?_
 refine rp rfl (w1 rfl rfl rfl) rfl (dV rfl rfl) (pkt ?_)
 refine pa (nx (aA ?_))
 cases h0
 exact r0t 4 rfl
 iterate 5 refine k1 ?_
 refine pkf ?_
 refine pa (nx (aA ?_))
 cases h0
 exact r0t 4 rfl
 iterate 5 refine k1 ?_
 refine pkf ?_
 refine pm ?_
 iterate 5 refine k1 ?_
 refine pkf ?_
 refine pa (nx (aA ?_))
 cases h0
 exact r0t 4 rfl
 iterate 5 refine k1 ?_
 refine pkf ?_
 refine pm ?_
 iterate 5 refine k1 ?_
 refine pkf ?_
 refine pm ?_
 iterate 5 refine k1 ?_
 refine pkf ?_
 refine pa (nx (aA ?_))
 cases h0
 exact r0t 4 rfl
 iterate 5 refine k1 ?_
 refine pkf ?_
 refine pm ?_
 iterate 5 refine k1 ?_
 refine pkf ?_
 refine pm ?_
 iterate 5 refine k1 ?_
 refine pkf ?_
 refine pm ?_
 iterate 5 refine k1 ?_
 refine pkf ?_
 refine pa (nx (aA ?_))
 cases h0
 exact r0t 4 rfl
 iterate 5 refine k1 ?_
 refine pkf ?_
 refine pm ?_
 iterate 5 refine k1 ?_
 refine pkf ?_
 refine pm ?_
 iterate 5 refine k1 ?_
 refine pkf ?_
 refine pm ?_
 iterate 5 refine k1 ?_
 refine pkf ?_
 refine pm ?_
 iterate 5 refine k1 ?_
 refine pkf ?_
 refine pa (nx (aA ?_))
 cases h0
 exact r0t 4 rfl
 iterate 5 refine k1 ?_
 refine pkf ?_
 refine pm ?_
 iterate 5 refine k1 ?_
 refine pkf ?_
 refine pm ?_
 iterate 5 refine k1 ?_
 refine pkf ?_
 refine pm ?_
 iterate 5 refine k1 ?_
 refine pkf ?_
 refine pm ?_
 iterate 5 refine k1 ?_
 refine pkf ?_
 refine pm ?_
 iterate 5 refine k1 ?_
 refine pkf ?_
 refine pa (nx (aA ?_))
 cases h0
 exact r0t 4 rfl

theorem aIz {p0 : dM} {p1 : dM} {r : Bool} (h0 : qT p0 p1 = some r) : FnC Tryz.prog 11 [] [.agg [dS p0.Movement.Name, (dL aM p0.Movement.Works.Arbors), (dL bF p0.Movement.Works.Meshes), (dI p0.Movement.Minute), (dI p0.Movement.Hour), (dI p0.Movement.Escape), (dI p0.Movement.Teeth), (dI p0.Movement.Beats), (dS p0.Movement.Calendar.Name), (dL aP p0.Movement.Calendar.Months), (dL aF p0.Movement.Calendar.Rules), (dI p0.Movement.Calendar.Week), (dL cI p0.Movement.Cam), (dI p0.Movement.Strike), (dI p0.Start.Year), (dI p0.Start.Month), (dI p0.Start.Day), (dI p0.First), (dI p0.Clock), (dL cI p0.Dial.Cam), (dI p0.Dial.Months), (dI p0.Dial.Teeth), (dI p0.Dial.At), (dI p0.Dial.Day), (dI p0.Dial.Week), (dI p0.Dial.Weekday)], .agg [dS p1.Movement.Name, (dL aM p1.Movement.Works.Arbors), (dL bF p1.Movement.Works.Meshes), (dI p1.Movement.Minute), (dI p1.Movement.Hour), (dI p1.Movement.Escape), (dI p1.Movement.Teeth), (dI p1.Movement.Beats), (dS p1.Movement.Calendar.Name), (dL aP p1.Movement.Calendar.Months), (dL aF p1.Movement.Calendar.Rules), (dI p1.Movement.Calendar.Week), (dL cI p1.Movement.Cam), (dI p1.Movement.Strike), (dI p1.Start.Year), (dI p1.Start.Month), (dI p1.Start.Day), (dI p1.First), (dI p1.Clock), (dL cI p1.Dial.Cam), (dI p1.Dial.Months), (dI p1.Dial.Teeth), (dI p1.Dial.At), (dI p1.Dial.Day), (dI p1.Dial.Week), (dI p1.Dial.Weekday)]] [] (dB r) := by
 refine fi 38 tok Tryz.func11 ?_
 unfold qT at h0
 refine sq [0,1,2] (bxx 3 ?_)
 refine bxx 4 ?_
 refine pa (nx (sq [0,1,2,3,4,5,6,7,8,9,10,11,12,13,14,15,16,17,18,19,20,21,22,23,24,25,26,27,28,29,30,31,32,33] ?_))
 refine fa tok ?_
 refine rL rfl (aT tok rfl rfl rfl rfl) (fa tok ?_)
 refine rL rfl (aT tok rfl rfl rfl rfl) ?_
 obtain ⟨v1, hv1, h0⟩ := bnd h0
 refine rS rfl (aO 5 (aBt hv1) rfl rfl rfl) (pm ?_)
 refine cY (u := 10) h0 rfl (fun hc h0 => ?_) (fun hc h0 => ?_)
 refine fa1 tok ?_
 refine rl rfl (w1 rfl rfl rfl) rfl (aT tok rfl rfl rfl rfl) (fa1 tok ?_)
 refine rl rfl (w1 rfl rfl rfl) rfl (aT tok rfl rfl rfl rfl) (rp rfl (w1 rfl rfl rfl) rfl (aIa (a := p0.Start) (b := p1.Start) rfl rfl) (pkt ?_))
 refine pm ?_
 refine eP (u := 17) h0 rfl (fun hc h0 => ?_) (fun hc h0 => ?_)
 refine fa1 tok ?_
 refine ld1 tok ?_
 refine fa1 tok ?_
 refine ld1 tok ?_
 refine rp rfl (w1 rfl rfl rfl) rfl (dV rfl rfl) (pkt ?_)
 refine pm ?_
 refine eP (u := 24) h0 rfl (fun hc h0 => ?_) (fun hc h0 => ?_)
 refine fa1 tok ?_
 refine ld1 tok ?_
 refine fa1 tok ?_
 refine ld1 tok ?_
 refine rp rfl (w1 rfl rfl rfl) rfl (dV rfl rfl) (pkt ?_)
 refine pm ?_
 refine eP (u := 31) h0 rfl (fun hc h0 => ?_) (fun hc h0 => ?_)
 refine fa1 tok ?_
 refine rl rfl (w1 rfl rfl rfl) rfl (aT tok rfl rfl rfl rfl) (fa1 tok ?_)
 refine rl rfl (w1 rfl rfl rfl) rfl (aT tok rfl rfl rfl rfl) ?_
 obtain ⟨v2, hv2, h0⟩ := bnd h0
 refine rs rfl (w1 rfl rfl rfl) rfl (aO 5 (aAg hv2) rfl rfl rfl) (pkt ?_)
 refine pa (nx (aA ?_))
 cases h0
 exact r0t 4 rfl
 iterate 5 refine k1 ?_
 refine pkf ?_
 refine pa (nx (aA ?_))
 cases h0
 exact r0t 4 rfl
 iterate 5 refine k1 ?_
 refine pkf ?_
 refine pm ?_
 iterate 5 refine k1 ?_
 refine pkf ?_
 refine pa (nx (aA ?_))
 cases h0
 exact r0t 4 rfl
 iterate 5 refine k1 ?_
 refine pkf ?_
 refine pm ?_
 iterate 5 refine k1 ?_
 refine pkf ?_
 refine pm ?_
 iterate 5 refine k1 ?_
 refine pkf ?_
 refine pa (nx (aA ?_))
 cases h0
 exact r0t 4 rfl
 iterate 5 refine k1 ?_
 refine pkf ?_
 refine pm ?_
 iterate 5 refine k1 ?_
 refine pkf ?_
 refine pm ?_
 iterate 5 refine k1 ?_
 refine pkf ?_
 refine pm ?_
 iterate 5 refine k1 ?_
 refine pkf ?_
 refine pa (nx (aA ?_))
 cases h0
 exact r0t 4 rfl

theorem aJu {p0 : dM} {p1 : Int} {r : dM × Int} (h0 : nO p0 p1 = some r) : FnC Tryz.prog 12 [] [.agg [dS p0.Movement.Name, (dL aM p0.Movement.Works.Arbors), (dL bF p0.Movement.Works.Meshes), (dI p0.Movement.Minute), (dI p0.Movement.Hour), (dI p0.Movement.Escape), (dI p0.Movement.Teeth), (dI p0.Movement.Beats), (dS p0.Movement.Calendar.Name), (dL aP p0.Movement.Calendar.Months), (dL aF p0.Movement.Calendar.Rules), (dI p0.Movement.Calendar.Week), (dL cI p0.Movement.Cam), (dI p0.Movement.Strike), (dI p0.Start.Year), (dI p0.Start.Month), (dI p0.Start.Day), (dI p0.First), (dI p0.Clock), (dL cI p0.Dial.Cam), (dI p0.Dial.Months), (dI p0.Dial.Teeth), (dI p0.Dial.At), (dI p0.Dial.Day), (dI p0.Dial.Week), (dI p0.Dial.Weekday)], (dI p1)] [.live [⟨123, 2, .av (eU 1 aM r.1.Movement.Works.Arbors)⟩], .live (lT 2 1 aM r.1.Movement.Works.Arbors), .live [⟨125, 4, .data (List.map bF r.1.Movement.Works.Meshes)⟩], .live [⟨170, 3, .data (List.map aP r.1.Movement.Calendar.Months)⟩], .live [⟨181, 3, .data (List.map aF r.1.Movement.Calendar.Rules)⟩], .live [⟨2, 1, .data (List.map cI r.1.Movement.Cam)⟩], .live [⟨2, 1, .data (List.map cI r.1.Dial.Cam)⟩]] (.tup [.agg [dS r.1.Movement.Name, .own 0 0 r.1.Movement.Works.Arbors.length, .own 2 0 r.1.Movement.Works.Meshes.length, (dI r.1.Movement.Minute), (dI r.1.Movement.Hour), (dI r.1.Movement.Escape), (dI r.1.Movement.Teeth), (dI r.1.Movement.Beats), (dS r.1.Movement.Calendar.Name), .own 3 0 r.1.Movement.Calendar.Months.length, .own 4 0 r.1.Movement.Calendar.Rules.length, (dI r.1.Movement.Calendar.Week), .own 5 0 r.1.Movement.Cam.length, (dI r.1.Movement.Strike), (dI r.1.Start.Year), (dI r.1.Start.Month), (dI r.1.Start.Day), (dI r.1.First), (dI r.1.Clock), .own 6 0 r.1.Dial.Cam.length, (dI r.1.Dial.Months), (dI r.1.Dial.Teeth), (dI r.1.Dial.At), (dI r.1.Dial.Day), (dI r.1.Dial.Week), (dI r.1.Dial.Weekday)], (dI r.2)]) := by
 refine fi 27 tok Tryz.func12 ?_
 unfold nO at h0
 refine sq [0,1,2] (bxx 3 ?_)
 refine al 4 [ze, zl, zl, z0, z0, z0, z0, z0, ze, zl, zl, z0, zl, z0, z0, z0, z0, z0, z0, zl, z0, z0, z0, z0, z0, z0] tok ?_
 refine pa (nx (aD (sq [0,1,2] ?_)))
 refine rL rfl (aT tok rfl rfl rfl rfl) ?_
 obtain ⟨v1, hv1, h0⟩ := bnd h0
 refine rS rfl (aO 5 (oQ hv1) rfl rfl rfl) (rP rfl (bQ rfl) (nx ?_))
 refine bM h0 rfl (fun hc h0 => ?_) (fun hc h0 => ?_)
 refine sq [0,1,2] (rP rfl (pbl (C0 := [ze, zl, zl, z0, z0, z0, z0, z0, ze, zl, zl, z0, zl, z0, z0, z0, z0, z0, z0, zl, z0, z0, z0, z0, z0, z0]) tok rfl rfl rfl) (bst tok ?_))
 refine pa (nx ?_)
 refine wa 5 123 2 4 1 ?_
 refine cJ (dT 6 (k := 5) 2 1 aM rfl rfl) (wa 7 125 4 4 2 ?_)
 refine wa 8 170 3 4 9 ?_
 refine wa 9 181 3 4 10 ?_
 refine wa 10 2 1 4 12 ?_
 refine wa 11 2 1 4 19 (aA (aR ?_))
 cases h0
 exact dG (rs := [.cell 4 40, .tmp 5]) [5,6,7,8,9,10,11] rfl
 refine sk (sq [0,1,2] (rL rfl (aT tok rfl rfl rfl rfl) ?_))
 obtain ⟨v2, hv2, h0⟩ := bnd h0
 refine rS rfl (aO 5 (xU hv2) rfl rfl rfl) (bst tok (nx ?_))
 obtain ⟨v6x, h1, h0⟩ := bnd h0
 refine dZ v6x (fun v6 => ⟨aE (aE ((fun _ => .dead)) 2 (.ptr 3 0 1 0 0)) 4 (.ptr 4 0 1 0 0), lks [.no, .no, .no, .live [⟨40, 26, .av [[dS v6.1, .own 5 0 (v6.2.2.2.2.2.2.2.2.2.2.2.2.2.2.2.2.2.2.1).length, .own 6 0 (v6.2.2.2.2.2.2.2.2.2.2.2.2.2.2.2.2.2.2.2.1).length, (dI v6.2.1), (dI v6.2.2.1), (dI v6.2.2.2.1), (dI v6.2.2.2.2.1), (dI v6.2.2.2.2.2.1), (dS v6.2.2.2.2.2.2.1), .own 7 0 (v6.2.2.2.2.2.2.2.2.2.2.2.2.2.2.2.2.2.2.2.2.1).length, .own 8 0 (v6.2.2.2.2.2.2.2.2.2.2.2.2.2.2.2.2.2.2.2.2.2.1).length, (dI v6.2.2.2.2.2.2.2.1), .own 9 0 (v6.2.2.2.2.2.2.2.2.2.2.2.2.2.2.2.2.2.2.2.2.2.2.1).length, (dI v6.2.2.2.2.2.2.2.2.1), (dI v6.2.2.2.2.2.2.2.2.2.1.Year), (dI v6.2.2.2.2.2.2.2.2.2.1.Month), (dI v6.2.2.2.2.2.2.2.2.2.1.Day), (dI v6.2.2.2.2.2.2.2.2.2.2.1), (dI v6.2.2.2.2.2.2.2.2.2.2.2.1), .own 10 0 (v6.2.2.2.2.2.2.2.2.2.2.2.2.2.2.2.2.2.2.2.2.2.2.2).length, (dI v6.2.2.2.2.2.2.2.2.2.2.2.2.1), (dI v6.2.2.2.2.2.2.2.2.2.2.2.2.2.1), (dI v6.2.2.2.2.2.2.2.2.2.2.2.2.2.2.1), (dI v6.2.2.2.2.2.2.2.2.2.2.2.2.2.2.2.1), (dI v6.2.2.2.2.2.2.2.2.2.2.2.2.2.2.2.2.1), (dI v6.2.2.2.2.2.2.2.2.2.2.2.2.2.2.2.2.2.1)]]⟩], .live [⟨40, 26, .av [[ze, zl, zl, z0, z0, z0, z0, z0, ze, zl, zl, z0, zl, z0, z0, z0, z0, z0, z0, zl, z0, z0, z0, z0, z0, z0]]⟩], .live [⟨123, 2, .av (eU 11 aM v6.2.2.2.2.2.2.2.2.2.2.2.2.2.2.2.2.2.2.1)⟩], .live [⟨125, 4, .data (List.map bF v6.2.2.2.2.2.2.2.2.2.2.2.2.2.2.2.2.2.2.2.1)⟩], .live [⟨170, 3, .data (List.map aP v6.2.2.2.2.2.2.2.2.2.2.2.2.2.2.2.2.2.2.2.2.1)⟩], .live [⟨181, 3, .data (List.map aF v6.2.2.2.2.2.2.2.2.2.2.2.2.2.2.2.2.2.2.2.2.2.1)⟩], .live [⟨2, 1, .data (List.map cI v6.2.2.2.2.2.2.2.2.2.2.2.2.2.2.2.2.2.2.2.2.2.2.1)⟩], .live [⟨2, 1, .data (List.map cI v6.2.2.2.2.2.2.2.2.2.2.2.2.2.2.2.2.2.2.2.2.2.2.2)⟩], .live (lT 2 1 aM v6.2.2.2.2.2.2.2.2.2.2.2.2.2.2.2.2.2.2.1)]⟩) ?_ ?_
 refine sq [0] (pm (nx (aK (sq [0,1] ?_))))
 refine rP rfl (dV rfl rfl) (pa (nx ?_))
 refine bN h1 rfl (fun hc h1 => ?_) (fun hc h1 => ?_)
 refine sr [0,1] (fa tok ?_)
 obtain ⟨v3, hv3, h1⟩ := bnd h1
 refine rw1 rfl w0 rfl (eA [3,5,6,7,8,9,10,11] 300 (kX hv3) rfl rfl) (bB (bG (aI ?_)))
 cases h1
 refine ⟨_, rfl, ?_⟩
 exact wk [0,1,2,3,4,5,7,8,9,10,11,6]
 refine sq [0,1] (rP rfl (dV rfl rfl) (pa (nx ?_)))
 refine bN h1 rfl (fun hc h1 => ?_) (fun hc h1 => ?_)
 refine sr [0,1] (fa tok ?_)
 obtain ⟨v4, hv4, h1⟩ := bnd h1
 refine rw1 rfl w0 rfl (eA [3,5,6,7,8,9,10,11] 300 (kI hv4) rfl rfl) (bB (bG (aI ?_)))
 cases h1
 refine ⟨_, rfl, ?_⟩
 exact wk [0,1,2,3,4,5,7,8,9,10,11,6]
 refine sq [0,1] (rP rfl (dV rfl rfl) (pa (nx ?_)))
 refine bN h1 rfl (fun hc h1 => ?_) (fun hc h1 => ?_)
 refine sr [0,1] (fa tok ?_)
 obtain ⟨v5, hv5, h1⟩ := bnd h1
 refine rw1 rfl w0 rfl (eA [3,5,6,7,8,9,10,11] 300 (iU hv5) rfl rfl) (bB (bG (aI ?_)))
 cases h1
 refine ⟨_, rfl, ?_⟩
 exact wk [0,1,2,3,4,5,7,8,9,10,11,6]
 refine sq [0,1,2] (rP rfl (pbl (C0 := [ze, zl, zl, z0, z0, z0, z0, z0, ze, zl, zl, z0, zl, z0, z0, z0, z0, z0, z0, zl, z0, z0, z0, z0, z0, z0]) tok rfl rfl rfl) (bst tok ?_))
 refine pa (nx ?_)
 refine wa 12 123 2 4 1 ?_
 refine cJ (dT 13 (k := 12) 2 1 aM rfl rfl) (wa 14 125 4 4 2 ?_)
 refine wa 15 170 3 4 9 ?_
 refine wa 16 181 3 4 10 ?_
 refine wa 17 2 1 4 12 ?_
 refine wa 18 2 1 4 19 (aA ?_)
 refine bJ ?_
 cases h1
 replace h0 := gF h0
 refine aR ?_
 cases h0
 exact dG (rs := [.cell 4 40, .tmp 5]) [12,13,14,15,16,17,18] rfl
 rintro v6 rfl
 replace h0 := iF h0
 refine sq [0,1,2] (rL rfl (aT tok rfl rfl rfl rfl) (bst tok ?_))
 refine pa (nx (aA ?_))
 cases h0
 exact dG (rs := [.cell 4 40, .tmp 5]) [5,11,6,7,8,9,10] rfl

theorem aIl {p0 : dM} {r : Bool} (h0 : rV p0 = some r) : FnC Tryz.prog 13 [] [.agg [dS p0.Movement.Name, (dL aM p0.Movement.Works.Arbors), (dL bF p0.Movement.Works.Meshes), (dI p0.Movement.Minute), (dI p0.Movement.Hour), (dI p0.Movement.Escape), (dI p0.Movement.Teeth), (dI p0.Movement.Beats), (dS p0.Movement.Calendar.Name), (dL aP p0.Movement.Calendar.Months), (dL aF p0.Movement.Calendar.Rules), (dI p0.Movement.Calendar.Week), (dL cI p0.Movement.Cam), (dI p0.Movement.Strike), (dI p0.Start.Year), (dI p0.Start.Month), (dI p0.Start.Day), (dI p0.First), (dI p0.Clock), (dL cI p0.Dial.Cam), (dI p0.Dial.Months), (dI p0.Dial.Teeth), (dI p0.Dial.At), (dI p0.Dial.Day), (dI p0.Dial.Week), (dI p0.Dial.Weekday)]] [] (dB r) := by
 refine fi 4 tok Tryz.func13 ?_
 unfold rV at h0
 refine sq [0,1] (bxx 3 ?_)
 refine pa (nx (sq [0,1] ?_))
 obtain ⟨v1, hv1, h0⟩ := bnd h0
 refine rS rfl (dR 4 (aCe hv1) rfl rfl) (pa (nx (aA ?_)))
 cases h0
 exact r0t 2 rfl

theorem uP {p0 : aB} {r : Int × Int} (h0 : iD p0 = some r) : FnC Tryz.prog 280 [] [.agg [dS p0.Name, (dL aP p0.Months), (dL aF p0.Rules), (dI p0.Week)]] [] (.tup [dI r.1, (dI r.2)]) := by
 refine fi 26 tok Tryz.func280 ?_
 unfold iD at h0
 refine sq [0,1,2] (bxx 3 ?_)
 refine pa ?_
 refine pa (nx (sq [0,1] ?_))
 refine pa ?_
 refine pa (nx ?_)
 obtain ⟨v5, h1, h0⟩ := bnd h0
 refine bH ⟨aE (aE ((fun _ => .dead)) 4 (dI v5.1)) 5 (dI v5.2), lks [.no, .no, .no]⟩ ?_ ?_
 refine sq [0,1,2,3] (fa tok ?_)
 refine ld tok ?_
 refine rP rfl (aL tok rfl rfl rfl) (pm (nx (aK ?_)))
 refine bD (fun s3 => ⟨aE (aE (aE (aE (aE ((fun _ => .dead)) 4 (dI s3.1)) 5 (dI s3.2.1)) 9 (dL aP p0.Months)) 10 (dI (p0.Months.length : Int))) 11 (dI s3.2.2), lks [.no, .no, .no]⟩) h1 ?_ (fun s3 y h2 => ?_)
 exact wk [0,1,2]
 refine sq [0] (rP rfl (bR rfl rfl) (nx (aD ?_)))
 refine bN h2 rfl (fun hc h2 => ?_) (fun hc h2 => ?_)
 refine sk (aD (aK (sq [0,1,2,3] ?_)))
 obtain ⟨v4, hv4, h2⟩ := bnd h2
 refine rP rfl (cK tok hv4 rfl rfl rfl rfl rfl rfl) (rP rfl (bK tok rfl rfl rfl (by repeat (first | exact iA.z _ | apply iA.t))) (al 3 [ze, z0, z0] tok ?_))
 refine bst tok (nx (sq [0,1,2,3,4] ?_))
 refine pm ?_
 refine fa tok ?_
 refine ld tok ?_
 refine rP rfl (bI rfl rfl) (pa (nx (sr [0,1,2,3,4] ?_)))
 refine pm ?_
 refine fa tok ?_
 refine ld tok ?_
 refine rP rfl (bI rfl rfl) (pa (bB ?_))
 refine bG (aI (sr [0,1] (rP rfl (bI rfl rfl) (pm (bB ?_)))))
 refine cE ?_
 cases h2
 refine ⟨_, rfl, ?_⟩
 exact wk [0,1,2]
 refine bL (bZ ?_)
 cases h2
 refine cG ⟨_, rfl, fun e => ?_⟩
 subst e
 refine aX (aI ?_)
 exact wk [0,1,2]
 refine sq [0,1,2,3] (pm ?_)
 refine pm ?_
 refine pa ?_
 refine pa (nx (aA ?_))
 cases h0
 exact fV (rs := [.tmp 2, .tmp 3]) rfl

theorem wX {p0 : aB} {p1 : Int} {r : Int} (h0 : jM p0 p1 = some r) : FnC Tryz.prog 279 [] [.agg [dS p0.Name, (dL aP p0.Months), (dL aF p0.Rules), (dI p0.Week)], (dI p1)] [] (dI r) := by
 refine fi 29 tok Tryz.func279 ?_
 unfold jM at h0
 refine sq [0,1] (bxx 3 ?_)
 refine pa (nx (sq [0,1,2,3,4,5,6] ?_))
 refine rL rfl (aT tok rfl rfl rfl rfl) ?_
 obtain ⟨v1, hv1, h0⟩ := bnd h0
 refine rS rfl (aO 4 (uP hv1) rfl rfl rfl) (rP rfl (aG (r := .tup _) rfl) (rP rfl (aN rfl rfl) (rP rfl (aN rfl rfl) (pa ?_))))
 refine pa (nx (sq [0] ?_))
 refine pa (nx ?_)
 obtain ⟨v8, h1, h0⟩ := bnd h0
 refine bH ⟨aE ((fun _ => .dead)) 7 (dI v8), lks [.no, .no, .no]⟩ ?_ ?_
 refine sq [0] (pa (nx (aK ?_)))
 refine bD (fun s5 => ⟨aE (aE (aE (aE (aE (aE ((fun _ => .dead)) 1 (dI p1)) 2 (.ptr 3 0 1 0 0)) 5 (dI v1.1)) 6 (dI v1.2)) 7 (dI s5.1)) 8 (dI s5.2), lks [.no, .no, .no, .live [⟨31, 4, .av [[dS p0.Name, (dL aP p0.Months), (dL aF p0.Rules), (dI p0.Week)]]⟩]]⟩) h1 ?_ (fun s5 y h2 => ?_)
 exact wk [0,1,2,3]
 refine aD (sq [0,1,2] (pm ?_))
 refine pm ?_
 refine rP rfl (bR rfl rfl) (nx ?_)
 refine bN h2 rfl (fun hc h2 => ?_) (fun hc h2 => ?_)
 refine sk ?_
 obtain ⟨v7, h3, h2⟩ := bnd h2
 refine bH ⟨aE (aE (aE (aE (aE (aE ((fun _ => .dead)) 1 (dI p1)) 2 (.ptr 3 0 1 0 0)) 5 (dI v1.1)) 6 (dI v1.2)) 7 (dI v7)) 8 (dI s5.2), lks [.no, .no, .no, .live [⟨31, 4, .av [[dS p0.Name, (dL aP p0.Months), (dL aF p0.Rules), (dI p0.Week)]]⟩]]⟩ ?_ ?_
 refine aK (sq [0,1,2] (rL rfl (aT tok rfl rfl rfl rfl) (pm ?_)))
 obtain ⟨v6, hv6, h3⟩ := bnd h3
 refine rS rfl (aO 4 (sM hv6) rfl rfl rfl) (nx ?_)
 refine bM h3 rfl (fun hc h3 => ?_) (fun hc h3 => ?_)
 refine sr [0,1,2,3] (pm ?_)
 refine pm ?_
 refine rP rfl (bI rfl rfl) (pa (bB ?_))
 refine bG (aI ?_)
 cases h3
 exact wk [0,1,2,3]
 refine sr [0,1,2,3] (pm ?_)
 refine pm ?_
 refine rP rfl (bI rfl rfl) (pa (bB ?_))
 refine bG (aI ?_)
 cases h3
 exact wk [0,1,2,3]
 refine sr [0,1,2] (pm ?_)
 refine rP rfl (bI rfl rfl) (pa (bB ?_))
 refine cE ?_
 cases h2
 refine ⟨_, rfl, ?_⟩
 exact wk [0,1,2,3]
 refine bL (bZ ?_)
 cases h2
 refine cG ⟨_, rfl, fun e => ?_⟩
 subst e
 refine aX (aI ?_)
 exact wk [0,1,2]
 refine sq [0,1] (pm ?_)
 refine pa (nx (aA ?_))
 cases h0
 exact r0t 4 rfl

theorem aNh {p0 : aB} {p1 : cA} {r : Int} (h0 : uS p0 p1 = some r) : FnC Tryz.prog 254 [] [.agg [dS p0.Name, (dL aP p0.Months), (dL aF p0.Rules), (dI p0.Week)], .agg [dI p1.Year, (dI p1.Month), (dI p1.Day)]] [] (dI r) := by
 refine fi 33 tok Tryz.func254 ?_
 unfold uS at h0
 refine sq [0,1,2] (bxx 3 ?_)
 refine bxx 4 ?_
 refine pa (nx (aD ?_))
 refine aC (is := [0,1,2,4,5,3,6,7,8]) [0,0,2,7,0,16,63,127,255] follows (by kernel_rfl) (bW rfl w0 rfl (aT tok rfl rfl rfl rfl) rfl rfl rfl (tfa tok ?_))
 refine tld tok ?_
 refine tfa tok ?_
 refine tld tok ?_
 obtain ⟨v1, hv1, h0⟩ := bnd h0
 refine iL rfl w0 rfl (cR 5 (wX hv1) rfl rfl rfl) (tP rfl (bI rfl rfl) (tP rfl (eZ rfl rfl) (tpa ?_)))
 refine bC ?_
 refine ⟨by kernel_rfl, ?_⟩
 refine aI (sq [0,1,2,3,4] (rL rfl (aT tok rfl rfl rfl rfl) (fa tok ?_)))
 refine ld tok ?_
 obtain ⟨v2, hv2, h0⟩ := bnd h0
 refine rS rfl (aO 5 (sM hv2) rfl rfl rfl) (pa (nx ?_))
 obtain ⟨v7, h1, h0⟩ := bnd h0
 refine bH ⟨aE ((fun _ => .dead)) 5 (dI v7), lks [.no, .no, .no]⟩ ?_ ?_
 refine sq [0] (pa (nx (aK ?_)))
 refine bD (fun s5 => ⟨aE (aE (aE (aE (aE ((fun _ => .dead)) 2 (.ptr 3 0 1 0 0)) 3 (.ptr 4 0 1 0 0)) 5 (dI s5.1)) 6 (dB v2)) 7 (dI s5.2), lks [.no, .no, .no, .live [⟨31, 4, .av [[dS p0.Name, (dL aP p0.Months), (dL aF p0.Rules), (dI p0.Week)]]⟩], .live [⟨36, 3, .av [[dI p1.Year, (dI p1.Month), (dI p1.Day)]]⟩]]⟩) h1 ?_ (fun s5 y h2 => ?_)
 exact wk [0,1,2,3,4]
 refine aD (sq [0,1,2,3] (pm ?_))
 refine fa tok ?_
 refine ld tok ?_
 refine rP rfl (bR rfl rfl) (nx ?_)
 refine bN h2 rfl (fun hc h2 => ?_) (fun hc h2 => ?_)
 refine sk (aD (aK (sr [0,1,2,3,4,5,6] (pm ?_))))
 refine rL rfl (aT tok rfl rfl rfl rfl) (pm ?_)
 refine pm ?_
 obtain ⟨v6, hv6, h2⟩ := bnd h2
 refine rS rfl (aO 5 (mY hv6) rfl rfl rfl) (rP rfl (bI rfl rfl) (pa (bB ?_)))
 refine bG (aI (sr [0,1,2] (pm ?_)))
 refine rP rfl (bI rfl rfl) (pa (bB ?_))
 refine cE ?_
 cases h2
 refine ⟨_, rfl, ?_⟩
 exact wk [0,1,2,3,4]
 refine bL (bZ ?_)
 cases h2
 refine cG ⟨_, rfl, fun e => ?_⟩
 subst e
 refine aX (aI ?_)
 exact wk [0,1,2]
 refine sq [0,1] (pm ?_)
 refine pa (nx (aA ?_))
 cases h0
 exact r0t 4 rfl

theorem aNa {p0 : aB} {p1 : cA} {r : Int × Int} (h0 : zO p0 p1 = some r) : FnC Tryz.prog 208 [] [.agg [dS p0.Name, (dL aP p0.Months), (dL aF p0.Rules), (dI p0.Week)], .agg [dI p1.Year, (dI p1.Month), (dI p1.Day)]] [] (.tup [dI r.1, (dI r.2)]) := by
 refine fi 16 tok Tryz.func208 ?_
 unfold zO at h0
 refine sq [0,1,2,3] (bxx 3 ?_)
 refine bxx 4 ?_
 refine pa ?_
 refine pa (nx (aD (sq [0,1,2] ?_)))
 refine rL rfl (aT tok rfl rfl rfl rfl) ?_
 obtain ⟨v1, hv1, h0⟩ := bnd h0
 refine rS rfl (aO 5 (kJ hv1) rfl rfl rfl) (rP rfl (bQ rfl) (nx ?_))
 refine bM h0 rfl (fun hc h0 => ?_) (fun hc h0 => ?_)
 refine sq [0,1] (pa ?_)
 refine pa (nx (aA (aR ?_)))
 cases h0
 exact fV (rs := [.tmp 4, .tmp 5]) rfl
 refine sk (aD (sq [0,1,2,3] (rL rfl (aT tok rfl rfl rfl rfl) (rL rfl (aT tok rfl rfl rfl rfl) ?_))))
 obtain ⟨v2, hv2, h0⟩ := bnd h0
 refine rS rfl (aO 5 (zJ hv2) rfl rfl rfl) (rP rfl (bQ rfl) (nx ?_))
 refine bM h0 rfl (fun hc h0 => ?_) (fun hc h0 => ?_)
 refine sq [0,1] (pa ?_)
 refine pa (nx (aA (aR ?_)))
 cases h0
 exact fV (rs := [.tmp 4, .tmp 5]) rfl
 refine sk (sq [0,1,2,3,4] (rL rfl (aT tok rfl rfl rfl rfl) (rL rfl (aT tok rfl rfl rfl rfl) ?_)))
 obtain ⟨v3, hv3, h0⟩ := bnd h0
 refine rS rfl (aO 5 (aNh hv3) rfl rfl rfl) (pa ?_)
 refine pa (nx (aA ?_))
 cases h0
 exact fV (rs := [.tmp 4, .tmp 5]) rfl

theorem aKi {p0 : aB} {r : Int} (h0 : qV p0 = some r) : FnC Tryz.prog 255 [] [.agg [dS p0.Name, (dL aP p0.Months), (dL aF p0.Rules), (dI p0.Week)]] [] (dI r) := by
 refine fi 6 tok Tryz.func255 ?_
 unfold qV at h0
 refine sq [0,1] (bxx 3 ?_)
 refine pa (nx (sq [0,1,2,3] ?_))
 refine rL rfl (aT tok rfl rfl rfl rfl) ?_
 obtain ⟨v1, hv1, h0⟩ := bnd h0
 refine rS rfl (aO 4 (wX hv1) rfl rfl rfl) (rP rfl (eZ rfl rfl) (pa (nx (aA ?_))))
 cases h0
 exact r0t 2 rfl

theorem aMv {p0 : aB} {p1 : Int} {r : cA} (h0 : sP p0 p1 = some r) : FnC Tryz.prog 256 [] [.agg [dS p0.Name, (dL aP p0.Months), (dL aF p0.Rules), (dI p0.Week)], (dI p1)] [] (.agg [dI r.Year, (dI r.Month), (dI r.Day)]) := by
 refine fi 58 tok Tryz.func256 ?_
 unfold sP at h0
 refine sq [0,1] (bxx 3 ?_)
 refine al 4 [z0, z0, z0] tok (nx (sq [0,1,2,3,4,5,6] ?_))
 refine rL rfl (aT tok rfl rfl rfl rfl) ?_
 obtain ⟨v1, hv1, h0⟩ := bnd h0
 refine rS rfl (aO 5 (uP hv1) rfl rfl rfl) (rP rfl (aG (r := .tup _) rfl) (rP rfl (aN rfl rfl) (rP rfl (aN rfl rfl) (pa ?_))))
 refine pa (nx (sq [0,1,2] ?_))
 refine rP rfl (pbl (C0 := [z0, z0, z0]) tok rfl rfl rfl) (al 5 [z0, z0, z0] tok ?_)
 refine bst tok (nx ?_)
 obtain ⟨v8, h1, h0⟩ := bnd h0
 refine bH ⟨aE (aE (aE (aE ((fun _ => .dead)) 1 (dI v8.1)) 2 (.ptr 3 0 1 0 0)) 4 (.ptr 4 0 1 0 0)) 7 (.ptr 5 0 1 0 0), lks [.no, .no, .no, .live [⟨31, 4, .av [[dS p0.Name, (dL aP p0.Months), (dL aF p0.Rules), (dI p0.Week)]]⟩], .live [⟨36, 3, .av [[z0, z0, z0]]⟩], .live [⟨36, 3, .av [[dI v8.2.Year, (dI v8.2.Month), (dI v8.2.Day)]]⟩]]⟩ ?_ ?_
 refine aK ?_
 refine bD (fun s5 => ⟨aE (aE (aE (aE (aE (aE ((fun _ => .dead)) 1 (dI s5.1)) 2 (.ptr 3 0 1 0 0)) 4 (.ptr 4 0 1 0 0)) 5 (dI v1.1)) 6 (dI v1.2)) 7 (.ptr 5 0 1 0 0), lks [.no, .no, .no, .live [⟨31, 4, .av [[dS p0.Name, (dL aP p0.Months), (dL aF p0.Rules), (dI p0.Week)]]⟩], .live [⟨36, 3, .av [[z0, z0, z0]]⟩], .live [⟨36, 3, .av [[dI s5.2.Year, (dI s5.2.Month), (dI s5.2.Day)]]⟩]]⟩) h1 ?_ (fun s5 y h2 => ?_)
 exact wk [0,1,2,3,4,5]
 refine aK (sq [0,1] (pm ?_))
 refine pa (nx ?_)
 obtain ⟨v7, h3, h2⟩ := bnd h2
 refine bH ⟨aE (aE (aE (aE (aE (aE (aE ((fun _ => .dead)) 1 (dI s5.1)) 2 (.ptr 3 0 1 0 0)) 4 (.ptr 4 0 1 0 0)) 5 (dI v1.1)) 6 (dI v1.2)) 7 (.ptr 5 0 1 0 0)) 8 (dI v7), lks [.no, .no, .no, .live [⟨31, 4, .av [[dS p0.Name, (dL aP p0.Months), (dL aF p0.Rules), (dI p0.Week)]]⟩], .live [⟨36, 3, .av [[z0, z0, z0]]⟩], .live [⟨36, 3, .av [[dI s5.2.Year, (dI s5.2.Month), (dI s5.2.Day)]]⟩]]⟩ ?_ ?_
 refine sq [0,1,2,3] (rL rfl (aT tok rfl rfl rfl rfl) (fa tok ?_))
 refine ld tok ?_
 obtain ⟨v6, hv6, h3⟩ := bnd h3
 refine rS rfl (aO 6 (sM hv6) rfl rfl rfl) (nx ?_)
 refine bM h3 rfl (fun hc h3 => ?_) (fun hc h3 => ?_)
 refine sr [0,1] (pm ?_)
 refine pa (nx ?_)
 cases h3
 exact wk [0,1,2,3,4,5]
 refine sk ?_
 cases h3
 exact wk [0,1,2,3,4,5]
 refine aD (sq [0,1,2] (pm ?_))
 refine pm ?_
 refine rP rfl (bR rfl rfl) (nx ?_)
 refine bN h2 rfl (fun hc h2 => ?_) (fun hc h2 => ?_)
 refine bL (bZ (aRx rfl ?_))
 cases h2
 refine cG ⟨_, rfl, fun e => ?_⟩
 subst e
 refine aX (aI ?_)
 exact wk [0,1,2,3,4,5]
 refine sk (sq [0,1,2,3] (pm ?_))
 refine pm ?_
 refine rP rfl (eZ rfl rfl) (pa (nx (sr [0,1,2,3,4] ?_)))
 refine fa tok ?_
 refine ld tok ?_
 refine rP rfl (bI rfl rfl) (fa tok ?_)
 refine bs1 tok (bB ?_)
 refine bG (cE ?_)
 cases h2
 refine ⟨_, rfl, ?_⟩
 exact wk [0,1,2,3,4,5]
 obtain ⟨v16, h1, h0⟩ := bnd h0
 refine bH ⟨aE (aE (aE ((fun _ => .dead)) 1 (dI v16.1)) 4 (.ptr 3 0 1 0 0)) 7 (.ptr 4 0 1 0 0), lks [.no, .no, .no, .live [⟨36, 3, .av [[z0, z0, z0]]⟩], .live [⟨36, 3, .av [[dI v16.2.Year, (dI v16.2.Month), (dI v16.2.Day)]]⟩]]⟩ ?_ ?_
 refine sq [0,1,2,3,4] (rL rfl (aT tok rfl rfl rfl rfl) (fa tok ?_))
 refine ld tok ?_
 obtain ⟨v9, hv9, h1⟩ := bnd h1
 refine rS rfl (aO 6 (sM hv9) rfl rfl rfl) (pa (nx (aK ?_)))
 refine bD (fun s13 => ⟨aE (aE (aE (aE (aE ((fun _ => .dead)) 1 (dI s13.1)) 2 (.ptr 3 0 1 0 0)) 4 (.ptr 4 0 1 0 0)) 7 (.ptr 5 0 1 0 0)) 9 (dB v9), lks [.no, .no, .no, .live [⟨31, 4, .av [[dS p0.Name, (dL aP p0.Months), (dL aF p0.Rules), (dI p0.Week)]]⟩], .live [⟨36, 3, .av [[z0, z0, z0]]⟩], .live [⟨36, 3, .av [[dI s13.2.Year, (dI s13.2.Month), (dI s13.2.Day)]]⟩]]⟩) h1 ?_ (fun s13 y h2 => ?_)
 exact wk [0,1,2,3,4,5]
 refine aD (sq [0,1,2,3,4,5,6] (pm ?_))
 refine rL rfl (aT tok rfl rfl rfl rfl) (pm ?_)
 refine fa tok ?_
 refine ld tok ?_
 obtain ⟨v14, hv14, h2⟩ := bnd h2
 refine rS rfl (aO 6 (mY hv14) rfl rfl rfl) (rP rfl (rO rfl rfl) (nx ?_))
 refine bN h2 rfl (fun hc h2 => ?_) (fun hc h2 => ?_)
 refine sk (aD (aK (sr [0,1,2,3,4,5,6,7] (pm ?_))))
 refine rL rfl (aT tok rfl rfl rfl rfl) (pm ?_)
 refine fa tok ?_
 refine ld tok ?_
 obtain ⟨v15, hv15, h2⟩ := bnd h2
 refine rS rfl (aO 6 (mY hv15) rfl rfl rfl) (rP rfl (eZ rfl rfl) (pa (bB ?_)))
 refine bG (aI (sr [0,1,2,3,4] (fa tok ?_)))
 refine ld tok ?_
 refine rP rfl (bI rfl rfl) (fa tok ?_)
 refine bs1 tok (bB ?_)
 refine cE ?_
 cases h2
 refine ⟨_, rfl, ?_⟩
 exact wk [0,1,2,3,4,5]
 refine bL (bZ ?_)
 cases h2
 refine cG ⟨_, rfl, fun e => ?_⟩
 subst e
 refine aX (aI ?_)
 exact wk [0,1,2,4,5]
 refine sq [0,1,2,3] (pm ?_)
 refine rP rfl (bI rfl rfl) (fa tok ?_)
 refine bs1 tok (nx (sq [0,1] ?_))
 refine rL rfl (aT tok rfl rfl rfl rfl) (bst tok (nx (aA ?_)))
 cases h0
 exact fV (rs := [.cell 4 36]) rfl

theorem aJf {p0 : aB} {p1 : Int} {p2 : Int} {r : cA × Int} (h0 : tY p0 p1 p2 = some r) : FnC Tryz.prog 209 [] [.agg [dS p0.Name, (dL aP p0.Months), (dL aF p0.Rules), (dI p0.Week)], (dI p1), (dI p2)] [] (.tup [.agg [dI r.1.Year, (dI r.1.Month), (dI r.1.Day)], (dI r.2)]) := by
 refine fi 25 tok Tryz.func209 ?_
 unfold tY at h0
 refine sq [0,1,2] (bxx 3 ?_)
 refine al 4 [z0, z0, z0] tok ?_
 refine pa (nx (sq [0,1,2] ?_))
 refine rL rfl (aT tok rfl rfl rfl rfl) ?_
 obtain ⟨v1, hv1, h0⟩ := bnd h0
 refine rS rfl (aO 5 (aKi hv1) rfl rfl rfl) (pa (nx (aD (sq [0,1,2,3,4,5,6,7] ?_))))
 refine pm ?_
 refine pm ?_
 refine rP rfl (uI rfl) (pm ?_)
 refine pm ?_
 refine rP rfl (eZ rfl rfl) ?_
 obtain ⟨v2, hv2, h0⟩ := bnd h0
 refine rS rfl (aO 5 (dF hv2) rfl rfl rfl) (rP rfl (bQ rfl) (nx ?_))
 refine bM h0 rfl (fun hc h0 => ?_) (fun hc h0 => ?_)
 refine sq [0,1,2] (rP rfl (pbl (C0 := [z0, z0, z0]) tok rfl rfl rfl) (bst tok ?_))
 refine pa (nx (aA (aR ?_)))
 cases h0
 exact fV (rs := [.cell 6 36, .tmp 7]) rfl
 refine sk (sq [0,1,2,3,4,5,6] (rL rfl (aT tok rfl rfl rfl rfl) (pm ?_)))
 refine pm ?_
 refine rP rfl (bI rfl rfl) ?_
 obtain ⟨v3, hv3, h0⟩ := bnd h0
 refine rS rfl (aO 5 (aMv hv3) rfl rfl rfl) (bst tok ?_)
 refine pa (nx (aA ?_))
 cases h0
 exact fV (rs := [.cell 6 36, .tmp 7]) rfl

theorem aJ2 {p0 : aB} {p1 : cA} {p2 : Int} {r : cA × Int} (h0 : tX p0 p1 p2 = some r) : FnC Tryz.prog 128 [] [.agg [dS p0.Name, (dL aP p0.Months), (dL aF p0.Rules), (dI p0.Week)], .agg [dI p1.Year, (dI p1.Month), (dI p1.Day)], (dI p2)] [] (.tup [.agg [dI r.1.Year, (dI r.1.Month), (dI r.1.Day)], (dI r.2)]) := by
 refine fi 26 tok Tryz.func128 ?_
 unfold tX at h0
 refine sq [0,1,2,3] (bxx 3 ?_)
 refine bxx 4 ?_
 refine al 5 [z0, z0, z0] tok ?_
 refine pa (nx (sq [0,1,2,3,4,5,6,7] ?_))
 refine rL rfl (aT tok rfl rfl rfl rfl) (rL rfl (aT tok rfl rfl rfl rfl) ?_)
 obtain ⟨v1, hv1, h0⟩ := bnd h0
 refine rS rfl (aO 6 (aNa hv1) rfl rfl rfl) (rP rfl (aG (r := .tup _) rfl) (rP rfl (aN rfl rfl) (rP rfl (aN rfl rfl) (pa ?_))))
 refine pa (nx (aD (sq [0,1] ?_)))
 refine pm ?_
 refine rP rfl (dW rfl rfl) (nx ?_)
 refine bN h0 rfl (fun hc h0 => ?_) (fun hc h0 => ?_)
 refine sq [0,1,2,3] (rP rfl (pbl (C0 := [z0, z0, z0]) tok rfl rfl rfl) (pm ?_))
 refine bst tok ?_
 refine pa (nx (aA (aR ?_)))
 cases h0
 exact fV (rs := [.cell 6 36, .tmp 7]) rfl
 refine sk (sq [0,1,2,3,4,5,6,7] (rL rfl (aT tok rfl rfl rfl rfl) (pm ?_)))
 refine pm ?_
 obtain ⟨v2, hv2, h0⟩ := bnd h0
 refine rS rfl (aO 6 (aJf hv2) rfl rfl rfl) (rP rfl (aN rfl rfl) (rP rfl (aN rfl rfl) (bst tok ?_)))
 refine pa (nx (aA ?_))
 cases h0
 exact fV (rs := [.cell 6 36, .tmp 7]) rfl

theorem vR {p0 : dM} {r : cA × Int × Int} (h0 : kF p0 = some r) : FnC Tryz.prog 52 [] [.agg [dS p0.Movement.Name, (dL aM p0.Movement.Works.Arbors), (dL bF p0.Movement.Works.Meshes), (dI p0.Movement.Minute), (dI p0.Movement.Hour), (dI p0.Movement.Escape), (dI p0.Movement.Teeth), (dI p0.Movement.Beats), (dS p0.Movement.Calendar.Name), (dL aP p0.Movement.Calendar.Months), (dL aF p0.Movement.Calendar.Rules), (dI p0.Movement.Calendar.Week), (dL cI p0.Movement.Cam), (dI p0.Movement.Strike), (dI p0.Start.Year), (dI p0.Start.Month), (dI p0.Start.Day), (dI p0.First), (dI p0.Clock), (dL cI p0.Dial.Cam), (dI p0.Dial.Months), (dI p0.Dial.Teeth), (dI p0.Dial.At), (dI p0.Dial.Day), (dI p0.Dial.Week), (dI p0.Dial.Weekday)]] [] (.tup [.agg [dI r.1.Year, (dI r.1.Month), (dI r.1.Day)], (dI r.2.1), (dI r.2.2)]) := by
 refine fi 37 tok Tryz.func52 ?_
 unfold kF at h0
 refine sq [0,1,2,3] (bxx 3 ?_)
 refine al 4 [z0, z0, z0] tok ?_
 refine pa ?_
 refine pa (nx (sq [0,1,2,3] ?_))
 refine fa tok ?_
 refine ld tok ?_
 refine rP rfl (kA rfl rfl (by decide)) (pa (nx (sq [0,1,2,3,4,5,6,7,8,9,10,11,12] ?_)))
 refine fa tok ?_
 refine fa tok ?_
 refine rL rfl (aT tok rfl rfl rfl rfl) (fa tok ?_)
 refine rL rfl (aT tok rfl rfl rfl rfl) (pm ?_)
 obtain ⟨v2, hv2, h0⟩ := bnd h0
 refine rS rfl (aO 5 (aJ2 hv2) rfl rfl rfl) (rP rfl (aG (r := .tup _) rfl) (rP rfl (aN rfl rfl) (rP rfl (aN rfl rfl) (al 5 [z0, z0, z0] tok ?_))))
 refine bst tok ?_
 refine pa (nx (aD (sq [0,1] ?_)))
 refine pm ?_
 refine rP rfl (dW rfl rfl) (nx ?_)
 refine bN h0 rfl (fun hc h0 => ?_) (fun hc h0 => ?_)
 refine sq [0,1,2,3,4] (rP rfl (pbl (C0 := [z0, z0, z0]) tok rfl rfl rfl) (pm ?_))
 refine bst tok ?_
 refine pa ?_
 refine pa (nx (aA (aR ?_)))
 cases h0
 exact fV (rs := [.cell 2 36, .tmp 3, .tmp 4]) rfl
 refine sk (aD (aC (is := [0,1,2,3,4,5,6,7,8,9,10,11,12,13,14]) [0,0,2,6,0,30,0,64,192,448,1022,2046,1,8191,16383] follows (by kernel_rfl) (bW rfl w0 rfl (aT tok rfl rfl rfl rfl) rfl rfl rfl (tfa tok ?_))))
 refine tld tok ?_
 refine tP rfl (eZ rfl rfl) (tpm ?_)
 refine tP rfl (bI rfl rfl) ?_
 iterate 3 refine tfa tok ?_
 refine tld tok ?_
 obtain ⟨hq3, h0⟩ := dP h0
 refine tP rfl (fP rfl rfl hq3) (tP rfl (bI rfl rfl) (iN rfl w0 (fR (cs := _ :: _) tok rfl rfl rfl rfl rfl rfl rfl) (tpa ?_)))
 refine tpa ?_
 refine bC ?_
 refine ⟨by kernel_rfl, ?_⟩
 refine aI (aA ?_)
 cases h0
 exact fV (rs := [.cell 2 36, .tmp 3, .tmp 4]) rfl

theorem aDx {p0 : dM} {r : dM × Int} (h0 : lH p0 = some r) : FnC Tryz.prog 14 [] [.agg [dS p0.Movement.Name, (dL aM p0.Movement.Works.Arbors), (dL bF p0.Movement.Works.Meshes), (dI p0.Movement.Minute), (dI p0.Movement.Hour), (dI p0.Movement.Escape), (dI p0.Movement.Teeth), (dI p0.Movement.Beats), (dS p0.Movement.Calendar.Name), (dL aP p0.Movement.Calendar.Months), (dL aF p0.Movement.Calendar.Rules), (dI p0.Movement.Calendar.Week), (dL cI p0.Movement.Cam), (dI p0.Movement.Strike), (dI p0.Start.Year), (dI p0.Start.Month), (dI p0.Start.Day), (dI p0.First), (dI p0.Clock), (dL cI p0.Dial.Cam), (dI p0.Dial.Months), (dI p0.Dial.Teeth), (dI p0.Dial.At), (dI p0.Dial.Day), (dI p0.Dial.Week), (dI p0.Dial.Weekday)]] [.live [⟨123, 2, .av (eU 1 aM r.1.Movement.Works.Arbors)⟩], .live (lT 2 1 aM r.1.Movement.Works.Arbors), .live [⟨125, 4, .data (List.map bF r.1.Movement.Works.Meshes)⟩], .live [⟨170, 3, .data (List.map aP r.1.Movement.Calendar.Months)⟩], .live [⟨181, 3, .data (List.map aF r.1.Movement.Calendar.Rules)⟩], .live [⟨2, 1, .data (List.map cI r.1.Movement.Cam)⟩], .live [⟨2, 1, .data (List.map cI r.1.Dial.Cam)⟩]] (.tup [.agg [dS r.1.Movement.Name, .own 0 0 r.1.Movement.Works.Arbors.length, .own 2 0 r.1.Movement.Works.Meshes.length, (dI r.1.Movement.Minute), (dI r.1.Movement.Hour), (dI r.1.Movement.Escape), (dI r.1.Movement.Teeth), (dI r.1.Movement.Beats), (dS r.1.Movement.Calendar.Name), .own 3 0 r.1.Movement.Calendar.Months.length, .own 4 0 r.1.Movement.Calendar.Rules.length, (dI r.1.Movement.Calendar.Week), .own 5 0 r.1.Movement.Cam.length, (dI r.1.Movement.Strike), (dI r.1.Start.Year), (dI r.1.Start.Month), (dI r.1.Start.Day), (dI r.1.First), (dI r.1.Clock), .own 6 0 r.1.Dial.Cam.length, (dI r.1.Dial.Months), (dI r.1.Dial.Teeth), (dI r.1.Dial.At), (dI r.1.Dial.Day), (dI r.1.Dial.Week), (dI r.1.Dial.Weekday)], (dI r.2)]) := by
 refine fi 43 tok Tryz.func14 ?_
 unfold lH at h0
 refine sq [0,1,2] (bxx 3 ?_)
 refine al 4 [ze, zl, zl, z0, z0, z0, z0, z0, ze, zl, zl, z0, zl, z0, z0, z0, z0, z0, z0, zl, z0, z0, z0, z0, z0, z0] tok ?_
 refine pa (nx (aD (sq [0,1,2] ?_)))
 refine rL rfl (aT tok rfl rfl rfl rfl) ?_
 obtain ⟨v1, hv1, h0⟩ := bnd h0
 refine rS rfl (aO 5 (oQ hv1) rfl rfl rfl) (rP rfl (bQ rfl) (nx ?_))
 refine bM h0 rfl (fun hc h0 => ?_) (fun hc h0 => ?_)
 refine sq [0,1,2] (rP rfl (pbl (C0 := [ze, zl, zl, z0, z0, z0, z0, z0, ze, zl, zl, z0, zl, z0, z0, z0, z0, z0, z0, zl, z0, z0, z0, z0, z0, z0]) tok rfl rfl rfl) (bst tok ?_))
 refine pa (nx ?_)
 refine wa 5 123 2 4 1 ?_
 refine cJ (dT 6 (k := 5) 2 1 aM rfl rfl) (wa 7 125 4 4 2 ?_)
 refine wa 8 170 3 4 9 ?_
 refine wa 9 181 3 4 10 ?_
 refine wa 10 2 1 4 12 ?_
 refine wa 11 2 1 4 19 (aA (aR ?_))
 cases h0
 exact dG (rs := [.cell 2 40, .tmp 3]) [5,6,7,8,9,10,11] rfl
 refine sk (sq [0,1,2,3,4,5,6,7,8,9] (rL rfl (aT tok rfl rfl rfl rfl) ?_))
 obtain ⟨v2, hv2, h0⟩ := bnd h0
 refine rS rfl (aO 5 (vR hv2) rfl rfl rfl) (rP rfl (aG (r := .tup _) rfl) ?_)
 iterate 3 refine rP rfl (aN rfl rfl) ?_
 refine al 5 [z0, z0, z0] tok ?_
 refine bst tok ?_
 refine pa ?_
 refine pa (nx (aD (sq [0,1] ?_)))
 refine pm ?_
 refine rP rfl (dW rfl rfl) (nx ?_)
 refine bN h0 rfl (fun hc h0 => ?_) (fun hc h0 => ?_)
 refine sq [0,1,2,3] (rP rfl (pbl (C0 := [ze, zl, zl, z0, z0, z0, z0, z0, ze, zl, zl, z0, zl, z0, z0, z0, z0, z0, z0, zl, z0, z0, z0, z0, z0, z0]) tok rfl rfl rfl) (pm ?_))
 refine bst tok ?_
 refine pa (nx ?_)
 refine wa 6 123 2 4 1 ?_
 refine cJ (dT 7 (k := 6) 2 1 aM rfl rfl) (wa 8 125 4 4 2 ?_)
 refine wa 9 170 3 4 9 ?_
 refine wa 10 181 3 4 10 ?_
 refine wa 11 2 1 4 12 ?_
 refine wa 12 2 1 4 19 (aA (aR ?_))
 cases h0
 exact dG (rs := [.cell 2 40, .tmp 3]) [6,7,8,9,10,11,12] rfl
 refine sk (sq [0,1,2,3,4,5,6,7,8,9,10,11,12,13,14] (fa tok ?_))
 refine fa tok ?_
 refine rL rfl (aT tok rfl rfl rfl rfl) (fa tok ?_)
 refine fa tok ?_
 refine ld tok ?_
 refine rL rfl (aT tok rfl rfl rfl rfl) (pm ?_)
 obtain ⟨v3, hv3, h0⟩ := bnd h0
 refine rS rfl (aO 6 (uK hv3) rfl rfl rfl) (rP rfl (aG (r := .tup _) rfl) (rP rfl (aN rfl rfl) (rP rfl (aN rfl rfl) (al 7 [zl, z0, z0, z0, z0, z0, z0] tok ?_))))
 refine bst tok ?_
 refine pa (nx (aD (sq [0,1] ?_)))
 refine pm ?_
 refine rP rfl (dW rfl rfl) (nx ?_)
 refine bN h0 rfl (fun hc h0 => ?_) (fun hc h0 => ?_)
 refine sq [0,1,2,3] (rP rfl (pbl (C0 := [ze, zl, zl, z0, z0, z0, z0, z0, ze, zl, zl, z0, zl, z0, z0, z0, z0, z0, z0, zl, z0, z0, z0, z0, z0, z0]) tok rfl rfl rfl) (pm ?_))
 refine bst tok ?_
 refine pa (nx ?_)
 refine wa 8 123 2 4 1 ?_
 refine cJ (dT 9 (k := 8) 2 1 aM rfl rfl) (wa 10 125 4 4 2 ?_)
 refine wa 11 170 3 4 9 ?_
 refine wa 12 181 3 4 10 ?_
 refine wa 13 2 1 4 12 ?_
 refine wa 14 2 1 4 19 (aA (aR ?_))
 cases h0
 exact dG (rs := [.cell 2 40, .tmp 3]) [8,9,10,11,12,13,14] rfl
 refine sk (sq [0,1,2] (rL rfl (aT tok rfl rfl rfl rfl) ?_))
 obtain ⟨v4, hv4, h0⟩ := bnd h0
 refine rS rfl (aO 8 (xU hv4) rfl rfl rfl) (bst tok (nx (sq [0,1,2] ?_)))
 refine rL rfl (aT tok rfl rfl rfl rfl) (fa tok ?_)
 refine bst tok (nx (sq [0,1,2] ?_))
 refine rL rfl (aT tok rfl rfl rfl rfl) (bst tok ?_)
 refine pa (nx (aA ?_))
 cases h0
 exact dG (rs := [.cell 2 40, .tmp 3]) [8,9,10,11,12,13,6] rfl

theorem aHa {p0 : dM} {r : cA × Int} (h0 : pF p0 = some r) : FnC Tryz.prog 15 [] [.agg [dS p0.Movement.Name, (dL aM p0.Movement.Works.Arbors), (dL bF p0.Movement.Works.Meshes), (dI p0.Movement.Minute), (dI p0.Movement.Hour), (dI p0.Movement.Escape), (dI p0.Movement.Teeth), (dI p0.Movement.Beats), (dS p0.Movement.Calendar.Name), (dL aP p0.Movement.Calendar.Months), (dL aF p0.Movement.Calendar.Rules), (dI p0.Movement.Calendar.Week), (dL cI p0.Movement.Cam), (dI p0.Movement.Strike), (dI p0.Start.Year), (dI p0.Start.Month), (dI p0.Start.Day), (dI p0.First), (dI p0.Clock), (dL cI p0.Dial.Cam), (dI p0.Dial.Months), (dI p0.Dial.Teeth), (dI p0.Dial.At), (dI p0.Dial.Day), (dI p0.Dial.Week), (dI p0.Dial.Weekday)]] [] (.tup [.agg [dI r.1.Year, (dI r.1.Month), (dI r.1.Day)], (dI r.2)]) := by
 refine fi 19 tok Tryz.func15 ?_
 unfold pF at h0
 refine sq [0,1,2] (bxx 3 ?_)
 refine al 4 [z0, z0, z0] tok ?_
 refine pa (nx (aD (sq [0,1,2] ?_)))
 refine rL rfl (aT tok rfl rfl rfl rfl) ?_
 obtain ⟨v1, hv1, h0⟩ := bnd h0
 refine rS rfl (aO 5 (oQ hv1) rfl rfl rfl) (rP rfl (bQ rfl) (nx ?_))
 refine bM h0 rfl (fun hc h0 => ?_) (fun hc h0 => ?_)
 refine sq [0,1,2] (rP rfl (pbl (C0 := [z0, z0, z0]) tok rfl rfl rfl) (bst tok ?_))
 refine pa (nx (aA (aR ?_)))
 cases h0
 exact fV (rs := [.cell 2 36, .tmp 3]) rfl
 refine sk (sq [0,1,2,3,4,5,6,7,8,9] (rL rfl (aT tok rfl rfl rfl rfl) ?_))
 obtain ⟨v2, hv2, h0⟩ := bnd h0
 refine rS rfl (aO 5 (vR hv2) rfl rfl rfl) (rP rfl (aG (r := .tup _) rfl) ?_)
 iterate 3 refine rP rfl (aN rfl rfl) ?_
 refine al 5 [z0, z0, z0] tok ?_
 refine bst tok ?_
 refine pa ?_
 refine pa (nx (sq [0,1,2,3] ?_))
 refine rL rfl (aT tok rfl rfl rfl rfl) (pm ?_)
 refine bst tok ?_
 refine pa (nx (aA ?_))
 cases h0
 exact fV (rs := [.cell 2 36, .tmp 3]) rfl

theorem aEb {p0 : aH} {r : Int} (h0 : oF p0 = some r) : FnC Tryz.prog 131 [] [.agg [dL cI p0.Cam, (dI p0.Months), (dI p0.Teeth), (dI p0.At), (dI p0.Day), (dI p0.Week), (dI p0.Weekday)]] [] (dI r) := by
 refine fi 9 tok Tryz.func131 ?_
 unfold oF at h0
 refine sq [0,1] (bxx 3 ?_)
 refine pa (nx (sq [0,1,2,3,4,5,6] ?_))
 refine fa tok ?_
 refine ld tok ?_
 refine fa tok ?_
 refine ld tok ?_
 obtain ⟨hq1, h0⟩ := dP h0
 refine rP rfl (fP rfl rfl hq1) (rP rfl (bI rfl rfl) (pa (nx (aA ?_))))
 cases h0
 exact r0t 2 rfl

theorem aOx {p0 : aH} {p1 : Int} {p2 : Int} {r : Bool} (h0 : zC p0 p1 p2 = some r) : FnC Tryz.prog 54 [] [.agg [dL cI p0.Cam, (dI p0.Months), (dI p0.Teeth), (dI p0.At), (dI p0.Day), (dI p0.Week), (dI p0.Weekday)], (dI p1), (dI p2)] [] (dB r) := by
 refine fi 17 tok Tryz.func54 ?_
 unfold zC at h0
 refine sq [0,1] (bxx 3 ?_)
 refine pa (nx (sq [0,1,2,3,4,5,6,7,8,9,10] ?_))
 refine fa tok ?_
 refine ld tok ?_
 refine pm ?_
 refine rP rfl (dV rfl rfl) (pm ?_)
 refine eP (u := 11) h0 rfl (fun hc h0 => ?_) (fun hc h0 => ?_)
 refine rl rfl (w1 rfl rfl rfl) rfl (aT tok rfl rfl rfl rfl) ?_
 obtain ⟨v1, hv1, h0⟩ := bnd h0
 refine rs rfl (w1 rfl rfl rfl) rfl (aO 4 (aEb hv1) rfl rfl rfl) (pm1 ?_)
 refine rp rfl (w1 rfl rfl rfl) rfl (dV rfl rfl) (pkt ?_)
 refine pa (nx (aA ?_))
 cases h0
 exact r0t 6 rfl
 iterate 4 refine k1 ?_
 refine pkf ?_
 refine pa (nx (aA ?_))
 cases h0
 exact r0t 6 rfl

theorem aF5 {p0 : dM} {r : Bool} (h0 : gS p0 = some r) : FnC Tryz.prog 16 [] [.agg [dS p0.Movement.Name, (dL aM p0.Movement.Works.Arbors), (dL bF p0.Movement.Works.Meshes), (dI p0.Movement.Minute), (dI p0.Movement.Hour), (dI p0.Movement.Escape), (dI p0.Movement.Teeth), (dI p0.Movement.Beats), (dS p0.Movement.Calendar.Name), (dL aP p0.Movement.Calendar.Months), (dL aF p0.Movement.Calendar.Rules), (dI p0.Movement.Calendar.Week), (dL cI p0.Movement.Cam), (dI p0.Movement.Strike), (dI p0.Start.Year), (dI p0.Start.Month), (dI p0.Start.Day), (dI p0.First), (dI p0.Clock), (dL cI p0.Dial.Cam), (dI p0.Dial.Months), (dI p0.Dial.Teeth), (dI p0.Dial.At), (dI p0.Dial.Day), (dI p0.Dial.Week), (dI p0.Dial.Weekday)]] [] (dB r) := by
 refine fi 33 tok Tryz.func16 ?_
 unfold gS at h0
 refine sq [0,1] (bxx 3 ?_)
 refine pa (nx (aD (sq [0,1,2] ?_)))
 refine rL rfl (aT tok rfl rfl rfl rfl) ?_
 obtain ⟨v1, hv1, h0⟩ := bnd h0
 refine rS rfl (aO 4 (oQ hv1) rfl rfl rfl) (rP rfl (bQ rfl) (nx ?_))
 refine bM h0 rfl (fun hc h0 => ?_) (fun hc h0 => ?_)
 refine sq [0] (pa (nx (aA (aR ?_))))
 cases h0
 exact r0t 2 rfl
 refine sk (sq [0,1,2,3,4,5,6,7,8,9] (rL rfl (aT tok rfl rfl rfl rfl) ?_))
 obtain ⟨v2, hv2, h0⟩ := bnd h0
 refine rS rfl (aO 4 (vR hv2) rfl rfl rfl) (rP rfl (aG (r := .tup _) rfl) ?_)
 iterate 3 refine rP rfl (aN rfl rfl) ?_
 refine al 4 [z0, z0, z0] tok ?_
 refine bst tok ?_
 refine pa ?_
 refine pa (nx (sq [0,1,2,3,4,5,6,7,8,9,10,11,12,13,14,15,16,17,18] ?_))
 refine pm ?_
 refine rP rfl (dV rfl rfl) (pm ?_)
 refine eP (u := 17) h0 rfl (fun hc h0 => ?_) (fun hc h0 => ?_)
 refine fa1 tok ?_
 refine rl rfl (w1 rfl rfl rfl) rfl (aT tok rfl rfl rfl rfl) (fa1 tok ?_)
 refine ld1 tok ?_
 refine fa1 tok ?_
 refine ld1 tok ?_
 obtain ⟨v3, hv3, h0⟩ := bnd h0
 refine rs rfl (w1 rfl rfl rfl) rfl (aO 5 (aOx hv3) rfl rfl rfl) (pkt ?_)
 refine pm ?_
 refine cY (u := 26) h0 rfl (fun hc h0 => ?_) (fun hc h0 => ?_)
 refine fa1 tok ?_
 refine fa1 tok ?_
 refine ld1 tok ?_
 refine pm1 ?_
 refine rp rfl (w1 rfl rfl rfl) rfl (dV rfl rfl) (pkt ?_)
 refine pa (nx (aA ?_))
 cases h0
 exact r0t 2 rfl
 iterate 5 refine k1 ?_
 refine pkf ?_
 refine pa (nx (aA ?_))
 cases h0
 exact r0t 2 rfl
 iterate 7 refine k1 ?_
 refine pkf ?_
 refine pm ?_
 iterate 5 refine k1 ?_
 refine pkf ?_
 refine pa (nx (aA ?_))
 cases h0
 exact r0t 2 rfl

theorem aO7 {p0 : List Int} {p1 : List Int} {r : Bool} (h0 : yW p0 p1 = some r) : FnC Tryz.prog 3 [] [dL cU8 p0, (dL cU8 p1)] [] (dB r) := by
 refine fi 140 tok Tryz.func3 ?_
 unfold yW at h0
 refine sq [0] (pa (nx (aD (sq [0,1,2] ?_))))
 refine pm ?_
 refine pm ?_
 obtain ⟨v1, hv1, h0⟩ := bnd h0
 refine rS rfl (aO 3 (aMd hv1) rfl rfl rfl) (nx ?_)
 refine bM h0 rfl (fun hc h0 => ?_) (fun hc h0 => ?_)
 refine sq [0] (pa (nx (aA (aR ?_))))
 cases h0
 exact r0t 4 rfl
 refine sk (sq [0,1,2,3] (pm ?_))
 obtain ⟨v2, hv2, h0⟩ := bnd h0
 refine rS rfl (aO 3 (aM3 hv2) rfl rfl rfl) (al 10 [ze, zl, zl, z0, z0, z0, z0, z0, ze, zl, zl, z0, zl, z0, z0, z0, z0, z0, z0, zl, z0, z0, z0, z0, z0, z0] tok ?_)
 refine bst tok (nx (sq [0,1,2,3] ?_))
 refine pm ?_
 obtain ⟨v3, hv3, h0⟩ := bnd h0
 refine rS rfl (aO 11 (aF4 hv3) rfl rfl rfl) (rP rfl (fL rfl rfl) (pa (nx (sq [0,1,2,3] ?_))))
 refine pm ?_
 obtain ⟨v4, hv4, h0⟩ := bnd h0
 refine rS rfl (aO 11 (aF4 hv4) rfl rfl rfl) (rP rfl (fL rfl rfl) (pa (nx (sq [0,1,2,3,4,5,6,7,8,9,10] ?_))))
 refine rL rfl (aT tok rfl rfl rfl rfl) (pm ?_)
 obtain ⟨v5, hv5, h0⟩ := bnd h0
 refine rS rfl (dR 11 (zZ hv5) rfl rfl) (rP rfl (aG (r := .tup _) rfl) ?_)
 iterate 3 refine rP rfl (aN rfl rfl) ?_
 refine al 18 [ze, zl, zl, z0, z0, z0, z0, z0, ze, zl, zl, z0, zl, z0, z0, z0, z0, z0, z0, zl, z0, z0, z0, z0, z0, z0] tok ?_
 refine bst tok ?_
 refine pa ?_
 refine pa (nx (sq [0,1,2,3,4,5,6,7,8,9,10] ?_))
 refine rL rfl (aT tok rfl rfl rfl rfl) (pm ?_)
 obtain ⟨v6, hv6, h0⟩ := bnd h0
 refine rS rfl (dR 19 (zZ hv6) rfl rfl) (rP rfl (aG (r := .tup _) rfl) ?_)
 iterate 3 refine rP rfl (aN rfl rfl) ?_
 refine al 26 [ze, zl, zl, z0, z0, z0, z0, z0, ze, zl, zl, z0, zl, z0, z0, z0, z0, z0, z0, zl, z0, z0, z0, z0, z0, z0] tok ?_
 refine bst tok ?_
 refine pa ?_
 refine pa (nx (sq [0,1,2,3,4,5,6,7,8,9,10,11,12] ?_))
 refine rL rfl (aT tok rfl rfl rfl rfl) (pm ?_)
 refine pm ?_
 refine rP rfl (bI rfl rfl) ?_
 obtain ⟨v7, hv7, h0⟩ := bnd h0
 refine rS rfl (dR 27 (zZ hv7) rfl rfl) (rP rfl (aG (r := .tup _) rfl) ?_)
 iterate 3 refine rP rfl (aN rfl rfl) ?_
 refine al 34 [ze, zl, zl, z0, z0, z0, z0, z0, ze, zl, zl, z0, zl, z0, z0, z0, z0, z0, z0, zl, z0, z0, z0, z0, z0, z0] tok ?_
 refine bst tok ?_
 refine pa ?_
 refine pa (nx (aD ?_))
 obtain ⟨v9, h1, h0⟩ := bnd h0
 refine bH ⟨aE (aE (aE (aE (aE ((fun _ => .dead)) 1 (dL cU8 p1)) 6 (dI (w64 (400 * v3)))) 7 (dI (w64 (400 * v4)))) 14 (.ptr 3 0 1 0 0)) 95 (dB v9), lks [.no, .no, .no, .live [⟨40, 26, .av [[dS v7.1.Movement.Name, .own 4 0 (v7.1.Movement.Works.Arbors).length, .own 5 0 (v7.1.Movement.Works.Meshes).length, (dI v7.1.Movement.Minute), (dI v7.1.Movement.Hour), (dI v7.1.Movement.Escape), (dI v7.1.Movement.Teeth), (dI v7.1.Movement.Beats), (dS v7.1.Movement.Calendar.Name), .own 6 0 (v7.1.Movement.Calendar.Months).length, .own 7 0 (v7.1.Movement.Calendar.Rules).length, (dI v7.1.Movement.Calendar.Week), .own 8 0 (v7.1.Movement.Cam).length, (dI v7.1.Movement.Strike), (dI v7.1.Start.Year), (dI v7.1.Start.Month), (dI v7.1.Start.Day), (dI v7.1.First), (dI v7.1.Clock), .own 9 0 (v7.1.Dial.Cam).length, (dI v7.1.Dial.Months), (dI v7.1.Dial.Teeth), (dI v7.1.Dial.At), (dI v7.1.Dial.Day), (dI v7.1.Dial.Week), (dI v7.1.Dial.Weekday)]]⟩], .live [⟨123, 2, .av (eU 10 aM v7.1.Movement.Works.Arbors)⟩], .live [⟨125, 4, .data (List.map bF v7.1.Movement.Works.Meshes)⟩], .live [⟨170, 3, .data (List.map aP v7.1.Movement.Calendar.Months)⟩], .live [⟨181, 3, .data (List.map aF v7.1.Movement.Calendar.Rules)⟩], .live [⟨2, 1, .data (List.map cI v7.1.Movement.Cam)⟩], .live [⟨2, 1, .data (List.map cI v7.1.Dial.Cam)⟩], .live (lT 2 1 aM v7.1.Movement.Works.Arbors)]⟩ ?_ ?_
 refine sr [0,1,2,3,4,5,6,7,8,9,10,11,12,13,14,15,16,17,18,19,20,21,22,23,24,25,26,27,28,29,30,31,32,33,34,35,36,37,38] (pm ?_)
 refine rP rfl (dW rfl rfl) (pm ?_)
 refine eP (u := 59) h1 rfl (fun hc h1 => ?_) (fun hc h1 => ?_)
 refine k1 ?_
 refine k1 ?_
 refine pkt ?_
 refine pm ?_
 refine k1 ?_
 refine k1 ?_
 refine pkt ?_
 refine pm ?_
 iterate 4 refine k1 ?_
 refine pkt ?_
 refine pm ?_
 refine k1 ?_
 refine k1 ?_
 refine pkt ?_
 refine pm ?_
 refine k1 ?_
 refine k1 ?_
 refine pkt ?_
 refine pm ?_
 refine k1 ?_
 refine k1 ?_
 refine pkt ?_
 refine pm ?_
 refine k1 ?_
 refine k1 ?_
 refine pkt ?_
 refine pm ?_
 iterate 5 refine k1 ?_
 refine pkt (nx ?_)
 cases h1
 exact wk [0,1,2,34,27,29,30,31,32,33,28]
 refine pm1 ?_
 refine rp rfl (w1 rfl rfl rfl) rfl (dW rfl rfl) (pkf ?_)
 refine pm ?_
 refine eP (u := 63) h1 rfl (fun hc h1 => ?_) (fun hc h1 => ?_)
 refine k1 ?_
 refine k1 ?_
 refine pkt ?_
 refine pm ?_
 iterate 4 refine k1 ?_
 refine pkt ?_
 refine pm ?_
 refine k1 ?_
 refine k1 ?_
 refine pkt ?_
 refine pm ?_
 refine k1 ?_
 refine k1 ?_
 refine pkt ?_
 refine pm ?_
 refine k1 ?_
 refine k1 ?_
 refine pkt ?_
 refine pm ?_
 refine k1 ?_
 refine k1 ?_
 refine pkt ?_
 refine pm ?_
 iterate 5 refine k1 ?_
 refine pkt (nx ?_)
 cases h1
 exact wk [0,1,2,34,27,29,30,31,32,33,28]
 refine pm1 ?_
 refine rp rfl (w1 rfl rfl rfl) rfl (dW rfl rfl) (pkf ?_)
 refine pm ?_
 refine eP (u := 67) h1 rfl (fun hc h1 => ?_) (fun hc h1 => ?_)
 iterate 4 refine k1 ?_
 refine pkt ?_
 refine pm ?_
 refine k1 ?_
 refine k1 ?_
 refine pkt ?_
 refine pm ?_
 refine k1 ?_
 refine k1 ?_
 refine pkt ?_
 refine pm ?_
 refine k1 ?_
 refine k1 ?_
 refine pkt ?_
 refine pm ?_
 refine k1 ?_
 refine k1 ?_
 refine pkt ?_
 refine pm ?_
 iterate 5 refine k1 ?_
 refine pkt (nx ?_)
 cases h1
 exact wk [0,1,2,34,27,29,30,31,32,33,28]
 refine rl rfl (w1 rfl rfl rfl) rfl (aT tok rfl rfl rfl rfl) (rl rfl (w1 rfl rfl rfl) rfl (aT tok rfl rfl rfl rfl) ?_)
 obtain ⟨v8, hv8, h1⟩ := bnd h1
 refine rs rfl (w1 rfl rfl rfl) rfl (dR 35 (aIz hv8) rfl rfl) (rp rfl (w1 rfl rfl rfl) rfl (bQ rfl) (pkf ?_))
 refine pm ?_
 refine cY (u := 73) h1 rfl (fun hc h1 => ?_) (fun hc h1 => ?_)
 refine k1 ?_
 refine k1 ?_
 refine pkt ?_
 refine pm ?_
 refine k1 ?_
 refine k1 ?_
 refine pkt ?_
 refine pm ?_
 refine k1 ?_
 refine k1 ?_
 refine pkt ?_
 refine pm ?_
 refine k1 ?_
 refine k1 ?_
 refine pkt ?_
 refine pm ?_
 iterate 5 refine k1 ?_
 refine pkt (nx ?_)
 cases h1
 exact wk [0,1,2,34,27,29,30,31,32,33,28]
 refine pm1 ?_
 refine rp rfl (w1 rfl rfl rfl) rfl (bR rfl rfl) (pkf ?_)
 refine pm ?_
 refine eP (u := 77) h1 rfl (fun hc h1 => ?_) (fun hc h1 => ?_)
 refine k1 ?_
 refine k1 ?_
 refine pkt ?_
 refine pm ?_
 refine k1 ?_
 refine k1 ?_
 refine pkt ?_
 refine pm ?_
 refine k1 ?_
 refine k1 ?_
 refine pkt ?_
 refine pm ?_
 iterate 5 refine k1 ?_
 refine pkt (nx ?_)
 cases h1
 exact wk [0,1,2,34,27,29,30,31,32,33,28]
 refine pm1 ?_
 refine rp rfl (w1 rfl rfl rfl) rfl (bR rfl rfl) (pkf ?_)
 refine pm ?_
 refine eP (u := 81) h1 rfl (fun hc h1 => ?_) (fun hc h1 => ?_)
 refine k1 ?_
 refine k1 ?_
 refine pkt ?_
 refine pm ?_
 refine k1 ?_
 refine k1 ?_
 refine pkt ?_
 refine pm ?_
 iterate 5 refine k1 ?_
 refine pkt (nx ?_)
 cases h1
 exact wk [0,1,2,34,27,29,30,31,32,33,28]
 refine pm1 ?_
 refine rp rfl (w1 rfl rfl rfl) rfl (eQ rfl rfl) (pkf ?_)
 refine pm ?_
 refine eP (u := 85) h1 rfl (fun hc h1 => ?_) (fun hc h1 => ?_)
 refine k1 ?_
 refine k1 ?_
 refine pkt ?_
 refine pm ?_
 iterate 5 refine k1 ?_
 refine pkt (nx ?_)
 cases h1
 exact wk [0,1,2,34,27,29,30,31,32,33,28]
 refine pm1 ?_
 refine rp rfl (w1 rfl rfl rfl) rfl (eQ rfl rfl) (pkf ?_)
 refine pm ?_
 refine eP (u := 89) h1 rfl (fun hc h1 => ?_) (fun hc h1 => ?_)
 iterate 5 refine k1 ?_
 refine pkt (nx ?_)
 cases h1
 exact wk [0,1,2,34,27,29,30,31,32,33,28]
 refine pm1 ?_
 refine pm1 ?_
 refine rp rfl (w1 rfl rfl rfl) rfl (bI rfl rfl) (pm1 ?_)
 refine rp rfl (w1 rfl rfl rfl) rfl (dW rfl rfl) (pkf (nx ?_))
 cases h1
 exact wk [0,1,2,34,27,29,30,31,32,33,28]
 refine bM h0 rfl (fun hc h0 => ?_) (fun hc h0 => ?_)
 refine sq [0] (pa (nx (aA (aR ?_))))
 cases h0
 exact r0t 4 rfl
 refine sk (aD (aC (is := [0,1,2,3,4,5,6,7,8,9,10]) [0,0,2,6,15,31,63,63,0,383,1023] follows (by kernel_rfl) (bW rfl w0 rfl (aT tok rfl rfl rfl rfl) rfl rfl rfl (tpm ?_))))
 obtain ⟨v10, hv10, h0⟩ := bnd h0
 refine iL rfl w0 rfl (cR 12 (aF4 hv10) rfl rfl rfl) (tP rfl (bI rfl rfl) ?_)
 obtain ⟨v11, hv11, h0⟩ := bnd h0
 refine iL rfl w0 rfl (aCn 12 (aJu hv11) rfl rfl) (tP rfl (aG (r := .tup _) rfl) (tP rfl (aN rfl rfl) (tP rfl (aN rfl rfl) (aAz rfl w0 rfl rfl (fun hx hk => iQ 11 (cs := [ze, zl, zl, z0, z0, z0, z0, z0, ze, zl, zl, z0, zl, z0, z0, z0, z0, z0, z0, zl, z0, z0, z0, z0, z0, z0]) tok rfl rfl hk) (iN rfl w0 (fR (cs := _ :: _) tok rfl rfl rfl rfl rfl rfl rfl) (tpa ?_))))))
 refine bC ?_
 refine ⟨by kernel_rfl, ?_⟩
 refine aI (aD ?_)
 obtain ⟨v13, h1, h0⟩ := bnd h0
 refine bH ⟨aE (aE (aE (aE ((fun _ => .dead)) 6 (dI (w64 (400 * v3)))) 7 (dI (w64 (400 * v4)))) 17 (.ptr 3 0 1 0 0)) 110 (dB v13), lks [.no, .no, .no, .live [⟨40, 26, .av [[dS v11.1.Movement.Name, .own 4 0 (v11.1.Movement.Works.Arbors).length, .own 5 0 (v11.1.Movement.Works.Meshes).length, (dI v11.1.Movement.Minute), (dI v11.1.Movement.Hour), (dI v11.1.Movement.Escape), (dI v11.1.Movement.Teeth), (dI v11.1.Movement.Beats), (dS v11.1.Movement.Calendar.Name), .own 6 0 (v11.1.Movement.Calendar.Months).length, .own 7 0 (v11.1.Movement.Calendar.Rules).length, (dI v11.1.Movement.Calendar.Week), .own 8 0 (v11.1.Movement.Cam).length, (dI v11.1.Movement.Strike), (dI v11.1.Start.Year), (dI v11.1.Start.Month), (dI v11.1.Start.Day), (dI v11.1.First), (dI v11.1.Clock), .own 9 0 (v11.1.Dial.Cam).length, (dI v11.1.Dial.Months), (dI v11.1.Dial.Teeth), (dI v11.1.Dial.At), (dI v11.1.Dial.Day), (dI v11.1.Dial.Week), (dI v11.1.Dial.Weekday)]]⟩], .live [⟨123, 2, .av (eU 10 aM v11.1.Movement.Works.Arbors)⟩], .live [⟨125, 4, .data (List.map bF v11.1.Movement.Works.Meshes)⟩], .live [⟨170, 3, .data (List.map aP v11.1.Movement.Calendar.Months)⟩], .live [⟨181, 3, .data (List.map aF v11.1.Movement.Calendar.Rules)⟩], .live [⟨2, 1, .data (List.map cI v11.1.Movement.Cam)⟩], .live [⟨2, 1, .data (List.map cI v11.1.Dial.Cam)⟩], .live (lT 2 1 aM v11.1.Movement.Works.Arbors)]⟩ ?_ ?_
 refine sr [0,1,2,3,4,5,6] (pm ?_)
 refine rP rfl (dW rfl rfl) (pm ?_)
 refine eP (u := 106) h1 rfl (fun hc h1 => ?_) (fun hc h1 => ?_)
 iterate 3 refine k1 ?_
 refine pkt (nx ?_)
 cases h1
 exact wk [0,1,2,11,12,14,15,16,17,18,13]
 refine rl rfl (w1 rfl rfl rfl) rfl (aT tok rfl rfl rfl rfl) ?_
 obtain ⟨v12, hv12, h1⟩ := bnd h1
 refine rs rfl (w1 rfl rfl rfl) rfl (dR 19 (aIl hv12) rfl rfl) (rp rfl (w1 rfl rfl rfl) rfl (bQ rfl) (pkf (nx ?_)))
 cases h1
 exact wk [0,1,2,11,12,14,15,16,17,18,13]
 refine bM h0 rfl (fun hc h0 => ?_) (fun hc h0 => ?_)
 refine sq [0] (pa (nx (aA (aR ?_))))
 cases h0
 exact r0t 4 rfl
 refine sk (sq [0,1,2,3,4,5,6,7] (rL rfl (aT tok rfl rfl rfl rfl) ?_))
 obtain ⟨v14, hv14, h0⟩ := bnd h0
 refine rS rfl (dR 11 (aDx hv14) rfl rfl) (rP rfl (aG (r := .tup _) rfl) (rP rfl (aN rfl rfl) (rP rfl (aN rfl rfl) (al 18 [ze, zl, zl, z0, z0, z0, z0, z0, ze, zl, zl, z0, zl, z0, z0, z0, z0, z0, z0, zl, z0, z0, z0, z0, z0, z0] tok ?_))))
 refine bst tok ?_
 refine pa (nx (aD (sq [0,1] ?_)))
 refine pm ?_
 refine rP rfl (dW rfl rfl) (nx ?_)
 refine bN h0 rfl (fun hc h0 => ?_) (fun hc h0 => ?_)
 refine sq [0,1,2,3,4,5,6,7] (rL rfl (aT tok rfl rfl rfl rfl) ?_)
 obtain ⟨v15, hv15, h0⟩ := bnd h0
 refine rS rfl (dR 19 (aHa hv15) rfl rfl) (rP rfl (aG (r := .tup _) rfl) (rP rfl (aN rfl rfl) (rP rfl (aN rfl rfl) (al 19 [z0, z0, z0] tok ?_))))
 refine bst tok ?_
 refine pa (nx (sq [0,1,2,3,4,5,6,7] ?_))
 refine pm ?_
 refine rP rfl (dV rfl rfl) (pm ?_)
 refine eP (u := 125) h0 rfl (fun hc h0 => ?_) (fun hc h0 => ?_)
 refine pm1 ?_
 refine pm1 ?_
 refine rp rfl (w1 rfl rfl rfl) rfl (dV rfl rfl) (pkt ?_)
 refine pa (nx (aA (aR ?_)))
 cases h0
 exact r0t 4 rfl
 iterate 3 refine k1 ?_
 refine pkf ?_
 refine pa (nx (aA (aR ?_)))
 cases h0
 exact r0t 4 rfl
 refine sk (sq [0,1,2,3,4,5,6,7,8,9,10] (rL rfl (aT tok rfl rfl rfl rfl) ?_))
 obtain ⟨v16, hv16, h0⟩ := bnd h0
 refine rS rfl (dR 19 (aF5 hv16) rfl rfl) (pm ?_)
 refine cY (u := 132) h0 rfl (fun hc h0 => ?_) (fun hc h0 => ?_)
 refine fa1 tok ?_
 refine ld1 tok ?_
 refine pm1 ?_
 refine pm1 ?_
 refine rp rfl (w1 rfl rfl rfl) rfl (bI rfl rfl) (rp rfl (w1 rfl rfl rfl) rfl (dV rfl rfl) (pkt ?_))
 refine pa (nx (aA ?_))
 cases h0
 exact r0t 4 rfl
 iterate 6 refine k1 ?_
 refine pkf ?_
 refine pa (nx (aA ?_))
 cases h0
 exact r0t 4 rfl

end Go.Proofs.YtgcdbbidmfdonaaGreat
namespace Go.Proofs.YtgcdbbidmfdonaaGreat
set_option linter.unusedVariables false
theorem aPg (x : Int) : IntKind.u64.wrap x = x % 18446744073709551616 := by
 unfold IntKind.wrap
 simp [IntKind.signed, IntKind.bits]
theorem aK1 {x : Int} (h0 : 0 ≤ x) (h1 : x < 18446744073709551616) : IntKind.u64.wrap x = x := by rw [aPg]; omega
theorem aNv {x : Int} (h0 : -18446744073709551616 < x) (h1 : x < 0) : IntKind.u64.wrap (-(IntKind.u64.wrap x)) = -x := by rw [aPg, aPg]; omega
def jW (x : Int) : Int := (x.natAbs : Int)
theorem uA (x : Int) : 0 ≤ jW x := by unfold jW; omega
theorem aA1 {x : Int} (h : osI x) : nR x = some (jW x) := by
 obtain ⟨h0, h1⟩ := h
 unfold nR jW
 split
 ·rw [aNv (by omega) (by omega)]; congr 1; omega
 ·rw [aK1 (by omega) (by omega)]; congr 1; omega
theorem xB {x : Int} (h : osI x) : kN x = some (jW x) := by
 obtain ⟨h0, h1⟩ := h
 unfold kN jW
 split
 ·rw [aNv (by omega) (by omega)]; congr 1; omega
 ·rw [aK1 (by omega) (by omega)]; congr 1; omega
theorem aKx {a b : Int} : Int.gcd b (a.tmod b) = Int.gcd a b := by
 unfold Int.gcd
 rw [Int.natAbs_tmod, Nat.gcd_comm a.natAbs b.natAbs, Nat.gcd_comm, ← Nat.gcd_rec]
theorem aQg {step : Int × Int → Option ((Int × Int) ⊕ Int)} (hS : ∀ a b, b ≠ 0 → step (a, b) = some (.inl (b, a.tmod b))) (hE : ∀ a, step (a, 0) = some (.inr a)) (a b : Int) (hb : b.natAbs ≤ 9223372036854775808) :
  ∃ g, cO step (a, b) = some g ∧ g.natAbs = Int.gcd a b ∧ (g = a ∨ g.natAbs ≤ b.natAbs) := by
 refine tI (fun (s : Int × Int) => Int.gcd s.1 s.2 = Int.gcd a b ∧ s.2.natAbs ≤ b.natAbs ∧ (s.1 = a ∨ s.1.natAbs ≤ b.natAbs)) (fun (s : Int × Int) => s.2.natAbs) (fun g => g.natAbs = Int.gcd a b ∧ (g = a ∨ g.natAbs ≤ b.natAbs)) (fun s hI => ?_) (a, b) ⟨rfl, Nat.le_refl _, .inl rfl⟩ (by dsimp only; omega)
 obtain ⟨x, y⟩ := s
 obtain ⟨h1, h2, h3⟩ := hI
 dsimp only at h1 h2 h3 ⊢
 by_cases hy : y = 0
 ·right
  subst hy
  exact ⟨x, hE x, by rw [← h1]; simp, h3⟩
 ·left
  have hlt : (x.tmod y).natAbs < y.natAbs := by rw [Int.natAbs_tmod]; exact Nat.mod_lt _ (by omega)
  exact ⟨_, hS x y hy, ⟨by rw [aKx]; exact h1, by dsimp only; omega, .inr h2⟩, hlt⟩
theorem aC3 {step : Int × Int → Option ((Int × Int) ⊕ Int)} (hS : ∀ a b, 0 ≤ a → 0 < b → step (a, b) = some (.inl (b, a.tmod b))) (hE : ∀ a, step (a, 0) = some (.inr a)) {a b : Int} (ha : 0 ≤ a) (hb0 : 0 ≤ b) (hb : b ≤ 18446744073709551616) :
  cO step (a, b) = some (Int.gcd a b : Int) := by
 obtain ⟨g, h, h1, h2⟩ := tI (step := step) (fun (s : Int × Int) => Int.gcd s.1 s.2 = Int.gcd a b ∧ 0 ≤ s.1 ∧ 0 ≤ s.2) (fun (s : Int × Int) => s.2.natAbs) (fun g => g.natAbs = Int.gcd a b ∧ 0 ≤ g) (fun s hI => by
  obtain ⟨x, y⟩ := s
  obtain ⟨h1, h2, h3⟩ := hI
  dsimp only at h1 h2 h3 ⊢
  by_cases hy : y = 0
  ·right
   subst hy
   exact ⟨x, hE x, by rw [← h1]; simp, h2⟩
  ·left
   have hlt : (x.tmod y).natAbs < y.natAbs := by rw [Int.natAbs_tmod]; exact Nat.mod_lt _ (by omega)
   exact ⟨_, hS x y h2 (by omega), ⟨by rw [aKx]; exact h1, h3, Int.tmod_nonneg _ h2⟩, hlt⟩) (a, b) ⟨rfl, ha, hb0⟩ (by dsimp only; omega)
 rw [h]; congr 1; omega
theorem tR {n d : Int} (h : d ≠ 0) : 0 < Int.gcd n d := Int.gcd_pos_of_ne_zero_right n h
theorem aPi (n d : Int) : Int.gcd (jW n) (jW d) = Int.gcd n d := by unfold jW Int.gcd; simp
theorem uR {a g : Int} (ha : 0 ≤ a) (hg : 0 < g) : 0 ≤ a / g ∧ a / g ≤ a := ⟨Int.ediv_nonneg ha (by omega), Int.ediv_le_self _ ha⟩
def mkR (n d : Int) : aJ × Bool :=
 if 1000000000 < jW n / (Int.gcd n d : Int) ∨ 1000000000 < jW d / (Int.gcd n d : Int) then (⟨0, 0⟩, false)
 else (⟨if (decide (n < 0) != decide (d < 0)) = true then -(jW n / (Int.gcd n d : Int)) else jW n / (Int.gcd n d : Int), jW d / (Int.gcd n d : Int)⟩, true)
theorem aGz {n d : Int} (hn : osI n) (hd : osI d) (h : d ≠ 0) {f : Int → Option (aJ × Bool)} (hf : ∀ g, f g = (chk (g ≠ 0) (chk (g ≠ 0) ((((if 1000000000 < (IntKind.u64.wrap ((jW n).tdiv g)) then some true else some (decide (1000000000 < (IntKind.u64.wrap ((jW d).tdiv g))))) : Option Bool).bind fun v10 => (if v10 = true then some ((⟨0, 0⟩ : aJ), false) else (((if ((decide (n < 0)) != (decide (d < 0))) = true then some (⟨w64 (-(w64 (IntKind.u64.wrap ((jW n).tdiv g)))), w64 (IntKind.u64.wrap ((jW d).tdiv g))⟩ : aJ) else some (⟨w64 (IntKind.u64.wrap ((jW n).tdiv g)), w64 (IntKind.u64.wrap ((jW d).tdiv g))⟩ : aJ)) : Option aJ).bind fun v11 => some (v11, true)))))))) :
  f (Int.gcd n d : Int) = some (mkR n d) := by
 have hg := tR (n := n) h
 have a0 := uA n
 have b0 := uA d
 have a1 : jW n ≤ 9223372036854775808 := by unfold jW; obtain ⟨_, _⟩ := hn; omega
 have b1 : jW d ≤ 9223372036854775808 := by unfold jW; obtain ⟨_, _⟩ := hd; omega
 have qa := uR (a := jW n) (g := (Int.gcd n d : Int)) a0 (by omega)
 have qb := uR (a := jW d) (g := (Int.gcd n d : Int)) b0 (by omega)
 rw [hf, gB (by omega), gB (by omega), Int.tdiv_eq_ediv_of_nonneg a0, Int.tdiv_eq_ediv_of_nonneg b0]
 unfold mkR
 generalize jW n / (Int.gcd n d : Int) = a at *
 generalize jW d / (Int.gcd n d : Int) = b at *
 rw [aK1 qa.1 (by omega), aK1 qb.1 (by omega)]
 by_cases c1 : 1000000000 < a
 ·simp [c1]
 ·by_cases c2 : 1000000000 < b
  ·simp [c1, c2]
  ·rw [aW (x := a) (by omega) (by omega), aW (x := b) (by omega) (by omega), aW (x := -a) (by omega) (by omega)]
   simp only [if_neg c1, decide_eq_false c2, Option.bind_some, Bool.false_eq_true, if_false, c1, c2, or_self]
   cases (decide (n < 0) != decide (d < 0)) <;> simp
theorem kG {n d : Int} (hn : osI n) (hd : osI d) (h : d ≠ 0) : fJ n d = some (mkR n d) := by
 unfold fJ
 have b1 : jW d ≤ 9223372036854775808 := by unfold jW; obtain ⟨_, _⟩ := hd; omega
 rw [aA1 hn, Option.bind_some, aA1 hd, Option.bind_some, aC3 (fun a b h0 h1 => by simp only; rw [if_pos h1, gB (by omega)]) (fun a => by simp) (uA n) (uA d) (by omega), aPi, Option.bind_some]
 exact aGz hn hd h fun g => rfl
theorem aH8 {n d : Int} (hn : osI n) (hd : osI d) (h : d ≠ 0) : qS n d = some (mkR n d) := by
 unfold qS
 have b1 : jW d ≤ 9223372036854775808 := by unfold jW; obtain ⟨_, _⟩ := hd; omega
 rw [xB hn, Option.bind_some, xB hd, Option.bind_some, aC3 (fun a b h0 h1 => by simp only; rw [if_pos (by omega), gB (by omega)]) (fun a => by simp) (uA n) (uA d) (by omega), aPi, Option.bind_some]
 exact aGz hn hd h fun g => rfl
def aG9 (x : aJ × Bool) : aJ × Int := if x.2 = true then (x.1, 0) else (⟨0, 0⟩, 2)
def aM7 (n d : Int) : aJ × Int := if d = 0 then (⟨0, 0⟩, 6) else aG9 (mkR n d)
theorem wZ {n d : Int} (hn : osI n) (hd : osI d) : kM n d = some (aM7 n d) := by
 unfold kM aM7 aG9
 by_cases h : d = 0
 ·rw [if_pos h, if_pos h]
 ·rw [if_neg h, if_neg h, aH8 hn hd h, Option.bind_some]
  cases (mkR n d).2 <;> simp
theorem aK2 {a b : Int} (ha : osI a) (ha' : -9223372036854775808 < a) (hb : osI b) (hb' : -9223372036854775808 < b) : xN a b = some (Int.gcd a b : Int) := by
 unfold xN
 obtain ⟨a0, a1⟩ := ha
 obtain ⟨b0, b1⟩ := hb
 obtain ⟨g, h, h1, h2⟩ := aQg (step := fun s3 => (if s3.2 ≠ 0 then (chk (s3.2 ≠ 0) (some (.inl (s3.2, s3.1.tmod s3.2)))) else some (.inr s3.1))) (fun a b h => by simp only; rw [if_pos h, gB h]) (fun a => by simp) a b (by omega)
 rw [h, Option.bind_some]
 split
 ·rw [aW (by omega) (by omega)]; congr 1; omega
 ·congr 1; omega
theorem xX {a b : Int} (ha : 0 ≤ a) (hb : 0 ≤ b) (hb1 : b ≤ 18446744073709551616) : nK a b = some (Int.gcd a b : Int) := by
 unfold nK
 rw [aC3 (fun a b h0 h1 => by simp only; rw [if_pos (by omega), gB (by omega)]) (fun a => by simp) ha hb hb1]; rfl
theorem sB {a : Int} (h : -9223372036854775808 < a) (h1 : a ≤ 9223372036854775807) : hJ a = some (jW a) := by
 unfold hJ jW
 split
 ·rw [aW (by omega) (by omega)]; congr 1; omega
 ·congr 1; omega
theorem aQi {a : Int} (h : -9223372036854775808 < a) (h1 : a ≤ 9223372036854775807) : aDi a = some (jW a) := by
 unfold aDi jW
 split
 ·rw [aW (by omega) (by omega)]; congr 1; omega
 ·congr 1; omega
def aDv (r : aJ) : Bool := btw r.Den 1 1000000000 && (btw r.Num (-1000000000) 1000000000 && decide (Int.gcd r.Num r.Den = 1))
theorem aKp {r : aJ} : aDv r = true ↔ (1 ≤ r.Den ∧ r.Den ≤ 1000000000) ∧ (-1000000000 ≤ r.Num ∧ r.Num ≤ 1000000000) ∧ Int.gcd r.Num r.Den = 1 := by
 unfold aDv btw
 simp only [Bool.and_eq_true, decide_eq_true_eq]
theorem aC1 (r : aJ) : jH r = some (aDv r) := by
 unfold jH aDv
 simp only [fB, Option.bind_some]
 by_cases h1 : btw r.Den 1 1000000000 = true
 ·by_cases h2 : btw r.Num (-1000000000) 1000000000 = true
  ·have g1 := of_decide_eq_true h1
   have g2 := of_decide_eq_true h2
   rw [if_pos h1, if_pos h2, aK2 ⟨by omega, by omega⟩ (by omega) ⟨by omega, by omega⟩ (by omega), h1, h2]
   simp only [Option.bind_some, Bool.true_and]
   congr 1
   rw [decide_eq_decide]
   omega
  ·simp [h1, h2]
 ·simp [h1]
theorem aEy (r : aJ) : sO r = some (aDv r) := by
 unfold sO aDv
 simp only [eC, Option.bind_some]
 by_cases h1 : btw r.Den 1 1000000000 = true
 ·by_cases h2 : btw r.Num (-1000000000) 1000000000 = true
  ·have g1 := of_decide_eq_true h1
   have g2 := of_decide_eq_true h2
   have e : Int.gcd (jW r.Num) r.Den = Int.gcd r.Num r.Den := by unfold jW Int.gcd; simp
   rw [if_pos h1, if_pos h2, sB (by omega) (by omega), Option.bind_some, xX (uA _) (by omega) (by omega), h1, h2, e]
   simp only [Option.bind_some, Bool.true_and]
   congr 1
   rw [decide_eq_decide]
   omega
  ·simp [h1, h2]
 ·simp [h1]
end Go.Proofs.YtgcdbbidmfdonaaGreat
namespace Go.Proofs.YtgcdbbidmfdonaaGreat
set_option linter.unusedVariables false
def aOq (m : bO) : Bool := lV m.Name && (btw m.Days 1 60 && btw m.Leap 1 60)
def nI (r : aY) : Bool := btw r.Every 1 1000 && btw r.Rest 0 (r.Every - 1)
def aEh (y : Int) (r : aY) : Int := if y ≤ 2000 then y / (Int.gcd y r.Every : Int) * r.Every else y
def cyc (rs : List aY) : Int := rs.foldl aEh 1
def aBs (xs : List bO) : Bool := aGw xs fun i m => aOq m && !((xs.take i).any fun n => decide (n.Name = m.Name))
def nJ (c : aB) : Bool := lV c.Name && (decide (1 ≤ c.Months.length ∧ c.Months.length ≤ 20) && (decide (c.Rules.length ≤ 6) && (btw c.Week 1 12 && (aBs c.Months && (c.Rules.all nI && decide (cyc c.Rules ≤ 2000))))))
theorem rG {r : aY} : nI r = true ↔ (1 ≤ r.Every ∧ r.Every ≤ 1000) ∧ 0 ≤ r.Rest ∧ r.Rest ≤ r.Every - 1 := by
 unfold nI btw
 simp only [Bool.and_eq_true, decide_eq_true_eq]
theorem wP {y e : Int} (y0 : 1 ≤ y) (y1 : y ≤ 2000) (e0 : 1 ≤ e) (e1 : e ≤ 1000) : 1 ≤ y / (Int.gcd y e : Int) ∧ y / (Int.gcd y e : Int) ≤ 2000 ∧ 1 ≤ y / (Int.gcd y e : Int) * e ∧ y / (Int.gcd y e : Int) * e ≤ 2000000 := by
 have hg := tR (n := y) (d := e) (by omega)
 have hd : (Int.gcd y e : Int) ∣ y := Int.gcd_dvd_left ..
 have h1 : 1 ≤ y / (Int.gcd y e : Int) := by
  have h2 : (Int.gcd y e : Int) ≤ y := Int.le_of_dvd (by omega) hd
  exact (Int.le_ediv_iff_mul_le (by omega)).2 (by omega)
 have h2 : y / (Int.gcd y e : Int) ≤ y := Int.ediv_le_self _ (by omega)
 refine ⟨h1, by omega, ?_, ?_⟩
 ·have := Int.mul_le_mul h1 e0 (by omega) (by omega); omega
 ·have := Int.mul_le_mul (show y / (Int.gcd y e : Int) ≤ 2000 by omega) e1 (by omega) (by omega); omega
theorem aSr {y : Int} {r : aY} (y0 : 1 ≤ y) (y1 : y ≤ 2000000) (h : nI r = true) : 1 ≤ aEh y r ∧ aEh y r ≤ 2000000 := by
 unfold aEh
 have hr := rG.1 h
 split
 ·have := wP y0 (by omega) hr.1.1 hr.1.2; omega
 ·omega
theorem aLb {rs : List aY} {y : Int} (h : 2000 < y) : rs.foldl aEh y = y := by
 induction rs generalizing y with
 | nil => rfl
 | cons r rs ih =>
  rw [List.foldl_cons]
  have e : aEh y r = y := by unfold aEh; rw [if_neg (by omega)]
  rw [e]; exact ih h
theorem aCh {rs : List aY} (hl : rs.length ≤ 9223372036854775807) (h : rs.all nI = true) : lJ rs = some (cyc rs) := by
 unfold lJ
 have hr : ∀ (i : Nat) (hi : i < rs.length), nI rs[i] = true := fun i hi => (List.all_eq_true.1 h) _ (List.getElem_mem hi)
 have := zF (xs := rs) (step := fun s6 => (if s6.2 < (rs.length : Int) then ((((atI rs s6.2).bind fun v7 => (if s6.1 ≤ 2000 then ((xN s6.1 v7.Every).bind fun v8 => (chk (v8 ≠ 0) (some (w64 ((w64 (s6.1.tdiv v8)) * v7.Every))))) else some s6.1)) : Option Int).bind fun v10 => some (.inl (v10, w64 (s6.2 + 1)))) else some (.inr s6.1)))
  (fun i (y : Int) => (y, i)) (fun _ r y => some (.inl (aEh y r))) id (fun y => 1 ≤ y ∧ y ≤ 2000000) hl (fun i hi y hy => by
   have hi' : (i : Int) < rs.length := by omega
   have e1 : w64 ((i : Int) + 1) = i + 1 := aW (by omega) (by omega)
   have hq := rG.1 (hr i hi)
   simp only [if_pos hi', eE hi, Option.bind_some, e1]
   unfold aEh
   by_cases c : y ≤ 2000
   ·have hc := wP hy.1 c hq.1.1 hq.1.2
    have hg := tR (n := y) (d := rs[i].Every) (by omega)
    rw [if_pos c, if_pos c, aK2 ⟨by omega, by omega⟩ (by omega) ⟨by omega, by omega⟩ (by omega), Option.bind_some, gB (by omega), Int.tdiv_eq_ediv_of_nonneg (by omega), aW (x := y / _) (by omega) (by omega), aW (by omega) (by omega)]
    rfl
   ·rw [if_neg c, if_neg c]; rfl) (fun i hi y y' hy e => by
   injection e with e; injection e with e; subst e
   exact aSr hy.1 hy.2 (hr i hi)) (fun y _ => by simp) 1 (by omega)
 rw [this, rC aEh (fun _ _ _ => rfl)]
 rfl
theorem aJp {X : Type} {e : X} {rs : List aY} : ∀ (k : Nat) (y : Int), 1 ≤ y → y ≤ 2000 → aM1 (X := X) (fun _ r y => if nI r = true then (if 2000 < y / (Int.gcd y r.Every : Int) * r.Every then some (.inr e) else some (.inl (y / (Int.gcd y r.Every : Int) * r.Every))) else some (.inr e)) rs k y = some (if rs.all nI = true ∧ rs.foldl aEh y ≤ 2000 then .inl (rs.foldl aEh y) else .inr e) := by
 induction rs with
 | nil => intro k y h0 h1; simp [aM1, h1]
 | cons r rs ih =>
  intro k y h0 h1
  show Option.bind (if nI r = true then _ else _) _ = _
  cases hr : nI r
  ·simp [hr]
  ·have hq := rG.1 hr
   have hc := wP h0 h1 hq.1.1 hq.1.2
   have e : aEh y r = y / (Int.gcd y r.Every : Int) * r.Every := by unfold aEh; rw [if_pos h1]
   rw [if_pos rfl, List.foldl_cons, List.all_cons, hr, e, Bool.true_and]
   by_cases c : 2000 < y / (Int.gcd y r.Every : Int) * r.Every
   ·rw [if_pos c, Option.bind_some, aLb c, if_neg (by omega)]
   ·rw [if_neg c, Option.bind_some]
    exact ih (k + 1) _ hc.2.2.1 (by omega)
theorem zD {rs : List aY} (hl : rs.length ≤ 9223372036854775807) : mJ rs = some (if rs.all nI = true ∧ cyc rs ≤ 2000 then (cyc rs, decide (rs.length ≤ 6)) else (0, false)) := by
 unfold mJ
 rw [zF (xs := rs) (fun i (y : Int) => (y, i)) (fun _ r y => if nI r = true then (if 2000 < y / (Int.gcd y r.Every : Int) * r.Every then some (.inr (.inr (0, false))) else some (.inl (y / (Int.gcd y r.Every : Int) * r.Every))) else some (.inr (.inr (0, false)))) (fun y => .inl y) (fun y => 1 ≤ y ∧ y ≤ 2000) hl (fun i hi y hy => ?_) (fun i hi y y' hy e => ?_) (fun y _ => by simp) 1 (by omega)]
 ·have e : aM1 (X := Int ⊕ (Int × Bool)) (fun _ r y => if nI r = true then (if 2000 < y / (Int.gcd y r.Every : Int) * r.Every then some (.inr (.inr (0, false))) else some (.inl (y / (Int.gcd y r.Every : Int) * r.Every))) else some (.inr (.inr (0, false)))) rs 0 1 = some (if rs.all nI = true ∧ cyc rs ≤ 2000 then .inl (cyc rs) else .inr (.inr (0, false))) := aJp 0 1 (by omega) (by omega)
  rw [e]
  by_cases c : rs.all nI = true ∧ cyc rs ≤ 2000
  ·simp only [if_pos c]
   simp [orE]
   omega
  ·simp only [if_neg c]; rfl
 ·have hi' : (i : Int) < rs.length := by omega
  have e1 : w64 ((i : Int) + 1) = i + 1 := aW (by omega) (by omega)
  simp only [if_pos hi', eE hi, Option.bind_some, e1, eC]
  have e2 : nI rs[i] = (btw rs[i].Every 1 1000 && btw rs[i].Rest 0 (rs[i].Every - 1)) := rfl
  rw [e2]
  by_cases c1 : btw rs[i].Every 1 1000 = true
  ·have q := of_decide_eq_true c1
   rw [c1, aW (x := rs[i].Every - 1) (by omega) (by omega)]
   cases btw rs[i].Rest 0 (rs[i].Every - 1)
   ·rfl
   ·have hc := wP hy.1 hy.2 q.1 q.2
    have hg := tR (n := y) (d := rs[i].Every) (by omega)
    simp only [Bool.not_true, Bool.false_eq_true, if_false, Option.bind_some, Bool.and_self, if_true]
    rw [xX (by omega) (by omega) (by omega), Option.bind_some, gB (by omega), Int.tdiv_eq_ediv_of_nonneg (by omega), aW (x := y / _) (by omega) (by omega), aW (by omega) (by omega)]
    by_cases c : 2000 < y / (Int.gcd y rs[i].Every : Int) * rs[i].Every
    ·rw [if_pos c, if_pos c]; rfl
    ·rw [if_neg c, if_neg c]; rfl
  ·rw [Bool.not_eq_true] at c1
   rw [c1]; rfl
 ·split at e
  ·rename_i hr
   have hq := rG.1 hr
   have hc := wP hy.1 hy.2 hq.1.1 hq.1.2
   split at e
   ·cases e
   ·injection e with e; injection e with e; omega
  ·cases e
theorem aC0 {xs : List bO} {m : bO} (hl : xs.length ≤ 9223372036854775807) : bV xs m = some (xs.any fun n => decide (n.Name = m.Name)) := by
 unfold bV cT
 rw [aPw (fun n => decide (n.Name = m.Name)) hl fun i hi => by rw [eE hi, Option.bind_some, iR, Option.bind_some], Option.bind_some, aFd]
theorem jT {c : aB} (hm : c.Months.length ≤ 9223372036854775807) (hr : c.Rules.length ≤ 9223372036854775807) : fD c = some (nJ c) := by
 unfold fD nJ
 simp only [xF, fB, Option.bind_some, itO]
 simp only [aWi (p := (_ : Int) < _), itO, Option.bind_some]
 by_cases h : lV c.Name = true ∧ (1 ≤ c.Months.length ∧ c.Months.length ≤ 20) ∧ c.Rules.length ≤ 6 ∧ btw c.Week 1 12 = true
 ·obtain ⟨h1, h2, h3, h4⟩ := h
  rw [h1, h4, decide_eq_false (show ¬ (c.Months.length : Int) < 1 by omega), decide_eq_false (show ¬ 20 < (c.Months.length : Int) by omega), decide_eq_false (show ¬ 6 < (c.Rules.length : Int) by omega), decide_eq_true h2, decide_eq_true h3, if_neg (by decide),
   sR (e := .inr false) (fun i m => aOq m && !((c.Months.take i).any fun n => decide (n.Name = m.Name))) hm fun i hi => ?_, Option.bind_some,
   sR (e := .inr false) (fun _ r => nI r) hr fun i hi => ?_, Option.bind_some, lO]
  ·by_cases h5 : c.Rules.all nI = true
   ·rw [aCh hr h5, Option.bind_some, h5]
    unfold aBs
    cases aGw c.Months (fun i m => aOq m && !((c.Months.take i).any fun n => decide (n.Name = m.Name))) <;> rfl
   ·rw [Bool.not_eq_true] at h5
    rw [h5]
    unfold aBs
    cases aGw c.Months (fun i m => aOq m && !((c.Months.take i).any fun n => decide (n.Name = m.Name))) <;> rfl
  ·rw [eE hi]
   simp only [Option.bind_some]
   by_cases q : btw c.Rules[i].Every 1 1000 = true
   ·have := of_decide_eq_true q
    unfold nI
    rw [q, aW (by omega) (by omega)]
    cases btw c.Rules[i].Rest 0 (c.Rules[i].Every - 1) <;> rfl
   ·rw [Bool.not_eq_true] at q
    unfold nI
    rw [q]; rfl
  ·rw [eE hi]
   simp only [Option.bind_some]
   rw [gB (aI2 (by omega)), aOk, aC0 (by rw [List.length_take]; omega), Option.bind_some]
   unfold aOq
   cases lV c.Months[i].Name <;> cases btw c.Months[i].Days 1 60 <;> cases btw c.Months[i].Leap 1 60 <;> cases ((c.Months.take i).any fun n => decide (n.Name = c.Months[i].Name)) <;> rfl
 ·have e : (!lV c.Name || (decide ((c.Months.length : Int) < 1) || (decide (20 < (c.Months.length : Int)) || (decide (6 < (c.Rules.length : Int)) || !btw c.Week 1 12)))) = true := by
   simp only [Bool.or_eq_true, Bool.not_eq_true', decide_eq_true_eq]
   by_cases h1 : lV c.Name = true
   ·by_cases h2 : 1 ≤ c.Months.length ∧ c.Months.length ≤ 20
    ·by_cases h3 : c.Rules.length ≤ 6
     ·have h4 : ¬ btw c.Week 1 12 = true := fun h4 => h ⟨h1, h2, h3, h4⟩
      simp [h4]
     ·omega
    ·omega
   ·simp [h1]
  rw [e, if_pos rfl]
  congr 1
  symm
  rw [← Bool.not_eq_true]
  simp only [Bool.and_eq_true, decide_eq_true_eq]
  rintro ⟨h1, h2, h3, h4, _⟩
  exact h ⟨h1, h2, h3, h4⟩
theorem aD5 {xs : List bO} (hl : xs.length ≤ 9223372036854775807) : mP xs = some (aBs xs && decide (1 ≤ xs.length ∧ xs.length ≤ 20)) := by
 unfold mP
 rw [sR (e := .inr false) (fun i m => aOq m && !((xs.take i).any fun n => decide (n.Name = m.Name))) hl fun i hi => ?_, Option.bind_some]
 ·have e : btw (xs.length : Int) 1 20 = decide (1 ≤ xs.length ∧ xs.length ≤ 20) := by unfold btw; rw [decide_eq_decide]; omega
  rw [eC, e]
  unfold aBs
  cases aGw xs (fun i m => aOq m && !((xs.take i).any fun n => decide (n.Name = m.Name))) <;> rfl
 ·simp only [eE hi, qY, eC, Option.bind_some, itO]
  rw [aTa (xs := xs) i (fun _ (b : bO) => !decide (b.Name = xs[i].Name)) (by omega) (by omega) fun j hj _ => by
   rw [eE hj, Option.bind_some]
   by_cases q : xs[j].Name = xs[i].Name
   ·rw [if_pos q, decide_eq_true q]; rfl
   ·rw [if_neg q, decide_eq_false q]; rfl, lO]
  have e : ((xs.take i).all fun b => !decide (b.Name = xs[i].Name)) = !((xs.take i).any fun b => decide (b.Name = xs[i].Name)) := by rw [Bool.eq_iff_iff]; simp
  rw [e]
  unfold aOq
  cases lV xs[i].Name <;> cases btw xs[i].Days 1 60 <;> cases btw xs[i].Leap 1 60 <;> cases ((xs.take i).any fun n => decide (n.Name = xs[i].Name)) <;> rfl
theorem sS {c : aB} (hm : c.Months.length ≤ 9223372036854775807) (hr : c.Rules.length ≤ 9223372036854775807) : mT c = some (nJ c) := by
 unfold mT nJ
 rw [zD hr, Option.bind_some]
 simp only [qY, aD5 hm, eC, Option.bind_some, itA]
 by_cases h : c.Rules.all nI = true ∧ cyc c.Rules ≤ 2000
 ·rw [if_pos h, h.1, decide_eq_true h.2]
  cases lV c.Name <;> cases aBs c.Months <;> cases btw c.Week 1 12 <;> cases decide (1 ≤ c.Months.length ∧ c.Months.length ≤ 20) <;> cases decide (c.Rules.length ≤ 6) <;> rfl
 ·rw [if_neg h]
  have e : (c.Rules.all nI && decide (cyc c.Rules ≤ 2000)) = false := by
   rw [← Bool.not_eq_true, Bool.and_eq_true, decide_eq_true_eq]; exact h
  rw [e]
  cases lV c.Name <;> cases aBs c.Months <;> cases btw c.Week 1 12 <;> cases decide (1 ≤ c.Months.length ∧ c.Months.length ≤ 20) <;> cases decide (c.Rules.length ≤ 6) <;> rfl
def aDu (xs : List Int) : Bool := xs.all (fun n => btw n 1 60) && decide (1 ≤ xs.length ∧ xs.length ≤ 260)
theorem uC {xs : List Int} (hl : xs.length ≤ 9223372036854775807) : kD xs = some (aDu xs) := by
 unfold kD aDu
 rw [sR (fun _ v => btw v 1 60) hl fun i hi => by rw [eE hi, Option.bind_some, fB, Option.bind_some]; cases btw xs[i] 1 60 <;> rfl, lO, Option.bind_some, aUm]
 have e : (decide (1 ≤ (xs.length : Int)) && decide ((xs.length : Int) ≤ 260)) = decide (1 ≤ xs.length ∧ xs.length ≤ 260) := by rw [← Bool.decide_and, decide_eq_decide]; omega
 rw [e]
 exact aK8 rfl
theorem aAj {xs : List Int} (hl : xs.length ≤ 9223372036854775807) : qP xs = some (aDu xs) := by
 unfold qP aDu
 rw [sR (fun _ v => btw v 1 60) hl fun i hi => by rw [eE hi, Option.bind_some, eC, Option.bind_some]; cases btw xs[i] 1 60 <;> rfl, lO, Option.bind_some, eC, Option.bind_some]
 have e : btw (xs.length : Int) 1 260 = decide (1 ≤ xs.length ∧ xs.length ≤ 260) := by unfold btw; rw [decide_eq_decide]; omega
 rw [e]
 exact aK8 rfl
end Go.Proofs.YtgcdbbidmfdonaaGreat
namespace Go.Proofs.YtgcdbbidmfdonaaGreat
set_option linter.unusedVariables false
def smS (x : ByteArray) : Prop := x.size ≤ 1048576
def smL {α : Type} (sm : α → Prop) (xs : List α) : Prop := xs.length ≤ 1048576 ∧ ∀ m ∈ xs, sm m
end Go.Proofs.YtgcdbbidmfdonaaGreat
namespace Go.Proofs.YtgcdbbidmfdonaaGreat
open Go.RowKit
set_option linter.unusedVariables false
set_option maxRecDepth 100000
set_option maxHeartbeats 2000000
def aQm (x : cQ) : Prop := smS x.Name ∧ (smL (fun _ => True)) x.Wheels
def aR1 (x : cH) : Prop := (fun _ => True) x.A ∧ (fun _ => True) x.WheelA ∧ (fun _ => True) x.B ∧ (fun _ => True) x.WheelB
def yX (x : bE) : Prop := (smL aQm) x.Arbors ∧ (smL aR1) x.Meshes
def aPq (x : bO) : Prop := smS x.Name ∧ (fun _ => True) x.Days ∧ (fun _ => True) x.Leap
def aJh (x : aY) : Prop := (fun _ => True) x.Every ∧ (fun _ => True) x.Rest ∧ (fun _ => True) x.Leap
def tO (x : aB) : Prop := smS x.Name ∧ (smL aPq) x.Months ∧ (smL aJh) x.Rules ∧ (fun _ => True) x.Week
def gI (x : aU) : Prop := smS x.Name ∧ yX x.Works ∧ (fun _ => True) x.Minute ∧ (fun _ => True) x.Hour ∧ (fun _ => True) x.Escape ∧ (fun _ => True) x.Teeth ∧ (fun _ => True) x.Beats ∧ tO x.Calendar ∧ (smL (fun _ => True)) x.Cam ∧ (fun _ => True) x.Strike
def aR6 (x : cA) : Prop := (fun _ => True) x.Year ∧ (fun _ => True) x.Month ∧ (fun _ => True) x.Day
def aH6 (x : aH) : Prop := (smL (fun _ => True)) x.Cam ∧ (fun _ => True) x.Months ∧ (fun _ => True) x.Teeth ∧ (fun _ => True) x.At ∧ (fun _ => True) x.Day ∧ (fun _ => True) x.Week ∧ (fun _ => True) x.Weekday
def mI (x : dM) : Prop := gI x.Movement ∧ aR6 x.Start ∧ (fun _ => True) x.First ∧ (fun _ => True) x.Clock ∧ aH6 x.Dial
end Go.Proofs.YtgcdbbidmfdonaaGreat
namespace Go.Proofs.YtgcdbbidmfdonaaGreat
set_option linter.unusedVariables false
def xM (w : bE) (k : Int) : Bool := decide (0 ≤ k ∧ k < w.Arbors.length)
def vY (m : aU) : Bool := lV m.Name && (aAp m.Works && (xM m.Works m.Minute && (xM m.Works m.Hour && (xM m.Works m.Escape && (hZ m.Teeth && (btw m.Beats 1 36000 && (nJ m.Calendar && (aDu m.Cam && btw m.Strike 0 2))))))))
theorem smW {w : bE} (h : yX w) : w.Arbors.length ≤ 9223372036854775807 ∧ (∀ b ∈ w.Arbors, b.Wheels.length ≤ 9223372036854775807) ∧ w.Meshes.length ≤ 9223372036854775807 := by
 have h1 := h.1.1
 have h2 := h.2.1
 exact ⟨by omega, fun b hb => by have := (h.1.2 b hb).2.1; omega, by omega⟩
theorem aHc {w : bE} (hl : w.Arbors.length ≤ 9223372036854775807) (k : Int) : lY w k = some (xM w k) := by
 unfold lY; rw [fB, Option.bind_some, tA hl]; rfl
theorem aBa {w : bE} (hl : w.Arbors.length ≤ 9223372036854775807) (k : Int) : kC w k = some (xM w k) := by
 unfold kC; rw [eC, Option.bind_some, tA hl]; rfl
theorem rN {m : aU} (h : gI m) : gG m = some (vY m) := by
 obtain ⟨_, h2, _, _, _, _, _, h8, h9, _⟩ := h
 obtain ⟨w1, w2, w3⟩ := smW h2
 have c1 := h8.2.1.1
 have c2 := h8.2.2.1.1
 have c3 := h9.1
 unfold gG vY
 simp only [aHc w1, aA9, fB, xF, uU w1 w2 w3, jT (c := m.Calendar) (by omega) (by omega), uC (xs := m.Cam) (by omega), Option.bind_some, itA]
 congr 1
 ac_rfl
theorem aEo {m : aU} (h : gI m) : sW m = some (vY m) := by
 obtain ⟨_, h2, _, _, _, _, _, h8, h9, _⟩ := h
 obtain ⟨w1, w2, w3⟩ := smW h2
 have c1 := h8.2.1.1
 have c2 := h8.2.2.1.1
 have c3 := h9.1
 unfold sW vY
 simp only [aBa w1, mX, eC, qY, aMh w1 w2 w3, sS (c := m.Calendar) (by omega) (by omega), aAj (xs := m.Cam) (by omega), Option.bind_some, itA, itO, itF, Bool.not_or, Bool.not_not]
 congr 1
 ac_rfl
end Go.Proofs.YtgcdbbidmfdonaaGreat
namespace Go.Proofs.YtgcdbbidmfdonaaGreat
set_option linter.unusedVariables false
theorem aVz {xs ys : List Int} {step : Int → Option (Int ⊕ (Unit ⊕ Bool))} (h : xs.length = ys.length) (hl : xs.length ≤ 9223372036854775807) :
  ((cO (S := Int) (X := Unit ⊕ Bool) (fun s => (if s < (xs.length : Int) then ((atI xs s).bind fun u => ((atI ys s).bind fun v => (if u ≠ v then some (.inr (.inr false)) else some (.inl (w64 (s + 1)))))) else some (.inr (.inl ())))) 0 : Option (Unit ⊕ Bool)).bind fun x => orE x fun _ => some true) = some (decide (xs = ys)) := by
 rw [sR (xs := xs) (e := .inr false) (fun i u => decide (some u = ys[i]?)) hl fun i hi => ?_, Option.bind_some]
 ·have e : aGw xs (fun i u => decide (some u = ys[i]?)) = decide (xs = ys) := by
   rw [Bool.eq_iff_iff, tV, decide_eq_true_eq]
   constructor
   ·intro q
    refine List.ext_getElem? fun i => ?_
    by_cases hi : i < xs.length
    ·rw [List.getElem?_eq_getElem hi]
     exact of_decide_eq_true (q i hi)
    ·rw [List.getElem?_eq_none (by omega), List.getElem?_eq_none (by omega)]
   ·rintro rfl i hi
    rw [List.getElem?_eq_getElem hi]
    exact decide_eq_true rfl
  rw [e]
  cases decide (xs = ys) <;> rfl
 ·have hj : i < ys.length := by omega
  rw [eE hi, Option.bind_some, eE hj, Option.bind_some, List.getElem?_eq_getElem hj]
  by_cases q : xs[i] = ys[i] <;> simp [q]
theorem aRg {xs ys : List Int} (h : ¬ xs.length = ys.length) : decide (xs = ys) = false := decide_eq_false fun e => h (e ▸ rfl)
theorem aVb {xs ys : List Int} (hl : xs.length ≤ 9223372036854775807) : eL xs ys = some (decide (xs = ys)) := by
 unfold eL
 by_cases h : xs.length = ys.length
 ·rw [if_neg (by omega)]
  exact aVz (step := fun _ => none) h hl
 ·rw [if_pos (by omega), aRg h]
theorem aVa {xs ys : List Int} (hl : xs.length ≤ 9223372036854775807) : hP xs ys = some (decide (xs = ys)) := by
 unfold hP
 by_cases h : xs.length = ys.length
 ·rw [if_neg (by omega)]
  exact aVz (step := fun _ => none) h hl
 ·rw [if_pos (by omega), aRg h]
def aSf (y : Int) (b : Bool) (r : aY) : Bool := if y % r.Every = r.Rest then r.Leap else b
def jB (c : aB) (y : Int) : Bool := c.Rules.foldl (aSf y) false
theorem eK {c : aB} (h : nJ c = true) : lV c.Name = true ∧ (1 ≤ c.Months.length ∧ c.Months.length ≤ 20) ∧ c.Rules.length ≤ 6 ∧ (1 ≤ c.Week ∧ c.Week ≤ 12) ∧ aBs c.Months = true ∧ c.Rules.all nI = true ∧ cyc c.Rules ≤ 2000 := by
 unfold nJ at h
 simp only [Bool.and_eq_true, decide_eq_true_eq] at h
 exact ⟨h.1, h.2.1, h.2.2.1, of_decide_eq_true h.2.2.2.1, h.2.2.2.2.1, h.2.2.2.2.2.1, h.2.2.2.2.2.2⟩
theorem aHb {c : aB} (h : nJ c = true) {y : Int} (y0 : 0 ≤ y) {step : Bool × Int → Option ((Bool × Int) ⊕ Bool)} (hS : ∀ (i : Nat) (hi : i < c.Rules.length) b, c.Rules[i].Every ≠ 0 → step (b, (i : Int)) = some (.inl ((if y.tmod c.Rules[i].Every = c.Rules[i].Rest then c.Rules[i].Leap else b), w64 ((i : Int) + 1)))) (hE : ∀ b, step (b, (c.Rules.length : Int)) = some (.inr b)) :
  cO step (false, 0) = some (jB c y) := by
 obtain ⟨_, _, hr, _, _, hb, _⟩ := eK h
 have := wI (xs := c.Rules) (step := step) (fun i b => (b, i)) (fun _ r b => some (.inl (aSf y b r))) id (by omega) (fun i hi b => by
  have hq := rG.1 ((List.all_eq_true.1 hb) _ (List.getElem_mem hi))
  rw [hS i hi b (by omega), aW (by omega) (by omega), Int.tmod_eq_emod_of_nonneg y0]; rfl) (fun b => hE b) false
 rw [this, rC (aSf y) (fun _ _ _ => rfl)]; rfl
theorem rF {c : aB} (h : nJ c = true) {y : Int} (y0 : 0 ≤ y) : jJ c y = some (jB c y) := by
 unfold jJ
 rw [aHb h y0 (fun i hi b he => by
  have hi' : (i : Int) < c.Rules.length := by omega
  simp only [if_pos hi', eE hi, Option.bind_some, gB he]
  split <;> rfl) (fun b => by simp)]; rfl
theorem aA4 {c : aB} (h : nJ c = true) {y : Int} (y0 : 0 ≤ y) : nT c y = some (jB c y) := by
 unfold nT
 rw [aHb h y0 (fun i hi b he => by
  have hi' : (i : Int) < c.Rules.length := by omega
  simp only [if_pos hi', eE hi, Option.bind_some, gB he]
  split <;> rfl) (fun b => by simp)]; rfl
def aCl (c : aB) (k : Int) : bO := c.Months.getD k.toNat ⟨⟨#[]⟩, 0, 0⟩
def tD (c : aB) (leap : Bool) (k : Int) : Int := if leap = true then (aCl c k).Leap else (aCl c k).Days
theorem tW {c : aB} {k : Int} (h0 : 0 ≤ k) (h1 : k < c.Months.length) : atI c.Months k = some (aCl c k) ∧ aCl c k ∈ c.Months := by
 obtain ⟨e, he, hm, hg⟩ := oM h0 h1
 have : aCl c k = e := by unfold aCl; rw [List.getD_eq_getElem?_getD, hg]; rfl
 rw [this]; exact ⟨he, hm⟩
theorem aIn {c : aB} (h : nJ c = true) {m : bO} (hm : m ∈ c.Months) : (1 ≤ m.Days ∧ m.Days ≤ 60) ∧ 1 ≤ m.Leap ∧ m.Leap ≤ 60 := by
 obtain ⟨_, _, _, _, hb, _⟩ := eK h
 obtain ⟨i, hi, rfl⟩ := List.getElem_of_mem hm
 have := tV.1 hb i hi
 unfold aOq btw at this
 simp only [Bool.and_eq_true, decide_eq_true_eq] at this
 exact ⟨this.1.2.1, this.1.2.2⟩
theorem sG {c : aB} (h : nJ c = true) (l : Bool) {k : Int} (h0 : 0 ≤ k) (h1 : k < c.Months.length) : 1 ≤ tD c l k ∧ tD c l k ≤ 60 := by
 have := aIn h (tW h0 h1).2
 unfold tD
 cases l <;> simp <;> omega
theorem pU {c : aB} (h : nJ c = true) (l : Bool) {m : Int} (h0 : 1 ≤ m) (h1 : m ≤ c.Months.length) : eW c l m = some (tD c l (m - 1)) := by
 have hc := (eK h).2.1.2
 unfold eW tD
 rw [aW (by omega) (by omega), (tW (c := c) (k := m - 1) (by omega) (by omega)).1]
 cases l <;> rfl
theorem rX {c : aB} (h : nJ c = true) {y : Int} (y0 : 0 ≤ y) {k : Int} (h0 : 0 ≤ k) (h1 : k < c.Months.length) : jX c y k = some (tD c (jB c y) k) := by
 unfold jX tD
 rw [aA4 h y0, Option.bind_some, (tW h0 h1).1]
 cases jB c y <;> rfl
def lQ (c : aB) (d : cA) : Bool := btw d.Year 0 9999 && (btw d.Month 1 c.Months.length && btw d.Day 1 (tD c (jB c d.Year) (d.Month - 1)))
theorem wY {c : aB} (hm : c.Months.length ≤ 9223372036854775807) (hr : c.Rules.length ≤ 9223372036854775807) (d : cA) : kO c d = some (nJ c && lQ c d) := by
 unfold kO lQ
 rw [jT hm hr, Option.bind_some]
 cases h : nJ c
 ·rfl
 ·unfold wG tQ
  simp only [fB, Option.bind_some]
  cases hy : btw d.Year 0 9999
  ·rfl
  ·cases hmo : btw d.Month 1 (c.Months.length : Int)
   ·rfl
   ·have hy := of_decide_eq_true hy
    have hmo := of_decide_eq_true hmo
    simp only [if_true]
    rw [rF h hy.1, Option.bind_some, pU h _ hmo.1 hmo.2]; rfl
theorem aLz {c : aB} (h : nJ c = true) (d : cA) : uQ c d = some (lQ c d) := by
 unfold uQ lQ tF
 simp only [eC, Option.bind_some]
 cases hy : btw d.Year 0 9999
 ·rfl
 ·cases hmo : btw d.Month 1 (c.Months.length : Int)
  ·rfl
  ·have hy := of_decide_eq_true hy
   have hmo := of_decide_eq_true hmo
   have hc := (eK h).2.1.2
   simp only [Bool.not_true, Bool.false_eq_true, if_false, Option.bind_some]
   rw [aW (by omega) (by omega), rX h hy.1 (by omega) (by omega)]; rfl
theorem oE {xs : List Int} (h : aDu xs = true) : (∀ v ∈ xs, 1 ≤ v ∧ v ≤ 60) ∧ 1 ≤ xs.length ∧ xs.length ≤ 260 := by
 unfold aDu at h
 simp only [Bool.and_eq_true, decide_eq_true_eq, List.all_eq_true] at h
 exact ⟨fun v hv => of_decide_eq_true (h.1 v hv), h.2⟩
def xZ (c : aB) (cam : List Int) : Int := if (nJ c && aDu cam) = true then (if (cam.length : Int) % c.Months.length = 0 then 0 else 6) else 1
theorem pS {c : aB} {cam : List Int} (h : xZ c cam = 0) : nJ c = true ∧ aDu cam = true ∧ (cam.length : Int) % c.Months.length = 0 ∧ 1 ≤ (cam.length : Int) / c.Months.length ∧ (cam.length : Int) / c.Months.length ≤ 260 := by
 unfold xZ at h
 split at h
 ·rename_i h1
  rw [Bool.and_eq_true] at h1
  split at h
  ·rename_i h2
   have a := (eK h1.1).2.1
   have b := (oE h1.2).2
   have e := Int.emod_add_mul_ediv (cam.length : Int) c.Months.length
   have q := uR (a := (cam.length : Int)) (g := (c.Months.length : Int)) (by omega) (by omega)
   refine ⟨h1.1, h1.2, h2, ?_, by omega⟩
   rcases Int.lt_or_le 0 ((cam.length : Int) / c.Months.length) with h | h
   ·omega
   ·have : (cam.length : Int) / c.Months.length = 0 := by omega
    rw [this, h2] at e
    omega
  ·cases h
 ·cases h
theorem vC {c : aB} {cam : List Int} (h1 : 1 ≤ c.Months.length) (h2 : cam.length ≤ 9223372036854775807) : kE c cam = some (if (cam.length : Int) % c.Months.length = 0 then (cam.length : Int) / c.Months.length else 0) := by
 unfold kE
 have q := uR (a := (cam.length : Int)) (g := (c.Months.length : Int)) (by omega) (by omega)
 rw [gB (by omega), Int.tmod_eq_emod_of_nonneg (by omega), gB (by omega), Int.tdiv_eq_ediv_of_nonneg (by omega), aW (by omega) (by omega)]
 by_cases h : (cam.length : Int) % c.Months.length = 0
 ·rw [if_neg (by simp [h]), if_pos h]
 ·rw [if_pos h, if_neg h]
theorem aFy {c : aB} {cam : List Int} (hm : c.Months.length ≤ 9223372036854775807) (hr : c.Rules.length ≤ 9223372036854775807) (hl : cam.length ≤ 9223372036854775807) : pJ c cam = some (xZ c cam) := by
 unfold pJ
 simp only [jT hm hr, uC hl, Option.bind_some, itO]
 cases h1 : nJ c
 ·unfold xZ; rw [h1]; rfl
 ·cases h2 : aDu cam
  ·unfold xZ; rw [h1, h2]; rfl
  ·have a := (eK h1).2.1
   simp only [Bool.not_true, Bool.or_self, Bool.false_eq_true, if_false]
   rw [vC a.1 hl, Option.bind_some]
   unfold xZ
   rw [h1, h2]
   by_cases h : (cam.length : Int) % c.Months.length = 0
   ·have h0 : xZ c cam = 0 := by unfold xZ; rw [h1, h2, if_pos (show (true && true) = true from rfl), if_pos h]
    have := pS h0
    rw [if_pos h, if_neg (by omega), if_pos (show (true && true) = true from rfl), if_pos h]
   ·rw [if_neg h, if_pos rfl, if_pos (show (true && true) = true from rfl), if_neg h]
theorem aCr {c : aB} {cam : List Int} (hm : c.Months.length ≤ 9223372036854775807) (hr : c.Rules.length ≤ 9223372036854775807) (hl : cam.length ≤ 9223372036854775807) : nM c cam = some (xZ c cam) := by
 unfold nM xZ
 simp only [sS hm hr, aAj hl, Option.bind_some, itO]
 cases h1 : nJ c
 ·rfl
 ·cases h2 : aDu cam
  ·rfl
  ·have a := (eK h1).2.1
   simp only [Bool.not_true, Bool.or_self, Bool.false_eq_true, if_false, Bool.and_self, if_true]
   rw [gB (by omega), Int.tmod_eq_emod_of_nonneg (by omega)]
   by_cases h : (cam.length : Int) % c.Months.length = 0
   ·rw [if_neg (by simp [h]), if_pos h]
   ·rw [if_pos h, if_neg h]
def aMm (xs : List Int) : Int := xs.foldl max 0
def sV (t : Int) (m : bO) : Int := max (max t m.Days) m.Leap
def yQ (c : aB) (cam : List Int) : Int := c.Months.foldl sV (aMm cam)
theorem vH {xs : List Int} : ∀ {a : Int}, a ≤ xs.foldl max a ∧ (∀ v ∈ xs, v ≤ xs.foldl max a) ∧ (xs.foldl max a = a ∨ xs.foldl max a ∈ xs) := by
 induction xs with
 | nil => intro a; exact ⟨Int.le_refl _, fun v hv => by simp at hv, .inl rfl⟩
 | cons x xs ih =>
  intro a
  obtain ⟨h1, h2, h3⟩ := ih (a := max a x)
  rw [List.foldl_cons]
  refine ⟨by omega, fun v hv => ?_, ?_⟩
  ·rcases List.mem_cons.1 hv with rfl | hv
   ·omega
   ·exact h2 v hv
  ·rcases h3 with h3 | h3
   ·rw [h3]
    rcases Int.le_total a x with h | h
    ·rw [Int.max_eq_right h]; exact .inr (List.mem_cons_self ..)
    ·rw [Int.max_eq_left h]; exact .inl rfl
   ·exact .inr (List.mem_cons_of_mem _ h3)
theorem aS1 {xs : List Int} {t : Int} (h0 : 0 ≤ t) : decide (t < aMm xs) = !(xs.all fun v => decide (v ≤ t)) := by
 obtain ⟨h1, h2, h3⟩ := vH (xs := xs) (a := 0)
 rw [Bool.eq_iff_iff, decide_eq_true_eq, Bool.not_eq_true', ← Bool.not_eq_true, List.all_eq_true]
 unfold aMm
 constructor
 ·intro h q
  rcases h3 with h3 | h3
  ·omega
  ·have := of_decide_eq_true (q _ h3); omega
 ·intro q
  refine Classical.byContradiction fun hn => q fun v hv => decide_eq_true ?_
  have := h2 v hv
  omega
theorem aLg {xs : List Int} (h1 : 1 ≤ xs.length) (h2 : xs.length ≤ 9223372036854775807) (h3 : ∀ v ∈ xs, 0 ≤ v) : eF xs = some (aMm xs) := by
 unfold eF aMm
 rw [if_neg (by omega), Option.bind_some]
 cases xs with
 | nil => simp at h1
 | cons x xs =>
  have e0 : atI (x :: xs) 0 = some x := by rw [show (0 : Int) = ((0 : Nat) : Int) from rfl, aI3]; rfl
  have hx := h3 x (List.mem_cons_self ..)
  have hq : cO (S := Int × Int) (X := Int) (fun s5 => (if s5.2 < ((x :: xs).length : Int) then ((atI (x :: xs) s5.2).bind fun v6 => some (.inl (max s5.1 v6, w64 (s5.2 + 1)))) else some (.inr s5.1))) (x, 1) = some (xs.foldl max x) := by
   have := wI (xs := xs) (step := fun (s5 : Int × Int) => (if s5.2 < ((x :: xs).length : Int) then ((atI (x :: xs) s5.2).bind fun v6 => some (.inl (max s5.1 v6, w64 (s5.2 + 1)))) else some (.inr s5.1))) (fun i (s : Int) => (s, i + 1)) (fun _ v s => some (.inl (max s v))) id (by simp at h2; omega) (fun i hi s => by
    simp only [List.length_cons] at h2
    have hi' : (i : Int) + 1 < ((x :: xs).length : Int) := by simp; omega
    have ea : atI (x :: xs) ((i : Int) + 1) = some xs[i] := by
     rw [show (i : Int) + 1 = ((i + 1 : Nat) : Int) by omega, aI3, List.getElem?_cons_succ, List.getElem?_eq_getElem hi]
    simp only [if_pos hi', ea, Option.bind_some, aW (x := (i : Int) + 1 + 1) (by omega) (by omega)]; rfl) (fun s => by simp) x
   rw [rC max (fun _ _ _ => rfl)] at this
   exact this
  rw [e0, Option.bind_some, hq, List.foldl_cons, Int.max_eq_right hx]; rfl
theorem aCc (a b : Int) : jE a b = some (max a b) := by
 unfold jE
 split
 ·congr 1; omega
 ·congr 1; omega
def aAd (c : aB) (cam : List Int) (d : cA) (wd : Int) : aH × Int :=
 if xZ c cam = 0 then (if (lQ c d && btw wd 1 c.Week) = true then (⟨cam, c.Months.length, yQ c cam, w64 ((w64 ((w64 ((d.Year.tmod ((cam.length : Int) / c.Months.length)) * (c.Months.length : Int))) + d.Month)) - 1), d.Day, c.Week, wd⟩, 0) else (⟨[], 0, 0, 0, 0, 0, 0⟩, 2)) else (⟨[], 0, 0, 0, 0, 0, 0⟩, xZ c cam)
theorem aFw {xs : List Int} (hl : xs.length ≤ 1048576) : cM xs = some xs := by
 unfold cM
 rw [gB (by simp; omega), List.nil_append]
theorem zN {xs : List Int} (hl : xs.length ≤ 1048576) : jG xs = some xs := by
 unfold jG
 rw [gB (by simp; omega), List.nil_append]
theorem sT {c : aB} {cam : List Int} (hm : c.Months.length ≤ 9223372036854775807) (hr : c.Rules.length ≤ 9223372036854775807) (hl : cam.length ≤ 1048576) (d : cA) (wd : Int) : gP c cam d wd = some (aAd c cam d wd) := by
 unfold gP aAd
 rw [aFy hm hr (by omega), Option.bind_some]
 by_cases h : xZ c cam = 0
 ·obtain ⟨h1, h2, h3, h4, h5⟩ := pS h
  have a := (eK h1).2.1
  have b := oE h2
  rw [if_neg (by simp [h]), if_pos h, wY hm hr, h1]
  simp only [Option.bind_some, Bool.true_and, fB, itO]
  cases hd : lQ c d
  ·rfl
  ·cases hw : btw wd 1 c.Week
   ·rfl
   ·simp only [Bool.not_true, Bool.or_self, Bool.false_eq_true, if_false, Bool.and_self, if_true]
    have hq := wI (xs := c.Months) (step := fun (s8 : Int × Int) => (if s8.2 < (c.Months.length : Int) then ((atI c.Months s8.2).bind fun v9 => some (.inl (max (max s8.1 v9.Days) v9.Leap, w64 (s8.2 + 1)))) else some (.inr s8.1))) (fun i (s : Int) => (s, i)) (fun _ m s => some (.inl (sV s m))) id hm (fun i hi s => by
     have hi' : (i : Int) < c.Months.length := by omega
     simp only [if_pos hi', eE hi, Option.bind_some, aW (x := (i : Int) + 1) (by omega) (by omega)]; rfl) (fun s => by simp) (aMm cam)
    rw [rC sV (fun _ _ _ => rfl)] at hq
    rw [aLg b.2.1 (by omega) (fun v hv => by have := b.1 v hv; omega), Option.bind_some, hq]
    simp only [Option.map_some, Option.bind_some, aFw hl, vC a.1 (show cam.length ≤ 9223372036854775807 by omega), if_pos h3]
    rw [gB (by omega)]; rfl
 ·rw [if_pos h, if_neg h]
theorem nV {c : aB} {cam : List Int} (hm : c.Months.length ≤ 9223372036854775807) (hr : c.Rules.length ≤ 9223372036854775807) (hl : cam.length ≤ 1048576) (d : cA) (wd : Int) : iV c cam d wd = some (aAd c cam d wd) := by
 unfold iV aAd
 rw [aCr hm hr (by omega), Option.bind_some]
 by_cases h : xZ c cam = 0
 ·obtain ⟨h1, h2, h3, h4, h5⟩ := pS h
  have a := (eK h1).2.1
  rw [if_neg (by simp [h]), if_pos h, aLz h1]
  simp only [Option.bind_some, eC, itO]
  cases hd : lQ c d
  ·rfl
  ·cases hw : btw wd 1 c.Week
   ·rfl
   ·simp only [Bool.not_true, Bool.or_self, Bool.false_eq_true, if_false, Bool.and_self, if_true]
    have hk : w64 ((cam.length : Int).tdiv (c.Months.length : Int)) = (cam.length : Int) / c.Months.length := by rw [Int.tdiv_eq_ediv_of_nonneg (by omega), aW (by omega) (by omega)]
    have hq1 := wI (xs := cam) (step := fun (s11 : Int × Int) => (if s11.1 < (cam.length : Int) then ((atI cam s11.1).bind fun v12 => ((jE s11.2 v12).bind fun v13 => some (.inl (w64 (s11.1 + 1), v13)))) else some (.inr s11.2))) (fun i (s : Int) => (i, s)) (fun _ v s => some (.inl (max s v))) id (by omega) (fun i hi s => by
     have hi' : (i : Int) < cam.length := by omega
     simp only [if_pos hi', eE hi, Option.bind_some, aCc, aW (x := (i : Int) + 1) (by omega) (by omega)]; rfl) (fun s => by simp) 0
    rw [rC max (fun _ _ _ => rfl)] at hq1
    have hq2 := wI (xs := c.Months) (step := fun (s20 : Int × Int) => (if s20.1 < (c.Months.length : Int) then ((atI c.Months s20.1).bind fun v21 => ((atI c.Months s20.1).bind fun v22 => ((jE v21.Days v22.Leap).bind fun v23 => ((jE s20.2 v23).bind fun v24 => some (.inl (w64 (s20.1 + 1), v24)))))) else some (.inr s20.2))) (fun i (s : Int) => (i, s)) (fun _ m s => some (.inl (sV s m))) id hm (fun i hi s => by
     have hi' : (i : Int) < c.Months.length := by omega
     have e : max s (max c.Months[i].Days c.Months[i].Leap) = sV s c.Months[i] := by unfold sV; omega
     simp only [if_pos hi', eE hi, Option.bind_some, aCc, e, aW (x := (i : Int) + 1) (by omega) (by omega)]; rfl) (fun s => by simp) (aMm cam)
    rw [rC sV (fun _ _ _ => rfl)] at hq2
    rw [zN hl, Option.bind_some, hk, gB (by omega), gB (by omega), hq1]
    simp only [Option.map_some, Option.bind_some]
    have e0 : Sum.elim id id (Sum.inl (cam.foldl max 0) : Int ⊕ Int) = aMm cam := rfl
    rw [e0, hq2]; rfl
 ·rw [if_pos h, if_neg h]
def aDt (p : aH) : Bool := aDu p.Cam && (decide (1 ≤ p.Months) && (decide ((p.Cam.length : Int) % p.Months = 0) && (decide (p.Teeth ≤ 60) && ((p.Cam.all fun v => decide (v ≤ p.Teeth)) && (decide (0 ≤ p.At ∧ p.At < p.Cam.length) && (btw p.Day 1 p.Teeth && (btw p.Week 1 12 && btw p.Weekday 1 p.Week)))))))
theorem aPk {p : aH} (h : aDu p.Cam = true) (t0 : p.Teeth < 1) : (p.Cam.all fun v => decide (v ≤ p.Teeth)) = false := by
 rw [← Bool.not_eq_true, List.all_eq_true]
 intro q
 obtain ⟨h1, h2, h3⟩ := oE h
 cases hc : p.Cam with
 | nil => rw [hc] at h2; simp at h2
 | cons x xs =>
  have hx : x ∈ p.Cam := by rw [hc]; exact List.mem_cons_self ..
  have := of_decide_eq_true (q x hx)
  have := h1 x hx
  omega
theorem xY {p : aH} (hl : p.Cam.length ≤ 9223372036854775807) : gT p = some (aDt p) := by
 unfold gT aDt
 rw [uC hl, Option.bind_some]
 cases h1 : aDu p.Cam
 ·rfl
 ·have b := oE h1
  simp only [Bool.not_true, Bool.false_eq_true, if_false, Bool.true_and]
  by_cases h2 : 1 ≤ p.Months
  ·rw [if_neg (by omega), gB (by omega), Option.bind_some, Int.tmod_eq_emod_of_nonneg (by omega), decide_eq_true h2, Bool.true_and]
   by_cases h3 : (p.Cam.length : Int) % p.Months = 0
   ·rw [decide_eq_false (by simp [h3]), if_neg (by decide), decide_eq_true h3, Bool.true_and]
    by_cases h4 : p.Teeth ≤ 60
    ·rw [if_neg (by omega), decide_eq_true h4, Bool.true_and, aLg b.2.1 hl (fun v hv => by have := b.1 v hv; omega), Option.bind_some, Option.bind_some]
     by_cases h5 : p.Teeth < 1
     ·have hx : p.Teeth < aMm p.Cam := by
       obtain ⟨q1, q2, q3⟩ := vH (xs := p.Cam) (a := 0)
       cases hc : p.Cam with
       | nil => rw [hc] at b; simp at b
       | cons x xs =>
        have hx : x ∈ p.Cam := by rw [hc]; exact List.mem_cons_self ..
        have := b.1 x hx
        have := q2 x hx
        rw [← hc]
        unfold aMm; omega
      rw [decide_eq_true hx, if_pos rfl, aPk h1 h5]; rfl
     ·rw [aS1 (by omega)]
      cases (p.Cam.all fun v => decide (v ≤ p.Teeth))
      ·rfl
      ·simp only [Bool.not_true, Bool.false_eq_true, if_false, fB, Option.bind_some, itA, tA hl, Bool.true_and]
    ·rw [if_pos (by omega), Option.bind_some, if_pos rfl, decide_eq_false h4]; rfl
   ·rw [decide_eq_true h3, if_pos rfl, decide_eq_false h3]; rfl
  ·rw [if_pos (by omega), Option.bind_some, if_pos rfl, decide_eq_false h2]; rfl
theorem wO {p : aH} (hl : p.Cam.length ≤ 9223372036854775807) : pE p = some (aDt p) := by
 unfold pE aDt
 rw [aAj hl, Option.bind_some]
 cases h1 : aDu p.Cam
 ·rfl
 ·simp only [Bool.not_true, Bool.false_eq_true, if_false, Bool.true_and]
  by_cases h2 : 1 ≤ p.Months
  ·rw [if_neg (by omega), gB (by omega), Int.tmod_eq_emod_of_nonneg (by omega), decide_eq_true h2, Bool.true_and]
   by_cases h3 : (p.Cam.length : Int) % p.Months = 0
   ·rw [if_neg (by simp [h3]), eC, decide_eq_true h3, Bool.true_and, Option.bind_some, Option.bind_some]
    by_cases h4 : p.Teeth ≤ 60
    ·by_cases h5 : p.Teeth < 1
     ·have e : btw p.Teeth 1 60 = false := decide_eq_false (by omega)
      rw [e, aPk h1 h5, decide_eq_true h4]; rfl
     ·have e : btw p.Teeth 1 60 = true := decide_eq_true (by omega)
      rw [e, decide_eq_true h4, Bool.not_true, if_neg (by decide), Bool.true_and,
       sR (xs := p.Cam) (e := .inr false) (fun _ v => decide (v ≤ p.Teeth)) hl fun i hi => ?_, lO, Option.bind_some]
      ·cases (p.Cam.all fun v => decide (v ≤ p.Teeth))
       ·rfl
       ·simp only [if_true, orE, eC, Option.bind_some, itA, tA hl, Bool.true_and]
      ·rw [eE hi, Option.bind_some]
       by_cases q : p.Cam[i] ≤ p.Teeth
       ·rw [if_neg (by omega), decide_eq_true q]; rfl
       ·rw [if_pos (by omega), decide_eq_false q]; rfl
    ·have e : btw p.Teeth 1 60 = false := decide_eq_false (by omega)
     rw [e, decide_eq_false h4]; rfl
   ·rw [if_pos h3, decide_eq_false h3]; rfl
  ·rw [if_pos (by omega), decide_eq_false h2]; rfl
end Go.Proofs.YtgcdbbidmfdonaaGreat
namespace Go.Proofs.YtgcdbbidmfdonaaGreat
set_option linter.unusedVariables false
def aAb (g : Nat → Int) : Nat → Int
 | 0 => 0
 | n + 1 => aAb g n + g n
theorem aF1 (g : Nat → Int) : ∀ (n : Nat) (a : Int), (List.range n).foldl (fun s k => s + g k) a = a + aAb g n
 | 0, a => by simp [aAb]
 | n + 1, a => by rw [List.range_succ, List.foldl_append, aF1 g n]; simp only [List.foldl_cons, List.foldl_nil, aAb]; omega
theorem aJ1 {g : Nat → Int} {lo hi : Int} {n : Nat} (h : ∀ k, k < n → lo ≤ g k ∧ g k ≤ hi) : lo * n ≤ aAb g n ∧ aAb g n ≤ hi * n := by
 induction n with
 | zero => simp [aAb]
 | succ n ih =>
  have h1 := ih fun k hk => h k (by omega)
  have h2 := h n (by omega)
  have e1 : lo * ((n + 1 : Nat) : Int) = lo * n + lo := by push_cast; rw [Int.mul_add]; omega
  have e2 : hi * ((n + 1 : Nat) : Int) = hi * n + hi := by push_cast; rw [Int.mul_add]; omega
  rw [e1, e2]
  unfold aAb
  omega
theorem aLc (g : Nat → Int) (m : Nat) : ∀ n, aAb g (m + n) = aAb g m + aAb (fun k => g (m + k)) n
 | 0 => by simp [aAb]
 | n + 1 => by
  show aAb g (m + n) + g (m + n) = _
  rw [aLc g m n]
  simp only [aAb]; omega
theorem aIi {g : Nat → Int} (h : ∀ k, 0 ≤ g k) {m n : Nat} (hm : m ≤ n) : aAb g m ≤ aAb g n := by
 obtain ⟨k, rfl⟩ : ∃ k, n = m + k := ⟨n - m, by omega⟩
 rw [aLc]
 have := (aJ1 (g := fun k => g (m + k)) (lo := 0) (hi := 0 + 1) (n := 0) fun k hk => by omega)
 have h2 : ∀ j, 0 ≤ aAb (fun k => g (m + k)) j := fun j => by
  induction j with
  | zero => simp [aAb]
  | succ j ih => have := h (m + j); simp only [aAb]; omega
 have := h2 k
 omega
def aKt (c : aB) (l : Bool) : Int := aAb (fun k => tD c l (k : Int)) c.Months.length
def aEd (c : aB) (y : Nat) : Int := aKt c (jB c y)
def bef (c : aB) (y : Nat) : Int := aAb (aEd c) y
theorem aSl {c : aB} (h : nJ c = true) (l : Bool) (k : Nat) : 0 ≤ tD c l k := by
 by_cases hk : k < c.Months.length
 ·have := sG h l (k := k) (by omega) (by omega); omega
 ·unfold tD aCl
  rw [List.getD_eq_getElem?_getD, List.getElem?_eq_none (by simpa using hk)]
  cases l <;> simp
theorem aSq {c : aB} (h : nJ c = true) (l : Bool) : 1 ≤ aKt c l ∧ aKt c l ≤ 1200 := by
 have hc := (eK h).2.1
 have := aJ1 (g := fun k => tD c l (k : Int)) (lo := 1) (hi := 60) (n := c.Months.length) fun k hk => sG h l (by omega) (by omega)
 unfold aKt
 omega
theorem xS {c : aB} (h : nJ c = true) (y : Nat) : 1 ≤ aEd c y ∧ aEd c y ≤ 1200 := aSq h _
theorem aDe {c : aB} (h : nJ c = true) (y : Nat) : (y : Int) ≤ bef c y ∧ bef c y ≤ 1200 * y := by
 have := aJ1 (g := aEd c) (lo := 1) (hi := 1200) (n := y) fun k _ => xS h k
 unfold bef
 omega
theorem aGh {c : aB} (h : nJ c = true) {m n : Nat} (hm : m ≤ n) : bef c m ≤ bef c n := aIi (fun k => by have := (xS h k).1; omega) hm
theorem aKm (c : aB) (y : Nat) : bef c (y + 1) = bef c y + aEd c y := rfl
theorem aR3 {rs : List aY} : ∀ {y : Int}, 1 ≤ y → y ≤ 2000 → rs.all nI = true → rs.foldl aEh y ≤ 2000 → y ∣ rs.foldl aEh y ∧ (∀ r ∈ rs, r.Every ∣ rs.foldl aEh y) ∧ 1 ≤ rs.foldl aEh y := by
 induction rs with
 | nil => intro y h0 h1 _ _; exact ⟨Int.dvd_refl _, fun r hr => by simp at hr, h0⟩
 | cons r rs ih =>
  intro y h0 h1 hb hc
  rw [List.all_cons, Bool.and_eq_true] at hb
  rw [List.foldl_cons] at hc ⊢
  have hq := rG.1 hb.1
  have hs := wP h0 h1 hq.1.1 hq.1.2
  have e : aEh y r = y / (Int.gcd y r.Every : Int) * r.Every := by unfold aEh; rw [if_pos h1]
  rw [e] at hc ⊢
  have hle : y / (Int.gcd y r.Every : Int) * r.Every ≤ 2000 := by
   refine Classical.byContradiction fun hn => ?_
   rw [aLb (Int.not_le.1 hn)] at hc
   exact hn hc
  obtain ⟨d1, d2, d3⟩ := ih hs.2.2.1 hle hb.2 hc
  have hy : y ∣ y / (Int.gcd y r.Every : Int) * r.Every := by
   obtain ⟨a, ha⟩ : (Int.gcd y r.Every : Int) ∣ y := Int.gcd_dvd_left ..
   obtain ⟨b, hb⟩ : (Int.gcd y r.Every : Int) ∣ r.Every := Int.gcd_dvd_right ..
   have hg := tR (n := y) (d := r.Every) (by omega)
   refine ⟨b, ?_⟩
   have hg0 : (Int.gcd y r.Every : Int) ≠ 0 := by omega
   generalize (Int.gcd y r.Every : Int) = g at *
   have e1 : y / g = a := by rw [ha]; exact Int.mul_ediv_cancel_left a hg0
   rw [e1, hb, ha]
   grind
  refine ⟨Int.dvd_trans hy d1, fun r' hr' => ?_, d3⟩
  rcases List.mem_cons.1 hr' with rfl | hr'
  ·exact Int.dvd_trans (Int.dvd_mul_left ..) d1
  ·exact d2 r' hr'
def aS5 (c : aB) : Nat := (cyc c.Rules).toNat
theorem aSo {c : aB} (h : nJ c = true) : (aS5 c : Int) = cyc c.Rules ∧ 1 ≤ aS5 c ∧ aS5 c ≤ 2000 ∧ ∀ r ∈ c.Rules, r.Every ∣ (aS5 c : Int) := by
 obtain ⟨_, _, _, _, _, hb, hc⟩ := eK h
 obtain ⟨_, d2, d3⟩ := aR3 (y := 1) (by omega) (by omega) hb hc
 have e : (aS5 c : Int) = cyc c.Rules := by unfold aS5; have : 1 ≤ cyc c.Rules := d3; omega
 refine ⟨e, ?_, ?_, fun r hr => by rw [e]; exact d2 r hr⟩
 ·have : 1 ≤ cyc c.Rules := d3; omega
 ·omega
theorem uE {c : aB} (h : nJ c = true) : iD c = some (aKt c false, aKt c true) := by
 have hc := (eK h).2.1
 unfold iD
 rw [aNb (fun i (s : Int × Int) => (s.1, s.2, i)) 0 c.Months.length (fun k s => (s.1 + tD c false k, s.2 + tD c true k)) id (fun i s => 0 ≤ s.1 ∧ s.1 ≤ 60 * i ∧ 0 ≤ s.2 ∧ s.2 ≤ 60 * i) (by omega) (fun i s hi hs => ?_) (fun i s hi hs => ?_) (fun s hs => by simp) (0, 0) ⟨by simp, by simp, by simp, by simp⟩]
 ·have : ∀ (n : Nat) (a b : Int), (List.range n).foldl (fun (s : Int × Int) (k : Nat) => (s.1 + tD c false (k : Int), s.2 + tD c true (k : Int))) (a, b) = (a + aAb (fun k => tD c false (k : Int)) n, b + aAb (fun k => tD c true (k : Int)) n) := by
   intro n
   induction n with
   | zero => intro a b; simp [aAb]
   | succ n ih =>
    intro a b
    rw [List.range_succ, List.foldl_append, ih]
    simp only [List.foldl_cons, List.foldl_nil, aAb]
    congr 1 <;> omega
  rw [this]
  simp [aKt]
 ·have hi' : (i : Int) < c.Months.length := by omega
  have hm := tW (c := c) (k := i) (by omega) hi'
  have hq := aIn h hm.2
  have e1 : (aCl c (i : Int)).Days = tD c false i := rfl
  have e2 : (aCl c (i : Int)).Leap = tD c true i := rfl
  simp only [Int.zero_add, if_pos hi', hm.1, Option.bind_some]
  rw [aW (by omega) (by omega), aW (by omega) (by omega), aW (by omega) (by omega), e1, e2]
  congr 3
 ·have hm := tW (c := c) (k := i) (by omega) (by omega)
  have hq := aIn h hm.2
  have e1 : (aCl c (i : Int)).Days = tD c false i := rfl
  have e2 : (aCl c (i : Int)).Leap = tD c true i := rfl
  dsimp only
  rw [← e1, ← e2]
  omega
theorem vE {c : aB} (h : nJ c = true) {y : Int} (y0 : 0 ≤ y) (y1 : y ≤ 10000) : jM c y = some (bef c y.toNat) := by
 unfold jM
 rw [uE h, Option.bind_some]
 rw [aNb (fun i (s : Int) => (s, i)) 0 y.toNat (fun k s => s + aEd c k) id (fun i s => 0 ≤ s ∧ s ≤ 1200 * i) (by omega) (fun i s hi hs => ?_) (fun i s hi hs => ?_) (fun s hs => ?_) 0 ⟨by simp, by simp⟩]
 ·rw [aF1]; simp [bef]
 ·have hi' : (i : Int) < y := by omega
  have hq := xS h i
  have e : (if jB c (i : Int) = true then some (w64 (s + aKt c true)) else some (w64 (s + aKt c false))) = some (s + aEd c i) := by
   unfold aEd at hq ⊢
   cases hl : jB c (i : Int)
   ·rw [hl] at hq; rw [if_neg (by decide), aW (by omega) (by omega)]
   ·rw [hl] at hq; rw [if_pos rfl, aW (by omega) (by omega)]
  simp only [Int.zero_add, if_pos hi', rF h (y := (i : Int)) (by omega), Option.bind_some, e]
  rw [aW (by omega) (by omega)]
  congr 3
 ·have hq := xS h i
  omega
 ·have : ¬ ((0 : Int) + (y.toNat : Int) < y) := by omega
  simp only [if_neg this]; rfl
end Go.Proofs.YtgcdbbidmfdonaaGreat
namespace Go.Proofs.YtgcdbbidmfdonaaGreat
set_option linter.unusedVariables false
theorem aC5 {a b A B : Int} (h1 : -A ≤ a) (h2 : a ≤ A) (h3 : -B ≤ b) (h4 : b ≤ B) : -(A * B) ≤ a * b ∧ a * b ≤ A * B := by
 have h : (a * b).natAbs ≤ (A * B).natAbs := by
  rw [Int.natAbs_mul, Int.natAbs_mul]
  exact Nat.mul_le_mul (by omega) (by omega)
 have hp : 0 ≤ A * B := Int.mul_nonneg (by omega) (by omega)
 generalize a * b = x at *
 generalize A * B = y at *
 omega
theorem aCk {n d : Int} (hd : d ≠ 0) (h : (mkR n d).2 = true) : aDv (mkR n d).1 = true ∧ ((mkR n d).1.Num = 0 ↔ n = 0) := by
 unfold mkR at h ⊢
 split at h
 ·cases h
 ·rename_i hc
  rw [if_neg hc]
  have hg : 0 < Int.gcd n d := tR hd
  have ea : jW n / (Int.gcd n d : Int) = ((n.natAbs / Int.gcd n d : Nat) : Int) := rfl
  have eb : jW d / (Int.gcd n d : Int) = ((d.natAbs / Int.gcd n d : Nat) : Int) := rfl
  have hco : Nat.Coprime (n.natAbs / Int.gcd n d) (d.natAbs / Int.gcd n d) := Nat.coprime_div_gcd_div_gcd hg
  have hb0 : 0 < d.natAbs / Int.gcd n d := Nat.div_pos (Nat.le_of_dvd (by omega) (Nat.gcd_dvd_right ..)) hg
  have ha0 : n.natAbs / Int.gcd n d = 0 ↔ n = 0 := by
   constructor
   ·intro h0
    have := Nat.eq_mul_of_div_eq_right (Nat.gcd_dvd_left n.natAbs d.natAbs) h0
    omega
   ·rintro rfl; simp
  rw [ea, eb] at hc ⊢
  generalize n.natAbs / Int.gcd n d = a at *
  generalize d.natAbs / Int.gcd n d = b at *
  refine ⟨aKp.2 ⟨⟨by show 1 ≤ (b : Int); omega, by show (b : Int) ≤ _; omega⟩, ?_, ?_⟩, ?_⟩
  ·dsimp only; split <;> omega
  ·dsimp only
   unfold Int.gcd
   split
   ·rw [Int.natAbs_neg, Int.natAbs_natCast, Int.natAbs_natCast]; exact hco
   ·rw [Int.natAbs_natCast, Int.natAbs_natCast]; exact hco
  ·dsimp only
   rw [← ha0]
   split <;> omega
theorem aHm {n d : Int} (hd : d ≠ 0) (n0 : -1000000000 ≤ n) (n1 : n ≤ 1000000000) (d0 : -1000000000 ≤ d) (d1 : d ≤ 1000000000) : (mkR n d).2 = true := by
 unfold mkR
 have hg := tR (n := n) hd
 have h1 := (uR (a := jW n) (g := (Int.gcd n d : Int)) (uA n) (by omega)).2
 have h2 := (uR (a := jW d) (g := (Int.gcd n d : Int)) (uA d) (by omega)).2
 have h3 : jW n ≤ 1000000000 := by unfold jW; omega
 have h4 : jW d ≤ 1000000000 := by unfold jW; omega
 rw [if_neg (by omega)]
def aPp (a b : aJ) : aJ × Bool := mkR (a.Num * b.Num) (a.Den * b.Den)
theorem wV {r : aJ} (h : aDv r = true) : 1 ≤ r.Den ∧ r.Den ≤ 1000000000 ∧ -1000000000 ≤ r.Num ∧ r.Num ≤ 1000000000 := by
 obtain ⟨⟨d0, d1⟩, ⟨n0, n1⟩, _⟩ := aKp.1 h; exact ⟨d0, d1, n0, n1⟩
theorem aN9 {a b : aJ} (ha : aDv a = true) (hb : aDv b = true) : osI (a.Num * b.Num) ∧ osI (a.Den * b.Den) ∧ a.Den * b.Den ≠ 0 := by
 obtain ⟨d0, d1, n0, n1⟩ := wV ha
 obtain ⟨e0, e1, m0, m1⟩ := wV hb
 have h1 := aC5 n0 n1 m0 m1
 have h2 := aC5 (a := a.Den) (b := b.Den) (A := 1000000000) (B := 1000000000) (by omega) d1 (by omega) e1
 have h3 : a.Den * b.Den ≠ 0 := Int.mul_ne_zero (by omega) (by omega)
 refine ⟨⟨by omega, by omega⟩, ⟨by omega, by omega⟩, h3⟩
theorem aQs {a b : aJ} (ha : aDv a = true) (hb : aDv b = true) (h : (aPp a b).2 = true) : aDv (aPp a b).1 = true ∧ ((aPp a b).1.Num = 0 ↔ a.Num * b.Num = 0) := aCk (aN9 ha hb).2.2 h
theorem aGr {a b : aJ} (ha : aDv a = true) (hb : aDv b = true) : oX a b = some (aG9 (aPp a b)) := by
 unfold oX
 obtain ⟨h1, h2, h3⟩ := aN9 ha hb
 simp only [aC1, ha, hb, Option.bind_some, Bool.not_true, Bool.false_eq_true, if_false]
 rw [aW h1.1 h1.2, aW h2.1 h2.2, wZ h1 h2, Option.bind_some]
 unfold aM7 aPp
 rw [if_neg h3]
theorem tU {a b : aJ} (ha : aDv a = true) (hb : aDv b = true) : iI a b = some (aPp a b) := by
 unfold iI
 obtain ⟨h1, h2, h3⟩ := aN9 ha hb
 rw [aW h1.1 h1.2, aW h2.1 h2.2, kG h1 h2 h3, Option.bind_some]; rfl
end Go.Proofs.YtgcdbbidmfdonaaGreat
namespace Go.Proofs.YtgcdbbidmfdonaaGreat
set_option linter.unusedVariables false
def aAe (w : bE) (a k : Int) : Int := (w.Arbors[a.toNat]?.bind fun b => b.Wheels[k.toNat]?).getD 0
def eO (w : bE) (m : cH) : dX := ⟨aAe w m.A m.WheelA, aAe w m.B m.WheelB⟩
theorem pX {w : bE} {a k : Int} (h : whB w a k = true) : 0 ≤ a ∧ a < w.Arbors.length ∧ ∃ b t, atI w.Arbors a = some b ∧ b ∈ w.Arbors ∧ atI b.Wheels k = some t ∧ t ∈ b.Wheels ∧ aAe w a k = t := by
 unfold whB at h
 rw [Bool.and_eq_true, decide_eq_true_eq] at h
 obtain ⟨h1, h2⟩ := h
 obtain ⟨b, hb, hm, hg⟩ := oM h1.1 h1.2
 rw [hg] at h2
 have h2 := of_decide_eq_true h2
 obtain ⟨t, ht, htm, htg⟩ := oM h2.1 h2.2
 exact ⟨h1.1, h1.2, b, t, hb, hm, ht, htm, by unfold aAe; rw [hg]; simp [htg]⟩
theorem iZ {w : bE} {m : cH} : rM w m = true ↔ m.A ≠ m.B ∧ whB w m.A m.WheelA = true ∧ whB w m.B m.WheelB = true := by
 unfold rM; simp only [Bool.and_eq_true, decide_eq_true_eq]
theorem lN {w : bE} : aAp w = true ↔ w.Arbors.length ≤ 16 ∧ w.Meshes.length ≤ 24 ∧ (∀ (i : Nat) (hi : i < w.Arbors.length), aE8 w.Arbors[i] = true ∧ ((w.Arbors.take i).any fun b => decide (b.Name = w.Arbors[i].Name)) = false) ∧ ∀ (i : Nat) (hi : i < w.Meshes.length), rM w w.Meshes[i] = true ∧ ((w.Meshes.take i).any fun n => qX w.Meshes[i] n) = false := by
 unfold aAp
 simp only [Bool.and_eq_true, decide_eq_true_eq, tV, Bool.not_eq_true']
theorem mV {w : bE} (h : aAp w = true) : ∀ m ∈ w.Meshes, rM w m = true := fun m hm => by
 obtain ⟨i, hi, rfl⟩ := List.getElem_of_mem hm
 exact ((lN.1 h).2.2.2 i hi).1
theorem aNj {w : bE} (h : aAp w = true) : ∀ a ∈ w.Arbors, aE8 a = true := fun m hm => by
 obtain ⟨i, hi, rfl⟩ := List.getElem_of_mem hm
 exact ((lN.1 h).2.2.1 i hi).1
theorem oJ {w : bE} (h : aAp w = true) {a k : Int} (hw : whB w a k = true) : 6 ≤ aAe w a k ∧ aAe w a k ≤ 240 := by
 obtain ⟨_, _, b, t, _, hb, _, ht, e⟩ := pX hw
 have hb := aNj h b hb
 unfold aE8 at hb
 rw [Bool.and_eq_true, List.all_eq_true] at hb
 have := hb.1 t ht
 unfold hZ btw at this
 rw [e]
 exact of_decide_eq_true this
theorem aC6 {w : bE} {m : cH} (h : rM w m = true) : mH w m = some (eO w m) := by
 obtain ⟨_, h1, h2⟩ := iZ.1 h
 obtain ⟨_, _, b, t, e1, _, e2, _, e3⟩ := pX h1
 obtain ⟨_, _, b', t', f1, _, f2, _, f3⟩ := pX h2
 unfold mH eO
 simp only [e1, e2, f1, f2, Option.bind_some, e3, f3]
theorem aAw {w : bE} {m : cH} (h : rM w m = true) : nN w m = some (eO w m) := by
 obtain ⟨_, h1, h2⟩ := iZ.1 h
 obtain ⟨_, _, b, t, e1, _, e2, _, e3⟩ := pX h1
 obtain ⟨_, _, b', t', f1, _, f2, _, f3⟩ := pX h2
 unfold nN eO
 simp only [e1, e2, f1, f2, Option.bind_some, e3, f3]
def fY (v : aJ) (t u : Int) : aJ × Bool := aPp v (mkR (-t) u).1
theorem wF {t u : Int} (t0 : 6 ≤ t) (t1 : t ≤ 240) (u0 : 6 ≤ u) (u1 : u ≤ 240) : (mkR (-t) u).2 = true ∧ aDv (mkR (-t) u).1 = true ∧ (mkR (-t) u).1.Num ≠ 0 := by
 have h := aHm (n := -t) (d := u) (by omega) (by omega) (by omega) (by omega) (by omega)
 have h2 := aCk (n := -t) (d := u) (by omega) h
 exact ⟨h, h2.1, fun e => by have := h2.2.1 e; omega⟩
def KnR (r : aJ) : Prop := aDv r = true ∧ r.Num ≠ 0
theorem KnR.den {r : aJ} (h : KnR r) : r.Den ≠ 0 := by have := wV h.1; omega
theorem iH {v : aJ} {t u : Int} (hv : KnR v) (t0 : 6 ≤ t) (t1 : t ≤ 240) (u0 : 6 ≤ u) (u1 : u ≤ 240) (h : (fY v t u).2 = true) : KnR (fY v t u).1 := by
 obtain ⟨_, h2, h3⟩ := wF t0 t1 u0 u1
 obtain ⟨h4, h5⟩ := aQs hv.1 h2 h
 exact ⟨h4, fun e => by
  rcases Int.mul_eq_zero.1 (h5.1 e) with h | h
  ·exact hv.2 h
  ·exact h3 h⟩
theorem xW {v : aJ} {t u : Int} (hv : KnR v) (t0 : 6 ≤ t) (t1 : t ≤ 240) (u0 : 6 ≤ u) (u1 : u ≤ 240) : mD v t u = some (aG9 (fY v t u)) := by
 unfold mD
 obtain ⟨h1, h2, h3⟩ := wF t0 t1 u0 u1
 rw [aW (by omega) (by omega), wZ ⟨by omega, by omega⟩ ⟨by omega, by omega⟩, Option.bind_some]
 have e : (aM7 (-t) u).1 = (mkR (-t) u).1 := by unfold aM7 aG9; rw [if_neg (by omega), if_pos h1]
 rw [e, aGr hv.1 h2]; rfl
def SpI (w : bE) (sp : List aJ) : Prop := sp.length = w.Arbors.length ∧ ∀ r ∈ sp, r = ⟨0, 0⟩ ∨ KnR r
def jV (sp : List aJ) (i : Int) : aJ := sp.getD i.toNat ⟨0, 0⟩
theorem oB {sp : List aJ} {i : Int} (h0 : 0 ≤ i) (h1 : i < sp.length) : atI sp i = some (jV sp i) ∧ jV sp i ∈ sp ∧ ∃ h : i.toNat < sp.length, sp[i.toNat] = jV sp i := by
 obtain ⟨e, he, hm, hg⟩ := oM h0 h1
 have : jV sp i = e := by unfold jV; rw [List.getD_eq_getElem?_getD, hg]; rfl
 rw [this]
 exact ⟨he, hm, (List.getElem?_eq_some_iff.1 hg)⟩
def kK (w : bE) (m : cH) (s : Bool × List aJ) : (Bool × List aJ) ⊕ Unit :=
 if decide ((jV s.2 m.A).Den = 0) = decide ((jV s.2 m.B).Den = 0) then .inl s
 else if (jV s.2 m.A).Den = 0 then (if (fY (jV s.2 m.B) (eO w m).Driven (eO w m).Driver).2 = true then .inl (true, s.2.set m.A.toNat (fY (jV s.2 m.B) (eO w m).Driven (eO w m).Driver).1) else .inr ())
 else (if (fY (jV s.2 m.A) (eO w m).Driver (eO w m).Driven).2 = true then .inl (true, s.2.set m.B.toNat (fY (jV s.2 m.A) (eO w m).Driver (eO w m).Driven).1) else .inr ())
def iS (w : bE) : List cH → Bool × List aJ → (Bool × List aJ) ⊕ Unit
 | [], s => .inl s
 | m :: ms, s => match kK w m s with
  | .inl s' => iS w ms s'
  | .inr u => .inr u
def uD (sp : List aJ) : Nat := sp.countP fun r => decide (r.Den = 0)
theorem SpI.den {w : bE} {sp : List aJ} (h : SpI w sp) {i : Int} (h0 : 0 ≤ i) (h1 : i < w.Arbors.length) (hd : (jV sp i).Den ≠ 0) : KnR (jV sp i) := by
 obtain ⟨_, hm, _⟩ := oB (sp := sp) h0 (by rw [h.1]; exact h1)
 rcases h.2 _ hm with e | e
 ·rw [e] at hd; exact absurd rfl hd
 ·exact e
theorem SpI.set {w : bE} {sp : List aJ} (h : SpI w sp) (i : Nat) {v : aJ} (hv : KnR v) : SpI w (sp.set i v) := by
 refine ⟨by rw [List.length_set]; exact h.1, fun r hr => ?_⟩
 rcases List.mem_or_eq_of_mem_set hr with hr | rfl
 ·exact h.2 r hr
 ·exact .inr hv
theorem aKn {sp : List aJ} {i : Int} (h0 : 0 ≤ i) (h1 : i < sp.length) (hd : (jV sp i).Den = 0) {v : aJ} (hv : v.Den ≠ 0) : uD (sp.set i.toNat v) < uD sp := by
 obtain ⟨_, hm, hi, e⟩ := oB h0 h1
 unfold uD
 have hp : 0 < sp.countP fun r => decide (r.Den = 0) := List.countP_pos_iff.2 ⟨_, hm, decide_eq_true hd⟩
 rw [List.countP_set hi]
 rw [e, decide_eq_true hd, decide_eq_false hv]
 simp
 omega
theorem aB2 {w : bE} (hw : aAp w = true) {m : cH} (hm : rM w m = true) {s s' : Bool × List aJ} (h : SpI w s.2) (e : kK w m s = .inl s') : SpI w s'.2 ∧ (s' = s ∨ (s'.1 = true ∧ uD s'.2 < uD s.2)) := by
 obtain ⟨_, j1, j2⟩ := iZ.1 hm
 have a := pX j1
 have b := pX j2
 have ta := oJ hw j1
 have tb := oJ hw j2
 unfold kK at e
 split at e
 ·injection e with e; subst e; exact ⟨h, .inl rfl⟩
 ·rename_i hne
  split at e
  ·rename_i hA
   have hB : (jV s.2 m.B).Den ≠ 0 := fun hB => hne (by rw [decide_eq_true hA, decide_eq_true hB])
   split at e
   ·rename_i hv
    injection e with e; subst e
    have k := iH (h.den b.1 b.2.1 hB) (t := (eO w m).Driven) (u := (eO w m).Driver) tb.1 tb.2 ta.1 ta.2 hv
    exact ⟨h.set _ k, .inr ⟨rfl, aKn a.1 (by rw [h.1]; exact a.2.1) hA k.den⟩⟩
   ·cases e
  ·rename_i hA
   have hB : (jV s.2 m.B).Den = 0 := Classical.byContradiction fun hB => hne (by rw [decide_eq_false hA, decide_eq_false hB])
   split at e
   ·rename_i hv
    injection e with e; subst e
    have k := iH (h.den a.1 a.2.1 hA) (t := (eO w m).Driver) (u := (eO w m).Driven) ta.1 ta.2 tb.1 tb.2 hv
    exact ⟨h.set _ k, .inr ⟨rfl, aKn b.1 (by rw [h.1]; exact b.2.1) hB k.den⟩⟩
   ·cases e
theorem vB {w : bE} (hw : aAp w = true) : ∀ {ms : List cH} (hm : ∀ m ∈ ms, rM w m = true) {s s' : Bool × List aJ} (h : SpI w s.2) (e : iS w ms s = .inl s'), SpI w s'.2 ∧ uD s'.2 ≤ uD s.2 ∧ (s'.1 = true → s.1 = true ∨ uD s'.2 < uD s.2)
 | [], hm, s, s', h, e => by
  injection e with e; subst e
  exact ⟨h, Nat.le_refl _, fun h => .inl h⟩
 | m :: ms, hm, s, s', h, e => by
  unfold iS at e
  cases e1 : kK w m s with
  | inr u => rw [e1] at e; cases e
  | inl s1 =>
   rw [e1] at e
   obtain ⟨h1, h2⟩ := aB2 hw (hm m (List.mem_cons_self ..)) h e1
   obtain ⟨h3, h4, h5⟩ := vB hw (fun m hm' => hm m (List.mem_cons_of_mem _ hm')) h1 e
   refine ⟨h3, ?_, fun ht => ?_⟩
   ·rcases h2 with rfl | h2 <;> omega
   ·rcases h2 with rfl | h2
    ·exact h5 ht
    ·right; omega
theorem aEq {w : bE} {X : Type} {g : Unit → X} {body : Nat → cH → Bool × List aJ → Option ((Bool × List aJ) ⊕ X)} (hb : ∀ i m s, body i m s = some (Sum.map id g (kK w m s))) : ∀ (ms : List cH) (k : Nat) (s : Bool × List aJ), aM1 body ms k s = some (Sum.map id g (iS w ms s))
 | [], k, s => rfl
 | m :: ms, k, s => by
  show (body k m s).bind _ = _
  rw [hb, Option.bind_some]
  unfold iS
  cases kK w m s with
  | inr u => rfl
  | inl s1 => exact aEq hb ms (k + 1) s1
def hY (w : bE) : Nat → List aJ → List aJ ⊕ Unit
 | 0, sp => .inl sp
 | n + 1, sp => match iS w w.Meshes (false, sp) with
  | .inr u => .inr u
  | .inl (true, sp') => hY w n sp'
  | .inl (false, sp') => .inl sp'
theorem aDk {w : bE} (hw : aAp w = true) : ∀ {n m : Nat} {sp : List aJ}, SpI w sp → uD sp < n → uD sp < m → hY w n sp = hY w m sp
 | 0, _, _, _, h, _ => by omega
 | _ + 1, 0, _, _, _, h => by omega
 | n + 1, m + 1, sp, hs, h1, h2 => by
  unfold hY
  cases e : iS w w.Meshes (false, sp) with
  | inr u => rfl
  | inl s =>
   obtain ⟨b, sp'⟩ := s
   cases b with
   | false => rfl
   | true =>
    obtain ⟨h3, _, h5⟩ := vB hw (mV hw) (s := (false, sp)) hs e
    have h6 : uD sp' < uD sp := by
     rcases h5 rfl with h | h
     ·cases h
     ·exact h
    exact aDk hw h3 (by omega) (by omega)
def aSz (w : bE) (s : Bool × List aJ) : List aJ ⊕ Unit := if s.1 = true then hY w (uD s.2 + 1) s.2 else .inl s.2
theorem aG8 {w : bE} (hw : aAp w = true) {S X : Type} {step : S → Option (S ⊕ X)} (mk : Bool × List aJ → S) (un : S → Bool × List aJ) (hun : ∀ s, un (mk s) = s) (good : List aJ → X) (bad : List aJ → X)
  (hbad : ∀ x y, bad x = bad y)
  (hT : ∀ sp, SpI w sp → step (mk (true, sp)) = some (match iS w w.Meshes (false, sp) with
   | .inr _ => .inr (bad sp)
   | .inl s' => .inl (mk s'))) (hF : ∀ sp, SpI w sp → step (mk (false, sp)) = some (.inr (good sp))) (sp : List aJ) (h : SpI w sp) :
  cO step (mk (true, sp)) = some (match hY w (uD sp + 1) sp with
   | .inl sp' => good sp'
   | .inr _ => bad sp) := by
 refine aB5 (fun s => ∃ t : Bool × List aJ, s = mk t ∧ SpI w t.2 ∧ aSz w t = hY w (uD sp + 1) sp) (fun s => 2 * uD (un s).2 + if (un s).1 = true then 1 else 0) (fun s hI => ?_) ⟨(true, sp), rfl, h, rfl⟩ ?_
 ·obtain ⟨⟨b, q⟩, rfl, hq, e⟩ := hI
  cases b with
  | false =>
   right
   rw [hF q hq]
   have e : Sum.inl q = hY w (uD sp + 1) sp := e
   rw [← e]
  | true =>
   rw [hT q hq]
   have e : hY w (uD q + 1) q = hY w (uD sp + 1) sp := e
   unfold hY at e
   cases er : iS w w.Meshes (false, q) with
   | inr u =>
    right
    rw [er] at e
    have e : Sum.inr u = hY w (uD sp + 1) sp := by unfold hY; exact e
    rw [← e]
    simp only [hbad q sp]
   | inl s' =>
    left
    obtain ⟨h3, h4, h5⟩ := vB hw (mV hw) (s := (false, q)) hq er
    refine ⟨_, rfl, ⟨s', rfl, h3, ?_⟩, ?_⟩
    ·rw [er] at e
     obtain ⟨b, q'⟩ := s'
     cases b with
     | false => unfold hY; exact e
     | true =>
      have h6 : uD q' < uD q := by
       rcases h5 rfl with h | h
       ·cases h
       ·exact h
      have e : hY w (uD q) q' = hY w (uD sp + 1) sp := e.trans (by rw [hY])
      rw [← e]
      exact aDk hw h3 (by show uD q' < uD q' + 1; omega) h6
    ·simp only [hun]
     obtain ⟨b, q'⟩ := s'
     cases b with
     | false => dsimp only at h4 ⊢; simp; omega
     | true =>
      have h6 : uD q' < uD q := by
       rcases h5 rfl with h | h
       ·cases h
       ·exact h
      simp; omega
 ·simp only [hun]
  have : uD sp ≤ sp.length := List.countP_le_length
  have h1 := h.1
  have h2 := (lN.1 hw).1
  simp; omega
def aM8 (w : bE) (sp : List aJ) (m : cH) : Bool := (fY (jV sp m.A) (eO w m).Driver (eO w m).Driven).2 && decide ((fY (jV sp m.A) (eO w m).Driver (eO w m).Driven).1 = jV sp m.B)
def start (w : bE) (root : Int) : List aJ := (List.replicate w.Arbors.length (⟨0, 0⟩ : aJ)).set root.toNat ⟨1, 1⟩
def fT (w : bE) (root : Int) : List aJ × Int :=
 if xM w root = true then (match hY w (uD (start w root) + 1) (start w root) with
  | .inr _ => ([], 2)
  | .inl sp => if sp.any (fun r => decide (r.Den = 0)) = true then ([], 6) else if w.Meshes.all (aM8 w sp) = true then (sp, 0) else ([], 10))
 else ([], 2)
theorem yO {w : bE} (root : Int) : SpI w (start w root) := by
 refine SpI.set ⟨by simp, fun r hr => .inl (List.eq_of_mem_replicate hr)⟩ _ ⟨by decide, by decide⟩
theorem yP {w : bE} (hw : aAp w = true) : ∀ {n : Nat} {sp sp' : List aJ}, SpI w sp → hY w n sp = .inl sp' → SpI w sp'
 | 0, _, _, h, e => by injection e with e; subst e; exact h
 | n + 1, sp, sp', h, e => by
  unfold hY at e
  cases er : iS w w.Meshes (false, sp) with
  | inr u => rw [er] at e; cases e
  | inl s =>
   rw [er] at e
   obtain ⟨h3, _, _⟩ := vB hw (mV hw) (s := (false, sp)) h er
   obtain ⟨b, q⟩ := s
   cases b with
   | false => injection e with e; subst e; exact h3
   | true => exact yP hw h3 e
theorem aL1 {w : bE} (hw : aAp w = true) {root : Int} (h : (fT w root).2 = 0) : (fT w root).1.length = w.Arbors.length ∧ ∀ r ∈ (fT w root).1, KnR r := by
 unfold fT at h ⊢
 split
 ·rename_i hr
  rw [if_pos hr] at h
  cases e : hY w (uD (start w root) + 1) (start w root) with
  | inr u => rw [e] at h; cases h
  | inl sp =>
   rw [e] at h
   have hs := yP hw (yO root) e
   dsimp only at h ⊢
   split
   ·rename_i hn; rw [if_pos hn] at h; cases h
   ·rename_i hn
    rw [if_neg hn] at h
    split
    ·refine ⟨hs.1, fun r hr => ?_⟩
     rcases hs.2 r hr with rfl | h
     ·exact absurd (List.any_eq_true.2 ⟨_, hr, decide_eq_true rfl⟩) hn
     ·exact h
    ·rename_i hf; rw [if_neg hf] at h; cases h
 ·rename_i hr; rw [if_neg hr] at h; cases h
end Go.Proofs.YtgcdbbidmfdonaaGreat
namespace Go.Proofs.YtgcdbbidmfdonaaGreat
set_option linter.unusedVariables false
theorem xT (x : aJ × Bool) : (x.2 = true ∧ aG9 x = (x.1, 0)) ∨ (x.2 = false ∧ aG9 x = (⟨0, 0⟩, 2)) := by
 unfold aG9
 cases h : x.2
 ·exact .inr ⟨rfl, by simp⟩
 ·exact .inl ⟨rfl, by simp⟩
theorem vU {w : bE} {m : cH} {sp : List aJ} (hm : rM w m = true) (h : SpI w sp) : 0 ≤ m.A ∧ m.A < sp.length ∧ 0 ≤ m.B ∧ m.B < sp.length := by
 obtain ⟨_, j1, j2⟩ := iZ.1 hm
 have a := pX j1
 have b := pX j2
 rw [h.1]
 exact ⟨a.1, a.2.1, b.1, b.2.1⟩
theorem aNd {n k : Nat} (h : n ≤ 16) (hk : k ≤ 2) : 0 ≤ (n : Int) ∧ (n : Int) = (n : Int) ∧ ((n : Int)).toNat * k * 64 ≤ 281474976710656 := by
 refine ⟨by omega, rfl, ?_⟩
 have : (n : Int).toNat * k ≤ 16 * 2 := Nat.mul_le_mul (by omega) hk
 omega
theorem aMy {w : bE} (hw : aAp w = true) (sp : List aJ) (h : SpI w sp) :
  cO (S := Bool × Int × List aJ) (X := (Bool × List aJ) ⊕ ((List aJ) ⊕ (List aJ × Int))) (fun s41 =>
 (if s41.2.1 < (w.Meshes.length : Int) then
 ((((atI w.Meshes s41.2.1).bind fun v42 =>
 ((mH w v42).bind fun v43 =>
 ((((atI s41.2.2 v42.A).bind fun v44 =>
 (if v44.Den = 0 then
 some (v42.B, v42.A, (⟨v43.Driven, v43.Driver⟩ : dX))
 else
 some (v42.A, v42.B, v43))) : Option (Int × Int × dX)).bind fun v45 =>
 ((((atI s41.2.2 v45.1).bind fun v46 =>
 (if v46.Den = 0 then
 some true
 else
 ((atI s41.2.2 v45.2.1).bind fun v47 =>
 some (decide (v47.Den ≠ 0))))) : Option Bool).bind fun v48 =>
 (if v48 = true then
 some (.inl (s41.1, s41.2.2))
 else
 ((atI s41.2.2 v45.1).bind fun v49 =>
 ((mD v49 v45.2.2.Driver v45.2.2.Driven).bind fun v50 =>
 (if v50.2 ≠ 0 then
 some (.inr (.inr (.inr (.inr (([] : List aJ), v50.2)))))
 else
 ((atI s41.2.2 v45.2.1).bind fun v51 =>
 some (.inl (true, List.set s41.2.2 (v45.2.1).toNat v50.1))))))))))) : Option ((Bool × List aJ) ⊕ ((Bool × Int × List aJ) ⊕ ((Bool × List aJ) ⊕ ((List aJ) ⊕ (List aJ × Int)))))).bind fun v52x => orE v52x fun v52 =>
 some (.inl (v52.1, w64 (s41.2.1 + 1), v52.2)))
 else
 some (.inr (.inl (s41.1, s41.2.2))))) (false, 0, sp) = some (match iS w w.Meshes (false, sp) with
  | .inl s' => .inl s'
  | .inr _ => .inr (.inr ([], 2))) := by
 have hl := (lN.1 hw).2.1
 rw [zF (xs := w.Meshes) (fun i (s : Bool × List aJ) => (s.1, i, s.2)) (fun _ m s => some (Sum.map id (fun _ => .inr (.inr ([], 2))) (kK w m s))) (fun s => .inl s) (fun s => SpI w s.2) (by omega) (fun i hi s hs => ?_) (fun i hi s s' hs e => ?_) (fun s hs => by simp) (false, sp) h]
 ·rw [aEq (w := w) (X := (Bool × List aJ) ⊕ ((List aJ) ⊕ (List aJ × Int))) (g := fun _ => .inr (.inr ([], 2))) (fun _ _ _ => rfl)]
  cases iS w w.Meshes (false, sp) <;> rfl
 ·have hi' : (i : Int) < w.Meshes.length := by omega
  have e1 : w64 ((i : Int) + 1) = i + 1 := aW (by omega) (by omega)
  have hj := mV hw _ (List.getElem_mem hi)
  simp only [if_pos hi', eE hi, Option.bind_some, e1, aC6 hj]
  generalize w.Meshes[i] = m at hj
  obtain ⟨_, j1, j2⟩ := iZ.1 hj
  have ta := oJ hw j1
  have tb := oJ hw j2
  obtain ⟨a0, a1, b0, b1⟩ := vU hj hs
  obtain ⟨ga, _, _⟩ := oB a0 a1
  obtain ⟨gb, _, _⟩ := oB b0 b1
  have a1' : m.A < w.Arbors.length := by rw [← hs.1]; exact a1
  have b1' : m.B < w.Arbors.length := by rw [← hs.1]; exact b1
  unfold kK
  simp only [ga, Option.bind_some]
  by_cases dA : (jV s.2 m.A).Den = 0
  ·simp only [if_pos dA, Option.bind_some, gb]
   by_cases dB : (jV s.2 m.B).Den = 0
   ·simp only [if_pos dB, dA, dB, Option.bind_some, if_true]; rfl
   ·have k := hs.den b0 b1' dB
    simp only [if_neg dB, ga, gb, dA, dB, Option.bind_some]
    rw [xW k (t := (eO w m).Driven) (u := (eO w m).Driver) tb.1 tb.2 ta.1 ta.2]
    rcases xT (fY (jV s.2 m.B) (eO w m).Driven (eO w m).Driver) with ⟨h1, h2⟩ | ⟨h1, h2⟩ <;> simp [h1, h2, orE]
  ·simp only [if_neg dA, Option.bind_some, ga, gb]
   by_cases dB : (jV s.2 m.B).Den = 0
   ·have k := hs.den a0 a1' dA
    simp only [ga, gb, dA, dB, Option.bind_some, if_false, ne_eq, not_true_eq_false, decide_false, Bool.false_eq_true]
    rw [xW k (t := (eO w m).Driver) (u := (eO w m).Driven) ta.1 ta.2 tb.1 tb.2]
    rcases xT (fY (jV s.2 m.A) (eO w m).Driver (eO w m).Driven) with ⟨h1, h2⟩ | ⟨h1, h2⟩ <;> simp [h1, h2, orE]
   ·simp [dA, dB, orE]
 ·have e : kK w w.Meshes[i] s = .inl s' := by
   cases e2 : kK w w.Meshes[i] s with
   | inr u => rw [e2] at e; cases e
   | inl z => rw [e2] at e; injection e with e; injection e with e; rw [← e]; rfl
  exact (aB2 hw (mV hw _ (List.getElem_mem hi)) hs e).1
theorem aC2 {w : bE} (hw : aAp w = true) {root : Int} (hr : xM w root = true) : lG w root = some (match hY w (uD (start w root) + 1) (start w root) with
  | .inl sp => (sp, 0)
  | .inr _ => ([], 2)) := by
 have hl := (lN.1 hw).1
 have hr := of_decide_eq_true hr
 unfold lG
 rw [gB (aNd hl (by omega))]
 simp only [Int.toNat_natCast]
 obtain ⟨e, he, _, _⟩ := oM (xs := List.replicate w.Arbors.length (⟨0, 0⟩ : aJ)) hr.1 (by rw [List.length_replicate]; exact hr.2)
 rw [he, Option.bind_some]
 have := aG8 hw (S := Bool × List aJ) (X := (List aJ) ⊕ (List aJ × Int)) (step := fun s28 => (if s28.1 = true then cO (S := Bool × Int × List aJ) (X := (Bool × List aJ) ⊕ ((List aJ) ⊕ (List aJ × Int))) (fun s41 =>
 (if s41.2.1 < (w.Meshes.length : Int) then
 ((((atI w.Meshes s41.2.1).bind fun v42 =>
 ((mH w v42).bind fun v43 =>
 ((((atI s41.2.2 v42.A).bind fun v44 =>
 (if v44.Den = 0 then
 some (v42.B, v42.A, (⟨v43.Driven, v43.Driver⟩ : dX))
 else
 some (v42.A, v42.B, v43))) : Option (Int × Int × dX)).bind fun v45 =>
 ((((atI s41.2.2 v45.1).bind fun v46 =>
 (if v46.Den = 0 then
 some true
 else
 ((atI s41.2.2 v45.2.1).bind fun v47 =>
 some (decide (v47.Den ≠ 0))))) : Option Bool).bind fun v48 =>
 (if v48 = true then
 some (.inl (s41.1, s41.2.2))
 else
 ((atI s41.2.2 v45.1).bind fun v49 =>
 ((mD v49 v45.2.2.Driver v45.2.2.Driven).bind fun v50 =>
 (if v50.2 ≠ 0 then
 some (.inr (.inr (.inr (.inr (([] : List aJ), v50.2)))))
 else
 ((atI s41.2.2 v45.2.1).bind fun v51 =>
 some (.inl (true, List.set s41.2.2 (v45.2.1).toNat v50.1))))))))))) : Option ((Bool × List aJ) ⊕ ((Bool × Int × List aJ) ⊕ ((Bool × List aJ) ⊕ ((List aJ) ⊕ (List aJ × Int)))))).bind fun v52x => orE v52x fun v52 =>
 some (.inl (v52.1, w64 (s41.2.1 + 1), v52.2)))
 else
 some (.inr (.inl (s41.1, s41.2.2))))) (false, 0, s28.2) else some (.inr (.inl s28.2)))) (fun s => s) (fun s => s) (fun _ => rfl) (fun sp => .inl sp) (fun _ => .inr ([], 2)) (fun _ _ => rfl) (fun sp h => by
  simp only [if_true]
  rw [aMy hw sp h]
  cases iS w w.Meshes (false, sp) <;> rfl) (fun sp h => by simp) (start w root) (yO root)
 unfold start at this
 unfold start
 rw [this, Option.bind_some]
 cases hY w (uD ((List.replicate w.Arbors.length (⟨0, 0⟩ : aJ)).set root.toNat ⟨1, 1⟩) + 1) ((List.replicate w.Arbors.length (⟨0, 0⟩ : aJ)).set root.toNat ⟨1, 1⟩) <;> rfl
theorem aFs {w : bE} (hl : w.Arbors.length ≤ 9223372036854775807) (hws : ∀ b ∈ w.Arbors, b.Wheels.length ≤ 9223372036854775807) (hm : w.Meshes.length ≤ 9223372036854775807) (root : Int) : pK w root = some (if aAp w = true then fT w root else ([], 1)) := by
 unfold pK fT
 rw [uU hl hws hm, Option.bind_some]
 by_cases hw : aAp w = true
 ·have e0 : btw root 0 (w64 ((w.Arbors.length : Int) - 1)) = xM w root := tA hl
  have hml := (lN.1 hw).2.1
  rw [if_pos hw, hw, fB, e0, Option.bind_some]
  by_cases hr : xM w root = true
  ·rw [if_pos hr, hr, aC2 hw hr]
   cases e : hY w (uD (start w root) + 1) (start w root) with
   | inr u => rfl
   | inl sp =>
    have hs := yP hw (yO root) e
    have hsl := hs.1
    have hal := (lN.1 hw).1
    simp only [Bool.not_true, Bool.false_eq_true, if_false, Option.bind_some, ne_eq, not_true_eq_false]
    have hc : cD sp = some (sp.any fun r => decide (r.Den = 0)) := by
     unfold cD dC
     rw [aPw (fun r => decide (r.Den = 0)) (by omega) fun i hi => by rw [eE hi, Option.bind_some, oL, Option.bind_some], Option.bind_some, aFd]
    rw [hc, Option.bind_some]
    by_cases hn : (sp.any fun r => decide (r.Den = 0)) = true
    ·rw [if_pos hn, if_pos hn]
    ·rw [if_neg hn, if_neg hn, sR (e := .inr ([], 10)) (fun _ m => aM8 w sp m) hm fun i hi => ?_, lO, Option.bind_some]
     ·cases w.Meshes.all (aM8 w sp) <;> rfl
     ·have hj := mV hw _ (List.getElem_mem hi)
      simp only [eE hi, Option.bind_some, aC6 hj]
      generalize w.Meshes[i] = m at hj
      obtain ⟨_, j1, j2⟩ := iZ.1 hj
      have ta := oJ hw j1
      have tb := oJ hw j2
      obtain ⟨a0, a1, b0, b1⟩ := vU hj hs
      obtain ⟨ga, gm, _⟩ := oB a0 a1
      obtain ⟨gb, _, _⟩ := oB b0 b1
      have k : KnR (jV sp m.A) := by
       rcases hs.2 _ gm with e | h
       ·exact absurd (List.any_eq_true.2 ⟨_, gm, decide_eq_true (by rw [e])⟩) hn
       ·exact h
      rw [ga, Option.bind_some, xW k (t := (eO w m).Driver) (u := (eO w m).Driven) ta.1 ta.2 tb.1 tb.2, gb]
      unfold aM8
      rcases xT (fY (jV sp m.A) (eO w m).Driver (eO w m).Driven) with ⟨h1, h2⟩ | ⟨h1, h2⟩
      ·by_cases q : (fY (jV sp m.A) (eO w m).Driver (eO w m).Driven).1 = jV sp m.B <;> simp [h1, h2, q]
      ·simp [h1, h2]
  ·rw [if_neg hr, Bool.not_eq_true] at *
   rw [hr]; rfl
 ·rw [if_neg hw, Bool.not_eq_true] at *
  rw [hw]; rfl
theorem aG6 {w : bE} (hw : aAp w = true) {sp : List aJ} (hs : SpI w sp) {m : cH} (hj : rM w m = true) (k : KnR (jV sp m.A)) : qO w m sp = some (aM8 w sp m) := by
 obtain ⟨_, j1, j2⟩ := iZ.1 hj
 have ta := oJ hw j1
 have tb := oJ hw j2
 obtain ⟨a0, a1, b0, b1⟩ := vU hj hs
 obtain ⟨ga, gm, _⟩ := oB a0 a1
 obtain ⟨gb, _, _⟩ := oB b0 b1
 have hv := wF (t := (eO w m).Driver) (u := (eO w m).Driven) ta.1 ta.2 tb.1 tb.2
 have t0 : 6 ≤ (eO w m).Driver := ta.1
 have t1 : (eO w m).Driver ≤ 240 := ta.2
 have u0 : 6 ≤ (eO w m).Driven := tb.1
 have u1 : (eO w m).Driven ≤ 240 := tb.2
 unfold qO aM8 fY
 rw [aAw hj, Option.bind_some, aW (by omega) (by omega), kG ⟨by omega, by omega⟩ ⟨by omega, by omega⟩ (by omega), Option.bind_some, ga, Option.bind_some, tU k.1 hv.2.1, Option.bind_some, gb]
 cases (aPp (jV sp m.A) (mkR (-(eO w m).Driver) (eO w m).Driven).1).2 <;> simp
def kn (sp : List aJ) : List Bool := sp.map fun r => decide (r.Den ≠ 0)
theorem aTz {sp : List aJ} {i : Int} (h0 : 0 ≤ i) (h1 : i < sp.length) : atI (kn sp) i = some (decide ((jV sp i).Den ≠ 0)) := by
 obtain ⟨_, _, hi, e⟩ := oB h0 h1
 unfold atI kn
 rw [if_pos h0, List.getElem?_map, List.getElem?_eq_getElem hi, e]; rfl
theorem aN2 {sp : List aJ} {i : Nat} {v : aJ} (hv : v.Den ≠ 0) : kn (sp.set i v) = (kn sp).set i true := by
 unfold kn
 rw [List.map_set, decide_eq_true hv]
theorem aDm {w : bE} (hw : aAp w = true) {X : Type} (g : Bool × List aJ → X) : ∀ (ms : List cH) (hm : ∀ m ∈ ms, rM w m = true) (k : Nat) (s : Bool × List aJ), SpI w s.2 → ∃ f, SpI w f.2 ∧ aM1 (fun _ m s => some (match kK w m s with
  | .inl s' => .inl s'
  | .inr _ => .inr (g s))) ms k s = some (match iS w ms s with
  | .inl s' => .inl s'
  | .inr _ => .inr (g f))
 | [], _, k, s, h => ⟨s, h, rfl⟩
 | m :: ms, hm, k, s, h => by
  cases e : kK w m s with
  | inr u =>
   refine ⟨s, h, ?_⟩
   show (some (match kK w m s with
    | .inl s' => _
    | .inr _ => _)).bind _ = _
   unfold iS
   rw [e]; rfl
  | inl s1 =>
   obtain ⟨f, hf, q⟩ := aDm hw g ms (fun m h => hm m (List.mem_cons_of_mem _ h)) (k + 1) s1 (aB2 hw (hm m (List.mem_cons_self ..)) h e).1
   refine ⟨f, hf, ?_⟩
   show (some (match kK w m s with
    | .inl s' => _
    | .inr _ => _)).bind _ = _
   unfold iS
   rw [e]
   exact q
theorem aMk {w : bE} (hw : aAp w = true) (sp : List aJ) (h : SpI w sp) : ∃ f, SpI w f ∧ gR w (kn sp) sp = some (match iS w w.Meshes (false, sp) with
  | .inl s' => (s'.1, true, kn s'.2, s'.2)
  | .inr _ => (false, false, kn f, f)) := by
 have hl := (lN.1 hw).2.1
 unfold gR
 obtain ⟨f, hf, q⟩ := aDm hw (X := (Bool × List Bool × List aJ) ⊕ (Bool × Bool × List Bool × List aJ)) (fun s => .inr (false, false, kn s.2, s.2)) w.Meshes (mV hw) 0 (false, sp) h
 refine ⟨f.2, hf, ?_⟩
 rw [zF (xs := w.Meshes) (fun i (s : Bool × List aJ) => (s.1, i, kn s.2, s.2)) (fun _ m s => some (match kK w m s with
  | .inl s' => .inl s'
  | .inr _ => .inr (.inr (false, false, kn s.2, s.2)))) (fun s => .inl (s.1, kn s.2, s.2)) (fun s => SpI w s.2) (by omega) (fun i hi s hs => ?_) (fun i hi s s' hs e => ?_) (fun s hs => by simp) (false, sp) h]
 ·rw [q]
  cases iS w w.Meshes (false, sp) <;> rfl
 ·have hi' : (i : Int) < w.Meshes.length := by omega
  have e1 : w64 ((i : Int) + 1) = i + 1 := aW (by omega) (by omega)
  have hj := mV hw _ (List.getElem_mem hi)
  simp only [if_pos hi', eE hi, Option.bind_some, e1, aAw hj]
  generalize w.Meshes[i] = m at hj
  obtain ⟨_, j1, j2⟩ := iZ.1 hj
  have ta := oJ hw j1
  have tb := oJ hw j2
  have t0 : 6 ≤ (eO w m).Driver := ta.1
  have t1 : (eO w m).Driver ≤ 240 := ta.2
  have u0 : 6 ≤ (eO w m).Driven := tb.1
  have u1 : (eO w m).Driven ≤ 240 := tb.2
  obtain ⟨a0, a1, b0, b1⟩ := vU hj hs
  obtain ⟨ga, _, _⟩ := oB a0 a1
  obtain ⟨gb, _, _⟩ := oB b0 b1
  have ka := aTz a0 a1
  have kb := aTz b0 b1
  have a1' : m.A < w.Arbors.length := by rw [← hs.1]; exact a1
  have b1' : m.B < w.Arbors.length := by rw [← hs.1]; exact b1
  unfold kK
  simp only [ka, kb, Option.bind_some]
  by_cases dA : (jV s.2 m.A).Den = 0
  ·by_cases dB : (jV s.2 m.B).Den = 0
   ·simp [dA, dB, orE]
   ·have k := hs.den b0 b1' dB
    have hv := wF (t := (eO w m).Driven) (u := (eO w m).Driver) u0 u1 t0 t1
    have e2 : (decide ((jV s.2 m.A).Den ≠ 0) == decide ((jV s.2 m.B).Den ≠ 0)) = false := by simp [dA, dB]
    have e3 : decide ((jV s.2 m.A).Den = 0) ≠ decide ((jV s.2 m.B).Den = 0) := by simp [dA, dB]
    have e4 : decide ((jV s.2 m.B).Den ≠ 0) = true := by simp [dB]
    rw [e2, if_neg (by decide), if_neg e3, if_pos dA, e4, if_pos rfl]
    simp only [Option.bind_some, ga, gb, ka, kb]
    rw [aW (by omega) (by omega), kG ⟨by omega, by omega⟩ ⟨by omega, by omega⟩ (by omega)]
    simp only [Option.bind_some]
    rw [tU k.1 hv.2.1]
    have mv := iH k (t := (eO w m).Driven) (u := (eO w m).Driver) u0 u1 t0 t1
    have em : aPp (jV s.2 m.B) (mkR (-(eO w m).Driven) (eO w m).Driver).1 = fY (jV s.2 m.B) (eO w m).Driven (eO w m).Driver := rfl
    rw [em]
    cases h2 : (fY (jV s.2 m.B) (eO w m).Driven (eO w m).Driver).2
    ·simp [h2, orE]
    ·simp [h2, orE, aN2 (mv h2).den]
  ·by_cases dB : (jV s.2 m.B).Den = 0
   ·have k := hs.den a0 a1' dA
    have hv := wF (t := (eO w m).Driver) (u := (eO w m).Driven) t0 t1 u0 u1
    have e2 : (decide ((jV s.2 m.A).Den ≠ 0) == decide ((jV s.2 m.B).Den ≠ 0)) = false := by simp [dA, dB]
    have e3 : decide ((jV s.2 m.A).Den = 0) ≠ decide ((jV s.2 m.B).Den = 0) := by simp [dA, dB]
    have e4 : decide ((jV s.2 m.B).Den ≠ 0) = false := by simp [dB]
    rw [e2, if_neg (by decide), if_neg e3, if_neg dA, e4, if_neg (by decide)]
    simp only [Option.bind_some, ga, gb, ka, kb]
    rw [aW (by omega) (by omega), kG ⟨by omega, by omega⟩ ⟨by omega, by omega⟩ (by omega)]
    simp only [Option.bind_some]
    rw [tU k.1 hv.2.1]
    have mv := iH k (t := (eO w m).Driver) (u := (eO w m).Driven) t0 t1 u0 u1
    have em : aPp (jV s.2 m.A) (mkR (-(eO w m).Driver) (eO w m).Driven).1 = fY (jV s.2 m.A) (eO w m).Driver (eO w m).Driven := rfl
    rw [em]
    cases h2 : (fY (jV s.2 m.A) (eO w m).Driver (eO w m).Driven).2
    ·simp [h2, orE]
    ·simp [h2, orE, aN2 (mv h2).den]
   ·simp [dA, dB, orE]
 ·have e : kK w w.Meshes[i] s = .inl s' := by
   cases e2 : kK w w.Meshes[i] s with
   | inr u => rw [e2] at e; cases e
   | inl z => rw [e2] at e; injection e with e; injection e with e; rw [← e]
  exact (aB2 hw (mV hw _ (List.getElem_mem hi)) hs e).1
theorem aPb (sp : List aJ) : (kn sp).length = sp.length := by unfold kn; simp
theorem aDy {w : bE} (hw : aAp w = true) (root : Int) : nG w root = some (fT w root) := by
 have hal := (lN.1 hw).1
 have hml := (lN.1 hw).2.1
 unfold nG fT
 rw [aBa (by omega), Option.bind_some]
 by_cases hr : xM w root = true
 ·rw [if_pos hr, hr, if_neg (by decide), gB (aNd hal (by omega)), gB (aNd hal (by omega))]
  simp only [Int.toNat_natCast]
  have hrr := of_decide_eq_true hr
  obtain ⟨e, he, _, _⟩ := oM (xs := List.replicate w.Arbors.length (⟨0, 0⟩ : aJ)) hrr.1 (by rw [List.length_replicate]; exact hrr.2)
  obtain ⟨e', he', _, _⟩ := oM (xs := List.replicate w.Arbors.length false) hrr.1 (by rw [List.length_replicate]; exact hrr.2)
  rw [he', Option.bind_some, gY, Option.bind_some, he, Option.bind_some]
  have hk : kn (start w root) = (List.replicate w.Arbors.length false).set root.toNat true := by
   unfold start
   rw [aN2 (by decide)]
   congr 1
   unfold kn
   rw [List.map_replicate]; rfl
  have := aG8 hw (S := Bool × List Bool × List aJ) (X := (List Bool × List aJ) ⊕ (List aJ × Int)) (step := fun s11 => (if s11.1 = true then ((gR w s11.2.1 s11.2.2).bind fun v12 => (chk (v12.2.2.1.length = s11.2.1.length) (chk (v12.2.2.2.length = s11.2.2.length) (if (!v12.2.1) = true then some (.inr (.inr (([] : List aJ), 2))) else some (.inl (v12.1, v12.2.2.1, v12.2.2.2)))))) else some (.inr (.inl (s11.2.1, s11.2.2))))) (fun s => (s.1, kn s.2, s.2)) (fun s => (s.1, s.2.2)) (fun _ => rfl) (fun sp => .inl (kn sp, sp)) (fun _ => .inr ([], 2)) (fun _ _ => rfl) (fun sp h => by
   obtain ⟨f, hf, q⟩ := aMk hw sp h
   simp only [if_true, q, Option.bind_some]
   cases er : iS w w.Meshes (false, sp) with
   | inr u =>
    simp only [aPb, hf.1, h.1, aLn]
    simp
   | inl s' =>
    have h3 := (vB hw (mV hw) (s := (false, sp)) h er).1
    simp only [aPb, h3.1, h.1, aLn]
    simp) (fun sp h => by simp) (start w root) (yO root)
  rw [hk] at this
  unfold start at this
  unfold start
  rw [this, Option.bind_some]
  cases e : hY w (uD ((List.replicate w.Arbors.length (⟨0, 0⟩ : aJ)).set root.toNat ⟨1, 1⟩) + 1) ((List.replicate w.Arbors.length (⟨0, 0⟩ : aJ)).set root.toNat ⟨1, 1⟩) with
  | inr u => rfl
  | inl sp =>
   have hs := yP hw (yO root) e
   have hsl := hs.1
   show (orE (.inl (kn sp, sp)) _) = _
   simp only [orE]
   rw [sR (xs := kn sp) (e := .inr ([], 6)) (fun _ b => b) (by rw [aPb]; omega) fun i hi => by rw [eE hi, Option.bind_some]; cases (kn sp)[i] <;> rfl, lO, Option.bind_some]
   have e5 : (kn sp).all (fun b => b) = !(sp.any fun r => decide (r.Den = 0)) := by
    unfold kn
    rw [Bool.eq_iff_iff]; simp
   rw [e5]
   by_cases hn : (sp.any fun r => decide (r.Den = 0)) = true
   ·rw [hn]; rfl
   ·rw [Bool.not_eq_true] at hn
    rw [hn]
    simp only [Bool.not_false, if_true, orE]
    rw [sR (xs := w.Meshes) (e := .inr ([], 10)) (fun _ m => aM8 w sp m) (by omega) fun i hi => ?_, lO, Option.bind_some]
    ·cases w.Meshes.all (aM8 w sp) <;> rfl
    ·have hj := mV hw _ (List.getElem_mem hi)
     obtain ⟨a0, a1, b0, b1⟩ := vU hj hs
     obtain ⟨_, gm, _⟩ := oB a0 a1
     have k : KnR (jV sp w.Meshes[i].A) := by
      rcases hs.2 _ gm with e | h
      ·have q : (sp.any fun r => decide (r.Den = 0)) = true := List.any_eq_true.2 ⟨_, gm, decide_eq_true (by rw [e])⟩
       rw [hn] at q; cases q
      ·exact h
     rw [eE hi, Option.bind_some, aG6 hw hs hj k, Option.bind_some]
     cases aM8 w sp w.Meshes[i] <;> rfl
 ·rw [if_neg hr, Bool.not_eq_true] at *
  rw [hr]; rfl
end Go.Proofs.YtgcdbbidmfdonaaGreat
namespace Go.Proofs.YtgcdbbidmfdonaaGreat
set_option linter.unusedVariables false
theorem aGg {m : aU} (h : vY m = true) : aAp m.Works = true ∧ xM m.Works m.Minute = true ∧ xM m.Works m.Hour = true ∧ xM m.Works m.Escape = true := by
 unfold vY at h
 simp only [Bool.and_eq_true] at h
 exact ⟨h.2.1, h.2.2.1, h.2.2.2.1, h.2.2.2.2.1⟩
theorem wH {m : aU} {k : Int} (hw : aAp m.Works = true) (hs : (fT m.Works m.Minute).2 = 0) (hk : xM m.Works k = true) : atI (fT m.Works m.Minute).1 k = some (jV (fT m.Works m.Minute).1 k) ∧ KnR (jV (fT m.Works m.Minute).1 k) := by
 have h1 := aL1 hw hs
 have h2 := of_decide_eq_true hk
 obtain ⟨g, gm, _⟩ := oB (sp := (fT m.Works m.Minute).1) h2.1 (by rw [h1.1]; exact h2.2)
 exact ⟨g, h1.2 _ gm⟩
end Go.Proofs.YtgcdbbidmfdonaaGreat
