/- Texts of this claim, one behind the other (merged by a program of mine). -/
import Derived.Test.YtgcdbbidmfdonaaGreatProg
import Derived.Test.YtgcdbbidmfdonaaGreatGT6
set_option linter.unusedSimpArgs false
set_option linter.unusedVariables false
namespace Go.Proofs.YtgcdbbidmfdonaaGreat
open Go.RowKit
set_option linter.unusedVariables false
set_option maxRecDepth 100000
set_option maxHeartbeats 2000000
theorem sR {p0 : aC} {r : Bool} (h0 : gH p0 = some r) : FnC Tryz.prog 61 [] [.agg [dL cI p0.Cam,(dI p0.Months),(dI p0.Teeth),(dI p0.At),(dI p0.Day),(dI p0.Week),(dI p0.Weekday)]] [] (dB r) := by
 refine fi 58 tok Tryz.func61 ?_
 unfold gH at h0
 refine sq [0,1] (bxx 3 ?_)
 refine pa (nx (aG ?_))
 obtain ⟨v3,h1,h0⟩ := bnd h0
 refine bG ⟨aE (aE ((fun _ => .dead)) 1 (.ptr 3 0 1 0 0)) 20 (dB v3),lks [.no, .no, .no, .live [⟨38,7, .av [[dL cI p0.Cam,(dI p0.Months),(dI p0.Teeth),(dI p0.At),(dI p0.Day),(dI p0.Week),(dI p0.Weekday)]]⟩]]⟩ ?_ ?_
 refine sr [0,1,2,3,4,5,6,7,8,9,10,11,12,13,14,15,16,17] (fa tok ?_)
 refine ld tok ?_
 obtain ⟨v1,hv1,h1⟩ := bnd h1
 refine rS rfl (aO 4 (wQ hv1) rfl rfl rfl) (rP rfl (bO rfl) (pm ?_))
 refine dH (u := 7) h1 rfl (fun hc h1 => ?_) (fun hc h1 => ?_)
 iterate 3 refine k1 ?_
 refine pkt ?_
 refine pm ?_
 iterate 7 refine k1 ?_
 refine pkt (nx ?_)
 cases h1
 exact wk [0,1,2,3]
 refine fa1 tok ?_
 refine ld1 tok ?_
 refine rp rfl (w1 rfl rfl rfl) rfl (bX rfl rfl) (pkf ?_)
 refine pm ?_
 refine gT (u := 12) h1 rfl (fun hc h1 => ?_) (fun hc h1 => ?_)
 iterate 7 refine k1 ?_
 refine pkt (nx ?_)
 cases h1
 exact wk [0,1,2,3]
 refine fa1 tok ?_
 refine ld1 tok ?_
 refine rp rfl (w1 rfl rfl rfl) rfl (aN tok rfl rfl rfl) (fa1 tok ?_)
 refine ld1 tok ?_
 obtain ⟨hq2,h1⟩ := dM h1
 refine rp rfl (w1 rfl rfl rfl) rfl (fJ rfl rfl hq2) (rp rfl (w1 rfl rfl rfl) rfl (fA rfl rfl) (pkf (nx ?_)))
 cases h1
 exact wk [0,1,2,3]
 refine bL h0 rfl (fun hc h0 => ?_) (fun hc h0 => ?_)
 refine sq [0] (pa (nx (aD (aS ?_))))
 cases h0
 exact r0t 2 rfl
 refine sk (aG ?_)
 obtain ⟨v5,h1,h0⟩ := bnd h0
 refine bG ⟨aE (aE ((fun _ => .dead)) 1 (.ptr 3 0 1 0 0)) 31 (dB v5),lks [.no, .no, .no, .live [⟨38,7, .av [[dL cI p0.Cam,(dI p0.Months),(dI p0.Teeth),(dI p0.At),(dI p0.Day),(dI p0.Week),(dI p0.Weekday)]]⟩]]⟩ ?_ ?_
 refine aF (is := [0,1,2,3,4,5,7,8,6,9,10]) [0,1,3,7,15,31,63,15,143,511,1023] follows (by kernel_rfl) (tfa tok ?_)
 refine tld tok ?_
 refine tP rfl (eI rfl rfl) (tpm ?_)
 refine aEs (u := 24) h1 rfl (fun hc h1 => ?_) (fun hc h1 => ?_)
 iterate 6 refine k2 ?_
 refine vG ?_
 refine bE ?_
 refine ⟨by kernel_rfl,?_⟩
 refine aI ?_
 cases h1
 exact wk [0,1,2,3]
 refine bS rfl (w1 rfl rfl rfl) rfl (uL tok rfl rfl rfl rfl rfl rfl rfl) rfl rfl rfl (bS rfl (w1 rfl rfl rfl) rfl (nG tok rfl rfl rfl rfl rfl) rfl rfl rfl (bS rfl (w1 rfl rfl rfl) rfl (uL tok rfl rfl rfl rfl rfl rfl rfl) rfl rfl rfl (bS rfl (w1 rfl rfl rfl) rfl (nG tok rfl rfl rfl rfl rfl) rfl rfl rfl ?_)))
 obtain ⟨v4,hv4,h1⟩ := bnd h1
 refine jB rfl (w1 rfl rfl rfl) rfl (cP 4 (lS hv4) rfl rfl rfl) (qJ rfl (w1 rfl rfl rfl) rfl (eI rfl rfl) (tA ?_))
 refine bE ?_
 refine ⟨by kernel_rfl,?_⟩
 refine aI ?_
 cases h1
 exact wk [0,1,2,3]
 refine bL h0 rfl (fun hc h0 => ?_) (fun hc h0 => ?_)
 refine sq [0] (pa (nx (aD (aS ?_))))
 cases h0
 exact r0t 2 rfl
 refine sk (sq [0,1,2,3,4,5,6,7,8,9,10,11,12,13,14,15,16,17,18,19,20,21,22,23,24,25,26] (fa tok ?_))
 refine ld tok ?_
 refine fa tok ?_
 refine ld tok ?_
 refine rP rfl (aN tok rfl rfl rfl) (rP rfl (eM rfl rfl) ?_)
 obtain ⟨v6,hv6,h0⟩ := bnd h0
 refine rS rfl (aO 4 (dC hv6) rfl rfl rfl) (pm ?_)
 refine dH (u := 39) h0 rfl (fun hc h0 => ?_) (fun hc h0 => ?_)
 refine fa1 tok ?_
 refine ld1 tok ?_
 refine fa1 tok ?_
 refine ld1 tok ?_
 obtain ⟨v7,hv7,h0⟩ := bnd h0
 refine rs rfl (w1 rfl rfl rfl) rfl (aO 4 (dC hv7) rfl rfl rfl) (pkt ?_)
 refine pm ?_
 refine dH (u := 46) h0 rfl (fun hc h0 => ?_) (fun hc h0 => ?_)
 refine fa1 tok ?_
 refine ld1 tok ?_
 obtain ⟨v8,hv8,h0⟩ := bnd h0
 refine rs rfl (w1 rfl rfl rfl) rfl (aO 4 (dC hv8) rfl rfl rfl) (pkt ?_)
 refine pm ?_
 refine dH (u := 51) h0 rfl (fun hc h0 => ?_) (fun hc h0 => ?_)
 refine fa1 tok ?_
 refine ld1 tok ?_
 refine fa1 tok ?_
 refine ld1 tok ?_
 obtain ⟨v9,hv9,h0⟩ := bnd h0
 refine rs rfl (w1 rfl rfl rfl) rfl (aO 4 (dC hv9) rfl rfl rfl) (pkt ?_)
 refine pa (nx (aD ?_))
 cases h0
 exact r0t 2 rfl
 iterate 5 refine k1 ?_
 refine pkf ?_
 refine pa (nx (aD ?_))
 cases h0
 exact r0t 2 rfl
 iterate 3 refine k1 ?_
 refine pkf ?_
 refine pm ?_
 iterate 5 refine k1 ?_
 refine pkf ?_
 refine pa (nx (aD ?_))
 cases h0
 exact r0t 2 rfl
 iterate 5 refine k1 ?_
 refine pkf ?_
 refine pm ?_
 iterate 3 refine k1 ?_
 refine pkf ?_
 refine pm ?_
 iterate 5 refine k1 ?_
 refine pkf ?_
 refine pa (nx (aD ?_))
 cases h0
 exact r0t 2 rfl
theorem rC {p0 : List Int} {p1 : List Int} {r : Bool} (h0 : eQ p0 p1 = some r) : FnC Tryz.prog 119 [] [dL cI p0,(dL cI p1)] [] (dB r) := by
 refine fi 26 tok Tryz.func119 ?_
 unfold eQ at h0
 refine sq [0] (pa (nx (aG (sq [0,1,2,3,4] ?_))))
 refine pm ?_
 refine rP rfl (aN tok rfl rfl rfl) (pm ?_)
 refine rP rfl (aN tok rfl rfl rfl) (rP rfl (fA rfl rfl) (nx ?_))
 refine bM h0 rfl (fun hc h0 => ?_) (fun hc h0 => ?_)
 refine sq [0] (pa (nx (aD (aS ?_))))
 cases h0
 exact r0t 4 rfl
 refine sk ?_
 obtain ⟨v7x,h1,h0⟩ := bnd h0
 refine dX v7x (fun v7 => ⟨(fun _ => .dead),lks [.no, .no, .no]⟩) ?_ ?_
 refine sq [0,1,2] (pm ?_)
 refine rP rfl (aN tok rfl rfl rfl) (pm (nx (aK ?_)))
 refine bD (fun s4 => ⟨aE (aE (aE (aE ((fun _ => .dead)) 0 (dL cI p0)) 1 (dL cI p1)) 12 (dI (p0.length : Int))) 13 (dI s4),lks [.no, .no, .no]⟩) h1 ?_ (fun s4 y h2 => ?_)
 exact wk [0,1,2]
 refine sq [0] (rP rfl (bX rfl rfl) (nx (aG ?_)))
 refine bM h2 rfl (fun hc h2 => ?_) (fun hc h2 => ?_)
 refine sk (aG (aK (sq [0,1] (pm ?_))))
 refine pa (nx (aG ?_))
 refine aF (is := [0,1,2,3,4,5,6,7,8]) [0,0,3,7,0,0,48,112,255] follows (by kernel_rfl) (tpm ?_)
 refine tpm ?_
 obtain ⟨v5,hv5,h2⟩ := bnd h2
 refine tP rfl (cV tok hv5 rfl rfl rfl rfl rfl rfl) (tlr tok ?_)
 refine tpm ?_
 refine tpm ?_
 obtain ⟨v6,hv6,h2⟩ := bnd h2
 refine tP rfl (cV tok hv6 rfl rfl rfl rfl rfl rfl) (tlr tok ?_)
 refine tP rfl (fA rfl rfl) (bE ?_)
 refine ⟨by kernel_rfl,?_⟩
 refine aI ?_
 refine bM h2 rfl (fun hc h2 => ?_) (fun hc h2 => ?_)
 refine sq [0] (pa (nx (aD ?_)))
 refine bH (aS ?_)
 cases h2
 refine eV ⟨_,rfl,fun e => ?_⟩
 subst e
 refine bH ?_
 replace h0 := gG h0
 refine aS ?_
 cases h0
 exact r0t 4 rfl
 refine cU (bF (aI (sr [0,1] (rP rfl (bI rfl rfl) (pm (bB ?_))))))
 refine cA ?_
 cases h2
 refine ⟨_,rfl,?_⟩
 exact wk [0,1,2]
 refine bK (bY ?_)
 cases h2
 refine cC ⟨_,rfl,fun e => ?_⟩
 subst e
 refine aY (aI ?_)
 refine ⟨_,rfl,?_⟩
 exact wk [0,1,2]
 rintro v7 rfl
 replace h0 := iP h0
 refine sq [0] (pa (nx (aD ?_)))
 cases h0
 exact r0t 4 rfl
theorem wF {p0 : dO} {r : Bool} (h0 : gM p0 = some r) : FnC Tryz.prog 41 [] [.agg [dS p0.Movement.Name,(dL aL p0.Movement.Works.Arbors),(dL bC p0.Movement.Works.Meshes),(dI p0.Movement.Minute),(dI p0.Movement.Hour),(dI p0.Movement.Escape),(dI p0.Movement.Teeth),(dI p0.Movement.Beats),(dS p0.Movement.Calendar.Name),(dL aM p0.Movement.Calendar.Months),(dL aB p0.Movement.Calendar.Rules),(dI p0.Movement.Calendar.Week),(dL cI p0.Movement.Cam),(dI p0.Movement.Strike),(dI p0.Start.Year),(dI p0.Start.Month),(dI p0.Start.Day),(dI p0.First),(dI p0.Clock),(dL cI p0.Dial.Cam),(dI p0.Dial.Months),(dI p0.Dial.Teeth),(dI p0.Dial.At),(dI p0.Dial.Day),(dI p0.Dial.Week),(dI p0.Dial.Weekday)]] [] (dB r) := by
 refine fi 61 tok Tryz.func41 ?_
 unfold gM at h0
 refine sq [0,1] (bxx 3 ?_)
 refine pa (nx (sq [0,1,2,3,4,5,6,7,8,9,10,11,12] ?_))
 refine fa tok ?_
 refine rL rfl (aU tok rfl rfl rfl rfl) (fa tok ?_)
 refine rL rfl (aU tok rfl rfl rfl rfl) (fa tok ?_)
 refine ld tok ?_
 obtain ⟨v1,hv1,h0⟩ := bnd h0
 refine rS rfl (aO 4 (aMo hv1) rfl rfl rfl) (rP rfl (aH (r := .tup _) rfl) (rP rfl (aQ rfl rfl) (rP rfl (aQ rfl rfl) (al 11 [ze,zl,zl,z0,z0,z0,z0,z0,ze,zl,zl,z0,zl,z0,z0,z0,z0,z0,z0,zl,z0,z0,z0,z0,z0,z0] tok ?_))))
 refine bst tok ?_
 refine pa (nx (aG ?_))
 obtain ⟨v4,h1,h0⟩ := bnd h0
 refine bG ⟨aE (aE (aE ((fun _ => .dead)) 1 (.ptr 3 0 1 0 0)) 3 (.ptr 4 0 1 0 0)) 30 (dB v4),lks [.no, .no, .no, .live [⟨40,26, .av [[dS p0.Movement.Name,(dL aL p0.Movement.Works.Arbors),(dL bC p0.Movement.Works.Meshes),(dI p0.Movement.Minute),(dI p0.Movement.Hour),(dI p0.Movement.Escape),(dI p0.Movement.Teeth),(dI p0.Movement.Beats),(dS p0.Movement.Calendar.Name),(dL aM p0.Movement.Calendar.Months),(dL aB p0.Movement.Calendar.Rules),(dI p0.Movement.Calendar.Week),(dL cI p0.Movement.Cam),(dI p0.Movement.Strike),(dI p0.Start.Year),(dI p0.Start.Month),(dI p0.Start.Day),(dI p0.First),(dI p0.Clock),(dL cI p0.Dial.Cam),(dI p0.Dial.Months),(dI p0.Dial.Teeth),(dI p0.Dial.At),(dI p0.Dial.Day),(dI p0.Dial.Week),(dI p0.Dial.Weekday)]]⟩], .live [⟨40,26, .av [[dS v1.1.Movement.Name, .own 5 0 (v1.1.Movement.Works.Arbors).length, .own 6 0 (v1.1.Movement.Works.Meshes).length,(dI v1.1.Movement.Minute),(dI v1.1.Movement.Hour),(dI v1.1.Movement.Escape),(dI v1.1.Movement.Teeth),(dI v1.1.Movement.Beats),(dS v1.1.Movement.Calendar.Name), .own 7 0 (v1.1.Movement.Calendar.Months).length, .own 8 0 (v1.1.Movement.Calendar.Rules).length,(dI v1.1.Movement.Calendar.Week), .own 9 0 (v1.1.Movement.Cam).length,(dI v1.1.Movement.Strike),(dI v1.1.Start.Year),(dI v1.1.Start.Month),(dI v1.1.Start.Day),(dI v1.1.First),(dI v1.1.Clock), .own 10 0 (v1.1.Dial.Cam).length,(dI v1.1.Dial.Months),(dI v1.1.Dial.Teeth),(dI v1.1.Dial.At),(dI v1.1.Dial.Day),(dI v1.1.Dial.Week),(dI v1.1.Dial.Weekday)]]⟩], .live [⟨123,2, .av (fC 11 aL v1.1.Movement.Works.Arbors)⟩], .live [⟨125,4, .data (List.map bC v1.1.Movement.Works.Meshes)⟩], .live [⟨170,3, .data (List.map aM v1.1.Movement.Calendar.Months)⟩], .live [⟨181,3, .data (List.map aB v1.1.Movement.Calendar.Rules)⟩], .live [⟨2,1, .data (List.map cI v1.1.Movement.Cam)⟩], .live [⟨2,1, .data (List.map cI v1.1.Dial.Cam)⟩], .live (mW 2 1 aL v1.1.Movement.Works.Arbors)]⟩ ?_ ?_
 refine sr [0,1,2,3,4,5,6,7,8,9,10,11,12,13] (pm ?_)
 refine rP rfl (fA rfl rfl) (pm ?_)
 refine gT (u := 19) h1 rfl (fun hc h1 => ?_) (fun hc h1 => ?_)
 iterate 4 refine k1 ?_
 refine pkt ?_
 refine pm ?_
 iterate 4 refine k1 ?_
 refine pkt (nx ?_)
 cases h1
 exact wk [0,1,2,3,11,4,6,7,8,9,10,5]
 refine fa1 tok ?_
 refine ld1 tok ?_
 obtain ⟨v2,hv2,h1⟩ := bnd h1
 refine rs rfl (w1 rfl rfl rfl) rfl (aO 12 (dC hv2) rfl rfl rfl) (rp rfl (w1 rfl rfl rfl) rfl (bO rfl) (pkf ?_))
 refine pm ?_
 refine dH (u := 25) h1 rfl (fun hc h1 => ?_) (fun hc h1 => ?_)
 iterate 4 refine k1 ?_
 refine pkt (nx ?_)
 cases h1
 exact wk [0,1,2,3,11,4,6,7,8,9,10,5]
 refine fa1 tok ?_
 refine rl rfl (w1 rfl rfl rfl) rfl (aU tok rfl rfl rfl rfl) ?_
 obtain ⟨v3,hv3,h1⟩ := bnd h1
 refine rs rfl (w1 rfl rfl rfl) rfl (aO 12 (sR hv3) rfl rfl rfl) (rp rfl (w1 rfl rfl rfl) rfl (bO rfl) (pkf (nx ?_)))
 cases h1
 exact wk [0,1,2,3,11,4,6,7,8,9,10,5]
 refine bL h0 rfl (fun hc h0 => ?_) (fun hc h0 => ?_)
 refine sq [0] (pa (nx (aD (aS ?_))))
 cases h0
 exact r0t 2 rfl
 refine sk (aG (aF (is := [0,1,2,3,4,5,6,7]) [0,1,0,4,0,0,51,127] follows (by kernel_rfl) (tfa tok ?_)))
 refine bS rfl w0 rfl (aU tok rfl rfl rfl rfl) rfl rfl rfl (tfa tok ?_)
 refine bS rfl w0 rfl (aU tok rfl rfl rfl rfl) rfl rfl rfl (aBa rfl w0 rfl rfl (fun hx hk => jJ 12 (cs := [zl,z0,z0,z0,z0,z0,z0]) tok rfl rfl hk) (aBa rfl w0 rfl rfl (fun hx hk => jJ 13 (cs := [zl,z0,z0,z0,z0,z0,z0]) tok rfl rfl hk) (iK rfl w0 (fQ (cs := _ :: _) tok rfl rfl rfl rfl rfl rfl rfl) (iK rfl w0 (fQ (cs := _ :: _) tok rfl rfl rfl rfl rfl rfl rfl) (bE ?_)))))
 refine ⟨by kernel_rfl,?_⟩
 refine aI (sq [0,1,2,3,4,5,6,7,8,9,10,11,12,13,14,15,16,17,18,19,20,21,22,23,24,25,26] (fa tok ?_))
 refine ld tok ?_
 refine fa tok ?_
 refine ld tok ?_
 obtain ⟨v5,hv5,h0⟩ := bnd h0
 refine rS rfl (eE 14 (rC hv5) rfl rfl) (pm ?_)
 refine dH (u := 40) h0 rfl (fun hc h0 => ?_) (fun hc h0 => ?_)
 refine fa1 tok ?_
 refine ld1 tok ?_
 refine fa1 tok ?_
 refine ld1 tok ?_
 refine rp rfl (w1 rfl rfl rfl) rfl (eN rfl rfl) (pkt ?_)
 refine pm ?_
 refine gT (u := 47) h0 rfl (fun hc h0 => ?_) (fun hc h0 => ?_)
 refine fa1 tok ?_
 refine ld1 tok ?_
 refine fa1 tok ?_
 refine ld1 tok ?_
 refine rp rfl (w1 rfl rfl rfl) rfl (eN rfl rfl) (pkt ?_)
 refine pm ?_
 refine gT (u := 54) h0 rfl (fun hc h0 => ?_) (fun hc h0 => ?_)
 refine fa1 tok ?_
 refine ld1 tok ?_
 refine fa1 tok ?_
 refine ld1 tok ?_
 refine rp rfl (w1 rfl rfl rfl) rfl (eN rfl rfl) (pkt ?_)
 refine pa (nx (aD ?_))
 cases h0
 exact r0t 2 rfl
 iterate 5 refine k1 ?_
 refine pkf ?_
 refine pa (nx (aD ?_))
 cases h0
 exact r0t 2 rfl
 iterate 5 refine k1 ?_
 refine pkf ?_
 refine pm ?_
 iterate 5 refine k1 ?_
 refine pkf ?_
 refine pa (nx (aD ?_))
 cases h0
 exact r0t 2 rfl
 iterate 5 refine k1 ?_
 refine pkf ?_
 refine pm ?_
 iterate 5 refine k1 ?_
 refine pkf ?_
 refine pm ?_
 iterate 5 refine k1 ?_
 refine pkf ?_
 refine pa (nx (aD ?_))
 cases h0
 exact r0t 2 rfl
theorem aDm {p0 : aC} {r : aC} (h0 : nI p0 = some r) : FnC Tryz.prog 120 [] [.agg [dL cI p0.Cam,(dI p0.Months),(dI p0.Teeth),(dI p0.At),(dI p0.Day),(dI p0.Week),(dI p0.Weekday)]] [.live [⟨2,1, .data (List.map cI r.Cam)⟩]] (.agg [.own 0 0 r.Cam.length,(dI r.Months),(dI r.Teeth),(dI r.At),(dI r.Day),(dI r.Week),(dI r.Weekday)]) := by
 refine fi 8 tok Tryz.func120 ?_
 unfold nI at h0
 refine sq [0,1] (bxx 3 ?_)
 refine al 4 [zl,z0,z0,z0,z0,z0,z0] tok (nx (sq [0,1,2,3,4] ?_))
 refine fa tok ?_
 refine ld tok ?_
 obtain ⟨v1,hv1,h0⟩ := bnd h0
 refine rS rfl (aO 5 (fL hv1) rfl rfl rfl) (fa tok ?_)
 refine rw0 rfl w0 (fQ (cs := [.own _ _ _]) tok rfl rfl rfl rfl rfl rfl rfl) (nx (sq [0,1] (rL rfl (aU tok rfl rfl rfl rfl) (bst tok (nx (aD ?_))))))
 cases h0
 exact dJ (rs := [.cell 2 38]) [5] rfl
theorem aKt {p0 : dO} {r : dO} (h0 : kO p0 = some r) : FnC Tryz.prog 43 [] [.agg [dS p0.Movement.Name,(dL aL p0.Movement.Works.Arbors),(dL bC p0.Movement.Works.Meshes),(dI p0.Movement.Minute),(dI p0.Movement.Hour),(dI p0.Movement.Escape),(dI p0.Movement.Teeth),(dI p0.Movement.Beats),(dS p0.Movement.Calendar.Name),(dL aM p0.Movement.Calendar.Months),(dL aB p0.Movement.Calendar.Rules),(dI p0.Movement.Calendar.Week),(dL cI p0.Movement.Cam),(dI p0.Movement.Strike),(dI p0.Start.Year),(dI p0.Start.Month),(dI p0.Start.Day),(dI p0.First),(dI p0.Clock),(dL cI p0.Dial.Cam),(dI p0.Dial.Months),(dI p0.Dial.Teeth),(dI p0.Dial.At),(dI p0.Dial.Day),(dI p0.Dial.Week),(dI p0.Dial.Weekday)]] [.live [⟨123,2, .av (fC 1 aL r.Movement.Works.Arbors)⟩], .live (mW 2 1 aL r.Movement.Works.Arbors), .live [⟨125,4, .data (List.map bC r.Movement.Works.Meshes)⟩], .live [⟨170,3, .data (List.map aM r.Movement.Calendar.Months)⟩], .live [⟨181,3, .data (List.map aB r.Movement.Calendar.Rules)⟩], .live [⟨2,1, .data (List.map cI r.Movement.Cam)⟩], .live [⟨2,1, .data (List.map cI r.Dial.Cam)⟩]] (.agg [dS r.Movement.Name, .own 0 0 r.Movement.Works.Arbors.length, .own 2 0 r.Movement.Works.Meshes.length,(dI r.Movement.Minute),(dI r.Movement.Hour),(dI r.Movement.Escape),(dI r.Movement.Teeth),(dI r.Movement.Beats),(dS r.Movement.Calendar.Name), .own 3 0 r.Movement.Calendar.Months.length, .own 4 0 r.Movement.Calendar.Rules.length,(dI r.Movement.Calendar.Week), .own 5 0 r.Movement.Cam.length,(dI r.Movement.Strike),(dI r.Start.Year),(dI r.Start.Month),(dI r.Start.Day),(dI r.First),(dI r.Clock), .own 6 0 r.Dial.Cam.length,(dI r.Dial.Months),(dI r.Dial.Teeth),(dI r.Dial.At),(dI r.Dial.Day),(dI r.Dial.Week),(dI r.Dial.Weekday)]) := by
 refine fi 12 tok Tryz.func43 ?_
 unfold kO at h0
 refine sq [0,1] (bxx 3 ?_)
 refine al 4 [ze,zl,zl,z0,z0,z0,z0,z0,ze,zl,zl,z0,zl,z0,z0,z0,z0,z0,z0,zl,z0,z0,z0,z0,z0,z0] tok (nx (sq [0,1,2,3,4] ?_))
 refine fa tok ?_
 refine rL rfl (aU tok rfl rfl rfl rfl) ?_
 obtain ⟨v1,hv1,h0⟩ := bnd h0
 refine rS rfl (aO 5 (uZ hv1) rfl rfl rfl) (fa tok ?_)
 refine bst tok (nx (sq [0,1,2,3,4] ?_))
 refine fa tok ?_
 refine rL rfl (aU tok rfl rfl rfl rfl) ?_
 obtain ⟨v2,hv2,h0⟩ := bnd h0
 refine rS rfl (aO 11 (aDm hv2) rfl rfl rfl) (fa tok ?_)
 refine bst tok (nx (sq [0,1] ?_))
 refine rL rfl (aU tok rfl rfl rfl rfl) (bst tok (nx (aD ?_)))
 cases h0
 exact dJ (rs := [.cell 2 40]) [5,6,7,8,9,10,11] rfl
theorem tT {p0 : aC} {r : Int} (h0 : gP p0 = some r) : FnC Tryz.prog 121 [] [.agg [dL cI p0.Cam,(dI p0.Months),(dI p0.Teeth),(dI p0.At),(dI p0.Day),(dI p0.Week),(dI p0.Weekday)]] [] (dI r) := by
 refine fi 18 tok Tryz.func121 ?_
 unfold gP at h0
 refine sq [0,1] (bxx 3 ?_)
 refine pa (nx (aG (aG ?_)))
 refine aF (is := [0,1,2,3,4,5,6,7,8]) [0,1,0,4,0,16,60,124,255] follows (by kernel_rfl) (tfa tok ?_)
 refine tld tok ?_
 refine tfa tok ?_
 refine tld tok ?_
 refine tfa tok ?_
 refine tld tok ?_
 obtain ⟨v1,hv1,h0⟩ := bnd h0
 refine tP rfl (cV tok hv1 rfl rfl rfl rfl rfl rfl) (tlr tok ?_)
 refine tP rfl (eN rfl rfl) (bE ?_)
 refine ⟨by kernel_rfl,?_⟩
 refine aI ?_
 refine bM h0 rfl (fun hc h0 => ?_) (fun hc h0 => ?_)
 refine sq [0,1,2,3,4,5,6] (fa tok ?_)
 refine ld tok ?_
 refine rP rfl (bI rfl rfl) (fa tok ?_)
 refine ld tok ?_
 refine rP rfl (eM rfl rfl) (pa (nx (aD (aS ?_))))
 cases h0
 exact r0t 2 rfl
 refine sk (sq [0] (pa (nx (aD ?_))))
 cases h0
 exact r0t 2 rfl
theorem qZ {p0 : dO} {r : dO} (h0 : dY p0 = some r) : FnC Tryz.prog 49 [.live [⟨40,26, .av [[dS p0.Movement.Name, .own 1 0 (p0.Movement.Works.Arbors).length, .own 3 0 (p0.Movement.Works.Meshes).length,(dI p0.Movement.Minute),(dI p0.Movement.Hour),(dI p0.Movement.Escape),(dI p0.Movement.Teeth),(dI p0.Movement.Beats),(dS p0.Movement.Calendar.Name), .own 4 0 (p0.Movement.Calendar.Months).length, .own 5 0 (p0.Movement.Calendar.Rules).length,(dI p0.Movement.Calendar.Week), .own 6 0 (p0.Movement.Cam).length,(dI p0.Movement.Strike),(dI p0.Start.Year),(dI p0.Start.Month),(dI p0.Start.Day),(dI p0.First),(dI p0.Clock), .own 7 0 (p0.Dial.Cam).length,(dI p0.Dial.Months),(dI p0.Dial.Teeth),(dI p0.Dial.At),(dI p0.Dial.Day),(dI p0.Dial.Week),(dI p0.Dial.Weekday)]]⟩], .live [⟨123,2, .av (fC 2 aL p0.Movement.Works.Arbors)⟩], .live (mW 2 1 aL p0.Movement.Works.Arbors), .live [⟨125,4, .data (List.map bC p0.Movement.Works.Meshes)⟩], .live [⟨170,3, .data (List.map aM p0.Movement.Calendar.Months)⟩], .live [⟨181,3, .data (List.map aB p0.Movement.Calendar.Rules)⟩], .live [⟨2,1, .data (List.map cI p0.Movement.Cam)⟩], .live [⟨2,1, .data (List.map cI p0.Dial.Cam)⟩]] [.ptr 0 0 1 0 19] [.live [⟨40,26, .av [[dS r.Movement.Name, .own 1 0 (r.Movement.Works.Arbors).length, .own 3 0 (r.Movement.Works.Meshes).length,(dI r.Movement.Minute),(dI r.Movement.Hour),(dI r.Movement.Escape),(dI r.Movement.Teeth),(dI r.Movement.Beats),(dS r.Movement.Calendar.Name), .own 4 0 (r.Movement.Calendar.Months).length, .own 5 0 (r.Movement.Calendar.Rules).length,(dI r.Movement.Calendar.Week), .own 6 0 (r.Movement.Cam).length,(dI r.Movement.Strike),(dI r.Start.Year),(dI r.Start.Month),(dI r.Start.Day),(dI r.First),(dI r.Clock), .own 7 0 (r.Dial.Cam).length,(dI r.Dial.Months),(dI r.Dial.Teeth),(dI r.Dial.At),(dI r.Dial.Day),(dI r.Dial.Week),(dI r.Dial.Weekday)]]⟩], .live [⟨123,2, .av (fC 2 aL r.Movement.Works.Arbors)⟩], .live (mW 2 1 aL r.Movement.Works.Arbors), .live [⟨125,4, .data (List.map bC r.Movement.Works.Meshes)⟩], .live [⟨170,3, .data (List.map aM r.Movement.Calendar.Months)⟩], .live [⟨181,3, .data (List.map aB r.Movement.Calendar.Rules)⟩], .live [⟨2,1, .data (List.map cI r.Movement.Cam)⟩], .live [⟨2,1, .data (List.map cI r.Dial.Cam)⟩]] (.tup []) := by
 refine oA (L := 8) (T := tt) (N := 16) tok Tryz.func49 rfl rfl (by kernel_rfl) rfl rfl ?_
 unfold dY at h0
 refine aF (is := [0,1,2,3,4,5,6,7,8,9,10,11,12,13,14]) [0,0,2,6,14,30,0,64,192,448,960,2046,4095,8191,16383] follows (by kernel_rfl) (tP rfl (aH (r := .ptr _ _ _ _ _) rfl) (tP rfl (aH (r := .ptr _ _ _ _ _) rfl) (bS rfl w0 rfl (cW rfl rfl) rfl rfl rfl (tfa tok ?_))))
 refine tld tok ?_
 refine tP rfl (bI rfl rfl) (tP rfl (aH (r := .ptr _ _ _ _ _) rfl) (bS rfl w0 rfl (cW rfl rfl) rfl rfl rfl (tfa tok ?_)))
 refine tld tok ?_
 refine bS rfl w0 rfl (nO tok rfl rfl rfl rfl rfl) rfl rfl rfl ?_
 obtain ⟨hq1,h0⟩ := dM h0
 refine tP rfl (fJ rfl rfl hq1) (bS rfl w0 rfl (cW rfl rfl) rfl rfl rfl (tfa tok ?_))
 refine iK rfl w0 (fQ (cs := [.d _]) tok rfl rfl rfl rfl rfl rfl rfl) (bE ?_)
 refine ⟨by kernel_rfl,?_⟩
 cases h0
 exact nU (rs := []) 8 rfl rfl
theorem sA {p0 : dO} {p1 : Int} {r : dO} (h0 : eA p0 p1 = some r) : FnC Tryz.prog 48 [.live [⟨40,26, .av [[dS p0.Movement.Name, .own 1 0 (p0.Movement.Works.Arbors).length, .own 3 0 (p0.Movement.Works.Meshes).length,(dI p0.Movement.Minute),(dI p0.Movement.Hour),(dI p0.Movement.Escape),(dI p0.Movement.Teeth),(dI p0.Movement.Beats),(dS p0.Movement.Calendar.Name), .own 4 0 (p0.Movement.Calendar.Months).length, .own 5 0 (p0.Movement.Calendar.Rules).length,(dI p0.Movement.Calendar.Week), .own 6 0 (p0.Movement.Cam).length,(dI p0.Movement.Strike),(dI p0.Start.Year),(dI p0.Start.Month),(dI p0.Start.Day),(dI p0.First),(dI p0.Clock), .own 7 0 (p0.Dial.Cam).length,(dI p0.Dial.Months),(dI p0.Dial.Teeth),(dI p0.Dial.At),(dI p0.Dial.Day),(dI p0.Dial.Week),(dI p0.Dial.Weekday)]]⟩], .live [⟨123,2, .av (fC 2 aL p0.Movement.Works.Arbors)⟩], .live (mW 2 1 aL p0.Movement.Works.Arbors), .live [⟨125,4, .data (List.map bC p0.Movement.Works.Meshes)⟩], .live [⟨170,3, .data (List.map aM p0.Movement.Calendar.Months)⟩], .live [⟨181,3, .data (List.map aB p0.Movement.Calendar.Rules)⟩], .live [⟨2,1, .data (List.map cI p0.Movement.Cam)⟩], .live [⟨2,1, .data (List.map cI p0.Dial.Cam)⟩]] [.ptr 0 0 1 0 19,(dI p1)] [.live [⟨40,26, .av [[dS r.Movement.Name, .own 1 0 (r.Movement.Works.Arbors).length, .own 3 0 (r.Movement.Works.Meshes).length,(dI r.Movement.Minute),(dI r.Movement.Hour),(dI r.Movement.Escape),(dI r.Movement.Teeth),(dI r.Movement.Beats),(dS r.Movement.Calendar.Name), .own 4 0 (r.Movement.Calendar.Months).length, .own 5 0 (r.Movement.Calendar.Rules).length,(dI r.Movement.Calendar.Week), .own 6 0 (r.Movement.Cam).length,(dI r.Movement.Strike),(dI r.Start.Year),(dI r.Start.Month),(dI r.Start.Day),(dI r.First),(dI r.Clock), .own 7 0 (r.Dial.Cam).length,(dI r.Dial.Months),(dI r.Dial.Teeth),(dI r.Dial.At),(dI r.Dial.Day),(dI r.Dial.Week),(dI r.Dial.Weekday)]]⟩], .live [⟨123,2, .av (fC 2 aL r.Movement.Works.Arbors)⟩], .live (mW 2 1 aL r.Movement.Works.Arbors), .live [⟨125,4, .data (List.map bC r.Movement.Works.Meshes)⟩], .live [⟨170,3, .data (List.map aM r.Movement.Calendar.Months)⟩], .live [⟨181,3, .data (List.map aB r.Movement.Calendar.Rules)⟩], .live [⟨2,1, .data (List.map cI r.Movement.Cam)⟩], .live [⟨2,1, .data (List.map cI r.Dial.Cam)⟩]] (.tup []) := by
 refine oA (L := 8) (T := tt) (N := 34) tok Tryz.func48 rfl rfl (by kernel_rfl) rfl rfl ?_
 unfold eA at h0
 refine sq [0,1,2,3,4,5,6,7,8] (rP rfl (aH (r := .ptr _ _ _ _ _) rfl) (rL rfl (cW rfl rfl) (fa tok ?_)))
 refine ld tok ?_
 refine pm ?_
 refine rP rfl (bI rfl rfl) (rL rfl (cW rfl rfl) (fa tok ?_))
 refine bs1 tok (nx (aG ?_))
 refine aF (is := [0,1,2,3,4,5,6,7,8]) [0,1,3,7,0,16,48,112,255] follows (by kernel_rfl) (tP rfl (aH (r := .ptr _ _ _ _ _) rfl) (bS rfl w0 rfl (cW rfl rfl) rfl rfl rfl (tfa tok ?_)))
 refine tld tok ?_
 refine tP rfl (aH (r := .ptr _ _ _ _ _) rfl) (bS rfl w0 rfl (cW rfl rfl) rfl rfl rfl (tfa tok ?_))
 refine tld tok ?_
 refine tP rfl (eI rfl rfl) (bE ?_)
 refine ⟨by kernel_rfl,?_⟩
 refine aI ?_
 refine bM h0 rfl (fun hc h0 => ?_) (fun hc h0 => ?_)
 refine aG (aF (is := [0,1,2,3,4,5,6,7,8,9,10,11]) [0,1,3,7,0,16,48,112,255,511,1023,2047] follows (by kernel_rfl) (tP rfl (aH (r := .ptr _ _ _ _ _) rfl) (bS rfl w0 rfl (cW rfl rfl) rfl rfl rfl (tfa tok ?_))))
 refine tld tok ?_
 refine tP rfl (aH (r := .ptr _ _ _ _ _) rfl) (bS rfl w0 rfl (cW rfl rfl) rfl rfl rfl (tfa tok ?_))
 refine tld tok ?_
 refine tP rfl (eM rfl rfl) (bS rfl w0 rfl (cW rfl rfl) rfl rfl rfl (tfa tok ?_))
 refine iK rfl w0 (fQ (cs := [.d _]) tok rfl rfl rfl rfl rfl rfl rfl) (bE ?_)
 refine ⟨by kernel_rfl,?_⟩
 refine aI (sr [0,1] (rP rfl (aH (r := .ptr _ _ _ _ _) rfl) ?_))
 obtain ⟨v1,hv1,h0⟩ := bnd h0
 refine rw1 rfl w0 rfl (dU [0,1,2,3,4,5,6,7] 300 (qZ hv1) rfl rfl) (bB ?_)
 cases h0
 exact nU (rs := []) 8 rfl rfl
 refine cU ?_
 cases h0
 exact nU (rs := []) 8 rfl rfl
theorem qG {p0 : dO} {r : dO} (h0 : dR p0 = some r) : FnC Tryz.prog 50 [.live [⟨40,26, .av [[dS p0.Movement.Name, .own 1 0 (p0.Movement.Works.Arbors).length, .own 3 0 (p0.Movement.Works.Meshes).length,(dI p0.Movement.Minute),(dI p0.Movement.Hour),(dI p0.Movement.Escape),(dI p0.Movement.Teeth),(dI p0.Movement.Beats),(dS p0.Movement.Calendar.Name), .own 4 0 (p0.Movement.Calendar.Months).length, .own 5 0 (p0.Movement.Calendar.Rules).length,(dI p0.Movement.Calendar.Week), .own 6 0 (p0.Movement.Cam).length,(dI p0.Movement.Strike),(dI p0.Start.Year),(dI p0.Start.Month),(dI p0.Start.Day),(dI p0.First),(dI p0.Clock), .own 7 0 (p0.Dial.Cam).length,(dI p0.Dial.Months),(dI p0.Dial.Teeth),(dI p0.Dial.At),(dI p0.Dial.Day),(dI p0.Dial.Week),(dI p0.Dial.Weekday)]]⟩], .live [⟨123,2, .av (fC 2 aL p0.Movement.Works.Arbors)⟩], .live (mW 2 1 aL p0.Movement.Works.Arbors), .live [⟨125,4, .data (List.map bC p0.Movement.Works.Meshes)⟩], .live [⟨170,3, .data (List.map aM p0.Movement.Calendar.Months)⟩], .live [⟨181,3, .data (List.map aB p0.Movement.Calendar.Rules)⟩], .live [⟨2,1, .data (List.map cI p0.Movement.Cam)⟩], .live [⟨2,1, .data (List.map cI p0.Dial.Cam)⟩]] [.ptr 0 0 1 0 19] [.live [⟨40,26, .av [[dS r.Movement.Name, .own 1 0 (r.Movement.Works.Arbors).length, .own 3 0 (r.Movement.Works.Meshes).length,(dI r.Movement.Minute),(dI r.Movement.Hour),(dI r.Movement.Escape),(dI r.Movement.Teeth),(dI r.Movement.Beats),(dS r.Movement.Calendar.Name), .own 4 0 (r.Movement.Calendar.Months).length, .own 5 0 (r.Movement.Calendar.Rules).length,(dI r.Movement.Calendar.Week), .own 6 0 (r.Movement.Cam).length,(dI r.Movement.Strike),(dI r.Start.Year),(dI r.Start.Month),(dI r.Start.Day),(dI r.First),(dI r.Clock), .own 7 0 (r.Dial.Cam).length,(dI r.Dial.Months),(dI r.Dial.Teeth),(dI r.Dial.At),(dI r.Dial.Day),(dI r.Dial.Week),(dI r.Dial.Weekday)]]⟩], .live [⟨123,2, .av (fC 2 aL r.Movement.Works.Arbors)⟩], .live (mW 2 1 aL r.Movement.Works.Arbors), .live [⟨125,4, .data (List.map bC r.Movement.Works.Meshes)⟩], .live [⟨170,3, .data (List.map aM r.Movement.Calendar.Months)⟩], .live [⟨181,3, .data (List.map aB r.Movement.Calendar.Rules)⟩], .live [⟨2,1, .data (List.map cI r.Movement.Cam)⟩], .live [⟨2,1, .data (List.map cI r.Dial.Cam)⟩]] (.tup []) := by
 refine oA (L := 8) (T := tt) (N := 15) tok Tryz.func50 rfl rfl (by kernel_rfl) rfl rfl ?_
 unfold dR at h0
 refine aF (is := [0,1,2,3,4,5,6,7,8,9,10,11,12,13]) [0,0,2,6,14,0,32,96,224,510,1022,2047,4095,8191] follows (by kernel_rfl) (tP rfl (aH (r := .ptr _ _ _ _ _) rfl) (tP rfl (aH (r := .ptr _ _ _ _ _) rfl) (bS rfl w0 rfl (cW rfl rfl) rfl rfl rfl (tfa tok ?_))))
 refine tld tok ?_
 refine tP rfl (aH (r := .ptr _ _ _ _ _) rfl) (bS rfl w0 rfl (cW rfl rfl) rfl rfl rfl (tfa tok ?_))
 refine tld tok ?_
 obtain ⟨hq1,h0⟩ := dM h0
 refine tP rfl (fJ rfl rfl hq1) (tP rfl (bI rfl rfl) (bS rfl w0 rfl (cW rfl rfl) rfl rfl rfl (tfa tok ?_)))
 refine iK rfl w0 (fQ (cs := [.d _]) tok rfl rfl rfl rfl rfl rfl rfl) (bE ?_)
 refine ⟨by kernel_rfl,?_⟩
 cases h0
 exact nU (rs := []) 8 rfl rfl
theorem sD {p0 : dO} {r : dO} (h0 : dQ p0 = some r) : FnC Tryz.prog 44 [.live [⟨40,26, .av [[dS p0.Movement.Name, .own 1 0 (p0.Movement.Works.Arbors).length, .own 3 0 (p0.Movement.Works.Meshes).length,(dI p0.Movement.Minute),(dI p0.Movement.Hour),(dI p0.Movement.Escape),(dI p0.Movement.Teeth),(dI p0.Movement.Beats),(dS p0.Movement.Calendar.Name), .own 4 0 (p0.Movement.Calendar.Months).length, .own 5 0 (p0.Movement.Calendar.Rules).length,(dI p0.Movement.Calendar.Week), .own 6 0 (p0.Movement.Cam).length,(dI p0.Movement.Strike),(dI p0.Start.Year),(dI p0.Start.Month),(dI p0.Start.Day),(dI p0.First),(dI p0.Clock), .own 7 0 (p0.Dial.Cam).length,(dI p0.Dial.Months),(dI p0.Dial.Teeth),(dI p0.Dial.At),(dI p0.Dial.Day),(dI p0.Dial.Week),(dI p0.Dial.Weekday)]]⟩], .live [⟨123,2, .av (fC 2 aL p0.Movement.Works.Arbors)⟩], .live (mW 2 1 aL p0.Movement.Works.Arbors), .live [⟨125,4, .data (List.map bC p0.Movement.Works.Meshes)⟩], .live [⟨170,3, .data (List.map aM p0.Movement.Calendar.Months)⟩], .live [⟨181,3, .data (List.map aB p0.Movement.Calendar.Rules)⟩], .live [⟨2,1, .data (List.map cI p0.Movement.Cam)⟩], .live [⟨2,1, .data (List.map cI p0.Dial.Cam)⟩]] [.ptr 0 0 1 0 19] [.live [⟨40,26, .av [[dS r.Movement.Name, .own 1 0 (r.Movement.Works.Arbors).length, .own 3 0 (r.Movement.Works.Meshes).length,(dI r.Movement.Minute),(dI r.Movement.Hour),(dI r.Movement.Escape),(dI r.Movement.Teeth),(dI r.Movement.Beats),(dS r.Movement.Calendar.Name), .own 4 0 (r.Movement.Calendar.Months).length, .own 5 0 (r.Movement.Calendar.Rules).length,(dI r.Movement.Calendar.Week), .own 6 0 (r.Movement.Cam).length,(dI r.Movement.Strike),(dI r.Start.Year),(dI r.Start.Month),(dI r.Start.Day),(dI r.First),(dI r.Clock), .own 7 0 (r.Dial.Cam).length,(dI r.Dial.Months),(dI r.Dial.Teeth),(dI r.Dial.At),(dI r.Dial.Day),(dI r.Dial.Week),(dI r.Dial.Weekday)]]⟩], .live [⟨123,2, .av (fC 2 aL r.Movement.Works.Arbors)⟩], .live (mW 2 1 aL r.Movement.Works.Arbors), .live [⟨125,4, .data (List.map bC r.Movement.Works.Meshes)⟩], .live [⟨170,3, .data (List.map aM r.Movement.Calendar.Months)⟩], .live [⟨181,3, .data (List.map aB r.Movement.Calendar.Rules)⟩], .live [⟨2,1, .data (List.map cI r.Movement.Cam)⟩], .live [⟨2,1, .data (List.map cI r.Dial.Cam)⟩]] (.tup []) := by
 refine oA (L := 8) (T := tt) (N := 10) tok Tryz.func44 rfl rfl (by kernel_rfl) rfl rfl ?_
 unfold dQ at h0
 refine sq [0,1,2,3,4,5] (rP rfl (aH (r := .ptr _ _ _ _ _) rfl) (rP rfl (aH (r := .ptr _ _ _ _ _) rfl) (rL rfl (cW rfl rfl) (rL rfl (aU tok rfl rfl rfl rfl) ?_))))
 obtain ⟨v1,hv1,h0⟩ := bnd h0
 refine rS rfl (eE 8 (tT hv1) rfl rfl) ?_
 obtain ⟨v2,hv2,h0⟩ := bnd h0
 refine rw1 rfl w0 rfl (dU [0,1,2,3,4,5,6,7] 300 (sA hv2) rfl rfl) (nx (sr [0,1] (rP rfl (aH (r := .ptr _ _ _ _ _) rfl) ?_)))
 obtain ⟨v3,hv3,h0⟩ := bnd h0
 refine rw1 rfl w0 rfl (dU [0,1,2,3,4,5,6,7] 300 (qG hv3) rfl rfl) (bB ?_)
 cases h0
 exact nU (rs := []) 8 rfl rfl
theorem yD {p0 : Int} {r : Int} (h0 : oT p0 = some r) : FnC Tryz.prog 122 [] [dI p0] [] (dI r) := by
 refine fi 15 tok Tryz.func122 ?_
 unfold oT at h0
 refine sq [0] (pa (nx (sq [0,1,2] ?_)))
 refine pm ?_
 refine rP rfl (fJ rfl rfl (by decide)) (pa (nx (sq [0,1,2,3,4,5,6,7,8,9] ?_)))
 refine pm ?_
 refine rP rfl (kN rfl rfl (by decide)) (rP rfl (fO rfl rfl) (pm ?_))
 refine pm ?_
 refine rP rfl (bI rfl rfl) (rP rfl (fO rfl rfl) (rP rfl (kN rfl rfl (by decide)) (rP rfl (bI rfl rfl) (pa (nx (aD ?_))))))
 cases h0
 exact r0t 2 rfl
theorem aBx {p0 : Int} {p1 : Int} {p2 : Int} {r : Int × Int} (h0 : jM p0 p1 p2 = some r) : FnC Tryz.prog 45 [] [dI p0,(dI p1),(dI p2)] [] (.tup [dI r.1,(dI r.2)]) := by
 refine fi 30 tok Tryz.func45 ?_
 unfold jM at h0
 refine sq [0,1] (pa ?_)
 refine pa (nx (aG ?_))
 obtain ⟨v3,h1,h0⟩ := bnd h0
 refine bG ⟨aE (aE (aE (aE ((fun _ => .dead)) 0 (dI p0)) 1 (dI p1)) 2 (dI p2)) 20 (dB v3),lks [.no, .no, .no]⟩ ?_ ?_
 refine sr [0,1,2,3,4,5,6,7,8,9,10,11,12] (pm ?_)
 obtain ⟨v1,hv1,h1⟩ := bnd h1
 refine rS rfl (aO 3 (dC hv1) rfl rfl rfl) (rP rfl (bO rfl) (pm ?_))
 refine dH (u := 11) h1 rfl (fun hc h1 => ?_) (fun hc h1 => ?_)
 iterate 4 refine k1 ?_
 refine pkt ?_
 refine pm ?_
 refine k1 ?_
 refine k1 ?_
 refine pkt (nx ?_)
 cases h1
 exact wk [0,1,2]
 refine pm1 ?_
 refine pm1 ?_
 obtain ⟨v2,hv2,h1⟩ := bnd h1
 refine rs rfl (w1 rfl rfl rfl) rfl (aO 3 (dC hv2) rfl rfl rfl) (rp rfl (w1 rfl rfl rfl) rfl (bO rfl) (pkf ?_))
 refine pm ?_
 refine dH (u := 17) h1 rfl (fun hc h1 => ?_) (fun hc h1 => ?_)
 refine k1 ?_
 refine k1 ?_
 refine pkt (nx ?_)
 cases h1
 exact wk [0,1,2]
 refine pm1 ?_
 refine rp rfl (w1 rfl rfl rfl) rfl (eI rfl rfl) (pkf (nx ?_))
 cases h1
 exact wk [0,1,2]
 refine bL h0 rfl (fun hc h0 => ?_) (fun hc h0 => ?_)
 refine sq [0,1] (pa ?_)
 refine pa (nx (aD (aS ?_)))
 cases h0
 exact fN (rs := [.tmp 6, .tmp 7]) rfl
 refine sk (aG (sq [0,1] (pm ?_)))
 refine rP rfl (eN rfl rfl) (nx ?_)
 refine bM h0 rfl (fun hc h0 => ?_) (fun hc h0 => ?_)
 refine sq [0,1] (pa ?_)
 refine pa (nx (aD (aS ?_)))
 cases h0
 exact fN (rs := [.tmp 6, .tmp 7]) rfl
 refine sk (sq [0,1,2,3,4,5,6,7,8] (pm ?_))
 refine rP rfl (kN rfl rfl (by decide)) ?_
 obtain ⟨v5,hv5,h0⟩ := bnd h0
 refine rS rfl (aO 3 (yD hv5) rfl rfl rfl) (pm ?_)
 refine rP rfl (kN rfl rfl (by decide)) ?_
 obtain ⟨v7,hv7,h0⟩ := bnd h0
 refine rS rfl (aO 3 (yD hv7) rfl rfl rfl) (rP rfl (eM rfl rfl) (pa ?_))
 refine pa (nx (aD ?_))
 cases h0
 exact fN (rs := [.tmp 6, .tmp 7]) rfl
theorem aFq {p0 : dO} {p1 : Int} {r : dO × Int × Int} (h0 : qP p0 p1 = some r) : FnC Tryz.prog 10 [] [.agg [dS p0.Movement.Name,(dL aL p0.Movement.Works.Arbors),(dL bC p0.Movement.Works.Meshes),(dI p0.Movement.Minute),(dI p0.Movement.Hour),(dI p0.Movement.Escape),(dI p0.Movement.Teeth),(dI p0.Movement.Beats),(dS p0.Movement.Calendar.Name),(dL aM p0.Movement.Calendar.Months),(dL aB p0.Movement.Calendar.Rules),(dI p0.Movement.Calendar.Week),(dL cI p0.Movement.Cam),(dI p0.Movement.Strike),(dI p0.Start.Year),(dI p0.Start.Month),(dI p0.Start.Day),(dI p0.First),(dI p0.Clock),(dL cI p0.Dial.Cam),(dI p0.Dial.Months),(dI p0.Dial.Teeth),(dI p0.Dial.At),(dI p0.Dial.Day),(dI p0.Dial.Week),(dI p0.Dial.Weekday)],(dI p1)] [.live [⟨123,2, .av (fC 1 aL r.1.Movement.Works.Arbors)⟩], .live (mW 2 1 aL r.1.Movement.Works.Arbors), .live [⟨125,4, .data (List.map bC r.1.Movement.Works.Meshes)⟩], .live [⟨170,3, .data (List.map aM r.1.Movement.Calendar.Months)⟩], .live [⟨181,3, .data (List.map aB r.1.Movement.Calendar.Rules)⟩], .live [⟨2,1, .data (List.map cI r.1.Movement.Cam)⟩], .live [⟨2,1, .data (List.map cI r.1.Dial.Cam)⟩]] (.tup [.agg [dS r.1.Movement.Name, .own 0 0 r.1.Movement.Works.Arbors.length, .own 2 0 r.1.Movement.Works.Meshes.length,(dI r.1.Movement.Minute),(dI r.1.Movement.Hour),(dI r.1.Movement.Escape),(dI r.1.Movement.Teeth),(dI r.1.Movement.Beats),(dS r.1.Movement.Calendar.Name), .own 3 0 r.1.Movement.Calendar.Months.length, .own 4 0 r.1.Movement.Calendar.Rules.length,(dI r.1.Movement.Calendar.Week), .own 5 0 r.1.Movement.Cam.length,(dI r.1.Movement.Strike),(dI r.1.Start.Year),(dI r.1.Start.Month),(dI r.1.Start.Day),(dI r.1.First),(dI r.1.Clock), .own 6 0 r.1.Dial.Cam.length,(dI r.1.Dial.Months),(dI r.1.Dial.Teeth),(dI r.1.Dial.At),(dI r.1.Dial.Day),(dI r.1.Dial.Week),(dI r.1.Dial.Weekday)],(dI r.2.1),(dI r.2.2)]) := by
 refine fi 59 tok Tryz.func10 ?_
 unfold qP at h0
 refine sq [0,1,2,3] (bxx 3 ?_)
 refine al 4 [ze,zl,zl,z0,z0,z0,z0,z0,ze,zl,zl,z0,zl,z0,z0,z0,z0,z0,z0,zl,z0,z0,z0,z0,z0,z0] tok ?_
 refine pa ?_
 refine pa (nx (aG (sq [0,1,2] ?_)))
 refine rL rfl (aU tok rfl rfl rfl rfl) ?_
 obtain ⟨v1,hv1,h0⟩ := bnd h0
 refine rS rfl (aO 5 (wF hv1) rfl rfl rfl) (rP rfl (bO rfl) (nx ?_))
 refine bL h0 rfl (fun hc h0 => ?_) (fun hc h0 => ?_)
 refine sq [0,1,2,3] (rP rfl (pbl (C0 := [ze,zl,zl,z0,z0,z0,z0,z0,ze,zl,zl,z0,zl,z0,z0,z0,z0,z0,z0,zl,z0,z0,z0,z0,z0,z0]) tok rfl rfl rfl) (bst tok ?_))
 refine pa ?_
 refine pa (nx ?_)
 refine wa 5 123 2 4 1 ?_
 refine cJ (eU 6 (k := 5) 2 1 aL rfl rfl) (wa 7 125 4 4 2 ?_)
 refine wa 8 170 3 4 9 ?_
 refine wa 9 181 3 4 10 ?_
 refine wa 10 2 1 4 12 ?_
 refine wa 11 2 1 4 19 (aD (aS ?_))
 cases h0
 exact dJ (rs := [.cell 4 40, .tmp 5, .tmp 6]) [5,6,7,8,9,10,11] rfl
 refine sk (aG ?_)
 obtain ⟨v3,h1,h0⟩ := bnd h0
 refine bG ⟨aE (aE (aE (aE ((fun _ => .dead)) 1 (dI p1)) 2 (.ptr 3 0 1 0 0)) 4 (.ptr 4 0 1 0 0)) 24 (dB v3),lks [.no, .no, .no, .live [⟨40,26, .av [[dS p0.Movement.Name,(dL aL p0.Movement.Works.Arbors),(dL bC p0.Movement.Works.Meshes),(dI p0.Movement.Minute),(dI p0.Movement.Hour),(dI p0.Movement.Escape),(dI p0.Movement.Teeth),(dI p0.Movement.Beats),(dS p0.Movement.Calendar.Name),(dL aM p0.Movement.Calendar.Months),(dL aB p0.Movement.Calendar.Rules),(dI p0.Movement.Calendar.Week),(dL cI p0.Movement.Cam),(dI p0.Movement.Strike),(dI p0.Start.Year),(dI p0.Start.Month),(dI p0.Start.Day),(dI p0.First),(dI p0.Clock),(dL cI p0.Dial.Cam),(dI p0.Dial.Months),(dI p0.Dial.Teeth),(dI p0.Dial.At),(dI p0.Dial.Day),(dI p0.Dial.Week),(dI p0.Dial.Weekday)]]⟩], .live [⟨40,26, .av [[ze,zl,zl,z0,z0,z0,z0,z0,ze,zl,zl,z0,zl,z0,z0,z0,z0,z0,z0,zl,z0,z0,z0,z0,z0,z0]]⟩]]⟩ ?_ ?_
 refine sr [0,1,2,3,4,5,6,7,8,9] (pm ?_)
 obtain ⟨v2,hv2,h1⟩ := bnd h1
 refine rS rfl (aO 5 (dC hv2) rfl rfl rfl) (rP rfl (bO rfl) (pm ?_))
 refine dH (u := 18) h1 rfl (fun hc h1 => ?_) (fun hc h1 => ?_)
 iterate 5 refine k1 ?_
 refine pkt (nx ?_)
 cases h1
 exact wk [0,1,2,3,4]
 refine fa1 tok ?_
 refine ld1 tok ?_
 refine pm1 ?_
 refine rp rfl (w1 rfl rfl rfl) rfl (bI rfl rfl) (rp rfl (w1 rfl rfl rfl) rfl (eI rfl rfl) (pkf (nx ?_)))
 cases h1
 exact wk [0,1,2,3,4]
 refine bL h0 rfl (fun hc h0 => ?_) (fun hc h0 => ?_)
 refine sq [0,1,2,3] (rP rfl (pbl (C0 := [ze,zl,zl,z0,z0,z0,z0,z0,ze,zl,zl,z0,zl,z0,z0,z0,z0,z0,z0,zl,z0,z0,z0,z0,z0,z0]) tok rfl rfl rfl) (bst tok ?_))
 refine pa ?_
 refine pa (nx ?_)
 refine wa 5 123 2 4 1 ?_
 refine cJ (eU 6 (k := 5) 2 1 aL rfl rfl) (wa 7 125 4 4 2 ?_)
 refine wa 8 170 3 4 9 ?_
 refine wa 9 181 3 4 10 ?_
 refine wa 10 2 1 4 12 ?_
 refine wa 11 2 1 4 19 (aD (aS ?_))
 cases h0
 exact dJ (rs := [.cell 4 40, .tmp 5, .tmp 6]) [5,6,7,8,9,10,11] rfl
 refine sk (sq [0,1,2] (fa tok ?_))
 refine ld tok ?_
 refine pa (nx (sq [0,1,2] ?_))
 refine rL rfl (aU tok rfl rfl rfl rfl) ?_
 obtain ⟨v4,hv4,h0⟩ := bnd h0
 refine rS rfl (aO 5 (aKt hv4) rfl rfl rfl) (bst tok (nx (sq [0,1,2,3,4,5] ?_)))
 refine fa tok ?_
 refine ld tok ?_
 refine pm ?_
 refine rP rfl (bI rfl rfl) (fa tok ?_)
 refine bs1 tok (nx ?_)
 obtain ⟨v11,h1,h0⟩ := bnd h0
 refine bG ⟨aE (aE (aE ((fun _ => .dead)) 2 (.ptr 3 0 1 0 0)) 4 (.ptr 4 0 1 0 0)) 7 (dI p0.Clock),lks [.no, .no, .no, .live [⟨40,26, .av [[dS v11.1, .own 5 0 (v11.2.2.2.2.2.2.2.2.2.2.2.2.2.2.2.2.2.2.1).length, .own 6 0 (v11.2.2.2.2.2.2.2.2.2.2.2.2.2.2.2.2.2.2.2.1).length,(dI v11.2.1),(dI v11.2.2.1),(dI v11.2.2.2.1),(dI v11.2.2.2.2.1),(dI v11.2.2.2.2.2.1),(dS v11.2.2.2.2.2.2.1), .own 7 0 (v11.2.2.2.2.2.2.2.2.2.2.2.2.2.2.2.2.2.2.2.2.1).length, .own 8 0 (v11.2.2.2.2.2.2.2.2.2.2.2.2.2.2.2.2.2.2.2.2.2.1).length,(dI v11.2.2.2.2.2.2.2.1), .own 9 0 (v11.2.2.2.2.2.2.2.2.2.2.2.2.2.2.2.2.2.2.2.2.2.2.1).length,(dI v11.2.2.2.2.2.2.2.2.1),(dI v11.2.2.2.2.2.2.2.2.2.1.Year),(dI v11.2.2.2.2.2.2.2.2.2.1.Month),(dI v11.2.2.2.2.2.2.2.2.2.1.Day),(dI v11.2.2.2.2.2.2.2.2.2.2.1),(dI v11.2.2.2.2.2.2.2.2.2.2.2.1), .own 10 0 (v11.2.2.2.2.2.2.2.2.2.2.2.2.2.2.2.2.2.2.2.2.2.2.2).length,(dI v11.2.2.2.2.2.2.2.2.2.2.2.2.1),(dI v11.2.2.2.2.2.2.2.2.2.2.2.2.2.1),(dI v11.2.2.2.2.2.2.2.2.2.2.2.2.2.2.1),(dI v11.2.2.2.2.2.2.2.2.2.2.2.2.2.2.2.1),(dI v11.2.2.2.2.2.2.2.2.2.2.2.2.2.2.2.2.1),(dI v11.2.2.2.2.2.2.2.2.2.2.2.2.2.2.2.2.2.1)]]⟩], .live [⟨40,26, .av [[ze,zl,zl,z0,z0,z0,z0,z0,ze,zl,zl,z0,zl,z0,z0,z0,z0,z0,z0,zl,z0,z0,z0,z0,z0,z0]]⟩], .live [⟨123,2, .av (fC 11 aL v11.2.2.2.2.2.2.2.2.2.2.2.2.2.2.2.2.2.2.1)⟩], .live [⟨125,4, .data (List.map bC v11.2.2.2.2.2.2.2.2.2.2.2.2.2.2.2.2.2.2.2.1)⟩], .live [⟨170,3, .data (List.map aM v11.2.2.2.2.2.2.2.2.2.2.2.2.2.2.2.2.2.2.2.2.1)⟩], .live [⟨181,3, .data (List.map aB v11.2.2.2.2.2.2.2.2.2.2.2.2.2.2.2.2.2.2.2.2.2.1)⟩], .live [⟨2,1, .data (List.map cI v11.2.2.2.2.2.2.2.2.2.2.2.2.2.2.2.2.2.2.2.2.2.2.1)⟩], .live [⟨2,1, .data (List.map cI v11.2.2.2.2.2.2.2.2.2.2.2.2.2.2.2.2.2.2.2.2.2.2.2)⟩], .live (mW 2 1 aL v11.2.2.2.2.2.2.2.2.2.2.2.2.2.2.2.2.2.2.1)]⟩ ?_ ?_
 refine sq [0,1,2,3,4,5,6] (fa tok ?_)
 refine ld tok ?_
 refine rP rfl (kN rfl rfl (by decide)) (pm ?_)
 refine rP rfl (kN rfl rfl (by decide)) (rP rfl (eM rfl rfl) (pa (nx (aK ?_))))
 refine bD (fun s9 => ⟨aE (aE (aE (aE ((fun _ => .dead)) 2 (.ptr 3 0 1 0 0)) 4 (.ptr 4 0 1 0 0)) 7 (dI p0.Clock)) 8 (dI s9.1),lks [.no, .no, .no, .live [⟨40,26, .av [[dS s9.2.1, .own 5 0 (s9.2.2.2.2.2.2.2.2.2.2.2.2.2.2.2.2.2.2.2.1).length, .own 6 0 (s9.2.2.2.2.2.2.2.2.2.2.2.2.2.2.2.2.2.2.2.2.1).length,(dI s9.2.2.1),(dI s9.2.2.2.1),(dI s9.2.2.2.2.1),(dI s9.2.2.2.2.2.1),(dI s9.2.2.2.2.2.2.1),(dS s9.2.2.2.2.2.2.2.1), .own 7 0 (s9.2.2.2.2.2.2.2.2.2.2.2.2.2.2.2.2.2.2.2.2.2.1).length, .own 8 0 (s9.2.2.2.2.2.2.2.2.2.2.2.2.2.2.2.2.2.2.2.2.2.2.1).length,(dI s9.2.2.2.2.2.2.2.2.1), .own 9 0 (s9.2.2.2.2.2.2.2.2.2.2.2.2.2.2.2.2.2.2.2.2.2.2.2.1).length,(dI s9.2.2.2.2.2.2.2.2.2.1),(dI s9.2.2.2.2.2.2.2.2.2.2.1.Year),(dI s9.2.2.2.2.2.2.2.2.2.2.1.Month),(dI s9.2.2.2.2.2.2.2.2.2.2.1.Day),(dI s9.2.2.2.2.2.2.2.2.2.2.2.1),(dI s9.2.2.2.2.2.2.2.2.2.2.2.2.1), .own 10 0 (s9.2.2.2.2.2.2.2.2.2.2.2.2.2.2.2.2.2.2.2.2.2.2.2.2).length,(dI s9.2.2.2.2.2.2.2.2.2.2.2.2.2.1),(dI s9.2.2.2.2.2.2.2.2.2.2.2.2.2.2.1),(dI s9.2.2.2.2.2.2.2.2.2.2.2.2.2.2.2.1),(dI s9.2.2.2.2.2.2.2.2.2.2.2.2.2.2.2.2.1),(dI s9.2.2.2.2.2.2.2.2.2.2.2.2.2.2.2.2.2.1),(dI s9.2.2.2.2.2.2.2.2.2.2.2.2.2.2.2.2.2.2.1)]]⟩], .live [⟨40,26, .av [[ze,zl,zl,z0,z0,z0,z0,z0,ze,zl,zl,z0,zl,z0,z0,z0,z0,z0,z0,zl,z0,z0,z0,z0,z0,z0]]⟩], .live [⟨123,2, .av (fC 11 aL s9.2.2.2.2.2.2.2.2.2.2.2.2.2.2.2.2.2.2.2.1)⟩], .live [⟨125,4, .data (List.map bC s9.2.2.2.2.2.2.2.2.2.2.2.2.2.2.2.2.2.2.2.2.1)⟩], .live [⟨170,3, .data (List.map aM s9.2.2.2.2.2.2.2.2.2.2.2.2.2.2.2.2.2.2.2.2.2.1)⟩], .live [⟨181,3, .data (List.map aB s9.2.2.2.2.2.2.2.2.2.2.2.2.2.2.2.2.2.2.2.2.2.2.1)⟩], .live [⟨2,1, .data (List.map cI s9.2.2.2.2.2.2.2.2.2.2.2.2.2.2.2.2.2.2.2.2.2.2.2.1)⟩], .live [⟨2,1, .data (List.map cI s9.2.2.2.2.2.2.2.2.2.2.2.2.2.2.2.2.2.2.2.2.2.2.2.2)⟩], .live (mW 2 1 aL s9.2.2.2.2.2.2.2.2.2.2.2.2.2.2.2.2.2.2.2.1)]⟩) h1 ?_ (fun s9 y h2 => ?_)
 exact wk [0,1,2,3,4,5,7,8,9,10,11,6]
 refine aG (sq [0,1] (pm ?_))
 refine rP rfl (eI rfl rfl) (nx ?_)
 refine bM h2 rfl (fun hc h2 => ?_) (fun hc h2 => ?_)
 refine sk (aG (aK (sr [0,1] (fa tok ?_))))
 obtain ⟨v10,hv10,h2⟩ := bnd h2
 refine rw1 rfl w0 rfl (dU [3,5,11,6,7,8,9,10] 300 (sD hv10) rfl rfl) (bB (bF (aI (sr [0,1,2] (pm ?_)))))
 refine rP rfl (eM rfl rfl) (pa (bB ?_))
 refine cA ?_
 cases h2
 refine ⟨_,rfl,?_⟩
 exact wk [0,1,2,3,4,5,6,7,8,9,10,11]
 refine bK (bY ?_)
 cases h2
 refine cC ⟨_,rfl,fun e => ?_⟩
 subst e
 refine aY (aI ?_)
 exact wk [0,1,2,3,4,5,6,7,8,9,10,11]
 refine sq [0,1,2,3,4,5,6,7,8,9,10,11] (fa tok ?_)
 refine fa tok ?_
 refine ld tok ?_
 refine pm ?_
 refine fa tok ?_
 refine ld tok ?_
 obtain ⟨v12,hv12,h0⟩ := bnd h0
 refine rS rfl (aO 12 (aBx hv12) rfl rfl rfl) (rP rfl (aH (r := .tup _) rfl) (rP rfl (aQ rfl rfl) (rP rfl (aQ rfl rfl) (pa ?_))))
 refine pa (nx (sq [0,1,2,3,4] ?_))
 refine rL rfl (aU tok rfl rfl rfl rfl) (pm ?_)
 refine bst tok ?_
 refine pa ?_
 refine pa (nx (aD ?_))
 cases h0
 exact dJ (rs := [.cell 4 40, .tmp 5, .tmp 6]) [5,11,6,7,8,9,10] rfl
theorem aHf {p0 : dO} {r : Bool} (h0 : sQ p0 = some r) : FnC Tryz.prog 13 [] [.agg [dS p0.Movement.Name,(dL aL p0.Movement.Works.Arbors),(dL bC p0.Movement.Works.Meshes),(dI p0.Movement.Minute),(dI p0.Movement.Hour),(dI p0.Movement.Escape),(dI p0.Movement.Teeth),(dI p0.Movement.Beats),(dS p0.Movement.Calendar.Name),(dL aM p0.Movement.Calendar.Months),(dL aB p0.Movement.Calendar.Rules),(dI p0.Movement.Calendar.Week),(dL cI p0.Movement.Cam),(dI p0.Movement.Strike),(dI p0.Start.Year),(dI p0.Start.Month),(dI p0.Start.Day),(dI p0.First),(dI p0.Clock),(dL cI p0.Dial.Cam),(dI p0.Dial.Months),(dI p0.Dial.Teeth),(dI p0.Dial.At),(dI p0.Dial.Day),(dI p0.Dial.Week),(dI p0.Dial.Weekday)]] [] (dB r) := by
 refine fi 4 tok Tryz.func13 ?_
 unfold sQ at h0
 refine sq [0,1] (bxx 3 ?_)
 refine pa (nx (sq [0,1] ?_))
 obtain ⟨v1,hv1,h0⟩ := bnd h0
 refine rS rfl (eE 4 (aDq hv1) rfl rfl) (pa (nx (aD ?_)))
 cases h0
 exact r0t 2 rfl
theorem wK {p0 : aA} {r : Int × Int} (h0 : iS p0 = some r) : FnC Tryz.prog 280 [] [.agg [dS p0.Name,(dL aM p0.Months),(dL aB p0.Rules),(dI p0.Week)]] [] (.tup [dI r.1,(dI r.2)]) := by
 refine fi 26 tok Tryz.func280 ?_
 unfold iS at h0
 refine sq [0,1,2] (bxx 3 ?_)
 refine pa ?_
 refine pa (nx (sq [0,1] ?_))
 refine pa ?_
 refine pa (nx ?_)
 obtain ⟨v5,h1,h0⟩ := bnd h0
 refine bG ⟨aE (aE ((fun _ => .dead)) 4 (dI v5.1)) 5 (dI v5.2),lks [.no, .no, .no]⟩ ?_ ?_
 refine sq [0,1,2,3] (fa tok ?_)
 refine ld tok ?_
 refine rP rfl (aN tok rfl rfl rfl) (pm (nx (aK ?_)))
 refine bD (fun s3 => ⟨aE (aE (aE (aE (aE ((fun _ => .dead)) 4 (dI s3.1)) 5 (dI s3.2.1)) 9 (dL aM p0.Months)) 10 (dI (p0.Months.length : Int))) 11 (dI s3.2.2),lks [.no, .no, .no]⟩) h1 ?_ (fun s3 y h2 => ?_)
 exact wk [0,1,2]
 refine sq [0] (rP rfl (bX rfl rfl) (nx (aG ?_)))
 refine bM h2 rfl (fun hc h2 => ?_) (fun hc h2 => ?_)
 refine sk (aG (aK (sq [0,1,2,3] ?_)))
 obtain ⟨v4,hv4,h2⟩ := bnd h2
 refine rP rfl (cV tok hv4 rfl rfl rfl rfl rfl rfl) (rP rfl (bT tok rfl rfl rfl (by repeat (first | exact kK.z _ | apply kK.t))) (al 3 [ze,z0,z0] tok ?_))
 refine bst tok (nx (sq [0,1,2,3,4] ?_))
 refine pm ?_
 refine fa tok ?_
 refine ld tok ?_
 refine rP rfl (bI rfl rfl) (pa (nx (sr [0,1,2,3,4] ?_)))
 refine pm ?_
 refine fa tok ?_
 refine ld tok ?_
 refine rP rfl (bI rfl rfl) (pa (bB ?_))
 refine bF (aI (sr [0,1] (rP rfl (bI rfl rfl) (pm (bB ?_)))))
 refine cA ?_
 cases h2
 refine ⟨_,rfl,?_⟩
 exact wk [0,1,2]
 refine bK (bY ?_)
 cases h2
 refine cC ⟨_,rfl,fun e => ?_⟩
 subst e
 refine aY (aI ?_)
 exact wk [0,1,2]
 refine sq [0,1,2,3] (pm ?_)
 refine pm ?_
 refine pa ?_
 refine pa (nx (aD ?_))
 cases h0
 exact fN (rs := [.tmp 2, .tmp 3]) rfl
theorem xU {p0 : aA} {p1 : Int} {r : Int} (h0 : jS p0 p1 = some r) : FnC Tryz.prog 279 [] [.agg [dS p0.Name,(dL aM p0.Months),(dL aB p0.Rules),(dI p0.Week)],(dI p1)] [] (dI r) := by
 refine fi 29 tok Tryz.func279 ?_
 unfold jS at h0
 refine sq [0,1] (bxx 3 ?_)
 refine pa (nx (sq [0,1,2,3,4,5,6] ?_))
 refine rL rfl (aU tok rfl rfl rfl rfl) ?_
 obtain ⟨v1,hv1,h0⟩ := bnd h0
 refine rS rfl (aO 4 (wK hv1) rfl rfl rfl) (rP rfl (aH (r := .tup _) rfl) (rP rfl (aQ rfl rfl) (rP rfl (aQ rfl rfl) (pa ?_))))
 refine pa (nx (sq [0] ?_))
 refine pa (nx ?_)
 obtain ⟨v8,h1,h0⟩ := bnd h0
 refine bG ⟨aE ((fun _ => .dead)) 7 (dI v8),lks [.no, .no, .no]⟩ ?_ ?_
 refine sq [0] (pa (nx (aK ?_)))
 refine bD (fun s5 => ⟨aE (aE (aE (aE (aE (aE ((fun _ => .dead)) 1 (dI p1)) 2 (.ptr 3 0 1 0 0)) 5 (dI v1.1)) 6 (dI v1.2)) 7 (dI s5.1)) 8 (dI s5.2),lks [.no, .no, .no, .live [⟨31,4, .av [[dS p0.Name,(dL aM p0.Months),(dL aB p0.Rules),(dI p0.Week)]]⟩]]⟩) h1 ?_ (fun s5 y h2 => ?_)
 exact wk [0,1,2,3]
 refine aG (sq [0,1,2] (pm ?_))
 refine pm ?_
 refine rP rfl (bX rfl rfl) (nx ?_)
 refine bM h2 rfl (fun hc h2 => ?_) (fun hc h2 => ?_)
 refine sk ?_
 obtain ⟨v7,h3,h2⟩ := bnd h2
 refine bG ⟨aE (aE (aE (aE (aE (aE ((fun _ => .dead)) 1 (dI p1)) 2 (.ptr 3 0 1 0 0)) 5 (dI v1.1)) 6 (dI v1.2)) 7 (dI v7)) 8 (dI s5.2),lks [.no, .no, .no, .live [⟨31,4, .av [[dS p0.Name,(dL aM p0.Months),(dL aB p0.Rules),(dI p0.Week)]]⟩]]⟩ ?_ ?_
 refine aK (sq [0,1,2] (rL rfl (aU tok rfl rfl rfl rfl) (pm ?_)))
 obtain ⟨v6,hv6,h3⟩ := bnd h3
 refine rS rfl (aO 4 (oE hv6) rfl rfl rfl) (nx ?_)
 refine bL h3 rfl (fun hc h3 => ?_) (fun hc h3 => ?_)
 refine sr [0,1,2,3] (pm ?_)
 refine pm ?_
 refine rP rfl (bI rfl rfl) (pa (bB ?_))
 refine bF (aI ?_)
 cases h3
 exact wk [0,1,2,3]
 refine sr [0,1,2,3] (pm ?_)
 refine pm ?_
 refine rP rfl (bI rfl rfl) (pa (bB ?_))
 refine bF (aI ?_)
 cases h3
 exact wk [0,1,2,3]
 refine sr [0,1,2] (pm ?_)
 refine rP rfl (bI rfl rfl) (pa (bB ?_))
 refine cA ?_
 cases h2
 refine ⟨_,rfl,?_⟩
 exact wk [0,1,2,3]
 refine bK (bY ?_)
 cases h2
 refine cC ⟨_,rfl,fun e => ?_⟩
 subst e
 refine aY (aI ?_)
 exact wk [0,1,2]
 refine sq [0,1] (pm ?_)
 refine pa (nx (aD ?_))
 cases h0
 exact r0t 4 rfl
theorem aNl {p0 : aA} {p1 : bQ} {r : Int} (h0 : vO p0 p1 = some r) : FnC Tryz.prog 254 [] [.agg [dS p0.Name,(dL aM p0.Months),(dL aB p0.Rules),(dI p0.Week)], .agg [dI p1.Year,(dI p1.Month),(dI p1.Day)]] [] (dI r) := by
 refine fi 33 tok Tryz.func254 ?_
 unfold vO at h0
 refine sq [0,1,2] (bxx 3 ?_)
 refine bxx 4 ?_
 refine pa (nx (aG ?_))
 refine aF (is := [0,1,2,4,5,3,6,7,8]) [0,0,2,7,0,16,63,127,255] follows (by kernel_rfl) (bS rfl w0 rfl (aU tok rfl rfl rfl rfl) rfl rfl rfl (tfa tok ?_))
 refine tld tok ?_
 refine tfa tok ?_
 refine tld tok ?_
 obtain ⟨v1,hv1,h0⟩ := bnd h0
 refine jB rfl w0 rfl (cP 5 (xU hv1) rfl rfl rfl) (tP rfl (bI rfl rfl) (tP rfl (eM rfl rfl) (tpa ?_)))
 refine bE ?_
 refine ⟨by kernel_rfl,?_⟩
 refine aI (sq [0,1,2,3,4] (rL rfl (aU tok rfl rfl rfl rfl) (fa tok ?_)))
 refine ld tok ?_
 obtain ⟨v2,hv2,h0⟩ := bnd h0
 refine rS rfl (aO 5 (oE hv2) rfl rfl rfl) (pa (nx ?_))
 obtain ⟨v7,h1,h0⟩ := bnd h0
 refine bG ⟨aE ((fun _ => .dead)) 5 (dI v7),lks [.no, .no, .no]⟩ ?_ ?_
 refine sq [0] (pa (nx (aK ?_)))
 refine bD (fun s5 => ⟨aE (aE (aE (aE (aE ((fun _ => .dead)) 2 (.ptr 3 0 1 0 0)) 3 (.ptr 4 0 1 0 0)) 5 (dI s5.1)) 6 (dB v2)) 7 (dI s5.2),lks [.no, .no, .no, .live [⟨31,4, .av [[dS p0.Name,(dL aM p0.Months),(dL aB p0.Rules),(dI p0.Week)]]⟩], .live [⟨36,3, .av [[dI p1.Year,(dI p1.Month),(dI p1.Day)]]⟩]]⟩) h1 ?_ (fun s5 y h2 => ?_)
 exact wk [0,1,2,3,4]
 refine aG (sq [0,1,2,3] (pm ?_))
 refine fa tok ?_
 refine ld tok ?_
 refine rP rfl (bX rfl rfl) (nx ?_)
 refine bM h2 rfl (fun hc h2 => ?_) (fun hc h2 => ?_)
 refine sk (aG (aK (sr [0,1,2,3,4,5,6] (pm ?_))))
 refine rL rfl (aU tok rfl rfl rfl rfl) (pm ?_)
 refine pm ?_
 obtain ⟨v6,hv6,h2⟩ := bnd h2
 refine rS rfl (aO 5 (iQ hv6) rfl rfl rfl) (rP rfl (bI rfl rfl) (pa (bB ?_)))
 refine bF (aI (sr [0,1,2] (pm ?_)))
 refine rP rfl (bI rfl rfl) (pa (bB ?_))
 refine cA ?_
 cases h2
 refine ⟨_,rfl,?_⟩
 exact wk [0,1,2,3,4]
 refine bK (bY ?_)
 cases h2
 refine cC ⟨_,rfl,fun e => ?_⟩
 subst e
 refine aY (aI ?_)
 exact wk [0,1,2]
 refine sq [0,1] (pm ?_)
 refine pa (nx (aD ?_))
 cases h0
 exact r0t 4 rfl
theorem aNe {p0 : aA} {p1 : bQ} {r : Int × Int} (h0 : zM p0 p1 = some r) : FnC Tryz.prog 208 [] [.agg [dS p0.Name,(dL aM p0.Months),(dL aB p0.Rules),(dI p0.Week)], .agg [dI p1.Year,(dI p1.Month),(dI p1.Day)]] [] (.tup [dI r.1,(dI r.2)]) := by
 refine fi 16 tok Tryz.func208 ?_
 unfold zM at h0
 refine sq [0,1,2,3] (bxx 3 ?_)
 refine bxx 4 ?_
 refine pa ?_
 refine pa (nx (aG (sq [0,1,2] ?_)))
 refine rL rfl (aU tok rfl rfl rfl rfl) ?_
 obtain ⟨v1,hv1,h0⟩ := bnd h0
 refine rS rfl (aO 5 (iZ hv1) rfl rfl rfl) (rP rfl (bO rfl) (nx ?_))
 refine bL h0 rfl (fun hc h0 => ?_) (fun hc h0 => ?_)
 refine sq [0,1] (pa ?_)
 refine pa (nx (aD (aS ?_)))
 cases h0
 exact fN (rs := [.tmp 4, .tmp 5]) rfl
 refine sk (aG (sq [0,1,2,3] (rL rfl (aU tok rfl rfl rfl rfl) (rL rfl (aU tok rfl rfl rfl rfl) ?_))))
 obtain ⟨v2,hv2,h0⟩ := bnd h0
 refine rS rfl (aO 5 (uT hv2) rfl rfl rfl) (rP rfl (bO rfl) (nx ?_))
 refine bL h0 rfl (fun hc h0 => ?_) (fun hc h0 => ?_)
 refine sq [0,1] (pa ?_)
 refine pa (nx (aD (aS ?_)))
 cases h0
 exact fN (rs := [.tmp 4, .tmp 5]) rfl
 refine sk (sq [0,1,2,3,4] (rL rfl (aU tok rfl rfl rfl rfl) (rL rfl (aU tok rfl rfl rfl rfl) ?_)))
 obtain ⟨v3,hv3,h0⟩ := bnd h0
 refine rS rfl (aO 5 (aNl hv3) rfl rfl rfl) (pa ?_)
 refine pa (nx (aD ?_))
 cases h0
 exact fN (rs := [.tmp 4, .tmp 5]) rfl
theorem aJp {p0 : aA} {r : Int} (h0 : qX p0 = some r) : FnC Tryz.prog 255 [] [.agg [dS p0.Name,(dL aM p0.Months),(dL aB p0.Rules),(dI p0.Week)]] [] (dI r) := by
 refine fi 6 tok Tryz.func255 ?_
 unfold qX at h0
 refine sq [0,1] (bxx 3 ?_)
 refine pa (nx (sq [0,1,2,3] ?_))
 refine rL rfl (aU tok rfl rfl rfl rfl) ?_
 obtain ⟨v1,hv1,h0⟩ := bnd h0
 refine rS rfl (aO 4 (xU hv1) rfl rfl rfl) (rP rfl (eM rfl rfl) (pa (nx (aD ?_))))
 cases h0
 exact r0t 2 rfl
theorem aM3 {p0 : aA} {p1 : Int} {r : bQ} (h0 : tC p0 p1 = some r) : FnC Tryz.prog 256 [] [.agg [dS p0.Name,(dL aM p0.Months),(dL aB p0.Rules),(dI p0.Week)],(dI p1)] [] (.agg [dI r.Year,(dI r.Month),(dI r.Day)]) := by
 refine fi 58 tok Tryz.func256 ?_
 unfold tC at h0
 refine sq [0,1] (bxx 3 ?_)
 refine al 4 [z0,z0,z0] tok (nx (sq [0,1,2,3,4,5,6] ?_))
 refine rL rfl (aU tok rfl rfl rfl rfl) ?_
 obtain ⟨v1,hv1,h0⟩ := bnd h0
 refine rS rfl (aO 5 (wK hv1) rfl rfl rfl) (rP rfl (aH (r := .tup _) rfl) (rP rfl (aQ rfl rfl) (rP rfl (aQ rfl rfl) (pa ?_))))
 refine pa (nx (sq [0,1,2] ?_))
 refine rP rfl (pbl (C0 := [z0,z0,z0]) tok rfl rfl rfl) (al 5 [z0,z0,z0] tok ?_)
 refine bst tok (nx ?_)
 obtain ⟨v8,h1,h0⟩ := bnd h0
 refine bG ⟨aE (aE (aE (aE ((fun _ => .dead)) 1 (dI v8.1)) 2 (.ptr 3 0 1 0 0)) 4 (.ptr 4 0 1 0 0)) 7 (.ptr 5 0 1 0 0),lks [.no, .no, .no, .live [⟨31,4, .av [[dS p0.Name,(dL aM p0.Months),(dL aB p0.Rules),(dI p0.Week)]]⟩], .live [⟨36,3, .av [[z0,z0,z0]]⟩], .live [⟨36,3, .av [[dI v8.2.Year,(dI v8.2.Month),(dI v8.2.Day)]]⟩]]⟩ ?_ ?_
 refine aK ?_
 refine bD (fun s5 => ⟨aE (aE (aE (aE (aE (aE ((fun _ => .dead)) 1 (dI s5.1)) 2 (.ptr 3 0 1 0 0)) 4 (.ptr 4 0 1 0 0)) 5 (dI v1.1)) 6 (dI v1.2)) 7 (.ptr 5 0 1 0 0),lks [.no, .no, .no, .live [⟨31,4, .av [[dS p0.Name,(dL aM p0.Months),(dL aB p0.Rules),(dI p0.Week)]]⟩], .live [⟨36,3, .av [[z0,z0,z0]]⟩], .live [⟨36,3, .av [[dI s5.2.Year,(dI s5.2.Month),(dI s5.2.Day)]]⟩]]⟩) h1 ?_ (fun s5 y h2 => ?_)
 exact wk [0,1,2,3,4,5]
 refine aK (sq [0,1] (pm ?_))
 refine pa (nx ?_)
 obtain ⟨v7,h3,h2⟩ := bnd h2
 refine bG ⟨aE (aE (aE (aE (aE (aE (aE ((fun _ => .dead)) 1 (dI s5.1)) 2 (.ptr 3 0 1 0 0)) 4 (.ptr 4 0 1 0 0)) 5 (dI v1.1)) 6 (dI v1.2)) 7 (.ptr 5 0 1 0 0)) 8 (dI v7),lks [.no, .no, .no, .live [⟨31,4, .av [[dS p0.Name,(dL aM p0.Months),(dL aB p0.Rules),(dI p0.Week)]]⟩], .live [⟨36,3, .av [[z0,z0,z0]]⟩], .live [⟨36,3, .av [[dI s5.2.Year,(dI s5.2.Month),(dI s5.2.Day)]]⟩]]⟩ ?_ ?_
 refine sq [0,1,2,3] (rL rfl (aU tok rfl rfl rfl rfl) (fa tok ?_))
 refine ld tok ?_
 obtain ⟨v6,hv6,h3⟩ := bnd h3
 refine rS rfl (aO 6 (oE hv6) rfl rfl rfl) (nx ?_)
 refine bL h3 rfl (fun hc h3 => ?_) (fun hc h3 => ?_)
 refine sr [0,1] (pm ?_)
 refine pa (nx ?_)
 cases h3
 exact wk [0,1,2,3,4,5]
 refine sk ?_
 cases h3
 exact wk [0,1,2,3,4,5]
 refine aG (sq [0,1,2] (pm ?_))
 refine pm ?_
 refine rP rfl (bX rfl rfl) (nx ?_)
 refine bM h2 rfl (fun hc h2 => ?_) (fun hc h2 => ?_)
 refine bK (bY (aO6 rfl ?_))
 cases h2
 refine cC ⟨_,rfl,fun e => ?_⟩
 subst e
 refine aY (aI ?_)
 exact wk [0,1,2,3,4,5]
 refine sk (sq [0,1,2,3] (pm ?_))
 refine pm ?_
 refine rP rfl (eM rfl rfl) (pa (nx (sr [0,1,2,3,4] ?_)))
 refine fa tok ?_
 refine ld tok ?_
 refine rP rfl (bI rfl rfl) (fa tok ?_)
 refine bs1 tok (bB ?_)
 refine bF (cA ?_)
 cases h2
 refine ⟨_,rfl,?_⟩
 exact wk [0,1,2,3,4,5]
 obtain ⟨v16,h1,h0⟩ := bnd h0
 refine bG ⟨aE (aE (aE ((fun _ => .dead)) 1 (dI v16.1)) 4 (.ptr 3 0 1 0 0)) 7 (.ptr 4 0 1 0 0),lks [.no, .no, .no, .live [⟨36,3, .av [[z0,z0,z0]]⟩], .live [⟨36,3, .av [[dI v16.2.Year,(dI v16.2.Month),(dI v16.2.Day)]]⟩]]⟩ ?_ ?_
 refine sq [0,1,2,3,4] (rL rfl (aU tok rfl rfl rfl rfl) (fa tok ?_))
 refine ld tok ?_
 obtain ⟨v9,hv9,h1⟩ := bnd h1
 refine rS rfl (aO 6 (oE hv9) rfl rfl rfl) (pa (nx (aK ?_)))
 refine bD (fun s13 => ⟨aE (aE (aE (aE (aE ((fun _ => .dead)) 1 (dI s13.1)) 2 (.ptr 3 0 1 0 0)) 4 (.ptr 4 0 1 0 0)) 7 (.ptr 5 0 1 0 0)) 9 (dB v9),lks [.no, .no, .no, .live [⟨31,4, .av [[dS p0.Name,(dL aM p0.Months),(dL aB p0.Rules),(dI p0.Week)]]⟩], .live [⟨36,3, .av [[z0,z0,z0]]⟩], .live [⟨36,3, .av [[dI s13.2.Year,(dI s13.2.Month),(dI s13.2.Day)]]⟩]]⟩) h1 ?_ (fun s13 y h2 => ?_)
 exact wk [0,1,2,3,4,5]
 refine aG (sq [0,1,2,3,4,5,6] (pm ?_))
 refine rL rfl (aU tok rfl rfl rfl rfl) (pm ?_)
 refine fa tok ?_
 refine ld tok ?_
 obtain ⟨v14,hv14,h2⟩ := bnd h2
 refine rS rfl (aO 6 (iQ hv14) rfl rfl rfl) (rP rfl (tN rfl rfl) (nx ?_))
 refine bM h2 rfl (fun hc h2 => ?_) (fun hc h2 => ?_)
 refine sk (aG (aK (sr [0,1,2,3,4,5,6,7] (pm ?_))))
 refine rL rfl (aU tok rfl rfl rfl rfl) (pm ?_)
 refine fa tok ?_
 refine ld tok ?_
 obtain ⟨v15,hv15,h2⟩ := bnd h2
 refine rS rfl (aO 6 (iQ hv15) rfl rfl rfl) (rP rfl (eM rfl rfl) (pa (bB ?_)))
 refine bF (aI (sr [0,1,2,3,4] (fa tok ?_)))
 refine ld tok ?_
 refine rP rfl (bI rfl rfl) (fa tok ?_)
 refine bs1 tok (bB ?_)
 refine cA ?_
 cases h2
 refine ⟨_,rfl,?_⟩
 exact wk [0,1,2,3,4,5]
 refine bK (bY ?_)
 cases h2
 refine cC ⟨_,rfl,fun e => ?_⟩
 subst e
 refine aY (aI ?_)
 exact wk [0,1,2,4,5]
 refine sq [0,1,2,3] (pm ?_)
 refine rP rfl (bI rfl rfl) (fa tok ?_)
 refine bs1 tok (nx (sq [0,1] ?_))
 refine rL rfl (aU tok rfl rfl rfl rfl) (bst tok (nx (aD ?_)))
 cases h0
 exact fN (rs := [.cell 4 36]) rfl
theorem aJ6 {p0 : aA} {p1 : Int} {p2 : Int} {r : bQ × Int} (h0 : uY p0 p1 p2 = some r) : FnC Tryz.prog 209 [] [.agg [dS p0.Name,(dL aM p0.Months),(dL aB p0.Rules),(dI p0.Week)],(dI p1),(dI p2)] [] (.tup [.agg [dI r.1.Year,(dI r.1.Month),(dI r.1.Day)],(dI r.2)]) := by
 refine fi 25 tok Tryz.func209 ?_
 unfold uY at h0
 refine sq [0,1,2] (bxx 3 ?_)
 refine al 4 [z0,z0,z0] tok ?_
 refine pa (nx (sq [0,1,2] ?_))
 refine rL rfl (aU tok rfl rfl rfl rfl) ?_
 obtain ⟨v1,hv1,h0⟩ := bnd h0
 refine rS rfl (aO 5 (aJp hv1) rfl rfl rfl) (pa (nx (aG (sq [0,1,2,3,4,5,6,7] ?_))))
 refine pm ?_
 refine pm ?_
 refine rP rfl (vC rfl) (pm ?_)
 refine pm ?_
 refine rP rfl (eM rfl rfl) ?_
 obtain ⟨v2,hv2,h0⟩ := bnd h0
 refine rS rfl (aO 5 (dC hv2) rfl rfl rfl) (rP rfl (bO rfl) (nx ?_))
 refine bL h0 rfl (fun hc h0 => ?_) (fun hc h0 => ?_)
 refine sq [0,1,2] (rP rfl (pbl (C0 := [z0,z0,z0]) tok rfl rfl rfl) (bst tok ?_))
 refine pa (nx (aD (aS ?_)))
 cases h0
 exact fN (rs := [.cell 6 36, .tmp 7]) rfl
 refine sk (sq [0,1,2,3,4,5,6] (rL rfl (aU tok rfl rfl rfl rfl) (pm ?_)))
 refine pm ?_
 refine rP rfl (bI rfl rfl) ?_
 obtain ⟨v3,hv3,h0⟩ := bnd h0
 refine rS rfl (aO 5 (aM3 hv3) rfl rfl rfl) (bst tok ?_)
 refine pa (nx (aD ?_))
 cases h0
 exact fN (rs := [.cell 6 36, .tmp 7]) rfl
theorem aJz {p0 : aA} {p1 : bQ} {p2 : Int} {r : bQ × Int} (h0 : tY p0 p1 p2 = some r) : FnC Tryz.prog 128 [] [.agg [dS p0.Name,(dL aM p0.Months),(dL aB p0.Rules),(dI p0.Week)], .agg [dI p1.Year,(dI p1.Month),(dI p1.Day)],(dI p2)] [] (.tup [.agg [dI r.1.Year,(dI r.1.Month),(dI r.1.Day)],(dI r.2)]) := by
 refine fi 26 tok Tryz.func128 ?_
 unfold tY at h0
 refine sq [0,1,2,3] (bxx 3 ?_)
 refine bxx 4 ?_
 refine al 5 [z0,z0,z0] tok ?_
 refine pa (nx (sq [0,1,2,3,4,5,6,7] ?_))
 refine rL rfl (aU tok rfl rfl rfl rfl) (rL rfl (aU tok rfl rfl rfl rfl) ?_)
 obtain ⟨v1,hv1,h0⟩ := bnd h0
 refine rS rfl (aO 6 (aNe hv1) rfl rfl rfl) (rP rfl (aH (r := .tup _) rfl) (rP rfl (aQ rfl rfl) (rP rfl (aQ rfl rfl) (pa ?_))))
 refine pa (nx (aG (sq [0,1] ?_)))
 refine pm ?_
 refine rP rfl (fA rfl rfl) (nx ?_)
 refine bM h0 rfl (fun hc h0 => ?_) (fun hc h0 => ?_)
 refine sq [0,1,2,3] (rP rfl (pbl (C0 := [z0,z0,z0]) tok rfl rfl rfl) (pm ?_))
 refine bst tok ?_
 refine pa (nx (aD (aS ?_)))
 cases h0
 exact fN (rs := [.cell 6 36, .tmp 7]) rfl
 refine sk (sq [0,1,2,3,4,5,6,7] (rL rfl (aU tok rfl rfl rfl rfl) (pm ?_)))
 refine pm ?_
 obtain ⟨v2,hv2,h0⟩ := bnd h0
 refine rS rfl (aO 6 (aJ6 hv2) rfl rfl rfl) (rP rfl (aQ rfl rfl) (rP rfl (aQ rfl rfl) (bst tok ?_)))
 refine pa (nx (aD ?_))
 cases h0
 exact fN (rs := [.cell 6 36, .tmp 7]) rfl
theorem aBn {p0 : dO} {r : bQ × Int × Int} (h0 : kR p0 = some r) : FnC Tryz.prog 52 [] [.agg [dS p0.Movement.Name,(dL aL p0.Movement.Works.Arbors),(dL bC p0.Movement.Works.Meshes),(dI p0.Movement.Minute),(dI p0.Movement.Hour),(dI p0.Movement.Escape),(dI p0.Movement.Teeth),(dI p0.Movement.Beats),(dS p0.Movement.Calendar.Name),(dL aM p0.Movement.Calendar.Months),(dL aB p0.Movement.Calendar.Rules),(dI p0.Movement.Calendar.Week),(dL cI p0.Movement.Cam),(dI p0.Movement.Strike),(dI p0.Start.Year),(dI p0.Start.Month),(dI p0.Start.Day),(dI p0.First),(dI p0.Clock),(dL cI p0.Dial.Cam),(dI p0.Dial.Months),(dI p0.Dial.Teeth),(dI p0.Dial.At),(dI p0.Dial.Day),(dI p0.Dial.Week),(dI p0.Dial.Weekday)]] [] (.tup [.agg [dI r.1.Year,(dI r.1.Month),(dI r.1.Day)],(dI r.2.1),(dI r.2.2)]) := by
 refine fi 37 tok Tryz.func52 ?_
 unfold kR at h0
 refine sq [0,1,2,3] (bxx 3 ?_)
 refine al 4 [z0,z0,z0] tok ?_
 refine pa ?_
 refine pa (nx (sq [0,1,2,3] ?_))
 refine fa tok ?_
 refine ld tok ?_
 refine rP rfl (kN rfl rfl (by decide)) (pa (nx (sq [0,1,2,3,4,5,6,7,8,9,10,11,12] ?_)))
 refine fa tok ?_
 refine fa tok ?_
 refine rL rfl (aU tok rfl rfl rfl rfl) (fa tok ?_)
 refine rL rfl (aU tok rfl rfl rfl rfl) (pm ?_)
 obtain ⟨v2,hv2,h0⟩ := bnd h0
 refine rS rfl (aO 5 (aJz hv2) rfl rfl rfl) (rP rfl (aH (r := .tup _) rfl) (rP rfl (aQ rfl rfl) (rP rfl (aQ rfl rfl) (al 5 [z0,z0,z0] tok ?_))))
 refine bst tok ?_
 refine pa (nx (aG (sq [0,1] ?_)))
 refine pm ?_
 refine rP rfl (fA rfl rfl) (nx ?_)
 refine bM h0 rfl (fun hc h0 => ?_) (fun hc h0 => ?_)
 refine sq [0,1,2,3,4] (rP rfl (pbl (C0 := [z0,z0,z0]) tok rfl rfl rfl) (pm ?_))
 refine bst tok ?_
 refine pa ?_
 refine pa (nx (aD (aS ?_)))
 cases h0
 exact fN (rs := [.cell 2 36, .tmp 3, .tmp 4]) rfl
 refine sk (aG (aF (is := [0,1,2,3,4,5,6,7,8,9,10,11,12,13,14]) [0,0,2,6,0,30,0,64,192,448,1022,2046,1,8191,16383] follows (by kernel_rfl) (bS rfl w0 rfl (aU tok rfl rfl rfl rfl) rfl rfl rfl (tfa tok ?_))))
 refine tld tok ?_
 refine tP rfl (eM rfl rfl) (tpm ?_)
 refine tP rfl (bI rfl rfl) ?_
 iterate 3 refine tfa tok ?_
 refine tld tok ?_
 obtain ⟨hq3,h0⟩ := dM h0
 refine tP rfl (fJ rfl rfl hq3) (tP rfl (bI rfl rfl) (iK rfl w0 (fQ (cs := _ :: _) tok rfl rfl rfl rfl rfl rfl rfl) (tpa ?_)))
 refine tpa ?_
 refine bE ?_
 refine ⟨by kernel_rfl,?_⟩
 refine aI (aD ?_)
 cases h0
 exact fN (rs := [.cell 2 36, .tmp 3, .tmp 4]) rfl
theorem aHl {p0 : dO} {r : bQ × Int} (h0 : pZ p0 = some r) : FnC Tryz.prog 15 [] [.agg [dS p0.Movement.Name,(dL aL p0.Movement.Works.Arbors),(dL bC p0.Movement.Works.Meshes),(dI p0.Movement.Minute),(dI p0.Movement.Hour),(dI p0.Movement.Escape),(dI p0.Movement.Teeth),(dI p0.Movement.Beats),(dS p0.Movement.Calendar.Name),(dL aM p0.Movement.Calendar.Months),(dL aB p0.Movement.Calendar.Rules),(dI p0.Movement.Calendar.Week),(dL cI p0.Movement.Cam),(dI p0.Movement.Strike),(dI p0.Start.Year),(dI p0.Start.Month),(dI p0.Start.Day),(dI p0.First),(dI p0.Clock),(dL cI p0.Dial.Cam),(dI p0.Dial.Months),(dI p0.Dial.Teeth),(dI p0.Dial.At),(dI p0.Dial.Day),(dI p0.Dial.Week),(dI p0.Dial.Weekday)]] [] (.tup [.agg [dI r.1.Year,(dI r.1.Month),(dI r.1.Day)],(dI r.2)]) := by
 refine fi 19 tok Tryz.func15 ?_
 unfold pZ at h0
 refine sq [0,1,2] (bxx 3 ?_)
 refine al 4 [z0,z0,z0] tok ?_
 refine pa (nx (aG (sq [0,1,2] ?_)))
 refine rL rfl (aU tok rfl rfl rfl rfl) ?_
 obtain ⟨v1,hv1,h0⟩ := bnd h0
 refine rS rfl (aO 5 (wF hv1) rfl rfl rfl) (rP rfl (bO rfl) (nx ?_))
 refine bL h0 rfl (fun hc h0 => ?_) (fun hc h0 => ?_)
 refine sq [0,1,2] (rP rfl (pbl (C0 := [z0,z0,z0]) tok rfl rfl rfl) (bst tok ?_))
 refine pa (nx (aD (aS ?_)))
 cases h0
 exact fN (rs := [.cell 2 36, .tmp 3]) rfl
 refine sk (sq [0,1,2,3,4,5,6,7,8,9] (rL rfl (aU tok rfl rfl rfl rfl) ?_))
 obtain ⟨v2,hv2,h0⟩ := bnd h0
 refine rS rfl (aO 5 (aBn hv2) rfl rfl rfl) (rP rfl (aH (r := .tup _) rfl) ?_)
 iterate 3 refine rP rfl (aQ rfl rfl) ?_
 refine al 5 [z0,z0,z0] tok ?_
 refine bst tok ?_
 refine pa ?_
 refine pa (nx (sq [0,1,2,3] ?_))
 refine rL rfl (aU tok rfl rfl rfl rfl) (pm ?_)
 refine bst tok ?_
 refine pa (nx (aD ?_))
 cases h0
 exact fN (rs := [.cell 2 36, .tmp 3]) rfl
theorem aI9 {p0 : aA} {p1 : List Int} {p2 : Int} {r : List gX} (h0 : pP p0 p1 p2 = some r) : FnC Tryz.prog 59 [] [.agg [dS p0.Name,(dL aM p0.Months),(dL aB p0.Rules),(dI p0.Week)],(dL cI p1),(dI p2)] [.live [⟨177,4, .data (List.map wB r)⟩]] (.own 0 0 r.length) := by
 refine fi 57 tok Tryz.func59 ?_
 unfold pP at h0
 refine sq [0,1] (bxx 3 ?_)
 refine pa (nx (sq [0] ?_))
 refine pa (nx (sq [0,1,2,3] ?_))
 refine rL rfl (aU tok rfl rfl rfl rfl) (pm ?_)
 obtain ⟨v1,hv1,h0⟩ := bnd h0
 refine rS rfl (aO 4 (oE hv1) rfl rfl rfl) (pa (nx (sq [0,1,2,3] ?_)))
 refine fa tok ?_
 refine ld tok ?_
 refine rP rfl (aN tok rfl rfl rfl) (pa (nx (sq [0,1,2,3,4,5,6,7,8,9] ?_)))
 refine pm ?_
 refine pm ?_
 refine rL rfl (aU tok rfl rfl rfl rfl) (pm ?_)
 obtain ⟨v2,hv2,h0⟩ := bnd h0
 refine rS rfl (aO 4 (uW hv2) rfl rfl rfl) ?_
 obtain ⟨hq3,h0⟩ := dM h0
 refine rP rfl (fJ rfl rfl hq3) (pm ?_)
 refine rP rfl (fO rfl rfl) ?_
 obtain ⟨hq4,h0⟩ := dM h0
 refine rP rfl (uO tok hq4 rfl (.inr ⟨_,_,rfl,rfl⟩) (.inl ⟨rfl,rfl⟩) rfl rfl rfl (fun _ => rfl)) (pa (nx ?_))
 obtain ⟨v17,h1,h0⟩ := bnd h0
 refine bG ⟨aE ((fun _ => .dead)) 7 (.own 3 0 (v17).length),lks [.no, .no, .no, .live [⟨177,4, .data (List.map wB v17)⟩]]⟩ ?_ ?_
 refine sq [0] (pa (nx (aK ?_)))
 refine bD (fun s11 => ⟨aE (aE (aE (aE (aE (aE (aE ((fun _ => .dead)) 2 (dI p2)) 3 (.ptr 3 0 1 0 0)) 7 (.own 4 0 (s11.2).length)) 8 (dB v1)) 9 (dI (p0.Months.length : Int))) 10 (dL cI (xS p1 (w64 ((p2.tmod v2) * (p0.Months.length : Int))) (p1.length : Int)))) 11 (dI s11.1),lks [.no, .no, .no, .live [⟨31,4, .av [[dS p0.Name,(dL aM p0.Months),(dL aB p0.Rules),(dI p0.Week)]]⟩], .live [⟨177,4, .data (List.map wB s11.2)⟩]]⟩) h1 ?_ (fun s11 y h2 => ?_)
 refine iM.trans_ (dD 4 rfl 177 4 (d := 7) rfl) ?_
 exact wk [0,1,2,3,4]
 refine aG (sq [0,1,2] (pm ?_))
 refine pm ?_
 refine rP rfl (iW rfl rfl) (nx ?_)
 refine bM h2 rfl (fun hc h2 => ?_) (fun hc h2 => ?_)
 refine sk ?_
 obtain ⟨v16,h3,h2⟩ := bnd h2
 refine bG ⟨aE (aE (aE (aE (aE (aE (aE ((fun _ => .dead)) 2 (dI p2)) 3 (.ptr 3 0 1 0 0)) 7 (.own 4 0 (v16).length)) 8 (dB v1)) 9 (dI (p0.Months.length : Int))) 10 (dL cI (xS p1 (w64 ((p2.tmod v2) * (p0.Months.length : Int))) (p1.length : Int)))) 11 (dI s11.1),lks [.no, .no, .no, .live [⟨31,4, .av [[dS p0.Name,(dL aM p0.Months),(dL aB p0.Rules),(dI p0.Week)]]⟩], .live [⟨177,4, .data (List.map wB v16)⟩]]⟩ ?_ ?_
 refine aK (sq [0,1,2,3,4] (rL rfl (aU tok rfl rfl rfl rfl) (pm ?_)))
 refine pm ?_
 obtain ⟨v12,hv12,h3⟩ := bnd h3
 refine rS rfl (aO 5 (iQ hv12) rfl rfl rfl) (pa (nx (sq [0,1,2,3,4,5,6] ?_)))
 refine pm ?_
 refine pm ?_
 refine rP rfl (eM rfl rfl) ?_
 obtain ⟨v13,hv13,h3⟩ := bnd h3
 refine rP rfl (cV tok hv13 rfl rfl rfl rfl rfl rfl) (lr tok ?_)
 refine pm ?_
 refine rP rfl (fA rfl rfl) (nx ?_)
 refine bM h3 rfl (fun hc h3 => ?_) (fun hc h3 => ?_)
 refine sr [0,1,2,3,4,5,6,7,8,9,10,11,12] (rP rfl (aH (r := .own _ _ _) rfl) ?_)
 iterate 4 refine pm ?_
 refine rP rfl (eM rfl rfl) ?_
 obtain ⟨v14,hv14,h3⟩ := bnd h3
 refine rP rfl (cV tok hv14 rfl rfl rfl rfl rfl rfl) (lr tok ?_)
 refine pm ?_
 refine rP rfl (pbl (C0 := [z0,z0,z0,z0]) tok rfl rfl rfl) (rS rfl (iL tok wB [(⟨p2,s11.1,v14,v12⟩ : gX)] rfl rfl rfl (by repeat (first | exact Els.nil _ | apply Els.cons (cs := [.d _]) rfl rfl rfl | apply Els.cons (cs := _ :: _) rfl rfl rfl)) rfl rfl rfl (by repeat (first | exact cX.nil | (apply cX.cons; (repeat (first | exact fZ.nil | apply fZ.cons))))) rfl) ?_)
 obtain ⟨hq15,h3⟩ := dM h3
 refine rw1 rfl w0 rfl (fP tok hq15 rfl rfl rfl rfl rfl rfl rfl rfl rfl rfl rfl rfl (fun _ => rfl)) (rP rfl (aR (r := .own _ _ _) rfl) (bB (bF (aI ?_))))
 cases h3
 exact wk [0,1,2,3,4]
 refine cU (bF (aI ?_))
 cases h3
 exact wk [0,1,2,3,4]
 refine sr [0,1,2] (pm ?_)
 refine rP rfl (bI rfl rfl) (pa (bB ?_))
 refine cA ?_
 cases h2
 refine ⟨_,rfl,?_⟩
 exact wk [0,1,2,3,4]
 refine bK (bY ?_)
 cases h2
 refine cC ⟨_,rfl,fun e => ?_⟩
 subst e
 refine aY (aI ?_)
 exact wk [0,1,2,4]
 refine sq [0,1] (rP rfl (aH (r := .own _ _ _) rfl) (rP rfl (aR (r := .own _ _ _) rfl) (nx (aD ?_))))
 cases h0
 exact dJ (rs := [.tmp 6]) [3] rfl
theorem aF8 {p0 : aA} {p1 : List Int} {p2 : Int} {p3 : Int} {r : List gX × Int} (h0 : nL p0 p1 p2 p3 = some r) : FnC Tryz.prog 18 [] [.agg [dS p0.Name,(dL aM p0.Months),(dL aB p0.Rules),(dI p0.Week)],(dL cI p1),(dI p2),(dI p3)] [.live [⟨177,4, .data (List.map wB r.1)⟩]] (.tup [.own 0 0 r.1.length,(dI r.2)]) := by
 refine fi 48 tok Tryz.func18 ?_
 unfold nL at h0
 refine sq [0,1,2] (bxx 3 ?_)
 refine pa ?_
 refine pa (nx (aG (sq [0,1,2,3] ?_)))
 refine rL rfl (aU tok rfl rfl rfl rfl) (pm ?_)
 obtain ⟨v1,hv1,h0⟩ := bnd h0
 refine rS rfl (aO 4 (aA6 hv1) rfl rfl rfl) (pa (nx (sq [0,1] ?_)))
 refine pm ?_
 refine rP rfl (fA rfl rfl) (nx ?_)
 refine bM h0 rfl (fun hc h0 => ?_) (fun hc h0 => ?_)
 refine sq [0,1,2] (pm ?_)
 refine pa ?_
 refine pa (nx ?_)
 refine cJ (dD 4 rfl 177 4 (d := 8) rfl) (aD (aS ?_))
 cases h0
 exact dJ (rs := [.tmp 8, .tmp 9]) [4] rfl
 refine sk (aG ?_)
 obtain ⟨v4,h1,h0⟩ := bnd h0
 refine bG ⟨aE (aE (aE (aE (aE ((fun _ => .dead)) 1 (dL cI p1)) 2 (dI p2)) 3 (dI p3)) 4 (.ptr 3 0 1 0 0)) 31 (dB v4),lks [.no, .no, .no, .live [⟨31,4, .av [[dS p0.Name,(dL aM p0.Months),(dL aB p0.Rules),(dI p0.Week)]]⟩]]⟩ ?_ ?_
 refine sr [0,1,2,3,4,5,6,7,8,9,10,11,12] (pm ?_)
 obtain ⟨v2,hv2,h1⟩ := bnd h1
 refine rS rfl (aO 4 (xH hv2) rfl rfl rfl) (rP rfl (bO rfl) (pm ?_))
 refine dH (u := 22) h1 rfl (fun hc h1 => ?_) (fun hc h1 => ?_)
 iterate 3 refine k1 ?_
 refine pkt ?_
 refine pm ?_
 iterate 3 refine k1 ?_
 refine pkt (nx ?_)
 cases h1
 exact wk [0,1,2,3]
 refine pm1 ?_
 obtain ⟨v3,hv3,h1⟩ := bnd h1
 refine rs rfl (w1 rfl rfl rfl) rfl (aO 4 (xH hv3) rfl rfl rfl) (rp rfl (w1 rfl rfl rfl) rfl (bO rfl) (pkf ?_))
 refine pm ?_
 refine dH (u := 27) h1 rfl (fun hc h1 => ?_) (fun hc h1 => ?_)
 iterate 3 refine k1 ?_
 refine pkt (nx ?_)
 cases h1
 exact wk [0,1,2,3]
 refine pm1 ?_
 refine pm1 ?_
 refine rp rfl (w1 rfl rfl rfl) rfl (eI rfl rfl) (pkf (nx ?_))
 cases h1
 exact wk [0,1,2,3]
 refine bL h0 rfl (fun hc h0 => ?_) (fun hc h0 => ?_)
 refine sq [0,1] (pa ?_)
 refine pa (nx ?_)
 refine cJ (dD 4 rfl 177 4 (d := 8) rfl) (aD (aS ?_))
 cases h0
 exact dJ (rs := [.tmp 8, .tmp 9]) [4] rfl
 refine sk (sq [0] (pa (nx ?_)))
 obtain ⟨v11x,h1,h0⟩ := bnd h0
 refine dX v11x (fun v11 => ⟨aE ((fun _ => .dead)) 11 (.own 3 0 (v11).length),lks [.no, .no, .no, .live [⟨177,4, .data (List.map wB v11)⟩]]⟩) ?_ ?_
 refine sq [0,1] (pm ?_)
 refine pa (nx (aK ?_))
 refine bD (fun s8 => ⟨aE (aE (aE (aE (aE ((fun _ => .dead)) 1 (dL cI p1)) 3 (dI p3)) 4 (.ptr 3 0 1 0 0)) 11 (.own 4 0 (s8.2).length)) 12 (dI s8.1),lks [.no, .no, .no, .live [⟨31,4, .av [[dS p0.Name,(dL aM p0.Months),(dL aB p0.Rules),(dI p0.Week)]]⟩], .live [⟨177,4, .data (List.map wB s8.2)⟩]]⟩) h1 ?_ (fun s8 y h2 => ?_)
 refine iM.trans_ (dD 4 rfl 177 4 (d := 11) rfl) ?_
 exact wk [0,1,2,3,4]
 refine aG (sq [0,1,2] (pm ?_))
 refine pm ?_
 refine rP rfl (iW rfl rfl) (nx ?_)
 refine bM h2 rfl (fun hc h2 => ?_) (fun hc h2 => ?_)
 refine sk (aG (aK (sq [0,1,2,3,4,5,6] (rP rfl (aH (r := .own _ _ _) rfl) (rL rfl (aU tok rfl rfl rfl rfl) (pm ?_))))))
 refine pm ?_
 obtain ⟨v9,hv9,h2⟩ := bnd h2
 refine rS rfl (aO 5 (aI9 hv9) rfl rfl rfl) ?_
 obtain ⟨hq10,h2⟩ := dM h2
 refine rw1 rfl w0 rfl (aTu tok hq10 rfl rfl rfl rfl rfl rfl rfl rfl rfl rfl rfl rfl rfl rfl rfl) (rP rfl (aR (r := .own _ _ _) rfl) (nx (sq [0,1,2] (rP rfl (aH (r := .own _ _ _) rfl) (rL rfl (nO tok rfl rfl rfl rfl rfl) (rP rfl (eI rfl rfl) (nx ?_)))))))
 refine bM h2 rfl (fun hc h2 => ?_) (fun hc h2 => ?_)
 refine sq [0,1] (pa ?_)
 refine pa (nx ?_)
 refine cJ (dD 6 rfl 177 4 (d := 8) rfl) (aD (bH (aS ?_)))
 cases h2
 refine eV ⟨_,rfl,fun e => ?_⟩
 subst e
 refine bH ?_
 replace h0 := gG h0
 refine aS ?_
 cases h0
 exact dJ (rs := [.tmp 8, .tmp 9]) [6] rfl
 refine cU (bF (aI (sr [0,1,2] (pm ?_))))
 refine rP rfl (bI rfl rfl) (pa (bB ?_))
 refine cA ?_
 cases h2
 refine ⟨_,rfl,?_⟩
 exact wk [0,1,2,3,4]
 refine bK (bY ?_)
 cases h2
 refine cC ⟨_,rfl,fun e => ?_⟩
 subst e
 refine aY (aI ?_)
 refine ⟨_,rfl,?_⟩
 exact wk [0,1,2,4]
 rintro v11 rfl
 replace h0 := iP h0
 refine sq [0,1,2] (rP rfl (aH (r := .own _ _ _) rfl) (rP rfl (aR (r := .own _ _ _) rfl) (pa (nx (aD ?_)))))
 cases h0
 exact dJ (rs := [.tmp 8, .tmp 9]) [3] rfl
theorem aEi {p0 : aC} {r : Int} (h0 : lR p0 = some r) : FnC Tryz.prog 131 [] [.agg [dL cI p0.Cam,(dI p0.Months),(dI p0.Teeth),(dI p0.At),(dI p0.Day),(dI p0.Week),(dI p0.Weekday)]] [] (dI r) := by
 refine fi 9 tok Tryz.func131 ?_
 unfold lR at h0
 refine sq [0,1] (bxx 3 ?_)
 refine pa (nx (sq [0,1,2,3,4,5,6] ?_))
 refine fa tok ?_
 refine ld tok ?_
 refine fa tok ?_
 refine ld tok ?_
 obtain ⟨hq1,h0⟩ := dM h0
 refine rP rfl (fJ rfl rfl hq1) (rP rfl (bI rfl rfl) (pa (nx (aD ?_))))
 cases h0
 exact r0t 2 rfl
theorem aDn {p0 : aC} {p1 : Int} {p2 : Int} {r : Bool} (h0 : pE p0 p1 p2 = some r) : FnC Tryz.prog 54 [] [.agg [dL cI p0.Cam,(dI p0.Months),(dI p0.Teeth),(dI p0.At),(dI p0.Day),(dI p0.Week),(dI p0.Weekday)],(dI p1),(dI p2)] [] (dB r) := by
 refine fi 17 tok Tryz.func54 ?_
 unfold pE at h0
 refine sq [0,1] (bxx 3 ?_)
 refine pa (nx (sq [0,1,2,3,4,5,6,7,8,9,10] ?_))
 refine fa tok ?_
 refine ld tok ?_
 refine pm ?_
 refine rP rfl (eN rfl rfl) (pm ?_)
 refine gT (u := 11) h0 rfl (fun hc h0 => ?_) (fun hc h0 => ?_)
 refine rl rfl (w1 rfl rfl rfl) rfl (aU tok rfl rfl rfl rfl) ?_
 obtain ⟨v1,hv1,h0⟩ := bnd h0
 refine rs rfl (w1 rfl rfl rfl) rfl (aO 4 (aEi hv1) rfl rfl rfl) (pm1 ?_)
 refine rp rfl (w1 rfl rfl rfl) rfl (eN rfl rfl) (pkt ?_)
 refine pa (nx (aD ?_))
 cases h0
 exact r0t 6 rfl
 iterate 4 refine k1 ?_
 refine pkf ?_
 refine pa (nx (aD ?_))
 cases h0
 exact r0t 6 rfl
theorem zQ {p0 : dO} {r : Bool} (h0 : iF p0 = some r) : FnC Tryz.prog 16 [] [.agg [dS p0.Movement.Name,(dL aL p0.Movement.Works.Arbors),(dL bC p0.Movement.Works.Meshes),(dI p0.Movement.Minute),(dI p0.Movement.Hour),(dI p0.Movement.Escape),(dI p0.Movement.Teeth),(dI p0.Movement.Beats),(dS p0.Movement.Calendar.Name),(dL aM p0.Movement.Calendar.Months),(dL aB p0.Movement.Calendar.Rules),(dI p0.Movement.Calendar.Week),(dL cI p0.Movement.Cam),(dI p0.Movement.Strike),(dI p0.Start.Year),(dI p0.Start.Month),(dI p0.Start.Day),(dI p0.First),(dI p0.Clock),(dL cI p0.Dial.Cam),(dI p0.Dial.Months),(dI p0.Dial.Teeth),(dI p0.Dial.At),(dI p0.Dial.Day),(dI p0.Dial.Week),(dI p0.Dial.Weekday)]] [] (dB r) := by
 refine fi 33 tok Tryz.func16 ?_
 unfold iF at h0
 refine sq [0,1] (bxx 3 ?_)
 refine pa (nx (aG (sq [0,1,2] ?_)))
 refine rL rfl (aU tok rfl rfl rfl rfl) ?_
 obtain ⟨v1,hv1,h0⟩ := bnd h0
 refine rS rfl (aO 4 (wF hv1) rfl rfl rfl) (rP rfl (bO rfl) (nx ?_))
 refine bL h0 rfl (fun hc h0 => ?_) (fun hc h0 => ?_)
 refine sq [0] (pa (nx (aD (aS ?_))))
 cases h0
 exact r0t 2 rfl
 refine sk (sq [0,1,2,3,4,5,6,7,8,9] (rL rfl (aU tok rfl rfl rfl rfl) ?_))
 obtain ⟨v2,hv2,h0⟩ := bnd h0
 refine rS rfl (aO 4 (aBn hv2) rfl rfl rfl) (rP rfl (aH (r := .tup _) rfl) ?_)
 iterate 3 refine rP rfl (aQ rfl rfl) ?_
 refine al 4 [z0,z0,z0] tok ?_
 refine bst tok ?_
 refine pa ?_
 refine pa (nx (sq [0,1,2,3,4,5,6,7,8,9,10,11,12,13,14,15,16,17,18] ?_))
 refine pm ?_
 refine rP rfl (eN rfl rfl) (pm ?_)
 refine gT (u := 17) h0 rfl (fun hc h0 => ?_) (fun hc h0 => ?_)
 refine fa1 tok ?_
 refine rl rfl (w1 rfl rfl rfl) rfl (aU tok rfl rfl rfl rfl) (fa1 tok ?_)
 refine ld1 tok ?_
 refine fa1 tok ?_
 refine ld1 tok ?_
 obtain ⟨v3,hv3,h0⟩ := bnd h0
 refine rs rfl (w1 rfl rfl rfl) rfl (aO 5 (aDn hv3) rfl rfl rfl) (pkt ?_)
 refine pm ?_
 refine dH (u := 26) h0 rfl (fun hc h0 => ?_) (fun hc h0 => ?_)
 refine fa1 tok ?_
 refine fa1 tok ?_
 refine ld1 tok ?_
 refine pm1 ?_
 refine rp rfl (w1 rfl rfl rfl) rfl (eN rfl rfl) (pkt ?_)
 refine pa (nx (aD ?_))
 cases h0
 exact r0t 2 rfl
 iterate 5 refine k1 ?_
 refine pkf ?_
 refine pa (nx (aD ?_))
 cases h0
 exact r0t 2 rfl
 iterate 7 refine k1 ?_
 refine pkf ?_
 refine pm ?_
 iterate 5 refine k1 ?_
 refine pkf ?_
 refine pa (nx (aD ?_))
 cases h0
 exact r0t 2 rfl
theorem uE {p0 : aC} {r : aC} (h0 : gL p0 = some r) : FnC Tryz.prog 49 [.live [⟨38,7, .av [[dL cI p0.Cam,(dI p0.Months),(dI p0.Teeth),(dI p0.At),(dI p0.Day),(dI p0.Week),(dI p0.Weekday)]]⟩]] [.ptr 0 0 1 0 0] [.live [⟨38,7, .av [[dL cI r.Cam,(dI r.Months),(dI r.Teeth),(dI r.At),(dI r.Day),(dI r.Week),(dI r.Weekday)]]⟩]] (.tup []) := by
 refine fi 16 tok Tryz.func49 ?_
 unfold gL at h0
 refine aF (is := [0,1,2,3,4,5,6,7,8,9,10,11,12,13,14]) [0,0,2,6,14,30,0,64,192,448,960,2046,4095,8191,16383] follows (by kernel_rfl) (tP rfl (aH (r := .ptr _ _ _ _ _) rfl) (tP rfl (aH (r := .ptr _ _ _ _ _) rfl) (bS rfl w0 rfl (cW rfl rfl) rfl rfl rfl (tfa tok ?_))))
 refine tld tok ?_
 refine tP rfl (bI rfl rfl) (tP rfl (aH (r := .ptr _ _ _ _ _) rfl) (bS rfl w0 rfl (cW rfl rfl) rfl rfl rfl (tfa tok ?_)))
 refine tld tok ?_
 refine tP rfl (aN tok rfl rfl rfl) ?_
 obtain ⟨hq1,h0⟩ := dM h0
 refine tP rfl (fJ rfl rfl hq1) (bS rfl w0 rfl (cW rfl rfl) rfl rfl rfl (tfa tok ?_))
 refine iK rfl w0 (fQ (cs := [.d _]) tok rfl rfl rfl rfl rfl rfl rfl) (bE ?_)
 refine ⟨by kernel_rfl,?_⟩
 cases h0
 exact nU (rs := []) 1 rfl rfl
theorem vJ {p0 : aC} {p1 : Int} {r : aC} (h0 : fU p0 p1 = some r) : FnC Tryz.prog 48 [.live [⟨38,7, .av [[dL cI p0.Cam,(dI p0.Months),(dI p0.Teeth),(dI p0.At),(dI p0.Day),(dI p0.Week),(dI p0.Weekday)]]⟩]] [.ptr 0 0 1 0 0,(dI p1)] [.live [⟨38,7, .av [[dL cI r.Cam,(dI r.Months),(dI r.Teeth),(dI r.At),(dI r.Day),(dI r.Week),(dI r.Weekday)]]⟩]] (.tup []) := by
 refine fi 34 tok Tryz.func48 ?_
 unfold fU at h0
 refine sq [0,1,2,3,4,5,6,7,8] (rP rfl (aH (r := .ptr _ _ _ _ _) rfl) (rL rfl (cW rfl rfl) (fa tok ?_)))
 refine ld tok ?_
 refine pm ?_
 refine rP rfl (bI rfl rfl) (rL rfl (cW rfl rfl) (fa tok ?_))
 refine bs1 tok (nx (aG ?_))
 refine aF (is := [0,1,2,3,4,5,6,7,8]) [0,1,3,7,0,16,48,112,255] follows (by kernel_rfl) (tP rfl (aH (r := .ptr _ _ _ _ _) rfl) (bS rfl w0 rfl (cW rfl rfl) rfl rfl rfl (tfa tok ?_)))
 refine tld tok ?_
 refine tP rfl (aH (r := .ptr _ _ _ _ _) rfl) (bS rfl w0 rfl (cW rfl rfl) rfl rfl rfl (tfa tok ?_))
 refine tld tok ?_
 refine tP rfl (eI rfl rfl) (bE ?_)
 refine ⟨by kernel_rfl,?_⟩
 refine aI ?_
 refine bM h0 rfl (fun hc h0 => ?_) (fun hc h0 => ?_)
 refine aG (aF (is := [0,1,2,3,4,5,6,7,8,9,10,11]) [0,1,3,7,0,16,48,112,255,511,1023,2047] follows (by kernel_rfl) (tP rfl (aH (r := .ptr _ _ _ _ _) rfl) (bS rfl w0 rfl (cW rfl rfl) rfl rfl rfl (tfa tok ?_))))
 refine tld tok ?_
 refine tP rfl (aH (r := .ptr _ _ _ _ _) rfl) (bS rfl w0 rfl (cW rfl rfl) rfl rfl rfl (tfa tok ?_))
 refine tld tok ?_
 refine tP rfl (eM rfl rfl) (bS rfl w0 rfl (cW rfl rfl) rfl rfl rfl (tfa tok ?_))
 refine iK rfl w0 (fQ (cs := [.d _]) tok rfl rfl rfl rfl rfl rfl rfl) (bE ?_)
 refine ⟨by kernel_rfl,?_⟩
 refine aI (sr [0,1] (rP rfl (aH (r := .ptr _ _ _ _ _) rfl) ?_))
 obtain ⟨v1,hv1,h0⟩ := bnd h0
 refine rw1 rfl w0 rfl (dU [0] 300 (uE hv1) rfl rfl) (bB ?_)
 cases h0
 exact nU (rs := []) 1 rfl rfl
 refine cU ?_
 cases h0
 exact nU (rs := []) 1 rfl rfl
theorem sZ {p0 : aC} {r : aC} (h0 : gB p0 = some r) : FnC Tryz.prog 50 [.live [⟨38,7, .av [[dL cI p0.Cam,(dI p0.Months),(dI p0.Teeth),(dI p0.At),(dI p0.Day),(dI p0.Week),(dI p0.Weekday)]]⟩]] [.ptr 0 0 1 0 0] [.live [⟨38,7, .av [[dL cI r.Cam,(dI r.Months),(dI r.Teeth),(dI r.At),(dI r.Day),(dI r.Week),(dI r.Weekday)]]⟩]] (.tup []) := by
 refine fi 15 tok Tryz.func50 ?_
 unfold gB at h0
 refine aF (is := [0,1,2,3,4,5,6,7,8,9,10,11,12,13]) [0,0,2,6,14,0,32,96,224,510,1022,2047,4095,8191] follows (by kernel_rfl) (tP rfl (aH (r := .ptr _ _ _ _ _) rfl) (tP rfl (aH (r := .ptr _ _ _ _ _) rfl) (bS rfl w0 rfl (cW rfl rfl) rfl rfl rfl (tfa tok ?_))))
 refine tld tok ?_
 refine tP rfl (aH (r := .ptr _ _ _ _ _) rfl) (bS rfl w0 rfl (cW rfl rfl) rfl rfl rfl (tfa tok ?_))
 refine tld tok ?_
 obtain ⟨hq1,h0⟩ := dM h0
 refine tP rfl (fJ rfl rfl hq1) (tP rfl (bI rfl rfl) (bS rfl w0 rfl (cW rfl rfl) rfl rfl rfl (tfa tok ?_)))
 refine iK rfl w0 (fQ (cs := [.d _]) tok rfl rfl rfl rfl rfl rfl rfl) (bE ?_)
 refine ⟨by kernel_rfl,?_⟩
 cases h0
 exact nU (rs := []) 1 rfl rfl
theorem vK {p0 : aC} {r : aC} (h0 : fV p0 = some r) : FnC Tryz.prog 44 [.live [⟨38,7, .av [[dL cI p0.Cam,(dI p0.Months),(dI p0.Teeth),(dI p0.At),(dI p0.Day),(dI p0.Week),(dI p0.Weekday)]]⟩]] [.ptr 0 0 1 0 0] [.live [⟨38,7, .av [[dL cI r.Cam,(dI r.Months),(dI r.Teeth),(dI r.At),(dI r.Day),(dI r.Week),(dI r.Weekday)]]⟩]] (.tup []) := by
 refine fi 10 tok Tryz.func44 ?_
 unfold fV at h0
 refine sq [0,1,2,3,4,5] (rP rfl (aH (r := .ptr _ _ _ _ _) rfl) (rP rfl (aH (r := .ptr _ _ _ _ _) rfl) (rL rfl (cW rfl rfl) (rL rfl (aU tok rfl rfl rfl rfl) ?_))))
 obtain ⟨v1,hv1,h0⟩ := bnd h0
 refine rS rfl (aO 3 (tT hv1) rfl rfl rfl) ?_
 obtain ⟨v2,hv2,h0⟩ := bnd h0
 refine rw1 rfl w0 rfl (dU [0] 300 (vJ hv2) rfl rfl) (nx (sr [0,1] (rP rfl (aH (r := .ptr _ _ _ _ _) rfl) ?_)))
 obtain ⟨v3,hv3,h0⟩ := bnd h0
 refine rw1 rfl w0 rfl (dU [0] 300 (sZ hv3) rfl rfl) (bB ?_)
 cases h0
 exact nU (rs := []) 1 rfl rfl
theorem aIs {p0 : aA} {p1 : bQ} {r : bQ} (h0 : pB p0 p1 = some r) : FnC Tryz.prog 63 [] [.agg [dS p0.Name,(dL aM p0.Months),(dL aB p0.Rules),(dI p0.Week)], .agg [dI p1.Year,(dI p1.Month),(dI p1.Day)]] [] (.agg [dI r.Year,(dI r.Month),(dI r.Day)]) := by
 refine fi 36 tok Tryz.func63 ?_
 unfold pB at h0
 refine sq [0,1,2] (bxx 3 ?_)
 refine bxx 4 ?_
 refine al 5 [z0,z0,z0] tok (nx (sq [0,1,2,3,4] ?_))
 refine fa tok ?_
 refine ld tok ?_
 refine rP rfl (bI rfl rfl) (fa tok ?_)
 refine bs1 tok (nx ?_)
 obtain ⟨v3,h1,h0⟩ := bnd h0
 refine bG ⟨aE (aE (aE ((fun _ => .dead)) 2 (.ptr 3 0 1 0 0)) 3 (.ptr 4 0 1 0 0)) 4 (.ptr 5 0 1 0 0),lks [.no, .no, .no, .live [⟨31,4, .av [[dS p0.Name,(dL aM p0.Months),(dL aB p0.Rules),(dI p0.Week)]]⟩], .live [⟨36,3, .av [[dI v3.Year,(dI v3.Month),(dI v3.Day)]]⟩], .live [⟨36,3, .av [[z0,z0,z0]]⟩]]⟩ ?_ ?_
 refine aG (aF (is := [0,1,2,3,4,5,7,8,6,9,10]) [0,1,0,0,0,16,56,0,128,508,1023] follows (by kernel_rfl) (tfa tok ?_))
 refine tld tok ?_
 refine bS rfl w0 rfl (aU tok rfl rfl rfl rfl) rfl rfl rfl (bS rfl w0 rfl (aU tok rfl rfl rfl rfl) rfl rfl rfl (tfa tok ?_))
 refine tld tok ?_
 refine tfa tok ?_
 refine tld tok ?_
 obtain ⟨v1,hv1,h1⟩ := bnd h1
 refine jB rfl w0 rfl (cP 6 (oE hv1) rfl rfl rfl) ?_
 obtain ⟨v2,hv2,h1⟩ := bnd h1
 refine jB rfl w0 rfl (cP 6 (iQ hv2) rfl rfl rfl) (tP rfl (eI rfl rfl) (bE ?_))
 refine ⟨by kernel_rfl,?_⟩
 refine aI ?_
 refine bM h1 rfl (fun hc h1 => ?_) (fun hc h1 => ?_)
 refine sq [0,1] (fa tok ?_)
 refine bs1 tok (nx (sr [0,1,2,3,4] ?_))
 refine fa tok ?_
 refine ld tok ?_
 refine rP rfl (bI rfl rfl) (fa tok ?_)
 refine bs1 tok (nx ?_)
 cases h1
 exact wk [0,1,2,3,4,5]
 refine sk ?_
 cases h1
 exact wk [0,1,2,3,4,5]
 obtain ⟨v5,h1,h0⟩ := bnd h0
 refine bG ⟨aE (aE ((fun _ => .dead)) 3 (.ptr 3 0 1 0 0)) 4 (.ptr 4 0 1 0 0),lks [.no, .no, .no, .live [⟨36,3, .av [[dI v5.Year,(dI v5.Month),(dI v5.Day)]]⟩], .live [⟨36,3, .av [[z0,z0,z0]]⟩]]⟩ ?_ ?_
 refine sq [0,1,2,3,4] (rL rfl (aU tok rfl rfl rfl rfl) (fa tok ?_))
 refine ld tok ?_
 obtain ⟨v4,hv4,h1⟩ := bnd h1
 refine rS rfl (aO 6 (aD1 hv4) rfl rfl rfl) (rP rfl (bO rfl) (nx ?_))
 refine bL h1 rfl (fun hc h1 => ?_) (fun hc h1 => ?_)
 refine sq [0,1] (fa tok ?_)
 refine bs1 tok (nx (sr [0,1,2,3,4] ?_))
 refine fa tok ?_
 refine ld tok ?_
 refine rP rfl (bI rfl rfl) (fa tok ?_)
 refine bs1 tok (nx ?_)
 cases h1
 exact wk [0,1,2,4,5]
 refine sk ?_
 cases h1
 exact wk [0,1,2,4,5]
 refine sq [0,1] (rL rfl (aU tok rfl rfl rfl rfl) (bst tok (nx (aD ?_))))
 cases h0
 exact fN (rs := [.cell 4 36]) rfl
theorem aEg {p0 : aA} {p1 : aC} {p2 : bQ} {p3 : Int} {r : Int × Int} (h0 : lO p0 p1 p2 p3 = some r) : FnC Tryz.prog 19 [] [.agg [dS p0.Name,(dL aM p0.Months),(dL aB p0.Rules),(dI p0.Week)], .agg [dL cI p1.Cam,(dI p1.Months),(dI p1.Teeth),(dI p1.At),(dI p1.Day),(dI p1.Week),(dI p1.Weekday)], .agg [dI p2.Year,(dI p2.Month),(dI p2.Day)],(dI p3)] [] (.tup [dI r.1,(dI r.2)]) := by
 refine fi 59 tok Tryz.func19 ?_
 unfold lO at h0
 refine sq [0,1,2,3,4] (bxx 3 ?_)
 refine bxx 4 ?_
 refine bxx 5 ?_
 refine pa ?_
 refine pa (nx (aG (aK ?_)))
 obtain ⟨v3,h1,h0⟩ := bnd h0
 refine bG ⟨aE (aE (aE (aE (aE ((fun _ => .dead)) 3 (dI p3)) 4 (.ptr 3 0 1 0 0)) 5 (.ptr 4 0 1 0 0)) 6 (.ptr 5 0 1 0 0)) 11 (dB v3),lks [.no, .no, .no, .live [⟨31,4, .av [[dS p0.Name,(dL aM p0.Months),(dL aB p0.Rules),(dI p0.Week)]]⟩], .live [⟨38,7, .av [[dL cI p1.Cam,(dI p1.Months),(dI p1.Teeth),(dI p1.At),(dI p1.Day),(dI p1.Week),(dI p1.Weekday)]]⟩], .live [⟨36,3, .av [[dI p2.Year,(dI p2.Month),(dI p2.Day)]]⟩]]⟩ ?_ ?_
 refine sr [0,1,2,3,4,5,6,7,8] (rL rfl (aU tok rfl rfl rfl rfl) ?_)
 obtain ⟨v1,hv1,h1⟩ := bnd h1
 refine rS rfl (aO 6 (iZ hv1) rfl rfl rfl) (rP rfl (bO rfl) (pm ?_))
 refine dH (u := 15) h1 rfl (fun hc h1 => ?_) (fun hc h1 => ?_)
 iterate 3 refine k1 ?_
 refine pkt ?_
 refine pa (nx ?_)
 cases h1
 exact wk [0,1,2,3,4,5]
 refine rl rfl (w1 rfl rfl rfl) rfl (aU tok rfl rfl rfl rfl) ?_
 obtain ⟨v2,hv2,h1⟩ := bnd h1
 refine rs rfl (w1 rfl rfl rfl) rfl (aO 6 (sR hv2) rfl rfl rfl) (rp rfl (w1 rfl rfl rfl) rfl (bO rfl) (pkf ?_))
 refine pa (nx ?_)
 cases h1
 exact wk [0,1,2,3,4,5]
 refine bL h0 rfl (fun hc h0 => ?_) (fun hc h0 => ?_)
 refine sq [0,1] (pa ?_)
 refine pa (nx (aD ?_))
 refine bH (aS ?_)
 cases h0
 exact fN (rs := [.tmp 8, .tmp 9]) rfl
 obtain ⟨v6,h1,h0⟩ := bnd h0
 refine bG ⟨aE (aE (aE (aE (aE ((fun _ => .dead)) 3 (dI p3)) 4 (.ptr 3 0 1 0 0)) 5 (.ptr 4 0 1 0 0)) 6 (.ptr 5 0 1 0 0)) 20 (dB v6),lks [.no, .no, .no, .live [⟨31,4, .av [[dS p0.Name,(dL aM p0.Months),(dL aB p0.Rules),(dI p0.Week)]]⟩], .live [⟨38,7, .av [[dL cI p1.Cam,(dI p1.Months),(dI p1.Teeth),(dI p1.At),(dI p1.Day),(dI p1.Week),(dI p1.Weekday)]]⟩], .live [⟨36,3, .av [[dI p2.Year,(dI p2.Month),(dI p2.Day)]]⟩]]⟩ ?_ ?_
 refine sr [0,1,2,3,4,5,6,7,8,9] (rL rfl (aU tok rfl rfl rfl rfl) (rL rfl (aU tok rfl rfl rfl rfl) ?_))
 obtain ⟨v4,hv4,h1⟩ := bnd h1
 refine rS rfl (aO 6 (uT hv4) rfl rfl rfl) (rP rfl (bO rfl) (pm ?_))
 refine dH (u := 25) h1 rfl (fun hc h1 => ?_) (fun hc h1 => ?_)
 iterate 3 refine k1 ?_
 refine pkt ?_
 refine pa (nx ?_)
 cases h1
 exact wk [0,1,2,3,4,5]
 refine pm1 ?_
 obtain ⟨v5,hv5,h1⟩ := bnd h1
 refine rs rfl (w1 rfl rfl rfl) rfl (aO 6 (dC hv5) rfl rfl rfl) (rp rfl (w1 rfl rfl rfl) rfl (bO rfl) (pkf ?_))
 refine pa (nx ?_)
 cases h1
 exact wk [0,1,2,3,4,5]
 refine bL h0 rfl (fun hc h0 => ?_) (fun hc h0 => ?_)
 refine sq [0,1] (pa ?_)
 refine pa (nx (aD ?_))
 refine bH (aS ?_)
 cases h0
 exact fN (rs := [.tmp 8, .tmp 9]) rfl
 refine sq [0,1,2,3,4,5,6,7] (rL rfl (aU tok rfl rfl rfl rfl) (fa tok ?_))
 refine ld tok ?_
 refine fa tok ?_
 refine ld tok ?_
 obtain ⟨v7,hv7,h0⟩ := bnd h0
 refine rS rfl (aO 6 (aDn hv7) rfl rfl rfl) (rP rfl (bO rfl) (pa (nx ?_)))
 refine bL h0 rfl (fun hc h0 => ?_) (fun hc h0 => ?_)
 refine sq [0,1] (pa ?_)
 refine pa (nx (aD ?_))
 refine bH (aS ?_)
 cases h0
 exact fN (rs := [.tmp 8, .tmp 9]) rfl
 refine cU (bF (aI ?_))
 obtain ⟨v18x,h1,h0⟩ := bnd h0
 refine dX v18x (fun v18 => ⟨(fun _ => .dead),lks [.no, .no, .no]⟩) ?_ ?_
 refine sq [0] (pa (nx (aK ?_)))
 refine bD (fun s13 => ⟨aE (aE (aE (aE (aE ((fun _ => .dead)) 3 (dI p3)) 4 (.ptr 3 0 1 0 0)) 5 (.ptr 4 0 1 0 0)) 6 (.ptr 5 0 1 0 0)) 10 (dI s13.1),lks [.no, .no, .no, .live [⟨31,4, .av [[dS p0.Name,(dL aM p0.Months),(dL aB p0.Rules),(dI p0.Week)]]⟩], .live [⟨38,7, .av [[dL cI s13.2.1.Cam,(dI s13.2.1.Months),(dI s13.2.1.Teeth),(dI s13.2.1.At),(dI s13.2.1.Day),(dI s13.2.1.Week),(dI s13.2.1.Weekday)]]⟩], .live [⟨36,3, .av [[dI s13.2.2.Year,(dI s13.2.2.Month),(dI s13.2.2.Day)]]⟩]]⟩) h1 ?_ (fun s13 y h2 => ?_)
 exact wk [0,1,2,3,4,5]
 refine aG (sq [0,1,2] (pm ?_))
 refine pm ?_
 refine rP rfl (iW rfl rfl) (nx ?_)
 refine bM h2 rfl (fun hc h2 => ?_) (fun hc h2 => ?_)
 refine sk (aG (aK (sq [0] ?_)))
 obtain ⟨v14,hv14,h2⟩ := bnd h2
 refine rw1 rfl w0 rfl (dU [4] 300 (vK hv14) rfl rfl) (nx (sq [0,1,2,3] (rL rfl (aU tok rfl rfl rfl rfl) (rL rfl (aU tok rfl rfl rfl rfl) ?_))))
 obtain ⟨v15,hv15,h2⟩ := bnd h2
 refine rS rfl (aO 6 (aIs hv15) rfl rfl rfl) (bst tok (nx (aG (sq [0,1,2,3] ?_))))
 refine fa tok ?_
 refine ld tok ?_
 obtain ⟨v16,hv16,h2⟩ := bnd h2
 refine rS rfl (aO 6 (xH hv16) rfl rfl rfl) (rP rfl (bO rfl) (nx ?_))
 refine bL h2 rfl (fun hc h2 => ?_) (fun hc h2 => ?_)
 refine bK (bY (aO6 rfl (bY ?_)))
 cases h2
 refine cC ⟨_,rfl,fun e => ?_⟩
 subst e
 refine aY (aI ?_)
 refine ⟨_,rfl,?_⟩
 exact wk [0,1,2]
 refine sk (sq [0,1,2,3,4,5,6] (rL rfl (aU tok rfl rfl rfl rfl) (fa tok ?_)))
 refine ld tok ?_
 refine fa tok ?_
 refine ld tok ?_
 obtain ⟨v17,hv17,h2⟩ := bnd h2
 refine rS rfl (aO 6 (aDn hv17) rfl rfl rfl) (rP rfl (bO rfl) (nx ?_))
 refine bL h2 rfl (fun hc h2 => ?_) (fun hc h2 => ?_)
 refine sq [0,1,2] (pm ?_)
 refine pa ?_
 refine pa (nx (aD ?_))
 refine bH (aS ?_)
 cases h2
 refine eV ⟨_,rfl,fun e => ?_⟩
 subst e
 refine bH ?_
 replace h0 := gG h0
 refine aS ?_
 cases h0
 exact fN (rs := [.tmp 8, .tmp 9]) rfl
 refine cU (bF (aI (sr [0,1,2] (pm ?_))))
 refine rP rfl (bI rfl rfl) (pa (bB ?_))
 refine cA ?_
 cases h2
 refine ⟨_,rfl,?_⟩
 exact wk [0,1,2,3,4,5]
 refine bK (bY ?_)
 cases h2
 refine cC ⟨_,rfl,fun e => ?_⟩
 subst e
 refine aY (aI ?_)
 refine ⟨_,rfl,?_⟩
 exact wk [0,1,2]
 rintro v18 rfl
 replace h0 := iP h0
 refine sq [0,1] (pa ?_)
 refine pa (nx (aD ?_))
 cases h0
 exact fN (rs := [.tmp 8, .tmp 9]) rfl
theorem aNp {p0 : List Int} {p1 : List Int} {r : Bool} (h0 : vN p0 p1 = some r) : FnC Tryz.prog 4 [] [dL cU8 p0,(dL cU8 p1)] [] (dB r) := by
 refine fi 135 tok Tryz.func4 ?_
 unfold vN at h0
 refine sq [0] (pa (nx (aG (sq [0,1,2] ?_))))
 refine pm ?_
 refine pm ?_
 obtain ⟨v1,hv1,h0⟩ := bnd h0
 refine rS rfl (aO 3 (aMy hv1) rfl rfl rfl) (nx ?_)
 refine bL h0 rfl (fun hc h0 => ?_) (fun hc h0 => ?_)
 refine sq [0] (pa (nx (aD (aS ?_))))
 cases h0
 exact r0t 4 rfl
 refine sk (sq [0,1,2,3] (pm ?_))
 obtain ⟨v2,hv2,h0⟩ := bnd h0
 refine rS rfl (aO 3 (aNf hv2) rfl rfl rfl) (al 10 [ze,zl,zl,z0,z0,z0,z0,z0,ze,zl,zl,z0,zl,z0,z0,z0,z0,z0,z0,zl,z0,z0,z0,z0,z0,z0] tok ?_)
 refine bst tok (nx (sq [0,1,2] ?_))
 refine pm ?_
 obtain ⟨v3,hv3,h0⟩ := bnd h0
 refine rS rfl (aO 11 (aJ3 hv3) rfl rfl rfl) (rP rfl (aR (r := .own _ _ _) rfl) (nx (sq [0,1,2] (rL rfl (aU tok rfl rfl rfl rfl) (al 12 [ze,zl,zl,z0,z0,z0,z0,z0,ze,zl,zl,z0,zl,z0,z0,z0,z0,z0,z0,zl,z0,z0,z0,z0,z0,z0] tok ?_)))))
 refine bst tok (nx ?_)
 obtain ⟨v24x,h1,h0⟩ := bnd h0
 refine dX v24x (fun v24 => ⟨aE (aE ((fun _ => .dead)) 5 (.ptr 3 0 1 0 0)) 7 (.ptr 4 0 1 0 0),lks [.no, .no, .no, .live [⟨40,26, .av [[dS v2.Movement.Name,(dL aL v2.Movement.Works.Arbors),(dL bC v2.Movement.Works.Meshes),(dI v2.Movement.Minute),(dI v2.Movement.Hour),(dI v2.Movement.Escape),(dI v2.Movement.Teeth),(dI v2.Movement.Beats),(dS v2.Movement.Calendar.Name),(dL aM v2.Movement.Calendar.Months),(dL aB v2.Movement.Calendar.Rules),(dI v2.Movement.Calendar.Week),(dL cI v2.Movement.Cam),(dI v2.Movement.Strike),(dI v2.Start.Year),(dI v2.Start.Month),(dI v2.Start.Day),(dI v2.First),(dI v2.Clock),(dL cI v2.Dial.Cam),(dI v2.Dial.Months),(dI v2.Dial.Teeth),(dI v2.Dial.At),(dI v2.Dial.Day),(dI v2.Dial.Week),(dI v2.Dial.Weekday)]]⟩], .live [⟨40,26, .av [[dS v24.Movement.Name,(dL aL v24.Movement.Works.Arbors),(dL bC v24.Movement.Works.Meshes),(dI v24.Movement.Minute),(dI v24.Movement.Hour),(dI v24.Movement.Escape),(dI v24.Movement.Teeth),(dI v24.Movement.Beats),(dS v24.Movement.Calendar.Name),(dL aM v24.Movement.Calendar.Months),(dL aB v24.Movement.Calendar.Rules),(dI v24.Movement.Calendar.Week),(dL cI v24.Movement.Cam),(dI v24.Movement.Strike),(dI v24.Start.Year),(dI v24.Start.Month),(dI v24.Start.Day),(dI v24.First),(dI v24.Clock),(dL cI v24.Dial.Cam),(dI v24.Dial.Months),(dI v24.Dial.Teeth),(dI v24.Dial.At),(dI v24.Dial.Day),(dI v24.Dial.Week),(dI v24.Dial.Weekday)]]⟩]]⟩) ?_ ?_
 refine sq [0] (pa (nx (aK ?_)))
 refine bD (fun s14 => ⟨aE (aE (aE (aE ((fun _ => .dead)) 5 (.ptr 3 0 1 0 0)) 6 (.own 4 0 (v3).length)) 7 (.ptr 5 0 1 0 0)) 8 (dI s14.1),lks [.no, .no, .no, .live [⟨40,26, .av [[dS v2.Movement.Name,(dL aL v2.Movement.Works.Arbors),(dL bC v2.Movement.Works.Meshes),(dI v2.Movement.Minute),(dI v2.Movement.Hour),(dI v2.Movement.Escape),(dI v2.Movement.Teeth),(dI v2.Movement.Beats),(dS v2.Movement.Calendar.Name),(dL aM v2.Movement.Calendar.Months),(dL aB v2.Movement.Calendar.Rules),(dI v2.Movement.Calendar.Week),(dL cI v2.Movement.Cam),(dI v2.Movement.Strike),(dI v2.Start.Year),(dI v2.Start.Month),(dI v2.Start.Day),(dI v2.First),(dI v2.Clock),(dL cI v2.Dial.Cam),(dI v2.Dial.Months),(dI v2.Dial.Teeth),(dI v2.Dial.At),(dI v2.Dial.Day),(dI v2.Dial.Week),(dI v2.Dial.Weekday)]]⟩], .live [⟨2,1, .data (List.map cI v3)⟩], .live [⟨40,26, .av [[dS s14.2.Movement.Name,(dL aL s14.2.Movement.Works.Arbors),(dL bC s14.2.Movement.Works.Meshes),(dI s14.2.Movement.Minute),(dI s14.2.Movement.Hour),(dI s14.2.Movement.Escape),(dI s14.2.Movement.Teeth),(dI s14.2.Movement.Beats),(dS s14.2.Movement.Calendar.Name),(dL aM s14.2.Movement.Calendar.Months),(dL aB s14.2.Movement.Calendar.Rules),(dI s14.2.Movement.Calendar.Week),(dL cI s14.2.Movement.Cam),(dI s14.2.Movement.Strike),(dI s14.2.Start.Year),(dI s14.2.Start.Month),(dI s14.2.Start.Day),(dI s14.2.First),(dI s14.2.Clock),(dL cI s14.2.Dial.Cam),(dI s14.2.Dial.Months),(dI s14.2.Dial.Teeth),(dI s14.2.Dial.At),(dI s14.2.Dial.Day),(dI s14.2.Dial.Week),(dI s14.2.Dial.Weekday)]]⟩]]⟩) h1 ?_ (fun s14 y h2 => ?_)
 refine iM.trans_ (mN (k := 3) (kf := 4) rfl rfl (fun _ => rfl) rfl) (iM.trans_ (tU (k := 3) (t' := aE (aE (aE (aE ((fun _ => .dead)) 5 (.ptr 10 0 1 0 0)) 6 (.own 11 0 (v3).length)) 7 (.ptr 12 0 1 0 0)) 8 (z0)) rfl (FzL.box (kb := 12) (ds := [dS v2.Movement.Name,(dL aL v2.Movement.Works.Arbors), .own 5 0 (v2.Movement.Works.Meshes).length,(dI v2.Movement.Minute),(dI v2.Movement.Hour),(dI v2.Movement.Escape),(dI v2.Movement.Teeth),(dI v2.Movement.Beats),(dS v2.Movement.Calendar.Name), .own 6 0 (v2.Movement.Calendar.Months).length, .own 7 0 (v2.Movement.Calendar.Rules).length,(dI v2.Movement.Calendar.Week), .own 8 0 (v2.Movement.Cam).length,(dI v2.Movement.Strike),(dI v2.Start.Year),(dI v2.Start.Month),(dI v2.Start.Day),(dI v2.First),(dI v2.Clock), .own 9 0 (v2.Dial.Cam).length,(dI v2.Dial.Months),(dI v2.Dial.Teeth),(dI v2.Dial.At),(dI v2.Dial.Day),(dI v2.Dial.Week),(dI v2.Dial.Weekday)]) rfl rfl (by repeat (first | exact fX.nil | apply fX.cons | exact FzR.d _ | exact FzR.own rfl (by first | rfl | (simp; done) | (simp; omega)) | exact FzR.ptr rfl (by repeat (first | exact Drp.z _ | apply Drp.d)) | exact FzR.own' | exact FzR.ptr' | exact FzR.ref _ | apply FzR.agg | apply FzR.tup | apply FzR.fn | exact FzR.dead _)) (FzL.box (kb := 10) (ds := [dS v2.Movement.Name,(dL aL v2.Movement.Works.Arbors), .own 5 0 (v2.Movement.Works.Meshes).length,(dI v2.Movement.Minute),(dI v2.Movement.Hour),(dI v2.Movement.Escape),(dI v2.Movement.Teeth),(dI v2.Movement.Beats),(dS v2.Movement.Calendar.Name), .own 6 0 (v2.Movement.Calendar.Months).length, .own 7 0 (v2.Movement.Calendar.Rules).length,(dI v2.Movement.Calendar.Week), .own 8 0 (v2.Movement.Cam).length,(dI v2.Movement.Strike),(dI v2.Start.Year),(dI v2.Start.Month),(dI v2.Start.Day),(dI v2.First),(dI v2.Clock), .own 9 0 (v2.Dial.Cam).length,(dI v2.Dial.Months),(dI v2.Dial.Teeth),(dI v2.Dial.At),(dI v2.Dial.Day),(dI v2.Dial.Week),(dI v2.Dial.Weekday)]) rfl rfl (by repeat (first | exact fX.nil | apply fX.cons | exact FzR.d _ | exact FzR.own rfl (by first | rfl | (simp; done) | (simp; omega)) | exact FzR.ptr rfl (by repeat (first | exact Drp.z _ | apply Drp.d)) | exact FzR.own' | exact FzR.ptr' | exact FzR.ref _ | apply FzR.agg | apply FzR.tup | apply FzR.fn | exact FzR.dead _)) (FzL.nil)))) (iM.trans_ (tU (k := 5) (t' := aE (aE (aE (aE ((fun _ => .dead)) 5 (.ptr 10 0 1 0 0)) 6 (.own 11 0 (v3).length)) 7 (.ptr 12 0 1 0 0)) 8 (z0)) rfl (FzL.box (kb := 12) (ds := [dS v2.Movement.Name,(dL aL v2.Movement.Works.Arbors),(dL bC v2.Movement.Works.Meshes),(dI v2.Movement.Minute),(dI v2.Movement.Hour),(dI v2.Movement.Escape),(dI v2.Movement.Teeth),(dI v2.Movement.Beats),(dS v2.Movement.Calendar.Name), .own 6 0 (v2.Movement.Calendar.Months).length, .own 7 0 (v2.Movement.Calendar.Rules).length,(dI v2.Movement.Calendar.Week), .own 8 0 (v2.Movement.Cam).length,(dI v2.Movement.Strike),(dI v2.Start.Year),(dI v2.Start.Month),(dI v2.Start.Day),(dI v2.First),(dI v2.Clock), .own 9 0 (v2.Dial.Cam).length,(dI v2.Dial.Months),(dI v2.Dial.Teeth),(dI v2.Dial.At),(dI v2.Dial.Day),(dI v2.Dial.Week),(dI v2.Dial.Weekday)]) rfl rfl (by repeat (first | exact fX.nil | apply fX.cons | exact FzR.d _ | exact FzR.own rfl (by first | rfl | (simp; done) | (simp; omega)) | exact FzR.ptr rfl (by repeat (first | exact Drp.z _ | apply Drp.d)) | exact FzR.own' | exact FzR.ptr' | exact FzR.ref _ | apply FzR.agg | apply FzR.tup | apply FzR.fn | exact FzR.dead _)) (FzL.box (kb := 10) (ds := [dS v2.Movement.Name,(dL aL v2.Movement.Works.Arbors),(dL bC v2.Movement.Works.Meshes),(dI v2.Movement.Minute),(dI v2.Movement.Hour),(dI v2.Movement.Escape),(dI v2.Movement.Teeth),(dI v2.Movement.Beats),(dS v2.Movement.Calendar.Name), .own 6 0 (v2.Movement.Calendar.Months).length, .own 7 0 (v2.Movement.Calendar.Rules).length,(dI v2.Movement.Calendar.Week), .own 8 0 (v2.Movement.Cam).length,(dI v2.Movement.Strike),(dI v2.Start.Year),(dI v2.Start.Month),(dI v2.Start.Day),(dI v2.First),(dI v2.Clock), .own 9 0 (v2.Dial.Cam).length,(dI v2.Dial.Months),(dI v2.Dial.Teeth),(dI v2.Dial.At),(dI v2.Dial.Day),(dI v2.Dial.Week),(dI v2.Dial.Weekday)]) rfl rfl (by repeat (first | exact fX.nil | apply fX.cons | exact FzR.d _ | exact FzR.own rfl (by first | rfl | (simp; done) | (simp; omega)) | exact FzR.ptr rfl (by repeat (first | exact Drp.z _ | apply Drp.d)) | exact FzR.own' | exact FzR.ptr' | exact FzR.ref _ | apply FzR.agg | apply FzR.tup | apply FzR.fn | exact FzR.dead _)) (FzL.nil)))) (iM.trans_ (tU (k := 6) (t' := aE (aE (aE (aE ((fun _ => .dead)) 5 (.ptr 10 0 1 0 0)) 6 (.own 11 0 (v3).length)) 7 (.ptr 12 0 1 0 0)) 8 (z0)) rfl (FzL.box (kb := 12) (ds := [dS v2.Movement.Name,(dL aL v2.Movement.Works.Arbors),(dL bC v2.Movement.Works.Meshes),(dI v2.Movement.Minute),(dI v2.Movement.Hour),(dI v2.Movement.Escape),(dI v2.Movement.Teeth),(dI v2.Movement.Beats),(dS v2.Movement.Calendar.Name),(dL aM v2.Movement.Calendar.Months), .own 7 0 (v2.Movement.Calendar.Rules).length,(dI v2.Movement.Calendar.Week), .own 8 0 (v2.Movement.Cam).length,(dI v2.Movement.Strike),(dI v2.Start.Year),(dI v2.Start.Month),(dI v2.Start.Day),(dI v2.First),(dI v2.Clock), .own 9 0 (v2.Dial.Cam).length,(dI v2.Dial.Months),(dI v2.Dial.Teeth),(dI v2.Dial.At),(dI v2.Dial.Day),(dI v2.Dial.Week),(dI v2.Dial.Weekday)]) rfl rfl (by repeat (first | exact fX.nil | apply fX.cons | exact FzR.d _ | exact FzR.own rfl (by first | rfl | (simp; done) | (simp; omega)) | exact FzR.ptr rfl (by repeat (first | exact Drp.z _ | apply Drp.d)) | exact FzR.own' | exact FzR.ptr' | exact FzR.ref _ | apply FzR.agg | apply FzR.tup | apply FzR.fn | exact FzR.dead _)) (FzL.box (kb := 10) (ds := [dS v2.Movement.Name,(dL aL v2.Movement.Works.Arbors),(dL bC v2.Movement.Works.Meshes),(dI v2.Movement.Minute),(dI v2.Movement.Hour),(dI v2.Movement.Escape),(dI v2.Movement.Teeth),(dI v2.Movement.Beats),(dS v2.Movement.Calendar.Name),(dL aM v2.Movement.Calendar.Months), .own 7 0 (v2.Movement.Calendar.Rules).length,(dI v2.Movement.Calendar.Week), .own 8 0 (v2.Movement.Cam).length,(dI v2.Movement.Strike),(dI v2.Start.Year),(dI v2.Start.Month),(dI v2.Start.Day),(dI v2.First),(dI v2.Clock), .own 9 0 (v2.Dial.Cam).length,(dI v2.Dial.Months),(dI v2.Dial.Teeth),(dI v2.Dial.At),(dI v2.Dial.Day),(dI v2.Dial.Week),(dI v2.Dial.Weekday)]) rfl rfl (by repeat (first | exact fX.nil | apply fX.cons | exact FzR.d _ | exact FzR.own rfl (by first | rfl | (simp; done) | (simp; omega)) | exact FzR.ptr rfl (by repeat (first | exact Drp.z _ | apply Drp.d)) | exact FzR.own' | exact FzR.ptr' | exact FzR.ref _ | apply FzR.agg | apply FzR.tup | apply FzR.fn | exact FzR.dead _)) (FzL.nil)))) (iM.trans_ (tU (k := 7) (t' := aE (aE (aE (aE ((fun _ => .dead)) 5 (.ptr 10 0 1 0 0)) 6 (.own 11 0 (v3).length)) 7 (.ptr 12 0 1 0 0)) 8 (z0)) rfl (FzL.box (kb := 12) (ds := [dS v2.Movement.Name,(dL aL v2.Movement.Works.Arbors),(dL bC v2.Movement.Works.Meshes),(dI v2.Movement.Minute),(dI v2.Movement.Hour),(dI v2.Movement.Escape),(dI v2.Movement.Teeth),(dI v2.Movement.Beats),(dS v2.Movement.Calendar.Name),(dL aM v2.Movement.Calendar.Months),(dL aB v2.Movement.Calendar.Rules),(dI v2.Movement.Calendar.Week), .own 8 0 (v2.Movement.Cam).length,(dI v2.Movement.Strike),(dI v2.Start.Year),(dI v2.Start.Month),(dI v2.Start.Day),(dI v2.First),(dI v2.Clock), .own 9 0 (v2.Dial.Cam).length,(dI v2.Dial.Months),(dI v2.Dial.Teeth),(dI v2.Dial.At),(dI v2.Dial.Day),(dI v2.Dial.Week),(dI v2.Dial.Weekday)]) rfl rfl (by repeat (first | exact fX.nil | apply fX.cons | exact FzR.d _ | exact FzR.own rfl (by first | rfl | (simp; done) | (simp; omega)) | exact FzR.ptr rfl (by repeat (first | exact Drp.z _ | apply Drp.d)) | exact FzR.own' | exact FzR.ptr' | exact FzR.ref _ | apply FzR.agg | apply FzR.tup | apply FzR.fn | exact FzR.dead _)) (FzL.box (kb := 10) (ds := [dS v2.Movement.Name,(dL aL v2.Movement.Works.Arbors),(dL bC v2.Movement.Works.Meshes),(dI v2.Movement.Minute),(dI v2.Movement.Hour),(dI v2.Movement.Escape),(dI v2.Movement.Teeth),(dI v2.Movement.Beats),(dS v2.Movement.Calendar.Name),(dL aM v2.Movement.Calendar.Months),(dL aB v2.Movement.Calendar.Rules),(dI v2.Movement.Calendar.Week), .own 8 0 (v2.Movement.Cam).length,(dI v2.Movement.Strike),(dI v2.Start.Year),(dI v2.Start.Month),(dI v2.Start.Day),(dI v2.First),(dI v2.Clock), .own 9 0 (v2.Dial.Cam).length,(dI v2.Dial.Months),(dI v2.Dial.Teeth),(dI v2.Dial.At),(dI v2.Dial.Day),(dI v2.Dial.Week),(dI v2.Dial.Weekday)]) rfl rfl (by repeat (first | exact fX.nil | apply fX.cons | exact FzR.d _ | exact FzR.own rfl (by first | rfl | (simp; done) | (simp; omega)) | exact FzR.ptr rfl (by repeat (first | exact Drp.z _ | apply Drp.d)) | exact FzR.own' | exact FzR.ptr' | exact FzR.ref _ | apply FzR.agg | apply FzR.tup | apply FzR.fn | exact FzR.dead _)) (FzL.nil)))) (iM.trans_ (tU (k := 8) (t' := aE (aE (aE (aE ((fun _ => .dead)) 5 (.ptr 10 0 1 0 0)) 6 (.own 11 0 (v3).length)) 7 (.ptr 12 0 1 0 0)) 8 (z0)) rfl (FzL.box (kb := 12) (ds := [dS v2.Movement.Name,(dL aL v2.Movement.Works.Arbors),(dL bC v2.Movement.Works.Meshes),(dI v2.Movement.Minute),(dI v2.Movement.Hour),(dI v2.Movement.Escape),(dI v2.Movement.Teeth),(dI v2.Movement.Beats),(dS v2.Movement.Calendar.Name),(dL aM v2.Movement.Calendar.Months),(dL aB v2.Movement.Calendar.Rules),(dI v2.Movement.Calendar.Week),(dL cI v2.Movement.Cam),(dI v2.Movement.Strike),(dI v2.Start.Year),(dI v2.Start.Month),(dI v2.Start.Day),(dI v2.First),(dI v2.Clock), .own 9 0 (v2.Dial.Cam).length,(dI v2.Dial.Months),(dI v2.Dial.Teeth),(dI v2.Dial.At),(dI v2.Dial.Day),(dI v2.Dial.Week),(dI v2.Dial.Weekday)]) rfl rfl (by repeat (first | exact fX.nil | apply fX.cons | exact FzR.d _ | exact FzR.own rfl (by first | rfl | (simp; done) | (simp; omega)) | exact FzR.ptr rfl (by repeat (first | exact Drp.z _ | apply Drp.d)) | exact FzR.own' | exact FzR.ptr' | exact FzR.ref _ | apply FzR.agg | apply FzR.tup | apply FzR.fn | exact FzR.dead _)) (FzL.box (kb := 10) (ds := [dS v2.Movement.Name,(dL aL v2.Movement.Works.Arbors),(dL bC v2.Movement.Works.Meshes),(dI v2.Movement.Minute),(dI v2.Movement.Hour),(dI v2.Movement.Escape),(dI v2.Movement.Teeth),(dI v2.Movement.Beats),(dS v2.Movement.Calendar.Name),(dL aM v2.Movement.Calendar.Months),(dL aB v2.Movement.Calendar.Rules),(dI v2.Movement.Calendar.Week),(dL cI v2.Movement.Cam),(dI v2.Movement.Strike),(dI v2.Start.Year),(dI v2.Start.Month),(dI v2.Start.Day),(dI v2.First),(dI v2.Clock), .own 9 0 (v2.Dial.Cam).length,(dI v2.Dial.Months),(dI v2.Dial.Teeth),(dI v2.Dial.At),(dI v2.Dial.Day),(dI v2.Dial.Week),(dI v2.Dial.Weekday)]) rfl rfl (by repeat (first | exact fX.nil | apply fX.cons | exact FzR.d _ | exact FzR.own rfl (by first | rfl | (simp; done) | (simp; omega)) | exact FzR.ptr rfl (by repeat (first | exact Drp.z _ | apply Drp.d)) | exact FzR.own' | exact FzR.ptr' | exact FzR.ref _ | apply FzR.agg | apply FzR.tup | apply FzR.fn | exact FzR.dead _)) (FzL.nil)))) (iM.trans_ (tU (k := 9) (t' := aE (aE (aE (aE ((fun _ => .dead)) 5 (.ptr 10 0 1 0 0)) 6 (.own 11 0 (v3).length)) 7 (.ptr 12 0 1 0 0)) 8 (z0)) rfl (FzL.box (kb := 12) (ds := [dS v2.Movement.Name,(dL aL v2.Movement.Works.Arbors),(dL bC v2.Movement.Works.Meshes),(dI v2.Movement.Minute),(dI v2.Movement.Hour),(dI v2.Movement.Escape),(dI v2.Movement.Teeth),(dI v2.Movement.Beats),(dS v2.Movement.Calendar.Name),(dL aM v2.Movement.Calendar.Months),(dL aB v2.Movement.Calendar.Rules),(dI v2.Movement.Calendar.Week),(dL cI v2.Movement.Cam),(dI v2.Movement.Strike),(dI v2.Start.Year),(dI v2.Start.Month),(dI v2.Start.Day),(dI v2.First),(dI v2.Clock),(dL cI v2.Dial.Cam),(dI v2.Dial.Months),(dI v2.Dial.Teeth),(dI v2.Dial.At),(dI v2.Dial.Day),(dI v2.Dial.Week),(dI v2.Dial.Weekday)]) rfl rfl (by repeat (first | exact fX.nil | apply fX.cons | exact FzR.d _ | exact FzR.own rfl (by first | rfl | (simp; done) | (simp; omega)) | exact FzR.ptr rfl (by repeat (first | exact Drp.z _ | apply Drp.d)) | exact FzR.own' | exact FzR.ptr' | exact FzR.ref _ | apply FzR.agg | apply FzR.tup | apply FzR.fn | exact FzR.dead _)) (FzL.box (kb := 10) (ds := [dS v2.Movement.Name,(dL aL v2.Movement.Works.Arbors),(dL bC v2.Movement.Works.Meshes),(dI v2.Movement.Minute),(dI v2.Movement.Hour),(dI v2.Movement.Escape),(dI v2.Movement.Teeth),(dI v2.Movement.Beats),(dS v2.Movement.Calendar.Name),(dL aM v2.Movement.Calendar.Months),(dL aB v2.Movement.Calendar.Rules),(dI v2.Movement.Calendar.Week),(dL cI v2.Movement.Cam),(dI v2.Movement.Strike),(dI v2.Start.Year),(dI v2.Start.Month),(dI v2.Start.Day),(dI v2.First),(dI v2.Clock),(dL cI v2.Dial.Cam),(dI v2.Dial.Months),(dI v2.Dial.Teeth),(dI v2.Dial.At),(dI v2.Dial.Day),(dI v2.Dial.Week),(dI v2.Dial.Weekday)]) rfl rfl (by repeat (first | exact fX.nil | apply fX.cons | exact FzR.d _ | exact FzR.own rfl (by first | rfl | (simp; done) | (simp; omega)) | exact FzR.ptr rfl (by repeat (first | exact Drp.z _ | apply Drp.d)) | exact FzR.own' | exact FzR.ptr' | exact FzR.ref _ | apply FzR.agg | apply FzR.tup | apply FzR.fn | exact FzR.dead _)) (FzL.nil)))) ?_))))))
 exact wk [0,1,2,10,11,12]
 refine aG (sq [0,1,2,3] (pm ?_))
 refine rP rfl (aH (r := .own _ _ _) rfl) (rL rfl (nO tok rfl rfl rfl rfl rfl) (rP rfl (bX rfl rfl) (nx ?_)))
 refine bM h2 rfl (fun hc h2 => ?_) (fun hc h2 => ?_)
 refine sk ?_
 obtain ⟨v23x,h3,h2⟩ := bnd h2
 refine dX v23x (fun v23 => ⟨aE (aE (aE (aE ((fun _ => .dead)) 5 (.ptr 3 0 1 0 0)) 6 (.own 4 0 (v3).length)) 7 (.ptr 5 0 1 0 0)) 8 (dI s14.1),lks [.no, .no, .no, .live [⟨40,26, .av [[dS v2.Movement.Name,(dL aL v2.Movement.Works.Arbors),(dL bC v2.Movement.Works.Meshes),(dI v2.Movement.Minute),(dI v2.Movement.Hour),(dI v2.Movement.Escape),(dI v2.Movement.Teeth),(dI v2.Movement.Beats),(dS v2.Movement.Calendar.Name),(dL aM v2.Movement.Calendar.Months),(dL aB v2.Movement.Calendar.Rules),(dI v2.Movement.Calendar.Week),(dL cI v2.Movement.Cam),(dI v2.Movement.Strike),(dI v2.Start.Year),(dI v2.Start.Month),(dI v2.Start.Day),(dI v2.First),(dI v2.Clock),(dL cI v2.Dial.Cam),(dI v2.Dial.Months),(dI v2.Dial.Teeth),(dI v2.Dial.At),(dI v2.Dial.Day),(dI v2.Dial.Week),(dI v2.Dial.Weekday)]]⟩], .live [⟨2,1, .data (List.map cI v3)⟩], .live [⟨40,26, .av [[dS v23.Movement.Name,(dL aL v23.Movement.Works.Arbors),(dL bC v23.Movement.Works.Meshes),(dI v23.Movement.Minute),(dI v23.Movement.Hour),(dI v23.Movement.Escape),(dI v23.Movement.Teeth),(dI v23.Movement.Beats),(dS v23.Movement.Calendar.Name),(dL aM v23.Movement.Calendar.Months),(dL aB v23.Movement.Calendar.Rules),(dI v23.Movement.Calendar.Week),(dL cI v23.Movement.Cam),(dI v23.Movement.Strike),(dI v23.Start.Year),(dI v23.Start.Month),(dI v23.Start.Day),(dI v23.First),(dI v23.Clock),(dL cI v23.Dial.Cam),(dI v23.Dial.Months),(dI v23.Dial.Teeth),(dI v23.Dial.At),(dI v23.Dial.Day),(dI v23.Dial.Week),(dI v23.Dial.Weekday)]]⟩]]⟩) ?_ ?_
 refine aK (aG (aF (is := [0,1,2,3,4,5,6,7,8,9,10,11,12,13]) [0,0,0,6,14,31,63,127,127,127,0,1279,3583,8191] follows (by kernel_rfl) (bS rfl w0 rfl (aU tok rfl rfl rfl rfl) rfl rfl rfl (tP rfl (aH (r := .own _ _ _) rfl) (tpm ?_)))))
 obtain ⟨v15,hv15,h3⟩ := bnd h3
 refine bS rfl w0 rfl (lI tok hv15 rfl rfl rfl rfl rfl rfl rfl rfl) rfl rfl rfl (bS rfl w0 rfl (nY tok (iY hv15).2.1 rfl rfl rfl rfl rfl rfl) rfl rfl rfl ?_)
 obtain ⟨v16,hv16,h3⟩ := bnd h3
 refine jB rfl w0 rfl (cP 7 (aFq hv16) rfl rfl rfl) (tP rfl (aH (r := .tup _) rfl) ?_)
 iterate 3 refine tP rfl (aQ rfl rfl) ?_
 refine aBa rfl w0 rfl rfl (fun hx hk => jJ 6 (cs := [ze,zl,zl,z0,z0,z0,z0,z0,ze,zl,zl,z0,zl,z0,z0,z0,z0,z0,z0,zl,z0,z0,z0,z0,z0,z0]) tok rfl rfl hk) (iK rfl w0 (fQ (cs := _ :: _) tok rfl rfl rfl rfl rfl rfl rfl) (tpa ?_))
 refine tpa ?_
 refine bE ?_
 refine ⟨by kernel_rfl,?_⟩
 refine aI (aG (sq [0,1] (pm ?_)))
 refine rP rfl (eN rfl rfl) (nx ?_)
 refine bM h3 rfl (fun hc h3 => ?_) (fun hc h3 => ?_)
 refine bK (bY (aY (aI ?_)))
 cases h3
 refine ⟨_,rfl,?_⟩
 exact wk [0,1,2,3,4,5]
 refine sk (aG ?_)
 obtain ⟨v18,h4,h3⟩ := bnd h3
 refine bG ⟨aE (aE (aE (aE (aE (aE ((fun _ => .dead)) 5 (.ptr 3 0 1 0 0)) 6 (.own 4 0 (v3).length)) 7 (.ptr 5 0 1 0 0)) 8 (dI s14.1)) 9 (.ptr 6 0 1 0 0)) 54 (dB v18),lks [.no, .no, .no, .live [⟨40,26, .av [[dS v2.Movement.Name,(dL aL v2.Movement.Works.Arbors),(dL bC v2.Movement.Works.Meshes),(dI v2.Movement.Minute),(dI v2.Movement.Hour),(dI v2.Movement.Escape),(dI v2.Movement.Teeth),(dI v2.Movement.Beats),(dS v2.Movement.Calendar.Name),(dL aM v2.Movement.Calendar.Months),(dL aB v2.Movement.Calendar.Rules),(dI v2.Movement.Calendar.Week),(dL cI v2.Movement.Cam),(dI v2.Movement.Strike),(dI v2.Start.Year),(dI v2.Start.Month),(dI v2.Start.Day),(dI v2.First),(dI v2.Clock),(dL cI v2.Dial.Cam),(dI v2.Dial.Months),(dI v2.Dial.Teeth),(dI v2.Dial.At),(dI v2.Dial.Day),(dI v2.Dial.Week),(dI v2.Dial.Weekday)]]⟩], .live [⟨2,1, .data (List.map cI v3)⟩], .live [⟨40,26, .av [[dS s14.2.Movement.Name,(dL aL s14.2.Movement.Works.Arbors),(dL bC s14.2.Movement.Works.Meshes),(dI s14.2.Movement.Minute),(dI s14.2.Movement.Hour),(dI s14.2.Movement.Escape),(dI s14.2.Movement.Teeth),(dI s14.2.Movement.Beats),(dS s14.2.Movement.Calendar.Name),(dL aM s14.2.Movement.Calendar.Months),(dL aB s14.2.Movement.Calendar.Rules),(dI s14.2.Movement.Calendar.Week),(dL cI s14.2.Movement.Cam),(dI s14.2.Movement.Strike),(dI s14.2.Start.Year),(dI s14.2.Start.Month),(dI s14.2.Start.Day),(dI s14.2.First),(dI s14.2.Clock),(dL cI s14.2.Dial.Cam),(dI s14.2.Dial.Months),(dI s14.2.Dial.Teeth),(dI s14.2.Dial.At),(dI s14.2.Dial.Day),(dI s14.2.Dial.Week),(dI s14.2.Dial.Weekday)]]⟩], .live [⟨40,26, .av [[dS v16.1.Movement.Name, .own 7 0 (v16.1.Movement.Works.Arbors).length, .own 8 0 (v16.1.Movement.Works.Meshes).length,(dI v16.1.Movement.Minute),(dI v16.1.Movement.Hour),(dI v16.1.Movement.Escape),(dI v16.1.Movement.Teeth),(dI v16.1.Movement.Beats),(dS v16.1.Movement.Calendar.Name), .own 9 0 (v16.1.Movement.Calendar.Months).length, .own 10 0 (v16.1.Movement.Calendar.Rules).length,(dI v16.1.Movement.Calendar.Week), .own 11 0 (v16.1.Movement.Cam).length,(dI v16.1.Movement.Strike),(dI v16.1.Start.Year),(dI v16.1.Start.Month),(dI v16.1.Start.Day),(dI v16.1.First),(dI v16.1.Clock), .own 12 0 (v16.1.Dial.Cam).length,(dI v16.1.Dial.Months),(dI v16.1.Dial.Teeth),(dI v16.1.Dial.At),(dI v16.1.Dial.Day),(dI v16.1.Dial.Week),(dI v16.1.Dial.Weekday)]]⟩], .live [⟨123,2, .av (fC 13 aL v16.1.Movement.Works.Arbors)⟩], .live [⟨125,4, .data (List.map bC v16.1.Movement.Works.Meshes)⟩], .live [⟨170,3, .data (List.map aM v16.1.Movement.Calendar.Months)⟩], .live [⟨181,3, .data (List.map aB v16.1.Movement.Calendar.Rules)⟩], .live [⟨2,1, .data (List.map cI v16.1.Movement.Cam)⟩], .live [⟨2,1, .data (List.map cI v16.1.Dial.Cam)⟩], .live (mW 2 1 aL v16.1.Movement.Works.Arbors)]⟩ ?_ ?_
 refine sr [0,1,2,3,4,5,6] (pm ?_)
 refine rP rfl (fA rfl rfl) (pm ?_)
 refine gT (u := 50) h4 rfl (fun hc h4 => ?_) (fun hc h4 => ?_)
 iterate 3 refine k1 ?_
 refine pkt (nx ?_)
 cases h4
 exact wk [0,1,2,3,4,5,6,7,9,10,11,12,13,8]
 refine rl rfl (w1 rfl rfl rfl) rfl (aU tok rfl rfl rfl rfl) ?_
 obtain ⟨v17,hv17,h4⟩ := bnd h4
 refine rs rfl (w1 rfl rfl rfl) rfl (eE 14 (aHf hv17) rfl rfl) (rp rfl (w1 rfl rfl rfl) rfl (bO rfl) (pkf (nx ?_)))
 cases h4
 exact wk [0,1,2,3,4,5,6,7,9,10,11,12,13,8]
 refine bL h3 rfl (fun hc h3 => ?_) (fun hc h3 => ?_)
 refine sq [0] (pa (nx (aD (aS ?_))))
 refine bH ?_
 cases h3
 replace h2 := gG h2
 refine aS ?_
 cases h2
 refine eV ⟨_,rfl,fun e => ?_⟩
 subst e
 refine bH ?_
 replace h0 := gG h0
 refine aS ?_
 cases h0
 exact r0t 4 rfl
 refine sk (sq [0,1] (rL rfl (aU tok rfl rfl rfl rfl) (bst tok (nx (sq [0,1,2,3,4,5,6,7] ?_)))))
 refine rL rfl (aU tok rfl rfl rfl rfl) ?_
 obtain ⟨v19,hv19,h3⟩ := bnd h3
 refine rS rfl (eE 14 (aHl hv19) rfl rfl) (rP rfl (aH (r := .tup _) rfl) (rP rfl (aQ rfl rfl) (rP rfl (aQ rfl rfl) (al 14 [z0,z0,z0] tok ?_))))
 refine bst tok ?_
 refine pa (nx (aG (sq [0,1] ?_)))
 refine pm ?_
 refine rP rfl (fA rfl rfl) (nx ?_)
 refine bM h3 rfl (fun hc h3 => ?_) (fun hc h3 => ?_)
 refine sq [0,1,2] (pm ?_)
 refine rP rfl (eN rfl rfl) (pa (nx (aD (aS ?_))))
 refine bH ?_
 cases h3
 replace h2 := gG h2
 refine aS ?_
 cases h2
 refine eV ⟨_,rfl,fun e => ?_⟩
 subst e
 refine bH ?_
 replace h0 := gG h0
 refine aS ?_
 cases h0
 exact r0t 4 rfl
 refine sk (sq [0,1,2,3,4,5,6,7,8,9,10,11,12,13,14,15,16] (fa tok ?_))
 refine fa tok ?_
 refine rL rfl (aU tok rfl rfl rfl rfl) (fa tok ?_)
 refine fa tok ?_
 refine ld tok ?_
 refine fa tok ?_
 refine fa tok ?_
 refine ld tok ?_
 refine fa tok ?_
 refine ld tok ?_
 obtain ⟨v20,hv20,h3⟩ := bnd h3
 refine rS rfl (aO 15 (aF8 hv20) rfl rfl rfl) (rP rfl (aH (r := .tup _) rfl) (rP rfl (aQ rfl rfl) (rP rfl (aQ rfl rfl) (rP rfl (aR (r := .own _ _ _) rfl) (pa (nx ?_))))))
 obtain ⟨v22,h4,h3⟩ := bnd h3
 refine bG ⟨aE (aE (aE (aE (aE ((fun _ => .dead)) 5 (.ptr 3 0 1 0 0)) 6 (.own 4 0 (v3).length)) 7 (.ptr 5 0 1 0 0)) 8 (dI s14.1)) 91 (dB v22),lks [.no, .no, .no, .live [⟨40,26, .av [[dS v2.Movement.Name,(dL aL v2.Movement.Works.Arbors),(dL bC v2.Movement.Works.Meshes),(dI v2.Movement.Minute),(dI v2.Movement.Hour),(dI v2.Movement.Escape),(dI v2.Movement.Teeth),(dI v2.Movement.Beats),(dS v2.Movement.Calendar.Name),(dL aM v2.Movement.Calendar.Months),(dL aB v2.Movement.Calendar.Rules),(dI v2.Movement.Calendar.Week),(dL cI v2.Movement.Cam),(dI v2.Movement.Strike),(dI v2.Start.Year),(dI v2.Start.Month),(dI v2.Start.Day),(dI v2.First),(dI v2.Clock),(dL cI v2.Dial.Cam),(dI v2.Dial.Months),(dI v2.Dial.Teeth),(dI v2.Dial.At),(dI v2.Dial.Day),(dI v2.Dial.Week),(dI v2.Dial.Weekday)]]⟩], .live [⟨2,1, .data (List.map cI v3)⟩], .live [⟨40,26, .av [[dS v16.1.Movement.Name, .own 6 0 (v16.1.Movement.Works.Arbors).length, .own 7 0 (v16.1.Movement.Works.Meshes).length,(dI v16.1.Movement.Minute),(dI v16.1.Movement.Hour),(dI v16.1.Movement.Escape),(dI v16.1.Movement.Teeth),(dI v16.1.Movement.Beats),(dS v16.1.Movement.Calendar.Name), .own 8 0 (v16.1.Movement.Calendar.Months).length, .own 9 0 (v16.1.Movement.Calendar.Rules).length,(dI v16.1.Movement.Calendar.Week), .own 10 0 (v16.1.Movement.Cam).length,(dI v16.1.Movement.Strike),(dI v16.1.Start.Year),(dI v16.1.Start.Month),(dI v16.1.Start.Day),(dI v16.1.First),(dI v16.1.Clock), .own 11 0 (v16.1.Dial.Cam).length,(dI v16.1.Dial.Months),(dI v16.1.Dial.Teeth),(dI v16.1.Dial.At),(dI v16.1.Dial.Day),(dI v16.1.Dial.Week),(dI v16.1.Dial.Weekday)]]⟩], .live [⟨123,2, .av (fC 12 aL v16.1.Movement.Works.Arbors)⟩], .live [⟨125,4, .data (List.map bC v16.1.Movement.Works.Meshes)⟩], .live [⟨170,3, .data (List.map aM v16.1.Movement.Calendar.Months)⟩], .live [⟨181,3, .data (List.map aB v16.1.Movement.Calendar.Rules)⟩], .live [⟨2,1, .data (List.map cI v16.1.Movement.Cam)⟩], .live [⟨2,1, .data (List.map cI v16.1.Dial.Cam)⟩], .live (mW 2 1 aL v16.1.Movement.Works.Arbors)]⟩ ?_ ?_
 refine sr [0,1,2,3,4,5,6,7,8,9,10,11] (pm ?_)
 refine rP rfl (eN rfl rfl) (pm ?_)
 refine gT (u := 82) h4 rfl (fun hc h4 => ?_) (fun hc h4 => ?_)
 refine rp rfl (w1 rfl rfl rfl) rfl (aH (r := .own _ _ _) rfl) (rl rfl (w1 rfl rfl rfl) rfl (nO tok rfl rfl rfl rfl rfl) (rp rfl (w1 rfl rfl rfl) rfl (eN rfl rfl) (pkt ?_)))
 refine pm ?_
 refine gT (u := 87) h4 rfl (fun hc h4 => ?_) (fun hc h4 => ?_)
 refine rl rfl (w1 rfl rfl rfl) rfl (aU tok rfl rfl rfl rfl) ?_
 obtain ⟨v21,hv21,h4⟩ := bnd h4
 refine rs rfl (w1 rfl rfl rfl) rfl (eE 16 (zQ hv21) rfl rfl) (rp rfl (w1 rfl rfl rfl) rfl (bO rfl) (pkt (nx ?_)))
 cases h4
 exact wk [0,1,2,3,4,5,7,8,9,10,11,12,13]
 iterate 3 refine k1 ?_
 refine pkf (nx ?_)
 cases h4
 exact wk [0,1,2,3,4,5,7,8,9,10,11,12,13]
 iterate 3 refine k1 ?_
 refine pkf ?_
 refine pm ?_
 iterate 3 refine k1 ?_
 refine pkf (nx ?_)
 cases h4
 exact wk [0,1,2,3,4,5,7,8,9,10,11,12,13]
 refine bL h3 rfl (fun hc h3 => ?_) (fun hc h3 => ?_)
 refine sq [0] (pa (nx (aD ?_)))
 refine bH ?_
 cases h3
 replace h2 := gG h2
 refine aS ?_
 cases h2
 refine eV ⟨_,rfl,fun e => ?_⟩
 subst e
 refine bH ?_
 replace h0 := gG h0
 refine aS ?_
 cases h0
 exact r0t 4 rfl
 refine cU (bF (aI ?_))
 cases h3
 refine ⟨_,rfl,?_⟩
 refine iM.trans_ (mN (k := 6) (kf := 12) rfl rfl (fun _ => rfl) rfl) (iM.trans_ (tU (k := 6) (t' := aE (aE (aE (aE ((fun _ => .dead)) 5 (.ptr 3 0 1 0 0)) 6 (.own 4 0 (v3).length)) 7 (.ptr 5 0 1 0 0)) 8 (dI s14.1)) rfl (FzL.box (kb := 5) (ds := [dS v16.1.Movement.Name,(dL aL v16.1.Movement.Works.Arbors), .own 7 0 (v16.1.Movement.Works.Meshes).length,(dI v16.1.Movement.Minute),(dI v16.1.Movement.Hour),(dI v16.1.Movement.Escape),(dI v16.1.Movement.Teeth),(dI v16.1.Movement.Beats),(dS v16.1.Movement.Calendar.Name), .own 8 0 (v16.1.Movement.Calendar.Months).length, .own 9 0 (v16.1.Movement.Calendar.Rules).length,(dI v16.1.Movement.Calendar.Week), .own 10 0 (v16.1.Movement.Cam).length,(dI v16.1.Movement.Strike),(dI v16.1.Start.Year),(dI v16.1.Start.Month),(dI v16.1.Start.Day),(dI v16.1.First),(dI v16.1.Clock), .own 11 0 (v16.1.Dial.Cam).length,(dI v16.1.Dial.Months),(dI v16.1.Dial.Teeth),(dI v16.1.Dial.At),(dI v16.1.Dial.Day),(dI v16.1.Dial.Week),(dI v16.1.Dial.Weekday)]) rfl rfl (by repeat (first | exact fX.nil | apply fX.cons | exact FzR.d _ | exact FzR.own rfl (by first | rfl | (simp; done) | (simp; omega)) | exact FzR.ptr rfl (by repeat (first | exact Drp.z _ | apply Drp.d)) | exact FzR.own' | exact FzR.ptr' | exact FzR.ref _ | apply FzR.agg | apply FzR.tup | apply FzR.fn | exact FzR.dead _)) (FzL.nil))) (iM.trans_ (tU (k := 7) (t' := aE (aE (aE (aE ((fun _ => .dead)) 5 (.ptr 3 0 1 0 0)) 6 (.own 4 0 (v3).length)) 7 (.ptr 5 0 1 0 0)) 8 (dI s14.1)) rfl (FzL.box (kb := 5) (ds := [dS v16.1.Movement.Name,(dL aL v16.1.Movement.Works.Arbors),(dL bC v16.1.Movement.Works.Meshes),(dI v16.1.Movement.Minute),(dI v16.1.Movement.Hour),(dI v16.1.Movement.Escape),(dI v16.1.Movement.Teeth),(dI v16.1.Movement.Beats),(dS v16.1.Movement.Calendar.Name), .own 8 0 (v16.1.Movement.Calendar.Months).length, .own 9 0 (v16.1.Movement.Calendar.Rules).length,(dI v16.1.Movement.Calendar.Week), .own 10 0 (v16.1.Movement.Cam).length,(dI v16.1.Movement.Strike),(dI v16.1.Start.Year),(dI v16.1.Start.Month),(dI v16.1.Start.Day),(dI v16.1.First),(dI v16.1.Clock), .own 11 0 (v16.1.Dial.Cam).length,(dI v16.1.Dial.Months),(dI v16.1.Dial.Teeth),(dI v16.1.Dial.At),(dI v16.1.Dial.Day),(dI v16.1.Dial.Week),(dI v16.1.Dial.Weekday)]) rfl rfl (by repeat (first | exact fX.nil | apply fX.cons | exact FzR.d _ | exact FzR.own rfl (by first | rfl | (simp; done) | (simp; omega)) | exact FzR.ptr rfl (by repeat (first | exact Drp.z _ | apply Drp.d)) | exact FzR.own' | exact FzR.ptr' | exact FzR.ref _ | apply FzR.agg | apply FzR.tup | apply FzR.fn | exact FzR.dead _)) (FzL.nil))) (iM.trans_ (tU (k := 8) (t' := aE (aE (aE (aE ((fun _ => .dead)) 5 (.ptr 3 0 1 0 0)) 6 (.own 4 0 (v3).length)) 7 (.ptr 5 0 1 0 0)) 8 (dI s14.1)) rfl (FzL.box (kb := 5) (ds := [dS v16.1.Movement.Name,(dL aL v16.1.Movement.Works.Arbors),(dL bC v16.1.Movement.Works.Meshes),(dI v16.1.Movement.Minute),(dI v16.1.Movement.Hour),(dI v16.1.Movement.Escape),(dI v16.1.Movement.Teeth),(dI v16.1.Movement.Beats),(dS v16.1.Movement.Calendar.Name),(dL aM v16.1.Movement.Calendar.Months), .own 9 0 (v16.1.Movement.Calendar.Rules).length,(dI v16.1.Movement.Calendar.Week), .own 10 0 (v16.1.Movement.Cam).length,(dI v16.1.Movement.Strike),(dI v16.1.Start.Year),(dI v16.1.Start.Month),(dI v16.1.Start.Day),(dI v16.1.First),(dI v16.1.Clock), .own 11 0 (v16.1.Dial.Cam).length,(dI v16.1.Dial.Months),(dI v16.1.Dial.Teeth),(dI v16.1.Dial.At),(dI v16.1.Dial.Day),(dI v16.1.Dial.Week),(dI v16.1.Dial.Weekday)]) rfl rfl (by repeat (first | exact fX.nil | apply fX.cons | exact FzR.d _ | exact FzR.own rfl (by first | rfl | (simp; done) | (simp; omega)) | exact FzR.ptr rfl (by repeat (first | exact Drp.z _ | apply Drp.d)) | exact FzR.own' | exact FzR.ptr' | exact FzR.ref _ | apply FzR.agg | apply FzR.tup | apply FzR.fn | exact FzR.dead _)) (FzL.nil))) (iM.trans_ (tU (k := 9) (t' := aE (aE (aE (aE ((fun _ => .dead)) 5 (.ptr 3 0 1 0 0)) 6 (.own 4 0 (v3).length)) 7 (.ptr 5 0 1 0 0)) 8 (dI s14.1)) rfl (FzL.box (kb := 5) (ds := [dS v16.1.Movement.Name,(dL aL v16.1.Movement.Works.Arbors),(dL bC v16.1.Movement.Works.Meshes),(dI v16.1.Movement.Minute),(dI v16.1.Movement.Hour),(dI v16.1.Movement.Escape),(dI v16.1.Movement.Teeth),(dI v16.1.Movement.Beats),(dS v16.1.Movement.Calendar.Name),(dL aM v16.1.Movement.Calendar.Months),(dL aB v16.1.Movement.Calendar.Rules),(dI v16.1.Movement.Calendar.Week), .own 10 0 (v16.1.Movement.Cam).length,(dI v16.1.Movement.Strike),(dI v16.1.Start.Year),(dI v16.1.Start.Month),(dI v16.1.Start.Day),(dI v16.1.First),(dI v16.1.Clock), .own 11 0 (v16.1.Dial.Cam).length,(dI v16.1.Dial.Months),(dI v16.1.Dial.Teeth),(dI v16.1.Dial.At),(dI v16.1.Dial.Day),(dI v16.1.Dial.Week),(dI v16.1.Dial.Weekday)]) rfl rfl (by repeat (first | exact fX.nil | apply fX.cons | exact FzR.d _ | exact FzR.own rfl (by first | rfl | (simp; done) | (simp; omega)) | exact FzR.ptr rfl (by repeat (first | exact Drp.z _ | apply Drp.d)) | exact FzR.own' | exact FzR.ptr' | exact FzR.ref _ | apply FzR.agg | apply FzR.tup | apply FzR.fn | exact FzR.dead _)) (FzL.nil))) (iM.trans_ (tU (k := 10) (t' := aE (aE (aE (aE ((fun _ => .dead)) 5 (.ptr 3 0 1 0 0)) 6 (.own 4 0 (v3).length)) 7 (.ptr 5 0 1 0 0)) 8 (dI s14.1)) rfl (FzL.box (kb := 5) (ds := [dS v16.1.Movement.Name,(dL aL v16.1.Movement.Works.Arbors),(dL bC v16.1.Movement.Works.Meshes),(dI v16.1.Movement.Minute),(dI v16.1.Movement.Hour),(dI v16.1.Movement.Escape),(dI v16.1.Movement.Teeth),(dI v16.1.Movement.Beats),(dS v16.1.Movement.Calendar.Name),(dL aM v16.1.Movement.Calendar.Months),(dL aB v16.1.Movement.Calendar.Rules),(dI v16.1.Movement.Calendar.Week),(dL cI v16.1.Movement.Cam),(dI v16.1.Movement.Strike),(dI v16.1.Start.Year),(dI v16.1.Start.Month),(dI v16.1.Start.Day),(dI v16.1.First),(dI v16.1.Clock), .own 11 0 (v16.1.Dial.Cam).length,(dI v16.1.Dial.Months),(dI v16.1.Dial.Teeth),(dI v16.1.Dial.At),(dI v16.1.Dial.Day),(dI v16.1.Dial.Week),(dI v16.1.Dial.Weekday)]) rfl rfl (by repeat (first | exact fX.nil | apply fX.cons | exact FzR.d _ | exact FzR.own rfl (by first | rfl | (simp; done) | (simp; omega)) | exact FzR.ptr rfl (by repeat (first | exact Drp.z _ | apply Drp.d)) | exact FzR.own' | exact FzR.ptr' | exact FzR.ref _ | apply FzR.agg | apply FzR.tup | apply FzR.fn | exact FzR.dead _)) (FzL.nil))) (iM.trans_ (tU (k := 11) (t' := aE (aE (aE (aE ((fun _ => .dead)) 5 (.ptr 3 0 1 0 0)) 6 (.own 4 0 (v3).length)) 7 (.ptr 5 0 1 0 0)) 8 (dI s14.1)) rfl (FzL.box (kb := 5) (ds := [dS v16.1.Movement.Name,(dL aL v16.1.Movement.Works.Arbors),(dL bC v16.1.Movement.Works.Meshes),(dI v16.1.Movement.Minute),(dI v16.1.Movement.Hour),(dI v16.1.Movement.Escape),(dI v16.1.Movement.Teeth),(dI v16.1.Movement.Beats),(dS v16.1.Movement.Calendar.Name),(dL aM v16.1.Movement.Calendar.Months),(dL aB v16.1.Movement.Calendar.Rules),(dI v16.1.Movement.Calendar.Week),(dL cI v16.1.Movement.Cam),(dI v16.1.Movement.Strike),(dI v16.1.Start.Year),(dI v16.1.Start.Month),(dI v16.1.Start.Day),(dI v16.1.First),(dI v16.1.Clock),(dL cI v16.1.Dial.Cam),(dI v16.1.Dial.Months),(dI v16.1.Dial.Teeth),(dI v16.1.Dial.At),(dI v16.1.Dial.Day),(dI v16.1.Dial.Week),(dI v16.1.Dial.Weekday)]) rfl rfl (by repeat (first | exact fX.nil | apply fX.cons | exact FzR.d _ | exact FzR.own rfl (by first | rfl | (simp; done) | (simp; omega)) | exact FzR.ptr rfl (by repeat (first | exact Drp.z _ | apply Drp.d)) | exact FzR.own' | exact FzR.ptr' | exact FzR.ref _ | apply FzR.agg | apply FzR.tup | apply FzR.fn | exact FzR.dead _)) (FzL.nil))) ?_))))))
 exact wk [0,1,2,3,4,5]
 rintro v23 rfl
 replace h2 := iP h2
 refine sr [0,1,2] (pm ?_)
 refine rP rfl (bI rfl rfl) (pa (bB ?_))
 refine cA ?_
 cases h2
 refine ⟨_,rfl,?_⟩
 exact wk [0,1,2,3,4,5]
 refine bK (bY ?_)
 cases h2
 refine cC ⟨_,rfl,fun e => ?_⟩
 subst e
 refine aY (aI ?_)
 refine ⟨_,rfl,?_⟩
 exact wk [0,1,2,3,5]
 rintro v24 rfl
 replace h0 := iP h0
 refine sq [0,1,2,3,4,5,6,7,8,9,10,11,12] (fa tok ?_)
 refine fa tok ?_
 refine rL rfl (aU tok rfl rfl rfl rfl) (fa tok ?_)
 refine rL rfl (aU tok rfl rfl rfl rfl) (fa tok ?_)
 refine rL rfl (aU tok rfl rfl rfl rfl) ?_
 obtain ⟨v25,hv25,h0⟩ := bnd h0
 refine rS rfl (aO 5 (aEg hv25) rfl rfl rfl) (rP rfl (aH (r := .tup _) rfl) (rP rfl (aQ rfl rfl) (rP rfl (aQ rfl rfl) (pa ?_))))
 refine pa (nx (aG (sq [0,1] ?_)))
 refine pm ?_
 refine rP rfl (fA rfl rfl) (nx ?_)
 refine bM h0 rfl (fun hc h0 => ?_) (fun hc h0 => ?_)
 refine sq [0,1,2] (pm ?_)
 refine rP rfl (eN rfl rfl) (pa (nx (aD (aS ?_))))
 cases h0
 exact r0t 4 rfl
 refine sk (aG ?_)
 obtain ⟨v26,h1,h0⟩ := bnd h0
 refine bG ⟨aE (aE (aE (aE ((fun _ => .dead)) 5 (.ptr 3 0 1 0 0)) 7 (.ptr 4 0 1 0 0)) 16 (dI v25.1)) 112 (dB v26),lks [.no, .no, .no, .live [⟨40,26, .av [[dS v2.Movement.Name,(dL aL v2.Movement.Works.Arbors),(dL bC v2.Movement.Works.Meshes),(dI v2.Movement.Minute),(dI v2.Movement.Hour),(dI v2.Movement.Escape),(dI v2.Movement.Teeth),(dI v2.Movement.Beats),(dS v2.Movement.Calendar.Name),(dL aM v2.Movement.Calendar.Months),(dL aB v2.Movement.Calendar.Rules),(dI v2.Movement.Calendar.Week),(dL cI v2.Movement.Cam),(dI v2.Movement.Strike),(dI v2.Start.Year),(dI v2.Start.Month),(dI v2.Start.Day),(dI v2.First),(dI v2.Clock),(dL cI v2.Dial.Cam),(dI v2.Dial.Months),(dI v2.Dial.Teeth),(dI v2.Dial.At),(dI v2.Dial.Day),(dI v2.Dial.Week),(dI v2.Dial.Weekday)]]⟩], .live [⟨40,26, .av [[dS v24.Movement.Name,(dL aL v24.Movement.Works.Arbors),(dL bC v24.Movement.Works.Meshes),(dI v24.Movement.Minute),(dI v24.Movement.Hour),(dI v24.Movement.Escape),(dI v24.Movement.Teeth),(dI v24.Movement.Beats),(dS v24.Movement.Calendar.Name),(dL aM v24.Movement.Calendar.Months),(dL aB v24.Movement.Calendar.Rules),(dI v24.Movement.Calendar.Week),(dL cI v24.Movement.Cam),(dI v24.Movement.Strike),(dI v24.Start.Year),(dI v24.Start.Month),(dI v24.Start.Day),(dI v24.First),(dI v24.Clock),(dL cI v24.Dial.Cam),(dI v24.Dial.Months),(dI v24.Dial.Teeth),(dI v24.Dial.At),(dI v24.Dial.Day),(dI v24.Dial.Week),(dI v24.Dial.Weekday)]]⟩]]⟩ ?_ ?_
 refine sr [0,1,2,3,4,5] (pm ?_)
 refine rP rfl (bX rfl rfl) (pm ?_)
 refine gT (u := 109) h1 rfl (fun hc h1 => ?_) (fun hc h1 => ?_)
 refine k1 ?_
 refine k1 ?_
 refine pkt (nx ?_)
 cases h1
 exact wk [0,1,2,3,4]
 refine pm1 ?_
 refine rp rfl (w1 rfl rfl rfl) rfl (eI rfl rfl) (pkf (nx ?_))
 cases h1
 exact wk [0,1,2,3,4]
 refine bL h0 rfl (fun hc h0 => ?_) (fun hc h0 => ?_)
 refine sq [0] (pa (nx (aD (aS ?_))))
 cases h0
 exact r0t 4 rfl
 refine sk (sq [0,1] (rL rfl (aU tok rfl rfl rfl rfl) (bst tok (nx ?_))))
 obtain ⟨v31x,h1,h0⟩ := bnd h0
 refine dX v31x (fun v31 => ⟨aE ((fun _ => .dead)) 7 (.ptr 3 0 1 0 0),lks [.no, .no, .no, .live [⟨40,26, .av [[dS v31.Movement.Name,(dL aL v31.Movement.Works.Arbors),(dL bC v31.Movement.Works.Meshes),(dI v31.Movement.Minute),(dI v31.Movement.Hour),(dI v31.Movement.Escape),(dI v31.Movement.Teeth),(dI v31.Movement.Beats),(dS v31.Movement.Calendar.Name),(dL aM v31.Movement.Calendar.Months),(dL aB v31.Movement.Calendar.Rules),(dI v31.Movement.Calendar.Week),(dL cI v31.Movement.Cam),(dI v31.Movement.Strike),(dI v31.Start.Year),(dI v31.Start.Month),(dI v31.Start.Day),(dI v31.First),(dI v31.Clock),(dL cI v31.Dial.Cam),(dI v31.Dial.Months),(dI v31.Dial.Teeth),(dI v31.Dial.At),(dI v31.Dial.Day),(dI v31.Dial.Week),(dI v31.Dial.Weekday)]]⟩]]⟩) ?_ ?_
 refine aK ?_
 refine bD (fun s29 => ⟨aE (aE ((fun _ => .dead)) 7 (.ptr 3 0 1 0 0)) 16 (dI s29.1),lks [.no, .no, .no, .live [⟨40,26, .av [[dS s29.2.Movement.Name,(dL aL s29.2.Movement.Works.Arbors),(dL bC s29.2.Movement.Works.Meshes),(dI s29.2.Movement.Minute),(dI s29.2.Movement.Hour),(dI s29.2.Movement.Escape),(dI s29.2.Movement.Teeth),(dI s29.2.Movement.Beats),(dS s29.2.Movement.Calendar.Name),(dL aM s29.2.Movement.Calendar.Months),(dL aB s29.2.Movement.Calendar.Rules),(dI s29.2.Movement.Calendar.Week),(dL cI s29.2.Movement.Cam),(dI s29.2.Movement.Strike),(dI s29.2.Start.Year),(dI s29.2.Start.Month),(dI s29.2.Start.Day),(dI s29.2.First),(dI s29.2.Clock),(dL cI s29.2.Dial.Cam),(dI s29.2.Dial.Months),(dI s29.2.Dial.Teeth),(dI s29.2.Dial.At),(dI s29.2.Dial.Day),(dI s29.2.Dial.Week),(dI s29.2.Dial.Weekday)]]⟩]]⟩) h1 ?_ (fun s29 y h2 => ?_)
 exact wk [0,1,2,4]
 refine aG (sq [0,1] (pm ?_))
 refine rP rfl (eI rfl rfl) (nx ?_)
 refine bM h2 rfl (fun hc h2 => ?_) (fun hc h2 => ?_)
 refine sk (aK (sq [0,1,2] (pm ?_)))
 refine rP rfl (aTf rfl rfl) (pa (nx (sq [0,1,2,3,4,5,6,7,8,9,10,11] ?_)))
 refine rL rfl (aU tok rfl rfl rfl rfl) (pm ?_)
 refine rP rfl (fO rfl rfl) ?_
 obtain ⟨v30,hv30,h2⟩ := bnd h2
 refine rS rfl (aO 4 (aFq hv30) rfl rfl rfl) (rP rfl (aH (r := .tup _) rfl) ?_)
 iterate 3 refine rP rfl (aQ rfl rfl) ?_
 refine al 11 [ze,zl,zl,z0,z0,z0,z0,z0,ze,zl,zl,z0,zl,z0,z0,z0,z0,z0,z0,zl,z0,z0,z0,z0,z0,z0] tok ?_
 refine bst tok ?_
 refine pa ?_
 refine pa (nx (aG (sq [0,1] ?_)))
 refine pm ?_
 refine rP rfl (fA rfl rfl) (nx ?_)
 refine bM h2 rfl (fun hc h2 => ?_) (fun hc h2 => ?_)
 refine sq [0] (pa (nx (aD (aS ?_))))
 refine bH ?_
 cases h2
 refine eV ⟨_,rfl,fun e => ?_⟩
 subst e
 refine bH ?_
 replace h0 := gG h0
 refine aS ?_
 cases h0
 exact r0t 4 rfl
 refine sk (sq [0,1] (rL rfl (aU tok rfl rfl rfl rfl) (bst tok (nx (sr [0,1,2,3] ?_)))))
 refine pm ?_
 refine pm ?_
 refine rP rfl (eM rfl rfl) (pa (bB ?_))
 refine bF (cA ?_)
 cases h2
 refine ⟨_,rfl,?_⟩
 refine iM.trans_ (mN (k := 4) (kf := 5) rfl rfl (fun _ => rfl) rfl) (iM.trans_ (tU (k := 4) (t' := aE (aE ((fun _ => .dead)) 7 (.ptr 3 0 1 0 0)) 16 (dI (w64 (s29.1 - (min s29.1 30))))) rfl (FzL.box (kb := 11) (ds := [dS v30.1.Movement.Name,(dL aL v30.1.Movement.Works.Arbors), .own 6 0 (v30.1.Movement.Works.Meshes).length,(dI v30.1.Movement.Minute),(dI v30.1.Movement.Hour),(dI v30.1.Movement.Escape),(dI v30.1.Movement.Teeth),(dI v30.1.Movement.Beats),(dS v30.1.Movement.Calendar.Name), .own 7 0 (v30.1.Movement.Calendar.Months).length, .own 8 0 (v30.1.Movement.Calendar.Rules).length,(dI v30.1.Movement.Calendar.Week), .own 9 0 (v30.1.Movement.Cam).length,(dI v30.1.Movement.Strike),(dI v30.1.Start.Year),(dI v30.1.Start.Month),(dI v30.1.Start.Day),(dI v30.1.First),(dI v30.1.Clock), .own 10 0 (v30.1.Dial.Cam).length,(dI v30.1.Dial.Months),(dI v30.1.Dial.Teeth),(dI v30.1.Dial.At),(dI v30.1.Dial.Day),(dI v30.1.Dial.Week),(dI v30.1.Dial.Weekday)]) rfl rfl (by repeat (first | exact fX.nil | apply fX.cons | exact FzR.d _ | exact FzR.own rfl (by first | rfl | (simp; done) | (simp; omega)) | exact FzR.ptr rfl (by repeat (first | exact Drp.z _ | apply Drp.d)) | exact FzR.own' | exact FzR.ptr' | exact FzR.ref _ | apply FzR.agg | apply FzR.tup | apply FzR.fn | exact FzR.dead _)) (FzL.box (kb := 3) (ds := [dS v30.1.Movement.Name,(dL aL v30.1.Movement.Works.Arbors), .own 6 0 (v30.1.Movement.Works.Meshes).length,(dI v30.1.Movement.Minute),(dI v30.1.Movement.Hour),(dI v30.1.Movement.Escape),(dI v30.1.Movement.Teeth),(dI v30.1.Movement.Beats),(dS v30.1.Movement.Calendar.Name), .own 7 0 (v30.1.Movement.Calendar.Months).length, .own 8 0 (v30.1.Movement.Calendar.Rules).length,(dI v30.1.Movement.Calendar.Week), .own 9 0 (v30.1.Movement.Cam).length,(dI v30.1.Movement.Strike),(dI v30.1.Start.Year),(dI v30.1.Start.Month),(dI v30.1.Start.Day),(dI v30.1.First),(dI v30.1.Clock), .own 10 0 (v30.1.Dial.Cam).length,(dI v30.1.Dial.Months),(dI v30.1.Dial.Teeth),(dI v30.1.Dial.At),(dI v30.1.Dial.Day),(dI v30.1.Dial.Week),(dI v30.1.Dial.Weekday)]) rfl rfl (by repeat (first | exact fX.nil | apply fX.cons | exact FzR.d _ | exact FzR.own rfl (by first | rfl | (simp; done) | (simp; omega)) | exact FzR.ptr rfl (by repeat (first | exact Drp.z _ | apply Drp.d)) | exact FzR.own' | exact FzR.ptr' | exact FzR.ref _ | apply FzR.agg | apply FzR.tup | apply FzR.fn | exact FzR.dead _)) (FzL.nil)))) (iM.trans_ (tU (k := 6) (t' := aE (aE ((fun _ => .dead)) 7 (.ptr 3 0 1 0 0)) 16 (dI (w64 (s29.1 - (min s29.1 30))))) rfl (FzL.box (kb := 11) (ds := [dS v30.1.Movement.Name,(dL aL v30.1.Movement.Works.Arbors),(dL bC v30.1.Movement.Works.Meshes),(dI v30.1.Movement.Minute),(dI v30.1.Movement.Hour),(dI v30.1.Movement.Escape),(dI v30.1.Movement.Teeth),(dI v30.1.Movement.Beats),(dS v30.1.Movement.Calendar.Name), .own 7 0 (v30.1.Movement.Calendar.Months).length, .own 8 0 (v30.1.Movement.Calendar.Rules).length,(dI v30.1.Movement.Calendar.Week), .own 9 0 (v30.1.Movement.Cam).length,(dI v30.1.Movement.Strike),(dI v30.1.Start.Year),(dI v30.1.Start.Month),(dI v30.1.Start.Day),(dI v30.1.First),(dI v30.1.Clock), .own 10 0 (v30.1.Dial.Cam).length,(dI v30.1.Dial.Months),(dI v30.1.Dial.Teeth),(dI v30.1.Dial.At),(dI v30.1.Dial.Day),(dI v30.1.Dial.Week),(dI v30.1.Dial.Weekday)]) rfl rfl (by repeat (first | exact fX.nil | apply fX.cons | exact FzR.d _ | exact FzR.own rfl (by first | rfl | (simp; done) | (simp; omega)) | exact FzR.ptr rfl (by repeat (first | exact Drp.z _ | apply Drp.d)) | exact FzR.own' | exact FzR.ptr' | exact FzR.ref _ | apply FzR.agg | apply FzR.tup | apply FzR.fn | exact FzR.dead _)) (FzL.box (kb := 3) (ds := [dS v30.1.Movement.Name,(dL aL v30.1.Movement.Works.Arbors),(dL bC v30.1.Movement.Works.Meshes),(dI v30.1.Movement.Minute),(dI v30.1.Movement.Hour),(dI v30.1.Movement.Escape),(dI v30.1.Movement.Teeth),(dI v30.1.Movement.Beats),(dS v30.1.Movement.Calendar.Name), .own 7 0 (v30.1.Movement.Calendar.Months).length, .own 8 0 (v30.1.Movement.Calendar.Rules).length,(dI v30.1.Movement.Calendar.Week), .own 9 0 (v30.1.Movement.Cam).length,(dI v30.1.Movement.Strike),(dI v30.1.Start.Year),(dI v30.1.Start.Month),(dI v30.1.Start.Day),(dI v30.1.First),(dI v30.1.Clock), .own 10 0 (v30.1.Dial.Cam).length,(dI v30.1.Dial.Months),(dI v30.1.Dial.Teeth),(dI v30.1.Dial.At),(dI v30.1.Dial.Day),(dI v30.1.Dial.Week),(dI v30.1.Dial.Weekday)]) rfl rfl (by repeat (first | exact fX.nil | apply fX.cons | exact FzR.d _ | exact FzR.own rfl (by first | rfl | (simp; done) | (simp; omega)) | exact FzR.ptr rfl (by repeat (first | exact Drp.z _ | apply Drp.d)) | exact FzR.own' | exact FzR.ptr' | exact FzR.ref _ | apply FzR.agg | apply FzR.tup | apply FzR.fn | exact FzR.dead _)) (FzL.nil)))) (iM.trans_ (tU (k := 7) (t' := aE (aE ((fun _ => .dead)) 7 (.ptr 3 0 1 0 0)) 16 (dI (w64 (s29.1 - (min s29.1 30))))) rfl (FzL.box (kb := 11) (ds := [dS v30.1.Movement.Name,(dL aL v30.1.Movement.Works.Arbors),(dL bC v30.1.Movement.Works.Meshes),(dI v30.1.Movement.Minute),(dI v30.1.Movement.Hour),(dI v30.1.Movement.Escape),(dI v30.1.Movement.Teeth),(dI v30.1.Movement.Beats),(dS v30.1.Movement.Calendar.Name),(dL aM v30.1.Movement.Calendar.Months), .own 8 0 (v30.1.Movement.Calendar.Rules).length,(dI v30.1.Movement.Calendar.Week), .own 9 0 (v30.1.Movement.Cam).length,(dI v30.1.Movement.Strike),(dI v30.1.Start.Year),(dI v30.1.Start.Month),(dI v30.1.Start.Day),(dI v30.1.First),(dI v30.1.Clock), .own 10 0 (v30.1.Dial.Cam).length,(dI v30.1.Dial.Months),(dI v30.1.Dial.Teeth),(dI v30.1.Dial.At),(dI v30.1.Dial.Day),(dI v30.1.Dial.Week),(dI v30.1.Dial.Weekday)]) rfl rfl (by repeat (first | exact fX.nil | apply fX.cons | exact FzR.d _ | exact FzR.own rfl (by first | rfl | (simp; done) | (simp; omega)) | exact FzR.ptr rfl (by repeat (first | exact Drp.z _ | apply Drp.d)) | exact FzR.own' | exact FzR.ptr' | exact FzR.ref _ | apply FzR.agg | apply FzR.tup | apply FzR.fn | exact FzR.dead _)) (FzL.box (kb := 3) (ds := [dS v30.1.Movement.Name,(dL aL v30.1.Movement.Works.Arbors),(dL bC v30.1.Movement.Works.Meshes),(dI v30.1.Movement.Minute),(dI v30.1.Movement.Hour),(dI v30.1.Movement.Escape),(dI v30.1.Movement.Teeth),(dI v30.1.Movement.Beats),(dS v30.1.Movement.Calendar.Name),(dL aM v30.1.Movement.Calendar.Months), .own 8 0 (v30.1.Movement.Calendar.Rules).length,(dI v30.1.Movement.Calendar.Week), .own 9 0 (v30.1.Movement.Cam).length,(dI v30.1.Movement.Strike),(dI v30.1.Start.Year),(dI v30.1.Start.Month),(dI v30.1.Start.Day),(dI v30.1.First),(dI v30.1.Clock), .own 10 0 (v30.1.Dial.Cam).length,(dI v30.1.Dial.Months),(dI v30.1.Dial.Teeth),(dI v30.1.Dial.At),(dI v30.1.Dial.Day),(dI v30.1.Dial.Week),(dI v30.1.Dial.Weekday)]) rfl rfl (by repeat (first | exact fX.nil | apply fX.cons | exact FzR.d _ | exact FzR.own rfl (by first | rfl | (simp; done) | (simp; omega)) | exact FzR.ptr rfl (by repeat (first | exact Drp.z _ | apply Drp.d)) | exact FzR.own' | exact FzR.ptr' | exact FzR.ref _ | apply FzR.agg | apply FzR.tup | apply FzR.fn | exact FzR.dead _)) (FzL.nil)))) (iM.trans_ (tU (k := 8) (t' := aE (aE ((fun _ => .dead)) 7 (.ptr 3 0 1 0 0)) 16 (dI (w64 (s29.1 - (min s29.1 30))))) rfl (FzL.box (kb := 11) (ds := [dS v30.1.Movement.Name,(dL aL v30.1.Movement.Works.Arbors),(dL bC v30.1.Movement.Works.Meshes),(dI v30.1.Movement.Minute),(dI v30.1.Movement.Hour),(dI v30.1.Movement.Escape),(dI v30.1.Movement.Teeth),(dI v30.1.Movement.Beats),(dS v30.1.Movement.Calendar.Name),(dL aM v30.1.Movement.Calendar.Months),(dL aB v30.1.Movement.Calendar.Rules),(dI v30.1.Movement.Calendar.Week), .own 9 0 (v30.1.Movement.Cam).length,(dI v30.1.Movement.Strike),(dI v30.1.Start.Year),(dI v30.1.Start.Month),(dI v30.1.Start.Day),(dI v30.1.First),(dI v30.1.Clock), .own 10 0 (v30.1.Dial.Cam).length,(dI v30.1.Dial.Months),(dI v30.1.Dial.Teeth),(dI v30.1.Dial.At),(dI v30.1.Dial.Day),(dI v30.1.Dial.Week),(dI v30.1.Dial.Weekday)]) rfl rfl (by repeat (first | exact fX.nil | apply fX.cons | exact FzR.d _ | exact FzR.own rfl (by first | rfl | (simp; done) | (simp; omega)) | exact FzR.ptr rfl (by repeat (first | exact Drp.z _ | apply Drp.d)) | exact FzR.own' | exact FzR.ptr' | exact FzR.ref _ | apply FzR.agg | apply FzR.tup | apply FzR.fn | exact FzR.dead _)) (FzL.box (kb := 3) (ds := [dS v30.1.Movement.Name,(dL aL v30.1.Movement.Works.Arbors),(dL bC v30.1.Movement.Works.Meshes),(dI v30.1.Movement.Minute),(dI v30.1.Movement.Hour),(dI v30.1.Movement.Escape),(dI v30.1.Movement.Teeth),(dI v30.1.Movement.Beats),(dS v30.1.Movement.Calendar.Name),(dL aM v30.1.Movement.Calendar.Months),(dL aB v30.1.Movement.Calendar.Rules),(dI v30.1.Movement.Calendar.Week), .own 9 0 (v30.1.Movement.Cam).length,(dI v30.1.Movement.Strike),(dI v30.1.Start.Year),(dI v30.1.Start.Month),(dI v30.1.Start.Day),(dI v30.1.First),(dI v30.1.Clock), .own 10 0 (v30.1.Dial.Cam).length,(dI v30.1.Dial.Months),(dI v30.1.Dial.Teeth),(dI v30.1.Dial.At),(dI v30.1.Dial.Day),(dI v30.1.Dial.Week),(dI v30.1.Dial.Weekday)]) rfl rfl (by repeat (first | exact fX.nil | apply fX.cons | exact FzR.d _ | exact FzR.own rfl (by first | rfl | (simp; done) | (simp; omega)) | exact FzR.ptr rfl (by repeat (first | exact Drp.z _ | apply Drp.d)) | exact FzR.own' | exact FzR.ptr' | exact FzR.ref _ | apply FzR.agg | apply FzR.tup | apply FzR.fn | exact FzR.dead _)) (FzL.nil)))) (iM.trans_ (tU (k := 9) (t' := aE (aE ((fun _ => .dead)) 7 (.ptr 3 0 1 0 0)) 16 (dI (w64 (s29.1 - (min s29.1 30))))) rfl (FzL.box (kb := 11) (ds := [dS v30.1.Movement.Name,(dL aL v30.1.Movement.Works.Arbors),(dL bC v30.1.Movement.Works.Meshes),(dI v30.1.Movement.Minute),(dI v30.1.Movement.Hour),(dI v30.1.Movement.Escape),(dI v30.1.Movement.Teeth),(dI v30.1.Movement.Beats),(dS v30.1.Movement.Calendar.Name),(dL aM v30.1.Movement.Calendar.Months),(dL aB v30.1.Movement.Calendar.Rules),(dI v30.1.Movement.Calendar.Week),(dL cI v30.1.Movement.Cam),(dI v30.1.Movement.Strike),(dI v30.1.Start.Year),(dI v30.1.Start.Month),(dI v30.1.Start.Day),(dI v30.1.First),(dI v30.1.Clock), .own 10 0 (v30.1.Dial.Cam).length,(dI v30.1.Dial.Months),(dI v30.1.Dial.Teeth),(dI v30.1.Dial.At),(dI v30.1.Dial.Day),(dI v30.1.Dial.Week),(dI v30.1.Dial.Weekday)]) rfl rfl (by repeat (first | exact fX.nil | apply fX.cons | exact FzR.d _ | exact FzR.own rfl (by first | rfl | (simp; done) | (simp; omega)) | exact FzR.ptr rfl (by repeat (first | exact Drp.z _ | apply Drp.d)) | exact FzR.own' | exact FzR.ptr' | exact FzR.ref _ | apply FzR.agg | apply FzR.tup | apply FzR.fn | exact FzR.dead _)) (FzL.box (kb := 3) (ds := [dS v30.1.Movement.Name,(dL aL v30.1.Movement.Works.Arbors),(dL bC v30.1.Movement.Works.Meshes),(dI v30.1.Movement.Minute),(dI v30.1.Movement.Hour),(dI v30.1.Movement.Escape),(dI v30.1.Movement.Teeth),(dI v30.1.Movement.Beats),(dS v30.1.Movement.Calendar.Name),(dL aM v30.1.Movement.Calendar.Months),(dL aB v30.1.Movement.Calendar.Rules),(dI v30.1.Movement.Calendar.Week),(dL cI v30.1.Movement.Cam),(dI v30.1.Movement.Strike),(dI v30.1.Start.Year),(dI v30.1.Start.Month),(dI v30.1.Start.Day),(dI v30.1.First),(dI v30.1.Clock), .own 10 0 (v30.1.Dial.Cam).length,(dI v30.1.Dial.Months),(dI v30.1.Dial.Teeth),(dI v30.1.Dial.At),(dI v30.1.Dial.Day),(dI v30.1.Dial.Week),(dI v30.1.Dial.Weekday)]) rfl rfl (by repeat (first | exact fX.nil | apply fX.cons | exact FzR.d _ | exact FzR.own rfl (by first | rfl | (simp; done) | (simp; omega)) | exact FzR.ptr rfl (by repeat (first | exact Drp.z _ | apply Drp.d)) | exact FzR.own' | exact FzR.ptr' | exact FzR.ref _ | apply FzR.agg | apply FzR.tup | apply FzR.fn | exact FzR.dead _)) (FzL.nil)))) (iM.trans_ (tU (k := 10) (t' := aE (aE ((fun _ => .dead)) 7 (.ptr 3 0 1 0 0)) 16 (dI (w64 (s29.1 - (min s29.1 30))))) rfl (FzL.box (kb := 11) (ds := [dS v30.1.Movement.Name,(dL aL v30.1.Movement.Works.Arbors),(dL bC v30.1.Movement.Works.Meshes),(dI v30.1.Movement.Minute),(dI v30.1.Movement.Hour),(dI v30.1.Movement.Escape),(dI v30.1.Movement.Teeth),(dI v30.1.Movement.Beats),(dS v30.1.Movement.Calendar.Name),(dL aM v30.1.Movement.Calendar.Months),(dL aB v30.1.Movement.Calendar.Rules),(dI v30.1.Movement.Calendar.Week),(dL cI v30.1.Movement.Cam),(dI v30.1.Movement.Strike),(dI v30.1.Start.Year),(dI v30.1.Start.Month),(dI v30.1.Start.Day),(dI v30.1.First),(dI v30.1.Clock),(dL cI v30.1.Dial.Cam),(dI v30.1.Dial.Months),(dI v30.1.Dial.Teeth),(dI v30.1.Dial.At),(dI v30.1.Dial.Day),(dI v30.1.Dial.Week),(dI v30.1.Dial.Weekday)]) rfl rfl (by repeat (first | exact fX.nil | apply fX.cons | exact FzR.d _ | exact FzR.own rfl (by first | rfl | (simp; done) | (simp; omega)) | exact FzR.ptr rfl (by repeat (first | exact Drp.z _ | apply Drp.d)) | exact FzR.own' | exact FzR.ptr' | exact FzR.ref _ | apply FzR.agg | apply FzR.tup | apply FzR.fn | exact FzR.dead _)) (FzL.box (kb := 3) (ds := [dS v30.1.Movement.Name,(dL aL v30.1.Movement.Works.Arbors),(dL bC v30.1.Movement.Works.Meshes),(dI v30.1.Movement.Minute),(dI v30.1.Movement.Hour),(dI v30.1.Movement.Escape),(dI v30.1.Movement.Teeth),(dI v30.1.Movement.Beats),(dS v30.1.Movement.Calendar.Name),(dL aM v30.1.Movement.Calendar.Months),(dL aB v30.1.Movement.Calendar.Rules),(dI v30.1.Movement.Calendar.Week),(dL cI v30.1.Movement.Cam),(dI v30.1.Movement.Strike),(dI v30.1.Start.Year),(dI v30.1.Start.Month),(dI v30.1.Start.Day),(dI v30.1.First),(dI v30.1.Clock),(dL cI v30.1.Dial.Cam),(dI v30.1.Dial.Months),(dI v30.1.Dial.Teeth),(dI v30.1.Dial.At),(dI v30.1.Dial.Day),(dI v30.1.Dial.Week),(dI v30.1.Dial.Weekday)]) rfl rfl (by repeat (first | exact fX.nil | apply fX.cons | exact FzR.d _ | exact FzR.own rfl (by first | rfl | (simp; done) | (simp; omega)) | exact FzR.ptr rfl (by repeat (first | exact Drp.z _ | apply Drp.d)) | exact FzR.own' | exact FzR.ptr' | exact FzR.ref _ | apply FzR.agg | apply FzR.tup | apply FzR.fn | exact FzR.dead _)) (FzL.nil)))) ?_))))))
 exact wk [0,1,2,3]
 refine bK (bY ?_)
 cases h2
 refine cC ⟨_,rfl,fun e => ?_⟩
 subst e
 refine aY (aI ?_)
 refine ⟨_,rfl,?_⟩
 exact wk [0,1,2,3]
 rintro v31 rfl
 replace h0 := iP h0
 refine sq [0,1,2,3] (rL rfl (aU tok rfl rfl rfl rfl) ?_)
 obtain ⟨v32,hv32,h0⟩ := bnd h0
 refine rS rfl (aO 4 (zQ hv32) rfl rfl rfl) (rP rfl (bO rfl) (pa (nx (aD ?_))))
 cases h0
 exact r0t 4 rfl
end Go.Proofs.YtgcdbbidmfdonaaGreat
namespace Go.Proofs.YtgcdbbidmfdonaaGreat
set_option linter.unusedVariables false
theorem aNd (x : Int) : IntKind.u64.wrap x = x % 18446744073709551616 := by
 unfold IntKind.wrap
 simp [IntKind.signed,IntKind.bits]
theorem aLh {x : Int} (h0 : 0 ≤ x) (h1 : x < 18446744073709551616) : IntKind.u64.wrap x = x := by rw [aNd]; omega
theorem aO0 {x : Int} (h0 : -18446744073709551616 < x) (h1 : x < 0) : IntKind.u64.wrap (-(IntKind.u64.wrap x)) = -x := by rw [aNd,aNd]; omega
def kJ (x : Int) : Int := (x.natAbs : Int)
theorem tW (x : Int) : 0 ≤ kJ x := by unfold kJ; omega
theorem aA8 {x : Int} (h : osI x) : oS x = some (kJ x) := by
 obtain ⟨h0,h1⟩ := h
 unfold oS kJ
 split
 ·rw [aO0 (by omega) (by omega)]; congr 1; omega
 ·rw [aLh (by omega) (by omega)]; congr 1; omega
theorem xT {x : Int} (h : osI x) : lD x = some (kJ x) := by
 obtain ⟨h0,h1⟩ := h
 unfold lD kJ
 split
 ·rw [aO0 (by omega) (by omega)]; congr 1; omega
 ·rw [aLh (by omega) (by omega)]; congr 1; omega
theorem aK8 {a b : Int} : Int.gcd b (a.tmod b) = Int.gcd a b := by
 unfold Int.gcd
 rw [Int.natAbs_tmod,Nat.gcd_comm a.natAbs b.natAbs,Nat.gcd_comm, ← Nat.gcd_rec]
theorem aQc {step : Int × Int → Option ((Int × Int) ⊕ Int)} (hS : ∀ a b,b ≠ 0 → step (a,b) = some (.inl (b,a.tmod b))) (hE : ∀ a,step (a,0) = some (.inr a)) (a b : Int) (hb : b.natAbs ≤ 9223372036854775808) :
  ∃ g,cM step (a,b) = some g ∧ g.natAbs = Int.gcd a b ∧ (g = a ∨ g.natAbs ≤ b.natAbs) := by
 refine uB (fun (s : Int × Int) => Int.gcd s.1 s.2 = Int.gcd a b ∧ s.2.natAbs ≤ b.natAbs ∧ (s.1 = a ∨ s.1.natAbs ≤ b.natAbs)) (fun (s : Int × Int) => s.2.natAbs) (fun g => g.natAbs = Int.gcd a b ∧ (g = a ∨ g.natAbs ≤ b.natAbs)) (fun s hI => ?_) (a,b) ⟨rfl,Nat.le_refl _, .inl rfl⟩ (by dsimp only; omega)
 obtain ⟨x,y⟩ := s
 obtain ⟨h1,h2,h3⟩ := hI
 dsimp only at h1 h2 h3 ⊢
 by_cases hy : y = 0
 ·right
  subst hy
  exact ⟨x,hE x,by rw [← h1]; simp,h3⟩
 ·left
  have hlt : (x.tmod y).natAbs < y.natAbs := by rw [Int.natAbs_tmod]; exact Nat.mod_lt _ (by omega)
  exact ⟨_,hS x y hy,⟨by rw [aK8]; exact h1,by dsimp only; omega, .inr h2⟩,hlt⟩
theorem aCx {step : Int × Int → Option ((Int × Int) ⊕ Int)} (hS : ∀ a b,0 ≤ a → 0 < b → step (a,b) = some (.inl (b,a.tmod b))) (hE : ∀ a,step (a,0) = some (.inr a)) {a b : Int} (ha : 0 ≤ a) (hb0 : 0 ≤ b) (hb : b ≤ 18446744073709551616) :
  cM step (a,b) = some (Int.gcd a b : Int) := by
 obtain ⟨g,h,h1,h2⟩ := uB (step := step) (fun (s : Int × Int) => Int.gcd s.1 s.2 = Int.gcd a b ∧ 0 ≤ s.1 ∧ 0 ≤ s.2) (fun (s : Int × Int) => s.2.natAbs) (fun g => g.natAbs = Int.gcd a b ∧ 0 ≤ g) (fun s hI => by
  obtain ⟨x,y⟩ := s
  obtain ⟨h1,h2,h3⟩ := hI
  dsimp only at h1 h2 h3 ⊢
  by_cases hy : y = 0
  ·right
   subst hy
   exact ⟨x,hE x,by rw [← h1]; simp,h2⟩
  ·left
   have hlt : (x.tmod y).natAbs < y.natAbs := by rw [Int.natAbs_tmod]; exact Nat.mod_lt _ (by omega)
   exact ⟨_,hS x y h2 (by omega),⟨by rw [aK8]; exact h1,h3,Int.tmod_nonneg _ h2⟩,hlt⟩) (a,b) ⟨rfl,ha,hb0⟩ (by dsimp only; omega)
 rw [h]; congr 1; omega
theorem uG {n d : Int} (h : d ≠ 0) : 0 < Int.gcd n d := Int.gcd_pos_of_ne_zero_right n h
theorem aN4 (n d : Int) : Int.gcd (kJ n) (kJ d) = Int.gcd n d := by unfold kJ Int.gcd; simp
theorem tM {a g : Int} (ha : 0 ≤ a) (hg : 0 < g) : 0 ≤ a / g ∧ a / g ≤ a := ⟨Int.ediv_nonneg ha (by omega),Int.ediv_le_self _ ha⟩
def mkR (n d : Int) : aJ × Bool :=
 if 1000000000 < kJ n / (Int.gcd n d : Int) ∨ 1000000000 < kJ d / (Int.gcd n d : Int) then (⟨0,0⟩,false)
 else (⟨if (decide (n < 0) != decide (d < 0)) = true then -(kJ n / (Int.gcd n d : Int)) else kJ n / (Int.gcd n d : Int),kJ d / (Int.gcd n d : Int)⟩,true)
theorem aHq {n d : Int} (hn : osI n) (hd : osI d) (h : d ≠ 0) {f : Int → Option (aJ × Bool)} (hf : ∀ g,f g = (chk (g ≠ 0) (chk (g ≠ 0) ((((if 1000000000 < (IntKind.u64.wrap ((kJ n).tdiv g)) then some true else some (decide (1000000000 < (IntKind.u64.wrap ((kJ d).tdiv g))))) : Option Bool).bind fun v10 => (if v10 = true then some ((⟨0,0⟩ : aJ),false) else (((if ((decide (n < 0)) != (decide (d < 0))) = true then some (⟨w64 (-(w64 (IntKind.u64.wrap ((kJ n).tdiv g)))),w64 (IntKind.u64.wrap ((kJ d).tdiv g))⟩ : aJ) else some (⟨w64 (IntKind.u64.wrap ((kJ n).tdiv g)),w64 (IntKind.u64.wrap ((kJ d).tdiv g))⟩ : aJ)) : Option aJ).bind fun v11 => some (v11,true)))))))) :
  f (Int.gcd n d : Int) = some (mkR n d) := by
 have hg := uG (n := n) h
 have a0 := tW n
 have b0 := tW d
 have a1 : kJ n ≤ 9223372036854775808 := by unfold kJ; obtain ⟨_,_⟩ := hn; omega
 have b1 : kJ d ≤ 9223372036854775808 := by unfold kJ; obtain ⟨_,_⟩ := hd; omega
 have qa := tM (a := kJ n) (g := (Int.gcd n d : Int)) a0 (by omega)
 have qb := tM (a := kJ d) (g := (Int.gcd n d : Int)) b0 (by omega)
 rw [hf,gA (by omega),gA (by omega),Int.tdiv_eq_ediv_of_nonneg a0,Int.tdiv_eq_ediv_of_nonneg b0]
 unfold mkR
 generalize kJ n / (Int.gcd n d : Int) = a at *
 generalize kJ d / (Int.gcd n d : Int) = b at *
 rw [aLh qa.1 (by omega),aLh qb.1 (by omega)]
 by_cases c1 : 1000000000 < a
 ·simp [c1]
 ·by_cases c2 : 1000000000 < b
  ·simp [c1,c2]
  ·rw [aT (x := a) (by omega) (by omega),aT (x := b) (by omega) (by omega),aT (x := -a) (by omega) (by omega)]
   simp only [if_neg c1,decide_eq_false c2,Option.bind_some,Bool.false_eq_true,if_false,c1,c2,or_self]
   cases (decide (n < 0) != decide (d < 0)) <;> simp
theorem kQ {n d : Int} (hn : osI n) (hd : osI d) (h : d ≠ 0) : fM n d = some (mkR n d) := by
 unfold fM
 have b1 : kJ d ≤ 9223372036854775808 := by unfold kJ; obtain ⟨_,_⟩ := hd; omega
 rw [aA8 hn,Option.bind_some,aA8 hd,Option.bind_some,aCx (fun a b h0 h1 => by simp only; rw [if_pos h1,gA (by omega)]) (fun a => by simp) (tW n) (tW d) (by omega),aN4,Option.bind_some]
 exact aHq hn hd h fun g => rfl
theorem aHo {n d : Int} (hn : osI n) (hd : osI d) (h : d ≠ 0) : rF n d = some (mkR n d) := by
 unfold rF
 have b1 : kJ d ≤ 9223372036854775808 := by unfold kJ; obtain ⟨_,_⟩ := hd; omega
 rw [xT hn,Option.bind_some,xT hd,Option.bind_some,aCx (fun a b h0 h1 => by simp only; rw [if_pos (by omega),gA (by omega)]) (fun a => by simp) (tW n) (tW d) (by omega),aN4,Option.bind_some]
 exact aHq hn hd h fun g => rfl
def aH1 (x : aJ × Bool) : aJ × Int := if x.2 = true then (x.1,0) else (⟨0,0⟩,2)
def aPo (n d : Int) : aJ × Int := if d = 0 then (⟨0,0⟩,6) else aH1 (mkR n d)
theorem xW {n d : Int} (hn : osI n) (hd : osI d) : kY n d = some (aPo n d) := by
 unfold kY aPo aH1
 by_cases h : d = 0
 ·rw [if_pos h,if_pos h]
 ·rw [if_neg h,if_neg h,aHo hn hd h,Option.bind_some]
  cases (mkR n d).2 <;> simp
theorem aLj {a b : Int} (ha : osI a) (ha' : -9223372036854775808 < a) (hb : osI b) (hb' : -9223372036854775808 < b) : yK a b = some (Int.gcd a b : Int) := by
 unfold yK
 obtain ⟨a0,a1⟩ := ha
 obtain ⟨b0,b1⟩ := hb
 obtain ⟨g,h,h1,h2⟩ := aQc (step := fun s3 => (if s3.2 ≠ 0 then (chk (s3.2 ≠ 0) (some (.inl (s3.2,s3.1.tmod s3.2)))) else some (.inr s3.1))) (fun a b h => by simp only; rw [if_pos h,gA h]) (fun a => by simp) a b (by omega)
 rw [h,Option.bind_some]
 split
 ·rw [aT (by omega) (by omega)]; congr 1; omega
 ·congr 1; omega
theorem yG {a b : Int} (ha : 0 ≤ a) (hb : 0 ≤ b) (hb1 : b ≤ 18446744073709551616) : oB a b = some (Int.gcd a b : Int) := by
 unfold oB
 rw [aCx (fun a b h0 h1 => by simp only; rw [if_pos (by omega),gA (by omega)]) (fun a => by simp) ha hb hb1]; rfl
theorem sG {a : Int} (h : -9223372036854775808 < a) (h1 : a ≤ 9223372036854775807) : iI a = some (kJ a) := by
 unfold iI kJ
 split
 ·rw [aT (by omega) (by omega)]; congr 1; omega
 ·congr 1; omega
theorem aQ4 {a : Int} (h : -9223372036854775808 < a) (h1 : a ≤ 9223372036854775807) : aDf a = some (kJ a) := by
 unfold aDf kJ
 split
 ·rw [aT (by omega) (by omega)]; congr 1; omega
 ·congr 1; omega
def aEf (r : aJ) : Bool := btw r.Den 1 1000000000 && (btw r.Num (-1000000000) 1000000000 && decide (Int.gcd r.Num r.Den = 1))
theorem aK1 {r : aJ} : aEf r = true ↔ (1 ≤ r.Den ∧ r.Den ≤ 1000000000) ∧ (-1000000000 ≤ r.Num ∧ r.Num ≤ 1000000000) ∧ Int.gcd r.Num r.Den = 1 := by
 unfold aEf btw
 simp only [Bool.and_eq_true,decide_eq_true_eq]
theorem aCs (r : aJ) : jX r = some (aEf r) := by
 unfold jX aEf
 simp only [eF,Option.bind_some]
 by_cases h1 : btw r.Den 1 1000000000 = true
 ·by_cases h2 : btw r.Num (-1000000000) 1000000000 = true
  ·have g1 := of_decide_eq_true h1
   have g2 := of_decide_eq_true h2
   rw [if_pos h1,if_pos h2,aLj ⟨by omega,by omega⟩ (by omega) ⟨by omega,by omega⟩ (by omega),h1,h2]
   simp only [Option.bind_some,Bool.true_and]
   congr 1
   rw [decide_eq_decide]
   omega
  ·simp [h1,h2]
 ·simp [h1]
theorem aFh (r : aJ) : tO r = some (aEf r) := by
 unfold tO aEf
 simp only [dZ,Option.bind_some]
 by_cases h1 : btw r.Den 1 1000000000 = true
 ·by_cases h2 : btw r.Num (-1000000000) 1000000000 = true
  ·have g1 := of_decide_eq_true h1
   have g2 := of_decide_eq_true h2
   have e : Int.gcd (kJ r.Num) r.Den = Int.gcd r.Num r.Den := by unfold kJ Int.gcd; simp
   rw [if_pos h1,if_pos h2,sG (by omega) (by omega),Option.bind_some,yG (tW _) (by omega) (by omega),h1,h2,e]
   simp only [Option.bind_some,Bool.true_and]
   congr 1
   rw [decide_eq_decide]
   omega
  ·simp [h1,h2]
 ·simp [h1]
end Go.Proofs.YtgcdbbidmfdonaaGreat
namespace Go.Proofs.YtgcdbbidmfdonaaGreat
set_option linter.unusedVariables false
def aNq (m : bP) : Bool := mH m.Name && (btw m.Days 1 60 && btw m.Leap 1 60)
def nV (r : bA) : Bool := btw r.Every 1 1000 && btw r.Rest 0 (r.Every - 1)
def aE6 (y : Int) (r : bA) : Int := if y ≤ 2000 then y / (Int.gcd y r.Every : Int) * r.Every else y
def cyc (rs : List bA) : Int := rs.foldl aE6 1
def aB1 (xs : List bP) : Bool := aIx xs fun i m => aNq m && !((xs.take i).any fun n => decide (n.Name = m.Name))
def mV (c : aA) : Bool := mH c.Name && (decide (1 ≤ c.Months.length ∧ c.Months.length ≤ 20) && (decide (c.Rules.length ≤ 6) && (btw c.Week 1 12 && (aB1 c.Months && (c.Rules.all nV && decide (cyc c.Rules ≤ 2000))))))
theorem rE {r : bA} : nV r = true ↔ (1 ≤ r.Every ∧ r.Every ≤ 1000) ∧ 0 ≤ r.Rest ∧ r.Rest ≤ r.Every - 1 := by
 unfold nV btw
 simp only [Bool.and_eq_true,decide_eq_true_eq]
theorem xO {y e : Int} (y0 : 1 ≤ y) (y1 : y ≤ 2000) (e0 : 1 ≤ e) (e1 : e ≤ 1000) : 1 ≤ y / (Int.gcd y e : Int) ∧ y / (Int.gcd y e : Int) ≤ 2000 ∧ 1 ≤ y / (Int.gcd y e : Int) * e ∧ y / (Int.gcd y e : Int) * e ≤ 2000000 := by
 have hg := uG (n := y) (d := e) (by omega)
 have hd : (Int.gcd y e : Int) ∣ y := Int.gcd_dvd_left ..
 have h1 : 1 ≤ y / (Int.gcd y e : Int) := by
  have h2 : (Int.gcd y e : Int) ≤ y := Int.le_of_dvd (by omega) hd
  exact (Int.le_ediv_iff_mul_le (by omega)).2 (by omega)
 have h2 : y / (Int.gcd y e : Int) ≤ y := Int.ediv_le_self _ (by omega)
 refine ⟨h1,by omega,?_,?_⟩
 ·have := Int.mul_le_mul h1 e0 (by omega) (by omega); omega
 ·have := Int.mul_le_mul (show y / (Int.gcd y e : Int) ≤ 2000 by omega) e1 (by omega) (by omega); omega
theorem aS0 {y : Int} {r : bA} (y0 : 1 ≤ y) (y1 : y ≤ 2000000) (h : nV r = true) : 1 ≤ aE6 y r ∧ aE6 y r ≤ 2000000 := by
 unfold aE6
 have hr := rE.1 h
 split
 ·have := xO y0 (by omega) hr.1.1 hr.1.2; omega
 ·omega
theorem aLm {rs : List bA} {y : Int} (h : 2000 < y) : rs.foldl aE6 y = y := by
 induction rs generalizing y with
 | nil => rfl
 | cons r rs ih =>
  rw [List.foldl_cons]
  have e : aE6 y r = y := by unfold aE6; rw [if_neg (by omega)]
  rw [e]; exact ih h
theorem aDk {rs : List bA} (hl : rs.length ≤ 9223372036854775807) (h : rs.all nV = true) : lM rs = some (cyc rs) := by
 unfold lM
 have hr : ∀ (i : Nat) (hi : i < rs.length),nV rs[i] = true := fun i hi => (List.all_eq_true.1 h) _ (List.getElem_mem hi)
 have := zI (xs := rs) (step := fun s6 => (if s6.2 < (rs.length : Int) then ((((atI rs s6.2).bind fun v7 => (if s6.1 ≤ 2000 then ((yK s6.1 v7.Every).bind fun v8 => (chk (v8 ≠ 0) (some (w64 ((w64 (s6.1.tdiv v8)) * v7.Every))))) else some s6.1)) : Option Int).bind fun v10 => some (.inl (v10,w64 (s6.2 + 1)))) else some (.inr s6.1)))
  (fun i (y : Int) => (y,i)) (fun _ r y => some (.inl (aE6 y r))) id (fun y => 1 ≤ y ∧ y ≤ 2000000) hl (fun i hi y hy => by
   have hi' : (i : Int) < rs.length := by omega
   have e1 : w64 ((i : Int) + 1) = i + 1 := aT (by omega) (by omega)
   have hq := rE.1 (hr i hi)
   simp only [if_pos hi',eD hi,Option.bind_some,e1]
   unfold aE6
   by_cases c : y ≤ 2000
   ·have hc := xO hy.1 c hq.1.1 hq.1.2
    have hg := uG (n := y) (d := rs[i].Every) (by omega)
    rw [if_pos c,if_pos c,aLj ⟨by omega,by omega⟩ (by omega) ⟨by omega,by omega⟩ (by omega),Option.bind_some,gA (by omega),Int.tdiv_eq_ediv_of_nonneg (by omega),aT (x := y / _) (by omega) (by omega),aT (by omega) (by omega)]
    rfl
   ·rw [if_neg c,if_neg c]; rfl) (fun i hi y y' hy e => by
   injection e with e; injection e with e; subst e
   exact aS0 hy.1 hy.2 (hr i hi)) (fun y _ => by simp) 1 (by omega)
 rw [this,rO aE6 (fun _ _ _ => rfl)]
 rfl
theorem aJ2 {X : Type} {e : X} {rs : List bA} : ∀ (k : Nat) (y : Int),1 ≤ y → y ≤ 2000 → aM7 (X := X) (fun _ r y => if nV r = true then (if 2000 < y / (Int.gcd y r.Every : Int) * r.Every then some (.inr e) else some (.inl (y / (Int.gcd y r.Every : Int) * r.Every))) else some (.inr e)) rs k y = some (if rs.all nV = true ∧ rs.foldl aE6 y ≤ 2000 then .inl (rs.foldl aE6 y) else .inr e) := by
 induction rs with
 | nil => intro k y h0 h1; simp [aM7,h1]
 | cons r rs ih =>
  intro k y h0 h1
  show Option.bind (if nV r = true then _ else _) _ = _
  cases hr : nV r
  ·simp [hr]
  ·have hq := rE.1 hr
   have hc := xO h0 h1 hq.1.1 hq.1.2
   have e : aE6 y r = y / (Int.gcd y r.Every : Int) * r.Every := by unfold aE6; rw [if_pos h1]
   rw [if_pos rfl,List.foldl_cons,List.all_cons,hr,e,Bool.true_and]
   by_cases c : 2000 < y / (Int.gcd y r.Every : Int) * r.Every
   ·rw [if_pos c,Option.bind_some,aLm c,if_neg (by omega)]
   ·rw [if_neg c,Option.bind_some]
    exact ih (k + 1) _ hc.2.2.1 (by omega)
theorem zW {rs : List bA} (hl : rs.length ≤ 9223372036854775807) : mS rs = some (if rs.all nV = true ∧ cyc rs ≤ 2000 then (cyc rs,decide (rs.length ≤ 6)) else (0,false)) := by
 unfold mS
 rw [zI (xs := rs) (fun i (y : Int) => (y,i)) (fun _ r y => if nV r = true then (if 2000 < y / (Int.gcd y r.Every : Int) * r.Every then some (.inr (.inr (0,false))) else some (.inl (y / (Int.gcd y r.Every : Int) * r.Every))) else some (.inr (.inr (0,false)))) (fun y => .inl y) (fun y => 1 ≤ y ∧ y ≤ 2000) hl (fun i hi y hy => ?_) (fun i hi y y' hy e => ?_) (fun y _ => by simp) 1 (by omega)]
 ·have e : aM7 (X := Int ⊕ (Int × Bool)) (fun _ r y => if nV r = true then (if 2000 < y / (Int.gcd y r.Every : Int) * r.Every then some (.inr (.inr (0,false))) else some (.inl (y / (Int.gcd y r.Every : Int) * r.Every))) else some (.inr (.inr (0,false)))) rs 0 1 = some (if rs.all nV = true ∧ cyc rs ≤ 2000 then .inl (cyc rs) else .inr (.inr (0,false))) := aJ2 0 1 (by omega) (by omega)
  rw [e]
  by_cases c : rs.all nV = true ∧ cyc rs ≤ 2000
  ·simp only [if_pos c]
   simp [orE]
   omega
  ·simp only [if_neg c]; rfl
 ·have hi' : (i : Int) < rs.length := by omega
  have e1 : w64 ((i : Int) + 1) = i + 1 := aT (by omega) (by omega)
  simp only [if_pos hi',eD hi,Option.bind_some,e1,dZ]
  have e2 : nV rs[i] = (btw rs[i].Every 1 1000 && btw rs[i].Rest 0 (rs[i].Every - 1)) := rfl
  rw [e2]
  by_cases c1 : btw rs[i].Every 1 1000 = true
  ·have q := of_decide_eq_true c1
   rw [c1,aT (x := rs[i].Every - 1) (by omega) (by omega)]
   cases btw rs[i].Rest 0 (rs[i].Every - 1)
   ·rfl
   ·have hc := xO hy.1 hy.2 q.1 q.2
    have hg := uG (n := y) (d := rs[i].Every) (by omega)
    simp only [Bool.not_true,Bool.false_eq_true,if_false,Option.bind_some,Bool.and_self,if_true]
    rw [yG (by omega) (by omega) (by omega),Option.bind_some,gA (by omega),Int.tdiv_eq_ediv_of_nonneg (by omega),aT (x := y / _) (by omega) (by omega),aT (by omega) (by omega)]
    by_cases c : 2000 < y / (Int.gcd y rs[i].Every : Int) * rs[i].Every
    ·rw [if_pos c,if_pos c]; rfl
    ·rw [if_neg c,if_neg c]; rfl
  ·rw [Bool.not_eq_true] at c1
   rw [c1]; rfl
 ·split at e
  ·rename_i hr
   have hq := rE.1 hr
   have hc := xO hy.1 hy.2 hq.1.1 hq.1.2
   split at e
   ·cases e
   ·injection e with e; injection e with e; omega
  ·cases e
theorem aDz {xs : List bP} {m : bP} (hl : xs.length ≤ 9223372036854775807) : bW xs m = some (xs.any fun n => decide (n.Name = m.Name)) := by
 unfold bW cR
 rw [aQm (fun n => decide (n.Name = m.Name)) hl fun i hi => by rw [eD hi,Option.bind_some,jF,Option.bind_some],Option.bind_some,aF9]
theorem hZ {c : aA} (hm : c.Months.length ≤ 9223372036854775807) (hr : c.Rules.length ≤ 9223372036854775807) : eT c = some (mV c) := by
 unfold eT mV
 simp only [yR,eF,Option.bind_some,itO]
 simp only [aWc (p := (_ : Int) < _),itO,Option.bind_some]
 by_cases h : mH c.Name = true ∧ (1 ≤ c.Months.length ∧ c.Months.length ≤ 20) ∧ c.Rules.length ≤ 6 ∧ btw c.Week 1 12 = true
 ·obtain ⟨h1,h2,h3,h4⟩ := h
  rw [h1,h4,decide_eq_false (show ¬ (c.Months.length : Int) < 1 by omega),decide_eq_false (show ¬ 20 < (c.Months.length : Int) by omega),decide_eq_false (show ¬ 6 < (c.Rules.length : Int) by omega),decide_eq_true h2,decide_eq_true h3,if_neg (by decide),
   uS (e := .inr false) (fun i m => aNq m && !((c.Months.take i).any fun n => decide (n.Name = m.Name))) hm fun i hi => ?_,Option.bind_some,
   uS (e := .inr false) (fun _ r => nV r) hr fun i hi => ?_,Option.bind_some,lZ]
  ·by_cases h5 : c.Rules.all nV = true
   ·rw [aDk hr h5,Option.bind_some,h5]
    unfold aB1
    cases aIx c.Months (fun i m => aNq m && !((c.Months.take i).any fun n => decide (n.Name = m.Name))) <;> rfl
   ·rw [Bool.not_eq_true] at h5
    rw [h5]
    unfold aB1
    cases aIx c.Months (fun i m => aNq m && !((c.Months.take i).any fun n => decide (n.Name = m.Name))) <;> rfl
  ·rw [eD hi]
   simp only [Option.bind_some]
   by_cases q : btw c.Rules[i].Every 1 1000 = true
   ·have := of_decide_eq_true q
    unfold nV
    rw [q,aT (by omega) (by omega)]
    cases btw c.Rules[i].Rest 0 (c.Rules[i].Every - 1) <;> rfl
   ·rw [Bool.not_eq_true] at q
    unfold nV
    rw [q]; rfl
  ·rw [eD hi]
   simp only [Option.bind_some]
   rw [gA (aJ0 (by omega)),aN0,aDz (by rw [List.length_take]; omega),Option.bind_some]
   unfold aNq
   cases mH c.Months[i].Name <;> cases btw c.Months[i].Days 1 60 <;> cases btw c.Months[i].Leap 1 60 <;> cases ((c.Months.take i).any fun n => decide (n.Name = c.Months[i].Name)) <;> rfl
 ·have e : (!mH c.Name || (decide ((c.Months.length : Int) < 1) || (decide (20 < (c.Months.length : Int)) || (decide (6 < (c.Rules.length : Int)) || !btw c.Week 1 12)))) = true := by
   simp only [Bool.or_eq_true,Bool.not_eq_true',decide_eq_true_eq]
   by_cases h1 : mH c.Name = true
   ·by_cases h2 : 1 ≤ c.Months.length ∧ c.Months.length ≤ 20
    ·by_cases h3 : c.Rules.length ≤ 6
     ·have h4 : ¬ btw c.Week 1 12 = true := fun h4 => h ⟨h1,h2,h3,h4⟩
      simp [h4]
     ·omega
    ·omega
   ·simp [h1]
  rw [e,if_pos rfl]
  congr 1
  symm
  rw [← Bool.not_eq_true]
  simp only [Bool.and_eq_true,decide_eq_true_eq]
  rintro ⟨h1,h2,h3,h4,_⟩
  exact h ⟨h1,h2,h3,h4⟩
theorem aEr {xs : List bP} (hl : xs.length ≤ 9223372036854775807) : nJ xs = some (aB1 xs && decide (1 ≤ xs.length ∧ xs.length ≤ 20)) := by
 unfold nJ
 rw [uS (e := .inr false) (fun i m => aNq m && !((xs.take i).any fun n => decide (n.Name = m.Name))) hl fun i hi => ?_,Option.bind_some]
 ·have e : btw (xs.length : Int) 1 20 = decide (1 ≤ xs.length ∧ xs.length ≤ 20) := by unfold btw; rw [decide_eq_decide]; omega
  rw [dZ,e]
  unfold aB1
  cases aIx xs (fun i m => aNq m && !((xs.take i).any fun n => decide (n.Name = m.Name))) <;> rfl
 ·simp only [eD hi,rQ,dZ,Option.bind_some,itO]
  rw [aTe (xs := xs) i (fun _ (b : bP) => !decide (b.Name = xs[i].Name)) (by omega) (by omega) fun j hj _ => by
   rw [eD hj,Option.bind_some]
   by_cases q : xs[j].Name = xs[i].Name
   ·rw [if_pos q,decide_eq_true q]; rfl
   ·rw [if_neg q,decide_eq_false q]; rfl,lZ]
  have e : ((xs.take i).all fun b => !decide (b.Name = xs[i].Name)) = !((xs.take i).any fun b => decide (b.Name = xs[i].Name)) := by rw [Bool.eq_iff_iff]; simp
  rw [e]
  unfold aNq
  cases mH xs[i].Name <;> cases btw xs[i].Days 1 60 <;> cases btw xs[i].Leap 1 60 <;> cases ((xs.take i).any fun n => decide (n.Name = xs[i].Name)) <;> rfl
theorem tQ {c : aA} (hm : c.Months.length ≤ 9223372036854775807) (hr : c.Rules.length ≤ 9223372036854775807) : nM c = some (mV c) := by
 unfold nM mV
 rw [zW hr,Option.bind_some]
 simp only [rQ,aEr hm,dZ,Option.bind_some,itA]
 by_cases h : c.Rules.all nV = true ∧ cyc c.Rules ≤ 2000
 ·rw [if_pos h,h.1,decide_eq_true h.2]
  cases mH c.Name <;> cases aB1 c.Months <;> cases btw c.Week 1 12 <;> cases decide (1 ≤ c.Months.length ∧ c.Months.length ≤ 20) <;> cases decide (c.Rules.length ≤ 6) <;> rfl
 ·rw [if_neg h]
  have e : (c.Rules.all nV && decide (cyc c.Rules ≤ 2000)) = false := by
   rw [← Bool.not_eq_true,Bool.and_eq_true,decide_eq_true_eq]; exact h
  rw [e]
  cases mH c.Name <;> cases aB1 c.Months <;> cases btw c.Week 1 12 <;> cases decide (1 ≤ c.Months.length ∧ c.Months.length ≤ 20) <;> cases decide (c.Rules.length ≤ 6) <;> rfl
def aEa (xs : List Int) : Bool := xs.all (fun n => btw n 1 60) && decide (1 ≤ xs.length ∧ xs.length ≤ 260)
theorem uH {xs : List Int} (hl : xs.length ≤ 9223372036854775807) : kL xs = some (aEa xs) := by
 unfold kL aEa
 rw [uS (fun _ v => btw v 1 60) hl fun i hi => by rw [eD hi,Option.bind_some,eF,Option.bind_some]; cases btw xs[i] 1 60 <;> rfl,lZ,Option.bind_some,aVc]
 have e : (decide (1 ≤ (xs.length : Int)) && decide ((xs.length : Int) ≤ 260)) = decide (1 ≤ xs.length ∧ xs.length ≤ 260) := by rw [← Bool.decide_and,decide_eq_decide]; omega
 rw [e]
 exact aLr rfl
theorem aAw {xs : List Int} (hl : xs.length ≤ 9223372036854775807) : rM xs = some (aEa xs) := by
 unfold rM aEa
 rw [uS (fun _ v => btw v 1 60) hl fun i hi => by rw [eD hi,Option.bind_some,dZ,Option.bind_some]; cases btw xs[i] 1 60 <;> rfl,lZ,Option.bind_some,dZ,Option.bind_some]
 have e : btw (xs.length : Int) 1 260 = decide (1 ≤ xs.length ∧ xs.length ≤ 260) := by unfold btw; rw [decide_eq_decide]; omega
 rw [e]
 exact aLr rfl
end Go.Proofs.YtgcdbbidmfdonaaGreat
namespace Go.Proofs.YtgcdbbidmfdonaaGreat
set_option linter.unusedVariables false
def smS (x : ByteArray) : Prop := x.size ≤ 1048576
def smL {α : Type} (sm : α → Prop) (xs : List α) : Prop := xs.length ≤ 1048576 ∧ ∀ m ∈ xs,sm m
end Go.Proofs.YtgcdbbidmfdonaaGreat
namespace Go.Proofs.YtgcdbbidmfdonaaGreat
open Go.RowKit
set_option linter.unusedVariables false
set_option maxRecDepth 100000
set_option maxHeartbeats 2000000
def aQg (x : cQ) : Prop := smS x.Name ∧ (smL (fun _ => True)) x.Wheels
def aSj (x : cH) : Prop := (fun _ => True) x.A ∧ (fun _ => True) x.WheelA ∧ (fun _ => True) x.B ∧ (fun _ => True) x.WheelB
def aCl (x : bJ) : Prop := (smL aQg) x.Arbors ∧ (smL aSj) x.Meshes
def aQz (x : bP) : Prop := smS x.Name ∧ (fun _ => True) x.Days ∧ (fun _ => True) x.Leap
def aJm (x : bA) : Prop := (fun _ => True) x.Every ∧ (fun _ => True) x.Rest ∧ (fun _ => True) x.Leap
def yM (x : aA) : Prop := smS x.Name ∧ (smL aQz) x.Months ∧ (smL aJm) x.Rules ∧ (fun _ => True) x.Week
def iG (x : aX) : Prop := smS x.Name ∧ aCl x.Works ∧ (fun _ => True) x.Minute ∧ (fun _ => True) x.Hour ∧ (fun _ => True) x.Escape ∧ (fun _ => True) x.Teeth ∧ (fun _ => True) x.Beats ∧ yM x.Calendar ∧ (smL (fun _ => True)) x.Cam ∧ (fun _ => True) x.Strike
def aS2 (x : bQ) : Prop := (fun _ => True) x.Year ∧ (fun _ => True) x.Month ∧ (fun _ => True) x.Day
def aHv (x : aC) : Prop := (smL (fun _ => True)) x.Cam ∧ (fun _ => True) x.Months ∧ (fun _ => True) x.Teeth ∧ (fun _ => True) x.At ∧ (fun _ => True) x.Day ∧ (fun _ => True) x.Week ∧ (fun _ => True) x.Weekday
def qH (x : dO) : Prop := iG x.Movement ∧ aS2 x.Start ∧ (fun _ => True) x.First ∧ (fun _ => True) x.Clock ∧ aHv x.Dial
end Go.Proofs.YtgcdbbidmfdonaaGreat
namespace Go.Proofs.YtgcdbbidmfdonaaGreat
set_option linter.unusedVariables false
def yF (w : bJ) (k : Int) : Bool := decide (0 ≤ k ∧ k < w.Arbors.length)
def vM (m : aX) : Bool := mH m.Name && (aAy m.Works && (yF m.Works m.Minute && (yF m.Works m.Hour && (yF m.Works m.Escape && (iN m.Teeth && (btw m.Beats 1 36000 && (mV m.Calendar && (aEa m.Cam && btw m.Strike 0 2))))))))
theorem smW {w : bJ} (h : aCl w) : w.Arbors.length ≤ 9223372036854775807 ∧ (∀ b ∈ w.Arbors,b.Wheels.length ≤ 9223372036854775807) ∧ w.Meshes.length ≤ 9223372036854775807 := by
 have h1 := h.1.1
 have h2 := h.2.1
 exact ⟨by omega,fun b hb => by have := (h.1.2 b hb).2.1; omega,by omega⟩
theorem aH2 {w : bJ} (hl : w.Arbors.length ≤ 9223372036854775807) (k : Int) : mB w k = some (yF w k) := by
 unfold mB; rw [eF,Option.bind_some,uQ hl]; rfl
theorem aBm {w : bJ} (hl : w.Arbors.length ≤ 9223372036854775807) (k : Int) : kP w k = some (yF w k) := by
 unfold kP; rw [dZ,Option.bind_some,uQ hl]; rfl
theorem sK {m : aX} (h : iG m) : gO m = some (vM m) := by
 obtain ⟨_,h2,_,_,_,_,_,h8,h9,_⟩ := h
 obtain ⟨w1,w2,w3⟩ := smW h2
 have c1 := h8.2.1.1
 have c2 := h8.2.2.1.1
 have c3 := h9.1
 unfold gO vM
 simp only [aH2 w1,aBw,eF,yR,wM w1 w2 w3,hZ (c := m.Calendar) (by omega) (by omega),uH (xs := m.Cam) (by omega),Option.bind_some,itA]
 congr 1
 ac_rfl
theorem aFr {m : aX} (h : iG m) : tK m = some (vM m) := by
 obtain ⟨_,h2,_,_,_,_,_,h8,h9,_⟩ := h
 obtain ⟨w1,w2,w3⟩ := smW h2
 have c1 := h8.2.1.1
 have c2 := h8.2.2.1.1
 have c3 := h9.1
 unfold tK vM
 simp only [aBm w1,nH,dZ,rQ,aL4 w1 w2 w3,tQ (c := m.Calendar) (by omega) (by omega),aAw (xs := m.Cam) (by omega),Option.bind_some,itA,itO,itF,Bool.not_or,Bool.not_not]
 congr 1
 ac_rfl
end Go.Proofs.YtgcdbbidmfdonaaGreat
namespace Go.Proofs.YtgcdbbidmfdonaaGreat
set_option linter.unusedVariables false
theorem aV8 {xs ys : List Int} {step : Int → Option (Int ⊕ (Unit ⊕ Bool))} (h : xs.length = ys.length) (hl : xs.length ≤ 9223372036854775807) :
  ((cM (S := Int) (X := Unit ⊕ Bool) (fun s => (if s < (xs.length : Int) then ((atI xs s).bind fun u => ((atI ys s).bind fun v => (if u ≠ v then some (.inr (.inr false)) else some (.inl (w64 (s + 1)))))) else some (.inr (.inl ())))) 0 : Option (Unit ⊕ Bool)).bind fun x => orE x fun _ => some true) = some (decide (xs = ys)) := by
 rw [uS (xs := xs) (e := .inr false) (fun i u => decide (some u = ys[i]?)) hl fun i hi => ?_,Option.bind_some]
 ·have e : aIx xs (fun i u => decide (some u = ys[i]?)) = decide (xs = ys) := by
   rw [Bool.eq_iff_iff,xL,decide_eq_true_eq]
   constructor
   ·intro q
    refine List.ext_getElem? fun i => ?_
    by_cases hi : i < xs.length
    ·rw [List.getElem?_eq_getElem hi]
     exact of_decide_eq_true (q i hi)
    ·rw [List.getElem?_eq_none (by omega),List.getElem?_eq_none (by omega)]
   ·rintro rfl i hi
    rw [List.getElem?_eq_getElem hi]
    exact decide_eq_true rfl
  rw [e]
  cases decide (xs = ys) <;> rfl
 ·have hj : i < ys.length := by omega
  rw [eD hi,Option.bind_some,eD hj,Option.bind_some,List.getElem?_eq_getElem hj]
  by_cases q : xs[i] = ys[i] <;> simp [q]
theorem aRk {xs ys : List Int} (h : ¬ xs.length = ys.length) : decide (xs = ys) = false := decide_eq_false fun e => h (e ▸ rfl)
theorem aVh {xs ys : List Int} (hl : xs.length ≤ 9223372036854775807) : eQ xs ys = some (decide (xs = ys)) := by
 unfold eQ
 by_cases h : xs.length = ys.length
 ·rw [if_neg (by omega)]
  exact aV8 (step := fun _ => none) h hl
 ·rw [if_pos (by omega),aRk h]
theorem aVz {xs ys : List Int} (hl : xs.length ≤ 9223372036854775807) : rD xs ys = some (decide (xs = ys)) := by
 unfold rD
 by_cases h : xs.length = ys.length
 ·rw [if_neg (by omega)]
  exact aV8 (step := fun _ => none) h hl
 ·rw [if_pos (by omega),aRk h]
def aSg (y : Int) (b : Bool) (r : bA) : Bool := if y % r.Every = r.Rest then r.Leap else b
def fR (c : aA) (y : Int) : Bool := c.Rules.foldl (aSg y) false
theorem dT {c : aA} (h : mV c = true) : mH c.Name = true ∧ (1 ≤ c.Months.length ∧ c.Months.length ≤ 20) ∧ c.Rules.length ≤ 6 ∧ (1 ≤ c.Week ∧ c.Week ≤ 12) ∧ aB1 c.Months = true ∧ c.Rules.all nV = true ∧ cyc c.Rules ≤ 2000 := by
 unfold mV at h
 simp only [Bool.and_eq_true,decide_eq_true_eq] at h
 exact ⟨h.1,h.2.1,h.2.2.1,of_decide_eq_true h.2.2.2.1,h.2.2.2.2.1,h.2.2.2.2.2.1,h.2.2.2.2.2.2⟩
theorem aHn {c : aA} (h : mV c = true) {y : Int} (y0 : 0 ≤ y) {step : Bool × Int → Option ((Bool × Int) ⊕ Bool)} (hS : ∀ (i : Nat) (hi : i < c.Rules.length) b,c.Rules[i].Every ≠ 0 → step (b,(i : Int)) = some (.inl ((if y.tmod c.Rules[i].Every = c.Rules[i].Rest then c.Rules[i].Leap else b),w64 ((i : Int) + 1)))) (hE : ∀ b,step (b,(c.Rules.length : Int)) = some (.inr b)) :
  cM step (false,0) = some (fR c y) := by
 obtain ⟨_,_,hr,_,_,hb,_⟩ := dT h
 have := xB (xs := c.Rules) (step := step) (fun i b => (b,i)) (fun _ r b => some (.inl (aSg y b r))) id (by omega) (fun i hi b => by
  have hq := rE.1 ((List.all_eq_true.1 hb) _ (List.getElem_mem hi))
  rw [hS i hi b (by omega),aT (by omega) (by omega),Int.tmod_eq_emod_of_nonneg y0]; rfl) (fun b => hE b) false
 rw [this,rO (aSg y) (fun _ _ _ => rfl)]; rfl
theorem mD {c : aA} (h : mV c = true) {y : Int} (y0 : 0 ≤ y) : gZ c y = some (fR c y) := by
 unfold gZ
 rw [aHn h y0 (fun i hi b he => by
  have hi' : (i : Int) < c.Rules.length := by omega
  simp only [if_pos hi',eD hi,Option.bind_some,gA he]
  split <;> rfl) (fun b => by simp)]; rfl
theorem aA4 {c : aA} (h : mV c = true) {y : Int} (y0 : 0 ≤ y) : oH c y = some (fR c y) := by
 unfold oH
 rw [aHn h y0 (fun i hi b he => by
  have hi' : (i : Int) < c.Rules.length := by omega
  simp only [if_pos hi',eD hi,Option.bind_some,gA he]
  split <;> rfl) (fun b => by simp)]; rfl
def aDo (c : aA) (k : Int) : bP := c.Months.getD k.toNat ⟨⟨#[]⟩,0,0⟩
def nX (c : aA) (leap : Bool) (k : Int) : Int := if leap = true then (aDo c k).Leap else (aDo c k).Days
theorem sH {c : aA} {k : Int} (h0 : 0 ≤ k) (h1 : k < c.Months.length) : atI c.Months k = some (aDo c k) ∧ aDo c k ∈ c.Months := by
 obtain ⟨e,he,hm,hg⟩ := qL h0 h1
 have : aDo c k = e := by unfold aDo; rw [List.getD_eq_getElem?_getD,hg]; rfl
 rw [this]; exact ⟨he,hm⟩
theorem aIz {c : aA} (h : mV c = true) {m : bP} (hm : m ∈ c.Months) : (1 ≤ m.Days ∧ m.Days ≤ 60) ∧ 1 ≤ m.Leap ∧ m.Leap ≤ 60 := by
 obtain ⟨_,_,_,_,hb,_⟩ := dT h
 obtain ⟨i,hi,rfl⟩ := List.getElem_of_mem hm
 have := xL.1 hb i hi
 unfold aNq btw at this
 simp only [Bool.and_eq_true,decide_eq_true_eq] at this
 exact ⟨this.1.2.1,this.1.2.2⟩
theorem oC {c : aA} (h : mV c = true) (l : Bool) {k : Int} (h0 : 0 ≤ k) (h1 : k < c.Months.length) : 1 ≤ nX c l k ∧ nX c l k ≤ 60 := by
 have := aIz h (sH h0 h1).2
 unfold nX
 cases l <;> simp <;> omega
theorem jP {c : aA} (h : mV c = true) (l : Bool) {m : Int} (h0 : 1 ≤ m) (h1 : m ≤ c.Months.length) : eB c l m = some (nX c l (m - 1)) := by
 have hc := (dT h).2.1.2
 unfold eB nX
 rw [aT (by omega) (by omega),(sH (c := c) (k := m - 1) (by omega) (by omega)).1]
 cases l <;> rfl
theorem sU {c : aA} (h : mV c = true) {y : Int} (y0 : 0 ≤ y) {k : Int} (h0 : 0 ≤ k) (h1 : k < c.Months.length) : kS c y k = some (nX c (fR c y) k) := by
 unfold kS nX
 rw [aA4 h y0,Option.bind_some,(sH h0 h1).1]
 cases fR c y <;> rfl
def gK (c : aA) (d : bQ) : Bool := btw d.Year 0 9999 && (btw d.Month 1 c.Months.length && btw d.Day 1 (nX c (fR c d.Year) (d.Month - 1)))
theorem sX {c : aA} (hm : c.Months.length ≤ 9223372036854775807) (hr : c.Rules.length ≤ 9223372036854775807) (d : bQ) : jG c d = some (mV c && gK c d) := by
 unfold jG gK
 rw [hZ hm hr,Option.bind_some]
 cases h : mV c
 ·rfl
 ·unfold kX mC
  simp only [eF,Option.bind_some]
  cases hy : btw d.Year 0 9999
  ·rfl
  ·cases hmo : btw d.Month 1 (c.Months.length : Int)
   ·rfl
   ·have hy := of_decide_eq_true hy
    have hmo := of_decide_eq_true hmo
    simp only [if_true]
    rw [mD h hy.1,Option.bind_some,jP h _ hmo.1 hmo.2]; rfl
theorem aL1 {c : aA} (h : mV c = true) (d : bQ) : vS c d = some (gK c d) := by
 unfold vS gK uV
 simp only [dZ,Option.bind_some]
 cases hy : btw d.Year 0 9999
 ·rfl
 ·cases hmo : btw d.Month 1 (c.Months.length : Int)
  ·rfl
  ·have hy := of_decide_eq_true hy
   have hmo := of_decide_eq_true hmo
   have hc := (dT h).2.1.2
   simp only [Bool.not_true,Bool.false_eq_true,if_false,Option.bind_some]
   rw [aT (by omega) (by omega),sU h hy.1 (by omega) (by omega)]; rfl
theorem lB {xs : List Int} (h : aEa xs = true) : (∀ v ∈ xs,1 ≤ v ∧ v ≤ 60) ∧ 1 ≤ xs.length ∧ xs.length ≤ 260 := by
 unfold aEa at h
 simp only [Bool.and_eq_true,decide_eq_true_eq,List.all_eq_true] at h
 exact ⟨fun v hv => of_decide_eq_true (h.1 v hv),h.2⟩
def vI (c : aA) (cam : List Int) : Int := if (mV c && aEa cam) = true then (if (cam.length : Int) % c.Months.length = 0 then 0 else 6) else 1
theorem kE {c : aA} {cam : List Int} (h : vI c cam = 0) : mV c = true ∧ aEa cam = true ∧ (cam.length : Int) % c.Months.length = 0 ∧ 1 ≤ (cam.length : Int) / c.Months.length ∧ (cam.length : Int) / c.Months.length ≤ 260 := by
 unfold vI at h
 split at h
 ·rename_i h1
  rw [Bool.and_eq_true] at h1
  split at h
  ·rename_i h2
   have a := (dT h1.1).2.1
   have b := (lB h1.2).2
   have e := Int.emod_add_mul_ediv (cam.length : Int) c.Months.length
   have q := tM (a := (cam.length : Int)) (g := (c.Months.length : Int)) (by omega) (by omega)
   refine ⟨h1.1,h1.2,h2,?_,by omega⟩
   rcases Int.lt_or_le 0 ((cam.length : Int) / c.Months.length) with h | h
   ·omega
   ·have : (cam.length : Int) / c.Months.length = 0 := by omega
    rw [this,h2] at e
    omega
  ·cases h
 ·cases h
theorem sT {c : aA} {cam : List Int} (h1 : 1 ≤ c.Months.length) (h2 : cam.length ≤ 9223372036854775807) : jI c cam = some (if (cam.length : Int) % c.Months.length = 0 then (cam.length : Int) / c.Months.length else 0) := by
 unfold jI
 have q := tM (a := (cam.length : Int)) (g := (c.Months.length : Int)) (by omega) (by omega)
 rw [gA (by omega),Int.tmod_eq_emod_of_nonneg (by omega),gA (by omega),Int.tdiv_eq_ediv_of_nonneg (by omega),aT (by omega) (by omega)]
 by_cases h : (cam.length : Int) % c.Months.length = 0
 ·rw [if_neg (by simp [h]),if_pos h]
 ·rw [if_pos h,if_neg h]
theorem zO {c : aA} {cam : List Int} (hm : c.Months.length ≤ 9223372036854775807) (hr : c.Rules.length ≤ 9223372036854775807) (hl : cam.length ≤ 9223372036854775807) : mJ c cam = some (vI c cam) := by
 unfold mJ
 simp only [hZ hm hr,uH hl,Option.bind_some,itO]
 cases h1 : mV c
 ·unfold vI; rw [h1]; rfl
 ·cases h2 : aEa cam
  ·unfold vI; rw [h1,h2]; rfl
  ·have a := (dT h1).2.1
   simp only [Bool.not_true,Bool.or_self,Bool.false_eq_true,if_false]
   rw [sT a.1 hl,Option.bind_some]
   unfold vI
   rw [h1,h2]
   by_cases h : (cam.length : Int) % c.Months.length = 0
   ·have h0 : vI c cam = 0 := by unfold vI; rw [h1,h2,if_pos (show (true && true) = true from rfl),if_pos h]
    have := kE h0
    rw [if_pos h,if_neg (by omega),if_pos (show (true && true) = true from rfl),if_pos h]
   ·rw [if_neg h,if_pos rfl,if_pos (show (true && true) = true from rfl),if_neg h]
theorem aDx {c : aA} {cam : List Int} (hm : c.Months.length ≤ 9223372036854775807) (hr : c.Rules.length ≤ 9223372036854775807) (hl : cam.length ≤ 9223372036854775807) : oP c cam = some (vI c cam) := by
 unfold oP vI
 simp only [tQ hm hr,aAw hl,Option.bind_some,itO]
 cases h1 : mV c
 ·rfl
 ·cases h2 : aEa cam
  ·rfl
  ·have a := (dT h1).2.1
   simp only [Bool.not_true,Bool.or_self,Bool.false_eq_true,if_false,Bool.and_self,if_true]
   rw [gA (by omega),Int.tmod_eq_emod_of_nonneg (by omega)]
   by_cases h : (cam.length : Int) % c.Months.length = 0
   ·rw [if_neg (by simp [h]),if_pos h]
   ·rw [if_pos h,if_neg h]
def aMl (xs : List Int) : Int := xs.foldl max 0
def tI (t : Int) (m : bP) : Int := max (max t m.Days) m.Leap
def wT (c : aA) (cam : List Int) : Int := c.Months.foldl tI (aMl cam)
theorem vT {xs : List Int} : ∀ {a : Int},a ≤ xs.foldl max a ∧ (∀ v ∈ xs,v ≤ xs.foldl max a) ∧ (xs.foldl max a = a ∨ xs.foldl max a ∈ xs) := by
 induction xs with
 | nil => intro a; exact ⟨Int.le_refl _,fun v hv => by simp at hv, .inl rfl⟩
 | cons x xs ih =>
  intro a
  obtain ⟨h1,h2,h3⟩ := ih (a := max a x)
  rw [List.foldl_cons]
  refine ⟨by omega,fun v hv => ?_,?_⟩
  ·rcases List.mem_cons.1 hv with rfl | hv
   ·omega
   ·exact h2 v hv
  ·rcases h3 with h3 | h3
   ·rw [h3]
    rcases Int.le_total a x with h | h
    ·rw [Int.max_eq_right h]; exact .inr (List.mem_cons_self ..)
    ·rw [Int.max_eq_left h]; exact .inl rfl
   ·exact .inr (List.mem_cons_of_mem _ h3)
theorem aSp {xs : List Int} {t : Int} (h0 : 0 ≤ t) : decide (t < aMl xs) = !(xs.all fun v => decide (v ≤ t)) := by
 obtain ⟨h1,h2,h3⟩ := vT (xs := xs) (a := 0)
 rw [Bool.eq_iff_iff,decide_eq_true_eq,Bool.not_eq_true', ← Bool.not_eq_true,List.all_eq_true]
 unfold aMl
 constructor
 ·intro h q
  rcases h3 with h3 | h3
  ·omega
  ·have := of_decide_eq_true (q _ h3); omega
 ·intro q
  refine Classical.byContradiction fun hn => q fun v hv => decide_eq_true ?_
  have := h2 v hv
  omega
theorem aK6 {xs : List Int} (h1 : 1 ≤ xs.length) (h2 : xs.length ≤ 9223372036854775807) (h3 : ∀ v ∈ xs,0 ≤ v) : eC xs = some (aMl xs) := by
 unfold eC aMl
 rw [if_neg (by omega),Option.bind_some]
 cases xs with
 | nil => simp at h1
 | cons x xs =>
  have e0 : atI (x :: xs) 0 = some x := by rw [show (0 : Int) = ((0 : Nat) : Int) from rfl,aJu]; rfl
  have hx := h3 x (List.mem_cons_self ..)
  have hq : cM (S := Int × Int) (X := Int) (fun s5 => (if s5.2 < ((x :: xs).length : Int) then ((atI (x :: xs) s5.2).bind fun v6 => some (.inl (max s5.1 v6,w64 (s5.2 + 1)))) else some (.inr s5.1))) (x,1) = some (xs.foldl max x) := by
   have := xB (xs := xs) (step := fun (s5 : Int × Int) => (if s5.2 < ((x :: xs).length : Int) then ((atI (x :: xs) s5.2).bind fun v6 => some (.inl (max s5.1 v6,w64 (s5.2 + 1)))) else some (.inr s5.1))) (fun i (s : Int) => (s,i + 1)) (fun _ v s => some (.inl (max s v))) id (by simp at h2; omega) (fun i hi s => by
    simp only [List.length_cons] at h2
    have hi' : (i : Int) + 1 < ((x :: xs).length : Int) := by simp; omega
    have ea : atI (x :: xs) ((i : Int) + 1) = some xs[i] := by
     rw [show (i : Int) + 1 = ((i + 1 : Nat) : Int) by omega,aJu,List.getElem?_cons_succ,List.getElem?_eq_getElem hi]
    simp only [if_pos hi',ea,Option.bind_some,aT (x := (i : Int) + 1 + 1) (by omega) (by omega)]; rfl) (fun s => by simp) x
   rw [rO max (fun _ _ _ => rfl)] at this
   exact this
  rw [e0,Option.bind_some,hq,List.foldl_cons,Int.max_eq_right hx]; rfl
theorem aCy (a b : Int) : jT a b = some (max a b) := by
 unfold jT
 split
 ·congr 1; omega
 ·congr 1; omega
def aA7 (c : aA) (cam : List Int) (d : bQ) (wd : Int) : aC × Int :=
 if vI c cam = 0 then (if (gK c d && btw wd 1 c.Week) = true then (⟨cam,c.Months.length,wT c cam,w64 ((w64 ((w64 ((d.Year.tmod ((cam.length : Int) / c.Months.length)) * (c.Months.length : Int))) + d.Month)) - 1),d.Day,c.Week,wd⟩,0) else (⟨[],0,0,0,0,0,0⟩,2)) else (⟨[],0,0,0,0,0,0⟩,vI c cam)
theorem aF2 {xs : List Int} (hl : xs.length ≤ 1048576) : cO xs = some xs := by
 unfold cO
 rw [gA (by simp; omega),List.nil_append]
theorem zS {xs : List Int} (hl : xs.length ≤ 1048576) : jY xs = some xs := by
 unfold jY
 rw [gA (by simp; omega),List.nil_append]
theorem tB {c : aA} {cam : List Int} (hm : c.Months.length ≤ 9223372036854775807) (hr : c.Rules.length ≤ 9223372036854775807) (hl : cam.length ≤ 1048576) (d : bQ) (wd : Int) : hY c cam d wd = some (aA7 c cam d wd) := by
 unfold hY aA7
 rw [zO hm hr (by omega),Option.bind_some]
 by_cases h : vI c cam = 0
 ·obtain ⟨h1,h2,h3,h4,h5⟩ := kE h
  have a := (dT h1).2.1
  have b := lB h2
  rw [if_neg (by simp [h]),if_pos h,sX hm hr,h1]
  simp only [Option.bind_some,Bool.true_and,eF,itO]
  cases hd : gK c d
  ·rfl
  ·cases hw : btw wd 1 c.Week
   ·rfl
   ·simp only [Bool.not_true,Bool.or_self,Bool.false_eq_true,if_false,Bool.and_self,if_true]
    have hq := xB (xs := c.Months) (step := fun (s8 : Int × Int) => (if s8.2 < (c.Months.length : Int) then ((atI c.Months s8.2).bind fun v9 => some (.inl (max (max s8.1 v9.Days) v9.Leap,w64 (s8.2 + 1)))) else some (.inr s8.1))) (fun i (s : Int) => (s,i)) (fun _ m s => some (.inl (tI s m))) id hm (fun i hi s => by
     have hi' : (i : Int) < c.Months.length := by omega
     simp only [if_pos hi',eD hi,Option.bind_some,aT (x := (i : Int) + 1) (by omega) (by omega)]; rfl) (fun s => by simp) (aMl cam)
    rw [rO tI (fun _ _ _ => rfl)] at hq
    rw [aK6 b.2.1 (by omega) (fun v hv => by have := b.1 v hv; omega),Option.bind_some,hq]
    simp only [Option.map_some,Option.bind_some,aF2 hl,sT a.1 (show cam.length ≤ 9223372036854775807 by omega),if_pos h3]
    rw [gA (by omega)]; rfl
 ·rw [if_pos h,if_neg h]
theorem oN {c : aA} {cam : List Int} (hm : c.Months.length ≤ 9223372036854775807) (hr : c.Rules.length ≤ 9223372036854775807) (hl : cam.length ≤ 1048576) (d : bQ) (wd : Int) : jQ c cam d wd = some (aA7 c cam d wd) := by
 unfold jQ aA7
 rw [aDx hm hr (by omega),Option.bind_some]
 by_cases h : vI c cam = 0
 ·obtain ⟨h1,h2,h3,h4,h5⟩ := kE h
  have a := (dT h1).2.1
  rw [if_neg (by simp [h]),if_pos h,aL1 h1]
  simp only [Option.bind_some,dZ,itO]
  cases hd : gK c d
  ·rfl
  ·cases hw : btw wd 1 c.Week
   ·rfl
   ·simp only [Bool.not_true,Bool.or_self,Bool.false_eq_true,if_false,Bool.and_self,if_true]
    have hk : w64 ((cam.length : Int).tdiv (c.Months.length : Int)) = (cam.length : Int) / c.Months.length := by rw [Int.tdiv_eq_ediv_of_nonneg (by omega),aT (by omega) (by omega)]
    have hq1 := xB (xs := cam) (step := fun (s11 : Int × Int) => (if s11.1 < (cam.length : Int) then ((atI cam s11.1).bind fun v12 => ((jT s11.2 v12).bind fun v13 => some (.inl (w64 (s11.1 + 1),v13)))) else some (.inr s11.2))) (fun i (s : Int) => (i,s)) (fun _ v s => some (.inl (max s v))) id (by omega) (fun i hi s => by
     have hi' : (i : Int) < cam.length := by omega
     simp only [if_pos hi',eD hi,Option.bind_some,aCy,aT (x := (i : Int) + 1) (by omega) (by omega)]; rfl) (fun s => by simp) 0
    rw [rO max (fun _ _ _ => rfl)] at hq1
    have hq2 := xB (xs := c.Months) (step := fun (s20 : Int × Int) => (if s20.1 < (c.Months.length : Int) then ((atI c.Months s20.1).bind fun v21 => ((atI c.Months s20.1).bind fun v22 => ((jT v21.Days v22.Leap).bind fun v23 => ((jT s20.2 v23).bind fun v24 => some (.inl (w64 (s20.1 + 1),v24)))))) else some (.inr s20.2))) (fun i (s : Int) => (i,s)) (fun _ m s => some (.inl (tI s m))) id hm (fun i hi s => by
     have hi' : (i : Int) < c.Months.length := by omega
     have e : max s (max c.Months[i].Days c.Months[i].Leap) = tI s c.Months[i] := by unfold tI; omega
     simp only [if_pos hi',eD hi,Option.bind_some,aCy,e,aT (x := (i : Int) + 1) (by omega) (by omega)]; rfl) (fun s => by simp) (aMl cam)
    rw [rO tI (fun _ _ _ => rfl)] at hq2
    rw [zS hl,Option.bind_some,hk,gA (by omega),gA (by omega),hq1]
    simp only [Option.map_some,Option.bind_some]
    have e0 : Sum.elim id id (Sum.inl (cam.foldl max 0) : Int ⊕ Int) = aMl cam := rfl
    rw [e0,hq2]; rfl
 ·rw [if_pos h,if_neg h]
def aEc (p : aC) : Bool := aEa p.Cam && (decide (1 ≤ p.Months) && (decide ((p.Cam.length : Int) % p.Months = 0) && (decide (p.Teeth ≤ 60) && ((p.Cam.all fun v => decide (v ≤ p.Teeth)) && (decide (0 ≤ p.At ∧ p.At < p.Cam.length) && (btw p.Day 1 p.Teeth && (btw p.Week 1 12 && btw p.Weekday 1 p.Week)))))))
theorem aNo {p : aC} (h : aEa p.Cam = true) (t0 : p.Teeth < 1) : (p.Cam.all fun v => decide (v ≤ p.Teeth)) = false := by
 rw [← Bool.not_eq_true,List.all_eq_true]
 intro q
 obtain ⟨h1,h2,h3⟩ := lB h
 cases hc : p.Cam with
 | nil => rw [hc] at h2; simp at h2
 | cons x xs =>
  have hx : x ∈ p.Cam := by rw [hc]; exact List.mem_cons_self ..
  have := of_decide_eq_true (q x hx)
  have := h1 x hx
  omega
theorem rT {p : aC} (hl : p.Cam.length ≤ 9223372036854775807) : gH p = some (aEc p) := by
 unfold gH aEc
 rw [uH hl,Option.bind_some]
 cases h1 : aEa p.Cam
 ·rfl
 ·have b := lB h1
  simp only [Bool.not_true,Bool.false_eq_true,if_false,Bool.true_and]
  by_cases h2 : 1 ≤ p.Months
  ·rw [if_neg (by omega),gA (by omega),Option.bind_some,Int.tmod_eq_emod_of_nonneg (by omega),decide_eq_true h2,Bool.true_and]
   by_cases h3 : (p.Cam.length : Int) % p.Months = 0
   ·rw [decide_eq_false (by simp [h3]),if_neg (by decide),decide_eq_true h3,Bool.true_and]
    by_cases h4 : p.Teeth ≤ 60
    ·rw [if_neg (by omega),decide_eq_true h4,Bool.true_and,aK6 b.2.1 hl (fun v hv => by have := b.1 v hv; omega),Option.bind_some,Option.bind_some]
     by_cases h5 : p.Teeth < 1
     ·have hx : p.Teeth < aMl p.Cam := by
       obtain ⟨q1,q2,q3⟩ := vT (xs := p.Cam) (a := 0)
       cases hc : p.Cam with
       | nil => rw [hc] at b; simp at b
       | cons x xs =>
        have hx : x ∈ p.Cam := by rw [hc]; exact List.mem_cons_self ..
        have := b.1 x hx
        have := q2 x hx
        rw [← hc]
        unfold aMl; omega
      rw [decide_eq_true hx,if_pos rfl,aNo h1 h5]; rfl
     ·rw [aSp (by omega)]
      cases (p.Cam.all fun v => decide (v ≤ p.Teeth))
      ·rfl
      ·simp only [Bool.not_true,Bool.false_eq_true,if_false,eF,Option.bind_some,itA,uQ hl,Bool.true_and]
    ·rw [if_pos (by omega),Option.bind_some,if_pos rfl,decide_eq_false h4]; rfl
   ·rw [decide_eq_true h3,if_pos rfl,decide_eq_false h3]; rfl
  ·rw [if_pos (by omega),Option.bind_some,if_pos rfl,decide_eq_false h2]; rfl
theorem wY {p : aC} (hl : p.Cam.length ≤ 9223372036854775807) : pL p = some (aEc p) := by
 unfold pL aEc
 rw [aAw hl,Option.bind_some]
 cases h1 : aEa p.Cam
 ·rfl
 ·simp only [Bool.not_true,Bool.false_eq_true,if_false,Bool.true_and]
  by_cases h2 : 1 ≤ p.Months
  ·rw [if_neg (by omega),gA (by omega),Int.tmod_eq_emod_of_nonneg (by omega),decide_eq_true h2,Bool.true_and]
   by_cases h3 : (p.Cam.length : Int) % p.Months = 0
   ·rw [if_neg (by simp [h3]),dZ,decide_eq_true h3,Bool.true_and,Option.bind_some,Option.bind_some]
    by_cases h4 : p.Teeth ≤ 60
    ·by_cases h5 : p.Teeth < 1
     ·have e : btw p.Teeth 1 60 = false := decide_eq_false (by omega)
      rw [e,aNo h1 h5,decide_eq_true h4]; rfl
     ·have e : btw p.Teeth 1 60 = true := decide_eq_true (by omega)
      rw [e,decide_eq_true h4,Bool.not_true,if_neg (by decide),Bool.true_and,
       uS (xs := p.Cam) (e := .inr false) (fun _ v => decide (v ≤ p.Teeth)) hl fun i hi => ?_,lZ,Option.bind_some]
      ·cases (p.Cam.all fun v => decide (v ≤ p.Teeth))
       ·rfl
       ·simp only [if_true,orE,dZ,Option.bind_some,itA,uQ hl,Bool.true_and]
      ·rw [eD hi,Option.bind_some]
       by_cases q : p.Cam[i] ≤ p.Teeth
       ·rw [if_neg (by omega),decide_eq_true q]; rfl
       ·rw [if_pos (by omega),decide_eq_false q]; rfl
    ·have e : btw p.Teeth 1 60 = false := decide_eq_false (by omega)
     rw [e,decide_eq_false h4]; rfl
   ·rw [if_pos h3,decide_eq_false h3]; rfl
  ·rw [if_pos (by omega),decide_eq_false h2]; rfl
end Go.Proofs.YtgcdbbidmfdonaaGreat
namespace Go.Proofs.YtgcdbbidmfdonaaGreat
set_option linter.unusedVariables false
def aAk (g : Nat → Int) : Nat → Int
 | 0 => 0
 | n + 1 => aAk g n + g n
theorem aF4 (g : Nat → Int) : ∀ (n : Nat) (a : Int),(List.range n).foldl (fun s k => s + g k) a = a + aAk g n
 | 0,a => by simp [aAk]
 | n + 1,a => by rw [List.range_succ,List.foldl_append,aF4 g n]; simp only [List.foldl_cons,List.foldl_nil,aAk]; omega
theorem aJv {g : Nat → Int} {lo hi : Int} {n : Nat} (h : ∀ k,k < n → lo ≤ g k ∧ g k ≤ hi) : lo * n ≤ aAk g n ∧ aAk g n ≤ hi * n := by
 induction n with
 | zero => simp [aAk]
 | succ n ih =>
  have h1 := ih fun k hk => h k (by omega)
  have h2 := h n (by omega)
  have e1 : lo * ((n + 1 : Nat) : Int) = lo * n + lo := by push_cast; rw [Int.mul_add]; omega
  have e2 : hi * ((n + 1 : Nat) : Int) = hi * n + hi := by push_cast; rw [Int.mul_add]; omega
  rw [e1,e2]
  unfold aAk
  omega
theorem aK0 (g : Nat → Int) (m : Nat) : ∀ n,aAk g (m + n) = aAk g m + aAk (fun k => g (m + k)) n
 | 0 => by simp [aAk]
 | n + 1 => by
  show aAk g (m + n) + g (m + n) = _
  rw [aK0 g m n]
  simp only [aAk]; omega
theorem aIa {g : Nat → Int} (h : ∀ k,0 ≤ g k) {m n : Nat} (hm : m ≤ n) : aAk g m ≤ aAk g n := by
 obtain ⟨k,rfl⟩ : ∃ k,n = m + k := ⟨n - m,by omega⟩
 rw [aK0]
 have := (aJv (g := fun k => g (m + k)) (lo := 0) (hi := 0 + 1) (n := 0) fun k hk => by omega)
 have h2 : ∀ j,0 ≤ aAk (fun k => g (m + k)) j := fun j => by
  induction j with
  | zero => simp [aAk]
  | succ j ih => have := h (m + j); simp only [aAk]; omega
 have := h2 k
 omega
def aLe (c : aA) (l : Bool) : Int := aAk (fun k => nX c l (k : Int)) c.Months.length
def aEq (c : aA) (y : Nat) : Int := aLe c (fR c y)
def bef (c : aA) (y : Nat) : Int := aAk (aEq c) y
theorem aSl {c : aA} (h : mV c = true) (l : Bool) (k : Nat) : 0 ≤ nX c l k := by
 by_cases hk : k < c.Months.length
 ·have := oC h l (k := k) (by omega) (by omega); omega
 ·unfold nX aDo
  rw [List.getD_eq_getElem?_getD,List.getElem?_eq_none (by simpa using hk)]
  cases l <;> simp
theorem aS5 {c : aA} (h : mV c = true) (l : Bool) : 1 ≤ aLe c l ∧ aLe c l ≤ 1200 := by
 have hc := (dT h).2.1
 have := aJv (g := fun k => nX c l (k : Int)) (lo := 1) (hi := 60) (n := c.Months.length) fun k hk => oC h l (by omega) (by omega)
 unfold aLe
 omega
theorem yJ {c : aA} (h : mV c = true) (y : Nat) : 1 ≤ aEq c y ∧ aEq c y ≤ 1200 := aS5 h _
theorem aC0 {c : aA} (h : mV c = true) (y : Nat) : (y : Int) ≤ bef c y ∧ bef c y ≤ 1200 * y := by
 have := aJv (g := aEq c) (lo := 1) (hi := 1200) (n := y) fun k _ => yJ h k
 unfold bef
 omega
theorem aCm {c : aA} (h : mV c = true) {m n : Nat} (hm : m ≤ n) : bef c m ≤ bef c n := aIa (fun k => by have := (yJ h k).1; omega) hm
theorem aCi (c : aA) (y : Nat) : bef c (y + 1) = bef c y + aEq c y := rfl
theorem aSk {rs : List bA} : ∀ {y : Int},1 ≤ y → y ≤ 2000 → rs.all nV = true → rs.foldl aE6 y ≤ 2000 → y ∣ rs.foldl aE6 y ∧ (∀ r ∈ rs,r.Every ∣ rs.foldl aE6 y) ∧ 1 ≤ rs.foldl aE6 y := by
 induction rs with
 | nil => intro y h0 h1 _ _; exact ⟨Int.dvd_refl _,fun r hr => by simp at hr,h0⟩
 | cons r rs ih =>
  intro y h0 h1 hb hc
  rw [List.all_cons,Bool.and_eq_true] at hb
  rw [List.foldl_cons] at hc ⊢
  have hq := rE.1 hb.1
  have hs := xO h0 h1 hq.1.1 hq.1.2
  have e : aE6 y r = y / (Int.gcd y r.Every : Int) * r.Every := by unfold aE6; rw [if_pos h1]
  rw [e] at hc ⊢
  have hle : y / (Int.gcd y r.Every : Int) * r.Every ≤ 2000 := by
   refine Classical.byContradiction fun hn => ?_
   rw [aLm (Int.not_le.1 hn)] at hc
   exact hn hc
  obtain ⟨d1,d2,d3⟩ := ih hs.2.2.1 hle hb.2 hc
  have hy : y ∣ y / (Int.gcd y r.Every : Int) * r.Every := by
   obtain ⟨a,ha⟩ : (Int.gcd y r.Every : Int) ∣ y := Int.gcd_dvd_left ..
   obtain ⟨b,hb⟩ : (Int.gcd y r.Every : Int) ∣ r.Every := Int.gcd_dvd_right ..
   have hg := uG (n := y) (d := r.Every) (by omega)
   refine ⟨b,?_⟩
   have hg0 : (Int.gcd y r.Every : Int) ≠ 0 := by omega
   generalize (Int.gcd y r.Every : Int) = g at *
   have e1 : y / g = a := by rw [ha]; exact Int.mul_ediv_cancel_left a hg0
   rw [e1,hb,ha]
   grind
  refine ⟨Int.dvd_trans hy d1,fun r' hr' => ?_,d3⟩
  rcases List.mem_cons.1 hr' with rfl | hr'
  ·exact Int.dvd_trans (Int.dvd_mul_left ..) d1
  ·exact d2 r' hr'
def aS9 (c : aA) : Nat := (cyc c.Rules).toNat
theorem aSw {c : aA} (h : mV c = true) : (aS9 c : Int) = cyc c.Rules ∧ 1 ≤ aS9 c ∧ aS9 c ≤ 2000 ∧ ∀ r ∈ c.Rules,r.Every ∣ (aS9 c : Int) := by
 obtain ⟨_,_,_,_,_,hb,hc⟩ := dT h
 obtain ⟨_,d2,d3⟩ := aSk (y := 1) (by omega) (by omega) hb hc
 have e : (aS9 c : Int) = cyc c.Rules := by unfold aS9; have : 1 ≤ cyc c.Rules := d3; omega
 refine ⟨e,?_,?_,fun r hr => by rw [e]; exact d2 r hr⟩
 ·have : 1 ≤ cyc c.Rules := d3; omega
 ·omega
theorem vD {c : aA} (h : mV c = true) : iS c = some (aLe c false,aLe c true) := by
 have hc := (dT h).2.1
 unfold iS
 rw [aPe (fun i (s : Int × Int) => (s.1,s.2,i)) 0 c.Months.length (fun k s => (s.1 + nX c false k,s.2 + nX c true k)) id (fun i s => 0 ≤ s.1 ∧ s.1 ≤ 60 * i ∧ 0 ≤ s.2 ∧ s.2 ≤ 60 * i) (by omega) (fun i s hi hs => ?_) (fun i s hi hs => ?_) (fun s hs => by simp) (0,0) ⟨by simp,by simp,by simp,by simp⟩]
 ·have : ∀ (n : Nat) (a b : Int),(List.range n).foldl (fun (s : Int × Int) (k : Nat) => (s.1 + nX c false (k : Int),s.2 + nX c true (k : Int))) (a,b) = (a + aAk (fun k => nX c false (k : Int)) n,b + aAk (fun k => nX c true (k : Int)) n) := by
   intro n
   induction n with
   | zero => intro a b; simp [aAk]
   | succ n ih =>
    intro a b
    rw [List.range_succ,List.foldl_append,ih]
    simp only [List.foldl_cons,List.foldl_nil,aAk]
    congr 1 <;> omega
  rw [this]
  simp [aLe]
 ·have hi' : (i : Int) < c.Months.length := by omega
  have hm := sH (c := c) (k := i) (by omega) hi'
  have hq := aIz h hm.2
  have e1 : (aDo c (i : Int)).Days = nX c false i := rfl
  have e2 : (aDo c (i : Int)).Leap = nX c true i := rfl
  simp only [Int.zero_add,if_pos hi',hm.1,Option.bind_some]
  rw [aT (by omega) (by omega),aT (by omega) (by omega),aT (by omega) (by omega),e1,e2]
  congr 3
 ·have hm := sH (c := c) (k := i) (by omega) (by omega)
  have hq := aIz h hm.2
  have e1 : (aDo c (i : Int)).Days = nX c false i := rfl
  have e2 : (aDo c (i : Int)).Leap = nX c true i := rfl
  dsimp only
  rw [← e1, ← e2]
  omega
theorem vR {c : aA} (h : mV c = true) {y : Int} (y0 : 0 ≤ y) (y1 : y ≤ 10000) : jS c y = some (bef c y.toNat) := by
 unfold jS
 rw [vD h,Option.bind_some]
 rw [aPe (fun i (s : Int) => (s,i)) 0 y.toNat (fun k s => s + aEq c k) id (fun i s => 0 ≤ s ∧ s ≤ 1200 * i) (by omega) (fun i s hi hs => ?_) (fun i s hi hs => ?_) (fun s hs => ?_) 0 ⟨by simp,by simp⟩]
 ·rw [aF4]; simp [bef]
 ·have hi' : (i : Int) < y := by omega
  have hq := yJ h i
  have e : (if fR c (i : Int) = true then some (w64 (s + aLe c true)) else some (w64 (s + aLe c false))) = some (s + aEq c i) := by
   unfold aEq at hq ⊢
   cases hl : fR c (i : Int)
   ·rw [hl] at hq; rw [if_neg (by decide),aT (by omega) (by omega)]
   ·rw [hl] at hq; rw [if_pos rfl,aT (by omega) (by omega)]
  simp only [Int.zero_add,if_pos hi',mD h (y := (i : Int)) (by omega),Option.bind_some,e]
  rw [aT (by omega) (by omega)]
  congr 3
 ·have hq := yJ h i
  omega
 ·have : ¬ ((0 : Int) + (y.toNat : Int) < y) := by omega
  simp only [if_neg this]; rfl
end Go.Proofs.YtgcdbbidmfdonaaGreat
namespace Go.Proofs.YtgcdbbidmfdonaaGreat
set_option linter.unusedVariables false
theorem aDv {a b A B : Int} (h1 : -A ≤ a) (h2 : a ≤ A) (h3 : -B ≤ b) (h4 : b ≤ B) : -(A * B) ≤ a * b ∧ a * b ≤ A * B := by
 have h : (a * b).natAbs ≤ (A * B).natAbs := by
  rw [Int.natAbs_mul,Int.natAbs_mul]
  exact Nat.mul_le_mul (by omega) (by omega)
 have hp : 0 ≤ A * B := Int.mul_nonneg (by omega) (by omega)
 generalize a * b = x at *
 generalize A * B = y at *
 omega
theorem aCq {n d : Int} (hd : d ≠ 0) (h : (mkR n d).2 = true) : aEf (mkR n d).1 = true ∧ ((mkR n d).1.Num = 0 ↔ n = 0) := by
 unfold mkR at h ⊢
 split at h
 ·cases h
 ·rename_i hc
  rw [if_neg hc]
  have hg : 0 < Int.gcd n d := uG hd
  have ea : kJ n / (Int.gcd n d : Int) = ((n.natAbs / Int.gcd n d : Nat) : Int) := rfl
  have eb : kJ d / (Int.gcd n d : Int) = ((d.natAbs / Int.gcd n d : Nat) : Int) := rfl
  have hco : Nat.Coprime (n.natAbs / Int.gcd n d) (d.natAbs / Int.gcd n d) := Nat.coprime_div_gcd_div_gcd hg
  have hb0 : 0 < d.natAbs / Int.gcd n d := Nat.div_pos (Nat.le_of_dvd (by omega) (Nat.gcd_dvd_right ..)) hg
  have ha0 : n.natAbs / Int.gcd n d = 0 ↔ n = 0 := by
   constructor
   ·intro h0
    have := Nat.eq_mul_of_div_eq_right (Nat.gcd_dvd_left n.natAbs d.natAbs) h0
    omega
   ·rintro rfl; simp
  rw [ea,eb] at hc ⊢
  generalize n.natAbs / Int.gcd n d = a at *
  generalize d.natAbs / Int.gcd n d = b at *
  refine ⟨aK1.2 ⟨⟨by show 1 ≤ (b : Int); omega,by show (b : Int) ≤ _; omega⟩,?_,?_⟩,?_⟩
  ·dsimp only; split <;> omega
  ·dsimp only
   unfold Int.gcd
   split
   ·rw [Int.natAbs_neg,Int.natAbs_natCast,Int.natAbs_natCast]; exact hco
   ·rw [Int.natAbs_natCast,Int.natAbs_natCast]; exact hco
  ·dsimp only
   rw [← ha0]
   split <;> omega
theorem aIn {n d : Int} (hd : d ≠ 0) (n0 : -1000000000 ≤ n) (n1 : n ≤ 1000000000) (d0 : -1000000000 ≤ d) (d1 : d ≤ 1000000000) : (mkR n d).2 = true := by
 unfold mkR
 have hg := uG (n := n) hd
 have h1 := (tM (a := kJ n) (g := (Int.gcd n d : Int)) (tW n) (by omega)).2
 have h2 := (tM (a := kJ d) (g := (Int.gcd n d : Int)) (tW d) (by omega)).2
 have h3 : kJ n ≤ 1000000000 := by unfold kJ; omega
 have h4 : kJ d ≤ 1000000000 := by unfold kJ; omega
 rw [if_neg (by omega)]
def aPx (a b : aJ) : aJ × Bool := mkR (a.Num * b.Num) (a.Den * b.Den)
theorem xX {r : aJ} (h : aEf r = true) : 1 ≤ r.Den ∧ r.Den ≤ 1000000000 ∧ -1000000000 ≤ r.Num ∧ r.Num ≤ 1000000000 := by
 obtain ⟨⟨d0,d1⟩,⟨n0,n1⟩,_⟩ := aK1.1 h; exact ⟨d0,d1,n0,n1⟩
theorem aOb {a b : aJ} (ha : aEf a = true) (hb : aEf b = true) : osI (a.Num * b.Num) ∧ osI (a.Den * b.Den) ∧ a.Den * b.Den ≠ 0 := by
 obtain ⟨d0,d1,n0,n1⟩ := xX ha
 obtain ⟨e0,e1,m0,m1⟩ := xX hb
 have h1 := aDv n0 n1 m0 m1
 have h2 := aDv (a := a.Den) (b := b.Den) (A := 1000000000) (B := 1000000000) (by omega) d1 (by omega) e1
 have h3 : a.Den * b.Den ≠ 0 := Int.mul_ne_zero (by omega) (by omega)
 refine ⟨⟨by omega,by omega⟩,⟨by omega,by omega⟩,h3⟩
theorem aQp {a b : aJ} (ha : aEf a = true) (hb : aEf b = true) (h : (aPx a b).2 = true) : aEf (aPx a b).1 = true ∧ ((aPx a b).1.Num = 0 ↔ a.Num * b.Num = 0) := aCq (aOb ha hb).2.2 h
theorem aG6 {a b : aJ} (ha : aEf a = true) (hb : aEf b = true) : pN a b = some (aH1 (aPx a b)) := by
 unfold pN
 obtain ⟨h1,h2,h3⟩ := aOb ha hb
 simp only [aCs,ha,hb,Option.bind_some,Bool.not_true,Bool.false_eq_true,if_false]
 rw [aT h1.1 h1.2,aT h2.1 h2.2,xW h1 h2,Option.bind_some]
 unfold aPo aPx
 rw [if_neg h3]
theorem uP {a b : aJ} (ha : aEf a = true) (hb : aEf b = true) : iR a b = some (aPx a b) := by
 unfold iR
 obtain ⟨h1,h2,h3⟩ := aOb ha hb
 rw [aT h1.1 h1.2,aT h2.1 h2.2,kQ h1 h2 h3,Option.bind_some]; rfl
end Go.Proofs.YtgcdbbidmfdonaaGreat
namespace Go.Proofs.YtgcdbbidmfdonaaGreat
set_option linter.unusedVariables false
def aAq (w : bJ) (a k : Int) : Int := (w.Arbors[a.toNat]?.bind fun b => b.Wheels[k.toNat]?).getD 0
def eS (w : bJ) (m : cH) : dW := ⟨aAq w m.A m.WheelA,aAq w m.B m.WheelB⟩
theorem qM {w : bJ} {a k : Int} (h : whB w a k = true) : 0 ≤ a ∧ a < w.Arbors.length ∧ ∃ b t,atI w.Arbors a = some b ∧ b ∈ w.Arbors ∧ atI b.Wheels k = some t ∧ t ∈ b.Wheels ∧ aAq w a k = t := by
 unfold whB at h
 rw [Bool.and_eq_true,decide_eq_true_eq] at h
 obtain ⟨h1,h2⟩ := h
 obtain ⟨b,hb,hm,hg⟩ := qL h1.1 h1.2
 rw [hg] at h2
 have h2 := of_decide_eq_true h2
 obtain ⟨t,ht,htm,htg⟩ := qL h2.1 h2.2
 exact ⟨h1.1,h1.2,b,t,hb,hm,ht,htm,by unfold aAq; rw [hg]; simp [htg]⟩
theorem jL {w : bJ} {m : cH} : sE w m = true ↔ m.A ≠ m.B ∧ whB w m.A m.WheelA = true ∧ whB w m.B m.WheelB = true := by
 unfold sE; simp only [Bool.and_eq_true,decide_eq_true_eq]
theorem mA {w : bJ} : aAy w = true ↔ w.Arbors.length ≤ 16 ∧ w.Meshes.length ≤ 24 ∧ (∀ (i : Nat) (hi : i < w.Arbors.length),aE4 w.Arbors[i] = true ∧ ((w.Arbors.take i).any fun b => decide (b.Name = w.Arbors[i].Name)) = false) ∧ ∀ (i : Nat) (hi : i < w.Meshes.length),sE w w.Meshes[i] = true ∧ ((w.Meshes.take i).any fun n => rU w.Meshes[i] n) = false := by
 unfold aAy
 simp only [Bool.and_eq_true,decide_eq_true_eq,xL,Bool.not_eq_true']
theorem nB {w : bJ} (h : aAy w = true) : ∀ m ∈ w.Meshes,sE w m = true := fun m hm => by
 obtain ⟨i,hi,rfl⟩ := List.getElem_of_mem hm
 exact ((mA.1 h).2.2.2 i hi).1
theorem aPg {w : bJ} (h : aAy w = true) : ∀ a ∈ w.Arbors,aE4 a = true := fun m hm => by
 obtain ⟨i,hi,rfl⟩ := List.getElem_of_mem hm
 exact ((mA.1 h).2.2.1 i hi).1
theorem oW {w : bJ} (h : aAy w = true) {a k : Int} (hw : whB w a k = true) : 6 ≤ aAq w a k ∧ aAq w a k ≤ 240 := by
 obtain ⟨_,_,b,t,_,hb,_,ht,e⟩ := qM hw
 have hb := aPg h b hb
 unfold aE4 at hb
 rw [Bool.and_eq_true,List.all_eq_true] at hb
 have := hb.1 t ht
 unfold iN btw at this
 rw [e]
 exact of_decide_eq_true this
theorem aDl {w : bJ} {m : cH} (h : sE w m = true) : mT w m = some (eS w m) := by
 obtain ⟨_,h1,h2⟩ := jL.1 h
 obtain ⟨_,_,b,t,e1,_,e2,_,e3⟩ := qM h1
 obtain ⟨_,_,b',t',f1,_,f2,_,f3⟩ := qM h2
 unfold mT eS
 simp only [e1,e2,f1,f2,Option.bind_some,e3,f3]
theorem aBr {w : bJ} {m : cH} (h : sE w m = true) : oL w m = some (eS w m) := by
 obtain ⟨_,h1,h2⟩ := jL.1 h
 obtain ⟨_,_,b,t,e1,_,e2,_,e3⟩ := qM h1
 obtain ⟨_,_,b',t',f1,_,f2,_,f3⟩ := qM h2
 unfold oL eS
 simp only [e1,e2,f1,f2,Option.bind_some,e3,f3]
def gJ (v : aJ) (t u : Int) : aJ × Bool := aPx v (mkR (-t) u).1
theorem xK {t u : Int} (t0 : 6 ≤ t) (t1 : t ≤ 240) (u0 : 6 ≤ u) (u1 : u ≤ 240) : (mkR (-t) u).2 = true ∧ aEf (mkR (-t) u).1 = true ∧ (mkR (-t) u).1.Num ≠ 0 := by
 have h := aIn (n := -t) (d := u) (by omega) (by omega) (by omega) (by omega) (by omega)
 have h2 := aCq (n := -t) (d := u) (by omega) h
 exact ⟨h,h2.1,fun e => by have := h2.2.1 e; omega⟩
def KnR (r : aJ) : Prop := aEf r = true ∧ r.Num ≠ 0
theorem KnR.den {r : aJ} (h : KnR r) : r.Den ≠ 0 := by have := xX h.1; omega
theorem iV {v : aJ} {t u : Int} (hv : KnR v) (t0 : 6 ≤ t) (t1 : t ≤ 240) (u0 : 6 ≤ u) (u1 : u ≤ 240) (h : (gJ v t u).2 = true) : KnR (gJ v t u).1 := by
 obtain ⟨_,h2,h3⟩ := xK t0 t1 u0 u1
 obtain ⟨h4,h5⟩ := aQp hv.1 h2 h
 exact ⟨h4,fun e => by
  rcases Int.mul_eq_zero.1 (h5.1 e) with h | h
  ·exact hv.2 h
  ·exact h3 h⟩
theorem yO {v : aJ} {t u : Int} (hv : KnR v) (t0 : 6 ≤ t) (t1 : t ≤ 240) (u0 : 6 ≤ u) (u1 : u ≤ 240) : mR v t u = some (aH1 (gJ v t u)) := by
 unfold mR
 obtain ⟨h1,h2,h3⟩ := xK t0 t1 u0 u1
 rw [aT (by omega) (by omega),xW ⟨by omega,by omega⟩ ⟨by omega,by omega⟩,Option.bind_some]
 have e : (aPo (-t) u).1 = (mkR (-t) u).1 := by unfold aPo aH1; rw [if_neg (by omega),if_pos h1]
 rw [e,aG6 hv.1 h2]; rfl
def SpI (w : bJ) (sp : List aJ) : Prop := sp.length = w.Arbors.length ∧ ∀ r ∈ sp,r = ⟨0,0⟩ ∨ KnR r
def kH (sp : List aJ) (i : Int) : aJ := sp.getD i.toNat ⟨0,0⟩
theorem oG {sp : List aJ} {i : Int} (h0 : 0 ≤ i) (h1 : i < sp.length) : atI sp i = some (kH sp i) ∧ kH sp i ∈ sp ∧ ∃ h : i.toNat < sp.length,sp[i.toNat] = kH sp i := by
 obtain ⟨e,he,hm,hg⟩ := qL h0 h1
 have : kH sp i = e := by unfold kH; rw [List.getD_eq_getElem?_getD,hg]; rfl
 rw [this]
 exact ⟨he,hm,(List.getElem?_eq_some_iff.1 hg)⟩
def lA (w : bJ) (m : cH) (s : Bool × List aJ) : (Bool × List aJ) ⊕ Unit :=
 if decide ((kH s.2 m.A).Den = 0) = decide ((kH s.2 m.B).Den = 0) then .inl s
 else if (kH s.2 m.A).Den = 0 then (if (gJ (kH s.2 m.B) (eS w m).Driven (eS w m).Driver).2 = true then .inl (true,s.2.set m.A.toNat (gJ (kH s.2 m.B) (eS w m).Driven (eS w m).Driver).1) else .inr ())
 else (if (gJ (kH s.2 m.A) (eS w m).Driver (eS w m).Driven).2 = true then .inl (true,s.2.set m.B.toNat (gJ (kH s.2 m.A) (eS w m).Driver (eS w m).Driven).1) else .inr ())
def jO (w : bJ) : List cH → Bool × List aJ → (Bool × List aJ) ⊕ Unit
 | [],s => .inl s
 | m :: ms,s => match lA w m s with
  | .inl s' => jO w ms s'
  | .inr u => .inr u
def vH (sp : List aJ) : Nat := sp.countP fun r => decide (r.Den = 0)
theorem SpI.den {w : bJ} {sp : List aJ} (h : SpI w sp) {i : Int} (h0 : 0 ≤ i) (h1 : i < w.Arbors.length) (hd : (kH sp i).Den ≠ 0) : KnR (kH sp i) := by
 obtain ⟨_,hm,_⟩ := oG (sp := sp) h0 (by rw [h.1]; exact h1)
 rcases h.2 _ hm with e | e
 ·rw [e] at hd; exact absurd rfl hd
 ·exact e
theorem SpI.set {w : bJ} {sp : List aJ} (h : SpI w sp) (i : Nat) {v : aJ} (hv : KnR v) : SpI w (sp.set i v) := by
 refine ⟨by rw [List.length_set]; exact h.1,fun r hr => ?_⟩
 rcases List.mem_or_eq_of_mem_set hr with hr | rfl
 ·exact h.2 r hr
 ·exact .inr hv
theorem aK2 {sp : List aJ} {i : Int} (h0 : 0 ≤ i) (h1 : i < sp.length) (hd : (kH sp i).Den = 0) {v : aJ} (hv : v.Den ≠ 0) : vH (sp.set i.toNat v) < vH sp := by
 obtain ⟨_,hm,hi,e⟩ := oG h0 h1
 unfold vH
 have hp : 0 < sp.countP fun r => decide (r.Den = 0) := List.countP_pos_iff.2 ⟨_,hm,decide_eq_true hd⟩
 rw [List.countP_set hi]
 rw [e,decide_eq_true hd,decide_eq_false hv]
 simp
 omega
theorem aCg {w : bJ} (hw : aAy w = true) {m : cH} (hm : sE w m = true) {s s' : Bool × List aJ} (h : SpI w s.2) (e : lA w m s = .inl s') : SpI w s'.2 ∧ (s' = s ∨ (s'.1 = true ∧ vH s'.2 < vH s.2)) := by
 obtain ⟨_,j1,j2⟩ := jL.1 hm
 have a := qM j1
 have b := qM j2
 have ta := oW hw j1
 have tb := oW hw j2
 unfold lA at e
 split at e
 ·injection e with e; subst e; exact ⟨h, .inl rfl⟩
 ·rename_i hne
  split at e
  ·rename_i hA
   have hB : (kH s.2 m.B).Den ≠ 0 := fun hB => hne (by rw [decide_eq_true hA,decide_eq_true hB])
   split at e
   ·rename_i hv
    injection e with e; subst e
    have k := iV (h.den b.1 b.2.1 hB) (t := (eS w m).Driven) (u := (eS w m).Driver) tb.1 tb.2 ta.1 ta.2 hv
    exact ⟨h.set _ k, .inr ⟨rfl,aK2 a.1 (by rw [h.1]; exact a.2.1) hA k.den⟩⟩
   ·cases e
  ·rename_i hA
   have hB : (kH s.2 m.B).Den = 0 := Classical.byContradiction fun hB => hne (by rw [decide_eq_false hA,decide_eq_false hB])
   split at e
   ·rename_i hv
    injection e with e; subst e
    have k := iV (h.den a.1 a.2.1 hA) (t := (eS w m).Driver) (u := (eS w m).Driven) ta.1 ta.2 tb.1 tb.2 hv
    exact ⟨h.set _ k, .inr ⟨rfl,aK2 b.1 (by rw [h.1]; exact b.2.1) hB k.den⟩⟩
   ·cases e
theorem vU {w : bJ} (hw : aAy w = true) : ∀ {ms : List cH} (hm : ∀ m ∈ ms,sE w m = true) {s s' : Bool × List aJ} (h : SpI w s.2) (e : jO w ms s = .inl s'),SpI w s'.2 ∧ vH s'.2 ≤ vH s.2 ∧ (s'.1 = true → s.1 = true ∨ vH s'.2 < vH s.2)
 | [],hm,s,s',h,e => by
  injection e with e; subst e
  exact ⟨h,Nat.le_refl _,fun h => .inl h⟩
 | m :: ms,hm,s,s',h,e => by
  unfold jO at e
  cases e1 : lA w m s with
  | inr u => rw [e1] at e; cases e
  | inl s1 =>
   rw [e1] at e
   obtain ⟨h1,h2⟩ := aCg hw (hm m (List.mem_cons_self ..)) h e1
   obtain ⟨h3,h4,h5⟩ := vU hw (fun m hm' => hm m (List.mem_cons_of_mem _ hm')) h1 e
   refine ⟨h3,?_,fun ht => ?_⟩
   ·rcases h2 with rfl | h2 <;> omega
   ·rcases h2 with rfl | h2
    ·exact h5 ht
    ·right; omega
theorem aE1 {w : bJ} {X : Type} {g : Unit → X} {body : Nat → cH → Bool × List aJ → Option ((Bool × List aJ) ⊕ X)} (hb : ∀ i m s,body i m s = some (Sum.map id g (lA w m s))) : ∀ (ms : List cH) (k : Nat) (s : Bool × List aJ),aM7 body ms k s = some (Sum.map id g (jO w ms s))
 | [],k,s => rfl
 | m :: ms,k,s => by
  show (body k m s).bind _ = _
  rw [hb,Option.bind_some]
  unfold jO
  cases lA w m s with
  | inr u => rfl
  | inl s1 => exact aE1 hb ms (k + 1) s1
def iO (w : bJ) : Nat → List aJ → List aJ ⊕ Unit
 | 0,sp => .inl sp
 | n + 1,sp => match jO w w.Meshes (false,sp) with
  | .inr u => .inr u
  | .inl (true,sp') => iO w n sp'
  | .inl (false,sp') => .inl sp'
theorem aDj {w : bJ} (hw : aAy w = true) : ∀ {n m : Nat} {sp : List aJ},SpI w sp → vH sp < n → vH sp < m → iO w n sp = iO w m sp
 | 0,_,_,_,h,_ => by omega
 | _ + 1,0,_,_,_,h => by omega
 | n + 1,m + 1,sp,hs,h1,h2 => by
  unfold iO
  cases e : jO w w.Meshes (false,sp) with
  | inr u => rfl
  | inl s =>
   obtain ⟨b,sp'⟩ := s
   cases b with
   | false => rfl
   | true =>
    obtain ⟨h3,_,h5⟩ := vU hw (nB hw) (s := (false,sp)) hs e
    have h6 : vH sp' < vH sp := by
     rcases h5 rfl with h | h
     ·cases h
     ·exact h
    exact aDj hw h3 (by omega) (by omega)
def aSr (w : bJ) (s : Bool × List aJ) : List aJ ⊕ Unit := if s.1 = true then iO w (vH s.2 + 1) s.2 else .inl s.2
theorem aHd {w : bJ} (hw : aAy w = true) {S X : Type} {step : S → Option (S ⊕ X)} (mk : Bool × List aJ → S) (un : S → Bool × List aJ) (hun : ∀ s,un (mk s) = s) (good : List aJ → X) (bad : List aJ → X)
  (hbad : ∀ x y,bad x = bad y)
  (hT : ∀ sp,SpI w sp → step (mk (true,sp)) = some (match jO w w.Meshes (false,sp) with
   | .inr _ => .inr (bad sp)
   | .inl s' => .inl (mk s'))) (hF : ∀ sp,SpI w sp → step (mk (false,sp)) = some (.inr (good sp))) (sp : List aJ) (h : SpI w sp) :
  cM step (mk (true,sp)) = some (match iO w (vH sp + 1) sp with
   | .inl sp' => good sp'
   | .inr _ => bad sp) := by
 refine aGz (fun s => ∃ t : Bool × List aJ,s = mk t ∧ SpI w t.2 ∧ aSr w t = iO w (vH sp + 1) sp) (fun s => 2 * vH (un s).2 + if (un s).1 = true then 1 else 0) (fun s hI => ?_) ⟨(true,sp),rfl,h,rfl⟩ ?_
 ·obtain ⟨⟨b,q⟩,rfl,hq,e⟩ := hI
  cases b with
  | false =>
   right
   rw [hF q hq]
   have e : Sum.inl q = iO w (vH sp + 1) sp := e
   rw [← e]
  | true =>
   rw [hT q hq]
   have e : iO w (vH q + 1) q = iO w (vH sp + 1) sp := e
   unfold iO at e
   cases er : jO w w.Meshes (false,q) with
   | inr u =>
    right
    rw [er] at e
    have e : Sum.inr u = iO w (vH sp + 1) sp := by unfold iO; exact e
    rw [← e]
    simp only [hbad q sp]
   | inl s' =>
    left
    obtain ⟨h3,h4,h5⟩ := vU hw (nB hw) (s := (false,q)) hq er
    refine ⟨_,rfl,⟨s',rfl,h3,?_⟩,?_⟩
    ·rw [er] at e
     obtain ⟨b,q'⟩ := s'
     cases b with
     | false => unfold iO; exact e
     | true =>
      have h6 : vH q' < vH q := by
       rcases h5 rfl with h | h
       ·cases h
       ·exact h
      have e : iO w (vH q) q' = iO w (vH sp + 1) sp := e.trans (by rw [iO])
      rw [← e]
      exact aDj hw h3 (by show vH q' < vH q' + 1; omega) h6
    ·simp only [hun]
     obtain ⟨b,q'⟩ := s'
     cases b with
     | false => dsimp only at h4 ⊢; simp; omega
     | true =>
      have h6 : vH q' < vH q := by
       rcases h5 rfl with h | h
       ·cases h
       ·exact h
      simp; omega
 ·simp only [hun]
  have : vH sp ≤ sp.length := List.countP_le_length
  have h1 := h.1
  have h2 := (mA.1 hw).1
  simp; omega
def aPw (w : bJ) (sp : List aJ) (m : cH) : Bool := (gJ (kH sp m.A) (eS w m).Driver (eS w m).Driven).2 && decide ((gJ (kH sp m.A) (eS w m).Driver (eS w m).Driven).1 = kH sp m.B)
def start (w : bJ) (root : Int) : List aJ := (List.replicate w.Arbors.length (⟨0,0⟩ : aJ)).set root.toNat ⟨1,1⟩
def gE (w : bJ) (root : Int) : List aJ × Int :=
 if yF w root = true then (match iO w (vH (start w root) + 1) (start w root) with
  | .inr _ => ([],2)
  | .inl sp => if sp.any (fun r => decide (r.Den = 0)) = true then ([],6) else if w.Meshes.all (aPw w sp) = true then (sp,0) else ([],10))
 else ([],2)
theorem yW {w : bJ} (root : Int) : SpI w (start w root) := by
 refine SpI.set ⟨by simp,fun r hr => .inl (List.eq_of_mem_replicate hr)⟩ _ ⟨by decide,by decide⟩
theorem zG {w : bJ} (hw : aAy w = true) : ∀ {n : Nat} {sp sp' : List aJ},SpI w sp → iO w n sp = .inl sp' → SpI w sp'
 | 0,_,_,h,e => by injection e with e; subst e; exact h
 | n + 1,sp,sp',h,e => by
  unfold iO at e
  cases er : jO w w.Meshes (false,sp) with
  | inr u => rw [er] at e; cases e
  | inl s =>
   rw [er] at e
   obtain ⟨h3,_,_⟩ := vU hw (nB hw) (s := (false,sp)) h er
   obtain ⟨b,q⟩ := s
   cases b with
   | false => injection e with e; subst e; exact h3
   | true => exact zG hw h3 e
theorem aLz {w : bJ} (hw : aAy w = true) {root : Int} (h : (gE w root).2 = 0) : (gE w root).1.length = w.Arbors.length ∧ ∀ r ∈ (gE w root).1,KnR r := by
 unfold gE at h ⊢
 split
 ·rename_i hr
  rw [if_pos hr] at h
  cases e : iO w (vH (start w root) + 1) (start w root) with
  | inr u => rw [e] at h; cases h
  | inl sp =>
   rw [e] at h
   have hs := zG hw (yW root) e
   dsimp only at h ⊢
   split
   ·rename_i hn; rw [if_pos hn] at h; cases h
   ·rename_i hn
    rw [if_neg hn] at h
    split
    ·refine ⟨hs.1,fun r hr => ?_⟩
     rcases hs.2 r hr with rfl | h
     ·exact absurd (List.any_eq_true.2 ⟨_,hr,decide_eq_true rfl⟩) hn
     ·exact h
    ·rename_i hf; rw [if_neg hf] at h; cases h
 ·rename_i hr; rw [if_neg hr] at h; cases h
end Go.Proofs.YtgcdbbidmfdonaaGreat
