/- Texts of this claim, one behind the other (merged by a program of mine). -/
import Derived.Test.YtgcdbbidmfdonaaGreatProg
import Derived.Test.YtgcdbbidmfdonaaGreatGM5
set_option linter.unusedSimpArgs false
set_option linter.unusedVariables false
namespace Go.Proofs.YtgcdbbidmfdonaaGreat
open Go.RowKit
set_option linter.unusedVariables false
set_option maxRecDepth 100000
set_option maxHeartbeats 2000000
theorem qQ {p0 : aD} {r : Bool} (h0 : fC p0 = some r) : FnC Tryz.prog 60 [] [.agg [dS p0.Name,(dL aT p0.Months),(dL aG p0.Rules),(dI p0.Week)]] [] (dB r) := by
 refine fi 91 tok Tryz.func60 ?_
 unfold fC at h0
 refine sq [0,1] (bxx 3 ?_)
 refine pa (nx (aB ?_))
 obtain ⟨v3,h1,h0⟩ := bnd h0
 refine bF ⟨aA (aA ((fun _ => .dead)) 1 (.ptr 3 0 1 0 0)) 34 (dB v3),lks [.no, .no, .no, .live [⟨31,4, .av [[dS p0.Name,(dL aT p0.Months),(dL aG p0.Rules),(dI p0.Week)]]⟩]]⟩ ?_ ?_
 refine sr [0,1,2,3,4,5,6,7,8,9,10,11,12,13,14,15,16,17,18,19,20,21,22,23,24,25,26,27] (fa tok ?_)
 refine ld tok ?_
 obtain ⟨v1,hv1,h1⟩ := bnd h1
 refine rS rfl (aQ 4 (vX hv1) rfl rfl rfl) (rP rfl (cJ rfl) (pm ?_))
 refine fI (u := 11) h1 rfl (fun hc h1 => ?_) (fun hc h1 => ?_)
 iterate 4 refine k1 ?_
 refine pkt ?_
 refine pm ?_
 iterate 4 refine k1 ?_
 refine pkt ?_
 refine pm ?_
 iterate 4 refine k1 ?_
 refine pkt ?_
 refine pm ?_
 iterate 4 refine k1 ?_
 refine pkt (nx ?_)
 cases h1
 exact wk [0,1,2,3]
 refine fa1 tok ?_
 refine ld1 tok ?_
 refine rp rfl (w1 rfl rfl rfl) rfl (aK tok rfl rfl rfl) (rp rfl (w1 rfl rfl rfl) rfl (bB rfl rfl) (pkf ?_))
 refine pm ?_
 refine jW (u := 17) h1 rfl (fun hc h1 => ?_) (fun hc h1 => ?_)
 iterate 4 refine k1 ?_
 refine pkt ?_
 refine pm ?_
 iterate 4 refine k1 ?_
 refine pkt ?_
 refine pm ?_
 iterate 4 refine k1 ?_
 refine pkt (nx ?_)
 cases h1
 exact wk [0,1,2,3]
 refine fa1 tok ?_
 refine ld1 tok ?_
 refine rp rfl (w1 rfl rfl rfl) rfl (aK tok rfl rfl rfl) (rp rfl (w1 rfl rfl rfl) rfl (gT rfl rfl) (pkf ?_))
 refine pm ?_
 refine jW (u := 23) h1 rfl (fun hc h1 => ?_) (fun hc h1 => ?_)
 iterate 4 refine k1 ?_
 refine pkt ?_
 refine pm ?_
 iterate 4 refine k1 ?_
 refine pkt (nx ?_)
 cases h1
 exact wk [0,1,2,3]
 refine fa1 tok ?_
 refine ld1 tok ?_
 refine rp rfl (w1 rfl rfl rfl) rfl (aK tok rfl rfl rfl) (rp rfl (w1 rfl rfl rfl) rfl (gT rfl rfl) (pkf ?_))
 refine pm ?_
 refine jW (u := 29) h1 rfl (fun hc h1 => ?_) (fun hc h1 => ?_)
 iterate 4 refine k1 ?_
 refine pkt (nx ?_)
 cases h1
 exact wk [0,1,2,3]
 refine fa1 tok ?_
 refine ld1 tok ?_
 obtain ⟨v2,hv2,h1⟩ := bnd h1
 refine rs rfl (w1 rfl rfl rfl) rfl (aQ 4 (gS hv2) rfl rfl rfl) (rp rfl (w1 rfl rfl rfl) rfl (cJ rfl) (pkf (nx ?_)))
 cases h1
 exact wk [0,1,2,3]
 refine bZ h0 rfl (fun hc h0 => ?_) (fun hc h0 => ?_)
 refine sq [0] (pa (nx (aC (aJ ?_))))
 cases h0
 exact r0t 2 rfl
 refine sk ?_
 obtain ⟨v20x,h1,h0⟩ := bnd h0
 refine eL v20x (fun v20 => ⟨aA ((fun _ => .dead)) 1 (.ptr 3 0 1 0 0),lks [.no, .no, .no, .live [⟨31,4, .av [[dS p0.Name,(dL aT p0.Months),(dL aG p0.Rules),(dI p0.Week)]]⟩]]⟩) ?_ ?_
 refine sq [0,1,2,3] (fa tok ?_)
 refine ld tok ?_
 refine rP rfl (aK tok rfl rfl rfl) (pm (nx (aE ?_)))
 refine aY (fun s12 => ⟨aA (aA (aA (aA ((fun _ => .dead)) 1 (.ptr 3 0 1 0 0)) 36 (dL aT p0.Months)) 37 (dI (p0.Months.length : Int))) 38 (dI s12),lks [.no, .no, .no, .live [⟨31,4, .av [[dS p0.Name,(dL aT p0.Months),(dL aG p0.Rules),(dI p0.Week)]]⟩]]⟩) h1 ?_ (fun s12 y h2 => ?_)
 exact wk [0,1,2,3]
 refine sq [0] (rP rfl (bB rfl rfl) (nx (aB ?_)))
 refine bC h2 rfl (fun hc h2 => ?_) (fun hc h2 => ?_)
 refine sk (aB (aE (sq [0,1,2,3,4,5] (pm ?_))))
 obtain ⟨v13,hv13,h2⟩ := bnd h2
 refine rP rfl (cG tok hv13 rfl rfl rfl rfl rfl rfl) (rP rfl (bR tok rfl rfl rfl (by repeat (first | exact kE.z _ | apply kE.t))) (al 4 [ze,z0,z0] tok ?_))
 refine pa ?_
 refine bst tok (nx (aB ?_))
 obtain ⟨v17,h3,h2⟩ := bnd h2
 refine bF ⟨aA (aA (aA (aA (aA (aA (aA ((fun _ => .dead)) 1 (.ptr 3 0 1 0 0)) 3 (dI s12)) 4 (.ptr 4 0 1 0 0)) 36 (dL aT p0.Months)) 37 (dI (p0.Months.length : Int))) 38 (dI s12)) 58 (dB v17),lks [.no, .no, .no, .live [⟨31,4, .av [[dS p0.Name,(dL aT p0.Months),(dL aG p0.Rules),(dI p0.Week)]]⟩], .live [⟨170,3, .av [[dS v13.Name,(dI v13.Days),(dI v13.Leap)]]⟩]]⟩ ?_ ?_
 refine sr [0,1,2,3,4,5,6,7,8,9,10,11,12,13,14,15] (fa tok ?_)
 refine ld tok ?_
 obtain ⟨v14,hv14,h3⟩ := bnd h3
 refine rS rfl (aQ 5 (vX hv14) rfl rfl rfl) (rP rfl (cJ rfl) (pm ?_))
 refine fI (u := 47) h3 rfl (fun hc h3 => ?_) (fun hc h3 => ?_)
 iterate 4 refine k1 ?_
 refine pkt ?_
 refine pm ?_
 iterate 4 refine k1 ?_
 refine pkt (nx ?_)
 cases h3
 exact wk [0,1,2,3,4]
 refine fa1 tok ?_
 refine ld1 tok ?_
 obtain ⟨v15,hv15,h3⟩ := bnd h3
 refine rs rfl (w1 rfl rfl rfl) rfl (aQ 5 (gS hv15) rfl rfl rfl) (rp rfl (w1 rfl rfl rfl) rfl (cJ rfl) (pkf ?_))
 refine pm ?_
 refine fI (u := 53) h3 rfl (fun hc h3 => ?_) (fun hc h3 => ?_)
 iterate 4 refine k1 ?_
 refine pkt (nx ?_)
 cases h3
 exact wk [0,1,2,3,4]
 refine fa1 tok ?_
 refine ld1 tok ?_
 obtain ⟨v16,hv16,h3⟩ := bnd h3
 refine rs rfl (w1 rfl rfl rfl) rfl (aQ 5 (gS hv16) rfl rfl rfl) (rp rfl (w1 rfl rfl rfl) rfl (cJ rfl) (pkf (nx ?_)))
 cases h3
 exact wk [0,1,2,3,4]
 refine bZ h2 rfl (fun hc h2 => ?_) (fun hc h2 => ?_)
 refine sq [0] (pa (nx (aC (aJ ?_))))
 refine bA (aJ ?_)
 cases h2
 refine dZ ⟨_,rfl,fun e => ?_⟩
 subst e
 refine bA ?_
 replace h0 := gU h0
 refine aJ ?_
 cases h0
 exact r0t 2 rfl
 refine sk (sq [0,1,2,3,4,5] (fa tok ?_))
 refine ld tok ?_
 refine pm ?_
 obtain ⟨hq18,h2⟩ := cR h2
 refine rP rfl (tZ tok hq18 rfl (.inl ⟨rfl,rfl⟩) (.inr ⟨_,_,rfl,rfl⟩) rfl rfl rfl (fun _ => rfl)) (rP rfl (aKl rfl) ?_)
 obtain ⟨v19,hv19,h2⟩ := bnd h2
 refine rS rfl (fU 5 (fE hv19) rfl rfl) (nx ?_)
 refine bZ h2 rfl (fun hc h2 => ?_) (fun hc h2 => ?_)
 refine sq [0] (pa (nx (aC ?_)))
 refine bA (aJ ?_)
 cases h2
 refine dZ ⟨_,rfl,fun e => ?_⟩
 subst e
 refine bA ?_
 replace h0 := gU h0
 refine aJ ?_
 cases h0
 exact r0t 2 rfl
 refine cT (aZ (aF (sr [0,1] (rP rfl (bD rfl rfl) (pm (aV ?_))))))
 refine bX ?_
 cases h2
 refine ⟨_,rfl,?_⟩
 exact wk [0,1,2,3]
 refine bH (cC ?_)
 cases h2
 refine cA ⟨_,rfl,fun e => ?_⟩
 subst e
 refine aR (aF ?_)
 refine ⟨_,rfl,?_⟩
 exact wk [0,1,2,3]
 rintro v20 rfl
 replace h0 := nN h0
 obtain ⟨v31x,h1,h0⟩ := bnd h0
 refine eL v31x (fun v31 => ⟨aA ((fun _ => .dead)) 1 (.ptr 3 0 1 0 0),lks [.no, .no, .no, .live [⟨31,4, .av [[dS p0.Name,(dL aT p0.Months),(dL aG p0.Rules),(dI p0.Week)]]⟩]]⟩) ?_ ?_
 refine sq [0,1,2,3] (fa tok ?_)
 refine ld tok ?_
 refine rP rfl (aK tok rfl rfl rfl) (pm (nx (aE ?_)))
 refine aY (fun s26 => ⟨aA (aA (aA (aA ((fun _ => .dead)) 1 (.ptr 3 0 1 0 0)) 67 (dL aG p0.Rules)) 68 (dI (p0.Rules.length : Int))) 69 (dI s26),lks [.no, .no, .no, .live [⟨31,4, .av [[dS p0.Name,(dL aT p0.Months),(dL aG p0.Rules),(dI p0.Week)]]⟩]]⟩) h1 ?_ (fun s26 y h2 => ?_)
 exact wk [0,1,2,3]
 refine sq [0] (rP rfl (bB rfl rfl) (nx (aB ?_)))
 refine bC h2 rfl (fun hc h2 => ?_) (fun hc h2 => ?_)
 refine sk (aB (aE (sq [0,1,2,3] ?_)))
 obtain ⟨v27,hv27,h2⟩ := bnd h2
 refine rP rfl (cG tok hv27 rfl rfl rfl rfl rfl rfl) (rP rfl (bR tok rfl rfl rfl (by repeat (first | exact kE.z _ | apply kE.t))) (al 4 [z0,z0,(dB false)] tok ?_))
 refine bst tok (nx ?_)
 obtain ⟨v30,h3,h2⟩ := bnd h2
 refine bF ⟨aA (aA (aA (aA (aA ((fun _ => .dead)) 1 (.ptr 3 0 1 0 0)) 67 (dL aG p0.Rules)) 68 (dI (p0.Rules.length : Int))) 69 (dI s26)) 85 (dB v30),lks [.no, .no, .no, .live [⟨31,4, .av [[dS p0.Name,(dL aT p0.Months),(dL aG p0.Rules),(dI p0.Week)]]⟩]]⟩ ?_ ?_
 refine sr [0,1,2,3,4,5,6,7,8,9,10,11,12] (fa tok ?_)
 refine ld tok ?_
 obtain ⟨v28,hv28,h3⟩ := bnd h3
 refine rS rfl (aQ 5 (gS hv28) rfl rfl rfl) (rP rfl (cJ rfl) (pm ?_))
 refine fI (u := 77) h3 rfl (fun hc h3 => ?_) (fun hc h3 => ?_)
 iterate 7 refine k1 ?_
 refine pkt (nx ?_)
 cases h3
 exact wk [0,1,2,3]
 refine fa1 tok ?_
 refine ld1 tok ?_
 refine fa1 tok ?_
 refine ld1 tok ?_
 refine rp rfl (w1 rfl rfl rfl) rfl (iX rfl rfl) ?_
 obtain ⟨v29,hv29,h3⟩ := bnd h3
 refine rs rfl (w1 rfl rfl rfl) rfl (aQ 5 (gS hv29) rfl rfl rfl) (rp rfl (w1 rfl rfl rfl) rfl (cJ rfl) (pkf (nx ?_)))
 cases h3
 exact wk [0,1,2,3]
 refine bZ h2 rfl (fun hc h2 => ?_) (fun hc h2 => ?_)
 refine sq [0] (pa (nx (aC ?_)))
 refine bA (aJ ?_)
 cases h2
 refine dZ ⟨_,rfl,fun e => ?_⟩
 subst e
 refine bA ?_
 replace h0 := gU h0
 refine aJ ?_
 cases h0
 exact r0t 2 rfl
 refine cT (aZ (aF (sr [0,1] (rP rfl (bD rfl rfl) (pm (aV ?_))))))
 refine bX ?_
 cases h2
 refine ⟨_,rfl,?_⟩
 exact wk [0,1,2,3]
 refine bH (cC ?_)
 cases h2
 refine cA ⟨_,rfl,fun e => ?_⟩
 subst e
 refine aR (aF ?_)
 refine ⟨_,rfl,?_⟩
 exact wk [0,1,2,3]
 rintro v31 rfl
 replace h0 := nN h0
 refine sq [0,1,2,3,4] (fa tok ?_)
 refine ld tok ?_
 obtain ⟨v32,hv32,h0⟩ := bnd h0
 refine rS rfl (aQ 4 (pW hv32) rfl rfl rfl) (rP rfl (jK rfl rfl) (pa (nx (aC ?_))))
 cases h0
 exact r0t 2 rfl
theorem uC {p0 : Int} {r : Bool} (h0 : jH p0 = some r) : FnC Tryz.prog 66 [] [dI p0] [] (dB r) := by
 refine fi 5 tok Tryz.func66 ?_
 unfold jH at h0
 refine sq [0] (pa (nx (sq [0,1,2] ?_)))
 refine pm ?_
 obtain ⟨v1,hv1,h0⟩ := bnd h0
 refine rS rfl (aQ 3 (gS hv1) rfl rfl rfl) (pa (nx (aC ?_)))
 cases h0
 exact r0t 2 rfl
theorem aGo {p0 : aD} {p1 : Int} {r : Bool} (h0 : rI p0 p1 = some r) : FnC Tryz.prog 142 [] [.agg [dS p0.Name,(dL aT p0.Months),(dL aG p0.Rules),(dI p0.Week)],(dI p1)] [] (dB r) := by
 refine fi 11 tok Tryz.func142 ?_
 unfold rI at h0
 refine sq [0,1] (bxx 3 ?_)
 refine pa (nx (sq [0,1,2,3,4,5,6] ?_))
 refine pm ?_
 refine fa tok ?_
 refine ld tok ?_
 refine rP rfl (aK tok rfl rfl rfl) ?_
 obtain ⟨hq1,h0⟩ := cR h0
 refine rP rfl (rO rfl rfl hq1) ?_
 obtain ⟨v2,hv2,h0⟩ := bnd h0
 refine rS rfl (aQ 4 (gS hv2) rfl rfl rfl) (pa (nx (aC ?_)))
 cases h0
 exact r0t 4 rfl
theorem aBb {p0 : aD} {p1 : Int} {r : Bool} (h0 : kU p0 p1 = some r) : FnC Tryz.prog 134 [] [.agg [dS p0.Name,(dL aT p0.Months),(dL aG p0.Rules),(dI p0.Week)],(dI p1)] [] (dB r) := by
 refine fi 26 tok Tryz.func134 ?_
 unfold kU at h0
 refine sq [0,1] (bxx 3 ?_)
 refine pa (nx (sq [0] ?_))
 refine pa (nx ?_)
 obtain ⟨v9,h1,h0⟩ := bnd h0
 refine bF ⟨aA ((fun _ => .dead)) 5 (dB v9),lks [.no, .no, .no]⟩ ?_ ?_
 refine sq [0,1,2,3] (fa tok ?_)
 refine ld tok ?_
 refine rP rfl (aK tok rfl rfl rfl) (pm (nx (aE ?_)))
 refine aY (fun s5 => ⟨aA (aA (aA (aA (aA ((fun _ => .dead)) 1 (dI p1)) 5 (dB s5.1)) 9 (dL aG p0.Rules)) 10 (dI (p0.Rules.length : Int))) 11 (dI s5.2),lks [.no, .no, .no]⟩) h1 ?_ (fun s5 y h2 => ?_)
 exact wk [0,1,2]
 refine sq [0] (rP rfl (bB rfl rfl) (nx (aB ?_)))
 refine bC h2 rfl (fun hc h2 => ?_) (fun hc h2 => ?_)
 refine sk ?_
 obtain ⟨v8,h3,h2⟩ := bnd h2
 refine bF ⟨aA (aA (aA (aA (aA ((fun _ => .dead)) 1 (dI p1)) 5 (dB v8)) 9 (dL aG p0.Rules)) 10 (dI (p0.Rules.length : Int))) 11 (dI s5.2),lks [.no, .no, .no]⟩ ?_ ?_
 refine aE (sq [0,1,2,3] ?_)
 obtain ⟨v6,hv6,h3⟩ := bnd h3
 refine rP rfl (cG tok hv6 rfl rfl rfl rfl rfl rfl) (rP rfl (bR tok rfl rfl rfl (by repeat (first | exact kE.z _ | apply kE.t))) (al 3 [z0,z0,(dB false)] tok ?_))
 refine bst tok (nx (aB ?_))
 refine aI (is := [0,1,2,3,4,5,6]) [0,0,2,7,0,16,63] follows (by kernel_rfl) (tpm ?_)
 refine tfa tok ?_
 refine tld tok ?_
 obtain ⟨hq7,h3⟩ := cR h3
 refine tP rfl (lG rfl rfl hq7) (tfa tok ?_)
 refine tld tok ?_
 refine tP rfl (nD rfl rfl) (bY ?_)
 refine ⟨by kernel_rfl,?_⟩
 refine aF ?_
 refine bC h3 rfl (fun hc h3 => ?_) (fun hc h3 => ?_)
 refine sr [0,1,2] (fa tok ?_)
 refine ld tok ?_
 refine pa (aV ?_)
 refine aZ (aF ?_)
 cases h3
 exact wk [0,1,2]
 refine cT (aZ (aF ?_))
 cases h3
 exact wk [0,1,2]
 refine sr [0,1] (rP rfl (bD rfl rfl) (pm (aV ?_)))
 refine bX ?_
 cases h2
 refine ⟨_,rfl,?_⟩
 exact wk [0,1,2]
 refine bH (cC ?_)
 cases h2
 refine cA ⟨_,rfl,fun e => ?_⟩
 subst e
 refine aR (aF ?_)
 exact wk [0,1,2]
 refine sq [0,1] (pm ?_)
 refine pa (nx (aC ?_))
 cases h0
 exact r0t 4 rfl
theorem yQ {p0 : aD} {p1 : List Int} {r : Int} (h0 : mK p0 p1 = some r) : FnC Tryz.prog 79 [] [.agg [dS p0.Name,(dL aT p0.Months),(dL aG p0.Rules),(dI p0.Week)],(dL cI p1)] [] (dI r) := by
 refine fi 18 tok Tryz.func79 ?_
 unfold mK at h0
 refine sq [0,1] (bxx 3 ?_)
 refine pa (nx (aB (sq [0,1,2,3,4,5,6] ?_)))
 refine pm ?_
 refine rP rfl (aK tok rfl rfl rfl) (fa tok ?_)
 refine ld tok ?_
 refine rP rfl (aK tok rfl rfl rfl) ?_
 obtain ⟨hq1,h0⟩ := cR h0
 refine rP rfl (lG rfl rfl hq1) (rP rfl (cQ rfl rfl) (nx ?_))
 refine bC h0 rfl (fun hc h0 => ?_) (fun hc h0 => ?_)
 refine sq [0] (pa (nx (aC (aJ ?_))))
 cases h0
 exact r0t 4 rfl
 refine sk (sq [0,1,2,3,4,5,6] (pm ?_))
 refine rP rfl (aK tok rfl rfl rfl) (fa tok ?_)
 refine ld tok ?_
 refine rP rfl (aK tok rfl rfl rfl) ?_
 obtain ⟨hq2,h0⟩ := cR h0
 refine rP rfl (rO rfl rfl hq2) (pa (nx (aC ?_)))
 cases h0
 exact r0t 4 rfl
theorem aAb {p0 : aD} {p1 : Bool} {p2 : Int} {r : Int} (h0 : jN p0 p1 p2 = some r) : FnC Tryz.prog 135 [] [.agg [dS p0.Name,(dL aT p0.Months),(dL aG p0.Rules),(dI p0.Week)],(dB p1),(dI p2)] [] (dI r) := by
 refine fi 22 tok Tryz.func135 ?_
 unfold jN at h0
 refine sq [0,1] (bxx 3 ?_)
 refine pa (nx (aB (sq [0] ?_)))
 refine pm (nx ?_)
 refine bZ h0 rfl (fun hc h0 => ?_) (fun hc h0 => ?_)
 refine sq [0,1,2,3,4,5,6,7] (fa tok ?_)
 refine ld tok ?_
 refine pm ?_
 refine rP rfl (iX rfl rfl) ?_
 obtain ⟨v1,hv1,h0⟩ := bnd h0
 refine rP rfl (cG tok hv1 rfl rfl rfl rfl rfl rfl) (fr tok ?_)
 refine lr tok ?_
 refine pa (nx (aC (aJ ?_)))
 cases h0
 exact r0t 6 rfl
 refine sk (sq [0,1,2,3,4,5,6,7] (fa tok ?_))
 refine ld tok ?_
 refine pm ?_
 refine rP rfl (iX rfl rfl) ?_
 obtain ⟨v2,hv2,h0⟩ := bnd h0
 refine rP rfl (cG tok hv2 rfl rfl rfl rfl rfl rfl) (fr tok ?_)
 refine lr tok ?_
 refine pa (nx (aC ?_))
 cases h0
 exact r0t 6 rfl
theorem aE8 {p0 : aD} {p1 : List Int} {p2 : Int} {r : List oJ} (h0 : nB p0 p1 p2 = some r) : FnC Tryz.prog 59 [] [.agg [dS p0.Name,(dL aT p0.Months),(dL aG p0.Rules),(dI p0.Week)],(dL cI p1),(dI p2)] [.live [⟨177,4, .data (List.map zM r)⟩]] (.own 0 0 r.length) := by
 refine fi 57 tok Tryz.func59 ?_
 unfold nB at h0
 refine sq [0,1] (bxx 3 ?_)
 refine pa (nx (sq [0] ?_))
 refine pa (nx (sq [0,1,2,3] ?_))
 refine rL rfl (bO tok rfl rfl rfl rfl) (pm ?_)
 obtain ⟨v1,hv1,h0⟩ := bnd h0
 refine rS rfl (aQ 4 (aBb hv1) rfl rfl rfl) (pa (nx (sq [0,1,2,3] ?_)))
 refine fa tok ?_
 refine ld tok ?_
 refine rP rfl (aK tok rfl rfl rfl) (pa (nx (sq [0,1,2,3,4,5,6,7,8,9] ?_)))
 refine pm ?_
 refine pm ?_
 refine rL rfl (bO tok rfl rfl rfl rfl) (pm ?_)
 obtain ⟨v2,hv2,h0⟩ := bnd h0
 refine rS rfl (aQ 4 (yQ hv2) rfl rfl rfl) ?_
 obtain ⟨hq3,h0⟩ := cR h0
 refine rP rfl (lG rfl rfl hq3) (pm ?_)
 refine rP rfl (eH rfl rfl) ?_
 obtain ⟨hq4,h0⟩ := cR h0
 refine rP rfl (tZ tok hq4 rfl (.inr ⟨_,_,rfl,rfl⟩) (.inl ⟨rfl,rfl⟩) rfl rfl rfl (fun _ => rfl)) (pa (nx ?_))
 obtain ⟨v17,h1,h0⟩ := bnd h0
 refine bF ⟨aA ((fun _ => .dead)) 7 (.own 3 0 (v17).length),lks [.no, .no, .no, .live [⟨177,4, .data (List.map zM v17)⟩]]⟩ ?_ ?_
 refine sq [0] (pa (nx (aE ?_)))
 refine aY (fun s11 => ⟨aA (aA (aA (aA (aA (aA (aA ((fun _ => .dead)) 2 (dI p2)) 3 (.ptr 3 0 1 0 0)) 7 (.own 4 0 (s11.2).length)) 8 (dB v1)) 9 (dI (p0.Months.length : Int))) 10 (dL cI (xD p1 (w64 ((p2.tmod v2) * (p0.Months.length : Int))) (p1.length : Int)))) 11 (dI s11.1),lks [.no, .no, .no, .live [⟨31,4, .av [[dS p0.Name,(dL aT p0.Months),(dL aG p0.Rules),(dI p0.Week)]]⟩], .live [⟨177,4, .data (List.map zM s11.2)⟩]]⟩) h1 ?_ (fun s11 y h2 => ?_)
 refine lW.trans_ (dQ 4 rfl 177 4 (d := 7) rfl) ?_
 exact wk [0,1,2,3,4]
 refine aB (sq [0,1,2] (pm ?_))
 refine pm ?_
 refine rP rfl (jK rfl rfl) (nx ?_)
 refine bC h2 rfl (fun hc h2 => ?_) (fun hc h2 => ?_)
 refine sk ?_
 obtain ⟨v16,h3,h2⟩ := bnd h2
 refine bF ⟨aA (aA (aA (aA (aA (aA (aA ((fun _ => .dead)) 2 (dI p2)) 3 (.ptr 3 0 1 0 0)) 7 (.own 4 0 (v16).length)) 8 (dB v1)) 9 (dI (p0.Months.length : Int))) 10 (dL cI (xD p1 (w64 ((p2.tmod v2) * (p0.Months.length : Int))) (p1.length : Int)))) 11 (dI s11.1),lks [.no, .no, .no, .live [⟨31,4, .av [[dS p0.Name,(dL aT p0.Months),(dL aG p0.Rules),(dI p0.Week)]]⟩], .live [⟨177,4, .data (List.map zM v16)⟩]]⟩ ?_ ?_
 refine aE (sq [0,1,2,3,4] (rL rfl (bO tok rfl rfl rfl rfl) (pm ?_)))
 refine pm ?_
 obtain ⟨v12,hv12,h3⟩ := bnd h3
 refine rS rfl (aQ 5 (aAb hv12) rfl rfl rfl) (pa (nx (sq [0,1,2,3,4,5,6] ?_)))
 refine pm ?_
 refine pm ?_
 refine rP rfl (iX rfl rfl) ?_
 obtain ⟨v13,hv13,h3⟩ := bnd h3
 refine rP rfl (cG tok hv13 rfl rfl rfl rfl rfl rfl) (lr tok ?_)
 refine pm ?_
 refine rP rfl (cQ rfl rfl) (nx ?_)
 refine bC h3 rfl (fun hc h3 => ?_) (fun hc h3 => ?_)
 refine sr [0,1,2,3,4,5,6,7,8,9,10,11,12] (rP rfl (aL (r := .own _ _ _) rfl) ?_)
 iterate 4 refine pm ?_
 refine rP rfl (iX rfl rfl) ?_
 obtain ⟨v14,hv14,h3⟩ := bnd h3
 refine rP rfl (cG tok hv14 rfl rfl rfl rfl rfl rfl) (lr tok ?_)
 refine pm ?_
 refine rP rfl (pbl (C0 := [z0,z0,z0,z0]) tok rfl rfl rfl) (rS rfl (tK tok zM [(⟨p2,s11.1,v14,v12⟩ : oJ)] rfl rfl rfl (by repeat (first | exact Els.nil _ | apply Els.cons (cs := [.d _]) rfl rfl rfl | apply Els.cons (cs := _ :: _) rfl rfl rfl)) rfl rfl rfl (by repeat (first | exact dG.nil | (apply dG.cons; (repeat (first | exact iZ.nil | apply iZ.cons))))) rfl) ?_)
 obtain ⟨hq15,h3⟩ := cR h3
 refine rw1 rfl w0 rfl (gZ tok hq15 rfl rfl rfl rfl rfl rfl rfl rfl rfl rfl rfl rfl (fun _ => rfl)) (rP rfl (aS (r := .own _ _ _) rfl) (aV (aZ (aF ?_))))
 cases h3
 exact wk [0,1,2,3,4]
 refine cT (aZ (aF ?_))
 cases h3
 exact wk [0,1,2,3,4]
 refine sr [0,1,2] (pm ?_)
 refine rP rfl (bD rfl rfl) (pa (aV ?_))
 refine bX ?_
 cases h2
 refine ⟨_,rfl,?_⟩
 exact wk [0,1,2,3,4]
 refine bH (cC ?_)
 cases h2
 refine cA ⟨_,rfl,fun e => ?_⟩
 subst e
 refine aR (aF ?_)
 exact wk [0,1,2,4]
 refine sq [0,1] (rP rfl (aL (r := .own _ _ _) rfl) (rP rfl (aS (r := .own _ _ _) rfl) (nx (aC ?_))))
 cases h0
 exact fO (rs := [.tmp 6]) [3] rfl
theorem aAz {p0 : aD} {p1 : List Int} {r : Int} (h0 : kA p0 p1 = some r) : FnC Tryz.prog 144 [] [.agg [dS p0.Name,(dL aT p0.Months),(dL aG p0.Rules),(dI p0.Week)],(dL cI p1)] [] (dI r) := by
 refine fi 36 tok Tryz.func144 ?_
 unfold kA at h0
 refine sq [0,1] (bxx 3 ?_)
 refine pa (nx (aB ?_))
 refine aI (is := [0,1,3,4,2,5,6,7]) [0,0,3,0,8,31,63,127] follows (by kernel_rfl) (dT rfl w0 rfl (bO tok rfl rfl rfl rfl) rfl rfl rfl (tpm ?_))
 refine tfa tok ?_
 refine tld tok ?_
 obtain ⟨v1,hv1,h0⟩ := bnd h0
 refine oH rfl w0 rfl (dJ 4 (yQ hv1) rfl rfl rfl) ?_
 obtain ⟨v2,hv2,h0⟩ := bnd h0
 refine oH rfl w0 rfl (dJ 4 (pW hv2) rfl rfl rfl) (tpa ?_)
 refine tpa ?_
 refine bY ?_
 refine ⟨by kernel_rfl,?_⟩
 refine aF (sq [0,1,2,3,4,5,6,7] ?_)
 iterate 3 refine pm ?_
 obtain ⟨v3,hv3,h0⟩ := bnd h0
 refine rS rfl (aQ 4 (aB6 hv3) rfl rfl rfl) ?_
 obtain ⟨hq4,h0⟩ := cR h0
 refine rP rfl (rO rfl rfl hq4) (pm ?_)
 refine rP rfl (eH rfl rfl) (pa (nx (sq [0] ?_)))
 refine pa (nx ?_)
 obtain ⟨v9,h1,h0⟩ := bnd h0
 refine bF ⟨aA ((fun _ => .dead)) 8 (dI v9),lks [.no, .no, .no]⟩ ?_ ?_
 refine sq [0] (pa (nx (aE ?_)))
 refine aY (fun s7 => ⟨aA (aA (aA (aA (aA ((fun _ => .dead)) 1 (dL cI p1)) 2 (.ptr 3 0 1 0 0)) 7 (dI (w64 ((w64 (v1.tdiv v3)) * v2)))) 8 (dI s7.1)) 9 (dI s7.2),lks [.no, .no, .no, .live [⟨31,4, .av [[dS p0.Name,(dL aT p0.Months),(dL aG p0.Rules),(dI p0.Week)]]⟩]]⟩) h1 ?_ (fun s7 y h2 => ?_)
 exact wk [0,1,2,3]
 refine aB (sq [0,1,2] (pm ?_))
 refine pm ?_
 refine rP rfl (bB rfl rfl) (nx ?_)
 refine bC h2 rfl (fun hc h2 => ?_) (fun hc h2 => ?_)
 refine sk (aB (aE (sr [0,1,2,3,4,5,6,7] (pm ?_))))
 refine rL rfl (bO tok rfl rfl rfl rfl) (pm ?_)
 refine pm ?_
 obtain ⟨v8,hv8,h2⟩ := bnd h2
 refine rS rfl (aQ 4 (aE8 hv8) rfl rfl rfl) (rL rfl (nG tok rfl rfl rfl rfl rfl) (rP rfl (bD rfl rfl) (pa (aV ?_))))
 refine aZ (aF (sr [0,1,2] (pm ?_)))
 refine rP rfl (bD rfl rfl) (pa (aV ?_))
 refine bX ?_
 cases h2
 refine ⟨_,rfl,?_⟩
 exact wk [0,1,2,3]
 refine bH (cC ?_)
 cases h2
 refine cA ⟨_,rfl,fun e => ?_⟩
 subst e
 refine aR (aF ?_)
 exact wk [0,1,2]
 refine sq [0,1] (pm ?_)
 refine pa (nx (aC ?_))
 cases h0
 exact r0t 4 rfl
theorem aGa {p0 : aD} {p1 : Int} {r : List Int × Int × Int} (h0 : oD p0 p1 = some r) : FnC Tryz.prog 67 [] [.agg [dS p0.Name,(dL aT p0.Months),(dL aG p0.Rules),(dI p0.Week)],(dI p1)] [.live [⟨2,1, .data (List.map cI r.1)⟩]] (.tup [.own 0 0 r.1.length,(dI r.2.1),(dI r.2.2)]) := by
 refine fi 115 tok Tryz.func67 ?_
 unfold oD at h0
 refine sq [0,1,2,3] (bxx 3 ?_)
 iterate 3 refine pa ?_
 refine nx (aB (sq [0,1,2] (rL rfl (bO tok rfl rfl rfl rfl) ?_)))
 obtain ⟨v1,hv1,h0⟩ := bnd h0
 refine rS rfl (aQ 4 (qQ hv1) rfl rfl rfl) (rP rfl (cJ rfl) (nx ?_))
 refine bZ h0 rfl (fun hc h0 => ?_) (fun hc h0 => ?_)
 refine sq [0,1,2] ?_
 iterate 3 refine pa ?_
 refine nx (cM (dQ 4 rfl 2 1 (d := 4) rfl) (aC (aJ ?_)))
 cases h0
 exact fO (rs := [.tmp 4, .tmp 5, .tmp 6]) [4] rfl
 refine sk (aB (sq [0,1,2,3] (rL rfl (bO tok rfl rfl rfl rfl) (pm ?_))))
 obtain ⟨v2,hv2,h0⟩ := bnd h0
 refine rS rfl (aQ 4 (aGo hv2) rfl rfl rfl) (rP rfl (cJ rfl) (nx ?_))
 refine bZ h0 rfl (fun hc h0 => ?_) (fun hc h0 => ?_)
 refine sq [0,1,2] ?_
 iterate 3 refine pa ?_
 refine nx (cM (dQ 4 rfl 2 1 (d := 4) rfl) (aC (aJ ?_)))
 cases h0
 exact fO (rs := [.tmp 4, .tmp 5, .tmp 6]) [4] rfl
 refine sk (sq [0,1,2,3] (fa tok ?_))
 refine ld tok ?_
 obtain ⟨v3,hv3,h0⟩ := bnd h0
 refine rS rfl (aQ 4 (pW hv3) rfl rfl rfl) (pa (nx (sq [0,1,2,3,4,5,6,7] ?_)))
 iterate 3 refine pm ?_
 obtain ⟨v4,hv4,h0⟩ := bnd h0
 refine rS rfl (aQ 4 (aB6 hv4) rfl rfl rfl) ?_
 obtain ⟨hq5,h0⟩ := cR h0
 refine rP rfl (rO rfl rfl hq5) (pm ?_)
 refine rP rfl (eH rfl rfl) (pa (nx (aB ?_)))
 refine aI (is := [0,2,1,4,3,5]) [0,1,0,4,3,31] follows (by kernel_rfl) (tpm ?_)
 refine tpm ?_
 obtain ⟨hq6,h0⟩ := cR h0
 refine aDc rfl w0 rfl rfl (fun hx hk => aHz 4 tok (c := cI) 0 hq6 rfl rfl rfl rfl rfl rfl rfl rfl rfl rfl rfl hk rfl) (tP rfl (aS (r := .own _ _ _) rfl) ?_)
 obtain ⟨hq7,h0⟩ := cR h0
 refine aDc rfl w0 rfl rfl (fun hx hk => aHz 5 tok (c := cI) 0 hq7 rfl rfl rfl rfl rfl rfl rfl rfl rfl rfl rfl hk rfl) (tP rfl (aS (r := .own _ _ _) rfl) (bY ?_))
 refine ⟨by kernel_rfl,?_⟩
 refine aF ?_
 obtain ⟨v26,h1,h0⟩ := bnd h0
 refine bF ⟨aA (aA (aA ((fun _ => .dead)) 2 (.ptr 3 0 1 0 0)) 9 (.own 4 0 (v26.1).length)) 10 (.own 5 0 (v26.2).length),lks [.no, .no, .no, .live [⟨31,4, .av [[dS p0.Name,(dL aT p0.Months),(dL aG p0.Rules),(dI p0.Week)]]⟩], .live [⟨2,1, .data (List.map cI v26.1)⟩], .live [⟨2,1, .data (List.map cI v26.2)⟩]]⟩ ?_ ?_
 refine sq [0] (pa (nx (aE ?_)))
 refine aY (fun s17 => ⟨aA (aA (aA (aA (aA (aA ((fun _ => .dead)) 1 (dI p1)) 2 (.ptr 3 0 1 0 0)) 8 (dI (w64 ((w64 (p1.tdiv v4)) * v3)))) 9 (.own 4 0 (s17.2.1).length)) 10 (.own 5 0 (s17.2.2).length)) 11 (dI s17.1),lks [.no, .no, .no, .live [⟨31,4, .av [[dS p0.Name,(dL aT p0.Months),(dL aG p0.Rules),(dI p0.Week)]]⟩], .live [⟨2,1, .data (List.map cI s17.2.1)⟩], .live [⟨2,1, .data (List.map cI s17.2.2)⟩]]⟩) h1 ?_ (fun s17 y h2 => ?_)
 exact wk [0,1,2,3,4,5]
 refine aB (sq [0,1,2] (pm ?_))
 refine pm ?_
 refine rP rfl (bB rfl rfl) (nx ?_)
 refine bC h2 rfl (fun hc h2 => ?_) (fun hc h2 => ?_)
 refine sk ?_
 obtain ⟨v25,h3,h2⟩ := bnd h2
 refine bF ⟨aA (aA (aA (aA (aA (aA ((fun _ => .dead)) 1 (dI p1)) 2 (.ptr 3 0 1 0 0)) 8 (dI (w64 ((w64 (p1.tdiv v4)) * v3)))) 9 (.own 4 0 (v25.1).length)) 10 (.own 5 0 (v25.2).length)) 11 (dI s17.1),lks [.no, .no, .no, .live [⟨31,4, .av [[dS p0.Name,(dL aT p0.Months),(dL aG p0.Rules),(dI p0.Week)]]⟩], .live [⟨2,1, .data (List.map cI v25.1)⟩], .live [⟨2,1, .data (List.map cI v25.2)⟩]]⟩ ?_ ?_
 refine aE (sq [0,1,2] (rL rfl (bO tok rfl rfl rfl rfl) (pm ?_)))
 obtain ⟨v18,hv18,h3⟩ := bnd h3
 refine rS rfl (aQ 6 (aBb hv18) rfl rfl rfl) (nx ?_)
 refine bZ h3 rfl (fun hc h3 => ?_) (fun hc h3 => ?_)
 refine sr [0,1,2,3,4,5,6,7,8] (rP rfl (aL (r := .own _ _ _) rfl) (pm ?_))
 refine pm ?_
 obtain ⟨hq19,h3⟩ := cR h3
 refine rP rfl (lG rfl rfl hq19) ?_
 obtain ⟨v20,hv20,h3⟩ := bnd h3
 refine rL rfl (jB tok hv20 rfl rfl rfl rfl rfl rfl rfl rfl) (rL rfl (oN tok (eB hv20).2.1 rfl rfl rfl rfl rfl rfl) (rP rfl (bD rfl rfl) ?_))
 obtain ⟨v21,hv21,h3⟩ := bnd h3
 refine rL rfl (jB tok hv21 rfl rfl rfl rfl rfl rfl rfl rfl) (rw0 rfl w0 (sR (cs := [.d _]) tok (w64 (v20 + 1)) (eB hv21).2.1 rfl rfl rfl rfl rfl rfl rfl rfl) (aV (aZ (aF ?_))))
 cases h3
 exact wk [0,1,2,3,4,5]
 refine sr [0,1,2,3,4,5,6,7,8] (rP rfl (aL (r := .own _ _ _) rfl) (pm ?_))
 refine pm ?_
 obtain ⟨hq22,h3⟩ := cR h3
 refine rP rfl (lG rfl rfl hq22) ?_
 obtain ⟨v23,hv23,h3⟩ := bnd h3
 refine rL rfl (jB tok hv23 rfl rfl rfl rfl rfl rfl rfl rfl) (rL rfl (oN tok (eB hv23).2.1 rfl rfl rfl rfl rfl rfl) (rP rfl (bD rfl rfl) ?_))
 obtain ⟨v24,hv24,h3⟩ := bnd h3
 refine rL rfl (jB tok hv24 rfl rfl rfl rfl rfl rfl rfl rfl) (rw0 rfl w0 (sR (cs := [.d _]) tok (w64 (v23 + 1)) (eB hv24).2.1 rfl rfl rfl rfl rfl rfl rfl rfl) (aV (aZ (aF ?_))))
 cases h3
 exact wk [0,1,2,3,4,5]
 refine sr [0,1,2] (pm ?_)
 refine rP rfl (bD rfl rfl) (pa (aV ?_))
 refine bX ?_
 cases h2
 refine ⟨_,rfl,?_⟩
 exact wk [0,1,2,3,4,5]
 refine bH (cC ?_)
 cases h2
 refine cA ⟨_,rfl,fun e => ?_⟩
 subst e
 refine aR (aF ?_)
 exact wk [0,1,2,3,4,5]
 refine sq [0] (pa (nx ?_))
 obtain ⟨v67,h1,h0⟩ := bnd h0
 refine bF ⟨aA (aA ((fun _ => .dead)) 2 (.ptr 3 0 1 0 0)) 12 (.own 4 0 (v67).length),lks [.no, .no, .no, .live [⟨31,4, .av [[dS p0.Name,(dL aT p0.Months),(dL aG p0.Rules),(dI p0.Week)]]⟩], .live [⟨2,1, .data (List.map cI v67)⟩]]⟩ ?_ ?_
 refine sq [0,1,2] (rP rfl (aL (r := .own _ _ _) rfl) (rL rfl (nG tok rfl rfl rfl rfl rfl) (pm (nx (aE ?_)))))
 refine aY (fun s47 => ⟨aA (aA (aA (aA (aA (aA ((fun _ => .dead)) 2 (.ptr 3 0 1 0 0)) 9 (.own 4 0 (v26.1).length)) 10 (.own 5 0 (v26.2).length)) 12 (.own 6 0 (s47.2).length)) 63 (dI (v26.1.length : Int))) 64 (dI s47.1),lks [.no, .no, .no, .live [⟨31,4, .av [[dS p0.Name,(dL aT p0.Months),(dL aG p0.Rules),(dI p0.Week)]]⟩], .live [⟨2,1, .data (List.map cI v26.1)⟩], .live [⟨2,1, .data (List.map cI v26.2)⟩], .live [⟨2,1, .data (List.map cI s47.2)⟩]]⟩) h1 ?_ (fun s47 y h2 => ?_)
 refine lW.trans_ (dQ 6 rfl 2 1 (d := 12) rfl) ?_
 exact wk [0,1,2,3,4,5,6]
 refine sq [0] (rP rfl (bB rfl rfl) (nx (aB ?_)))
 refine bC h2 rfl (fun hc h2 => ?_) (fun hc h2 => ?_)
 refine sk ?_
 obtain ⟨v66,h3,h2⟩ := bnd h2
 refine bF ⟨aA (aA (aA (aA (aA (aA ((fun _ => .dead)) 2 (.ptr 3 0 1 0 0)) 9 (.own 4 0 (v26.1).length)) 10 (.own 5 0 (v26.2).length)) 12 (.own 6 0 (v66).length)) 63 (dI (v26.1.length : Int))) 64 (dI s47.1),lks [.no, .no, .no, .live [⟨31,4, .av [[dS p0.Name,(dL aT p0.Months),(dL aG p0.Rules),(dI p0.Week)]]⟩], .live [⟨2,1, .data (List.map cI v26.1)⟩], .live [⟨2,1, .data (List.map cI v26.2)⟩], .live [⟨2,1, .data (List.map cI v66)⟩]]⟩ ?_ ?_
 refine aE (sq [0,1] (pm ?_))
 refine pa (nx (sq [0,1,2,3] ?_))
 refine fa tok ?_
 refine ld tok ?_
 refine rP rfl (aK tok rfl rfl rfl) (pm (nx (aE ?_)))
 refine aY (fun s57 => ⟨aA (aA (aA (aA (aA (aA (aA (aA (aA (aA ((fun _ => .dead)) 2 (.ptr 3 0 1 0 0)) 9 (.own 4 0 (v26.1).length)) 10 (.own 5 0 (v26.2).length)) 12 (.own 6 0 (s57.2).length)) 13 (dI s47.1)) 63 (dI (v26.1.length : Int))) 64 (dI s47.1)) 68 (dL aT p0.Months)) 69 (dI (p0.Months.length : Int))) 70 (dI s57.1),lks [.no, .no, .no, .live [⟨31,4, .av [[dS p0.Name,(dL aT p0.Months),(dL aG p0.Rules),(dI p0.Week)]]⟩], .live [⟨2,1, .data (List.map cI v26.1)⟩], .live [⟨2,1, .data (List.map cI v26.2)⟩], .live [⟨2,1, .data (List.map cI s57.2)⟩]]⟩) h3 ?_ (fun s57 y h4 => ?_)
 exact wk [0,1,2,3,4,5,6]
 refine sq [0] (rP rfl (bB rfl rfl) (nx (aB ?_)))
 refine bC h4 rfl (fun hc h4 => ?_) (fun hc h4 => ?_)
 refine sk (aB (aE (sq [0,1,2,3] ?_)))
 obtain ⟨v58,hv58,h4⟩ := bnd h4
 refine rP rfl (cG tok hv58 rfl rfl rfl rfl rfl rfl) (rP rfl (bR tok rfl rfl rfl (by repeat (first | exact kE.z _ | apply kE.t))) (al 7 [ze,z0,z0] tok ?_))
 refine bst tok (nx (sq [0,1,2] ?_))
 refine fa tok ?_
 refine ld tok ?_
 refine pa (nx ?_)
 obtain ⟨v64,h5,h4⟩ := bnd h4
 refine bF ⟨aA (aA (aA (aA (aA (aA (aA (aA (aA (aA (aA ((fun _ => .dead)) 2 (.ptr 3 0 1 0 0)) 9 (.own 4 0 (v26.1).length)) 10 (.own 5 0 (v26.2).length)) 12 (.own 6 0 (s57.2).length)) 13 (dI s47.1)) 16 (dI v64)) 63 (dI (v26.1.length : Int))) 64 (dI s47.1)) 68 (dL aT p0.Months)) 69 (dI (p0.Months.length : Int))) 70 (dI s57.1),lks [.no, .no, .no, .live [⟨31,4, .av [[dS p0.Name,(dL aT p0.Months),(dL aG p0.Rules),(dI p0.Week)]]⟩], .live [⟨2,1, .data (List.map cI v26.1)⟩], .live [⟨2,1, .data (List.map cI v26.2)⟩], .live [⟨2,1, .data (List.map cI s57.2)⟩]]⟩ ?_ ?_
 obtain ⟨v63,h6,h5⟩ := bnd h5
 refine bF ⟨aA (aA (aA (aA (aA (aA (aA (aA (aA (aA (aA (aA (aA ((fun _ => .dead)) 2 (.ptr 3 0 1 0 0)) 9 (.own 4 0 (v26.1).length)) 10 (.own 5 0 (v26.2).length)) 12 (.own 6 0 (s57.2).length)) 13 (dI s47.1)) 15 (.ptr 7 0 1 0 0)) 16 (dI v58.Days)) 63 (dI (v26.1.length : Int))) 64 (dI s47.1)) 68 (dL aT p0.Months)) 69 (dI (p0.Months.length : Int))) 70 (dI s57.1)) 102 (dB v63),lks [.no, .no, .no, .live [⟨31,4, .av [[dS p0.Name,(dL aT p0.Months),(dL aG p0.Rules),(dI p0.Week)]]⟩], .live [⟨2,1, .data (List.map cI v26.1)⟩], .live [⟨2,1, .data (List.map cI v26.2)⟩], .live [⟨2,1, .data (List.map cI s57.2)⟩], .live [⟨170,3, .av [[dS v58.Name,(dI v58.Days),(dI v58.Leap)]]⟩]]⟩ ?_ ?_
 refine aI (is := [0,1,2,3,4,5,6,7,8,9,10,11,12,13,14,15,16,17,18,19,20,21,22,23,24,25,26]) [0,0,3,7,0,0,48,112,255,511,1023,1023,4095,8191,1023,1023,50175,115711,262143,524287,1048575,2097151,1048575,5242879,16777215,33554431,67108863] follows (by kernel_rfl) (tP rfl (aL (r := .own _ _ _) rfl) (tpm ?_))
 obtain ⟨v59,hv59,h6⟩ := bnd h6
 refine dT rfl w0 rfl (jB tok hv59 rfl rfl rfl rfl rfl rfl rfl rfl) rfl rfl rfl (dT rfl w0 rfl (oN tok (eB hv59).2.1 rfl rfl rfl rfl rfl rfl) rfl rfl rfl (tP rfl (aL (r := .own _ _ _) rfl) (tpm ?_)))
 obtain ⟨v60,hv60,h6⟩ := bnd h6
 refine dT rfl w0 rfl (jB tok hv60 rfl rfl rfl rfl rfl rfl rfl rfl) rfl rfl rfl (dT rfl w0 rfl (oN tok (eB hv60).2.1 rfl rfl rfl rfl rfl rfl) rfl rfl rfl (tP rfl (gT rfl rfl) (tpm ?_)))
 refine aGt (u := 85) h6 rfl (fun hc h6 => ?_) (fun hc h6 => ?_)
 iterate 16 refine k2 ?_
 refine aJl ?_
 refine bY ?_
 refine ⟨by kernel_rfl,?_⟩
 refine aF ?_
 cases h6
 exact wk [0,1,2,3,4,5,6,7]
 refine qV rfl (w1 rfl rfl rfl) rfl (aL (r := .own _ _ _) rfl) (aDe ?_)
 obtain ⟨v61,hv61,h6⟩ := bnd h6
 refine dT rfl (w1 rfl rfl rfl) rfl (jB tok hv61 rfl rfl rfl rfl rfl rfl rfl rfl) rfl rfl rfl (dT rfl (w1 rfl rfl rfl) rfl (oN tok (eB hv61).2.1 rfl rfl rfl rfl rfl rfl) rfl rfl rfl (qV rfl (w1 rfl rfl rfl) rfl (aL (r := .own _ _ _) rfl) (aDe ?_)))
 obtain ⟨v62,hv62,h6⟩ := bnd h6
 refine dT rfl (w1 rfl rfl rfl) rfl (jB tok hv62 rfl rfl rfl rfl rfl rfl rfl rfl) rfl rfl rfl (dT rfl (w1 rfl rfl rfl) rfl (oN tok (eB hv62).2.1 rfl rfl rfl rfl rfl rfl) rfl rfl rfl (qV rfl (w1 rfl rfl rfl) rfl (nD rfl rfl) (aDe ?_)))
 refine aGt (u := 95) h6 rfl (fun hc h6 => ?_) (fun hc h6 => ?_)
 refine dT rfl (w1 rfl rfl rfl) rfl (aEg tok rfl rfl rfl rfl rfl rfl rfl) rfl rfl rfl (dT rfl (w1 rfl rfl rfl) rfl (wN tok rfl rfl rfl rfl rfl) rfl rfl rfl (dT rfl (w1 rfl rfl rfl) rfl (aEg tok rfl rfl rfl rfl rfl rfl rfl) rfl rfl rfl (dT rfl (w1 rfl rfl rfl) rfl (wN tok rfl rfl rfl rfl rfl) rfl rfl rfl (qV rfl (w1 rfl rfl rfl) rfl (bB rfl rfl) (aSi ?_)))))
 refine aH2 ?_
 refine bY ?_
 refine ⟨by kernel_rfl,?_⟩
 refine aF ?_
 cases h6
 exact wk [0,1,2,3,4,5,6,7]
 iterate 5 refine k2 ?_
 refine aSk ?_
 refine aH2 ?_
 refine bY ?_
 refine ⟨by kernel_rfl,?_⟩
 refine aF ?_
 cases h6
 exact wk [0,1,2,3,4,5,6,7]
 refine bZ h5 rfl (fun hc h5 => ?_) (fun hc h5 => ?_)
 refine sr [0,1,2] (fa tok ?_)
 refine ld tok ?_
 refine pa (nx ?_)
 cases h5
 exact wk [0,1,2,3,4,5,6]
 refine sk ?_
 cases h5
 exact wk [0,1,2,3,4,5,6]
 refine sr [0,1,2,3,4] (rP rfl (aL (r := .own _ _ _) rfl) (pm ?_))
 refine rS rfl (tK tok cI [v64] rfl rfl rfl (by repeat (first | exact Els.nil _ | apply Els.cons (cs := [.d _]) rfl rfl rfl | apply Els.cons (cs := _ :: _) rfl rfl rfl)) rfl rfl rfl (by repeat (first | exact dG.nil | (apply dG.cons; (repeat (first | exact iZ.nil | apply iZ.cons))))) rfl) ?_
 obtain ⟨hq65,h4⟩ := cR h4
 refine rw1 rfl w0 rfl (gZ tok hq65 rfl rfl rfl rfl rfl rfl rfl rfl rfl rfl rfl rfl (fun _ => rfl)) (rP rfl (aS (r := .own _ _ _) rfl) (aV (aZ (aF (sr [0,1] (rP rfl (bD rfl rfl) (pm (aV ?_))))))))
 refine bX ?_
 cases h4
 refine ⟨_,rfl,?_⟩
 exact wk [0,1,2,3,4,5,6]
 refine bH (cC ?_)
 cases h4
 refine cA ⟨_,rfl,fun e => ?_⟩
 subst e
 refine aR ?_
 refine aZ (aF ?_)
 exact wk [0,1,2,3,4,5,6]
 refine sr [0,1] (rP rfl (bD rfl rfl) (pm (aV ?_)))
 refine bX ?_
 cases h2
 refine ⟨_,rfl,?_⟩
 exact wk [0,1,2,3,4,5,6]
 refine bH (cC ?_)
 cases h2
 refine cA ⟨_,rfl,fun e => ?_⟩
 subst e
 refine aR (aF ?_)
 exact wk [0,1,2,3,6]
 refine sq [0,1,2,3,4,5,6] (rP rfl (aL (r := .own _ _ _) rfl) (rL rfl (bO tok rfl rfl rfl rfl) (rP rfl (aL (r := .own _ _ _) rfl) ?_)))
 obtain ⟨v68,hv68,h0⟩ := bnd h0
 refine rS rfl (fU 5 (aAz hv68) rfl rfl) (rP rfl (aS (r := .own _ _ _) rfl) (pa ?_))
 refine pa (nx (aC ?_))
 cases h0
 exact fO (rs := [.tmp 4, .tmp 5, .tmp 6]) [4] rfl
theorem uJ {p0 : Int} {r : Int} (h0 : jP p0 = some r) : FnC Tryz.prog 214 [] [dI p0] [] (.d (.v (.int .u64 r))) := by
 refine fi 10 tok Tryz.func214 ?_
 unfold jP at h0
 refine sq [0] (pa (nx (aB (sq [0,1] ?_))))
 refine pm ?_
 refine rP rfl (bB rfl rfl) (nx ?_)
 refine bC h0 rfl (fun hc h0 => ?_) (fun hc h0 => ?_)
 refine sq [0,1,2,3] (pm ?_)
 refine rP rfl (aF4 tok rfl rfl rfl rfl rfl) (rP rfl (aJb rfl) (pa (nx (aC (aJ ?_)))))
 cases h0
 exact r0t 2 rfl
 refine sk (sq [0,1,2] (pm ?_))
 refine rP rfl (aF4 tok rfl rfl rfl rfl rfl) (pa (nx (aC ?_)))
 cases h0
 exact r0t 2 rfl
theorem aGn {p0 : Int} {p1 : Int} {r : aM × Bool} (h0 : oP p0 p1 = some r) : FnC Tryz.prog 145 [] [dI p0,(dI p1)] [] (.tup [.agg [dI r.1.Num,(dI r.1.Den)],(dB r.2)]) := by
 refine fi 51 tok Tryz.func145 ?_
 unfold oP at h0
 refine sq [0,1] (al 3 [z0,z0] tok ?_)
 refine pa (nx (sq [0,1,2,3,4,5] ?_))
 refine pm ?_
 obtain ⟨v1,hv1,h0⟩ := bnd h0
 refine rS rfl (aQ 4 (uJ hv1) rfl rfl rfl) (pm ?_)
 obtain ⟨v2,hv2,h0⟩ := bnd h0
 refine rS rfl (aQ 4 (uJ hv2) rfl rfl rfl) (pa ?_)
 refine pa (nx (sq [0,1,2,3] ?_))
 refine pm ?_
 refine pm ?_
 refine pa ?_
 refine pa (nx ?_)
 obtain ⟨v7,h1,h0⟩ := bnd h0
 refine bF ⟨aA (aA (aA (aA (aA (aA ((fun _ => .dead)) 0 (dI p0)) 1 (dI p1)) 4 (.ptr 3 0 1 0 0)) 6 (.d (.v (.int .u64 v1)))) 7 (.d (.v (.int .u64 v2)))) 8 (.d (.v (.int .u64 v7))),lks [.no, .no, .no, .live [⟨62,2, .av [[z0,z0]]⟩]]⟩ ?_ ?_
 refine aE ?_
 refine aY (fun s5 => ⟨aA (aA (aA (aA (aA (aA (aA ((fun _ => .dead)) 0 (dI p0)) 1 (dI p1)) 4 (.ptr 3 0 1 0 0)) 6 (.d (.v (.int .u64 v1)))) 7 (.d (.v (.int .u64 v2)))) 8 (.d (.v (.int .u64 s5.1)))) 9 (.d (.v (.int .u64 s5.2))),lks [.no, .no, .no, .live [⟨62,2, .av [[z0,z0]]⟩]]⟩) h1 ?_ (fun s5 y h2 => ?_)
 exact wk [0,1,2,3]
 refine aB (sq [0,1] (pm ?_))
 refine rP rfl (cQ rfl rfl) (nx ?_)
 refine bC h2 rfl (fun hc h2 => ?_) (fun hc h2 => ?_)
 refine sk (aE (aI (is := [0,1,2,3,4,5]) [0,0,0,6,3,31] follows (by kernel_rfl) ?_))
 iterate 3 refine tpm ?_
 obtain ⟨hq6,h2⟩ := cR h2
 refine tP rfl (lG rfl rfl hq6) (tpa ?_)
 refine tpa ?_
 refine bY ?_
 refine ⟨by kernel_rfl,?_⟩
 refine aZ (bX ?_)
 cases h2
 refine ⟨_,rfl,?_⟩
 exact wk [0,1,2,3]
 refine bH (cC ?_)
 cases h2
 refine cA ⟨_,rfl,fun e => ?_⟩
 subst e
 refine aR (aF ?_)
 exact wk [0,1,2,3]
 refine aB (aI (is := [0,1,2,3,4,5,6,7]) [0,0,3,0,0,24,7,127] follows (by kernel_rfl) (tpm ?_))
 refine tpm ?_
 obtain ⟨hq8,h0⟩ := cR h0
 refine tP rfl (zV rfl rfl hq8) (tpm ?_)
 refine tpm ?_
 obtain ⟨hq9,h0⟩ := cR h0
 refine tP rfl (zV rfl rfl hq9) (tpa ?_)
 refine tpa ?_
 refine bY ?_
 refine ⟨by kernel_rfl,?_⟩
 refine aF (aB ?_)
 obtain ⟨v10,h1,h0⟩ := bnd h0
 refine bF ⟨aA (aA (aA (aA (aA (aA ((fun _ => .dead)) 0 (dI p0)) 1 (dI p1)) 4 (.ptr 3 0 1 0 0)) 6 (.d (.v (.int .u64 (IntKind.u64.wrap (v1.tdiv v7)))))) 7 (.d (.v (.int .u64 (IntKind.u64.wrap (v2.tdiv v7)))))) 34 (dB v10),lks [.no, .no, .no, .live [⟨62,2, .av [[z0,z0]]⟩]]⟩ ?_ ?_
 refine sr [0,1,2,3,4,5] (pm ?_)
 refine rP rfl (gT rfl rfl) (pm ?_)
 refine jW (u := 31) h1 rfl (fun hc h1 => ?_) (fun hc h1 => ?_)
 refine k1 ?_
 refine k1 ?_
 refine pkt (nx ?_)
 cases h1
 exact wk [0,1,2,3]
 refine pm1 ?_
 refine rp rfl (w1 rfl rfl rfl) rfl (gT rfl rfl) (pkf (nx ?_))
 cases h1
 exact wk [0,1,2,3]
 refine bZ h0 rfl (fun hc h0 => ?_) (fun hc h0 => ?_)
 refine sq [0,1,2] (rP rfl (pbl (C0 := [z0,z0]) tok rfl rfl rfl) (bst tok ?_))
 refine pa (nx (aC (aJ ?_)))
 cases h0
 exact fR (rs := [.cell 4 62, .tmp 5]) rfl
 refine sk (sq [0,1,2,3,4,5,6] (pm ?_))
 refine rP rfl (aK3 tok rfl rfl rfl rfl rfl) (pm ?_)
 refine rP rfl (aK3 tok rfl rfl rfl rfl rfl) (rP rfl (pbl (C0 := [z0,z0]) tok rfl rfl rfl) (al 4 [z0,z0] tok ?_))
 refine bst tok (nx ?_)
 obtain ⟨v11,h1,h0⟩ := bnd h0
 refine bF ⟨aA (aA ((fun _ => .dead)) 4 (.ptr 3 0 1 0 0)) 10 (.ptr 4 0 1 0 0),lks [.no, .no, .no, .live [⟨62,2, .av [[z0,z0]]⟩], .live [⟨62,2, .av [[dI v11.Num,(dI v11.Den)]]⟩]]⟩ ?_ ?_
 refine sq [0,1,2,3,4] (pm ?_)
 refine rP rfl (bB rfl rfl) (pm ?_)
 refine rP rfl (bB rfl rfl) (rP rfl (aCq tok rfl rfl rfl rfl) (nx ?_))
 refine bZ h1 rfl (fun hc h1 => ?_) (fun hc h1 => ?_)
 refine sr [0,1,2,3,4] (fa tok ?_)
 refine ld tok ?_
 refine rP rfl (wL rfl) (fa tok ?_)
 refine bs1 tok (nx ?_)
 cases h1
 exact wk [0,1,2,3,4]
 refine sk ?_
 cases h1
 exact wk [0,1,2,3,4]
 refine sq [0,1,2] (rL rfl (bO tok rfl rfl rfl rfl) (bst tok ?_))
 refine pa (nx (aC ?_))
 cases h0
 exact fR (rs := [.cell 4 62, .tmp 5]) rfl
theorem nZ {p0 : Int} {p1 : Int} {r : aM × Int} (h0 : dY p0 p1 = some r) : FnC Tryz.prog 68 [] [dI p0,(dI p1)] [] (.tup [.agg [dI r.1.Num,(dI r.1.Den)],(dI r.2)]) := by
 refine fi 21 tok Tryz.func68 ?_
 unfold dY at h0
 refine sq [0,1] (al 3 [z0,z0] tok ?_)
 refine pa (nx (aB (sq [0,1] ?_)))
 refine pm ?_
 refine rP rfl (nD rfl rfl) (nx ?_)
 refine bC h0 rfl (fun hc h0 => ?_) (fun hc h0 => ?_)
 refine sq [0,1,2] (rP rfl (pbl (C0 := [z0,z0]) tok rfl rfl rfl) (bst tok ?_))
 refine pa (nx (aC (aJ ?_)))
 cases h0
 exact fR (rs := [.cell 4 62, .tmp 5]) rfl
 refine sk (sq [0,1,2,3,4,5,6,7,8] (pm ?_))
 refine pm ?_
 obtain ⟨v1,hv1,h0⟩ := bnd h0
 refine rS rfl (aQ 4 (aGn hv1) rfl rfl rfl) (rP rfl (aL (r := .tup _) rfl) (rP rfl (aW rfl rfl) (rP rfl (aW rfl rfl) (al 4 [z0,z0] tok ?_))))
 refine bst tok ?_
 refine pa (nx (aB (sq [0,1] ?_)))
 refine pm ?_
 refine rP rfl (cJ rfl) (nx ?_)
 refine bZ h0 rfl (fun hc h0 => ?_) (fun hc h0 => ?_)
 refine sq [0,1,2] (rP rfl (pbl (C0 := [z0,z0]) tok rfl rfl rfl) (bst tok ?_))
 refine pa (nx (aC (aJ ?_)))
 cases h0
 exact fR (rs := [.cell 4 62, .tmp 5]) rfl
 refine sk (sq [0,1,2] (rL rfl (bO tok rfl rfl rfl rfl) (bst tok ?_)))
 refine pa (nx (aC ?_))
 cases h0
 exact fR (rs := [.cell 4 62, .tmp 5]) rfl
theorem iU {p0 : aM} {r : Bool} (h0 : dU p0 = some r) : FnC Tryz.prog 152 [] [.agg [dI p0.Num,(dI p0.Den)]] [] (dB r) := by
 refine fi 19 tok Tryz.func152 ?_
 unfold dU at h0
 refine sq [0,1] (bxx 3 ?_)
 refine pa (nx (sq [0,1,2,3,4,5,6,7,8,9,10,11,12,13,14,15,16] ?_))
 refine fa tok ?_
 refine ld tok ?_
 obtain ⟨v1,hv1,h0⟩ := bnd h0
 refine rS rfl (aQ 4 (gS hv1) rfl rfl rfl) (pm ?_)
 refine fI (u := 6) h0 rfl (fun hc h0 => ?_) (fun hc h0 => ?_)
 refine fa1 tok ?_
 refine ld1 tok ?_
 obtain ⟨v2,hv2,h0⟩ := bnd h0
 refine rs rfl (w1 rfl rfl rfl) rfl (aQ 4 (gS hv2) rfl rfl rfl) (pkt ?_)
 refine pm ?_
 refine fI (u := 11) h0 rfl (fun hc h0 => ?_) (fun hc h0 => ?_)
 refine fa1 tok ?_
 refine ld1 tok ?_
 refine fa1 tok ?_
 refine ld1 tok ?_
 obtain ⟨v3,hv3,h0⟩ := bnd h0
 refine rs rfl (w1 rfl rfl rfl) rfl (aQ 4 (aB6 hv3) rfl rfl rfl) (rp rfl (w1 rfl rfl rfl) rfl (nD rfl rfl) (pkt ?_))
 refine pa (nx (aC ?_))
 cases h0
 exact r0t 2 rfl
 iterate 6 refine k1 ?_
 refine pkf ?_
 refine pa (nx (aC ?_))
 cases h0
 exact r0t 2 rfl
 iterate 3 refine k1 ?_
 refine pkf ?_
 refine pm ?_
 iterate 6 refine k1 ?_
 refine pkf ?_
 refine pa (nx (aC ?_))
 cases h0
 exact r0t 2 rfl
theorem vG {p0 : Int} {p1 : Int} {r : Bool} (h0 : nV p0 p1 = some r) : FnC Tryz.prog 257 [] [dI p0,(dI p1)] [] (dB r) := by
 refine fi 22 tok Tryz.func257 ?_
 unfold nV at h0
 refine sq [0] (pa (nx (sq [0,1,2,3,4,5,6,7,8,9,10,11,12,13,14,15,16,17] ?_)))
 refine pm ?_
 refine rP rfl (sJ rfl rfl) (pm ?_)
 refine jW (u := 7) h0 rfl (fun hc h0 => ?_) (fun hc h0 => ?_)
 refine pm1 ?_
 refine rp rfl (w1 rfl rfl rfl) rfl (jK rfl rfl) (pkt ?_)
 refine pm ?_
 refine jW (u := 11) h0 rfl (fun hc h0 => ?_) (fun hc h0 => ?_)
 refine pm1 ?_
 refine pm1 ?_
 refine rp rfl (w1 rfl rfl rfl) rfl (jK rfl rfl) (pkt ?_)
 refine pm ?_
 refine jW (u := 16) h0 rfl (fun hc h0 => ?_) (fun hc h0 => ?_)
 refine pm1 ?_
 refine pm1 ?_
 refine rp rfl (w1 rfl rfl rfl) rfl (bD rfl rfl) (rp rfl (w1 rfl rfl rfl) rfl (jK rfl rfl) (pkt ?_))
 refine pa (nx (aC ?_))
 cases h0
 exact r0t 4 rfl
 iterate 4 refine k1 ?_
 refine pkf ?_
 refine pa (nx (aC ?_))
 cases h0
 exact r0t 4 rfl
 iterate 3 refine k1 ?_
 refine pkf ?_
 refine pm ?_
 iterate 4 refine k1 ?_
 refine pkf ?_
 refine pa (nx (aC ?_))
 cases h0
 exact r0t 4 rfl
 refine k1 ?_
 refine k1 ?_
 refine pkf ?_
 refine pm ?_
 iterate 3 refine k1 ?_
 refine pkf ?_
 refine pm ?_
 iterate 4 refine k1 ?_
 refine pkf ?_
 refine pa (nx (aC ?_))
 cases h0
 exact r0t 4 rfl
theorem zI {p0 : gG} {r : Bool} (h0 : lR p0 = some r) : FnC Tryz.prog 215 [] [.agg [dI p0.LowDriver,(dI p0.HighDriver),(dI p0.LowDriven),(dI p0.HighDriven),(dI p0.Stages)]] [] (dB r) := by
 refine fi 20 tok Tryz.func215 ?_
 unfold lR at h0
 refine sq [0,1] (bxx 3 ?_)
 refine pa (nx (sq [0,1,2,3,4,5,6,7,8,9,10,11,12,13,14,15,16,17] ?_))
 refine fa tok ?_
 refine ld tok ?_
 refine fa tok ?_
 refine ld tok ?_
 obtain ⟨v1,hv1,h0⟩ := bnd h0
 refine rS rfl (aQ 4 (vG hv1) rfl rfl rfl) (pm ?_)
 refine fI (u := 8) h0 rfl (fun hc h0 => ?_) (fun hc h0 => ?_)
 refine fa1 tok ?_
 refine ld1 tok ?_
 refine fa1 tok ?_
 refine ld1 tok ?_
 obtain ⟨v2,hv2,h0⟩ := bnd h0
 refine rs rfl (w1 rfl rfl rfl) rfl (aQ 4 (vG hv2) rfl rfl rfl) (pkt ?_)
 refine pm ?_
 refine fI (u := 15) h0 rfl (fun hc h0 => ?_) (fun hc h0 => ?_)
 refine fa1 tok ?_
 refine ld1 tok ?_
 obtain ⟨v3,hv3,h0⟩ := bnd h0
 refine rs rfl (w1 rfl rfl rfl) rfl (aQ 4 (gS hv3) rfl rfl rfl) (pkt ?_)
 refine pa (nx (aC ?_))
 cases h0
 exact r0t 2 rfl
 iterate 3 refine k1 ?_
 refine pkf ?_
 refine pa (nx (aC ?_))
 cases h0
 exact r0t 2 rfl
 iterate 5 refine k1 ?_
 refine pkf ?_
 refine pm ?_
 iterate 3 refine k1 ?_
 refine pkf ?_
 refine pa (nx (aC ?_))
 cases h0
 exact r0t 2 rfl
theorem aFv {p0 : aM} {p1 : gG} {r : Int} (h0 : rC p0 p1 = some r) : FnC Tryz.prog 146 [] [.agg [dI p0.Num,(dI p0.Den)], .agg [dI p1.LowDriver,(dI p1.HighDriver),(dI p1.LowDriven),(dI p1.HighDriven),(dI p1.Stages)]] [] (dI r) := by
 refine fi 28 tok Tryz.func146 ?_
 unfold rC at h0
 refine sq [0,1,2] (bxx 3 ?_)
 refine bxx 4 ?_
 refine pa (nx (aB (aE ?_)))
 obtain ⟨v3,h1,h0⟩ := bnd h0
 refine bF ⟨aA (aA ((fun _ => .dead)) 2 (.ptr 3 0 1 0 0)) 5 (dB v3),lks [.no, .no, .no, .live [⟨62,2, .av [[dI p0.Num,(dI p0.Den)]]⟩]]⟩ ?_ ?_
 refine sr [0,1,2,3,4,5,6,7,8] (rL rfl (bO tok rfl rfl rfl rfl) ?_)
 obtain ⟨v1,hv1,h1⟩ := bnd h1
 refine rS rfl (aQ 5 (iU hv1) rfl rfl rfl) (rP rfl (cJ rfl) (pm ?_))
 refine fI (u := 9) h1 rfl (fun hc h1 => ?_) (fun hc h1 => ?_)
 iterate 3 refine k1 ?_
 refine pkt ?_
 refine pa (nx ?_)
 cases h1
 exact wk [0,1,2,3]
 refine rl rfl (w1 rfl rfl rfl) rfl (bO tok rfl rfl rfl rfl) ?_
 obtain ⟨v2,hv2,h1⟩ := bnd h1
 refine rs rfl (w1 rfl rfl rfl) rfl (aQ 5 (zI hv2) rfl rfl rfl) (rp rfl (w1 rfl rfl rfl) rfl (cJ rfl) (pkf ?_))
 refine pa (nx ?_)
 cases h1
 exact wk [0,1,2,3]
 refine bZ h0 rfl (fun hc h0 => ?_) (fun hc h0 => ?_)
 refine sq [0] (pa (nx (aC ?_)))
 refine bA (aJ ?_)
 cases h0
 exact r0t 4 rfl
 obtain ⟨v4,h1,h0⟩ := bnd h0
 refine bF ⟨aA ((fun _ => .dead)) 14 (dB v4),lks [.no, .no, .no]⟩ ?_ ?_
 refine sr [0,1,2,3,4,5,6,7,8,9,10,11,12,13] (fa tok ?_)
 refine ld tok ?_
 refine rP rfl (jK rfl rfl) (pm ?_)
 refine jW (u := 18) h1 rfl (fun hc h1 => ?_) (fun hc h1 => ?_)
 iterate 3 refine k1 ?_
 refine pkt ?_
 refine pm ?_
 iterate 3 refine k1 ?_
 refine pkt ?_
 refine pa (nx ?_)
 cases h1
 exact wk [0,1,2]
 refine fa1 tok ?_
 refine ld1 tok ?_
 refine rp rfl (w1 rfl rfl rfl) rfl (gT rfl rfl) (pkf ?_)
 refine pm ?_
 refine jW (u := 23) h1 rfl (fun hc h1 => ?_) (fun hc h1 => ?_)
 iterate 3 refine k1 ?_
 refine pkt ?_
 refine pa (nx ?_)
 cases h1
 exact wk [0,1,2]
 refine fa1 tok ?_
 refine ld1 tok ?_
 refine rp rfl (w1 rfl rfl rfl) rfl (gT rfl rfl) (pkf ?_)
 refine pa (nx ?_)
 cases h1
 exact wk [0,1,2]
 refine bZ h0 rfl (fun hc h0 => ?_) (fun hc h0 => ?_)
 refine sq [0] (pa (nx (aC ?_)))
 refine bA (aJ ?_)
 cases h0
 exact r0t 4 rfl
 refine cT (aZ (aF (sq [0] (pa (nx (aC ?_))))))
 cases h0
 exact r0t 4 rfl
theorem aBc {p0 p1 p2 : Int} {r : aA5} (h0 : mN p0 p1 p2 = some r) : FnC Tryz.prog 216 [] [dI p0,(dI p1),(dI p2)] [] (.agg [dL cI r.products, .d (.mp r.lists)]) := by
 obtain ⟨q0,h0⟩ := cR h0
 cases h0
 exact aQ4 q0
theorem qP {p0 : Int} {r : Bool} (h0 : gR p0 = some r) : FnC Tryz.prog 259 [] [dI p0] [] (dB r) := by
 refine fi 6 tok Tryz.func259 ?_
 unfold gR at h0
 refine sq [0] (pa (nx (sq [0,1,2,3] ?_)))
 refine pm ?_
 refine pm ?_
 refine rP rfl (cQ rfl rfl) (pa (nx (aC ?_)))
 cases h0
 exact r0t 2 rfl
theorem fK {p0 : Int} {p1 : Int} {r : Int} (h0 : cU p0 p1 = some r) : FnC Tryz.prog 219 [] [dI p0,(dI p1)] [] (dI r) := by
 refine fi 20 tok Tryz.func219 ?_
 unfold cU at h0
 refine sq [0] (pa (nx (sq [0,1,2] ?_)))
 refine pm ?_
 obtain ⟨v1,hv1,h0⟩ := bnd h0
 refine rS rfl (aQ 3 (qP hv1) rfl rfl rfl) (pa (nx (sq [0,1,2] ?_)))
 refine pm ?_
 obtain ⟨v2,hv2,h0⟩ := bnd h0
 refine rS rfl (aQ 3 (qP hv2) rfl rfl rfl) (pa (nx (aB (sq [0] ?_))))
 refine pm (nx ?_)
 refine bZ h0 rfl (fun hc h0 => ?_) (fun hc h0 => ?_)
 refine aB (sq [0] (pm (nx ?_)))
 refine bZ h0 rfl (fun hc h0 => ?_) (fun hc h0 => ?_)
 refine sq [0] (pa (nx (aC (aJ (aJ ?_)))))
 cases h0
 exact r0t 4 rfl
 refine sk (sq [0] (pa (nx (aC (aJ ?_)))))
 cases h0
 exact r0t 4 rfl
 refine sk (aB (sq [0] (pm (nx ?_))))
 refine bZ h0 rfl (fun hc h0 => ?_) (fun hc h0 => ?_)
 refine sq [0] (pa (nx (aC (aJ ?_))))
 cases h0
 exact r0t 4 rfl
 refine sk (aB (sq [0,1,2] (pm ?_)))
 refine pm ?_
 refine rP rfl (bB rfl rfl) (nx ?_)
 refine bC h0 rfl (fun hc h0 => ?_) (fun hc h0 => ?_)
 refine sq [0] (pa (nx (aC (aJ ?_))))
 cases h0
 exact r0t 4 rfl
 refine sk (aB (sq [0,1,2] (pm ?_)))
 refine pm ?_
 refine rP rfl (gT rfl rfl) (nx ?_)
 refine bC h0 rfl (fun hc h0 => ?_) (fun hc h0 => ?_)
 refine sq [0] (pa (nx (aC (aJ ?_))))
 cases h0
 exact r0t 4 rfl
 refine sk (sq [0] (pa (nx (aC ?_))))
 cases h0
 exact r0t 4 rfl
theorem sL {p0 : Int} {p1 : Int} {p2 : aM} {r : Int} (h0 : gK p0 p1 p2 = some r) : FnC Tryz.prog 218 [] [dI p0,(dI p1), .ref (aCo p2)] [] (dI r) := by
 refine fi 15 tok Tryz.func218 ?_
 unfold gK at h0
 refine sq [0] (pa (nx (sq [0,1,2,3,4,5,6,7,8,9] ?_)))
 refine pm ?_
 refine fr tok ?_
 refine lr tok ?_
 refine rP rfl (eH rfl rfl) (pm ?_)
 refine fr tok ?_
 refine lr tok ?_
 refine rP rfl (eH rfl rfl) ?_
 obtain ⟨v1,hv1,h0⟩ := bnd h0
 refine rS rfl (aQ 3 (fK hv1) rfl rfl rfl) (pa (nx (aC ?_)))
 cases h0
 exact r0t 5 rfl
theorem eJ {p0 : List Int} {p1 : Int} {p2_0 : aM} {r : Int × Bool} (h0 : bE p0 p1 p2_0 = some r) : FnC Tryz.prog 217 [] [dL cI p0,(dI p1), .fn 218 [.ref (aCo p2_0)]] [] (.tup [dI r.1,(dB r.2)]) := by
 refine fi 49 tok Tryz.func217 ?_
 unfold bE at h0
 refine sq [0,1] (pa ?_)
 refine pa (nx (sq [0,1,2] ?_))
 refine pm ?_
 refine rP rfl (aK tok rfl rfl rfl) (pa (nx (sq [0,1,2] ?_)))
 refine pm ?_
 refine pa ?_
 refine pa (nx ?_)
 obtain ⟨v9,h1,h0⟩ := bnd h0
 refine bF ⟨aA (aA (aA (aA (aA ((fun _ => .dead)) 0 (dL cI p0)) 1 (dI p1)) 2 (.fn 218 [.ref (aCo p2_0)])) 8 (dI (p0.length : Int))) 9 (dI v9),lks [.no, .no, .no]⟩ ?_ ?_
 refine aE ?_
 refine aY (fun s5 => ⟨aA (aA (aA (aA (aA (aA ((fun _ => .dead)) 0 (dL cI p0)) 1 (dI p1)) 2 (.fn 218 [.ref (aCo p2_0)])) 8 (dI (p0.length : Int))) 9 (dI s5.1)) 10 (dI s5.2),lks [.no, .no, .no]⟩) h1 ?_ (fun s5 y h2 => ?_)
 exact wk [0,1,2]
 refine aB (sq [0,1,2] (pm ?_))
 refine pm ?_
 refine rP rfl (bB rfl rfl) (nx ?_)
 refine bC h2 rfl (fun hc h2 => ?_) (fun hc h2 => ?_)
 refine sk (aE (sq [0,1,2,3,4,5,6] (pm ?_)))
 refine pm ?_
 refine rP rfl (bD rfl rfl) (rP rfl (aF4 tok rfl rfl rfl rfl rfl) (rP rfl (aQw rfl rfl (by decide)) (rP rfl (aK3 tok rfl rfl rfl rfl rfl) (pa (nx (sq [0,1,2,3,4,5,6,7] ?_))))))
 refine rP rfl (aL (r := .fn _ _) rfl) (pm ?_)
 refine pm ?_
 obtain ⟨v7,hv7,h2⟩ := bnd h2
 refine rP rfl (cG tok hv7 rfl rfl rfl rfl rfl rfl) (lr tok ?_)
 refine pm ?_
 obtain ⟨v8,hv8,h2⟩ := bnd h2
 refine rS rfl (aQ 3 (sL hv8) rfl rfl rfl) (rP rfl (bB rfl rfl) (nx ?_))
 refine bC h2 rfl (fun hc h2 => ?_) (fun hc h2 => ?_)
 refine sr [0,1,2] (pm ?_)
 refine rP rfl (bD rfl rfl) (pa (aV ?_))
 refine aZ (bX ?_)
 cases h2
 refine ⟨_,rfl,?_⟩
 exact wk [0,1,2]
 refine sr [0,1] (pm ?_)
 refine pa (aV ?_)
 refine aZ (bX ?_)
 cases h2
 refine ⟨_,rfl,?_⟩
 exact wk [0,1,2]
 refine bH (cC ?_)
 cases h2
 refine cA ⟨_,rfl,fun e => ?_⟩
 subst e
 refine aR (aF ?_)
 exact wk [0,1,2]
 refine sq [0,1,2,3,4,5,6,7,8,9,10,11,12,13,14,15] ?_
 iterate 3 refine pm ?_
 refine rP rfl (bB rfl rfl) (pm ?_)
 refine jW (u := 39) h0 rfl (fun hc h0 => ?_) (fun hc h0 => ?_)
 refine rp rfl (w1 rfl rfl rfl) rfl (aL (r := .fn _ _) rfl) (pm1 ?_)
 refine pm1 ?_
 obtain ⟨v10,hv10,h0⟩ := bnd h0
 refine rp rfl (w1 rfl rfl rfl) rfl (cG tok hv10 rfl rfl rfl rfl rfl rfl) (lr1 tok ?_)
 refine pm1 ?_
 obtain ⟨v11,hv11,h0⟩ := bnd h0
 refine rs rfl (w1 rfl rfl rfl) rfl (aQ 3 (sL hv11) rfl rfl rfl) (rp rfl (w1 rfl rfl rfl) rfl (nD rfl rfl) (pkt ?_))
 refine pa ?_
 refine pa (nx (aC ?_))
 cases h0
 exact fR (rs := [.tmp 6, .tmp 7]) rfl
 iterate 8 refine k1 ?_
 refine pkf ?_
 refine pa ?_
 refine pa (nx (aC ?_))
 cases h0
 exact fR (rs := [.tmp 6, .tmp 7]) rfl
theorem aF9 {p0 : Int} {r : Int} (h0 : tW p0 = some r) : FnC Tryz.prog 78 [] [dI p0] [] (dI r) := by
 refine fi 8 tok Tryz.func78 ?_
 unfold tW at h0
 refine sq [0] (pa (nx (aB (sq [0,1] ?_))))
 refine pm ?_
 refine rP rfl (bB rfl rfl) (nx ?_)
 refine bC h0 rfl (fun hc h0 => ?_) (fun hc h0 => ?_)
 refine sq [0,1,2] (pm ?_)
 refine rP rfl (wL rfl) (pa (nx (aC (aJ ?_))))
 cases h0
 exact r0t 2 rfl
 refine sk (sq [0,1] (pm ?_))
 refine pa (nx (aC ?_))
 cases h0
 exact r0t 2 rfl
theorem aIw {p0 : Int} {p1 : Int} {p2 : aM} {r : jI} (h0 : tC p0 p1 p2 = some r) : FnC Tryz.prog 220 [] [dI p0,(dI p1), .agg [dI p2.Num,(dI p2.Den)]] [] (.agg [dI r.p,(dI r.q),(dI r.far)]) := by
 refine fi 20 tok Tryz.func220 ?_
 unfold tC at h0
 refine sq [0,1] (bxx 3 ?_)
 refine al 4 [z0,z0,z0] tok (nx (sq [0,1,2,3,4,5,6,7,8,9,10,11,12,13] ?_))
 iterate 3 refine pm ?_
 refine fa tok ?_
 refine ld tok ?_
 refine rP rfl (eH rfl rfl) (pm ?_)
 refine fa tok ?_
 refine ld tok ?_
 refine rP rfl (eH rfl rfl) (rP rfl (iX rfl rfl) ?_)
 obtain ⟨v1,hv1,h0⟩ := bnd h0
 refine rS rfl (aQ 5 (aF9 hv1) rfl rfl rfl) (rP rfl (pbl (C0 := [z0,z0,z0]) tok rfl rfl rfl) (bst tok (nx (aC ?_))))
 cases h0
 exact fR (rs := [.cell 6 252]) rfl
theorem tQ {p0 : jI} {p1 : jI} {r : Int} (h0 : eX p0 p1 = some r) : FnC Tryz.prog 221 [] [.agg [dI p0.p,(dI p0.q),(dI p0.far)], .agg [dI p1.p,(dI p1.q),(dI p1.far)]] [] (dI r) := by
 refine fi 16 tok Tryz.func221 ?_
 unfold eX at h0
 refine sq [0,1,2] (bxx 3 ?_)
 refine bxx 4 ?_
 refine pa (nx (sq [0,1,2,3,4,5,6,7,8,9,10,11] ?_))
 refine fa tok ?_
 refine ld tok ?_
 refine fa tok ?_
 refine ld tok ?_
 refine rP rfl (eH rfl rfl) (fa tok ?_)
 refine ld tok ?_
 refine fa tok ?_
 refine ld tok ?_
 refine rP rfl (eH rfl rfl) ?_
 obtain ⟨v1,hv1,h0⟩ := bnd h0
 refine rS rfl (aQ 5 (fK hv1) rfl rfl rfl) (pa (nx (aC ?_)))
 cases h0
 exact r0t 4 rfl
theorem fJ {p0 : List Int} {r : List Int} (h0 : cF p0 = some r) : FnC Tryz.prog 130 [] [dL cI p0] [.live [⟨2,1, .data (List.map cI r)⟩]] (.own 0 0 r.length) := by
 refine fi 8 tok Tryz.func130 ?_
 unfold cF at h0
 obtain ⟨hq1,h0⟩ := cR h0
 cases h0
 refine yD (d := 0) rfl rfl (fun hne => ?_) (fun he A k hk => ?_)
 ·skip
  refine aB (bQ (is := [0]) rfl (rP rfl (aS (r := .d _) rfl) (aV (aF (aB (aB (bQ (is := [0,1]) rfl (rP rfl (aL (r := .d _) rfl) (rP rfl (oI tok rfl hne rfl rfl rfl) (aV (aF (nC rfl (cT (aF (aB (bQ (is := [0,1,2,3]) rfl (rS rfl (eT 3 tok rfl rfl rfl rfl) (rP rfl (aL (r := .d _) rfl) (rw1 rfl w0 rfl (gZ tok hq1 rfl rfl rfl rfl rfl rfl rfl rfl rfl rfl rfl rfl (fun _ => rfl)) (rP rfl (aS (r := .own _ _ _) rfl) (aV (aF (aC ?_)))))))))))))))))))))))
  exact fO (rs := [.tmp 2]) [3] rfl
 ·skip
  have he : p0 = [] := List.map_eq_nil_iff.1 he
  subst he
  cases A with
  | none =>
   refine aB (bQ (is := [0]) rfl (rP rfl (aS (r := .d _) rfl) (aV (aF (aB (aB (bQ (is := [0,1]) rfl (rP rfl (aL (r := .d _) rfl) (rP rfl (jS tok rfl rfl rfl rfl) (aV (aF (uH rfl (aB (bQ (is := [0]) rfl (rP rfl (aS (r := .d _) rfl) (aV (aF (cM (dQ 3 rfl 2 1 (d := 2) rfl) (aC (aJ ?_))))))))))))))))))))
   exact fO (rs := [.tmp 2]) [3] rfl
  | some a =>
   refine aB (bQ (is := [0]) rfl (rP rfl (aS (r := .d _) rfl) (aV (aF (aB (aB (bQ (is := [0,1]) rfl (rP rfl (aL (r := .d _) rfl) (rP rfl (jS tok rfl rfl rfl rfl) (aV (aF (nC rfl (cT (aF (cM (uU cI (d := 0) rfl hk) (aB (bQ (is := [0,1,2,3]) rfl (rS rfl (eT 3 tok rfl rfl rfl rfl) (rP rfl (aL (r := .d _) rfl) (rw1 rfl w0 rfl (gZ tok hq1 rfl rfl rfl rfl rfl rfl rfl rfl rfl rfl rfl rfl (fun _ => rfl)) (rP rfl (aS (r := .own _ _ _) rfl) (aV (aF (aC ?_))))))))))))))))))))))))
   exact fO (rs := [.tmp 2]) [3] rfl
theorem lY {p0 : List Int} {r : List Int} (h0 : dK p0 = some r) : FnC Tryz.prog 260 [.live [⟨2,1, .data (List.map cI p0)⟩]] [.own 0 0 (p0).length] [.live [⟨2,1, .data (List.map cI r)⟩]] (.tup []) := by
 refine fi 28 tok Tryz.func260 ?_
 unfold dK at h0
 refine sq [0,1,2,3,4] (rP rfl (aL (r := .own _ _ _) rfl) (rL rfl (nG tok rfl rfl rfl rfl rfl) (rP rfl (iX rfl rfl) (pa ?_))))
 refine pa (nx (aE ?_))
 refine aY (fun s6 => ⟨aA (aA (aA ((fun _ => .dead)) 0 (.own 0 0 (s6.2.2).length)) 2 (dI s6.1)) 3 (dI s6.2.1),lks [.live [⟨2,1, .data (List.map cI s6.2.2)⟩], .no, .no]⟩) h0 ?_ (fun s6 y h1 => ?_)
 exact wk [0,1,2]
 refine aB (sq [0,1,2] (pm ?_))
 refine pm ?_
 refine rP rfl (bB rfl rfl) (nx ?_)
 refine bC h1 rfl (fun hc h1 => ?_) (fun hc h1 => ?_)
 refine sk (aB (aE (aI (is := [0,1,2,3,4,5,6,7,8,9,10,11,12,13,14,15]) [0,0,0,0,0,0,48,112,0,0,768,1792,4083,8179,16383,32767] follows (by kernel_rfl) (tP rfl (aL (r := .own _ _ _) rfl) (tpm ?_)))))
 refine tP rfl (aL (r := .own _ _ _) rfl) (tpm ?_)
 refine tP rfl (aL (r := .own _ _ _) rfl) (tpm ?_)
 obtain ⟨v7,hv7,h1⟩ := bnd h1
 refine dT rfl w0 rfl (jB tok hv7 rfl rfl rfl rfl rfl rfl rfl rfl) rfl rfl rfl (dT rfl w0 rfl (oN tok (eB hv7).2.1 rfl rfl rfl rfl rfl rfl) rfl rfl rfl (tP rfl (aL (r := .own _ _ _) rfl) (tpm ?_)))
 obtain ⟨v8,hv8,h1⟩ := bnd h1
 refine dT rfl w0 rfl (jB tok hv8 rfl rfl rfl rfl rfl rfl rfl rfl) rfl rfl rfl (dT rfl w0 rfl (oN tok (eB hv8).2.1 rfl rfl rfl rfl rfl rfl) rfl rfl rfl ?_)
 obtain ⟨v9,hv9,h1⟩ := bnd h1
 refine dT rfl w0 rfl (jB tok hv9 rfl rfl rfl rfl rfl rfl rfl rfl) rfl rfl rfl (uQ rfl w0 (sR (cs := [.d _]) tok v7 (eB hv9).2.1 rfl rfl rfl rfl rfl rfl rfl rfl) ?_)
 obtain ⟨v10,hv10,h1⟩ := bnd h1
 refine dT rfl w0 rfl (jB tok hv10 rfl rfl rfl rfl rfl rfl (by first | (simp; done) | omega | (simp; omega)) rfl) rfl rfl rfl (uQ rfl w0 (sR (cs := [.d _]) tok v8 (eB hv10).2.1 rfl rfl rfl rfl rfl rfl rfl (by first | (simp; done) | omega | (simp; omega))) (bY ?_))
 refine ⟨by kernel_rfl,?_⟩
 refine aZ (aF (sr [0,1,2,3,4,5] (pm ?_)))
 refine rP rfl (bD rfl rfl) (pm ?_)
 refine rP rfl (iX rfl rfl) (pa ?_)
 refine pa (aV ?_)
 refine bX ?_
 cases h1
 refine ⟨_,rfl,?_⟩
 exact wk [0,1,2]
 refine bH (cC ?_)
 cases h1
 refine cA ⟨_,rfl,fun e => ?_⟩
 subst e
 refine aR ?_
 exact xM (rs := []) 1 rfl rfl
theorem aIn {p0 : List Int} {p1 : List Int} {r : List bL} (h0 : tA p0 p1 = some r) : FnC Tryz.prog 261 [] [dL cI p0,(dL cI p1)] [.live [⟨121,2, .data (List.map bU r)⟩]] (.own 0 0 r.length) := by
 refine fi 26 tok Tryz.func261 ?_
 unfold tA at h0
 refine sq [0] (pa (nx (sq [0] ?_)))
 refine pa (nx ?_)
 obtain ⟨v9,h1,h0⟩ := bnd h0
 refine bF ⟨aA ((fun _ => .dead)) 5 (.own 3 0 (v9).length),lks [.no, .no, .no, .live [⟨121,2, .data (List.map bU v9)⟩]]⟩ ?_ ?_
 refine sq [0,1,2] (pm ?_)
 refine rP rfl (aK tok rfl rfl rfl) (pm (nx (aE ?_)))
 refine aY (fun s5 => ⟨aA (aA (aA (aA (aA ((fun _ => .dead)) 0 (dL cI p0)) 1 (dL cI p1)) 5 (.own 3 0 (s5.2).length)) 8 (dI (p0.length : Int))) 9 (dI s5.1),lks [.no, .no, .no, .live [⟨121,2, .data (List.map bU s5.2)⟩]]⟩) h1 ?_ (fun s5 y h2 => ?_)
 refine lW.trans_ (dQ 3 rfl 121 2 (d := 5) rfl) ?_
 exact wk [0,1,2,3]
 refine sq [0] (rP rfl (bB rfl rfl) (nx (aB ?_)))
 refine bC h2 rfl (fun hc h2 => ?_) (fun hc h2 => ?_)
 refine sk (aB (aE (sq [0,1] (pm ?_))))
 refine pa (nx ?_)
 refine aI (is := [0,1,2,3,4,5,6,7,8,9,10,11,12]) [0,0,0,6,14,0,0,96,224,510,1022,2047,4095] follows (by kernel_rfl) (tP rfl (aL (r := .own _ _ _) rfl) (tpm ?_))
 refine tpm ?_
 obtain ⟨v6,hv6,h2⟩ := bnd h2
 refine tP rfl (cG tok hv6 rfl rfl rfl rfl rfl rfl) (tlr tok ?_)
 refine tpm ?_
 refine tpm ?_
 obtain ⟨v7,hv7,h2⟩ := bnd h2
 refine tP rfl (cG tok hv7 rfl rfl rfl rfl rfl rfl) (tlr tok ?_)
 refine tP rfl (pbl (C0 := [z0,z0]) tok rfl rfl rfl) (aPv rfl w0 rfl (tK tok bU [(⟨v6,v7⟩ : bL)] rfl rfl rfl (by repeat (first | exact Els.nil _ | apply Els.cons (cs := [.d _]) rfl rfl rfl | apply Els.cons (cs := _ :: _) rfl rfl rfl)) rfl rfl rfl (by repeat (first | exact dG.nil | (apply dG.cons; (repeat (first | exact iZ.nil | apply iZ.cons))))) rfl) ?_)
 obtain ⟨hq8,h2⟩ := cR h2
 refine wP rfl w0 rfl (gZ tok hq8 rfl rfl rfl rfl rfl rfl rfl rfl rfl rfl rfl rfl (fun _ => rfl)) (tP rfl (aS (r := .own _ _ _) rfl) (bY ?_))
 refine ⟨by kernel_rfl,?_⟩
 refine aZ (aF (sr [0,1] (rP rfl (bD rfl rfl) (pm (aV ?_)))))
 refine bX ?_
 cases h2
 refine ⟨_,rfl,?_⟩
 exact wk [0,1,2,3]
 refine bH (cC ?_)
 cases h2
 refine cA ⟨_,rfl,fun e => ?_⟩
 subst e
 refine aR (aF ?_)
 exact wk [0,1,2,3]
 refine sq [0,1] (rP rfl (aL (r := .own _ _ _) rfl) (rP rfl (aS (r := .own _ _ _) rfl) (nx (aC ?_))))
 cases h0
 exact fO (rs := [.tmp 4]) [3] rfl
theorem aCg {p0 : List Int} {p1 : List Int} {r : List bL} (h0 : hZ p0 p1 = some r) : FnC Tryz.prog 222 [] [dL cI p0,(dL cI p1)] [.live [⟨121,2, .data (List.map bU r)⟩]] (.own 0 0 r.length) := by
 refine fi 13 tok Tryz.func222 ?_
 unfold hZ at h0
 refine sq [0] (pa (nx (sq [0,1,2] ?_)))
 refine pm ?_
 obtain ⟨v1,hv1,h0⟩ := bnd h0
 refine rS rfl (aQ 3 (fJ hv1) rfl rfl rfl) (rP rfl (aS (r := .own _ _ _) rfl) (nx (sq [0,1] (rP rfl (aL (r := .own _ _ _) rfl) ?_))))
 obtain ⟨v2,hv2,h0⟩ := bnd h0
 obtain ⟨hq3,h0⟩ := cR h0
 refine rw1 rfl w0 rfl (qE [3] 300 (lY hv2) rfl rfl) (nx (sq [0,1,2,3] (rP rfl (aL (r := .own _ _ _) rfl) (pm ?_))))
 obtain ⟨v4,hv4,h0⟩ := bnd h0
 refine rS rfl (fU 4 (aIn hv4) rfl rfl) (rP rfl (aS (r := .own _ _ _) rfl) (nx (aC ?_)))
 cases h0
 exact fO (rs := [.tmp 4]) [4] rfl
theorem aAe {p0 : List bL} {r : Int} (h0 : kI p0 = some r) : FnC Tryz.prog 262 [] [dL bU p0] [] (dI r) := by
 refine fi 21 tok Tryz.func262 ?_
 unfold kI at h0
 refine sq [0] (pa (nx (sq [0] ?_)))
 refine pa (nx ?_)
 obtain ⟨v5,h1,h0⟩ := bnd h0
 refine bF ⟨aA ((fun _ => .dead)) 3 (dI v5),lks [.no, .no, .no]⟩ ?_ ?_
 refine sq [0,1,2] (pm ?_)
 refine rP rfl (aK tok rfl rfl rfl) (pm (nx (aE ?_)))
 refine aY (fun s3 => ⟨aA (aA (aA (aA ((fun _ => .dead)) 3 (dI s3.1)) 6 (dL bU p0)) 7 (dI (p0.length : Int))) 8 (dI s3.2),lks [.no, .no, .no]⟩) h1 ?_ (fun s3 y h2 => ?_)
 exact wk [0,1,2]
 refine sq [0] (rP rfl (bB rfl rfl) (nx (aB ?_)))
 refine bC h2 rfl (fun hc h2 => ?_) (fun hc h2 => ?_)
 refine sk (aB (aE (sq [0,1,2,3] ?_)))
 obtain ⟨v4,hv4,h2⟩ := bnd h2
 refine rP rfl (cG tok hv4 rfl rfl rfl rfl rfl rfl) (rP rfl (bR tok rfl rfl rfl (by repeat (first | exact kE.z _ | apply kE.t))) (al 3 [z0,z0] tok ?_))
 refine bst tok (nx (sr [0,1,2,3,4,5,6,7] ?_))
 refine pm ?_
 refine fa tok ?_
 refine ld tok ?_
 refine fa tok ?_
 refine ld tok ?_
 refine rP rfl (bD rfl rfl) (rP rfl (bD rfl rfl) (pa (aV ?_)))
 refine aZ (aF (sr [0,1] (rP rfl (bD rfl rfl) (pm (aV ?_)))))
 refine bX ?_
 cases h2
 refine ⟨_,rfl,?_⟩
 exact wk [0,1,2]
 refine bH (cC ?_)
 cases h2
 refine cA ⟨_,rfl,fun e => ?_⟩
 subst e
 refine aR (aF ?_)
 exact wk [0,1,2]
 refine sq [0,1] (pm ?_)
 refine pa (nx (aC ?_))
 cases h0
 exact r0t 2 rfl
theorem aEy {p0 : List Int} {r : Int} (h0 : kO p0 = some r) : FnC Tryz.prog 265 [] [dL cI p0] [] (dI r) := by
 refine fi 18 tok Tryz.func265 ?_
 unfold kO at h0
 refine sq [0] (pa (nx (sq [0] ?_)))
 refine pa (nx ?_)
 obtain ⟨v5x,h1,h0⟩ := bnd h0
 refine eL v5x (fun v5 => ⟨aA ((fun _ => .dead)) 3 (z0),lks [.no, .no, .no]⟩) ?_ ?_
 refine sq [0,1,2] (pm ?_)
 refine rP rfl (aK tok rfl rfl rfl) (pm (nx (aE ?_)))
 refine aY (fun s3 => ⟨aA (aA (aA (aA ((fun _ => .dead)) 3 (z0)) 6 (dL cI p0)) 7 (dI (p0.length : Int))) 8 (dI s3),lks [.no, .no, .no]⟩) h1 ?_ (fun s3 y h2 => ?_)
 exact wk [0,1,2]
 refine sq [0] (rP rfl (bB rfl rfl) (nx (aB ?_)))
 refine bC h2 rfl (fun hc h2 => ?_) (fun hc h2 => ?_)
 refine sk (aB (aE (sq [0,1,2] ?_)))
 obtain ⟨v4,hv4,h2⟩ := bnd h2
 refine rP rfl (cG tok hv4 rfl rfl rfl rfl rfl rfl) (lr tok ?_)
 refine pa (nx (sq [0,1,2] ?_))
 refine pm ?_
 refine pm ?_
 refine rP rfl (cQ rfl rfl) (nx ?_)
 refine bC h2 rfl (fun hc h2 => ?_) (fun hc h2 => ?_)
 refine sq [0,1] (pm ?_)
 refine pa (nx (aC ?_))
 refine bA (aJ ?_)
 cases h2
 refine dZ ⟨_,rfl,fun e => ?_⟩
 subst e
 refine bA ?_
 replace h0 := gU h0
 refine aJ ?_
 cases h0
 exact r0t 2 rfl
 refine cT (aZ (aF (sr [0,1] (rP rfl (bD rfl rfl) (pm (aV ?_))))))
 refine bX ?_
 cases h2
 refine ⟨_,rfl,?_⟩
 exact wk [0,1,2]
 refine bH (cC ?_)
 cases h2
 refine cA ⟨_,rfl,fun e => ?_⟩
 subst e
 refine aR (aF ?_)
 refine ⟨_,rfl,?_⟩
 exact wk [0,1,2]
 rintro v5 rfl
 replace h0 := nN h0
 refine sq [0,1] (pm ?_)
 refine pa (nx (aC ?_))
 cases h0
 exact r0t 2 rfl
theorem uA {p0 : bL} {p1 : bL} {r : Int} (h0 : dP p0 p1 = some r) : FnC Tryz.prog 264 [] [.agg [dI p0.Driver,(dI p0.Driven)], .agg [dI p1.Driver,(dI p1.Driven)]] [] (dI r) := by
 refine fi 17 tok Tryz.func264 ?_
 unfold dP at h0
 refine sq [0,1,2] (bxx 3 ?_)
 refine bxx 4 ?_
 refine pa (nx (aB ?_))
 refine aI (is := [0,1,2,3,5,6,7,8,4,9,10,11,12]) [0,1,0,4,15,0,32,0,128,511,1023,2047,4095] follows (by kernel_rfl) (tfa tok ?_)
 refine tld tok ?_
 refine tfa tok ?_
 refine tld tok ?_
 refine tfa tok ?_
 refine tld tok ?_
 refine tfa tok ?_
 refine tld tok ?_
 obtain ⟨v1,hv1,h0⟩ := bnd h0
 refine oH rfl w0 rfl (dJ 6 (fK hv1) rfl rfl rfl) ?_
 obtain ⟨v2,hv2,h0⟩ := bnd h0
 refine oH rfl w0 rfl (dJ 6 (fK hv2) rfl rfl rfl) (aDc rfl w0 rfl rfl (fun hx hk => vJ 5 tok cI [v1,v2] rfl rfl rfl (by repeat (first | exact Els.nil _ | apply Els.cons (cs := [.d _]) rfl rfl rfl | apply Els.cons (cs := _ :: _) rfl rfl rfl)) rfl rfl rfl (by repeat (first | exact dG.nil | (apply dG.cons; (repeat (first | exact iZ.nil | apply iZ.cons))))) rfl hk) ?_)
 obtain ⟨v3,hv3,h0⟩ := bnd h0
 refine oH rfl w0 rfl (dJ 6 (aEy hv3) rfl rfl rfl) (tpa ?_)
 refine bY ?_
 refine ⟨by kernel_rfl,?_⟩
 refine aF (aC ?_)
 cases h0
 exact r0t 4 rfl
theorem eC {p0 : List bL} {p1 : List bL} {r : Int} (h0 : aX p0 p1 = some r) : FnC Tryz.prog 263 [] [dL bU p0,(dL bU p1), .fn 264 []] [] (dI r) := by
 refine fi 39 tok Tryz.func263 ?_
 unfold aX at h0
 refine sq [0] (pa (nx ?_))
 obtain ⟨v9x,h1,h0⟩ := bnd h0
 refine eL v9x (fun v9 => ⟨aA (aA ((fun _ => .dead)) 0 (dL bU p0)) 1 (dL bU p1),lks [.no, .no, .no]⟩) ?_ ?_
 refine sq [0,1,2] (pm ?_)
 refine rP rfl (aK tok rfl rfl rfl) (pm (nx (aE ?_)))
 refine aY (fun s5 => ⟨aA (aA (aA (aA (aA (aA ((fun _ => .dead)) 0 (dL bU p0)) 1 (dL bU p1)) 2 (.fn 264 [])) 11 (dL bU p0)) 12 (dI (p0.length : Int))) 13 (dI s5),lks [.no, .no, .no]⟩) h1 ?_ (fun s5 y h2 => ?_)
 exact wk [0,1,2]
 refine sq [0] (rP rfl (bB rfl rfl) (nx (aB ?_)))
 refine bC h2 rfl (fun hc h2 => ?_) (fun hc h2 => ?_)
 refine sk (aB (aE (sq [0,1,2,3,4,5] (pm ?_))))
 obtain ⟨v6,hv6,h2⟩ := bnd h2
 refine rP rfl (cG tok hv6 rfl rfl rfl rfl rfl rfl) (rP rfl (bR tok rfl rfl rfl (by repeat (first | exact kE.z _ | apply kE.t))) (al 3 [z0,z0] tok ?_))
 refine pa ?_
 refine bst tok (nx (aB (sq [0,1,2,3] ?_)))
 refine pm ?_
 refine pm ?_
 refine rP rfl (aK tok rfl rfl rfl) (rP rfl (sJ rfl rfl) (nx ?_))
 refine bC h2 rfl (fun hc h2 => ?_) (fun hc h2 => ?_)
 refine sq [0] (pa (nx (aC (aJ ?_))))
 refine bA (aJ ?_)
 cases h2
 refine dZ ⟨_,rfl,fun e => ?_⟩
 subst e
 refine bA ?_
 replace h0 := gU h0
 refine aJ ?_
 cases h0
 exact r0t 6 rfl
 refine sk (sq [0,1,2,3,4,5] (pm ?_))
 refine pm ?_
 obtain ⟨v7,hv7,h2⟩ := bnd h2
 refine rP rfl (cG tok hv7 rfl rfl rfl rfl rfl rfl) (rP rfl (bR tok rfl rfl rfl (by repeat (first | exact kE.z _ | apply kE.t))) (al 4 [z0,z0] tok ?_))
 refine bst tok (nx (sq [0,1,2,3,4] ?_))
 refine rP rfl (aL (r := .fn _ _) rfl) (rL rfl (bO tok rfl rfl rfl rfl) (rL rfl (bO tok rfl rfl rfl rfl) ?_))
 obtain ⟨v8,hv8,h2⟩ := bnd h2
 refine rS rfl (aQ 5 (uA hv8) rfl rfl rfl) (pa (nx (sq [0,1] ?_)))
 refine pm ?_
 refine rP rfl (cQ rfl rfl) (nx ?_)
 refine bC h2 rfl (fun hc h2 => ?_) (fun hc h2 => ?_)
 refine sq [0,1] (pm ?_)
 refine pa (nx (aC ?_))
 refine bA (aJ ?_)
 cases h2
 refine dZ ⟨_,rfl,fun e => ?_⟩
 subst e
 refine bA ?_
 replace h0 := gU h0
 refine aJ ?_
 cases h0
 exact r0t 6 rfl
 refine cT (aZ (aF (sr [0,1] (rP rfl (bD rfl rfl) (pm (aV ?_))))))
 refine bX ?_
 cases h2
 refine ⟨_,rfl,?_⟩
 exact wk [0,1,2]
 refine bH (cC ?_)
 cases h2
 refine cA ⟨_,rfl,fun e => ?_⟩
 subst e
 refine aR (aF ?_)
 refine ⟨_,rfl,?_⟩
 exact wk [0,1,2]
 rintro v9 rfl
 replace h0 := nN h0
 refine aB (sq [0,1,2,3,4] (pm ?_))
 refine rP rfl (aK tok rfl rfl rfl) (pm ?_)
 refine rP rfl (aK tok rfl rfl rfl) (rP rfl (bB rfl rfl) (nx ?_))
 refine bC h0 rfl (fun hc h0 => ?_) (fun hc h0 => ?_)
 refine sq [0] (pa (nx (aC (aJ ?_))))
 cases h0
 exact r0t 6 rfl
 refine sk (sq [0] (pa (nx (aC ?_))))
 cases h0
 exact r0t 6 rfl
theorem wD {p0 : List bL} {p1 : List bL} {r : Int} (h0 : gO p0 p1 = some r) : FnC Tryz.prog 223 [] [dL bU p0,(dL bU p1)] [] (dI r) := by
 refine fi 17 tok Tryz.func223 ?_
 unfold gO at h0
 refine sq [0] (pa (nx (aB (sq [0,1,2,3,4,5] ?_))))
 refine pm ?_
 obtain ⟨v1,hv1,h0⟩ := bnd h0
 refine rS rfl (aQ 3 (aAe hv1) rfl rfl rfl) (pm ?_)
 obtain ⟨v2,hv2,h0⟩ := bnd h0
 refine rS rfl (aQ 3 (aAe hv2) rfl rfl rfl) ?_
 obtain ⟨v3,hv3,h0⟩ := bnd h0
 refine rS rfl (aQ 3 (fK hv3) rfl rfl rfl) (pa (nx (sq [0,1] ?_)))
 refine pm ?_
 refine rP rfl (cQ rfl rfl) (nx ?_)
 refine bC h0 rfl (fun hc h0 => ?_) (fun hc h0 => ?_)
 refine sq [0,1] (pm ?_)
 refine pa (nx (aC (aJ ?_)))
 cases h0
 exact r0t 4 rfl
 refine sk (sq [0,1,2,3] (pm ?_))
 refine pm ?_
 obtain ⟨v4,hv4,h0⟩ := bnd h0
 refine rS rfl (aQ 3 (eC hv4) rfl rfl rfl) (pa (nx (aC ?_)))
 cases h0
 exact r0t 4 rfl
theorem aDa {p0 : aM} {p1 : gG} {r : List bL} (h0 : jT p0 p1 = some r) : FnC Tryz.prog 147 [] [.agg [dI p0.Num,(dI p0.Den)], .agg [dI p1.LowDriver,(dI p1.HighDriver),(dI p1.LowDriven),(dI p1.HighDriven),(dI p1.Stages)]] [] (dL bU r) := by
 refine fi 143 tok Tryz.func147 ?_
 unfold jT at h0
 refine sq [0,1,2] (bxx 3 ?_)
 refine bxx 4 ?_
 refine pa (nx (sq [0,1,2,3,4,5,6,7,8] ?_))
 refine fa tok ?_
 refine ld tok ?_
 refine fa tok ?_
 refine ld tok ?_
 refine fa tok ?_
 refine ld tok ?_
 obtain ⟨v1,hv1,h0⟩ := bnd h0
 refine rS rfl (aQ 5 (aBc hv1) rfl rfl rfl) (al 5 [zl, .d (.v (.map none))] tok ?_)
 refine bst tok (nx (sq [0,1,2,3,4,5,6,7,8] ?_))
 refine fa tok ?_
 refine ld tok ?_
 refine fa tok ?_
 refine ld tok ?_
 refine fa tok ?_
 refine ld tok ?_
 obtain ⟨v2,hv2,h0⟩ := bnd h0
 refine rS rfl (aQ 6 (aBc hv2) rfl rfl rfl) (al 6 [zl, .d (.v (.map none))] tok ?_)
 refine bst tok (nx (sq [0] ?_))
 refine pa (nx ?_)
 obtain ⟨v61,h1,h0⟩ := bnd h0
 refine bF ⟨aA (aA (aA ((fun _ => .dead)) 5 (.ptr 3 0 1 0 0)) 6 (.ptr 4 0 1 0 0)) 7 (.own 5 0 (v61).length),lks [.no, .no, .no, .live [⟨245,2, .av [[dL cI v1.products, .d (.mp v1.lists)]]⟩], .live [⟨245,2, .av [[dL cI v2.products, .d (.mp v2.lists)]]⟩], .live [⟨252,3, .data (List.map nI v61)⟩]]⟩ ?_ ?_
 refine sq [0,1,2,3] (fa tok ?_)
 refine ld tok ?_
 refine rP rfl (aK tok rfl rfl rfl) (pm (nx (aE ?_)))
 refine aY (fun s31 => ⟨aA (aA (aA (aA (aA (aA (aA ((fun _ => .dead)) 2 (.ptr 3 0 1 0 0)) 5 (.ptr 4 0 1 0 0)) 6 (.ptr 5 0 1 0 0)) 7 (.own 6 0 (s31.2).length)) 37 (dL cI v1.products)) 38 (dI (v1.products.length : Int))) 39 (dI s31.1),lks [.no, .no, .no, .live [⟨62,2, .av [[dI p0.Num,(dI p0.Den)]]⟩], .live [⟨245,2, .av [[dL cI v1.products, .d (.mp v1.lists)]]⟩], .live [⟨245,2, .av [[dL cI v2.products, .d (.mp v2.lists)]]⟩], .live [⟨252,3, .data (List.map nI s31.2)⟩]]⟩) h1 ?_ (fun s31 y h2 => ?_)
 refine lW.trans_ (dQ 7 rfl 252 3 (d := 7) rfl) ?_
 exact wk [0,1,2,3,5,6,7]
 refine sq [0] (rP rfl (bB rfl rfl) (nx (aB ?_)))
 refine bC h2 rfl (fun hc h2 => ?_) (fun hc h2 => ?_)
 refine sk ?_
 obtain ⟨v60,h3,h2⟩ := bnd h2
 refine bF ⟨aA (aA (aA (aA (aA (aA (aA ((fun _ => .dead)) 2 (.ptr 3 0 1 0 0)) 5 (.ptr 4 0 1 0 0)) 6 (.ptr 5 0 1 0 0)) 7 (.own 6 0 (v60).length)) 37 (dL cI v1.products)) 38 (dI (v1.products.length : Int))) 39 (dI s31.1),lks [.no, .no, .no, .live [⟨62,2, .av [[dI p0.Num,(dI p0.Den)]]⟩], .live [⟨245,2, .av [[dL cI v1.products, .d (.mp v1.lists)]]⟩], .live [⟨245,2, .av [[dL cI v2.products, .d (.mp v2.lists)]]⟩], .live [⟨252,3, .data (List.map nI v60)⟩]]⟩ ?_ ?_
 refine aE (sq [0,1,2] ?_)
 obtain ⟨v32,hv32,h3⟩ := bnd h3
 refine rP rfl (cG tok hv32 rfl rfl rfl rfl rfl rfl) (lr tok ?_)
 refine pa (nx (sq [0,1,2,3,4,5,6,7,8,9] ?_))
 refine fa tok ?_
 refine ld tok ?_
 refine pm ?_
 refine rP rfl (aKl rfl) ?_
 obtain ⟨v33,hv33,h3⟩ := bnd h3
 refine rS rfl (fU 7 (eJ hv33) rfl rfl) (rP rfl (aL (r := .tup _) rfl) (rP rfl (aW rfl rfl) (rP rfl (aW rfl rfl) (pa ?_))))
 refine pa (nx (sq [0,1,2,3] ?_))
 refine pm ?_
 refine rP rfl (iX rfl rfl) (rP rfl (aQi rfl rfl) (pa (nx (aE ?_))))
 refine aY (fun s47 => ⟨aA (aA (aA (aA (aA (aA (aA (aA (aA (aA ((fun _ => .dead)) 2 (.ptr 3 0 1 0 0)) 5 (.ptr 4 0 1 0 0)) 6 (.ptr 5 0 1 0 0)) 7 (.own 6 0 (s47.2).length)) 9 (dI v32)) 10 (dI v33.1)) 12 (dI s47.1)) 37 (dL cI v1.products)) 38 (dI (v1.products.length : Int))) 39 (dI s31.1),lks [.no, .no, .no, .live [⟨62,2, .av [[dI p0.Num,(dI p0.Den)]]⟩], .live [⟨245,2, .av [[dL cI v1.products, .d (.mp v1.lists)]]⟩], .live [⟨245,2, .av [[dL cI v2.products, .d (.mp v2.lists)]]⟩], .live [⟨252,3, .data (List.map nI s47.2)⟩]]⟩) h3 ?_ (fun s47 y h4 => ?_)
 exact wk [0,1,2,3,4,5,6]
 refine aB ?_
 obtain ⟨v48,h5,h4⟩ := bnd h4
 refine bF ⟨aA (aA (aA (aA (aA (aA (aA (aA (aA (aA (aA ((fun _ => .dead)) 2 (.ptr 3 0 1 0 0)) 5 (.ptr 4 0 1 0 0)) 6 (.ptr 5 0 1 0 0)) 7 (.own 6 0 (s47.2).length)) 9 (dI v32)) 10 (dI v33.1)) 12 (dI s47.1)) 37 (dL cI v1.products)) 38 (dI (v1.products.length : Int))) 39 (dI s31.1)) 63 (dB v48),lks [.no, .no, .no, .live [⟨62,2, .av [[dI p0.Num,(dI p0.Den)]]⟩], .live [⟨245,2, .av [[dL cI v1.products, .d (.mp v1.lists)]]⟩], .live [⟨245,2, .av [[dL cI v2.products, .d (.mp v2.lists)]]⟩], .live [⟨252,3, .data (List.map nI s47.2)⟩]]⟩ ?_ ?_
 refine sr [0,1,2,3,4,5,6,7,8,9] (pm ?_)
 refine pm ?_
 refine rP rfl (jK rfl rfl) (pm ?_)
 refine jW (u := 57) h5 rfl (fun hc h5 => ?_) (fun hc h5 => ?_)
 refine pm1 ?_
 refine fa1 tok ?_
 refine ld1 tok ?_
 refine rp rfl (w1 rfl rfl rfl) rfl (aK tok rfl rfl rfl) (rp rfl (w1 rfl rfl rfl) rfl (bB rfl rfl) (pkt (nx ?_)))
 cases h5
 exact wk [0,1,2,3,4,5,6]
 iterate 5 refine k1 ?_
 refine pkf (nx ?_)
 cases h5
 exact wk [0,1,2,3,4,5,6]
 refine bZ h4 rfl (fun hc h4 => ?_) (fun hc h4 => ?_)
 refine sk ?_
 obtain ⟨v59,h5,h4⟩ := bnd h4
 refine bF ⟨aA (aA (aA (aA (aA (aA (aA (aA (aA (aA ((fun _ => .dead)) 2 (.ptr 3 0 1 0 0)) 5 (.ptr 4 0 1 0 0)) 6 (.ptr 5 0 1 0 0)) 7 (.own 6 0 (v59).length)) 9 (dI v32)) 10 (dI v33.1)) 12 (dI s47.1)) 37 (dL cI v1.products)) 38 (dI (v1.products.length : Int))) 39 (dI s31.1),lks [.no, .no, .no, .live [⟨62,2, .av [[dI p0.Num,(dI p0.Den)]]⟩], .live [⟨245,2, .av [[dL cI v1.products, .d (.mp v1.lists)]]⟩], .live [⟨245,2, .av [[dL cI v2.products, .d (.mp v2.lists)]]⟩], .live [⟨252,3, .data (List.map nI v59)⟩]]⟩ ?_ ?_
 refine aE (aB (aI (is := [0,1,2,3,4,5,6,7,8,9]) [0,0,2,0,14,30,0,127,0,511] follows (by kernel_rfl) (tpm ?_)))
 refine tfa tok ?_
 refine tld tok ?_
 refine tpm ?_
 obtain ⟨v49,hv49,h5⟩ := bnd h5
 refine tP rfl (cG tok hv49 rfl rfl rfl rfl rfl rfl) (tlr tok ?_)
 refine dT rfl w0 rfl (bO tok rfl rfl rfl rfl) rfl rfl rfl ?_
 obtain ⟨v50,hv50,h5⟩ := bnd h5
 refine oH rfl w0 rfl (dJ 8 (aIw hv50) rfl rfl rfl) (aDc rfl w0 rfl rfl (fun hx hk => sX 7 (cs := [z0,z0,z0]) tok rfl rfl hk) (uQ rfl w0 (pB (cs := _ :: _) tok rfl rfl rfl rfl rfl rfl rfl) (bY ?_)))
 refine ⟨by kernel_rfl,?_⟩
 refine aF ?_
 obtain ⟨v54,h6,h5⟩ := bnd h5
 refine bF ⟨aA (aA (aA (aA (aA (aA (aA (aA (aA (aA (aA ((fun _ => .dead)) 2 (.ptr 3 0 1 0 0)) 5 (.ptr 4 0 1 0 0)) 6 (.ptr 5 0 1 0 0)) 7 (.own 6 0 (v54).length)) 9 (dI v32)) 10 (dI v33.1)) 12 (dI s47.1)) 13 (.ptr 7 0 1 0 0)) 37 (dL cI v1.products)) 38 (dI (v1.products.length : Int))) 39 (dI s31.1),lks [.no, .no, .no, .live [⟨62,2, .av [[dI p0.Num,(dI p0.Den)]]⟩], .live [⟨245,2, .av [[dL cI v1.products, .d (.mp v1.lists)]]⟩], .live [⟨245,2, .av [[dL cI v2.products, .d (.mp v2.lists)]]⟩], .live [⟨252,3, .data (List.map nI v54)⟩], .live [⟨252,3, .av [[dI v50.p,(dI v50.q),(dI v50.far)]]⟩]]⟩ ?_ ?_
 obtain ⟨v53,h7,h6⟩ := bnd h6
 refine bF ⟨aA (aA (aA (aA (aA (aA (aA (aA (aA (aA (aA (aA ((fun _ => .dead)) 2 (.ptr 3 0 1 0 0)) 5 (.ptr 4 0 1 0 0)) 6 (.ptr 5 0 1 0 0)) 7 (.own 6 0 (s47.2).length)) 9 (dI v32)) 10 (dI v33.1)) 12 (dI s47.1)) 13 (.ptr 7 0 1 0 0)) 37 (dL cI v1.products)) 38 (dI (v1.products.length : Int))) 39 (dI s31.1)) 84 (dB v53),lks [.no, .no, .no, .live [⟨62,2, .av [[dI p0.Num,(dI p0.Den)]]⟩], .live [⟨245,2, .av [[dL cI v1.products, .d (.mp v1.lists)]]⟩], .live [⟨245,2, .av [[dL cI v2.products, .d (.mp v2.lists)]]⟩], .live [⟨252,3, .data (List.map nI s47.2)⟩], .live [⟨252,3, .av [[dI v50.p,(dI v50.q),(dI v50.far)]]⟩]]⟩ ?_ ?_
 refine aI (is := [0,1,2,3,4,5,6,7,8,9,10]) [0,1,3,7,15,15,47,111,255,511,1023] follows (by kernel_rfl) (tP rfl (aL (r := .own _ _ _) rfl) (dT rfl w0 rfl (nG tok rfl rfl rfl rfl rfl) rfl rfl rfl (tP rfl (gT rfl rfl) (tpm ?_))))
 refine aGt (u := 77) h7 rfl (fun hc h7 => ?_) (fun hc h7 => ?_)
 refine dT rfl (w1 rfl rfl rfl) rfl (bO tok rfl rfl rfl rfl) rfl rfl rfl (qV rfl (w1 rfl rfl rfl) rfl (aL (r := .own _ _ _) rfl) ?_)
 obtain ⟨v51,hv51,h7⟩ := bnd h7
 refine dT rfl (w1 rfl rfl rfl) rfl (jB tok hv51 rfl rfl rfl rfl rfl rfl rfl rfl) rfl rfl rfl (dT rfl (w1 rfl rfl rfl) rfl (aK9 tok (eB hv51).2.1 rfl rfl rfl rfl rfl) rfl rfl rfl ?_)
 obtain ⟨v52,hv52,h7⟩ := bnd h7
 refine oH rfl (w1 rfl rfl rfl) rfl (dJ 8 (tQ hv52) rfl rfl rfl) (qV rfl (w1 rfl rfl rfl) rfl (bB rfl rfl) (aJl ?_))
 refine bY ?_
 refine ⟨by kernel_rfl,?_⟩
 refine aF ?_
 cases h7
 exact wk [0,1,2,3,4,5,6,7]
 iterate 6 refine k2 ?_
 refine aH2 ?_
 refine bY ?_
 refine ⟨by kernel_rfl,?_⟩
 refine aF ?_
 cases h7
 exact wk [0,1,2,3,4,5,6,7]
 refine bZ h6 rfl (fun hc h6 => ?_) (fun hc h6 => ?_)
 refine sr [0] (pa (nx ?_))
 cases h6
 refine lW.trans_ (dQ 8 rfl 252 3 (d := 7) rfl) ?_
 exact wk [0,1,2,3,4,5,8,7]
 refine sk ?_
 cases h6
 exact wk [0,1,2,3,4,5,6,7]
 obtain ⟨v57,h6,h5⟩ := bnd h5
 refine bF ⟨aA (aA (aA (aA (aA (aA (aA (aA (aA (aA (aA (aA ((fun _ => .dead)) 2 (.ptr 3 0 1 0 0)) 5 (.ptr 4 0 1 0 0)) 6 (.ptr 5 0 1 0 0)) 7 (.own 6 0 (v54).length)) 9 (dI v32)) 10 (dI v33.1)) 12 (dI s47.1)) 13 (.ptr 7 0 1 0 0)) 37 (dL cI v1.products)) 38 (dI (v1.products.length : Int))) 39 (dI s31.1)) 95 (dB v57),lks [.no, .no, .no, .live [⟨62,2, .av [[dI p0.Num,(dI p0.Den)]]⟩], .live [⟨245,2, .av [[dL cI v1.products, .d (.mp v1.lists)]]⟩], .live [⟨245,2, .av [[dL cI v2.products, .d (.mp v2.lists)]]⟩], .live [⟨252,3, .data (List.map nI v54)⟩], .live [⟨252,3, .av [[dI v50.p,(dI v50.q),(dI v50.far)]]⟩]]⟩ ?_ ?_
 refine aI (is := [0,1,2,3,4,5,6,7,8,9,10]) [0,1,3,7,15,15,47,111,255,511,1023] follows (by kernel_rfl) (tP rfl (aL (r := .own _ _ _) rfl) (dT rfl w0 rfl (nG tok rfl rfl rfl rfl rfl) rfl rfl rfl (tP rfl (nD rfl rfl) (tpm ?_))))
 refine aGt (u := 88) h6 rfl (fun hc h6 => ?_) (fun hc h6 => ?_)
 iterate 6 refine k2 ?_
 refine aJl ?_
 refine bY ?_
 refine ⟨by kernel_rfl,?_⟩
 refine aF ?_
 cases h6
 exact wk [0,1,2,3,4,5,6,7]
 refine dT rfl (w1 rfl rfl rfl) rfl (bO tok rfl rfl rfl rfl) rfl rfl rfl (qV rfl (w1 rfl rfl rfl) rfl (aL (r := .own _ _ _) rfl) ?_)
 obtain ⟨v55,hv55,h6⟩ := bnd h6
 refine dT rfl (w1 rfl rfl rfl) rfl (jB tok hv55 rfl rfl rfl rfl rfl rfl rfl rfl) rfl rfl rfl (dT rfl (w1 rfl rfl rfl) rfl (aK9 tok (eB hv55).2.1 rfl rfl rfl rfl rfl) rfl rfl rfl ?_)
 obtain ⟨v56,hv56,h6⟩ := bnd h6
 refine oH rfl (w1 rfl rfl rfl) rfl (dJ 8 (tQ hv56) rfl rfl rfl) (qV rfl (w1 rfl rfl rfl) rfl (nD rfl rfl) (aH2 ?_))
 refine bY ?_
 refine ⟨by kernel_rfl,?_⟩
 refine aF ?_
 cases h6
 exact wk [0,1,2,3,4,5,6,7]
 refine bZ h5 rfl (fun hc h5 => ?_) (fun hc h5 => ?_)
 refine sr [0,1,2,3,4] (rP rfl (aL (r := .own _ _ _) rfl) (rL rfl (bO tok rfl rfl rfl rfl) (rS rfl (tK tok nI [v50] rfl rfl rfl (by repeat (first | exact Els.nil _ | apply Els.cons (cs := [.d _]) rfl rfl rfl | apply Els.cons (cs := _ :: _) rfl rfl rfl)) rfl rfl rfl (by repeat (first | exact dG.nil | (apply dG.cons; (repeat (first | exact iZ.nil | apply iZ.cons))))) rfl) ?_)))
 obtain ⟨hq58,h5⟩ := cR h5
 refine rw1 rfl w0 rfl (gZ tok hq58 rfl rfl rfl rfl rfl rfl rfl rfl rfl rfl rfl rfl (fun _ => rfl)) (rP rfl (aS (r := .own _ _ _) rfl) (aV (aZ (aF ?_))))
 cases h5
 exact wk [0,1,2,3,4,5,6]
 refine cT (aZ (aF ?_))
 cases h5
 exact wk [0,1,2,3,4,5,6]
 refine sr [0,1,2] (pm ?_)
 refine rP rfl (bD rfl rfl) (pa (aV ?_))
 refine bX ?_
 cases h4
 refine ⟨_,rfl,?_⟩
 exact wk [0,1,2,3,4,5,6]
 refine bH (cC ?_)
 cases h4
 refine cA ⟨_,rfl,fun e => ?_⟩
 subst e
 refine aR ?_
 refine aZ (aF ?_)
 exact wk [0,1,2,3,4,5,6]
 refine sr [0,1] (rP rfl (bD rfl rfl) (pm (aV ?_)))
 refine bX ?_
 cases h2
 refine ⟨_,rfl,?_⟩
 exact wk [0,1,2,3,4,5,6]
 refine bH (cC ?_)
 cases h2
 refine cA ⟨_,rfl,fun e => ?_⟩
 subst e
 refine aR (aF ?_)
 exact wk [0,1,2,4,5,6]
 refine sq [0] (pa ?_)
 refine jV (aOl bU (d := 14) rfl) (nx ?_)
 obtain ⟨v142,h1,h0⟩ := bnd h0
 refine bF ⟨aA ((fun _ => .dead)) 14 (aGw bU v142),lks [.no, .no, .no]⟩ ?_ ?_
 refine sq [0,1,2] (rP rfl (aL (r := .own _ _ _) rfl) (rL rfl (nG tok rfl rfl rfl rfl rfl) (pm (nx (aE ?_)))))
 refine aY (fun s102 => ⟨aA (aA (aA (aA (aA (aA ((fun _ => .dead)) 5 (.ptr 3 0 1 0 0)) 6 (.ptr 4 0 1 0 0)) 14 (aGw bU s102.1)) 101 (.own 5 0 (v61).length)) 102 (dI (v61.length : Int))) 103 (dI s102.2),lks [.no, .no, .no, .live [⟨245,2, .av [[dL cI v1.products, .d (.mp v1.lists)]]⟩], .live [⟨245,2, .av [[dL cI v2.products, .d (.mp v2.lists)]]⟩], .live [⟨252,3, .data (List.map nI v61)⟩]]⟩) h1 ?_ (fun s102 y h2 => ?_)
 exact wk [0,1,2,3,4,5]
 refine sq [0] (rP rfl (bB rfl rfl) (nx (aB ?_)))
 refine bC h2 rfl (fun hc h2 => ?_) (fun hc h2 => ?_)
 refine sk ?_
 obtain ⟨v141,h3,h2⟩ := bnd h2
 refine bF ⟨aA (aA (aA (aA (aA (aA ((fun _ => .dead)) 5 (.ptr 3 0 1 0 0)) 6 (.ptr 4 0 1 0 0)) 14 (aGw bU v141)) 101 (.own 5 0 (v61).length)) 102 (dI (v61.length : Int))) 103 (dI s102.2),lks [.no, .no, .no, .live [⟨245,2, .av [[dL cI v1.products, .d (.mp v1.lists)]]⟩], .live [⟨245,2, .av [[dL cI v2.products, .d (.mp v2.lists)]]⟩], .live [⟨252,3, .data (List.map nI v61)⟩]]⟩ ?_ ?_
 refine aE (sq [0,1,2,3] ?_)
 obtain ⟨v103,hv103,h3⟩ := bnd h3
 refine rL rfl (jB tok hv103 rfl rfl rfl rfl rfl rfl rfl rfl) (rL rfl (aK9 tok (eB hv103).2.1 rfl rfl rfl rfl rfl) (al 6 [z0,z0,z0] tok ?_))
 refine bst tok (nx (sq [0,1,2,3,4,5,6] ?_))
 refine fa tok ?_
 refine ld tok ?_
 refine fa tok ?_
 refine ld tok ?_
 obtain ⟨hq104,h3⟩ := cR h3
 refine rP rfl (aKk tok rfl rfl rfl rfl rfl rfl rfl rfl hq104) (rP rfl (aK tok rfl rfl rfl) (pm (nx (aE ?_))))
 refine aY (fun s123 => ⟨aA (aA (aA (aA (aA (aA (aA (aA (aA (aA ((fun _ => .dead)) 5 (.ptr 3 0 1 0 0)) 6 (.ptr 4 0 1 0 0)) 14 (aGw bU s123.1)) 16 (.ptr 5 0 1 0 0)) 101 (.own 6 0 (v61).length)) 102 (dI (v61.length : Int))) 103 (dI s102.2)) 111 (dL (cL cI) (v1.lists v103.p))) 112 (dI ((v1.lists v103.p).length : Int))) 113 (dI s123.2),lks [.no, .no, .no, .live [⟨245,2, .av [[dL cI v1.products, .d (.mp v1.lists)]]⟩], .live [⟨245,2, .av [[dL cI v2.products, .d (.mp v2.lists)]]⟩], .live [⟨252,3, .av [[dI v103.p,(dI v103.q),(dI v103.far)]]⟩], .live [⟨252,3, .data (List.map nI v61)⟩]]⟩) h3 ?_ (fun s123 y h4 => ?_)
 exact wk [0,1,2,3,4,6,5]
 refine sq [0] (rP rfl (bB rfl rfl) (nx (aB ?_)))
 refine bC h4 rfl (fun hc h4 => ?_) (fun hc h4 => ?_)
 refine sk ?_
 obtain ⟨v140,h5,h4⟩ := bnd h4
 refine bF ⟨aA (aA (aA (aA (aA (aA (aA (aA (aA (aA ((fun _ => .dead)) 5 (.ptr 3 0 1 0 0)) 6 (.ptr 4 0 1 0 0)) 14 (aGw bU v140)) 16 (.ptr 5 0 1 0 0)) 101 (.own 6 0 (v61).length)) 102 (dI (v61.length : Int))) 103 (dI s102.2)) 111 (dL (cL cI) (v1.lists v103.p))) 112 (dI ((v1.lists v103.p).length : Int))) 113 (dI s123.2),lks [.no, .no, .no, .live [⟨245,2, .av [[dL cI v1.products, .d (.mp v1.lists)]]⟩], .live [⟨245,2, .av [[dL cI v2.products, .d (.mp v2.lists)]]⟩], .live [⟨252,3, .av [[dI v103.p,(dI v103.q),(dI v103.far)]]⟩], .live [⟨252,3, .data (List.map nI v61)⟩]]⟩ ?_ ?_
 refine aE (sq [0,1,2] ?_)
 obtain ⟨v124,hv124,h5⟩ := bnd h5
 refine rP rfl (cG tok hv124 rfl rfl rfl rfl rfl rfl) (lr tok ?_)
 refine pa (nx (sq [0,1,2,3,4,5,6] ?_))
 refine fa tok ?_
 refine ld tok ?_
 refine fa tok ?_
 refine ld tok ?_
 obtain ⟨hq125,h5⟩ := cR h5
 refine rP rfl (aKk tok rfl rfl rfl rfl rfl rfl rfl rfl hq125) (rP rfl (aK tok rfl rfl rfl) (pm (nx (aE ?_))))
 refine aY (fun s133 => ⟨aA (aA (aA (aA (aA (aA (aA (aA (aA (aA (aA (aA (aA (aA ((fun _ => .dead)) 5 (.ptr 3 0 1 0 0)) 6 (.ptr 4 0 1 0 0)) 14 (aGw bU s133.1)) 16 (.ptr 5 0 1 0 0)) 18 (dL cI v124)) 101 (.own 6 0 (v61).length)) 102 (dI (v61.length : Int))) 103 (dI s102.2)) 111 (dL (cL cI) (v1.lists v103.p))) 112 (dI ((v1.lists v103.p).length : Int))) 113 (dI s123.2)) 121 (dL (cL cI) (v2.lists v103.q))) 122 (dI ((v2.lists v103.q).length : Int))) 123 (dI s133.2),lks [.no, .no, .no, .live [⟨245,2, .av [[dL cI v1.products, .d (.mp v1.lists)]]⟩], .live [⟨245,2, .av [[dL cI v2.products, .d (.mp v2.lists)]]⟩], .live [⟨252,3, .av [[dI v103.p,(dI v103.q),(dI v103.far)]]⟩], .live [⟨252,3, .data (List.map nI v61)⟩]]⟩) h5 ?_ (fun s133 y h6 => ?_)
 exact wk [0,1,2,3,4,5,6]
 refine sq [0] (rP rfl (bB rfl rfl) (nx (aB ?_)))
 refine bC h6 rfl (fun hc h6 => ?_) (fun hc h6 => ?_)
 refine sk ?_
 obtain ⟨v139,h7,h6⟩ := bnd h6
 refine bF ⟨aA (aA (aA (aA (aA (aA (aA (aA (aA (aA (aA (aA (aA (aA ((fun _ => .dead)) 5 (.ptr 3 0 1 0 0)) 6 (.ptr 4 0 1 0 0)) 14 (aGw bU v139)) 16 (.ptr 5 0 1 0 0)) 18 (dL cI v124)) 101 (.own 6 0 (v61).length)) 102 (dI (v61.length : Int))) 103 (dI s102.2)) 111 (dL (cL cI) (v1.lists v103.p))) 112 (dI ((v1.lists v103.p).length : Int))) 113 (dI s123.2)) 121 (dL (cL cI) (v2.lists v103.q))) 122 (dI ((v2.lists v103.q).length : Int))) 123 (dI s133.2),lks [.no, .no, .no, .live [⟨245,2, .av [[dL cI v1.products, .d (.mp v1.lists)]]⟩], .live [⟨245,2, .av [[dL cI v2.products, .d (.mp v2.lists)]]⟩], .live [⟨252,3, .av [[dI v103.p,(dI v103.q),(dI v103.far)]]⟩], .live [⟨252,3, .data (List.map nI v61)⟩]]⟩ ?_ ?_
 refine aE (sq [0,1,2] ?_)
 obtain ⟨v134,hv134,h7⟩ := bnd h7
 refine rP rfl (cG tok hv134 rfl rfl rfl rfl rfl rfl) (lr tok ?_)
 refine pa (nx (sq [0,1,2,3] ?_))
 refine pm ?_
 refine pm ?_
 obtain ⟨v135,hv135,h7⟩ := bnd h7
 refine rS rfl (aQ 7 (aCg hv135) rfl rfl rfl) (rP rfl (aS (r := .own _ _ _) rfl) (nx ?_))
 obtain ⟨v137,h8,h7⟩ := bnd h7
 refine bF ⟨aA (aA (aA (aA (aA (aA (aA (aA (aA (aA (aA (aA (aA (aA (aA (aA ((fun _ => .dead)) 5 (.ptr 3 0 1 0 0)) 6 (.ptr 4 0 1 0 0)) 14 (aGw bU s133.1)) 16 (.ptr 5 0 1 0 0)) 18 (dL cI v124)) 21 (.own 6 0 (v135).length)) 101 (.own 7 0 (v61).length)) 102 (dI (v61.length : Int))) 103 (dI s102.2)) 111 (dL (cL cI) (v1.lists v103.p))) 112 (dI ((v1.lists v103.p).length : Int))) 113 (dI s123.2)) 121 (dL (cL cI) (v2.lists v103.q))) 122 (dI ((v2.lists v103.q).length : Int))) 123 (dI s133.2)) 137 (dB v137),lks [.no, .no, .no, .live [⟨245,2, .av [[dL cI v1.products, .d (.mp v1.lists)]]⟩], .live [⟨245,2, .av [[dL cI v2.products, .d (.mp v2.lists)]]⟩], .live [⟨252,3, .av [[dI v103.p,(dI v103.q),(dI v103.far)]]⟩], .live [⟨121,2, .data (List.map bU v135)⟩], .live [⟨252,3, .data (List.map nI v61)⟩]]⟩ ?_ ?_
 refine sr [0,1,2,3,4,5,6,7] (rP rfl (aL (r := _) rfl) (rP rfl (aF2 tok rfl rfl rfl rfl) (pm ?_)))
 refine jW (u := 132) h8 rfl (fun hc h8 => ?_) (fun hc h8 => ?_)
 iterate 4 refine k1 ?_
 refine pkt (nx ?_)
 cases h8
 exact wk [0,1,2,3,4,5,7,6]
 refine rp rfl (w1 rfl rfl rfl) rfl (aL (r := .own _ _ _) rfl) (rp rfl (w1 rfl rfl rfl) rfl (aL (r := _) rfl) ?_)
 obtain ⟨v136,hv136,h8⟩ := bnd h8
 refine jV (aJv bU (d := 134) rfl) (rs rfl (w1 rfl rfl rfl) rfl (fU 8 (wD hv136) rfl rfl) (rp rfl (w1 rfl rfl rfl) rfl (bB rfl rfl) (pkf (nx ?_))))
 cases h8
 exact wk [0,1,2,3,4,5,7,6]
 refine bZ h7 rfl (fun hc h7 => ?_) (fun hc h7 => ?_)
 refine sr [0,1] (rP rfl (aL (r := .own _ _ _) rfl) ?_)
 obtain ⟨hq138,h7⟩ := cR h7
 refine jV (xX (k := 6) (t' := aA (aA (aA (aA (aA (aA (aA (aA (aA (aA (aA (aA (aA (aA ((fun _ => .dead)) 5 (.ptr 3 0 1 0 0)) 6 (.ptr 4 0 1 0 0)) 16 (.ptr 5 0 1 0 0)) 18 (dL cI v124)) 101 (.own 7 0 (v61).length)) 102 (dI (v61.length : Int))) 103 (dI s102.2)) 111 (dL (cL cI) (v1.lists v103.p))) 112 (dI ((v1.lists v103.p).length : Int))) 113 (dI s123.2)) 121 (dL (cL cI) (v2.lists v103.q))) 122 (dI ((v2.lists v103.q).length : Int))) 123 (dI s133.2)) 138 (dL bU v135)) rfl (FzL.nil)) (pa ?_)
 refine jV (aPa bU (d := 14) rfl hq138) (aV (aZ (aF ?_)))
 cases h7
 exact wk [0,1,2,3,4,5,7]
 refine cT (aZ (aF ?_))
 cases h7
 exact wk [0,1,2,3,4,5,7]
 refine sr [0,1] (rP rfl (bD rfl rfl) (pm (aV ?_)))
 refine bX ?_
 cases h6
 refine ⟨_,rfl,?_⟩
 exact wk [0,1,2,3,4,5,6]
 refine bH (cC ?_)
 cases h6
 refine cA ⟨_,rfl,fun e => ?_⟩
 subst e
 refine aR ?_
 refine aZ (aF ?_)
 exact wk [0,1,2,3,4,5,6]
 refine sr [0,1] (rP rfl (bD rfl rfl) (pm (aV ?_)))
 refine bX ?_
 cases h4
 refine ⟨_,rfl,?_⟩
 exact wk [0,1,2,3,4,5,6]
 refine bH (cC ?_)
 cases h4
 refine cA ⟨_,rfl,fun e => ?_⟩
 subst e
 refine aR ?_
 refine aZ (aF ?_)
 exact wk [0,1,2,3,4,6]
 refine sr [0,1] (rP rfl (bD rfl rfl) (pm (aV ?_)))
 refine bX ?_
 cases h2
 refine ⟨_,rfl,?_⟩
 exact wk [0,1,2,3,4,5]
 refine bH (cC ?_)
 cases h2
 refine cA ⟨_,rfl,fun e => ?_⟩
 subst e
 refine aR (aF ?_)
 exact wk [0,1,2]
 refine sq [0,1] (rP rfl (aL (r := _) rfl) (rP rfl (aS (r := _) rfl) (jV (aJv bU (d := 4) rfl) (nx (aC ?_)))))
 cases h0
 exact r0t 4 rfl
theorem aBt {p0 : bL} {r : Bool} (h0 : eW p0 = some r) : FnC Tryz.prog 266 [] [.agg [dI p0.Driver,(dI p0.Driven)]] [] (dB r) := by
 refine fi 11 tok Tryz.func266 ?_
 unfold eW at h0
 refine sq [0,1] (bxx 3 ?_)
 refine pa (nx (sq [0,1,2,3,4,5,6,7,8] ?_))
 refine fa tok ?_
 refine ld tok ?_
 obtain ⟨v1,hv1,h0⟩ := bnd h0
 refine rS rfl (aQ 4 (uC hv1) rfl rfl rfl) (pm ?_)
 refine fI (u := 6) h0 rfl (fun hc h0 => ?_) (fun hc h0 => ?_)
 refine fa1 tok ?_
 refine ld1 tok ?_
 obtain ⟨v2,hv2,h0⟩ := bnd h0
 refine rs rfl (w1 rfl rfl rfl) rfl (aQ 4 (uC hv2) rfl rfl rfl) (pkt ?_)
 refine pa (nx (aC ?_))
 cases h0
 exact r0t 2 rfl
 iterate 3 refine k1 ?_
 refine pkf ?_
 refine pa (nx (aC ?_))
 cases h0
 exact r0t 2 rfl
theorem aAm {p0 : List bL} {r : Bool} (h0 : iQ p0 = some r) : FnC Tryz.prog 224 [] [dL bU p0] [] (dB r) := by
 refine fi 18 tok Tryz.func224 ?_
 unfold iQ at h0
 refine sq [0] (pa (nx ?_))
 obtain ⟨v7x,h1,h0⟩ := bnd h0
 refine eL v7x (fun v7 => ⟨aA ((fun _ => .dead)) 0 (dL bU p0),lks [.no, .no, .no]⟩) ?_ ?_
 refine sq [0,1,2] (pm ?_)
 refine rP rfl (aK tok rfl rfl rfl) (pm (nx (aE ?_)))
 refine aY (fun s4 => ⟨aA (aA (aA (aA ((fun _ => .dead)) 0 (dL bU p0)) 5 (dL bU p0)) 6 (dI (p0.length : Int))) 7 (dI s4),lks [.no, .no, .no]⟩) h1 ?_ (fun s4 y h2 => ?_)
 exact wk [0,1,2]
 refine sq [0] (rP rfl (bB rfl rfl) (nx (aB ?_)))
 refine bC h2 rfl (fun hc h2 => ?_) (fun hc h2 => ?_)
 refine sk (aB (aE (sq [0,1,2,3] ?_)))
 obtain ⟨v5,hv5,h2⟩ := bnd h2
 refine rP rfl (cG tok hv5 rfl rfl rfl rfl rfl rfl) (rP rfl (bR tok rfl rfl rfl (by repeat (first | exact kE.z _ | apply kE.t))) (al 3 [z0,z0] tok ?_))
 refine bst tok (nx (sq [0,1,2] ?_))
 refine rL rfl (bO tok rfl rfl rfl rfl) ?_
 obtain ⟨v6,hv6,h2⟩ := bnd h2
 refine rS rfl (aQ 4 (aBt hv6) rfl rfl rfl) (rP rfl (cJ rfl) (nx ?_))
 refine bZ h2 rfl (fun hc h2 => ?_) (fun hc h2 => ?_)
 refine sq [0] (pa (nx (aC ?_)))
 refine bA (aJ ?_)
 cases h2
 refine dZ ⟨_,rfl,fun e => ?_⟩
 subst e
 refine bA ?_
 replace h0 := gU h0
 refine aJ ?_
 cases h0
 exact r0t 2 rfl
 refine cT (aZ (aF (sr [0,1] (rP rfl (bD rfl rfl) (pm (aV ?_))))))
 refine bX ?_
 cases h2
 refine ⟨_,rfl,?_⟩
 exact wk [0,1,2]
 refine bH (cC ?_)
 cases h2
 refine cA ⟨_,rfl,fun e => ?_⟩
 subst e
 refine aR (aF ?_)
 refine ⟨_,rfl,?_⟩
 exact wk [0,1,2]
 rintro v7 rfl
 replace h0 := nN h0
 refine sq [0,1,2,3] (pm ?_)
 refine rP rfl (aK tok rfl rfl rfl) (rP rfl (jK rfl rfl) (pa (nx (aC ?_))))
 cases h0
 exact r0t 2 rfl
theorem aDl {p0 : aM} {p1 : aM} {r : aM × Int} (h0 : gX p0 p1 = some r) : FnC Tryz.prog 71 [] [.agg [dI p0.Num,(dI p0.Den)], .agg [dI p1.Num,(dI p1.Den)]] [] (.tup [.agg [dI r.1.Num,(dI r.1.Den)],(dI r.2)]) := by
 refine fi 28 tok Tryz.func71 ?_
 unfold gX at h0
 refine sq [0,1,2,3] (bxx 3 ?_)
 refine bxx 4 ?_
 refine al 5 [z0,z0] tok ?_
 refine pa (nx (aB ?_))
 obtain ⟨v3,h1,h0⟩ := bnd h0
 refine bF ⟨aA (aA (aA (aA ((fun _ => .dead)) 2 (.ptr 3 0 1 0 0)) 3 (.ptr 4 0 1 0 0)) 4 (.ptr 5 0 1 0 0)) 13 (dB v3),lks [.no, .no, .no, .live [⟨62,2, .av [[dI p0.Num,(dI p0.Den)]]⟩], .live [⟨62,2, .av [[dI p1.Num,(dI p1.Den)]]⟩], .live [⟨62,2, .av [[z0,z0]]⟩]]⟩ ?_ ?_
 refine sr [0,1,2,3,4,5,6,7] (rL rfl (bO tok rfl rfl rfl rfl) ?_)
 obtain ⟨v1,hv1,h1⟩ := bnd h1
 refine rS rfl (aQ 6 (iU hv1) rfl rfl rfl) (rP rfl (cJ rfl) (pm ?_))
 refine fI (u := 9) h1 rfl (fun hc h1 => ?_) (fun hc h1 => ?_)
 iterate 3 refine k1 ?_
 refine pkt (nx ?_)
 cases h1
 exact wk [0,1,2,3,4,5]
 refine rl rfl (w1 rfl rfl rfl) rfl (bO tok rfl rfl rfl rfl) ?_
 obtain ⟨v2,hv2,h1⟩ := bnd h1
 refine rs rfl (w1 rfl rfl rfl) rfl (aQ 6 (iU hv2) rfl rfl rfl) (rp rfl (w1 rfl rfl rfl) rfl (cJ rfl) (pkf (nx ?_)))
 cases h1
 exact wk [0,1,2,3,4,5]
 refine bZ h0 rfl (fun hc h0 => ?_) (fun hc h0 => ?_)
 refine sq [0,1,2] (rP rfl (pbl (C0 := [z0,z0]) tok rfl rfl rfl) (bst tok ?_))
 refine pa (nx (aC (aJ ?_)))
 cases h0
 exact fR (rs := [.cell 4 62, .tmp 5]) rfl
 refine sk (sq [0,1,2,3,4,5,6,7,8,9,10,11,12,13,14] (fa tok ?_))
 refine ld tok ?_
 refine fa tok ?_
 refine ld tok ?_
 refine rP rfl (eH rfl rfl) (fa tok ?_)
 refine ld tok ?_
 refine fa tok ?_
 refine ld tok ?_
 refine rP rfl (eH rfl rfl) ?_
 obtain ⟨v4,hv4,h0⟩ := bnd h0
 refine rS rfl (aQ 6 (nZ hv4) rfl rfl rfl) (rP rfl (aW rfl rfl) (rP rfl (aW rfl rfl) (bst tok ?_)))
 refine pa (nx (aC ?_))
 cases h0
 exact fR (rs := [.cell 4 62, .tmp 5]) rfl
theorem aAw {p0 : List bL} {r : aM × Int} (h0 : iV p0 = some r) : FnC Tryz.prog 267 [] [dL bU p0] [] (.tup [.agg [dI r.1.Num,(dI r.1.Den)],(dI r.2)]) := by
 refine fi 40 tok Tryz.func267 ?_
 unfold iV at h0
 refine sq [0,1] (al 3 [z0,z0] tok ?_)
 refine pa (nx (sq [0,1,2] ?_))
 refine rP rfl (pbl (C0 := [z0,z0]) tok rfl rfl rfl) (al 4 [z0,z0] tok ?_)
 refine bst tok (nx ?_)
 obtain ⟨v9x,h1,h0⟩ := bnd h0
 refine eL v9x (fun v9 => ⟨aA (aA ((fun _ => .dead)) 2 (.ptr 3 0 1 0 0)) 4 (.ptr 4 0 1 0 0),lks [.no, .no, .no, .live [⟨62,2, .av [[z0,z0]]⟩], .live [⟨62,2, .av [[dI v9.Num,(dI v9.Den)]]⟩]]⟩) ?_ ?_
 refine sq [0,1,2] (pm ?_)
 refine rP rfl (aK tok rfl rfl rfl) (pm (nx (aE ?_)))
 refine aY (fun s5 => ⟨aA (aA (aA (aA (aA ((fun _ => .dead)) 2 (.ptr 3 0 1 0 0)) 4 (.ptr 4 0 1 0 0)) 12 (dL bU p0)) 13 (dI (p0.length : Int))) 14 (dI s5.1),lks [.no, .no, .no, .live [⟨62,2, .av [[z0,z0]]⟩], .live [⟨62,2, .av [[dI s5.2.Num,(dI s5.2.Den)]]⟩]]⟩) h1 ?_ (fun s5 y h2 => ?_)
 exact wk [0,1,2,3,4]
 refine sq [0] (rP rfl (bB rfl rfl) (nx (aB ?_)))
 refine bC h2 rfl (fun hc h2 => ?_) (fun hc h2 => ?_)
 refine sk (aB (aE (sq [0,1,2,3] ?_)))
 obtain ⟨v6,hv6,h2⟩ := bnd h2
 refine rP rfl (cG tok hv6 rfl rfl rfl rfl rfl rfl) (rP rfl (bR tok rfl rfl rfl (by repeat (first | exact kE.z _ | apply kE.t))) (al 5 [z0,z0] tok ?_))
 refine bst tok (nx (sq [0,1,2,3,4,5,6,7,8,9,10,11] ?_))
 refine fa tok ?_
 refine ld tok ?_
 refine rP rfl (wL rfl) (fa tok ?_)
 refine ld tok ?_
 obtain ⟨v7,hv7,h2⟩ := bnd h2
 refine rS rfl (aQ 6 (nZ hv7) rfl rfl rfl) (rP rfl (aL (r := .tup _) rfl) (rP rfl (aW rfl rfl) (rP rfl (aW rfl rfl) (al 6 [z0,z0] tok ?_))))
 refine bst tok ?_
 refine pa (nx (sq [0,1,2,3,4,5,6,7,8] ?_))
 refine rL rfl (bO tok rfl rfl rfl rfl) (rL rfl (bO tok rfl rfl rfl rfl) ?_)
 obtain ⟨v8,hv8,h2⟩ := bnd h2
 refine rS rfl (aQ 7 (aDl hv8) rfl rfl rfl) (rP rfl (aL (r := .tup _) rfl) (rP rfl (aW rfl rfl) (rP rfl (aW rfl rfl) (al 7 [z0,z0] tok ?_))))
 refine bst tok ?_
 refine pa (nx (aB (sq [0,1] ?_)))
 refine pm ?_
 refine rP rfl (cQ rfl rfl) (nx ?_)
 refine bC h2 rfl (fun hc h2 => ?_) (fun hc h2 => ?_)
 refine sq [0,1,2,3] (rP rfl (pbl (C0 := [z0,z0]) tok rfl rfl rfl) (pm ?_))
 refine bst tok ?_
 refine pa (nx (aC (aJ ?_)))
 refine bA (aJ ?_)
 cases h2
 refine dZ ⟨_,rfl,fun e => ?_⟩
 subst e
 refine bA ?_
 replace h0 := gU h0
 refine aJ ?_
 cases h0
 exact fR (rs := [.cell 2 62, .tmp 3]) rfl
 refine sk (sr [0,1] (rL rfl (bO tok rfl rfl rfl rfl) (bst tok (aV ?_))))
 refine aZ (aF (sr [0,1] (rP rfl (bD rfl rfl) (pm (aV ?_)))))
 refine bX ?_
 cases h2
 refine ⟨_,rfl,?_⟩
 exact wk [0,1,2,3,4]
 refine bH (cC ?_)
 cases h2
 refine cA ⟨_,rfl,fun e => ?_⟩
 subst e
 refine aR (aF ?_)
 refine ⟨_,rfl,?_⟩
 exact wk [0,1,2,3,4]
 rintro v9 rfl
 replace h0 := nN h0
 refine sq [0,1,2] (rL rfl (bO tok rfl rfl rfl rfl) (bst tok ?_))
 refine pa (nx (aC ?_))
 cases h0
 exact fR (rs := [.cell 2 62, .tmp 3]) rfl
theorem aEr {p0 : aM} {p1 : aM} {r : aM × Int} (h0 : pM p0 p1 = some r) : FnC Tryz.prog 72 [] [.agg [dI p0.Num,(dI p0.Den)], .agg [dI p1.Num,(dI p1.Den)]] [] (.tup [.agg [dI r.1.Num,(dI r.1.Den)],(dI r.2)]) := by
 refine fi 34 tok Tryz.func72 ?_
 unfold pM at h0
 refine sq [0,1,2,3] (bxx 3 ?_)
 refine bxx 4 ?_
 refine al 5 [z0,z0] tok ?_
 refine pa (nx (aB ?_))
 obtain ⟨v3,h1,h0⟩ := bnd h0
 refine bF ⟨aA (aA (aA (aA ((fun _ => .dead)) 2 (.ptr 3 0 1 0 0)) 3 (.ptr 4 0 1 0 0)) 4 (.ptr 5 0 1 0 0)) 13 (dB v3),lks [.no, .no, .no, .live [⟨62,2, .av [[dI p0.Num,(dI p0.Den)]]⟩], .live [⟨62,2, .av [[dI p1.Num,(dI p1.Den)]]⟩], .live [⟨62,2, .av [[z0,z0]]⟩]]⟩ ?_ ?_
 refine sr [0,1,2,3,4,5,6,7] (rL rfl (bO tok rfl rfl rfl rfl) ?_)
 obtain ⟨v1,hv1,h1⟩ := bnd h1
 refine rS rfl (aQ 6 (iU hv1) rfl rfl rfl) (rP rfl (cJ rfl) (pm ?_))
 refine fI (u := 9) h1 rfl (fun hc h1 => ?_) (fun hc h1 => ?_)
 iterate 3 refine k1 ?_
 refine pkt (nx ?_)
 cases h1
 exact wk [0,1,2,3,4,5]
 refine rl rfl (w1 rfl rfl rfl) rfl (bO tok rfl rfl rfl rfl) ?_
 obtain ⟨v2,hv2,h1⟩ := bnd h1
 refine rs rfl (w1 rfl rfl rfl) rfl (aQ 6 (iU hv2) rfl rfl rfl) (rp rfl (w1 rfl rfl rfl) rfl (cJ rfl) (pkf (nx ?_)))
 cases h1
 exact wk [0,1,2,3,4,5]
 refine bZ h0 rfl (fun hc h0 => ?_) (fun hc h0 => ?_)
 refine sq [0,1,2] (rP rfl (pbl (C0 := [z0,z0]) tok rfl rfl rfl) (bst tok ?_))
 refine pa (nx (aC (aJ ?_)))
 cases h0
 exact fR (rs := [.cell 4 62, .tmp 5]) rfl
 refine sk (sq [0,1,2,3,4,5,6,7,8,9,10,11,12,13,14,15,16,17,18,19,20] (fa tok ?_))
 refine ld tok ?_
 refine fa tok ?_
 refine ld tok ?_
 refine rP rfl (eH rfl rfl) (fa tok ?_)
 refine ld tok ?_
 refine fa tok ?_
 refine ld tok ?_
 refine rP rfl (eH rfl rfl) (rP rfl (iX rfl rfl) (fa tok ?_))
 refine ld tok ?_
 refine fa tok ?_
 refine ld tok ?_
 refine rP rfl (eH rfl rfl) ?_
 obtain ⟨v4,hv4,h0⟩ := bnd h0
 refine rS rfl (aQ 6 (nZ hv4) rfl rfl rfl) (rP rfl (aW rfl rfl) (rP rfl (aW rfl rfl) (bst tok ?_)))
 refine pa (nx (aC ?_))
 cases h0
 exact fR (rs := [.cell 4 62, .tmp 5]) rfl
theorem xF {p0 : List bL} {p1 : aM} {r : aM × Int} (h0 : kD p0 p1 = some r) : FnC Tryz.prog 225 [] [dL bU p0, .agg [dI p1.Num,(dI p1.Den)]] [] (.tup [.agg [dI r.1.Num,(dI r.1.Den)],(dI r.2)]) := by
 refine fi 27 tok Tryz.func225 ?_
 unfold kD at h0
 refine sq [0,1,2] (bxx 3 ?_)
 refine al 4 [z0,z0] tok ?_
 refine pa (nx (sq [0,1,2,3,4,5,6,7] ?_))
 refine pm ?_
 obtain ⟨v1,hv1,h0⟩ := bnd h0
 refine rS rfl (aQ 5 (aAw hv1) rfl rfl rfl) (rP rfl (aL (r := .tup _) rfl) (rP rfl (aW rfl rfl) (rP rfl (aW rfl rfl) (al 5 [z0,z0] tok ?_))))
 refine bst tok ?_
 refine pa (nx (aB (sq [0,1] ?_)))
 refine pm ?_
 refine rP rfl (cQ rfl rfl) (nx ?_)
 refine bC h0 rfl (fun hc h0 => ?_) (fun hc h0 => ?_)
 refine sq [0,1,2,3] (rP rfl (pbl (C0 := [z0,z0]) tok rfl rfl rfl) (pm ?_))
 refine bst tok ?_
 refine pa (nx (aC (aJ ?_)))
 cases h0
 exact fR (rs := [.cell 4 62, .tmp 5]) rfl
 refine sk (aB (aI (is := [0,1,3,4,6,2,5,7,8,9,10,11]) [0,1,3,0,8,31,0,127,255,255,1023,2047] follows (by kernel_rfl) (tfa tok ?_)))
 refine tld tok ?_
 refine tfa tok ?_
 refine tld tok ?_
 refine dT rfl w0 rfl (bO tok rfl rfl rfl rfl) rfl rfl rfl ?_
 obtain ⟨v2,hv2,h0⟩ := bnd h0
 refine oH rfl w0 rfl (dJ 6 (aF9 hv2) rfl rfl rfl) (tP rfl (pbl (C0 := [z0,z0]) tok rfl rfl rfl) ?_)
 obtain ⟨v3,hv3,h0⟩ := bnd h0
 refine oH rfl w0 rfl (dJ 6 (aEr hv3) rfl rfl rfl) (tP rfl (aW rfl rfl) (tP rfl (aW rfl rfl) (uQ rfl w0 (pB (cs := _ :: _) tok rfl rfl rfl rfl rfl rfl rfl) (tpa ?_))))
 refine bY ?_
 refine ⟨by kernel_rfl,?_⟩
 refine aF (aC ?_)
 cases h0
 exact fR (rs := [.cell 4 62, .tmp 5]) rfl
theorem aF5 {p0 : List bL} {p1 : aM} {r : aM × Int} (h0 : oW p0 p1 = some r) : FnC Tryz.prog 148 [] [dL bU p0, .agg [dI p1.Num,(dI p1.Den)]] [] (.tup [.agg [dI r.1.Num,(dI r.1.Den)],(dI r.2)]) := by
 refine fi 30 tok Tryz.func148 ?_
 unfold oW at h0
 refine sq [0,1,2] (bxx 3 ?_)
 refine al 4 [z0,z0] tok ?_
 refine pa (nx (aB ?_))
 obtain ⟨v3,h1,h0⟩ := bnd h0
 refine bF ⟨aA (aA (aA (aA ((fun _ => .dead)) 0 (dL bU p0)) 3 (.ptr 3 0 1 0 0)) 4 (.ptr 4 0 1 0 0)) 15 (dB v3),lks [.no, .no, .no, .live [⟨62,2, .av [[dI p1.Num,(dI p1.Den)]]⟩], .live [⟨62,2, .av [[z0,z0]]⟩]]⟩ ?_ ?_
 refine sr [0,1,2,3,4,5,6,7] (pm ?_)
 obtain ⟨v1,hv1,h1⟩ := bnd h1
 refine rS rfl (aQ 5 (aAm hv1) rfl rfl rfl) (rP rfl (cJ rfl) (pm ?_))
 refine fI (u := 11) h1 rfl (fun hc h1 => ?_) (fun hc h1 => ?_)
 iterate 3 refine k1 ?_
 refine pkt (nx ?_)
 cases h1
 exact wk [0,1,2,3,4]
 refine rl rfl (w1 rfl rfl rfl) rfl (bO tok rfl rfl rfl rfl) ?_
 obtain ⟨v2,hv2,h1⟩ := bnd h1
 refine rs rfl (w1 rfl rfl rfl) rfl (aQ 5 (iU hv2) rfl rfl rfl) (rp rfl (w1 rfl rfl rfl) rfl (cJ rfl) (pkf (nx ?_)))
 cases h1
 exact wk [0,1,2,3,4]
 refine bZ h0 rfl (fun hc h0 => ?_) (fun hc h0 => ?_)
 refine sq [0,1,2] (rP rfl (pbl (C0 := [z0,z0]) tok rfl rfl rfl) (bst tok ?_))
 refine pa (nx (aC (aJ ?_)))
 cases h0
 exact fR (rs := [.cell 4 62, .tmp 5]) rfl
 refine sk (sq [0,1,2,3,4,5,6,7,8] (pm ?_))
 refine rL rfl (bO tok rfl rfl rfl rfl) ?_
 obtain ⟨v4,hv4,h0⟩ := bnd h0
 refine rS rfl (aQ 5 (xF hv4) rfl rfl rfl) (rP rfl (aL (r := .tup _) rfl) (rP rfl (aW rfl rfl) (rP rfl (aW rfl rfl) (al 5 [z0,z0] tok ?_))))
 refine bst tok ?_
 refine pa (nx (aB ?_))
 refine aI (is := [0,1,3,4,6,2,5,7,8]) [0,1,3,0,8,31,0,63,255] follows (by kernel_rfl) (tfa tok ?_)
 refine tld tok ?_
 refine tfa tok ?_
 refine tld tok ?_
 refine tpm ?_
 obtain ⟨v5,hv5,h0⟩ := bnd h0
 refine oH rfl w0 rfl (dJ 6 (aF9 hv5) rfl rfl rfl) (tP rfl (pbl (C0 := [z0,z0]) tok rfl rfl rfl) (uQ rfl w0 (pB (cs := _ :: _) tok rfl rfl rfl rfl rfl rfl rfl) (tpa ?_)))
 refine bY ?_
 refine ⟨by kernel_rfl,?_⟩
 refine aF (aC ?_)
 cases h0
 exact fR (rs := [.cell 4 62, .tmp 5]) rfl
theorem aCd {p0 : aM} {p1 : gG} {r : qU × Int} (h0 : lI p0 p1 = some r) : FnC Tryz.prog 69 [] [.agg [dI p0.Num,(dI p0.Den)], .agg [dI p1.LowDriver,(dI p1.HighDriver),(dI p1.LowDriven),(dI p1.HighDriven),(dI p1.Stages)]] [] (.tup [.agg [dL bU r.1.Train,(dI r.1.Error.Num),(dI r.1.Error.Den)],(dI r.2)]) := by
 refine fi 33 tok Tryz.func69 ?_
 unfold lI at h0
 refine sq [0,1,2,3] (bxx 3 ?_)
 refine bxx 4 ?_
 refine al 5 [zl,z0,z0] tok ?_
 refine pa (nx (aB (sq [0,1,2,3] ?_)))
 refine rL rfl (bO tok rfl rfl rfl rfl) (rL rfl (bO tok rfl rfl rfl rfl) ?_)
 obtain ⟨v1,hv1,h0⟩ := bnd h0
 refine rS rfl (aQ 6 (aFv hv1) rfl rfl rfl) (pa (nx (sq [0,1] ?_)))
 refine pm ?_
 refine rP rfl (cQ rfl rfl) (nx ?_)
 refine bC h0 rfl (fun hc h0 => ?_) (fun hc h0 => ?_)
 refine sq [0,1,2,3] (rP rfl (pbl (C0 := [zl,z0,z0]) tok rfl rfl rfl) (pm ?_))
 refine bst tok ?_
 refine pa (nx ?_)
 refine wa 6 121 2 5 0 ?_
 refine cM (xX (k := 6) (t' := aA (aA ((fun _ => .dead)) 4 (.ptr 5 0 1 0 0)) 5 (dI v1)) rfl (FzL.box (kb := 5) (ds := [dL bU ([] : List bL),z0,z0]) rfl rfl (by repeat (first | exact qA.nil | apply qA.cons | exact FzR.d _ | exact FzR.own rfl (by first | rfl | (simp; done) | (simp; omega)) | exact FzR.ptr rfl (by repeat (first | exact Drp.z _ | apply Drp.d)) | exact FzR.own' | exact FzR.ptr' | exact FzR.ref _ | apply FzR.agg | apply FzR.tup | apply FzR.fn | exact FzR.dead _)) (FzL.nil))) (aC (aJ ?_))
 cases h0
 exact fR (rs := [.cell 4 115, .tmp 5]) rfl
 refine sk (sq [0,1,2,3] (rL rfl (bO tok rfl rfl rfl rfl) (rL rfl (bO tok rfl rfl rfl rfl) ?_)))
 obtain ⟨v2,hv2,h0⟩ := bnd h0
 refine rS rfl (aQ 6 (aDa hv2) rfl rfl rfl) (pa (nx (sq [0,1,2,3,4,5,6,7,8] ?_)))
 refine pm ?_
 refine rL rfl (bO tok rfl rfl rfl rfl) ?_
 obtain ⟨v3,hv3,h0⟩ := bnd h0
 refine rS rfl (aQ 6 (aF5 hv3) rfl rfl rfl) (rP rfl (aL (r := .tup _) rfl) (rP rfl (aW rfl rfl) (rP rfl (aW rfl rfl) (al 6 [z0,z0] tok ?_))))
 refine bst tok ?_
 refine pa (nx (aB (sq [0,1] ?_)))
 refine pm ?_
 refine rP rfl (cQ rfl rfl) (nx ?_)
 refine bC h0 rfl (fun hc h0 => ?_) (fun hc h0 => ?_)
 refine sq [0,1,2,3] (rP rfl (pbl (C0 := [zl,z0,z0]) tok rfl rfl rfl) (pm ?_))
 refine bst tok ?_
 refine pa (nx ?_)
 refine wa 7 121 2 5 0 ?_
 refine cM (xX (k := 7) (t' := aA (aA ((fun _ => .dead)) 4 (.ptr 5 0 1 0 0)) 5 (dI v3.2)) rfl (FzL.box (kb := 5) (ds := [dL bU ([] : List bL),z0,z0]) rfl rfl (by repeat (first | exact qA.nil | apply qA.cons | exact FzR.d _ | exact FzR.own rfl (by first | rfl | (simp; done) | (simp; omega)) | exact FzR.ptr rfl (by repeat (first | exact Drp.z _ | apply Drp.d)) | exact FzR.own' | exact FzR.ptr' | exact FzR.ref _ | apply FzR.agg | apply FzR.tup | apply FzR.fn | exact FzR.dead _)) (FzL.nil))) (aC (aJ ?_))
 cases h0
 exact fR (rs := [.cell 4 115, .tmp 5]) rfl
 refine sk (sq [0,1,2,3,4] (pm ?_))
 refine rL rfl (bO tok rfl rfl rfl rfl) (rP rfl (pbl (C0 := [zl,z0,z0]) tok rfl rfl rfl) (bst tok ?_))
 refine pa (nx (aC ?_))
 cases h0
 exact fR (rs := [.cell 4 115, .tmp 5]) rfl
theorem pV {p0 : List cV} {r : List cV} (h0 : eK p0 = some r) : FnC Tryz.prog 226 [] [dL dV p0] [.live [⟨125,4, .data (List.map dV r)⟩]] (.own 0 0 r.length) := by
 refine fi 8 tok Tryz.func226 ?_
 unfold eK at h0
 obtain ⟨hq1,h0⟩ := cR h0
 cases h0
 refine yD (d := 0) rfl rfl (fun hne => ?_) (fun he A k hk => ?_)
 ·skip
  refine aB (bQ (is := [0]) rfl (rP rfl (aS (r := .d _) rfl) (aV (aF (aB (aB (bQ (is := [0,1]) rfl (rP rfl (aL (r := .d _) rfl) (rP rfl (oI tok rfl hne rfl rfl rfl) (aV (aF (nC rfl (cT (aF (aB (bQ (is := [0,1,2,3]) rfl (rS rfl (eT 3 tok rfl rfl rfl rfl) (rP rfl (aL (r := .d _) rfl) (rw1 rfl w0 rfl (gZ tok hq1 rfl rfl rfl rfl rfl rfl rfl rfl rfl rfl rfl rfl (fun _ => rfl)) (rP rfl (aS (r := .own _ _ _) rfl) (aV (aF (aC ?_)))))))))))))))))))))))
  exact fO (rs := [.tmp 2]) [3] rfl
 ·skip
  have he : p0 = [] := List.map_eq_nil_iff.1 he
  subst he
  cases A with
  | none =>
   refine aB (bQ (is := [0]) rfl (rP rfl (aS (r := .d _) rfl) (aV (aF (aB (aB (bQ (is := [0,1]) rfl (rP rfl (aL (r := .d _) rfl) (rP rfl (jS tok rfl rfl rfl rfl) (aV (aF (uH rfl (aB (bQ (is := [0]) rfl (rP rfl (aS (r := .d _) rfl) (aV (aF (cM (dQ 3 rfl 125 4 (d := 2) rfl) (aC (aJ ?_))))))))))))))))))))
   exact fO (rs := [.tmp 2]) [3] rfl
  | some a =>
   refine aB (bQ (is := [0]) rfl (rP rfl (aS (r := .d _) rfl) (aV (aF (aB (aB (bQ (is := [0,1]) rfl (rP rfl (aL (r := .d _) rfl) (rP rfl (jS tok rfl rfl rfl rfl) (aV (aF (nC rfl (cT (aF (cM (uU dV (d := 0) rfl hk) (aB (bQ (is := [0,1,2,3]) rfl (rS rfl (eT 3 tok rfl rfl rfl rfl) (rP rfl (aL (r := .d _) rfl) (rw1 rfl w0 rfl (gZ tok hq1 rfl rfl rfl rfl rfl rfl rfl rfl rfl rfl rfl rfl (fun _ => rfl)) (rP rfl (aS (r := .own _ _ _) rfl) (aV (aF (aC ?_))))))))))))))))))))))))
   exact fO (rs := [.tmp 2]) [3] rfl
theorem aC8 {p0 : dE} {r : dE} (h0 : lE p0 = some r) : FnC Tryz.prog 149 [] [.agg [dL bI p0.Arbors,(dL dV p0.Meshes)]] [.live [⟨123,2, .av (eS 1 bI r.Arbors)⟩], .live (qB 2 1 bI r.Arbors), .live [⟨125,4, .data (List.map dV r.Meshes)⟩]] (.agg [.own 0 0 r.Arbors.length, .own 2 0 r.Meshes.length]) := by
 refine fi 30 tok Tryz.func149 ?_
 unfold lE at h0
 refine sq [0,1] (bxx 3 ?_)
 refine al 4 [zl,zl] tok (nx (sq [0] ?_))
 refine al 5 [zl,zl] tok (nx ?_)
 obtain ⟨v9,h1,h0⟩ := bnd h0
 refine bF ⟨aA (aA (aA ((fun _ => .dead)) 1 (.ptr 3 0 1 0 0)) 2 (.ptr 4 0 1 0 0)) 3 (.ptr 5 0 1 0 0),lks [.no, .no, .no, .live [⟨27,2, .av [[dL bI p0.Arbors,(dL dV p0.Meshes)]]⟩], .live [⟨27,2, .av [[zl,zl]]⟩], .live [⟨27,2, .av [[.own 6 0 (v9).length,zl]]⟩], .live [⟨123,2, .av (eS 7 bI v9)⟩], .live (qB 2 1 bI v9)]⟩ ?_ ?_
 refine sq [0,1,2,3] (fa tok ?_)
 refine ld tok ?_
 refine rP rfl (aK tok rfl rfl rfl) (pm (nx (aE ?_)))
 refine aY (fun s5 => ⟨aA (aA (aA (aA (aA (aA ((fun _ => .dead)) 1 (.ptr 3 0 1 0 0)) 2 (.ptr 4 0 1 0 0)) 3 (.ptr 5 0 1 0 0)) 7 (dL bI p0.Arbors)) 8 (dI (p0.Arbors.length : Int))) 9 (dI s5.1),lks [.no, .no, .no, .live [⟨27,2, .av [[dL bI p0.Arbors,(dL dV p0.Meshes)]]⟩], .live [⟨27,2, .av [[zl,zl]]⟩], .live [⟨27,2, .av [[.own 6 0 (s5.2).length,zl]]⟩], .live [⟨123,2, .av (eS 7 bI s5.2)⟩], .live (qB 2 1 bI s5.2)]⟩) h1 ?_ (fun s5 y h2 => ?_)
 refine lW.trans_ (vR 6 rfl 123 2 (kb := 5) (j := 0) rfl rfl (by repeat (first | exact Spl.z _ | apply Spl.t | apply Spl.d))) (lW.trans_ (fD 7 (k := 6) 2 1 bI rfl rfl) ?_)
 exact wk [0,1,2,3,4,5,6,7]
 refine sq [0] (rP rfl (bB rfl rfl) (nx (aB ?_)))
 refine bC h2 rfl (fun hc h2 => ?_) (fun hc h2 => ?_)
 refine sk (aB (aE (sq [0,1,2,3] ?_)))
 obtain ⟨v6,hv6,h2⟩ := bnd h2
 refine rP rfl (cG tok hv6 rfl rfl rfl rfl rfl rfl) (rP rfl (bR tok rfl rfl rfl (by repeat (first | exact kE.z _ | apply kE.t))) (al 8 [ze,zl] tok ?_))
 refine bst tok (nx ?_)
 refine zQ (is := [0,1,2,3,4,5,6,7,8,9,10,11]) [0,1,0,4,0,16,48,124,252,511,1023,2047] follows (by kernel_rfl) (tfa tok ?_)
 refine tld tok ?_
 refine tfa tok ?_
 refine tld tok ?_
 refine tfa tok ?_
 refine tld tok ?_
 obtain ⟨v7,hv7,h2⟩ := bnd h2
 refine oH rfl w0 rfl (dJ 10 (fJ hv7) rfl rfl rfl) (tP rfl (pbl (C0 := [ze,zl]) tok rfl rfl rfl) (aPv rfl w0 rfl (aRj 11 tok rfl rfl rfl (by repeat (first | exact Els.nil _ | apply Els.cons (cs := [.d _]) rfl rfl rfl | apply Els.cons (cs := _ :: _) rfl rfl rfl)) rfl rfl rfl rfl) ?_))
 obtain ⟨hq8,h2⟩ := cR h2
 refine wP rfl w0 rfl (aOu tok (⟨v6.Name,v7⟩ : bV) hq8 rfl rfl rfl rfl rfl rfl rfl rfl rfl rfl rfl rfl rfl rfl rfl) (tfa tok ?_)
 refine uQ rfl w0 (pB (cs := [.own _ _ _]) tok rfl rfl rfl rfl rfl rfl rfl) (bY ?_)
 refine ⟨by kernel_rfl,_,lW.trans_ (aIo 12 (k := 6) (kf := 7) (k2 := 10) (⟨v6.Name,v7⟩ : bV) rfl rfl rfl rfl rfl rfl rfl (by repeat (first | exact aK2.nil | apply aK2.v | apply aK2.sl (by first | rfl | (simp; done)))) rfl rfl rfl) (lW.refl_),?_⟩
 refine aZ (aF (sr [0,1] (rP rfl (bD rfl rfl) (pm (aV ?_)))))
 refine bX ?_
 cases h2
 refine ⟨_,rfl,?_⟩
 exact wk [0,1,2,3,4,5,6,12]
 refine bH (cC ?_)
 cases h2
 refine cA ⟨_,rfl,fun e => ?_⟩
 subst e
 refine aR (aF ?_)
 exact wk [0,1,2,3,4,5,6,7]
 refine sq [0,1,2,3,4] (fa tok ?_)
 refine ld tok ?_
 obtain ⟨v10,hv10,h0⟩ := bnd h0
 refine rS rfl (aQ 8 (pV hv10) rfl rfl rfl) (fa tok ?_)
 refine rw0 rfl w0 (pB (cs := [.own _ _ _]) tok rfl rfl rfl rfl rfl rfl rfl) (nx (sq [0,1] (rL rfl (bO tok rfl rfl rfl rfl) (bst tok (nx (aC ?_))))))
 cases h0
 exact fO (rs := [.cell 2 27]) [6,7,8] rfl
theorem oZ {p0 : List bG} {r : List bG} (h0 : dW p0 = some r) : FnC Tryz.prog 150 [] [dL aT p0] [.live [⟨170,3, .data (List.map aT r)⟩]] (.own 0 0 r.length) := by
 refine fi 8 tok Tryz.func150 ?_
 unfold dW at h0
 obtain ⟨hq1,h0⟩ := cR h0
 cases h0
 refine yD (d := 0) rfl rfl (fun hne => ?_) (fun he A k hk => ?_)
 ·skip
  refine aB (bQ (is := [0]) rfl (rP rfl (aS (r := .d _) rfl) (aV (aF (aB (aB (bQ (is := [0,1]) rfl (rP rfl (aL (r := .d _) rfl) (rP rfl (oI tok rfl hne rfl rfl rfl) (aV (aF (nC rfl (cT (aF (aB (bQ (is := [0,1,2,3]) rfl (rS rfl (eT 3 tok rfl rfl rfl rfl) (rP rfl (aL (r := .d _) rfl) (rw1 rfl w0 rfl (gZ tok hq1 rfl rfl rfl rfl rfl rfl rfl rfl rfl rfl rfl rfl (fun _ => rfl)) (rP rfl (aS (r := .own _ _ _) rfl) (aV (aF (aC ?_)))))))))))))))))))))))
  exact fO (rs := [.tmp 2]) [3] rfl
 ·skip
  have he : p0 = [] := List.map_eq_nil_iff.1 he
  subst he
  cases A with
  | none =>
   refine aB (bQ (is := [0]) rfl (rP rfl (aS (r := .d _) rfl) (aV (aF (aB (aB (bQ (is := [0,1]) rfl (rP rfl (aL (r := .d _) rfl) (rP rfl (jS tok rfl rfl rfl rfl) (aV (aF (uH rfl (aB (bQ (is := [0]) rfl (rP rfl (aS (r := .d _) rfl) (aV (aF (cM (dQ 3 rfl 170 3 (d := 2) rfl) (aC (aJ ?_))))))))))))))))))))
   exact fO (rs := [.tmp 2]) [3] rfl
  | some a =>
   refine aB (bQ (is := [0]) rfl (rP rfl (aS (r := .d _) rfl) (aV (aF (aB (aB (bQ (is := [0,1]) rfl (rP rfl (aL (r := .d _) rfl) (rP rfl (jS tok rfl rfl rfl rfl) (aV (aF (nC rfl (cT (aF (cM (uU aT (d := 0) rfl hk) (aB (bQ (is := [0,1,2,3]) rfl (rS rfl (eT 3 tok rfl rfl rfl rfl) (rP rfl (aL (r := .d _) rfl) (rw1 rfl w0 rfl (gZ tok hq1 rfl rfl rfl rfl rfl rfl rfl rfl rfl rfl rfl rfl (fun _ => rfl)) (rP rfl (aS (r := .own _ _ _) rfl) (aV (aF (aC ?_))))))))))))))))))))))))
   exact fO (rs := [.tmp 2]) [3] rfl
theorem lD {p0 : List aO} {r : List aO} (h0 : dA p0 = some r) : FnC Tryz.prog 151 [] [dL aG p0] [.live [⟨181,3, .data (List.map aG r)⟩]] (.own 0 0 r.length) := by
 refine fi 8 tok Tryz.func151 ?_
 unfold dA at h0
 obtain ⟨hq1,h0⟩ := cR h0
 cases h0
 refine yD (d := 0) rfl rfl (fun hne => ?_) (fun he A k hk => ?_)
 ·skip
  refine aB (bQ (is := [0]) rfl (rP rfl (aS (r := .d _) rfl) (aV (aF (aB (aB (bQ (is := [0,1]) rfl (rP rfl (aL (r := .d _) rfl) (rP rfl (oI tok rfl hne rfl rfl rfl) (aV (aF (nC rfl (cT (aF (aB (bQ (is := [0,1,2,3]) rfl (rS rfl (eT 3 tok rfl rfl rfl rfl) (rP rfl (aL (r := .d _) rfl) (rw1 rfl w0 rfl (gZ tok hq1 rfl rfl rfl rfl rfl rfl rfl rfl rfl rfl rfl rfl (fun _ => rfl)) (rP rfl (aS (r := .own _ _ _) rfl) (aV (aF (aC ?_)))))))))))))))))))))))
  exact fO (rs := [.tmp 2]) [3] rfl
 ·skip
  have he : p0 = [] := List.map_eq_nil_iff.1 he
  subst he
  cases A with
  | none =>
   refine aB (bQ (is := [0]) rfl (rP rfl (aS (r := .d _) rfl) (aV (aF (aB (aB (bQ (is := [0,1]) rfl (rP rfl (aL (r := .d _) rfl) (rP rfl (jS tok rfl rfl rfl rfl) (aV (aF (uH rfl (aB (bQ (is := [0]) rfl (rP rfl (aS (r := .d _) rfl) (aV (aF (cM (dQ 3 rfl 181 3 (d := 2) rfl) (aC (aJ ?_))))))))))))))))))))
   exact fO (rs := [.tmp 2]) [3] rfl
  | some a =>
   refine aB (bQ (is := [0]) rfl (rP rfl (aS (r := .d _) rfl) (aV (aF (aB (aB (bQ (is := [0,1]) rfl (rP rfl (aL (r := .d _) rfl) (rP rfl (jS tok rfl rfl rfl rfl) (aV (aF (nC rfl (cT (aF (cM (uU aG (d := 0) rfl hk) (aB (bQ (is := [0,1,2,3]) rfl (rS rfl (eT 3 tok rfl rfl rfl rfl) (rP rfl (aL (r := .d _) rfl) (rw1 rfl w0 rfl (gZ tok hq1 rfl rfl rfl rfl rfl rfl rfl rfl rfl rfl rfl rfl (fun _ => rfl)) (rP rfl (aS (r := .own _ _ _) rfl) (aV (aF (aC ?_))))))))))))))))))))))))
   exact fO (rs := [.tmp 2]) [3] rfl
theorem xC {p0 : bP} {r : bP} (h0 : iG p0 = some r) : FnC Tryz.prog 70 [] [.agg [dS p0.Name,(dL bI p0.Works.Arbors),(dL dV p0.Works.Meshes),(dI p0.Minute),(dI p0.Hour),(dI p0.Escape),(dI p0.Teeth),(dI p0.Beats),(dS p0.Calendar.Name),(dL aT p0.Calendar.Months),(dL aG p0.Calendar.Rules),(dI p0.Calendar.Week),(dL cI p0.Cam),(dI p0.Strike)]] [.live [⟨123,2, .av (eS 1 bI r.Works.Arbors)⟩], .live (qB 2 1 bI r.Works.Arbors), .live [⟨125,4, .data (List.map dV r.Works.Meshes)⟩], .live [⟨170,3, .data (List.map aT r.Calendar.Months)⟩], .live [⟨181,3, .data (List.map aG r.Calendar.Rules)⟩], .live [⟨2,1, .data (List.map cI r.Cam)⟩]] (.agg [dS r.Name, .own 0 0 r.Works.Arbors.length, .own 2 0 r.Works.Meshes.length,(dI r.Minute),(dI r.Hour),(dI r.Escape),(dI r.Teeth),(dI r.Beats),(dS r.Calendar.Name), .own 3 0 r.Calendar.Months.length, .own 4 0 r.Calendar.Rules.length,(dI r.Calendar.Week), .own 5 0 r.Cam.length,(dI r.Strike)]) := by
 refine fi 24 tok Tryz.func70 ?_
 unfold iG at h0
 refine sq [0,1] (bxx 3 ?_)
 refine al 4 [ze,zl,zl,z0,z0,z0,z0,z0,ze,zl,zl,z0,zl,z0] tok (nx (sq [0,1,2,3,4] ?_))
 refine fa tok ?_
 refine rL rfl (bO tok rfl rfl rfl rfl) ?_
 obtain ⟨v1,hv1,h0⟩ := bnd h0
 refine rS rfl (aQ 5 (aC8 hv1) rfl rfl rfl) (fa tok ?_)
 refine bst tok (nx (sq [0,1,2,3,4,5,6] ?_))
 refine fa tok ?_
 refine fa tok ?_
 refine ld tok ?_
 obtain ⟨v2,hv2,h0⟩ := bnd h0
 refine rS rfl (aQ 8 (oZ hv2) rfl rfl rfl) (fa tok ?_)
 refine fa tok ?_
 refine rw0 rfl w0 (pB (cs := [.own _ _ _]) tok rfl rfl rfl rfl rfl rfl rfl) (nx (sq [0,1,2,3,4,5,6] (fa tok ?_)))
 refine fa tok ?_
 refine ld tok ?_
 obtain ⟨v3,hv3,h0⟩ := bnd h0
 refine rS rfl (aQ 9 (lD hv3) rfl rfl rfl) (fa tok ?_)
 refine fa tok ?_
 refine rw0 rfl w0 (pB (cs := [.own _ _ _]) tok rfl rfl rfl rfl rfl rfl rfl) (nx (sq [0,1,2,3,4] (fa tok ?_)))
 refine ld tok ?_
 obtain ⟨v4,hv4,h0⟩ := bnd h0
 refine rS rfl (aQ 10 (fJ hv4) rfl rfl rfl) (fa tok ?_)
 refine rw0 rfl w0 (pB (cs := [.own _ _ _]) tok rfl rfl rfl rfl rfl rfl rfl) (nx (sq [0,1] (rL rfl (bO tok rfl rfl rfl rfl) (bst tok (nx (aC ?_))))))
 cases h0
 exact fO (rs := [.cell 2 34]) [5,6,7,8,9,10] rfl
theorem pG {p0 : ByteArray} {p1 : Int} {p2 : Int} {p3 : aD} {p4 : Int} {r : bP × Int} (h0 : eQ p0 p1 p2 p3 p4 = some r) : FnC Tryz.prog 21 [] [dS p0,(dI p1),(dI p2), .agg [dS p3.Name,(dL aT p3.Months),(dL aG p3.Rules),(dI p3.Week)],(dI p4)] [.live [⟨123,2, .av (eS 1 bI r.1.Works.Arbors)⟩], .live (qB 2 1 bI r.1.Works.Arbors), .live [⟨125,4, .data (List.map dV r.1.Works.Meshes)⟩], .live [⟨170,3, .data (List.map aT r.1.Calendar.Months)⟩], .live [⟨181,3, .data (List.map aG r.1.Calendar.Rules)⟩], .live [⟨2,1, .data (List.map cI r.1.Cam)⟩]] (.tup [.agg [dS r.1.Name, .own 0 0 r.1.Works.Arbors.length, .own 2 0 r.1.Works.Meshes.length,(dI r.1.Minute),(dI r.1.Hour),(dI r.1.Escape),(dI r.1.Teeth),(dI r.1.Beats),(dS r.1.Calendar.Name), .own 3 0 r.1.Calendar.Months.length, .own 4 0 r.1.Calendar.Rules.length,(dI r.1.Calendar.Week), .own 5 0 r.1.Cam.length,(dI r.1.Strike)],(dI r.2)]) := by
 refine fi 118 tok Tryz.func21 ?_
 unfold eQ at h0
 refine sq [0,1,2] (bxx 3 ?_)
 refine al 4 [ze,zl,zl,z0,z0,z0,z0,z0,ze,zl,zl,z0,zl,z0] tok ?_
 refine pa (nx (aB (aE (sq [0,1,2,3] ?_))))
 refine rL rfl (bO tok rfl rfl rfl rfl) ?_
 obtain ⟨v1,hv1,h0⟩ := bnd h0
 refine rS rfl (aQ 5 (qQ hv1) rfl rfl rfl) (rP rfl (cJ rfl) (pa (nx ?_)))
 refine bZ h0 rfl (fun hc h0 => ?_) (fun hc h0 => ?_)
 refine sq [0,1,2] (rP rfl (pbl (C0 := [ze,zl,zl,z0,z0,z0,z0,z0,ze,zl,zl,z0,zl,z0]) tok rfl rfl rfl) (bst tok ?_))
 refine pa (nx ?_)
 refine wa 5 123 2 4 1 ?_
 refine cM (fD 6 (k := 5) 2 1 bI rfl rfl) (wa 7 125 4 4 2 ?_)
 refine wa 8 170 3 4 9 ?_
 refine wa 9 181 3 4 10 ?_
 refine wa 10 2 1 4 12 (aC ?_)
 refine bA (aJ ?_)
 cases h0
 exact fO (rs := [.cell 10 34, .tmp 11]) [5,6,7,8,9,10] rfl
 refine sq [0,1,2,3] (pm ?_)
 obtain ⟨v2,hv2,h0⟩ := bnd h0
 refine rS rfl (aQ 5 (vX hv2) rfl rfl rfl) (rP rfl (cJ rfl) (pa (nx ?_)))
 refine bZ h0 rfl (fun hc h0 => ?_) (fun hc h0 => ?_)
 refine sq [0,1,2] (rP rfl (pbl (C0 := [ze,zl,zl,z0,z0,z0,z0,z0,ze,zl,zl,z0,zl,z0]) tok rfl rfl rfl) (bst tok ?_))
 refine pa (nx ?_)
 refine wa 5 123 2 4 1 ?_
 refine cM (fD 6 (k := 5) 2 1 bI rfl rfl) (wa 7 125 4 4 2 ?_)
 refine wa 8 170 3 4 9 ?_
 refine wa 9 181 3 4 10 ?_
 refine wa 10 2 1 4 12 (aC ?_)
 refine bA (aJ ?_)
 cases h0
 exact fO (rs := [.cell 10 34, .tmp 11]) [5,6,7,8,9,10] rfl
 obtain ⟨v5,h1,h0⟩ := bnd h0
 refine bF ⟨aA (aA (aA (aA (aA (aA (aA ((fun _ => .dead)) 0 (dS p0)) 1 (dI p1)) 2 (dI p2)) 4 (dI p4)) 8 (.ptr 3 0 1 0 0)) 10 (.ptr 4 0 1 0 0)) 30 (dB v5),lks [.no, .no, .no, .live [⟨31,4, .av [[dS p3.Name,(dL aT p3.Months),(dL aG p3.Rules),(dI p3.Week)]]⟩], .live [⟨34,14, .av [[ze,zl,zl,z0,z0,z0,z0,z0,ze,zl,zl,z0,zl,z0]]⟩]]⟩ ?_ ?_
 refine sr [0,1,2,3,4,5,6,7,8] (pm ?_)
 obtain ⟨v3,hv3,h1⟩ := bnd h1
 refine rS rfl (aQ 5 (gS hv3) rfl rfl rfl) (rP rfl (cJ rfl) (pm ?_))
 refine fI (u := 34) h1 rfl (fun hc h1 => ?_) (fun hc h1 => ?_)
 iterate 3 refine k1 ?_
 refine pkt ?_
 refine pa (nx ?_)
 cases h1
 exact wk [0,1,2,3,4]
 refine pm1 ?_
 obtain ⟨v4,hv4,h1⟩ := bnd h1
 refine rs rfl (w1 rfl rfl rfl) rfl (aQ 5 (uC hv4) rfl rfl rfl) (rp rfl (w1 rfl rfl rfl) rfl (cJ rfl) (pkf ?_))
 refine pa (nx ?_)
 cases h1
 exact wk [0,1,2,3,4]
 refine bZ h0 rfl (fun hc h0 => ?_) (fun hc h0 => ?_)
 refine sq [0,1,2] (rP rfl (pbl (C0 := [ze,zl,zl,z0,z0,z0,z0,z0,ze,zl,zl,z0,zl,z0]) tok rfl rfl rfl) (bst tok ?_))
 refine pa (nx ?_)
 refine wa 5 123 2 4 1 ?_
 refine cM (fD 6 (k := 5) 2 1 bI rfl rfl) (wa 7 125 4 4 2 ?_)
 refine wa 8 170 3 4 9 ?_
 refine wa 9 181 3 4 10 ?_
 refine wa 10 2 1 4 12 (aC ?_)
 refine bA (aJ ?_)
 cases h0
 exact fO (rs := [.cell 10 34, .tmp 11]) [5,6,7,8,9,10] rfl
 refine cT (aZ (aF (sq [0,1,2,3,4,5,6,7,8,9] (rL rfl (bO tok rfl rfl rfl rfl) (pm ?_)))))
 obtain ⟨v6,hv6,h0⟩ := bnd h0
 refine rS rfl (aQ 5 (aGa hv6) rfl rfl rfl) (rP rfl (aL (r := .tup _) rfl) ?_)
 iterate 3 refine rP rfl (aW rfl rfl) ?_
 refine rP rfl (aS (r := .own _ _ _) rfl) (pa ?_)
 refine pa (nx (aB (sq [0,1] ?_)))
 refine pm ?_
 refine rP rfl (cQ rfl rfl) (nx ?_)
 refine bC h0 rfl (fun hc h0 => ?_) (fun hc h0 => ?_)
 refine sq [0,1,2,3] (rP rfl (pbl (C0 := [ze,zl,zl,z0,z0,z0,z0,z0,ze,zl,zl,z0,zl,z0]) tok rfl rfl rfl) (pm ?_))
 refine bst tok ?_
 refine pa (nx ?_)
 refine wa 6 123 2 4 1 ?_
 refine cM (fD 7 (k := 6) 2 1 bI rfl rfl) (wa 8 125 4 4 2 ?_)
 refine wa 9 170 3 4 9 ?_
 refine wa 10 181 3 4 10 ?_
 refine wa 11 2 1 4 12 (aC (aJ ?_))
 cases h0
 exact fO (rs := [.cell 10 34, .tmp 11]) [6,7,8,9,10,11] rfl
 refine sk (sq [0,1,2,3,4,5,6,7,8,9] (pm ?_))
 refine pm ?_
 refine rP rfl (eH rfl rfl) ?_
 obtain ⟨v7,hv7,h0⟩ := bnd h0
 refine rS rfl (aQ 6 (nZ hv7) rfl rfl rfl) (rP rfl (aL (r := .tup _) rfl) (rP rfl (aW rfl rfl) (rP rfl (aW rfl rfl) (al 6 [z0,z0] tok ?_))))
 refine bst tok ?_
 refine pa (nx (aB (sq [0,1] ?_)))
 refine pm ?_
 refine rP rfl (cQ rfl rfl) (nx ?_)
 refine bC h0 rfl (fun hc h0 => ?_) (fun hc h0 => ?_)
 refine sq [0,1,2,3] (rP rfl (pbl (C0 := [ze,zl,zl,z0,z0,z0,z0,z0,ze,zl,zl,z0,zl,z0]) tok rfl rfl rfl) (pm ?_))
 refine bst tok ?_
 refine pa (nx ?_)
 refine wa 7 123 2 4 1 ?_
 refine cM (fD 8 (k := 7) 2 1 bI rfl rfl) (wa 9 125 4 4 2 ?_)
 refine wa 10 170 3 4 9 ?_
 refine wa 11 181 3 4 10 ?_
 refine wa 12 2 1 4 12 (aC (aJ ?_))
 cases h0
 exact fO (rs := [.cell 10 34, .tmp 11]) [7,8,9,10,11,12] rfl
 refine sk (sq [0,1,2,3,4,5,6,7,8] (rL rfl (bO tok rfl rfl rfl rfl) (rP rfl (pbl (C0 := [z0,z0,z0,z0,z0]) tok rfl rfl rfl) ?_)))
 obtain ⟨v8,hv8,h0⟩ := bnd h0
 refine rS rfl (aQ 7 (aCd hv8) rfl rfl rfl) (rP rfl (aL (r := .tup _) rfl) (rP rfl (aW rfl rfl) (rP rfl (aW rfl rfl) (al 7 [zl,z0,z0] tok ?_))))
 refine bst tok ?_
 refine pa (nx (aB (sq [0,1] ?_)))
 refine pm ?_
 refine rP rfl (cQ rfl rfl) (nx ?_)
 refine bC h0 rfl (fun hc h0 => ?_) (fun hc h0 => ?_)
 refine sq [0,1,2,3] (rP rfl (pbl (C0 := [ze,zl,zl,z0,z0,z0,z0,z0,ze,zl,zl,z0,zl,z0]) tok rfl rfl rfl) (pm ?_))
 refine bst tok ?_
 refine pa (nx ?_)
 refine wa 8 123 2 4 1 ?_
 refine cM (fD 9 (k := 8) 2 1 bI rfl rfl) (wa 10 125 4 4 2 ?_)
 refine wa 11 170 3 4 9 ?_
 refine wa 12 181 3 4 10 ?_
 refine wa 13 2 1 4 12 (aC (aJ ?_))
 cases h0
 exact fO (rs := [.cell 10 34, .tmp 11]) [8,9,10,11,12,13] rfl
 refine sk (aB (sq [0,1,2,3] (fa tok ?_)))
 refine fa tok ?_
 refine ld tok ?_
 refine rP rfl (cQ rfl rfl) (nx ?_)
 refine bC h0 rfl (fun hc h0 => ?_) (fun hc h0 => ?_)
 refine sq [0,1,2] (rP rfl (pbl (C0 := [ze,zl,zl,z0,z0,z0,z0,z0,ze,zl,zl,z0,zl,z0]) tok rfl rfl rfl) (bst tok ?_))
 refine pa (nx ?_)
 refine wa 8 123 2 4 1 ?_
 refine cM (fD 9 (k := 8) 2 1 bI rfl rfl) (wa 10 125 4 4 2 ?_)
 refine wa 11 170 3 4 9 ?_
 refine wa 12 181 3 4 10 ?_
 refine wa 13 2 1 4 12 (aC (aJ ?_))
 cases h0
 exact fO (rs := [.cell 10 34, .tmp 11]) [8,9,10,11,12,13] rfl
 refine sk (aB (aI (is := [0,1,2,3,4,5,6,7,8,9,10,11]) [0,1,3,7,0,16,48,112,0,0,783,2047] follows (by kernel_rfl) (tfa tok ?_)))
 refine tld tok ?_
 obtain ⟨v9,hv9,h0⟩ := bnd h0
 refine tP rfl (cG tok hv9 rfl rfl rfl rfl rfl rfl) (tP rfl (bR tok rfl rfl rfl (by repeat (first | exact kE.z _ | apply kE.t))) (tfa tok ?_))
 refine tld tok ?_
 obtain ⟨v10,hv10,h0⟩ := bnd h0
 refine tP rfl (cG tok hv10 rfl rfl rfl rfl rfl rfl) (tP rfl (bR tok rfl rfl rfl (by repeat (first | exact kE.z _ | apply kE.t))) (aDc rfl w0 rfl rfl (fun hx hk => sX 8 (cs := [z0,z0]) tok rfl rfl hk) (aDc rfl w0 rfl rfl (fun hx hk => sX 9 (cs := [z0,z0]) tok rfl rfl hk) (uQ rfl w0 (pB (cs := _ :: _) tok rfl rfl rfl rfl rfl rfl rfl) (uQ rfl w0 (pB (cs := _ :: _) tok rfl rfl rfl rfl rfl rfl rfl) (bY ?_))))))
 refine ⟨by kernel_rfl,?_⟩
 refine aF (sq [0,1,2,3,4,5,6,7,8,9,10,11,12,13,14,15,16,17,18,19,20,21,22,23,24,25,26] (fa tok ?_))
 refine ld tok ?_
 refine rS rfl (qI 10 tok cI [v9.Driver,12] rfl rfl rfl (by repeat (first | exact Els.nil _ | apply Els.cons (cs := [.d _]) rfl rfl rfl | apply Els.cons (cs := _ :: _) rfl rfl rfl)) rfl rfl rfl (by repeat (first | exact dG.nil | (apply dG.cons; (repeat (first | exact iZ.nil | apply iZ.cons))))) rfl rfl) (rP rfl (pbl (C0 := [ze,zl]) tok rfl rfl rfl) (fa tok ?_))
 refine ld tok ?_
 refine fa tok ?_
 refine ld tok ?_
 refine rS rfl (qI 11 tok cI [v9.Driven,v10.Driver] rfl rfl rfl (by repeat (first | exact Els.nil _ | apply Els.cons (cs := [.d _]) rfl rfl rfl | apply Els.cons (cs := _ :: _) rfl rfl rfl)) rfl rfl rfl (by repeat (first | exact dG.nil | (apply dG.cons; (repeat (first | exact iZ.nil | apply iZ.cons))))) rfl rfl) (rP rfl (pbl (C0 := [ze,zl]) tok rfl rfl rfl) (fa tok ?_))
 refine ld tok ?_
 refine rS rfl (qI 12 tok cI [v10.Driven] rfl rfl rfl (by repeat (first | exact Els.nil _ | apply Els.cons (cs := [.d _]) rfl rfl rfl | apply Els.cons (cs := _ :: _) rfl rfl rfl)) rfl rfl rfl (by repeat (first | exact dG.nil | (apply dG.cons; (repeat (first | exact iZ.nil | apply iZ.cons))))) rfl rfl) (rP rfl (pbl (C0 := [ze,zl]) tok rfl rfl rfl) (rS rfl (qI 13 tok cI [36,10] rfl rfl rfl (by repeat (first | exact Els.nil _ | apply Els.cons (cs := [.d _]) rfl rfl rfl | apply Els.cons (cs := _ :: _) rfl rfl rfl)) rfl rfl rfl (by repeat (first | exact dG.nil | (apply dG.cons; (repeat (first | exact iZ.nil | apply iZ.cons))))) rfl rfl) (rP rfl (pbl (C0 := [ze,zl]) tok rfl rfl rfl) (rS rfl (qI 14 tok cI [40] rfl rfl rfl (by repeat (first | exact Els.nil _ | apply Els.cons (cs := [.d _]) rfl rfl rfl | apply Els.cons (cs := _ :: _) rfl rfl rfl)) rfl rfl rfl (by repeat (first | exact dG.nil | (apply dG.cons; (repeat (first | exact iZ.nil | apply iZ.cons))))) rfl rfl) (rP rfl (pbl (C0 := [ze,zl]) tok rfl rfl rfl) (jV (xX (k := 10) (t' := aA (aA (aA (aA (aA (aA (aA (aA (aA (aA (aA ((fun _ => .dead)) 0 (dS p0)) 1 (dI p1)) 2 (dI p2)) 8 (.ptr 3 0 1 0 0)) 10 (.ptr 4 0 1 0 0)) 12 (.own 5 0 (v6.1).length)) 88 (.agg [dS (⟨#[99,101,110,116,101,114]⟩ : ByteArray),(dL cI [v9.Driver,12])])) 94 (.agg [dS (⟨#[116,104,105,114,100]⟩ : ByteArray), .own 11 0 ([v9.Driven,v10.Driver]).length])) 98 (.agg [dS (⟨#[101,115,99,97,112,101]⟩ : ByteArray), .own 12 0 ([v10.Driven]).length])) 100 (.agg [dS (⟨#[109,105,110,117,116,101]⟩ : ByteArray), .own 13 0 ([36,10]).length])) 102 (.agg [dS (⟨#[104,111,117,114]⟩ : ByteArray), .own 14 0 ([40]).length])) rfl (FzL.nil)) (jV (xX (k := 11) (t' := aA (aA (aA (aA (aA (aA (aA (aA (aA (aA (aA ((fun _ => .dead)) 0 (dS p0)) 1 (dI p1)) 2 (dI p2)) 8 (.ptr 3 0 1 0 0)) 10 (.ptr 4 0 1 0 0)) 12 (.own 5 0 (v6.1).length)) 88 (.agg [dS (⟨#[99,101,110,116,101,114]⟩ : ByteArray),(dL cI [v9.Driver,12])])) 94 (.agg [dS (⟨#[116,104,105,114,100]⟩ : ByteArray),(dL cI [v9.Driven,v10.Driver])])) 98 (.agg [dS (⟨#[101,115,99,97,112,101]⟩ : ByteArray), .own 12 0 ([v10.Driven]).length])) 100 (.agg [dS (⟨#[109,105,110,117,116,101]⟩ : ByteArray), .own 13 0 ([36,10]).length])) 102 (.agg [dS (⟨#[104,111,117,114]⟩ : ByteArray), .own 14 0 ([40]).length])) rfl (FzL.nil)) (jV (xX (k := 12) (t' := aA (aA (aA (aA (aA (aA (aA (aA (aA (aA (aA ((fun _ => .dead)) 0 (dS p0)) 1 (dI p1)) 2 (dI p2)) 8 (.ptr 3 0 1 0 0)) 10 (.ptr 4 0 1 0 0)) 12 (.own 5 0 (v6.1).length)) 88 (.agg [dS (⟨#[99,101,110,116,101,114]⟩ : ByteArray),(dL cI [v9.Driver,12])])) 94 (.agg [dS (⟨#[116,104,105,114,100]⟩ : ByteArray),(dL cI [v9.Driven,v10.Driver])])) 98 (.agg [dS (⟨#[101,115,99,97,112,101]⟩ : ByteArray),(dL cI [v10.Driven])])) 100 (.agg [dS (⟨#[109,105,110,117,116,101]⟩ : ByteArray), .own 13 0 ([36,10]).length])) 102 (.agg [dS (⟨#[104,111,117,114]⟩ : ByteArray), .own 14 0 ([40]).length])) rfl (FzL.nil)) (jV (xX (k := 13) (t' := aA (aA (aA (aA (aA (aA (aA (aA (aA (aA (aA ((fun _ => .dead)) 0 (dS p0)) 1 (dI p1)) 2 (dI p2)) 8 (.ptr 3 0 1 0 0)) 10 (.ptr 4 0 1 0 0)) 12 (.own 5 0 (v6.1).length)) 88 (.agg [dS (⟨#[99,101,110,116,101,114]⟩ : ByteArray),(dL cI [v9.Driver,12])])) 94 (.agg [dS (⟨#[116,104,105,114,100]⟩ : ByteArray),(dL cI [v9.Driven,v10.Driver])])) 98 (.agg [dS (⟨#[101,115,99,97,112,101]⟩ : ByteArray),(dL cI [v10.Driven])])) 100 (.agg [dS (⟨#[109,105,110,117,116,101]⟩ : ByteArray),(dL cI [36,10])])) 102 (.agg [dS (⟨#[104,111,117,114]⟩ : ByteArray), .own 14 0 ([40]).length])) rfl (FzL.nil)) (jV (xX (k := 14) (t' := aA (aA (aA (aA (aA (aA (aA (aA (aA (aA (aA ((fun _ => .dead)) 0 (dS p0)) 1 (dI p1)) 2 (dI p2)) 8 (.ptr 3 0 1 0 0)) 10 (.ptr 4 0 1 0 0)) 12 (.own 5 0 (v6.1).length)) 88 (.agg [dS (⟨#[99,101,110,116,101,114]⟩ : ByteArray),(dL cI [v9.Driver,12])])) 94 (.agg [dS (⟨#[116,104,105,114,100]⟩ : ByteArray),(dL cI [v9.Driven,v10.Driver])])) 98 (.agg [dS (⟨#[101,115,99,97,112,101]⟩ : ByteArray),(dL cI [v10.Driven])])) 100 (.agg [dS (⟨#[109,105,110,117,116,101]⟩ : ByteArray),(dL cI [36,10])])) 102 (.agg [dS (⟨#[104,111,117,114]⟩ : ByteArray),(dL cI [40])])) rfl (FzL.nil)) (rS rfl (qI 15 tok bI [(⟨(⟨#[99,101,110,116,101,114]⟩ : ByteArray),[v9.Driver,12]⟩ : bV),(⟨(⟨#[116,104,105,114,100]⟩ : ByteArray),[v9.Driven,v10.Driver]⟩ : bV),(⟨(⟨#[101,115,99,97,112,101]⟩ : ByteArray),[v10.Driven]⟩ : bV),(⟨(⟨#[109,105,110,117,116,101]⟩ : ByteArray),[36,10]⟩ : bV),(⟨(⟨#[104,111,117,114]⟩ : ByteArray),[40]⟩ : bV)] rfl rfl rfl (by repeat (first | exact Els.nil _ | apply Els.cons (cs := [.d _]) rfl rfl rfl | apply Els.cons (cs := _ :: _) rfl rfl rfl)) rfl rfl rfl (by repeat (first | exact dG.nil | (apply dG.cons; (repeat (first | exact iZ.nil | apply iZ.cons))))) rfl rfl) ?_)))))))))))
 iterate 4 refine rP rfl (pbl (C0 := [z0,z0,z0,z0]) tok rfl rfl rfl) ?_
 refine rS rfl (qI 16 tok dV [(⟨0,0,1,0⟩ : cV),(⟨1,1,2,0⟩ : cV),(⟨0,1,3,0⟩ : cV),(⟨3,1,4,0⟩ : cV)] rfl rfl rfl (by repeat (first | exact Els.nil _ | apply Els.cons (cs := [.d _]) rfl rfl rfl | apply Els.cons (cs := _ :: _) rfl rfl rfl)) rfl rfl rfl (by repeat (first | exact dG.nil | (apply dG.cons; (repeat (first | exact iZ.nil | apply iZ.cons))))) rfl rfl) (rP rfl (pbl (C0 := [zl,zl]) tok rfl rfl rfl) (al 17 [zl,zl] tok ?_))
 refine bst tok (nx (sq [0,1,2,3,4,5,6,7,8,9] ?_))
 refine pm ?_
 refine rL rfl (bO tok rfl rfl rfl rfl) (pm ?_)
 refine pm ?_
 refine rL rfl (bO tok rfl rfl rfl rfl) (rP rfl (aL (r := .own _ _ _) rfl) (rP rfl (pbl (C0 := [ze,zl,zl,z0,z0,z0,z0,z0,ze,zl,zl,z0,zl,z0]) tok rfl rfl rfl) ?_))
 obtain ⟨v11,hv11,h0⟩ := bnd h0
 refine rS rfl (fU 18 (xC hv11) rfl rfl) (bst tok ?_)
 refine pa (nx (aC ?_))
 cases h0
 exact fO (rs := [.cell 10 34, .tmp 11]) [18,19,20,21,22,23] rfl
theorem wR {p0 : List Int} {p1 : List Int} {r : Bool} (h0 : kP p0 p1 = some r) : FnC Tryz.prog 101 [] [dL cI p0,(dL cI p1)] [] (dB r) := by
 refine fi 26 tok Tryz.func101 ?_
 unfold kP at h0
 refine sq [0] (pa (nx (aB (sq [0,1,2,3,4] ?_))))
 refine pm ?_
 refine rP rfl (aK tok rfl rfl rfl) (pm ?_)
 refine rP rfl (aK tok rfl rfl rfl) (rP rfl (cQ rfl rfl) (nx ?_))
 refine bC h0 rfl (fun hc h0 => ?_) (fun hc h0 => ?_)
 refine sq [0] (pa (nx (aC (aJ ?_))))
 cases h0
 exact r0t 4 rfl
 refine sk ?_
 obtain ⟨v7x,h1,h0⟩ := bnd h0
 refine eL v7x (fun v7 => ⟨(fun _ => .dead),lks [.no, .no, .no]⟩) ?_ ?_
 refine sq [0] (pa (nx (aE ?_)))
 refine aY (fun s4 => ⟨aA (aA (aA ((fun _ => .dead)) 0 (dL cI p0)) 1 (dL cI p1)) 5 (dI s4),lks [.no, .no, .no]⟩) h1 ?_ (fun s4 y h2 => ?_)
 exact wk [0,1,2]
 refine aB (sq [0,1,2,3] (pm ?_))
 refine pm ?_
 refine rP rfl (aK tok rfl rfl rfl) (rP rfl (bB rfl rfl) (nx ?_))
 refine bC h2 rfl (fun hc h2 => ?_) (fun hc h2 => ?_)
 refine sk (aB (aE (aB (aI (is := [0,1,2,3,4,5,6,7,8]) [0,0,3,7,0,0,48,112,255] follows (by kernel_rfl) (tpm ?_)))))
 refine tpm ?_
 obtain ⟨v5,hv5,h2⟩ := bnd h2
 refine tP rfl (cG tok hv5 rfl rfl rfl rfl rfl rfl) (tlr tok ?_)
 refine tpm ?_
 refine tpm ?_
 obtain ⟨v6,hv6,h2⟩ := bnd h2
 refine tP rfl (cG tok hv6 rfl rfl rfl rfl rfl rfl) (tlr tok ?_)
 refine tP rfl (cQ rfl rfl) (bY ?_)
 refine ⟨by kernel_rfl,?_⟩
 refine aF ?_
 refine bC h2 rfl (fun hc h2 => ?_) (fun hc h2 => ?_)
 refine sq [0] (pa (nx (aC ?_)))
 refine bA (aJ ?_)
 cases h2
 refine dZ ⟨_,rfl,fun e => ?_⟩
 subst e
 refine bA ?_
 replace h0 := gU h0
 refine aJ ?_
 cases h0
 exact r0t 4 rfl
 refine cT (aZ (aF (sr [0,1,2] (pm ?_))))
 refine rP rfl (bD rfl rfl) (pa (aV ?_))
 refine bX ?_
 cases h2
 refine ⟨_,rfl,?_⟩
 exact wk [0,1,2]
 refine bH (cC ?_)
 cases h2
 refine cA ⟨_,rfl,fun e => ?_⟩
 subst e
 refine aR (aF ?_)
 refine ⟨_,rfl,?_⟩
 exact wk [0,1,2]
 rintro v7 rfl
 replace h0 := nN h0
 refine sq [0] (pa (nx (aC ?_)))
 cases h0
 exact r0t 4 rfl
theorem aFs {p0 : bV} {p1 : bV} {r : Bool} (h0 : oV p0 p1 = some r) : FnC Tryz.prog 243 [] [.agg [dS p0.Name,(dL cI p0.Wheels)], .agg [dS p1.Name,(dL cI p1.Wheels)]] [] (dB r) := by
 refine fi 16 tok Tryz.func243 ?_
 unfold oV at h0
 refine sq [0,1,2] (bxx 3 ?_)
 refine bxx 4 ?_
 refine pa (nx (aB (sq [0,1,2,3,4] ?_)))
 refine fa tok ?_
 refine ld tok ?_
 refine fa tok ?_
 refine ld tok ?_
 refine rP rfl (vS rfl rfl) (nx ?_)
 refine bC h0 rfl (fun hc h0 => ?_) (fun hc h0 => ?_)
 refine sq [0] (pa (nx (aC (aJ ?_))))
 cases h0
 exact r0t 4 rfl
 refine sk (aB (sq [0,1,2,3,4,5] (fa tok ?_)))
 refine ld tok ?_
 refine fa tok ?_
 refine ld tok ?_
 obtain ⟨v1,hv1,h0⟩ := bnd h0
 refine rS rfl (aQ 5 (wR hv1) rfl rfl rfl) (rP rfl (cJ rfl) (nx ?_))
 refine bZ h0 rfl (fun hc h0 => ?_) (fun hc h0 => ?_)
 refine sq [0] (pa (nx (aC (aJ ?_))))
 cases h0
 exact r0t 4 rfl
 refine sk (sq [0] (pa (nx (aC ?_))))
 cases h0
 exact r0t 4 rfl
theorem aEm {p0 : List bV} {p1 : List bV} {r : Bool} (h0 : nK p0 p1 = some r) : FnC Tryz.prog 180 [] [dL bI p0,(dL bI p1)] [] (dB r) := by
 refine fi 27 tok Tryz.func180 ?_
 unfold nK at h0
 refine sq [0] (pa (nx (aB (sq [0,1,2,3,4] ?_))))
 refine pm ?_
 refine rP rfl (aK tok rfl rfl rfl) (pm ?_)
 refine rP rfl (aK tok rfl rfl rfl) (rP rfl (cQ rfl rfl) (nx ?_))
 refine bC h0 rfl (fun hc h0 => ?_) (fun hc h0 => ?_)
 refine sq [0] (pa (nx (aC (aJ ?_))))
 cases h0
 exact r0t 4 rfl
 refine sk ?_
 obtain ⟨v9x,h1,h0⟩ := bnd h0
 refine eL v9x (fun v9 => ⟨(fun _ => .dead),lks [.no, .no, .no]⟩) ?_ ?_
 refine sq [0] (pa (nx (aE ?_)))
 refine aY (fun s5 => ⟨aA (aA (aA ((fun _ => .dead)) 0 (dL bI p0)) 1 (dL bI p1)) 5 (dI s5),lks [.no, .no, .no]⟩) h1 ?_ (fun s5 y h2 => ?_)
 exact wk [0,1,2]
 refine aB (sq [0,1,2,3] (pm ?_))
 refine pm ?_
 refine rP rfl (aK tok rfl rfl rfl) (rP rfl (bB rfl rfl) (nx ?_))
 refine bC h2 rfl (fun hc h2 => ?_) (fun hc h2 => ?_)
 refine sk (aB (aE (aB (aI (is := [0,1,2,3,4,5,6,7,8,9]) [0,0,3,7,0,0,48,112,255,511] follows (by kernel_rfl) (tpm ?_)))))
 refine tpm ?_
 obtain ⟨v6,hv6,h2⟩ := bnd h2
 refine tP rfl (cG tok hv6 rfl rfl rfl rfl rfl rfl) (tP rfl (bR tok rfl rfl rfl (by repeat (first | exact kE.z _ | apply kE.t))) (tpm ?_))
 refine tpm ?_
 obtain ⟨v7,hv7,h2⟩ := bnd h2
 refine tP rfl (cG tok hv7 rfl rfl rfl rfl rfl rfl) (tP rfl (bR tok rfl rfl rfl (by repeat (first | exact kE.z _ | apply kE.t))) ?_)
 obtain ⟨v8,hv8,h2⟩ := bnd h2
 refine oH rfl w0 rfl (dJ 3 (aFs hv8) rfl rfl rfl) (tP rfl (cJ rfl) (bY ?_))
 refine ⟨by kernel_rfl,?_⟩
 refine aF ?_
 refine bZ h2 rfl (fun hc h2 => ?_) (fun hc h2 => ?_)
 refine sq [0] (pa (nx (aC ?_)))
 refine bA (aJ ?_)
 cases h2
 refine dZ ⟨_,rfl,fun e => ?_⟩
 subst e
 refine bA ?_
 replace h0 := gU h0
 refine aJ ?_
 cases h0
 exact r0t 4 rfl
 refine cT (aZ (aF (sr [0,1,2] (pm ?_))))
 refine rP rfl (bD rfl rfl) (pa (aV ?_))
 refine bX ?_
 cases h2
 refine ⟨_,rfl,?_⟩
 exact wk [0,1,2]
 refine bH (cC ?_)
 cases h2
 refine cA ⟨_,rfl,fun e => ?_⟩
 subst e
 refine aR (aF ?_)
 refine ⟨_,rfl,?_⟩
 exact wk [0,1,2]
 rintro v9 rfl
 replace h0 := nN h0
 refine sq [0] (pa (nx (aC ?_)))
 cases h0
 exact r0t 4 rfl
theorem aIi {p0 : cV} {p1 : cV} {r : Bool} (h0 : qK p0 p1 = some r) : FnC Tryz.prog 244 [] [.agg [dI p0.A,(dI p0.WheelA),(dI p0.B),(dI p0.WheelB)], .agg [dI p1.A,(dI p1.WheelA),(dI p1.B),(dI p1.WheelB)]] [] (dB r) := by
 refine fi 25 tok Tryz.func244 ?_
 unfold qK at h0
 refine sq [0,1,2] (bxx 3 ?_)
 refine bxx 4 ?_
 refine pa (nx (aB (sq [0,1,2,3,4] ?_)))
 refine fa tok ?_
 refine ld tok ?_
 refine fa tok ?_
 refine ld tok ?_
 refine rP rfl (cQ rfl rfl) (nx ?_)
 refine bC h0 rfl (fun hc h0 => ?_) (fun hc h0 => ?_)
 refine sq [0] (pa (nx (aC (aJ ?_))))
 cases h0
 exact r0t 4 rfl
 refine sk (aB (sq [0,1,2,3,4] (fa tok ?_)))
 refine ld tok ?_
 refine fa tok ?_
 refine ld tok ?_
 refine rP rfl (cQ rfl rfl) (nx ?_)
 refine bC h0 rfl (fun hc h0 => ?_) (fun hc h0 => ?_)
 refine sq [0] (pa (nx (aC (aJ ?_))))
 cases h0
 exact r0t 4 rfl
 refine sk (aB (sq [0,1,2,3,4] (fa tok ?_)))
 refine ld tok ?_
 refine fa tok ?_
 refine ld tok ?_
 refine rP rfl (cQ rfl rfl) (nx ?_)
 refine bC h0 rfl (fun hc h0 => ?_) (fun hc h0 => ?_)
 refine sq [0] (pa (nx (aC (aJ ?_))))
 cases h0
 exact r0t 4 rfl
 refine sk (aB (sq [0,1,2,3,4] (fa tok ?_)))
 refine ld tok ?_
 refine fa tok ?_
 refine ld tok ?_
 refine rP rfl (cQ rfl rfl) (nx ?_)
 refine bC h0 rfl (fun hc h0 => ?_) (fun hc h0 => ?_)
 refine sq [0] (pa (nx (aC (aJ ?_))))
 cases h0
 exact r0t 4 rfl
 refine sk (sq [0] (pa (nx (aC ?_))))
 cases h0
 exact r0t 4 rfl
theorem aFp {p0 : List cV} {p1 : List cV} {r : Bool} (h0 : oE p0 p1 = some r) : FnC Tryz.prog 181 [] [dL dV p0,(dL dV p1)] [] (dB r) := by
 refine fi 27 tok Tryz.func181 ?_
 unfold oE at h0
 refine sq [0] (pa (nx (aB (sq [0,1,2,3,4] ?_))))
 refine pm ?_
 refine rP rfl (aK tok rfl rfl rfl) (pm ?_)
 refine rP rfl (aK tok rfl rfl rfl) (rP rfl (cQ rfl rfl) (nx ?_))
 refine bC h0 rfl (fun hc h0 => ?_) (fun hc h0 => ?_)
 refine sq [0] (pa (nx (aC (aJ ?_))))
 cases h0
 exact r0t 4 rfl
 refine sk ?_
 obtain ⟨v9x,h1,h0⟩ := bnd h0
 refine eL v9x (fun v9 => ⟨(fun _ => .dead),lks [.no, .no, .no]⟩) ?_ ?_
 refine sq [0] (pa (nx (aE ?_)))
 refine aY (fun s5 => ⟨aA (aA (aA ((fun _ => .dead)) 0 (dL dV p0)) 1 (dL dV p1)) 5 (dI s5),lks [.no, .no, .no]⟩) h1 ?_ (fun s5 y h2 => ?_)
 exact wk [0,1,2]
 refine aB (sq [0,1,2,3] (pm ?_))
 refine pm ?_
 refine rP rfl (aK tok rfl rfl rfl) (rP rfl (bB rfl rfl) (nx ?_))
 refine bC h2 rfl (fun hc h2 => ?_) (fun hc h2 => ?_)
 refine sk (aB (aE (aB (aI (is := [0,1,2,3,4,5,6,7,8,9]) [0,0,3,7,0,0,48,112,255,511] follows (by kernel_rfl) (tpm ?_)))))
 refine tpm ?_
 obtain ⟨v6,hv6,h2⟩ := bnd h2
 refine tP rfl (cG tok hv6 rfl rfl rfl rfl rfl rfl) (tP rfl (bR tok rfl rfl rfl (by repeat (first | exact kE.z _ | apply kE.t))) (tpm ?_))
 refine tpm ?_
 obtain ⟨v7,hv7,h2⟩ := bnd h2
 refine tP rfl (cG tok hv7 rfl rfl rfl rfl rfl rfl) (tP rfl (bR tok rfl rfl rfl (by repeat (first | exact kE.z _ | apply kE.t))) ?_)
 obtain ⟨v8,hv8,h2⟩ := bnd h2
 refine oH rfl w0 rfl (dJ 3 (aIi hv8) rfl rfl rfl) (tP rfl (cJ rfl) (bY ?_))
 refine ⟨by kernel_rfl,?_⟩
 refine aF ?_
 refine bZ h2 rfl (fun hc h2 => ?_) (fun hc h2 => ?_)
 refine sq [0] (pa (nx (aC ?_)))
 refine bA (aJ ?_)
 cases h2
 refine dZ ⟨_,rfl,fun e => ?_⟩
 subst e
 refine bA ?_
 replace h0 := gU h0
 refine aJ ?_
 cases h0
 exact r0t 4 rfl
 refine cT (aZ (aF (sr [0,1,2] (pm ?_))))
 refine rP rfl (bD rfl rfl) (pa (aV ?_))
 refine bX ?_
 cases h2
 refine ⟨_,rfl,?_⟩
 exact wk [0,1,2]
 refine bH (cC ?_)
 cases h2
 refine cA ⟨_,rfl,fun e => ?_⟩
 subst e
 refine aR (aF ?_)
 refine ⟨_,rfl,?_⟩
 exact wk [0,1,2]
 rintro v9 rfl
 replace h0 := nN h0
 refine sq [0] (pa (nx (aC ?_)))
 cases h0
 exact r0t 4 rfl
theorem aFm {p0 : dE} {p1 : dE} {r : Bool} (h0 : oK p0 p1 = some r) : FnC Tryz.prog 100 [] [.agg [dL bI p0.Arbors,(dL dV p0.Meshes)], .agg [dL bI p1.Arbors,(dL dV p1.Meshes)]] [] (dB r) := by
 refine fi 17 tok Tryz.func100 ?_
 unfold oK at h0
 refine sq [0,1,2] (bxx 3 ?_)
 refine bxx 4 ?_
 refine pa (nx (aB (sq [0,1,2,3,4,5] ?_)))
 refine fa tok ?_
 refine ld tok ?_
 refine fa tok ?_
 refine ld tok ?_
 obtain ⟨v1,hv1,h0⟩ := bnd h0
 refine rS rfl (aQ 5 (aEm hv1) rfl rfl rfl) (rP rfl (cJ rfl) (nx ?_))
 refine bZ h0 rfl (fun hc h0 => ?_) (fun hc h0 => ?_)
 refine sq [0] (pa (nx (aC (aJ ?_))))
 cases h0
 exact r0t 4 rfl
 refine sk (aB (sq [0,1,2,3,4,5] (fa tok ?_)))
 refine ld tok ?_
 refine fa tok ?_
 refine ld tok ?_
 obtain ⟨v2,hv2,h0⟩ := bnd h0
 refine rS rfl (aQ 5 (aFp hv2) rfl rfl rfl) (rP rfl (cJ rfl) (nx ?_))
 refine bZ h0 rfl (fun hc h0 => ?_) (fun hc h0 => ?_)
 refine sq [0] (pa (nx (aC (aJ ?_))))
 cases h0
 exact r0t 4 rfl
 refine sk (sq [0] (pa (nx (aC ?_))))
 cases h0
 exact r0t 4 rfl
theorem aFq {p0 : bG} {p1 : bG} {r : Bool} (h0 : oO p0 p1 = some r) : FnC Tryz.prog 182 [] [.agg [dS p0.Name,(dI p0.Days),(dI p0.Leap)], .agg [dS p1.Name,(dI p1.Days),(dI p1.Leap)]] [] (dB r) := by
 refine fi 20 tok Tryz.func182 ?_
 unfold oO at h0
 refine sq [0,1,2] (bxx 3 ?_)
 refine bxx 4 ?_
 refine pa (nx (aB (sq [0,1,2,3,4] ?_)))
 refine fa tok ?_
 refine ld tok ?_
 refine fa tok ?_
 refine ld tok ?_
 refine rP rfl (vS rfl rfl) (nx ?_)
 refine bC h0 rfl (fun hc h0 => ?_) (fun hc h0 => ?_)
 refine sq [0] (pa (nx (aC (aJ ?_))))
 cases h0
 exact r0t 4 rfl
 refine sk (aB (sq [0,1,2,3,4] (fa tok ?_)))
 refine ld tok ?_
 refine fa tok ?_
 refine ld tok ?_
 refine rP rfl (cQ rfl rfl) (nx ?_)
 refine bC h0 rfl (fun hc h0 => ?_) (fun hc h0 => ?_)
 refine sq [0] (pa (nx (aC (aJ ?_))))
 cases h0
 exact r0t 4 rfl
 refine sk (aB (sq [0,1,2,3,4] (fa tok ?_)))
 refine ld tok ?_
 refine fa tok ?_
 refine ld tok ?_
 refine rP rfl (cQ rfl rfl) (nx ?_)
 refine bC h0 rfl (fun hc h0 => ?_) (fun hc h0 => ?_)
 refine sq [0] (pa (nx (aC (aJ ?_))))
 cases h0
 exact r0t 4 rfl
 refine sk (sq [0] (pa (nx (aC ?_))))
 cases h0
 exact r0t 4 rfl
theorem aEn {p0 : List bG} {p1 : List bG} {r : Bool} (h0 : nE p0 p1 = some r) : FnC Tryz.prog 102 [] [dL aT p0,(dL aT p1)] [] (dB r) := by
 refine fi 27 tok Tryz.func102 ?_
 unfold nE at h0
 refine sq [0] (pa (nx (aB (sq [0,1,2,3,4] ?_))))
 refine pm ?_
 refine rP rfl (aK tok rfl rfl rfl) (pm ?_)
 refine rP rfl (aK tok rfl rfl rfl) (rP rfl (cQ rfl rfl) (nx ?_))
 refine bC h0 rfl (fun hc h0 => ?_) (fun hc h0 => ?_)
 refine sq [0] (pa (nx (aC (aJ ?_))))
 cases h0
 exact r0t 4 rfl
 refine sk ?_
 obtain ⟨v9x,h1,h0⟩ := bnd h0
 refine eL v9x (fun v9 => ⟨(fun _ => .dead),lks [.no, .no, .no]⟩) ?_ ?_
 refine sq [0] (pa (nx (aE ?_)))
 refine aY (fun s5 => ⟨aA (aA (aA ((fun _ => .dead)) 0 (dL aT p0)) 1 (dL aT p1)) 5 (dI s5),lks [.no, .no, .no]⟩) h1 ?_ (fun s5 y h2 => ?_)
 exact wk [0,1,2]
 refine aB (sq [0,1,2,3] (pm ?_))
 refine pm ?_
 refine rP rfl (aK tok rfl rfl rfl) (rP rfl (bB rfl rfl) (nx ?_))
 refine bC h2 rfl (fun hc h2 => ?_) (fun hc h2 => ?_)
 refine sk (aB (aE (aB (aI (is := [0,1,2,3,4,5,6,7,8,9]) [0,0,3,7,0,0,48,112,255,511] follows (by kernel_rfl) (tpm ?_)))))
 refine tpm ?_
 obtain ⟨v6,hv6,h2⟩ := bnd h2
 refine tP rfl (cG tok hv6 rfl rfl rfl rfl rfl rfl) (tP rfl (bR tok rfl rfl rfl (by repeat (first | exact kE.z _ | apply kE.t))) (tpm ?_))
 refine tpm ?_
 obtain ⟨v7,hv7,h2⟩ := bnd h2
 refine tP rfl (cG tok hv7 rfl rfl rfl rfl rfl rfl) (tP rfl (bR tok rfl rfl rfl (by repeat (first | exact kE.z _ | apply kE.t))) ?_)
 obtain ⟨v8,hv8,h2⟩ := bnd h2
 refine oH rfl w0 rfl (dJ 3 (aFq hv8) rfl rfl rfl) (tP rfl (cJ rfl) (bY ?_))
 refine ⟨by kernel_rfl,?_⟩
 refine aF ?_
 refine bZ h2 rfl (fun hc h2 => ?_) (fun hc h2 => ?_)
 refine sq [0] (pa (nx (aC ?_)))
 refine bA (aJ ?_)
 cases h2
 refine dZ ⟨_,rfl,fun e => ?_⟩
 subst e
 refine bA ?_
 replace h0 := gU h0
 refine aJ ?_
 cases h0
 exact r0t 4 rfl
 refine cT (aZ (aF (sr [0,1,2] (pm ?_))))
 refine rP rfl (bD rfl rfl) (pa (aV ?_))
 refine bX ?_
 cases h2
 refine ⟨_,rfl,?_⟩
 exact wk [0,1,2]
 refine bH (cC ?_)
 cases h2
 refine cA ⟨_,rfl,fun e => ?_⟩
 subst e
 refine aR (aF ?_)
 refine ⟨_,rfl,?_⟩
 exact wk [0,1,2]
 rintro v9 rfl
 replace h0 := nN h0
 refine sq [0] (pa (nx (aC ?_)))
 cases h0
 exact r0t 4 rfl
theorem aAp {p0 : aO} {p1 : aO} {r : Bool} (h0 : kB p0 p1 = some r) : FnC Tryz.prog 183 [] [.agg [dI p0.Every,(dI p0.Rest),(dB p0.Leap)], .agg [dI p1.Every,(dI p1.Rest),(dB p1.Leap)]] [] (dB r) := by
 refine fi 20 tok Tryz.func183 ?_
 unfold kB at h0
 refine sq [0,1,2] (bxx 3 ?_)
 refine bxx 4 ?_
 refine pa (nx (aB (sq [0,1,2,3,4] ?_)))
 refine fa tok ?_
 refine ld tok ?_
 refine fa tok ?_
 refine ld tok ?_
 refine rP rfl (cQ rfl rfl) (nx ?_)
 refine bC h0 rfl (fun hc h0 => ?_) (fun hc h0 => ?_)
 refine sq [0] (pa (nx (aC (aJ ?_))))
 cases h0
 exact r0t 4 rfl
 refine sk (aB (sq [0,1,2,3,4] (fa tok ?_)))
 refine ld tok ?_
 refine fa tok ?_
 refine ld tok ?_
 refine rP rfl (cQ rfl rfl) (nx ?_)
 refine bC h0 rfl (fun hc h0 => ?_) (fun hc h0 => ?_)
 refine sq [0] (pa (nx (aC (aJ ?_))))
 cases h0
 exact r0t 4 rfl
 refine sk (aB (sq [0,1,2,3,4] (fa tok ?_)))
 refine ld tok ?_
 refine fa tok ?_
 refine ld tok ?_
 refine rP rfl (aCq tok rfl rfl rfl rfl) (nx ?_)
 refine bZ h0 rfl (fun hc h0 => ?_) (fun hc h0 => ?_)
 refine sq [0] (pa (nx (aC (aJ ?_))))
 cases h0
 exact r0t 4 rfl
 refine sk (sq [0] (pa (nx (aC ?_))))
 cases h0
 exact r0t 4 rfl
theorem aAc {p0 : List aO} {p1 : List aO} {r : Bool} (h0 : jJ p0 p1 = some r) : FnC Tryz.prog 103 [] [dL aG p0,(dL aG p1)] [] (dB r) := by
 refine fi 27 tok Tryz.func103 ?_
 unfold jJ at h0
 refine sq [0] (pa (nx (aB (sq [0,1,2,3,4] ?_))))
 refine pm ?_
 refine rP rfl (aK tok rfl rfl rfl) (pm ?_)
 refine rP rfl (aK tok rfl rfl rfl) (rP rfl (cQ rfl rfl) (nx ?_))
 refine bC h0 rfl (fun hc h0 => ?_) (fun hc h0 => ?_)
 refine sq [0] (pa (nx (aC (aJ ?_))))
 cases h0
 exact r0t 4 rfl
 refine sk ?_
 obtain ⟨v9x,h1,h0⟩ := bnd h0
 refine eL v9x (fun v9 => ⟨(fun _ => .dead),lks [.no, .no, .no]⟩) ?_ ?_
 refine sq [0] (pa (nx (aE ?_)))
 refine aY (fun s5 => ⟨aA (aA (aA ((fun _ => .dead)) 0 (dL aG p0)) 1 (dL aG p1)) 5 (dI s5),lks [.no, .no, .no]⟩) h1 ?_ (fun s5 y h2 => ?_)
 exact wk [0,1,2]
 refine aB (sq [0,1,2,3] (pm ?_))
 refine pm ?_
 refine rP rfl (aK tok rfl rfl rfl) (rP rfl (bB rfl rfl) (nx ?_))
 refine bC h2 rfl (fun hc h2 => ?_) (fun hc h2 => ?_)
 refine sk (aB (aE (aB (aI (is := [0,1,2,3,4,5,6,7,8,9]) [0,0,3,7,0,0,48,112,255,511] follows (by kernel_rfl) (tpm ?_)))))
 refine tpm ?_
 obtain ⟨v6,hv6,h2⟩ := bnd h2
 refine tP rfl (cG tok hv6 rfl rfl rfl rfl rfl rfl) (tP rfl (bR tok rfl rfl rfl (by repeat (first | exact kE.z _ | apply kE.t))) (tpm ?_))
 refine tpm ?_
 obtain ⟨v7,hv7,h2⟩ := bnd h2
 refine tP rfl (cG tok hv7 rfl rfl rfl rfl rfl rfl) (tP rfl (bR tok rfl rfl rfl (by repeat (first | exact kE.z _ | apply kE.t))) ?_)
 obtain ⟨v8,hv8,h2⟩ := bnd h2
 refine oH rfl w0 rfl (dJ 3 (aAp hv8) rfl rfl rfl) (tP rfl (cJ rfl) (bY ?_))
 refine ⟨by kernel_rfl,?_⟩
 refine aF ?_
 refine bZ h2 rfl (fun hc h2 => ?_) (fun hc h2 => ?_)
 refine sq [0] (pa (nx (aC ?_)))
 refine bA (aJ ?_)
 cases h2
 refine dZ ⟨_,rfl,fun e => ?_⟩
 subst e
 refine bA ?_
 replace h0 := gU h0
 refine aJ ?_
 cases h0
 exact r0t 4 rfl
 refine cT (aZ (aF (sr [0,1,2] (pm ?_))))
 refine rP rfl (bD rfl rfl) (pa (aV ?_))
 refine bX ?_
 cases h2
 refine ⟨_,rfl,?_⟩
 exact wk [0,1,2]
 refine bH (cC ?_)
 cases h2
 refine cA ⟨_,rfl,fun e => ?_⟩
 subst e
 refine aR (aF ?_)
 refine ⟨_,rfl,?_⟩
 exact wk [0,1,2]
 rintro v9 rfl
 replace h0 := nN h0
 refine sq [0] (pa (nx (aC ?_)))
 cases h0
 exact r0t 4 rfl
theorem tR {p0 : aD} {p1 : aD} {r : Bool} (h0 : iT p0 p1 = some r) : FnC Tryz.prog 34 [] [.agg [dS p0.Name,(dL aT p0.Months),(dL aG p0.Rules),(dI p0.Week)], .agg [dS p1.Name,(dL aT p1.Months),(dL aG p1.Rules),(dI p1.Week)]] [] (dB r) := by
 refine fi 27 tok Tryz.func34 ?_
 unfold iT at h0
 refine sq [0,1,2] (bxx 3 ?_)
 refine bxx 4 ?_
 refine pa (nx (aB (sq [0,1,2,3,4] ?_)))
 refine fa tok ?_
 refine ld tok ?_
 refine fa tok ?_
 refine ld tok ?_
 refine rP rfl (vS rfl rfl) (nx ?_)
 refine bC h0 rfl (fun hc h0 => ?_) (fun hc h0 => ?_)
 refine sq [0] (pa (nx (aC (aJ ?_))))
 cases h0
 exact r0t 4 rfl
 refine sk (aB (sq [0,1,2,3,4,5] (fa tok ?_)))
 refine ld tok ?_
 refine fa tok ?_
 refine ld tok ?_
 obtain ⟨v1,hv1,h0⟩ := bnd h0
 refine rS rfl (aQ 5 (aEn hv1) rfl rfl rfl) (rP rfl (cJ rfl) (nx ?_))
 refine bZ h0 rfl (fun hc h0 => ?_) (fun hc h0 => ?_)
 refine sq [0] (pa (nx (aC (aJ ?_))))
 cases h0
 exact r0t 4 rfl
 refine sk (aB (sq [0,1,2,3,4,5] (fa tok ?_)))
 refine ld tok ?_
 refine fa tok ?_
 refine ld tok ?_
 obtain ⟨v2,hv2,h0⟩ := bnd h0
 refine rS rfl (aQ 5 (aAc hv2) rfl rfl rfl) (rP rfl (cJ rfl) (nx ?_))
 refine bZ h0 rfl (fun hc h0 => ?_) (fun hc h0 => ?_)
 refine sq [0] (pa (nx (aC (aJ ?_))))
 cases h0
 exact r0t 4 rfl
 refine sk (aB (sq [0,1,2,3,4] (fa tok ?_)))
 refine ld tok ?_
 refine fa tok ?_
 refine ld tok ?_
 refine rP rfl (cQ rfl rfl) (nx ?_)
 refine bC h0 rfl (fun hc h0 => ?_) (fun hc h0 => ?_)
 refine sq [0] (pa (nx (aC (aJ ?_))))
 cases h0
 exact r0t 4 rfl
 refine sk (sq [0] (pa (nx (aC ?_))))
 cases h0
 exact r0t 4 rfl
theorem pY {p0 : bP} {p1 : bP} {r : Bool} (h0 : gH p0 p1 = some r) : FnC Tryz.prog 33 [] [.agg [dS p0.Name,(dL bI p0.Works.Arbors),(dL dV p0.Works.Meshes),(dI p0.Minute),(dI p0.Hour),(dI p0.Escape),(dI p0.Teeth),(dI p0.Beats),(dS p0.Calendar.Name),(dL aT p0.Calendar.Months),(dL aG p0.Calendar.Rules),(dI p0.Calendar.Week),(dL cI p0.Cam),(dI p0.Strike)], .agg [dS p1.Name,(dL bI p1.Works.Arbors),(dL dV p1.Works.Meshes),(dI p1.Minute),(dI p1.Hour),(dI p1.Escape),(dI p1.Teeth),(dI p1.Beats),(dS p1.Calendar.Name),(dL aT p1.Calendar.Months),(dL aG p1.Calendar.Rules),(dI p1.Calendar.Week),(dL cI p1.Cam),(dI p1.Strike)]] [] (dB r) := by
 refine fi 58 tok Tryz.func33 ?_
 unfold gH at h0
 refine sq [0,1,2] (bxx 3 ?_)
 refine bxx 4 ?_
 refine pa (nx (aB (sq [0,1,2,3,4] ?_)))
 refine fa tok ?_
 refine ld tok ?_
 refine fa tok ?_
 refine ld tok ?_
 refine rP rfl (vS rfl rfl) (nx ?_)
 refine bC h0 rfl (fun hc h0 => ?_) (fun hc h0 => ?_)
 refine sq [0] (pa (nx (aC (aJ ?_))))
 cases h0
 exact r0t 4 rfl
 refine sk (aB (sq [0,1,2,3,4,5] (fa tok ?_)))
 refine rL rfl (bO tok rfl rfl rfl rfl) (fa tok ?_)
 refine rL rfl (bO tok rfl rfl rfl rfl) ?_
 obtain ⟨v1,hv1,h0⟩ := bnd h0
 refine rS rfl (aQ 5 (aFm hv1) rfl rfl rfl) (rP rfl (cJ rfl) (nx ?_))
 refine bZ h0 rfl (fun hc h0 => ?_) (fun hc h0 => ?_)
 refine sq [0] (pa (nx (aC (aJ ?_))))
 cases h0
 exact r0t 4 rfl
 refine sk (aB (sq [0,1,2,3,4] (fa tok ?_)))
 refine ld tok ?_
 refine fa tok ?_
 refine ld tok ?_
 refine rP rfl (cQ rfl rfl) (nx ?_)
 refine bC h0 rfl (fun hc h0 => ?_) (fun hc h0 => ?_)
 refine sq [0] (pa (nx (aC (aJ ?_))))
 cases h0
 exact r0t 4 rfl
 refine sk (aB (sq [0,1,2,3,4] (fa tok ?_)))
 refine ld tok ?_
 refine fa tok ?_
 refine ld tok ?_
 refine rP rfl (cQ rfl rfl) (nx ?_)
 refine bC h0 rfl (fun hc h0 => ?_) (fun hc h0 => ?_)
 refine sq [0] (pa (nx (aC (aJ ?_))))
 cases h0
 exact r0t 4 rfl
 refine sk (aB (sq [0,1,2,3,4] (fa tok ?_)))
 refine ld tok ?_
 refine fa tok ?_
 refine ld tok ?_
 refine rP rfl (cQ rfl rfl) (nx ?_)
 refine bC h0 rfl (fun hc h0 => ?_) (fun hc h0 => ?_)
 refine sq [0] (pa (nx (aC (aJ ?_))))
 cases h0
 exact r0t 4 rfl
 refine sk (aB (sq [0,1,2,3,4] (fa tok ?_)))
 refine ld tok ?_
 refine fa tok ?_
 refine ld tok ?_
 refine rP rfl (cQ rfl rfl) (nx ?_)
 refine bC h0 rfl (fun hc h0 => ?_) (fun hc h0 => ?_)
 refine sq [0] (pa (nx (aC (aJ ?_))))
 cases h0
 exact r0t 4 rfl
 refine sk (aB (sq [0,1,2,3,4] (fa tok ?_)))
 refine ld tok ?_
 refine fa tok ?_
 refine ld tok ?_
 refine rP rfl (cQ rfl rfl) (nx ?_)
 refine bC h0 rfl (fun hc h0 => ?_) (fun hc h0 => ?_)
 refine sq [0] (pa (nx (aC (aJ ?_))))
 cases h0
 exact r0t 4 rfl
 refine sk (aB (sq [0,1,2,3,4,5] (fa tok ?_)))
 refine rL rfl (bO tok rfl rfl rfl rfl) (fa tok ?_)
 refine rL rfl (bO tok rfl rfl rfl rfl) ?_
 obtain ⟨v2,hv2,h0⟩ := bnd h0
 refine rS rfl (aQ 5 (tR hv2) rfl rfl rfl) (rP rfl (cJ rfl) (nx ?_))
 refine bZ h0 rfl (fun hc h0 => ?_) (fun hc h0 => ?_)
 refine sq [0] (pa (nx (aC (aJ ?_))))
 cases h0
 exact r0t 4 rfl
 refine sk (aB (sq [0,1,2,3,4,5] (fa tok ?_)))
 refine ld tok ?_
 refine fa tok ?_
 refine ld tok ?_
 obtain ⟨v3,hv3,h0⟩ := bnd h0
 refine rS rfl (aQ 5 (wR hv3) rfl rfl rfl) (rP rfl (cJ rfl) (nx ?_))
 refine bZ h0 rfl (fun hc h0 => ?_) (fun hc h0 => ?_)
 refine sq [0] (pa (nx (aC (aJ ?_))))
 cases h0
 exact r0t 4 rfl
 refine sk (aB (sq [0,1,2,3,4] (fa tok ?_)))
 refine ld tok ?_
 refine fa tok ?_
 refine ld tok ?_
 refine rP rfl (cQ rfl rfl) (nx ?_)
 refine bC h0 rfl (fun hc h0 => ?_) (fun hc h0 => ?_)
 refine sq [0] (pa (nx (aC (aJ ?_))))
 cases h0
 exact r0t 4 rfl
 refine sk (sq [0] (pa (nx (aC ?_))))
 cases h0
 exact r0t 4 rfl
end Go.Proofs.YtgcdbbidmfdonaaGreat
namespace Go.Proofs.YtgcdbbidmfdonaaGreat
open Go.RowKit
set_option linter.unusedVariables false
set_option maxRecDepth 100000
set_option maxHeartbeats 2000000
theorem pS {p0 : Int} {r : ByteArray} (h0 : fA p0 = some r) : FnC Tryz.prog 184 [] [dI p0] [] (dS r) := by
 refine fi 20 tok Tryz.func184 ?_
 unfold fA at h0
 refine sq [0] (pa (nx (aB (sq [0,1] ?_))))
 refine pm ?_
 refine rP rfl (jK rfl rfl) (nx ?_)
 refine bC h0 rfl (fun hc h0 => ?_) (fun hc h0 => ?_)
 refine sq [0] (pa (nx (aC (aJ ?_))))
 cases h0
 exact r0t 2 rfl
 refine sk (sq [0] (pa (nx ?_)))
 obtain ⟨v9,h1,h0⟩ := bnd h0
 refine bF ⟨aA ((fun _ => .dead)) 3 (dS v9),lks [.no, .no, .no]⟩ ?_ ?_
 refine aE ?_
 refine aY (fun s5 => ⟨aA (aA ((fun _ => .dead)) 0 (dI s5.1)) 3 (dS s5.2),lks [.no, .no, .no]⟩) h1 ?_ (fun s5 y h2 => ?_)
 exact wk [0,1,2]
 refine aB (sq [0,1] (pm ?_))
 refine rP rfl (gT rfl rfl) (nx ?_)
 refine bC h2 rfl (fun hc h2 => ?_) (fun hc h2 => ?_)
 refine sk (aE (sq [0,1,2,3,4,5,6,7,8] (pm ?_)))
 refine rP rfl (lG rfl rfl (by decide)) (rP rfl (bD rfl rfl) (rP rfl (aF4 tok rfl rfl rfl rfl rfl) (rS rfl (qI 3 tok cU8 [IntKind.u8.wrap (w64 (48 + (s5.1.tmod 10)))] rfl rfl rfl (by repeat (first | exact Els.nil _ | apply Els.cons (cs := [.d _]) rfl rfl rfl | apply Els.cons (cs := _ :: _) rfl rfl rfl)) rfl rfl rfl (by repeat (first | exact dG.nil | (apply dG.cons; (repeat (first | exact iZ.nil | apply iZ.cons))))) rfl rfl) (rS rfl (aRp tok rfl rfl rfl rfl rfl rfl rfl rfl rfl rfl) (pm ?_)))))
 obtain ⟨hq7,h2⟩ := cR h2
 refine rP rfl (aN9 rfl rfl hq7) (pa (nx (sr [0,1,2] ?_)))
 refine pm ?_
 refine rP rfl (rO rfl rfl (by decide)) (pa (aV ?_))
 refine aZ (bX ?_)
 cases h2
 refine ⟨_,rfl,?_⟩
 exact wk [0,1,2]
 refine bH (cC ?_)
 cases h2
 refine cA ⟨_,rfl,fun e => ?_⟩
 subst e
 refine aR (aF ?_)
 exact wk [0,1,2]
 refine sq [0,1,2] (pm ?_)
 obtain ⟨hq10,h0⟩ := cR h0
 refine rP rfl (aN9 rfl rfl hq10) (pa (nx (aC ?_)))
 cases h0
 exact r0t 2 rfl
theorem xH {p0 : List bG} {p1 : Int} {r : Int × List bG} (h0 : iJ p0 p1 = some r) : FnC Tryz.prog 104 [.live [⟨170,3, .data (List.map aT p0)⟩]] [.own 0 0 (p0).length,(dI p1)] [.live [⟨170,3, .data (List.map aT r.2)⟩]] (dI r.1) := by
 refine fi 35 tok Tryz.func104 ?_
 unfold iJ at h0
 refine sq [0] (pa (nx ?_))
 obtain ⟨v11,h1,h0⟩ := bnd h0
 refine bF ⟨aA ((fun _ => .dead)) 1 (dI v11.1),lks [.live [⟨170,3, .data (List.map aT v11.2)⟩], .no, .no]⟩ ?_ ?_
 refine sq [0] (pa (nx (aE ?_)))
 refine aY (fun s6 => ⟨aA (aA (aA ((fun _ => .dead)) 0 (.own 0 0 (s6.2.2).length)) 1 (dI s6.1)) 5 (dI s6.2.1),lks [.live [⟨170,3, .data (List.map aT s6.2.2)⟩], .no, .no]⟩) h1 ?_ (fun s6 y h2 => ?_)
 exact wk [0,1,2]
 refine aB (sq [0,1,2,3] (pm ?_))
 refine rP rfl (aL (r := .own _ _ _) rfl) (rL rfl (nG tok rfl rfl rfl rfl rfl) (rP rfl (bB rfl rfl) (nx ?_)))
 refine bC h2 rfl (fun hc h2 => ?_) (fun hc h2 => ?_)
 refine sk (aB (aE (sq [0,1,2,3,4,5,6] (rP rfl (aL (r := .own _ _ _) rfl) (pm ?_)))))
 refine pm ?_
 obtain ⟨v7,hv7,h2⟩ := bnd h2
 refine rS rfl (aQ 3 (pS hv7) rfl rfl rfl) ?_
 obtain ⟨v8,hv8,h2⟩ := bnd h2
 refine rL rfl (jB tok hv8 rfl rfl rfl rfl rfl rfl rfl rfl) (rL rfl (aAi tok (eB hv8).2.1 rfl rfl rfl rfl rfl rfl rfl rfl) (rw0 rfl w0 (sR (cs := [.d _]) tok (⟨v7,v8.Days,v8.Leap⟩ : bG) (eB hv8).2.1 rfl rfl rfl rfl rfl rfl rfl rfl) (nx (sq [0,1,2] (pm ?_)))))
 refine rP rfl (bD rfl rfl) (pa (nx (sq [0,1,2,3,4,5] ?_)))
 refine rP rfl (aL (r := .own _ _ _) rfl) (pm ?_)
 refine pm ?_
 obtain ⟨v9,hv9,h2⟩ := bnd h2
 refine rL rfl (jB tok hv9 rfl rfl rfl rfl rfl rfl (by first | (simp; done) | omega | (simp; omega)) rfl) (rL rfl (aAi tok (eB hv9).2.1 rfl rfl rfl rfl rfl rfl rfl (by first | (simp; done) | omega | (simp; omega))) (rw0 rfl w0 (sR (cs := [.d _]) tok (⟨v9.Name,w64 (s6.1 + 1),v9.Leap⟩ : bG) (eB hv9).2.1 rfl rfl rfl rfl rfl rfl rfl (by first | (simp; done) | omega | (simp; omega))) (nx (sq [0,1,2] (pm ?_)))))
 refine rP rfl (bD rfl rfl) (pa (nx (sq [0,1,2,3,4,5] ?_)))
 refine rP rfl (aL (r := .own _ _ _) rfl) (pm ?_)
 refine pm ?_
 obtain ⟨v10,hv10,h2⟩ := bnd h2
 refine rL rfl (jB tok hv10 rfl rfl rfl rfl rfl rfl (by first | (simp; done) | omega | (simp; omega)) rfl) (rL rfl (aAi tok (eB hv10).2.1 rfl rfl rfl rfl rfl rfl rfl (by first | (simp; done) | omega | (simp; omega))) (rw0 rfl w0 (sR (cs := [.d _]) tok (⟨v10.Name,v10.Days,w64 ((w64 (s6.1 + 1)) + 1)⟩ : bG) (eB hv10).2.1 rfl rfl rfl rfl rfl rfl rfl (by first | (simp; done) | omega | (simp; omega))) (nx (sr [0,1,2] (pm ?_)))))
 refine rP rfl (bD rfl rfl) (pa (aV ?_))
 refine aZ (aF (sr [0,1,2] (pm ?_)))
 refine rP rfl (bD rfl rfl) (pa (aV ?_))
 refine bX ?_
 cases h2
 refine ⟨_,rfl,?_⟩
 exact wk [0,1,2]
 refine bH (cC ?_)
 cases h2
 refine cA ⟨_,rfl,fun e => ?_⟩
 subst e
 refine aR (aF ?_)
 exact wk [0,1,2]
 refine sq [0,1] (pm ?_)
 refine pa (nx (aC ?_))
 cases h0
 exact xM (rs := [.tmp 4]) 1 rfl rfl
theorem uF {p0 : List aO} {p1 : Int} {r : Int × List aO} (h0 : fM p0 p1 = some r) : FnC Tryz.prog 105 [.live [⟨181,3, .data (List.map aG p0)⟩]] [.own 0 0 (p0).length,(dI p1)] [.live [⟨181,3, .data (List.map aG r.2)⟩]] (dI r.1) := by
 refine fi 36 tok Tryz.func105 ?_
 unfold fM at h0
 refine sq [0] (pa (nx ?_))
 obtain ⟨v11,h1,h0⟩ := bnd h0
 refine bF ⟨aA ((fun _ => .dead)) 1 (dI v11.1),lks [.live [⟨181,3, .data (List.map aG v11.2)⟩], .no, .no]⟩ ?_ ?_
 refine sq [0] (pa (nx (aE ?_)))
 refine aY (fun s6 => ⟨aA (aA (aA ((fun _ => .dead)) 0 (.own 0 0 (s6.2.2).length)) 1 (dI s6.1)) 5 (dI s6.2.1),lks [.live [⟨181,3, .data (List.map aG s6.2.2)⟩], .no, .no]⟩) h1 ?_ (fun s6 y h2 => ?_)
 exact wk [0,1,2]
 refine aB (sq [0,1,2,3] (pm ?_))
 refine rP rfl (aL (r := .own _ _ _) rfl) (rL rfl (nG tok rfl rfl rfl rfl rfl) (rP rfl (bB rfl rfl) (nx ?_)))
 refine bC h2 rfl (fun hc h2 => ?_) (fun hc h2 => ?_)
 refine sk (aB (aE (sq [0,1,2,3,4,5] (rP rfl (aL (r := .own _ _ _) rfl) (pm ?_)))))
 refine pm ?_
 obtain ⟨v7,hv7,h2⟩ := bnd h2
 refine rL rfl (jB tok hv7 rfl rfl rfl rfl rfl rfl rfl rfl) (rL rfl (aAi tok (eB hv7).2.1 rfl rfl rfl rfl rfl rfl rfl rfl) (rw0 rfl w0 (sR (cs := [.d _]) tok (⟨s6.1,v7.Rest,v7.Leap⟩ : aO) (eB hv7).2.1 rfl rfl rfl rfl rfl rfl rfl rfl) (nx (sq [0,1,2] (pm ?_)))))
 refine rP rfl (bD rfl rfl) (pa (nx (sq [0,1,2,3,4,5] ?_)))
 refine rP rfl (aL (r := .own _ _ _) rfl) (pm ?_)
 refine pm ?_
 obtain ⟨v8,hv8,h2⟩ := bnd h2
 refine rL rfl (jB tok hv8 rfl rfl rfl rfl rfl rfl (by first | (simp; done) | omega | (simp; omega)) rfl) (rL rfl (aAi tok (eB hv8).2.1 rfl rfl rfl rfl rfl rfl rfl (by first | (simp; done) | omega | (simp; omega))) (rw0 rfl w0 (sR (cs := [.d _]) tok (⟨v8.Every,w64 (s6.1 + 1),v8.Leap⟩ : aO) (eB hv8).2.1 rfl rfl rfl rfl rfl rfl rfl (by first | (simp; done) | omega | (simp; omega))) (nx (sq [0,1,2] (pm ?_)))))
 refine rP rfl (bD rfl rfl) (pa (nx (sq [0,1,2,3,4,5,6,7] ?_)))
 refine rP rfl (aL (r := .own _ _ _) rfl) (pm ?_)
 refine pm ?_
 refine rP rfl (lG rfl rfl (by decide)) (rP rfl (nD rfl rfl) ?_)
 obtain ⟨v10,hv10,h2⟩ := bnd h2
 refine rL rfl (jB tok hv10 rfl rfl rfl rfl rfl rfl (by first | (simp; done) | omega | (simp; omega)) rfl) (rL rfl (aAi tok (eB hv10).2.1 rfl rfl rfl rfl rfl rfl rfl (by first | (simp; done) | omega | (simp; omega))) (rw0 rfl w0 (sR (cs := [.d _]) tok (⟨v10.Every,v10.Rest,decide (((w64 ((w64 (s6.1 + 1)) + 1)).tmod 3) = 0)⟩ : aO) (eB hv10).2.1 rfl rfl rfl rfl rfl rfl rfl (by first | (simp; done) | omega | (simp; omega))) (nx (sr [0,1,2] (pm ?_)))))
 refine rP rfl (bD rfl rfl) (pa (aV ?_))
 refine aZ (aF (sr [0,1,2] (pm ?_)))
 refine rP rfl (bD rfl rfl) (pa (aV ?_))
 refine bX ?_
 cases h2
 refine ⟨_,rfl,?_⟩
 exact wk [0,1,2]
 refine bH (cC ?_)
 cases h2
 refine cA ⟨_,rfl,fun e => ?_⟩
 subst e
 refine aR (aF ?_)
 exact wk [0,1,2]
 refine sq [0,1] (pm ?_)
 refine pa (nx (aC ?_))
 cases h0
 exact xM (rs := [.tmp 4]) 1 rfl rfl
theorem pO {p0 : aD} {p1 : Int} {r : Int × List bG × List aO} (h0 : eP p0 p1 = some r) : FnC Tryz.prog 35 [.live [⟨170,3, .data (List.map aT p0.Months)⟩], .live [⟨181,3, .data (List.map aG p0.Rules)⟩]] [.agg [dS p0.Name, .own 0 0 (p0.Months).length, .own 1 0 (p0.Rules).length,(dI p0.Week)],(dI p1)] [.live [⟨170,3, .data (List.map aT r.2.1)⟩], .live [⟨181,3, .data (List.map aG r.2.2)⟩]] (dI r.1) := by
 refine fi 14 tok Tryz.func35 ?_
 unfold eP at h0
 refine sq [0,1] (bxx 3 ?_)
 refine pa (nx (sq [0,1,2,3,4] ?_))
 refine fa tok ?_
 refine ld tok ?_
 refine pm ?_
 obtain ⟨v1,hv1,h0⟩ := bnd h0
 obtain ⟨hq2,h0⟩ := cR h0
 refine rw1 rfl w0 rfl (qE [0] 300 (xH hv1) rfl rfl) (pa (nx (sq [0,1,2,3,4] ?_)))
 refine fa tok ?_
 refine ld tok ?_
 refine pm ?_
 obtain ⟨v3,hv3,h0⟩ := bnd h0
 obtain ⟨hq4,h0⟩ := cR h0
 refine rw1 rfl w0 rfl (qE [1] 300 (uF hv3) rfl rfl) (pa (nx (sq [0,1] ?_)))
 refine pm ?_
 refine pa (nx (aC ?_))
 cases h0
 exact xM (rs := [.tmp 4]) 2 rfl rfl
theorem rU {p0 : List Int} {p1 : Int} {r : Int × List Int} (h0 : fY p0 p1 = some r) : FnC Tryz.prog 107 [.live [⟨2,1, .data (List.map cI p0)⟩]] [.own 0 0 (p0).length,(dI p1)] [.live [⟨2,1, .data (List.map cI r.2)⟩]] (dI r.1) := by
 refine fi 19 tok Tryz.func107 ?_
 unfold fY at h0
 refine sq [0] (pa (nx ?_))
 obtain ⟨v5,h1,h0⟩ := bnd h0
 refine bF ⟨aA ((fun _ => .dead)) 1 (dI v5.1),lks [.live [⟨2,1, .data (List.map cI v5.2)⟩], .no, .no]⟩ ?_ ?_
 refine sq [0] (pa (nx (aE ?_)))
 refine aY (fun s3 => ⟨aA (aA (aA ((fun _ => .dead)) 0 (.own 0 0 (s3.2.2).length)) 1 (dI s3.1)) 5 (dI s3.2.1),lks [.live [⟨2,1, .data (List.map cI s3.2.2)⟩], .no, .no]⟩) h1 ?_ (fun s3 y h2 => ?_)
 exact wk [0,1,2]
 refine aB (sq [0,1,2,3] (pm ?_))
 refine rP rfl (aL (r := .own _ _ _) rfl) (rL rfl (nG tok rfl rfl rfl rfl rfl) (rP rfl (bB rfl rfl) (nx ?_)))
 refine bC h2 rfl (fun hc h2 => ?_) (fun hc h2 => ?_)
 refine sk (aB (aE (sq [0,1,2,3,4] (rP rfl (aL (r := .own _ _ _) rfl) (pm ?_)))))
 refine pm ?_
 obtain ⟨v4,hv4,h2⟩ := bnd h2
 refine rL rfl (jB tok hv4 rfl rfl rfl rfl rfl rfl rfl rfl) (rw0 rfl w0 (sR (cs := [.d _]) tok s3.1 (eB hv4).2.1 rfl rfl rfl rfl rfl rfl rfl rfl) (nx (sr [0,1,2] (pm ?_))))
 refine rP rfl (bD rfl rfl) (pa (aV ?_))
 refine aZ (aF (sr [0,1,2] (pm ?_)))
 refine rP rfl (bD rfl rfl) (pa (aV ?_))
 refine bX ?_
 cases h2
 refine ⟨_,rfl,?_⟩
 exact wk [0,1,2]
 refine bH (cC ?_)
 cases h2
 refine cA ⟨_,rfl,fun e => ?_⟩
 subst e
 refine aR (aF ?_)
 exact wk [0,1,2]
 refine sq [0,1] (pm ?_)
 refine pa (nx (aC ?_))
 cases h0
 exact xM (rs := [.tmp 4]) 1 rfl rfl
theorem xE {p0 : List bV} {p1 : Int} {r : Int × List bV} (h0 : iM p0 p1 = some r) : FnC Tryz.prog 185 [.live [⟨123,2, .av (eS 1 bI p0)⟩], .live (qB 2 1 bI p0)] [.own 0 0 (p0).length,(dI p1)] [.live [⟨123,2, .av (eS 1 bI r.2)⟩], .live (qB 2 1 bI r.2)] (dI r.1) := by
 refine fi 28 tok Tryz.func185 ?_
 unfold iM at h0
 refine sq [0] (pa (nx ?_))
 obtain ⟨v13,h1,h0⟩ := bnd h0
 refine bF ⟨aA ((fun _ => .dead)) 1 (dI v13.1),lks [.live [⟨123,2, .av (eS 1 bI v13.2)⟩], .live (qB 2 1 bI v13.2), .no]⟩ ?_ ?_
 refine sq [0] (pa (nx (aE ?_)))
 refine aY (fun s7 => ⟨aA (aA (aA ((fun _ => .dead)) 0 (.own 0 0 (s7.2.2).length)) 1 (dI s7.1)) 5 (dI s7.2.1),lks [.live [⟨123,2, .av (eS 1 bI s7.2.2)⟩], .live (qB 2 1 bI s7.2.2), .no]⟩) h1 ?_ (fun s7 y h2 => ?_)
 exact wk [0,1,2]
 refine aB (sq [0,1,2,3] (pm ?_))
 refine rP rfl (aL (r := .own _ _ _) rfl) (rL rfl (aO3 tok rfl rfl rfl rfl rfl) (rP rfl (bB rfl rfl) (nx ?_)))
 refine bC h2 rfl (fun hc h2 => ?_) (fun hc h2 => ?_)
 refine sk (aB (aE (sq [0,1,2,3,4,5,6] (rP rfl (aL (r := .own _ _ _) rfl) (pm ?_)))))
 refine pm ?_
 obtain ⟨v8,hv8,h2⟩ := bnd h2
 refine rS rfl (aQ 3 (pS hv8) rfl rfl rfl) ?_
 obtain ⟨v9,hv9,h2⟩ := bnd h2
 refine rL rfl (aN8 tok hv9 rfl rfl rfl rfl rfl rfl rfl rfl) (rL rfl (aNs tok (eB hv9).2.1 rfl rfl rfl rfl rfl rfl rfl rfl) (rw0 rfl w0 (aQe (cs := [.d _]) tok (⟨v8,v9.Wheels⟩ : bV) (eB hv9).2.1 rfl rfl rfl rfl rfl rfl rfl rfl rfl rfl rfl) (nx (sq [0,1,2] (pm ?_)))))
 refine rP rfl (bD rfl rfl) (pa (nx (sr [0,1,2,3,4,5,6,7] ?_)))
 refine rP rfl (aL (r := .own _ _ _) rfl) (pm ?_)
 obtain ⟨v10,hv10,h2⟩ := bnd h2
 refine rL rfl (aN8 tok hv10 rfl rfl rfl rfl rfl rfl (by first | (simp; done) | omega | (simp; omega)) rfl) (rL rfl (aNs tok (eB hv10).2.1 rfl rfl rfl rfl rfl rfl rfl (by first | (simp; done) | omega | (simp; omega))) (rL rfl (aOz tok (eB hv10).2.1 rfl rfl rfl rfl (by first | (simp; done) | omega | (simp; omega)) rfl) (pm ?_)))
 obtain ⟨v11,hv11,h2⟩ := bnd h2
 obtain ⟨hq12,h2⟩ := cR h2
 refine rw1 rfl w0 rfl (aPi (k := 0) (kf := 1) (⟨v10.Name,v11.2⟩ : bV) (rU hv11) (eB hv10).2.1 (by simp only [fN,bI,List.length_map,hq12]) rfl rfl rfl rfl rfl rfl rfl) (pa (aV ?_))
 refine aZ (aF (sr [0,1,2] (pm ?_)))
 refine rP rfl (bD rfl rfl) (pa (aV ?_))
 refine bX ?_
 cases h2
 refine ⟨_,rfl,?_⟩
 exact wk [0,1,2]
 refine bH (cC ?_)
 cases h2
 refine cA ⟨_,rfl,fun e => ?_⟩
 subst e
 refine aR (aF ?_)
 exact wk [0,1,2]
 refine sq [0,1] (pm ?_)
 refine pa (nx (aC ?_))
 cases h0
 exact xM (rs := [.tmp 4]) 2 rfl rfl
theorem zL {p0 : List cV} {p1 : Int} {r : Int × List cV} (h0 : jO p0 p1 = some r) : FnC Tryz.prog 186 [.live [⟨125,4, .data (List.map dV p0)⟩]] [.own 0 0 (p0).length,(dI p1)] [.live [⟨125,4, .data (List.map dV r.2)⟩]] (dI r.1) := by
 refine fi 41 tok Tryz.func186 ?_
 unfold jO at h0
 refine sq [0] (pa (nx ?_))
 obtain ⟨v11,h1,h0⟩ := bnd h0
 refine bF ⟨aA ((fun _ => .dead)) 1 (dI v11.1),lks [.live [⟨125,4, .data (List.map dV v11.2)⟩], .no, .no]⟩ ?_ ?_
 refine sq [0] (pa (nx (aE ?_)))
 refine aY (fun s6 => ⟨aA (aA (aA ((fun _ => .dead)) 0 (.own 0 0 (s6.2.2).length)) 1 (dI s6.1)) 5 (dI s6.2.1),lks [.live [⟨125,4, .data (List.map dV s6.2.2)⟩], .no, .no]⟩) h1 ?_ (fun s6 y h2 => ?_)
 exact wk [0,1,2]
 refine aB (sq [0,1,2,3] (pm ?_))
 refine rP rfl (aL (r := .own _ _ _) rfl) (rL rfl (nG tok rfl rfl rfl rfl rfl) (rP rfl (bB rfl rfl) (nx ?_)))
 refine bC h2 rfl (fun hc h2 => ?_) (fun hc h2 => ?_)
 refine sk (aB (aE (sq [0,1,2,3,4,5] (rP rfl (aL (r := .own _ _ _) rfl) (pm ?_)))))
 refine pm ?_
 obtain ⟨v7,hv7,h2⟩ := bnd h2
 refine rL rfl (jB tok hv7 rfl rfl rfl rfl rfl rfl rfl rfl) (rL rfl (aAi tok (eB hv7).2.1 rfl rfl rfl rfl rfl rfl rfl rfl) (rw0 rfl w0 (sR (cs := [.d _]) tok (⟨s6.1,v7.WheelA,v7.B,v7.WheelB⟩ : cV) (eB hv7).2.1 rfl rfl rfl rfl rfl rfl rfl rfl) (nx (sq [0,1,2] (pm ?_)))))
 refine rP rfl (bD rfl rfl) (pa (nx (sq [0,1,2,3,4,5] ?_)))
 refine rP rfl (aL (r := .own _ _ _) rfl) (pm ?_)
 refine pm ?_
 obtain ⟨v8,hv8,h2⟩ := bnd h2
 refine rL rfl (jB tok hv8 rfl rfl rfl rfl rfl rfl (by first | (simp; done) | omega | (simp; omega)) rfl) (rL rfl (aAi tok (eB hv8).2.1 rfl rfl rfl rfl rfl rfl rfl (by first | (simp; done) | omega | (simp; omega))) (rw0 rfl w0 (sR (cs := [.d _]) tok (⟨v8.A,w64 (s6.1 + 1),v8.B,v8.WheelB⟩ : cV) (eB hv8).2.1 rfl rfl rfl rfl rfl rfl rfl (by first | (simp; done) | omega | (simp; omega))) (nx (sq [0,1,2] (pm ?_)))))
 refine rP rfl (bD rfl rfl) (pa (nx (sq [0,1,2,3,4,5] ?_)))
 refine rP rfl (aL (r := .own _ _ _) rfl) (pm ?_)
 refine pm ?_
 obtain ⟨v9,hv9,h2⟩ := bnd h2
 refine rL rfl (jB tok hv9 rfl rfl rfl rfl rfl rfl (by first | (simp; done) | omega | (simp; omega)) rfl) (rL rfl (aAi tok (eB hv9).2.1 rfl rfl rfl rfl rfl rfl rfl (by first | (simp; done) | omega | (simp; omega))) (rw0 rfl w0 (sR (cs := [.d _]) tok (⟨v9.A,v9.WheelA,w64 ((w64 (s6.1 + 1)) + 1),v9.WheelB⟩ : cV) (eB hv9).2.1 rfl rfl rfl rfl rfl rfl rfl (by first | (simp; done) | omega | (simp; omega))) (nx (sq [0,1,2] (pm ?_)))))
 refine rP rfl (bD rfl rfl) (pa (nx (sq [0,1,2,3,4,5] ?_)))
 refine rP rfl (aL (r := .own _ _ _) rfl) (pm ?_)
 refine pm ?_
 obtain ⟨v10,hv10,h2⟩ := bnd h2
 refine rL rfl (jB tok hv10 rfl rfl rfl rfl rfl rfl (by first | (simp; done) | omega | (simp; omega)) rfl) (rL rfl (aAi tok (eB hv10).2.1 rfl rfl rfl rfl rfl rfl rfl (by first | (simp; done) | omega | (simp; omega))) (rw0 rfl w0 (sR (cs := [.d _]) tok (⟨v10.A,v10.WheelA,v10.B,w64 ((w64 ((w64 (s6.1 + 1)) + 1)) + 1)⟩ : cV) (eB hv10).2.1 rfl rfl rfl rfl rfl rfl rfl (by first | (simp; done) | omega | (simp; omega))) (nx (sr [0,1,2] (pm ?_)))))
 refine rP rfl (bD rfl rfl) (pa (aV ?_))
 refine aZ (aF (sr [0,1,2] (pm ?_)))
 refine rP rfl (bD rfl rfl) (pa (aV ?_))
 refine bX ?_
 cases h2
 refine ⟨_,rfl,?_⟩
 exact wk [0,1,2]
 refine bH (cC ?_)
 cases h2
 refine cA ⟨_,rfl,fun e => ?_⟩
 subst e
 refine aR (aF ?_)
 exact wk [0,1,2]
 refine sq [0,1] (pm ?_)
 refine pa (nx (aC ?_))
 cases h0
 exact xM (rs := [.tmp 4]) 1 rfl rfl
theorem zY {p0 : dE} {p1 : Int} {r : Int × List bV × List cV} (h0 : jE p0 p1 = some r) : FnC Tryz.prog 106 [.live [⟨123,2, .av (eS 1 bI p0.Arbors)⟩], .live (qB 2 1 bI p0.Arbors), .live [⟨125,4, .data (List.map dV p0.Meshes)⟩]] [.agg [.own 0 0 (p0.Arbors).length, .own 2 0 (p0.Meshes).length],(dI p1)] [.live [⟨123,2, .av (eS 1 bI r.2.1)⟩], .live (qB 2 1 bI r.2.1), .live [⟨125,4, .data (List.map dV r.2.2)⟩]] (dI r.1) := by
 refine fi 14 tok Tryz.func106 ?_
 unfold jE at h0
 refine sq [0,1] (bxx 3 ?_)
 refine pa (nx (sq [0,1,2,3,4] ?_))
 refine fa tok ?_
 refine ld tok ?_
 refine pm ?_
 obtain ⟨v1,hv1,h0⟩ := bnd h0
 obtain ⟨hq2,h0⟩ := cR h0
 refine rw1 rfl w0 rfl (qE [0,1] 300 (xE hv1) rfl rfl) (pa (nx (sq [0,1,2,3,4] ?_)))
 refine fa tok ?_
 refine ld tok ?_
 refine pm ?_
 obtain ⟨v3,hv3,h0⟩ := bnd h0
 obtain ⟨hq4,h0⟩ := cR h0
 refine rw1 rfl w0 rfl (qE [2] 300 (zL hv3) rfl rfl) (pa (nx (sq [0,1] ?_)))
 refine pm ?_
 refine pa (nx (aC ?_))
 cases h0
 exact xM (rs := [.tmp 4]) 3 rfl rfl
theorem uS {p0 : bP} {p1 : Int} {r : Int × List bV × List cV × List bG × List aO × List Int} (h0 : gB p0 p1 = some r) : FnC Tryz.prog 36 [.live [⟨123,2, .av (eS 1 bI p0.Works.Arbors)⟩], .live (qB 2 1 bI p0.Works.Arbors), .live [⟨125,4, .data (List.map dV p0.Works.Meshes)⟩], .live [⟨170,3, .data (List.map aT p0.Calendar.Months)⟩], .live [⟨181,3, .data (List.map aG p0.Calendar.Rules)⟩], .live [⟨2,1, .data (List.map cI p0.Cam)⟩]] [.agg [dS p0.Name, .own 0 0 (p0.Works.Arbors).length, .own 2 0 (p0.Works.Meshes).length,(dI p0.Minute),(dI p0.Hour),(dI p0.Escape),(dI p0.Teeth),(dI p0.Beats),(dS p0.Calendar.Name), .own 3 0 (p0.Calendar.Months).length, .own 4 0 (p0.Calendar.Rules).length,(dI p0.Calendar.Week), .own 5 0 (p0.Cam).length,(dI p0.Strike)],(dI p1)] [.live [⟨123,2, .av (eS 1 bI r.2.1)⟩], .live (qB 2 1 bI r.2.1), .live [⟨125,4, .data (List.map dV r.2.2.1)⟩], .live [⟨170,3, .data (List.map aT r.2.2.2.1)⟩], .live [⟨181,3, .data (List.map aG r.2.2.2.2.1)⟩], .live [⟨2,1, .data (List.map cI r.2.2.2.2.2)⟩]] (dI r.1) := by
 refine aA6 (L := 6) (T := tt) (N := 18) tok Tryz.func36 rfl rfl (by kernel_rfl) rfl rfl ?_
 unfold gB at h0
 refine sq [0,1] (bxx 6 ?_)
 refine pa (nx (sq [0,1,2,3,4] ?_))
 refine fa tok ?_
 refine rL rfl (bO tok rfl rfl rfl rfl) (pm ?_)
 obtain ⟨v1,hv1,h0⟩ := bnd h0
 obtain ⟨hq2,h0⟩ := cR h0
 obtain ⟨hq3,h0⟩ := cR h0
 refine rw1 rfl w0 rfl (qE [0,1,2] 300 (zY hv1) rfl rfl) (pa (nx (sq [0,1,2,3,4] ?_)))
 refine fa tok ?_
 refine rL rfl (bO tok rfl rfl rfl rfl) (pm ?_)
 obtain ⟨v4,hv4,h0⟩ := bnd h0
 obtain ⟨hq5,h0⟩ := cR h0
 obtain ⟨hq6,h0⟩ := cR h0
 refine rw1 rfl w0 rfl (qE [3,4] 300 (pO hv4) rfl rfl) (pa (nx (sq [0,1,2,3,4] ?_)))
 refine fa tok ?_
 refine ld tok ?_
 refine pm ?_
 obtain ⟨v7,hv7,h0⟩ := bnd h0
 obtain ⟨hq8,h0⟩ := cR h0
 refine rw1 rfl w0 rfl (qE [5] 300 (rU hv7) rfl rfl) (pa (nx (sq [0,1] ?_)))
 refine pm ?_
 refine pa (nx (aC ?_))
 cases h0
 exact xM (rs := [.tmp 4]) 6 rfl rfl
theorem tT {p0 : List Int} {p1 : Int} {r : Int} (h0 : iP p0 p1 = some r) : FnC Tryz.prog 110 [] [dL cI p0,(dI p1)] [] (dI r) := by
 refine fi 21 tok Tryz.func110 ?_
 unfold iP at h0
 refine sq [0] (pa (nx ?_))
 obtain ⟨v5x,h1,h0⟩ := bnd h0
 refine eL v5x (fun v5 => ⟨aA ((fun _ => .dead)) 1 (dI v5),lks [.no, .no, .no]⟩) ?_ ?_
 refine sq [0] (pa (nx (aE ?_)))
 refine aY (fun s3 => ⟨aA (aA (aA ((fun _ => .dead)) 0 (dL cI p0)) 1 (dI s3.1)) 5 (dI s3.2),lks [.no, .no, .no]⟩) h1 ?_ (fun s3 y h2 => ?_)
 exact wk [0,1,2]
 refine aB (sq [0,1,2,3] (pm ?_))
 refine pm ?_
 refine rP rfl (aK tok rfl rfl rfl) (rP rfl (bB rfl rfl) (nx ?_))
 refine bC h2 rfl (fun hc h2 => ?_) (fun hc h2 => ?_)
 refine sk (aB (aE (aB (sq [0,1,2,3,4,5] (pm ?_)))))
 refine pm ?_
 obtain ⟨v4,hv4,h2⟩ := bnd h2
 refine rP rfl (cG tok hv4 rfl rfl rfl rfl rfl rfl) (lr tok ?_)
 refine pm ?_
 refine rP rfl (cQ rfl rfl) (nx ?_)
 refine bC h2 rfl (fun hc h2 => ?_) (fun hc h2 => ?_)
 refine sq [0] (pa (nx (aC (aJ ?_))))
 refine bA (aJ ?_)
 cases h2
 refine dZ ⟨_,rfl,fun e => ?_⟩
 subst e
 refine bA ?_
 replace h0 := gU h0
 refine aJ ?_
 cases h0
 exact r0t 4 rfl
 refine sk (sr [0,1,2] (pm ?_))
 refine rP rfl (bD rfl rfl) (pa (aV ?_))
 refine aZ (aF (sr [0,1,2] (pm ?_)))
 refine rP rfl (bD rfl rfl) (pa (aV ?_))
 refine bX ?_
 cases h2
 refine ⟨_,rfl,?_⟩
 exact wk [0,1,2]
 refine bH (cC ?_)
 cases h2
 refine cA ⟨_,rfl,fun e => ?_⟩
 subst e
 refine aR (aF ?_)
 refine ⟨_,rfl,?_⟩
 exact wk [0,1,2]
 rintro v5 rfl
 replace h0 := nN h0
 refine sq [0,1] (pm ?_)
 refine pa (nx (aC ?_))
 cases h0
 exact r0t 4 rfl
theorem aAk {p0 : List bV} {p1 : Int} {r : Int} (h0 : jZ p0 p1 = some r) : FnC Tryz.prog 187 [] [dL bI p0,(dI p1)] [] (dI r) := by
 refine fi 32 tok Tryz.func187 ?_
 unfold jZ at h0
 refine sq [0] (pa (nx ?_))
 obtain ⟨v11x,h1,h0⟩ := bnd h0
 refine eL v11x (fun v11 => ⟨aA ((fun _ => .dead)) 1 (dI v11),lks [.no, .no, .no]⟩) ?_ ?_
 refine sq [0] (pa (nx (aE ?_)))
 refine aY (fun s6 => ⟨aA (aA (aA ((fun _ => .dead)) 0 (dL bI p0)) 1 (dI s6.1)) 5 (dI s6.2),lks [.no, .no, .no]⟩) h1 ?_ (fun s6 y h2 => ?_)
 exact wk [0,1,2]
 refine aB (sq [0,1,2,3] (pm ?_))
 refine pm ?_
 refine rP rfl (aK tok rfl rfl rfl) (rP rfl (bB rfl rfl) (nx ?_))
 refine bC h2 rfl (fun hc h2 => ?_) (fun hc h2 => ?_)
 refine sk (aB (aE (aB (aB (aI (is := [0,1,2,3,4,5,6,7]) [0,0,3,7,15,0,32,127] follows (by kernel_rfl) (tpm ?_))))))
 refine tpm ?_
 obtain ⟨v7,hv7,h2⟩ := bnd h2
 refine tP rfl (cG tok hv7 rfl rfl rfl rfl rfl rfl) (tfr tok ?_)
 refine tlr tok ?_
 refine tpm ?_
 obtain ⟨v8,hv8,h2⟩ := bnd h2
 refine oH rfl w0 rfl (dJ 3 (pS hv8) rfl rfl rfl) (tP rfl (vS rfl rfl) (bY ?_))
 refine ⟨by kernel_rfl,?_⟩
 refine aF ?_
 refine bC h2 rfl (fun hc h2 => ?_) (fun hc h2 => ?_)
 refine sq [0] (pa (nx (aC (aJ ?_))))
 refine bA (aJ ?_)
 cases h2
 refine dZ ⟨_,rfl,fun e => ?_⟩
 subst e
 refine bA ?_
 replace h0 := gU h0
 refine aJ ?_
 cases h0
 exact r0t 4 rfl
 refine sk (sq [0,1,2] (pm ?_))
 refine rP rfl (bD rfl rfl) (pa (nx (sq [0,1,2,3,4,5,6,7] ?_)))
 refine pm ?_
 refine pm ?_
 obtain ⟨v9,hv9,h2⟩ := bnd h2
 refine rP rfl (cG tok hv9 rfl rfl rfl rfl rfl rfl) (fr tok ?_)
 refine lr tok ?_
 refine pm ?_
 obtain ⟨v10,hv10,h2⟩ := bnd h2
 refine rS rfl (aQ 3 (tT hv10) rfl rfl rfl) (pa (nx (sq [0,1] ?_)))
 refine pm ?_
 refine rP rfl (bB rfl rfl) (nx ?_)
 refine bC h2 rfl (fun hc h2 => ?_) (fun hc h2 => ?_)
 refine sq [0] (pa (nx (aC ?_)))
 refine bA (aJ ?_)
 cases h2
 refine dZ ⟨_,rfl,fun e => ?_⟩
 subst e
 refine bA ?_
 replace h0 := gU h0
 refine aJ ?_
 cases h0
 exact r0t 4 rfl
 refine cT (aZ (aF (sr [0,1,2] (pm ?_))))
 refine rP rfl (bD rfl rfl) (pa (aV ?_))
 refine bX ?_
 cases h2
 refine ⟨_,rfl,?_⟩
 exact wk [0,1,2]
 refine bH (cC ?_)
 cases h2
 refine cA ⟨_,rfl,fun e => ?_⟩
 subst e
 refine aR (aF ?_)
 refine ⟨_,rfl,?_⟩
 exact wk [0,1,2]
 rintro v11 rfl
 replace h0 := nN h0
 refine sq [0,1] (pm ?_)
 refine pa (nx (aC ?_))
 cases h0
 exact r0t 4 rfl
theorem aCi {p0 : List cV} {p1 : Int} {r : Int} (h0 : kZ p0 p1 = some r) : FnC Tryz.prog 188 [] [dL dV p0,(dI p1)] [] (dI r) := by
 refine fi 49 tok Tryz.func188 ?_
 unfold kZ at h0
 refine sq [0] (pa (nx ?_))
 obtain ⟨v11x,h1,h0⟩ := bnd h0
 refine eL v11x (fun v11 => ⟨aA ((fun _ => .dead)) 1 (dI v11),lks [.no, .no, .no]⟩) ?_ ?_
 refine sq [0] (pa (nx (aE ?_)))
 refine aY (fun s6 => ⟨aA (aA (aA ((fun _ => .dead)) 0 (dL dV p0)) 1 (dI s6.1)) 5 (dI s6.2),lks [.no, .no, .no]⟩) h1 ?_ (fun s6 y h2 => ?_)
 exact wk [0,1,2]
 refine aB (sq [0,1,2,3] (pm ?_))
 refine pm ?_
 refine rP rfl (aK tok rfl rfl rfl) (rP rfl (bB rfl rfl) (nx ?_))
 refine bC h2 rfl (fun hc h2 => ?_) (fun hc h2 => ?_)
 refine sk (aB (aE (aB (sq [0,1,2,3,4,5,6] (pm ?_)))))
 refine pm ?_
 obtain ⟨v7,hv7,h2⟩ := bnd h2
 refine rP rfl (cG tok hv7 rfl rfl rfl rfl rfl rfl) (fr tok ?_)
 refine lr tok ?_
 refine pm ?_
 refine rP rfl (cQ rfl rfl) (nx ?_)
 refine bC h2 rfl (fun hc h2 => ?_) (fun hc h2 => ?_)
 refine sq [0] (pa (nx (aC (aJ ?_))))
 refine bA (aJ ?_)
 cases h2
 refine dZ ⟨_,rfl,fun e => ?_⟩
 subst e
 refine bA ?_
 replace h0 := gU h0
 refine aJ ?_
 cases h0
 exact r0t 4 rfl
 refine sk (sq [0,1,2] (pm ?_))
 refine rP rfl (bD rfl rfl) (pa (nx (aB (sq [0,1,2,3,4,5,6] ?_))))
 refine pm ?_
 refine pm ?_
 obtain ⟨v8,hv8,h2⟩ := bnd h2
 refine rP rfl (cG tok hv8 rfl rfl rfl rfl rfl rfl) (fr tok ?_)
 refine lr tok ?_
 refine pm ?_
 refine rP rfl (cQ rfl rfl) (nx ?_)
 refine bC h2 rfl (fun hc h2 => ?_) (fun hc h2 => ?_)
 refine sq [0] (pa (nx (aC (aJ ?_))))
 refine bA (aJ ?_)
 cases h2
 refine dZ ⟨_,rfl,fun e => ?_⟩
 subst e
 refine bA ?_
 replace h0 := gU h0
 refine aJ ?_
 cases h0
 exact r0t 4 rfl
 refine sk (sq [0,1,2] (pm ?_))
 refine rP rfl (bD rfl rfl) (pa (nx (aB (sq [0,1,2,3,4,5,6] ?_))))
 refine pm ?_
 refine pm ?_
 obtain ⟨v9,hv9,h2⟩ := bnd h2
 refine rP rfl (cG tok hv9 rfl rfl rfl rfl rfl rfl) (fr tok ?_)
 refine lr tok ?_
 refine pm ?_
 refine rP rfl (cQ rfl rfl) (nx ?_)
 refine bC h2 rfl (fun hc h2 => ?_) (fun hc h2 => ?_)
 refine sq [0] (pa (nx (aC (aJ ?_))))
 refine bA (aJ ?_)
 cases h2
 refine dZ ⟨_,rfl,fun e => ?_⟩
 subst e
 refine bA ?_
 replace h0 := gU h0
 refine aJ ?_
 cases h0
 exact r0t 4 rfl
 refine sk (sq [0,1,2] (pm ?_))
 refine rP rfl (bD rfl rfl) (pa (nx (aB (sq [0,1,2,3,4,5,6] ?_))))
 refine pm ?_
 refine pm ?_
 obtain ⟨v10,hv10,h2⟩ := bnd h2
 refine rP rfl (cG tok hv10 rfl rfl rfl rfl rfl rfl) (fr tok ?_)
 refine lr tok ?_
 refine pm ?_
 refine rP rfl (cQ rfl rfl) (nx ?_)
 refine bC h2 rfl (fun hc h2 => ?_) (fun hc h2 => ?_)
 refine sq [0] (pa (nx (aC (aJ ?_))))
 refine bA (aJ ?_)
 cases h2
 refine dZ ⟨_,rfl,fun e => ?_⟩
 subst e
 refine bA ?_
 replace h0 := gU h0
 refine aJ ?_
 cases h0
 exact r0t 4 rfl
 refine sk (sr [0,1,2] (pm ?_))
 refine rP rfl (bD rfl rfl) (pa (aV ?_))
 refine aZ (aF (sr [0,1,2] (pm ?_)))
 refine rP rfl (bD rfl rfl) (pa (aV ?_))
 refine bX ?_
 cases h2
 refine ⟨_,rfl,?_⟩
 exact wk [0,1,2]
 refine bH (cC ?_)
 cases h2
 refine cA ⟨_,rfl,fun e => ?_⟩
 subst e
 refine aR (aF ?_)
 refine ⟨_,rfl,?_⟩
 exact wk [0,1,2]
 rintro v11 rfl
 replace h0 := nN h0
 refine sq [0,1] (pm ?_)
 refine pa (nx (aC ?_))
 cases h0
 exact r0t 4 rfl
theorem aBz {p0 : dE} {p1 : Int} {r : Int} (h0 : lO p0 p1 = some r) : FnC Tryz.prog 108 [] [.agg [dL bI p0.Arbors,(dL dV p0.Meshes)],(dI p1)] [] (dI r) := by
 refine fi 18 tok Tryz.func108 ?_
 unfold lO at h0
 refine sq [0,1] (bxx 3 ?_)
 refine pa (nx (sq [0,1,2,3,4] ?_))
 refine fa tok ?_
 refine ld tok ?_
 refine pm ?_
 obtain ⟨v1,hv1,h0⟩ := bnd h0
 refine rS rfl (aQ 4 (aAk hv1) rfl rfl rfl) (pa (nx (aB (sq [0,1] ?_))))
 refine pm ?_
 refine rP rfl (bB rfl rfl) (nx ?_)
 refine bC h0 rfl (fun hc h0 => ?_) (fun hc h0 => ?_)
 refine sq [0] (pa (nx (aC (aJ ?_))))
 cases h0
 exact r0t 4 rfl
 refine sk (sq [0,1,2,3,4] (fa tok ?_))
 refine ld tok ?_
 refine pm ?_
 obtain ⟨v2,hv2,h0⟩ := bnd h0
 refine rS rfl (aQ 4 (aCi hv2) rfl rfl rfl) (pa (nx (aB (sq [0,1] ?_))))
 refine pm ?_
 refine rP rfl (bB rfl rfl) (nx ?_)
 refine bC h0 rfl (fun hc h0 => ?_) (fun hc h0 => ?_)
 refine sq [0] (pa (nx (aC (aJ ?_))))
 cases h0
 exact r0t 4 rfl
 refine sk (sq [0,1] (pm ?_))
 refine pa (nx (aC ?_))
 cases h0
 exact r0t 4 rfl
theorem aAt {p0 : List bG} {p1 : Int} {r : Int} (h0 : jY p0 p1 = some r) : FnC Tryz.prog 189 [] [dL aT p0,(dI p1)] [] (dI r) := by
 refine fi 41 tok Tryz.func189 ?_
 unfold jY at h0
 refine sq [0] (pa (nx ?_))
 obtain ⟨v11x,h1,h0⟩ := bnd h0
 refine eL v11x (fun v11 => ⟨aA ((fun _ => .dead)) 1 (dI v11),lks [.no, .no, .no]⟩) ?_ ?_
 refine sq [0] (pa (nx (aE ?_)))
 refine aY (fun s6 => ⟨aA (aA (aA ((fun _ => .dead)) 0 (dL aT p0)) 1 (dI s6.1)) 5 (dI s6.2),lks [.no, .no, .no]⟩) h1 ?_ (fun s6 y h2 => ?_)
 exact wk [0,1,2]
 refine aB (sq [0,1,2,3] (pm ?_))
 refine pm ?_
 refine rP rfl (aK tok rfl rfl rfl) (rP rfl (bB rfl rfl) (nx ?_))
 refine bC h2 rfl (fun hc h2 => ?_) (fun hc h2 => ?_)
 refine sk (aB (aE (aB (aB (aI (is := [0,1,2,3,4,5,6,7]) [0,0,3,7,15,0,32,127] follows (by kernel_rfl) (tpm ?_))))))
 refine tpm ?_
 obtain ⟨v7,hv7,h2⟩ := bnd h2
 refine tP rfl (cG tok hv7 rfl rfl rfl rfl rfl rfl) (tfr tok ?_)
 refine tlr tok ?_
 refine tpm ?_
 obtain ⟨v8,hv8,h2⟩ := bnd h2
 refine oH rfl w0 rfl (dJ 3 (pS hv8) rfl rfl rfl) (tP rfl (vS rfl rfl) (bY ?_))
 refine ⟨by kernel_rfl,?_⟩
 refine aF ?_
 refine bC h2 rfl (fun hc h2 => ?_) (fun hc h2 => ?_)
 refine sq [0] (pa (nx (aC (aJ ?_))))
 refine bA (aJ ?_)
 cases h2
 refine dZ ⟨_,rfl,fun e => ?_⟩
 subst e
 refine bA ?_
 replace h0 := gU h0
 refine aJ ?_
 cases h0
 exact r0t 4 rfl
 refine sk (sq [0,1,2] (pm ?_))
 refine rP rfl (bD rfl rfl) (pa (nx (aB (sq [0,1,2,3,4,5,6] ?_))))
 refine pm ?_
 refine pm ?_
 obtain ⟨v9,hv9,h2⟩ := bnd h2
 refine rP rfl (cG tok hv9 rfl rfl rfl rfl rfl rfl) (fr tok ?_)
 refine lr tok ?_
 refine pm ?_
 refine rP rfl (cQ rfl rfl) (nx ?_)
 refine bC h2 rfl (fun hc h2 => ?_) (fun hc h2 => ?_)
 refine sq [0] (pa (nx (aC (aJ ?_))))
 refine bA (aJ ?_)
 cases h2
 refine dZ ⟨_,rfl,fun e => ?_⟩
 subst e
 refine bA ?_
 replace h0 := gU h0
 refine aJ ?_
 cases h0
 exact r0t 4 rfl
 refine sk (sq [0,1,2] (pm ?_))
 refine rP rfl (bD rfl rfl) (pa (nx (aB (sq [0,1,2,3,4,5,6] ?_))))
 refine pm ?_
 refine pm ?_
 obtain ⟨v10,hv10,h2⟩ := bnd h2
 refine rP rfl (cG tok hv10 rfl rfl rfl rfl rfl rfl) (fr tok ?_)
 refine lr tok ?_
 refine pm ?_
 refine rP rfl (cQ rfl rfl) (nx ?_)
 refine bC h2 rfl (fun hc h2 => ?_) (fun hc h2 => ?_)
 refine sq [0] (pa (nx (aC (aJ ?_))))
 refine bA (aJ ?_)
 cases h2
 refine dZ ⟨_,rfl,fun e => ?_⟩
 subst e
 refine bA ?_
 replace h0 := gU h0
 refine aJ ?_
 cases h0
 exact r0t 4 rfl
 refine sk (sr [0,1,2] (pm ?_))
 refine rP rfl (bD rfl rfl) (pa (aV ?_))
 refine aZ (aF (sr [0,1,2] (pm ?_)))
 refine rP rfl (bD rfl rfl) (pa (aV ?_))
 refine bX ?_
 cases h2
 refine ⟨_,rfl,?_⟩
 exact wk [0,1,2]
 refine bH (cC ?_)
 cases h2
 refine cA ⟨_,rfl,fun e => ?_⟩
 subst e
 refine aR (aF ?_)
 refine ⟨_,rfl,?_⟩
 exact wk [0,1,2]
 rintro v11 rfl
 replace h0 := nN h0
 refine sq [0,1] (pm ?_)
 refine pa (nx (aC ?_))
 cases h0
 exact r0t 4 rfl
theorem wE {p0 : List aO} {p1 : Int} {r : Int} (h0 : gL p0 p1 = some r) : FnC Tryz.prog 190 [] [dL aG p0,(dI p1)] [] (dI r) := by
 refine fi 42 tok Tryz.func190 ?_
 unfold gL at h0
 refine sq [0] (pa (nx ?_))
 obtain ⟨v11x,h1,h0⟩ := bnd h0
 refine eL v11x (fun v11 => ⟨aA ((fun _ => .dead)) 1 (dI v11),lks [.no, .no, .no]⟩) ?_ ?_
 refine sq [0] (pa (nx (aE ?_)))
 refine aY (fun s6 => ⟨aA (aA (aA ((fun _ => .dead)) 0 (dL aG p0)) 1 (dI s6.1)) 5 (dI s6.2),lks [.no, .no, .no]⟩) h1 ?_ (fun s6 y h2 => ?_)
 exact wk [0,1,2]
 refine aB (sq [0,1,2,3] (pm ?_))
 refine pm ?_
 refine rP rfl (aK tok rfl rfl rfl) (rP rfl (bB rfl rfl) (nx ?_))
 refine bC h2 rfl (fun hc h2 => ?_) (fun hc h2 => ?_)
 refine sk (aB (aE (aB (sq [0,1,2,3,4,5,6] (pm ?_)))))
 refine pm ?_
 obtain ⟨v7,hv7,h2⟩ := bnd h2
 refine rP rfl (cG tok hv7 rfl rfl rfl rfl rfl rfl) (fr tok ?_)
 refine lr tok ?_
 refine pm ?_
 refine rP rfl (cQ rfl rfl) (nx ?_)
 refine bC h2 rfl (fun hc h2 => ?_) (fun hc h2 => ?_)
 refine sq [0] (pa (nx (aC (aJ ?_))))
 refine bA (aJ ?_)
 cases h2
 refine dZ ⟨_,rfl,fun e => ?_⟩
 subst e
 refine bA ?_
 replace h0 := gU h0
 refine aJ ?_
 cases h0
 exact r0t 4 rfl
 refine sk (sq [0,1,2] (pm ?_))
 refine rP rfl (bD rfl rfl) (pa (nx (aB (sq [0,1,2,3,4,5,6] ?_))))
 refine pm ?_
 refine pm ?_
 obtain ⟨v8,hv8,h2⟩ := bnd h2
 refine rP rfl (cG tok hv8 rfl rfl rfl rfl rfl rfl) (fr tok ?_)
 refine lr tok ?_
 refine pm ?_
 refine rP rfl (cQ rfl rfl) (nx ?_)
 refine bC h2 rfl (fun hc h2 => ?_) (fun hc h2 => ?_)
 refine sq [0] (pa (nx (aC (aJ ?_))))
 refine bA (aJ ?_)
 cases h2
 refine dZ ⟨_,rfl,fun e => ?_⟩
 subst e
 refine bA ?_
 replace h0 := gU h0
 refine aJ ?_
 cases h0
 exact r0t 4 rfl
 refine sk (sq [0,1,2] (pm ?_))
 refine rP rfl (bD rfl rfl) (pa (nx (aB (sq [0,1,2,3,4,5,6,7,8] ?_))))
 refine pm ?_
 refine pm ?_
 obtain ⟨v9,hv9,h2⟩ := bnd h2
 refine rP rfl (cG tok hv9 rfl rfl rfl rfl rfl rfl) (fr tok ?_)
 refine lr tok ?_
 refine pm ?_
 refine rP rfl (lG rfl rfl (by decide)) (rP rfl (nD rfl rfl) (rP rfl (aCq tok rfl rfl rfl rfl) (nx ?_)))
 refine bZ h2 rfl (fun hc h2 => ?_) (fun hc h2 => ?_)
 refine sq [0] (pa (nx (aC (aJ ?_))))
 refine bA (aJ ?_)
 cases h2
 refine dZ ⟨_,rfl,fun e => ?_⟩
 subst e
 refine bA ?_
 replace h0 := gU h0
 refine aJ ?_
 cases h0
 exact r0t 4 rfl
 refine sk (sr [0,1,2] (pm ?_))
 refine rP rfl (bD rfl rfl) (pa (aV ?_))
 refine aZ (aF (sr [0,1,2] (pm ?_)))
 refine rP rfl (bD rfl rfl) (pa (aV ?_))
 refine bX ?_
 cases h2
 refine ⟨_,rfl,?_⟩
 exact wk [0,1,2]
 refine bH (cC ?_)
 cases h2
 refine cA ⟨_,rfl,fun e => ?_⟩
 subst e
 refine aR (aF ?_)
 refine ⟨_,rfl,?_⟩
 exact wk [0,1,2]
 rintro v11 rfl
 replace h0 := nN h0
 refine sq [0,1] (pm ?_)
 refine pa (nx (aC ?_))
 cases h0
 exact r0t 4 rfl
theorem xN {p0 : aD} {p1 : Int} {r : Int} (h0 : iO p0 p1 = some r) : FnC Tryz.prog 109 [] [.agg [dS p0.Name,(dL aT p0.Months),(dL aG p0.Rules),(dI p0.Week)],(dI p1)] [] (dI r) := by
 refine fi 18 tok Tryz.func109 ?_
 unfold iO at h0
 refine sq [0,1] (bxx 3 ?_)
 refine pa (nx (sq [0,1,2,3,4] ?_))
 refine fa tok ?_
 refine ld tok ?_
 refine pm ?_
 obtain ⟨v1,hv1,h0⟩ := bnd h0
 refine rS rfl (aQ 4 (aAt hv1) rfl rfl rfl) (pa (nx (aB (sq [0,1] ?_))))
 refine pm ?_
 refine rP rfl (bB rfl rfl) (nx ?_)
 refine bC h0 rfl (fun hc h0 => ?_) (fun hc h0 => ?_)
 refine sq [0] (pa (nx (aC (aJ ?_))))
 cases h0
 exact r0t 4 rfl
 refine sk (sq [0,1,2,3,4] (fa tok ?_))
 refine ld tok ?_
 refine pm ?_
 obtain ⟨v2,hv2,h0⟩ := bnd h0
 refine rS rfl (aQ 4 (wE hv2) rfl rfl rfl) (pa (nx (aB (sq [0,1] ?_))))
 refine pm ?_
 refine rP rfl (bB rfl rfl) (nx ?_)
 refine bC h0 rfl (fun hc h0 => ?_) (fun hc h0 => ?_)
 refine sq [0] (pa (nx (aC (aJ ?_))))
 cases h0
 exact r0t 4 rfl
 refine sk (sq [0,1] (pm ?_))
 refine pa (nx (aC ?_))
 cases h0
 exact r0t 4 rfl
theorem rQ {p0 : bP} {p1 : Int} {r : Int} (h0 : fW p0 p1 = some r) : FnC Tryz.prog 37 [] [.agg [dS p0.Name,(dL bI p0.Works.Arbors),(dL dV p0.Works.Meshes),(dI p0.Minute),(dI p0.Hour),(dI p0.Escape),(dI p0.Teeth),(dI p0.Beats),(dS p0.Calendar.Name),(dL aT p0.Calendar.Months),(dL aG p0.Calendar.Rules),(dI p0.Calendar.Week),(dL cI p0.Cam),(dI p0.Strike)],(dI p1)] [] (dI r) := by
 refine fi 24 tok Tryz.func37 ?_
 unfold fW at h0
 refine sq [0,1] (bxx 3 ?_)
 refine pa (nx (sq [0,1,2,3,4] ?_))
 refine fa tok ?_
 refine rL rfl (bO tok rfl rfl rfl rfl) (pm ?_)
 obtain ⟨v1,hv1,h0⟩ := bnd h0
 refine rS rfl (aQ 4 (aBz hv1) rfl rfl rfl) (pa (nx (aB (sq [0,1] ?_))))
 refine pm ?_
 refine rP rfl (bB rfl rfl) (nx ?_)
 refine bC h0 rfl (fun hc h0 => ?_) (fun hc h0 => ?_)
 refine sq [0] (pa (nx (aC (aJ ?_))))
 cases h0
 exact r0t 4 rfl
 refine sk (sq [0,1,2,3,4] (fa tok ?_))
 refine rL rfl (bO tok rfl rfl rfl rfl) (pm ?_)
 obtain ⟨v2,hv2,h0⟩ := bnd h0
 refine rS rfl (aQ 4 (xN hv2) rfl rfl rfl) (pa (nx (aB (sq [0,1] ?_))))
 refine pm ?_
 refine rP rfl (bB rfl rfl) (nx ?_)
 refine bC h0 rfl (fun hc h0 => ?_) (fun hc h0 => ?_)
 refine sq [0] (pa (nx (aC (aJ ?_))))
 cases h0
 exact r0t 4 rfl
 refine sk (sq [0,1,2,3,4] (fa tok ?_))
 refine ld tok ?_
 refine pm ?_
 obtain ⟨v3,hv3,h0⟩ := bnd h0
 refine rS rfl (aQ 4 (tT hv3) rfl rfl rfl) (pa (nx (aB (sq [0,1] ?_))))
 refine pm ?_
 refine rP rfl (bB rfl rfl) (nx ?_)
 refine bC h0 rfl (fun hc h0 => ?_) (fun hc h0 => ?_)
 refine sq [0] (pa (nx (aC (aJ ?_))))
 cases h0
 exact r0t 4 rfl
 refine sk (sq [0,1] (pm ?_))
 refine pa (nx (aC ?_))
 cases h0
 exact r0t 4 rfl
theorem qC {p0 : ByteArray} {p1 : Int} {p2 : Int} {p3 : aD} {p4 : Int} {r : Bool} (h0 : eI p0 p1 p2 p3 p4 = some r) : FnC Tryz.prog 6 [] [dS p0,(dI p1),(dI p2), .agg [dS p3.Name,(dL aT p3.Months),(dL aG p3.Rules),(dI p3.Week)],(dI p4)] [] (dB r) := by
 refine fi 119 tok Tryz.func6 ?_
 unfold eI at h0
 refine sq [0,1] (bxx 3 ?_)
 refine pa (nx (aB (sq [0,1,2] ?_)))
 refine pm ?_
 refine rP rfl (mM tok rfl rfl rfl) (rP rfl (gT rfl rfl) (nx ?_))
 refine bC h0 rfl (fun hc h0 => ?_) (fun hc h0 => ?_)
 refine sq [0] (pa (nx (aC (aJ ?_))))
 cases h0
 exact r0t 10 rfl
 refine sk (sq [0] (pa (nx (sq [0,1,2,3] ?_))))
 refine rL rfl (bO tok rfl rfl rfl rfl) (pm ?_)
 obtain ⟨v1,hv1,h0⟩ := bnd h0
 refine rS rfl (aQ 4 (aAv hv1) rfl rfl rfl) (pa (nx (aB (sq [0,1] ?_))))
 refine pm ?_
 refine rP rfl (bB rfl rfl) (nx ?_)
 refine bC h0 rfl (fun hc h0 => ?_) (fun hc h0 => ?_)
 refine sq [0] (pa (nx (aC (aJ ?_))))
 cases h0
 exact r0t 10 rfl
 refine sk (sq [0,1,2,3,4,5,6,7,8,9,10,11,12] ?_)
 iterate 3 refine pm ?_
 refine rL rfl (bO tok rfl rfl rfl rfl) ?_
 obtain ⟨v2,hv2,h0⟩ := bnd h0
 refine rS rfl (aQ 4 (mS hv2) rfl rfl rfl) (pm ?_)
 obtain ⟨v3,hv3,h0⟩ := bnd h0
 refine jV (xX (k := 4) (t' := aA (aA (aA (aA (aA (aA (aA (aA (aA (aA ((fun _ => .dead)) 0 (dS p0)) 1 (dI p1)) 2 (dI p2)) 4 (dI p4)) 8 (.ptr 3 0 1 0 0)) 31 (dS p0)) 32 (dI p1)) 33 (dI p2)) 35 (.agg [dS v2.Name,(dL aT v2.Months), .own 5 0 (v2.Rules).length,(dI v2.Week)])) 36 (dI p4)) rfl (FzL.nil)) (jV (xX (k := 5) (t' := aA (aA (aA (aA (aA (aA (aA (aA (aA (aA ((fun _ => .dead)) 0 (dS p0)) 1 (dI p1)) 2 (dI p2)) 4 (dI p4)) 8 (.ptr 3 0 1 0 0)) 31 (dS p0)) 32 (dI p1)) 33 (dI p2)) 35 (.agg [dS v2.Name,(dL aT v2.Months),(dL aG v2.Rules),(dI v2.Week)])) 36 (dI p4)) rfl (FzL.nil)) (rS rfl (aQ 6 (uW hv3) rfl rfl rfl) (rP rfl (aL (r := .tup _) rfl) (rP rfl (aW rfl rfl) (rP rfl (aW rfl rfl) (al 10 [ze,zl,zl,z0,z0,z0,z0,z0,ze,zl,zl,z0,zl,z0] tok ?_))))))
 refine bst tok ?_
 refine pa (nx (sq [0,1,2,3] ?_))
 refine rL rfl (bO tok rfl rfl rfl rfl) ?_
 obtain ⟨v4,hv4,h0⟩ := bnd h0
 refine rS rfl (aQ 11 (mS hv4) rfl rfl rfl) (al 13 [ze,zl,zl,z0] tok ?_)
 refine bst tok (nx (sq [0,1,2,3,4,5,6,7,8,9,10,11] ?_))
 iterate 3 refine pm ?_
 refine rL rfl (bO tok rfl rfl rfl rfl) (pm ?_)
 obtain ⟨v5,hv5,h0⟩ := bnd h0
 refine rS rfl (fU 14 (pG hv5) rfl rfl) (rP rfl (aL (r := .tup _) rfl) (rP rfl (aW rfl rfl) (rP rfl (aW rfl rfl) (al 20 [ze,zl,zl,z0,z0,z0,z0,z0,ze,zl,zl,z0,zl,z0] tok ?_))))
 refine bst tok ?_
 refine pa (nx (aB ?_))
 obtain ⟨v7,h1,h0⟩ := bnd h0
 refine bF ⟨aA (aA (aA (aA (aA (aA (aA (aA (aA (aA (aA ((fun _ => .dead)) 0 (dS p0)) 1 (dI p1)) 2 (dI p2)) 4 (dI p4)) 8 (.ptr 3 0 1 0 0)) 12 (.ptr 4 0 1 0 0)) 13 (dI v3.2)) 14 (.ptr 5 0 1 0 0)) 15 (.ptr 6 0 1 0 0)) 16 (dI v5.2)) 59 (dB v7),lks [.no, .no, .no, .live [⟨74,4, .av [[dS p3.Name,(dL aT p3.Months),(dL aG p3.Rules),(dI p3.Week)]]⟩], .live [⟨34,14, .av [[dS v3.1.Name,(dL bI v3.1.Works.Arbors), .own 7 0 (v3.1.Works.Meshes).length,(dI v3.1.Minute),(dI v3.1.Hour),(dI v3.1.Escape),(dI v3.1.Teeth),(dI v3.1.Beats),(dS v3.1.Calendar.Name), .own 8 0 (v3.1.Calendar.Months).length, .own 9 0 (v3.1.Calendar.Rules).length,(dI v3.1.Calendar.Week), .own 10 0 (v3.1.Cam).length,(dI v3.1.Strike)]]⟩], .live [⟨31,4, .av [[dS v4.Name, .own 11 0 (v4.Months).length, .own 12 0 (v4.Rules).length,(dI v4.Week)]]⟩], .live [⟨34,14, .av [[dS v5.1.Name, .own 13 0 (v5.1.Works.Arbors).length, .own 14 0 (v5.1.Works.Meshes).length,(dI v5.1.Minute),(dI v5.1.Hour),(dI v5.1.Escape),(dI v5.1.Teeth),(dI v5.1.Beats),(dS v5.1.Calendar.Name), .own 15 0 (v5.1.Calendar.Months).length, .own 16 0 (v5.1.Calendar.Rules).length,(dI v5.1.Calendar.Week), .own 17 0 (v5.1.Cam).length,(dI v5.1.Strike)]]⟩], .live [⟨125,4, .data (List.map dV v3.1.Works.Meshes)⟩], .live [⟨170,3, .data (List.map aT v3.1.Calendar.Months)⟩], .live [⟨181,3, .data (List.map aG v3.1.Calendar.Rules)⟩], .live [⟨2,1, .data (List.map cI v3.1.Cam)⟩], .live [⟨170,3, .data (List.map aT v4.Months)⟩], .live [⟨181,3, .data (List.map aG v4.Rules)⟩], .live [⟨123,2, .av (eS 18 bI v5.1.Works.Arbors)⟩], .live [⟨125,4, .data (List.map dV v5.1.Works.Meshes)⟩], .live [⟨170,3, .data (List.map aT v5.1.Calendar.Months)⟩], .live [⟨181,3, .data (List.map aG v5.1.Calendar.Rules)⟩], .live [⟨2,1, .data (List.map cI v5.1.Cam)⟩], .live (qB 2 1 bI v5.1.Works.Arbors)]⟩ ?_ ?_
 refine sr [0,1,2,3,4,5,6,7,8] (rL rfl (bO tok rfl rfl rfl rfl) (rL rfl (bO tok rfl rfl rfl rfl) ?_))
 obtain ⟨v6,hv6,h1⟩ := bnd h1
 refine rS rfl (fU 21 (pY hv6) rfl rfl) (rP rfl (cJ rfl) (pm ?_))
 refine fI (u := 55) h1 rfl (fun hc h1 => ?_) (fun hc h1 => ?_)
 iterate 3 refine k1 ?_
 refine pkt (nx ?_)
 cases h1
 exact wk [0,1,2,3,10,13,20,6,7,8,9,11,12,14,16,17,18,19,15]
 refine pm1 ?_
 refine pm1 ?_
 refine rp rfl (w1 rfl rfl rfl) rfl (cQ rfl rfl) (pkf (nx ?_))
 cases h1
 exact wk [0,1,2,3,10,13,20,6,7,8,9,11,12,14,16,17,18,19,15]
 refine bZ h0 rfl (fun hc h0 => ?_) (fun hc h0 => ?_)
 refine sq [0] (pa (nx (aC (aJ ?_))))
 cases h0
 exact r0t 10 rfl
 refine sk (aB (aB (aI (is := [0,1,2,3,4]) [0,0,2,7,15] follows (by kernel_rfl) (dT rfl w0 rfl (bO tok rfl rfl rfl rfl) rfl rfl rfl (dT rfl w0 rfl (bO tok rfl rfl rfl rfl) rfl rfl rfl ?_)))))
 obtain ⟨v8,hv8,h0⟩ := bnd h0
 refine oH rfl w0 rfl (dJ 19 (mS hv8) rfl rfl rfl) ?_
 obtain ⟨v9,hv9,h0⟩ := bnd h0
 refine oH rfl w0 rfl (aPl 21 (tR hv9) rfl rfl) (tP rfl (cJ rfl) (bY ?_))
 refine ⟨by kernel_rfl,?_⟩
 refine aF ?_
 refine bZ h0 rfl (fun hc h0 => ?_) (fun hc h0 => ?_)
 refine sq [0] (pa (nx (aC (aJ ?_))))
 cases h0
 exact r0t 10 rfl
 refine sk (sq [0] (pa (nx (sq [0,1,2,3] ?_))))
 refine rL rfl (bO tok rfl rfl rfl rfl) (pm ?_)
 obtain ⟨v10,hv10,h0⟩ := bnd h0
 obtain ⟨hq11,h0⟩ := cR h0
 obtain ⟨hq12,h0⟩ := cR h0
 refine rw1 rfl w0 rfl (qE [11,12] 300 (pO hv10) rfl rfl) (pa (nx (aB ?_)))
 obtain ⟨v14,h1,h0⟩ := bnd h0
 refine bF ⟨aA (aA (aA (aA (aA (aA (aA (aA (aA ((fun _ => .dead)) 0 (dS p0)) 1 (dI p1)) 2 (dI p2)) 4 (dI p4)) 8 (.ptr 3 0 1 0 0)) 12 (.ptr 4 0 1 0 0)) 13 (dI v3.2)) 15 (.ptr 5 0 1 0 0)) 80 (dB v14),lks [.no, .no, .no, .live [⟨74,4, .av [[dS p3.Name,(dL aT p3.Months),(dL aG p3.Rules),(dI p3.Week)]]⟩], .live [⟨34,14, .av [[dS v3.1.Name,(dL bI v3.1.Works.Arbors), .own 6 0 (v3.1.Works.Meshes).length,(dI v3.1.Minute),(dI v3.1.Hour),(dI v3.1.Escape),(dI v3.1.Teeth),(dI v3.1.Beats),(dS v3.1.Calendar.Name), .own 7 0 (v3.1.Calendar.Months).length, .own 8 0 (v3.1.Calendar.Rules).length,(dI v3.1.Calendar.Week), .own 9 0 (v3.1.Cam).length,(dI v3.1.Strike)]]⟩], .live [⟨34,14, .av [[dS v5.1.Name, .own 10 0 (v5.1.Works.Arbors).length, .own 11 0 (v5.1.Works.Meshes).length,(dI v5.1.Minute),(dI v5.1.Hour),(dI v5.1.Escape),(dI v5.1.Teeth),(dI v5.1.Beats),(dS v5.1.Calendar.Name), .own 12 0 (v5.1.Calendar.Months).length, .own 13 0 (v5.1.Calendar.Rules).length,(dI v5.1.Calendar.Week), .own 14 0 (v5.1.Cam).length,(dI v5.1.Strike)]]⟩], .live [⟨125,4, .data (List.map dV v3.1.Works.Meshes)⟩], .live [⟨170,3, .data (List.map aT v3.1.Calendar.Months)⟩], .live [⟨181,3, .data (List.map aG v3.1.Calendar.Rules)⟩], .live [⟨2,1, .data (List.map cI v3.1.Cam)⟩], .live [⟨123,2, .av (eS 15 bI v5.1.Works.Arbors)⟩], .live [⟨125,4, .data (List.map dV v5.1.Works.Meshes)⟩], .live [⟨170,3, .data (List.map aT v5.1.Calendar.Months)⟩], .live [⟨181,3, .data (List.map aG v5.1.Calendar.Rules)⟩], .live [⟨2,1, .data (List.map cI v5.1.Cam)⟩], .live (qB 2 1 bI v5.1.Works.Arbors)]⟩ ?_ ?_
 refine sr [0,1,2,3,4,5,6,7,8,9,10,11,12] (pm ?_)
 refine rP rfl (bB rfl rfl) (pm ?_)
 refine jW (u := 70) h1 rfl (fun hc h1 => ?_) (fun hc h1 => ?_)
 iterate 4 refine k1 ?_
 refine pkt ?_
 refine pm ?_
 iterate 3 refine k1 ?_
 refine pkt (nx ?_)
 cases h1
 exact wk [0,1,2,3,4,6,7,8,9,10,13,14,15,16,17,18]
 refine rl rfl (w1 rfl rfl rfl) rfl (bO tok rfl rfl rfl rfl) (rl rfl (w1 rfl rfl rfl) rfl (bO tok rfl rfl rfl rfl) ?_)
 obtain ⟨v13,hv13,h1⟩ := bnd h1
 refine rs rfl (w1 rfl rfl rfl) rfl (fU 21 (pY hv13) rfl rfl) (rp rfl (w1 rfl rfl rfl) rfl (cJ rfl) (pkf ?_))
 refine pm ?_
 refine fI (u := 76) h1 rfl (fun hc h1 => ?_) (fun hc h1 => ?_)
 iterate 3 refine k1 ?_
 refine pkt (nx ?_)
 cases h1
 exact wk [0,1,2,3,4,6,7,8,9,10,13,14,15,16,17,18]
 refine pm1 ?_
 refine pm1 ?_
 refine rp rfl (w1 rfl rfl rfl) rfl (cQ rfl rfl) (pkf (nx ?_))
 cases h1
 exact wk [0,1,2,3,4,6,7,8,9,10,13,14,15,16,17,18]
 refine bZ h0 rfl (fun hc h0 => ?_) (fun hc h0 => ?_)
 refine sq [0] (pa (nx (aC (aJ ?_))))
 cases h0
 exact r0t 10 rfl
 refine sk (sq [0] (pa (nx (sq [0,1,2,3] ?_))))
 refine rL rfl (bO tok rfl rfl rfl rfl) (pm ?_)
 obtain ⟨v15,hv15,h0⟩ := bnd h0
 obtain ⟨hq16,h0⟩ := cR h0
 obtain ⟨hq17,h0⟩ := cR h0
 obtain ⟨hq18,h0⟩ := cR h0
 obtain ⟨hq19,h0⟩ := cR h0
 obtain ⟨hq20,h0⟩ := cR h0
 refine rw1 rfl w0 rfl (qE [10,15,11,12,13,14] 300 (uS hv15) rfl rfl) (pa (nx (sq [0] ?_)))
 refine pa (nx (sq [0,1,2,3] ?_))
 refine rL rfl (bO tok rfl rfl rfl rfl) (pm ?_)
 obtain ⟨v21,hv21,h0⟩ := bnd h0
 refine rS rfl (fU 16 (rQ hv21) rfl rfl) (pa (nx (aB (sq [0,1] ?_))))
 refine pm ?_
 refine rP rfl (bB rfl rfl) (nx ?_)
 refine bC h0 rfl (fun hc h0 => ?_) (fun hc h0 => ?_)
 refine sq [0] (pa (nx (aC (aJ ?_))))
 cases h0
 exact r0t 10 rfl
 refine sk (aB (sq [0,1,2] (pm ?_)))
 refine pm ?_
 refine rP rfl (cQ rfl rfl) (nx ?_)
 refine bC h0 rfl (fun hc h0 => ?_) (fun hc h0 => ?_)
 refine sq [0] (pa (nx (aC (aJ ?_))))
 cases h0
 exact r0t 10 rfl
 refine sk (sq [0,1,2,3,4,5,6,7,8,9,10,11,12] ?_)
 iterate 3 refine pm ?_
 refine rL rfl (bO tok rfl rfl rfl rfl) ?_
 obtain ⟨v22,hv22,h0⟩ := bnd h0
 refine rS rfl (aQ 16 (mS hv22) rfl rfl rfl) (pm ?_)
 obtain ⟨v23,hv23,h0⟩ := bnd h0
 refine rS rfl (fU 18 (pG hv23) rfl rfl) (rP rfl (aL (r := .tup _) rfl) (rP rfl (aW rfl rfl) (rP rfl (aW rfl rfl) (al 24 [ze,zl,zl,z0,z0,z0,z0,z0,ze,zl,zl,z0,zl,z0] tok ?_))))
 refine bst tok ?_
 refine pa (nx (aB ?_))
 obtain ⟨v25,h1,h0⟩ := bnd h0
 refine bF ⟨aA (aA (aA ((fun _ => .dead)) 15 (.ptr 3 0 1 0 0)) 18 (dI v15.1)) 110 (dB v25),lks [.no, .no, .no, .live [⟨34,14, .av [[dS v5.1.Name, .own 4 0 (v15.2.1).length, .own 5 0 (v15.2.2.1).length,(dI v5.1.Minute),(dI v5.1.Hour),(dI v5.1.Escape),(dI v5.1.Teeth),(dI v5.1.Beats),(dS v5.1.Calendar.Name), .own 6 0 (v15.2.2.2.1).length, .own 7 0 (v15.2.2.2.2.1).length,(dI v5.1.Calendar.Week), .own 8 0 (v15.2.2.2.2.2).length,(dI v5.1.Strike)]]⟩], .live [⟨123,2, .av (eS 9 bI v15.2.1)⟩], .live [⟨125,4, .data (List.map dV v15.2.2.1)⟩], .live [⟨170,3, .data (List.map aT v15.2.2.2.1)⟩], .live [⟨181,3, .data (List.map aG v15.2.2.2.2.1)⟩], .live [⟨2,1, .data (List.map cI v15.2.2.2.2.2)⟩], .live (qB 2 1 bI v15.2.1)]⟩ ?_ ?_
 refine sr [0,1,2,3,4,5,6,7,8] (rL rfl (bO tok rfl rfl rfl rfl) (rL rfl (bO tok rfl rfl rfl rfl) ?_))
 obtain ⟨v24,hv24,h1⟩ := bnd h1
 refine rS rfl (fU 25 (pY hv24) rfl rfl) (rP rfl (cJ rfl) (pm ?_))
 refine fI (u := 106) h1 rfl (fun hc h1 => ?_) (fun hc h1 => ?_)
 iterate 3 refine k1 ?_
 refine pkt (nx ?_)
 cases h1
 exact wk [0,1,2,5,10,11,12,13,14,15]
 refine pm1 ?_
 refine pm1 ?_
 refine rp rfl (w1 rfl rfl rfl) rfl (cQ rfl rfl) (pkf (nx ?_))
 cases h1
 exact wk [0,1,2,5,10,11,12,13,14,15]
 refine bZ h0 rfl (fun hc h0 => ?_) (fun hc h0 => ?_)
 refine sq [0] (pa (nx (aC (aJ ?_))))
 cases h0
 exact r0t 10 rfl
 refine sk (sq [0] (pa (nx (sq [0,1,2,3] ?_))))
 refine rL rfl (bO tok rfl rfl rfl rfl) (pm ?_)
 obtain ⟨v26,hv26,h0⟩ := bnd h0
 refine rS rfl (fU 10 (rQ hv26) rfl rfl) (pa (nx (aB (sq [0,1] ?_))))
 refine pm ?_
 refine rP rfl (bB rfl rfl) (nx ?_)
 refine bC h0 rfl (fun hc h0 => ?_) (fun hc h0 => ?_)
 refine sq [0] (pa (nx (aC (aJ ?_))))
 cases h0
 exact r0t 10 rfl
 refine sk (aB (sq [0,1,2] (pm ?_)))
 refine pm ?_
 refine rP rfl (cQ rfl rfl) (nx ?_)
 refine bC h0 rfl (fun hc h0 => ?_) (fun hc h0 => ?_)
 refine sq [0] (pa (nx (aC (aJ ?_))))
 cases h0
 exact r0t 10 rfl
 refine sk (sq [0] (pa (nx (aC ?_))))
 cases h0
 exact r0t 10 rfl
end Go.Proofs.YtgcdbbidmfdonaaGreat
namespace Go.Proofs.YtgcdbbidmfdonaaGreat
set_option linter.unusedVariables false
theorem aJ8 (x : Int) : IntKind.u64.wrap x = x % 18446744073709551616 := by
 unfold IntKind.wrap
 simp [IntKind.signed,IntKind.bits]
theorem aEh {x : Int} (h0 : 0 ≤ x) (h1 : x < 18446744073709551616) : IntKind.u64.wrap x = x := by rw [aJ8]; omega
theorem aLc {x : Int} (h0 : -18446744073709551616 < x) (h1 : x < 0) : IntKind.u64.wrap (-(IntKind.u64.wrap x)) = -x := by rw [aJ8,aJ8]; omega
def eF (x : Int) : Int := (x.natAbs : Int)
theorem nS (x : Int) : 0 ≤ eF x := by unfold eF; omega
theorem wU {x : Int} (h : osI x) : mF x = some (eF x) := by
 obtain ⟨h0,h1⟩ := h
 unfold mF eF
 split
 ·rw [aLc (by omega) (by omega)]; congr 1; omega
 ·rw [aEh (by omega) (by omega)]; congr 1; omega
theorem tN {x : Int} (h : osI x) : jP x = some (eF x) := by
 obtain ⟨h0,h1⟩ := h
 unfold jP eF
 split
 ·rw [aLc (by omega) (by omega)]; congr 1; omega
 ·rw [aEh (by omega) (by omega)]; congr 1; omega
theorem aHo {a b : Int} : Int.gcd b (a.tmod b) = Int.gcd a b := by
 unfold Int.gcd
 rw [Int.natAbs_tmod,Nat.gcd_comm a.natAbs b.natAbs,Nat.gcd_comm, ← Nat.gcd_rec]
theorem aNl {step : Int × Int → Option ((Int × Int) ⊕ Int)} (hS : ∀ a b,b ≠ 0 → step (a,b) = some (.inl (b,a.tmod b))) (hE : ∀ a,step (a,0) = some (.inr a)) (a b : Int) (hb : b.natAbs ≤ 9223372036854775808) :
  ∃ g,cE step (a,b) = some g ∧ g.natAbs = Int.gcd a b ∧ (g = a ∨ g.natAbs ≤ b.natAbs) := by
 refine rN (fun (s : Int × Int) => Int.gcd s.1 s.2 = Int.gcd a b ∧ s.2.natAbs ≤ b.natAbs ∧ (s.1 = a ∨ s.1.natAbs ≤ b.natAbs)) (fun (s : Int × Int) => s.2.natAbs) (fun g => g.natAbs = Int.gcd a b ∧ (g = a ∨ g.natAbs ≤ b.natAbs)) (fun s hI => ?_) (a,b) ⟨rfl,Nat.le_refl _, .inl rfl⟩ (by dsimp only; omega)
 obtain ⟨x,y⟩ := s
 obtain ⟨h1,h2,h3⟩ := hI
 dsimp only at h1 h2 h3 ⊢
 by_cases hy : y = 0
 ·right
  subst hy
  exact ⟨x,hE x,by rw [← h1]; simp,h3⟩
 ·left
  have hlt : (x.tmod y).natAbs < y.natAbs := by rw [Int.natAbs_tmod]; exact Nat.mod_lt _ (by omega)
  exact ⟨_,hS x y hy,⟨by rw [aHo]; exact h1,by dsimp only; omega, .inr h2⟩,hlt⟩
theorem yU {step : Int × Int → Option ((Int × Int) ⊕ Int)} (hS : ∀ a b,0 ≤ a → 0 < b → step (a,b) = some (.inl (b,a.tmod b))) (hE : ∀ a,step (a,0) = some (.inr a)) {a b : Int} (ha : 0 ≤ a) (hb0 : 0 ≤ b) (hb : b ≤ 18446744073709551616) :
  cE step (a,b) = some (Int.gcd a b : Int) := by
 obtain ⟨g,h,h1,h2⟩ := rN (step := step) (fun (s : Int × Int) => Int.gcd s.1 s.2 = Int.gcd a b ∧ 0 ≤ s.1 ∧ 0 ≤ s.2) (fun (s : Int × Int) => s.2.natAbs) (fun g => g.natAbs = Int.gcd a b ∧ 0 ≤ g) (fun s hI => by
  obtain ⟨x,y⟩ := s
  obtain ⟨h1,h2,h3⟩ := hI
  dsimp only at h1 h2 h3 ⊢
  by_cases hy : y = 0
  ·right
   subst hy
   exact ⟨x,hE x,by rw [← h1]; simp,h2⟩
  ·left
   have hlt : (x.tmod y).natAbs < y.natAbs := by rw [Int.natAbs_tmod]; exact Nat.mod_lt _ (by omega)
   exact ⟨_,hS x y h2 (by omega),⟨by rw [aHo]; exact h1,h3,Int.tmod_nonneg _ h2⟩,hlt⟩) (a,b) ⟨rfl,ha,hb0⟩ (by dsimp only; omega)
 rw [h]; congr 1; omega
theorem lK {n d : Int} (h : d ≠ 0) : 0 < Int.gcd n d := Int.gcd_pos_of_ne_zero_right n h
theorem aJm (n d : Int) : Int.gcd (eF n) (eF d) = Int.gcd n d := by unfold eF Int.gcd; simp
theorem qR {a g : Int} (ha : 0 ≤ a) (hg : 0 < g) : 0 ≤ a / g ∧ a / g ≤ a := ⟨Int.ediv_nonneg ha (by omega),Int.ediv_le_self _ ha⟩
def mkR (n d : Int) : aM × Bool :=
 if 1000000000 < eF n / (Int.gcd n d : Int) ∨ 1000000000 < eF d / (Int.gcd n d : Int) then (⟨0,0⟩,false)
 else (⟨if (decide (n < 0) != decide (d < 0)) = true then -(eF n / (Int.gcd n d : Int)) else eF n / (Int.gcd n d : Int),eF d / (Int.gcd n d : Int)⟩,true)
theorem aD9 {n d : Int} (hn : osI n) (hd : osI d) (h : d ≠ 0) {f : Int → Option (aM × Bool)} (hf : ∀ g,f g = (chk (g ≠ 0) (chk (g ≠ 0) ((((if 1000000000 < (IntKind.u64.wrap ((eF n).tdiv g)) then some true else some (decide (1000000000 < (IntKind.u64.wrap ((eF d).tdiv g))))) : Option Bool).bind fun v10 => (if v10 = true then some ((⟨0,0⟩ : aM),false) else (((if ((decide (n < 0)) != (decide (d < 0))) = true then some (⟨w64 (-(w64 (IntKind.u64.wrap ((eF n).tdiv g)))),w64 (IntKind.u64.wrap ((eF d).tdiv g))⟩ : aM) else some (⟨w64 (IntKind.u64.wrap ((eF n).tdiv g)),w64 (IntKind.u64.wrap ((eF d).tdiv g))⟩ : aM)) : Option aM).bind fun v11 => some (v11,true)))))))) :
  f (Int.gcd n d : Int) = some (mkR n d) := by
 have hg := lK (n := n) h
 have a0 := nS n
 have b0 := nS d
 have a1 : eF n ≤ 9223372036854775808 := by unfold eF; obtain ⟨_,_⟩ := hn; omega
 have b1 : eF d ≤ 9223372036854775808 := by unfold eF; obtain ⟨_,_⟩ := hd; omega
 have qa := qR (a := eF n) (g := (Int.gcd n d : Int)) a0 (by omega)
 have qb := qR (a := eF d) (g := (Int.gcd n d : Int)) b0 (by omega)
 rw [hf,gW (by omega),gW (by omega),Int.tdiv_eq_ediv_of_nonneg a0,Int.tdiv_eq_ediv_of_nonneg b0]
 unfold mkR
 generalize eF n / (Int.gcd n d : Int) = a at *
 generalize eF d / (Int.gcd n d : Int) = b at *
 rw [aEh qa.1 (by omega),aEh qb.1 (by omega)]
 by_cases c1 : 1000000000 < a
 ·simp [c1]
 ·by_cases c2 : 1000000000 < b
  ·simp [c1,c2]
  ·rw [aU (x := a) (by omega) (by omega),aU (x := b) (by omega) (by omega),aU (x := -a) (by omega) (by omega)]
   simp only [if_neg c1,decide_eq_false c2,Option.bind_some,Bool.false_eq_true,if_false,c1,c2,or_self]
   cases (decide (n < 0) != decide (d < 0)) <;> simp
theorem pK {n d : Int} (hn : osI n) (hd : osI d) (h : d ≠ 0) : fH n d = some (mkR n d) := by
 unfold fH
 have b1 : eF d ≤ 9223372036854775808 := by unfold eF; obtain ⟨_,_⟩ := hd; omega
 rw [wU hn,Option.bind_some,wU hd,Option.bind_some,yU (fun a b h0 h1 => by simp only; rw [if_pos h1,gW (by omega)]) (fun a => by simp) (nS n) (nS d) (by omega),aJm,Option.bind_some]
 exact aD9 hn hd h fun g => rfl
theorem aE6 {n d : Int} (hn : osI n) (hd : osI d) (h : d ≠ 0) : oP n d = some (mkR n d) := by
 unfold oP
 have b1 : eF d ≤ 9223372036854775808 := by unfold eF; obtain ⟨_,_⟩ := hd; omega
 rw [tN hn,Option.bind_some,tN hd,Option.bind_some,yU (fun a b h0 h1 => by simp only; rw [if_pos (by omega),gW (by omega)]) (fun a => by simp) (nS n) (nS d) (by omega),aJm,Option.bind_some]
 exact aD9 hn hd h fun g => rfl
def yY (x : aM × Bool) : aM × Int := if x.2 = true then (x.1,0) else (⟨0,0⟩,2)
def aC7 (n d : Int) : aM × Int := if d = 0 then (⟨0,0⟩,6) else yY (mkR n d)
theorem mQ {n d : Int} (hn : osI n) (hd : osI d) : dY n d = some (aC7 n d) := by
 unfold dY aC7 yY
 by_cases h : d = 0
 ·rw [if_pos h,if_pos h]
 ·rw [if_neg h,if_neg h,aE6 hn hd h,Option.bind_some]
  cases (mkR n d).2 <;> simp
theorem yJ {a b : Int} (ha : osI a) (ha' : -9223372036854775808 < a) (hb : osI b) (hb' : -9223372036854775808 < b) : qY a b = some (Int.gcd a b : Int) := by
 unfold qY
 obtain ⟨a0,a1⟩ := ha
 obtain ⟨b0,b1⟩ := hb
 obtain ⟨g,h,h1,h2⟩ := aNl (step := fun s3 => (if s3.2 ≠ 0 then (chk (s3.2 ≠ 0) (some (.inl (s3.2,s3.1.tmod s3.2)))) else some (.inr s3.1))) (fun a b h => by simp only; rw [if_pos h,gW h]) (fun a => by simp) a b (by omega)
 rw [h,Option.bind_some]
 split
 ·rw [aU (by omega) (by omega)]; congr 1; omega
 ·congr 1; omega
theorem rK {a b : Int} (ha : 0 ≤ a) (hb : 0 ≤ b) (hb1 : b ≤ 18446744073709551616) : mE a b = some (Int.gcd a b : Int) := by
 unfold mE
 rw [yU (fun a b h0 h1 => by simp only; rw [if_pos (by omega),gW (by omega)]) (fun a => by simp) ha hb hb1]; rfl
theorem pR {a : Int} (h : -9223372036854775808 < a) (h1 : a ≤ 9223372036854775807) : jG a = some (eF a) := by
 unfold jG eF
 split
 ·rw [aU (by omega) (by omega)]; congr 1; omega
 ·congr 1; omega
theorem aC4 {a : Int} (h : -9223372036854775808 < a) (h1 : a ≤ 9223372036854775807) : tW a = some (eF a) := by
 unfold tW eF
 split
 ·rw [aU (by omega) (by omega)]; congr 1; omega
 ·congr 1; omega
def yE (r : aM) : Bool := btw r.Den 1 1000000000 && (btw r.Num (-1000000000) 1000000000 && decide (Int.gcd r.Num r.Den = 1))
theorem yL {r : aM} : yE r = true ↔ (1 ≤ r.Den ∧ r.Den ≤ 1000000000) ∧ (-1000000000 ≤ r.Num ∧ r.Num ≤ 1000000000) ∧ Int.gcd r.Num r.Den = 1 := by
 unfold yE btw
 simp only [Bool.and_eq_true,decide_eq_true_eq]
theorem jF (r : aM) : dU r = some (yE r) := by
 unfold dU yE
 simp only [oM,Option.bind_some]
 by_cases h1 : btw r.Den 1 1000000000 = true
 ·by_cases h2 : btw r.Num (-1000000000) 1000000000 = true
  ·have g1 := of_decide_eq_true h1
   have g2 := of_decide_eq_true h2
   rw [if_pos h1,if_pos h2,yJ ⟨by omega,by omega⟩ (by omega) ⟨by omega,by omega⟩ (by omega),h1,h2]
   simp only [Option.bind_some,Bool.true_and]
   congr 1
   rw [decide_eq_decide]
   omega
  ·simp [h1,h2]
 ·simp [h1]
theorem aBf (r : aM) : qO r = some (yE r) := by
 unfold qO yE
 simp only [iW,Option.bind_some]
 by_cases h1 : btw r.Den 1 1000000000 = true
 ·by_cases h2 : btw r.Num (-1000000000) 1000000000 = true
  ·have g1 := of_decide_eq_true h1
   have g2 := of_decide_eq_true h2
   have e : Int.gcd (eF r.Num) r.Den = Int.gcd r.Num r.Den := by unfold eF Int.gcd; simp
   rw [if_pos h1,if_pos h2,pR (by omega) (by omega),Option.bind_some,rK (nS _) (by omega) (by omega),h1,h2,e]
   simp only [Option.bind_some,Bool.true_and]
   congr 1
   rw [decide_eq_decide]
   omega
  ·simp [h1,h2]
 ·simp [h1]
end Go.Proofs.YtgcdbbidmfdonaaGreat
