/- Texts of this claim, one behind the other (merged by a program of mine). -/
import Derived.Test.YtceknlcbfomdhaaGreatDoorProg
import Derived.Test.YtceknlcbfomdhaaGreatDoorGN5
set_option linter.unusedSimpArgs false
set_option linter.unusedVariables false
namespace Go.Proofs.YtceknlcbfomdhaaGreatDoor
open Go.RowKit
set_option linter.unusedVariables false
set_option maxRecDepth 100000
set_option maxHeartbeats 2000000
theorem aKs {p0:bG} {p1:bR} {p2:Int} {r:Bool} (h0:qW p0 p1 p2=some r):FnC Tryz.prog 172 [] [.ref (fJ p0), .agg [dI p1.A,(dI p1.WheelA),(dI p1.B),(dI p1.WheelB)],(dI p2)] [] (dB r):=by
 refine fi 22 tok Tryz.func172 ?_
 unfold qW at h0
 refine sq [0,1] (bxx 3 ?_)
 refine pa (nx ?_)
 obtain ⟨v7x,h1,h0⟩:=bnd h0
 refine dH v7x (fun v7=>⟨(fun _ => .dead),lks [.no, .no, .no]⟩) ?_ ?_
 refine sq [0] (pa (nx (aE ?_)))
 refine aZ (fun s4=>⟨aC (aC (aC (aC ((fun _ => .dead)) 0 (.ref (fJ p0))) 2 (dI p2)) 4 (.ptr 3 0 1 0 0)) 7 (dI s4),lks [.no, .no, .no, .live [⟨90,4, .av [[dI p1.A,(dI p1.WheelA),(dI p1.B),(dI p1.WheelB)]]⟩]]⟩) h1 ?_ (fun s4 y h2 => ?_)
 exact wk [0,1,2,3]
 refine aB (sq [0,1,2] (pm ?_))
 refine pm ?_
 refine rP rfl (bK rfl rfl) (nx ?_)
 refine bC h2 rfl (fun hc h2 => ?_) (fun hc h2 => ?_)
 refine sk (aB (aE (aB (aH (is:=[0,1,2,3,4,5,6,7,8]) [0,1,3,7,0,31,63,0,255] follows (by kernel_rfl) (yQ ?_)))))
 refine tnr ?_
 refine tfr tok ?_
 refine tlr tok ?_
 refine tpm ?_
 obtain ⟨v5,hv5,h2⟩:=bnd h2
 refine tP rfl (cE tok hv5 rfl rfl rfl rfl rfl rfl) (tP rfl (bJ tok rfl rfl rfl (by repeat (first | exact gV.z _ | apply gV.t))) (cZ rfl w0 rfl (bA tok rfl rfl rfl rfl) rfl rfl rfl ?_))
 obtain ⟨v6,hv6,h2⟩:=bnd h2
 refine jW rfl w0 rfl (cV 4 (aKp hv6) rfl rfl rfl) (bN ?_)
 refine ⟨by kernel_rfl,?_⟩
 refine aG ?_
 refine bM h2 rfl (fun hc h2 => ?_) (fun hc h2 => ?_)
 refine sq [0] (pa (nx (aA ?_)))
 refine aX (aI ?_)
 cases h2
 refine dM ⟨_,rfl,fun e => ?_⟩
 subst e
 refine aX ?_
 replace h0:=eT h0
 refine aI ?_
 cases h0
 exact r0t 6 rfl
 refine cX (bB (aG (sr [0,1,2] (pm ?_))))
 refine rP rfl (bH rfl rfl) (pa (aY ?_))
 refine bS ?_
 cases h2
 refine ⟨_,rfl,?_⟩
 exact wk [0,1,2,3]
 refine bF (bT ?_)
 cases h2
 refine bU ⟨_,rfl,fun e => ?_⟩
 subst e
 refine aQ (aG ?_)
 refine ⟨_,rfl,?_⟩
 exact wk [0,1,2]
 rintro v7 rfl
 replace h0:=gS h0
 refine sq [0] (pa (nx (aA ?_)))
 cases h0
 exact r0t 6 rfl
theorem aR4 {p0:bG} {r:Bool} (h0:xK p0=some r):FnC Tryz.prog 117 [] [.ref (fJ p0)] [] (dB r):=by
 refine fi 81 tok Tryz.func117 ?_
 unfold xK at h0
 refine sq [0] (pa (nx ?_))
 obtain ⟨v13x,h1,h0⟩:=bnd h0
 refine dH v13x (fun v13=>⟨aC ((fun _ => .dead)) 0 (.ref (fJ p0)),lks [.no, .no, .no]⟩) ?_ ?_
 refine sq [0] (pa (nx (aE ?_)))
 refine aZ (fun s7=>⟨aC (aC ((fun _ => .dead)) 0 (.ref (fJ p0))) 3 (dI s7),lks [.no, .no, .no]⟩) h1 ?_ (fun s7 y h2 => ?_)
 exact wk [0,1,2]
 refine aB (sq [0,1,2,3,4,5,6] (pm ?_))
 refine pmr ?_
 refine nr ?_
 refine fr tok ?_
 refine lr tok ?_
 refine rP rfl (aJ tok rfl rfl rfl) (rP rfl (bK rfl rfl) (nx ?_))
 refine bC h2 rfl (fun hc h2 => ?_) (fun hc h2 => ?_)
 refine sk (aB (aE ?_))
 obtain ⟨v12,h3,h2⟩:=bnd h2
 refine bI ⟨aC (aC (aC ((fun _ => .dead)) 0 (.ref (fJ p0))) 3 (dI s7)) 35 (dB v12),lks [.no, .no, .no]⟩ ?_ ?_
 refine sr [0,1,2,3,4,5,6,7,8,9,10,11,12,13,14,15,16,17,18,19,20,21] (pmr ?_)
 refine nr ?_
 refine fr tok ?_
 refine lr tok ?_
 refine pm ?_
 obtain ⟨v8,hv8,h3⟩:=bnd h3
 refine rP rfl (cE tok hv8 rfl rfl rfl rfl rfl rfl) ?_
 obtain ⟨v9,hv9,h3⟩:=bnd h3
 refine rS rfl (aM 3 (aKo hv9) rfl rfl rfl) (rP rfl (bW rfl) (pm ?_))
 refine dU (u:=22) h3 rfl (fun hc h3 => ?_) (fun hc h3 => ?_)
 iterate 12 refine k1 ?_
 refine pkt (nx ?_)
 cases h3
 exact wk [0,1,2]
 refine aKc ?_
 refine aKc ?_
 refine nr1 ?_
 refine fr1 tok ?_
 refine lr1 tok ?_
 refine pm1 ?_
 obtain ⟨v10,hv10,h3⟩:=bnd h3
 refine rp rfl (w1 rfl rfl rfl) rfl (cE tok hv10 rfl rfl rfl rfl rfl rfl) (fr1 tok ?_)
 refine lr1 tok ?_
 obtain ⟨v11,hv11,h3⟩:=bnd h3
 refine rs rfl (w1 rfl rfl rfl) rfl (aM 3 (aM1 hv11) rfl rfl rfl) (pm1 ?_)
 refine rp rfl (w1 rfl rfl rfl) rfl (cQ rfl rfl) (pkf (nx ?_))
 cases h3
 refine mG.trans_ (mB (d:=26) (ds:=(cL aS) p0.Arbors) rfl (by repeat (first | exact Pre.z _ | apply Pre.t))) (mG.trans_ (mB (d:=30) (ds:=cS v10.Name) rfl (by repeat (first | exact Pre.z _ | apply Pre.t))) ?_)
 exact wk [0,1,2]
 refine bM h2 rfl (fun hc h2 => ?_) (fun hc h2 => ?_)
 refine sq [0] (pa (nx (aA ?_)))
 refine aX (aI ?_)
 cases h2
 refine dM ⟨_,rfl,fun e => ?_⟩
 subst e
 refine aX ?_
 replace h0:=eT h0
 refine aI ?_
 cases h0
 exact r0t 2 rfl
 refine cX (bB (aG (sr [0,1,2] (pm ?_))))
 refine rP rfl (bH rfl rfl) (pa (aY ?_))
 refine bS ?_
 cases h2
 refine ⟨_,rfl,?_⟩
 exact wk [0,1,2]
 refine bF (bT ?_)
 cases h2
 refine bU ⟨_,rfl,fun e => ?_⟩
 subst e
 refine aQ (aG ?_)
 refine ⟨_,rfl,?_⟩
 exact wk [0,1,2]
 rintro v13 rfl
 replace h0:=gS h0
 obtain ⟨v26x,h1,h0⟩:=bnd h0
 refine dH v26x (fun v26=>⟨aC ((fun _ => .dead)) 0 (.ref (fJ p0)),lks [.no, .no, .no]⟩) ?_ ?_
 refine sq [0] (pa (nx (aE ?_)))
 refine aZ (fun s20=>⟨aC (aC ((fun _ => .dead)) 0 (.ref (fJ p0))) 4 (dI s20),lks [.no, .no, .no]⟩) h1 ?_ (fun s20 y h2 => ?_)
 exact wk [0,1,2]
 refine aB (sq [0,1,2,3,4,5,6] (pm ?_))
 refine pmr ?_
 refine nr ?_
 refine fr tok ?_
 refine lr tok ?_
 refine rP rfl (aJ tok rfl rfl rfl) (rP rfl (bK rfl rfl) (nx ?_))
 refine bC h2 rfl (fun hc h2 => ?_) (fun hc h2 => ?_)
 refine sk (aB (aE ?_))
 obtain ⟨v25,h3,h2⟩:=bnd h2
 refine bI ⟨aC (aC (aC ((fun _ => .dead)) 0 (.ref (fJ p0))) 4 (dI s20)) 66 (dB v25),lks [.no, .no, .no]⟩ ?_ ?_
 refine sr [0,1,2,3,4,5,6,7,8,9,10,11,12,13,14,15,16,17,18,19,20,21] (pmr ?_)
 refine pmr ?_
 refine nr ?_
 refine fr tok ?_
 refine lr tok ?_
 refine pm ?_
 obtain ⟨v21,hv21,h3⟩:=bnd h3
 refine rP rfl (cE tok hv21 rfl rfl rfl rfl rfl rfl) (rP rfl (bJ tok rfl rfl rfl (by repeat (first | exact gV.z _ | apply gV.t))) ?_)
 obtain ⟨v22,hv22,h3⟩:=bnd h3
 refine rS rfl (aM 3 (aM3 hv22) rfl rfl rfl) (rP rfl (bW rfl) (pm ?_))
 refine dU (u:=55) h3 rfl (fun hc h3 => ?_) (fun hc h3 => ?_)
 iterate 10 refine k1 ?_
 refine pkt (nx ?_)
 cases h3
 exact wk [0,1,2]
 refine aKc ?_
 refine aKc ?_
 refine nr1 ?_
 refine fr1 tok ?_
 refine lr1 tok ?_
 refine pm1 ?_
 obtain ⟨v23,hv23,h3⟩:=bnd h3
 refine rp rfl (w1 rfl rfl rfl) rfl (cE tok hv23 rfl rfl rfl rfl rfl rfl) (rp rfl (w1 rfl rfl rfl) rfl (bJ tok rfl rfl rfl (by repeat (first | exact gV.z _ | apply gV.t))) (pm1 ?_))
 obtain ⟨v24,hv24,h3⟩:=bnd h3
 refine rs rfl (w1 rfl rfl rfl) rfl (aM 3 (aKs hv24) rfl rfl rfl) (pkf (nx ?_))
 cases h3
 refine mG.trans_ (mB (d:=59) (ds:=(cL bV) p0.Meshes) rfl (by repeat (first | exact Pre.z _ | apply Pre.t))) ?_
 exact wk [0,1,2]
 refine bM h2 rfl (fun hc h2 => ?_) (fun hc h2 => ?_)
 refine sq [0] (pa (nx (aA ?_)))
 refine aX (aI ?_)
 cases h2
 refine dM ⟨_,rfl,fun e => ?_⟩
 subst e
 refine aX ?_
 replace h0:=eT h0
 refine aI ?_
 cases h0
 exact r0t 2 rfl
 refine cX (bB (aG (sr [0,1,2] (pm ?_))))
 refine rP rfl (bH rfl rfl) (pa (aY ?_))
 refine bS ?_
 cases h2
 refine ⟨_,rfl,?_⟩
 exact wk [0,1,2]
 refine bF (bT ?_)
 cases h2
 refine bU ⟨_,rfl,fun e => ?_⟩
 subst e
 refine aQ (aG ?_)
 refine ⟨_,rfl,?_⟩
 exact wk [0,1,2]
 rintro v26 rfl
 replace h0:=gS h0
 refine sq [0,1,2,3,4,5,6,7,8,9,10,11,12,13,14] (pmr ?_)
 refine nr ?_
 refine fr tok ?_
 refine lr tok ?_
 refine rP rfl (aJ tok rfl rfl rfl) (rP rfl (gW rfl rfl) (pm ?_))
 refine iT (u:=73) h0 rfl (fun hc h0 => ?_) (fun hc h0 => ?_)
 refine aKc ?_
 refine nr1 ?_
 refine fr1 tok ?_
 refine lr1 tok ?_
 refine rp rfl (w1 rfl rfl rfl) rfl (aJ tok rfl rfl rfl) (rp rfl (w1 rfl rfl rfl) rfl (gW rfl rfl) (pkt ?_))
 refine pa (nx (aA ?_))
 cases h0
 exact r0t 2 rfl
 iterate 6 refine k1 ?_
 refine pkf ?_
 refine pa (nx (aA ?_))
 cases h0
 exact r0t 2 rfl
theorem vY {p0:bG} {p1:Int} {r:Bool} (h0:lL p0 p1=some r):FnC Tryz.prog 118 [] [.ref (fJ p0),(dI p1)] [] (dB r):=by
 refine fi 13 tok Tryz.func118 ?_
 unfold lL at h0
 refine sq [0] (pa (nx (sq [0,1,2,3,4,5,6,7,8] ?_)))
 refine pm ?_
 refine pmr ?_
 refine nr ?_
 refine fr tok ?_
 refine lr tok ?_
 refine rP rfl (aJ tok rfl rfl rfl) (rP rfl (gX rfl rfl) ?_)
 obtain ⟨v1,hv1,h0⟩:=bnd h0
 refine rS rfl (aM 3 (eA hv1) rfl rfl rfl) (pa (nx (aA ?_)))
 cases h0
 exact r0t 4 rfl
theorem aKx {p0:List Int} {r:Bool} (h0:uX p0=some r):FnC Tryz.prog 119 [] [dL cI p0] [] (dB r):=by
 refine fi 19 tok Tryz.func119 ?_
 unfold uX at h0
 refine sq [0] (pa (nx ?_))
 obtain ⟨v7x,h1,h0⟩:=bnd h0
 refine dH v7x (fun v7=>⟨aC ((fun _ => .dead)) 0 (dL cI p0),lks [.no, .no, .no]⟩) ?_ ?_
 refine sq [0] (pa (nx (aE ?_)))
 refine aZ (fun s4=>⟨aC (aC ((fun _ => .dead)) 0 (dL cI p0)) 3 (dI s4),lks [.no, .no, .no]⟩) h1 ?_ (fun s4 y h2 => ?_)
 exact wk [0,1,2]
 refine aB (sq [0,1,2,3] (pm ?_))
 refine pm ?_
 refine rP rfl (aJ tok rfl rfl rfl) (rP rfl (bK rfl rfl) (nx ?_))
 refine bC h2 rfl (fun hc h2 => ?_) (fun hc h2 => ?_)
 refine sk (aB (aE (sq [0,1,2,3,4,5] (pm ?_))))
 refine pm ?_
 obtain ⟨v5,hv5,h2⟩:=bnd h2
 refine rP rfl (cE tok hv5 rfl rfl rfl rfl rfl rfl) (lr tok ?_)
 obtain ⟨v6,hv6,h2⟩:=bnd h2
 refine rS rfl (aM 3 (eA hv6) rfl rfl rfl) (rP rfl (bW rfl) (nx ?_))
 refine bM h2 rfl (fun hc h2 => ?_) (fun hc h2 => ?_)
 refine sq [0] (pa (nx (aA ?_)))
 refine aX (aI ?_)
 cases h2
 refine dM ⟨_,rfl,fun e => ?_⟩
 subst e
 refine aX ?_
 replace h0:=eT h0
 refine aI ?_
 cases h0
 exact r0t 2 rfl
 refine cX (bB (aG (sr [0,1,2] (pm ?_))))
 refine rP rfl (bH rfl rfl) (pa (aY ?_))
 refine bS ?_
 cases h2
 refine ⟨_,rfl,?_⟩
 exact wk [0,1,2]
 refine bF (bT ?_)
 cases h2
 refine bU ⟨_,rfl,fun e => ?_⟩
 subst e
 refine aQ (aG ?_)
 refine ⟨_,rfl,?_⟩
 exact wk [0,1,2]
 rintro v7 rfl
 replace h0:=gS h0
 refine sq [0,1,2,3] (pm ?_)
 refine rP rfl (aJ tok rfl rfl rfl) ?_
 obtain ⟨v8,hv8,h0⟩:=bnd h0
 refine rS rfl (aM 3 (eA hv8) rfl rfl rfl) (pa (nx (aA ?_)))
 cases h0
 exact r0t 2 rfl
theorem aR6 {p0:aW} {r:Bool} (h0:xN p0=some r):FnC Tryz.prog 63 [] [.ref (nE p0)] [] (dB r):=by
 refine fi 81 tok Tryz.func63 ?_
 unfold xN at h0
 refine sq [0] (pa (nx (aB ?_)))
 obtain ⟨v6,h1,h0⟩:=bnd h0
 refine bI ⟨aC (aC ((fun _ => .dead)) 0 (.ref (nE p0))) 48 (dB v6),lks [.no, .no, .no]⟩ ?_ ?_
 refine aH (is:=[0,1,2,3,4,5,6,7,8,9,10,11,12,13,14,15,16,17,18,19,20,21,22,23,24,25,26,27,28,29,30,31,32,33,34,35,36,37,38,39,40,41,42,43,44,45]) [0,1,3,7,15,31,63,127,255,511,1023,2047,4095,8191,16383,32767,65535,16383,147455,409599,933887,2097151,4194303,8388607,16777215,33554431,67108863,134217727,33554431,301989887,838860799,1912602623,4294967295,8589934591,17179869183,34359738367,68719476735,137438953471,274877906943,68719476735,618475290623,1717986918399,3917010173951,8796093022207,17592186044415,35184372088831] follows (by kernel_rfl) (yQ ?_)
 refine tnr ?_
 refine tfr tok ?_
 refine tlr tok ?_
 obtain ⟨v1,hv1,h1⟩:=bnd h1
 refine jW rfl w0 rfl (cV 3 (uQ hv1) rfl rfl rfl) (tP rfl (bW rfl) (tpm ?_))
 refine tL (u:=9) h1 rfl (fun hc h1 => ?_) (fun hc h1 => ?_)
 iterate 5 refine k2 ?_
 refine aBv ?_
 refine tpm ?_
 iterate 9 refine k2 ?_
 refine aBv ?_
 refine tpm ?_
 iterate 9 refine k2 ?_
 refine aBv ?_
 refine tpm ?_
 iterate 9 refine k2 ?_
 refine aBv ?_
 refine bN ?_
 refine ⟨by kernel_rfl,?_⟩
 refine aG ?_
 cases h1
 exact wk [0,1,2]
 refine aE8 ?_
 refine aSj ?_
 refine aK9 tok ?_
 obtain ⟨v2,hv2,h1⟩:=bnd h1
 refine jW rfl (w1 rfl rfl rfl) rfl (cV 3 (vG (aR4 hv2)) rfl rfl rfl) (rF rfl (w1 rfl rfl rfl) rfl (bW rfl) (aBu ?_))
 refine tpm ?_
 refine tL (u:=16) h1 rfl (fun hc h1 => ?_) (fun hc h1 => ?_)
 iterate 9 refine k2 ?_
 refine aBv ?_
 refine tpm ?_
 iterate 9 refine k2 ?_
 refine aBv ?_
 refine tpm ?_
 iterate 9 refine k2 ?_
 refine aBv ?_
 refine bN ?_
 refine ⟨by kernel_rfl,?_⟩
 refine aG ?_
 cases h1
 exact wk [0,1,2]
 refine aE8 ?_
 refine aSj ?_
 refine aK9 tok ?_
 refine aE8 ?_
 refine aSj ?_
 refine aK9 tok ?_
 refine aOl tok ?_
 obtain ⟨v3,hv3,h1⟩:=bnd h1
 refine jW rfl (w1 rfl rfl rfl) rfl (cV 3 (vG (vY hv3)) rfl rfl rfl) (rF rfl (w1 rfl rfl rfl) rfl (bW rfl) (aBu ?_))
 refine tpm ?_
 refine tL (u:=27) h1 rfl (fun hc h1 => ?_) (fun hc h1 => ?_)
 iterate 9 refine k2 ?_
 refine aBv ?_
 refine tpm ?_
 iterate 9 refine k2 ?_
 refine aBv ?_
 refine bN ?_
 refine ⟨by kernel_rfl,?_⟩
 refine aG ?_
 cases h1
 exact wk [0,1,2]
 refine aE8 ?_
 refine aSj ?_
 refine aK9 tok ?_
 refine aE8 ?_
 refine aSj ?_
 refine aK9 tok ?_
 refine aOl tok ?_
 obtain ⟨v4,hv4,h1⟩:=bnd h1
 refine jW rfl (w1 rfl rfl rfl) rfl (cV 3 (vG (vY hv4)) rfl rfl rfl) (rF rfl (w1 rfl rfl rfl) rfl (bW rfl) (aBu ?_))
 refine tpm ?_
 refine tL (u:=38) h1 rfl (fun hc h1 => ?_) (fun hc h1 => ?_)
 iterate 9 refine k2 ?_
 refine aBv ?_
 refine bN ?_
 refine ⟨by kernel_rfl,?_⟩
 refine aG ?_
 cases h1
 exact wk [0,1,2]
 refine aE8 ?_
 refine aSj ?_
 refine aK9 tok ?_
 refine aE8 ?_
 refine aSj ?_
 refine aK9 tok ?_
 refine aOl tok ?_
 obtain ⟨v5,hv5,h1⟩:=bnd h1
 refine jW rfl (w1 rfl rfl rfl) rfl (cV 3 (vG (vY hv5)) rfl rfl rfl) (rF rfl (w1 rfl rfl rfl) rfl (bW rfl) (aBu ?_))
 refine bN ?_
 refine ⟨by kernel_rfl,?_⟩
 refine aG ?_
 cases h1
 exact wk [0,1,2]
 refine bM h0 rfl (fun hc h0 => ?_) (fun hc h0 => ?_)
 refine sq [0] (pa (nx (aA (aI ?_))))
 cases h0
 exact r0t 2 rfl
 refine sk (sq [0,1,2,3,4,5,6,7,8,9,10,11,12,13,14,15,16,17,18,19,20,21,22,23,24,25,26,27,28,29,30,31,32] (pmr ?_))
 refine nr ?_
 refine fr tok ?_
 refine lr tok ?_
 obtain ⟨v7,hv7,h0⟩:=bnd h0
 refine rS rfl (aM 3 (qQ hv7) rfl rfl rfl) (pm ?_)
 refine dU (u:=54) h0 rfl (fun hc h0 => ?_) (fun hc h0 => ?_)
 refine aKc ?_
 refine nr1 ?_
 refine fr1 tok ?_
 refine lr1 tok ?_
 obtain ⟨v8,hv8,h0⟩:=bnd h0
 refine rs rfl (w1 rfl rfl rfl) rfl (aM 3 (eA hv8) rfl rfl rfl) (pkt ?_)
 refine pm ?_
 refine dU (u:=61) h0 rfl (fun hc h0 => ?_) (fun hc h0 => ?_)
 refine aKc ?_
 refine nr1 ?_
 refine fr1 tok ?_
 obtain ⟨v9,hv9,h0⟩:=bnd h0
 refine rs rfl (w1 rfl rfl rfl) rfl (aM 3 (vG (aAy hv9)) rfl rfl rfl) (pkt ?_)
 refine pm ?_
 refine dU (u:=67) h0 rfl (fun hc h0 => ?_) (fun hc h0 => ?_)
 refine aKc ?_
 refine nr1 ?_
 refine fr1 tok ?_
 refine lr1 tok ?_
 obtain ⟨v10,hv10,h0⟩:=bnd h0
 refine rs rfl (w1 rfl rfl rfl) rfl (aM 3 (aKx hv10) rfl rfl rfl) (pkt ?_)
 refine pm ?_
 refine dU (u:=74) h0 rfl (fun hc h0 => ?_) (fun hc h0 => ?_)
 refine aKc ?_
 refine nr1 ?_
 refine fr1 tok ?_
 refine lr1 tok ?_
 obtain ⟨v11,hv11,h0⟩:=bnd h0
 refine rs rfl (w1 rfl rfl rfl) rfl (aM 3 (eA hv11) rfl rfl rfl) (pkt ?_)
 refine pa (nx (aA ?_))
 cases h0
 exact r0t 2 rfl
 iterate 5 refine k1 ?_
 refine pkf ?_
 refine pa (nx (aA ?_))
 cases h0
 exact r0t 2 rfl
 iterate 5 refine k1 ?_
 refine pkf ?_
 refine pm ?_
 iterate 5 refine k1 ?_
 refine pkf ?_
 refine pa (nx (aA ?_))
 cases h0
 exact r0t 2 rfl
 iterate 4 refine k1 ?_
 refine pkf ?_
 refine pm ?_
 iterate 5 refine k1 ?_
 refine pkf ?_
 refine pm ?_
 iterate 5 refine k1 ?_
 refine pkf ?_
 refine pa (nx (aA ?_))
 cases h0
 exact r0t 2 rfl
 iterate 5 refine k1 ?_
 refine pkf ?_
 refine pm ?_
 iterate 4 refine k1 ?_
 refine pkf ?_
 refine pm ?_
 iterate 5 refine k1 ?_
 refine pkf ?_
 refine pm ?_
 iterate 5 refine k1 ?_
 refine pkf ?_
 refine pa (nx (aA ?_))
 cases h0
 exact r0t 2 rfl
theorem aEy {p0:bG} {p1:bR} {r:bQ} (h0:pN p0 p1=some r):FnC Tryz.prog 204 [] [.ref (fJ p0), .agg [dI p1.A,(dI p1.WheelA),(dI p1.B),(dI p1.WheelB)]] [] (.agg [dI r.Driver,(dI r.Driven)]):=by
 refine fi 32 tok Tryz.func204 ?_
 unfold pN at h0
 refine sq [0,1] (bxx 3 ?_)
 refine al 4 [z0,z0] tok (nx (aB ?_))
 refine aH (is:=[0,1,2,3,4,5,6,7,8,9,10,11,12,13,14,15,16,17,18,19,20,21,22,23,24,25,26,27]) [0,1,3,7,0,16,63,127,255,0,512,2047,4095,0,8192,24576,57344,0,131072,516096,1040384,2088960,0,4194304,16769024,33546240,67108863,134217727] follows (by kernel_rfl) (yQ ?_)
 refine tnr ?_
 refine tfr tok ?_
 refine tlr tok ?_
 refine tfa tok ?_
 refine tld tok ?_
 obtain ⟨v1,hv1,h0⟩:=bnd h0
 refine tP rfl (cE tok hv1 rfl rfl rfl rfl rfl rfl) (tfr tok ?_)
 refine tlr tok ?_
 refine tfa tok ?_
 refine tld tok ?_
 obtain ⟨v2,hv2,h0⟩:=bnd h0
 refine tP rfl (cE tok hv2 rfl rfl rfl rfl rfl rfl) (tlr tok ?_)
 refine yQ ?_
 refine tnr ?_
 refine tfr tok ?_
 refine tlr tok ?_
 refine tfa tok ?_
 refine tld tok ?_
 obtain ⟨v3,hv3,h0⟩:=bnd h0
 refine tP rfl (cE tok hv3 rfl rfl rfl rfl rfl rfl) (tfr tok ?_)
 refine tlr tok ?_
 refine tfa tok ?_
 refine tld tok ?_
 obtain ⟨v4,hv4,h0⟩:=bnd h0
 refine tP rfl (cE tok hv4 rfl rfl rfl rfl rfl rfl) (tlr tok ?_)
 refine tP rfl (pbl (C0:=[z0,z0]) tok rfl rfl rfl) (oN rfl w0 (jA (cs:=_ :: _) tok rfl rfl rfl rfl rfl rfl rfl) (bN ?_))
 refine ⟨by kernel_rfl,?_⟩
 refine aG (aA ?_)
 cases h0
 exact gU (rs:=[.cell 4 86]) rfl
theorem aCx {p0:bG} {p1:List Bool} {p2:List aD} {r:Bool × Bool × List Bool × List aD} (h0:iB p0 p1 p2=some r):FnC Tryz.prog 174 [.live [⟨4,1, .data (List.map cB p1)⟩], .live [⟨75,2, .data (List.map eF p2)⟩]] [.ref (fJ p0), .own 0 0 (p1).length, .own 1 0 (p2).length] [.live [⟨4,1, .data (List.map cB r.2.2.1)⟩], .live [⟨75,2, .data (List.map eF r.2.2.2)⟩]] (.tup [dB r.1,(dB r.2.1)]):=by
 refine fi 92 tok Tryz.func174 ?_
 unfold iB at h0
 refine sq [0,1] (pa ?_)
 refine pa (nx (sq [0] ?_))
 refine pa (nx ?_)
 obtain ⟨v27x,h1,h0⟩:=bnd h0
 refine dH v27x (fun v27=>⟨aC ((fun _ => .dead)) 8 (dB v27.1),lks [.live [⟨4,1, .data (List.map cB v27.2.1)⟩], .live [⟨75,2, .data (List.map eF v27.2.2)⟩], .no]⟩) ?_ ?_
 refine sq [0] (pa (nx (aE ?_)))
 refine aZ (fun s14=>⟨aC (aC (aC (aC (aC ((fun _ => .dead)) 0 (.ref (fJ p0))) 1 (.own 0 0 (s14.2.2.1).length)) 2 (.own 1 0 (s14.2.2.2).length)) 8 (dB s14.1)) 9 (dI s14.2.1),lks [.live [⟨4,1, .data (List.map cB s14.2.2.1)⟩], .live [⟨75,2, .data (List.map eF s14.2.2.2)⟩], .no]⟩) h1 ?_ (fun s14 y h2 => ?_)
 exact wk [0,1,2]
 refine aB (sq [0,1,2,3,4,5,6] (pm ?_))
 refine pmr ?_
 refine nr ?_
 refine fr tok ?_
 refine lr tok ?_
 refine rP rfl (aJ tok rfl rfl rfl) (rP rfl (bK rfl rfl) (nx ?_))
 refine bC h2 rfl (fun hc h2 => ?_) (fun hc h2 => ?_)
 refine sk ?_
 obtain ⟨v26x,h3,h2⟩:=bnd h2
 refine dH v26x (fun v26=>⟨aC (aC (aC (aC (aC ((fun _ => .dead)) 0 (.ref (fJ p0))) 1 (.own 0 0 (v26.2.1).length)) 2 (.own 1 0 (v26.2.2).length)) 8 (dB v26.1)) 9 (dI s14.2.1),lks [.live [⟨4,1, .data (List.map cB v26.2.1)⟩], .live [⟨75,2, .data (List.map eF v26.2.2)⟩], .no]⟩) ?_ ?_
 refine aE (sq [0,1,2,3,4,5,6,7,8] (pmr ?_))
 refine nr ?_
 refine fr tok ?_
 refine lr tok ?_
 refine pm ?_
 obtain ⟨v15,hv15,h3⟩:=bnd h3
 refine rP rfl (cE tok hv15 rfl rfl rfl rfl rfl rfl) (rP rfl (bJ tok rfl rfl rfl (by repeat (first | exact gV.z _ | apply gV.t))) (al 3 [z0,z0,z0,z0] tok ?_))
 refine bst tok (nx (sq [0,1,2,3,4] ?_))
 refine pmr ?_
 refine rL rfl (bA tok rfl rfl rfl rfl) ?_
 obtain ⟨v16,hv16,h3⟩:=bnd h3
 refine rS rfl (aM 4 (aEy hv16) rfl rfl rfl) (al 4 [z0,z0] tok ?_)
 refine bst tok (nx (aB (aB ?_)))
 refine aH (is:=[0,1,2,3,4,5,6,7,8,9,10]) [0,0,2,7,15,0,0,64,224,480,1023] follows (by kernel_rfl) (tP rfl (aL (r := .own _ _ _) rfl) (tfa tok ?_))
 refine tld tok ?_
 obtain ⟨v17,hv17,h3⟩:=bnd h3
 refine cZ rfl w0 rfl (fB tok hv17 rfl rfl rfl rfl rfl rfl rfl rfl) rfl rfl rfl (cZ rfl w0 rfl (jK tok (dP hv17).2.1 rfl rfl rfl rfl rfl rfl) rfl rfl rfl (tP rfl (aL (r := .own _ _ _) rfl) (tfa tok ?_)))
 refine tld tok ?_
 obtain ⟨v18,hv18,h3⟩:=bnd h3
 refine cZ rfl w0 rfl (fB tok hv18 rfl rfl rfl rfl rfl rfl rfl rfl) rfl rfl rfl (cZ rfl w0 rfl (jK tok (dP hv18).2.1 rfl rfl rfl rfl rfl rfl) rfl rfl rfl (tP rfl (aV7 tok rfl rfl rfl rfl) (bN ?_)))
 refine ⟨by kernel_rfl,?_⟩
 refine aG ?_
 refine bM h3 rfl (fun hc h3 => ?_) (fun hc h3 => ?_)
 refine bF (bT (aQ (aG ?_)))
 cases h3
 refine ⟨_,rfl,?_⟩
 exact wk [0,1,2]
 refine sk ?_
 obtain ⟨v20,h4,h3⟩:=bnd h3
 refine bI ⟨aC (aC (aC (aC (aC (aC ((fun _ => .dead)) 0 (.ref (fJ p0))) 1 (.own 0 0 (s14.2.2.1).length)) 2 (.own 1 0 (s14.2.2.2).length)) 9 (dI s14.2.1)) 10 (.ptr 3 0 1 0 0)) 11 (.ptr 4 0 1 0 0),lks [.live [⟨4,1, .data (List.map cB s14.2.2.1)⟩], .live [⟨75,2, .data (List.map eF s14.2.2.2)⟩], .no, .live [⟨90,4, .av [[dI v20.1.A,(dI v20.1.WheelA),(dI v20.1.B),(dI v20.1.WheelB)]]⟩], .live [⟨86,2, .av [[dI v20.2.Driver,(dI v20.2.Driven)]]⟩]]⟩ ?_ ?_
 refine sq [0,1,2,3,4] (rP rfl (aL (r := .own _ _ _) rfl) (fa tok ?_))
 refine ld tok ?_
 obtain ⟨v19,hv19,h4⟩:=bnd h4
 refine rL rfl (fB tok hv19 rfl rfl rfl rfl rfl rfl rfl rfl) (rL rfl (jK tok (dP hv19).2.1 rfl rfl rfl rfl rfl rfl) (nx ?_))
 refine bM h4 rfl (fun hc h4 => ?_) (fun hc h4 => ?_)
 refine sq [0,1,2,3,4,5] (fa tok ?_)
 refine ld tok ?_
 refine fa tok ?_
 refine ld tok ?_
 refine rP rfl (pbl (C0:=[z0,z0,z0,z0]) tok rfl rfl rfl) (bst tok (nx (sr [0,1,2,3,4,5] ?_)))
 refine fa tok ?_
 refine ld tok ?_
 refine fa tok ?_
 refine ld tok ?_
 refine rP rfl (pbl (C0:=[z0,z0]) tok rfl rfl rfl) (bst tok (nx ?_))
 cases h4
 exact wk [0,1,2,3,4]
 refine sk ?_
 cases h4
 exact wk [0,1,2,3,4]
 refine sq [0,1,2,3,4,5,6,7,8,9,10,11] (fa tok ?_)
 refine ld tok ?_
 refine rP rfl (wH rfl) (fa tok ?_)
 refine ld tok ?_
 obtain ⟨v21,hv21,h3⟩:=bnd h3
 refine rS rfl (aM 5 (pJ hv21) rfl rfl rfl) (rP rfl (aL (r := .tup _) rfl) (rP rfl (aN rfl rfl) (rP rfl (aN rfl rfl) (al 5 [z0,z0] tok ?_))))
 refine bst tok ?_
 refine pa (nx (aB ?_))
 refine aH (is:=[0,1,2,3,4,5,6,7,8,9,10,11,12]) [0,0,2,7,15,0,63,127,255,255,0,1535,4095] follows (by kernel_rfl) (tP rfl (aL (r := .own _ _ _) rfl) (tfa tok ?_))
 refine tld tok ?_
 obtain ⟨v22,hv22,h3⟩:=bnd h3
 refine cZ rfl w0 rfl (fB tok hv22 rfl rfl rfl rfl rfl rfl rfl rfl) rfl rfl rfl (cZ rfl w0 rfl (xH tok (dP hv22).2.1 rfl rfl rfl rfl rfl) rfl rfl rfl (cZ rfl w0 rfl (bA tok rfl rfl rfl rfl) rfl rfl rfl ?_))
 obtain ⟨v23,hv23,h3⟩:=bnd h3
 refine jW rfl w0 rfl (cV 7 (aBs hv23) rfl rfl rfl) (tP rfl (aL (r := .tup _) rfl) (tP rfl (aN rfl rfl) (tP rfl (aN rfl rfl) (aEt rfl w0 rfl rfl (fun hx hk=>oU 6 (cs:=[z0,z0]) tok rfl rfl hk) (oN rfl w0 (jA (cs:=_ :: _) tok rfl rfl rfl rfl rfl rfl rfl) (tpa ?_))))))
 refine bN ?_
 refine ⟨by kernel_rfl,?_⟩
 refine aG (aB (sq [0,1] (pm ?_)))
 refine rP rfl (bW rfl) (nx ?_)
 refine bM h3 rfl (fun hc h3 => ?_) (fun hc h3 => ?_)
 refine sq [0,1] (pa ?_)
 refine pa (nx (aA (aI ?_)))
 refine aX ?_
 cases h3
 replace h2:=eT h2
 refine aI ?_
 cases h2
 refine dM ⟨_,rfl,fun e => ?_⟩
 subst e
 refine aX ?_
 replace h0:=eT h0
 refine aI ?_
 cases h0
 exact xF (rs:=[.tmp 6, .tmp 7]) 2 rfl rfl
 refine sk (sq [0,1,2,3,4,5] (rP rfl (aL (r := .own _ _ _) rfl) (fa tok ?_)))
 refine ld tok ?_
 refine rL rfl (bA tok rfl rfl rfl rfl) ?_
 obtain ⟨v24,hv24,h3⟩:=bnd h3
 refine rL rfl (fB tok hv24 rfl rfl rfl rfl rfl rfl rfl rfl) (rw0 rfl w0 (sL (cs:=_ :: _) tok v23.1 (dP hv24).2.1 rfl rfl rfl rfl rfl rfl rfl rfl) (nx (sq [0,1,2,3,4] (rP rfl (aL (r := .own _ _ _) rfl) (fa tok ?_)))))
 refine ld tok ?_
 obtain ⟨v25,hv25,h3⟩:=bnd h3
 refine rL rfl (fB tok hv25 rfl rfl rfl rfl rfl rfl rfl rfl) (rw0 rfl w0 (sL (cs:=[.d _]) tok true (dP hv25).2.1 rfl rfl rfl rfl rfl rfl rfl rfl) (nx (sr [0] (pa (aY ?_)))))
 refine bB (aG ?_)
 cases h3
 refine ⟨_,rfl,?_⟩
 exact wk [0,1,2]
 rintro v26 rfl
 replace h2:=gS h2
 refine sr [0,1,2] (pm ?_)
 refine rP rfl (bH rfl rfl) (pa (aY ?_))
 refine bS ?_
 cases h2
 refine ⟨_,rfl,?_⟩
 exact wk [0,1,2]
 refine bF (bT ?_)
 cases h2
 refine bU ⟨_,rfl,fun e => ?_⟩
 subst e
 refine aQ (aG ?_)
 refine ⟨_,rfl,?_⟩
 exact wk [0,1,2]
 rintro v27 rfl
 replace h0:=gS h0
 refine sq [0,1,2] (pm ?_)
 refine pa ?_
 refine pa (nx (aA ?_))
 cases h0
 exact xF (rs:=[.tmp 6, .tmp 7]) 2 rfl rfl
theorem aM2 {p0:bG} {p1:bR} {p2:List aD} {r:Bool} (h0:sS p0 p1 p2=some r):FnC Tryz.prog 175 [] [.ref (fJ p0), .agg [dI p1.A,(dI p1.WheelA),(dI p1.B),(dI p1.WheelB)],(dL eF p2)] [] (dB r):=by
 refine fi 44 tok Tryz.func175 ?_
 unfold sS at h0
 refine sq [0,1] (bxx 3 ?_)
 refine pa (nx (sq [0,1,2,3,4] ?_))
 refine pmr ?_
 refine rL rfl (bA tok rfl rfl rfl rfl) ?_
 obtain ⟨v1,hv1,h0⟩:=bnd h0
 refine rS rfl (aM 4 (aEy hv1) rfl rfl rfl) (al 4 [z0,z0] tok ?_)
 refine bst tok (nx (sq [0,1,2,3,4,5,6,7,8,9,10,11] ?_))
 refine fa tok ?_
 refine ld tok ?_
 refine rP rfl (wH rfl) (fa tok ?_)
 refine ld tok ?_
 obtain ⟨v2,hv2,h0⟩:=bnd h0
 refine rS rfl (aM 5 (pJ hv2) rfl rfl rfl) (rP rfl (aL (r := .tup _) rfl) (rP rfl (aN rfl rfl) (rP rfl (aN rfl rfl) (al 5 [z0,z0] tok ?_))))
 refine bst tok ?_
 refine pa (nx (aB ?_))
 refine aH (is:=[0,1,2,3,4,5,6,7,8,9,10,11,12]) [0,0,2,7,15,0,63,127,255,255,0,1535,4095] follows (by kernel_rfl) (tpm ?_)
 refine tfa tok ?_
 refine tld tok ?_
 obtain ⟨v3,hv3,h0⟩:=bnd h0
 refine tP rfl (cE tok hv3 rfl rfl rfl rfl rfl rfl) (tP rfl (bJ tok rfl rfl rfl (by repeat (first | exact gV.z _ | apply gV.t))) (cZ rfl w0 rfl (bA tok rfl rfl rfl rfl) rfl rfl rfl ?_))
 obtain ⟨v4,hv4,h0⟩:=bnd h0
 refine jW rfl w0 rfl (cV 7 (aBs hv4) rfl rfl rfl) (tP rfl (aL (r := .tup _) rfl) (tP rfl (aN rfl rfl) (tP rfl (aN rfl rfl) (aEt rfl w0 rfl rfl (fun hx hk=>oU 6 (cs:=[z0,z0]) tok rfl rfl hk) (oN rfl w0 (jA (cs:=_ :: _) tok rfl rfl rfl rfl rfl rfl rfl) (tpa ?_))))))
 refine bN ?_
 refine ⟨by kernel_rfl,?_⟩
 refine aG (aB (aH (is:=[0,1,2,3,4,5,6,7,8,9,10]) [0,1,3,3,3,19,59,123,255,511,1023] follows (by kernel_rfl) (tpm ?_)))
 refine tpm ?_
 refine tL (u:=35) h0 rfl (fun hc h0 => ?_) (fun hc h0 => ?_)
 refine cZ rfl (w1 rfl rfl rfl) rfl (bA tok rfl rfl rfl rfl) rfl rfl rfl (aIv ?_)
 refine cZ rfl (w1 rfl rfl rfl) rfl (yO tok rfl rfl rfl rfl rfl rfl rfl) rfl rfl rfl (cZ rfl (w1 rfl rfl rfl) rfl (rG tok rfl rfl rfl rfl rfl) rfl rfl rfl ?_)
 obtain ⟨v5,hv5,h0⟩:=bnd h0
 refine rF rfl (w1 rfl rfl rfl) rfl (cE tok hv5 rfl rfl rfl rfl rfl rfl) (rF rfl (w1 rfl rfl rfl) rfl (bJ tok rfl rfl rfl (by repeat (first | exact gV.z _ | apply gV.t))) (rF rfl (w1 rfl rfl rfl) rfl (aH9 (a:=v4.1) (b:=v5) rfl rfl) (aBv ?_)))
 refine tpa ?_
 refine bN ?_
 refine ⟨by kernel_rfl,?_⟩
 refine aG (aA ?_)
 cases h0
 exact r0t 6 rfl
 iterate 7 refine k2 ?_
 refine aBu ?_
 refine tpa ?_
 refine bN ?_
 refine ⟨by kernel_rfl,?_⟩
 refine aG (aA ?_)
 cases h0
 exact r0t 6 rfl
theorem aIk {p0:bG} {p1:Int} {r:List aD × Int} (h0:oQ p0 p1=some r):FnC Tryz.prog 120 [] [.ref (fJ p0),(dI p1)] [.live [⟨75,2, .data (List.map eF r.1)⟩]] (.tup [.own 0 0 r.1.length,(dI r.2)]):=by
 refine fi 79 tok Tryz.func120 ?_
 unfold oQ at h0
 refine sq [0,1] (pa ?_)
 refine pa (nx (aB (sq [0,1,2,3] ?_)))
 refine pmr ?_
 refine pm ?_
 obtain ⟨v1,hv1,h0⟩:=bnd h0
 refine rS rfl (aM 3 (vY hv1) rfl rfl rfl) (rP rfl (bW rfl) (nx ?_))
 refine bM h0 rfl (fun hc h0 => ?_) (fun hc h0 => ?_)
 refine sq [0,1] (pa ?_)
 refine pa (nx ?_)
 refine cN (cW 3 rfl 75 2 (d:=4) rfl) (aA (aI ?_))
 cases h0
 exact dG (rs:=[.tmp 4, .tmp 5]) [3] rfl
 refine sk (sq [0,1,2,3,4,5,6] (pmr ?_))
 refine nr ?_
 refine fr tok ?_
 refine lr tok ?_
 refine rP rfl (aJ tok rfl rfl rfl) ?_
 obtain ⟨hq2,h0⟩:=cO h0
 refine rS rfl (aJ7 3 tok (c:=cB) false hq2 rfl rfl rfl rfl rfl rfl rfl rfl rfl rfl rfl rfl rfl) (rP rfl (aR (r := .own _ _ _) rfl) (nx (sq [0,1,2,3,4,5,6] (pmr ?_))))
 refine nr ?_
 refine fr tok ?_
 refine lr tok ?_
 refine rP rfl (aJ tok rfl rfl rfl) ?_
 obtain ⟨hq3,h0⟩:=cO h0
 refine rS rfl (aJ7 4 tok (c:=eF) (⟨0,0⟩:aD) hq3 rfl rfl rfl rfl rfl rfl rfl rfl rfl rfl rfl rfl rfl) (rP rfl (aR (r := .own _ _ _) rfl) (nx (sq [0,1,2,3] (rP rfl (aL (r := .own _ _ _) rfl) (pm ?_)))))
 obtain ⟨v4,hv4,h0⟩:=bnd h0
 refine rL rfl (fB tok hv4 rfl rfl rfl rfl rfl rfl rfl rfl) (rw0 rfl w0 (sL (cs:=[.d _]) tok true (dP hv4).2.1 rfl rfl rfl rfl rfl rfl rfl rfl) (nx (sq [0,1,2,3,4] (rP rfl (aL (r := .own _ _ _) rfl) (pm ?_)))))
 obtain ⟨v5,hv5,h0⟩:=bnd h0
 refine rS rfl (aM 5 (tM hv5) rfl rfl rfl) ?_
 obtain ⟨v6,hv6,h0⟩:=bnd h0
 refine rL rfl (fB tok hv6 rfl rfl rfl rfl rfl rfl rfl rfl) (rw0 rfl w0 (sL (cs:=_ :: _) tok v5 (dP hv6).2.1 rfl rfl rfl rfl rfl rfl rfl rfl) (nx ?_))
 obtain ⟨v15x,h1,h0⟩:=bnd h0
 refine dH v15x (fun v15=>⟨aC (aC (aC ((fun _ => .dead)) 0 (.ref (fJ p0))) 6 (.own 3 0 (v15.1).length)) 7 (.own 4 0 (v15.2).length),lks [.no, .no, .no, .live [⟨4,1, .data (List.map cB v15.1)⟩], .live [⟨75,2, .data (List.map eF v15.2)⟩]]⟩) ?_ ?_
 refine sq [0] (pa (nx (aE ?_)))
 refine aZ (fun s11=>⟨aC (aC (aC (aC ((fun _ => .dead)) 0 (.ref (fJ p0))) 6 (.own 3 0 (s11.2.1).length)) 7 (.own 4 0 (s11.2.2).length)) 8 (dB s11.1),lks [.no, .no, .no, .live [⟨4,1, .data (List.map cB s11.2.1)⟩], .live [⟨75,2, .data (List.map eF s11.2.2)⟩]]⟩) h1 ?_ (fun s11 y h2 => ?_)
 exact wk [0,1,2,3,4]
 refine aB (sq [0] (pm (nx ?_)))
 refine bM h2 rfl (fun hc h2 => ?_) (fun hc h2 => ?_)
 refine sk (aE (sq [0,1,2,3,4,5,6,7,8] (pmr ?_)))
 refine rP rfl (aL (r := .own _ _ _) rfl) (rP rfl (aL (r := .own _ _ _) rfl) ?_)
 obtain ⟨v12,hv12,h2⟩:=bnd h2
 obtain ⟨hq13,h2⟩:=cO h2
 obtain ⟨hq14,h2⟩:=cO h2
 refine rw1 rfl w0 rfl (nX [3,4] 300 (aCx hv12) rfl rfl) (rP rfl (aL (r := .tup _) rfl) (rP rfl (aN rfl rfl) (rP rfl (aN rfl rfl) (pa ?_))))
 refine pa (nx (aB (sq [0,1] ?_)))
 refine pm ?_
 refine rP rfl (bW rfl) (nx ?_)
 refine bM h2 rfl (fun hc h2 => ?_) (fun hc h2 => ?_)
 refine sq [0,1] (pa ?_)
 refine pa (nx ?_)
 refine cN (cW 5 rfl 75 2 (d:=4) rfl) (aA (aI (aX ?_)))
 cases h2
 refine dM ⟨_,rfl,fun e => ?_⟩
 subst e
 refine aX ?_
 replace h0:=eT h0
 refine aI ?_
 cases h0
 exact dG (rs:=[.tmp 4, .tmp 5]) [5] rfl
 refine sk (sr [0,1] (pm ?_))
 refine pa (aY ?_)
 refine bB (bS ?_)
 cases h2
 refine ⟨_,rfl,?_⟩
 exact wk [0,1,2,3,4]
 refine bF (bT ?_)
 cases h2
 refine bU ⟨_,rfl,fun e => ?_⟩
 subst e
 refine aQ (aG ?_)
 refine ⟨_,rfl,?_⟩
 exact wk [0,1,2,3,4]
 rintro v15 rfl
 replace h0:=gS h0
 obtain ⟨v20x,h1,h0⟩:=bnd h0
 refine dH v20x (fun v20=>⟨aC (aC ((fun _ => .dead)) 0 (.ref (fJ p0))) 7 (.own 3 0 (v15.2).length),lks [.no, .no, .no, .live [⟨75,2, .data (List.map eF v15.2)⟩]]⟩) ?_ ?_
 refine sq [0] (pa (nx (aE ?_)))
 refine aZ (fun s18=>⟨aC (aC (aC (aC ((fun _ => .dead)) 0 (.ref (fJ p0))) 6 (.own 3 0 (v15.1).length)) 7 (.own 4 0 (v15.2).length)) 11 (dI s18),lks [.no, .no, .no, .live [⟨4,1, .data (List.map cB v15.1)⟩], .live [⟨75,2, .data (List.map eF v15.2)⟩]]⟩) h1 ?_ (fun s18 y h2 => ?_)
 exact wk [0,1,2,3,4]
 refine aB (sq [0,1,2,3] (pm ?_))
 refine rP rfl (aL (r := .own _ _ _) rfl) (rL rfl (mF tok rfl rfl rfl rfl rfl) (rP rfl (bK rfl rfl) (nx ?_)))
 refine bC h2 rfl (fun hc h2 => ?_) (fun hc h2 => ?_)
 refine sk (aB (aE (sq [0,1,2,3,4] (rP rfl (aL (r := .own _ _ _) rfl) (pm ?_)))))
 obtain ⟨v19,hv19,h2⟩:=bnd h2
 refine rL rfl (fB tok hv19 rfl rfl rfl rfl rfl rfl rfl rfl) (rL rfl (jK tok (dP hv19).2.1 rfl rfl rfl rfl rfl rfl) (rP rfl (bW rfl) (nx ?_)))
 refine bM h2 rfl (fun hc h2 => ?_) (fun hc h2 => ?_)
 refine sq [0,1] (pa ?_)
 refine pa (nx ?_)
 refine cN (cW 5 rfl 75 2 (d:=4) rfl) (aA (aX (aI ?_)))
 cases h2
 refine dM ⟨_,rfl,fun e => ?_⟩
 subst e
 refine aX ?_
 replace h0:=eT h0
 refine aI ?_
 cases h0
 exact dG (rs:=[.tmp 4, .tmp 5]) [5] rfl
 refine cX (bB (aG (sr [0,1,2] (pm ?_))))
 refine rP rfl (bH rfl rfl) (pa (aY ?_))
 refine bS ?_
 cases h2
 refine ⟨_,rfl,?_⟩
 exact wk [0,1,2,3,4]
 refine bF (bT ?_)
 cases h2
 refine bU ⟨_,rfl,fun e => ?_⟩
 subst e
 refine aQ (aG ?_)
 refine ⟨_,rfl,?_⟩
 exact wk [0,1,2,4]
 rintro v20 rfl
 replace h0:=gS h0
 obtain ⟨v27x,h1,h0⟩:=bnd h0
 refine dH v27x (fun v27=>⟨aC ((fun _ => .dead)) 7 (.own 3 0 (v15.2).length),lks [.no, .no, .no, .live [⟨75,2, .data (List.map eF v15.2)⟩]]⟩) ?_ ?_
 refine sq [0] (pa (nx (aE ?_)))
 refine aZ (fun s24=>⟨aC (aC (aC ((fun _ => .dead)) 0 (.ref (fJ p0))) 7 (.own 3 0 (v15.2).length)) 12 (dI s24),lks [.no, .no, .no, .live [⟨75,2, .data (List.map eF v15.2)⟩]]⟩) h1 ?_ (fun s24 y h2 => ?_)
 exact wk [0,1,2,3]
 refine aB (sq [0,1,2,3,4,5,6] (pm ?_))
 refine pmr ?_
 refine nr ?_
 refine fr tok ?_
 refine lr tok ?_
 refine rP rfl (aJ tok rfl rfl rfl) (rP rfl (bK rfl rfl) (nx ?_))
 refine bC h2 rfl (fun hc h2 => ?_) (fun hc h2 => ?_)
 refine sk (aB (aE (sq [0,1,2,3,4,5,6,7,8,9,10] (pmr ?_))))
 refine pmr ?_
 refine nr ?_
 refine fr tok ?_
 refine lr tok ?_
 refine pm ?_
 obtain ⟨v25,hv25,h2⟩:=bnd h2
 refine rP rfl (cE tok hv25 rfl rfl rfl rfl rfl rfl) (rP rfl (bJ tok rfl rfl rfl (by repeat (first | exact gV.z _ | apply gV.t))) (rP rfl (aL (r := .own _ _ _) rfl) ?_))
 obtain ⟨v26,hv26,h2⟩:=bnd h2
 refine rS rfl (eW 4 (aM2 hv26) rfl rfl) (rP rfl (bW rfl) (nx ?_))
 refine bM h2 rfl (fun hc h2 => ?_) (fun hc h2 => ?_)
 refine sq [0,1] (pa ?_)
 refine pa (nx ?_)
 refine cN (cW 4 rfl 75 2 (d:=4) rfl) (aA (aX (aI ?_)))
 cases h2
 refine dM ⟨_,rfl,fun e => ?_⟩
 subst e
 refine aX ?_
 replace h0:=eT h0
 refine aI ?_
 cases h0
 exact dG (rs:=[.tmp 4, .tmp 5]) [4] rfl
 refine cX (bB (aG (sr [0,1,2] (pm ?_))))
 refine rP rfl (bH rfl rfl) (pa (aY ?_))
 refine bS ?_
 cases h2
 refine ⟨_,rfl,?_⟩
 exact wk [0,1,2,3]
 refine bF (bT ?_)
 cases h2
 refine bU ⟨_,rfl,fun e => ?_⟩
 subst e
 refine aQ (aG ?_)
 refine ⟨_,rfl,?_⟩
 exact wk [0,1,2,3]
 rintro v27 rfl
 replace h0:=gS h0
 refine sq [0,1,2] (rP rfl (aL (r := .own _ _ _) rfl) (rP rfl (aR (r := .own _ _ _) rfl) (pa (nx (aA ?_)))))
 cases h0
 exact dG (rs:=[.tmp 4, .tmp 5]) [3] rfl
theorem aKz {p0:aW} {p1:aD} {r:Bool} (h0:tR p0 p1=some r):FnC Tryz.prog 121 [] [.ref (nE p0), .agg [dI p1.Num,(dI p1.Den)]] [] (dB r):=by
 refine fi 22 tok Tryz.func121 ?_
 unfold tR at h0
 refine sq [0,1] (bxx 3 ?_)
 refine pa (nx (aB ?_))
 refine aH (is:=[0,1,2,3,4,5,6,9,10,11,12,13,14,15,7,8,16,17]) [0,1,3,7,15,0,32,96,255,0,512,1536,3584,0,8192,32256,65535,131071] follows (by kernel_rfl) (yQ ?_)
 refine tnr ?_
 refine tfr tok ?_
 refine tlr tok ?_
 refine tP rfl (eL rfl rfl) (tfa tok ?_)
 refine tld tok ?_
 refine yQ ?_
 refine tnr ?_
 refine tfr tok ?_
 refine tlr tok ?_
 refine tfa tok ?_
 refine tld tok ?_
 refine tP rfl (eL rfl rfl) ?_
 obtain ⟨v1,hv1,h0⟩:=bnd h0
 refine jW rfl w0 rfl (cV 4 (sP hv1) rfl rfl rfl) (tP rfl (eL rfl rfl) (tP rfl (iX rfl rfl) (tpa ?_)))
 refine bN ?_
 refine ⟨by kernel_rfl,?_⟩
 refine aG (aA ?_)
 cases h0
 exact r0t 4 rfl
theorem aGp {p0:aF} {p1:List Int} {r:Int} (h0:pU p0 p1=some r):FnC Tryz.prog 122 [] [.ref (dW p0),(dL cI p1)] [] (dI r):=by
 refine fi 22 tok Tryz.func122 ?_
 unfold pU at h0
 refine sq [0] (pa (nx (aB ?_)))
 obtain ⟨v3,h1,h0⟩:=bnd h0
 refine bI ⟨aC (aC (aC ((fun _ => .dead)) 0 (.ref (dW p0))) 1 (dL cI p1)) 12 (dB v3),lks [.no, .no, .no]⟩ ?_ ?_
 refine sr [0,1,2,3,4,5,6,7] (pmr ?_)
 obtain ⟨v1,hv1,h1⟩:=bnd h1
 refine rS rfl (aM 3 (aAy hv1) rfl rfl rfl) (rP rfl (bW rfl) (pm ?_))
 refine dU (u:=8) h1 rfl (fun hc h1 => ?_) (fun hc h1 => ?_)
 iterate 3 refine k1 ?_
 refine pkt (nx ?_)
 cases h1
 exact wk [0,1,2]
 refine pm1 ?_
 obtain ⟨v2,hv2,h1⟩:=bnd h1
 refine rs rfl (w1 rfl rfl rfl) rfl (aM 3 (aKx hv2) rfl rfl rfl) (rp rfl (w1 rfl rfl rfl) rfl (bW rfl) (pkf (nx ?_)))
 cases h1
 exact wk [0,1,2]
 refine bM h0 rfl (fun hc h0 => ?_) (fun hc h0 => ?_)
 refine sq [0] (pa (nx (aA (aI ?_))))
 cases h0
 exact r0t 4 rfl
 refine sk (aB (sq [0,1,2,3,4,5,6,7,8] (pm ?_)))
 refine rP rfl (aJ tok rfl rfl rfl) (pmr ?_)
 refine nr ?_
 refine fr tok ?_
 refine lr tok ?_
 refine rP rfl (aJ tok rfl rfl rfl) ?_
 obtain ⟨hq4,h0⟩:=cO h0
 refine rP rfl (kU rfl rfl hq4) (rP rfl (cQ rfl rfl) (nx ?_))
 refine bC h0 rfl (fun hc h0 => ?_) (fun hc h0 => ?_)
 refine sq [0] (pa (nx (aA (aI ?_))))
 cases h0
 exact r0t 4 rfl
 refine sk (sq [0] (pa (nx (aA ?_))))
 cases h0
 exact r0t 4 rfl
theorem aIo {p0:aW} {r:List ByteArray} (h0:oS p0=some r):FnC Tryz.prog 64 [] [.ref (nE p0)] [.live [⟨9,1, .data (List.map cS r)⟩]] (.own 0 0 r.length):=by
 refine fi 61 tok Tryz.func64 ?_
 unfold oS at h0
 refine sq [0] (pa (nx (sq [0,1] ?_)))
 refine rS rfl (eQ 3 tok rfl rfl rfl rfl) (rP rfl (aR (r := .own _ _ _) rfl) (nx (aB (aH (is:=[0,1,2,3,4,5,6,7,8,9,10,11,12]) [0,1,3,0,8,24,56,127,255,511,511,1023,4095] follows (by kernel_rfl) (yQ ?_)))))
 refine tnr ?_
 refine tfr tok ?_
 refine yQ ?_
 refine tnr ?_
 refine tfr tok ?_
 refine tlr tok ?_
 obtain ⟨v1,hv1,h0⟩:=bnd h0
 refine jW rfl w0 rfl (cV 4 (vG (aIk hv1)) rfl rfl rfl) (tP rfl (aL (r := .tup _) rfl) (tP rfl (aN rfl rfl) (tP rfl (aN rfl rfl) (tP rfl (aR (r := .own _ _ _) rfl) (tpa ?_)))))
 refine bN ?_
 refine ⟨by kernel_rfl,?_⟩
 refine aG ?_
 obtain ⟨v9,h1,h0⟩:=bnd h0
 refine bI ⟨aC (aC ((fun _ => .dead)) 0 (.ref (nE p0))) 3 (.own 3 0 (v9).length),lks [.no, .no, .no, .live [⟨9,1, .data (List.map cS v9)⟩]]⟩ ?_ ?_
 refine sq [0,1] (pm ?_)
 refine rP rfl (cQ rfl rfl) (nx ?_)
 refine bC h1 rfl (fun hc h1 => ?_) (fun hc h1 => ?_)
 refine sr [0,1,2,3] (rP rfl (aL (r := .own _ _ _) rfl) (rS rfl (iZ tok cS [(⟨#[119,111,114,107,115]⟩:ByteArray)] rfl rfl rfl (by repeat (first | exact Els.nil _ | apply Els.cons (cs:=[.d _]) rfl rfl rfl | apply Els.cons (cs:=_ :: _) rfl rfl rfl)) rfl rfl rfl (by repeat (first | exact cR.nil | (apply cR.cons; (repeat (first | exact eZ.nil | apply eZ.cons))))) rfl) ?_))
 obtain ⟨hq2,h1⟩:=cO h1
 refine rw1 rfl w0 rfl (eU tok hq2 rfl rfl rfl rfl rfl rfl rfl rfl rfl rfl rfl rfl (fun _=>rfl)) (rP rfl (aR (r := .own _ _ _) rfl) (nx ?_))
 cases h1
 exact wk [0,1,2,3]
 obtain ⟨v5,h2,h1⟩:=bnd h1
 refine bI ⟨aC (aC (aC ((fun _ => .dead)) 0 (.ref (nE p0))) 3 (.own 3 0 (v5).length)) 4 (.own 4 0 (v1.1).length),lks [.no, .no, .no, .live [⟨9,1, .data (List.map cS v5)⟩], .live [⟨75,2, .data (List.map eF v1.1)⟩]]⟩ ?_ ?_
 refine sq [0,1,2,3,4,5,6,7,8] (rP rfl (aL (r := .own _ _ _) rfl) (pmr ?_))
 refine nr ?_
 refine fr tok ?_
 refine lr tok ?_
 obtain ⟨v3,hv3,h2⟩:=bnd h2
 refine rL rfl (fB tok hv3 rfl rfl rfl rfl rfl rfl rfl rfl) (rL rfl (xH tok (dP hv3).2.1 rfl rfl rfl rfl rfl) (rP rfl (pbl (C0:=[z0,z0]) tok rfl rfl rfl) (rP rfl (vR (a:=v3) (b:=(⟨1,12⟩:aD)) rfl rfl) (nx ?_))))
 refine bC h2 rfl (fun hc h2 => ?_) (fun hc h2 => ?_)
 refine sr [0,1,2,3] (rP rfl (aL (r := .own _ _ _) rfl) (rS rfl (iZ tok cS [(⟨#[104,111,117,114]⟩:ByteArray)] rfl rfl rfl (by repeat (first | exact Els.nil _ | apply Els.cons (cs:=[.d _]) rfl rfl rfl | apply Els.cons (cs:=_ :: _) rfl rfl rfl)) rfl rfl rfl (by repeat (first | exact cR.nil | (apply cR.cons; (repeat (first | exact eZ.nil | apply eZ.cons))))) rfl) ?_))
 obtain ⟨hq4,h2⟩:=cO h2
 refine rw1 rfl w0 rfl (eU tok hq4 rfl rfl rfl rfl rfl rfl rfl rfl rfl rfl rfl rfl (fun _=>rfl)) (rP rfl (aR (r := .own _ _ _) rfl) (nx ?_))
 cases h2
 exact wk [0,1,2,3,4]
 refine sk ?_
 cases h2
 exact wk [0,1,2,3,4]
 refine sq [0,1,2,3,4,5,6,7,8,9] (pmr ?_)
 refine rP rfl (aL (r := .own _ _ _) rfl) (pmr ?_)
 refine nr ?_
 refine fr tok ?_
 refine lr tok ?_
 obtain ⟨v6,hv6,h1⟩:=bnd h1
 refine rL rfl (fB tok hv6 rfl rfl rfl rfl rfl rfl rfl rfl) (rL rfl (xH tok (dP hv6).2.1 rfl rfl rfl rfl rfl) ?_)
 obtain ⟨v7,hv7,h1⟩:=bnd h1
 refine rS rfl (aM 5 (aKz hv7) rfl rfl rfl) (rP rfl (bW rfl) (nx ?_))
 refine bM h1 rfl (fun hc h1 => ?_) (fun hc h1 => ?_)
 refine sr [0,1,2,3] (rP rfl (aL (r := .own _ _ _) rfl) (rS rfl (iZ tok cS [(⟨#[98,101,97,116,115]⟩:ByteArray)] rfl rfl rfl (by repeat (first | exact Els.nil _ | apply Els.cons (cs:=[.d _]) rfl rfl rfl | apply Els.cons (cs:=_ :: _) rfl rfl rfl)) rfl rfl rfl (by repeat (first | exact cR.nil | (apply cR.cons; (repeat (first | exact eZ.nil | apply eZ.cons))))) rfl) ?_))
 obtain ⟨hq8,h1⟩:=cO h1
 refine rw1 rfl w0 rfl (eU tok hq8 rfl rfl rfl rfl rfl rfl rfl rfl rfl rfl rfl rfl (fun _=>rfl)) (rP rfl (aR (r := .own _ _ _) rfl) (nx ?_))
 cases h1
 exact wk [0,1,2,3]
 refine sk ?_
 cases h1
 exact wk [0,1,2,3]
 obtain ⟨v12,h1,h0⟩:=bnd h0
 refine bI ⟨aC ((fun _ => .dead)) 3 (.own 3 0 (v12).length),lks [.no, .no, .no, .live [⟨9,1, .data (List.map cS v12)⟩]]⟩ ?_ ?_
 refine aB (aH (is:=[0,1,2,3,4,5,6,7,8]) [0,1,3,0,8,24,56,127,255] follows (by kernel_rfl) (yQ ?_))
 refine tnr ?_
 refine tfr tok ?_
 refine yQ ?_
 refine tnr ?_
 refine tfr tok ?_
 refine tlr tok ?_
 obtain ⟨v10,hv10,h1⟩:=bnd h1
 refine jW rfl w0 rfl (cV 4 (vG (aGp hv10)) rfl rfl rfl) (tP rfl (cQ rfl rfl) (bN ?_))
 refine ⟨by kernel_rfl,?_⟩
 refine aG ?_
 refine bC h1 rfl (fun hc h1 => ?_) (fun hc h1 => ?_)
 refine sr [0,1,2,3] (rP rfl (aL (r := .own _ _ _) rfl) (rS rfl (iZ tok cS [(⟨#[99,97,109]⟩:ByteArray)] rfl rfl rfl (by repeat (first | exact Els.nil _ | apply Els.cons (cs:=[.d _]) rfl rfl rfl | apply Els.cons (cs:=_ :: _) rfl rfl rfl)) rfl rfl rfl (by repeat (first | exact cR.nil | (apply cR.cons; (repeat (first | exact eZ.nil | apply eZ.cons))))) rfl) ?_))
 obtain ⟨hq11,h1⟩:=cO h1
 refine rw1 rfl w0 rfl (eU tok hq11 rfl rfl rfl rfl rfl rfl rfl rfl rfl rfl rfl rfl (fun _=>rfl)) (rP rfl (aR (r := .own _ _ _) rfl) (nx ?_))
 cases h1
 exact wk [0,1,2,3]
 refine sk ?_
 cases h1
 exact wk [0,1,2,3]
 refine sq [0,1] (rP rfl (aL (r := .own _ _ _) rfl) (rP rfl (aR (r := .own _ _ _) rfl) (nx (aA ?_))))
 cases h0
 exact dG (rs:=[.tmp 2]) [3] rfl
theorem aM5 {p0:Int} {r:Bool} (h0:vZ p0=some r):FnC Tryz.prog 206 [] [dI p0] [] (dB r):=by
 refine fi 5 tok Tryz.func206 ?_
 unfold vZ at h0
 refine sq [0] (pa (nx (sq [0,1,2] ?_)))
 refine pm ?_
 obtain ⟨v1,hv1,h0⟩:=bnd h0
 refine rS rfl (aM 3 (eA hv1) rfl rfl rfl) (pa (nx (aA ?_)))
 cases h0
 exact r0t 2 rfl
theorem aR5 {p0:aF} {p1:gY} {r:Bool} (h0:xM p0 p1=some r):FnC Tryz.prog 176 [] [.ref (dW p0), .agg [dI p1.Year,(dI p1.Month),(dI p1.Day)]] [] (dB r):=by
 refine fi 30 tok Tryz.func176 ?_
 unfold xM at h0
 refine sq [0,1] (bxx 3 ?_)
 refine pa (nx (aB ?_))
 obtain ⟨v3,h1,h0⟩:=bnd h0
 refine bI ⟨aC (aC (aC ((fun _ => .dead)) 0 (.ref (dW p0))) 3 (.ptr 3 0 1 0 0)) 19 (dB v3),lks [.no, .no, .no, .live [⟨34,3, .av [[dI p1.Year,(dI p1.Month),(dI p1.Day)]]⟩]]⟩ ?_ ?_
 refine aH (is:=[0,1,2,3,4,5,6,7,8,9,10,11,12,13,14]) [0,1,3,7,15,31,63,31,159,415,927,1951,4095,8191,16383] follows (by kernel_rfl) (tfa tok ?_)
 refine tld tok ?_
 obtain ⟨v1,hv1,h1⟩:=bnd h1
 refine jW rfl w0 rfl (cV 4 (aM5 hv1) rfl rfl rfl) (tP rfl (bW rfl) (tpm ?_))
 refine tL (u:=9) h1 rfl (fun hc h1 => ?_) (fun hc h1 => ?_)
 iterate 9 refine k2 ?_
 refine aBv ?_
 refine bN ?_
 refine ⟨by kernel_rfl,?_⟩
 refine aG ?_
 cases h1
 exact wk [0,1,2,3]
 refine cZ rfl (w1 rfl rfl rfl) rfl (yO tok rfl rfl rfl rfl rfl rfl rfl) rfl rfl rfl (cZ rfl (w1 rfl rfl rfl) rfl (rG tok rfl rfl rfl rfl rfl) rfl rfl rfl (aE8 ?_))
 refine aSj ?_
 refine aK9 tok ?_
 refine aOl tok ?_
 refine rF rfl (w1 rfl rfl rfl) rfl (aJ tok rfl rfl rfl) ?_
 obtain ⟨v2,hv2,h1⟩:=bnd h1
 refine jW rfl (w1 rfl rfl rfl) rfl (cV 4 (eA hv2) rfl rfl rfl) (rF rfl (w1 rfl rfl rfl) rfl (bW rfl) (aBu ?_))
 refine bN ?_
 refine ⟨by kernel_rfl,?_⟩
 refine aG ?_
 cases h1
 exact wk [0,1,2,3]
 refine bM h0 rfl (fun hc h0 => ?_) (fun hc h0 => ?_)
 refine sq [0] (pa (nx (aA (aI ?_))))
 cases h0
 exact r0t 4 rfl
 refine sk (aB (aH (is:=[0,1,2,3,4,5,6,7,8,9,10]) [0,1,0,0,8,0,32,96,252,511,1023] follows (by kernel_rfl) (tfa tok ?_)))
 refine tld tok ?_
 refine yQ ?_
 refine tfa tok ?_
 refine tld tok ?_
 refine tfa tok ?_
 refine tld tok ?_
 refine tP rfl (gX rfl rfl) ?_
 obtain ⟨v4,hv4,h0⟩:=bnd h0
 refine jW rfl w0 rfl (cV 4 (aEz hv4) rfl rfl rfl) ?_
 obtain ⟨v5,hv5,h0⟩:=bnd h0
 refine jW rfl w0 rfl (cV 4 (eA hv5) rfl rfl rfl) (tpa ?_)
 refine bN ?_
 refine ⟨by kernel_rfl,?_⟩
 refine aG (aA ?_)
 cases h0
 exact r0t 4 rfl
theorem aBp {p0:Int} {p1:Int} {r:Int} (h0:kS p0 p1=some r):FnC Tryz.prog 177 [] [dI p0,(dI p1)] [] (dI r):=by
 refine fi 10 tok Tryz.func177 ?_
 unfold kS at h0
 refine sq [0] (pa (nx (aB (sq [0,1,2] ?_))))
 refine pm ?_
 refine pm ?_
 refine rP rfl (gT rfl rfl) (nx ?_)
 refine bC h0 rfl (fun hc h0 => ?_) (fun hc h0 => ?_)
 refine sq [0,1] (pm ?_)
 refine pa (nx (aA (aI ?_)))
 cases h0
 exact r0t 4 rfl
 refine sk (sq [0,1] (pm ?_))
 refine pa (nx (aA ?_))
 cases h0
 exact r0t 4 rfl
theorem aCw {p0:aF} {p1:List Int} {p2:gY} {p3:Int} {r:bX × Int} (h0:kL p0 p1 p2 p3=some r):FnC Tryz.prog 123 [] [.agg [dS p0.Name,(dL aT p0.Months),(dL aK p0.Rules),(dI p0.Week)],(dL cI p1), .agg [dI p2.Year,(dI p2.Month),(dI p2.Day)],(dI p3)] [.live [⟨2,1, .data (List.map cI r.1.Cam)⟩]] (.tup [.agg [.own 0 0 r.1.Cam.length,(dI r.1.Months),(dI r.1.Teeth),(dI r.1.At),(dI r.1.Day),(dI r.1.Week),(dI r.1.Weekday)],(dI r.2)]):=by
 refine fi 97 tok Tryz.func123 ?_
 unfold kL at h0
 refine sq [0,1,2,3] (bxx 3 ?_)
 refine bxx 4 ?_
 refine al 5 [zl,z0,z0,z0,z0,z0,z0] tok ?_
 refine pa (nx (sq [0,1,2] ?_))
 refine pm ?_
 obtain ⟨v1,hv1,h0⟩:=bnd h0
 refine rS rfl (eW 6 (aGp hv1) rfl rfl) (pa (nx (aB (sq [0,1] ?_))))
 refine pm ?_
 refine rP rfl (cQ rfl rfl) (nx ?_)
 refine bC h0 rfl (fun hc h0 => ?_) (fun hc h0 => ?_)
 refine sq [0,1,2,3] (rP rfl (pbl (C0:=[zl,z0,z0,z0,z0,z0,z0]) tok rfl rfl rfl) (pm ?_))
 refine bst tok ?_
 refine pa (nx ?_)
 refine wa 6 2 1 5 0 (aA (aI ?_))
 cases h0
 exact dG (rs:=[.cell 8 36, .tmp 9]) [6] rfl
 refine sk (aB ?_)
 obtain ⟨v4,h1,h0⟩:=bnd h0
 refine bI ⟨aC (aC (aC (aC (aC (aC ((fun _ => .dead)) 1 (dL cI p1)) 3 (dI p3)) 4 (.ptr 3 0 1 0 0)) 6 (.ptr 4 0 1 0 0)) 8 (.ptr 5 0 1 0 0)) 30 (dB v4),lks [.no, .no, .no, .live [⟨29,4, .av [[dS p0.Name,(dL aT p0.Months),(dL aK p0.Rules),(dI p0.Week)]]⟩], .live [⟨34,3, .av [[dI p2.Year,(dI p2.Month),(dI p2.Day)]]⟩], .live [⟨36,7, .av [[zl,z0,z0,z0,z0,z0,z0]]⟩]]⟩ ?_ ?_
 refine sr [0,1,2,3,4,5,6,7,8,9] (rL rfl (bA tok rfl rfl rfl rfl) ?_)
 obtain ⟨v2,hv2,h1⟩:=bnd h1
 refine rS rfl (eW 6 (aR5 hv2) rfl rfl) (rP rfl (bW rfl) (pm ?_))
 refine dU (u:=24) h1 rfl (fun hc h1 => ?_) (fun hc h1 => ?_)
 iterate 5 refine k1 ?_
 refine pkt (nx ?_)
 cases h1
 exact wk [0,1,2,3,4,5]
 refine pm1 ?_
 refine fa1 tok ?_
 refine ld1 tok ?_
 obtain ⟨v3,hv3,h1⟩:=bnd h1
 refine rs rfl (w1 rfl rfl rfl) rfl (aM 6 (eA hv3) rfl rfl rfl) (rp rfl (w1 rfl rfl rfl) rfl (bW rfl) (pkf (nx ?_)))
 cases h1
 exact wk [0,1,2,3,4,5]
 refine bM h0 rfl (fun hc h0 => ?_) (fun hc h0 => ?_)
 refine sq [0,1,2] (rP rfl (pbl (C0:=[zl,z0,z0,z0,z0,z0,z0]) tok rfl rfl rfl) (bst tok ?_))
 refine pa (nx ?_)
 refine wa 6 2 1 5 0 (aA (aI ?_))
 cases h0
 exact dG (rs:=[.cell 8 36, .tmp 9]) [6] rfl
 refine sk (sq [0,1,2,3] (fa tok ?_))
 refine ld tok ?_
 refine rP rfl (aJ tok rfl rfl rfl) (pa (nx (aB ?_)))
 refine aH (is:=[0,2,3,4,5,6,7,1,8,9,10]) [0,1,0,0,8,0,32,0,255,0,1023] follows (by kernel_rfl) (tpm ?_)
 refine tpm ?_
 refine tfa tok ?_
 refine tld tok ?_
 refine tfa tok ?_
 refine tld tok ?_
 refine tpm ?_
 obtain ⟨v5,hv5,h0⟩:=bnd h0
 refine jW rfl w0 rfl (cV 7 (uT hv5) rfl rfl rfl) (tP rfl (pbl (C0:=[zl,z0,z0,z0,z0,z0,z0]) tok rfl rfl rfl) (aEt rfl w0 rfl rfl (fun hx hk=>oU 6 (cs:=[zl,z0,z0,z0,z0,z0,z0]) tok rfl rfl hk) (oN rfl w0 (jA (cs:=_ :: _) tok rfl rfl rfl rfl rfl rfl rfl) (bN ?_))))
 refine ⟨by kernel_rfl,?_⟩
 refine aG (aB (aH (is:=[0,1,2,3,4,5,6,7,8,9,10,11,12,13,14]) [0,1,0,4,0,28,63,0,255,0,512,2047,4095,8191,16383] follows (by kernel_rfl) (tfa tok ?_)))
 refine tld tok ?_
 refine tpm ?_
 refine tP rfl (aJ tok rfl rfl rfl) (tpm ?_)
 obtain ⟨hq6,h0⟩:=cO h0
 refine tP rfl (tK rfl rfl hq6) ?_
 obtain ⟨hq7,h0⟩:=cO h0
 refine tP rfl (kU rfl rfl hq7) (tpm ?_)
 refine tP rfl (eL rfl rfl) (tfa tok ?_)
 refine tld tok ?_
 refine tP rfl (bH rfl rfl) (tP rfl (gX rfl rfl) (tfa tok ?_))
 refine oN rfl w0 (jA (cs:=[.d _]) tok rfl rfl rfl rfl rfl rfl rfl) (bN ?_)
 refine ⟨by kernel_rfl,?_⟩
 refine aG ?_
 obtain ⟨v14,h1,h0⟩:=bnd h0
 refine bI ⟨aC (aC (aC ((fun _ => .dead)) 4 (.ptr 3 0 1 0 0)) 8 (.ptr 4 0 1 0 0)) 12 (.ptr 5 0 1 0 0),lks [.no, .no, .no, .live [⟨29,4, .av [[dS p0.Name,(dL aT p0.Months),(dL aK p0.Rules),(dI p0.Week)]]⟩], .live [⟨36,7, .av [[zl,z0,z0,z0,z0,z0,z0]]⟩], .live [⟨36,7, .av [[.own 6 0 (v5).length,(dI (p0.Months.length:Int)),(dI v14),(dI (w64 ((w64 ((w64 ((p2.Year.tmod (w64 ((p1.length:Int).tdiv (p0.Months.length:Int))))*(p0.Months.length:Int)))+p2.Month))-1))),(dI p2.Day),(dI p0.Week),(dI p3)]]⟩], .live [⟨2,1, .data (List.map cI v5)⟩]]⟩ ?_ ?_
 refine sq [0] (pa (nx (aE ?_)))
 refine aZ (fun s11=>⟨aC (aC (aC (aC (aC ((fun _ => .dead)) 1 (dL cI p1)) 4 (.ptr 3 0 1 0 0)) 8 (.ptr 4 0 1 0 0)) 12 (.ptr 5 0 1 0 0)) 13 (dI s11.1),lks [.no, .no, .no, .live [⟨29,4, .av [[dS p0.Name,(dL aT p0.Months),(dL aK p0.Rules),(dI p0.Week)]]⟩], .live [⟨36,7, .av [[zl,z0,z0,z0,z0,z0,z0]]⟩], .live [⟨36,7, .av [[.own 6 0 (v5).length,(dI (p0.Months.length:Int)),(dI s11.2),(dI (w64 ((w64 ((w64 ((p2.Year.tmod (w64 ((p1.length:Int).tdiv (p0.Months.length:Int))))*(p0.Months.length:Int)))+p2.Month))-1))),(dI p2.Day),(dI p0.Week),(dI p3)]]⟩], .live [⟨2,1, .data (List.map cI v5)⟩]]⟩) h1 ?_ (fun s11 y h2 => ?_)
 exact wk [0,1,2,3,5,6,7]
 refine aB (sq [0,1,2,3] (pm ?_))
 refine pm ?_
 refine rP rfl (aJ tok rfl rfl rfl) (rP rfl (bK rfl rfl) (nx ?_))
 refine bC h2 rfl (fun hc h2 => ?_) (fun hc h2 => ?_)
 refine sk (aB (aE (aH (is:=[0,1,2,3,4,5,6,7,8]) [0,1,0,0,12,28,63,127,255] follows (by kernel_rfl) (tfa tok ?_))))
 refine tld tok ?_
 refine tpm ?_
 refine tpm ?_
 obtain ⟨v12,hv12,h2⟩:=bnd h2
 refine tP rfl (cE tok hv12 rfl rfl rfl rfl rfl rfl) (tlr tok ?_)
 obtain ⟨v13,hv13,h2⟩:=bnd h2
 refine jW rfl w0 rfl (cV 7 (aBp hv13) rfl rfl rfl) (tfa tok ?_)
 refine oN rfl w0 (jA (cs:=[.d _]) tok rfl rfl rfl rfl rfl rfl rfl) (bN ?_)
 refine ⟨by kernel_rfl,?_⟩
 refine bB (aG (sr [0,1,2] (pm ?_)))
 refine rP rfl (bH rfl rfl) (pa (aY ?_))
 refine bS ?_
 cases h2
 refine ⟨_,rfl,?_⟩
 exact wk [0,1,2,3,4,5,6]
 refine bF (bT ?_)
 cases h2
 refine bU ⟨_,rfl,fun e => ?_⟩
 subst e
 refine aQ (aG ?_)
 exact wk [0,1,2,3,4,5,6]
 obtain ⟨v25,h1,h0⟩:=bnd h0
 refine bI ⟨aC (aC ((fun _ => .dead)) 8 (.ptr 3 0 1 0 0)) 12 (.ptr 4 0 1 0 0),lks [.no, .no, .no, .live [⟨36,7, .av [[zl,z0,z0,z0,z0,z0,z0]]⟩], .live [⟨36,7, .av [[.own 5 0 (v5).length,(dI (p0.Months.length:Int)),(dI v25),(dI (w64 ((w64 ((w64 ((p2.Year.tmod (w64 ((p1.length:Int).tdiv (p0.Months.length:Int))))*(p0.Months.length:Int)))+p2.Month))-1))),(dI p2.Day),(dI p0.Week),(dI p3)]]⟩], .live [⟨2,1, .data (List.map cI v5)⟩]]⟩ ?_ ?_
 refine sq [0] (pa (nx (aE ?_)))
 refine aZ (fun s20=>⟨aC (aC (aC (aC ((fun _ => .dead)) 4 (.ptr 3 0 1 0 0)) 8 (.ptr 4 0 1 0 0)) 12 (.ptr 5 0 1 0 0)) 14 (dI s20.1),lks [.no, .no, .no, .live [⟨29,4, .av [[dS p0.Name,(dL aT p0.Months),(dL aK p0.Rules),(dI p0.Week)]]⟩], .live [⟨36,7, .av [[zl,z0,z0,z0,z0,z0,z0]]⟩], .live [⟨36,7, .av [[.own 6 0 (v5).length,(dI (p0.Months.length:Int)),(dI s20.2),(dI (w64 ((w64 ((w64 ((p2.Year.tmod (w64 ((p1.length:Int).tdiv (p0.Months.length:Int))))*(p0.Months.length:Int)))+p2.Month))-1))),(dI p2.Day),(dI p0.Week),(dI p3)]]⟩], .live [⟨2,1, .data (List.map cI v5)⟩]]⟩) h1 ?_ (fun s20 y h2 => ?_)
 exact wk [0,1,2,3,4,5,6]
 refine aB (sq [0,1,2,3,4] (pm ?_))
 refine fa tok ?_
 refine ld tok ?_
 refine rP rfl (aJ tok rfl rfl rfl) (rP rfl (bK rfl rfl) (nx ?_))
 refine bC h2 rfl (fun hc h2 => ?_) (fun hc h2 => ?_)
 refine sk (aB (aE (aH (is:=[0,1,2,3,4,5,6,7,8,9,10,11,12,13,14,15,16,17]) [0,1,0,4,0,28,60,124,0,256,0,1792,3840,7936,16380,32767,65535,131071] follows (by kernel_rfl) (tfa tok ?_))))
 refine tld tok ?_
 refine tfa tok ?_
 refine tld tok ?_
 refine tpm ?_
 obtain ⟨v21,hv21,h2⟩:=bnd h2
 refine tP rfl (cE tok hv21 rfl rfl rfl rfl rfl rfl) (tfr tok ?_)
 refine tlr tok ?_
 refine tfa tok ?_
 refine tld tok ?_
 refine tpm ?_
 obtain ⟨v22,hv22,h2⟩:=bnd h2
 refine tP rfl (cE tok hv22 rfl rfl rfl rfl rfl rfl) (tfr tok ?_)
 refine tlr tok ?_
 obtain ⟨v23,hv23,h2⟩:=bnd h2
 refine jW rfl w0 rfl (cV 7 (aBp hv23) rfl rfl rfl) ?_
 obtain ⟨v24,hv24,h2⟩:=bnd h2
 refine jW rfl w0 rfl (cV 7 (aBp hv24) rfl rfl rfl) (tfa tok ?_)
 refine oN rfl w0 (jA (cs:=[.d _]) tok rfl rfl rfl rfl rfl rfl rfl) (bN ?_)
 refine ⟨by kernel_rfl,?_⟩
 refine bB (aG (sr [0,1,2] (pm ?_)))
 refine rP rfl (bH rfl rfl) (pa (aY ?_))
 refine bS ?_
 cases h2
 refine ⟨_,rfl,?_⟩
 exact wk [0,1,2,3,4,5,6]
 refine bF (bT ?_)
 cases h2
 refine bU ⟨_,rfl,fun e => ?_⟩
 subst e
 refine aQ (aG ?_)
 exact wk [0,1,2,4,5,6]
 refine sq [0,1,2] (rL rfl (bA tok rfl rfl rfl rfl) (bst tok ?_))
 refine pa (nx (aA ?_))
 cases h0
 exact dG (rs:=[.cell 8 36, .tmp 9]) [5] rfl
theorem aM7 {p0:aW} {p1:gY} {p2:Int} {r:bX × Int} (h0:wC p0 p1 p2=some r):FnC Tryz.prog 65 [] [.ref (nE p0), .agg [dI p1.Year,(dI p1.Month),(dI p1.Day)],(dI p2)] [.live [⟨2,1, .data (List.map cI r.1.Cam)⟩]] (.tup [.agg [.own 0 0 r.1.Cam.length,(dI r.1.Months),(dI r.1.Teeth),(dI r.1.At),(dI r.1.Day),(dI r.1.Week),(dI r.1.Weekday)],(dI r.2)]):=by
 refine fi 21 tok Tryz.func65 ?_
 unfold wC at h0
 refine sq [0,1,2] (bxx 3 ?_)
 refine al 4 [zl,z0,z0,z0,z0,z0,z0] tok ?_
 refine pa (nx (aB ?_))
 refine aH (is:=[0,1,2,3,4,5,6,7,8,9,10,11,12,13,14]) [0,1,3,7,0,16,48,112,0,0,1023,2047,2047,8191,16383] follows (by kernel_rfl) (yQ ?_)
 refine tnr ?_
 refine tfr tok ?_
 refine tP rfl (bJ tok rfl rfl rfl (by repeat (first | exact gV.z _ | apply gV.t))) (yQ ?_)
 refine tnr ?_
 refine tfr tok ?_
 refine tlr tok ?_
 refine cZ rfl w0 rfl (bA tok rfl rfl rfl rfl) rfl rfl rfl (tpm ?_)
 obtain ⟨v1,hv1,h0⟩:=bnd h0
 refine jW rfl w0 rfl (cV 5 (aCw hv1) rfl rfl rfl) (tP rfl (aN rfl rfl) (tP rfl (aN rfl rfl) (oN rfl w0 (jA (cs:=_ :: _) tok rfl rfl rfl rfl rfl rfl rfl) (tpa ?_))))
 refine bN ?_
 refine ⟨by kernel_rfl,?_⟩
 refine aG (aA ?_)
 cases h0
 exact dG (rs:=[.cell 6 36, .tmp 7]) [5] rfl
theorem aPn {p0:bG} {r:bG} (h0:uV p0=some r):FnC Tryz.prog 124 [] [.ref (fJ p0)] [.live [⟨88,2, .av (fA 1 aS r.Arbors)⟩], .live (pC 2 1 aS r.Arbors), .live [⟨90,4, .data (List.map bV r.Meshes)⟩]] (.agg [.own 0 0 r.Arbors.length, .own 2 0 r.Meshes.length]):=by
 refine fi 45 tok Tryz.func124 ?_
 unfold uV at h0
 refine sq [0] (al 3 [zl,zl] tok (nx (sq [0,1,2,3,4,5,6,7,8] ?_)))
 refine rS rfl (eQ 4 tok rfl rfl rfl rfl) (pmr ?_)
 refine nr ?_
 refine fr tok ?_
 refine lr tok ?_
 obtain ⟨hq1,h0⟩:=cO h0
 refine rw1 rfl w0 rfl (eU tok hq1 rfl rfl rfl rfl rfl rfl rfl rfl rfl rfl rfl rfl (fun _=>rfl)) (rP rfl (pbl (C0:=[zl,zl]) tok rfl rfl rfl) (al 5 [zl,zl] tok ?_))
 refine bst tok (nx ?_)
 obtain ⟨v12,h1,h0⟩:=bnd h0
 refine bI ⟨aC (aC ((fun _ => .dead)) 2 (.ptr 3 0 1 0 0)) 3 (.ptr 4 0 1 0 0),lks [.no, .no, .no, .live [⟨25,2, .av [[zl,zl]]⟩], .live [⟨25,2, .av [[.own 5 0 (v12).length, .own 6 0 (([]:List bR)++p0.Meshes).length]]⟩], .live [⟨88,2, .av (fA 7 aS v12)⟩], .live [⟨90,4, .data (List.map bV (([]:List bR)++p0.Meshes))⟩], .live (pC 2 1 aS v12)]⟩ ?_ ?_
 refine sq [0] (pa (nx (aE ?_)))
 refine aZ (fun s7=>⟨aC (aC (aC (aC ((fun _ => .dead)) 0 (.ref (fJ p0))) 2 (.ptr 3 0 1 0 0)) 3 (.ptr 4 0 1 0 0)) 4 (dI s7.1),lks [.no, .no, .no, .live [⟨25,2, .av [[zl,zl]]⟩], .live [⟨25,2, .av [[.own 5 0 (s7.2).length, .own 6 0 (([]:List bR)++p0.Meshes).length]]⟩], .live [⟨88,2, .av (fA 7 aS s7.2)⟩], .live [⟨90,4, .data (List.map bV (([]:List bR)++p0.Meshes))⟩], .live (pC 2 1 aS s7.2)]⟩) h1 ?_ (fun s7 y h2 => ?_)
 refine mG.trans_ (vA 6 rfl 88 2 (kb:=5) (j:=0) rfl rfl (by repeat (first | exact Spl.z _ | apply Spl.t | apply Spl.d))) (mG.trans_ (dR 7 (k:=6) 2 1 aS rfl rfl) ?_)
 exact wk [0,1,2,3,5,6,4,7]
 refine aB (sq [0,1,2,3,4,5,6] (pm ?_))
 refine pmr ?_
 refine nr ?_
 refine fr tok ?_
 refine lr tok ?_
 refine rP rfl (aJ tok rfl rfl rfl) (rP rfl (bK rfl rfl) (nx ?_))
 refine bC h2 rfl (fun hc h2 => ?_) (fun hc h2 => ?_)
 refine sk (aB (aE (wP (is:=[0,1,2,3,4,5,6,7,8,9,10,11,12,13,14,15,16,17,18,19,20,21,22,23]) [0,1,0,4,12,28,0,124,252,508,0,1024,3072,7168,0,31744,64512,130048,261120,524284,1048572,2097151,4194303,8388607] follows (by kernel_rfl) (tfa tok ?_))))
 refine tld tok ?_
 refine yQ ?_
 refine tnr ?_
 refine tfr tok ?_
 refine tlr tok ?_
 refine tpm ?_
 obtain ⟨v8,hv8,h2⟩:=bnd h2
 refine tP rfl (cE tok hv8 rfl rfl rfl rfl rfl rfl) (tfr tok ?_)
 refine tlr tok ?_
 refine yQ ?_
 refine tnr ?_
 refine tfr tok ?_
 refine tlr tok ?_
 refine tpm ?_
 obtain ⟨v9,hv9,h2⟩:=bnd h2
 refine tP rfl (cE tok hv9 rfl rfl rfl rfl rfl rfl) (tfr tok ?_)
 refine tlr tok ?_
 obtain ⟨v10,hv10,h2⟩:=bnd h2
 refine jW rfl w0 rfl (cV 9 (uT hv10) rfl rfl rfl) (tP rfl (pbl (C0:=[ze,zl]) tok rfl rfl rfl) (aU1 rfl w0 rfl (aW4 10 tok rfl rfl rfl (by repeat (first | exact Els.nil _ | apply Els.cons (cs:=[.d _]) rfl rfl rfl | apply Els.cons (cs:=_ :: _) rfl rfl rfl)) rfl rfl rfl rfl) ?_))
 obtain ⟨hq11,h2⟩:=cO h2
 refine yX rfl w0 rfl (aRo tok (⟨v8.Name,v10⟩:bO) hq11 rfl rfl rfl rfl rfl rfl rfl rfl rfl rfl rfl rfl rfl rfl rfl) (tfa tok ?_)
 refine oN rfl w0 (jA (cs:=[.own _ _ _]) tok rfl rfl rfl rfl rfl rfl rfl) (bN ?_)
 refine ⟨by kernel_rfl,_,mG.trans_ (aF8 11 (k:=5) (kf:=7) (k2:=9) (⟨v8.Name,v10⟩:bO) rfl rfl rfl rfl rfl rfl rfl (by repeat (first | exact aNi.nil | apply aNi.v | apply aNi.sl (by first | rfl | (simp;done)))) rfl rfl rfl) (mG.refl_),?_⟩
 refine bB (aG (sr [0,1,2] (pm ?_)))
 refine rP rfl (bH rfl rfl) (pa (aY ?_))
 refine bS ?_
 cases h2
 refine ⟨_,rfl,?_⟩
 exact wk [0,1,2,3,4,5,6,11]
 refine bF (bT ?_)
 cases h2
 refine bU ⟨_,rfl,fun e => ?_⟩
 subst e
 refine aQ (aG ?_)
 exact wk [0,1,2,3,4,5,6,7]
 refine sq [0,1] (rL rfl (bA tok rfl rfl rfl rfl) (bst tok (nx (aA ?_))))
 cases h0
 exact dG (rs:=[.cell 2 25]) [5,7,6] rfl
theorem aPq {p0:aW} {r:aW} (h0:uY p0=some r):FnC Tryz.prog 66 [] [.ref (nE p0)] [.live [⟨88,2, .av (fA 1 aS r.Works.Arbors)⟩], .live (pC 2 1 aS r.Works.Arbors), .live [⟨90,4, .data (List.map bV r.Works.Meshes)⟩], .live [⟨62,3, .data (List.map aT r.Calendar.Months)⟩], .live [⟨66,3, .data (List.map aK r.Calendar.Rules)⟩], .live [⟨2,1, .data (List.map cI r.Cam)⟩]] (.agg [dS r.Name, .own 0 0 r.Works.Arbors.length, .own 2 0 r.Works.Meshes.length,(dI r.Minute),(dI r.Hour),(dI r.Escape),(dI r.Teeth),(dI r.Beats),(dS r.Calendar.Name), .own 3 0 r.Calendar.Months.length, .own 4 0 r.Calendar.Rules.length,(dI r.Calendar.Week), .own 5 0 r.Cam.length,(dI r.Strike)]):=by
 refine fi 24 tok Tryz.func66 ?_
 unfold uY at h0
 refine sq [0] (al 3 [ze,zl,zl,z0,z0,z0,z0,z0,ze,zl,zl,z0,zl,z0] tok (nx (sq [0,1,2,3,4] ?_)))
 refine pmr ?_
 refine nr ?_
 refine rP rfl (bJ tok rfl rfl rfl (by repeat (first | exact gV.z _ | apply gV.t))) (al 4 [ze,zl,zl,z0,z0,z0,z0,z0,ze,zl,zl,z0,zl,z0] tok ?_)
 refine bst tok (nx (sq [0,1,2,3,4,5] ?_))
 refine pmr ?_
 refine nr ?_
 refine fr tok ?_
 obtain ⟨v1,hv1,h0⟩:=bnd h0
 refine rS rfl (aM 5 (vG (aPn hv1)) rfl rfl rfl) (fa tok ?_)
 refine bst tok (nx (sq [0,1,2,3,4,5] ?_))
 refine pmr ?_
 refine nr ?_
 refine fr tok ?_
 obtain ⟨v2,hv2,h0⟩:=bnd h0
 refine rS rfl (aM 8 (vG (aGo hv2)) rfl rfl rfl) (fa tok ?_)
 refine bst tok (nx (sq [0,1,2,3,4,5,6] ?_))
 refine pmr ?_
 refine nr ?_
 refine fr tok ?_
 refine lr tok ?_
 obtain ⟨v3,hv3,h0⟩:=bnd h0
 refine rS rfl (aM 10 (uT hv3) rfl rfl rfl) (fa tok ?_)
 refine rw0 rfl w0 (jA (cs:=[.own _ _ _]) tok rfl rfl rfl rfl rfl rfl rfl) (nx (sq [0,1] (rL rfl (bA tok rfl rfl rfl rfl) (bst tok (nx (aA ?_))))))
 cases h0
 exact dG (rs:=[.cell 2 32]) [5,6,7,8,9,10] rfl
theorem aPg {p0:aW} {p1:gY} {p2:Int} {r:wN × Int} (h0:uR p0 p1 p2=some r):FnC Tryz.prog 30 [] [.agg [dS p0.Name,(dL aS p0.Works.Arbors),(dL bV p0.Works.Meshes),(dI p0.Minute),(dI p0.Hour),(dI p0.Escape),(dI p0.Teeth),(dI p0.Beats),(dS p0.Calendar.Name),(dL aT p0.Calendar.Months),(dL aK p0.Calendar.Rules),(dI p0.Calendar.Week),(dL cI p0.Cam),(dI p0.Strike)], .agg [dI p1.Year,(dI p1.Month),(dI p1.Day)],(dI p2)] [.live [⟨88,2, .av (fA 1 aS r.1.Movement.Works.Arbors)⟩], .live (pC 2 1 aS r.1.Movement.Works.Arbors), .live [⟨90,4, .data (List.map bV r.1.Movement.Works.Meshes)⟩], .live [⟨62,3, .data (List.map aT r.1.Movement.Calendar.Months)⟩], .live [⟨66,3, .data (List.map aK r.1.Movement.Calendar.Rules)⟩], .live [⟨2,1, .data (List.map cI r.1.Movement.Cam)⟩], .live [⟨2,1, .data (List.map cI r.1.Dial.Cam)⟩]] (.tup [.agg [dS r.1.Movement.Name, .own 0 0 r.1.Movement.Works.Arbors.length, .own 2 0 r.1.Movement.Works.Meshes.length,(dI r.1.Movement.Minute),(dI r.1.Movement.Hour),(dI r.1.Movement.Escape),(dI r.1.Movement.Teeth),(dI r.1.Movement.Beats),(dS r.1.Movement.Calendar.Name), .own 3 0 r.1.Movement.Calendar.Months.length, .own 4 0 r.1.Movement.Calendar.Rules.length,(dI r.1.Movement.Calendar.Week), .own 5 0 r.1.Movement.Cam.length,(dI r.1.Movement.Strike),(dI r.1.Start.Year),(dI r.1.Start.Month),(dI r.1.Start.Day),(dI r.1.First),(dI r.1.Clock), .own 6 0 r.1.Dial.Cam.length,(dI r.1.Dial.Months),(dI r.1.Dial.Teeth),(dI r.1.Dial.At),(dI r.1.Dial.Day),(dI r.1.Dial.Week),(dI r.1.Dial.Weekday)],(dI r.2)]):=by
 refine fi 32 tok Tryz.func30 ?_
 unfold uR at h0
 refine sq [0,1,2,3] (bxx 3 ?_)
 refine bxx 4 ?_
 refine al 5 [ze,zl,zl,z0,z0,z0,z0,z0,ze,zl,zl,z0,zl,z0,z0,z0,z0,z0,z0,zl,z0,z0,z0,z0,z0,z0] tok ?_
 refine pa (nx (aB (sq [0,1] ?_)))
 obtain ⟨v1,hv1,h0⟩:=bnd h0
 refine rS rfl (eW 6 (aR6 hv1) rfl rfl) (rP rfl (bW rfl) (nx ?_))
 refine bM h0 rfl (fun hc h0 => ?_) (fun hc h0 => ?_)
 refine sq [0,1,2] (rP rfl (pbl (C0:=[ze,zl,zl,z0,z0,z0,z0,z0,ze,zl,zl,z0,zl,z0,z0,z0,z0,z0,z0,zl,z0,z0,z0,z0,z0,z0]) tok rfl rfl rfl) (bst tok ?_))
 refine pa (nx ?_)
 refine wa 6 88 2 5 1 ?_
 refine cN (dR 7 (k:=6) 2 1 aS rfl rfl) (wa 8 90 4 5 2 ?_)
 refine wa 9 62 3 5 9 ?_
 refine wa 10 66 3 5 10 ?_
 refine wa 11 2 1 5 12 ?_
 refine wa 12 2 1 5 19 (aA (aI ?_))
 cases h0
 exact dG (rs:=[.cell 6 38, .tmp 7]) [6,7,8,9,10,11,12] rfl
 refine sk (aB (sq [0,1,2] ?_))
 obtain ⟨v2,hv2,h0⟩:=bnd h0
 refine rS rfl (eW 6 (aIo hv2) rfl rfl) (rL rfl (mF tok rfl rfl rfl rfl rfl) (rP rfl (gT rfl rfl) (nx ?_)))
 refine bC h0 rfl (fun hc h0 => ?_) (fun hc h0 => ?_)
 refine sq [0,1,2] (rP rfl (pbl (C0:=[ze,zl,zl,z0,z0,z0,z0,z0,ze,zl,zl,z0,zl,z0,z0,z0,z0,z0,z0,zl,z0,z0,z0,z0,z0,z0]) tok rfl rfl rfl) (bst tok ?_))
 refine pa (nx ?_)
 refine wa 7 88 2 5 1 ?_
 refine cN (dR 8 (k:=7) 2 1 aS rfl rfl) (wa 9 90 4 5 2 ?_)
 refine wa 10 62 3 5 9 ?_
 refine wa 11 66 3 5 10 ?_
 refine wa 12 2 1 5 12 ?_
 refine wa 13 2 1 5 19 (aA (aI ?_))
 cases h0
 exact dG (rs:=[.cell 6 38, .tmp 7]) [7,8,9,10,11,12,13] rfl
 refine sk (sq [0,1,2,3,4,5,6,7,8] (rL rfl (bA tok rfl rfl rfl rfl) (pm ?_)))
 obtain ⟨v3,hv3,h0⟩:=bnd h0
 refine rS rfl (eW 7 (aM7 hv3) rfl rfl) (rP rfl (aL (r := .tup _) rfl) (rP rfl (aN rfl rfl) (rP rfl (aN rfl rfl) (al 8 [zl,z0,z0,z0,z0,z0,z0] tok ?_))))
 refine bst tok ?_
 refine pa (nx (aB (sq [0,1] ?_)))
 refine pm ?_
 refine rP rfl (cQ rfl rfl) (nx ?_)
 refine bC h0 rfl (fun hc h0 => ?_) (fun hc h0 => ?_)
 refine sq [0,1,2,3] (rP rfl (pbl (C0:=[ze,zl,zl,z0,z0,z0,z0,z0,ze,zl,zl,z0,zl,z0,z0,z0,z0,z0,z0,zl,z0,z0,z0,z0,z0,z0]) tok rfl rfl rfl) (pm ?_))
 refine bst tok ?_
 refine pa (nx ?_)
 refine wa 9 88 2 5 1 ?_
 refine cN (dR 10 (k:=9) 2 1 aS rfl rfl) (wa 11 90 4 5 2 ?_)
 refine wa 12 62 3 5 9 ?_
 refine wa 13 66 3 5 10 ?_
 refine wa 14 2 1 5 12 ?_
 refine wa 15 2 1 5 19 (aA (aI ?_))
 cases h0
 exact dG (rs:=[.cell 6 38, .tmp 7]) [9,10,11,12,13,14,15] rfl
 refine sk (aB (aH (is:=[1,2,3,0,4,5,6]) [0,0,0,0,15,31,63] follows (by kernel_rfl) (cZ rfl w0 rfl (bA tok rfl rfl rfl rfl) rfl rfl rfl (tpm ?_))))
 refine cZ rfl w0 rfl (bA tok rfl rfl rfl rfl) rfl rfl rfl ?_
 obtain ⟨v4,hv4,h0⟩:=bnd h0
 refine jW rfl w0 rfl (aVd 9 (aPq hv4) rfl rfl) (tP rfl (pbl (C0:=[ze,zl,zl,z0,z0,z0,z0,z0,ze,zl,zl,z0,zl,z0,z0,z0,z0,z0,z0,zl,z0,z0,z0,z0,z0,z0]) tok rfl rfl rfl) (oN rfl w0 (jA (cs:=_ :: _) tok rfl rfl rfl rfl rfl rfl rfl) (tpa ?_)))
 refine bN ?_
 refine ⟨by kernel_rfl,?_⟩
 refine aG (aA ?_)
 cases h0
 exact dG (rs:=[.cell 6 38, .tmp 7]) [9,10,11,12,13,14,7] rfl
theorem aPs {p0:Int} {p1:Int} {p2:aF} {p3:Int} {p4:Int} {r:wN × Int} (h0:yL p0 p1 p2 p3 p4=some r):FnC Tryz.prog 15 [] [dI p0,(dI p1), .agg [dS p2.Name,(dL aT p2.Months),(dL aK p2.Rules),(dI p2.Week)],(dI p3),(dI p4)] [.live [⟨88,2, .av (fA 1 aS r.1.Movement.Works.Arbors)⟩], .live (pC 2 1 aS r.1.Movement.Works.Arbors), .live [⟨90,4, .data (List.map bV r.1.Movement.Works.Meshes)⟩], .live [⟨62,3, .data (List.map aT r.1.Movement.Calendar.Months)⟩], .live [⟨66,3, .data (List.map aK r.1.Movement.Calendar.Rules)⟩], .live [⟨2,1, .data (List.map cI r.1.Movement.Cam)⟩], .live [⟨2,1, .data (List.map cI r.1.Dial.Cam)⟩]] (.tup [.agg [dS r.1.Movement.Name, .own 0 0 r.1.Movement.Works.Arbors.length, .own 2 0 r.1.Movement.Works.Meshes.length,(dI r.1.Movement.Minute),(dI r.1.Movement.Hour),(dI r.1.Movement.Escape),(dI r.1.Movement.Teeth),(dI r.1.Movement.Beats),(dS r.1.Movement.Calendar.Name), .own 3 0 r.1.Movement.Calendar.Months.length, .own 4 0 r.1.Movement.Calendar.Rules.length,(dI r.1.Movement.Calendar.Week), .own 5 0 r.1.Movement.Cam.length,(dI r.1.Movement.Strike),(dI r.1.Start.Year),(dI r.1.Start.Month),(dI r.1.Start.Day),(dI r.1.First),(dI r.1.Clock), .own 6 0 r.1.Dial.Cam.length,(dI r.1.Dial.Months),(dI r.1.Dial.Teeth),(dI r.1.Dial.At),(dI r.1.Dial.Day),(dI r.1.Dial.Week),(dI r.1.Dial.Weekday)],(dI r.2)]):=by
 refine fi 32 tok Tryz.func15 ?_
 unfold yL at h0
 refine sq [0,1,2] (bxx 3 ?_)
 refine al 4 [ze,zl,zl,z0,z0,z0,z0,z0,ze,zl,zl,z0,zl,z0,z0,z0,z0,z0,z0,zl,z0,z0,z0,z0,z0,z0] tok ?_
 refine pa (nx (sq [0,1,2,3,4,5,6,7,8,9,10] ?_))
 refine pm ?_
 refine pm ?_
 refine rL rfl (bA tok rfl rfl rfl rfl) (pm ?_)
 obtain ⟨v1,hv1,h0⟩:=bnd h0
 refine rS rfl (aM 5 (aAv hv1) rfl rfl rfl) (rP rfl (aL (r := .tup _) rfl) (rP rfl (aN rfl rfl) (rP rfl (aN rfl rfl) (al 9 [ze,zl,zl,z0,z0,z0,z0,z0,ze,zl,zl,z0,zl,z0] tok ?_))))
 refine bst tok ?_
 refine pa (nx (aB (sq [0,1] ?_)))
 refine pm ?_
 refine rP rfl (cQ rfl rfl) (nx ?_)
 refine bC h0 rfl (fun hc h0 => ?_) (fun hc h0 => ?_)
 refine sq [0,1,2,3] (rP rfl (pbl (C0:=[ze,zl,zl,z0,z0,z0,z0,z0,ze,zl,zl,z0,zl,z0,z0,z0,z0,z0,z0,zl,z0,z0,z0,z0,z0,z0]) tok rfl rfl rfl) (pm ?_))
 refine bst tok ?_
 refine pa (nx ?_)
 refine wa 10 88 2 4 1 ?_
 refine cN (dR 11 (k:=10) 2 1 aS rfl rfl) (wa 12 90 4 4 2 ?_)
 refine wa 13 62 3 4 9 ?_
 refine wa 14 66 3 4 10 ?_
 refine wa 15 2 1 4 12 ?_
 refine wa 16 2 1 4 19 (aA (aI ?_))
 cases h0
 exact dG (rs:=[.cell 10 38, .tmp 11]) [10,11,12,13,14,15,16] rfl
 refine sk (sq [0,1,2,3,4,5,6,7] (rL rfl (bA tok rfl rfl rfl rfl) (rP rfl (pbl (C0:=[z0,z0,z0]) tok rfl rfl rfl) (pm ?_))))
 obtain ⟨v2,hv2,h0⟩:=bnd h0
 refine rS rfl (eW 10 (aPg hv2) rfl rfl) (rP rfl (aN rfl rfl) (rP rfl (aN rfl rfl) (bst tok ?_)))
 refine pa (nx (aA ?_))
 cases h0
 exact dG (rs:=[.cell 10 38, .tmp 11]) [10,11,12,13,14,15,16] rfl
theorem aPr  {r:rR} (h0:yK  = some r):FnC Tryz.prog 9 [] [] [.live [⟨88,2, .av (fA 1 aS r.Sim.Movement.Works.Arbors)⟩], .live (pC 2 1 aS r.Sim.Movement.Works.Arbors), .live [⟨90,4, .data (List.map bV r.Sim.Movement.Works.Meshes)⟩], .live [⟨62,3, .data (List.map aT r.Sim.Movement.Calendar.Months)⟩], .live [⟨66,3, .data (List.map aK r.Sim.Movement.Calendar.Rules)⟩], .live [⟨2,1, .data (List.map cI r.Sim.Movement.Cam)⟩], .live [⟨2,1, .data (List.map cI r.Sim.Dial.Cam)⟩]] (.agg [dS r.Sim.Movement.Name, .own 0 0 r.Sim.Movement.Works.Arbors.length, .own 2 0 r.Sim.Movement.Works.Meshes.length,(dI r.Sim.Movement.Minute),(dI r.Sim.Movement.Hour),(dI r.Sim.Movement.Escape),(dI r.Sim.Movement.Teeth),(dI r.Sim.Movement.Beats),(dS r.Sim.Movement.Calendar.Name), .own 3 0 r.Sim.Movement.Calendar.Months.length, .own 4 0 r.Sim.Movement.Calendar.Rules.length,(dI r.Sim.Movement.Calendar.Week), .own 5 0 r.Sim.Movement.Cam.length,(dI r.Sim.Movement.Strike),(dI r.Sim.Start.Year),(dI r.Sim.Start.Month),(dI r.Sim.Start.Day),(dI r.Sim.First),(dI r.Sim.Clock), .own 6 0 r.Sim.Dial.Cam.length,(dI r.Sim.Dial.Months),(dI r.Sim.Dial.Teeth),(dI r.Sim.Dial.At),(dI r.Sim.Dial.Day),(dI r.Sim.Dial.Week),(dI r.Sim.Dial.Weekday)]):=by
 refine fi 16 tok Tryz.func9 ?_
 unfold yK at h0
 refine sq [0] (al 3 [ze,zl,zl,z0,z0,z0,z0,z0,ze,zl,zl,z0,zl,z0,z0,z0,z0,z0,z0,zl,z0,z0,z0,z0,z0,z0] tok (nx (sq [0,1,2,3,4,5,6] ?_)))
 obtain ⟨v1,hv1,h0⟩:=bnd h0
 refine rS rfl (aM 4 (aBn hv1) rfl rfl rfl) (rP rfl (aL (r := .tup _) rfl) (rP rfl (aN rfl rfl) (rP rfl (aN rfl rfl) (al 6 [ze,zl,zl,z0] tok ?_))))
 refine bst tok ?_
 refine pa (nx (sq [0,1,2,3,4,5,6,7] ?_))
 refine rL rfl (bA tok rfl rfl rfl rfl) ?_
 obtain ⟨v2,hv2,h0⟩:=bnd h0
 refine rS rfl (eW 7 (aPs hv2) rfl rfl) (rP rfl (aL (r := .tup _) rfl) (rP rfl (aN rfl rfl) (rP rfl (aN rfl rfl) (al 14 [ze,zl,zl,z0,z0,z0,z0,z0,ze,zl,zl,z0,zl,z0,z0,z0,z0,z0,z0,zl,z0,z0,z0,z0,z0,z0] tok ?_))))
 refine bst tok ?_
 refine pa (nx (sq [0,1,2] ?_))
 refine rL rfl (bA tok rfl rfl rfl rfl) (rP rfl (pbl (C0:=[ze,zl,zl,z0,z0,z0,z0,z0,ze,zl,zl,z0,zl,z0,z0,z0,z0,z0,z0,zl,z0,z0,z0,z0,z0,z0]) tok rfl rfl rfl) (bst tok (nx (aA ?_))))
 cases h0
 exact dG (rs:=[.cell 0 40]) [7,8,9,10,11,12,13] rfl
theorem aMv  {r:rR} (h0:sO  = some r):FnC Tryz.prog 4 [] [] [.live [⟨88,2, .av (fA 1 aS r.Sim.Movement.Works.Arbors)⟩], .live (pC 2 1 aS r.Sim.Movement.Works.Arbors), .live [⟨90,4, .data (List.map bV r.Sim.Movement.Works.Meshes)⟩], .live [⟨62,3, .data (List.map aT r.Sim.Movement.Calendar.Months)⟩], .live [⟨66,3, .data (List.map aK r.Sim.Movement.Calendar.Rules)⟩], .live [⟨2,1, .data (List.map cI r.Sim.Movement.Cam)⟩], .live [⟨2,1, .data (List.map cI r.Sim.Dial.Cam)⟩]] (.agg [dS r.Sim.Movement.Name, .own 0 0 r.Sim.Movement.Works.Arbors.length, .own 2 0 r.Sim.Movement.Works.Meshes.length,(dI r.Sim.Movement.Minute),(dI r.Sim.Movement.Hour),(dI r.Sim.Movement.Escape),(dI r.Sim.Movement.Teeth),(dI r.Sim.Movement.Beats),(dS r.Sim.Movement.Calendar.Name), .own 3 0 r.Sim.Movement.Calendar.Months.length, .own 4 0 r.Sim.Movement.Calendar.Rules.length,(dI r.Sim.Movement.Calendar.Week), .own 5 0 r.Sim.Movement.Cam.length,(dI r.Sim.Movement.Strike),(dI r.Sim.Start.Year),(dI r.Sim.Start.Month),(dI r.Sim.Start.Day),(dI r.Sim.First),(dI r.Sim.Clock), .own 6 0 r.Sim.Dial.Cam.length,(dI r.Sim.Dial.Months),(dI r.Sim.Dial.Teeth),(dI r.Sim.Dial.At),(dI r.Sim.Dial.Day),(dI r.Sim.Dial.Week),(dI r.Sim.Dial.Weekday)]):=by
 refine fi 2 tok Tryz.func4 ?_
 unfold sO at h0
 refine sq [0] (al 3 [ze,zl,zl,z0,z0,z0,z0,z0,ze,zl,zl,z0,zl,z0,z0,z0,z0,z0,z0,zl,z0,z0,z0,z0,z0,z0] tok (nx (sq [0,1] ?_)))
 obtain ⟨v1,hv1,h0⟩:=bnd h0
 refine rS rfl (aM 4 (aPr hv1) rfl rfl rfl) (bst tok (nx (aA ?_)))
 cases h0
 exact dG (rs:=[.cell 0 40]) [4,5,6,7,8,9,10] rfl
theorem zR {p0 p1:Int} {r:ByteArray} (h0:sW p0 p1=some r):FnC Tryz.prog 126 [] [dI p0,(dI p1)] [] (dS r):=by
 obtain ⟨⟨q0,q1,q2⟩,h0⟩:=cO h0
 cases h0
 subst q2
 exact aXu q0 q1
theorem aLt {p0:Int} {r:ByteArray} (h0:zE p0=some r):FnC Tryz.prog 67 [] [dI p0] [] (dS r):=by
 refine fi 5 tok Tryz.func67 ?_
 unfold zE at h0
 refine sq [0] (pa (nx (sq [0,1,2] ?_)))
 refine pm ?_
 obtain ⟨v1,hv1,h0⟩:=bnd h0
 refine rS rfl (aM 3 (zR hv1) rfl rfl rfl) (pa (nx (aA ?_)))
 cases h0
 exact r0t 2 rfl
theorem aB3 {p0:Int} {p1:Int} {r:List bE} (h0:tD p0 p1=some r):FnC Tryz.prog 31 [] [dI p0,(dI p1)] [.live [⟨62,3, .data (List.map aT r)⟩]] (.own 0 0 r.length):=by
 refine fi 22 tok Tryz.func31 ?_
 unfold tD at h0
 refine sq [0] (pa (nx (sq [0] ?_)))
 refine pa (nx ?_)
 obtain ⟨v9,h1,h0⟩:=bnd h0
 refine bI ⟨aC ((fun _ => .dead)) 5 (.own 3 0 (v9).length),lks [.no, .no, .no, .live [⟨62,3, .data (List.map aT v9)⟩]]⟩ ?_ ?_
 refine sq [0] (pa (nx (aE ?_)))
 refine aZ (fun s5=>⟨aC (aC (aC (aC ((fun _ => .dead)) 0 (dI p0)) 1 (dI p1)) 5 (.own 3 0 (s5.2).length)) 6 (dI s5.1),lks [.no, .no, .no, .live [⟨62,3, .data (List.map aT s5.2)⟩]]⟩) h1 ?_ (fun s5 y h2 => ?_)
 refine mG.trans_ (cW 3 rfl 62 3 (d:=5) rfl) ?_
 exact wk [0,1,2,3]
 refine aB (sq [0,1,2] (pm ?_))
 refine pm ?_
 refine rP rfl (gW rfl rfl) (nx ?_)
 refine bC h2 rfl (fun hc h2 => ?_) (fun hc h2 => ?_)
 refine sk (aB (aE (sr [0,1,2,3,4,5,6,7,8,9] (rP rfl (aL (r := .own _ _ _) rfl) (pm ?_)))))
 obtain ⟨v6,hv6,h2⟩:=bnd h2
 refine rS rfl (aM 4 (aLt hv6) rfl rfl rfl) ?_
 obtain ⟨hq7,h2⟩:=cO h2
 refine rP rfl (aKd rfl rfl hq7) (pm ?_)
 refine pm ?_
 refine rP rfl (pbl (C0:=[ze,z0,z0]) tok rfl rfl rfl) (rS rfl (iZ tok aT [(⟨(⟨#[109]⟩:ByteArray)++v6,p1,p1⟩:bE)] rfl rfl rfl (by repeat (first | exact Els.nil _ | apply Els.cons (cs:=[.d _]) rfl rfl rfl | apply Els.cons (cs:=_ :: _) rfl rfl rfl)) rfl rfl rfl (by repeat (first | exact cR.nil | (apply cR.cons; (repeat (first | exact eZ.nil | apply eZ.cons))))) rfl) ?_)
 obtain ⟨hq8,h2⟩:=cO h2
 refine rw1 rfl w0 rfl (eU tok hq8 rfl rfl rfl rfl rfl rfl rfl rfl rfl rfl rfl rfl (fun _=>rfl)) (rP rfl (aR (r := .own _ _ _) rfl) (aY (bB (aG (sr [0,1,2] (pm ?_))))))
 refine rP rfl (bH rfl rfl) (pa (aY ?_))
 refine bS ?_
 cases h2
 refine ⟨_,rfl,?_⟩
 exact wk [0,1,2,3]
 refine bF (bT ?_)
 cases h2
 refine bU ⟨_,rfl,fun e => ?_⟩
 subst e
 refine aQ (aG ?_)
 exact wk [0,1,2,3]
 refine sq [0,1] (rP rfl (aL (r := .own _ _ _) rfl) (rP rfl (aR (r := .own _ _ _) rfl) (nx (aA ?_))))
 cases h0
 exact dG (rs:=[.tmp 4]) [3] rfl
theorem aBf {p0:ByteArray} {r:aF × Int} (h0:lN p0=some r):FnC Tryz.prog 16 [] [dS p0] [.live [⟨62,3, .data (List.map aT r.1.Months)⟩], .live [⟨66,3, .data (List.map aK r.1.Rules)⟩]] (.tup [.agg [dS r.1.Name, .own 0 0 r.1.Months.length, .own 1 0 r.1.Rules.length,(dI r.1.Week)],(dI r.2)]):=by
 refine fi 69 tok Tryz.func16 ?_
 unfold lN at h0
 refine sq [0,1] (al 3 [ze,zl,zl,z0] tok ?_)
 refine pa (nx (sq [0,1,2,3] ?_))
 refine pm ?_
 refine rP rfl (pbl (C0:=[ze,zl,zl,z0]) tok rfl rfl rfl) (al 4 [ze,zl,zl,z0] tok ?_)
 refine bst tok (nx ?_)
 obtain ⟨v16x,h1,h0⟩:=bnd h0
 refine dH v16x (fun v16=>⟨aC (aC (aC ((fun _ => .dead)) 0 (dS p0)) 2 (.ptr 3 0 1 0 0)) 4 (.ptr 4 0 1 0 0),lks [.no, .no, .no, .live [⟨29,4, .av [[ze,zl,zl,z0]]⟩], .live [⟨29,4, .av [[dS p0, .own 5 0 (v16).length,zl,(dI 7)]]⟩], .live [⟨62,3, .data (List.map aT v16)⟩]]⟩) ?_ ?_
 refine sq [0] (pm (nx (aE (sq [0,1] ?_))))
 refine rP rfl (pH rfl rfl) (pa (nx ?_))
 refine bC h1 rfl (fun hc h1 => ?_) (fun hc h1 => ?_)
 refine sq [0,1,2,3,4,5] ?_
 obtain ⟨v1,hv1,h1⟩:=bnd h1
 refine rS rfl (aM 5 (aB3 hv1) rfl rfl rfl) (rP rfl (pbl (C0:=[ze,z0,z0]) tok rfl rfl rfl) (rS rfl (iZ tok aT [(⟨(⟨#[109,49,51]⟩:ByteArray),5,5⟩:bE)] rfl rfl rfl (by repeat (first | exact Els.nil _ | apply Els.cons (cs:=[.d _]) rfl rfl rfl | apply Els.cons (cs:=_ :: _) rfl rfl rfl)) rfl rfl rfl (by repeat (first | exact cR.nil | (apply cR.cons; (repeat (first | exact eZ.nil | apply eZ.cons))))) rfl) ?_))
 obtain ⟨hq2,h1⟩:=cO h1
 refine rw1 rfl w0 rfl (eU tok hq2 rfl rfl rfl rfl rfl rfl rfl rfl rfl rfl rfl rfl (fun _=>rfl)) (fa tok ?_)
 refine rw0 rfl w0 (jA (cs:=[.own _ _ _]) tok rfl rfl rfl rfl rfl rfl rfl) (nx (sq [0,1] (fa tok ?_)))
 refine bs1 tok (nx (sq [0,1,2] ?_))
 refine rL rfl (bA tok rfl rfl rfl rfl) (bst tok ?_)
 refine pa (nx ?_)
 refine wa 6 66 3 3 2 (aA ?_)
 refine aX ?_
 cases h1
 replace h0:=eT h0
 refine aI ?_
 cases h0
 exact dG (rs:=[.cell 2 29, .tmp 3]) [5,6] rfl
 refine sq [0,1] (rP rfl (pH rfl rfl) (pa (nx ?_)))
 refine bC h1 rfl (fun hc h1 => ?_) (fun hc h1 => ?_)
 refine sr [0,1,2,3,4,5] ?_
 obtain ⟨v3,hv3,h1⟩:=bnd h1
 refine rS rfl (aM 5 (aB3 hv3) rfl rfl rfl) (rP rfl (pbl (C0:=[ze,z0,z0]) tok rfl rfl rfl) (rS rfl (iZ tok aT [(⟨(⟨#[109,49,51]⟩:ByteArray),29,30⟩:bE)] rfl rfl rfl (by repeat (first | exact Els.nil _ | apply Els.cons (cs:=[.d _]) rfl rfl rfl | apply Els.cons (cs:=_ :: _) rfl rfl rfl)) rfl rfl rfl (by repeat (first | exact cR.nil | (apply cR.cons; (repeat (first | exact eZ.nil | apply eZ.cons))))) rfl) ?_))
 obtain ⟨hq4,h1⟩:=cO h1
 refine rw1 rfl w0 rfl (eU tok hq4 rfl rfl rfl rfl rfl rfl rfl rfl rfl rfl rfl rfl (fun _=>rfl)) (fa tok ?_)
 refine rw0 rfl w0 (jA (cs:=[.own _ _ _]) tok rfl rfl rfl rfl rfl rfl rfl) (aY (bB (aG ?_)))
 cases h1
 refine ⟨_,rfl,?_⟩
 exact wk [0,1,2,3,4,5]
 obtain ⟨v5,h2,h1⟩:=bnd h1
 refine bI ⟨aC (aC (aC (aC ((fun _ => .dead)) 0 (dS p0)) 2 (.ptr 3 0 1 0 0)) 4 (.ptr 4 0 1 0 0)) 28 (dB v5),lks [.no, .no, .no, .live [⟨29,4, .av [[ze,zl,zl,z0]]⟩], .live [⟨29,4, .av [[dS p0,zl,zl,(dI 7)]]⟩]]⟩ ?_ ?_
 refine sq [0,1] (rP rfl (pH rfl rfl) (pa (nx ?_)))
 refine bC h2 rfl (fun hc h2 => ?_) (fun hc h2 => ?_)
 refine sk ?_
 cases h2
 exact wk [0,1,2,3,4]
 refine sr [0,1] (rP rfl (pH rfl rfl) (pa (nx ?_)))
 cases h2
 exact wk [0,1,2,3,4]
 refine bM h1 rfl (fun hc h1 => ?_) (fun hc h1 => ?_)
 obtain ⟨v14,h2,h1⟩:=bnd h1
 refine bI ⟨aC (aC (aC ((fun _ => .dead)) 0 (dS p0)) 2 (.ptr 3 0 1 0 0)) 4 (.ptr 4 0 1 0 0),lks [.no, .no, .no, .live [⟨29,4, .av [[ze,zl,zl,z0]]⟩], .live [⟨29,4, .av [[dS p0, .own 5 0 (v14).length,zl,(dI 7)]]⟩], .live [⟨62,3, .data (List.map aT v14)⟩]]⟩ ?_ ?_
 refine sq [0,1,2] (rS rfl (mE 5 tok cS [(⟨#[106,97,110]⟩:ByteArray),(⟨#[102,101,98]⟩:ByteArray),(⟨#[109,97,114]⟩:ByteArray),(⟨#[97,112,114]⟩:ByteArray),(⟨#[109,97,121]⟩:ByteArray),(⟨#[106,117,110]⟩:ByteArray),(⟨#[106,117,108]⟩:ByteArray),(⟨#[97,117,103]⟩:ByteArray),(⟨#[115,101,112]⟩:ByteArray),(⟨#[111,99,116]⟩:ByteArray),(⟨#[110,111,118]⟩:ByteArray),(⟨#[100,101,99]⟩:ByteArray)] rfl rfl rfl (by repeat (first | exact Els.nil _ | apply Els.cons (cs:=[.d _]) rfl rfl rfl | apply Els.cons (cs:=_ :: _) rfl rfl rfl)) rfl rfl rfl (by repeat (first | exact cR.nil | (apply cR.cons; (repeat (first | exact eZ.nil | apply eZ.cons))))) rfl rfl) (rL rfl (mF tok rfl rfl rfl rfl rfl) (pm (nx (aE ?_)))))
 refine aZ (fun s10=>⟨aC (aC (aC (aC (aC (aC ((fun _ => .dead)) 0 (dS p0)) 2 (.ptr 3 0 1 0 0)) 4 (.ptr 4 0 1 0 0)) 31 (.own 5 0 ([(⟨#[106,97,110]⟩:ByteArray),(⟨#[102,101,98]⟩:ByteArray),(⟨#[109,97,114]⟩:ByteArray),(⟨#[97,112,114]⟩:ByteArray),(⟨#[109,97,121]⟩:ByteArray),(⟨#[106,117,110]⟩:ByteArray),(⟨#[106,117,108]⟩:ByteArray),(⟨#[97,117,103]⟩:ByteArray),(⟨#[115,101,112]⟩:ByteArray),(⟨#[111,99,116]⟩:ByteArray),(⟨#[110,111,118]⟩:ByteArray),(⟨#[100,101,99]⟩:ByteArray)]).length)) 32 (dI ([(⟨#[106,97,110]⟩:ByteArray),(⟨#[102,101,98]⟩:ByteArray),(⟨#[109,97,114]⟩:ByteArray),(⟨#[97,112,114]⟩:ByteArray),(⟨#[109,97,121]⟩:ByteArray),(⟨#[106,117,110]⟩:ByteArray),(⟨#[106,117,108]⟩:ByteArray),(⟨#[97,117,103]⟩:ByteArray),(⟨#[115,101,112]⟩:ByteArray),(⟨#[111,99,116]⟩:ByteArray),(⟨#[110,111,118]⟩:ByteArray),(⟨#[100,101,99]⟩:ByteArray)].length:Int))) 33 (dI s10.1),lks [.no, .no, .no, .live [⟨29,4, .av [[ze,zl,zl,z0]]⟩], .live [⟨29,4, .av [[dS p0, .own 6 0 (s10.2).length,zl,(dI 7)]]⟩], .live [⟨9,1, .data (List.map cS [(⟨#[106,97,110]⟩:ByteArray),(⟨#[102,101,98]⟩:ByteArray),(⟨#[109,97,114]⟩:ByteArray),(⟨#[97,112,114]⟩:ByteArray),(⟨#[109,97,121]⟩:ByteArray),(⟨#[106,117,110]⟩:ByteArray),(⟨#[106,117,108]⟩:ByteArray),(⟨#[97,117,103]⟩:ByteArray),(⟨#[115,101,112]⟩:ByteArray),(⟨#[111,99,116]⟩:ByteArray),(⟨#[110,111,118]⟩:ByteArray),(⟨#[100,101,99]⟩:ByteArray)])⟩], .live [⟨62,3, .data (List.map aT s10.2)⟩]]⟩) h2 ?_ (fun s10 y h3 => ?_)
 refine mG.trans_ (vA 6 rfl 62 3 (kb:=4) (j:=1) rfl rfl (by repeat (first | exact Spl.z _ | apply Spl.t | apply Spl.d))) ?_
 exact wk [0,1,2,3,4,5,6]
 refine sq [0] (rP rfl (bK rfl rfl) (nx (aB ?_)))
 refine bC h3 rfl (fun hc h3 => ?_) (fun hc h3 => ?_)
 refine sk (aB (aE (sq [0,1,2,3,4] (pm ?_))))
 obtain ⟨v11,hv11,h3⟩:=bnd h3
 refine rL rfl (fB tok hv11 rfl rfl rfl rfl rfl rfl rfl rfl) (rL rfl (jK tok (dP hv11).2.1 rfl rfl rfl rfl rfl rfl) (pa ?_))
 refine pa (nx (sq [0,1,2,3,4] ?_))
 refine rS rfl (mE 7 tok cI [31,28,31,30,31,30,31,31,30,31,30,31] rfl rfl rfl (by repeat (first | exact Els.nil _ | apply Els.cons (cs:=[.d _]) rfl rfl rfl | apply Els.cons (cs:=_ :: _) rfl rfl rfl)) rfl rfl rfl (by repeat (first | exact cR.nil | (apply cR.cons; (repeat (first | exact eZ.nil | apply eZ.cons))))) rfl rfl) (pm ?_)
 obtain ⟨v12,hv12,h3⟩:=bnd h3
 refine rL rfl (fB tok hv12 rfl rfl rfl rfl rfl rfl rfl rfl) (rL rfl (jK tok (dP hv12).2.1 rfl rfl rfl rfl rfl rfl) (pa (nx (sr [0,1,2,3,4,5,6,7,8,9] ?_))))
 refine fa tok ?_
 refine ld tok ?_
 iterate 3 refine pm ?_
 refine rP rfl (pbl (C0:=[ze,z0,z0]) tok rfl rfl rfl) (rS rfl (iZ tok aT [(⟨v11,v12,v12⟩:bE)] rfl rfl rfl (by repeat (first | exact Els.nil _ | apply Els.cons (cs:=[.d _]) rfl rfl rfl | apply Els.cons (cs:=_ :: _) rfl rfl rfl)) rfl rfl rfl (by repeat (first | exact cR.nil | (apply cR.cons; (repeat (first | exact eZ.nil | apply eZ.cons))))) rfl) ?_)
 obtain ⟨hq13,h3⟩:=cO h3
 refine rw1 rfl w0 rfl (eU tok hq13 rfl rfl rfl rfl rfl rfl rfl rfl rfl rfl rfl rfl (fun _=>rfl)) (fa tok ?_)
 refine rw0 rfl w0 (jA (cs:=[.own _ _ _]) tok rfl rfl rfl rfl rfl rfl rfl) (aY (bB (aG (sr [0,1] (rP rfl (bH rfl rfl) (pm (aY ?_)))))))
 refine bS ?_
 cases h3
 refine ⟨_,rfl,?_⟩
 exact wk [0,1,2,3,4,5,6]
 refine bF (bT ?_)
 cases h3
 refine bU ⟨_,rfl,fun e => ?_⟩
 subst e
 refine aQ (aG ?_)
 exact wk [0,1,2,3,4,6]
 refine sr [0,1,2,3,4] (fa tok ?_)
 refine ld tok ?_
 obtain ⟨v15,hv15,h1⟩:=bnd h1
 refine rL rfl (fB tok hv15 rfl rfl rfl rfl rfl rfl rfl rfl) (rL rfl (zP tok (dP hv15).2.1 rfl rfl rfl rfl rfl rfl rfl rfl) (rw0 rfl w0 (sL (cs:=[.d _]) tok (⟨v15.Name,v15.Days,29⟩:bE) (dP hv15).2.1 rfl rfl rfl rfl rfl rfl rfl rfl) (aY (bB (aG ?_)))))
 cases h1
 refine ⟨_,rfl,?_⟩
 exact wk [0,1,2,3,4,5]
 refine sq [0,1,2] (rP rfl (pbl (C0:=[ze,zl,zl,z0]) tok rfl rfl rfl) (bst tok ?_))
 refine pa (nx ?_)
 refine wa 5 62 3 3 1 ?_
 refine wa 6 66 3 3 2 (aA ?_)
 refine aX ?_
 cases h1
 replace h0:=eT h0
 refine aI ?_
 cases h0
 exact dG (rs:=[.cell 2 29, .tmp 3]) [5,6] rfl
 rintro v16 rfl
 replace h0:=gS h0
 refine sq [0,1,2,3] (rP rfl (pbl (C0:=[z0,z0,(dB false)]) tok rfl rfl rfl) (rS rfl (mE 6 tok aK [(⟨4,0,true⟩:aO)] rfl rfl rfl (by repeat (first | exact Els.nil _ | apply Els.cons (cs:=[.d _]) rfl rfl rfl | apply Els.cons (cs:=_ :: _) rfl rfl rfl)) rfl rfl rfl (by repeat (first | exact cR.nil | (apply cR.cons; (repeat (first | exact eZ.nil | apply eZ.cons))))) rfl rfl) (fa tok ?_)))
 refine rw0 rfl w0 (jA (cs:=[.own _ _ _]) tok rfl rfl rfl rfl rfl rfl rfl) (nx ?_)
 obtain ⟨v18,h1,h0⟩:=bnd h0
 refine bI ⟨aC (aC ((fun _ => .dead)) 2 (.ptr 3 0 1 0 0)) 4 (.ptr 4 0 1 0 0),lks [.no, .no, .no, .live [⟨29,4, .av [[ze,zl,zl,z0]]⟩], .live [⟨29,4, .av [[dS p0, .own 5 0 (v16).length, .own 6 0 (v18).length,(dI 7)]]⟩], .live [⟨62,3, .data (List.map aT v16)⟩], .live [⟨66,3, .data (List.map aK v18)⟩]]⟩ ?_ ?_
 refine sq [0,1] (pm ?_)
 refine rP rfl (zO rfl rfl) (nx ?_)
 refine bC h1 rfl (fun hc h1 => ?_) (fun hc h1 => ?_)
 refine sr [0,1,2,3,4,5,6,7] (fa tok ?_)
 refine ld tok ?_
 refine rP rfl (pbl (C0:=[z0,z0,(dB false)]) tok rfl rfl rfl) (rP rfl (pbl (C0:=[z0,z0,(dB false)]) tok rfl rfl rfl) (rS rfl (iZ tok aK [(⟨100,0,false⟩:aO),(⟨400,0,true⟩:aO)] rfl rfl rfl (by repeat (first | exact Els.nil _ | apply Els.cons (cs:=[.d _]) rfl rfl rfl | apply Els.cons (cs:=_ :: _) rfl rfl rfl)) rfl rfl rfl (by repeat (first | exact cR.nil | (apply cR.cons; (repeat (first | exact eZ.nil | apply eZ.cons))))) rfl) ?_))
 obtain ⟨hq17,h1⟩:=cO h1
 refine rw1 rfl w0 rfl (eU tok hq17 rfl rfl rfl rfl rfl rfl rfl rfl rfl rfl rfl rfl (fun _=>rfl)) (fa tok ?_)
 refine rw0 rfl w0 (jA (cs:=[.own _ _ _]) tok rfl rfl rfl rfl rfl rfl rfl) (nx ?_)
 cases h1
 exact wk [0,1,2,3,4,5,6]
 refine sk ?_
 cases h1
 exact wk [0,1,2,3,4,5,6]
 refine sq [0,1,2] (rL rfl (bA tok rfl rfl rfl rfl) (bst tok ?_))
 refine pa (nx (aA ?_))
 cases h0
 exact dG (rs:=[.cell 2 29, .tmp 3]) [5,6] rfl
theorem uH {p0:ByteArray} {r:Bool} (h0:lO p0=some r):FnC Tryz.prog 33 [] [dS p0] [] (dB r):=by
 refine fi 50 tok Tryz.func33 ?_
 unfold lO at h0
 refine sq [0] (pa (nx (aB ?_)))
 obtain ⟨v1,h1,h0⟩:=bnd h0
 refine bI ⟨aC (aC ((fun _ => .dead)) 0 (dS p0)) 14 (dB v1),lks [.no, .no, .no]⟩ ?_ ?_
 refine sr [0,1,2,3,4,5,6,7] (pm ?_)
 refine rP rfl (yF tok rfl rfl rfl) (rP rfl (bK rfl rfl) (pm ?_))
 refine iT (u:=10) h1 rfl (fun hc h1 => ?_) (fun hc h1 => ?_)
 iterate 3 refine k1 ?_
 refine pkt (nx ?_)
 cases h1
 exact wk [0,1,2]
 refine pm1 ?_
 refine rp rfl (w1 rfl rfl rfl) rfl (yF tok rfl rfl rfl) (rp rfl (w1 rfl rfl rfl) rfl (gT rfl rfl) (pkf (nx ?_)))
 cases h1
 exact wk [0,1,2]
 refine bM h0 rfl (fun hc h0 => ?_) (fun hc h0 => ?_)
 refine sq [0] (pa (nx (aA (aI ?_))))
 cases h0
 exact r0t 2 rfl
 refine sk ?_
 obtain ⟨v13x,h1,h0⟩:=bnd h0
 refine dH v13x (fun v13=>⟨(fun _ => .dead),lks [.no, .no, .no]⟩) ?_ ?_
 refine sq [0,1,2,3] (pm ?_)
 obtain ⟨hq2,h1⟩:=cO h1
 refine rS rfl (aYf tok hq2 rfl rfl rfl rfl rfl rfl rfl) (rP rfl (aJ tok rfl rfl rfl) (pm (nx (aE ?_))))
 refine aZ (fun s8=>⟨aC (aC (aC ((fun _ => .dead)) 16 (dL cU8 (eG p0))) 17 (dI ((eG p0).length:Int))) 18 (dI s8),lks [.no, .no, .no]⟩) h1 ?_ (fun s8 y h2 => ?_)
 exact wk [0,1,2]
 refine sq [0] (rP rfl (bK rfl rfl) (nx (aB ?_)))
 refine bC h2 rfl (fun hc h2 => ?_) (fun hc h2 => ?_)
 refine sk (aB (aE (sq [0,1,2,3,4] (pm ?_))))
 obtain ⟨v9,hv9,h2⟩:=bnd h2
 refine rP rfl (cE tok hv9 rfl rfl rfl rfl rfl rfl) (lr tok ?_)
 refine pa ?_
 refine pa (nx ?_)
 obtain ⟨v10,h3,h2⟩:=bnd h2
 refine bI ⟨aC (aC (aC (aC (aC (aC ((fun _ => .dead)) 3 (dI s8)) 4 (.d (.v (.int .u8 v9)))) 5 (dB v10)) 16 (dL cU8 (eG p0))) 17 (dI ((eG p0).length:Int))) 18 (dI s8),lks [.no, .no, .no]⟩ ?_ ?_
 refine sr [0,1,2,3,4,5,6] (pm ?_)
 refine rP rfl (tH rfl rfl) (pm ?_)
 refine iT (u:=25) h3 rfl (fun hc h3 => ?_) (fun hc h3 => ?_)
 refine pm1 ?_
 refine rp rfl (w1 rfl rfl rfl) rfl (gW rfl rfl) (pkt ?_)
 refine pa (nx ?_)
 cases h3
 exact wk [0,1,2]
 refine k1 ?_
 refine k1 ?_
 refine pkf ?_
 refine pa (nx ?_)
 cases h3
 exact wk [0,1,2]
 obtain ⟨v11,h3,h2⟩:=bnd h2
 refine bI ⟨aC (aC (aC (aC (aC (aC ((fun _ => .dead)) 3 (dI s8)) 5 (dB v10)) 6 (dB v11)) 16 (dL cU8 (eG p0))) 17 (dI ((eG p0).length:Int))) 18 (dI s8),lks [.no, .no, .no]⟩ ?_ ?_
 refine sr [0,1,2,3,4,5,6,7,8,9,10] (pm ?_)
 refine rP rfl (tH rfl rfl) (pm ?_)
 refine iT (u:=31) h3 rfl (fun hc h3 => ?_) (fun hc h3 => ?_)
 refine pm1 ?_
 refine rp rfl (w1 rfl rfl rfl) rfl (gW rfl rfl) (pkt ?_)
 refine pm ?_
 refine iT (u:=35) h3 rfl (fun hc h3 => ?_) (fun hc h3 => ?_)
 refine k1 ?_
 refine k1 ?_
 refine pkt ?_
 refine pa (nx ?_)
 cases h3
 exact wk [0,1,2]
 refine pm1 ?_
 refine rp rfl (w1 rfl rfl rfl) rfl (iX rfl rfl) (pkf ?_)
 refine pa (nx ?_)
 cases h3
 exact wk [0,1,2]
 refine k1 ?_
 refine k1 ?_
 refine pkf ?_
 refine pm ?_
 refine pm1 ?_
 refine rp rfl (w1 rfl rfl rfl) rfl (iX rfl rfl) (pkf ?_)
 refine pa (nx ?_)
 cases h3
 exact wk [0,1,2]
 obtain ⟨v12,h3,h2⟩:=bnd h2
 refine bI ⟨aC (aC (aC (aC ((fun _ => .dead)) 16 (dL cU8 (eG p0))) 17 (dI ((eG p0).length:Int))) 18 (dI s8)) 48 (dB v12),lks [.no, .no, .no]⟩ ?_ ?_
 refine sr [0,1,2,3,4,5,6,7,8,9] (pm ?_)
 refine rP rfl (bW rfl) (pm ?_)
 refine dU (u:=41) h3 rfl (fun hc h3 => ?_) (fun hc h3 => ?_)
 refine pm1 ?_
 refine rp rfl (w1 rfl rfl rfl) rfl (iX rfl rfl) (pm1 ?_)
 refine iT (u:=44) h3 rfl (fun hc h3 => ?_) (fun hc h3 => ?_)
 refine k1 ?_
 refine k1 ?_
 refine aYa ?_
 refine pkt (nx ?_)
 cases h3
 exact wk [0,1,2]
 refine pm1 ?_
 refine rp rfl (w1 rfl rfl rfl) rfl (bW rfl) (aV3 ?_)
 refine pkt (nx ?_)
 cases h3
 exact wk [0,1,2]
 iterate 6 refine k1 ?_
 refine pkf (nx ?_)
 cases h3
 exact wk [0,1,2]
 refine bM h2 rfl (fun hc h2 => ?_) (fun hc h2 => ?_)
 refine sq [0] (pa (nx (aA ?_)))
 refine aX (aI ?_)
 cases h2
 refine dM ⟨_,rfl,fun e => ?_⟩
 subst e
 refine aX ?_
 replace h0:=eT h0
 refine aI ?_
 cases h0
 exact r0t 2 rfl
 refine cX (bB (aG (sr [0,1] (rP rfl (bH rfl rfl) (pm (aY ?_))))))
 refine bS ?_
 cases h2
 refine ⟨_,rfl,?_⟩
 exact wk [0,1,2]
 refine bF (bT ?_)
 cases h2
 refine bU ⟨_,rfl,fun e => ?_⟩
 subst e
 refine aQ (aG ?_)
 refine ⟨_,rfl,?_⟩
 exact wk [0,1,2]
 rintro v13 rfl
 replace h0:=gS h0
 refine sq [0] (pa (nx (aA ?_)))
 cases h0
 exact r0t 2 rfl
theorem dX {p0:Int} {p1:Int} {p2:Int} {r:Bool} (h0:dJ p0 p1 p2=some r):FnC Tryz.prog 34 [] [dI p0,(dI p1),(dI p2)] [] (dB r):=by
 refine fi 15 tok Tryz.func34 ?_
 unfold dJ at h0
 refine sq [0] (pa (nx (sq [0,1,2,3,4,5,6,7,8] ?_)))
 refine pm ?_
 refine pm ?_
 refine rP rfl (tH rfl rfl) (pm ?_)
 refine iT (u:=10) h0 rfl (fun hc h0 => ?_) (fun hc h0 => ?_)
 refine pm1 ?_
 refine pm1 ?_
 refine rp rfl (w1 rfl rfl rfl) rfl (gW rfl rfl) (pkt ?_)
 refine pa (nx (aA ?_))
 cases h0
 exact r0t 6 rfl
 iterate 3 refine k1 ?_
 refine pkf ?_
 refine pa (nx (aA ?_))
 cases h0
 exact r0t 6 rfl
theorem zG {p0:bE} {p1:bE} {r:Bool} (h0:jR p0 p1=some r):FnC Tryz.prog 69 [] [.agg [dS p0.Name,(dI p0.Days),(dI p0.Leap)], .ref (aT p1)] [] (dB r):=by
 refine fi 9 tok Tryz.func69 ?_
 unfold jR at h0
 refine sq [0,1] (bxx 3 ?_)
 refine pa (nx (sq [0,1,2,3,4,5] ?_))
 refine fa tok ?_
 refine ld tok ?_
 refine fr tok ?_
 refine lr tok ?_
 refine rP rfl (pH rfl rfl) (pa (nx (aA ?_)))
 cases h0
 exact r0t 3 rfl
theorem hH {p0:List bE} {p1_0:bE} {r:Int} (h0:cY p0 p1_0=some r):FnC Tryz.prog 127 [] [dL aT p0, .fn 69 [.ref (aT p1_0)]] [] (dI r):=by
 refine fi 19 tok Tryz.func127 ?_
 unfold cY at h0
 refine sq [0] (pa (nx ?_))
 obtain ⟨v7x,h1,h0⟩:=bnd h0
 refine dH v7x (fun v7=>⟨(fun _ => .dead),lks [.no, .no, .no]⟩) ?_ ?_
 refine sq [0,1,2] (pm ?_)
 refine rP rfl (aJ tok rfl rfl rfl) (pm (nx (aE ?_)))
 refine aZ (fun s4=>⟨aC (aC (aC (aC ((fun _ => .dead)) 0 (dL aT p0)) 1 (.fn 69 [.ref (aT p1_0)])) 7 (dI (p0.length:Int))) 8 (dI s4),lks [.no, .no, .no]⟩) h1 ?_ (fun s4 y h2 => ?_)
 exact wk [0,1,2]
 refine sq [0] (rP rfl (bK rfl rfl) (nx (aB ?_)))
 refine bC h2 rfl (fun hc h2 => ?_) (fun hc h2 => ?_)
 refine sk (aB (aE (sq [0,1] (pm ?_))))
 refine pa (nx (sq [0,1,2,3,4,5] ?_))
 refine rP rfl (aL (r := .fn _ _) rfl) (pm ?_)
 refine pm ?_
 obtain ⟨v5,hv5,h2⟩:=bnd h2
 refine rP rfl (cE tok hv5 rfl rfl rfl rfl rfl rfl) (rP rfl (bJ tok rfl rfl rfl (by repeat (first | exact gV.z _ | apply gV.t))) ?_)
 obtain ⟨v6,hv6,h2⟩:=bnd h2
 refine rS rfl (aM 3 (zG hv6) rfl rfl rfl) (nx ?_)
 refine bM h2 rfl (fun hc h2 => ?_) (fun hc h2 => ?_)
 refine sq [0,1] (pm ?_)
 refine pa (nx (aA ?_))
 refine aX (aI ?_)
 cases h2
 refine dM ⟨_,rfl,fun e => ?_⟩
 subst e
 refine aX ?_
 replace h0:=eT h0
 refine aI ?_
 cases h0
 exact r0t 4 rfl
 refine cX (bB (aG (sr [0,1] (rP rfl (bH rfl rfl) (pm (aY ?_))))))
 refine bS ?_
 cases h2
 refine ⟨_,rfl,?_⟩
 exact wk [0,1,2]
 refine bF (bT ?_)
 cases h2
 refine bU ⟨_,rfl,fun e => ?_⟩
 subst e
 refine aQ (aG ?_)
 refine ⟨_,rfl,?_⟩
 exact wk [0,1,2]
 rintro v7 rfl
 replace h0:=gS h0
 refine sq [0] (pa (nx (aA ?_)))
 cases h0
 exact r0t 4 rfl
theorem gJ {p0:List bE} {p1_0:bE} {r:Bool} (h0:bY p0 p1_0=some r):FnC Tryz.prog 68 [] [dL aT p0, .fn 69 [.ref (aT p1_0)]] [] (dB r):=by
 refine fi 9 tok Tryz.func68 ?_
 unfold bY at h0
 refine sq [0] (pa (nx (sq [0,1,2,3,4] ?_)))
 refine pm ?_
 refine rP rfl (aL (r := .fn _ _) rfl) ?_
 obtain ⟨v1,hv1,h0⟩:=bnd h0
 refine rS rfl (aM 3 (hH hv1) rfl rfl rfl) (rP rfl (tH rfl rfl) (pa (nx (aA ?_))))
 cases h0
 exact r0t 4 rfl
theorem aHq {p0:Int} {p1:Int} {r:Int} (h0:vL p0 p1=some r):FnC Tryz.prog 72 [] [dI p0,(dI p1)] [] (dI r):=by
 refine fi 16 tok Tryz.func72 ?_
 unfold vL at h0
 refine sq [0] (pa (nx ?_))
 obtain ⟨v5,h1,h0⟩:=bnd h0
 refine bI ⟨aC ((fun _ => .dead)) 0 (dI v5),lks [.no, .no, .no]⟩ ?_ ?_
 refine aE ?_
 refine aZ (fun s3=>⟨aC (aC ((fun _ => .dead)) 0 (dI s3.1)) 1 (dI s3.2),lks [.no, .no, .no]⟩) h1 ?_ (fun s3 y h2 => ?_)
 exact wk [0,1,2]
 refine aB (sq [0,1] (pm ?_))
 refine rP rfl (cQ rfl rfl) (nx ?_)
 refine bC h2 rfl (fun hc h2 => ?_) (fun hc h2 => ?_)
 refine sk (aE (aH (is:=[0,1,2,3,4,5]) [0,0,0,6,3,31] follows (by kernel_rfl) ?_))
 iterate 3 refine tpm ?_
 obtain ⟨hq4,h2⟩:=cO h2
 refine tP rfl (kU rfl rfl hq4) (tpa ?_)
 refine tpa ?_
 refine bN ?_
 refine ⟨by kernel_rfl,?_⟩
 refine bB (bS ?_)
 cases h2
 refine ⟨_,rfl,?_⟩
 exact wk [0,1,2]
 refine bF (bT ?_)
 cases h2
 refine bU ⟨_,rfl,fun e => ?_⟩
 subst e
 refine aQ (aG ?_)
 exact wk [0,1,2]
 refine aB (sq [0,1] (pm ?_))
 refine rP rfl (bK rfl rfl) (nx ?_)
 refine bC h0 rfl (fun hc h0 => ?_) (fun hc h0 => ?_)
 refine sq [0,1,2] (pm ?_)
 refine rP rfl (wH rfl) (pa (nx (aA (aI ?_))))
 cases h0
 exact r0t 4 rfl
 refine sk (sq [0,1] (pm ?_))
 refine pa (nx (aA ?_))
 cases h0
 exact r0t 4 rfl
theorem tY {p0:List aO} {r:Int} (h0:iP p0=some r):FnC Tryz.prog 70 [] [dL aK p0] [] (dI r):=by
 refine fi 25 tok Tryz.func70 ?_
 unfold iP at h0
 refine sq [0] (pa (nx (sq [0] ?_)))
 refine pa (nx ?_)
 obtain ⟨v11,h1,h0⟩:=bnd h0
 refine bI ⟨aC ((fun _ => .dead)) 3 (dI v11),lks [.no, .no, .no]⟩ ?_ ?_
 refine sq [0,1,2] (pm ?_)
 refine rP rfl (aJ tok rfl rfl rfl) (pm (nx (aE ?_)))
 refine aZ (fun s6=>⟨aC (aC (aC (aC ((fun _ => .dead)) 3 (dI s6.1)) 6 (dL aK p0)) 7 (dI (p0.length:Int))) 8 (dI s6.2),lks [.no, .no, .no]⟩) h1 ?_ (fun s6 y h2 => ?_)
 exact wk [0,1,2]
 refine sq [0] (rP rfl (bK rfl rfl) (nx (aB ?_)))
 refine bC h2 rfl (fun hc h2 => ?_) (fun hc h2 => ?_)
 refine sk ?_
 obtain ⟨v10,h3,h2⟩:=bnd h2
 refine bI ⟨aC (aC (aC (aC ((fun _ => .dead)) 3 (dI v10)) 6 (dL aK p0)) 7 (dI (p0.length:Int))) 8 (dI s6.2),lks [.no, .no, .no]⟩ ?_ ?_
 refine aE (sq [0,1,2,3] ?_)
 obtain ⟨v7,hv7,h3⟩:=bnd h3
 refine rP rfl (cE tok hv7 rfl rfl rfl rfl rfl rfl) (rP rfl (bJ tok rfl rfl rfl (by repeat (first | exact gV.z _ | apply gV.t))) (al 3 [z0,z0,(dB false)] tok ?_))
 refine bst tok (nx (sq [0,1] ?_))
 refine pm ?_
 refine rP rfl (gW rfl rfl) (nx ?_)
 refine bC h3 rfl (fun hc h3 => ?_) (fun hc h3 => ?_)
 refine aH (is:=[0,1,2,3,6,7,4,5,8,9]) [0,0,0,4,14,31,0,64,255,511] follows (by kernel_rfl) (tpm ?_)
 refine tpm ?_
 refine tfa tok ?_
 refine tld tok ?_
 refine tfa tok ?_
 refine tld tok ?_
 obtain ⟨v8,hv8,h3⟩:=bnd h3
 refine jW rfl w0 rfl (cV 4 (aHq hv8) rfl rfl rfl) ?_
 obtain ⟨hq9,h3⟩:=cO h3
 refine tP rfl (tK rfl rfl hq9) (tP rfl (eL rfl rfl) (tpa ?_))
 refine bN ?_
 refine ⟨by kernel_rfl,?_⟩
 refine bB (aG ?_)
 cases h3
 exact wk [0,1,2]
 refine cX (bB (aG ?_))
 cases h3
 exact wk [0,1,2]
 refine sr [0,1] (rP rfl (bH rfl rfl) (pm (aY ?_)))
 refine bS ?_
 cases h2
 refine ⟨_,rfl,?_⟩
 exact wk [0,1,2]
 refine bF (bT ?_)
 cases h2
 refine bU ⟨_,rfl,fun e => ?_⟩
 subst e
 refine aQ (aG ?_)
 exact wk [0,1,2]
 refine sq [0,1] (pm ?_)
 refine pa (nx (aA ?_))
 cases h0
 exact r0t 2 rfl
theorem jC {p0:aF} {r:Bool} (h0:eJ p0=some r):FnC Tryz.prog 32 [] [.agg [dS p0.Name,(dL aT p0.Months),(dL aK p0.Rules),(dI p0.Week)]] [] (dB r):=by
 refine fi 91 tok Tryz.func32 ?_
 unfold eJ at h0
 refine sq [0,1] (bxx 3 ?_)
 refine pa (nx (aB ?_))
 obtain ⟨v3,h1,h0⟩:=bnd h0
 refine bI ⟨aC (aC ((fun _ => .dead)) 1 (.ptr 3 0 1 0 0)) 34 (dB v3),lks [.no, .no, .no, .live [⟨29,4, .av [[dS p0.Name,(dL aT p0.Months),(dL aK p0.Rules),(dI p0.Week)]]⟩]]⟩ ?_ ?_
 refine sr [0,1,2,3,4,5,6,7,8,9,10,11,12,13,14,15,16,17,18,19,20,21,22,23,24,25,26,27] (fa tok ?_)
 refine ld tok ?_
 obtain ⟨v1,hv1,h1⟩:=bnd h1
 refine rS rfl (aM 4 (uH hv1) rfl rfl rfl) (rP rfl (bW rfl) (pm ?_))
 refine dU (u:=11) h1 rfl (fun hc h1 => ?_) (fun hc h1 => ?_)
 iterate 4 refine k1 ?_
 refine pkt ?_
 refine pm ?_
 iterate 4 refine k1 ?_
 refine pkt ?_
 refine pm ?_
 iterate 4 refine k1 ?_
 refine pkt ?_
 refine pm ?_
 iterate 4 refine k1 ?_
 refine pkt (nx ?_)
 cases h1
 exact wk [0,1,2,3]
 refine fa1 tok ?_
 refine ld1 tok ?_
 refine rp rfl (w1 rfl rfl rfl) rfl (aJ tok rfl rfl rfl) (rp rfl (w1 rfl rfl rfl) rfl (bK rfl rfl) (pkf ?_))
 refine pm ?_
 refine iT (u:=17) h1 rfl (fun hc h1 => ?_) (fun hc h1 => ?_)
 iterate 4 refine k1 ?_
 refine pkt ?_
 refine pm ?_
 iterate 4 refine k1 ?_
 refine pkt ?_
 refine pm ?_
 iterate 4 refine k1 ?_
 refine pkt (nx ?_)
 cases h1
 exact wk [0,1,2,3]
 refine fa1 tok ?_
 refine ld1 tok ?_
 refine rp rfl (w1 rfl rfl rfl) rfl (aJ tok rfl rfl rfl) (rp rfl (w1 rfl rfl rfl) rfl (gT rfl rfl) (pkf ?_))
 refine pm ?_
 refine iT (u:=23) h1 rfl (fun hc h1 => ?_) (fun hc h1 => ?_)
 iterate 4 refine k1 ?_
 refine pkt ?_
 refine pm ?_
 iterate 4 refine k1 ?_
 refine pkt (nx ?_)
 cases h1
 exact wk [0,1,2,3]
 refine fa1 tok ?_
 refine ld1 tok ?_
 refine rp rfl (w1 rfl rfl rfl) rfl (aJ tok rfl rfl rfl) (rp rfl (w1 rfl rfl rfl) rfl (gT rfl rfl) (pkf ?_))
 refine pm ?_
 refine iT (u:=29) h1 rfl (fun hc h1 => ?_) (fun hc h1 => ?_)
 iterate 4 refine k1 ?_
 refine pkt (nx ?_)
 cases h1
 exact wk [0,1,2,3]
 refine fa1 tok ?_
 refine ld1 tok ?_
 obtain ⟨v2,hv2,h1⟩:=bnd h1
 refine rs rfl (w1 rfl rfl rfl) rfl (aM 4 (dX hv2) rfl rfl rfl) (rp rfl (w1 rfl rfl rfl) rfl (bW rfl) (pkf (nx ?_)))
 cases h1
 exact wk [0,1,2,3]
 refine bM h0 rfl (fun hc h0 => ?_) (fun hc h0 => ?_)
 refine sq [0] (pa (nx (aA (aI ?_))))
 cases h0
 exact r0t 2 rfl
 refine sk ?_
 obtain ⟨v20x,h1,h0⟩:=bnd h0
 refine dH v20x (fun v20=>⟨aC ((fun _ => .dead)) 1 (.ptr 3 0 1 0 0),lks [.no, .no, .no, .live [⟨29,4, .av [[dS p0.Name,(dL aT p0.Months),(dL aK p0.Rules),(dI p0.Week)]]⟩]]⟩) ?_ ?_
 refine sq [0,1,2,3] (fa tok ?_)
 refine ld tok ?_
 refine rP rfl (aJ tok rfl rfl rfl) (pm (nx (aE ?_)))
 refine aZ (fun s12=>⟨aC (aC (aC (aC ((fun _ => .dead)) 1 (.ptr 3 0 1 0 0)) 36 (dL aT p0.Months)) 37 (dI (p0.Months.length:Int))) 38 (dI s12),lks [.no, .no, .no, .live [⟨29,4, .av [[dS p0.Name,(dL aT p0.Months),(dL aK p0.Rules),(dI p0.Week)]]⟩]]⟩) h1 ?_ (fun s12 y h2 => ?_)
 exact wk [0,1,2,3]
 refine sq [0] (rP rfl (bK rfl rfl) (nx (aB ?_)))
 refine bC h2 rfl (fun hc h2 => ?_) (fun hc h2 => ?_)
 refine sk (aB (aE (sq [0,1,2,3,4,5] (pm ?_))))
 obtain ⟨v13,hv13,h2⟩:=bnd h2
 refine rP rfl (cE tok hv13 rfl rfl rfl rfl rfl rfl) (rP rfl (bJ tok rfl rfl rfl (by repeat (first | exact gV.z _ | apply gV.t))) (al 4 [ze,z0,z0] tok ?_))
 refine pa ?_
 refine bst tok (nx (aB ?_))
 obtain ⟨v17,h3,h2⟩:=bnd h2
 refine bI ⟨aC (aC (aC (aC (aC (aC (aC ((fun _ => .dead)) 1 (.ptr 3 0 1 0 0)) 3 (dI s12)) 4 (.ptr 4 0 1 0 0)) 36 (dL aT p0.Months)) 37 (dI (p0.Months.length:Int))) 38 (dI s12)) 58 (dB v17),lks [.no, .no, .no, .live [⟨29,4, .av [[dS p0.Name,(dL aT p0.Months),(dL aK p0.Rules),(dI p0.Week)]]⟩], .live [⟨62,3, .av [[dS v13.Name,(dI v13.Days),(dI v13.Leap)]]⟩]]⟩ ?_ ?_
 refine sr [0,1,2,3,4,5,6,7,8,9,10,11,12,13,14,15] (fa tok ?_)
 refine ld tok ?_
 obtain ⟨v14,hv14,h3⟩:=bnd h3
 refine rS rfl (aM 5 (uH hv14) rfl rfl rfl) (rP rfl (bW rfl) (pm ?_))
 refine dU (u:=47) h3 rfl (fun hc h3 => ?_) (fun hc h3 => ?_)
 iterate 4 refine k1 ?_
 refine pkt ?_
 refine pm ?_
 iterate 4 refine k1 ?_
 refine pkt (nx ?_)
 cases h3
 exact wk [0,1,2,3,4]
 refine fa1 tok ?_
 refine ld1 tok ?_
 obtain ⟨v15,hv15,h3⟩:=bnd h3
 refine rs rfl (w1 rfl rfl rfl) rfl (aM 5 (dX hv15) rfl rfl rfl) (rp rfl (w1 rfl rfl rfl) rfl (bW rfl) (pkf ?_))
 refine pm ?_
 refine dU (u:=53) h3 rfl (fun hc h3 => ?_) (fun hc h3 => ?_)
 iterate 4 refine k1 ?_
 refine pkt (nx ?_)
 cases h3
 exact wk [0,1,2,3,4]
 refine fa1 tok ?_
 refine ld1 tok ?_
 obtain ⟨v16,hv16,h3⟩:=bnd h3
 refine rs rfl (w1 rfl rfl rfl) rfl (aM 5 (dX hv16) rfl rfl rfl) (rp rfl (w1 rfl rfl rfl) rfl (bW rfl) (pkf (nx ?_)))
 cases h3
 exact wk [0,1,2,3,4]
 refine bM h2 rfl (fun hc h2 => ?_) (fun hc h2 => ?_)
 refine sq [0] (pa (nx (aA (aI ?_))))
 refine aX (aI ?_)
 cases h2
 refine dM ⟨_,rfl,fun e => ?_⟩
 subst e
 refine aX ?_
 replace h0:=eT h0
 refine aI ?_
 cases h0
 exact r0t 2 rfl
 refine sk (sq [0,1,2,3,4,5] (fa tok ?_))
 refine ld tok ?_
 refine pm ?_
 obtain ⟨hq18,h2⟩:=cO h2
 refine rP rfl (vS tok hq18 rfl (.inl ⟨rfl,rfl⟩) (.inr ⟨_,_,rfl,rfl⟩) rfl rfl rfl (fun _=>rfl)) (rP rfl (aMq rfl) ?_)
 obtain ⟨v19,hv19,h2⟩:=bnd h2
 refine rS rfl (eW 5 (gJ hv19) rfl rfl) (nx ?_)
 refine bM h2 rfl (fun hc h2 => ?_) (fun hc h2 => ?_)
 refine sq [0] (pa (nx (aA ?_)))
 refine aX (aI ?_)
 cases h2
 refine dM ⟨_,rfl,fun e => ?_⟩
 subst e
 refine aX ?_
 replace h0:=eT h0
 refine aI ?_
 cases h0
 exact r0t 2 rfl
 refine cX (bB (aG (sr [0,1] (rP rfl (bH rfl rfl) (pm (aY ?_))))))
 refine bS ?_
 cases h2
 refine ⟨_,rfl,?_⟩
 exact wk [0,1,2,3]
 refine bF (bT ?_)
 cases h2
 refine bU ⟨_,rfl,fun e => ?_⟩
 subst e
 refine aQ (aG ?_)
 refine ⟨_,rfl,?_⟩
 exact wk [0,1,2,3]
 rintro v20 rfl
 replace h0:=gS h0
 obtain ⟨v31x,h1,h0⟩:=bnd h0
 refine dH v31x (fun v31=>⟨aC ((fun _ => .dead)) 1 (.ptr 3 0 1 0 0),lks [.no, .no, .no, .live [⟨29,4, .av [[dS p0.Name,(dL aT p0.Months),(dL aK p0.Rules),(dI p0.Week)]]⟩]]⟩) ?_ ?_
 refine sq [0,1,2,3] (fa tok ?_)
 refine ld tok ?_
 refine rP rfl (aJ tok rfl rfl rfl) (pm (nx (aE ?_)))
 refine aZ (fun s26=>⟨aC (aC (aC (aC ((fun _ => .dead)) 1 (.ptr 3 0 1 0 0)) 67 (dL aK p0.Rules)) 68 (dI (p0.Rules.length:Int))) 69 (dI s26),lks [.no, .no, .no, .live [⟨29,4, .av [[dS p0.Name,(dL aT p0.Months),(dL aK p0.Rules),(dI p0.Week)]]⟩]]⟩) h1 ?_ (fun s26 y h2 => ?_)
 exact wk [0,1,2,3]
 refine sq [0] (rP rfl (bK rfl rfl) (nx (aB ?_)))
 refine bC h2 rfl (fun hc h2 => ?_) (fun hc h2 => ?_)
 refine sk (aB (aE (sq [0,1,2,3] ?_)))
 obtain ⟨v27,hv27,h2⟩:=bnd h2
 refine rP rfl (cE tok hv27 rfl rfl rfl rfl rfl rfl) (rP rfl (bJ tok rfl rfl rfl (by repeat (first | exact gV.z _ | apply gV.t))) (al 4 [z0,z0,(dB false)] tok ?_))
 refine bst tok (nx ?_)
 obtain ⟨v30,h3,h2⟩:=bnd h2
 refine bI ⟨aC (aC (aC (aC (aC ((fun _ => .dead)) 1 (.ptr 3 0 1 0 0)) 67 (dL aK p0.Rules)) 68 (dI (p0.Rules.length:Int))) 69 (dI s26)) 85 (dB v30),lks [.no, .no, .no, .live [⟨29,4, .av [[dS p0.Name,(dL aT p0.Months),(dL aK p0.Rules),(dI p0.Week)]]⟩]]⟩ ?_ ?_
 refine sr [0,1,2,3,4,5,6,7,8,9,10,11,12] (fa tok ?_)
 refine ld tok ?_
 obtain ⟨v28,hv28,h3⟩:=bnd h3
 refine rS rfl (aM 5 (dX hv28) rfl rfl rfl) (rP rfl (bW rfl) (pm ?_))
 refine dU (u:=77) h3 rfl (fun hc h3 => ?_) (fun hc h3 => ?_)
 iterate 7 refine k1 ?_
 refine pkt (nx ?_)
 cases h3
 exact wk [0,1,2,3]
 refine fa1 tok ?_
 refine ld1 tok ?_
 refine fa1 tok ?_
 refine ld1 tok ?_
 refine rp rfl (w1 rfl rfl rfl) rfl (gX rfl rfl) ?_
 obtain ⟨v29,hv29,h3⟩:=bnd h3
 refine rs rfl (w1 rfl rfl rfl) rfl (aM 5 (dX hv29) rfl rfl rfl) (rp rfl (w1 rfl rfl rfl) rfl (bW rfl) (pkf (nx ?_)))
 cases h3
 exact wk [0,1,2,3]
 refine bM h2 rfl (fun hc h2 => ?_) (fun hc h2 => ?_)
 refine sq [0] (pa (nx (aA ?_)))
 refine aX (aI ?_)
 cases h2
 refine dM ⟨_,rfl,fun e => ?_⟩
 subst e
 refine aX ?_
 replace h0:=eT h0
 refine aI ?_
 cases h0
 exact r0t 2 rfl
 refine cX (bB (aG (sr [0,1] (rP rfl (bH rfl rfl) (pm (aY ?_))))))
 refine bS ?_
 cases h2
 refine ⟨_,rfl,?_⟩
 exact wk [0,1,2,3]
 refine bF (bT ?_)
 cases h2
 refine bU ⟨_,rfl,fun e => ?_⟩
 subst e
 refine aQ (aG ?_)
 refine ⟨_,rfl,?_⟩
 exact wk [0,1,2,3]
 rintro v31 rfl
 replace h0:=gS h0
 refine sq [0,1,2,3,4] (fa tok ?_)
 refine ld tok ?_
 obtain ⟨v32,hv32,h0⟩:=bnd h0
 refine rS rfl (aM 4 (tY hv32) rfl rfl rfl) (rP rfl (gW rfl rfl) (pa (nx (aA ?_))))
 cases h0
 exact r0t 2 rfl
theorem sC {p0:Int} {r:Bool} (h0:iQ p0=some r):FnC Tryz.prog 35 [] [dI p0] [] (dB r):=by
 refine fi 5 tok Tryz.func35 ?_
 unfold iQ at h0
 refine sq [0] (pa (nx (sq [0,1,2] ?_)))
 refine pm ?_
 obtain ⟨v1,hv1,h0⟩:=bnd h0
 refine rS rfl (aM 3 (dX hv1) rfl rfl rfl) (pa (nx (aA ?_)))
 cases h0
 exact r0t 2 rfl
theorem aLz {p0:aF} {p1:Int} {r:Bool} (h0:vN p0 p1=some r):FnC Tryz.prog 71 [] [.agg [dS p0.Name,(dL aT p0.Months),(dL aK p0.Rules),(dI p0.Week)],(dI p1)] [] (dB r):=by
 refine fi 11 tok Tryz.func71 ?_
 unfold vN at h0
 refine sq [0,1] (bxx 3 ?_)
 refine pa (nx (sq [0,1,2,3,4,5,6] ?_))
 refine pm ?_
 refine fa tok ?_
 refine ld tok ?_
 refine rP rfl (aJ tok rfl rfl rfl) ?_
 obtain ⟨hq1,h0⟩:=cO h0
 refine rP rfl (tK rfl rfl hq1) ?_
 obtain ⟨v2,hv2,h0⟩:=bnd h0
 refine rS rfl (aM 4 (dX hv2) rfl rfl rfl) (pa (nx (aA ?_)))
 cases h0
 exact r0t 4 rfl
theorem aBi {p0:aF} {p1:Int} {r:Bool} (h0:lS p0 p1=some r):FnC Tryz.prog 73 [] [.agg [dS p0.Name,(dL aT p0.Months),(dL aK p0.Rules),(dI p0.Week)],(dI p1)] [] (dB r):=by
 refine fi 26 tok Tryz.func73 ?_
 unfold lS at h0
 refine sq [0,1] (bxx 3 ?_)
 refine pa (nx (sq [0] ?_))
 refine pa (nx ?_)
 obtain ⟨v9,h1,h0⟩:=bnd h0
 refine bI ⟨aC ((fun _ => .dead)) 5 (dB v9),lks [.no, .no, .no]⟩ ?_ ?_
 refine sq [0,1,2,3] (fa tok ?_)
 refine ld tok ?_
 refine rP rfl (aJ tok rfl rfl rfl) (pm (nx (aE ?_)))
 refine aZ (fun s5=>⟨aC (aC (aC (aC (aC ((fun _ => .dead)) 1 (dI p1)) 5 (dB s5.1)) 9 (dL aK p0.Rules)) 10 (dI (p0.Rules.length:Int))) 11 (dI s5.2),lks [.no, .no, .no]⟩) h1 ?_ (fun s5 y h2 => ?_)
 exact wk [0,1,2]
 refine sq [0] (rP rfl (bK rfl rfl) (nx (aB ?_)))
 refine bC h2 rfl (fun hc h2 => ?_) (fun hc h2 => ?_)
 refine sk ?_
 obtain ⟨v8,h3,h2⟩:=bnd h2
 refine bI ⟨aC (aC (aC (aC (aC ((fun _ => .dead)) 1 (dI p1)) 5 (dB v8)) 9 (dL aK p0.Rules)) 10 (dI (p0.Rules.length:Int))) 11 (dI s5.2),lks [.no, .no, .no]⟩ ?_ ?_
 refine aE (sq [0,1,2,3] ?_)
 obtain ⟨v6,hv6,h3⟩:=bnd h3
 refine rP rfl (cE tok hv6 rfl rfl rfl rfl rfl rfl) (rP rfl (bJ tok rfl rfl rfl (by repeat (first | exact gV.z _ | apply gV.t))) (al 3 [z0,z0,(dB false)] tok ?_))
 refine bst tok (nx (aB ?_))
 refine aH (is:=[0,1,2,3,4,5,6]) [0,0,2,7,0,16,63] follows (by kernel_rfl) (tpm ?_)
 refine tfa tok ?_
 refine tld tok ?_
 obtain ⟨hq7,h3⟩:=cO h3
 refine tP rfl (kU rfl rfl hq7) (tfa tok ?_)
 refine tld tok ?_
 refine tP rfl (iX rfl rfl) (bN ?_)
 refine ⟨by kernel_rfl,?_⟩
 refine aG ?_
 refine bC h3 rfl (fun hc h3 => ?_) (fun hc h3 => ?_)
 refine sr [0,1,2] (fa tok ?_)
 refine ld tok ?_
 refine pa (aY ?_)
 refine bB (aG ?_)
 cases h3
 exact wk [0,1,2]
 refine cX (bB (aG ?_))
 cases h3
 exact wk [0,1,2]
 refine sr [0,1] (rP rfl (bH rfl rfl) (pm (aY ?_)))
 refine bS ?_
 cases h2
 refine ⟨_,rfl,?_⟩
 exact wk [0,1,2]
 refine bF (bT ?_)
 cases h2
 refine bU ⟨_,rfl,fun e => ?_⟩
 subst e
 refine aQ (aG ?_)
 exact wk [0,1,2]
 refine sq [0,1] (pm ?_)
 refine pa (nx (aA ?_))
 cases h0
 exact r0t 4 rfl
theorem rZ {p0:aF} {p1:List Int} {r:Int} (h0:iO p0 p1=some r):FnC Tryz.prog 88 [] [.agg [dS p0.Name,(dL aT p0.Months),(dL aK p0.Rules),(dI p0.Week)],(dL cI p1)] [] (dI r):=by
 refine fi 18 tok Tryz.func88 ?_
 unfold iO at h0
 refine sq [0,1] (bxx 3 ?_)
 refine pa (nx (aB (sq [0,1,2,3,4,5,6] ?_)))
 refine pm ?_
 refine rP rfl (aJ tok rfl rfl rfl) (fa tok ?_)
 refine ld tok ?_
 refine rP rfl (aJ tok rfl rfl rfl) ?_
 obtain ⟨hq1,h0⟩:=cO h0
 refine rP rfl (kU rfl rfl hq1) (rP rfl (cQ rfl rfl) (nx ?_))
 refine bC h0 rfl (fun hc h0 => ?_) (fun hc h0 => ?_)
 refine sq [0] (pa (nx (aA (aI ?_))))
 cases h0
 exact r0t 4 rfl
 refine sk (sq [0,1,2,3,4,5,6] (pm ?_))
 refine rP rfl (aJ tok rfl rfl rfl) (fa tok ?_)
 refine ld tok ?_
 refine rP rfl (aJ tok rfl rfl rfl) ?_
 obtain ⟨hq2,h0⟩:=cO h0
 refine rP rfl (tK rfl rfl hq2) (pa (nx (aA ?_)))
 cases h0
 exact r0t 4 rfl
theorem wY {p0:aF} {p1:Bool} {p2:Int} {r:Int} (h0:jF p0 p1 p2=some r):FnC Tryz.prog 155 [] [.agg [dS p0.Name,(dL aT p0.Months),(dL aK p0.Rules),(dI p0.Week)],(dB p1),(dI p2)] [] (dI r):=by
 refine fi 22 tok Tryz.func155 ?_
 unfold jF at h0
 refine sq [0,1] (bxx 3 ?_)
 refine pa (nx (aB (sq [0] ?_)))
 refine pm (nx ?_)
 refine bM h0 rfl (fun hc h0 => ?_) (fun hc h0 => ?_)
 refine sq [0,1,2,3,4,5,6,7] (fa tok ?_)
 refine ld tok ?_
 refine pm ?_
 refine rP rfl (gX rfl rfl) ?_
 obtain ⟨v1,hv1,h0⟩:=bnd h0
 refine rP rfl (cE tok hv1 rfl rfl rfl rfl rfl rfl) (fr tok ?_)
 refine lr tok ?_
 refine pa (nx (aA (aI ?_)))
 cases h0
 exact r0t 6 rfl
 refine sk (sq [0,1,2,3,4,5,6,7] (fa tok ?_))
 refine ld tok ?_
 refine pm ?_
 refine rP rfl (gX rfl rfl) ?_
 obtain ⟨v2,hv2,h0⟩:=bnd h0
 refine rP rfl (cE tok hv2 rfl rfl rfl rfl rfl rfl) (fr tok ?_)
 refine lr tok ?_
 refine pa (nx (aA ?_))
 cases h0
 exact r0t 6 rfl
theorem aJs {p0:aF} {p1:List Int} {p2:Int} {r:List rT} (h0:qK p0 p1 p2=some r):FnC Tryz.prog 128 [] [.agg [dS p0.Name,(dL aT p0.Months),(dL aK p0.Rules),(dI p0.Week)],(dL cI p1),(dI p2)] [.live [⟨204,4, .data (List.map aDu r)⟩]] (.own 0 0 r.length):=by
 refine fi 57 tok Tryz.func128 ?_
 unfold qK at h0
 refine sq [0,1] (bxx 3 ?_)
 refine pa (nx (sq [0] ?_))
 refine pa (nx (sq [0,1,2,3] ?_))
 refine rL rfl (bA tok rfl rfl rfl rfl) (pm ?_)
 obtain ⟨v1,hv1,h0⟩:=bnd h0
 refine rS rfl (aM 4 (aBi hv1) rfl rfl rfl) (pa (nx (sq [0,1,2,3] ?_)))
 refine fa tok ?_
 refine ld tok ?_
 refine rP rfl (aJ tok rfl rfl rfl) (pa (nx (sq [0,1,2,3,4,5,6,7,8,9] ?_)))
 refine pm ?_
 refine pm ?_
 refine rL rfl (bA tok rfl rfl rfl rfl) (pm ?_)
 obtain ⟨v2,hv2,h0⟩:=bnd h0
 refine rS rfl (aM 4 (rZ hv2) rfl rfl rfl) ?_
 obtain ⟨hq3,h0⟩:=cO h0
 refine rP rfl (kU rfl rfl hq3) (pm ?_)
 refine rP rfl (eL rfl rfl) ?_
 obtain ⟨hq4,h0⟩:=cO h0
 refine rP rfl (vS tok hq4 rfl (.inr ⟨_,_,rfl,rfl⟩) (.inl ⟨rfl,rfl⟩) rfl rfl rfl (fun _=>rfl)) (pa (nx ?_))
 obtain ⟨v17,h1,h0⟩:=bnd h0
 refine bI ⟨aC ((fun _ => .dead)) 7 (.own 3 0 (v17).length),lks [.no, .no, .no, .live [⟨204,4, .data (List.map aDu v17)⟩]]⟩ ?_ ?_
 refine sq [0] (pa (nx (aE ?_)))
 refine aZ (fun s11=>⟨aC (aC (aC (aC (aC (aC (aC ((fun _ => .dead)) 2 (dI p2)) 3 (.ptr 3 0 1 0 0)) 7 (.own 4 0 (s11.2).length)) 8 (dB v1)) 9 (dI (p0.Months.length:Int))) 10 (dL cI (zS p1 (w64 ((p2.tmod v2)*(p0.Months.length:Int))) (p1.length:Int)))) 11 (dI s11.1),lks [.no, .no, .no, .live [⟨29,4, .av [[dS p0.Name,(dL aT p0.Months),(dL aK p0.Rules),(dI p0.Week)]]⟩], .live [⟨204,4, .data (List.map aDu s11.2)⟩]]⟩) h1 ?_ (fun s11 y h2 => ?_)
 refine mG.trans_ (cW 4 rfl 204 4 (d:=7) rfl) ?_
 exact wk [0,1,2,3,4]
 refine aB (sq [0,1,2] (pm ?_))
 refine pm ?_
 refine rP rfl (gW rfl rfl) (nx ?_)
 refine bC h2 rfl (fun hc h2 => ?_) (fun hc h2 => ?_)
 refine sk ?_
 obtain ⟨v16,h3,h2⟩:=bnd h2
 refine bI ⟨aC (aC (aC (aC (aC (aC (aC ((fun _ => .dead)) 2 (dI p2)) 3 (.ptr 3 0 1 0 0)) 7 (.own 4 0 (v16).length)) 8 (dB v1)) 9 (dI (p0.Months.length:Int))) 10 (dL cI (zS p1 (w64 ((p2.tmod v2)*(p0.Months.length:Int))) (p1.length:Int)))) 11 (dI s11.1),lks [.no, .no, .no, .live [⟨29,4, .av [[dS p0.Name,(dL aT p0.Months),(dL aK p0.Rules),(dI p0.Week)]]⟩], .live [⟨204,4, .data (List.map aDu v16)⟩]]⟩ ?_ ?_
 refine aE (sq [0,1,2,3,4] (rL rfl (bA tok rfl rfl rfl rfl) (pm ?_)))
 refine pm ?_
 obtain ⟨v12,hv12,h3⟩:=bnd h3
 refine rS rfl (aM 5 (wY hv12) rfl rfl rfl) (pa (nx (sq [0,1,2,3,4,5,6] ?_)))
 refine pm ?_
 refine pm ?_
 refine rP rfl (gX rfl rfl) ?_
 obtain ⟨v13,hv13,h3⟩:=bnd h3
 refine rP rfl (cE tok hv13 rfl rfl rfl rfl rfl rfl) (lr tok ?_)
 refine pm ?_
 refine rP rfl (cQ rfl rfl) (nx ?_)
 refine bC h3 rfl (fun hc h3 => ?_) (fun hc h3 => ?_)
 refine sr [0,1,2,3,4,5,6,7,8,9,10,11,12] (rP rfl (aL (r := .own _ _ _) rfl) ?_)
 iterate 4 refine pm ?_
 refine rP rfl (gX rfl rfl) ?_
 obtain ⟨v14,hv14,h3⟩:=bnd h3
 refine rP rfl (cE tok hv14 rfl rfl rfl rfl rfl rfl) (lr tok ?_)
 refine pm ?_
 refine rP rfl (pbl (C0:=[z0,z0,z0,z0]) tok rfl rfl rfl) (rS rfl (iZ tok aDu [(⟨p2,s11.1,v14,v12⟩:rT)] rfl rfl rfl (by repeat (first | exact Els.nil _ | apply Els.cons (cs:=[.d _]) rfl rfl rfl | apply Els.cons (cs:=_ :: _) rfl rfl rfl)) rfl rfl rfl (by repeat (first | exact cR.nil | (apply cR.cons; (repeat (first | exact eZ.nil | apply eZ.cons))))) rfl) ?_)
 obtain ⟨hq15,h3⟩:=cO h3
 refine rw1 rfl w0 rfl (eU tok hq15 rfl rfl rfl rfl rfl rfl rfl rfl rfl rfl rfl rfl (fun _=>rfl)) (rP rfl (aR (r := .own _ _ _) rfl) (aY (bB (aG ?_))))
 cases h3
 exact wk [0,1,2,3,4]
 refine cX (bB (aG ?_))
 cases h3
 exact wk [0,1,2,3,4]
 refine sr [0,1,2] (pm ?_)
 refine rP rfl (bH rfl rfl) (pa (aY ?_))
 refine bS ?_
 cases h2
 refine ⟨_,rfl,?_⟩
 exact wk [0,1,2,3,4]
 refine bF (bT ?_)
 cases h2
 refine bU ⟨_,rfl,fun e => ?_⟩
 subst e
 refine aQ (aG ?_)
 exact wk [0,1,2,4]
 refine sq [0,1] (rP rfl (aL (r := .own _ _ _) rfl) (rP rfl (aR (r := .own _ _ _) rfl) (nx (aA ?_))))
 cases h0
 exact dG (rs:=[.tmp 6]) [3] rfl
theorem aFm {p0:aF} {p1:List Int} {r:Int} (h0:mI p0 p1=some r):FnC Tryz.prog 74 [] [.agg [dS p0.Name,(dL aT p0.Months),(dL aK p0.Rules),(dI p0.Week)],(dL cI p1)] [] (dI r):=by
 refine fi 36 tok Tryz.func74 ?_
 unfold mI at h0
 refine sq [0,1] (bxx 3 ?_)
 refine pa (nx (aB ?_))
 refine aH (is:=[0,1,3,4,2,5,6,7]) [0,0,3,0,8,31,63,127] follows (by kernel_rfl) (cZ rfl w0 rfl (bA tok rfl rfl rfl rfl) rfl rfl rfl (tpm ?_))
 refine tfa tok ?_
 refine tld tok ?_
 obtain ⟨v1,hv1,h0⟩:=bnd h0
 refine jW rfl w0 rfl (cV 4 (rZ hv1) rfl rfl rfl) ?_
 obtain ⟨v2,hv2,h0⟩:=bnd h0
 refine jW rfl w0 rfl (cV 4 (tY hv2) rfl rfl rfl) (tpa ?_)
 refine tpa ?_
 refine bN ?_
 refine ⟨by kernel_rfl,?_⟩
 refine aG (sq [0,1,2,3,4,5,6,7] ?_)
 iterate 3 refine pm ?_
 obtain ⟨v3,hv3,h0⟩:=bnd h0
 refine rS rfl (aM 4 (aHq hv3) rfl rfl rfl) ?_
 obtain ⟨hq4,h0⟩:=cO h0
 refine rP rfl (tK rfl rfl hq4) (pm ?_)
 refine rP rfl (eL rfl rfl) (pa (nx (sq [0] ?_)))
 refine pa (nx ?_)
 obtain ⟨v9,h1,h0⟩:=bnd h0
 refine bI ⟨aC ((fun _ => .dead)) 8 (dI v9),lks [.no, .no, .no]⟩ ?_ ?_
 refine sq [0] (pa (nx (aE ?_)))
 refine aZ (fun s7=>⟨aC (aC (aC (aC (aC ((fun _ => .dead)) 1 (dL cI p1)) 2 (.ptr 3 0 1 0 0)) 7 (dI (w64 ((w64 (v1.tdiv v3))*v2)))) 8 (dI s7.1)) 9 (dI s7.2),lks [.no, .no, .no, .live [⟨29,4, .av [[dS p0.Name,(dL aT p0.Months),(dL aK p0.Rules),(dI p0.Week)]]⟩]]⟩) h1 ?_ (fun s7 y h2 => ?_)
 exact wk [0,1,2,3]
 refine aB (sq [0,1,2] (pm ?_))
 refine pm ?_
 refine rP rfl (bK rfl rfl) (nx ?_)
 refine bC h2 rfl (fun hc h2 => ?_) (fun hc h2 => ?_)
 refine sk (aB (aE (sr [0,1,2,3,4,5,6,7] (pm ?_))))
 refine rL rfl (bA tok rfl rfl rfl rfl) (pm ?_)
 refine pm ?_
 obtain ⟨v8,hv8,h2⟩:=bnd h2
 refine rS rfl (aM 4 (aJs hv8) rfl rfl rfl) (rL rfl (mF tok rfl rfl rfl rfl rfl) (rP rfl (bH rfl rfl) (pa (aY ?_))))
 refine bB (aG (sr [0,1,2] (pm ?_)))
 refine rP rfl (bH rfl rfl) (pa (aY ?_))
 refine bS ?_
 cases h2
 refine ⟨_,rfl,?_⟩
 exact wk [0,1,2,3]
 refine bF (bT ?_)
 cases h2
 refine bU ⟨_,rfl,fun e => ?_⟩
 subst e
 refine aQ (aG ?_)
 exact wk [0,1,2]
 refine sq [0,1] (pm ?_)
 refine pa (nx (aA ?_))
 cases h0
 exact r0t 4 rfl
theorem aLs {p0:aF} {p1:Int} {r:List Int × Int × Int} (h0:rX p0 p1=some r):FnC Tryz.prog 36 [] [.agg [dS p0.Name,(dL aT p0.Months),(dL aK p0.Rules),(dI p0.Week)],(dI p1)] [.live [⟨2,1, .data (List.map cI r.1)⟩]] (.tup [.own 0 0 r.1.length,(dI r.2.1),(dI r.2.2)]):=by
 refine fi 115 tok Tryz.func36 ?_
 unfold rX at h0
 refine sq [0,1,2,3] (bxx 3 ?_)
 iterate 3 refine pa ?_
 refine nx (aB (sq [0,1,2] (rL rfl (bA tok rfl rfl rfl rfl) ?_)))
 obtain ⟨v1,hv1,h0⟩:=bnd h0
 refine rS rfl (aM 4 (jC hv1) rfl rfl rfl) (rP rfl (bW rfl) (nx ?_))
 refine bM h0 rfl (fun hc h0 => ?_) (fun hc h0 => ?_)
 refine sq [0,1,2] ?_
 iterate 3 refine pa ?_
 refine nx (cN (cW 4 rfl 2 1 (d:=4) rfl) (aA (aI ?_)))
 cases h0
 exact dG (rs:=[.tmp 4, .tmp 5, .tmp 6]) [4] rfl
 refine sk (aB (sq [0,1,2,3] (rL rfl (bA tok rfl rfl rfl rfl) (pm ?_))))
 obtain ⟨v2,hv2,h0⟩:=bnd h0
 refine rS rfl (aM 4 (aLz hv2) rfl rfl rfl) (rP rfl (bW rfl) (nx ?_))
 refine bM h0 rfl (fun hc h0 => ?_) (fun hc h0 => ?_)
 refine sq [0,1,2] ?_
 iterate 3 refine pa ?_
 refine nx (cN (cW 4 rfl 2 1 (d:=4) rfl) (aA (aI ?_)))
 cases h0
 exact dG (rs:=[.tmp 4, .tmp 5, .tmp 6]) [4] rfl
 refine sk (sq [0,1,2,3] (fa tok ?_))
 refine ld tok ?_
 obtain ⟨v3,hv3,h0⟩:=bnd h0
 refine rS rfl (aM 4 (tY hv3) rfl rfl rfl) (pa (nx (sq [0,1,2,3,4,5,6,7] ?_)))
 iterate 3 refine pm ?_
 obtain ⟨v4,hv4,h0⟩:=bnd h0
 refine rS rfl (aM 4 (aHq hv4) rfl rfl rfl) ?_
 obtain ⟨hq5,h0⟩:=cO h0
 refine rP rfl (tK rfl rfl hq5) (pm ?_)
 refine rP rfl (eL rfl rfl) (pa (nx (aB ?_)))
 refine aH (is:=[0,2,1,4,3,5]) [0,1,0,4,3,31] follows (by kernel_rfl) (tpm ?_)
 refine tpm ?_
 obtain ⟨hq6,h0⟩:=cO h0
 refine aEt rfl w0 rfl rfl (fun hx hk=>aJ7 4 tok (c:=cI) 0 hq6 rfl rfl rfl rfl rfl rfl rfl rfl rfl rfl rfl hk rfl) (tP rfl (aR (r := .own _ _ _) rfl) ?_)
 obtain ⟨hq7,h0⟩:=cO h0
 refine aEt rfl w0 rfl rfl (fun hx hk=>aJ7 5 tok (c:=cI) 0 hq7 rfl rfl rfl rfl rfl rfl rfl rfl rfl rfl rfl hk rfl) (tP rfl (aR (r := .own _ _ _) rfl) (bN ?_))
 refine ⟨by kernel_rfl,?_⟩
 refine aG ?_
 obtain ⟨v26,h1,h0⟩:=bnd h0
 refine bI ⟨aC (aC (aC ((fun _ => .dead)) 2 (.ptr 3 0 1 0 0)) 9 (.own 4 0 (v26.1).length)) 10 (.own 5 0 (v26.2).length),lks [.no, .no, .no, .live [⟨29,4, .av [[dS p0.Name,(dL aT p0.Months),(dL aK p0.Rules),(dI p0.Week)]]⟩], .live [⟨2,1, .data (List.map cI v26.1)⟩], .live [⟨2,1, .data (List.map cI v26.2)⟩]]⟩ ?_ ?_
 refine sq [0] (pa (nx (aE ?_)))
 refine aZ (fun s17=>⟨aC (aC (aC (aC (aC (aC ((fun _ => .dead)) 1 (dI p1)) 2 (.ptr 3 0 1 0 0)) 8 (dI (w64 ((w64 (p1.tdiv v4))*v3)))) 9 (.own 4 0 (s17.2.1).length)) 10 (.own 5 0 (s17.2.2).length)) 11 (dI s17.1),lks [.no, .no, .no, .live [⟨29,4, .av [[dS p0.Name,(dL aT p0.Months),(dL aK p0.Rules),(dI p0.Week)]]⟩], .live [⟨2,1, .data (List.map cI s17.2.1)⟩], .live [⟨2,1, .data (List.map cI s17.2.2)⟩]]⟩) h1 ?_ (fun s17 y h2 => ?_)
 exact wk [0,1,2,3,4,5]
 refine aB (sq [0,1,2] (pm ?_))
 refine pm ?_
 refine rP rfl (bK rfl rfl) (nx ?_)
 refine bC h2 rfl (fun hc h2 => ?_) (fun hc h2 => ?_)
 refine sk ?_
 obtain ⟨v25,h3,h2⟩:=bnd h2
 refine bI ⟨aC (aC (aC (aC (aC (aC ((fun _ => .dead)) 1 (dI p1)) 2 (.ptr 3 0 1 0 0)) 8 (dI (w64 ((w64 (p1.tdiv v4))*v3)))) 9 (.own 4 0 (v25.1).length)) 10 (.own 5 0 (v25.2).length)) 11 (dI s17.1),lks [.no, .no, .no, .live [⟨29,4, .av [[dS p0.Name,(dL aT p0.Months),(dL aK p0.Rules),(dI p0.Week)]]⟩], .live [⟨2,1, .data (List.map cI v25.1)⟩], .live [⟨2,1, .data (List.map cI v25.2)⟩]]⟩ ?_ ?_
 refine aE (sq [0,1,2] (rL rfl (bA tok rfl rfl rfl rfl) (pm ?_)))
 obtain ⟨v18,hv18,h3⟩:=bnd h3
 refine rS rfl (aM 6 (aBi hv18) rfl rfl rfl) (nx ?_)
 refine bM h3 rfl (fun hc h3 => ?_) (fun hc h3 => ?_)
 refine sr [0,1,2,3,4,5,6,7,8] (rP rfl (aL (r := .own _ _ _) rfl) (pm ?_))
 refine pm ?_
 obtain ⟨hq19,h3⟩:=cO h3
 refine rP rfl (kU rfl rfl hq19) ?_
 obtain ⟨v20,hv20,h3⟩:=bnd h3
 refine rL rfl (fB tok hv20 rfl rfl rfl rfl rfl rfl rfl rfl) (rL rfl (jK tok (dP hv20).2.1 rfl rfl rfl rfl rfl rfl) (rP rfl (bH rfl rfl) ?_))
 obtain ⟨v21,hv21,h3⟩:=bnd h3
 refine rL rfl (fB tok hv21 rfl rfl rfl rfl rfl rfl rfl rfl) (rw0 rfl w0 (sL (cs:=[.d _]) tok (w64 (v20+1)) (dP hv21).2.1 rfl rfl rfl rfl rfl rfl rfl rfl) (aY (bB (aG ?_))))
 cases h3
 exact wk [0,1,2,3,4,5]
 refine sr [0,1,2,3,4,5,6,7,8] (rP rfl (aL (r := .own _ _ _) rfl) (pm ?_))
 refine pm ?_
 obtain ⟨hq22,h3⟩:=cO h3
 refine rP rfl (kU rfl rfl hq22) ?_
 obtain ⟨v23,hv23,h3⟩:=bnd h3
 refine rL rfl (fB tok hv23 rfl rfl rfl rfl rfl rfl rfl rfl) (rL rfl (jK tok (dP hv23).2.1 rfl rfl rfl rfl rfl rfl) (rP rfl (bH rfl rfl) ?_))
 obtain ⟨v24,hv24,h3⟩:=bnd h3
 refine rL rfl (fB tok hv24 rfl rfl rfl rfl rfl rfl rfl rfl) (rw0 rfl w0 (sL (cs:=[.d _]) tok (w64 (v23+1)) (dP hv24).2.1 rfl rfl rfl rfl rfl rfl rfl rfl) (aY (bB (aG ?_))))
 cases h3
 exact wk [0,1,2,3,4,5]
 refine sr [0,1,2] (pm ?_)
 refine rP rfl (bH rfl rfl) (pa (aY ?_))
 refine bS ?_
 cases h2
 refine ⟨_,rfl,?_⟩
 exact wk [0,1,2,3,4,5]
 refine bF (bT ?_)
 cases h2
 refine bU ⟨_,rfl,fun e => ?_⟩
 subst e
 refine aQ (aG ?_)
 exact wk [0,1,2,3,4,5]
 refine sq [0] (pa (nx ?_))
 obtain ⟨v67,h1,h0⟩:=bnd h0
 refine bI ⟨aC (aC ((fun _ => .dead)) 2 (.ptr 3 0 1 0 0)) 12 (.own 4 0 (v67).length),lks [.no, .no, .no, .live [⟨29,4, .av [[dS p0.Name,(dL aT p0.Months),(dL aK p0.Rules),(dI p0.Week)]]⟩], .live [⟨2,1, .data (List.map cI v67)⟩]]⟩ ?_ ?_
 refine sq [0,1,2] (rP rfl (aL (r := .own _ _ _) rfl) (rL rfl (mF tok rfl rfl rfl rfl rfl) (pm (nx (aE ?_)))))
 refine aZ (fun s47=>⟨aC (aC (aC (aC (aC (aC ((fun _ => .dead)) 2 (.ptr 3 0 1 0 0)) 9 (.own 4 0 (v26.1).length)) 10 (.own 5 0 (v26.2).length)) 12 (.own 6 0 (s47.2).length)) 63 (dI (v26.1.length:Int))) 64 (dI s47.1),lks [.no, .no, .no, .live [⟨29,4, .av [[dS p0.Name,(dL aT p0.Months),(dL aK p0.Rules),(dI p0.Week)]]⟩], .live [⟨2,1, .data (List.map cI v26.1)⟩], .live [⟨2,1, .data (List.map cI v26.2)⟩], .live [⟨2,1, .data (List.map cI s47.2)⟩]]⟩) h1 ?_ (fun s47 y h2 => ?_)
 refine mG.trans_ (cW 6 rfl 2 1 (d:=12) rfl) ?_
 exact wk [0,1,2,3,4,5,6]
 refine sq [0] (rP rfl (bK rfl rfl) (nx (aB ?_)))
 refine bC h2 rfl (fun hc h2 => ?_) (fun hc h2 => ?_)
 refine sk ?_
 obtain ⟨v66,h3,h2⟩:=bnd h2
 refine bI ⟨aC (aC (aC (aC (aC (aC ((fun _ => .dead)) 2 (.ptr 3 0 1 0 0)) 9 (.own 4 0 (v26.1).length)) 10 (.own 5 0 (v26.2).length)) 12 (.own 6 0 (v66).length)) 63 (dI (v26.1.length:Int))) 64 (dI s47.1),lks [.no, .no, .no, .live [⟨29,4, .av [[dS p0.Name,(dL aT p0.Months),(dL aK p0.Rules),(dI p0.Week)]]⟩], .live [⟨2,1, .data (List.map cI v26.1)⟩], .live [⟨2,1, .data (List.map cI v26.2)⟩], .live [⟨2,1, .data (List.map cI v66)⟩]]⟩ ?_ ?_
 refine aE (sq [0,1] (pm ?_))
 refine pa (nx (sq [0,1,2,3] ?_))
 refine fa tok ?_
 refine ld tok ?_
 refine rP rfl (aJ tok rfl rfl rfl) (pm (nx (aE ?_)))
 refine aZ (fun s57=>⟨aC (aC (aC (aC (aC (aC (aC (aC (aC (aC ((fun _ => .dead)) 2 (.ptr 3 0 1 0 0)) 9 (.own 4 0 (v26.1).length)) 10 (.own 5 0 (v26.2).length)) 12 (.own 6 0 (s57.2).length)) 13 (dI s47.1)) 63 (dI (v26.1.length:Int))) 64 (dI s47.1)) 68 (dL aT p0.Months)) 69 (dI (p0.Months.length:Int))) 70 (dI s57.1),lks [.no, .no, .no, .live [⟨29,4, .av [[dS p0.Name,(dL aT p0.Months),(dL aK p0.Rules),(dI p0.Week)]]⟩], .live [⟨2,1, .data (List.map cI v26.1)⟩], .live [⟨2,1, .data (List.map cI v26.2)⟩], .live [⟨2,1, .data (List.map cI s57.2)⟩]]⟩) h3 ?_ (fun s57 y h4 => ?_)
 exact wk [0,1,2,3,4,5,6]
 refine sq [0] (rP rfl (bK rfl rfl) (nx (aB ?_)))
 refine bC h4 rfl (fun hc h4 => ?_) (fun hc h4 => ?_)
 refine sk (aB (aE (sq [0,1,2,3] ?_)))
 obtain ⟨v58,hv58,h4⟩:=bnd h4
 refine rP rfl (cE tok hv58 rfl rfl rfl rfl rfl rfl) (rP rfl (bJ tok rfl rfl rfl (by repeat (first | exact gV.z _ | apply gV.t))) (al 7 [ze,z0,z0] tok ?_))
 refine bst tok (nx (sq [0,1,2] ?_))
 refine fa tok ?_
 refine ld tok ?_
 refine pa (nx ?_)
 obtain ⟨v64,h5,h4⟩:=bnd h4
 refine bI ⟨aC (aC (aC (aC (aC (aC (aC (aC (aC (aC (aC ((fun _ => .dead)) 2 (.ptr 3 0 1 0 0)) 9 (.own 4 0 (v26.1).length)) 10 (.own 5 0 (v26.2).length)) 12 (.own 6 0 (s57.2).length)) 13 (dI s47.1)) 16 (dI v64)) 63 (dI (v26.1.length:Int))) 64 (dI s47.1)) 68 (dL aT p0.Months)) 69 (dI (p0.Months.length:Int))) 70 (dI s57.1),lks [.no, .no, .no, .live [⟨29,4, .av [[dS p0.Name,(dL aT p0.Months),(dL aK p0.Rules),(dI p0.Week)]]⟩], .live [⟨2,1, .data (List.map cI v26.1)⟩], .live [⟨2,1, .data (List.map cI v26.2)⟩], .live [⟨2,1, .data (List.map cI s57.2)⟩]]⟩ ?_ ?_
 obtain ⟨v63,h6,h5⟩:=bnd h5
 refine bI ⟨aC (aC (aC (aC (aC (aC (aC (aC (aC (aC (aC (aC (aC ((fun _ => .dead)) 2 (.ptr 3 0 1 0 0)) 9 (.own 4 0 (v26.1).length)) 10 (.own 5 0 (v26.2).length)) 12 (.own 6 0 (s57.2).length)) 13 (dI s47.1)) 15 (.ptr 7 0 1 0 0)) 16 (dI v58.Days)) 63 (dI (v26.1.length:Int))) 64 (dI s47.1)) 68 (dL aT p0.Months)) 69 (dI (p0.Months.length:Int))) 70 (dI s57.1)) 102 (dB v63),lks [.no, .no, .no, .live [⟨29,4, .av [[dS p0.Name,(dL aT p0.Months),(dL aK p0.Rules),(dI p0.Week)]]⟩], .live [⟨2,1, .data (List.map cI v26.1)⟩], .live [⟨2,1, .data (List.map cI v26.2)⟩], .live [⟨2,1, .data (List.map cI s57.2)⟩], .live [⟨62,3, .av [[dS v58.Name,(dI v58.Days),(dI v58.Leap)]]⟩]]⟩ ?_ ?_
 refine aH (is:=[0,1,2,3,4,5,6,7,8,9,10,11,12,13,14,15,16,17,18,19,20,21,22,23,24,25,26]) [0,0,3,7,0,0,48,112,255,511,1023,1023,4095,8191,1023,1023,50175,115711,262143,524287,1048575,2097151,1048575,5242879,16777215,33554431,67108863] follows (by kernel_rfl) (tP rfl (aL (r := .own _ _ _) rfl) (tpm ?_))
 obtain ⟨v59,hv59,h6⟩:=bnd h6
 refine cZ rfl w0 rfl (fB tok hv59 rfl rfl rfl rfl rfl rfl rfl rfl) rfl rfl rfl (cZ rfl w0 rfl (jK tok (dP hv59).2.1 rfl rfl rfl rfl rfl rfl) rfl rfl rfl (tP rfl (aL (r := .own _ _ _) rfl) (tpm ?_)))
 obtain ⟨v60,hv60,h6⟩:=bnd h6
 refine cZ rfl w0 rfl (fB tok hv60 rfl rfl rfl rfl rfl rfl rfl rfl) rfl rfl rfl (cZ rfl w0 rfl (jK tok (dP hv60).2.1 rfl rfl rfl rfl rfl rfl) rfl rfl rfl (tP rfl (gT rfl rfl) (tpm ?_)))
 refine aKh (u:=85) h6 rfl (fun hc h6 => ?_) (fun hc h6 => ?_)
 iterate 16 refine k2 ?_
 refine aBv ?_
 refine bN ?_
 refine ⟨by kernel_rfl,?_⟩
 refine aG ?_
 cases h6
 exact wk [0,1,2,3,4,5,6,7]
 refine rF rfl (w1 rfl rfl rfl) rfl (aL (r := .own _ _ _) rfl) (aIv ?_)
 obtain ⟨v61,hv61,h6⟩:=bnd h6
 refine cZ rfl (w1 rfl rfl rfl) rfl (fB tok hv61 rfl rfl rfl rfl rfl rfl rfl rfl) rfl rfl rfl (cZ rfl (w1 rfl rfl rfl) rfl (jK tok (dP hv61).2.1 rfl rfl rfl rfl rfl rfl) rfl rfl rfl (rF rfl (w1 rfl rfl rfl) rfl (aL (r := .own _ _ _) rfl) (aIv ?_)))
 obtain ⟨v62,hv62,h6⟩:=bnd h6
 refine cZ rfl (w1 rfl rfl rfl) rfl (fB tok hv62 rfl rfl rfl rfl rfl rfl rfl rfl) rfl rfl rfl (cZ rfl (w1 rfl rfl rfl) rfl (jK tok (dP hv62).2.1 rfl rfl rfl rfl rfl rfl) rfl rfl rfl (rF rfl (w1 rfl rfl rfl) rfl (iX rfl rfl) (aIv ?_)))
 refine aKh (u:=95) h6 rfl (fun hc h6 => ?_) (fun hc h6 => ?_)
 refine cZ rfl (w1 rfl rfl rfl) rfl (yO tok rfl rfl rfl rfl rfl rfl rfl) rfl rfl rfl (cZ rfl (w1 rfl rfl rfl) rfl (rG tok rfl rfl rfl rfl rfl) rfl rfl rfl (cZ rfl (w1 rfl rfl rfl) rfl (yO tok rfl rfl rfl rfl rfl rfl rfl) rfl rfl rfl (cZ rfl (w1 rfl rfl rfl) rfl (rG tok rfl rfl rfl rfl rfl) rfl rfl rfl (rF rfl (w1 rfl rfl rfl) rfl (bK rfl rfl) (aYt ?_)))))
 refine aBu ?_
 refine bN ?_
 refine ⟨by kernel_rfl,?_⟩
 refine aG ?_
 cases h6
 exact wk [0,1,2,3,4,5,6,7]
 iterate 5 refine k2 ?_
 refine aYs ?_
 refine aBu ?_
 refine bN ?_
 refine ⟨by kernel_rfl,?_⟩
 refine aG ?_
 cases h6
 exact wk [0,1,2,3,4,5,6,7]
 refine bM h5 rfl (fun hc h5 => ?_) (fun hc h5 => ?_)
 refine sr [0,1,2] (fa tok ?_)
 refine ld tok ?_
 refine pa (nx ?_)
 cases h5
 exact wk [0,1,2,3,4,5,6]
 refine sk ?_
 cases h5
 exact wk [0,1,2,3,4,5,6]
 refine sr [0,1,2,3,4] (rP rfl (aL (r := .own _ _ _) rfl) (pm ?_))
 refine rS rfl (iZ tok cI [v64] rfl rfl rfl (by repeat (first | exact Els.nil _ | apply Els.cons (cs:=[.d _]) rfl rfl rfl | apply Els.cons (cs:=_ :: _) rfl rfl rfl)) rfl rfl rfl (by repeat (first | exact cR.nil | (apply cR.cons; (repeat (first | exact eZ.nil | apply eZ.cons))))) rfl) ?_
 obtain ⟨hq65,h4⟩:=cO h4
 refine rw1 rfl w0 rfl (eU tok hq65 rfl rfl rfl rfl rfl rfl rfl rfl rfl rfl rfl rfl (fun _=>rfl)) (rP rfl (aR (r := .own _ _ _) rfl) (aY (bB (aG (sr [0,1] (rP rfl (bH rfl rfl) (pm (aY ?_))))))))
 refine bS ?_
 cases h4
 refine ⟨_,rfl,?_⟩
 exact wk [0,1,2,3,4,5,6]
 refine bF (bT ?_)
 cases h4
 refine bU ⟨_,rfl,fun e => ?_⟩
 subst e
 refine aQ ?_
 refine bB (aG ?_)
 exact wk [0,1,2,3,4,5,6]
 refine sr [0,1] (rP rfl (bH rfl rfl) (pm (aY ?_)))
 refine bS ?_
 cases h2
 refine ⟨_,rfl,?_⟩
 exact wk [0,1,2,3,4,5,6]
 refine bF (bT ?_)
 cases h2
 refine bU ⟨_,rfl,fun e => ?_⟩
 subst e
 refine aQ (aG ?_)
 exact wk [0,1,2,3,6]
 refine sq [0,1,2,3,4,5,6] (rP rfl (aL (r := .own _ _ _) rfl) (rL rfl (bA tok rfl rfl rfl rfl) (rP rfl (aL (r := .own _ _ _) rfl) ?_)))
 obtain ⟨v68,hv68,h0⟩:=bnd h0
 refine rS rfl (eW 5 (aFm hv68) rfl rfl) (rP rfl (aR (r := .own _ _ _) rfl) (pa ?_))
 refine pa (nx (aA ?_))
 cases h0
 exact dG (rs:=[.tmp 4, .tmp 5, .tmp 6]) [4] rfl
theorem aAe {p0:Int} {r:Int} (h0:lT p0=some r):FnC Tryz.prog 129 [] [dI p0] [] (.d (.v (.int .u64 r))):=by
 refine fi 10 tok Tryz.func129 ?_
 unfold lT at h0
 refine sq [0] (pa (nx (aB (sq [0,1] ?_))))
 refine pm ?_
 refine rP rfl (bK rfl rfl) (nx ?_)
 refine bC h0 rfl (fun hc h0 => ?_) (fun hc h0 => ?_)
 refine sq [0,1,2,3] (pm ?_)
 refine rP rfl (aKe tok rfl rfl rfl rfl rfl) (rP rfl (aRu rfl) (pa (nx (aA (aI ?_)))))
 cases h0
 exact r0t 2 rfl
 refine sk (sq [0,1,2] (pm ?_))
 refine rP rfl (aKe tok rfl rfl rfl rfl rfl) (pa (nx (aA ?_)))
 cases h0
 exact r0t 2 rfl
theorem aL0 {p0:Int} {p1:Int} {r:aD × Bool} (h0:sB p0 p1=some r):FnC Tryz.prog 75 [] [dI p0,(dI p1)] [] (.tup [.agg [dI r.1.Num,(dI r.1.Den)],(dB r.2)]):=by
 refine fi 51 tok Tryz.func75 ?_
 unfold sB at h0
 refine sq [0,1] (al 3 [z0,z0] tok ?_)
 refine pa (nx (sq [0,1,2,3,4,5] ?_))
 refine pm ?_
 obtain ⟨v1,hv1,h0⟩:=bnd h0
 refine rS rfl (aM 4 (aAe hv1) rfl rfl rfl) (pm ?_)
 obtain ⟨v2,hv2,h0⟩:=bnd h0
 refine rS rfl (aM 4 (aAe hv2) rfl rfl rfl) (pa ?_)
 refine pa (nx (sq [0,1,2,3] ?_))
 refine pm ?_
 refine pm ?_
 refine pa ?_
 refine pa (nx ?_)
 obtain ⟨v7,h1,h0⟩:=bnd h0
 refine bI ⟨aC (aC (aC (aC (aC (aC ((fun _ => .dead)) 0 (dI p0)) 1 (dI p1)) 4 (.ptr 3 0 1 0 0)) 6 (.d (.v (.int .u64 v1)))) 7 (.d (.v (.int .u64 v2)))) 8 (.d (.v (.int .u64 v7))),lks [.no, .no, .no, .live [⟨75,2, .av [[z0,z0]]⟩]]⟩ ?_ ?_
 refine aE ?_
 refine aZ (fun s5=>⟨aC (aC (aC (aC (aC (aC (aC ((fun _ => .dead)) 0 (dI p0)) 1 (dI p1)) 4 (.ptr 3 0 1 0 0)) 6 (.d (.v (.int .u64 v1)))) 7 (.d (.v (.int .u64 v2)))) 8 (.d (.v (.int .u64 s5.1)))) 9 (.d (.v (.int .u64 s5.2))),lks [.no, .no, .no, .live [⟨75,2, .av [[z0,z0]]⟩]]⟩) h1 ?_ (fun s5 y h2 => ?_)
 exact wk [0,1,2,3]
 refine aB (sq [0,1] (pm ?_))
 refine rP rfl (cQ rfl rfl) (nx ?_)
 refine bC h2 rfl (fun hc h2 => ?_) (fun hc h2 => ?_)
 refine sk (aE (aH (is:=[0,1,2,3,4,5]) [0,0,0,6,3,31] follows (by kernel_rfl) ?_))
 iterate 3 refine tpm ?_
 obtain ⟨hq6,h2⟩:=cO h2
 refine tP rfl (kU rfl rfl hq6) (tpa ?_)
 refine tpa ?_
 refine bN ?_
 refine ⟨by kernel_rfl,?_⟩
 refine bB (bS ?_)
 cases h2
 refine ⟨_,rfl,?_⟩
 exact wk [0,1,2,3]
 refine bF (bT ?_)
 cases h2
 refine bU ⟨_,rfl,fun e => ?_⟩
 subst e
 refine aQ (aG ?_)
 exact wk [0,1,2,3]
 refine aB (aH (is:=[0,1,2,3,4,5,6,7]) [0,0,3,0,0,24,7,127] follows (by kernel_rfl) (tpm ?_))
 refine tpm ?_
 obtain ⟨hq8,h0⟩:=cO h0
 refine tP rfl (aEq rfl rfl hq8) (tpm ?_)
 refine tpm ?_
 obtain ⟨hq9,h0⟩:=cO h0
 refine tP rfl (aEq rfl rfl hq9) (tpa ?_)
 refine tpa ?_
 refine bN ?_
 refine ⟨by kernel_rfl,?_⟩
 refine aG (aB ?_)
 obtain ⟨v10,h1,h0⟩:=bnd h0
 refine bI ⟨aC (aC (aC (aC (aC (aC ((fun _ => .dead)) 0 (dI p0)) 1 (dI p1)) 4 (.ptr 3 0 1 0 0)) 6 (.d (.v (.int .u64 (IntKind.u64.wrap (v1.tdiv v7)))))) 7 (.d (.v (.int .u64 (IntKind.u64.wrap (v2.tdiv v7)))))) 34 (dB v10),lks [.no, .no, .no, .live [⟨75,2, .av [[z0,z0]]⟩]]⟩ ?_ ?_
 refine sr [0,1,2,3,4,5] (pm ?_)
 refine rP rfl (gT rfl rfl) (pm ?_)
 refine iT (u:=31) h1 rfl (fun hc h1 => ?_) (fun hc h1 => ?_)
 refine k1 ?_
 refine k1 ?_
 refine pkt (nx ?_)
 cases h1
 exact wk [0,1,2,3]
 refine pm1 ?_
 refine rp rfl (w1 rfl rfl rfl) rfl (gT rfl rfl) (pkf (nx ?_))
 cases h1
 exact wk [0,1,2,3]
 refine bM h0 rfl (fun hc h0 => ?_) (fun hc h0 => ?_)
 refine sq [0,1,2] (rP rfl (pbl (C0:=[z0,z0]) tok rfl rfl rfl) (bst tok ?_))
 refine pa (nx (aA (aI ?_)))
 cases h0
 exact gU (rs:=[.cell 4 75, .tmp 5]) rfl
 refine sk (sq [0,1,2,3,4,5,6] (pm ?_))
 refine rP rfl (aRv tok rfl rfl rfl rfl rfl) (pm ?_)
 refine rP rfl (aRv tok rfl rfl rfl rfl rfl) (rP rfl (pbl (C0:=[z0,z0]) tok rfl rfl rfl) (al 4 [z0,z0] tok ?_))
 refine bst tok (nx ?_)
 obtain ⟨v11,h1,h0⟩:=bnd h0
 refine bI ⟨aC (aC ((fun _ => .dead)) 4 (.ptr 3 0 1 0 0)) 10 (.ptr 4 0 1 0 0),lks [.no, .no, .no, .live [⟨75,2, .av [[z0,z0]]⟩], .live [⟨75,2, .av [[dI v11.Num,(dI v11.Den)]]⟩]]⟩ ?_ ?_
 refine sq [0,1,2,3,4] (pm ?_)
 refine rP rfl (bK rfl rfl) (pm ?_)
 refine rP rfl (bK rfl rfl) (rP rfl (aIa tok rfl rfl rfl rfl) (nx ?_))
 refine bM h1 rfl (fun hc h1 => ?_) (fun hc h1 => ?_)
 refine sr [0,1,2,3,4] (fa tok ?_)
 refine ld tok ?_
 refine rP rfl (wH rfl) (fa tok ?_)
 refine bs1 tok (nx ?_)
 cases h1
 exact wk [0,1,2,3,4]
 refine sk ?_
 cases h1
 exact wk [0,1,2,3,4]
 refine sq [0,1,2] (rL rfl (bA tok rfl rfl rfl rfl) (bst tok ?_))
 refine pa (nx (aA ?_))
 cases h0
 exact gU (rs:=[.cell 4 75, .tmp 5]) rfl
theorem oA {p0:Int} {p1:Int} {r:aD × Int} (h0:eS p0 p1=some r):FnC Tryz.prog 37 [] [dI p0,(dI p1)] [] (.tup [.agg [dI r.1.Num,(dI r.1.Den)],(dI r.2)]):=by
 refine fi 21 tok Tryz.func37 ?_
 unfold eS at h0
 refine sq [0,1] (al 3 [z0,z0] tok ?_)
 refine pa (nx (aB (sq [0,1] ?_)))
 refine pm ?_
 refine rP rfl (iX rfl rfl) (nx ?_)
 refine bC h0 rfl (fun hc h0 => ?_) (fun hc h0 => ?_)
 refine sq [0,1,2] (rP rfl (pbl (C0:=[z0,z0]) tok rfl rfl rfl) (bst tok ?_))
 refine pa (nx (aA (aI ?_)))
 cases h0
 exact gU (rs:=[.cell 4 75, .tmp 5]) rfl
 refine sk (sq [0,1,2,3,4,5,6,7,8] (pm ?_))
 refine pm ?_
 obtain ⟨v1,hv1,h0⟩:=bnd h0
 refine rS rfl (aM 4 (aL0 hv1) rfl rfl rfl) (rP rfl (aL (r := .tup _) rfl) (rP rfl (aN rfl rfl) (rP rfl (aN rfl rfl) (al 4 [z0,z0] tok ?_))))
 refine bst tok ?_
 refine pa (nx (aB (sq [0,1] ?_)))
 refine pm ?_
 refine rP rfl (bW rfl) (nx ?_)
 refine bM h0 rfl (fun hc h0 => ?_) (fun hc h0 => ?_)
 refine sq [0,1,2] (rP rfl (pbl (C0:=[z0,z0]) tok rfl rfl rfl) (bst tok ?_))
 refine pa (nx (aA (aI ?_)))
 cases h0
 exact gU (rs:=[.cell 4 75, .tmp 5]) rfl
 refine sk (sq [0,1,2] (rL rfl (bA tok rfl rfl rfl rfl) (bst tok ?_)))
 refine pa (nx (aA ?_))
 cases h0
 exact gU (rs:=[.cell 4 75, .tmp 5]) rfl
theorem kO {p0:aD} {r:Bool} (h0:fD p0=some r):FnC Tryz.prog 130 [] [.agg [dI p0.Num,(dI p0.Den)]] [] (dB r):=by
 refine fi 19 tok Tryz.func130 ?_
 unfold fD at h0
 refine sq [0,1] (bxx 3 ?_)
 refine pa (nx (sq [0,1,2,3,4,5,6,7,8,9,10,11,12,13,14,15,16] ?_))
 refine fa tok ?_
 refine ld tok ?_
 obtain ⟨v1,hv1,h0⟩:=bnd h0
 refine rS rfl (aM 4 (dX hv1) rfl rfl rfl) (pm ?_)
 refine dU (u:=6) h0 rfl (fun hc h0 => ?_) (fun hc h0 => ?_)
 refine fa1 tok ?_
 refine ld1 tok ?_
 obtain ⟨v2,hv2,h0⟩:=bnd h0
 refine rs rfl (w1 rfl rfl rfl) rfl (aM 4 (dX hv2) rfl rfl rfl) (pkt ?_)
 refine pm ?_
 refine dU (u:=11) h0 rfl (fun hc h0 => ?_) (fun hc h0 => ?_)
 refine fa1 tok ?_
 refine ld1 tok ?_
 refine fa1 tok ?_
 refine ld1 tok ?_
 obtain ⟨v3,hv3,h0⟩:=bnd h0
 refine rs rfl (w1 rfl rfl rfl) rfl (aM 4 (aHq hv3) rfl rfl rfl) (rp rfl (w1 rfl rfl rfl) rfl (iX rfl rfl) (pkt ?_))
 refine pa (nx (aA ?_))
 cases h0
 exact r0t 2 rfl
 iterate 6 refine k1 ?_
 refine pkf ?_
 refine pa (nx (aA ?_))
 cases h0
 exact r0t 2 rfl
 iterate 3 refine k1 ?_
 refine pkf ?_
 refine pm ?_
 iterate 6 refine k1 ?_
 refine pkf ?_
 refine pa (nx (aA ?_))
 cases h0
 exact r0t 2 rfl
theorem aAf {p0:Int} {p1:Int} {r:Bool} (h0:rI p0 p1=some r):FnC Tryz.prog 179 [] [dI p0,(dI p1)] [] (dB r):=by
 refine fi 22 tok Tryz.func179 ?_
 unfold rI at h0
 refine sq [0] (pa (nx (sq [0,1,2,3,4,5,6,7,8,9,10,11,12,13,14,15,16,17] ?_)))
 refine pm ?_
 refine rP rfl (tH rfl rfl) (pm ?_)
 refine iT (u:=7) h0 rfl (fun hc h0 => ?_) (fun hc h0 => ?_)
 refine pm1 ?_
 refine rp rfl (w1 rfl rfl rfl) rfl (gW rfl rfl) (pkt ?_)
 refine pm ?_
 refine iT (u:=11) h0 rfl (fun hc h0 => ?_) (fun hc h0 => ?_)
 refine pm1 ?_
 refine pm1 ?_
 refine rp rfl (w1 rfl rfl rfl) rfl (gW rfl rfl) (pkt ?_)
 refine pm ?_
 refine iT (u:=16) h0 rfl (fun hc h0 => ?_) (fun hc h0 => ?_)
 refine pm1 ?_
 refine pm1 ?_
 refine rp rfl (w1 rfl rfl rfl) rfl (bH rfl rfl) (rp rfl (w1 rfl rfl rfl) rfl (gW rfl rfl) (pkt ?_))
 refine pa (nx (aA ?_))
 cases h0
 exact r0t 4 rfl
 iterate 4 refine k1 ?_
 refine pkf ?_
 refine pa (nx (aA ?_))
 cases h0
 exact r0t 4 rfl
 iterate 3 refine k1 ?_
 refine pkf ?_
 refine pm ?_
 iterate 4 refine k1 ?_
 refine pkf ?_
 refine pa (nx (aA ?_))
 cases h0
 exact r0t 4 rfl
 refine k1 ?_
 refine k1 ?_
 refine pkf ?_
 refine pm ?_
 iterate 3 refine k1 ?_
 refine pkf ?_
 refine pm ?_
 iterate 4 refine k1 ?_
 refine pkf ?_
 refine pa (nx (aA ?_))
 cases h0
 exact r0t 4 rfl
theorem aD7 {p0:iN} {r:Bool} (h0:oC p0=some r):FnC Tryz.prog 131 [] [.agg [dI p0.LowDriver,(dI p0.HighDriver),(dI p0.LowDriven),(dI p0.HighDriven),(dI p0.Stages)]] [] (dB r):=by
 refine fi 20 tok Tryz.func131 ?_
 unfold oC at h0
 refine sq [0,1] (bxx 3 ?_)
 refine pa (nx (sq [0,1,2,3,4,5,6,7,8,9,10,11,12,13,14,15,16,17] ?_))
 refine fa tok ?_
 refine ld tok ?_
 refine fa tok ?_
 refine ld tok ?_
 obtain ⟨v1,hv1,h0⟩:=bnd h0
 refine rS rfl (aM 4 (aAf hv1) rfl rfl rfl) (pm ?_)
 refine dU (u:=8) h0 rfl (fun hc h0 => ?_) (fun hc h0 => ?_)
 refine fa1 tok ?_
 refine ld1 tok ?_
 refine fa1 tok ?_
 refine ld1 tok ?_
 obtain ⟨v2,hv2,h0⟩:=bnd h0
 refine rs rfl (w1 rfl rfl rfl) rfl (aM 4 (aAf hv2) rfl rfl rfl) (pkt ?_)
 refine pm ?_
 refine dU (u:=15) h0 rfl (fun hc h0 => ?_) (fun hc h0 => ?_)
 refine fa1 tok ?_
 refine ld1 tok ?_
 obtain ⟨v3,hv3,h0⟩:=bnd h0
 refine rs rfl (w1 rfl rfl rfl) rfl (aM 4 (dX hv3) rfl rfl rfl) (pkt ?_)
 refine pa (nx (aA ?_))
 cases h0
 exact r0t 2 rfl
 iterate 3 refine k1 ?_
 refine pkf ?_
 refine pa (nx (aA ?_))
 cases h0
 exact r0t 2 rfl
 iterate 5 refine k1 ?_
 refine pkf ?_
 refine pm ?_
 iterate 3 refine k1 ?_
 refine pkf ?_
 refine pa (nx (aA ?_))
 cases h0
 exact r0t 2 rfl
theorem aLw {p0:aD} {p1:iN} {r:Int} (h0:vJ p0 p1=some r):FnC Tryz.prog 76 [] [.agg [dI p0.Num,(dI p0.Den)], .agg [dI p1.LowDriver,(dI p1.HighDriver),(dI p1.LowDriven),(dI p1.HighDriven),(dI p1.Stages)]] [] (dI r):=by
 refine fi 28 tok Tryz.func76 ?_
 unfold vJ at h0
 refine sq [0,1,2] (bxx 3 ?_)
 refine bxx 4 ?_
 refine pa (nx (aB (aE ?_)))
 obtain ⟨v3,h1,h0⟩:=bnd h0
 refine bI ⟨aC (aC ((fun _ => .dead)) 2 (.ptr 3 0 1 0 0)) 5 (dB v3),lks [.no, .no, .no, .live [⟨75,2, .av [[dI p0.Num,(dI p0.Den)]]⟩]]⟩ ?_ ?_
 refine sr [0,1,2,3,4,5,6,7,8] (rL rfl (bA tok rfl rfl rfl rfl) ?_)
 obtain ⟨v1,hv1,h1⟩:=bnd h1
 refine rS rfl (aM 5 (kO hv1) rfl rfl rfl) (rP rfl (bW rfl) (pm ?_))
 refine dU (u:=9) h1 rfl (fun hc h1 => ?_) (fun hc h1 => ?_)
 iterate 3 refine k1 ?_
 refine pkt ?_
 refine pa (nx ?_)
 cases h1
 exact wk [0,1,2,3]
 refine rl rfl (w1 rfl rfl rfl) rfl (bA tok rfl rfl rfl rfl) ?_
 obtain ⟨v2,hv2,h1⟩:=bnd h1
 refine rs rfl (w1 rfl rfl rfl) rfl (aM 5 (aD7 hv2) rfl rfl rfl) (rp rfl (w1 rfl rfl rfl) rfl (bW rfl) (pkf ?_))
 refine pa (nx ?_)
 cases h1
 exact wk [0,1,2,3]
 refine bM h0 rfl (fun hc h0 => ?_) (fun hc h0 => ?_)
 refine sq [0] (pa (nx (aA ?_)))
 refine aX (aI ?_)
 cases h0
 exact r0t 4 rfl
 obtain ⟨v4,h1,h0⟩:=bnd h0
 refine bI ⟨aC ((fun _ => .dead)) 14 (dB v4),lks [.no, .no, .no]⟩ ?_ ?_
 refine sr [0,1,2,3,4,5,6,7,8,9,10,11,12,13] (fa tok ?_)
 refine ld tok ?_
 refine rP rfl (gW rfl rfl) (pm ?_)
 refine iT (u:=18) h1 rfl (fun hc h1 => ?_) (fun hc h1 => ?_)
 iterate 3 refine k1 ?_
 refine pkt ?_
 refine pm ?_
 iterate 3 refine k1 ?_
 refine pkt ?_
 refine pa (nx ?_)
 cases h1
 exact wk [0,1,2]
 refine fa1 tok ?_
 refine ld1 tok ?_
 refine rp rfl (w1 rfl rfl rfl) rfl (gT rfl rfl) (pkf ?_)
 refine pm ?_
 refine iT (u:=23) h1 rfl (fun hc h1 => ?_) (fun hc h1 => ?_)
 iterate 3 refine k1 ?_
 refine pkt ?_
 refine pa (nx ?_)
 cases h1
 exact wk [0,1,2]
 refine fa1 tok ?_
 refine ld1 tok ?_
 refine rp rfl (w1 rfl rfl rfl) rfl (gT rfl rfl) (pkf ?_)
 refine pa (nx ?_)
 cases h1
 exact wk [0,1,2]
 refine bM h0 rfl (fun hc h0 => ?_) (fun hc h0 => ?_)
 refine sq [0] (pa (nx (aA ?_)))
 refine aX (aI ?_)
 cases h0
 exact r0t 4 rfl
 refine cX (bB (aG (sq [0] (pa (nx (aA ?_))))))
 cases h0
 exact r0t 4 rfl
theorem aGh {p0 p1 p2:Int} {r:aF7} (h0:pF p0 p1 p2=some r):FnC Tryz.prog 132 [] [dI p0,(dI p1),(dI p2)] [] (.agg [dL cI r.products, .d (.mp r.lists)]):=by
 obtain ⟨q0,h0⟩:=cO h0
 cases h0
 exact aXt q0
theorem uF {p0:Int} {r:Bool} (h0:jB p0=some r):FnC Tryz.prog 181 [] [dI p0] [] (dB r):=by
 refine fi 6 tok Tryz.func181 ?_
 unfold jB at h0
 refine sq [0] (pa (nx (sq [0,1,2,3] ?_)))
 refine pm ?_
 refine pm ?_
 refine rP rfl (cQ rfl rfl) (pa (nx (aA ?_)))
 cases h0
 exact r0t 2 rfl
theorem gM {p0:Int} {p1:Int} {r:Int} (h0:dY p0 p1=some r):FnC Tryz.prog 135 [] [dI p0,(dI p1)] [] (dI r):=by
 refine fi 20 tok Tryz.func135 ?_
 unfold dY at h0
 refine sq [0] (pa (nx (sq [0,1,2] ?_)))
 refine pm ?_
 obtain ⟨v1,hv1,h0⟩:=bnd h0
 refine rS rfl (aM 3 (uF hv1) rfl rfl rfl) (pa (nx (sq [0,1,2] ?_)))
 refine pm ?_
 obtain ⟨v2,hv2,h0⟩:=bnd h0
 refine rS rfl (aM 3 (uF hv2) rfl rfl rfl) (pa (nx (aB (sq [0] ?_))))
 refine pm (nx ?_)
 refine bM h0 rfl (fun hc h0 => ?_) (fun hc h0 => ?_)
 refine aB (sq [0] (pm (nx ?_)))
 refine bM h0 rfl (fun hc h0 => ?_) (fun hc h0 => ?_)
 refine sq [0] (pa (nx (aA (aI (aI ?_)))))
 cases h0
 exact r0t 4 rfl
 refine sk (sq [0] (pa (nx (aA (aI ?_)))))
 cases h0
 exact r0t 4 rfl
 refine sk (aB (sq [0] (pm (nx ?_))))
 refine bM h0 rfl (fun hc h0 => ?_) (fun hc h0 => ?_)
 refine sq [0] (pa (nx (aA (aI ?_))))
 cases h0
 exact r0t 4 rfl
 refine sk (aB (sq [0,1,2] (pm ?_)))
 refine pm ?_
 refine rP rfl (bK rfl rfl) (nx ?_)
 refine bC h0 rfl (fun hc h0 => ?_) (fun hc h0 => ?_)
 refine sq [0] (pa (nx (aA (aI ?_))))
 cases h0
 exact r0t 4 rfl
 refine sk (aB (sq [0,1,2] (pm ?_)))
 refine pm ?_
 refine rP rfl (gT rfl rfl) (nx ?_)
 refine bC h0 rfl (fun hc h0 => ?_) (fun hc h0 => ?_)
 refine sq [0] (pa (nx (aA (aI ?_))))
 cases h0
 exact r0t 4 rfl
 refine sk (sq [0] (pa (nx (aA ?_))))
 cases h0
 exact r0t 4 rfl
theorem wX {p0:Int} {p1:Int} {p2:aD} {r:Int} (h0:jD p0 p1 p2=some r):FnC Tryz.prog 134 [] [dI p0,(dI p1), .ref (eF p2)] [] (dI r):=by
 refine fi 15 tok Tryz.func134 ?_
 unfold jD at h0
 refine sq [0] (pa (nx (sq [0,1,2,3,4,5,6,7,8,9] ?_)))
 refine pm ?_
 refine fr tok ?_
 refine lr tok ?_
 refine rP rfl (eL rfl rfl) (pm ?_)
 refine fr tok ?_
 refine lr tok ?_
 refine rP rfl (eL rfl rfl) ?_
 obtain ⟨v1,hv1,h0⟩:=bnd h0
 refine rS rfl (aM 3 (gM hv1) rfl rfl rfl) (pa (nx (aA ?_)))
 cases h0
 exact r0t 5 rfl
theorem fO {p0:List Int} {p1:Int} {p2_0:aD} {r:Int × Bool} (h0:bP p0 p1 p2_0=some r):FnC Tryz.prog 133 [] [dL cI p0,(dI p1), .fn 134 [.ref (eF p2_0)]] [] (.tup [dI r.1,(dB r.2)]):=by
 refine fi 49 tok Tryz.func133 ?_
 unfold bP at h0
 refine sq [0,1] (pa ?_)
 refine pa (nx (sq [0,1,2] ?_))
 refine pm ?_
 refine rP rfl (aJ tok rfl rfl rfl) (pa (nx (sq [0,1,2] ?_)))
 refine pm ?_
 refine pa ?_
 refine pa (nx ?_)
 obtain ⟨v9,h1,h0⟩:=bnd h0
 refine bI ⟨aC (aC (aC (aC (aC ((fun _ => .dead)) 0 (dL cI p0)) 1 (dI p1)) 2 (.fn 134 [.ref (eF p2_0)])) 8 (dI (p0.length:Int))) 9 (dI v9),lks [.no, .no, .no]⟩ ?_ ?_
 refine aE ?_
 refine aZ (fun s5=>⟨aC (aC (aC (aC (aC (aC ((fun _ => .dead)) 0 (dL cI p0)) 1 (dI p1)) 2 (.fn 134 [.ref (eF p2_0)])) 8 (dI (p0.length:Int))) 9 (dI s5.1)) 10 (dI s5.2),lks [.no, .no, .no]⟩) h1 ?_ (fun s5 y h2 => ?_)
 exact wk [0,1,2]
 refine aB (sq [0,1,2] (pm ?_))
 refine pm ?_
 refine rP rfl (bK rfl rfl) (nx ?_)
 refine bC h2 rfl (fun hc h2 => ?_) (fun hc h2 => ?_)
 refine sk (aE (sq [0,1,2,3,4,5,6] (pm ?_)))
 refine pm ?_
 refine rP rfl (bH rfl rfl) (rP rfl (aKe tok rfl rfl rfl rfl rfl) (rP rfl (aXj rfl rfl (by decide)) (rP rfl (aRv tok rfl rfl rfl rfl rfl) (pa (nx (sq [0,1,2,3,4,5,6,7] ?_))))))
 refine rP rfl (aL (r := .fn _ _) rfl) (pm ?_)
 refine pm ?_
 obtain ⟨v7,hv7,h2⟩:=bnd h2
 refine rP rfl (cE tok hv7 rfl rfl rfl rfl rfl rfl) (lr tok ?_)
 refine pm ?_
 obtain ⟨v8,hv8,h2⟩:=bnd h2
 refine rS rfl (aM 3 (wX hv8) rfl rfl rfl) (rP rfl (bK rfl rfl) (nx ?_))
 refine bC h2 rfl (fun hc h2 => ?_) (fun hc h2 => ?_)
 refine sr [0,1,2] (pm ?_)
 refine rP rfl (bH rfl rfl) (pa (aY ?_))
 refine bB (bS ?_)
 cases h2
 refine ⟨_,rfl,?_⟩
 exact wk [0,1,2]
 refine sr [0,1] (pm ?_)
 refine pa (aY ?_)
 refine bB (bS ?_)
 cases h2
 refine ⟨_,rfl,?_⟩
 exact wk [0,1,2]
 refine bF (bT ?_)
 cases h2
 refine bU ⟨_,rfl,fun e => ?_⟩
 subst e
 refine aQ (aG ?_)
 exact wk [0,1,2]
 refine sq [0,1,2,3,4,5,6,7,8,9,10,11,12,13,14,15] ?_
 iterate 3 refine pm ?_
 refine rP rfl (bK rfl rfl) (pm ?_)
 refine iT (u:=39) h0 rfl (fun hc h0 => ?_) (fun hc h0 => ?_)
 refine rp rfl (w1 rfl rfl rfl) rfl (aL (r := .fn _ _) rfl) (pm1 ?_)
 refine pm1 ?_
 obtain ⟨v10,hv10,h0⟩:=bnd h0
 refine rp rfl (w1 rfl rfl rfl) rfl (cE tok hv10 rfl rfl rfl rfl rfl rfl) (lr1 tok ?_)
 refine pm1 ?_
 obtain ⟨v11,hv11,h0⟩:=bnd h0
 refine rs rfl (w1 rfl rfl rfl) rfl (aM 3 (wX hv11) rfl rfl rfl) (rp rfl (w1 rfl rfl rfl) rfl (iX rfl rfl) (pkt ?_))
 refine pa ?_
 refine pa (nx (aA ?_))
 cases h0
 exact gU (rs:=[.tmp 6, .tmp 7]) rfl
 iterate 8 refine k1 ?_
 refine pkf ?_
 refine pa ?_
 refine pa (nx (aA ?_))
 cases h0
 exact gU (rs:=[.tmp 6, .tmp 7]) rfl
theorem aHj {p0:Int} {r:Int} (h0:wW p0=some r):FnC Tryz.prog 87 [] [dI p0] [] (dI r):=by
 refine fi 8 tok Tryz.func87 ?_
 unfold wW at h0
 refine sq [0] (pa (nx (aB (sq [0,1] ?_))))
 refine pm ?_
 refine rP rfl (bK rfl rfl) (nx ?_)
 refine bC h0 rfl (fun hc h0 => ?_) (fun hc h0 => ?_)
 refine sq [0,1,2] (pm ?_)
 refine rP rfl (wH rfl) (pa (nx (aA (aI ?_))))
 cases h0
 exact r0t 2 rfl
 refine sk (sq [0,1] (pm ?_))
 refine pa (nx (aA ?_))
 cases h0
 exact r0t 2 rfl
theorem aOz {p0:Int} {p1:Int} {p2:aD} {r:kZ} (h0:xV p0 p1 p2=some r):FnC Tryz.prog 136 [] [dI p0,(dI p1), .agg [dI p2.Num,(dI p2.Den)]] [] (.agg [dI r.p,(dI r.q),(dI r.far)]):=by
 refine fi 20 tok Tryz.func136 ?_
 unfold xV at h0
 refine sq [0,1] (bxx 3 ?_)
 refine al 4 [z0,z0,z0] tok (nx (sq [0,1,2,3,4,5,6,7,8,9,10,11,12,13] ?_))
 iterate 3 refine pm ?_
 refine fa tok ?_
 refine ld tok ?_
 refine rP rfl (eL rfl rfl) (pm ?_)
 refine fa tok ?_
 refine ld tok ?_
 refine rP rfl (eL rfl rfl) (rP rfl (gX rfl rfl) ?_)
 obtain ⟨v1,hv1,h0⟩:=bnd h0
 refine rS rfl (aM 5 (aHj hv1) rfl rfl rfl) (rP rfl (pbl (C0:=[z0,z0,z0]) tok rfl rfl rfl) (bst tok (nx (aA ?_))))
 cases h0
 exact gU (rs:=[.cell 6 181]) rfl
theorem yV {p0:kZ} {p1:kZ} {r:Int} (h0:gG p0 p1=some r):FnC Tryz.prog 137 [] [.agg [dI p0.p,(dI p0.q),(dI p0.far)], .agg [dI p1.p,(dI p1.q),(dI p1.far)]] [] (dI r):=by
 refine fi 16 tok Tryz.func137 ?_
 unfold gG at h0
 refine sq [0,1,2] (bxx 3 ?_)
 refine bxx 4 ?_
 refine pa (nx (sq [0,1,2,3,4,5,6,7,8,9,10,11] ?_))
 refine fa tok ?_
 refine ld tok ?_
 refine fa tok ?_
 refine ld tok ?_
 refine rP rfl (eL rfl rfl) (fa tok ?_)
 refine ld tok ?_
 refine fa tok ?_
 refine ld tok ?_
 refine rP rfl (eL rfl rfl) ?_
 obtain ⟨v1,hv1,h0⟩:=bnd h0
 refine rS rfl (aM 5 (gM hv1) rfl rfl rfl) (pa (nx (aA ?_)))
 cases h0
 exact r0t 4 rfl
theorem fG {p0:List Int} {r:List Int} (h0:cU p0=some r):FnC Tryz.prog 82 [] [dL cI p0] [.live [⟨2,1, .data (List.map cI r)⟩]] (.own 0 0 r.length):=by
 refine fi 8 tok Tryz.func82 ?_
 unfold cU at h0
 obtain ⟨hq1,h0⟩:=cO h0
 cases h0
 refine aC2 (d:=0) rfl rfl (fun hne => ?_) (fun he A k hk => ?_)
 ·skip
  refine aB (cF (is:=[0]) rfl (rP rfl (aR (r := .d _) rfl) (aY (aG (aB (aB (cF (is:=[0,1]) rfl (rP rfl (aL (r := .d _) rfl) (rP rfl (sK tok rfl hne rfl rfl rfl) (aY (aG (qD rfl (cX (aG (aB (cF (is:=[0,1,2,3]) rfl (rS rfl (eQ 3 tok rfl rfl rfl rfl) (rP rfl (aL (r := .d _) rfl) (rw1 rfl w0 rfl (eU tok hq1 rfl rfl rfl rfl rfl rfl rfl rfl rfl rfl rfl rfl (fun _=>rfl)) (rP rfl (aR (r := .own _ _ _) rfl) (aY (aG (aA ?_)))))))))))))))))))))))
  exact dG (rs:=[.tmp 2]) [3] rfl
 ·skip
  have he:p0=[]:=List.map_eq_nil_iff.1 he
  subst he
  cases A with
  | none =>
   refine aB (cF (is:=[0]) rfl (rP rfl (aR (r := .d _) rfl) (aY (aG (aB (aB (cF (is:=[0,1]) rfl (rP rfl (aL (r := .d _) rfl) (rP rfl (lU tok rfl rfl rfl rfl) (aY (aG (zU rfl (aB (cF (is:=[0]) rfl (rP rfl (aR (r := .d _) rfl) (aY (aG (cN (cW 3 rfl 2 1 (d:=2) rfl) (aA (aI ?_))))))))))))))))))))
   exact dG (rs:=[.tmp 2]) [3] rfl
  | some a =>
   refine aB (cF (is:=[0]) rfl (rP rfl (aR (r := .d _) rfl) (aY (aG (aB (aB (cF (is:=[0,1]) rfl (rP rfl (aL (r := .d _) rfl) (rP rfl (lU tok rfl rfl rfl rfl) (aY (aG (qD rfl (cX (aG (cN (aA5 cI (d:=0) rfl hk) (aB (cF (is:=[0,1,2,3]) rfl (rS rfl (eQ 3 tok rfl rfl rfl rfl) (rP rfl (aL (r := .d _) rfl) (rw1 rfl w0 rfl (eU tok hq1 rfl rfl rfl rfl rfl rfl rfl rfl rfl rfl rfl rfl (fun _=>rfl)) (rP rfl (aR (r := .own _ _ _) rfl) (aY (aG (aA ?_))))))))))))))))))))))))
   exact dG (rs:=[.tmp 2]) [3] rfl
theorem pV {p0:List Int} {r:List Int} (h0:eK p0=some r):FnC Tryz.prog 182 [.live [⟨2,1, .data (List.map cI p0)⟩]] [.own 0 0 (p0).length] [.live [⟨2,1, .data (List.map cI r)⟩]] (.tup []):=by
 refine fi 28 tok Tryz.func182 ?_
 unfold eK at h0
 refine sq [0,1,2,3,4] (rP rfl (aL (r := .own _ _ _) rfl) (rL rfl (mF tok rfl rfl rfl rfl rfl) (rP rfl (gX rfl rfl) (pa ?_))))
 refine pa (nx (aE ?_))
 refine aZ (fun s6=>⟨aC (aC (aC ((fun _ => .dead)) 0 (.own 0 0 (s6.2.2).length)) 2 (dI s6.1)) 3 (dI s6.2.1),lks [.live [⟨2,1, .data (List.map cI s6.2.2)⟩], .no, .no]⟩) h0 ?_ (fun s6 y h1 => ?_)
 exact wk [0,1,2]
 refine aB (sq [0,1,2] (pm ?_))
 refine pm ?_
 refine rP rfl (bK rfl rfl) (nx ?_)
 refine bC h1 rfl (fun hc h1 => ?_) (fun hc h1 => ?_)
 refine sk (aB (aE (aH (is:=[0,1,2,3,4,5,6,7,8,9,10,11,12,13,14,15]) [0,0,0,0,0,0,48,112,0,0,768,1792,4083,8179,16383,32767] follows (by kernel_rfl) (tP rfl (aL (r := .own _ _ _) rfl) (tpm ?_)))))
 refine tP rfl (aL (r := .own _ _ _) rfl) (tpm ?_)
 refine tP rfl (aL (r := .own _ _ _) rfl) (tpm ?_)
 obtain ⟨v7,hv7,h1⟩:=bnd h1
 refine cZ rfl w0 rfl (fB tok hv7 rfl rfl rfl rfl rfl rfl rfl rfl) rfl rfl rfl (cZ rfl w0 rfl (jK tok (dP hv7).2.1 rfl rfl rfl rfl rfl rfl) rfl rfl rfl (tP rfl (aL (r := .own _ _ _) rfl) (tpm ?_)))
 obtain ⟨v8,hv8,h1⟩:=bnd h1
 refine cZ rfl w0 rfl (fB tok hv8 rfl rfl rfl rfl rfl rfl rfl rfl) rfl rfl rfl (cZ rfl w0 rfl (jK tok (dP hv8).2.1 rfl rfl rfl rfl rfl rfl) rfl rfl rfl ?_)
 obtain ⟨v9,hv9,h1⟩:=bnd h1
 refine cZ rfl w0 rfl (fB tok hv9 rfl rfl rfl rfl rfl rfl rfl rfl) rfl rfl rfl (oN rfl w0 (sL (cs:=[.d _]) tok v7 (dP hv9).2.1 rfl rfl rfl rfl rfl rfl rfl rfl) ?_)
 obtain ⟨v10,hv10,h1⟩:=bnd h1
 refine cZ rfl w0 rfl (fB tok hv10 rfl rfl rfl rfl rfl rfl (by first | (simp;done) | omega | (simp;omega)) rfl) rfl rfl rfl (oN rfl w0 (sL (cs:=[.d _]) tok v8 (dP hv10).2.1 rfl rfl rfl rfl rfl rfl rfl (by first | (simp;done) | omega | (simp;omega))) (bN ?_))
 refine ⟨by kernel_rfl,?_⟩
 refine bB (aG (sr [0,1,2,3,4,5] (pm ?_)))
 refine rP rfl (bH rfl rfl) (pm ?_)
 refine rP rfl (gX rfl rfl) (pa ?_)
 refine pa (aY ?_)
 refine bS ?_
 cases h1
 refine ⟨_,rfl,?_⟩
 exact wk [0,1,2]
 refine bF (bT ?_)
 cases h1
 refine bU ⟨_,rfl,fun e => ?_⟩
 subst e
 refine aQ ?_
 exact xF (rs:=[]) 1 rfl rfl
theorem aO0 {p0:List Int} {p1:List Int} {r:List bQ} (h0:xW p0 p1=some r):FnC Tryz.prog 183 [] [dL cI p0,(dL cI p1)] [.live [⟨86,2, .data (List.map cM r)⟩]] (.own 0 0 r.length):=by
 refine fi 26 tok Tryz.func183 ?_
 unfold xW at h0
 refine sq [0] (pa (nx (sq [0] ?_)))
 refine pa (nx ?_)
 obtain ⟨v9,h1,h0⟩:=bnd h0
 refine bI ⟨aC ((fun _ => .dead)) 5 (.own 3 0 (v9).length),lks [.no, .no, .no, .live [⟨86,2, .data (List.map cM v9)⟩]]⟩ ?_ ?_
 refine sq [0,1,2] (pm ?_)
 refine rP rfl (aJ tok rfl rfl rfl) (pm (nx (aE ?_)))
 refine aZ (fun s5=>⟨aC (aC (aC (aC (aC ((fun _ => .dead)) 0 (dL cI p0)) 1 (dL cI p1)) 5 (.own 3 0 (s5.2).length)) 8 (dI (p0.length:Int))) 9 (dI s5.1),lks [.no, .no, .no, .live [⟨86,2, .data (List.map cM s5.2)⟩]]⟩) h1 ?_ (fun s5 y h2 => ?_)
 refine mG.trans_ (cW 3 rfl 86 2 (d:=5) rfl) ?_
 exact wk [0,1,2,3]
 refine sq [0] (rP rfl (bK rfl rfl) (nx (aB ?_)))
 refine bC h2 rfl (fun hc h2 => ?_) (fun hc h2 => ?_)
 refine sk (aB (aE (sq [0,1] (pm ?_))))
 refine pa (nx ?_)
 refine aH (is:=[0,1,2,3,4,5,6,7,8,9,10,11,12]) [0,0,0,6,14,0,0,96,224,510,1022,2047,4095] follows (by kernel_rfl) (tP rfl (aL (r := .own _ _ _) rfl) (tpm ?_))
 refine tpm ?_
 obtain ⟨v6,hv6,h2⟩:=bnd h2
 refine tP rfl (cE tok hv6 rfl rfl rfl rfl rfl rfl) (tlr tok ?_)
 refine tpm ?_
 refine tpm ?_
 obtain ⟨v7,hv7,h2⟩:=bnd h2
 refine tP rfl (cE tok hv7 rfl rfl rfl rfl rfl rfl) (tlr tok ?_)
 refine tP rfl (pbl (C0:=[z0,z0]) tok rfl rfl rfl) (aU1 rfl w0 rfl (iZ tok cM [(⟨v6,v7⟩:bQ)] rfl rfl rfl (by repeat (first | exact Els.nil _ | apply Els.cons (cs:=[.d _]) rfl rfl rfl | apply Els.cons (cs:=_ :: _) rfl rfl rfl)) rfl rfl rfl (by repeat (first | exact cR.nil | (apply cR.cons; (repeat (first | exact eZ.nil | apply eZ.cons))))) rfl) ?_)
 obtain ⟨hq8,h2⟩:=cO h2
 refine yX rfl w0 rfl (eU tok hq8 rfl rfl rfl rfl rfl rfl rfl rfl rfl rfl rfl rfl (fun _=>rfl)) (tP rfl (aR (r := .own _ _ _) rfl) (bN ?_))
 refine ⟨by kernel_rfl,?_⟩
 refine bB (aG (sr [0,1] (rP rfl (bH rfl rfl) (pm (aY ?_)))))
 refine bS ?_
 cases h2
 refine ⟨_,rfl,?_⟩
 exact wk [0,1,2,3]
 refine bF (bT ?_)
 cases h2
 refine bU ⟨_,rfl,fun e => ?_⟩
 subst e
 refine aQ (aG ?_)
 exact wk [0,1,2,3]
 refine sq [0,1] (rP rfl (aL (r := .own _ _ _) rfl) (rP rfl (aR (r := .own _ _ _) rfl) (nx (aA ?_))))
 cases h0
 exact dG (rs:=[.tmp 4]) [3] rfl
theorem aHm {p0:List Int} {p1:List Int} {r:List bQ} (h0:jS p0 p1=some r):FnC Tryz.prog 138 [] [dL cI p0,(dL cI p1)] [.live [⟨86,2, .data (List.map cM r)⟩]] (.own 0 0 r.length):=by
 refine fi 13 tok Tryz.func138 ?_
 unfold jS at h0
 refine sq [0] (pa (nx (sq [0,1,2] ?_)))
 refine pm ?_
 obtain ⟨v1,hv1,h0⟩:=bnd h0
 refine rS rfl (aM 3 (fG hv1) rfl rfl rfl) (rP rfl (aR (r := .own _ _ _) rfl) (nx (sq [0,1] (rP rfl (aL (r := .own _ _ _) rfl) ?_))))
 obtain ⟨v2,hv2,h0⟩:=bnd h0
 obtain ⟨hq3,h0⟩:=cO h0
 refine rw1 rfl w0 rfl (nX [3] 300 (pV hv2) rfl rfl) (nx (sq [0,1,2,3] (rP rfl (aL (r := .own _ _ _) rfl) (pm ?_))))
 obtain ⟨v4,hv4,h0⟩:=bnd h0
 refine rS rfl (eW 4 (aO0 hv4) rfl rfl) (rP rfl (aR (r := .own _ _ _) rfl) (nx (aA ?_)))
 cases h0
 exact dG (rs:=[.tmp 4]) [4] rfl
end Go.Proofs.YtceknlcbfomdhaaGreatDoor
