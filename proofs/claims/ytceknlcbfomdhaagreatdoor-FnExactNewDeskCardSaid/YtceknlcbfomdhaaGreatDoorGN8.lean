/- Texts of this claim, one behind the other (merged by a program of mine). -/
import Derived.Test.YtceknlcbfomdhaaGreatDoorProg
import Derived.Lib.ItoaLen
import Derived.Test.YtceknlcbfomdhaaGreatDoorGN7
set_option linter.unusedSimpArgs false
set_option linter.unusedVariables false
namespace Go.Proofs.YtceknlcbfomdhaaGreatDoor
open Go.RowKit
set_option linter.unusedVariables false
set_option maxRecDepth 100000
set_option maxHeartbeats 2000000
theorem xB {p0:List Int} {p1:List Int} {r:Bool} (h0:lE p0 p1=some r):FnC Tryz.prog 45 [] [dL cI p0,(dL cI p1)] [] (dB r):=by
 refine fi 26 tok Tryz.func45 ?_
 unfold lE at h0
 refine sq [0] (pa (nx (aB (sq [0,1,2,3,4] ?_))))
 refine pm ?_
 refine rP rfl (aJ tok rfl rfl rfl) (pm ?_)
 refine rP rfl (aJ tok rfl rfl rfl) (rP rfl (cQ rfl rfl) (nx ?_))
 refine bC h0 rfl (fun hc h0 => ?_) (fun hc h0 => ?_)
 refine sq [0] (pa (nx (aA (aI ?_))))
 cases h0
 exact r0t 4 rfl
 refine sk ?_
 obtain ⟨v7x,h1,h0⟩:=bnd h0
 refine dH v7x (fun v7=>⟨(fun _ => .dead),lks [.no, .no, .no]⟩) ?_ ?_
 refine sq [0] (pa (nx (aE ?_)))
 refine aZ (fun s4=>⟨aC (aC (aC ((fun _ => .dead)) 0 (dL cI p0)) 1 (dL cI p1)) 5 (dI s4),lks [.no, .no, .no]⟩) h1 ?_ (fun s4 y h2 => ?_)
 exact wk [0,1,2]
 refine aB (sq [0,1,2,3] (pm ?_))
 refine pm ?_
 refine rP rfl (aJ tok rfl rfl rfl) (rP rfl (bK rfl rfl) (nx ?_))
 refine bC h2 rfl (fun hc h2 => ?_) (fun hc h2 => ?_)
 refine sk (aB (aE (aB (aH (is:=[0,1,2,3,4,5,6,7,8]) [0,0,3,7,0,0,48,112,255] follows (by kernel_rfl) (tpm ?_)))))
 refine tpm ?_
 obtain ⟨v5,hv5,h2⟩:=bnd h2
 refine tP rfl (cE tok hv5 rfl rfl rfl rfl rfl rfl) (tlr tok ?_)
 refine tpm ?_
 refine tpm ?_
 obtain ⟨v6,hv6,h2⟩:=bnd h2
 refine tP rfl (cE tok hv6 rfl rfl rfl rfl rfl rfl) (tlr tok ?_)
 refine tP rfl (cQ rfl rfl) (bN ?_)
 refine ⟨by kernel_rfl,?_⟩
 refine aG ?_
 refine bC h2 rfl (fun hc h2 => ?_) (fun hc h2 => ?_)
 refine sq [0] (pa (nx (aA ?_)))
 refine aX (aI ?_)
 cases h2
 refine dM ⟨_,rfl,fun e => ?_⟩
 subst e
 refine aX ?_
 replace h0:=eT h0
 refine aI ?_
 cases h0
 exact r0t 4 rfl
 refine cX (bB (aG (sr [0,1,2] (pm ?_))))
 refine rP rfl (bH rfl rfl) (pa (aY ?_))
 refine bS ?_
 cases h2
 refine ⟨_,rfl,?_⟩
 exact wk [0,1,2]
 refine bF (bT ?_)
 cases h2
 refine bU ⟨_,rfl,fun e => ?_⟩
 subst e
 refine aQ (aG ?_)
 refine ⟨_,rfl,?_⟩
 exact wk [0,1,2]
 rintro v7 rfl
 replace h0:=gS h0
 refine sq [0] (pa (nx (aA ?_)))
 cases h0
 exact r0t 4 rfl
theorem aL1 {p0:bO} {p1:bO} {r:Bool} (h0:sD p0 p1=some r):FnC Tryz.prog 156 [] [.agg [dS p0.Name,(dL cI p0.Wheels)], .agg [dS p1.Name,(dL cI p1.Wheels)]] [] (dB r):=by
 refine fi 16 tok Tryz.func156 ?_
 unfold sD at h0
 refine sq [0,1,2] (bxx 3 ?_)
 refine bxx 4 ?_
 refine pa (nx (aB (sq [0,1,2,3,4] ?_)))
 refine fa tok ?_
 refine ld tok ?_
 refine fa tok ?_
 refine ld tok ?_
 refine rP rfl (zO rfl rfl) (nx ?_)
 refine bC h0 rfl (fun hc h0 => ?_) (fun hc h0 => ?_)
 refine sq [0] (pa (nx (aA (aI ?_))))
 cases h0
 exact r0t 4 rfl
 refine sk (aB (sq [0,1,2,3,4,5] (fa tok ?_)))
 refine ld tok ?_
 refine fa tok ?_
 refine ld tok ?_
 obtain ⟨v1,hv1,h0⟩:=bnd h0
 refine rS rfl (aM 5 (xB hv1) rfl rfl rfl) (rP rfl (bW rfl) (nx ?_))
 refine bM h0 rfl (fun hc h0 => ?_) (fun hc h0 => ?_)
 refine sq [0] (pa (nx (aA (aI ?_))))
 cases h0
 exact r0t 4 rfl
 refine sk (sq [0] (pa (nx (aA ?_))))
 cases h0
 exact r0t 4 rfl
theorem aJw {p0:List bO} {p1:List bO} {r:Bool} (h0:qM p0 p1=some r):FnC Tryz.prog 92 [] [dL aS p0,(dL aS p1)] [] (dB r):=by
 refine fi 27 tok Tryz.func92 ?_
 unfold qM at h0
 refine sq [0] (pa (nx (aB (sq [0,1,2,3,4] ?_))))
 refine pm ?_
 refine rP rfl (aJ tok rfl rfl rfl) (pm ?_)
 refine rP rfl (aJ tok rfl rfl rfl) (rP rfl (cQ rfl rfl) (nx ?_))
 refine bC h0 rfl (fun hc h0 => ?_) (fun hc h0 => ?_)
 refine sq [0] (pa (nx (aA (aI ?_))))
 cases h0
 exact r0t 4 rfl
 refine sk ?_
 obtain ⟨v9x,h1,h0⟩:=bnd h0
 refine dH v9x (fun v9=>⟨(fun _ => .dead),lks [.no, .no, .no]⟩) ?_ ?_
 refine sq [0] (pa (nx (aE ?_)))
 refine aZ (fun s5=>⟨aC (aC (aC ((fun _ => .dead)) 0 (dL aS p0)) 1 (dL aS p1)) 5 (dI s5),lks [.no, .no, .no]⟩) h1 ?_ (fun s5 y h2 => ?_)
 exact wk [0,1,2]
 refine aB (sq [0,1,2,3] (pm ?_))
 refine pm ?_
 refine rP rfl (aJ tok rfl rfl rfl) (rP rfl (bK rfl rfl) (nx ?_))
 refine bC h2 rfl (fun hc h2 => ?_) (fun hc h2 => ?_)
 refine sk (aB (aE (aB (aH (is:=[0,1,2,3,4,5,6,7,8,9]) [0,0,3,7,0,0,48,112,255,511] follows (by kernel_rfl) (tpm ?_)))))
 refine tpm ?_
 obtain ⟨v6,hv6,h2⟩:=bnd h2
 refine tP rfl (cE tok hv6 rfl rfl rfl rfl rfl rfl) (tP rfl (bJ tok rfl rfl rfl (by repeat (first | exact gV.z _ | apply gV.t))) (tpm ?_))
 refine tpm ?_
 obtain ⟨v7,hv7,h2⟩:=bnd h2
 refine tP rfl (cE tok hv7 rfl rfl rfl rfl rfl rfl) (tP rfl (bJ tok rfl rfl rfl (by repeat (first | exact gV.z _ | apply gV.t))) ?_)
 obtain ⟨v8,hv8,h2⟩:=bnd h2
 refine jW rfl w0 rfl (cV 3 (aL1 hv8) rfl rfl rfl) (tP rfl (bW rfl) (bN ?_))
 refine ⟨by kernel_rfl,?_⟩
 refine aG ?_
 refine bM h2 rfl (fun hc h2 => ?_) (fun hc h2 => ?_)
 refine sq [0] (pa (nx (aA ?_)))
 refine aX (aI ?_)
 cases h2
 refine dM ⟨_,rfl,fun e => ?_⟩
 subst e
 refine aX ?_
 replace h0:=eT h0
 refine aI ?_
 cases h0
 exact r0t 4 rfl
 refine cX (bB (aG (sr [0,1,2] (pm ?_))))
 refine rP rfl (bH rfl rfl) (pa (aY ?_))
 refine bS ?_
 cases h2
 refine ⟨_,rfl,?_⟩
 exact wk [0,1,2]
 refine bF (bT ?_)
 cases h2
 refine bU ⟨_,rfl,fun e => ?_⟩
 subst e
 refine aQ (aG ?_)
 refine ⟨_,rfl,?_⟩
 exact wk [0,1,2]
 rintro v9 rfl
 replace h0:=gS h0
 refine sq [0] (pa (nx (aA ?_)))
 cases h0
 exact r0t 4 rfl
theorem aO5 {p0:bR} {p1:bR} {r:Bool} (h0:uM p0 p1=some r):FnC Tryz.prog 157 [] [.agg [dI p0.A,(dI p0.WheelA),(dI p0.B),(dI p0.WheelB)], .agg [dI p1.A,(dI p1.WheelA),(dI p1.B),(dI p1.WheelB)]] [] (dB r):=by
 refine fi 25 tok Tryz.func157 ?_
 unfold uM at h0
 refine sq [0,1,2] (bxx 3 ?_)
 refine bxx 4 ?_
 refine pa (nx (aB (sq [0,1,2,3,4] ?_)))
 refine fa tok ?_
 refine ld tok ?_
 refine fa tok ?_
 refine ld tok ?_
 refine rP rfl (cQ rfl rfl) (nx ?_)
 refine bC h0 rfl (fun hc h0 => ?_) (fun hc h0 => ?_)
 refine sq [0] (pa (nx (aA (aI ?_))))
 cases h0
 exact r0t 4 rfl
 refine sk (aB (sq [0,1,2,3,4] (fa tok ?_)))
 refine ld tok ?_
 refine fa tok ?_
 refine ld tok ?_
 refine rP rfl (cQ rfl rfl) (nx ?_)
 refine bC h0 rfl (fun hc h0 => ?_) (fun hc h0 => ?_)
 refine sq [0] (pa (nx (aA (aI ?_))))
 cases h0
 exact r0t 4 rfl
 refine sk (aB (sq [0,1,2,3,4] (fa tok ?_)))
 refine ld tok ?_
 refine fa tok ?_
 refine ld tok ?_
 refine rP rfl (cQ rfl rfl) (nx ?_)
 refine bC h0 rfl (fun hc h0 => ?_) (fun hc h0 => ?_)
 refine sq [0] (pa (nx (aA (aI ?_))))
 cases h0
 exact r0t 4 rfl
 refine sk (aB (sq [0,1,2,3,4] (fa tok ?_)))
 refine ld tok ?_
 refine fa tok ?_
 refine ld tok ?_
 refine rP rfl (cQ rfl rfl) (nx ?_)
 refine bC h0 rfl (fun hc h0 => ?_) (fun hc h0 => ?_)
 refine sq [0] (pa (nx (aA (aI ?_))))
 cases h0
 exact r0t 4 rfl
 refine sk (sq [0] (pa (nx (aA ?_))))
 cases h0
 exact r0t 4 rfl
theorem aL2 {p0:List bR} {p1:List bR} {r:Bool} (h0:sE p0 p1=some r):FnC Tryz.prog 93 [] [dL bV p0,(dL bV p1)] [] (dB r):=by
 refine fi 27 tok Tryz.func93 ?_
 unfold sE at h0
 refine sq [0] (pa (nx (aB (sq [0,1,2,3,4] ?_))))
 refine pm ?_
 refine rP rfl (aJ tok rfl rfl rfl) (pm ?_)
 refine rP rfl (aJ tok rfl rfl rfl) (rP rfl (cQ rfl rfl) (nx ?_))
 refine bC h0 rfl (fun hc h0 => ?_) (fun hc h0 => ?_)
 refine sq [0] (pa (nx (aA (aI ?_))))
 cases h0
 exact r0t 4 rfl
 refine sk ?_
 obtain ⟨v9x,h1,h0⟩:=bnd h0
 refine dH v9x (fun v9=>⟨(fun _ => .dead),lks [.no, .no, .no]⟩) ?_ ?_
 refine sq [0] (pa (nx (aE ?_)))
 refine aZ (fun s5=>⟨aC (aC (aC ((fun _ => .dead)) 0 (dL bV p0)) 1 (dL bV p1)) 5 (dI s5),lks [.no, .no, .no]⟩) h1 ?_ (fun s5 y h2 => ?_)
 exact wk [0,1,2]
 refine aB (sq [0,1,2,3] (pm ?_))
 refine pm ?_
 refine rP rfl (aJ tok rfl rfl rfl) (rP rfl (bK rfl rfl) (nx ?_))
 refine bC h2 rfl (fun hc h2 => ?_) (fun hc h2 => ?_)
 refine sk (aB (aE (aB (aH (is:=[0,1,2,3,4,5,6,7,8,9]) [0,0,3,7,0,0,48,112,255,511] follows (by kernel_rfl) (tpm ?_)))))
 refine tpm ?_
 obtain ⟨v6,hv6,h2⟩:=bnd h2
 refine tP rfl (cE tok hv6 rfl rfl rfl rfl rfl rfl) (tP rfl (bJ tok rfl rfl rfl (by repeat (first | exact gV.z _ | apply gV.t))) (tpm ?_))
 refine tpm ?_
 obtain ⟨v7,hv7,h2⟩:=bnd h2
 refine tP rfl (cE tok hv7 rfl rfl rfl rfl rfl rfl) (tP rfl (bJ tok rfl rfl rfl (by repeat (first | exact gV.z _ | apply gV.t))) ?_)
 obtain ⟨v8,hv8,h2⟩:=bnd h2
 refine jW rfl w0 rfl (cV 3 (aO5 hv8) rfl rfl rfl) (tP rfl (bW rfl) (bN ?_))
 refine ⟨by kernel_rfl,?_⟩
 refine aG ?_
 refine bM h2 rfl (fun hc h2 => ?_) (fun hc h2 => ?_)
 refine sq [0] (pa (nx (aA ?_)))
 refine aX (aI ?_)
 cases h2
 refine dM ⟨_,rfl,fun e => ?_⟩
 subst e
 refine aX ?_
 replace h0:=eT h0
 refine aI ?_
 cases h0
 exact r0t 4 rfl
 refine cX (bB (aG (sr [0,1,2] (pm ?_))))
 refine rP rfl (bH rfl rfl) (pa (aY ?_))
 refine bS ?_
 cases h2
 refine ⟨_,rfl,?_⟩
 exact wk [0,1,2]
 refine bF (bT ?_)
 cases h2
 refine bU ⟨_,rfl,fun e => ?_⟩
 subst e
 refine aQ (aG ?_)
 refine ⟨_,rfl,?_⟩
 exact wk [0,1,2]
 rintro v9 rfl
 replace h0:=gS h0
 refine sq [0] (pa (nx (aA ?_)))
 cases h0
 exact r0t 4 rfl
theorem aL4 {p0:bG} {p1:bG} {r:Bool} (h0:sG p0 p1=some r):FnC Tryz.prog 43 [] [.agg [dL aS p0.Arbors,(dL bV p0.Meshes)], .agg [dL aS p1.Arbors,(dL bV p1.Meshes)]] [] (dB r):=by
 refine fi 17 tok Tryz.func43 ?_
 unfold sG at h0
 refine sq [0,1,2] (bxx 3 ?_)
 refine bxx 4 ?_
 refine pa (nx (aB (sq [0,1,2,3,4,5] ?_)))
 refine fa tok ?_
 refine ld tok ?_
 refine fa tok ?_
 refine ld tok ?_
 obtain ⟨v1,hv1,h0⟩:=bnd h0
 refine rS rfl (aM 5 (aJw hv1) rfl rfl rfl) (rP rfl (bW rfl) (nx ?_))
 refine bM h0 rfl (fun hc h0 => ?_) (fun hc h0 => ?_)
 refine sq [0] (pa (nx (aA (aI ?_))))
 cases h0
 exact r0t 4 rfl
 refine sk (aB (sq [0,1,2,3,4,5] (fa tok ?_)))
 refine ld tok ?_
 refine fa tok ?_
 refine ld tok ?_
 obtain ⟨v2,hv2,h0⟩:=bnd h0
 refine rS rfl (aM 5 (aL2 hv2) rfl rfl rfl) (rP rfl (bW rfl) (nx ?_))
 refine bM h0 rfl (fun hc h0 => ?_) (fun hc h0 => ?_)
 refine sq [0] (pa (nx (aA (aI ?_))))
 cases h0
 exact r0t 4 rfl
 refine sk (sq [0] (pa (nx (aA ?_))))
 cases h0
 exact r0t 4 rfl
theorem aL3 {p0:bE} {p1:bE} {r:Bool} (h0:sF p0 p1=some r):FnC Tryz.prog 158 [] [.agg [dS p0.Name,(dI p0.Days),(dI p0.Leap)], .agg [dS p1.Name,(dI p1.Days),(dI p1.Leap)]] [] (dB r):=by
 refine fi 20 tok Tryz.func158 ?_
 unfold sF at h0
 refine sq [0,1,2] (bxx 3 ?_)
 refine bxx 4 ?_
 refine pa (nx (aB (sq [0,1,2,3,4] ?_)))
 refine fa tok ?_
 refine ld tok ?_
 refine fa tok ?_
 refine ld tok ?_
 refine rP rfl (zO rfl rfl) (nx ?_)
 refine bC h0 rfl (fun hc h0 => ?_) (fun hc h0 => ?_)
 refine sq [0] (pa (nx (aA (aI ?_))))
 cases h0
 exact r0t 4 rfl
 refine sk (aB (sq [0,1,2,3,4] (fa tok ?_)))
 refine ld tok ?_
 refine fa tok ?_
 refine ld tok ?_
 refine rP rfl (cQ rfl rfl) (nx ?_)
 refine bC h0 rfl (fun hc h0 => ?_) (fun hc h0 => ?_)
 refine sq [0] (pa (nx (aA (aI ?_))))
 cases h0
 exact r0t 4 rfl
 refine sk (aB (sq [0,1,2,3,4] (fa tok ?_)))
 refine ld tok ?_
 refine fa tok ?_
 refine ld tok ?_
 refine rP rfl (cQ rfl rfl) (nx ?_)
 refine bC h0 rfl (fun hc h0 => ?_) (fun hc h0 => ?_)
 refine sq [0] (pa (nx (aA (aI ?_))))
 cases h0
 exact r0t 4 rfl
 refine sk (sq [0] (pa (nx (aA ?_))))
 cases h0
 exact r0t 4 rfl
theorem aJx {p0:List bE} {p1:List bE} {r:Bool} (h0:qN p0 p1=some r):FnC Tryz.prog 94 [] [dL aT p0,(dL aT p1)] [] (dB r):=by
 refine fi 27 tok Tryz.func94 ?_
 unfold qN at h0
 refine sq [0] (pa (nx (aB (sq [0,1,2,3,4] ?_))))
 refine pm ?_
 refine rP rfl (aJ tok rfl rfl rfl) (pm ?_)
 refine rP rfl (aJ tok rfl rfl rfl) (rP rfl (cQ rfl rfl) (nx ?_))
 refine bC h0 rfl (fun hc h0 => ?_) (fun hc h0 => ?_)
 refine sq [0] (pa (nx (aA (aI ?_))))
 cases h0
 exact r0t 4 rfl
 refine sk ?_
 obtain ⟨v9x,h1,h0⟩:=bnd h0
 refine dH v9x (fun v9=>⟨(fun _ => .dead),lks [.no, .no, .no]⟩) ?_ ?_
 refine sq [0] (pa (nx (aE ?_)))
 refine aZ (fun s5=>⟨aC (aC (aC ((fun _ => .dead)) 0 (dL aT p0)) 1 (dL aT p1)) 5 (dI s5),lks [.no, .no, .no]⟩) h1 ?_ (fun s5 y h2 => ?_)
 exact wk [0,1,2]
 refine aB (sq [0,1,2,3] (pm ?_))
 refine pm ?_
 refine rP rfl (aJ tok rfl rfl rfl) (rP rfl (bK rfl rfl) (nx ?_))
 refine bC h2 rfl (fun hc h2 => ?_) (fun hc h2 => ?_)
 refine sk (aB (aE (aB (aH (is:=[0,1,2,3,4,5,6,7,8,9]) [0,0,3,7,0,0,48,112,255,511] follows (by kernel_rfl) (tpm ?_)))))
 refine tpm ?_
 obtain ⟨v6,hv6,h2⟩:=bnd h2
 refine tP rfl (cE tok hv6 rfl rfl rfl rfl rfl rfl) (tP rfl (bJ tok rfl rfl rfl (by repeat (first | exact gV.z _ | apply gV.t))) (tpm ?_))
 refine tpm ?_
 obtain ⟨v7,hv7,h2⟩:=bnd h2
 refine tP rfl (cE tok hv7 rfl rfl rfl rfl rfl rfl) (tP rfl (bJ tok rfl rfl rfl (by repeat (first | exact gV.z _ | apply gV.t))) ?_)
 obtain ⟨v8,hv8,h2⟩:=bnd h2
 refine jW rfl w0 rfl (cV 3 (aL3 hv8) rfl rfl rfl) (tP rfl (bW rfl) (bN ?_))
 refine ⟨by kernel_rfl,?_⟩
 refine aG ?_
 refine bM h2 rfl (fun hc h2 => ?_) (fun hc h2 => ?_)
 refine sq [0] (pa (nx (aA ?_)))
 refine aX (aI ?_)
 cases h2
 refine dM ⟨_,rfl,fun e => ?_⟩
 subst e
 refine aX ?_
 replace h0:=eT h0
 refine aI ?_
 cases h0
 exact r0t 4 rfl
 refine cX (bB (aG (sr [0,1,2] (pm ?_))))
 refine rP rfl (bH rfl rfl) (pa (aY ?_))
 refine bS ?_
 cases h2
 refine ⟨_,rfl,?_⟩
 exact wk [0,1,2]
 refine bF (bT ?_)
 cases h2
 refine bU ⟨_,rfl,fun e => ?_⟩
 subst e
 refine aQ (aG ?_)
 refine ⟨_,rfl,?_⟩
 exact wk [0,1,2]
 rintro v9 rfl
 replace h0:=gS h0
 refine sq [0] (pa (nx (aA ?_)))
 cases h0
 exact r0t 4 rfl
theorem aFs {p0:aO} {p1:aO} {r:Bool} (h0:mM p0 p1=some r):FnC Tryz.prog 159 [] [.agg [dI p0.Every,(dI p0.Rest),(dB p0.Leap)], .agg [dI p1.Every,(dI p1.Rest),(dB p1.Leap)]] [] (dB r):=by
 refine fi 20 tok Tryz.func159 ?_
 unfold mM at h0
 refine sq [0,1,2] (bxx 3 ?_)
 refine bxx 4 ?_
 refine pa (nx (aB (sq [0,1,2,3,4] ?_)))
 refine fa tok ?_
 refine ld tok ?_
 refine fa tok ?_
 refine ld tok ?_
 refine rP rfl (cQ rfl rfl) (nx ?_)
 refine bC h0 rfl (fun hc h0 => ?_) (fun hc h0 => ?_)
 refine sq [0] (pa (nx (aA (aI ?_))))
 cases h0
 exact r0t 4 rfl
 refine sk (aB (sq [0,1,2,3,4] (fa tok ?_)))
 refine ld tok ?_
 refine fa tok ?_
 refine ld tok ?_
 refine rP rfl (cQ rfl rfl) (nx ?_)
 refine bC h0 rfl (fun hc h0 => ?_) (fun hc h0 => ?_)
 refine sq [0] (pa (nx (aA (aI ?_))))
 cases h0
 exact r0t 4 rfl
 refine sk (aB (sq [0,1,2,3,4] (fa tok ?_)))
 refine ld tok ?_
 refine fa tok ?_
 refine ld tok ?_
 refine rP rfl (aIa tok rfl rfl rfl rfl) (nx ?_)
 refine bM h0 rfl (fun hc h0 => ?_) (fun hc h0 => ?_)
 refine sq [0] (pa (nx (aA (aI ?_))))
 cases h0
 exact r0t 4 rfl
 refine sk (sq [0] (pa (nx (aA ?_))))
 cases h0
 exact r0t 4 rfl
theorem aEf {p0:List aO} {p1:List aO} {r:Bool} (h0:lF p0 p1=some r):FnC Tryz.prog 95 [] [dL aK p0,(dL aK p1)] [] (dB r):=by
 refine fi 27 tok Tryz.func95 ?_
 unfold lF at h0
 refine sq [0] (pa (nx (aB (sq [0,1,2,3,4] ?_))))
 refine pm ?_
 refine rP rfl (aJ tok rfl rfl rfl) (pm ?_)
 refine rP rfl (aJ tok rfl rfl rfl) (rP rfl (cQ rfl rfl) (nx ?_))
 refine bC h0 rfl (fun hc h0 => ?_) (fun hc h0 => ?_)
 refine sq [0] (pa (nx (aA (aI ?_))))
 cases h0
 exact r0t 4 rfl
 refine sk ?_
 obtain ⟨v9x,h1,h0⟩:=bnd h0
 refine dH v9x (fun v9=>⟨(fun _ => .dead),lks [.no, .no, .no]⟩) ?_ ?_
 refine sq [0] (pa (nx (aE ?_)))
 refine aZ (fun s5=>⟨aC (aC (aC ((fun _ => .dead)) 0 (dL aK p0)) 1 (dL aK p1)) 5 (dI s5),lks [.no, .no, .no]⟩) h1 ?_ (fun s5 y h2 => ?_)
 exact wk [0,1,2]
 refine aB (sq [0,1,2,3] (pm ?_))
 refine pm ?_
 refine rP rfl (aJ tok rfl rfl rfl) (rP rfl (bK rfl rfl) (nx ?_))
 refine bC h2 rfl (fun hc h2 => ?_) (fun hc h2 => ?_)
 refine sk (aB (aE (aB (aH (is:=[0,1,2,3,4,5,6,7,8,9]) [0,0,3,7,0,0,48,112,255,511] follows (by kernel_rfl) (tpm ?_)))))
 refine tpm ?_
 obtain ⟨v6,hv6,h2⟩:=bnd h2
 refine tP rfl (cE tok hv6 rfl rfl rfl rfl rfl rfl) (tP rfl (bJ tok rfl rfl rfl (by repeat (first | exact gV.z _ | apply gV.t))) (tpm ?_))
 refine tpm ?_
 obtain ⟨v7,hv7,h2⟩:=bnd h2
 refine tP rfl (cE tok hv7 rfl rfl rfl rfl rfl rfl) (tP rfl (bJ tok rfl rfl rfl (by repeat (first | exact gV.z _ | apply gV.t))) ?_)
 obtain ⟨v8,hv8,h2⟩:=bnd h2
 refine jW rfl w0 rfl (cV 3 (aFs hv8) rfl rfl rfl) (tP rfl (bW rfl) (bN ?_))
 refine ⟨by kernel_rfl,?_⟩
 refine aG ?_
 refine bM h2 rfl (fun hc h2 => ?_) (fun hc h2 => ?_)
 refine sq [0] (pa (nx (aA ?_)))
 refine aX (aI ?_)
 cases h2
 refine dM ⟨_,rfl,fun e => ?_⟩
 subst e
 refine aX ?_
 replace h0:=eT h0
 refine aI ?_
 cases h0
 exact r0t 4 rfl
 refine cX (bB (aG (sr [0,1,2] (pm ?_))))
 refine rP rfl (bH rfl rfl) (pa (aY ?_))
 refine bS ?_
 cases h2
 refine ⟨_,rfl,?_⟩
 exact wk [0,1,2]
 refine bF (bT ?_)
 cases h2
 refine bU ⟨_,rfl,fun e => ?_⟩
 subst e
 refine aQ (aG ?_)
 refine ⟨_,rfl,?_⟩
 exact wk [0,1,2]
 rintro v9 rfl
 replace h0:=gS h0
 refine sq [0] (pa (nx (aA ?_)))
 cases h0
 exact r0t 4 rfl
theorem aFr {p0:aF} {p1:aF} {r:Bool} (h0:mL p0 p1=some r):FnC Tryz.prog 44 [] [.agg [dS p0.Name,(dL aT p0.Months),(dL aK p0.Rules),(dI p0.Week)], .agg [dS p1.Name,(dL aT p1.Months),(dL aK p1.Rules),(dI p1.Week)]] [] (dB r):=by
 refine fi 27 tok Tryz.func44 ?_
 unfold mL at h0
 refine sq [0,1,2] (bxx 3 ?_)
 refine bxx 4 ?_
 refine pa (nx (aB (sq [0,1,2,3,4] ?_)))
 refine fa tok ?_
 refine ld tok ?_
 refine fa tok ?_
 refine ld tok ?_
 refine rP rfl (zO rfl rfl) (nx ?_)
 refine bC h0 rfl (fun hc h0 => ?_) (fun hc h0 => ?_)
 refine sq [0] (pa (nx (aA (aI ?_))))
 cases h0
 exact r0t 4 rfl
 refine sk (aB (sq [0,1,2,3,4,5] (fa tok ?_)))
 refine ld tok ?_
 refine fa tok ?_
 refine ld tok ?_
 obtain ⟨v1,hv1,h0⟩:=bnd h0
 refine rS rfl (aM 5 (aJx hv1) rfl rfl rfl) (rP rfl (bW rfl) (nx ?_))
 refine bM h0 rfl (fun hc h0 => ?_) (fun hc h0 => ?_)
 refine sq [0] (pa (nx (aA (aI ?_))))
 cases h0
 exact r0t 4 rfl
 refine sk (aB (sq [0,1,2,3,4,5] (fa tok ?_)))
 refine ld tok ?_
 refine fa tok ?_
 refine ld tok ?_
 obtain ⟨v2,hv2,h0⟩:=bnd h0
 refine rS rfl (aM 5 (aEf hv2) rfl rfl rfl) (rP rfl (bW rfl) (nx ?_))
 refine bM h0 rfl (fun hc h0 => ?_) (fun hc h0 => ?_)
 refine sq [0] (pa (nx (aA (aI ?_))))
 cases h0
 exact r0t 4 rfl
 refine sk (aB (sq [0,1,2,3,4] (fa tok ?_)))
 refine ld tok ?_
 refine fa tok ?_
 refine ld tok ?_
 refine rP rfl (cQ rfl rfl) (nx ?_)
 refine bC h0 rfl (fun hc h0 => ?_) (fun hc h0 => ?_)
 refine sq [0] (pa (nx (aA (aI ?_))))
 cases h0
 exact r0t 4 rfl
 refine sk (sq [0] (pa (nx (aA ?_))))
 cases h0
 exact r0t 4 rfl
theorem aFt {p0:aW} {p1:aW} {r:Bool} (h0:mN p0 p1=some r):FnC Tryz.prog 19 [] [.agg [dS p0.Name,(dL aS p0.Works.Arbors),(dL bV p0.Works.Meshes),(dI p0.Minute),(dI p0.Hour),(dI p0.Escape),(dI p0.Teeth),(dI p0.Beats),(dS p0.Calendar.Name),(dL aT p0.Calendar.Months),(dL aK p0.Calendar.Rules),(dI p0.Calendar.Week),(dL cI p0.Cam),(dI p0.Strike)], .agg [dS p1.Name,(dL aS p1.Works.Arbors),(dL bV p1.Works.Meshes),(dI p1.Minute),(dI p1.Hour),(dI p1.Escape),(dI p1.Teeth),(dI p1.Beats),(dS p1.Calendar.Name),(dL aT p1.Calendar.Months),(dL aK p1.Calendar.Rules),(dI p1.Calendar.Week),(dL cI p1.Cam),(dI p1.Strike)]] [] (dB r):=by
 refine fi 58 tok Tryz.func19 ?_
 unfold mN at h0
 refine sq [0,1,2] (bxx 3 ?_)
 refine bxx 4 ?_
 refine pa (nx (aB (sq [0,1,2,3,4] ?_)))
 refine fa tok ?_
 refine ld tok ?_
 refine fa tok ?_
 refine ld tok ?_
 refine rP rfl (zO rfl rfl) (nx ?_)
 refine bC h0 rfl (fun hc h0 => ?_) (fun hc h0 => ?_)
 refine sq [0] (pa (nx (aA (aI ?_))))
 cases h0
 exact r0t 4 rfl
 refine sk (aB (sq [0,1,2,3,4,5] (fa tok ?_)))
 refine rL rfl (bA tok rfl rfl rfl rfl) (fa tok ?_)
 refine rL rfl (bA tok rfl rfl rfl rfl) ?_
 obtain ⟨v1,hv1,h0⟩:=bnd h0
 refine rS rfl (aM 5 (aL4 hv1) rfl rfl rfl) (rP rfl (bW rfl) (nx ?_))
 refine bM h0 rfl (fun hc h0 => ?_) (fun hc h0 => ?_)
 refine sq [0] (pa (nx (aA (aI ?_))))
 cases h0
 exact r0t 4 rfl
 refine sk (aB (sq [0,1,2,3,4] (fa tok ?_)))
 refine ld tok ?_
 refine fa tok ?_
 refine ld tok ?_
 refine rP rfl (cQ rfl rfl) (nx ?_)
 refine bC h0 rfl (fun hc h0 => ?_) (fun hc h0 => ?_)
 refine sq [0] (pa (nx (aA (aI ?_))))
 cases h0
 exact r0t 4 rfl
 refine sk (aB (sq [0,1,2,3,4] (fa tok ?_)))
 refine ld tok ?_
 refine fa tok ?_
 refine ld tok ?_
 refine rP rfl (cQ rfl rfl) (nx ?_)
 refine bC h0 rfl (fun hc h0 => ?_) (fun hc h0 => ?_)
 refine sq [0] (pa (nx (aA (aI ?_))))
 cases h0
 exact r0t 4 rfl
 refine sk (aB (sq [0,1,2,3,4] (fa tok ?_)))
 refine ld tok ?_
 refine fa tok ?_
 refine ld tok ?_
 refine rP rfl (cQ rfl rfl) (nx ?_)
 refine bC h0 rfl (fun hc h0 => ?_) (fun hc h0 => ?_)
 refine sq [0] (pa (nx (aA (aI ?_))))
 cases h0
 exact r0t 4 rfl
 refine sk (aB (sq [0,1,2,3,4] (fa tok ?_)))
 refine ld tok ?_
 refine fa tok ?_
 refine ld tok ?_
 refine rP rfl (cQ rfl rfl) (nx ?_)
 refine bC h0 rfl (fun hc h0 => ?_) (fun hc h0 => ?_)
 refine sq [0] (pa (nx (aA (aI ?_))))
 cases h0
 exact r0t 4 rfl
 refine sk (aB (sq [0,1,2,3,4] (fa tok ?_)))
 refine ld tok ?_
 refine fa tok ?_
 refine ld tok ?_
 refine rP rfl (cQ rfl rfl) (nx ?_)
 refine bC h0 rfl (fun hc h0 => ?_) (fun hc h0 => ?_)
 refine sq [0] (pa (nx (aA (aI ?_))))
 cases h0
 exact r0t 4 rfl
 refine sk (aB (sq [0,1,2,3,4,5] (fa tok ?_)))
 refine rL rfl (bA tok rfl rfl rfl rfl) (fa tok ?_)
 refine rL rfl (bA tok rfl rfl rfl rfl) ?_
 obtain ⟨v2,hv2,h0⟩:=bnd h0
 refine rS rfl (aM 5 (aFr hv2) rfl rfl rfl) (rP rfl (bW rfl) (nx ?_))
 refine bM h0 rfl (fun hc h0 => ?_) (fun hc h0 => ?_)
 refine sq [0] (pa (nx (aA (aI ?_))))
 cases h0
 exact r0t 4 rfl
 refine sk (aB (sq [0,1,2,3,4,5] (fa tok ?_)))
 refine ld tok ?_
 refine fa tok ?_
 refine ld tok ?_
 obtain ⟨v3,hv3,h0⟩:=bnd h0
 refine rS rfl (aM 5 (xB hv3) rfl rfl rfl) (rP rfl (bW rfl) (nx ?_))
 refine bM h0 rfl (fun hc h0 => ?_) (fun hc h0 => ?_)
 refine sq [0] (pa (nx (aA (aI ?_))))
 cases h0
 exact r0t 4 rfl
 refine sk (aB (sq [0,1,2,3,4] (fa tok ?_)))
 refine ld tok ?_
 refine fa tok ?_
 refine ld tok ?_
 refine rP rfl (cQ rfl rfl) (nx ?_)
 refine bC h0 rfl (fun hc h0 => ?_) (fun hc h0 => ?_)
 refine sq [0] (pa (nx (aA (aI ?_))))
 cases h0
 exact r0t 4 rfl
 refine sk (sq [0] (pa (nx (aA ?_))))
 cases h0
 exact r0t 4 rfl
theorem aO4 {p0:gY} {p1:gY} {r:Bool} (h0:uL p0 p1=some r):FnC Tryz.prog 20 [] [.agg [dI p0.Year,(dI p0.Month),(dI p0.Day)], .agg [dI p1.Year,(dI p1.Month),(dI p1.Day)]] [] (dB r):=by
 refine fi 20 tok Tryz.func20 ?_
 unfold uL at h0
 refine sq [0,1,2] (bxx 3 ?_)
 refine bxx 4 ?_
 refine pa (nx (aB (sq [0,1,2,3,4] ?_)))
 refine fa tok ?_
 refine ld tok ?_
 refine fa tok ?_
 refine ld tok ?_
 refine rP rfl (cQ rfl rfl) (nx ?_)
 refine bC h0 rfl (fun hc h0 => ?_) (fun hc h0 => ?_)
 refine sq [0] (pa (nx (aA (aI ?_))))
 cases h0
 exact r0t 4 rfl
 refine sk (aB (sq [0,1,2,3,4] (fa tok ?_)))
 refine ld tok ?_
 refine fa tok ?_
 refine ld tok ?_
 refine rP rfl (cQ rfl rfl) (nx ?_)
 refine bC h0 rfl (fun hc h0 => ?_) (fun hc h0 => ?_)
 refine sq [0] (pa (nx (aA (aI ?_))))
 cases h0
 exact r0t 4 rfl
 refine sk (aB (sq [0,1,2,3,4] (fa tok ?_)))
 refine ld tok ?_
 refine fa tok ?_
 refine ld tok ?_
 refine rP rfl (cQ rfl rfl) (nx ?_)
 refine bC h0 rfl (fun hc h0 => ?_) (fun hc h0 => ?_)
 refine sq [0] (pa (nx (aA (aI ?_))))
 cases h0
 exact r0t 4 rfl
 refine sk (sq [0] (pa (nx (aA ?_))))
 cases h0
 exact r0t 4 rfl
theorem aEg {p0:bX} {p1:bX} {r:Bool} (h0:lG p0 p1=some r):FnC Tryz.prog 21 [] [.agg [dL cI p0.Cam,(dI p0.Months),(dI p0.Teeth),(dI p0.At),(dI p0.Day),(dI p0.Week),(dI p0.Weekday)], .agg [dL cI p1.Cam,(dI p1.Months),(dI p1.Teeth),(dI p1.At),(dI p1.Day),(dI p1.Week),(dI p1.Weekday)]] [] (dB r):=by
 refine fi 41 tok Tryz.func21 ?_
 unfold lG at h0
 refine sq [0,1,2] (bxx 3 ?_)
 refine bxx 4 ?_
 refine pa (nx (aB (sq [0,1,2,3,4,5] ?_)))
 refine fa tok ?_
 refine ld tok ?_
 refine fa tok ?_
 refine ld tok ?_
 obtain ⟨v1,hv1,h0⟩:=bnd h0
 refine rS rfl (aM 5 (xB hv1) rfl rfl rfl) (rP rfl (bW rfl) (nx ?_))
 refine bM h0 rfl (fun hc h0 => ?_) (fun hc h0 => ?_)
 refine sq [0] (pa (nx (aA (aI ?_))))
 cases h0
 exact r0t 4 rfl
 refine sk (aB (sq [0,1,2,3,4] (fa tok ?_)))
 refine ld tok ?_
 refine fa tok ?_
 refine ld tok ?_
 refine rP rfl (cQ rfl rfl) (nx ?_)
 refine bC h0 rfl (fun hc h0 => ?_) (fun hc h0 => ?_)
 refine sq [0] (pa (nx (aA (aI ?_))))
 cases h0
 exact r0t 4 rfl
 refine sk (aB (sq [0,1,2,3,4] (fa tok ?_)))
 refine ld tok ?_
 refine fa tok ?_
 refine ld tok ?_
 refine rP rfl (cQ rfl rfl) (nx ?_)
 refine bC h0 rfl (fun hc h0 => ?_) (fun hc h0 => ?_)
 refine sq [0] (pa (nx (aA (aI ?_))))
 cases h0
 exact r0t 4 rfl
 refine sk (aB (sq [0,1,2,3,4] (fa tok ?_)))
 refine ld tok ?_
 refine fa tok ?_
 refine ld tok ?_
 refine rP rfl (cQ rfl rfl) (nx ?_)
 refine bC h0 rfl (fun hc h0 => ?_) (fun hc h0 => ?_)
 refine sq [0] (pa (nx (aA (aI ?_))))
 cases h0
 exact r0t 4 rfl
 refine sk (aB (sq [0,1,2,3,4] (fa tok ?_)))
 refine ld tok ?_
 refine fa tok ?_
 refine ld tok ?_
 refine rP rfl (cQ rfl rfl) (nx ?_)
 refine bC h0 rfl (fun hc h0 => ?_) (fun hc h0 => ?_)
 refine sq [0] (pa (nx (aA (aI ?_))))
 cases h0
 exact r0t 4 rfl
 refine sk (aB (sq [0,1,2,3,4] (fa tok ?_)))
 refine ld tok ?_
 refine fa tok ?_
 refine ld tok ?_
 refine rP rfl (cQ rfl rfl) (nx ?_)
 refine bC h0 rfl (fun hc h0 => ?_) (fun hc h0 => ?_)
 refine sq [0] (pa (nx (aA (aI ?_))))
 cases h0
 exact r0t 4 rfl
 refine sk (aB (sq [0,1,2,3,4] (fa tok ?_)))
 refine ld tok ?_
 refine fa tok ?_
 refine ld tok ?_
 refine rP rfl (cQ rfl rfl) (nx ?_)
 refine bC h0 rfl (fun hc h0 => ?_) (fun hc h0 => ?_)
 refine sq [0] (pa (nx (aA (aI ?_))))
 cases h0
 exact r0t 4 rfl
 refine sk (sq [0] (pa (nx (aA ?_))))
 cases h0
 exact r0t 4 rfl
theorem aQ1 {p0:wN} {p1:wN} {r:Bool} (h0:xC p0 p1=some r):FnC Tryz.prog 11 [] [.agg [dS p0.Movement.Name,(dL aS p0.Movement.Works.Arbors),(dL bV p0.Movement.Works.Meshes),(dI p0.Movement.Minute),(dI p0.Movement.Hour),(dI p0.Movement.Escape),(dI p0.Movement.Teeth),(dI p0.Movement.Beats),(dS p0.Movement.Calendar.Name),(dL aT p0.Movement.Calendar.Months),(dL aK p0.Movement.Calendar.Rules),(dI p0.Movement.Calendar.Week),(dL cI p0.Movement.Cam),(dI p0.Movement.Strike),(dI p0.Start.Year),(dI p0.Start.Month),(dI p0.Start.Day),(dI p0.First),(dI p0.Clock),(dL cI p0.Dial.Cam),(dI p0.Dial.Months),(dI p0.Dial.Teeth),(dI p0.Dial.At),(dI p0.Dial.Day),(dI p0.Dial.Week),(dI p0.Dial.Weekday)], .agg [dS p1.Movement.Name,(dL aS p1.Movement.Works.Arbors),(dL bV p1.Movement.Works.Meshes),(dI p1.Movement.Minute),(dI p1.Movement.Hour),(dI p1.Movement.Escape),(dI p1.Movement.Teeth),(dI p1.Movement.Beats),(dS p1.Movement.Calendar.Name),(dL aT p1.Movement.Calendar.Months),(dL aK p1.Movement.Calendar.Rules),(dI p1.Movement.Calendar.Week),(dL cI p1.Movement.Cam),(dI p1.Movement.Strike),(dI p1.Start.Year),(dI p1.Start.Month),(dI p1.Start.Day),(dI p1.First),(dI p1.Clock),(dL cI p1.Dial.Cam),(dI p1.Dial.Months),(dI p1.Dial.Teeth),(dI p1.Dial.At),(dI p1.Dial.Day),(dI p1.Dial.Week),(dI p1.Dial.Weekday)]] [] (dB r):=by
 refine fi 33 tok Tryz.func11 ?_
 unfold xC at h0
 refine sq [0,1,2] (bxx 3 ?_)
 refine bxx 4 ?_
 refine pa (nx (aB (sq [0,1,2,3,4,5] ?_)))
 refine fa tok ?_
 refine rL rfl (bA tok rfl rfl rfl rfl) (fa tok ?_)
 refine rL rfl (bA tok rfl rfl rfl rfl) ?_
 obtain ⟨v1,hv1,h0⟩:=bnd h0
 refine rS rfl (aM 5 (aFt hv1) rfl rfl rfl) (rP rfl (bW rfl) (nx ?_))
 refine bM h0 rfl (fun hc h0 => ?_) (fun hc h0 => ?_)
 refine sq [0] (pa (nx (aA (aI ?_))))
 cases h0
 exact r0t 4 rfl
 refine sk (aB (sq [0,1,2,3,4,5] (fa tok ?_)))
 refine rL rfl (bA tok rfl rfl rfl rfl) (fa tok ?_)
 refine rL rfl (bA tok rfl rfl rfl rfl) ?_
 obtain ⟨v2,hv2,h0⟩:=bnd h0
 refine rS rfl (aM 5 (aO4 hv2) rfl rfl rfl) (rP rfl (bW rfl) (nx ?_))
 refine bM h0 rfl (fun hc h0 => ?_) (fun hc h0 => ?_)
 refine sq [0] (pa (nx (aA (aI ?_))))
 cases h0
 exact r0t 4 rfl
 refine sk (aB (sq [0,1,2,3,4] (fa tok ?_)))
 refine ld tok ?_
 refine fa tok ?_
 refine ld tok ?_
 refine rP rfl (cQ rfl rfl) (nx ?_)
 refine bC h0 rfl (fun hc h0 => ?_) (fun hc h0 => ?_)
 refine sq [0] (pa (nx (aA (aI ?_))))
 cases h0
 exact r0t 4 rfl
 refine sk (aB (sq [0,1,2,3,4] (fa tok ?_)))
 refine ld tok ?_
 refine fa tok ?_
 refine ld tok ?_
 refine rP rfl (cQ rfl rfl) (nx ?_)
 refine bC h0 rfl (fun hc h0 => ?_) (fun hc h0 => ?_)
 refine sq [0] (pa (nx (aA (aI ?_))))
 cases h0
 exact r0t 4 rfl
 refine sk (aB (sq [0,1,2,3,4,5] (fa tok ?_)))
 refine rL rfl (bA tok rfl rfl rfl rfl) (fa tok ?_)
 refine rL rfl (bA tok rfl rfl rfl rfl) ?_
 obtain ⟨v3,hv3,h0⟩:=bnd h0
 refine rS rfl (aM 5 (aEg hv3) rfl rfl rfl) (rP rfl (bW rfl) (nx ?_))
 refine bM h0 rfl (fun hc h0 => ?_) (fun hc h0 => ?_)
 refine sq [0] (pa (nx (aA (aI ?_))))
 cases h0
 exact r0t 4 rfl
 refine sk (sq [0] (pa (nx (aA ?_))))
 cases h0
 exact r0t 4 rfl
theorem aGi {p0:rR} {p1:rR} {r:Bool} (h0:rO p0 p1=some r):FnC Tryz.prog 6 [] [.agg [dS p0.Sim.Movement.Name,(dL aS p0.Sim.Movement.Works.Arbors),(dL bV p0.Sim.Movement.Works.Meshes),(dI p0.Sim.Movement.Minute),(dI p0.Sim.Movement.Hour),(dI p0.Sim.Movement.Escape),(dI p0.Sim.Movement.Teeth),(dI p0.Sim.Movement.Beats),(dS p0.Sim.Movement.Calendar.Name),(dL aT p0.Sim.Movement.Calendar.Months),(dL aK p0.Sim.Movement.Calendar.Rules),(dI p0.Sim.Movement.Calendar.Week),(dL cI p0.Sim.Movement.Cam),(dI p0.Sim.Movement.Strike),(dI p0.Sim.Start.Year),(dI p0.Sim.Start.Month),(dI p0.Sim.Start.Day),(dI p0.Sim.First),(dI p0.Sim.Clock),(dL cI p0.Sim.Dial.Cam),(dI p0.Sim.Dial.Months),(dI p0.Sim.Dial.Teeth),(dI p0.Sim.Dial.At),(dI p0.Sim.Dial.Day),(dI p0.Sim.Dial.Week),(dI p0.Sim.Dial.Weekday)], .agg [dS p1.Sim.Movement.Name,(dL aS p1.Sim.Movement.Works.Arbors),(dL bV p1.Sim.Movement.Works.Meshes),(dI p1.Sim.Movement.Minute),(dI p1.Sim.Movement.Hour),(dI p1.Sim.Movement.Escape),(dI p1.Sim.Movement.Teeth),(dI p1.Sim.Movement.Beats),(dS p1.Sim.Movement.Calendar.Name),(dL aT p1.Sim.Movement.Calendar.Months),(dL aK p1.Sim.Movement.Calendar.Rules),(dI p1.Sim.Movement.Calendar.Week),(dL cI p1.Sim.Movement.Cam),(dI p1.Sim.Movement.Strike),(dI p1.Sim.Start.Year),(dI p1.Sim.Start.Month),(dI p1.Sim.Start.Day),(dI p1.Sim.First),(dI p1.Sim.Clock),(dL cI p1.Sim.Dial.Cam),(dI p1.Sim.Dial.Months),(dI p1.Sim.Dial.Teeth),(dI p1.Sim.Dial.At),(dI p1.Sim.Dial.Day),(dI p1.Sim.Dial.Week),(dI p1.Sim.Dial.Weekday)]] [] (dB r):=by
 refine fi 11 tok Tryz.func6 ?_
 unfold rO at h0
 refine sq [0,1,2] (bxx 3 ?_)
 refine bxx 4 ?_
 refine pa (nx (aB (sq [0,1,2,3,4,5] ?_)))
 refine fa tok ?_
 refine rL rfl (bA tok rfl rfl rfl rfl) (fa tok ?_)
 refine rL rfl (bA tok rfl rfl rfl rfl) ?_
 obtain ⟨v1,hv1,h0⟩:=bnd h0
 refine rS rfl (aM 5 (aQ1 hv1) rfl rfl rfl) (rP rfl (bW rfl) (nx ?_))
 refine bM h0 rfl (fun hc h0 => ?_) (fun hc h0 => ?_)
 refine sq [0] (pa (nx (aA (aI ?_))))
 cases h0
 exact r0t 4 rfl
 refine sk (sq [0] (pa (nx (aA ?_))))
 cases h0
 exact r0t 4 rfl
theorem tF {p0:Int} {r:ByteArray} (h0:gF p0=some r):FnC Tryz.prog 160 [] [dI p0] [] (dS r):=by
 refine fi 20 tok Tryz.func160 ?_
 unfold gF at h0
 refine sq [0] (pa (nx (aB (sq [0,1] ?_))))
 refine pm ?_
 refine rP rfl (gW rfl rfl) (nx ?_)
 refine bC h0 rfl (fun hc h0 => ?_) (fun hc h0 => ?_)
 refine sq [0] (pa (nx (aA (aI ?_))))
 cases h0
 exact r0t 2 rfl
 refine sk (sq [0] (pa (nx ?_)))
 obtain ⟨v9,h1,h0⟩:=bnd h0
 refine bI ⟨aC ((fun _ => .dead)) 3 (dS v9),lks [.no, .no, .no]⟩ ?_ ?_
 refine aE ?_
 refine aZ (fun s5=>⟨aC (aC ((fun _ => .dead)) 0 (dI s5.1)) 3 (dS s5.2),lks [.no, .no, .no]⟩) h1 ?_ (fun s5 y h2 => ?_)
 exact wk [0,1,2]
 refine aB (sq [0,1] (pm ?_))
 refine rP rfl (gT rfl rfl) (nx ?_)
 refine bC h2 rfl (fun hc h2 => ?_) (fun hc h2 => ?_)
 refine sk (aE (sq [0,1,2,3,4,5,6,7,8] (pm ?_)))
 refine rP rfl (kU rfl rfl (by decide)) (rP rfl (bH rfl rfl) (rP rfl (aKe tok rfl rfl rfl rfl rfl) (rS rfl (mE 3 tok cU8 [IntKind.u8.wrap (w64 (48+(s5.1.tmod 10)))] rfl rfl rfl (by repeat (first | exact Els.nil _ | apply Els.cons (cs:=[.d _]) rfl rfl rfl | apply Els.cons (cs:=_ :: _) rfl rfl rfl)) rfl rfl rfl (by repeat (first | exact cR.nil | (apply cR.cons; (repeat (first | exact eZ.nil | apply eZ.cons))))) rfl rfl) (rS rfl (aVj tok rfl rfl rfl rfl rfl rfl rfl rfl rfl rfl) (pm ?_)))))
 obtain ⟨hq7,h2⟩:=cO h2
 refine rP rfl (aKd rfl rfl hq7) (pa (nx (sr [0,1,2] ?_)))
 refine pm ?_
 refine rP rfl (tK rfl rfl (by decide)) (pa (aY ?_))
 refine bB (bS ?_)
 cases h2
 refine ⟨_,rfl,?_⟩
 exact wk [0,1,2]
 refine bF (bT ?_)
 cases h2
 refine bU ⟨_,rfl,fun e => ?_⟩
 subst e
 refine aQ (aG ?_)
 exact wk [0,1,2]
 refine sq [0,1,2] (pm ?_)
 obtain ⟨hq10,h0⟩:=cO h0
 refine rP rfl (aKd rfl rfl hq10) (pa (nx (aA ?_)))
 cases h0
 exact r0t 2 rfl
theorem rD {p0:List Int} {p1:Int} {r:Int × List Int} (h0:fZ p0 p1=some r):FnC Tryz.prog 48 [.live [⟨2,1, .data (List.map cI p0)⟩]] [.own 0 0 (p0).length,(dI p1)] [.live [⟨2,1, .data (List.map cI r.2)⟩]] (dI r.1):=by
 refine fi 19 tok Tryz.func48 ?_
 unfold fZ at h0
 refine sq [0] (pa (nx ?_))
 obtain ⟨v5,h1,h0⟩:=bnd h0
 refine bI ⟨aC ((fun _ => .dead)) 1 (dI v5.1),lks [.live [⟨2,1, .data (List.map cI v5.2)⟩], .no, .no]⟩ ?_ ?_
 refine sq [0] (pa (nx (aE ?_)))
 refine aZ (fun s3=>⟨aC (aC (aC ((fun _ => .dead)) 0 (.own 0 0 (s3.2.2).length)) 1 (dI s3.1)) 5 (dI s3.2.1),lks [.live [⟨2,1, .data (List.map cI s3.2.2)⟩], .no, .no]⟩) h1 ?_ (fun s3 y h2 => ?_)
 exact wk [0,1,2]
 refine aB (sq [0,1,2,3] (pm ?_))
 refine rP rfl (aL (r := .own _ _ _) rfl) (rL rfl (mF tok rfl rfl rfl rfl rfl) (rP rfl (bK rfl rfl) (nx ?_)))
 refine bC h2 rfl (fun hc h2 => ?_) (fun hc h2 => ?_)
 refine sk (aB (aE (sq [0,1,2,3,4] (rP rfl (aL (r := .own _ _ _) rfl) (pm ?_)))))
 refine pm ?_
 obtain ⟨v4,hv4,h2⟩:=bnd h2
 refine rL rfl (fB tok hv4 rfl rfl rfl rfl rfl rfl rfl rfl) (rw0 rfl w0 (sL (cs:=[.d _]) tok s3.1 (dP hv4).2.1 rfl rfl rfl rfl rfl rfl rfl rfl) (nx (sr [0,1,2] (pm ?_))))
 refine rP rfl (bH rfl rfl) (pa (aY ?_))
 refine bB (aG (sr [0,1,2] (pm ?_)))
 refine rP rfl (bH rfl rfl) (pa (aY ?_))
 refine bS ?_
 cases h2
 refine ⟨_,rfl,?_⟩
 exact wk [0,1,2]
 refine bF (bT ?_)
 cases h2
 refine bU ⟨_,rfl,fun e => ?_⟩
 subst e
 refine aQ (aG ?_)
 exact wk [0,1,2]
 refine sq [0,1] (pm ?_)
 refine pa (nx (aA ?_))
 cases h0
 exact xF (rs:=[.tmp 4]) 1 rfl rfl
theorem aCq {p0:List bO} {p1:Int} {r:Int × List bO} (h0:kI p0 p1=some r):FnC Tryz.prog 96 [.live [⟨88,2, .av (fA 1 aS p0)⟩], .live (pC 2 1 aS p0)] [.own 0 0 (p0).length,(dI p1)] [.live [⟨88,2, .av (fA 1 aS r.2)⟩], .live (pC 2 1 aS r.2)] (dI r.1):=by
 refine fi 28 tok Tryz.func96 ?_
 unfold kI at h0
 refine sq [0] (pa (nx ?_))
 obtain ⟨v13,h1,h0⟩:=bnd h0
 refine bI ⟨aC ((fun _ => .dead)) 1 (dI v13.1),lks [.live [⟨88,2, .av (fA 1 aS v13.2)⟩], .live (pC 2 1 aS v13.2), .no]⟩ ?_ ?_
 refine sq [0] (pa (nx (aE ?_)))
 refine aZ (fun s7=>⟨aC (aC (aC ((fun _ => .dead)) 0 (.own 0 0 (s7.2.2).length)) 1 (dI s7.1)) 5 (dI s7.2.1),lks [.live [⟨88,2, .av (fA 1 aS s7.2.2)⟩], .live (pC 2 1 aS s7.2.2), .no]⟩) h1 ?_ (fun s7 y h2 => ?_)
 exact wk [0,1,2]
 refine aB (sq [0,1,2,3] (pm ?_))
 refine rP rfl (aL (r := .own _ _ _) rfl) (rL rfl (aV0 tok rfl rfl rfl rfl rfl) (rP rfl (bK rfl rfl) (nx ?_)))
 refine bC h2 rfl (fun hc h2 => ?_) (fun hc h2 => ?_)
 refine sk (aB (aE (sq [0,1,2,3,4,5,6] (rP rfl (aL (r := .own _ _ _) rfl) (pm ?_)))))
 refine pm ?_
 obtain ⟨v8,hv8,h2⟩:=bnd h2
 refine rS rfl (aM 3 (tF hv8) rfl rfl rfl) ?_
 obtain ⟨v9,hv9,h2⟩:=bnd h2
 refine rL rfl (aUy tok hv9 rfl rfl rfl rfl rfl rfl rfl rfl) (rL rfl (aUx tok (dP hv9).2.1 rfl rfl rfl rfl rfl rfl rfl rfl) (rw0 rfl w0 (aXg (cs:=[.d _]) tok (⟨v8,v9.Wheels⟩:bO) (dP hv9).2.1 rfl rfl rfl rfl rfl rfl rfl rfl rfl rfl rfl) (nx (sq [0,1,2] (pm ?_)))))
 refine rP rfl (bH rfl rfl) (pa (nx (sr [0,1,2,3,4,5,6,7] ?_)))
 refine rP rfl (aL (r := .own _ _ _) rfl) (pm ?_)
 obtain ⟨v10,hv10,h2⟩:=bnd h2
 refine rL rfl (aUy tok hv10 rfl rfl rfl rfl rfl rfl (by first | (simp;done) | omega | (simp;omega)) rfl) (rL rfl (aUx tok (dP hv10).2.1 rfl rfl rfl rfl rfl rfl rfl (by first | (simp;done) | omega | (simp;omega))) (rL rfl (aVz tok (dP hv10).2.1 rfl rfl rfl rfl (by first | (simp;done) | omega | (simp;omega)) rfl) (pm ?_)))
 obtain ⟨v11,hv11,h2⟩:=bnd h2
 obtain ⟨hq12,h2⟩:=cO h2
 refine rw1 rfl w0 rfl (aVg (k:=0) (kf:=1) (⟨v10.Name,v11.2⟩:bO) (rD hv11) (dP hv10).2.1 (by simp only [gR,aS,List.length_map,hq12]) rfl rfl rfl rfl rfl rfl rfl) (pa (aY ?_))
 refine bB (aG (sr [0,1,2] (pm ?_)))
 refine rP rfl (bH rfl rfl) (pa (aY ?_))
 refine bS ?_
 cases h2
 refine ⟨_,rfl,?_⟩
 exact wk [0,1,2]
 refine bF (bT ?_)
 cases h2
 refine bU ⟨_,rfl,fun e => ?_⟩
 subst e
 refine aQ (aG ?_)
 exact wk [0,1,2]
 refine sq [0,1] (pm ?_)
 refine pa (nx (aA ?_))
 cases h0
 exact xF (rs:=[.tmp 4]) 2 rfl rfl
theorem aEh {p0:List bR} {p1:Int} {r:Int × List bR} (h0:lH p0 p1=some r):FnC Tryz.prog 97 [.live [⟨90,4, .data (List.map bV p0)⟩]] [.own 0 0 (p0).length,(dI p1)] [.live [⟨90,4, .data (List.map bV r.2)⟩]] (dI r.1):=by
 refine fi 41 tok Tryz.func97 ?_
 unfold lH at h0
 refine sq [0] (pa (nx ?_))
 obtain ⟨v11,h1,h0⟩:=bnd h0
 refine bI ⟨aC ((fun _ => .dead)) 1 (dI v11.1),lks [.live [⟨90,4, .data (List.map bV v11.2)⟩], .no, .no]⟩ ?_ ?_
 refine sq [0] (pa (nx (aE ?_)))
 refine aZ (fun s6=>⟨aC (aC (aC ((fun _ => .dead)) 0 (.own 0 0 (s6.2.2).length)) 1 (dI s6.1)) 5 (dI s6.2.1),lks [.live [⟨90,4, .data (List.map bV s6.2.2)⟩], .no, .no]⟩) h1 ?_ (fun s6 y h2 => ?_)
 exact wk [0,1,2]
 refine aB (sq [0,1,2,3] (pm ?_))
 refine rP rfl (aL (r := .own _ _ _) rfl) (rL rfl (mF tok rfl rfl rfl rfl rfl) (rP rfl (bK rfl rfl) (nx ?_)))
 refine bC h2 rfl (fun hc h2 => ?_) (fun hc h2 => ?_)
 refine sk (aB (aE (sq [0,1,2,3,4,5] (rP rfl (aL (r := .own _ _ _) rfl) (pm ?_)))))
 refine pm ?_
 obtain ⟨v7,hv7,h2⟩:=bnd h2
 refine rL rfl (fB tok hv7 rfl rfl rfl rfl rfl rfl rfl rfl) (rL rfl (zP tok (dP hv7).2.1 rfl rfl rfl rfl rfl rfl rfl rfl) (rw0 rfl w0 (sL (cs:=[.d _]) tok (⟨s6.1,v7.WheelA,v7.B,v7.WheelB⟩:bR) (dP hv7).2.1 rfl rfl rfl rfl rfl rfl rfl rfl) (nx (sq [0,1,2] (pm ?_)))))
 refine rP rfl (bH rfl rfl) (pa (nx (sq [0,1,2,3,4,5] ?_)))
 refine rP rfl (aL (r := .own _ _ _) rfl) (pm ?_)
 refine pm ?_
 obtain ⟨v8,hv8,h2⟩:=bnd h2
 refine rL rfl (fB tok hv8 rfl rfl rfl rfl rfl rfl (by first | (simp;done) | omega | (simp;omega)) rfl) (rL rfl (zP tok (dP hv8).2.1 rfl rfl rfl rfl rfl rfl rfl (by first | (simp;done) | omega | (simp;omega))) (rw0 rfl w0 (sL (cs:=[.d _]) tok (⟨v8.A,w64 (s6.1+1),v8.B,v8.WheelB⟩:bR) (dP hv8).2.1 rfl rfl rfl rfl rfl rfl rfl (by first | (simp;done) | omega | (simp;omega))) (nx (sq [0,1,2] (pm ?_)))))
 refine rP rfl (bH rfl rfl) (pa (nx (sq [0,1,2,3,4,5] ?_)))
 refine rP rfl (aL (r := .own _ _ _) rfl) (pm ?_)
 refine pm ?_
 obtain ⟨v9,hv9,h2⟩:=bnd h2
 refine rL rfl (fB tok hv9 rfl rfl rfl rfl rfl rfl (by first | (simp;done) | omega | (simp;omega)) rfl) (rL rfl (zP tok (dP hv9).2.1 rfl rfl rfl rfl rfl rfl rfl (by first | (simp;done) | omega | (simp;omega))) (rw0 rfl w0 (sL (cs:=[.d _]) tok (⟨v9.A,v9.WheelA,w64 ((w64 (s6.1+1))+1),v9.WheelB⟩:bR) (dP hv9).2.1 rfl rfl rfl rfl rfl rfl rfl (by first | (simp;done) | omega | (simp;omega))) (nx (sq [0,1,2] (pm ?_)))))
 refine rP rfl (bH rfl rfl) (pa (nx (sq [0,1,2,3,4,5] ?_)))
 refine rP rfl (aL (r := .own _ _ _) rfl) (pm ?_)
 refine pm ?_
 obtain ⟨v10,hv10,h2⟩:=bnd h2
 refine rL rfl (fB tok hv10 rfl rfl rfl rfl rfl rfl (by first | (simp;done) | omega | (simp;omega)) rfl) (rL rfl (zP tok (dP hv10).2.1 rfl rfl rfl rfl rfl rfl rfl (by first | (simp;done) | omega | (simp;omega))) (rw0 rfl w0 (sL (cs:=[.d _]) tok (⟨v10.A,v10.WheelA,v10.B,w64 ((w64 ((w64 (s6.1+1))+1))+1)⟩:bR) (dP hv10).2.1 rfl rfl rfl rfl rfl rfl rfl (by first | (simp;done) | omega | (simp;omega))) (nx (sr [0,1,2] (pm ?_)))))
 refine rP rfl (bH rfl rfl) (pa (aY ?_))
 refine bB (aG (sr [0,1,2] (pm ?_)))
 refine rP rfl (bH rfl rfl) (pa (aY ?_))
 refine bS ?_
 cases h2
 refine ⟨_,rfl,?_⟩
 exact wk [0,1,2]
 refine bF (bT ?_)
 cases h2
 refine bU ⟨_,rfl,fun e => ?_⟩
 subst e
 refine aQ (aG ?_)
 exact wk [0,1,2]
 refine sq [0,1] (pm ?_)
 refine pa (nx (aA ?_))
 cases h0
 exact xF (rs:=[.tmp 4]) 1 rfl rfl
theorem aEi {p0:bG} {p1:Int} {r:Int × List bO × List bR} (h0:lI p0 p1=some r):FnC Tryz.prog 46 [.live [⟨88,2, .av (fA 1 aS p0.Arbors)⟩], .live (pC 2 1 aS p0.Arbors), .live [⟨90,4, .data (List.map bV p0.Meshes)⟩]] [.agg [.own 0 0 (p0.Arbors).length, .own 2 0 (p0.Meshes).length],(dI p1)] [.live [⟨88,2, .av (fA 1 aS r.2.1)⟩], .live (pC 2 1 aS r.2.1), .live [⟨90,4, .data (List.map bV r.2.2)⟩]] (dI r.1):=by
 refine fi 14 tok Tryz.func46 ?_
 unfold lI at h0
 refine sq [0,1] (bxx 3 ?_)
 refine pa (nx (sq [0,1,2,3,4] ?_))
 refine fa tok ?_
 refine ld tok ?_
 refine pm ?_
 obtain ⟨v1,hv1,h0⟩:=bnd h0
 obtain ⟨hq2,h0⟩:=cO h0
 refine rw1 rfl w0 rfl (nX [0,1] 300 (aCq hv1) rfl rfl) (pa (nx (sq [0,1,2,3,4] ?_)))
 refine fa tok ?_
 refine ld tok ?_
 refine pm ?_
 obtain ⟨v3,hv3,h0⟩:=bnd h0
 obtain ⟨hq4,h0⟩:=cO h0
 refine rw1 rfl w0 rfl (nX [2] 300 (aEh hv3) rfl rfl) (pa (nx (sq [0,1] ?_)))
 refine pm ?_
 refine pa (nx (aA ?_))
 cases h0
 exact xF (rs:=[.tmp 4]) 3 rfl rfl
theorem aCr {p0:List bE} {p1:Int} {r:Int × List bE} (h0:kJ p0 p1=some r):FnC Tryz.prog 98 [.live [⟨62,3, .data (List.map aT p0)⟩]] [.own 0 0 (p0).length,(dI p1)] [.live [⟨62,3, .data (List.map aT r.2)⟩]] (dI r.1):=by
 refine fi 35 tok Tryz.func98 ?_
 unfold kJ at h0
 refine sq [0] (pa (nx ?_))
 obtain ⟨v11,h1,h0⟩:=bnd h0
 refine bI ⟨aC ((fun _ => .dead)) 1 (dI v11.1),lks [.live [⟨62,3, .data (List.map aT v11.2)⟩], .no, .no]⟩ ?_ ?_
 refine sq [0] (pa (nx (aE ?_)))
 refine aZ (fun s6=>⟨aC (aC (aC ((fun _ => .dead)) 0 (.own 0 0 (s6.2.2).length)) 1 (dI s6.1)) 5 (dI s6.2.1),lks [.live [⟨62,3, .data (List.map aT s6.2.2)⟩], .no, .no]⟩) h1 ?_ (fun s6 y h2 => ?_)
 exact wk [0,1,2]
 refine aB (sq [0,1,2,3] (pm ?_))
 refine rP rfl (aL (r := .own _ _ _) rfl) (rL rfl (mF tok rfl rfl rfl rfl rfl) (rP rfl (bK rfl rfl) (nx ?_)))
 refine bC h2 rfl (fun hc h2 => ?_) (fun hc h2 => ?_)
 refine sk (aB (aE (sq [0,1,2,3,4,5,6] (rP rfl (aL (r := .own _ _ _) rfl) (pm ?_)))))
 refine pm ?_
 obtain ⟨v7,hv7,h2⟩:=bnd h2
 refine rS rfl (aM 3 (tF hv7) rfl rfl rfl) ?_
 obtain ⟨v8,hv8,h2⟩:=bnd h2
 refine rL rfl (fB tok hv8 rfl rfl rfl rfl rfl rfl rfl rfl) (rL rfl (zP tok (dP hv8).2.1 rfl rfl rfl rfl rfl rfl rfl rfl) (rw0 rfl w0 (sL (cs:=[.d _]) tok (⟨v7,v8.Days,v8.Leap⟩:bE) (dP hv8).2.1 rfl rfl rfl rfl rfl rfl rfl rfl) (nx (sq [0,1,2] (pm ?_)))))
 refine rP rfl (bH rfl rfl) (pa (nx (sq [0,1,2,3,4,5] ?_)))
 refine rP rfl (aL (r := .own _ _ _) rfl) (pm ?_)
 refine pm ?_
 obtain ⟨v9,hv9,h2⟩:=bnd h2
 refine rL rfl (fB tok hv9 rfl rfl rfl rfl rfl rfl (by first | (simp;done) | omega | (simp;omega)) rfl) (rL rfl (zP tok (dP hv9).2.1 rfl rfl rfl rfl rfl rfl rfl (by first | (simp;done) | omega | (simp;omega))) (rw0 rfl w0 (sL (cs:=[.d _]) tok (⟨v9.Name,w64 (s6.1+1),v9.Leap⟩:bE) (dP hv9).2.1 rfl rfl rfl rfl rfl rfl rfl (by first | (simp;done) | omega | (simp;omega))) (nx (sq [0,1,2] (pm ?_)))))
 refine rP rfl (bH rfl rfl) (pa (nx (sq [0,1,2,3,4,5] ?_)))
 refine rP rfl (aL (r := .own _ _ _) rfl) (pm ?_)
 refine pm ?_
 obtain ⟨v10,hv10,h2⟩:=bnd h2
 refine rL rfl (fB tok hv10 rfl rfl rfl rfl rfl rfl (by first | (simp;done) | omega | (simp;omega)) rfl) (rL rfl (zP tok (dP hv10).2.1 rfl rfl rfl rfl rfl rfl rfl (by first | (simp;done) | omega | (simp;omega))) (rw0 rfl w0 (sL (cs:=[.d _]) tok (⟨v10.Name,v10.Days,w64 ((w64 (s6.1+1))+1)⟩:bE) (dP hv10).2.1 rfl rfl rfl rfl rfl rfl rfl (by first | (simp;done) | omega | (simp;omega))) (nx (sr [0,1,2] (pm ?_)))))
 refine rP rfl (bH rfl rfl) (pa (aY ?_))
 refine bB (aG (sr [0,1,2] (pm ?_)))
 refine rP rfl (bH rfl rfl) (pa (aY ?_))
 refine bS ?_
 cases h2
 refine ⟨_,rfl,?_⟩
 exact wk [0,1,2]
 refine bF (bT ?_)
 cases h2
 refine bU ⟨_,rfl,fun e => ?_⟩
 subst e
 refine aQ (aG ?_)
 exact wk [0,1,2]
 refine sq [0,1] (pm ?_)
 refine pa (nx (aA ?_))
 cases h0
 exact xF (rs:=[.tmp 4]) 1 rfl rfl
theorem zL {p0:List aO} {p1:Int} {r:Int × List aO} (h0:gN p0 p1=some r):FnC Tryz.prog 99 [.live [⟨66,3, .data (List.map aK p0)⟩]] [.own 0 0 (p0).length,(dI p1)] [.live [⟨66,3, .data (List.map aK r.2)⟩]] (dI r.1):=by
 refine fi 36 tok Tryz.func99 ?_
 unfold gN at h0
 refine sq [0] (pa (nx ?_))
 obtain ⟨v11,h1,h0⟩:=bnd h0
 refine bI ⟨aC ((fun _ => .dead)) 1 (dI v11.1),lks [.live [⟨66,3, .data (List.map aK v11.2)⟩], .no, .no]⟩ ?_ ?_
 refine sq [0] (pa (nx (aE ?_)))
 refine aZ (fun s6=>⟨aC (aC (aC ((fun _ => .dead)) 0 (.own 0 0 (s6.2.2).length)) 1 (dI s6.1)) 5 (dI s6.2.1),lks [.live [⟨66,3, .data (List.map aK s6.2.2)⟩], .no, .no]⟩) h1 ?_ (fun s6 y h2 => ?_)
 exact wk [0,1,2]
 refine aB (sq [0,1,2,3] (pm ?_))
 refine rP rfl (aL (r := .own _ _ _) rfl) (rL rfl (mF tok rfl rfl rfl rfl rfl) (rP rfl (bK rfl rfl) (nx ?_)))
 refine bC h2 rfl (fun hc h2 => ?_) (fun hc h2 => ?_)
 refine sk (aB (aE (sq [0,1,2,3,4,5] (rP rfl (aL (r := .own _ _ _) rfl) (pm ?_)))))
 refine pm ?_
 obtain ⟨v7,hv7,h2⟩:=bnd h2
 refine rL rfl (fB tok hv7 rfl rfl rfl rfl rfl rfl rfl rfl) (rL rfl (zP tok (dP hv7).2.1 rfl rfl rfl rfl rfl rfl rfl rfl) (rw0 rfl w0 (sL (cs:=[.d _]) tok (⟨s6.1,v7.Rest,v7.Leap⟩:aO) (dP hv7).2.1 rfl rfl rfl rfl rfl rfl rfl rfl) (nx (sq [0,1,2] (pm ?_)))))
 refine rP rfl (bH rfl rfl) (pa (nx (sq [0,1,2,3,4,5] ?_)))
 refine rP rfl (aL (r := .own _ _ _) rfl) (pm ?_)
 refine pm ?_
 obtain ⟨v8,hv8,h2⟩:=bnd h2
 refine rL rfl (fB tok hv8 rfl rfl rfl rfl rfl rfl (by first | (simp;done) | omega | (simp;omega)) rfl) (rL rfl (zP tok (dP hv8).2.1 rfl rfl rfl rfl rfl rfl rfl (by first | (simp;done) | omega | (simp;omega))) (rw0 rfl w0 (sL (cs:=[.d _]) tok (⟨v8.Every,w64 (s6.1+1),v8.Leap⟩:aO) (dP hv8).2.1 rfl rfl rfl rfl rfl rfl rfl (by first | (simp;done) | omega | (simp;omega))) (nx (sq [0,1,2] (pm ?_)))))
 refine rP rfl (bH rfl rfl) (pa (nx (sq [0,1,2,3,4,5,6,7] ?_)))
 refine rP rfl (aL (r := .own _ _ _) rfl) (pm ?_)
 refine pm ?_
 refine rP rfl (kU rfl rfl (by decide)) (rP rfl (iX rfl rfl) ?_)
 obtain ⟨v10,hv10,h2⟩:=bnd h2
 refine rL rfl (fB tok hv10 rfl rfl rfl rfl rfl rfl (by first | (simp;done) | omega | (simp;omega)) rfl) (rL rfl (zP tok (dP hv10).2.1 rfl rfl rfl rfl rfl rfl rfl (by first | (simp;done) | omega | (simp;omega))) (rw0 rfl w0 (sL (cs:=[.d _]) tok (⟨v10.Every,v10.Rest,decide (((w64 ((w64 (s6.1+1))+1)).tmod 3)=0)⟩:aO) (dP hv10).2.1 rfl rfl rfl rfl rfl rfl rfl (by first | (simp;done) | omega | (simp;omega))) (nx (sr [0,1,2] (pm ?_)))))
 refine rP rfl (bH rfl rfl) (pa (aY ?_))
 refine bB (aG (sr [0,1,2] (pm ?_)))
 refine rP rfl (bH rfl rfl) (pa (aY ?_))
 refine bS ?_
 cases h2
 refine ⟨_,rfl,?_⟩
 exact wk [0,1,2]
 refine bF (bT ?_)
 cases h2
 refine bU ⟨_,rfl,fun e => ?_⟩
 subst e
 refine aQ (aG ?_)
 exact wk [0,1,2]
 refine sq [0,1] (pm ?_)
 refine pa (nx (aA ?_))
 cases h0
 exact xF (rs:=[.tmp 4]) 1 rfl rfl
theorem aAi {p0:aF} {p1:Int} {r:Int × List bE × List aO} (h0:iH p0 p1=some r):FnC Tryz.prog 47 [.live [⟨62,3, .data (List.map aT p0.Months)⟩], .live [⟨66,3, .data (List.map aK p0.Rules)⟩]] [.agg [dS p0.Name, .own 0 0 (p0.Months).length, .own 1 0 (p0.Rules).length,(dI p0.Week)],(dI p1)] [.live [⟨62,3, .data (List.map aT r.2.1)⟩], .live [⟨66,3, .data (List.map aK r.2.2)⟩]] (dI r.1):=by
 refine fi 14 tok Tryz.func47 ?_
 unfold iH at h0
 refine sq [0,1] (bxx 3 ?_)
 refine pa (nx (sq [0,1,2,3,4] ?_))
 refine fa tok ?_
 refine ld tok ?_
 refine pm ?_
 obtain ⟨v1,hv1,h0⟩:=bnd h0
 obtain ⟨hq2,h0⟩:=cO h0
 refine rw1 rfl w0 rfl (nX [0] 300 (aCr hv1) rfl rfl) (pa (nx (sq [0,1,2,3,4] ?_)))
 refine fa tok ?_
 refine ld tok ?_
 refine pm ?_
 obtain ⟨v3,hv3,h0⟩:=bnd h0
 obtain ⟨hq4,h0⟩:=cO h0
 refine rw1 rfl w0 rfl (nX [1] 300 (zL hv3) rfl rfl) (pa (nx (sq [0,1] ?_)))
 refine pm ?_
 refine pa (nx (aA ?_))
 cases h0
 exact xF (rs:=[.tmp 4]) 2 rfl rfl
theorem aAj {p0:aW} {p1:Int} {r:Int × List bO × List bR × List bE × List aO × List Int} (h0:iJ p0 p1=some r):FnC Tryz.prog 22 [.live [⟨88,2, .av (fA 1 aS p0.Works.Arbors)⟩], .live (pC 2 1 aS p0.Works.Arbors), .live [⟨90,4, .data (List.map bV p0.Works.Meshes)⟩], .live [⟨62,3, .data (List.map aT p0.Calendar.Months)⟩], .live [⟨66,3, .data (List.map aK p0.Calendar.Rules)⟩], .live [⟨2,1, .data (List.map cI p0.Cam)⟩]] [.agg [dS p0.Name, .own 0 0 (p0.Works.Arbors).length, .own 2 0 (p0.Works.Meshes).length,(dI p0.Minute),(dI p0.Hour),(dI p0.Escape),(dI p0.Teeth),(dI p0.Beats),(dS p0.Calendar.Name), .own 3 0 (p0.Calendar.Months).length, .own 4 0 (p0.Calendar.Rules).length,(dI p0.Calendar.Week), .own 5 0 (p0.Cam).length,(dI p0.Strike)],(dI p1)] [.live [⟨88,2, .av (fA 1 aS r.2.1)⟩], .live (pC 2 1 aS r.2.1), .live [⟨90,4, .data (List.map bV r.2.2.1)⟩], .live [⟨62,3, .data (List.map aT r.2.2.2.1)⟩], .live [⟨66,3, .data (List.map aK r.2.2.2.2.1)⟩], .live [⟨2,1, .data (List.map cI r.2.2.2.2.2)⟩]] (dI r.1):=by
 refine xT (L:=6) (T:=tt) (N:=18) tok Tryz.func22 rfl rfl (by kernel_rfl) rfl rfl ?_
 unfold iJ at h0
 refine sq [0,1] (bxx 6 ?_)
 refine pa (nx (sq [0,1,2,3,4] ?_))
 refine fa tok ?_
 refine rL rfl (bA tok rfl rfl rfl rfl) (pm ?_)
 obtain ⟨v1,hv1,h0⟩:=bnd h0
 obtain ⟨hq2,h0⟩:=cO h0
 obtain ⟨hq3,h0⟩:=cO h0
 refine rw1 rfl w0 rfl (nX [0,1,2] 300 (aEi hv1) rfl rfl) (pa (nx (sq [0,1,2,3,4] ?_)))
 refine fa tok ?_
 refine rL rfl (bA tok rfl rfl rfl rfl) (pm ?_)
 obtain ⟨v4,hv4,h0⟩:=bnd h0
 obtain ⟨hq5,h0⟩:=cO h0
 obtain ⟨hq6,h0⟩:=cO h0
 refine rw1 rfl w0 rfl (nX [3,4] 300 (aAi hv4) rfl rfl) (pa (nx (sq [0,1,2,3,4] ?_)))
 refine fa tok ?_
 refine ld tok ?_
 refine pm ?_
 obtain ⟨v7,hv7,h0⟩:=bnd h0
 obtain ⟨hq8,h0⟩:=cO h0
 refine rw1 rfl w0 rfl (nX [5] 300 (rD hv7) rfl rfl) (pa (nx (sq [0,1] ?_)))
 refine pm ?_
 refine pa (nx (aA ?_))
 cases h0
 exact xF (rs:=[.tmp 4]) 6 rfl rfl
theorem zM {p0:bX} {p1:Int} {r:Int × List Int} (h0:gO p0 p1=some r):FnC Tryz.prog 23 [.live [⟨2,1, .data (List.map cI p0.Cam)⟩]] [.agg [.own 0 0 (p0.Cam).length,(dI p0.Months),(dI p0.Teeth),(dI p0.At),(dI p0.Day),(dI p0.Week),(dI p0.Weekday)],(dI p1)] [.live [⟨2,1, .data (List.map cI r.2)⟩]] (dI r.1):=by
 refine fi 10 tok Tryz.func23 ?_
 unfold gO at h0
 refine sq [0,1] (bxx 3 ?_)
 refine pa (nx (sq [0,1,2,3,4] ?_))
 refine fa tok ?_
 refine ld tok ?_
 refine pm ?_
 obtain ⟨v1,hv1,h0⟩:=bnd h0
 obtain ⟨hq2,h0⟩:=cO h0
 refine rw1 rfl w0 rfl (nX [0] 300 (rD hv1) rfl rfl) (pa (nx (sq [0,1] ?_)))
 refine pm ?_
 refine pa (nx (aA ?_))
 cases h0
 exact xF (rs:=[.tmp 4]) 1 rfl rfl
theorem aHv {p0:wN} {p1:Int} {r:Int × List bO × List bR × List bE × List aO × List Int × List Int} (h0:oG p0 p1=some r):FnC Tryz.prog 12 [.live [⟨88,2, .av (fA 1 aS p0.Movement.Works.Arbors)⟩], .live (pC 2 1 aS p0.Movement.Works.Arbors), .live [⟨90,4, .data (List.map bV p0.Movement.Works.Meshes)⟩], .live [⟨62,3, .data (List.map aT p0.Movement.Calendar.Months)⟩], .live [⟨66,3, .data (List.map aK p0.Movement.Calendar.Rules)⟩], .live [⟨2,1, .data (List.map cI p0.Movement.Cam)⟩], .live [⟨2,1, .data (List.map cI p0.Dial.Cam)⟩]] [.agg [dS p0.Movement.Name, .own 0 0 (p0.Movement.Works.Arbors).length, .own 2 0 (p0.Movement.Works.Meshes).length,(dI p0.Movement.Minute),(dI p0.Movement.Hour),(dI p0.Movement.Escape),(dI p0.Movement.Teeth),(dI p0.Movement.Beats),(dS p0.Movement.Calendar.Name), .own 3 0 (p0.Movement.Calendar.Months).length, .own 4 0 (p0.Movement.Calendar.Rules).length,(dI p0.Movement.Calendar.Week), .own 5 0 (p0.Movement.Cam).length,(dI p0.Movement.Strike),(dI p0.Start.Year),(dI p0.Start.Month),(dI p0.Start.Day),(dI p0.First),(dI p0.Clock), .own 6 0 (p0.Dial.Cam).length,(dI p0.Dial.Months),(dI p0.Dial.Teeth),(dI p0.Dial.At),(dI p0.Dial.Day),(dI p0.Dial.Week),(dI p0.Dial.Weekday)],(dI p1)] [.live [⟨88,2, .av (fA 1 aS r.2.1)⟩], .live (pC 2 1 aS r.2.1), .live [⟨90,4, .data (List.map bV r.2.2.1)⟩], .live [⟨62,3, .data (List.map aT r.2.2.2.1)⟩], .live [⟨66,3, .data (List.map aK r.2.2.2.2.1)⟩], .live [⟨2,1, .data (List.map cI r.2.2.2.2.2.1)⟩], .live [⟨2,1, .data (List.map cI r.2.2.2.2.2.2)⟩]] (dI r.1):=by
 refine xT (L:=7) (T:=tt) (N:=14) tok Tryz.func12 rfl rfl (by kernel_rfl) rfl rfl ?_
 unfold oG at h0
 refine sq [0,1] (bxx 7 ?_)
 refine pa (nx (sq [0,1,2,3,4] ?_))
 refine fa tok ?_
 refine rL rfl (bA tok rfl rfl rfl rfl) (pm ?_)
 obtain ⟨v1,hv1,h0⟩:=bnd h0
 obtain ⟨hq2,h0⟩:=cO h0
 obtain ⟨hq3,h0⟩:=cO h0
 obtain ⟨hq4,h0⟩:=cO h0
 obtain ⟨hq5,h0⟩:=cO h0
 obtain ⟨hq6,h0⟩:=cO h0
 refine rw1 rfl w0 rfl (nX [0,1,2,3,4,5] 300 (aAj hv1) rfl rfl) (pa (nx (sq [0,1,2,3,4] ?_)))
 refine fa tok ?_
 refine rL rfl (bA tok rfl rfl rfl rfl) (pm ?_)
 obtain ⟨v7,hv7,h0⟩:=bnd h0
 obtain ⟨hq8,h0⟩:=cO h0
 refine rw1 rfl w0 rfl (nX [6] 300 (zM hv7) rfl rfl) (pa (nx (sq [0,1] ?_)))
 refine pm ?_
 refine pa (nx (aA ?_))
 cases h0
 exact xF (rs:=[.tmp 4]) 7 rfl rfl
theorem aFw {p0:rR} {p1:Int} {r:Int × List bO × List bR × List bE × List aO × List Int × List Int} (h0:mQ p0 p1=some r):FnC Tryz.prog 7 [.live [⟨88,2, .av (fA 1 aS p0.Sim.Movement.Works.Arbors)⟩], .live (pC 2 1 aS p0.Sim.Movement.Works.Arbors), .live [⟨90,4, .data (List.map bV p0.Sim.Movement.Works.Meshes)⟩], .live [⟨62,3, .data (List.map aT p0.Sim.Movement.Calendar.Months)⟩], .live [⟨66,3, .data (List.map aK p0.Sim.Movement.Calendar.Rules)⟩], .live [⟨2,1, .data (List.map cI p0.Sim.Movement.Cam)⟩], .live [⟨2,1, .data (List.map cI p0.Sim.Dial.Cam)⟩]] [.agg [dS p0.Sim.Movement.Name, .own 0 0 (p0.Sim.Movement.Works.Arbors).length, .own 2 0 (p0.Sim.Movement.Works.Meshes).length,(dI p0.Sim.Movement.Minute),(dI p0.Sim.Movement.Hour),(dI p0.Sim.Movement.Escape),(dI p0.Sim.Movement.Teeth),(dI p0.Sim.Movement.Beats),(dS p0.Sim.Movement.Calendar.Name), .own 3 0 (p0.Sim.Movement.Calendar.Months).length, .own 4 0 (p0.Sim.Movement.Calendar.Rules).length,(dI p0.Sim.Movement.Calendar.Week), .own 5 0 (p0.Sim.Movement.Cam).length,(dI p0.Sim.Movement.Strike),(dI p0.Sim.Start.Year),(dI p0.Sim.Start.Month),(dI p0.Sim.Start.Day),(dI p0.Sim.First),(dI p0.Sim.Clock), .own 6 0 (p0.Sim.Dial.Cam).length,(dI p0.Sim.Dial.Months),(dI p0.Sim.Dial.Teeth),(dI p0.Sim.Dial.At),(dI p0.Sim.Dial.Day),(dI p0.Sim.Dial.Week),(dI p0.Sim.Dial.Weekday)],(dI p1)] [.live [⟨88,2, .av (fA 1 aS r.2.1)⟩], .live (pC 2 1 aS r.2.1), .live [⟨90,4, .data (List.map bV r.2.2.1)⟩], .live [⟨62,3, .data (List.map aT r.2.2.2.1)⟩], .live [⟨66,3, .data (List.map aK r.2.2.2.2.1)⟩], .live [⟨2,1, .data (List.map cI r.2.2.2.2.2.1)⟩], .live [⟨2,1, .data (List.map cI r.2.2.2.2.2.2)⟩]] (dI r.1):=by
 refine xT (L:=7) (T:=tt) (N:=10) tok Tryz.func7 rfl rfl (by kernel_rfl) rfl rfl ?_
 unfold mQ at h0
 refine sq [0,1] (bxx 7 ?_)
 refine pa (nx (sq [0,1,2,3,4] ?_))
 refine fa tok ?_
 refine rL rfl (bA tok rfl rfl rfl rfl) (pm ?_)
 obtain ⟨v1,hv1,h0⟩:=bnd h0
 obtain ⟨hq2,h0⟩:=cO h0
 obtain ⟨hq3,h0⟩:=cO h0
 obtain ⟨hq4,h0⟩:=cO h0
 obtain ⟨hq5,h0⟩:=cO h0
 obtain ⟨hq6,h0⟩:=cO h0
 obtain ⟨hq7,h0⟩:=cO h0
 refine rw1 rfl w0 rfl (nX [0,1,2,3,4,5,6] 300 (aHv hv1) rfl rfl) (pa (nx (sq [0,1] ?_)))
 refine pm ?_
 refine pa (nx (aA ?_))
 cases h0
 exact xF (rs:=[.tmp 4]) 7 rfl rfl
theorem uA {p0:List Int} {p1:Int} {r:Int} (h0:iR p0 p1=some r):FnC Tryz.prog 51 [] [dL cI p0,(dI p1)] [] (dI r):=by
 refine fi 21 tok Tryz.func51 ?_
 unfold iR at h0
 refine sq [0] (pa (nx ?_))
 obtain ⟨v5x,h1,h0⟩:=bnd h0
 refine dH v5x (fun v5=>⟨aC ((fun _ => .dead)) 1 (dI v5),lks [.no, .no, .no]⟩) ?_ ?_
 refine sq [0] (pa (nx (aE ?_)))
 refine aZ (fun s3=>⟨aC (aC (aC ((fun _ => .dead)) 0 (dL cI p0)) 1 (dI s3.1)) 5 (dI s3.2),lks [.no, .no, .no]⟩) h1 ?_ (fun s3 y h2 => ?_)
 exact wk [0,1,2]
 refine aB (sq [0,1,2,3] (pm ?_))
 refine pm ?_
 refine rP rfl (aJ tok rfl rfl rfl) (rP rfl (bK rfl rfl) (nx ?_))
 refine bC h2 rfl (fun hc h2 => ?_) (fun hc h2 => ?_)
 refine sk (aB (aE (aB (sq [0,1,2,3,4,5] (pm ?_)))))
 refine pm ?_
 obtain ⟨v4,hv4,h2⟩:=bnd h2
 refine rP rfl (cE tok hv4 rfl rfl rfl rfl rfl rfl) (lr tok ?_)
 refine pm ?_
 refine rP rfl (cQ rfl rfl) (nx ?_)
 refine bC h2 rfl (fun hc h2 => ?_) (fun hc h2 => ?_)
 refine sq [0] (pa (nx (aA (aI ?_))))
 refine aX (aI ?_)
 cases h2
 refine dM ⟨_,rfl,fun e => ?_⟩
 subst e
 refine aX ?_
 replace h0:=eT h0
 refine aI ?_
 cases h0
 exact r0t 4 rfl
 refine sk (sr [0,1,2] (pm ?_))
 refine rP rfl (bH rfl rfl) (pa (aY ?_))
 refine bB (aG (sr [0,1,2] (pm ?_)))
 refine rP rfl (bH rfl rfl) (pa (aY ?_))
 refine bS ?_
 cases h2
 refine ⟨_,rfl,?_⟩
 exact wk [0,1,2]
 refine bF (bT ?_)
 cases h2
 refine bU ⟨_,rfl,fun e => ?_⟩
 subst e
 refine aQ (aG ?_)
 refine ⟨_,rfl,?_⟩
 exact wk [0,1,2]
 rintro v5 rfl
 replace h0:=gS h0
 refine sq [0,1] (pm ?_)
 refine pa (nx (aA ?_))
 cases h0
 exact r0t 4 rfl
theorem aFu {p0:List bO} {p1:Int} {r:Int} (h0:mO p0 p1=some r):FnC Tryz.prog 100 [] [dL aS p0,(dI p1)] [] (dI r):=by
 refine fi 32 tok Tryz.func100 ?_
 unfold mO at h0
 refine sq [0] (pa (nx ?_))
 obtain ⟨v11x,h1,h0⟩:=bnd h0
 refine dH v11x (fun v11=>⟨aC ((fun _ => .dead)) 1 (dI v11),lks [.no, .no, .no]⟩) ?_ ?_
 refine sq [0] (pa (nx (aE ?_)))
 refine aZ (fun s6=>⟨aC (aC (aC ((fun _ => .dead)) 0 (dL aS p0)) 1 (dI s6.1)) 5 (dI s6.2),lks [.no, .no, .no]⟩) h1 ?_ (fun s6 y h2 => ?_)
 exact wk [0,1,2]
 refine aB (sq [0,1,2,3] (pm ?_))
 refine pm ?_
 refine rP rfl (aJ tok rfl rfl rfl) (rP rfl (bK rfl rfl) (nx ?_))
 refine bC h2 rfl (fun hc h2 => ?_) (fun hc h2 => ?_)
 refine sk (aB (aE (aB (aB (aH (is:=[0,1,2,3,4,5,6,7]) [0,0,3,7,15,0,32,127] follows (by kernel_rfl) (tpm ?_))))))
 refine tpm ?_
 obtain ⟨v7,hv7,h2⟩:=bnd h2
 refine tP rfl (cE tok hv7 rfl rfl rfl rfl rfl rfl) (tfr tok ?_)
 refine tlr tok ?_
 refine tpm ?_
 obtain ⟨v8,hv8,h2⟩:=bnd h2
 refine jW rfl w0 rfl (cV 3 (tF hv8) rfl rfl rfl) (tP rfl (zO rfl rfl) (bN ?_))
 refine ⟨by kernel_rfl,?_⟩
 refine aG ?_
 refine bC h2 rfl (fun hc h2 => ?_) (fun hc h2 => ?_)
 refine sq [0] (pa (nx (aA (aI ?_))))
 refine aX (aI ?_)
 cases h2
 refine dM ⟨_,rfl,fun e => ?_⟩
 subst e
 refine aX ?_
 replace h0:=eT h0
 refine aI ?_
 cases h0
 exact r0t 4 rfl
 refine sk (sq [0,1,2] (pm ?_))
 refine rP rfl (bH rfl rfl) (pa (nx (sq [0,1,2,3,4,5,6,7] ?_)))
 refine pm ?_
 refine pm ?_
 obtain ⟨v9,hv9,h2⟩:=bnd h2
 refine rP rfl (cE tok hv9 rfl rfl rfl rfl rfl rfl) (fr tok ?_)
 refine lr tok ?_
 refine pm ?_
 obtain ⟨v10,hv10,h2⟩:=bnd h2
 refine rS rfl (aM 3 (uA hv10) rfl rfl rfl) (pa (nx (sq [0,1] ?_)))
 refine pm ?_
 refine rP rfl (bK rfl rfl) (nx ?_)
 refine bC h2 rfl (fun hc h2 => ?_) (fun hc h2 => ?_)
 refine sq [0] (pa (nx (aA ?_)))
 refine aX (aI ?_)
 cases h2
 refine dM ⟨_,rfl,fun e => ?_⟩
 subst e
 refine aX ?_
 replace h0:=eT h0
 refine aI ?_
 cases h0
 exact r0t 4 rfl
 refine cX (bB (aG (sr [0,1,2] (pm ?_))))
 refine rP rfl (bH rfl rfl) (pa (aY ?_))
 refine bS ?_
 cases h2
 refine ⟨_,rfl,?_⟩
 exact wk [0,1,2]
 refine bF (bT ?_)
 cases h2
 refine bU ⟨_,rfl,fun e => ?_⟩
 subst e
 refine aQ (aG ?_)
 refine ⟨_,rfl,?_⟩
 exact wk [0,1,2]
 rintro v11 rfl
 replace h0:=gS h0
 refine sq [0,1] (pm ?_)
 refine pa (nx (aA ?_))
 cases h0
 exact r0t 4 rfl
theorem aHt {p0:List bR} {p1:Int} {r:Int} (h0:oE p0 p1=some r):FnC Tryz.prog 101 [] [dL bV p0,(dI p1)] [] (dI r):=by
 refine fi 49 tok Tryz.func101 ?_
 unfold oE at h0
 refine sq [0] (pa (nx ?_))
 obtain ⟨v11x,h1,h0⟩:=bnd h0
 refine dH v11x (fun v11=>⟨aC ((fun _ => .dead)) 1 (dI v11),lks [.no, .no, .no]⟩) ?_ ?_
 refine sq [0] (pa (nx (aE ?_)))
 refine aZ (fun s6=>⟨aC (aC (aC ((fun _ => .dead)) 0 (dL bV p0)) 1 (dI s6.1)) 5 (dI s6.2),lks [.no, .no, .no]⟩) h1 ?_ (fun s6 y h2 => ?_)
 exact wk [0,1,2]
 refine aB (sq [0,1,2,3] (pm ?_))
 refine pm ?_
 refine rP rfl (aJ tok rfl rfl rfl) (rP rfl (bK rfl rfl) (nx ?_))
 refine bC h2 rfl (fun hc h2 => ?_) (fun hc h2 => ?_)
 refine sk (aB (aE (aB (sq [0,1,2,3,4,5,6] (pm ?_)))))
 refine pm ?_
 obtain ⟨v7,hv7,h2⟩:=bnd h2
 refine rP rfl (cE tok hv7 rfl rfl rfl rfl rfl rfl) (fr tok ?_)
 refine lr tok ?_
 refine pm ?_
 refine rP rfl (cQ rfl rfl) (nx ?_)
 refine bC h2 rfl (fun hc h2 => ?_) (fun hc h2 => ?_)
 refine sq [0] (pa (nx (aA (aI ?_))))
 refine aX (aI ?_)
 cases h2
 refine dM ⟨_,rfl,fun e => ?_⟩
 subst e
 refine aX ?_
 replace h0:=eT h0
 refine aI ?_
 cases h0
 exact r0t 4 rfl
 refine sk (sq [0,1,2] (pm ?_))
 refine rP rfl (bH rfl rfl) (pa (nx (aB (sq [0,1,2,3,4,5,6] ?_))))
 refine pm ?_
 refine pm ?_
 obtain ⟨v8,hv8,h2⟩:=bnd h2
 refine rP rfl (cE tok hv8 rfl rfl rfl rfl rfl rfl) (fr tok ?_)
 refine lr tok ?_
 refine pm ?_
 refine rP rfl (cQ rfl rfl) (nx ?_)
 refine bC h2 rfl (fun hc h2 => ?_) (fun hc h2 => ?_)
 refine sq [0] (pa (nx (aA (aI ?_))))
 refine aX (aI ?_)
 cases h2
 refine dM ⟨_,rfl,fun e => ?_⟩
 subst e
 refine aX ?_
 replace h0:=eT h0
 refine aI ?_
 cases h0
 exact r0t 4 rfl
 refine sk (sq [0,1,2] (pm ?_))
 refine rP rfl (bH rfl rfl) (pa (nx (aB (sq [0,1,2,3,4,5,6] ?_))))
 refine pm ?_
 refine pm ?_
 obtain ⟨v9,hv9,h2⟩:=bnd h2
 refine rP rfl (cE tok hv9 rfl rfl rfl rfl rfl rfl) (fr tok ?_)
 refine lr tok ?_
 refine pm ?_
 refine rP rfl (cQ rfl rfl) (nx ?_)
 refine bC h2 rfl (fun hc h2 => ?_) (fun hc h2 => ?_)
 refine sq [0] (pa (nx (aA (aI ?_))))
 refine aX (aI ?_)
 cases h2
 refine dM ⟨_,rfl,fun e => ?_⟩
 subst e
 refine aX ?_
 replace h0:=eT h0
 refine aI ?_
 cases h0
 exact r0t 4 rfl
 refine sk (sq [0,1,2] (pm ?_))
 refine rP rfl (bH rfl rfl) (pa (nx (aB (sq [0,1,2,3,4,5,6] ?_))))
 refine pm ?_
 refine pm ?_
 obtain ⟨v10,hv10,h2⟩:=bnd h2
 refine rP rfl (cE tok hv10 rfl rfl rfl rfl rfl rfl) (fr tok ?_)
 refine lr tok ?_
 refine pm ?_
 refine rP rfl (cQ rfl rfl) (nx ?_)
 refine bC h2 rfl (fun hc h2 => ?_) (fun hc h2 => ?_)
 refine sq [0] (pa (nx (aA (aI ?_))))
 refine aX (aI ?_)
 cases h2
 refine dM ⟨_,rfl,fun e => ?_⟩
 subst e
 refine aX ?_
 replace h0:=eT h0
 refine aI ?_
 cases h0
 exact r0t 4 rfl
 refine sk (sr [0,1,2] (pm ?_))
 refine rP rfl (bH rfl rfl) (pa (aY ?_))
 refine bB (aG (sr [0,1,2] (pm ?_)))
 refine rP rfl (bH rfl rfl) (pa (aY ?_))
 refine bS ?_
 cases h2
 refine ⟨_,rfl,?_⟩
 exact wk [0,1,2]
 refine bF (bT ?_)
 cases h2
 refine bU ⟨_,rfl,fun e => ?_⟩
 subst e
 refine aQ (aG ?_)
 refine ⟨_,rfl,?_⟩
 exact wk [0,1,2]
 rintro v11 rfl
 replace h0:=gS h0
 refine sq [0,1] (pm ?_)
 refine pa (nx (aA ?_))
 cases h0
 exact r0t 4 rfl
theorem aHu {p0:bG} {p1:Int} {r:Int} (h0:oF p0 p1=some r):FnC Tryz.prog 49 [] [.agg [dL aS p0.Arbors,(dL bV p0.Meshes)],(dI p1)] [] (dI r):=by
 refine fi 18 tok Tryz.func49 ?_
 unfold oF at h0
 refine sq [0,1] (bxx 3 ?_)
 refine pa (nx (sq [0,1,2,3,4] ?_))
 refine fa tok ?_
 refine ld tok ?_
 refine pm ?_
 obtain ⟨v1,hv1,h0⟩:=bnd h0
 refine rS rfl (aM 4 (aFu hv1) rfl rfl rfl) (pa (nx (aB (sq [0,1] ?_))))
 refine pm ?_
 refine rP rfl (bK rfl rfl) (nx ?_)
 refine bC h0 rfl (fun hc h0 => ?_) (fun hc h0 => ?_)
 refine sq [0] (pa (nx (aA (aI ?_))))
 cases h0
 exact r0t 4 rfl
 refine sk (sq [0,1,2,3,4] (fa tok ?_))
 refine ld tok ?_
 refine pm ?_
 obtain ⟨v2,hv2,h0⟩:=bnd h0
 refine rS rfl (aM 4 (aHt hv2) rfl rfl rfl) (pa (nx (aB (sq [0,1] ?_))))
 refine pm ?_
 refine rP rfl (bK rfl rfl) (nx ?_)
 refine bC h0 rfl (fun hc h0 => ?_) (fun hc h0 => ?_)
 refine sq [0] (pa (nx (aA (aI ?_))))
 cases h0
 exact r0t 4 rfl
 refine sk (sq [0,1] (pm ?_))
 refine pa (nx (aA ?_))
 cases h0
 exact r0t 4 rfl
theorem aFv {p0:List bE} {p1:Int} {r:Int} (h0:mP p0 p1=some r):FnC Tryz.prog 102 [] [dL aT p0,(dI p1)] [] (dI r):=by
 refine fi 41 tok Tryz.func102 ?_
 unfold mP at h0
 refine sq [0] (pa (nx ?_))
 obtain ⟨v11x,h1,h0⟩:=bnd h0
 refine dH v11x (fun v11=>⟨aC ((fun _ => .dead)) 1 (dI v11),lks [.no, .no, .no]⟩) ?_ ?_
 refine sq [0] (pa (nx (aE ?_)))
 refine aZ (fun s6=>⟨aC (aC (aC ((fun _ => .dead)) 0 (dL aT p0)) 1 (dI s6.1)) 5 (dI s6.2),lks [.no, .no, .no]⟩) h1 ?_ (fun s6 y h2 => ?_)
 exact wk [0,1,2]
 refine aB (sq [0,1,2,3] (pm ?_))
 refine pm ?_
 refine rP rfl (aJ tok rfl rfl rfl) (rP rfl (bK rfl rfl) (nx ?_))
 refine bC h2 rfl (fun hc h2 => ?_) (fun hc h2 => ?_)
 refine sk (aB (aE (aB (aB (aH (is:=[0,1,2,3,4,5,6,7]) [0,0,3,7,15,0,32,127] follows (by kernel_rfl) (tpm ?_))))))
 refine tpm ?_
 obtain ⟨v7,hv7,h2⟩:=bnd h2
 refine tP rfl (cE tok hv7 rfl rfl rfl rfl rfl rfl) (tfr tok ?_)
 refine tlr tok ?_
 refine tpm ?_
 obtain ⟨v8,hv8,h2⟩:=bnd h2
 refine jW rfl w0 rfl (cV 3 (tF hv8) rfl rfl rfl) (tP rfl (zO rfl rfl) (bN ?_))
 refine ⟨by kernel_rfl,?_⟩
 refine aG ?_
 refine bC h2 rfl (fun hc h2 => ?_) (fun hc h2 => ?_)
 refine sq [0] (pa (nx (aA (aI ?_))))
 refine aX (aI ?_)
 cases h2
 refine dM ⟨_,rfl,fun e => ?_⟩
 subst e
 refine aX ?_
 replace h0:=eT h0
 refine aI ?_
 cases h0
 exact r0t 4 rfl
 refine sk (sq [0,1,2] (pm ?_))
 refine rP rfl (bH rfl rfl) (pa (nx (aB (sq [0,1,2,3,4,5,6] ?_))))
 refine pm ?_
 refine pm ?_
 obtain ⟨v9,hv9,h2⟩:=bnd h2
 refine rP rfl (cE tok hv9 rfl rfl rfl rfl rfl rfl) (fr tok ?_)
 refine lr tok ?_
 refine pm ?_
 refine rP rfl (cQ rfl rfl) (nx ?_)
 refine bC h2 rfl (fun hc h2 => ?_) (fun hc h2 => ?_)
 refine sq [0] (pa (nx (aA (aI ?_))))
 refine aX (aI ?_)
 cases h2
 refine dM ⟨_,rfl,fun e => ?_⟩
 subst e
 refine aX ?_
 replace h0:=eT h0
 refine aI ?_
 cases h0
 exact r0t 4 rfl
 refine sk (sq [0,1,2] (pm ?_))
 refine rP rfl (bH rfl rfl) (pa (nx (aB (sq [0,1,2,3,4,5,6] ?_))))
 refine pm ?_
 refine pm ?_
 obtain ⟨v10,hv10,h2⟩:=bnd h2
 refine rP rfl (cE tok hv10 rfl rfl rfl rfl rfl rfl) (fr tok ?_)
 refine lr tok ?_
 refine pm ?_
 refine rP rfl (cQ rfl rfl) (nx ?_)
 refine bC h2 rfl (fun hc h2 => ?_) (fun hc h2 => ?_)
 refine sq [0] (pa (nx (aA (aI ?_))))
 refine aX (aI ?_)
 cases h2
 refine dM ⟨_,rfl,fun e => ?_⟩
 subst e
 refine aX ?_
 replace h0:=eT h0
 refine aI ?_
 cases h0
 exact r0t 4 rfl
 refine sk (sr [0,1,2] (pm ?_))
 refine rP rfl (bH rfl rfl) (pa (aY ?_))
 refine bB (aG (sr [0,1,2] (pm ?_)))
 refine rP rfl (bH rfl rfl) (pa (aY ?_))
 refine bS ?_
 cases h2
 refine ⟨_,rfl,?_⟩
 exact wk [0,1,2]
 refine bF (bT ?_)
 cases h2
 refine bU ⟨_,rfl,fun e => ?_⟩
 subst e
 refine aQ (aG ?_)
 refine ⟨_,rfl,?_⟩
 exact wk [0,1,2]
 rintro v11 rfl
 replace h0:=gS h0
 refine sq [0,1] (pm ?_)
 refine pa (nx (aA ?_))
 cases h0
 exact r0t 4 rfl
theorem aBj {p0:List aO} {p1:Int} {r:Int} (h0:jG p0 p1=some r):FnC Tryz.prog 103 [] [dL aK p0,(dI p1)] [] (dI r):=by
 refine fi 42 tok Tryz.func103 ?_
 unfold jG at h0
 refine sq [0] (pa (nx ?_))
 obtain ⟨v11x,h1,h0⟩:=bnd h0
 refine dH v11x (fun v11=>⟨aC ((fun _ => .dead)) 1 (dI v11),lks [.no, .no, .no]⟩) ?_ ?_
 refine sq [0] (pa (nx (aE ?_)))
 refine aZ (fun s6=>⟨aC (aC (aC ((fun _ => .dead)) 0 (dL aK p0)) 1 (dI s6.1)) 5 (dI s6.2),lks [.no, .no, .no]⟩) h1 ?_ (fun s6 y h2 => ?_)
 exact wk [0,1,2]
 refine aB (sq [0,1,2,3] (pm ?_))
 refine pm ?_
 refine rP rfl (aJ tok rfl rfl rfl) (rP rfl (bK rfl rfl) (nx ?_))
 refine bC h2 rfl (fun hc h2 => ?_) (fun hc h2 => ?_)
 refine sk (aB (aE (aB (sq [0,1,2,3,4,5,6] (pm ?_)))))
 refine pm ?_
 obtain ⟨v7,hv7,h2⟩:=bnd h2
 refine rP rfl (cE tok hv7 rfl rfl rfl rfl rfl rfl) (fr tok ?_)
 refine lr tok ?_
 refine pm ?_
 refine rP rfl (cQ rfl rfl) (nx ?_)
 refine bC h2 rfl (fun hc h2 => ?_) (fun hc h2 => ?_)
 refine sq [0] (pa (nx (aA (aI ?_))))
 refine aX (aI ?_)
 cases h2
 refine dM ⟨_,rfl,fun e => ?_⟩
 subst e
 refine aX ?_
 replace h0:=eT h0
 refine aI ?_
 cases h0
 exact r0t 4 rfl
 refine sk (sq [0,1,2] (pm ?_))
 refine rP rfl (bH rfl rfl) (pa (nx (aB (sq [0,1,2,3,4,5,6] ?_))))
 refine pm ?_
 refine pm ?_
 obtain ⟨v8,hv8,h2⟩:=bnd h2
 refine rP rfl (cE tok hv8 rfl rfl rfl rfl rfl rfl) (fr tok ?_)
 refine lr tok ?_
 refine pm ?_
 refine rP rfl (cQ rfl rfl) (nx ?_)
 refine bC h2 rfl (fun hc h2 => ?_) (fun hc h2 => ?_)
 refine sq [0] (pa (nx (aA (aI ?_))))
 refine aX (aI ?_)
 cases h2
 refine dM ⟨_,rfl,fun e => ?_⟩
 subst e
 refine aX ?_
 replace h0:=eT h0
 refine aI ?_
 cases h0
 exact r0t 4 rfl
 refine sk (sq [0,1,2] (pm ?_))
 refine rP rfl (bH rfl rfl) (pa (nx (aB (sq [0,1,2,3,4,5,6,7,8] ?_))))
 refine pm ?_
 refine pm ?_
 obtain ⟨v9,hv9,h2⟩:=bnd h2
 refine rP rfl (cE tok hv9 rfl rfl rfl rfl rfl rfl) (fr tok ?_)
 refine lr tok ?_
 refine pm ?_
 refine rP rfl (kU rfl rfl (by decide)) (rP rfl (iX rfl rfl) (rP rfl (aIa tok rfl rfl rfl rfl) (nx ?_)))
 refine bM h2 rfl (fun hc h2 => ?_) (fun hc h2 => ?_)
 refine sq [0] (pa (nx (aA (aI ?_))))
 refine aX (aI ?_)
 cases h2
 refine dM ⟨_,rfl,fun e => ?_⟩
 subst e
 refine aX ?_
 replace h0:=eT h0
 refine aI ?_
 cases h0
 exact r0t 4 rfl
 refine sk (sr [0,1,2] (pm ?_))
 refine rP rfl (bH rfl rfl) (pa (aY ?_))
 refine bB (aG (sr [0,1,2] (pm ?_)))
 refine rP rfl (bH rfl rfl) (pa (aY ?_))
 refine bS ?_
 cases h2
 refine ⟨_,rfl,?_⟩
 exact wk [0,1,2]
 refine bF (bT ?_)
 cases h2
 refine bU ⟨_,rfl,fun e => ?_⟩
 subst e
 refine aQ (aG ?_)
 refine ⟨_,rfl,?_⟩
 exact wk [0,1,2]
 rintro v11 rfl
 replace h0:=gS h0
 refine sq [0,1] (pm ?_)
 refine pa (nx (aA ?_))
 cases h0
 exact r0t 4 rfl
theorem aCo {p0:aF} {p1:Int} {r:Int} (h0:kG p0 p1=some r):FnC Tryz.prog 50 [] [.agg [dS p0.Name,(dL aT p0.Months),(dL aK p0.Rules),(dI p0.Week)],(dI p1)] [] (dI r):=by
 refine fi 18 tok Tryz.func50 ?_
 unfold kG at h0
 refine sq [0,1] (bxx 3 ?_)
 refine pa (nx (sq [0,1,2,3,4] ?_))
 refine fa tok ?_
 refine ld tok ?_
 refine pm ?_
 obtain ⟨v1,hv1,h0⟩:=bnd h0
 refine rS rfl (aM 4 (aFv hv1) rfl rfl rfl) (pa (nx (aB (sq [0,1] ?_))))
 refine pm ?_
 refine rP rfl (bK rfl rfl) (nx ?_)
 refine bC h0 rfl (fun hc h0 => ?_) (fun hc h0 => ?_)
 refine sq [0] (pa (nx (aA (aI ?_))))
 cases h0
 exact r0t 4 rfl
 refine sk (sq [0,1,2,3,4] (fa tok ?_))
 refine ld tok ?_
 refine pm ?_
 obtain ⟨v2,hv2,h0⟩:=bnd h0
 refine rS rfl (aM 4 (aBj hv2) rfl rfl rfl) (pa (nx (aB (sq [0,1] ?_))))
 refine pm ?_
 refine rP rfl (bK rfl rfl) (nx ?_)
 refine bC h0 rfl (fun hc h0 => ?_) (fun hc h0 => ?_)
 refine sq [0] (pa (nx (aA (aI ?_))))
 cases h0
 exact r0t 4 rfl
 refine sk (sq [0,1] (pm ?_))
 refine pa (nx (aA ?_))
 cases h0
 exact r0t 4 rfl
theorem aCp {p0:aW} {p1:Int} {r:Int} (h0:kH p0 p1=some r):FnC Tryz.prog 24 [] [.agg [dS p0.Name,(dL aS p0.Works.Arbors),(dL bV p0.Works.Meshes),(dI p0.Minute),(dI p0.Hour),(dI p0.Escape),(dI p0.Teeth),(dI p0.Beats),(dS p0.Calendar.Name),(dL aT p0.Calendar.Months),(dL aK p0.Calendar.Rules),(dI p0.Calendar.Week),(dL cI p0.Cam),(dI p0.Strike)],(dI p1)] [] (dI r):=by
 refine fi 24 tok Tryz.func24 ?_
 unfold kH at h0
 refine sq [0,1] (bxx 3 ?_)
 refine pa (nx (sq [0,1,2,3,4] ?_))
 refine fa tok ?_
 refine rL rfl (bA tok rfl rfl rfl rfl) (pm ?_)
 obtain ⟨v1,hv1,h0⟩:=bnd h0
 refine rS rfl (aM 4 (aHu hv1) rfl rfl rfl) (pa (nx (aB (sq [0,1] ?_))))
 refine pm ?_
 refine rP rfl (bK rfl rfl) (nx ?_)
 refine bC h0 rfl (fun hc h0 => ?_) (fun hc h0 => ?_)
 refine sq [0] (pa (nx (aA (aI ?_))))
 cases h0
 exact r0t 4 rfl
 refine sk (sq [0,1,2,3,4] (fa tok ?_))
 refine rL rfl (bA tok rfl rfl rfl rfl) (pm ?_)
 obtain ⟨v2,hv2,h0⟩:=bnd h0
 refine rS rfl (aM 4 (aCo hv2) rfl rfl rfl) (pa (nx (aB (sq [0,1] ?_))))
 refine pm ?_
 refine rP rfl (bK rfl rfl) (nx ?_)
 refine bC h0 rfl (fun hc h0 => ?_) (fun hc h0 => ?_)
 refine sq [0] (pa (nx (aA (aI ?_))))
 cases h0
 exact r0t 4 rfl
 refine sk (sq [0,1,2,3,4] (fa tok ?_))
 refine ld tok ?_
 refine pm ?_
 obtain ⟨v3,hv3,h0⟩:=bnd h0
 refine rS rfl (aM 4 (uA hv3) rfl rfl rfl) (pa (nx (aB (sq [0,1] ?_))))
 refine pm ?_
 refine rP rfl (bK rfl rfl) (nx ?_)
 refine bC h0 rfl (fun hc h0 => ?_) (fun hc h0 => ?_)
 refine sq [0] (pa (nx (aA (aI ?_))))
 cases h0
 exact r0t 4 rfl
 refine sk (sq [0,1] (pm ?_))
 refine pa (nx (aA ?_))
 cases h0
 exact r0t 4 rfl
theorem aBk {p0:bX} {p1:Int} {r:Int} (h0:jH p0 p1=some r):FnC Tryz.prog 25 [] [.agg [dL cI p0.Cam,(dI p0.Months),(dI p0.Teeth),(dI p0.At),(dI p0.Day),(dI p0.Week),(dI p0.Weekday)],(dI p1)] [] (dI r):=by
 refine fi 12 tok Tryz.func25 ?_
 unfold jH at h0
 refine sq [0,1] (bxx 3 ?_)
 refine pa (nx (sq [0,1,2,3,4] ?_))
 refine fa tok ?_
 refine ld tok ?_
 refine pm ?_
 obtain ⟨v1,hv1,h0⟩:=bnd h0
 refine rS rfl (aM 4 (uA hv1) rfl rfl rfl) (pa (nx (aB (sq [0,1] ?_))))
 refine pm ?_
 refine rP rfl (bK rfl rfl) (nx ?_)
 refine bC h0 rfl (fun hc h0 => ?_) (fun hc h0 => ?_)
 refine sq [0] (pa (nx (aA (aI ?_))))
 cases h0
 exact r0t 4 rfl
 refine sk (sq [0,1] (pm ?_))
 refine pa (nx (aA ?_))
 cases h0
 exact r0t 4 rfl
theorem aL5 {p0:wN} {p1:Int} {r:Int} (h0:sH p0 p1=some r):FnC Tryz.prog 13 [] [.agg [dS p0.Movement.Name,(dL aS p0.Movement.Works.Arbors),(dL bV p0.Movement.Works.Meshes),(dI p0.Movement.Minute),(dI p0.Movement.Hour),(dI p0.Movement.Escape),(dI p0.Movement.Teeth),(dI p0.Movement.Beats),(dS p0.Movement.Calendar.Name),(dL aT p0.Movement.Calendar.Months),(dL aK p0.Movement.Calendar.Rules),(dI p0.Movement.Calendar.Week),(dL cI p0.Movement.Cam),(dI p0.Movement.Strike),(dI p0.Start.Year),(dI p0.Start.Month),(dI p0.Start.Day),(dI p0.First),(dI p0.Clock),(dL cI p0.Dial.Cam),(dI p0.Dial.Months),(dI p0.Dial.Teeth),(dI p0.Dial.At),(dI p0.Dial.Day),(dI p0.Dial.Week),(dI p0.Dial.Weekday)],(dI p1)] [] (dI r):=by
 refine fi 18 tok Tryz.func13 ?_
 unfold sH at h0
 refine sq [0,1] (bxx 3 ?_)
 refine pa (nx (sq [0,1,2,3,4] ?_))
 refine fa tok ?_
 refine rL rfl (bA tok rfl rfl rfl rfl) (pm ?_)
 obtain ⟨v1,hv1,h0⟩:=bnd h0
 refine rS rfl (aM 4 (aCp hv1) rfl rfl rfl) (pa (nx (aB (sq [0,1] ?_))))
 refine pm ?_
 refine rP rfl (bK rfl rfl) (nx ?_)
 refine bC h0 rfl (fun hc h0 => ?_) (fun hc h0 => ?_)
 refine sq [0] (pa (nx (aA (aI ?_))))
 cases h0
 exact r0t 4 rfl
 refine sk (sq [0,1,2,3,4] (fa tok ?_))
 refine rL rfl (bA tok rfl rfl rfl rfl) (pm ?_)
 obtain ⟨v2,hv2,h0⟩:=bnd h0
 refine rS rfl (aM 4 (aBk hv2) rfl rfl rfl) (pa (nx (aB (sq [0,1] ?_))))
 refine pm ?_
 refine rP rfl (bK rfl rfl) (nx ?_)
 refine bC h0 rfl (fun hc h0 => ?_) (fun hc h0 => ?_)
 refine sq [0] (pa (nx (aA (aI ?_))))
 cases h0
 exact r0t 4 rfl
 refine sk (sq [0,1] (pm ?_))
 refine pa (nx (aA ?_))
 cases h0
 exact r0t 4 rfl
theorem aB4 {p0:rR} {p1:Int} {r:Int} (h0:nN p0 p1=some r):FnC Tryz.prog 8 [] [.agg [dS p0.Sim.Movement.Name,(dL aS p0.Sim.Movement.Works.Arbors),(dL bV p0.Sim.Movement.Works.Meshes),(dI p0.Sim.Movement.Minute),(dI p0.Sim.Movement.Hour),(dI p0.Sim.Movement.Escape),(dI p0.Sim.Movement.Teeth),(dI p0.Sim.Movement.Beats),(dS p0.Sim.Movement.Calendar.Name),(dL aT p0.Sim.Movement.Calendar.Months),(dL aK p0.Sim.Movement.Calendar.Rules),(dI p0.Sim.Movement.Calendar.Week),(dL cI p0.Sim.Movement.Cam),(dI p0.Sim.Movement.Strike),(dI p0.Sim.Start.Year),(dI p0.Sim.Start.Month),(dI p0.Sim.Start.Day),(dI p0.Sim.First),(dI p0.Sim.Clock),(dL cI p0.Sim.Dial.Cam),(dI p0.Sim.Dial.Months),(dI p0.Sim.Dial.Teeth),(dI p0.Sim.Dial.At),(dI p0.Sim.Dial.Day),(dI p0.Sim.Dial.Week),(dI p0.Sim.Dial.Weekday)],(dI p1)] [] (dI r):=by
 refine fi 12 tok Tryz.func8 ?_
 unfold nN at h0
 refine sq [0,1] (bxx 3 ?_)
 refine pa (nx (sq [0,1,2,3,4] ?_))
 refine fa tok ?_
 refine rL rfl (bA tok rfl rfl rfl rfl) (pm ?_)
 obtain ⟨v1,hv1,h0⟩:=bnd h0
 refine rS rfl (aM 4 (aL5 hv1) rfl rfl rfl) (pa (nx (aB (sq [0,1] ?_))))
 refine pm ?_
 refine rP rfl (bK rfl rfl) (nx ?_)
 refine bC h0 rfl (fun hc h0 => ?_) (fun hc h0 => ?_)
 refine sq [0] (pa (nx (aA (aI ?_))))
 cases h0
 exact r0t 4 rfl
 refine sk (sq [0,1] (pm ?_))
 refine pa (nx (aA ?_))
 cases h0
 exact r0t 4 rfl
theorem aAh  {r:Bool} (h0:kW  = some r):FnC Tryz.prog 3 [] [] [] (dB r):=by
 refine fi 36 tok Tryz.func3 ?_
 unfold kW at h0
 refine sq [0] (pa (nx (sq [0,1,2] ?_)))
 obtain ⟨v1,hv1,h0⟩:=bnd h0
 refine rS rfl (aM 3 (aMv hv1) rfl rfl rfl) (al 10 [ze,zl,zl,z0,z0,z0,z0,z0,ze,zl,zl,z0,zl,z0,z0,z0,z0,z0,z0,zl,z0,z0,z0,z0,z0,z0] tok ?_)
 refine bst tok (nx (sq [0,1,2] ?_))
 obtain ⟨v2,hv2,h0⟩:=bnd h0
 refine rS rfl (aM 11 (aD6 hv2) rfl rfl rfl) (al 18 [ze,zl,zl,z0,z0,z0,z0,z0,ze,zl,zl,z0,zl,z0,z0,z0,z0,z0,z0,zl,z0,z0,z0,z0,z0,z0] tok ?_)
 refine bst tok (nx (aB (sq [0,1,2,3] ?_)))
 refine rL rfl (bA tok rfl rfl rfl rfl) (rL rfl (bA tok rfl rfl rfl rfl) ?_)
 obtain ⟨v3,hv3,h0⟩:=bnd h0
 refine rS rfl (eW 19 (aGi hv3) rfl rfl) (rP rfl (bW rfl) (nx ?_))
 refine bM h0 rfl (fun hc h0 => ?_) (fun hc h0 => ?_)
 refine sq [0] (pa (nx (aA (aI ?_))))
 cases h0
 exact r0t 0 rfl
 refine sk (sq [0] (pa (nx (sq [0,1,2,3] ?_))))
 refine rL rfl (bA tok rfl rfl rfl rfl) (pm ?_)
 obtain ⟨v4,hv4,h0⟩:=bnd h0
 obtain ⟨hq5,h0⟩:=cO h0
 obtain ⟨hq6,h0⟩:=cO h0
 obtain ⟨hq7,h0⟩:=cO h0
 obtain ⟨hq8,h0⟩:=cO h0
 obtain ⟨hq9,h0⟩:=cO h0
 obtain ⟨hq10,h0⟩:=cO h0
 refine rw1 rfl w0 rfl (nX [11,12,13,14,15,16,17] 300 (aFw hv4) rfl rfl) (pa (nx (sq [0] ?_)))
 refine pa (nx (sq [0,1,2,3] ?_))
 refine rL rfl (bA tok rfl rfl rfl rfl) (pm ?_)
 obtain ⟨v11,hv11,h0⟩:=bnd h0
 refine rS rfl (eW 19 (aB4 hv11) rfl rfl) (pa (nx (aB (sq [0,1] ?_))))
 refine pm ?_
 refine rP rfl (bK rfl rfl) (nx ?_)
 refine bC h0 rfl (fun hc h0 => ?_) (fun hc h0 => ?_)
 refine sq [0] (pa (nx (aA (aI ?_))))
 cases h0
 exact r0t 0 rfl
 refine sk (aB (sq [0,1,2] (pm ?_)))
 refine pm ?_
 refine rP rfl (cQ rfl rfl) (nx ?_)
 refine bC h0 rfl (fun hc h0 => ?_) (fun hc h0 => ?_)
 refine sq [0] (pa (nx (aA (aI ?_))))
 cases h0
 exact r0t 0 rfl
 refine sk (sq [0,1,2] ?_)
 obtain ⟨v12,hv12,h0⟩:=bnd h0
 refine rS rfl (aM 19 (aD6 hv12) rfl rfl rfl) (al 26 [ze,zl,zl,z0,z0,z0,z0,z0,ze,zl,zl,z0,zl,z0,z0,z0,z0,z0,z0,zl,z0,z0,z0,z0,z0,z0] tok ?_)
 refine bst tok (nx (aB (sq [0,1,2,3] ?_)))
 refine rL rfl (bA tok rfl rfl rfl rfl) (rL rfl (bA tok rfl rfl rfl rfl) ?_)
 obtain ⟨v13,hv13,h0⟩:=bnd h0
 refine rS rfl (eW 27 (aGi hv13) rfl rfl) (rP rfl (bW rfl) (nx ?_))
 refine bM h0 rfl (fun hc h0 => ?_) (fun hc h0 => ?_)
 refine sq [0] (pa (nx (aA (aI ?_))))
 cases h0
 exact r0t 0 rfl
 refine sk (sq [0] (pa (nx (sq [0,1,2,3] ?_))))
 refine rL rfl (bA tok rfl rfl rfl rfl) (pm ?_)
 obtain ⟨v14,hv14,h0⟩:=bnd h0
 refine rS rfl (eW 27 (aB4 hv14) rfl rfl) (pa (nx (aB (sq [0,1] ?_))))
 refine pm ?_
 refine rP rfl (bK rfl rfl) (nx ?_)
 refine bC h0 rfl (fun hc h0 => ?_) (fun hc h0 => ?_)
 refine sq [0] (pa (nx (aA (aI ?_))))
 cases h0
 exact r0t 0 rfl
 refine sk (aB (sq [0,1,2] (pm ?_)))
 refine pm ?_
 refine rP rfl (cQ rfl rfl) (nx ?_)
 refine bC h0 rfl (fun hc h0 => ?_) (fun hc h0 => ?_)
 refine sq [0] (pa (nx (aA (aI ?_))))
 cases h0
 exact r0t 0 rfl
 refine sk (sq [0] (pa (nx (aA ?_))))
 cases h0
 exact r0t 0 rfl
end Go.Proofs.YtceknlcbfomdhaaGreatDoor
namespace Go.Proofs.YtceknlcbfomdhaaGreatDoor
set_option linter.unusedVariables false
theorem aSk (x:Int):IntKind.u64.wrap x=x % 18446744073709551616:=by
 unfold IntKind.wrap
 simp [IntKind.signed,IntKind.bits]
theorem aLa {x:Int} (h0:0≤x) (h1:x<18446744073709551616):IntKind.u64.wrap x=x:=by rw [aSk];omega
theorem aSl {x:Int} (h0 : -18446744073709551616<x) (h1:x<0):IntKind.u64.wrap (-(IntKind.u64.wrap x)) = -x:=by rw [aSk,aSk];omega
def fI (x:Int):Int:=(x.natAbs:Int)
theorem rC (x:Int):0≤fI x:=by unfold fI;omega
theorem aB8 {x:Int} (h:osI x):pK x=some (fI x):=by
 obtain ⟨h0,h1⟩:=h
 unfold pK fI
 split
 ·rw [aSl (by omega) (by omega)];congr 1;omega
 ·rw [aLa (by omega) (by omega)];congr 1;omega
theorem yU {x:Int} (h:osI x):lT x=some (fI x):=by
 obtain ⟨h0,h1⟩:=h
 unfold lT fI
 split
 ·rw [aSl (by omega) (by omega)];congr 1;omega
 ·rw [aLa (by omega) (by omega)];congr 1;omega
theorem aNv {a b:Int}:Int.gcd b (a.tmod b)=Int.gcd a b:=by
 unfold Int.gcd
 rw [Int.natAbs_tmod,Nat.gcd_comm a.natAbs b.natAbs,Nat.gcd_comm, ← Nat.gcd_rec]
theorem aTo {step:Int × Int→Option ((Int × Int) ⊕ Int)} (hS : ∀ a b,b≠0→step (a,b)=some (.inl (b,a.tmod b))) (hE : ∀ a,step (a,0)=some (.inr a)) (a b:Int) (hb:b.natAbs≤9223372036854775808) :
  ∃ g,cD step (a,b)=some g∧g.natAbs=Int.gcd a b∧(g=a∨g.natAbs≤b.natAbs):=by
 refine xY (fun (s:Int × Int)=>Int.gcd s.1 s.2=Int.gcd a b∧s.2.natAbs≤b.natAbs∧(s.1=a∨s.1.natAbs≤b.natAbs)) (fun (s:Int × Int)=>s.2.natAbs) (fun g=>g.natAbs=Int.gcd a b∧(g=a∨g.natAbs≤b.natAbs)) (fun s hI => ?_) (a,b) ⟨rfl,Nat.le_refl _, .inl rfl⟩ (by dsimp only;omega)
 obtain ⟨x,y⟩:=s
 obtain ⟨h1,h2,h3⟩:=hI
 dsimp only at h1 h2 h3 ⊢
 by_cases hy:y=0
 ·right
  subst hy
  exact ⟨x,hE x,by rw [← h1];simp,h3⟩
 ·left
  have hlt:(x.tmod y).natAbs<y.natAbs:=by rw [Int.natAbs_tmod];exact Nat.mod_lt _ (by omega)
  exact ⟨_,hS x y hy,⟨by rw [aNv];exact h1,by dsimp only;omega, .inr h2⟩,hlt⟩
theorem aD3 {step:Int × Int→Option ((Int × Int) ⊕ Int)} (hS : ∀ a b,0≤a→0<b→step (a,b)=some (.inl (b,a.tmod b))) (hE : ∀ a,step (a,0)=some (.inr a)) {a b:Int} (ha:0≤a) (hb0:0≤b) (hb:b≤18446744073709551616) :
  cD step (a,b)=some (Int.gcd a b:Int):=by
 obtain ⟨g,h,h1,h2⟩:=xY (step:=step) (fun (s:Int × Int)=>Int.gcd s.1 s.2=Int.gcd a b∧0≤s.1∧0≤s.2) (fun (s:Int × Int)=>s.2.natAbs) (fun g=>g.natAbs=Int.gcd a b∧0≤g) (fun s hI=>by
  obtain ⟨x,y⟩:=s
  obtain ⟨h1,h2,h3⟩:=hI
  dsimp only at h1 h2 h3 ⊢
  by_cases hy:y=0
  ·right
   subst hy
   exact ⟨x,hE x,by rw [← h1];simp,h2⟩
  ·left
   have hlt:(x.tmod y).natAbs<y.natAbs:=by rw [Int.natAbs_tmod];exact Nat.mod_lt _ (by omega)
   exact ⟨_,hS x y h2 (by omega),⟨by rw [aNv];exact h1,h3,Int.tmod_nonneg _ h2⟩,hlt⟩) (a,b) ⟨rfl,ha,hb0⟩ (by dsimp only;omega)
 rw [h];congr 1;omega
theorem nY {n d:Int} (h:d≠0):0<Int.gcd n d:=Int.gcd_pos_of_ne_zero_right n h
theorem aP5 (n d:Int):Int.gcd (fI n) (fI d)=Int.gcd n d:=by unfold fI Int.gcd;simp
theorem uO {a g:Int} (ha:0≤a) (hg:0<g):0≤a / g∧a / g≤a:=⟨Int.ediv_nonneg ha (by omega),Int.ediv_le_self _ ha⟩
def mkR (n d:Int):aD × Bool :=
 if 1000000000<fI n / (Int.gcd n d:Int)∨1000000000<fI d / (Int.gcd n d:Int) then (⟨0,0⟩,false)
 else (⟨if (decide (n<0) != decide (d<0))=true then -(fI n / (Int.gcd n d:Int)) else fI n / (Int.gcd n d:Int),fI d / (Int.gcd n d:Int)⟩,true)
theorem aJ0 {n d:Int} (hn:osI n) (hd:osI d) (h:d≠0) {f:Int→Option (aD × Bool)} (hf : ∀ g,f g=(chk (g≠0) (chk (g≠0) ((((if 1000000000<(IntKind.u64.wrap ((fI n).tdiv g)) then some true else some (decide (1000000000<(IntKind.u64.wrap ((fI d).tdiv g))))):Option Bool).bind fun v10=>(if v10=true then some ((⟨0,0⟩:aD),false) else (((if ((decide (n<0)) != (decide (d<0)))=true then some (⟨w64 (-(w64 (IntKind.u64.wrap ((fI n).tdiv g)))),w64 (IntKind.u64.wrap ((fI d).tdiv g))⟩:aD) else some (⟨w64 (IntKind.u64.wrap ((fI n).tdiv g)),w64 (IntKind.u64.wrap ((fI d).tdiv g))⟩:aD)):Option aD).bind fun v11=>some (v11,true)))))))) :
  f (Int.gcd n d:Int)=some (mkR n d):=by
 have hg:=nY (n:=n) h
 have a0:=rC n
 have b0:=rC d
 have a1:fI n≤9223372036854775808:=by unfold fI;obtain ⟨_,_⟩:=hn;omega
 have b1:fI d≤9223372036854775808:=by unfold fI;obtain ⟨_,_⟩:=hd;omega
 have qa:=uO (a:=fI n) (g:=(Int.gcd n d:Int)) a0 (by omega)
 have qb:=uO (a:=fI d) (g:=(Int.gcd n d:Int)) b0 (by omega)
 rw [hf,fY (by omega),fY (by omega),Int.tdiv_eq_ediv_of_nonneg a0,Int.tdiv_eq_ediv_of_nonneg b0]
 unfold mkR
 generalize fI n / (Int.gcd n d:Int)=a at *
 generalize fI d / (Int.gcd n d:Int)=b at *
 rw [aLa qa.1 (by omega),aLa qb.1 (by omega)]
 by_cases c1:1000000000<a
 ·simp [c1]
 ·by_cases c2:1000000000<b
  ·simp [c1,c2]
  ·rw [bD (x:=a) (by omega) (by omega),bD (x:=b) (by omega) (by omega),bD (x := -a) (by omega) (by omega)]
   simp only [if_neg c1,decide_eq_false c2,Option.bind_some,Bool.false_eq_true,if_false,c1,c2,or_self]
   cases (decide (n<0) != decide (d<0)) <;> simp
theorem lK {n d:Int} (hn:osI n) (hd:osI d) (h:d≠0):fN n d=some (mkR n d):=by
 unfold fN
 have b1:fI d≤9223372036854775808:=by unfold fI;obtain ⟨_,_⟩:=hd;omega
 rw [aB8 hn,Option.bind_some,aB8 hd,Option.bind_some,aD3 (fun a b h0 h1=>by simp only;rw [if_pos h1,fY (by omega)]) (fun a=>by simp) (rC n) (rC d) (by omega),aP5,Option.bind_some]
 exact aJ0 hn hd h fun g=>rfl
theorem aJu {n d:Int} (hn:osI n) (hd:osI d) (h:d≠0):sB n d=some (mkR n d):=by
 unfold sB
 have b1:fI d≤9223372036854775808:=by unfold fI;obtain ⟨_,_⟩:=hd;omega
 rw [yU hn,Option.bind_some,yU hd,Option.bind_some,aD3 (fun a b h0 h1=>by simp only;rw [if_pos (by omega),fY (by omega)]) (fun a=>by simp) (rC n) (rC d) (by omega),aP5,Option.bind_some]
 exact aJ0 hn hd h fun g=>rfl
def yP (x:aD × Bool):aD × Int:=if x.2=true then (x.1,0) else (⟨0,0⟩,2)
def aEj (n d:Int):aD × Int:=if d=0 then (⟨0,0⟩,6) else yP (mkR n d)
theorem mH {n d:Int} (hn:osI n) (hd:osI d):eS n d=some (aEj n d):=by
 unfold eS aEj yP
 by_cases h:d=0
 ·rw [if_pos h,if_pos h]
 ·rw [if_neg h,if_neg h,aJu hn hd h,Option.bind_some]
  cases (mkR n d).2 <;> simp
theorem aDc {a b:Int} (ha:osI a) (ha' : -9223372036854775808<a) (hb:osI b) (hb' : -9223372036854775808<b):vL a b=some (Int.gcd a b:Int):=by
 unfold vL
 obtain ⟨a0,a1⟩:=ha
 obtain ⟨b0,b1⟩:=hb
 obtain ⟨g,h,h1,h2⟩:=aTo (step:=fun s3=>(if s3.2≠0 then (chk (s3.2≠0) (some (.inl (s3.2,s3.1.tmod s3.2)))) else some (.inr s3.1))) (fun a b h=>by simp only;rw [if_pos h,fY h]) (fun a=>by simp) a b (by omega)
 rw [h,Option.bind_some]
 split
 ·rw [bD (by omega) (by omega)];congr 1;omega
 ·congr 1;omega
theorem vT {a b:Int} (ha:0≤a) (hb:0≤b) (hb1:b≤18446744073709551616):pI a b=some (Int.gcd a b:Int):=by
 unfold pI
 rw [aD3 (fun a b h0 h1=>by simp only;rw [if_pos (by omega),fY (by omega)]) (fun a=>by simp) ha hb hb1];rfl
theorem qP {a:Int} (h : -9223372036854775808<a) (h1:a≤9223372036854775807):jX a=some (fI a):=by
 unfold jX fI
 split
 ·rw [bD (by omega) (by omega)];congr 1;omega
 ·congr 1;omega
theorem aDb {a:Int} (h : -9223372036854775808<a) (h1:a≤9223372036854775807):wW a=some (fI a):=by
 unfold wW fI
 split
 ·rw [bD (by omega) (by omega)];congr 1;omega
 ·congr 1;omega
def aDh (r:aD):Bool:=btw r.Den 1 1000000000 && (btw r.Num (-1000000000) 1000000000 && decide (Int.gcd r.Num r.Den=1))
theorem aDi {r:aD}:aDh r=true ↔ (1≤r.Den∧r.Den≤1000000000)∧(-1000000000≤r.Num∧r.Num≤1000000000)∧Int.gcd r.Num r.Den=1:=by
 unfold aDh btw
 simp only [Bool.and_eq_true,decide_eq_true_eq]
theorem lD (r:aD):fD r=some (aDh r):=by
 unfold fD aDh
 simp only [fM,Option.bind_some]
 by_cases h1:btw r.Den 1 1000000000=true
 ·by_cases h2:btw r.Num (-1000000000) 1000000000=true
  ·have g1:=of_decide_eq_true h1
   have g2:=of_decide_eq_true h2
   rw [if_pos h1,if_pos h2,aDc ⟨by omega,by omega⟩ (by omega) ⟨by omega,by omega⟩ (by omega),h1,h2]
   simp only [Option.bind_some,Bool.true_and]
   congr 1
   rw [decide_eq_decide]
   omega
  ·simp [h1,h2]
 ·simp [h1]
theorem aGm (r:aD):uU r=some (aDh r):=by
 unfold uU aDh
 simp only [eO,Option.bind_some]
 by_cases h1:btw r.Den 1 1000000000=true
 ·by_cases h2:btw r.Num (-1000000000) 1000000000=true
  ·have g1:=of_decide_eq_true h1
   have g2:=of_decide_eq_true h2
   have e:Int.gcd (fI r.Num) r.Den=Int.gcd r.Num r.Den:=by unfold fI Int.gcd;simp
   rw [if_pos h1,if_pos h2,qP (by omega) (by omega),Option.bind_some,vT (rC _) (by omega) (by omega),h1,h2,e]
   simp only [Option.bind_some,Bool.true_and]
   congr 1
   rw [decide_eq_decide]
   omega
  ·simp [h1,h2]
 ·simp [h1]
end Go.Proofs.YtceknlcbfomdhaaGreatDoor
namespace Go.Proofs.YtceknlcbfomdhaaGreatDoor
set_option linter.unusedVariables false
def aSw (m:bE):Bool:=oH m.Name && (btw m.Days 1 60 && btw m.Leap 1 60)
def rJ (r:aO):Bool:=btw r.Every 1 1000 && btw r.Rest 0 (r.Every-1)
def aGc (y:Int) (r:aO):Int:=if y≤2000 then y / (Int.gcd y r.Every:Int)*r.Every else y
def cyc (rs:List aO):Int:=rs.foldl aGc 1
def aJ8 (xs:List bE):Bool:=aLg xs fun i m=>aSw m && !((xs.take i).any fun n=>decide (n.Name=m.Name))
def vC (c:aF):Bool:=oH c.Name && (decide (1≤c.Months.length∧c.Months.length≤20) && (decide (c.Rules.length≤6) && (btw c.Week 1 12 && (aJ8 c.Months && (c.Rules.all rJ && decide (cyc c.Rules≤2000))))))
theorem uP {r:aO}:rJ r=true ↔ (1≤r.Every∧r.Every≤1000)∧0≤r.Rest∧r.Rest≤r.Every-1:=by
 unfold rJ btw
 simp only [Bool.and_eq_true,decide_eq_true_eq]
theorem xS {y e:Int} (y0:1≤y) (y1:y≤2000) (e0:1≤e) (e1:e≤1000):1≤y / (Int.gcd y e:Int)∧y / (Int.gcd y e:Int)≤2000∧1≤y / (Int.gcd y e:Int)*e∧y / (Int.gcd y e:Int)*e≤2000000:=by
 have hg:=nY (n:=y) (d:=e) (by omega)
 have hd:(Int.gcd y e:Int) ∣ y:=Int.gcd_dvd_left ..
 have h1:1≤y / (Int.gcd y e:Int):=by
  have h2:(Int.gcd y e:Int)≤y:=Int.le_of_dvd (by omega) hd
  exact (Int.le_ediv_iff_mul_le (by omega)).2 (by omega)
 have h2:y / (Int.gcd y e:Int)≤y:=Int.ediv_le_self _ (by omega)
 refine ⟨h1,by omega,?_,?_⟩
 ·have:=Int.mul_le_mul h1 e0 (by omega) (by omega);omega
 ·have:=Int.mul_le_mul (show y / (Int.gcd y e:Int)≤2000 by omega) e1 (by omega) (by omega);omega
theorem aVk {y:Int} {r:aO} (y0:1≤y) (y1:y≤2000000) (h:rJ r=true):1≤aGc y r∧aGc y r≤2000000:=by
 unfold aGc
 have hr:=uP.1 h
 split
 ·have:=xS y0 (by omega) hr.1.1 hr.1.2;omega
 ·omega
theorem aNs {rs:List aO} {y:Int} (h:2000<y):rs.foldl aGc y=y:=by
 induction rs generalizing y with
 | nil=>rfl
 | cons r rs ih =>
  rw [List.foldl_cons]
  have e:aGc y r=y:=by unfold aGc;rw [if_neg (by omega)]
  rw [e];exact ih h
theorem sA {rs:List aO} (hl:rs.length≤9223372036854775807) (h:rs.all rJ=true):iP rs=some (cyc rs):=by
 unfold iP
 have hr : ∀ (i:Nat) (hi:i<rs.length),rJ rs[i]=true:=fun i hi=>(List.all_eq_true.1 h) _ (List.getElem_mem hi)
 have:=aAn (xs:=rs) (step:=fun s6=>(if s6.2<(rs.length:Int) then ((((atI rs s6.2).bind fun v7=>(if s6.1≤2000 then ((vL s6.1 v7.Every).bind fun v8=>(chk (v8≠0) (some (w64 ((w64 (s6.1.tdiv v8))*v7.Every))))) else some s6.1)):Option Int).bind fun v10=>some (.inl (v10,w64 (s6.2+1)))) else some (.inr s6.1)))
  (fun i (y:Int)=>(y,i)) (fun _ r y=>some (.inl (aGc y r))) id (fun y=>1≤y∧y≤2000000) hl (fun i hi y hy=>by
   have hi':(i:Int)<rs.length:=by omega
   have e1:w64 ((i:Int)+1)=i+1:=bD (by omega) (by omega)
   have hq:=uP.1 (hr i hi)
   simp only [if_pos hi',dT hi,Option.bind_some,e1]
   unfold aGc
   by_cases c:y≤2000
   ·have hc:=xS hy.1 c hq.1.1 hq.1.2
    have hg:=nY (n:=y) (d:=rs[i].Every) (by omega)
    rw [if_pos c,if_pos c,aDc ⟨by omega,by omega⟩ (by omega) ⟨by omega,by omega⟩ (by omega),Option.bind_some,fY (by omega),Int.tdiv_eq_ediv_of_nonneg (by omega),bD (x:=y / _) (by omega) (by omega),bD (by omega) (by omega)]
    rfl
   ·rw [if_neg c,if_neg c];rfl) (fun i hi y y' hy e=>by
   injection e with e;injection e with e;subst e
   exact aVk hy.1 hy.2 (hr i hi)) (fun y _=>by simp) 1 (by omega)
 rw [this,rW aGc (fun _ _ _=>rfl)]
 rfl
theorem aM8 {X:Type} {e:X} {rs:List aO} : ∀ (k:Nat) (y:Int),1≤y→y≤2000→aP0 (X:=X) (fun _ r y=>if rJ r=true then (if 2000<y / (Int.gcd y r.Every:Int)*r.Every then some (.inr e) else some (.inl (y / (Int.gcd y r.Every:Int)*r.Every))) else some (.inr e)) rs k y=some (if rs.all rJ=true∧rs.foldl aGc y≤2000 then .inl (rs.foldl aGc y) else .inr e):=by
 induction rs with
 | nil=>intro k y h0 h1;simp [aP0,h1]
 | cons r rs ih =>
  intro k y h0 h1
  show Option.bind (if rJ r=true then _ else _) _=_
  cases hr:rJ r
  ·simp [hr]
  ·have hq:=uP.1 hr
   have hc:=xS h0 h1 hq.1.1 hq.1.2
   have e:aGc y r=y / (Int.gcd y r.Every:Int)*r.Every:=by unfold aGc;rw [if_pos h1]
   rw [if_pos rfl,List.foldl_cons,List.all_cons,hr,e,Bool.true_and]
   by_cases c:2000<y / (Int.gcd y r.Every:Int)*r.Every
   ·rw [if_pos c,Option.bind_some,aNs c,if_neg (by omega)]
   ·rw [if_neg c,Option.bind_some]
    exact ih (k+1) _ hc.2.2.1 (by omega)
theorem wA {rs:List aO} (hl:rs.length≤9223372036854775807):nU rs=some (if rs.all rJ=true∧cyc rs≤2000 then (cyc rs,decide (rs.length≤6)) else (0,false)):=by
 unfold nU
 rw [aAn (xs:=rs) (fun i (y:Int)=>(y,i)) (fun _ r y=>if rJ r=true then (if 2000<y / (Int.gcd y r.Every:Int)*r.Every then some (.inr (.inr (0,false))) else some (.inl (y / (Int.gcd y r.Every:Int)*r.Every))) else some (.inr (.inr (0,false)))) (fun y => .inl y) (fun y=>1≤y∧y≤2000) hl (fun i hi y hy => ?_) (fun i hi y y' hy e => ?_) (fun y _=>by simp) 1 (by omega)]
 ·have e:aP0 (X:=Int ⊕ (Int × Bool)) (fun _ r y=>if rJ r=true then (if 2000<y / (Int.gcd y r.Every:Int)*r.Every then some (.inr (.inr (0,false))) else some (.inl (y / (Int.gcd y r.Every:Int)*r.Every))) else some (.inr (.inr (0,false)))) rs 0 1=some (if rs.all rJ=true∧cyc rs≤2000 then .inl (cyc rs) else .inr (.inr (0,false))):=aM8 0 1 (by omega) (by omega)
  rw [e]
  by_cases c:rs.all rJ=true∧cyc rs≤2000
  ·simp only [if_pos c]
   simp [orE]
   omega
  ·simp only [if_neg c];rfl
 ·have hi':(i:Int)<rs.length:=by omega
  have e1:w64 ((i:Int)+1)=i+1:=bD (by omega) (by omega)
  simp only [if_pos hi',dT hi,Option.bind_some,e1,eO]
  have e2:rJ rs[i]=(btw rs[i].Every 1 1000 && btw rs[i].Rest 0 (rs[i].Every-1)):=rfl
  rw [e2]
  by_cases c1:btw rs[i].Every 1 1000=true
  ·have q:=of_decide_eq_true c1
   rw [c1,bD (x:=rs[i].Every-1) (by omega) (by omega)]
   cases btw rs[i].Rest 0 (rs[i].Every-1)
   ·rfl
   ·have hc:=xS hy.1 hy.2 q.1 q.2
    have hg:=nY (n:=y) (d:=rs[i].Every) (by omega)
    simp only [Bool.not_true,Bool.false_eq_true,if_false,Option.bind_some,Bool.and_self,if_true]
    rw [vT (by omega) (by omega) (by omega),Option.bind_some,fY (by omega),Int.tdiv_eq_ediv_of_nonneg (by omega),bD (x:=y / _) (by omega) (by omega),bD (by omega) (by omega)]
    by_cases c:2000<y / (Int.gcd y rs[i].Every:Int)*rs[i].Every
    ·rw [if_pos c,if_pos c];rfl
    ·rw [if_neg c,if_neg c];rfl
  ·rw [Bool.not_eq_true] at c1
   rw [c1];rfl
 ·split at e
  ·rename_i hr
   have hq:=uP.1 hr
   have hc:=xS hy.1 hy.2 hq.1.1 hq.1.2
   split at e
   ·cases e
   ·injection e with e;injection e with e;omega
  ·cases e
theorem aD9 {xs:List bE} {m:bE} (hl:xs.length≤9223372036854775807):bY xs m=some (xs.any fun n=>decide (n.Name=m.Name)):=by
 unfold bY cY
 rw [aTh (fun n=>decide (n.Name=m.Name)) hl fun i hi=>by rw [dT hi,Option.bind_some,jR,Option.bind_some],Option.bind_some,aH8]
theorem iG {c:aF} (hm:c.Months.length≤9223372036854775807) (hr:c.Rules.length≤9223372036854775807):eJ c=some (vC c):=by
 unfold eJ vC
 simp only [vI,fM,Option.bind_some,itO]
 simp only [aZ3 (p:=(_:Int)<_),itO,Option.bind_some]
 by_cases h:oH c.Name=true∧(1≤c.Months.length∧c.Months.length≤20)∧c.Rules.length≤6∧btw c.Week 1 12=true
 ·obtain ⟨h1,h2,h3,h4⟩:=h
  rw [h1,h4,decide_eq_false (show ¬ (c.Months.length:Int)<1 by omega),decide_eq_false (show ¬ 20<(c.Months.length:Int) by omega),decide_eq_false (show ¬ 6<(c.Rules.length:Int) by omega),decide_eq_true h2,decide_eq_true h3,if_neg (by decide),
   xO (e := .inr false) (fun i m=>aSw m && !((c.Months.take i).any fun n=>decide (n.Name=m.Name))) hm fun i hi => ?_,Option.bind_some,
   xO (e := .inr false) (fun _ r=>rJ r) hr fun i hi => ?_,Option.bind_some,nW]
  ·by_cases h5:c.Rules.all rJ=true
   ·rw [sA hr h5,Option.bind_some,h5]
    unfold aJ8
    cases aLg c.Months (fun i m=>aSw m && !((c.Months.take i).any fun n=>decide (n.Name=m.Name))) <;> rfl
   ·rw [Bool.not_eq_true] at h5
    rw [h5]
    unfold aJ8
    cases aLg c.Months (fun i m=>aSw m && !((c.Months.take i).any fun n=>decide (n.Name=m.Name))) <;> rfl
  ·rw [dT hi]
   simp only [Option.bind_some]
   by_cases q:btw c.Rules[i].Every 1 1000=true
   ·have:=of_decide_eq_true q
    unfold rJ
    rw [q,bD (by omega) (by omega)]
    cases btw c.Rules[i].Rest 0 (c.Rules[i].Every-1) <;> rfl
   ·rw [Bool.not_eq_true] at q
    unfold rJ
    rw [q];rfl
  ·rw [dT hi]
   simp only [Option.bind_some]
   rw [fY (aNf (by omega)),aSg,aD9 (by rw [List.length_take];omega),Option.bind_some]
   unfold aSw
   cases oH c.Months[i].Name <;> cases btw c.Months[i].Days 1 60 <;> cases btw c.Months[i].Leap 1 60 <;> cases ((c.Months.take i).any fun n=>decide (n.Name=c.Months[i].Name)) <;> rfl
 ·have e:(!oH c.Name || (decide ((c.Months.length:Int)<1) || (decide (20<(c.Months.length:Int)) || (decide (6<(c.Rules.length:Int)) || !btw c.Week 1 12))))=true:=by
   simp only [Bool.or_eq_true,Bool.not_eq_true',decide_eq_true_eq]
   by_cases h1:oH c.Name=true
   ·by_cases h2:1≤c.Months.length∧c.Months.length≤20
    ·by_cases h3:c.Rules.length≤6
     ·have h4 : ¬ btw c.Week 1 12=true:=fun h4=>h ⟨h1,h2,h3,h4⟩
      simp [h4]
     ·omega
    ·omega
   ·simp [h1]
  rw [e,if_pos rfl]
  congr 1
  symm
  rw [← Bool.not_eq_true]
  simp only [Bool.and_eq_true,decide_eq_true_eq]
  rintro ⟨h1,h2,h3,h4,_⟩
  exact h ⟨h1,h2,h3,h4⟩
theorem aF2 {xs:List bE} (hl:xs.length≤9223372036854775807):oR xs=some (aJ8 xs && decide (1≤xs.length∧xs.length≤20)):=by
 unfold oR
 rw [xO (e := .inr false) (fun i m=>aSw m && !((xs.take i).any fun n=>decide (n.Name=m.Name))) hl fun i hi => ?_,Option.bind_some]
 ·have e:btw (xs.length:Int) 1 20=decide (1≤xs.length∧xs.length≤20):=by unfold btw;rw [decide_eq_decide];omega
  rw [eO,e]
  unfold aJ8
  cases aLg xs (fun i m=>aSw m && !((xs.take i).any fun n=>decide (n.Name=m.Name))) <;> rfl
 ·simp only [dT hi,sN,eO,Option.bind_some,itO]
  rw [aXs (xs:=xs) i (fun _ (b:bE) => !decide (b.Name=xs[i].Name)) (by omega) (by omega) fun j hj _=>by
   rw [dT hj,Option.bind_some]
   by_cases q:xs[j].Name=xs[i].Name
   ·rw [if_pos q,decide_eq_true q];rfl
   ·rw [if_neg q,decide_eq_false q];rfl,nW]
  have e:((xs.take i).all fun b => !decide (b.Name=xs[i].Name)) = !((xs.take i).any fun b=>decide (b.Name=xs[i].Name)):=by rw [Bool.eq_iff_iff];simp
  rw [e]
  unfold aSw
  cases oH xs[i].Name <;> cases btw xs[i].Days 1 60 <;> cases btw xs[i].Leap 1 60 <;> cases ((xs.take i).any fun n=>decide (n.Name=xs[i].Name)) <;> rfl
theorem uW {c:aF} (hm:c.Months.length≤9223372036854775807) (hr:c.Rules.length≤9223372036854775807):qX c=some (vC c):=by
 unfold qX vC
 rw [wA hr,Option.bind_some]
 simp only [sN,aF2 hm,eO,Option.bind_some,itA]
 by_cases h:c.Rules.all rJ=true∧cyc c.Rules≤2000
 ·rw [if_pos h,h.1,decide_eq_true h.2]
  cases oH c.Name <;> cases aJ8 c.Months <;> cases btw c.Week 1 12 <;> cases decide (1≤c.Months.length∧c.Months.length≤20) <;> cases decide (c.Rules.length≤6) <;> rfl
 ·rw [if_neg h]
  have e:(c.Rules.all rJ && decide (cyc c.Rules≤2000))=false:=by
   rw [← Bool.not_eq_true,Bool.and_eq_true,decide_eq_true_eq];exact h
  rw [e]
  cases oH c.Name <;> cases aJ8 c.Months <;> cases btw c.Week 1 12 <;> cases decide (1≤c.Months.length∧c.Months.length≤20) <;> cases decide (c.Rules.length≤6) <;> rfl
def aLh (xs:List Int):Bool:=xs.all (fun n=>btw n 1 60) && decide (1≤xs.length∧xs.length≤260)
theorem aAd {xs:List Int} (hl:xs.length≤9223372036854775807):nI xs=some (aLh xs):=by
 unfold nI aLh
 rw [xO (fun _ v=>btw v 1 60) hl fun i hi=>by rw [dT hi,Option.bind_some,fM,Option.bind_some];cases btw xs[i] 1 60 <;> rfl,nW,Option.bind_some,aZ2]
 have e:(decide (1≤(xs.length:Int)) && decide ((xs.length:Int)≤260))=decide (1≤xs.length∧xs.length≤260):=by rw [← Bool.decide_and,decide_eq_decide];omega
 rw [e]
 exact aOe rfl
theorem aGq {xs:List Int} (hl:xs.length≤9223372036854775807):uX xs=some (aLh xs):=by
 unfold uX aLh
 rw [xO (fun _ v=>btw v 1 60) hl fun i hi=>by rw [dT hi,Option.bind_some,eO,Option.bind_some];cases btw xs[i] 1 60 <;> rfl,nW,Option.bind_some,eO,Option.bind_some]
 have e:btw (xs.length:Int) 1 260=decide (1≤xs.length∧xs.length≤260):=by unfold btw;rw [decide_eq_decide];omega
 rw [e]
 exact aOe rfl
end Go.Proofs.YtceknlcbfomdhaaGreatDoor
namespace Go.Proofs.YtceknlcbfomdhaaGreatDoor
set_option linter.unusedVariables false
def smS (x:ByteArray):Prop:=x.size≤1048576
def smL {α:Type} (sm:α→Prop) (xs:List α):Prop:=xs.length≤1048576 ∧ ∀ m ∈ xs,sm m
theorem aSf (b:Int):(strOfNums [b]).size=1:=by simp [strOfNums,ByteArray.size]
theorem aH1 {k:Int} (h0:0≤k) (h1:k≤1000000000000000000) : ∃ t,gF k=some t:=by
 unfold gF
 by_cases hk:k≤0
 ·exact ⟨_,if_pos hk⟩
 ·rw [if_neg hk]
  obtain ⟨x,hx,hp⟩:=xY (S:=Int × ByteArray) (X:=ByteArray) (step:=fun s5=>(if 0<s5.1 then (chk ((strOfNums [IntKind.u8.wrap (w64 (48+(s5.1.tmod 10)))]).size+s5.2.size≤9223372036854775807) (some (.inl (w64 (s5.1.tdiv 10),(strOfNums [IntKind.u8.wrap (w64 (48+(s5.1.tmod 10)))])++s5.2)))) else some (.inr s5.2)))
   (fun (s:Int × ByteArray)=>0≤s.1∧s.1+s.2.size≤1000000000000000000) (fun (s:Int × ByteArray)=>s.1.toNat) (fun x=>(x.size:Int)≤1000000000000000000) (fun s hI=>by
    obtain ⟨i,b⟩:=s
    obtain ⟨q0,q1⟩:=hI
    dsimp only at q0 q1 ⊢
    by_cases hi:0<i
    ·left
     have e1:i.tdiv 10=i / 10:=Int.tdiv_eq_ediv_of_nonneg q0
     have e2:w64 (i / 10)=i / 10:=bD (by omega) (by omega)
     have e3:=aSf (IntKind.u8.wrap (w64 (48+(i.tmod 10))))
     refine ⟨_,by rw [if_pos hi,fY (by rw [e3];omega)],?_,?_⟩
     ·dsimp only
      rw [e1,e2,ByteArray.size_append,e3]
      push_cast
      omega
     ·dsimp only
      rw [e1,e2];omega
    ·right;exact ⟨b,by rw [if_neg hi],by omega⟩) (k,⟨#[]⟩) ⟨h0,by show k+((0:Nat):Int)≤_;omega⟩ (by dsimp only;omega)
  rw [hx]
  refine ⟨_,fY ?_⟩
  have:(⟨#[109]⟩:ByteArray).size=1:=rfl
  rw [this];omega
def mkT (k:Int):ByteArray:=(gF k).getD ⟨#[]⟩
theorem vQ {k:Int} (h0:0≤k) (h1:k≤1000000000000000000):gF k=some (mkT k):=by
 obtain ⟨t,ht⟩:=aH1 h0 h1
 unfold mkT;rw [ht];rfl
end Go.Proofs.YtceknlcbfomdhaaGreatDoor
namespace Go.Proofs.YtceknlcbfomdhaaGreatDoor
open Go.RowKit
set_option linter.unusedVariables false
set_option maxRecDepth 100000
set_option maxHeartbeats 2000000
def rM (x:bO):Prop:=smS x.Name∧(smL (fun _=>True)) x.Wheels
def aNe (x:bR):Prop:=(fun _=>True) x.A∧(fun _=>True) x.WheelA∧(fun _=>True) x.B∧(fun _=>True) x.WheelB
def tU (x:bG):Prop:=(smL rM) x.Arbors∧(smL aNe) x.Meshes
def aIr (x:bE):Prop:=smS x.Name∧(fun _=>True) x.Days∧(fun _=>True) x.Leap
def zQ (x:aO):Prop:=(fun _=>True) x.Every∧(fun _=>True) x.Rest∧(fun _=>True) x.Leap
def kA (x:aF):Prop:=smS x.Name∧(smL aIr) x.Months∧(smL zQ) x.Rules∧(fun _=>True) x.Week
def eD (x:aW):Prop:=smS x.Name∧tU x.Works∧(fun _=>True) x.Minute∧(fun _=>True) x.Hour∧(fun _=>True) x.Escape∧(fun _=>True) x.Teeth∧(fun _=>True) x.Beats∧kA x.Calendar∧(smL (fun _=>True)) x.Cam∧(fun _=>True) x.Strike
theorem vE {x:List Int} (h:(smL (fun _=>True)) x):lE x x=some true:=by
 unfold lE
 rw [if_neg (by simp),aQn (by have:=h.1;omega)];rfl
theorem aJf {x:bO} (h:rM x):sD x x=some true:=by
 unfold sD
 simp [vE h.2]
theorem aG9 {x:List bO} (h:(smL rM) x):qM x x=some true:=by
 unfold qM
 rw [if_neg (by simp),aC8 (by have:=h.1;omega) fun v hv=>aJf (h.2 v hv)];rfl
theorem aLp {x:bR} (h:aNe x):uM x x=some true:=by
 unfold uM
 simp []
theorem aJg {x:List bR} (h:(smL aNe) x):sE x x=some true:=by
 unfold sE
 rw [if_neg (by simp),aC8 (by have:=h.1;omega) fun v hv=>aLp (h.2 v hv)];rfl
theorem aJi {x:bG} (h:tU x):sG x x=some true:=by
 unfold sG
 simp [aG9 h.1,aJg h.2]
theorem aJh {x:bE} (h:aIr x):sF x x=some true:=by
 unfold sF
 simp []
theorem aHa {x:List bE} (h:(smL aIr) x):qN x x=some true:=by
 unfold qN
 rw [if_neg (by simp),aC8 (by have:=h.1;omega) fun v hv=>aJh (h.2 v hv)];rfl
theorem aDz {x:aO} (h:zQ x):mM x x=some true:=by
 unfold mM
 simp []
theorem aCh {x:List aO} (h:(smL zQ) x):lF x x=some true:=by
 unfold lF
 rw [if_neg (by simp),aC8 (by have:=h.1;omega) fun v hv=>aDz (h.2 v hv)];rfl
theorem aDy {x:aF} (h:kA x):mL x x=some true:=by
 unfold mL
 simp [aHa h.2.1,aCh h.2.2.1]
theorem aD0 {x:aW} (h:eD x):mN x x=some true:=by
 unfold mN
 simp [aJi h.2.1,aDy h.2.2.2.2.2.2.2.1,vE h.2.2.2.2.2.2.2.2.1]
def fV (k:Int):Int:=k
theorem vO {x:List Int} {k:Int} (h0:0≤k) (hk:k≤100000000000000) (hl:x.length≤1048576):fZ x k=some (k+1*x.length,(List.range x.length).map fun (j:Nat)=>fV (k+1*(j:Int))):=by
 unfold fZ
 rw [aDe (c:=1) (B:=1000000000000000) (M:=fV) (by omega) (fun k i ys a1 a2 a3 a4 a5 => ?_) (fun k i ys a=>by simp [a]) h0 hl (by omega)]
 ·rfl
 ·obtain ⟨e,he,_,_⟩:=jQ a3 a4
  have w : ∀ n:Int,0≤n→n≤2000000000000000→w64 n=n:=fun n p q=>bD (by omega) (by omega)
  simp only [if_pos a4,he,Option.bind_some,List.set_set,aG2 a3 a4,w (k+1) (by omega) (by omega),w (i+1) (by omega) (by omega)]
  simp [fV,Int.add_assoc]
theorem vH {n:Nat} {k:Int} (h0:0≤k) (hk:k≤100000000000000) (hl:n≤1048576):iR ((List.range n).map fun (j:Nat)=>fV (k+1*(j:Int))) k=some (k+1*n):=by
 unfold iR
 rw [aDa (c:=1) (B:=1000000000000000) (M:=fV) (n:=n) (by omega) (fun k' i a1 a2 a3 a4 a5 => ?_) (fun k i a=>by simp [a]) h0 hl (by omega)]
 ·rfl
 ·have he:=yB (M:=fV) (k0:=k) (c:=1) a3 a4
  have w : ∀ n:Int,0≤n→n≤2000000000000000→w64 n=n:=fun n p q=>bD (by omega) (by omega)
  rw [← a5] at he
  simp only [List.length_map,List.length_range,if_pos a4,he,Option.bind_some,w (k'+1) (by omega) (by omega),w (i+1) (by omega) (by omega)]
  simp [fV,Int.add_assoc]
def nA (k:Int):bR:=⟨k,k+1,k+2,k+3⟩
theorem aJ1 {x:List bR} {k:Int} (h0:0≤k) (hk:k≤100000000000000) (hl:x.length≤1048576):lH x k=some (k+4*x.length,(List.range x.length).map fun (j:Nat)=>nA (k+4*(j:Int))):=by
 unfold lH
 rw [aDe (c:=4) (B:=1000000000000000) (M:=nA) (by omega) (fun k i ys a1 a2 a3 a4 a5 => ?_) (fun k i ys a=>by simp [a]) h0 hl (by omega)]
 ·rfl
 ·obtain ⟨e,he,_,_⟩:=jQ a3 a4
  have w : ∀ n:Int,0≤n→n≤2000000000000000→w64 n=n:=fun n p q=>bD (by omega) (by omega)
  simp only [if_pos a4,he,Option.bind_some,List.set_set,aG2 a3 a4,w (k+1) (by omega) (by omega),w (k+1+1) (by omega) (by omega),w (k+1+1+1) (by omega) (by omega),w (k+1+1+1+1) (by omega) (by omega),w (i+1) (by omega) (by omega)]
  simp [nA,Int.add_assoc]
theorem aJm {n:Nat} {k:Int} (h0:0≤k) (hk:k≤100000000000000) (hl:n≤1048576):oE ((List.range n).map fun (j:Nat)=>nA (k+4*(j:Int))) k=some (k+4*n):=by
 unfold oE
 rw [aDa (c:=4) (B:=1000000000000000) (M:=nA) (n:=n) (by omega) (fun k' i a1 a2 a3 a4 a5 => ?_) (fun k i a=>by simp [a]) h0 hl (by omega)]
 ·rfl
 ·have he:=yB (M:=nA) (k0:=k) (c:=4) a3 a4
  have w : ∀ n:Int,0≤n→n≤2000000000000000→w64 n=n:=fun n p q=>bD (by omega) (by omega)
  rw [← a5] at he
  simp only [List.length_map,List.length_range,if_pos a4,he,Option.bind_some,w (k'+1) (by omega) (by omega),w (k'+1+1) (by omega) (by omega),w (k'+1+1+1) (by omega) (by omega),w (k'+1+1+1+1) (by omega) (by omega),w (i+1) (by omega) (by omega)]
  simp [nA,Int.add_assoc]
def jV (k:Int):bE:=⟨mkT k,k+1,k+2⟩
theorem aH0 {x:List bE} {k:Int} (h0:0≤k) (hk:k≤100000000000000) (hl:x.length≤1048576):kJ x k=some (k+3*x.length,(List.range x.length).map fun (j:Nat)=>jV (k+3*(j:Int))):=by
 unfold kJ
 rw [aDe (c:=3) (B:=1000000000000000) (M:=jV) (by omega) (fun k i ys a1 a2 a3 a4 a5 => ?_) (fun k i ys a=>by simp [a]) h0 hl (by omega)]
 ·rfl
 ·obtain ⟨e,he,_,_⟩:=jQ a3 a4
  have w : ∀ n:Int,0≤n→n≤2000000000000000→w64 n=n:=fun n p q=>bD (by omega) (by omega)
  simp only [if_pos a4,he,Option.bind_some,List.set_set,aG2 a3 a4,w (k+1) (by omega) (by omega),w (k+1+1) (by omega) (by omega),w (k+1+1+1) (by omega) (by omega),w (i+1) (by omega) (by omega),vQ (show 0≤k by omega) (by omega)]
  simp [jV,Int.add_assoc]
theorem aHe {n:Nat} {k:Int} (h0:0≤k) (hk:k≤100000000000000) (hl:n≤1048576):mP ((List.range n).map fun (j:Nat)=>jV (k+3*(j:Int))) k=some (k+3*n):=by
 unfold mP
 rw [aDa (c:=3) (B:=1000000000000000) (M:=jV) (n:=n) (by omega) (fun k' i a1 a2 a3 a4 a5 => ?_) (fun k i a=>by simp [a]) h0 hl (by omega)]
 ·rfl
 ·have he:=yB (M:=jV) (k0:=k) (c:=3) a3 a4
  have w : ∀ n:Int,0≤n→n≤2000000000000000→w64 n=n:=fun n p q=>bD (by omega) (by omega)
  rw [← a5] at he
  simp only [List.length_map,List.length_range,if_pos a4,he,Option.bind_some,w (k'+1) (by omega) (by omega),w (k'+1+1) (by omega) (by omega),w (k'+1+1+1) (by omega) (by omega),w (i+1) (by omega) (by omega),vQ (show 0≤k' by omega) (by omega)]
  simp [jV,Int.add_assoc]
def eY (k:Int):aO:=⟨k,k+1,decide ((k+2).tmod 3=0)⟩
theorem aCs {x:List aO} {k:Int} (h0:0≤k) (hk:k≤100000000000000) (hl:x.length≤1048576):gN x k=some (k+3*x.length,(List.range x.length).map fun (j:Nat)=>eY (k+3*(j:Int))):=by
 unfold gN
 rw [aDe (c:=3) (B:=1000000000000000) (M:=eY) (by omega) (fun k i ys a1 a2 a3 a4 a5 => ?_) (fun k i ys a=>by simp [a]) h0 hl (by omega)]
 ·rfl
 ·obtain ⟨e,he,_,_⟩:=jQ a3 a4
  have w : ∀ n:Int,0≤n→n≤2000000000000000→w64 n=n:=fun n p q=>bD (by omega) (by omega)
  simp only [if_pos a4,he,Option.bind_some,List.set_set,aG2 a3 a4,w (k+1) (by omega) (by omega),w (k+1+1) (by omega) (by omega),w (k+1+1+1) (by omega) (by omega),w (i+1) (by omega) (by omega)]
  simp [eY,Int.add_assoc]
theorem aCj {n:Nat} {k:Int} (h0:0≤k) (hk:k≤100000000000000) (hl:n≤1048576):jG ((List.range n).map fun (j:Nat)=>eY (k+3*(j:Int))) k=some (k+3*n):=by
 unfold jG
 rw [aDa (c:=3) (B:=1000000000000000) (M:=eY) (n:=n) (by omega) (fun k' i a1 a2 a3 a4 a5 => ?_) (fun k i a=>by simp [a]) h0 hl (by omega)]
 ·rfl
 ·have he:=yB (M:=eY) (k0:=k) (c:=3) a3 a4
  have w : ∀ n:Int,0≤n→n≤2000000000000000→w64 n=n:=fun n p q=>bD (by omega) (by omega)
  rw [← a5] at he
  simp only [List.length_map,List.length_range,if_pos a4,he,Option.bind_some,w (k'+1) (by omega) (by omega),w (k'+1+1) (by omega) (by omega),w (k'+1+1+1) (by omega) (by omega),w (i+1) (by omega) (by omega)]
  simp [eY,Int.add_assoc]
theorem aEk {x:aF} {k:Int} (h0:0≤k) (hk:k≤8000000000000) (h:kA x):iH x k=some ((k+3*x.Months.length)+3*x.Rules.length,((List.range x.Months.length).map fun (j:Nat)=>jV (k+3*(j:Int))),((List.range x.Rules.length).map fun (j:Nat)=>eY ((k+3*x.Months.length)+3*(j:Int)))):=by
 have g0:=(h.2.1).1
 have g1:=(h.2.2.1).1
 unfold iH
 simp only [aH0 (x:=x.Months) (k:=k) (by omega) (by omega) (h.2.1).1,aCs (x:=x.Rules) (k:=k+3*x.Months.length) (by omega) (by omega) (h.2.2.1).1,Option.bind_some,List.length_map,List.length_range,rH]
theorem aD4 {x:aF} {k:Int} (h0:0≤k) (hk:k≤8000000000000) (h:kA x):kG ⟨x.Name,((List.range x.Months.length).map fun (j:Nat)=>jV (k+3*(j:Int))),((List.range x.Rules.length).map fun (j:Nat)=>eY ((k+3*x.Months.length)+3*(j:Int))),x.Week⟩ k=some ((k+3*x.Months.length)+3*x.Rules.length):=by
 have g0:=(h.2.1).1
 have g1:=(h.2.2.1).1
 unfold kG
 simp only [aHe (n:=x.Months.length) (k:=k) (by omega) (by omega) (h.2.1).1,aCj (n:=x.Rules.length) (k:=k+3*x.Months.length) (by omega) (by omega) (h.2.2.1).1,Option.bind_some,List.length_map,List.length_range,Int.not_lt.2 (show 0≤k+3*x.Months.length by omega),Int.not_lt.2 (show 0≤(k+3*x.Months.length)+3*x.Rules.length by omega),if_false]
def aNd (x:gY):Prop:=(fun _=>True) x.Year∧(fun _=>True) x.Month∧(fun _=>True) x.Day
def rA (x:bX):Prop:=(smL (fun _=>True)) x.Cam∧(fun _=>True) x.Months∧(fun _=>True) x.Teeth∧(fun _=>True) x.At∧(fun _=>True) x.Day∧(fun _=>True) x.Week∧(fun _=>True) x.Weekday
def aE2 (x:wN):Prop:=eD x.Movement∧aNd x.Start∧(fun _=>True) x.First∧(fun _=>True) x.Clock∧rA x.Dial
theorem aLn {x:gY} (h:aNd x):uL x x=some true:=by
 unfold uL
 simp []
theorem aCi {x:bX} (h:rA x):lG x x=some true:=by
 unfold lG
 simp [vE h.1]
theorem aOt {x:wN} (h:aE2 x):xC x x=some true:=by
 unfold xC
 simp [aD0 h.1,aLn h.2.1,aCi h.2.2.2.2]
def aIq (x:rR):Prop:=aE2 x.Sim
theorem aLo {x:rR} (h:aIq x):rO x x=some true:=by
 unfold rO
 simp [aOt h]
theorem aCt {x:bX} {k:Int} (h0:0≤k) (hk:k≤8000000000000) (h:rA x):gO x k=some (k+1*x.Cam.length,((List.range x.Cam.length).map fun (j:Nat)=>fV (k+1*(j:Int)))):=by
 have g0:=(h.1).1
 unfold gO
 simp only [vO (x:=x.Cam) (k:=k) (by omega) (by omega) (h.1).1,Option.bind_some,List.length_map,List.length_range,rH]
theorem aCk {x:bX} {k:Int} (h0:0≤k) (hk:k≤8000000000000) (h:rA x):jH ⟨((List.range x.Cam.length).map fun (j:Nat)=>fV (k+1*(j:Int))),x.Months,x.Teeth,x.At,x.Day,x.Week,x.Weekday⟩ k=some (k+1*x.Cam.length):=by
 have g0:=(h.1).1
 unfold jH
 simp only [vH (n:=x.Cam.length) (k:=k) (by omega) (by omega) (h.1).1,Option.bind_some,List.length_map,List.length_range,Int.not_lt.2 (show 0≤k+1*x.Cam.length by omega),if_false]
end Go.Proofs.YtceknlcbfomdhaaGreatDoor
namespace Go.Proofs.YtceknlcbfomdhaaGreatDoor
set_option linter.unusedVariables false
def aAg (w:bG) (k:Int):Bool:=decide (0≤k∧k<w.Arbors.length)
def aI1 (m:aW):Bool:=oH m.Name && (aBw m.Works && (aAg m.Works m.Minute && (aAg m.Works m.Hour && (aAg m.Works m.Escape && (iM m.Teeth && (btw m.Beats 1 36000 && (vC m.Calendar && (aLh m.Cam && btw m.Strike 0 2))))))))
theorem smW {w:bG} (h:tU w):w.Arbors.length≤9223372036854775807∧(∀ b ∈ w.Arbors,b.Wheels.length≤9223372036854775807)∧w.Meshes.length≤9223372036854775807:=by
 have h1:=h.1.1
 have h2:=h.2.1
 exact ⟨by omega,fun b hb=>by have:=(h.1.2 b hb).2.1;omega,by omega⟩
theorem aJt {w:bG} (hl:w.Arbors.length≤9223372036854775807) (k:Int):mX w k=some (aAg w k):=by
 unfold mX;rw [fM,Option.bind_some,zA hl];rfl
theorem aCb {w:bG} (hl:w.Arbors.length≤9223372036854775807) (k:Int):lL w k=some (aAg w k):=by
 unfold lL;rw [eO,Option.bind_some,zA hl];rfl
theorem tC {m:aW} (h:eD m):gI m=some (aI1 m):=by
 obtain ⟨_,h2,_,_,_,_,_,h8,h9,_⟩:=h
 obtain ⟨w1,w2,w3⟩:=smW h2
 have c1:=h8.2.1.1
 have c2:=h8.2.2.1.1
 have c3:=h9.1
 unfold gI aI1
 simp only [aJt w1,tE,fM,vI,wV w1 w2 w3,iG (c:=m.Calendar) (by omega) (by omega),aAd (xs:=m.Cam) (by omega),Option.bind_some,itA]
 congr 1
 ac_rfl
theorem aPp {m:aW} (h:eD m):xN m=some (aI1 m):=by
 obtain ⟨_,h2,_,_,_,_,_,h8,h9,_⟩:=h
 obtain ⟨w1,w2,w3⟩:=smW h2
 have c1:=h8.2.1.1
 have c2:=h8.2.2.1.1
 have c3:=h9.1
 unfold xN aI1
 simp only [aCb w1,oP,eO,sN,aPm w1 w2 w3,uW (c:=m.Calendar) (by omega) (by omega),aGq (xs:=m.Cam) (by omega),Option.bind_some,itA,itO,itF,Bool.not_or,Bool.not_not]
 congr 1
 ac_rfl
end Go.Proofs.YtceknlcbfomdhaaGreatDoor
namespace Go.Proofs.YtceknlcbfomdhaaGreatDoor
set_option linter.unusedVariables false
def aVs (y:Int) (b:Bool) (r:aO):Bool:=if y % r.Every=r.Rest then r.Leap else b
def jT (c:aF) (y:Int):Bool:=c.Rules.foldl (aVs y) false
theorem fE {c:aF} (h:vC c=true):oH c.Name=true∧(1≤c.Months.length∧c.Months.length≤20)∧c.Rules.length≤6∧(1≤c.Week∧c.Week≤12)∧aJ8 c.Months=true∧c.Rules.all rJ=true∧cyc c.Rules≤2000:=by
 unfold vC at h
 simp only [Bool.and_eq_true,decide_eq_true_eq] at h
 exact ⟨h.1,h.2.1,h.2.2.1,of_decide_eq_true h.2.2.2.1,h.2.2.2.2.1,h.2.2.2.2.2.1,h.2.2.2.2.2.2⟩
theorem aJz {c:aF} (h:vC c=true) {y:Int} (y0:0≤y) {step:Bool × Int→Option ((Bool × Int) ⊕ Bool)} (hS : ∀ (i:Nat) (hi:i<c.Rules.length) b,c.Rules[i].Every≠0→step (b,(i:Int))=some (.inl ((if y.tmod c.Rules[i].Every=c.Rules[i].Rest then c.Rules[i].Leap else b),w64 ((i:Int)+1)))) (hE : ∀ b,step (b,(c.Rules.length:Int))=some (.inr b)) :
  cD step (false,0)=some (jT c y):=by
 obtain ⟨_,_,hr,_,_,hb,_⟩:=fE h
 have:=yA (xs:=c.Rules) (step:=step) (fun i b=>(b,i)) (fun _ r b=>some (.inl (aVs y b r))) id (by omega) (fun i hi b=>by
  have hq:=uP.1 ((List.all_eq_true.1 hb) _ (List.getElem_mem hi))
  rw [hS i hi b (by omega),bD (by omega) (by omega),Int.tmod_eq_emod_of_nonneg y0];rfl) (fun b=>hE b) false
 rw [this,rW (aVs y) (fun _ _ _=>rfl)];rfl
theorem zJ {c:aF} (h:vC c=true) {y:Int} (y0:0≤y):lS c y=some (jT c y):=by
 unfold lS
 rw [aJz h y0 (fun i hi b he=>by
  have hi':(i:Int)<c.Rules.length:=by omega
  simp only [if_pos hi',dT hi,Option.bind_some,fY he]
  split <;> rfl) (fun b=>by simp)];rfl
theorem xL {c:aF} (h:vC c=true) {y:Int} (y0:0≤y):pR c y=some (jT c y):=by
 unfold pR
 rw [aJz h y0 (fun i hi b he=>by
  have hi':(i:Int)<c.Rules.length:=by omega
  simp only [if_pos hi',dT hi,Option.bind_some,fY he]
  split <;> rfl) (fun b=>by simp)];rfl
def wL (c:aF) (k:Int):bE:=c.Months.getD k.toNat ⟨⟨#[]⟩,0,0⟩
def aP1 (c:aF) (leap:Bool) (k:Int):Int:=if leap=true then (wL c k).Leap else (wL c k).Days
theorem yC {c:aF} {k:Int} (h0:0≤k) (h1:k<c.Months.length):atI c.Months k=some (wL c k)∧wL c k ∈ c.Months:=by
 obtain ⟨e,he,hm,hg⟩:=jQ h0 h1
 have:wL c k=e:=by unfold wL;rw [List.getD_eq_getElem?_getD,hg];rfl
 rw [this];exact ⟨he,hm⟩
theorem aUv {c:aF} (h:vC c=true) {m:bE} (hm:m ∈ c.Months):(1≤m.Days∧m.Days≤60)∧1≤m.Leap∧m.Leap≤60:=by
 obtain ⟨_,_,_,_,hb,_⟩:=fE h
 obtain ⟨i,hi,rfl⟩:=List.getElem_of_mem hm
 have:=aC0.1 hb i hi
 unfold aSw btw at this
 simp only [Bool.and_eq_true,decide_eq_true_eq] at this
 exact ⟨this.1.2.1,this.1.2.2⟩
theorem aVt {c:aF} (h:vC c=true) (l:Bool) {k:Int} (h0:0≤k) (h1:k<c.Months.length):1≤aP1 c l k∧aP1 c l k≤60:=by
 have:=aUv h (yC h0 h1).2
 unfold aP1
 cases l <;> simp <;> omega
theorem wF {c:aF} (h:vC c=true) (l:Bool) {m:Int} (h0:1≤m) (h1:m≤c.Months.length):jF c l m=some (aP1 c l (m-1)):=by
 have hc:=(fE h).2.1.2
 unfold jF aP1
 rw [bD (by omega) (by omega),(yC (c:=c) (k:=m-1) (by omega) (by omega)).1]
 cases l <;> rfl
theorem aCd {c:aF} (h:vC c=true) {y:Int} (y0:0≤y) {k:Int} (h0:0≤k) (h1:k<c.Months.length):pO c y k=some (aP1 c (jT c y) k):=by
 unfold pO aP1
 rw [xL h y0,Option.bind_some,(yC h0 h1).1]
 cases jT c y <;> rfl
def aLl (c:aF) (d:gY):Bool:=btw d.Year 0 9999 && (btw d.Month 1 c.Months.length && btw d.Day 1 (aP1 c (jT c d.Year) (d.Month-1)))
theorem aFi {c:aF} (hm:c.Months.length≤9223372036854775807) (hr:c.Rules.length≤9223372036854775807) (d:gY):oB c d=some (vC c && aLl c d):=by
 unfold oB aLl
 rw [iG hm hr,Option.bind_some]
 cases h:vC c
 ·rfl
 ·unfold xU vM
  simp only [fM,Option.bind_some]
  cases hy:btw d.Year 0 9999
  ·rfl
  ·cases hmo:btw d.Month 1 (c.Months.length:Int)
   ·rfl
   ·have hy:=of_decide_eq_true hy
    have hmo:=of_decide_eq_true hmo
    simp only [if_true]
    rw [zJ h hy.1,Option.bind_some,wF h _ hmo.1 hmo.2];rfl
theorem aPo {c:aF} (h:vC c=true) (d:gY):xM c d=some (aLl c d):=by
 unfold xM aLl vZ
 simp only [eO,Option.bind_some]
 cases hy:btw d.Year 0 9999
 ·rfl
 ·cases hmo:btw d.Month 1 (c.Months.length:Int)
  ·rfl
  ·have hy:=of_decide_eq_true hy
   have hmo:=of_decide_eq_true hmo
   have hc:=(fE h).2.1.2
   simp only [Bool.not_true,Bool.false_eq_true,if_false,Option.bind_some]
   rw [bD (by omega) (by omega),aCd h hy.1 (by omega) (by omega)];rfl
theorem xR {xs:List Int} (h:aLh xs=true):(∀ v ∈ xs,1≤v∧v≤60)∧1≤xs.length∧xs.length≤260:=by
 unfold aLh at h
 simp only [Bool.and_eq_true,decide_eq_true_eq,List.all_eq_true] at h
 exact ⟨fun v hv=>of_decide_eq_true (h.1 v hv),h.2⟩
def aA7 (c:aF) (cam:List Int):Int:=if (vC c && aLh cam)=true then (if (cam.length:Int) % c.Months.length=0 then 0 else 6) else 1
theorem rU {c:aF} {cam:List Int} (h:aA7 c cam=0):vC c=true∧aLh cam=true∧(cam.length:Int) % c.Months.length=0∧1≤(cam.length:Int) / c.Months.length∧(cam.length:Int) / c.Months.length≤260:=by
 unfold aA7 at h
 split at h
 ·rename_i h1
  rw [Bool.and_eq_true] at h1
  split at h
  ·rename_i h2
   have a:=(fE h1.1).2.1
   have b:=(xR h1.2).2
   have e:=Int.emod_add_mul_ediv (cam.length:Int) c.Months.length
   have q:=uO (a:=(cam.length:Int)) (g:=(c.Months.length:Int)) (by omega) (by omega)
   refine ⟨h1.1,h1.2,h2,?_,by omega⟩
   rcases Int.lt_or_le 0 ((cam.length:Int) / c.Months.length) with h | h
   ·omega
   ·have:(cam.length:Int) / c.Months.length=0:=by omega
    rw [this,h2] at e
    omega
  ·cases h
 ·cases h
theorem qJ {c:aF} {cam:List Int} (h1:1≤c.Months.length) (h2:cam.length≤9223372036854775807):iO c cam=some (if (cam.length:Int) % c.Months.length=0 then (cam.length:Int) / c.Months.length else 0):=by
 unfold iO
 have q:=uO (a:=(cam.length:Int)) (g:=(c.Months.length:Int)) (by omega) (by omega)
 rw [fY (by omega),Int.tmod_eq_emod_of_nonneg (by omega),fY (by omega),Int.tdiv_eq_ediv_of_nonneg (by omega),bD (by omega) (by omega)]
 by_cases h:(cam.length:Int) % c.Months.length=0
 ·rw [if_neg (by simp [h]),if_pos h]
 ·rw [if_pos h,if_neg h]
theorem aHk {c:aF} {cam:List Int} (hm:c.Months.length≤9223372036854775807) (hr:c.Rules.length≤9223372036854775807) (hl:cam.length≤9223372036854775807):qI c cam=some (aA7 c cam):=by
 unfold qI
 simp only [iG hm hr,aAd hl,Option.bind_some,itO]
 cases h1:vC c
 ·unfold aA7;rw [h1];rfl
 ·cases h2:aLh cam
  ·unfold aA7;rw [h1,h2];rfl
  ·have a:=(fE h1).2.1
   simp only [Bool.not_true,Bool.or_self,Bool.false_eq_true,if_false]
   rw [qJ a.1 hl,Option.bind_some]
   unfold aA7
   rw [h1,h2]
   by_cases h:(cam.length:Int) % c.Months.length=0
   ·have h0:aA7 c cam=0:=by unfold aA7;rw [h1,h2,if_pos (show (true && true)=true from rfl),if_pos h]
    have:=rU h0
    rw [if_pos h,if_neg (by omega),if_pos (show (true && true)=true from rfl),if_pos h]
   ·rw [if_neg h,if_pos rfl,if_pos (show (true && true)=true from rfl),if_neg h]
theorem aE1 {c:aF} {cam:List Int} (hm:c.Months.length≤9223372036854775807) (hr:c.Rules.length≤9223372036854775807) (hl:cam.length≤9223372036854775807):pU c cam=some (aA7 c cam):=by
 unfold pU aA7
 simp only [uW hm hr,aGq hl,Option.bind_some,itO]
 cases h1:vC c
 ·rfl
 ·cases h2:aLh cam
  ·rfl
  ·have a:=(fE h1).2.1
   simp only [Bool.not_true,Bool.or_self,Bool.false_eq_true,if_false,Bool.and_self,if_true]
   rw [fY (by omega),Int.tmod_eq_emod_of_nonneg (by omega)]
   by_cases h:(cam.length:Int) % c.Months.length=0
   ·rw [if_neg (by simp [h]),if_pos h]
   ·rw [if_pos h,if_neg h]
def aWu (xs:List Int):Int:=xs.foldl max 0
def aE6 (t:Int) (m:bE):Int:=max (max t m.Days) m.Leap
def aXx (c:aF) (cam:List Int):Int:=c.Months.foldl aE6 (aWu cam)
theorem aTu {xs:List Int} (h1:1≤xs.length) (h2:xs.length≤9223372036854775807) (h3 : ∀ v ∈ xs,0≤v):eP xs=some (aWu xs):=by
 unfold eP aWu
 rw [if_neg (by omega),Option.bind_some]
 cases xs with
 | nil=>simp at h1
 | cons x xs =>
  have e0:atI (x :: xs) 0=some x:=by rw [show (0:Int)=((0:Nat):Int) from rfl,aBb];rfl
  have hx:=h3 x (List.mem_cons_self ..)
  have hq:cD (S:=Int × Int) (X:=Int) (fun s5=>(if s5.2<((x :: xs).length:Int) then ((atI (x :: xs) s5.2).bind fun v6=>some (.inl (max s5.1 v6,w64 (s5.2+1)))) else some (.inr s5.1))) (x,1)=some (xs.foldl max x):=by
   have:=yA (xs:=xs) (step:=fun (s5:Int × Int)=>(if s5.2<((x :: xs).length:Int) then ((atI (x :: xs) s5.2).bind fun v6=>some (.inl (max s5.1 v6,w64 (s5.2+1)))) else some (.inr s5.1))) (fun i (s:Int)=>(s,i+1)) (fun _ v s=>some (.inl (max s v))) id (by simp at h2;omega) (fun i hi s=>by
    simp only [List.length_cons] at h2
    have hi':(i:Int)+1<((x :: xs).length:Int):=by simp;omega
    have ea:atI (x :: xs) ((i:Int)+1)=some xs[i]:=by
     rw [show (i:Int)+1=((i+1:Nat):Int) by omega,aBb,List.getElem?_cons_succ,List.getElem?_eq_getElem hi]
    simp only [if_pos hi',ea,Option.bind_some,bD (x:=(i:Int)+1+1) (by omega) (by omega)];rfl) (fun s=>by simp) x
   rw [rW max (fun _ _ _=>rfl)] at this
   exact this
  rw [e0,Option.bind_some,hq,List.foldl_cons,Int.max_eq_right hx];rfl
theorem aEv (a b:Int):kS a b=some (max a b):=by
 unfold kS
 split
 ·congr 1;omega
 ·congr 1;omega
def aSa (c:aF) (cam:List Int) (d:gY) (wd:Int):bX × Int :=
 if aA7 c cam=0 then (if (aLl c d && btw wd 1 c.Week)=true then (⟨cam,c.Months.length,aXx c cam,w64 ((w64 ((w64 ((d.Year.tmod ((cam.length:Int) / c.Months.length))*(c.Months.length:Int)))+d.Month))-1),d.Day,c.Week,wd⟩,0) else (⟨[],0,0,0,0,0,0⟩,2)) else (⟨[],0,0,0,0,0,0⟩,aA7 c cam)
theorem aHn {xs:List Int} (hl:xs.length≤1048576):cU xs=some xs:=by
 unfold cU
 rw [fY (by simp;omega),List.nil_append]
theorem aK1 {xs:List Int} (hl:xs.length≤1048576):lY xs=some xs:=by
 unfold lY
 rw [fY (by simp;omega),List.nil_append]
theorem aBg {c:aF} {cam:List Int} (hm:c.Months.length≤9223372036854775807) (hr:c.Rules.length≤9223372036854775807) (hl:cam.length≤1048576) (d:gY) (wd:Int):kE c cam d wd=some (aSa c cam d wd):=by
 unfold kE aSa
 rw [aHk hm hr (by omega),Option.bind_some]
 by_cases h:aA7 c cam=0
 ·obtain ⟨h1,h2,h3,h4,h5⟩:=rU h
  have a:=(fE h1).2.1
  have b:=xR h2
  rw [if_neg (by simp [h]),if_pos h,aFi hm hr,h1]
  simp only [Option.bind_some,Bool.true_and,fM,itO]
  cases hd:aLl c d
  ·rfl
  ·cases hw:btw wd 1 c.Week
   ·rfl
   ·simp only [Bool.not_true,Bool.or_self,Bool.false_eq_true,if_false,Bool.and_self,if_true]
    have hq:=yA (xs:=c.Months) (step:=fun (s8:Int × Int)=>(if s8.2<(c.Months.length:Int) then ((atI c.Months s8.2).bind fun v9=>some (.inl (max (max s8.1 v9.Days) v9.Leap,w64 (s8.2+1)))) else some (.inr s8.1))) (fun i (s:Int)=>(s,i)) (fun _ m s=>some (.inl (aE6 s m))) id hm (fun i hi s=>by
     have hi':(i:Int)<c.Months.length:=by omega
     simp only [if_pos hi',dT hi,Option.bind_some,bD (x:=(i:Int)+1) (by omega) (by omega)];rfl) (fun s=>by simp) (aWu cam)
    rw [rW aE6 (fun _ _ _=>rfl)] at hq
    rw [aTu b.2.1 (by omega) (fun v hv=>by have:=b.1 v hv;omega),Option.bind_some,hq]
    simp only [Option.map_some,Option.bind_some,aHn hl,qJ a.1 (show cam.length≤9223372036854775807 by omega),if_pos h3]
    rw [fY (by omega)];rfl
 ·rw [if_pos h,if_neg h]
theorem aBo {c:aF} {cam:List Int} (hm:c.Months.length≤9223372036854775807) (hr:c.Rules.length≤9223372036854775807) (hl:cam.length≤1048576) (d:gY) (wd:Int):kL c cam d wd=some (aSa c cam d wd):=by
 unfold kL aSa
 rw [aE1 hm hr (by omega),Option.bind_some]
 by_cases h:aA7 c cam=0
 ·obtain ⟨h1,h2,h3,h4,h5⟩:=rU h
  have a:=(fE h1).2.1
  rw [if_neg (by simp [h]),if_pos h,aPo h1]
  simp only [Option.bind_some,eO,itO]
  cases hd:aLl c d
  ·rfl
  ·cases hw:btw wd 1 c.Week
   ·rfl
   ·simp only [Bool.not_true,Bool.or_self,Bool.false_eq_true,if_false,Bool.and_self,if_true]
    have hk:w64 ((cam.length:Int).tdiv (c.Months.length:Int))=(cam.length:Int) / c.Months.length:=by rw [Int.tdiv_eq_ediv_of_nonneg (by omega),bD (by omega) (by omega)]
    have hq1:=yA (xs:=cam) (step:=fun (s11:Int × Int)=>(if s11.1<(cam.length:Int) then ((atI cam s11.1).bind fun v12=>((kS s11.2 v12).bind fun v13=>some (.inl (w64 (s11.1+1),v13)))) else some (.inr s11.2))) (fun i (s:Int)=>(i,s)) (fun _ v s=>some (.inl (max s v))) id (by omega) (fun i hi s=>by
     have hi':(i:Int)<cam.length:=by omega
     simp only [if_pos hi',dT hi,Option.bind_some,aEv,bD (x:=(i:Int)+1) (by omega) (by omega)];rfl) (fun s=>by simp) 0
    rw [rW max (fun _ _ _=>rfl)] at hq1
    have hq2:=yA (xs:=c.Months) (step:=fun (s20:Int × Int)=>(if s20.1<(c.Months.length:Int) then ((atI c.Months s20.1).bind fun v21=>((atI c.Months s20.1).bind fun v22=>((kS v21.Days v22.Leap).bind fun v23=>((kS s20.2 v23).bind fun v24=>some (.inl (w64 (s20.1+1),v24)))))) else some (.inr s20.2))) (fun i (s:Int)=>(i,s)) (fun _ m s=>some (.inl (aE6 s m))) id hm (fun i hi s=>by
     have hi':(i:Int)<c.Months.length:=by omega
     have e:max s (max c.Months[i].Days c.Months[i].Leap)=aE6 s c.Months[i]:=by unfold aE6;omega
     simp only [if_pos hi',dT hi,Option.bind_some,aEv,e,bD (x:=(i:Int)+1) (by omega) (by omega)];rfl) (fun s=>by simp) (aWu cam)
    rw [rW aE6 (fun _ _ _=>rfl)] at hq2
    rw [aK1 hl,Option.bind_some,hk,fY (by omega),fY (by omega),hq1]
    simp only [Option.map_some,Option.bind_some]
    have e0:Sum.elim id id (Sum.inl (cam.foldl max 0):Int ⊕ Int)=aWu cam:=rfl
    rw [e0,hq2];rfl
 ·rw [if_pos h,if_neg h]
end Go.Proofs.YtceknlcbfomdhaaGreatDoor
namespace Go.Proofs.YtceknlcbfomdhaaGreatDoor
set_option linter.unusedVariables false
def aI2 (g:Nat→Int):Nat→Int
 | 0=>0
 | n+1=>aI2 g n+g n
theorem aNg {g:Nat→Int} {lo hi:Int} {n:Nat} (h : ∀ k,k<n→lo≤g k∧g k≤hi):lo*n≤aI2 g n∧aI2 g n≤hi*n:=by
 induction n with
 | zero=>simp [aI2]
 | succ n ih =>
  have h1:=ih fun k hk=>h k (by omega)
  have h2:=h n (by omega)
  have e1:lo*((n+1:Nat):Int)=lo*n+lo:=by push_cast;rw [Int.mul_add];omega
  have e2:hi*((n+1:Nat):Int)=hi*n+hi:=by push_cast;rw [Int.mul_add];omega
  rw [e1,e2]
  unfold aI2
  omega
theorem aOk (g:Nat→Int) (m:Nat) : ∀ n,aI2 g (m+n)=aI2 g m+aI2 (fun k=>g (m+k)) n
 | 0=>by simp [aI2]
 | n+1=>by
  show aI2 g (m+n)+g (m+n)=_
  rw [aOk g m n]
  simp only [aI2];omega
theorem aSh {g:Nat→Int} (h : ∀ k,0≤g k) {m n:Nat} (hm:m≤n):aI2 g m≤aI2 g n:=by
 obtain ⟨k,rfl⟩ : ∃ k,n=m+k:=⟨n-m,by omega⟩
 rw [aOk]
 have:=(aNg (g:=fun k=>g (m+k)) (lo:=0) (hi:=0+1) (n:=0) fun k hk=>by omega)
 have h2 : ∀ j,0≤aI2 (fun k=>g (m+k)) j:=fun j=>by
  induction j with
  | zero=>simp [aI2]
  | succ j ih=>have:=h (m+j);simp only [aI2];omega
 have:=h2 k
 omega
def aYb (c:aF) (l:Bool):Int:=aI2 (fun k=>aP1 c l (k:Int)) c.Months.length
def aX9 (c:aF) (y:Nat):Int:=aYb c (jT c y)
def bef (c:aF) (y:Nat):Int:=aI2 (aX9 c) y
theorem aWk {c:aF} (h:vC c=true) (l:Bool):1≤aYb c l∧aYb c l≤1200:=by
 have hc:=(fE h).2.1
 have:=aNg (g:=fun k=>aP1 c l (k:Int)) (lo:=1) (hi:=60) (n:=c.Months.length) fun k hk=>aVt h l (by omega) (by omega)
 unfold aYb
 omega
theorem aQ3 {c:aF} (h:vC c=true) (y:Nat):1≤aX9 c y∧aX9 c y≤1200:=aWk h _
theorem aUr {c:aF} (h:vC c=true) (y:Nat):(y:Int)≤bef c y∧bef c y≤1200*y:=by
 have:=aNg (g:=aX9 c) (lo:=1) (hi:=1200) (n:=y) fun k _=>aQ3 h k
 unfold bef
 omega
theorem aS6 {c:aF} (h:vC c=true) {m n:Nat} (hm:m≤n):bef c m≤bef c n:=aSh (fun k=>by have:=(aQ3 h k).1;omega) hm
theorem aVl {rs:List aO} : ∀ {y:Int},1≤y→y≤2000→rs.all rJ=true→rs.foldl aGc y≤2000→y ∣ rs.foldl aGc y∧(∀ r ∈ rs,r.Every ∣ rs.foldl aGc y)∧1≤rs.foldl aGc y:=by
 induction rs with
 | nil=>intro y h0 h1 _ _;exact ⟨Int.dvd_refl _,fun r hr=>by simp at hr,h0⟩
 | cons r rs ih =>
  intro y h0 h1 hb hc
  rw [List.all_cons,Bool.and_eq_true] at hb
  rw [List.foldl_cons] at hc ⊢
  have hq:=uP.1 hb.1
  have hs:=xS h0 h1 hq.1.1 hq.1.2
  have e:aGc y r=y / (Int.gcd y r.Every:Int)*r.Every:=by unfold aGc;rw [if_pos h1]
  rw [e] at hc ⊢
  have hle:y / (Int.gcd y r.Every:Int)*r.Every≤2000:=by
   refine Classical.byContradiction fun hn => ?_
   rw [aNs (Int.not_le.1 hn)] at hc
   exact hn hc
  obtain ⟨d1,d2,d3⟩:=ih hs.2.2.1 hle hb.2 hc
  have hy:y ∣ y / (Int.gcd y r.Every:Int)*r.Every:=by
   obtain ⟨a,ha⟩:(Int.gcd y r.Every:Int) ∣ y:=Int.gcd_dvd_left ..
   obtain ⟨b,hb⟩:(Int.gcd y r.Every:Int) ∣ r.Every:=Int.gcd_dvd_right ..
   have hg:=nY (n:=y) (d:=r.Every) (by omega)
   refine ⟨b,?_⟩
   have hg0:(Int.gcd y r.Every:Int)≠0:=by omega
   generalize (Int.gcd y r.Every:Int)=g at *
   have e1:y / g=a:=by rw [ha];exact Int.mul_ediv_cancel_left a hg0
   rw [e1,hb,ha]
   grind
  refine ⟨Int.dvd_trans hy d1,fun r' hr' => ?_,d3⟩
  rcases List.mem_cons.1 hr' with rfl | hr'
  ·exact Int.dvd_trans (Int.dvd_mul_left ..) d1
  ·exact d2 r' hr'
def aWt (c:aF):Nat:=(cyc c.Rules).toNat
theorem aLk {c:aF} (h:vC c=true):(aWt c:Int)=cyc c.Rules∧1≤aWt c∧aWt c≤2000 ∧ ∀ r ∈ c.Rules,r.Every ∣ (aWt c:Int):=by
 obtain ⟨_,_,_,_,_,hb,hc⟩:=fE h
 obtain ⟨_,d2,d3⟩:=aVl (y:=1) (by omega) (by omega) hb hc
 have e:(aWt c:Int)=cyc c.Rules:=by unfold aWt;have:1≤cyc c.Rules:=d3;omega
 refine ⟨e,?_,?_,fun r hr=>by rw [e];exact d2 r hr⟩
 ·have:1≤cyc c.Rules:=d3;omega
 ·omega
end Go.Proofs.YtceknlcbfomdhaaGreatDoor
namespace Go.Proofs.YtceknlcbfomdhaaGreatDoor
set_option linter.unusedVariables false
theorem aMa {a b A B:Int} (h1 : -A≤a) (h2:a≤A) (h3 : -B≤b) (h4:b≤B) : -(A*B)≤a*b∧a*b≤A*B:=by
 have h:(a*b).natAbs≤(A*B).natAbs:=by
  rw [Int.natAbs_mul,Int.natAbs_mul]
  exact Nat.mul_le_mul (by omega) (by omega)
 have hp:0≤A*B:=Int.mul_nonneg (by omega) (by omega)
 generalize a*b=x at *
 generalize A*B=y at *
 omega
theorem aH2 {n d:Int} (hd:d≠0) (h:(mkR n d).2=true):aDh (mkR n d).1=true∧((mkR n d).1.Num=0 ↔ n=0):=by
 unfold mkR at h ⊢
 split at h
 ·cases h
 ·rename_i hc
  rw [if_neg hc]
  have hg:0<Int.gcd n d:=nY hd
  have ea:fI n / (Int.gcd n d:Int)=((n.natAbs / Int.gcd n d:Nat):Int):=rfl
  have eb:fI d / (Int.gcd n d:Int)=((d.natAbs / Int.gcd n d:Nat):Int):=rfl
  have hco:Nat.Coprime (n.natAbs / Int.gcd n d) (d.natAbs / Int.gcd n d):=Nat.coprime_div_gcd_div_gcd hg
  have hb0:0<d.natAbs / Int.gcd n d:=Nat.div_pos (Nat.le_of_dvd (by omega) (Nat.gcd_dvd_right ..)) hg
  have ha0:n.natAbs / Int.gcd n d=0 ↔ n=0:=by
   constructor
   ·intro h0
    have:=Nat.eq_mul_of_div_eq_right (Nat.gcd_dvd_left n.natAbs d.natAbs) h0
    omega
   ·rintro rfl;simp
  rw [ea,eb] at hc ⊢
  generalize n.natAbs / Int.gcd n d=a at *
  generalize d.natAbs / Int.gcd n d=b at *
  refine ⟨aDi.2 ⟨⟨by show 1≤(b:Int);omega,by show (b:Int)≤_;omega⟩,?_,?_⟩,?_⟩
  ·dsimp only;split <;> omega
  ·dsimp only
   unfold Int.gcd
   split
   ·rw [Int.natAbs_neg,Int.natAbs_natCast,Int.natAbs_natCast];exact hco
   ·rw [Int.natAbs_natCast,Int.natAbs_natCast];exact hco
  ·dsimp only
   rw [← ha0]
   split <;> omega
theorem aAo {n d:Int} (hd:d≠0) (n0 : -1000000000≤n) (n1:n≤1000000000) (d0 : -1000000000≤d) (d1:d≤1000000000):(mkR n d).2=true:=by
 unfold mkR
 have hg:=nY (n:=n) hd
 have h1:=(uO (a:=fI n) (g:=(Int.gcd n d:Int)) (rC n) (by omega)).2
 have h2:=(uO (a:=fI d) (g:=(Int.gcd n d:Int)) (rC d) (by omega)).2
 have h3:fI n≤1000000000:=by unfold fI;omega
 have h4:fI d≤1000000000:=by unfold fI;omega
 rw [if_neg (by omega)]
def aSx (a b:aD):aD × Bool:=mkR (a.Num*b.Num) (a.Den*b.Den)
theorem wI {r:aD} (h:aDh r=true):1≤r.Den∧r.Den≤1000000000 ∧ -1000000000≤r.Num∧r.Num≤1000000000:=by
 obtain ⟨⟨d0,d1⟩,⟨n0,n1⟩,_⟩:=aDi.1 h;exact ⟨d0,d1,n0,n1⟩
theorem aRe {a b:aD} (ha:aDh a=true) (hb:aDh b=true):osI (a.Num*b.Num)∧osI (a.Den*b.Den)∧a.Den*b.Den≠0:=by
 obtain ⟨d0,d1,n0,n1⟩:=wI ha
 obtain ⟨e0,e1,m0,m1⟩:=wI hb
 have h1:=aMa n0 n1 m0 m1
 have h2:=aMa (a:=a.Den) (b:=b.Den) (A:=1000000000) (B:=1000000000) (by omega) d1 (by omega) e1
 have h3:a.Den*b.Den≠0:=Int.mul_ne_zero (by omega) (by omega)
 refine ⟨⟨by omega,by omega⟩,⟨by omega,by omega⟩,h3⟩
theorem aT3 {a b:aD} (ha:aDh a=true) (hb:aDh b=true) (h:(aSx a b).2=true):aDh (aSx a b).1=true∧((aSx a b).1.Num=0 ↔ a.Num*b.Num=0):=aH2 (aRe ha hb).2.2 h
theorem aAc {a b:aD} (ha:aDh a=true) (hb:aDh b=true):iF a b=some (yP (aSx a b)):=by
 unfold iF
 obtain ⟨h1,h2,h3⟩:=aRe ha hb
 simp only [lD,ha,hb,Option.bind_some,Bool.not_true,Bool.false_eq_true,if_false]
 rw [bD h1.1 h1.2,bD h2.1 h2.2,mH h1 h2,Option.bind_some]
 unfold aEj aSx
 rw [if_neg h3]
theorem vU {a b:aD} (ha:aDh a=true) (hb:aDh b=true):kT a b=some (aSx a b):=by
 unfold kT
 obtain ⟨h1,h2,h3⟩:=aRe ha hb
 rw [bD h1.1 h1.2,bD h2.1 h2.2,lK h1 h2 h3,Option.bind_some];rfl
end Go.Proofs.YtceknlcbfomdhaaGreatDoor
namespace Go.Proofs.YtceknlcbfomdhaaGreatDoor
set_option linter.unusedVariables false
def aBt (w:bG) (a k:Int):Int:=(w.Arbors[a.toNat]?.bind fun b=>b.Wheels[k.toNat]?).getD 0
def eN (w:bG) (m:bR):bQ:=⟨aBt w m.A m.WheelA,aBt w m.B m.WheelB⟩
theorem rN {w:bG} {a k:Int} (h:whB w a k=true):0≤a∧a<w.Arbors.length ∧ ∃ b t,atI w.Arbors a=some b∧b ∈ w.Arbors∧atI b.Wheels k=some t∧t ∈ b.Wheels∧aBt w a k=t:=by
 unfold whB at h
 rw [Bool.and_eq_true,decide_eq_true_eq] at h
 obtain ⟨h1,h2⟩:=h
 obtain ⟨b,hb,hm,hg⟩:=jQ h1.1 h1.2
 rw [hg] at h2
 have h2:=of_decide_eq_true h2
 obtain ⟨t,ht,htm,htg⟩:=jQ h2.1 h2.2
 exact ⟨h1.1,h1.2,b,t,hb,hm,ht,htm,by unfold aBt;rw [hg];simp [htg]⟩
theorem kF {w:bG} {m:bR}:sY w m=true ↔ m.A≠m.B∧whB w m.A m.WheelA=true∧whB w m.B m.WheelB=true:=by
 unfold sY;simp only [Bool.and_eq_true,decide_eq_true_eq]
theorem mW {w:bG}:aBw w=true ↔ w.Arbors.length≤16∧w.Meshes.length≤24∧(∀ (i:Nat) (hi:i<w.Arbors.length),aF9 w.Arbors[i]=true∧((w.Arbors.take i).any fun b=>decide (b.Name=w.Arbors[i].Name))=false) ∧ ∀ (i:Nat) (hi:i<w.Meshes.length),sY w w.Meshes[i]=true∧((w.Meshes.take i).any fun n=>sU w.Meshes[i] n)=false:=by
 unfold aBw
 simp only [Bool.and_eq_true,decide_eq_true_eq,aC0,Bool.not_eq_true']
theorem oW {w:bG} (h:aBw w=true) : ∀ m ∈ w.Meshes,sY w m=true:=fun m hm=>by
 obtain ⟨i,hi,rfl⟩:=List.getElem_of_mem hm
 exact ((mW.1 h).2.2.2 i hi).1
theorem aSt {w:bG} (h:aBw w=true) : ∀ a ∈ w.Arbors,aF9 a=true:=fun m hm=>by
 obtain ⟨i,hi,rfl⟩:=List.getElem_of_mem hm
 exact ((mW.1 h).2.2.1 i hi).1
theorem qC {w:bG} (h:aBw w=true) {a k:Int} (hw:whB w a k=true):6≤aBt w a k∧aBt w a k≤240:=by
 obtain ⟨_,_,b,t,_,hb,_,ht,e⟩:=rN hw
 have hb:=aSt h b hb
 unfold aF9 at hb
 rw [Bool.and_eq_true,List.all_eq_true] at hb
 have:=hb.1 t ht
 unfold iM btw at this
 rw [e]
 exact of_decide_eq_true this
theorem aEb {w:bG} {m:bR} (h:sY w m=true):nL w m=some (eN w m):=by
 obtain ⟨_,h1,h2⟩:=kF.1 h
 obtain ⟨_,_,b,t,e1,_,e2,_,e3⟩:=rN h1
 obtain ⟨_,_,b',t',f1,_,f2,_,f3⟩:=rN h2
 unfold nL eN
 simp only [e1,e2,f1,f2,Option.bind_some,e3,f3]
theorem aCa {w:bG} {m:bR} (h:sY w m=true):pN w m=some (eN w m):=by
 obtain ⟨_,h1,h2⟩:=kF.1 h
 obtain ⟨_,_,b,t,e1,_,e2,_,e3⟩:=rN h1
 obtain ⟨_,_,b',t',f1,_,f2,_,f3⟩:=rN h2
 unfold pN eN
 simp only [e1,e2,f1,f2,Option.bind_some,e3,f3]
def gB (v:aD) (t u:Int):aD × Bool:=aSx v (mkR (-t) u).1
theorem tV {t u:Int} (t0:6≤t) (t1:t≤240) (u0:6≤u) (u1:u≤240):(mkR (-t) u).2=true∧aDh (mkR (-t) u).1=true∧(mkR (-t) u).1.Num≠0:=by
 have h:=aAo (n := -t) (d:=u) (by omega) (by omega) (by omega) (by omega) (by omega)
 have h2:=aH2 (n := -t) (d:=u) (by omega) h
 exact ⟨h,h2.1,fun e=>by have:=h2.2.1 e;omega⟩
def KnR (r:aD):Prop:=aDh r=true∧r.Num≠0
theorem KnR.den {r:aD} (h:KnR r):r.Den≠0:=by have:=wI h.1;omega
theorem pG {v:aD} {t u:Int} (hv:KnR v) (t0:6≤t) (t1:t≤240) (u0:6≤u) (u1:u≤240) (h:(gB v t u).2=true):KnR (gB v t u).1:=by
 obtain ⟨_,h2,h3⟩:=tV t0 t1 u0 u1
 obtain ⟨h4,h5⟩:=aT3 hv.1 h2 h
 exact ⟨h4,fun e=>by
  rcases Int.mul_eq_zero.1 (h5.1 e) with h | h
  ·exact hv.2 h
  ·exact h3 h⟩
theorem zK {v:aD} {t u:Int} (hv:KnR v) (t0:6≤t) (t1:t≤240) (u0:6≤u) (u1:u≤240):nK v t u=some (yP (gB v t u)):=by
 unfold nK
 obtain ⟨h1,h2,h3⟩:=tV t0 t1 u0 u1
 rw [bD (by omega) (by omega),mH ⟨by omega,by omega⟩ ⟨by omega,by omega⟩,Option.bind_some]
 have e:(aEj (-t) u).1=(mkR (-t) u).1:=by unfold aEj yP;rw [if_neg (by omega),if_pos h1]
 rw [e,aAc hv.1 h2];rfl
def SpI (w:bG) (sp:List aD):Prop:=sp.length=w.Arbors.length ∧ ∀ r ∈ sp,r=⟨0,0⟩∨KnR r
def nH (sp:List aD) (i:Int):aD:=sp.getD i.toNat ⟨0,0⟩
theorem pD {sp:List aD} {i:Int} (h0:0≤i) (h1:i<sp.length):atI sp i=some (nH sp i)∧nH sp i ∈ sp ∧ ∃ h:i.toNat<sp.length,sp[i.toNat]=nH sp i:=by
 obtain ⟨e,he,hm,hg⟩:=jQ h0 h1
 have:nH sp i=e:=by unfold nH;rw [List.getD_eq_getElem?_getD,hg];rfl
 rw [this]
 exact ⟨he,hm,(List.getElem?_eq_some_iff.1 hg)⟩
def wM (w:bG) (m:bR) (s:Bool × List aD):(Bool × List aD) ⊕ Unit :=
 if decide ((nH s.2 m.A).Den=0)=decide ((nH s.2 m.B).Den=0) then .inl s
 else if (nH s.2 m.A).Den=0 then (if (gB (nH s.2 m.B) (eN w m).Driven (eN w m).Driver).2=true then .inl (true,s.2.set m.A.toNat (gB (nH s.2 m.B) (eN w m).Driven (eN w m).Driver).1) else .inr ())
 else (if (gB (nH s.2 m.A) (eN w m).Driver (eN w m).Driven).2=true then .inl (true,s.2.set m.B.toNat (gB (nH s.2 m.A) (eN w m).Driver (eN w m).Driven).1) else .inr ())
def oL (w:bG):List bR→Bool × List aD→(Bool × List aD) ⊕ Unit
 | [],s => .inl s
 | m :: ms,s=>match wM w m s with
  | .inl s'=>oL w ms s'
  | .inr u => .inr u
def wO (sp:List aD):Nat:=sp.countP fun r=>decide (r.Den=0)
theorem SpI.den {w:bG} {sp:List aD} (h:SpI w sp) {i:Int} (h0:0≤i) (h1:i<w.Arbors.length) (hd:(nH sp i).Den≠0):KnR (nH sp i):=by
 obtain ⟨_,hm,_⟩:=pD (sp:=sp) h0 (by rw [h.1];exact h1)
 rcases h.2 _ hm with e | e
 ·rw [e] at hd;exact absurd rfl hd
 ·exact e
theorem SpI.set {w:bG} {sp:List aD} (h:SpI w sp) (i:Nat) {v:aD} (hv:KnR v):SpI w (sp.set i v):=by
 refine ⟨by rw [List.length_set];exact h.1,fun r hr => ?_⟩
 rcases List.mem_or_eq_of_mem_set hr with hr | rfl
 ·exact h.2 r hr
 ·exact .inr hv
theorem aNp {sp:List aD} {i:Int} (h0:0≤i) (h1:i<sp.length) (hd:(nH sp i).Den=0) {v:aD} (hv:v.Den≠0):wO (sp.set i.toNat v)<wO sp:=by
 obtain ⟨_,hm,hi,e⟩:=pD h0 h1
 unfold wO
 have hp:0<sp.countP fun r=>decide (r.Den=0):=List.countP_pos_iff.2 ⟨_,hm,decide_eq_true hd⟩
 rw [List.countP_set hi]
 rw [e,decide_eq_true hd,decide_eq_false hv]
 simp
 omega
theorem aDj {w:bG} (hw:aBw w=true) {m:bR} (hm:sY w m=true) {s s':Bool × List aD} (h:SpI w s.2) (e:wM w m s = .inl s'):SpI w s'.2∧(s'=s∨(s'.1=true∧wO s'.2<wO s.2)):=by
 obtain ⟨_,j1,j2⟩:=kF.1 hm
 have a:=rN j1
 have b:=rN j2
 have ta:=qC hw j1
 have tb:=qC hw j2
 unfold wM at e
 split at e
 ·injection e with e;subst e;exact ⟨h, .inl rfl⟩
 ·rename_i hne
  split at e
  ·rename_i hA
   have hB:(nH s.2 m.B).Den≠0:=fun hB=>hne (by rw [decide_eq_true hA,decide_eq_true hB])
   split at e
   ·rename_i hv
    injection e with e;subst e
    have k:=pG (h.den b.1 b.2.1 hB) (t:=(eN w m).Driven) (u:=(eN w m).Driver) tb.1 tb.2 ta.1 ta.2 hv
    exact ⟨h.set _ k, .inr ⟨rfl,aNp a.1 (by rw [h.1];exact a.2.1) hA k.den⟩⟩
   ·cases e
  ·rename_i hA
   have hB:(nH s.2 m.B).Den=0:=Classical.byContradiction fun hB=>hne (by rw [decide_eq_false hA,decide_eq_false hB])
   split at e
   ·rename_i hv
    injection e with e;subst e
    have k:=pG (h.den a.1 a.2.1 hA) (t:=(eN w m).Driver) (u:=(eN w m).Driven) ta.1 ta.2 tb.1 tb.2 hv
    exact ⟨h.set _ k, .inr ⟨rfl,aNp b.1 (by rw [h.1];exact b.2.1) hB k.den⟩⟩
   ·cases e
theorem xG {w:bG} (hw:aBw w=true) : ∀ {ms:List bR} (hm : ∀ m ∈ ms,sY w m=true) {s s':Bool × List aD} (h:SpI w s.2) (e:oL w ms s = .inl s'),SpI w s'.2∧wO s'.2≤wO s.2∧(s'.1=true→s.1=true∨wO s'.2<wO s.2)
 | [],hm,s,s',h,e=>by
  injection e with e;subst e
  exact ⟨h,Nat.le_refl _,fun h => .inl h⟩
 | m :: ms,hm,s,s',h,e=>by
  unfold oL at e
  cases e1:wM w m s with
  | inr u=>rw [e1] at e;cases e
  | inl s1 =>
   rw [e1] at e
   obtain ⟨h1,h2⟩:=aDj hw (hm m (List.mem_cons_self ..)) h e1
   obtain ⟨h3,h4,h5⟩:=xG hw (fun m hm'=>hm m (List.mem_cons_of_mem _ hm')) h1 e
   refine ⟨h3,?_,fun ht => ?_⟩
   ·rcases h2 with rfl | h2 <;> omega
   ·rcases h2 with rfl | h2
    ·exact h5 ht
    ·right;omega
theorem aGe {w:bG} {X:Type} {g:Unit→X} {body:Nat→bR→Bool × List aD→Option ((Bool × List aD) ⊕ X)} (hb : ∀ i m s,body i m s=some (Sum.map id g (wM w m s))) : ∀ (ms:List bR) (k:Nat) (s:Bool × List aD),aP0 body ms k s=some (Sum.map id g (oL w ms s))
 | [],k,s=>rfl
 | m :: ms,k,s=>by
  show (body k m s).bind _=_
  rw [hb,Option.bind_some]
  unfold oL
  cases wM w m s with
  | inr u=>rfl
  | inl s1=>exact aGe hb ms (k+1) s1
def kM (w:bG):Nat→List aD→List aD ⊕ Unit
 | 0,sp => .inl sp
 | n+1,sp=>match oL w w.Meshes (false,sp) with
  | .inr u => .inr u
  | .inl (true,sp')=>kM w n sp'
  | .inl (false,sp') => .inl sp'
theorem aE4 {w:bG} (hw:aBw w=true) : ∀ {n m:Nat} {sp:List aD},SpI w sp→wO sp<n→wO sp<m→kM w n sp=kM w m sp
 | 0,_,_,_,h,_=>by omega
 | _+1,0,_,_,_,h=>by omega
 | n+1,m+1,sp,hs,h1,h2=>by
  unfold kM
  cases e:oL w w.Meshes (false,sp) with
  | inr u=>rfl
  | inl s =>
   obtain ⟨b,sp'⟩:=s
   cases b with
   | false=>rfl
   | true =>
    obtain ⟨h3,_,h5⟩:=xG hw (oW hw) (s:=(false,sp)) hs e
    have h6:wO sp'<wO sp:=by
     rcases h5 rfl with h | h
     ·cases h
     ·exact h
    exact aE4 hw h3 (by omega) (by omega)
def aWi (w:bG) (s:Bool × List aD):List aD ⊕ Unit:=if s.1=true then kM w (wO s.2+1) s.2 else .inl s.2
theorem aKg {w:bG} (hw:aBw w=true) {S X:Type} {step:S→Option (S ⊕ X)} (mk:Bool × List aD→S) (un:S→Bool × List aD) (hun : ∀ s,un (mk s)=s) (good:List aD→X) (bad:List aD→X)
  (hbad : ∀ x y,bad x=bad y)
  (hT : ∀ sp,SpI w sp→step (mk (true,sp))=some (match oL w w.Meshes (false,sp) with
   | .inr _ => .inr (bad sp)
   | .inl s' => .inl (mk s'))) (hF : ∀ sp,SpI w sp→step (mk (false,sp))=some (.inr (good sp))) (sp:List aD) (h:SpI w sp) :
  cD step (mk (true,sp))=some (match kM w (wO sp+1) sp with
   | .inl sp'=>good sp'
   | .inr _=>bad sp):=by
 refine tG (fun s => ∃ t:Bool × List aD,s=mk t∧SpI w t.2∧aWi w t=kM w (wO sp+1) sp) (fun s=>2*wO (un s).2+if (un s).1=true then 1 else 0) (fun s hI => ?_) ⟨(true,sp),rfl,h,rfl⟩ ?_
 ·obtain ⟨⟨b,q⟩,rfl,hq,e⟩:=hI
  cases b with
  | false =>
   right
   rw [hF q hq]
   have e:Sum.inl q=kM w (wO sp+1) sp:=e
   rw [← e]
  | true =>
   rw [hT q hq]
   have e:kM w (wO q+1) q=kM w (wO sp+1) sp:=e
   unfold kM at e
   cases er:oL w w.Meshes (false,q) with
   | inr u =>
    right
    rw [er] at e
    have e:Sum.inr u=kM w (wO sp+1) sp:=by unfold kM;exact e
    rw [← e]
    simp only [hbad q sp]
   | inl s' =>
    left
    obtain ⟨h3,h4,h5⟩:=xG hw (oW hw) (s:=(false,q)) hq er
    refine ⟨_,rfl,⟨s',rfl,h3,?_⟩,?_⟩
    ·rw [er] at e
     obtain ⟨b,q'⟩:=s'
     cases b with
     | false=>unfold kM;exact e
     | true =>
      have h6:wO q'<wO q:=by
       rcases h5 rfl with h | h
       ·cases h
       ·exact h
      have e:kM w (wO q) q'=kM w (wO sp+1) sp:=e.trans (by rw [kM])
      rw [← e]
      exact aE4 hw h3 (by show wO q'<wO q'+1;omega) h6
    ·simp only [hun]
     obtain ⟨b,q'⟩:=s'
     cases b with
     | false=>dsimp only at h4 ⊢;simp;omega
     | true =>
      have h6:wO q'<wO q:=by
       rcases h5 rfl with h | h
       ·cases h
       ·exact h
      simp;omega
 ·simp only [hun]
  have:wO sp≤sp.length:=List.countP_le_length
  have h1:=h.1
  have h2:=(mW.1 hw).1
  simp;omega
def aTj (w:bG) (sp:List aD) (m:bR):Bool:=(gB (nH sp m.A) (eN w m).Driver (eN w m).Driven).2 && decide ((gB (nH sp m.A) (eN w m).Driver (eN w m).Driven).1=nH sp m.B)
def start (w:bG) (root:Int):List aD:=(List.replicate w.Arbors.length (⟨0,0⟩:aD)).set root.toNat ⟨1,1⟩
def gE (w:bG) (root:Int):List aD × Int :=
 if aAg w root=true then (match kM w (wO (start w root)+1) (start w root) with
  | .inr _=>([],2)
  | .inl sp=>if sp.any (fun r=>decide (r.Den=0))=true then ([],6) else if w.Meshes.all (aTj w sp)=true then (sp,0) else ([],10))
 else ([],2)
theorem aA1 {w:bG} (root:Int):SpI w (start w root):=by
 refine SpI.set ⟨by simp,fun r hr => .inl (List.eq_of_mem_replicate hr)⟩ _ ⟨by decide,by decide⟩
theorem aA0 {w:bG} (hw:aBw w=true) : ∀ {n:Nat} {sp sp':List aD},SpI w sp→kM w n sp = .inl sp'→SpI w sp'
 | 0,_,_,h,e=>by injection e with e;subst e;exact h
 | n+1,sp,sp',h,e=>by
  unfold kM at e
  cases er:oL w w.Meshes (false,sp) with
  | inr u=>rw [er] at e;cases e
  | inl s =>
   rw [er] at e
   obtain ⟨h3,_,_⟩:=xG hw (oW hw) (s:=(false,sp)) h er
   obtain ⟨b,q⟩:=s
   cases b with
   | false=>injection e with e;subst e;exact h3
   | true=>exact aA0 hw h3 e
theorem aPv {w:bG} (hw:aBw w=true) {root:Int} (h:(gE w root).2=0):(gE w root).1.length=w.Arbors.length ∧ ∀ r ∈ (gE w root).1,KnR r:=by
 unfold gE at h ⊢
 split
 ·rename_i hr
  rw [if_pos hr] at h
  cases e:kM w (wO (start w root)+1) (start w root) with
  | inr u=>rw [e] at h;cases h
  | inl sp =>
   rw [e] at h
   have hs:=aA0 hw (aA1 root) e
   dsimp only at h ⊢
   split
   ·rename_i hn;rw [if_pos hn] at h;cases h
   ·rename_i hn
    rw [if_neg hn] at h
    split
    ·refine ⟨hs.1,fun r hr => ?_⟩
     rcases hs.2 r hr with rfl | h
     ·exact absurd (List.any_eq_true.2 ⟨_,hr,decide_eq_true rfl⟩) hn
     ·exact h
    ·rename_i hf;rw [if_neg hf] at h;cases h
 ·rename_i hr;rw [if_neg hr] at h;cases h
end Go.Proofs.YtceknlcbfomdhaaGreatDoor
namespace Go.Proofs.YtceknlcbfomdhaaGreatDoor
set_option linter.unusedVariables false
theorem zB (x:aD × Bool):(x.2=true∧yP x=(x.1,0))∨(x.2=false∧yP x=(⟨0,0⟩,2)):=by
 unfold yP
 cases h:x.2
 ·exact .inr ⟨rfl,by simp⟩
 ·exact .inl ⟨rfl,by simp⟩
theorem xA {w:bG} {m:bR} {sp:List aD} (hm:sY w m=true) (h:SpI w sp):0≤m.A∧m.A<sp.length∧0≤m.B∧m.B<sp.length:=by
 obtain ⟨_,j1,j2⟩:=kF.1 hm
 have a:=rN j1
 have b:=rN j2
 rw [h.1]
 exact ⟨a.1,a.2.1,b.1,b.2.1⟩
theorem aQg {n k:Nat} (h:n≤16) (hk:k≤2):0≤(n:Int)∧(n:Int)=(n:Int)∧((n:Int)).toNat*k*64≤281474976710656:=by
 refine ⟨by omega,rfl,?_⟩
 have:(n:Int).toNat*k≤16*2:=Nat.mul_le_mul (by omega) hk
 omega
theorem aO1 {w:bG} (hw:aBw w=true) (sp:List aD) (h:SpI w sp) :
  cD (S:=Bool × Int × List aD) (X:=(Bool × List aD) ⊕ ((List aD) ⊕ (List aD × Int))) (fun s41 =>
 (if s41.2.1<(w.Meshes.length:Int) then
 ((((atI w.Meshes s41.2.1).bind fun v42 =>
 ((nL w v42).bind fun v43 =>
 ((((atI s41.2.2 v42.A).bind fun v44 =>
 (if v44.Den=0 then
 some (v42.B,v42.A,(⟨v43.Driven,v43.Driver⟩:bQ))
 else
 some (v42.A,v42.B,v43))):Option (Int × Int × bQ)).bind fun v45 =>
 ((((atI s41.2.2 v45.1).bind fun v46 =>
 (if v46.Den=0 then
 some true
 else
 ((atI s41.2.2 v45.2.1).bind fun v47 =>
 some (decide (v47.Den≠0))))):Option Bool).bind fun v48 =>
 (if v48=true then
 some (.inl (s41.1,s41.2.2))
 else
 ((atI s41.2.2 v45.1).bind fun v49 =>
 ((nK v49 v45.2.2.Driver v45.2.2.Driven).bind fun v50 =>
 (if v50.2≠0 then
 some (.inr (.inr (.inr (.inr (([]:List aD),v50.2)))))
 else
 ((atI s41.2.2 v45.2.1).bind fun v51 =>
 some (.inl (true,List.set s41.2.2 (v45.2.1).toNat v50.1))))))))))):Option ((Bool × List aD) ⊕ ((Bool × Int × List aD) ⊕ ((Bool × List aD) ⊕ ((List aD) ⊕ (List aD × Int)))))).bind fun v52x=>orE v52x fun v52 =>
 some (.inl (v52.1,w64 (s41.2.1+1),v52.2)))
 else
 some (.inr (.inl (s41.1,s41.2.2))))) (false,0,sp)=some (match oL w w.Meshes (false,sp) with
  | .inl s' => .inl s'
  | .inr _ => .inr (.inr ([],2))):=by
 have hl:=(mW.1 hw).2.1
 rw [aAn (xs:=w.Meshes) (fun i (s:Bool × List aD)=>(s.1,i,s.2)) (fun _ m s=>some (Sum.map id (fun _ => .inr (.inr ([],2))) (wM w m s))) (fun s => .inl s) (fun s=>SpI w s.2) (by omega) (fun i hi s hs => ?_) (fun i hi s s' hs e => ?_) (fun s hs=>by simp) (false,sp) h]
 ·rw [aGe (w:=w) (X:=(Bool × List aD) ⊕ ((List aD) ⊕ (List aD × Int))) (g:=fun _ => .inr (.inr ([],2))) (fun _ _ _=>rfl)]
  cases oL w w.Meshes (false,sp) <;> rfl
 ·have hi':(i:Int)<w.Meshes.length:=by omega
  have e1:w64 ((i:Int)+1)=i+1:=bD (by omega) (by omega)
  have hj:=oW hw _ (List.getElem_mem hi)
  simp only [if_pos hi',dT hi,Option.bind_some,e1,aEb hj]
  generalize w.Meshes[i]=m at hj
  obtain ⟨_,j1,j2⟩:=kF.1 hj
  have ta:=qC hw j1
  have tb:=qC hw j2
  obtain ⟨a0,a1,b0,b1⟩:=xA hj hs
  obtain ⟨ga,_,_⟩:=pD a0 a1
  obtain ⟨gb,_,_⟩:=pD b0 b1
  have a1':m.A<w.Arbors.length:=by rw [← hs.1];exact a1
  have b1':m.B<w.Arbors.length:=by rw [← hs.1];exact b1
  unfold wM
  simp only [ga,Option.bind_some]
  by_cases dA:(nH s.2 m.A).Den=0
  ·simp only [if_pos dA,Option.bind_some,gb]
   by_cases dB:(nH s.2 m.B).Den=0
   ·simp only [if_pos dB,dA,dB,Option.bind_some,if_true];rfl
   ·have k:=hs.den b0 b1' dB
    simp only [if_neg dB,ga,gb,dA,dB,Option.bind_some]
    rw [zK k (t:=(eN w m).Driven) (u:=(eN w m).Driver) tb.1 tb.2 ta.1 ta.2]
    rcases zB (gB (nH s.2 m.B) (eN w m).Driven (eN w m).Driver) with ⟨h1,h2⟩ | ⟨h1,h2⟩ <;> simp [h1,h2,orE]
  ·simp only [if_neg dA,Option.bind_some,ga,gb]
   by_cases dB:(nH s.2 m.B).Den=0
   ·have k:=hs.den a0 a1' dA
    simp only [ga,gb,dA,dB,Option.bind_some,if_false,ne_eq,not_true_eq_false,decide_false,Bool.false_eq_true]
    rw [zK k (t:=(eN w m).Driver) (u:=(eN w m).Driven) ta.1 ta.2 tb.1 tb.2]
    rcases zB (gB (nH s.2 m.A) (eN w m).Driver (eN w m).Driven) with ⟨h1,h2⟩ | ⟨h1,h2⟩ <;> simp [h1,h2,orE]
   ·simp [dA,dB,orE]
 ·have e:wM w w.Meshes[i] s = .inl s':=by
   cases e2:wM w w.Meshes[i] s with
   | inr u=>rw [e2] at e;cases e
   | inl z=>rw [e2] at e;injection e with e;injection e with e;rw [← e];rfl
  exact (aDj hw (oW hw _ (List.getElem_mem hi)) hs e).1
theorem aEc {w:bG} (hw:aBw w=true) {root:Int} (hr:aAg w root=true):mJ w root=some (match kM w (wO (start w root)+1) (start w root) with
  | .inl sp=>(sp,0)
  | .inr _=>([],2)):=by
 have hl:=(mW.1 hw).1
 have hr:=of_decide_eq_true hr
 unfold mJ
 rw [fY (aQg hl (by omega))]
 simp only [Int.toNat_natCast]
 obtain ⟨e,he,_,_⟩:=jQ (xs:=List.replicate w.Arbors.length (⟨0,0⟩:aD)) hr.1 (by rw [List.length_replicate];exact hr.2)
 rw [he,Option.bind_some]
 have:=aKg hw (S:=Bool × List aD) (X:=(List aD) ⊕ (List aD × Int)) (step:=fun s28=>(if s28.1=true then cD (S:=Bool × Int × List aD) (X:=(Bool × List aD) ⊕ ((List aD) ⊕ (List aD × Int))) (fun s41 =>
 (if s41.2.1<(w.Meshes.length:Int) then
 ((((atI w.Meshes s41.2.1).bind fun v42 =>
 ((nL w v42).bind fun v43 =>
 ((((atI s41.2.2 v42.A).bind fun v44 =>
 (if v44.Den=0 then
 some (v42.B,v42.A,(⟨v43.Driven,v43.Driver⟩:bQ))
 else
 some (v42.A,v42.B,v43))):Option (Int × Int × bQ)).bind fun v45 =>
 ((((atI s41.2.2 v45.1).bind fun v46 =>
 (if v46.Den=0 then
 some true
 else
 ((atI s41.2.2 v45.2.1).bind fun v47 =>
 some (decide (v47.Den≠0))))):Option Bool).bind fun v48 =>
 (if v48=true then
 some (.inl (s41.1,s41.2.2))
 else
 ((atI s41.2.2 v45.1).bind fun v49 =>
 ((nK v49 v45.2.2.Driver v45.2.2.Driven).bind fun v50 =>
 (if v50.2≠0 then
 some (.inr (.inr (.inr (.inr (([]:List aD),v50.2)))))
 else
 ((atI s41.2.2 v45.2.1).bind fun v51 =>
 some (.inl (true,List.set s41.2.2 (v45.2.1).toNat v50.1))))))))))):Option ((Bool × List aD) ⊕ ((Bool × Int × List aD) ⊕ ((Bool × List aD) ⊕ ((List aD) ⊕ (List aD × Int)))))).bind fun v52x=>orE v52x fun v52 =>
 some (.inl (v52.1,w64 (s41.2.1+1),v52.2)))
 else
 some (.inr (.inl (s41.1,s41.2.2))))) (false,0,s28.2) else some (.inr (.inl s28.2)))) (fun s=>s) (fun s=>s) (fun _=>rfl) (fun sp => .inl sp) (fun _ => .inr ([],2)) (fun _ _=>rfl) (fun sp h=>by
  simp only [if_true]
  rw [aO1 hw sp h]
  cases oL w w.Meshes (false,sp) <;> rfl) (fun sp h=>by simp) (start w root) (aA1 root)
 unfold start at this
 unfold start
 rw [this,Option.bind_some]
 cases kM w (wO ((List.replicate w.Arbors.length (⟨0,0⟩:aD)).set root.toNat ⟨1,1⟩)+1) ((List.replicate w.Arbors.length (⟨0,0⟩:aD)).set root.toNat ⟨1,1⟩) <;> rfl
theorem aHg {w:bG} (hl:w.Arbors.length≤9223372036854775807) (hws : ∀ b ∈ w.Arbors,b.Wheels.length≤9223372036854775807) (hm:w.Meshes.length≤9223372036854775807) (root:Int):qH w root=some (if aBw w=true then gE w root else ([],1)):=by
 unfold qH gE
 rw [wV hl hws hm,Option.bind_some]
 by_cases hw:aBw w=true
 ·have e0:btw root 0 (w64 ((w.Arbors.length:Int)-1))=aAg w root:=zA hl
  have hml:=(mW.1 hw).2.1
  rw [if_pos hw,hw,fM,e0,Option.bind_some]
  by_cases hr:aAg w root=true
  ·rw [if_pos hr,hr,aEc hw hr]
   cases e:kM w (wO (start w root)+1) (start w root) with
   | inr u=>rfl
   | inl sp =>
    have hs:=aA0 hw (aA1 root) e
    have hsl:=hs.1
    have hal:=(mW.1 hw).1
    simp only [Bool.not_true,Bool.false_eq_true,if_false,Option.bind_some,ne_eq,not_true_eq_false]
    have hc:cK sp=some (sp.any fun r=>decide (r.Den=0)):=by
     unfold cK dD
     rw [aTh (fun r=>decide (r.Den=0)) (by omega) fun i hi=>by rw [dT hi,Option.bind_some,pY,Option.bind_some],Option.bind_some,aH8]
    rw [hc,Option.bind_some]
    by_cases hn:(sp.any fun r=>decide (r.Den=0))=true
    ·rw [if_pos hn,if_pos hn]
    ·rw [if_neg hn,if_neg hn,xO (e := .inr ([],10)) (fun _ m=>aTj w sp m) hm fun i hi => ?_,nW,Option.bind_some]
     ·cases w.Meshes.all (aTj w sp) <;> rfl
     ·have hj:=oW hw _ (List.getElem_mem hi)
      simp only [dT hi,Option.bind_some,aEb hj]
      generalize w.Meshes[i]=m at hj
      obtain ⟨_,j1,j2⟩:=kF.1 hj
      have ta:=qC hw j1
      have tb:=qC hw j2
      obtain ⟨a0,a1,b0,b1⟩:=xA hj hs
      obtain ⟨ga,gm,_⟩:=pD a0 a1
      obtain ⟨gb,_,_⟩:=pD b0 b1
      have k:KnR (nH sp m.A):=by
       rcases hs.2 _ gm with e | h
       ·exact absurd (List.any_eq_true.2 ⟨_,gm,decide_eq_true (by rw [e])⟩) hn
       ·exact h
      rw [ga,Option.bind_some,zK k (t:=(eN w m).Driver) (u:=(eN w m).Driven) ta.1 ta.2 tb.1 tb.2,gb]
      unfold aTj
      rcases zB (gB (nH sp m.A) (eN w m).Driver (eN w m).Driven) with ⟨h1,h2⟩ | ⟨h1,h2⟩
      ·by_cases q:(gB (nH sp m.A) (eN w m).Driver (eN w m).Driven).1=nH sp m.B <;> simp [h1,h2,q]
      ·simp [h1,h2]
  ·rw [if_neg hr,Bool.not_eq_true] at *
   rw [hr];rfl
 ·rw [if_neg hw,Bool.not_eq_true] at *
  rw [hw];rfl
theorem aKr {w:bG} (hw:aBw w=true) {sp:List aD} (hs:SpI w sp) {m:bR} (hj:sY w m=true) (k:KnR (nH sp m.A)):sS w m sp=some (aTj w sp m):=by
 obtain ⟨_,j1,j2⟩:=kF.1 hj
 have ta:=qC hw j1
 have tb:=qC hw j2
 obtain ⟨a0,a1,b0,b1⟩:=xA hj hs
 obtain ⟨ga,gm,_⟩:=pD a0 a1
 obtain ⟨gb,_,_⟩:=pD b0 b1
 have hv:=tV (t:=(eN w m).Driver) (u:=(eN w m).Driven) ta.1 ta.2 tb.1 tb.2
 have t0:6≤(eN w m).Driver:=ta.1
 have t1:(eN w m).Driver≤240:=ta.2
 have u0:6≤(eN w m).Driven:=tb.1
 have u1:(eN w m).Driven≤240:=tb.2
 unfold sS aTj gB
 rw [aCa hj,Option.bind_some,bD (by omega) (by omega),lK ⟨by omega,by omega⟩ ⟨by omega,by omega⟩ (by omega),Option.bind_some,ga,Option.bind_some,vU k.1 hv.2.1,Option.bind_some,gb]
 cases (aSx (nH sp m.A) (mkR (-(eN w m).Driver) (eN w m).Driven).1).2 <;> simp
def knS (sp:List aD):List Bool:=sp.map fun r=>decide (r.Den≠0)
theorem aW9 {sp:List aD} {i:Int} (h0:0≤i) (h1:i<sp.length):atI (knS sp) i=some (decide ((nH sp i).Den≠0)):=by
 obtain ⟨_,_,hi,e⟩:=pD h0 h1
 unfold atI knS
 rw [if_pos h0,List.getElem?_map,List.getElem?_eq_getElem hi,e];rfl
theorem aQ0 {sp:List aD} {i:Nat} {v:aD} (hv:v.Den≠0):knS (sp.set i v)=(knS sp).set i true:=by
 unfold knS
 rw [List.map_set,decide_eq_true hv]
theorem aD2 {w:bG} (hw:aBw w=true) {X:Type} (g:Bool × List aD→X) : ∀ (ms:List bR) (hm : ∀ m ∈ ms,sY w m=true) (k:Nat) (s:Bool × List aD),SpI w s.2 → ∃ f,SpI w f.2∧aP0 (fun _ m s=>some (match wM w m s with
  | .inl s' => .inl s'
  | .inr _ => .inr (g s))) ms k s=some (match oL w ms s with
  | .inl s' => .inl s'
  | .inr _ => .inr (g f))
 | [],_,k,s,h=>⟨s,h,rfl⟩
 | m :: ms,hm,k,s,h=>by
  cases e:wM w m s with
  | inr u =>
   refine ⟨s,h,?_⟩
   show (some (match wM w m s with
    | .inl s'=>_
    | .inr _=>_)).bind _=_
   unfold oL
   rw [e];rfl
  | inl s1 =>
   obtain ⟨f,hf,q⟩:=aD2 hw g ms (fun m h=>hm m (List.mem_cons_of_mem _ h)) (k+1) s1 (aDj hw (hm m (List.mem_cons_self ..)) h e).1
   refine ⟨f,hf,?_⟩
   show (some (match wM w m s with
    | .inl s'=>_
    | .inr _=>_)).bind _=_
   unfold oL
   rw [e]
   exact q
theorem aPt {w:bG} (hw:aBw w=true) (sp:List aD) (h:SpI w sp) : ∃ f,SpI w f∧iB w (knS sp) sp=some (match oL w w.Meshes (false,sp) with
  | .inl s'=>(s'.1,true,knS s'.2,s'.2)
  | .inr _=>(false,false,knS f,f)):=by
 have hl:=(mW.1 hw).2.1
 unfold iB
 obtain ⟨f,hf,q⟩:=aD2 hw (X:=(Bool × List Bool × List aD) ⊕ (Bool × Bool × List Bool × List aD)) (fun s => .inr (false,false,knS s.2,s.2)) w.Meshes (oW hw) 0 (false,sp) h
 refine ⟨f.2,hf,?_⟩
 rw [aAn (xs:=w.Meshes) (fun i (s:Bool × List aD)=>(s.1,i,knS s.2,s.2)) (fun _ m s=>some (match wM w m s with
  | .inl s' => .inl s'
  | .inr _ => .inr (.inr (false,false,knS s.2,s.2)))) (fun s => .inl (s.1,knS s.2,s.2)) (fun s=>SpI w s.2) (by omega) (fun i hi s hs => ?_) (fun i hi s s' hs e => ?_) (fun s hs=>by simp) (false,sp) h]
 ·rw [q]
  cases oL w w.Meshes (false,sp) <;> rfl
 ·have hi':(i:Int)<w.Meshes.length:=by omega
  have e1:w64 ((i:Int)+1)=i+1:=bD (by omega) (by omega)
  have hj:=oW hw _ (List.getElem_mem hi)
  simp only [if_pos hi',dT hi,Option.bind_some,e1,aCa hj]
  generalize w.Meshes[i]=m at hj
  obtain ⟨_,j1,j2⟩:=kF.1 hj
  have ta:=qC hw j1
  have tb:=qC hw j2
  have t0:6≤(eN w m).Driver:=ta.1
  have t1:(eN w m).Driver≤240:=ta.2
  have u0:6≤(eN w m).Driven:=tb.1
  have u1:(eN w m).Driven≤240:=tb.2
  obtain ⟨a0,a1,b0,b1⟩:=xA hj hs
  obtain ⟨ga,_,_⟩:=pD a0 a1
  obtain ⟨gb,_,_⟩:=pD b0 b1
  have ka:=aW9 a0 a1
  have kb:=aW9 b0 b1
  have a1':m.A<w.Arbors.length:=by rw [← hs.1];exact a1
  have b1':m.B<w.Arbors.length:=by rw [← hs.1];exact b1
  unfold wM
  simp only [ka,kb,Option.bind_some]
  by_cases dA:(nH s.2 m.A).Den=0
  ·by_cases dB:(nH s.2 m.B).Den=0
   ·simp [dA,dB,orE]
   ·have k:=hs.den b0 b1' dB
    have hv:=tV (t:=(eN w m).Driven) (u:=(eN w m).Driver) u0 u1 t0 t1
    have e2:(decide ((nH s.2 m.A).Den≠0) == decide ((nH s.2 m.B).Den≠0))=false:=by simp [dA,dB]
    have e3:decide ((nH s.2 m.A).Den=0)≠decide ((nH s.2 m.B).Den=0):=by simp [dA,dB]
    have e4:decide ((nH s.2 m.B).Den≠0)=true:=by simp [dB]
    rw [e2,if_neg (by decide),if_neg e3,if_pos dA,e4,if_pos rfl]
    simp only [Option.bind_some,ga,gb,ka,kb]
    rw [bD (by omega) (by omega),lK ⟨by omega,by omega⟩ ⟨by omega,by omega⟩ (by omega)]
    simp only [Option.bind_some]
    rw [vU k.1 hv.2.1]
    have mv:=pG k (t:=(eN w m).Driven) (u:=(eN w m).Driver) u0 u1 t0 t1
    have em:aSx (nH s.2 m.B) (mkR (-(eN w m).Driven) (eN w m).Driver).1=gB (nH s.2 m.B) (eN w m).Driven (eN w m).Driver:=rfl
    rw [em]
    cases h2:(gB (nH s.2 m.B) (eN w m).Driven (eN w m).Driver).2
    ·simp [h2,orE]
    ·simp [h2,orE,aQ0 (mv h2).den]
  ·by_cases dB:(nH s.2 m.B).Den=0
   ·have k:=hs.den a0 a1' dA
    have hv:=tV (t:=(eN w m).Driver) (u:=(eN w m).Driven) t0 t1 u0 u1
    have e2:(decide ((nH s.2 m.A).Den≠0) == decide ((nH s.2 m.B).Den≠0))=false:=by simp [dA,dB]
    have e3:decide ((nH s.2 m.A).Den=0)≠decide ((nH s.2 m.B).Den=0):=by simp [dA,dB]
    have e4:decide ((nH s.2 m.B).Den≠0)=false:=by simp [dB]
    rw [e2,if_neg (by decide),if_neg e3,if_neg dA,e4,if_neg (by decide)]
    simp only [Option.bind_some,ga,gb,ka,kb]
    rw [bD (by omega) (by omega),lK ⟨by omega,by omega⟩ ⟨by omega,by omega⟩ (by omega)]
    simp only [Option.bind_some]
    rw [vU k.1 hv.2.1]
    have mv:=pG k (t:=(eN w m).Driver) (u:=(eN w m).Driven) t0 t1 u0 u1
    have em:aSx (nH s.2 m.A) (mkR (-(eN w m).Driver) (eN w m).Driven).1=gB (nH s.2 m.A) (eN w m).Driver (eN w m).Driven:=rfl
    rw [em]
    cases h2:(gB (nH s.2 m.A) (eN w m).Driver (eN w m).Driven).2
    ·simp [h2,orE]
    ·simp [h2,orE,aQ0 (mv h2).den]
   ·simp [dA,dB,orE]
 ·have e:wM w w.Meshes[i] s = .inl s':=by
   cases e2:wM w w.Meshes[i] s with
   | inr u=>rw [e2] at e;cases e
   | inl z=>rw [e2] at e;injection e with e;injection e with e;rw [← e]
  exact (aDj hw (oW hw _ (List.getElem_mem hi)) hs e).1
theorem aQz (sp:List aD):(knS sp).length=sp.length:=by unfold knS;simp
theorem aF1 {w:bG} (hw:aBw w=true) (root:Int):oQ w root=some (gE w root):=by
 have hal:=(mW.1 hw).1
 have hml:=(mW.1 hw).2.1
 unfold oQ gE
 rw [aCb (by omega),Option.bind_some]
 by_cases hr:aAg w root=true
 ·rw [if_pos hr,hr,if_neg (by decide),fY (aQg hal (by omega)),fY (aQg hal (by omega))]
  simp only [Int.toNat_natCast]
  have hrr:=of_decide_eq_true hr
  obtain ⟨e,he,_,_⟩:=jQ (xs:=List.replicate w.Arbors.length (⟨0,0⟩:aD)) hrr.1 (by rw [List.length_replicate];exact hrr.2)
  obtain ⟨e',he',_,_⟩:=jQ (xs:=List.replicate w.Arbors.length false) hrr.1 (by rw [List.length_replicate];exact hrr.2)
  rw [he',Option.bind_some,jP,Option.bind_some,he,Option.bind_some]
  have hk:knS (start w root)=(List.replicate w.Arbors.length false).set root.toNat true:=by
   unfold start
   rw [aQ0 (by decide)]
   congr 1
   unfold knS
   rw [List.map_replicate];rfl
  have:=aKg hw (S:=Bool × List Bool × List aD) (X:=(List Bool × List aD) ⊕ (List aD × Int)) (step:=fun s11=>(if s11.1=true then ((iB w s11.2.1 s11.2.2).bind fun v12=>(chk (v12.2.2.1.length=s11.2.1.length) (chk (v12.2.2.2.length=s11.2.2.length) (if (!v12.2.1)=true then some (.inr (.inr (([]:List aD),2))) else some (.inl (v12.1,v12.2.2.1,v12.2.2.2)))))) else some (.inr (.inl (s11.2.1,s11.2.2))))) (fun s=>(s.1,knS s.2,s.2)) (fun s=>(s.1,s.2.2)) (fun _=>rfl) (fun sp => .inl (knS sp,sp)) (fun _ => .inr ([],2)) (fun _ _=>rfl) (fun sp h=>by
   obtain ⟨f,hf,q⟩:=aPt hw sp h
   simp only [if_true,q,Option.bind_some]
   cases er:oL w w.Meshes (false,sp) with
   | inr u =>
    simp only [aQz,hf.1,h.1,rH]
    simp
   | inl s' =>
    have h3:=(xG hw (oW hw) (s:=(false,sp)) h er).1
    simp only [aQz,h3.1,h.1,rH]
    simp) (fun sp h=>by simp) (start w root) (aA1 root)
  rw [hk] at this
  unfold start at this
  unfold start
  rw [this,Option.bind_some]
  cases e:kM w (wO ((List.replicate w.Arbors.length (⟨0,0⟩:aD)).set root.toNat ⟨1,1⟩)+1) ((List.replicate w.Arbors.length (⟨0,0⟩:aD)).set root.toNat ⟨1,1⟩) with
  | inr u=>rfl
  | inl sp =>
   have hs:=aA0 hw (aA1 root) e
   have hsl:=hs.1
   show (orE (.inl (knS sp,sp)) _)=_
   simp only [orE]
   rw [xO (xs:=knS sp) (e := .inr ([],6)) (fun _ b=>b) (by rw [aQz];omega) fun i hi=>by rw [dT hi,Option.bind_some];cases (knS sp)[i] <;> rfl,nW,Option.bind_some]
   have e5:(knS sp).all (fun b=>b) = !(sp.any fun r=>decide (r.Den=0)):=by
    unfold knS
    rw [Bool.eq_iff_iff];simp
   rw [e5]
   by_cases hn:(sp.any fun r=>decide (r.Den=0))=true
   ·rw [hn];rfl
   ·rw [Bool.not_eq_true] at hn
    rw [hn]
    simp only [Bool.not_false,if_true,orE]
    rw [xO (xs:=w.Meshes) (e := .inr ([],10)) (fun _ m=>aTj w sp m) (by omega) fun i hi => ?_,nW,Option.bind_some]
    ·cases w.Meshes.all (aTj w sp) <;> rfl
    ·have hj:=oW hw _ (List.getElem_mem hi)
     obtain ⟨a0,a1,b0,b1⟩:=xA hj hs
     obtain ⟨_,gm,_⟩:=pD a0 a1
     have k:KnR (nH sp w.Meshes[i].A):=by
      rcases hs.2 _ gm with e | h
      ·have q:(sp.any fun r=>decide (r.Den=0))=true:=List.any_eq_true.2 ⟨_,gm,decide_eq_true (by rw [e])⟩
       rw [hn] at q;cases q
      ·exact h
     rw [dT hi,Option.bind_some,aKr hw hs hj k,Option.bind_some]
     cases aTj w sp w.Meshes[i] <;> rfl
 ·rw [if_neg hr,Bool.not_eq_true] at *
  rw [hr];rfl
end Go.Proofs.YtceknlcbfomdhaaGreatDoor
namespace Go.Proofs.YtceknlcbfomdhaaGreatDoor
set_option linter.unusedVariables false
theorem aH4 {m:aW} (h:aI1 m=true):aBw m.Works=true∧aAg m.Works m.Minute=true∧aAg m.Works m.Hour=true∧aAg m.Works m.Escape=true:=by
 unfold aI1 at h
 simp only [Bool.and_eq_true] at h
 exact ⟨h.2.1,h.2.2.1,h.2.2.2.1,h.2.2.2.2.1⟩
theorem yM {m:aW} {k:Int} (hw:aBw m.Works=true) (hs:(gE m.Works m.Minute).2=0) (hk:aAg m.Works k=true):atI (gE m.Works m.Minute).1 k=some (nH (gE m.Works m.Minute).1 k)∧KnR (nH (gE m.Works m.Minute).1 k):=by
 have h1:=aPv hw hs
 have h2:=of_decide_eq_true hk
 obtain ⟨g,gm,_⟩:=pD (sp:=(gE m.Works m.Minute).1) h2.1 (by rw [h1.1];exact h2.2)
 exact ⟨g,h1.2 _ gm⟩
end Go.Proofs.YtceknlcbfomdhaaGreatDoor
namespace Go.Proofs.YtceknlcbfomdhaaGreatDoor
set_option linter.unusedVariables false
def aMf:ByteArray:=⟨#[119,111,114,107,115]⟩
def aRm:ByteArray:=⟨#[104,111,117,114]⟩
def aMe:ByteArray:=⟨#[98,101,97,116,115]⟩
def aRl:ByteArray:=⟨#[99,97,109]⟩
def aXf:ByteArray:=⟨#[109,111,118,101,109,101,110,116]⟩
def aP8 (m:aW) (v:aD):Bool:=decide (w64 (w64 (2*m.Teeth)*fI v.Num)=w64 (m.Beats*v.Den))
def zD (m:aW):List ByteArray :=
 (if (gE m.Works m.Minute).2=0 then (if nH (gE m.Works m.Minute).1 m.Hour=⟨1,12⟩ then [] else [aRm])++(if aP8 m (nH (gE m.Works m.Minute).1 m.Escape)=true then [] else [aMe]) else [aMf])++(if (m.Cam.length:Int) % m.Calendar.Months.length=0 then [] else [aRl])
theorem aH3 {m:aW} (h:aI1 m=true):vC m.Calendar=true∧aLh m.Cam=true:=by
 unfold aI1 at h
 simp only [Bool.and_eq_true] at h
 exact ⟨h.2.2.2.2.2.2.2.1,h.2.2.2.2.2.2.2.2.1⟩
theorem aG1 {c:aF} {cam:List Int} (h1:vC c=true) (h2:aLh cam=true):aA7 c cam=if (cam.length:Int) % c.Months.length=0 then 0 else 6:=by
 unfold aA7;rw [h1,h2];rfl
theorem zF {m:aW} (h:eD m):iE m=some (if aI1 m=true then zD m else [aXf]):=by
 unfold iE zD
 obtain ⟨w1,w2,w3⟩:=smW h.2.1
 have hcl:m.Cam.length≤1048576:=h.2.2.2.2.2.2.2.2.1.1
 rw [tC h,Option.bind_some]
 by_cases hv:aI1 m=true
 ·obtain ⟨hw,k1,k2,k3⟩:=aH4 hv
  obtain ⟨c1,c2⟩:=aH3 hv
  have cm:=(fE c1).2.1
  have hbel : ∀ (x y:Option (List ByteArray)),((iO m.Calendar m.Cam).bind fun v11=>if v11=0 then x else y)=if (m.Cam.length:Int) % m.Calendar.Months.length=0 then y else x:=by
   intro x y
   rw [qJ cm.1 (by omega),Option.bind_some]
   by_cases h0:(m.Cam.length:Int) % m.Calendar.Months.length=0
   ·have:=rU (c:=m.Calendar) (cam:=m.Cam) (by rw [aG1 c1 c2,if_pos h0])
    rw [if_pos h0,if_neg (by omega),if_pos h0]
   ·rw [if_neg h0,if_pos rfl,if_neg h0]
  rw [if_pos hv,hv,aHg w1 w2 w3,if_pos hw]
  simp only [Bool.not_true,Bool.false_eq_true,if_false,Option.bind_some,hbel]
  by_cases hs:(gE m.Works m.Minute).2=0
  ·have s2:=yM hw hs k2
   have s3:=yM hw hs k3
   have d3:=wI s3.2.1
   rw [if_neg (by simp [hs]),if_pos hs,s2.1,s3.1]
   simp only [Option.bind_some]
   rw [aDb (by omega) (by omega)]
   simp only [Option.bind_some]
   unfold aP8 aRm aMe aRl
   by_cases b1:nH (gE m.Works m.Minute).1 m.Hour=⟨1,12⟩ <;> by_cases b2:w64 (w64 (2*m.Teeth)*fI (nH (gE m.Works m.Minute).1 m.Escape).Num)=w64 (m.Beats*(nH (gE m.Works m.Minute).1 m.Escape).Den) <;> by_cases b3:(m.Cam.length:Int) % m.Calendar.Months.length=0 <;> simp [b1,b2,b3,chk]
  ·rw [if_pos hs,if_neg hs]
   unfold aMf aRl
   by_cases b3:(m.Cam.length:Int) % m.Calendar.Months.length=0 <;> simp [b3,chk]
 ·rw [if_neg hv,Bool.not_eq_true] at *
  rw [hv];rfl
theorem aF3 {m:aW} (h:eD m) (hv:aI1 m=true):oS m=some (zD m):=by
 unfold oS zD
 have hcl:m.Cam.length≤1048576:=h.2.2.2.2.2.2.2.2.1.1
 have hml:m.Calendar.Months.length≤1048576:=h.2.2.2.2.2.2.2.1.2.1.1
 have hrl:m.Calendar.Rules.length≤1048576:=h.2.2.2.2.2.2.2.1.2.2.1.1
 obtain ⟨hw,k1,k2,k3⟩:=aH4 hv
 obtain ⟨c1,c2⟩:=aH3 hv
 have hbel : ∀ (x y:Option (List ByteArray)),((pU m.Calendar m.Cam).bind fun v11=>if v11≠0 then x else y)=if (m.Cam.length:Int) % m.Calendar.Months.length=0 then y else x:=by
  intro x y
  rw [aE1 (by omega) (by omega) (by omega),Option.bind_some,aG1 c1 c2]
  by_cases h0:(m.Cam.length:Int) % m.Calendar.Months.length=0
  ·rw [if_pos h0,if_pos h0,if_neg (by decide)]
  ·rw [if_neg h0,if_neg h0,if_pos (by decide)]
 rw [aF1 hw]
 simp only [Option.bind_some,hbel]
 by_cases hs:(gE m.Works m.Minute).2=0
 ·have s2:=yM hw hs k2
  have s3:=yM hw hs k3
  have d3:=wI s3.2.1
  rw [if_neg (by simp [hs]),if_pos hs,s2.1,s3.1]
  unfold tR
  simp only [Option.bind_some]
  rw [qP (by omega) (by omega)]
  simp only [Option.bind_some]
  unfold aP8 aRm aMe aRl
  by_cases b1:nH (gE m.Works m.Minute).1 m.Hour=⟨1,12⟩ <;> by_cases b2:w64 (w64 (2*m.Teeth)*fI (nH (gE m.Works m.Minute).1 m.Escape).Num)=w64 (m.Beats*(nH (gE m.Works m.Minute).1 m.Escape).Den) <;> by_cases b3:(m.Cam.length:Int) % m.Calendar.Months.length=0 <;> simp [b1,b2,b3,chk]
 ·rw [if_pos hs,if_neg hs]
  unfold aMf aRl
  by_cases b3:(m.Cam.length:Int) % m.Calendar.Months.length=0 <;> simp [b3,chk]
theorem aC5 {α:Type} {xs:List α} {k:Nat} (hl:xs.length≤1048576) (hk:k≤100):(chk ((([]:List α).length+xs.length)*k*64≤140737488355328) (some (([]:List α)++xs)))=some xs:=by
 rw [fY ?_,List.nil_append]
 have:(([]:List α).length+xs.length)*k≤1048576*100:=Nat.mul_le_mul (by simpa using hl) hk
 omega
theorem aFl {w:bG} (h:tU w):oD w=some w:=by
 unfold oD
 have hl:=h.1.1
 rw [wQ (xs:=w.Arbors) (f:=fun a=>[a]) (c:=1) (fun v _=>by simp) (fun i hi ys hy => ?_) (fun ys=>by simp) (by omega)]
 ·simp only [Option.bind_some]
  unfold fR
  rw [aC5 h.2.1 (by omega)]
  simp
 ·have hi':(i:Int)<w.Arbors.length:=by omega
  have hw:=(h.1.2 _ (List.getElem_mem hi)).2.1
  simp only [if_pos hi',dT hi,Option.bind_some,bD (x:=(i:Int)+1) (by omega) (by omega)]
  first | unfold cU | unfold slices_Clone_Lint64_int64_v_m
  rw [aC5 hw (by omega),Option.bind_some,fY (by simp at hy ⊢;omega)]
theorem uK {m:aW} (h:eD m):hY m=some m:=by
 unfold hY
 rw [aFl h.2.1,Option.bind_some]
 unfold fF eE
 rw [aC5 h.2.2.2.2.2.2.2.1.2.1.1 (by omega),Option.bind_some,aC5 h.2.2.2.2.2.2.2.1.2.2.1.1 (by omega),Option.bind_some,aHn h.2.2.2.2.2.2.2.2.1.1,Option.bind_some]
def aIy:aW:=⟨⟨#[]⟩,⟨[],[]⟩,0,0,0,0,0,⟨⟨#[]⟩,[],[],0⟩,[],0⟩
def aX3:bX:=⟨[],0,0,0,0,0,0⟩
def aPx:wN:=⟨aIy,⟨0,0,0⟩,0,0,aX3⟩
def aVx (m:aW) (d:gY) (wd:Int):wN × Int :=
 if aI1 m=true then (if zD m=[] then (if (aSa m.Calendar m.Cam d wd).2=0 then (⟨m,d,wd,0,(aSa m.Calendar m.Cam d wd).1⟩,0) else (aPx,(aSa m.Calendar m.Cam d wd).2)) else (aPx,6)) else (aPx,1)
theorem smC {m:aW} (h:eD m):m.Calendar.Months.length≤1048576∧m.Calendar.Rules.length≤1048576∧m.Cam.length≤1048576:=⟨h.2.2.2.2.2.2.2.1.2.1.1,h.2.2.2.2.2.2.2.1.2.2.1.1,h.2.2.2.2.2.2.2.2.1.1⟩
theorem aQ4 {α:Type} {xs:List α}:(0<(xs.length:Int)) ↔ ¬ xs=[]:=by
 cases xs <;> simp
theorem aLv {m:aW} (h:eD m) (d:gY) (wd:Int):uI m d wd=some (aVx m d wd):=by
 obtain ⟨c1,c2,c3⟩:=smC h
 unfold uI aVx
 rw [tC h,Option.bind_some]
 cases hv:aI1 m
 ·rfl
 ·rw [zF h,hv]
  simp only [Bool.not_true,Bool.false_eq_true,if_false,if_true,Option.bind_some,aQ4]
  by_cases hf:zD m=[]
  ·rw [if_neg (by simp [hf]),if_pos hf,aBg (by omega) (by omega) c3,Option.bind_some]
   by_cases hs:(aSa m.Calendar m.Cam d wd).2=0
   ·rw [if_neg (by simp [hs]),if_pos hs,uK h,Option.bind_some]
   ·rw [if_pos hs,if_neg hs];rfl
  ·rw [if_pos hf,if_neg hf];rfl
end Go.Proofs.YtceknlcbfomdhaaGreatDoor
namespace Go.Proofs.YtceknlcbfomdhaaGreatDoor
set_option linter.unusedVariables false
def yrs (c:aF):Nat:=10000+0*c.Months.length
theorem aX2 (c:aF):yrs c=10000:=by unfold yrs;omega
def aZt (c:aF):Int:=bef c (yrs c)
def aUo (c:aF) (day:Int) (s:Int × gY):Prop:=s.2.Month=1∧s.2.Day=0∧0≤s.2.Year∧0≤s.1∧bef c s.2.Year.toNat+s.1=day
theorem aUo.bd {c:aF} (h:vC c=true) {day:Int} {s:Int × gY} (hs:aUo c day s) (hd:day<aZt c):s.2.Year≤9999∧s.1≤12000000:=by
 obtain ⟨_,_,h3,h4,h5⟩:=hs
 have f:=(aUr h (yrs c)).2
 have g:=(aUr h s.2.Year.toNat).1
 have y:=aX2 c
 unfold aZt at hd
 refine ⟨?_,by omega⟩
 refine Classical.byContradiction fun hn => ?_
 have:=aS6 h (m:=yrs c) (n:=s.2.Year.toNat) (by omega)
 omega
end Go.Proofs.YtceknlcbfomdhaaGreatDoor
namespace Go.Proofs.YtceknlcbfomdhaaGreatDoor
set_option linter.unusedVariables false
end Go.Proofs.YtceknlcbfomdhaaGreatDoor
namespace Go.Proofs.YtceknlcbfomdhaaGreatDoor
set_option linter.unusedVariables false
section
variable {α:Type} (f:Int→α→α × Int)
def aCz:Int→List α→List α
 | _,[]=>[]
 | k,a :: l=>(f k a).1 :: aCz (f k a).2 l
def kD:Int→List α→Int
 | k,[]=>k
 | k,a :: l=>kD (f k a).2 l
theorem fU : ∀ (xs:List α) (k:Int),(aCz f k xs).length=xs.length
 | [],_=>rfl
 | a :: l,k=>by simp [aCz,fU l]
theorem aGz : ∀ (xs ys:List α) (k:Int),kD f k (xs++ys)=kD f (kD f k xs) ys
 | [],_,_=>rfl
 | a :: l,ys,k=>by simp [kD,aGz l ys]
theorem aG0 : ∀ (xs ys:List α) (k:Int),aCz f k (xs++ys)=aCz f k xs++aCz f (kD f k xs) ys
 | [],_,_=>rfl
 | a :: l,ys,k=>by simp [aCz,kD,aG0 l ys]
end
section
variable {α:Type} {f:Int→α→α × Int} {sm:α→Prop} {C:Int}
theorem aP6 (hC:0≤C) (hf : ∀ k a,sm a→k≤(f k a).2∧(f k a).2≤k+C) : ∀ {xs:List α} {k:Int},(∀ a ∈ xs,sm a)→k≤kD f k xs∧kD f k xs≤k+C*xs.length
 | [],k,_=>by simp [kD]
 | a :: l,k,h=>by
  have h1:=hf k a (h a (by simp))
  have h2:=aP6 hC hf (xs:=l) (k:=(f k a).2) fun b hb=>h b (by simp [hb])
  simp only [kD,List.length_cons]
  have:C*((l.length+1:Nat):Int)=C*l.length+C:=by push_cast;rw [Int.mul_add];omega
  omega
theorem aNk (hC:0≤C) (hf : ∀ k a,sm a→k≤(f k a).2∧(f k a).2≤k+C) {xs pre:List α} {a:α} {suf:List α} {k0 B:Int} (hsm : ∀ a ∈ xs,sm a) (hB:k0+C*xs.length≤B) (e:xs=pre++a :: suf):k0≤kD f k0 pre∧kD f k0 pre≤B:=by
 have:=aP6 hC hf (xs:=pre) (k:=k0) fun b hb=>hsm b (by rw [e];simp [hb])
 have h2:C*(pre.length:Int)≤C*xs.length:=Int.mul_le_mul_of_nonneg_left (by rw [e];simp;omega) hC
 omega
theorem aTz {B:Int} (hC:0≤C) (hf : ∀ k a,sm a→k≤(f k a).2∧(f k a).2≤k+C) {step:Int × Int × List α→Option ((Int × Int × List α) ⊕ (Int × List α))} {xs:List α} (hsm : ∀ a ∈ xs,sm a) (hl:xs.length≤1048576)
  (hM : ∀ k (i:Nat) ys a,0≤k→k≤B→ys[i]? = some a→sm a→ys.length=xs.length→step (k,(i:Int),ys)=some (.inl ((f k a).2,(i:Int)+1,ys.set i (f k a).1))) (hE : ∀ k (i:Nat) ys,ys.length≤i→step (k,(i:Int),ys)=some (.inr (k,ys)))
  {k0:Int} (h0:0≤k0) (hB:k0+C*xs.length≤B):cD step (k0,0,xs)=some (kD f k0 xs,aCz f k0 xs):=by
 refine tG (fun (s:Int × Int × List α) => ∃ pre suf,xs=pre++suf∧s=(kD f k0 pre,(pre.length:Int),aCz f k0 pre++suf)) (fun (s:Int × Int × List α)=>((xs.length:Int)-s.2.1).toNat) (fun s hI => ?_) ⟨[],xs,rfl,rfl⟩ (by simp;omega)
 obtain ⟨pre,suf,e,rfl⟩:=hI
 cases suf with
 | nil =>
  right
  rw [List.append_nil] at e
  subst e
  rw [hE _ _ _ (by simp [fU]),List.append_nil]
 | cons a suf =>
  left
  have hb:=aNk hC hf hsm hB e
  have hlen:(aCz f k0 pre++a :: suf).length=xs.length:=by rw [e];simp [fU]
  refine ⟨_,hM _ pre.length _ a (by omega) hb.2 (by rw [List.getElem?_append_right (by rw [fU];exact Nat.le_refl _),fU];simp) (hsm a (by rw [e];simp)) hlen,⟨pre++[a],suf,by rw [e];simp,?_⟩,?_⟩
  ·rw [aGz,aG0,List.set_append_right _ _ (by rw [fU];exact Nat.le_refl _),fU,Nat.sub_self,List.set_cons_zero]
   simp [kD,aCz]
  ·have:pre.length<xs.length:=by rw [e];simp
   dsimp only
   omega
theorem aTt {B:Int} (hC:0≤C) (hf : ∀ k a,sm a→k≤(f k a).2∧(f k a).2≤k+C) {step:Int × Int→Option ((Int × Int) ⊕ (Int ⊕ Int))} {xs:List α} {k0:Int} (hsm : ∀ a ∈ xs,sm a) (hl:xs.length≤1048576)
  (hM : ∀ k (i:Nat) a,0≤k→k≤B→(aCz f k0 xs)[i]? = some (f k a).1→sm a→i<xs.length→step (k,(i:Int))=some (.inl ((f k a).2,(i:Int)+1))) (hE : ∀ k,step (k,(xs.length:Int))=some (.inr (.inl k)))
  (h0:0≤k0) (hB:k0+C*xs.length≤B):cD step (k0,0)=some (.inl (kD f k0 xs)):=by
 refine tG (fun (s:Int × Int) => ∃ pre suf,xs=pre++suf∧s=(kD f k0 pre,(pre.length:Int))) (fun (s:Int × Int)=>((xs.length:Int)-s.2).toNat) (fun s hI => ?_) ⟨[],xs,rfl,rfl⟩ (by simp;omega)
 obtain ⟨pre,suf,e,rfl⟩:=hI
 cases suf with
 | nil =>
  right
  rw [List.append_nil] at e
  subst e
  rw [hE]
 | cons a suf =>
  left
  have hb:=aNk hC hf hsm hB e
  have hlt:pre.length<xs.length:=by rw [e];simp
  refine ⟨_,hM _ pre.length a (by omega) hb.2 ?_ (hsm a (by rw [e];simp)) hlt,⟨pre++[a],suf,by rw [e];simp,?_⟩,?_⟩
  ·rw [e,aG0,List.getElem?_append_right (by rw [fU];exact Nat.le_refl _),fU]
   simp [aCz]
  ·rw [aGz];simp [kD]
  ·dsimp only
   omega
end
def mkA (k:Int) (a:bO):bO × Int:=(⟨mkT k,(List.range a.Wheels.length).map fun (j:Nat)=>fV (k+1+1*(j:Int))⟩,k+1+1*a.Wheels.length)
theorem aVw : ∀ k a,rM a→k≤(mkA k a).2∧(mkA k a).2≤k+1048577:=fun k a h=>by
 have:=h.2.1
 unfold mkA
 dsimp only
 omega
theorem zY {x:List bO} {k:Int} (h:smL rM x):k≤kD mkA k x∧kD mkA k x≤k+1099512676352:=by
 have:=aP6 (by omega) aVw (k:=k) h.2
 have:=h.1
 omega
theorem aHz {x:List bO} {k:Int} (h0:0≤k) (hk:k≤10000000000000) (h:smL rM x):kI x k=some (kD mkA k x,aCz mkA k x):=by
 unfold kI
 have hl:=h.1
 rw [aTz (f:=mkA) (sm:=rM) (C:=1048577) (B:=12000000000000) (by omega) aVw h.2 h.1 (fun k i ys a a1 a2 a3 a4 a5 => ?_) (fun k i ys a => ?_) h0 (by omega)]
 ·rfl
 ·have hil:=(List.getElem?_eq_some_iff.1 a3).1
  have hw:=a4.2.1
  have e1:atI ys (i:Int)=some a:=by rw [aBb];exact a3
  have e2 : ∀ b:bO,atI (ys.set i b) (i:Int)=some b:=fun b=>by rw [aBb];exact List.getElem?_set_self hil
  have h7:=vO (x:=a.Wheels) (k:=k+1) (by omega) (by omega) hw
  simp only [if_pos (show (i:Int)<(ys.length:Int) by omega),vQ a1 (show k≤1000000000000000000 by omega),e1,e2,Option.bind_some,Int.toNat_natCast,bD (x:=k+1) (by omega) (by omega),h7,List.set_set,bD (x:=(i:Int)+1) (by omega) (by omega),mkA]
  rw [fY (by simp)]
 ·simp only [if_neg (show ¬ (i:Int)<(ys.length:Int) by omega)]
theorem aHd {x:List bO} {k:Int} (h0:0≤k) (hk:k≤10000000000000) (h:smL rM x):mO (aCz mkA k x) k=some (kD mkA k x):=by
 unfold mO
 have hl:=h.1
 rw [aTt (f:=mkA) (sm:=rM) (C:=1048577) (B:=12000000000000) (xs:=x) (by omega) aVw h.2 h.1 (fun k' i a a1 a2 a3 a4 a5 => ?_) (fun k' => ?_) h0 (by omega)]
 ·rfl
 ·have hw:=a4.2.1
  have e1:atI (aCz mkA k x) (i:Int)=some (mkA k' a).1:=by rw [aBb];exact a3
  have h7:=vH (n:=a.Wheels.length) (k:=k'+1) (by omega) (by omega) hw
  simp only [fU,if_pos (show (i:Int)<(x.length:Int) by omega),vQ a1 (show k'≤1000000000000000000 by omega),e1,Option.bind_some,bD (x:=k'+1) (by omega) (by omega),mkA,ne_eq,not_true_eq_false,if_false,h7,Int.not_lt.2 (show 0≤k'+1+1*(a.Wheels.length:Int) by omega),bD (x:=(i:Int)+1) (by omega) (by omega)]
 ·simp only [fU,if_neg (show ¬ (x.length:Int)<(x.length:Int) by omega)]
end Go.Proofs.YtceknlcbfomdhaaGreatDoor
namespace Go.Proofs.YtceknlcbfomdhaaGreatDoor
open Go.RowKit
set_option linter.unusedVariables false
set_option maxRecDepth 100000
set_option maxHeartbeats 2000000
theorem aJ2 {x:bG} {k:Int} (h0:0≤k) (hk:k≤8000000000000) (h:tU x):lI x k=some ((kD mkA (k) x.Arbors)+4*x.Meshes.length,(aCz mkA (k) x.Arbors),((List.range x.Meshes.length).map fun (j:Nat)=>nA ((kD mkA (k) x.Arbors)+4*(j:Int)))):=by
 have g0:=(h.1).1
 have b0:=zY (k:=k) (h.1)
 have g1:=(h.2).1
 unfold lI
 simp only [aHz (x:=x.Arbors) (k:=k) (by omega) (by omega) (h.1),aJ1 (x:=x.Meshes) (k:=kD mkA (k) x.Arbors) (by omega) (by omega) (h.2).1,Option.bind_some,List.length_map,List.length_range,fU,rH]
theorem aJn {x:bG} {k:Int} (h0:0≤k) (hk:k≤8000000000000) (h:tU x):oF ⟨(aCz mkA (k) x.Arbors),((List.range x.Meshes.length).map fun (j:Nat)=>nA ((kD mkA (k) x.Arbors)+4*(j:Int)))⟩ k=some ((kD mkA (k) x.Arbors)+4*x.Meshes.length):=by
 have g0:=(h.1).1
 have b0:=zY (k:=k) (h.1)
 have g1:=(h.2).1
 unfold oF
 simp only [aHd (x:=x.Arbors) (k:=k) (by omega) (by omega) (h.1),aJm (n:=x.Meshes.length) (k:=kD mkA (k) x.Arbors) (by omega) (by omega) (h.2).1,Option.bind_some,List.length_map,List.length_range,fU,Int.not_lt.2 (show 0≤kD mkA (k) x.Arbors by omega),Int.not_lt.2 (show 0≤(kD mkA (k) x.Arbors)+4*x.Meshes.length by omega),if_false]
theorem aEl {x:aW} {k:Int} (h0:0≤k) (hk:k≤6000000000000) (h:eD x):iJ x k=some (((((kD mkA (k) x.Works.Arbors)+4*x.Works.Meshes.length)+3*x.Calendar.Months.length)+3*x.Calendar.Rules.length)+1*x.Cam.length,(aCz mkA (k) x.Works.Arbors),((List.range x.Works.Meshes.length).map fun (j:Nat)=>nA ((kD mkA (k) x.Works.Arbors)+4*(j:Int))),((List.range x.Calendar.Months.length).map fun (j:Nat)=>jV (((kD mkA (k) x.Works.Arbors)+4*x.Works.Meshes.length)+3*(j:Int))),((List.range x.Calendar.Rules.length).map fun (j:Nat)=>eY ((((kD mkA (k) x.Works.Arbors)+4*x.Works.Meshes.length)+3*x.Calendar.Months.length)+3*(j:Int))),((List.range x.Cam.length).map fun (j:Nat)=>fV (((((kD mkA (k) x.Works.Arbors)+4*x.Works.Meshes.length)+3*x.Calendar.Months.length)+3*x.Calendar.Rules.length)+1*(j:Int)))):=by
 have g0:=(h.2.1.1).1
 have b0:=zY (k:=k) (h.2.1.1)
 have g1:=(h.2.1.2).1
 have g2:=(h.2.2.2.2.2.2.2.1.2.1).1
 have g3:=(h.2.2.2.2.2.2.2.1.2.2.1).1
 have g4:=(h.2.2.2.2.2.2.2.2.1).1
 unfold iJ
 simp only [aJ2 (x:=x.Works) (k:=k) (by omega) (by omega) (h.2.1),aEk (x:=x.Calendar) (k:=(kD mkA (k) x.Works.Arbors)+4*x.Works.Meshes.length) (by omega) (by omega) (h.2.2.2.2.2.2.2.1),vO (x:=x.Cam) (k:=(((kD mkA (k) x.Works.Arbors)+4*x.Works.Meshes.length)+3*x.Calendar.Months.length)+3*x.Calendar.Rules.length) (by omega) (by omega) (h.2.2.2.2.2.2.2.2.1).1,Option.bind_some,List.length_map,List.length_range,fU,rH]
theorem aD5 {x:aW} {k:Int} (h0:0≤k) (hk:k≤6000000000000) (h:eD x):kH ⟨x.Name,⟨(aCz mkA (k) x.Works.Arbors),((List.range x.Works.Meshes.length).map fun (j:Nat)=>nA ((kD mkA (k) x.Works.Arbors)+4*(j:Int)))⟩,x.Minute,x.Hour,x.Escape,x.Teeth,x.Beats,⟨x.Calendar.Name,((List.range x.Calendar.Months.length).map fun (j:Nat)=>jV (((kD mkA (k) x.Works.Arbors)+4*x.Works.Meshes.length)+3*(j:Int))),((List.range x.Calendar.Rules.length).map fun (j:Nat)=>eY ((((kD mkA (k) x.Works.Arbors)+4*x.Works.Meshes.length)+3*x.Calendar.Months.length)+3*(j:Int))),x.Calendar.Week⟩,((List.range x.Cam.length).map fun (j:Nat)=>fV (((((kD mkA (k) x.Works.Arbors)+4*x.Works.Meshes.length)+3*x.Calendar.Months.length)+3*x.Calendar.Rules.length)+1*(j:Int))),x.Strike⟩ k=some (((((kD mkA (k) x.Works.Arbors)+4*x.Works.Meshes.length)+3*x.Calendar.Months.length)+3*x.Calendar.Rules.length)+1*x.Cam.length):=by
 have g0:=(h.2.1.1).1
 have b0:=zY (k:=k) (h.2.1.1)
 have g1:=(h.2.1.2).1
 have g2:=(h.2.2.2.2.2.2.2.1.2.1).1
 have g3:=(h.2.2.2.2.2.2.2.1.2.2.1).1
 have g4:=(h.2.2.2.2.2.2.2.2.1).1
 unfold kH
 simp only [aJn (x:=x.Works) (k:=k) (by omega) (by omega) (h.2.1),aD4 (x:=x.Calendar) (k:=(kD mkA (k) x.Works.Arbors)+4*x.Works.Meshes.length) (by omega) (by omega) (h.2.2.2.2.2.2.2.1),vH (n:=x.Cam.length) (k:=(((kD mkA (k) x.Works.Arbors)+4*x.Works.Meshes.length)+3*x.Calendar.Months.length)+3*x.Calendar.Rules.length) (by omega) (by omega) (h.2.2.2.2.2.2.2.2.1).1,Option.bind_some,List.length_map,List.length_range,fU,Int.not_lt.2 (show 0≤(kD mkA (k) x.Works.Arbors)+4*x.Works.Meshes.length by omega),Int.not_lt.2 (show 0≤(((kD mkA (k) x.Works.Arbors)+4*x.Works.Meshes.length)+3*x.Calendar.Months.length)+3*x.Calendar.Rules.length by omega),Int.not_lt.2 (show 0≤((((kD mkA (k) x.Works.Arbors)+4*x.Works.Meshes.length)+3*x.Calendar.Months.length)+3*x.Calendar.Rules.length)+1*x.Cam.length by omega),if_false]
theorem aO6 {x:wN} {k:Int} (h0:0≤k) (hk:k≤4000000000000) (h:aE2 x):oG x k=some ((((((kD mkA (k) x.Movement.Works.Arbors)+4*x.Movement.Works.Meshes.length)+3*x.Movement.Calendar.Months.length)+3*x.Movement.Calendar.Rules.length)+1*x.Movement.Cam.length)+1*x.Dial.Cam.length,(aCz mkA (k) x.Movement.Works.Arbors),((List.range x.Movement.Works.Meshes.length).map fun (j:Nat)=>nA ((kD mkA (k) x.Movement.Works.Arbors)+4*(j:Int))),((List.range x.Movement.Calendar.Months.length).map fun (j:Nat)=>jV (((kD mkA (k) x.Movement.Works.Arbors)+4*x.Movement.Works.Meshes.length)+3*(j:Int))),((List.range x.Movement.Calendar.Rules.length).map fun (j:Nat)=>eY ((((kD mkA (k) x.Movement.Works.Arbors)+4*x.Movement.Works.Meshes.length)+3*x.Movement.Calendar.Months.length)+3*(j:Int))),((List.range x.Movement.Cam.length).map fun (j:Nat)=>fV (((((kD mkA (k) x.Movement.Works.Arbors)+4*x.Movement.Works.Meshes.length)+3*x.Movement.Calendar.Months.length)+3*x.Movement.Calendar.Rules.length)+1*(j:Int))),((List.range x.Dial.Cam.length).map fun (j:Nat)=>fV ((((((kD mkA (k) x.Movement.Works.Arbors)+4*x.Movement.Works.Meshes.length)+3*x.Movement.Calendar.Months.length)+3*x.Movement.Calendar.Rules.length)+1*x.Movement.Cam.length)+1*(j:Int)))):=by
 have g0:=(h.1.2.1.1).1
 have b0:=zY (k:=k) (h.1.2.1.1)
 have g1:=(h.1.2.1.2).1
 have g2:=(h.1.2.2.2.2.2.2.2.1.2.1).1
 have g3:=(h.1.2.2.2.2.2.2.2.1.2.2.1).1
 have g4:=(h.1.2.2.2.2.2.2.2.2.1).1
 have g5:=(h.2.2.2.2.1).1
 unfold oG
 simp only [aEl (x:=x.Movement) (k:=k) (by omega) (by omega) (h.1),aCt (x:=x.Dial) (k:=((((kD mkA (k) x.Movement.Works.Arbors)+4*x.Movement.Works.Meshes.length)+3*x.Movement.Calendar.Months.length)+3*x.Movement.Calendar.Rules.length)+1*x.Movement.Cam.length) (by omega) (by omega) (h.2.2.2.2),Option.bind_some,List.length_map,List.length_range,fU,rH]
theorem aOv {x:wN} {k:Int} (h0:0≤k) (hk:k≤4000000000000) (h:aE2 x):sH ⟨⟨x.Movement.Name,⟨(aCz mkA (k) x.Movement.Works.Arbors),((List.range x.Movement.Works.Meshes.length).map fun (j:Nat)=>nA ((kD mkA (k) x.Movement.Works.Arbors)+4*(j:Int)))⟩,x.Movement.Minute,x.Movement.Hour,x.Movement.Escape,x.Movement.Teeth,x.Movement.Beats,⟨x.Movement.Calendar.Name,((List.range x.Movement.Calendar.Months.length).map fun (j:Nat)=>jV (((kD mkA (k) x.Movement.Works.Arbors)+4*x.Movement.Works.Meshes.length)+3*(j:Int))),((List.range x.Movement.Calendar.Rules.length).map fun (j:Nat)=>eY ((((kD mkA (k) x.Movement.Works.Arbors)+4*x.Movement.Works.Meshes.length)+3*x.Movement.Calendar.Months.length)+3*(j:Int))),x.Movement.Calendar.Week⟩,((List.range x.Movement.Cam.length).map fun (j:Nat)=>fV (((((kD mkA (k) x.Movement.Works.Arbors)+4*x.Movement.Works.Meshes.length)+3*x.Movement.Calendar.Months.length)+3*x.Movement.Calendar.Rules.length)+1*(j:Int))),x.Movement.Strike⟩,x.Start,x.First,x.Clock,⟨((List.range x.Dial.Cam.length).map fun (j:Nat)=>fV ((((((kD mkA (k) x.Movement.Works.Arbors)+4*x.Movement.Works.Meshes.length)+3*x.Movement.Calendar.Months.length)+3*x.Movement.Calendar.Rules.length)+1*x.Movement.Cam.length)+1*(j:Int))),x.Dial.Months,x.Dial.Teeth,x.Dial.At,x.Dial.Day,x.Dial.Week,x.Dial.Weekday⟩⟩ k=some ((((((kD mkA (k) x.Movement.Works.Arbors)+4*x.Movement.Works.Meshes.length)+3*x.Movement.Calendar.Months.length)+3*x.Movement.Calendar.Rules.length)+1*x.Movement.Cam.length)+1*x.Dial.Cam.length):=by
 have g0:=(h.1.2.1.1).1
 have b0:=zY (k:=k) (h.1.2.1.1)
 have g1:=(h.1.2.1.2).1
 have g2:=(h.1.2.2.2.2.2.2.2.1.2.1).1
 have g3:=(h.1.2.2.2.2.2.2.2.1.2.2.1).1
 have g4:=(h.1.2.2.2.2.2.2.2.2.1).1
 have g5:=(h.2.2.2.2.1).1
 unfold sH
 simp only [aD5 (x:=x.Movement) (k:=k) (by omega) (by omega) (h.1),aCk (x:=x.Dial) (k:=((((kD mkA (k) x.Movement.Works.Arbors)+4*x.Movement.Works.Meshes.length)+3*x.Movement.Calendar.Months.length)+3*x.Movement.Calendar.Rules.length)+1*x.Movement.Cam.length) (by omega) (by omega) (h.2.2.2.2),Option.bind_some,List.length_map,List.length_range,fU,Int.not_lt.2 (show 0≤((((kD mkA (k) x.Movement.Works.Arbors)+4*x.Movement.Works.Meshes.length)+3*x.Movement.Calendar.Months.length)+3*x.Movement.Calendar.Rules.length)+1*x.Movement.Cam.length by omega),Int.not_lt.2 (show 0≤(((((kD mkA (k) x.Movement.Works.Arbors)+4*x.Movement.Works.Meshes.length)+3*x.Movement.Calendar.Months.length)+3*x.Movement.Calendar.Rules.length)+1*x.Movement.Cam.length)+1*x.Dial.Cam.length by omega),if_false]
theorem aL9 {x:rR} {k:Int} (h0:0≤k) (hk:k≤2000000000000) (h:aIq x):mQ x k=some ((((((kD mkA (k) x.Sim.Movement.Works.Arbors)+4*x.Sim.Movement.Works.Meshes.length)+3*x.Sim.Movement.Calendar.Months.length)+3*x.Sim.Movement.Calendar.Rules.length)+1*x.Sim.Movement.Cam.length)+1*x.Sim.Dial.Cam.length,(aCz mkA (k) x.Sim.Movement.Works.Arbors),((List.range x.Sim.Movement.Works.Meshes.length).map fun (j:Nat)=>nA ((kD mkA (k) x.Sim.Movement.Works.Arbors)+4*(j:Int))),((List.range x.Sim.Movement.Calendar.Months.length).map fun (j:Nat)=>jV (((kD mkA (k) x.Sim.Movement.Works.Arbors)+4*x.Sim.Movement.Works.Meshes.length)+3*(j:Int))),((List.range x.Sim.Movement.Calendar.Rules.length).map fun (j:Nat)=>eY ((((kD mkA (k) x.Sim.Movement.Works.Arbors)+4*x.Sim.Movement.Works.Meshes.length)+3*x.Sim.Movement.Calendar.Months.length)+3*(j:Int))),((List.range x.Sim.Movement.Cam.length).map fun (j:Nat)=>fV (((((kD mkA (k) x.Sim.Movement.Works.Arbors)+4*x.Sim.Movement.Works.Meshes.length)+3*x.Sim.Movement.Calendar.Months.length)+3*x.Sim.Movement.Calendar.Rules.length)+1*(j:Int))),((List.range x.Sim.Dial.Cam.length).map fun (j:Nat)=>fV ((((((kD mkA (k) x.Sim.Movement.Works.Arbors)+4*x.Sim.Movement.Works.Meshes.length)+3*x.Sim.Movement.Calendar.Months.length)+3*x.Sim.Movement.Calendar.Rules.length)+1*x.Sim.Movement.Cam.length)+1*(j:Int)))):=by
 have g0:=(h.1.2.1.1).1
 have b0:=zY (k:=k) (h.1.2.1.1)
 have g1:=(h.1.2.1.2).1
 have g2:=(h.1.2.2.2.2.2.2.2.1.2.1).1
 have g3:=(h.1.2.2.2.2.2.2.2.1.2.2.1).1
 have g4:=(h.1.2.2.2.2.2.2.2.2.1).1
 have g5:=(h.2.2.2.2.1).1
 unfold mQ
 simp only [aO6 (x:=x.Sim) (k:=k) (by omega) (by omega) (h),Option.bind_some,List.length_map,List.length_range,fU,rH]
theorem aLr {x:rR} {k:Int} (h0:0≤k) (hk:k≤2000000000000) (h:aIq x):nN ⟨⟨⟨x.Sim.Movement.Name,⟨(aCz mkA (k) x.Sim.Movement.Works.Arbors),((List.range x.Sim.Movement.Works.Meshes.length).map fun (j:Nat)=>nA ((kD mkA (k) x.Sim.Movement.Works.Arbors)+4*(j:Int)))⟩,x.Sim.Movement.Minute,x.Sim.Movement.Hour,x.Sim.Movement.Escape,x.Sim.Movement.Teeth,x.Sim.Movement.Beats,⟨x.Sim.Movement.Calendar.Name,((List.range x.Sim.Movement.Calendar.Months.length).map fun (j:Nat)=>jV (((kD mkA (k) x.Sim.Movement.Works.Arbors)+4*x.Sim.Movement.Works.Meshes.length)+3*(j:Int))),((List.range x.Sim.Movement.Calendar.Rules.length).map fun (j:Nat)=>eY ((((kD mkA (k) x.Sim.Movement.Works.Arbors)+4*x.Sim.Movement.Works.Meshes.length)+3*x.Sim.Movement.Calendar.Months.length)+3*(j:Int))),x.Sim.Movement.Calendar.Week⟩,((List.range x.Sim.Movement.Cam.length).map fun (j:Nat)=>fV (((((kD mkA (k) x.Sim.Movement.Works.Arbors)+4*x.Sim.Movement.Works.Meshes.length)+3*x.Sim.Movement.Calendar.Months.length)+3*x.Sim.Movement.Calendar.Rules.length)+1*(j:Int))),x.Sim.Movement.Strike⟩,x.Sim.Start,x.Sim.First,x.Sim.Clock,⟨((List.range x.Sim.Dial.Cam.length).map fun (j:Nat)=>fV ((((((kD mkA (k) x.Sim.Movement.Works.Arbors)+4*x.Sim.Movement.Works.Meshes.length)+3*x.Sim.Movement.Calendar.Months.length)+3*x.Sim.Movement.Calendar.Rules.length)+1*x.Sim.Movement.Cam.length)+1*(j:Int))),x.Sim.Dial.Months,x.Sim.Dial.Teeth,x.Sim.Dial.At,x.Sim.Dial.Day,x.Sim.Dial.Week,x.Sim.Dial.Weekday⟩⟩⟩ k=some ((((((kD mkA (k) x.Sim.Movement.Works.Arbors)+4*x.Sim.Movement.Works.Meshes.length)+3*x.Sim.Movement.Calendar.Months.length)+3*x.Sim.Movement.Calendar.Rules.length)+1*x.Sim.Movement.Cam.length)+1*x.Sim.Dial.Cam.length):=by
 have g0:=(h.1.2.1.1).1
 have b0:=zY (k:=k) (h.1.2.1.1)
 have g1:=(h.1.2.1.2).1
 have g2:=(h.1.2.2.2.2.2.2.2.1.2.1).1
 have g3:=(h.1.2.2.2.2.2.2.2.1.2.2.1).1
 have g4:=(h.1.2.2.2.2.2.2.2.2.1).1
 have g5:=(h.2.2.2.2.1).1
 unfold nN
 simp only [aOv (x:=x.Sim) (k:=k) (by omega) (by omega) (h),Option.bind_some,List.length_map,List.length_range,fU,Int.not_lt.2 (show 0≤(((((kD mkA (k) x.Sim.Movement.Works.Arbors)+4*x.Sim.Movement.Works.Meshes.length)+3*x.Sim.Movement.Calendar.Months.length)+3*x.Sim.Movement.Calendar.Rules.length)+1*x.Sim.Movement.Cam.length)+1*x.Sim.Dial.Cam.length by omega),if_false]
end Go.Proofs.YtceknlcbfomdhaaGreatDoor
namespace Go.Proofs.YtceknlcbfomdhaaGreatDoor
set_option linter.unusedVariables false
theorem aM4 {w:bG} (h:tU w):uV w=some w:=by
 unfold uV
 have hl:=h.1.1
 have hm:=h.2.1
 rw [fY (by simp;omega),wQ (xs:=w.Arbors) (f:=fun a=>[a]) (c:=1) (fun v _=>by simp) (fun i hi ys hy => ?_) (fun ys=>by simp) (by omega)]
 ·simp
 ·have hi':(i:Int)<w.Arbors.length:=by omega
  have hw:=(h.1.2 _ (List.getElem_mem hi)).2.1
  simp only [if_pos hi',dT hi,Option.bind_some,bD (x:=(i:Int)+1) (by omega) (by omega)]
  rw [aK1 hw,Option.bind_some,fY (by simp at hy ⊢;omega)]
theorem aM6 {m:aW} (h:eD m):uY m=some m:=by
 obtain ⟨c1,c2,c3⟩:=smC h
 unfold uY pS
 rw [aM4 h.2.1,Option.bind_some,fY (by simp;omega),fY (by simp;omega),Option.bind_some,aK1 c3,Option.bind_some]
 simp
theorem aIz:aE2 aPx:=by
 unfold aPx aIy aX3 aE2 eD tU kA rA aNd smL smS
 simp [ByteArray.size]
theorem aUf {c:aF} {cam:List Int} (h:cam.length≤1048576) (d:gY) (wd:Int):(aSa c cam d wd).1.Cam.length≤1048576:=by
 unfold aSa
 (repeat' split) <;> first | exact h | simp
end Go.Proofs.YtceknlcbfomdhaaGreatDoor
namespace Go.Proofs.YtceknlcbfomdhaaGreatDoor
set_option linter.unusedVariables false
def aO3 (p q:bX):Prop:=q.Cam=p.Cam∧q.Months=p.Months∧q.Teeth=p.Teeth∧q.Week=p.Week
theorem aO3.refl (p:bX):aO3 p p:=⟨rfl,rfl,rfl,rfl⟩
theorem aO3.trans {p q r:bX} (h:aO3 p q) (k:aO3 q r):aO3 p r:=⟨k.1.trans h.1,k.2.1.trans h.2.1,k.2.2.1.trans h.2.2.1,k.2.2.2.trans h.2.2.2⟩
def aCu (c:aF) (cam:List Int) (y m:Int):Int:=y % ((cam.length:Int) / c.Months.length)*c.Months.length+m-1
theorem aVi {c:aF} {cam:List Int} (ha:aA7 c cam=0):(cam.length:Int) / c.Months.length*c.Months.length=cam.length:=by
 obtain ⟨_,_,h,_⟩:=rU ha
 exact Int.ediv_mul_cancel (Int.dvd_of_emod_eq_zero h)
theorem aH5 {c:aF} {cam:List Int} (ha:aA7 c cam=0) {y m:Int} (h1:1≤m) (h2:m≤c.Months.length):0≤aCu c cam y m∧aCu c cam y m<cam.length∧0≤y % ((cam.length:Int) / c.Months.length)*c.Months.length∧y % ((cam.length:Int) / c.Months.length)*c.Months.length≤cam.length-c.Months.length∧aCu c cam y m % c.Months.length=m-1:=by
 obtain ⟨_,_,h,k1,k2⟩:=rU ha
 have e:=aVi ha
 unfold aCu
 have a1:=Int.emod_nonneg y (show (cam.length:Int) / c.Months.length≠0 by omega)
 have a2:=Int.emod_lt_of_pos y (show 0<(cam.length:Int) / c.Months.length by omega)
 generalize y % ((cam.length:Int) / c.Months.length)=q at *
 generalize (cam.length:Int) / c.Months.length=k at *
 have b1:0≤q*(c.Months.length:Int):=Int.mul_nonneg a1 (by omega)
 have b2:q*(c.Months.length:Int)≤(k-1)*c.Months.length:=Int.mul_le_mul_of_nonneg_right (by omega) (by omega)
 rw [Int.sub_mul,e] at b2
 refine ⟨by omega,by omega,b1,by omega,?_⟩
 rw [show q*(c.Months.length:Int)+m-1=(m-1)+q*(c.Months.length:Int) by omega,Int.add_mul_emod_self_right]
 exact Int.emod_eq_of_lt (by omega) (by omega)
end Go.Proofs.YtceknlcbfomdhaaGreatDoor
namespace Go.Proofs.YtceknlcbfomdhaaGreatDoor
set_option linter.unusedVariables false
end Go.Proofs.YtceknlcbfomdhaaGreatDoor
namespace Go.Proofs.YtceknlcbfomdhaaGreatDoor
set_option linter.unusedVariables false
set_option maxRecDepth 100000
end Go.Proofs.YtceknlcbfomdhaaGreatDoor
namespace Go.Proofs.YtceknlcbfomdhaaGreatDoor
set_option linter.unusedVariables false
set_option maxRecDepth 100000
end Go.Proofs.YtceknlcbfomdhaaGreatDoor
