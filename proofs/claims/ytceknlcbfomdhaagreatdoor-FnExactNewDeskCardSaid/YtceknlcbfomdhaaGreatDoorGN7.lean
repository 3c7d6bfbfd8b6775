/- Texts of this claim, one behind the other (merged by a program of mine). -/
import Derived.Test.YtceknlcbfomdhaaGreatDoorProg
import Derived.Test.YtceknlcbfomdhaaGreatDoorGN6
set_option linter.unusedSimpArgs false
set_option linter.unusedVariables false
namespace Go.Proofs.YtceknlcbfomdhaaGreatDoor
open Go.RowKit
set_option linter.unusedVariables false
set_option maxRecDepth 100000
set_option maxHeartbeats 2000000
theorem aEd {p0:List bQ} {r:Int} (h0:mY p0=some r):FnC Tryz.prog 184 [] [dL cM p0] [] (dI r):=by
 refine fi 21 tok Tryz.func184 ?_
 unfold mY at h0
 refine sq [0] (pa (nx (sq [0] ?_)))
 refine pa (nx ?_)
 obtain ⟨v5,h1,h0⟩:=bnd h0
 refine bI ⟨aC ((fun _ => .dead)) 3 (dI v5),lks [.no, .no, .no]⟩ ?_ ?_
 refine sq [0,1,2] (pm ?_)
 refine rP rfl (aJ tok rfl rfl rfl) (pm (nx (aE ?_)))
 refine aZ (fun s3=>⟨aC (aC (aC (aC ((fun _ => .dead)) 3 (dI s3.1)) 6 (dL cM p0)) 7 (dI (p0.length:Int))) 8 (dI s3.2),lks [.no, .no, .no]⟩) h1 ?_ (fun s3 y h2 => ?_)
 exact wk [0,1,2]
 refine sq [0] (rP rfl (bK rfl rfl) (nx (aB ?_)))
 refine bC h2 rfl (fun hc h2 => ?_) (fun hc h2 => ?_)
 refine sk (aB (aE (sq [0,1,2,3] ?_)))
 obtain ⟨v4,hv4,h2⟩:=bnd h2
 refine rP rfl (cE tok hv4 rfl rfl rfl rfl rfl rfl) (rP rfl (bJ tok rfl rfl rfl (by repeat (first | exact gV.z _ | apply gV.t))) (al 3 [z0,z0] tok ?_))
 refine bst tok (nx (sr [0,1,2,3,4,5,6,7] ?_))
 refine pm ?_
 refine fa tok ?_
 refine ld tok ?_
 refine fa tok ?_
 refine ld tok ?_
 refine rP rfl (bH rfl rfl) (rP rfl (bH rfl rfl) (pa (aY ?_)))
 refine bB (aG (sr [0,1] (rP rfl (bH rfl rfl) (pm (aY ?_)))))
 refine bS ?_
 cases h2
 refine ⟨_,rfl,?_⟩
 exact wk [0,1,2]
 refine bF (bT ?_)
 cases h2
 refine bU ⟨_,rfl,fun e => ?_⟩
 subst e
 refine aQ (aG ?_)
 exact wk [0,1,2]
 refine sq [0,1] (pm ?_)
 refine pa (nx (aA ?_))
 cases h0
 exact r0t 2 rfl
theorem aJb {p0:List Int} {r:Int} (h0:nG p0=some r):FnC Tryz.prog 187 [] [dL cI p0] [] (dI r):=by
 refine fi 18 tok Tryz.func187 ?_
 unfold nG at h0
 refine sq [0] (pa (nx (sq [0] ?_)))
 refine pa (nx ?_)
 obtain ⟨v5x,h1,h0⟩:=bnd h0
 refine dH v5x (fun v5=>⟨aC ((fun _ => .dead)) 3 (z0),lks [.no, .no, .no]⟩) ?_ ?_
 refine sq [0,1,2] (pm ?_)
 refine rP rfl (aJ tok rfl rfl rfl) (pm (nx (aE ?_)))
 refine aZ (fun s3=>⟨aC (aC (aC (aC ((fun _ => .dead)) 3 (z0)) 6 (dL cI p0)) 7 (dI (p0.length:Int))) 8 (dI s3),lks [.no, .no, .no]⟩) h1 ?_ (fun s3 y h2 => ?_)
 exact wk [0,1,2]
 refine sq [0] (rP rfl (bK rfl rfl) (nx (aB ?_)))
 refine bC h2 rfl (fun hc h2 => ?_) (fun hc h2 => ?_)
 refine sk (aB (aE (sq [0,1,2] ?_)))
 obtain ⟨v4,hv4,h2⟩:=bnd h2
 refine rP rfl (cE tok hv4 rfl rfl rfl rfl rfl rfl) (lr tok ?_)
 refine pa (nx (sq [0,1,2] ?_))
 refine pm ?_
 refine pm ?_
 refine rP rfl (cQ rfl rfl) (nx ?_)
 refine bC h2 rfl (fun hc h2 => ?_) (fun hc h2 => ?_)
 refine sq [0,1] (pm ?_)
 refine pa (nx (aA ?_))
 refine aX (aI ?_)
 cases h2
 refine dM ⟨_,rfl,fun e => ?_⟩
 subst e
 refine aX ?_
 replace h0:=eT h0
 refine aI ?_
 cases h0
 exact r0t 2 rfl
 refine cX (bB (aG (sr [0,1] (rP rfl (bH rfl rfl) (pm (aY ?_))))))
 refine bS ?_
 cases h2
 refine ⟨_,rfl,?_⟩
 exact wk [0,1,2]
 refine bF (bT ?_)
 cases h2
 refine bU ⟨_,rfl,fun e => ?_⟩
 subst e
 refine aQ (aG ?_)
 refine ⟨_,rfl,?_⟩
 exact wk [0,1,2]
 rintro v5 rfl
 replace h0:=gS h0
 refine sq [0,1] (pm ?_)
 refine pa (nx (aA ?_))
 cases h0
 exact r0t 2 rfl
theorem zH {p0:bQ} {p1:bQ} {r:Int} (h0:eX p0 p1=some r):FnC Tryz.prog 186 [] [.agg [dI p0.Driver,(dI p0.Driven)], .agg [dI p1.Driver,(dI p1.Driven)]] [] (dI r):=by
 refine fi 17 tok Tryz.func186 ?_
 unfold eX at h0
 refine sq [0,1,2] (bxx 3 ?_)
 refine bxx 4 ?_
 refine pa (nx (aB ?_))
 refine aH (is:=[0,1,2,3,5,6,7,8,4,9,10,11,12]) [0,1,0,4,15,0,32,0,128,511,1023,2047,4095] follows (by kernel_rfl) (tfa tok ?_)
 refine tld tok ?_
 refine tfa tok ?_
 refine tld tok ?_
 refine tfa tok ?_
 refine tld tok ?_
 refine tfa tok ?_
 refine tld tok ?_
 obtain ⟨v1,hv1,h0⟩:=bnd h0
 refine jW rfl w0 rfl (cV 6 (gM hv1) rfl rfl rfl) ?_
 obtain ⟨v2,hv2,h0⟩:=bnd h0
 refine jW rfl w0 rfl (cV 6 (gM hv2) rfl rfl rfl) (aEt rfl w0 rfl rfl (fun hx hk=>zX 5 tok cI [v1,v2] rfl rfl rfl (by repeat (first | exact Els.nil _ | apply Els.cons (cs:=[.d _]) rfl rfl rfl | apply Els.cons (cs:=_ :: _) rfl rfl rfl)) rfl rfl rfl (by repeat (first | exact cR.nil | (apply cR.cons; (repeat (first | exact eZ.nil | apply eZ.cons))))) rfl hk) ?_)
 obtain ⟨v3,hv3,h0⟩:=bnd h0
 refine jW rfl w0 rfl (cV 6 (aJb hv3) rfl rfl rfl) (tpa ?_)
 refine bN ?_
 refine ⟨by kernel_rfl,?_⟩
 refine aG (aA ?_)
 cases h0
 exact r0t 4 rfl
theorem fL {p0:List bQ} {p1:List bQ} {r:Int} (h0:bL p0 p1=some r):FnC Tryz.prog 185 [] [dL cM p0,(dL cM p1), .fn 186 []] [] (dI r):=by
 refine fi 39 tok Tryz.func185 ?_
 unfold bL at h0
 refine sq [0] (pa (nx ?_))
 obtain ⟨v9x,h1,h0⟩:=bnd h0
 refine dH v9x (fun v9=>⟨aC (aC ((fun _ => .dead)) 0 (dL cM p0)) 1 (dL cM p1),lks [.no, .no, .no]⟩) ?_ ?_
 refine sq [0,1,2] (pm ?_)
 refine rP rfl (aJ tok rfl rfl rfl) (pm (nx (aE ?_)))
 refine aZ (fun s5=>⟨aC (aC (aC (aC (aC (aC ((fun _ => .dead)) 0 (dL cM p0)) 1 (dL cM p1)) 2 (.fn 186 [])) 11 (dL cM p0)) 12 (dI (p0.length:Int))) 13 (dI s5),lks [.no, .no, .no]⟩) h1 ?_ (fun s5 y h2 => ?_)
 exact wk [0,1,2]
 refine sq [0] (rP rfl (bK rfl rfl) (nx (aB ?_)))
 refine bC h2 rfl (fun hc h2 => ?_) (fun hc h2 => ?_)
 refine sk (aB (aE (sq [0,1,2,3,4,5] (pm ?_))))
 obtain ⟨v6,hv6,h2⟩:=bnd h2
 refine rP rfl (cE tok hv6 rfl rfl rfl rfl rfl rfl) (rP rfl (bJ tok rfl rfl rfl (by repeat (first | exact gV.z _ | apply gV.t))) (al 3 [z0,z0] tok ?_))
 refine pa ?_
 refine bst tok (nx (aB (sq [0,1,2,3] ?_)))
 refine pm ?_
 refine pm ?_
 refine rP rfl (aJ tok rfl rfl rfl) (rP rfl (tH rfl rfl) (nx ?_))
 refine bC h2 rfl (fun hc h2 => ?_) (fun hc h2 => ?_)
 refine sq [0] (pa (nx (aA (aI ?_))))
 refine aX (aI ?_)
 cases h2
 refine dM ⟨_,rfl,fun e => ?_⟩
 subst e
 refine aX ?_
 replace h0:=eT h0
 refine aI ?_
 cases h0
 exact r0t 6 rfl
 refine sk (sq [0,1,2,3,4,5] (pm ?_))
 refine pm ?_
 obtain ⟨v7,hv7,h2⟩:=bnd h2
 refine rP rfl (cE tok hv7 rfl rfl rfl rfl rfl rfl) (rP rfl (bJ tok rfl rfl rfl (by repeat (first | exact gV.z _ | apply gV.t))) (al 4 [z0,z0] tok ?_))
 refine bst tok (nx (sq [0,1,2,3,4] ?_))
 refine rP rfl (aL (r := .fn _ _) rfl) (rL rfl (bA tok rfl rfl rfl rfl) (rL rfl (bA tok rfl rfl rfl rfl) ?_))
 obtain ⟨v8,hv8,h2⟩:=bnd h2
 refine rS rfl (aM 5 (zH hv8) rfl rfl rfl) (pa (nx (sq [0,1] ?_)))
 refine pm ?_
 refine rP rfl (cQ rfl rfl) (nx ?_)
 refine bC h2 rfl (fun hc h2 => ?_) (fun hc h2 => ?_)
 refine sq [0,1] (pm ?_)
 refine pa (nx (aA ?_))
 refine aX (aI ?_)
 cases h2
 refine dM ⟨_,rfl,fun e => ?_⟩
 subst e
 refine aX ?_
 replace h0:=eT h0
 refine aI ?_
 cases h0
 exact r0t 6 rfl
 refine cX (bB (aG (sr [0,1] (rP rfl (bH rfl rfl) (pm (aY ?_))))))
 refine bS ?_
 cases h2
 refine ⟨_,rfl,?_⟩
 exact wk [0,1,2]
 refine bF (bT ?_)
 cases h2
 refine bU ⟨_,rfl,fun e => ?_⟩
 subst e
 refine aQ (aG ?_)
 refine ⟨_,rfl,?_⟩
 exact wk [0,1,2]
 rintro v9 rfl
 replace h0:=gS h0
 refine aB (sq [0,1,2,3,4] (pm ?_))
 refine rP rfl (aJ tok rfl rfl rfl) (pm ?_)
 refine rP rfl (aJ tok rfl rfl rfl) (rP rfl (bK rfl rfl) (nx ?_))
 refine bC h0 rfl (fun hc h0 => ?_) (fun hc h0 => ?_)
 refine sq [0] (pa (nx (aA (aI ?_))))
 cases h0
 exact r0t 6 rfl
 refine sk (sq [0] (pa (nx (aA ?_))))
 cases h0
 exact r0t 6 rfl
theorem aBh {p0:List bQ} {p1:List bQ} {r:Int} (h0:jE p0 p1=some r):FnC Tryz.prog 139 [] [dL cM p0,(dL cM p1)] [] (dI r):=by
 refine fi 17 tok Tryz.func139 ?_
 unfold jE at h0
 refine sq [0] (pa (nx (aB (sq [0,1,2,3,4,5] ?_))))
 refine pm ?_
 obtain ⟨v1,hv1,h0⟩:=bnd h0
 refine rS rfl (aM 3 (aEd hv1) rfl rfl rfl) (pm ?_)
 obtain ⟨v2,hv2,h0⟩:=bnd h0
 refine rS rfl (aM 3 (aEd hv2) rfl rfl rfl) ?_
 obtain ⟨v3,hv3,h0⟩:=bnd h0
 refine rS rfl (aM 3 (gM hv3) rfl rfl rfl) (pa (nx (sq [0,1] ?_)))
 refine pm ?_
 refine rP rfl (cQ rfl rfl) (nx ?_)
 refine bC h0 rfl (fun hc h0 => ?_) (fun hc h0 => ?_)
 refine sq [0,1] (pm ?_)
 refine pa (nx (aA (aI ?_)))
 cases h0
 exact r0t 4 rfl
 refine sk (sq [0,1,2,3] (pm ?_))
 refine pm ?_
 obtain ⟨v4,hv4,h0⟩:=bnd h0
 refine rS rfl (aM 3 (fL hv4) rfl rfl rfl) (pa (nx (aA ?_)))
 cases h0
 exact r0t 4 rfl
theorem aHl {p0:aD} {p1:iN} {r:List bQ} (h0:lR p0 p1=some r):FnC Tryz.prog 77 [] [.agg [dI p0.Num,(dI p0.Den)], .agg [dI p1.LowDriver,(dI p1.HighDriver),(dI p1.LowDriven),(dI p1.HighDriven),(dI p1.Stages)]] [] (dL cM r):=by
 refine fi 143 tok Tryz.func77 ?_
 unfold lR at h0
 refine sq [0,1,2] (bxx 3 ?_)
 refine bxx 4 ?_
 refine pa (nx (sq [0,1,2,3,4,5,6,7,8] ?_))
 refine fa tok ?_
 refine ld tok ?_
 refine fa tok ?_
 refine ld tok ?_
 refine fa tok ?_
 refine ld tok ?_
 obtain ⟨v1,hv1,h0⟩:=bnd h0
 refine rS rfl (aM 5 (aGh hv1) rfl rfl rfl) (al 5 [zl, .d (.v (.map none))] tok ?_)
 refine bst tok (nx (sq [0,1,2,3,4,5,6,7,8] ?_))
 refine fa tok ?_
 refine ld tok ?_
 refine fa tok ?_
 refine ld tok ?_
 refine fa tok ?_
 refine ld tok ?_
 obtain ⟨v2,hv2,h0⟩:=bnd h0
 refine rS rfl (aM 6 (aGh hv2) rfl rfl rfl) (al 6 [zl, .d (.v (.map none))] tok ?_)
 refine bst tok (nx (sq [0] ?_))
 refine pa (nx ?_)
 obtain ⟨v61,h1,h0⟩:=bnd h0
 refine bI ⟨aC (aC (aC ((fun _ => .dead)) 5 (.ptr 3 0 1 0 0)) 6 (.ptr 4 0 1 0 0)) 7 (.own 5 0 (v61).length),lks [.no, .no, .no, .live [⟨174,2, .av [[dL cI v1.products, .d (.mp v1.lists)]]⟩], .live [⟨174,2, .av [[dL cI v2.products, .d (.mp v2.lists)]]⟩], .live [⟨181,3, .data (List.map qF v61)⟩]]⟩ ?_ ?_
 refine sq [0,1,2,3] (fa tok ?_)
 refine ld tok ?_
 refine rP rfl (aJ tok rfl rfl rfl) (pm (nx (aE ?_)))
 refine aZ (fun s31=>⟨aC (aC (aC (aC (aC (aC (aC ((fun _ => .dead)) 2 (.ptr 3 0 1 0 0)) 5 (.ptr 4 0 1 0 0)) 6 (.ptr 5 0 1 0 0)) 7 (.own 6 0 (s31.2).length)) 37 (dL cI v1.products)) 38 (dI (v1.products.length:Int))) 39 (dI s31.1),lks [.no, .no, .no, .live [⟨75,2, .av [[dI p0.Num,(dI p0.Den)]]⟩], .live [⟨174,2, .av [[dL cI v1.products, .d (.mp v1.lists)]]⟩], .live [⟨174,2, .av [[dL cI v2.products, .d (.mp v2.lists)]]⟩], .live [⟨181,3, .data (List.map qF s31.2)⟩]]⟩) h1 ?_ (fun s31 y h2 => ?_)
 refine mG.trans_ (cW 7 rfl 181 3 (d:=7) rfl) ?_
 exact wk [0,1,2,3,5,6,7]
 refine sq [0] (rP rfl (bK rfl rfl) (nx (aB ?_)))
 refine bC h2 rfl (fun hc h2 => ?_) (fun hc h2 => ?_)
 refine sk ?_
 obtain ⟨v60,h3,h2⟩:=bnd h2
 refine bI ⟨aC (aC (aC (aC (aC (aC (aC ((fun _ => .dead)) 2 (.ptr 3 0 1 0 0)) 5 (.ptr 4 0 1 0 0)) 6 (.ptr 5 0 1 0 0)) 7 (.own 6 0 (v60).length)) 37 (dL cI v1.products)) 38 (dI (v1.products.length:Int))) 39 (dI s31.1),lks [.no, .no, .no, .live [⟨75,2, .av [[dI p0.Num,(dI p0.Den)]]⟩], .live [⟨174,2, .av [[dL cI v1.products, .d (.mp v1.lists)]]⟩], .live [⟨174,2, .av [[dL cI v2.products, .d (.mp v2.lists)]]⟩], .live [⟨181,3, .data (List.map qF v60)⟩]]⟩ ?_ ?_
 refine aE (sq [0,1,2] ?_)
 obtain ⟨v32,hv32,h3⟩:=bnd h3
 refine rP rfl (cE tok hv32 rfl rfl rfl rfl rfl rfl) (lr tok ?_)
 refine pa (nx (sq [0,1,2,3,4,5,6,7,8,9] ?_))
 refine fa tok ?_
 refine ld tok ?_
 refine pm ?_
 refine rP rfl (aMq rfl) ?_
 obtain ⟨v33,hv33,h3⟩:=bnd h3
 refine rS rfl (eW 7 (fO hv33) rfl rfl) (rP rfl (aL (r := .tup _) rfl) (rP rfl (aN rfl rfl) (rP rfl (aN rfl rfl) (pa ?_))))
 refine pa (nx (sq [0,1,2,3] ?_))
 refine pm ?_
 refine rP rfl (gX rfl rfl) (rP rfl (aUz rfl rfl) (pa (nx (aE ?_))))
 refine aZ (fun s47=>⟨aC (aC (aC (aC (aC (aC (aC (aC (aC (aC ((fun _ => .dead)) 2 (.ptr 3 0 1 0 0)) 5 (.ptr 4 0 1 0 0)) 6 (.ptr 5 0 1 0 0)) 7 (.own 6 0 (s47.2).length)) 9 (dI v32)) 10 (dI v33.1)) 12 (dI s47.1)) 37 (dL cI v1.products)) 38 (dI (v1.products.length:Int))) 39 (dI s31.1),lks [.no, .no, .no, .live [⟨75,2, .av [[dI p0.Num,(dI p0.Den)]]⟩], .live [⟨174,2, .av [[dL cI v1.products, .d (.mp v1.lists)]]⟩], .live [⟨174,2, .av [[dL cI v2.products, .d (.mp v2.lists)]]⟩], .live [⟨181,3, .data (List.map qF s47.2)⟩]]⟩) h3 ?_ (fun s47 y h4 => ?_)
 exact wk [0,1,2,3,4,5,6]
 refine aB ?_
 obtain ⟨v48,h5,h4⟩:=bnd h4
 refine bI ⟨aC (aC (aC (aC (aC (aC (aC (aC (aC (aC (aC ((fun _ => .dead)) 2 (.ptr 3 0 1 0 0)) 5 (.ptr 4 0 1 0 0)) 6 (.ptr 5 0 1 0 0)) 7 (.own 6 0 (s47.2).length)) 9 (dI v32)) 10 (dI v33.1)) 12 (dI s47.1)) 37 (dL cI v1.products)) 38 (dI (v1.products.length:Int))) 39 (dI s31.1)) 63 (dB v48),lks [.no, .no, .no, .live [⟨75,2, .av [[dI p0.Num,(dI p0.Den)]]⟩], .live [⟨174,2, .av [[dL cI v1.products, .d (.mp v1.lists)]]⟩], .live [⟨174,2, .av [[dL cI v2.products, .d (.mp v2.lists)]]⟩], .live [⟨181,3, .data (List.map qF s47.2)⟩]]⟩ ?_ ?_
 refine sr [0,1,2,3,4,5,6,7,8,9] (pm ?_)
 refine pm ?_
 refine rP rfl (gW rfl rfl) (pm ?_)
 refine iT (u:=57) h5 rfl (fun hc h5 => ?_) (fun hc h5 => ?_)
 refine pm1 ?_
 refine fa1 tok ?_
 refine ld1 tok ?_
 refine rp rfl (w1 rfl rfl rfl) rfl (aJ tok rfl rfl rfl) (rp rfl (w1 rfl rfl rfl) rfl (bK rfl rfl) (pkt (nx ?_)))
 cases h5
 exact wk [0,1,2,3,4,5,6]
 iterate 5 refine k1 ?_
 refine pkf (nx ?_)
 cases h5
 exact wk [0,1,2,3,4,5,6]
 refine bM h4 rfl (fun hc h4 => ?_) (fun hc h4 => ?_)
 refine sk ?_
 obtain ⟨v59,h5,h4⟩:=bnd h4
 refine bI ⟨aC (aC (aC (aC (aC (aC (aC (aC (aC (aC ((fun _ => .dead)) 2 (.ptr 3 0 1 0 0)) 5 (.ptr 4 0 1 0 0)) 6 (.ptr 5 0 1 0 0)) 7 (.own 6 0 (v59).length)) 9 (dI v32)) 10 (dI v33.1)) 12 (dI s47.1)) 37 (dL cI v1.products)) 38 (dI (v1.products.length:Int))) 39 (dI s31.1),lks [.no, .no, .no, .live [⟨75,2, .av [[dI p0.Num,(dI p0.Den)]]⟩], .live [⟨174,2, .av [[dL cI v1.products, .d (.mp v1.lists)]]⟩], .live [⟨174,2, .av [[dL cI v2.products, .d (.mp v2.lists)]]⟩], .live [⟨181,3, .data (List.map qF v59)⟩]]⟩ ?_ ?_
 refine aE (aB (aH (is:=[0,1,2,3,4,5,6,7,8,9]) [0,0,2,0,14,30,0,127,0,511] follows (by kernel_rfl) (tpm ?_)))
 refine tfa tok ?_
 refine tld tok ?_
 refine tpm ?_
 obtain ⟨v49,hv49,h5⟩:=bnd h5
 refine tP rfl (cE tok hv49 rfl rfl rfl rfl rfl rfl) (tlr tok ?_)
 refine cZ rfl w0 rfl (bA tok rfl rfl rfl rfl) rfl rfl rfl ?_
 obtain ⟨v50,hv50,h5⟩:=bnd h5
 refine jW rfl w0 rfl (cV 8 (aOz hv50) rfl rfl rfl) (aEt rfl w0 rfl rfl (fun hx hk=>oU 7 (cs:=[z0,z0,z0]) tok rfl rfl hk) (oN rfl w0 (jA (cs:=_ :: _) tok rfl rfl rfl rfl rfl rfl rfl) (bN ?_)))
 refine ⟨by kernel_rfl,?_⟩
 refine aG ?_
 obtain ⟨v54,h6,h5⟩:=bnd h5
 refine bI ⟨aC (aC (aC (aC (aC (aC (aC (aC (aC (aC (aC ((fun _ => .dead)) 2 (.ptr 3 0 1 0 0)) 5 (.ptr 4 0 1 0 0)) 6 (.ptr 5 0 1 0 0)) 7 (.own 6 0 (v54).length)) 9 (dI v32)) 10 (dI v33.1)) 12 (dI s47.1)) 13 (.ptr 7 0 1 0 0)) 37 (dL cI v1.products)) 38 (dI (v1.products.length:Int))) 39 (dI s31.1),lks [.no, .no, .no, .live [⟨75,2, .av [[dI p0.Num,(dI p0.Den)]]⟩], .live [⟨174,2, .av [[dL cI v1.products, .d (.mp v1.lists)]]⟩], .live [⟨174,2, .av [[dL cI v2.products, .d (.mp v2.lists)]]⟩], .live [⟨181,3, .data (List.map qF v54)⟩], .live [⟨181,3, .av [[dI v50.p,(dI v50.q),(dI v50.far)]]⟩]]⟩ ?_ ?_
 obtain ⟨v53,h7,h6⟩:=bnd h6
 refine bI ⟨aC (aC (aC (aC (aC (aC (aC (aC (aC (aC (aC (aC ((fun _ => .dead)) 2 (.ptr 3 0 1 0 0)) 5 (.ptr 4 0 1 0 0)) 6 (.ptr 5 0 1 0 0)) 7 (.own 6 0 (s47.2).length)) 9 (dI v32)) 10 (dI v33.1)) 12 (dI s47.1)) 13 (.ptr 7 0 1 0 0)) 37 (dL cI v1.products)) 38 (dI (v1.products.length:Int))) 39 (dI s31.1)) 84 (dB v53),lks [.no, .no, .no, .live [⟨75,2, .av [[dI p0.Num,(dI p0.Den)]]⟩], .live [⟨174,2, .av [[dL cI v1.products, .d (.mp v1.lists)]]⟩], .live [⟨174,2, .av [[dL cI v2.products, .d (.mp v2.lists)]]⟩], .live [⟨181,3, .data (List.map qF s47.2)⟩], .live [⟨181,3, .av [[dI v50.p,(dI v50.q),(dI v50.far)]]⟩]]⟩ ?_ ?_
 refine aH (is:=[0,1,2,3,4,5,6,7,8,9,10]) [0,1,3,7,15,15,47,111,255,511,1023] follows (by kernel_rfl) (tP rfl (aL (r := .own _ _ _) rfl) (cZ rfl w0 rfl (mF tok rfl rfl rfl rfl rfl) rfl rfl rfl (tP rfl (gT rfl rfl) (tpm ?_))))
 refine aKh (u:=77) h7 rfl (fun hc h7 => ?_) (fun hc h7 => ?_)
 refine cZ rfl (w1 rfl rfl rfl) rfl (bA tok rfl rfl rfl rfl) rfl rfl rfl (rF rfl (w1 rfl rfl rfl) rfl (aL (r := .own _ _ _) rfl) ?_)
 obtain ⟨v51,hv51,h7⟩:=bnd h7
 refine cZ rfl (w1 rfl rfl rfl) rfl (fB tok hv51 rfl rfl rfl rfl rfl rfl rfl rfl) rfl rfl rfl (cZ rfl (w1 rfl rfl rfl) rfl (xH tok (dP hv51).2.1 rfl rfl rfl rfl rfl) rfl rfl rfl ?_)
 obtain ⟨v52,hv52,h7⟩:=bnd h7
 refine jW rfl (w1 rfl rfl rfl) rfl (cV 8 (yV hv52) rfl rfl rfl) (rF rfl (w1 rfl rfl rfl) rfl (bK rfl rfl) (aBv ?_))
 refine bN ?_
 refine ⟨by kernel_rfl,?_⟩
 refine aG ?_
 cases h7
 exact wk [0,1,2,3,4,5,6,7]
 iterate 6 refine k2 ?_
 refine aBu ?_
 refine bN ?_
 refine ⟨by kernel_rfl,?_⟩
 refine aG ?_
 cases h7
 exact wk [0,1,2,3,4,5,6,7]
 refine bM h6 rfl (fun hc h6 => ?_) (fun hc h6 => ?_)
 refine sr [0] (pa (nx ?_))
 cases h6
 refine mG.trans_ (cW 8 rfl 181 3 (d:=7) rfl) ?_
 exact wk [0,1,2,3,4,5,8,7]
 refine sk ?_
 cases h6
 exact wk [0,1,2,3,4,5,6,7]
 obtain ⟨v57,h6,h5⟩:=bnd h5
 refine bI ⟨aC (aC (aC (aC (aC (aC (aC (aC (aC (aC (aC (aC ((fun _ => .dead)) 2 (.ptr 3 0 1 0 0)) 5 (.ptr 4 0 1 0 0)) 6 (.ptr 5 0 1 0 0)) 7 (.own 6 0 (v54).length)) 9 (dI v32)) 10 (dI v33.1)) 12 (dI s47.1)) 13 (.ptr 7 0 1 0 0)) 37 (dL cI v1.products)) 38 (dI (v1.products.length:Int))) 39 (dI s31.1)) 95 (dB v57),lks [.no, .no, .no, .live [⟨75,2, .av [[dI p0.Num,(dI p0.Den)]]⟩], .live [⟨174,2, .av [[dL cI v1.products, .d (.mp v1.lists)]]⟩], .live [⟨174,2, .av [[dL cI v2.products, .d (.mp v2.lists)]]⟩], .live [⟨181,3, .data (List.map qF v54)⟩], .live [⟨181,3, .av [[dI v50.p,(dI v50.q),(dI v50.far)]]⟩]]⟩ ?_ ?_
 refine aH (is:=[0,1,2,3,4,5,6,7,8,9,10]) [0,1,3,7,15,15,47,111,255,511,1023] follows (by kernel_rfl) (tP rfl (aL (r := .own _ _ _) rfl) (cZ rfl w0 rfl (mF tok rfl rfl rfl rfl rfl) rfl rfl rfl (tP rfl (iX rfl rfl) (tpm ?_))))
 refine aKh (u:=88) h6 rfl (fun hc h6 => ?_) (fun hc h6 => ?_)
 iterate 6 refine k2 ?_
 refine aBv ?_
 refine bN ?_
 refine ⟨by kernel_rfl,?_⟩
 refine aG ?_
 cases h6
 exact wk [0,1,2,3,4,5,6,7]
 refine cZ rfl (w1 rfl rfl rfl) rfl (bA tok rfl rfl rfl rfl) rfl rfl rfl (rF rfl (w1 rfl rfl rfl) rfl (aL (r := .own _ _ _) rfl) ?_)
 obtain ⟨v55,hv55,h6⟩:=bnd h6
 refine cZ rfl (w1 rfl rfl rfl) rfl (fB tok hv55 rfl rfl rfl rfl rfl rfl rfl rfl) rfl rfl rfl (cZ rfl (w1 rfl rfl rfl) rfl (xH tok (dP hv55).2.1 rfl rfl rfl rfl rfl) rfl rfl rfl ?_)
 obtain ⟨v56,hv56,h6⟩:=bnd h6
 refine jW rfl (w1 rfl rfl rfl) rfl (cV 8 (yV hv56) rfl rfl rfl) (rF rfl (w1 rfl rfl rfl) rfl (iX rfl rfl) (aBu ?_))
 refine bN ?_
 refine ⟨by kernel_rfl,?_⟩
 refine aG ?_
 cases h6
 exact wk [0,1,2,3,4,5,6,7]
 refine bM h5 rfl (fun hc h5 => ?_) (fun hc h5 => ?_)
 refine sr [0,1,2,3,4] (rP rfl (aL (r := .own _ _ _) rfl) (rL rfl (bA tok rfl rfl rfl rfl) (rS rfl (iZ tok qF [v50] rfl rfl rfl (by repeat (first | exact Els.nil _ | apply Els.cons (cs:=[.d _]) rfl rfl rfl | apply Els.cons (cs:=_ :: _) rfl rfl rfl)) rfl rfl rfl (by repeat (first | exact cR.nil | (apply cR.cons; (repeat (first | exact eZ.nil | apply eZ.cons))))) rfl) ?_)))
 obtain ⟨hq58,h5⟩:=cO h5
 refine rw1 rfl w0 rfl (eU tok hq58 rfl rfl rfl rfl rfl rfl rfl rfl rfl rfl rfl rfl (fun _=>rfl)) (rP rfl (aR (r := .own _ _ _) rfl) (aY (bB (aG ?_))))
 cases h5
 exact wk [0,1,2,3,4,5,6]
 refine cX (bB (aG ?_))
 cases h5
 exact wk [0,1,2,3,4,5,6]
 refine sr [0,1,2] (pm ?_)
 refine rP rfl (bH rfl rfl) (pa (aY ?_))
 refine bS ?_
 cases h4
 refine ⟨_,rfl,?_⟩
 exact wk [0,1,2,3,4,5,6]
 refine bF (bT ?_)
 cases h4
 refine bU ⟨_,rfl,fun e => ?_⟩
 subst e
 refine aQ ?_
 refine bB (aG ?_)
 exact wk [0,1,2,3,4,5,6]
 refine sr [0,1] (rP rfl (bH rfl rfl) (pm (aY ?_)))
 refine bS ?_
 cases h2
 refine ⟨_,rfl,?_⟩
 exact wk [0,1,2,3,4,5,6]
 refine bF (bT ?_)
 cases h2
 refine bU ⟨_,rfl,fun e => ?_⟩
 subst e
 refine aQ (aG ?_)
 exact wk [0,1,2,4,5,6]
 refine sq [0] (pa ?_)
 refine oK (aWo cM (d:=14) rfl) (nx ?_)
 obtain ⟨v142,h1,h0⟩:=bnd h0
 refine bI ⟨aC ((fun _ => .dead)) 14 (aMd cM v142),lks [.no, .no, .no]⟩ ?_ ?_
 refine sq [0,1,2] (rP rfl (aL (r := .own _ _ _) rfl) (rL rfl (mF tok rfl rfl rfl rfl rfl) (pm (nx (aE ?_)))))
 refine aZ (fun s102=>⟨aC (aC (aC (aC (aC (aC ((fun _ => .dead)) 5 (.ptr 3 0 1 0 0)) 6 (.ptr 4 0 1 0 0)) 14 (aMd cM s102.1)) 101 (.own 5 0 (v61).length)) 102 (dI (v61.length:Int))) 103 (dI s102.2),lks [.no, .no, .no, .live [⟨174,2, .av [[dL cI v1.products, .d (.mp v1.lists)]]⟩], .live [⟨174,2, .av [[dL cI v2.products, .d (.mp v2.lists)]]⟩], .live [⟨181,3, .data (List.map qF v61)⟩]]⟩) h1 ?_ (fun s102 y h2 => ?_)
 exact wk [0,1,2,3,4,5]
 refine sq [0] (rP rfl (bK rfl rfl) (nx (aB ?_)))
 refine bC h2 rfl (fun hc h2 => ?_) (fun hc h2 => ?_)
 refine sk ?_
 obtain ⟨v141,h3,h2⟩:=bnd h2
 refine bI ⟨aC (aC (aC (aC (aC (aC ((fun _ => .dead)) 5 (.ptr 3 0 1 0 0)) 6 (.ptr 4 0 1 0 0)) 14 (aMd cM v141)) 101 (.own 5 0 (v61).length)) 102 (dI (v61.length:Int))) 103 (dI s102.2),lks [.no, .no, .no, .live [⟨174,2, .av [[dL cI v1.products, .d (.mp v1.lists)]]⟩], .live [⟨174,2, .av [[dL cI v2.products, .d (.mp v2.lists)]]⟩], .live [⟨181,3, .data (List.map qF v61)⟩]]⟩ ?_ ?_
 refine aE (sq [0,1,2,3] ?_)
 obtain ⟨v103,hv103,h3⟩:=bnd h3
 refine rL rfl (fB tok hv103 rfl rfl rfl rfl rfl rfl rfl rfl) (rL rfl (xH tok (dP hv103).2.1 rfl rfl rfl rfl rfl) (al 6 [z0,z0,z0] tok ?_))
 refine bst tok (nx (sq [0,1,2,3,4,5,6] ?_))
 refine fa tok ?_
 refine ld tok ?_
 refine fa tok ?_
 refine ld tok ?_
 obtain ⟨hq104,h3⟩:=cO h3
 refine rP rfl (aRq tok rfl rfl rfl rfl rfl rfl rfl rfl hq104) (rP rfl (aJ tok rfl rfl rfl) (pm (nx (aE ?_))))
 refine aZ (fun s123=>⟨aC (aC (aC (aC (aC (aC (aC (aC (aC (aC ((fun _ => .dead)) 5 (.ptr 3 0 1 0 0)) 6 (.ptr 4 0 1 0 0)) 14 (aMd cM s123.1)) 16 (.ptr 5 0 1 0 0)) 101 (.own 6 0 (v61).length)) 102 (dI (v61.length:Int))) 103 (dI s102.2)) 111 (dL (cL cI) (v1.lists v103.p))) 112 (dI ((v1.lists v103.p).length:Int))) 113 (dI s123.2),lks [.no, .no, .no, .live [⟨174,2, .av [[dL cI v1.products, .d (.mp v1.lists)]]⟩], .live [⟨174,2, .av [[dL cI v2.products, .d (.mp v2.lists)]]⟩], .live [⟨181,3, .av [[dI v103.p,(dI v103.q),(dI v103.far)]]⟩], .live [⟨181,3, .data (List.map qF v61)⟩]]⟩) h3 ?_ (fun s123 y h4 => ?_)
 exact wk [0,1,2,3,4,6,5]
 refine sq [0] (rP rfl (bK rfl rfl) (nx (aB ?_)))
 refine bC h4 rfl (fun hc h4 => ?_) (fun hc h4 => ?_)
 refine sk ?_
 obtain ⟨v140,h5,h4⟩:=bnd h4
 refine bI ⟨aC (aC (aC (aC (aC (aC (aC (aC (aC (aC ((fun _ => .dead)) 5 (.ptr 3 0 1 0 0)) 6 (.ptr 4 0 1 0 0)) 14 (aMd cM v140)) 16 (.ptr 5 0 1 0 0)) 101 (.own 6 0 (v61).length)) 102 (dI (v61.length:Int))) 103 (dI s102.2)) 111 (dL (cL cI) (v1.lists v103.p))) 112 (dI ((v1.lists v103.p).length:Int))) 113 (dI s123.2),lks [.no, .no, .no, .live [⟨174,2, .av [[dL cI v1.products, .d (.mp v1.lists)]]⟩], .live [⟨174,2, .av [[dL cI v2.products, .d (.mp v2.lists)]]⟩], .live [⟨181,3, .av [[dI v103.p,(dI v103.q),(dI v103.far)]]⟩], .live [⟨181,3, .data (List.map qF v61)⟩]]⟩ ?_ ?_
 refine aE (sq [0,1,2] ?_)
 obtain ⟨v124,hv124,h5⟩:=bnd h5
 refine rP rfl (cE tok hv124 rfl rfl rfl rfl rfl rfl) (lr tok ?_)
 refine pa (nx (sq [0,1,2,3,4,5,6] ?_))
 refine fa tok ?_
 refine ld tok ?_
 refine fa tok ?_
 refine ld tok ?_
 obtain ⟨hq125,h5⟩:=cO h5
 refine rP rfl (aRq tok rfl rfl rfl rfl rfl rfl rfl rfl hq125) (rP rfl (aJ tok rfl rfl rfl) (pm (nx (aE ?_))))
 refine aZ (fun s133=>⟨aC (aC (aC (aC (aC (aC (aC (aC (aC (aC (aC (aC (aC (aC ((fun _ => .dead)) 5 (.ptr 3 0 1 0 0)) 6 (.ptr 4 0 1 0 0)) 14 (aMd cM s133.1)) 16 (.ptr 5 0 1 0 0)) 18 (dL cI v124)) 101 (.own 6 0 (v61).length)) 102 (dI (v61.length:Int))) 103 (dI s102.2)) 111 (dL (cL cI) (v1.lists v103.p))) 112 (dI ((v1.lists v103.p).length:Int))) 113 (dI s123.2)) 121 (dL (cL cI) (v2.lists v103.q))) 122 (dI ((v2.lists v103.q).length:Int))) 123 (dI s133.2),lks [.no, .no, .no, .live [⟨174,2, .av [[dL cI v1.products, .d (.mp v1.lists)]]⟩], .live [⟨174,2, .av [[dL cI v2.products, .d (.mp v2.lists)]]⟩], .live [⟨181,3, .av [[dI v103.p,(dI v103.q),(dI v103.far)]]⟩], .live [⟨181,3, .data (List.map qF v61)⟩]]⟩) h5 ?_ (fun s133 y h6 => ?_)
 exact wk [0,1,2,3,4,5,6]
 refine sq [0] (rP rfl (bK rfl rfl) (nx (aB ?_)))
 refine bC h6 rfl (fun hc h6 => ?_) (fun hc h6 => ?_)
 refine sk ?_
 obtain ⟨v139,h7,h6⟩:=bnd h6
 refine bI ⟨aC (aC (aC (aC (aC (aC (aC (aC (aC (aC (aC (aC (aC (aC ((fun _ => .dead)) 5 (.ptr 3 0 1 0 0)) 6 (.ptr 4 0 1 0 0)) 14 (aMd cM v139)) 16 (.ptr 5 0 1 0 0)) 18 (dL cI v124)) 101 (.own 6 0 (v61).length)) 102 (dI (v61.length:Int))) 103 (dI s102.2)) 111 (dL (cL cI) (v1.lists v103.p))) 112 (dI ((v1.lists v103.p).length:Int))) 113 (dI s123.2)) 121 (dL (cL cI) (v2.lists v103.q))) 122 (dI ((v2.lists v103.q).length:Int))) 123 (dI s133.2),lks [.no, .no, .no, .live [⟨174,2, .av [[dL cI v1.products, .d (.mp v1.lists)]]⟩], .live [⟨174,2, .av [[dL cI v2.products, .d (.mp v2.lists)]]⟩], .live [⟨181,3, .av [[dI v103.p,(dI v103.q),(dI v103.far)]]⟩], .live [⟨181,3, .data (List.map qF v61)⟩]]⟩ ?_ ?_
 refine aE (sq [0,1,2] ?_)
 obtain ⟨v134,hv134,h7⟩:=bnd h7
 refine rP rfl (cE tok hv134 rfl rfl rfl rfl rfl rfl) (lr tok ?_)
 refine pa (nx (sq [0,1,2,3] ?_))
 refine pm ?_
 refine pm ?_
 obtain ⟨v135,hv135,h7⟩:=bnd h7
 refine rS rfl (aM 7 (aHm hv135) rfl rfl rfl) (rP rfl (aR (r := .own _ _ _) rfl) (nx ?_))
 obtain ⟨v137,h8,h7⟩:=bnd h7
 refine bI ⟨aC (aC (aC (aC (aC (aC (aC (aC (aC (aC (aC (aC (aC (aC (aC (aC ((fun _ => .dead)) 5 (.ptr 3 0 1 0 0)) 6 (.ptr 4 0 1 0 0)) 14 (aMd cM s133.1)) 16 (.ptr 5 0 1 0 0)) 18 (dL cI v124)) 21 (.own 6 0 (v135).length)) 101 (.own 7 0 (v61).length)) 102 (dI (v61.length:Int))) 103 (dI s102.2)) 111 (dL (cL cI) (v1.lists v103.p))) 112 (dI ((v1.lists v103.p).length:Int))) 113 (dI s123.2)) 121 (dL (cL cI) (v2.lists v103.q))) 122 (dI ((v2.lists v103.q).length:Int))) 123 (dI s133.2)) 137 (dB v137),lks [.no, .no, .no, .live [⟨174,2, .av [[dL cI v1.products, .d (.mp v1.lists)]]⟩], .live [⟨174,2, .av [[dL cI v2.products, .d (.mp v2.lists)]]⟩], .live [⟨181,3, .av [[dI v103.p,(dI v103.q),(dI v103.far)]]⟩], .live [⟨86,2, .data (List.map cM v135)⟩], .live [⟨181,3, .data (List.map qF v61)⟩]]⟩ ?_ ?_
 refine sr [0,1,2,3,4,5,6,7] (rP rfl (aL (r:=_) rfl) (rP rfl (aMp tok rfl rfl rfl rfl) (pm ?_)))
 refine iT (u:=132) h8 rfl (fun hc h8 => ?_) (fun hc h8 => ?_)
 iterate 4 refine k1 ?_
 refine pkt (nx ?_)
 cases h8
 exact wk [0,1,2,3,4,5,7,6]
 refine rp rfl (w1 rfl rfl rfl) rfl (aL (r := .own _ _ _) rfl) (rp rfl (w1 rfl rfl rfl) rfl (aL (r:=_) rfl) ?_)
 obtain ⟨v136,hv136,h8⟩:=bnd h8
 refine oK (aSr cM (d:=134) rfl) (rs rfl (w1 rfl rfl rfl) rfl (eW 8 (aBh hv136) rfl rfl) (rp rfl (w1 rfl rfl rfl) rfl (bK rfl rfl) (pkf (nx ?_))))
 cases h8
 exact wk [0,1,2,3,4,5,7,6]
 refine bM h7 rfl (fun hc h7 => ?_) (fun hc h7 => ?_)
 refine sr [0,1] (rP rfl (aL (r := .own _ _ _) rfl) ?_)
 obtain ⟨hq138,h7⟩:=cO h7
 refine oK (aFa (k:=6) (t':=aC (aC (aC (aC (aC (aC (aC (aC (aC (aC (aC (aC (aC (aC ((fun _ => .dead)) 5 (.ptr 3 0 1 0 0)) 6 (.ptr 4 0 1 0 0)) 16 (.ptr 5 0 1 0 0)) 18 (dL cI v124)) 101 (.own 7 0 (v61).length)) 102 (dI (v61.length:Int))) 103 (dI s102.2)) 111 (dL (cL cI) (v1.lists v103.p))) 112 (dI ((v1.lists v103.p).length:Int))) 113 (dI s123.2)) 121 (dL (cL cI) (v2.lists v103.q))) 122 (dI ((v2.lists v103.q).length:Int))) 123 (dI s133.2)) 138 (dL cM v135)) rfl (FzL.nil)) (pa ?_)
 refine oK (aWp cM (d:=14) rfl hq138) (aY (bB (aG ?_)))
 cases h7
 exact wk [0,1,2,3,4,5,7]
 refine cX (bB (aG ?_))
 cases h7
 exact wk [0,1,2,3,4,5,7]
 refine sr [0,1] (rP rfl (bH rfl rfl) (pm (aY ?_)))
 refine bS ?_
 cases h6
 refine ⟨_,rfl,?_⟩
 exact wk [0,1,2,3,4,5,6]
 refine bF (bT ?_)
 cases h6
 refine bU ⟨_,rfl,fun e => ?_⟩
 subst e
 refine aQ ?_
 refine bB (aG ?_)
 exact wk [0,1,2,3,4,5,6]
 refine sr [0,1] (rP rfl (bH rfl rfl) (pm (aY ?_)))
 refine bS ?_
 cases h4
 refine ⟨_,rfl,?_⟩
 exact wk [0,1,2,3,4,5,6]
 refine bF (bT ?_)
 cases h4
 refine bU ⟨_,rfl,fun e => ?_⟩
 subst e
 refine aQ ?_
 refine bB (aG ?_)
 exact wk [0,1,2,3,4,6]
 refine sr [0,1] (rP rfl (bH rfl rfl) (pm (aY ?_)))
 refine bS ?_
 cases h2
 refine ⟨_,rfl,?_⟩
 exact wk [0,1,2,3,4,5]
 refine bF (bT ?_)
 cases h2
 refine bU ⟨_,rfl,fun e => ?_⟩
 subst e
 refine aQ (aG ?_)
 exact wk [0,1,2]
 refine sq [0,1] (rP rfl (aL (r:=_) rfl) (rP rfl (aR (r:=_) rfl) (oK (aSr cM (d:=4) rfl) (nx (aA ?_)))))
 cases h0
 exact r0t 4 rfl
theorem aHi {p0:bQ} {r:Bool} (h0:gD p0=some r):FnC Tryz.prog 188 [] [.agg [dI p0.Driver,(dI p0.Driven)]] [] (dB r):=by
 refine fi 11 tok Tryz.func188 ?_
 unfold gD at h0
 refine sq [0,1] (bxx 3 ?_)
 refine pa (nx (sq [0,1,2,3,4,5,6,7,8] ?_))
 refine fa tok ?_
 refine ld tok ?_
 obtain ⟨v1,hv1,h0⟩:=bnd h0
 refine rS rfl (aM 4 (sC hv1) rfl rfl rfl) (pm ?_)
 refine dU (u:=6) h0 rfl (fun hc h0 => ?_) (fun hc h0 => ?_)
 refine fa1 tok ?_
 refine ld1 tok ?_
 obtain ⟨v2,hv2,h0⟩:=bnd h0
 refine rs rfl (w1 rfl rfl rfl) rfl (aM 4 (sC hv2) rfl rfl rfl) (pkt ?_)
 refine pa (nx (aA ?_))
 cases h0
 exact r0t 2 rfl
 iterate 3 refine k1 ?_
 refine pkf ?_
 refine pa (nx (aA ?_))
 cases h0
 exact r0t 2 rfl
theorem aFj {p0:List bQ} {r:Bool} (h0:kP p0=some r):FnC Tryz.prog 140 [] [dL cM p0] [] (dB r):=by
 refine fi 18 tok Tryz.func140 ?_
 unfold kP at h0
 refine sq [0] (pa (nx ?_))
 obtain ⟨v7x,h1,h0⟩:=bnd h0
 refine dH v7x (fun v7=>⟨aC ((fun _ => .dead)) 0 (dL cM p0),lks [.no, .no, .no]⟩) ?_ ?_
 refine sq [0,1,2] (pm ?_)
 refine rP rfl (aJ tok rfl rfl rfl) (pm (nx (aE ?_)))
 refine aZ (fun s4=>⟨aC (aC (aC (aC ((fun _ => .dead)) 0 (dL cM p0)) 5 (dL cM p0)) 6 (dI (p0.length:Int))) 7 (dI s4),lks [.no, .no, .no]⟩) h1 ?_ (fun s4 y h2 => ?_)
 exact wk [0,1,2]
 refine sq [0] (rP rfl (bK rfl rfl) (nx (aB ?_)))
 refine bC h2 rfl (fun hc h2 => ?_) (fun hc h2 => ?_)
 refine sk (aB (aE (sq [0,1,2,3] ?_)))
 obtain ⟨v5,hv5,h2⟩:=bnd h2
 refine rP rfl (cE tok hv5 rfl rfl rfl rfl rfl rfl) (rP rfl (bJ tok rfl rfl rfl (by repeat (first | exact gV.z _ | apply gV.t))) (al 3 [z0,z0] tok ?_))
 refine bst tok (nx (sq [0,1,2] ?_))
 refine rL rfl (bA tok rfl rfl rfl rfl) ?_
 obtain ⟨v6,hv6,h2⟩:=bnd h2
 refine rS rfl (aM 4 (aHi hv6) rfl rfl rfl) (rP rfl (bW rfl) (nx ?_))
 refine bM h2 rfl (fun hc h2 => ?_) (fun hc h2 => ?_)
 refine sq [0] (pa (nx (aA ?_)))
 refine aX (aI ?_)
 cases h2
 refine dM ⟨_,rfl,fun e => ?_⟩
 subst e
 refine aX ?_
 replace h0:=eT h0
 refine aI ?_
 cases h0
 exact r0t 2 rfl
 refine cX (bB (aG (sr [0,1] (rP rfl (bH rfl rfl) (pm (aY ?_))))))
 refine bS ?_
 cases h2
 refine ⟨_,rfl,?_⟩
 exact wk [0,1,2]
 refine bF (bT ?_)
 cases h2
 refine bU ⟨_,rfl,fun e => ?_⟩
 subst e
 refine aQ (aG ?_)
 refine ⟨_,rfl,?_⟩
 exact wk [0,1,2]
 rintro v7 rfl
 replace h0:=gS h0
 refine sq [0,1,2,3] (pm ?_)
 refine rP rfl (aJ tok rfl rfl rfl) (rP rfl (gW rfl rfl) (pa (nx (aA ?_))))
 cases h0
 exact r0t 2 rfl
theorem aB0 {p0:aD} {p1:aD} {r:aD × Int} (h0:iF p0 p1=some r):FnC Tryz.prog 194 [] [.agg [dI p0.Num,(dI p0.Den)], .agg [dI p1.Num,(dI p1.Den)]] [] (.tup [.agg [dI r.1.Num,(dI r.1.Den)],(dI r.2)]):=by
 refine fi 28 tok Tryz.func194 ?_
 unfold iF at h0
 refine sq [0,1,2,3] (bxx 3 ?_)
 refine bxx 4 ?_
 refine al 5 [z0,z0] tok ?_
 refine pa (nx (aB ?_))
 obtain ⟨v3,h1,h0⟩:=bnd h0
 refine bI ⟨aC (aC (aC (aC ((fun _ => .dead)) 2 (.ptr 3 0 1 0 0)) 3 (.ptr 4 0 1 0 0)) 4 (.ptr 5 0 1 0 0)) 13 (dB v3),lks [.no, .no, .no, .live [⟨75,2, .av [[dI p0.Num,(dI p0.Den)]]⟩], .live [⟨75,2, .av [[dI p1.Num,(dI p1.Den)]]⟩], .live [⟨75,2, .av [[z0,z0]]⟩]]⟩ ?_ ?_
 refine sr [0,1,2,3,4,5,6,7] (rL rfl (bA tok rfl rfl rfl rfl) ?_)
 obtain ⟨v1,hv1,h1⟩:=bnd h1
 refine rS rfl (aM 6 (kO hv1) rfl rfl rfl) (rP rfl (bW rfl) (pm ?_))
 refine dU (u:=9) h1 rfl (fun hc h1 => ?_) (fun hc h1 => ?_)
 iterate 3 refine k1 ?_
 refine pkt (nx ?_)
 cases h1
 exact wk [0,1,2,3,4,5]
 refine rl rfl (w1 rfl rfl rfl) rfl (bA tok rfl rfl rfl rfl) ?_
 obtain ⟨v2,hv2,h1⟩:=bnd h1
 refine rs rfl (w1 rfl rfl rfl) rfl (aM 6 (kO hv2) rfl rfl rfl) (rp rfl (w1 rfl rfl rfl) rfl (bW rfl) (pkf (nx ?_)))
 cases h1
 exact wk [0,1,2,3,4,5]
 refine bM h0 rfl (fun hc h0 => ?_) (fun hc h0 => ?_)
 refine sq [0,1,2] (rP rfl (pbl (C0:=[z0,z0]) tok rfl rfl rfl) (bst tok ?_))
 refine pa (nx (aA (aI ?_)))
 cases h0
 exact gU (rs:=[.cell 4 75, .tmp 5]) rfl
 refine sk (sq [0,1,2,3,4,5,6,7,8,9,10,11,12,13,14] (fa tok ?_))
 refine ld tok ?_
 refine fa tok ?_
 refine ld tok ?_
 refine rP rfl (eL rfl rfl) (fa tok ?_)
 refine ld tok ?_
 refine fa tok ?_
 refine ld tok ?_
 refine rP rfl (eL rfl rfl) ?_
 obtain ⟨v4,hv4,h0⟩:=bnd h0
 refine rS rfl (aM 6 (oA hv4) rfl rfl rfl) (rP rfl (aN rfl rfl) (rP rfl (aN rfl rfl) (bst tok ?_)))
 refine pa (nx (aA ?_))
 cases h0
 exact gU (rs:=[.cell 4 75, .tmp 5]) rfl
theorem aFp {p0:List bQ} {r:aD × Int} (h0:kR p0=some r):FnC Tryz.prog 189 [] [dL cM p0] [] (.tup [.agg [dI r.1.Num,(dI r.1.Den)],(dI r.2)]):=by
 refine fi 40 tok Tryz.func189 ?_
 unfold kR at h0
 refine sq [0,1] (al 3 [z0,z0] tok ?_)
 refine pa (nx (sq [0,1,2] ?_))
 refine rP rfl (pbl (C0:=[z0,z0]) tok rfl rfl rfl) (al 4 [z0,z0] tok ?_)
 refine bst tok (nx ?_)
 obtain ⟨v9x,h1,h0⟩:=bnd h0
 refine dH v9x (fun v9=>⟨aC (aC ((fun _ => .dead)) 2 (.ptr 3 0 1 0 0)) 4 (.ptr 4 0 1 0 0),lks [.no, .no, .no, .live [⟨75,2, .av [[z0,z0]]⟩], .live [⟨75,2, .av [[dI v9.Num,(dI v9.Den)]]⟩]]⟩) ?_ ?_
 refine sq [0,1,2] (pm ?_)
 refine rP rfl (aJ tok rfl rfl rfl) (pm (nx (aE ?_)))
 refine aZ (fun s5=>⟨aC (aC (aC (aC (aC ((fun _ => .dead)) 2 (.ptr 3 0 1 0 0)) 4 (.ptr 4 0 1 0 0)) 12 (dL cM p0)) 13 (dI (p0.length:Int))) 14 (dI s5.1),lks [.no, .no, .no, .live [⟨75,2, .av [[z0,z0]]⟩], .live [⟨75,2, .av [[dI s5.2.Num,(dI s5.2.Den)]]⟩]]⟩) h1 ?_ (fun s5 y h2 => ?_)
 exact wk [0,1,2,3,4]
 refine sq [0] (rP rfl (bK rfl rfl) (nx (aB ?_)))
 refine bC h2 rfl (fun hc h2 => ?_) (fun hc h2 => ?_)
 refine sk (aB (aE (sq [0,1,2,3] ?_)))
 obtain ⟨v6,hv6,h2⟩:=bnd h2
 refine rP rfl (cE tok hv6 rfl rfl rfl rfl rfl rfl) (rP rfl (bJ tok rfl rfl rfl (by repeat (first | exact gV.z _ | apply gV.t))) (al 5 [z0,z0] tok ?_))
 refine bst tok (nx (sq [0,1,2,3,4,5,6,7,8,9,10,11] ?_))
 refine fa tok ?_
 refine ld tok ?_
 refine rP rfl (wH rfl) (fa tok ?_)
 refine ld tok ?_
 obtain ⟨v7,hv7,h2⟩:=bnd h2
 refine rS rfl (aM 6 (oA hv7) rfl rfl rfl) (rP rfl (aL (r := .tup _) rfl) (rP rfl (aN rfl rfl) (rP rfl (aN rfl rfl) (al 6 [z0,z0] tok ?_))))
 refine bst tok ?_
 refine pa (nx (sq [0,1,2,3,4,5,6,7,8] ?_))
 refine rL rfl (bA tok rfl rfl rfl rfl) (rL rfl (bA tok rfl rfl rfl rfl) ?_)
 obtain ⟨v8,hv8,h2⟩:=bnd h2
 refine rS rfl (aM 7 (aB0 hv8) rfl rfl rfl) (rP rfl (aL (r := .tup _) rfl) (rP rfl (aN rfl rfl) (rP rfl (aN rfl rfl) (al 7 [z0,z0] tok ?_))))
 refine bst tok ?_
 refine pa (nx (aB (sq [0,1] ?_)))
 refine pm ?_
 refine rP rfl (cQ rfl rfl) (nx ?_)
 refine bC h2 rfl (fun hc h2 => ?_) (fun hc h2 => ?_)
 refine sq [0,1,2,3] (rP rfl (pbl (C0:=[z0,z0]) tok rfl rfl rfl) (pm ?_))
 refine bst tok ?_
 refine pa (nx (aA (aI ?_)))
 refine aX (aI ?_)
 cases h2
 refine dM ⟨_,rfl,fun e => ?_⟩
 subst e
 refine aX ?_
 replace h0:=eT h0
 refine aI ?_
 cases h0
 exact gU (rs:=[.cell 2 75, .tmp 3]) rfl
 refine sk (sr [0,1] (rL rfl (bA tok rfl rfl rfl rfl) (bst tok (aY ?_))))
 refine bB (aG (sr [0,1] (rP rfl (bH rfl rfl) (pm (aY ?_)))))
 refine bS ?_
 cases h2
 refine ⟨_,rfl,?_⟩
 exact wk [0,1,2,3,4]
 refine bF (bT ?_)
 cases h2
 refine bU ⟨_,rfl,fun e => ?_⟩
 subst e
 refine aQ (aG ?_)
 refine ⟨_,rfl,?_⟩
 exact wk [0,1,2,3,4]
 rintro v9 rfl
 replace h0:=gS h0
 refine sq [0,1,2] (rL rfl (bA tok rfl rfl rfl rfl) (bst tok ?_))
 refine pa (nx (aA ?_))
 cases h0
 exact gU (rs:=[.cell 2 75, .tmp 3]) rfl
theorem aJp {p0:aD} {p1:aD} {r:aD × Int} (h0:tB p0 p1=some r):FnC Tryz.prog 190 [] [.agg [dI p0.Num,(dI p0.Den)], .agg [dI p1.Num,(dI p1.Den)]] [] (.tup [.agg [dI r.1.Num,(dI r.1.Den)],(dI r.2)]):=by
 refine fi 34 tok Tryz.func190 ?_
 unfold tB at h0
 refine sq [0,1,2,3] (bxx 3 ?_)
 refine bxx 4 ?_
 refine al 5 [z0,z0] tok ?_
 refine pa (nx (aB ?_))
 obtain ⟨v3,h1,h0⟩:=bnd h0
 refine bI ⟨aC (aC (aC (aC ((fun _ => .dead)) 2 (.ptr 3 0 1 0 0)) 3 (.ptr 4 0 1 0 0)) 4 (.ptr 5 0 1 0 0)) 13 (dB v3),lks [.no, .no, .no, .live [⟨75,2, .av [[dI p0.Num,(dI p0.Den)]]⟩], .live [⟨75,2, .av [[dI p1.Num,(dI p1.Den)]]⟩], .live [⟨75,2, .av [[z0,z0]]⟩]]⟩ ?_ ?_
 refine sr [0,1,2,3,4,5,6,7] (rL rfl (bA tok rfl rfl rfl rfl) ?_)
 obtain ⟨v1,hv1,h1⟩:=bnd h1
 refine rS rfl (aM 6 (kO hv1) rfl rfl rfl) (rP rfl (bW rfl) (pm ?_))
 refine dU (u:=9) h1 rfl (fun hc h1 => ?_) (fun hc h1 => ?_)
 iterate 3 refine k1 ?_
 refine pkt (nx ?_)
 cases h1
 exact wk [0,1,2,3,4,5]
 refine rl rfl (w1 rfl rfl rfl) rfl (bA tok rfl rfl rfl rfl) ?_
 obtain ⟨v2,hv2,h1⟩:=bnd h1
 refine rs rfl (w1 rfl rfl rfl) rfl (aM 6 (kO hv2) rfl rfl rfl) (rp rfl (w1 rfl rfl rfl) rfl (bW rfl) (pkf (nx ?_)))
 cases h1
 exact wk [0,1,2,3,4,5]
 refine bM h0 rfl (fun hc h0 => ?_) (fun hc h0 => ?_)
 refine sq [0,1,2] (rP rfl (pbl (C0:=[z0,z0]) tok rfl rfl rfl) (bst tok ?_))
 refine pa (nx (aA (aI ?_)))
 cases h0
 exact gU (rs:=[.cell 4 75, .tmp 5]) rfl
 refine sk (sq [0,1,2,3,4,5,6,7,8,9,10,11,12,13,14,15,16,17,18,19,20] (fa tok ?_))
 refine ld tok ?_
 refine fa tok ?_
 refine ld tok ?_
 refine rP rfl (eL rfl rfl) (fa tok ?_)
 refine ld tok ?_
 refine fa tok ?_
 refine ld tok ?_
 refine rP rfl (eL rfl rfl) (rP rfl (gX rfl rfl) (fa tok ?_))
 refine ld tok ?_
 refine fa tok ?_
 refine ld tok ?_
 refine rP rfl (eL rfl rfl) ?_
 obtain ⟨v4,hv4,h0⟩:=bnd h0
 refine rS rfl (aM 6 (oA hv4) rfl rfl rfl) (rP rfl (aN rfl rfl) (rP rfl (aN rfl rfl) (bst tok ?_)))
 refine pa (nx (aA ?_))
 cases h0
 exact gU (rs:=[.cell 4 75, .tmp 5]) rfl
theorem aCn {p0:List bQ} {p1:aD} {r:aD × Int} (h0:mT p0 p1=some r):FnC Tryz.prog 141 [] [dL cM p0, .agg [dI p1.Num,(dI p1.Den)]] [] (.tup [.agg [dI r.1.Num,(dI r.1.Den)],(dI r.2)]):=by
 refine fi 27 tok Tryz.func141 ?_
 unfold mT at h0
 refine sq [0,1,2] (bxx 3 ?_)
 refine al 4 [z0,z0] tok ?_
 refine pa (nx (sq [0,1,2,3,4,5,6,7] ?_))
 refine pm ?_
 obtain ⟨v1,hv1,h0⟩:=bnd h0
 refine rS rfl (aM 5 (aFp hv1) rfl rfl rfl) (rP rfl (aL (r := .tup _) rfl) (rP rfl (aN rfl rfl) (rP rfl (aN rfl rfl) (al 5 [z0,z0] tok ?_))))
 refine bst tok ?_
 refine pa (nx (aB (sq [0,1] ?_)))
 refine pm ?_
 refine rP rfl (cQ rfl rfl) (nx ?_)
 refine bC h0 rfl (fun hc h0 => ?_) (fun hc h0 => ?_)
 refine sq [0,1,2,3] (rP rfl (pbl (C0:=[z0,z0]) tok rfl rfl rfl) (pm ?_))
 refine bst tok ?_
 refine pa (nx (aA (aI ?_)))
 cases h0
 exact gU (rs:=[.cell 4 75, .tmp 5]) rfl
 refine sk (aB (aH (is:=[0,1,3,4,6,2,5,7,8,9,10,11]) [0,1,3,0,8,31,0,127,255,255,1023,2047] follows (by kernel_rfl) (tfa tok ?_)))
 refine tld tok ?_
 refine tfa tok ?_
 refine tld tok ?_
 refine cZ rfl w0 rfl (bA tok rfl rfl rfl rfl) rfl rfl rfl ?_
 obtain ⟨v2,hv2,h0⟩:=bnd h0
 refine jW rfl w0 rfl (cV 6 (aHj hv2) rfl rfl rfl) (tP rfl (pbl (C0:=[z0,z0]) tok rfl rfl rfl) ?_)
 obtain ⟨v3,hv3,h0⟩:=bnd h0
 refine jW rfl w0 rfl (cV 6 (aJp hv3) rfl rfl rfl) (tP rfl (aN rfl rfl) (tP rfl (aN rfl rfl) (oN rfl w0 (jA (cs:=_ :: _) tok rfl rfl rfl rfl rfl rfl rfl) (tpa ?_))))
 refine bN ?_
 refine ⟨by kernel_rfl,?_⟩
 refine aG (aA ?_)
 cases h0
 exact gU (rs:=[.cell 4 75, .tmp 5]) rfl
theorem aLu {p0:List bQ} {p1:aD} {r:aD × Int} (h0:rY p0 p1=some r):FnC Tryz.prog 78 [] [dL cM p0, .agg [dI p1.Num,(dI p1.Den)]] [] (.tup [.agg [dI r.1.Num,(dI r.1.Den)],(dI r.2)]):=by
 refine fi 30 tok Tryz.func78 ?_
 unfold rY at h0
 refine sq [0,1,2] (bxx 3 ?_)
 refine al 4 [z0,z0] tok ?_
 refine pa (nx (aB ?_))
 obtain ⟨v3,h1,h0⟩:=bnd h0
 refine bI ⟨aC (aC (aC (aC ((fun _ => .dead)) 0 (dL cM p0)) 3 (.ptr 3 0 1 0 0)) 4 (.ptr 4 0 1 0 0)) 15 (dB v3),lks [.no, .no, .no, .live [⟨75,2, .av [[dI p1.Num,(dI p1.Den)]]⟩], .live [⟨75,2, .av [[z0,z0]]⟩]]⟩ ?_ ?_
 refine sr [0,1,2,3,4,5,6,7] (pm ?_)
 obtain ⟨v1,hv1,h1⟩:=bnd h1
 refine rS rfl (aM 5 (aFj hv1) rfl rfl rfl) (rP rfl (bW rfl) (pm ?_))
 refine dU (u:=11) h1 rfl (fun hc h1 => ?_) (fun hc h1 => ?_)
 iterate 3 refine k1 ?_
 refine pkt (nx ?_)
 cases h1
 exact wk [0,1,2,3,4]
 refine rl rfl (w1 rfl rfl rfl) rfl (bA tok rfl rfl rfl rfl) ?_
 obtain ⟨v2,hv2,h1⟩:=bnd h1
 refine rs rfl (w1 rfl rfl rfl) rfl (aM 5 (kO hv2) rfl rfl rfl) (rp rfl (w1 rfl rfl rfl) rfl (bW rfl) (pkf (nx ?_)))
 cases h1
 exact wk [0,1,2,3,4]
 refine bM h0 rfl (fun hc h0 => ?_) (fun hc h0 => ?_)
 refine sq [0,1,2] (rP rfl (pbl (C0:=[z0,z0]) tok rfl rfl rfl) (bst tok ?_))
 refine pa (nx (aA (aI ?_)))
 cases h0
 exact gU (rs:=[.cell 4 75, .tmp 5]) rfl
 refine sk (sq [0,1,2,3,4,5,6,7,8] (pm ?_))
 refine rL rfl (bA tok rfl rfl rfl rfl) ?_
 obtain ⟨v4,hv4,h0⟩:=bnd h0
 refine rS rfl (aM 5 (aCn hv4) rfl rfl rfl) (rP rfl (aL (r := .tup _) rfl) (rP rfl (aN rfl rfl) (rP rfl (aN rfl rfl) (al 5 [z0,z0] tok ?_))))
 refine bst tok ?_
 refine pa (nx (aB ?_))
 refine aH (is:=[0,1,3,4,6,2,5,7,8]) [0,1,3,0,8,31,0,63,255] follows (by kernel_rfl) (tfa tok ?_)
 refine tld tok ?_
 refine tfa tok ?_
 refine tld tok ?_
 refine tpm ?_
 obtain ⟨v5,hv5,h0⟩:=bnd h0
 refine jW rfl w0 rfl (cV 6 (aHj hv5) rfl rfl rfl) (tP rfl (pbl (C0:=[z0,z0]) tok rfl rfl rfl) (oN rfl w0 (jA (cs:=_ :: _) tok rfl rfl rfl rfl rfl rfl rfl) (tpa ?_)))
 refine bN ?_
 refine ⟨by kernel_rfl,?_⟩
 refine aG (aA ?_)
 cases h0
 exact gU (rs:=[.cell 4 75, .tmp 5]) rfl
theorem aHf {p0:aD} {p1:iN} {r:uE × Int} (h0:nZ p0 p1=some r):FnC Tryz.prog 38 [] [.agg [dI p0.Num,(dI p0.Den)], .agg [dI p1.LowDriver,(dI p1.HighDriver),(dI p1.LowDriven),(dI p1.HighDriven),(dI p1.Stages)]] [] (.tup [.agg [dL cM r.1.Train,(dI r.1.Error.Num),(dI r.1.Error.Den)],(dI r.2)]):=by
 refine fi 33 tok Tryz.func38 ?_
 unfold nZ at h0
 refine sq [0,1,2,3] (bxx 3 ?_)
 refine bxx 4 ?_
 refine al 5 [zl,z0,z0] tok ?_
 refine pa (nx (aB (sq [0,1,2,3] ?_)))
 refine rL rfl (bA tok rfl rfl rfl rfl) (rL rfl (bA tok rfl rfl rfl rfl) ?_)
 obtain ⟨v1,hv1,h0⟩:=bnd h0
 refine rS rfl (aM 6 (aLw hv1) rfl rfl rfl) (pa (nx (sq [0,1] ?_)))
 refine pm ?_
 refine rP rfl (cQ rfl rfl) (nx ?_)
 refine bC h0 rfl (fun hc h0 => ?_) (fun hc h0 => ?_)
 refine sq [0,1,2,3] (rP rfl (pbl (C0:=[zl,z0,z0]) tok rfl rfl rfl) (pm ?_))
 refine bst tok ?_
 refine pa (nx ?_)
 refine wa 6 86 2 5 0 ?_
 refine cN (aFa (k:=6) (t':=aC (aC ((fun _ => .dead)) 4 (.ptr 5 0 1 0 0)) 5 (dI v1)) rfl (FzL.box (kb:=5) (ds:=[dL cM ([]:List bQ),z0,z0]) rfl rfl (by repeat (first | exact tW.nil | apply tW.cons | exact FzR.d _ | exact FzR.own rfl (by first | rfl | (simp;done) | (simp;omega)) | exact FzR.ptr rfl (by repeat (first | exact Drp.z _ | apply Drp.d)) | exact FzR.own' | exact FzR.ptr' | exact FzR.ref _ | apply FzR.agg | apply FzR.tup | apply FzR.fn | exact FzR.dead _)) (FzL.nil))) (aA (aI ?_))
 cases h0
 exact gU (rs:=[.cell 4 80, .tmp 5]) rfl
 refine sk (sq [0,1,2,3] (rL rfl (bA tok rfl rfl rfl rfl) (rL rfl (bA tok rfl rfl rfl rfl) ?_)))
 obtain ⟨v2,hv2,h0⟩:=bnd h0
 refine rS rfl (aM 6 (aHl hv2) rfl rfl rfl) (pa (nx (sq [0,1,2,3,4,5,6,7,8] ?_)))
 refine pm ?_
 refine rL rfl (bA tok rfl rfl rfl rfl) ?_
 obtain ⟨v3,hv3,h0⟩:=bnd h0
 refine rS rfl (aM 6 (aLu hv3) rfl rfl rfl) (rP rfl (aL (r := .tup _) rfl) (rP rfl (aN rfl rfl) (rP rfl (aN rfl rfl) (al 6 [z0,z0] tok ?_))))
 refine bst tok ?_
 refine pa (nx (aB (sq [0,1] ?_)))
 refine pm ?_
 refine rP rfl (cQ rfl rfl) (nx ?_)
 refine bC h0 rfl (fun hc h0 => ?_) (fun hc h0 => ?_)
 refine sq [0,1,2,3] (rP rfl (pbl (C0:=[zl,z0,z0]) tok rfl rfl rfl) (pm ?_))
 refine bst tok ?_
 refine pa (nx ?_)
 refine wa 7 86 2 5 0 ?_
 refine cN (aFa (k:=7) (t':=aC (aC ((fun _ => .dead)) 4 (.ptr 5 0 1 0 0)) 5 (dI v3.2)) rfl (FzL.box (kb:=5) (ds:=[dL cM ([]:List bQ),z0,z0]) rfl rfl (by repeat (first | exact tW.nil | apply tW.cons | exact FzR.d _ | exact FzR.own rfl (by first | rfl | (simp;done) | (simp;omega)) | exact FzR.ptr rfl (by repeat (first | exact Drp.z _ | apply Drp.d)) | exact FzR.own' | exact FzR.ptr' | exact FzR.ref _ | apply FzR.agg | apply FzR.tup | apply FzR.fn | exact FzR.dead _)) (FzL.nil))) (aA (aI ?_))
 cases h0
 exact gU (rs:=[.cell 4 80, .tmp 5]) rfl
 refine sk (sq [0,1,2,3,4] (pm ?_))
 refine rL rfl (bA tok rfl rfl rfl rfl) (rP rfl (pbl (C0:=[zl,z0,z0]) tok rfl rfl rfl) (bst tok ?_))
 refine pa (nx (aA ?_))
 cases h0
 exact gU (rs:=[.cell 4 80, .tmp 5]) rfl
theorem uC {p0:List bR} {r:List bR} (h0:fR p0=some r):FnC Tryz.prog 142 [] [dL bV p0] [.live [⟨90,4, .data (List.map bV r)⟩]] (.own 0 0 r.length):=by
 refine fi 8 tok Tryz.func142 ?_
 unfold fR at h0
 obtain ⟨hq1,h0⟩:=cO h0
 cases h0
 refine aC2 (d:=0) rfl rfl (fun hne => ?_) (fun he A k hk => ?_)
 ·skip
  refine aB (cF (is:=[0]) rfl (rP rfl (aR (r := .d _) rfl) (aY (aG (aB (aB (cF (is:=[0,1]) rfl (rP rfl (aL (r := .d _) rfl) (rP rfl (sK tok rfl hne rfl rfl rfl) (aY (aG (qD rfl (cX (aG (aB (cF (is:=[0,1,2,3]) rfl (rS rfl (eQ 3 tok rfl rfl rfl rfl) (rP rfl (aL (r := .d _) rfl) (rw1 rfl w0 rfl (eU tok hq1 rfl rfl rfl rfl rfl rfl rfl rfl rfl rfl rfl rfl (fun _=>rfl)) (rP rfl (aR (r := .own _ _ _) rfl) (aY (aG (aA ?_)))))))))))))))))))))))
  exact dG (rs:=[.tmp 2]) [3] rfl
 ·skip
  have he:p0=[]:=List.map_eq_nil_iff.1 he
  subst he
  cases A with
  | none =>
   refine aB (cF (is:=[0]) rfl (rP rfl (aR (r := .d _) rfl) (aY (aG (aB (aB (cF (is:=[0,1]) rfl (rP rfl (aL (r := .d _) rfl) (rP rfl (lU tok rfl rfl rfl rfl) (aY (aG (zU rfl (aB (cF (is:=[0]) rfl (rP rfl (aR (r := .d _) rfl) (aY (aG (cN (cW 3 rfl 90 4 (d:=2) rfl) (aA (aI ?_))))))))))))))))))))
   exact dG (rs:=[.tmp 2]) [3] rfl
  | some a =>
   refine aB (cF (is:=[0]) rfl (rP rfl (aR (r := .d _) rfl) (aY (aG (aB (aB (cF (is:=[0,1]) rfl (rP rfl (aL (r := .d _) rfl) (rP rfl (lU tok rfl rfl rfl rfl) (aY (aG (qD rfl (cX (aG (cN (aA5 bV (d:=0) rfl hk) (aB (cF (is:=[0,1,2,3]) rfl (rS rfl (eQ 3 tok rfl rfl rfl rfl) (rP rfl (aL (r := .d _) rfl) (rw1 rfl w0 rfl (eU tok hq1 rfl rfl rfl rfl rfl rfl rfl rfl rfl rfl rfl rfl (fun _=>rfl)) (rP rfl (aR (r := .own _ _ _) rfl) (aY (aG (aA ?_))))))))))))))))))))))))
   exact dG (rs:=[.tmp 2]) [3] rfl
theorem aHo {p0:bG} {r:bG} (h0:oD p0=some r):FnC Tryz.prog 79 [] [.agg [dL aS p0.Arbors,(dL bV p0.Meshes)]] [.live [⟨88,2, .av (fA 1 aS r.Arbors)⟩], .live (pC 2 1 aS r.Arbors), .live [⟨90,4, .data (List.map bV r.Meshes)⟩]] (.agg [.own 0 0 r.Arbors.length, .own 2 0 r.Meshes.length]):=by
 refine fi 30 tok Tryz.func79 ?_
 unfold oD at h0
 refine sq [0,1] (bxx 3 ?_)
 refine al 4 [zl,zl] tok (nx (sq [0] ?_))
 refine al 5 [zl,zl] tok (nx ?_)
 obtain ⟨v9,h1,h0⟩:=bnd h0
 refine bI ⟨aC (aC (aC ((fun _ => .dead)) 1 (.ptr 3 0 1 0 0)) 2 (.ptr 4 0 1 0 0)) 3 (.ptr 5 0 1 0 0),lks [.no, .no, .no, .live [⟨25,2, .av [[dL aS p0.Arbors,(dL bV p0.Meshes)]]⟩], .live [⟨25,2, .av [[zl,zl]]⟩], .live [⟨25,2, .av [[.own 6 0 (v9).length,zl]]⟩], .live [⟨88,2, .av (fA 7 aS v9)⟩], .live (pC 2 1 aS v9)]⟩ ?_ ?_
 refine sq [0,1,2,3] (fa tok ?_)
 refine ld tok ?_
 refine rP rfl (aJ tok rfl rfl rfl) (pm (nx (aE ?_)))
 refine aZ (fun s5=>⟨aC (aC (aC (aC (aC (aC ((fun _ => .dead)) 1 (.ptr 3 0 1 0 0)) 2 (.ptr 4 0 1 0 0)) 3 (.ptr 5 0 1 0 0)) 7 (dL aS p0.Arbors)) 8 (dI (p0.Arbors.length:Int))) 9 (dI s5.1),lks [.no, .no, .no, .live [⟨25,2, .av [[dL aS p0.Arbors,(dL bV p0.Meshes)]]⟩], .live [⟨25,2, .av [[zl,zl]]⟩], .live [⟨25,2, .av [[.own 6 0 (s5.2).length,zl]]⟩], .live [⟨88,2, .av (fA 7 aS s5.2)⟩], .live (pC 2 1 aS s5.2)]⟩) h1 ?_ (fun s5 y h2 => ?_)
 refine mG.trans_ (vA 6 rfl 88 2 (kb:=5) (j:=0) rfl rfl (by repeat (first | exact Spl.z _ | apply Spl.t | apply Spl.d))) (mG.trans_ (dR 7 (k:=6) 2 1 aS rfl rfl) ?_)
 exact wk [0,1,2,3,4,5,6,7]
 refine sq [0] (rP rfl (bK rfl rfl) (nx (aB ?_)))
 refine bC h2 rfl (fun hc h2 => ?_) (fun hc h2 => ?_)
 refine sk (aB (aE (sq [0,1,2,3] ?_)))
 obtain ⟨v6,hv6,h2⟩:=bnd h2
 refine rP rfl (cE tok hv6 rfl rfl rfl rfl rfl rfl) (rP rfl (bJ tok rfl rfl rfl (by repeat (first | exact gV.z _ | apply gV.t))) (al 8 [ze,zl] tok ?_))
 refine bst tok (nx ?_)
 refine wP (is:=[0,1,2,3,4,5,6,7,8,9,10,11]) [0,1,0,4,0,16,48,124,252,511,1023,2047] follows (by kernel_rfl) (tfa tok ?_)
 refine tld tok ?_
 refine tfa tok ?_
 refine tld tok ?_
 refine tfa tok ?_
 refine tld tok ?_
 obtain ⟨v7,hv7,h2⟩:=bnd h2
 refine jW rfl w0 rfl (cV 10 (fG hv7) rfl rfl rfl) (tP rfl (pbl (C0:=[ze,zl]) tok rfl rfl rfl) (aU1 rfl w0 rfl (aW4 11 tok rfl rfl rfl (by repeat (first | exact Els.nil _ | apply Els.cons (cs:=[.d _]) rfl rfl rfl | apply Els.cons (cs:=_ :: _) rfl rfl rfl)) rfl rfl rfl rfl) ?_))
 obtain ⟨hq8,h2⟩:=cO h2
 refine yX rfl w0 rfl (aRo tok (⟨v6.Name,v7⟩:bO) hq8 rfl rfl rfl rfl rfl rfl rfl rfl rfl rfl rfl rfl rfl rfl rfl) (tfa tok ?_)
 refine oN rfl w0 (jA (cs:=[.own _ _ _]) tok rfl rfl rfl rfl rfl rfl rfl) (bN ?_)
 refine ⟨by kernel_rfl,_,mG.trans_ (aF8 12 (k:=6) (kf:=7) (k2:=10) (⟨v6.Name,v7⟩:bO) rfl rfl rfl rfl rfl rfl rfl (by repeat (first | exact aNi.nil | apply aNi.v | apply aNi.sl (by first | rfl | (simp;done)))) rfl rfl rfl) (mG.refl_),?_⟩
 refine bB (aG (sr [0,1] (rP rfl (bH rfl rfl) (pm (aY ?_)))))
 refine bS ?_
 cases h2
 refine ⟨_,rfl,?_⟩
 exact wk [0,1,2,3,4,5,6,12]
 refine bF (bT ?_)
 cases h2
 refine bU ⟨_,rfl,fun e => ?_⟩
 subst e
 refine aQ (aG ?_)
 exact wk [0,1,2,3,4,5,6,7]
 refine sq [0,1,2,3,4] (fa tok ?_)
 refine ld tok ?_
 obtain ⟨v10,hv10,h0⟩:=bnd h0
 refine rS rfl (aM 8 (uC hv10) rfl rfl rfl) (fa tok ?_)
 refine rw0 rfl w0 (jA (cs:=[.own _ _ _]) tok rfl rfl rfl rfl rfl rfl rfl) (nx (sq [0,1] (rL rfl (bA tok rfl rfl rfl rfl) (bst tok (nx (aA ?_))))))
 cases h0
 exact dG (rs:=[.cell 2 25]) [6,7,8] rfl
theorem sV {p0:List bE} {r:List bE} (h0:fF p0=some r):FnC Tryz.prog 80 [] [dL aT p0] [.live [⟨62,3, .data (List.map aT r)⟩]] (.own 0 0 r.length):=by
 refine fi 8 tok Tryz.func80 ?_
 unfold fF at h0
 obtain ⟨hq1,h0⟩:=cO h0
 cases h0
 refine aC2 (d:=0) rfl rfl (fun hne => ?_) (fun he A k hk => ?_)
 ·skip
  refine aB (cF (is:=[0]) rfl (rP rfl (aR (r := .d _) rfl) (aY (aG (aB (aB (cF (is:=[0,1]) rfl (rP rfl (aL (r := .d _) rfl) (rP rfl (sK tok rfl hne rfl rfl rfl) (aY (aG (qD rfl (cX (aG (aB (cF (is:=[0,1,2,3]) rfl (rS rfl (eQ 3 tok rfl rfl rfl rfl) (rP rfl (aL (r := .d _) rfl) (rw1 rfl w0 rfl (eU tok hq1 rfl rfl rfl rfl rfl rfl rfl rfl rfl rfl rfl rfl (fun _=>rfl)) (rP rfl (aR (r := .own _ _ _) rfl) (aY (aG (aA ?_)))))))))))))))))))))))
  exact dG (rs:=[.tmp 2]) [3] rfl
 ·skip
  have he:p0=[]:=List.map_eq_nil_iff.1 he
  subst he
  cases A with
  | none =>
   refine aB (cF (is:=[0]) rfl (rP rfl (aR (r := .d _) rfl) (aY (aG (aB (aB (cF (is:=[0,1]) rfl (rP rfl (aL (r := .d _) rfl) (rP rfl (lU tok rfl rfl rfl rfl) (aY (aG (zU rfl (aB (cF (is:=[0]) rfl (rP rfl (aR (r := .d _) rfl) (aY (aG (cN (cW 3 rfl 62 3 (d:=2) rfl) (aA (aI ?_))))))))))))))))))))
   exact dG (rs:=[.tmp 2]) [3] rfl
  | some a =>
   refine aB (cF (is:=[0]) rfl (rP rfl (aR (r := .d _) rfl) (aY (aG (aB (aB (cF (is:=[0,1]) rfl (rP rfl (aL (r := .d _) rfl) (rP rfl (lU tok rfl rfl rfl rfl) (aY (aG (qD rfl (cX (aG (cN (aA5 aT (d:=0) rfl hk) (aB (cF (is:=[0,1,2,3]) rfl (rS rfl (eQ 3 tok rfl rfl rfl rfl) (rP rfl (aL (r := .d _) rfl) (rw1 rfl w0 rfl (eU tok hq1 rfl rfl rfl rfl rfl rfl rfl rfl rfl rfl rfl rfl (fun _=>rfl)) (rP rfl (aR (r := .own _ _ _) rfl) (aY (aG (aA ?_))))))))))))))))))))))))
   exact dG (rs:=[.tmp 2]) [3] rfl
theorem oT {p0:List aO} {r:List aO} (h0:eE p0=some r):FnC Tryz.prog 81 [] [dL aK p0] [.live [⟨66,3, .data (List.map aK r)⟩]] (.own 0 0 r.length):=by
 refine fi 8 tok Tryz.func81 ?_
 unfold eE at h0
 obtain ⟨hq1,h0⟩:=cO h0
 cases h0
 refine aC2 (d:=0) rfl rfl (fun hne => ?_) (fun he A k hk => ?_)
 ·skip
  refine aB (cF (is:=[0]) rfl (rP rfl (aR (r := .d _) rfl) (aY (aG (aB (aB (cF (is:=[0,1]) rfl (rP rfl (aL (r := .d _) rfl) (rP rfl (sK tok rfl hne rfl rfl rfl) (aY (aG (qD rfl (cX (aG (aB (cF (is:=[0,1,2,3]) rfl (rS rfl (eQ 3 tok rfl rfl rfl rfl) (rP rfl (aL (r := .d _) rfl) (rw1 rfl w0 rfl (eU tok hq1 rfl rfl rfl rfl rfl rfl rfl rfl rfl rfl rfl rfl (fun _=>rfl)) (rP rfl (aR (r := .own _ _ _) rfl) (aY (aG (aA ?_)))))))))))))))))))))))
  exact dG (rs:=[.tmp 2]) [3] rfl
 ·skip
  have he:p0=[]:=List.map_eq_nil_iff.1 he
  subst he
  cases A with
  | none =>
   refine aB (cF (is:=[0]) rfl (rP rfl (aR (r := .d _) rfl) (aY (aG (aB (aB (cF (is:=[0,1]) rfl (rP rfl (aL (r := .d _) rfl) (rP rfl (lU tok rfl rfl rfl rfl) (aY (aG (zU rfl (aB (cF (is:=[0]) rfl (rP rfl (aR (r := .d _) rfl) (aY (aG (cN (cW 3 rfl 66 3 (d:=2) rfl) (aA (aI ?_))))))))))))))))))))
   exact dG (rs:=[.tmp 2]) [3] rfl
  | some a =>
   refine aB (cF (is:=[0]) rfl (rP rfl (aR (r := .d _) rfl) (aY (aG (aB (aB (cF (is:=[0,1]) rfl (rP rfl (aL (r := .d _) rfl) (rP rfl (lU tok rfl rfl rfl rfl) (aY (aG (qD rfl (cX (aG (cN (aA5 aK (d:=0) rfl hk) (aB (cF (is:=[0,1,2,3]) rfl (rS rfl (eQ 3 tok rfl rfl rfl rfl) (rP rfl (aL (r := .d _) rfl) (rw1 rfl w0 rfl (eU tok hq1 rfl rfl rfl rfl rfl rfl rfl rfl rfl rfl rfl rfl (fun _=>rfl)) (rP rfl (aR (r := .own _ _ _) rfl) (aY (aG (aA ?_))))))))))))))))))))))))
   exact dG (rs:=[.tmp 2]) [3] rfl
theorem wE {p0:aW} {r:aW} (h0:hY p0=some r):FnC Tryz.prog 39 [] [.agg [dS p0.Name,(dL aS p0.Works.Arbors),(dL bV p0.Works.Meshes),(dI p0.Minute),(dI p0.Hour),(dI p0.Escape),(dI p0.Teeth),(dI p0.Beats),(dS p0.Calendar.Name),(dL aT p0.Calendar.Months),(dL aK p0.Calendar.Rules),(dI p0.Calendar.Week),(dL cI p0.Cam),(dI p0.Strike)]] [.live [⟨88,2, .av (fA 1 aS r.Works.Arbors)⟩], .live (pC 2 1 aS r.Works.Arbors), .live [⟨90,4, .data (List.map bV r.Works.Meshes)⟩], .live [⟨62,3, .data (List.map aT r.Calendar.Months)⟩], .live [⟨66,3, .data (List.map aK r.Calendar.Rules)⟩], .live [⟨2,1, .data (List.map cI r.Cam)⟩]] (.agg [dS r.Name, .own 0 0 r.Works.Arbors.length, .own 2 0 r.Works.Meshes.length,(dI r.Minute),(dI r.Hour),(dI r.Escape),(dI r.Teeth),(dI r.Beats),(dS r.Calendar.Name), .own 3 0 r.Calendar.Months.length, .own 4 0 r.Calendar.Rules.length,(dI r.Calendar.Week), .own 5 0 r.Cam.length,(dI r.Strike)]):=by
 refine fi 24 tok Tryz.func39 ?_
 unfold hY at h0
 refine sq [0,1] (bxx 3 ?_)
 refine al 4 [ze,zl,zl,z0,z0,z0,z0,z0,ze,zl,zl,z0,zl,z0] tok (nx (sq [0,1,2,3,4] ?_))
 refine fa tok ?_
 refine rL rfl (bA tok rfl rfl rfl rfl) ?_
 obtain ⟨v1,hv1,h0⟩:=bnd h0
 refine rS rfl (aM 5 (aHo hv1) rfl rfl rfl) (fa tok ?_)
 refine bst tok (nx (sq [0,1,2,3,4,5,6] ?_))
 refine fa tok ?_
 refine fa tok ?_
 refine ld tok ?_
 obtain ⟨v2,hv2,h0⟩:=bnd h0
 refine rS rfl (aM 8 (sV hv2) rfl rfl rfl) (fa tok ?_)
 refine fa tok ?_
 refine rw0 rfl w0 (jA (cs:=[.own _ _ _]) tok rfl rfl rfl rfl rfl rfl rfl) (nx (sq [0,1,2,3,4,5,6] (fa tok ?_)))
 refine fa tok ?_
 refine ld tok ?_
 obtain ⟨v3,hv3,h0⟩:=bnd h0
 refine rS rfl (aM 9 (oT hv3) rfl rfl rfl) (fa tok ?_)
 refine fa tok ?_
 refine rw0 rfl w0 (jA (cs:=[.own _ _ _]) tok rfl rfl rfl rfl rfl rfl rfl) (nx (sq [0,1,2,3,4] (fa tok ?_)))
 refine ld tok ?_
 obtain ⟨v4,hv4,h0⟩:=bnd h0
 refine rS rfl (aM 10 (fG hv4) rfl rfl rfl) (fa tok ?_)
 refine rw0 rfl w0 (jA (cs:=[.own _ _ _]) tok rfl rfl rfl rfl rfl rfl rfl) (nx (sq [0,1] (rL rfl (bA tok rfl rfl rfl rfl) (bst tok (nx (aA ?_))))))
 cases h0
 exact dG (rs:=[.cell 2 32]) [5,6,7,8,9,10] rfl
theorem aAa {p0:ByteArray} {p1:Int} {p2:Int} {p3:aF} {p4:Int} {r:aW × Int} (h0:iD p0 p1 p2 p3 p4=some r):FnC Tryz.prog 17 [] [dS p0,(dI p1),(dI p2), .agg [dS p3.Name,(dL aT p3.Months),(dL aK p3.Rules),(dI p3.Week)],(dI p4)] [.live [⟨88,2, .av (fA 1 aS r.1.Works.Arbors)⟩], .live (pC 2 1 aS r.1.Works.Arbors), .live [⟨90,4, .data (List.map bV r.1.Works.Meshes)⟩], .live [⟨62,3, .data (List.map aT r.1.Calendar.Months)⟩], .live [⟨66,3, .data (List.map aK r.1.Calendar.Rules)⟩], .live [⟨2,1, .data (List.map cI r.1.Cam)⟩]] (.tup [.agg [dS r.1.Name, .own 0 0 r.1.Works.Arbors.length, .own 2 0 r.1.Works.Meshes.length,(dI r.1.Minute),(dI r.1.Hour),(dI r.1.Escape),(dI r.1.Teeth),(dI r.1.Beats),(dS r.1.Calendar.Name), .own 3 0 r.1.Calendar.Months.length, .own 4 0 r.1.Calendar.Rules.length,(dI r.1.Calendar.Week), .own 5 0 r.1.Cam.length,(dI r.1.Strike)],(dI r.2)]):=by
 refine fi 118 tok Tryz.func17 ?_
 unfold iD at h0
 refine sq [0,1,2] (bxx 3 ?_)
 refine al 4 [ze,zl,zl,z0,z0,z0,z0,z0,ze,zl,zl,z0,zl,z0] tok ?_
 refine pa (nx (aB (aE (sq [0,1,2,3] ?_))))
 refine rL rfl (bA tok rfl rfl rfl rfl) ?_
 obtain ⟨v1,hv1,h0⟩:=bnd h0
 refine rS rfl (aM 5 (jC hv1) rfl rfl rfl) (rP rfl (bW rfl) (pa (nx ?_)))
 refine bM h0 rfl (fun hc h0 => ?_) (fun hc h0 => ?_)
 refine sq [0,1,2] (rP rfl (pbl (C0:=[ze,zl,zl,z0,z0,z0,z0,z0,ze,zl,zl,z0,zl,z0]) tok rfl rfl rfl) (bst tok ?_))
 refine pa (nx ?_)
 refine wa 5 88 2 4 1 ?_
 refine cN (dR 6 (k:=5) 2 1 aS rfl rfl) (wa 7 90 4 4 2 ?_)
 refine wa 8 62 3 4 9 ?_
 refine wa 9 66 3 4 10 ?_
 refine wa 10 2 1 4 12 (aA ?_)
 refine aX (aI ?_)
 cases h0
 exact dG (rs:=[.cell 10 32, .tmp 11]) [5,6,7,8,9,10] rfl
 refine sq [0,1,2,3] (pm ?_)
 obtain ⟨v2,hv2,h0⟩:=bnd h0
 refine rS rfl (aM 5 (uH hv2) rfl rfl rfl) (rP rfl (bW rfl) (pa (nx ?_)))
 refine bM h0 rfl (fun hc h0 => ?_) (fun hc h0 => ?_)
 refine sq [0,1,2] (rP rfl (pbl (C0:=[ze,zl,zl,z0,z0,z0,z0,z0,ze,zl,zl,z0,zl,z0]) tok rfl rfl rfl) (bst tok ?_))
 refine pa (nx ?_)
 refine wa 5 88 2 4 1 ?_
 refine cN (dR 6 (k:=5) 2 1 aS rfl rfl) (wa 7 90 4 4 2 ?_)
 refine wa 8 62 3 4 9 ?_
 refine wa 9 66 3 4 10 ?_
 refine wa 10 2 1 4 12 (aA ?_)
 refine aX (aI ?_)
 cases h0
 exact dG (rs:=[.cell 10 32, .tmp 11]) [5,6,7,8,9,10] rfl
 obtain ⟨v5,h1,h0⟩:=bnd h0
 refine bI ⟨aC (aC (aC (aC (aC (aC (aC ((fun _ => .dead)) 0 (dS p0)) 1 (dI p1)) 2 (dI p2)) 4 (dI p4)) 8 (.ptr 3 0 1 0 0)) 10 (.ptr 4 0 1 0 0)) 30 (dB v5),lks [.no, .no, .no, .live [⟨29,4, .av [[dS p3.Name,(dL aT p3.Months),(dL aK p3.Rules),(dI p3.Week)]]⟩], .live [⟨32,14, .av [[ze,zl,zl,z0,z0,z0,z0,z0,ze,zl,zl,z0,zl,z0]]⟩]]⟩ ?_ ?_
 refine sr [0,1,2,3,4,5,6,7,8] (pm ?_)
 obtain ⟨v3,hv3,h1⟩:=bnd h1
 refine rS rfl (aM 5 (dX hv3) rfl rfl rfl) (rP rfl (bW rfl) (pm ?_))
 refine dU (u:=34) h1 rfl (fun hc h1 => ?_) (fun hc h1 => ?_)
 iterate 3 refine k1 ?_
 refine pkt ?_
 refine pa (nx ?_)
 cases h1
 exact wk [0,1,2,3,4]
 refine pm1 ?_
 obtain ⟨v4,hv4,h1⟩:=bnd h1
 refine rs rfl (w1 rfl rfl rfl) rfl (aM 5 (sC hv4) rfl rfl rfl) (rp rfl (w1 rfl rfl rfl) rfl (bW rfl) (pkf ?_))
 refine pa (nx ?_)
 cases h1
 exact wk [0,1,2,3,4]
 refine bM h0 rfl (fun hc h0 => ?_) (fun hc h0 => ?_)
 refine sq [0,1,2] (rP rfl (pbl (C0:=[ze,zl,zl,z0,z0,z0,z0,z0,ze,zl,zl,z0,zl,z0]) tok rfl rfl rfl) (bst tok ?_))
 refine pa (nx ?_)
 refine wa 5 88 2 4 1 ?_
 refine cN (dR 6 (k:=5) 2 1 aS rfl rfl) (wa 7 90 4 4 2 ?_)
 refine wa 8 62 3 4 9 ?_
 refine wa 9 66 3 4 10 ?_
 refine wa 10 2 1 4 12 (aA ?_)
 refine aX (aI ?_)
 cases h0
 exact dG (rs:=[.cell 10 32, .tmp 11]) [5,6,7,8,9,10] rfl
 refine cX (bB (aG (sq [0,1,2,3,4,5,6,7,8,9] (rL rfl (bA tok rfl rfl rfl rfl) (pm ?_)))))
 obtain ⟨v6,hv6,h0⟩:=bnd h0
 refine rS rfl (aM 5 (aLs hv6) rfl rfl rfl) (rP rfl (aL (r := .tup _) rfl) ?_)
 iterate 3 refine rP rfl (aN rfl rfl) ?_
 refine rP rfl (aR (r := .own _ _ _) rfl) (pa ?_)
 refine pa (nx (aB (sq [0,1] ?_)))
 refine pm ?_
 refine rP rfl (cQ rfl rfl) (nx ?_)
 refine bC h0 rfl (fun hc h0 => ?_) (fun hc h0 => ?_)
 refine sq [0,1,2,3] (rP rfl (pbl (C0:=[ze,zl,zl,z0,z0,z0,z0,z0,ze,zl,zl,z0,zl,z0]) tok rfl rfl rfl) (pm ?_))
 refine bst tok ?_
 refine pa (nx ?_)
 refine wa 6 88 2 4 1 ?_
 refine cN (dR 7 (k:=6) 2 1 aS rfl rfl) (wa 8 90 4 4 2 ?_)
 refine wa 9 62 3 4 9 ?_
 refine wa 10 66 3 4 10 ?_
 refine wa 11 2 1 4 12 (aA (aI ?_))
 cases h0
 exact dG (rs:=[.cell 10 32, .tmp 11]) [6,7,8,9,10,11] rfl
 refine sk (sq [0,1,2,3,4,5,6,7,8,9] (pm ?_))
 refine pm ?_
 refine rP rfl (eL rfl rfl) ?_
 obtain ⟨v7,hv7,h0⟩:=bnd h0
 refine rS rfl (aM 6 (oA hv7) rfl rfl rfl) (rP rfl (aL (r := .tup _) rfl) (rP rfl (aN rfl rfl) (rP rfl (aN rfl rfl) (al 6 [z0,z0] tok ?_))))
 refine bst tok ?_
 refine pa (nx (aB (sq [0,1] ?_)))
 refine pm ?_
 refine rP rfl (cQ rfl rfl) (nx ?_)
 refine bC h0 rfl (fun hc h0 => ?_) (fun hc h0 => ?_)
 refine sq [0,1,2,3] (rP rfl (pbl (C0:=[ze,zl,zl,z0,z0,z0,z0,z0,ze,zl,zl,z0,zl,z0]) tok rfl rfl rfl) (pm ?_))
 refine bst tok ?_
 refine pa (nx ?_)
 refine wa 7 88 2 4 1 ?_
 refine cN (dR 8 (k:=7) 2 1 aS rfl rfl) (wa 9 90 4 4 2 ?_)
 refine wa 10 62 3 4 9 ?_
 refine wa 11 66 3 4 10 ?_
 refine wa 12 2 1 4 12 (aA (aI ?_))
 cases h0
 exact dG (rs:=[.cell 10 32, .tmp 11]) [7,8,9,10,11,12] rfl
 refine sk (sq [0,1,2,3,4,5,6,7,8] (rL rfl (bA tok rfl rfl rfl rfl) (rP rfl (pbl (C0:=[z0,z0,z0,z0,z0]) tok rfl rfl rfl) ?_)))
 obtain ⟨v8,hv8,h0⟩:=bnd h0
 refine rS rfl (aM 7 (aHf hv8) rfl rfl rfl) (rP rfl (aL (r := .tup _) rfl) (rP rfl (aN rfl rfl) (rP rfl (aN rfl rfl) (al 7 [zl,z0,z0] tok ?_))))
 refine bst tok ?_
 refine pa (nx (aB (sq [0,1] ?_)))
 refine pm ?_
 refine rP rfl (cQ rfl rfl) (nx ?_)
 refine bC h0 rfl (fun hc h0 => ?_) (fun hc h0 => ?_)
 refine sq [0,1,2,3] (rP rfl (pbl (C0:=[ze,zl,zl,z0,z0,z0,z0,z0,ze,zl,zl,z0,zl,z0]) tok rfl rfl rfl) (pm ?_))
 refine bst tok ?_
 refine pa (nx ?_)
 refine wa 8 88 2 4 1 ?_
 refine cN (dR 9 (k:=8) 2 1 aS rfl rfl) (wa 10 90 4 4 2 ?_)
 refine wa 11 62 3 4 9 ?_
 refine wa 12 66 3 4 10 ?_
 refine wa 13 2 1 4 12 (aA (aI ?_))
 cases h0
 exact dG (rs:=[.cell 10 32, .tmp 11]) [8,9,10,11,12,13] rfl
 refine sk (aB (sq [0,1,2,3] (fa tok ?_)))
 refine fa tok ?_
 refine ld tok ?_
 refine rP rfl (cQ rfl rfl) (nx ?_)
 refine bC h0 rfl (fun hc h0 => ?_) (fun hc h0 => ?_)
 refine sq [0,1,2] (rP rfl (pbl (C0:=[ze,zl,zl,z0,z0,z0,z0,z0,ze,zl,zl,z0,zl,z0]) tok rfl rfl rfl) (bst tok ?_))
 refine pa (nx ?_)
 refine wa 8 88 2 4 1 ?_
 refine cN (dR 9 (k:=8) 2 1 aS rfl rfl) (wa 10 90 4 4 2 ?_)
 refine wa 11 62 3 4 9 ?_
 refine wa 12 66 3 4 10 ?_
 refine wa 13 2 1 4 12 (aA (aI ?_))
 cases h0
 exact dG (rs:=[.cell 10 32, .tmp 11]) [8,9,10,11,12,13] rfl
 refine sk (aB (aH (is:=[0,1,2,3,4,5,6,7,8,9,10,11]) [0,1,3,7,0,16,48,112,0,0,783,2047] follows (by kernel_rfl) (tfa tok ?_)))
 refine tld tok ?_
 obtain ⟨v9,hv9,h0⟩:=bnd h0
 refine tP rfl (cE tok hv9 rfl rfl rfl rfl rfl rfl) (tP rfl (bJ tok rfl rfl rfl (by repeat (first | exact gV.z _ | apply gV.t))) (tfa tok ?_))
 refine tld tok ?_
 obtain ⟨v10,hv10,h0⟩:=bnd h0
 refine tP rfl (cE tok hv10 rfl rfl rfl rfl rfl rfl) (tP rfl (bJ tok rfl rfl rfl (by repeat (first | exact gV.z _ | apply gV.t))) (aEt rfl w0 rfl rfl (fun hx hk=>oU 8 (cs:=[z0,z0]) tok rfl rfl hk) (aEt rfl w0 rfl rfl (fun hx hk=>oU 9 (cs:=[z0,z0]) tok rfl rfl hk) (oN rfl w0 (jA (cs:=_ :: _) tok rfl rfl rfl rfl rfl rfl rfl) (oN rfl w0 (jA (cs:=_ :: _) tok rfl rfl rfl rfl rfl rfl rfl) (bN ?_))))))
 refine ⟨by kernel_rfl,?_⟩
 refine aG (sq [0,1,2,3,4,5,6,7,8,9,10,11,12,13,14,15,16,17,18,19,20,21,22,23,24,25,26] (fa tok ?_))
 refine ld tok ?_
 refine rS rfl (mE 10 tok cI [v9.Driver,12] rfl rfl rfl (by repeat (first | exact Els.nil _ | apply Els.cons (cs:=[.d _]) rfl rfl rfl | apply Els.cons (cs:=_ :: _) rfl rfl rfl)) rfl rfl rfl (by repeat (first | exact cR.nil | (apply cR.cons; (repeat (first | exact eZ.nil | apply eZ.cons))))) rfl rfl) (rP rfl (pbl (C0:=[ze,zl]) tok rfl rfl rfl) (fa tok ?_))
 refine ld tok ?_
 refine fa tok ?_
 refine ld tok ?_
 refine rS rfl (mE 11 tok cI [v9.Driven,v10.Driver] rfl rfl rfl (by repeat (first | exact Els.nil _ | apply Els.cons (cs:=[.d _]) rfl rfl rfl | apply Els.cons (cs:=_ :: _) rfl rfl rfl)) rfl rfl rfl (by repeat (first | exact cR.nil | (apply cR.cons; (repeat (first | exact eZ.nil | apply eZ.cons))))) rfl rfl) (rP rfl (pbl (C0:=[ze,zl]) tok rfl rfl rfl) (fa tok ?_))
 refine ld tok ?_
 refine rS rfl (mE 12 tok cI [v10.Driven] rfl rfl rfl (by repeat (first | exact Els.nil _ | apply Els.cons (cs:=[.d _]) rfl rfl rfl | apply Els.cons (cs:=_ :: _) rfl rfl rfl)) rfl rfl rfl (by repeat (first | exact cR.nil | (apply cR.cons; (repeat (first | exact eZ.nil | apply eZ.cons))))) rfl rfl) (rP rfl (pbl (C0:=[ze,zl]) tok rfl rfl rfl) (rS rfl (mE 13 tok cI [36,10] rfl rfl rfl (by repeat (first | exact Els.nil _ | apply Els.cons (cs:=[.d _]) rfl rfl rfl | apply Els.cons (cs:=_ :: _) rfl rfl rfl)) rfl rfl rfl (by repeat (first | exact cR.nil | (apply cR.cons; (repeat (first | exact eZ.nil | apply eZ.cons))))) rfl rfl) (rP rfl (pbl (C0:=[ze,zl]) tok rfl rfl rfl) (rS rfl (mE 14 tok cI [40] rfl rfl rfl (by repeat (first | exact Els.nil _ | apply Els.cons (cs:=[.d _]) rfl rfl rfl | apply Els.cons (cs:=_ :: _) rfl rfl rfl)) rfl rfl rfl (by repeat (first | exact cR.nil | (apply cR.cons; (repeat (first | exact eZ.nil | apply eZ.cons))))) rfl rfl) (rP rfl (pbl (C0:=[ze,zl]) tok rfl rfl rfl) (oK (aFa (k:=10) (t':=aC (aC (aC (aC (aC (aC (aC (aC (aC (aC (aC ((fun _ => .dead)) 0 (dS p0)) 1 (dI p1)) 2 (dI p2)) 8 (.ptr 3 0 1 0 0)) 10 (.ptr 4 0 1 0 0)) 12 (.own 5 0 (v6.1).length)) 88 (.agg [dS (⟨#[99,101,110,116,101,114]⟩:ByteArray),(dL cI [v9.Driver,12])])) 94 (.agg [dS (⟨#[116,104,105,114,100]⟩:ByteArray), .own 11 0 ([v9.Driven,v10.Driver]).length])) 98 (.agg [dS (⟨#[101,115,99,97,112,101]⟩:ByteArray), .own 12 0 ([v10.Driven]).length])) 100 (.agg [dS (⟨#[109,105,110,117,116,101]⟩:ByteArray), .own 13 0 ([36,10]).length])) 102 (.agg [dS (⟨#[104,111,117,114]⟩:ByteArray), .own 14 0 ([40]).length])) rfl (FzL.nil)) (oK (aFa (k:=11) (t':=aC (aC (aC (aC (aC (aC (aC (aC (aC (aC (aC ((fun _ => .dead)) 0 (dS p0)) 1 (dI p1)) 2 (dI p2)) 8 (.ptr 3 0 1 0 0)) 10 (.ptr 4 0 1 0 0)) 12 (.own 5 0 (v6.1).length)) 88 (.agg [dS (⟨#[99,101,110,116,101,114]⟩:ByteArray),(dL cI [v9.Driver,12])])) 94 (.agg [dS (⟨#[116,104,105,114,100]⟩:ByteArray),(dL cI [v9.Driven,v10.Driver])])) 98 (.agg [dS (⟨#[101,115,99,97,112,101]⟩:ByteArray), .own 12 0 ([v10.Driven]).length])) 100 (.agg [dS (⟨#[109,105,110,117,116,101]⟩:ByteArray), .own 13 0 ([36,10]).length])) 102 (.agg [dS (⟨#[104,111,117,114]⟩:ByteArray), .own 14 0 ([40]).length])) rfl (FzL.nil)) (oK (aFa (k:=12) (t':=aC (aC (aC (aC (aC (aC (aC (aC (aC (aC (aC ((fun _ => .dead)) 0 (dS p0)) 1 (dI p1)) 2 (dI p2)) 8 (.ptr 3 0 1 0 0)) 10 (.ptr 4 0 1 0 0)) 12 (.own 5 0 (v6.1).length)) 88 (.agg [dS (⟨#[99,101,110,116,101,114]⟩:ByteArray),(dL cI [v9.Driver,12])])) 94 (.agg [dS (⟨#[116,104,105,114,100]⟩:ByteArray),(dL cI [v9.Driven,v10.Driver])])) 98 (.agg [dS (⟨#[101,115,99,97,112,101]⟩:ByteArray),(dL cI [v10.Driven])])) 100 (.agg [dS (⟨#[109,105,110,117,116,101]⟩:ByteArray), .own 13 0 ([36,10]).length])) 102 (.agg [dS (⟨#[104,111,117,114]⟩:ByteArray), .own 14 0 ([40]).length])) rfl (FzL.nil)) (oK (aFa (k:=13) (t':=aC (aC (aC (aC (aC (aC (aC (aC (aC (aC (aC ((fun _ => .dead)) 0 (dS p0)) 1 (dI p1)) 2 (dI p2)) 8 (.ptr 3 0 1 0 0)) 10 (.ptr 4 0 1 0 0)) 12 (.own 5 0 (v6.1).length)) 88 (.agg [dS (⟨#[99,101,110,116,101,114]⟩:ByteArray),(dL cI [v9.Driver,12])])) 94 (.agg [dS (⟨#[116,104,105,114,100]⟩:ByteArray),(dL cI [v9.Driven,v10.Driver])])) 98 (.agg [dS (⟨#[101,115,99,97,112,101]⟩:ByteArray),(dL cI [v10.Driven])])) 100 (.agg [dS (⟨#[109,105,110,117,116,101]⟩:ByteArray),(dL cI [36,10])])) 102 (.agg [dS (⟨#[104,111,117,114]⟩:ByteArray), .own 14 0 ([40]).length])) rfl (FzL.nil)) (oK (aFa (k:=14) (t':=aC (aC (aC (aC (aC (aC (aC (aC (aC (aC (aC ((fun _ => .dead)) 0 (dS p0)) 1 (dI p1)) 2 (dI p2)) 8 (.ptr 3 0 1 0 0)) 10 (.ptr 4 0 1 0 0)) 12 (.own 5 0 (v6.1).length)) 88 (.agg [dS (⟨#[99,101,110,116,101,114]⟩:ByteArray),(dL cI [v9.Driver,12])])) 94 (.agg [dS (⟨#[116,104,105,114,100]⟩:ByteArray),(dL cI [v9.Driven,v10.Driver])])) 98 (.agg [dS (⟨#[101,115,99,97,112,101]⟩:ByteArray),(dL cI [v10.Driven])])) 100 (.agg [dS (⟨#[109,105,110,117,116,101]⟩:ByteArray),(dL cI [36,10])])) 102 (.agg [dS (⟨#[104,111,117,114]⟩:ByteArray),(dL cI [40])])) rfl (FzL.nil)) (rS rfl (mE 15 tok aS [(⟨(⟨#[99,101,110,116,101,114]⟩:ByteArray),[v9.Driver,12]⟩:bO),(⟨(⟨#[116,104,105,114,100]⟩:ByteArray),[v9.Driven,v10.Driver]⟩:bO),(⟨(⟨#[101,115,99,97,112,101]⟩:ByteArray),[v10.Driven]⟩:bO),(⟨(⟨#[109,105,110,117,116,101]⟩:ByteArray),[36,10]⟩:bO),(⟨(⟨#[104,111,117,114]⟩:ByteArray),[40]⟩:bO)] rfl rfl rfl (by repeat (first | exact Els.nil _ | apply Els.cons (cs:=[.d _]) rfl rfl rfl | apply Els.cons (cs:=_ :: _) rfl rfl rfl)) rfl rfl rfl (by repeat (first | exact cR.nil | (apply cR.cons; (repeat (first | exact eZ.nil | apply eZ.cons))))) rfl rfl) ?_)))))))))))
 iterate 4 refine rP rfl (pbl (C0:=[z0,z0,z0,z0]) tok rfl rfl rfl) ?_
 refine rS rfl (mE 16 tok bV [(⟨0,0,1,0⟩:bR),(⟨1,1,2,0⟩:bR),(⟨0,1,3,0⟩:bR),(⟨3,1,4,0⟩:bR)] rfl rfl rfl (by repeat (first | exact Els.nil _ | apply Els.cons (cs:=[.d _]) rfl rfl rfl | apply Els.cons (cs:=_ :: _) rfl rfl rfl)) rfl rfl rfl (by repeat (first | exact cR.nil | (apply cR.cons; (repeat (first | exact eZ.nil | apply eZ.cons))))) rfl rfl) (rP rfl (pbl (C0:=[zl,zl]) tok rfl rfl rfl) (al 17 [zl,zl] tok ?_))
 refine bst tok (nx (sq [0,1,2,3,4,5,6,7,8,9] ?_))
 refine pm ?_
 refine rL rfl (bA tok rfl rfl rfl rfl) (pm ?_)
 refine pm ?_
 refine rL rfl (bA tok rfl rfl rfl rfl) (rP rfl (aL (r := .own _ _ _) rfl) (rP rfl (pbl (C0:=[ze,zl,zl,z0,z0,z0,z0,z0,ze,zl,zl,z0,zl,z0]) tok rfl rfl rfl) ?_))
 obtain ⟨v11,hv11,h0⟩:=bnd h0
 refine rS rfl (eW 18 (wE hv11) rfl rfl) (bst tok ?_)
 refine pa (nx (aA ?_))
 cases h0
 exact dG (rs:=[.cell 10 32, .tmp 11]) [18,19,20,21,22,23] rfl
theorem zI {p0:bG} {p1:Int} {r:Bool} (h0:mX p0 p1=some r):FnC Tryz.prog 83 [] [.agg [dL aS p0.Arbors,(dL bV p0.Meshes)],(dI p1)] [] (dB r):=by
 refine fi 11 tok Tryz.func83 ?_
 unfold mX at h0
 refine sq [0,1] (bxx 3 ?_)
 refine pa (nx (sq [0,1,2,3,4,5,6] ?_))
 refine pm ?_
 refine fa tok ?_
 refine ld tok ?_
 refine rP rfl (aJ tok rfl rfl rfl) (rP rfl (gX rfl rfl) ?_)
 obtain ⟨v1,hv1,h0⟩:=bnd h0
 refine rS rfl (aM 4 (dX hv1) rfl rfl rfl) (pa (nx (aA ?_)))
 cases h0
 exact r0t 4 rfl
theorem aFq {p0:bO} {r:Bool} (h0:mK p0=some r):FnC Tryz.prog 143 [] [.agg [dS p0.Name,(dL cI p0.Wheels)]] [] (dB r):=by
 refine fi 25 tok Tryz.func143 ?_
 unfold mK at h0
 refine sq [0,1] (bxx 3 ?_)
 refine pa (nx ?_)
 obtain ⟨v7x,h1,h0⟩:=bnd h0
 refine dH v7x (fun v7=>⟨aC ((fun _ => .dead)) 1 (.ptr 3 0 1 0 0),lks [.no, .no, .no, .live [⟨88,2, .av [[dS p0.Name,(dL cI p0.Wheels)]]⟩]]⟩) ?_ ?_
 refine sq [0,1,2,3] (fa tok ?_)
 refine ld tok ?_
 refine rP rfl (aJ tok rfl rfl rfl) (pm (nx (aE ?_)))
 refine aZ (fun s4=>⟨aC (aC (aC (aC ((fun _ => .dead)) 1 (.ptr 3 0 1 0 0)) 6 (dL cI p0.Wheels)) 7 (dI (p0.Wheels.length:Int))) 8 (dI s4),lks [.no, .no, .no, .live [⟨88,2, .av [[dS p0.Name,(dL cI p0.Wheels)]]⟩]]⟩) h1 ?_ (fun s4 y h2 => ?_)
 exact wk [0,1,2,3]
 refine sq [0] (rP rfl (bK rfl rfl) (nx (aB ?_)))
 refine bC h2 rfl (fun hc h2 => ?_) (fun hc h2 => ?_)
 refine sk (aB (aE (sq [0,1,2] ?_)))
 obtain ⟨v5,hv5,h2⟩:=bnd h2
 refine rP rfl (cE tok hv5 rfl rfl rfl rfl rfl rfl) (lr tok ?_)
 refine pa (nx (sq [0,1,2] ?_))
 refine pm ?_
 obtain ⟨v6,hv6,h2⟩:=bnd h2
 refine rS rfl (aM 4 (sC hv6) rfl rfl rfl) (rP rfl (bW rfl) (nx ?_))
 refine bM h2 rfl (fun hc h2 => ?_) (fun hc h2 => ?_)
 refine sq [0] (pa (nx (aA ?_)))
 refine aX (aI ?_)
 cases h2
 refine dM ⟨_,rfl,fun e => ?_⟩
 subst e
 refine aX ?_
 replace h0:=eT h0
 refine aI ?_
 cases h0
 exact r0t 2 rfl
 refine cX (bB (aG (sr [0,1] (rP rfl (bH rfl rfl) (pm (aY ?_))))))
 refine bS ?_
 cases h2
 refine ⟨_,rfl,?_⟩
 exact wk [0,1,2,3]
 refine bF (bT ?_)
 cases h2
 refine bU ⟨_,rfl,fun e => ?_⟩
 subst e
 refine aQ (aG ?_)
 refine ⟨_,rfl,?_⟩
 exact wk [0,1,2,3]
 rintro v7 rfl
 replace h0:=gS h0
 refine sq [0,1,2,3,4,5,6,7,8,9] (fa tok ?_)
 refine ld tok ?_
 obtain ⟨v8,hv8,h0⟩:=bnd h0
 refine rS rfl (aM 4 (uH hv8) rfl rfl rfl) (pm ?_)
 refine dU (u:=19) h0 rfl (fun hc h0 => ?_) (fun hc h0 => ?_)
 refine fa1 tok ?_
 refine ld1 tok ?_
 refine rp rfl (w1 rfl rfl rfl) rfl (aJ tok rfl rfl rfl) (rp rfl (w1 rfl rfl rfl) rfl (gW rfl rfl) (pkt ?_))
 refine pa (nx (aA ?_))
 cases h0
 exact r0t 2 rfl
 iterate 4 refine k1 ?_
 refine pkf ?_
 refine pa (nx (aA ?_))
 cases h0
 exact r0t 2 rfl
theorem aB2 {p0:bG} {p1:Int} {p2:Int} {r:Bool} (h0:nJ p0 p1 p2=some r):FnC Tryz.prog 191 [] [.agg [dL aS p0.Arbors,(dL bV p0.Meshes)],(dI p1),(dI p2)] [] (dB r):=by
 refine fi 25 tok Tryz.func191 ?_
 unfold nJ at h0
 refine sq [0,1] (bxx 3 ?_)
 refine pa (nx (sq [0,1,2,3,4,5,6,7,8,9,10,11,12,13,14,15,16,17,18] ?_))
 refine pm ?_
 refine fa tok ?_
 refine ld tok ?_
 refine rP rfl (aJ tok rfl rfl rfl) (rP rfl (gX rfl rfl) ?_)
 obtain ⟨v1,hv1,h0⟩:=bnd h0
 refine rS rfl (aM 4 (dX hv1) rfl rfl rfl) (pm ?_)
 refine dU (u:=13) h0 rfl (fun hc h0 => ?_) (fun hc h0 => ?_)
 refine pm1 ?_
 refine fa1 tok ?_
 refine ld1 tok ?_
 refine pm1 ?_
 obtain ⟨v2,hv2,h0⟩:=bnd h0
 refine rp rfl (w1 rfl rfl rfl) rfl (cE tok hv2 rfl rfl rfl rfl rfl rfl) (fr1 tok ?_)
 refine lr1 tok ?_
 refine rp rfl (w1 rfl rfl rfl) rfl (aJ tok rfl rfl rfl) (rp rfl (w1 rfl rfl rfl) rfl (gX rfl rfl) ?_)
 obtain ⟨v3,hv3,h0⟩:=bnd h0
 refine rs rfl (w1 rfl rfl rfl) rfl (aM 4 (dX hv3) rfl rfl rfl) (pkt ?_)
 refine pa (nx (aA ?_))
 cases h0
 exact r0t 6 rfl
 iterate 10 refine k1 ?_
 refine pkf ?_
 refine pa (nx (aA ?_))
 cases h0
 exact r0t 6 rfl
theorem aQy {p0:bG} {p1:bR} {r:Bool} (h0:wZ p0 p1=some r):FnC Tryz.prog 144 [] [.agg [dL aS p0.Arbors,(dL bV p0.Meshes)], .agg [dI p1.A,(dI p1.WheelA),(dI p1.B),(dI p1.WheelB)]] [] (dB r):=by
 refine fi 26 tok Tryz.func144 ?_
 unfold wZ at h0
 refine sq [0,1,2] (bxx 3 ?_)
 refine bxx 4 ?_
 refine pa (nx (sq [0,1,2,3,4,5,6,7,8,9,10,11,12,13,14,15,16,17,18,19,20,21] ?_))
 refine fa tok ?_
 refine ld tok ?_
 refine fa tok ?_
 refine ld tok ?_
 refine rP rfl (cQ rfl rfl) (pm ?_)
 refine iT (u:=10) h0 rfl (fun hc h0 => ?_) (fun hc h0 => ?_)
 refine rl rfl (w1 rfl rfl rfl) rfl (bA tok rfl rfl rfl rfl) (fa1 tok ?_)
 refine ld1 tok ?_
 refine fa1 tok ?_
 refine ld1 tok ?_
 obtain ⟨v1,hv1,h0⟩:=bnd h0
 refine rs rfl (w1 rfl rfl rfl) rfl (aM 5 (aB2 hv1) rfl rfl rfl) (pkt ?_)
 refine pm ?_
 refine dU (u:=18) h0 rfl (fun hc h0 => ?_) (fun hc h0 => ?_)
 refine rl rfl (w1 rfl rfl rfl) rfl (bA tok rfl rfl rfl rfl) (fa1 tok ?_)
 refine ld1 tok ?_
 refine fa1 tok ?_
 refine ld1 tok ?_
 obtain ⟨v2,hv2,h0⟩:=bnd h0
 refine rs rfl (w1 rfl rfl rfl) rfl (aM 5 (aB2 hv2) rfl rfl rfl) (pkt ?_)
 refine pa (nx (aA ?_))
 cases h0
 exact r0t 4 rfl
 iterate 6 refine k1 ?_
 refine pkf ?_
 refine pa (nx (aA ?_))
 cases h0
 exact r0t 4 rfl
 iterate 6 refine k1 ?_
 refine pkf ?_
 refine pm ?_
 iterate 6 refine k1 ?_
 refine pkf ?_
 refine pa (nx (aA ?_))
 cases h0
 exact r0t 4 rfl
theorem aJv {p0:bR} {p1:bR} {r:Bool} (h0:qL p0 p1=some r):FnC Tryz.prog 147 [] [.agg [dI p0.A,(dI p0.WheelA),(dI p0.B),(dI p0.WheelB)], .agg [dI p1.A,(dI p1.WheelA),(dI p1.B),(dI p1.WheelB)]] [] (dB r):=by
 refine fi 21 tok Tryz.func147 ?_
 unfold qL at h0
 refine sq [0,1,2] (bxx 3 ?_)
 refine bxx 4 ?_
 refine pa (nx (sq [0,1,2,3,4,5,6,7,8,9,10,11,12,13,14,15,16] ?_))
 refine rL rfl (bA tok rfl rfl rfl rfl) (rL rfl (bA tok rfl rfl rfl rfl) (rP rfl (xE (a:=p0) (b:=p1) rfl rfl) (pm ?_)))
 refine iT (u:=8) h0 rfl (fun hc h0 => ?_) (fun hc h0 => ?_)
 iterate 11 refine k1 ?_
 refine pkt ?_
 refine pa (nx (aA ?_))
 cases h0
 exact r0t 4 rfl
 refine rl rfl (w1 rfl rfl rfl) rfl (bA tok rfl rfl rfl rfl) (fa1 tok ?_)
 refine ld1 tok ?_
 refine fa1 tok ?_
 refine ld1 tok ?_
 refine fa1 tok ?_
 refine ld1 tok ?_
 refine fa1 tok ?_
 refine ld1 tok ?_
 refine rp rfl (w1 rfl rfl rfl) rfl (pbl (C0:=[z0,z0,z0,z0]) tok rfl rfl rfl) (rp rfl (w1 rfl rfl rfl) rfl (xE (a:=p0) (b:=(⟨p1.B,p1.WheelB,p1.A,p1.WheelA⟩:bR)) rfl rfl) (pkf ?_))
 refine pa (nx (aA ?_))
 cases h0
 exact r0t 4 rfl
theorem aCm {p0:bR} {p1:bR} {r:Bool} (h0:mS p0 p1=some r):FnC Tryz.prog 146 [] [.agg [dI p0.A,(dI p0.WheelA),(dI p0.B),(dI p0.WheelB)], .ref (bV p1)] [] (dB r):=by
 refine fi 7 tok Tryz.func146 ?_
 unfold mS at h0
 refine sq [0,1] (bxx 3 ?_)
 refine pa (nx (sq [0,1,2,3] ?_))
 refine rP rfl (bJ tok rfl rfl rfl (by repeat (first | exact gV.z _ | apply gV.t))) (rL rfl (bA tok rfl rfl rfl rfl) ?_)
 obtain ⟨v1,hv1,h0⟩:=bnd h0
 refine rS rfl (aM 4 (aJv hv1) rfl rfl rfl) (pa (nx (aA ?_)))
 cases h0
 exact r0t 3 rfl
theorem jM {p0:List bR} {p1_0:bR} {r:Int} (h0:dC p0 p1_0=some r):FnC Tryz.prog 192 [] [dL bV p0, .fn 146 [.ref (bV p1_0)]] [] (dI r):=by
 refine fi 19 tok Tryz.func192 ?_
 unfold dC at h0
 refine sq [0] (pa (nx ?_))
 obtain ⟨v7x,h1,h0⟩:=bnd h0
 refine dH v7x (fun v7=>⟨(fun _ => .dead),lks [.no, .no, .no]⟩) ?_ ?_
 refine sq [0,1,2] (pm ?_)
 refine rP rfl (aJ tok rfl rfl rfl) (pm (nx (aE ?_)))
 refine aZ (fun s4=>⟨aC (aC (aC (aC ((fun _ => .dead)) 0 (dL bV p0)) 1 (.fn 146 [.ref (bV p1_0)])) 7 (dI (p0.length:Int))) 8 (dI s4),lks [.no, .no, .no]⟩) h1 ?_ (fun s4 y h2 => ?_)
 exact wk [0,1,2]
 refine sq [0] (rP rfl (bK rfl rfl) (nx (aB ?_)))
 refine bC h2 rfl (fun hc h2 => ?_) (fun hc h2 => ?_)
 refine sk (aB (aE (sq [0,1] (pm ?_))))
 refine pa (nx (sq [0,1,2,3,4,5] ?_))
 refine rP rfl (aL (r := .fn _ _) rfl) (pm ?_)
 refine pm ?_
 obtain ⟨v5,hv5,h2⟩:=bnd h2
 refine rP rfl (cE tok hv5 rfl rfl rfl rfl rfl rfl) (rP rfl (bJ tok rfl rfl rfl (by repeat (first | exact gV.z _ | apply gV.t))) ?_)
 obtain ⟨v6,hv6,h2⟩:=bnd h2
 refine rS rfl (aM 3 (aCm hv6) rfl rfl rfl) (nx ?_)
 refine bM h2 rfl (fun hc h2 => ?_) (fun hc h2 => ?_)
 refine sq [0,1] (pm ?_)
 refine pa (nx (aA ?_))
 refine aX (aI ?_)
 cases h2
 refine dM ⟨_,rfl,fun e => ?_⟩
 subst e
 refine aX ?_
 replace h0:=eT h0
 refine aI ?_
 cases h0
 exact r0t 4 rfl
 refine cX (bB (aG (sr [0,1] (rP rfl (bH rfl rfl) (pm (aY ?_))))))
 refine bS ?_
 cases h2
 refine ⟨_,rfl,?_⟩
 exact wk [0,1,2]
 refine bF (bT ?_)
 cases h2
 refine bU ⟨_,rfl,fun e => ?_⟩
 subst e
 refine aQ (aG ?_)
 refine ⟨_,rfl,?_⟩
 exact wk [0,1,2]
 rintro v7 rfl
 replace h0:=gS h0
 refine sq [0] (pa (nx (aA ?_)))
 cases h0
 exact r0t 4 rfl
theorem iU {p0:List bR} {p1_0:bR} {r:Bool} (h0:cJ p0 p1_0=some r):FnC Tryz.prog 145 [] [dL bV p0, .fn 146 [.ref (bV p1_0)]] [] (dB r):=by
 refine fi 9 tok Tryz.func145 ?_
 unfold cJ at h0
 refine sq [0] (pa (nx (sq [0,1,2,3,4] ?_)))
 refine pm ?_
 refine rP rfl (aL (r := .fn _ _) rfl) ?_
 obtain ⟨v1,hv1,h0⟩:=bnd h0
 refine rS rfl (aM 3 (jM hv1) rfl rfl rfl) (rP rfl (tH rfl rfl) (pa (nx (aA ?_))))
 cases h0
 exact r0t 4 rfl
theorem yT {p0:bG} {r:Bool} (h0:kQ p0=some r):FnC Tryz.prog 84 [] [.agg [dL aS p0.Arbors,(dL bV p0.Meshes)]] [] (dB r):=by
 refine fi 67 tok Tryz.func84 ?_
 unfold kQ at h0
 refine sq [0,1] (bxx 3 ?_)
 refine pa (nx (aB ?_))
 obtain ⟨v1,h1,h0⟩:=bnd h0
 refine bI ⟨aC (aC ((fun _ => .dead)) 1 (.ptr 3 0 1 0 0)) 18 (dB v1),lks [.no, .no, .no, .live [⟨25,2, .av [[dL aS p0.Arbors,(dL bV p0.Meshes)]]⟩]]⟩ ?_ ?_
 refine sr [0,1,2,3,4,5,6,7,8,9] (fa tok ?_)
 refine ld tok ?_
 refine rP rfl (aJ tok rfl rfl rfl) (rP rfl (gT rfl rfl) (pm ?_))
 refine iT (u:=13) h1 rfl (fun hc h1 => ?_) (fun hc h1 => ?_)
 iterate 4 refine k1 ?_
 refine pkt (nx ?_)
 cases h1
 exact wk [0,1,2,3]
 refine fa1 tok ?_
 refine ld1 tok ?_
 refine rp rfl (w1 rfl rfl rfl) rfl (aJ tok rfl rfl rfl) (rp rfl (w1 rfl rfl rfl) rfl (gT rfl rfl) (pkf (nx ?_)))
 cases h1
 exact wk [0,1,2,3]
 refine bM h0 rfl (fun hc h0 => ?_) (fun hc h0 => ?_)
 refine sq [0] (pa (nx (aA (aI ?_))))
 cases h0
 exact r0t 2 rfl
 refine sk ?_
 obtain ⟨v20x,h1,h0⟩:=bnd h0
 refine dH v20x (fun v20=>⟨aC ((fun _ => .dead)) 1 (.ptr 3 0 1 0 0),lks [.no, .no, .no, .live [⟨25,2, .av [[dL aS p0.Arbors,(dL bV p0.Meshes)]]⟩]]⟩) ?_ ?_
 refine sq [0,1,2,3] (fa tok ?_)
 refine ld tok ?_
 refine rP rfl (aJ tok rfl rfl rfl) (pm (nx (aE ?_)))
 refine aZ (fun s11=>⟨aC (aC (aC (aC ((fun _ => .dead)) 1 (.ptr 3 0 1 0 0)) 20 (dL aS p0.Arbors)) 21 (dI (p0.Arbors.length:Int))) 22 (dI s11),lks [.no, .no, .no, .live [⟨25,2, .av [[dL aS p0.Arbors,(dL bV p0.Meshes)]]⟩]]⟩) h1 ?_ (fun s11 y h2 => ?_)
 exact wk [0,1,2,3]
 refine sq [0] (rP rfl (bK rfl rfl) (nx (aB ?_)))
 refine bC h2 rfl (fun hc h2 => ?_) (fun hc h2 => ?_)
 refine sk ?_
 obtain ⟨v19x,h3,h2⟩:=bnd h2
 refine dH v19x (fun v19=>⟨aC (aC (aC (aC ((fun _ => .dead)) 1 (.ptr 3 0 1 0 0)) 20 (dL aS p0.Arbors)) 21 (dI (p0.Arbors.length:Int))) 22 (dI s11),lks [.no, .no, .no, .live [⟨25,2, .av [[dL aS p0.Arbors,(dL bV p0.Meshes)]]⟩]]⟩) ?_ ?_
 refine aE (sq [0,1,2,3,4,5] (pm ?_))
 obtain ⟨v12,hv12,h3⟩:=bnd h3
 refine rP rfl (cE tok hv12 rfl rfl rfl rfl rfl rfl) (rP rfl (bJ tok rfl rfl rfl (by repeat (first | exact gV.z _ | apply gV.t))) (al 4 [ze,zl] tok ?_))
 refine pa ?_
 refine bst tok (nx (aB (sq [0,1,2] ?_)))
 refine rL rfl (bA tok rfl rfl rfl rfl) ?_
 obtain ⟨v13,hv13,h3⟩:=bnd h3
 refine rS rfl (aM 5 (aFq hv13) rfl rfl rfl) (rP rfl (bW rfl) (nx ?_))
 refine bM h3 rfl (fun hc h3 => ?_) (fun hc h3 => ?_)
 refine sq [0] (pa (nx (aA (aI ?_))))
 refine aX ?_
 cases h3
 replace h2:=eT h2
 refine aI ?_
 cases h2
 refine dM ⟨_,rfl,fun e => ?_⟩
 subst e
 refine aX ?_
 replace h0:=eT h0
 refine aI ?_
 cases h0
 exact r0t 2 rfl
 refine sk (sq [0,1,2,3,4,5] (fa tok ?_))
 refine ld tok ?_
 refine pm ?_
 obtain ⟨hq14,h3⟩:=cO h3
 refine rP rfl (vS tok hq14 rfl (.inl ⟨rfl,rfl⟩) (.inr ⟨_,_,rfl,rfl⟩) rfl rfl rfl (fun _=>rfl)) (rP rfl (aJ tok rfl rfl rfl) (pm (nx (aE ?_))))
 refine aZ (fun s17=>⟨aC (aC (aC (aC (aC (aC (aC (aC ((fun _ => .dead)) 1 (.ptr 3 0 1 0 0)) 4 (.ptr 4 0 1 0 0)) 20 (dL aS p0.Arbors)) 21 (dI (p0.Arbors.length:Int))) 22 (dI s11)) 33 (dL aS (zS p0.Arbors (0:Int) s11))) 34 (dI ((zS p0.Arbors (0:Int) s11).length:Int))) 35 (dI s17),lks [.no, .no, .no, .live [⟨25,2, .av [[dL aS p0.Arbors,(dL bV p0.Meshes)]]⟩], .live [⟨88,2, .av [[dS v12.Name,(dL cI v12.Wheels)]]⟩]]⟩) h3 ?_ (fun s17 y h4 => ?_)
 exact wk [0,1,2,3,4]
 refine sq [0] (rP rfl (bK rfl rfl) (nx (aB ?_)))
 refine bC h4 rfl (fun hc h4 => ?_) (fun hc h4 => ?_)
 refine sk (aB (aE (sq [0,1,2,3] ?_)))
 obtain ⟨v18,hv18,h4⟩:=bnd h4
 refine rP rfl (cE tok hv18 rfl rfl rfl rfl rfl rfl) (rP rfl (bJ tok rfl rfl rfl (by repeat (first | exact gV.z _ | apply gV.t))) (al 5 [ze,zl] tok ?_))
 refine bst tok (nx (sq [0,1,2,3,4] ?_))
 refine fa tok ?_
 refine ld tok ?_
 refine fa tok ?_
 refine ld tok ?_
 refine rP rfl (pH rfl rfl) (nx ?_)
 refine bC h4 rfl (fun hc h4 => ?_) (fun hc h4 => ?_)
 refine sq [0] (pa (nx (aA ?_)))
 refine aX (aI ?_)
 cases h4
 refine dM ⟨_,rfl,fun e => ?_⟩
 subst e
 refine aX (aX ?_)
 replace h2:=eT h2
 refine aI ?_
 cases h2
 refine dM ⟨_,rfl,fun e => ?_⟩
 subst e
 refine aX ?_
 replace h0:=eT h0
 refine aI ?_
 cases h0
 exact r0t 2 rfl
 refine cX (bB (aG (sr [0,1] (rP rfl (bH rfl rfl) (pm (aY ?_))))))
 refine bS ?_
 cases h4
 refine ⟨_,rfl,?_⟩
 exact wk [0,1,2,3,4]
 refine bF (bT ?_)
 cases h4
 refine bU ⟨_,rfl,fun e => ?_⟩
 subst e
 refine aQ ?_
 refine bB (aG ?_)
 refine ⟨_,rfl,?_⟩
 exact wk [0,1,2,3]
 rintro v19 rfl
 replace h2:=gS h2
 refine sr [0,1] (rP rfl (bH rfl rfl) (pm (aY ?_)))
 refine bS ?_
 cases h2
 refine ⟨_,rfl,?_⟩
 exact wk [0,1,2,3]
 refine bF (bT ?_)
 cases h2
 refine bU ⟨_,rfl,fun e => ?_⟩
 subst e
 refine aQ (aG ?_)
 refine ⟨_,rfl,?_⟩
 exact wk [0,1,2,3]
 rintro v20 rfl
 replace h0:=gS h0
 obtain ⟨v33x,h1,h0⟩:=bnd h0
 refine dH v33x (fun v33=>⟨(fun _ => .dead),lks [.no, .no, .no]⟩) ?_ ?_
 refine sq [0,1,2,3] (fa tok ?_)
 refine ld tok ?_
 refine rP rfl (aJ tok rfl rfl rfl) (pm (nx (aE ?_)))
 refine aZ (fun s27=>⟨aC (aC (aC (aC ((fun _ => .dead)) 1 (.ptr 3 0 1 0 0)) 47 (dL bV p0.Meshes)) 48 (dI (p0.Meshes.length:Int))) 49 (dI s27),lks [.no, .no, .no, .live [⟨25,2, .av [[dL aS p0.Arbors,(dL bV p0.Meshes)]]⟩]]⟩) h1 ?_ (fun s27 y h2 => ?_)
 exact wk [0,1,2,3]
 refine sq [0] (rP rfl (bK rfl rfl) (nx (aB ?_)))
 refine bC h2 rfl (fun hc h2 => ?_) (fun hc h2 => ?_)
 refine sk (aB (aE (sq [0,1,2,3,4,5] (pm ?_))))
 obtain ⟨v28,hv28,h2⟩:=bnd h2
 refine rP rfl (cE tok hv28 rfl rfl rfl rfl rfl rfl) (rP rfl (bJ tok rfl rfl rfl (by repeat (first | exact gV.z _ | apply gV.t))) (al 4 [z0,z0,z0,z0] tok ?_))
 refine pa ?_
 refine bst tok (nx ?_)
 obtain ⟨v32,h3,h2⟩:=bnd h2
 refine bI ⟨aC (aC (aC (aC (aC ((fun _ => .dead)) 1 (.ptr 3 0 1 0 0)) 47 (dL bV p0.Meshes)) 48 (dI (p0.Meshes.length:Int))) 49 (dI s27)) 65 (dB v32),lks [.no, .no, .no, .live [⟨25,2, .av [[dL aS p0.Arbors,(dL bV p0.Meshes)]]⟩]]⟩ ?_ ?_
 refine sr [0,1,2,3,4,5,6,7,8,9,10,11] (rL rfl (bA tok rfl rfl rfl rfl) (rL rfl (bA tok rfl rfl rfl rfl) ?_))
 obtain ⟨v29,hv29,h3⟩:=bnd h3
 refine rS rfl (aM 5 (aQy hv29) rfl rfl rfl) (rP rfl (bW rfl) (pm ?_))
 refine dU (u:=58) h3 rfl (fun hc h3 => ?_) (fun hc h3 => ?_)
 iterate 6 refine k1 ?_
 refine pkt (nx ?_)
 cases h3
 exact wk [0,1,2,3]
 refine fa1 tok ?_
 refine ld1 tok ?_
 refine pm1 ?_
 obtain ⟨hq30,h3⟩:=cO h3
 refine rp rfl (w1 rfl rfl rfl) rfl (vS tok hq30 rfl (.inl ⟨rfl,rfl⟩) (.inr ⟨_,_,rfl,rfl⟩) rfl rfl rfl (fun _=>rfl)) (rp rfl (w1 rfl rfl rfl) rfl (aMq rfl) ?_)
 obtain ⟨v31,hv31,h3⟩:=bnd h3
 refine rs rfl (w1 rfl rfl rfl) rfl (eW 5 (iU hv31) rfl rfl) (pkf (nx ?_))
 cases h3
 exact wk [0,1,2,3]
 refine bM h2 rfl (fun hc h2 => ?_) (fun hc h2 => ?_)
 refine sq [0] (pa (nx (aA ?_)))
 refine aX (aI ?_)
 cases h2
 refine dM ⟨_,rfl,fun e => ?_⟩
 subst e
 refine aX ?_
 replace h0:=eT h0
 refine aI ?_
 cases h0
 exact r0t 2 rfl
 refine cX (bB (aG (sr [0,1] (rP rfl (bH rfl rfl) (pm (aY ?_))))))
 refine bS ?_
 cases h2
 refine ⟨_,rfl,?_⟩
 exact wk [0,1,2,3]
 refine bF (bT ?_)
 cases h2
 refine bU ⟨_,rfl,fun e => ?_⟩
 subst e
 refine aQ (aG ?_)
 refine ⟨_,rfl,?_⟩
 exact wk [0,1,2]
 rintro v33 rfl
 replace h0:=gS h0
 refine sq [0] (pa (nx (aA ?_)))
 cases h0
 exact r0t 2 rfl
theorem aB1 {p0:List Int} {r:Bool} (h0:nI p0=some r):FnC Tryz.prog 85 [] [dL cI p0] [] (dB r):=by
 refine fi 23 tok Tryz.func85 ?_
 unfold nI at h0
 refine sq [0] (pa (nx ?_))
 obtain ⟨v7x,h1,h0⟩:=bnd h0
 refine dH v7x (fun v7=>⟨aC ((fun _ => .dead)) 0 (dL cI p0),lks [.no, .no, .no]⟩) ?_ ?_
 refine sq [0,1,2] (pm ?_)
 refine rP rfl (aJ tok rfl rfl rfl) (pm (nx (aE ?_)))
 refine aZ (fun s4=>⟨aC (aC (aC (aC ((fun _ => .dead)) 0 (dL cI p0)) 5 (dL cI p0)) 6 (dI (p0.length:Int))) 7 (dI s4),lks [.no, .no, .no]⟩) h1 ?_ (fun s4 y h2 => ?_)
 exact wk [0,1,2]
 refine sq [0] (rP rfl (bK rfl rfl) (nx (aB ?_)))
 refine bC h2 rfl (fun hc h2 => ?_) (fun hc h2 => ?_)
 refine sk (aB (aE (sq [0,1,2] ?_)))
 obtain ⟨v5,hv5,h2⟩:=bnd h2
 refine rP rfl (cE tok hv5 rfl rfl rfl rfl rfl rfl) (lr tok ?_)
 refine pa (nx (sq [0,1,2] ?_))
 refine pm ?_
 obtain ⟨v6,hv6,h2⟩:=bnd h2
 refine rS rfl (aM 3 (dX hv6) rfl rfl rfl) (rP rfl (bW rfl) (nx ?_))
 refine bM h2 rfl (fun hc h2 => ?_) (fun hc h2 => ?_)
 refine sq [0] (pa (nx (aA ?_)))
 refine aX (aI ?_)
 cases h2
 refine dM ⟨_,rfl,fun e => ?_⟩
 subst e
 refine aX ?_
 replace h0:=eT h0
 refine aI ?_
 cases h0
 exact r0t 2 rfl
 refine cX (bB (aG (sr [0,1] (rP rfl (bH rfl rfl) (pm (aY ?_))))))
 refine bS ?_
 cases h2
 refine ⟨_,rfl,?_⟩
 exact wk [0,1,2]
 refine bF (bT ?_)
 cases h2
 refine bU ⟨_,rfl,fun e => ?_⟩
 subst e
 refine aQ (aG ?_)
 refine ⟨_,rfl,?_⟩
 exact wk [0,1,2]
 rintro v7 rfl
 replace h0:=gS h0
 refine sq [0,1,2,3,4,5,6,7,8] (pm ?_)
 refine rP rfl (aJ tok rfl rfl rfl) (rP rfl (tH rfl rfl) (pm ?_))
 refine iT (u:=18) h0 rfl (fun hc h0 => ?_) (fun hc h0 => ?_)
 refine pm1 ?_
 refine rp rfl (w1 rfl rfl rfl) rfl (aJ tok rfl rfl rfl) (rp rfl (w1 rfl rfl rfl) rfl (gW rfl rfl) (pkt ?_))
 refine pa (nx (aA ?_))
 cases h0
 exact r0t 2 rfl
 iterate 3 refine k1 ?_
 refine pkf ?_
 refine pa (nx (aA ?_))
 cases h0
 exact r0t 2 rfl
theorem uJ {p0:aW} {r:Bool} (h0:gI p0=some r):FnC Tryz.prog 40 [] [.agg [dS p0.Name,(dL aS p0.Works.Arbors),(dL bV p0.Works.Meshes),(dI p0.Minute),(dI p0.Hour),(dI p0.Escape),(dI p0.Teeth),(dI p0.Beats),(dS p0.Calendar.Name),(dL aT p0.Calendar.Months),(dL aK p0.Calendar.Rules),(dI p0.Calendar.Week),(dL cI p0.Cam),(dI p0.Strike)]] [] (dB r):=by
 refine fi 61 tok Tryz.func40 ?_
 unfold gI at h0
 refine sq [0,1] (bxx 3 ?_)
 refine pa (nx ?_)
 obtain ⟨v4,h1,h0⟩:=bnd h0
 refine bI ⟨aC (aC ((fun _ => .dead)) 1 (.ptr 3 0 1 0 0)) 3 (dB v4),lks [.no, .no, .no, .live [⟨32,14, .av [[dS p0.Name,(dL aS p0.Works.Arbors),(dL bV p0.Works.Meshes),(dI p0.Minute),(dI p0.Hour),(dI p0.Escape),(dI p0.Teeth),(dI p0.Beats),(dS p0.Calendar.Name),(dL aT p0.Calendar.Months),(dL aK p0.Calendar.Rules),(dI p0.Calendar.Week),(dL cI p0.Cam),(dI p0.Strike)]]⟩]]⟩ ?_ ?_
 refine sr [0,1,2,3,4,5,6,7,8,9,10,11,12,13,14,15,16,17,18,19] (fa tok ?_)
 refine rL rfl (bA tok rfl rfl rfl rfl) (fa tok ?_)
 refine ld tok ?_
 obtain ⟨v1,hv1,h1⟩:=bnd h1
 refine rS rfl (aM 4 (zI hv1) rfl rfl rfl) (pm ?_)
 refine dU (u:=10) h1 rfl (fun hc h1 => ?_) (fun hc h1 => ?_)
 refine fa1 tok ?_
 refine rl rfl (w1 rfl rfl rfl) rfl (bA tok rfl rfl rfl rfl) (fa1 tok ?_)
 refine ld1 tok ?_
 obtain ⟨v2,hv2,h1⟩:=bnd h1
 refine rs rfl (w1 rfl rfl rfl) rfl (aM 4 (zI hv2) rfl rfl rfl) (pkt ?_)
 refine pm ?_
 refine dU (u:=17) h1 rfl (fun hc h1 => ?_) (fun hc h1 => ?_)
 refine fa1 tok ?_
 refine rl rfl (w1 rfl rfl rfl) rfl (bA tok rfl rfl rfl rfl) (fa1 tok ?_)
 refine ld1 tok ?_
 obtain ⟨v3,hv3,h1⟩:=bnd h1
 refine rs rfl (w1 rfl rfl rfl) rfl (aM 4 (zI hv3) rfl rfl rfl) (pkt ?_)
 refine pa (nx ?_)
 cases h1
 exact wk [0,1,2,3]
 iterate 5 refine k1 ?_
 refine pkf ?_
 refine pa (nx ?_)
 cases h1
 exact wk [0,1,2,3]
 iterate 5 refine k1 ?_
 refine pkf ?_
 refine pm ?_
 iterate 5 refine k1 ?_
 refine pkf ?_
 refine pa (nx ?_)
 cases h1
 exact wk [0,1,2,3]
 obtain ⟨v8,h1,h0⟩:=bnd h0
 refine bI ⟨aC (aC (aC ((fun _ => .dead)) 1 (.ptr 3 0 1 0 0)) 3 (dB v4)) 4 (dB v8),lks [.no, .no, .no, .live [⟨32,14, .av [[dS p0.Name,(dL aS p0.Works.Arbors),(dL bV p0.Works.Meshes),(dI p0.Minute),(dI p0.Hour),(dI p0.Escape),(dI p0.Teeth),(dI p0.Beats),(dS p0.Calendar.Name),(dL aT p0.Calendar.Months),(dL aK p0.Calendar.Rules),(dI p0.Calendar.Week),(dL cI p0.Cam),(dI p0.Strike)]]⟩]]⟩ ?_ ?_
 refine sr [0,1,2,3,4,5,6,7,8,9,10,11,12,13] (fa tok ?_)
 refine ld tok ?_
 obtain ⟨v5,hv5,h1⟩:=bnd h1
 refine rS rfl (aM 4 (sC hv5) rfl rfl rfl) (pm ?_)
 refine dU (u:=27) h1 rfl (fun hc h1 => ?_) (fun hc h1 => ?_)
 refine fa1 tok ?_
 refine ld1 tok ?_
 obtain ⟨v6,hv6,h1⟩:=bnd h1
 refine rs rfl (w1 rfl rfl rfl) rfl (aM 4 (dX hv6) rfl rfl rfl) (pkt ?_)
 refine pm ?_
 refine dU (u:=32) h1 rfl (fun hc h1 => ?_) (fun hc h1 => ?_)
 refine fa1 tok ?_
 refine ld1 tok ?_
 obtain ⟨v7,hv7,h1⟩:=bnd h1
 refine rs rfl (w1 rfl rfl rfl) rfl (aM 4 (dX hv7) rfl rfl rfl) (pkt ?_)
 refine pa (nx ?_)
 cases h1
 exact wk [0,1,2,3]
 iterate 3 refine k1 ?_
 refine pkf ?_
 refine pa (nx ?_)
 cases h1
 exact wk [0,1,2,3]
 iterate 3 refine k1 ?_
 refine pkf ?_
 refine pm ?_
 iterate 3 refine k1 ?_
 refine pkf ?_
 refine pa (nx ?_)
 cases h1
 exact wk [0,1,2,3]
 refine sq [0,1,2,3,4,5,6,7,8,9,10,11,12,13,14,15,16,17,18,19,20,21,22,23,24] (pm ?_)
 refine pm ?_
 refine dU (u:=38) h0 rfl (fun hc h0 => ?_) (fun hc h0 => ?_)
 refine pm1 ?_
 refine pkt ?_
 refine pm ?_
 refine dU (u:=41) h0 rfl (fun hc h0 => ?_) (fun hc h0 => ?_)
 refine fa1 tok ?_
 refine ld1 tok ?_
 obtain ⟨v9,hv9,h0⟩:=bnd h0
 refine rs rfl (w1 rfl rfl rfl) rfl (aM 4 (uH hv9) rfl rfl rfl) (pkt ?_)
 refine pm ?_
 refine dU (u:=46) h0 rfl (fun hc h0 => ?_) (fun hc h0 => ?_)
 refine fa1 tok ?_
 refine rl rfl (w1 rfl rfl rfl) rfl (bA tok rfl rfl rfl rfl) ?_
 obtain ⟨v10,hv10,h0⟩:=bnd h0
 refine rs rfl (w1 rfl rfl rfl) rfl (aM 4 (yT hv10) rfl rfl rfl) (pkt ?_)
 refine pm ?_
 refine dU (u:=51) h0 rfl (fun hc h0 => ?_) (fun hc h0 => ?_)
 refine fa1 tok ?_
 refine rl rfl (w1 rfl rfl rfl) rfl (bA tok rfl rfl rfl rfl) ?_
 obtain ⟨v11,hv11,h0⟩:=bnd h0
 refine rs rfl (w1 rfl rfl rfl) rfl (aM 4 (jC hv11) rfl rfl rfl) (pkt ?_)
 refine pm ?_
 refine dU (u:=56) h0 rfl (fun hc h0 => ?_) (fun hc h0 => ?_)
 refine fa1 tok ?_
 refine ld1 tok ?_
 obtain ⟨v12,hv12,h0⟩:=bnd h0
 refine rs rfl (w1 rfl rfl rfl) rfl (aM 4 (aB1 hv12) rfl rfl rfl) (pkt ?_)
 refine pa (nx (aA ?_))
 cases h0
 exact r0t 2 rfl
 iterate 3 refine k1 ?_
 refine pkf ?_
 refine pa (nx (aA ?_))
 cases h0
 exact r0t 2 rfl
 iterate 3 refine k1 ?_
 refine pkf ?_
 refine pm ?_
 iterate 3 refine k1 ?_
 refine pkf ?_
 refine pa (nx (aA ?_))
 cases h0
 exact r0t 2 rfl
 iterate 3 refine k1 ?_
 refine pkf ?_
 refine pm ?_
 iterate 3 refine k1 ?_
 refine pkf ?_
 refine pm ?_
 iterate 3 refine k1 ?_
 refine pkf ?_
 refine pa (nx (aA ?_))
 cases h0
 exact r0t 2 rfl
 iterate 3 refine k1 ?_
 refine pkf ?_
 refine pm ?_
 iterate 3 refine k1 ?_
 refine pkf ?_
 refine pm ?_
 iterate 3 refine k1 ?_
 refine pkf ?_
 refine pm ?_
 iterate 3 refine k1 ?_
 refine pkf ?_
 refine pa (nx (aA ?_))
 cases h0
 exact r0t 2 rfl
 refine k1 ?_
 refine pkf ?_
 refine pm ?_
 iterate 3 refine k1 ?_
 refine pkf ?_
 refine pm ?_
 iterate 3 refine k1 ?_
 refine pkf ?_
 refine pm ?_
 iterate 3 refine k1 ?_
 refine pkf ?_
 refine pm ?_
 iterate 3 refine k1 ?_
 refine pkf ?_
 refine pa (nx (aA ?_))
 cases h0
 exact r0t 2 rfl
theorem aGg {p0:bG} {p1:bR} {r:bQ} (h0:nL p0 p1=some r):FnC Tryz.prog 151 [] [.agg [dL aS p0.Arbors,(dL bV p0.Meshes)], .agg [dI p1.A,(dI p1.WheelA),(dI p1.B),(dI p1.WheelB)]] [] (.agg [dI r.Driver,(dI r.Driven)]):=by
 refine fi 28 tok Tryz.func151 ?_
 unfold nL at h0
 refine sq [0,1,2] (bxx 3 ?_)
 refine bxx 4 ?_
 refine al 5 [z0,z0] tok (nx (aB ?_))
 refine aH (is:=[0,1,2,3,4,5,6,7,8,9,10,11,12,13,14,15,16,17,18,19,20,21,22,23]) [0,1,0,4,15,31,63,0,128,511,1023,0,2048,0,8192,30720,63488,129024,0,262144,1046528,2095104,4194303,8388607] follows (by kernel_rfl) (tfa tok ?_)
 refine tld tok ?_
 refine tfa tok ?_
 refine tld tok ?_
 obtain ⟨v1,hv1,h0⟩:=bnd h0
 refine tP rfl (cE tok hv1 rfl rfl rfl rfl rfl rfl) (tfr tok ?_)
 refine tlr tok ?_
 refine tfa tok ?_
 refine tld tok ?_
 obtain ⟨v2,hv2,h0⟩:=bnd h0
 refine tP rfl (cE tok hv2 rfl rfl rfl rfl rfl rfl) (tlr tok ?_)
 refine tfa tok ?_
 refine tld tok ?_
 refine tfa tok ?_
 refine tld tok ?_
 obtain ⟨v3,hv3,h0⟩:=bnd h0
 refine tP rfl (cE tok hv3 rfl rfl rfl rfl rfl rfl) (tfr tok ?_)
 refine tlr tok ?_
 refine tfa tok ?_
 refine tld tok ?_
 obtain ⟨v4,hv4,h0⟩:=bnd h0
 refine tP rfl (cE tok hv4 rfl rfl rfl rfl rfl rfl) (tlr tok ?_)
 refine tP rfl (pbl (C0:=[z0,z0]) tok rfl rfl rfl) (oN rfl w0 (jA (cs:=_ :: _) tok rfl rfl rfl rfl rfl rfl rfl) (bN ?_))
 refine ⟨by kernel_rfl,?_⟩
 refine aG (aA ?_)
 cases h0
 exact gU (rs:=[.cell 4 86]) rfl
theorem aGf {p0:aD} {p1:Int} {p2:Int} {r:aD × Int} (h0:nK p0 p1 p2=some r):FnC Tryz.prog 152 [] [.agg [dI p0.Num,(dI p0.Den)],(dI p1),(dI p2)] [] (.tup [.agg [dI r.1.Num,(dI r.1.Den)],(dI r.2)]):=by
 refine fi 22 tok Tryz.func152 ?_
 unfold nK at h0
 refine sq [0,1,2] (bxx 3 ?_)
 refine al 4 [z0,z0] tok ?_
 refine pa (nx (sq [0,1,2,3,4,5,6,7,8,9] ?_))
 refine pm ?_
 refine rP rfl (wH rfl) (pm ?_)
 obtain ⟨v1,hv1,h0⟩:=bnd h0
 refine rS rfl (aM 5 (oA hv1) rfl rfl rfl) (rP rfl (aL (r := .tup _) rfl) (rP rfl (aN rfl rfl) (rP rfl (aN rfl rfl) (al 5 [z0,z0] tok ?_))))
 refine bst tok ?_
 refine pa (nx (sq [0,1,2,3,4,5,6] ?_))
 refine rL rfl (bA tok rfl rfl rfl rfl) (rL rfl (bA tok rfl rfl rfl rfl) ?_)
 obtain ⟨v2,hv2,h0⟩:=bnd h0
 refine rS rfl (aM 6 (aB0 hv2) rfl rfl rfl) (rP rfl (aN rfl rfl) (rP rfl (aN rfl rfl) (bst tok ?_)))
 refine pa (nx (aA ?_))
 cases h0
 exact gU (rs:=[.cell 6 75, .tmp 7]) rfl
theorem aFo {p0:bG} {p1:Int} {r:List aD × Int} (h0:mJ p0 p1=some r):FnC Tryz.prog 148 [] [.agg [dL aS p0.Arbors,(dL bV p0.Meshes)],(dI p1)] [.live [⟨75,2, .data (List.map eF r.1)⟩]] (.tup [.own 0 0 r.1.length,(dI r.2)]):=by
 refine fi 86 tok Tryz.func148 ?_
 unfold mJ at h0
 refine sq [0,1,2] (bxx 3 ?_)
 refine pa ?_
 refine pa (nx (sq [0,1,2,3,4] ?_))
 refine fa tok ?_
 refine ld tok ?_
 refine rP rfl (aJ tok rfl rfl rfl) ?_
 obtain ⟨hq1,h0⟩:=cO h0
 refine rS rfl (aJ7 4 tok (c:=eF) (⟨0,0⟩:aD) hq1 rfl rfl rfl rfl rfl rfl rfl rfl rfl rfl rfl rfl rfl) (rP rfl (aR (r := .own _ _ _) rfl) (nx (sq [0,1,2,3,4] (rP rfl (aL (r := .own _ _ _) rfl) (pm ?_)))))
 refine rP rfl (pbl (C0:=[z0,z0]) tok rfl rfl rfl) ?_
 obtain ⟨v2,hv2,h0⟩:=bnd h0
 refine rL rfl (fB tok hv2 rfl rfl rfl rfl rfl rfl rfl rfl) (rw0 rfl w0 (sL (cs:=_ :: _) tok (⟨1,1⟩:aD) (dP hv2).2.1 rfl rfl rfl rfl rfl rfl rfl rfl) (nx ?_))
 obtain ⟨v53x,h1,h0⟩:=bnd h0
 refine dH v53x (fun v53=>⟨aC ((fun _ => .dead)) 6 (.own 3 0 (v53).length),lks [.no, .no, .no, .live [⟨75,2, .data (List.map eF v53)⟩]]⟩) ?_ ?_
 refine sq [0] (pa (nx (aE ?_)))
 refine aZ (fun s28=>⟨aC (aC (aC ((fun _ => .dead)) 2 (.ptr 3 0 1 0 0)) 6 (.own 4 0 (s28.2).length)) 7 (dB s28.1),lks [.no, .no, .no, .live [⟨25,2, .av [[dL aS p0.Arbors,(dL bV p0.Meshes)]]⟩], .live [⟨75,2, .data (List.map eF s28.2)⟩]]⟩) h1 ?_ (fun s28 y h2 => ?_)
 exact wk [0,1,2,3,4]
 refine aB (sq [0] (pm (nx ?_)))
 refine bM h2 rfl (fun hc h2 => ?_) (fun hc h2 => ?_)
 refine sk (aE (sq [0] (pa (nx (sq [0,1,2,3] ?_)))))
 refine fa tok ?_
 refine ld tok ?_
 refine rP rfl (aJ tok rfl rfl rfl) (pm (nx (aE ?_)))
 refine aZ (fun s41=>⟨aC (aC (aC (aC (aC (aC ((fun _ => .dead)) 2 (.ptr 3 0 1 0 0)) 6 (.own 4 0 (s41.2.2).length)) 7 (dB s41.1)) 25 (dL bV p0.Meshes)) 26 (dI (p0.Meshes.length:Int))) 27 (dI s41.2.1),lks [.no, .no, .no, .live [⟨25,2, .av [[dL aS p0.Arbors,(dL bV p0.Meshes)]]⟩], .live [⟨75,2, .data (List.map eF s41.2.2)⟩]]⟩) h2 ?_ (fun s41 y h3 => ?_)
 exact wk [0,1,2,3,4]
 refine sq [0] (rP rfl (bK rfl rfl) (nx (aB ?_)))
 refine bC h3 rfl (fun hc h3 => ?_) (fun hc h3 => ?_)
 refine sk ?_
 obtain ⟨v52x,h4,h3⟩:=bnd h3
 refine dH v52x (fun v52=>⟨aC (aC (aC (aC (aC (aC ((fun _ => .dead)) 2 (.ptr 3 0 1 0 0)) 6 (.own 4 0 (v52.2).length)) 7 (dB v52.1)) 25 (dL bV p0.Meshes)) 26 (dI (p0.Meshes.length:Int))) 27 (dI s41.2.1),lks [.no, .no, .no, .live [⟨25,2, .av [[dL aS p0.Arbors,(dL bV p0.Meshes)]]⟩], .live [⟨75,2, .data (List.map eF v52.2)⟩]]⟩) ?_ ?_
 refine aE (sq [0,1,2,3] ?_)
 obtain ⟨v42,hv42,h4⟩:=bnd h4
 refine rP rfl (cE tok hv42 rfl rfl rfl rfl rfl rfl) (rP rfl (bJ tok rfl rfl rfl (by repeat (first | exact gV.z _ | apply gV.t))) (al 5 [z0,z0,z0,z0] tok ?_))
 refine bst tok (nx (sq [0,1,2,3,4] ?_))
 refine rL rfl (bA tok rfl rfl rfl rfl) (rL rfl (bA tok rfl rfl rfl rfl) ?_)
 obtain ⟨v43,hv43,h4⟩:=bnd h4
 refine rS rfl (aM 6 (aGg hv43) rfl rfl rfl) (al 6 [z0,z0] tok ?_)
 refine bst tok (nx (aB ?_))
 refine aH (is:=[0,1,2,3,4,5]) [0,1,0,4,3,31] follows (by kernel_rfl) (tfa tok ?_)
 refine tld tok ?_
 refine tfa tok ?_
 refine tld tok ?_
 refine tpa ?_
 refine tpa ?_
 refine bN ?_
 refine ⟨by kernel_rfl,?_⟩
 refine aG ?_
 obtain ⟨v45,h5,h4⟩:=bnd h4
 refine bI ⟨aC (aC (aC (aC (aC (aC (aC (aC (aC ((fun _ => .dead)) 2 (.ptr 3 0 1 0 0)) 6 (.own 4 0 (s41.2.2).length)) 7 (dB s41.1)) 10 (.ptr 5 0 1 0 0)) 11 (dI v45.1)) 12 (dI v45.2.1)) 25 (dL bV p0.Meshes)) 26 (dI (p0.Meshes.length:Int))) 27 (dI s41.2.1),lks [.no, .no, .no, .live [⟨25,2, .av [[dL aS p0.Arbors,(dL bV p0.Meshes)]]⟩], .live [⟨75,2, .data (List.map eF s41.2.2)⟩], .live [⟨86,2, .av [[dI v45.2.2.Driver,(dI v45.2.2.Driven)]]⟩]]⟩ ?_ ?_
 refine sq [0,1,2,3,4,5] (rP rfl (aL (r := .own _ _ _) rfl) (pm ?_))
 obtain ⟨v44,hv44,h5⟩:=bnd h5
 refine rL rfl (fB tok hv44 rfl rfl rfl rfl rfl rfl rfl rfl) (rL rfl (zP tok (dP hv44).2.1 rfl rfl rfl rfl rfl rfl rfl rfl) (rL rfl (jK tok (dP hv44).2.1 rfl rfl rfl rfl rfl rfl) (rP rfl (iX rfl rfl) (nx ?_))))
 refine bC h5 rfl (fun hc h5 => ?_) (fun hc h5 => ?_)
 refine sq [0,1,2,3] (pm ?_)
 refine pm ?_
 refine pa ?_
 refine pa (nx (sr [0,1,2,3,4,5] ?_))
 refine fa tok ?_
 refine ld tok ?_
 refine fa tok ?_
 refine ld tok ?_
 refine rP rfl (pbl (C0:=[z0,z0]) tok rfl rfl rfl) (bst tok (nx ?_))
 cases h5
 exact wk [0,1,2,3,4,6]
 refine sk ?_
 cases h5
 exact wk [0,1,2,3,4,6]
 refine aB ?_
 obtain ⟨v48,h5,h4⟩:=bnd h4
 refine bI ⟨aC (aC (aC (aC (aC (aC (aC (aC (aC (aC ((fun _ => .dead)) 2 (.ptr 3 0 1 0 0)) 6 (.own 4 0 (s41.2.2).length)) 7 (dB s41.1)) 10 (.ptr 5 0 1 0 0)) 11 (dI v45.1)) 12 (dI v45.2.1)) 25 (dL bV p0.Meshes)) 26 (dI (p0.Meshes.length:Int))) 27 (dI s41.2.1)) 64 (dB v48),lks [.no, .no, .no, .live [⟨25,2, .av [[dL aS p0.Arbors,(dL bV p0.Meshes)]]⟩], .live [⟨75,2, .data (List.map eF s41.2.2)⟩], .live [⟨86,2, .av [[dI v45.2.2.Driver,(dI v45.2.2.Driven)]]⟩]]⟩ ?_ ?_
 refine sr [0,1,2,3,4,5,6,7,8,9,10,11,12,13] (rP rfl (aL (r := .own _ _ _) rfl) (pm ?_))
 obtain ⟨v46,hv46,h5⟩:=bnd h5
 refine rL rfl (fB tok hv46 rfl rfl rfl rfl rfl rfl rfl rfl) (rL rfl (zP tok (dP hv46).2.1 rfl rfl rfl rfl rfl rfl rfl rfl) (rL rfl (jK tok (dP hv46).2.1 rfl rfl rfl rfl rfl rfl) (rP rfl (iX rfl rfl) (pm ?_))))
 refine iT (u:=57) h5 rfl (fun hc h5 => ?_) (fun hc h5 => ?_)
 iterate 6 refine k1 ?_
 refine pkt (nx ?_)
 cases h5
 exact wk [0,1,2,3,4,5]
 refine rp rfl (w1 rfl rfl rfl) rfl (aL (r := .own _ _ _) rfl) (pm1 ?_)
 obtain ⟨v47,hv47,h5⟩:=bnd h5
 refine rl rfl (w1 rfl rfl rfl) rfl (fB tok hv47 rfl rfl rfl rfl rfl rfl rfl rfl) (rl rfl (w1 rfl rfl rfl) rfl (zP tok (dP hv47).2.1 rfl rfl rfl rfl rfl rfl rfl rfl) (rl rfl (w1 rfl rfl rfl) rfl (jK tok (dP hv47).2.1 rfl rfl rfl rfl rfl rfl) (rp rfl (w1 rfl rfl rfl) rfl (cQ rfl rfl) (pkf (nx ?_)))))
 cases h5
 exact wk [0,1,2,3,4,5]
 refine bM h4 rfl (fun hc h4 => ?_) (fun hc h4 => ?_)
 refine bF (bT (aQ (aG ?_)))
 cases h4
 refine ⟨_,rfl,?_⟩
 exact wk [0,1,2,3,4]
 refine sk (aB (aH (is:=[0,1,2,3,4,5,6,7,8,9,10,11,12,13,14]) [0,0,3,7,0,16,0,64,255,511,1023,1023,0,6143,16383] follows (by kernel_rfl) (tP rfl (aL (r := .own _ _ _) rfl) (tpm ?_))))
 obtain ⟨v49,hv49,h4⟩:=bnd h4
 refine cZ rfl w0 rfl (fB tok hv49 rfl rfl rfl rfl rfl rfl rfl rfl) rfl rfl rfl (cZ rfl w0 rfl (xH tok (dP hv49).2.1 rfl rfl rfl rfl rfl) rfl rfl rfl (tfa tok ?_))
 refine tld tok ?_
 refine tfa tok ?_
 refine tld tok ?_
 obtain ⟨v50,hv50,h4⟩:=bnd h4
 refine jW rfl w0 rfl (cV 7 (aGf hv50) rfl rfl rfl) (tP rfl (aL (r := .tup _) rfl) (tP rfl (aN rfl rfl) (tP rfl (aN rfl rfl) (aEt rfl w0 rfl rfl (fun hx hk=>oU 6 (cs:=[z0,z0]) tok rfl rfl hk) (oN rfl w0 (jA (cs:=_ :: _) tok rfl rfl rfl rfl rfl rfl rfl) (tpa ?_))))))
 refine bN ?_
 refine ⟨by kernel_rfl,?_⟩
 refine aG (aB (sq [0,1] (pm ?_)))
 refine rP rfl (cQ rfl rfl) (nx ?_)
 refine bC h4 rfl (fun hc h4 => ?_) (fun hc h4 => ?_)
 refine sq [0,1,2] (pm ?_)
 refine pa ?_
 refine pa (nx ?_)
 refine cN (cW 7 rfl 75 2 (d:=4) rfl) (aA (aI (aX ?_)))
 cases h4
 replace h3:=eT h3
 refine aI ?_
 cases h3
 refine dM ⟨_,rfl,fun e => ?_⟩
 subst e
 refine aX (aX ?_)
 refine dM ⟨_,rfl,fun e => ?_⟩
 subst e
 refine aX ?_
 replace h0:=eT h0
 refine aI ?_
 cases h0
 exact dG (rs:=[.tmp 4, .tmp 5]) [7] rfl
 refine sk (sq [0,1,2,3,4] (rP rfl (aL (r := .own _ _ _) rfl) (pm ?_)))
 refine rL rfl (bA tok rfl rfl rfl rfl) ?_
 obtain ⟨v51,hv51,h4⟩:=bnd h4
 refine rL rfl (fB tok hv51 rfl rfl rfl rfl rfl rfl rfl rfl) (rw0 rfl w0 (sL (cs:=_ :: _) tok v50.1 (dP hv51).2.1 rfl rfl rfl rfl rfl rfl rfl rfl) (nx (sr [0] (pa (aY ?_)))))
 refine bB (aG ?_)
 cases h4
 refine ⟨_,rfl,?_⟩
 exact wk [0,1,2,3,4]
 rintro v52 rfl
 replace h3:=gS h3
 refine sr [0,1] (rP rfl (bH rfl rfl) (pm (aY ?_)))
 refine bS ?_
 cases h3
 refine ⟨_,rfl,?_⟩
 exact wk [0,1,2,3,4]
 refine bF (bT ?_)
 cases h3
 refine bU ⟨_,rfl,fun e => ?_⟩
 subst e
 refine aQ ?_
 refine bB (bS ?_)
 refine ⟨_,rfl,?_⟩
 exact wk [0,1,2,3,4]
 refine bF (bT ?_)
 cases h2
 refine bU ⟨_,rfl,fun e => ?_⟩
 subst e
 refine aQ (aG ?_)
 refine ⟨_,rfl,?_⟩
 exact wk [0,1,2,4]
 rintro v53 rfl
 replace h0:=gS h0
 refine sq [0,1,2] (rP rfl (aL (r := .own _ _ _) rfl) (rP rfl (aR (r := .own _ _ _) rfl) (pa (nx (aA ?_)))))
 cases h0
 exact dG (rs:=[.tmp 4, .tmp 5]) [3] rfl
theorem aFh {p0:aD} {r:Bool} (h0:pY p0=some r):FnC Tryz.prog 150 [] [.agg [dI p0.Num,(dI p0.Den)]] [] (dB r):=by
 refine fi 6 tok Tryz.func150 ?_
 unfold pY at h0
 refine sq [0,1] (bxx 3 ?_)
 refine pa (nx (sq [0,1,2,3] ?_))
 refine fa tok ?_
 refine ld tok ?_
 refine rP rfl (iX rfl rfl) (pa (nx (aA ?_)))
 cases h0
 exact r0t 2 rfl
theorem jN {p0:List aD} {r:Int} (h0:dD p0=some r):FnC Tryz.prog 193 [] [dL eF p0, .fn 150 []] [] (dI r):=by
 refine fi 19 tok Tryz.func193 ?_
 unfold dD at h0
 refine sq [0] (pa (nx ?_))
 obtain ⟨v7x,h1,h0⟩:=bnd h0
 refine dH v7x (fun v7=>⟨(fun _ => .dead),lks [.no, .no, .no]⟩) ?_ ?_
 refine sq [0,1,2] (pm ?_)
 refine rP rfl (aJ tok rfl rfl rfl) (pm (nx (aE ?_)))
 refine aZ (fun s4=>⟨aC (aC (aC (aC ((fun _ => .dead)) 0 (dL eF p0)) 1 (.fn 150 [])) 7 (dI (p0.length:Int))) 8 (dI s4),lks [.no, .no, .no]⟩) h1 ?_ (fun s4 y h2 => ?_)
 exact wk [0,1,2]
 refine sq [0] (rP rfl (bK rfl rfl) (nx (aB ?_)))
 refine bC h2 rfl (fun hc h2 => ?_) (fun hc h2 => ?_)
 refine sk (aB (aE (sq [0,1] (pm ?_))))
 refine pa (nx (sq [0,1,2,3,4,5] ?_))
 refine rP rfl (aL (r := .fn _ _) rfl) (pm ?_)
 refine pm ?_
 obtain ⟨v5,hv5,h2⟩:=bnd h2
 refine rP rfl (cE tok hv5 rfl rfl rfl rfl rfl rfl) (rP rfl (bJ tok rfl rfl rfl (by repeat (first | exact gV.z _ | apply gV.t))) ?_)
 obtain ⟨v6,hv6,h2⟩:=bnd h2
 refine rS rfl (aM 3 (aFh hv6) rfl rfl rfl) (nx ?_)
 refine bM h2 rfl (fun hc h2 => ?_) (fun hc h2 => ?_)
 refine sq [0,1] (pm ?_)
 refine pa (nx (aA ?_))
 refine aX (aI ?_)
 cases h2
 refine dM ⟨_,rfl,fun e => ?_⟩
 subst e
 refine aX ?_
 replace h0:=eT h0
 refine aI ?_
 cases h0
 exact r0t 4 rfl
 refine cX (bB (aG (sr [0,1] (rP rfl (bH rfl rfl) (pm (aY ?_))))))
 refine bS ?_
 cases h2
 refine ⟨_,rfl,?_⟩
 exact wk [0,1,2]
 refine bF (bT ?_)
 cases h2
 refine bU ⟨_,rfl,fun e => ?_⟩
 subst e
 refine aQ (aG ?_)
 refine ⟨_,rfl,?_⟩
 exact wk [0,1,2]
 rintro v7 rfl
 replace h0:=gS h0
 refine sq [0] (pa (nx (aA ?_)))
 cases h0
 exact r0t 4 rfl
theorem iV {p0:List aD} {r:Bool} (h0:cK p0=some r):FnC Tryz.prog 149 [] [dL eF p0, .fn 150 []] [] (dB r):=by
 refine fi 9 tok Tryz.func149 ?_
 unfold cK at h0
 refine sq [0] (pa (nx (sq [0,1,2,3,4] ?_)))
 refine pm ?_
 refine rP rfl (aL (r := .fn _ _) rfl) ?_
 obtain ⟨v1,hv1,h0⟩:=bnd h0
 refine rS rfl (aM 3 (jN hv1) rfl rfl rfl) (rP rfl (tH rfl rfl) (pa (nx (aA ?_))))
 cases h0
 exact r0t 4 rfl
theorem aJo {p0:bG} {p1:Int} {r:List aD × Int} (h0:qH p0 p1=some r):FnC Tryz.prog 86 [] [.agg [dL aS p0.Arbors,(dL bV p0.Meshes)],(dI p1)] [.live [⟨75,2, .data (List.map eF r.1)⟩]] (.tup [.own 0 0 r.1.length,(dI r.2)]):=by
 refine fi 70 tok Tryz.func86 ?_
 unfold qH at h0
 refine sq [0,1,2] (bxx 3 ?_)
 refine pa ?_
 refine pa (nx (aB (sq [0,1,2] ?_)))
 refine rL rfl (bA tok rfl rfl rfl rfl) ?_
 obtain ⟨v1,hv1,h0⟩:=bnd h0
 refine rS rfl (aM 4 (yT hv1) rfl rfl rfl) (rP rfl (bW rfl) (nx ?_))
 refine bM h0 rfl (fun hc h0 => ?_) (fun hc h0 => ?_)
 refine sq [0,1] (pa ?_)
 refine pa (nx ?_)
 refine cN (cW 4 rfl 75 2 (d:=4) rfl) (aA (aI ?_))
 cases h0
 exact dG (rs:=[.tmp 4, .tmp 5]) [4] rfl
 refine sk (aB (sq [0,1,2,3,4,5,6] (pm ?_)))
 refine fa tok ?_
 refine ld tok ?_
 refine rP rfl (aJ tok rfl rfl rfl) (rP rfl (gX rfl rfl) ?_)
 obtain ⟨v2,hv2,h0⟩:=bnd h0
 refine rS rfl (aM 4 (dX hv2) rfl rfl rfl) (rP rfl (bW rfl) (nx ?_))
 refine bM h0 rfl (fun hc h0 => ?_) (fun hc h0 => ?_)
 refine sq [0,1] (pa ?_)
 refine pa (nx ?_)
 refine cN (cW 4 rfl 75 2 (d:=4) rfl) (aA (aI ?_))
 cases h0
 exact dG (rs:=[.tmp 4, .tmp 5]) [4] rfl
 refine sk (sq [0,1,2,3,4,5,6,7] (rL rfl (bA tok rfl rfl rfl rfl) (pm ?_)))
 obtain ⟨v3,hv3,h0⟩:=bnd h0
 refine rS rfl (aM 4 (aFo hv3) rfl rfl rfl) (rP rfl (aL (r := .tup _) rfl) (rP rfl (aN rfl rfl) (rP rfl (aN rfl rfl) (rP rfl (aR (r := .own _ _ _) rfl) (pa (nx (aB (sq [0,1] ?_))))))))
 refine pm ?_
 refine rP rfl (cQ rfl rfl) (nx ?_)
 refine bC h0 rfl (fun hc h0 => ?_) (fun hc h0 => ?_)
 refine sq [0,1,2] (pm ?_)
 refine pa ?_
 refine pa (nx ?_)
 refine cN (cW 5 rfl 75 2 (d:=4) rfl) (aA (aI ?_))
 cases h0
 exact dG (rs:=[.tmp 4, .tmp 5]) [5] rfl
 refine sk (aB (sq [0,1] (rP rfl (aL (r := .own _ _ _) rfl) ?_)))
 obtain ⟨v4,hv4,h0⟩:=bnd h0
 refine rS rfl (eW 5 (iV hv4) rfl rfl) (nx ?_)
 refine bM h0 rfl (fun hc h0 => ?_) (fun hc h0 => ?_)
 refine sq [0,1] (pa ?_)
 refine pa (nx ?_)
 refine cN (cW 5 rfl 75 2 (d:=4) rfl) (aA (aI ?_))
 cases h0
 exact dG (rs:=[.tmp 4, .tmp 5]) [5] rfl
 refine sk ?_
 obtain ⟨v19x,h1,h0⟩:=bnd h0
 refine dH v19x (fun v19=>⟨aC ((fun _ => .dead)) 6 (.own 3 0 (v3.1).length),lks [.no, .no, .no, .live [⟨75,2, .data (List.map eF v3.1)⟩]]⟩) ?_ ?_
 refine sq [0,1,2,3] (fa tok ?_)
 refine ld tok ?_
 refine rP rfl (aJ tok rfl rfl rfl) (pm (nx (aE ?_)))
 refine aZ (fun s12=>⟨aC (aC (aC (aC (aC ((fun _ => .dead)) 2 (.ptr 3 0 1 0 0)) 6 (.own 4 0 (v3.1).length)) 35 (dL bV p0.Meshes)) 36 (dI (p0.Meshes.length:Int))) 37 (dI s12),lks [.no, .no, .no, .live [⟨25,2, .av [[dL aS p0.Arbors,(dL bV p0.Meshes)]]⟩], .live [⟨75,2, .data (List.map eF v3.1)⟩]]⟩) h1 ?_ (fun s12 y h2 => ?_)
 exact wk [0,1,2,3,4]
 refine sq [0] (rP rfl (bK rfl rfl) (nx (aB ?_)))
 refine bC h2 rfl (fun hc h2 => ?_) (fun hc h2 => ?_)
 refine sk (aB (aE (sq [0,1,2,3] ?_)))
 obtain ⟨v13,hv13,h2⟩:=bnd h2
 refine rP rfl (cE tok hv13 rfl rfl rfl rfl rfl rfl) (rP rfl (bJ tok rfl rfl rfl (by repeat (first | exact gV.z _ | apply gV.t))) (al 5 [z0,z0,z0,z0] tok ?_))
 refine bst tok (nx (sq [0,1,2,3,4] ?_))
 refine rL rfl (bA tok rfl rfl rfl rfl) (rL rfl (bA tok rfl rfl rfl rfl) ?_)
 obtain ⟨v14,hv14,h2⟩:=bnd h2
 refine rS rfl (aM 6 (aGg hv14) rfl rfl rfl) (al 6 [z0,z0] tok ?_)
 refine bst tok (nx (aB ?_))
 refine aH (is:=[0,1,2,3,4,5,6,7,8,9,10,11,12,13,14,15]) [0,0,2,7,15,0,32,0,128,511,1023,2047,2047,0,12287,32767] follows (by kernel_rfl) (tP rfl (aL (r := .own _ _ _) rfl) (tfa tok ?_))
 refine tld tok ?_
 obtain ⟨v15,hv15,h2⟩:=bnd h2
 refine cZ rfl w0 rfl (fB tok hv15 rfl rfl rfl rfl rfl rfl rfl rfl) rfl rfl rfl (cZ rfl w0 rfl (xH tok (dP hv15).2.1 rfl rfl rfl rfl rfl) rfl rfl rfl (tfa tok ?_))
 refine tld tok ?_
 refine tfa tok ?_
 refine tld tok ?_
 obtain ⟨v16,hv16,h2⟩:=bnd h2
 refine jW rfl w0 rfl (cV 8 (aGf hv16) rfl rfl rfl) (tP rfl (aL (r := .tup _) rfl) (tP rfl (aN rfl rfl) (tP rfl (aN rfl rfl) (aEt rfl w0 rfl rfl (fun hx hk=>oU 7 (cs:=[z0,z0]) tok rfl rfl hk) (oN rfl w0 (jA (cs:=_ :: _) tok rfl rfl rfl rfl rfl rfl rfl) (tpa ?_))))))
 refine bN ?_
 refine ⟨by kernel_rfl,?_⟩
 refine aG ?_
 obtain ⟨v18,h3,h2⟩:=bnd h2
 refine bI ⟨aC (aC (aC (aC (aC (aC ((fun _ => .dead)) 2 (.ptr 3 0 1 0 0)) 6 (.own 4 0 (v3.1).length)) 35 (dL bV p0.Meshes)) 36 (dI (p0.Meshes.length:Int))) 37 (dI s12)) 67 (dB v18),lks [.no, .no, .no, .live [⟨25,2, .av [[dL aS p0.Arbors,(dL bV p0.Meshes)]]⟩], .live [⟨75,2, .data (List.map eF v3.1)⟩]]⟩ ?_ ?_
 refine aH (is:=[0,1,2,3,4,5,6,7,8,9,10]) [0,1,3,7,7,7,39,119,247,511,1023] follows (by kernel_rfl) (tpm ?_)
 refine tP rfl (cQ rfl rfl) (tpm ?_)
 refine aKh (u:=59) h3 rfl (fun hc h3 => ?_) (fun hc h3 => ?_)
 iterate 7 refine k2 ?_
 refine aBv ?_
 refine bN ?_
 refine ⟨by kernel_rfl,?_⟩
 refine aG ?_
 cases h3
 exact wk [0,1,2,3,4]
 refine cZ rfl (w1 rfl rfl rfl) rfl (bA tok rfl rfl rfl rfl) rfl rfl rfl (rF rfl (w1 rfl rfl rfl) rfl (aL (r := .own _ _ _) rfl) (cZ rfl (w1 rfl rfl rfl) rfl (yO tok rfl rfl rfl rfl rfl rfl rfl) rfl rfl rfl (cZ rfl (w1 rfl rfl rfl) rfl (rG tok rfl rfl rfl rfl rfl) rfl rfl rfl ?_)))
 obtain ⟨v17,hv17,h3⟩:=bnd h3
 refine cZ rfl (w1 rfl rfl rfl) rfl (fB tok hv17 rfl rfl rfl rfl rfl rfl rfl rfl) rfl rfl rfl (cZ rfl (w1 rfl rfl rfl) rfl (xH tok (dP hv17).2.1 rfl rfl rfl rfl rfl) rfl rfl rfl (rF rfl (w1 rfl rfl rfl) rfl (vR (a:=v16.1) (b:=v17) rfl rfl) (aBu ?_)))
 refine bN ?_
 refine ⟨by kernel_rfl,?_⟩
 refine aG ?_
 cases h3
 exact wk [0,1,2,3,4]
 refine bM h2 rfl (fun hc h2 => ?_) (fun hc h2 => ?_)
 refine sq [0,1] (pa ?_)
 refine pa (nx ?_)
 refine cN (cW 5 rfl 75 2 (d:=4) rfl) (aA (aX (aI ?_)))
 cases h2
 refine dM ⟨_,rfl,fun e => ?_⟩
 subst e
 refine aX ?_
 replace h0:=eT h0
 refine aI ?_
 cases h0
 exact dG (rs:=[.tmp 4, .tmp 5]) [5] rfl
 refine cX (bB (aG (sr [0,1] (rP rfl (bH rfl rfl) (pm (aY ?_))))))
 refine bS ?_
 cases h2
 refine ⟨_,rfl,?_⟩
 exact wk [0,1,2,3,4]
 refine bF (bT ?_)
 cases h2
 refine bU ⟨_,rfl,fun e => ?_⟩
 subst e
 refine aQ (aG ?_)
 refine ⟨_,rfl,?_⟩
 exact wk [0,1,2,4]
 rintro v19 rfl
 replace h0:=gS h0
 refine sq [0,1,2] (rP rfl (aL (r := .own _ _ _) rfl) (rP rfl (aR (r := .own _ _ _) rfl) (pa (nx (aA ?_)))))
 cases h0
 exact dG (rs:=[.tmp 4, .tmp 5]) [3] rfl
theorem aAb {p0:aW} {r:List ByteArray} (h0:iE p0=some r):FnC Tryz.prog 41 [] [.agg [dS p0.Name,(dL aS p0.Works.Arbors),(dL bV p0.Works.Meshes),(dI p0.Minute),(dI p0.Hour),(dI p0.Escape),(dI p0.Teeth),(dI p0.Beats),(dS p0.Calendar.Name),(dL aT p0.Calendar.Months),(dL aK p0.Calendar.Rules),(dI p0.Calendar.Week),(dL cI p0.Cam),(dI p0.Strike)]] [.live [⟨9,1, .data (List.map cS r)⟩]] (.own 0 0 r.length):=by
 refine fi 65 tok Tryz.func41 ?_
 unfold iE at h0
 refine sq [0,1] (bxx 3 ?_)
 refine pa (nx (aB (sq [0,1,2] ?_)))
 refine rL rfl (bA tok rfl rfl rfl rfl) ?_
 obtain ⟨v1,hv1,h0⟩:=bnd h0
 refine rS rfl (aM 4 (uJ hv1) rfl rfl rfl) (rP rfl (bW rfl) (nx ?_))
 refine bM h0 rfl (fun hc h0 => ?_) (fun hc h0 => ?_)
 refine sq [0,1] (rS rfl (mE 4 tok cS [(⟨#[109,111,118,101,109,101,110,116]⟩:ByteArray)] rfl rfl rfl (by repeat (first | exact Els.nil _ | apply Els.cons (cs:=[.d _]) rfl rfl rfl | apply Els.cons (cs:=_ :: _) rfl rfl rfl)) rfl rfl rfl (by repeat (first | exact cR.nil | (apply cR.cons; (repeat (first | exact eZ.nil | apply eZ.cons))))) rfl rfl) (rP rfl (aR (r := .own _ _ _) rfl) (nx (aA (aI ?_)))))
 cases h0
 exact dG (rs:=[.tmp 2]) [4] rfl
 refine sk (sq [0] (pa (nx (sq [0,1,2,3,4,5,6,7,8,9] ?_))))
 refine fa tok ?_
 refine rL rfl (bA tok rfl rfl rfl rfl) (fa tok ?_)
 refine ld tok ?_
 obtain ⟨v2,hv2,h0⟩:=bnd h0
 refine rS rfl (aM 4 (aJo hv2) rfl rfl rfl) (rP rfl (aL (r := .tup _) rfl) (rP rfl (aN rfl rfl) (rP rfl (aN rfl rfl) (rP rfl (aR (r := .own _ _ _) rfl) (pa (nx ?_))))))
 obtain ⟨v10,h1,h0⟩:=bnd h0
 refine bI ⟨aC (aC ((fun _ => .dead)) 1 (.ptr 3 0 1 0 0)) 3 (.own 4 0 (v10).length),lks [.no, .no, .no, .live [⟨32,14, .av [[dS p0.Name,(dL aS p0.Works.Arbors),(dL bV p0.Works.Meshes),(dI p0.Minute),(dI p0.Hour),(dI p0.Escape),(dI p0.Teeth),(dI p0.Beats),(dS p0.Calendar.Name),(dL aT p0.Calendar.Months),(dL aK p0.Calendar.Rules),(dI p0.Calendar.Week),(dL cI p0.Cam),(dI p0.Strike)]]⟩], .live [⟨9,1, .data (List.map cS v10)⟩]]⟩ ?_ ?_
 refine sq [0,1] (pm ?_)
 refine rP rfl (cQ rfl rfl) (nx ?_)
 refine bC h1 rfl (fun hc h1 => ?_) (fun hc h1 => ?_)
 refine sr [0,1,2,3] (pm ?_)
 refine rS rfl (iZ tok cS [(⟨#[119,111,114,107,115]⟩:ByteArray)] rfl rfl rfl (by repeat (first | exact Els.nil _ | apply Els.cons (cs:=[.d _]) rfl rfl rfl | apply Els.cons (cs:=_ :: _) rfl rfl rfl)) rfl rfl rfl (by repeat (first | exact cR.nil | (apply cR.cons; (repeat (first | exact eZ.nil | apply eZ.cons))))) rfl) ?_
 obtain ⟨hq3,h1⟩:=cO h1
 refine rS rfl (aUq 5 tok hq3 rfl rfl rfl rfl rfl rfl rfl rfl rfl rfl (fun _=>rfl)) (rP rfl (aR (r := .own _ _ _) rfl) (nx ?_))
 cases h1
 exact wk [0,1,2,3,5]
 obtain ⟨v6,h2,h1⟩:=bnd h1
 refine bI ⟨aC (aC (aC ((fun _ => .dead)) 1 (.ptr 3 0 1 0 0)) 3 (.own 4 0 (v6).length)) 4 (.own 5 0 (v2.1).length),lks [.no, .no, .no, .live [⟨32,14, .av [[dS p0.Name,(dL aS p0.Works.Arbors),(dL bV p0.Works.Meshes),(dI p0.Minute),(dI p0.Hour),(dI p0.Escape),(dI p0.Teeth),(dI p0.Beats),(dS p0.Calendar.Name),(dL aT p0.Calendar.Months),(dL aK p0.Calendar.Rules),(dI p0.Calendar.Week),(dL cI p0.Cam),(dI p0.Strike)]]⟩], .live [⟨9,1, .data (List.map cS v6)⟩], .live [⟨75,2, .data (List.map eF v2.1)⟩]]⟩ ?_ ?_
 refine sq [0,1,2,3,4,5,6] (rP rfl (aL (r := .own _ _ _) rfl) (fa tok ?_))
 refine ld tok ?_
 obtain ⟨v4,hv4,h2⟩:=bnd h2
 refine rL rfl (fB tok hv4 rfl rfl rfl rfl rfl rfl rfl rfl) (rL rfl (xH tok (dP hv4).2.1 rfl rfl rfl rfl rfl) (rP rfl (pbl (C0:=[z0,z0]) tok rfl rfl rfl) (rP rfl (vR (a:=v4) (b:=(⟨1,12⟩:aD)) rfl rfl) (nx ?_))))
 refine bC h2 rfl (fun hc h2 => ?_) (fun hc h2 => ?_)
 refine sr [0,1,2,3] (pm ?_)
 refine rS rfl (iZ tok cS [(⟨#[104,111,117,114]⟩:ByteArray)] rfl rfl rfl (by repeat (first | exact Els.nil _ | apply Els.cons (cs:=[.d _]) rfl rfl rfl | apply Els.cons (cs:=_ :: _) rfl rfl rfl)) rfl rfl rfl (by repeat (first | exact cR.nil | (apply cR.cons; (repeat (first | exact eZ.nil | apply eZ.cons))))) rfl) ?_
 obtain ⟨hq5,h2⟩:=cO h2
 refine rS rfl (aUq 5 tok hq5 rfl rfl rfl rfl rfl rfl rfl rfl rfl rfl (fun _=>rfl)) (rP rfl (aR (r := .own _ _ _) rfl) (nx ?_))
 cases h2
 exact wk [0,1,2,3,5,4]
 refine sk ?_
 cases h2
 refine mG.trans_ (cW 5 rfl 9 1 (d:=3) rfl) ?_
 exact wk [0,1,2,3,5,4]
 refine sq [0,1,2,3,4,5,6] (rP rfl (aL (r := .own _ _ _) rfl) (fa tok ?_))
 refine ld tok ?_
 obtain ⟨v7,hv7,h1⟩:=bnd h1
 refine rL rfl (fB tok hv7 rfl rfl rfl rfl rfl rfl rfl rfl) (rL rfl (xH tok (dP hv7).2.1 rfl rfl rfl rfl rfl) (al 6 [z0,z0] tok ?_))
 refine bst tok (nx (aB ?_))
 refine aH (is:=[0,1,2,3,4,7,8,9,10,11,5,6,12]) [0,1,3,0,8,24,63,0,128,0,512,1920,4095] follows (by kernel_rfl) (tfa tok ?_)
 refine tld tok ?_
 refine tP rfl (eL rfl rfl) (tfa tok ?_)
 refine tld tok ?_
 refine tfa tok ?_
 refine tld tok ?_
 refine tfa tok ?_
 refine tld tok ?_
 refine tP rfl (eL rfl rfl) ?_
 obtain ⟨v8,hv8,h1⟩:=bnd h1
 refine jW rfl w0 rfl (cV 7 (aHj hv8) rfl rfl rfl) (tP rfl (eL rfl rfl) (tP rfl (cQ rfl rfl) (bN ?_)))
 refine ⟨by kernel_rfl,?_⟩
 refine aG ?_
 refine bC h1 rfl (fun hc h1 => ?_) (fun hc h1 => ?_)
 refine sr [0,1,2,3] (rP rfl (aL (r := .own _ _ _) rfl) (rS rfl (iZ tok cS [(⟨#[98,101,97,116,115]⟩:ByteArray)] rfl rfl rfl (by repeat (first | exact Els.nil _ | apply Els.cons (cs:=[.d _]) rfl rfl rfl | apply Els.cons (cs:=_ :: _) rfl rfl rfl)) rfl rfl rfl (by repeat (first | exact cR.nil | (apply cR.cons; (repeat (first | exact eZ.nil | apply eZ.cons))))) rfl) ?_))
 obtain ⟨hq9,h1⟩:=cO h1
 refine rw1 rfl w0 rfl (eU tok hq9 rfl rfl rfl rfl rfl rfl rfl rfl rfl rfl rfl rfl (fun _=>rfl)) (rP rfl (aR (r := .own _ _ _) rfl) (nx ?_))
 cases h1
 exact wk [0,1,2,3,4]
 refine sk ?_
 cases h1
 exact wk [0,1,2,3,4]
 obtain ⟨v13,h1,h0⟩:=bnd h0
 refine bI ⟨aC ((fun _ => .dead)) 3 (.own 3 0 (v13).length),lks [.no, .no, .no, .live [⟨9,1, .data (List.map cS v13)⟩]]⟩ ?_ ?_
 refine sq [0,1,2,3,4,5] (fa tok ?_)
 refine rL rfl (bA tok rfl rfl rfl rfl) (fa tok ?_)
 refine ld tok ?_
 obtain ⟨v11,hv11,h1⟩:=bnd h1
 refine rS rfl (aM 5 (rZ hv11) rfl rfl rfl) (rP rfl (iX rfl rfl) (nx ?_))
 refine bC h1 rfl (fun hc h1 => ?_) (fun hc h1 => ?_)
 refine sr [0,1,2,3] (rP rfl (aL (r := .own _ _ _) rfl) (rS rfl (iZ tok cS [(⟨#[99,97,109]⟩:ByteArray)] rfl rfl rfl (by repeat (first | exact Els.nil _ | apply Els.cons (cs:=[.d _]) rfl rfl rfl | apply Els.cons (cs:=_ :: _) rfl rfl rfl)) rfl rfl rfl (by repeat (first | exact cR.nil | (apply cR.cons; (repeat (first | exact eZ.nil | apply eZ.cons))))) rfl) ?_))
 obtain ⟨hq12,h1⟩:=cO h1
 refine rw1 rfl w0 rfl (eU tok hq12 rfl rfl rfl rfl rfl rfl rfl rfl rfl rfl rfl rfl (fun _=>rfl)) (rP rfl (aR (r := .own _ _ _) rfl) (nx ?_))
 cases h1
 exact wk [0,1,2,4]
 refine sk ?_
 cases h1
 exact wk [0,1,2,4]
 refine sq [0,1] (rP rfl (aL (r := .own _ _ _) rfl) (rP rfl (aR (r := .own _ _ _) rfl) (nx (aA ?_))))
 cases h0
 exact dG (rs:=[.tmp 2]) [3] rfl
theorem aJq {p0:aF} {p1:List Int} {r:Int} (h0:qI p0 p1=some r):FnC Tryz.prog 89 [] [.agg [dS p0.Name,(dL aT p0.Months),(dL aK p0.Rules),(dI p0.Week)],(dL cI p1)] [] (dI r):=by
 refine fi 19 tok Tryz.func89 ?_
 unfold qI at h0
 refine sq [0,1] (bxx 3 ?_)
 refine pa (nx (aB (aE ?_)))
 obtain ⟨v3,h1,h0⟩:=bnd h0
 refine bI ⟨aC (aC (aC ((fun _ => .dead)) 1 (dL cI p1)) 2 (.ptr 3 0 1 0 0)) 5 (dB v3),lks [.no, .no, .no, .live [⟨29,4, .av [[dS p0.Name,(dL aT p0.Months),(dL aK p0.Rules),(dI p0.Week)]]⟩]]⟩ ?_ ?_
 refine sr [0,1,2,3,4,5,6,7,8] (rL rfl (bA tok rfl rfl rfl rfl) ?_)
 obtain ⟨v1,hv1,h1⟩:=bnd h1
 refine rS rfl (aM 4 (jC hv1) rfl rfl rfl) (rP rfl (bW rfl) (pm ?_))
 refine dU (u:=9) h1 rfl (fun hc h1 => ?_) (fun hc h1 => ?_)
 iterate 3 refine k1 ?_
 refine pkt ?_
 refine pa (nx ?_)
 cases h1
 exact wk [0,1,2,3]
 refine pm1 ?_
 obtain ⟨v2,hv2,h1⟩:=bnd h1
 refine rs rfl (w1 rfl rfl rfl) rfl (aM 4 (aB1 hv2) rfl rfl rfl) (rp rfl (w1 rfl rfl rfl) rfl (bW rfl) (pkf ?_))
 refine pa (nx ?_)
 cases h1
 exact wk [0,1,2,3]
 refine bM h0 rfl (fun hc h0 => ?_) (fun hc h0 => ?_)
 refine sq [0] (pa (nx (aA ?_)))
 refine aX (aI ?_)
 cases h0
 exact r0t 4 rfl
 refine sq [0,1,2,3,4] (rL rfl (bA tok rfl rfl rfl rfl) (pm ?_))
 obtain ⟨v4,hv4,h0⟩:=bnd h0
 refine rS rfl (aM 4 (rZ hv4) rfl rfl rfl) (rP rfl (iX rfl rfl) (pa (nx ?_)))
 refine bC h0 rfl (fun hc h0 => ?_) (fun hc h0 => ?_)
 refine sq [0] (pa (nx (aA ?_)))
 refine aX (aI ?_)
 cases h0
 exact r0t 4 rfl
 refine cX (bB (aG (sq [0] (pa (nx (aA ?_))))))
 cases h0
 exact r0t 4 rfl
theorem aOx {p0:Int} {r:Bool} (h0:xU p0=some r):FnC Tryz.prog 153 [] [dI p0] [] (dB r):=by
 refine fi 5 tok Tryz.func153 ?_
 unfold xU at h0
 refine sq [0] (pa (nx (sq [0,1,2] ?_)))
 refine pm ?_
 obtain ⟨v1,hv1,h0⟩:=bnd h0
 refine rS rfl (aM 3 (dX hv1) rfl rfl rfl) (pa (nx (aA ?_)))
 cases h0
 exact r0t 2 rfl
theorem aLy {p0:aF} {p1:Int} {r:Bool} (h0:vM p0 p1=some r):FnC Tryz.prog 154 [] [.agg [dS p0.Name,(dL aT p0.Months),(dL aK p0.Rules),(dI p0.Week)],(dI p1)] [] (dB r):=by
 refine fi 10 tok Tryz.func154 ?_
 unfold vM at h0
 refine sq [0,1] (bxx 3 ?_)
 refine pa (nx (sq [0,1,2,3,4,5] ?_))
 refine pm ?_
 refine fa tok ?_
 refine ld tok ?_
 refine rP rfl (aJ tok rfl rfl rfl) ?_
 obtain ⟨v1,hv1,h0⟩:=bnd h0
 refine rS rfl (aM 4 (dX hv1) rfl rfl rfl) (pa (nx (aA ?_)))
 cases h0
 exact r0t 4 rfl
theorem aHh {p0:aF} {p1:gY} {r:Bool} (h0:oB p0 p1=some r):FnC Tryz.prog 90 [] [.agg [dS p0.Name,(dL aT p0.Months),(dL aK p0.Rules),(dI p0.Week)], .agg [dI p1.Year,(dI p1.Month),(dI p1.Day)]] [] (dB r):=by
 refine fi 31 tok Tryz.func90 ?_
 unfold oB at h0
 refine sq [0,1,2] (bxx 3 ?_)
 refine bxx 4 ?_
 refine pa (nx (aB ?_))
 refine aH (is:=[0,1,2,3,4,5,6,7,8,9,10,11,12,13,14,15,16,17,18,19,21,22,20,23,24,25,26]) [0,1,3,7,15,31,63,127,255,255,767,2047,4095,8191,16383,32767,16383,16383,16383,278527,933887,16383,2113535,8339455,16777215,33554431,67108863] follows (by kernel_rfl) (cZ rfl w0 rfl (bA tok rfl rfl rfl rfl) rfl rfl rfl ?_)
 obtain ⟨v1,hv1,h0⟩:=bnd h0
 refine jW rfl w0 rfl (cV 5 (jC hv1) rfl rfl rfl) (tpm ?_)
 refine tL (u:=7) h0 rfl (fun hc h0 => ?_) (fun hc h0 => ?_)
 refine cZ rfl (w1 rfl rfl rfl) rfl (yO tok rfl rfl rfl rfl rfl rfl rfl) rfl rfl rfl (cZ rfl (w1 rfl rfl rfl) rfl (rG tok rfl rfl rfl rfl rfl) rfl rfl rfl ?_)
 obtain ⟨v2,hv2,h0⟩:=bnd h0
 refine jW rfl (w1 rfl rfl rfl) rfl (cV 5 (aOx hv2) rfl rfl rfl) (aBv ?_)
 refine tpm ?_
 refine tL (u:=12) h0 rfl (fun hc h0 => ?_) (fun hc h0 => ?_)
 refine cZ rfl (w1 rfl rfl rfl) rfl (bA tok rfl rfl rfl rfl) rfl rfl rfl (cZ rfl (w1 rfl rfl rfl) rfl (yO tok rfl rfl rfl rfl rfl rfl rfl) rfl rfl rfl (cZ rfl (w1 rfl rfl rfl) rfl (rG tok rfl rfl rfl rfl rfl) rfl rfl rfl ?_))
 obtain ⟨v3,hv3,h0⟩:=bnd h0
 refine jW rfl (w1 rfl rfl rfl) rfl (cV 5 (aLy hv3) rfl rfl rfl) (aBv ?_)
 refine tpm ?_
 refine tL (u:=18) h0 rfl (fun hc h0 => ?_) (fun hc h0 => ?_)
 refine cZ rfl (w1 rfl rfl rfl) rfl (yO tok rfl rfl rfl rfl rfl rfl rfl) rfl rfl rfl (cZ rfl (w1 rfl rfl rfl) rfl (rG tok rfl rfl rfl rfl rfl) rfl rfl rfl (cZ rfl (w1 rfl rfl rfl) rfl (bA tok rfl rfl rfl rfl) rfl rfl rfl (cZ rfl (w1 rfl rfl rfl) rfl (bA tok rfl rfl rfl rfl) rfl rfl rfl (cZ rfl (w1 rfl rfl rfl) rfl (yO tok rfl rfl rfl rfl rfl rfl rfl) rfl rfl rfl (cZ rfl (w1 rfl rfl rfl) rfl (rG tok rfl rfl rfl rfl rfl) rfl rfl rfl (cZ rfl (w1 rfl rfl rfl) rfl (yO tok rfl rfl rfl rfl rfl rfl rfl) rfl rfl rfl (cZ rfl (w1 rfl rfl rfl) rfl (rG tok rfl rfl rfl rfl rfl) rfl rfl rfl ?_)))))))
 obtain ⟨v4,hv4,h0⟩:=bnd h0
 refine jW rfl (w1 rfl rfl rfl) rfl (cV 5 (aBi hv4) rfl rfl rfl) ?_
 obtain ⟨v5,hv5,h0⟩:=bnd h0
 refine jW rfl (w1 rfl rfl rfl) rfl (cV 5 (wY hv5) rfl rfl rfl) ?_
 obtain ⟨v6,hv6,h0⟩:=bnd h0
 refine jW rfl (w1 rfl rfl rfl) rfl (cV 5 (dX hv6) rfl rfl rfl) (aBv ?_)
 refine tpa ?_
 refine bN ?_
 refine ⟨by kernel_rfl,?_⟩
 refine aG (aA ?_)
 cases h0
 exact r0t 4 rfl
 iterate 11 refine k2 ?_
 refine aBu ?_
 refine tpa ?_
 refine bN ?_
 refine ⟨by kernel_rfl,?_⟩
 refine aG (aA ?_)
 cases h0
 exact r0t 4 rfl
 iterate 4 refine k2 ?_
 refine aBu ?_
 refine tpm ?_
 iterate 11 refine k2 ?_
 refine aBu ?_
 refine tpa ?_
 refine bN ?_
 refine ⟨by kernel_rfl,?_⟩
 refine aG (aA ?_)
 cases h0
 exact r0t 4 rfl
 iterate 3 refine k2 ?_
 refine aBu ?_
 refine tpm ?_
 iterate 4 refine k2 ?_
 refine aBu ?_
 refine tpm ?_
 iterate 11 refine k2 ?_
 refine aBu ?_
 refine tpa ?_
 refine bN ?_
 refine ⟨by kernel_rfl,?_⟩
 refine aG (aA ?_)
 cases h0
 exact r0t 4 rfl
theorem uD {p0:List Int} {r:Int} (h0:eP p0=some r):FnC Tryz.prog 91 [] [dL cI p0] [] (dI r):=by
 refine fi 25 tok Tryz.func91 ?_
 unfold eP at h0
 refine sq [0] (pa (nx ?_))
 obtain ⟨v1,h1,h0⟩:=bnd h0
 refine bI ⟨aC ((fun _ => .dead)) 0 (dL cI p0),lks [.no, .no, .no]⟩ ?_ ?_
 refine sq [0,1,2] (pm ?_)
 refine rP rfl (aJ tok rfl rfl rfl) (rP rfl (bK rfl rfl) (nx ?_))
 refine bC h1 rfl (fun hc h1 => ?_) (fun hc h1 => ?_)
 cases h1
 refine sk ?_
 cases h1
 exact wk [0,1,2]
 refine sq [0,1,2,3] (pm ?_)
 obtain ⟨v2,hv2,h0⟩:=bnd h0
 refine rP rfl (cE tok hv2 rfl rfl rfl rfl rfl rfl) (lr tok ?_)
 refine pa (nx ?_)
 obtain ⟨v7,h1,h0⟩:=bnd h0
 refine bI ⟨aC ((fun _ => .dead)) 3 (dI v7),lks [.no, .no, .no]⟩ ?_ ?_
 refine sq [0] (pa (nx (aE ?_)))
 refine aZ (fun s5=>⟨aC (aC (aC ((fun _ => .dead)) 0 (dL cI p0)) 3 (dI s5.1)) 4 (dI s5.2),lks [.no, .no, .no]⟩) h1 ?_ (fun s5 y h2 => ?_)
 exact wk [0,1,2]
 refine aB (sq [0,1,2,3] (pm ?_))
 refine pm ?_
 refine rP rfl (aJ tok rfl rfl rfl) (rP rfl (bK rfl rfl) (nx ?_))
 refine bC h2 rfl (fun hc h2 => ?_) (fun hc h2 => ?_)
 refine sk (aB (aE (sr [0,1,2,3,4,5,6] ?_)))
 iterate 3 refine pm ?_
 obtain ⟨v6,hv6,h2⟩:=bnd h2
 refine rP rfl (cE tok hv6 rfl rfl rfl rfl rfl rfl) (lr tok ?_)
 refine rP rfl (aUz rfl rfl) (pa (aY ?_))
 refine bB (aG (sr [0,1,2] (pm ?_)))
 refine rP rfl (bH rfl rfl) (pa (aY ?_))
 refine bS ?_
 cases h2
 refine ⟨_,rfl,?_⟩
 exact wk [0,1,2]
 refine bF (bT ?_)
 cases h2
 refine bU ⟨_,rfl,fun e => ?_⟩
 subst e
 refine aQ (aG ?_)
 exact wk [0,1,2]
 refine sq [0,1] (pm ?_)
 refine pa (nx (aA ?_))
 cases h0
 exact r0t 2 rfl
theorem aCl {p0:aF} {p1:List Int} {p2:gY} {p3:Int} {r:bX × Int} (h0:kE p0 p1 p2 p3=some r):FnC Tryz.prog 42 [] [.agg [dS p0.Name,(dL aT p0.Months),(dL aK p0.Rules),(dI p0.Week)],(dL cI p1), .agg [dI p2.Year,(dI p2.Month),(dI p2.Day)],(dI p3)] [.live [⟨2,1, .data (List.map cI r.1.Cam)⟩]] (.tup [.agg [.own 0 0 r.1.Cam.length,(dI r.1.Months),(dI r.1.Teeth),(dI r.1.At),(dI r.1.Day),(dI r.1.Week),(dI r.1.Weekday)],(dI r.2)]):=by
 refine fi 75 tok Tryz.func42 ?_
 unfold kE at h0
 refine sq [0,1,2,3] (bxx 3 ?_)
 refine bxx 4 ?_
 refine al 5 [zl,z0,z0,z0,z0,z0,z0] tok ?_
 refine pa (nx (aB (sq [0,1,2,3] ?_)))
 refine rL rfl (bA tok rfl rfl rfl rfl) (pm ?_)
 obtain ⟨v1,hv1,h0⟩:=bnd h0
 refine rS rfl (aM 6 (aJq hv1) rfl rfl rfl) (pa (nx (sq [0,1] ?_)))
 refine pm ?_
 refine rP rfl (cQ rfl rfl) (nx ?_)
 refine bC h0 rfl (fun hc h0 => ?_) (fun hc h0 => ?_)
 refine sq [0,1,2,3] (rP rfl (pbl (C0:=[zl,z0,z0,z0,z0,z0,z0]) tok rfl rfl rfl) (pm ?_))
 refine bst tok ?_
 refine pa (nx ?_)
 refine wa 6 2 1 5 0 (aA (aI ?_))
 cases h0
 exact dG (rs:=[.cell 8 36, .tmp 9]) [6] rfl
 refine sk (aB ?_)
 obtain ⟨v4,h1,h0⟩:=bnd h0
 refine bI ⟨aC (aC (aC (aC (aC (aC ((fun _ => .dead)) 1 (dL cI p1)) 3 (dI p3)) 4 (.ptr 3 0 1 0 0)) 6 (.ptr 4 0 1 0 0)) 8 (.ptr 5 0 1 0 0)) 32 (dB v4),lks [.no, .no, .no, .live [⟨29,4, .av [[dS p0.Name,(dL aT p0.Months),(dL aK p0.Rules),(dI p0.Week)]]⟩], .live [⟨34,3, .av [[dI p2.Year,(dI p2.Month),(dI p2.Day)]]⟩], .live [⟨36,7, .av [[zl,z0,z0,z0,z0,z0,z0]]⟩]]⟩ ?_ ?_
 refine sr [0,1,2,3,4,5,6,7,8,9,10] (rL rfl (bA tok rfl rfl rfl rfl) (rL rfl (bA tok rfl rfl rfl rfl) ?_))
 obtain ⟨v2,hv2,h1⟩:=bnd h1
 refine rS rfl (aM 6 (aHh hv2) rfl rfl rfl) (rP rfl (bW rfl) (pm ?_))
 refine dU (u:=26) h1 rfl (fun hc h1 => ?_) (fun hc h1 => ?_)
 iterate 5 refine k1 ?_
 refine pkt (nx ?_)
 cases h1
 exact wk [0,1,2,3,4,5]
 refine pm1 ?_
 refine fa1 tok ?_
 refine ld1 tok ?_
 obtain ⟨v3,hv3,h1⟩:=bnd h1
 refine rs rfl (w1 rfl rfl rfl) rfl (aM 6 (dX hv3) rfl rfl rfl) (rp rfl (w1 rfl rfl rfl) rfl (bW rfl) (pkf (nx ?_)))
 cases h1
 exact wk [0,1,2,3,4,5]
 refine bM h0 rfl (fun hc h0 => ?_) (fun hc h0 => ?_)
 refine sq [0,1,2] (rP rfl (pbl (C0:=[zl,z0,z0,z0,z0,z0,z0]) tok rfl rfl rfl) (bst tok ?_))
 refine pa (nx ?_)
 refine wa 6 2 1 5 0 (aA (aI ?_))
 cases h0
 exact dG (rs:=[.cell 8 36, .tmp 9]) [6] rfl
 refine sk (sq [0,1,2] (pm ?_))
 obtain ⟨v5,hv5,h0⟩:=bnd h0
 refine rS rfl (aM 6 (uD hv5) rfl rfl rfl) (pa (nx ?_))
 obtain ⟨v10,h1,h0⟩:=bnd h0
 refine bI ⟨aC (aC (aC (aC (aC (aC ((fun _ => .dead)) 1 (dL cI p1)) 3 (dI p3)) 4 (.ptr 3 0 1 0 0)) 6 (.ptr 4 0 1 0 0)) 8 (.ptr 5 0 1 0 0)) 11 (dI v10),lks [.no, .no, .no, .live [⟨29,4, .av [[dS p0.Name,(dL aT p0.Months),(dL aK p0.Rules),(dI p0.Week)]]⟩], .live [⟨34,3, .av [[dI p2.Year,(dI p2.Month),(dI p2.Day)]]⟩], .live [⟨36,7, .av [[zl,z0,z0,z0,z0,z0,z0]]⟩]]⟩ ?_ ?_
 refine sq [0,1,2,3] (fa tok ?_)
 refine ld tok ?_
 refine rP rfl (aJ tok rfl rfl rfl) (pm (nx (aE ?_)))
 refine aZ (fun s8=>⟨aC (aC (aC (aC (aC (aC (aC (aC (aC ((fun _ => .dead)) 1 (dL cI p1)) 3 (dI p3)) 4 (.ptr 3 0 1 0 0)) 6 (.ptr 4 0 1 0 0)) 8 (.ptr 5 0 1 0 0)) 11 (dI s8.1)) 37 (dL aT p0.Months)) 38 (dI (p0.Months.length:Int))) 39 (dI s8.2),lks [.no, .no, .no, .live [⟨29,4, .av [[dS p0.Name,(dL aT p0.Months),(dL aK p0.Rules),(dI p0.Week)]]⟩], .live [⟨34,3, .av [[dI p2.Year,(dI p2.Month),(dI p2.Day)]]⟩], .live [⟨36,7, .av [[zl,z0,z0,z0,z0,z0,z0]]⟩]]⟩) h1 ?_ (fun s8 y h2 => ?_)
 exact wk [0,1,2,3,4,5]
 refine sq [0] (rP rfl (bK rfl rfl) (nx (aB ?_)))
 refine bC h2 rfl (fun hc h2 => ?_) (fun hc h2 => ?_)
 refine sk (aB (aE (sq [0,1,2,3] ?_)))
 obtain ⟨v9,hv9,h2⟩:=bnd h2
 refine rP rfl (cE tok hv9 rfl rfl rfl rfl rfl rfl) (rP rfl (bJ tok rfl rfl rfl (by repeat (first | exact gV.z _ | apply gV.t))) (al 6 [ze,z0,z0] tok ?_))
 refine bst tok (nx (sr [0,1,2,3,4,5,6] ?_))
 refine pm ?_
 refine fa tok ?_
 refine ld tok ?_
 refine fa tok ?_
 refine ld tok ?_
 refine rP rfl (aWa rfl rfl rfl) (pa (aY ?_))
 refine bB (aG (sr [0,1] (rP rfl (bH rfl rfl) (pm (aY ?_)))))
 refine bS ?_
 cases h2
 refine ⟨_,rfl,?_⟩
 exact wk [0,1,2,3,4,5]
 refine bF (bT ?_)
 cases h2
 refine bU ⟨_,rfl,fun e => ?_⟩
 subst e
 refine aQ (aG ?_)
 exact wk [0,1,2,3,4,5]
 refine sq [0,1,2,3] (fa tok ?_)
 refine ld tok ?_
 refine rP rfl (aJ tok rfl rfl rfl) (pa (nx (aB ?_)))
 refine aH (is:=[0,2,3,4,5,6,7,10,12,13,16,17,18,19,20,1,8,9,11,14,15,21,22,23]) [0,1,0,0,0,16,0,0,195,499,0,2035,0,4096,16371,32755,0,65536,0,262144,0,2097151,4194303,8388607] follows (by kernel_rfl) ?_
 iterate 3 refine tpm ?_
 refine tfa tok ?_
 refine tld tok ?_
 refine cZ rfl w0 rfl (bA tok rfl rfl rfl rfl) rfl rfl rfl (tpm ?_)
 refine tpm ?_
 refine tfa tok ?_
 refine tld tok ?_
 refine tfa tok ?_
 refine tld tok ?_
 refine tfa tok ?_
 refine tld tok ?_
 refine tpm ?_
 obtain ⟨v11,hv11,h0⟩:=bnd h0
 refine jW rfl w0 rfl (cV 6 (fG hv11) rfl rfl rfl) ?_
 obtain ⟨v12,hv12,h0⟩:=bnd h0
 refine jW rfl w0 rfl (cV 7 (rZ hv12) rfl rfl rfl) ?_
 obtain ⟨hq13,h0⟩:=cO h0
 refine tP rfl (kU rfl rfl hq13) (tP rfl (eL rfl rfl) (tP rfl (bH rfl rfl) (tP rfl (gX rfl rfl) (tP rfl (pbl (C0:=[zl,z0,z0,z0,z0,z0,z0]) tok rfl rfl rfl) (oN rfl w0 (jA (cs:=_ :: _) tok rfl rfl rfl rfl rfl rfl rfl) (tpa ?_))))))
 refine bN ?_
 refine ⟨by kernel_rfl,?_⟩
 refine aG (aA ?_)
 cases h0
 exact dG (rs:=[.cell 8 36, .tmp 9]) [6] rfl
theorem aOw {p0:aW} {p1:gY} {p2:Int} {r:wN × Int} (h0:uI p0 p1 p2=some r):FnC Tryz.prog 18 [] [.agg [dS p0.Name,(dL aS p0.Works.Arbors),(dL bV p0.Works.Meshes),(dI p0.Minute),(dI p0.Hour),(dI p0.Escape),(dI p0.Teeth),(dI p0.Beats),(dS p0.Calendar.Name),(dL aT p0.Calendar.Months),(dL aK p0.Calendar.Rules),(dI p0.Calendar.Week),(dL cI p0.Cam),(dI p0.Strike)], .agg [dI p1.Year,(dI p1.Month),(dI p1.Day)],(dI p2)] [.live [⟨88,2, .av (fA 1 aS r.1.Movement.Works.Arbors)⟩], .live (pC 2 1 aS r.1.Movement.Works.Arbors), .live [⟨90,4, .data (List.map bV r.1.Movement.Works.Meshes)⟩], .live [⟨62,3, .data (List.map aT r.1.Movement.Calendar.Months)⟩], .live [⟨66,3, .data (List.map aK r.1.Movement.Calendar.Rules)⟩], .live [⟨2,1, .data (List.map cI r.1.Movement.Cam)⟩], .live [⟨2,1, .data (List.map cI r.1.Dial.Cam)⟩]] (.tup [.agg [dS r.1.Movement.Name, .own 0 0 r.1.Movement.Works.Arbors.length, .own 2 0 r.1.Movement.Works.Meshes.length,(dI r.1.Movement.Minute),(dI r.1.Movement.Hour),(dI r.1.Movement.Escape),(dI r.1.Movement.Teeth),(dI r.1.Movement.Beats),(dS r.1.Movement.Calendar.Name), .own 3 0 r.1.Movement.Calendar.Months.length, .own 4 0 r.1.Movement.Calendar.Rules.length,(dI r.1.Movement.Calendar.Week), .own 5 0 r.1.Movement.Cam.length,(dI r.1.Movement.Strike),(dI r.1.Start.Year),(dI r.1.Start.Month),(dI r.1.Start.Day),(dI r.1.First),(dI r.1.Clock), .own 6 0 r.1.Dial.Cam.length,(dI r.1.Dial.Months),(dI r.1.Dial.Teeth),(dI r.1.Dial.At),(dI r.1.Dial.Day),(dI r.1.Dial.Week),(dI r.1.Dial.Weekday)],(dI r.2)]):=by
 refine fi 39 tok Tryz.func18 ?_
 unfold uI at h0
 refine sq [0,1,2,3] (bxx 3 ?_)
 refine bxx 4 ?_
 refine al 5 [ze,zl,zl,z0,z0,z0,z0,z0,ze,zl,zl,z0,zl,z0,z0,z0,z0,z0,z0,zl,z0,z0,z0,z0,z0,z0] tok ?_
 refine pa (nx (aB (sq [0,1,2] ?_)))
 refine rL rfl (bA tok rfl rfl rfl rfl) ?_
 obtain ⟨v1,hv1,h0⟩:=bnd h0
 refine rS rfl (aM 6 (uJ hv1) rfl rfl rfl) (rP rfl (bW rfl) (nx ?_))
 refine bM h0 rfl (fun hc h0 => ?_) (fun hc h0 => ?_)
 refine sq [0,1,2] (rP rfl (pbl (C0:=[ze,zl,zl,z0,z0,z0,z0,z0,ze,zl,zl,z0,zl,z0,z0,z0,z0,z0,z0,zl,z0,z0,z0,z0,z0,z0]) tok rfl rfl rfl) (bst tok ?_))
 refine pa (nx ?_)
 refine wa 6 88 2 5 1 ?_
 refine cN (dR 7 (k:=6) 2 1 aS rfl rfl) (wa 8 90 4 5 2 ?_)
 refine wa 9 62 3 5 9 ?_
 refine wa 10 66 3 5 10 ?_
 refine wa 11 2 1 5 12 ?_
 refine wa 12 2 1 5 19 (aA (aI ?_))
 cases h0
 exact dG (rs:=[.cell 6 38, .tmp 7]) [6,7,8,9,10,11,12] rfl
 refine sk (aB (sq [0,1,2,3] (rL rfl (bA tok rfl rfl rfl rfl) ?_)))
 obtain ⟨v2,hv2,h0⟩:=bnd h0
 refine rS rfl (aM 6 (aAb hv2) rfl rfl rfl) (rL rfl (mF tok rfl rfl rfl rfl rfl) (rP rfl (gT rfl rfl) (nx ?_)))
 refine bC h0 rfl (fun hc h0 => ?_) (fun hc h0 => ?_)
 refine sq [0,1,2] (rP rfl (pbl (C0:=[ze,zl,zl,z0,z0,z0,z0,z0,ze,zl,zl,z0,zl,z0,z0,z0,z0,z0,z0,zl,z0,z0,z0,z0,z0,z0]) tok rfl rfl rfl) (bst tok ?_))
 refine pa (nx ?_)
 refine wa 7 88 2 5 1 ?_
 refine cN (dR 8 (k:=7) 2 1 aS rfl rfl) (wa 9 90 4 5 2 ?_)
 refine wa 10 62 3 5 9 ?_
 refine wa 11 66 3 5 10 ?_
 refine wa 12 2 1 5 12 ?_
 refine wa 13 2 1 5 19 (aA (aI ?_))
 cases h0
 exact dG (rs:=[.cell 6 38, .tmp 7]) [7,8,9,10,11,12,13] rfl
 refine sk (sq [0,1,2,3,4,5,6,7,8,9,10,11,12] (fa tok ?_))
 refine rL rfl (bA tok rfl rfl rfl rfl) (fa tok ?_)
 refine ld tok ?_
 refine rL rfl (bA tok rfl rfl rfl rfl) (pm ?_)
 obtain ⟨v3,hv3,h0⟩:=bnd h0
 refine rS rfl (aM 7 (aCl hv3) rfl rfl rfl) (rP rfl (aL (r := .tup _) rfl) (rP rfl (aN rfl rfl) (rP rfl (aN rfl rfl) (al 8 [zl,z0,z0,z0,z0,z0,z0] tok ?_))))
 refine bst tok ?_
 refine pa (nx (aB (sq [0,1] ?_)))
 refine pm ?_
 refine rP rfl (cQ rfl rfl) (nx ?_)
 refine bC h0 rfl (fun hc h0 => ?_) (fun hc h0 => ?_)
 refine sq [0,1,2,3] (rP rfl (pbl (C0:=[ze,zl,zl,z0,z0,z0,z0,z0,ze,zl,zl,z0,zl,z0,z0,z0,z0,z0,z0,zl,z0,z0,z0,z0,z0,z0]) tok rfl rfl rfl) (pm ?_))
 refine bst tok ?_
 refine pa (nx ?_)
 refine wa 9 88 2 5 1 ?_
 refine cN (dR 10 (k:=9) 2 1 aS rfl rfl) (wa 11 90 4 5 2 ?_)
 refine wa 12 62 3 5 9 ?_
 refine wa 13 66 3 5 10 ?_
 refine wa 14 2 1 5 12 ?_
 refine wa 15 2 1 5 19 (aA (aI ?_))
 cases h0
 exact dG (rs:=[.cell 6 38, .tmp 7]) [9,10,11,12,13,14,15] rfl
 refine sk (aB (aH (is:=[0,2,3,4,1,5,6,7]) [0,1,0,0,0,31,63,127] follows (by kernel_rfl) (cZ rfl w0 rfl (bA tok rfl rfl rfl rfl) rfl rfl rfl (cZ rfl w0 rfl (bA tok rfl rfl rfl rfl) rfl rfl rfl (tpm ?_)))))
 refine cZ rfl w0 rfl (bA tok rfl rfl rfl rfl) rfl rfl rfl ?_
 obtain ⟨v4,hv4,h0⟩:=bnd h0
 refine jW rfl w0 rfl (cV 9 (wE hv4) rfl rfl rfl) (tP rfl (pbl (C0:=[ze,zl,zl,z0,z0,z0,z0,z0,ze,zl,zl,z0,zl,z0,z0,z0,z0,z0,z0,zl,z0,z0,z0,z0,z0,z0]) tok rfl rfl rfl) (oN rfl w0 (jA (cs:=_ :: _) tok rfl rfl rfl rfl rfl rfl rfl) (tpa ?_)))
 refine bN ?_
 refine ⟨by kernel_rfl,?_⟩
 refine aG (aA ?_)
 cases h0
 exact dG (rs:=[.cell 6 38, .tmp 7]) [9,10,11,12,13,14,7] rfl
theorem aLx {p0:Int} {p1:Int} {p2:ByteArray} {p3:Int} {p4:Int} {r:wN × Int} (h0:vK p0 p1 p2 p3 p4=some r):FnC Tryz.prog 10 [] [dI p0,(dI p1),(dS p2),(dI p3),(dI p4)] [.live [⟨88,2, .av (fA 1 aS r.1.Movement.Works.Arbors)⟩], .live (pC 2 1 aS r.1.Movement.Works.Arbors), .live [⟨90,4, .data (List.map bV r.1.Movement.Works.Meshes)⟩], .live [⟨62,3, .data (List.map aT r.1.Movement.Calendar.Months)⟩], .live [⟨66,3, .data (List.map aK r.1.Movement.Calendar.Rules)⟩], .live [⟨2,1, .data (List.map cI r.1.Movement.Cam)⟩], .live [⟨2,1, .data (List.map cI r.1.Dial.Cam)⟩]] (.tup [.agg [dS r.1.Movement.Name, .own 0 0 r.1.Movement.Works.Arbors.length, .own 2 0 r.1.Movement.Works.Meshes.length,(dI r.1.Movement.Minute),(dI r.1.Movement.Hour),(dI r.1.Movement.Escape),(dI r.1.Movement.Teeth),(dI r.1.Movement.Beats),(dS r.1.Movement.Calendar.Name), .own 3 0 r.1.Movement.Calendar.Months.length, .own 4 0 r.1.Movement.Calendar.Rules.length,(dI r.1.Movement.Calendar.Week), .own 5 0 r.1.Movement.Cam.length,(dI r.1.Movement.Strike),(dI r.1.Start.Year),(dI r.1.Start.Month),(dI r.1.Start.Day),(dI r.1.First),(dI r.1.Clock), .own 6 0 r.1.Dial.Cam.length,(dI r.1.Dial.Months),(dI r.1.Dial.Teeth),(dI r.1.Dial.At),(dI r.1.Dial.Day),(dI r.1.Dial.Week),(dI r.1.Dial.Weekday)],(dI r.2)]):=by
 refine fi 42 tok Tryz.func10 ?_
 unfold vK at h0
 refine sq [0,1] (al 3 [ze,zl,zl,z0,z0,z0,z0,z0,ze,zl,zl,z0,zl,z0,z0,z0,z0,z0,z0,zl,z0,z0,z0,z0,z0,z0] tok ?_)
 refine pa (nx (sq [0,1,2,3,4,5,6,7] ?_))
 refine pm ?_
 obtain ⟨v1,hv1,h0⟩:=bnd h0
 refine rS rfl (aM 4 (aBf hv1) rfl rfl rfl) (rP rfl (aL (r := .tup _) rfl) (rP rfl (aN rfl rfl) (rP rfl (aN rfl rfl) (al 6 [ze,zl,zl,z0] tok ?_))))
 refine bst tok ?_
 refine pa (nx (aB (sq [0,1] ?_)))
 refine pm ?_
 refine rP rfl (cQ rfl rfl) (nx ?_)
 refine bC h0 rfl (fun hc h0 => ?_) (fun hc h0 => ?_)
 refine sq [0,1,2,3] (rP rfl (pbl (C0:=[ze,zl,zl,z0,z0,z0,z0,z0,ze,zl,zl,z0,zl,z0,z0,z0,z0,z0,z0,zl,z0,z0,z0,z0,z0,z0]) tok rfl rfl rfl) (pm ?_))
 refine bst tok ?_
 refine pa (nx ?_)
 refine wa 7 88 2 3 1 ?_
 refine cN (dR 8 (k:=7) 2 1 aS rfl rfl) (wa 9 90 4 3 2 ?_)
 refine wa 10 62 3 3 9 ?_
 refine wa 11 66 3 3 10 ?_
 refine wa 12 2 1 3 12 ?_
 refine wa 13 2 1 3 19 (aA (aI ?_))
 cases h0
 exact dG (rs:=[.cell 10 38, .tmp 11]) [7,8,9,10,11,12,13] rfl
 refine sk (sq [0,1,2,3,4,5,6,7,8,9,10] (pm ?_))
 refine pm ?_
 refine rL rfl (bA tok rfl rfl rfl rfl) (pm ?_)
 obtain ⟨v2,hv2,h0⟩:=bnd h0
 refine rS rfl (eW 7 (aAa hv2) rfl rfl) (rP rfl (aL (r := .tup _) rfl) (rP rfl (aN rfl rfl) (rP rfl (aN rfl rfl) (al 13 [ze,zl,zl,z0,z0,z0,z0,z0,ze,zl,zl,z0,zl,z0] tok ?_))))
 refine bst tok ?_
 refine pa (nx (aB (sq [0,1] ?_)))
 refine pm ?_
 refine rP rfl (cQ rfl rfl) (nx ?_)
 refine bC h0 rfl (fun hc h0 => ?_) (fun hc h0 => ?_)
 refine sq [0,1,2,3] (rP rfl (pbl (C0:=[ze,zl,zl,z0,z0,z0,z0,z0,ze,zl,zl,z0,zl,z0,z0,z0,z0,z0,z0,zl,z0,z0,z0,z0,z0,z0]) tok rfl rfl rfl) (pm ?_))
 refine bst tok ?_
 refine pa (nx ?_)
 refine wa 14 88 2 3 1 ?_
 refine cN (dR 15 (k:=14) 2 1 aS rfl rfl) (wa 16 90 4 3 2 ?_)
 refine wa 17 62 3 3 9 ?_
 refine wa 18 66 3 3 10 ?_
 refine wa 19 2 1 3 12 ?_
 refine wa 20 2 1 3 19 (aA (aI ?_))
 cases h0
 exact dG (rs:=[.cell 10 38, .tmp 11]) [14,15,16,17,18,19,20] rfl
 refine sk (sq [0,1,2,3,4,5,6,7] (rL rfl (bA tok rfl rfl rfl rfl) (rP rfl (pbl (C0:=[z0,z0,z0]) tok rfl rfl rfl) (pm ?_))))
 obtain ⟨v3,hv3,h0⟩:=bnd h0
 refine rS rfl (eW 14 (aOw hv3) rfl rfl) (rP rfl (aN rfl rfl) (rP rfl (aN rfl rfl) (bst tok ?_)))
 refine pa (nx (aA ?_))
 cases h0
 exact dG (rs:=[.cell 10 38, .tmp 11]) [14,15,16,17,18,19,20] rfl
theorem aD6  {r:rR} (h0:pE  = some r):FnC Tryz.prog 5 [] [] [.live [⟨88,2, .av (fA 1 aS r.Sim.Movement.Works.Arbors)⟩], .live (pC 2 1 aS r.Sim.Movement.Works.Arbors), .live [⟨90,4, .data (List.map bV r.Sim.Movement.Works.Meshes)⟩], .live [⟨62,3, .data (List.map aT r.Sim.Movement.Calendar.Months)⟩], .live [⟨66,3, .data (List.map aK r.Sim.Movement.Calendar.Rules)⟩], .live [⟨2,1, .data (List.map cI r.Sim.Movement.Cam)⟩], .live [⟨2,1, .data (List.map cI r.Sim.Dial.Cam)⟩]] (.agg [dS r.Sim.Movement.Name, .own 0 0 r.Sim.Movement.Works.Arbors.length, .own 2 0 r.Sim.Movement.Works.Meshes.length,(dI r.Sim.Movement.Minute),(dI r.Sim.Movement.Hour),(dI r.Sim.Movement.Escape),(dI r.Sim.Movement.Teeth),(dI r.Sim.Movement.Beats),(dS r.Sim.Movement.Calendar.Name), .own 3 0 r.Sim.Movement.Calendar.Months.length, .own 4 0 r.Sim.Movement.Calendar.Rules.length,(dI r.Sim.Movement.Calendar.Week), .own 5 0 r.Sim.Movement.Cam.length,(dI r.Sim.Movement.Strike),(dI r.Sim.Start.Year),(dI r.Sim.Start.Month),(dI r.Sim.Start.Day),(dI r.Sim.First),(dI r.Sim.Clock), .own 6 0 r.Sim.Dial.Cam.length,(dI r.Sim.Dial.Months),(dI r.Sim.Dial.Teeth),(dI r.Sim.Dial.At),(dI r.Sim.Dial.Day),(dI r.Sim.Dial.Week),(dI r.Sim.Dial.Weekday)]):=by
 refine fi 9 tok Tryz.func5 ?_
 unfold pE at h0
 refine sq [0] (al 3 [ze,zl,zl,z0,z0,z0,z0,z0,ze,zl,zl,z0,zl,z0,z0,z0,z0,z0,z0,zl,z0,z0,z0,z0,z0,z0] tok (nx (sq [0,1,2,3,4,5,6] ?_)))
 obtain ⟨v1,hv1,h0⟩:=bnd h0
 refine rS rfl (aM 4 (aLx hv1) rfl rfl rfl) (rP rfl (aL (r := .tup _) rfl) (rP rfl (aN rfl rfl) (rP rfl (aN rfl rfl) (al 11 [ze,zl,zl,z0,z0,z0,z0,z0,ze,zl,zl,z0,zl,z0,z0,z0,z0,z0,z0,zl,z0,z0,z0,z0,z0,z0] tok ?_))))
 refine bst tok ?_
 refine pa (nx (sq [0,1,2] ?_))
 refine rL rfl (bA tok rfl rfl rfl rfl) (rP rfl (pbl (C0:=[ze,zl,zl,z0,z0,z0,z0,z0,ze,zl,zl,z0,zl,z0,z0,z0,z0,z0,z0,zl,z0,z0,z0,z0,z0,z0]) tok rfl rfl rfl) (bst tok (nx (aA ?_))))
 cases h0
 exact dG (rs:=[.cell 0 40]) [4,5,6,7,8,9,10] rfl
end Go.Proofs.YtceknlcbfomdhaaGreatDoor
