/- Texts of this claim, one behind the other (merged by a program of mine). -/
import Derived.Test.YtbliejnpjpnahaaGreatDoorProg
import Derived.Test.YtbliejnpjpnahaaGreatDoorGCz10
set_option linter.unusedSimpArgs false
set_option linter.unusedVariables false
namespace Go.Proofs.YtbliejnpjpnahaaGreatDoor
open Go.RowKit
set_option linter.unusedVariables false
set_option maxRecDepth 100000
set_option maxHeartbeats 2000000
theorem zG {p0:dU} {p1:dU} {r:Int} (h0:mC p0 p1=some r):FnC Tryz.prog 256 [] [.agg [dI p0.Driver,(dI p0.Driven)], .agg [dI p1.Driver,(dI p1.Driven)]] [] (dI r):=by
 refine fi 17 tok Tryz.func256 ?_
 unfold mC at h0
 refine au 1 ?_
 refine bxx 3 ?_
 refine bxx 4 ?_
 refine au 3 ?_
 refine tdr [0,1,2,3,5,6,7,8,4,9,10,11,12] follows (au 8 ?_)
 obtain ⟨v1,hv1,h0⟩:=bnd h0
 refine clt 6 (gS hv1) ?_
 obtain ⟨v2,hv2,h0⟩:=bnd h0
 refine clt 6 (gS hv2) ?_
 refine aDz rfl w0 rfl rfl (fun hx hk=>aOg 5 tok cI [v1,v2] rfl rfl rfl (by repeat (first | exact Els.nil _ | apply Els.cons (cs:=[.d _]) rfl rfl rfl | apply Els.cons (cs:=_ :: _) rfl rfl rfl)) rfl rfl rfl (by repeat (first | exact pH.nil | (apply pH.cons; (repeat (first | exact aC6.nil | apply aC6.cons))))) rfl hk) ?_
 obtain ⟨v3,hv3,h0⟩:=bnd h0
 refine clt 6 (aJt hv3) ?_
 refine au 4 ?_
 cases h0
 exact r0t 4 rfl
theorem fF {p0:List dU} {p1:List dU} {r:Int} (h0:bW p0 p1=some r):FnC Tryz.prog 255 [] [dL eD p0,(dL eD p1), .fn 256 []] [] (dI r):=by
 refine fi 39 tok Tryz.func255 ?_
 unfold bW at h0
 refine au 3 ?_
 obtain ⟨v9x,h1,h0⟩:=bnd h0
 refine cF v9x (fun v9=>⟨aA (aA aH 0 (dL eD p0)) 1 (dL eD p1),lk3 []⟩) ?_ ?_
 refine au 6 ?_
 refine aK (fun s5=>⟨aA (aA (aA (aA (aA (aA aH 0 (dL eD p0)) 1 (dL eD p1)) 2 (.fn 256 [])) 11 (dL eD p0)) 12 (dI (p0.length:Int))) 13 (dI s5),lk3 []⟩) h1 ?_ (fun s5 y h2 => ?_)
 exact wk [0,1,2]
 refine au 4 ?_
 refine aif h2 ?_ ?_ <;> intro hc h2
 refine au 5 ?_
 obtain ⟨v6,hv6,h2⟩:=bnd h2
 refine rP rfl (bS tok hv6 rfl rfl rfl rfl rfl rfl) (au 1 ?_)
 refine al 3 [z0,z0] tok ?_
 refine au 10 ?_
 refine aif h2 ?_ ?_ <;> intro hc h2
 refine au 7 ?_
 cases h2
 refine lpr fun e => ?_
 subst e
 refine au 1 ?_
 replace h0:=eO h0
 refine au 1 ?_
 cases h0
 exact r0t 6 rfl
 refine au 4 ?_
 obtain ⟨v7,hv7,h2⟩:=bnd h2
 refine rP rfl (bS tok hv7 rfl rfl rfl rfl rfl rfl) (au 1 ?_)
 refine al 4 [z0,z0] tok ?_
 refine au 3 ?_
 refine rP rfl (gZ (r := .fn _ _) rfl) (au 2 ?_)
 obtain ⟨v8,hv8,h2⟩:=bnd h2
 refine cll 5 (zG hv8) ?_
 refine au 6 ?_
 refine aif h2 ?_ ?_ <;> intro hc h2
 refine au 7 ?_
 cases h2
 refine lpr fun e => ?_
 subst e
 refine au 1 ?_
 replace h0:=eO h0
 refine au 1 ?_
 cases h0
 exact r0t 6 rfl
 refine au 7 ?_
 refine bD ?_
 cases h2
 refine ⟨_,rfl,?_⟩
 exact wk [0,1,2]
 refine au 2 ?_
 cases h2
 refine lpx fun e => ?_
 subst e
 refine au 2 ?_
 refine ⟨_,rfl,?_⟩
 exact wk [0,1,2]
 rintro v9 rfl
 replace h0:=gO h0
 refine au 8 ?_
 refine aif h0 ?_ ?_ <;> intro hc h0
 refine au 5 ?_
 cases h0
 exact r0t 6 rfl
 refine au 5 ?_
 cases h0
 exact r0t 6 rfl
theorem aBt {p0:List dU} {p1:List dU} {r:Int} (h0:oO p0 p1=some r):FnC Tryz.prog 197 [] [dL eD p0,(dL eD p1)] [] (dI r):=by
 refine fi 17 tok Tryz.func197 ?_
 unfold oO at h0
 refine au 6 ?_
 obtain ⟨v1,hv1,h0⟩:=bnd h0
 refine cll 3 (aE1 hv1) ?_
 refine pm ?_
 obtain ⟨v2,hv2,h0⟩:=bnd h0
 refine cll 3 (aE1 hv2) ?_
 obtain ⟨v3,hv3,h0⟩:=bnd h0
 refine cll 3 (gS hv3) ?_
 refine au 6 ?_
 refine aif h0 ?_ ?_ <;> intro hc h0
 refine au 6 ?_
 cases h0
 exact r0t 4 rfl
 refine au 4 ?_
 obtain ⟨v4,hv4,h0⟩:=bnd h0
 refine cll 3 (fF hv4) ?_
 refine au 3 ?_
 cases h0
 exact r0t 4 rfl
theorem aH6 {p0:aB} {p1:qX} {r:List dU} (h0:vA p0 p1=some r):FnC Tryz.prog 126 [] [.agg [dI p0.Num,(dI p0.Den)], .agg (zV p1)] [] (dL eD r):=by
 refine fi 143 tok Tryz.func126 ?_
 unfold vA at h0
 refine au 1 ?_
 refine bxx 3 ?_
 refine bxx 4 ?_
 refine au 9 ?_
 obtain ⟨v1,hv1,h0⟩:=bnd h0
 refine cll 5 (aG1 hv1) ?_
 refine al 5 [zl, .d (.v (.map none))] tok ?_
 refine au 9 ?_
 obtain ⟨v2,hv2,h0⟩:=bnd h0
 refine cll 6 (aG1 hv2) ?_
 refine al 6 [zl, .d (.v (.map none))] tok ?_
 refine au 5 ?_
 obtain ⟨v61,h1,h0⟩:=bnd h0
 refine aN ⟨aA (aA (aA aH 5 (bA 3)) 6 (bA 4)) 7 (bI 5 v61),lk3 [(slB 275 2 [dL cI v1.products, .d (.mp v1.lists)]),(slB 275 2 [dL cI v2.products, .d (.mp v2.lists)]),slD 282 3 pK v61]⟩ ?_ ?_
 refine au 7 ?_
 refine aK (fun s31=>⟨aA (aA (aA (aA (aA (aA (aA aH 2 (bA 3)) 5 (bA 4)) 6 (bA 5)) 7 (bI 6 s31.2)) 37 (dL cI v1.products)) 38 (dI (v1.products.length:Int))) 39 (dI s31.1),lk3 [(slB 92 2 [dI p0.Num,(dI p0.Den)]),(slB 275 2 [dL cI v1.products, .d (.mp v1.lists)]),(slB 275 2 [dL cI v2.products, .d (.mp v2.lists)]),slD 282 3 pK s31.2]⟩) h1 ?_ (fun s31 y h2 => ?_)
 refine lJ.trans_ (aR 7 rfl 282 3 (d:=7) rfl) ?_
 exact wk [0,1,2,3,5,6,7]
 refine au 4 ?_
 refine aif h2 ?_ ?_ <;> intro hc h2
 refine sk ?_
 obtain ⟨v60,h3,h2⟩:=bnd h2
 refine aN ⟨aA (aA (aA (aA (aA (aA (aA aH 2 (bA 3)) 5 (bA 4)) 6 (bA 5)) 7 (bI 6 v60)) 37 (dL cI v1.products)) 38 (dI (v1.products.length:Int))) 39 (dI s31.1),lk3 [(slB 92 2 [dI p0.Num,(dI p0.Den)]),(slB 275 2 [dL cI v1.products, .d (.mp v1.lists)]),(slB 275 2 [dL cI v2.products, .d (.mp v2.lists)]),slD 282 3 pK v60]⟩ ?_ ?_
 refine au 2 ?_
 obtain ⟨v32,hv32,h3⟩:=bnd h3
 refine rP rfl (bS tok hv32 rfl rfl rfl rfl rfl rfl) (au 7 ?_)
 refine rP rfl (aIw rfl) ?_
 obtain ⟨v33,hv33,h3⟩:=bnd h3
 refine rS rfl (fG 7 (fN hv33) rfl rfl) (au 9 ?_)
 refine rP rfl (aX1 rfl rfl) (au 3 ?_)
 refine aK (fun s47=>⟨aA (aA (aA (aA (aA (aA (aA (aA (aA (aA aH 2 (bA 3)) 5 (bA 4)) 6 (bA 5)) 7 (bI 6 s47.2)) 9 (dI v32)) 10 (dI v33.1)) 12 (dI s47.1)) 37 (dL cI v1.products)) 38 (dI (v1.products.length:Int))) 39 (dI s31.1),lk3 [(slB 92 2 [dI p0.Num,(dI p0.Den)]),(slB 275 2 [dL cI v1.products, .d (.mp v1.lists)]),(slB 275 2 [dL cI v2.products, .d (.mp v2.lists)]),slD 282 3 pK s47.2]⟩) h3 ?_ (fun s47 y h4 => ?_)
 exact wk (.range 7)
 refine au 1 ?_
 obtain ⟨v48,h5,h4⟩:=bnd h4
 refine aN ⟨aA (aA (aA (aA (aA (aA (aA (aA (aA (aA (aA aH 2 (bA 3)) 5 (bA 4)) 6 (bA 5)) 7 (bI 6 s47.2)) 9 (dI v32)) 10 (dI v33.1)) 12 (dI s47.1)) 37 (dL cI v1.products)) 38 (dI (v1.products.length:Int))) 39 (dI s31.1)) 63 (dB v48),lk3 [(slB 92 2 [dI p0.Num,(dI p0.Den)]),(slB 275 2 [dL cI v1.products, .d (.mp v1.lists)]),(slB 275 2 [dL cI v2.products, .d (.mp v2.lists)]),slD 282 3 pK s47.2]⟩ ?_ ?_
 refine au 5 ?_
 refine rif 57 h5 ?_ ?_ <;> intro hc h5
 refine au 7 ?_
 cases h5
 exact wk (.range 7)
 refine au 7 ?_
 cases h5
 exact wk (.range 7)
 refine aiB h4 ?_ ?_ <;> intro hc h4
 refine sk ?_
 obtain ⟨v59,h5,h4⟩:=bnd h4
 refine aN ⟨aA (aA (aA (aA (aA (aA (aA (aA (aA (aA aH 2 (bA 3)) 5 (bA 4)) 6 (bA 5)) 7 (bI 6 v59)) 9 (dI v32)) 10 (dI v33.1)) 12 (dI s47.1)) 37 (dL cI v1.products)) 38 (dI (v1.products.length:Int))) 39 (dI s31.1),lk3 [(slB 92 2 [dI p0.Num,(dI p0.Den)]),(slB 275 2 [dL cI v1.products, .d (.mp v1.lists)]),(slB 275 2 [dL cI v2.products, .d (.mp v2.lists)]),slD 282 3 pK v59]⟩ ?_ ?_
 refine au 7 ?_
 obtain ⟨v49,hv49,h5⟩:=bnd h5
 refine tP rfl (bS tok hv49 rfl rfl rfl rfl rfl rfl) (au 2 ?_)
 obtain ⟨v50,hv50,h5⟩:=bnd h5
 refine clt 8 (aQk hv50) ?_
 refine aDz rfl w0 rfl rfl (fun hx hk=>gH 7 (cs:=xX) tok rfl rfl hk) (au 3 ?_)
 obtain ⟨v54,h6,h5⟩:=bnd h5
 refine aN ⟨aA (aA (aA (aA (aA (aA (aA (aA (aA (aA (aA aH 2 (bA 3)) 5 (bA 4)) 6 (bA 5)) 7 (bI 6 v54)) 9 (dI v32)) 10 (dI v33.1)) 12 (dI s47.1)) 13 (bA 7)) 37 (dL cI v1.products)) 38 (dI (v1.products.length:Int))) 39 (dI s31.1),lk3 [(slB 92 2 [dI p0.Num,(dI p0.Den)]),(slB 275 2 [dL cI v1.products, .d (.mp v1.lists)]),(slB 275 2 [dL cI v2.products, .d (.mp v2.lists)]),slD 282 3 pK v54,(slB 282 3 (qZ v50))]⟩ ?_ ?_
 obtain ⟨v53,h7,h6⟩:=bnd h6
 refine aN ⟨aA (aA (aA (aA (aA (aA (aA (aA (aA (aA (aA (aA aH 2 (bA 3)) 5 (bA 4)) 6 (bA 5)) 7 (bI 6 s47.2)) 9 (dI v32)) 10 (dI v33.1)) 12 (dI s47.1)) 13 (bA 7)) 37 (dL cI v1.products)) 38 (dI (v1.products.length:Int))) 39 (dI s31.1)) 84 (dB v53),lk3 [(slB 92 2 [dI p0.Num,(dI p0.Den)]),(slB 275 2 [dL cI v1.products, .d (.mp v1.lists)]),(slB 275 2 [dL cI v2.products, .d (.mp v2.lists)]),slD 282 3 pK s47.2,(slB 282 3 (qZ v50))]⟩ ?_ ?_
 refine au 5 ?_
 refine aFg (u:=77) h7 rfl (fun hc h7 => ?_) (fun hc h7 => ?_)
 refine au 2 ?_
 obtain ⟨v51,hv51,h7⟩:=bnd h7
 refine jX rfl (w1 rfl rfl rfl) rfl (eV tok hv51 rfl rfl rfl rfl rfl rfl rfl rfl) rfl rfl rfl (jX rfl (w1 rfl rfl rfl) rfl (uB tok (eE hv51).2.1 rfl rfl rfl rfl rfl) rfl rfl rfl ?_)
 obtain ⟨v52,hv52,h7⟩:=bnd h7
 refine aDe rfl (w1 rfl rfl rfl) rfl (kH 8 (yT hv52) rfl rfl rfl) (au 4 ?_)
 cases h7
 exact wk (.range 8)
 refine au 9 ?_
 cases h7
 exact wk (.range 8)
 refine aiB h6 ?_ ?_ <;> intro hc h6
 refine au 3 ?_
 cases h6
 refine lJ.trans_ (aR 8 rfl 282 3 (d:=7) rfl) ?_
 exact wk [0,1,2,3,4,5,8,7]
 refine sk ?_
 cases h6
 exact wk (.range 8)
 obtain ⟨v57,h6,h5⟩:=bnd h5
 refine aN ⟨aA (aA (aA (aA (aA (aA (aA (aA (aA (aA (aA (aA aH 2 (bA 3)) 5 (bA 4)) 6 (bA 5)) 7 (bI 6 v54)) 9 (dI v32)) 10 (dI v33.1)) 12 (dI s47.1)) 13 (bA 7)) 37 (dL cI v1.products)) 38 (dI (v1.products.length:Int))) 39 (dI s31.1)) 95 (dB v57),lk3 [(slB 92 2 [dI p0.Num,(dI p0.Den)]),(slB 275 2 [dL cI v1.products, .d (.mp v1.lists)]),(slB 275 2 [dL cI v2.products, .d (.mp v2.lists)]),slD 282 3 pK v54,(slB 282 3 (qZ v50))]⟩ ?_ ?_
 refine au 5 ?_
 refine aFg (u:=88) h6 rfl (fun hc h6 => ?_) (fun hc h6 => ?_)
 refine au 9 ?_
 cases h6
 exact wk (.range 8)
 refine au 2 ?_
 obtain ⟨v55,hv55,h6⟩:=bnd h6
 refine jX rfl (w1 rfl rfl rfl) rfl (eV tok hv55 rfl rfl rfl rfl rfl rfl rfl rfl) rfl rfl rfl (jX rfl (w1 rfl rfl rfl) rfl (uB tok (eE hv55).2.1 rfl rfl rfl rfl rfl) rfl rfl rfl ?_)
 obtain ⟨v56,hv56,h6⟩:=bnd h6
 refine aDe rfl (w1 rfl rfl rfl) rfl (kH 8 (yT hv56) rfl rfl rfl) (au 4 ?_)
 cases h6
 exact wk (.range 8)
 refine aiB h5 ?_ ?_ <;> intro hc h5
 refine au 3 ?_
 refine bsv tok pK [v50] ?_
 obtain ⟨hq58,h5⟩:=aT h5
 refine rw1 rfl w0 rfl (fJ tok hq58 rfl rfl rfl rfl rfl rfl rfl rfl rfl rfl rfl rfl (fun _=>rfl)) (au 4 ?_)
 cases h5
 exact wk (.range 7)
 refine au 3 ?_
 cases h5
 exact wk (.range 7)
 refine au 5 ?_
 refine bD ?_
 cases h4
 refine ⟨_,rfl,?_⟩
 exact wk (.range 7)
 refine au 2 ?_
 cases h4
 refine lpx fun e => ?_
 subst e
 refine au 3 ?_
 exact wk (.range 7)
 refine au 4 ?_
 refine bD ?_
 cases h2
 refine ⟨_,rfl,?_⟩
 exact wk (.range 7)
 refine au 2 ?_
 cases h2
 refine lpx fun e => ?_
 subst e
 refine au 2 ?_
 exact wk [0,1,2,4,5,6]
 refine au 2 ?_
 refine tN (bAg eD (d:=14) rfl) (nx ?_)
 obtain ⟨v142,h1,h0⟩:=bnd h0
 refine aN ⟨aA aH 14 (aM1 eD v142),lk3 []⟩ ?_ ?_
 refine au 6 ?_
 refine aK (fun s102=>⟨aA (aA (aA (aA (aA (aA aH 5 (bA 3)) 6 (bA 4)) 14 (aM1 eD s102.1)) 101 (bI 5 v61)) 102 (dI (v61.length:Int))) 103 (dI s102.2),lk3 [(slB 275 2 [dL cI v1.products, .d (.mp v1.lists)]),(slB 275 2 [dL cI v2.products, .d (.mp v2.lists)]),slD 282 3 pK v61]⟩) h1 ?_ (fun s102 y h2 => ?_)
 exact wk [0,1,2,3,4,5]
 refine au 4 ?_
 refine aif h2 ?_ ?_ <;> intro hc h2
 refine sk ?_
 obtain ⟨v141,h3,h2⟩:=bnd h2
 refine aN ⟨aA (aA (aA (aA (aA (aA aH 5 (bA 3)) 6 (bA 4)) 14 (aM1 eD v141)) 101 (bI 5 v61)) 102 (dI (v61.length:Int))) 103 (dI s102.2),lk3 [(slB 275 2 [dL cI v1.products, .d (.mp v1.lists)]),(slB 275 2 [dL cI v2.products, .d (.mp v2.lists)]),slD 282 3 pK v61]⟩ ?_ ?_
 refine au 2 ?_
 obtain ⟨v103,hv103,h3⟩:=bnd h3
 refine rL rfl (eV tok hv103 rfl rfl rfl rfl rfl rfl rfl rfl) (rL rfl (uB tok (eE hv103).2.1 rfl rfl rfl rfl rfl) (al 6 xX tok ?_))
 refine au 7 ?_
 obtain ⟨hq104,h3⟩:=aT h3
 refine rP rfl (aTq tok rfl rfl rfl rfl rfl rfl rfl rfl hq104) (au 4 ?_)
 refine aK (fun s123=>⟨aA (aA (aA (aA (aA (aA (aA (aA (aA (aA aH 5 (bA 3)) 6 (bA 4)) 14 (aM1 eD s123.1)) 16 (bA 5)) 101 (bI 6 v61)) 102 (dI (v61.length:Int))) 103 (dI s102.2)) 111 (dL (cL cI) (v1.lists v103.p))) 112 (dI ((v1.lists v103.p).length:Int))) 113 (dI s123.2),lk3 [(slB 275 2 [dL cI v1.products, .d (.mp v1.lists)]),(slB 275 2 [dL cI v2.products, .d (.mp v2.lists)]),(slB 282 3 (qZ v103)),slD 282 3 pK v61]⟩) h3 ?_ (fun s123 y h4 => ?_)
 exact wk [0,1,2,3,4,6,5]
 refine au 4 ?_
 refine aif h4 ?_ ?_ <;> intro hc h4
 refine sk ?_
 obtain ⟨v140,h5,h4⟩:=bnd h4
 refine aN ⟨aA (aA (aA (aA (aA (aA (aA (aA (aA (aA aH 5 (bA 3)) 6 (bA 4)) 14 (aM1 eD v140)) 16 (bA 5)) 101 (bI 6 v61)) 102 (dI (v61.length:Int))) 103 (dI s102.2)) 111 (dL (cL cI) (v1.lists v103.p))) 112 (dI ((v1.lists v103.p).length:Int))) 113 (dI s123.2),lk3 [(slB 275 2 [dL cI v1.products, .d (.mp v1.lists)]),(slB 275 2 [dL cI v2.products, .d (.mp v2.lists)]),(slB 282 3 (qZ v103)),slD 282 3 pK v61]⟩ ?_ ?_
 refine au 2 ?_
 obtain ⟨v124,hv124,h5⟩:=bnd h5
 refine rP rfl (bS tok hv124 rfl rfl rfl rfl rfl rfl) (au 8 ?_)
 obtain ⟨hq125,h5⟩:=aT h5
 refine rP rfl (aTq tok rfl rfl rfl rfl rfl rfl rfl rfl hq125) (au 4 ?_)
 refine aK (fun s133=>⟨aA (aA (aA (aA (aA (aA (aA (aA (aA (aA (aA (aA (aA (aA aH 5 (bA 3)) 6 (bA 4)) 14 (aM1 eD s133.1)) 16 (bA 5)) 18 (dL cI v124)) 101 (bI 6 v61)) 102 (dI (v61.length:Int))) 103 (dI s102.2)) 111 (dL (cL cI) (v1.lists v103.p))) 112 (dI ((v1.lists v103.p).length:Int))) 113 (dI s123.2)) 121 (dL (cL cI) (v2.lists v103.q))) 122 (dI ((v2.lists v103.q).length:Int))) 123 (dI s133.2),lk3 [(slB 275 2 [dL cI v1.products, .d (.mp v1.lists)]),(slB 275 2 [dL cI v2.products, .d (.mp v2.lists)]),(slB 282 3 (qZ v103)),slD 282 3 pK v61]⟩) h5 ?_ (fun s133 y h6 => ?_)
 exact wk (.range 7)
 refine au 4 ?_
 refine aif h6 ?_ ?_ <;> intro hc h6
 refine sk ?_
 obtain ⟨v139,h7,h6⟩:=bnd h6
 refine aN ⟨aA (aA (aA (aA (aA (aA (aA (aA (aA (aA (aA (aA (aA (aA aH 5 (bA 3)) 6 (bA 4)) 14 (aM1 eD v139)) 16 (bA 5)) 18 (dL cI v124)) 101 (bI 6 v61)) 102 (dI (v61.length:Int))) 103 (dI s102.2)) 111 (dL (cL cI) (v1.lists v103.p))) 112 (dI ((v1.lists v103.p).length:Int))) 113 (dI s123.2)) 121 (dL (cL cI) (v2.lists v103.q))) 122 (dI ((v2.lists v103.q).length:Int))) 123 (dI s133.2),lk3 [(slB 275 2 [dL cI v1.products, .d (.mp v1.lists)]),(slB 275 2 [dL cI v2.products, .d (.mp v2.lists)]),(slB 282 3 (qZ v103)),slD 282 3 pK v61]⟩ ?_ ?_
 refine au 2 ?_
 obtain ⟨v134,hv134,h7⟩:=bnd h7
 refine rP rfl (bS tok hv134 rfl rfl rfl rfl rfl rfl) (au 6 ?_)
 obtain ⟨v135,hv135,h7⟩:=bnd h7
 refine cll 7 (aH7 hv135) ?_
 refine au 2 ?_
 obtain ⟨v137,h8,h7⟩:=bnd h7
 refine aN ⟨aA (aA (aA (aA (aA (aA (aA (aA (aA (aA (aA (aA (aA (aA (aA (aA aH 5 (bA 3)) 6 (bA 4)) 14 (aM1 eD s133.1)) 16 (bA 5)) 18 (dL cI v124)) 21 (bI 6 v135)) 101 (bI 7 v61)) 102 (dI (v61.length:Int))) 103 (dI s102.2)) 111 (dL (cL cI) (v1.lists v103.p))) 112 (dI ((v1.lists v103.p).length:Int))) 113 (dI s123.2)) 121 (dL (cL cI) (v2.lists v103.q))) 122 (dI ((v2.lists v103.q).length:Int))) 123 (dI s133.2)) 137 (dB v137),lk3 [(slB 275 2 [dL cI v1.products, .d (.mp v1.lists)]),(slB 275 2 [dL cI v2.products, .d (.mp v2.lists)]),(slB 282 3 (qZ v103)),slD 145 2 eD v135,slD 282 3 pK v61]⟩ ?_ ?_
 refine au 1 ?_
 refine rP rfl (gZ (r:=_) rfl) (rP rfl (aNd tok rfl rfl rfl rfl) (pm ?_))
 refine rif 132 h8 ?_ ?_ <;> intro hc h8
 refine au 6 ?_
 cases h8
 exact wk [0,1,2,3,4,5,7,6]
 refine au 1 ?_
 refine rp rfl (w1 rfl rfl rfl) rfl (gZ (r:=_) rfl) ?_
 obtain ⟨v136,hv136,h8⟩:=bnd h8
 refine tN (aUv eD (d:=134) rfl) (rs rfl (w1 rfl rfl rfl) rfl (fG 8 (aBt hv136) rfl rfl) (au 3 ?_))
 cases h8
 exact wk [0,1,2,3,4,5,7,6]
 refine aiB h7 ?_ ?_ <;> intro hc h7
 refine au 2 ?_
 obtain ⟨hq138,h7⟩:=aT h7
 refine tN (aXu (k:=6) (t':=aA (aA (aA (aA (aA (aA (aA (aA (aA (aA (aA (aA (aA (aA aH 5 (bA 3)) 6 (bA 4)) 16 (bA 5)) 18 (dL cI v124)) 101 (bI 7 v61)) 102 (dI (v61.length:Int))) 103 (dI s102.2)) 111 (dL (cL cI) (v1.lists v103.p))) 112 (dI ((v1.lists v103.p).length:Int))) 113 (dI s123.2)) 121 (dL (cL cI) (v2.lists v103.q))) 122 (dI ((v2.lists v103.q).length:Int))) 123 (dI s133.2)) 138 (dL eD v135)) rfl (FzL.nil)) (pa ?_)
 refine tN (bAh eD (d:=14) rfl hq138) (au 3 ?_)
 cases h7
 exact wk [0,1,2,3,4,5,7]
 refine au 3 ?_
 cases h7
 exact wk [0,1,2,3,4,5,7]
 refine au 4 ?_
 refine bD ?_
 cases h6
 refine ⟨_,rfl,?_⟩
 exact wk (.range 7)
 refine au 2 ?_
 cases h6
 refine lpx fun e => ?_
 subst e
 refine au 3 ?_
 exact wk (.range 7)
 refine au 4 ?_
 refine bD ?_
 cases h4
 refine ⟨_,rfl,?_⟩
 exact wk (.range 7)
 refine au 2 ?_
 cases h4
 refine lpx fun e => ?_
 subst e
 refine au 3 ?_
 exact wk [0,1,2,3,4,6]
 refine au 4 ?_
 refine bD ?_
 cases h2
 refine ⟨_,rfl,?_⟩
 exact wk [0,1,2,3,4,5]
 refine au 2 ?_
 cases h2
 refine lpx fun e => ?_
 subst e
 refine au 2 ?_
 exact wk [0,1,2]
 refine au 1 ?_
 refine rP rfl (gZ (r:=_) rfl) (rP rfl (rV (r:=_) rfl) (tN (aUv eD (d:=4) rfl) (au 2 ?_)))
 cases h0
 exact r0t 4 rfl
theorem aH4 {p0:dU} {r:Bool} (h0:uZ p0=some r):FnC Tryz.prog 226 [] [.agg [dI p0.Driver,(dI p0.Driven)]] [] (dB r):=by
 refine fi 11 tok Tryz.func226 ?_
 unfold uZ at h0
 refine au 1 ?_
 refine bxx 3 ?_
 refine au 5 ?_
 obtain ⟨v1,hv1,h0⟩:=bnd h0
 refine cll 4 (rQ hv1) ?_
 refine pm ?_
 refine riB 6 h0 ?_ ?_ <;> intro hc h0
 refine au 2 ?_
 obtain ⟨v2,hv2,h0⟩:=bnd h0
 refine cl1 4 (rQ hv2) ?_
 refine au 4 ?_
 cases h0
 exact r0t 2 rfl
 refine au 7 ?_
 cases h0
 exact r0t 2 rfl
theorem tF {p0:List dU} {r:Bool} (h0:lN p0=some r):FnC Tryz.prog 155 [] [dL eD p0] [] (dB r):=by
 refine fi 18 tok Tryz.func155 ?_
 unfold lN at h0
 refine au 3 ?_
 obtain ⟨v7x,h1,h0⟩:=bnd h0
 refine cF v7x (fun v7=>⟨aA aH 0 (dL eD p0),lk3 []⟩) ?_ ?_
 refine au 6 ?_
 refine aK (fun s4=>⟨aA (aA (aA (aA aH 0 (dL eD p0)) 5 (dL eD p0)) 6 (dI (p0.length:Int))) 7 (dI s4),lk3 []⟩) h1 ?_ (fun s4 y h2 => ?_)
 exact wk [0,1,2]
 refine au 4 ?_
 refine aif h2 ?_ ?_ <;> intro hc h2
 refine au 4 ?_
 obtain ⟨v5,hv5,h2⟩:=bnd h2
 refine rP rfl (bS tok hv5 rfl rfl rfl rfl rfl rfl) (au 1 ?_)
 refine al 3 [z0,z0] tok ?_
 refine au 4 ?_
 obtain ⟨v6,hv6,h2⟩:=bnd h2
 refine cll 4 (aH4 hv6) ?_
 refine au 2 ?_
 refine aiB h2 ?_ ?_ <;> intro hc h2
 refine au 6 ?_
 cases h2
 refine lpr fun e => ?_
 subst e
 refine au 1 ?_
 replace h0:=eO h0
 refine au 1 ?_
 cases h0
 exact r0t 2 rfl
 refine au 7 ?_
 refine bD ?_
 cases h2
 refine ⟨_,rfl,?_⟩
 exact wk [0,1,2]
 refine au 2 ?_
 cases h2
 refine lpx fun e => ?_
 subst e
 refine au 2 ?_
 refine ⟨_,rfl,?_⟩
 exact wk [0,1,2]
 rintro v7 rfl
 replace h0:=gO h0
 refine au 7 ?_
 cases h0
 exact r0t 2 rfl
theorem wU {p0:aB} {p1:aB} {r:aB × Int} (h0:kK p0 p1=some r):FnC Tryz.prog 217 [] [.agg [dI p0.Num,(dI p0.Den)], .agg [dI p1.Num,(dI p1.Den)]] [] (.tup [.agg [dI r.1.Num,(dI r.1.Den)],(dI r.2)]):=by
 refine fi 28 tok Tryz.func217 ?_
 unfold kK at h0
 refine au 1 ?_
 refine bxx 3 ?_
 refine bxx 4 ?_
 refine al 5 [z0,z0] tok ?_
 refine au 3 ?_
 obtain ⟨v3,h1,h0⟩:=bnd h0
 refine aN ⟨aA (aA (aA (aA aH 2 (bA 3)) 3 (bA 4)) 4 (bA 5)) 13 (dB v3),lk3 [(slB 92 2 [dI p0.Num,(dI p0.Den)]),(slB 92 2 [dI p1.Num,(dI p1.Den)]),(slB 92 2 [z0,z0])]⟩ ?_ ?_
 refine au 2 ?_
 obtain ⟨v1,hv1,h1⟩:=bnd h1
 refine cll 6 (dD hv1) ?_
 refine au 2 ?_
 refine riB 9 h1 ?_ ?_ <;> intro hc h1
 refine au 5 ?_
 cases h1
 exact wk [0,1,2,3,4,5]
 refine au 1 ?_
 obtain ⟨v2,hv2,h1⟩:=bnd h1
 refine cl1 6 (dD hv2) ?_
 refine au 3 ?_
 cases h1
 exact wk [0,1,2,3,4,5]
 refine aiB h0 ?_ ?_ <;> intro hc h0
 refine au 1 ?_
 refine rpb tok [z0,z0] ?_
 refine au 5 ?_
 cases h0
 exact cG (rs:=[.cell 4 92, .tmp 5]) rfl
 refine au 12 ?_
 obtain ⟨v4,hv4,h0⟩:=bnd h0
 refine cll 6 (kX hv4) ?_
 refine au 6 ?_
 cases h0
 exact cG (rs:=[.cell 4 92, .tmp 5]) rfl
theorem aGh {p0:List dU} {r:aB × Int} (h0:tK p0=some r):FnC Tryz.prog 258 [] [dL eD p0] [] (.tup [.agg [dI r.1.Num,(dI r.1.Den)],(dI r.2)]):=by
 refine fi 40 tok Tryz.func258 ?_
 unfold tK at h0
 refine au 1 ?_
 refine al 3 [z0,z0] tok ?_
 refine au 3 ?_
 refine rpb tok [z0,z0] ?_
 refine al 4 [z0,z0] tok ?_
 refine au 2 ?_
 obtain ⟨v9x,h1,h0⟩:=bnd h0
 refine cF v9x (fun v9=>⟨aA (aA aH 2 (bA 3)) 4 (bA 4),lk3 [(slB 92 2 [z0,z0]),(slB 92 2 [dI v9.Num,(dI v9.Den)])]⟩) ?_ ?_
 refine au 6 ?_
 refine aK (fun s5=>⟨aA (aA (aA (aA (aA aH 2 (bA 3)) 4 (bA 4)) 12 (dL eD p0)) 13 (dI (p0.length:Int))) 14 (dI s5.1),lk3 [(slB 92 2 [z0,z0]),(slB 92 2 [dI s5.2.Num,(dI s5.2.Den)])]⟩) h1 ?_ (fun s5 y h2 => ?_)
 exact wk [0,1,2,3,4]
 refine au 4 ?_
 refine aif h2 ?_ ?_ <;> intro hc h2
 refine au 4 ?_
 obtain ⟨v6,hv6,h2⟩:=bnd h2
 refine rP rfl (bS tok hv6 rfl rfl rfl rfl rfl rfl) (au 1 ?_)
 refine al 5 [z0,z0] tok ?_
 refine au 8 ?_
 obtain ⟨v7,hv7,h2⟩:=bnd h2
 refine cll 6 (kX hv7) ?_
 refine au 3 ?_
 refine al 6 [z0,z0] tok ?_
 refine au 6 ?_
 obtain ⟨v8,hv8,h2⟩:=bnd h2
 refine cll 7 (wU hv8) ?_
 refine au 3 ?_
 refine al 7 [z0,z0] tok ?_
 refine au 8 ?_
 refine aif h2 ?_ ?_ <;> intro hc h2
 refine au 1 ?_
 refine rpb tok [z0,z0] ?_
 refine au 8 ?_
 cases h2
 refine lpr fun e => ?_
 subst e
 refine au 1 ?_
 replace h0:=eO h0
 refine au 1 ?_
 cases h0
 exact cG (rs:=[.cell 2 92, .tmp 3]) rfl
 refine au 11 ?_
 refine bD ?_
 cases h2
 refine ⟨_,rfl,?_⟩
 exact wk [0,1,2,3,4]
 refine au 2 ?_
 cases h2
 refine lpx fun e => ?_
 subst e
 refine au 2 ?_
 refine ⟨_,rfl,?_⟩
 exact wk [0,1,2,3,4]
 rintro v9 rfl
 replace h0:=gO h0
 refine au 6 ?_
 cases h0
 exact cG (rs:=[.cell 2 92, .tmp 3]) rfl
theorem aCk {p0:aB} {p1:aB} {r:aB × Int} (h0:mL p0 p1=some r):FnC Tryz.prog 218 [] [.agg [dI p0.Num,(dI p0.Den)], .agg [dI p1.Num,(dI p1.Den)]] [] (.tup [.agg [dI r.1.Num,(dI r.1.Den)],(dI r.2)]):=by
 refine fi 34 tok Tryz.func218 ?_
 unfold mL at h0
 refine au 1 ?_
 refine bxx 3 ?_
 refine bxx 4 ?_
 refine al 5 [z0,z0] tok ?_
 refine au 3 ?_
 obtain ⟨v3,h1,h0⟩:=bnd h0
 refine aN ⟨aA (aA (aA (aA aH 2 (bA 3)) 3 (bA 4)) 4 (bA 5)) 13 (dB v3),lk3 [(slB 92 2 [dI p0.Num,(dI p0.Den)]),(slB 92 2 [dI p1.Num,(dI p1.Den)]),(slB 92 2 [z0,z0])]⟩ ?_ ?_
 refine au 2 ?_
 obtain ⟨v1,hv1,h1⟩:=bnd h1
 refine cll 6 (dD hv1) ?_
 refine au 2 ?_
 refine riB 9 h1 ?_ ?_ <;> intro hc h1
 refine au 5 ?_
 cases h1
 exact wk [0,1,2,3,4,5]
 refine au 1 ?_
 obtain ⟨v2,hv2,h1⟩:=bnd h1
 refine cl1 6 (dD hv2) ?_
 refine au 3 ?_
 cases h1
 exact wk [0,1,2,3,4,5]
 refine aiB h0 ?_ ?_ <;> intro hc h0
 refine au 1 ?_
 refine rpb tok [z0,z0] ?_
 refine au 5 ?_
 cases h0
 exact cG (rs:=[.cell 4 92, .tmp 5]) rfl
 refine au 18 ?_
 obtain ⟨v4,hv4,h0⟩:=bnd h0
 refine cll 6 (kX hv4) ?_
 refine au 6 ?_
 cases h0
 exact cG (rs:=[.cell 4 92, .tmp 5]) rfl
theorem aDc {p0:List dU} {p1:aB} {r:aB × Int} (h0:qF p0 p1=some r):FnC Tryz.prog 198 [] [dL eD p0, .agg [dI p1.Num,(dI p1.Den)]] [] (.tup [.agg [dI r.1.Num,(dI r.1.Den)],(dI r.2)]):=by
 refine fi 27 tok Tryz.func198 ?_
 unfold qF at h0
 refine au 1 ?_
 refine bxx 3 ?_
 refine al 4 [z0,z0] tok ?_
 refine au 4 ?_
 obtain ⟨v1,hv1,h0⟩:=bnd h0
 refine cll 5 (aGh hv1) ?_
 refine au 3 ?_
 refine al 5 [z0,z0] tok ?_
 refine au 8 ?_
 refine aif h0 ?_ ?_ <;> intro hc h0
 refine au 1 ?_
 refine rpb tok [z0,z0] ?_
 refine au 6 ?_
 cases h0
 exact cG (rs:=[.cell 4 92, .tmp 5]) rfl
 refine au 2 ?_
 refine tdr [0,1,3,4,6,2,5,7,8,9,10,11] follows (au 5 ?_)
 obtain ⟨v2,hv2,h0⟩:=bnd h0
 refine clt 6 (aH5 hv2) ?_
 refine tP rfl (pbl (C0:=[z0,z0]) tok rfl rfl rfl) ?_
 obtain ⟨v3,hv3,h0⟩:=bnd h0
 refine clt 6 (aCk hv3) ?_
 refine au 7 ?_
 cases h0
 exact cG (rs:=[.cell 4 92, .tmp 5]) rfl
theorem aMa {p0:List dU} {p1:aB} {r:aB × Int} (h0:zA p0 p1=some r):FnC Tryz.prog 127 [] [dL eD p0, .agg [dI p1.Num,(dI p1.Den)]] [] (.tup [.agg [dI r.1.Num,(dI r.1.Den)],(dI r.2)]):=by
 refine fi 30 tok Tryz.func127 ?_
 unfold zA at h0
 refine au 1 ?_
 refine bxx 3 ?_
 refine al 4 [z0,z0] tok ?_
 refine au 3 ?_
 obtain ⟨v3,h1,h0⟩:=bnd h0
 refine aN ⟨aA (aA (aA (aA aH 0 (dL eD p0)) 3 (bA 3)) 4 (bA 4)) 15 (dB v3),lk3 [(slB 92 2 [dI p1.Num,(dI p1.Den)]),(slB 92 2 [z0,z0])]⟩ ?_ ?_
 refine au 2 ?_
 obtain ⟨v1,hv1,h1⟩:=bnd h1
 refine cll 5 (tF hv1) ?_
 refine au 2 ?_
 refine riB 11 h1 ?_ ?_ <;> intro hc h1
 refine au 5 ?_
 cases h1
 exact wk [0,1,2,3,4]
 refine au 1 ?_
 obtain ⟨v2,hv2,h1⟩:=bnd h1
 refine cl1 5 (dD hv2) ?_
 refine au 3 ?_
 cases h1
 exact wk [0,1,2,3,4]
 refine aiB h0 ?_ ?_ <;> intro hc h0
 refine au 1 ?_
 refine rpb tok [z0,z0] ?_
 refine au 5 ?_
 cases h0
 exact cG (rs:=[.cell 4 92, .tmp 5]) rfl
 refine au 4 ?_
 obtain ⟨v4,hv4,h0⟩:=bnd h0
 refine cll 5 (aDc hv4) ?_
 refine au 3 ?_
 refine al 5 [z0,z0] tok ?_
 refine au 4 ?_
 refine tdr [0,1,3,4,6,2,5,7,8] follows (au 5 ?_)
 obtain ⟨v5,hv5,h0⟩:=bnd h0
 refine clt 6 (aH5 hv5) ?_
 refine tP rfl (pbl (C0:=[z0,z0]) tok rfl rfl rfl) (au 5 ?_)
 cases h0
 exact cG (rs:=[.cell 4 92, .tmp 5]) rfl
theorem aAg {p0:aB} {p1:qX} {r:aCb × Int} (h0:qN p0 p1=some r):FnC Tryz.prog 66 [] [.agg [dI p0.Num,(dI p0.Den)], .agg (zV p1)] [] (.tup [.agg (aHi r.1),(dI r.2)]):=by
 refine fi 33 tok Tryz.func66 ?_
 unfold qN at h0
 refine au 1 ?_
 refine bxx 3 ?_
 refine bxx 4 ?_
 refine al 5 bAo tok ?_
 refine au 6 ?_
 obtain ⟨v1,hv1,h0⟩:=bnd h0
 refine cll 6 (aMi hv1) ?_
 refine au 6 ?_
 refine aif h0 ?_ ?_ <;> intro hc h0
 refine au 1 ?_
 refine rpb tok bAo ?_
 refine au 4 ?_
 refine wa 6 145 2 5 0 ?_
 refine bL (aXu (k:=6) (t':=aA (aA aH 4 (bA 5)) 5 (dI v1)) rfl (FzL.box (kb:=5) (ds:=[dL eD ([]:List dU),z0,z0]) rfl rfl (by repeat (first | exact aD4.nil | apply aD4.cons | exact FzR.d _ | exact FzR.own rfl (by first | rfl | (simp;done) | (simp;omega)) | exact FzR.ptr rfl (by repeat (first | exact Drp.z _ | apply Drp.d)) | exact FzR.own' | exact FzR.ptr' | exact FzR.ref _ | apply FzR.agg | apply FzR.tup | apply FzR.fn | exact FzR.dead _)) (FzL.nil))) (au 2 ?_)
 cases h0
 exact cG (rs:=[.cell 4 139, .tmp 5]) rfl
 refine au 4 ?_
 obtain ⟨v2,hv2,h0⟩:=bnd h0
 refine cll 6 (aH6 hv2) ?_
 refine au 5 ?_
 obtain ⟨v3,hv3,h0⟩:=bnd h0
 refine cll 6 (aMa hv3) ?_
 refine au 3 ?_
 refine al 6 [z0,z0] tok ?_
 refine au 8 ?_
 refine aif h0 ?_ ?_ <;> intro hc h0
 refine au 1 ?_
 refine rpb tok bAo ?_
 refine au 4 ?_
 refine wa 7 145 2 5 0 ?_
 refine bL (aXu (k:=7) (t':=aA (aA aH 4 (bA 5)) 5 (dI v3.2)) rfl (FzL.box (kb:=5) (ds:=[dL eD ([]:List dU),z0,z0]) rfl rfl (by repeat (first | exact aD4.nil | apply aD4.cons | exact FzR.d _ | exact FzR.own rfl (by first | rfl | (simp;done) | (simp;omega)) | exact FzR.ptr rfl (by repeat (first | exact Drp.z _ | apply Drp.d)) | exact FzR.own' | exact FzR.ptr' | exact FzR.ref _ | apply FzR.agg | apply FzR.tup | apply FzR.fn | exact FzR.dead _)) (FzL.nil))) (au 2 ?_)
 cases h0
 exact cG (rs:=[.cell 4 139, .tmp 5]) rfl
 refine au 4 ?_
 refine rpb tok bAo ?_
 refine au 4 ?_
 cases h0
 exact cG (rs:=[.cell 4 139, .tmp 5]) rfl
theorem tO {p0:List bM} {r:List bM} (h0:fO p0=some r):FnC Tryz.prog 157 [] [dL bH p0] [slD 147 4 bH r] (bI 0 r):=by
 refine fi 8 tok Tryz.func157 ?_
 unfold fO at h0
 obtain ⟨hq1,h0⟩:=aT h0
 cases h0
 refine aDl (d:=0) rfl rfl (fun hne => ?_) (fun he A k hk => ?_)
 ·skip
  refine au 6 ?_
  refine rP rfl (rW tok rfl hne rfl rfl rfl) (au 1 ?_)
  refine pJ rfl (au 2 ?_)
  refine rS rfl (kR 3 tok rfl rfl rfl rfl) (au 1 ?_)
  refine rw1 rfl w0 rfl (fJ tok hq1 rfl rfl rfl rfl rfl rfl rfl rfl rfl rfl rfl rfl (fun _=>rfl)) (au 3 ?_)
  exact bV (rs:=[.tmp 2]) [3] rfl
 ·skip
  have he:p0=[]:=List.map_eq_nil_iff.1 he
  subst he
  cases A with
  | none =>
   refine au 6 ?_
   refine rP rfl (lE tok rfl rfl rfl rfl) (au 1 ?_)
   refine zX rfl (au 3 ?_)
   refine bL (aR 3 rfl 147 4 (d:=2) rfl) (au 2 ?_)
   exact bV (rs:=[.tmp 2]) [3] rfl
  | some a =>
   refine au 6 ?_
   refine rP rfl (lE tok rfl rfl rfl rfl) (au 1 ?_)
   refine pJ rfl (au 1 ?_)
   refine bL (aBe bH (d:=0) rfl hk) (au 1 ?_)
   refine rS rfl (kR 3 tok rfl rfl rfl rfl) (au 1 ?_)
   refine rw1 rfl w0 rfl (fJ tok hq1 rfl rfl rfl rfl rfl rfl rfl rfl rfl rfl rfl rfl (fun _=>rfl)) (au 3 ?_)
   exact bV (rs:=[.tmp 2]) [3] rfl
theorem aH9 {p0:aP} {r:aP} (h0:nK p0=some r):FnC Tryz.prog 89 [] [.agg [dL aF p0.Arbors,(dL bH p0.Meshes)]] [(slN 117 2 1 aF r.Arbors),slF 2 1 aF r.Arbors,slD 147 4 bH r.Meshes] (.agg [bI 0 r.Arbors,bI 2 r.Meshes]):=by
 refine fi 30 tok Tryz.func89 ?_
 unfold nK at h0
 refine au 1 ?_
 refine bxx 3 ?_
 refine al 4 [zl,zl] tok ?_
 refine au 2 ?_
 refine al 5 [zl,zl] tok (nx ?_)
 obtain ⟨v9,h1,h0⟩:=bnd h0
 refine aN ⟨aA (aA (aA aH 1 (bA 3)) 2 (bA 4)) 3 (bA 5),lk3 [(slB 29 2 [dL aF p0.Arbors,(dL bH p0.Meshes)]),(slB 29 2 [zl,zl]),(slB 29 2 [bI 6 v9,zl]),slN 117 2 7 aF v9,slF 2 1 aF v9]⟩ ?_ ?_
 refine au 7 ?_
 refine aK (fun s5=>⟨aA (aA (aA (aA (aA (aA aH 1 (bA 3)) 2 (bA 4)) 3 (bA 5)) 7 (dL aF p0.Arbors)) 8 (dI (p0.Arbors.length:Int))) 9 (dI s5.1),lk3 [(slB 29 2 [dL aF p0.Arbors,(dL bH p0.Meshes)]),(slB 29 2 [zl,zl]),(slB 29 2 [bI 6 s5.2,zl]),slN 117 2 7 aF s5.2,slF 2 1 aF s5.2]⟩) h1 ?_ (fun s5 y h2 => ?_)
 refine lJ.trans_ (yF 6 rfl 117 2 (kb:=5) (j:=0) rfl rfl (by repeat (first | exact Spl.z _ | apply Spl.t | apply Spl.d))) (lJ.trans_ (cT 7 (k:=6) 2 1 aF rfl rfl) ?_)
 exact wk (.range 8)
 refine au 4 ?_
 refine aif h2 ?_ ?_ <;> intro hc h2
 refine au 4 ?_
 obtain ⟨v6,hv6,h2⟩:=bnd h2
 refine rP rfl (bS tok hv6 rfl rfl rfl rfl rfl rfl) (au 1 ?_)
 refine al 8 [ze,zl] tok ?_
 refine au 2 ?_
 refine aEa (is:=[0,1,2,3,4,5,6,7,8,9,10,11]) [0,1,0,4,0,16,48,124,252,511,1023,2047] follows (by kernel_rfl) (au 6 ?_)
 obtain ⟨v7,hv7,h2⟩:=bnd h2
 refine clt 10 (dY hv7) ?_
 refine tP rfl (pbl (C0:=[ze,zl]) tok rfl rfl rfl) (bDw rfl w0 rfl (bDd 11 tok rfl rfl rfl (by repeat (first | exact Els.nil _ | apply Els.cons (cs:=[.d _]) rfl rfl rfl | apply Els.cons (cs:=_ :: _) rfl rfl rfl)) rfl rfl rfl rfl) ?_)
 obtain ⟨hq8,h2⟩:=aT h2
 refine aPe rfl w0 rfl (aZc tok (⟨v6.Name,v7⟩:cD) hq8 rfl rfl rfl rfl rfl rfl rfl rfl rfl rfl rfl rfl rfl rfl rfl) (tfa tok ?_)
 refine aZs rfl w0 (aR8 (cs:=[.own _ _ _]) tok rfl rfl rfl rfl rfl rfl rfl) (aCy ?_)
 refine ⟨by kernel_rfl,_,lJ.trans_ (aP0 12 (k:=6) (kf:=7) (k2:=10) (⟨v6.Name,v7⟩:cD) rfl rfl rfl rfl rfl rfl rfl (by repeat (first | exact aRs.nil | apply aRs.v | apply aRs.sl (by first | rfl | (simp;done)))) rfl rfl rfl) (lJ.refl_),?_⟩
 refine au 6 ?_
 refine bD ?_
 cases h2
 refine ⟨_,rfl,?_⟩
 exact wk [0,1,2,3,4,5,6,12]
 refine au 2 ?_
 cases h2
 refine lpx fun e => ?_
 subst e
 refine au 2 ?_
 exact wk (.range 8)
 refine au 3 ?_
 obtain ⟨v10,hv10,h0⟩:=bnd h0
 refine cll 8 (tO hv10) ?_
 refine au 8 ?_
 cases h0
 exact bV (rs:=[.cell 2 29]) [6,7,8] rfl
theorem sI {p0:List aY} {r:List aY} (h0:eX p0=some r):FnC Tryz.prog 90 [] [dL aW p0] [slD 127 3 aW r] (bI 0 r):=by
 refine fi 8 tok Tryz.func90 ?_
 unfold eX at h0
 obtain ⟨hq1,h0⟩:=aT h0
 cases h0
 refine aDl (d:=0) rfl rfl (fun hne => ?_) (fun he A k hk => ?_)
 ·skip
  refine au 6 ?_
  refine rP rfl (rW tok rfl hne rfl rfl rfl) (au 1 ?_)
  refine pJ rfl (au 2 ?_)
  refine rS rfl (kR 3 tok rfl rfl rfl rfl) (au 1 ?_)
  refine rw1 rfl w0 rfl (fJ tok hq1 rfl rfl rfl rfl rfl rfl rfl rfl rfl rfl rfl rfl (fun _=>rfl)) (au 3 ?_)
  exact bV (rs:=[.tmp 2]) [3] rfl
 ·skip
  have he:p0=[]:=List.map_eq_nil_iff.1 he
  subst he
  cases A with
  | none =>
   refine au 6 ?_
   refine rP rfl (lE tok rfl rfl rfl rfl) (au 1 ?_)
   refine zX rfl (au 3 ?_)
   refine bL (aR 3 rfl 127 3 (d:=2) rfl) (au 2 ?_)
   exact bV (rs:=[.tmp 2]) [3] rfl
  | some a =>
   refine au 6 ?_
   refine rP rfl (lE tok rfl rfl rfl rfl) (au 1 ?_)
   refine pJ rfl (au 1 ?_)
   refine bL (aBe aW (d:=0) rfl hk) (au 1 ?_)
   refine rS rfl (kR 3 tok rfl rfl rfl rfl) (au 1 ?_)
   refine rw1 rfl w0 rfl (fJ tok hq1 rfl rfl rfl rfl rfl rfl rfl rfl rfl rfl rfl rfl (fun _=>rfl)) (au 3 ?_)
   exact bV (rs:=[.tmp 2]) [3] rfl
theorem nT {p0:List aL} {r:List aL} (h0:dQ p0=some r):FnC Tryz.prog 91 [] [dL aM p0] [slD 129 3 aM r] (bI 0 r):=by
 refine fi 8 tok Tryz.func91 ?_
 unfold dQ at h0
 obtain ⟨hq1,h0⟩:=aT h0
 cases h0
 refine aDl (d:=0) rfl rfl (fun hne => ?_) (fun he A k hk => ?_)
 ·skip
  refine au 6 ?_
  refine rP rfl (rW tok rfl hne rfl rfl rfl) (au 1 ?_)
  refine pJ rfl (au 2 ?_)
  refine rS rfl (kR 3 tok rfl rfl rfl rfl) (au 1 ?_)
  refine rw1 rfl w0 rfl (fJ tok hq1 rfl rfl rfl rfl rfl rfl rfl rfl rfl rfl rfl rfl (fun _=>rfl)) (au 3 ?_)
  exact bV (rs:=[.tmp 2]) [3] rfl
 ·skip
  have he:p0=[]:=List.map_eq_nil_iff.1 he
  subst he
  cases A with
  | none =>
   refine au 6 ?_
   refine rP rfl (lE tok rfl rfl rfl rfl) (au 1 ?_)
   refine zX rfl (au 3 ?_)
   refine bL (aR 3 rfl 129 3 (d:=2) rfl) (au 2 ?_)
   exact bV (rs:=[.tmp 2]) [3] rfl
  | some a =>
   refine au 6 ?_
   refine rP rfl (lE tok rfl rfl rfl rfl) (au 1 ?_)
   refine pJ rfl (au 1 ?_)
   refine bL (aBe aM (d:=0) rfl hk) (au 1 ?_)
   refine rS rfl (kR 3 tok rfl rfl rfl rfl) (au 1 ?_)
   refine rw1 rfl w0 rfl (fJ tok hq1 rfl rfl rfl rfl rfl rfl rfl rfl rfl rfl rfl rfl (fun _=>rfl)) (au 3 ?_)
   exact bV (rs:=[.tmp 2]) [3] rfl
theorem qE {p0:aG} {r:aG} (h0:fZ p0=some r):FnC Tryz.prog 41 [] [.agg (cX p0)] [(slN 117 2 1 aF r.Works.Arbors),slF 2 1 aF r.Works.Arbors,slD 147 4 bH r.Works.Meshes,slD 127 3 aW r.Calendar.Months,slD 129 3 aM r.Calendar.Rules,slD 2 1 cI r.Cam] (.agg (aD9 r 0 2 3 4 5)):=by
 refine fi 24 tok Tryz.func41 ?_
 unfold fZ at h0
 refine au 1 ?_
 refine bxx 3 ?_
 refine al 4 aRo tok ?_
 refine au 4 ?_
 obtain ⟨v1,hv1,h0⟩:=bnd h0
 refine cll 5 (aH9 hv1) ?_
 refine au 7 ?_
 obtain ⟨v2,hv2,h0⟩:=bnd h0
 refine cll 8 (sI hv2) ?_
 refine au 8 ?_
 obtain ⟨v3,hv3,h0⟩:=bnd h0
 refine cll 9 (nT hv3) ?_
 refine au 7 ?_
 obtain ⟨v4,hv4,h0⟩:=bnd h0
 refine cll 10 (dY hv4) ?_
 refine au 8 ?_
 cases h0
 exact bV (rs:=[.cell 2 36]) [5,6,7,8,9,10] rfl
theorem aAi {p0:ByteArray} {p1:Int} {p2:Int} {p3:aC} {p4:Int} {r:aG × Int} (h0:nD p0 p1 p2 p3 p4=some r):FnC Tryz.prog 33 [] [dS p0,(dI p1),(dI p2), .agg (aJ p3),(dI p4)] [(slN 117 2 1 aF r.1.Works.Arbors),slF 2 1 aF r.1.Works.Arbors,slD 147 4 bH r.1.Works.Meshes,slD 127 3 aW r.1.Calendar.Months,slD 129 3 aM r.1.Calendar.Rules,slD 2 1 cI r.1.Cam] (.tup [.agg (aD9 r.1 0 2 3 4 5),(dI r.2)]):=by
 refine fi 118 tok Tryz.func33 ?_
 unfold nD at h0
 refine au 1 ?_
 refine bxx 3 ?_
 refine al 4 aRo tok ?_
 refine au 6 ?_
 obtain ⟨v1,hv1,h0⟩:=bnd h0
 refine cll 5 (fH hv1) ?_
 refine au 3 ?_
 refine aiB h0 ?_ ?_ <;> intro hc h0
 refine au 1 ?_
 refine rpb tok aRo ?_
 refine au 3 ?_
 refine wa 5 117 2 4 1 ?_
 refine bL (cT 6 (k:=5) 2 1 aF rfl rfl) (wa 7 147 4 4 2 ?_)
 refine wa 8 127 3 4 9 ?_
 refine wa 9 129 3 4 10 ?_
 refine wa 10 2 1 4 12 ?_
 refine au 3 ?_
 cases h0
 exact bV (rs:=[.cell 10 36, .tmp 11]) [5,6,7,8,9,10] rfl
 refine au 2 ?_
 obtain ⟨v2,hv2,h0⟩:=bnd h0
 refine cll 5 (tT hv2) ?_
 refine au 3 ?_
 refine aiB h0 ?_ ?_ <;> intro hc h0
 refine au 1 ?_
 refine rpb tok aRo ?_
 refine au 3 ?_
 refine wa 5 117 2 4 1 ?_
 refine bL (cT 6 (k:=5) 2 1 aF rfl rfl) (wa 7 147 4 4 2 ?_)
 refine wa 8 127 3 4 9 ?_
 refine wa 9 129 3 4 10 ?_
 refine wa 10 2 1 4 12 ?_
 refine au 3 ?_
 cases h0
 exact bV (rs:=[.cell 10 36, .tmp 11]) [5,6,7,8,9,10] rfl
 obtain ⟨v5,h1,h0⟩:=bnd h0
 refine aN ⟨aA (aA (aA (aA (aA (aA (aA aH 0 (dS p0)) 1 (dI p1)) 2 (dI p2)) 4 (dI p4)) 8 (bA 3)) 10 (bA 4)) 30 (dB v5),lk3 [(slB 33 4 (aJ p3)),slB 36 14 aRo]⟩ ?_ ?_
 refine au 2 ?_
 obtain ⟨v3,hv3,h1⟩:=bnd h1
 refine cll 5 (bK hv3) ?_
 refine au 2 ?_
 refine riB 34 h1 ?_ ?_ <;> intro hc h1
 refine au 6 ?_
 cases h1
 exact wk [0,1,2,3,4]
 refine pm1 ?_
 obtain ⟨v4,hv4,h1⟩:=bnd h1
 refine cl1 5 (rQ hv4) ?_
 refine au 4 ?_
 cases h1
 exact wk [0,1,2,3,4]
 refine aiB h0 ?_ ?_ <;> intro hc h0
 refine au 1 ?_
 refine rpb tok aRo ?_
 refine au 3 ?_
 refine wa 5 117 2 4 1 ?_
 refine bL (cT 6 (k:=5) 2 1 aF rfl rfl) (wa 7 147 4 4 2 ?_)
 refine wa 8 127 3 4 9 ?_
 refine wa 9 129 3 4 10 ?_
 refine wa 10 2 1 4 12 ?_
 refine au 3 ?_
 cases h0
 exact bV (rs:=[.cell 10 36, .tmp 11]) [5,6,7,8,9,10] rfl
 refine au 6 ?_
 obtain ⟨v6,hv6,h0⟩:=bnd h0
 refine cll 5 (aL9 hv6) ?_
 refine au 13 ?_
 refine aif h0 ?_ ?_ <;> intro hc h0
 refine au 1 ?_
 refine rpb tok aRo ?_
 refine au 4 ?_
 refine wa 6 117 2 4 1 ?_
 refine bL (cT 7 (k:=6) 2 1 aF rfl rfl) (wa 8 147 4 4 2 ?_)
 refine wa 9 127 3 4 9 ?_
 refine wa 10 129 3 4 10 ?_
 refine wa 11 2 1 4 12 ?_
 refine au 2 ?_
 cases h0
 exact bV (rs:=[.cell 10 36, .tmp 11]) [6,7,8,9,10,11] rfl
 refine au 5 ?_
 obtain ⟨v7,hv7,h0⟩:=bnd h0
 refine cll 6 (kX hv7) ?_
 refine au 3 ?_
 refine al 6 [z0,z0] tok ?_
 refine au 8 ?_
 refine aif h0 ?_ ?_ <;> intro hc h0
 refine au 1 ?_
 refine rpb tok aRo ?_
 refine au 4 ?_
 refine wa 7 117 2 4 1 ?_
 refine bL (cT 8 (k:=7) 2 1 aF rfl rfl) (wa 9 147 4 4 2 ?_)
 refine wa 10 127 3 4 9 ?_
 refine wa 11 129 3 4 10 ?_
 refine wa 12 2 1 4 12 ?_
 refine au 2 ?_
 cases h0
 exact bV (rs:=[.cell 10 36, .tmp 11]) [7,8,9,10,11,12] rfl
 refine au 3 ?_
 refine rpb tok bFg ?_
 obtain ⟨v8,hv8,h0⟩:=bnd h0
 refine cll 7 (aAg hv8) ?_
 refine au 3 ?_
 refine al 7 bAo tok ?_
 refine au 8 ?_
 refine aif h0 ?_ ?_ <;> intro hc h0
 refine au 1 ?_
 refine rpb tok aRo ?_
 refine au 4 ?_
 refine wa 8 117 2 4 1 ?_
 refine bL (cT 9 (k:=8) 2 1 aF rfl rfl) (wa 10 147 4 4 2 ?_)
 refine wa 11 127 3 4 9 ?_
 refine wa 12 129 3 4 10 ?_
 refine wa 13 2 1 4 12 ?_
 refine au 2 ?_
 cases h0
 exact bV (rs:=[.cell 10 36, .tmp 11]) [8,9,10,11,12,13] rfl
 refine au 8 ?_
 refine aif h0 ?_ ?_ <;> intro hc h0
 refine au 1 ?_
 refine rpb tok aRo ?_
 refine au 3 ?_
 refine wa 8 117 2 4 1 ?_
 refine bL (cT 9 (k:=8) 2 1 aF rfl rfl) (wa 10 147 4 4 2 ?_)
 refine wa 11 127 3 4 9 ?_
 refine wa 12 129 3 4 10 ?_
 refine wa 13 2 1 4 12 ?_
 refine au 2 ?_
 cases h0
 exact bV (rs:=[.cell 10 36, .tmp 11]) [8,9,10,11,12,13] rfl
 refine au 5 ?_
 obtain ⟨v9,hv9,h0⟩:=bnd h0
 refine tP rfl (bS tok hv9 rfl rfl rfl rfl rfl rfl) (au 3 ?_)
 obtain ⟨v10,hv10,h0⟩:=bnd h0
 refine tP rfl (bS tok hv10 rfl rfl rfl rfl rfl rfl) (au 1 ?_)
 refine aDz rfl w0 rfl rfl (fun hx hk=>gH 8 (cs:=[z0,z0]) tok rfl rfl hk) (aDz rfl w0 rfl rfl (fun hx hk=>gH 9 (cs:=[z0,z0]) tok rfl rfl hk) (au 7 ?_))
 refine bso 10 tok cI [v9.Driver,12] ?_
 refine rpb tok [ze,zl] ?_
 refine au 4 ?_
 refine bso 11 tok cI [v9.Driven,v10.Driver] ?_
 refine rpb tok [ze,zl] ?_
 refine au 2 ?_
 refine bso 12 tok cI [v10.Driven] ?_
 refine rpb tok [ze,zl] ?_
 refine bso 13 tok cI [36,10] ?_
 refine rpb tok [ze,zl] ?_
 refine bso 14 tok cI [40] ?_
 refine rpb tok [ze,zl] ?_
 refine tN (aXu (k:=10) (t':=aA (aA (aA (aA (aA (aA (aA (aA (aA (aA (aA aH 0 (dS p0)) 1 (dI p1)) 2 (dI p2)) 8 (bA 3)) 10 (bA 4)) 12 (bI 5 v6.1)) 88 (.agg [dS (⟨#[99,101,110,116,101,114]⟩:ByteArray),(dL cI [v9.Driver,12])])) 94 (.agg [dS (⟨#[116,104,105,114,100]⟩:ByteArray),bI 11 ([v9.Driven,v10.Driver])])) 98 (.agg [dS (⟨#[101,115,99,97,112,101]⟩:ByteArray),bI 12 ([v10.Driven])])) 100 (.agg [dS (⟨#[109,105,110,117,116,101]⟩:ByteArray),bI 13 ([36,10])])) 102 (.agg [dS (⟨#[104,111,117,114]⟩:ByteArray),bI 14 ([40])])) rfl (FzL.nil)) (tN (aXu (k:=11) (t':=aA (aA (aA (aA (aA (aA (aA (aA (aA (aA (aA aH 0 (dS p0)) 1 (dI p1)) 2 (dI p2)) 8 (bA 3)) 10 (bA 4)) 12 (bI 5 v6.1)) 88 (.agg [dS (⟨#[99,101,110,116,101,114]⟩:ByteArray),(dL cI [v9.Driver,12])])) 94 (.agg [dS (⟨#[116,104,105,114,100]⟩:ByteArray),(dL cI [v9.Driven,v10.Driver])])) 98 (.agg [dS (⟨#[101,115,99,97,112,101]⟩:ByteArray),bI 12 ([v10.Driven])])) 100 (.agg [dS (⟨#[109,105,110,117,116,101]⟩:ByteArray),bI 13 ([36,10])])) 102 (.agg [dS (⟨#[104,111,117,114]⟩:ByteArray),bI 14 ([40])])) rfl (FzL.nil)) (tN (aXu (k:=12) (t':=aA (aA (aA (aA (aA (aA (aA (aA (aA (aA (aA aH 0 (dS p0)) 1 (dI p1)) 2 (dI p2)) 8 (bA 3)) 10 (bA 4)) 12 (bI 5 v6.1)) 88 (.agg [dS (⟨#[99,101,110,116,101,114]⟩:ByteArray),(dL cI [v9.Driver,12])])) 94 (.agg [dS (⟨#[116,104,105,114,100]⟩:ByteArray),(dL cI [v9.Driven,v10.Driver])])) 98 (.agg [dS (⟨#[101,115,99,97,112,101]⟩:ByteArray),(dL cI [v10.Driven])])) 100 (.agg [dS (⟨#[109,105,110,117,116,101]⟩:ByteArray),bI 13 ([36,10])])) 102 (.agg [dS (⟨#[104,111,117,114]⟩:ByteArray),bI 14 ([40])])) rfl (FzL.nil)) (tN (aXu (k:=13) (t':=aA (aA (aA (aA (aA (aA (aA (aA (aA (aA (aA aH 0 (dS p0)) 1 (dI p1)) 2 (dI p2)) 8 (bA 3)) 10 (bA 4)) 12 (bI 5 v6.1)) 88 (.agg [dS (⟨#[99,101,110,116,101,114]⟩:ByteArray),(dL cI [v9.Driver,12])])) 94 (.agg [dS (⟨#[116,104,105,114,100]⟩:ByteArray),(dL cI [v9.Driven,v10.Driver])])) 98 (.agg [dS (⟨#[101,115,99,97,112,101]⟩:ByteArray),(dL cI [v10.Driven])])) 100 (.agg [dS (⟨#[109,105,110,117,116,101]⟩:ByteArray),(dL cI [36,10])])) 102 (.agg [dS (⟨#[104,111,117,114]⟩:ByteArray),bI 14 ([40])])) rfl (FzL.nil)) (tN (aXu (k:=14) (t':=aA (aA (aA (aA (aA (aA (aA (aA (aA (aA (aA aH 0 (dS p0)) 1 (dI p1)) 2 (dI p2)) 8 (bA 3)) 10 (bA 4)) 12 (bI 5 v6.1)) 88 (.agg [dS (⟨#[99,101,110,116,101,114]⟩:ByteArray),(dL cI [v9.Driver,12])])) 94 (.agg [dS (⟨#[116,104,105,114,100]⟩:ByteArray),(dL cI [v9.Driven,v10.Driver])])) 98 (.agg [dS (⟨#[101,115,99,97,112,101]⟩:ByteArray),(dL cI [v10.Driven])])) 100 (.agg [dS (⟨#[109,105,110,117,116,101]⟩:ByteArray),(dL cI [36,10])])) 102 (.agg [dS (⟨#[104,111,117,114]⟩:ByteArray),(dL cI [40])])) rfl (FzL.nil)) (bso 15 tok aF [(⟨(⟨#[99,101,110,116,101,114]⟩:ByteArray),[v9.Driver,12]⟩:cD),(⟨(⟨#[116,104,105,114,100]⟩:ByteArray),[v9.Driven,v10.Driver]⟩:cD),(⟨(⟨#[101,115,99,97,112,101]⟩:ByteArray),[v10.Driven]⟩:cD),(⟨(⟨#[109,105,110,117,116,101]⟩:ByteArray),[36,10]⟩:cD),(⟨(⟨#[104,111,117,114]⟩:ByteArray),[40]⟩:cD)] ?_)))))
 iterate 4 refine rpb tok aVc ?_
 refine bso 16 tok bH [(⟨0,0,1,0⟩:bM),(⟨1,1,2,0⟩:bM),(⟨0,1,3,0⟩:bM),(⟨3,1,4,0⟩:bM)] ?_
 refine rpb tok [zl,zl] ?_
 refine al 17 [zl,zl] tok ?_
 refine au 9 ?_
 refine rpb tok aRo ?_
 obtain ⟨v11,hv11,h0⟩:=bnd h0
 refine rS rfl (fG 18 (qE hv11) rfl rfl) (au 4 ?_)
 cases h0
 exact bV (rs:=[.cell 10 36, .tmp 11]) [18,19,20,21,22,23] rfl
theorem vE {p0:aP} {p1:Int} {r:Bool} (h0:kP p0 p1=some r):FnC Tryz.prog 103 [] [.agg [dL aF p0.Arbors,(dL bH p0.Meshes)],(dI p1)] [] (dB r):=by
 refine fi 11 tok Tryz.func103 ?_
 unfold kP at h0
 refine au 1 ?_
 refine bxx 3 ?_
 refine au 8 ?_
 obtain ⟨v1,hv1,h0⟩:=bnd h0
 refine cll 4 (bK hv1) ?_
 refine au 3 ?_
 cases h0
 exact r0t 4 rfl
theorem aGi {p0:cD} {r:Bool} (h0:lT p0=some r):FnC Tryz.prog 173 [] [.agg [dS p0.Name,(dL cI p0.Wheels)]] [] (dB r):=by
 refine fi 25 tok Tryz.func173 ?_
 unfold lT at h0
 refine au 1 ?_
 refine bxx 3 ?_
 refine au 2 ?_
 obtain ⟨v7x,h1,h0⟩:=bnd h0
 refine cF v7x (fun v7=>⟨aA aH 1 (bA 3),lk3 [(slB 117 2 [dS p0.Name,(dL cI p0.Wheels)])]⟩) ?_ ?_
 refine au 7 ?_
 refine aK (fun s4=>⟨aA (aA (aA (aA aH 1 (bA 3)) 6 (dL cI p0.Wheels)) 7 (dI (p0.Wheels.length:Int))) 8 (dI s4),lk3 [(slB 117 2 [dS p0.Name,(dL cI p0.Wheels)])]⟩) h1 ?_ (fun s4 y h2 => ?_)
 exact wk [0,1,2,3]
 refine au 4 ?_
 refine aif h2 ?_ ?_ <;> intro hc h2
 refine au 4 ?_
 obtain ⟨v5,hv5,h2⟩:=bnd h2
 refine rP rfl (bS tok hv5 rfl rfl rfl rfl rfl rfl) (au 5 ?_)
 obtain ⟨v6,hv6,h2⟩:=bnd h2
 refine cll 4 (rQ hv6) ?_
 refine au 2 ?_
 refine aiB h2 ?_ ?_ <;> intro hc h2
 refine au 6 ?_
 cases h2
 refine lpr fun e => ?_
 subst e
 refine au 1 ?_
 replace h0:=eO h0
 refine au 1 ?_
 cases h0
 exact r0t 2 rfl
 refine au 7 ?_
 refine bD ?_
 cases h2
 refine ⟨_,rfl,?_⟩
 exact wk [0,1,2,3]
 refine au 2 ?_
 cases h2
 refine lpx fun e => ?_
 subst e
 refine au 2 ?_
 refine ⟨_,rfl,?_⟩
 exact wk [0,1,2,3]
 rintro v7 rfl
 replace h0:=gO h0
 refine au 3 ?_
 obtain ⟨v8,hv8,h0⟩:=bnd h0
 refine cll 4 (tT hv8) ?_
 refine pm ?_
 refine riB 19 h0 ?_ ?_ <;> intro hc h0
 refine au 8 ?_
 cases h0
 exact r0t 2 rfl
 refine au 8 ?_
 cases h0
 exact r0t 2 rfl
theorem aCn {p0:aP} {p1:Int} {p2:Int} {r:Bool} (h0:mO p0 p1 p2=some r):FnC Tryz.prog 235 [] [.agg [dL aF p0.Arbors,(dL bH p0.Meshes)],(dI p1),(dI p2)] [] (dB r):=by
 refine fi 25 tok Tryz.func235 ?_
 unfold mO at h0
 refine au 1 ?_
 refine bxx 3 ?_
 refine au 8 ?_
 obtain ⟨v1,hv1,h0⟩:=bnd h0
 refine cll 4 (bK hv1) ?_
 refine pm ?_
 refine riB 13 h0 ?_ ?_ <;> intro hc h0
 refine au 4 ?_
 obtain ⟨v2,hv2,h0⟩:=bnd h0
 refine rp rfl (w1 rfl rfl rfl) rfl (bS tok hv2 rfl rfl rfl rfl rfl rfl) (au 4 ?_)
 obtain ⟨v3,hv3,h0⟩:=bnd h0
 refine cl1 4 (bK hv3) ?_
 refine au 4 ?_
 cases h0
 exact r0t 6 rfl
 refine au 14 ?_
 cases h0
 exact r0t 6 rfl
theorem aS1 {p0:aP} {p1:bM} {r:Bool} (h0:xD p0 p1=some r):FnC Tryz.prog 174 [] [.agg [dL aF p0.Arbors,(dL bH p0.Meshes)], .agg (oE p1)] [] (dB r):=by
 refine fi 26 tok Tryz.func174 ?_
 unfold xD at h0
 refine au 1 ?_
 refine bxx 3 ?_
 refine bxx 4 ?_
 refine au 9 ?_
 refine rif 10 h0 ?_ ?_ <;> intro hc h0
 refine au 5 ?_
 obtain ⟨v1,hv1,h0⟩:=bnd h0
 refine cl1 5 (aCn hv1) ?_
 refine au 2 ?_
 refine riB 18 h0 ?_ ?_ <;> intro hc h0
 refine au 5 ?_
 obtain ⟨v2,hv2,h0⟩:=bnd h0
 refine cl1 5 (aCn hv2) ?_
 refine au 4 ?_
 cases h0
 exact r0t 4 rfl
 refine au 10 ?_
 cases h0
 exact r0t 4 rfl
 refine au 18 ?_
 cases h0
 exact r0t 4 rfl
theorem aKb {p0:bM} {p1:bM} {r:Bool} (h0:pP p0 p1=some r):FnC Tryz.prog 177 [] [.agg (oE p0), .agg (oE p1)] [] (dB r):=by
 refine fi 21 tok Tryz.func177 ?_
 unfold pP at h0
 refine au 1 ?_
 refine bxx 3 ?_
 refine bxx 4 ?_
 refine au 5 ?_
 refine rP rfl (xI (a:=p0) (b:=p1) rfl rfl) (pm ?_)
 refine rif 8 h0 ?_ ?_ <;> intro hc h0
 refine au 15 ?_
 cases h0
 exact r0t 4 rfl
 refine au 9 ?_
 refine rp rfl (w1 rfl rfl rfl) rfl (pbl (C0:=aVc) tok rfl rfl rfl) (rp rfl (w1 rfl rfl rfl) rfl (xI (a:=p0) (b:=(⟨p1.B,p1.WheelB,p1.A,p1.WheelA⟩:bM)) rfl rfl) (au 4 ?_))
 cases h0
 exact r0t 4 rfl
theorem aDb {p0:bM} {p1:bM} {r:Bool} (h0:lX p0 p1=some r):FnC Tryz.prog 176 [] [.agg (oE p0), .ref (bH p1)] [] (dB r):=by
 refine fi 7 tok Tryz.func176 ?_
 unfold lX at h0
 refine au 1 ?_
 refine bxx 3 ?_
 refine au 5 ?_
 obtain ⟨v1,hv1,h0⟩:=bnd h0
 refine cll 4 (aKb hv1) ?_
 refine au 3 ?_
 cases h0
 exact r0t 3 rfl
theorem jA {p0:List bM} {p1_0:bM} {r:Int} (h0:cA p0 p1_0=some r):FnC Tryz.prog 236 [] [dL bH p0, .fn 176 [.ref (bH p1_0)]] [] (dI r):=by
 refine fi 19 tok Tryz.func236 ?_
 unfold cA at h0
 refine au 3 ?_
 obtain ⟨v7x,h1,h0⟩:=bnd h0
 refine cF v7x (fun v7=>⟨aH,lk3 []⟩) ?_ ?_
 refine au 6 ?_
 refine aK (fun s4=>⟨aA (aA (aA (aA aH 0 (dL bH p0)) 1 (.fn 176 [.ref (bH p1_0)])) 7 (dI (p0.length:Int))) 8 (dI s4),lk3 []⟩) h1 ?_ (fun s4 y h2 => ?_)
 exact wk [0,1,2]
 refine au 4 ?_
 refine aif h2 ?_ ?_ <;> intro hc h2
 refine au 8 ?_
 refine rP rfl (gZ (r := .fn _ _) rfl) (au 2 ?_)
 obtain ⟨v5,hv5,h2⟩:=bnd h2
 refine rP rfl (bS tok hv5 rfl rfl rfl rfl rfl rfl) (au 1 ?_)
 obtain ⟨v6,hv6,h2⟩:=bnd h2
 refine cll 3 (aDb hv6) (nx ?_)
 refine aiB h2 ?_ ?_ <;> intro hc h2
 refine au 7 ?_
 cases h2
 refine lpr fun e => ?_
 subst e
 refine au 1 ?_
 replace h0:=eO h0
 refine au 1 ?_
 cases h0
 exact r0t 4 rfl
 refine au 7 ?_
 refine bD ?_
 cases h2
 refine ⟨_,rfl,?_⟩
 exact wk [0,1,2]
 refine au 2 ?_
 cases h2
 refine lpx fun e => ?_
 subst e
 refine au 2 ?_
 refine ⟨_,rfl,?_⟩
 exact wk [0,1,2]
 rintro v7 rfl
 replace h0:=gO h0
 refine au 4 ?_
 cases h0
 exact r0t 4 rfl
theorem iH {p0:List bM} {p1_0:bM} {r:Bool} (h0:bF p0 p1_0=some r):FnC Tryz.prog 175 [] [dL bH p0, .fn 176 [.ref (bH p1_0)]] [] (dB r):=by
 refine fi 9 tok Tryz.func175 ?_
 unfold bF at h0
 refine au 5 ?_
 refine rP rfl (gZ (r := .fn _ _) rfl) ?_
 obtain ⟨v1,hv1,h0⟩:=bnd h0
 refine cll 3 (jA hv1) ?_
 refine au 4 ?_
 cases h0
 exact r0t 4 rfl
theorem yN {p0:aP} {r:Bool} (h0:jS p0=some r):FnC Tryz.prog 104 [] [.agg [dL aF p0.Arbors,(dL bH p0.Meshes)]] [] (dB r):=by
 refine fi 67 tok Tryz.func104 ?_
 unfold jS at h0
 refine au 1 ?_
 refine bxx 3 ?_
 refine au 3 ?_
 obtain ⟨v1,h1,h0⟩:=bnd h0
 refine aN ⟨aA (aA aH 1 (bA 3)) 18 (dB v1),lk3 [(slB 29 2 [dL aF p0.Arbors,(dL bH p0.Meshes)])]⟩ ?_ ?_
 refine au 6 ?_
 refine rif 13 h1 ?_ ?_ <;> intro hc h1
 refine au 6 ?_
 cases h1
 exact wk [0,1,2,3]
 refine au 6 ?_
 cases h1
 exact wk [0,1,2,3]
 refine aiB h0 ?_ ?_ <;> intro hc h0
 refine au 5 ?_
 cases h0
 exact r0t 2 rfl
 refine sk ?_
 obtain ⟨v20x,h1,h0⟩:=bnd h0
 refine cF v20x (fun v20=>⟨aA aH 1 (bA 3),lk3 [(slB 29 2 [dL aF p0.Arbors,(dL bH p0.Meshes)])]⟩) ?_ ?_
 refine au 7 ?_
 refine aK (fun s11=>⟨aA (aA (aA (aA aH 1 (bA 3)) 20 (dL aF p0.Arbors)) 21 (dI (p0.Arbors.length:Int))) 22 (dI s11),lk3 [(slB 29 2 [dL aF p0.Arbors,(dL bH p0.Meshes)])]⟩) h1 ?_ (fun s11 y h2 => ?_)
 exact wk [0,1,2,3]
 refine au 4 ?_
 refine aif h2 ?_ ?_ <;> intro hc h2
 refine sk ?_
 obtain ⟨v19x,h3,h2⟩:=bnd h2
 refine cF v19x (fun v19=>⟨aA (aA (aA (aA aH 1 (bA 3)) 20 (dL aF p0.Arbors)) 21 (dI (p0.Arbors.length:Int))) 22 (dI s11),lk3 [(slB 29 2 [dL aF p0.Arbors,(dL bH p0.Meshes)])]⟩) ?_ ?_
 refine au 3 ?_
 obtain ⟨v12,hv12,h3⟩:=bnd h3
 refine rP rfl (bS tok hv12 rfl rfl rfl rfl rfl rfl) (au 1 ?_)
 refine al 4 [ze,zl] tok ?_
 refine au 6 ?_
 obtain ⟨v13,hv13,h3⟩:=bnd h3
 refine cll 5 (aGi hv13) ?_
 refine au 2 ?_
 refine aiB h3 ?_ ?_ <;> intro hc h3
 refine au 6 ?_
 cases h3
 replace h2:=eO h2
 refine au 1 ?_
 cases h2
 refine lpr fun e => ?_
 subst e
 refine au 1 ?_
 replace h0:=eO h0
 refine au 1 ?_
 cases h0
 exact r0t 2 rfl
 refine au 5 ?_
 obtain ⟨hq14,h3⟩:=aT h3
 refine rP rfl (aIx tok hq14 rfl (.inl ⟨rfl,rfl⟩) (.inr ⟨_,_,rfl,rfl⟩) rfl rfl rfl (fun _=>rfl)) (au 4 ?_)
 refine aK (fun s17=>⟨aA (aA (aA (aA (aA (aA (aA (aA aH 1 (bA 3)) 4 (bA 4)) 20 (dL aF p0.Arbors)) 21 (dI (p0.Arbors.length:Int))) 22 (dI s11)) 33 (dL aF (aFu p0.Arbors (0:Int) s11))) 34 (dI ((aFu p0.Arbors (0:Int) s11).length:Int))) 35 (dI s17),lk3 [(slB 29 2 [dL aF p0.Arbors,(dL bH p0.Meshes)]),(slB 117 2 [dS v12.Name,(dL cI v12.Wheels)])]⟩) h3 ?_ (fun s17 y h4 => ?_)
 exact wk [0,1,2,3,4]
 refine au 4 ?_
 refine aif h4 ?_ ?_ <;> intro hc h4
 refine au 4 ?_
 obtain ⟨v18,hv18,h4⟩:=bnd h4
 refine rP rfl (bS tok hv18 rfl rfl rfl rfl rfl rfl) (au 1 ?_)
 refine al 5 [ze,zl] tok ?_
 refine au 9 ?_
 refine aif h4 ?_ ?_ <;> intro hc h4
 refine au 6 ?_
 cases h4
 refine lpr fun e => ?_
 subst e
 refine au 2 ?_
 replace h2:=eO h2
 refine au 1 ?_
 cases h2
 refine lpr fun e => ?_
 subst e
 refine au 1 ?_
 replace h0:=eO h0
 refine au 1 ?_
 cases h0
 exact r0t 2 rfl
 refine au 7 ?_
 refine bD ?_
 cases h4
 refine ⟨_,rfl,?_⟩
 exact wk [0,1,2,3,4]
 refine au 2 ?_
 cases h4
 refine lpx fun e => ?_
 subst e
 refine au 3 ?_
 refine ⟨_,rfl,?_⟩
 exact wk [0,1,2,3]
 rintro v19 rfl
 replace h2:=gO h2
 refine au 4 ?_
 refine bD ?_
 cases h2
 refine ⟨_,rfl,?_⟩
 exact wk [0,1,2,3]
 refine au 2 ?_
 cases h2
 refine lpx fun e => ?_
 subst e
 refine au 2 ?_
 refine ⟨_,rfl,?_⟩
 exact wk [0,1,2,3]
 rintro v20 rfl
 replace h0:=gO h0
 obtain ⟨v33x,h1,h0⟩:=bnd h0
 refine cF v33x (fun v33=>⟨aH,lk3 []⟩) ?_ ?_
 refine au 7 ?_
 refine aK (fun s27=>⟨aA (aA (aA (aA aH 1 (bA 3)) 47 (dL bH p0.Meshes)) 48 (dI (p0.Meshes.length:Int))) 49 (dI s27),lk3 [(slB 29 2 [dL aF p0.Arbors,(dL bH p0.Meshes)])]⟩) h1 ?_ (fun s27 y h2 => ?_)
 exact wk [0,1,2,3]
 refine au 4 ?_
 refine aif h2 ?_ ?_ <;> intro hc h2
 refine au 5 ?_
 obtain ⟨v28,hv28,h2⟩:=bnd h2
 refine rP rfl (bS tok hv28 rfl rfl rfl rfl rfl rfl) (au 1 ?_)
 refine al 4 aVc tok ?_
 refine au 3 ?_
 obtain ⟨v32,h3,h2⟩:=bnd h2
 refine aN ⟨aA (aA (aA (aA (aA aH 1 (bA 3)) 47 (dL bH p0.Meshes)) 48 (dI (p0.Meshes.length:Int))) 49 (dI s27)) 65 (dB v32),lk3 [(slB 29 2 [dL aF p0.Arbors,(dL bH p0.Meshes)])]⟩ ?_ ?_
 refine au 3 ?_
 obtain ⟨v29,hv29,h3⟩:=bnd h3
 refine cll 5 (aS1 hv29) ?_
 refine au 2 ?_
 refine riB 58 h3 ?_ ?_ <;> intro hc h3
 refine au 8 ?_
 cases h3
 exact wk [0,1,2,3]
 refine au 3 ?_
 obtain ⟨hq30,h3⟩:=aT h3
 refine rp rfl (w1 rfl rfl rfl) rfl (aIx tok hq30 rfl (.inl ⟨rfl,rfl⟩) (.inr ⟨_,_,rfl,rfl⟩) rfl rfl rfl (fun _=>rfl)) (rp rfl (w1 rfl rfl rfl) rfl (aIw rfl) ?_)
 obtain ⟨v31,hv31,h3⟩:=bnd h3
 refine rs rfl (w1 rfl rfl rfl) rfl (fG 5 (iH hv31) rfl rfl) (au 2 ?_)
 cases h3
 exact wk [0,1,2,3]
 refine aiB h2 ?_ ?_ <;> intro hc h2
 refine au 6 ?_
 cases h2
 refine lpr fun e => ?_
 subst e
 refine au 1 ?_
 replace h0:=eO h0
 refine au 1 ?_
 cases h0
 exact r0t 2 rfl
 refine au 7 ?_
 refine bD ?_
 cases h2
 refine ⟨_,rfl,?_⟩
 exact wk [0,1,2,3]
 refine au 2 ?_
 cases h2
 refine lpx fun e => ?_
 subst e
 refine au 2 ?_
 refine ⟨_,rfl,?_⟩
 exact wk [0,1,2]
 rintro v33 rfl
 replace h0:=gO h0
 refine au 4 ?_
 cases h0
 exact r0t 2 rfl
theorem sR {p0:List Int} {r:Bool} (h0:jC p0=some r):FnC Tryz.prog 105 [] [dL cI p0] [] (dB r):=by
 refine fi 23 tok Tryz.func105 ?_
 unfold jC at h0
 refine au 3 ?_
 obtain ⟨v7x,h1,h0⟩:=bnd h0
 refine cF v7x (fun v7=>⟨aA aH 0 (dL cI p0),lk3 []⟩) ?_ ?_
 refine au 6 ?_
 refine aK (fun s4=>⟨aA (aA (aA (aA aH 0 (dL cI p0)) 5 (dL cI p0)) 6 (dI (p0.length:Int))) 7 (dI s4),lk3 []⟩) h1 ?_ (fun s4 y h2 => ?_)
 exact wk [0,1,2]
 refine au 4 ?_
 refine aif h2 ?_ ?_ <;> intro hc h2
 refine au 4 ?_
 obtain ⟨v5,hv5,h2⟩:=bnd h2
 refine rP rfl (bS tok hv5 rfl rfl rfl rfl rfl rfl) (au 5 ?_)
 obtain ⟨v6,hv6,h2⟩:=bnd h2
 refine cll 3 (bK hv6) ?_
 refine au 2 ?_
 refine aiB h2 ?_ ?_ <;> intro hc h2
 refine au 6 ?_
 cases h2
 refine lpr fun e => ?_
 subst e
 refine au 1 ?_
 replace h0:=eO h0
 refine au 1 ?_
 cases h0
 exact r0t 2 rfl
 refine au 7 ?_
 refine bD ?_
 cases h2
 refine ⟨_,rfl,?_⟩
 exact wk [0,1,2]
 refine au 2 ?_
 cases h2
 refine lpx fun e => ?_
 subst e
 refine au 2 ?_
 refine ⟨_,rfl,?_⟩
 exact wk [0,1,2]
 rintro v7 rfl
 replace h0:=gO h0
 refine au 5 ?_
 refine rif 18 h0 ?_ ?_ <;> intro hc h0
 refine au 7 ?_
 cases h0
 exact r0t 2 rfl
 refine au 7 ?_
 cases h0
 exact r0t 2 rfl
theorem iQ {p0:aG} {r:Bool} (h0:eB p0=some r):FnC Tryz.prog 49 [] [.agg (cX p0)] [] (dB r):=by
 refine fi 61 tok Tryz.func49 ?_
 unfold eB at h0
 refine au 1 ?_
 refine bxx 3 ?_
 refine au 2 ?_
 obtain ⟨v4,h1,h0⟩:=bnd h0
 refine aN ⟨aA (aA aH 1 (bA 3)) 3 (dB v4),lk3 [(slB 36 14 (cX p0))]⟩ ?_ ?_
 refine au 5 ?_
 obtain ⟨v1,hv1,h1⟩:=bnd h1
 refine cll 4 (vE hv1) ?_
 refine pm ?_
 refine riB 10 h1 ?_ ?_ <;> intro hc h1
 refine au 4 ?_
 obtain ⟨v2,hv2,h1⟩:=bnd h1
 refine cl1 4 (vE hv2) ?_
 refine au 2 ?_
 refine riB 17 h1 ?_ ?_ <;> intro hc h1
 refine au 4 ?_
 obtain ⟨v3,hv3,h1⟩:=bnd h1
 refine cl1 4 (vE hv3) ?_
 refine au 3 ?_
 cases h1
 exact wk [0,1,2,3]
 refine au 8 ?_
 cases h1
 exact wk [0,1,2,3]
 refine au 15 ?_
 cases h1
 exact wk [0,1,2,3]
 obtain ⟨v8,h1,h0⟩:=bnd h0
 refine aN ⟨aA (aA (aA aH 1 (bA 3)) 3 (dB v4)) 4 (dB v8),lk3 [(slB 36 14 (cX p0))]⟩ ?_ ?_
 refine au 3 ?_
 obtain ⟨v5,hv5,h1⟩:=bnd h1
 refine cll 4 (rQ hv5) ?_
 refine pm ?_
 refine riB 27 h1 ?_ ?_ <;> intro hc h1
 refine au 2 ?_
 obtain ⟨v6,hv6,h1⟩:=bnd h1
 refine cl1 4 (bK hv6) ?_
 refine au 2 ?_
 refine riB 32 h1 ?_ ?_ <;> intro hc h1
 refine au 2 ?_
 obtain ⟨v7,hv7,h1⟩:=bnd h1
 refine cl1 4 (bK hv7) ?_
 refine au 3 ?_
 cases h1
 exact wk [0,1,2,3]
 refine au 6 ?_
 cases h1
 exact wk [0,1,2,3]
 refine au 11 ?_
 cases h1
 exact wk [0,1,2,3]
 refine au 3 ?_
 refine riB 38 h0 ?_ ?_ <;> intro hc h0
 refine au 3 ?_
 refine riB 41 h0 ?_ ?_ <;> intro hc h0
 refine au 2 ?_
 obtain ⟨v9,hv9,h0⟩:=bnd h0
 refine cl1 4 (tT hv9) ?_
 refine au 2 ?_
 refine riB 46 h0 ?_ ?_ <;> intro hc h0
 refine au 2 ?_
 obtain ⟨v10,hv10,h0⟩:=bnd h0
 refine cl1 4 (yN hv10) ?_
 refine au 2 ?_
 refine riB 51 h0 ?_ ?_ <;> intro hc h0
 refine au 2 ?_
 obtain ⟨v11,hv11,h0⟩:=bnd h0
 refine cl1 4 (fH hv11) ?_
 refine au 2 ?_
 refine riB 56 h0 ?_ ?_ <;> intro hc h0
 refine au 2 ?_
 obtain ⟨v12,hv12,h0⟩:=bnd h0
 refine cl1 4 (sR hv12) ?_
 refine au 4 ?_
 cases h0
 exact r0t 2 rfl
 refine au 7 ?_
 cases h0
 exact r0t 2 rfl
 refine au 12 ?_
 cases h0
 exact r0t 2 rfl
 refine au 17 ?_
 cases h0
 exact r0t 2 rfl
 refine au 22 ?_
 cases h0
 exact r0t 2 rfl
 refine au 25 ?_
 cases h0
 exact r0t 2 rfl
theorem aG0 {p0:aP} {p1:bM} {r:dU} (h0:mR p0 p1=some r):FnC Tryz.prog 202 [] [.agg [dL aF p0.Arbors,(dL bH p0.Meshes)], .agg (oE p1)] [] (.agg [dI r.Driver,(dI r.Driven)]):=by
 refine fi 28 tok Tryz.func202 ?_
 unfold mR at h0
 refine au 1 ?_
 refine bxx 3 ?_
 refine bxx 4 ?_
 refine al 5 [z0,z0] tok ?_
 refine au 7 ?_
 obtain ⟨v1,hv1,h0⟩:=bnd h0
 refine tP rfl (bS tok hv1 rfl rfl rfl rfl rfl rfl) (au 4 ?_)
 obtain ⟨v2,hv2,h0⟩:=bnd h0
 refine tP rfl (bS tok hv2 rfl rfl rfl rfl rfl rfl) (au 5 ?_)
 obtain ⟨v3,hv3,h0⟩:=bnd h0
 refine tP rfl (bS tok hv3 rfl rfl rfl rfl rfl rfl) (au 4 ?_)
 obtain ⟨v4,hv4,h0⟩:=bnd h0
 refine tP rfl (bS tok hv4 rfl rfl rfl rfl rfl rfl) (au 1 ?_)
 refine tP rfl (pbl (C0:=[z0,z0]) tok rfl rfl rfl) (au 4 ?_)
 cases h0
 exact cG (rs:=[.cell 4 145]) rfl
theorem aGz {p0:aB} {p1:Int} {p2:Int} {r:aB × Int} (h0:mQ p0 p1 p2=some r):FnC Tryz.prog 203 [] [.agg [dI p0.Num,(dI p0.Den)],(dI p1),(dI p2)] [] (.tup [.agg [dI r.1.Num,(dI r.1.Den)],(dI r.2)]):=by
 refine fi 22 tok Tryz.func203 ?_
 unfold mQ at h0
 refine au 1 ?_
 refine bxx 3 ?_
 refine al 4 [z0,z0] tok ?_
 refine au 6 ?_
 obtain ⟨v1,hv1,h0⟩:=bnd h0
 refine cll 5 (kX hv1) ?_
 refine au 3 ?_
 refine al 5 [z0,z0] tok ?_
 refine au 6 ?_
 obtain ⟨v2,hv2,h0⟩:=bnd h0
 refine cll 6 (wU hv2) ?_
 refine au 6 ?_
 cases h0
 exact cG (rs:=[.cell 6 92, .tmp 7]) rfl
theorem aGg {p0:aP} {p1:Int} {r:List aB × Int} (h0:lS p0 p1=some r):FnC Tryz.prog 199 [] [.agg [dL aF p0.Arbors,(dL bH p0.Meshes)],(dI p1)] [slD 92 2 dR r.1] (.tup [bI 0 r.1,(dI r.2)]):=by
 refine fi 86 tok Tryz.func199 ?_
 unfold lS at h0
 refine au 1 ?_
 refine bxx 3 ?_
 refine au 7 ?_
 obtain ⟨hq1,h0⟩:=aT h0
 refine rS rfl (aG4 4 tok (c:=dR) (⟨0,0⟩:aB) hq1 rfl rfl rfl rfl rfl rfl rfl rfl rfl rfl rfl rfl rfl) (au 5 ?_)
 refine rpb tok [z0,z0] ?_
 obtain ⟨v2,hv2,h0⟩:=bnd h0
 refine rL rfl (eV tok hv2 rfl rfl rfl rfl rfl rfl rfl rfl) (rw0 rfl w0 (aA2 (cs:=_ :: _) tok (⟨1,1⟩:aB) (eE hv2).2.1 rfl rfl rfl rfl rfl rfl rfl rfl) (nx ?_))
 obtain ⟨v53x,h1,h0⟩:=bnd h0
 refine cF v53x (fun v53=>⟨aA aH 6 (bI 3 v53),lk3 [slD 92 2 dR v53]⟩) ?_ ?_
 refine au 4 ?_
 refine aK (fun s28=>⟨aA (aA (aA aH 2 (bA 3)) 6 (bI 4 s28.2)) 7 (dB s28.1),lk3 [(slB 29 2 [dL aF p0.Arbors,(dL bH p0.Meshes)]),slD 92 2 dR s28.2]⟩) h1 ?_ (fun s28 y h2 => ?_)
 exact wk [0,1,2,3,4]
 refine au 4 ?_
 refine aiB h2 ?_ ?_ <;> intro hc h2
 refine au 12 ?_
 refine aK (fun s41=>⟨aA (aA (aA (aA (aA (aA aH 2 (bA 3)) 6 (bI 4 s41.2.2)) 7 (dB s41.1)) 25 (dL bH p0.Meshes)) 26 (dI (p0.Meshes.length:Int))) 27 (dI s41.2.1),lk3 [(slB 29 2 [dL aF p0.Arbors,(dL bH p0.Meshes)]),slD 92 2 dR s41.2.2]⟩) h2 ?_ (fun s41 y h3 => ?_)
 exact wk [0,1,2,3,4]
 refine au 4 ?_
 refine aif h3 ?_ ?_ <;> intro hc h3
 refine sk ?_
 obtain ⟨v52x,h4,h3⟩:=bnd h3
 refine cF v52x (fun v52=>⟨aA (aA (aA (aA (aA (aA aH 2 (bA 3)) 6 (bI 4 v52.2)) 7 (dB v52.1)) 25 (dL bH p0.Meshes)) 26 (dI (p0.Meshes.length:Int))) 27 (dI s41.2.1),lk3 [(slB 29 2 [dL aF p0.Arbors,(dL bH p0.Meshes)]),slD 92 2 dR v52.2]⟩) ?_ ?_
 refine au 2 ?_
 obtain ⟨v42,hv42,h4⟩:=bnd h4
 refine rP rfl (bS tok hv42 rfl rfl rfl rfl rfl rfl) (au 1 ?_)
 refine al 5 aVc tok ?_
 refine au 5 ?_
 obtain ⟨v43,hv43,h4⟩:=bnd h4
 refine cll 6 (aG0 hv43) ?_
 refine al 6 [z0,z0] tok ?_
 refine au 12 ?_
 obtain ⟨v45,h5,h4⟩:=bnd h4
 refine aN ⟨aA (aA (aA (aA (aA (aA (aA (aA (aA aH 2 (bA 3)) 6 (bI 4 s41.2.2)) 7 (dB s41.1)) 10 (bA 5)) 11 (dI v45.1)) 12 (dI v45.2.1)) 25 (dL bH p0.Meshes)) 26 (dI (p0.Meshes.length:Int))) 27 (dI s41.2.1),lk3 [(slB 29 2 [dL aF p0.Arbors,(dL bH p0.Meshes)]),slD 92 2 dR s41.2.2,(slB 145 2 [dI v45.2.2.Driver,(dI v45.2.2.Driven)])]⟩ ?_ ?_
 refine au 3 ?_
 obtain ⟨v44,hv44,h5⟩:=bnd h5
 refine rL rfl (eV tok hv44 rfl rfl rfl rfl rfl rfl rfl rfl) (rL rfl (aWq tok (eE hv44).2.1 rfl rfl rfl rfl rfl rfl rfl rfl) (rL rfl (gI tok (eE hv44).2.1 rfl rfl rfl rfl rfl rfl) (au 2 ?_)))
 refine aif h5 ?_ ?_ <;> intro hc h5
 refine au 11 ?_
 refine rpb tok [z0,z0] ?_
 refine au 2 ?_
 cases h5
 exact wk [0,1,2,3,4,6]
 refine sk ?_
 cases h5
 exact wk [0,1,2,3,4,6]
 refine au 1 ?_
 obtain ⟨v48,h5,h4⟩:=bnd h4
 refine aN ⟨aA (aA (aA (aA (aA (aA (aA (aA (aA (aA aH 2 (bA 3)) 6 (bI 4 s41.2.2)) 7 (dB s41.1)) 10 (bA 5)) 11 (dI v45.1)) 12 (dI v45.2.1)) 25 (dL bH p0.Meshes)) 26 (dI (p0.Meshes.length:Int))) 27 (dI s41.2.1)) 64 (dB v48),lk3 [(slB 29 2 [dL aF p0.Arbors,(dL bH p0.Meshes)]),slD 92 2 dR s41.2.2,(slB 145 2 [dI v45.2.2.Driver,(dI v45.2.2.Driven)])]⟩ ?_ ?_
 refine au 3 ?_
 obtain ⟨v46,hv46,h5⟩:=bnd h5
 refine rL rfl (eV tok hv46 rfl rfl rfl rfl rfl rfl rfl rfl) (rL rfl (aWq tok (eE hv46).2.1 rfl rfl rfl rfl rfl rfl rfl rfl) (rL rfl (gI tok (eE hv46).2.1 rfl rfl rfl rfl rfl rfl) (au 2 ?_)))
 refine rif 57 h5 ?_ ?_ <;> intro hc h5
 refine au 8 ?_
 cases h5
 exact wk [0,1,2,3,4,5]
 refine au 2 ?_
 obtain ⟨v47,hv47,h5⟩:=bnd h5
 refine rl rfl (w1 rfl rfl rfl) rfl (eV tok hv47 rfl rfl rfl rfl rfl rfl rfl rfl) (rl rfl (w1 rfl rfl rfl) rfl (aWq tok (eE hv47).2.1 rfl rfl rfl rfl rfl rfl rfl rfl) (rl rfl (w1 rfl rfl rfl) rfl (gI tok (eE hv47).2.1 rfl rfl rfl rfl rfl rfl) (au 3 ?_)))
 cases h5
 exact wk [0,1,2,3,4,5]
 refine aiB h4 ?_ ?_ <;> intro hc h4
 refine au 4 ?_
 cases h4
 refine ⟨_,rfl,?_⟩
 exact wk [0,1,2,3,4]
 refine au 5 ?_
 obtain ⟨v49,hv49,h4⟩:=bnd h4
 refine jX rfl w0 rfl (eV tok hv49 rfl rfl rfl rfl rfl rfl rfl rfl) rfl rfl rfl (jX rfl w0 rfl (uB tok (eE hv49).2.1 rfl rfl rfl rfl rfl) rfl rfl rfl (au 4 ?_))
 obtain ⟨v50,hv50,h4⟩:=bnd h4
 refine clt 7 (aGz hv50) ?_
 refine au 3 ?_
 refine aDz rfl w0 rfl rfl (fun hx hk=>gH 6 (cs:=[z0,z0]) tok rfl rfl hk) (au 9 ?_)
 refine aif h4 ?_ ?_ <;> intro hc h4
 refine au 5 ?_
 refine bL (aR 7 rfl 92 2 (d:=4) rfl) (au 3 ?_)
 cases h4
 replace h3:=eO h3
 refine au 1 ?_
 cases h3
 refine lpr fun e => ?_
 subst e
 refine au 2 ?_
 refine lpr fun e => ?_
 subst e
 refine au 1 ?_
 replace h0:=eO h0
 refine au 1 ?_
 cases h0
 exact bV (rs:=[.tmp 4, .tmp 5]) [7] rfl
 refine au 5 ?_
 obtain ⟨v51,hv51,h4⟩:=bnd h4
 refine rL rfl (eV tok hv51 rfl rfl rfl rfl rfl rfl rfl rfl) (rw0 rfl w0 (aA2 (cs:=_ :: _) tok v50.1 (eE hv51).2.1 rfl rfl rfl rfl rfl rfl rfl rfl) (au 6 ?_))
 cases h4
 refine ⟨_,rfl,?_⟩
 exact wk [0,1,2,3,4]
 rintro v52 rfl
 replace h3:=gO h3
 refine au 4 ?_
 refine bD ?_
 cases h3
 refine ⟨_,rfl,?_⟩
 exact wk [0,1,2,3,4]
 refine au 2 ?_
 cases h3
 refine lpx fun e => ?_
 subst e
 refine au 2 ?_
 refine bD ?_
 refine ⟨_,rfl,?_⟩
 exact wk [0,1,2,3,4]
 refine au 2 ?_
 cases h2
 refine lpx fun e => ?_
 subst e
 refine au 2 ?_
 refine ⟨_,rfl,?_⟩
 exact wk [0,1,2,4]
 rintro v53 rfl
 replace h0:=gO h0
 refine au 6 ?_
 cases h0
 exact bV (rs:=[.tmp 4, .tmp 5]) [3] rfl
theorem aF8 {p0:aB} {r:Bool} (h0:oZ p0=some r):FnC Tryz.prog 201 [] [.agg [dI p0.Num,(dI p0.Den)]] [] (dB r):=by
 refine fi 6 tok Tryz.func201 ?_
 unfold oZ at h0
 refine au 1 ?_
 refine bxx 3 ?_
 refine au 9 ?_
 cases h0
 exact r0t 2 rfl
theorem jB {p0:List aB} {r:Int} (h0:cC p0=some r):FnC Tryz.prog 259 [] [dL dR p0, .fn 201 []] [] (dI r):=by
 refine fi 19 tok Tryz.func259 ?_
 unfold cC at h0
 refine au 3 ?_
 obtain ⟨v7x,h1,h0⟩:=bnd h0
 refine cF v7x (fun v7=>⟨aH,lk3 []⟩) ?_ ?_
 refine au 6 ?_
 refine aK (fun s4=>⟨aA (aA (aA (aA aH 0 (dL dR p0)) 1 (.fn 201 [])) 7 (dI (p0.length:Int))) 8 (dI s4),lk3 []⟩) h1 ?_ (fun s4 y h2 => ?_)
 exact wk [0,1,2]
 refine au 4 ?_
 refine aif h2 ?_ ?_ <;> intro hc h2
 refine au 8 ?_
 refine rP rfl (gZ (r := .fn _ _) rfl) (au 2 ?_)
 obtain ⟨v5,hv5,h2⟩:=bnd h2
 refine rP rfl (bS tok hv5 rfl rfl rfl rfl rfl rfl) (au 1 ?_)
 obtain ⟨v6,hv6,h2⟩:=bnd h2
 refine cll 3 (aF8 hv6) (nx ?_)
 refine aiB h2 ?_ ?_ <;> intro hc h2
 refine au 7 ?_
 cases h2
 refine lpr fun e => ?_
 subst e
 refine au 1 ?_
 replace h0:=eO h0
 refine au 1 ?_
 cases h0
 exact r0t 4 rfl
 refine au 7 ?_
 refine bD ?_
 cases h2
 refine ⟨_,rfl,?_⟩
 exact wk [0,1,2]
 refine au 2 ?_
 cases h2
 refine lpx fun e => ?_
 subst e
 refine au 2 ?_
 refine ⟨_,rfl,?_⟩
 exact wk [0,1,2]
 rintro v7 rfl
 replace h0:=gO h0
 refine au 4 ?_
 cases h0
 exact r0t 4 rfl
theorem iJ {p0:List aB} {r:Bool} (h0:bG p0=some r):FnC Tryz.prog 200 [] [dL dR p0, .fn 201 []] [] (dB r):=by
 refine fi 9 tok Tryz.func200 ?_
 unfold bG at h0
 refine au 5 ?_
 refine rP rfl (gZ (r := .fn _ _) rfl) ?_
 obtain ⟨v1,hv1,h0⟩:=bnd h0
 refine cll 3 (jB hv1) ?_
 refine au 4 ?_
 cases h0
 exact r0t 4 rfl
theorem aCj {p0:aP} {p1:Int} {r:List aB × Int} (h0:mK p0 p1=some r):FnC Tryz.prog 128 [] [.agg [dL aF p0.Arbors,(dL bH p0.Meshes)],(dI p1)] [slD 92 2 dR r.1] (.tup [bI 0 r.1,(dI r.2)]):=by
 refine fi 70 tok Tryz.func128 ?_
 unfold mK at h0
 refine au 1 ?_
 refine bxx 3 ?_
 refine au 6 ?_
 obtain ⟨v1,hv1,h0⟩:=bnd h0
 refine cll 4 (yN hv1) ?_
 refine au 2 ?_
 refine aiB h0 ?_ ?_ <;> intro hc h0
 refine au 4 ?_
 refine bL (aR 4 rfl 92 2 (d:=4) rfl) (au 2 ?_)
 cases h0
 exact bV (rs:=[.tmp 4, .tmp 5]) [4] rfl
 refine au 8 ?_
 obtain ⟨v2,hv2,h0⟩:=bnd h0
 refine cll 4 (bK hv2) ?_
 refine au 2 ?_
 refine aiB h0 ?_ ?_ <;> intro hc h0
 refine au 4 ?_
 refine bL (aR 4 rfl 92 2 (d:=4) rfl) (au 2 ?_)
 cases h0
 exact bV (rs:=[.tmp 4, .tmp 5]) [4] rfl
 refine au 4 ?_
 obtain ⟨v3,hv3,h0⟩:=bnd h0
 refine cll 4 (aGg hv3) ?_
 refine au 11 ?_
 refine aif h0 ?_ ?_ <;> intro hc h0
 refine au 5 ?_
 refine bL (aR 5 rfl 92 2 (d:=4) rfl) (au 2 ?_)
 cases h0
 exact bV (rs:=[.tmp 4, .tmp 5]) [5] rfl
 refine au 4 ?_
 obtain ⟨v4,hv4,h0⟩:=bnd h0
 refine rS rfl (fG 5 (iJ hv4) rfl rfl) (nx ?_)
 refine aiB h0 ?_ ?_ <;> intro hc h0
 refine au 4 ?_
 refine bL (aR 5 rfl 92 2 (d:=4) rfl) (au 2 ?_)
 cases h0
 exact bV (rs:=[.tmp 4, .tmp 5]) [5] rfl
 refine sk ?_
 obtain ⟨v19x,h1,h0⟩:=bnd h0
 refine cF v19x (fun v19=>⟨aA aH 6 (bI 3 v3.1),lk3 [slD 92 2 dR v3.1]⟩) ?_ ?_
 refine au 7 ?_
 refine aK (fun s12=>⟨aA (aA (aA (aA (aA aH 2 (bA 3)) 6 (bI 4 v3.1)) 35 (dL bH p0.Meshes)) 36 (dI (p0.Meshes.length:Int))) 37 (dI s12),lk3 [(slB 29 2 [dL aF p0.Arbors,(dL bH p0.Meshes)]),slD 92 2 dR v3.1]⟩) h1 ?_ (fun s12 y h2 => ?_)
 exact wk [0,1,2,3,4]
 refine au 4 ?_
 refine aif h2 ?_ ?_ <;> intro hc h2
 refine au 4 ?_
 obtain ⟨v13,hv13,h2⟩:=bnd h2
 refine rP rfl (bS tok hv13 rfl rfl rfl rfl rfl rfl) (au 1 ?_)
 refine al 5 aVc tok ?_
 refine au 5 ?_
 obtain ⟨v14,hv14,h2⟩:=bnd h2
 refine cll 6 (aG0 hv14) ?_
 refine al 6 [z0,z0] tok ?_
 refine au 7 ?_
 obtain ⟨v15,hv15,h2⟩:=bnd h2
 refine jX rfl w0 rfl (eV tok hv15 rfl rfl rfl rfl rfl rfl rfl rfl) rfl rfl rfl (jX rfl w0 rfl (uB tok (eE hv15).2.1 rfl rfl rfl rfl rfl) rfl rfl rfl (au 4 ?_))
 obtain ⟨v16,hv16,h2⟩:=bnd h2
 refine clt 8 (aGz hv16) ?_
 refine au 3 ?_
 refine aDz rfl w0 rfl rfl (fun hx hk=>gH 7 (cs:=[z0,z0]) tok rfl rfl hk) (au 4 ?_)
 obtain ⟨v18,h3,h2⟩:=bnd h2
 refine aN ⟨aA (aA (aA (aA (aA (aA aH 2 (bA 3)) 6 (bI 4 v3.1)) 35 (dL bH p0.Meshes)) 36 (dI (p0.Meshes.length:Int))) 37 (dI s12)) 67 (dB v18),lk3 [(slB 29 2 [dL aF p0.Arbors,(dL bH p0.Meshes)]),slD 92 2 dR v3.1]⟩ ?_ ?_
 refine au 4 ?_
 refine aFg (u:=59) h3 rfl (fun hc h3 => ?_) (fun hc h3 => ?_)
 refine au 10 ?_
 cases h3
 exact wk [0,1,2,3,4]
 refine au 4 ?_
 obtain ⟨v17,hv17,h3⟩:=bnd h3
 refine jX rfl (w1 rfl rfl rfl) rfl (eV tok hv17 rfl rfl rfl rfl rfl rfl rfl rfl) rfl rfl rfl (jX rfl (w1 rfl rfl rfl) rfl (uB tok (eE hv17).2.1 rfl rfl rfl rfl rfl) rfl rfl rfl (aWp rfl (w1 rfl rfl rfl) rfl (vN (a:=v16.1) (b:=v17) rfl rfl) (au 3 ?_)))
 cases h3
 exact wk [0,1,2,3,4]
 refine aiB h2 ?_ ?_ <;> intro hc h2
 refine au 4 ?_
 refine bL (aR 5 rfl 92 2 (d:=4) rfl) (au 3 ?_)
 cases h2
 refine lpr fun e => ?_
 subst e
 refine au 1 ?_
 replace h0:=eO h0
 refine au 1 ?_
 cases h0
 exact bV (rs:=[.tmp 4, .tmp 5]) [5] rfl
 refine au 7 ?_
 refine bD ?_
 cases h2
 refine ⟨_,rfl,?_⟩
 exact wk [0,1,2,3,4]
 refine au 2 ?_
 cases h2
 refine lpx fun e => ?_
 subst e
 refine au 2 ?_
 refine ⟨_,rfl,?_⟩
 exact wk [0,1,2,4]
 rintro v19 rfl
 replace h0:=gO h0
 refine au 6 ?_
 cases h0
 exact bV (rs:=[.tmp 4, .tmp 5]) [3] rfl
end Go.Proofs.YtbliejnpjpnahaaGreatDoor
