/- Texts of this claim, one behind the other (merged by a program of mine). -/
import Derived.Test.YtbliejnpjpnahaaGreatDoorProg
import Derived.Test.YtbliejnpjpnahaaGreatDoorGCz13
set_option linter.unusedSimpArgs false
set_option linter.unusedVariables false
namespace Go.Proofs.YtbliejnpjpnahaaGreatDoor
open Go.RowKit
set_option linter.unusedVariables false
set_option maxRecDepth 100000
set_option maxHeartbeats 2000000
theorem aK7 {p0:aP} {p1:bM} {p2:Int} {r:Bool} (h0:pY p0 p1 p2=some r):FnC Tryz.prog 163 [] [.ref (fP p0), .agg (oE p1),(dI p2)] [] (dB r):=by
 refine fi 22 tok Tryz.func163 ?_
 unfold pY at h0
 refine au 1 ?_
 refine bxx 3 ?_
 refine au 2 ?_
 obtain ⟨v7x,h1,h0⟩:=bnd h0
 refine cF v7x (fun v7=>⟨aH,lk3 []⟩) ?_ ?_
 refine au 4 ?_
 refine aK (fun s4=>⟨aA (aA (aA (aA aH 0 (.ref (fP p0))) 2 (dI p2)) 4 (bA 3)) 7 (dI s4),lk3 [(slB 147 4 (oE p1))]⟩) h1 ?_ (fun s4 y h2 => ?_)
 exact wk [0,1,2,3]
 refine au 6 ?_
 refine aif h2 ?_ ?_ <;> intro hc h2
 refine au 10 ?_
 obtain ⟨v5,hv5,h2⟩:=bnd h2
 refine tP rfl (bS tok hv5 rfl rfl rfl rfl rfl rfl) (au 2 ?_)
 obtain ⟨v6,hv6,h2⟩:=bnd h2
 refine clt 4 (aK4 hv6) ?_
 refine au 2 ?_
 refine aiB h2 ?_ ?_ <;> intro hc h2
 refine au 6 ?_
 cases h2
 refine lpr fun e => ?_
 subst e
 refine au 1 ?_
 replace h0:=eO h0
 refine au 1 ?_
 cases h0
 exact r0t 6 rfl
 refine au 8 ?_
 refine bD ?_
 cases h2
 refine ⟨_,rfl,?_⟩
 exact wk [0,1,2,3]
 refine au 2 ?_
 cases h2
 refine lpx fun e => ?_
 subst e
 refine au 2 ?_
 refine ⟨_,rfl,?_⟩
 exact wk [0,1,2]
 rintro v7 rfl
 replace h0:=gO h0
 refine au 4 ?_
 cases h0
 exact r0t 6 rfl
theorem aT9 {p0:aP} {r:Bool} (h0:xM p0=some r):FnC Tryz.prog 94 [] [.ref (fP p0)] [] (dB r):=by
 refine fi 81 tok Tryz.func94 ?_
 unfold xM at h0
 refine au 3 ?_
 obtain ⟨v13x,h1,h0⟩:=bnd h0
 refine cF v13x (fun v13=>⟨aA aH 0 (.ref (fP p0)),lk3 []⟩) ?_ ?_
 refine au 4 ?_
 refine aK (fun s7=>⟨aA (aA aH 0 (.ref (fP p0))) 3 (dI s7),lk3 []⟩) h1 ?_ (fun s7 y h2 => ?_)
 exact wk [0,1,2]
 refine au 10 ?_
 refine aif h2 ?_ ?_ <;> intro hc h2
 refine au 3 ?_
 obtain ⟨v12,h3,h2⟩:=bnd h2
 refine aN ⟨aA (aA (aA aH 0 (.ref (fP p0))) 3 (dI s7)) 35 (dB v12),lk3 []⟩ ?_ ?_
 refine au 6 ?_
 obtain ⟨v8,hv8,h3⟩:=bnd h3
 refine rP rfl (bS tok hv8 rfl rfl rfl rfl rfl rfl) ?_
 obtain ⟨v9,hv9,h3⟩:=bnd h3
 refine cll 3 (aK3 hv9) ?_
 refine au 2 ?_
 refine riB 22 h3 ?_ ?_ <;> intro hc h3
 refine au 14 ?_
 cases h3
 exact wk [0,1,2]
 refine au 6 ?_
 obtain ⟨v10,hv10,h3⟩:=bnd h3
 refine rp rfl (w1 rfl rfl rfl) rfl (bS tok hv10 rfl rfl rfl rfl rfl rfl) (au 2 ?_)
 obtain ⟨v11,hv11,h3⟩:=bnd h3
 refine cl1 3 (aNp hv11) ?_
 refine au 4 ?_
 cases h3
 refine lJ.trans_ (lZ (d:=26) (ds:=(cL aF) p0.Arbors) rfl (by repeat (first | exact Pre.z _ | apply Pre.t))) (lJ.trans_ (lZ (d:=30) (ds:=cS v10.Name) rfl (by repeat (first | exact Pre.z _ | apply Pre.t))) ?_)
 exact wk [0,1,2]
 refine aiB h2 ?_ ?_ <;> intro hc h2
 refine au 6 ?_
 cases h2
 refine lpr fun e => ?_
 subst e
 refine au 1 ?_
 replace h0:=eO h0
 refine au 1 ?_
 cases h0
 exact r0t 2 rfl
 refine au 8 ?_
 refine bD ?_
 cases h2
 refine ⟨_,rfl,?_⟩
 exact wk [0,1,2]
 refine au 2 ?_
 cases h2
 refine lpx fun e => ?_
 subst e
 refine au 2 ?_
 refine ⟨_,rfl,?_⟩
 exact wk [0,1,2]
 rintro v13 rfl
 replace h0:=gO h0
 obtain ⟨v26x,h1,h0⟩:=bnd h0
 refine cF v26x (fun v26=>⟨aA aH 0 (.ref (fP p0)),lk3 []⟩) ?_ ?_
 refine au 4 ?_
 refine aK (fun s20=>⟨aA (aA aH 0 (.ref (fP p0))) 4 (dI s20),lk3 []⟩) h1 ?_ (fun s20 y h2 => ?_)
 exact wk [0,1,2]
 refine au 10 ?_
 refine aif h2 ?_ ?_ <;> intro hc h2
 refine au 3 ?_
 obtain ⟨v25,h3,h2⟩:=bnd h2
 refine aN ⟨aA (aA (aA aH 0 (.ref (fP p0))) 4 (dI s20)) 66 (dB v25),lk3 []⟩ ?_ ?_
 refine au 7 ?_
 obtain ⟨v21,hv21,h3⟩:=bnd h3
 refine rP rfl (bS tok hv21 rfl rfl rfl rfl rfl rfl) (au 1 ?_)
 obtain ⟨v22,hv22,h3⟩:=bnd h3
 refine cll 3 (aNr hv22) ?_
 refine au 2 ?_
 refine riB 55 h3 ?_ ?_ <;> intro hc h3
 refine au 12 ?_
 cases h3
 exact wk [0,1,2]
 refine au 6 ?_
 obtain ⟨v23,hv23,h3⟩:=bnd h3
 refine rp rfl (w1 rfl rfl rfl) rfl (bS tok hv23 rfl rfl rfl rfl rfl rfl) (au 2 ?_)
 obtain ⟨v24,hv24,h3⟩:=bnd h3
 refine cl1 3 (aK7 hv24) ?_
 refine au 2 ?_
 cases h3
 refine lJ.trans_ (lZ (d:=59) (ds:=(cL bH) p0.Meshes) rfl (by repeat (first | exact Pre.z _ | apply Pre.t))) ?_
 exact wk [0,1,2]
 refine aiB h2 ?_ ?_ <;> intro hc h2
 refine au 6 ?_
 cases h2
 refine lpr fun e => ?_
 subst e
 refine au 1 ?_
 replace h0:=eO h0
 refine au 1 ?_
 cases h0
 exact r0t 2 rfl
 refine au 8 ?_
 refine bD ?_
 cases h2
 refine ⟨_,rfl,?_⟩
 exact wk [0,1,2]
 refine au 2 ?_
 cases h2
 refine lpx fun e => ?_
 subst e
 refine au 2 ?_
 refine ⟨_,rfl,?_⟩
 exact wk [0,1,2]
 rintro v26 rfl
 replace h0:=gO h0
 refine au 8 ?_
 refine rif 73 h0 ?_ ?_ <;> intro hc h0
 refine au 10 ?_
 cases h0
 exact r0t 2 rfl
 refine au 10 ?_
 cases h0
 exact r0t 2 rfl
theorem vR {p0:aP} {p1:Int} {r:Bool} (h0:kQ p0 p1=some r):FnC Tryz.prog 95 [] [.ref (fP p0),(dI p1)] [] (dB r):=by
 refine fi 13 tok Tryz.func95 ?_
 unfold kQ at h0
 refine au 11 ?_
 obtain ⟨v1,hv1,h0⟩:=bnd h0
 refine cll 3 (dP hv1) ?_
 refine au 3 ?_
 cases h0
 exact r0t 4 rfl
theorem aQ8 {p0:Int} {p1:Int} {r:Int} (h0:uD p0 p1=some r):FnC Tryz.prog 229 [] [dI p0,(dI p1)] [] (dI r):=by
 refine fi 14 tok Tryz.func229 ?_
 unfold uD at h0
 refine au 3 ?_
 obtain ⟨v5,h1,h0⟩:=bnd h0
 refine aN ⟨aA aH 0 (dI v5),lk3 []⟩ ?_ ?_
 refine au 1 ?_
 refine aK (fun s3=>⟨aA (aA aH 0 (dI s3.1)) 1 (dI s3.2),lk3 []⟩) h1 ?_ (fun s3 y h2 => ?_)
 exact wk [0,1,2]
 refine au 5 ?_
 refine aif h2 ?_ ?_ <;> intro hc h2
 refine au 5 ?_
 obtain ⟨hq4,h2⟩:=aT h2
 refine rP rfl (eW rfl rfl hq4) (au 11 ?_)
 refine bD ?_
 cases h2
 refine ⟨_,rfl,?_⟩
 exact wk [0,1,2]
 refine au 2 ?_
 cases h2
 refine lpx fun e => ?_
 subst e
 refine au 2 ?_
 exact wk [0,1,2]
 refine au 5 ?_
 cases h0
 exact r0t 4 rfl
theorem aLc {p0:List aL} {r:Int × Bool} (h0:pZ p0=some r):FnC Tryz.prog 164 [] [dL aM p0] [] (.tup [dI r.1,(dB r.2)]):=by
 refine fi 55 tok Tryz.func164 ?_
 unfold pZ at h0
 refine au 7 ?_
 obtain ⟨v23x,h1,h0⟩:=bnd h0
 refine cF v23x (fun v23=>⟨aA (aA aH 0 (dL aM p0)) 4 (dI v23),lk3 []⟩) ?_ ?_
 refine au 4 ?_
 refine aK (fun s12=>⟨aA (aA (aA aH 0 (dL aM p0)) 4 (dI s12.1)) 5 (dI s12.2),lk3 []⟩) h1 ?_ (fun s12 y h2 => ?_)
 exact wk [0,1,2]
 refine au 7 ?_
 refine aif h2 ?_ ?_ <;> intro hc h2
 refine au 4 ?_
 obtain ⟨v18,h3,h2⟩:=bnd h2
 refine aN ⟨aA (aA (aA (aA aH 0 (dL aM p0)) 4 (dI s12.1)) 5 (dI s12.2)) 33 (dB v18),lk3 []⟩ ?_ ?_
 refine au 3 ?_
 obtain ⟨v13,hv13,h3⟩:=bnd h3
 refine tP rfl (bS tok hv13 rfl rfl rfl rfl rfl rfl) (au 2 ?_)
 obtain ⟨v14,hv14,h3⟩:=bnd h3
 refine clt 3 (dP hv14) ?_
 refine au 2 ?_
 refine qK (u:=19) h3 rfl (fun hc h3 => ?_) (fun hc h3 => ?_)
 refine au 16 ?_
 cases h3
 exact wk [0,1,2]
 refine au 2 ?_
 obtain ⟨v15,hv15,h3⟩:=bnd h3
 refine aWp rfl (w1 rfl rfl rfl) rfl (bS tok hv15 rfl rfl rfl rfl rfl rfl) (au 4 ?_)
 obtain ⟨v16,hv16,h3⟩:=bnd h3
 refine aWp rfl (w1 rfl rfl rfl) rfl (bS tok hv16 rfl rfl rfl rfl rfl rfl) (au 3 ?_)
 obtain ⟨v17,hv17,h3⟩:=bnd h3
 refine aDe rfl (w1 rfl rfl rfl) rfl (kH 3 (dP hv17) rfl rfl rfl) (au 4 ?_)
 cases h3
 refine lJ.trans_ (lZ (d:=23) (ds:=cI v15.Rest) rfl (by repeat (first | exact Pre.z _ | apply Pre.t))) (lJ.trans_ (lZ (d:=28) (ds:=cI v16.Every) rfl (by repeat (first | exact Pre.z _ | apply Pre.t))) ?_)
 exact wk [0,1,2]
 refine aiB h2 ?_ ?_ <;> intro hc h2
 refine au 8 ?_
 cases h2
 refine lpr fun e => ?_
 subst e
 refine au 1 ?_
 replace h0:=eO h0
 refine au 1 ?_
 cases h0
 exact cG (rs:=[.tmp 2, .tmp 3]) rfl
 refine au 2 ?_
 refine tdr [0,1,2,3,4,5,6,9,10,11,12,13,7,8,14,15] follows (au 4 ?_)
 obtain ⟨v19,hv19,h2⟩:=bnd h2
 refine tP rfl (bS tok hv19 rfl rfl rfl rfl rfl rfl) (au 4 ?_)
 obtain ⟨v20,hv20,h2⟩:=bnd h2
 refine tP rfl (bS tok hv20 rfl rfl rfl rfl rfl rfl) (au 2 ?_)
 obtain ⟨v21,hv21,h2⟩:=bnd h2
 refine clt 3 (aQ8 hv21) ?_
 obtain ⟨hq22,h2⟩:=aT h2
 refine tP rfl (lI rfl rfl hq22) (au 8 ?_)
 refine aif h2 ?_ ?_ <;> intro hc h2
 refine au 7 ?_
 cases h2
 refine lpr fun e => ?_
 subst e
 refine au 1 ?_
 replace h0:=eO h0
 refine au 1 ?_
 cases h0
 exact cG (rs:=[.tmp 2, .tmp 3]) rfl
 refine au 8 ?_
 refine bD ?_
 cases h2
 refine ⟨_,rfl,?_⟩
 exact wk [0,1,2]
 refine au 2 ?_
 cases h2
 refine lpx fun e => ?_
 subst e
 refine au 2 ?_
 refine ⟨_,rfl,?_⟩
 exact wk [0,1,2]
 rintro v23 rfl
 replace h0:=gO h0
 refine au 9 ?_
 cases h0
 exact cG (rs:=[.tmp 2, .tmp 3]) rfl
theorem aI9 {p0:List aY} {r:Bool} (h0:nP p0=some r):FnC Tryz.prog 165 [] [dL aW p0] [] (dB r):=by
 refine fi 55 tok Tryz.func165 ?_
 unfold nP at h0
 refine au 3 ?_
 obtain ⟨v31x,h1,h0⟩:=bnd h0
 refine cF v31x (fun v31=>⟨aA aH 0 (dL aW p0),lk3 []⟩) ?_ ?_
 refine au 4 ?_
 refine aK (fun s16=>⟨aA (aA aH 0 (dL aW p0)) 3 (dI s16),lk3 []⟩) h1 ?_ (fun s16 y h2 => ?_)
 exact wk [0,1,2]
 refine au 7 ?_
 refine aif h2 ?_ ?_ <;> intro hc h2
 refine sk ?_
 obtain ⟨v30x,h3,h2⟩:=bnd h2
 refine cF v30x (fun v30=>⟨aA (aA aH 0 (dL aW p0)) 3 (dI s16),lk3 []⟩) ?_ ?_
 refine au 2 ?_
 obtain ⟨v23,h4,h3⟩:=bnd h3
 refine aN ⟨aA (aA (aA aH 0 (dL aW p0)) 3 (dI s16)) 35 (dB v23),lk3 []⟩ ?_ ?_
 refine au 3 ?_
 obtain ⟨v17,hv17,h4⟩:=bnd h4
 refine rP rfl (bS tok hv17 rfl rfl rfl rfl rfl rfl) (au 2 ?_)
 obtain ⟨v18,hv18,h4⟩:=bnd h4
 refine cll 3 (yB hv18) ?_
 refine au 2 ?_
 refine riB 18 h4 ?_ ?_ <;> intro hc h4
 refine au 18 ?_
 cases h4
 exact wk [0,1,2]
 refine au 2 ?_
 obtain ⟨v19,hv19,h4⟩:=bnd h4
 refine rp rfl (w1 rfl rfl rfl) rfl (bS tok hv19 rfl rfl rfl rfl rfl rfl) (au 2 ?_)
 obtain ⟨v20,hv20,h4⟩:=bnd h4
 refine cl1 3 (dP hv20) ?_
 refine au 3 ?_
 refine riB 27 h4 ?_ ?_ <;> intro hc h4
 refine au 9 ?_
 cases h4
 refine lJ.trans_ (lZ (d:=22) (ds:=cI v19.Days) rfl (by repeat (first | exact Pre.z _ | apply Pre.t))) ?_
 exact wk [0,1,2]
 refine au 2 ?_
 obtain ⟨v21,hv21,h4⟩:=bnd h4
 refine rp rfl (w1 rfl rfl rfl) rfl (bS tok hv21 rfl rfl rfl rfl rfl rfl) (au 2 ?_)
 obtain ⟨v22,hv22,h4⟩:=bnd h4
 refine cl1 3 (dP hv22) ?_
 refine au 3 ?_
 cases h4
 refine lJ.trans_ (lZ (d:=22) (ds:=cI v19.Days) rfl (by repeat (first | exact Pre.z _ | apply Pre.t))) (lJ.trans_ (lZ (d:=31) (ds:=cI v21.Leap) rfl (by repeat (first | exact Pre.z _ | apply Pre.t))) ?_)
 exact wk [0,1,2]
 refine aiB h3 ?_ ?_ <;> intro hc h3
 refine au 6 ?_
 cases h3
 replace h2:=eO h2
 refine au 1 ?_
 cases h2
 refine lpr fun e => ?_
 subst e
 refine au 1 ?_
 replace h0:=eO h0
 refine au 1 ?_
 cases h0
 exact r0t 2 rfl
 refine au 5 ?_
 refine aK (fun s27=>⟨aA (aA (aA aH 0 (dL aW p0)) 3 (dI s16)) 4 (dI s27),lk3 []⟩) h3 ?_ (fun s27 y h4 => ?_)
 exact wk [0,1,2]
 refine au 6 ?_
 refine aif h4 ?_ ?_ <;> intro hc h4
 refine au 7 ?_
 obtain ⟨v28,hv28,h4⟩:=bnd h4
 refine tP rfl (bS tok hv28 rfl rfl rfl rfl rfl rfl) (au 4 ?_)
 obtain ⟨v29,hv29,h4⟩:=bnd h4
 refine tP rfl (bS tok hv29 rfl rfl rfl rfl rfl rfl) (au 5 ?_)
 refine aif h4 ?_ ?_ <;> intro hc h4
 refine au 6 ?_
 cases h4
 refine lpr fun e => ?_
 subst e
 refine au 2 ?_
 replace h2:=eO h2
 refine au 1 ?_
 cases h2
 refine lpr fun e => ?_
 subst e
 refine au 1 ?_
 replace h0:=eO h0
 refine au 1 ?_
 cases h0
 exact r0t 2 rfl
 refine au 8 ?_
 refine bD ?_
 cases h4
 refine ⟨_,rfl,?_⟩
 exact wk [0,1,2]
 refine au 2 ?_
 cases h4
 refine lpx fun e => ?_
 subst e
 refine au 3 ?_
 refine ⟨_,rfl,?_⟩
 exact wk [0,1,2]
 rintro v30 rfl
 replace h2:=gO h2
 refine au 5 ?_
 refine bD ?_
 cases h2
 refine ⟨_,rfl,?_⟩
 exact wk [0,1,2]
 refine au 2 ?_
 cases h2
 refine lpx fun e => ?_
 subst e
 refine au 2 ?_
 refine ⟨_,rfl,?_⟩
 exact wk [0,1,2]
 rintro v31 rfl
 replace h0:=gO h0
 refine au 3 ?_
 obtain ⟨v32,hv32,h0⟩:=bnd h0
 refine cll 3 (dP hv32) ?_
 refine au 3 ?_
 cases h0
 exact r0t 2 rfl
theorem aLb {p0:aC} {r:Bool} (h0:uE p0=some r):FnC Tryz.prog 97 [] [.ref (kT p0)] [] (dB r):=by
 refine fi 35 tok Tryz.func97 ?_
 unfold uE at h0
 refine au 8 ?_
 obtain ⟨v1,hv1,h0⟩:=bnd h0
 refine cll 3 (aLc hv1) ?_
 refine au 9 ?_
 refine riB 14 h0 ?_ ?_ <;> intro hc h0
 refine au 4 ?_
 obtain ⟨v2,hv2,h0⟩:=bnd h0
 refine cl1 3 (yB hv2) ?_
 refine au 2 ?_
 refine riB 21 h0 ?_ ?_ <;> intro hc h0
 refine au 4 ?_
 obtain ⟨v3,hv3,h0⟩:=bnd h0
 refine cl1 3 (aI9 hv3) ?_
 refine au 2 ?_
 refine riB 28 h0 ?_ ?_ <;> intro hc h0
 refine au 4 ?_
 obtain ⟨v4,hv4,h0⟩:=bnd h0
 refine cl1 3 (dP hv4) ?_
 refine au 4 ?_
 cases h0
 exact r0t 2 rfl
 refine au 9 ?_
 cases h0
 exact r0t 2 rfl
 refine au 16 ?_
 cases h0
 exact r0t 2 rfl
 refine au 23 ?_
 cases h0
 exact r0t 2 rfl
theorem aFm {p0:List Int} {r:Bool} (h0:sG p0=some r):FnC Tryz.prog 98 [] [dL cI p0] [] (dB r):=by
 refine fi 19 tok Tryz.func98 ?_
 unfold sG at h0
 refine au 3 ?_
 obtain ⟨v7x,h1,h0⟩:=bnd h0
 refine cF v7x (fun v7=>⟨aA aH 0 (dL cI p0),lk3 []⟩) ?_ ?_
 refine au 4 ?_
 refine aK (fun s4=>⟨aA (aA aH 0 (dL cI p0)) 3 (dI s4),lk3 []⟩) h1 ?_ (fun s4 y h2 => ?_)
 exact wk [0,1,2]
 refine au 7 ?_
 refine aif h2 ?_ ?_ <;> intro hc h2
 refine au 6 ?_
 obtain ⟨v5,hv5,h2⟩:=bnd h2
 refine rP rfl (bS tok hv5 rfl rfl rfl rfl rfl rfl) (au 1 ?_)
 obtain ⟨v6,hv6,h2⟩:=bnd h2
 refine cll 3 (dP hv6) ?_
 refine au 2 ?_
 refine aiB h2 ?_ ?_ <;> intro hc h2
 refine au 6 ?_
 cases h2
 refine lpr fun e => ?_
 subst e
 refine au 1 ?_
 replace h0:=eO h0
 refine au 1 ?_
 cases h0
 exact r0t 2 rfl
 refine au 8 ?_
 refine bD ?_
 cases h2
 refine ⟨_,rfl,?_⟩
 exact wk [0,1,2]
 refine au 2 ?_
 cases h2
 refine lpx fun e => ?_
 subst e
 refine au 2 ?_
 refine ⟨_,rfl,?_⟩
 exact wk [0,1,2]
 rintro v7 rfl
 replace h0:=gO h0
 refine au 3 ?_
 obtain ⟨v8,hv8,h0⟩:=bnd h0
 refine cll 3 (dP hv8) ?_
 refine au 3 ?_
 cases h0
 exact r0t 2 rfl
theorem aUc {p0:aG} {r:Bool} (h0:xQ p0=some r):FnC Tryz.prog 43 [] [.ref (hP p0)] [] (dB r):=by
 refine fi 81 tok Tryz.func43 ?_
 unfold xQ at h0
 refine au 4 ?_
 obtain ⟨v6,h1,h0⟩:=bnd h0
 refine aN ⟨aA (aA aH 0 (.ref (hP p0))) 48 (dB v6),lk3 []⟩ ?_ ?_
 refine au 5 ?_
 obtain ⟨v1,hv1,h1⟩:=bnd h1
 refine clt 3 (yB hv1) ?_
 refine au 2 ?_
 refine qK (u:=9) h1 rfl (fun hc h1 => ?_) (fun hc h1 => ?_)
 refine au 41 ?_
 cases h1
 exact wk [0,1,2]
 refine au 3 ?_
 obtain ⟨v2,hv2,h1⟩:=bnd h1
 refine aDe rfl (w1 rfl rfl rfl) rfl (kH 3 (tC (aT9 hv2)) rfl rfl rfl) (au 3 ?_)
 refine qK (u:=16) h1 rfl (fun hc h1 => ?_) (fun hc h1 => ?_)
 refine au 34 ?_
 cases h1
 exact wk [0,1,2]
 refine au 7 ?_
 obtain ⟨v3,hv3,h1⟩:=bnd h1
 refine aDe rfl (w1 rfl rfl rfl) rfl (kH 3 (tC (vR hv3)) rfl rfl rfl) (au 3 ?_)
 refine qK (u:=27) h1 rfl (fun hc h1 => ?_) (fun hc h1 => ?_)
 refine au 23 ?_
 cases h1
 exact wk [0,1,2]
 refine au 7 ?_
 obtain ⟨v4,hv4,h1⟩:=bnd h1
 refine aDe rfl (w1 rfl rfl rfl) rfl (kH 3 (tC (vR hv4)) rfl rfl rfl) (au 3 ?_)
 refine qK (u:=38) h1 rfl (fun hc h1 => ?_) (fun hc h1 => ?_)
 refine au 12 ?_
 cases h1
 exact wk [0,1,2]
 refine au 7 ?_
 obtain ⟨v5,hv5,h1⟩:=bnd h1
 refine aDe rfl (w1 rfl rfl rfl) rfl (kH 3 (tC (vR hv5)) rfl rfl rfl) (au 4 ?_)
 cases h1
 exact wk [0,1,2]
 refine aiB h0 ?_ ?_ <;> intro hc h0
 refine au 5 ?_
 cases h0
 exact r0t 2 rfl
 refine au 6 ?_
 obtain ⟨v7,hv7,h0⟩:=bnd h0
 refine cll 3 (aC1 hv7) ?_
 refine pm ?_
 refine riB 54 h0 ?_ ?_ <;> intro hc h0
 refine au 4 ?_
 obtain ⟨v8,hv8,h0⟩:=bnd h0
 refine cl1 3 (dP hv8) ?_
 refine au 2 ?_
 refine riB 61 h0 ?_ ?_ <;> intro hc h0
 refine au 3 ?_
 obtain ⟨v9,hv9,h0⟩:=bnd h0
 refine rs rfl (w1 rfl rfl rfl) rfl (aGu 3 (tC (aLb hv9)) rfl rfl rfl) (au 2 ?_)
 refine riB 67 h0 ?_ ?_ <;> intro hc h0
 refine au 4 ?_
 obtain ⟨v10,hv10,h0⟩:=bnd h0
 refine cl1 3 (aFm hv10) ?_
 refine au 2 ?_
 refine riB 74 h0 ?_ ?_ <;> intro hc h0
 refine au 4 ?_
 obtain ⟨v11,hv11,h0⟩:=bnd h0
 refine cl1 3 (dP hv11) ?_
 refine au 4 ?_
 cases h0
 exact r0t 2 rfl
 refine au 9 ?_
 cases h0
 exact r0t 2 rfl
 refine au 16 ?_
 cases h0
 exact r0t 2 rfl
 refine au 22 ?_
 cases h0
 exact r0t 2 rfl
 refine au 29 ?_
 cases h0
 exact r0t 2 rfl
theorem aK2 {p0:Int} {r:aB} (h0:sY p0=some r):FnC Tryz.prog 166 [] [dI p0] [] (.agg [dI r.Num,(dI r.Den)]):=by
 refine fi 5 tok Tryz.func166 ?_
 unfold sY at h0
 refine au 1 ?_
 refine al 3 [z0,z0] tok ?_
 refine au 3 ?_
 refine rpb tok [z0,z0] ?_
 refine au 3 ?_
 cases h0
 exact cG (rs:=[.cell 2 92]) rfl
theorem aFk {p0:aP} {p1:bM} {r:dU} (h0:oS p0 p1=some r):FnC Tryz.prog 230 [] [.ref (fP p0), .agg (oE p1)] [] (.agg [dI r.Driver,(dI r.Driven)]):=by
 refine fi 32 tok Tryz.func230 ?_
 unfold oS at h0
 refine au 1 ?_
 refine bxx 3 ?_
 refine al 4 [z0,z0] tok ?_
 refine au 9 ?_
 obtain ⟨v1,hv1,h0⟩:=bnd h0
 refine tP rfl (bS tok hv1 rfl rfl rfl rfl rfl rfl) (au 4 ?_)
 obtain ⟨v2,hv2,h0⟩:=bnd h0
 refine tP rfl (bS tok hv2 rfl rfl rfl rfl rfl rfl) (au 7 ?_)
 obtain ⟨v3,hv3,h0⟩:=bnd h0
 refine tP rfl (bS tok hv3 rfl rfl rfl rfl rfl rfl) (au 4 ?_)
 obtain ⟨v4,hv4,h0⟩:=bnd h0
 refine tP rfl (bS tok hv4 rfl rfl rfl rfl rfl rfl) (au 1 ?_)
 refine tP rfl (pbl (C0:=[z0,z0]) tok rfl rfl rfl) (au 4 ?_)
 cases h0
 exact cG (rs:=[.cell 4 145]) rfl
theorem aFj {p0:Int} {r:Int} (h0:oR p0=some r):FnC Tryz.prog 271 [] [dI p0] [] (.d (.v (.int .u64 r))):=by
 refine fi 10 tok Tryz.func271 ?_
 unfold oR at h0
 refine au 8 ?_
 refine aif h0 ?_ ?_ <;> intro hc h0
 refine au 2 ?_
 refine rP rfl (aNe tok rfl rfl rfl rfl rfl) (rP rfl (aTx rfl) (au 4 ?_))
 cases h0
 exact r0t 2 rfl
 refine au 3 ?_
 refine rP rfl (aNe tok rfl rfl rfl rfl rfl) (au 3 ?_)
 cases h0
 exact r0t 2 rfl
theorem zN {p0:Int} {p1:Int} {r:aB × Bool} (h0:mF p0 p1=some r):FnC Tryz.prog 231 [] [dI p0,(dI p1)] [] (.tup [.agg [dI r.1.Num,(dI r.1.Den)],(dB r.2)]):=by
 refine fi 53 tok Tryz.func231 ?_
 unfold mF at h0
 refine au 1 ?_
 refine al 3 [z0,z0] tok ?_
 refine au 4 ?_
 obtain ⟨v1,hv1,h0⟩:=bnd h0
 refine cll 4 (aFj hv1) ?_
 refine au 4 ?_
 obtain ⟨v2,hv2,h0⟩:=bnd h0
 refine cll 4 (aFj hv2) ?_
 refine au 10 ?_
 obtain ⟨v7,h1,h0⟩:=bnd h0
 refine aN ⟨aA (aA (aA (aA (aA (aA aH 0 (dI p0)) 1 (dI p1)) 4 (bA 3)) 6 (.d (.v (.int .u64 v1)))) 7 (.d (.v (.int .u64 v2)))) 8 (.d (.v (.int .u64 v7))),lk3 [(slB 92 2 [z0,z0])]⟩ ?_ ?_
 refine au 1 ?_
 refine aK (fun s5=>⟨aA (aA (aA (aA (aA (aA (aA aH 0 (dI p0)) 1 (dI p1)) 4 (bA 3)) 6 (.d (.v (.int .u64 v1)))) 7 (.d (.v (.int .u64 v2)))) 8 (.d (.v (.int .u64 s5.1)))) 9 (.d (.v (.int .u64 s5.2))),lk3 [(slB 92 2 [z0,z0])]⟩) h1 ?_ (fun s5 y h2 => ?_)
 exact wk [0,1,2,3]
 refine au 5 ?_
 refine aif h2 ?_ ?_ <;> intro hc h2
 refine au 5 ?_
 obtain ⟨hq6,h2⟩:=aT h2
 refine rP rfl (eW rfl rfl hq6) (au 11 ?_)
 refine bD ?_
 cases h2
 refine ⟨_,rfl,?_⟩
 exact wk [0,1,2,3]
 refine au 2 ?_
 cases h2
 refine lpx fun e => ?_
 subst e
 refine au 2 ?_
 exact wk [0,1,2,3]
 refine au 3 ?_
 obtain ⟨hq8,h0⟩:=aT h0
 refine rP rfl (aFe rfl rfl hq8) (au 5 ?_)
 obtain ⟨hq9,h0⟩:=aT h0
 refine rP rfl (aFe rfl rfl hq9) (au 3 ?_)
 obtain ⟨v10,h1,h0⟩:=bnd h0
 refine aN ⟨aA (aA (aA (aA (aA (aA aH 0 (dI p0)) 1 (dI p1)) 4 (bA 3)) 6 (.d (.v (.int .u64 (IntKind.u64.wrap (v1.tdiv v7)))))) 7 (.d (.v (.int .u64 (IntKind.u64.wrap (v2.tdiv v7)))))) 36 (dB v10),lk3 [(slB 92 2 [z0,z0])]⟩ ?_ ?_
 refine au 4 ?_
 refine rif 33 h1 ?_ ?_ <;> intro hc h1
 refine au 4 ?_
 cases h1
 exact wk [0,1,2,3]
 refine au 4 ?_
 cases h1
 exact wk [0,1,2,3]
 refine aiB h0 ?_ ?_ <;> intro hc h0
 refine au 1 ?_
 refine rpb tok [z0,z0] ?_
 refine au 5 ?_
 cases h0
 exact cG (rs:=[.cell 4 92, .tmp 5]) rfl
 refine au 3 ?_
 refine rP rfl (aNh tok rfl rfl rfl rfl rfl) (pm ?_)
 refine rP rfl (aNh tok rfl rfl rfl rfl rfl) (rpb tok [z0,z0] ?_)
 refine al 4 [z0,z0] tok ?_
 refine au 2 ?_
 obtain ⟨v11,h1,h0⟩:=bnd h0
 refine aN ⟨aA (aA aH 4 (bA 3)) 11 (bA 4),lk3 [(slB 92 2 [z0,z0]),(slB 92 2 [dI v11.Num,(dI v11.Den)])]⟩ ?_ ?_
 refine au 5 ?_
 refine rP rfl (aTt tok rfl rfl rfl rfl) (nx ?_)
 refine aiB h1 ?_ ?_ <;> intro hc h1
 refine au 7 ?_
 cases h1
 exact wk [0,1,2,3,4]
 refine sk ?_
 cases h1
 exact wk [0,1,2,3,4]
 refine au 6 ?_
 cases h0
 exact cG (rs:=[.cell 4 92, .tmp 5]) rfl
theorem aG7 {p0:aB} {p1:aB} {r:aB × Bool} (h0:qV p0 p1=some r):FnC Tryz.prog 232 [] [.agg [dI p0.Num,(dI p0.Den)], .agg [dI p1.Num,(dI p1.Den)]] [] (.tup [.agg [dI r.1.Num,(dI r.1.Den)],(dB r.2)]):=by
 refine fi 19 tok Tryz.func232 ?_
 unfold qV at h0
 refine au 1 ?_
 refine bxx 3 ?_
 refine bxx 4 ?_
 refine al 5 [z0,z0] tok ?_
 refine au 13 ?_
 obtain ⟨v1,hv1,h0⟩:=bnd h0
 refine cll 6 (zN hv1) ?_
 refine au 6 ?_
 cases h0
 exact cG (rs:=[.cell 4 92, .tmp 5]) rfl
theorem aDg {p0:aP} {p1:List Bool} {p2:List aB} {r:Bool × Bool × List Bool × List aB} (h0:hZ p0 p1 p2=some r):FnC Tryz.prog 167 [(slD 4 1 cB p1),slD 92 2 dR p2] [.ref (fP p0),bI 0 p1,bI 1 p2] [(slD 4 1 cB r.2.2.1),slD 92 2 dR r.2.2.2] (.tup [dB r.1,(dB r.2.1)]):=by
 refine fi 92 tok Tryz.func167 ?_
 unfold hZ at h0
 refine au 7 ?_
 obtain ⟨v27x,h1,h0⟩:=bnd h0
 refine cF v27x (fun v27=>⟨aA aH 8 (dB v27.1),lks [(slD 4 1 cB v27.2.1),slD 92 2 dR v27.2.2, .no]⟩) ?_ ?_
 refine au 4 ?_
 refine aK (fun s14=>⟨aA (aA (aA (aA (aA aH 0 (.ref (fP p0))) 1 (bI 0 s14.2.2.1)) 2 (bI 1 s14.2.2.2)) 8 (dB s14.1)) 9 (dI s14.2.1),lks [(slD 4 1 cB s14.2.2.1),slD 92 2 dR s14.2.2.2, .no]⟩) h1 ?_ (fun s14 y h2 => ?_)
 exact wk [0,1,2]
 refine au 10 ?_
 refine aif h2 ?_ ?_ <;> intro hc h2
 refine sk ?_
 obtain ⟨v26x,h3,h2⟩:=bnd h2
 refine cF v26x (fun v26=>⟨aA (aA (aA (aA (aA aH 0 (.ref (fP p0))) 1 (bI 0 v26.2.1)) 2 (bI 1 v26.2.2)) 8 (dB v26.1)) 9 (dI s14.2.1),lks [(slD 4 1 cB v26.2.1),slD 92 2 dR v26.2.2, .no]⟩) ?_ ?_
 refine au 7 ?_
 obtain ⟨v15,hv15,h3⟩:=bnd h3
 refine rP rfl (bS tok hv15 rfl rfl rfl rfl rfl rfl) (au 1 ?_)
 refine al 3 aVc tok ?_
 refine au 5 ?_
 obtain ⟨v16,hv16,h3⟩:=bnd h3
 refine cll 4 (aFk hv16) ?_
 refine al 4 [z0,z0] tok ?_
 refine au 8 ?_
 obtain ⟨v17,hv17,h3⟩:=bnd h3
 refine jX rfl w0 rfl (eV tok hv17 rfl rfl rfl rfl rfl rfl rfl rfl) rfl rfl rfl (jX rfl w0 rfl (gI tok (eE hv17).2.1 rfl rfl rfl rfl rfl rfl) rfl rfl rfl (au 3 ?_))
 obtain ⟨v18,hv18,h3⟩:=bnd h3
 refine jX rfl w0 rfl (eV tok hv18 rfl rfl rfl rfl rfl rfl rfl rfl) rfl rfl rfl (jX rfl w0 rfl (gI tok (eE hv18).2.1 rfl rfl rfl rfl rfl rfl) rfl rfl rfl (tP rfl (aZi tok rfl rfl rfl rfl) (au 2 ?_)))
 refine aiB h3 ?_ ?_ <;> intro hc h3
 refine au 4 ?_
 cases h3
 refine ⟨_,rfl,?_⟩
 exact wk [0,1,2]
 refine sk ?_
 obtain ⟨v20,h4,h3⟩:=bnd h3
 refine aN ⟨aA (aA (aA (aA (aA (aA aH 0 (.ref (fP p0))) 1 (bI 0 s14.2.2.1)) 2 (bI 1 s14.2.2.2)) 9 (dI s14.2.1)) 10 (bA 3)) 11 (bA 4),lks [(slD 4 1 cB s14.2.2.1),slD 92 2 dR s14.2.2.2, .no,(slB 147 4 (oE v20.1)),(slB 145 2 [dI v20.2.Driver,(dI v20.2.Driven)])]⟩ ?_ ?_
 refine au 4 ?_
 obtain ⟨v19,hv19,h4⟩:=bnd h4
 refine rL rfl (eV tok hv19 rfl rfl rfl rfl rfl rfl rfl rfl) (rL rfl (gI tok (eE hv19).2.1 rfl rfl rfl rfl rfl rfl) (nx ?_))
 refine aiB h4 ?_ ?_ <;> intro hc h4
 refine au 5 ?_
 refine rpb tok aVc ?_
 refine au 7 ?_
 refine rpb tok [z0,z0] ?_
 refine au 2 ?_
 cases h4
 exact wk [0,1,2,3,4]
 refine sk ?_
 cases h4
 exact wk [0,1,2,3,4]
 refine au 6 ?_
 obtain ⟨v21,hv21,h3⟩:=bnd h3
 refine cll 5 (zN hv21) ?_
 refine au 3 ?_
 refine al 5 [z0,z0] tok ?_
 refine au 8 ?_
 obtain ⟨v22,hv22,h3⟩:=bnd h3
 refine jX rfl w0 rfl (eV tok hv22 rfl rfl rfl rfl rfl rfl rfl rfl) rfl rfl rfl (jX rfl w0 rfl (uB tok (eE hv22).2.1 rfl rfl rfl rfl rfl) rfl rfl rfl (au 1 ?_))
 obtain ⟨v23,hv23,h3⟩:=bnd h3
 refine clt 7 (aG7 hv23) ?_
 refine au 3 ?_
 refine aDz rfl w0 rfl rfl (fun hx hk=>gH 6 (cs:=[z0,z0]) tok rfl rfl hk) (au 9 ?_)
 refine aiB h3 ?_ ?_ <;> intro hc h3
 refine au 7 ?_
 cases h3
 replace h2:=eO h2
 refine au 1 ?_
 cases h2
 refine lpr fun e => ?_
 subst e
 refine au 1 ?_
 replace h0:=eO h0
 refine au 1 ?_
 cases h0
 exact nZ (rs:=[.tmp 6, .tmp 7]) 2 rfl rfl
 refine au 6 ?_
 obtain ⟨v24,hv24,h3⟩:=bnd h3
 refine rL rfl (eV tok hv24 rfl rfl rfl rfl rfl rfl rfl rfl) (rw0 rfl w0 (aA2 (cs:=_ :: _) tok v23.1 (eE hv24).2.1 rfl rfl rfl rfl rfl rfl rfl rfl) (au 5 ?_))
 obtain ⟨v25,hv25,h3⟩:=bnd h3
 refine rL rfl (eV tok hv25 rfl rfl rfl rfl rfl rfl rfl rfl) (rw0 rfl w0 (aA2 (cs:=[.d _]) tok true (eE hv25).2.1 rfl rfl rfl rfl rfl rfl rfl rfl) (au 6 ?_))
 cases h3
 refine ⟨_,rfl,?_⟩
 exact wk [0,1,2]
 rintro v26 rfl
 replace h2:=gO h2
 refine au 5 ?_
 refine bD ?_
 cases h2
 refine ⟨_,rfl,?_⟩
 exact wk [0,1,2]
 refine au 2 ?_
 cases h2
 refine lpx fun e => ?_
 subst e
 refine au 2 ?_
 refine ⟨_,rfl,?_⟩
 exact wk [0,1,2]
 rintro v27 rfl
 replace h0:=gO h0
 refine au 6 ?_
 cases h0
 exact nZ (rs:=[.tmp 6, .tmp 7]) 2 rfl rfl
theorem aNq {p0:aP} {p1:bM} {p2:List aB} {r:Bool} (h0:sC p0 p1 p2=some r):FnC Tryz.prog 168 [] [.ref (fP p0), .agg (oE p1),(dL dR p2)] [] (dB r):=by
 refine fi 44 tok Tryz.func168 ?_
 unfold sC at h0
 refine au 1 ?_
 refine bxx 3 ?_
 refine au 5 ?_
 obtain ⟨v1,hv1,h0⟩:=bnd h0
 refine cll 4 (aFk hv1) ?_
 refine al 4 [z0,z0] tok ?_
 refine au 8 ?_
 obtain ⟨v2,hv2,h0⟩:=bnd h0
 refine cll 5 (zN hv2) ?_
 refine au 3 ?_
 refine al 5 [z0,z0] tok ?_
 refine au 8 ?_
 obtain ⟨v3,hv3,h0⟩:=bnd h0
 refine tP rfl (bS tok hv3 rfl rfl rfl rfl rfl rfl) (au 2 ?_)
 obtain ⟨v4,hv4,h0⟩:=bnd h0
 refine clt 7 (aG7 hv4) ?_
 refine au 3 ?_
 refine aDz rfl w0 rfl rfl (fun hx hk=>gH 6 (cs:=[z0,z0]) tok rfl rfl hk) (au 8 ?_)
 refine qK (u:=35) h0 rfl (fun hc h0 => ?_) (fun hc h0 => ?_)
 refine au 4 ?_
 obtain ⟨v5,hv5,h0⟩:=bnd h0
 refine aWp rfl (w1 rfl rfl rfl) rfl (bS tok hv5 rfl rfl rfl rfl rfl rfl) (au 1 ?_)
 refine aWp rfl (w1 rfl rfl rfl) rfl (aIv (a:=v4.1) (b:=v5) rfl rfl) (au 5 ?_)
 cases h0
 exact r0t 6 rfl
 refine au 12 ?_
 cases h0
 exact r0t 6 rfl
theorem aI7 {p0:aP} {p1:Int} {r:List aB × Int} (h0:nO p0 p1=some r):FnC Tryz.prog 99 [] [.ref (fP p0),(dI p1)] [slD 92 2 dR r.1] (.tup [bI 0 r.1,(dI r.2)]):=by
 refine fi 79 tok Tryz.func99 ?_
 unfold nO at h0
 refine au 8 ?_
 obtain ⟨v1,hv1,h0⟩:=bnd h0
 refine cll 3 (vR hv1) ?_
 refine au 2 ?_
 refine aiB h0 ?_ ?_ <;> intro hc h0
 refine au 4 ?_
 refine bL (aR 3 rfl 92 2 (d:=4) rfl) (au 2 ?_)
 cases h0
 exact bV (rs:=[.tmp 4, .tmp 5]) [3] rfl
 refine au 7 ?_
 obtain ⟨hq2,h0⟩:=aT h0
 refine rS rfl (aG4 3 tok (c:=cB) false hq2 rfl rfl rfl rfl rfl rfl rfl rfl rfl rfl rfl rfl rfl) (au 8 ?_)
 obtain ⟨hq3,h0⟩:=aT h0
 refine rS rfl (aG4 4 tok (c:=dR) (⟨0,0⟩:aB) hq3 rfl rfl rfl rfl rfl rfl rfl rfl rfl rfl rfl rfl rfl) (au 5 ?_)
 obtain ⟨v4,hv4,h0⟩:=bnd h0
 refine rL rfl (eV tok hv4 rfl rfl rfl rfl rfl rfl rfl rfl) (rw0 rfl w0 (aA2 (cs:=[.d _]) tok true (eE hv4).2.1 rfl rfl rfl rfl rfl rfl rfl rfl) (au 4 ?_))
 obtain ⟨v5,hv5,h0⟩:=bnd h0
 refine cll 5 (aK2 hv5) ?_
 obtain ⟨v6,hv6,h0⟩:=bnd h0
 refine rL rfl (eV tok hv6 rfl rfl rfl rfl rfl rfl rfl rfl) (rw0 rfl w0 (aA2 (cs:=_ :: _) tok v5 (eE hv6).2.1 rfl rfl rfl rfl rfl rfl rfl rfl) (nx ?_))
 obtain ⟨v15x,h1,h0⟩:=bnd h0
 refine cF v15x (fun v15=>⟨aA (aA (aA aH 0 (.ref (fP p0))) 6 (bI 3 v15.1)) 7 (bI 4 v15.2),lk3 [(slD 4 1 cB v15.1),slD 92 2 dR v15.2]⟩) ?_ ?_
 refine au 4 ?_
 refine aK (fun s11=>⟨aA (aA (aA (aA aH 0 (.ref (fP p0))) 6 (bI 3 s11.2.1)) 7 (bI 4 s11.2.2)) 8 (dB s11.1),lk3 [(slD 4 1 cB s11.2.1),slD 92 2 dR s11.2.2]⟩) h1 ?_ (fun s11 y h2 => ?_)
 exact wk [0,1,2,3,4]
 refine au 4 ?_
 refine aiB h2 ?_ ?_ <;> intro hc h2
 refine au 6 ?_
 obtain ⟨v12,hv12,h2⟩:=bnd h2
 obtain ⟨hq13,h2⟩:=aT h2
 obtain ⟨hq14,h2⟩:=aT h2
 refine rw1 rfl w0 rfl (eS [3,4] 300 (aDg hv12) rfl rfl) (au 11 ?_)
 refine aiB h2 ?_ ?_ <;> intro hc h2
 refine au 4 ?_
 refine bL (aR 5 rfl 92 2 (d:=4) rfl) (au 3 ?_)
 cases h2
 refine lpr fun e => ?_
 subst e
 refine au 1 ?_
 replace h0:=eO h0
 refine au 1 ?_
 cases h0
 exact bV (rs:=[.tmp 4, .tmp 5]) [5] rfl
 refine au 6 ?_
 refine bD ?_
 cases h2
 refine ⟨_,rfl,?_⟩
 exact wk [0,1,2,3,4]
 refine au 2 ?_
 cases h2
 refine lpx fun e => ?_
 subst e
 refine au 2 ?_
 refine ⟨_,rfl,?_⟩
 exact wk [0,1,2,3,4]
 rintro v15 rfl
 replace h0:=gO h0
 obtain ⟨v20x,h1,h0⟩:=bnd h0
 refine cF v20x (fun v20=>⟨aA (aA aH 0 (.ref (fP p0))) 7 (bI 3 v15.2),lk3 [slD 92 2 dR v15.2]⟩) ?_ ?_
 refine au 4 ?_
 refine aK (fun s18=>⟨aA (aA (aA (aA aH 0 (.ref (fP p0))) 6 (bI 3 v15.1)) 7 (bI 4 v15.2)) 11 (dI s18),lk3 [(slD 4 1 cB v15.1),slD 92 2 dR v15.2]⟩) h1 ?_ (fun s18 y h2 => ?_)
 exact wk [0,1,2,3,4]
 refine au 7 ?_
 refine aif h2 ?_ ?_ <;> intro hc h2
 refine au 6 ?_
 obtain ⟨v19,hv19,h2⟩:=bnd h2
 refine rL rfl (eV tok hv19 rfl rfl rfl rfl rfl rfl rfl rfl) (rL rfl (gI tok (eE hv19).2.1 rfl rfl rfl rfl rfl rfl) (au 2 ?_))
 refine aiB h2 ?_ ?_ <;> intro hc h2
 refine au 4 ?_
 refine bL (aR 5 rfl 92 2 (d:=4) rfl) (au 3 ?_)
 cases h2
 refine lpr fun e => ?_
 subst e
 refine au 1 ?_
 replace h0:=eO h0
 refine au 1 ?_
 cases h0
 exact bV (rs:=[.tmp 4, .tmp 5]) [5] rfl
 refine au 8 ?_
 refine bD ?_
 cases h2
 refine ⟨_,rfl,?_⟩
 exact wk [0,1,2,3,4]
 refine au 2 ?_
 cases h2
 refine lpx fun e => ?_
 subst e
 refine au 2 ?_
 refine ⟨_,rfl,?_⟩
 exact wk [0,1,2,4]
 rintro v20 rfl
 replace h0:=gO h0
 obtain ⟨v27x,h1,h0⟩:=bnd h0
 refine cF v27x (fun v27=>⟨aA aH 7 (bI 3 v15.2),lk3 [slD 92 2 dR v15.2]⟩) ?_ ?_
 refine au 4 ?_
 refine aK (fun s24=>⟨aA (aA (aA aH 0 (.ref (fP p0))) 7 (bI 3 v15.2)) 12 (dI s24),lk3 [slD 92 2 dR v15.2]⟩) h1 ?_ (fun s24 y h2 => ?_)
 exact wk [0,1,2,3]
 refine au 10 ?_
 refine aif h2 ?_ ?_ <;> intro hc h2
 refine au 10 ?_
 obtain ⟨v25,hv25,h2⟩:=bnd h2
 refine rP rfl (bS tok hv25 rfl rfl rfl rfl rfl rfl) (au 2 ?_)
 obtain ⟨v26,hv26,h2⟩:=bnd h2
 refine rS rfl (fG 4 (aNq hv26) rfl rfl) (au 2 ?_)
 refine aiB h2 ?_ ?_ <;> intro hc h2
 refine au 4 ?_
 refine bL (aR 4 rfl 92 2 (d:=4) rfl) (au 3 ?_)
 cases h2
 refine lpr fun e => ?_
 subst e
 refine au 1 ?_
 replace h0:=eO h0
 refine au 1 ?_
 cases h0
 exact bV (rs:=[.tmp 4, .tmp 5]) [4] rfl
 refine au 8 ?_
 refine bD ?_
 cases h2
 refine ⟨_,rfl,?_⟩
 exact wk [0,1,2,3]
 refine au 2 ?_
 cases h2
 refine lpx fun e => ?_
 subst e
 refine au 2 ?_
 refine ⟨_,rfl,?_⟩
 exact wk [0,1,2,3]
 rintro v27 rfl
 replace h0:=gO h0
 refine au 6 ?_
 cases h0
 exact bV (rs:=[.tmp 4, .tmp 5]) [3] rfl
theorem aNo {p0:Int} {r:Int} (h0:sA p0=some r):FnC Tryz.prog 169 [] [dI p0] [] (dI r):=by
 refine fi 8 tok Tryz.func169 ?_
 unfold sA at h0
 refine au 8 ?_
 refine aif h0 ?_ ?_ <;> intro hc h0
 refine au 7 ?_
 cases h0
 exact r0t 2 rfl
 refine au 6 ?_
 cases h0
 exact r0t 2 rfl
theorem aLd {p0:aG} {p1:aB} {r:Bool} (h0:sZ p0 p1=some r):FnC Tryz.prog 100 [] [.ref (hP p0), .agg [dI p1.Num,(dI p1.Den)]] [] (dB r):=by
 refine fi 22 tok Tryz.func100 ?_
 unfold sZ at h0
 refine au 1 ?_
 refine bxx 3 ?_
 refine au 3 ?_
 refine tdr [0,1,2,3,4,5,6,9,10,11,12,13,14,15,7,8,16,17] follows (au 14 ?_)
 obtain ⟨v1,hv1,h0⟩:=bnd h0
 refine clt 4 (aNo hv1) ?_
 refine au 6 ?_
 cases h0
 exact r0t 4 rfl
theorem aG9 {p0:aC} {p1:List Int} {r:Int} (h0:oT p0 p1=some r):FnC Tryz.prog 101 [] [.ref (kT p0),(dL cI p1)] [] (dI r):=by
 refine fi 22 tok Tryz.func101 ?_
 unfold oT at h0
 refine au 4 ?_
 obtain ⟨v3,h1,h0⟩:=bnd h0
 refine aN ⟨aA (aA (aA aH 0 (.ref (kT p0))) 1 (dL cI p1)) 12 (dB v3),lk3 []⟩ ?_ ?_
 refine au 2 ?_
 obtain ⟨v1,hv1,h1⟩:=bnd h1
 refine cll 3 (aLb hv1) ?_
 refine au 2 ?_
 refine riB 8 h1 ?_ ?_ <;> intro hc h1
 refine au 5 ?_
 cases h1
 exact wk [0,1,2]
 refine pm1 ?_
 obtain ⟨v2,hv2,h1⟩:=bnd h1
 refine cl1 3 (aFm hv2) ?_
 refine au 3 ?_
 cases h1
 exact wk [0,1,2]
 refine aiB h0 ?_ ?_ <;> intro hc h0
 refine au 5 ?_
 cases h0
 exact r0t 4 rfl
 refine au 10 ?_
 obtain ⟨hq4,h0⟩:=aT h0
 refine rP rfl (eW rfl rfl hq4) (au 2 ?_)
 refine aif h0 ?_ ?_ <;> intro hc h0
 refine au 5 ?_
 cases h0
 exact r0t 4 rfl
 refine au 5 ?_
 cases h0
 exact r0t 4 rfl
theorem aJb {p0:aG} {r:List ByteArray} (h0:nQ p0=some r):FnC Tryz.prog 44 [] [.ref (hP p0)] [slD 9 1 cS r] (bI 0 r):=by
 refine fi 61 tok Tryz.func44 ?_
 unfold nQ at h0
 refine au 4 ?_
 refine rS rfl (kR 3 tok rfl rfl rfl rfl) (au 11 ?_)
 obtain ⟨v1,hv1,h0⟩:=bnd h0
 refine aDe rfl w0 rfl (kH 4 (tC (aI7 hv1)) rfl rfl rfl) (au 7 ?_)
 obtain ⟨v9,h1,h0⟩:=bnd h0
 refine aN ⟨aA (aA aH 0 (.ref (hP p0))) 3 (bI 3 v9),lk3 [slD 9 1 cS v9]⟩ ?_ ?_
 refine au 4 ?_
 refine aif h1 ?_ ?_ <;> intro hc h1
 refine au 2 ?_
 refine bsv tok cS [(⟨#[119,111,114,107,115]⟩:ByteArray)] ?_
 obtain ⟨hq2,h1⟩:=aT h1
 refine rw1 rfl w0 rfl (fJ tok hq2 rfl rfl rfl rfl rfl rfl rfl rfl rfl rfl rfl rfl (fun _=>rfl)) (au 2 ?_)
 cases h1
 exact wk [0,1,2,3]
 obtain ⟨v5,h2,h1⟩:=bnd h1
 refine aN ⟨aA (aA (aA aH 0 (.ref (hP p0))) 3 (bI 3 v5)) 4 (bI 4 v1.1),lk3 [(slD 9 1 cS v5),slD 92 2 dR v1.1]⟩ ?_ ?_
 refine au 6 ?_
 obtain ⟨v3,hv3,h2⟩:=bnd h2
 refine rL rfl (eV tok hv3 rfl rfl rfl rfl rfl rfl rfl rfl) (rL rfl (uB tok (eE hv3).2.1 rfl rfl rfl rfl rfl) (rpb tok [z0,z0] ?_))
 refine rP rfl (vN (a:=v3) (b:=(⟨1,12⟩:aB)) rfl rfl) (nx ?_)
 refine aif h2 ?_ ?_ <;> intro hc h2
 refine au 2 ?_
 refine bsv tok cS [(⟨#[104,111,117,114]⟩:ByteArray)] ?_
 obtain ⟨hq4,h2⟩:=aT h2
 refine rw1 rfl w0 rfl (fJ tok hq4 rfl rfl rfl rfl rfl rfl rfl rfl rfl rfl rfl rfl (fun _=>rfl)) (au 2 ?_)
 cases h2
 exact wk [0,1,2,3,4]
 refine sk ?_
 cases h2
 exact wk [0,1,2,3,4]
 refine au 7 ?_
 obtain ⟨v6,hv6,h1⟩:=bnd h1
 refine rL rfl (eV tok hv6 rfl rfl rfl rfl rfl rfl rfl rfl) (rL rfl (uB tok (eE hv6).2.1 rfl rfl rfl rfl rfl) ?_)
 obtain ⟨v7,hv7,h1⟩:=bnd h1
 refine cll 5 (aLd hv7) ?_
 refine au 2 ?_
 refine aiB h1 ?_ ?_ <;> intro hc h1
 refine au 2 ?_
 refine bsv tok cS [(⟨#[98,101,97,116,115]⟩:ByteArray)] ?_
 obtain ⟨hq8,h1⟩:=aT h1
 refine rw1 rfl w0 rfl (fJ tok hq8 rfl rfl rfl rfl rfl rfl rfl rfl rfl rfl rfl rfl (fun _=>rfl)) (au 2 ?_)
 cases h1
 exact wk [0,1,2,3]
 refine sk ?_
 cases h1
 exact wk [0,1,2,3]
 obtain ⟨v12,h1,h0⟩:=bnd h0
 refine aN ⟨aA aH 3 (bI 3 v12),lk3 [slD 9 1 cS v12]⟩ ?_ ?_
 refine au 9 ?_
 obtain ⟨v10,hv10,h1⟩:=bnd h1
 refine aDe rfl w0 rfl (kH 4 (tC (aG9 hv10)) rfl rfl rfl) (au 3 ?_)
 refine aif h1 ?_ ?_ <;> intro hc h1
 refine au 2 ?_
 refine bsv tok cS [(⟨#[99,97,109]⟩:ByteArray)] ?_
 obtain ⟨hq11,h1⟩:=aT h1
 refine rw1 rfl w0 rfl (fJ tok hq11 rfl rfl rfl rfl rfl rfl rfl rfl rfl rfl rfl rfl (fun _=>rfl)) (au 2 ?_)
 cases h1
 exact wk [0,1,2,3]
 refine sk ?_
 cases h1
 exact wk [0,1,2,3]
 refine au 5 ?_
 cases h0
 exact bV (rs:=[.tmp 2]) [3] rfl
theorem aUb {p0:aD} {r:Bool} (h0:xO p0=some r):FnC Tryz.prog 46 [] [.ref (uO p0)] [] (dB r):=by
 refine fi 99 tok Tryz.func46 ?_
 unfold xO at h0
 refine au 4 ?_
 obtain ⟨v4,h1,h0⟩:=bnd h0
 refine aN ⟨aA (aA aH 0 (.ref (uO p0))) 37 (dB v4),lk3 []⟩ ?_ ?_
 refine au 5 ?_
 obtain ⟨v1,hv1,h1⟩:=bnd h1
 refine clt 3 (aFm hv1) ?_
 refine au 2 ?_
 refine qK (u:=10) h1 rfl (fun hc h1 => ?_) (fun hc h1 => ?_)
 refine au 29 ?_
 cases h1
 exact wk [0,1,2]
 refine au 7 ?_
 refine aFg (u:=17) h1 rfl (fun hc h1 => ?_) (fun hc h1 => ?_)
 refine au 22 ?_
 cases h1
 exact wk [0,1,2]
 refine au 9 ?_
 obtain ⟨hq2,h1⟩:=aT h1
 refine aWp rfl (w1 rfl rfl rfl) rfl (eW rfl rfl hq2) (au 3 ?_)
 refine aFg (u:=30) h1 rfl (fun hc h1 => ?_) (fun hc h1 => ?_)
 refine au 9 ?_
 cases h1
 exact wk [0,1,2]
 refine au 4 ?_
 obtain ⟨v3,hv3,h1⟩:=bnd h1
 refine aDe rfl (w1 rfl rfl rfl) rfl (kH 3 (dP hv3) rfl rfl rfl) (au 4 ?_)
 cases h1
 exact wk [0,1,2]
 refine aiB h0 ?_ ?_ <;> intro hc h0
 refine au 5 ?_
 cases h0
 exact r0t 2 rfl
 refine sk ?_
 obtain ⟨v9x,h1,h0⟩:=bnd h0
 refine cF v9x (fun v9=>⟨aA aH 0 (.ref (uO p0)),lk3 []⟩) ?_ ?_
 refine au 4 ?_
 refine aK (fun s7=>⟨aA (aA aH 0 (.ref (uO p0))) 3 (dI s7),lk3 []⟩) h1 ?_ (fun s7 y h2 => ?_)
 exact wk [0,1,2]
 refine au 10 ?_
 refine aif h2 ?_ ?_ <;> intro hc h2
 refine au 10 ?_
 obtain ⟨v8,hv8,h2⟩:=bnd h2
 refine tP rfl (bS tok hv8 rfl rfl rfl rfl rfl rfl) (au 8 ?_)
 refine aif h2 ?_ ?_ <;> intro hc h2
 refine au 6 ?_
 cases h2
 refine lpr fun e => ?_
 subst e
 refine au 1 ?_
 replace h0:=eO h0
 refine au 1 ?_
 cases h0
 exact r0t 2 rfl
 refine au 8 ?_
 refine bD ?_
 cases h2
 refine ⟨_,rfl,?_⟩
 exact wk [0,1,2]
 refine au 2 ?_
 cases h2
 refine lpx fun e => ?_
 subst e
 refine au 2 ?_
 refine ⟨_,rfl,?_⟩
 exact wk [0,1,2]
 rintro v9 rfl
 replace h0:=gO h0
 refine au 12 ?_
 obtain ⟨v10,hv10,h0⟩:=bnd h0
 refine clt 3 (dP hv10) ?_
 refine tpm ?_
 refine qK (u:=70) h0 rfl (fun hc h0 => ?_) (fun hc h0 => ?_)
 refine au 8 ?_
 obtain ⟨v11,hv11,h0⟩:=bnd h0
 refine aDe rfl (w1 rfl rfl rfl) rfl (kH 3 (dP hv11) rfl rfl rfl) (au 2 ?_)
 refine qK (u:=81) h0 rfl (fun hc h0 => ?_) (fun hc h0 => ?_)
 refine au 4 ?_
 obtain ⟨v12,hv12,h0⟩:=bnd h0
 refine aDe rfl (w1 rfl rfl rfl) rfl (kH 3 (dP hv12) rfl rfl rfl) (au 2 ?_)
 refine qK (u:=88) h0 rfl (fun hc h0 => ?_) (fun hc h0 => ?_)
 refine au 8 ?_
 obtain ⟨v13,hv13,h0⟩:=bnd h0
 refine aDe rfl (w1 rfl rfl rfl) rfl (kH 3 (dP hv13) rfl rfl rfl) (au 5 ?_)
 cases h0
 exact r0t 2 rfl
 refine au 14 ?_
 cases h0
 exact r0t 2 rfl
 refine au 21 ?_
 cases h0
 exact r0t 2 rfl
 refine au 32 ?_
 cases h0
 exact r0t 2 rfl
theorem aNu {p0:Int} {r:Bool} (h0:vS p0=some r):FnC Tryz.prog 233 [] [dI p0] [] (dB r):=by
 refine fi 5 tok Tryz.func233 ?_
 unfold vS at h0
 refine au 5 ?_
 obtain ⟨v1,hv1,h0⟩:=bnd h0
 refine cll 3 (dP hv1) ?_
 refine au 3 ?_
 cases h0
 exact r0t 2 rfl
theorem aNt {p0:aC} {p1:Int} {r:Bool} (h0:sF p0 p1=some r):FnC Tryz.prog 272 [] [.ref (kT p0),(dI p1)] [] (dB r):=by
 refine fi 44 tok Tryz.func272 ?_
 unfold sF at h0
 refine au 6 ?_
 obtain ⟨v13,h1,h0⟩:=bnd h0
 refine aN ⟨aA aH 5 (dB v13),lk3 []⟩ ?_ ?_
 refine au 4 ?_
 refine aK (fun s7=>⟨aA (aA (aA (aA aH 0 (.ref (kT p0))) 1 (dI p1)) 5 (dB s7.1)) 6 (dI s7.2),lk3 []⟩) h1 ?_ (fun s7 y h2 => ?_)
 exact wk [0,1,2]
 refine au 10 ?_
 refine aif h2 ?_ ?_ <;> intro hc h2
 refine sk ?_
 obtain ⟨v12,h3,h2⟩:=bnd h2
 refine aN ⟨aA (aA (aA (aA aH 0 (.ref (kT p0))) 1 (dI p1)) 5 (dB v12)) 6 (dI s7.2),lk3 []⟩ ?_ ?_
 refine au 9 ?_
 obtain ⟨v8,hv8,h3⟩:=bnd h3
 refine tP rfl (bS tok hv8 rfl rfl rfl rfl rfl rfl) (au 2 ?_)
 obtain ⟨hq9,h3⟩:=aT h3
 refine tP rfl (eW rfl rfl hq9) (au 5 ?_)
 obtain ⟨v10,hv10,h3⟩:=bnd h3
 refine tP rfl (bS tok hv10 rfl rfl rfl rfl rfl rfl) (au 5 ?_)
 refine aif h3 ?_ ?_ <;> intro hc h3
 refine au 6 ?_
 obtain ⟨v11,hv11,h3⟩:=bnd h3
 refine rP rfl (bS tok hv11 rfl rfl rfl rfl rfl rfl) (au 6 ?_)
 cases h3
 exact wk [0,1,2]
 refine au 3 ?_
 cases h3
 exact wk [0,1,2]
 refine au 5 ?_
 refine bD ?_
 cases h2
 refine ⟨_,rfl,?_⟩
 exact wk [0,1,2]
 refine au 2 ?_
 cases h2
 refine lpx fun e => ?_
 subst e
 refine au 2 ?_
 exact wk [0,1,2]
 refine au 5 ?_
 cases h0
 exact r0t 4 rfl
theorem aNs {p0:aC} {p1:Int} {p2:Int} {r:Int} (h0:sE p0 p1 p2=some r):FnC Tryz.prog 234 [] [.ref (kT p0),(dI p1),(dI p2)] [] (dI r):=by
 refine fi 26 tok Tryz.func234 ?_
 unfold sE at h0
 refine au 7 ?_
 obtain ⟨v1,hv1,h0⟩:=bnd h0
 refine cll 3 (aNt hv1) (nx ?_)
 refine aiB h0 ?_ ?_ <;> intro hc h0
 refine au 6 ?_
 obtain ⟨v2,hv2,h0⟩:=bnd h0
 refine rP rfl (bS tok hv2 rfl rfl rfl rfl rfl rfl) (au 6 ?_)
 cases h0
 exact r0t 6 rfl
 refine au 7 ?_
 obtain ⟨v3,hv3,h0⟩:=bnd h0
 refine rP rfl (bS tok hv3 rfl rfl rfl rfl rfl rfl) (au 5 ?_)
 cases h0
 exact r0t 6 rfl
theorem aUa {p0:aC} {p1:aS} {r:Bool} (h0:xN p0 p1=some r):FnC Tryz.prog 170 [] [.ref (kT p0), .agg (dV p1)] [] (dB r):=by
 refine fi 30 tok Tryz.func170 ?_
 unfold xN at h0
 refine au 1 ?_
 refine bxx 3 ?_
 refine au 3 ?_
 obtain ⟨v3,h1,h0⟩:=bnd h0
 refine aN ⟨aA (aA (aA aH 0 (.ref (kT p0))) 3 (bA 3)) 19 (dB v3),lk3 [(slB 38 3 (dV p1))]⟩ ?_ ?_
 refine au 3 ?_
 obtain ⟨v1,hv1,h1⟩:=bnd h1
 refine clt 4 (aNu hv1) ?_
 refine au 2 ?_
 refine qK (u:=9) h1 rfl (fun hc h1 => ?_) (fun hc h1 => ?_)
 refine au 12 ?_
 cases h1
 exact wk [0,1,2,3]
 refine au 7 ?_
 obtain ⟨v2,hv2,h1⟩:=bnd h1
 refine aDe rfl (w1 rfl rfl rfl) rfl (kH 4 (dP hv2) rfl rfl rfl) (au 4 ?_)
 cases h1
 exact wk [0,1,2,3]
 refine aiB h0 ?_ ?_ <;> intro hc h0
 refine au 5 ?_
 cases h0
 exact r0t 4 rfl
 refine au 11 ?_
 obtain ⟨v4,hv4,h0⟩:=bnd h0
 refine clt 4 (aNs hv4) ?_
 obtain ⟨v5,hv5,h0⟩:=bnd h0
 refine clt 4 (dP hv5) ?_
 refine au 4 ?_
 cases h0
 exact r0t 4 rfl
theorem aQ7 {p0:List Int} {r:List Int} (h0:uC p0=some r):FnC Tryz.prog 171 [] [dL cI p0] [slD 2 1 cI r] (bI 0 r):=by
 refine fi 6 tok Tryz.func171 ?_
 unfold uC at h0
 refine au 4 ?_
 refine rS rfl (kR 3 tok rfl rfl rfl rfl) (pm ?_)
 obtain ⟨hq1,h0⟩:=aT h0
 refine rw1 rfl w0 rfl (fJ tok hq1 rfl rfl rfl rfl rfl rfl rfl rfl rfl rfl rfl rfl (fun _=>rfl)) (au 3 ?_)
 cases h0
 exact bV (rs:=[.tmp 2]) [3] rfl
theorem aB3 {p0:Int} {p1:Int} {r:Int} (h0:jV p0 p1=some r):FnC Tryz.prog 172 [] [dI p0,(dI p1)] [] (dI r):=by
 refine fi 10 tok Tryz.func172 ?_
 unfold jV at h0
 refine au 9 ?_
 refine aif h0 ?_ ?_ <;> intro hc h0
 refine au 6 ?_
 cases h0
 exact r0t 4 rfl
 refine au 6 ?_
 cases h0
 exact r0t 4 rfl
theorem aDf {p0:aC} {p1:List Int} {p2:aS} {p3:Int} {r:aD × Int} (h0:jO p0 p1 p2 p3=some r):FnC Tryz.prog 102 [] [.agg (aJ p0),(dL cI p1), .agg (dV p2),(dI p3)] [slD 2 1 cI r.1.Cam] (.tup [.agg (sP r.1 0),(dI r.2)]):=by
 refine fi 97 tok Tryz.func102 ?_
 unfold jO at h0
 refine au 1 ?_
 refine bxx 3 ?_
 refine bxx 4 ?_
 refine al 5 aC7 tok ?_
 refine au 4 ?_
 obtain ⟨v1,hv1,h0⟩:=bnd h0
 refine rS rfl (fG 6 (aG9 hv1) rfl rfl) (au 7 ?_)
 refine aif h0 ?_ ?_ <;> intro hc h0
 refine au 1 ?_
 refine rpb tok aC7 ?_
 refine au 4 ?_
 refine wa 6 2 1 5 0 ?_
 refine au 2 ?_
 cases h0
 exact bV (rs:=[.cell 8 40, .tmp 9]) [6] rfl
 refine au 2 ?_
 obtain ⟨v4,h1,h0⟩:=bnd h0
 refine aN ⟨aA (aA (aA (aA (aA (aA aH 1 (dL cI p1)) 3 (dI p3)) 4 (bA 3)) 6 (bA 4)) 8 (bA 5)) 30 (dB v4),lk3 [(slB 33 4 (aJ p0)),(slB 38 3 (dV p2)),slB 40 7 aC7]⟩ ?_ ?_
 refine au 2 ?_
 obtain ⟨v2,hv2,h1⟩:=bnd h1
 refine rS rfl (fG 6 (aUa hv2) rfl rfl) (au 2 ?_)
 refine riB 24 h1 ?_ ?_ <;> intro hc h1
 refine au 7 ?_
 cases h1
 exact wk [0,1,2,3,4,5]
 refine au 3 ?_
 obtain ⟨v3,hv3,h1⟩:=bnd h1
 refine cl1 6 (dP hv3) ?_
 refine au 3 ?_
 cases h1
 exact wk [0,1,2,3,4,5]
 refine aiB h0 ?_ ?_ <;> intro hc h0
 refine au 1 ?_
 refine rpb tok aC7 ?_
 refine au 3 ?_
 refine wa 6 2 1 5 0 ?_
 refine au 2 ?_
 cases h0
 exact bV (rs:=[.cell 8 40, .tmp 9]) [6] rfl
 refine au 8 ?_
 refine tdr [0,2,3,4,5,6,7,1,8,9,10] follows (au 7 ?_)
 obtain ⟨v5,hv5,h0⟩:=bnd h0
 refine clt 7 (aQ7 hv5) ?_
 refine tP rfl (pbl (C0:=aC7) tok rfl rfl rfl) (aDz rfl w0 rfl rfl (fun hx hk=>gH 6 (cs:=aC7) tok rfl rfl hk) (au 10 ?_))
 obtain ⟨hq6,h0⟩:=aT h0
 refine tP rfl (lI rfl rfl hq6) ?_
 obtain ⟨hq7,h0⟩:=aT h0
 refine tP rfl (eW rfl rfl hq7) (au 10 ?_)
 obtain ⟨v14,h1,h0⟩:=bnd h0
 refine aN ⟨aA (aA (aA aH 4 (bA 3)) 8 (bA 4)) 12 (bA 5),lk3 [(slB 33 4 (aJ p0)),slB 40 7 aC7,(slB 40 7 [bI 6 v5,(dI (p0.Months.length:Int)),(dI v14),(dI (w64 ((w64 ((w64 ((p2.Year.tmod (w64 ((p1.length:Int).tdiv (p0.Months.length:Int))))*(p0.Months.length:Int)))+p2.Month))-1))),(dI p2.Day),(dI p0.Week),(dI p3)]),slD 2 1 cI v5]⟩ ?_ ?_
 refine au 4 ?_
 refine aK (fun s11=>⟨aA (aA (aA (aA (aA aH 1 (dL cI p1)) 4 (bA 3)) 8 (bA 4)) 12 (bA 5)) 13 (dI s11.1),lk3 [(slB 33 4 (aJ p0)),slB 40 7 aC7,(slB 40 7 [bI 6 v5,(dI (p0.Months.length:Int)),(dI s11.2),(dI (w64 ((w64 ((w64 ((p2.Year.tmod (w64 ((p1.length:Int).tdiv (p0.Months.length:Int))))*(p0.Months.length:Int)))+p2.Month))-1))),(dI p2.Day),(dI p0.Week),(dI p3)]),slD 2 1 cI v5]⟩) h1 ?_ (fun s11 y h2 => ?_)
 exact wk [0,1,2,3,5,6,7]
 refine au 7 ?_
 refine aif h2 ?_ ?_ <;> intro hc h2
 refine au 8 ?_
 obtain ⟨v12,hv12,h2⟩:=bnd h2
 refine tP rfl (bS tok hv12 rfl rfl rfl rfl rfl rfl) (au 1 ?_)
 obtain ⟨v13,hv13,h2⟩:=bnd h2
 refine clt 7 (aB3 hv13) ?_
 refine au 10 ?_
 refine bD ?_
 cases h2
 refine ⟨_,rfl,?_⟩
 exact wk (.range 7)
 refine au 2 ?_
 cases h2
 refine lpx fun e => ?_
 subst e
 refine au 2 ?_
 exact wk (.range 7)
 obtain ⟨v25,h1,h0⟩:=bnd h0
 refine aN ⟨aA (aA aH 8 (bA 3)) 12 (bA 4),lk3 [(slB 40 7 aC7),(slB 40 7 [bI 5 v5,(dI (p0.Months.length:Int)),(dI v25),(dI (w64 ((w64 ((w64 ((p2.Year.tmod (w64 ((p1.length:Int).tdiv (p0.Months.length:Int))))*(p0.Months.length:Int)))+p2.Month))-1))),(dI p2.Day),(dI p0.Week),(dI p3)]),slD 2 1 cI v5]⟩ ?_ ?_
 refine au 4 ?_
 refine aK (fun s20=>⟨aA (aA (aA (aA aH 4 (bA 3)) 8 (bA 4)) 12 (bA 5)) 14 (dI s20.1),lk3 [(slB 33 4 (aJ p0)),slB 40 7 aC7,(slB 40 7 [bI 6 v5,(dI (p0.Months.length:Int)),(dI s20.2),(dI (w64 ((w64 ((w64 ((p2.Year.tmod (w64 ((p1.length:Int).tdiv (p0.Months.length:Int))))*(p0.Months.length:Int)))+p2.Month))-1))),(dI p2.Day),(dI p0.Week),(dI p3)]),slD 2 1 cI v5]⟩) h1 ?_ (fun s20 y h2 => ?_)
 exact wk (.range 7)
 refine au 8 ?_
 refine aif h2 ?_ ?_ <;> intro hc h2
 refine au 9 ?_
 obtain ⟨v21,hv21,h2⟩:=bnd h2
 refine tP rfl (bS tok hv21 rfl rfl rfl rfl rfl rfl) (au 5 ?_)
 obtain ⟨v22,hv22,h2⟩:=bnd h2
 refine tP rfl (bS tok hv22 rfl rfl rfl rfl rfl rfl) (au 2 ?_)
 obtain ⟨v23,hv23,h2⟩:=bnd h2
 refine clt 7 (aB3 hv23) ?_
 obtain ⟨v24,hv24,h2⟩:=bnd h2
 refine clt 7 (aB3 hv24) ?_
 refine au 10 ?_
 refine bD ?_
 cases h2
 refine ⟨_,rfl,?_⟩
 exact wk (.range 7)
 refine au 2 ?_
 cases h2
 refine lpx fun e => ?_
 subst e
 refine au 2 ?_
 exact wk [0,1,2,4,5,6]
 refine au 6 ?_
 cases h0
 exact bV (rs:=[.cell 8 40, .tmp 9]) [5] rfl
theorem aNv {p0:aG} {p1:aS} {p2:Int} {r:aD × Int} (h0:vT p0 p1 p2=some r):FnC Tryz.prog 47 [] [.ref (hP p0), .agg (dV p1),(dI p2)] [slD 2 1 cI r.1.Cam] (.tup [.agg (sP r.1 0),(dI r.2)]):=by
 refine fi 21 tok Tryz.func47 ?_
 unfold vT at h0
 refine au 1 ?_
 refine bxx 3 ?_
 refine al 4 aC7 tok ?_
 refine au 14 ?_
 obtain ⟨v1,hv1,h0⟩:=bnd h0
 refine clt 5 (aDf hv1) ?_
 refine au 7 ?_
 cases h0
 exact bV (rs:=[.cell 6 40, .tmp 7]) [5] rfl
theorem aNm {p0:List Int} {p1:List Int} {r:Bool} (h0:rZ p0 p1=some r):FnC Tryz.prog 48 [] [dL cI p0,(dL cI p1)] [] (dB r):=by
 refine fi 26 tok Tryz.func48 ?_
 unfold rZ at h0
 refine au 11 ?_
 refine aif h0 ?_ ?_ <;> intro hc h0
 refine au 5 ?_
 cases h0
 exact r0t 4 rfl
 refine sk ?_
 obtain ⟨v7x,h1,h0⟩:=bnd h0
 refine cF v7x (fun v7=>⟨aH,lk3 []⟩) ?_ ?_
 refine au 4 ?_
 refine aK (fun s4=>⟨aA (aA (aA aH 0 (dL cI p0)) 1 (dL cI p1)) 5 (dI s4),lk3 []⟩) h1 ?_ (fun s4 y h2 => ?_)
 exact wk [0,1,2]
 refine au 7 ?_
 refine aif h2 ?_ ?_ <;> intro hc h2
 refine au 7 ?_
 obtain ⟨v5,hv5,h2⟩:=bnd h2
 refine tP rfl (bS tok hv5 rfl rfl rfl rfl rfl rfl) (au 3 ?_)
 obtain ⟨v6,hv6,h2⟩:=bnd h2
 refine tP rfl (bS tok hv6 rfl rfl rfl rfl rfl rfl) (au 4 ?_)
 refine aif h2 ?_ ?_ <;> intro hc h2
 refine au 6 ?_
 cases h2
 refine lpr fun e => ?_
 subst e
 refine au 1 ?_
 replace h0:=eO h0
 refine au 1 ?_
 cases h0
 exact r0t 4 rfl
 refine au 8 ?_
 refine bD ?_
 cases h2
 refine ⟨_,rfl,?_⟩
 exact wk [0,1,2]
 refine au 2 ?_
 cases h2
 refine lpx fun e => ?_
 subst e
 refine au 2 ?_
 refine ⟨_,rfl,?_⟩
 exact wk [0,1,2]
 rintro v7 rfl
 replace h0:=gO h0
 refine au 4 ?_
 cases h0
 exact r0t 4 rfl
theorem aUd {p0:cH} {r:Bool} (h0:xR p0=some r):FnC Tryz.prog 23 [] [.ref (bA0 p0)] [] (dB r):=by
 refine fi 90 tok Tryz.func23 ?_
 unfold xR at h0
 refine au 10 ?_
 obtain ⟨v5,h1,h0⟩:=bnd h0
 refine aN ⟨aA (aA (aA aH 0 (.ref (bA0 p0))) 3 (.ref (hP p0.Movement))) 32 (dB v5),lk3 []⟩ ?_ ?_
 refine au 2 ?_
 obtain ⟨v1,hv1,h1⟩:=bnd h1
 refine rS rfl (aGu 3 (tC (aUc hv1)) rfl rfl rfl) (au 2 ?_)
 refine riB 12 h1 ?_ ?_ <;> intro hc h1
 refine au 21 ?_
 cases h1
 refine lJ.trans_ (lZ (d:=3) (ds:=hP p0.Movement) rfl (by repeat (first | exact Pre.z _ | apply Pre.t))) ?_
 exact wk [0,1,2]
 refine bGd ?_
 obtain ⟨v2,hv2,h1⟩:=bnd h1
 refine rs rfl (w1 rfl rfl rfl) rfl (aGu 3 (tC (aJb hv2)) rfl rfl rfl) (au 4 ?_)
 refine rif 18 h1 ?_ ?_ <;> intro hc h1
 refine au 15 ?_
 cases h1
 refine lJ.trans_ (lZ (d:=3) (ds:=hP p0.Movement) rfl (by repeat (first | exact Pre.z _ | apply Pre.t))) ?_
 exact wk [0,1,2]
 refine au 4 ?_
 obtain ⟨v3,hv3,h1⟩:=bnd h1
 refine cl1 4 (dP hv3) ?_
 refine au 3 ?_
 refine riB 26 h1 ?_ ?_ <;> intro hc h1
 refine au 7 ?_
 cases h1
 refine lJ.trans_ (lZ (d:=3) (ds:=hP p0.Movement) rfl (by repeat (first | exact Pre.z _ | apply Pre.t))) ?_
 exact wk [0,1,2]
 refine au 3 ?_
 obtain ⟨v4,hv4,h1⟩:=bnd h1
 refine rs rfl (w1 rfl rfl rfl) rfl (aGu 4 (tC (aUb hv4)) rfl rfl rfl) (au 3 ?_)
 cases h1
 refine lJ.trans_ (lZ (d:=3) (ds:=hP p0.Movement) rfl (by repeat (first | exact Pre.z _ | apply Pre.t))) ?_
 exact wk [0,1,2]
 refine aiB h0 ?_ ?_ <;> intro hc h0
 refine au 5 ?_
 cases h0
 exact r0t 2 rfl
 refine au 12 ?_
 obtain ⟨v6,hv6,h0⟩:=bnd h0
 refine clt 4 (aNv hv6) ?_
 refine au 3 ?_
 refine aDz rfl w0 rfl rfl (fun hx hk=>gH 3 (cs:=aC7) tok rfl rfl hk) (au 9 ?_)
 refine aFg (u:=48) h0 rfl (fun hc h0 => ?_) (fun hc h0 => ?_)
 refine au 9 ?_
 obtain ⟨v7,hv7,h0⟩:=bnd h0
 refine aDe rfl (w1 rfl rfl rfl) rfl (kH 5 (aNm hv7) rfl rfl rfl) (au 2 ?_)
 refine qK (u:=60) h0 rfl (fun hc h0 => ?_) (fun hc h0 => ?_)
 refine au 10 ?_
 refine aFg (u:=70) h0 rfl (fun hc h0 => ?_) (fun hc h0 => ?_)
 refine au 10 ?_
 refine aFg (u:=80) h0 rfl (fun hc h0 => ?_) (fun hc h0 => ?_)
 refine au 13 ?_
 cases h0
 exact r0t 2 rfl
 refine au 13 ?_
 cases h0
 exact r0t 2 rfl
 refine au 23 ?_
 cases h0
 exact r0t 2 rfl
 refine au 33 ?_
 cases h0
 exact r0t 2 rfl
 refine au 45 ?_
 cases h0
 exact r0t 2 rfl
theorem aI2 {p0:jE} {r:Bool} (h0:qQ p0=some r):FnC Tryz.prog 8 [] [.agg (lH p0.Sim)] [] (dB r):=by
 refine fi 5 tok Tryz.func8 ?_
 unfold qQ at h0
 refine au 1 ?_
 refine bxx 3 ?_
 refine au 4 ?_
 obtain ⟨v1,hv1,h0⟩:=bnd h0
 refine rS rfl (fG 4 (aUd hv1) rfl rfl) (au 3 ?_)
 cases h0
 exact r0t 2 rfl
theorem nY {p0:ByteArray} {p1:ByteArray} {r:Bool} (h0:dT p0 p1=some r):FnC Tryz.prog 115 [] [dS p0,(dS p1)] [] (dB r):=by
 refine fi 21 tok Tryz.func115 ?_
 unfold dT at h0
 refine au 10 ?_
 refine rif 10 h0 ?_ ?_ <;> intro hc h0
 refine au 6 ?_
 obtain ⟨hq1,h0⟩:=aT h0
 refine rp rfl (w1 rfl rfl rfl) rfl (aB1 tok hq1 rfl (.inr ⟨_,_,rfl,rfl⟩) (.inl ⟨rfl,rfl⟩) rfl rfl) (au 6 ?_)
 cases h0
 exact r0t 4 rfl
 refine au 13 ?_
 cases h0
 exact r0t 4 rfl
theorem nL {p0:ByteArray} {p1:ByteArray} {r:ByteArray} (h0:dO p0 p1=some r):FnC Tryz.prog 57 [] [dS p0,(dS p1)] [] (dS r):=by
 refine fi 16 tok Tryz.func57 ?_
 unfold dO at h0
 refine au 7 ?_
 obtain ⟨v1,hv1,h0⟩:=bnd h0
 refine cll 3 (nY hv1) (nx ?_)
 refine aiB h0 ?_ ?_ <;> intro hc h0
 refine au 7 ?_
 obtain ⟨hq2,h0⟩:=aT h0
 refine rP rfl (aB1 tok hq2 rfl (.inl ⟨rfl,rfl⟩) (.inr ⟨_,_,rfl,rfl⟩) rfl rfl) (au 4 ?_)
 cases h0
 exact r0t 4 rfl
 refine au 6 ?_
 cases h0
 exact r0t 4 rfl
theorem yI {p0:ByteArray} {p1:ByteArray} {r:ByteArray} (h0:eF p0 p1=some r):FnC Tryz.prog 27 [] [dS p0,(dS p1)] [] (dS r):=by
 refine fi 8 tok Tryz.func27 ?_
 unfold eF at h0
 refine au 6 ?_
 obtain ⟨v1,hv1,h0⟩:=bnd h0
 refine cll 3 (nL hv1) ?_
 refine au 3 ?_
 cases h0
 exact r0t 4 rfl
theorem aMe {p0:ByteArray} {r:ByteArray} (h0:rF p0=some r):FnC Tryz.prog 10 [] [dS p0] [] (dS r):=by
 refine fi 50 tok Tryz.func10 ?_
 unfold rF at h0
 refine au 8 ?_
 refine aif h0 ?_ ?_ <;> intro hc h0
 refine au 5 ?_
 cases h0
 exact r0t 2 rfl
 refine au 2 ?_
 refine rS rfl (aX9 3 5 tok rfl rfl rfl) (au 2 ?_)
 obtain ⟨v1,hv1,h0⟩:=bnd h0
 refine cll 4 (aEo hv1) ?_
 refine al 11 fX tok ?_
 refine au 2 ?_
 obtain ⟨v32,h1,h0⟩:=bnd h0
 refine aN ⟨aA aH 3 (bA 3),lk3 [yG 71 5 3 v32]⟩ ?_ ?_
 refine au 2 ?_
 obtain ⟨v2,hv2,h1⟩:=bnd h1
 refine cll 12 (yI hv2) ?_
 obtain ⟨v3,hv3,h1⟩:=bnd h1
 refine cll 12 (sK hv3) ?_
 refine au 4 ?_
 refine aK (fun s18=>⟨aA (aA (aA (aA (aA aH 3 (bA 3)) 4 (bA 4)) 17 (bI 5 v3)) 18 (dI (v3.length:Int))) 19 (dI s18.1),lk3 [yG 71 5 3 s18.2.1,(slB 44 26 [dS s18.2.2.1,bI 6 s18.2.2.2.2.2.2.2.2.2.2.2.2.2.2.2.2.2.2.2.2.1,bI 7 s18.2.2.2.2.2.2.2.2.2.2.2.2.2.2.2.2.2.2.2.2.2.1,(dI s18.2.2.2.1),(dI s18.2.2.2.2.1),(dI s18.2.2.2.2.2.1),(dI s18.2.2.2.2.2.2.1),(dI s18.2.2.2.2.2.2.2.1),(dS s18.2.2.2.2.2.2.2.2.1),bI 8 s18.2.2.2.2.2.2.2.2.2.2.2.2.2.2.2.2.2.2.2.2.2.2.1,bI 9 s18.2.2.2.2.2.2.2.2.2.2.2.2.2.2.2.2.2.2.2.2.2.2.2.1,(dI s18.2.2.2.2.2.2.2.2.2.1),bI 10 s18.2.2.2.2.2.2.2.2.2.2.2.2.2.2.2.2.2.2.2.2.2.2.2.2.1,(dI s18.2.2.2.2.2.2.2.2.2.2.1),(dI s18.2.2.2.2.2.2.2.2.2.2.2.1.Year),(dI s18.2.2.2.2.2.2.2.2.2.2.2.1.Month),(dI s18.2.2.2.2.2.2.2.2.2.2.2.1.Day),(dI s18.2.2.2.2.2.2.2.2.2.2.2.2.1),(dI s18.2.2.2.2.2.2.2.2.2.2.2.2.2.1),bI 11 s18.2.2.2.2.2.2.2.2.2.2.2.2.2.2.2.2.2.2.2.2.2.2.2.2.2,(dI s18.2.2.2.2.2.2.2.2.2.2.2.2.2.2.1),(dI s18.2.2.2.2.2.2.2.2.2.2.2.2.2.2.2.1),(dI s18.2.2.2.2.2.2.2.2.2.2.2.2.2.2.2.2.1),(dI s18.2.2.2.2.2.2.2.2.2.2.2.2.2.2.2.2.2.1),(dI s18.2.2.2.2.2.2.2.2.2.2.2.2.2.2.2.2.2.2.1),(dI s18.2.2.2.2.2.2.2.2.2.2.2.2.2.2.2.2.2.2.2.1)]),slD 9 1 cS v3,slN 117 2 12 aF s18.2.2.2.2.2.2.2.2.2.2.2.2.2.2.2.2.2.2.2.2.1,slD 147 4 bH s18.2.2.2.2.2.2.2.2.2.2.2.2.2.2.2.2.2.2.2.2.2.1,slD 127 3 aW s18.2.2.2.2.2.2.2.2.2.2.2.2.2.2.2.2.2.2.2.2.2.2.1,slD 129 3 aM s18.2.2.2.2.2.2.2.2.2.2.2.2.2.2.2.2.2.2.2.2.2.2.2.1,slD 2 1 cI s18.2.2.2.2.2.2.2.2.2.2.2.2.2.2.2.2.2.2.2.2.2.2.2.2.1,slD 2 1 cI s18.2.2.2.2.2.2.2.2.2.2.2.2.2.2.2.2.2.2.2.2.2.2.2.2.2,slF 2 1 aF s18.2.2.2.2.2.2.2.2.2.2.2.2.2.2.2.2.2.2.2.2.1]⟩) h1 ?_ (fun s18 y h2 => ?_)
 exact wk [0,1,2,3,11,12,4,6,7,8,9,10,5]
 refine au 4 ?_
 refine aif h2 ?_ ?_ <;> intro hc h2
 refine sk ?_
 obtain ⟨v31x,h3,h2⟩:=bnd h2
 refine cF v31x (fun v31=>⟨aA (aA (aA (aA (aA aH 3 (bA 3)) 4 (bA 4)) 17 (bI 5 v3)) 18 (dI (v3.length:Int))) 19 (dI s18.1),lk3 [yG 71 5 3 v31.1,(slB 44 26 [dS v31.2.1,bI 6 v31.2.2.2.2.2.2.2.2.2.2.2.2.2.2.2.2.2.2.2.1,bI 7 v31.2.2.2.2.2.2.2.2.2.2.2.2.2.2.2.2.2.2.2.2.1,(dI v31.2.2.1),(dI v31.2.2.2.1),(dI v31.2.2.2.2.1),(dI v31.2.2.2.2.2.1),(dI v31.2.2.2.2.2.2.1),(dS v31.2.2.2.2.2.2.2.1),bI 8 v31.2.2.2.2.2.2.2.2.2.2.2.2.2.2.2.2.2.2.2.2.2.1,bI 9 v31.2.2.2.2.2.2.2.2.2.2.2.2.2.2.2.2.2.2.2.2.2.2.1,(dI v31.2.2.2.2.2.2.2.2.1),bI 10 v31.2.2.2.2.2.2.2.2.2.2.2.2.2.2.2.2.2.2.2.2.2.2.2.1,(dI v31.2.2.2.2.2.2.2.2.2.1),(dI v31.2.2.2.2.2.2.2.2.2.2.1.Year),(dI v31.2.2.2.2.2.2.2.2.2.2.1.Month),(dI v31.2.2.2.2.2.2.2.2.2.2.1.Day),(dI v31.2.2.2.2.2.2.2.2.2.2.2.1),(dI v31.2.2.2.2.2.2.2.2.2.2.2.2.1),bI 11 v31.2.2.2.2.2.2.2.2.2.2.2.2.2.2.2.2.2.2.2.2.2.2.2.2,(dI v31.2.2.2.2.2.2.2.2.2.2.2.2.2.1),(dI v31.2.2.2.2.2.2.2.2.2.2.2.2.2.2.1),(dI v31.2.2.2.2.2.2.2.2.2.2.2.2.2.2.2.1),(dI v31.2.2.2.2.2.2.2.2.2.2.2.2.2.2.2.2.1),(dI v31.2.2.2.2.2.2.2.2.2.2.2.2.2.2.2.2.2.1),(dI v31.2.2.2.2.2.2.2.2.2.2.2.2.2.2.2.2.2.2.1)]),slD 9 1 cS v3,slN 117 2 12 aF v31.2.2.2.2.2.2.2.2.2.2.2.2.2.2.2.2.2.2.2.1,slD 147 4 bH v31.2.2.2.2.2.2.2.2.2.2.2.2.2.2.2.2.2.2.2.2.1,slD 127 3 aW v31.2.2.2.2.2.2.2.2.2.2.2.2.2.2.2.2.2.2.2.2.2.1,slD 129 3 aM v31.2.2.2.2.2.2.2.2.2.2.2.2.2.2.2.2.2.2.2.2.2.2.1,slD 2 1 cI v31.2.2.2.2.2.2.2.2.2.2.2.2.2.2.2.2.2.2.2.2.2.2.2.1,slD 2 1 cI v31.2.2.2.2.2.2.2.2.2.2.2.2.2.2.2.2.2.2.2.2.2.2.2.2,slF 2 1 aF v31.2.2.2.2.2.2.2.2.2.2.2.2.2.2.2.2.2.2.2.1]⟩) ?_ ?_
 refine au 3 ?_
 obtain ⟨v19,hv19,h3⟩:=bnd h3
 refine rL rfl (eV tok hv19 rfl rfl rfl rfl rfl rfl rfl rfl) (rL rfl (gI tok (eE hv19).2.1 rfl rfl rfl rfl rfl rfl) (au 8 ?_))
 refine aif h3 ?_ ?_ <;> intro hc h3
 refine au 1 ?_
 obtain ⟨hq20,h3⟩:=aT h3
 refine rw1 rfl w0 rfl (bCp hq20 rfl rfl rfl) (au 3 ?_)
 refine aHo rfl ?_
 cases h3
 replace h2:=eO h2
 refine au 1 ?_
 cases h2
 refine lpx fun e => ?_
 subst e
 refine au 2 ?_
 exact wk [0,1,2,3]
 refine au 4 ?_
 obtain ⟨v21,hv21,h3⟩:=bnd h3
 refine rS rfl (fG 13 (wT hv21) rfl rfl) (au 4 ?_)
 refine al 21 fX tok ?_
 refine au 9 ?_
 refine aif h3 ?_ ?_ <;> intro hc h3
 refine au 1 ?_
 obtain ⟨hq22,h3⟩:=aT h3
 refine rw1 rfl w0 rfl (bCp hq22 rfl rfl rfl) (au 5 ?_)
 cases h3
 refine ⟨_,rfl,?_⟩
 exact wk (.range 13)
 refine au 11 ?_
 refine aK (fun s27=>⟨aA (aA (aA (aA (aA (aA (aA (aA aH 3 (bA 3)) 4 (bA 4)) 17 (bI 5 v3)) 18 (dI (v3.length:Int))) 19 (dI s18.1)) 38 (bI 6 v21.2.1)) 39 (dI (v21.2.1.length:Int))) 40 (dI s27.1),lk3 [yG 71 5 3 s27.2,(slB 44 26 (kG v21.1.Sim 7 8 9 10 11 12)),slD 9 1 cS v3,slD 9 1 cS v21.2.1,slN 117 2 13 aF v21.1.Sim.Movement.Works.Arbors,slD 147 4 bH v21.1.Sim.Movement.Works.Meshes,slD 127 3 aW v21.1.Sim.Movement.Calendar.Months,slD 129 3 aM v21.1.Sim.Movement.Calendar.Rules,slD 2 1 cI v21.1.Sim.Movement.Cam,slD 2 1 cI v21.1.Sim.Dial.Cam,slF 2 1 aF v21.1.Sim.Movement.Works.Arbors]⟩) h3 ?_ (fun s27 y h4 => ?_)
 exact wk [0,1,2,3,4,5,20,13,15,16,17,18,19,14]
 refine au 4 ?_
 refine aif h4 ?_ ?_ <;> intro hc h4
 refine au 4 ?_
 obtain ⟨v28,hv28,h4⟩:=bnd h4
 refine rL rfl (eV tok hv28 rfl rfl rfl rfl rfl rfl rfl rfl) (rL rfl (gI tok (eE hv28).2.1 rfl rfl rfl rfl rfl rfl) (au 4 ?_))
 obtain ⟨hq29,h4⟩:=aT h4
 refine rP rfl (dK rfl rfl hq29) ?_
 obtain ⟨hq30,h4⟩:=aT h4
 refine rw1 rfl w0 rfl (bCp hq30 rfl rfl rfl) (au 7 ?_)
 refine bD ?_
 cases h4
 refine ⟨_,rfl,?_⟩
 exact wk (.range 14)
 refine au 2 ?_
 cases h4
 refine lpx fun e => ?_
 subst e
 refine au 3 ?_
 refine ⟨_,rfl,?_⟩
 exact wk [0,1,2,3,4,5,7,8,9,10,11,12,13]
 rintro v31 rfl
 replace h2:=gO h2
 refine au 4 ?_
 refine bD ?_
 cases h2
 refine ⟨_,rfl,?_⟩
 exact wk (.range 13)
 refine au 2 ?_
 cases h2
 refine lpx fun e => ?_
 subst e
 refine au 2 ?_
 exact wk [0,1,2,3]
 refine au 1 ?_
 refine rw1 rfl w0 rfl (bA1 rfl rfl rfl) (au 3 ?_)
 cases h0
 exact r0t 2 rfl
theorem aIg {p0:List Int} {r:Bool} (h0:nM p0=some r):FnC Tryz.prog 3 [] [dL cU8 p0] [] (dB r):=by
 refine fi 79 tok Tryz.func3 ?_
 unfold nM at h0
 refine au 6 ?_
 obtain ⟨v1,hv1,h0⟩:=bnd h0
 refine cll 3 (aKe hv1) (nx ?_)
 refine aiB h0 ?_ ?_ <;> intro hc h0
 refine au 5 ?_
 cases h0
 exact r0t 2 rfl
 refine au 3 ?_
 obtain ⟨v2,hv2,h0⟩:=bnd h0
 refine cll 3 (aNk hv2) ?_
 refine au 3 ?_
 obtain ⟨v3,hv3,h0⟩:=bnd h0
 refine cll 4 (aEo hv3) ?_
 refine al 11 fX tok ?_
 refine au 8 ?_
 obtain ⟨v44x,h1,h0⟩:=bnd h0
 refine cF v44x (fun v44=>⟨aA (aA aH 5 (dS v44.1)) 6 (dS v44.2),lk3 []⟩) ?_ ?_
 refine au 4 ?_
 refine aK (fun s24=>⟨aA (aA (aA (aA (aA aH 3 (bI 3 v2)) 4 (bA 4)) 5 (dS s24.1)) 6 (dS s24.2.1)) 7 (dI s24.2.2.1),lk3 [(slD 9 1 cS v2),(slB 44 26 [dS s24.2.2.2.1,bI 5 s24.2.2.2.2.2.2.2.2.2.2.2.2.2.2.2.2.2.2.2.2.2.1,bI 6 s24.2.2.2.2.2.2.2.2.2.2.2.2.2.2.2.2.2.2.2.2.2.2.1,(dI s24.2.2.2.2.1),(dI s24.2.2.2.2.2.1),(dI s24.2.2.2.2.2.2.1),(dI s24.2.2.2.2.2.2.2.1),(dI s24.2.2.2.2.2.2.2.2.1),(dS s24.2.2.2.2.2.2.2.2.2.1),bI 7 s24.2.2.2.2.2.2.2.2.2.2.2.2.2.2.2.2.2.2.2.2.2.2.2.1,bI 8 s24.2.2.2.2.2.2.2.2.2.2.2.2.2.2.2.2.2.2.2.2.2.2.2.2.1,(dI s24.2.2.2.2.2.2.2.2.2.2.1),bI 9 s24.2.2.2.2.2.2.2.2.2.2.2.2.2.2.2.2.2.2.2.2.2.2.2.2.2.1,(dI s24.2.2.2.2.2.2.2.2.2.2.2.1),(dI s24.2.2.2.2.2.2.2.2.2.2.2.2.1.Year),(dI s24.2.2.2.2.2.2.2.2.2.2.2.2.1.Month),(dI s24.2.2.2.2.2.2.2.2.2.2.2.2.1.Day),(dI s24.2.2.2.2.2.2.2.2.2.2.2.2.2.1),(dI s24.2.2.2.2.2.2.2.2.2.2.2.2.2.2.1),bI 10 s24.2.2.2.2.2.2.2.2.2.2.2.2.2.2.2.2.2.2.2.2.2.2.2.2.2.2,(dI s24.2.2.2.2.2.2.2.2.2.2.2.2.2.2.2.1),(dI s24.2.2.2.2.2.2.2.2.2.2.2.2.2.2.2.2.1),(dI s24.2.2.2.2.2.2.2.2.2.2.2.2.2.2.2.2.2.1),(dI s24.2.2.2.2.2.2.2.2.2.2.2.2.2.2.2.2.2.2.1),(dI s24.2.2.2.2.2.2.2.2.2.2.2.2.2.2.2.2.2.2.2.1),(dI s24.2.2.2.2.2.2.2.2.2.2.2.2.2.2.2.2.2.2.2.2.1)]),slN 117 2 11 aF s24.2.2.2.2.2.2.2.2.2.2.2.2.2.2.2.2.2.2.2.2.2.1,slD 147 4 bH s24.2.2.2.2.2.2.2.2.2.2.2.2.2.2.2.2.2.2.2.2.2.2.1,slD 127 3 aW s24.2.2.2.2.2.2.2.2.2.2.2.2.2.2.2.2.2.2.2.2.2.2.2.1,slD 129 3 aM s24.2.2.2.2.2.2.2.2.2.2.2.2.2.2.2.2.2.2.2.2.2.2.2.2.1,slD 2 1 cI s24.2.2.2.2.2.2.2.2.2.2.2.2.2.2.2.2.2.2.2.2.2.2.2.2.2.1,slD 2 1 cI s24.2.2.2.2.2.2.2.2.2.2.2.2.2.2.2.2.2.2.2.2.2.2.2.2.2.2,slF 2 1 aF s24.2.2.2.2.2.2.2.2.2.2.2.2.2.2.2.2.2.2.2.2.2.1]⟩) h1 ?_ (fun s24 y h2 => ?_)
 exact wk [0,1,2,3,11,4,6,7,8,9,10,5]
 refine au 7 ?_
 refine aif h2 ?_ ?_ <;> intro hc h2
 refine sk ?_
 obtain ⟨v43x,h3,h2⟩:=bnd h2
 refine cF v43x (fun v43=>⟨aA (aA (aA (aA (aA aH 3 (bI 3 v2)) 4 (bA 4)) 5 (dS v43.1)) 6 (dS v43.2.1)) 7 (dI s24.2.2.1),lk3 [(slD 9 1 cS v2),(slB 44 26 [dS v43.2.2.1,bI 5 v43.2.2.2.2.2.2.2.2.2.2.2.2.2.2.2.2.2.2.2.2.1,bI 6 v43.2.2.2.2.2.2.2.2.2.2.2.2.2.2.2.2.2.2.2.2.2.1,(dI v43.2.2.2.1),(dI v43.2.2.2.2.1),(dI v43.2.2.2.2.2.1),(dI v43.2.2.2.2.2.2.1),(dI v43.2.2.2.2.2.2.2.1),(dS v43.2.2.2.2.2.2.2.2.1),bI 7 v43.2.2.2.2.2.2.2.2.2.2.2.2.2.2.2.2.2.2.2.2.2.2.1,bI 8 v43.2.2.2.2.2.2.2.2.2.2.2.2.2.2.2.2.2.2.2.2.2.2.2.1,(dI v43.2.2.2.2.2.2.2.2.2.1),bI 9 v43.2.2.2.2.2.2.2.2.2.2.2.2.2.2.2.2.2.2.2.2.2.2.2.2.1,(dI v43.2.2.2.2.2.2.2.2.2.2.1),(dI v43.2.2.2.2.2.2.2.2.2.2.2.1.Year),(dI v43.2.2.2.2.2.2.2.2.2.2.2.1.Month),(dI v43.2.2.2.2.2.2.2.2.2.2.2.1.Day),(dI v43.2.2.2.2.2.2.2.2.2.2.2.2.1),(dI v43.2.2.2.2.2.2.2.2.2.2.2.2.2.1),bI 10 v43.2.2.2.2.2.2.2.2.2.2.2.2.2.2.2.2.2.2.2.2.2.2.2.2.2,(dI v43.2.2.2.2.2.2.2.2.2.2.2.2.2.2.1),(dI v43.2.2.2.2.2.2.2.2.2.2.2.2.2.2.2.1),(dI v43.2.2.2.2.2.2.2.2.2.2.2.2.2.2.2.2.1),(dI v43.2.2.2.2.2.2.2.2.2.2.2.2.2.2.2.2.2.1),(dI v43.2.2.2.2.2.2.2.2.2.2.2.2.2.2.2.2.2.2.1),(dI v43.2.2.2.2.2.2.2.2.2.2.2.2.2.2.2.2.2.2.2.1)]),slN 117 2 11 aF v43.2.2.2.2.2.2.2.2.2.2.2.2.2.2.2.2.2.2.2.2.1,slD 147 4 bH v43.2.2.2.2.2.2.2.2.2.2.2.2.2.2.2.2.2.2.2.2.2.1,slD 127 3 aW v43.2.2.2.2.2.2.2.2.2.2.2.2.2.2.2.2.2.2.2.2.2.2.1,slD 129 3 aM v43.2.2.2.2.2.2.2.2.2.2.2.2.2.2.2.2.2.2.2.2.2.2.2.1,slD 2 1 cI v43.2.2.2.2.2.2.2.2.2.2.2.2.2.2.2.2.2.2.2.2.2.2.2.2.1,slD 2 1 cI v43.2.2.2.2.2.2.2.2.2.2.2.2.2.2.2.2.2.2.2.2.2.2.2.2.2,slF 2 1 aF v43.2.2.2.2.2.2.2.2.2.2.2.2.2.2.2.2.2.2.2.2.1]⟩) ?_ ?_
 refine au 5 ?_
 obtain ⟨v25,hv25,h3⟩:=bnd h3
 refine rL rfl (eV tok hv25 rfl rfl rfl rfl rfl rfl rfl rfl) (rL rfl (gI tok (eE hv25).2.1 rfl rfl rfl rfl rfl rfl) ?_)
 obtain ⟨hq26,h3⟩:=aT h3
 refine rP rfl (dK rfl rfl hq26) ?_
 obtain ⟨hq27,h3⟩:=aT h3
 refine rP rfl (dK rfl rfl hq27) (au 7 ?_)
 obtain ⟨v28,hv28,h3⟩:=bnd h3
 refine jX rfl w0 rfl (eV tok hv28 rfl rfl rfl rfl rfl rfl rfl rfl) rfl rfl rfl (jX rfl w0 rfl (gI tok (eE hv28).2.1 rfl rfl rfl rfl rfl rfl) rfl rfl rfl ?_)
 obtain ⟨v29,hv29,h3⟩:=bnd h3
 refine aDe rfl w0 rfl (aR1 13 (wT hv29) rfl rfl) (au 4 ?_)
 refine aDz rfl w0 rfl rfl (fun hx hk=>gH 12 (cs:=fX) tok rfl rfl hk) (au 10 ?_)
 refine aif h3 ?_ ?_ <;> intro hc h3
 refine au 2 ?_
 obtain ⟨hq30,h3⟩:=aT h3
 refine rP rfl (dK rfl rfl hq30) (au 6 ?_)
 cases h3
 refine ⟨_,rfl,?_⟩
 exact wk (.range 12)
 refine au 2 ?_
 obtain ⟨v33,h4,h3⟩:=bnd h3
 refine aN ⟨aA (aA (aA (aA (aA (aA (aA (aA aH 3 (bI 3 v2)) 4 (bA 4)) 5 (dS (s24.1++(v25++(⟨#[10]⟩:ByteArray))))) 6 (dS s24.2.1)) 7 (dI s24.2.2.1)) 8 (bA 5)) 9 (bI 6 v29.2.1)) 60 (dB v33),lk3 [(slD 9 1 cS v2),(slB 44 26 [dS s24.2.2.2.1,bI 7 s24.2.2.2.2.2.2.2.2.2.2.2.2.2.2.2.2.2.2.2.2.2.1,bI 8 s24.2.2.2.2.2.2.2.2.2.2.2.2.2.2.2.2.2.2.2.2.2.2.1,(dI s24.2.2.2.2.1),(dI s24.2.2.2.2.2.1),(dI s24.2.2.2.2.2.2.1),(dI s24.2.2.2.2.2.2.2.1),(dI s24.2.2.2.2.2.2.2.2.1),(dS s24.2.2.2.2.2.2.2.2.2.1),bI 9 s24.2.2.2.2.2.2.2.2.2.2.2.2.2.2.2.2.2.2.2.2.2.2.2.1,bI 10 s24.2.2.2.2.2.2.2.2.2.2.2.2.2.2.2.2.2.2.2.2.2.2.2.2.1,(dI s24.2.2.2.2.2.2.2.2.2.2.1),bI 11 s24.2.2.2.2.2.2.2.2.2.2.2.2.2.2.2.2.2.2.2.2.2.2.2.2.2.1,(dI s24.2.2.2.2.2.2.2.2.2.2.2.1),(dI s24.2.2.2.2.2.2.2.2.2.2.2.2.1.Year),(dI s24.2.2.2.2.2.2.2.2.2.2.2.2.1.Month),(dI s24.2.2.2.2.2.2.2.2.2.2.2.2.1.Day),(dI s24.2.2.2.2.2.2.2.2.2.2.2.2.2.1),(dI s24.2.2.2.2.2.2.2.2.2.2.2.2.2.2.1),bI 12 s24.2.2.2.2.2.2.2.2.2.2.2.2.2.2.2.2.2.2.2.2.2.2.2.2.2.2,(dI s24.2.2.2.2.2.2.2.2.2.2.2.2.2.2.2.1),(dI s24.2.2.2.2.2.2.2.2.2.2.2.2.2.2.2.2.1),(dI s24.2.2.2.2.2.2.2.2.2.2.2.2.2.2.2.2.2.1),(dI s24.2.2.2.2.2.2.2.2.2.2.2.2.2.2.2.2.2.2.1),(dI s24.2.2.2.2.2.2.2.2.2.2.2.2.2.2.2.2.2.2.2.1),(dI s24.2.2.2.2.2.2.2.2.2.2.2.2.2.2.2.2.2.2.2.2.1)]),(slB 44 26 (kG v29.1.Sim 13 14 15 16 17 18)),slD 9 1 cS v29.2.1,slN 117 2 19 aF s24.2.2.2.2.2.2.2.2.2.2.2.2.2.2.2.2.2.2.2.2.2.1,slD 147 4 bH s24.2.2.2.2.2.2.2.2.2.2.2.2.2.2.2.2.2.2.2.2.2.2.1,slD 127 3 aW s24.2.2.2.2.2.2.2.2.2.2.2.2.2.2.2.2.2.2.2.2.2.2.2.1,slD 129 3 aM s24.2.2.2.2.2.2.2.2.2.2.2.2.2.2.2.2.2.2.2.2.2.2.2.2.1,slD 2 1 cI s24.2.2.2.2.2.2.2.2.2.2.2.2.2.2.2.2.2.2.2.2.2.2.2.2.2.1,slD 2 1 cI s24.2.2.2.2.2.2.2.2.2.2.2.2.2.2.2.2.2.2.2.2.2.2.2.2.2.2,slN 117 2 20 aF v29.1.Sim.Movement.Works.Arbors,slD 147 4 bH v29.1.Sim.Movement.Works.Meshes,slD 127 3 aW v29.1.Sim.Movement.Calendar.Months,slD 129 3 aM v29.1.Sim.Movement.Calendar.Rules,slD 2 1 cI v29.1.Sim.Movement.Cam,slD 2 1 cI v29.1.Sim.Dial.Cam,slF 2 1 aF s24.2.2.2.2.2.2.2.2.2.2.2.2.2.2.2.2.2.2.2.2.2.1,slF 2 1 aF v29.1.Sim.Movement.Works.Arbors]⟩ ?_ ?_
 refine au 4 ?_
 refine rif 46 h4 ?_ ?_ <;> intro hc h4
 refine au 15 ?_
 cases h4
 exact wk [0,1,2,3,4,12,20,5,6,7,8,9,10,13,15,16,17,18,19,11,14]
 refine au 1 ?_
 obtain ⟨v31,hv31,h4⟩:=bnd h4
 refine rs rfl (w1 rfl rfl rfl) rfl (fG 21 (aI2 hv31) rfl rfl) (au 3 ?_)
 refine riB 51 h4 ?_ ?_ <;> intro hc h4
 refine au 10 ?_
 cases h4
 exact wk [0,1,2,3,4,12,20,5,6,7,8,9,10,13,15,16,17,18,19,11,14]
 refine au 5 ?_
 refine rif 56 h4 ?_ ?_ <;> intro hc h4
 refine au 5 ?_
 cases h4
 exact wk [0,1,2,3,4,12,20,5,6,7,8,9,10,13,15,16,17,18,19,11,14]
 refine au 1 ?_
 obtain ⟨v32,hv32,h4⟩:=bnd h4
 refine rs rfl (w1 rfl rfl rfl) rfl (fG 21 (aCi hv32) rfl rfl) (au 3 ?_)
 cases h4
 exact wk [0,1,2,3,4,12,20,5,6,7,8,9,10,13,15,16,17,18,19,11,14]
 refine aiB h3 ?_ ?_ <;> intro hc h3
 refine au 6 ?_
 cases h3
 replace h2:=eO h2
 refine au 1 ?_
 cases h2
 refine lpr fun e => ?_
 subst e
 refine au 1 ?_
 replace h0:=eO h0
 refine au 1 ?_
 cases h0
 exact r0t 2 rfl
 refine sk ?_
 obtain ⟨v42,h4,h3⟩:=bnd h3
 refine aN ⟨aA (aA (aA (aA (aA (aA aH 3 (bI 3 v2)) 4 (bA 4)) 5 (dS (s24.1++(v25++(⟨#[10]⟩:ByteArray))))) 6 (dS v42)) 7 (dI s24.2.2.1)) 8 (bA 5),lk3 [(slD 9 1 cS v2),(slB 44 26 [dS s24.2.2.2.1,bI 6 s24.2.2.2.2.2.2.2.2.2.2.2.2.2.2.2.2.2.2.2.2.2.1,bI 7 s24.2.2.2.2.2.2.2.2.2.2.2.2.2.2.2.2.2.2.2.2.2.2.1,(dI s24.2.2.2.2.1),(dI s24.2.2.2.2.2.1),(dI s24.2.2.2.2.2.2.1),(dI s24.2.2.2.2.2.2.2.1),(dI s24.2.2.2.2.2.2.2.2.1),(dS s24.2.2.2.2.2.2.2.2.2.1),bI 8 s24.2.2.2.2.2.2.2.2.2.2.2.2.2.2.2.2.2.2.2.2.2.2.2.1,bI 9 s24.2.2.2.2.2.2.2.2.2.2.2.2.2.2.2.2.2.2.2.2.2.2.2.2.1,(dI s24.2.2.2.2.2.2.2.2.2.2.1),bI 10 s24.2.2.2.2.2.2.2.2.2.2.2.2.2.2.2.2.2.2.2.2.2.2.2.2.2.1,(dI s24.2.2.2.2.2.2.2.2.2.2.2.1),(dI s24.2.2.2.2.2.2.2.2.2.2.2.2.1.Year),(dI s24.2.2.2.2.2.2.2.2.2.2.2.2.1.Month),(dI s24.2.2.2.2.2.2.2.2.2.2.2.2.1.Day),(dI s24.2.2.2.2.2.2.2.2.2.2.2.2.2.1),(dI s24.2.2.2.2.2.2.2.2.2.2.2.2.2.2.1),bI 11 s24.2.2.2.2.2.2.2.2.2.2.2.2.2.2.2.2.2.2.2.2.2.2.2.2.2.2,(dI s24.2.2.2.2.2.2.2.2.2.2.2.2.2.2.2.1),(dI s24.2.2.2.2.2.2.2.2.2.2.2.2.2.2.2.2.1),(dI s24.2.2.2.2.2.2.2.2.2.2.2.2.2.2.2.2.2.1),(dI s24.2.2.2.2.2.2.2.2.2.2.2.2.2.2.2.2.2.2.1),(dI s24.2.2.2.2.2.2.2.2.2.2.2.2.2.2.2.2.2.2.2.1),(dI s24.2.2.2.2.2.2.2.2.2.2.2.2.2.2.2.2.2.2.2.2.1)]),(slB 44 26 (kG v29.1.Sim 12 13 14 15 16 17)),slN 117 2 18 aF s24.2.2.2.2.2.2.2.2.2.2.2.2.2.2.2.2.2.2.2.2.2.1,slD 147 4 bH s24.2.2.2.2.2.2.2.2.2.2.2.2.2.2.2.2.2.2.2.2.2.2.1,slD 127 3 aW s24.2.2.2.2.2.2.2.2.2.2.2.2.2.2.2.2.2.2.2.2.2.2.2.1,slD 129 3 aM s24.2.2.2.2.2.2.2.2.2.2.2.2.2.2.2.2.2.2.2.2.2.2.2.2.1,slD 2 1 cI s24.2.2.2.2.2.2.2.2.2.2.2.2.2.2.2.2.2.2.2.2.2.2.2.2.2.1,slD 2 1 cI s24.2.2.2.2.2.2.2.2.2.2.2.2.2.2.2.2.2.2.2.2.2.2.2.2.2.2,slN 117 2 19 aF v29.1.Sim.Movement.Works.Arbors,slD 147 4 bH v29.1.Sim.Movement.Works.Meshes,slD 127 3 aW v29.1.Sim.Movement.Calendar.Months,slD 129 3 aM v29.1.Sim.Movement.Calendar.Rules,slD 2 1 cI v29.1.Sim.Movement.Cam,slD 2 1 cI v29.1.Sim.Dial.Cam,slF 2 1 aF s24.2.2.2.2.2.2.2.2.2.2.2.2.2.2.2.2.2.2.2.2.2.1,slF 2 1 aF v29.1.Sim.Movement.Works.Arbors]⟩ ?_ ?_
 refine au 4 ?_
 refine aK (fun s38=>⟨aA (aA (aA (aA (aA (aA (aA (aA aH 3 (bI 3 v2)) 4 (bA 4)) 5 (dS (s24.1++(v25++(⟨#[10]⟩:ByteArray))))) 6 (dS s38.1)) 7 (dI s24.2.2.1)) 8 (bA 5)) 9 (bI 6 v29.2.1)) 11 (dI s38.2),lk3 [(slD 9 1 cS v2),(slB 44 26 [dS s24.2.2.2.1,bI 7 s24.2.2.2.2.2.2.2.2.2.2.2.2.2.2.2.2.2.2.2.2.2.1,bI 8 s24.2.2.2.2.2.2.2.2.2.2.2.2.2.2.2.2.2.2.2.2.2.2.1,(dI s24.2.2.2.2.1),(dI s24.2.2.2.2.2.1),(dI s24.2.2.2.2.2.2.1),(dI s24.2.2.2.2.2.2.2.1),(dI s24.2.2.2.2.2.2.2.2.1),(dS s24.2.2.2.2.2.2.2.2.2.1),bI 9 s24.2.2.2.2.2.2.2.2.2.2.2.2.2.2.2.2.2.2.2.2.2.2.2.1,bI 10 s24.2.2.2.2.2.2.2.2.2.2.2.2.2.2.2.2.2.2.2.2.2.2.2.2.1,(dI s24.2.2.2.2.2.2.2.2.2.2.1),bI 11 s24.2.2.2.2.2.2.2.2.2.2.2.2.2.2.2.2.2.2.2.2.2.2.2.2.2.1,(dI s24.2.2.2.2.2.2.2.2.2.2.2.1),(dI s24.2.2.2.2.2.2.2.2.2.2.2.2.1.Year),(dI s24.2.2.2.2.2.2.2.2.2.2.2.2.1.Month),(dI s24.2.2.2.2.2.2.2.2.2.2.2.2.1.Day),(dI s24.2.2.2.2.2.2.2.2.2.2.2.2.2.1),(dI s24.2.2.2.2.2.2.2.2.2.2.2.2.2.2.1),bI 12 s24.2.2.2.2.2.2.2.2.2.2.2.2.2.2.2.2.2.2.2.2.2.2.2.2.2.2,(dI s24.2.2.2.2.2.2.2.2.2.2.2.2.2.2.2.1),(dI s24.2.2.2.2.2.2.2.2.2.2.2.2.2.2.2.2.1),(dI s24.2.2.2.2.2.2.2.2.2.2.2.2.2.2.2.2.2.1),(dI s24.2.2.2.2.2.2.2.2.2.2.2.2.2.2.2.2.2.2.1),(dI s24.2.2.2.2.2.2.2.2.2.2.2.2.2.2.2.2.2.2.2.1),(dI s24.2.2.2.2.2.2.2.2.2.2.2.2.2.2.2.2.2.2.2.2.1)]),(slB 44 26 (kG v29.1.Sim 13 14 15 16 17 18)),slD 9 1 cS v29.2.1,slN 117 2 19 aF s24.2.2.2.2.2.2.2.2.2.2.2.2.2.2.2.2.2.2.2.2.2.1,slD 147 4 bH s24.2.2.2.2.2.2.2.2.2.2.2.2.2.2.2.2.2.2.2.2.2.2.1,slD 127 3 aW s24.2.2.2.2.2.2.2.2.2.2.2.2.2.2.2.2.2.2.2.2.2.2.2.1,slD 129 3 aM s24.2.2.2.2.2.2.2.2.2.2.2.2.2.2.2.2.2.2.2.2.2.2.2.2.1,slD 2 1 cI s24.2.2.2.2.2.2.2.2.2.2.2.2.2.2.2.2.2.2.2.2.2.2.2.2.2.1,slD 2 1 cI s24.2.2.2.2.2.2.2.2.2.2.2.2.2.2.2.2.2.2.2.2.2.2.2.2.2.2,slN 117 2 20 aF v29.1.Sim.Movement.Works.Arbors,slD 147 4 bH v29.1.Sim.Movement.Works.Meshes,slD 127 3 aW v29.1.Sim.Movement.Calendar.Months,slD 129 3 aM v29.1.Sim.Movement.Calendar.Rules,slD 2 1 cI v29.1.Sim.Movement.Cam,slD 2 1 cI v29.1.Sim.Dial.Cam,slF 2 1 aF s24.2.2.2.2.2.2.2.2.2.2.2.2.2.2.2.2.2.2.2.2.2.1,slF 2 1 aF v29.1.Sim.Movement.Works.Arbors]⟩) h4 ?_ (fun s38 y h5 => ?_)
 exact wk (.range 21)
 refine au 7 ?_
 refine aif h5 ?_ ?_ <;> intro hc h5
 refine au 7 ?_
 obtain ⟨v39,hv39,h5⟩:=bnd h5
 refine rL rfl (eV tok hv39 rfl rfl rfl rfl rfl rfl rfl rfl) (rL rfl (gI tok (eE hv39).2.1 rfl rfl rfl rfl rfl rfl) ?_)
 obtain ⟨hq40,h5⟩:=aT h5
 refine rP rfl (dK rfl rfl hq40) ?_
 obtain ⟨hq41,h5⟩:=aT h5
 refine rP rfl (dK rfl rfl hq41) (au 9 ?_)
 refine bD ?_
 cases h5
 refine ⟨_,rfl,?_⟩
 exact wk (.range 21)
 refine au 2 ?_
 cases h5
 refine lpx fun e => ?_
 subst e
 refine au 2 ?_
 exact wk [0,1,2,3,4,5,7,8,9,10,11,12,13,14,15,16,17,18,19,20]
 refine au 6 ?_
 cases h3
 refine ⟨_,rfl,?_⟩
 exact wk [0,1,2,3,4,12,13,14,15,16,17,19]
 rintro v43 rfl
 replace h2:=gO h2
 refine au 5 ?_
 refine bD ?_
 cases h2
 refine ⟨_,rfl,?_⟩
 exact wk (.range 12)
 refine au 2 ?_
 cases h2
 refine lpx fun e => ?_
 subst e
 refine au 2 ?_
 refine ⟨_,rfl,?_⟩
 exact wk [0,1,2]
 rintro v44 rfl
 replace h0:=gO h0
 refine au 2 ?_
 obtain ⟨v45,hv45,h0⟩:=bnd h0
 refine cll 3 (aMe hv45) ?_
 refine au 5 ?_
 cases h0
 exact r0t 2 rfl
end Go.Proofs.YtbliejnpjpnahaaGreatDoor
namespace Go.Proofs.YtbliejnpjpnahaaGreatDoor
set_option linter.unusedVariables false
theorem aUq (x:Int):IntKind.u64.wrap x=x % 18446744073709551616:=by
 unfold IntKind.wrap
 simp [IntKind.signed,IntKind.bits]
theorem aPu {x:Int} (h0:0≤x) (h1:x<18446744073709551616):IntKind.u64.wrap x=x:=by rw [aUq];omega
theorem aUr {x:Int} (h0 : -18446744073709551616<x) (h1:x<0):IntKind.u64.wrap (-(IntKind.u64.wrap x)) = -x:=by rw [aUq,aUq];omega
def qY (x:Int):Int:=(x.natAbs:Int)
theorem wL (x:Int):0≤qY x:=by unfold qY;omega
theorem aC0 {x:Int} (h:osI x):oR x=some (qY x):=by
 obtain ⟨h0,h1⟩:=h
 unfold oR qY
 split
 ·rw [aUr (by omega) (by omega)];congr 1;omega
 ·rw [aPu (by omega) (by omega)];congr 1;omega
theorem yQ {x:Int} (h:osI x):lC x=some (qY x):=by
 obtain ⟨h0,h1⟩:=h
 unfold lC qY
 split
 ·rw [aUr (by omega) (by omega)];congr 1;omega
 ·rw [aPu (by omega) (by omega)];congr 1;omega
theorem aOs {a b:Int}:Int.gcd b (a.tmod b)=Int.gcd a b:=by
 unfold Int.gcd
 rw [Int.natAbs_tmod,Nat.gcd_comm a.natAbs b.natAbs,Nat.gcd_comm, ← Nat.gcd_rec]
theorem aVx {step:Int × Int→Option ((Int × Int) ⊕ Int)} (hS : ∀ a b,b≠0→step (a,b)=some (.inl (b,a.tmod b))) (hE : ∀ a,step (a,0)=some (.inr a)) (a b:Int) (hb:b.natAbs≤9223372036854775808) :
  ∃ g,bQ step (a,b)=some g∧g.natAbs=Int.gcd a b∧(g=a∨g.natAbs≤b.natAbs):=by
 refine sW (fun (s:Int × Int)=>Int.gcd s.1 s.2=Int.gcd a b∧s.2.natAbs≤b.natAbs∧(s.1=a∨s.1.natAbs≤b.natAbs)) (fun (s:Int × Int)=>s.2.natAbs) (fun g=>g.natAbs=Int.gcd a b∧(g=a∨g.natAbs≤b.natAbs)) (fun s hI => ?_) (a,b) ⟨rfl,Nat.le_refl _, .inl rfl⟩ (by dsimp only;omega)
 obtain ⟨x,y⟩:=s
 obtain ⟨h1,h2,h3⟩:=hI
 dsimp only at h1 h2 h3 ⊢
 by_cases hy:y=0
 ·right
  subst hy
  exact ⟨x,hE x,by rw [← h1];simp,h3⟩
 ·left
  have hlt:(x.tmod y).natAbs<y.natAbs:=by rw [Int.natAbs_tmod];exact Nat.mod_lt _ (by omega)
  exact ⟨_,hS x y hy,⟨by rw [aOs];exact h1,by dsimp only;omega, .inr h2⟩,hlt⟩
theorem aEl {step:Int × Int→Option ((Int × Int) ⊕ Int)} (hS : ∀ a b,0≤a→0<b→step (a,b)=some (.inl (b,a.tmod b))) (hE : ∀ a,step (a,0)=some (.inr a)) {a b:Int} (ha:0≤a) (hb0:0≤b) (hb:b≤18446744073709551616) :
  bQ step (a,b)=some (Int.gcd a b:Int):=by
 obtain ⟨g,h,h1,h2⟩:=sW (step:=step) (fun (s:Int × Int)=>Int.gcd s.1 s.2=Int.gcd a b∧0≤s.1∧0≤s.2) (fun (s:Int × Int)=>s.2.natAbs) (fun g=>g.natAbs=Int.gcd a b∧0≤g) (fun s hI=>by
  obtain ⟨x,y⟩:=s
  obtain ⟨h1,h2,h3⟩:=hI
  dsimp only at h1 h2 h3 ⊢
  by_cases hy:y=0
  ·right
   subst hy
   exact ⟨x,hE x,by rw [← h1];simp,h2⟩
  ·left
   have hlt:(x.tmod y).natAbs<y.natAbs:=by rw [Int.natAbs_tmod];exact Nat.mod_lt _ (by omega)
   exact ⟨_,hS x y h2 (by omega),⟨by rw [aOs];exact h1,h3,Int.tmod_nonneg _ h2⟩,hlt⟩) (a,b) ⟨rfl,ha,hb0⟩ (by dsimp only;omega)
 rw [h];congr 1;omega
theorem aBn {n d:Int} (h:d≠0):0<Int.gcd n d:=Int.gcd_pos_of_ne_zero_right n h
theorem aRu (n d:Int):Int.gcd (qY n) (qY d)=Int.gcd n d:=by unfold qY Int.gcd;simp
theorem yU {a g:Int} (ha:0≤a) (hg:0<g):0≤a / g∧a / g≤a:=⟨Int.ediv_nonneg ha (by omega),Int.ediv_le_self _ ha⟩
def mkR (n d:Int):aB × Bool :=
 if 1000000000<qY n / (Int.gcd n d:Int)∨1000000000<qY d / (Int.gcd n d:Int) then (⟨0,0⟩,false)
 else (⟨if (decide (n<0) != decide (d<0))=true then -(qY n / (Int.gcd n d:Int)) else qY n / (Int.gcd n d:Int),qY d / (Int.gcd n d:Int)⟩,true)
theorem aKj {n d:Int} (hn:osI n) (hd:osI d) (h:d≠0) {f:Int→Option (aB × Bool)} (hf : ∀ g,f g=(chk (g≠0) (chk (g≠0) ((((if 1000000000<(IntKind.u64.wrap ((qY n).tdiv g)) then some true else some (decide (1000000000<(IntKind.u64.wrap ((qY d).tdiv g))))):Option Bool).bind fun v10=>(if v10=true then some ((⟨0,0⟩:aB),false) else (((if ((decide (n<0)) != (decide (d<0)))=true then some (⟨w64 (-(w64 (IntKind.u64.wrap ((qY n).tdiv g)))),w64 (IntKind.u64.wrap ((qY d).tdiv g))⟩:aB) else some (⟨w64 (IntKind.u64.wrap ((qY n).tdiv g)),w64 (IntKind.u64.wrap ((qY d).tdiv g))⟩:aB)):Option aB).bind fun v11=>some (v11,true)))))))) :
  f (Int.gcd n d:Int)=some (mkR n d):=by
 have hg:=aBn (n:=n) h
 have a0:=wL n
 have b0:=wL d
 have a1:qY n≤9223372036854775808:=by unfold qY;obtain ⟨_,_⟩:=hn;omega
 have b1:qY d≤9223372036854775808:=by unfold qY;obtain ⟨_,_⟩:=hd;omega
 have qa:=yU (a:=qY n) (g:=(Int.gcd n d:Int)) a0 (by omega)
 have qb:=yU (a:=qY d) (g:=(Int.gcd n d:Int)) b0 (by omega)
 rw [hf,eA (by omega),eA (by omega),Int.tdiv_eq_ediv_of_nonneg a0,Int.tdiv_eq_ediv_of_nonneg b0]
 unfold mkR
 generalize qY n / (Int.gcd n d:Int)=a at *
 generalize qY d / (Int.gcd n d:Int)=b at *
 rw [aPu qa.1 (by omega),aPu qb.1 (by omega)]
 by_cases c1:1000000000<a
 ·simp [c1]
 ·by_cases c2:1000000000<b
  ·simp [c1,c2]
  ·rw [aQ (x:=a) (by omega) (by omega),aQ (x:=b) (by omega) (by omega),aQ (x := -a) (by omega) (by omega)]
   simp only [if_neg c1,decide_eq_false c2,Option.bind_some,Bool.false_eq_true,if_false,c1,c2,or_self]
   cases (decide (n<0) != decide (d<0)) <;> simp
theorem sX {n d:Int} (hn:osI n) (hd:osI d) (h:d≠0):mF n d=some (mkR n d):=by
 unfold mF
 have b1:qY d≤9223372036854775808:=by unfold qY;obtain ⟨_,_⟩:=hd;omega
 rw [aC0 hn,Option.bind_some,aC0 hd,Option.bind_some,aEl (fun a b h0 h1=>by simp only;rw [if_pos h1,eA (by omega)]) (fun a=>by simp) (wL n) (wL d) (by omega),aRu,Option.bind_some]
 exact aKj hn hd h fun g=>rfl
theorem aKa {n d:Int} (hn:osI n) (hd:osI d) (h:d≠0):rO n d=some (mkR n d):=by
 unfold rO
 have b1:qY d≤9223372036854775808:=by unfold qY;obtain ⟨_,_⟩:=hd;omega
 rw [yQ hn,Option.bind_some,yQ hd,Option.bind_some,aEl (fun a b h0 h1=>by simp only;rw [if_pos (by omega),eA (by omega)]) (fun a=>by simp) (wL n) (wL d) (by omega),aRu,Option.bind_some]
 exact aKj hn hd h fun g=>rfl
def aEg (x:aB × Bool):aB × Int:=if x.2=true then (x.1,0) else (⟨0,0⟩,2)
def aKi (n d:Int):aB × Int:=if d=0 then (⟨0,0⟩,6) else aEg (mkR n d)
theorem oY {n d:Int} (hn:osI n) (hd:osI d):fL n d=some (aKi n d):=by
 unfold fL aKi aEg
 by_cases h:d=0
 ·rw [if_pos h,if_pos h]
 ·rw [if_neg h,if_neg h,aKa hn hd h,Option.bind_some]
  cases (mkR n d).2 <;> simp
theorem aOu {a b:Int} (ha:osI a) (ha' : -9223372036854775808<a) (hb:osI b) (hb' : -9223372036854775808<b):vD a b=some (Int.gcd a b:Int):=by
 unfold vD
 obtain ⟨a0,a1⟩:=ha
 obtain ⟨b0,b1⟩:=hb
 obtain ⟨g,h,h1,h2⟩:=aVx (step:=fun s3=>(if s3.2≠0 then (chk (s3.2≠0) (some (.inl (s3.2,s3.1.tmod s3.2)))) else some (.inr s3.1))) (fun a b h=>by simp only;rw [if_pos h,eA h]) (fun a=>by simp) a b (by omega)
 rw [h,Option.bind_some]
 split
 ·rw [aQ (by omega) (by omega)];congr 1;omega
 ·congr 1;omega
theorem aNn {a b:Int} (ha:0≤a) (hb:0≤b) (hb1:b≤18446744073709551616):uD a b=some (Int.gcd a b:Int):=by
 unfold uD
 rw [aEl (fun a b h0 h1=>by simp only;rw [if_pos (by omega),eA (by omega)]) (fun a=>by simp) ha hb hb1];rfl
theorem aK1 {a:Int} (h : -9223372036854775808<a) (h1:a≤9223372036854775807):sA a=some (qY a):=by
 unfold sA qY
 split
 ·rw [aQ (by omega) (by omega)];congr 1;omega
 ·congr 1;omega
theorem aV0 {a:Int} (h : -9223372036854775808<a) (h1:a≤9223372036854775807):wX a=some (qY a):=by
 unfold wX qY
 split
 ·rw [aQ (by omega) (by omega)];congr 1;omega
 ·congr 1;omega
def aFz (r:aB):Bool:=btw r.Den 1 1000000000 && (btw r.Num (-1000000000) 1000000000 && decide (Int.gcd r.Num r.Den=1))
theorem aDw {r:aB}:aFz r=true ↔ (1≤r.Den∧r.Den≤1000000000)∧(-1000000000≤r.Num∧r.Num≤1000000000)∧Int.gcd r.Num r.Den=1:=by
 unfold aFz btw
 simp only [Bool.and_eq_true,decide_eq_true_eq]
theorem nI (r:aB):bZ r=some (aFz r):=by
 unfold bZ aFz
 simp only [cN,Option.bind_some]
 by_cases h1:btw r.Den 1 1000000000=true
 ·by_cases h2:btw r.Num (-1000000000) 1000000000=true
  ·have g1:=of_decide_eq_true h1
   have g2:=of_decide_eq_true h2
   rw [if_pos h1,if_pos h2,aOu ⟨by omega,by omega⟩ (by omega) ⟨by omega,by omega⟩ (by omega),h1,h2]
   simp only [Option.bind_some,Bool.true_and]
   congr 1
   rw [decide_eq_decide]
   omega
  ·simp [h1,h2]
 ·simp [h1]
end Go.Proofs.YtbliejnpjpnahaaGreatDoor
namespace Go.Proofs.YtbliejnpjpnahaaGreatDoor
set_option linter.unusedVariables false
def aWa (m:aY):Bool:=tZ m.Name && (btw m.Days 1 60 && btw m.Leap 1 60)
def rX (r:aL):Bool:=btw r.Every 1 1000 && btw r.Rest 0 (r.Every-1)
def aOm (y:Int) (r:aL):Int:=if y≤2000 then y / (Int.gcd y r.Every:Int)*r.Every else y
def cyc (rs:List aL):Int:=rs.foldl aOm 1
def aKn (xs:List aY):Bool:=aLy xs fun i m=>aWa m && !((xs.take i).any fun n=>decide (n.Name=m.Name))
def sQ (c:aC):Bool:=tZ c.Name && (decide (1≤c.Months.length∧c.Months.length≤20) && (decide (c.Rules.length≤6) && (btw c.Week 1 12 && (aKn c.Months && (c.Rules.all rX && decide (cyc c.Rules≤2000))))))
theorem xK {r:aL}:rX r=true ↔ (1≤r.Every∧r.Every≤1000)∧0≤r.Rest∧r.Rest≤r.Every-1:=by
 unfold rX btw
 simp only [Bool.and_eq_true,decide_eq_true_eq]
theorem aAe {y e:Int} (y0:1≤y) (y1:y≤2000) (e0:1≤e) (e1:e≤1000):1≤y / (Int.gcd y e:Int)∧y / (Int.gcd y e:Int)≤2000∧1≤y / (Int.gcd y e:Int)*e∧y / (Int.gcd y e:Int)*e≤2000000:=by
 have hg:=aBn (n:=y) (d:=e) (by omega)
 have hd:(Int.gcd y e:Int) ∣ y:=Int.gcd_dvd_left ..
 have h1:1≤y / (Int.gcd y e:Int):=by
  have h2:(Int.gcd y e:Int)≤y:=Int.le_of_dvd (by omega) hd
  exact (Int.le_ediv_iff_mul_le (by omega)).2 (by omega)
 have h2:y / (Int.gcd y e:Int)≤y:=Int.ediv_le_self _ (by omega)
 refine ⟨h1,by omega,?_,?_⟩
 ·have:=Int.mul_le_mul h1 e0 (by omega) (by omega);omega
 ·have:=Int.mul_le_mul (show y / (Int.gcd y e:Int)≤2000 by omega) e1 (by omega) (by omega);omega
theorem aYp {y:Int} {r:aL} (y0:1≤y) (y1:y≤2000000) (h:rX r=true):1≤aOm y r∧aOm y r≤2000000:=by
 unfold aOm
 have hr:=xK.1 h
 split
 ·have:=aAe y0 (by omega) hr.1.1 hr.1.2;omega
 ·omega
theorem aVi {rs:List aL} {y:Int} (h:2000<y):rs.foldl aOm y=y:=by
 induction rs generalizing y with
 | nil=>rfl
 | cons r rs ih =>
  rw [List.foldl_cons]
  have e:aOm y r=y:=by unfold aOm;rw [if_neg (by omega)]
  rw [e];exact ih h
theorem aEt {rs:List aL} (hl:rs.length≤9223372036854775807) (h:rs.all rX=true):iF rs=some (cyc rs):=by
 unfold iF
 have hr : ∀ (i:Nat) (hi:i<rs.length),rX rs[i]=true:=fun i hi=>(List.all_eq_true.1 h) _ (List.getElem_mem hi)
 have:=aAv (xs:=rs) (step:=fun s6=>(if s6.2<(rs.length:Int) then ((((atI rs s6.2).bind fun v7=>(if s6.1≤2000 then ((vD s6.1 v7.Every).bind fun v8=>(chk (v8≠0) (some (w64 ((w64 (s6.1.tdiv v8))*v7.Every))))) else some s6.1)):Option Int).bind fun v10=>some (.inl (v10,w64 (s6.2+1)))) else some (.inr s6.1)))
  (fun i (y:Int)=>(y,i)) (fun _ r y=>some (.inl (aOm y r))) id (fun y=>1≤y∧y≤2000000) hl (fun i hi y hy=>by
   have hi':(i:Int)<rs.length:=by omega
   have e1:w64 ((i:Int)+1)=i+1:=aQ (by omega) (by omega)
   have hq:=xK.1 (hr i hi)
   simp only [if_pos hi',eL hi,Option.bind_some,e1]
   unfold aOm
   by_cases c:y≤2000
   ·have hc:=aAe hy.1 c hq.1.1 hq.1.2
    have hg:=aBn (n:=y) (d:=rs[i].Every) (by omega)
    rw [if_pos c,if_pos c,aOu ⟨by omega,by omega⟩ (by omega) ⟨by omega,by omega⟩ (by omega),Option.bind_some,eA (by omega),Int.tdiv_eq_ediv_of_nonneg (by omega),aQ (x:=y / _) (by omega) (by omega),aQ (by omega) (by omega)]
    rfl
   ·rw [if_neg c,if_neg c];rfl) (fun i hi y y' hy e=>by
   injection e with e;injection e with e;subst e
   exact aYp hy.1 hy.2 (hr i hi)) (fun y _=>by simp) 1 (by omega)
 rw [this,rD aOm (fun _ _ _=>rfl)]
 rfl
theorem aNw {X:Type} {e:X} {rs:List aL} : ∀ (k:Nat) (y:Int),1≤y→y≤2000→aSq (X:=X) (fun _ r y=>if rX r=true then (if 2000<y / (Int.gcd y r.Every:Int)*r.Every then some (.inr e) else some (.inl (y / (Int.gcd y r.Every:Int)*r.Every))) else some (.inr e)) rs k y=some (if rs.all rX=true∧rs.foldl aOm y≤2000 then .inl (rs.foldl aOm y) else .inr e):=by
 induction rs with
 | nil=>intro k y h0 h1;simp [aSq,h1]
 | cons r rs ih =>
  intro k y h0 h1
  show Option.bind (if rX r=true then _ else _) _=_
  cases hr:rX r
  ·simp [hr]
  ·have hq:=xK.1 hr
   have hc:=aAe h0 h1 hq.1.1 hq.1.2
   have e:aOm y r=y / (Int.gcd y r.Every:Int)*r.Every:=by unfold aOm;rw [if_pos h1]
   rw [if_pos rfl,List.foldl_cons,List.all_cons,hr,e,Bool.true_and]
   by_cases c:2000<y / (Int.gcd y r.Every:Int)*r.Every
   ·rw [if_pos c,Option.bind_some,aVi c,if_neg (by omega)]
   ·rw [if_neg c,Option.bind_some]
    exact ih (k+1) _ hc.2.2.1 (by omega)
theorem aJa {rs:List aL} (hl:rs.length≤9223372036854775807):pZ rs=some (if rs.all rX=true∧cyc rs≤2000 then (cyc rs,decide (rs.length≤6)) else (0,false)):=by
 unfold pZ
 rw [aAv (xs:=rs) (fun i (y:Int)=>(y,i)) (fun _ r y=>if rX r=true then (if 2000<y / (Int.gcd y r.Every:Int)*r.Every then some (.inr (.inr (0,false))) else some (.inl (y / (Int.gcd y r.Every:Int)*r.Every))) else some (.inr (.inr (0,false)))) (fun y => .inl y) (fun y=>1≤y∧y≤2000) hl (fun i hi y hy => ?_) (fun i hi y y' hy e => ?_) (fun y _=>by simp) 1 (by omega)]
 ·have e:aSq (X:=Int ⊕ (Int × Bool)) (fun _ r y=>if rX r=true then (if 2000<y / (Int.gcd y r.Every:Int)*r.Every then some (.inr (.inr (0,false))) else some (.inl (y / (Int.gcd y r.Every:Int)*r.Every))) else some (.inr (.inr (0,false)))) rs 0 1=some (if rs.all rX=true∧cyc rs≤2000 then .inl (cyc rs) else .inr (.inr (0,false))):=aNw 0 1 (by omega) (by omega)
  rw [e]
  by_cases c:rs.all rX=true∧cyc rs≤2000
  ·simp only [if_pos c]
   simp [orE]
   omega
  ·simp only [if_neg c];rfl
 ·have hi':(i:Int)<rs.length:=by omega
  have e1:w64 ((i:Int)+1)=i+1:=aQ (by omega) (by omega)
  simp only [if_pos hi',eL hi,Option.bind_some,e1,eY]
  have e2:rX rs[i]=(btw rs[i].Every 1 1000 && btw rs[i].Rest 0 (rs[i].Every-1)):=rfl
  rw [e2]
  by_cases c1:btw rs[i].Every 1 1000=true
  ·have q:=of_decide_eq_true c1
   rw [c1,aQ (x:=rs[i].Every-1) (by omega) (by omega)]
   cases btw rs[i].Rest 0 (rs[i].Every-1)
   ·rfl
   ·have hc:=aAe hy.1 hy.2 q.1 q.2
    have hg:=aBn (n:=y) (d:=rs[i].Every) (by omega)
    simp only [Bool.not_true,Bool.false_eq_true,if_false,Option.bind_some,Bool.and_self,if_true]
    rw [aNn (by omega) (by omega) (by omega),Option.bind_some,eA (by omega),Int.tdiv_eq_ediv_of_nonneg (by omega),aQ (x:=y / _) (by omega) (by omega),aQ (by omega) (by omega)]
    by_cases c:2000<y / (Int.gcd y rs[i].Every:Int)*rs[i].Every
    ·rw [if_pos c,if_pos c];rfl
    ·rw [if_neg c,if_neg c];rfl
  ·rw [Bool.not_eq_true] at c1
   rw [c1];rfl
 ·split at e
  ·rename_i hr
   have hq:=xK.1 hr
   have hc:=aAe hy.1 hy.2 hq.1.1 hq.1.2
   split at e
   ·cases e
   ·injection e with e;injection e with e;omega
  ·cases e
theorem aEw {xs:List aY} {m:aY} (hl:xs.length≤9223372036854775807):aZ xs m=some (xs.any fun n=>decide (n.Name=m.Name)):=by
 unfold aZ bT
 rw [aVr (fun n=>decide (n.Name=m.Name)) hl fun i hi=>by rw [eL hi,Option.bind_some,jF,Option.bind_some],Option.bind_some,aIu]
theorem iC {c:aC} (hm:c.Months.length≤9223372036854775807) (hr:c.Rules.length≤9223372036854775807):cY c=some (sQ c):=by
 unfold cY sQ
 simp only [zB,cN,Option.bind_some,itO]
 simp only [bGb (p:=(_:Int)<_),itO,Option.bind_some]
 by_cases h:tZ c.Name=true∧(1≤c.Months.length∧c.Months.length≤20)∧c.Rules.length≤6∧btw c.Week 1 12=true
 ·obtain ⟨h1,h2,h3,h4⟩:=h
  rw [h1,h4,decide_eq_false (show ¬ (c.Months.length:Int)<1 by omega),decide_eq_false (show ¬ 20<(c.Months.length:Int) by omega),decide_eq_false (show ¬ 6<(c.Rules.length:Int) by omega),decide_eq_true h2,decide_eq_true h3,if_neg (by decide),
   wH (e := .inr false) (fun i m=>aWa m && !((c.Months.take i).any fun n=>decide (n.Name=m.Name))) hm fun i hi => ?_,Option.bind_some,
   wH (e := .inr false) (fun _ r=>rX r) hr fun i hi => ?_,Option.bind_some,lW]
  ·by_cases h5:c.Rules.all rX=true
   ·rw [aEt hr h5,Option.bind_some,h5]
    unfold aKn
    cases aLy c.Months (fun i m=>aWa m && !((c.Months.take i).any fun n=>decide (n.Name=m.Name))) <;> rfl
   ·rw [Bool.not_eq_true] at h5
    rw [h5]
    unfold aKn
    cases aLy c.Months (fun i m=>aWa m && !((c.Months.take i).any fun n=>decide (n.Name=m.Name))) <;> rfl
  ·rw [eL hi]
   simp only [Option.bind_some]
   by_cases q:btw c.Rules[i].Every 1 1000=true
   ·have:=of_decide_eq_true q
    unfold rX
    rw [q,aQ (by omega) (by omega)]
    cases btw c.Rules[i].Rest 0 (c.Rules[i].Every-1) <;> rfl
   ·rw [Bool.not_eq_true] at q
    unfold rX
    rw [q];rfl
  ·rw [eL hi]
   simp only [Option.bind_some]
   rw [eA (aN1 (by omega)),aZ8,aEw (by rw [List.length_take];omega),Option.bind_some]
   unfold aWa
   cases tZ c.Months[i].Name <;> cases btw c.Months[i].Days 1 60 <;> cases btw c.Months[i].Leap 1 60 <;> cases ((c.Months.take i).any fun n=>decide (n.Name=c.Months[i].Name)) <;> rfl
 ·have e:(!tZ c.Name || (decide ((c.Months.length:Int)<1) || (decide (20<(c.Months.length:Int)) || (decide (6<(c.Rules.length:Int)) || !btw c.Week 1 12))))=true:=by
   simp only [Bool.or_eq_true,Bool.not_eq_true',decide_eq_true_eq]
   by_cases h1:tZ c.Name=true
   ·by_cases h2:1≤c.Months.length∧c.Months.length≤20
    ·by_cases h3:c.Rules.length≤6
     ·have h4 : ¬ btw c.Week 1 12=true:=fun h4=>h ⟨h1,h2,h3,h4⟩
      simp [h4]
     ·omega
    ·omega
   ·simp [h1]
  rw [e,if_pos rfl]
  congr 1
  symm
  rw [← Bool.not_eq_true]
  simp only [Bool.and_eq_true,decide_eq_true_eq]
  rintro ⟨h1,h2,h3,h4,_⟩
  exact h ⟨h1,h2,h3,h4⟩
theorem aGn {xs:List aY} (hl:xs.length≤9223372036854775807):nP xs=some (aKn xs && decide (1≤xs.length∧xs.length≤20)):=by
 unfold nP
 rw [wH (e := .inr false) (fun i m=>aWa m && !((xs.take i).any fun n=>decide (n.Name=m.Name))) hl fun i hi => ?_,Option.bind_some]
 ·have e:btw (xs.length:Int) 1 20=decide (1≤xs.length∧xs.length≤20):=by unfold btw;rw [decide_eq_decide];omega
  rw [eY,e]
  unfold aKn
  cases aLy xs (fun i m=>aWa m && !((xs.take i).any fun n=>decide (n.Name=m.Name))) <;> rfl
 ·simp only [eL hi,vO,eY,Option.bind_some,itO]
  rw [bB6 (xs:=xs) i (fun _ (b:aY) => !decide (b.Name=xs[i].Name)) (by omega) (by omega) fun j hj _=>by
   rw [eL hj,Option.bind_some]
   by_cases q:xs[j].Name=xs[i].Name
   ·rw [if_pos q,decide_eq_true q];rfl
   ·rw [if_neg q,decide_eq_false q];rfl,lW]
  have e:((xs.take i).all fun b => !decide (b.Name=xs[i].Name)) = !((xs.take i).any fun b=>decide (b.Name=xs[i].Name)):=by rw [Bool.eq_iff_iff];simp
  rw [e]
  unfold aWa
  cases tZ xs[i].Name <;> cases btw xs[i].Days 1 60 <;> cases btw xs[i].Leap 1 60 <;> cases ((xs.take i).any fun n=>decide (n.Name=xs[i].Name)) <;> rfl
theorem aG8 {c:aC} (hm:c.Months.length≤9223372036854775807) (hr:c.Rules.length≤9223372036854775807):uE c=some (sQ c):=by
 unfold uE sQ
 rw [aJa hr,Option.bind_some]
 simp only [vO,aGn hm,eY,Option.bind_some,itA]
 by_cases h:c.Rules.all rX=true∧cyc c.Rules≤2000
 ·rw [if_pos h,h.1,decide_eq_true h.2]
  cases tZ c.Name <;> cases aKn c.Months <;> cases btw c.Week 1 12 <;> cases decide (1≤c.Months.length∧c.Months.length≤20) <;> cases decide (c.Rules.length≤6) <;> rfl
 ·rw [if_neg h]
  have e:(c.Rules.all rX && decide (cyc c.Rules≤2000))=false:=by
   rw [← Bool.not_eq_true,Bool.and_eq_true,decide_eq_true_eq];exact h
  rw [e]
  cases tZ c.Name <;> cases aKn c.Months <;> cases btw c.Week 1 12 <;> cases decide (1≤c.Months.length∧c.Months.length≤20) <;> cases decide (c.Rules.length≤6) <;> rfl
def aFx (xs:List Int):Bool:=xs.all (fun n=>btw n 1 60) && decide (1≤xs.length∧xs.length≤260)
theorem uX {xs:List Int} (hl:xs.length≤9223372036854775807):jC xs=some (aFx xs):=by
 unfold jC aFx
 rw [wH (fun _ v=>btw v 1 60) hl fun i hi=>by rw [eL hi,Option.bind_some,cN,Option.bind_some];cases btw xs[i] 1 60 <;> rfl,lW,Option.bind_some,bDl]
 have e:(decide (1≤(xs.length:Int)) && decide ((xs.length:Int)≤260))=decide (1≤xs.length∧xs.length≤260):=by rw [← Bool.decide_and,decide_eq_decide];omega
 rw [e]
 exact aPg rfl
theorem aB4 {xs:List Int} (hl:xs.length≤9223372036854775807):sG xs=some (aFx xs):=by
 unfold sG aFx
 rw [wH (fun _ v=>btw v 1 60) hl fun i hi=>by rw [eL hi,Option.bind_some,eY,Option.bind_some];cases btw xs[i] 1 60 <;> rfl,lW,Option.bind_some,eY,Option.bind_some]
 have e:btw (xs.length:Int) 1 260=decide (1≤xs.length∧xs.length≤260):=by unfold btw;rw [decide_eq_decide];omega
 rw [e]
 exact aPg rfl
end Go.Proofs.YtbliejnpjpnahaaGreatDoor
namespace Go.Proofs.YtbliejnpjpnahaaGreatDoor
set_option linter.unusedVariables false
def smS (x:ByteArray):Prop:=x.size≤1048576
def smL {α:Type} (sm:α→Prop) (xs:List α):Prop:=xs.length≤1048576 ∧ ∀ m ∈ xs,sm m
end Go.Proofs.YtbliejnpjpnahaaGreatDoor
namespace Go.Proofs.YtbliejnpjpnahaaGreatDoor
open Go.RowKit
set_option linter.unusedVariables false
set_option maxRecDepth 100000
set_option maxHeartbeats 2000000
def aWy (x:cD):Prop:=smS x.Name∧(smL (fun _=>True)) x.Wheels
def aZ3 (x:bM):Prop:=(fun _=>True) x.A∧(fun _=>True) x.WheelA∧(fun _=>True) x.B∧(fun _=>True) x.WheelB
def aJd (x:aP):Prop:=(smL aWy) x.Arbors∧(smL aZ3) x.Meshes
def aWz (x:aY):Prop:=smS x.Name∧(fun _=>True) x.Days∧(fun _=>True) x.Leap
def aN0 (x:aL):Prop:=(fun _=>True) x.Every∧(fun _=>True) x.Rest∧(fun _=>True) x.Leap
def aNz (x:aC):Prop:=smS x.Name∧(smL aWz) x.Months∧(smL aN0) x.Rules∧(fun _=>True) x.Week
def gB (x:aG):Prop:=smS x.Name∧aJd x.Works∧(fun _=>True) x.Minute∧(fun _=>True) x.Hour∧(fun _=>True) x.Escape∧(fun _=>True) x.Teeth∧(fun _=>True) x.Beats∧aNz x.Calendar∧(smL (fun _=>True)) x.Cam∧(fun _=>True) x.Strike
def aZ2 (x:aS):Prop:=(fun _=>True) x.Year∧(fun _=>True) x.Month∧(fun _=>True) x.Day
def aLh (x:aD):Prop:=(smL (fun _=>True)) x.Cam∧(fun _=>True) x.Months∧(fun _=>True) x.Teeth∧(fun _=>True) x.At∧(fun _=>True) x.Day∧(fun _=>True) x.Week∧(fun _=>True) x.Weekday
def uF (x:cH):Prop:=gB x.Movement∧aZ2 x.Start∧(fun _=>True) x.First∧(fun _=>True) x.Clock∧aLh x.Dial
end Go.Proofs.YtbliejnpjpnahaaGreatDoor
namespace Go.Proofs.YtbliejnpjpnahaaGreatDoor
set_option linter.unusedVariables false
def vJ (w:aP) (k:Int):Bool:=decide (0≤k∧k<w.Arbors.length)
def aCs (m:aG):Bool:=tZ m.Name && (aBh m.Works && (vJ m.Works m.Minute && (vJ m.Works m.Hour && (vJ m.Works m.Escape && (wD m.Teeth && (btw m.Beats 1 36000 && (sQ m.Calendar && (aFx m.Cam && btw m.Strike 0 2))))))))
theorem smW {w:aP} (h:aJd w):w.Arbors.length≤9223372036854775807∧(∀ b ∈ w.Arbors,b.Wheels.length≤9223372036854775807)∧w.Meshes.length≤9223372036854775807:=by
 have h1:=h.1.1
 have h2:=h.2.1
 exact ⟨by omega,fun b hb=>by have:=(h.1.2 b hb).2.1;omega,by omega⟩
theorem aCo {w:aP} (hl:w.Arbors.length≤9223372036854775807) (k:Int):kP w k=some (vJ w k):=by
 unfold kP;rw [cN,Option.bind_some,uM hl];rfl
theorem aC3 {w:aP} (hl:w.Arbors.length≤9223372036854775807) (k:Int):kQ w k=some (vJ w k):=by
 unfold kQ;rw [eY,Option.bind_some,uM hl];rfl
theorem jZ {m:aG} (h:gB m):eB m=some (aCs m):=by
 obtain ⟨_,h2,_,_,_,_,_,h8,h9,_⟩:=h
 obtain ⟨w1,w2,w3⟩:=smW h2
 have c1:=h8.2.1.1
 have c2:=h8.2.2.1.1
 have c3:=h9.1
 unfold eB aCs
 simp only [aCo w1,aCq,cN,zB,wW w1 w2 w3,iC (c:=m.Calendar) (by omega) (by omega),uX (xs:=m.Cam) (by omega),Option.bind_some,itA]
 congr 1
 ac_rfl
theorem aRc {m:aG} (h:gB m):xQ m=some (aCs m):=by
 obtain ⟨_,h2,_,_,_,_,_,h8,h9,_⟩:=h
 obtain ⟨w1,w2,w3⟩:=smW h2
 have c1:=h8.2.1.1
 have c2:=h8.2.2.1.1
 have c3:=h9.1
 unfold xQ aCs
 simp only [aC3 w1,aA4,eY,vO,aQ9 w1 w2 w3,aG8 (c:=m.Calendar) (by omega) (by omega),aB4 (xs:=m.Cam) (by omega),Option.bind_some,itA,itO,itF,Bool.not_or,Bool.not_not]
 congr 1
 ac_rfl
end Go.Proofs.YtbliejnpjpnahaaGreatDoor
