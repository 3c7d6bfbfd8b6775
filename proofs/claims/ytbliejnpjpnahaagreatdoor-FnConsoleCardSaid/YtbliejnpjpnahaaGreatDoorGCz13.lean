/- Texts of this claim, one behind the other (merged by a program of mine). -/
import Derived.Test.YtbliejnpjpnahaaGreatDoorProg
import Derived.Test.YtbliejnpjpnahaaGreatDoorGCz12
set_option linter.unusedSimpArgs false
set_option linter.unusedVariables false
namespace Go.Proofs.YtbliejnpjpnahaaGreatDoor
open Go.RowKit
set_option linter.unusedVariables false
set_option maxRecDepth 100000
set_option maxHeartbeats 2000000
theorem aMc {p0:aG} {r:List ByteArray × Int} (h0:oJ p0=some r):FnC Tryz.prog 77 [] [.agg (cX p0)] [slD 9 1 cS r.1] (.tup [bI 0 r.1,(dI r.2)]):=by
 refine fi 74 tok Tryz.func77 ?_
 unfold oJ at h0
 refine au 1 ?_
 refine bxx 3 ?_
 refine au 6 ?_
 obtain ⟨v1,hv1,h0⟩:=bnd h0
 refine cll 4 (iQ hv1) ?_
 refine au 2 ?_
 refine aiB h0 ?_ ?_ <;> intro hc h0
 refine au 4 ?_
 refine bL (aR 4 rfl 9 1 (d:=2) rfl) (au 2 ?_)
 cases h0
 exact bV (rs:=[.tmp 2, .tmp 3]) [4] rfl
 refine au 4 ?_
 obtain ⟨v34,h1,h0⟩:=bnd h0
 refine aN ⟨aA (aA aH 1 (bA 3)) 4 (bI 4 v34),lk3 [(slB 36 14 (cX p0)),slD 9 1 cS v34]⟩ ?_ ?_
 refine au 8 ?_
 refine aK (fun s18=>⟨aA (aA (aA (aA (aA aH 1 (bA 3)) 4 (bI 4 s18.2)) 17 (dL aF p0.Works.Arbors)) 18 (dI (p0.Works.Arbors.length:Int))) 19 (dI s18.1),lk3 [(slB 36 14 (cX p0)),slD 9 1 cS s18.2]⟩) h1 ?_ (fun s18 y h2 => ?_)
 refine lJ.trans_ (aR 4 rfl 9 1 (d:=4) rfl) ?_
 exact wk [0,1,2,3,4]
 refine au 4 ?_
 refine aif h2 ?_ ?_ <;> intro hc h2
 refine sk ?_
 obtain ⟨v33,h3,h2⟩:=bnd h2
 refine aN ⟨aA (aA (aA (aA (aA aH 1 (bA 3)) 4 (bI 4 v33)) 17 (dL aF p0.Works.Arbors)) 18 (dI (p0.Works.Arbors.length:Int))) 19 (dI s18.1),lk3 [(slB 36 14 (cX p0)),slD 9 1 cS v33]⟩ ?_ ?_
 refine au 2 ?_
 obtain ⟨v19,hv19,h3⟩:=bnd h3
 refine rP rfl (bS tok hv19 rfl rfl rfl rfl rfl rfl) (au 1 ?_)
 refine al 5 [ze,zl] tok ?_
 refine au 5 ?_
 refine bso 6 tok cS [(⟨#[97,114,98,111,114]⟩:ByteArray),v19.Name] ?_
 refine au 2 ?_
 obtain ⟨v30,h4,h3⟩:=bnd h3
 refine aN ⟨aA (aA (aA (aA (aA (aA aH 1 (bA 3)) 4 (bI 4 s18.2)) 7 (bI 5 v30)) 17 (dL aF p0.Works.Arbors)) 18 (dI (p0.Works.Arbors.length:Int))) 19 (dI s18.1),lk3 [(slB 36 14 (cX p0)),slD 9 1 cS s18.2,slD 9 1 cS v30]⟩ ?_ ?_
 refine au 3 ?_
 obtain ⟨v20,hv20,h4⟩:=bnd h4
 refine cll 7 (qS hv20) ?_
 obtain ⟨v21,hv21,h4⟩:=bnd h4
 refine cll 7 (gV hv21) ?_
 refine au 4 ?_
 refine aK (fun s26=>⟨aA (aA (aA (aA (aA (aA (aA (aA (aA aH 1 (bA 3)) 4 (bI 4 s18.2)) 7 (bI 5 s26.2)) 17 (dL aF p0.Works.Arbors)) 18 (dI (p0.Works.Arbors.length:Int))) 19 (dI s18.1)) 29 (bI 6 v21)) 30 (dI (v21.length:Int))) 31 (dI s26.1),lk3 [(slB 36 14 (cX p0)),slD 9 1 cS s18.2,slD 9 1 cS s26.2,slD 2 1 cI v21]⟩) h4 ?_ (fun s26 y h5 => ?_)
 exact wk [0,1,2,3,4,6,7]
 refine au 4 ?_
 refine aif h5 ?_ ?_ <;> intro hc h5
 refine au 4 ?_
 obtain ⟨v27,hv27,h5⟩:=bnd h5
 refine rL rfl (eV tok hv27 rfl rfl rfl rfl rfl rfl rfl rfl) (rL rfl (gI tok (eE hv27).2.1 rfl rfl rfl rfl rfl rfl) (au 5 ?_))
 obtain ⟨v28,hv28,h5⟩:=bnd h5
 refine cll 7 (bN hv28) ?_
 refine bsv tok cS [v28] ?_
 obtain ⟨hq29,h5⟩:=aT h5
 refine rw1 rfl w0 rfl (fJ tok hq29 rfl rfl rfl rfl rfl rfl rfl rfl rfl rfl rfl rfl (fun _=>rfl)) (au 8 ?_)
 refine bD ?_
 cases h5
 refine ⟨_,rfl,?_⟩
 exact wk (.range 7)
 refine au 2 ?_
 cases h5
 refine lpx fun e => ?_
 subst e
 refine au 2 ?_
 exact wk [0,1,2,3,4,5]
 refine au 3 ?_
 obtain ⟨v31,hv31,h3⟩:=bnd h3
 refine rS rfl (fG 6 (pE hv31) rfl rfl) (bsv tok cS [v31] ?_)
 obtain ⟨hq32,h3⟩:=aT h3
 refine rw1 rfl w0 rfl (fJ tok hq32 rfl rfl rfl rfl rfl rfl rfl rfl rfl rfl rfl rfl (fun _=>rfl)) (au 4 ?_)
 cases h3
 exact wk [0,1,2,3,4]
 refine au 4 ?_
 refine bD ?_
 cases h2
 refine ⟨_,rfl,?_⟩
 exact wk [0,1,2,3,4]
 refine au 2 ?_
 cases h2
 refine lpx fun e => ?_
 subst e
 refine au 2 ?_
 exact wk [0,1,2,3,4]
 refine au 3 ?_
 obtain ⟨v35,hv35,h0⟩:=bnd h0
 refine cll 5 (aHv hv35) ?_
 refine au 10 ?_
 obtain ⟨v36,hv36,h0⟩:=bnd h0
 refine cll 5 (bN hv36) ?_
 obtain ⟨hq37,h0⟩:=aT h0
 refine rP rfl (dK rfl rfl hq37) (bsv tok cS [(⟨#[101,115,99,97,112,101,45,119,104,101,101,108,32]⟩:ByteArray)++v36] ?_)
 obtain ⟨hq38,h0⟩:=aT h0
 refine rw1 rfl w0 rfl (fJ tok hq38 rfl rfl rfl rfl rfl rfl rfl rfl rfl rfl rfl rfl (fun _=>rfl)) (au 7 ?_)
 obtain ⟨v39,hv39,h0⟩:=bnd h0
 refine cll 5 (bN hv39) ?_
 obtain ⟨hq40,h0⟩:=aT h0
 refine rP rfl (dK rfl rfl hq40) ?_
 obtain ⟨hq41,h0⟩:=aT h0
 refine rP rfl (dK rfl rfl hq41) (au 2 ?_)
 obtain ⟨v42,hv42,h0⟩:=bnd h0
 refine cll 5 (bN hv42) ?_
 obtain ⟨hq43,h0⟩:=aT h0
 refine rP rfl (dK rfl rfl hq43) (bsv tok cS [(((⟨#[99,97,109,32]⟩:ByteArray)++v39)++(⟨#[32]⟩:ByteArray))++v42] ?_)
 obtain ⟨hq44,h0⟩:=aT h0
 refine rw1 rfl w0 rfl (fJ tok hq44 rfl rfl rfl rfl rfl rfl rfl rfl rfl rfl rfl rfl (fun _=>rfl)) (au 8 ?_)
 cases h0
 exact bV (rs:=[.tmp 2, .tmp 3]) [4] rfl
theorem aEq {p0:aG} {p1:Int} {r:aB × Int} (h0:oM p0 p1=some r):FnC Tryz.prog 145 [] [.agg (cX p0),(dI p1)] [] (.tup [.agg [dI r.1.Num,(dI r.1.Den)],(dI r.2)]):=by
 refine fi 33 tok Tryz.func145 ?_
 unfold oM at h0
 refine au 1 ?_
 refine bxx 3 ?_
 refine al 4 [z0,z0] tok ?_
 refine au 5 ?_
 obtain ⟨v1,hv1,h0⟩:=bnd h0
 refine cll 5 (iQ hv1) ?_
 refine au 2 ?_
 refine aiB h0 ?_ ?_ <;> intro hc h0
 refine au 1 ?_
 refine rpb tok [z0,z0] ?_
 refine au 5 ?_
 cases h0
 exact cG (rs:=[.cell 4 92, .tmp 5]) rfl
 refine au 6 ?_
 obtain ⟨v2,hv2,h0⟩:=bnd h0
 refine cll 5 (aCj hv2) ?_
 refine au 11 ?_
 refine aif h0 ?_ ?_ <;> intro hc h0
 refine au 1 ?_
 refine rpb tok [z0,z0] ?_
 refine au 5 ?_
 cases h0
 exact cG (rs:=[.cell 4 92, .tmp 5]) rfl
 refine au 6 ?_
 obtain ⟨v3,hv3,h0⟩:=bnd h0
 refine cll 6 (vE hv3) ?_
 refine au 2 ?_
 refine aiB h0 ?_ ?_ <;> intro hc h0
 refine au 1 ?_
 refine rpb tok [z0,z0] ?_
 refine au 5 ?_
 cases h0
 exact cG (rs:=[.cell 4 92, .tmp 5]) rfl
 refine au 4 ?_
 obtain ⟨v4,hv4,h0⟩:=bnd h0
 refine rL rfl (eV tok hv4 rfl rfl rfl rfl rfl rfl rfl rfl) (rL rfl (uB tok (eE hv4).2.1 rfl rfl rfl rfl rfl) (au 4 ?_))
 cases h0
 exact cG (rs:=[.cell 4 92, .tmp 5]) rfl
theorem aGf {p0:aG} {r:List ByteArray × Int} (h0:jU p0=some r):FnC Tryz.prog 78 [] [.agg (cX p0)] [slD 9 1 cS r.1] (.tup [bI 0 r.1,(dI r.2)]):=by
 refine fi 38 tok Tryz.func78 ?_
 unfold jU at h0
 refine au 1 ?_
 refine bxx 3 ?_
 refine au 6 ?_
 obtain ⟨v15x,h1,h0⟩:=bnd h0
 refine cF v15x (fun v15=>⟨aA aH 4 (bI 3 v15),lk3 [slD 9 1 cS v15]⟩) ?_ ?_
 refine au 8 ?_
 refine aK (fun s8=>⟨aA (aA (aA (aA (aA aH 1 (bA 3)) 4 (bI 4 s8.2)) 11 (dL aF p0.Works.Arbors)) 12 (dI (p0.Works.Arbors.length:Int))) 13 (dI s8.1),lk3 [(slB 36 14 (cX p0)),slD 9 1 cS s8.2]⟩) h1 ?_ (fun s8 y h2 => ?_)
 refine lJ.trans_ (aR 4 rfl 9 1 (d:=4) rfl) ?_
 exact wk [0,1,2,3,4]
 refine au 4 ?_
 refine aif h2 ?_ ?_ <;> intro hc h2
 refine au 5 ?_
 obtain ⟨v9,hv9,h2⟩:=bnd h2
 refine rP rfl (bS tok hv9 rfl rfl rfl rfl rfl rfl) (au 1 ?_)
 refine al 5 [ze,zl] tok ?_
 refine au 6 ?_
 obtain ⟨v10,hv10,h2⟩:=bnd h2
 refine cll 6 (aEq hv10) ?_
 refine au 3 ?_
 refine al 6 [z0,z0] tok ?_
 refine au 8 ?_
 refine aif h2 ?_ ?_ <;> intro hc h2
 refine au 5 ?_
 refine bL (aR 7 rfl 9 1 (d:=2) rfl) (au 4 ?_)
 cases h2
 refine lpr fun e => ?_
 subst e
 refine au 1 ?_
 replace h0:=eO h0
 refine au 1 ?_
 cases h0
 exact bV (rs:=[.tmp 2, .tmp 3]) [7] rfl
 refine au 5 ?_
 obtain ⟨hq11,h2⟩:=aT h2
 refine tP rfl (dK rfl rfl hq11) (au 1 ?_)
 obtain ⟨v12,hv12,h2⟩:=bnd h2
 refine clt 8 (kY hv12) ?_
 obtain ⟨hq13,h2⟩:=aT h2
 refine tP rfl (dK rfl rfl hq13) (aDz rfl w0 rfl rfl (fun hx hk=>aOg 7 tok cS [(v9.Name++(⟨#[32]⟩:ByteArray))++v12] rfl rfl rfl (by repeat (first | exact Els.nil _ | apply Els.cons (cs:=[.d _]) rfl rfl rfl | apply Els.cons (cs:=_ :: _) rfl rfl rfl)) rfl rfl rfl (by repeat (first | exact pH.nil | (apply pH.cons; (repeat (first | exact aC6.nil | apply aC6.cons))))) rfl hk) ?_)
 obtain ⟨hq14,h2⟩:=aT h2
 refine aPe rfl w0 rfl (fJ tok hq14 rfl rfl rfl rfl rfl rfl rfl rfl rfl rfl rfl rfl (fun _=>rfl)) (au 8 ?_)
 refine bD ?_
 cases h2
 refine ⟨_,rfl,?_⟩
 exact wk [0,1,2,3,4]
 refine au 2 ?_
 cases h2
 refine lpx fun e => ?_
 subst e
 refine au 2 ?_
 refine ⟨_,rfl,?_⟩
 exact wk [0,1,2,4]
 rintro v15 rfl
 replace h0:=gO h0
 refine au 6 ?_
 cases h0
 exact bV (rs:=[.tmp 2, .tmp 3]) [3] rfl
theorem aHu {p0:aC} {p1:List Int} {p2:Int} {p3:Int} {r:List fT × Int} (h0:nC p0 p1 p2 p3=some r):FnC Tryz.prog 146 [] [.agg (aJ p0),(dL cI p1),(dI p2),(dI p3)] [slD 232 4 uN r.1] (.tup [bI 0 r.1,(dI r.2)]):=by
 refine fi 48 tok Tryz.func146 ?_
 unfold nC at h0
 refine au 1 ?_
 refine bxx 3 ?_
 refine au 7 ?_
 obtain ⟨v1,hv1,h0⟩:=bnd h0
 refine cll 4 (aCl hv1) ?_
 refine au 6 ?_
 refine aif h0 ?_ ?_ <;> intro hc h0
 refine au 5 ?_
 refine bL (aR 4 rfl 232 4 (d:=8) rfl) (au 2 ?_)
 cases h0
 exact bV (rs:=[.tmp 8, .tmp 9]) [4] rfl
 refine au 2 ?_
 obtain ⟨v4,h1,h0⟩:=bnd h0
 refine aN ⟨aA (aA (aA (aA (aA aH 1 (dL cI p1)) 2 (dI p2)) 3 (dI p3)) 4 (bA 3)) 31 (dB v4),lk3 [(slB 33 4 (aJ p0))]⟩ ?_ ?_
 refine au 2 ?_
 obtain ⟨v2,hv2,h1⟩:=bnd h1
 refine cll 4 (oP hv2) ?_
 refine au 2 ?_
 refine riB 22 h1 ?_ ?_ <;> intro hc h1
 refine au 10 ?_
 cases h1
 exact wk [0,1,2,3]
 refine pm1 ?_
 obtain ⟨v3,hv3,h1⟩:=bnd h1
 refine cl1 4 (oP hv3) ?_
 refine au 3 ?_
 refine riB 27 h1 ?_ ?_ <;> intro hc h1
 refine au 5 ?_
 cases h1
 exact wk [0,1,2,3]
 refine au 5 ?_
 cases h1
 exact wk [0,1,2,3]
 refine aiB h0 ?_ ?_ <;> intro hc h0
 refine au 4 ?_
 refine bL (aR 4 rfl 232 4 (d:=8) rfl) (au 2 ?_)
 cases h0
 exact bV (rs:=[.tmp 8, .tmp 9]) [4] rfl
 refine au 4 ?_
 obtain ⟨v11x,h1,h0⟩:=bnd h0
 refine cF v11x (fun v11=>⟨aA aH 11 (bI 3 v11),lk3 [slD 232 4 uN v11]⟩) ?_ ?_
 refine au 5 ?_
 refine aK (fun s8=>⟨aA (aA (aA (aA (aA aH 1 (dL cI p1)) 3 (dI p3)) 4 (bA 3)) 11 (bI 4 s8.2)) 12 (dI s8.1),lk3 [(slB 33 4 (aJ p0)),slD 232 4 uN s8.2]⟩) h1 ?_ (fun s8 y h2 => ?_)
 refine lJ.trans_ (aR 4 rfl 232 4 (d:=11) rfl) ?_
 exact wk [0,1,2,3,4]
 refine au 6 ?_
 refine aif h2 ?_ ?_ <;> intro hc h2
 refine au 8 ?_
 obtain ⟨v9,hv9,h2⟩:=bnd h2
 refine cll 5 (aCm hv9) ?_
 obtain ⟨hq10,h2⟩:=aT h2
 refine rw1 rfl w0 rfl (bC8 tok hq10 rfl rfl rfl rfl rfl rfl rfl rfl rfl rfl rfl rfl rfl rfl rfl) (au 7 ?_)
 refine aif h2 ?_ ?_ <;> intro hc h2
 refine au 4 ?_
 refine bL (aR 6 rfl 232 4 (d:=8) rfl) (au 3 ?_)
 cases h2
 refine lpr fun e => ?_
 subst e
 refine au 1 ?_
 replace h0:=eO h0
 refine au 1 ?_
 cases h0
 exact bV (rs:=[.tmp 8, .tmp 9]) [6] rfl
 refine au 8 ?_
 refine bD ?_
 cases h2
 refine ⟨_,rfl,?_⟩
 exact wk [0,1,2,3,4]
 refine au 2 ?_
 cases h2
 refine lpx fun e => ?_
 subst e
 refine au 2 ?_
 refine ⟨_,rfl,?_⟩
 exact wk [0,1,2,4]
 rintro v11 rfl
 replace h0:=gO h0
 refine au 6 ?_
 cases h0
 exact bV (rs:=[.tmp 8, .tmp 9]) [3] rfl
theorem aH0 {p0:fT} {r:ByteArray} (h0:nF p0=some r):FnC Tryz.prog 147 [] [.agg (aU6 p0)] [] (dS r):=by
 refine fi 21 tok Tryz.func147 ?_
 unfold nF at h0
 refine au 1 ?_
 refine bxx 3 ?_
 refine au 3 ?_
 refine tdr [0,1,4,5,9,10,14,15,2,3,6,7,8,11,12,13,16,17,18] follows (au 8 ?_)
 obtain ⟨v1,hv1,h0⟩:=bnd h0
 refine clt 4 (bN hv1) ?_
 obtain ⟨hq2,h0⟩:=aT h0
 refine tP rfl (dK rfl rfl hq2) ?_
 obtain ⟨v3,hv3,h0⟩:=bnd h0
 refine clt 4 (bN hv3) ?_
 obtain ⟨hq4,h0⟩:=aT h0
 refine tP rfl (dK rfl rfl hq4) ?_
 obtain ⟨hq5,h0⟩:=aT h0
 refine tP rfl (dK rfl rfl hq5) ?_
 obtain ⟨v6,hv6,h0⟩:=bnd h0
 refine clt 4 (bN hv6) ?_
 obtain ⟨hq7,h0⟩:=aT h0
 refine tP rfl (dK rfl rfl hq7) ?_
 obtain ⟨hq8,h0⟩:=aT h0
 refine tP rfl (dK rfl rfl hq8) ?_
 obtain ⟨v9,hv9,h0⟩:=bnd h0
 refine clt 4 (bN hv9) ?_
 obtain ⟨hq10,h0⟩:=aT h0
 refine tP rfl (dK rfl rfl hq10) (au 4 ?_)
 cases h0
 exact r0t 2 rfl
theorem aGb {p0:aG} {p1:Int} {p2:Int} {r:List ByteArray × Int} (h0:lQ p0 p1 p2=some r):FnC Tryz.prog 79 [] [.agg (cX p0),(dI p1),(dI p2)] [slD 9 1 cS r.1] (.tup [bI 0 r.1,(dI r.2)]):=by
 refine fi 37 tok Tryz.func79 ?_
 unfold lQ at h0
 refine au 1 ?_
 refine bxx 3 ?_
 refine au 10 ?_
 obtain ⟨v1,hv1,h0⟩:=bnd h0
 refine cll 4 (aHu hv1) ?_
 refine au 9 ?_
 obtain ⟨v10,h1,h0⟩:=bnd h0
 refine aN ⟨aA (aA aH 9 (dI v1.2)) 10 (bI 3 v10),lk3 [slD 9 1 cS v10]⟩ ?_ ?_
 refine au 6 ?_
 refine aK (fun s6=>⟨aA (aA (aA (aA (aA aH 9 (dI v1.2)) 10 (bI 3 s6.2)) 23 (bI 4 v1.1)) 24 (dI (v1.1.length:Int))) 25 (dI s6.1),lk3 [(slD 9 1 cS s6.2),slD 232 4 uN v1.1]⟩) h1 ?_ (fun s6 y h2 => ?_)
 refine lJ.trans_ (aR 5 rfl 9 1 (d:=10) rfl) ?_
 exact wk [0,1,2,5,4]
 refine au 4 ?_
 refine aif h2 ?_ ?_ <;> intro hc h2
 refine au 4 ?_
 obtain ⟨v7,hv7,h2⟩:=bnd h2
 refine rL rfl (eV tok hv7 rfl rfl rfl rfl rfl rfl rfl rfl) (rL rfl (uB tok (eE hv7).2.1 rfl rfl rfl rfl rfl) (al 5 aVc tok ?_))
 refine au 5 ?_
 obtain ⟨v8,hv8,h2⟩:=bnd h2
 refine cll 6 (aH0 hv8) ?_
 refine bsv tok cS [v8] ?_
 obtain ⟨hq9,h2⟩:=aT h2
 refine rw1 rfl w0 rfl (fJ tok hq9 rfl rfl rfl rfl rfl rfl rfl rfl rfl rfl rfl rfl (fun _=>rfl)) (au 8 ?_)
 refine bD ?_
 cases h2
 refine ⟨_,rfl,?_⟩
 exact wk [0,1,2,3,4]
 refine au 2 ?_
 cases h2
 refine lpx fun e => ?_
 subst e
 refine au 2 ?_
 exact wk [0,1,2,3]
 refine au 7 ?_
 cases h0
 exact bV (rs:=[.tmp 6, .tmp 7]) [3] rfl
theorem aJ8 {p0:List ByteArray} {r:List ByteArray} (h0:pN p0=some r):FnC Tryz.prog 80 [slD 9 1 cS p0] [bI 0 p0] [slD 9 1 cS r] (bI 0 r):=by
 refine fi 10 tok Tryz.func80 ?_
 unfold pN at h0
 refine au 7 ?_
 obtain ⟨v1,hv1,h0⟩:=bnd h0
 refine cll 3 (bN hv1) ?_
 obtain ⟨hq2,h0⟩:=aT h0
 refine rP rfl (dK rfl rfl hq2) (bsv tok cS [(⟨#[111,107,32]⟩:ByteArray)++v1] ?_)
 obtain ⟨hq3,h0⟩:=aT h0
 refine rw1 rfl w0 rfl (fJ tok hq3 rfl rfl rfl rfl rfl rfl rfl rfl rfl rfl rfl rfl (fun _=>rfl)) (au 3 ?_)
 cases h0
 exact nZ (rs:=[.tmp 2]) 1 rfl rfl
theorem aV1 {p0:cH} {p1:fS} {r:Bool × List ByteArray × Int} (h0:lY p0 p1=some r):FnC Tryz.prog 39 [] [.agg (lH p0), .agg (xW p1)] [slD 9 1 cS r.2.1] (.tup [dB r.1,bI 0 r.2.1,(dI r.2.2)]):=by
 refine fi 46 tok Tryz.func39 ?_
 unfold lY at h0
 refine au 1 ?_
 refine bxx 3 ?_
 refine bxx 4 ?_
 refine au 10 ?_
 obtain ⟨v6x,h1,h0⟩:=bnd h0
 refine cF v6x (fun v6=>⟨aA (aA aH 7 (bI 3 v6.2)) 8 (dI v6.1),lk3 [slD 9 1 cS v6.2]⟩) ?_ ?_
 refine au 9 ?_
 refine aif h1 ?_ ?_ <;> intro hc h1
 refine au 3 ?_
 obtain ⟨v1,hv1,h1⟩:=bnd h1
 refine cll 5 (aMc hv1) ?_
 refine au 8 ?_
 cases h1
 refine ⟨_,rfl,?_⟩
 exact wk [0,1,2,5]
 refine au 4 ?_
 refine aif h1 ?_ ?_ <;> intro hc h1
 refine au 3 ?_
 obtain ⟨v2,hv2,h1⟩:=bnd h1
 refine cll 5 (aGf hv2) ?_
 refine au 8 ?_
 cases h1
 refine ⟨_,rfl,?_⟩
 exact wk [0,1,2,5]
 refine au 4 ?_
 refine aif h1 ?_ ?_ <;> intro hc h1
 refine au 5 ?_
 obtain ⟨v3,hv3,h1⟩:=bnd h1
 refine tP rfl (bS tok hv3 rfl rfl rfl rfl rfl rfl) (au 3 ?_)
 obtain ⟨v4,hv4,h1⟩:=bnd h1
 refine tP rfl (bS tok hv4 rfl rfl rfl rfl rfl rfl) (au 1 ?_)
 obtain ⟨v5,hv5,h1⟩:=bnd h1
 refine clt 5 (aGb hv5) ?_
 refine au 8 ?_
 cases h1
 refine ⟨_,rfl,?_⟩
 exact wk [0,1,2,5]
 refine au 5 ?_
 refine bL (aR 5 rfl 9 1 (d:=5) rfl) (au 2 ?_)
 cases h1
 replace h0:=eO h0
 refine au 1 ?_
 cases h0
 exact bV (rs:=[.tmp 4, .tmp 5, .tmp 6]) [5] rfl
 rintro v6 rfl
 replace h0:=gO h0
 refine au 2 ?_
 obtain ⟨v7,hv7,h0⟩:=bnd h0
 refine rw1 rfl w0 rfl (eS [3] 300 (aJ8 hv7) rfl rfl) (au 6 ?_)
 cases h0
 exact bV (rs:=[.tmp 4, .tmp 5, .tmp 6]) [3] rfl
theorem aC9 {p0:aG} {r:ByteArray} (h0:jM p0=some r):FnC Tryz.prog 24 [] [.agg (cX p0)] [] (dS r):=by
 refine fi 38 tok Tryz.func24 ?_
 unfold jM at h0
 refine au 1 ?_
 refine bxx 3 ?_
 refine au 5 ?_
 obtain ⟨v1,hv1,h0⟩:=bnd h0
 refine cll 4 (iQ hv1) ?_
 refine au 2 ?_
 refine aiB h0 ?_ ?_ <;> intro hc h0
 refine au 5 ?_
 cases h0
 exact r0t 2 rfl
 refine au 8 ?_
 refine tdr [0,1,2,3,5,6,8,9,10,11,12,13,14,15,16,17,18,19,20,21,22,23,24,25,4,7,26,27,28] follows (au 9 ?_)
 obtain ⟨v2,hv2,h0⟩:=bnd h0
 refine tP rfl (bS tok hv2 rfl rfl rfl rfl rfl rfl) (au 5 ?_)
 obtain ⟨v3,hv3,h0⟩:=bnd h0
 refine tP rfl (bS tok hv3 rfl rfl rfl rfl rfl rfl) (au 5 ?_)
 obtain ⟨v4,hv4,h0⟩:=bnd h0
 refine tP rfl (bS tok hv4 rfl rfl rfl rfl rfl rfl) (au 2 ?_)
 obtain ⟨v5,hv5,h0⟩:=bnd h0
 refine clt 5 (bN hv5) ?_
 obtain ⟨v6,hv6,h0⟩:=bnd h0
 refine clt 5 (bN hv6) ?_
 refine aDz rfl w0 rfl rfl (fun hx hk=>aOg 4 tok cS [p0.Name,v5,v6,v2.Name,v3.Name,v4.Name] rfl rfl rfl (by repeat (first | exact Els.nil _ | apply Els.cons (cs:=[.d _]) rfl rfl rfl | apply Els.cons (cs:=_ :: _) rfl rfl rfl)) rfl rfl rfl (by repeat (first | exact pH.nil | (apply pH.cons; (repeat (first | exact aC6.nil | apply aC6.cons))))) rfl hk) ?_
 obtain ⟨v7,hv7,h0⟩:=bnd h0
 refine clt 5 (pE hv7) ?_
 refine au 4 ?_
 cases h0
 exact r0t 2 rfl
theorem vI {p0:Int} {r:ByteArray} (h0:jI p0=some r):FnC Tryz.prog 110 [] [dI p0] [] (dS r):=by
 refine fi 10 tok Tryz.func110 ?_
 unfold jI at h0
 refine au 5 ?_
 refine rP rfl (lI rfl rfl (by decide)) ?_
 obtain ⟨v2,hv2,h0⟩:=bnd h0
 refine cll 3 (bN hv2) ?_
 refine pm ?_
 refine rP rfl (eW rfl rfl (by decide)) ?_
 obtain ⟨v4,hv4,h0⟩:=bnd h0
 refine cll 3 (bN hv4) ?_
 obtain ⟨hq5,h0⟩:=aT h0
 refine rP rfl (dK rfl rfl hq5) (au 3 ?_)
 cases h0
 exact r0t 2 rfl
theorem aHw {p0:Int} {r:ByteArray} (h0:kV p0=some r):FnC Tryz.prog 54 [] [dI p0] [] (dS r):=by
 refine fi 23 tok Tryz.func54 ?_
 unfold kV at h0
 refine au 6 ?_
 obtain ⟨v1,hv1,h0⟩:=bnd h0
 refine cll 3 (bK hv1) ?_
 refine au 2 ?_
 refine aiB h0 ?_ ?_ <;> intro hc h0
 refine au 5 ?_
 cases h0
 exact r0t 2 rfl
 refine au 3 ?_
 refine rP rfl (eW rfl rfl (by decide)) (au 4 ?_)
 refine rP rfl (lI rfl rfl (by decide)) ?_
 obtain ⟨v4,hv4,h0⟩:=bnd h0
 refine cll 3 (vI hv4) ?_
 obtain ⟨hq5,h0⟩:=aT h0
 refine rP rfl (dK rfl rfl hq5) (pm ?_)
 refine rP rfl (lI rfl rfl (by decide)) (rP rfl (eW rfl rfl (by decide)) ?_)
 obtain ⟨v8,hv8,h0⟩:=bnd h0
 refine cll 3 (vI hv8) ?_
 obtain ⟨hq9,h0⟩:=aT h0
 refine rP rfl (dK rfl rfl hq9) ?_
 obtain ⟨hq10,h0⟩:=aT h0
 refine rP rfl (dK rfl rfl hq10) (pm ?_)
 refine rP rfl (eW rfl rfl (by decide)) ?_
 obtain ⟨v12,hv12,h0⟩:=bnd h0
 refine cll 3 (vI hv12) ?_
 obtain ⟨hq13,h0⟩:=aT h0
 refine rP rfl (dK rfl rfl hq13) (au 3 ?_)
 cases h0
 exact r0t 2 rfl
theorem yS {p0:aD} {r:Int} (h0:iG p0=some r):FnC Tryz.prog 111 [] [.agg (cJ p0)] [] (dI r):=by
 refine fi 9 tok Tryz.func111 ?_
 unfold iG at h0
 refine au 1 ?_
 refine bxx 3 ?_
 refine au 7 ?_
 obtain ⟨hq1,h0⟩:=aT h0
 refine rP rfl (eW rfl rfl hq1) (au 4 ?_)
 cases h0
 exact r0t 2 rfl
theorem aBs {p0:aD} {r:ByteArray} (h0:iP p0=some r):FnC Tryz.prog 55 [] [.agg (cJ p0)] [] (dS r):=by
 refine fi 24 tok Tryz.func55 ?_
 unfold iP at h0
 refine au 1 ?_
 refine bxx 3 ?_
 refine au 5 ?_
 obtain ⟨v1,hv1,h0⟩:=bnd h0
 refine cll 4 (nH hv1) ?_
 refine au 2 ?_
 refine aiB h0 ?_ ?_ <;> intro hc h0
 refine au 5 ?_
 cases h0
 exact r0t 2 rfl
 refine au 2 ?_
 refine tdr [0,4,5,9,10,14,15,1,2,3,6,7,8,11,12,13,16,17,18] follows (au 7 ?_)
 obtain ⟨v2,hv2,h0⟩:=bnd h0
 refine clt 4 (yS hv2) ?_
 obtain ⟨v3,hv3,h0⟩:=bnd h0
 refine clt 4 (bN hv3) ?_
 obtain ⟨hq4,h0⟩:=aT h0
 refine tP rfl (dK rfl rfl hq4) ?_
 obtain ⟨v5,hv5,h0⟩:=bnd h0
 refine clt 4 (bN hv5) ?_
 obtain ⟨hq6,h0⟩:=aT h0
 refine tP rfl (dK rfl rfl hq6) ?_
 obtain ⟨hq7,h0⟩:=aT h0
 refine tP rfl (dK rfl rfl hq7) ?_
 obtain ⟨v8,hv8,h0⟩:=bnd h0
 refine clt 4 (bN hv8) ?_
 obtain ⟨hq9,h0⟩:=aT h0
 refine tP rfl (dK rfl rfl hq9) ?_
 obtain ⟨hq10,h0⟩:=aT h0
 refine tP rfl (dK rfl rfl hq10) ?_
 obtain ⟨v11,hv11,h0⟩:=bnd h0
 refine clt 4 (bN hv11) ?_
 obtain ⟨hq12,h0⟩:=aT h0
 refine tP rfl (dK rfl rfl hq12) (au 4 ?_)
 cases h0
 exact r0t 2 rfl
theorem aMg {p0:cH} {r:ByteArray} (h0:rG p0=some r):FnC Tryz.prog 25 [] [.agg (lH p0)] [] (dS r):=by
 refine fi 31 tok Tryz.func25 ?_
 unfold rG at h0
 refine au 1 ?_
 refine bxx 3 ?_
 refine au 5 ?_
 obtain ⟨v1,hv1,h0⟩:=bnd h0
 refine cll 4 (kN hv1) ?_
 refine au 2 ?_
 refine aiB h0 ?_ ?_ <;> intro hc h0
 refine au 5 ?_
 cases h0
 exact r0t 2 rfl
 refine au 4 ?_
 obtain ⟨v4,h1,h0⟩:=bnd h0
 refine aN ⟨aA (aA aH 1 (bA 3)) 3 (dS v4),lk3 [(slB 42 26 (lH p0))]⟩ ?_ ?_
 refine au 2 ?_
 obtain ⟨v2,hv2,h1⟩:=bnd h1
 refine cll 4 (wZ hv2) ?_
 refine au 4 ?_
 refine al 4 xX tok ?_
 refine au 8 ?_
 refine aif h1 ?_ ?_ <;> intro hc h1
 refine au 2 ?_
 obtain ⟨v3,hv3,h1⟩:=bnd h1
 refine cll 5 (aCh hv3) ?_
 refine au 2 ?_
 cases h1
 exact wk [0,1,2,3]
 refine sk ?_
 cases h1
 exact wk [0,1,2,3]
 refine au 1 ?_
 refine tdr [0,1,2,3,7,8,4,5,6,9,10,11] follows (tpm ?_)
 obtain ⟨hq5,h0⟩:=aT h0
 refine tP rfl (dK rfl rfl hq5) (au 4 ?_)
 obtain ⟨v6,hv6,h0⟩:=bnd h0
 refine clt 4 (aHw hv6) ?_
 obtain ⟨hq7,h0⟩:=aT h0
 refine tP rfl (dK rfl rfl hq7) ?_
 obtain ⟨hq8,h0⟩:=aT h0
 refine tP rfl (dK rfl rfl hq8) ?_
 obtain ⟨v9,hv9,h0⟩:=bnd h0
 refine clt 4 (aBs hv9) ?_
 obtain ⟨hq10,h0⟩:=aT h0
 refine tP rfl (dK rfl rfl hq10) (au 4 ?_)
 cases h0
 exact r0t 2 rfl
theorem aCi {p0:jE} {r:ByteArray} (h0:mI p0=some r):FnC Tryz.prog 9 [] [.agg (lH p0.Sim)] [] (dS r):=by
 refine fi 15 tok Tryz.func9 ?_
 unfold mI at h0
 refine au 1 ?_
 refine bxx 3 ?_
 refine au 5 ?_
 obtain ⟨v1,hv1,h0⟩:=bnd h0
 refine cll 4 (aAn hv1) ?_
 refine au 2 ?_
 refine aiB h0 ?_ ?_ <;> intro hc h0
 refine au 5 ?_
 cases h0
 exact r0t 2 rfl
 refine au 2 ?_
 refine tdr [0,1,2,5,6,3,4,7,8,9] follows (au 5 ?_)
 obtain ⟨v2,hv2,h0⟩:=bnd h0
 refine clt 4 (aC9 hv2) ?_
 obtain ⟨hq3,h0⟩:=aT h0
 refine tP rfl (dK rfl rfl hq3) ?_
 obtain ⟨v4,hv4,h0⟩:=bnd h0
 refine clt 4 (aMg hv4) ?_
 obtain ⟨hq5,h0⟩:=aT h0
 refine tP rfl (dK rfl rfl hq5) (au 4 ?_)
 cases h0
 exact r0t 2 rfl
theorem aEz {p0:aD} {p1:Int} {p2:Int} {r:Bool} (h0:pQ p0 p1 p2=some r):FnC Tryz.prog 148 [] [.agg (cJ p0),(dI p1),(dI p2)] [] (dB r):=by
 refine fi 17 tok Tryz.func148 ?_
 unfold pQ at h0
 refine au 1 ?_
 refine bxx 3 ?_
 refine au 8 ?_
 refine rif 11 h0 ?_ ?_ <;> intro hc h0
 refine au 1 ?_
 obtain ⟨v1,hv1,h0⟩:=bnd h0
 refine cl1 4 (yS hv1) ?_
 refine au 6 ?_
 cases h0
 exact r0t 6 rfl
 refine au 8 ?_
 cases h0
 exact r0t 6 rfl
theorem aHz {p0:cH} {r:Bool} (h0:nE p0=some r):FnC Tryz.prog 81 [] [.agg (lH p0)] [] (dB r):=by
 refine fi 33 tok Tryz.func81 ?_
 unfold nE at h0
 refine au 1 ?_
 refine bxx 3 ?_
 refine au 5 ?_
 obtain ⟨v1,hv1,h0⟩:=bnd h0
 refine cll 4 (kN hv1) ?_
 refine au 2 ?_
 refine aiB h0 ?_ ?_ <;> intro hc h0
 refine au 5 ?_
 cases h0
 exact r0t 2 rfl
 refine au 3 ?_
 obtain ⟨v2,hv2,h0⟩:=bnd h0
 refine cll 4 (wZ hv2) ?_
 refine au 4 ?_
 refine al 4 xX tok ?_
 refine au 8 ?_
 refine rif 17 h0 ?_ ?_ <;> intro hc h0
 refine au 6 ?_
 obtain ⟨v3,hv3,h0⟩:=bnd h0
 refine cl1 5 (aEz hv3) ?_
 refine au 2 ?_
 refine riB 26 h0 ?_ ?_ <;> intro hc h0
 refine au 9 ?_
 cases h0
 exact r0t 2 rfl
 refine au 9 ?_
 cases h0
 exact r0t 2 rfl
 refine au 18 ?_
 cases h0
 exact r0t 2 rfl
theorem xC {p0:Int} {p1:Int} {r:Int} (h0:kO p0 p1=some r):FnC Tryz.prog 222 [] [dI p0,(dI p1)] [] (dI r):=by
 refine fi 16 tok Tryz.func222 ?_
 unfold kO at h0
 refine au 6 ?_
 obtain ⟨hq1,h0⟩:=aT h0
 refine rP rfl (lI rfl rfl hq1) (au 2 ?_)
 obtain ⟨v3,h1,h0⟩:=bnd h0
 refine aN ⟨aA aH 5 (dI v3),lk3 []⟩ ?_ ?_
 refine au 3 ?_
 obtain ⟨hq2,h1⟩:=aT h1
 refine rP rfl (eW rfl rfl hq2) (au 2 ?_)
 refine aif h1 ?_ ?_ <;> intro hc h1
 refine au 5 ?_
 cases h1
 exact wk [0,1,2]
 refine sk ?_
 cases h1
 exact wk [0,1,2]
 refine au 5 ?_
 cases h0
 exact r0t 4 rfl
theorem aF7 {p0:aB} {r:Int} (h0:lM p0=some r):FnC Tryz.prog 219 [] [.agg [dI p0.Num,(dI p0.Den)]] [] (dI r):=by
 refine fi 11 tok Tryz.func219 ?_
 unfold lM at h0
 refine au 1 ?_
 refine bxx 3 ?_
 refine au 5 ?_
 obtain ⟨v1,hv1,h0⟩:=bnd h0
 refine cll 4 (dD hv1) ?_
 refine au 2 ?_
 refine aiB h0 ?_ ?_ <;> intro hc h0
 refine au 5 ?_
 cases h0
 exact r0t 2 rfl
 refine au 6 ?_
 obtain ⟨v2,hv2,h0⟩:=bnd h0
 refine cll 4 (xC hv2) ?_
 refine au 3 ?_
 cases h0
 exact r0t 2 rfl
theorem aEm {p0:aG} {p1:Int} {p2:Int} {r:aB × Int} (h0:oH p0 p1 p2=some r):FnC Tryz.prog 149 [] [.agg (cX p0),(dI p1),(dI p2)] [] (.tup [.agg [dI r.1.Num,(dI r.1.Den)],(dI r.2)]):=by
 refine fi 52 tok Tryz.func149 ?_
 unfold oH at h0
 refine au 1 ?_
 refine bxx 3 ?_
 refine al 4 [z0,z0] tok ?_
 refine au 5 ?_
 obtain ⟨v1,hv1,h0⟩:=bnd h0
 refine cll 5 (aEq hv1) ?_
 refine au 3 ?_
 refine al 5 [z0,z0] tok ?_
 refine au 8 ?_
 refine aif h0 ?_ ?_ <;> intro hc h0
 refine au 1 ?_
 refine rpb tok [z0,z0] ?_
 refine au 6 ?_
 cases h0
 exact cG (rs:=[.cell 6 92, .tmp 7]) rfl
 refine au 4 ?_
 obtain ⟨v2,hv2,h0⟩:=bnd h0
 refine cll 6 (bK hv2) ?_
 refine au 2 ?_
 refine aiB h0 ?_ ?_ <;> intro hc h0
 refine au 1 ?_
 refine rpb tok [z0,z0] ?_
 refine au 5 ?_
 cases h0
 exact cG (rs:=[.cell 6 92, .tmp 7]) rfl
 refine au 3 ?_
 obtain ⟨v3,hv3,h0⟩:=bnd h0
 refine cll 6 (kX hv3) ?_
 refine au 3 ?_
 refine al 6 [z0,z0] tok ?_
 refine au 8 ?_
 refine aif h0 ?_ ?_ <;> intro hc h0
 refine au 1 ?_
 refine rpb tok [z0,z0] ?_
 refine au 6 ?_
 cases h0
 exact cG (rs:=[.cell 6 92, .tmp 7]) rfl
 refine au 4 ?_
 obtain ⟨v4,hv4,h0⟩:=bnd h0
 refine cll 7 (wU hv4) ?_
 refine au 3 ?_
 refine al 7 [z0,z0] tok ?_
 refine au 8 ?_
 refine aif h0 ?_ ?_ <;> intro hc h0
 refine au 1 ?_
 refine rpb tok [z0,z0] ?_
 refine au 6 ?_
 cases h0
 exact cG (rs:=[.cell 6 92, .tmp 7]) rfl
 refine au 5 ?_
 obtain ⟨v5,hv5,h0⟩:=bnd h0
 refine clt 8 (aF7 hv5) ?_
 refine tP rfl (pbl (C0:=[z0,z0]) tok rfl rfl rfl) ?_
 obtain ⟨v6,hv6,h0⟩:=bnd h0
 refine clt 8 (aCk hv6) ?_
 refine au 7 ?_
 cases h0
 exact cG (rs:=[.cell 6 92, .tmp 7]) rfl
theorem aMb {p0:cH} {r:aB × aB × Int} (h0:rE p0=some r):FnC Tryz.prog 82 [] [.agg (lH p0)] [] (.tup [.agg [dI r.1.Num,(dI r.1.Den)], .agg [dI r.2.1.Num,(dI r.2.1.Den)],(dI r.2.2)]):=by
 refine fi 47 tok Tryz.func82 ?_
 unfold rE at h0
 refine au 1 ?_
 refine bxx 3 ?_
 refine al 4 [z0,z0] tok ?_
 refine al 5 [z0,z0] tok ?_
 refine au 5 ?_
 obtain ⟨v1,hv1,h0⟩:=bnd h0
 refine cll 6 (kN hv1) ?_
 refine au 2 ?_
 refine aiB h0 ?_ ?_ <;> intro hc h0
 refine au 1 ?_
 refine rpb tok [z0,z0] ?_
 refine rpb tok [z0,z0] ?_
 refine au 6 ?_
 cases h0
 exact cG (rs:=[.cell 2 92, .cell 3 92, .tmp 4]) rfl
 refine au 9 ?_
 obtain ⟨v2,hv2,h0⟩:=bnd h0
 refine cll 6 (aEm hv2) ?_
 refine au 3 ?_
 refine al 6 [z0,z0] tok ?_
 refine au 8 ?_
 refine aif h0 ?_ ?_ <;> intro hc h0
 refine au 1 ?_
 refine rpb tok [z0,z0] ?_
 refine rpb tok [z0,z0] ?_
 refine au 7 ?_
 cases h0
 exact cG (rs:=[.cell 2 92, .cell 3 92, .tmp 4]) rfl
 refine au 9 ?_
 obtain ⟨v3,hv3,h0⟩:=bnd h0
 refine cll 7 (aEm hv3) ?_
 refine au 3 ?_
 refine al 7 [z0,z0] tok ?_
 refine au 8 ?_
 refine aif h0 ?_ ?_ <;> intro hc h0
 refine au 1 ?_
 refine rpb tok [z0,z0] ?_
 refine rpb tok [z0,z0] ?_
 refine au 7 ?_
 cases h0
 exact cG (rs:=[.cell 2 92, .cell 3 92, .tmp 4]) rfl
 refine au 11 ?_
 cases h0
 exact cG (rs:=[.cell 2 92, .cell 3 92, .tmp 4]) rfl
theorem uK {p0:aD} {r:aD} (h0:gE p0=some r):FnC Tryz.prog 140 [(slB 40 7 (cJ p0))] [bA 0] [(slB 40 7 (cJ r))] (.tup []):=by
 refine fi 16 tok Tryz.func140 ?_
 unfold gE at h0
 refine au 12 ?_
 obtain ⟨hq1,h0⟩:=aT h0
 refine tP rfl (eW rfl rfl hq1) (au 4 ?_)
 cases h0
 exact nZ (rs:=[]) 1 rfl rfl
theorem wF {p0:aD} {p1:Int} {r:aD} (h0:fE p0 p1=some r):FnC Tryz.prog 139 [(slB 40 7 (cJ p0))] [bA 0,(dI p1)] [(slB 40 7 (cJ r))] (.tup []):=by
 refine fi 34 tok Tryz.func139 ?_
 unfold fE at h0
 refine au 24 ?_
 refine aif h0 ?_ ?_ <;> intro hc h0
 refine au 18 ?_
 obtain ⟨v1,hv1,h0⟩:=bnd h0
 refine rw1 rfl w0 rfl (eS [0] 300 (uK hv1) rfl rfl) (au 1 ?_)
 cases h0
 exact nZ (rs:=[]) 1 rfl rfl
 refine au 1 ?_
 cases h0
 exact nZ (rs:=[]) 1 rfl rfl
theorem tA {p0:aD} {r:aD} (h0:fK p0=some r):FnC Tryz.prog 141 [(slB 40 7 (cJ p0))] [bA 0] [(slB 40 7 (cJ r))] (.tup []):=by
 refine fi 15 tok Tryz.func141 ?_
 unfold fK at h0
 refine au 10 ?_
 obtain ⟨hq1,h0⟩:=aT h0
 refine tP rfl (eW rfl rfl hq1) (au 5 ?_)
 cases h0
 exact nZ (rs:=[]) 1 rfl rfl
theorem wE {p0:aD} {r:aD} (h0:fD p0=some r):FnC Tryz.prog 137 [(slB 40 7 (cJ p0))] [bA 0] [(slB 40 7 (cJ r))] (.tup []):=by
 refine fi 10 tok Tryz.func137 ?_
 unfold fD at h0
 refine au 5 ?_
 obtain ⟨v1,hv1,h0⟩:=bnd h0
 refine cll 3 (tX hv1) ?_
 obtain ⟨v2,hv2,h0⟩:=bnd h0
 refine rw1 rfl w0 rfl (eS [0] 300 (wF hv2) rfl rfl) (au 3 ?_)
 obtain ⟨v3,hv3,h0⟩:=bnd h0
 refine rw1 rfl w0 rfl (eS [0] 300 (tA hv3) rfl rfl) (au 1 ?_)
 cases h0
 exact nZ (rs:=[]) 1 rfl rfl
theorem aJ9 {p0:aC} {p1:aS} {r:aS} (h0:pO p0 p1=some r):FnC Tryz.prog 220 [] [.agg (aJ p0), .agg (dV p1)] [] (.agg (dV r)):=by
 refine fi 36 tok Tryz.func220 ?_
 unfold pO at h0
 refine au 1 ?_
 refine bxx 3 ?_
 refine bxx 4 ?_
 refine al 5 xX tok ?_
 refine au 8 ?_
 obtain ⟨v3,h1,h0⟩:=bnd h0
 refine aN ⟨aA (aA (aA aH 2 (bA 3)) 3 (bA 4)) 4 (bA 5),lk3 [(slB 33 4 (aJ p0)),(slB 38 3 (dV v3)),slB 38 3 xX]⟩ ?_ ?_
 refine au 1 ?_
 refine tdr [0,1,2,3,4,5,7,8,6,9,10] follows (au 8 ?_)
 obtain ⟨v1,hv1,h1⟩:=bnd h1
 refine clt 6 (mP hv1) ?_
 obtain ⟨v2,hv2,h1⟩:=bnd h1
 refine clt 6 (iT hv2) ?_
 refine au 3 ?_
 refine aif h1 ?_ ?_ <;> intro hc h1
 refine au 11 ?_
 cases h1
 exact wk [0,1,2,3,4,5]
 refine sk ?_
 cases h1
 exact wk [0,1,2,3,4,5]
 obtain ⟨v5,h1,h0⟩:=bnd h0
 refine aN ⟨aA (aA aH 3 (bA 3)) 4 (bA 4),lk3 [(slB 38 3 (dV v5)),slB 38 3 xX]⟩ ?_ ?_
 refine au 4 ?_
 obtain ⟨v4,hv4,h1⟩:=bnd h1
 refine cll 6 (aEu hv4) ?_
 refine au 2 ?_
 refine aiB h1 ?_ ?_ <;> intro hc h1
 refine au 11 ?_
 cases h1
 exact wk [0,1,2,4,5]
 refine sk ?_
 cases h1
 exact wk [0,1,2,4,5]
 refine au 5 ?_
 cases h0
 exact cG (rs:=[.cell 4 38]) rfl
theorem aF6 {p0:aC} {p1:aD} {p2:aS} {p3:Int} {r:Int × Int} (h0:lL p0 p1 p2 p3=some r):FnC Tryz.prog 151 [] [.agg (aJ p0), .agg (cJ p1), .agg (dV p2),(dI p3)] [] (.tup [dI r.1,(dI r.2)]):=by
 refine fi 59 tok Tryz.func151 ?_
 unfold lL at h0
 refine au 1 ?_
 refine bxx 3 ?_
 refine bxx 4 ?_
 refine bxx 5 ?_
 refine au 5 ?_
 obtain ⟨v3,h1,h0⟩:=bnd h0
 refine aN ⟨aA (aA (aA (aA (aA aH 3 (dI p3)) 4 (bA 3)) 5 (bA 4)) 6 (bA 5)) 11 (dB v3),lk3 [(slB 33 4 (aJ p0)),(slB 40 7 (cJ p1)),(slB 38 3 (dV p2))]⟩ ?_ ?_
 refine au 2 ?_
 obtain ⟨v1,hv1,h1⟩:=bnd h1
 refine cll 6 (fH hv1) ?_
 refine au 2 ?_
 refine riB 15 h1 ?_ ?_ <;> intro hc h1
 refine au 6 ?_
 cases h1
 exact wk [0,1,2,3,4,5]
 refine au 1 ?_
 obtain ⟨v2,hv2,h1⟩:=bnd h1
 refine cl1 6 (nH hv2) ?_
 refine au 4 ?_
 cases h1
 exact wk [0,1,2,3,4,5]
 refine aiB h0 ?_ ?_ <;> intro hc h0
 refine au 7 ?_
 cases h0
 exact cG (rs:=[.tmp 8, .tmp 9]) rfl
 obtain ⟨v6,h1,h0⟩:=bnd h0
 refine aN ⟨aA (aA (aA (aA (aA aH 3 (dI p3)) 4 (bA 3)) 5 (bA 4)) 6 (bA 5)) 20 (dB v6),lk3 [(slB 33 4 (aJ p0)),(slB 40 7 (cJ p1)),(slB 38 3 (dV p2))]⟩ ?_ ?_
 refine au 3 ?_
 obtain ⟨v4,hv4,h1⟩:=bnd h1
 refine cll 6 (uY hv4) ?_
 refine au 2 ?_
 refine riB 25 h1 ?_ ?_ <;> intro hc h1
 refine au 6 ?_
 cases h1
 exact wk [0,1,2,3,4,5]
 refine pm1 ?_
 obtain ⟨v5,hv5,h1⟩:=bnd h1
 refine cl1 6 (bK hv5) ?_
 refine au 4 ?_
 cases h1
 exact wk [0,1,2,3,4,5]
 refine aiB h0 ?_ ?_ <;> intro hc h0
 refine au 7 ?_
 cases h0
 exact cG (rs:=[.tmp 8, .tmp 9]) rfl
 refine au 6 ?_
 obtain ⟨v7,hv7,h0⟩:=bnd h0
 refine cll 6 (aEz hv7) ?_
 refine au 3 ?_
 refine aiB h0 ?_ ?_ <;> intro hc h0
 refine au 7 ?_
 cases h0
 exact cG (rs:=[.tmp 8, .tmp 9]) rfl
 refine au 3 ?_
 obtain ⟨v18x,h1,h0⟩:=bnd h0
 refine cF v18x (fun v18=>⟨aH,lk3 []⟩) ?_ ?_
 refine au 4 ?_
 refine aK (fun s13=>⟨aA (aA (aA (aA (aA aH 3 (dI p3)) 4 (bA 3)) 5 (bA 4)) 6 (bA 5)) 10 (dI s13.1),lk3 [(slB 33 4 (aJ p0)),(slB 40 7 (cJ s13.2.1)),(slB 38 3 (dV s13.2.2))]⟩) h1 ?_ (fun s13 y h2 => ?_)
 exact wk [0,1,2,3,4,5]
 refine au 6 ?_
 refine aif h2 ?_ ?_ <;> intro hc h2
 refine au 4 ?_
 obtain ⟨v14,hv14,h2⟩:=bnd h2
 refine rw1 rfl w0 rfl (eS [4] 300 (wE hv14) rfl rfl) (au 4 ?_)
 obtain ⟨v15,hv15,h2⟩:=bnd h2
 refine cll 6 (aJ9 hv15) ?_
 refine au 6 ?_
 obtain ⟨v16,hv16,h2⟩:=bnd h2
 refine cll 6 (oP hv16) ?_
 refine au 2 ?_
 refine aiB h2 ?_ ?_ <;> intro hc h2
 refine au 2 ?_
 refine aHo rfl (au 1 ?_)
 cases h2
 refine lpx fun e => ?_
 subst e
 refine au 2 ?_
 refine ⟨_,rfl,?_⟩
 exact wk [0,1,2]
 refine au 7 ?_
 obtain ⟨v17,hv17,h2⟩:=bnd h2
 refine cll 6 (aEz hv17) ?_
 refine au 2 ?_
 refine aiB h2 ?_ ?_ <;> intro hc h2
 refine au 8 ?_
 cases h2
 refine lpr fun e => ?_
 subst e
 refine au 1 ?_
 replace h0:=eO h0
 refine au 1 ?_
 cases h0
 exact cG (rs:=[.tmp 8, .tmp 9]) rfl
 refine au 8 ?_
 refine bD ?_
 cases h2
 refine ⟨_,rfl,?_⟩
 exact wk [0,1,2,3,4,5]
 refine au 2 ?_
 cases h2
 refine lpx fun e => ?_
 subst e
 refine au 2 ?_
 refine ⟨_,rfl,?_⟩
 exact wk [0,1,2]
 rintro v18 rfl
 replace h0:=gO h0
 refine au 5 ?_
 cases h0
 exact cG (rs:=[.tmp 8, .tmp 9]) rfl
theorem aGc {p0:cH} {p1:Int} {r:ByteArray × Int} (h0:lR p0 p1=some r):FnC Tryz.prog 84 [] [.agg (lH p0),(dI p1)] [] (.tup [dS r.1,(dI r.2)]):=by
 refine fi 40 tok Tryz.func84 ?_
 unfold lR at h0
 refine au 1 ?_
 refine bxx 3 ?_
 refine au 14 ?_
 obtain ⟨v1,hv1,h0⟩:=bnd h0
 refine cll 4 (qD hv1) ?_
 refine au 3 ?_
 refine al 5 aC7 tok ?_
 refine au 8 ?_
 refine aif h0 ?_ ?_ <;> intro hc h0
 refine au 7 ?_
 cases h0
 exact cG (rs:=[.tmp 4, .tmp 5]) rfl
 refine au 9 ?_
 obtain ⟨v2,hv2,h0⟩:=bnd h0
 refine rS rfl (fG 6 (aF6 hv2) rfl rfl) (au 8 ?_)
 obtain ⟨v3,hv3,h0⟩:=bnd h0
 refine cll 6 (bN hv3) ?_
 refine au 5 ?_
 cases h0
 exact cG (rs:=[.tmp 4, .tmp 5]) rfl
theorem aGe {p0:aB} {p1:Int} {r:aB × aB} (h0:tJ p0 p1=some r):FnC Tryz.prog 221 [] [.agg [dI p0.Num,(dI p0.Den)],(dI p1)] [] (.tup [.agg [dI r.1.Num,(dI r.1.Den)], .agg [dI r.2.Num,(dI r.2.Den)]]):=by
 refine fi 131 tok Tryz.func221 ?_
 unfold tJ at h0
 refine au 1 ?_
 refine bxx 3 ?_
 refine al 4 [z0,z0] tok ?_
 refine al 5 [z0,z0] tok ?_
 refine au 6 ?_
 obtain ⟨v1,hv1,h0⟩:=bnd h0
 refine cll 6 (xC hv1) ?_
 refine au 18 ?_
 refine rpb tok [z0,z0] ?_
 refine rpb tok [z0,z0] ?_
 refine al 6 [z0,z0] tok ?_
 refine al 7 [z0,z0] tok ?_
 refine au 3 ?_
 obtain ⟨v12,h1,h0⟩:=bnd h0
 refine aN ⟨aA (aA (aA (aA (aA aH 4 (bA 3)) 5 (bA 4)) 6 (dI v1)) 9 (bA 5)) 10 (bA 6),lk3 [(slB 92 2 [z0,z0]),(slB 92 2 [z0,z0]),(slB 92 2 [dI v12.1.Num,(dI v12.1.Den)]),(slB 92 2 [dI v12.2.Num,(dI v12.2.Den)])]⟩ ?_ ?_
 refine au 1 ?_
 refine aK (fun s7=>⟨aA (aA (aA (aA (aA (aA (aA (aA aH 1 (dI p1)) 4 (bA 3)) 5 (bA 4)) 6 (dI v1)) 7 (dI (w64 (p0.Num-(w64 (v1*p0.Den)))))) 8 (dI p0.Den)) 9 (bA 5)) 10 (bA 6),lk3 [(slB 92 2 [z0,z0]),(slB 92 2 [z0,z0]),(slB 92 2 [dI s7.1.Num,(dI s7.1.Den)]),(slB 92 2 [dI s7.2.Num,(dI s7.2.Den)])]⟩) h1 ?_ (fun s7 y h2 => ?_)
 exact wk [0,1,2,4,5,6,7]
 refine au 10 ?_
 refine aif h2 ?_ ?_ <;> intro hc h2
 refine au 31 ?_
 refine aif h2 ?_ ?_ <;> intro hc h2
 refine au 5 ?_
 obtain ⟨hq8,h2⟩:=aT h2
 refine tP rfl (lI rfl rfl hq8) (au 6 ?_)
 obtain ⟨hq9,h2⟩:=aT h2
 refine tP rfl (lI rfl rfl hq9) (tP rfl (aTv rfl rfl) (au 18 ?_))
 refine rpb tok [z0,z0] ?_
 refine au 3 ?_
 refine bD ?_
 cases h2
 refine ⟨_,rfl,?_⟩
 exact wk (.range 7)
 refine au 5 ?_
 obtain ⟨hq10,h2⟩:=aT h2
 refine tP rfl (lI rfl rfl hq10) (au 6 ?_)
 obtain ⟨hq11,h2⟩:=aT h2
 refine tP rfl (lI rfl rfl hq11) (tP rfl (aTv rfl rfl) (au 18 ?_))
 refine rpb tok [z0,z0] ?_
 refine au 3 ?_
 refine bD ?_
 cases h2
 refine ⟨_,rfl,?_⟩
 exact wk (.range 7)
 refine au 2 ?_
 cases h2
 refine lpx fun e => ?_
 subst e
 refine au 2 ?_
 exact wk (.range 7)
 refine au 31 ?_
 cases h0
 exact cG (rs:=[.cell 4 92, .cell 5 92]) rfl
theorem aDa {p0:aB} {p1:Int} {r:aB × aB × Int} (h0:qC p0 p1=some r):FnC Tryz.prog 152 [] [.agg [dI p0.Num,(dI p0.Den)],(dI p1)] [] (.tup [.agg [dI r.1.Num,(dI r.1.Den)], .agg [dI r.2.1.Num,(dI r.2.1.Den)],(dI r.2.2)]):=by
 refine fi 43 tok Tryz.func152 ?_
 unfold qC at h0
 refine au 1 ?_
 refine bxx 3 ?_
 refine al 4 [z0,z0] tok ?_
 refine al 5 [z0,z0] tok ?_
 refine au 5 ?_
 obtain ⟨v1,hv1,h0⟩:=bnd h0
 refine cll 6 (dD hv1) ?_
 refine au 2 ?_
 refine aiB h0 ?_ ?_ <;> intro hc h0
 refine au 1 ?_
 refine rpb tok [z0,z0] ?_
 refine rpb tok [z0,z0] ?_
 refine au 6 ?_
 cases h0
 exact cG (rs:=[.cell 4 92, .cell 5 92, .tmp 6]) rfl
 refine au 4 ?_
 obtain ⟨v2,hv2,h0⟩:=bnd h0
 refine cll 6 (bK hv2) ?_
 refine au 2 ?_
 refine aiB h0 ?_ ?_ <;> intro hc h0
 refine au 1 ?_
 refine rpb tok [z0,z0] ?_
 refine rpb tok [z0,z0] ?_
 refine au 6 ?_
 cases h0
 exact cG (rs:=[.cell 4 92, .cell 5 92, .tmp 6]) rfl
 refine au 8 ?_
 refine aif h0 ?_ ?_ <;> intro hc h0
 refine au 11 ?_
 cases h0
 exact cG (rs:=[.cell 4 92, .cell 5 92, .tmp 6]) rfl
 refine au 4 ?_
 obtain ⟨v3,hv3,h0⟩:=bnd h0
 refine cll 6 (aGe hv3) ?_
 refine au 3 ?_
 refine al 6 [z0,z0] tok ?_
 refine al 7 [z0,z0] tok ?_
 refine au 4 ?_
 obtain ⟨v6,h1,h0⟩:=bnd h0
 refine aN ⟨aA (aA (aA (aA (aA aH 4 (bA 3)) 5 (bA 4)) 7 (bA 5)) 8 (bA 6)) 38 (dB v6),lk3 [(slB 92 2 [z0,z0]),(slB 92 2 [z0,z0]),(slB 92 2 [dI v3.1.Num,(dI v3.1.Den)]),(slB 92 2 [dI v3.2.Num,(dI v3.2.Den)])]⟩ ?_ ?_
 refine au 2 ?_
 obtain ⟨v4,hv4,h1⟩:=bnd h1
 refine cll 8 (dD hv4) ?_
 refine au 2 ?_
 refine riB 34 h1 ?_ ?_ <;> intro hc h1
 refine au 5 ?_
 cases h1
 exact wk [0,1,2,4,5,6,7]
 refine au 1 ?_
 obtain ⟨v5,hv5,h1⟩:=bnd h1
 refine cl1 8 (dD hv5) ?_
 refine au 3 ?_
 cases h1
 exact wk [0,1,2,4,5,6,7]
 refine aiB h0 ?_ ?_ <;> intro hc h0
 refine au 1 ?_
 refine rpb tok [z0,z0] ?_
 refine rpb tok [z0,z0] ?_
 refine au 6 ?_
 cases h0
 exact cG (rs:=[.cell 4 92, .cell 5 92, .tmp 6]) rfl
 refine au 11 ?_
 cases h0
 exact cG (rs:=[.cell 4 92, .cell 5 92, .tmp 6]) rfl
theorem aF3 {p0:aB} {p1:Int} {r:aB × Int} (h0:tD p0 p1=some r):FnC Tryz.prog 85 [] [.agg [dI p0.Num,(dI p0.Den)],(dI p1)] [] (.tup [.agg [dI r.1.Num,(dI r.1.Den)],(dI r.2)]):=by
 refine fi 67 tok Tryz.func85 ?_
 unfold tD at h0
 refine au 1 ?_
 refine bxx 3 ?_
 refine al 4 [z0,z0] tok ?_
 refine au 5 ?_
 obtain ⟨v1,hv1,h0⟩:=bnd h0
 refine cll 5 (aDa hv1) ?_
 refine au 4 ?_
 refine al 5 [z0,z0] tok ?_
 refine al 6 [z0,z0] tok ?_
 refine au 9 ?_
 refine aif h0 ?_ ?_ <;> intro hc h0
 refine au 1 ?_
 refine rpb tok [z0,z0] ?_
 refine au 6 ?_
 cases h0
 exact cG (rs:=[.cell 4 92, .tmp 5]) rfl
 refine au 36 ?_
 obtain ⟨v2,h1,h0⟩:=bnd h0
 refine aN ⟨aA (aA (aA (aA aH 4 (bA 3)) 6 (bA 4)) 7 (bA 5)) 64 (dB v2),lk3 [(slB 92 2 [z0,z0]),(slB 92 2 [dI v1.1.Num,(dI v1.1.Den)]),(slB 92 2 [dI v1.2.1.Num,(dI v1.2.1.Den)])]⟩ ?_ ?_
 refine au 5 ?_
 refine rif 53 h1 ?_ ?_ <;> intro hc h1
 refine au 12 ?_
 cases h1
 exact wk [0,1,2,4,5,6]
 refine au 4 ?_
 refine rif 57 h1 ?_ ?_ <;> intro hc h1
 refine au 8 ?_
 cases h1
 exact wk [0,1,2,4,5,6]
 refine au 8 ?_
 cases h1
 exact wk [0,1,2,4,5,6]
 refine aiB h0 ?_ ?_ <;> intro hc h0
 refine au 7 ?_
 cases h0
 exact cG (rs:=[.cell 4 92, .tmp 5]) rfl
 refine au 7 ?_
 cases h0
 exact cG (rs:=[.cell 4 92, .tmp 5]) rfl
theorem aE2 {p0:aB} {r:List Int} (h0:vH p0=some r):FnC Tryz.prog 153 [] [.agg [dI p0.Num,(dI p0.Den)]] [slD 2 1 cI r] (bI 0 r):=by
 refine fi 27 tok Tryz.func153 ?_
 unfold vH at h0
 refine au 1 ?_
 refine bxx 3 ?_
 refine au 15 ?_
 obtain ⟨v7,h1,h0⟩:=bnd h0
 refine aN ⟨aA aH 3 (bI 3 v7),lk3 [slD 2 1 cI v7]⟩ ?_ ?_
 refine au 1 ?_
 refine aK (fun s4=>⟨aA (aA (aA aH 3 (bI 3 s4.2.2)) 4 (dI s4.1)) 5 (dI s4.2.1),lk3 [slD 2 1 cI s4.2.2]⟩) h1 ?_ (fun s4 y h2 => ?_)
 refine lJ.trans_ (aR 4 rfl 2 1 (d:=3) rfl) ?_
 exact wk [0,1,2,4]
 refine au 5 ?_
 refine aif h2 ?_ ?_ <;> intro hc h2
 refine au 5 ?_
 obtain ⟨v5,hv5,h2⟩:=bnd h2
 refine cll 4 (xC hv5) ?_
 refine au 5 ?_
 refine bsv tok cI [v5] ?_
 obtain ⟨hq6,h2⟩:=aT h2
 refine rw1 rfl w0 rfl (fJ tok hq6 rfl rfl rfl rfl rfl rfl rfl rfl rfl rfl rfl rfl (fun _=>rfl)) (au 13 ?_)
 refine bD ?_
 cases h2
 refine ⟨_,rfl,?_⟩
 exact wk [0,1,2,3]
 refine au 2 ?_
 cases h2
 refine lpx fun e => ?_
 subst e
 refine au 2 ?_
 exact wk [0,1,2,3]
 refine au 5 ?_
 cases h0
 exact bV (rs:=[.tmp 2]) [3] rfl
theorem aMh {p0:aB} {r:List Int × Int} (h0:zD p0=some r):FnC Tryz.prog 86 [] [.agg [dI p0.Num,(dI p0.Den)]] [slD 2 1 cI r.1] (.tup [bI 0 r.1,(dI r.2)]):=by
 refine fi 9 tok Tryz.func86 ?_
 unfold zD at h0
 refine au 1 ?_
 refine bxx 3 ?_
 refine au 6 ?_
 obtain ⟨v1,hv1,h0⟩:=bnd h0
 refine cll 4 (dD hv1) ?_
 refine au 2 ?_
 refine aiB h0 ?_ ?_ <;> intro hc h0
 refine au 4 ?_
 refine bL (aR 4 rfl 2 1 (d:=2) rfl) (au 2 ?_)
 cases h0
 exact bV (rs:=[.tmp 2, .tmp 3]) [4] rfl
 refine au 3 ?_
 obtain ⟨v2,hv2,h0⟩:=bnd h0
 refine cll 4 (aE2 hv2) ?_
 refine au 4 ?_
 cases h0
 exact bV (rs:=[.tmp 2, .tmp 3]) [4] rfl
theorem aDh {p0:ByteArray} {p1:Int} {r:ByteArray} (h0:wC p0 p1=some r):FnC Tryz.prog 154 [] [dS p0,(dI p1)] [] (dS r):=by
 obtain ⟨⟨q0,q1,q2,q3⟩,h0⟩:=aT h0
 cases h0
 obtain ⟨n,rfl⟩ : ∃ n:Nat,p1=n:=⟨p1.toNat,by omega⟩
 exact aUh q0 (by omega) q3
theorem aQe {p0:aB} {r:ByteArray × Int} (h0:aBr p0=some r):FnC Tryz.prog 87 [] [.agg [dI p0.Num,(dI p0.Den)]] [] (.tup [dS r.1,(dI r.2)]):=by
 refine fi 56 tok Tryz.func87 ?_
 unfold aBr at h0
 refine au 1 ?_
 refine bxx 3 ?_
 refine au 6 ?_
 obtain ⟨v1,hv1,h0⟩:=bnd h0
 refine cll 4 (dD hv1) ?_
 refine au 2 ?_
 refine aiB h0 ?_ ?_ <;> intro hc h0
 refine au 6 ?_
 cases h0
 exact cG (rs:=[.tmp 2, .tmp 3]) rfl
 refine au 7 ?_
 refine aif h0 ?_ ?_ <;> intro hc h0
 refine au 6 ?_
 cases h0
 exact cG (rs:=[.tmp 2, .tmp 3]) rfl
 refine au 3 ?_
 obtain ⟨v2,hv2,h0⟩:=bnd h0
 refine cll 4 (aE2 hv2) ?_
 refine au 7 ?_
 obtain ⟨v3,hv3,h0⟩:=bnd h0
 refine rL rfl (eV tok hv3 rfl rfl rfl rfl rfl rfl rfl rfl) (rL rfl (gI tok (eE hv3).2.1 rfl rfl rfl rfl rfl rfl) (au 1 ?_))
 obtain ⟨v4,hv4,h0⟩:=bnd h0
 refine rL rfl (eV tok hv4 rfl rfl rfl rfl rfl rfl rfl rfl) (rw0 rfl w0 (aA2 (cs:=[.d _]) tok (w64 (v3-1)) (eE hv4).2.1 rfl rfl rfl rfl rfl rfl rfl rfl) (au 4 ?_))
 obtain ⟨v9,h1,h0⟩:=bnd h0
 refine aN ⟨aA (aA aH 4 (.own 3 0 (List.set v2 (w64 ((v2.length:Int)-1)).toNat (w64 (v3-1))).length)) 5 (dI v9),lk3 [.live [⟨2,1, .data (List.map cI (List.set v2 (w64 ((v2.length:Int)-1)).toNat (w64 (v3-1))))⟩]]⟩ ?_ ?_
 refine au 2 ?_
 refine rL rfl (aTn tok rfl rfl rfl rfl (by first | (simp;done) | omega | (simp;omega))) (au 3 ?_)
 refine aK (fun s7=>⟨aA (aA (aA (aA (aA aH 4 (.own 3 0 (List.set v2 (w64 ((v2.length:Int)-1)).toNat (w64 (v3-1))).length)) 5 (dI s7.1)) 27 (.own 3 0 (List.set v2 (w64 ((v2.length:Int)-1)).toNat (w64 (v3-1))).length)) 28 (dI ((List.set v2 (w64 ((v2.length:Int)-1)).toNat (w64 (v3-1))).length:Int))) 29 (dI s7.2),lk3 [.live [⟨2,1, .data (List.map cI (List.set v2 (w64 ((v2.length:Int)-1)).toNat (w64 (v3-1))))⟩]]⟩) h1 ?_ (fun s7 y h2 => ?_)
 exact wk [0,1,2,4]
 refine au 4 ?_
 refine aif h2 ?_ ?_ <;> intro hc h2
 refine au 4 ?_
 obtain ⟨v8,hv8,h2⟩:=bnd h2
 refine rL rfl (eV tok hv8 rfl rfl rfl rfl rfl rfl rfl rfl) (rL rfl (gI tok (eE hv8).2.1 rfl rfl rfl rfl rfl rfl) (au 14 ?_))
 refine bD ?_
 cases h2
 refine ⟨_,rfl,?_⟩
 exact wk [0,1,2,3]
 refine au 2 ?_
 cases h2
 refine lpx fun e => ?_
 subst e
 refine au 2 ?_
 exact wk [0,1,2,3]
 refine au 5 ?_
 refine aif h0 ?_ ?_ <;> intro hc h0
 refine au 6 ?_
 cases h0
 exact cG (rs:=[.tmp 2, .tmp 3]) rfl
 refine au 2 ?_
 refine rS rfl (aX9 4 5 tok rfl rfl rfl) (nx ?_)
 obtain ⟨v22,h1,h0⟩:=bnd h0
 refine aN ⟨aA aH 8 (bA 3),lk3 [yG 71 5 3 v22]⟩ ?_ ?_
 refine au 6 ?_
 refine aK (fun s16=>⟨aA (aA (aA (aA aH 8 (bA 3)) 39 (.own 4 0 (List.set v2 (w64 ((v2.length:Int)-1)).toNat (w64 (v3-1))).length)) 40 (dI ((List.set v2 (w64 ((v2.length:Int)-1)).toNat (w64 (v3-1))).length:Int))) 41 (dI s16.1),lk3 [yG 71 5 3 s16.2, .live [⟨2,1, .data (List.map cI (List.set v2 (w64 ((v2.length:Int)-1)).toNat (w64 (v3-1))))⟩]]⟩) h1 ?_ (fun s16 y h2 => ?_)
 exact wk [0,1,2,4,3]
 refine au 4 ?_
 refine aif h2 ?_ ?_ <;> intro hc h2
 refine au 5 ?_
 obtain ⟨v17,hv17,h2⟩:=bnd h2
 refine rL rfl (eV tok hv17 rfl rfl rfl rfl rfl rfl rfl rfl) (rL rfl (gI tok (eE hv17).2.1 rfl rfl rfl rfl rfl rfl) (au 4 ?_))
 refine bso 5 tok cS [(⟨#[82]⟩:ByteArray),(⟨#[76]⟩:ByteArray)] ?_
 refine pm ?_
 refine rP rfl (eW rfl rfl (by decide)) ?_
 obtain ⟨v19,hv19,h2⟩:=bnd h2
 refine rL rfl (eV tok hv19 rfl rfl rfl rfl rfl rfl rfl rfl) (rL rfl (gI tok (eE hv19).2.1 rfl rfl rfl rfl rfl rfl) (pm ?_))
 obtain ⟨v20,hv20,h2⟩:=bnd h2
 refine cll 6 (aDh hv20) ?_
 obtain ⟨hq21,h2⟩:=aT h2
 refine rw1 rfl w0 rfl (bCp hq21 rfl rfl rfl) (au 7 ?_)
 refine bD ?_
 cases h2
 refine ⟨_,rfl,?_⟩
 exact wk [0,1,2,3,4]
 refine au 2 ?_
 cases h2
 refine lpx fun e => ?_
 subst e
 refine au 2 ?_
 exact wk [0,1,2,3]
 refine au 1 ?_
 refine rw1 rfl w0 rfl (bA1 rfl rfl rfl) (au 4 ?_)
 cases h0
 exact cG (rs:=[.tmp 2, .tmp 3]) rfl
theorem aH3 {p0:List dU} {r:ByteArray} (h0:uW p0=some r):FnC Tryz.prog 156 [] [dL eD p0] [] (dS r):=by
 refine fi 32 tok Tryz.func156 ?_
 unfold uW at h0
 refine au 6 ?_
 obtain ⟨v1,hv1,h0⟩:=bnd h0
 refine cll 3 (tF hv1) ?_
 refine au 2 ?_
 refine aiB h0 ?_ ?_ <;> intro hc h0
 refine au 5 ?_
 cases h0
 exact r0t 2 rfl
 refine au 7 ?_
 refine aif h0 ?_ ?_ <;> intro hc h0
 refine au 5 ?_
 cases h0
 exact r0t 2 rfl
 refine au 4 ?_
 obtain ⟨v16,h1,h0⟩:=bnd h0
 refine aN ⟨aA aH 3 (bI 3 v16),lk3 [slD 9 1 cS v16]⟩ ?_ ?_
 refine au 6 ?_
 refine aK (fun s9=>⟨aA (aA (aA (aA aH 3 (bI 3 s9.2)) 12 (dL eD p0)) 13 (dI (p0.length:Int))) 14 (dI s9.1),lk3 [slD 9 1 cS s9.2]⟩) h1 ?_ (fun s9 y h2 => ?_)
 refine lJ.trans_ (aR 3 rfl 9 1 (d:=3) rfl) ?_
 exact wk [0,1,2,3]
 refine au 4 ?_
 refine aif h2 ?_ ?_ <;> intro hc h2
 refine au 4 ?_
 obtain ⟨v10,hv10,h2⟩:=bnd h2
 refine rP rfl (bS tok hv10 rfl rfl rfl rfl rfl rfl) (au 1 ?_)
 refine al 4 [z0,z0] tok ?_
 refine au 2 ?_
 refine tdr [0,1,2,5,6,3,4,7,8,9,10,11] follows (au 5 ?_)
 obtain ⟨v11,hv11,h2⟩:=bnd h2
 refine clt 6 (bN hv11) ?_
 obtain ⟨hq12,h2⟩:=aT h2
 refine tP rfl (dK rfl rfl hq12) ?_
 obtain ⟨v13,hv13,h2⟩:=bnd h2
 refine clt 6 (bN hv13) ?_
 obtain ⟨hq14,h2⟩:=aT h2
 refine tP rfl (dK rfl rfl hq14) (aDz rfl w0 rfl rfl (fun hx hk=>aOg 5 tok cS [(v11++(⟨#[58]⟩:ByteArray))++v13] rfl rfl rfl (by repeat (first | exact Els.nil _ | apply Els.cons (cs:=[.d _]) rfl rfl rfl | apply Els.cons (cs:=_ :: _) rfl rfl rfl)) rfl rfl rfl (by repeat (first | exact pH.nil | (apply pH.cons; (repeat (first | exact aC6.nil | apply aC6.cons))))) rfl hk) ?_)
 obtain ⟨hq15,h2⟩:=aT h2
 refine aPe rfl w0 rfl (fJ tok hq15 rfl rfl rfl rfl rfl rfl rfl rfl rfl rfl rfl rfl (fun _=>rfl)) (au 8 ?_)
 refine bD ?_
 cases h2
 refine ⟨_,rfl,?_⟩
 exact wk [0,1,2,3]
 refine au 2 ?_
 cases h2
 refine lpx fun e => ?_
 subst e
 refine au 2 ?_
 exact wk [0,1,2,3]
 refine au 2 ?_
 obtain ⟨v17,hv17,h0⟩:=bnd h0
 refine rS rfl (fG 4 (pE hv17) rfl rfl) (au 3 ?_)
 cases h0
 exact r0t 2 rfl
theorem aH1 {p0:aCb} {r:ByteArray} (h0:uU p0=some r):FnC Tryz.prog 88 [] [.agg (aHi p0)] [] (dS r):=by
 refine fi 21 tok Tryz.func88 ?_
 unfold uU at h0
 refine au 1 ?_
 refine bxx 3 ?_
 refine au 3 ?_
 obtain ⟨v3,h1,h0⟩:=bnd h0
 refine aN ⟨aA (aA aH 1 (bA 3)) 12 (dB v3),lk3 [(slB 139 3 (aHi p0))]⟩ ?_ ?_
 refine au 3 ?_
 obtain ⟨v1,hv1,h1⟩:=bnd h1
 refine cll 4 (tF hv1) ?_
 refine au 2 ?_
 refine riB 7 h1 ?_ ?_ <;> intro hc h1
 refine au 6 ?_
 cases h1
 exact wk [0,1,2,3]
 refine au 2 ?_
 obtain ⟨v2,hv2,h1⟩:=bnd h1
 refine cl1 4 (dD hv2) ?_
 refine au 3 ?_
 cases h1
 exact wk [0,1,2,3]
 refine aiB h0 ?_ ?_ <;> intro hc h0
 refine au 5 ?_
 cases h0
 exact r0t 2 rfl
 refine au 2 ?_
 refine tdr [0,1,4,5,2,3,6,7,8] follows (au 4 ?_)
 obtain ⟨v4,hv4,h0⟩:=bnd h0
 refine clt 4 (aH3 hv4) ?_
 obtain ⟨hq5,h0⟩:=aT h0
 refine tP rfl (dK rfl rfl hq5) ?_
 obtain ⟨v6,hv6,h0⟩:=bnd h0
 refine clt 4 (kY hv6) ?_
 obtain ⟨hq7,h0⟩:=aT h0
 refine tP rfl (dK rfl rfl hq7) (au 4 ?_)
 cases h0
 exact r0t 2 rfl
theorem aV2 {p0:jE} {p1:fS} {r:ByteArray × Int} (h0:lD p0 p1=some r):FnC Tryz.prog 40 [] [.agg (lH p0.Sim), .agg (xW p1)] [] (.tup [dS r.1,(dI r.2)]):=by
 refine fi 129 tok Tryz.func40 ?_
 unfold lD at h0
 refine au 1 ?_
 refine bxx 3 ?_
 refine bxx 4 ?_
 refine au 3 ?_
 obtain ⟨v25x,h1,h0⟩:=bnd h0
 refine cF v25x (fun v25=>⟨aA aH 3 (bA 3),lk3 [(slB 94 8 (xW p1))]⟩) ?_ ?_
 refine au 9 ?_
 refine aif h1 ?_ ?_ <;> intro hc h1
 refine au 2 ?_
 obtain ⟨v1,hv1,h1⟩:=bnd h1
 refine cll 5 (aCi hv1) ?_
 refine au 5 ?_
 cases h1
 replace h0:=eO h0
 refine au 1 ?_
 cases h0
 exact cG (rs:=[.tmp 4, .tmp 5]) rfl
 refine au 4 ?_
 refine aif h1 ?_ ?_ <;> intro hc h1
 refine au 4 ?_
 obtain ⟨v2,hv2,h1⟩:=bnd h1
 refine cll 5 (aHz hv2) (nx ?_)
 refine aiB h1 ?_ ?_ <;> intro hc h1
 refine au 7 ?_
 cases h1
 replace h0:=eO h0
 refine au 1 ?_
 cases h0
 exact cG (rs:=[.tmp 4, .tmp 5]) rfl
 refine au 7 ?_
 cases h1
 replace h0:=eO h0
 refine au 1 ?_
 cases h0
 exact cG (rs:=[.tmp 4, .tmp 5]) rfl
 refine au 4 ?_
 refine aif h1 ?_ ?_ <;> intro hc h1
 refine au 3 ?_
 obtain ⟨v3,hv3,h1⟩:=bnd h1
 refine cll 5 (aMb hv3) ?_
 refine au 4 ?_
 refine al 5 [z0,z0] tok ?_
 refine al 6 [z0,z0] tok ?_
 refine au 5 ?_
 refine tdr [0,3,6,1,2,4,5,7,8] follows (au 3 ?_)
 obtain ⟨v4,hv4,h1⟩:=bnd h1
 refine clt 7 (kY hv4) ?_
 obtain ⟨hq5,h1⟩:=aT h1
 refine tP rfl (dK rfl rfl hq5) ?_
 obtain ⟨v6,hv6,h1⟩:=bnd h1
 refine clt 7 (kY hv6) ?_
 obtain ⟨hq7,h1⟩:=aT h1
 refine tP rfl (dK rfl rfl hq7) (au 6 ?_)
 cases h1
 replace h0:=eO h0
 refine au 1 ?_
 cases h0
 exact cG (rs:=[.tmp 4, .tmp 5]) rfl
 refine au 4 ?_
 refine aif h1 ?_ ?_ <;> intro hc h1
 refine au 6 ?_
 obtain ⟨v8,hv8,h1⟩:=bnd h1
 refine tP rfl (bS tok hv8 rfl rfl rfl rfl rfl rfl) (au 1 ?_)
 obtain ⟨v9,hv9,h1⟩:=bnd h1
 refine clt 5 (aGc hv9) ?_
 refine au 8 ?_
 cases h1
 replace h0:=eO h0
 refine au 1 ?_
 cases h0
 exact cG (rs:=[.tmp 4, .tmp 5]) rfl
 refine au 4 ?_
 refine aif h1 ?_ ?_ <;> intro hc h1
 refine au 6 ?_
 obtain ⟨v10,hv10,h1⟩:=bnd h1
 refine tP rfl (bS tok hv10 rfl rfl rfl rfl rfl rfl) (au 1 ?_)
 obtain ⟨v11,hv11,h1⟩:=bnd h1
 refine clt 6 (aF3 hv11) ?_
 refine au 3 ?_
 refine aDz rfl w0 rfl rfl (fun hx hk=>gH 5 (cs:=[z0,z0]) tok rfl rfl hk) (au 6 ?_)
 obtain ⟨v12,hv12,h1⟩:=bnd h1
 refine cll 6 (kY hv12) ?_
 refine au 6 ?_
 cases h1
 replace h0:=eO h0
 refine au 1 ?_
 cases h0
 exact cG (rs:=[.tmp 4, .tmp 5]) rfl
 refine au 4 ?_
 refine aif h1 ?_ ?_ <;> intro hc h1
 refine au 3 ?_
 obtain ⟨v13,hv13,h1⟩:=bnd h1
 refine cll 5 (aMh hv13) ?_
 refine au 9 ?_
 obtain ⟨v22,h2,h1⟩:=bnd h1
 refine aN ⟨aA (aA aH 12 (dI v13.2)) 13 (bI 3 v22),lk3 [slD 9 1 cS v22]⟩ ?_ ?_
 refine au 6 ?_
 refine aK (fun s18=>⟨aA (aA (aA (aA (aA aH 12 (dI v13.2)) 13 (bI 3 s18.2)) 80 (bI 4 v13.1)) 81 (dI (v13.1.length:Int))) 82 (dI s18.1),lk3 [(slD 9 1 cS s18.2),slD 2 1 cI v13.1]⟩) h2 ?_ (fun s18 y h3 => ?_)
 refine lJ.trans_ (aR 6 rfl 9 1 (d:=13) rfl) ?_
 exact wk [0,1,2,6,5]
 refine au 4 ?_
 refine aif h3 ?_ ?_ <;> intro hc h3
 refine au 4 ?_
 obtain ⟨v19,hv19,h3⟩:=bnd h3
 refine rL rfl (eV tok hv19 rfl rfl rfl rfl rfl rfl rfl rfl) (rL rfl (gI tok (eE hv19).2.1 rfl rfl rfl rfl rfl rfl) (au 5 ?_))
 obtain ⟨v20,hv20,h3⟩:=bnd h3
 refine cll 5 (bN hv20) ?_
 refine bsv tok cS [v20] ?_
 obtain ⟨hq21,h3⟩:=aT h3
 refine rw1 rfl w0 rfl (fJ tok hq21 rfl rfl rfl rfl rfl rfl rfl rfl rfl rfl rfl rfl (fun _=>rfl)) (au 8 ?_)
 refine bD ?_
 cases h3
 refine ⟨_,rfl,?_⟩
 exact wk [0,1,2,3,4]
 refine au 2 ?_
 cases h3
 refine lpx fun e => ?_
 subst e
 refine au 2 ?_
 exact wk [0,1,2,3]
 refine au 2 ?_
 obtain ⟨v23,hv23,h1⟩:=bnd h1
 refine rS rfl (fG 4 (pE hv23) rfl rfl) (au 6 ?_)
 cases h1
 replace h0:=eO h0
 refine au 1 ?_
 cases h0
 exact cG (rs:=[.tmp 4, .tmp 5]) rfl
 refine au 4 ?_
 refine aif h1 ?_ ?_ <;> intro hc h1
 refine au 3 ?_
 obtain ⟨v24,hv24,h1⟩:=bnd h1
 refine cll 5 (aQe hv24) ?_
 refine au 7 ?_
 cases h1
 replace h0:=eO h0
 refine au 1 ?_
 cases h0
 exact cG (rs:=[.tmp 4, .tmp 5]) rfl
 refine au 3 ?_
 cases h1
 refine ⟨_,rfl,?_⟩
 exact wk [0,1,2,4]
 rintro v25 rfl
 replace h0:=gO h0
 refine au 10 ?_
 obtain ⟨v26,hv26,h0⟩:=bnd h0
 refine tP rfl (bS tok hv26 rfl rfl rfl rfl rfl rfl) (au 2 ?_)
 obtain ⟨v27,hv27,h0⟩:=bnd h0
 refine tP rfl (bS tok hv27 rfl rfl rfl rfl rfl rfl) (au 2 ?_)
 obtain ⟨v28,hv28,h0⟩:=bnd h0
 refine tP rfl (bS tok hv28 rfl rfl rfl rfl rfl rfl) (au 2 ?_)
 obtain ⟨v29,hv29,h0⟩:=bnd h0
 refine tP rfl (bS tok hv29 rfl rfl rfl rfl rfl rfl) (au 2 ?_)
 obtain ⟨v30,hv30,h0⟩:=bnd h0
 refine tP rfl (bS tok hv30 rfl rfl rfl rfl rfl rfl) (au 1 ?_)
 refine tP rfl (pbl (C0:=bFg) tok rfl rfl rfl) ?_
 obtain ⟨v31,hv31,h0⟩:=bnd h0
 refine clt 5 (aAg hv31) ?_
 refine au 3 ?_
 refine aDz rfl w0 rfl rfl (fun hx hk=>gH 4 (cs:=bAo) tok rfl rfl hk) (au 6 ?_)
 obtain ⟨v32,hv32,h0⟩:=bnd h0
 refine cll 5 (aH1 hv32) ?_
 refine au 5 ?_
 cases h0
 exact cG (rs:=[.tmp 4, .tmp 5]) rfl
theorem aMk {p0:jE} {p1:List ByteArray} {r:jE × Bool × List ByteArray × Int} (h0:rK p0 p1=some r):FnC Tryz.prog 20 [] [.agg (lH p0.Sim),(dL cS p1)] [(slN 117 2 1 aF r.1.Sim.Movement.Works.Arbors),slF 2 1 aF r.1.Sim.Movement.Works.Arbors,slD 147 4 bH r.1.Sim.Movement.Works.Meshes,slD 127 3 aW r.1.Sim.Movement.Calendar.Months,slD 129 3 aM r.1.Sim.Movement.Calendar.Rules,slD 2 1 cI r.1.Sim.Movement.Cam,slD 2 1 cI r.1.Sim.Dial.Cam,slD 9 1 cS r.2.2.1] (.tup [.agg (kG r.1.Sim 0 2 3 4 5 6),(dB r.2.1),bI 7 r.2.2.1,(dI r.2.2.2)]):=by
 refine fi 65 tok Tryz.func20 ?_
 unfold rK at h0
 refine au 1 ?_
 refine bxx 3 ?_
 refine al 4 fX tok ?_
 refine au 6 ?_
 obtain ⟨v1,hv1,h0⟩:=bnd h0
 refine cll 5 (aEy hv1) ?_
 refine au 3 ?_
 refine al 6 aJo tok ?_
 refine au 8 ?_
 refine aiB h0 ?_ ?_ <;> intro hc h0
 refine au 1 ?_
 refine rpb tok fX ?_
 refine au 5 ?_
 refine wa 7 117 2 4 1 ?_
 refine bL (cT 8 (k:=7) 2 1 aF rfl rfl) (wa 9 147 4 4 2 ?_)
 refine wa 10 127 3 4 9 ?_
 refine wa 11 129 3 4 10 ?_
 refine wa 12 2 1 4 12 ?_
 refine wa 13 2 1 4 19 ?_
 refine bL (aR 14 rfl 9 1 (d:=6) rfl) (au 2 ?_)
 cases h0
 exact bV (rs:=[.cell 4 44, .tmp 5, .tmp 6, .tmp 7]) [7,8,9,10,11,12,13,14] rfl
 refine au 3 ?_
 refine bsv tok cS [(⟨#[99,111,114,114,101,99,116]⟩:ByteArray),(⟨#[100,101,115,105,103,110]⟩:ByteArray),(⟨#[112,117,115,104]⟩:ByteArray),(⟨#[114,117,110]⟩:ByteArray),(⟨#[115,101,116]⟩:ByteArray)] ?_
 refine au 2 ?_
 obtain ⟨v2,hv2,h0⟩:=bnd h0
 refine cll 7 (iL hv2) (nx ?_)
 refine aiB h0 ?_ ?_ <;> intro hc h0
 refine au 4 ?_
 obtain ⟨v3,hv3,h0⟩:=bnd h0
 refine rS rfl (fG 7 (aQg hv3) rfl rfl) (au 4 ?_)
 refine al 14 fX tok ?_
 refine au 6 ?_
 refine rpb tok fX ?_
 refine pm ?_
 refine bso 15 tok cS [v3.2.1] ?_
 refine au 8 ?_
 cases h0
 exact bV (rs:=[.cell 4 44, .tmp 5, .tmp 6, .tmp 7]) [7,8,9,10,11,12,13,15] rfl
 refine au 6 ?_
 obtain ⟨v4,hv4,h0⟩:=bnd h0
 refine rS rfl (fG 7 (aV1 hv4) rfl rfl) (au 11 ?_)
 refine aiB h0 ?_ ?_ <;> intro hc h0
 refine au 1 ?_
 refine rpb tok fX ?_
 refine au 7 ?_
 refine wa 8 117 2 4 1 ?_
 refine bL (cT 9 (k:=8) 2 1 aF rfl rfl) (wa 10 147 4 4 2 ?_)
 refine wa 11 127 3 4 9 ?_
 refine wa 12 129 3 4 10 ?_
 refine wa 13 2 1 4 12 ?_
 refine wa 14 2 1 4 19 ?_
 refine au 2 ?_
 cases h0
 exact bV (rs:=[.cell 4 44, .tmp 5, .tmp 6, .tmp 7]) [8,9,10,11,12,13,14,7] rfl
 refine au 4 ?_
 obtain ⟨v5,hv5,h0⟩:=bnd h0
 refine rS rfl (fG 8 (aV2 hv5) rfl rfl) (au 7 ?_)
 refine rpb tok fX ?_
 refine pm ?_
 refine bso 8 tok cS [v5.1] ?_
 refine au 6 ?_
 refine wa 9 117 2 4 1 ?_
 refine bL (cT 10 (k:=9) 2 1 aF rfl rfl) (wa 11 147 4 4 2 ?_)
 refine wa 12 127 3 4 9 ?_
 refine wa 13 129 3 4 10 ?_
 refine wa 14 2 1 4 12 ?_
 refine wa 15 2 1 4 19 ?_
 refine au 1 ?_
 cases h0
 exact bV (rs:=[.cell 4 44, .tmp 5, .tmp 6, .tmp 7]) [9,10,11,12,13,14,15,8] rfl
theorem aJ2 {p0:Int} {r:ByteArray} (h0:pL p0=some r):FnC Tryz.prog 22 [] [dI p0] [] (dS r):=by
 refine fi 17 tok Tryz.func22 ?_
 unfold pL at h0
 refine au 4 ?_
 refine bso 3 tok cS [(⟨#[111,107]⟩:ByteArray),(⟨#[105,110,118,97,108,105,100]⟩:ByteArray),(⟨#[114,97,110,103,101]⟩:ByteArray),(⟨#[110,111,116,45,102,111,117,110,100]⟩:ByteArray),(⟨#[101,120,105,115,116,115]⟩:ByteArray),(⟨#[102,117,108,108]⟩:ByteArray),(⟨#[115,116,97,116,101]⟩:ByteArray),(⟨#[115,121,110,116,97,120]⟩:ByteArray),(⟨#[102,111,114,109,97,116]⟩:ByteArray),(⟨#[108,111,111,112]⟩:ByteArray),(⟨#[98,114,111,107,101,110]⟩:ByteArray)] ?_
 refine au 3 ?_
 obtain ⟨v1,h1,h0⟩:=bnd h0
 refine aN ⟨aA (aA (aA aH 0 (dI p0)) 3 (bI 3 ([(⟨#[111,107]⟩:ByteArray),(⟨#[105,110,118,97,108,105,100]⟩:ByteArray),(⟨#[114,97,110,103,101]⟩:ByteArray),(⟨#[110,111,116,45,102,111,117,110,100]⟩:ByteArray),(⟨#[101,120,105,115,116,115]⟩:ByteArray),(⟨#[102,117,108,108]⟩:ByteArray),(⟨#[115,116,97,116,101]⟩:ByteArray),(⟨#[115,121,110,116,97,120]⟩:ByteArray),(⟨#[102,111,114,109,97,116]⟩:ByteArray),(⟨#[108,111,111,112]⟩:ByteArray),(⟨#[98,114,111,107,101,110]⟩:ByteArray)]))) 12 (dB v1),lk3 [.live [⟨9,1, .data (List.map cS [(⟨#[111,107]⟩:ByteArray),(⟨#[105,110,118,97,108,105,100]⟩:ByteArray),(⟨#[114,97,110,103,101]⟩:ByteArray),(⟨#[110,111,116,45,102,111,117,110,100]⟩:ByteArray),(⟨#[101,120,105,115,116,115]⟩:ByteArray),(⟨#[102,117,108,108]⟩:ByteArray),(⟨#[115,116,97,116,101]⟩:ByteArray),(⟨#[115,121,110,116,97,120]⟩:ByteArray),(⟨#[102,111,114,109,97,116]⟩:ByteArray),(⟨#[108,111,111,112]⟩:ByteArray),(⟨#[98,114,111,107,101,110]⟩:ByteArray)])⟩]]⟩ ?_ ?_
 refine au 4 ?_
 refine rif 7 h1 ?_ ?_ <;> intro hc h1
 refine au 6 ?_
 cases h1
 exact wk [0,1,2,3]
 refine au 6 ?_
 cases h1
 exact wk [0,1,2,3]
 refine aiB h0 ?_ ?_ <;> intro hc h0
 refine au 5 ?_
 cases h0
 exact r0t 2 rfl
 refine au 4 ?_
 obtain ⟨v2,hv2,h0⟩:=bnd h0
 refine rL rfl (eV tok hv2 rfl rfl rfl rfl rfl rfl rfl rfl) (rL rfl (gI tok (eE hv2).2.1 rfl rfl rfl rfl rfl rfl) (au 3 ?_))
 cases h0
 exact r0t 2 rfl
theorem wT {p0:jE} {p1:ByteArray} {r:jE × List ByteArray × Int} (h0:dX p0 p1=some r):FnC Tryz.prog 7 [] [.agg (lH p0.Sim),(dS p1)] [(slN 117 2 1 aF r.1.Sim.Movement.Works.Arbors),slF 2 1 aF r.1.Sim.Movement.Works.Arbors,slD 147 4 bH r.1.Sim.Movement.Works.Meshes,slD 127 3 aW r.1.Sim.Movement.Calendar.Months,slD 129 3 aM r.1.Sim.Movement.Calendar.Rules,slD 2 1 cI r.1.Sim.Movement.Cam,slD 2 1 cI r.1.Sim.Dial.Cam,slD 9 1 cS r.2.1] (.tup [.agg (kG r.1.Sim 0 2 3 4 5 6),bI 7 r.2.1,(dI r.2.2)]):=by
 refine fi 62 tok Tryz.func7 ?_
 unfold dX at h0
 refine au 1 ?_
 refine bxx 3 ?_
 refine al 4 fX tok ?_
 refine au 6 ?_
 obtain ⟨v1,hv1,h0⟩:=bnd h0
 refine cll 5 (aAn hv1) ?_
 refine au 2 ?_
 refine aiB h0 ?_ ?_ <;> intro hc h0
 refine au 1 ?_
 refine rpb tok fX ?_
 refine au 4 ?_
 refine wa 5 117 2 4 1 ?_
 refine bL (cT 6 (k:=5) 2 1 aF rfl rfl) (wa 7 147 4 4 2 ?_)
 refine wa 8 127 3 4 9 ?_
 refine wa 9 129 3 4 10 ?_
 refine wa 10 2 1 4 12 ?_
 refine wa 11 2 1 4 19 ?_
 refine bL (aR 12 rfl 9 1 (d:=5) rfl) (au 2 ?_)
 cases h0
 exact bV (rs:=[.cell 4 44, .tmp 5, .tmp 6]) [5,6,7,8,9,10,11,12] rfl
 refine au 3 ?_
 obtain ⟨v2,hv2,h0⟩:=bnd h0
 refine cll 5 (aMp hv2) ?_
 refine au 3 ?_
 obtain ⟨v8,h1,h0⟩:=bnd h0
 refine aN ⟨aA (aA (aA (aA aH 2 (bA 3)) 4 (bA 4)) 7 (bI 5 v2)) 34 (dB v8),lk3 [(slB 44 26 (lH p0.Sim)),slB 44 26 fX,slD 9 1 cS v2]⟩ ?_ ?_
 refine tdr [1,2,3,0,4,5,6,7,8,9,10,11,12,13,14,15,16] follows (au 1 ?_)
 obtain ⟨v3,hv3,h1⟩:=bnd h1
 refine jX rfl w0 rfl (eV tok hv3 rfl rfl rfl rfl rfl rfl rfl rfl) rfl rfl rfl (jX rfl w0 rfl (gI tok (eE hv3).2.1 rfl rfl rfl rfl rfl rfl) rfl rfl rfl ?_)
 obtain ⟨v4,hv4,h1⟩:=bnd h1
 refine clt 6 (aHy hv4) ?_
 obtain ⟨v5,hv5,h1⟩:=bnd h1
 refine aDe rfl w0 rfl (aR1 7 (iL hv5) rfl rfl) (au 2 ?_)
 refine qK (u:=24) h1 rfl (fun hc h1 => ?_) (fun hc h1 => ?_)
 refine au 12 ?_
 cases h1
 exact wk [0,1,2,3,4,5]
 refine au 3 ?_
 obtain ⟨v6,hv6,h1⟩:=bnd h1
 refine jX rfl (w1 rfl rfl rfl) rfl (eV tok hv6 rfl rfl rfl rfl rfl rfl rfl rfl) rfl rfl rfl (jX rfl (w1 rfl rfl rfl) rfl (gI tok (eE hv6).2.1 rfl rfl rfl rfl rfl rfl) rfl rfl rfl ?_)
 obtain ⟨v7,hv7,h1⟩:=bnd h1
 refine aDe rfl (w1 rfl rfl rfl) rfl (kH 7 (aEv hv7) rfl rfl rfl) (au 6 ?_)
 cases h1
 exact wk [0,1,2,3,4,5]
 refine aiB h0 ?_ ?_ <;> intro hc h0
 refine au 1 ?_
 refine rpb tok fX ?_
 refine au 4 ?_
 refine wa 6 117 2 4 1 ?_
 refine bL (cT 7 (k:=6) 2 1 aF rfl rfl) (wa 8 147 4 4 2 ?_)
 refine wa 9 127 3 4 9 ?_
 refine wa 10 129 3 4 10 ?_
 refine wa 11 2 1 4 12 ?_
 refine wa 12 2 1 4 19 ?_
 refine bL (aR 13 rfl 9 1 (d:=5) rfl) (au 2 ?_)
 cases h0
 exact bV (rs:=[.cell 4 44, .tmp 5, .tmp 6]) [6,7,8,9,10,11,12,13] rfl
 refine au 4 ?_
 obtain ⟨v9,hv9,h0⟩:=bnd h0
 refine rS rfl (fG 6 (aMk hv9) rfl rfl) (au 5 ?_)
 refine al 14 fX tok ?_
 refine au 10 ?_
 refine aif h0 ?_ ?_ <;> intro hc h0
 refine au 3 ?_
 obtain ⟨v10,hv10,h0⟩:=bnd h0
 refine cll 15 (rJ hv10) ?_
 refine rpb tok fX ?_
 refine pm ?_
 obtain ⟨v11,hv11,h0⟩:=bnd h0
 refine cll 22 (aJ2 hv11) ?_
 obtain ⟨hq12,h0⟩:=aT h0
 refine rP rfl (dK rfl rfl hq12) (bso 22 tok cS [(⟨#[101,114,114,111,114,32]⟩:ByteArray)++v11] ?_)
 refine au 6 ?_
 cases h0
 exact bV (rs:=[.cell 4 44, .tmp 5, .tmp 6]) [15,16,17,18,19,20,21,22] rfl
 refine sk ?_
 obtain ⟨v14,h1,h0⟩:=bnd h0
 refine aN ⟨aA (aA (aA aH 4 (bA 3)) 8 (bA 4)) 10 (bI 5 v9.2.2.1),lk3 [(slB 44 26 fX),(slB 44 26 [dS v14.1,bI 6 v14.2.2.2.2.2.2.2.2.2.2.2.2.2.2.2.2.2.2.1,bI 7 v14.2.2.2.2.2.2.2.2.2.2.2.2.2.2.2.2.2.2.2.1,(dI v14.2.1),(dI v14.2.2.1),(dI v14.2.2.2.1),(dI v14.2.2.2.2.1),(dI v14.2.2.2.2.2.1),(dS v14.2.2.2.2.2.2.1),bI 8 v14.2.2.2.2.2.2.2.2.2.2.2.2.2.2.2.2.2.2.2.2.1,bI 9 v14.2.2.2.2.2.2.2.2.2.2.2.2.2.2.2.2.2.2.2.2.2.1,(dI v14.2.2.2.2.2.2.2.1),bI 10 v14.2.2.2.2.2.2.2.2.2.2.2.2.2.2.2.2.2.2.2.2.2.2.1,(dI v14.2.2.2.2.2.2.2.2.1),(dI v14.2.2.2.2.2.2.2.2.2.1.Year),(dI v14.2.2.2.2.2.2.2.2.2.1.Month),(dI v14.2.2.2.2.2.2.2.2.2.1.Day),(dI v14.2.2.2.2.2.2.2.2.2.2.1),(dI v14.2.2.2.2.2.2.2.2.2.2.2.1),bI 11 v14.2.2.2.2.2.2.2.2.2.2.2.2.2.2.2.2.2.2.2.2.2.2.2,(dI v14.2.2.2.2.2.2.2.2.2.2.2.2.1),(dI v14.2.2.2.2.2.2.2.2.2.2.2.2.2.1),(dI v14.2.2.2.2.2.2.2.2.2.2.2.2.2.2.1),(dI v14.2.2.2.2.2.2.2.2.2.2.2.2.2.2.2.1),(dI v14.2.2.2.2.2.2.2.2.2.2.2.2.2.2.2.2.1),(dI v14.2.2.2.2.2.2.2.2.2.2.2.2.2.2.2.2.2.1)]),slD 9 1 cS v9.2.2.1,slN 117 2 12 aF v14.2.2.2.2.2.2.2.2.2.2.2.2.2.2.2.2.2.2.1,slD 147 4 bH v14.2.2.2.2.2.2.2.2.2.2.2.2.2.2.2.2.2.2.2.1,slD 127 3 aW v14.2.2.2.2.2.2.2.2.2.2.2.2.2.2.2.2.2.2.2.2.1,slD 129 3 aM v14.2.2.2.2.2.2.2.2.2.2.2.2.2.2.2.2.2.2.2.2.2.1,slD 2 1 cI v14.2.2.2.2.2.2.2.2.2.2.2.2.2.2.2.2.2.2.2.2.2.2.1,slD 2 1 cI v14.2.2.2.2.2.2.2.2.2.2.2.2.2.2.2.2.2.2.2.2.2.2.2,slF 2 1 aF v14.2.2.2.2.2.2.2.2.2.2.2.2.2.2.2.2.2.2.1]⟩ ?_ ?_
 refine au 4 ?_
 refine aiB h1 ?_ ?_ <;> intro hc h1
 refine au 3 ?_
 obtain ⟨v13,hv13,h1⟩:=bnd h1
 refine cll 15 (rJ hv13) ?_
 refine rpb tok fX ?_
 refine au 2 ?_
 cases h1
 exact wk [0,1,2,4,14,13,15,17,18,19,20,21,16]
 refine sk ?_
 cases h1
 exact wk [0,1,2,4,14,13,6,8,9,10,11,12,7]
 refine au 8 ?_
 cases h0
 exact bV (rs:=[.cell 4 44, .tmp 5, .tmp 6]) [6,12,7,8,9,10,11,5] rfl
theorem aCz {p0:Int} {r:Bool} (h0:mU p0=some r):FnC Tryz.prog 158 [] [.d (.v (.int .u8 p0))] [] (dB r):=by
 refine fi 9 tok Tryz.func158 ?_
 unfold mU at h0
 refine au 7 ?_
 refine rif 5 h0 ?_ ?_ <;> intro hc h0
 refine au 6 ?_
 cases h0
 exact r0t 2 rfl
 refine au 6 ?_
 cases h0
 exact r0t 2 rfl
theorem aK0 {p0:Int} {r:Bool} (h0:pV p0=some r):FnC Tryz.prog 159 [] [.d (.v (.int .u8 p0))] [] (dB r):=by
 refine fi 9 tok Tryz.func159 ?_
 unfold pV at h0
 refine au 7 ?_
 refine rif 5 h0 ?_ ?_ <;> intro hc h0
 refine au 6 ?_
 cases h0
 exact r0t 2 rfl
 refine au 6 ?_
 cases h0
 exact r0t 2 rfl
theorem yB {p0:ByteArray} {r:Bool} (h0:mT p0=some r):FnC Tryz.prog 93 [] [dS p0] [] (dB r):=by
 refine fi 41 tok Tryz.func93 ?_
 unfold mT at h0
 refine au 4 ?_
 obtain ⟨v3,h1,h0⟩:=bnd h0
 refine aN ⟨aA (aA aH 0 (dS p0)) 16 (dB v3),lk3 []⟩ ?_ ?_
 refine au 4 ?_
 refine rif 6 h1 ?_ ?_ <;> intro hc h1
 refine au 11 ?_
 cases h1
 exact wk [0,1,2]
 refine au 5 ?_
 refine rif 11 h1 ?_ ?_ <;> intro hc h1
 refine au 6 ?_
 cases h1
 exact wk [0,1,2]
 refine pm1 ?_
 obtain ⟨v1,hv1,h1⟩:=bnd h1
 refine rp rfl (w1 rfl rfl rfl) rfl (aIy tok hv1 rfl rfl rfl rfl) ?_
 obtain ⟨v2,hv2,h1⟩:=bnd h1
 refine cl1 3 (aCz hv2) ?_
 refine au 3 ?_
 cases h1
 exact wk [0,1,2]
 refine aiB h0 ?_ ?_ <;> intro hc h0
 refine au 5 ?_
 cases h0
 exact r0t 2 rfl
 refine sk ?_
 obtain ⟨v18x,h1,h0⟩:=bnd h0
 refine cF v18x (fun v18=>⟨aH,lk3 []⟩) ?_ ?_
 refine au 4 ?_
 refine aK (fun s11=>⟨aA (aA aH 0 (dS p0)) 3 (dI s11),lk3 []⟩) h1 ?_ (fun s11 y h2 => ?_)
 exact wk [0,1,2]
 refine au 7 ?_
 refine aif h2 ?_ ?_ <;> intro hc h2
 refine au 3 ?_
 obtain ⟨v17,h3,h2⟩:=bnd h2
 refine aN ⟨aA (aA (aA aH 0 (dS p0)) 3 (dI s11)) 40 (dB v17),lk3 []⟩ ?_ ?_
 refine au 3 ?_
 obtain ⟨v12,hv12,h3⟩:=bnd h3
 refine rP rfl (aIy tok hv12 rfl rfl rfl rfl) ?_
 obtain ⟨v13,hv13,h3⟩:=bnd h3
 refine cll 3 (aCz hv13) ?_
 refine au 2 ?_
 refine riB 28 h3 ?_ ?_ <;> intro hc h3
 refine au 2 ?_
 obtain ⟨v14,hv14,h3⟩:=bnd h3
 refine rp rfl (w1 rfl rfl rfl) rfl (aIy tok hv14 rfl rfl rfl rfl) ?_
 obtain ⟨v15,hv15,h3⟩:=bnd h3
 refine cl1 3 (aK0 hv15) ?_
 refine au 3 ?_
 refine riB 35 h3 ?_ ?_ <;> intro hc h3
 refine au 2 ?_
 obtain ⟨v16,hv16,h3⟩:=bnd h3
 refine rp rfl (w1 rfl rfl rfl) rfl (aIy tok hv16 rfl rfl rfl rfl) (au 3 ?_)
 cases h3
 exact wk [0,1,2]
 refine au 6 ?_
 cases h3
 exact wk [0,1,2]
 refine au 13 ?_
 cases h3
 exact wk [0,1,2]
 refine aiB h2 ?_ ?_ <;> intro hc h2
 refine au 6 ?_
 cases h2
 refine lpr fun e => ?_
 subst e
 refine au 1 ?_
 replace h0:=eO h0
 refine au 1 ?_
 cases h0
 exact r0t 2 rfl
 refine au 8 ?_
 refine bD ?_
 cases h2
 refine ⟨_,rfl,?_⟩
 exact wk [0,1,2]
 refine au 2 ?_
 cases h2
 refine lpx fun e => ?_
 subst e
 refine au 2 ?_
 refine ⟨_,rfl,?_⟩
 exact wk [0,1,2]
 rintro v18 rfl
 replace h0:=gO h0
 refine au 4 ?_
 cases h0
 exact r0t 2 rfl
theorem dP {p0:Int} {p1:Int} {p2:Int} {r:Bool} (h0:cV p0 p1 p2=some r):FnC Tryz.prog 45 [] [dI p0,(dI p1),(dI p2)] [] (dB r):=by
 refine fi 15 tok Tryz.func45 ?_
 unfold cV at h0
 refine au 8 ?_
 refine rif 10 h0 ?_ ?_ <;> intro hc h0
 refine au 7 ?_
 cases h0
 exact r0t 6 rfl
 refine au 7 ?_
 cases h0
 exact r0t 6 rfl
theorem aC1 {p0:Int} {r:Bool} (h0:mV p0=some r):FnC Tryz.prog 96 [] [dI p0] [] (dB r):=by
 refine fi 5 tok Tryz.func96 ?_
 unfold mV at h0
 refine au 5 ?_
 obtain ⟨v1,hv1,h0⟩:=bnd h0
 refine cll 3 (dP hv1) ?_
 refine au 3 ?_
 cases h0
 exact r0t 2 rfl
theorem aK3 {p0:cD} {r:Bool} (h0:pW p0=some r):FnC Tryz.prog 160 [] [.ref (aF p0)] [] (dB r):=by
 refine fi 35 tok Tryz.func160 ?_
 unfold pW at h0
 refine au 3 ?_
 obtain ⟨v7x,h1,h0⟩:=bnd h0
 refine cF v7x (fun v7=>⟨aA aH 0 (.ref (aF p0)),lk3 []⟩) ?_ ?_
 refine au 4 ?_
 refine aK (fun s4=>⟨aA (aA aH 0 (.ref (aF p0))) 3 (dI s4),lk3 []⟩) h1 ?_ (fun s4 y h2 => ?_)
 exact wk [0,1,2]
 refine au 10 ?_
 refine aif h2 ?_ ?_ <;> intro hc h2
 refine au 9 ?_
 obtain ⟨v5,hv5,h2⟩:=bnd h2
 refine rP rfl (bS tok hv5 rfl rfl rfl rfl rfl rfl) (au 1 ?_)
 obtain ⟨v6,hv6,h2⟩:=bnd h2
 refine cll 3 (aC1 hv6) ?_
 refine au 2 ?_
 refine aiB h2 ?_ ?_ <;> intro hc h2
 refine au 6 ?_
 cases h2
 refine lpr fun e => ?_
 subst e
 refine au 1 ?_
 replace h0:=eO h0
 refine au 1 ?_
 cases h0
 exact r0t 2 rfl
 refine au 8 ?_
 refine bD ?_
 cases h2
 refine ⟨_,rfl,?_⟩
 exact wk [0,1,2]
 refine au 2 ?_
 cases h2
 refine lpx fun e => ?_
 subst e
 refine au 2 ?_
 refine ⟨_,rfl,?_⟩
 exact wk [0,1,2]
 rintro v7 rfl
 replace h0:=gO h0
 refine au 5 ?_
 obtain ⟨v8,hv8,h0⟩:=bnd h0
 refine cll 3 (yB hv8) ?_
 refine pm ?_
 refine riB 27 h0 ?_ ?_ <;> intro hc h0
 refine au 10 ?_
 cases h0
 exact r0t 2 rfl
 refine au 10 ?_
 cases h0
 exact r0t 2 rfl
theorem aNp {p0:aP} {p1:ByteArray} {r:Int} (h0:sB p0 p1=some r):FnC Tryz.prog 161 [] [.ref (fP p0),(dS p1)] [] (dI r):=by
 refine fi 26 tok Tryz.func161 ?_
 unfold sB at h0
 refine au 3 ?_
 obtain ⟨v5x,h1,h0⟩:=bnd h0
 refine cF v5x (fun v5=>⟨aH,lk3 []⟩) ?_ ?_
 refine au 4 ?_
 refine aK (fun s3=>⟨aA (aA (aA aH 0 (.ref (fP p0))) 1 (dS p1)) 5 (dI s3),lk3 []⟩) h1 ?_ (fun s3 y h2 => ?_)
 exact wk [0,1,2]
 refine au 10 ?_
 refine aif h2 ?_ ?_ <;> intro hc h2
 refine au 9 ?_
 obtain ⟨v4,hv4,h2⟩:=bnd h2
 refine rP rfl (bS tok hv4 rfl rfl rfl rfl rfl rfl) (au 5 ?_)
 refine aif h2 ?_ ?_ <;> intro hc h2
 refine au 7 ?_
 cases h2
 refine lpr fun e => ?_
 subst e
 refine au 1 ?_
 replace h0:=eO h0
 refine au 1 ?_
 cases h0
 exact r0t 4 rfl
 refine au 8 ?_
 refine bD ?_
 cases h2
 refine ⟨_,rfl,?_⟩
 exact wk [0,1,2]
 refine au 2 ?_
 cases h2
 refine lpx fun e => ?_
 subst e
 refine au 2 ?_
 refine ⟨_,rfl,?_⟩
 exact wk [0,1,2]
 rintro v5 rfl
 replace h0:=gO h0
 refine au 4 ?_
 cases h0
 exact r0t 4 rfl
theorem aC4 {p0:aP} {p1:Int} {p2:Int} {r:Bool} (h0:mW p0 p1 p2=some r):FnC Tryz.prog 227 [] [.ref (fP p0),(dI p1),(dI p2)] [] (dB r):=by
 refine fi 29 tok Tryz.func227 ?_
 unfold mW at h0
 refine au 11 ?_
 obtain ⟨v1,hv1,h0⟩:=bnd h0
 refine cll 3 (dP hv1) ?_
 refine pm ?_
 refine riB 15 h0 ?_ ?_ <;> intro hc h0
 refine au 6 ?_
 obtain ⟨v2,hv2,h0⟩:=bnd h0
 refine rp rfl (w1 rfl rfl rfl) rfl (bS tok hv2 rfl rfl rfl rfl rfl rfl) (au 4 ?_)
 obtain ⟨v3,hv3,h0⟩:=bnd h0
 refine cl1 3 (dP hv3) ?_
 refine au 4 ?_
 cases h0
 exact r0t 6 rfl
 refine au 16 ?_
 cases h0
 exact r0t 6 rfl
theorem aNr {p0:aP} {p1:bM} {r:Bool} (h0:sD p0 p1=some r):FnC Tryz.prog 162 [] [.ref (fP p0), .agg (oE p1)] [] (dB r):=by
 refine fi 26 tok Tryz.func162 ?_
 unfold sD at h0
 refine au 1 ?_
 refine bxx 3 ?_
 refine au 9 ?_
 refine rif 10 h0 ?_ ?_ <;> intro hc h0
 refine au 5 ?_
 obtain ⟨v1,hv1,h0⟩:=bnd h0
 refine cl1 4 (aC4 hv1) ?_
 refine au 2 ?_
 refine riB 18 h0 ?_ ?_ <;> intro hc h0
 refine au 5 ?_
 obtain ⟨v2,hv2,h0⟩:=bnd h0
 refine cl1 4 (aC4 hv2) ?_
 refine au 4 ?_
 cases h0
 exact r0t 4 rfl
 refine au 10 ?_
 cases h0
 exact r0t 4 rfl
 refine au 18 ?_
 cases h0
 exact r0t 4 rfl
theorem aK4 {p0:bM} {p1:bM} {r:Bool} (h0:pX p0 p1=some r):FnC Tryz.prog 228 [] [.agg (oE p0), .agg (oE p1)] [] (dB r):=by
 refine fi 36 tok Tryz.func228 ?_
 unfold pX at h0
 refine au 1 ?_
 refine bxx 3 ?_
 refine bxx 4 ?_
 refine au 5 ?_
 refine rP rfl (xI (a:=p0) (b:=p1) rfl rfl) (pm ?_)
 refine rif 8 h0 ?_ ?_ <;> intro hc h0
 refine au 30 ?_
 cases h0
 exact r0t 4 rfl
 refine au 6 ?_
 refine rif 14 h0 ?_ ?_ <;> intro hc h0
 refine au 7 ?_
 refine rif 21 h0 ?_ ?_ <;> intro hc h0
 refine au 7 ?_
 refine rif 28 h0 ?_ ?_ <;> intro hc h0
 refine au 10 ?_
 cases h0
 exact r0t 4 rfl
 refine au 10 ?_
 cases h0
 exact r0t 4 rfl
 refine au 17 ?_
 cases h0
 exact r0t 4 rfl
 refine au 24 ?_
 cases h0
 exact r0t 4 rfl
end Go.Proofs.YtbliejnpjpnahaaGreatDoor
