/- Texts of this claim, one behind the other (merged by a program of mine). -/
import Derived.Test.YtbliejnpjpnahaaGreatDoorProg
import Derived.Test.YtbliejnpjpnahaaGreatDoorGCz11
set_option linter.unusedSimpArgs false
set_option linter.unusedVariables false
namespace Go.Proofs.YtbliejnpjpnahaaGreatDoor
open Go.RowKit
set_option linter.unusedVariables false
set_option maxRecDepth 100000
set_option maxHeartbeats 2000000
theorem aAj {p0:aG} {r:List ByteArray} (h0:iB p0=some r):FnC Tryz.prog 67 [] [.agg (cX p0)] [slD 9 1 cS r] (bI 0 r):=by
 refine fi 65 tok Tryz.func67 ?_
 unfold iB at h0
 refine au 1 ?_
 refine bxx 3 ?_
 refine au 5 ?_
 obtain ⟨v1,hv1,h0⟩:=bnd h0
 refine cll 4 (iQ hv1) ?_
 refine au 2 ?_
 refine aiB h0 ?_ ?_ <;> intro hc h0
 refine au 1 ?_
 refine bso 4 tok cS [(⟨#[109,111,118,101,109,101,110,116]⟩:ByteArray)] ?_
 refine au 4 ?_
 cases h0
 exact bV (rs:=[.tmp 2]) [4] rfl
 refine au 9 ?_
 obtain ⟨v2,hv2,h0⟩:=bnd h0
 refine cll 4 (aCj hv2) ?_
 refine au 6 ?_
 obtain ⟨v10,h1,h0⟩:=bnd h0
 refine aN ⟨aA (aA aH 1 (bA 3)) 3 (bI 4 v10),lk3 [(slB 36 14 (cX p0)),slD 9 1 cS v10]⟩ ?_ ?_
 refine au 4 ?_
 refine aif h1 ?_ ?_ <;> intro hc h1
 refine au 2 ?_
 refine bsv tok cS [(⟨#[119,111,114,107,115]⟩:ByteArray)] ?_
 obtain ⟨hq3,h1⟩:=aT h1
 refine rS rfl (aXf 5 tok hq3 rfl rfl rfl rfl rfl rfl rfl rfl rfl rfl (fun _=>rfl)) (au 2 ?_)
 cases h1
 exact wk [0,1,2,3,5]
 obtain ⟨v6,h2,h1⟩:=bnd h1
 refine aN ⟨aA (aA (aA aH 1 (bA 3)) 3 (bI 4 v6)) 4 (bI 5 v2.1),lk3 [(slB 36 14 (cX p0)),slD 9 1 cS v6,slD 92 2 dR v2.1]⟩ ?_ ?_
 refine au 4 ?_
 obtain ⟨v4,hv4,h2⟩:=bnd h2
 refine rL rfl (eV tok hv4 rfl rfl rfl rfl rfl rfl rfl rfl) (rL rfl (uB tok (eE hv4).2.1 rfl rfl rfl rfl rfl) (rpb tok [z0,z0] ?_))
 refine rP rfl (vN (a:=v4) (b:=(⟨1,12⟩:aB)) rfl rfl) (nx ?_)
 refine aif h2 ?_ ?_ <;> intro hc h2
 refine au 2 ?_
 refine bsv tok cS [(⟨#[104,111,117,114]⟩:ByteArray)] ?_
 obtain ⟨hq5,h2⟩:=aT h2
 refine rS rfl (aXf 5 tok hq5 rfl rfl rfl rfl rfl rfl rfl rfl rfl rfl (fun _=>rfl)) (au 2 ?_)
 cases h2
 exact wk [0,1,2,3,5,4]
 refine sk ?_
 cases h2
 refine lJ.trans_ (aR 5 rfl 9 1 (d:=3) rfl) ?_
 exact wk [0,1,2,3,5,4]
 refine au 4 ?_
 obtain ⟨v7,hv7,h1⟩:=bnd h1
 refine rL rfl (eV tok hv7 rfl rfl rfl rfl rfl rfl rfl rfl) (rL rfl (uB tok (eE hv7).2.1 rfl rfl rfl rfl rfl) (al 6 [z0,z0] tok ?_))
 refine au 3 ?_
 refine tdr [0,1,2,3,4,7,8,9,10,11,5,6,12] follows (au 10 ?_)
 obtain ⟨v8,hv8,h1⟩:=bnd h1
 refine clt 7 (aH5 hv8) ?_
 refine au 4 ?_
 refine aif h1 ?_ ?_ <;> intro hc h1
 refine au 2 ?_
 refine bsv tok cS [(⟨#[98,101,97,116,115]⟩:ByteArray)] ?_
 obtain ⟨hq9,h1⟩:=aT h1
 refine rw1 rfl w0 rfl (fJ tok hq9 rfl rfl rfl rfl rfl rfl rfl rfl rfl rfl rfl rfl (fun _=>rfl)) (au 2 ?_)
 cases h1
 exact wk [0,1,2,3,4]
 refine sk ?_
 cases h1
 exact wk [0,1,2,3,4]
 obtain ⟨v13,h1,h0⟩:=bnd h0
 refine aN ⟨aA aH 3 (bI 3 v13),lk3 [slD 9 1 cS v13]⟩ ?_ ?_
 refine au 5 ?_
 obtain ⟨v11,hv11,h1⟩:=bnd h1
 refine cll 5 (rI hv11) ?_
 refine au 2 ?_
 refine aif h1 ?_ ?_ <;> intro hc h1
 refine au 2 ?_
 refine bsv tok cS [(⟨#[99,97,109]⟩:ByteArray)] ?_
 obtain ⟨hq12,h1⟩:=aT h1
 refine rw1 rfl w0 rfl (fJ tok hq12 rfl rfl rfl rfl rfl rfl rfl rfl rfl rfl rfl rfl (fun _=>rfl)) (au 2 ?_)
 cases h1
 exact wk [0,1,2,4]
 refine sk ?_
 cases h1
 exact wk [0,1,2,4]
 refine au 5 ?_
 cases h0
 exact bV (rs:=[.tmp 2]) [3] rfl
theorem aCl {p0:aC} {p1:List Int} {r:Int} (h0:mM p0 p1=some r):FnC Tryz.prog 131 [] [.agg (aJ p0),(dL cI p1)] [] (dI r):=by
 refine fi 19 tok Tryz.func131 ?_
 unfold mM at h0
 refine au 1 ?_
 refine bxx 3 ?_
 refine au 4 ?_
 obtain ⟨v3,h1,h0⟩:=bnd h0
 refine aN ⟨aA (aA (aA aH 1 (dL cI p1)) 2 (bA 3)) 5 (dB v3),lk3 [(slB 33 4 (aJ p0))]⟩ ?_ ?_
 refine au 2 ?_
 obtain ⟨v1,hv1,h1⟩:=bnd h1
 refine cll 4 (fH hv1) ?_
 refine au 2 ?_
 refine riB 9 h1 ?_ ?_ <;> intro hc h1
 refine au 6 ?_
 cases h1
 exact wk [0,1,2,3]
 refine pm1 ?_
 obtain ⟨v2,hv2,h1⟩:=bnd h1
 refine cl1 4 (sR hv2) ?_
 refine au 4 ?_
 cases h1
 exact wk [0,1,2,3]
 refine aiB h0 ?_ ?_ <;> intro hc h0
 refine au 6 ?_
 cases h0
 exact r0t 4 rfl
 refine au 3 ?_
 obtain ⟨v4,hv4,h0⟩:=bnd h0
 refine cll 4 (rI hv4) ?_
 refine au 3 ?_
 refine aif h0 ?_ ?_ <;> intro hc h0
 refine au 6 ?_
 cases h0
 exact r0t 4 rfl
 refine au 7 ?_
 cases h0
 exact r0t 4 rfl
theorem oP {p0:Int} {r:Bool} (h0:gL p0=some r):FnC Tryz.prog 109 [] [dI p0] [] (dB r):=by
 refine fi 5 tok Tryz.func109 ?_
 unfold gL at h0
 refine au 5 ?_
 obtain ⟨v1,hv1,h0⟩:=bnd h0
 refine cll 3 (bK hv1) ?_
 refine au 3 ?_
 cases h0
 exact r0t 2 rfl
theorem aEu {p0:aC} {p1:Int} {r:Bool} (h0:mE p0 p1=some r):FnC Tryz.prog 204 [] [.agg (aJ p0),(dI p1)] [] (dB r):=by
 refine fi 10 tok Tryz.func204 ?_
 unfold mE at h0
 refine au 1 ?_
 refine bxx 3 ?_
 refine au 7 ?_
 obtain ⟨v1,hv1,h0⟩:=bnd h0
 refine cll 4 (bK hv1) ?_
 refine au 3 ?_
 cases h0
 exact r0t 4 rfl
theorem uY {p0:aC} {p1:aS} {r:Bool} (h0:jG p0 p1=some r):FnC Tryz.prog 132 [] [.agg (aJ p0), .agg (dV p1)] [] (dB r):=by
 refine fi 31 tok Tryz.func132 ?_
 unfold jG at h0
 refine au 1 ?_
 refine bxx 3 ?_
 refine bxx 4 ?_
 refine au 3 ?_
 refine tdr [0,1,2,3,4,5,6,7,8,9,10,11,12,13,14,15,16,17,18,19,21,22,20,23,24,25,26] follows (au 1 ?_)
 obtain ⟨v1,hv1,h0⟩:=bnd h0
 refine clt 5 (fH hv1) ?_
 refine tpm ?_
 refine qK (u:=7) h0 rfl (fun hc h0 => ?_) (fun hc h0 => ?_)
 refine au 2 ?_
 obtain ⟨v2,hv2,h0⟩:=bnd h0
 refine aDe rfl (w1 rfl rfl rfl) rfl (kH 5 (oP hv2) rfl rfl rfl) (au 2 ?_)
 refine qK (u:=12) h0 rfl (fun hc h0 => ?_) (fun hc h0 => ?_)
 refine au 3 ?_
 obtain ⟨v3,hv3,h0⟩:=bnd h0
 refine aDe rfl (w1 rfl rfl rfl) rfl (kH 5 (aEu hv3) rfl rfl rfl) (au 2 ?_)
 refine qK (u:=18) h0 rfl (fun hc h0 => ?_) (fun hc h0 => ?_)
 refine au 8 ?_
 obtain ⟨v4,hv4,h0⟩:=bnd h0
 refine aDe rfl (w1 rfl rfl rfl) rfl (kH 5 (mP hv4) rfl rfl rfl) ?_
 obtain ⟨v5,hv5,h0⟩:=bnd h0
 refine aDe rfl (w1 rfl rfl rfl) rfl (kH 5 (iT hv5) rfl rfl rfl) ?_
 obtain ⟨v6,hv6,h0⟩:=bnd h0
 refine aDe rfl (w1 rfl rfl rfl) rfl (kH 5 (bK hv6) rfl rfl rfl) (au 5 ?_)
 cases h0
 exact r0t 4 rfl
 refine au 16 ?_
 cases h0
 exact r0t 4 rfl
 refine au 22 ?_
 cases h0
 exact r0t 4 rfl
 refine au 27 ?_
 cases h0
 exact r0t 4 rfl
theorem lV {p0:List Int} {r:Int} (h0:dM p0=some r):FnC Tryz.prog 133 [] [dL cI p0] [] (dI r):=by
 refine fi 25 tok Tryz.func133 ?_
 unfold dM at h0
 refine au 3 ?_
 obtain ⟨v1,h1,h0⟩:=bnd h0
 refine aN ⟨aA aH 0 (dL cI p0),lk3 []⟩ ?_ ?_
 refine au 5 ?_
 refine aif h1 ?_ ?_ <;> intro hc h1
 cases h1
 refine sk ?_
 cases h1
 exact wk [0,1,2]
 refine au 2 ?_
 obtain ⟨v2,hv2,h0⟩:=bnd h0
 refine rP rfl (bS tok hv2 rfl rfl rfl rfl rfl rfl) (au 3 ?_)
 obtain ⟨v7,h1,h0⟩:=bnd h0
 refine aN ⟨aA aH 3 (dI v7),lk3 []⟩ ?_ ?_
 refine au 4 ?_
 refine aK (fun s5=>⟨aA (aA (aA aH 0 (dL cI p0)) 3 (dI s5.1)) 4 (dI s5.2),lk3 []⟩) h1 ?_ (fun s5 y h2 => ?_)
 exact wk [0,1,2]
 refine au 7 ?_
 refine aif h2 ?_ ?_ <;> intro hc h2
 refine au 7 ?_
 obtain ⟨v6,hv6,h2⟩:=bnd h2
 refine rP rfl (bS tok hv6 rfl rfl rfl rfl rfl rfl) (au 1 ?_)
 refine rP rfl (aX1 rfl rfl) (au 9 ?_)
 refine bD ?_
 cases h2
 refine ⟨_,rfl,?_⟩
 exact wk [0,1,2]
 refine au 2 ?_
 cases h2
 refine lpx fun e => ?_
 subst e
 refine au 2 ?_
 exact wk [0,1,2]
 refine au 5 ?_
 cases h0
 exact r0t 2 rfl
theorem qD {p0:aC} {p1:List Int} {p2:aS} {p3:Int} {r:aD × Int} (h0:fY p0 p1 p2 p3=some r):FnC Tryz.prog 68 [] [.agg (aJ p0),(dL cI p1), .agg (dV p2),(dI p3)] [slD 2 1 cI r.1.Cam] (.tup [.agg (sP r.1 0),(dI r.2)]):=by
 refine fi 75 tok Tryz.func68 ?_
 unfold fY at h0
 refine au 1 ?_
 refine bxx 3 ?_
 refine bxx 4 ?_
 refine al 5 aC7 tok ?_
 refine au 6 ?_
 obtain ⟨v1,hv1,h0⟩:=bnd h0
 refine cll 6 (aCl hv1) ?_
 refine au 6 ?_
 refine aif h0 ?_ ?_ <;> intro hc h0
 refine au 1 ?_
 refine rpb tok aC7 ?_
 refine au 4 ?_
 refine wa 6 2 1 5 0 ?_
 refine au 2 ?_
 cases h0
 exact bV (rs:=[.cell 8 40, .tmp 9]) [6] rfl
 refine au 2 ?_
 obtain ⟨v4,h1,h0⟩:=bnd h0
 refine aN ⟨aA (aA (aA (aA (aA (aA aH 1 (dL cI p1)) 3 (dI p3)) 4 (bA 3)) 6 (bA 4)) 8 (bA 5)) 32 (dB v4),lk3 [(slB 33 4 (aJ p0)),(slB 38 3 (dV p2)),slB 40 7 aC7]⟩ ?_ ?_
 refine au 3 ?_
 obtain ⟨v2,hv2,h1⟩:=bnd h1
 refine cll 6 (uY hv2) ?_
 refine au 2 ?_
 refine riB 26 h1 ?_ ?_ <;> intro hc h1
 refine au 7 ?_
 cases h1
 exact wk [0,1,2,3,4,5]
 refine au 3 ?_
 obtain ⟨v3,hv3,h1⟩:=bnd h1
 refine cl1 6 (bK hv3) ?_
 refine au 3 ?_
 cases h1
 exact wk [0,1,2,3,4,5]
 refine aiB h0 ?_ ?_ <;> intro hc h0
 refine au 1 ?_
 refine rpb tok aC7 ?_
 refine au 3 ?_
 refine wa 6 2 1 5 0 ?_
 refine au 2 ?_
 cases h0
 exact bV (rs:=[.cell 8 40, .tmp 9]) [6] rfl
 refine au 3 ?_
 obtain ⟨v5,hv5,h0⟩:=bnd h0
 refine cll 6 (lV hv5) ?_
 refine au 2 ?_
 obtain ⟨v10,h1,h0⟩:=bnd h0
 refine aN ⟨aA (aA (aA (aA (aA (aA aH 1 (dL cI p1)) 3 (dI p3)) 4 (bA 3)) 6 (bA 4)) 8 (bA 5)) 11 (dI v10),lk3 [(slB 33 4 (aJ p0)),(slB 38 3 (dV p2)),slB 40 7 aC7]⟩ ?_ ?_
 refine au 7 ?_
 refine aK (fun s8=>⟨aA (aA (aA (aA (aA (aA (aA (aA (aA aH 1 (dL cI p1)) 3 (dI p3)) 4 (bA 3)) 6 (bA 4)) 8 (bA 5)) 11 (dI s8.1)) 37 (dL aW p0.Months)) 38 (dI (p0.Months.length:Int))) 39 (dI s8.2),lk3 [(slB 33 4 (aJ p0)),(slB 38 3 (dV p2)),slB 40 7 aC7]⟩) h1 ?_ (fun s8 y h2 => ?_)
 exact wk [0,1,2,3,4,5]
 refine au 4 ?_
 refine aif h2 ?_ ?_ <;> intro hc h2
 refine au 4 ?_
 obtain ⟨v9,hv9,h2⟩:=bnd h2
 refine rP rfl (bS tok hv9 rfl rfl rfl rfl rfl rfl) (au 1 ?_)
 refine al 6 aXh tok ?_
 refine au 8 ?_
 refine rP rfl (aZl rfl rfl rfl) (au 8 ?_)
 refine bD ?_
 cases h2
 refine ⟨_,rfl,?_⟩
 exact wk [0,1,2,3,4,5]
 refine au 2 ?_
 cases h2
 refine lpx fun e => ?_
 subst e
 refine au 2 ?_
 exact wk [0,1,2,3,4,5]
 refine au 7 ?_
 refine tdr [0,2,3,4,5,6,7,10,12,13,16,17,18,19,20,1,8,9,11,14,15,21,22,23] follows (au 15 ?_)
 obtain ⟨v11,hv11,h0⟩:=bnd h0
 refine clt 6 (dY hv11) ?_
 obtain ⟨v12,hv12,h0⟩:=bnd h0
 refine clt 7 (rI hv12) ?_
 obtain ⟨hq13,h0⟩:=aT h0
 refine tP rfl (eW rfl rfl hq13) (au 3 ?_)
 refine tP rfl (pbl (C0:=aC7) tok rfl rfl rfl) (au 5 ?_)
 cases h0
 exact bV (rs:=[.cell 8 40, .tmp 9]) [6] rfl
theorem aBq {p0:aG} {p1:aS} {p2:Int} {r:cH × Int} (h0:mJ p0 p1 p2=some r):FnC Tryz.prog 34 [] [.agg (cX p0), .agg (dV p1),(dI p2)] [(slN 117 2 1 aF r.1.Movement.Works.Arbors),slF 2 1 aF r.1.Movement.Works.Arbors,slD 147 4 bH r.1.Movement.Works.Meshes,slD 127 3 aW r.1.Movement.Calendar.Months,slD 129 3 aM r.1.Movement.Calendar.Rules,slD 2 1 cI r.1.Movement.Cam,slD 2 1 cI r.1.Dial.Cam] (.tup [.agg (kG r.1 0 2 3 4 5 6),(dI r.2)]):=by
 refine fi 39 tok Tryz.func34 ?_
 unfold mJ at h0
 refine au 1 ?_
 refine bxx 3 ?_
 refine bxx 4 ?_
 refine al 5 fX tok ?_
 refine au 5 ?_
 obtain ⟨v1,hv1,h0⟩:=bnd h0
 refine cll 6 (iQ hv1) ?_
 refine au 2 ?_
 refine aiB h0 ?_ ?_ <;> intro hc h0
 refine au 1 ?_
 refine rpb tok fX ?_
 refine au 3 ?_
 refine wa 6 117 2 5 1 ?_
 refine bL (cT 7 (k:=6) 2 1 aF rfl rfl) (wa 8 147 4 5 2 ?_)
 refine wa 9 127 3 5 9 ?_
 refine wa 10 129 3 5 10 ?_
 refine wa 11 2 1 5 12 ?_
 refine wa 12 2 1 5 19 ?_
 refine au 2 ?_
 cases h0
 exact bV (rs:=[.cell 6 42, .tmp 7]) [6,7,8,9,10,11,12] rfl
 refine au 4 ?_
 obtain ⟨v2,hv2,h0⟩:=bnd h0
 refine cll 6 (aAj hv2) ?_
 refine au 3 ?_
 refine aif h0 ?_ ?_ <;> intro hc h0
 refine au 1 ?_
 refine rpb tok fX ?_
 refine au 3 ?_
 refine wa 7 117 2 5 1 ?_
 refine bL (cT 8 (k:=7) 2 1 aF rfl rfl) (wa 9 147 4 5 2 ?_)
 refine wa 10 127 3 5 9 ?_
 refine wa 11 129 3 5 10 ?_
 refine wa 12 2 1 5 12 ?_
 refine wa 13 2 1 5 19 ?_
 refine au 2 ?_
 cases h0
 exact bV (rs:=[.cell 6 42, .tmp 7]) [7,8,9,10,11,12,13] rfl
 refine au 8 ?_
 obtain ⟨v3,hv3,h0⟩:=bnd h0
 refine cll 7 (qD hv3) ?_
 refine au 3 ?_
 refine al 8 aC7 tok ?_
 refine au 8 ?_
 refine aif h0 ?_ ?_ <;> intro hc h0
 refine au 1 ?_
 refine rpb tok fX ?_
 refine au 4 ?_
 refine wa 9 117 2 5 1 ?_
 refine bL (cT 10 (k:=9) 2 1 aF rfl rfl) (wa 11 147 4 5 2 ?_)
 refine wa 12 127 3 5 9 ?_
 refine wa 13 129 3 5 10 ?_
 refine wa 14 2 1 5 12 ?_
 refine wa 15 2 1 5 19 ?_
 refine au 2 ?_
 cases h0
 exact bV (rs:=[.cell 6 42, .tmp 7]) [9,10,11,12,13,14,15] rfl
 refine au 2 ?_
 refine tdr [0,2,3,4,1,5,6,7] follows (au 4 ?_)
 obtain ⟨v4,hv4,h0⟩:=bnd h0
 refine clt 9 (qE hv4) ?_
 refine tP rfl (pbl (C0:=fX) tok rfl rfl rfl) (au 5 ?_)
 cases h0
 exact bV (rs:=[.cell 6 42, .tmp 7]) [9,10,11,12,13,14,7] rfl
theorem aEs {p0:Int} {p1:Int} {p2:ByteArray} {p3:Int} {p4:Int} {r:cH × Int} (h0:oN p0 p1 p2 p3 p4=some r):FnC Tryz.prog 14 [] [dI p0,(dI p1),(dS p2),(dI p3),(dI p4)] [(slN 117 2 1 aF r.1.Movement.Works.Arbors),slF 2 1 aF r.1.Movement.Works.Arbors,slD 147 4 bH r.1.Movement.Works.Meshes,slD 127 3 aW r.1.Movement.Calendar.Months,slD 129 3 aM r.1.Movement.Calendar.Rules,slD 2 1 cI r.1.Movement.Cam,slD 2 1 cI r.1.Dial.Cam] (.tup [.agg (kG r.1 0 2 3 4 5 6),(dI r.2)]):=by
 refine fi 42 tok Tryz.func14 ?_
 unfold oN at h0
 refine au 1 ?_
 refine al 3 fX tok ?_
 refine au 4 ?_
 obtain ⟨v1,hv1,h0⟩:=bnd h0
 refine cll 4 (aBo hv1) ?_
 refine au 3 ?_
 refine al 6 aU0 tok ?_
 refine au 8 ?_
 refine aif h0 ?_ ?_ <;> intro hc h0
 refine au 1 ?_
 refine rpb tok fX ?_
 refine au 4 ?_
 refine wa 7 117 2 3 1 ?_
 refine bL (cT 8 (k:=7) 2 1 aF rfl rfl) (wa 9 147 4 3 2 ?_)
 refine wa 10 127 3 3 9 ?_
 refine wa 11 129 3 3 10 ?_
 refine wa 12 2 1 3 12 ?_
 refine wa 13 2 1 3 19 ?_
 refine au 2 ?_
 cases h0
 exact bV (rs:=[.cell 10 42, .tmp 11]) [7,8,9,10,11,12,13] rfl
 refine au 6 ?_
 obtain ⟨v2,hv2,h0⟩:=bnd h0
 refine rS rfl (fG 7 (aAi hv2) rfl rfl) (au 3 ?_)
 refine al 13 aRo tok ?_
 refine au 8 ?_
 refine aif h0 ?_ ?_ <;> intro hc h0
 refine au 1 ?_
 refine rpb tok fX ?_
 refine au 4 ?_
 refine wa 14 117 2 3 1 ?_
 refine bL (cT 15 (k:=14) 2 1 aF rfl rfl) (wa 16 147 4 3 2 ?_)
 refine wa 17 127 3 3 9 ?_
 refine wa 18 129 3 3 10 ?_
 refine wa 19 2 1 3 12 ?_
 refine wa 20 2 1 3 19 ?_
 refine au 2 ?_
 cases h0
 exact bV (rs:=[.cell 10 42, .tmp 11]) [14,15,16,17,18,19,20] rfl
 refine au 3 ?_
 refine rpb tok xX ?_
 refine pm ?_
 obtain ⟨v3,hv3,h0⟩:=bnd h0
 refine rS rfl (fG 14 (aBq hv3) rfl rfl) (au 6 ?_)
 cases h0
 exact bV (rs:=[.cell 10 42, .tmp 11]) [14,15,16,17,18,19,20] rfl
theorem aEo  {r:jE} (h0:kL  = some r):FnC Tryz.prog 6 [] [] [(slN 117 2 1 aF r.Sim.Movement.Works.Arbors),slF 2 1 aF r.Sim.Movement.Works.Arbors,slD 147 4 bH r.Sim.Movement.Works.Meshes,slD 127 3 aW r.Sim.Movement.Calendar.Months,slD 129 3 aM r.Sim.Movement.Calendar.Rules,slD 2 1 cI r.Sim.Movement.Cam,slD 2 1 cI r.Sim.Dial.Cam] (.agg (kG r.Sim 0 2 3 4 5 6)):=by
 refine fi 9 tok Tryz.func6 ?_
 unfold kL at h0
 refine au 1 ?_
 refine al 3 fX tok ?_
 refine au 2 ?_
 obtain ⟨v1,hv1,h0⟩:=bnd h0
 refine cll 4 (aEs hv1) ?_
 refine au 3 ?_
 refine al 11 fX tok ?_
 refine au 5 ?_
 refine rpb tok fX ?_
 refine au 3 ?_
 cases h0
 exact bV (rs:=[.cell 0 44]) [4,5,6,7,8,9,10] rfl
theorem nH {p0:aD} {r:Bool} (h0:eT p0=some r):FnC Tryz.prog 69 [] [.agg (cJ p0)] [] (dB r):=by
 refine fi 58 tok Tryz.func69 ?_
 unfold eT at h0
 refine au 1 ?_
 refine bxx 3 ?_
 refine au 3 ?_
 obtain ⟨v3,h1,h0⟩:=bnd h0
 refine aN ⟨aA (aA aH 1 (bA 3)) 20 (dB v3),lk3 [(slB 40 7 (cJ p0))]⟩ ?_ ?_
 refine au 3 ?_
 obtain ⟨v1,hv1,h1⟩:=bnd h1
 refine cll 4 (sR hv1) ?_
 refine au 2 ?_
 refine riB 7 h1 ?_ ?_ <;> intro hc h1
 refine au 14 ?_
 cases h1
 exact wk [0,1,2,3]
 refine au 5 ?_
 refine rif 12 h1 ?_ ?_ <;> intro hc h1
 refine au 9 ?_
 cases h1
 exact wk [0,1,2,3]
 refine au 5 ?_
 obtain ⟨hq2,h1⟩:=aT h1
 refine rp rfl (w1 rfl rfl rfl) rfl (eW rfl rfl hq2) (au 3 ?_)
 cases h1
 exact wk [0,1,2,3]
 refine aiB h0 ?_ ?_ <;> intro hc h0
 refine au 5 ?_
 cases h0
 exact r0t 2 rfl
 refine au 2 ?_
 obtain ⟨v5,h1,h0⟩:=bnd h0
 refine aN ⟨aA (aA aH 1 (bA 3)) 31 (dB v5),lk3 [(slB 40 7 (cJ p0))]⟩ ?_ ?_
 refine tdr [0,1,2,3,4,5,7,8,6,9,10] follows (au 4 ?_)
 refine aFg (u:=24) h1 rfl (fun hc h1 => ?_) (fun hc h1 => ?_)
 refine au 9 ?_
 cases h1
 exact wk [0,1,2,3]
 refine au 4 ?_
 obtain ⟨v4,hv4,h1⟩:=bnd h1
 refine aDe rfl (w1 rfl rfl rfl) rfl (kH 4 (lV hv4) rfl rfl rfl) (au 4 ?_)
 cases h1
 exact wk [0,1,2,3]
 refine aiB h0 ?_ ?_ <;> intro hc h0
 refine au 5 ?_
 cases h0
 exact r0t 2 rfl
 refine au 8 ?_
 obtain ⟨v6,hv6,h0⟩:=bnd h0
 refine cll 4 (bK hv6) ?_
 refine pm ?_
 refine riB 39 h0 ?_ ?_ <;> intro hc h0
 refine au 4 ?_
 obtain ⟨v7,hv7,h0⟩:=bnd h0
 refine cl1 4 (bK hv7) ?_
 refine au 2 ?_
 refine riB 46 h0 ?_ ?_ <;> intro hc h0
 refine au 2 ?_
 obtain ⟨v8,hv8,h0⟩:=bnd h0
 refine cl1 4 (bK hv8) ?_
 refine au 2 ?_
 refine riB 51 h0 ?_ ?_ <;> intro hc h0
 refine au 4 ?_
 obtain ⟨v9,hv9,h0⟩:=bnd h0
 refine cl1 4 (bK hv9) ?_
 refine au 4 ?_
 cases h0
 exact r0t 2 rfl
 refine au 9 ?_
 cases h0
 exact r0t 2 rfl
 refine au 14 ?_
 cases h0
 exact r0t 2 rfl
 refine au 21 ?_
 cases h0
 exact r0t 2 rfl
theorem sJ {p0:List Int} {p1:List Int} {r:Bool} (h0:dZ p0 p1=some r):FnC Tryz.prog 70 [] [dL cI p0,(dL cI p1)] [] (dB r):=by
 refine fi 26 tok Tryz.func70 ?_
 unfold dZ at h0
 refine au 11 ?_
 refine aif h0 ?_ ?_ <;> intro hc h0
 refine au 5 ?_
 cases h0
 exact r0t 4 rfl
 refine sk ?_
 obtain ⟨v7x,h1,h0⟩:=bnd h0
 refine cF v7x (fun v7=>⟨aH,lk3 []⟩) ?_ ?_
 refine au 6 ?_
 refine aK (fun s4=>⟨aA (aA (aA (aA aH 0 (dL cI p0)) 1 (dL cI p1)) 12 (dI (p0.length:Int))) 13 (dI s4),lk3 []⟩) h1 ?_ (fun s4 y h2 => ?_)
 exact wk [0,1,2]
 refine au 4 ?_
 refine aif h2 ?_ ?_ <;> intro hc h2
 refine au 11 ?_
 obtain ⟨v5,hv5,h2⟩:=bnd h2
 refine tP rfl (bS tok hv5 rfl rfl rfl rfl rfl rfl) (au 3 ?_)
 obtain ⟨v6,hv6,h2⟩:=bnd h2
 refine tP rfl (bS tok hv6 rfl rfl rfl rfl rfl rfl) (au 4 ?_)
 refine aif h2 ?_ ?_ <;> intro hc h2
 refine au 6 ?_
 cases h2
 refine lpr fun e => ?_
 subst e
 refine au 1 ?_
 replace h0:=eO h0
 refine au 1 ?_
 cases h0
 exact r0t 4 rfl
 refine au 7 ?_
 refine bD ?_
 cases h2
 refine ⟨_,rfl,?_⟩
 exact wk [0,1,2]
 refine au 2 ?_
 cases h2
 refine lpx fun e => ?_
 subst e
 refine au 2 ?_
 refine ⟨_,rfl,?_⟩
 exact wk [0,1,2]
 rintro v7 rfl
 replace h0:=gO h0
 refine au 4 ?_
 cases h0
 exact r0t 4 rfl
theorem kN {p0:cH} {r:Bool} (h0:eQ p0=some r):FnC Tryz.prog 35 [] [.agg (lH p0)] [] (dB r):=by
 refine fi 61 tok Tryz.func35 ?_
 unfold eQ at h0
 refine au 1 ?_
 refine bxx 3 ?_
 refine au 9 ?_
 obtain ⟨v1,hv1,h0⟩:=bnd h0
 refine cll 4 (aBq hv1) ?_
 refine au 3 ?_
 refine al 11 fX tok ?_
 refine au 4 ?_
 obtain ⟨v4,h1,h0⟩:=bnd h0
 refine aN ⟨aA (aA (aA aH 1 (bA 3)) 3 (bA 4)) 30 (dB v4),lk3 [(slB 42 26 (lH p0)),(slB 42 26 (kG v1.1 5 6 7 8 9 10)),slN 117 2 11 aF v1.1.Movement.Works.Arbors,slD 147 4 bH v1.1.Movement.Works.Meshes,slD 127 3 aW v1.1.Movement.Calendar.Months,slD 129 3 aM v1.1.Movement.Calendar.Rules,slD 2 1 cI v1.1.Movement.Cam,slD 2 1 cI v1.1.Dial.Cam,slF 2 1 aF v1.1.Movement.Works.Arbors]⟩ ?_ ?_
 refine au 4 ?_
 refine rif 19 h1 ?_ ?_ <;> intro hc h1
 refine au 12 ?_
 cases h1
 exact wk [0,1,2,3,11,4,6,7,8,9,10,5]
 refine au 2 ?_
 obtain ⟨v2,hv2,h1⟩:=bnd h1
 refine cl1 12 (bK hv2) ?_
 refine au 3 ?_
 refine riB 25 h1 ?_ ?_ <;> intro hc h1
 refine au 6 ?_
 cases h1
 exact wk [0,1,2,3,11,4,6,7,8,9,10,5]
 refine au 2 ?_
 obtain ⟨v3,hv3,h1⟩:=bnd h1
 refine cl1 12 (nH hv3) ?_
 refine au 3 ?_
 cases h1
 exact wk [0,1,2,3,11,4,6,7,8,9,10,5]
 refine aiB h0 ?_ ?_ <;> intro hc h0
 refine au 5 ?_
 cases h0
 exact r0t 2 rfl
 refine au 7 ?_
 refine aDz rfl w0 rfl rfl (fun hx hk=>gH 12 (cs:=aC7) tok rfl rfl hk) (aDz rfl w0 rfl rfl (fun hx hk=>gH 13 (cs:=aC7) tok rfl rfl hk) (au 9 ?_))
 obtain ⟨v5,hv5,h0⟩:=bnd h0
 refine rS rfl (fG 14 (sJ hv5) rfl rfl) (pm ?_)
 refine riB 40 h0 ?_ ?_ <;> intro hc h0
 refine au 7 ?_
 refine rif 47 h0 ?_ ?_ <;> intro hc h0
 refine au 7 ?_
 refine rif 54 h0 ?_ ?_ <;> intro hc h0
 refine au 9 ?_
 cases h0
 exact r0t 2 rfl
 refine au 9 ?_
 cases h0
 exact r0t 2 rfl
 refine au 16 ?_
 cases h0
 exact r0t 2 rfl
 refine au 23 ?_
 cases h0
 exact r0t 2 rfl
theorem aAn {p0:jE} {r:Bool} (h0:kZ p0=some r):FnC Tryz.prog 15 [] [.agg (lH p0.Sim)] [] (dB r):=by
 refine fi 6 tok Tryz.func15 ?_
 unfold kZ at h0
 refine au 1 ?_
 refine bxx 3 ?_
 refine au 5 ?_
 obtain ⟨v1,hv1,h0⟩:=bnd h0
 refine cll 4 (kN hv1) ?_
 refine au 3 ?_
 cases h0
 exact r0t 2 rfl
theorem aFs {p0 p1:ByteArray} {r:Int} (h0:nV p0 p1=some r):FnC Tryz.prog 113 [] [dS p0,(dS p1)] [] (dI r):=by
 obtain ⟨q0,h0⟩:=aT h0
 cases h0
 obtain ⟨⟨l⟩⟩:=p1
 match l,q0 with
 | [c],_=>exact aWw
theorem kA {p0 p1:ByteArray} {r:Int} (h0:eR p0 p1=some r):FnC Tryz.prog 185 [] [dS p0,(dS p1)] [] (dI r):=by
 obtain ⟨q0,h0⟩:=aT h0
 cases h0
 obtain ⟨⟨l⟩⟩:=p1
 match l,q0 with
 | [c],_=>exact aWx
theorem aFt {p0:ByteArray} {p1:ByteArray} {r:Int} (h0:iZ p0 p1=some r):FnC Tryz.prog 114 [] [dS p0,(dS p1)] [] (dI r):=by
 refine fi 8 tok Tryz.func114 ?_
 unfold iZ at h0
 refine au 6 ?_
 obtain ⟨v1,hv1,h0⟩:=bnd h0
 refine cll 3 (kA hv1) ?_
 refine au 3 ?_
 cases h0
 exact r0t 4 rfl
theorem aBa {p0:ByteArray} {p1:ByteArray} {p2:Int} {p3:Int} {r:List ByteArray} (h0:kC p0 p1 p2 p3=some r):FnC Tryz.prog 56 [] [dS p0,(dS p1),(dI p2),(dI p3)] [slD 9 1 cS r] (bI 0 r):=by
 refine fi 66 tok Tryz.func56 ?_
 unfold kC at h0
 refine au 8 ?_
 refine aif h0 ?_ ?_ <;> intro hc h0
 refine au 3 ?_
 refine bL (aR 3 rfl 9 1 (d:=8) rfl) (au 2 ?_)
 cases h0
 exact bV (rs:=[.tmp 8]) [3] rfl
 refine au 6 ?_
 refine aif h0 ?_ ?_ <;> intro hc h0
 cases h0
 refine sk ?_
 obtain ⟨v2,h1,h0⟩:=bnd h0
 refine aN ⟨aA (aA (aA (aA aH 0 (dS p0)) 1 (dS p1)) 2 (dI p2)) 3 (dI v2),lk3 []⟩ ?_ ?_
 refine au 4 ?_
 refine aif h1 ?_ ?_ <;> intro hc h1
 refine au 3 ?_
 obtain ⟨v1,hv1,h1⟩:=bnd h1
 refine cll 3 (aFs hv1) ?_
 refine au 3 ?_
 cases h1
 exact wk [0,1,2]
 refine sk ?_
 cases h1
 exact wk [0,1,2]
 refine au 5 ?_
 refine rP rfl (aTv rfl rfl) (au 4 ?_)
 obtain ⟨hq3,h0⟩:=aT h0
 refine rS rfl (aG4 3 tok (c:=cS) (⟨#[]⟩:ByteArray) hq3 rfl rfl rfl rfl rfl rfl rfl rfl rfl rfl rfl rfl rfl) (au 10 ?_)
 obtain ⟨v14,h1,h0⟩:=bnd h0
 refine aN ⟨aA (aA (aA aH 0 (dS v14.1)) 9 (bI 3 v14.2.2)) 10 (dI v14.2.1),lk3 [slD 9 1 cS v14.2.2]⟩ ?_ ?_
 refine au 1 ?_
 refine aK (fun s9=>⟨aA (aA (aA (aA (aA (aA aH 0 (dS s9.1)) 1 (dS p1)) 2 (dI p2)) 3 (dI (w64 ((min v2 (w64 ((p0.size:Int)+1)))-1)))) 9 (bI 3 s9.2.2)) 10 (dI s9.2.1),lk3 [slD 9 1 cS s9.2.2]⟩) h1 ?_ (fun s9 y h2 => ?_)
 exact wk [0,1,2,3]
 refine au 6 ?_
 refine aif h2 ?_ ?_ <;> intro hc h2
 refine au 5 ?_
 obtain ⟨v10,hv10,h2⟩:=bnd h2
 refine cll 4 (aFt hv10) ?_
 refine au 7 ?_
 refine aif h2 ?_ ?_ <;> intro hc h2
 refine au 2 ?_
 refine aHo rfl ?_
 cases h2
 refine lpx fun e => ?_
 subst e
 refine au 2 ?_
 exact wk [0,1,2,3]
 refine au 8 ?_
 obtain ⟨hq11,h2⟩:=aT h2
 refine rP rfl (aB1 tok hq11 rfl (.inl ⟨rfl,rfl⟩) (.inr ⟨_,_,rfl,rfl⟩) rfl rfl) ?_
 obtain ⟨v12,hv12,h2⟩:=bnd h2
 refine rL rfl (eV tok hv12 rfl rfl rfl rfl rfl rfl rfl rfl) (rw0 rfl w0 (aA2 (cs:=[.d _]) tok (s9.1.extract (0:Int).toNat (w64 (v10+p2)).toNat) (eE hv12).2.1 rfl rfl rfl rfl rfl rfl rfl rfl) (au 7 ?_))
 obtain ⟨hq13,h2⟩:=aT h2
 refine rP rfl (aB1 tok hq13 rfl (.inr ⟨_,_,rfl,rfl⟩) (.inl ⟨rfl,rfl⟩) rfl rfl) (au 8 ?_)
 refine bD ?_
 cases h2
 refine ⟨_,rfl,?_⟩
 exact wk [0,1,2,3]
 refine au 2 ?_
 cases h2
 refine lpx fun e => ?_
 subst e
 refine au 2 ?_
 exact wk [0,1,2,3]
 refine au 4 ?_
 obtain ⟨v15,hv15,h0⟩:=bnd h0
 refine rL rfl (eV tok hv15 rfl rfl rfl rfl rfl rfl rfl rfl) (rw0 rfl w0 (aA2 (cs:=[.d _]) tok v14.1 (eE hv15).2.1 rfl rfl rfl rfl rfl rfl rfl rfl) (au 5 ?_))
 obtain ⟨hq16,h0⟩:=aT h0
 refine rw1 rfl w0 rfl (bBm 4 tok hq16 rfl rfl rfl rfl rfl rfl (by first | (simp;done) | omega | (simp;omega)) rfl) (au 3 ?_)
 cases h0
 exact bV (rs:=[.tmp 8]) [4] rfl
theorem sK {p0:ByteArray} {p1:ByteArray} {r:List ByteArray} (h0:fQ p0 p1=some r):FnC Tryz.prog 26 [] [dS p0,(dS p1)] [slD 9 1 cS r] (bI 0 r):=by
 refine fi 8 tok Tryz.func26 ?_
 unfold fQ at h0
 refine au 6 ?_
 obtain ⟨v1,hv1,h0⟩:=bnd h0
 refine cll 3 (aBa hv1) ?_
 refine au 3 ?_
 cases h0
 exact bV (rs:=[.tmp 4]) [3] rfl
theorem aMp {p0:ByteArray} {r:List ByteArray} (h0:rR p0=some r):FnC Tryz.prog 16 [] [dS p0] [slD 9 1 cS r] (bI 0 r):=by
 refine fi 5 tok Tryz.func16 ?_
 unfold rR at h0
 refine au 5 ?_
 obtain ⟨v1,hv1,h0⟩:=bnd h0
 refine cll 3 (sK hv1) ?_
 refine au 3 ?_
 cases h0
 exact bV (rs:=[.tmp 2]) [3] rfl
theorem aHy  {r:List ByteArray} (h0:qO  = some r):FnC Tryz.prog 18 [] [] [slD 9 1 cS r] (bI 0 r):=by
 refine fi 2 tok Tryz.func18 ?_
 unfold qO at h0
 refine au 4 ?_
 refine bso 3 tok cS [(⟨#[99,111,114,114,101,99,116]⟩:ByteArray),(⟨#[100,101,115,105,103,110]⟩:ByteArray),(⟨#[102,97,117,108,116,115]⟩:ByteArray),(⟨#[104,97,110,100,115]⟩:ByteArray),(⟨#[110,101,97,114]⟩:ByteArray),(⟨#[112,97,114,116,115]⟩:ByteArray),(⟨#[112,97,116,104]⟩:ByteArray),(⟨#[112,117,115,104]⟩:ByteArray),(⟨#[114,105,103,104,116]⟩:ByteArray),(⟨#[114,117,110]⟩:ByteArray),(⟨#[115,101,116]⟩:ByteArray),(⟨#[115,104,111,119]⟩:ByteArray),(⟨#[115,112,101,101,100,115]⟩:ByteArray),(⟨#[116,101,114,109,115]⟩:ByteArray),(⟨#[116,114,97,105,110]⟩:ByteArray),(⟨#[119,114,111,110,103]⟩:ByteArray)] ?_
 refine au 3 ?_
 cases h0
 exact bV (rs:=[.tmp 0]) [3] rfl
theorem qI {p0:List ByteArray} {p1:ByteArray} {r:Int} (h0:gA p0 p1=some r):FnC Tryz.prog 36 [] [dL cS p0,(dS p1)] [] (dI r):=by
 refine fi 19 tok Tryz.func36 ?_
 unfold gA at h0
 refine au 3 ?_
 obtain ⟨v5x,h1,h0⟩:=bnd h0
 refine cF v5x (fun v5=>⟨aH,lk3 []⟩) ?_ ?_
 refine au 6 ?_
 refine aK (fun s3=>⟨aA (aA (aA (aA aH 0 (dL cS p0)) 1 (dS p1)) 7 (dI (p0.length:Int))) 8 (dI s3),lk3 []⟩) h1 ?_ (fun s3 y h2 => ?_)
 exact wk [0,1,2]
 refine au 4 ?_
 refine aif h2 ?_ ?_ <;> intro hc h2
 refine au 11 ?_
 obtain ⟨v4,hv4,h2⟩:=bnd h2
 refine rP rfl (bS tok hv4 rfl rfl rfl rfl rfl rfl) (au 3 ?_)
 refine aif h2 ?_ ?_ <;> intro hc h2
 refine au 7 ?_
 cases h2
 refine lpr fun e => ?_
 subst e
 refine au 1 ?_
 replace h0:=eO h0
 refine au 1 ?_
 cases h0
 exact r0t 4 rfl
 refine au 7 ?_
 refine bD ?_
 cases h2
 refine ⟨_,rfl,?_⟩
 exact wk [0,1,2]
 refine au 2 ?_
 cases h2
 refine lpx fun e => ?_
 subst e
 refine au 2 ?_
 refine ⟨_,rfl,?_⟩
 exact wk [0,1,2]
 rintro v5 rfl
 replace h0:=gO h0
 refine au 4 ?_
 cases h0
 exact r0t 4 rfl
theorem iL {p0:List ByteArray} {p1:ByteArray} {r:Bool} (h0:aE p0 p1=some r):FnC Tryz.prog 17 [] [dL cS p0,(dS p1)] [] (dB r):=by
 refine fi 9 tok Tryz.func17 ?_
 unfold aE at h0
 refine au 6 ?_
 obtain ⟨v1,hv1,h0⟩:=bnd h0
 refine cll 3 (qI hv1) ?_
 refine au 4 ?_
 cases h0
 exact r0t 4 rfl
theorem aEv {p0:ByteArray} {r:ByteArray} (h0:rM p0=some r):FnC Tryz.prog 19 [] [dS p0] [] (dS r):=by
 refine fi 21 tok Tryz.func19 ?_
 unfold rM at h0
 refine au 12 ?_
 refine aif h0 ?_ ?_ <;> intro hc h0
 refine au 6 ?_
 cases h0
 exact r0t 2 rfl
 refine au 4 ?_
 refine aif h0 ?_ ?_ <;> intro hc h0
 refine au 6 ?_
 cases h0
 exact r0t 2 rfl
 refine au 4 ?_
 refine aif h0 ?_ ?_ <;> intro hc h0
 refine au 6 ?_
 cases h0
 exact r0t 2 rfl
 obtain ⟨v1,h1,h0⟩:=bnd h0
 refine aN ⟨aA (aA aH 3 (dS p0)) 10 (dB v1),lk3 []⟩ ?_ ?_
 refine au 4 ?_
 refine aif h1 ?_ ?_ <;> intro hc h1
 refine sk ?_
 cases h1
 exact wk [0,1,2]
 refine au 4 ?_
 cases h1
 exact wk [0,1,2]
 refine aiB h0 ?_ ?_ <;> intro hc h0
 refine au 6 ?_
 cases h0
 exact r0t 2 rfl
 obtain ⟨v2,h1,h0⟩:=bnd h0
 refine aN ⟨aA (aA aH 3 (dS p0)) 13 (dB v2),lk3 []⟩ ?_ ?_
 refine au 4 ?_
 refine aif h1 ?_ ?_ <;> intro hc h1
 refine sk ?_
 cases h1
 exact wk [0,1,2]
 refine au 4 ?_
 refine aif h1 ?_ ?_ <;> intro hc h1
 refine sk ?_
 cases h1
 exact wk [0,1,2]
 refine au 4 ?_
 cases h1
 exact wk [0,1,2]
 refine aiB h0 ?_ ?_ <;> intro hc h0
 refine au 6 ?_
 cases h0
 exact r0t 2 rfl
 refine au 4 ?_
 refine aif h0 ?_ ?_ <;> intro hc h0
 refine au 6 ?_
 cases h0
 exact r0t 2 rfl
 refine au 4 ?_
 refine aif h0 ?_ ?_ <;> intro hc h0
 refine au 6 ?_
 cases h0
 exact r0t 2 rfl
 refine au 7 ?_
 cases h0
 exact r0t 2 rfl
theorem nG {p0:ByteArray} {r:Int × Bool} (h0:kM p0=some r):FnC Tryz.prog 71 [] [dS p0] [] (.tup [dI r.1,(dB r.2)]):=by
 obtain ⟨q0,h0⟩:=aT h0
 cases h0
 exact aZ0 q0
theorem sN {p0:ByteArray} {p1:ByteArray} {r:ByteArray × ByteArray × Bool} (h0:gY p0 p1=some r):FnC Tryz.prog 209 [] [dS p0,(dS p1)] [] (.tup [dS r.1,(dS r.2.1),(dB r.2.2)]):=by
 refine fi 23 tok Tryz.func209 ?_
 unfold gY at h0
 refine au 9 ?_
 obtain ⟨v1,hv1,h0⟩:=bnd h0
 refine cll 3 (kA hv1) ?_
 refine au 6 ?_
 refine aif h0 ?_ ?_ <;> intro hc h0
 refine au 4 ?_
 obtain ⟨hq2,h0⟩:=aT h0
 refine tP rfl (aB1 tok hq2 rfl (.inl ⟨rfl,rfl⟩) (.inr ⟨_,_,rfl,rfl⟩) rfl rfl) (au 5 ?_)
 obtain ⟨hq3,h0⟩:=aT h0
 refine tP rfl (aB1 tok hq3 rfl (.inr ⟨_,_,rfl,rfl⟩) (.inl ⟨rfl,rfl⟩) rfl rfl) (au 7 ?_)
 cases h0
 exact cG (rs:=[.tmp 4, .tmp 5, .tmp 6]) rfl
 refine au 8 ?_
 cases h0
 exact cG (rs:=[.tmp 4, .tmp 5, .tmp 6]) rfl
theorem aJg {p0:ByteArray} {p1:ByteArray} {r:ByteArray × ByteArray × Bool} (h0:vU p0 p1=some r):FnC Tryz.prog 136 [] [dS p0,(dS p1)] [] (.tup [dS r.1,(dS r.2.1),(dB r.2.2)]):=by
 refine fi 13 tok Tryz.func136 ?_
 unfold vU at h0
 refine au 8 ?_
 obtain ⟨v1,hv1,h0⟩:=bnd h0
 refine cll 3 (sN hv1) ?_
 refine au 8 ?_
 cases h0
 exact cG (rs:=[.tmp 4, .tmp 5, .tmp 6]) rfl
theorem kY {p0:aB} {r:ByteArray} (h0:fM p0=some r):FnC Tryz.prog 83 [] [.agg [dI p0.Num,(dI p0.Den)]] [] (dS r):=by
 refine fi 22 tok Tryz.func83 ?_
 unfold fM at h0
 refine au 1 ?_
 refine bxx 3 ?_
 refine au 6 ?_
 obtain ⟨v1,hv1,h0⟩:=bnd h0
 refine cll 4 (dD hv1) ?_
 refine au 3 ?_
 refine aiB h0 ?_ ?_ <;> intro hc h0
 refine au 6 ?_
 cases h0
 exact r0t 2 rfl
 refine au 6 ?_
 refine aif h0 ?_ ?_ <;> intro hc h0
 refine au 3 ?_
 obtain ⟨v2,hv2,h0⟩:=bnd h0
 refine cll 4 (bN hv2) ?_
 refine au 5 ?_
 cases h0
 exact r0t 2 rfl
 refine au 4 ?_
 refine tdr [0,1,4,5,2,3,6,7,8] follows (au 4 ?_)
 obtain ⟨v3,hv3,h0⟩:=bnd h0
 refine clt 4 (bN hv3) ?_
 obtain ⟨hq4,h0⟩:=aT h0
 refine tP rfl (dK rfl rfl hq4) ?_
 obtain ⟨v5,hv5,h0⟩:=bnd h0
 refine clt 4 (bN hv5) ?_
 obtain ⟨hq6,h0⟩:=aT h0
 refine tP rfl (dK rfl rfl hq6) (au 4 ?_)
 cases h0
 exact r0t 2 rfl
theorem aH2 {p0:ByteArray} {r:aB × Bool} (h0:uV p0=some r):FnC Tryz.prog 72 [] [dS p0] [] (.tup [.agg [dI r.1.Num,(dI r.1.Den)],(dB r.2)]):=by
 refine fi 46 tok Tryz.func72 ?_
 unfold uV at h0
 refine au 1 ?_
 refine al 3 [z0,z0] tok ?_
 refine au 4 ?_
 obtain ⟨v1,hv1,h0⟩:=bnd h0
 refine cll 4 (aJg hv1) ?_
 refine au 10 ?_
 obtain ⟨v2,hv2,h0⟩:=bnd h0
 refine cll 4 (nG hv2) ?_
 refine au 9 ?_
 obtain ⟨v4,h1,h0⟩:=bnd h0
 refine aN ⟨aA (aA (aA (aA (aA aH 0 (dS p0)) 2 (bA 3)) 7 (dI v2.1)) 8 (dB v4.1)) 9 (dI v4.2),lk3 [(slB 92 2 [z0,z0])]⟩ ?_ ?_
 refine au 3 ?_
 refine aiB h1 ?_ ?_ <;> intro hc h1
 refine au 5 ?_
 obtain ⟨v3,hv3,h1⟩:=bnd h1
 refine cll 4 (nG hv3) ?_
 refine au 9 ?_
 refine riB 30 h1 ?_ ?_ <;> intro hc h1
 refine au 4 ?_
 cases h1
 exact wk [0,1,2,3]
 refine au 4 ?_
 cases h1
 exact wk [0,1,2,3]
 refine sk ?_
 cases h1
 exact wk [0,1,2,3]
 refine au 3 ?_
 refine rpb tok [z0,z0] ?_
 refine al 4 [z0,z0] tok ?_
 refine au 3 ?_
 obtain ⟨v6,h1,h0⟩:=bnd h0
 refine aN ⟨aA (aA (aA aH 2 (bA 3)) 11 (bA 4)) 43 (dB v6),lk3 [(slB 92 2 [z0,z0]),(slB 92 2 [dI v2.1,(dI v4.2)])]⟩ ?_ ?_
 refine au 4 ?_
 refine riB 38 h1 ?_ ?_ <;> intro hc h1
 refine au 6 ?_
 cases h1
 exact wk [0,1,2,3,4]
 refine au 1 ?_
 obtain ⟨v5,hv5,h1⟩:=bnd h1
 refine cl1 5 (kY hv5) ?_
 refine pm1 ?_
 refine rp rfl (w1 rfl rfl rfl) rfl (aNg rfl rfl) (au 2 ?_)
 cases h1
 exact wk [0,1,2,3,4]
 refine aiB h0 ?_ ?_ <;> intro hc h0
 refine au 1 ?_
 refine rpb tok [z0,z0] ?_
 refine au 5 ?_
 cases h0
 exact cG (rs:=[.cell 2 92, .tmp 3]) rfl
 refine au 7 ?_
 cases h0
 exact cG (rs:=[.cell 2 92, .tmp 3]) rfl
theorem aCh {p0:aS} {r:ByteArray} (h0:kJ p0=some r):FnC Tryz.prog 53 [] [.agg (dV p0)] [] (dS r):=by
 refine fi 32 tok Tryz.func53 ?_
 unfold kJ at h0
 refine au 1 ?_
 refine bxx 3 ?_
 refine au 3 ?_
 obtain ⟨v4,h1,h0⟩:=bnd h0
 refine aN ⟨aA (aA aH 1 (bA 3)) 18 (dB v4),lk3 [(slB 38 3 (dV p0))]⟩ ?_ ?_
 refine au 3 ?_
 obtain ⟨v1,hv1,h1⟩:=bnd h1
 refine cll 4 (oP hv1) ?_
 refine au 2 ?_
 refine riB 7 h1 ?_ ?_ <;> intro hc h1
 refine au 12 ?_
 cases h1
 exact wk [0,1,2,3]
 refine au 2 ?_
 obtain ⟨v2,hv2,h1⟩:=bnd h1
 refine cl1 4 (oP hv2) ?_
 refine au 3 ?_
 refine riB 13 h1 ?_ ?_ <;> intro hc h1
 refine au 6 ?_
 cases h1
 exact wk [0,1,2,3]
 refine au 2 ?_
 obtain ⟨v3,hv3,h1⟩:=bnd h1
 refine cl1 4 (oP hv3) ?_
 refine au 3 ?_
 cases h1
 exact wk [0,1,2,3]
 refine aiB h0 ?_ ?_ <;> intro hc h0
 refine au 5 ?_
 cases h0
 exact r0t 2 rfl
 refine au 2 ?_
 refine tdr [0,1,4,5,9,10,2,3,6,7,8,11,12,13] follows (au 6 ?_)
 obtain ⟨v5,hv5,h0⟩:=bnd h0
 refine clt 4 (bN hv5) ?_
 obtain ⟨hq6,h0⟩:=aT h0
 refine tP rfl (dK rfl rfl hq6) ?_
 obtain ⟨v7,hv7,h0⟩:=bnd h0
 refine clt 4 (bN hv7) ?_
 obtain ⟨hq8,h0⟩:=aT h0
 refine tP rfl (dK rfl rfl hq8) ?_
 obtain ⟨hq9,h0⟩:=aT h0
 refine tP rfl (dK rfl rfl hq9) ?_
 obtain ⟨v10,hv10,h0⟩:=bnd h0
 refine clt 4 (bN hv10) ?_
 obtain ⟨hq11,h0⟩:=aT h0
 refine tP rfl (dK rfl rfl hq11) (au 4 ?_)
 cases h0
 exact r0t 2 rfl
theorem aJ4 {p0:ByteArray} {r:aS × Bool} (h0:wV p0=some r):FnC Tryz.prog 73 [] [dS p0] [] (.tup [.agg (dV r.1),(dB r.2)]):=by
 refine fi 43 tok Tryz.func73 ?_
 unfold wV at h0
 refine au 1 ?_
 refine al 3 xX tok ?_
 refine au 4 ?_
 obtain ⟨v1,hv1,h0⟩:=bnd h0
 refine cll 4 (sK hv1) ?_
 refine au 8 ?_
 refine aif h0 ?_ ?_ <;> intro hc h0
 refine au 1 ?_
 refine rpb tok xX ?_
 refine au 5 ?_
 cases h0
 exact cG (rs:=[.cell 2 38, .tmp 3]) rfl
 refine au 2 ?_
 refine al 5 xX tok (nx ?_)
 obtain ⟨v11,h1,h0⟩:=bnd h0
 refine aN ⟨aA (aA (aA aH 0 (dS p0)) 2 (bA 3)) 5 (bA 4),lk3 [(slB 38 3 xX),(slB 218 3 [dI v11.1,(dI v11.2.1),(dI v11.2.2)])]⟩ ?_ ?_
 refine au 6 ?_
 refine aK (fun s6=>⟨aA (aA (aA (aA (aA (aA aH 0 (dS p0)) 2 (bA 3)) 5 (bA 4)) 15 (bI 5 v1)) 16 (dI (v1.length:Int))) 17 (dI s6.1),lk3 [(slB 38 3 xX),(slB 218 3 [dI s6.2.1,(dI s6.2.2.1),(dI s6.2.2.2)]),slD 9 1 cS v1]⟩) h1 ?_ (fun s6 y h2 => ?_)
 exact wk [0,1,2,3,5,4]
 refine au 4 ?_
 refine aif h2 ?_ ?_ <;> intro hc h2
 refine au 5 ?_
 obtain ⟨v7,hv7,h2⟩:=bnd h2
 refine rL rfl (eV tok hv7 rfl rfl rfl rfl rfl rfl rfl rfl) (rL rfl (gI tok (eE hv7).2.1 rfl rfl rfl rfl rfl rfl) (au 6 ?_))
 obtain ⟨v8,hv8,h2⟩:=bnd h2
 refine cll 6 (nG hv8) ?_
 refine au 3 ?_
 obtain ⟨hq10,h2⟩:=aT h2
 refine rL rfl (aOv tok hq10 rfl rfl rfl rfl rfl rfl rfl) (rw0 rfl w0 (aZ6 tok hq10 rfl rfl rfl rfl rfl) (au 7 ?_))
 refine bD ?_
 cases h2
 refine ⟨_,rfl,?_⟩
 exact wk [0,1,2,3,4,5]
 refine au 2 ?_
 cases h2
 refine lpx fun e => ?_
 subst e
 refine au 2 ?_
 exact wk [0,1,2,3,4]
 refine au 1 ?_
 refine rL rfl (aOv tok (by decide) rfl rfl rfl rfl rfl rfl rfl) (au 1 ?_)
 refine rL rfl (aOv tok (by decide) rfl rfl rfl rfl rfl rfl rfl) (au 1 ?_)
 refine rL rfl (aOv tok (by decide) rfl rfl rfl rfl rfl rfl rfl) (au 1 ?_)
 refine rpb tok xX ?_
 refine al 5 xX tok ?_
 refine au 5 ?_
 obtain ⟨v15,hv15,h0⟩:=bnd h0
 refine cll 6 (aCh hv15) ?_
 refine pm ?_
 refine rP rfl (aNg rfl rfl) (nx ?_)
 refine aif h0 ?_ ?_ <;> intro hc h0
 refine au 1 ?_
 refine rpb tok xX ?_
 refine au 5 ?_
 cases h0
 exact cG (rs:=[.cell 2 38, .tmp 3]) rfl
 refine au 7 ?_
 cases h0
 exact cG (rs:=[.cell 2 38, .tmp 3]) rfl
theorem aEy {p0:List ByteArray} {r:fS × Bool} (h0:iU p0=some r):FnC Tryz.prog 37 [] [dL cS p0] [slD 2 1 cI r.1.numbers] (.tup [.agg (aP2 r.1 0),(dB r.2)]):=by
 refine fi 67 tok Tryz.func37 ?_
 unfold iU at h0
 refine au 1 ?_
 refine al 3 aJo tok ?_
 refine au 4 ?_
 obtain ⟨v1,hv1,h0⟩:=bnd h0
 refine rP rfl (bS tok hv1 rfl rfl rfl rfl rfl rfl) (au 1 ?_)
 refine rpb tok aJo ?_
 refine al 4 aJo tok ?_
 refine au 2 ?_
 obtain ⟨v21x,h1,h0⟩:=bnd h0
 refine cF v21x (fun v21=>⟨aA (aA aH 2 (bA 3)) 4 (bA 4),lk3 [(slB 94 8 aJo),(slB 94 8 [dS v1,bI 5 v21.2.2.2,(dI v21.1.Num),(dI v21.1.Den),(dI v21.2.1.Year),(dI v21.2.1.Month),(dI v21.2.1.Day),(dS v21.2.2.1)]),slD 2 1 cI v21.2.2.2]⟩) ?_ ?_
 refine au 2 ?_
 obtain ⟨v2,hv2,h1⟩:=bnd h1
 refine rP rfl (bS tok hv2 rfl rfl rfl rfl rfl rfl) (au 1 ?_)
 obtain ⟨v3,hv3,h1⟩:=bnd h1
 refine cll 5 (aEv hv3) ?_
 obtain ⟨hq4,h1⟩:=aT h1
 refine rS rfl (bA3 tok hq4 rfl rfl rfl rfl rfl rfl rfl) (au 4 ?_)
 refine aK (fun s13=>⟨aA (aA (aA (aA (aA (aA aH 0 (dL cS p0)) 2 (bA 3)) 4 (bA 4)) 18 (dL cU8 (dC v3))) 19 (dI ((dC v3).length:Int))) 20 (dI s13.1),lk3 [(slB 94 8 aJo),(slB 94 8 [dS v1,bI 5 s13.2.2.2.2,(dI s13.2.1.Num),(dI s13.2.1.Den),(dI s13.2.2.1.Year),(dI s13.2.2.1.Month),(dI s13.2.2.1.Day),(dS s13.2.2.2.1)]),slD 2 1 cI s13.2.2.2.2]⟩) h1 ?_ (fun s13 y h2 => ?_)
 refine lJ.trans_ (yF 5 rfl 2 1 (kb:=4) (j:=1) rfl rfl (by repeat (first | exact Spl.z _ | apply Spl.t | apply Spl.d))) ?_
 exact wk [0,1,2,3,4,5]
 refine au 4 ?_
 refine aif h2 ?_ ?_ <;> intro hc h2
 refine au 5 ?_
 obtain ⟨v14,hv14,h2⟩:=bnd h2
 refine rP rfl (bS tok hv14 rfl rfl rfl rfl rfl rfl) (au 8 ?_)
 obtain ⟨v15,hv15,h2⟩:=bnd h2
 refine rP rfl (bS tok hv15 rfl rfl rfl rfl rfl rfl) (au 4 ?_)
 obtain ⟨v20,h3,h2⟩:=bnd h2
 refine aN ⟨aA (aA (aA (aA (aA (aA (aA aH 0 (dL cS p0)) 2 (bA 3)) 4 (bA 4)) 8 (dB v20.1)) 18 (dL cU8 (dC v3))) 19 (dI ((dC v3).length:Int))) 20 (dI s13.1),lk3 [(slB 94 8 aJo),(slB 94 8 [dS v1,bI 5 v20.2.2.2.2,(dI v20.2.1.Num),(dI v20.2.1.Den),(dI v20.2.2.1.Year),(dI v20.2.2.1.Month),(dI v20.2.2.1.Day),(dS v20.2.2.2.1)]),slD 2 1 cI v20.2.2.2.2]⟩ ?_ ?_
 refine au 8 ?_
 refine aif h3 ?_ ?_ <;> intro hc h3
 refine au 5 ?_
 obtain ⟨v16,hv16,h3⟩:=bnd h3
 refine cll 6 (nG hv16) ?_
 refine au 10 ?_
 refine bsv tok cI [v16.1] ?_
 obtain ⟨hq17,h3⟩:=aT h3
 refine rw1 rfl w0 rfl (fJ tok hq17 rfl rfl rfl rfl rfl rfl rfl rfl rfl rfl rfl rfl (fun _=>rfl)) (au 5 ?_)
 cases h3
 exact wk [0,1,2,3,4,5]
 refine au 4 ?_
 refine aif h3 ?_ ?_ <;> intro hc h3
 refine au 2 ?_
 obtain ⟨v18,hv18,h3⟩:=bnd h3
 refine cll 6 (aH2 hv18) ?_
 refine au 9 ?_
 cases h3
 exact wk [0,1,2,3,4,5]
 refine au 4 ?_
 refine aif h3 ?_ ?_ <;> intro hc h3
 refine au 2 ?_
 obtain ⟨v19,hv19,h3⟩:=bnd h3
 refine cll 6 (aJ4 hv19) ?_
 refine au 9 ?_
 cases h3
 exact wk [0,1,2,3,4,5]
 refine au 7 ?_
 cases h3
 exact wk [0,1,2,3,4,5]
 refine au 4 ?_
 refine aiB h2 ?_ ?_ <;> intro hc h2
 refine au 1 ?_
 refine rpb tok aJo ?_
 refine au 3 ?_
 refine wa 6 2 1 3 1 ?_
 refine au 3 ?_
 cases h2
 refine lpr fun e => ?_
 subst e
 refine au 1 ?_
 replace h0:=eO h0
 refine au 1 ?_
 cases h0
 exact bV (rs:=[.cell 2 94, .tmp 3]) [6] rfl
 refine au 7 ?_
 refine bD ?_
 cases h2
 refine ⟨_,rfl,?_⟩
 exact wk [0,1,2,3,4,5]
 refine au 2 ?_
 cases h2
 refine lpx fun e => ?_
 subst e
 refine au 2 ?_
 refine ⟨_,rfl,?_⟩
 exact wk [0,1,2,3,4,5]
 rintro v21 rfl
 replace h0:=gO h0
 refine au 6 ?_
 cases h0
 exact bV (rs:=[.cell 2 94, .tmp 3]) [5] rfl
theorem aD6 {p0:aD} {r:aD} (h0:mX p0=some r):FnC Tryz.prog 42 [] [.agg (cJ p0)] [slD 2 1 cI r.Cam] (.agg (sP r 0)):=by
 refine fi 8 tok Tryz.func42 ?_
 unfold mX at h0
 refine au 1 ?_
 refine bxx 3 ?_
 refine al 4 aC7 tok ?_
 refine au 4 ?_
 obtain ⟨v1,hv1,h0⟩:=bnd h0
 refine cll 5 (dY hv1) ?_
 refine au 8 ?_
 cases h0
 exact bV (rs:=[.cell 2 40]) [5] rfl
theorem rJ {p0:cH} {r:cH} (h0:iE p0=some r):FnC Tryz.prog 21 [] [.agg (lH p0)] [(slN 117 2 1 aF r.Movement.Works.Arbors),slF 2 1 aF r.Movement.Works.Arbors,slD 147 4 bH r.Movement.Works.Meshes,slD 127 3 aW r.Movement.Calendar.Months,slD 129 3 aM r.Movement.Calendar.Rules,slD 2 1 cI r.Movement.Cam,slD 2 1 cI r.Dial.Cam] (.agg (kG r 0 2 3 4 5 6)):=by
 refine fi 12 tok Tryz.func21 ?_
 unfold iE at h0
 refine au 1 ?_
 refine bxx 3 ?_
 refine al 4 fX tok ?_
 refine au 4 ?_
 obtain ⟨v1,hv1,h0⟩:=bnd h0
 refine cll 5 (qE hv1) ?_
 refine au 6 ?_
 obtain ⟨v2,hv2,h0⟩:=bnd h0
 refine cll 11 (aD6 hv2) ?_
 refine au 8 ?_
 cases h0
 exact bV (rs:=[.cell 2 42]) [5,6,7,8,9,10,11] rfl
theorem tX {p0:aD} {r:Int} (h0:gM p0=some r):FnC Tryz.prog 210 [] [.agg (cJ p0)] [] (dI r):=by
 refine fi 18 tok Tryz.func210 ?_
 unfold gM at h0
 refine au 1 ?_
 refine bxx 3 ?_
 refine au 11 ?_
 obtain ⟨v1,hv1,h0⟩:=bnd h0
 refine tP rfl (bS tok hv1 rfl rfl rfl rfl rfl rfl) (au 4 ?_)
 refine aif h0 ?_ ?_ <;> intro hc h0
 refine au 11 ?_
 cases h0
 exact r0t 2 rfl
 refine au 5 ?_
 cases h0
 exact r0t 2 rfl
theorem kF {p0:cH} {r:cH} (h0:cW p0=some r):FnC Tryz.prog 140 [(slB 42 26 (kG p0 1 3 4 5 6 7)),slN 117 2 2 aF p0.Movement.Works.Arbors,slF 2 1 aF p0.Movement.Works.Arbors,slD 147 4 bH p0.Movement.Works.Meshes,slD 127 3 aW p0.Movement.Calendar.Months,slD 129 3 aM p0.Movement.Calendar.Rules,slD 2 1 cI p0.Movement.Cam,slD 2 1 cI p0.Dial.Cam] [.ptr 0 0 1 0 19] [(slB 42 26 (kG r 1 3 4 5 6 7)),slN 117 2 2 aF r.Movement.Works.Arbors,slF 2 1 aF r.Movement.Works.Arbors,slD 147 4 bH r.Movement.Works.Meshes,slD 127 3 aW r.Movement.Calendar.Months,slD 129 3 aM r.Movement.Calendar.Rules,slD 2 1 cI r.Movement.Cam,slD 2 1 cI r.Dial.Cam] (.tup []):=by
 refine tR (L:=8) (T:=tt) (N:=16) tok Tryz.func140 rfl rfl (by kernel_rfl) rfl rfl ?_
 unfold cW at h0
 refine au 12 ?_
 obtain ⟨hq1,h0⟩:=aT h0
 refine tP rfl (eW rfl rfl hq1) (au 4 ?_)
 cases h0
 exact nZ (rs:=[]) 8 rfl rfl
theorem lG {p0:cH} {p1:Int} {r:cH} (h0:dF p0 p1=some r):FnC Tryz.prog 139 [(slB 42 26 (kG p0 1 3 4 5 6 7)),slN 117 2 2 aF p0.Movement.Works.Arbors,slF 2 1 aF p0.Movement.Works.Arbors,slD 147 4 bH p0.Movement.Works.Meshes,slD 127 3 aW p0.Movement.Calendar.Months,slD 129 3 aM p0.Movement.Calendar.Rules,slD 2 1 cI p0.Movement.Cam,slD 2 1 cI p0.Dial.Cam] [.ptr 0 0 1 0 19,(dI p1)] [(slB 42 26 (kG r 1 3 4 5 6 7)),slN 117 2 2 aF r.Movement.Works.Arbors,slF 2 1 aF r.Movement.Works.Arbors,slD 147 4 bH r.Movement.Works.Meshes,slD 127 3 aW r.Movement.Calendar.Months,slD 129 3 aM r.Movement.Calendar.Rules,slD 2 1 cI r.Movement.Cam,slD 2 1 cI r.Dial.Cam] (.tup []):=by
 refine tR (L:=8) (T:=tt) (N:=34) tok Tryz.func139 rfl rfl (by kernel_rfl) rfl rfl ?_
 unfold dF at h0
 refine au 24 ?_
 refine aif h0 ?_ ?_ <;> intro hc h0
 refine au 18 ?_
 obtain ⟨v1,hv1,h0⟩:=bnd h0
 refine rw1 rfl w0 rfl (eS [0,1,2,3,4,5,6,7] 300 (kF hv1) rfl rfl) (au 1 ?_)
 cases h0
 exact nZ (rs:=[]) 8 rfl rfl
 refine au 1 ?_
 cases h0
 exact nZ (rs:=[]) 8 rfl rfl
theorem jK {p0:cH} {r:cH} (h0:cR p0=some r):FnC Tryz.prog 141 [(slB 42 26 (kG p0 1 3 4 5 6 7)),slN 117 2 2 aF p0.Movement.Works.Arbors,slF 2 1 aF p0.Movement.Works.Arbors,slD 147 4 bH p0.Movement.Works.Meshes,slD 127 3 aW p0.Movement.Calendar.Months,slD 129 3 aM p0.Movement.Calendar.Rules,slD 2 1 cI p0.Movement.Cam,slD 2 1 cI p0.Dial.Cam] [.ptr 0 0 1 0 19] [(slB 42 26 (kG r 1 3 4 5 6 7)),slN 117 2 2 aF r.Movement.Works.Arbors,slF 2 1 aF r.Movement.Works.Arbors,slD 147 4 bH r.Movement.Works.Meshes,slD 127 3 aW r.Movement.Calendar.Months,slD 129 3 aM r.Movement.Calendar.Rules,slD 2 1 cI r.Movement.Cam,slD 2 1 cI r.Dial.Cam] (.tup []):=by
 refine tR (L:=8) (T:=tt) (N:=15) tok Tryz.func141 rfl rfl (by kernel_rfl) rfl rfl ?_
 unfold cR at h0
 refine au 10 ?_
 obtain ⟨hq1,h0⟩:=aT h0
 refine tP rfl (eW rfl rfl hq1) (au 5 ?_)
 cases h0
 exact nZ (rs:=[]) 8 rfl rfl
theorem sL {p0:cH} {r:cH} (h0:cM p0=some r):FnC Tryz.prog 137 [(slB 42 26 (kG p0 1 3 4 5 6 7)),slN 117 2 2 aF p0.Movement.Works.Arbors,slF 2 1 aF p0.Movement.Works.Arbors,slD 147 4 bH p0.Movement.Works.Meshes,slD 127 3 aW p0.Movement.Calendar.Months,slD 129 3 aM p0.Movement.Calendar.Rules,slD 2 1 cI p0.Movement.Cam,slD 2 1 cI p0.Dial.Cam] [.ptr 0 0 1 0 19] [(slB 42 26 (kG r 1 3 4 5 6 7)),slN 117 2 2 aF r.Movement.Works.Arbors,slF 2 1 aF r.Movement.Works.Arbors,slD 147 4 bH r.Movement.Works.Meshes,slD 127 3 aW r.Movement.Calendar.Months,slD 129 3 aM r.Movement.Calendar.Rules,slD 2 1 cI r.Movement.Cam,slD 2 1 cI r.Dial.Cam] (.tup []):=by
 refine tR (L:=8) (T:=tt) (N:=10) tok Tryz.func137 rfl rfl (by kernel_rfl) rfl rfl ?_
 unfold cM at h0
 refine au 5 ?_
 obtain ⟨v1,hv1,h0⟩:=bnd h0
 refine rS rfl (fG 8 (tX hv1) rfl rfl) ?_
 obtain ⟨v2,hv2,h0⟩:=bnd h0
 refine rw1 rfl w0 rfl (eS [0,1,2,3,4,5,6,7] 300 (lG hv2) rfl rfl) (au 3 ?_)
 obtain ⟨v3,hv3,h0⟩:=bnd h0
 refine rw1 rfl w0 rfl (eS [0,1,2,3,4,5,6,7] 300 (jK hv3) rfl rfl) (au 1 ?_)
 cases h0
 exact nZ (rs:=[]) 8 rfl rfl
theorem yO {p0:Int} {r:Int} (h0:lO p0=some r):FnC Tryz.prog 211 [] [dI p0] [] (dI r):=by
 refine fi 15 tok Tryz.func211 ?_
 unfold lO at h0
 refine au 5 ?_
 refine rP rfl (eW rfl rfl (by decide)) (au 4 ?_)
 refine rP rfl (lI rfl rfl (by decide)) (au 5 ?_)
 refine rP rfl (lI rfl rfl (by decide)) (au 4 ?_)
 cases h0
 exact r0t 2 rfl
theorem aC8 {p0:Int} {p1:Int} {p2:Int} {r:Int × Int} (h0:hU p0 p1 p2=some r):FnC Tryz.prog 138 [] [dI p0,(dI p1),(dI p2)] [] (.tup [dI r.1,(dI r.2)]):=by
 refine fi 30 tok Tryz.func138 ?_
 unfold hU at h0
 refine au 5 ?_
 obtain ⟨v3,h1,h0⟩:=bnd h0
 refine aN ⟨aA (aA (aA (aA aH 0 (dI p0)) 1 (dI p1)) 2 (dI p2)) 20 (dB v3),lk3 []⟩ ?_ ?_
 refine au 2 ?_
 obtain ⟨v1,hv1,h1⟩:=bnd h1
 refine cll 3 (bK hv1) ?_
 refine au 2 ?_
 refine riB 11 h1 ?_ ?_ <;> intro hc h1
 refine au 10 ?_
 cases h1
 exact wk [0,1,2]
 refine au 2 ?_
 obtain ⟨v2,hv2,h1⟩:=bnd h1
 refine cl1 3 (bK hv2) ?_
 refine au 3 ?_
 refine riB 17 h1 ?_ ?_ <;> intro hc h1
 refine au 4 ?_
 cases h1
 exact wk [0,1,2]
 refine au 4 ?_
 cases h1
 exact wk [0,1,2]
 refine aiB h0 ?_ ?_ <;> intro hc h0
 refine au 6 ?_
 cases h0
 exact cG (rs:=[.tmp 6, .tmp 7]) rfl
 refine au 6 ?_
 refine aif h0 ?_ ?_ <;> intro hc h0
 refine au 6 ?_
 cases h0
 exact cG (rs:=[.tmp 6, .tmp 7]) rfl
 refine au 3 ?_
 refine rP rfl (lI rfl rfl (by decide)) ?_
 obtain ⟨v5,hv5,h0⟩:=bnd h0
 refine cll 3 (yO hv5) ?_
 refine pm ?_
 refine rP rfl (lI rfl rfl (by decide)) ?_
 obtain ⟨v7,hv7,h0⟩:=bnd h0
 refine cll 3 (yO hv7) ?_
 refine au 5 ?_
 cases h0
 exact cG (rs:=[.tmp 6, .tmp 7]) rfl
theorem aQf {p0:cH} {p1:Int} {r:cH × Int × Int} (h0:tU p0 p1=some r):FnC Tryz.prog 74 [] [.agg (lH p0),(dI p1)] [(slN 117 2 1 aF r.1.Movement.Works.Arbors),slF 2 1 aF r.1.Movement.Works.Arbors,slD 147 4 bH r.1.Movement.Works.Meshes,slD 127 3 aW r.1.Movement.Calendar.Months,slD 129 3 aM r.1.Movement.Calendar.Rules,slD 2 1 cI r.1.Movement.Cam,slD 2 1 cI r.1.Dial.Cam] (.tup [.agg (kG r.1 0 2 3 4 5 6),(dI r.2.1),(dI r.2.2)]):=by
 refine fi 59 tok Tryz.func74 ?_
 unfold tU at h0
 refine au 1 ?_
 refine bxx 3 ?_
 refine al 4 fX tok ?_
 refine au 6 ?_
 obtain ⟨v1,hv1,h0⟩:=bnd h0
 refine cll 5 (kN hv1) ?_
 refine au 2 ?_
 refine aiB h0 ?_ ?_ <;> intro hc h0
 refine au 1 ?_
 refine rpb tok fX ?_
 refine au 4 ?_
 refine wa 5 117 2 4 1 ?_
 refine bL (cT 6 (k:=5) 2 1 aF rfl rfl) (wa 7 147 4 4 2 ?_)
 refine wa 8 127 3 4 9 ?_
 refine wa 9 129 3 4 10 ?_
 refine wa 10 2 1 4 12 ?_
 refine wa 11 2 1 4 19 ?_
 refine au 2 ?_
 cases h0
 exact bV (rs:=[.cell 4 42, .tmp 5, .tmp 6]) [5,6,7,8,9,10,11] rfl
 refine au 2 ?_
 obtain ⟨v3,h1,h0⟩:=bnd h0
 refine aN ⟨aA (aA (aA (aA aH 1 (dI p1)) 2 (bA 3)) 4 (bA 4)) 24 (dB v3),lk3 [(slB 42 26 (lH p0)),slB 42 26 fX]⟩ ?_ ?_
 refine au 2 ?_
 obtain ⟨v2,hv2,h1⟩:=bnd h1
 refine cll 5 (bK hv2) ?_
 refine au 2 ?_
 refine riB 18 h1 ?_ ?_ <;> intro hc h1
 refine au 7 ?_
 cases h1
 exact wk [0,1,2,3,4]
 refine au 7 ?_
 cases h1
 exact wk [0,1,2,3,4]
 refine aiB h0 ?_ ?_ <;> intro hc h0
 refine au 1 ?_
 refine rpb tok fX ?_
 refine au 4 ?_
 refine wa 5 117 2 4 1 ?_
 refine bL (cT 6 (k:=5) 2 1 aF rfl rfl) (wa 7 147 4 4 2 ?_)
 refine wa 8 127 3 4 9 ?_
 refine wa 9 129 3 4 10 ?_
 refine wa 10 2 1 4 12 ?_
 refine wa 11 2 1 4 19 ?_
 refine au 2 ?_
 cases h0
 exact bV (rs:=[.cell 4 42, .tmp 5, .tmp 6]) [5,6,7,8,9,10,11] rfl
 refine au 8 ?_
 obtain ⟨v4,hv4,h0⟩:=bnd h0
 refine cll 5 (rJ hv4) ?_
 refine au 10 ?_
 obtain ⟨v11,h1,h0⟩:=bnd h0
 refine aN ⟨aA (aA (aA aH 2 (bA 3)) 4 (bA 4)) 7 (dI p0.Clock),lk3 [(slB 42 26 [dS v11.1,bI 5 v11.2.2.2.2.2.2.2.2.2.2.2.2.2.2.2.2.2.2.1,bI 6 v11.2.2.2.2.2.2.2.2.2.2.2.2.2.2.2.2.2.2.2.1,(dI v11.2.1),(dI v11.2.2.1),(dI v11.2.2.2.1),(dI v11.2.2.2.2.1),(dI v11.2.2.2.2.2.1),(dS v11.2.2.2.2.2.2.1),bI 7 v11.2.2.2.2.2.2.2.2.2.2.2.2.2.2.2.2.2.2.2.2.1,bI 8 v11.2.2.2.2.2.2.2.2.2.2.2.2.2.2.2.2.2.2.2.2.2.1,(dI v11.2.2.2.2.2.2.2.1),bI 9 v11.2.2.2.2.2.2.2.2.2.2.2.2.2.2.2.2.2.2.2.2.2.2.1,(dI v11.2.2.2.2.2.2.2.2.1),(dI v11.2.2.2.2.2.2.2.2.2.1.Year),(dI v11.2.2.2.2.2.2.2.2.2.1.Month),(dI v11.2.2.2.2.2.2.2.2.2.1.Day),(dI v11.2.2.2.2.2.2.2.2.2.2.1),(dI v11.2.2.2.2.2.2.2.2.2.2.2.1),bI 10 v11.2.2.2.2.2.2.2.2.2.2.2.2.2.2.2.2.2.2.2.2.2.2.2,(dI v11.2.2.2.2.2.2.2.2.2.2.2.2.1),(dI v11.2.2.2.2.2.2.2.2.2.2.2.2.2.1),(dI v11.2.2.2.2.2.2.2.2.2.2.2.2.2.2.1),(dI v11.2.2.2.2.2.2.2.2.2.2.2.2.2.2.2.1),(dI v11.2.2.2.2.2.2.2.2.2.2.2.2.2.2.2.2.1),(dI v11.2.2.2.2.2.2.2.2.2.2.2.2.2.2.2.2.2.1)]),slB 42 26 fX,slN 117 2 11 aF v11.2.2.2.2.2.2.2.2.2.2.2.2.2.2.2.2.2.2.1,slD 147 4 bH v11.2.2.2.2.2.2.2.2.2.2.2.2.2.2.2.2.2.2.2.1,slD 127 3 aW v11.2.2.2.2.2.2.2.2.2.2.2.2.2.2.2.2.2.2.2.2.1,slD 129 3 aM v11.2.2.2.2.2.2.2.2.2.2.2.2.2.2.2.2.2.2.2.2.2.1,slD 2 1 cI v11.2.2.2.2.2.2.2.2.2.2.2.2.2.2.2.2.2.2.2.2.2.2.1,slD 2 1 cI v11.2.2.2.2.2.2.2.2.2.2.2.2.2.2.2.2.2.2.2.2.2.2.2,slF 2 1 aF v11.2.2.2.2.2.2.2.2.2.2.2.2.2.2.2.2.2.2.1]⟩ ?_ ?_
 refine au 3 ?_
 refine rP rfl (lI rfl rfl (by decide)) (pm ?_)
 refine rP rfl (lI rfl rfl (by decide)) (au 4 ?_)
 refine aK (fun s9=>⟨aA (aA (aA (aA aH 2 (bA 3)) 4 (bA 4)) 7 (dI p0.Clock)) 8 (dI s9.1),lk3 [(slB 42 26 [dS s9.2.1,bI 5 s9.2.2.2.2.2.2.2.2.2.2.2.2.2.2.2.2.2.2.2.1,bI 6 s9.2.2.2.2.2.2.2.2.2.2.2.2.2.2.2.2.2.2.2.2.1,(dI s9.2.2.1),(dI s9.2.2.2.1),(dI s9.2.2.2.2.1),(dI s9.2.2.2.2.2.1),(dI s9.2.2.2.2.2.2.1),(dS s9.2.2.2.2.2.2.2.1),bI 7 s9.2.2.2.2.2.2.2.2.2.2.2.2.2.2.2.2.2.2.2.2.2.1,bI 8 s9.2.2.2.2.2.2.2.2.2.2.2.2.2.2.2.2.2.2.2.2.2.2.1,(dI s9.2.2.2.2.2.2.2.2.1),bI 9 s9.2.2.2.2.2.2.2.2.2.2.2.2.2.2.2.2.2.2.2.2.2.2.2.1,(dI s9.2.2.2.2.2.2.2.2.2.1),(dI s9.2.2.2.2.2.2.2.2.2.2.1.Year),(dI s9.2.2.2.2.2.2.2.2.2.2.1.Month),(dI s9.2.2.2.2.2.2.2.2.2.2.1.Day),(dI s9.2.2.2.2.2.2.2.2.2.2.2.1),(dI s9.2.2.2.2.2.2.2.2.2.2.2.2.1),bI 10 s9.2.2.2.2.2.2.2.2.2.2.2.2.2.2.2.2.2.2.2.2.2.2.2.2,(dI s9.2.2.2.2.2.2.2.2.2.2.2.2.2.1),(dI s9.2.2.2.2.2.2.2.2.2.2.2.2.2.2.1),(dI s9.2.2.2.2.2.2.2.2.2.2.2.2.2.2.2.1),(dI s9.2.2.2.2.2.2.2.2.2.2.2.2.2.2.2.2.1),(dI s9.2.2.2.2.2.2.2.2.2.2.2.2.2.2.2.2.2.1),(dI s9.2.2.2.2.2.2.2.2.2.2.2.2.2.2.2.2.2.2.1)]),slB 42 26 fX,slN 117 2 11 aF s9.2.2.2.2.2.2.2.2.2.2.2.2.2.2.2.2.2.2.2.1,slD 147 4 bH s9.2.2.2.2.2.2.2.2.2.2.2.2.2.2.2.2.2.2.2.2.1,slD 127 3 aW s9.2.2.2.2.2.2.2.2.2.2.2.2.2.2.2.2.2.2.2.2.2.1,slD 129 3 aM s9.2.2.2.2.2.2.2.2.2.2.2.2.2.2.2.2.2.2.2.2.2.2.1,slD 2 1 cI s9.2.2.2.2.2.2.2.2.2.2.2.2.2.2.2.2.2.2.2.2.2.2.2.1,slD 2 1 cI s9.2.2.2.2.2.2.2.2.2.2.2.2.2.2.2.2.2.2.2.2.2.2.2.2,slF 2 1 aF s9.2.2.2.2.2.2.2.2.2.2.2.2.2.2.2.2.2.2.2.1]⟩) h1 ?_ (fun s9 y h2 => ?_)
 exact wk [0,1,2,3,4,5,7,8,9,10,11,6]
 refine au 5 ?_
 refine aif h2 ?_ ?_ <;> intro hc h2
 refine au 5 ?_
 obtain ⟨v10,hv10,h2⟩:=bnd h2
 refine rw1 rfl w0 rfl (eS [3,5,11,6,7,8,9,10] 300 (sL hv10) rfl rfl) (au 8 ?_)
 refine bD ?_
 cases h2
 refine ⟨_,rfl,?_⟩
 exact wk (.range 12)
 refine au 2 ?_
 cases h2
 refine lpx fun e => ?_
 subst e
 refine au 2 ?_
 exact wk (.range 12)
 refine au 7 ?_
 obtain ⟨v12,hv12,h0⟩:=bnd h0
 refine cll 12 (aC8 hv12) ?_
 refine au 14 ?_
 cases h0
 exact bV (rs:=[.cell 4 42, .tmp 5, .tmp 6]) [5,11,6,7,8,9,10] rfl
theorem aMd {p0:cH} {p1:Int} {r:cH × Int} (h0:oK p0 p1=some r):FnC Tryz.prog 75 [] [.agg (lH p0),(dI p1)] [(slN 117 2 1 aF r.1.Movement.Works.Arbors),slF 2 1 aF r.1.Movement.Works.Arbors,slD 147 4 bH r.1.Movement.Works.Meshes,slD 127 3 aW r.1.Movement.Calendar.Months,slD 129 3 aM r.1.Movement.Calendar.Rules,slD 2 1 cI r.1.Movement.Cam,slD 2 1 cI r.1.Dial.Cam] (.tup [.agg (kG r.1 0 2 3 4 5 6),(dI r.2)]):=by
 refine fi 27 tok Tryz.func75 ?_
 unfold oK at h0
 refine au 1 ?_
 refine bxx 3 ?_
 refine al 4 fX tok ?_
 refine au 5 ?_
 obtain ⟨v1,hv1,h0⟩:=bnd h0
 refine cll 5 (kN hv1) ?_
 refine au 2 ?_
 refine aiB h0 ?_ ?_ <;> intro hc h0
 refine au 1 ?_
 refine rpb tok fX ?_
 refine au 3 ?_
 refine wa 5 117 2 4 1 ?_
 refine bL (cT 6 (k:=5) 2 1 aF rfl rfl) (wa 7 147 4 4 2 ?_)
 refine wa 8 127 3 4 9 ?_
 refine wa 9 129 3 4 10 ?_
 refine wa 10 2 1 4 12 ?_
 refine wa 11 2 1 4 19 ?_
 refine au 2 ?_
 cases h0
 exact bV (rs:=[.cell 4 42, .tmp 5]) [5,6,7,8,9,10,11] rfl
 refine au 3 ?_
 obtain ⟨v2,hv2,h0⟩:=bnd h0
 refine cll 5 (rJ hv2) ?_
 refine au 2 ?_
 obtain ⟨v6x,h1,h0⟩:=bnd h0
 refine cF v6x (fun v6=>⟨aA (aA aH 2 (bA 3)) 4 (bA 4),lk3 [(slB 42 26 [dS v6.1,bI 5 v6.2.2.2.2.2.2.2.2.2.2.2.2.2.2.2.2.2.2.1,bI 6 v6.2.2.2.2.2.2.2.2.2.2.2.2.2.2.2.2.2.2.2.1,(dI v6.2.1),(dI v6.2.2.1),(dI v6.2.2.2.1),(dI v6.2.2.2.2.1),(dI v6.2.2.2.2.2.1),(dS v6.2.2.2.2.2.2.1),bI 7 v6.2.2.2.2.2.2.2.2.2.2.2.2.2.2.2.2.2.2.2.2.1,bI 8 v6.2.2.2.2.2.2.2.2.2.2.2.2.2.2.2.2.2.2.2.2.2.1,(dI v6.2.2.2.2.2.2.2.1),bI 9 v6.2.2.2.2.2.2.2.2.2.2.2.2.2.2.2.2.2.2.2.2.2.2.1,(dI v6.2.2.2.2.2.2.2.2.1),(dI v6.2.2.2.2.2.2.2.2.2.1.Year),(dI v6.2.2.2.2.2.2.2.2.2.1.Month),(dI v6.2.2.2.2.2.2.2.2.2.1.Day),(dI v6.2.2.2.2.2.2.2.2.2.2.1),(dI v6.2.2.2.2.2.2.2.2.2.2.2.1),bI 10 v6.2.2.2.2.2.2.2.2.2.2.2.2.2.2.2.2.2.2.2.2.2.2.2,(dI v6.2.2.2.2.2.2.2.2.2.2.2.2.1),(dI v6.2.2.2.2.2.2.2.2.2.2.2.2.2.1),(dI v6.2.2.2.2.2.2.2.2.2.2.2.2.2.2.1),(dI v6.2.2.2.2.2.2.2.2.2.2.2.2.2.2.2.1),(dI v6.2.2.2.2.2.2.2.2.2.2.2.2.2.2.2.2.1),(dI v6.2.2.2.2.2.2.2.2.2.2.2.2.2.2.2.2.2.1)]),slB 42 26 fX,slN 117 2 11 aF v6.2.2.2.2.2.2.2.2.2.2.2.2.2.2.2.2.2.2.1,slD 147 4 bH v6.2.2.2.2.2.2.2.2.2.2.2.2.2.2.2.2.2.2.2.1,slD 127 3 aW v6.2.2.2.2.2.2.2.2.2.2.2.2.2.2.2.2.2.2.2.2.1,slD 129 3 aM v6.2.2.2.2.2.2.2.2.2.2.2.2.2.2.2.2.2.2.2.2.2.1,slD 2 1 cI v6.2.2.2.2.2.2.2.2.2.2.2.2.2.2.2.2.2.2.2.2.2.2.1,slD 2 1 cI v6.2.2.2.2.2.2.2.2.2.2.2.2.2.2.2.2.2.2.2.2.2.2.2,slF 2 1 aF v6.2.2.2.2.2.2.2.2.2.2.2.2.2.2.2.2.2.2.1]⟩) ?_ ?_
 refine au 8 ?_
 refine aif h1 ?_ ?_ <;> intro hc h1
 refine au 2 ?_
 obtain ⟨v3,hv3,h1⟩:=bnd h1
 refine rw1 rfl w0 rfl (eS [3,5,6,7,8,9,10,11] 300 (lG hv3) rfl rfl) (au 3 ?_)
 cases h1
 refine ⟨_,rfl,?_⟩
 exact wk [0,1,2,3,4,5,7,8,9,10,11,6]
 refine au 4 ?_
 refine aif h1 ?_ ?_ <;> intro hc h1
 refine au 2 ?_
 obtain ⟨v4,hv4,h1⟩:=bnd h1
 refine rw1 rfl w0 rfl (eS [3,5,6,7,8,9,10,11] 300 (kF hv4) rfl rfl) (au 3 ?_)
 cases h1
 refine ⟨_,rfl,?_⟩
 exact wk [0,1,2,3,4,5,7,8,9,10,11,6]
 refine au 4 ?_
 refine aif h1 ?_ ?_ <;> intro hc h1
 refine au 2 ?_
 obtain ⟨v5,hv5,h1⟩:=bnd h1
 refine rw1 rfl w0 rfl (eS [3,5,6,7,8,9,10,11] 300 (jK hv5) rfl rfl) (au 3 ?_)
 cases h1
 refine ⟨_,rfl,?_⟩
 exact wk [0,1,2,3,4,5,7,8,9,10,11,6]
 refine au 1 ?_
 refine rpb tok fX ?_
 refine au 3 ?_
 refine wa 12 117 2 4 1 ?_
 refine bL (cT 13 (k:=12) 2 1 aF rfl rfl) (wa 14 147 4 4 2 ?_)
 refine wa 15 127 3 4 9 ?_
 refine wa 16 129 3 4 10 ?_
 refine wa 17 2 1 4 12 ?_
 refine wa 18 2 1 4 19 ?_
 refine au 2 ?_
 cases h1
 replace h0:=eO h0
 refine au 1 ?_
 cases h0
 exact bV (rs:=[.cell 4 42, .tmp 5]) [12,13,14,15,16,17,18] rfl
 rintro v6 rfl
 replace h0:=gO h0
 refine au 6 ?_
 cases h0
 exact bV (rs:=[.cell 4 42, .tmp 5]) [5,11,6,7,8,9,10] rfl
theorem xE {p0:aC} {r:Int × Int} (h0:iV p0=some r):FnC Tryz.prog 279 [] [.agg (aJ p0)] [] (.tup [dI r.1,(dI r.2)]):=by
 refine fi 26 tok Tryz.func279 ?_
 unfold iV at h0
 refine au 1 ?_
 refine bxx 3 ?_
 refine au 7 ?_
 obtain ⟨v5,h1,h0⟩:=bnd h0
 refine aN ⟨aA (aA aH 4 (dI v5.1)) 5 (dI v5.2),lk3 []⟩ ?_ ?_
 refine au 7 ?_
 refine aK (fun s3=>⟨aA (aA (aA (aA (aA aH 4 (dI s3.1)) 5 (dI s3.2.1)) 9 (dL aW p0.Months)) 10 (dI (p0.Months.length:Int))) 11 (dI s3.2.2),lk3 []⟩) h1 ?_ (fun s3 y h2 => ?_)
 exact wk [0,1,2]
 refine au 4 ?_
 refine aif h2 ?_ ?_ <;> intro hc h2
 refine au 4 ?_
 obtain ⟨v4,hv4,h2⟩:=bnd h2
 refine rP rfl (bS tok hv4 rfl rfl rfl rfl rfl rfl) (au 1 ?_)
 refine al 3 aXh tok ?_
 refine au 22 ?_
 refine bD ?_
 cases h2
 refine ⟨_,rfl,?_⟩
 exact wk [0,1,2]
 refine au 2 ?_
 cases h2
 refine lpx fun e => ?_
 subst e
 refine au 2 ?_
 exact wk [0,1,2]
 refine au 7 ?_
 cases h0
 exact cG (rs:=[.tmp 2, .tmp 3]) rfl
theorem yP {p0:aC} {p1:Int} {r:Int} (h0:jT p0 p1=some r):FnC Tryz.prog 278 [] [.agg (aJ p0),(dI p1)] [] (dI r):=by
 refine fi 29 tok Tryz.func278 ?_
 unfold jT at h0
 refine au 1 ?_
 refine bxx 3 ?_
 refine au 4 ?_
 obtain ⟨v1,hv1,h0⟩:=bnd h0
 refine cll 4 (xE hv1) ?_
 refine au 9 ?_
 obtain ⟨v8,h1,h0⟩:=bnd h0
 refine aN ⟨aA aH 7 (dI v8),lk3 []⟩ ?_ ?_
 refine au 4 ?_
 refine aK (fun s5=>⟨aA (aA (aA (aA (aA (aA aH 1 (dI p1)) 2 (bA 3)) 5 (dI v1.1)) 6 (dI v1.2)) 7 (dI s5.1)) 8 (dI s5.2),lk3 [(slB 33 4 (aJ p0))]⟩) h1 ?_ (fun s5 y h2 => ?_)
 exact wk [0,1,2,3]
 refine au 6 ?_
 refine aif h2 ?_ ?_ <;> intro hc h2
 refine sk ?_
 obtain ⟨v7,h3,h2⟩:=bnd h2
 refine aN ⟨aA (aA (aA (aA (aA (aA aH 1 (dI p1)) 2 (bA 3)) 5 (dI v1.1)) 6 (dI v1.2)) 7 (dI v7)) 8 (dI s5.2),lk3 [(slB 33 4 (aJ p0))]⟩ ?_ ?_
 refine au 4 ?_
 obtain ⟨v6,hv6,h3⟩:=bnd h3
 refine cll 4 (mP hv6) (nx ?_)
 refine aiB h3 ?_ ?_ <;> intro hc h3
 refine au 8 ?_
 cases h3
 exact wk [0,1,2,3]
 refine au 8 ?_
 cases h3
 exact wk [0,1,2,3]
 refine au 5 ?_
 refine bD ?_
 cases h2
 refine ⟨_,rfl,?_⟩
 exact wk [0,1,2,3]
 refine au 2 ?_
 cases h2
 refine lpx fun e => ?_
 subst e
 refine au 2 ?_
 exact wk [0,1,2]
 refine au 5 ?_
 cases h0
 exact r0t 4 rfl
theorem aSz {p0:aC} {p1:aS} {r:Int} (h0:xA p0 p1=some r):FnC Tryz.prog 242 [] [.agg (aJ p0), .agg (dV p1)] [] (dI r):=by
 refine fi 33 tok Tryz.func242 ?_
 unfold xA at h0
 refine au 1 ?_
 refine bxx 3 ?_
 refine bxx 4 ?_
 refine au 3 ?_
 refine tdr [0,1,2,4,5,3,6,7,8] follows (au 5 ?_)
 obtain ⟨v1,hv1,h0⟩:=bnd h0
 refine clt 5 (yP hv1) ?_
 refine au 9 ?_
 obtain ⟨v2,hv2,h0⟩:=bnd h0
 refine cll 5 (mP hv2) ?_
 refine au 2 ?_
 obtain ⟨v7,h1,h0⟩:=bnd h0
 refine aN ⟨aA aH 5 (dI v7),lk3 []⟩ ?_ ?_
 refine au 4 ?_
 refine aK (fun s5=>⟨aA (aA (aA (aA (aA aH 2 (bA 3)) 3 (bA 4)) 5 (dI s5.1)) 6 (dB v2)) 7 (dI s5.2),lk3 [(slB 33 4 (aJ p0)),(slB 38 3 (dV p1))]⟩) h1 ?_ (fun s5 y h2 => ?_)
 exact wk [0,1,2,3,4]
 refine au 7 ?_
 refine aif h2 ?_ ?_ <;> intro hc h2
 refine au 8 ?_
 obtain ⟨v6,hv6,h2⟩:=bnd h2
 refine cll 5 (iT hv6) ?_
 refine au 10 ?_
 refine bD ?_
 cases h2
 refine ⟨_,rfl,?_⟩
 exact wk [0,1,2,3,4]
 refine au 2 ?_
 cases h2
 refine lpx fun e => ?_
 subst e
 refine au 2 ?_
 exact wk [0,1,2]
 refine au 5 ?_
 cases h0
 exact r0t 4 rfl
theorem aSy {p0:aC} {p1:aS} {r:Int × Int} (h0:aAh p0 p1=some r):FnC Tryz.prog 180 [] [.agg (aJ p0), .agg (dV p1)] [] (.tup [dI r.1,(dI r.2)]):=by
 refine fi 16 tok Tryz.func180 ?_
 unfold aAh at h0
 refine au 1 ?_
 refine bxx 3 ?_
 refine bxx 4 ?_
 refine au 6 ?_
 obtain ⟨v1,hv1,h0⟩:=bnd h0
 refine cll 5 (fH hv1) ?_
 refine au 2 ?_
 refine aiB h0 ?_ ?_ <;> intro hc h0
 refine au 6 ?_
 cases h0
 exact cG (rs:=[.tmp 4, .tmp 5]) rfl
 refine au 5 ?_
 obtain ⟨v2,hv2,h0⟩:=bnd h0
 refine cll 5 (uY hv2) ?_
 refine au 2 ?_
 refine aiB h0 ?_ ?_ <;> intro hc h0
 refine au 6 ?_
 cases h0
 exact cG (rs:=[.tmp 4, .tmp 5]) rfl
 refine au 4 ?_
 obtain ⟨v3,hv3,h0⟩:=bnd h0
 refine cll 5 (aSz hv3) ?_
 refine au 4 ?_
 cases h0
 exact cG (rs:=[.tmp 4, .tmp 5]) rfl
theorem aMl {p0:aC} {r:Int} (h0:rN p0=some r):FnC Tryz.prog 243 [] [.agg (aJ p0)] [] (dI r):=by
 refine fi 6 tok Tryz.func243 ?_
 unfold rN at h0
 refine au 1 ?_
 refine bxx 3 ?_
 refine au 4 ?_
 obtain ⟨v1,hv1,h0⟩:=bnd h0
 refine cll 4 (yP hv1) ?_
 refine au 4 ?_
 cases h0
 exact r0t 2 rfl
theorem aQh {p0:aC} {p1:Int} {r:aS} (h0:tW p0 p1=some r):FnC Tryz.prog 244 [] [.agg (aJ p0),(dI p1)] [] (.agg (dV r)):=by
 refine fi 58 tok Tryz.func244 ?_
 unfold tW at h0
 refine au 1 ?_
 refine bxx 3 ?_
 refine al 4 xX tok ?_
 refine au 3 ?_
 obtain ⟨v1,hv1,h0⟩:=bnd h0
 refine cll 5 (xE hv1) ?_
 refine au 7 ?_
 refine rpb tok xX ?_
 refine al 5 xX tok ?_
 refine au 2 ?_
 obtain ⟨v8,h1,h0⟩:=bnd h0
 refine aN ⟨aA (aA (aA (aA aH 1 (dI v8.1)) 2 (bA 3)) 4 (bA 4)) 7 (bA 5),lk3 [(slB 33 4 (aJ p0)),slB 38 3 xX,(slB 38 3 (dV v8.2))]⟩ ?_ ?_
 refine au 1 ?_
 refine aK (fun s5=>⟨aA (aA (aA (aA (aA (aA aH 1 (dI s5.1)) 2 (bA 3)) 4 (bA 4)) 5 (dI v1.1)) 6 (dI v1.2)) 7 (bA 5),lk3 [(slB 33 4 (aJ p0)),slB 38 3 xX,(slB 38 3 (dV s5.2))]⟩) h1 ?_ (fun s5 y h2 => ?_)
 exact wk [0,1,2,3,4,5]
 refine au 5 ?_
 obtain ⟨v7,h3,h2⟩:=bnd h2
 refine aN ⟨aA (aA (aA (aA (aA (aA (aA aH 1 (dI s5.1)) 2 (bA 3)) 4 (bA 4)) 5 (dI v1.1)) 6 (dI v1.2)) 7 (bA 5)) 8 (dI v7),lk3 [(slB 33 4 (aJ p0)),slB 38 3 xX,(slB 38 3 (dV s5.2))]⟩ ?_ ?_
 refine au 4 ?_
 obtain ⟨v6,hv6,h3⟩:=bnd h3
 refine cll 6 (mP hv6) (nx ?_)
 refine aiB h3 ?_ ?_ <;> intro hc h3
 refine au 4 ?_
 cases h3
 exact wk [0,1,2,3,4,5]
 refine sk ?_
 cases h3
 exact wk [0,1,2,3,4,5]
 refine au 6 ?_
 refine aif h2 ?_ ?_ <;> intro hc h2
 refine au 2 ?_
 refine aHo rfl ?_
 cases h2
 refine lpx fun e => ?_
 subst e
 refine au 2 ?_
 exact wk [0,1,2,3,4,5]
 refine au 15 ?_
 refine bD ?_
 cases h2
 refine ⟨_,rfl,?_⟩
 exact wk [0,1,2,3,4,5]
 obtain ⟨v16,h1,h0⟩:=bnd h0
 refine aN ⟨aA (aA (aA aH 1 (dI v16.1)) 4 (bA 3)) 7 (bA 4),lk3 [(slB 38 3 xX),(slB 38 3 (dV v16.2))]⟩ ?_ ?_
 refine au 4 ?_
 obtain ⟨v9,hv9,h1⟩:=bnd h1
 refine cll 6 (mP hv9) ?_
 refine au 3 ?_
 refine aK (fun s13=>⟨aA (aA (aA (aA (aA aH 1 (dI s13.1)) 2 (bA 3)) 4 (bA 4)) 7 (bA 5)) 9 (dB v9),lk3 [(slB 33 4 (aJ p0)),slB 38 3 xX,(slB 38 3 (dV s13.2))]⟩) h1 ?_ (fun s13 y h2 => ?_)
 exact wk [0,1,2,3,4,5]
 refine au 7 ?_
 obtain ⟨v14,hv14,h2⟩:=bnd h2
 refine cll 6 (iT hv14) ?_
 refine au 2 ?_
 refine aif h2 ?_ ?_ <;> intro hc h2
 refine au 9 ?_
 obtain ⟨v15,hv15,h2⟩:=bnd h2
 refine cll 6 (iT hv15) ?_
 refine au 12 ?_
 refine bD ?_
 cases h2
 refine ⟨_,rfl,?_⟩
 exact wk [0,1,2,3,4,5]
 refine au 2 ?_
 cases h2
 refine lpx fun e => ?_
 subst e
 refine au 2 ?_
 exact wk [0,1,2,4,5]
 refine au 11 ?_
 cases h0
 exact cG (rs:=[.cell 4 38]) rfl
theorem aMo {p0:aC} {p1:Int} {p2:Int} {r:aS × Int} (h0:vF p0 p1 p2=some r):FnC Tryz.prog 181 [] [.agg (aJ p0),(dI p1),(dI p2)] [] (.tup [.agg (dV r.1),(dI r.2)]):=by
 refine fi 25 tok Tryz.func181 ?_
 unfold vF at h0
 refine au 1 ?_
 refine bxx 3 ?_
 refine al 4 xX tok ?_
 refine au 4 ?_
 obtain ⟨v1,hv1,h0⟩:=bnd h0
 refine cll 5 (aMl hv1) ?_
 refine au 10 ?_
 obtain ⟨v2,hv2,h0⟩:=bnd h0
 refine cll 5 (bK hv2) ?_
 refine au 2 ?_
 refine aiB h0 ?_ ?_ <;> intro hc h0
 refine au 1 ?_
 refine rpb tok xX ?_
 refine au 5 ?_
 cases h0
 exact cG (rs:=[.cell 6 38, .tmp 7]) rfl
 refine au 6 ?_
 obtain ⟨v3,hv3,h0⟩:=bnd h0
 refine cll 5 (aQh hv3) ?_
 refine au 4 ?_
 cases h0
 exact cG (rs:=[.cell 6 38, .tmp 7]) rfl
theorem aL8 {p0:aC} {p1:aS} {p2:Int} {r:aS × Int} (h0:uS p0 p1 p2=some r):FnC Tryz.prog 108 [] [.agg (aJ p0), .agg (dV p1),(dI p2)] [] (.tup [.agg (dV r.1),(dI r.2)]):=by
 refine fi 26 tok Tryz.func108 ?_
 unfold uS at h0
 refine au 1 ?_
 refine bxx 3 ?_
 refine bxx 4 ?_
 refine al 5 xX tok ?_
 refine au 5 ?_
 obtain ⟨v1,hv1,h0⟩:=bnd h0
 refine cll 6 (aSy hv1) ?_
 refine au 11 ?_
 refine aif h0 ?_ ?_ <;> intro hc h0
 refine au 1 ?_
 refine rpb tok xX ?_
 refine au 6 ?_
 cases h0
 exact cG (rs:=[.cell 6 38, .tmp 7]) rfl
 refine au 5 ?_
 obtain ⟨v2,hv2,h0⟩:=bnd h0
 refine cll 6 (aMo hv2) ?_
 refine au 6 ?_
 cases h0
 exact cG (rs:=[.cell 6 38, .tmp 7]) rfl
theorem wZ {p0:cH} {r:aS × Int × Int} (h0:jD p0=some r):FnC Tryz.prog 52 [] [.agg (lH p0)] [] (.tup [.agg (dV r.1),(dI r.2.1),(dI r.2.2)]):=by
 refine fi 37 tok Tryz.func52 ?_
 unfold jD at h0
 refine au 1 ?_
 refine bxx 3 ?_
 refine al 4 xX tok ?_
 refine au 6 ?_
 refine rP rfl (lI rfl rfl (by decide)) (au 9 ?_)
 obtain ⟨v2,hv2,h0⟩:=bnd h0
 refine cll 5 (aL8 hv2) ?_
 refine au 3 ?_
 refine al 5 xX tok ?_
 refine au 8 ?_
 refine aif h0 ?_ ?_ <;> intro hc h0
 refine au 1 ?_
 refine rpb tok xX ?_
 refine au 7 ?_
 cases h0
 exact cG (rs:=[.cell 2 38, .tmp 3, .tmp 4]) rfl
 refine au 13 ?_
 obtain ⟨hq3,h0⟩:=aT h0
 refine tP rfl (eW rfl rfl hq3) (au 7 ?_)
 cases h0
 exact cG (rs:=[.cell 2 38, .tmp 3, .tmp 4]) rfl
theorem aF5 {p0:cH} {r:cH × Int} (h0:lK p0=some r):FnC Tryz.prog 76 [] [.agg (lH p0)] [(slN 117 2 1 aF r.1.Movement.Works.Arbors),slF 2 1 aF r.1.Movement.Works.Arbors,slD 147 4 bH r.1.Movement.Works.Meshes,slD 127 3 aW r.1.Movement.Calendar.Months,slD 129 3 aM r.1.Movement.Calendar.Rules,slD 2 1 cI r.1.Movement.Cam,slD 2 1 cI r.1.Dial.Cam] (.tup [.agg (kG r.1 0 2 3 4 5 6),(dI r.2)]):=by
 refine fi 43 tok Tryz.func76 ?_
 unfold lK at h0
 refine au 1 ?_
 refine bxx 3 ?_
 refine al 4 fX tok ?_
 refine au 5 ?_
 obtain ⟨v1,hv1,h0⟩:=bnd h0
 refine cll 5 (kN hv1) ?_
 refine au 2 ?_
 refine aiB h0 ?_ ?_ <;> intro hc h0
 refine au 1 ?_
 refine rpb tok fX ?_
 refine au 3 ?_
 refine wa 5 117 2 4 1 ?_
 refine bL (cT 6 (k:=5) 2 1 aF rfl rfl) (wa 7 147 4 4 2 ?_)
 refine wa 8 127 3 4 9 ?_
 refine wa 9 129 3 4 10 ?_
 refine wa 10 2 1 4 12 ?_
 refine wa 11 2 1 4 19 ?_
 refine au 2 ?_
 cases h0
 exact bV (rs:=[.cell 2 42, .tmp 3]) [5,6,7,8,9,10,11] rfl
 refine au 3 ?_
 obtain ⟨v2,hv2,h0⟩:=bnd h0
 refine cll 5 (wZ hv2) ?_
 refine au 4 ?_
 refine al 5 xX tok ?_
 refine au 9 ?_
 refine aif h0 ?_ ?_ <;> intro hc h0
 refine au 1 ?_
 refine rpb tok fX ?_
 refine au 4 ?_
 refine wa 6 117 2 4 1 ?_
 refine bL (cT 7 (k:=6) 2 1 aF rfl rfl) (wa 8 147 4 4 2 ?_)
 refine wa 9 127 3 4 9 ?_
 refine wa 10 129 3 4 10 ?_
 refine wa 11 2 1 4 12 ?_
 refine wa 12 2 1 4 19 ?_
 refine au 2 ?_
 cases h0
 exact bV (rs:=[.cell 2 42, .tmp 3]) [6,7,8,9,10,11,12] rfl
 refine au 10 ?_
 obtain ⟨v3,hv3,h0⟩:=bnd h0
 refine cll 6 (qD hv3) ?_
 refine au 3 ?_
 refine al 7 aC7 tok ?_
 refine au 8 ?_
 refine aif h0 ?_ ?_ <;> intro hc h0
 refine au 1 ?_
 refine rpb tok fX ?_
 refine au 4 ?_
 refine wa 8 117 2 4 1 ?_
 refine bL (cT 9 (k:=8) 2 1 aF rfl rfl) (wa 10 147 4 4 2 ?_)
 refine wa 11 127 3 4 9 ?_
 refine wa 12 129 3 4 10 ?_
 refine wa 13 2 1 4 12 ?_
 refine wa 14 2 1 4 19 ?_
 refine au 2 ?_
 cases h0
 exact bV (rs:=[.cell 2 42, .tmp 3]) [8,9,10,11,12,13,14] rfl
 refine au 3 ?_
 obtain ⟨v4,hv4,h0⟩:=bnd h0
 refine cll 8 (rJ hv4) ?_
 refine au 13 ?_
 cases h0
 exact bV (rs:=[.cell 2 42, .tmp 3]) [8,9,10,11,12,13,6] rfl
theorem aQg {p0:cH} {p1:fS} {r:cH × ByteArray × Int} (h0:iR p0 p1=some r):FnC Tryz.prog 38 [] [.agg (lH p0), .agg (xW p1)] [(slN 117 2 1 aF r.1.Movement.Works.Arbors),slF 2 1 aF r.1.Movement.Works.Arbors,slD 147 4 bH r.1.Movement.Works.Meshes,slD 127 3 aW r.1.Movement.Calendar.Months,slD 129 3 aM r.1.Movement.Calendar.Rules,slD 2 1 cI r.1.Movement.Cam,slD 2 1 cI r.1.Dial.Cam] (.tup [.agg (kG r.1 0 2 3 4 5 6),(dS r.2.1),(dI r.2.2)]):=by
 refine fi 95 tok Tryz.func38 ?_
 unfold iR at h0
 refine au 1 ?_
 refine bxx 3 ?_
 refine bxx 4 ?_
 refine al 5 fX tok ?_
 refine au 13 ?_
 refine aif h0 ?_ ?_ <;> intro hc h0
 refine au 4 ?_
 obtain ⟨v1,hv1,h0⟩:=bnd h0
 refine tP rfl (bS tok hv1 rfl rfl rfl rfl rfl rfl) (au 3 ?_)
 obtain ⟨v2,hv2,h0⟩:=bnd h0
 refine tP rfl (bS tok hv2 rfl rfl rfl rfl rfl rfl) (au 5 ?_)
 obtain ⟨v3,hv3,h0⟩:=bnd h0
 refine tP rfl (bS tok hv3 rfl rfl rfl rfl rfl rfl) (au 1 ?_)
 obtain ⟨v4,hv4,h0⟩:=bnd h0
 refine clt 7 (aEs hv4) ?_
 refine au 3 ?_
 refine aDz rfl w0 rfl rfl (fun hx hk=>gH 6 (cs:=fX) tok rfl rfl hk) (au 14 ?_)
 cases h0
 exact bV (rs:=[.cell 4 42, .tmp 5, .tmp 6]) [7,8,9,10,11,12,13] rfl
 refine au 4 ?_
 refine aif h0 ?_ ?_ <;> intro hc h0
 refine au 8 ?_
 obtain ⟨v5,hv5,h0⟩:=bnd h0
 refine tP rfl (bS tok hv5 rfl rfl rfl rfl rfl rfl) (au 1 ?_)
 obtain ⟨v6,hv6,h0⟩:=bnd h0
 refine clt 7 (aBq hv6) ?_
 refine au 3 ?_
 refine aDz rfl w0 rfl rfl (fun hx hk=>gH 6 (cs:=fX) tok rfl rfl hk) (au 14 ?_)
 cases h0
 exact bV (rs:=[.cell 4 42, .tmp 5, .tmp 6]) [7,8,9,10,11,12,13] rfl
 refine au 4 ?_
 refine aif h0 ?_ ?_ <;> intro hc h0
 refine au 5 ?_
 obtain ⟨v7,hv7,h0⟩:=bnd h0
 refine tP rfl (bS tok hv7 rfl rfl rfl rfl rfl rfl) (au 1 ?_)
 obtain ⟨v8,hv8,h0⟩:=bnd h0
 refine clt 7 (aQf hv8) ?_
 refine au 4 ?_
 refine aDz rfl w0 rfl rfl (fun hx hk=>gH 6 (cs:=fX) tok rfl rfl hk) (au 6 ?_)
 refine tdr [0,1,4,2,3,5,6,7] follows (au 3 ?_)
 obtain ⟨v9,hv9,h0⟩:=bnd h0
 refine clt 14 (bN hv9) ?_
 obtain ⟨hq10,h0⟩:=aT h0
 refine tP rfl (dK rfl rfl hq10) (au 8 ?_)
 cases h0
 exact bV (rs:=[.cell 4 42, .tmp 5, .tmp 6]) [7,8,9,10,11,12,13] rfl
 refine au 4 ?_
 refine aif h0 ?_ ?_ <;> intro hc h0
 refine au 5 ?_
 obtain ⟨v11,hv11,h0⟩:=bnd h0
 refine tP rfl (bS tok hv11 rfl rfl rfl rfl rfl rfl) (au 1 ?_)
 obtain ⟨v12,hv12,h0⟩:=bnd h0
 refine clt 7 (aMd hv12) ?_
 refine au 3 ?_
 refine aDz rfl w0 rfl rfl (fun hx hk=>gH 6 (cs:=fX) tok rfl rfl hk) (au 14 ?_)
 cases h0
 exact bV (rs:=[.cell 4 42, .tmp 5, .tmp 6]) [7,8,9,10,11,12,13] rfl
 refine au 5 ?_
 obtain ⟨v13,hv13,h0⟩:=bnd h0
 refine cll 6 (aF5 hv13) ?_
 refine au 3 ?_
 refine al 13 fX tok ?_
 refine au 11 ?_
 cases h0
 exact bV (rs:=[.cell 4 42, .tmp 5, .tmp 6]) [6,7,8,9,10,11,12] rfl
theorem qS {p0:List Int} {r:List Int} (h0:gG p0=some r):FnC Tryz.prog 143 [] [dL cI p0] [] (.fn 214 [.ref ((cL cI) r)]):=by
 refine fi 4 tok Tryz.func143 ?_
 unfold gG at h0
 refine au 1 ?_
 refine rS rfl (aYa 3 (cs:=[.d _]) rfl rfl rfl) (au 3 ?_)
 refine rP rfl (aIw rfl) (rP rfl (rV (r := .fn _ _) rfl) (nx (bL (bFw (k:=3) (t':=aA aH 2 (.fn 214 [.ref ((cL cI) p0)])) rfl (FzL.nil)) (au 1 ?_))))
 cases h0
 exact r0t 2 rfl
theorem wI {p0:List Int} {r:List Int} (h0:oD p0=some r):FnC Tryz.prog 212 [] [.fn 214 [.ref (cL cI p0)]] [slD 2 1 cI r] (bI 0 r):=by
 obtain ⟨q0,h0⟩:=aT h0
 cases h0
 exact aSf q0
theorem qR {p0:List Int} {r:List Int} (h0:kB p0=some r):FnC Tryz.prog 213 [slD 2 1 cI p0] [bI 0 p0] [slD 2 1 cI r] (.tup []):=by
 obtain ⟨q0,h0⟩:=aT h0
 cases h0
 exact bCc q0
theorem gV {p0_0:List Int} {r:List Int} (h0:cK p0_0=some r):FnC Tryz.prog 142 [] [.fn 214 [.ref ((cL cI) p0_0)]] [slD 2 1 cI r] (bI 0 r):=by
 refine fi 9 tok Tryz.func142 ?_
 unfold cK at h0
 refine au 4 ?_
 refine rP rfl (gZ (r := .fn _ _) rfl) ?_
 obtain ⟨v1,hv1,h0⟩:=bnd h0
 refine cll 3 (wI hv1) ?_
 refine au 4 ?_
 obtain ⟨v2,hv2,h0⟩:=bnd h0
 obtain ⟨hq3,h0⟩:=aT h0
 refine rw1 rfl w0 rfl (eS [3] 300 (qR hv2) rfl rfl) (au 6 ?_)
 cases h0
 exact bV (rs:=[.tmp 2]) [3] rfl
theorem pE {p0:List ByteArray} {p1 r:ByteArray} (h0:jW p0 p1=some r):FnC Tryz.prog 50 [] [dL cS p0,(dS p1)] [] (dS r):=by
 obtain ⟨⟨q0,q1⟩,h0⟩:=aT h0
 cases h0
 exact aZz q0 q1
theorem aHv {p0:List Int} {r:List Int × Int} (h0:uT p0=some r):FnC Tryz.prog 144 [] [dL cI p0] [] (.tup [dL cI r.1,(dI r.2)]):=by
 unfold uT at h0
 obtain ⟨v1,hv1,h0⟩:=bnd h0
 obtain ⟨⟨q0,q1⟩,h0⟩:=aT h0
 cases h0
 exact aV5 q0 q1 (sR hv1)
end Go.Proofs.YtbliejnpjpnahaaGreatDoor
