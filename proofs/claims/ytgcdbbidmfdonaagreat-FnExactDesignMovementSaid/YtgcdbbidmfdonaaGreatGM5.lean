/- Texts of this claim, one behind the other (merged by a program of mine). -/
import Derived.Test.YtgcdbbidmfdonaaGreatProg
import Derived.Test.YtgcdbbidmfdonaaGreatGM4
set_option linter.unusedSimpArgs false
set_option linter.unusedVariables false
namespace Go.Proofs.YtgcdbbidmfdonaaGreat
open Go.RowKit
set_option linter.unusedVariables false
set_option maxRecDepth 100000
set_option maxHeartbeats 2000000
theorem aG0 {p0 : bG} {p1 : Int} {r : Int} (h0 : oL p0 p1 = some r) : FnC Tryz.prog 165 [] [.agg [dS p0.Name,(dI p0.Days),(dI p0.Leap)],(dI p1)] [] (dI r) := by
 refine fi 13 tok Tryz.func165 ?_
 unfold oL at h0
 refine sq [0,1] (bxx 3 ?_)
 refine pa (nx (sq [0,1,2,3,4,5] ?_))
 refine pm ?_
 refine fa tok ?_
 refine ld tok ?_
 refine rP rfl (mM tok rfl rfl rfl) (rP rfl (iX rfl rfl) (pa (nx (aB (sq [0,1] ?_)))))
 refine pm ?_
 refine rP rfl (bB rfl rfl) (nx ?_)
 refine bC h0 rfl (fun hc h0 => ?_) (fun hc h0 => ?_)
 refine sq [0] (pa (nx (aC (aJ ?_))))
 cases h0
 exact r0t 4 rfl
 refine sk (sq [0,1] (pm ?_))
 refine pa (nx (aC ?_))
 cases h0
 exact r0t 4 rfl
theorem aDn {p0 : List bG} {p1 : Int} {r : Int} (h0 : nL p0 p1 = some r) : FnC Tryz.prog 86 [] [dL aT p0,(dI p1)] [] (dI r) := by
 refine fi 27 tok Tryz.func86 ?_
 unfold nL at h0
 refine sq [0] (pa (nx (sq [0,1,2,3,4] ?_)))
 refine pm ?_
 refine pm ?_
 refine rP rfl (aK tok rfl rfl rfl) (rP rfl (iX rfl rfl) (pa (nx (aB (sq [0,1] ?_)))))
 refine pm ?_
 refine rP rfl (bB rfl rfl) (nx ?_)
 refine bC h0 rfl (fun hc h0 => ?_) (fun hc h0 => ?_)
 refine sq [0] (pa (nx (aC (aJ ?_))))
 cases h0
 exact r0t 4 rfl
 refine sk ?_
 obtain ⟨v7x,h1,h0⟩ := bnd h0
 refine eL v7x (fun v7 => ⟨aA ((fun _ => .dead)) 1 (dI v7),lks [.no, .no, .no]⟩) ?_ ?_
 refine sq [0] (pa (nx (aE ?_)))
 refine aY (fun s4 => ⟨aA (aA (aA ((fun _ => .dead)) 0 (dL aT p0)) 1 (dI s4.1)) 5 (dI s4.2),lks [.no, .no, .no]⟩) h1 ?_ (fun s4 y h2 => ?_)
 exact wk [0,1,2]
 refine aB (sq [0,1,2,3] (pm ?_))
 refine pm ?_
 refine rP rfl (aK tok rfl rfl rfl) (rP rfl (bB rfl rfl) (nx ?_))
 refine bC h2 rfl (fun hc h2 => ?_) (fun hc h2 => ?_)
 refine sk (aB (aE (sq [0,1,2,3,4,5,6] (pm ?_))))
 refine pm ?_
 obtain ⟨v5,hv5,h2⟩ := bnd h2
 refine rP rfl (cG tok hv5 rfl rfl rfl rfl rfl rfl) (rP rfl (bR tok rfl rfl rfl (by repeat (first | exact kE.z _ | apply kE.t))) (pm ?_))
 obtain ⟨v6,hv6,h2⟩ := bnd h2
 refine rS rfl (aQ 3 (aG0 hv6) rfl rfl rfl) (pa (nx (sq [0,1] ?_)))
 refine pm ?_
 refine rP rfl (bB rfl rfl) (nx ?_)
 refine bC h2 rfl (fun hc h2 => ?_) (fun hc h2 => ?_)
 refine sq [0] (pa (nx (aC ?_)))
 refine bA (aJ ?_)
 cases h2
 refine dZ ⟨_,rfl,fun e => ?_⟩
 subst e
 refine bA ?_
 replace h0 := gU h0
 refine aJ ?_
 cases h0
 exact r0t 4 rfl
 refine cT (aZ (aF (sr [0,1,2] (pm ?_))))
 refine rP rfl (bD rfl rfl) (pa (aV ?_))
 refine bX ?_
 cases h2
 refine ⟨_,rfl,?_⟩
 exact wk [0,1,2]
 refine bH (cC ?_)
 cases h2
 refine cA ⟨_,rfl,fun e => ?_⟩
 subst e
 refine aR (aF ?_)
 refine ⟨_,rfl,?_⟩
 exact wk [0,1,2]
 rintro v7 rfl
 replace h0 := nN h0
 refine sq [0,1] (pm ?_)
 refine pa (nx (aC ?_))
 cases h0
 exact r0t 4 rfl
theorem zR {p0 : List aO} {p1 : Int} {r : Int} (h0 : jC p0 p1 = some r) : FnC Tryz.prog 87 [] [dL aG p0,(dI p1)] [] (dI r) := by
 refine fi 12 tok Tryz.func87 ?_
 unfold jC at h0
 refine sq [0] (pa (nx (sq [0,1,2,3,4] ?_)))
 refine pm ?_
 refine pm ?_
 refine rP rfl (aK tok rfl rfl rfl) (rP rfl (iX rfl rfl) (pa (nx (aB (sq [0,1] ?_)))))
 refine pm ?_
 refine rP rfl (bB rfl rfl) (nx ?_)
 refine bC h0 rfl (fun hc h0 => ?_) (fun hc h0 => ?_)
 refine sq [0] (pa (nx (aC (aJ ?_))))
 cases h0
 exact r0t 4 rfl
 refine sk (sq [0,1] (pm ?_))
 refine pa (nx (aC ?_))
 cases h0
 exact r0t 4 rfl
theorem aAv {p0 : aD} {p1 : Int} {r : Int} (h0 : jX p0 p1 = some r) : FnC Tryz.prog 30 [] [.agg [dS p0.Name,(dL aT p0.Months),(dL aG p0.Rules),(dI p0.Week)],(dI p1)] [] (dI r) := by
 refine fi 25 tok Tryz.func30 ?_
 unfold jX at h0
 refine sq [0,1] (bxx 3 ?_)
 refine pa (nx (sq [0,1,2,3,4,5] ?_))
 refine pm ?_
 refine fa tok ?_
 refine ld tok ?_
 refine rP rfl (mM tok rfl rfl rfl) (rP rfl (iX rfl rfl) (pa (nx (aB (sq [0,1] ?_)))))
 refine pm ?_
 refine rP rfl (bB rfl rfl) (nx ?_)
 refine bC h0 rfl (fun hc h0 => ?_) (fun hc h0 => ?_)
 refine sq [0] (pa (nx (aC (aJ ?_))))
 cases h0
 exact r0t 4 rfl
 refine sk (sq [0,1,2,3,4] (fa tok ?_))
 refine ld tok ?_
 refine pm ?_
 obtain ⟨v1,hv1,h0⟩ := bnd h0
 refine rS rfl (aQ 4 (aDn hv1) rfl rfl rfl) (pa (nx (aB (sq [0,1] ?_))))
 refine pm ?_
 refine rP rfl (bB rfl rfl) (nx ?_)
 refine bC h0 rfl (fun hc h0 => ?_) (fun hc h0 => ?_)
 refine sq [0] (pa (nx (aC (aJ ?_))))
 cases h0
 exact r0t 4 rfl
 refine sk (sq [0,1,2,3,4] (fa tok ?_))
 refine ld tok ?_
 refine pm ?_
 obtain ⟨v2,hv2,h0⟩ := bnd h0
 refine rS rfl (aQ 4 (zR hv2) rfl rfl rfl) (pa (nx (aB (sq [0,1] ?_))))
 refine pm ?_
 refine rP rfl (bB rfl rfl) (nx ?_)
 refine bC h0 rfl (fun hc h0 => ?_) (fun hc h0 => ?_)
 refine sq [0] (pa (nx (aC (aJ ?_))))
 cases h0
 exact r0t 4 rfl
 refine sk (sq [0,1] (pm ?_))
 refine pa (nx (aC ?_))
 cases h0
 exact r0t 4 rfl
theorem aF1 {p0 : bG} {r : bG} (h0 : rG p0 = some r) : FnC Tryz.prog 178 [] [.agg [dS p0.Name,(dI p0.Days),(dI p0.Leap)]] [] (.agg [dS r.Name,(dI r.Days),(dI r.Leap)]) := by
 refine fi 14 tok Tryz.func178 ?_
 unfold rG at h0
 refine sq [0,1] (bxx 3 ?_)
 refine al 4 [ze,z0,z0] tok (nx (sq [0] ?_))
 refine al 5 [ze,z0,z0] tok (nx (sq [0,1,2,3] ?_))
 refine fa tok ?_
 refine ld tok ?_
 refine fa tok ?_
 refine bs1 tok (nx (sq [0,1,2,3] ?_))
 refine fa tok ?_
 refine ld tok ?_
 refine fa tok ?_
 refine bs1 tok (nx (sq [0,1,2,3] ?_))
 refine fa tok ?_
 refine ld tok ?_
 refine fa tok ?_
 refine bs1 tok (nx (sq [0,1] ?_))
 refine rL rfl (bO tok rfl rfl rfl rfl) (bst tok (nx (aC ?_)))
 cases h0
 exact fR (rs := [.cell 2 170]) rfl
theorem aD3 {p0 : List bG} {r : List bG} (h0 : nP p0 = some r) : FnC Tryz.prog 98 [] [dL aT p0] [.live [⟨170,3, .data (List.map aT r)⟩]] (.own 0 0 r.length) := by
 refine fi 23 tok Tryz.func98 ?_
 unfold nP at h0
 refine sq [0] (pa (nx (sq [0,1,2,3] ?_)))
 refine pm ?_
 refine rP rfl (aK tok rfl rfl rfl) ?_
 obtain ⟨hq1,h0⟩ := cR h0
 refine rS rfl (aHz 3 tok (c := aT) (⟨(⟨#[]⟩ : ByteArray),0,0⟩ : bG) hq1 rfl rfl rfl rfl rfl rfl rfl rfl rfl rfl rfl rfl rfl) (rP rfl (aS (r := .own _ _ _) rfl) (nx ?_))
 obtain ⟨v10,h1,h0⟩ := bnd h0
 refine bF ⟨aA ((fun _ => .dead)) 3 (.own 3 0 (v10).length),lks [.no, .no, .no, .live [⟨170,3, .data (List.map aT v10)⟩]]⟩ ?_ ?_
 refine sq [0] (pa (nx (aE ?_)))
 refine aY (fun s6 => ⟨aA (aA (aA ((fun _ => .dead)) 0 (dL aT p0)) 3 (.own 3 0 (s6.2).length)) 4 (dI s6.1),lks [.no, .no, .no, .live [⟨170,3, .data (List.map aT s6.2)⟩]]⟩) h1 ?_ (fun s6 y h2 => ?_)
 exact wk [0,1,2,3]
 refine aB (sq [0,1,2,3] (pm ?_))
 refine pm ?_
 refine rP rfl (aK tok rfl rfl rfl) (rP rfl (bB rfl rfl) (nx ?_))
 refine bC h2 rfl (fun hc h2 => ?_) (fun hc h2 => ?_)
 refine sk (aB (aE (sr [0,1,2,3,4,5,6,7,8] (rP rfl (aL (r := .own _ _ _) rfl) ?_))))
 iterate 3 refine pm ?_
 obtain ⟨v7,hv7,h2⟩ := bnd h2
 refine rP rfl (cG tok hv7 rfl rfl rfl rfl rfl rfl) (rP rfl (bR tok rfl rfl rfl (by repeat (first | exact kE.z _ | apply kE.t))) ?_)
 obtain ⟨v8,hv8,h2⟩ := bnd h2
 refine rS rfl (aQ 4 (aF1 hv8) rfl rfl rfl) ?_
 obtain ⟨v9,hv9,h2⟩ := bnd h2
 refine rL rfl (jB tok hv9 rfl rfl rfl rfl rfl rfl rfl rfl) (rw0 rfl w0 (sR (cs := _ :: _) tok v8 (eB hv9).2.1 rfl rfl rfl rfl rfl rfl rfl rfl) (aV (aZ (aF (sr [0,1,2] (pm ?_))))))
 refine rP rfl (bD rfl rfl) (pa (aV ?_))
 refine bX ?_
 cases h2
 refine ⟨_,rfl,?_⟩
 exact wk [0,1,2,3]
 refine bH (cC ?_)
 cases h2
 refine cA ⟨_,rfl,fun e => ?_⟩
 subst e
 refine aR (aF ?_)
 exact wk [0,1,2,3]
 refine sq [0,1] (rP rfl (aL (r := .own _ _ _) rfl) (rP rfl (aS (r := .own _ _ _) rfl) (nx (aC ?_))))
 cases h0
 exact fO (rs := [.tmp 2]) [3] rfl
theorem aA0 {p0 : aO} {r : aO} (h0 : mX p0 = some r) : FnC Tryz.prog 179 [] [.agg [dI p0.Every,(dI p0.Rest),(dB p0.Leap)]] [] (.agg [dI r.Every,(dI r.Rest),(dB r.Leap)]) := by
 refine fi 14 tok Tryz.func179 ?_
 unfold mX at h0
 refine sq [0,1] (bxx 3 ?_)
 refine al 4 [z0,z0,(dB false)] tok (nx (sq [0] ?_))
 refine al 5 [z0,z0,(dB false)] tok (nx (sq [0,1,2,3] ?_))
 refine fa tok ?_
 refine ld tok ?_
 refine fa tok ?_
 refine bs1 tok (nx (sq [0,1,2,3] ?_))
 refine fa tok ?_
 refine ld tok ?_
 refine fa tok ?_
 refine bs1 tok (nx (sq [0,1,2,3] ?_))
 refine fa tok ?_
 refine ld tok ?_
 refine fa tok ?_
 refine bs1 tok (nx (sq [0,1] ?_))
 refine rL rfl (bO tok rfl rfl rfl rfl) (bst tok (nx (aC ?_)))
 cases h0
 exact fR (rs := [.cell 2 181]) rfl
theorem zT {p0 : List aO} {r : List aO} (h0 : jM p0 = some r) : FnC Tryz.prog 99 [] [dL aG p0] [.live [⟨181,3, .data (List.map aG r)⟩]] (.own 0 0 r.length) := by
 refine fi 23 tok Tryz.func99 ?_
 unfold jM at h0
 refine sq [0] (pa (nx (sq [0,1,2,3] ?_)))
 refine pm ?_
 refine rP rfl (aK tok rfl rfl rfl) ?_
 obtain ⟨hq1,h0⟩ := cR h0
 refine rS rfl (aHz 3 tok (c := aG) (⟨0,0,false⟩ : aO) hq1 rfl rfl rfl rfl rfl rfl rfl rfl rfl rfl rfl rfl rfl) (rP rfl (aS (r := .own _ _ _) rfl) (nx ?_))
 obtain ⟨v10,h1,h0⟩ := bnd h0
 refine bF ⟨aA ((fun _ => .dead)) 3 (.own 3 0 (v10).length),lks [.no, .no, .no, .live [⟨181,3, .data (List.map aG v10)⟩]]⟩ ?_ ?_
 refine sq [0] (pa (nx (aE ?_)))
 refine aY (fun s6 => ⟨aA (aA (aA ((fun _ => .dead)) 0 (dL aG p0)) 3 (.own 3 0 (s6.2).length)) 4 (dI s6.1),lks [.no, .no, .no, .live [⟨181,3, .data (List.map aG s6.2)⟩]]⟩) h1 ?_ (fun s6 y h2 => ?_)
 exact wk [0,1,2,3]
 refine aB (sq [0,1,2,3] (pm ?_))
 refine pm ?_
 refine rP rfl (aK tok rfl rfl rfl) (rP rfl (bB rfl rfl) (nx ?_))
 refine bC h2 rfl (fun hc h2 => ?_) (fun hc h2 => ?_)
 refine sk (aB (aE (sr [0,1,2,3,4,5,6,7,8] (rP rfl (aL (r := .own _ _ _) rfl) ?_))))
 iterate 3 refine pm ?_
 obtain ⟨v7,hv7,h2⟩ := bnd h2
 refine rP rfl (cG tok hv7 rfl rfl rfl rfl rfl rfl) (rP rfl (bR tok rfl rfl rfl (by repeat (first | exact kE.z _ | apply kE.t))) ?_)
 obtain ⟨v8,hv8,h2⟩ := bnd h2
 refine rS rfl (aQ 4 (aA0 hv8) rfl rfl rfl) ?_
 obtain ⟨v9,hv9,h2⟩ := bnd h2
 refine rL rfl (jB tok hv9 rfl rfl rfl rfl rfl rfl rfl rfl) (rw0 rfl w0 (sR (cs := _ :: _) tok v8 (eB hv9).2.1 rfl rfl rfl rfl rfl rfl rfl rfl) (aV (aZ (aF (sr [0,1,2] (pm ?_))))))
 refine rP rfl (bD rfl rfl) (pa (aV ?_))
 refine bX ?_
 cases h2
 refine ⟨_,rfl,?_⟩
 exact wk [0,1,2,3]
 refine bH (cC ?_)
 cases h2
 refine cA ⟨_,rfl,fun e => ?_⟩
 subst e
 refine aR (aF ?_)
 exact wk [0,1,2,3]
 refine sq [0,1] (rP rfl (aL (r := .own _ _ _) rfl) (rP rfl (aS (r := .own _ _ _) rfl) (nx (aC ?_))))
 cases h0
 exact fO (rs := [.tmp 2]) [3] rfl
theorem mS {p0 : aD} {r : aD} (h0 : eY p0 = some r) : FnC Tryz.prog 32 [] [.agg [dS p0.Name,(dL aT p0.Months),(dL aG p0.Rules),(dI p0.Week)]] [.live [⟨170,3, .data (List.map aT r.Months)⟩], .live [⟨181,3, .data (List.map aG r.Rules)⟩]] (.agg [dS r.Name, .own 0 0 r.Months.length, .own 1 0 r.Rules.length,(dI r.Week)]) := by
 refine fi 19 tok Tryz.func32 ?_
 unfold eY at h0
 refine sq [0,1] (bxx 3 ?_)
 refine al 4 [ze,zl,zl,z0] tok (nx (sq [0] ?_))
 refine al 5 [ze,zl,zl,z0] tok (nx (sq [0,1,2,3] ?_))
 refine fa tok ?_
 refine ld tok ?_
 refine fa tok ?_
 refine bs1 tok (nx (sq [0,1,2,3,4] ?_))
 refine fa tok ?_
 refine ld tok ?_
 obtain ⟨v1,hv1,h0⟩ := bnd h0
 refine rS rfl (aQ 6 (aD3 hv1) rfl rfl rfl) (fa tok ?_)
 refine rw0 rfl w0 (pB (cs := [.own _ _ _]) tok rfl rfl rfl rfl rfl rfl rfl) (nx (sq [0,1,2,3,4] (fa tok ?_)))
 refine ld tok ?_
 obtain ⟨v2,hv2,h0⟩ := bnd h0
 refine rS rfl (aQ 7 (zT hv2) rfl rfl rfl) (fa tok ?_)
 refine rw0 rfl w0 (pB (cs := [.own _ _ _]) tok rfl rfl rfl rfl rfl rfl rfl) (nx (sq [0,1,2,3] (fa tok ?_)))
 refine ld tok ?_
 refine fa tok ?_
 refine bs1 tok (nx (sq [0,1] ?_))
 refine rL rfl (bO tok rfl rfl rfl rfl) (bst tok (nx (aC ?_)))
 cases h0
 exact fO (rs := [.cell 2 31]) [6,7] rfl
theorem gC {p0 : Int} {p1 : Int} {p2 : Int} {r : Bool} (h0 : eE p0 p1 p2 = some r) : FnC Tryz.prog 90 [] [dI p0,(dI p1),(dI p2)] [] (dB r) := by
 refine fi 15 tok Tryz.func90 ?_
 unfold eE at h0
 refine sq [0] (pa (nx (sq [0,1,2,3,4,5,6,7,8] ?_)))
 refine pm ?_
 refine pm ?_
 refine rP rfl (sJ rfl rfl) (pm ?_)
 refine jW (u := 10) h0 rfl (fun hc h0 => ?_) (fun hc h0 => ?_)
 refine pm1 ?_
 refine pm1 ?_
 refine rp rfl (w1 rfl rfl rfl) rfl (jK rfl rfl) (pkt ?_)
 refine pa (nx (aC ?_))
 cases h0
 exact r0t 6 rfl
 iterate 3 refine k1 ?_
 refine pkf ?_
 refine pa (nx (aC ?_))
 cases h0
 exact r0t 6 rfl
theorem vZ {p0 : Int} {p1 : Int} {r : Int} (h0 : mE p0 p1 = some r) : FnC Tryz.prog 163 [] [dI p0,(dI p1)] [] (dI r) := by
 refine fi 14 tok Tryz.func163 ?_
 unfold mE at h0
 refine sq [0] (pa (nx ?_))
 obtain ⟨v5,h1,h0⟩ := bnd h0
 refine bF ⟨aA ((fun _ => .dead)) 0 (dI v5),lks [.no, .no, .no]⟩ ?_ ?_
 refine aE ?_
 refine aY (fun s3 => ⟨aA (aA ((fun _ => .dead)) 0 (dI s3.1)) 1 (dI s3.2),lks [.no, .no, .no]⟩) h1 ?_ (fun s3 y h2 => ?_)
 exact wk [0,1,2]
 refine aB (sq [0,1] (pm ?_))
 refine rP rfl (gT rfl rfl) (nx ?_)
 refine bC h2 rfl (fun hc h2 => ?_) (fun hc h2 => ?_)
 refine sk (aE (sq [0,1,2,3] (pm ?_)))
 refine pm ?_
 obtain ⟨hq4,h2⟩ := cR h2
 refine rP rfl (lG rfl rfl hq4) (pa (nx (sq [0,1] ?_)))
 refine pm ?_
 refine pa (nx (sr [0,1] ?_))
 refine pm ?_
 refine pa (aV ?_)
 refine aZ (bX ?_)
 cases h2
 refine ⟨_,rfl,?_⟩
 exact wk [0,1,2]
 refine bH (cC ?_)
 cases h2
 refine cA ⟨_,rfl,fun e => ?_⟩
 subst e
 refine aR (aF ?_)
 exact wk [0,1,2]
 refine sq [0,1] (pm ?_)
 refine pa (nx (aC ?_))
 cases h0
 exact r0t 4 rfl
theorem wV {p0 : List aO} {r : Int × Bool} (h0 : kL p0 = some r) : FnC Tryz.prog 166 [] [dL aG p0] [] (.tup [dI r.1,(dB r.2)]) := by
 refine fi 55 tok Tryz.func166 ?_
 unfold kL at h0
 refine sq [0,1] (pa ?_)
 refine pa (nx (sq [0] ?_))
 refine pa (nx ?_)
 obtain ⟨v23x,h1,h0⟩ := bnd h0
 refine eL v23x (fun v23 => ⟨aA (aA ((fun _ => .dead)) 0 (dL aG p0)) 4 (dI v23),lks [.no, .no, .no]⟩) ?_ ?_
 refine sq [0] (pa (nx (aE ?_)))
 refine aY (fun s12 => ⟨aA (aA (aA ((fun _ => .dead)) 0 (dL aG p0)) 4 (dI s12.1)) 5 (dI s12.2),lks [.no, .no, .no]⟩) h1 ?_ (fun s12 y h2 => ?_)
 exact wk [0,1,2]
 refine aB (sq [0,1,2,3] (pm ?_))
 refine pm ?_
 refine rP rfl (aK tok rfl rfl rfl) (rP rfl (bB rfl rfl) (nx ?_))
 refine bC h2 rfl (fun hc h2 => ?_) (fun hc h2 => ?_)
 refine sk (aB (aE (aB ?_)))
 obtain ⟨v18,h3,h2⟩ := bnd h2
 refine bF ⟨aA (aA (aA (aA ((fun _ => .dead)) 0 (dL aG p0)) 4 (dI s12.1)) 5 (dI s12.2)) 33 (dB v18),lks [.no, .no, .no]⟩ ?_ ?_
 refine aI (is := [0,1,2,3,4,5,6,7,8,9,10,11,12,13,14,15,16,17,18,19,20,21]) [0,0,3,7,15,31,63,127,255,255,1023,2047,4095,255,255,24831,57599,123135,254207,524287,1048575,2097151] follows (by kernel_rfl) (tpm ?_)
 refine tpm ?_
 obtain ⟨v13,hv13,h3⟩ := bnd h3
 refine tP rfl (cG tok hv13 rfl rfl rfl rfl rfl rfl) (tfr tok ?_)
 refine tlr tok ?_
 obtain ⟨v14,hv14,h3⟩ := bnd h3
 refine oH rfl w0 rfl (dJ 3 (gC hv14) rfl rfl rfl) (tP rfl (cJ rfl) (tpm ?_))
 refine aDr (u := 19) h3 rfl (fun hc h3 => ?_) (fun hc h3 => ?_)
 iterate 13 refine k2 ?_
 refine aJl ?_
 refine bY ?_
 refine ⟨by kernel_rfl,?_⟩
 refine aF ?_
 cases h3
 exact wk [0,1,2]
 refine aDe ?_
 refine aDe ?_
 obtain ⟨v15,hv15,h3⟩ := bnd h3
 refine qV rfl (w1 rfl rfl rfl) rfl (cG tok hv15 rfl rfl rfl rfl rfl rfl) (aNe tok ?_)
 refine aLq tok ?_
 refine aDe ?_
 refine aDe ?_
 obtain ⟨v16,hv16,h3⟩ := bnd h3
 refine qV rfl (w1 rfl rfl rfl) rfl (cG tok hv16 rfl rfl rfl rfl rfl rfl) (aNe tok ?_)
 refine aLq tok ?_
 refine qV rfl (w1 rfl rfl rfl) rfl (iX rfl rfl) ?_
 obtain ⟨v17,hv17,h3⟩ := bnd h3
 refine oH rfl (w1 rfl rfl rfl) rfl (dJ 3 (gC hv17) rfl rfl rfl) (qV rfl (w1 rfl rfl rfl) rfl (cJ rfl) (aH2 ?_))
 refine bY ?_
 refine ⟨by kernel_rfl,?_⟩
 refine aF ?_
 cases h3
 refine lW.trans_ (mR (d := 23) (ds := cI v15.Rest) rfl (by repeat (first | exact Pre.z _ | apply Pre.t))) (lW.trans_ (mR (d := 28) (ds := cI v16.Every) rfl (by repeat (first | exact Pre.z _ | apply Pre.t))) ?_)
 exact wk [0,1,2]
 refine bZ h2 rfl (fun hc h2 => ?_) (fun hc h2 => ?_)
 refine sq [0,1] (pa ?_)
 refine pa (nx (aC (aJ ?_)))
 refine bA (aJ ?_)
 cases h2
 refine dZ ⟨_,rfl,fun e => ?_⟩
 subst e
 refine bA ?_
 replace h0 := gU h0
 refine aJ ?_
 cases h0
 exact fR (rs := [.tmp 2, .tmp 3]) rfl
 refine sk (aB (aI (is := [0,1,2,3,4,5,6,9,10,11,12,13,7,8,14,15]) [0,0,0,0,12,28,60,126,255,0,0,1536,3584,7680,16383,32767] follows (by kernel_rfl) ?_))
 iterate 4 refine tpm ?_
 obtain ⟨v19,hv19,h2⟩ := bnd h2
 refine tP rfl (cG tok hv19 rfl rfl rfl rfl rfl rfl) (tfr tok ?_)
 refine tlr tok ?_
 refine tpm ?_
 refine tpm ?_
 obtain ⟨v20,hv20,h2⟩ := bnd h2
 refine tP rfl (cG tok hv20 rfl rfl rfl rfl rfl rfl) (tfr tok ?_)
 refine tlr tok ?_
 obtain ⟨v21,hv21,h2⟩ := bnd h2
 refine oH rfl w0 rfl (dJ 3 (vZ hv21) rfl rfl rfl) ?_
 obtain ⟨hq22,h2⟩ := cR h2
 refine tP rfl (rO rfl rfl hq22) (tP rfl (eH rfl rfl) (tpa ?_))
 refine bY ?_
 refine ⟨by kernel_rfl,?_⟩
 refine aF (sq [0,1] (pm ?_))
 refine rP rfl (gT rfl rfl) (nx ?_)
 refine bC h2 rfl (fun hc h2 => ?_) (fun hc h2 => ?_)
 refine sq [0,1] (pa ?_)
 refine pa (nx (aC ?_))
 refine bA (aJ ?_)
 cases h2
 refine dZ ⟨_,rfl,fun e => ?_⟩
 subst e
 refine bA ?_
 replace h0 := gU h0
 refine aJ ?_
 cases h0
 exact fR (rs := [.tmp 2, .tmp 3]) rfl
 refine cT (aZ (aF (sr [0,1,2] (pm ?_))))
 refine rP rfl (bD rfl rfl) (pa (aV ?_))
 refine bX ?_
 cases h2
 refine ⟨_,rfl,?_⟩
 exact wk [0,1,2]
 refine bH (cC ?_)
 cases h2
 refine cA ⟨_,rfl,fun e => ?_⟩
 subst e
 refine aR (aF ?_)
 refine ⟨_,rfl,?_⟩
 exact wk [0,1,2]
 rintro v23 rfl
 replace h0 := nN h0
 refine sq [0,1,2,3,4,5] (pm ?_)
 refine pm ?_
 refine rP rfl (aK tok rfl rfl rfl) (rP rfl (jK rfl rfl) (pa ?_))
 refine pa (nx (aC ?_))
 cases h0
 exact fR (rs := [.tmp 2, .tmp 3]) rfl
theorem wT {p0 : Int} {r : Bool} (h0 : kS p0 = some r) : FnC Tryz.prog 168 [] [.d (.v (.int .u8 p0))] [] (dB r) := by
 refine fi 9 tok Tryz.func168 ?_
 unfold kS at h0
 refine sq [0] (pa (nx (sq [0,1,2,3,4,5,6] ?_)))
 refine pm ?_
 refine rP rfl (sJ rfl rfl) (pm ?_)
 refine jW (u := 5) h0 rfl (fun hc h0 => ?_) (fun hc h0 => ?_)
 refine pm1 ?_
 refine rp rfl (w1 rfl rfl rfl) rfl (jK rfl rfl) (pkt ?_)
 refine pa (nx (aC ?_))
 cases h0
 exact r0t 2 rfl
 refine k1 ?_
 refine k1 ?_
 refine pkf ?_
 refine pa (nx (aC ?_))
 cases h0
 exact r0t 2 rfl
theorem aFb {p0 : Int} {r : Bool} (h0 : mY p0 = some r) : FnC Tryz.prog 169 [] [.d (.v (.int .u8 p0))] [] (dB r) := by
 refine fi 9 tok Tryz.func169 ?_
 unfold mY at h0
 refine sq [0] (pa (nx (sq [0,1,2,3,4,5,6] ?_)))
 refine pm ?_
 refine rP rfl (sJ rfl rfl) (pm ?_)
 refine jW (u := 5) h0 rfl (fun hc h0 => ?_) (fun hc h0 => ?_)
 refine pm1 ?_
 refine rp rfl (w1 rfl rfl rfl) rfl (jK rfl rfl) (pkt ?_)
 refine pa (nx (aC ?_))
 cases h0
 exact r0t 2 rfl
 refine k1 ?_
 refine k1 ?_
 refine pkf ?_
 refine pa (nx (aC ?_))
 cases h0
 exact r0t 2 rfl
theorem vW {p0 : ByteArray} {r : Bool} (h0 : lU p0 = some r) : FnC Tryz.prog 89 [] [dS p0] [] (dB r) := by
 refine fi 41 tok Tryz.func89 ?_
 unfold lU at h0
 refine sq [0] (pa (nx (aB ?_)))
 obtain ⟨v3,h1,h0⟩ := bnd h0
 refine bF ⟨aA (aA ((fun _ => .dead)) 0 (dS p0)) 16 (dB v3),lks [.no, .no, .no]⟩ ?_ ?_
 refine sr [0,1,2,3,4,5,6,7,8,9,10,11,12] (pm ?_)
 refine rP rfl (aGm rfl rfl) (pm ?_)
 refine jW (u := 6) h1 rfl (fun hc h1 => ?_) (fun hc h1 => ?_)
 iterate 3 refine k1 ?_
 refine pkt ?_
 refine pm ?_
 iterate 4 refine k1 ?_
 refine pkt (nx ?_)
 cases h1
 exact wk [0,1,2]
 refine pm1 ?_
 refine rp rfl (w1 rfl rfl rfl) rfl (mM tok rfl rfl rfl) (rp rfl (w1 rfl rfl rfl) rfl (gT rfl rfl) (pkf ?_))
 refine pm ?_
 refine jW (u := 11) h1 rfl (fun hc h1 => ?_) (fun hc h1 => ?_)
 iterate 4 refine k1 ?_
 refine pkt (nx ?_)
 cases h1
 exact wk [0,1,2]
 refine pm1 ?_
 obtain ⟨v1,hv1,h1⟩ := bnd h1
 refine rp rfl (w1 rfl rfl rfl) rfl (aC3 tok hv1 rfl rfl rfl rfl) ?_
 obtain ⟨v2,hv2,h1⟩ := bnd h1
 refine rs rfl (w1 rfl rfl rfl) rfl (aQ 3 (wT hv2) rfl rfl rfl) (rp rfl (w1 rfl rfl rfl) rfl (cJ rfl) (pkf (nx ?_)))
 cases h1
 exact wk [0,1,2]
 refine bZ h0 rfl (fun hc h0 => ?_) (fun hc h0 => ?_)
 refine sq [0] (pa (nx (aC (aJ ?_))))
 cases h0
 exact r0t 2 rfl
 refine sk ?_
 obtain ⟨v18x,h1,h0⟩ := bnd h0
 refine eL v18x (fun v18 => ⟨(fun _ => .dead),lks [.no, .no, .no]⟩) ?_ ?_
 refine sq [0] (pa (nx (aE ?_)))
 refine aY (fun s11 => ⟨aA (aA ((fun _ => .dead)) 0 (dS p0)) 3 (dI s11),lks [.no, .no, .no]⟩) h1 ?_ (fun s11 y h2 => ?_)
 exact wk [0,1,2]
 refine aB (sq [0,1,2,3] (pm ?_))
 refine pm ?_
 refine rP rfl (mM tok rfl rfl rfl) (rP rfl (bB rfl rfl) (nx ?_))
 refine bC h2 rfl (fun hc h2 => ?_) (fun hc h2 => ?_)
 refine sk (aB (aE ?_))
 obtain ⟨v17,h3,h2⟩ := bnd h2
 refine bF ⟨aA (aA (aA ((fun _ => .dead)) 0 (dS p0)) 3 (dI s11)) 40 (dB v17),lks [.no, .no, .no]⟩ ?_ ?_
 refine sr [0,1,2,3,4,5,6,7,8,9,10,11,12,13,14,15,16,17] (pm ?_)
 refine pm ?_
 obtain ⟨v12,hv12,h3⟩ := bnd h3
 refine rP rfl (aC3 tok hv12 rfl rfl rfl rfl) ?_
 obtain ⟨v13,hv13,h3⟩ := bnd h3
 refine rS rfl (aQ 3 (wT hv13) rfl rfl rfl) (rP rfl (cJ rfl) (pm ?_))
 refine fI (u := 28) h3 rfl (fun hc h3 => ?_) (fun hc h3 => ?_)
 refine pm1 ?_
 refine pm1 ?_
 obtain ⟨v14,hv14,h3⟩ := bnd h3
 refine rp rfl (w1 rfl rfl rfl) rfl (aC3 tok hv14 rfl rfl rfl rfl) ?_
 obtain ⟨v15,hv15,h3⟩ := bnd h3
 refine rs rfl (w1 rfl rfl rfl) rfl (aQ 3 (aFb hv15) rfl rfl rfl) (rp rfl (w1 rfl rfl rfl) rfl (cJ rfl) (pkt ?_))
 refine pm ?_
 refine fI (u := 35) h3 rfl (fun hc h3 => ?_) (fun hc h3 => ?_)
 refine pm1 ?_
 refine pm1 ?_
 obtain ⟨v16,hv16,h3⟩ := bnd h3
 refine rp rfl (w1 rfl rfl rfl) rfl (aC3 tok hv16 rfl rfl rfl rfl) (rp rfl (w1 rfl rfl rfl) rfl (cQ rfl rfl) (pkt (nx ?_)))
 cases h3
 exact wk [0,1,2]
 iterate 4 refine k1 ?_
 refine pkf (nx ?_)
 cases h3
 exact wk [0,1,2]
 iterate 5 refine k1 ?_
 refine pkf ?_
 refine pm ?_
 iterate 4 refine k1 ?_
 refine pkf (nx ?_)
 cases h3
 exact wk [0,1,2]
 refine bZ h2 rfl (fun hc h2 => ?_) (fun hc h2 => ?_)
 refine sq [0] (pa (nx (aC ?_)))
 refine bA (aJ ?_)
 cases h2
 refine dZ ⟨_,rfl,fun e => ?_⟩
 subst e
 refine bA ?_
 replace h0 := gU h0
 refine aJ ?_
 cases h0
 exact r0t 2 rfl
 refine cT (aZ (aF (sr [0,1,2] (pm ?_))))
 refine rP rfl (bD rfl rfl) (pa (aV ?_))
 refine bX ?_
 cases h2
 refine ⟨_,rfl,?_⟩
 exact wk [0,1,2]
 refine bH (cC ?_)
 cases h2
 refine cA ⟨_,rfl,fun e => ?_⟩
 subst e
 refine aR (aF ?_)
 refine ⟨_,rfl,?_⟩
 exact wk [0,1,2]
 rintro v18 rfl
 replace h0 := nN h0
 refine sq [0] (pa (nx (aC ?_)))
 cases h0
 exact r0t 2 rfl
theorem aBu {p0 : List bG} {r : Bool} (h0 : lS p0 = some r) : FnC Tryz.prog 167 [] [dL aT p0] [] (dB r) := by
 refine fi 55 tok Tryz.func167 ?_
 unfold lS at h0
 refine sq [0] (pa (nx ?_))
 obtain ⟨v31x,h1,h0⟩ := bnd h0
 refine eL v31x (fun v31 => ⟨aA ((fun _ => .dead)) 0 (dL aT p0),lks [.no, .no, .no]⟩) ?_ ?_
 refine sq [0] (pa (nx (aE ?_)))
 refine aY (fun s16 => ⟨aA (aA ((fun _ => .dead)) 0 (dL aT p0)) 3 (dI s16),lks [.no, .no, .no]⟩) h1 ?_ (fun s16 y h2 => ?_)
 exact wk [0,1,2]
 refine aB (sq [0,1,2,3] (pm ?_))
 refine pm ?_
 refine rP rfl (aK tok rfl rfl rfl) (rP rfl (bB rfl rfl) (nx ?_))
 refine bC h2 rfl (fun hc h2 => ?_) (fun hc h2 => ?_)
 refine sk ?_
 obtain ⟨v30x,h3,h2⟩ := bnd h2
 refine eL v30x (fun v30 => ⟨aA (aA ((fun _ => .dead)) 0 (dL aT p0)) 3 (dI s16),lks [.no, .no, .no]⟩) ?_ ?_
 refine aE (aB ?_)
 obtain ⟨v23,h4,h3⟩ := bnd h3
 refine bF ⟨aA (aA (aA ((fun _ => .dead)) 0 (dL aT p0)) 3 (dI s16)) 35 (dB v23),lks [.no, .no, .no]⟩ ?_ ?_
 refine sr [0,1,2,3,4,5,6,7,8,9,10,11,12,13,14,15,16,17,18,19,20,21,22,23,24] (pm ?_)
 refine pm ?_
 obtain ⟨v17,hv17,h4⟩ := bnd h4
 refine rP rfl (cG tok hv17 rfl rfl rfl rfl rfl rfl) (fr tok ?_)
 refine lr tok ?_
 obtain ⟨v18,hv18,h4⟩ := bnd h4
 refine rS rfl (aQ 3 (vW hv18) rfl rfl rfl) (rP rfl (cJ rfl) (pm ?_))
 refine fI (u := 18) h4 rfl (fun hc h4 => ?_) (fun hc h4 => ?_)
 iterate 7 refine k1 ?_
 refine pkt ?_
 refine pm ?_
 iterate 7 refine k1 ?_
 refine pkt (nx ?_)
 cases h4
 exact wk [0,1,2]
 refine pm1 ?_
 refine pm1 ?_
 obtain ⟨v19,hv19,h4⟩ := bnd h4
 refine rp rfl (w1 rfl rfl rfl) rfl (cG tok hv19 rfl rfl rfl rfl rfl rfl) (fr1 tok ?_)
 refine lr1 tok ?_
 obtain ⟨v20,hv20,h4⟩ := bnd h4
 refine rs rfl (w1 rfl rfl rfl) rfl (aQ 3 (gC hv20) rfl rfl rfl) (rp rfl (w1 rfl rfl rfl) rfl (cJ rfl) (pkf ?_))
 refine pm ?_
 refine fI (u := 27) h4 rfl (fun hc h4 => ?_) (fun hc h4 => ?_)
 iterate 7 refine k1 ?_
 refine pkt (nx ?_)
 cases h4
 refine lW.trans_ (mR (d := 22) (ds := cI v19.Days) rfl (by repeat (first | exact Pre.z _ | apply Pre.t))) ?_
 exact wk [0,1,2]
 refine pm1 ?_
 refine pm1 ?_
 obtain ⟨v21,hv21,h4⟩ := bnd h4
 refine rp rfl (w1 rfl rfl rfl) rfl (cG tok hv21 rfl rfl rfl rfl rfl rfl) (fr1 tok ?_)
 refine lr1 tok ?_
 obtain ⟨v22,hv22,h4⟩ := bnd h4
 refine rs rfl (w1 rfl rfl rfl) rfl (aQ 3 (gC hv22) rfl rfl rfl) (rp rfl (w1 rfl rfl rfl) rfl (cJ rfl) (pkf (nx ?_)))
 cases h4
 refine lW.trans_ (mR (d := 22) (ds := cI v19.Days) rfl (by repeat (first | exact Pre.z _ | apply Pre.t))) (lW.trans_ (mR (d := 31) (ds := cI v21.Leap) rfl (by repeat (first | exact Pre.z _ | apply Pre.t))) ?_)
 exact wk [0,1,2]
 refine bZ h3 rfl (fun hc h3 => ?_) (fun hc h3 => ?_)
 refine sq [0] (pa (nx (aC (aJ ?_))))
 refine bA ?_
 cases h3
 replace h2 := gU h2
 refine aJ ?_
 cases h2
 refine dZ ⟨_,rfl,fun e => ?_⟩
 subst e
 refine bA ?_
 replace h0 := gU h0
 refine aJ ?_
 cases h0
 exact r0t 2 rfl
 refine sk (sq [0] (pa (nx (aE ?_))))
 refine aY (fun s27 => ⟨aA (aA (aA ((fun _ => .dead)) 0 (dL aT p0)) 3 (dI s16)) 4 (dI s27),lks [.no, .no, .no]⟩) h3 ?_ (fun s27 y h4 => ?_)
 exact wk [0,1,2]
 refine aB (sq [0,1,2] (pm ?_))
 refine pm ?_
 refine rP rfl (bB rfl rfl) (nx ?_)
 refine bC h4 rfl (fun hc h4 => ?_) (fun hc h4 => ?_)
 refine sk (aB (aE (aB (aI (is := [0,1,2,3,4,5,6,7,8,9,10]) [0,0,3,7,15,0,0,96,224,480,1023] follows (by kernel_rfl) (tpm ?_)))))
 refine tpm ?_
 obtain ⟨v28,hv28,h4⟩ := bnd h4
 refine tP rfl (cG tok hv28 rfl rfl rfl rfl rfl rfl) (tfr tok ?_)
 refine tlr tok ?_
 refine tpm ?_
 refine tpm ?_
 obtain ⟨v29,hv29,h4⟩ := bnd h4
 refine tP rfl (cG tok hv29 rfl rfl rfl rfl rfl rfl) (tfr tok ?_)
 refine tlr tok ?_
 refine tP rfl (aGm rfl rfl) (bY ?_)
 refine ⟨by kernel_rfl,?_⟩
 refine aF ?_
 refine bC h4 rfl (fun hc h4 => ?_) (fun hc h4 => ?_)
 refine sq [0] (pa (nx (aC ?_)))
 refine bA (aJ ?_)
 cases h4
 refine dZ ⟨_,rfl,fun e => ?_⟩
 subst e
 refine bA (bA ?_)
 replace h2 := gU h2
 refine aJ ?_
 cases h2
 refine dZ ⟨_,rfl,fun e => ?_⟩
 subst e
 refine bA ?_
 replace h0 := gU h0
 refine aJ ?_
 cases h0
 exact r0t 2 rfl
 refine cT (aZ (aF (sr [0,1,2] (pm ?_))))
 refine rP rfl (bD rfl rfl) (pa (aV ?_))
 refine bX ?_
 cases h4
 refine ⟨_,rfl,?_⟩
 exact wk [0,1,2]
 refine bH (cC ?_)
 cases h4
 refine cA ⟨_,rfl,fun e => ?_⟩
 subst e
 refine aR ?_
 refine aZ (aF ?_)
 refine ⟨_,rfl,?_⟩
 exact wk [0,1,2]
 rintro v30 rfl
 replace h2 := nN h2
 refine sr [0,1,2] (pm ?_)
 refine rP rfl (bD rfl rfl) (pa (aV ?_))
 refine bX ?_
 cases h2
 refine ⟨_,rfl,?_⟩
 exact wk [0,1,2]
 refine bH (cC ?_)
 cases h2
 refine cA ⟨_,rfl,fun e => ?_⟩
 subst e
 refine aR (aF ?_)
 refine ⟨_,rfl,?_⟩
 exact wk [0,1,2]
 rintro v31 rfl
 replace h0 := nN h0
 refine sq [0,1,2,3] (pm ?_)
 refine rP rfl (aK tok rfl rfl rfl) ?_
 obtain ⟨v32,hv32,h0⟩ := bnd h0
 refine rS rfl (aQ 3 (gC hv32) rfl rfl rfl) (pa (nx (aC ?_)))
 cases h0
 exact r0t 2 rfl
theorem aDz {p0 : aD} {r : Bool} (h0 : qS p0 = some r) : FnC Tryz.prog 88 [] [.ref (dC p0)] [] (dB r) := by
 refine fi 35 tok Tryz.func88 ?_
 unfold qS at h0
 refine sq [0] (pa (nx (sq [0,1,2,3,4,5,6,7,8,9] ?_)))
 refine pmr ?_
 refine nr ?_
 refine fr tok ?_
 refine lr tok ?_
 obtain ⟨v1,hv1,h0⟩ := bnd h0
 refine rS rfl (aQ 3 (wV hv1) rfl rfl rfl) (rP rfl (aL (r := .tup _) rfl) (rP rfl (aW rfl rfl) (rP rfl (aW rfl rfl) (pa ?_))))
 refine pa (nx (sq [0,1,2,3,4,5,6,7,8,9,10,11,12,13,14,15,16,17,18,19,20,21,22] ?_))
 refine pm ?_
 refine pm ?_
 refine fI (u := 14) h0 rfl (fun hc h0 => ?_) (fun hc h0 => ?_)
 refine aRc ?_
 refine nr1 ?_
 refine fr1 tok ?_
 refine lr1 tok ?_
 obtain ⟨v2,hv2,h0⟩ := bnd h0
 refine rs rfl (w1 rfl rfl rfl) rfl (aQ 3 (vW hv2) rfl rfl rfl) (pkt ?_)
 refine pm ?_
 refine fI (u := 21) h0 rfl (fun hc h0 => ?_) (fun hc h0 => ?_)
 refine aRc ?_
 refine nr1 ?_
 refine fr1 tok ?_
 refine lr1 tok ?_
 obtain ⟨v3,hv3,h0⟩ := bnd h0
 refine rs rfl (w1 rfl rfl rfl) rfl (aQ 3 (aBu hv3) rfl rfl rfl) (pkt ?_)
 refine pm ?_
 refine fI (u := 28) h0 rfl (fun hc h0 => ?_) (fun hc h0 => ?_)
 refine aRc ?_
 refine nr1 ?_
 refine fr1 tok ?_
 refine lr1 tok ?_
 obtain ⟨v4,hv4,h0⟩ := bnd h0
 refine rs rfl (w1 rfl rfl rfl) rfl (aQ 3 (gC hv4) rfl rfl rfl) (pkt ?_)
 refine pa (nx (aC ?_))
 cases h0
 exact r0t 2 rfl
 iterate 5 refine k1 ?_
 refine pkf ?_
 refine pa (nx (aC ?_))
 cases h0
 exact r0t 2 rfl
 iterate 5 refine k1 ?_
 refine pkf ?_
 refine pm ?_
 iterate 5 refine k1 ?_
 refine pkf ?_
 refine pa (nx (aC ?_))
 cases h0
 exact r0t 2 rfl
 iterate 5 refine k1 ?_
 refine pkf ?_
 refine pm ?_
 iterate 5 refine k1 ?_
 refine pkf ?_
 refine pm ?_
 iterate 5 refine k1 ?_
 refine pkf ?_
 refine pa (nx (aC ?_))
 cases h0
 exact r0t 2 rfl
theorem sC {p0 : Int} {r : Bool} (h0 : jA p0 = some r) : FnC Tryz.prog 91 [] [dI p0] [] (dB r) := by
 refine fi 5 tok Tryz.func91 ?_
 unfold jA at h0
 refine sq [0] (pa (nx (sq [0,1,2] ?_)))
 refine pm ?_
 obtain ⟨v1,hv1,h0⟩ := bnd h0
 refine rS rfl (aQ 3 (gC hv1) rfl rfl rfl) (pa (nx (aC ?_)))
 cases h0
 exact r0t 2 rfl
theorem aEi {p0 : aD} {p1 : Int} {r : Bool} (h0 : nJ p0 p1 = some r) : FnC Tryz.prog 170 [] [.ref (dC p0),(dI p1)] [] (dB r) := by
 refine fi 17 tok Tryz.func170 ?_
 unfold nJ at h0
 refine sq [0] (pa (nx (sq [0,1,2,3,4,5,6,7,8,9,10,11,12] ?_)))
 refine pm ?_
 obtain ⟨v1,hv1,h0⟩ := bnd h0
 refine rS rfl (aQ 3 (gC hv1) rfl rfl rfl) (pm ?_)
 refine fI (u := 7) h0 rfl (fun hc h0 => ?_) (fun hc h0 => ?_)
 refine pm1 ?_
 refine aRc ?_
 refine nr1 ?_
 refine fr1 tok ?_
 refine lr1 tok ?_
 refine rp rfl (w1 rfl rfl rfl) rfl (aK tok rfl rfl rfl) (rp rfl (w1 rfl rfl rfl) rfl (eH rfl rfl) (rp rfl (w1 rfl rfl rfl) rfl (jK rfl rfl) (pkt ?_)))
 refine pa (nx (aC ?_))
 cases h0
 exact r0t 4 rfl
 iterate 8 refine k1 ?_
 refine pkf ?_
 refine pa (nx (aC ?_))
 cases h0
 exact r0t 4 rfl
theorem aCp {p0 : aD} {p1 : Int} {r : Int} (h0 : hH p0 p1 = some r) : FnC Tryz.prog 171 [] [.ref (dC p0),(dI p1)] [] (dI r) := by
 refine fi 22 tok Tryz.func171 ?_
 unfold hH at h0
 refine sq [0] (pa (nx (sq [0,1,2,3,4,5,6,7,8,9] ?_)))
 refine pmr ?_
 refine nr ?_
 refine fr tok ?_
 refine lr tok ?_
 obtain ⟨v1,hv1,h0⟩ := bnd h0
 refine rS rfl (aQ 3 (wV hv1) rfl rfl rfl) (rP rfl (aL (r := .tup _) rfl) (rP rfl (aW rfl rfl) (rP rfl (aW rfl rfl) (pa ?_))))
 refine pa (nx (sq [0,1,2,3,4,5,6,7] ?_))
 iterate 3 refine pm ?_
 obtain ⟨v2,hv2,h0⟩ := bnd h0
 refine rS rfl (aQ 3 (vZ hv2) rfl rfl rfl) ?_
 obtain ⟨hq3,h0⟩ := cR h0
 refine rP rfl (rO rfl rfl hq3) (pm ?_)
 refine rP rfl (eH rfl rfl) (pa (nx (aC ?_)))
 cases h0
 exact r0t 4 rfl
theorem zH {p0 : aD} {p1 : Int} {r : Bool} (h0 : mB p0 p1 = some r) : FnC Tryz.prog 237 [] [.ref (dC p0),(dI p1)] [] (dB r) := by
 refine fi 44 tok Tryz.func237 ?_
 unfold mB at h0
 refine sq [0] (pa (nx (sq [0] ?_)))
 refine pa (nx ?_)
 obtain ⟨v13,h1,h0⟩ := bnd h0
 refine bF ⟨aA ((fun _ => .dead)) 5 (dB v13),lks [.no, .no, .no]⟩ ?_ ?_
 refine sq [0] (pa (nx (aE ?_)))
 refine aY (fun s7 => ⟨aA (aA (aA (aA ((fun _ => .dead)) 0 (.ref (dC p0))) 1 (dI p1)) 5 (dB s7.1)) 6 (dI s7.2),lks [.no, .no, .no]⟩) h1 ?_ (fun s7 y h2 => ?_)
 exact wk [0,1,2]
 refine aB (sq [0,1,2,3,4,5,6] (pm ?_))
 refine pmr ?_
 refine nr ?_
 refine fr tok ?_
 refine lr tok ?_
 refine rP rfl (aK tok rfl rfl rfl) (rP rfl (bB rfl rfl) (nx ?_))
 refine bC h2 rfl (fun hc h2 => ?_) (fun hc h2 => ?_)
 refine sk ?_
 obtain ⟨v12,h3,h2⟩ := bnd h2
 refine bF ⟨aA (aA (aA (aA ((fun _ => .dead)) 0 (.ref (dC p0))) 1 (dI p1)) 5 (dB v12)) 6 (dI s7.2),lks [.no, .no, .no]⟩ ?_ ?_
 refine aE (aB (aI (is := [0,1,2,3,4,5,6,7,8,9,10,11,12,13,14,15,16,17,18]) [0,0,2,6,14,0,62,126,254,511,0,1024,3072,7168,0,31744,64512,130048,262143] follows (by kernel_rfl) (tpm ?_)))
 refine aDf ?_
 refine tnr ?_
 refine tfr tok ?_
 refine tlr tok ?_
 refine tpm ?_
 obtain ⟨v8,hv8,h3⟩ := bnd h3
 refine tP rfl (cG tok hv8 rfl rfl rfl rfl rfl rfl) (tfr tok ?_)
 refine tlr tok ?_
 obtain ⟨hq9,h3⟩ := cR h3
 refine tP rfl (lG rfl rfl hq9) (aDf ?_)
 refine tnr ?_
 refine tfr tok ?_
 refine tlr tok ?_
 refine tpm ?_
 obtain ⟨v10,hv10,h3⟩ := bnd h3
 refine tP rfl (cG tok hv10 rfl rfl rfl rfl rfl rfl) (tfr tok ?_)
 refine tlr tok ?_
 refine tP rfl (nD rfl rfl) (bY ?_)
 refine ⟨by kernel_rfl,?_⟩
 refine aF ?_
 refine bC h3 rfl (fun hc h3 => ?_) (fun hc h3 => ?_)
 refine sr [0,1,2,3,4,5,6,7,8] (pmr ?_)
 refine nr ?_
 refine fr tok ?_
 refine lr tok ?_
 refine pm ?_
 obtain ⟨v11,hv11,h3⟩ := bnd h3
 refine rP rfl (cG tok hv11 rfl rfl rfl rfl rfl rfl) (fr tok ?_)
 refine lr tok ?_
 refine pa (aV ?_)
 refine aZ (aF ?_)
 cases h3
 exact wk [0,1,2]
 refine cT (aZ (aF ?_))
 cases h3
 exact wk [0,1,2]
 refine sr [0,1,2] (pm ?_)
 refine rP rfl (bD rfl rfl) (pa (aV ?_))
 refine bX ?_
 cases h2
 refine ⟨_,rfl,?_⟩
 exact wk [0,1,2]
 refine bH (cC ?_)
 cases h2
 refine cA ⟨_,rfl,fun e => ?_⟩
 subst e
 refine aR (aF ?_)
 exact wk [0,1,2]
 refine sq [0,1] (pm ?_)
 refine pa (nx (aC ?_))
 cases h0
 exact r0t 4 rfl
theorem aIc {p0 : Int} {p1 : Int} {r : Int} (h0 : qH p0 p1 = some r) : FnC Tryz.prog 238 [] [dI p0,(dI p1)] [] (dI r) := by
 refine fi 10 tok Tryz.func238 ?_
 unfold qH at h0
 refine sq [0] (pa (nx (aB (sq [0,1,2] ?_))))
 refine pm ?_
 refine pm ?_
 refine rP rfl (bB rfl rfl) (nx ?_)
 refine bC h0 rfl (fun hc h0 => ?_) (fun hc h0 => ?_)
 refine sq [0,1] (pm ?_)
 refine pa (nx (aC (aJ ?_)))
 cases h0
 exact r0t 4 rfl
 refine sk (sq [0,1] (pm ?_))
 refine pa (nx (aC ?_))
 cases h0
 exact r0t 4 rfl
theorem aEz {p0 : aD} {p1 : Int} {p2 : Int} {p3 : Int} {p4 : Int} {r : Int} (h0 : eZ p0 p1 p2 p3 p4 = some r) : FnC Tryz.prog 172 [] [.ref (dC p0),(dI p1),(dI p2),(dI p3),(dI p4)] [] (dI r) := by
 refine fi 62 tok Tryz.func172 ?_
 unfold eZ at h0
 refine sq [0] (pa (nx (sq [0] ?_)))
 refine pa (nx (sq [0] ?_))
 refine pa (nx ?_)
 obtain ⟨v7,h1,h0⟩ := bnd h0
 refine bF ⟨aA (aA (aA (aA ((fun _ => .dead)) 0 (.ref (dC p0))) 4 (dI p4)) 11 (dI v7.1)) 12 (dI v7.2),lks [.no, .no, .no]⟩ ?_ ?_
 refine sq [0,1] (pm ?_)
 refine pa (nx (aE ?_))
 refine aY (fun s4 => ⟨aA (aA (aA (aA (aA (aA (aA ((fun _ => .dead)) 0 (.ref (dC p0))) 2 (dI p2)) 3 (dI p3)) 4 (dI p4)) 11 (dI s4.1)) 12 (dI s4.2.1)) 13 (dI s4.2.2),lks [.no, .no, .no]⟩) h1 ?_ (fun s4 y h2 => ?_)
 exact wk [0,1,2]
 refine aB (sq [0,1,2] (pm ?_))
 refine pm ?_
 refine rP rfl (bB rfl rfl) (nx ?_)
 refine bC h2 rfl (fun hc h2 => ?_) (fun hc h2 => ?_)
 refine sk ?_
 obtain ⟨v6,h3,h2⟩ := bnd h2
 refine bF ⟨aA (aA (aA (aA (aA (aA (aA ((fun _ => .dead)) 0 (.ref (dC p0))) 2 (dI p2)) 3 (dI p3)) 4 (dI p4)) 11 (dI v6)) 12 (dI (w64 (s4.2.1 + 1)))) 13 (dI s4.2.2),lks [.no, .no, .no]⟩ ?_ ?_
 refine aE (sq [0,1,2] (pm ?_))
 refine rP rfl (bD rfl rfl) (pa (nx (sq [0,1,2] ?_)))
 refine pmr ?_
 refine pm ?_
 obtain ⟨v5,hv5,h3⟩ := bnd h3
 refine rS rfl (aQ 3 (zH hv5) rfl rfl rfl) (nx ?_)
 refine bZ h3 rfl (fun hc h3 => ?_) (fun hc h3 => ?_)
 refine sr [0,1,2] (pm ?_)
 refine rP rfl (bD rfl rfl) (pa (aV ?_))
 refine aZ (aF ?_)
 cases h3
 exact wk [0,1,2]
 refine cT (aZ (aF ?_))
 cases h3
 exact wk [0,1,2]
 refine sr [0,1,2,3] (pm ?_)
 refine pm ?_
 refine rP rfl (bD rfl rfl) (pa (aV ?_))
 refine bX ?_
 cases h2
 refine ⟨_,rfl,?_⟩
 exact wk [0,1,2]
 refine bH (cC ?_)
 cases h2
 refine cA ⟨_,rfl,fun e => ?_⟩
 subst e
 refine aR (aF ?_)
 exact wk [0,1,2]
 refine sq [0,1,2,3,4,5,6] (pmr ?_)
 refine nr ?_
 refine fr tok ?_
 refine lr tok ?_
 refine pm ?_
 obtain ⟨v8,hv8,h0⟩ := bnd h0
 refine rP rfl (cG tok hv8 rfl rfl rfl rfl rfl rfl) (par (nx (aB (aE (sq [0,1,2,3,4] ?_)))))
 refine pm ?_
 refine rP rfl (eH rfl rfl) (pm ?_)
 refine rP rfl (gT rfl rfl) (pa (nx ?_))
 refine bC h0 rfl (fun hc h0 => ?_) (fun hc h0 => ?_)
 refine sq [0,1,2,3,4] (pmr ?_)
 refine nr ?_
 refine fr tok ?_
 refine lr tok ?_
 refine pa (nx (aC ?_))
 refine bA (aJ ?_)
 cases h0
 exact r0t 10 rfl
 refine sq [0,1,2,3,4] (pm ?_)
 refine rP rfl (eH rfl rfl) (pm ?_)
 refine rP rfl (bB rfl rfl) (pa (nx ?_))
 refine bC h0 rfl (fun hc h0 => ?_) (fun hc h0 => ?_)
 refine sq [0,1,2,3,4] (pmr ?_)
 refine nr ?_
 refine fr tok ?_
 refine lr tok ?_
 refine pa (nx (aC ?_))
 refine bA (aJ ?_)
 cases h0
 exact r0t 10 rfl
 refine cT (aZ (aF (aB (aI (is := [0,1,2,3,4,5,6,7,8,9]) [0,1,3,7,0,16,48,112,255,511] follows (by kernel_rfl) (aDf ?_)))))
 refine tnr ?_
 refine tfr tok ?_
 refine tlr tok ?_
 refine aDf ?_
 refine tnr ?_
 refine tfr tok ?_
 refine tlr tok ?_
 obtain ⟨v9,hv9,h0⟩ := bnd h0
 refine oH rfl w0 rfl (dJ 3 (aIc hv9) rfl rfl rfl) (tpa ?_)
 refine bY ?_
 refine ⟨by kernel_rfl,?_⟩
 refine aF (aC ?_)
 cases h0
 exact r0t 10 rfl
theorem aF8 {p0 : aD} {p1 : Int} {p2 : Int} {r : Int} (h0 : oT p0 p1 p2 = some r) : FnC Tryz.prog 191 [] [.ref (dC p0),(dI p1),(dI p2)] [] (dI r) := by
 refine fi 26 tok Tryz.func191 ?_
 unfold oT at h0
 refine sq [0] (pa (nx (aB (sq [0,1,2] ?_))))
 refine pmr ?_
 refine pm ?_
 obtain ⟨v1,hv1,h0⟩ := bnd h0
 refine rS rfl (aQ 3 (zH hv1) rfl rfl rfl) (nx ?_)
 refine bZ h0 rfl (fun hc h0 => ?_) (fun hc h0 => ?_)
 refine sq [0,1,2,3,4,5,6,7,8] (pmr ?_)
 refine nr ?_
 refine fr tok ?_
 refine lr tok ?_
 refine pm ?_
 obtain ⟨v2,hv2,h0⟩ := bnd h0
 refine rP rfl (cG tok hv2 rfl rfl rfl rfl rfl rfl) (fr tok ?_)
 refine lr tok ?_
 refine pa (nx (aC (aJ ?_)))
 cases h0
 exact r0t 6 rfl
 refine sk (sq [0,1,2,3,4,5,6,7,8] (pmr ?_))
 refine nr ?_
 refine fr tok ?_
 refine lr tok ?_
 refine pm ?_
 obtain ⟨v3,hv3,h0⟩ := bnd h0
 refine rP rfl (cG tok hv3 rfl rfl rfl rfl rfl rfl) (fr tok ?_)
 refine lr tok ?_
 refine pa (nx (aC ?_))
 cases h0
 exact r0t 6 rfl
theorem aD7 {p0 : aD} {p1 : List Int} {p2 : Int} {p3 : Int} {r : oJ × Bool} (h0 : nA p0 p1 p2 p3 = some r) : FnC Tryz.prog 239 [] [.ref (dC p0),(dL cI p1),(dI p2),(dI p3)] [] (.tup [.agg [dI r.1.Year,(dI r.1.Month),(dI r.1.Shown),(dI r.1.Right)],(dB r.2)]) := by
 refine fi 49 tok Tryz.func239 ?_
 unfold nA at h0
 refine sq [0,1] (al 3 [z0,z0,z0,z0] tok ?_)
 refine pa (nx (sq [0,1,2,3,4,5,6,7,8] ?_))
 refine pm ?_
 refine rP rfl (aK tok rfl rfl rfl) (pmr ?_)
 refine nr ?_
 refine fr tok ?_
 refine lr tok ?_
 refine rP rfl (aK tok rfl rfl rfl) ?_
 obtain ⟨hq1,h0⟩ := cR h0
 refine rP rfl (rO rfl rfl hq1) (pa (nx (sq [0,1,2,3,4,5,6,7,8,9] ?_)))
 refine pm ?_
 refine pm ?_
 refine rP rfl (bD rfl rfl) (pmr ?_)
 refine pm ?_
 refine pm ?_
 obtain ⟨v2,hv2,h0⟩ := bnd h0
 refine rS rfl (aQ 4 (aF8 hv2) rfl rfl rfl) (rP rfl (pbl (C0 := [z0,z0,z0,z0]) tok rfl rfl rfl) (al 4 [z0,z0,z0,z0] tok ?_))
 refine bst tok (nx (aB ?_))
 refine aI (is := [0,1,2,3,4,5,6,7,8,9,10,11,12,13,14,15]) [0,0,0,6,0,16,48,112,240,510,0,2046,4095,8191,16383,32767] follows (by kernel_rfl) ?_
 iterate 3 refine tpm ?_
 obtain ⟨hq3,h0⟩ := cR h0
 refine tP rfl (lG rfl rfl hq3) (aDf ?_)
 refine tnr ?_
 refine tfr tok ?_
 refine tlr tok ?_
 refine tP rfl (aK tok rfl rfl rfl) (tP rfl (eH rfl rfl) (tpm ?_))
 refine tP rfl (bD rfl rfl) ?_
 obtain ⟨v4,hv4,h0⟩ := bnd h0
 refine tP rfl (cG tok hv4 rfl rfl rfl rfl rfl rfl) (tlr tok ?_)
 refine tfa tok ?_
 refine uQ rfl w0 (pB (cs := [.d _]) tok rfl rfl rfl rfl rfl rfl rfl) (bY ?_)
 refine ⟨by kernel_rfl,?_⟩
 refine aF (aB (aI (is := [0,1,2,3,4,5,6,7]) [0,0,2,0,8,30,1,127] follows (by kernel_rfl) (dT rfl w0 rfl (bO tok rfl rfl rfl rfl) rfl rfl rfl (tfa tok ?_))))
 refine tld tok ?_
 refine tfa tok ?_
 refine tld tok ?_
 refine tP rfl (cQ rfl rfl) (uQ rfl w0 (pB (cs := _ :: _) tok rfl rfl rfl rfl rfl rfl rfl) (tpa ?_))
 refine bY ?_
 refine ⟨by kernel_rfl,?_⟩
 refine aF (aC ?_)
 cases h0
 exact fR (rs := [.cell 8 177, .tmp 9]) rfl
theorem aDq {p0 : aD} {p1 : List Int} {p2 : Int} {r : Int} (h0 : kM p0 p1 p2 = some r) : FnC Tryz.prog 173 [] [.ref (dC p0),(dL cI p1),(dI p2)] [] (dI r) := by
 refine fi 38 tok Tryz.func173 ?_
 unfold kM at h0
 refine sq [0] (pa (nx (sq [0] ?_)))
 refine pa (nx ?_)
 obtain ⟨v17,h1,h0⟩ := bnd h0
 refine bF ⟨aA ((fun _ => .dead)) 7 (dI v17),lks [.no, .no, .no]⟩ ?_ ?_
 refine sq [0] (pa (nx (aE ?_)))
 refine aY (fun s9 => ⟨aA (aA (aA (aA (aA ((fun _ => .dead)) 0 (.ref (dC p0))) 1 (dL cI p1)) 2 (dI p2)) 7 (dI s9.1)) 8 (dI s9.2),lks [.no, .no, .no]⟩) h1 ?_ (fun s9 y h2 => ?_)
 exact wk [0,1,2]
 refine aB (sq [0,1,2] (pm ?_))
 refine pm ?_
 refine rP rfl (bB rfl rfl) (nx ?_)
 refine bC h2 rfl (fun hc h2 => ?_) (fun hc h2 => ?_)
 refine sk ?_
 obtain ⟨v16,h3,h2⟩ := bnd h2
 refine bF ⟨aA (aA (aA (aA (aA ((fun _ => .dead)) 0 (.ref (dC p0))) 1 (dL cI p1)) 2 (dI p2)) 7 (dI v16)) 8 (dI s9.2),lks [.no, .no, .no]⟩ ?_ ?_
 refine aE (sq [0] (pa (nx (aE ?_))))
 refine aY (fun s13 => ⟨aA (aA (aA (aA (aA (aA ((fun _ => .dead)) 0 (.ref (dC p0))) 1 (dL cI p1)) 2 (dI p2)) 7 (dI s13.1)) 8 (dI s9.2)) 9 (dI s13.2),lks [.no, .no, .no]⟩) h3 ?_ (fun s13 y h4 => ?_)
 exact wk [0,1,2]
 refine aB (sq [0,1,2,3,4,5,6] (pm ?_))
 refine pmr ?_
 refine nr ?_
 refine fr tok ?_
 refine lr tok ?_
 refine rP rfl (aK tok rfl rfl rfl) (rP rfl (bB rfl rfl) (nx ?_))
 refine bC h4 rfl (fun hc h4 => ?_) (fun hc h4 => ?_)
 refine sk ?_
 obtain ⟨v15,h5,h4⟩ := bnd h4
 refine bF ⟨aA (aA (aA (aA (aA (aA ((fun _ => .dead)) 0 (.ref (dC p0))) 1 (dL cI p1)) 2 (dI p2)) 7 (dI v15)) 8 (dI s9.2)) 9 (dI s13.2),lks [.no, .no, .no]⟩ ?_ ?_
 refine aE (sq [0,1,2,3,4,5,6,7,8,9,10] (pmr ?_))
 iterate 3 refine pm ?_
 obtain ⟨v14,hv14,h5⟩ := bnd h5
 refine rS rfl (aQ 3 (aD7 hv14) rfl rfl rfl) (rP rfl (aL (r := .tup _) rfl) (rP rfl (aW rfl rfl) (rP rfl (aW rfl rfl) (al 3 [z0,z0,z0,z0] tok ?_))))
 refine bst tok ?_
 refine pa (nx (sq [0] ?_))
 refine pm (nx ?_)
 refine bZ h5 rfl (fun hc h5 => ?_) (fun hc h5 => ?_)
 refine sr [0,1,2] (pm ?_)
 refine rP rfl (bD rfl rfl) (pa (aV ?_))
 refine aZ (aF ?_)
 cases h5
 exact wk [0,1,2]
 refine cT (aZ (aF ?_))
 cases h5
 exact wk [0,1,2]
 refine sr [0,1,2] (pm ?_)
 refine rP rfl (bD rfl rfl) (pa (aV ?_))
 refine bX ?_
 cases h4
 refine ⟨_,rfl,?_⟩
 exact wk [0,1,2]
 refine bH (cC ?_)
 cases h4
 refine cA ⟨_,rfl,fun e => ?_⟩
 subst e
 refine aR ?_
 refine aZ (aF ?_)
 exact wk [0,1,2]
 refine sr [0,1,2] (pm ?_)
 refine rP rfl (bD rfl rfl) (pa (aV ?_))
 refine bX ?_
 cases h2
 refine ⟨_,rfl,?_⟩
 exact wk [0,1,2]
 refine bH (cC ?_)
 cases h2
 refine cA ⟨_,rfl,fun e => ?_⟩
 subst e
 refine aR (aF ?_)
 exact wk [0,1,2]
 refine sq [0,1] (pm ?_)
 refine pa (nx (aC ?_))
 cases h0
 exact r0t 6 rfl
theorem aGg {p0 : aD} {p1 : Int} {r : List Int × Int × Int} (h0 : kH p0 p1 = some r) : FnC Tryz.prog 92 [] [.agg [dS p0.Name,(dL aT p0.Months),(dL aG p0.Rules),(dI p0.Week)],(dI p1)] [.live [⟨2,1, .data (List.map cI r.1)⟩]] (.tup [.own 0 0 r.1.length,(dI r.2.1),(dI r.2.2)]) := by
 refine fi 43 tok Tryz.func92 ?_
 unfold kH at h0
 refine sq [0,1,2,3] (bxx 3 ?_)
 iterate 3 refine pa ?_
 refine nx (aB (sq [0,1] ?_))
 obtain ⟨v1,hv1,h0⟩ := bnd h0
 refine rS rfl (fU 4 (aDz hv1) rfl rfl) (rP rfl (cJ rfl) (nx ?_))
 refine bZ h0 rfl (fun hc h0 => ?_) (fun hc h0 => ?_)
 refine sq [0,1,2] ?_
 iterate 3 refine pa ?_
 refine nx (cM (dQ 4 rfl 2 1 (d := 4) rfl) (aC (aJ ?_)))
 cases h0
 exact fO (rs := [.tmp 4, .tmp 5, .tmp 6]) [4] rfl
 refine sk (aB (sq [0,1,2] (pm ?_)))
 obtain ⟨v2,hv2,h0⟩ := bnd h0
 refine rS rfl (fU 4 (aEi hv2) rfl rfl) (rP rfl (cJ rfl) (nx ?_))
 refine bZ h0 rfl (fun hc h0 => ?_) (fun hc h0 => ?_)
 refine sq [0,1,2] ?_
 iterate 3 refine pa ?_
 refine nx (cM (dQ 4 rfl 2 1 (d := 4) rfl) (aC (aJ ?_)))
 cases h0
 exact fO (rs := [.tmp 4, .tmp 5, .tmp 6]) [4] rfl
 refine sk (sq [0,1,2] (pm ?_))
 obtain ⟨v3,hv3,h0⟩ := bnd h0
 refine rS rfl (fU 4 (aCp hv3) rfl rfl) (pa (nx (sq [0,1] ?_)))
 refine rS rfl (eT 4 tok rfl rfl rfl rfl) (rP rfl (aS (r := .own _ _ _) rfl) (nx ?_))
 obtain ⟨v20,h1,h0⟩ := bnd h0
 refine bF ⟨aA (aA (aA ((fun _ => .dead)) 2 (.ptr 3 0 1 0 0)) 7 (dI v3)) 8 (.own 4 0 (v20).length),lks [.no, .no, .no, .live [⟨31,4, .av [[dS p0.Name,(dL aT p0.Months),(dL aG p0.Rules),(dI p0.Week)]]⟩], .live [⟨2,1, .data (List.map cI v20)⟩]]⟩ ?_ ?_
 refine sq [0] (pa (nx (aE ?_)))
 refine aY (fun s12 => ⟨aA (aA (aA (aA (aA ((fun _ => .dead)) 1 (dI p1)) 2 (.ptr 3 0 1 0 0)) 7 (dI v3)) 8 (.own 4 0 (s12.2).length)) 9 (dI s12.1),lks [.no, .no, .no, .live [⟨31,4, .av [[dS p0.Name,(dL aT p0.Months),(dL aG p0.Rules),(dI p0.Week)]]⟩], .live [⟨2,1, .data (List.map cI s12.2)⟩]]⟩) h1 ?_ (fun s12 y h2 => ?_)
 exact wk [0,1,2,3,4]
 refine aB (sq [0,1,2] (pm ?_))
 refine pm ?_
 refine rP rfl (bB rfl rfl) (nx ?_)
 refine bC h2 rfl (fun hc h2 => ?_) (fun hc h2 => ?_)
 refine sk ?_
 obtain ⟨v19,h3,h2⟩ := bnd h2
 refine bF ⟨aA (aA (aA (aA (aA ((fun _ => .dead)) 1 (dI p1)) 2 (.ptr 3 0 1 0 0)) 7 (dI v3)) 8 (.own 4 0 (v19).length)) 9 (dI s12.1),lks [.no, .no, .no, .live [⟨31,4, .av [[dS p0.Name,(dL aT p0.Months),(dL aG p0.Rules),(dI p0.Week)]]⟩], .live [⟨2,1, .data (List.map cI v19)⟩]]⟩ ?_ ?_
 refine aE (sq [0] (pa (nx (aE ?_))))
 refine aY (fun s16 => ⟨aA (aA (aA (aA (aA (aA ((fun _ => .dead)) 1 (dI p1)) 2 (.ptr 3 0 1 0 0)) 7 (dI v3)) 8 (.own 4 0 (s16.2).length)) 9 (dI s12.1)) 10 (dI s16.1),lks [.no, .no, .no, .live [⟨31,4, .av [[dS p0.Name,(dL aT p0.Months),(dL aG p0.Rules),(dI p0.Week)]]⟩], .live [⟨2,1, .data (List.map cI s16.2)⟩]]⟩) h3 ?_ (fun s16 y h4 => ?_)
 exact wk [0,1,2,3,4]
 refine aB (sq [0,1,2,3,4] (pm ?_))
 refine fa tok ?_
 refine ld tok ?_
 refine rP rfl (aK tok rfl rfl rfl) (rP rfl (bB rfl rfl) (nx ?_))
 refine bC h4 rfl (fun hc h4 => ?_) (fun hc h4 => ?_)
 refine sk (aB (aE (sr [0,1,2,3,4,5,6,7,8] (rP rfl (aL (r := .own _ _ _) rfl) ?_))))
 iterate 4 refine pm ?_
 obtain ⟨v17,hv17,h4⟩ := bnd h4
 refine rS rfl (fU 5 (aEz hv17) rfl rfl) (rS rfl (tK tok cI [v17] rfl rfl rfl (by repeat (first | exact Els.nil _ | apply Els.cons (cs := [.d _]) rfl rfl rfl | apply Els.cons (cs := _ :: _) rfl rfl rfl)) rfl rfl rfl (by repeat (first | exact dG.nil | (apply dG.cons; (repeat (first | exact iZ.nil | apply iZ.cons))))) rfl) ?_)
 obtain ⟨hq18,h4⟩ := cR h4
 refine rw1 rfl w0 rfl (gZ tok hq18 rfl rfl rfl rfl rfl rfl rfl rfl rfl rfl rfl rfl (fun _ => rfl)) (rP rfl (aS (r := .own _ _ _) rfl) (aV (aZ (aF (sr [0,1,2] (pm ?_))))))
 refine rP rfl (bD rfl rfl) (pa (aV ?_))
 refine bX ?_
 cases h4
 refine ⟨_,rfl,?_⟩
 exact wk [0,1,2,3,4]
 refine bH (cC ?_)
 cases h4
 refine cA ⟨_,rfl,fun e => ?_⟩
 subst e
 refine aR ?_
 refine aZ (aF ?_)
 exact wk [0,1,2,3,4]
 refine sr [0,1,2] (pm ?_)
 refine rP rfl (bD rfl rfl) (pa (aV ?_))
 refine bX ?_
 cases h2
 refine ⟨_,rfl,?_⟩
 exact wk [0,1,2,3,4]
 refine bH (cC ?_)
 cases h2
 refine cA ⟨_,rfl,fun e => ?_⟩
 subst e
 refine aR (aF ?_)
 exact wk [0,1,2,3,4]
 refine sq [0,1,2,3,4,5,6] (rP rfl (aL (r := .own _ _ _) rfl) (rP rfl (aL (r := .own _ _ _) rfl) (pm ?_)))
 obtain ⟨v21,hv21,h0⟩ := bnd h0
 refine rS rfl (fU 5 (aDq hv21) rfl rfl) (rP rfl (aS (r := .own _ _ _) rfl) (pa ?_))
 refine pa (nx (aC ?_))
 cases h0
 exact fO (rs := [.tmp 4, .tmp 5, .tmp 6]) [4] rfl
theorem yP {p0 : Int} {r : Int} (h0 : mF p0 = some r) : FnC Tryz.prog 174 [] [dI p0] [] (.d (.v (.int .u64 r))) := by
 refine fi 10 tok Tryz.func174 ?_
 unfold mF at h0
 refine sq [0] (pa (nx (aB (sq [0,1] ?_))))
 refine pm ?_
 refine rP rfl (bB rfl rfl) (nx ?_)
 refine bC h0 rfl (fun hc h0 => ?_) (fun hc h0 => ?_)
 refine sq [0,1,2,3] (pm ?_)
 refine rP rfl (aF4 tok rfl rfl rfl rfl rfl) (rP rfl (aJb rfl) (pa (nx (aC (aJ ?_)))))
 cases h0
 exact r0t 2 rfl
 refine sk (sq [0,1,2] (pm ?_))
 refine rP rfl (aF4 tok rfl rfl rfl rfl rfl) (pa (nx (aC ?_)))
 cases h0
 exact r0t 2 rfl
theorem rE {p0 : Int} {p1 : Int} {r : aM × Bool} (h0 : fH p0 p1 = some r) : FnC Tryz.prog 93 [] [dI p0,(dI p1)] [] (.tup [.agg [dI r.1.Num,(dI r.1.Den)],(dB r.2)]) := by
 refine fi 53 tok Tryz.func93 ?_
 unfold fH at h0
 refine sq [0,1] (al 3 [z0,z0] tok ?_)
 refine pa (nx (sq [0,1,2] ?_))
 refine pm ?_
 obtain ⟨v1,hv1,h0⟩ := bnd h0
 refine rS rfl (aQ 4 (yP hv1) rfl rfl rfl) (pa (nx (sq [0,1,2] ?_)))
 refine pm ?_
 obtain ⟨v2,hv2,h0⟩ := bnd h0
 refine rS rfl (aQ 4 (yP hv2) rfl rfl rfl) (pa (nx (sq [0,1] ?_)))
 refine pm ?_
 refine pa (nx (sq [0,1] ?_))
 refine pm ?_
 refine pa (nx ?_)
 obtain ⟨v7,h1,h0⟩ := bnd h0
 refine bF ⟨aA (aA (aA (aA (aA (aA ((fun _ => .dead)) 0 (dI p0)) 1 (dI p1)) 4 (.ptr 3 0 1 0 0)) 6 (.d (.v (.int .u64 v1)))) 7 (.d (.v (.int .u64 v2)))) 8 (.d (.v (.int .u64 v7))),lks [.no, .no, .no, .live [⟨62,2, .av [[z0,z0]]⟩]]⟩ ?_ ?_
 refine aE ?_
 refine aY (fun s5 => ⟨aA (aA (aA (aA (aA (aA (aA ((fun _ => .dead)) 0 (dI p0)) 1 (dI p1)) 4 (.ptr 3 0 1 0 0)) 6 (.d (.v (.int .u64 v1)))) 7 (.d (.v (.int .u64 v2)))) 8 (.d (.v (.int .u64 s5.1)))) 9 (.d (.v (.int .u64 s5.2))),lks [.no, .no, .no, .live [⟨62,2, .av [[z0,z0]]⟩]]⟩) h1 ?_ (fun s5 y h2 => ?_)
 exact wk [0,1,2,3]
 refine aB (sq [0,1] (pm ?_))
 refine rP rfl (gT rfl rfl) (nx ?_)
 refine bC h2 rfl (fun hc h2 => ?_) (fun hc h2 => ?_)
 refine sk (aE (sq [0,1,2,3] (pm ?_)))
 refine pm ?_
 obtain ⟨hq6,h2⟩ := cR h2
 refine rP rfl (lG rfl rfl hq6) (pa (nx (sq [0,1] ?_)))
 refine pm ?_
 refine pa (nx (sr [0,1] ?_))
 refine pm ?_
 refine pa (aV ?_)
 refine aZ (bX ?_)
 cases h2
 refine ⟨_,rfl,?_⟩
 exact wk [0,1,2,3]
 refine bH (cC ?_)
 cases h2
 refine cA ⟨_,rfl,fun e => ?_⟩
 subst e
 refine aR (aF ?_)
 exact wk [0,1,2,3]
 refine sq [0,1,2,3] (pm ?_)
 refine pm ?_
 obtain ⟨hq8,h0⟩ := cR h0
 refine rP rfl (zV rfl rfl hq8) (pa (nx (sq [0,1,2,3] ?_)))
 refine pm ?_
 refine pm ?_
 obtain ⟨hq9,h0⟩ := cR h0
 refine rP rfl (zV rfl rfl hq9) (pa (nx (aB ?_)))
 obtain ⟨v10,h1,h0⟩ := bnd h0
 refine bF ⟨aA (aA (aA (aA (aA (aA ((fun _ => .dead)) 0 (dI p0)) 1 (dI p1)) 4 (.ptr 3 0 1 0 0)) 6 (.d (.v (.int .u64 (IntKind.u64.wrap (v1.tdiv v7)))))) 7 (.d (.v (.int .u64 (IntKind.u64.wrap (v2.tdiv v7)))))) 36 (dB v10),lks [.no, .no, .no, .live [⟨62,2, .av [[z0,z0]]⟩]]⟩ ?_ ?_
 refine sr [0,1,2,3,4,5] (pm ?_)
 refine rP rfl (gT rfl rfl) (pm ?_)
 refine jW (u := 33) h1 rfl (fun hc h1 => ?_) (fun hc h1 => ?_)
 refine k1 ?_
 refine k1 ?_
 refine pkt (nx ?_)
 cases h1
 exact wk [0,1,2,3]
 refine pm1 ?_
 refine rp rfl (w1 rfl rfl rfl) rfl (gT rfl rfl) (pkf (nx ?_))
 cases h1
 exact wk [0,1,2,3]
 refine bZ h0 rfl (fun hc h0 => ?_) (fun hc h0 => ?_)
 refine sq [0,1,2] (rP rfl (pbl (C0 := [z0,z0]) tok rfl rfl rfl) (bst tok ?_))
 refine pa (nx (aC (aJ ?_)))
 cases h0
 exact fR (rs := [.cell 4 62, .tmp 5]) rfl
 refine sk (sq [0,1,2,3,4,5,6] (pm ?_))
 refine rP rfl (aK3 tok rfl rfl rfl rfl rfl) (pm ?_)
 refine rP rfl (aK3 tok rfl rfl rfl rfl rfl) (rP rfl (pbl (C0 := [z0,z0]) tok rfl rfl rfl) (al 4 [z0,z0] tok ?_))
 refine bst tok (nx ?_)
 obtain ⟨v11,h1,h0⟩ := bnd h0
 refine bF ⟨aA (aA ((fun _ => .dead)) 4 (.ptr 3 0 1 0 0)) 11 (.ptr 4 0 1 0 0),lks [.no, .no, .no, .live [⟨62,2, .av [[z0,z0]]⟩], .live [⟨62,2, .av [[dI v11.Num,(dI v11.Den)]]⟩]]⟩ ?_ ?_
 refine sq [0,1,2,3,4] (pm ?_)
 refine rP rfl (bB rfl rfl) (pm ?_)
 refine rP rfl (bB rfl rfl) (rP rfl (aCq tok rfl rfl rfl rfl) (nx ?_))
 refine bZ h1 rfl (fun hc h1 => ?_) (fun hc h1 => ?_)
 refine sr [0,1,2,3,4] (fa tok ?_)
 refine ld tok ?_
 refine rP rfl (wL rfl) (fa tok ?_)
 refine bs1 tok (nx ?_)
 cases h1
 exact wk [0,1,2,3,4]
 refine sk ?_
 cases h1
 exact wk [0,1,2,3,4]
 refine sq [0,1,2] (rL rfl (bO tok rfl rfl rfl rfl) (bst tok ?_))
 refine pa (nx (aC ?_))
 cases h0
 exact fR (rs := [.cell 4 62, .tmp 5]) rfl
theorem aCs  {r : gG} (h0 : nX  = some r) : FnC Tryz.prog 95 [] [] [] (.agg [dI r.LowDriver,(dI r.HighDriver),(dI r.LowDriven),(dI r.HighDriven),(dI r.Stages)]) := by
 refine fi 2 tok Tryz.func95 ?_
 unfold nX at h0
 refine sq [0] (al 3 [z0,z0,z0,z0,z0] tok (nx (sq [0,1] ?_)))
 refine rP rfl (pbl (C0 := [z0,z0,z0,z0,z0]) tok rfl rfl rfl) (bst tok (nx (aC ?_)))
 cases h0
 exact fR (rs := [.cell 0 119]) rfl
theorem rD {p0 : Int} {r : Int} (h0 : jG p0 = some r) : FnC Tryz.prog 164 [] [dI p0] [] (dI r) := by
 refine fi 8 tok Tryz.func164 ?_
 unfold jG at h0
 refine sq [0] (pa (nx (aB (sq [0,1] ?_))))
 refine pm ?_
 refine rP rfl (bB rfl rfl) (nx ?_)
 refine bC h0 rfl (fun hc h0 => ?_) (fun hc h0 => ?_)
 refine sq [0,1,2] (pm ?_)
 refine rP rfl (wL rfl) (pa (nx (aC (aJ ?_))))
 cases h0
 exact r0t 2 rfl
 refine sk (sq [0,1] (pm ?_))
 refine pa (nx (aC ?_))
 cases h0
 exact r0t 2 rfl
theorem aEq {p0 : aM} {r : Bool} (h0 : qO p0 = some r) : FnC Tryz.prog 81 [] [.agg [dI p0.Num,(dI p0.Den)]] [] (dB r) := by
 refine fi 20 tok Tryz.func81 ?_
 unfold qO at h0
 refine sq [0,1] (bxx 3 ?_)
 refine pa (nx (aB ?_))
 refine aI (is := [0,1,2,3,4,5,6,7,8,9,10,12,13,11,14,15,16,17]) [0,1,3,7,15,31,63,127,255,511,1023,2047,511,4607,16383,32767,65535,131071] follows (by kernel_rfl) (tfa tok ?_)
 refine tld tok ?_
 obtain ⟨v1,hv1,h0⟩ := bnd h0
 refine oH rfl w0 rfl (dJ 4 (gC hv1) rfl rfl rfl) (tpm ?_)
 refine aDr (u := 6) h0 rfl (fun hc h0 => ?_) (fun hc h0 => ?_)
 refine dT rfl (w1 rfl rfl rfl) rfl (aEg tok rfl rfl rfl rfl rfl rfl rfl) rfl rfl rfl (dT rfl (w1 rfl rfl rfl) rfl (wN tok rfl rfl rfl rfl rfl) rfl rfl rfl ?_)
 obtain ⟨v2,hv2,h0⟩ := bnd h0
 refine oH rfl (w1 rfl rfl rfl) rfl (dJ 4 (gC hv2) rfl rfl rfl) (aJl ?_)
 refine tpm ?_
 refine aDr (u := 11) h0 rfl (fun hc h0 => ?_) (fun hc h0 => ?_)
 refine dT rfl (w1 rfl rfl rfl) rfl (aEg tok rfl rfl rfl rfl rfl rfl rfl) rfl rfl rfl (dT rfl (w1 rfl rfl rfl) rfl (wN tok rfl rfl rfl rfl rfl) rfl rfl rfl (dT rfl (w1 rfl rfl rfl) rfl (aEg tok rfl rfl rfl rfl rfl rfl rfl) rfl rfl rfl (dT rfl (w1 rfl rfl rfl) rfl (wN tok rfl rfl rfl rfl rfl) rfl rfl rfl ?_)))
 obtain ⟨v3,hv3,h0⟩ := bnd h0
 refine oH rfl (w1 rfl rfl rfl) rfl (dJ 4 (rD hv3) rfl rfl rfl) ?_
 obtain ⟨v4,hv4,h0⟩ := bnd h0
 refine oH rfl (w1 rfl rfl rfl) rfl (dJ 4 (vZ hv4) rfl rfl rfl) (qV rfl (w1 rfl rfl rfl) rfl (nD rfl rfl) (aJl ?_))
 refine tpa ?_
 refine bY ?_
 refine ⟨by kernel_rfl,?_⟩
 refine aF (aC ?_)
 cases h0
 exact r0t 2 rfl
 iterate 7 refine k2 ?_
 refine aH2 ?_
 refine tpa ?_
 refine bY ?_
 refine ⟨by kernel_rfl,?_⟩
 refine aF (aC ?_)
 cases h0
 exact r0t 2 rfl
 iterate 3 refine k2 ?_
 refine aH2 ?_
 refine tpm ?_
 iterate 7 refine k2 ?_
 refine aH2 ?_
 refine tpa ?_
 refine bY ?_
 refine ⟨by kernel_rfl,?_⟩
 refine aF (aC ?_)
 cases h0
 exact r0t 2 rfl
theorem wO {p0 : Int} {p1 : Int} {r : Bool} (h0 : pE p0 p1 = some r) : FnC Tryz.prog 240 [] [dI p0,(dI p1)] [] (dB r) := by
 refine fi 18 tok Tryz.func240 ?_
 unfold pE at h0
 refine sq [0] (pa (nx (sq [0,1,2,3,4,5,6,7,8,9,10,11,12,13] ?_)))
 refine pm ?_
 refine rP rfl (sJ rfl rfl) (pm ?_)
 refine jW (u := 7) h0 rfl (fun hc h0 => ?_) (fun hc h0 => ?_)
 refine pm1 ?_
 refine rp rfl (w1 rfl rfl rfl) rfl (jK rfl rfl) (pkt ?_)
 refine pm ?_
 refine jW (u := 11) h0 rfl (fun hc h0 => ?_) (fun hc h0 => ?_)
 iterate 3 refine pm1 ?_
 refine rp rfl (w1 rfl rfl rfl) rfl (bD rfl rfl) ?_
 obtain ⟨v1,hv1,h0⟩ := bnd h0
 refine rs rfl (w1 rfl rfl rfl) rfl (aQ 3 (gC hv1) rfl rfl rfl) (pkt ?_)
 refine pa (nx (aC ?_))
 cases h0
 exact r0t 4 rfl
 iterate 5 refine k1 ?_
 refine pkf ?_
 refine pa (nx (aC ?_))
 cases h0
 exact r0t 4 rfl
 refine k1 ?_
 refine k1 ?_
 refine pkf ?_
 refine pm ?_
 iterate 5 refine k1 ?_
 refine pkf ?_
 refine pa (nx (aC ?_))
 cases h0
 exact r0t 4 rfl
theorem aJu {p0 : gG} {r : Bool} (h0 : vO p0 = some r) : FnC Tryz.prog 175 [] [.ref (xW p0)] [] (dB r) := by
 refine fi 30 tok Tryz.func175 ?_
 unfold vO at h0
 refine sq [0] (pa (nx (aB ?_)))
 refine aI (is := [0,1,2,3,4,5,6,7,8,9,10,11,12,13,14,15,16,17,18,19,20,21,22,23,24,25,26,27]) [0,1,3,7,0,16,48,112,255,511,1023,2047,4095,8191,1023,17407,50175,115711,262143,524287,1048575,2097151,4194303,8388607,16777215,33554431,67108863,134217727] follows (by kernel_rfl) (aDf ?_)
 refine tnr ?_
 refine tfr tok ?_
 refine tlr tok ?_
 refine aDf ?_
 refine tnr ?_
 refine tfr tok ?_
 refine tlr tok ?_
 obtain ⟨v1,hv1,h0⟩ := bnd h0
 refine oH rfl w0 rfl (dJ 3 (wO hv1) rfl rfl rfl) (tpm ?_)
 refine aDr (u := 12) h0 rfl (fun hc h0 => ?_) (fun hc h0 => ?_)
 refine aO1 ?_
 refine aR0 ?_
 refine aNe tok ?_
 refine aLq tok ?_
 refine aO1 ?_
 refine aR0 ?_
 refine aNe tok ?_
 refine aLq tok ?_
 obtain ⟨v2,hv2,h0⟩ := bnd h0
 refine oH rfl (w1 rfl rfl rfl) rfl (dJ 3 (wO hv2) rfl rfl rfl) (aJl ?_)
 refine tpm ?_
 refine aDr (u := 23) h0 rfl (fun hc h0 => ?_) (fun hc h0 => ?_)
 refine aO1 ?_
 refine aR0 ?_
 refine aNe tok ?_
 refine aLq tok ?_
 obtain ⟨v3,hv3,h0⟩ := bnd h0
 refine oH rfl (w1 rfl rfl rfl) rfl (dJ 3 (gC hv3) rfl rfl rfl) (aJl ?_)
 refine tpa ?_
 refine bY ?_
 refine ⟨by kernel_rfl,?_⟩
 refine aF (aC ?_)
 cases h0
 exact r0t 2 rfl
 iterate 5 refine k2 ?_
 refine aH2 ?_
 refine tpa ?_
 refine bY ?_
 refine ⟨by kernel_rfl,?_⟩
 refine aF (aC ?_)
 cases h0
 exact r0t 2 rfl
 iterate 9 refine k2 ?_
 refine aH2 ?_
 refine tpm ?_
 iterate 5 refine k2 ?_
 refine aH2 ?_
 refine tpa ?_
 refine bY ?_
 refine ⟨by kernel_rfl,?_⟩
 refine aF (aC ?_)
 cases h0
 exact r0t 2 rfl
theorem aIs {p0 : aM} {r : Bool} (h0 : sW p0 = some r) : FnC Tryz.prog 176 [] [.agg [dI p0.Num,(dI p0.Den)]] [] (dB r) := by
 refine fi 11 tok Tryz.func176 ?_
 unfold sW at h0
 refine sq [0,1] (bxx 3 ?_)
 refine pa (nx (sq [0,1,2,3,4,5,6,7,8] ?_))
 refine fa tok ?_
 refine ld tok ?_
 obtain ⟨v1,hv1,h0⟩ := bnd h0
 refine rS rfl (aQ 4 (gC hv1) rfl rfl rfl) (pm ?_)
 refine fI (u := 6) h0 rfl (fun hc h0 => ?_) (fun hc h0 => ?_)
 refine fa1 tok ?_
 refine ld1 tok ?_
 refine rp rfl (w1 rfl rfl rfl) rfl (jK rfl rfl) (pkt ?_)
 refine pa (nx (aC ?_))
 cases h0
 exact r0t 2 rfl
 iterate 3 refine k1 ?_
 refine pkf ?_
 refine pa (nx (aC ?_))
 cases h0
 exact r0t 2 rfl
theorem aBe {p0 : List Int} {r : List Int} (h0 : oB p0 = some r) : FnC Tryz.prog 204 [] [dL cI p0] [.live [⟨2,1, .data (List.map cI r)⟩]] (.own 0 0 r.length) := by
 refine fi 6 tok Tryz.func204 ?_
 unfold oB at h0
 refine sq [0] (pa (nx (sq [0,1,2,3] ?_)))
 refine rS rfl (eT 3 tok rfl rfl rfl rfl) (pm ?_)
 obtain ⟨hq1,h0⟩ := cR h0
 refine rw1 rfl w0 rfl (gZ tok hq1 rfl rfl rfl rfl rfl rfl rfl rfl rfl rfl rfl rfl (fun _ => rfl)) (rP rfl (aS (r := .own _ _ _) rfl) (nx (aC ?_)))
 cases h0
 exact fO (rs := [.tmp 2]) [3] rfl
theorem sF {p0 : Int} {p1 : Int} {p2 : Int} {r : List aP} (h0 : gM p0 p1 p2 = some r) : FnC Tryz.prog 272 [] [dI p0,(dI p1),(dI p2)] [] (dL aN r) := by
 refine fi 67 tok Tryz.func272 ?_
 unfold gM at h0
 refine sq [0] (pa (nx (sq [0,1,2] ?_)))
 refine rP rfl (pbl (C0 := [z0,zl]) tok rfl rfl rfl) (rS rfl (aOp tok aN [(⟨1,[]⟩ : aP)] rfl rfl rfl (by repeat (first | exact Els.nil _ | apply Els.cons (cs := [.d _]) rfl rfl rfl | apply Els.cons (cs := _ :: _) rfl rfl rfl)) rfl rfl rfl (by repeat (first | exact aD5.nil | (apply aD5.cons; (repeat (first | exact aI6.nil | apply aI6.niln | apply aI6.cons))))) rfl) (pa (nx ?_)))
 obtain ⟨v75,h1,h0⟩ := bnd h0
 refine bF ⟨aA ((fun _ => .dead)) 7 (dL aN v75),lks [.no, .no, .no]⟩ ?_ ?_
 refine sq [0] (pa (nx (aE ?_)))
 refine aY (fun s38 => ⟨aA (aA (aA (aA (aA ((fun _ => .dead)) 0 (dI p0)) 1 (dI p1)) 2 (dI p2)) 7 (dL aN s38.1)) 8 (dI s38.2),lks [.no, .no, .no]⟩) h1 ?_ (fun s38 y h2 => ?_)
 exact wk [0,1,2]
 refine aB (sq [0,1,2] (pm ?_))
 refine pm ?_
 refine rP rfl (bB rfl rfl) (nx ?_)
 refine bC h2 rfl (fun hc h2 => ?_) (fun hc h2 => ?_)
 refine sk ?_
 obtain ⟨v74,h3,h2⟩ := bnd h2
 refine bF ⟨aA (aA (aA (aA (aA ((fun _ => .dead)) 0 (dI p0)) 1 (dI p1)) 2 (dI p2)) 7 (.own 3 0 (v74).length)) 8 (dI s38.2),lks [.no, .no, .no, .live [⟨306,2, .data (List.map aN v74)⟩]]⟩ ?_ ?_
 refine aE (sq [0,1] (rS rfl (eT 3 tok rfl rfl rfl rfl) (rP rfl (aS (r := .own _ _ _) rfl) (nx ?_))))
 obtain ⟨v73,h4,h3⟩ := bnd h3
 refine bF ⟨aA (aA (aA (aA (aA ((fun _ => .dead)) 0 (dI p0)) 1 (dI p1)) 2 (dI p2)) 8 (dI s38.2)) 9 (.own 3 0 (v73).length),lks [.no, .no, .no, .live [⟨306,2, .data (List.map aN v73)⟩]]⟩ ?_ ?_
 refine sq [0] (pa (nx (aE ?_)))
 refine aY (fun s56 => ⟨aA (aA (aA (aA (aA (aA (aA ((fun _ => .dead)) 0 (dI p0)) 1 (dI p1)) 2 (dI p2)) 7 (dL aN s38.1)) 8 (dI s38.2)) 9 (.own 3 0 (s56.2).length)) 10 (dI s56.1),lks [.no, .no, .no, .live [⟨306,2, .data (List.map aN s56.2)⟩]]⟩) h4 ?_ (fun s56 y h5 => ?_)
 exact wk [0,1,2,3]
 refine aB (sq [0,1,2,3] (pm ?_))
 refine pm ?_
 refine rP rfl (aK tok rfl rfl rfl) (rP rfl (bB rfl rfl) (nx ?_))
 refine bC h5 rfl (fun hc h5 => ?_) (fun hc h5 => ?_)
 refine sk ?_
 obtain ⟨v72,h6,h5⟩ := bnd h5
 refine bF ⟨aA (aA (aA (aA (aA (aA (aA ((fun _ => .dead)) 0 (dI p0)) 1 (dI p1)) 2 (dI p2)) 7 (dL aN s38.1)) 8 (dI s38.2)) 9 (.own 3 0 (v72).length)) 10 (dI s56.1),lks [.no, .no, .no, .live [⟨306,2, .data (List.map aN v72)⟩]]⟩ ?_ ?_
 refine aE (sq [0,1] (pm ?_))
 refine pa (nx ?_)
 obtain ⟨v59,h7,h6⟩ := bnd h6
 refine bF ⟨aA (aA (aA (aA (aA (aA (aA (aA ((fun _ => .dead)) 0 (dI p0)) 1 (dI p1)) 2 (dI p2)) 7 (dL aN s38.1)) 8 (dI s38.2)) 9 (.own 3 0 (s56.2).length)) 10 (dI s56.1)) 11 (dI v59),lks [.no, .no, .no, .live [⟨306,2, .data (List.map aN s56.2)⟩]]⟩ ?_ ?_
 refine sq [0,1] (pm ?_)
 refine rP rfl (gT rfl rfl) (nx ?_)
 refine bC h7 rfl (fun hc h7 => ?_) (fun hc h7 => ?_)
 refine sr [0,1,2,3,4,5,6,7,8,9] (pm ?_)
 refine pm ?_
 obtain ⟨v57,hv57,h7⟩ := bnd h7
 refine rP rfl (cG tok hv57 rfl rfl rfl rfl rfl rfl) (fr tok ?_)
 refine lr tok ?_
 refine pm ?_
 refine rP rfl (iX rfl rfl) ?_
 obtain ⟨v58,hv58,h7⟩ := bnd h7
 refine rP rfl (cG tok hv58 rfl rfl rfl rfl rfl rfl) (lr tok ?_)
 refine pa (nx ?_)
 cases h7
 exact wk [0,1,2,3]
 refine sk ?_
 cases h7
 exact wk [0,1,2,3]
 refine sq [0,1] (pm ?_)
 refine pa (nx (aE ?_))
 refine aY (fun s66 => ⟨aA (aA (aA (aA (aA (aA (aA (aA ((fun _ => .dead)) 0 (dI p0)) 1 (dI p1)) 2 (dI p2)) 7 (dL aN s38.1)) 8 (dI s38.2)) 9 (.own 3 0 (s66.2).length)) 10 (dI s56.1)) 12 (dI s66.1),lks [.no, .no, .no, .live [⟨306,2, .data (List.map aN s66.2)⟩]]⟩) h6 ?_ (fun s66 y h7 => ?_)
 exact wk [0,1,2,3]
 refine aB (sq [0,1,2] (pm ?_))
 refine pm ?_
 refine rP rfl (jK rfl rfl) (nx ?_)
 refine bC h7 rfl (fun hc h7 => ?_) (fun hc h7 => ?_)
 refine sk (aB (aE (aI (is := [0,1,2,3,4,5,6,7,8,9,10,11,12,14,13,15,16,17,18,19,20]) [0,0,0,6,14,30,0,126,0,0,768,1792,3840,7936,0,16384,65280,131070,262142,524287,1048575] follows (by kernel_rfl) (tP rfl (aL (r := .own _ _ _) rfl) (tpm ?_)))))
 refine tpm ?_
 obtain ⟨v67,hv67,h7⟩ := bnd h7
 refine tP rfl (cG tok hv67 rfl rfl rfl rfl rfl rfl) (tfr tok ?_)
 refine tlr tok ?_
 refine tpm ?_
 refine tP rfl (eH rfl rfl) (tpm ?_)
 refine tpm ?_
 obtain ⟨v68,hv68,h7⟩ := bnd h7
 refine tP rfl (cG tok hv68 rfl rfl rfl rfl rfl rfl) (tfr tok ?_)
 refine tlr tok ?_
 refine tpm ?_
 obtain ⟨v69,hv69,h7⟩ := bnd h7
 refine oH rfl w0 rfl (dJ 6 (aBe hv69) rfl rfl rfl) (aDc rfl w0 rfl rfl (fun hx hk => vJ 4 tok cI [s66.1] rfl rfl rfl (by repeat (first | exact Els.nil _ | apply Els.cons (cs := [.d _]) rfl rfl rfl | apply Els.cons (cs := _ :: _) rfl rfl rfl)) rfl rfl rfl (by repeat (first | exact dG.nil | (apply dG.cons; (repeat (first | exact iZ.nil | apply iZ.cons))))) rfl hk) ?_)
 obtain ⟨hq70,h7⟩ := cR h7
 refine wP rfl w0 rfl (aTa (gZ tok hq70 rfl rfl rfl rfl rfl rfl rfl rfl rfl rfl rfl rfl (fun _ => rfl))) (tP rfl (pbl (C0 := [z0,zl]) tok rfl rfl rfl) (aDc rfl w0 rfl rfl (fun hx hk => vJ 5 tok aN [(⟨w64 (v67.value * s66.1),v69 ++ [s66.1]⟩ : aP)] rfl rfl rfl (by repeat (first | exact Els.nil _ | apply Els.cons (cs := [.d _]) rfl rfl rfl | apply Els.cons (cs := _ :: _) rfl rfl rfl)) rfl rfl rfl (by repeat (first | exact dG.nil | (apply dG.cons; (repeat (first | exact iZ.nil | apply iZ.cons))))) rfl hk) ?_))
 obtain ⟨hq71,h7⟩ := cR h7
 refine wP rfl w0 rfl (gZ tok hq71 rfl rfl rfl rfl rfl rfl rfl rfl rfl rfl rfl rfl (fun _ => rfl)) (tP rfl (aS (r := .own _ _ _) rfl) (bY ?_))
 refine ⟨by kernel_rfl,?_⟩
 refine aZ (aF (sr [0,1,2] (pm ?_)))
 refine rP rfl (bD rfl rfl) (pa (aV ?_))
 refine bX ?_
 cases h7
 refine ⟨_,rfl,?_⟩
 exact wk [0,1,2,3]
 refine bH (cC ?_)
 cases h7
 refine cA ⟨_,rfl,fun e => ?_⟩
 subst e
 refine aR ?_
 refine aZ (aF ?_)
 exact wk [0,1,2,3]
 refine sr [0,1,2] (pm ?_)
 refine rP rfl (bD rfl rfl) (pa (aV ?_))
 refine bX ?_
 cases h5
 refine ⟨_,rfl,?_⟩
 exact wk [0,1,2,3]
 refine bH (cC ?_)
 cases h5
 refine cA ⟨_,rfl,fun e => ?_⟩
 subst e
 refine aR (aF ?_)
 exact wk [0,1,2,3]
 refine sr [0,1] (rP rfl (aL (r := .own _ _ _) rfl) (rP rfl (aS (r := .own _ _ _) rfl) (aV (aZ (aF ?_)))))
 cases h3
 exact wk [0,1,2,3]
 refine sr [0,1,2] (pm ?_)
 refine rP rfl (bD rfl rfl) (pa (aV ?_))
 refine bX ?_
 cases h2
 refine ⟨_,rfl,?_⟩
 refine lW.trans_ (xX (k := 3) (t' := aA (aA (aA (aA (aA ((fun _ => .dead)) 0 (dI p0)) 1 (dI p1)) 2 (dI p2)) 7 (dL aN v74)) 8 (dI (w64 (s38.2 + 1)))) rfl (FzL.nil)) ?_
 exact wk [0,1,2]
 refine bH (cC ?_)
 cases h2
 refine cA ⟨_,rfl,fun e => ?_⟩
 subst e
 refine aR (aF ?_)
 exact wk [0,1,2]
 refine sq [0,1] (pm ?_)
 refine pa (nx (aC ?_))
 cases h0
 exact r0t 6 rfl
theorem aDt {p0 : List aP} {p1 : List aP} {r : List aP} (h0 : nH p0 p1 = some r) : FnC Tryz.prog 283 [] [dL aN p0,(dL aN p1)] [.live [⟨306,2, .data (List.map aN r)⟩]] (.own 0 0 r.length) := by
 refine fi 53 tok Tryz.func283 ?_
 unfold nH at h0
 refine sq [0] (pa (nx (sq [0,1] ?_)))
 refine rS rfl (eT 3 tok rfl rfl rfl rfl) (rP rfl (aS (r := .own _ _ _) rfl) (nx (sq [0] (pa (nx ?_)))))
 obtain ⟨v35,h1,h0⟩ := bnd h0
 refine bF ⟨aA (aA (aA ((fun _ => .dead)) 0 (dL aN p0)) 5 (.own 3 0 (v35.2).length)) 6 (dI v35.1),lks [.no, .no, .no, .live [⟨306,2, .data (List.map aN v35.2)⟩]]⟩ ?_ ?_
 refine sq [0] (pa (nx (aE ?_)))
 refine aY (fun s18 => ⟨aA (aA (aA (aA (aA ((fun _ => .dead)) 0 (dL aN p0)) 1 (dL aN p1)) 5 (.own 3 0 (s18.2.2).length)) 6 (dI s18.1)) 7 (dI s18.2.1),lks [.no, .no, .no, .live [⟨306,2, .data (List.map aN s18.2.2)⟩]]⟩) h1 ?_ (fun s18 y h2 => ?_)
 exact wk [0,1,2,3]
 refine aB (sq [0,1,2,3] (pm ?_))
 refine pm ?_
 refine rP rfl (aK tok rfl rfl rfl) (rP rfl (bB rfl rfl) (nx ?_))
 refine bC h2 rfl (fun hc h2 => ?_) (fun hc h2 => ?_)
 refine sk ?_
 obtain ⟨v34,h3,h2⟩ := bnd h2
 refine bF ⟨aA (aA (aA (aA (aA ((fun _ => .dead)) 0 (dL aN p0)) 1 (dL aN p1)) 5 (.own 3 0 (v34.2).length)) 6 (dI v34.1)) 7 (dI s18.2.1),lks [.no, .no, .no, .live [⟨306,2, .data (List.map aN v34.2)⟩]]⟩ ?_ ?_
 refine aE ?_
 obtain ⟨v31,h4,h3⟩ := bnd h3
 refine bF ⟨aA (aA (aA (aA (aA ((fun _ => .dead)) 0 (dL aN p0)) 1 (dL aN p1)) 5 (.own 3 0 (v31.2).length)) 6 (dI v31.1)) 7 (dI s18.2.1),lks [.no, .no, .no, .live [⟨306,2, .data (List.map aN v31.2)⟩]]⟩ ?_ ?_
 refine aE ?_
 refine aY (fun s25 => ⟨aA (aA (aA (aA (aA ((fun _ => .dead)) 0 (dL aN p0)) 1 (dL aN p1)) 5 (.own 3 0 (s25.2).length)) 6 (dI s25.1)) 7 (dI s18.2.1),lks [.no, .no, .no, .live [⟨306,2, .data (List.map aN s25.2)⟩]]⟩) h4 ?_ (fun s25 y h5 => ?_)
 exact wk [0,1,2,3]
 refine aB ?_
 obtain ⟨v28,h6,h5⟩ := bnd h5
 refine bF ⟨aA (aA (aA (aA (aA (aA ((fun _ => .dead)) 0 (dL aN p0)) 1 (dL aN p1)) 5 (.own 3 0 (s25.2).length)) 6 (dI s25.1)) 7 (dI s18.2.1)) 31 (dB v28),lks [.no, .no, .no, .live [⟨306,2, .data (List.map aN s25.2)⟩]]⟩ ?_ ?_
 refine aI (is := [0,1,2,3,4,5,6,7,8,9,10,11,12,13,14,15,16]) [0,0,2,7,15,31,31,127,255,511,31,31,3103,7199,15391,32767,65535] follows (by kernel_rfl) (tpm ?_)
 refine tpm ?_
 refine tP rfl (aK tok rfl rfl rfl) (tP rfl (bB rfl rfl) (tpm ?_))
 refine aGt (u := 19) h6 rfl (fun hc h6 => ?_) (fun hc h6 => ?_)
 refine aDe ?_
 refine aDe ?_
 obtain ⟨v26,hv26,h6⟩ := bnd h6
 refine qV rfl (w1 rfl rfl rfl) rfl (cG tok hv26 rfl rfl rfl rfl rfl rfl) (aNe tok ?_)
 refine aLq tok ?_
 refine aDe ?_
 refine aDe ?_
 obtain ⟨v27,hv27,h6⟩ := bnd h6
 refine qV rfl (w1 rfl rfl rfl) rfl (cG tok hv27 rfl rfl rfl rfl rfl rfl) (aNe tok ?_)
 refine aLq tok ?_
 refine qV rfl (w1 rfl rfl rfl) rfl (jK rfl rfl) (aJl ?_)
 refine bY ?_
 refine ⟨by kernel_rfl,?_⟩
 refine aF ?_
 cases h6
 refine lW.trans_ (mR (d := 23) (ds := cI v26.value) rfl (by repeat (first | exact Pre.z _ | apply Pre.t))) (lW.trans_ (mR (d := 28) (ds := cI v27.value) rfl (by repeat (first | exact Pre.z _ | apply Pre.t))) ?_)
 exact wk [0,1,2,3]
 iterate 11 refine k2 ?_
 refine aH2 ?_
 refine bY ?_
 refine ⟨by kernel_rfl,?_⟩
 refine aF ?_
 cases h6
 exact wk [0,1,2,3]
 refine bZ h5 rfl (fun hc h5 => ?_) (fun hc h5 => ?_)
 refine sk (aE (sq [0,1,2,3,4,5,6,7] (rP rfl (aL (r := .own _ _ _) rfl) (pm ?_))))
 refine pm ?_
 obtain ⟨v29,hv29,h5⟩ := bnd h5
 refine rP rfl (cG tok hv29 rfl rfl rfl rfl rfl rfl) (rP rfl (bR tok rfl rfl rfl (by repeat (first | exact kE.z _ | apply kE.t))) (rS rfl (tK tok aN [v29] rfl rfl rfl (by repeat (first | exact Els.nil _ | apply Els.cons (cs := [.d _]) rfl rfl rfl | apply Els.cons (cs := _ :: _) rfl rfl rfl)) rfl rfl rfl (by repeat (first | exact dG.nil | (apply dG.cons; (repeat (first | exact iZ.nil | apply iZ.cons))))) rfl) ?_))
 obtain ⟨hq30,h5⟩ := cR h5
 refine rw1 rfl w0 rfl (gZ tok hq30 rfl rfl rfl rfl rfl rfl rfl rfl rfl rfl rfl rfl (fun _ => rfl)) (rP rfl (aS (r := .own _ _ _) rfl) (nx (sr [0,1,2] (pm ?_))))
 refine rP rfl (bD rfl rfl) (pa (aV ?_))
 refine aZ (bX ?_)
 cases h5
 refine ⟨_,rfl,?_⟩
 exact wk [0,1,2,3]
 refine bH (cC ?_)
 cases h5
 refine cA ⟨_,rfl,fun e => ?_⟩
 subst e
 refine aR (aF ?_)
 exact wk [0,1,2,3]
 refine sr [0,1,2,3,4,5,6,7] (rP rfl (aL (r := .own _ _ _) rfl) (pm ?_))
 refine pm ?_
 obtain ⟨v32,hv32,h3⟩ := bnd h3
 refine rP rfl (cG tok hv32 rfl rfl rfl rfl rfl rfl) (rP rfl (bR tok rfl rfl rfl (by repeat (first | exact kE.z _ | apply kE.t))) (rS rfl (tK tok aN [v32] rfl rfl rfl (by repeat (first | exact Els.nil _ | apply Els.cons (cs := [.d _]) rfl rfl rfl | apply Els.cons (cs := _ :: _) rfl rfl rfl)) rfl rfl rfl (by repeat (first | exact dG.nil | (apply dG.cons; (repeat (first | exact iZ.nil | apply iZ.cons))))) rfl) ?_))
 obtain ⟨hq33,h3⟩ := cR h3
 refine rw1 rfl w0 rfl (gZ tok hq33 rfl rfl rfl rfl rfl rfl rfl rfl rfl rfl rfl rfl (fun _ => rfl)) (rP rfl (aS (r := .own _ _ _) rfl) (aV (aZ (aF ?_))))
 cases h3
 exact wk [0,1,2,3]
 refine sr [0,1,2] (pm ?_)
 refine rP rfl (bD rfl rfl) (pa (aV ?_))
 refine bX ?_
 cases h2
 refine ⟨_,rfl,?_⟩
 exact wk [0,1,2,3]
 refine bH (cC ?_)
 cases h2
 refine cA ⟨_,rfl,fun e => ?_⟩
 subst e
 refine aR (aF ?_)
 exact wk [0,1,2,3]
 refine sq [0,1,2,3,4,5] (rP rfl (aL (r := .own _ _ _) rfl) (pm ?_))
 refine pm ?_
 obtain ⟨hq36,h0⟩ := cR h0
 refine rP rfl (tZ tok hq36 rfl (.inr ⟨_,_,rfl,rfl⟩) (.inl ⟨rfl,rfl⟩) rfl rfl rfl (fun _ => rfl)) ?_
 obtain ⟨hq37,h0⟩ := cR h0
 refine rw1 rfl w0 rfl (gZ tok hq37 rfl rfl rfl rfl rfl rfl rfl rfl rfl rfl rfl rfl (fun _ => rfl)) (rP rfl (aS (r := .own _ _ _) rfl) (nx (aC ?_)))
 cases h0
 exact fO (rs := [.tmp 4]) [3] rfl
theorem aG2 {n' : Nat} {p0 : List aP} {r : List aP} (h0 : iB n' p0 = some r) : FnC Tryz.prog 273 [] [dL aN p0] [] (dL aN r) := by
 induction n' generalizing p0 r with
 | zero => simp [iB] at h0
 | succ n' ih =>
 refine fi 20 tok Tryz.func273 ?_
 unfold iB at h0
 refine sq [0] (pa (nx (aB (sq [0,1,2] ?_))))
 refine pm ?_
 refine rP rfl (aK tok rfl rfl rfl) (rP rfl (bB rfl rfl) (nx ?_))
 refine bC h0 rfl (fun hc h0 => ?_) (fun hc h0 => ?_)
 refine sq [0,1] (pm ?_)
 refine pa (nx (aC (aJ ?_)))
 cases h0
 exact r0t 2 rfl
 refine sk (sq [0,1,2,3] (pm ?_))
 refine rP rfl (aK tok rfl rfl rfl) (rP rfl (rO rfl rfl (by decide)) (pa (nx (aB ?_))))
 refine aI (is := [0,1,2,4,5,6,3,7,8,9]) [0,0,3,7,0,0,48,127,255,511] follows (by kernel_rfl) (tpm ?_)
 refine tpm ?_
 obtain ⟨hq2,h0⟩ := cR h0
 refine tP rfl (tZ tok hq2 rfl (.inl ⟨rfl,rfl⟩) (.inr ⟨_,_,rfl,rfl⟩) rfl rfl rfl (fun _ => rfl)) (tpm ?_)
 refine tpm ?_
 obtain ⟨hq3,h0⟩ := cR h0
 refine tP rfl (tZ tok hq3 rfl (.inr ⟨_,_,rfl,rfl⟩) (.inl ⟨rfl,rfl⟩) rfl rfl rfl (fun _ => rfl)) ?_
 obtain ⟨v4,hv4,h0⟩ := bnd h0
 refine oH rfl w0 rfl (dJ 3 (ih hv4) rfl rfl rfl) ?_
 obtain ⟨v5,hv5,h0⟩ := bnd h0
 refine oH rfl w0 rfl (dJ 3 (ih hv5) rfl rfl rfl) ?_
 obtain ⟨v6,hv6,h0⟩ := bnd h0
 refine oH rfl w0 rfl (dJ 3 (aDt hv6) rfl rfl rfl) (tP rfl (aS (r := .own _ _ _) rfl) (bY ?_))
 refine ⟨by kernel_rfl,?_⟩
 refine aF (cM (xX (k := 3) (t' := aA ((fun _ => .dead)) 2 (dL aN v6)) rfl (FzL.nil)) (aC ?_))
 cases h0
 exact r0t 2 rfl
theorem aE2 {p0 : List aP} {p1 : Int} {r : Int} (h0 : mZ p0 p1 = some r) : FnC Tryz.prog 274 [] [dL aN p0,(dI p1)] [] (dI r) := by
 refine fi 28 tok Tryz.func274 ?_
 unfold mZ at h0
 refine sq [0] (pa (nx (sq [0] ?_)))
 refine pa (nx (sq [0,1,2] ?_))
 refine pm ?_
 refine rP rfl (aK tok rfl rfl rfl) (pa (nx ?_))
 obtain ⟨v7,h1,h0⟩ := bnd h0
 refine bF ⟨aA ((fun _ => .dead)) 5 (dI v7),lks [.no, .no, .no]⟩ ?_ ?_
 refine aE ?_
 refine aY (fun s4 => ⟨aA (aA (aA (aA ((fun _ => .dead)) 0 (dL aN p0)) 1 (dI p1)) 5 (dI s4.1)) 6 (dI s4.2),lks [.no, .no, .no]⟩) h1 ?_ (fun s4 y h2 => ?_)
 exact wk [0,1,2]
 refine aB (sq [0,1,2] (pm ?_))
 refine pm ?_
 refine rP rfl (bB rfl rfl) (nx ?_)
 refine bC h2 rfl (fun hc h2 => ?_) (fun hc h2 => ?_)
 refine sk (aE (sq [0,1,2,3,4] (pm ?_)))
 refine pm ?_
 refine rP rfl (bD rfl rfl) (rP rfl (rO rfl rfl (by decide)) (pa (nx (sq [0,1,2,3,4,5,6] ?_))))
 refine pm ?_
 refine pm ?_
 obtain ⟨v6,hv6,h2⟩ := bnd h2
 refine rP rfl (cG tok hv6 rfl rfl rfl rfl rfl rfl) (fr tok ?_)
 refine lr tok ?_
 refine pm ?_
 refine rP rfl (bB rfl rfl) (nx ?_)
 refine bC h2 rfl (fun hc h2 => ?_) (fun hc h2 => ?_)
 refine sr [0,1,2] (pm ?_)
 refine rP rfl (bD rfl rfl) (pa (aV ?_))
 refine aZ (bX ?_)
 cases h2
 refine ⟨_,rfl,?_⟩
 exact wk [0,1,2]
 refine sr [0,1] (pm ?_)
 refine pa (aV ?_)
 refine aZ (bX ?_)
 cases h2
 refine ⟨_,rfl,?_⟩
 exact wk [0,1,2]
 refine bH (cC ?_)
 cases h2
 refine cA ⟨_,rfl,fun e => ?_⟩
 subst e
 refine aR (aF ?_)
 exact wk [0,1,2]
 refine sq [0,1] (pm ?_)
 refine pa (nx (aC ?_))
 cases h0
 exact r0t 4 rfl
theorem yO {p0 : List Int} {r : List Int} (h0 : lZ p0 = some r) : FnC Tryz.prog 299 [] [dL cI p0] [.live [⟨2,1, .data (List.map cI r)⟩]] (.own 0 0 r.length) := by
 refine fi 48 tok Tryz.func299 ?_
 unfold lZ at h0
 refine sq [0] (pa (nx (sq [0,1] ?_)))
 refine rS rfl (eT 3 tok rfl rfl rfl rfl) (rP rfl (aS (r := .own _ _ _) rfl) (nx ?_))
 obtain ⟨v35,h1,h0⟩ := bnd h0
 refine bF ⟨aA ((fun _ => .dead)) 3 (.own 3 0 (v35).length),lks [.no, .no, .no, .live [⟨2,1, .data (List.map cI v35)⟩]]⟩ ?_ ?_
 refine sq [0] (pa (nx (aE ?_)))
 refine aY (fun s18 => ⟨aA (aA (aA ((fun _ => .dead)) 0 (dL cI p0)) 3 (.own 3 0 (s18.2).length)) 4 (dI s18.1),lks [.no, .no, .no, .live [⟨2,1, .data (List.map cI s18.2)⟩]]⟩) h1 ?_ (fun s18 y h2 => ?_)
 exact wk [0,1,2,3]
 refine aB (sq [0,1,2,3] (pm ?_))
 refine pm ?_
 refine rP rfl (aK tok rfl rfl rfl) (rP rfl (bB rfl rfl) (nx ?_))
 refine bC h2 rfl (fun hc h2 => ?_) (fun hc h2 => ?_)
 refine sk ?_
 obtain ⟨v34,h3,h2⟩ := bnd h2
 refine bF ⟨aA (aA (aA ((fun _ => .dead)) 0 (dL cI p0)) 3 (.own 3 0 (v34).length)) 4 (dI s18.1),lks [.no, .no, .no, .live [⟨2,1, .data (List.map cI v34)⟩]]⟩ ?_ ?_
 refine aE (sq [0,1,2] (rP rfl (aL (r := .own _ _ _) rfl) (rL rfl (nG tok rfl rfl rfl rfl rfl) (pa (nx ?_)))))
 obtain ⟨v27,h4,h3⟩ := bnd h3
 refine bF ⟨aA (aA (aA (aA ((fun _ => .dead)) 0 (dL cI p0)) 3 (.own 3 0 (s18.2).length)) 4 (dI s18.1)) 5 (dI v27),lks [.no, .no, .no, .live [⟨2,1, .data (List.map cI s18.2)⟩]]⟩ ?_ ?_
 refine aE ?_
 refine aY (fun s23 => ⟨aA (aA (aA (aA ((fun _ => .dead)) 0 (dL cI p0)) 3 (.own 3 0 (s18.2).length)) 4 (dI s18.1)) 5 (dI s23),lks [.no, .no, .no, .live [⟨2,1, .data (List.map cI s18.2)⟩]]⟩) h4 ?_ (fun s23 y h5 => ?_)
 exact wk [0,1,2,3]
 refine aB ?_
 obtain ⟨v26,h6,h5⟩ := bnd h5
 refine bF ⟨aA (aA (aA (aA (aA ((fun _ => .dead)) 0 (dL cI p0)) 3 (.own 3 0 (s18.2).length)) 4 (dI s18.1)) 5 (dI s23)) 29 (dB v26),lks [.no, .no, .no, .live [⟨2,1, .data (List.map cI s18.2)⟩]]⟩ ?_ ?_
 refine aI (is := [0,1,2,3,4,5,6,7,8,9,10,11,12,13]) [0,1,3,7,7,23,63,127,7,7,775,1799,4095,8191] follows (by kernel_rfl) (tpm ?_)
 refine tP rfl (gT rfl rfl) (tpm ?_)
 refine aGt (u := 18) h6 rfl (fun hc h6 => ?_) (fun hc h6 => ?_)
 refine qV rfl (w1 rfl rfl rfl) rfl (aL (r := .own _ _ _) rfl) (aDe ?_)
 refine qV rfl (w1 rfl rfl rfl) rfl (iX rfl rfl) ?_
 obtain ⟨v24,hv24,h6⟩ := bnd h6
 refine dT rfl (w1 rfl rfl rfl) rfl (jB tok hv24 rfl rfl rfl rfl rfl rfl rfl rfl) rfl rfl rfl (dT rfl (w1 rfl rfl rfl) rfl (oN tok (eB hv24).2.1 rfl rfl rfl rfl rfl rfl) rfl rfl rfl (aDe ?_))
 refine aDe ?_
 obtain ⟨v25,hv25,h6⟩ := bnd h6
 refine qV rfl (w1 rfl rfl rfl) rfl (cG tok hv25 rfl rfl rfl rfl rfl rfl) (aLq tok ?_)
 refine qV rfl (w1 rfl rfl rfl) rfl (gT rfl rfl) (aJl ?_)
 refine bY ?_
 refine ⟨by kernel_rfl,?_⟩
 refine aF ?_
 cases h6
 exact wk [0,1,2,3]
 iterate 10 refine k2 ?_
 refine aH2 ?_
 refine bY ?_
 refine ⟨by kernel_rfl,?_⟩
 refine aF ?_
 cases h6
 exact wk [0,1,2,3]
 refine bZ h5 rfl (fun hc h5 => ?_) (fun hc h5 => ?_)
 refine sk (aE (sr [0,1,2] (pm ?_)))
 refine rP rfl (iX rfl rfl) (pa (aV ?_))
 refine aZ (bX ?_)
 cases h5
 refine ⟨_,rfl,?_⟩
 exact wk [0,1,2,3]
 refine bH (cC ?_)
 cases h5
 refine cA ⟨_,rfl,fun e => ?_⟩
 subst e
 refine aR (aF ?_)
 exact wk [0,1,2,3]
 refine aB (cM (xX (k := 3) (t' := aA (aA (aA (aA ((fun _ => .dead)) 0 (dL cI p0)) 3 (dL cI s18.2)) 4 (dI s18.1)) 5 (dI v27)) rfl (FzL.nil)) (aI (is := [0,1,2,4,5,6,7,3,8,9,10]) [0,0,3,7,0,0,48,112,240,511,1023] follows (by kernel_rfl) (tpm ?_)))
 refine tpm ?_
 obtain ⟨hq28,h3⟩ := cR h3
 refine tP rfl (tZ tok hq28 rfl (.inl ⟨rfl,rfl⟩) (.inr ⟨_,_,rfl,rfl⟩) rfl rfl rfl (fun _ => rfl)) (tpm ?_)
 refine tpm ?_
 obtain ⟨v29,hv29,h3⟩ := bnd h3
 refine tP rfl (cG tok hv29 rfl rfl rfl rfl rfl rfl) (tlr tok ?_)
 obtain ⟨v30,hv30,h3⟩ := bnd h3
 refine oH rfl w0 rfl (dJ 5 (aBe hv30) rfl rfl rfl) (aDc rfl w0 rfl rfl (fun hx hk => vJ 4 tok cI [v29] rfl rfl rfl (by repeat (first | exact Els.nil _ | apply Els.cons (cs := [.d _]) rfl rfl rfl | apply Els.cons (cs := _ :: _) rfl rfl rfl)) rfl rfl rfl (by repeat (first | exact dG.nil | (apply dG.cons; (repeat (first | exact iZ.nil | apply iZ.cons))))) rfl hk) ?_)
 obtain ⟨hq31,h3⟩ := cR h3
 refine wP rfl w0 rfl (gZ tok hq31 rfl rfl rfl rfl rfl rfl rfl rfl rfl rfl rfl rfl (fun _ => rfl)) (tP rfl (aS (r := .own _ _ _) rfl) (bY ?_))
 refine ⟨by kernel_rfl,?_⟩
 refine aF (sr [0,1,2,3,4,5] (rP rfl (aL (r := .own _ _ _) rfl) (pm ?_)))
 refine pm ?_
 obtain ⟨hq32,h3⟩ := cR h3
 refine rP rfl (tZ tok hq32 rfl (.inr ⟨_,_,rfl,rfl⟩) (.inl ⟨rfl,rfl⟩) rfl rfl rfl (fun _ => rfl)) ?_
 obtain ⟨hq33,h3⟩ := cR h3
 refine rw1 rfl w0 rfl (gZ tok hq33 rfl rfl rfl rfl rfl rfl rfl rfl rfl rfl rfl rfl (fun _ => rfl)) (rP rfl (aS (r := .own _ _ _) rfl) (aV (aZ (aF ?_))))
 cases h3
 exact wk [0,1,2,5]
 refine sr [0,1,2] (pm ?_)
 refine rP rfl (bD rfl rfl) (pa (aV ?_))
 refine bX ?_
 cases h2
 refine ⟨_,rfl,?_⟩
 exact wk [0,1,2,3]
 refine bH (cC ?_)
 cases h2
 refine cA ⟨_,rfl,fun e => ?_⟩
 subst e
 refine aR (aF ?_)
 exact wk [0,1,2,3]
 refine sq [0,1] (rP rfl (aL (r := .own _ _ _) rfl) (rP rfl (aS (r := .own _ _ _) rfl) (nx (aC ?_))))
 cases h0
 exact fO (rs := [.tmp 2]) [3] rfl
theorem aDv {p0 : List Int} {p1 : List Int} {r : List bL} (h0 : kQ p0 p1 = some r) : FnC Tryz.prog 284 [] [dL cI p0,(dL cI p1)] [.live [⟨121,2, .data (List.map bU r)⟩]] (.own 0 0 r.length) := by
 refine fi 37 tok Tryz.func284 ?_
 unfold kQ at h0
 refine sq [0] (pa (nx (sq [0,1,2] ?_)))
 refine pm ?_
 obtain ⟨v1,hv1,h0⟩ := bnd h0
 refine rS rfl (aQ 3 (yO hv1) rfl rfl rfl) (rP rfl (aS (r := .own _ _ _) rfl) (nx (sq [0,1,2] (pm ?_))))
 obtain ⟨v2,hv2,h0⟩ := bnd h0
 refine rS rfl (aQ 4 (yO hv2) rfl rfl rfl) (rP rfl (aS (r := .own _ _ _) rfl) (nx (sq [0,1] (rS rfl (eT 5 tok rfl rfl rfl rfl) (rP rfl (aS (r := .own _ _ _) rfl) (nx ?_))))))
 obtain ⟨v11,h1,h0⟩ := bnd h0
 refine bF ⟨aA ((fun _ => .dead)) 7 (.own 3 0 (v11).length),lks [.no, .no, .no, .live [⟨121,2, .data (List.map bU v11)⟩]]⟩ ?_ ?_
 refine sq [0] (pa (nx (aE ?_)))
 refine aY (fun s7 => ⟨aA (aA (aA (aA ((fun _ => .dead)) 5 (.own 3 0 (v1).length)) 6 (.own 4 0 (v2).length)) 7 (.own 5 0 (s7.2).length)) 8 (dI s7.1),lks [.no, .no, .no, .live [⟨2,1, .data (List.map cI v1)⟩], .live [⟨2,1, .data (List.map cI v2)⟩], .live [⟨121,2, .data (List.map bU s7.2)⟩]]⟩) h1 ?_ (fun s7 y h2 => ?_)
 exact wk [0,1,2,3,4,5]
 refine aB (sq [0,1,2,3] (pm ?_))
 refine rP rfl (aL (r := .own _ _ _) rfl) (rL rfl (nG tok rfl rfl rfl rfl rfl) (rP rfl (bB rfl rfl) (nx ?_)))
 refine bC h2 rfl (fun hc h2 => ?_) (fun hc h2 => ?_)
 refine sk (aB (aE (aI (is := [0,1,2,3,4,5,6,7,8,9,10,11,12,13,14,15,16]) [0,0,0,4,12,0,60,126,254,0,0,1536,3584,8190,16382,32767,65535] follows (by kernel_rfl) ?_)))
 iterate 3 refine tP rfl (aL (r := .own _ _ _) rfl) ?_
 refine dT rfl w0 rfl (nG tok rfl rfl rfl rfl rfl) rfl rfl rfl (tP rfl (iX rfl rfl) (tpm ?_))
 refine tP rfl (iX rfl rfl) ?_
 obtain ⟨v8,hv8,h2⟩ := bnd h2
 refine dT rfl w0 rfl (jB tok hv8 rfl rfl rfl rfl rfl rfl rfl rfl) rfl rfl rfl (dT rfl w0 rfl (oN tok (eB hv8).2.1 rfl rfl rfl rfl rfl rfl) rfl rfl rfl (tP rfl (aL (r := .own _ _ _) rfl) (tpm ?_)))
 obtain ⟨v9,hv9,h2⟩ := bnd h2
 refine dT rfl w0 rfl (jB tok hv9 rfl rfl rfl rfl rfl rfl rfl rfl) rfl rfl rfl (dT rfl w0 rfl (oN tok (eB hv9).2.1 rfl rfl rfl rfl rfl rfl) rfl rfl rfl (tP rfl (pbl (C0 := [z0,z0]) tok rfl rfl rfl) (aPv rfl w0 rfl (tK tok bU [(⟨v8,v9⟩ : bL)] rfl rfl rfl (by repeat (first | exact Els.nil _ | apply Els.cons (cs := [.d _]) rfl rfl rfl | apply Els.cons (cs := _ :: _) rfl rfl rfl)) rfl rfl rfl (by repeat (first | exact dG.nil | (apply dG.cons; (repeat (first | exact iZ.nil | apply iZ.cons))))) rfl) ?_)))
 obtain ⟨hq10,h2⟩ := cR h2
 refine wP rfl w0 rfl (gZ tok hq10 rfl rfl rfl rfl rfl rfl rfl rfl rfl rfl rfl rfl (fun _ => rfl)) (tP rfl (aS (r := .own _ _ _) rfl) (bY ?_))
 refine ⟨by kernel_rfl,?_⟩
 refine aZ (aF (sr [0,1,2] (pm ?_)))
 refine rP rfl (bD rfl rfl) (pa (aV ?_))
 refine bX ?_
 cases h2
 refine ⟨_,rfl,?_⟩
 exact wk [0,1,2,3,4,5]
 refine bH (cC ?_)
 cases h2
 refine cA ⟨_,rfl,fun e => ?_⟩
 subst e
 refine aR (aF ?_)
 exact wk [0,1,2,5]
 refine sq [0,1] (rP rfl (aL (r := .own _ _ _) rfl) (rP rfl (aS (r := .own _ _ _) rfl) (nx (aC ?_))))
 cases h0
 exact fO (rs := [.tmp 4]) [3] rfl
theorem aA7 {p0 : List bL} {r : Int} (h0 : mH p0 = some r) : FnC Tryz.prog 300 [] [dL bU p0] [] (dI r) := by
 refine fi 25 tok Tryz.func300 ?_
 unfold mH at h0
 refine sq [0] (pa (nx (sq [0] ?_)))
 refine pa (nx ?_)
 obtain ⟨v7,h1,h0⟩ := bnd h0
 refine bF ⟨aA ((fun _ => .dead)) 3 (dI v7),lks [.no, .no, .no]⟩ ?_ ?_
 refine sq [0] (pa (nx (aE ?_)))
 refine aY (fun s4 => ⟨aA (aA (aA ((fun _ => .dead)) 0 (dL bU p0)) 3 (dI s4.1)) 4 (dI s4.2),lks [.no, .no, .no]⟩) h1 ?_ (fun s4 y h2 => ?_)
 exact wk [0,1,2]
 refine aB (sq [0,1,2,3] (pm ?_))
 refine pm ?_
 refine rP rfl (aK tok rfl rfl rfl) (rP rfl (bB rfl rfl) (nx ?_))
 refine bC h2 rfl (fun hc h2 => ?_) (fun hc h2 => ?_)
 refine sk (aB (aE (aI (is := [0,1,2,3,4,5,6,7,8,9,10,11,12,13]) [0,0,0,6,14,30,0,0,192,448,960,2046,4095,8191] follows (by kernel_rfl) ?_)))
 iterate 3 refine tpm ?_
 obtain ⟨v5,hv5,h2⟩ := bnd h2
 refine tP rfl (cG tok hv5 rfl rfl rfl rfl rfl rfl) (tfr tok ?_)
 refine tlr tok ?_
 refine tpm ?_
 refine tpm ?_
 obtain ⟨v6,hv6,h2⟩ := bnd h2
 refine tP rfl (cG tok hv6 rfl rfl rfl rfl rfl rfl) (tfr tok ?_)
 refine tlr tok ?_
 refine tP rfl (bD rfl rfl) (tP rfl (bD rfl rfl) (tpa ?_))
 refine bY ?_
 refine ⟨by kernel_rfl,?_⟩
 refine aZ (aF (sr [0,1,2] (pm ?_)))
 refine rP rfl (bD rfl rfl) (pa (aV ?_))
 refine bX ?_
 cases h2
 refine ⟨_,rfl,?_⟩
 exact wk [0,1,2]
 refine bH (cC ?_)
 cases h2
 refine cA ⟨_,rfl,fun e => ?_⟩
 subst e
 refine aR (aF ?_)
 exact wk [0,1,2]
 refine sq [0,1] (pm ?_)
 refine pa (nx (aC ?_))
 cases h0
 exact r0t 2 rfl
theorem sM {p0 : Int} {r : aM} (h0 : kK p0 = some r) : FnC Tryz.prog 251 [] [dI p0] [] (.agg [dI r.Num,(dI r.Den)]) := by
 refine fi 5 tok Tryz.func251 ?_
 unfold kK at h0
 refine sq [0] (al 3 [z0,z0] tok (nx (sq [0,1,2] ?_)))
 refine pm ?_
 refine rP rfl (pbl (C0 := [z0,z0]) tok rfl rfl rfl) (bst tok (nx (aC ?_)))
 cases h0
 exact fR (rs := [.cell 2 62]) rfl
theorem aAr {p0 : aM} {p1 : aM} {r : Int} (h0 : pX p0 p1 = some r) : FnC Tryz.prog 301 [] [.agg [dI p0.Num,(dI p0.Den)], .agg [dI p1.Num,(dI p1.Den)]] [] (dI r) := by
 refine fi 25 tok Tryz.func301 ?_
 unfold pX at h0
 refine sq [0,1,2] (bxx 3 ?_)
 refine bxx 4 ?_
 refine pa (nx (sq [0,1,2,3,4,5] ?_))
 refine fa tok ?_
 refine ld tok ?_
 refine fa tok ?_
 refine ld tok ?_
 refine rP rfl (eH rfl rfl) (pa (nx (sq [0,1,2,3,4,5] ?_)))
 refine fa tok ?_
 refine ld tok ?_
 refine fa tok ?_
 refine ld tok ?_
 refine rP rfl (eH rfl rfl) (pa (nx (aB (aE (sq [0,1,2,3] ?_)))))
 refine pm ?_
 refine pm ?_
 refine rP rfl (bB rfl rfl) (pa (nx ?_))
 refine bC h0 rfl (fun hc h0 => ?_) (fun hc h0 => ?_)
 refine sq [0] (pa (nx (aC ?_)))
 refine bA (aJ ?_)
 cases h0
 exact r0t 4 rfl
 refine sq [0,1,2,3] (pm ?_)
 refine pm ?_
 refine rP rfl (gT rfl rfl) (pa (nx ?_))
 refine bC h0 rfl (fun hc h0 => ?_) (fun hc h0 => ?_)
 refine sq [0] (pa (nx (aC ?_)))
 refine bA (aJ ?_)
 cases h0
 exact r0t 4 rfl
 refine cT (aZ (aF (sq [0] (pa (nx (aC ?_))))))
 cases h0
 exact r0t 4 rfl
theorem aAx {p0 : List bL} {p1 : List bL} {r : Int} (h0 : kC p0 p1 = some r) : FnC Tryz.prog 285 [] [dL bU p0,(dL bU p1)] [] (dI r) := by
 refine fi 91 tok Tryz.func285 ?_
 unfold kC at h0
 refine sq [0] (pa (nx (sq [0,1,2,3] ?_)))
 refine pm ?_
 obtain ⟨v1,hv1,h0⟩ := bnd h0
 refine rS rfl (aQ 3 (aA7 hv1) rfl rfl rfl) (rS rfl (qI 3 tok cI [v1] rfl rfl rfl (by repeat (first | exact Els.nil _ | apply Els.cons (cs := [.d _]) rfl rfl rfl | apply Els.cons (cs := _ :: _) rfl rfl rfl)) rfl rfl rfl (by repeat (first | exact dG.nil | (apply dG.cons; (repeat (first | exact iZ.nil | apply iZ.cons))))) rfl rfl) (rP rfl (aS (r := .own _ _ _) rfl) (nx (sq [0,1,2,3] (pm ?_)))))
 obtain ⟨v2,hv2,h0⟩ := bnd h0
 refine rS rfl (aQ 4 (aA7 hv2) rfl rfl rfl) (rS rfl (qI 4 tok cI [v2] rfl rfl rfl (by repeat (first | exact Els.nil _ | apply Els.cons (cs := [.d _]) rfl rfl rfl | apply Els.cons (cs := _ :: _) rfl rfl rfl)) rfl rfl rfl (by repeat (first | exact dG.nil | (apply dG.cons; (repeat (first | exact iZ.nil | apply iZ.cons))))) rfl rfl) (rP rfl (aS (r := .own _ _ _) rfl) (nx ?_)))
 obtain ⟨v11,h1,h0⟩ := bnd h0
 refine bF ⟨aA (aA (aA ((fun _ => .dead)) 1 (dL bU p1)) 5 (.own 3 0 (v11).length)) 6 (.own 4 0 ([v2]).length),lks [.no, .no, .no, .live [⟨2,1, .data (List.map cI v11)⟩], .live [⟨2,1, .data (List.map cI [v2])⟩]]⟩ ?_ ?_
 refine sq [0] (pa (nx (aE ?_)))
 refine aY (fun s7 => ⟨aA (aA (aA (aA (aA ((fun _ => .dead)) 0 (dL bU p0)) 1 (dL bU p1)) 5 (.own 3 0 (s7.2).length)) 6 (.own 4 0 ([v2]).length)) 7 (dI s7.1),lks [.no, .no, .no, .live [⟨2,1, .data (List.map cI s7.2)⟩], .live [⟨2,1, .data (List.map cI [v2])⟩]]⟩) h1 ?_ (fun s7 y h2 => ?_)
 exact wk [0,1,2,3,4]
 refine aB (sq [0,1,2,3] (pm ?_))
 refine pm ?_
 refine rP rfl (aK tok rfl rfl rfl) (rP rfl (bB rfl rfl) (nx ?_))
 refine bC h2 rfl (fun hc h2 => ?_) (fun hc h2 => ?_)
 refine sk (aB (aE (aI (is := [0,1,2,3,4,5,6,7,8,9,10,11,12,13]) [0,0,0,6,14,30,0,0,192,448,960,2046,4095,8191] follows (by kernel_rfl) (tP rfl (aL (r := .own _ _ _) rfl) (tpm ?_)))))
 refine tpm ?_
 obtain ⟨v8,hv8,h2⟩ := bnd h2
 refine tP rfl (cG tok hv8 rfl rfl rfl rfl rfl rfl) (tfr tok ?_)
 refine tlr tok ?_
 refine tpm ?_
 refine tpm ?_
 obtain ⟨v9,hv9,h2⟩ := bnd h2
 refine tP rfl (cG tok hv9 rfl rfl rfl rfl rfl rfl) (tfr tok ?_)
 refine tlr tok ?_
 refine aPv rfl w0 rfl (tK tok cI [v8.Driver,v9.Driven] rfl rfl rfl (by repeat (first | exact Els.nil _ | apply Els.cons (cs := [.d _]) rfl rfl rfl | apply Els.cons (cs := _ :: _) rfl rfl rfl)) rfl rfl rfl (by repeat (first | exact dG.nil | (apply dG.cons; (repeat (first | exact iZ.nil | apply iZ.cons))))) rfl) ?_
 obtain ⟨hq10,h2⟩ := cR h2
 refine wP rfl w0 rfl (gZ tok hq10 rfl rfl rfl rfl rfl rfl rfl rfl rfl rfl rfl rfl (fun _ => rfl)) (tP rfl (aS (r := .own _ _ _) rfl) (bY ?_))
 refine ⟨by kernel_rfl,?_⟩
 refine aZ (aF (sr [0,1,2] (pm ?_)))
 refine rP rfl (bD rfl rfl) (pa (aV ?_))
 refine bX ?_
 cases h2
 refine ⟨_,rfl,?_⟩
 exact wk [0,1,2,3,4]
 refine bH (cC ?_)
 cases h2
 refine cA ⟨_,rfl,fun e => ?_⟩
 subst e
 refine aR (aF ?_)
 exact wk [0,1,2,3,4]
 obtain ⟨v20,h1,h0⟩ := bnd h0
 refine bF ⟨aA (aA ((fun _ => .dead)) 5 (.own 3 0 (v11).length)) 6 (.own 4 0 (v20).length),lks [.no, .no, .no, .live [⟨2,1, .data (List.map cI v11)⟩], .live [⟨2,1, .data (List.map cI v20)⟩]]⟩ ?_ ?_
 refine sq [0] (pa (nx (aE ?_)))
 refine aY (fun s16 => ⟨aA (aA (aA (aA ((fun _ => .dead)) 1 (dL bU p1)) 5 (.own 3 0 (v11).length)) 6 (.own 4 0 (s16.2).length)) 8 (dI s16.1),lks [.no, .no, .no, .live [⟨2,1, .data (List.map cI v11)⟩], .live [⟨2,1, .data (List.map cI s16.2)⟩]]⟩) h1 ?_ (fun s16 y h2 => ?_)
 exact wk [0,1,2,3,4]
 refine aB (sq [0,1,2,3] (pm ?_))
 refine pm ?_
 refine rP rfl (aK tok rfl rfl rfl) (rP rfl (bB rfl rfl) (nx ?_))
 refine bC h2 rfl (fun hc h2 => ?_) (fun hc h2 => ?_)
 refine sk (aB (aE (aI (is := [0,1,2,3,4,5,6,7,8,9,10,11,12,13]) [0,0,0,6,14,30,0,0,192,448,960,2046,4095,8191] follows (by kernel_rfl) (tP rfl (aL (r := .own _ _ _) rfl) (tpm ?_)))))
 refine tpm ?_
 obtain ⟨v17,hv17,h2⟩ := bnd h2
 refine tP rfl (cG tok hv17 rfl rfl rfl rfl rfl rfl) (tfr tok ?_)
 refine tlr tok ?_
 refine tpm ?_
 refine tpm ?_
 obtain ⟨v18,hv18,h2⟩ := bnd h2
 refine tP rfl (cG tok hv18 rfl rfl rfl rfl rfl rfl) (tfr tok ?_)
 refine tlr tok ?_
 refine aPv rfl w0 rfl (tK tok cI [v17.Driver,v18.Driven] rfl rfl rfl (by repeat (first | exact Els.nil _ | apply Els.cons (cs := [.d _]) rfl rfl rfl | apply Els.cons (cs := _ :: _) rfl rfl rfl)) rfl rfl rfl (by repeat (first | exact dG.nil | (apply dG.cons; (repeat (first | exact iZ.nil | apply iZ.cons))))) rfl) ?_
 obtain ⟨hq19,h2⟩ := cR h2
 refine wP rfl w0 rfl (gZ tok hq19 rfl rfl rfl rfl rfl rfl rfl rfl rfl rfl rfl rfl (fun _ => rfl)) (tP rfl (aS (r := .own _ _ _) rfl) (bY ?_))
 refine ⟨by kernel_rfl,?_⟩
 refine aZ (aF (sr [0,1,2] (pm ?_)))
 refine rP rfl (bD rfl rfl) (pa (aV ?_))
 refine bX ?_
 cases h2
 refine ⟨_,rfl,?_⟩
 exact wk [0,1,2,3,4]
 refine bH (cC ?_)
 cases h2
 refine cA ⟨_,rfl,fun e => ?_⟩
 subst e
 refine aR (aF ?_)
 exact wk [0,1,2,3,4]
 obtain ⟨v33x,h1,h0⟩ := bnd h0
 refine eL v33x (fun v33 => ⟨aA (aA ((fun _ => .dead)) 5 (.own 3 0 (v11).length)) 6 (.own 4 0 (v20).length),lks [.no, .no, .no, .live [⟨2,1, .data (List.map cI v11)⟩], .live [⟨2,1, .data (List.map cI v20)⟩]]⟩) ?_ ?_
 refine sq [0] (pa (nx (aE ?_)))
 refine aY (fun s27 => ⟨aA (aA (aA ((fun _ => .dead)) 5 (.own 3 0 (v11).length)) 6 (.own 4 0 (v20).length)) 9 (dI s27),lks [.no, .no, .no, .live [⟨2,1, .data (List.map cI v11)⟩], .live [⟨2,1, .data (List.map cI v20)⟩]]⟩) h1 ?_ (fun s27 y h2 => ?_)
 exact wk [0,1,2,3,4]
 refine aB ?_
 obtain ⟨v28,h3,h2⟩ := bnd h2
 refine bF ⟨aA (aA (aA (aA ((fun _ => .dead)) 5 (.own 3 0 (v11).length)) 6 (.own 4 0 (v20).length)) 9 (dI s27)) 63 (dB v28),lks [.no, .no, .no, .live [⟨2,1, .data (List.map cI v11)⟩], .live [⟨2,1, .data (List.map cI v20)⟩]]⟩ ?_ ?_
 refine sr [0,1,2,3,4,5,6,7,8,9] (pm ?_)
 refine rP rfl (aL (r := .own _ _ _) rfl) (rL rfl (nG tok rfl rfl rfl rfl rfl) (rP rfl (bB rfl rfl) (pm ?_)))
 refine jW (u := 58) h3 rfl (fun hc h3 => ?_) (fun hc h3 => ?_)
 refine pm1 ?_
 refine rp rfl (w1 rfl rfl rfl) rfl (aL (r := .own _ _ _) rfl) (rl rfl (w1 rfl rfl rfl) rfl (nG tok rfl rfl rfl rfl rfl) (rp rfl (w1 rfl rfl rfl) rfl (bB rfl rfl) (pkt (nx ?_))))
 cases h3
 exact wk [0,1,2,3,4]
 iterate 4 refine k1 ?_
 refine pkf (nx ?_)
 cases h3
 exact wk [0,1,2,3,4]
 refine bZ h2 rfl (fun hc h2 => ?_) (fun hc h2 => ?_)
 refine sk (aB (aE (aB (aB (aI (is := [0,1,2,3,4,5,6,7,8]) [0,0,3,7,0,0,48,112,255] follows (by kernel_rfl) (tP rfl (aL (r := .own _ _ _) rfl) (tpm ?_)))))))
 obtain ⟨v29,hv29,h2⟩ := bnd h2
 refine dT rfl w0 rfl (jB tok hv29 rfl rfl rfl rfl rfl rfl rfl rfl) rfl rfl rfl (dT rfl w0 rfl (oN tok (eB hv29).2.1 rfl rfl rfl rfl rfl rfl) rfl rfl rfl (tP rfl (aL (r := .own _ _ _) rfl) (tpm ?_)))
 obtain ⟨v30,hv30,h2⟩ := bnd h2
 refine dT rfl w0 rfl (jB tok hv30 rfl rfl rfl rfl rfl rfl rfl rfl) rfl rfl rfl (dT rfl w0 rfl (oN tok (eB hv30).2.1 rfl rfl rfl rfl rfl rfl) rfl rfl rfl (tP rfl (bB rfl rfl) (bY ?_)))
 refine ⟨by kernel_rfl,?_⟩
 refine aF ?_
 refine bC h2 rfl (fun hc h2 => ?_) (fun hc h2 => ?_)
 refine sq [0] (pa (nx (aC (aJ ?_))))
 refine bA (aJ ?_)
 cases h2
 refine dZ ⟨_,rfl,fun e => ?_⟩
 subst e
 refine bA ?_
 replace h0 := gU h0
 refine aJ ?_
 cases h0
 exact r0t 4 rfl
 refine sk (aB (aI (is := [0,1,2,3,4,5,6,7,8]) [0,0,3,7,0,0,48,112,255] follows (by kernel_rfl) (tP rfl (aL (r := .own _ _ _) rfl) (tpm ?_))))
 obtain ⟨v31,hv31,h2⟩ := bnd h2
 refine dT rfl w0 rfl (jB tok hv31 rfl rfl rfl rfl rfl rfl rfl rfl) rfl rfl rfl (dT rfl w0 rfl (oN tok (eB hv31).2.1 rfl rfl rfl rfl rfl rfl) rfl rfl rfl (tP rfl (aL (r := .own _ _ _) rfl) (tpm ?_)))
 obtain ⟨v32,hv32,h2⟩ := bnd h2
 refine dT rfl w0 rfl (jB tok hv32 rfl rfl rfl rfl rfl rfl rfl rfl) rfl rfl rfl (dT rfl w0 rfl (oN tok (eB hv32).2.1 rfl rfl rfl rfl rfl rfl) rfl rfl rfl (tP rfl (gT rfl rfl) (bY ?_)))
 refine ⟨by kernel_rfl,?_⟩
 refine aF ?_
 refine bC h2 rfl (fun hc h2 => ?_) (fun hc h2 => ?_)
 refine sq [0] (pa (nx (aC ?_)))
 refine bA (aJ ?_)
 cases h2
 refine dZ ⟨_,rfl,fun e => ?_⟩
 subst e
 refine bA ?_
 replace h0 := gU h0
 refine aJ ?_
 cases h0
 exact r0t 4 rfl
 refine cT (aZ (aF (sr [0,1,2] (pm ?_))))
 refine rP rfl (bD rfl rfl) (pa (aV ?_))
 refine bX ?_
 cases h2
 refine ⟨_,rfl,?_⟩
 exact wk [0,1,2,3,4]
 refine bH (cC ?_)
 cases h2
 refine cA ⟨_,rfl,fun e => ?_⟩
 subst e
 refine aR (aF ?_)
 refine ⟨_,rfl,?_⟩
 exact wk [0,1,2,3,4]
 rintro v33 rfl
 replace h0 := nN h0
 refine sq [0,1,2,3,4,5,6,7] (rP rfl (aL (r := .own _ _ _) rfl) (rL rfl (nG tok rfl rfl rfl rfl rfl) ?_))
 obtain ⟨v34,hv34,h0⟩ := bnd h0
 refine rS rfl (aQ 5 (sM hv34) rfl rfl rfl) (rP rfl (aL (r := .own _ _ _) rfl) (rL rfl (nG tok rfl rfl rfl rfl rfl) ?_))
 obtain ⟨v35,hv35,h0⟩ := bnd h0
 refine rS rfl (aQ 5 (sM hv35) rfl rfl rfl) ?_
 obtain ⟨v36,hv36,h0⟩ := bnd h0
 refine rS rfl (aQ 5 (aAr hv36) rfl rfl rfl) (pa (nx (aC ?_)))
 cases h0
 exact r0t 4 rfl
theorem rR {p0 : dO} {p1 : aM} {p2 : aP} {p3 : aP} {r : dO} (h0 : fX p0 p1 p2 p3 = some r) : FnC Tryz.prog 275 [.live [⟨304,4, .av [[dI p0.driver,(dI p0.driven),(dI p0.off),(dL bU p0.train)]]⟩]] [.ptr 0 0 1 0 0, .agg [dI p1.Num,(dI p1.Den)], .ref (aN p2), .ref (aN p3)] [.live [⟨304,4, .av [[dI r.driver,(dI r.driven),(dI r.off),(dL bU r.train)]]⟩]] (.tup []) := by
 refine fi 105 tok Tryz.func275 ?_
 unfold fX at h0
 refine sq [0] (bxx 3 (nx (aB ?_)))
 refine aI (is := [0,1,2,3,4,5,6,7,8,9,10,11,12,13,14,15,16]) [0,1,3,7,0,16,63,0,128,384,896,0,2048,8064,16383,32767,65535] follows (by kernel_rfl) (aDf ?_)
 refine tnr ?_
 refine tfr tok ?_
 refine tlr tok ?_
 refine tfa tok ?_
 refine tld tok ?_
 refine tP rfl (eH rfl rfl) (aDf ?_)
 refine tnr ?_
 refine tfr tok ?_
 refine tlr tok ?_
 refine tfa tok ?_
 refine tld tok ?_
 refine tP rfl (eH rfl rfl) (tP rfl (iX rfl rfl) ?_)
 obtain ⟨v1,hv1,h0⟩ := bnd h0
 refine oH rfl w0 rfl (dJ 4 (rD hv1) rfl rfl rfl) (tpa ?_)
 refine bY ?_
 refine ⟨by kernel_rfl,?_⟩
 refine aF (sq [0,1,2,3,4,5,6] (pm ?_))
 refine rP rfl (aL (r := .ptr _ _ _ _ _) rfl) (rL rfl (tU rfl rfl) (fa tok ?_))
 refine ld tok ?_
 refine rP rfl (eH rfl rfl) (pa (nx (aB ?_)))
 refine aI (is := [0,1,2,3,4,5,6,7,8,9]) [0,1,3,7,0,16,48,112,255,511] follows (by kernel_rfl) (tP rfl (aL (r := .ptr _ _ _ _ _) rfl) (dT rfl w0 rfl (tU rfl rfl) rfl rfl rfl (tfa tok ?_)))
 refine tld tok ?_
 refine aDf ?_
 refine tnr ?_
 refine tfr tok ?_
 refine tlr tok ?_
 refine tP rfl (eH rfl rfl) (tpa ?_)
 refine bY ?_
 refine ⟨by kernel_rfl,?_⟩
 refine aF (aB ?_)
 obtain ⟨v2,h1,h0⟩ := bnd h0
 refine bF ⟨aA (aA (aA (aA (aA (aA (aA ((fun _ => .dead)) 0 (.ptr 0 0 1 0 0)) 2 (.ref (aN p2))) 3 (.ref (aN p3))) 8 (dI v1)) 9 (dI (w64 (v1 * p0.driven)))) 10 (dI (w64 (p0.off * p3.value)))) 53 (dB v2),lks [.live [⟨304,4, .av [[dI p0.driver,(dI p0.driven),(dI p0.off),(dL bU p0.train)]]⟩], .no, .no]⟩ ?_ ?_
 refine sr [0,1,2,3,4,5,6,7,8,9,10] (rP rfl (aL (r := .ptr _ _ _ _ _) rfl) (rL rfl (tU rfl rfl) (fa tok ?_)))
 refine ld tok ?_
 refine rP rfl (aK tok rfl rfl rfl) (rP rfl (gT rfl rfl) (pm ?_))
 refine jW (u := 49) h1 rfl (fun hc h1 => ?_) (fun hc h1 => ?_)
 refine pm1 ?_
 refine pm1 ?_
 refine rp rfl (w1 rfl rfl rfl) rfl (gT rfl rfl) (pkt (nx ?_))
 cases h1
 exact wk [0,1,2]
 iterate 3 refine k1 ?_
 refine pkf (nx ?_)
 cases h1
 exact wk [0,1,2]
 refine bZ h0 rfl (fun hc h0 => ?_) (fun hc h0 => ?_)
 refine aC (aJ ?_)
 cases h0
 exact xM (rs := []) 1 rfl rfl
 refine sk (aB (aI (is := [0,1,2,3,4,5,6,7,8,9]) [0,1,3,7,0,16,48,112,255,511] follows (by kernel_rfl) (aDf ?_)))
 refine tnr ?_
 refine tfr tok ?_
 refine tlr tok ?_
 refine aDf ?_
 refine tnr ?_
 refine tfr tok ?_
 refine tlr tok ?_
 obtain ⟨v3,hv3,h0⟩ := bnd h0
 refine oH rfl w0 rfl (dJ 3 (aDv hv3) rfl rfl rfl) (tP rfl (aS (r := .own _ _ _) rfl) (bY ?_))
 refine ⟨by kernel_rfl,?_⟩
 refine aF ?_
 obtain ⟨v5,h1,h0⟩ := bnd h0
 refine bF ⟨aA (aA (aA (aA (aA (aA ((fun _ => .dead)) 0 (.ptr 0 0 1 0 0)) 2 (.ref (aN p2))) 3 (.ref (aN p3))) 8 (dI v1)) 11 (.own 3 0 (v3).length)) 82 (dB v5),lks [.live [⟨304,4, .av [[dI p0.driver,(dI p0.driven),(dI p0.off),(dL bU p0.train)]]⟩], .no, .no, .live [⟨121,2, .data (List.map bU v3)⟩]]⟩ ?_ ?_
 refine sr [0,1,2,3,4,5,6,7,8,9,10,11,12,13,14,15,16,17,18,19] (rP rfl (aL (r := .ptr _ _ _ _ _) rfl) (rL rfl (tU rfl rfl) (fa tok ?_)))
 refine ld tok ?_
 refine rP rfl (aK tok rfl rfl rfl) (rP rfl (nD rfl rfl) (pm ?_))
 refine jW (u := 69) h1 rfl (fun hc h1 => ?_) (fun hc h1 => ?_)
 iterate 3 refine k1 ?_
 refine pkt ?_
 refine pm ?_
 iterate 7 refine k1 ?_
 refine pkt (nx ?_)
 cases h1
 exact wk [0,1,2,3]
 refine pm1 ?_
 refine pm1 ?_
 refine rp rfl (w1 rfl rfl rfl) rfl (bB rfl rfl) (pkf ?_)
 refine pm ?_
 refine jW (u := 74) h1 rfl (fun hc h1 => ?_) (fun hc h1 => ?_)
 iterate 7 refine k1 ?_
 refine pkt (nx ?_)
 cases h1
 exact wk [0,1,2,3]
 refine rp rfl (w1 rfl rfl rfl) rfl (aL (r := .own _ _ _) rfl) (rp rfl (w1 rfl rfl rfl) rfl (aL (r := .ptr _ _ _ _ _) rfl) (rl rfl (w1 rfl rfl rfl) rfl (tU rfl rfl) (fa1 tok ?_)))
 refine ld1 tok ?_
 obtain ⟨v4,hv4,h1⟩ := bnd h1
 refine rs rfl (w1 rfl rfl rfl) rfl (fU 4 (aAx hv4) rfl rfl) (rp rfl (w1 rfl rfl rfl) rfl (bB rfl rfl) (pkf (nx ?_)))
 cases h1
 exact wk [0,1,2,3]
 refine bZ h0 rfl (fun hc h0 => ?_) (fun hc h0 => ?_)
 refine sq [0,1,2,3,4,5,6,7] (rP rfl (aL (r := .ptr _ _ _ _ _) rfl) (pmr ?_))
 refine nr ?_
 refine fr tok ?_
 refine lr tok ?_
 refine rL rfl (tU rfl rfl) (fa tok ?_)
 refine bs1 tok (nx (sq [0,1,2,3,4,5,6,7] ?_))
 refine rP rfl (aL (r := .ptr _ _ _ _ _) rfl) (pmr ?_)
 refine nr ?_
 refine fr tok ?_
 refine lr tok ?_
 refine rL rfl (tU rfl rfl) (fa tok ?_)
 refine bs1 tok (nx (sq [0,1,2,3,4] ?_))
 refine rP rfl (aL (r := .ptr _ _ _ _ _) rfl) (pm ?_)
 refine rL rfl (tU rfl rfl) (fa tok ?_)
 refine bs1 tok (nx (sr [0,1,2,3,4] ?_))
 refine rP rfl (aL (r := .ptr _ _ _ _ _) rfl) (rP rfl (aL (r := .own _ _ _) rfl) (rL rfl (tU rfl rfl) (fa tok ?_)))
 refine jV (xX (k := 3) (t' := aA (aA ((fun _ => .dead)) 102 (dL bU v3)) 104 (.ptr 0 0 1 0 3)) rfl (FzL.nil)) (bs1 tok (aV ?_))
 cases h0
 exact xM (rs := []) 1 rfl rfl
 refine cT ?_
 cases h0
 exact xM (rs := []) 1 rfl rfl
theorem aBv {p0 : aM} {p1 : gG} {r : List bL} (h0 : jR p0 p1 = some r) : FnC Tryz.prog 241 [] [.agg [dI p0.Num,(dI p0.Den)], .ref (xW p1)] [] (dL bU r) := by
 refine fi 129 tok Tryz.func241 ?_
 unfold jR at h0
 refine sq [0,1] (bxx 3 ?_)
 refine pa (nx (aB ?_))
 refine aI (is := [0,1,2,3,4,5,6,7,8,9,10,11,12,13]) [0,1,3,7,0,16,48,112,0,256,768,1792,4095,8191] follows (by kernel_rfl) (aDf ?_)
 refine tnr ?_
 refine tfr tok ?_
 refine tlr tok ?_
 refine aDf ?_
 refine tnr ?_
 refine tfr tok ?_
 refine tlr tok ?_
 refine aDf ?_
 refine tnr ?_
 refine tfr tok ?_
 refine tlr tok ?_
 obtain ⟨v1,hv1,h0⟩ := bnd h0
 refine oH rfl w0 rfl (dJ 4 (sF hv1) rfl rfl rfl) (tpa ?_)
 refine bY ?_
 refine ⟨by kernel_rfl,?_⟩
 refine aF (aB (aI (is := [0,1,2,3,4,5,6,7,8,9,10,11,12,13,14]) [0,1,3,7,0,16,48,112,0,256,768,1792,4095,8191,16383] follows (by kernel_rfl) (aDf ?_)))
 refine tnr ?_
 refine tfr tok ?_
 refine tlr tok ?_
 refine aDf ?_
 refine tnr ?_
 refine tfr tok ?_
 refine tlr tok ?_
 refine aDf ?_
 refine tnr ?_
 refine tfr tok ?_
 refine tlr tok ?_
 obtain ⟨v2,hv2,h0⟩ := bnd h0
 refine oH rfl w0 rfl (dJ 4 (sF hv2) rfl rfl rfl) ?_
 obtain ⟨v3,hv3,h0⟩ := bnd h0
 refine oH rfl w0 rfl (dJ 4 (aG2 hv3) rfl rfl rfl) (tpa ?_)
 refine bY ?_
 refine ⟨by kernel_rfl,?_⟩
 refine aF (sq [0,1,2] (rP rfl (pbl (C0 := [z0,z0,z0,zl]) tok rfl rfl rfl) (bxx 4 ?_)))
 refine jV (vR 5 rfl 121 2 (kb := 4) (j := 3) rfl rfl (by repeat (first | exact Spl.z _ | apply Spl.t | apply Spl.d))) (jV (xX (k := 5) (t' := aA (aA (aA (aA (aA ((fun _ => .dead)) 2 (.ptr 3 0 1 0 0)) 5 (dL aN v1)) 6 (dL aN v3)) 41 (.agg [z0,z0,z0,zl])) 42 (.ptr 4 0 1 0 0)) rfl (FzL.box (kb := 4) (ds := [z0,z0,z0,(dL bU ([] : List bL))]) rfl rfl (by repeat (first | exact qA.nil | apply qA.cons | exact FzR.d _ | exact FzR.own rfl (by first | rfl | (simp; done) | (simp; omega)) | exact FzR.ptr rfl (by repeat (first | exact Drp.z _ | apply Drp.d)) | exact FzR.own' | exact FzR.ptr' | exact FzR.ref _ | apply FzR.agg | apply FzR.tup | apply FzR.fn | exact FzR.dead _)) (FzL.nil))) (rP rfl (aS (r := .ptr _ _ _ _ _) rfl) (nx ?_)))
 obtain ⟨v70,h1,h0⟩ := bnd h0
 refine bF ⟨aA ((fun _ => .dead)) 7 (.ptr 3 0 1 0 0),lks [.no, .no, .no, .live [⟨304,4, .av [[dI v70.driver,(dI v70.driven),(dI v70.off),(dL bU v70.train)]]⟩]]⟩ ?_ ?_
 refine sq [0] (pa (nx (aE ?_)))
 refine aY (fun s37 => ⟨aA (aA (aA (aA (aA ((fun _ => .dead)) 2 (.ptr 3 0 1 0 0)) 5 (dL aN v1)) 6 (dL aN v3)) 7 (.ptr 4 0 1 0 0)) 8 (dI s37.1),lks [.no, .no, .no, .live [⟨62,2, .av [[dI p0.Num,(dI p0.Den)]]⟩], .live [⟨304,4, .av [[dI s37.2.driver,(dI s37.2.driven),(dI s37.2.off),(dL bU s37.2.train)]]⟩]]⟩) h1 ?_ (fun s37 y h2 => ?_)
 exact wk [0,1,2,3,4]
 refine aB (sq [0,1,2,3] (pm ?_))
 refine pm ?_
 refine rP rfl (aK tok rfl rfl rfl) (rP rfl (bB rfl rfl) (nx ?_))
 refine bC h2 rfl (fun hc h2 => ?_) (fun hc h2 => ?_)
 refine sk ?_
 obtain ⟨v69,h3,h2⟩ := bnd h2
 refine bF ⟨aA (aA (aA (aA (aA ((fun _ => .dead)) 2 (.ptr 3 0 1 0 0)) 5 (dL aN v1)) 6 (dL aN v3)) 7 (.ptr 4 0 1 0 0)) 8 (dI s37.1),lks [.no, .no, .no, .live [⟨62,2, .av [[dI p0.Num,(dI p0.Den)]]⟩], .live [⟨304,4, .av [[dI v69.driver,(dI v69.driven),(dI v69.off),(dL bU v69.train)]]⟩]]⟩ ?_ ?_
 refine aE (aB (aI (is := [0,1,2,3,4,5,6,7,8,9,10,11]) [0,0,3,7,15,0,32,127,0,256,1023,2047] follows (by kernel_rfl) (tpm ?_)))
 refine tpm ?_
 obtain ⟨v38,hv38,h3⟩ := bnd h3
 refine tP rfl (cG tok hv38 rfl rfl rfl rfl rfl rfl) (tfr tok ?_)
 refine tlr tok ?_
 refine tfa tok ?_
 refine tld tok ?_
 refine tP rfl (eH rfl rfl) (tfa tok ?_)
 refine tld tok ?_
 obtain ⟨hq39,h3⟩ := cR h3
 refine tP rfl (rO rfl rfl hq39) (tpa ?_)
 refine bY ?_
 refine ⟨by kernel_rfl,?_⟩
 refine aF (sq [0,1,2,3,4] (pm ?_))
 refine pm ?_
 refine rP rfl (bD rfl rfl) ?_
 obtain ⟨v40,hv40,h3⟩ := bnd h3
 refine rS rfl (aQ 5 (aE2 hv40) rfl rfl rfl) (pa (nx ?_))
 obtain ⟨v54,h4,h3⟩ := bnd h3
 refine bF ⟨aA (aA (aA (aA (aA (aA ((fun _ => .dead)) 2 (.ptr 3 0 1 0 0)) 5 (dL aN v1)) 6 (dL aN v3)) 7 (.ptr 4 0 1 0 0)) 8 (dI s37.1)) 10 (dI v40),lks [.no, .no, .no, .live [⟨62,2, .av [[dI p0.Num,(dI p0.Den)]]⟩], .live [⟨304,4, .av [[dI v54.driver,(dI v54.driven),(dI v54.off),(dL bU v54.train)]]⟩]]⟩ ?_ ?_
 refine sq [0,1] (pm ?_)
 refine rP rfl (gT rfl rfl) (nx ?_)
 refine bC h4 rfl (fun hc h4 => ?_) (fun hc h4 => ?_)
 refine sq [0,1,2,3,4,5,6] (pm ?_)
 refine pm ?_
 refine rP rfl (iX rfl rfl) ?_
 obtain ⟨v41,hv41,h4⟩ := bnd h4
 refine rP rfl (cG tok hv41 rfl rfl rfl rfl rfl rfl) (fr tok ?_)
 refine lr tok ?_
 refine pa (nx (sq [0,1,2] ?_))
 refine pm ?_
 refine rP rfl (iX rfl rfl) (pa (nx (aE ?_)))
 refine aY (fun s48 => ⟨aA (aA (aA (aA (aA (aA (aA (aA ((fun _ => .dead)) 2 (.ptr 3 0 1 0 0)) 5 (dL aN v1)) 6 (dL aN v3)) 7 (.ptr 4 0 1 0 0)) 8 (dI s37.1)) 10 (dI v40)) 11 (dI v41.value)) 12 (dI s48.1),lks [.no, .no, .no, .live [⟨62,2, .av [[dI p0.Num,(dI p0.Den)]]⟩], .live [⟨304,4, .av [[dI s48.2.driver,(dI s48.2.driven),(dI s48.2.off),(dL bU s48.2.train)]]⟩]]⟩) h4 ?_ (fun s48 y h5 => ?_)
 exact wk [0,1,2,3,4]
 refine aB ?_
 obtain ⟨v50,h6,h5⟩ := bnd h5
 refine bF ⟨aA (aA (aA (aA (aA (aA (aA (aA (aA ((fun _ => .dead)) 2 (.ptr 3 0 1 0 0)) 5 (dL aN v1)) 6 (dL aN v3)) 7 (.ptr 4 0 1 0 0)) 8 (dI s37.1)) 10 (dI v40)) 11 (dI v41.value)) 12 (dI s48.1)) 84 (dB v50),lks [.no, .no, .no, .live [⟨62,2, .av [[dI p0.Num,(dI p0.Den)]]⟩], .live [⟨304,4, .av [[dI s48.2.driver,(dI s48.2.driven),(dI s48.2.off),(dL bU s48.2.train)]]⟩]]⟩ ?_ ?_
 refine sr [0,1,2,3,4,5,6,7,8,9,10] (pm ?_)
 refine rP rfl (sJ rfl rfl) (pm ?_)
 refine jW (u := 76) h6 rfl (fun hc h6 => ?_) (fun hc h6 => ?_)
 refine pm1 ?_
 refine pm1 ?_
 obtain ⟨v49,hv49,h6⟩ := bnd h6
 refine rp rfl (w1 rfl rfl rfl) rfl (cG tok hv49 rfl rfl rfl rfl rfl rfl) (fr1 tok ?_)
 refine lr1 tok ?_
 refine pm1 ?_
 refine rp rfl (w1 rfl rfl rfl) rfl (nD rfl rfl) (pkt (nx ?_))
 cases h6
 refine lW.trans_ (mR (d := 80) (ds := cI v49.value) rfl (by repeat (first | exact Pre.z _ | apply Pre.t))) ?_
 exact wk [0,1,2,3,4]
 iterate 7 refine k1 ?_
 refine pkf (nx ?_)
 cases h6
 exact wk [0,1,2,3,4]
 refine bZ h5 rfl (fun hc h5 => ?_) (fun hc h5 => ?_)
 refine sk (aB (aE (aI (is := [0,1,2,3,4,5,6,7,8]) [0,0,0,0,12,0,0,96,255] follows (by kernel_rfl) (tP rfl (aL (r := .ptr _ _ _ _ _) rfl) (dT rfl w0 rfl (bO tok rfl rfl rfl rfl) rfl rfl rfl (tpm ?_))))))
 refine tpm ?_
 obtain ⟨v51,hv51,h5⟩ := bnd h5
 refine tP rfl (cG tok hv51 rfl rfl rfl rfl rfl rfl) (tpm ?_)
 refine tpm ?_
 obtain ⟨v52,hv52,h5⟩ := bnd h5
 refine tP rfl (cG tok hv52 rfl rfl rfl rfl rfl rfl) ?_
 obtain ⟨v53,hv53,h5⟩ := bnd h5
 refine aQn rfl w0 rfl (by repeat (first | exact mD _ | exact mL rfl | refine mG ?_ rfl)) (aHl 4 (rR hv53) rfl rfl rfl) ?_
 refine bY ?_
 refine ⟨by kernel_rfl,?_⟩
 refine aZ (aF (sr [0,1,2] (pm ?_)))
 refine rP rfl (iX rfl rfl) (pa (aV ?_))
 refine bX ?_
 cases h5
 refine ⟨_,rfl,?_⟩
 exact wk [0,1,2,3,4]
 refine bH (cC ?_)
 cases h5
 refine cA ⟨_,rfl,fun e => ?_⟩
 subst e
 refine aR (aF ?_)
 exact wk [0,1,2,3,4]
 refine sk ?_
 cases h4
 exact wk [0,1,2,3,4]
 refine sq [0,1] (pm ?_)
 refine pa (nx (aE ?_))
 refine aY (fun s62 => ⟨aA (aA (aA (aA (aA (aA (aA ((fun _ => .dead)) 2 (.ptr 3 0 1 0 0)) 5 (dL aN v1)) 6 (dL aN v3)) 7 (.ptr 4 0 1 0 0)) 8 (dI s37.1)) 10 (dI v40)) 13 (dI s62.1),lks [.no, .no, .no, .live [⟨62,2, .av [[dI p0.Num,(dI p0.Den)]]⟩], .live [⟨304,4, .av [[dI s62.2.driver,(dI s62.2.driven),(dI s62.2.off),(dL bU s62.2.train)]]⟩]]⟩) h3 ?_ (fun s62 y h4 => ?_)
 exact wk [0,1,2,3,4]
 refine aB ?_
 obtain ⟨v65,h5,h4⟩ := bnd h4
 refine bF ⟨aA (aA (aA (aA (aA (aA (aA (aA ((fun _ => .dead)) 2 (.ptr 3 0 1 0 0)) 5 (dL aN v1)) 6 (dL aN v3)) 7 (.ptr 4 0 1 0 0)) 8 (dI s37.1)) 10 (dI v40)) 13 (dI s62.1)) 113 (dB v65),lks [.no, .no, .no, .live [⟨62,2, .av [[dI p0.Num,(dI p0.Den)]]⟩], .live [⟨304,4, .av [[dI s62.2.driver,(dI s62.2.driven),(dI s62.2.off),(dL bU s62.2.train)]]⟩]]⟩ ?_ ?_
 refine aI (is := [0,1,2,3,4,5,6,7,8,9,10,11,12,13,14,15,16]) [0,0,2,7,15,31,31,127,255,511,31,31,3103,7199,15391,32767,65535] follows (by kernel_rfl) (tpm ?_)
 refine tpm ?_
 refine tP rfl (aK tok rfl rfl rfl) (tP rfl (bB rfl rfl) (tpm ?_))
 refine aGt (u := 101) h5 rfl (fun hc h5 => ?_) (fun hc h5 => ?_)
 refine aDe ?_
 refine aDe ?_
 obtain ⟨v63,hv63,h5⟩ := bnd h5
 refine qV rfl (w1 rfl rfl rfl) rfl (cG tok hv63 rfl rfl rfl rfl rfl rfl) (aNe tok ?_)
 refine aLq tok ?_
 refine aDe ?_
 refine aDe ?_
 obtain ⟨v64,hv64,h5⟩ := bnd h5
 refine qV rfl (w1 rfl rfl rfl) rfl (cG tok hv64 rfl rfl rfl rfl rfl rfl) (aNe tok ?_)
 refine aLq tok ?_
 refine qV rfl (w1 rfl rfl rfl) rfl (nD rfl rfl) (aJl ?_)
 refine bY ?_
 refine ⟨by kernel_rfl,?_⟩
 refine aF ?_
 cases h5
 refine lW.trans_ (mR (d := 105) (ds := cI v63.value) rfl (by repeat (first | exact Pre.z _ | apply Pre.t))) (lW.trans_ (mR (d := 110) (ds := cI v64.value) rfl (by repeat (first | exact Pre.z _ | apply Pre.t))) ?_)
 exact wk [0,1,2,3,4]
 iterate 11 refine k2 ?_
 refine aH2 ?_
 refine bY ?_
 refine ⟨by kernel_rfl,?_⟩
 refine aF ?_
 cases h5
 exact wk [0,1,2,3,4]
 refine bZ h4 rfl (fun hc h4 => ?_) (fun hc h4 => ?_)
 refine sk (aB (aE (aI (is := [0,1,2,3,4,5,6,7,8]) [0,0,0,0,12,0,0,96,255] follows (by kernel_rfl) (tP rfl (aL (r := .ptr _ _ _ _ _) rfl) (dT rfl w0 rfl (bO tok rfl rfl rfl rfl) rfl rfl rfl (tpm ?_))))))
 refine tpm ?_
 obtain ⟨v66,hv66,h4⟩ := bnd h4
 refine tP rfl (cG tok hv66 rfl rfl rfl rfl rfl rfl) (tpm ?_)
 refine tpm ?_
 obtain ⟨v67,hv67,h4⟩ := bnd h4
 refine tP rfl (cG tok hv67 rfl rfl rfl rfl rfl rfl) ?_
 obtain ⟨v68,hv68,h4⟩ := bnd h4
 refine aQn rfl w0 rfl (by repeat (first | exact mD _ | exact mL rfl | refine mG ?_ rfl)) (aHl 4 (rR hv68) rfl rfl rfl) ?_
 refine bY ?_
 refine ⟨by kernel_rfl,?_⟩
 refine aZ (aF (sr [0,1,2] (pm ?_)))
 refine rP rfl (bD rfl rfl) (pa (aV ?_))
 refine bX ?_
 cases h4
 refine ⟨_,rfl,?_⟩
 exact wk [0,1,2,3,4]
 refine bH (cC ?_)
 cases h4
 refine cA ⟨_,rfl,fun e => ?_⟩
 subst e
 refine aR ?_
 refine aZ (aF ?_)
 exact wk [0,1,2,3,4]
 refine sr [0,1,2] (pm ?_)
 refine rP rfl (bD rfl rfl) (pa (aV ?_))
 refine bX ?_
 cases h2
 refine ⟨_,rfl,?_⟩
 exact wk [0,1,2,3,4]
 refine bH (cC ?_)
 cases h2
 refine cA ⟨_,rfl,fun e => ?_⟩
 subst e
 refine aR (aF ?_)
 exact wk [0,1,2,4]
 refine sq [0,1,2,3,4] (rP rfl (aL (r := .ptr _ _ _ _ _) rfl) (rL rfl (tU rfl rfl) (fa tok ?_)))
 refine ld tok ?_
 refine pa (nx (aC ?_))
 cases h0
 exact r0t 4 rfl
theorem aG1 {p0 : bL} {r : Bool} (h0 : rM p0 = some r) : FnC Tryz.prog 286 [] [.agg [dI p0.Driver,(dI p0.Driven)]] [] (dB r) := by
 refine fi 11 tok Tryz.func286 ?_
 unfold rM at h0
 refine sq [0,1] (bxx 3 ?_)
 refine pa (nx (sq [0,1,2,3,4,5,6,7,8] ?_))
 refine fa tok ?_
 refine ld tok ?_
 obtain ⟨v1,hv1,h0⟩ := bnd h0
 refine rS rfl (aQ 4 (sC hv1) rfl rfl rfl) (pm ?_)
 refine fI (u := 6) h0 rfl (fun hc h0 => ?_) (fun hc h0 => ?_)
 refine fa1 tok ?_
 refine ld1 tok ?_
 obtain ⟨v2,hv2,h0⟩ := bnd h0
 refine rs rfl (w1 rfl rfl rfl) rfl (aQ 4 (sC hv2) rfl rfl rfl) (pkt ?_)
 refine pa (nx (aC ?_))
 cases h0
 exact r0t 2 rfl
 iterate 3 refine k1 ?_
 refine pkf ?_
 refine pa (nx (aC ?_))
 cases h0
 exact r0t 2 rfl
theorem aI8 {p0 : List bL} {r : Bool} (h0 : sA p0 = some r) : FnC Tryz.prog 276 [] [dL bU p0] [] (dB r) := by
 refine fi 19 tok Tryz.func276 ?_
 unfold sA at h0
 refine sq [0] (pa (nx ?_))
 obtain ⟨v7x,h1,h0⟩ := bnd h0
 refine eL v7x (fun v7 => ⟨aA ((fun _ => .dead)) 0 (dL bU p0),lks [.no, .no, .no]⟩) ?_ ?_
 refine sq [0] (pa (nx (aE ?_)))
 refine aY (fun s4 => ⟨aA (aA ((fun _ => .dead)) 0 (dL bU p0)) 3 (dI s4),lks [.no, .no, .no]⟩) h1 ?_ (fun s4 y h2 => ?_)
 exact wk [0,1,2]
 refine aB (sq [0,1,2,3] (pm ?_))
 refine pm ?_
 refine rP rfl (aK tok rfl rfl rfl) (rP rfl (bB rfl rfl) (nx ?_))
 refine bC h2 rfl (fun hc h2 => ?_) (fun hc h2 => ?_)
 refine sk (aB (aE (sq [0,1,2,3,4,5] (pm ?_))))
 refine pm ?_
 obtain ⟨v5,hv5,h2⟩ := bnd h2
 refine rP rfl (cG tok hv5 rfl rfl rfl rfl rfl rfl) (rP rfl (bR tok rfl rfl rfl (by repeat (first | exact kE.z _ | apply kE.t))) ?_)
 obtain ⟨v6,hv6,h2⟩ := bnd h2
 refine rS rfl (aQ 3 (aG1 hv6) rfl rfl rfl) (rP rfl (cJ rfl) (nx ?_))
 refine bZ h2 rfl (fun hc h2 => ?_) (fun hc h2 => ?_)
 refine sq [0] (pa (nx (aC ?_)))
 refine bA (aJ ?_)
 cases h2
 refine dZ ⟨_,rfl,fun e => ?_⟩
 subst e
 refine bA ?_
 replace h0 := gU h0
 refine aJ ?_
 cases h0
 exact r0t 2 rfl
 refine cT (aZ (aF (sr [0,1,2] (pm ?_))))
 refine rP rfl (bD rfl rfl) (pa (aV ?_))
 refine bX ?_
 cases h2
 refine ⟨_,rfl,?_⟩
 exact wk [0,1,2]
 refine bH (cC ?_)
 cases h2
 refine cA ⟨_,rfl,fun e => ?_⟩
 subst e
 refine aR (aF ?_)
 refine ⟨_,rfl,?_⟩
 exact wk [0,1,2]
 rintro v7 rfl
 replace h0 := nN h0
 refine sq [0,1,2,3] (pm ?_)
 refine rP rfl (aK tok rfl rfl rfl) (rP rfl (jK rfl rfl) (pa (nx (aC ?_))))
 cases h0
 exact r0t 2 rfl
theorem aIt {p0 : aM} {p1 : aM} {r : aM × Bool} (h0 : kW p0 p1 = some r) : FnC Tryz.prog 83 [] [.agg [dI p0.Num,(dI p0.Den)], .agg [dI p1.Num,(dI p1.Den)]] [] (.tup [.agg [dI r.1.Num,(dI r.1.Den)],(dB r.2)]) := by
 refine fi 19 tok Tryz.func83 ?_
 unfold kW at h0
 refine sq [0,1,2,3] (bxx 3 ?_)
 refine bxx 4 ?_
 refine al 5 [z0,z0] tok ?_
 refine pa (nx (sq [0,1,2,3,4,5,6,7,8,9,10,11,12,13,14] ?_))
 refine fa tok ?_
 refine ld tok ?_
 refine fa tok ?_
 refine ld tok ?_
 refine rP rfl (eH rfl rfl) (fa tok ?_)
 refine ld tok ?_
 refine fa tok ?_
 refine ld tok ?_
 refine rP rfl (eH rfl rfl) ?_
 obtain ⟨v1,hv1,h0⟩ := bnd h0
 refine rS rfl (aQ 6 (rE hv1) rfl rfl rfl) (rP rfl (aW rfl rfl) (rP rfl (aW rfl rfl) (bst tok ?_)))
 refine pa (nx (aC ?_))
 cases h0
 exact fR (rs := [.cell 4 62, .tmp 5]) rfl
theorem aE7 {p0 : List bL} {r : aM × Bool} (h0 : kN p0 = some r) : FnC Tryz.prog 287 [] [dL bU p0] [] (.tup [.agg [dI r.1.Num,(dI r.1.Den)],(dB r.2)]) := by
 refine fi 43 tok Tryz.func287 ?_
 unfold kN at h0
 refine sq [0,1] (al 3 [z0,z0] tok ?_)
 refine pa (nx (sq [0,1,2] ?_))
 obtain ⟨v1,hv1,h0⟩ := bnd h0
 refine rS rfl (aQ 4 (sM hv1) rfl rfl rfl) (al 4 [z0,z0] tok ?_)
 refine bst tok (nx ?_)
 obtain ⟨v12x,h1,h0⟩ := bnd h0
 refine eL v12x (fun v12 => ⟨aA (aA ((fun _ => .dead)) 2 (.ptr 3 0 1 0 0)) 4 (.ptr 4 0 1 0 0),lks [.no, .no, .no, .live [⟨62,2, .av [[z0,z0]]⟩], .live [⟨62,2, .av [[dI v12.Num,(dI v12.Den)]]⟩]]⟩) ?_ ?_
 refine sq [0] (pa (nx (aE ?_)))
 refine aY (fun s7 => ⟨aA (aA (aA (aA ((fun _ => .dead)) 0 (dL bU p0)) 2 (.ptr 3 0 1 0 0)) 4 (.ptr 4 0 1 0 0)) 5 (dI s7.1),lks [.no, .no, .no, .live [⟨62,2, .av [[z0,z0]]⟩], .live [⟨62,2, .av [[dI s7.2.Num,(dI s7.2.Den)]]⟩]]⟩) h1 ?_ (fun s7 y h2 => ?_)
 exact wk [0,1,2,3,4]
 refine aB (sq [0,1,2,3] (pm ?_))
 refine pm ?_
 refine rP rfl (aK tok rfl rfl rfl) (rP rfl (bB rfl rfl) (nx ?_))
 refine bC h2 rfl (fun hc h2 => ?_) (fun hc h2 => ?_)
 refine sk (aB (aE (aB (aI (is := [0,1,2,3,4,5,6,7,8,9,10,11,12,13,14,15,16,17]) [0,0,3,7,15,31,0,0,192,448,960,2047,4095,8191,8191,0,49151,131071] follows (by kernel_rfl) (tpm ?_)))))
 refine tpm ?_
 obtain ⟨v8,hv8,h2⟩ := bnd h2
 refine tP rfl (cG tok hv8 rfl rfl rfl rfl rfl rfl) (tfr tok ?_)
 refine tlr tok ?_
 refine tP rfl (wL rfl) (tpm ?_)
 refine tpm ?_
 obtain ⟨v9,hv9,h2⟩ := bnd h2
 refine tP rfl (cG tok hv9 rfl rfl rfl rfl rfl rfl) (tfr tok ?_)
 refine tlr tok ?_
 obtain ⟨v10,hv10,h2⟩ := bnd h2
 refine oH rfl w0 rfl (dJ 6 (rE hv10) rfl rfl rfl) (tP rfl (aL (r := .tup _) rfl) (tP rfl (aW rfl rfl) (tP rfl (aW rfl rfl) (aDc rfl w0 rfl rfl (fun hx hk => sX 5 (cs := [z0,z0]) tok rfl rfl hk) (uQ rfl w0 (pB (cs := _ :: _) tok rfl rfl rfl rfl rfl rfl rfl) (tpa ?_))))))
 refine bY ?_
 refine ⟨by kernel_rfl,?_⟩
 refine aF (sq [0,1,2,3,4,5,6,7,8] (rL rfl (bO tok rfl rfl rfl rfl) (rL rfl (bO tok rfl rfl rfl rfl) ?_)))
 obtain ⟨v11,hv11,h2⟩ := bnd h2
 refine rS rfl (aQ 6 (aIt hv11) rfl rfl rfl) (rP rfl (aL (r := .tup _) rfl) (rP rfl (aW rfl rfl) (rP rfl (aW rfl rfl) (al 6 [z0,z0] tok ?_))))
 refine bst tok ?_
 refine pa (nx (aB (sq [0,1] ?_)))
 refine pm ?_
 refine rP rfl (cJ rfl) (nx ?_)
 refine bZ h2 rfl (fun hc h2 => ?_) (fun hc h2 => ?_)
 refine sq [0,1,2] (rP rfl (pbl (C0 := [z0,z0]) tok rfl rfl rfl) (bst tok ?_))
 refine pa (nx (aC (aJ ?_)))
 refine bA (aJ ?_)
 cases h2
 refine dZ ⟨_,rfl,fun e => ?_⟩
 subst e
 refine bA ?_
 replace h0 := gU h0
 refine aJ ?_
 cases h0
 exact fR (rs := [.cell 2 62, .tmp 3]) rfl
 refine sk (sr [0,1] (rL rfl (bO tok rfl rfl rfl rfl) (bst tok (aV ?_))))
 refine aZ (aF (sr [0,1,2] (pm ?_)))
 refine rP rfl (bD rfl rfl) (pa (aV ?_))
 refine bX ?_
 cases h2
 refine ⟨_,rfl,?_⟩
 exact wk [0,1,2,3,4]
 refine bH (cC ?_)
 cases h2
 refine cA ⟨_,rfl,fun e => ?_⟩
 subst e
 refine aR (aF ?_)
 refine ⟨_,rfl,?_⟩
 exact wk [0,1,2,3,4]
 rintro v12 rfl
 replace h0 := nN h0
 refine sq [0,1,2] (rL rfl (bO tok rfl rfl rfl rfl) (bst tok ?_))
 refine pa (nx (aC ?_))
 cases h0
 exact fR (rs := [.cell 2 62, .tmp 3]) rfl
theorem aIr {p0 : aM} {r : aM} (h0 : sY p0 = some r) : FnC Tryz.prog 85 [] [.agg [dI p0.Num,(dI p0.Den)]] [] (.agg [dI r.Num,(dI r.Den)]) := by
 refine fi 9 tok Tryz.func85 ?_
 unfold sY at h0
 refine sq [0,1] (bxx 3 ?_)
 refine al 4 [z0,z0] tok (nx (sq [0,1,2,3,4,5,6] ?_))
 refine fa tok ?_
 refine ld tok ?_
 refine rP rfl (wL rfl) (fa tok ?_)
 refine ld tok ?_
 refine rP rfl (pbl (C0 := [z0,z0]) tok rfl rfl rfl) (bst tok (nx (aC ?_)))
 cases h0
 exact fR (rs := [.cell 2 62]) rfl
theorem aIl {p0 : aM} {p1 : aM} {r : aM × Bool} (h0 : tF p0 p1 = some r) : FnC Tryz.prog 84 [] [.agg [dI p0.Num,(dI p0.Den)], .agg [dI p1.Num,(dI p1.Den)]] [] (.tup [.agg [dI r.1.Num,(dI r.1.Den)],(dB r.2)]) := by
 refine fi 25 tok Tryz.func84 ?_
 unfold tF at h0
 refine sq [0,1,2,3] (bxx 3 ?_)
 refine bxx 4 ?_
 refine al 5 [z0,z0] tok ?_
 refine pa (nx (sq [0,1,2,3,4,5,6,7,8,9,10,11,12,13,14,15,16,17,18,19,20] ?_))
 refine fa tok ?_
 refine ld tok ?_
 refine fa tok ?_
 refine ld tok ?_
 refine rP rfl (eH rfl rfl) (fa tok ?_)
 refine ld tok ?_
 refine fa tok ?_
 refine ld tok ?_
 refine rP rfl (eH rfl rfl) (rP rfl (bD rfl rfl) (fa tok ?_))
 refine ld tok ?_
 refine fa tok ?_
 refine ld tok ?_
 refine rP rfl (eH rfl rfl) ?_
 obtain ⟨v1,hv1,h0⟩ := bnd h0
 refine rS rfl (aQ 6 (rE hv1) rfl rfl rfl) (rP rfl (aW rfl rfl) (rP rfl (aW rfl rfl) (bst tok ?_)))
 refine pa (nx (aC ?_))
 cases h0
 exact fR (rs := [.cell 4 62, .tmp 5]) rfl
theorem aGb {p0 : List bL} {p1 : aM} {r : aM × Bool} (h0 : qX p0 p1 = some r) : FnC Tryz.prog 277 [] [dL bU p0, .agg [dI p1.Num,(dI p1.Den)]] [] (.tup [.agg [dI r.1.Num,(dI r.1.Den)],(dB r.2)]) := by
 refine fi 26 tok Tryz.func277 ?_
 unfold qX at h0
 refine sq [0,1,2] (bxx 3 ?_)
 refine al 4 [z0,z0] tok ?_
 refine pa (nx (sq [0,1,2,3,4,5,6,7] ?_))
 refine pm ?_
 obtain ⟨v1,hv1,h0⟩ := bnd h0
 refine rS rfl (aQ 5 (aE7 hv1) rfl rfl rfl) (rP rfl (aL (r := .tup _) rfl) (rP rfl (aW rfl rfl) (rP rfl (aW rfl rfl) (al 5 [z0,z0] tok ?_))))
 refine bst tok ?_
 refine pa (nx (aB (sq [0,1] ?_)))
 refine pm ?_
 refine rP rfl (cJ rfl) (nx ?_)
 refine bZ h0 rfl (fun hc h0 => ?_) (fun hc h0 => ?_)
 refine sq [0,1,2] (rP rfl (pbl (C0 := [z0,z0]) tok rfl rfl rfl) (bst tok ?_))
 refine pa (nx (aC (aJ ?_)))
 cases h0
 exact fR (rs := [.cell 4 62, .tmp 5]) rfl
 refine sk (sq [0,1,2,3,4] (fa tok ?_))
 refine ld tok ?_
 obtain ⟨v2,hv2,h0⟩ := bnd h0
 refine rS rfl (aQ 6 (rD hv2) rfl rfl rfl) (fa tok ?_)
 refine bs1 tok (nx (aB ?_))
 refine aI (is := [0,1,2,3,4,5,6,7]) [0,0,2,7,15,15,63,127] follows (by kernel_rfl) (dT rfl w0 rfl (bO tok rfl rfl rfl rfl) rfl rfl rfl (dT rfl w0 rfl (bO tok rfl rfl rfl rfl) rfl rfl rfl ?_))
 obtain ⟨v3,hv3,h0⟩ := bnd h0
 refine oH rfl w0 rfl (dJ 6 (aIr hv3) rfl rfl rfl) ?_
 obtain ⟨v4,hv4,h0⟩ := bnd h0
 refine oH rfl w0 rfl (dJ 6 (aIl hv4) rfl rfl rfl) (tP rfl (aW rfl rfl) (tP rfl (aW rfl rfl) (uQ rfl w0 (pB (cs := _ :: _) tok rfl rfl rfl rfl rfl rfl rfl) (tpa ?_))))
 refine bY ?_
 refine ⟨by kernel_rfl,?_⟩
 refine aF (aC ?_)
 cases h0
 exact fR (rs := [.cell 4 62, .tmp 5]) rfl
theorem aFy {p0 : List bL} {p1 : aM} {r : aM × Int} (h0 : oG p0 p1 = some r) : FnC Tryz.prog 242 [] [dL bU p0, .agg [dI p1.Num,(dI p1.Den)]] [] (.tup [.agg [dI r.1.Num,(dI r.1.Den)],(dI r.2)]) := by
 refine fi 31 tok Tryz.func242 ?_
 unfold oG at h0
 refine sq [0,1,2] (bxx 3 ?_)
 refine al 4 [z0,z0] tok ?_
 refine pa (nx (aB ?_))
 obtain ⟨v3,h1,h0⟩ := bnd h0
 refine bF ⟨aA (aA (aA (aA ((fun _ => .dead)) 0 (dL bU p0)) 3 (.ptr 3 0 1 0 0)) 4 (.ptr 4 0 1 0 0)) 15 (dB v3),lks [.no, .no, .no, .live [⟨62,2, .av [[dI p1.Num,(dI p1.Den)]]⟩], .live [⟨62,2, .av [[z0,z0]]⟩]]⟩ ?_ ?_
 refine sr [0,1,2,3,4,5,6,7] (pm ?_)
 obtain ⟨v1,hv1,h1⟩ := bnd h1
 refine rS rfl (aQ 5 (aI8 hv1) rfl rfl rfl) (rP rfl (cJ rfl) (pm ?_))
 refine fI (u := 11) h1 rfl (fun hc h1 => ?_) (fun hc h1 => ?_)
 iterate 3 refine k1 ?_
 refine pkt (nx ?_)
 cases h1
 exact wk [0,1,2,3,4]
 refine rl rfl (w1 rfl rfl rfl) rfl (bO tok rfl rfl rfl rfl) ?_
 obtain ⟨v2,hv2,h1⟩ := bnd h1
 refine rs rfl (w1 rfl rfl rfl) rfl (aQ 5 (aEq hv2) rfl rfl rfl) (rp rfl (w1 rfl rfl rfl) rfl (cJ rfl) (pkf (nx ?_)))
 cases h1
 exact wk [0,1,2,3,4]
 refine bZ h0 rfl (fun hc h0 => ?_) (fun hc h0 => ?_)
 refine sq [0,1,2] (rP rfl (pbl (C0 := [z0,z0]) tok rfl rfl rfl) (bst tok ?_))
 refine pa (nx (aC (aJ ?_)))
 cases h0
 exact fR (rs := [.cell 4 62, .tmp 5]) rfl
 refine sk (sq [0,1,2,3,4,5,6,7,8] (pm ?_))
 refine rL rfl (bO tok rfl rfl rfl rfl) ?_
 obtain ⟨v4,hv4,h0⟩ := bnd h0
 refine rS rfl (aQ 5 (aGb hv4) rfl rfl rfl) (rP rfl (aL (r := .tup _) rfl) (rP rfl (aW rfl rfl) (rP rfl (aW rfl rfl) (al 5 [z0,z0] tok ?_))))
 refine bst tok ?_
 refine pa (nx (aB (sq [0,1] ?_)))
 refine pm ?_
 refine rP rfl (cJ rfl) (nx ?_)
 refine bZ h0 rfl (fun hc h0 => ?_) (fun hc h0 => ?_)
 refine sq [0,1,2] (rP rfl (pbl (C0 := [z0,z0]) tok rfl rfl rfl) (bst tok ?_))
 refine pa (nx (aC (aJ ?_)))
 cases h0
 exact fR (rs := [.cell 4 62, .tmp 5]) rfl
 refine sk (sq [0,1,2,3,4] (fa tok ?_))
 refine ld tok ?_
 obtain ⟨v5,hv5,h0⟩ := bnd h0
 refine rS rfl (aQ 6 (rD hv5) rfl rfl rfl) (fa tok ?_)
 refine bs1 tok (nx (sq [0,1,2] ?_))
 refine rL rfl (bO tok rfl rfl rfl rfl) (bst tok ?_)
 refine pa (nx (aC ?_))
 cases h0
 exact fR (rs := [.cell 4 62, .tmp 5]) rfl
theorem aFj {p0 : aM} {p1 : gG} {r : qU × Int} (h0 : rH p0 p1 = some r) : FnC Tryz.prog 177 [] [.agg [dI p0.Num,(dI p0.Den)], .ref (xW p1)] [] (.tup [.agg [dL bU r.1.Train,(dI r.1.Error.Num),(dI r.1.Error.Den)],(dI r.2)]) := by
 refine fi 25 tok Tryz.func177 ?_
 unfold rH at h0
 refine sq [0,1,2] (bxx 3 ?_)
 refine al 4 [zl,z0,z0] tok ?_
 refine pa (nx (sq [0,1,2,3] ?_))
 refine rL rfl (bO tok rfl rfl rfl rfl) (pmr ?_)
 obtain ⟨v1,hv1,h0⟩ := bnd h0
 refine rS rfl (aQ 5 (aBv hv1) rfl rfl rfl) (pa (nx (sq [0,1,2,3,4,5,6,7,8] ?_)))
 refine pm ?_
 refine rL rfl (bO tok rfl rfl rfl rfl) ?_
 obtain ⟨v2,hv2,h0⟩ := bnd h0
 refine rS rfl (aQ 5 (aFy hv2) rfl rfl rfl) (rP rfl (aL (r := .tup _) rfl) (rP rfl (aW rfl rfl) (rP rfl (aW rfl rfl) (al 5 [z0,z0] tok ?_))))
 refine bst tok ?_
 refine pa (nx (aB (sq [0,1] ?_)))
 refine pm ?_
 refine rP rfl (cQ rfl rfl) (nx ?_)
 refine bC h0 rfl (fun hc h0 => ?_) (fun hc h0 => ?_)
 refine sq [0,1,2,3] (rP rfl (pbl (C0 := [zl,z0,z0]) tok rfl rfl rfl) (pm ?_))
 refine bst tok ?_
 refine pa (nx ?_)
 refine wa 6 121 2 4 0 ?_
 refine cM (xX (k := 6) (t' := aA (aA ((fun _ => .dead)) 4 (.ptr 4 0 1 0 0)) 5 (dI v2.2)) rfl (FzL.box (kb := 4) (ds := [dL bU ([] : List bL),z0,z0]) rfl rfl (by repeat (first | exact qA.nil | apply qA.cons | exact FzR.d _ | exact FzR.own rfl (by first | rfl | (simp; done) | (simp; omega)) | exact FzR.ptr rfl (by repeat (first | exact Drp.z _ | apply Drp.d)) | exact FzR.own' | exact FzR.ptr' | exact FzR.ref _ | apply FzR.agg | apply FzR.tup | apply FzR.fn | exact FzR.dead _)) (FzL.nil))) (aC (aJ ?_))
 cases h0
 exact fR (rs := [.cell 4 115, .tmp 5]) rfl
 refine sk (sq [0,1,2,3,4] (pm ?_))
 refine rL rfl (bO tok rfl rfl rfl rfl) (rP rfl (pbl (C0 := [zl,z0,z0]) tok rfl rfl rfl) (bst tok ?_))
 refine pa (nx (aC ?_))
 cases h0
 exact fR (rs := [.cell 4 115, .tmp 5]) rfl
theorem aCj {p0 : aM} {p1 : gG} {r : qU × Int} (h0 : lL p0 p1 = some r) : FnC Tryz.prog 94 [] [.agg [dI p0.Num,(dI p0.Den)], .agg [dI p1.LowDriver,(dI p1.HighDriver),(dI p1.LowDriven),(dI p1.HighDriven),(dI p1.Stages)]] [] (.tup [.agg [dL bU r.1.Train,(dI r.1.Error.Num),(dI r.1.Error.Den)],(dI r.2)]) := by
 refine fi 22 tok Tryz.func94 ?_
 unfold lL at h0
 refine sq [0,1,2,3] (bxx 3 ?_)
 refine bxx 4 ?_
 refine al 5 [zl,z0,z0] tok ?_
 refine pa (nx (aB ?_))
 obtain ⟨v3,h1,h0⟩ := bnd h0
 refine bF ⟨aA (aA (aA (aA ((fun _ => .dead)) 2 (.ptr 3 0 1 0 0)) 3 (.ptr 4 0 1 0 0)) 4 (.ptr 5 0 1 0 0)) 12 (dB v3),lks [.no, .no, .no, .live [⟨62,2, .av [[dI p0.Num,(dI p0.Den)]]⟩], .live [⟨119,5, .av [[dI p1.LowDriver,(dI p1.HighDriver),(dI p1.LowDriven),(dI p1.HighDriven),(dI p1.Stages)]]⟩], .live [⟨115,3, .av [[zl,z0,z0]]⟩]]⟩ ?_ ?_
 refine sr [0,1,2,3,4,5,6] (rL rfl (bO tok rfl rfl rfl rfl) ?_)
 obtain ⟨v1,hv1,h1⟩ := bnd h1
 refine rS rfl (aQ 6 (aEq hv1) rfl rfl rfl) (rP rfl (cJ rfl) (pm ?_))
 refine fI (u := 9) h1 rfl (fun hc h1 => ?_) (fun hc h1 => ?_)
 refine k1 ?_
 refine k1 ?_
 refine pkt (nx ?_)
 cases h1
 exact wk [0,1,2,3,4,5]
 obtain ⟨v2,hv2,h1⟩ := bnd h1
 refine rs rfl (w1 rfl rfl rfl) rfl (fU 6 (aJu hv2) rfl rfl) (rp rfl (w1 rfl rfl rfl) rfl (cJ rfl) (pkf (nx ?_)))
 cases h1
 exact wk [0,1,2,3,4,5]
 refine bZ h0 rfl (fun hc h0 => ?_) (fun hc h0 => ?_)
 refine sq [0,1,2] (rP rfl (pbl (C0 := [zl,z0,z0]) tok rfl rfl rfl) (bst tok ?_))
 refine pa (nx ?_)
 refine wa 6 121 2 5 0 ?_
 refine cM (xX (k := 6) (t' := aA (aA ((fun _ => .dead)) 4 (.ptr 5 0 1 0 0)) 5 (dI 1)) rfl (FzL.box (kb := 5) (ds := [dL bU ([] : List bL),z0,z0]) rfl rfl (by repeat (first | exact qA.nil | apply qA.cons | exact FzR.d _ | exact FzR.own rfl (by first | rfl | (simp; done) | (simp; omega)) | exact FzR.ptr rfl (by repeat (first | exact Drp.z _ | apply Drp.d)) | exact FzR.own' | exact FzR.ptr' | exact FzR.ref _ | apply FzR.agg | apply FzR.tup | apply FzR.fn | exact FzR.dead _)) (FzL.nil))) (aC (aJ ?_))
 cases h0
 exact fR (rs := [.cell 4 115, .tmp 5]) rfl
 refine sk (aB (sq [0,1,2] (rL rfl (bO tok rfl rfl rfl rfl) ?_)))
 obtain ⟨v4,hv4,h0⟩ := bnd h0
 refine rS rfl (aQ 6 (aIs hv4) rfl rfl rfl) (rP rfl (cJ rfl) (nx ?_))
 refine bZ h0 rfl (fun hc h0 => ?_) (fun hc h0 => ?_)
 refine sq [0,1,2] (rP rfl (pbl (C0 := [zl,z0,z0]) tok rfl rfl rfl) (bst tok ?_))
 refine pa (nx ?_)
 refine wa 6 121 2 5 0 ?_
 refine cM (xX (k := 6) (t' := aA (aA ((fun _ => .dead)) 4 (.ptr 5 0 1 0 0)) 5 (dI 2)) rfl (FzL.box (kb := 5) (ds := [dL bU ([] : List bL),z0,z0]) rfl rfl (by repeat (first | exact qA.nil | apply qA.cons | exact FzR.d _ | exact FzR.own rfl (by first | rfl | (simp; done) | (simp; omega)) | exact FzR.ptr rfl (by repeat (first | exact Drp.z _ | apply Drp.d)) | exact FzR.own' | exact FzR.ptr' | exact FzR.ref _ | apply FzR.agg | apply FzR.tup | apply FzR.fn | exact FzR.dead _)) (FzL.nil))) (aC (aJ ?_))
 cases h0
 exact fR (rs := [.cell 4 115, .tmp 5]) rfl
 refine sk (sq [0,1,2,3,4,5] (rL rfl (bO tok rfl rfl rfl rfl) ?_))
 obtain ⟨v5,hv5,h0⟩ := bnd h0
 refine jV (aT6 (k := 4) (t' := aA (aA (aA ((fun _ => .dead)) 3 (.ref (xW p1))) 4 (.ptr 5 0 1 0 0)) 18 (.agg [dI p0.Num,(dI p0.Den)])) rfl (FzL.nil)) (rS rfl (aQ 6 (aFj hv5) rfl rfl rfl) (rP rfl (aW rfl rfl) (rP rfl (aW rfl rfl) (bst tok ?_))))
 refine pa (nx (aC ?_))
 cases h0
 exact fR (rs := [.cell 4 115, .tmp 5]) rfl
theorem aEf {p0 : List bL} {r : dE} (h0 : pD p0 = some r) : FnC Tryz.prog 96 [] [dL bU p0] [.live [⟨123,2, .data (List.map bI r.Arbors)⟩], .live [⟨125,4, .data (List.map dV r.Meshes)⟩]] (.agg [.own 0 0 r.Arbors.length, .own 1 0 r.Meshes.length]) := by
 refine fi 36 tok Tryz.func96 ?_
 unfold pD at h0
 refine sq [0] (al 3 [zl,zl] tok (nx (aB ?_)))
 refine aI (is := [0,1,2,3,6,7,8,9,10,11,12,13,16,17,18,19,27,28,29,30,4,5,14,15,20,21,22,23,24,25,26,31,32,33]) [0,1,3,7,15,31,0,64,192,448,0,1024,3072,7168,16320,32704,0,65536,196608,458752,983040,2031616,0,4194304,0,16777216,67108863,0,0,0,0,2013265920,4294967295,8589934591] follows (by kernel_rfl) (tpm ?_)
 obtain ⟨v1,hv1,h0⟩ := bnd h0
 refine tP rfl (cG tok hv1 rfl rfl rfl rfl rfl rfl) (tfr tok ?_)
 refine tlr tok ?_
 refine tpm ?_
 obtain ⟨v2,hv2,h0⟩ := bnd h0
 refine tP rfl (cG tok hv2 rfl rfl rfl rfl rfl rfl) (tfr tok ?_)
 refine tlr tok ?_
 refine tpm ?_
 obtain ⟨v3,hv3,h0⟩ := bnd h0
 refine tP rfl (cG tok hv3 rfl rfl rfl rfl rfl rfl) (tfr tok ?_)
 refine tlr tok ?_
 refine tpm ?_
 obtain ⟨v4,hv4,h0⟩ := bnd h0
 refine tP rfl (cG tok hv4 rfl rfl rfl rfl rfl rfl) (tfr tok ?_)
 refine tlr tok ?_
 iterate 4 refine tP rfl (pbl (C0 := [z0,z0,z0,z0]) tok rfl rfl rfl) ?_
 refine aDc rfl w0 rfl rfl (fun hx hk => vJ 4 tok cI [v1.Driver,12] rfl rfl rfl (by repeat (first | exact Els.nil _ | apply Els.cons (cs := [.d _]) rfl rfl rfl | apply Els.cons (cs := _ :: _) rfl rfl rfl)) rfl rfl rfl (by repeat (first | exact dG.nil | (apply dG.cons; (repeat (first | exact iZ.nil | apply iZ.cons))))) rfl hk) (tP rfl (pbl (C0 := [ze,zl]) tok rfl rfl rfl) (aDc rfl w0 rfl rfl (fun hx hk => vJ 5 tok cI [v2.Driven,v3.Driver] rfl rfl rfl (by repeat (first | exact Els.nil _ | apply Els.cons (cs := [.d _]) rfl rfl rfl | apply Els.cons (cs := _ :: _) rfl rfl rfl)) rfl rfl rfl (by repeat (first | exact dG.nil | (apply dG.cons; (repeat (first | exact iZ.nil | apply iZ.cons))))) rfl hk) (tP rfl (pbl (C0 := [ze,zl]) tok rfl rfl rfl) (aDc rfl w0 rfl rfl (fun hx hk => vJ 6 tok cI [v4.Driven] rfl rfl rfl (by repeat (first | exact Els.nil _ | apply Els.cons (cs := [.d _]) rfl rfl rfl | apply Els.cons (cs := _ :: _) rfl rfl rfl)) rfl rfl rfl (by repeat (first | exact dG.nil | (apply dG.cons; (repeat (first | exact iZ.nil | apply iZ.cons))))) rfl hk) (tP rfl (pbl (C0 := [ze,zl]) tok rfl rfl rfl) (aDc rfl w0 rfl rfl (fun hx hk => vJ 7 tok cI [36,10] rfl rfl rfl (by repeat (first | exact Els.nil _ | apply Els.cons (cs := [.d _]) rfl rfl rfl | apply Els.cons (cs := _ :: _) rfl rfl rfl)) rfl rfl rfl (by repeat (first | exact dG.nil | (apply dG.cons; (repeat (first | exact iZ.nil | apply iZ.cons))))) rfl hk) (tP rfl (pbl (C0 := [ze,zl]) tok rfl rfl rfl) (aDc rfl w0 rfl rfl (fun hx hk => vJ 8 tok cI [40] rfl rfl rfl (by repeat (first | exact Els.nil _ | apply Els.cons (cs := [.d _]) rfl rfl rfl | apply Els.cons (cs := _ :: _) rfl rfl rfl)) rfl rfl rfl (by repeat (first | exact dG.nil | (apply dG.cons; (repeat (first | exact iZ.nil | apply iZ.cons))))) rfl hk) (tP rfl (pbl (C0 := [ze,zl]) tok rfl rfl rfl) (aDc rfl w0 rfl rfl (fun hx hk => qI 9 tok bI [(⟨(⟨#[99,101,110,116,101,114]⟩ : ByteArray),[v1.Driver,12]⟩ : bV),(⟨(⟨#[116,104,105,114,100]⟩ : ByteArray),[v2.Driven,v3.Driver]⟩ : bV),(⟨(⟨#[101,115,99,97,112,101]⟩ : ByteArray),[v4.Driven]⟩ : bV),(⟨(⟨#[109,105,110,117,116,101]⟩ : ByteArray),[36,10]⟩ : bV),(⟨(⟨#[104,111,117,114]⟩ : ByteArray),[40]⟩ : bV)] rfl rfl rfl (by repeat (first | exact Els.nil _ | apply Els.cons (cs := [.d _]) rfl rfl rfl | apply Els.cons (cs := _ :: _) rfl rfl rfl)) rfl rfl rfl (by repeat (first | exact dG.nil | (apply dG.cons; (repeat (first | exact iZ.nil | apply iZ.cons))))) rfl hk) (aDc rfl w0 rfl rfl (fun hx hk => qI 10 tok dV [(⟨0,0,1,0⟩ : cV),(⟨1,1,2,0⟩ : cV),(⟨0,1,3,0⟩ : cV),(⟨3,1,4,0⟩ : cV)] rfl rfl rfl (by repeat (first | exact Els.nil _ | apply Els.cons (cs := [.d _]) rfl rfl rfl | apply Els.cons (cs := _ :: _) rfl rfl rfl)) rfl rfl rfl (by repeat (first | exact dG.nil | (apply dG.cons; (repeat (first | exact iZ.nil | apply iZ.cons))))) rfl hk) (tP rfl (pbl (C0 := [zl,zl]) tok rfl rfl rfl) (uQ rfl w0 (pB (cs := _ :: _) tok rfl rfl rfl rfl rfl rfl rfl) (bY ?_))))))))))))))
 refine ⟨by kernel_rfl,?_⟩
 refine aF (aC ?_)
 cases h0
 exact fO (rs := [.cell 2 27]) [9,10] rfl
theorem aIu {p0 : aD} {r : aD} (h0 : qN p0 = some r) : FnC Tryz.prog 97 [] [.ref (dC p0)] [.live [⟨170,3, .data (List.map aT r.Months)⟩], .live [⟨181,3, .data (List.map aG r.Rules)⟩]] (.agg [dS r.Name, .own 0 0 r.Months.length, .own 1 0 r.Rules.length,(dI r.Week)]) := by
 refine fi 22 tok Tryz.func97 ?_
 unfold qN at h0
 refine sq [0] (al 3 [ze,zl,zl,z0] tok (nx (sq [0,1,2,3,4] ?_)))
 refine pmr ?_
 refine nr ?_
 refine rP rfl (bR tok rfl rfl rfl (by repeat (first | exact kE.z _ | apply kE.t))) (al 4 [ze,zl,zl,z0] tok ?_)
 refine bst tok (nx (sq [0,1,2,3,4,5,6,7] ?_))
 refine rS rfl (eT 5 tok rfl rfl rfl rfl) (pmr ?_)
 refine nr ?_
 refine fr tok ?_
 refine lr tok ?_
 obtain ⟨hq1,h0⟩ := cR h0
 refine rw1 rfl w0 rfl (gZ tok hq1 rfl rfl rfl rfl rfl rfl rfl rfl rfl rfl rfl rfl (fun _ => rfl)) (fa tok ?_)
 refine rw0 rfl w0 (pB (cs := [.own _ _ _]) tok rfl rfl rfl rfl rfl rfl rfl) (nx (sq [0,1,2,3,4,5,6,7] (rS rfl (eT 6 tok rfl rfl rfl rfl) (pmr ?_))))
 refine nr ?_
 refine fr tok ?_
 refine lr tok ?_
 obtain ⟨hq2,h0⟩ := cR h0
 refine rw1 rfl w0 rfl (gZ tok hq2 rfl rfl rfl rfl rfl rfl rfl rfl rfl rfl rfl rfl (fun _ => rfl)) (fa tok ?_)
 refine rw0 rfl w0 (pB (cs := [.own _ _ _]) tok rfl rfl rfl rfl rfl rfl rfl) (nx (sq [0,1] (rL rfl (bO tok rfl rfl rfl rfl) (bst tok (nx (aC ?_))))))
 cases h0
 exact fO (rs := [.cell 2 31]) [5,6] rfl
theorem uW {p0 : ByteArray} {p1 : Int} {p2 : Int} {p3 : aD} {p4 : Int} {r : bP × Int} (h0 : fZ p0 p1 p2 p3 p4 = some r) : FnC Tryz.prog 31 [] [dS p0,(dI p1),(dI p2), .agg [dS p3.Name,(dL aT p3.Months),(dL aG p3.Rules),(dI p3.Week)],(dI p4)] [.live [⟨125,4, .data (List.map dV r.1.Works.Meshes)⟩], .live [⟨170,3, .data (List.map aT r.1.Calendar.Months)⟩], .live [⟨181,3, .data (List.map aG r.1.Calendar.Rules)⟩], .live [⟨2,1, .data (List.map cI r.1.Cam)⟩]] (.tup [.agg [dS r.1.Name,(dL bI r.1.Works.Arbors), .own 0 0 r.1.Works.Meshes.length,(dI r.1.Minute),(dI r.1.Hour),(dI r.1.Escape),(dI r.1.Teeth),(dI r.1.Beats),(dS r.1.Calendar.Name), .own 1 0 r.1.Calendar.Months.length, .own 2 0 r.1.Calendar.Rules.length,(dI r.1.Calendar.Week), .own 3 0 r.1.Cam.length,(dI r.1.Strike)],(dI r.2)]) := by
 refine fi 76 tok Tryz.func31 ?_
 unfold fZ at h0
 refine sq [0,1,2] (bxx 3 ?_)
 refine al 4 [ze,zl,zl,z0,z0,z0,z0,z0,ze,zl,zl,z0,zl,z0] tok ?_
 refine pa (nx (aB (sq [0,1] ?_)))
 obtain ⟨v1,hv1,h0⟩ := bnd h0
 refine rS rfl (fU 5 (aDz hv1) rfl rfl) (rP rfl (cJ rfl) (nx ?_))
 refine bZ h0 rfl (fun hc h0 => ?_) (fun hc h0 => ?_)
 refine sq [0,1,2] (rP rfl (pbl (C0 := [ze,zl,zl,z0,z0,z0,z0,z0,ze,zl,zl,z0,zl,z0]) tok rfl rfl rfl) (bst tok ?_))
 refine pa (nx ?_)
 refine wa 5 123 2 4 1 ?_
 refine cM (fD 6 (k := 5) 2 1 bI rfl rfl) (cM (qF (k := 5) (kf := 6) rfl rfl (fun _ => rfl) rfl) (cM (xX (k := 5) (t' := aA (aA ((fun _ => .dead)) 10 (.ptr 4 0 1 0 0)) 11 (dI 1)) rfl (FzL.box (kb := 4) (ds := [ze,(dL bI ([] : List bV)),zl,z0,z0,z0,z0,z0,ze,zl,zl,z0,zl,z0]) rfl rfl (by repeat (first | exact qA.nil | apply qA.cons | exact FzR.d _ | exact FzR.own rfl (by first | rfl | (simp; done) | (simp; omega)) | exact FzR.ptr rfl (by repeat (first | exact Drp.z _ | apply Drp.d)) | exact FzR.own' | exact FzR.ptr' | exact FzR.ref _ | apply FzR.agg | apply FzR.tup | apply FzR.fn | exact FzR.dead _)) (FzL.nil))) (wa 7 125 4 4 2 ?_)))
 refine wa 8 170 3 4 9 ?_
 refine wa 9 181 3 4 10 ?_
 refine wa 10 2 1 4 12 (aC (aJ ?_))
 cases h0
 exact fO (rs := [.cell 10 34, .tmp 11]) [7,8,9,10] rfl
 refine sk (aB (sq [0,1,2] (pm ?_)))
 obtain ⟨v2,hv2,h0⟩ := bnd h0
 refine rS rfl (aQ 5 (vW hv2) rfl rfl rfl) (rP rfl (cJ rfl) (nx ?_))
 refine bZ h0 rfl (fun hc h0 => ?_) (fun hc h0 => ?_)
 refine sq [0,1,2] (rP rfl (pbl (C0 := [ze,zl,zl,z0,z0,z0,z0,z0,ze,zl,zl,z0,zl,z0]) tok rfl rfl rfl) (bst tok ?_))
 refine pa (nx ?_)
 refine wa 5 123 2 4 1 ?_
 refine cM (fD 6 (k := 5) 2 1 bI rfl rfl) (cM (qF (k := 5) (kf := 6) rfl rfl (fun _ => rfl) rfl) (cM (xX (k := 5) (t' := aA (aA ((fun _ => .dead)) 10 (.ptr 4 0 1 0 0)) 11 (dI 7)) rfl (FzL.box (kb := 4) (ds := [ze,(dL bI ([] : List bV)),zl,z0,z0,z0,z0,z0,ze,zl,zl,z0,zl,z0]) rfl rfl (by repeat (first | exact qA.nil | apply qA.cons | exact FzR.d _ | exact FzR.own rfl (by first | rfl | (simp; done) | (simp; omega)) | exact FzR.ptr rfl (by repeat (first | exact Drp.z _ | apply Drp.d)) | exact FzR.own' | exact FzR.ptr' | exact FzR.ref _ | apply FzR.agg | apply FzR.tup | apply FzR.fn | exact FzR.dead _)) (FzL.nil))) (wa 7 125 4 4 2 ?_)))
 refine wa 8 170 3 4 9 ?_
 refine wa 9 181 3 4 10 ?_
 refine wa 10 2 1 4 12 (aC (aJ ?_))
 cases h0
 exact fO (rs := [.cell 10 34, .tmp 11]) [7,8,9,10] rfl
 refine sk (aB ?_)
 obtain ⟨v5,h1,h0⟩ := bnd h0
 refine bF ⟨aA (aA (aA (aA (aA (aA (aA ((fun _ => .dead)) 0 (dS p0)) 1 (dI p1)) 2 (dI p2)) 4 (dI p4)) 8 (.ptr 3 0 1 0 0)) 10 (.ptr 4 0 1 0 0)) 32 (dB v5),lks [.no, .no, .no, .live [⟨31,4, .av [[dS p3.Name,(dL aT p3.Months),(dL aG p3.Rules),(dI p3.Week)]]⟩], .live [⟨34,14, .av [[ze,zl,zl,z0,z0,z0,z0,z0,ze,zl,zl,z0,zl,z0]]⟩]]⟩ ?_ ?_
 refine sr [0,1,2,3,4,5,6,7] (pm ?_)
 obtain ⟨v3,hv3,h1⟩ := bnd h1
 refine rS rfl (aQ 5 (gC hv3) rfl rfl rfl) (rP rfl (cJ rfl) (pm ?_))
 refine fI (u := 28) h1 rfl (fun hc h1 => ?_) (fun hc h1 => ?_)
 iterate 3 refine k1 ?_
 refine pkt (nx ?_)
 cases h1
 exact wk [0,1,2,3,4]
 refine pm1 ?_
 obtain ⟨v4,hv4,h1⟩ := bnd h1
 refine rs rfl (w1 rfl rfl rfl) rfl (aQ 5 (sC hv4) rfl rfl rfl) (rp rfl (w1 rfl rfl rfl) rfl (cJ rfl) (pkf (nx ?_)))
 cases h1
 exact wk [0,1,2,3,4]
 refine bZ h0 rfl (fun hc h0 => ?_) (fun hc h0 => ?_)
 refine sq [0,1,2] (rP rfl (pbl (C0 := [ze,zl,zl,z0,z0,z0,z0,z0,ze,zl,zl,z0,zl,z0]) tok rfl rfl rfl) (bst tok ?_))
 refine pa (nx ?_)
 refine wa 5 123 2 4 1 ?_
 refine cM (fD 6 (k := 5) 2 1 bI rfl rfl) (cM (qF (k := 5) (kf := 6) rfl rfl (fun _ => rfl) rfl) (cM (xX (k := 5) (t' := aA (aA ((fun _ => .dead)) 10 (.ptr 4 0 1 0 0)) 11 (dI 2)) rfl (FzL.box (kb := 4) (ds := [ze,(dL bI ([] : List bV)),zl,z0,z0,z0,z0,z0,ze,zl,zl,z0,zl,z0]) rfl rfl (by repeat (first | exact qA.nil | apply qA.cons | exact FzR.d _ | exact FzR.own rfl (by first | rfl | (simp; done) | (simp; omega)) | exact FzR.ptr rfl (by repeat (first | exact Drp.z _ | apply Drp.d)) | exact FzR.own' | exact FzR.ptr' | exact FzR.ref _ | apply FzR.agg | apply FzR.tup | apply FzR.fn | exact FzR.dead _)) (FzL.nil))) (wa 7 125 4 4 2 ?_)))
 refine wa 8 170 3 4 9 ?_
 refine wa 9 181 3 4 10 ?_
 refine wa 10 2 1 4 12 (aC (aJ ?_))
 cases h0
 exact fO (rs := [.cell 10 34, .tmp 11]) [7,8,9,10] rfl
 refine sk (sq [0,1,2,3,4,5,6,7,8,9] (rL rfl (bO tok rfl rfl rfl rfl) (pm ?_)))
 obtain ⟨v6,hv6,h0⟩ := bnd h0
 refine rS rfl (aQ 5 (aGg hv6) rfl rfl rfl) (rP rfl (aL (r := .tup _) rfl) ?_)
 iterate 3 refine rP rfl (aW rfl rfl) ?_
 refine rP rfl (aS (r := .own _ _ _) rfl) (pa ?_)
 refine pa (nx (aB (sq [0,1] ?_)))
 refine pm ?_
 refine rP rfl (cQ rfl rfl) (nx ?_)
 refine bC h0 rfl (fun hc h0 => ?_) (fun hc h0 => ?_)
 refine sq [0,1,2,3] (rP rfl (pbl (C0 := [ze,zl,zl,z0,z0,z0,z0,z0,ze,zl,zl,z0,zl,z0]) tok rfl rfl rfl) (pm ?_))
 refine bst tok ?_
 refine pa (nx ?_)
 refine wa 6 123 2 4 1 ?_
 refine cM (fD 7 (k := 6) 2 1 bI rfl rfl) (cM (qF (k := 6) (kf := 7) rfl rfl (fun _ => rfl) rfl) (cM (xX (k := 6) (t' := aA (aA ((fun _ => .dead)) 10 (.ptr 4 0 1 0 0)) 11 (dI v6.2.2)) rfl (FzL.box (kb := 4) (ds := [ze,(dL bI ([] : List bV)),zl,z0,z0,z0,z0,z0,ze,zl,zl,z0,zl,z0]) rfl rfl (by repeat (first | exact qA.nil | apply qA.cons | exact FzR.d _ | exact FzR.own rfl (by first | rfl | (simp; done) | (simp; omega)) | exact FzR.ptr rfl (by repeat (first | exact Drp.z _ | apply Drp.d)) | exact FzR.own' | exact FzR.ptr' | exact FzR.ref _ | apply FzR.agg | apply FzR.tup | apply FzR.fn | exact FzR.dead _)) (FzL.nil))) (wa 8 125 4 4 2 ?_)))
 refine wa 9 170 3 4 9 ?_
 refine wa 10 181 3 4 10 ?_
 refine wa 11 2 1 4 12 (aC (aJ ?_))
 cases h0
 exact fO (rs := [.cell 10 34, .tmp 11]) [8,9,10,11] rfl
 refine sk (sq [0,1,2,3,4,5,6,7,8,9] (pm ?_))
 refine pm ?_
 refine rP rfl (eH rfl rfl) ?_
 obtain ⟨v7,hv7,h0⟩ := bnd h0
 refine rS rfl (aQ 6 (rE hv7) rfl rfl rfl) (rP rfl (aL (r := .tup _) rfl) (rP rfl (aW rfl rfl) (rP rfl (aW rfl rfl) (al 6 [z0,z0] tok ?_))))
 refine bst tok ?_
 refine pa (nx (aB ?_))
 refine aI (is := [0,1,2,3,4,5,6,7,8]) [0,0,3,7,15,15,0,95,255] follows (by kernel_rfl) (dT rfl w0 rfl (bO tok rfl rfl rfl rfl) rfl rfl rfl ?_)
 obtain ⟨v8,hv8,h0⟩ := bnd h0
 refine oH rfl w0 rfl (dJ 8 (aCs hv8) rfl rfl rfl) ?_
 obtain ⟨v9,hv9,h0⟩ := bnd h0
 refine oH rfl w0 rfl (dJ 8 (aCj hv9) rfl rfl rfl) (tP rfl (aL (r := .tup _) rfl) (tP rfl (aW rfl rfl) (tP rfl (aW rfl rfl) (aDc rfl w0 rfl rfl (fun hx hk => sX 7 (cs := [zl,z0,z0]) tok rfl rfl hk) (uQ rfl w0 (pB (cs := _ :: _) tok rfl rfl rfl rfl rfl rfl rfl) (tpa ?_))))))
 refine bY ?_
 refine ⟨by kernel_rfl,?_⟩
 refine aF (aB ?_)
 obtain ⟨v10,h1,h0⟩ := bnd h0
 refine bF ⟨aA (aA (aA (aA (aA (aA (aA (aA ((fun _ => .dead)) 0 (dS p0)) 1 (dI p1)) 2 (dI p2)) 8 (.ptr 3 0 1 0 0)) 10 (.ptr 4 0 1 0 0)) 12 (.own 5 0 (v6.1).length)) 17 (.ptr 6 0 1 0 0)) 65 (dB v10),lks [.no, .no, .no, .live [⟨31,4, .av [[dS p3.Name,(dL aT p3.Months),(dL aG p3.Rules),(dI p3.Week)]]⟩], .live [⟨34,14, .av [[ze,zl,zl,z0,z0,z0,z0,z0,ze,zl,zl,z0,zl,z0]]⟩], .live [⟨2,1, .data (List.map cI v6.1)⟩], .live [⟨115,3, .av [[dL bU v9.1.Train,(dI v9.1.Error.Num),(dI v9.1.Error.Den)]]⟩]]⟩ ?_ ?_
 refine sr [0,1,2,3,4,5,6,7] (pm ?_)
 refine rP rfl (cQ rfl rfl) (pm ?_)
 refine jW (u := 60) h1 rfl (fun hc h1 => ?_) (fun hc h1 => ?_)
 iterate 4 refine k1 ?_
 refine pkt (nx ?_)
 cases h1
 exact wk [0,1,2,3,4,5,7]
 refine fa1 tok ?_
 refine fa1 tok ?_
 refine ld1 tok ?_
 refine rp rfl (w1 rfl rfl rfl) rfl (cQ rfl rfl) (pkf (nx ?_))
 cases h1
 exact wk [0,1,2,3,4,5,7]
 refine bZ h0 rfl (fun hc h0 => ?_) (fun hc h0 => ?_)
 refine sq [0,1,2] (rP rfl (pbl (C0 := [ze,zl,zl,z0,z0,z0,z0,z0,ze,zl,zl,z0,zl,z0]) tok rfl rfl rfl) (bst tok ?_))
 refine pa (nx ?_)
 refine wa 7 123 2 4 1 ?_
 refine cM (fD 8 (k := 7) 2 1 bI rfl rfl) (cM (qF (k := 7) (kf := 8) rfl rfl (fun _ => rfl) rfl) (cM (xX (k := 7) (t' := aA (aA ((fun _ => .dead)) 10 (.ptr 4 0 1 0 0)) 11 (dI 3)) rfl (FzL.box (kb := 4) (ds := [ze,(dL bI ([] : List bV)),zl,z0,z0,z0,z0,z0,ze,zl,zl,z0,zl,z0]) rfl rfl (by repeat (first | exact qA.nil | apply qA.cons | exact FzR.d _ | exact FzR.own rfl (by first | rfl | (simp; done) | (simp; omega)) | exact FzR.ptr rfl (by repeat (first | exact Drp.z _ | apply Drp.d)) | exact FzR.own' | exact FzR.ptr' | exact FzR.ref _ | apply FzR.agg | apply FzR.tup | apply FzR.fn | exact FzR.dead _)) (FzL.nil))) (wa 9 125 4 4 2 ?_)))
 refine wa 10 170 3 4 9 ?_
 refine wa 11 181 3 4 10 ?_
 refine wa 12 2 1 4 12 (aC (aJ ?_))
 cases h0
 exact fO (rs := [.cell 10 34, .tmp 11]) [9,10,11,12] rfl
 refine sk (sq [0,1,2,3,4,5,6,7,8,9,10] (pm ?_))
 refine fa tok ?_
 refine ld tok ?_
 obtain ⟨v11,hv11,h0⟩ := bnd h0
 refine rS rfl (aQ 7 (aEf hv11) rfl rfl rfl) (pm ?_)
 refine pm ?_
 obtain ⟨v12,hv12,h0⟩ := bnd h0
 refine rS rfl (fU 9 (aIu hv12) rfl rfl) (rP rfl (aL (r := .own _ _ _) rfl) (rP rfl (pbl (C0 := [ze,zl,zl,z0,z0,z0,z0,z0,ze,zl,zl,z0,zl,z0]) tok rfl rfl rfl) (bst tok ?_)))
 refine pa (nx ?_)
 refine cM (xX (k := 7) (t' := aA (aA ((fun _ => .dead)) 10 (.ptr 4 0 1 0 0)) 11 (z0)) rfl (FzL.box (kb := 4) (ds := [dS p0,(dL bI v11.Arbors), .own 8 0 (v11.Meshes).length,z0,(dI 4),(dI 2),(dI p2),(dI p1),(dS v12.Name), .own 9 0 (v12.Months).length, .own 10 0 (v12.Rules).length,(dI v12.Week), .own 5 0 (v6.1).length,(dI 2)]) rfl rfl (by repeat (first | exact qA.nil | apply qA.cons | exact FzR.d _ | exact FzR.own rfl (by first | rfl | (simp; done) | (simp; omega)) | exact FzR.ptr rfl (by repeat (first | exact Drp.z _ | apply Drp.d)) | exact FzR.own' | exact FzR.ptr' | exact FzR.ref _ | apply FzR.agg | apply FzR.tup | apply FzR.fn | exact FzR.dead _)) (FzL.nil))) (aC ?_)
 cases h0
 exact fO (rs := [.cell 10 34, .tmp 11]) [8,9,10,5] rfl
theorem vX {p0 : ByteArray} {r : Bool} (h0 : lV p0 = some r) : FnC Tryz.prog 65 [] [dS p0] [] (dB r) := by
 refine fi 50 tok Tryz.func65 ?_
 unfold lV at h0
 refine sq [0] (pa (nx (aB ?_)))
 obtain ⟨v1,h1,h0⟩ := bnd h0
 refine bF ⟨aA (aA ((fun _ => .dead)) 0 (dS p0)) 14 (dB v1),lks [.no, .no, .no]⟩ ?_ ?_
 refine sr [0,1,2,3,4,5,6,7] (pm ?_)
 refine rP rfl (mM tok rfl rfl rfl) (rP rfl (bB rfl rfl) (pm ?_))
 refine jW (u := 10) h1 rfl (fun hc h1 => ?_) (fun hc h1 => ?_)
 iterate 3 refine k1 ?_
 refine pkt (nx ?_)
 cases h1
 exact wk [0,1,2]
 refine pm1 ?_
 refine rp rfl (w1 rfl rfl rfl) rfl (mM tok rfl rfl rfl) (rp rfl (w1 rfl rfl rfl) rfl (gT rfl rfl) (pkf (nx ?_)))
 cases h1
 exact wk [0,1,2]
 refine bZ h0 rfl (fun hc h0 => ?_) (fun hc h0 => ?_)
 refine sq [0] (pa (nx (aC (aJ ?_))))
 cases h0
 exact r0t 2 rfl
 refine sk ?_
 obtain ⟨v13x,h1,h0⟩ := bnd h0
 refine eL v13x (fun v13 => ⟨(fun _ => .dead),lks [.no, .no, .no]⟩) ?_ ?_
 refine sq [0,1,2,3] (pm ?_)
 obtain ⟨hq2,h1⟩ := cR h1
 refine rS rfl (aRq tok hq2 rfl rfl rfl rfl rfl rfl rfl) (rP rfl (aK tok rfl rfl rfl) (pm (nx (aE ?_))))
 refine aY (fun s8 => ⟨aA (aA (aA ((fun _ => .dead)) 16 (dL cU8 (dD p0))) 17 (dI ((dD p0).length : Int))) 18 (dI s8),lks [.no, .no, .no]⟩) h1 ?_ (fun s8 y h2 => ?_)
 exact wk [0,1,2]
 refine sq [0] (rP rfl (bB rfl rfl) (nx (aB ?_)))
 refine bC h2 rfl (fun hc h2 => ?_) (fun hc h2 => ?_)
 refine sk (aB (aE (sq [0,1,2,3,4] (pm ?_))))
 obtain ⟨v9,hv9,h2⟩ := bnd h2
 refine rP rfl (cG tok hv9 rfl rfl rfl rfl rfl rfl) (lr tok ?_)
 refine pa ?_
 refine pa (nx ?_)
 obtain ⟨v10,h3,h2⟩ := bnd h2
 refine bF ⟨aA (aA (aA (aA (aA (aA ((fun _ => .dead)) 3 (dI s8)) 4 (.d (.v (.int .u8 v9)))) 5 (dB v10)) 16 (dL cU8 (dD p0))) 17 (dI ((dD p0).length : Int))) 18 (dI s8),lks [.no, .no, .no]⟩ ?_ ?_
 refine sr [0,1,2,3,4,5,6] (pm ?_)
 refine rP rfl (sJ rfl rfl) (pm ?_)
 refine jW (u := 25) h3 rfl (fun hc h3 => ?_) (fun hc h3 => ?_)
 refine pm1 ?_
 refine rp rfl (w1 rfl rfl rfl) rfl (jK rfl rfl) (pkt ?_)
 refine pa (nx ?_)
 cases h3
 exact wk [0,1,2]
 refine k1 ?_
 refine k1 ?_
 refine pkf ?_
 refine pa (nx ?_)
 cases h3
 exact wk [0,1,2]
 obtain ⟨v11,h3,h2⟩ := bnd h2
 refine bF ⟨aA (aA (aA (aA (aA (aA ((fun _ => .dead)) 3 (dI s8)) 5 (dB v10)) 6 (dB v11)) 16 (dL cU8 (dD p0))) 17 (dI ((dD p0).length : Int))) 18 (dI s8),lks [.no, .no, .no]⟩ ?_ ?_
 refine sr [0,1,2,3,4,5,6,7,8,9,10] (pm ?_)
 refine rP rfl (sJ rfl rfl) (pm ?_)
 refine jW (u := 31) h3 rfl (fun hc h3 => ?_) (fun hc h3 => ?_)
 refine pm1 ?_
 refine rp rfl (w1 rfl rfl rfl) rfl (jK rfl rfl) (pkt ?_)
 refine pm ?_
 refine jW (u := 35) h3 rfl (fun hc h3 => ?_) (fun hc h3 => ?_)
 refine k1 ?_
 refine k1 ?_
 refine pkt ?_
 refine pa (nx ?_)
 cases h3
 exact wk [0,1,2]
 refine pm1 ?_
 refine rp rfl (w1 rfl rfl rfl) rfl (nD rfl rfl) (pkf ?_)
 refine pa (nx ?_)
 cases h3
 exact wk [0,1,2]
 refine k1 ?_
 refine k1 ?_
 refine pkf ?_
 refine pm ?_
 refine pm1 ?_
 refine rp rfl (w1 rfl rfl rfl) rfl (nD rfl rfl) (pkf ?_)
 refine pa (nx ?_)
 cases h3
 exact wk [0,1,2]
 obtain ⟨v12,h3,h2⟩ := bnd h2
 refine bF ⟨aA (aA (aA (aA ((fun _ => .dead)) 16 (dL cU8 (dD p0))) 17 (dI ((dD p0).length : Int))) 18 (dI s8)) 48 (dB v12),lks [.no, .no, .no]⟩ ?_ ?_
 refine sr [0,1,2,3,4,5,6,7,8,9] (pm ?_)
 refine rP rfl (cJ rfl) (pm ?_)
 refine fI (u := 41) h3 rfl (fun hc h3 => ?_) (fun hc h3 => ?_)
 refine pm1 ?_
 refine rp rfl (w1 rfl rfl rfl) rfl (nD rfl rfl) (pm1 ?_)
 refine jW (u := 44) h3 rfl (fun hc h3 => ?_) (fun hc h3 => ?_)
 refine k1 ?_
 refine k1 ?_
 refine aT1 ?_
 refine pkt (nx ?_)
 cases h3
 exact wk [0,1,2]
 refine pm1 ?_
 refine rp rfl (w1 rfl rfl rfl) rfl (cJ rfl) (aTh ?_)
 refine pkt (nx ?_)
 cases h3
 exact wk [0,1,2]
 iterate 6 refine k1 ?_
 refine pkf (nx ?_)
 cases h3
 exact wk [0,1,2]
 refine bZ h2 rfl (fun hc h2 => ?_) (fun hc h2 => ?_)
 refine sq [0] (pa (nx (aC ?_)))
 refine bA (aJ ?_)
 cases h2
 refine dZ ⟨_,rfl,fun e => ?_⟩
 subst e
 refine bA ?_
 replace h0 := gU h0
 refine aJ ?_
 cases h0
 exact r0t 2 rfl
 refine cT (aZ (aF (sr [0,1] (rP rfl (bD rfl rfl) (pm (aV ?_))))))
 refine bX ?_
 cases h2
 refine ⟨_,rfl,?_⟩
 exact wk [0,1,2]
 refine bH (cC ?_)
 cases h2
 refine cA ⟨_,rfl,fun e => ?_⟩
 subst e
 refine aR (aF ?_)
 refine ⟨_,rfl,?_⟩
 exact wk [0,1,2]
 rintro v13 rfl
 replace h0 := nN h0
 refine sq [0] (pa (nx (aC ?_)))
 cases h0
 exact r0t 2 rfl
theorem gS {p0 : Int} {p1 : Int} {p2 : Int} {r : Bool} (h0 : eG p0 p1 p2 = some r) : FnC Tryz.prog 42 [] [dI p0,(dI p1),(dI p2)] [] (dB r) := by
 refine fi 15 tok Tryz.func42 ?_
 unfold eG at h0
 refine sq [0] (pa (nx (sq [0,1,2,3,4,5,6,7,8] ?_)))
 refine pm ?_
 refine pm ?_
 refine rP rfl (sJ rfl rfl) (pm ?_)
 refine jW (u := 10) h0 rfl (fun hc h0 => ?_) (fun hc h0 => ?_)
 refine pm1 ?_
 refine pm1 ?_
 refine rp rfl (w1 rfl rfl rfl) rfl (jK rfl rfl) (pkt ?_)
 refine pa (nx (aC ?_))
 cases h0
 exact r0t 6 rfl
 iterate 3 refine k1 ?_
 refine pkf ?_
 refine pa (nx (aC ?_))
 cases h0
 exact r0t 6 rfl
theorem uB {p0 : bG} {p1 : bG} {r : Bool} (h0 : iE p0 p1 = some r) : FnC Tryz.prog 137 [] [.agg [dS p0.Name,(dI p0.Days),(dI p0.Leap)], .ref (aT p1)] [] (dB r) := by
 refine fi 9 tok Tryz.func137 ?_
 unfold iE at h0
 refine sq [0,1] (bxx 3 ?_)
 refine pa (nx (sq [0,1,2,3,4,5] ?_))
 refine fa tok ?_
 refine ld tok ?_
 refine fr tok ?_
 refine lr tok ?_
 refine rP rfl (aGm rfl rfl) (pa (nx (aC ?_)))
 cases h0
 exact r0t 3 rfl
theorem fT {p0 : List bG} {p1_0 : bG} {r : Int} (h0 : cD p0 p1_0 = some r) : FnC Tryz.prog 210 [] [dL aT p0, .fn 137 [.ref (aT p1_0)]] [] (dI r) := by
 refine fi 19 tok Tryz.func210 ?_
 unfold cD at h0
 refine sq [0] (pa (nx ?_))
 obtain ⟨v7x,h1,h0⟩ := bnd h0
 refine eL v7x (fun v7 => ⟨(fun _ => .dead),lks [.no, .no, .no]⟩) ?_ ?_
 refine sq [0,1,2] (pm ?_)
 refine rP rfl (aK tok rfl rfl rfl) (pm (nx (aE ?_)))
 refine aY (fun s4 => ⟨aA (aA (aA (aA ((fun _ => .dead)) 0 (dL aT p0)) 1 (.fn 137 [.ref (aT p1_0)])) 7 (dI (p0.length : Int))) 8 (dI s4),lks [.no, .no, .no]⟩) h1 ?_ (fun s4 y h2 => ?_)
 exact wk [0,1,2]
 refine sq [0] (rP rfl (bB rfl rfl) (nx (aB ?_)))
 refine bC h2 rfl (fun hc h2 => ?_) (fun hc h2 => ?_)
 refine sk (aB (aE (sq [0,1] (pm ?_))))
 refine pa (nx (sq [0,1,2,3,4,5] ?_))
 refine rP rfl (aL (r := .fn _ _) rfl) (pm ?_)
 refine pm ?_
 obtain ⟨v5,hv5,h2⟩ := bnd h2
 refine rP rfl (cG tok hv5 rfl rfl rfl rfl rfl rfl) (rP rfl (bR tok rfl rfl rfl (by repeat (first | exact kE.z _ | apply kE.t))) ?_)
 obtain ⟨v6,hv6,h2⟩ := bnd h2
 refine rS rfl (aQ 3 (uB hv6) rfl rfl rfl) (nx ?_)
 refine bZ h2 rfl (fun hc h2 => ?_) (fun hc h2 => ?_)
 refine sq [0,1] (pm ?_)
 refine pa (nx (aC ?_))
 refine bA (aJ ?_)
 cases h2
 refine dZ ⟨_,rfl,fun e => ?_⟩
 subst e
 refine bA ?_
 replace h0 := gU h0
 refine aJ ?_
 cases h0
 exact r0t 4 rfl
 refine cT (aZ (aF (sr [0,1] (rP rfl (bD rfl rfl) (pm (aV ?_))))))
 refine bX ?_
 cases h2
 refine ⟨_,rfl,?_⟩
 exact wk [0,1,2]
 refine bH (cC ?_)
 cases h2
 refine cA ⟨_,rfl,fun e => ?_⟩
 subst e
 refine aR (aF ?_)
 refine ⟨_,rfl,?_⟩
 exact wk [0,1,2]
 rintro v7 rfl
 replace h0 := nN h0
 refine sq [0] (pa (nx (aC ?_)))
 cases h0
 exact r0t 4 rfl
theorem fE {p0 : List bG} {p1_0 : bG} {r : Bool} (h0 : bM p0 p1_0 = some r) : FnC Tryz.prog 136 [] [dL aT p0, .fn 137 [.ref (aT p1_0)]] [] (dB r) := by
 refine fi 9 tok Tryz.func136 ?_
 unfold bM at h0
 refine sq [0] (pa (nx (sq [0,1,2,3,4] ?_)))
 refine pm ?_
 refine rP rfl (aL (r := .fn _ _) rfl) ?_
 obtain ⟨v1,hv1,h0⟩ := bnd h0
 refine rS rfl (aQ 3 (fT hv1) rfl rfl rfl) (rP rfl (sJ rfl rfl) (pa (nx (aC ?_))))
 cases h0
 exact r0t 4 rfl
theorem aB6 {p0 : Int} {p1 : Int} {r : Int} (h0 : qY p0 p1 = some r) : FnC Tryz.prog 143 [] [dI p0,(dI p1)] [] (dI r) := by
 refine fi 16 tok Tryz.func143 ?_
 unfold qY at h0
 refine sq [0] (pa (nx ?_))
 obtain ⟨v5,h1,h0⟩ := bnd h0
 refine bF ⟨aA ((fun _ => .dead)) 0 (dI v5),lks [.no, .no, .no]⟩ ?_ ?_
 refine aE ?_
 refine aY (fun s3 => ⟨aA (aA ((fun _ => .dead)) 0 (dI s3.1)) 1 (dI s3.2),lks [.no, .no, .no]⟩) h1 ?_ (fun s3 y h2 => ?_)
 exact wk [0,1,2]
 refine aB (sq [0,1] (pm ?_))
 refine rP rfl (cQ rfl rfl) (nx ?_)
 refine bC h2 rfl (fun hc h2 => ?_) (fun hc h2 => ?_)
 refine sk (aE (aI (is := [0,1,2,3,4,5]) [0,0,0,6,3,31] follows (by kernel_rfl) ?_))
 iterate 3 refine tpm ?_
 obtain ⟨hq4,h2⟩ := cR h2
 refine tP rfl (lG rfl rfl hq4) (tpa ?_)
 refine tpa ?_
 refine bY ?_
 refine ⟨by kernel_rfl,?_⟩
 refine aZ (bX ?_)
 cases h2
 refine ⟨_,rfl,?_⟩
 exact wk [0,1,2]
 refine bH (cC ?_)
 cases h2
 refine cA ⟨_,rfl,fun e => ?_⟩
 subst e
 refine aR (aF ?_)
 exact wk [0,1,2]
 refine aB (sq [0,1] (pm ?_))
 refine rP rfl (bB rfl rfl) (nx ?_)
 refine bC h0 rfl (fun hc h0 => ?_) (fun hc h0 => ?_)
 refine sq [0,1,2] (pm ?_)
 refine rP rfl (wL rfl) (pa (nx (aC (aJ ?_))))
 cases h0
 exact r0t 4 rfl
 refine sk (sq [0,1] (pm ?_))
 refine pa (nx (aC ?_))
 cases h0
 exact r0t 4 rfl
theorem pW {p0 : List aO} {r : Int} (h0 : gF p0 = some r) : FnC Tryz.prog 138 [] [dL aG p0] [] (dI r) := by
 refine fi 25 tok Tryz.func138 ?_
 unfold gF at h0
 refine sq [0] (pa (nx (sq [0] ?_)))
 refine pa (nx ?_)
 obtain ⟨v11,h1,h0⟩ := bnd h0
 refine bF ⟨aA ((fun _ => .dead)) 3 (dI v11),lks [.no, .no, .no]⟩ ?_ ?_
 refine sq [0,1,2] (pm ?_)
 refine rP rfl (aK tok rfl rfl rfl) (pm (nx (aE ?_)))
 refine aY (fun s6 => ⟨aA (aA (aA (aA ((fun _ => .dead)) 3 (dI s6.1)) 6 (dL aG p0)) 7 (dI (p0.length : Int))) 8 (dI s6.2),lks [.no, .no, .no]⟩) h1 ?_ (fun s6 y h2 => ?_)
 exact wk [0,1,2]
 refine sq [0] (rP rfl (bB rfl rfl) (nx (aB ?_)))
 refine bC h2 rfl (fun hc h2 => ?_) (fun hc h2 => ?_)
 refine sk ?_
 obtain ⟨v10,h3,h2⟩ := bnd h2
 refine bF ⟨aA (aA (aA (aA ((fun _ => .dead)) 3 (dI v10)) 6 (dL aG p0)) 7 (dI (p0.length : Int))) 8 (dI s6.2),lks [.no, .no, .no]⟩ ?_ ?_
 refine aE (sq [0,1,2,3] ?_)
 obtain ⟨v7,hv7,h3⟩ := bnd h3
 refine rP rfl (cG tok hv7 rfl rfl rfl rfl rfl rfl) (rP rfl (bR tok rfl rfl rfl (by repeat (first | exact kE.z _ | apply kE.t))) (al 3 [z0,z0,(dB false)] tok ?_))
 refine bst tok (nx (sq [0,1] ?_))
 refine pm ?_
 refine rP rfl (jK rfl rfl) (nx ?_)
 refine bC h3 rfl (fun hc h3 => ?_) (fun hc h3 => ?_)
 refine aI (is := [0,1,2,3,6,7,4,5,8,9]) [0,0,0,4,14,31,0,64,255,511] follows (by kernel_rfl) (tpm ?_)
 refine tpm ?_
 refine tfa tok ?_
 refine tld tok ?_
 refine tfa tok ?_
 refine tld tok ?_
 obtain ⟨v8,hv8,h3⟩ := bnd h3
 refine oH rfl w0 rfl (dJ 4 (aB6 hv8) rfl rfl rfl) ?_
 obtain ⟨hq9,h3⟩ := cR h3
 refine tP rfl (rO rfl rfl hq9) (tP rfl (eH rfl rfl) (tpa ?_))
 refine bY ?_
 refine ⟨by kernel_rfl,?_⟩
 refine aZ (aF ?_)
 cases h3
 exact wk [0,1,2]
 refine cT (aZ (aF ?_))
 cases h3
 exact wk [0,1,2]
 refine sr [0,1] (rP rfl (bD rfl rfl) (pm (aV ?_)))
 refine bX ?_
 cases h2
 refine ⟨_,rfl,?_⟩
 exact wk [0,1,2]
 refine bH (cC ?_)
 cases h2
 refine cA ⟨_,rfl,fun e => ?_⟩
 subst e
 refine aR (aF ?_)
 exact wk [0,1,2]
 refine sq [0,1] (pm ?_)
 refine pa (nx (aC ?_))
 cases h0
 exact r0t 2 rfl
end Go.Proofs.YtgcdbbidmfdonaaGreat
