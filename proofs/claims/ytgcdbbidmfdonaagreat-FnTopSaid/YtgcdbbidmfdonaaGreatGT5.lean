/- Texts of this claim, one behind the other (merged by a program of mine). -/
import Derived.Test.YtgcdbbidmfdonaaGreatProg
import Derived.Test.YtgcdbbidmfdonaaGreatGT4
set_option linter.unusedSimpArgs false
set_option linter.unusedVariables false
namespace Go.Proofs.YtgcdbbidmfdonaaGreat
open Go.RowKit
set_option linter.unusedVariables false
set_option maxRecDepth 100000
set_option maxHeartbeats 2000000
theorem aAf {p0 : ByteArray} {p1 : Int} {p2 : Int} {p3 : aA} {p4 : Int} {r : aX × Int} (h0 : iA p0 p1 p2 p3 p4 = some r) : FnC Tryz.prog 31 [] [dS p0,(dI p1),(dI p2), .agg [dS p3.Name,(dL aM p3.Months),(dL aB p3.Rules),(dI p3.Week)],(dI p4)] [.live [⟨125,4, .data (List.map bC r.1.Works.Meshes)⟩], .live [⟨170,3, .data (List.map aM r.1.Calendar.Months)⟩], .live [⟨181,3, .data (List.map aB r.1.Calendar.Rules)⟩], .live [⟨2,1, .data (List.map cI r.1.Cam)⟩]] (.tup [.agg [dS r.1.Name,(dL aL r.1.Works.Arbors), .own 0 0 r.1.Works.Meshes.length,(dI r.1.Minute),(dI r.1.Hour),(dI r.1.Escape),(dI r.1.Teeth),(dI r.1.Beats),(dS r.1.Calendar.Name), .own 1 0 r.1.Calendar.Months.length, .own 2 0 r.1.Calendar.Rules.length,(dI r.1.Calendar.Week), .own 3 0 r.1.Cam.length,(dI r.1.Strike)],(dI r.2)]) := by
 refine fi 76 tok Tryz.func31 ?_
 unfold iA at h0
 refine sq [0,1,2] (bxx 3 ?_)
 refine al 4 [ze,zl,zl,z0,z0,z0,z0,z0,ze,zl,zl,z0,zl,z0] tok ?_
 refine pa (nx (aG (sq [0,1] ?_)))
 obtain ⟨v1,hv1,h0⟩ := bnd h0
 refine rS rfl (eE 5 (wN hv1) rfl rfl) (rP rfl (bO rfl) (nx ?_))
 refine bL h0 rfl (fun hc h0 => ?_) (fun hc h0 => ?_)
 refine sq [0,1,2] (rP rfl (pbl (C0 := [ze,zl,zl,z0,z0,z0,z0,z0,ze,zl,zl,z0,zl,z0]) tok rfl rfl rfl) (bst tok ?_))
 refine pa (nx ?_)
 refine wa 5 123 2 4 1 ?_
 refine cJ (eU 6 (k := 5) 2 1 aL rfl rfl) (cJ (mN (k := 5) (kf := 6) rfl rfl (fun _ => rfl) rfl) (cJ (tU (k := 5) (t' := aE (aE ((fun _ => .dead)) 10 (.ptr 4 0 1 0 0)) 11 (dI 1)) rfl (FzL.box (kb := 4) (ds := [ze,(dL aL ([] : List cQ)),zl,z0,z0,z0,z0,z0,ze,zl,zl,z0,zl,z0]) rfl rfl (by repeat (first | exact fX.nil | apply fX.cons | exact FzR.d _ | exact FzR.own rfl (by first | rfl | (simp; done) | (simp; omega)) | exact FzR.ptr rfl (by repeat (first | exact Drp.z _ | apply Drp.d)) | exact FzR.own' | exact FzR.ptr' | exact FzR.ref _ | apply FzR.agg | apply FzR.tup | apply FzR.fn | exact FzR.dead _)) (FzL.nil))) (wa 7 125 4 4 2 ?_)))
 refine wa 8 170 3 4 9 ?_
 refine wa 9 181 3 4 10 ?_
 refine wa 10 2 1 4 12 (aD (aS ?_))
 cases h0
 exact dJ (rs := [.cell 10 34, .tmp 11]) [7,8,9,10] rfl
 refine sk (aG (sq [0,1,2] (pm ?_)))
 obtain ⟨v2,hv2,h0⟩ := bnd h0
 refine rS rfl (aO 5 (tF hv2) rfl rfl rfl) (rP rfl (bO rfl) (nx ?_))
 refine bL h0 rfl (fun hc h0 => ?_) (fun hc h0 => ?_)
 refine sq [0,1,2] (rP rfl (pbl (C0 := [ze,zl,zl,z0,z0,z0,z0,z0,ze,zl,zl,z0,zl,z0]) tok rfl rfl rfl) (bst tok ?_))
 refine pa (nx ?_)
 refine wa 5 123 2 4 1 ?_
 refine cJ (eU 6 (k := 5) 2 1 aL rfl rfl) (cJ (mN (k := 5) (kf := 6) rfl rfl (fun _ => rfl) rfl) (cJ (tU (k := 5) (t' := aE (aE ((fun _ => .dead)) 10 (.ptr 4 0 1 0 0)) 11 (dI 7)) rfl (FzL.box (kb := 4) (ds := [ze,(dL aL ([] : List cQ)),zl,z0,z0,z0,z0,z0,ze,zl,zl,z0,zl,z0]) rfl rfl (by repeat (first | exact fX.nil | apply fX.cons | exact FzR.d _ | exact FzR.own rfl (by first | rfl | (simp; done) | (simp; omega)) | exact FzR.ptr rfl (by repeat (first | exact Drp.z _ | apply Drp.d)) | exact FzR.own' | exact FzR.ptr' | exact FzR.ref _ | apply FzR.agg | apply FzR.tup | apply FzR.fn | exact FzR.dead _)) (FzL.nil))) (wa 7 125 4 4 2 ?_)))
 refine wa 8 170 3 4 9 ?_
 refine wa 9 181 3 4 10 ?_
 refine wa 10 2 1 4 12 (aD (aS ?_))
 cases h0
 exact dJ (rs := [.cell 10 34, .tmp 11]) [7,8,9,10] rfl
 refine sk (aG ?_)
 obtain ⟨v5,h1,h0⟩ := bnd h0
 refine bG ⟨aE (aE (aE (aE (aE (aE (aE ((fun _ => .dead)) 0 (dS p0)) 1 (dI p1)) 2 (dI p2)) 4 (dI p4)) 8 (.ptr 3 0 1 0 0)) 10 (.ptr 4 0 1 0 0)) 32 (dB v5),lks [.no, .no, .no, .live [⟨31,4, .av [[dS p3.Name,(dL aM p3.Months),(dL aB p3.Rules),(dI p3.Week)]]⟩], .live [⟨34,14, .av [[ze,zl,zl,z0,z0,z0,z0,z0,ze,zl,zl,z0,zl,z0]]⟩]]⟩ ?_ ?_
 refine sr [0,1,2,3,4,5,6,7] (pm ?_)
 obtain ⟨v3,hv3,h1⟩ := bnd h1
 refine rS rfl (aO 5 (cZ hv3) rfl rfl rfl) (rP rfl (bO rfl) (pm ?_))
 refine dH (u := 28) h1 rfl (fun hc h1 => ?_) (fun hc h1 => ?_)
 iterate 3 refine k1 ?_
 refine pkt (nx ?_)
 cases h1
 exact wk [0,1,2,3,4]
 refine pm1 ?_
 obtain ⟨v4,hv4,h1⟩ := bnd h1
 refine rs rfl (w1 rfl rfl rfl) rfl (aO 5 (qC hv4) rfl rfl rfl) (rp rfl (w1 rfl rfl rfl) rfl (bO rfl) (pkf (nx ?_)))
 cases h1
 exact wk [0,1,2,3,4]
 refine bL h0 rfl (fun hc h0 => ?_) (fun hc h0 => ?_)
 refine sq [0,1,2] (rP rfl (pbl (C0 := [ze,zl,zl,z0,z0,z0,z0,z0,ze,zl,zl,z0,zl,z0]) tok rfl rfl rfl) (bst tok ?_))
 refine pa (nx ?_)
 refine wa 5 123 2 4 1 ?_
 refine cJ (eU 6 (k := 5) 2 1 aL rfl rfl) (cJ (mN (k := 5) (kf := 6) rfl rfl (fun _ => rfl) rfl) (cJ (tU (k := 5) (t' := aE (aE ((fun _ => .dead)) 10 (.ptr 4 0 1 0 0)) 11 (dI 2)) rfl (FzL.box (kb := 4) (ds := [ze,(dL aL ([] : List cQ)),zl,z0,z0,z0,z0,z0,ze,zl,zl,z0,zl,z0]) rfl rfl (by repeat (first | exact fX.nil | apply fX.cons | exact FzR.d _ | exact FzR.own rfl (by first | rfl | (simp; done) | (simp; omega)) | exact FzR.ptr rfl (by repeat (first | exact Drp.z _ | apply Drp.d)) | exact FzR.own' | exact FzR.ptr' | exact FzR.ref _ | apply FzR.agg | apply FzR.tup | apply FzR.fn | exact FzR.dead _)) (FzL.nil))) (wa 7 125 4 4 2 ?_)))
 refine wa 8 170 3 4 9 ?_
 refine wa 9 181 3 4 10 ?_
 refine wa 10 2 1 4 12 (aD (aS ?_))
 cases h0
 exact dJ (rs := [.cell 10 34, .tmp 11]) [7,8,9,10] rfl
 refine sk (sq [0,1,2,3,4,5,6,7,8,9] (rL rfl (aU tok rfl rfl rfl rfl) (pm ?_)))
 obtain ⟨v6,hv6,h0⟩ := bnd h0
 refine rS rfl (aO 5 (aKe hv6) rfl rfl rfl) (rP rfl (aH (r := .tup _) rfl) ?_)
 iterate 3 refine rP rfl (aQ rfl rfl) ?_
 refine rP rfl (aR (r := .own _ _ _) rfl) (pa ?_)
 refine pa (nx (aG (sq [0,1] ?_)))
 refine pm ?_
 refine rP rfl (fA rfl rfl) (nx ?_)
 refine bM h0 rfl (fun hc h0 => ?_) (fun hc h0 => ?_)
 refine sq [0,1,2,3] (rP rfl (pbl (C0 := [ze,zl,zl,z0,z0,z0,z0,z0,ze,zl,zl,z0,zl,z0]) tok rfl rfl rfl) (pm ?_))
 refine bst tok ?_
 refine pa (nx ?_)
 refine wa 6 123 2 4 1 ?_
 refine cJ (eU 7 (k := 6) 2 1 aL rfl rfl) (cJ (mN (k := 6) (kf := 7) rfl rfl (fun _ => rfl) rfl) (cJ (tU (k := 6) (t' := aE (aE ((fun _ => .dead)) 10 (.ptr 4 0 1 0 0)) 11 (dI v6.2.2)) rfl (FzL.box (kb := 4) (ds := [ze,(dL aL ([] : List cQ)),zl,z0,z0,z0,z0,z0,ze,zl,zl,z0,zl,z0]) rfl rfl (by repeat (first | exact fX.nil | apply fX.cons | exact FzR.d _ | exact FzR.own rfl (by first | rfl | (simp; done) | (simp; omega)) | exact FzR.ptr rfl (by repeat (first | exact Drp.z _ | apply Drp.d)) | exact FzR.own' | exact FzR.ptr' | exact FzR.ref _ | apply FzR.agg | apply FzR.tup | apply FzR.fn | exact FzR.dead _)) (FzL.nil))) (wa 8 125 4 4 2 ?_)))
 refine wa 9 170 3 4 9 ?_
 refine wa 10 181 3 4 10 ?_
 refine wa 11 2 1 4 12 (aD (aS ?_))
 cases h0
 exact dJ (rs := [.cell 10 34, .tmp 11]) [8,9,10,11] rfl
 refine sk (sq [0,1,2,3,4,5,6,7,8,9] (pm ?_))
 refine pm ?_
 refine rP rfl (fO rfl rfl) ?_
 obtain ⟨v7,hv7,h0⟩ := bnd h0
 refine rS rfl (aO 6 (nZ hv7) rfl rfl rfl) (rP rfl (aH (r := .tup _) rfl) (rP rfl (aQ rfl rfl) (rP rfl (aQ rfl rfl) (al 6 [z0,z0] tok ?_))))
 refine bst tok ?_
 refine pa (nx (aG ?_))
 refine aF (is := [0,1,2,3,4,5,6,7,8]) [0,0,3,7,15,15,0,95,255] follows (by kernel_rfl) (bS rfl w0 rfl (aU tok rfl rfl rfl rfl) rfl rfl rfl ?_)
 obtain ⟨v8,hv8,h0⟩ := bnd h0
 refine jB rfl w0 rfl (cP 8 (aGx hv8) rfl rfl rfl) ?_
 obtain ⟨v9,hv9,h0⟩ := bnd h0
 refine jB rfl w0 rfl (cP 8 (aGc hv9) rfl rfl rfl) (tP rfl (aH (r := .tup _) rfl) (tP rfl (aQ rfl rfl) (tP rfl (aQ rfl rfl) (aBa rfl w0 rfl rfl (fun hx hk => jJ 7 (cs := [zl,z0,z0]) tok rfl rfl hk) (iK rfl w0 (fQ (cs := _ :: _) tok rfl rfl rfl rfl rfl rfl rfl) (tpa ?_))))))
 refine bE ?_
 refine ⟨by kernel_rfl,?_⟩
 refine aI (aG ?_)
 obtain ⟨v10,h1,h0⟩ := bnd h0
 refine bG ⟨aE (aE (aE (aE (aE (aE (aE (aE ((fun _ => .dead)) 0 (dS p0)) 1 (dI p1)) 2 (dI p2)) 8 (.ptr 3 0 1 0 0)) 10 (.ptr 4 0 1 0 0)) 12 (.own 5 0 (v6.1).length)) 17 (.ptr 6 0 1 0 0)) 65 (dB v10),lks [.no, .no, .no, .live [⟨31,4, .av [[dS p3.Name,(dL aM p3.Months),(dL aB p3.Rules),(dI p3.Week)]]⟩], .live [⟨34,14, .av [[ze,zl,zl,z0,z0,z0,z0,z0,ze,zl,zl,z0,zl,z0]]⟩], .live [⟨2,1, .data (List.map cI v6.1)⟩], .live [⟨115,3, .av [[dL eY v9.1.Train,(dI v9.1.Error.Num),(dI v9.1.Error.Den)]]⟩]]⟩ ?_ ?_
 refine sr [0,1,2,3,4,5,6,7] (pm ?_)
 refine rP rfl (fA rfl rfl) (pm ?_)
 refine gT (u := 60) h1 rfl (fun hc h1 => ?_) (fun hc h1 => ?_)
 iterate 4 refine k1 ?_
 refine pkt (nx ?_)
 cases h1
 exact wk [0,1,2,3,4,5,7]
 refine fa1 tok ?_
 refine fa1 tok ?_
 refine ld1 tok ?_
 refine rp rfl (w1 rfl rfl rfl) rfl (fA rfl rfl) (pkf (nx ?_))
 cases h1
 exact wk [0,1,2,3,4,5,7]
 refine bL h0 rfl (fun hc h0 => ?_) (fun hc h0 => ?_)
 refine sq [0,1,2] (rP rfl (pbl (C0 := [ze,zl,zl,z0,z0,z0,z0,z0,ze,zl,zl,z0,zl,z0]) tok rfl rfl rfl) (bst tok ?_))
 refine pa (nx ?_)
 refine wa 7 123 2 4 1 ?_
 refine cJ (eU 8 (k := 7) 2 1 aL rfl rfl) (cJ (mN (k := 7) (kf := 8) rfl rfl (fun _ => rfl) rfl) (cJ (tU (k := 7) (t' := aE (aE ((fun _ => .dead)) 10 (.ptr 4 0 1 0 0)) 11 (dI 3)) rfl (FzL.box (kb := 4) (ds := [ze,(dL aL ([] : List cQ)),zl,z0,z0,z0,z0,z0,ze,zl,zl,z0,zl,z0]) rfl rfl (by repeat (first | exact fX.nil | apply fX.cons | exact FzR.d _ | exact FzR.own rfl (by first | rfl | (simp; done) | (simp; omega)) | exact FzR.ptr rfl (by repeat (first | exact Drp.z _ | apply Drp.d)) | exact FzR.own' | exact FzR.ptr' | exact FzR.ref _ | apply FzR.agg | apply FzR.tup | apply FzR.fn | exact FzR.dead _)) (FzL.nil))) (wa 9 125 4 4 2 ?_)))
 refine wa 10 170 3 4 9 ?_
 refine wa 11 181 3 4 10 ?_
 refine wa 12 2 1 4 12 (aD (aS ?_))
 cases h0
 exact dJ (rs := [.cell 10 34, .tmp 11]) [9,10,11,12] rfl
 refine sk (sq [0,1,2,3,4,5,6,7,8,9,10] (pm ?_))
 refine fa tok ?_
 refine ld tok ?_
 obtain ⟨v11,hv11,h0⟩ := bnd h0
 refine rS rfl (aO 7 (aBi hv11) rfl rfl rfl) (pm ?_)
 refine pm ?_
 obtain ⟨v12,hv12,h0⟩ := bnd h0
 refine rS rfl (eE 9 (aFd hv12) rfl rfl) (rP rfl (aH (r := .own _ _ _) rfl) (rP rfl (pbl (C0 := [ze,zl,zl,z0,z0,z0,z0,z0,ze,zl,zl,z0,zl,z0]) tok rfl rfl rfl) (bst tok ?_)))
 refine pa (nx ?_)
 refine cJ (tU (k := 7) (t' := aE (aE ((fun _ => .dead)) 10 (.ptr 4 0 1 0 0)) 11 (z0)) rfl (FzL.box (kb := 4) (ds := [dS p0,(dL aL v11.Arbors), .own 8 0 (v11.Meshes).length,z0,(dI 4),(dI 2),(dI p2),(dI p1),(dS v12.Name), .own 9 0 (v12.Months).length, .own 10 0 (v12.Rules).length,(dI v12.Week), .own 5 0 (v6.1).length,(dI 2)]) rfl rfl (by repeat (first | exact fX.nil | apply fX.cons | exact FzR.d _ | exact FzR.own rfl (by first | rfl | (simp; done) | (simp; omega)) | exact FzR.ptr rfl (by repeat (first | exact Drp.z _ | apply Drp.d)) | exact FzR.own' | exact FzR.ptr' | exact FzR.ref _ | apply FzR.agg | apply FzR.tup | apply FzR.fn | exact FzR.dead _)) (FzL.nil))) (aD ?_)
 cases h0
 exact dJ (rs := [.cell 10 34, .tmp 11]) [8,9,10,5] rfl
theorem aOa {p0 : aA} {p1 : Int} {p2 : Int} {r : List Int} (h0 : vV p0 p1 p2 = some r) : FnC Tryz.prog 141 [] [.ref (dG p0),(dI p1),(dI p2)] [.live [⟨2,1, .data (List.map cI r)⟩]] (.own 0 0 r.length) := by
 refine fi 36 tok Tryz.func141 ?_
 unfold vV at h0
 refine sq [0] (pa (nx (sq [0,1] ?_)))
 refine rS rfl (eJ 3 tok rfl rfl rfl rfl) (rP rfl (aR (r := .own _ _ _) rfl) (nx ?_))
 obtain ⟨v17,h1,h0⟩ := bnd h0
 refine bG ⟨aE ((fun _ => .dead)) 7 (.own 3 0 (v17).length),lks [.no, .no, .no, .live [⟨2,1, .data (List.map cI v17)⟩]]⟩ ?_ ?_
 refine sq [0,1] (pm ?_)
 refine pa (nx (aK ?_))
 refine bD (fun s9 => ⟨aE (aE (aE (aE (aE ((fun _ => .dead)) 0 (.ref (dG p0))) 1 (dI p1)) 2 (dI p2)) 7 (.own 3 0 (s9.2).length)) 8 (dI s9.1),lks [.no, .no, .no, .live [⟨2,1, .data (List.map cI s9.2)⟩]]⟩) h1 ?_ (fun s9 y h2 => ?_)
 exact wk [0,1,2,3]
 refine aG (sq [0,1,2,3,4] ?_)
 iterate 3 refine pm ?_
 refine rP rfl (bI rfl rfl) (rP rfl (bX rfl rfl) (nx ?_))
 refine bM h2 rfl (fun hc h2 => ?_) (fun hc h2 => ?_)
 refine sk ?_
 obtain ⟨v16,h3,h2⟩ := bnd h2
 refine bG ⟨aE (aE (aE (aE (aE ((fun _ => .dead)) 0 (.ref (dG p0))) 1 (dI p1)) 2 (dI p2)) 7 (.own 3 0 (v16).length)) 8 (dI s9.1),lks [.no, .no, .no, .live [⟨2,1, .data (List.map cI v16)⟩]]⟩ ?_ ?_
 refine aK (sq [0] (pa (nx (aK ?_))))
 refine bD (fun s13 => ⟨aE (aE (aE (aE (aE (aE ((fun _ => .dead)) 0 (.ref (dG p0))) 1 (dI p1)) 2 (dI p2)) 7 (.own 3 0 (s13.2).length)) 8 (dI s9.1)) 9 (dI s13.1),lks [.no, .no, .no, .live [⟨2,1, .data (List.map cI s13.2)⟩]]⟩) h3 ?_ (fun s13 y h4 => ?_)
 exact wk [0,1,2,3]
 refine aG (sq [0,1,2,3,4,5,6] (pm ?_))
 refine pmr ?_
 refine nr ?_
 refine fr tok ?_
 refine lr tok ?_
 refine rP rfl (aN tok rfl rfl rfl) (rP rfl (bX rfl rfl) (nx ?_))
 refine bM h4 rfl (fun hc h4 => ?_) (fun hc h4 => ?_)
 refine sk (aG (aK (sr [0,1,2,3,4,5,6,7] (rP rfl (aH (r := .own _ _ _) rfl) (pmr ?_)))))
 refine pm ?_
 refine pm ?_
 obtain ⟨v14,hv14,h4⟩ := bnd h4
 refine rS rfl (aO 4 (uC hv14) rfl rfl rfl) (rS rfl (iL tok cI [v14] rfl rfl rfl (by repeat (first | exact Els.nil _ | apply Els.cons (cs := [.d _]) rfl rfl rfl | apply Els.cons (cs := _ :: _) rfl rfl rfl)) rfl rfl rfl (by repeat (first | exact cX.nil | (apply cX.cons; (repeat (first | exact fZ.nil | apply fZ.cons))))) rfl) ?_)
 obtain ⟨hq15,h4⟩ := dM h4
 refine rw1 rfl w0 rfl (fP tok hq15 rfl rfl rfl rfl rfl rfl rfl rfl rfl rfl rfl rfl (fun _ => rfl)) (rP rfl (aR (r := .own _ _ _) rfl) (bB (bF (aI (sr [0,1,2] (pm ?_))))))
 refine rP rfl (bI rfl rfl) (pa (bB ?_))
 refine cA ?_
 cases h4
 refine ⟨_,rfl,?_⟩
 exact wk [0,1,2,3]
 refine bK (bY ?_)
 cases h4
 refine cC ⟨_,rfl,fun e => ?_⟩
 subst e
 refine aY ?_
 refine bF (aI ?_)
 exact wk [0,1,2,3]
 refine sr [0,1,2] (pm ?_)
 refine rP rfl (bI rfl rfl) (pa (bB ?_))
 refine cA ?_
 cases h2
 refine ⟨_,rfl,?_⟩
 exact wk [0,1,2,3]
 refine bK (bY ?_)
 cases h2
 refine cC ⟨_,rfl,fun e => ?_⟩
 subst e
 refine aY (aI ?_)
 exact wk [0,1,2,3]
 refine sq [0,1] (rP rfl (aH (r := .own _ _ _) rfl) (rP rfl (aR (r := .own _ _ _) rfl) (nx (aD ?_))))
 cases h0
 exact dJ (rs := [.tmp 6]) [3] rfl
theorem aF5 {p0 : bN} {r : aX × bN} (h0 : lE p0 = some r) : FnC Tryz.prog 64 [.live [⟨157,3, .av [[dL cU8 p0.code,(dI p0.at_), .d (.v (.int .u64 p0.seed))]]⟩]] [.ptr 0 0 1 0 0] [.live [⟨157,3, .av [[dL cU8 r.2.code,(dI r.2.at_), .d (.v (.int .u64 r.2.seed))]]⟩], .live [⟨125,4, .data (List.map bC r.1.Works.Meshes)⟩], .live [⟨2,1, .data (List.map cI r.1.Cam)⟩]] (.agg [dS r.1.Name,(dL aL r.1.Works.Arbors), .own 1 0 r.1.Works.Meshes.length,(dI r.1.Minute),(dI r.1.Hour),(dI r.1.Escape),(dI r.1.Teeth),(dI r.1.Beats),(dS r.1.Calendar.Name),(dL aM r.1.Calendar.Months),(dL aB r.1.Calendar.Rules),(dI r.1.Calendar.Week), .own 2 0 r.1.Cam.length,(dI r.1.Strike)]) := by
 refine fi 41 tok Tryz.func64 ?_
 unfold lE at h0
 refine sq [0] (al 3 [ze,zl,zl,z0,z0,z0,z0,z0,ze,zl,zl,z0,zl,z0] tok (nx (sq [0,1,2,3] ?_)))
 refine rP rfl (aH (r := .ptr _ _ _ _ _) rfl) ?_
 obtain ⟨v1,hv1,h0⟩ := bnd h0
 refine rw1 rfl w0 rfl (dU [0,4,5] 300 (aJ4 2 (aGf hv1)) rfl rfl) (al 6 [ze,zl,zl,z0] tok ?_)
 refine bst tok (nx (sq [0,1,2,3] ?_))
 refine rP rfl (aH (r := .ptr _ _ _ _ _) rfl) (rS rfl (iL tok cI [3600,7200,5400,18000,4800,3960] rfl rfl rfl (by repeat (first | exact Els.nil _ | apply Els.cons (cs := [.d _]) rfl rfl rfl | apply Els.cons (cs := _ :: _) rfl rfl rfl)) rfl rfl rfl (by repeat (first | exact cX.nil | (apply cX.cons; (repeat (first | exact fZ.nil | apply fZ.cons))))) rfl) ?_)
 obtain ⟨v2,hv2,h0⟩ := bnd h0
 refine rw1 rfl w0 rfl (dU [0] 300 (hM hv2) rfl rfl) (pa (nx (sq [0,1,2,3] ?_)))
 refine rP rfl (aH (r := .ptr _ _ _ _ _) rfl) (rS rfl (iL tok cI [30,15,36,20] rfl rfl rfl (by repeat (first | exact Els.nil _ | apply Els.cons (cs := [.d _]) rfl rfl rfl | apply Els.cons (cs := _ :: _) rfl rfl rfl)) rfl rfl rfl (by repeat (first | exact cX.nil | (apply cX.cons; (repeat (first | exact fZ.nil | apply fZ.cons))))) rfl) ?_)
 obtain ⟨v3,hv3,h0⟩ := bnd h0
 refine rw1 rfl w0 rfl (dU [0] 300 (hM hv3) rfl rfl) (pa (nx (aG ?_)))
 refine cJ (tU (k := 4) (t' := aE (aE (aE (aE (aE ((fun _ => .dead)) 0 (.ptr 0 0 1 0 0)) 2 (.ptr 3 0 1 0 0)) 3 (.ptr 6 0 1 0 0)) 4 (dI v2.1)) 5 (dI v3.1)) rfl (FzL.box (kb := 6) (ds := [dS v1.1.Name,(dL aM v1.1.Months), .own 5 0 (v1.1.Rules).length,(dI v1.1.Week)]) rfl rfl (by repeat (first | exact fX.nil | apply fX.cons | exact FzR.d _ | exact FzR.own rfl (by first | rfl | (simp; done) | (simp; omega)) | exact FzR.ptr rfl (by repeat (first | exact Drp.z _ | apply Drp.d)) | exact FzR.own' | exact FzR.ptr' | exact FzR.ref _ | apply FzR.agg | apply FzR.tup | apply FzR.fn | exact FzR.dead _)) (FzL.nil))) (cJ (tU (k := 5) (t' := aE (aE (aE (aE (aE ((fun _ => .dead)) 0 (.ptr 0 0 1 0 0)) 2 (.ptr 3 0 1 0 0)) 3 (.ptr 6 0 1 0 0)) 4 (dI v2.1)) 5 (dI v3.1)) rfl (FzL.box (kb := 6) (ds := [dS v1.1.Name,(dL aM v1.1.Months),(dL aB v1.1.Rules),(dI v1.1.Week)]) rfl rfl (by repeat (first | exact fX.nil | apply fX.cons | exact FzR.d _ | exact FzR.own rfl (by first | rfl | (simp; done) | (simp; omega)) | exact FzR.ptr rfl (by repeat (first | exact Drp.z _ | apply Drp.d)) | exact FzR.own' | exact FzR.ptr' | exact FzR.ref _ | apply FzR.agg | apply FzR.tup | apply FzR.fn | exact FzR.dead _)) (FzL.nil))) (aF (is := [0,1,2,3,4,5,6,7,8,9,10,11,12]) [0,0,0,0,8,24,63,127,255,255,0,1535,4095] follows (by kernel_rfl) (tpm ?_)))
 refine tpm ?_
 refine bS rfl w0 rfl (aU tok rfl rfl rfl rfl) rfl rfl rfl (tP rfl (aH (r := .ptr _ _ _ _ _) rfl) ?_)
 obtain ⟨v4,hv4,h0⟩ := bnd h0
 refine aMd rfl w0 rfl (by repeat (first | exact jZ _ | exact kA rfl | refine kD ?_ rfl)) (xE 0 (cY hv4) rfl rfl rfl) ?_
 refine tP rfl (bI rfl rfl) ?_
 obtain ⟨v5,hv5,h0⟩ := bnd h0
 refine jB rfl w0 rfl (cP 8 (aAf hv5) rfl rfl rfl) (tP rfl (aH (r := .tup _) rfl) (tP rfl (aQ rfl rfl) (tP rfl (aQ rfl rfl) (aBa rfl w0 rfl rfl (fun hx hk => jJ 7 (cs := [ze,zl,zl,z0,z0,z0,z0,z0,ze,zl,zl,z0,zl,z0]) tok rfl rfl hk) (iK rfl w0 (fQ (cs := _ :: _) tok rfl rfl rfl rfl rfl rfl rfl) (tpa ?_))))))
 refine bE ?_
 refine ⟨by kernel_rfl,?_⟩
 refine aI ?_
 obtain ⟨v8,h1,h0⟩ := bnd h0
 refine bG ⟨aE (aE (aE ((fun _ => .dead)) 0 (.ptr 0 0 1 0 0)) 2 (.ptr 3 0 1 0 0)) 6 (.ptr 4 0 1 0 0),lks [.live [⟨157,3, .av [[dL cU8 v4.2.code,(dI v4.2.at_), .d (.v (.int .u64 v4.2.seed))]]⟩], .no, .no, .live [⟨34,14, .av [[ze,zl,zl,z0,z0,z0,z0,z0,ze,zl,zl,z0,zl,z0]]⟩], .live [⟨34,14, .av [[dS v8.1,(dL aL v8.2.1), .own 5 0 (v8.2.2.2.2.2.2.2.2.2.1).length,(dI v8.2.2.1),(dI v8.2.2.2.1),(dI v8.2.2.2.2.1),(dI v8.2.2.2.2.2.1),(dI v8.2.2.2.2.2.2.1),(dS v8.2.2.2.2.2.2.2.1.Name),(dL aM v8.2.2.2.2.2.2.2.1.Months),(dL aB v8.2.2.2.2.2.2.2.1.Rules),(dI v8.2.2.2.2.2.2.2.1.Week), .own 6 0 (v8.2.2.2.2.2.2.2.2.2.2).length,(dI v8.2.2.2.2.2.2.2.2.1)]]⟩], .live [⟨125,4, .data (List.map bC v8.2.2.2.2.2.2.2.2.2.1)⟩], .live [⟨2,1, .data (List.map cI v8.2.2.2.2.2.2.2.2.2.2)⟩]]⟩ ?_ ?_
 refine sq [0,1] (pm ?_)
 refine rP rfl (fA rfl rfl) (nx ?_)
 refine bM h1 rfl (fun hc h1 => ?_) (fun hc h1 => ?_)
 refine aF (is := [0,1,4,2,3,5,6,7]) [0,0,3,7,0,15,63,127] follows (by kernel_rfl) (tP rfl (pbl (C0 := [z0,z0]) tok rfl rfl rfl) (tP rfl (pbl (C0 := [z0,z0]) tok rfl rfl rfl) (bS rfl w0 rfl (aU tok rfl rfl rfl rfl) rfl rfl rfl (aBa rfl w0 rfl rfl (fun hx hk => xY 12 tok eY [(⟨64,8⟩ : dW),(⟨60,8⟩ : dW)] rfl rfl rfl (by repeat (first | exact Els.nil _ | apply Els.cons (cs := [.d _]) rfl rfl rfl | apply Els.cons (cs := _ :: _) rfl rfl rfl)) rfl rfl rfl (by repeat (first | exact cX.nil | (apply cX.cons; (repeat (first | exact fZ.nil | apply fZ.cons))))) rfl hk) ?_))))
 obtain ⟨v6,hv6,h1⟩ := bnd h1
 refine jB rfl w0 rfl (cP 13 (aBi hv6) rfl rfl rfl) ?_
 obtain ⟨v7,hv7,h1⟩ := bnd h1
 refine jB rfl w0 rfl (aHb 15 (aOa hv7) rfl rfl) (tP rfl (pbl (C0 := [ze,zl,zl,z0,z0,z0,z0,z0,ze,zl,zl,z0,zl,z0]) tok rfl rfl rfl) (iK rfl w0 (fQ (cs := _ :: _) tok rfl rfl rfl rfl rfl rfl rfl) (bE ?_)))
 refine ⟨by kernel_rfl,?_⟩
 refine aI ?_
 cases h1
 refine iM.trans_ (tU (k := 13) (t' := aE (aE (aE ((fun _ => .dead)) 0 (.ptr 0 0 1 0 0)) 2 (.ptr 3 0 1 0 0)) 6 (.ptr 7 0 1 0 0)) rfl (FzL.box (kb := 7) (ds := [dS (⟨#[112,108,97,105,110]⟩ : ByteArray),(dL aL v6.Arbors), .own 14 0 (v6.Meshes).length,z0,(dI 4),(dI 2),(dI 30),(dI 3600),(dS v1.1.Name),(dL aM v1.1.Months),(dL aB v1.1.Rules),(dI v1.1.Week), .own 15 0 (v7).length,z0]) rfl rfl (by repeat (first | exact fX.nil | apply fX.cons | exact FzR.d _ | exact FzR.own rfl (by first | rfl | (simp; done) | (simp; omega)) | exact FzR.ptr rfl (by repeat (first | exact Drp.z _ | apply Drp.d)) | exact FzR.own' | exact FzR.ptr' | exact FzR.ref _ | apply FzR.agg | apply FzR.tup | apply FzR.fn | exact FzR.dead _)) (FzL.nil))) ?_
 exact wk [0,1,2,3,7,14,15]
 refine sk ?_
 cases h1
 refine iM.trans_ (tU (k := 9) (t' := aE (aE (aE ((fun _ => .dead)) 0 (.ptr 0 0 1 0 0)) 2 (.ptr 3 0 1 0 0)) 6 (.ptr 7 0 1 0 0)) rfl (FzL.box (kb := 7) (ds := [dS v5.1.Name,(dL aL v5.1.Works.Arbors), .own 8 0 (v5.1.Works.Meshes).length,(dI v5.1.Minute),(dI v5.1.Hour),(dI v5.1.Escape),(dI v5.1.Teeth),(dI v5.1.Beats),(dS v5.1.Calendar.Name),(dL aM v5.1.Calendar.Months), .own 10 0 (v5.1.Calendar.Rules).length,(dI v5.1.Calendar.Week), .own 11 0 (v5.1.Cam).length,(dI v5.1.Strike)]) rfl rfl (by repeat (first | exact fX.nil | apply fX.cons | exact FzR.d _ | exact FzR.own rfl (by first | rfl | (simp; done) | (simp; omega)) | exact FzR.ptr rfl (by repeat (first | exact Drp.z _ | apply Drp.d)) | exact FzR.own' | exact FzR.ptr' | exact FzR.ref _ | apply FzR.agg | apply FzR.tup | apply FzR.fn | exact FzR.dead _)) (FzL.nil))) (iM.trans_ (tU (k := 10) (t' := aE (aE (aE ((fun _ => .dead)) 0 (.ptr 0 0 1 0 0)) 2 (.ptr 3 0 1 0 0)) 6 (.ptr 7 0 1 0 0)) rfl (FzL.box (kb := 7) (ds := [dS v5.1.Name,(dL aL v5.1.Works.Arbors), .own 8 0 (v5.1.Works.Meshes).length,(dI v5.1.Minute),(dI v5.1.Hour),(dI v5.1.Escape),(dI v5.1.Teeth),(dI v5.1.Beats),(dS v5.1.Calendar.Name),(dL aM v5.1.Calendar.Months),(dL aB v5.1.Calendar.Rules),(dI v5.1.Calendar.Week), .own 11 0 (v5.1.Cam).length,(dI v5.1.Strike)]) rfl rfl (by repeat (first | exact fX.nil | apply fX.cons | exact FzR.d _ | exact FzR.own rfl (by first | rfl | (simp; done) | (simp; omega)) | exact FzR.ptr rfl (by repeat (first | exact Drp.z _ | apply Drp.d)) | exact FzR.own' | exact FzR.ptr' | exact FzR.ref _ | apply FzR.agg | apply FzR.tup | apply FzR.fn | exact FzR.dead _)) (FzL.nil))) ?_)
 exact wk [0,1,2,3,7,8,11]
 obtain ⟨v11,h1,h0⟩ := bnd h0
 refine bG ⟨aE (aE ((fun _ => .dead)) 2 (.ptr 3 0 1 0 0)) 6 (.ptr 4 0 1 0 0),lks [.live [⟨157,3, .av [[dL cU8 v11.1.code,(dI v11.1.at_), .d (.v (.int .u64 v11.1.seed))]]⟩], .no, .no, .live [⟨34,14, .av [[ze,zl,zl,z0,z0,z0,z0,z0,ze,zl,zl,z0,zl,z0]]⟩], .live [⟨34,14, .av [[dS v8.1,(dL aL v8.2.1), .own 5 0 (v8.2.2.2.2.2.2.2.2.2.1).length,(dI v8.2.2.1),(dI v8.2.2.2.1),(dI v8.2.2.2.2.1),(dI v8.2.2.2.2.2.1),(dI v8.2.2.2.2.2.2.1),(dS v8.2.2.2.2.2.2.2.1.Name),(dL aM v8.2.2.2.2.2.2.2.1.Months),(dL aB v8.2.2.2.2.2.2.2.1.Rules),(dI v8.2.2.2.2.2.2.2.1.Week), .own 6 0 (v8.2.2.2.2.2.2.2.2.2.2).length,(dI v11.2)]]⟩], .live [⟨125,4, .data (List.map bC v8.2.2.2.2.2.2.2.2.2.1)⟩], .live [⟨2,1, .data (List.map cI v8.2.2.2.2.2.2.2.2.2.2)⟩]]⟩ ?_ ?_
 refine sq [0,1] (rP rfl (aH (r := .ptr _ _ _ _ _) rfl) ?_)
 obtain ⟨v9,hv9,h1⟩ := bnd h1
 refine rw1 rfl w0 rfl (dU [0] 300 (jW hv9) rfl rfl) (nx ?_)
 refine bL h1 rfl (fun hc h1 => ?_) (fun hc h1 => ?_)
 refine sr [0,1,2,3] (rP rfl (aH (r := .ptr _ _ _ _ _) rfl) ?_)
 obtain ⟨v10,hv10,h1⟩ := bnd h1
 refine rw1 rfl w0 rfl (dU [0] 300 (cY hv10) rfl rfl) (fa tok ?_)
 refine bs1 tok (nx ?_)
 cases h1
 exact wk [0,1,2,3,4,5,6]
 refine sk ?_
 cases h1
 exact wk [0,1,2,3,4,5,6]
 refine sq [0,1] (rL rfl (aU tok rfl rfl rfl rfl) (bst tok (nx (aD ?_))))
 cases h0
 exact aQr (rs := [.cell 2 34]) 1 [0,5,6] rfl
theorem aF0 {p0 : bN} {p1 : aA} {r : bQ × bN} (h0 : kV p0 p1 = some r) : FnC Tryz.prog 111 [.live [⟨157,3, .av [[dL cU8 p0.code,(dI p0.at_), .d (.v (.int .u64 p0.seed))]]⟩]] [.ptr 0 0 1 0 0, .ref (dG p1)] [.live [⟨157,3, .av [[dL cU8 r.2.code,(dI r.2.at_), .d (.v (.int .u64 r.2.seed))]]⟩]] (.agg [dI r.1.Year,(dI r.1.Month),(dI r.1.Day)]) := by
 refine fi 37 tok Tryz.func111 ?_
 unfold kV at h0
 refine sq [0] (al 3 [z0,z0,z0] tok (nx (sq [0,1,2,3,4,5] ?_)))
 refine rP rfl (aH (r := .ptr _ _ _ _ _) rfl) (rS rfl (iL tok cI [0,1900,2000,2023,2024,2100,9999,4,33] rfl rfl rfl (by repeat (first | exact Els.nil _ | apply Els.cons (cs := [.d _]) rfl rfl rfl | apply Els.cons (cs := _ :: _) rfl rfl rfl)) rfl rfl rfl (by repeat (first | exact cX.nil | (apply cX.cons; (repeat (first | exact fZ.nil | apply fZ.cons))))) rfl) ?_)
 obtain ⟨v1,hv1,h0⟩ := bnd h0
 refine rw1 rfl w0 rfl (dU [0] 300 (hM hv1) rfl rfl) (rP rfl (pbl (C0 := [z0,z0,z0]) tok rfl rfl rfl) (al 4 [z0,z0,z0] tok ?_))
 refine bst tok (nx (sq [0,1,2,3,4,5,6,7,8,9] ?_))
 refine rP rfl (aH (r := .ptr _ _ _ _ _) rfl) (pmr ?_)
 refine nr ?_
 refine fr tok ?_
 refine lr tok ?_
 refine rP rfl (aN tok rfl rfl rfl) ?_
 obtain ⟨v2,hv2,h0⟩ := bnd h0
 refine rw1 rfl w0 rfl (dU [0] 300 (cY hv2) rfl rfl) (rP rfl (bI rfl rfl) (fa tok ?_))
 refine bs1 tok (nx (sq [0,1,2,3,4,5,6,7] ?_))
 refine pmr ?_
 refine fa tok ?_
 refine ld tok ?_
 refine fa tok ?_
 refine ld tok ?_
 refine rP rfl (eM rfl rfl) ?_
 obtain ⟨v3,hv3,h0⟩ := bnd h0
 refine rS rfl (aO 5 (uC hv3) rfl rfl rfl) (pa (nx (sq [0,1,2,3,4,5] ?_)))
 refine rP rfl (aH (r := .ptr _ _ _ _ _) rfl) (pm ?_)
 obtain ⟨v4,hv4,h0⟩ := bnd h0
 refine rw1 rfl w0 rfl (dU [0] 300 (cY hv4) rfl rfl) (rP rfl (bI rfl rfl) (fa tok ?_))
 refine bs1 tok (nx ?_)
 obtain ⟨v6,h1,h0⟩ := bnd h0
 refine bG ⟨aE (aE ((fun _ => .dead)) 4 (.ptr 3 0 1 0 0)) 5 (.ptr 4 0 1 0 0),lks [.live [⟨157,3, .av [[dL cU8 v6.1.code,(dI v6.1.at_), .d (.v (.int .u64 v6.1.seed))]]⟩], .no, .no, .live [⟨36,3, .av [[z0,z0,z0]]⟩], .live [⟨36,3, .av [[dI v6.2.Year,(dI v6.2.Month),(dI v6.2.Day)]]⟩]]⟩ ?_ ?_
 refine sq [0,1] (rP rfl (aH (r := .ptr _ _ _ _ _) rfl) ?_)
 obtain ⟨v5,hv5,h1⟩ := bnd h1
 refine rw1 rfl w0 rfl (dU [0] 300 (jW hv5) rfl rfl) (nx ?_)
 refine bL h1 rfl (fun hc h1 => ?_) (fun hc h1 => ?_)
 refine sr [0,1,2] (pm ?_)
 refine fa tok ?_
 refine bs1 tok (nx ?_)
 cases h1
 exact wk [0,1,2,3,4]
 refine sk ?_
 cases h1
 exact wk [0,1,2,3,4]
 refine sq [0,1] (rL rfl (aU tok rfl rfl rfl rfl) (bst tok (nx (aD ?_))))
 cases h0
 exact nU (rs := [.cell 4 36]) 1 rfl rfl
theorem aHg {p0 : cQ} {r : Bool} (h0 : pM p0 = some r) : FnC Tryz.prog 233 [] [.ref (aL p0)] [] (dB r) := by
 refine fi 35 tok Tryz.func233 ?_
 unfold pM at h0
 refine sq [0] (pa (nx ?_))
 obtain ⟨v7x,h1,h0⟩ := bnd h0
 refine dX v7x (fun v7 => ⟨aE ((fun _ => .dead)) 0 (.ref (aL p0)),lks [.no, .no, .no]⟩) ?_ ?_
 refine sq [0] (pa (nx (aK ?_)))
 refine bD (fun s4 => ⟨aE (aE ((fun _ => .dead)) 0 (.ref (aL p0))) 3 (dI s4),lks [.no, .no, .no]⟩) h1 ?_ (fun s4 y h2 => ?_)
 exact wk [0,1,2]
 refine aG (sq [0,1,2,3,4,5,6] (pm ?_))
 refine pmr ?_
 refine nr ?_
 refine fr tok ?_
 refine lr tok ?_
 refine rP rfl (aN tok rfl rfl rfl) (rP rfl (bX rfl rfl) (nx ?_))
 refine bM h2 rfl (fun hc h2 => ?_) (fun hc h2 => ?_)
 refine sk (aG (aK (sq [0,1,2,3,4,5,6,7,8] (pmr ?_))))
 refine nr ?_
 refine fr tok ?_
 refine lr tok ?_
 refine pm ?_
 obtain ⟨v5,hv5,h2⟩ := bnd h2
 refine rP rfl (cV tok hv5 rfl rfl rfl rfl rfl rfl) (lr tok ?_)
 obtain ⟨v6,hv6,h2⟩ := bnd h2
 refine rS rfl (aO 3 (qC hv6) rfl rfl rfl) (rP rfl (bO rfl) (nx ?_))
 refine bL h2 rfl (fun hc h2 => ?_) (fun hc h2 => ?_)
 refine sq [0] (pa (nx (aD ?_)))
 refine bH (aS ?_)
 cases h2
 refine eV ⟨_,rfl,fun e => ?_⟩
 subst e
 refine bH ?_
 replace h0 := gG h0
 refine aS ?_
 cases h0
 exact r0t 2 rfl
 refine cU (bF (aI (sr [0,1,2] (pm ?_))))
 refine rP rfl (bI rfl rfl) (pa (bB ?_))
 refine cA ?_
 cases h2
 refine ⟨_,rfl,?_⟩
 exact wk [0,1,2]
 refine bK (bY ?_)
 cases h2
 refine cC ⟨_,rfl,fun e => ?_⟩
 subst e
 refine aY (aI ?_)
 refine ⟨_,rfl,?_⟩
 exact wk [0,1,2]
 rintro v7 rfl
 replace h0 := iP h0
 refine sq [0,1,2,3,4,5,6,7,8,9,10,11,12,13] (pmr ?_)
 refine nr ?_
 refine fr tok ?_
 refine lr tok ?_
 obtain ⟨v8,hv8,h0⟩ := bnd h0
 refine rS rfl (aO 3 (tF hv8) rfl rfl rfl) (pm ?_)
 refine dH (u := 27) h0 rfl (fun hc h0 => ?_) (fun hc h0 => ?_)
 refine aE8 ?_
 refine nr1 ?_
 refine fr1 tok ?_
 refine lr1 tok ?_
 refine rp rfl (w1 rfl rfl rfl) rfl (aN tok rfl rfl rfl) (rp rfl (w1 rfl rfl rfl) rfl (iW rfl rfl) (pkt ?_))
 refine pa (nx (aD ?_))
 cases h0
 exact r0t 2 rfl
 iterate 6 refine k1 ?_
 refine pkf ?_
 refine pa (nx (aD ?_))
 cases h0
 exact r0t 2 rfl
theorem aKr {p0 : bJ} {p1 : ByteArray} {r : Int} (h0 : qW p0 p1 = some r) : FnC Tryz.prog 234 [] [.ref (fT p0),(dS p1)] [] (dI r) := by
 refine fi 26 tok Tryz.func234 ?_
 unfold qW at h0
 refine sq [0] (pa (nx ?_))
 obtain ⟨v5x,h1,h0⟩ := bnd h0
 refine dX v5x (fun v5 => ⟨(fun _ => .dead),lks [.no, .no, .no]⟩) ?_ ?_
 refine sq [0] (pa (nx (aK ?_)))
 refine bD (fun s3 => ⟨aE (aE (aE ((fun _ => .dead)) 0 (.ref (fT p0))) 1 (dS p1)) 5 (dI s3),lks [.no, .no, .no]⟩) h1 ?_ (fun s3 y h2 => ?_)
 exact wk [0,1,2]
 refine aG (sq [0,1,2,3,4,5,6] (pm ?_))
 refine pmr ?_
 refine nr ?_
 refine fr tok ?_
 refine lr tok ?_
 refine rP rfl (aN tok rfl rfl rfl) (rP rfl (bX rfl rfl) (nx ?_))
 refine bM h2 rfl (fun hc h2 => ?_) (fun hc h2 => ?_)
 refine sk (aG (aK (sq [0,1,2,3,4,5,6,7,8,9] (pmr ?_))))
 refine nr ?_
 refine fr tok ?_
 refine lr tok ?_
 refine pm ?_
 obtain ⟨v4,hv4,h2⟩ := bnd h2
 refine rP rfl (cV tok hv4 rfl rfl rfl rfl rfl rfl) (fr tok ?_)
 refine lr tok ?_
 refine pm ?_
 refine rP rfl (uF rfl rfl) (nx ?_)
 refine bM h2 rfl (fun hc h2 => ?_) (fun hc h2 => ?_)
 refine sq [0,1] (pm ?_)
 refine pa (nx (aD ?_))
 refine bH (aS ?_)
 cases h2
 refine eV ⟨_,rfl,fun e => ?_⟩
 subst e
 refine bH ?_
 replace h0 := gG h0
 refine aS ?_
 cases h0
 exact r0t 4 rfl
 refine cU (bF (aI (sr [0,1,2] (pm ?_))))
 refine rP rfl (bI rfl rfl) (pa (bB ?_))
 refine cA ?_
 cases h2
 refine ⟨_,rfl,?_⟩
 exact wk [0,1,2]
 refine bK (bY ?_)
 cases h2
 refine cC ⟨_,rfl,fun e => ?_⟩
 subst e
 refine aY (aI ?_)
 refine ⟨_,rfl,?_⟩
 exact wk [0,1,2]
 rintro v5 rfl
 replace h0 := iP h0
 refine sq [0] (pa (nx (aD ?_)))
 cases h0
 exact r0t 4 rfl
theorem aA9 {p0 : bJ} {p1 : Int} {p2 : Int} {r : Bool} (h0 : mO p0 p1 p2 = some r) : FnC Tryz.prog 270 [] [.ref (fT p0),(dI p1),(dI p2)] [] (dB r) := by
 refine fi 29 tok Tryz.func270 ?_
 unfold mO at h0
 refine sq [0] (pa (nx (sq [0,1,2,3,4,5,6,7,8,9,10,11,12,13,14,15,16,17,18,19,20,21,22] ?_)))
 refine pm ?_
 refine pmr ?_
 refine nr ?_
 refine fr tok ?_
 refine lr tok ?_
 refine rP rfl (aN tok rfl rfl rfl) (rP rfl (eM rfl rfl) ?_)
 obtain ⟨v1,hv1,h0⟩ := bnd h0
 refine rS rfl (aO 3 (cZ hv1) rfl rfl rfl) (pm ?_)
 refine dH (u := 15) h0 rfl (fun hc h0 => ?_) (fun hc h0 => ?_)
 refine pm1 ?_
 refine aE8 ?_
 refine nr1 ?_
 refine fr1 tok ?_
 refine lr1 tok ?_
 refine pm1 ?_
 obtain ⟨v2,hv2,h0⟩ := bnd h0
 refine rp rfl (w1 rfl rfl rfl) rfl (cV tok hv2 rfl rfl rfl rfl rfl rfl) (fr1 tok ?_)
 refine lr1 tok ?_
 refine rp rfl (w1 rfl rfl rfl) rfl (aN tok rfl rfl rfl) (rp rfl (w1 rfl rfl rfl) rfl (eM rfl rfl) ?_)
 obtain ⟨v3,hv3,h0⟩ := bnd h0
 refine rs rfl (w1 rfl rfl rfl) rfl (aO 3 (cZ hv3) rfl rfl rfl) (pkt ?_)
 refine pa (nx (aD ?_))
 cases h0
 exact r0t 6 rfl
 iterate 12 refine k1 ?_
 refine pkf ?_
 refine pa (nx (aD ?_))
 cases h0
 exact r0t 6 rfl
theorem aJj {p0 : bJ} {p1 : cH} {r : Bool} (h0 : rB p0 p1 = some r) : FnC Tryz.prog 235 [] [.ref (fT p0), .agg [dI p1.A,(dI p1.WheelA),(dI p1.B),(dI p1.WheelB)]] [] (dB r) := by
 refine fi 26 tok Tryz.func235 ?_
 unfold rB at h0
 refine sq [0,1] (bxx 3 ?_)
 refine pa (nx (sq [0,1,2,3,4,5,6,7,8,9,10,11,12,13,14,15,16,17,18,19,20,21] ?_))
 refine fa tok ?_
 refine ld tok ?_
 refine fa tok ?_
 refine ld tok ?_
 refine rP rfl (fA rfl rfl) (pm ?_)
 refine gT (u := 10) h0 rfl (fun hc h0 => ?_) (fun hc h0 => ?_)
 refine aE8 ?_
 refine fa1 tok ?_
 refine ld1 tok ?_
 refine fa1 tok ?_
 refine ld1 tok ?_
 obtain ⟨v1,hv1,h0⟩ := bnd h0
 refine rs rfl (w1 rfl rfl rfl) rfl (aO 4 (aA9 hv1) rfl rfl rfl) (pkt ?_)
 refine pm ?_
 refine dH (u := 18) h0 rfl (fun hc h0 => ?_) (fun hc h0 => ?_)
 refine aE8 ?_
 refine fa1 tok ?_
 refine ld1 tok ?_
 refine fa1 tok ?_
 refine ld1 tok ?_
 obtain ⟨v2,hv2,h0⟩ := bnd h0
 refine rs rfl (w1 rfl rfl rfl) rfl (aO 4 (aA9 hv2) rfl rfl rfl) (pkt ?_)
 refine pa (nx (aD ?_))
 cases h0
 exact r0t 4 rfl
 iterate 6 refine k1 ?_
 refine pkf ?_
 refine pa (nx (aD ?_))
 cases h0
 exact r0t 4 rfl
 iterate 6 refine k1 ?_
 refine pkf ?_
 refine pm ?_
 iterate 6 refine k1 ?_
 refine pkf ?_
 refine pa (nx (aD ?_))
 cases h0
 exact r0t 4 rfl
theorem aI5 {p0 : cH} {p1 : cH} {r : Bool} (h0 : pQ p0 p1 = some r) : FnC Tryz.prog 271 [] [.agg [dI p0.A,(dI p0.WheelA),(dI p0.B),(dI p0.WheelB)], .agg [dI p1.A,(dI p1.WheelA),(dI p1.B),(dI p1.WheelB)]] [] (dB r) := by
 refine fi 36 tok Tryz.func271 ?_
 unfold pQ at h0
 refine sq [0,1,2] (bxx 3 ?_)
 refine bxx 4 ?_
 refine pa (nx (sq [0,1,2,3,4,5,6,7,8,9,10,11,12,13,14,15,16,17,18,19,20,21,22,23,24,25,26,27,28,29,30,31] ?_))
 refine rL rfl (aU tok rfl rfl rfl rfl) (rL rfl (aU tok rfl rfl rfl rfl) (rP rfl (wG (a := p0) (b := p1) rfl rfl) (pm ?_)))
 refine gT (u := 8) h0 rfl (fun hc h0 => ?_) (fun hc h0 => ?_)
 iterate 26 refine k1 ?_
 refine pkt ?_
 refine pa (nx (aD ?_))
 cases h0
 exact r0t 4 rfl
 refine fa1 tok ?_
 refine ld1 tok ?_
 refine fa1 tok ?_
 refine ld1 tok ?_
 refine rp rfl (w1 rfl rfl rfl) rfl (eN rfl rfl) (pm1 ?_)
 refine gT (u := 14) h0 rfl (fun hc h0 => ?_) (fun hc h0 => ?_)
 refine fa1 tok ?_
 refine ld1 tok ?_
 refine fa1 tok ?_
 refine ld1 tok ?_
 refine rp rfl (w1 rfl rfl rfl) rfl (eN rfl rfl) (aUl ?_)
 refine pm1 ?_
 refine gT (u := 21) h0 rfl (fun hc h0 => ?_) (fun hc h0 => ?_)
 refine fa1 tok ?_
 refine ld1 tok ?_
 refine fa1 tok ?_
 refine ld1 tok ?_
 refine rp rfl (w1 rfl rfl rfl) rfl (eN rfl rfl) (aUl ?_)
 refine pm1 ?_
 refine gT (u := 28) h0 rfl (fun hc h0 => ?_) (fun hc h0 => ?_)
 refine fa1 tok ?_
 refine ld1 tok ?_
 refine fa1 tok ?_
 refine ld1 tok ?_
 refine rp rfl (w1 rfl rfl rfl) rfl (eN rfl rfl) (aUl ?_)
 refine pkf ?_
 refine pa (nx (aD ?_))
 cases h0
 exact r0t 4 rfl
 iterate 5 refine k1 ?_
 refine aR1 ?_
 refine pkf ?_
 refine pa (nx (aD ?_))
 cases h0
 exact r0t 4 rfl
 iterate 5 refine k1 ?_
 refine aR1 ?_
 refine pm1 ?_
 iterate 5 refine k1 ?_
 refine aR1 ?_
 refine pkf ?_
 refine pa (nx (aD ?_))
 cases h0
 exact r0t 4 rfl
 iterate 5 refine k1 ?_
 refine aR1 ?_
 refine pm1 ?_
 iterate 5 refine k1 ?_
 refine aR1 ?_
 refine pm1 ?_
 iterate 5 refine k1 ?_
 refine aR1 ?_
 refine pkf ?_
 refine pa (nx (aD ?_))
 cases h0
 exact r0t 4 rfl
theorem aHx {p0 : bJ} {p1 : cH} {p2 : Int} {r : Bool} (h0 : pW p0 p1 p2 = some r) : FnC Tryz.prog 236 [] [.ref (fT p0), .agg [dI p1.A,(dI p1.WheelA),(dI p1.B),(dI p1.WheelB)],(dI p2)] [] (dB r) := by
 refine fi 22 tok Tryz.func236 ?_
 unfold pW at h0
 refine sq [0,1] (bxx 3 ?_)
 refine pa (nx ?_)
 obtain ⟨v7x,h1,h0⟩ := bnd h0
 refine dX v7x (fun v7 => ⟨(fun _ => .dead),lks [.no, .no, .no]⟩) ?_ ?_
 refine sq [0] (pa (nx (aK ?_)))
 refine bD (fun s4 => ⟨aE (aE (aE (aE ((fun _ => .dead)) 0 (.ref (fT p0))) 2 (dI p2)) 4 (.ptr 3 0 1 0 0)) 7 (dI s4),lks [.no, .no, .no, .live [⟨125,4, .av [[dI p1.A,(dI p1.WheelA),(dI p1.B),(dI p1.WheelB)]]⟩]]⟩) h1 ?_ (fun s4 y h2 => ?_)
 exact wk [0,1,2,3]
 refine aG (sq [0,1,2] (pm ?_))
 refine pm ?_
 refine rP rfl (bX rfl rfl) (nx ?_)
 refine bM h2 rfl (fun hc h2 => ?_) (fun hc h2 => ?_)
 refine sk (aG (aK (aG (aF (is := [0,1,2,3,4,5,6,7,8]) [0,1,3,7,0,31,63,0,255] follows (by kernel_rfl) (rZ ?_)))))
 refine tnr ?_
 refine tfr tok ?_
 refine tlr tok ?_
 refine tpm ?_
 obtain ⟨v5,hv5,h2⟩ := bnd h2
 refine tP rfl (cV tok hv5 rfl rfl rfl rfl rfl rfl) (tP rfl (bT tok rfl rfl rfl (by repeat (first | exact kK.z _ | apply kK.t))) (bS rfl w0 rfl (aU tok rfl rfl rfl rfl) rfl rfl rfl ?_))
 obtain ⟨v6,hv6,h2⟩ := bnd h2
 refine jB rfl w0 rfl (cP 4 (aI5 hv6) rfl rfl rfl) (bE ?_)
 refine ⟨by kernel_rfl,?_⟩
 refine aI ?_
 refine bL h2 rfl (fun hc h2 => ?_) (fun hc h2 => ?_)
 refine sq [0] (pa (nx (aD ?_)))
 refine bH (aS ?_)
 cases h2
 refine eV ⟨_,rfl,fun e => ?_⟩
 subst e
 refine bH ?_
 replace h0 := gG h0
 refine aS ?_
 cases h0
 exact r0t 6 rfl
 refine cU (bF (aI (sr [0,1,2] (pm ?_))))
 refine rP rfl (bI rfl rfl) (pa (bB ?_))
 refine cA ?_
 cases h2
 refine ⟨_,rfl,?_⟩
 exact wk [0,1,2,3]
 refine bK (bY ?_)
 cases h2
 refine cC ⟨_,rfl,fun e => ?_⟩
 subst e
 refine aY (aI ?_)
 refine ⟨_,rfl,?_⟩
 exact wk [0,1,2]
 rintro v7 rfl
 replace h0 := iP h0
 refine sq [0] (pa (nx (aD ?_)))
 cases h0
 exact r0t 6 rfl
theorem aO1 {p0 : bJ} {r : Bool} (h0 : wS p0 = some r) : FnC Tryz.prog 160 [] [.ref (fT p0)] [] (dB r) := by
 refine fi 81 tok Tryz.func160 ?_
 unfold wS at h0
 refine sq [0] (pa (nx ?_))
 obtain ⟨v13x,h1,h0⟩ := bnd h0
 refine dX v13x (fun v13 => ⟨aE ((fun _ => .dead)) 0 (.ref (fT p0)),lks [.no, .no, .no]⟩) ?_ ?_
 refine sq [0] (pa (nx (aK ?_)))
 refine bD (fun s7 => ⟨aE (aE ((fun _ => .dead)) 0 (.ref (fT p0))) 3 (dI s7),lks [.no, .no, .no]⟩) h1 ?_ (fun s7 y h2 => ?_)
 exact wk [0,1,2]
 refine aG (sq [0,1,2,3,4,5,6] (pm ?_))
 refine pmr ?_
 refine nr ?_
 refine fr tok ?_
 refine lr tok ?_
 refine rP rfl (aN tok rfl rfl rfl) (rP rfl (bX rfl rfl) (nx ?_))
 refine bM h2 rfl (fun hc h2 => ?_) (fun hc h2 => ?_)
 refine sk (aG (aK ?_))
 obtain ⟨v12,h3,h2⟩ := bnd h2
 refine bG ⟨aE (aE (aE ((fun _ => .dead)) 0 (.ref (fT p0))) 3 (dI s7)) 35 (dB v12),lks [.no, .no, .no]⟩ ?_ ?_
 refine sr [0,1,2,3,4,5,6,7,8,9,10,11,12,13,14,15,16,17,18,19,20,21] (pmr ?_)
 refine nr ?_
 refine fr tok ?_
 refine lr tok ?_
 refine pm ?_
 obtain ⟨v8,hv8,h3⟩ := bnd h3
 refine rP rfl (cV tok hv8 rfl rfl rfl rfl rfl rfl) ?_
 obtain ⟨v9,hv9,h3⟩ := bnd h3
 refine rS rfl (aO 3 (aHg hv9) rfl rfl rfl) (rP rfl (bO rfl) (pm ?_))
 refine dH (u := 22) h3 rfl (fun hc h3 => ?_) (fun hc h3 => ?_)
 iterate 12 refine k1 ?_
 refine pkt (nx ?_)
 cases h3
 exact wk [0,1,2]
 refine aE8 ?_
 refine aE8 ?_
 refine nr1 ?_
 refine fr1 tok ?_
 refine lr1 tok ?_
 refine pm1 ?_
 obtain ⟨v10,hv10,h3⟩ := bnd h3
 refine rp rfl (w1 rfl rfl rfl) rfl (cV tok hv10 rfl rfl rfl rfl rfl rfl) (fr1 tok ?_)
 refine lr1 tok ?_
 obtain ⟨v11,hv11,h3⟩ := bnd h3
 refine rs rfl (w1 rfl rfl rfl) rfl (aO 3 (aKr hv11) rfl rfl rfl) (pm1 ?_)
 refine rp rfl (w1 rfl rfl rfl) rfl (fA rfl rfl) (pkf (nx ?_))
 cases h3
 refine iM.trans_ (gW (d := 26) (ds := (cL aL) p0.Arbors) rfl (by repeat (first | exact Pre.z _ | apply Pre.t))) (iM.trans_ (gW (d := 30) (ds := cS v10.Name) rfl (by repeat (first | exact Pre.z _ | apply Pre.t))) ?_)
 exact wk [0,1,2]
 refine bL h2 rfl (fun hc h2 => ?_) (fun hc h2 => ?_)
 refine sq [0] (pa (nx (aD ?_)))
 refine bH (aS ?_)
 cases h2
 refine eV ⟨_,rfl,fun e => ?_⟩
 subst e
 refine bH ?_
 replace h0 := gG h0
 refine aS ?_
 cases h0
 exact r0t 2 rfl
 refine cU (bF (aI (sr [0,1,2] (pm ?_))))
 refine rP rfl (bI rfl rfl) (pa (bB ?_))
 refine cA ?_
 cases h2
 refine ⟨_,rfl,?_⟩
 exact wk [0,1,2]
 refine bK (bY ?_)
 cases h2
 refine cC ⟨_,rfl,fun e => ?_⟩
 subst e
 refine aY (aI ?_)
 refine ⟨_,rfl,?_⟩
 exact wk [0,1,2]
 rintro v13 rfl
 replace h0 := iP h0
 obtain ⟨v26x,h1,h0⟩ := bnd h0
 refine dX v26x (fun v26 => ⟨aE ((fun _ => .dead)) 0 (.ref (fT p0)),lks [.no, .no, .no]⟩) ?_ ?_
 refine sq [0] (pa (nx (aK ?_)))
 refine bD (fun s20 => ⟨aE (aE ((fun _ => .dead)) 0 (.ref (fT p0))) 4 (dI s20),lks [.no, .no, .no]⟩) h1 ?_ (fun s20 y h2 => ?_)
 exact wk [0,1,2]
 refine aG (sq [0,1,2,3,4,5,6] (pm ?_))
 refine pmr ?_
 refine nr ?_
 refine fr tok ?_
 refine lr tok ?_
 refine rP rfl (aN tok rfl rfl rfl) (rP rfl (bX rfl rfl) (nx ?_))
 refine bM h2 rfl (fun hc h2 => ?_) (fun hc h2 => ?_)
 refine sk (aG (aK ?_))
 obtain ⟨v25,h3,h2⟩ := bnd h2
 refine bG ⟨aE (aE (aE ((fun _ => .dead)) 0 (.ref (fT p0))) 4 (dI s20)) 66 (dB v25),lks [.no, .no, .no]⟩ ?_ ?_
 refine sr [0,1,2,3,4,5,6,7,8,9,10,11,12,13,14,15,16,17,18,19,20,21] (pmr ?_)
 refine pmr ?_
 refine nr ?_
 refine fr tok ?_
 refine lr tok ?_
 refine pm ?_
 obtain ⟨v21,hv21,h3⟩ := bnd h3
 refine rP rfl (cV tok hv21 rfl rfl rfl rfl rfl rfl) (rP rfl (bT tok rfl rfl rfl (by repeat (first | exact kK.z _ | apply kK.t))) ?_)
 obtain ⟨v22,hv22,h3⟩ := bnd h3
 refine rS rfl (aO 3 (aJj hv22) rfl rfl rfl) (rP rfl (bO rfl) (pm ?_))
 refine dH (u := 55) h3 rfl (fun hc h3 => ?_) (fun hc h3 => ?_)
 iterate 10 refine k1 ?_
 refine pkt (nx ?_)
 cases h3
 exact wk [0,1,2]
 refine aE8 ?_
 refine aE8 ?_
 refine nr1 ?_
 refine fr1 tok ?_
 refine lr1 tok ?_
 refine pm1 ?_
 obtain ⟨v23,hv23,h3⟩ := bnd h3
 refine rp rfl (w1 rfl rfl rfl) rfl (cV tok hv23 rfl rfl rfl rfl rfl rfl) (rp rfl (w1 rfl rfl rfl) rfl (bT tok rfl rfl rfl (by repeat (first | exact kK.z _ | apply kK.t))) (pm1 ?_))
 obtain ⟨v24,hv24,h3⟩ := bnd h3
 refine rs rfl (w1 rfl rfl rfl) rfl (aO 3 (aHx hv24) rfl rfl rfl) (pkf (nx ?_))
 cases h3
 refine iM.trans_ (gW (d := 59) (ds := (cL bC) p0.Meshes) rfl (by repeat (first | exact Pre.z _ | apply Pre.t))) ?_
 exact wk [0,1,2]
 refine bL h2 rfl (fun hc h2 => ?_) (fun hc h2 => ?_)
 refine sq [0] (pa (nx (aD ?_)))
 refine bH (aS ?_)
 cases h2
 refine eV ⟨_,rfl,fun e => ?_⟩
 subst e
 refine bH ?_
 replace h0 := gG h0
 refine aS ?_
 cases h0
 exact r0t 2 rfl
 refine cU (bF (aI (sr [0,1,2] (pm ?_))))
 refine rP rfl (bI rfl rfl) (pa (bB ?_))
 refine cA ?_
 cases h2
 refine ⟨_,rfl,?_⟩
 exact wk [0,1,2]
 refine bK (bY ?_)
 cases h2
 refine cC ⟨_,rfl,fun e => ?_⟩
 subst e
 refine aY (aI ?_)
 refine ⟨_,rfl,?_⟩
 exact wk [0,1,2]
 rintro v26 rfl
 replace h0 := iP h0
 refine sq [0,1,2,3,4,5,6,7,8,9,10,11,12,13,14] (pmr ?_)
 refine nr ?_
 refine fr tok ?_
 refine lr tok ?_
 refine rP rfl (aN tok rfl rfl rfl) (rP rfl (iW rfl rfl) (pm ?_))
 refine gT (u := 73) h0 rfl (fun hc h0 => ?_) (fun hc h0 => ?_)
 refine aE8 ?_
 refine nr1 ?_
 refine fr1 tok ?_
 refine lr1 tok ?_
 refine rp rfl (w1 rfl rfl rfl) rfl (aN tok rfl rfl rfl) (rp rfl (w1 rfl rfl rfl) rfl (iW rfl rfl) (pkt ?_))
 refine pa (nx (aD ?_))
 cases h0
 exact r0t 2 rfl
 iterate 6 refine k1 ?_
 refine pkf ?_
 refine pa (nx (aD ?_))
 cases h0
 exact r0t 2 rfl
theorem tV {p0 : bJ} {p1 : Int} {r : Bool} (h0 : kP p0 p1 = some r) : FnC Tryz.prog 161 [] [.ref (fT p0),(dI p1)] [] (dB r) := by
 refine fi 13 tok Tryz.func161 ?_
 unfold kP at h0
 refine sq [0] (pa (nx (sq [0,1,2,3,4,5,6,7,8] ?_)))
 refine pm ?_
 refine pmr ?_
 refine nr ?_
 refine fr tok ?_
 refine lr tok ?_
 refine rP rfl (aN tok rfl rfl rfl) (rP rfl (eM rfl rfl) ?_)
 obtain ⟨v1,hv1,h0⟩ := bnd h0
 refine rS rfl (aO 3 (cZ hv1) rfl rfl rfl) (pa (nx (aD ?_)))
 cases h0
 exact r0t 4 rfl
theorem aD7 {p0 : List Int} {r : Bool} (h0 : rM p0 = some r) : FnC Tryz.prog 162 [] [dL cI p0] [] (dB r) := by
 refine fi 19 tok Tryz.func162 ?_
 unfold rM at h0
 refine sq [0] (pa (nx ?_))
 obtain ⟨v7x,h1,h0⟩ := bnd h0
 refine dX v7x (fun v7 => ⟨aE ((fun _ => .dead)) 0 (dL cI p0),lks [.no, .no, .no]⟩) ?_ ?_
 refine sq [0] (pa (nx (aK ?_)))
 refine bD (fun s4 => ⟨aE (aE ((fun _ => .dead)) 0 (dL cI p0)) 3 (dI s4),lks [.no, .no, .no]⟩) h1 ?_ (fun s4 y h2 => ?_)
 exact wk [0,1,2]
 refine aG (sq [0,1,2,3] (pm ?_))
 refine pm ?_
 refine rP rfl (aN tok rfl rfl rfl) (rP rfl (bX rfl rfl) (nx ?_))
 refine bM h2 rfl (fun hc h2 => ?_) (fun hc h2 => ?_)
 refine sk (aG (aK (sq [0,1,2,3,4,5] (pm ?_))))
 refine pm ?_
 obtain ⟨v5,hv5,h2⟩ := bnd h2
 refine rP rfl (cV tok hv5 rfl rfl rfl rfl rfl rfl) (lr tok ?_)
 obtain ⟨v6,hv6,h2⟩ := bnd h2
 refine rS rfl (aO 3 (cZ hv6) rfl rfl rfl) (rP rfl (bO rfl) (nx ?_))
 refine bL h2 rfl (fun hc h2 => ?_) (fun hc h2 => ?_)
 refine sq [0] (pa (nx (aD ?_)))
 refine bH (aS ?_)
 cases h2
 refine eV ⟨_,rfl,fun e => ?_⟩
 subst e
 refine bH ?_
 replace h0 := gG h0
 refine aS ?_
 cases h0
 exact r0t 2 rfl
 refine cU (bF (aI (sr [0,1,2] (pm ?_))))
 refine rP rfl (bI rfl rfl) (pa (bB ?_))
 refine cA ?_
 cases h2
 refine ⟨_,rfl,?_⟩
 exact wk [0,1,2]
 refine bK (bY ?_)
 cases h2
 refine cC ⟨_,rfl,fun e => ?_⟩
 subst e
 refine aY (aI ?_)
 refine ⟨_,rfl,?_⟩
 exact wk [0,1,2]
 rintro v7 rfl
 replace h0 := iP h0
 refine sq [0,1,2,3] (pm ?_)
 refine rP rfl (aN tok rfl rfl rfl) ?_
 obtain ⟨v8,hv8,h0⟩ := bnd h0
 refine rS rfl (aO 3 (cZ hv8) rfl rfl rfl) (pa (nx (aD ?_)))
 cases h0
 exact r0t 2 rfl
theorem aIv {p0 : aX} {r : Bool} (h0 : tK p0 = some r) : FnC Tryz.prog 80 [] [.ref (fY p0)] [] (dB r) := by
 refine fi 81 tok Tryz.func80 ?_
 unfold tK at h0
 refine sq [0] (pa (nx (aG ?_)))
 obtain ⟨v6,h1,h0⟩ := bnd h0
 refine bG ⟨aE (aE ((fun _ => .dead)) 0 (.ref (fY p0))) 48 (dB v6),lks [.no, .no, .no]⟩ ?_ ?_
 refine aF (is := [0,1,2,3,4,5,6,7,8,9,10,11,12,13,14,15,16,17,18,19,20,21,22,23,24,25,26,27,28,29,30,31,32,33,34,35,36,37,38,39,40,41,42,43,44,45]) [0,1,3,7,15,31,63,127,255,511,1023,2047,4095,8191,16383,32767,65535,16383,147455,409599,933887,2097151,4194303,8388607,16777215,33554431,67108863,134217727,33554431,301989887,838860799,1912602623,4294967295,8589934591,17179869183,34359738367,68719476735,137438953471,274877906943,68719476735,618475290623,1717986918399,3917010173951,8796093022207,17592186044415,35184372088831] follows (by kernel_rfl) (rZ ?_)
 refine tnr ?_
 refine tfr tok ?_
 refine tlr tok ?_
 obtain ⟨v1,hv1,h1⟩ := bnd h1
 refine jB rfl w0 rfl (cP 3 (tF hv1) rfl rfl rfl) (tP rfl (bO rfl) (tpm ?_))
 refine nT (u := 9) h1 rfl (fun hc h1 => ?_) (fun hc h1 => ?_)
 iterate 5 refine k2 ?_
 refine vG ?_
 refine tpm ?_
 iterate 9 refine k2 ?_
 refine vG ?_
 refine tpm ?_
 iterate 9 refine k2 ?_
 refine vG ?_
 refine tpm ?_
 iterate 9 refine k2 ?_
 refine vG ?_
 refine bE ?_
 refine ⟨by kernel_rfl,?_⟩
 refine aI ?_
 cases h1
 exact wk [0,1,2]
 refine qF ?_
 refine aB3 ?_
 refine wR tok ?_
 obtain ⟨v2,hv2,h1⟩ := bnd h1
 refine jB rfl (w1 rfl rfl rfl) rfl (cP 3 (nN (aO1 hv2)) rfl rfl rfl) (qJ rfl (w1 rfl rfl rfl) rfl (bO rfl) (tA ?_))
 refine tpm ?_
 refine nT (u := 16) h1 rfl (fun hc h1 => ?_) (fun hc h1 => ?_)
 iterate 9 refine k2 ?_
 refine vG ?_
 refine tpm ?_
 iterate 9 refine k2 ?_
 refine vG ?_
 refine tpm ?_
 iterate 9 refine k2 ?_
 refine vG ?_
 refine bE ?_
 refine ⟨by kernel_rfl,?_⟩
 refine aI ?_
 cases h1
 exact wk [0,1,2]
 refine qF ?_
 refine aB3 ?_
 refine wR tok ?_
 refine qF ?_
 refine aB3 ?_
 refine wR tok ?_
 refine aAi tok ?_
 obtain ⟨v3,hv3,h1⟩ := bnd h1
 refine jB rfl (w1 rfl rfl rfl) rfl (cP 3 (nN (tV hv3)) rfl rfl rfl) (qJ rfl (w1 rfl rfl rfl) rfl (bO rfl) (tA ?_))
 refine tpm ?_
 refine nT (u := 27) h1 rfl (fun hc h1 => ?_) (fun hc h1 => ?_)
 iterate 9 refine k2 ?_
 refine vG ?_
 refine tpm ?_
 iterate 9 refine k2 ?_
 refine vG ?_
 refine bE ?_
 refine ⟨by kernel_rfl,?_⟩
 refine aI ?_
 cases h1
 exact wk [0,1,2]
 refine qF ?_
 refine aB3 ?_
 refine wR tok ?_
 refine qF ?_
 refine aB3 ?_
 refine wR tok ?_
 refine aAi tok ?_
 obtain ⟨v4,hv4,h1⟩ := bnd h1
 refine jB rfl (w1 rfl rfl rfl) rfl (cP 3 (nN (tV hv4)) rfl rfl rfl) (qJ rfl (w1 rfl rfl rfl) rfl (bO rfl) (tA ?_))
 refine tpm ?_
 refine nT (u := 38) h1 rfl (fun hc h1 => ?_) (fun hc h1 => ?_)
 iterate 9 refine k2 ?_
 refine vG ?_
 refine bE ?_
 refine ⟨by kernel_rfl,?_⟩
 refine aI ?_
 cases h1
 exact wk [0,1,2]
 refine qF ?_
 refine aB3 ?_
 refine wR tok ?_
 refine qF ?_
 refine aB3 ?_
 refine wR tok ?_
 refine aAi tok ?_
 obtain ⟨v5,hv5,h1⟩ := bnd h1
 refine jB rfl (w1 rfl rfl rfl) rfl (cP 3 (nN (tV hv5)) rfl rfl rfl) (qJ rfl (w1 rfl rfl rfl) rfl (bO rfl) (tA ?_))
 refine bE ?_
 refine ⟨by kernel_rfl,?_⟩
 refine aI ?_
 cases h1
 exact wk [0,1,2]
 refine bL h0 rfl (fun hc h0 => ?_) (fun hc h0 => ?_)
 refine sq [0] (pa (nx (aD (aS ?_))))
 cases h0
 exact r0t 2 rfl
 refine sk (sq [0,1,2,3,4,5,6,7,8,9,10,11,12,13,14,15,16,17,18,19,20,21,22,23,24,25,26,27,28,29,30,31,32] (pmr ?_))
 refine nr ?_
 refine fr tok ?_
 refine lr tok ?_
 obtain ⟨v7,hv7,h0⟩ := bnd h0
 refine rS rfl (aO 3 (qC hv7) rfl rfl rfl) (pm ?_)
 refine dH (u := 54) h0 rfl (fun hc h0 => ?_) (fun hc h0 => ?_)
 refine aE8 ?_
 refine nr1 ?_
 refine fr1 tok ?_
 refine lr1 tok ?_
 obtain ⟨v8,hv8,h0⟩ := bnd h0
 refine rs rfl (w1 rfl rfl rfl) rfl (aO 3 (cZ hv8) rfl rfl rfl) (pkt ?_)
 refine pm ?_
 refine dH (u := 61) h0 rfl (fun hc h0 => ?_) (fun hc h0 => ?_)
 refine aE8 ?_
 refine nr1 ?_
 refine fr1 tok ?_
 obtain ⟨v9,hv9,h0⟩ := bnd h0
 refine rs rfl (w1 rfl rfl rfl) rfl (aO 3 (nN (wN hv9)) rfl rfl rfl) (pkt ?_)
 refine pm ?_
 refine dH (u := 67) h0 rfl (fun hc h0 => ?_) (fun hc h0 => ?_)
 refine aE8 ?_
 refine nr1 ?_
 refine fr1 tok ?_
 refine lr1 tok ?_
 obtain ⟨v10,hv10,h0⟩ := bnd h0
 refine rs rfl (w1 rfl rfl rfl) rfl (aO 3 (aD7 hv10) rfl rfl rfl) (pkt ?_)
 refine pm ?_
 refine dH (u := 74) h0 rfl (fun hc h0 => ?_) (fun hc h0 => ?_)
 refine aE8 ?_
 refine nr1 ?_
 refine fr1 tok ?_
 refine lr1 tok ?_
 obtain ⟨v11,hv11,h0⟩ := bnd h0
 refine rs rfl (w1 rfl rfl rfl) rfl (aO 3 (cZ hv11) rfl rfl rfl) (pkt ?_)
 refine pa (nx (aD ?_))
 cases h0
 exact r0t 2 rfl
 iterate 5 refine k1 ?_
 refine pkf ?_
 refine pa (nx (aD ?_))
 cases h0
 exact r0t 2 rfl
 iterate 5 refine k1 ?_
 refine pkf ?_
 refine pm ?_
 iterate 5 refine k1 ?_
 refine pkf ?_
 refine pa (nx (aD ?_))
 cases h0
 exact r0t 2 rfl
 iterate 4 refine k1 ?_
 refine pkf ?_
 refine pm ?_
 iterate 5 refine k1 ?_
 refine pkf ?_
 refine pm ?_
 iterate 5 refine k1 ?_
 refine pkf ?_
 refine pa (nx (aD ?_))
 cases h0
 exact r0t 2 rfl
 iterate 5 refine k1 ?_
 refine pkf ?_
 refine pm ?_
 iterate 4 refine k1 ?_
 refine pkf ?_
 refine pm ?_
 iterate 5 refine k1 ?_
 refine pkf ?_
 refine pm ?_
 iterate 5 refine k1 ?_
 refine pkf ?_
 refine pa (nx (aD ?_))
 cases h0
 exact r0t 2 rfl
theorem aC9 {p0 : bJ} {p1 : cH} {r : dW} (h0 : oL p0 p1 = some r) : FnC Tryz.prog 278 [] [.ref (fT p0), .agg [dI p1.A,(dI p1.WheelA),(dI p1.B),(dI p1.WheelB)]] [] (.agg [dI r.Driver,(dI r.Driven)]) := by
 refine fi 32 tok Tryz.func278 ?_
 unfold oL at h0
 refine sq [0,1] (bxx 3 ?_)
 refine al 4 [z0,z0] tok (nx (aG ?_))
 refine aF (is := [0,1,2,3,4,5,6,7,8,9,10,11,12,13,14,15,16,17,18,19,20,21,22,23,24,25,26,27]) [0,1,3,7,0,16,63,127,255,0,512,2047,4095,0,8192,24576,57344,0,131072,516096,1040384,2088960,0,4194304,16769024,33546240,67108863,134217727] follows (by kernel_rfl) (rZ ?_)
 refine tnr ?_
 refine tfr tok ?_
 refine tlr tok ?_
 refine tfa tok ?_
 refine tld tok ?_
 obtain ⟨v1,hv1,h0⟩ := bnd h0
 refine tP rfl (cV tok hv1 rfl rfl rfl rfl rfl rfl) (tfr tok ?_)
 refine tlr tok ?_
 refine tfa tok ?_
 refine tld tok ?_
 obtain ⟨v2,hv2,h0⟩ := bnd h0
 refine tP rfl (cV tok hv2 rfl rfl rfl rfl rfl rfl) (tlr tok ?_)
 refine rZ ?_
 refine tnr ?_
 refine tfr tok ?_
 refine tlr tok ?_
 refine tfa tok ?_
 refine tld tok ?_
 obtain ⟨v3,hv3,h0⟩ := bnd h0
 refine tP rfl (cV tok hv3 rfl rfl rfl rfl rfl rfl) (tfr tok ?_)
 refine tlr tok ?_
 refine tfa tok ?_
 refine tld tok ?_
 obtain ⟨v4,hv4,h0⟩ := bnd h0
 refine tP rfl (cV tok hv4 rfl rfl rfl rfl rfl rfl) (tlr tok ?_)
 refine tP rfl (pbl (C0 := [z0,z0]) tok rfl rfl rfl) (iK rfl w0 (fQ (cs := _ :: _) tok rfl rfl rfl rfl rfl rfl rfl) (bE ?_))
 refine ⟨by kernel_rfl,?_⟩
 refine aI (aD ?_)
 cases h0
 exact fN (rs := [.cell 4 121]) rfl
theorem aB4 {p0 : bJ} {p1 : List Bool} {p2 : List aJ} {r : Bool × Bool × List Bool × List aJ} (h0 : hP p0 p1 p2 = some r) : FnC Tryz.prog 252 [.live [⟨4,1, .data (List.map cB p1)⟩], .live [⟨62,2, .data (List.map eZ p2)⟩]] [.ref (fT p0), .own 0 0 (p1).length, .own 1 0 (p2).length] [.live [⟨4,1, .data (List.map cB r.2.2.1)⟩], .live [⟨62,2, .data (List.map eZ r.2.2.2)⟩]] (.tup [dB r.1,(dB r.2.1)]) := by
 refine fi 92 tok Tryz.func252 ?_
 unfold hP at h0
 refine sq [0,1] (pa ?_)
 refine pa (nx (sq [0] ?_))
 refine pa (nx ?_)
 obtain ⟨v27x,h1,h0⟩ := bnd h0
 refine dX v27x (fun v27 => ⟨aE ((fun _ => .dead)) 8 (dB v27.1),lks [.live [⟨4,1, .data (List.map cB v27.2.1)⟩], .live [⟨62,2, .data (List.map eZ v27.2.2)⟩], .no]⟩) ?_ ?_
 refine sq [0] (pa (nx (aK ?_)))
 refine bD (fun s14 => ⟨aE (aE (aE (aE (aE ((fun _ => .dead)) 0 (.ref (fT p0))) 1 (.own 0 0 (s14.2.2.1).length)) 2 (.own 1 0 (s14.2.2.2).length)) 8 (dB s14.1)) 9 (dI s14.2.1),lks [.live [⟨4,1, .data (List.map cB s14.2.2.1)⟩], .live [⟨62,2, .data (List.map eZ s14.2.2.2)⟩], .no]⟩) h1 ?_ (fun s14 y h2 => ?_)
 exact wk [0,1,2]
 refine aG (sq [0,1,2,3,4,5,6] (pm ?_))
 refine pmr ?_
 refine nr ?_
 refine fr tok ?_
 refine lr tok ?_
 refine rP rfl (aN tok rfl rfl rfl) (rP rfl (bX rfl rfl) (nx ?_))
 refine bM h2 rfl (fun hc h2 => ?_) (fun hc h2 => ?_)
 refine sk ?_
 obtain ⟨v26x,h3,h2⟩ := bnd h2
 refine dX v26x (fun v26 => ⟨aE (aE (aE (aE (aE ((fun _ => .dead)) 0 (.ref (fT p0))) 1 (.own 0 0 (v26.2.1).length)) 2 (.own 1 0 (v26.2.2).length)) 8 (dB v26.1)) 9 (dI s14.2.1),lks [.live [⟨4,1, .data (List.map cB v26.2.1)⟩], .live [⟨62,2, .data (List.map eZ v26.2.2)⟩], .no]⟩) ?_ ?_
 refine aK (sq [0,1,2,3,4,5,6,7,8] (pmr ?_))
 refine nr ?_
 refine fr tok ?_
 refine lr tok ?_
 refine pm ?_
 obtain ⟨v15,hv15,h3⟩ := bnd h3
 refine rP rfl (cV tok hv15 rfl rfl rfl rfl rfl rfl) (rP rfl (bT tok rfl rfl rfl (by repeat (first | exact kK.z _ | apply kK.t))) (al 3 [z0,z0,z0,z0] tok ?_))
 refine bst tok (nx (sq [0,1,2,3,4] ?_))
 refine pmr ?_
 refine rL rfl (aU tok rfl rfl rfl rfl) ?_
 obtain ⟨v16,hv16,h3⟩ := bnd h3
 refine rS rfl (aO 4 (aC9 hv16) rfl rfl rfl) (al 4 [z0,z0] tok ?_)
 refine bst tok (nx (aG (aG ?_)))
 refine aF (is := [0,1,2,3,4,5,6,7,8,9,10]) [0,0,2,7,15,0,0,64,224,480,1023] follows (by kernel_rfl) (tP rfl (aH (r := .own _ _ _) rfl) (tfa tok ?_))
 refine tld tok ?_
 obtain ⟨v17,hv17,h3⟩ := bnd h3
 refine bS rfl w0 rfl (lI tok hv17 rfl rfl rfl rfl rfl rfl rfl rfl) rfl rfl rfl (bS rfl w0 rfl (nY tok (iY hv17).2.1 rfl rfl rfl rfl rfl rfl) rfl rfl rfl (tP rfl (aH (r := .own _ _ _) rfl) (tfa tok ?_)))
 refine tld tok ?_
 obtain ⟨v18,hv18,h3⟩ := bnd h3
 refine bS rfl w0 rfl (lI tok hv18 rfl rfl rfl rfl rfl rfl rfl rfl) rfl rfl rfl (bS rfl w0 rfl (nY tok (iY hv18).2.1 rfl rfl rfl rfl rfl rfl) rfl rfl rfl (tP rfl (aSc tok rfl rfl rfl rfl) (bE ?_)))
 refine ⟨by kernel_rfl,?_⟩
 refine aI ?_
 refine bL h3 rfl (fun hc h3 => ?_) (fun hc h3 => ?_)
 refine bK (bY (aY (aI ?_)))
 cases h3
 refine ⟨_,rfl,?_⟩
 exact wk [0,1,2]
 refine sk ?_
 obtain ⟨v20,h4,h3⟩ := bnd h3
 refine bG ⟨aE (aE (aE (aE (aE (aE ((fun _ => .dead)) 0 (.ref (fT p0))) 1 (.own 0 0 (s14.2.2.1).length)) 2 (.own 1 0 (s14.2.2.2).length)) 9 (dI s14.2.1)) 10 (.ptr 3 0 1 0 0)) 11 (.ptr 4 0 1 0 0),lks [.live [⟨4,1, .data (List.map cB s14.2.2.1)⟩], .live [⟨62,2, .data (List.map eZ s14.2.2.2)⟩], .no, .live [⟨125,4, .av [[dI v20.1.A,(dI v20.1.WheelA),(dI v20.1.B),(dI v20.1.WheelB)]]⟩], .live [⟨121,2, .av [[dI v20.2.Driver,(dI v20.2.Driven)]]⟩]]⟩ ?_ ?_
 refine sq [0,1,2,3,4] (rP rfl (aH (r := .own _ _ _) rfl) (fa tok ?_))
 refine ld tok ?_
 obtain ⟨v19,hv19,h4⟩ := bnd h4
 refine rL rfl (lI tok hv19 rfl rfl rfl rfl rfl rfl rfl rfl) (rL rfl (nY tok (iY hv19).2.1 rfl rfl rfl rfl rfl rfl) (nx ?_))
 refine bL h4 rfl (fun hc h4 => ?_) (fun hc h4 => ?_)
 refine sq [0,1,2,3,4,5] (fa tok ?_)
 refine ld tok ?_
 refine fa tok ?_
 refine ld tok ?_
 refine rP rfl (pbl (C0 := [z0,z0,z0,z0]) tok rfl rfl rfl) (bst tok (nx (sr [0,1,2,3,4,5] ?_)))
 refine fa tok ?_
 refine ld tok ?_
 refine fa tok ?_
 refine ld tok ?_
 refine rP rfl (pbl (C0 := [z0,z0]) tok rfl rfl rfl) (bst tok (nx ?_))
 cases h4
 exact wk [0,1,2,3,4]
 refine sk ?_
 cases h4
 exact wk [0,1,2,3,4]
 refine sq [0,1,2,3,4,5,6,7,8,9,10,11] (fa tok ?_)
 refine ld tok ?_
 refine rP rfl (vC rfl) (fa tok ?_)
 refine ld tok ?_
 obtain ⟨v21,hv21,h3⟩ := bnd h3
 refine rS rfl (aO 5 (nZ hv21) rfl rfl rfl) (rP rfl (aH (r := .tup _) rfl) (rP rfl (aQ rfl rfl) (rP rfl (aQ rfl rfl) (al 5 [z0,z0] tok ?_))))
 refine bst tok ?_
 refine pa (nx (aG ?_))
 refine aF (is := [0,1,2,3,4,5,6,7,8,9,10,11,12]) [0,0,2,7,15,0,63,127,255,255,0,1535,4095] follows (by kernel_rfl) (tP rfl (aH (r := .own _ _ _) rfl) (tfa tok ?_))
 refine tld tok ?_
 obtain ⟨v22,hv22,h3⟩ := bnd h3
 refine bS rfl w0 rfl (lI tok hv22 rfl rfl rfl rfl rfl rfl rfl rfl) rfl rfl rfl (bS rfl w0 rfl (aBq tok (iY hv22).2.1 rfl rfl rfl rfl rfl) rfl rfl rfl (bS rfl w0 rfl (aU tok rfl rfl rfl rfl) rfl rfl rfl ?_))
 obtain ⟨v23,hv23,h3⟩ := bnd h3
 refine jB rfl w0 rfl (cP 7 (aAl hv23) rfl rfl rfl) (tP rfl (aH (r := .tup _) rfl) (tP rfl (aQ rfl rfl) (tP rfl (aQ rfl rfl) (aBa rfl w0 rfl rfl (fun hx hk => jJ 6 (cs := [z0,z0]) tok rfl rfl hk) (iK rfl w0 (fQ (cs := _ :: _) tok rfl rfl rfl rfl rfl rfl rfl) (tpa ?_))))))
 refine bE ?_
 refine ⟨by kernel_rfl,?_⟩
 refine aI (aG (sq [0,1] (pm ?_)))
 refine rP rfl (bO rfl) (nx ?_)
 refine bL h3 rfl (fun hc h3 => ?_) (fun hc h3 => ?_)
 refine sq [0,1] (pa ?_)
 refine pa (nx (aD (aS ?_)))
 refine bH ?_
 cases h3
 replace h2 := gG h2
 refine aS ?_
 cases h2
 refine eV ⟨_,rfl,fun e => ?_⟩
 subst e
 refine bH ?_
 replace h0 := gG h0
 refine aS ?_
 cases h0
 exact nU (rs := [.tmp 6, .tmp 7]) 2 rfl rfl
 refine sk (sq [0,1,2,3,4,5] (rP rfl (aH (r := .own _ _ _) rfl) (fa tok ?_)))
 refine ld tok ?_
 refine rL rfl (aU tok rfl rfl rfl rfl) ?_
 obtain ⟨v24,hv24,h3⟩ := bnd h3
 refine rL rfl (lI tok hv24 rfl rfl rfl rfl rfl rfl rfl rfl) (rw0 rfl w0 (aJh (cs := _ :: _) tok v23.1 (iY hv24).2.1 rfl rfl rfl rfl rfl rfl rfl rfl) (nx (sq [0,1,2,3,4] (rP rfl (aH (r := .own _ _ _) rfl) (fa tok ?_)))))
 refine ld tok ?_
 obtain ⟨v25,hv25,h3⟩ := bnd h3
 refine rL rfl (lI tok hv25 rfl rfl rfl rfl rfl rfl rfl rfl) (rw0 rfl w0 (aJh (cs := [.d _]) tok true (iY hv25).2.1 rfl rfl rfl rfl rfl rfl rfl rfl) (nx (sr [0] (pa (bB ?_)))))
 refine bF (aI ?_)
 cases h3
 refine ⟨_,rfl,?_⟩
 exact wk [0,1,2]
 rintro v26 rfl
 replace h2 := iP h2
 refine sr [0,1,2] (pm ?_)
 refine rP rfl (bI rfl rfl) (pa (bB ?_))
 refine cA ?_
 cases h2
 refine ⟨_,rfl,?_⟩
 exact wk [0,1,2]
 refine bK (bY ?_)
 cases h2
 refine cC ⟨_,rfl,fun e => ?_⟩
 subst e
 refine aY (aI ?_)
 refine ⟨_,rfl,?_⟩
 exact wk [0,1,2]
 rintro v27 rfl
 replace h0 := iP h0
 refine sq [0,1,2] (pm ?_)
 refine pa ?_
 refine pa (nx (aD ?_))
 cases h0
 exact nU (rs := [.tmp 6, .tmp 7]) 2 rfl rfl
theorem aJn {p0 : bJ} {p1 : cH} {p2 : List aJ} {r : Bool} (h0 : rJ p0 p1 p2 = some r) : FnC Tryz.prog 253 [] [.ref (fT p0), .agg [dI p1.A,(dI p1.WheelA),(dI p1.B),(dI p1.WheelB)],(dL eZ p2)] [] (dB r) := by
 refine fi 44 tok Tryz.func253 ?_
 unfold rJ at h0
 refine sq [0,1] (bxx 3 ?_)
 refine pa (nx (sq [0,1,2,3,4] ?_))
 refine pmr ?_
 refine rL rfl (aU tok rfl rfl rfl rfl) ?_
 obtain ⟨v1,hv1,h0⟩ := bnd h0
 refine rS rfl (aO 4 (aC9 hv1) rfl rfl rfl) (al 4 [z0,z0] tok ?_)
 refine bst tok (nx (sq [0,1,2,3,4,5,6,7,8,9,10,11] ?_))
 refine fa tok ?_
 refine ld tok ?_
 refine rP rfl (vC rfl) (fa tok ?_)
 refine ld tok ?_
 obtain ⟨v2,hv2,h0⟩ := bnd h0
 refine rS rfl (aO 5 (nZ hv2) rfl rfl rfl) (rP rfl (aH (r := .tup _) rfl) (rP rfl (aQ rfl rfl) (rP rfl (aQ rfl rfl) (al 5 [z0,z0] tok ?_))))
 refine bst tok ?_
 refine pa (nx (aG ?_))
 refine aF (is := [0,1,2,3,4,5,6,7,8,9,10,11,12]) [0,0,2,7,15,0,63,127,255,255,0,1535,4095] follows (by kernel_rfl) (tpm ?_)
 refine tfa tok ?_
 refine tld tok ?_
 obtain ⟨v3,hv3,h0⟩ := bnd h0
 refine tP rfl (cV tok hv3 rfl rfl rfl rfl rfl rfl) (tP rfl (bT tok rfl rfl rfl (by repeat (first | exact kK.z _ | apply kK.t))) (bS rfl w0 rfl (aU tok rfl rfl rfl rfl) rfl rfl rfl ?_))
 obtain ⟨v4,hv4,h0⟩ := bnd h0
 refine jB rfl w0 rfl (cP 7 (aAl hv4) rfl rfl rfl) (tP rfl (aH (r := .tup _) rfl) (tP rfl (aQ rfl rfl) (tP rfl (aQ rfl rfl) (aBa rfl w0 rfl rfl (fun hx hk => jJ 6 (cs := [z0,z0]) tok rfl rfl hk) (iK rfl w0 (fQ (cs := _ :: _) tok rfl rfl rfl rfl rfl rfl rfl) (tpa ?_))))))
 refine bE ?_
 refine ⟨by kernel_rfl,?_⟩
 refine aI (aG (aF (is := [0,1,2,3,4,5,6,7,8,9,10]) [0,1,3,3,3,19,59,123,255,511,1023] follows (by kernel_rfl) (tpm ?_)))
 refine tpm ?_
 refine nT (u := 35) h0 rfl (fun hc h0 => ?_) (fun hc h0 => ?_)
 refine bS rfl (w1 rfl rfl rfl) rfl (aU tok rfl rfl rfl rfl) rfl rfl rfl (aJc ?_)
 refine bS rfl (w1 rfl rfl rfl) rfl (uL tok rfl rfl rfl rfl rfl rfl rfl) rfl rfl rfl (bS rfl (w1 rfl rfl rfl) rfl (nG tok rfl rfl rfl rfl rfl) rfl rfl rfl ?_)
 obtain ⟨v5,hv5,h0⟩ := bnd h0
 refine qJ rfl (w1 rfl rfl rfl) rfl (cV tok hv5 rfl rfl rfl rfl rfl rfl) (qJ rfl (w1 rfl rfl rfl) rfl (bT tok rfl rfl rfl (by repeat (first | exact kK.z _ | apply kK.t))) (qJ rfl (w1 rfl rfl rfl) rfl (aF6 (a := v4.1) (b := v5) rfl rfl) (vG ?_)))
 refine tpa ?_
 refine bE ?_
 refine ⟨by kernel_rfl,?_⟩
 refine aI (aD ?_)
 cases h0
 exact r0t 6 rfl
 iterate 7 refine k2 ?_
 refine tA ?_
 refine tpa ?_
 refine bE ?_
 refine ⟨by kernel_rfl,?_⟩
 refine aI (aD ?_)
 cases h0
 exact r0t 6 rfl
theorem aG7 {p0 : bJ} {p1 : Int} {r : List aJ × Int} (h0 : mX p0 p1 = some r) : FnC Tryz.prog 206 [] [.ref (fT p0),(dI p1)] [.live [⟨62,2, .data (List.map eZ r.1)⟩]] (.tup [.own 0 0 r.1.length,(dI r.2)]) := by
 refine fi 79 tok Tryz.func206 ?_
 unfold mX at h0
 refine sq [0,1] (pa ?_)
 refine pa (nx (aG (sq [0,1,2,3] ?_)))
 refine pmr ?_
 refine pm ?_
 obtain ⟨v1,hv1,h0⟩ := bnd h0
 refine rS rfl (aO 3 (tV hv1) rfl rfl rfl) (rP rfl (bO rfl) (nx ?_))
 refine bL h0 rfl (fun hc h0 => ?_) (fun hc h0 => ?_)
 refine sq [0,1] (pa ?_)
 refine pa (nx ?_)
 refine cJ (dD 3 rfl 62 2 (d := 4) rfl) (aD (aS ?_))
 cases h0
 exact dJ (rs := [.tmp 4, .tmp 5]) [3] rfl
 refine sk (sq [0,1,2,3,4,5,6] (pmr ?_))
 refine nr ?_
 refine fr tok ?_
 refine lr tok ?_
 refine rP rfl (aN tok rfl rfl rfl) ?_
 obtain ⟨hq2,h0⟩ := dM h0
 refine rS rfl (aNx 3 tok (c := cB) false hq2 rfl rfl rfl rfl rfl rfl rfl rfl rfl rfl rfl rfl rfl) (rP rfl (aR (r := .own _ _ _) rfl) (nx (sq [0,1,2,3,4,5,6] (pmr ?_))))
 refine nr ?_
 refine fr tok ?_
 refine lr tok ?_
 refine rP rfl (aN tok rfl rfl rfl) ?_
 obtain ⟨hq3,h0⟩ := dM h0
 refine rS rfl (aNx 4 tok (c := eZ) (⟨0,0⟩ : aJ) hq3 rfl rfl rfl rfl rfl rfl rfl rfl rfl rfl rfl rfl rfl) (rP rfl (aR (r := .own _ _ _) rfl) (nx (sq [0,1,2,3] (rP rfl (aH (r := .own _ _ _) rfl) (pm ?_)))))
 obtain ⟨v4,hv4,h0⟩ := bnd h0
 refine rL rfl (lI tok hv4 rfl rfl rfl rfl rfl rfl rfl rfl) (rw0 rfl w0 (aJh (cs := [.d _]) tok true (iY hv4).2.1 rfl rfl rfl rfl rfl rfl rfl rfl) (nx (sq [0,1,2,3,4] (rP rfl (aH (r := .own _ _ _) rfl) (pm ?_)))))
 obtain ⟨v5,hv5,h0⟩ := bnd h0
 refine rS rfl (aO 5 (sJ hv5) rfl rfl rfl) ?_
 obtain ⟨v6,hv6,h0⟩ := bnd h0
 refine rL rfl (lI tok hv6 rfl rfl rfl rfl rfl rfl rfl rfl) (rw0 rfl w0 (aJh (cs := _ :: _) tok v5 (iY hv6).2.1 rfl rfl rfl rfl rfl rfl rfl rfl) (nx ?_))
 obtain ⟨v15x,h1,h0⟩ := bnd h0
 refine dX v15x (fun v15 => ⟨aE (aE (aE ((fun _ => .dead)) 0 (.ref (fT p0))) 6 (.own 3 0 (v15.1).length)) 7 (.own 4 0 (v15.2).length),lks [.no, .no, .no, .live [⟨4,1, .data (List.map cB v15.1)⟩], .live [⟨62,2, .data (List.map eZ v15.2)⟩]]⟩) ?_ ?_
 refine sq [0] (pa (nx (aK ?_)))
 refine bD (fun s11 => ⟨aE (aE (aE (aE ((fun _ => .dead)) 0 (.ref (fT p0))) 6 (.own 3 0 (s11.2.1).length)) 7 (.own 4 0 (s11.2.2).length)) 8 (dB s11.1),lks [.no, .no, .no, .live [⟨4,1, .data (List.map cB s11.2.1)⟩], .live [⟨62,2, .data (List.map eZ s11.2.2)⟩]]⟩) h1 ?_ (fun s11 y h2 => ?_)
 exact wk [0,1,2,3,4]
 refine aG (sq [0] (pm (nx ?_)))
 refine bL h2 rfl (fun hc h2 => ?_) (fun hc h2 => ?_)
 refine sk (aK (sq [0,1,2,3,4,5,6,7,8] (pmr ?_)))
 refine rP rfl (aH (r := .own _ _ _) rfl) (rP rfl (aH (r := .own _ _ _) rfl) ?_)
 obtain ⟨v12,hv12,h2⟩ := bnd h2
 obtain ⟨hq13,h2⟩ := dM h2
 obtain ⟨hq14,h2⟩ := dM h2
 refine rw1 rfl w0 rfl (dU [3,4] 300 (aB4 hv12) rfl rfl) (rP rfl (aH (r := .tup _) rfl) (rP rfl (aQ rfl rfl) (rP rfl (aQ rfl rfl) (pa ?_))))
 refine pa (nx (aG (sq [0,1] ?_)))
 refine pm ?_
 refine rP rfl (bO rfl) (nx ?_)
 refine bL h2 rfl (fun hc h2 => ?_) (fun hc h2 => ?_)
 refine sq [0,1] (pa ?_)
 refine pa (nx ?_)
 refine cJ (dD 5 rfl 62 2 (d := 4) rfl) (aD (aS (bH ?_)))
 cases h2
 refine eV ⟨_,rfl,fun e => ?_⟩
 subst e
 refine bH ?_
 replace h0 := gG h0
 refine aS ?_
 cases h0
 exact dJ (rs := [.tmp 4, .tmp 5]) [5] rfl
 refine sk (sr [0,1] (pm ?_))
 refine pa (bB ?_)
 refine bF (cA ?_)
 cases h2
 refine ⟨_,rfl,?_⟩
 exact wk [0,1,2,3,4]
 refine bK (bY ?_)
 cases h2
 refine cC ⟨_,rfl,fun e => ?_⟩
 subst e
 refine aY (aI ?_)
 refine ⟨_,rfl,?_⟩
 exact wk [0,1,2,3,4]
 rintro v15 rfl
 replace h0 := iP h0
 obtain ⟨v20x,h1,h0⟩ := bnd h0
 refine dX v20x (fun v20 => ⟨aE (aE ((fun _ => .dead)) 0 (.ref (fT p0))) 7 (.own 3 0 (v15.2).length),lks [.no, .no, .no, .live [⟨62,2, .data (List.map eZ v15.2)⟩]]⟩) ?_ ?_
 refine sq [0] (pa (nx (aK ?_)))
 refine bD (fun s18 => ⟨aE (aE (aE (aE ((fun _ => .dead)) 0 (.ref (fT p0))) 6 (.own 3 0 (v15.1).length)) 7 (.own 4 0 (v15.2).length)) 11 (dI s18),lks [.no, .no, .no, .live [⟨4,1, .data (List.map cB v15.1)⟩], .live [⟨62,2, .data (List.map eZ v15.2)⟩]]⟩) h1 ?_ (fun s18 y h2 => ?_)
 exact wk [0,1,2,3,4]
 refine aG (sq [0,1,2,3] (pm ?_))
 refine rP rfl (aH (r := .own _ _ _) rfl) (rL rfl (nO tok rfl rfl rfl rfl rfl) (rP rfl (bX rfl rfl) (nx ?_)))
 refine bM h2 rfl (fun hc h2 => ?_) (fun hc h2 => ?_)
 refine sk (aG (aK (sq [0,1,2,3,4] (rP rfl (aH (r := .own _ _ _) rfl) (pm ?_)))))
 obtain ⟨v19,hv19,h2⟩ := bnd h2
 refine rL rfl (lI tok hv19 rfl rfl rfl rfl rfl rfl rfl rfl) (rL rfl (nY tok (iY hv19).2.1 rfl rfl rfl rfl rfl rfl) (rP rfl (bO rfl) (nx ?_)))
 refine bL h2 rfl (fun hc h2 => ?_) (fun hc h2 => ?_)
 refine sq [0,1] (pa ?_)
 refine pa (nx ?_)
 refine cJ (dD 5 rfl 62 2 (d := 4) rfl) (aD (bH (aS ?_)))
 cases h2
 refine eV ⟨_,rfl,fun e => ?_⟩
 subst e
 refine bH ?_
 replace h0 := gG h0
 refine aS ?_
 cases h0
 exact dJ (rs := [.tmp 4, .tmp 5]) [5] rfl
 refine cU (bF (aI (sr [0,1,2] (pm ?_))))
 refine rP rfl (bI rfl rfl) (pa (bB ?_))
 refine cA ?_
 cases h2
 refine ⟨_,rfl,?_⟩
 exact wk [0,1,2,3,4]
 refine bK (bY ?_)
 cases h2
 refine cC ⟨_,rfl,fun e => ?_⟩
 subst e
 refine aY (aI ?_)
 refine ⟨_,rfl,?_⟩
 exact wk [0,1,2,4]
 rintro v20 rfl
 replace h0 := iP h0
 obtain ⟨v27x,h1,h0⟩ := bnd h0
 refine dX v27x (fun v27 => ⟨aE ((fun _ => .dead)) 7 (.own 3 0 (v15.2).length),lks [.no, .no, .no, .live [⟨62,2, .data (List.map eZ v15.2)⟩]]⟩) ?_ ?_
 refine sq [0] (pa (nx (aK ?_)))
 refine bD (fun s24 => ⟨aE (aE (aE ((fun _ => .dead)) 0 (.ref (fT p0))) 7 (.own 3 0 (v15.2).length)) 12 (dI s24),lks [.no, .no, .no, .live [⟨62,2, .data (List.map eZ v15.2)⟩]]⟩) h1 ?_ (fun s24 y h2 => ?_)
 exact wk [0,1,2,3]
 refine aG (sq [0,1,2,3,4,5,6] (pm ?_))
 refine pmr ?_
 refine nr ?_
 refine fr tok ?_
 refine lr tok ?_
 refine rP rfl (aN tok rfl rfl rfl) (rP rfl (bX rfl rfl) (nx ?_))
 refine bM h2 rfl (fun hc h2 => ?_) (fun hc h2 => ?_)
 refine sk (aG (aK (sq [0,1,2,3,4,5,6,7,8,9,10] (pmr ?_))))
 refine pmr ?_
 refine nr ?_
 refine fr tok ?_
 refine lr tok ?_
 refine pm ?_
 obtain ⟨v25,hv25,h2⟩ := bnd h2
 refine rP rfl (cV tok hv25 rfl rfl rfl rfl rfl rfl) (rP rfl (bT tok rfl rfl rfl (by repeat (first | exact kK.z _ | apply kK.t))) (rP rfl (aH (r := .own _ _ _) rfl) ?_))
 obtain ⟨v26,hv26,h2⟩ := bnd h2
 refine rS rfl (eE 4 (aJn hv26) rfl rfl) (rP rfl (bO rfl) (nx ?_))
 refine bL h2 rfl (fun hc h2 => ?_) (fun hc h2 => ?_)
 refine sq [0,1] (pa ?_)
 refine pa (nx ?_)
 refine cJ (dD 4 rfl 62 2 (d := 4) rfl) (aD (bH (aS ?_)))
 cases h2
 refine eV ⟨_,rfl,fun e => ?_⟩
 subst e
 refine bH ?_
 replace h0 := gG h0
 refine aS ?_
 cases h0
 exact dJ (rs := [.tmp 4, .tmp 5]) [4] rfl
 refine cU (bF (aI (sr [0,1,2] (pm ?_))))
 refine rP rfl (bI rfl rfl) (pa (bB ?_))
 refine cA ?_
 cases h2
 refine ⟨_,rfl,?_⟩
 exact wk [0,1,2,3]
 refine bK (bY ?_)
 cases h2
 refine cC ⟨_,rfl,fun e => ?_⟩
 subst e
 refine aY (aI ?_)
 refine ⟨_,rfl,?_⟩
 exact wk [0,1,2,3]
 rintro v27 rfl
 replace h0 := iP h0
 refine sq [0,1,2] (rP rfl (aH (r := .own _ _ _) rfl) (rP rfl (aR (r := .own _ _ _) rfl) (pa (nx (aD ?_)))))
 cases h0
 exact dJ (rs := [.tmp 4, .tmp 5]) [3] rfl
theorem aHt {p0 : aX} {p1 : aJ} {r : Bool} (h0 : sS p0 p1 = some r) : FnC Tryz.prog 207 [] [.ref (fY p0), .agg [dI p1.Num,(dI p1.Den)]] [] (dB r) := by
 refine fi 22 tok Tryz.func207 ?_
 unfold sS at h0
 refine sq [0,1] (bxx 3 ?_)
 refine pa (nx (aG ?_))
 refine aF (is := [0,1,2,3,4,5,6,9,10,11,12,13,14,15,7,8,16,17]) [0,1,3,7,15,0,32,96,255,0,512,1536,3584,0,8192,32256,65535,131071] follows (by kernel_rfl) (rZ ?_)
 refine tnr ?_
 refine tfr tok ?_
 refine tlr tok ?_
 refine tP rfl (fO rfl rfl) (tfa tok ?_)
 refine tld tok ?_
 refine rZ ?_
 refine tnr ?_
 refine tfr tok ?_
 refine tlr tok ?_
 refine tfa tok ?_
 refine tld tok ?_
 refine tP rfl (fO rfl rfl) ?_
 obtain ⟨v1,hv1,h0⟩ := bnd h0
 refine jB rfl w0 rfl (cP 4 (rN hv1) rfl rfl rfl) (tP rfl (fO rfl rfl) (tP rfl (eN rfl rfl) (tpa ?_)))
 refine bE ?_
 refine ⟨by kernel_rfl,?_⟩
 refine aI (aD ?_)
 cases h0
 exact r0t 4 rfl
theorem aFc {p0 : aA} {p1 : List Int} {r : Int} (h0 : oP p0 p1 = some r) : FnC Tryz.prog 202 [] [.ref (dG p0),(dL cI p1)] [] (dI r) := by
 refine fi 22 tok Tryz.func202 ?_
 unfold oP at h0
 refine sq [0] (pa (nx (aG ?_)))
 obtain ⟨v3,h1,h0⟩ := bnd h0
 refine bG ⟨aE (aE (aE ((fun _ => .dead)) 0 (.ref (dG p0))) 1 (dL cI p1)) 12 (dB v3),lks [.no, .no, .no]⟩ ?_ ?_
 refine sr [0,1,2,3,4,5,6,7] (pmr ?_)
 obtain ⟨v1,hv1,h1⟩ := bnd h1
 refine rS rfl (aO 3 (wN hv1) rfl rfl rfl) (rP rfl (bO rfl) (pm ?_))
 refine dH (u := 8) h1 rfl (fun hc h1 => ?_) (fun hc h1 => ?_)
 iterate 3 refine k1 ?_
 refine pkt (nx ?_)
 cases h1
 exact wk [0,1,2]
 refine pm1 ?_
 obtain ⟨v2,hv2,h1⟩ := bnd h1
 refine rs rfl (w1 rfl rfl rfl) rfl (aO 3 (aD7 hv2) rfl rfl rfl) (rp rfl (w1 rfl rfl rfl) rfl (bO rfl) (pkf (nx ?_)))
 cases h1
 exact wk [0,1,2]
 refine bL h0 rfl (fun hc h0 => ?_) (fun hc h0 => ?_)
 refine sq [0] (pa (nx (aD (aS ?_))))
 cases h0
 exact r0t 4 rfl
 refine sk (aG (sq [0,1,2,3,4,5,6,7,8] (pm ?_)))
 refine rP rfl (aN tok rfl rfl rfl) (pmr ?_)
 refine nr ?_
 refine fr tok ?_
 refine lr tok ?_
 refine rP rfl (aN tok rfl rfl rfl) ?_
 obtain ⟨hq4,h0⟩ := dM h0
 refine rP rfl (fJ rfl rfl hq4) (rP rfl (fA rfl rfl) (nx ?_))
 refine bM h0 rfl (fun hc h0 => ?_) (fun hc h0 => ?_)
 refine sq [0] (pa (nx (aD (aS ?_))))
 cases h0
 exact r0t 4 rfl
 refine sk (sq [0] (pa (nx (aD ?_))))
 cases h0
 exact r0t 4 rfl
theorem zE {p0 : aX} {r : List ByteArray} (h0 : lG p0 = some r) : FnC Tryz.prog 126 [] [.ref (fY p0)] [.live [⟨9,1, .data (List.map cS r)⟩]] (.own 0 0 r.length) := by
 refine fi 61 tok Tryz.func126 ?_
 unfold lG at h0
 refine sq [0] (pa (nx (sq [0,1] ?_)))
 refine rS rfl (eJ 3 tok rfl rfl rfl rfl) (rP rfl (aR (r := .own _ _ _) rfl) (nx (aG (aF (is := [0,1,2,3,4,5,6,7,8,9,10,11,12]) [0,1,3,0,8,24,56,127,255,511,511,1023,4095] follows (by kernel_rfl) (rZ ?_)))))
 refine tnr ?_
 refine tfr tok ?_
 refine rZ ?_
 refine tnr ?_
 refine tfr tok ?_
 refine tlr tok ?_
 obtain ⟨v1,hv1,h0⟩ := bnd h0
 refine jB rfl w0 rfl (cP 4 (nN (aG7 hv1)) rfl rfl rfl) (tP rfl (aH (r := .tup _) rfl) (tP rfl (aQ rfl rfl) (tP rfl (aQ rfl rfl) (tP rfl (aR (r := .own _ _ _) rfl) (tpa ?_)))))
 refine bE ?_
 refine ⟨by kernel_rfl,?_⟩
 refine aI ?_
 obtain ⟨v9,h1,h0⟩ := bnd h0
 refine bG ⟨aE (aE ((fun _ => .dead)) 0 (.ref (fY p0))) 3 (.own 3 0 (v9).length),lks [.no, .no, .no, .live [⟨9,1, .data (List.map cS v9)⟩]]⟩ ?_ ?_
 refine sq [0,1] (pm ?_)
 refine rP rfl (fA rfl rfl) (nx ?_)
 refine bM h1 rfl (fun hc h1 => ?_) (fun hc h1 => ?_)
 refine sr [0,1,2,3] (rP rfl (aH (r := .own _ _ _) rfl) (rS rfl (iL tok cS [(⟨#[119,111,114,107,115]⟩ : ByteArray)] rfl rfl rfl (by repeat (first | exact Els.nil _ | apply Els.cons (cs := [.d _]) rfl rfl rfl | apply Els.cons (cs := _ :: _) rfl rfl rfl)) rfl rfl rfl (by repeat (first | exact cX.nil | (apply cX.cons; (repeat (first | exact fZ.nil | apply fZ.cons))))) rfl) ?_))
 obtain ⟨hq2,h1⟩ := dM h1
 refine rw1 rfl w0 rfl (fP tok hq2 rfl rfl rfl rfl rfl rfl rfl rfl rfl rfl rfl rfl (fun _ => rfl)) (rP rfl (aR (r := .own _ _ _) rfl) (nx ?_))
 cases h1
 exact wk [0,1,2,3]
 obtain ⟨v5,h2,h1⟩ := bnd h1
 refine bG ⟨aE (aE (aE ((fun _ => .dead)) 0 (.ref (fY p0))) 3 (.own 3 0 (v5).length)) 4 (.own 4 0 (v1.1).length),lks [.no, .no, .no, .live [⟨9,1, .data (List.map cS v5)⟩], .live [⟨62,2, .data (List.map eZ v1.1)⟩]]⟩ ?_ ?_
 refine sq [0,1,2,3,4,5,6,7,8] (rP rfl (aH (r := .own _ _ _) rfl) (pmr ?_))
 refine nr ?_
 refine fr tok ?_
 refine lr tok ?_
 obtain ⟨v3,hv3,h2⟩ := bnd h2
 refine rL rfl (lI tok hv3 rfl rfl rfl rfl rfl rfl rfl rfl) (rL rfl (aBq tok (iY hv3).2.1 rfl rfl rfl rfl rfl) (rP rfl (pbl (C0 := [z0,z0]) tok rfl rfl rfl) (rP rfl (uN (a := v3) (b := (⟨1,12⟩ : aJ)) rfl rfl) (nx ?_))))
 refine bM h2 rfl (fun hc h2 => ?_) (fun hc h2 => ?_)
 refine sr [0,1,2,3] (rP rfl (aH (r := .own _ _ _) rfl) (rS rfl (iL tok cS [(⟨#[104,111,117,114]⟩ : ByteArray)] rfl rfl rfl (by repeat (first | exact Els.nil _ | apply Els.cons (cs := [.d _]) rfl rfl rfl | apply Els.cons (cs := _ :: _) rfl rfl rfl)) rfl rfl rfl (by repeat (first | exact cX.nil | (apply cX.cons; (repeat (first | exact fZ.nil | apply fZ.cons))))) rfl) ?_))
 obtain ⟨hq4,h2⟩ := dM h2
 refine rw1 rfl w0 rfl (fP tok hq4 rfl rfl rfl rfl rfl rfl rfl rfl rfl rfl rfl rfl (fun _ => rfl)) (rP rfl (aR (r := .own _ _ _) rfl) (nx ?_))
 cases h2
 exact wk [0,1,2,3,4]
 refine sk ?_
 cases h2
 exact wk [0,1,2,3,4]
 refine sq [0,1,2,3,4,5,6,7,8,9] (pmr ?_)
 refine rP rfl (aH (r := .own _ _ _) rfl) (pmr ?_)
 refine nr ?_
 refine fr tok ?_
 refine lr tok ?_
 obtain ⟨v6,hv6,h1⟩ := bnd h1
 refine rL rfl (lI tok hv6 rfl rfl rfl rfl rfl rfl rfl rfl) (rL rfl (aBq tok (iY hv6).2.1 rfl rfl rfl rfl rfl) ?_)
 obtain ⟨v7,hv7,h1⟩ := bnd h1
 refine rS rfl (aO 5 (aHt hv7) rfl rfl rfl) (rP rfl (bO rfl) (nx ?_))
 refine bL h1 rfl (fun hc h1 => ?_) (fun hc h1 => ?_)
 refine sr [0,1,2,3] (rP rfl (aH (r := .own _ _ _) rfl) (rS rfl (iL tok cS [(⟨#[98,101,97,116,115]⟩ : ByteArray)] rfl rfl rfl (by repeat (first | exact Els.nil _ | apply Els.cons (cs := [.d _]) rfl rfl rfl | apply Els.cons (cs := _ :: _) rfl rfl rfl)) rfl rfl rfl (by repeat (first | exact cX.nil | (apply cX.cons; (repeat (first | exact fZ.nil | apply fZ.cons))))) rfl) ?_))
 obtain ⟨hq8,h1⟩ := dM h1
 refine rw1 rfl w0 rfl (fP tok hq8 rfl rfl rfl rfl rfl rfl rfl rfl rfl rfl rfl rfl (fun _ => rfl)) (rP rfl (aR (r := .own _ _ _) rfl) (nx ?_))
 cases h1
 exact wk [0,1,2,3]
 refine sk ?_
 cases h1
 exact wk [0,1,2,3]
 obtain ⟨v12,h1,h0⟩ := bnd h0
 refine bG ⟨aE ((fun _ => .dead)) 3 (.own 3 0 (v12).length),lks [.no, .no, .no, .live [⟨9,1, .data (List.map cS v12)⟩]]⟩ ?_ ?_
 refine aG (aF (is := [0,1,2,3,4,5,6,7,8]) [0,1,3,0,8,24,56,127,255] follows (by kernel_rfl) (rZ ?_))
 refine tnr ?_
 refine tfr tok ?_
 refine rZ ?_
 refine tnr ?_
 refine tfr tok ?_
 refine tlr tok ?_
 obtain ⟨v10,hv10,h1⟩ := bnd h1
 refine jB rfl w0 rfl (cP 4 (nN (aFc hv10)) rfl rfl rfl) (tP rfl (fA rfl rfl) (bE ?_))
 refine ⟨by kernel_rfl,?_⟩
 refine aI ?_
 refine bM h1 rfl (fun hc h1 => ?_) (fun hc h1 => ?_)
 refine sr [0,1,2,3] (rP rfl (aH (r := .own _ _ _) rfl) (rS rfl (iL tok cS [(⟨#[99,97,109]⟩ : ByteArray)] rfl rfl rfl (by repeat (first | exact Els.nil _ | apply Els.cons (cs := [.d _]) rfl rfl rfl | apply Els.cons (cs := _ :: _) rfl rfl rfl)) rfl rfl rfl (by repeat (first | exact cX.nil | (apply cX.cons; (repeat (first | exact fZ.nil | apply fZ.cons))))) rfl) ?_))
 obtain ⟨hq11,h1⟩ := dM h1
 refine rw1 rfl w0 rfl (fP tok hq11 rfl rfl rfl rfl rfl rfl rfl rfl rfl rfl rfl rfl (fun _ => rfl)) (rP rfl (aR (r := .own _ _ _) rfl) (nx ?_))
 cases h1
 exact wk [0,1,2,3]
 refine sk ?_
 cases h1
 exact wk [0,1,2,3]
 refine sq [0,1] (rP rfl (aH (r := .own _ _ _) rfl) (rP rfl (aR (r := .own _ _ _) rfl) (nx (aD ?_))))
 cases h0
 exact dJ (rs := [.tmp 2]) [3] rfl
theorem aJk {p0 : Int} {r : Bool} (h0 : uV p0 = some r) : FnC Tryz.prog 250 [] [dI p0] [] (dB r) := by
 refine fi 5 tok Tryz.func250 ?_
 unfold uV at h0
 refine sq [0] (pa (nx (sq [0,1,2] ?_)))
 refine pm ?_
 obtain ⟨v1,hv1,h0⟩ := bnd h0
 refine rS rfl (aO 3 (cZ hv1) rfl rfl rfl) (pa (nx (aD ?_)))
 cases h0
 exact r0t 2 rfl
theorem aOt {p0 : aA} {p1 : bQ} {r : Bool} (h0 : vS p0 p1 = some r) : FnC Tryz.prog 203 [] [.ref (dG p0), .agg [dI p1.Year,(dI p1.Month),(dI p1.Day)]] [] (dB r) := by
 refine fi 30 tok Tryz.func203 ?_
 unfold vS at h0
 refine sq [0,1] (bxx 3 ?_)
 refine pa (nx (aG ?_))
 obtain ⟨v3,h1,h0⟩ := bnd h0
 refine bG ⟨aE (aE (aE ((fun _ => .dead)) 0 (.ref (dG p0))) 3 (.ptr 3 0 1 0 0)) 19 (dB v3),lks [.no, .no, .no, .live [⟨36,3, .av [[dI p1.Year,(dI p1.Month),(dI p1.Day)]]⟩]]⟩ ?_ ?_
 refine aF (is := [0,1,2,3,4,5,6,7,8,9,10,11,12,13,14]) [0,1,3,7,15,31,63,31,159,415,927,1951,4095,8191,16383] follows (by kernel_rfl) (tfa tok ?_)
 refine tld tok ?_
 obtain ⟨v1,hv1,h1⟩ := bnd h1
 refine jB rfl w0 rfl (cP 4 (aJk hv1) rfl rfl rfl) (tP rfl (bO rfl) (tpm ?_))
 refine nT (u := 9) h1 rfl (fun hc h1 => ?_) (fun hc h1 => ?_)
 iterate 9 refine k2 ?_
 refine vG ?_
 refine bE ?_
 refine ⟨by kernel_rfl,?_⟩
 refine aI ?_
 cases h1
 exact wk [0,1,2,3]
 refine bS rfl (w1 rfl rfl rfl) rfl (uL tok rfl rfl rfl rfl rfl rfl rfl) rfl rfl rfl (bS rfl (w1 rfl rfl rfl) rfl (nG tok rfl rfl rfl rfl rfl) rfl rfl rfl (qF ?_))
 refine aB3 ?_
 refine wR tok ?_
 refine aAi tok ?_
 refine qJ rfl (w1 rfl rfl rfl) rfl (aN tok rfl rfl rfl) ?_
 obtain ⟨v2,hv2,h1⟩ := bnd h1
 refine jB rfl (w1 rfl rfl rfl) rfl (cP 4 (cZ hv2) rfl rfl rfl) (qJ rfl (w1 rfl rfl rfl) rfl (bO rfl) (tA ?_))
 refine bE ?_
 refine ⟨by kernel_rfl,?_⟩
 refine aI ?_
 cases h1
 exact wk [0,1,2,3]
 refine bL h0 rfl (fun hc h0 => ?_) (fun hc h0 => ?_)
 refine sq [0] (pa (nx (aD (aS ?_))))
 cases h0
 exact r0t 4 rfl
 refine sk (aG (aF (is := [0,1,2,3,4,5,6,7,8,9,10]) [0,1,0,0,8,0,32,96,252,511,1023] follows (by kernel_rfl) (tfa tok ?_)))
 refine tld tok ?_
 refine rZ ?_
 refine tfa tok ?_
 refine tld tok ?_
 refine tfa tok ?_
 refine tld tok ?_
 refine tP rfl (eM rfl rfl) ?_
 obtain ⟨v4,hv4,h0⟩ := bnd h0
 refine jB rfl w0 rfl (cP 4 (uC hv4) rfl rfl rfl) ?_
 obtain ⟨v5,hv5,h0⟩ := bnd h0
 refine jB rfl w0 rfl (cP 4 (cZ hv5) rfl rfl rfl) (tpa ?_)
 refine bE ?_
 refine ⟨by kernel_rfl,?_⟩
 refine aI (aD ?_)
 cases h0
 exact r0t 4 rfl
theorem aAv {p0 : Int} {p1 : Int} {r : Int} (h0 : jT p0 p1 = some r) : FnC Tryz.prog 205 [] [dI p0,(dI p1)] [] (dI r) := by
 refine fi 10 tok Tryz.func205 ?_
 unfold jT at h0
 refine sq [0] (pa (nx (aG (sq [0,1,2] ?_))))
 refine pm ?_
 refine pm ?_
 refine rP rfl (eI rfl rfl) (nx ?_)
 refine bM h0 rfl (fun hc h0 => ?_) (fun hc h0 => ?_)
 refine sq [0,1] (pm ?_)
 refine pa (nx (aD (aS ?_)))
 cases h0
 exact r0t 4 rfl
 refine sk (sq [0,1] (pm ?_))
 refine pa (nx (aD ?_))
 cases h0
 exact r0t 4 rfl
theorem aB7 {p0 : aA} {p1 : List Int} {p2 : bQ} {p3 : Int} {r : aC × Int} (h0 : jQ p0 p1 p2 p3 = some r) : FnC Tryz.prog 117 [] [.agg [dS p0.Name,(dL aM p0.Months),(dL aB p0.Rules),(dI p0.Week)],(dL cI p1), .agg [dI p2.Year,(dI p2.Month),(dI p2.Day)],(dI p3)] [.live [⟨2,1, .data (List.map cI r.1.Cam)⟩]] (.tup [.agg [.own 0 0 r.1.Cam.length,(dI r.1.Months),(dI r.1.Teeth),(dI r.1.At),(dI r.1.Day),(dI r.1.Week),(dI r.1.Weekday)],(dI r.2)]) := by
 refine fi 97 tok Tryz.func117 ?_
 unfold jQ at h0
 refine sq [0,1,2,3] (bxx 3 ?_)
 refine bxx 4 ?_
 refine al 5 [zl,z0,z0,z0,z0,z0,z0] tok ?_
 refine pa (nx (sq [0,1,2] ?_))
 refine pm ?_
 obtain ⟨v1,hv1,h0⟩ := bnd h0
 refine rS rfl (eE 6 (aFc hv1) rfl rfl) (pa (nx (aG (sq [0,1] ?_))))
 refine pm ?_
 refine rP rfl (fA rfl rfl) (nx ?_)
 refine bM h0 rfl (fun hc h0 => ?_) (fun hc h0 => ?_)
 refine sq [0,1,2,3] (rP rfl (pbl (C0 := [zl,z0,z0,z0,z0,z0,z0]) tok rfl rfl rfl) (pm ?_))
 refine bst tok ?_
 refine pa (nx ?_)
 refine wa 6 2 1 5 0 (aD (aS ?_))
 cases h0
 exact dJ (rs := [.cell 8 38, .tmp 9]) [6] rfl
 refine sk (aG ?_)
 obtain ⟨v4,h1,h0⟩ := bnd h0
 refine bG ⟨aE (aE (aE (aE (aE (aE ((fun _ => .dead)) 1 (dL cI p1)) 3 (dI p3)) 4 (.ptr 3 0 1 0 0)) 6 (.ptr 4 0 1 0 0)) 8 (.ptr 5 0 1 0 0)) 30 (dB v4),lks [.no, .no, .no, .live [⟨31,4, .av [[dS p0.Name,(dL aM p0.Months),(dL aB p0.Rules),(dI p0.Week)]]⟩], .live [⟨36,3, .av [[dI p2.Year,(dI p2.Month),(dI p2.Day)]]⟩], .live [⟨38,7, .av [[zl,z0,z0,z0,z0,z0,z0]]⟩]]⟩ ?_ ?_
 refine sr [0,1,2,3,4,5,6,7,8,9] (rL rfl (aU tok rfl rfl rfl rfl) ?_)
 obtain ⟨v2,hv2,h1⟩ := bnd h1
 refine rS rfl (eE 6 (aOt hv2) rfl rfl) (rP rfl (bO rfl) (pm ?_))
 refine dH (u := 24) h1 rfl (fun hc h1 => ?_) (fun hc h1 => ?_)
 iterate 5 refine k1 ?_
 refine pkt (nx ?_)
 cases h1
 exact wk [0,1,2,3,4,5]
 refine pm1 ?_
 refine fa1 tok ?_
 refine ld1 tok ?_
 obtain ⟨v3,hv3,h1⟩ := bnd h1
 refine rs rfl (w1 rfl rfl rfl) rfl (aO 6 (cZ hv3) rfl rfl rfl) (rp rfl (w1 rfl rfl rfl) rfl (bO rfl) (pkf (nx ?_)))
 cases h1
 exact wk [0,1,2,3,4,5]
 refine bL h0 rfl (fun hc h0 => ?_) (fun hc h0 => ?_)
 refine sq [0,1,2] (rP rfl (pbl (C0 := [zl,z0,z0,z0,z0,z0,z0]) tok rfl rfl rfl) (bst tok ?_))
 refine pa (nx ?_)
 refine wa 6 2 1 5 0 (aD (aS ?_))
 cases h0
 exact dJ (rs := [.cell 8 38, .tmp 9]) [6] rfl
 refine sk (sq [0,1,2,3] (fa tok ?_))
 refine ld tok ?_
 refine rP rfl (aN tok rfl rfl rfl) (pa (nx (aG ?_)))
 refine aF (is := [0,2,3,4,5,6,7,1,8,9,10]) [0,1,0,0,8,0,32,0,255,0,1023] follows (by kernel_rfl) (tpm ?_)
 refine tpm ?_
 refine tfa tok ?_
 refine tld tok ?_
 refine tfa tok ?_
 refine tld tok ?_
 refine tpm ?_
 obtain ⟨v5,hv5,h0⟩ := bnd h0
 refine jB rfl w0 rfl (cP 7 (qO hv5) rfl rfl rfl) (tP rfl (pbl (C0 := [zl,z0,z0,z0,z0,z0,z0]) tok rfl rfl rfl) (aBa rfl w0 rfl rfl (fun hx hk => jJ 6 (cs := [zl,z0,z0,z0,z0,z0,z0]) tok rfl rfl hk) (iK rfl w0 (fQ (cs := _ :: _) tok rfl rfl rfl rfl rfl rfl rfl) (bE ?_))))
 refine ⟨by kernel_rfl,?_⟩
 refine aI (aG (aF (is := [0,1,2,3,4,5,6,7,8,9,10,11,12,13,14]) [0,1,0,4,0,28,63,0,255,0,512,2047,4095,8191,16383] follows (by kernel_rfl) (tfa tok ?_)))
 refine tld tok ?_
 refine tpm ?_
 refine tP rfl (aN tok rfl rfl rfl) (tpm ?_)
 obtain ⟨hq6,h0⟩ := dM h0
 refine tP rfl (kN rfl rfl hq6) ?_
 obtain ⟨hq7,h0⟩ := dM h0
 refine tP rfl (fJ rfl rfl hq7) (tpm ?_)
 refine tP rfl (fO rfl rfl) (tfa tok ?_)
 refine tld tok ?_
 refine tP rfl (bI rfl rfl) (tP rfl (eM rfl rfl) (tfa tok ?_))
 refine iK rfl w0 (fQ (cs := [.d _]) tok rfl rfl rfl rfl rfl rfl rfl) (bE ?_)
 refine ⟨by kernel_rfl,?_⟩
 refine aI ?_
 obtain ⟨v14,h1,h0⟩ := bnd h0
 refine bG ⟨aE (aE (aE ((fun _ => .dead)) 4 (.ptr 3 0 1 0 0)) 8 (.ptr 4 0 1 0 0)) 12 (.ptr 5 0 1 0 0),lks [.no, .no, .no, .live [⟨31,4, .av [[dS p0.Name,(dL aM p0.Months),(dL aB p0.Rules),(dI p0.Week)]]⟩], .live [⟨38,7, .av [[zl,z0,z0,z0,z0,z0,z0]]⟩], .live [⟨38,7, .av [[.own 6 0 (v5).length,(dI (p0.Months.length : Int)),(dI v14),(dI (w64 ((w64 ((w64 ((p2.Year.tmod (w64 ((p1.length : Int).tdiv (p0.Months.length : Int)))) * (p0.Months.length : Int))) + p2.Month)) - 1))),(dI p2.Day),(dI p0.Week),(dI p3)]]⟩], .live [⟨2,1, .data (List.map cI v5)⟩]]⟩ ?_ ?_
 refine sq [0] (pa (nx (aK ?_)))
 refine bD (fun s11 => ⟨aE (aE (aE (aE (aE ((fun _ => .dead)) 1 (dL cI p1)) 4 (.ptr 3 0 1 0 0)) 8 (.ptr 4 0 1 0 0)) 12 (.ptr 5 0 1 0 0)) 13 (dI s11.1),lks [.no, .no, .no, .live [⟨31,4, .av [[dS p0.Name,(dL aM p0.Months),(dL aB p0.Rules),(dI p0.Week)]]⟩], .live [⟨38,7, .av [[zl,z0,z0,z0,z0,z0,z0]]⟩], .live [⟨38,7, .av [[.own 6 0 (v5).length,(dI (p0.Months.length : Int)),(dI s11.2),(dI (w64 ((w64 ((w64 ((p2.Year.tmod (w64 ((p1.length : Int).tdiv (p0.Months.length : Int)))) * (p0.Months.length : Int))) + p2.Month)) - 1))),(dI p2.Day),(dI p0.Week),(dI p3)]]⟩], .live [⟨2,1, .data (List.map cI v5)⟩]]⟩) h1 ?_ (fun s11 y h2 => ?_)
 exact wk [0,1,2,3,5,6,7]
 refine aG (sq [0,1,2,3] (pm ?_))
 refine pm ?_
 refine rP rfl (aN tok rfl rfl rfl) (rP rfl (bX rfl rfl) (nx ?_))
 refine bM h2 rfl (fun hc h2 => ?_) (fun hc h2 => ?_)
 refine sk (aG (aK (aF (is := [0,1,2,3,4,5,6,7,8]) [0,1,0,0,12,28,63,127,255] follows (by kernel_rfl) (tfa tok ?_))))
 refine tld tok ?_
 refine tpm ?_
 refine tpm ?_
 obtain ⟨v12,hv12,h2⟩ := bnd h2
 refine tP rfl (cV tok hv12 rfl rfl rfl rfl rfl rfl) (tlr tok ?_)
 obtain ⟨v13,hv13,h2⟩ := bnd h2
 refine jB rfl w0 rfl (cP 7 (aAv hv13) rfl rfl rfl) (tfa tok ?_)
 refine iK rfl w0 (fQ (cs := [.d _]) tok rfl rfl rfl rfl rfl rfl rfl) (bE ?_)
 refine ⟨by kernel_rfl,?_⟩
 refine bF (aI (sr [0,1,2] (pm ?_)))
 refine rP rfl (bI rfl rfl) (pa (bB ?_))
 refine cA ?_
 cases h2
 refine ⟨_,rfl,?_⟩
 exact wk [0,1,2,3,4,5,6]
 refine bK (bY ?_)
 cases h2
 refine cC ⟨_,rfl,fun e => ?_⟩
 subst e
 refine aY (aI ?_)
 exact wk [0,1,2,3,4,5,6]
 obtain ⟨v25,h1,h0⟩ := bnd h0
 refine bG ⟨aE (aE ((fun _ => .dead)) 8 (.ptr 3 0 1 0 0)) 12 (.ptr 4 0 1 0 0),lks [.no, .no, .no, .live [⟨38,7, .av [[zl,z0,z0,z0,z0,z0,z0]]⟩], .live [⟨38,7, .av [[.own 5 0 (v5).length,(dI (p0.Months.length : Int)),(dI v25),(dI (w64 ((w64 ((w64 ((p2.Year.tmod (w64 ((p1.length : Int).tdiv (p0.Months.length : Int)))) * (p0.Months.length : Int))) + p2.Month)) - 1))),(dI p2.Day),(dI p0.Week),(dI p3)]]⟩], .live [⟨2,1, .data (List.map cI v5)⟩]]⟩ ?_ ?_
 refine sq [0] (pa (nx (aK ?_)))
 refine bD (fun s20 => ⟨aE (aE (aE (aE ((fun _ => .dead)) 4 (.ptr 3 0 1 0 0)) 8 (.ptr 4 0 1 0 0)) 12 (.ptr 5 0 1 0 0)) 14 (dI s20.1),lks [.no, .no, .no, .live [⟨31,4, .av [[dS p0.Name,(dL aM p0.Months),(dL aB p0.Rules),(dI p0.Week)]]⟩], .live [⟨38,7, .av [[zl,z0,z0,z0,z0,z0,z0]]⟩], .live [⟨38,7, .av [[.own 6 0 (v5).length,(dI (p0.Months.length : Int)),(dI s20.2),(dI (w64 ((w64 ((w64 ((p2.Year.tmod (w64 ((p1.length : Int).tdiv (p0.Months.length : Int)))) * (p0.Months.length : Int))) + p2.Month)) - 1))),(dI p2.Day),(dI p0.Week),(dI p3)]]⟩], .live [⟨2,1, .data (List.map cI v5)⟩]]⟩) h1 ?_ (fun s20 y h2 => ?_)
 exact wk [0,1,2,3,4,5,6]
 refine aG (sq [0,1,2,3,4] (pm ?_))
 refine fa tok ?_
 refine ld tok ?_
 refine rP rfl (aN tok rfl rfl rfl) (rP rfl (bX rfl rfl) (nx ?_))
 refine bM h2 rfl (fun hc h2 => ?_) (fun hc h2 => ?_)
 refine sk (aG (aK (aF (is := [0,1,2,3,4,5,6,7,8,9,10,11,12,13,14,15,16,17]) [0,1,0,4,0,28,60,124,0,256,0,1792,3840,7936,16380,32767,65535,131071] follows (by kernel_rfl) (tfa tok ?_))))
 refine tld tok ?_
 refine tfa tok ?_
 refine tld tok ?_
 refine tpm ?_
 obtain ⟨v21,hv21,h2⟩ := bnd h2
 refine tP rfl (cV tok hv21 rfl rfl rfl rfl rfl rfl) (tfr tok ?_)
 refine tlr tok ?_
 refine tfa tok ?_
 refine tld tok ?_
 refine tpm ?_
 obtain ⟨v22,hv22,h2⟩ := bnd h2
 refine tP rfl (cV tok hv22 rfl rfl rfl rfl rfl rfl) (tfr tok ?_)
 refine tlr tok ?_
 obtain ⟨v23,hv23,h2⟩ := bnd h2
 refine jB rfl w0 rfl (cP 7 (aAv hv23) rfl rfl rfl) ?_
 obtain ⟨v24,hv24,h2⟩ := bnd h2
 refine jB rfl w0 rfl (cP 7 (aAv hv24) rfl rfl rfl) (tfa tok ?_)
 refine iK rfl w0 (fQ (cs := [.d _]) tok rfl rfl rfl rfl rfl rfl rfl) (bE ?_)
 refine ⟨by kernel_rfl,?_⟩
 refine bF (aI (sr [0,1,2] (pm ?_)))
 refine rP rfl (bI rfl rfl) (pa (bB ?_))
 refine cA ?_
 cases h2
 refine ⟨_,rfl,?_⟩
 exact wk [0,1,2,3,4,5,6]
 refine bK (bY ?_)
 cases h2
 refine cC ⟨_,rfl,fun e => ?_⟩
 subst e
 refine aY (aI ?_)
 exact wk [0,1,2,4,5,6]
 refine sq [0,1,2] (rL rfl (aU tok rfl rfl rfl rfl) (bst tok ?_))
 refine pa (nx (aD ?_))
 cases h0
 exact dJ (rs := [.cell 8 38, .tmp 9]) [5] rfl
theorem yQ {p0 : aX} {p1 : bQ} {p2 : Int} {r : aC × Int} (h0 : kT p0 p1 p2 = some r) : FnC Tryz.prog 40 [] [.ref (fY p0), .agg [dI p1.Year,(dI p1.Month),(dI p1.Day)],(dI p2)] [.live [⟨2,1, .data (List.map cI r.1.Cam)⟩]] (.tup [.agg [.own 0 0 r.1.Cam.length,(dI r.1.Months),(dI r.1.Teeth),(dI r.1.At),(dI r.1.Day),(dI r.1.Week),(dI r.1.Weekday)],(dI r.2)]) := by
 refine fi 21 tok Tryz.func40 ?_
 unfold kT at h0
 refine sq [0,1,2] (bxx 3 ?_)
 refine al 4 [zl,z0,z0,z0,z0,z0,z0] tok ?_
 refine pa (nx (aG ?_))
 refine aF (is := [0,1,2,3,4,5,6,7,8,9,10,11,12,13,14]) [0,1,3,7,0,16,48,112,0,0,1023,2047,2047,8191,16383] follows (by kernel_rfl) (rZ ?_)
 refine tnr ?_
 refine tfr tok ?_
 refine tP rfl (bT tok rfl rfl rfl (by repeat (first | exact kK.z _ | apply kK.t))) (rZ ?_)
 refine tnr ?_
 refine tfr tok ?_
 refine tlr tok ?_
 refine bS rfl w0 rfl (aU tok rfl rfl rfl rfl) rfl rfl rfl (tpm ?_)
 obtain ⟨v1,hv1,h0⟩ := bnd h0
 refine jB rfl w0 rfl (cP 5 (aB7 hv1) rfl rfl rfl) (tP rfl (aQ rfl rfl) (tP rfl (aQ rfl rfl) (iK rfl w0 (fQ (cs := _ :: _) tok rfl rfl rfl rfl rfl rfl rfl) (tpa ?_))))
 refine bE ?_
 refine ⟨by kernel_rfl,?_⟩
 refine aI (aD ?_)
 cases h0
 exact dJ (rs := [.cell 6 38, .tmp 7]) [5] rfl
theorem aMw {p0 : bJ} {r : bJ} (h0 : tS p0 = some r) : FnC Tryz.prog 245 [] [.ref (fT p0)] [.live [⟨123,2, .av (fC 1 aL r.Arbors)⟩], .live (mW 2 1 aL r.Arbors), .live [⟨125,4, .data (List.map bC r.Meshes)⟩]] (.agg [.own 0 0 r.Arbors.length, .own 2 0 r.Meshes.length]) := by
 refine fi 45 tok Tryz.func245 ?_
 unfold tS at h0
 refine sq [0] (al 3 [zl,zl] tok (nx (sq [0,1,2,3,4,5,6,7,8] ?_)))
 refine rS rfl (eJ 4 tok rfl rfl rfl rfl) (pmr ?_)
 refine nr ?_
 refine fr tok ?_
 refine lr tok ?_
 obtain ⟨hq1,h0⟩ := dM h0
 refine rw1 rfl w0 rfl (fP tok hq1 rfl rfl rfl rfl rfl rfl rfl rfl rfl rfl rfl rfl (fun _ => rfl)) (rP rfl (pbl (C0 := [zl,zl]) tok rfl rfl rfl) (al 5 [zl,zl] tok ?_))
 refine bst tok (nx ?_)
 obtain ⟨v12,h1,h0⟩ := bnd h0
 refine bG ⟨aE (aE ((fun _ => .dead)) 2 (.ptr 3 0 1 0 0)) 3 (.ptr 4 0 1 0 0),lks [.no, .no, .no, .live [⟨27,2, .av [[zl,zl]]⟩], .live [⟨27,2, .av [[.own 5 0 (v12).length, .own 6 0 (([] : List cH) ++ p0.Meshes).length]]⟩], .live [⟨123,2, .av (fC 7 aL v12)⟩], .live [⟨125,4, .data (List.map bC (([] : List cH) ++ p0.Meshes))⟩], .live (mW 2 1 aL v12)]⟩ ?_ ?_
 refine sq [0] (pa (nx (aK ?_)))
 refine bD (fun s7 => ⟨aE (aE (aE (aE ((fun _ => .dead)) 0 (.ref (fT p0))) 2 (.ptr 3 0 1 0 0)) 3 (.ptr 4 0 1 0 0)) 4 (dI s7.1),lks [.no, .no, .no, .live [⟨27,2, .av [[zl,zl]]⟩], .live [⟨27,2, .av [[.own 5 0 (s7.2).length, .own 6 0 (([] : List cH) ++ p0.Meshes).length]]⟩], .live [⟨123,2, .av (fC 7 aL s7.2)⟩], .live [⟨125,4, .data (List.map bC (([] : List cH) ++ p0.Meshes))⟩], .live (mW 2 1 aL s7.2)]⟩) h1 ?_ (fun s7 y h2 => ?_)
 refine iM.trans_ (qS 6 rfl 123 2 (kb := 5) (j := 0) rfl rfl (by repeat (first | exact Spl.z _ | apply Spl.t | apply Spl.d))) (iM.trans_ (eU 7 (k := 6) 2 1 aL rfl rfl) ?_)
 exact wk [0,1,2,3,5,6,4,7]
 refine aG (sq [0,1,2,3,4,5,6] (pm ?_))
 refine pmr ?_
 refine nr ?_
 refine fr tok ?_
 refine lr tok ?_
 refine rP rfl (aN tok rfl rfl rfl) (rP rfl (bX rfl rfl) (nx ?_))
 refine bM h2 rfl (fun hc h2 => ?_) (fun hc h2 => ?_)
 refine sk (aG (aK (vP (is := [0,1,2,3,4,5,6,7,8,9,10,11,12,13,14,15,16,17,18,19,20,21,22,23]) [0,1,0,4,12,28,0,124,252,508,0,1024,3072,7168,0,31744,64512,130048,261120,524284,1048572,2097151,4194303,8388607] follows (by kernel_rfl) (tfa tok ?_))))
 refine tld tok ?_
 refine rZ ?_
 refine tnr ?_
 refine tfr tok ?_
 refine tlr tok ?_
 refine tpm ?_
 obtain ⟨v8,hv8,h2⟩ := bnd h2
 refine tP rfl (cV tok hv8 rfl rfl rfl rfl rfl rfl) (tfr tok ?_)
 refine tlr tok ?_
 refine rZ ?_
 refine tnr ?_
 refine tfr tok ?_
 refine tlr tok ?_
 refine tpm ?_
 obtain ⟨v9,hv9,h2⟩ := bnd h2
 refine tP rfl (cV tok hv9 rfl rfl rfl rfl rfl rfl) (tfr tok ?_)
 refine tlr tok ?_
 obtain ⟨v10,hv10,h2⟩ := bnd h2
 refine jB rfl w0 rfl (cP 9 (qO hv10) rfl rfl rfl) (tP rfl (pbl (C0 := [ze,zl]) tok rfl rfl rfl) (aSt rfl w0 rfl (aTo 10 tok rfl rfl rfl (by repeat (first | exact Els.nil _ | apply Els.cons (cs := [.d _]) rfl rfl rfl | apply Els.cons (cs := _ :: _) rfl rfl rfl)) rfl rfl rfl rfl) ?_))
 obtain ⟨hq11,h2⟩ := dM h2
 refine zR rfl w0 rfl (aPm tok (⟨v8.Name,v10⟩ : cQ) hq11 rfl rfl rfl rfl rfl rfl rfl rfl rfl rfl rfl rfl rfl rfl rfl) (tfa tok ?_)
 refine iK rfl w0 (fQ (cs := [.own _ _ _]) tok rfl rfl rfl rfl rfl rfl rfl) (bE ?_)
 refine ⟨by kernel_rfl,_,iM.trans_ (aFu 11 (k := 5) (kf := 7) (k2 := 9) (⟨v8.Name,v10⟩ : cQ) rfl rfl rfl rfl rfl rfl rfl (by repeat (first | exact aLo.nil | apply aLo.v | apply aLo.sl (by first | rfl | (simp; done)))) rfl rfl rfl) (iM.refl_),?_⟩
 refine bF (aI (sr [0,1,2] (pm ?_)))
 refine rP rfl (bI rfl rfl) (pa (bB ?_))
 refine cA ?_
 cases h2
 refine ⟨_,rfl,?_⟩
 exact wk [0,1,2,3,4,5,6,11]
 refine bK (bY ?_)
 cases h2
 refine cC ⟨_,rfl,fun e => ?_⟩
 subst e
 refine aY (aI ?_)
 exact wk [0,1,2,3,4,5,6,7]
 refine sq [0,1] (rL rfl (aU tok rfl rfl rfl rfl) (bst tok (nx (aD ?_))))
 cases h0
 exact dJ (rs := [.cell 2 27]) [5,7,6] rfl
theorem aFa {p0 : aX} {r : aX} (h0 : qT p0 = some r) : FnC Tryz.prog 192 [] [.ref (fY p0)] [.live [⟨123,2, .av (fC 1 aL r.Works.Arbors)⟩], .live (mW 2 1 aL r.Works.Arbors), .live [⟨125,4, .data (List.map bC r.Works.Meshes)⟩], .live [⟨170,3, .data (List.map aM r.Calendar.Months)⟩], .live [⟨181,3, .data (List.map aB r.Calendar.Rules)⟩], .live [⟨2,1, .data (List.map cI r.Cam)⟩]] (.agg [dS r.Name, .own 0 0 r.Works.Arbors.length, .own 2 0 r.Works.Meshes.length,(dI r.Minute),(dI r.Hour),(dI r.Escape),(dI r.Teeth),(dI r.Beats),(dS r.Calendar.Name), .own 3 0 r.Calendar.Months.length, .own 4 0 r.Calendar.Rules.length,(dI r.Calendar.Week), .own 5 0 r.Cam.length,(dI r.Strike)]) := by
 refine fi 24 tok Tryz.func192 ?_
 unfold qT at h0
 refine sq [0] (al 3 [ze,zl,zl,z0,z0,z0,z0,z0,ze,zl,zl,z0,zl,z0] tok (nx (sq [0,1,2,3,4] ?_)))
 refine pmr ?_
 refine nr ?_
 refine rP rfl (bT tok rfl rfl rfl (by repeat (first | exact kK.z _ | apply kK.t))) (al 4 [ze,zl,zl,z0,z0,z0,z0,z0,ze,zl,zl,z0,zl,z0] tok ?_)
 refine bst tok (nx (sq [0,1,2,3,4,5] ?_))
 refine pmr ?_
 refine nr ?_
 refine fr tok ?_
 obtain ⟨v1,hv1,h0⟩ := bnd h0
 refine rS rfl (aO 5 (nN (aMw hv1)) rfl rfl rfl) (fa tok ?_)
 refine bst tok (nx (sq [0,1,2,3,4,5] ?_))
 refine pmr ?_
 refine nr ?_
 refine fr tok ?_
 obtain ⟨v2,hv2,h0⟩ := bnd h0
 refine rS rfl (aO 8 (nN (aFd hv2)) rfl rfl rfl) (fa tok ?_)
 refine bst tok (nx (sq [0,1,2,3,4,5,6] ?_))
 refine pmr ?_
 refine nr ?_
 refine fr tok ?_
 refine lr tok ?_
 obtain ⟨v3,hv3,h0⟩ := bnd h0
 refine rS rfl (aO 10 (qO hv3) rfl rfl rfl) (fa tok ?_)
 refine rw0 rfl w0 (fQ (cs := [.own _ _ _]) tok rfl rfl rfl rfl rfl rfl rfl) (nx (sq [0,1] (rL rfl (aU tok rfl rfl rfl rfl) (bst tok (nx (aD ?_))))))
 cases h0
 exact dJ (rs := [.cell 2 34]) [5,6,7,8,9,10] rfl
theorem aMt {p0 : aX} {p1 : bQ} {p2 : Int} {r : dO × Int} (h0 : qU p0 p1 p2 = some r) : FnC Tryz.prog 112 [] [.agg [dS p0.Name,(dL aL p0.Works.Arbors),(dL bC p0.Works.Meshes),(dI p0.Minute),(dI p0.Hour),(dI p0.Escape),(dI p0.Teeth),(dI p0.Beats),(dS p0.Calendar.Name),(dL aM p0.Calendar.Months),(dL aB p0.Calendar.Rules),(dI p0.Calendar.Week),(dL cI p0.Cam),(dI p0.Strike)], .agg [dI p1.Year,(dI p1.Month),(dI p1.Day)],(dI p2)] [.live [⟨123,2, .av (fC 1 aL r.1.Movement.Works.Arbors)⟩], .live (mW 2 1 aL r.1.Movement.Works.Arbors), .live [⟨125,4, .data (List.map bC r.1.Movement.Works.Meshes)⟩], .live [⟨170,3, .data (List.map aM r.1.Movement.Calendar.Months)⟩], .live [⟨181,3, .data (List.map aB r.1.Movement.Calendar.Rules)⟩], .live [⟨2,1, .data (List.map cI r.1.Movement.Cam)⟩], .live [⟨2,1, .data (List.map cI r.1.Dial.Cam)⟩]] (.tup [.agg [dS r.1.Movement.Name, .own 0 0 r.1.Movement.Works.Arbors.length, .own 2 0 r.1.Movement.Works.Meshes.length,(dI r.1.Movement.Minute),(dI r.1.Movement.Hour),(dI r.1.Movement.Escape),(dI r.1.Movement.Teeth),(dI r.1.Movement.Beats),(dS r.1.Movement.Calendar.Name), .own 3 0 r.1.Movement.Calendar.Months.length, .own 4 0 r.1.Movement.Calendar.Rules.length,(dI r.1.Movement.Calendar.Week), .own 5 0 r.1.Movement.Cam.length,(dI r.1.Movement.Strike),(dI r.1.Start.Year),(dI r.1.Start.Month),(dI r.1.Start.Day),(dI r.1.First),(dI r.1.Clock), .own 6 0 r.1.Dial.Cam.length,(dI r.1.Dial.Months),(dI r.1.Dial.Teeth),(dI r.1.Dial.At),(dI r.1.Dial.Day),(dI r.1.Dial.Week),(dI r.1.Dial.Weekday)],(dI r.2)]) := by
 refine fi 32 tok Tryz.func112 ?_
 unfold qU at h0
 refine sq [0,1,2,3] (bxx 3 ?_)
 refine bxx 4 ?_
 refine al 5 [ze,zl,zl,z0,z0,z0,z0,z0,ze,zl,zl,z0,zl,z0,z0,z0,z0,z0,z0,zl,z0,z0,z0,z0,z0,z0] tok ?_
 refine pa (nx (aG (sq [0,1] ?_)))
 obtain ⟨v1,hv1,h0⟩ := bnd h0
 refine rS rfl (eE 6 (aIv hv1) rfl rfl) (rP rfl (bO rfl) (nx ?_))
 refine bL h0 rfl (fun hc h0 => ?_) (fun hc h0 => ?_)
 refine sq [0,1,2] (rP rfl (pbl (C0 := [ze,zl,zl,z0,z0,z0,z0,z0,ze,zl,zl,z0,zl,z0,z0,z0,z0,z0,z0,zl,z0,z0,z0,z0,z0,z0]) tok rfl rfl rfl) (bst tok ?_))
 refine pa (nx ?_)
 refine wa 6 123 2 5 1 ?_
 refine cJ (eU 7 (k := 6) 2 1 aL rfl rfl) (wa 8 125 4 5 2 ?_)
 refine wa 9 170 3 5 9 ?_
 refine wa 10 181 3 5 10 ?_
 refine wa 11 2 1 5 12 ?_
 refine wa 12 2 1 5 19 (aD (aS ?_))
 cases h0
 exact dJ (rs := [.cell 6 40, .tmp 7]) [6,7,8,9,10,11,12] rfl
 refine sk (aG (sq [0,1,2] ?_))
 obtain ⟨v2,hv2,h0⟩ := bnd h0
 refine rS rfl (eE 6 (zE hv2) rfl rfl) (rL rfl (nO tok rfl rfl rfl rfl rfl) (rP rfl (eI rfl rfl) (nx ?_)))
 refine bM h0 rfl (fun hc h0 => ?_) (fun hc h0 => ?_)
 refine sq [0,1,2] (rP rfl (pbl (C0 := [ze,zl,zl,z0,z0,z0,z0,z0,ze,zl,zl,z0,zl,z0,z0,z0,z0,z0,z0,zl,z0,z0,z0,z0,z0,z0]) tok rfl rfl rfl) (bst tok ?_))
 refine pa (nx ?_)
 refine wa 7 123 2 5 1 ?_
 refine cJ (eU 8 (k := 7) 2 1 aL rfl rfl) (wa 9 125 4 5 2 ?_)
 refine wa 10 170 3 5 9 ?_
 refine wa 11 181 3 5 10 ?_
 refine wa 12 2 1 5 12 ?_
 refine wa 13 2 1 5 19 (aD (aS ?_))
 cases h0
 exact dJ (rs := [.cell 6 40, .tmp 7]) [7,8,9,10,11,12,13] rfl
 refine sk (sq [0,1,2,3,4,5,6,7,8] (rL rfl (aU tok rfl rfl rfl rfl) (pm ?_)))
 obtain ⟨v3,hv3,h0⟩ := bnd h0
 refine rS rfl (eE 7 (yQ hv3) rfl rfl) (rP rfl (aH (r := .tup _) rfl) (rP rfl (aQ rfl rfl) (rP rfl (aQ rfl rfl) (al 8 [zl,z0,z0,z0,z0,z0,z0] tok ?_))))
 refine bst tok ?_
 refine pa (nx (aG (sq [0,1] ?_)))
 refine pm ?_
 refine rP rfl (fA rfl rfl) (nx ?_)
 refine bM h0 rfl (fun hc h0 => ?_) (fun hc h0 => ?_)
 refine sq [0,1,2,3] (rP rfl (pbl (C0 := [ze,zl,zl,z0,z0,z0,z0,z0,ze,zl,zl,z0,zl,z0,z0,z0,z0,z0,z0,zl,z0,z0,z0,z0,z0,z0]) tok rfl rfl rfl) (pm ?_))
 refine bst tok ?_
 refine pa (nx ?_)
 refine wa 9 123 2 5 1 ?_
 refine cJ (eU 10 (k := 9) 2 1 aL rfl rfl) (wa 11 125 4 5 2 ?_)
 refine wa 12 170 3 5 9 ?_
 refine wa 13 181 3 5 10 ?_
 refine wa 14 2 1 5 12 ?_
 refine wa 15 2 1 5 19 (aD (aS ?_))
 cases h0
 exact dJ (rs := [.cell 6 40, .tmp 7]) [9,10,11,12,13,14,15] rfl
 refine sk (aG (aF (is := [1,2,3,0,4,5,6]) [0,0,0,0,15,31,63] follows (by kernel_rfl) (bS rfl w0 rfl (aU tok rfl rfl rfl rfl) rfl rfl rfl (tpm ?_))))
 refine bS rfl w0 rfl (aU tok rfl rfl rfl rfl) rfl rfl rfl ?_
 obtain ⟨v4,hv4,h0⟩ := bnd h0
 refine jB rfl w0 rfl (aHb 9 (aFa hv4) rfl rfl) (tP rfl (pbl (C0 := [ze,zl,zl,z0,z0,z0,z0,z0,ze,zl,zl,z0,zl,z0,z0,z0,z0,z0,z0,zl,z0,z0,z0,z0,z0,z0]) tok rfl rfl rfl) (iK rfl w0 (fQ (cs := _ :: _) tok rfl rfl rfl rfl rfl rfl rfl) (tpa ?_)))
 refine bE ?_
 refine ⟨by kernel_rfl,?_⟩
 refine aI (aD ?_)
 cases h0
 exact dJ (rs := [.cell 6 40, .tmp 7]) [9,10,11,12,13,14,7] rfl
theorem zB {p0 : aC} {r : Bool} (h0 : pL p0 = some r) : FnC Tryz.prog 127 [] [.ref (oM p0)] [] (dB r) := by
 refine fi 99 tok Tryz.func127 ?_
 unfold pL at h0
 refine sq [0] (pa (nx (aG ?_)))
 obtain ⟨v4,h1,h0⟩ := bnd h0
 refine bG ⟨aE (aE ((fun _ => .dead)) 0 (.ref (oM p0))) 37 (dB v4),lks [.no, .no, .no]⟩ ?_ ?_
 refine aF (is := [0,1,2,3,4,5,6,7,8,9,10,11,12,13,14,15,16,17,18,19,20,21,22,23,24,25,26,27,28,29,30,31,32,33]) [0,1,3,7,15,31,63,127,255,511,1023,2047,4095,8191,16383,32767,65535,131071,262143,16383,540671,1589247,3686399,8388607,16777215,33554431,67108863,134217727,268435455,536870911,1073741823,2147483647,4294967295,8589934591] follows (by kernel_rfl) (rZ ?_)
 refine tnr ?_
 refine tfr tok ?_
 refine tlr tok ?_
 obtain ⟨v1,hv1,h1⟩ := bnd h1
 refine jB rfl w0 rfl (cP 3 (aD7 hv1) rfl rfl rfl) (tP rfl (bO rfl) (tpm ?_))
 refine nT (u := 10) h1 rfl (fun hc h1 => ?_) (fun hc h1 => ?_)
 iterate 5 refine k2 ?_
 refine vG ?_
 refine tpm ?_
 iterate 11 refine k2 ?_
 refine vG ?_
 refine tpm ?_
 iterate 6 refine k2 ?_
 refine vG ?_
 refine bE ?_
 refine ⟨by kernel_rfl,?_⟩
 refine aI ?_
 cases h1
 exact wk [0,1,2]
 refine qF ?_
 refine aB3 ?_
 refine wR tok ?_
 refine aAi tok ?_
 refine qJ rfl (w1 rfl rfl rfl) rfl (bX rfl rfl) (tA ?_)
 refine tpm ?_
 refine aEs (u := 17) h1 rfl (fun hc h1 => ?_) (fun hc h1 => ?_)
 iterate 11 refine k2 ?_
 refine vG ?_
 refine tpm ?_
 iterate 6 refine k2 ?_
 refine vG ?_
 refine bE ?_
 refine ⟨by kernel_rfl,?_⟩
 refine aI ?_
 cases h1
 exact wk [0,1,2]
 refine qF ?_
 refine aB3 ?_
 refine wR tok ?_
 refine aAi tok ?_
 refine qJ rfl (w1 rfl rfl rfl) rfl (aN tok rfl rfl rfl) (qF ?_)
 refine aB3 ?_
 refine wR tok ?_
 refine aAi tok ?_
 obtain ⟨hq2,h1⟩ := dM h1
 refine qJ rfl (w1 rfl rfl rfl) rfl (fJ rfl rfl hq2) (qJ rfl (w1 rfl rfl rfl) rfl (fA rfl rfl) (tA ?_))
 refine tpm ?_
 refine aEs (u := 30) h1 rfl (fun hc h1 => ?_) (fun hc h1 => ?_)
 iterate 6 refine k2 ?_
 refine vG ?_
 refine bE ?_
 refine ⟨by kernel_rfl,?_⟩
 refine aI ?_
 cases h1
 exact wk [0,1,2]
 refine qF ?_
 refine aB3 ?_
 refine wR tok ?_
 refine aAi tok ?_
 obtain ⟨v3,hv3,h1⟩ := bnd h1
 refine jB rfl (w1 rfl rfl rfl) rfl (cP 3 (cZ hv3) rfl rfl rfl) (qJ rfl (w1 rfl rfl rfl) rfl (bO rfl) (tA ?_))
 refine bE ?_
 refine ⟨by kernel_rfl,?_⟩
 refine aI ?_
 cases h1
 exact wk [0,1,2]
 refine bL h0 rfl (fun hc h0 => ?_) (fun hc h0 => ?_)
 refine sq [0] (pa (nx (aD (aS ?_))))
 cases h0
 exact r0t 2 rfl
 refine sk ?_
 obtain ⟨v9x,h1,h0⟩ := bnd h0
 refine dX v9x (fun v9 => ⟨aE ((fun _ => .dead)) 0 (.ref (oM p0)),lks [.no, .no, .no]⟩) ?_ ?_
 refine sq [0] (pa (nx (aK ?_)))
 refine bD (fun s7 => ⟨aE (aE ((fun _ => .dead)) 0 (.ref (oM p0))) 3 (dI s7),lks [.no, .no, .no]⟩) h1 ?_ (fun s7 y h2 => ?_)
 exact wk [0,1,2]
 refine aG (sq [0,1,2,3,4,5,6] (pm ?_))
 refine pmr ?_
 refine nr ?_
 refine fr tok ?_
 refine lr tok ?_
 refine rP rfl (aN tok rfl rfl rfl) (rP rfl (bX rfl rfl) (nx ?_))
 refine bM h2 rfl (fun hc h2 => ?_) (fun hc h2 => ?_)
 refine sk (aG (aK (aG (aF (is := [0,1,2,3,4,5,6,7,8,9,10,11]) [0,1,3,7,0,31,63,0,128,384,896,2047] follows (by kernel_rfl) (rZ ?_)))))
 refine tnr ?_
 refine tfr tok ?_
 refine tlr tok ?_
 refine tpm ?_
 obtain ⟨v8,hv8,h2⟩ := bnd h2
 refine tP rfl (cV tok hv8 rfl rfl rfl rfl rfl rfl) (tlr tok ?_)
 refine rZ ?_
 refine tnr ?_
 refine tfr tok ?_
 refine tlr tok ?_
 refine tP rfl (eI rfl rfl) (bE ?_)
 refine ⟨by kernel_rfl,?_⟩
 refine aI ?_
 refine bM h2 rfl (fun hc h2 => ?_) (fun hc h2 => ?_)
 refine sq [0] (pa (nx (aD ?_)))
 refine bH (aS ?_)
 cases h2
 refine eV ⟨_,rfl,fun e => ?_⟩
 subst e
 refine bH ?_
 replace h0 := gG h0
 refine aS ?_
 cases h0
 exact r0t 2 rfl
 refine cU (bF (aI (sr [0,1,2] (pm ?_))))
 refine rP rfl (bI rfl rfl) (pa (bB ?_))
 refine cA ?_
 cases h2
 refine ⟨_,rfl,?_⟩
 exact wk [0,1,2]
 refine bK (bY ?_)
 cases h2
 refine cC ⟨_,rfl,fun e => ?_⟩
 subst e
 refine aY (aI ?_)
 refine ⟨_,rfl,?_⟩
 exact wk [0,1,2]
 rintro v9 rfl
 replace h0 := iP h0
 refine aG (aF (is := [0,1,2,3,4,5,6,7,8,9,10,11,12,13,14,15,16,17,18,19,20,21,22,23,24,25,26,27,28,29,30,31,32,33,34,35,36,37,38,39,40]) [0,1,3,7,0,16,48,112,240,496,1023,2047,4095,8191,16383,32767,4095,69631,200703,462847,1048575,2097151,4194303,8388607,16777215,33554431,67108863,134217727,268435455,536870911,1073741823,2147483647,4294967295,8589934591,1073741823,18253611007,52613349375,121332826111,274877906943,549755813887,1099511627775] follows (by kernel_rfl) (rZ ?_))
 refine tnr ?_
 refine tfr tok ?_
 refine tlr tok ?_
 refine rZ ?_
 refine tnr ?_
 refine tfr tok ?_
 refine tlr tok ?_
 refine tP rfl (aN tok rfl rfl rfl) (tP rfl (eM rfl rfl) ?_)
 obtain ⟨v10,hv10,h0⟩ := bnd h0
 refine jB rfl w0 rfl (cP 3 (cZ hv10) rfl rfl rfl) (tpm ?_)
 refine nT (u := 70) h0 rfl (fun hc h0 => ?_) (fun hc h0 => ?_)
 refine qF ?_
 refine aB3 ?_
 refine wR tok ?_
 refine aAi tok ?_
 refine qF ?_
 refine aB3 ?_
 refine wR tok ?_
 refine aAi tok ?_
 obtain ⟨v11,hv11,h0⟩ := bnd h0
 refine jB rfl (w1 rfl rfl rfl) rfl (cP 3 (cZ hv11) rfl rfl rfl) (vG ?_)
 refine tpm ?_
 refine nT (u := 81) h0 rfl (fun hc h0 => ?_) (fun hc h0 => ?_)
 refine qF ?_
 refine aB3 ?_
 refine wR tok ?_
 refine aAi tok ?_
 obtain ⟨v12,hv12,h0⟩ := bnd h0
 refine jB rfl (w1 rfl rfl rfl) rfl (cP 3 (cZ hv12) rfl rfl rfl) (vG ?_)
 refine tpm ?_
 refine nT (u := 88) h0 rfl (fun hc h0 => ?_) (fun hc h0 => ?_)
 refine qF ?_
 refine aB3 ?_
 refine wR tok ?_
 refine aAi tok ?_
 refine qF ?_
 refine aB3 ?_
 refine wR tok ?_
 refine aAi tok ?_
 obtain ⟨v13,hv13,h0⟩ := bnd h0
 refine jB rfl (w1 rfl rfl rfl) rfl (cP 3 (cZ hv13) rfl rfl rfl) (vG ?_)
 refine tpa ?_
 refine bE ?_
 refine ⟨by kernel_rfl,?_⟩
 refine aI (aD ?_)
 cases h0
 exact r0t 2 rfl
 iterate 9 refine k2 ?_
 refine tA ?_
 refine tpa ?_
 refine bE ?_
 refine ⟨by kernel_rfl,?_⟩
 refine aI (aD ?_)
 cases h0
 exact r0t 2 rfl
 iterate 5 refine k2 ?_
 refine tA ?_
 refine tpm ?_
 iterate 9 refine k2 ?_
 refine tA ?_
 refine tpa ?_
 refine bE ?_
 refine ⟨by kernel_rfl,?_⟩
 refine aI (aD ?_)
 cases h0
 exact r0t 2 rfl
 iterate 9 refine k2 ?_
 refine tA ?_
 refine tpm ?_
 iterate 5 refine k2 ?_
 refine tA ?_
 refine tpm ?_
 iterate 9 refine k2 ?_
 refine tA ?_
 refine tpa ?_
 refine bE ?_
 refine ⟨by kernel_rfl,?_⟩
 refine aI (aD ?_)
 cases h0
 exact r0t 2 rfl
theorem aJy {p0 : List Int} {p1 : List Int} {r : Bool} (h0 : rD p0 p1 = some r) : FnC Tryz.prog 125 [] [dL cI p0,(dL cI p1)] [] (dB r) := by
 refine fi 26 tok Tryz.func125 ?_
 unfold rD at h0
 refine sq [0] (pa (nx (aG (sq [0,1,2,3,4] ?_))))
 refine pm ?_
 refine rP rfl (aN tok rfl rfl rfl) (pm ?_)
 refine rP rfl (aN tok rfl rfl rfl) (rP rfl (fA rfl rfl) (nx ?_))
 refine bM h0 rfl (fun hc h0 => ?_) (fun hc h0 => ?_)
 refine sq [0] (pa (nx (aD (aS ?_))))
 cases h0
 exact r0t 4 rfl
 refine sk ?_
 obtain ⟨v7x,h1,h0⟩ := bnd h0
 refine dX v7x (fun v7 => ⟨(fun _ => .dead),lks [.no, .no, .no]⟩) ?_ ?_
 refine sq [0] (pa (nx (aK ?_)))
 refine bD (fun s4 => ⟨aE (aE (aE ((fun _ => .dead)) 0 (dL cI p0)) 1 (dL cI p1)) 5 (dI s4),lks [.no, .no, .no]⟩) h1 ?_ (fun s4 y h2 => ?_)
 exact wk [0,1,2]
 refine aG (sq [0,1,2,3] (pm ?_))
 refine pm ?_
 refine rP rfl (aN tok rfl rfl rfl) (rP rfl (bX rfl rfl) (nx ?_))
 refine bM h2 rfl (fun hc h2 => ?_) (fun hc h2 => ?_)
 refine sk (aG (aK (aG (aF (is := [0,1,2,3,4,5,6,7,8]) [0,0,3,7,0,0,48,112,255] follows (by kernel_rfl) (tpm ?_)))))
 refine tpm ?_
 obtain ⟨v5,hv5,h2⟩ := bnd h2
 refine tP rfl (cV tok hv5 rfl rfl rfl rfl rfl rfl) (tlr tok ?_)
 refine tpm ?_
 refine tpm ?_
 obtain ⟨v6,hv6,h2⟩ := bnd h2
 refine tP rfl (cV tok hv6 rfl rfl rfl rfl rfl rfl) (tlr tok ?_)
 refine tP rfl (fA rfl rfl) (bE ?_)
 refine ⟨by kernel_rfl,?_⟩
 refine aI ?_
 refine bM h2 rfl (fun hc h2 => ?_) (fun hc h2 => ?_)
 refine sq [0] (pa (nx (aD ?_)))
 refine bH (aS ?_)
 cases h2
 refine eV ⟨_,rfl,fun e => ?_⟩
 subst e
 refine bH ?_
 replace h0 := gG h0
 refine aS ?_
 cases h0
 exact r0t 4 rfl
 refine cU (bF (aI (sr [0,1,2] (pm ?_))))
 refine rP rfl (bI rfl rfl) (pa (bB ?_))
 refine cA ?_
 cases h2
 refine ⟨_,rfl,?_⟩
 exact wk [0,1,2]
 refine bK (bY ?_)
 cases h2
 refine cC ⟨_,rfl,fun e => ?_⟩
 subst e
 refine aY (aI ?_)
 refine ⟨_,rfl,?_⟩
 exact wk [0,1,2]
 rintro v7 rfl
 replace h0 := iP h0
 refine sq [0] (pa (nx (aD ?_)))
 cases h0
 exact r0t 4 rfl
theorem aDq {p0 : dO} {r : Bool} (h0 : pC p0 = some r) : FnC Tryz.prog 51 [] [.ref (aSz p0)] [] (dB r) := by
 refine fi 90 tok Tryz.func51 ?_
 unfold pC at h0
 refine sq [0] (pa (nx (sq [0,1,2,3] ?_)))
 refine pmr ?_
 refine nr ?_
 refine fr tok ?_
 refine par (nx (aG ?_))
 obtain ⟨v5,h1,h0⟩ := bnd h0
 refine bG ⟨aE (aE (aE ((fun _ => .dead)) 0 (.ref (aSz p0))) 3 (.ref (fY p0.Movement))) 32 (dB v5),lks [.no, .no, .no]⟩ ?_ ?_
 refine sr [0,1,2,3,4,5,6,7,8,9,10,11,12,13,14,15,16,17,18,19,20,21,22,23] (pmr ?_)
 obtain ⟨v1,hv1,h1⟩ := bnd h1
 refine rS rfl (aO 3 (nN (aIv hv1)) rfl rfl rfl) (rP rfl (bO rfl) (pm ?_))
 refine dH (u := 12) h1 rfl (fun hc h1 => ?_) (fun hc h1 => ?_)
 iterate 4 refine k1 ?_
 refine pkt ?_
 refine pm ?_
 iterate 6 refine k1 ?_
 refine pkt ?_
 refine pm ?_
 iterate 5 refine k1 ?_
 refine pkt (nx ?_)
 cases h1
 refine iM.trans_ (gW (d := 3) (ds := fY p0.Movement) rfl (by repeat (first | exact Pre.z _ | apply Pre.t))) ?_
 exact wk [0,1,2]
 refine aE8 ?_
 obtain ⟨v2,hv2,h1⟩ := bnd h1
 refine rs rfl (w1 rfl rfl rfl) rfl (aO 3 (nN (zE hv2)) rfl rfl rfl) (rl rfl (w1 rfl rfl rfl) rfl (nO tok rfl rfl rfl rfl rfl) (rp rfl (w1 rfl rfl rfl) rfl (eI rfl rfl) (pkf ?_)))
 refine pm ?_
 refine gT (u := 18) h1 rfl (fun hc h1 => ?_) (fun hc h1 => ?_)
 iterate 6 refine k1 ?_
 refine pkt ?_
 refine pm ?_
 iterate 5 refine k1 ?_
 refine pkt (nx ?_)
 cases h1
 refine iM.trans_ (gW (d := 3) (ds := fY p0.Movement) rfl (by repeat (first | exact Pre.z _ | apply Pre.t))) ?_
 exact wk [0,1,2]
 refine aE8 ?_
 refine nr1 ?_
 refine fr1 tok ?_
 refine lr1 tok ?_
 obtain ⟨v3,hv3,h1⟩ := bnd h1
 refine rs rfl (w1 rfl rfl rfl) rfl (aO 4 (cZ hv3) rfl rfl rfl) (rp rfl (w1 rfl rfl rfl) rfl (bO rfl) (pkf ?_))
 refine pm ?_
 refine dH (u := 26) h1 rfl (fun hc h1 => ?_) (fun hc h1 => ?_)
 iterate 5 refine k1 ?_
 refine pkt (nx ?_)
 cases h1
 refine iM.trans_ (gW (d := 3) (ds := fY p0.Movement) rfl (by repeat (first | exact Pre.z _ | apply Pre.t))) ?_
 exact wk [0,1,2]
 refine aE8 ?_
 refine nr1 ?_
 refine fr1 tok ?_
 obtain ⟨v4,hv4,h1⟩ := bnd h1
 refine rs rfl (w1 rfl rfl rfl) rfl (aO 4 (nN (zB hv4)) rfl rfl rfl) (rp rfl (w1 rfl rfl rfl) rfl (bO rfl) (pkf (nx ?_)))
 cases h1
 refine iM.trans_ (gW (d := 3) (ds := fY p0.Movement) rfl (by repeat (first | exact Pre.z _ | apply Pre.t))) ?_
 exact wk [0,1,2]
 refine bL h0 rfl (fun hc h0 => ?_) (fun hc h0 => ?_)
 refine sq [0] (pa (nx (aD (aS ?_))))
 cases h0
 exact r0t 2 rfl
 refine sk (aG (aF (is := [0,1,2,3,4,5,6,7,8,9,10,11,12,13,14,15]) [0,0,2,6,14,0,32,96,224,511,1023,2047,2047,0,12287,32767] follows (by kernel_rfl) (rZ ?_)))
 refine rZ ?_
 refine tnr ?_
 refine tfr tok ?_
 refine tP rfl (bT tok rfl rfl rfl (by repeat (first | exact kK.z _ | apply kK.t))) (rZ ?_)
 refine tnr ?_
 refine tfr tok ?_
 refine tlr tok ?_
 obtain ⟨v6,hv6,h0⟩ := bnd h0
 refine jB rfl w0 rfl (cP 4 (yQ hv6) rfl rfl rfl) (tP rfl (aH (r := .tup _) rfl) (tP rfl (aQ rfl rfl) (tP rfl (aQ rfl rfl) (aBa rfl w0 rfl rfl (fun hx hk => jJ 3 (cs := [zl,z0,z0,z0,z0,z0,z0]) tok rfl rfl hk) (iK rfl w0 (fQ (cs := _ :: _) tok rfl rfl rfl rfl rfl rfl rfl) (tpa ?_))))))
 refine bE ?_
 refine ⟨by kernel_rfl,?_⟩
 refine aI (aG (aF (is := [0,1,2,3,4,5,6,7,8,9,10,11,12,13,14,15,16,17,18,19,20,21,22,23,24,25,26,27,28,29,30,31,32,33,34,35,36,37,38,39,40,41,42,43,44]) [0,1,3,7,15,31,63,127,7,263,775,1799,4095,8191,16383,32767,65535,131071,262143,524287,32767,1081343,4194303,8388607,16777215,33554431,67108863,134217727,268435455,536870911,33554431,1107296255,4294967295,8589934591,17179869183,34359738367,68719476735,137438953471,274877906943,549755813887,34359738367,1133871366143,4398046511103,8796093022207,17592186044415] follows (by kernel_rfl) (tpm ?_)))
 refine tP rfl (eN rfl rfl) (tpm ?_)
 refine aEs (u := 48) h0 rfl (fun hc h0 => ?_) (fun hc h0 => ?_)
 refine qF ?_
 refine aB3 ?_
 refine wR tok ?_
 refine wR tok ?_
 refine aAi tok ?_
 refine qF ?_
 refine aB3 ?_
 refine wR tok ?_
 refine aAi tok ?_
 obtain ⟨v7,hv7,h0⟩ := bnd h0
 refine jB rfl (w1 rfl rfl rfl) rfl (cP 5 (aJy hv7) rfl rfl rfl) (vG ?_)
 refine tpm ?_
 refine nT (u := 60) h0 rfl (fun hc h0 => ?_) (fun hc h0 => ?_)
 refine qF ?_
 refine aB3 ?_
 refine wR tok ?_
 refine wR tok ?_
 refine aAi tok ?_
 refine bS rfl (w1 rfl rfl rfl) rfl (uL tok rfl rfl rfl rfl rfl rfl rfl) rfl rfl rfl (bS rfl (w1 rfl rfl rfl) rfl (nG tok rfl rfl rfl rfl rfl) rfl rfl rfl (qJ rfl (w1 rfl rfl rfl) rfl (eN rfl rfl) (vG ?_)))
 refine tpm ?_
 refine aEs (u := 70) h0 rfl (fun hc h0 => ?_) (fun hc h0 => ?_)
 refine qF ?_
 refine aB3 ?_
 refine wR tok ?_
 refine wR tok ?_
 refine aAi tok ?_
 refine bS rfl (w1 rfl rfl rfl) rfl (uL tok rfl rfl rfl rfl rfl rfl rfl) rfl rfl rfl (bS rfl (w1 rfl rfl rfl) rfl (nG tok rfl rfl rfl rfl rfl) rfl rfl rfl (qJ rfl (w1 rfl rfl rfl) rfl (eN rfl rfl) (vG ?_)))
 refine tpm ?_
 refine aEs (u := 80) h0 rfl (fun hc h0 => ?_) (fun hc h0 => ?_)
 refine qF ?_
 refine aB3 ?_
 refine wR tok ?_
 refine wR tok ?_
 refine aAi tok ?_
 refine bS rfl (w1 rfl rfl rfl) rfl (uL tok rfl rfl rfl rfl rfl rfl rfl) rfl rfl rfl (bS rfl (w1 rfl rfl rfl) rfl (nG tok rfl rfl rfl rfl rfl) rfl rfl rfl (qJ rfl (w1 rfl rfl rfl) rfl (eN rfl rfl) (vG ?_)))
 refine tpa ?_
 refine bE ?_
 refine ⟨by kernel_rfl,?_⟩
 refine aI (aD ?_)
 cases h0
 exact r0t 2 rfl
 iterate 8 refine k2 ?_
 refine tA ?_
 refine tpa ?_
 refine bE ?_
 refine ⟨by kernel_rfl,?_⟩
 refine aI (aD ?_)
 cases h0
 exact r0t 2 rfl
 iterate 8 refine k2 ?_
 refine tA ?_
 refine tpm ?_
 iterate 8 refine k2 ?_
 refine tA ?_
 refine tpa ?_
 refine bE ?_
 refine ⟨by kernel_rfl,?_⟩
 refine aI (aD ?_)
 cases h0
 exact r0t 2 rfl
 iterate 8 refine k2 ?_
 refine tA ?_
 refine tpm ?_
 iterate 8 refine k2 ?_
 refine tA ?_
 refine tpm ?_
 iterate 8 refine k2 ?_
 refine tA ?_
 refine tpa ?_
 refine bE ?_
 refine ⟨by kernel_rfl,?_⟩
 refine aI (aD ?_)
 cases h0
 exact r0t 2 rfl
 iterate 10 refine k2 ?_
 refine tA ?_
 refine tpm ?_
 iterate 8 refine k2 ?_
 refine tA ?_
 refine tpm ?_
 iterate 8 refine k2 ?_
 refine tA ?_
 refine tpm ?_
 iterate 8 refine k2 ?_
 refine tA ?_
 refine tpa ?_
 refine bE ?_
 refine ⟨by kernel_rfl,?_⟩
 refine aI (aD ?_)
 cases h0
 exact r0t 2 rfl
theorem xI {p0 : aC} {r : aC} (h0 : jU p0 = some r) : FnC Tryz.prog 246 [] [.ref (oM p0)] [.live [⟨2,1, .data (List.map cI r.Cam)⟩]] (.agg [.own 0 0 r.Cam.length,(dI r.Months),(dI r.Teeth),(dI r.At),(dI r.Day),(dI r.Week),(dI r.Weekday)]) := by
 refine fi 14 tok Tryz.func246 ?_
 unfold jU at h0
 refine sq [0] (al 3 [zl,z0,z0,z0,z0,z0,z0] tok (nx (sq [0,1,2,3,4] ?_)))
 refine pmr ?_
 refine nr ?_
 refine rP rfl (bT tok rfl rfl rfl (by repeat (first | exact kK.z _ | apply kK.t))) (al 4 [zl,z0,z0,z0,z0,z0,z0] tok ?_)
 refine bst tok (nx (sq [0,1,2,3,4,5,6] ?_))
 refine pmr ?_
 refine nr ?_
 refine fr tok ?_
 refine lr tok ?_
 obtain ⟨v1,hv1,h0⟩ := bnd h0
 refine rS rfl (aO 5 (qO hv1) rfl rfl rfl) (fa tok ?_)
 refine rw0 rfl w0 (fQ (cs := [.own _ _ _]) tok rfl rfl rfl rfl rfl rfl rfl) (nx (sq [0,1] (rL rfl (aU tok rfl rfl rfl rfl) (bst tok (nx (aD ?_))))))
 cases h0
 exact dJ (rs := [.cell 2 38]) [5] rfl
theorem aFb {p0 : dO} {r : dO} (h0 : oJ p0 = some r) : FnC Tryz.prog 196 [] [.ref (aSz p0)] [.live [⟨123,2, .av (fC 1 aL r.Movement.Works.Arbors)⟩], .live (mW 2 1 aL r.Movement.Works.Arbors), .live [⟨125,4, .data (List.map bC r.Movement.Works.Meshes)⟩], .live [⟨170,3, .data (List.map aM r.Movement.Calendar.Months)⟩], .live [⟨181,3, .data (List.map aB r.Movement.Calendar.Rules)⟩], .live [⟨2,1, .data (List.map cI r.Movement.Cam)⟩], .live [⟨2,1, .data (List.map cI r.Dial.Cam)⟩]] (.agg [dS r.Movement.Name, .own 0 0 r.Movement.Works.Arbors.length, .own 2 0 r.Movement.Works.Meshes.length,(dI r.Movement.Minute),(dI r.Movement.Hour),(dI r.Movement.Escape),(dI r.Movement.Teeth),(dI r.Movement.Beats),(dS r.Movement.Calendar.Name), .own 3 0 r.Movement.Calendar.Months.length, .own 4 0 r.Movement.Calendar.Rules.length,(dI r.Movement.Calendar.Week), .own 5 0 r.Movement.Cam.length,(dI r.Movement.Strike),(dI r.Start.Year),(dI r.Start.Month),(dI r.Start.Day),(dI r.First),(dI r.Clock), .own 6 0 r.Dial.Cam.length,(dI r.Dial.Months),(dI r.Dial.Teeth),(dI r.Dial.At),(dI r.Dial.Day),(dI r.Dial.Week),(dI r.Dial.Weekday)]) := by
 refine fi 18 tok Tryz.func196 ?_
 unfold oJ at h0
 refine sq [0] (al 3 [ze,zl,zl,z0,z0,z0,z0,z0,ze,zl,zl,z0,zl,z0,z0,z0,z0,z0,z0,zl,z0,z0,z0,z0,z0,z0] tok (nx (sq [0,1,2,3,4] ?_)))
 refine pmr ?_
 refine nr ?_
 refine rP rfl (bT tok rfl rfl rfl (by repeat (first | exact kK.z _ | apply kK.t))) (al 4 [ze,zl,zl,z0,z0,z0,z0,z0,ze,zl,zl,z0,zl,z0,z0,z0,z0,z0,z0,zl,z0,z0,z0,z0,z0,z0] tok ?_)
 refine bst tok (nx (sq [0,1,2,3,4,5] ?_))
 refine pmr ?_
 refine nr ?_
 refine fr tok ?_
 obtain ⟨v1,hv1,h0⟩ := bnd h0
 refine rS rfl (aO 5 (nN (aFa hv1)) rfl rfl rfl) (fa tok ?_)
 refine bst tok (nx (sq [0,1,2,3,4,5] ?_))
 refine pmr ?_
 refine nr ?_
 refine fr tok ?_
 obtain ⟨v2,hv2,h0⟩ := bnd h0
 refine rS rfl (aO 11 (nN (xI hv2)) rfl rfl rfl) (fa tok ?_)
 refine bst tok (nx (sq [0,1] ?_))
 refine rL rfl (aU tok rfl rfl rfl rfl) (bst tok (nx (aD ?_)))
 cases h0
 exact dJ (rs := [.cell 2 40]) [5,6,7,8,9,10,11] rfl
theorem aHm {p0 : aC} {r : Int} (h0 : pU p0 = some r) : FnC Tryz.prog 248 [] [.ref (oM p0)] [] (dI r) := by
 refine fi 28 tok Tryz.func248 ?_
 unfold pU at h0
 refine sq [0] (pa (nx (aG (aG ?_))))
 refine aF (is := [0,1,2,3,4,5,6,7,8,9,10,11,12,13,14]) [0,1,3,7,0,16,48,112,0,256,768,1792,4080,8176,16383] follows (by kernel_rfl) (rZ ?_)
 refine tnr ?_
 refine tfr tok ?_
 refine tlr tok ?_
 refine rZ ?_
 refine tnr ?_
 refine tfr tok ?_
 refine tlr tok ?_
 refine rZ ?_
 refine tnr ?_
 refine tfr tok ?_
 refine tlr tok ?_
 obtain ⟨v1,hv1,h0⟩ := bnd h0
 refine tP rfl (cV tok hv1 rfl rfl rfl rfl rfl rfl) (tlr tok ?_)
 refine tP rfl (eN rfl rfl) (bE ?_)
 refine ⟨by kernel_rfl,?_⟩
 refine aI ?_
 refine bM h0 rfl (fun hc h0 => ?_) (fun hc h0 => ?_)
 refine aG (aF (is := [0,1,2,3,4,5,6,7,8,9,10]) [0,1,3,7,15,0,32,96,224,511,1023] follows (by kernel_rfl) (rZ ?_))
 refine tnr ?_
 refine tfr tok ?_
 refine tlr tok ?_
 refine tP rfl (bI rfl rfl) (rZ ?_)
 refine tnr ?_
 refine tfr tok ?_
 refine tlr tok ?_
 refine tP rfl (eM rfl rfl) (tpa ?_)
 refine bE ?_
 refine ⟨by kernel_rfl,?_⟩
 refine aI (aD (aS ?_))
 cases h0
 exact r0t 2 rfl
 refine sk (sq [0] (pa (nx (aD ?_))))
 cases h0
 exact r0t 2 rfl
theorem aA3 {p0 : dO} {p1 : Int} {r : dO} (h0 : iT p0 p1 = some r) : FnC Tryz.prog 247 [.live [⟨40,26, .av [[dS p0.Movement.Name, .own 1 0 (p0.Movement.Works.Arbors).length, .own 3 0 (p0.Movement.Works.Meshes).length,(dI p0.Movement.Minute),(dI p0.Movement.Hour),(dI p0.Movement.Escape),(dI p0.Movement.Teeth),(dI p0.Movement.Beats),(dS p0.Movement.Calendar.Name), .own 4 0 (p0.Movement.Calendar.Months).length, .own 5 0 (p0.Movement.Calendar.Rules).length,(dI p0.Movement.Calendar.Week), .own 6 0 (p0.Movement.Cam).length,(dI p0.Movement.Strike),(dI p0.Start.Year),(dI p0.Start.Month),(dI p0.Start.Day),(dI p0.First),(dI p0.Clock), .own 7 0 (p0.Dial.Cam).length,(dI p0.Dial.Months),(dI p0.Dial.Teeth),(dI p0.Dial.At),(dI p0.Dial.Day),(dI p0.Dial.Week),(dI p0.Dial.Weekday)]]⟩], .live [⟨123,2, .av (fC 2 aL p0.Movement.Works.Arbors)⟩], .live (mW 2 1 aL p0.Movement.Works.Arbors), .live [⟨125,4, .data (List.map bC p0.Movement.Works.Meshes)⟩], .live [⟨170,3, .data (List.map aM p0.Movement.Calendar.Months)⟩], .live [⟨181,3, .data (List.map aB p0.Movement.Calendar.Rules)⟩], .live [⟨2,1, .data (List.map cI p0.Movement.Cam)⟩], .live [⟨2,1, .data (List.map cI p0.Dial.Cam)⟩]] [.ptr 0 0 1 0 19,(dI p1)] [.live [⟨40,26, .av [[dS r.Movement.Name, .own 1 0 (r.Movement.Works.Arbors).length, .own 3 0 (r.Movement.Works.Meshes).length,(dI r.Movement.Minute),(dI r.Movement.Hour),(dI r.Movement.Escape),(dI r.Movement.Teeth),(dI r.Movement.Beats),(dS r.Movement.Calendar.Name), .own 4 0 (r.Movement.Calendar.Months).length, .own 5 0 (r.Movement.Calendar.Rules).length,(dI r.Movement.Calendar.Week), .own 6 0 (r.Movement.Cam).length,(dI r.Movement.Strike),(dI r.Start.Year),(dI r.Start.Month),(dI r.Start.Day),(dI r.First),(dI r.Clock), .own 7 0 (r.Dial.Cam).length,(dI r.Dial.Months),(dI r.Dial.Teeth),(dI r.Dial.At),(dI r.Dial.Day),(dI r.Dial.Week),(dI r.Dial.Weekday)]]⟩], .live [⟨123,2, .av (fC 2 aL r.Movement.Works.Arbors)⟩], .live (mW 2 1 aL r.Movement.Works.Arbors), .live [⟨125,4, .data (List.map bC r.Movement.Works.Meshes)⟩], .live [⟨170,3, .data (List.map aM r.Movement.Calendar.Months)⟩], .live [⟨181,3, .data (List.map aB r.Movement.Calendar.Rules)⟩], .live [⟨2,1, .data (List.map cI r.Movement.Cam)⟩], .live [⟨2,1, .data (List.map cI r.Dial.Cam)⟩]] (.tup []) := by
 refine oA (L := 8) (T := tt) (N := 46) tok Tryz.func247 rfl rfl (by kernel_rfl) rfl rfl ?_
 unfold iT at h0
 refine sq [0,1,2,3,4,5,6,7,8] (rP rfl (aH (r := .ptr _ _ _ _ _) rfl) (rL rfl (cW rfl rfl) (fa tok ?_)))
 refine ld tok ?_
 refine pm ?_
 refine rP rfl (bI rfl rfl) (rL rfl (cW rfl rfl) (fa tok ?_))
 refine bs1 tok (nx (aG ?_))
 refine aF (is := [0,1,2,3,4,5,6,7,8]) [0,1,3,7,0,16,48,112,255] follows (by kernel_rfl) (tP rfl (aH (r := .ptr _ _ _ _ _) rfl) (bS rfl w0 rfl (cW rfl rfl) rfl rfl rfl (tfa tok ?_)))
 refine tld tok ?_
 refine tP rfl (aH (r := .ptr _ _ _ _ _) rfl) (bS rfl w0 rfl (cW rfl rfl) rfl rfl rfl (tfa tok ?_))
 refine tld tok ?_
 refine tP rfl (eI rfl rfl) (bE ?_)
 refine ⟨by kernel_rfl,?_⟩
 refine aI ?_
 refine bM h0 rfl (fun hc h0 => ?_) (fun hc h0 => ?_)
 refine aG (aF (is := [0,1,2,3,4,5,6,7,8,9,10,11]) [0,1,3,7,0,16,48,112,255,511,1023,2047] follows (by kernel_rfl) (tP rfl (aH (r := .ptr _ _ _ _ _) rfl) (bS rfl w0 rfl (cW rfl rfl) rfl rfl rfl (tfa tok ?_))))
 refine tld tok ?_
 refine tP rfl (aH (r := .ptr _ _ _ _ _) rfl) (bS rfl w0 rfl (cW rfl rfl) rfl rfl rfl (tfa tok ?_))
 refine tld tok ?_
 refine tP rfl (eM rfl rfl) (bS rfl w0 rfl (cW rfl rfl) rfl rfl rfl (tfa tok ?_))
 refine iK rfl w0 (fQ (cs := [.d _]) tok rfl rfl rfl rfl rfl rfl rfl) (bE ?_)
 refine ⟨by kernel_rfl,?_⟩
 refine aI (aF (is := [0,1,2,3,4,5,6,7,8,9,10,11,12,13,14]) [0,0,2,6,14,30,0,64,192,448,960,2046,4095,8191,16383] follows (by kernel_rfl) (tP rfl (aH (r := .ptr _ _ _ _ _) rfl) (tP rfl (aH (r := .ptr _ _ _ _ _) rfl) (bS rfl w0 rfl (cW rfl rfl) rfl rfl rfl (tfa tok ?_)))))
 refine tld tok ?_
 refine tP rfl (bI rfl rfl) (tP rfl (aH (r := .ptr _ _ _ _ _) rfl) (bS rfl w0 rfl (cW rfl rfl) rfl rfl rfl (tfa tok ?_)))
 refine tld tok ?_
 refine bS rfl w0 rfl (nO tok rfl rfl rfl rfl rfl) rfl rfl rfl ?_
 obtain ⟨hq1,h0⟩ := dM h0
 refine tP rfl (fJ rfl rfl hq1) (bS rfl w0 rfl (cW rfl rfl) rfl rfl rfl (tfa tok ?_))
 refine iK rfl w0 (fQ (cs := [.d _]) tok rfl rfl rfl rfl rfl rfl rfl) (bE ?_)
 refine ⟨by kernel_rfl,?_⟩
 cases h0
 exact nU (rs := []) 8 rfl rfl
 refine cU ?_
 cases h0
 exact nU (rs := []) 8 rfl rfl
theorem zC {p0 : dO} {r : dO} (h0 : eW p0 = some r) : FnC Tryz.prog 197 [.live [⟨40,26, .av [[dS p0.Movement.Name, .own 1 0 (p0.Movement.Works.Arbors).length, .own 3 0 (p0.Movement.Works.Meshes).length,(dI p0.Movement.Minute),(dI p0.Movement.Hour),(dI p0.Movement.Escape),(dI p0.Movement.Teeth),(dI p0.Movement.Beats),(dS p0.Movement.Calendar.Name), .own 4 0 (p0.Movement.Calendar.Months).length, .own 5 0 (p0.Movement.Calendar.Rules).length,(dI p0.Movement.Calendar.Week), .own 6 0 (p0.Movement.Cam).length,(dI p0.Movement.Strike),(dI p0.Start.Year),(dI p0.Start.Month),(dI p0.Start.Day),(dI p0.First),(dI p0.Clock), .own 7 0 (p0.Dial.Cam).length,(dI p0.Dial.Months),(dI p0.Dial.Teeth),(dI p0.Dial.At),(dI p0.Dial.Day),(dI p0.Dial.Week),(dI p0.Dial.Weekday)]]⟩], .live [⟨123,2, .av (fC 2 aL p0.Movement.Works.Arbors)⟩], .live (mW 2 1 aL p0.Movement.Works.Arbors), .live [⟨125,4, .data (List.map bC p0.Movement.Works.Meshes)⟩], .live [⟨170,3, .data (List.map aM p0.Movement.Calendar.Months)⟩], .live [⟨181,3, .data (List.map aB p0.Movement.Calendar.Rules)⟩], .live [⟨2,1, .data (List.map cI p0.Movement.Cam)⟩], .live [⟨2,1, .data (List.map cI p0.Dial.Cam)⟩]] [.ptr 0 0 1 0 19] [.live [⟨40,26, .av [[dS r.Movement.Name, .own 1 0 (r.Movement.Works.Arbors).length, .own 3 0 (r.Movement.Works.Meshes).length,(dI r.Movement.Minute),(dI r.Movement.Hour),(dI r.Movement.Escape),(dI r.Movement.Teeth),(dI r.Movement.Beats),(dS r.Movement.Calendar.Name), .own 4 0 (r.Movement.Calendar.Months).length, .own 5 0 (r.Movement.Calendar.Rules).length,(dI r.Movement.Calendar.Week), .own 6 0 (r.Movement.Cam).length,(dI r.Movement.Strike),(dI r.Start.Year),(dI r.Start.Month),(dI r.Start.Day),(dI r.First),(dI r.Clock), .own 7 0 (r.Dial.Cam).length,(dI r.Dial.Months),(dI r.Dial.Teeth),(dI r.Dial.At),(dI r.Dial.Day),(dI r.Dial.Week),(dI r.Dial.Weekday)]]⟩], .live [⟨123,2, .av (fC 2 aL r.Movement.Works.Arbors)⟩], .live (mW 2 1 aL r.Movement.Works.Arbors), .live [⟨125,4, .data (List.map bC r.Movement.Works.Meshes)⟩], .live [⟨170,3, .data (List.map aM r.Movement.Calendar.Months)⟩], .live [⟨181,3, .data (List.map aB r.Movement.Calendar.Rules)⟩], .live [⟨2,1, .data (List.map cI r.Movement.Cam)⟩], .live [⟨2,1, .data (List.map cI r.Dial.Cam)⟩]] (.tup []) := by
 refine oA (L := 8) (T := tt) (N := 19) tok Tryz.func197 rfl rfl (by kernel_rfl) rfl rfl ?_
 unfold eW at h0
 refine sq [0,1,2,3] (rP rfl (aH (r := .ptr _ _ _ _ _) rfl) (rP rfl (aH (r := .ptr _ _ _ _ _) rfl) ?_))
 obtain ⟨v1,hv1,h0⟩ := bnd h0
 refine rS rfl (eE 8 (aHm hv1) rfl rfl) ?_
 obtain ⟨v2,hv2,h0⟩ := bnd h0
 refine rw1 rfl w0 rfl (dU [0,1,2,3,4,5,6,7] 300 (aA3 hv2) rfl rfl) (nx (aF (is := [0,1,2,3,4,5,6,7,8,9,10,11,12,13]) [0,0,2,6,14,0,32,96,224,510,1022,2047,4095,8191] follows (by kernel_rfl) (tP rfl (aH (r := .ptr _ _ _ _ _) rfl) (tP rfl (aH (r := .ptr _ _ _ _ _) rfl) (bS rfl w0 rfl (cW rfl rfl) rfl rfl rfl (tfa tok ?_))))))
 refine tld tok ?_
 refine tP rfl (aH (r := .ptr _ _ _ _ _) rfl) (bS rfl w0 rfl (cW rfl rfl) rfl rfl rfl (tfa tok ?_))
 refine tld tok ?_
 obtain ⟨hq3,h0⟩ := dM h0
 refine tP rfl (fJ rfl rfl hq3) (tP rfl (bI rfl rfl) (bS rfl w0 rfl (cW rfl rfl) rfl rfl rfl (tfa tok ?_)))
 refine iK rfl w0 (fQ (cs := [.d _]) tok rfl rfl rfl rfl rfl rfl rfl) (bE ?_)
 refine ⟨by kernel_rfl,?_⟩
 cases h0
 exact nU (rs := []) 8 rfl rfl
theorem aBg {p0 : Int} {r : Int} (h0 : mQ p0 = some r) : FnC Tryz.prog 249 [] [dI p0] [] (dI r) := by
 refine fi 15 tok Tryz.func249 ?_
 unfold mQ at h0
 refine sq [0] (pa (nx (sq [0,1,2] ?_)))
 refine pm ?_
 refine rP rfl (fJ rfl rfl (by decide)) (pa (nx (sq [0,1,2,3,4,5,6,7,8,9] ?_)))
 refine pm ?_
 refine rP rfl (kN rfl rfl (by decide)) (rP rfl (fO rfl rfl) (pm ?_))
 refine pm ?_
 refine rP rfl (bI rfl rfl) (rP rfl (fO rfl rfl) (rP rfl (kN rfl rfl (by decide)) (rP rfl (bI rfl rfl) (pa (nx (aD ?_))))))
 cases h0
 exact r0t 2 rfl
theorem aBy {p0 : Int} {p1 : Int} {p2 : Int} {r : Int × Int} (h0 : hU p0 p1 p2 = some r) : FnC Tryz.prog 198 [] [dI p0,(dI p1),(dI p2)] [] (.tup [dI r.1,(dI r.2)]) := by
 refine fi 30 tok Tryz.func198 ?_
 unfold hU at h0
 refine sq [0,1] (pa ?_)
 refine pa (nx (aG ?_))
 obtain ⟨v3,h1,h0⟩ := bnd h0
 refine bG ⟨aE (aE (aE (aE ((fun _ => .dead)) 0 (dI p0)) 1 (dI p1)) 2 (dI p2)) 20 (dB v3),lks [.no, .no, .no]⟩ ?_ ?_
 refine sr [0,1,2,3,4,5,6,7,8,9,10,11,12] (pm ?_)
 obtain ⟨v1,hv1,h1⟩ := bnd h1
 refine rS rfl (aO 3 (cZ hv1) rfl rfl rfl) (rP rfl (bO rfl) (pm ?_))
 refine dH (u := 11) h1 rfl (fun hc h1 => ?_) (fun hc h1 => ?_)
 iterate 4 refine k1 ?_
 refine pkt ?_
 refine pm ?_
 refine k1 ?_
 refine k1 ?_
 refine pkt (nx ?_)
 cases h1
 exact wk [0,1,2]
 refine pm1 ?_
 refine pm1 ?_
 obtain ⟨v2,hv2,h1⟩ := bnd h1
 refine rs rfl (w1 rfl rfl rfl) rfl (aO 3 (cZ hv2) rfl rfl rfl) (rp rfl (w1 rfl rfl rfl) rfl (bO rfl) (pkf ?_))
 refine pm ?_
 refine dH (u := 17) h1 rfl (fun hc h1 => ?_) (fun hc h1 => ?_)
 refine k1 ?_
 refine k1 ?_
 refine pkt (nx ?_)
 cases h1
 exact wk [0,1,2]
 refine pm1 ?_
 refine rp rfl (w1 rfl rfl rfl) rfl (eI rfl rfl) (pkf (nx ?_))
 cases h1
 exact wk [0,1,2]
 refine bL h0 rfl (fun hc h0 => ?_) (fun hc h0 => ?_)
 refine sq [0,1] (pa ?_)
 refine pa (nx (aD (aS ?_)))
 cases h0
 exact fN (rs := [.tmp 6, .tmp 7]) rfl
 refine sk (aG (sq [0,1] (pm ?_)))
 refine rP rfl (eN rfl rfl) (nx ?_)
 refine bM h0 rfl (fun hc h0 => ?_) (fun hc h0 => ?_)
 refine sq [0,1] (pa ?_)
 refine pa (nx (aD (aS ?_)))
 cases h0
 exact fN (rs := [.tmp 6, .tmp 7]) rfl
 refine sk (sq [0,1,2,3,4,5,6,7,8] (pm ?_))
 refine rP rfl (kN rfl rfl (by decide)) ?_
 obtain ⟨v5,hv5,h0⟩ := bnd h0
 refine rS rfl (aO 3 (aBg hv5) rfl rfl rfl) (pm ?_)
 refine rP rfl (kN rfl rfl (by decide)) ?_
 obtain ⟨v7,hv7,h0⟩ := bnd h0
 refine rS rfl (aO 3 (aBg hv7) rfl rfl rfl) (rP rfl (eM rfl rfl) (pa ?_))
 refine pa (nx (aD ?_))
 cases h0
 exact fN (rs := [.tmp 6, .tmp 7]) rfl
theorem aM2 {p0 : dO} {p1 : Int} {r : dO × Int × Int} (h0 : qR p0 p1 = some r) : FnC Tryz.prog 114 [] [.agg [dS p0.Movement.Name,(dL aL p0.Movement.Works.Arbors),(dL bC p0.Movement.Works.Meshes),(dI p0.Movement.Minute),(dI p0.Movement.Hour),(dI p0.Movement.Escape),(dI p0.Movement.Teeth),(dI p0.Movement.Beats),(dS p0.Movement.Calendar.Name),(dL aM p0.Movement.Calendar.Months),(dL aB p0.Movement.Calendar.Rules),(dI p0.Movement.Calendar.Week),(dL cI p0.Movement.Cam),(dI p0.Movement.Strike),(dI p0.Start.Year),(dI p0.Start.Month),(dI p0.Start.Day),(dI p0.First),(dI p0.Clock),(dL cI p0.Dial.Cam),(dI p0.Dial.Months),(dI p0.Dial.Teeth),(dI p0.Dial.At),(dI p0.Dial.Day),(dI p0.Dial.Week),(dI p0.Dial.Weekday)],(dI p1)] [.live [⟨123,2, .av (fC 1 aL r.1.Movement.Works.Arbors)⟩], .live (mW 2 1 aL r.1.Movement.Works.Arbors), .live [⟨125,4, .data (List.map bC r.1.Movement.Works.Meshes)⟩], .live [⟨170,3, .data (List.map aM r.1.Movement.Calendar.Months)⟩], .live [⟨181,3, .data (List.map aB r.1.Movement.Calendar.Rules)⟩], .live [⟨2,1, .data (List.map cI r.1.Movement.Cam)⟩], .live [⟨2,1, .data (List.map cI r.1.Dial.Cam)⟩]] (.tup [.agg [dS r.1.Movement.Name, .own 0 0 r.1.Movement.Works.Arbors.length, .own 2 0 r.1.Movement.Works.Meshes.length,(dI r.1.Movement.Minute),(dI r.1.Movement.Hour),(dI r.1.Movement.Escape),(dI r.1.Movement.Teeth),(dI r.1.Movement.Beats),(dS r.1.Movement.Calendar.Name), .own 3 0 r.1.Movement.Calendar.Months.length, .own 4 0 r.1.Movement.Calendar.Rules.length,(dI r.1.Movement.Calendar.Week), .own 5 0 r.1.Movement.Cam.length,(dI r.1.Movement.Strike),(dI r.1.Start.Year),(dI r.1.Start.Month),(dI r.1.Start.Day),(dI r.1.First),(dI r.1.Clock), .own 6 0 r.1.Dial.Cam.length,(dI r.1.Dial.Months),(dI r.1.Dial.Teeth),(dI r.1.Dial.At),(dI r.1.Dial.Day),(dI r.1.Dial.Week),(dI r.1.Dial.Weekday)],(dI r.2.1),(dI r.2.2)]) := by
 refine fi 56 tok Tryz.func114 ?_
 unfold qR at h0
 refine sq [0,1,2,3] (bxx 3 ?_)
 refine al 4 [ze,zl,zl,z0,z0,z0,z0,z0,ze,zl,zl,z0,zl,z0,z0,z0,z0,z0,z0,zl,z0,z0,z0,z0,z0,z0] tok ?_
 refine pa ?_
 refine pa (nx (aG (sq [0,1] ?_)))
 obtain ⟨v1,hv1,h0⟩ := bnd h0
 refine rS rfl (eE 5 (aDq hv1) rfl rfl) (rP rfl (bO rfl) (nx ?_))
 refine bL h0 rfl (fun hc h0 => ?_) (fun hc h0 => ?_)
 refine sq [0,1,2,3] (rP rfl (pbl (C0 := [ze,zl,zl,z0,z0,z0,z0,z0,ze,zl,zl,z0,zl,z0,z0,z0,z0,z0,z0,zl,z0,z0,z0,z0,z0,z0]) tok rfl rfl rfl) (bst tok ?_))
 refine pa ?_
 refine pa (nx ?_)
 refine wa 5 123 2 4 1 ?_
 refine cJ (eU 6 (k := 5) 2 1 aL rfl rfl) (wa 7 125 4 4 2 ?_)
 refine wa 8 170 3 4 9 ?_
 refine wa 9 181 3 4 10 ?_
 refine wa 10 2 1 4 12 ?_
 refine wa 11 2 1 4 19 (aD (aS ?_))
 cases h0
 exact dJ (rs := [.cell 4 40, .tmp 5, .tmp 6]) [5,6,7,8,9,10,11] rfl
 refine sk (aG ?_)
 obtain ⟨v3,h1,h0⟩ := bnd h0
 refine bG ⟨aE (aE (aE (aE ((fun _ => .dead)) 1 (dI p1)) 2 (.ptr 3 0 1 0 0)) 4 (.ptr 4 0 1 0 0)) 23 (dB v3),lks [.no, .no, .no, .live [⟨40,26, .av [[dS p0.Movement.Name,(dL aL p0.Movement.Works.Arbors),(dL bC p0.Movement.Works.Meshes),(dI p0.Movement.Minute),(dI p0.Movement.Hour),(dI p0.Movement.Escape),(dI p0.Movement.Teeth),(dI p0.Movement.Beats),(dS p0.Movement.Calendar.Name),(dL aM p0.Movement.Calendar.Months),(dL aB p0.Movement.Calendar.Rules),(dI p0.Movement.Calendar.Week),(dL cI p0.Movement.Cam),(dI p0.Movement.Strike),(dI p0.Start.Year),(dI p0.Start.Month),(dI p0.Start.Day),(dI p0.First),(dI p0.Clock),(dL cI p0.Dial.Cam),(dI p0.Dial.Months),(dI p0.Dial.Teeth),(dI p0.Dial.At),(dI p0.Dial.Day),(dI p0.Dial.Week),(dI p0.Dial.Weekday)]]⟩], .live [⟨40,26, .av [[ze,zl,zl,z0,z0,z0,z0,z0,ze,zl,zl,z0,zl,z0,z0,z0,z0,z0,z0,zl,z0,z0,z0,z0,z0,z0]]⟩]]⟩ ?_ ?_
 refine sr [0,1,2,3,4,5,6,7,8,9] (pm ?_)
 obtain ⟨v2,hv2,h1⟩ := bnd h1
 refine rS rfl (aO 5 (cZ hv2) rfl rfl rfl) (rP rfl (bO rfl) (pm ?_))
 refine dH (u := 17) h1 rfl (fun hc h1 => ?_) (fun hc h1 => ?_)
 iterate 5 refine k1 ?_
 refine pkt (nx ?_)
 cases h1
 exact wk [0,1,2,3,4]
 refine fa1 tok ?_
 refine ld1 tok ?_
 refine pm1 ?_
 refine rp rfl (w1 rfl rfl rfl) rfl (bI rfl rfl) (rp rfl (w1 rfl rfl rfl) rfl (eI rfl rfl) (pkf (nx ?_)))
 cases h1
 exact wk [0,1,2,3,4]
 refine bL h0 rfl (fun hc h0 => ?_) (fun hc h0 => ?_)
 refine sq [0,1,2,3] (rP rfl (pbl (C0 := [ze,zl,zl,z0,z0,z0,z0,z0,ze,zl,zl,z0,zl,z0,z0,z0,z0,z0,z0,zl,z0,z0,z0,z0,z0,z0]) tok rfl rfl rfl) (bst tok ?_))
 refine pa ?_
 refine pa (nx ?_)
 refine wa 5 123 2 4 1 ?_
 refine cJ (eU 6 (k := 5) 2 1 aL rfl rfl) (wa 7 125 4 4 2 ?_)
 refine wa 8 170 3 4 9 ?_
 refine wa 9 181 3 4 10 ?_
 refine wa 10 2 1 4 12 ?_
 refine wa 11 2 1 4 19 (aD (aS ?_))
 cases h0
 exact dJ (rs := [.cell 4 40, .tmp 5, .tmp 6]) [5,6,7,8,9,10,11] rfl
 refine sk (sq [0,1,2] ?_)
 obtain ⟨v4,hv4,h0⟩ := bnd h0
 refine rS rfl (eE 5 (aFb hv4) rfl rfl) (al 12 [ze,zl,zl,z0,z0,z0,z0,z0,ze,zl,zl,z0,zl,z0,z0,z0,z0,z0,z0,zl,z0,z0,z0,z0,z0,z0] tok ?_)
 refine bst tok (nx (sq [0,1,2,3,4,5] ?_))
 refine fa tok ?_
 refine ld tok ?_
 refine pm ?_
 refine rP rfl (bI rfl rfl) (fa tok ?_)
 refine bs1 tok (nx ?_)
 obtain ⟨v12,h1,h0⟩ := bnd h0
 refine bG ⟨aE (aE (aE ((fun _ => .dead)) 2 (.ptr 3 0 1 0 0)) 4 (.ptr 4 0 1 0 0)) 7 (.ptr 5 0 1 0 0),lks [.no, .no, .no, .live [⟨40,26, .av [[dS p0.Movement.Name,(dL aL p0.Movement.Works.Arbors),(dL bC p0.Movement.Works.Meshes),(dI p0.Movement.Minute),(dI p0.Movement.Hour),(dI p0.Movement.Escape),(dI p0.Movement.Teeth),(dI p0.Movement.Beats),(dS p0.Movement.Calendar.Name),(dL aM p0.Movement.Calendar.Months),(dL aB p0.Movement.Calendar.Rules),(dI p0.Movement.Calendar.Week),(dL cI p0.Movement.Cam),(dI p0.Movement.Strike),(dI p0.Start.Year),(dI p0.Start.Month),(dI p0.Start.Day),(dI p0.First),(dI p0.Clock),(dL cI p0.Dial.Cam),(dI p0.Dial.Months),(dI p0.Dial.Teeth),(dI p0.Dial.At),(dI p0.Dial.Day),(dI p0.Dial.Week),(dI p0.Dial.Weekday)]]⟩], .live [⟨40,26, .av [[ze,zl,zl,z0,z0,z0,z0,z0,ze,zl,zl,z0,zl,z0,z0,z0,z0,z0,z0,zl,z0,z0,z0,z0,z0,z0]]⟩], .live [⟨40,26, .av [[dS v12.1, .own 6 0 (v12.2.2.2.2.2.2.2.2.2.2.2.2.2.2.2.2.2.2.1).length, .own 7 0 (v12.2.2.2.2.2.2.2.2.2.2.2.2.2.2.2.2.2.2.2.1).length,(dI v12.2.1),(dI v12.2.2.1),(dI v12.2.2.2.1),(dI v12.2.2.2.2.1),(dI v12.2.2.2.2.2.1),(dS v12.2.2.2.2.2.2.1), .own 8 0 (v12.2.2.2.2.2.2.2.2.2.2.2.2.2.2.2.2.2.2.2.2.1).length, .own 9 0 (v12.2.2.2.2.2.2.2.2.2.2.2.2.2.2.2.2.2.2.2.2.2.1).length,(dI v12.2.2.2.2.2.2.2.1), .own 10 0 (v12.2.2.2.2.2.2.2.2.2.2.2.2.2.2.2.2.2.2.2.2.2.2.1).length,(dI v12.2.2.2.2.2.2.2.2.1),(dI v12.2.2.2.2.2.2.2.2.2.1.Year),(dI v12.2.2.2.2.2.2.2.2.2.1.Month),(dI v12.2.2.2.2.2.2.2.2.2.1.Day),(dI v12.2.2.2.2.2.2.2.2.2.2.1),(dI v12.2.2.2.2.2.2.2.2.2.2.2.1), .own 11 0 (v12.2.2.2.2.2.2.2.2.2.2.2.2.2.2.2.2.2.2.2.2.2.2.2).length,(dI v12.2.2.2.2.2.2.2.2.2.2.2.2.1),(dI v12.2.2.2.2.2.2.2.2.2.2.2.2.2.1),(dI v12.2.2.2.2.2.2.2.2.2.2.2.2.2.2.1),(dI v12.2.2.2.2.2.2.2.2.2.2.2.2.2.2.2.1),(dI v12.2.2.2.2.2.2.2.2.2.2.2.2.2.2.2.2.1),(dI v12.2.2.2.2.2.2.2.2.2.2.2.2.2.2.2.2.2.1)]]⟩], .live [⟨123,2, .av (fC 12 aL v12.2.2.2.2.2.2.2.2.2.2.2.2.2.2.2.2.2.2.1)⟩], .live [⟨125,4, .data (List.map bC v12.2.2.2.2.2.2.2.2.2.2.2.2.2.2.2.2.2.2.2.1)⟩], .live [⟨170,3, .data (List.map aM v12.2.2.2.2.2.2.2.2.2.2.2.2.2.2.2.2.2.2.2.2.1)⟩], .live [⟨181,3, .data (List.map aB v12.2.2.2.2.2.2.2.2.2.2.2.2.2.2.2.2.2.2.2.2.2.1)⟩], .live [⟨2,1, .data (List.map cI v12.2.2.2.2.2.2.2.2.2.2.2.2.2.2.2.2.2.2.2.2.2.2.1)⟩], .live [⟨2,1, .data (List.map cI v12.2.2.2.2.2.2.2.2.2.2.2.2.2.2.2.2.2.2.2.2.2.2.2)⟩], .live (mW 2 1 aL v12.2.2.2.2.2.2.2.2.2.2.2.2.2.2.2.2.2.2.1)]⟩ ?_ ?_
 refine sq [0,1,2,3] (fa tok ?_)
 refine ld tok ?_
 refine rP rfl (kN rfl rfl (by decide)) (pa (nx (aK ?_)))
 refine bD (fun s9 => ⟨aE (aE (aE (aE ((fun _ => .dead)) 2 (.ptr 3 0 1 0 0)) 4 (.ptr 4 0 1 0 0)) 7 (.ptr 5 0 1 0 0)) 8 (dI s9.1),lks [.no, .no, .no, .live [⟨40,26, .av [[dS p0.Movement.Name,(dL aL p0.Movement.Works.Arbors),(dL bC p0.Movement.Works.Meshes),(dI p0.Movement.Minute),(dI p0.Movement.Hour),(dI p0.Movement.Escape),(dI p0.Movement.Teeth),(dI p0.Movement.Beats),(dS p0.Movement.Calendar.Name),(dL aM p0.Movement.Calendar.Months),(dL aB p0.Movement.Calendar.Rules),(dI p0.Movement.Calendar.Week),(dL cI p0.Movement.Cam),(dI p0.Movement.Strike),(dI p0.Start.Year),(dI p0.Start.Month),(dI p0.Start.Day),(dI p0.First),(dI p0.Clock),(dL cI p0.Dial.Cam),(dI p0.Dial.Months),(dI p0.Dial.Teeth),(dI p0.Dial.At),(dI p0.Dial.Day),(dI p0.Dial.Week),(dI p0.Dial.Weekday)]]⟩], .live [⟨40,26, .av [[ze,zl,zl,z0,z0,z0,z0,z0,ze,zl,zl,z0,zl,z0,z0,z0,z0,z0,z0,zl,z0,z0,z0,z0,z0,z0]]⟩], .live [⟨40,26, .av [[dS s9.2.1, .own 6 0 (s9.2.2.2.2.2.2.2.2.2.2.2.2.2.2.2.2.2.2.2.1).length, .own 7 0 (s9.2.2.2.2.2.2.2.2.2.2.2.2.2.2.2.2.2.2.2.2.1).length,(dI s9.2.2.1),(dI s9.2.2.2.1),(dI s9.2.2.2.2.1),(dI s9.2.2.2.2.2.1),(dI s9.2.2.2.2.2.2.1),(dS s9.2.2.2.2.2.2.2.1), .own 8 0 (s9.2.2.2.2.2.2.2.2.2.2.2.2.2.2.2.2.2.2.2.2.2.1).length, .own 9 0 (s9.2.2.2.2.2.2.2.2.2.2.2.2.2.2.2.2.2.2.2.2.2.2.1).length,(dI s9.2.2.2.2.2.2.2.2.1), .own 10 0 (s9.2.2.2.2.2.2.2.2.2.2.2.2.2.2.2.2.2.2.2.2.2.2.2.1).length,(dI s9.2.2.2.2.2.2.2.2.2.1),(dI s9.2.2.2.2.2.2.2.2.2.2.1.Year),(dI s9.2.2.2.2.2.2.2.2.2.2.1.Month),(dI s9.2.2.2.2.2.2.2.2.2.2.1.Day),(dI s9.2.2.2.2.2.2.2.2.2.2.2.1),(dI s9.2.2.2.2.2.2.2.2.2.2.2.2.1), .own 11 0 (s9.2.2.2.2.2.2.2.2.2.2.2.2.2.2.2.2.2.2.2.2.2.2.2.2).length,(dI s9.2.2.2.2.2.2.2.2.2.2.2.2.2.1),(dI s9.2.2.2.2.2.2.2.2.2.2.2.2.2.2.1),(dI s9.2.2.2.2.2.2.2.2.2.2.2.2.2.2.2.1),(dI s9.2.2.2.2.2.2.2.2.2.2.2.2.2.2.2.2.1),(dI s9.2.2.2.2.2.2.2.2.2.2.2.2.2.2.2.2.2.1),(dI s9.2.2.2.2.2.2.2.2.2.2.2.2.2.2.2.2.2.2.1)]]⟩], .live [⟨123,2, .av (fC 12 aL s9.2.2.2.2.2.2.2.2.2.2.2.2.2.2.2.2.2.2.2.1)⟩], .live [⟨125,4, .data (List.map bC s9.2.2.2.2.2.2.2.2.2.2.2.2.2.2.2.2.2.2.2.2.1)⟩], .live [⟨170,3, .data (List.map aM s9.2.2.2.2.2.2.2.2.2.2.2.2.2.2.2.2.2.2.2.2.2.1)⟩], .live [⟨181,3, .data (List.map aB s9.2.2.2.2.2.2.2.2.2.2.2.2.2.2.2.2.2.2.2.2.2.2.1)⟩], .live [⟨2,1, .data (List.map cI s9.2.2.2.2.2.2.2.2.2.2.2.2.2.2.2.2.2.2.2.2.2.2.2.1)⟩], .live [⟨2,1, .data (List.map cI s9.2.2.2.2.2.2.2.2.2.2.2.2.2.2.2.2.2.2.2.2.2.2.2.2)⟩], .live (mW 2 1 aL s9.2.2.2.2.2.2.2.2.2.2.2.2.2.2.2.2.2.2.2.1)]⟩) h1 ?_ (fun s9 y h2 => ?_)
 exact wk [0,1,2,3,4,12,5,7,8,9,10,11,6]
 refine aG (sq [0,1,2,3,4] (pm ?_))
 refine fa tok ?_
 refine ld tok ?_
 refine rP rfl (kN rfl rfl (by decide)) (rP rfl (bX rfl rfl) (nx ?_))
 refine bM h2 rfl (fun hc h2 => ?_) (fun hc h2 => ?_)
 refine sk (aG (aK (sr [0,1] (fa tok ?_))))
 obtain ⟨v11,hv11,h2⟩ := bnd h2
 refine rw1 rfl w0 rfl (dU [5,6,12,7,8,9,10,11] 300 (zC hv11) rfl rfl) (bB (bF (aI (sr [0,1,2] (pm ?_)))))
 refine rP rfl (bI rfl rfl) (pa (bB ?_))
 refine cA ?_
 cases h2
 refine ⟨_,rfl,?_⟩
 exact wk [0,1,2,3,4,5,6,7,8,9,10,11,12]
 refine bK (bY ?_)
 cases h2
 refine cC ⟨_,rfl,fun e => ?_⟩
 subst e
 refine aY (aI ?_)
 exact wk [0,1,2,3,4,5,6,7,8,9,10,11,12]
 refine sq [0,1,2,3,4,5,6,7,8,9,10,11,12] (fa tok ?_)
 refine fa tok ?_
 refine ld tok ?_
 refine fa tok ?_
 refine ld tok ?_
 refine fa tok ?_
 refine ld tok ?_
 obtain ⟨v13,hv13,h0⟩ := bnd h0
 refine rS rfl (aO 13 (aBy hv13) rfl rfl rfl) (rP rfl (aH (r := .tup _) rfl) (rP rfl (aQ rfl rfl) (rP rfl (aQ rfl rfl) (pa ?_))))
 refine pa (nx (sq [0,1,2,3,4] ?_))
 refine rL rfl (aU tok rfl rfl rfl rfl) (pm ?_)
 refine bst tok ?_
 refine pa ?_
 refine pa (nx (aD ?_))
 cases h0
 exact dJ (rs := [.cell 4 40, .tmp 5, .tmp 6]) [6,12,7,8,9,10,11] rfl
theorem wP {p0 : aC} {p1 : Int} {r : aC} (h0 : iE p0 p1 = some r) : FnC Tryz.prog 247 [.live [⟨38,7, .av [[.own 1 0 (p0.Cam).length,(dI p0.Months),(dI p0.Teeth),(dI p0.At),(dI p0.Day),(dI p0.Week),(dI p0.Weekday)]]⟩], .live [⟨2,1, .data (List.map cI p0.Cam)⟩]] [.ptr 0 0 1 0 0,(dI p1)] [.live [⟨38,7, .av [[.own 1 0 (r.Cam).length,(dI r.Months),(dI r.Teeth),(dI r.At),(dI r.Day),(dI r.Week),(dI r.Weekday)]]⟩], .live [⟨2,1, .data (List.map cI r.Cam)⟩]] (.tup []) := by
 refine fi 46 tok Tryz.func247 ?_
 unfold iE at h0
 refine sq [0,1,2,3,4,5,6,7,8] (rP rfl (aH (r := .ptr _ _ _ _ _) rfl) (rL rfl (cW rfl rfl) (fa tok ?_)))
 refine ld tok ?_
 refine pm ?_
 refine rP rfl (bI rfl rfl) (rL rfl (cW rfl rfl) (fa tok ?_))
 refine bs1 tok (nx (aG ?_))
 refine aF (is := [0,1,2,3,4,5,6,7,8]) [0,1,3,7,0,16,48,112,255] follows (by kernel_rfl) (tP rfl (aH (r := .ptr _ _ _ _ _) rfl) (bS rfl w0 rfl (cW rfl rfl) rfl rfl rfl (tfa tok ?_)))
 refine tld tok ?_
 refine tP rfl (aH (r := .ptr _ _ _ _ _) rfl) (bS rfl w0 rfl (cW rfl rfl) rfl rfl rfl (tfa tok ?_))
 refine tld tok ?_
 refine tP rfl (eI rfl rfl) (bE ?_)
 refine ⟨by kernel_rfl,?_⟩
 refine aI ?_
 refine bM h0 rfl (fun hc h0 => ?_) (fun hc h0 => ?_)
 refine aG (aF (is := [0,1,2,3,4,5,6,7,8,9,10,11]) [0,1,3,7,0,16,48,112,255,511,1023,2047] follows (by kernel_rfl) (tP rfl (aH (r := .ptr _ _ _ _ _) rfl) (bS rfl w0 rfl (cW rfl rfl) rfl rfl rfl (tfa tok ?_))))
 refine tld tok ?_
 refine tP rfl (aH (r := .ptr _ _ _ _ _) rfl) (bS rfl w0 rfl (cW rfl rfl) rfl rfl rfl (tfa tok ?_))
 refine tld tok ?_
 refine tP rfl (eM rfl rfl) (bS rfl w0 rfl (cW rfl rfl) rfl rfl rfl (tfa tok ?_))
 refine iK rfl w0 (fQ (cs := [.d _]) tok rfl rfl rfl rfl rfl rfl rfl) (bE ?_)
 refine ⟨by kernel_rfl,?_⟩
 refine aI (aF (is := [0,1,2,3,4,5,6,7,8,9,10,11,12,13,14]) [0,0,2,6,14,30,0,64,192,448,960,2046,4095,8191,16383] follows (by kernel_rfl) (tP rfl (aH (r := .ptr _ _ _ _ _) rfl) (tP rfl (aH (r := .ptr _ _ _ _ _) rfl) (bS rfl w0 rfl (cW rfl rfl) rfl rfl rfl (tfa tok ?_)))))
 refine tld tok ?_
 refine tP rfl (bI rfl rfl) (tP rfl (aH (r := .ptr _ _ _ _ _) rfl) (bS rfl w0 rfl (cW rfl rfl) rfl rfl rfl (tfa tok ?_)))
 refine tld tok ?_
 refine bS rfl w0 rfl (nO tok rfl rfl rfl rfl rfl) rfl rfl rfl ?_
 obtain ⟨hq1,h0⟩ := dM h0
 refine tP rfl (fJ rfl rfl hq1) (bS rfl w0 rfl (cW rfl rfl) rfl rfl rfl (tfa tok ?_))
 refine iK rfl w0 (fQ (cs := [.d _]) tok rfl rfl rfl rfl rfl rfl rfl) (bE ?_)
 refine ⟨by kernel_rfl,?_⟩
 cases h0
 exact nU (rs := []) 2 rfl rfl
 refine cU ?_
 cases h0
 exact nU (rs := []) 2 rfl rfl
theorem aHk {p0 : aC} {r : aC × Int} (h0 : pR p0 = some r) : FnC Tryz.prog 199 [] [.agg [dL cI p0.Cam,(dI p0.Months),(dI p0.Teeth),(dI p0.At),(dI p0.Day),(dI p0.Week),(dI p0.Weekday)]] [.live [⟨2,1, .data (List.map cI r.1.Cam)⟩]] (.tup [.agg [.own 0 0 r.1.Cam.length,(dI r.1.Months),(dI r.1.Teeth),(dI r.1.At),(dI r.1.Day),(dI r.1.Week),(dI r.1.Weekday)],(dI r.2)]) := by
 refine fi 11 tok Tryz.func199 ?_
 unfold pR at h0
 refine sq [0,1,2] (bxx 3 ?_)
 refine al 4 [zl,z0,z0,z0,z0,z0,z0] tok ?_
 refine pa (nx (aG (sq [0,1] ?_)))
 obtain ⟨v1,hv1,h0⟩ := bnd h0
 refine rS rfl (eE 5 (zB hv1) rfl rfl) (rP rfl (bO rfl) (nx ?_))
 refine bL h0 rfl (fun hc h0 => ?_) (fun hc h0 => ?_)
 refine sq [0,1,2] (rP rfl (pbl (C0 := [zl,z0,z0,z0,z0,z0,z0]) tok rfl rfl rfl) (bst tok ?_))
 refine pa (nx ?_)
 refine wa 5 2 1 4 0 (aD (aS ?_))
 cases h0
 exact dJ (rs := [.cell 2 38, .tmp 3]) [5] rfl
 refine sk (sq [0,1,2] ?_)
 obtain ⟨v2,hv2,h0⟩ := bnd h0
 refine rS rfl (eE 5 (xI hv2) rfl rfl) (al 6 [zl,z0,z0,z0,z0,z0,z0] tok ?_)
 refine bst tok (nx (sq [0] ?_))
 obtain ⟨v3,hv3,h0⟩ := bnd h0
 refine rw1 rfl w0 rfl (dU [6,5] 300 (wP hv3) rfl rfl) (nx (sq [0,1,2] (rL rfl (aU tok rfl rfl rfl rfl) (bst tok ?_))))
 refine pa (nx (aD ?_))
 cases h0
 exact dJ (rs := [.cell 2 38, .tmp 3]) [5] rfl
theorem aFw {p0 : aC} {r : aC × Int} (h0 : mZ p0 = some r) : FnC Tryz.prog 200 [] [.agg [dL cI p0.Cam,(dI p0.Months),(dI p0.Teeth),(dI p0.At),(dI p0.Day),(dI p0.Week),(dI p0.Weekday)]] [.live [⟨2,1, .data (List.map cI r.1.Cam)⟩]] (.tup [.agg [.own 0 0 r.1.Cam.length,(dI r.1.Months),(dI r.1.Teeth),(dI r.1.At),(dI r.1.Day),(dI r.1.Week),(dI r.1.Weekday)],(dI r.2)]) := by
 refine fi 18 tok Tryz.func200 ?_
 unfold mZ at h0
 refine sq [0,1,2] (bxx 3 ?_)
 refine al 4 [zl,z0,z0,z0,z0,z0,z0] tok ?_
 refine pa (nx (aG (sq [0,1] ?_)))
 obtain ⟨v1,hv1,h0⟩ := bnd h0
 refine rS rfl (eE 5 (zB hv1) rfl rfl) (rP rfl (bO rfl) (nx ?_))
 refine bL h0 rfl (fun hc h0 => ?_) (fun hc h0 => ?_)
 refine sq [0,1,2] (rP rfl (pbl (C0 := [zl,z0,z0,z0,z0,z0,z0]) tok rfl rfl rfl) (bst tok ?_))
 refine pa (nx ?_)
 refine wa 5 2 1 4 0 (aD (aS ?_))
 cases h0
 exact dJ (rs := [.cell 2 38, .tmp 3]) [5] rfl
 refine sk (sq [0,1,2] ?_)
 obtain ⟨v2,hv2,h0⟩ := bnd h0
 refine rS rfl (eE 5 (xI hv2) rfl rfl) (al 6 [zl,z0,z0,z0,z0,z0,z0] tok ?_)
 refine bst tok (nx (sq [0,1,2,3,4,5,6,7,8] ?_))
 refine fa tok ?_
 refine ld tok ?_
 refine rP rfl (bI rfl rfl) (fa tok ?_)
 refine ld tok ?_
 refine rL rfl (nO tok rfl rfl rfl rfl rfl) ?_
 obtain ⟨hq3,h0⟩ := dM h0
 refine rP rfl (fJ rfl rfl hq3) (fa tok ?_)
 refine bs1 tok (nx (sq [0,1,2] ?_))
 refine rL rfl (aU tok rfl rfl rfl rfl) (bst tok ?_)
 refine pa (nx (aD ?_))
 cases h0
 exact dJ (rs := [.cell 2 38, .tmp 3]) [5] rfl
theorem aC6 {p0 : aC} {r : aC × Int} (h0 : kU p0 = some r) : FnC Tryz.prog 201 [] [.agg [dL cI p0.Cam,(dI p0.Months),(dI p0.Teeth),(dI p0.At),(dI p0.Day),(dI p0.Week),(dI p0.Weekday)]] [.live [⟨2,1, .data (List.map cI r.1.Cam)⟩]] (.tup [.agg [.own 0 0 r.1.Cam.length,(dI r.1.Months),(dI r.1.Teeth),(dI r.1.At),(dI r.1.Day),(dI r.1.Week),(dI r.1.Weekday)],(dI r.2)]) := by
 refine fi 17 tok Tryz.func201 ?_
 unfold kU at h0
 refine sq [0,1,2] (bxx 3 ?_)
 refine al 4 [zl,z0,z0,z0,z0,z0,z0] tok ?_
 refine pa (nx (aG (sq [0,1] ?_)))
 obtain ⟨v1,hv1,h0⟩ := bnd h0
 refine rS rfl (eE 5 (zB hv1) rfl rfl) (rP rfl (bO rfl) (nx ?_))
 refine bL h0 rfl (fun hc h0 => ?_) (fun hc h0 => ?_)
 refine sq [0,1,2] (rP rfl (pbl (C0 := [zl,z0,z0,z0,z0,z0,z0]) tok rfl rfl rfl) (bst tok ?_))
 refine pa (nx ?_)
 refine wa 5 2 1 4 0 (aD (aS ?_))
 cases h0
 exact dJ (rs := [.cell 2 38, .tmp 3]) [5] rfl
 refine sk (sq [0,1,2] ?_)
 obtain ⟨v2,hv2,h0⟩ := bnd h0
 refine rS rfl (eE 5 (xI hv2) rfl rfl) (al 6 [zl,z0,z0,z0,z0,z0,z0] tok ?_)
 refine bst tok (nx (sq [0,1,2,3,4,5,6,7] ?_))
 refine fa tok ?_
 refine ld tok ?_
 refine fa tok ?_
 refine ld tok ?_
 obtain ⟨hq3,h0⟩ := dM h0
 refine rP rfl (fJ rfl rfl hq3) (rP rfl (bI rfl rfl) (fa tok ?_))
 refine bs1 tok (nx (sq [0,1,2] ?_))
 refine rL rfl (aU tok rfl rfl rfl rfl) (bst tok ?_)
 refine pa (nx (aD ?_))
 cases h0
 exact dJ (rs := [.cell 2 38, .tmp 3]) [5] rfl
end Go.Proofs.YtgcdbbidmfdonaaGreat
