/- Texts of this claim, one behind the other (merged by a program of mine). -/
import Derived.Test.YtgcdbbidmfdonaaGreatProg
import Derived.Test.YtgcdbbidmfdonaaGreatGD5
set_option linter.unusedSimpArgs false
set_option linter.unusedVariables false
namespace Go.Proofs.YtgcdbbidmfdonaaGreat
open Go.RowKit
set_option linter.unusedVariables false
set_option maxRecDepth 100000
set_option maxHeartbeats 2000000
theorem yE {p0 : ByteArray} {p1 : Int} {p2 : Int} {p3 : aI} {p4 : Int} {r : aV × Int} (h0 : eU p0 p1 p2 p3 p4 = some r) : FnC Tryz.prog 31 [] [dS p0,(dI p1),(dI p2), .agg [dS p3.Name,(dL aY p3.Months),(dL aP p3.Rules),(dI p3.Week)],(dI p4)] [.live [⟨125,4, .data (List.map cQ r.1.Works.Meshes)⟩], .live [⟨170,3, .data (List.map aY r.1.Calendar.Months)⟩], .live [⟨181,3, .data (List.map aP r.1.Calendar.Rules)⟩], .live [⟨2,1, .data (List.map cI r.1.Cam)⟩]] (.tup [.agg [dS r.1.Name,(dL bF r.1.Works.Arbors), .own 0 0 r.1.Works.Meshes.length,(dI r.1.Minute),(dI r.1.Hour),(dI r.1.Escape),(dI r.1.Teeth),(dI r.1.Beats),(dS r.1.Calendar.Name), .own 1 0 r.1.Calendar.Months.length, .own 2 0 r.1.Calendar.Rules.length,(dI r.1.Calendar.Week), .own 3 0 r.1.Cam.length,(dI r.1.Strike)],(dI r.2)]) := by
 refine fi 76 tok Tryz.func31 ?_
 unfold eU at h0
 refine sq [0,1,2] (bxx 3 ?_)
 refine al 4 [ze,zl,zl,z0,z0,z0,z0,z0,ze,zl,zl,z0,zl,z0] tok ?_
 refine pa (nx (aE (sq [0,1] ?_)))
 obtain ⟨v1,hv1,h0⟩ := bnd h0
 refine rS rfl (fU 5 (yH hv1) rfl rfl) (rP rfl (cE rfl) (nx ?_))
 refine bP h0 rfl (fun hc h0 => ?_) (fun hc h0 => ?_)
 refine sq [0,1,2] (rP rfl (pbl (C0 := [ze,zl,zl,z0,z0,z0,z0,z0,ze,zl,zl,z0,zl,z0]) tok rfl rfl rfl) (bst tok ?_))
 refine pa (nx ?_)
 refine wa 5 123 2 4 1 ?_
 refine cM (gI 6 (k := 5) 2 1 bF rfl rfl) (cM (sX (k := 5) (kf := 6) rfl rfl (fun _ => rfl) rfl) (cM (yP (k := 5) (t' := aB (aB ((fun _ => .dead)) 10 (.ptr 4 0 1 0 0)) 11 (dI 1)) rfl (FzL.box (kb := 4) (ds := [ze,(dL bF ([] : List dH)),zl,z0,z0,z0,z0,z0,ze,zl,zl,z0,zl,z0]) rfl rfl (by repeat (first | exact oZ.nil | apply oZ.cons | exact FzR.d _ | exact FzR.own rfl (by first | rfl | (simp; done) | (simp; omega)) | exact FzR.ptr rfl (by repeat (first | exact Drp.z _ | apply Drp.d)) | exact FzR.own' | exact FzR.ptr' | exact FzR.ref _ | apply FzR.agg | apply FzR.tup | apply FzR.fn | exact FzR.dead _)) (FzL.nil))) (wa 7 125 4 4 2 ?_)))
 refine wa 8 170 3 4 9 ?_
 refine wa 9 181 3 4 10 ?_
 refine wa 10 2 1 4 12 (aD (aT ?_))
 cases h0
 exact eK (rs := [.cell 10 34, .tmp 11]) [7,8,9,10] rfl
 refine sk (aE (sq [0,1,2] (pm ?_)))
 obtain ⟨v2,hv2,h0⟩ := bnd h0
 refine rS rfl (aM 5 (sP hv2) rfl rfl rfl) (rP rfl (cE rfl) (nx ?_))
 refine bP h0 rfl (fun hc h0 => ?_) (fun hc h0 => ?_)
 refine sq [0,1,2] (rP rfl (pbl (C0 := [ze,zl,zl,z0,z0,z0,z0,z0,ze,zl,zl,z0,zl,z0]) tok rfl rfl rfl) (bst tok ?_))
 refine pa (nx ?_)
 refine wa 5 123 2 4 1 ?_
 refine cM (gI 6 (k := 5) 2 1 bF rfl rfl) (cM (sX (k := 5) (kf := 6) rfl rfl (fun _ => rfl) rfl) (cM (yP (k := 5) (t' := aB (aB ((fun _ => .dead)) 10 (.ptr 4 0 1 0 0)) 11 (dI 7)) rfl (FzL.box (kb := 4) (ds := [ze,(dL bF ([] : List dH)),zl,z0,z0,z0,z0,z0,ze,zl,zl,z0,zl,z0]) rfl rfl (by repeat (first | exact oZ.nil | apply oZ.cons | exact FzR.d _ | exact FzR.own rfl (by first | rfl | (simp; done) | (simp; omega)) | exact FzR.ptr rfl (by repeat (first | exact Drp.z _ | apply Drp.d)) | exact FzR.own' | exact FzR.ptr' | exact FzR.ref _ | apply FzR.agg | apply FzR.tup | apply FzR.fn | exact FzR.dead _)) (FzL.nil))) (wa 7 125 4 4 2 ?_)))
 refine wa 8 170 3 4 9 ?_
 refine wa 9 181 3 4 10 ?_
 refine wa 10 2 1 4 12 (aD (aT ?_))
 cases h0
 exact eK (rs := [.cell 10 34, .tmp 11]) [7,8,9,10] rfl
 refine sk (aE ?_)
 obtain ⟨v5,h1,h0⟩ := bnd h0
 refine bC ⟨aB (aB (aB (aB (aB (aB (aB ((fun _ => .dead)) 0 (dS p0)) 1 (dI p1)) 2 (dI p2)) 4 (dI p4)) 8 (.ptr 3 0 1 0 0)) 10 (.ptr 4 0 1 0 0)) 32 (dB v5),lks [.no, .no, .no, .live [⟨31,4, .av [[dS p3.Name,(dL aY p3.Months),(dL aP p3.Rules),(dI p3.Week)]]⟩], .live [⟨34,14, .av [[ze,zl,zl,z0,z0,z0,z0,z0,ze,zl,zl,z0,zl,z0]]⟩]]⟩ ?_ ?_
 refine sr [0,1,2,3,4,5,6,7] (pm ?_)
 obtain ⟨v3,hv3,h1⟩ := bnd h1
 refine rS rfl (aM 5 (eL hv3) rfl rfl rfl) (rP rfl (cE rfl) (pm ?_))
 refine dQ (u := 28) h1 rfl (fun hc h1 => ?_) (fun hc h1 => ?_)
 iterate 3 refine k1 ?_
 refine pkt (nx ?_)
 cases h1
 exact wk [0,1,2,3,4]
 refine pm1 ?_
 obtain ⟨v4,hv4,h1⟩ := bnd h1
 refine rs rfl (w1 rfl rfl rfl) rfl (aM 5 (pN hv4) rfl rfl rfl) (rp rfl (w1 rfl rfl rfl) rfl (cE rfl) (pkf (nx ?_)))
 cases h1
 exact wk [0,1,2,3,4]
 refine bP h0 rfl (fun hc h0 => ?_) (fun hc h0 => ?_)
 refine sq [0,1,2] (rP rfl (pbl (C0 := [ze,zl,zl,z0,z0,z0,z0,z0,ze,zl,zl,z0,zl,z0]) tok rfl rfl rfl) (bst tok ?_))
 refine pa (nx ?_)
 refine wa 5 123 2 4 1 ?_
 refine cM (gI 6 (k := 5) 2 1 bF rfl rfl) (cM (sX (k := 5) (kf := 6) rfl rfl (fun _ => rfl) rfl) (cM (yP (k := 5) (t' := aB (aB ((fun _ => .dead)) 10 (.ptr 4 0 1 0 0)) 11 (dI 2)) rfl (FzL.box (kb := 4) (ds := [ze,(dL bF ([] : List dH)),zl,z0,z0,z0,z0,z0,ze,zl,zl,z0,zl,z0]) rfl rfl (by repeat (first | exact oZ.nil | apply oZ.cons | exact FzR.d _ | exact FzR.own rfl (by first | rfl | (simp; done) | (simp; omega)) | exact FzR.ptr rfl (by repeat (first | exact Drp.z _ | apply Drp.d)) | exact FzR.own' | exact FzR.ptr' | exact FzR.ref _ | apply FzR.agg | apply FzR.tup | apply FzR.fn | exact FzR.dead _)) (FzL.nil))) (wa 7 125 4 4 2 ?_)))
 refine wa 8 170 3 4 9 ?_
 refine wa 9 181 3 4 10 ?_
 refine wa 10 2 1 4 12 (aD (aT ?_))
 cases h0
 exact eK (rs := [.cell 10 34, .tmp 11]) [7,8,9,10] rfl
 refine sk (sq [0,1,2,3,4,5,6,7,8,9] (rL rfl (aW tok rfl rfl rfl rfl) (pm ?_)))
 obtain ⟨v6,hv6,h0⟩ := bnd h0
 refine rS rfl (aM 5 (aIy hv6) rfl rfl rfl) (rP rfl (aF (r := .tup _) rfl) ?_)
 iterate 3 refine rP rfl (aJ rfl rfl) ?_
 refine rP rfl (aR (r := .own _ _ _) rfl) (pa ?_)
 refine pa (nx (aE (sq [0,1] ?_)))
 refine pm ?_
 refine rP rfl (eB rfl rfl) (nx ?_)
 refine bR h0 rfl (fun hc h0 => ?_) (fun hc h0 => ?_)
 refine sq [0,1,2,3] (rP rfl (pbl (C0 := [ze,zl,zl,z0,z0,z0,z0,z0,ze,zl,zl,z0,zl,z0]) tok rfl rfl rfl) (pm ?_))
 refine bst tok ?_
 refine pa (nx ?_)
 refine wa 6 123 2 4 1 ?_
 refine cM (gI 7 (k := 6) 2 1 bF rfl rfl) (cM (sX (k := 6) (kf := 7) rfl rfl (fun _ => rfl) rfl) (cM (yP (k := 6) (t' := aB (aB ((fun _ => .dead)) 10 (.ptr 4 0 1 0 0)) 11 (dI v6.2.2)) rfl (FzL.box (kb := 4) (ds := [ze,(dL bF ([] : List dH)),zl,z0,z0,z0,z0,z0,ze,zl,zl,z0,zl,z0]) rfl rfl (by repeat (first | exact oZ.nil | apply oZ.cons | exact FzR.d _ | exact FzR.own rfl (by first | rfl | (simp; done) | (simp; omega)) | exact FzR.ptr rfl (by repeat (first | exact Drp.z _ | apply Drp.d)) | exact FzR.own' | exact FzR.ptr' | exact FzR.ref _ | apply FzR.agg | apply FzR.tup | apply FzR.fn | exact FzR.dead _)) (FzL.nil))) (wa 8 125 4 4 2 ?_)))
 refine wa 9 170 3 4 9 ?_
 refine wa 10 181 3 4 10 ?_
 refine wa 11 2 1 4 12 (aD (aT ?_))
 cases h0
 exact eK (rs := [.cell 10 34, .tmp 11]) [8,9,10,11] rfl
 refine sk (sq [0,1,2,3,4,5,6,7,8,9] (pm ?_))
 refine pm ?_
 refine rP rfl (eG rfl rfl) ?_
 obtain ⟨v7,hv7,h0⟩ := bnd h0
 refine rS rfl (aM 6 (tV hv7) rfl rfl rfl) (rP rfl (aF (r := .tup _) rfl) (rP rfl (aJ rfl rfl) (rP rfl (aJ rfl rfl) (al 6 [z0,z0] tok ?_))))
 refine bst tok ?_
 refine pa (nx (aE ?_))
 refine aK (is := [0,1,2,3,4,5,6,7,8]) [0,0,3,7,15,15,0,95,255] follows (by kernel_rfl) (dG rfl w0 rfl (aW tok rfl rfl rfl rfl) rfl rfl rfl ?_)
 obtain ⟨v8,hv8,h0⟩ := bnd h0
 refine mS rfl w0 rfl (dF 8 (aFm hv8) rfl rfl rfl) ?_
 obtain ⟨v9,hv9,h0⟩ := bnd h0
 refine mS rfl w0 rfl (dF 8 (aFa hv9) rfl rfl rfl) (tP rfl (aF (r := .tup _) rfl) (tP rfl (aJ rfl rfl) (tP rfl (aJ rfl rfl) (aAx rfl w0 rfl rfl (fun hx hk => nV 7 (cs := [zl,z0,z0]) tok rfl rfl hk) (qH rfl w0 (kY (cs := _ :: _) tok rfl rfl rfl rfl rfl rfl rfl) (tpa ?_))))))
 refine bS ?_
 refine ⟨by kernel_rfl,?_⟩
 refine aH (aE ?_)
 obtain ⟨v10,h1,h0⟩ := bnd h0
 refine bC ⟨aB (aB (aB (aB (aB (aB (aB (aB ((fun _ => .dead)) 0 (dS p0)) 1 (dI p1)) 2 (dI p2)) 8 (.ptr 3 0 1 0 0)) 10 (.ptr 4 0 1 0 0)) 12 (.own 5 0 (v6.1).length)) 17 (.ptr 6 0 1 0 0)) 65 (dB v10),lks [.no, .no, .no, .live [⟨31,4, .av [[dS p3.Name,(dL aY p3.Months),(dL aP p3.Rules),(dI p3.Week)]]⟩], .live [⟨34,14, .av [[ze,zl,zl,z0,z0,z0,z0,z0,ze,zl,zl,z0,zl,z0]]⟩], .live [⟨2,1, .data (List.map cI v6.1)⟩], .live [⟨115,3, .av [[dL bW v9.1.Train,(dI v9.1.Error.Num),(dI v9.1.Error.Den)]]⟩]]⟩ ?_ ?_
 refine sr [0,1,2,3,4,5,6,7] (pm ?_)
 refine rP rfl (eB rfl rfl) (pm ?_)
 refine fI (u := 60) h1 rfl (fun hc h1 => ?_) (fun hc h1 => ?_)
 iterate 4 refine k1 ?_
 refine pkt (nx ?_)
 cases h1
 exact wk [0,1,2,3,4,5,7]
 refine fa1 tok ?_
 refine fa1 tok ?_
 refine ld1 tok ?_
 refine rp rfl (w1 rfl rfl rfl) rfl (eB rfl rfl) (pkf (nx ?_))
 cases h1
 exact wk [0,1,2,3,4,5,7]
 refine bP h0 rfl (fun hc h0 => ?_) (fun hc h0 => ?_)
 refine sq [0,1,2] (rP rfl (pbl (C0 := [ze,zl,zl,z0,z0,z0,z0,z0,ze,zl,zl,z0,zl,z0]) tok rfl rfl rfl) (bst tok ?_))
 refine pa (nx ?_)
 refine wa 7 123 2 4 1 ?_
 refine cM (gI 8 (k := 7) 2 1 bF rfl rfl) (cM (sX (k := 7) (kf := 8) rfl rfl (fun _ => rfl) rfl) (cM (yP (k := 7) (t' := aB (aB ((fun _ => .dead)) 10 (.ptr 4 0 1 0 0)) 11 (dI 3)) rfl (FzL.box (kb := 4) (ds := [ze,(dL bF ([] : List dH)),zl,z0,z0,z0,z0,z0,ze,zl,zl,z0,zl,z0]) rfl rfl (by repeat (first | exact oZ.nil | apply oZ.cons | exact FzR.d _ | exact FzR.own rfl (by first | rfl | (simp; done) | (simp; omega)) | exact FzR.ptr rfl (by repeat (first | exact Drp.z _ | apply Drp.d)) | exact FzR.own' | exact FzR.ptr' | exact FzR.ref _ | apply FzR.agg | apply FzR.tup | apply FzR.fn | exact FzR.dead _)) (FzL.nil))) (wa 9 125 4 4 2 ?_)))
 refine wa 10 170 3 4 9 ?_
 refine wa 11 181 3 4 10 ?_
 refine wa 12 2 1 4 12 (aD (aT ?_))
 cases h0
 exact eK (rs := [.cell 10 34, .tmp 11]) [9,10,11,12] rfl
 refine sk (sq [0,1,2,3,4,5,6,7,8,9,10] (pm ?_))
 refine fa tok ?_
 refine ld tok ?_
 obtain ⟨v11,hv11,h0⟩ := bnd h0
 refine rS rfl (aM 7 (aAa hv11) rfl rfl rfl) (pm ?_)
 refine pm ?_
 obtain ⟨v12,hv12,h0⟩ := bnd h0
 refine rS rfl (fU 9 (aLr hv12) rfl rfl) (rP rfl (aF (r := .own _ _ _) rfl) (rP rfl (pbl (C0 := [ze,zl,zl,z0,z0,z0,z0,z0,ze,zl,zl,z0,zl,z0]) tok rfl rfl rfl) (bst tok ?_)))
 refine pa (nx ?_)
 refine cM (yP (k := 7) (t' := aB (aB ((fun _ => .dead)) 10 (.ptr 4 0 1 0 0)) 11 (z0)) rfl (FzL.box (kb := 4) (ds := [dS p0,(dL bF v11.Arbors), .own 8 0 (v11.Meshes).length,z0,(dI 4),(dI 2),(dI p2),(dI p1),(dS v12.Name), .own 9 0 (v12.Months).length, .own 10 0 (v12.Rules).length,(dI v12.Week), .own 5 0 (v6.1).length,(dI 2)]) rfl rfl (by repeat (first | exact oZ.nil | apply oZ.cons | exact FzR.d _ | exact FzR.own rfl (by first | rfl | (simp; done) | (simp; omega)) | exact FzR.ptr rfl (by repeat (first | exact Drp.z _ | apply Drp.d)) | exact FzR.own' | exact FzR.ptr' | exact FzR.ref _ | apply FzR.agg | apply FzR.tup | apply FzR.fn | exact FzR.dead _)) (FzL.nil))) (aD ?_)
 cases h0
 exact eK (rs := [.cell 10 34, .tmp 11]) [8,9,10,5] rfl
theorem aN6 {p0 : aI} {p1 : Int} {p2 : Int} {r : List Int} (h0 : vB p0 p1 p2 = some r) : FnC Tryz.prog 141 [] [.ref (dR p0),(dI p1),(dI p2)] [.live [⟨2,1, .data (List.map cI r)⟩]] (.own 0 0 r.length) := by
 refine fi 36 tok Tryz.func141 ?_
 unfold vB at h0
 refine sq [0] (pa (nx (sq [0,1] ?_)))
 refine rS rfl (eM 3 tok rfl rfl rfl rfl) (rP rfl (aR (r := .own _ _ _) rfl) (nx ?_))
 obtain ⟨v17,h1,h0⟩ := bnd h0
 refine bC ⟨aB ((fun _ => .dead)) 7 (.own 3 0 (v17).length),lks [.no, .no, .no, .live [⟨2,1, .data (List.map cI v17)⟩]]⟩ ?_ ?_
 refine sq [0,1] (pm ?_)
 refine pa (nx (aG ?_))
 refine aZ (fun s9 => ⟨aB (aB (aB (aB (aB ((fun _ => .dead)) 0 (.ref (dR p0))) 1 (dI p1)) 2 (dI p2)) 7 (.own 3 0 (s9.2).length)) 8 (dI s9.1),lks [.no, .no, .no, .live [⟨2,1, .data (List.map cI s9.2)⟩]]⟩) h1 ?_ (fun s9 y h2 => ?_)
 exact wk [0,1,2,3]
 refine aE (sq [0,1,2,3,4] ?_)
 iterate 3 refine pm ?_
 refine rP rfl (bN rfl rfl) (rP rfl (bK rfl rfl) (nx ?_))
 refine bR h2 rfl (fun hc h2 => ?_) (fun hc h2 => ?_)
 refine sk ?_
 obtain ⟨v16,h3,h2⟩ := bnd h2
 refine bC ⟨aB (aB (aB (aB (aB ((fun _ => .dead)) 0 (.ref (dR p0))) 1 (dI p1)) 2 (dI p2)) 7 (.own 3 0 (v16).length)) 8 (dI s9.1),lks [.no, .no, .no, .live [⟨2,1, .data (List.map cI v16)⟩]]⟩ ?_ ?_
 refine aG (sq [0] (pa (nx (aG ?_))))
 refine aZ (fun s13 => ⟨aB (aB (aB (aB (aB (aB ((fun _ => .dead)) 0 (.ref (dR p0))) 1 (dI p1)) 2 (dI p2)) 7 (.own 3 0 (s13.2).length)) 8 (dI s9.1)) 9 (dI s13.1),lks [.no, .no, .no, .live [⟨2,1, .data (List.map cI s13.2)⟩]]⟩) h3 ?_ (fun s13 y h4 => ?_)
 exact wk [0,1,2,3]
 refine aE (sq [0,1,2,3,4,5,6] (pm ?_))
 refine pmr ?_
 refine nr ?_
 refine fr tok ?_
 refine lr tok ?_
 refine rP rfl (aL tok rfl rfl rfl) (rP rfl (bK rfl rfl) (nx ?_))
 refine bR h4 rfl (fun hc h4 => ?_) (fun hc h4 => ?_)
 refine sk (aE (aG (sr [0,1,2,3,4,5,6,7] (rP rfl (aF (r := .own _ _ _) rfl) (pmr ?_)))))
 refine pm ?_
 refine pm ?_
 obtain ⟨v14,hv14,h4⟩ := bnd h4
 refine rS rfl (aM 4 (aCf hv14) rfl rfl rfl) (rS rfl (jV tok cI [v14] rfl rfl rfl (by repeat (first | exact Els.nil _ | apply Els.cons (cs := [.d _]) rfl rfl rfl | apply Els.cons (cs := _ :: _) rfl rfl rfl)) rfl rfl rfl (by repeat (first | exact cH.nil | (apply cH.cons; (repeat (first | exact fA.nil | apply fA.cons))))) rfl) ?_)
 obtain ⟨hq15,h4⟩ := dM h4
 refine rw1 rfl w0 rfl (fL tok hq15 rfl rfl rfl rfl rfl rfl rfl rfl rfl rfl rfl rfl (fun _ => rfl)) (rP rfl (aR (r := .own _ _ _) rfl) (aX (bB (aH (sr [0,1,2] (pm ?_))))))
 refine rP rfl (bN rfl rfl) (pa (aX ?_))
 refine cB ?_
 cases h4
 refine ⟨_,rfl,?_⟩
 exact wk [0,1,2,3]
 refine bI (cC ?_)
 cases h4
 refine cD ⟨_,rfl,fun e => ?_⟩
 subst e
 refine aU ?_
 refine bB (aH ?_)
 exact wk [0,1,2,3]
 refine sr [0,1,2] (pm ?_)
 refine rP rfl (bN rfl rfl) (pa (aX ?_))
 refine cB ?_
 cases h2
 refine ⟨_,rfl,?_⟩
 exact wk [0,1,2,3]
 refine bI (cC ?_)
 cases h2
 refine cD ⟨_,rfl,fun e => ?_⟩
 subst e
 refine aU (aH ?_)
 exact wk [0,1,2,3]
 refine sq [0,1] (rP rfl (aF (r := .own _ _ _) rfl) (rP rfl (aR (r := .own _ _ _) rfl) (nx (aD ?_))))
 cases h0
 exact eK (rs := [.tmp 6]) [3] rfl
theorem aFl {p0 : cG} {r : aV × cG} (h0 : nS p0 = some r) : FnC Tryz.prog 64 [.live [⟨157,3, .av [[dL cU8 p0.code,(dI p0.at_), .d (.v (.int .u64 p0.seed))]]⟩]] [.ptr 0 0 1 0 0] [.live [⟨157,3, .av [[dL cU8 r.2.code,(dI r.2.at_), .d (.v (.int .u64 r.2.seed))]]⟩], .live [⟨125,4, .data (List.map cQ r.1.Works.Meshes)⟩], .live [⟨2,1, .data (List.map cI r.1.Cam)⟩]] (.agg [dS r.1.Name,(dL bF r.1.Works.Arbors), .own 1 0 r.1.Works.Meshes.length,(dI r.1.Minute),(dI r.1.Hour),(dI r.1.Escape),(dI r.1.Teeth),(dI r.1.Beats),(dS r.1.Calendar.Name),(dL aY r.1.Calendar.Months),(dL aP r.1.Calendar.Rules),(dI r.1.Calendar.Week), .own 2 0 r.1.Cam.length,(dI r.1.Strike)]) := by
 refine fi 41 tok Tryz.func64 ?_
 unfold nS at h0
 refine sq [0] (al 3 [ze,zl,zl,z0,z0,z0,z0,z0,ze,zl,zl,z0,zl,z0] tok (nx (sq [0,1,2,3] ?_)))
 refine rP rfl (aF (r := .ptr _ _ _ _ _) rfl) ?_
 obtain ⟨v1,hv1,h0⟩ := bnd h0
 refine rw1 rfl w0 rfl (gK [0,4,5] 300 (aMo 2 (aFi hv1)) rfl rfl) (al 6 [ze,zl,zl,z0] tok ?_)
 refine bst tok (nx (sq [0,1,2,3] ?_))
 refine rP rfl (aF (r := .ptr _ _ _ _ _) rfl) (rS rfl (jV tok cI [3600,7200,5400,18000,4800,3960] rfl rfl rfl (by repeat (first | exact Els.nil _ | apply Els.cons (cs := [.d _]) rfl rfl rfl | apply Els.cons (cs := _ :: _) rfl rfl rfl)) rfl rfl rfl (by repeat (first | exact cH.nil | (apply cH.cons; (repeat (first | exact fA.nil | apply fA.cons))))) rfl) ?_)
 obtain ⟨v2,hv2,h0⟩ := bnd h0
 refine rw1 rfl w0 rfl (gK [0] 300 (qA hv2) rfl rfl) (pa (nx (sq [0,1,2,3] ?_)))
 refine rP rfl (aF (r := .ptr _ _ _ _ _) rfl) (rS rfl (jV tok cI [30,15,36,20] rfl rfl rfl (by repeat (first | exact Els.nil _ | apply Els.cons (cs := [.d _]) rfl rfl rfl | apply Els.cons (cs := _ :: _) rfl rfl rfl)) rfl rfl rfl (by repeat (first | exact cH.nil | (apply cH.cons; (repeat (first | exact fA.nil | apply fA.cons))))) rfl) ?_)
 obtain ⟨v3,hv3,h0⟩ := bnd h0
 refine rw1 rfl w0 rfl (gK [0] 300 (qA hv3) rfl rfl) (pa (nx (aE ?_)))
 refine cM (yP (k := 4) (t' := aB (aB (aB (aB (aB ((fun _ => .dead)) 0 (.ptr 0 0 1 0 0)) 2 (.ptr 3 0 1 0 0)) 3 (.ptr 6 0 1 0 0)) 4 (dI v2.1)) 5 (dI v3.1)) rfl (FzL.box (kb := 6) (ds := [dS v1.1.Name,(dL aY v1.1.Months), .own 5 0 (v1.1.Rules).length,(dI v1.1.Week)]) rfl rfl (by repeat (first | exact oZ.nil | apply oZ.cons | exact FzR.d _ | exact FzR.own rfl (by first | rfl | (simp; done) | (simp; omega)) | exact FzR.ptr rfl (by repeat (first | exact Drp.z _ | apply Drp.d)) | exact FzR.own' | exact FzR.ptr' | exact FzR.ref _ | apply FzR.agg | apply FzR.tup | apply FzR.fn | exact FzR.dead _)) (FzL.nil))) (cM (yP (k := 5) (t' := aB (aB (aB (aB (aB ((fun _ => .dead)) 0 (.ptr 0 0 1 0 0)) 2 (.ptr 3 0 1 0 0)) 3 (.ptr 6 0 1 0 0)) 4 (dI v2.1)) 5 (dI v3.1)) rfl (FzL.box (kb := 6) (ds := [dS v1.1.Name,(dL aY v1.1.Months),(dL aP v1.1.Rules),(dI v1.1.Week)]) rfl rfl (by repeat (first | exact oZ.nil | apply oZ.cons | exact FzR.d _ | exact FzR.own rfl (by first | rfl | (simp; done) | (simp; omega)) | exact FzR.ptr rfl (by repeat (first | exact Drp.z _ | apply Drp.d)) | exact FzR.own' | exact FzR.ptr' | exact FzR.ref _ | apply FzR.agg | apply FzR.tup | apply FzR.fn | exact FzR.dead _)) (FzL.nil))) (aK (is := [0,1,2,3,4,5,6,7,8,9,10,11,12]) [0,0,0,0,8,24,63,127,255,255,0,1535,4095] follows (by kernel_rfl) (tpm ?_)))
 refine tpm ?_
 refine dG rfl w0 rfl (aW tok rfl rfl rfl rfl) rfl rfl rfl (tP rfl (aF (r := .ptr _ _ _ _ _) rfl) ?_)
 obtain ⟨v4,hv4,h0⟩ := bnd h0
 refine aSi rfl w0 rfl (by repeat (first | exact lW _ | exact lV rfl | refine lX ?_ rfl)) (aEc 0 (eC hv4) rfl rfl rfl) ?_
 refine tP rfl (bN rfl rfl) ?_
 obtain ⟨v5,hv5,h0⟩ := bnd h0
 refine mS rfl w0 rfl (dF 8 (yE hv5) rfl rfl rfl) (tP rfl (aF (r := .tup _) rfl) (tP rfl (aJ rfl rfl) (tP rfl (aJ rfl rfl) (aAx rfl w0 rfl rfl (fun hx hk => nV 7 (cs := [ze,zl,zl,z0,z0,z0,z0,z0,ze,zl,zl,z0,zl,z0]) tok rfl rfl hk) (qH rfl w0 (kY (cs := _ :: _) tok rfl rfl rfl rfl rfl rfl rfl) (tpa ?_))))))
 refine bS ?_
 refine ⟨by kernel_rfl,?_⟩
 refine aH ?_
 obtain ⟨v8,h1,h0⟩ := bnd h0
 refine bC ⟨aB (aB (aB ((fun _ => .dead)) 0 (.ptr 0 0 1 0 0)) 2 (.ptr 3 0 1 0 0)) 6 (.ptr 4 0 1 0 0),lks [.live [⟨157,3, .av [[dL cU8 v4.2.code,(dI v4.2.at_), .d (.v (.int .u64 v4.2.seed))]]⟩], .no, .no, .live [⟨34,14, .av [[ze,zl,zl,z0,z0,z0,z0,z0,ze,zl,zl,z0,zl,z0]]⟩], .live [⟨34,14, .av [[dS v8.1,(dL bF v8.2.1), .own 5 0 (v8.2.2.2.2.2.2.2.2.2.1).length,(dI v8.2.2.1),(dI v8.2.2.2.1),(dI v8.2.2.2.2.1),(dI v8.2.2.2.2.2.1),(dI v8.2.2.2.2.2.2.1),(dS v8.2.2.2.2.2.2.2.1.Name),(dL aY v8.2.2.2.2.2.2.2.1.Months),(dL aP v8.2.2.2.2.2.2.2.1.Rules),(dI v8.2.2.2.2.2.2.2.1.Week), .own 6 0 (v8.2.2.2.2.2.2.2.2.2.2).length,(dI v8.2.2.2.2.2.2.2.2.1)]]⟩], .live [⟨125,4, .data (List.map cQ v8.2.2.2.2.2.2.2.2.2.1)⟩], .live [⟨2,1, .data (List.map cI v8.2.2.2.2.2.2.2.2.2.2)⟩]]⟩ ?_ ?_
 refine sq [0,1] (pm ?_)
 refine rP rfl (eB rfl rfl) (nx ?_)
 refine bR h1 rfl (fun hc h1 => ?_) (fun hc h1 => ?_)
 refine aK (is := [0,1,4,2,3,5,6,7]) [0,0,3,7,0,15,63,127] follows (by kernel_rfl) (tP rfl (pbl (C0 := [z0,z0]) tok rfl rfl rfl) (tP rfl (pbl (C0 := [z0,z0]) tok rfl rfl rfl) (dG rfl w0 rfl (aW tok rfl rfl rfl rfl) rfl rfl rfl (aAx rfl w0 rfl rfl (fun hx hk => vY 12 tok bW [(⟨64,8⟩ : bE),(⟨60,8⟩ : bE)] rfl rfl rfl (by repeat (first | exact Els.nil _ | apply Els.cons (cs := [.d _]) rfl rfl rfl | apply Els.cons (cs := _ :: _) rfl rfl rfl)) rfl rfl rfl (by repeat (first | exact cH.nil | (apply cH.cons; (repeat (first | exact fA.nil | apply fA.cons))))) rfl hk) ?_))))
 obtain ⟨v6,hv6,h1⟩ := bnd h1
 refine mS rfl w0 rfl (dF 13 (aAa hv6) rfl rfl rfl) ?_
 obtain ⟨v7,hv7,h1⟩ := bnd h1
 refine mS rfl w0 rfl (aRn 15 (aN6 hv7) rfl rfl) (tP rfl (pbl (C0 := [ze,zl,zl,z0,z0,z0,z0,z0,ze,zl,zl,z0,zl,z0]) tok rfl rfl rfl) (qH rfl w0 (kY (cs := _ :: _) tok rfl rfl rfl rfl rfl rfl rfl) (bS ?_)))
 refine ⟨by kernel_rfl,?_⟩
 refine aH ?_
 cases h1
 refine lO.trans_ (yP (k := 13) (t' := aB (aB (aB ((fun _ => .dead)) 0 (.ptr 0 0 1 0 0)) 2 (.ptr 3 0 1 0 0)) 6 (.ptr 7 0 1 0 0)) rfl (FzL.box (kb := 7) (ds := [dS (⟨#[112,108,97,105,110]⟩ : ByteArray),(dL bF v6.Arbors), .own 14 0 (v6.Meshes).length,z0,(dI 4),(dI 2),(dI 30),(dI 3600),(dS v1.1.Name),(dL aY v1.1.Months),(dL aP v1.1.Rules),(dI v1.1.Week), .own 15 0 (v7).length,z0]) rfl rfl (by repeat (first | exact oZ.nil | apply oZ.cons | exact FzR.d _ | exact FzR.own rfl (by first | rfl | (simp; done) | (simp; omega)) | exact FzR.ptr rfl (by repeat (first | exact Drp.z _ | apply Drp.d)) | exact FzR.own' | exact FzR.ptr' | exact FzR.ref _ | apply FzR.agg | apply FzR.tup | apply FzR.fn | exact FzR.dead _)) (FzL.nil))) ?_
 exact wk [0,1,2,3,7,14,15]
 refine sk ?_
 cases h1
 refine lO.trans_ (yP (k := 9) (t' := aB (aB (aB ((fun _ => .dead)) 0 (.ptr 0 0 1 0 0)) 2 (.ptr 3 0 1 0 0)) 6 (.ptr 7 0 1 0 0)) rfl (FzL.box (kb := 7) (ds := [dS v5.1.Name,(dL bF v5.1.Works.Arbors), .own 8 0 (v5.1.Works.Meshes).length,(dI v5.1.Minute),(dI v5.1.Hour),(dI v5.1.Escape),(dI v5.1.Teeth),(dI v5.1.Beats),(dS v5.1.Calendar.Name),(dL aY v5.1.Calendar.Months), .own 10 0 (v5.1.Calendar.Rules).length,(dI v5.1.Calendar.Week), .own 11 0 (v5.1.Cam).length,(dI v5.1.Strike)]) rfl rfl (by repeat (first | exact oZ.nil | apply oZ.cons | exact FzR.d _ | exact FzR.own rfl (by first | rfl | (simp; done) | (simp; omega)) | exact FzR.ptr rfl (by repeat (first | exact Drp.z _ | apply Drp.d)) | exact FzR.own' | exact FzR.ptr' | exact FzR.ref _ | apply FzR.agg | apply FzR.tup | apply FzR.fn | exact FzR.dead _)) (FzL.nil))) (lO.trans_ (yP (k := 10) (t' := aB (aB (aB ((fun _ => .dead)) 0 (.ptr 0 0 1 0 0)) 2 (.ptr 3 0 1 0 0)) 6 (.ptr 7 0 1 0 0)) rfl (FzL.box (kb := 7) (ds := [dS v5.1.Name,(dL bF v5.1.Works.Arbors), .own 8 0 (v5.1.Works.Meshes).length,(dI v5.1.Minute),(dI v5.1.Hour),(dI v5.1.Escape),(dI v5.1.Teeth),(dI v5.1.Beats),(dS v5.1.Calendar.Name),(dL aY v5.1.Calendar.Months),(dL aP v5.1.Calendar.Rules),(dI v5.1.Calendar.Week), .own 11 0 (v5.1.Cam).length,(dI v5.1.Strike)]) rfl rfl (by repeat (first | exact oZ.nil | apply oZ.cons | exact FzR.d _ | exact FzR.own rfl (by first | rfl | (simp; done) | (simp; omega)) | exact FzR.ptr rfl (by repeat (first | exact Drp.z _ | apply Drp.d)) | exact FzR.own' | exact FzR.ptr' | exact FzR.ref _ | apply FzR.agg | apply FzR.tup | apply FzR.fn | exact FzR.dead _)) (FzL.nil))) ?_)
 exact wk [0,1,2,3,7,8,11]
 obtain ⟨v11,h1,h0⟩ := bnd h0
 refine bC ⟨aB (aB ((fun _ => .dead)) 2 (.ptr 3 0 1 0 0)) 6 (.ptr 4 0 1 0 0),lks [.live [⟨157,3, .av [[dL cU8 v11.1.code,(dI v11.1.at_), .d (.v (.int .u64 v11.1.seed))]]⟩], .no, .no, .live [⟨34,14, .av [[ze,zl,zl,z0,z0,z0,z0,z0,ze,zl,zl,z0,zl,z0]]⟩], .live [⟨34,14, .av [[dS v8.1,(dL bF v8.2.1), .own 5 0 (v8.2.2.2.2.2.2.2.2.2.1).length,(dI v8.2.2.1),(dI v8.2.2.2.1),(dI v8.2.2.2.2.1),(dI v8.2.2.2.2.2.1),(dI v8.2.2.2.2.2.2.1),(dS v8.2.2.2.2.2.2.2.1.Name),(dL aY v8.2.2.2.2.2.2.2.1.Months),(dL aP v8.2.2.2.2.2.2.2.1.Rules),(dI v8.2.2.2.2.2.2.2.1.Week), .own 6 0 (v8.2.2.2.2.2.2.2.2.2.2).length,(dI v11.2)]]⟩], .live [⟨125,4, .data (List.map cQ v8.2.2.2.2.2.2.2.2.2.1)⟩], .live [⟨2,1, .data (List.map cI v8.2.2.2.2.2.2.2.2.2.2)⟩]]⟩ ?_ ?_
 refine sq [0,1] (rP rfl (aF (r := .ptr _ _ _ _ _) rfl) ?_)
 obtain ⟨v9,hv9,h1⟩ := bnd h1
 refine rw1 rfl w0 rfl (gK [0] 300 (oU hv9) rfl rfl) (nx ?_)
 refine bP h1 rfl (fun hc h1 => ?_) (fun hc h1 => ?_)
 refine sr [0,1,2,3] (rP rfl (aF (r := .ptr _ _ _ _ _) rfl) ?_)
 obtain ⟨v10,hv10,h1⟩ := bnd h1
 refine rw1 rfl w0 rfl (gK [0] 300 (eC hv10) rfl rfl) (fa tok ?_)
 refine bs1 tok (nx ?_)
 cases h1
 exact wk [0,1,2,3,4,5,6]
 refine sk ?_
 cases h1
 exact wk [0,1,2,3,4,5,6]
 refine sq [0,1] (rL rfl (aW tok rfl rfl rfl rfl) (bst tok (nx (aD ?_))))
 cases h0
 exact aSf (rs := [.cell 2 34]) 1 [0,5,6] rfl
theorem aC4 {p0 : List Int} {r : aV} (h0 : lL p0 = some r) : FnC Tryz.prog 20 [] [dL cU8 p0] [.live [⟨125,4, .data (List.map cQ r.Works.Meshes)⟩], .live [⟨2,1, .data (List.map cI r.Cam)⟩]] (.agg [dS r.Name,(dL bF r.Works.Arbors), .own 0 0 r.Works.Meshes.length,(dI r.Minute),(dI r.Hour),(dI r.Escape),(dI r.Teeth),(dI r.Beats),(dS r.Calendar.Name),(dL aY r.Calendar.Months),(dL aP r.Calendar.Rules),(dI r.Calendar.Week), .own 1 0 r.Cam.length,(dI r.Strike)]) := by
 refine fi 6 tok Tryz.func20 ?_
 unfold lL at h0
 refine sq [0] (al 3 [ze,zl,zl,z0,z0,z0,z0,z0,ze,zl,zl,z0,zl,z0] tok (nx (sq [0,1,2,3] ?_)))
 refine pm ?_
 obtain ⟨v1,hv1,h0⟩ := bnd h0
 refine rS rfl (aM 4 (aI0 hv1) rfl rfl rfl) ?_
 obtain ⟨v2,hv2,h0⟩ := bnd h0
 refine rw1 rfl w0 rfl (gK [4,5,6] 300 (aMo 2 (aFl hv2)) rfl rfl) (bst tok (nx (aD ?_)))
 cases h0
 exact eK (rs := [.cell 2 34]) [5,6] rfl
theorem sH {p0 : ByteArray} {r : Bool} (h0 : kL p0 = some r) : FnC Tryz.prog 65 [] [dS p0] [] (dB r) := by
 refine fi 50 tok Tryz.func65 ?_
 unfold kL at h0
 refine sq [0] (pa (nx (aE ?_)))
 obtain ⟨v1,h1,h0⟩ := bnd h0
 refine bC ⟨aB (aB ((fun _ => .dead)) 0 (dS p0)) 14 (dB v1),lks [.no, .no, .no]⟩ ?_ ?_
 refine sr [0,1,2,3,4,5,6,7] (pm ?_)
 refine rP rfl (vQ tok rfl rfl rfl) (rP rfl (bK rfl rfl) (pm ?_))
 refine fI (u := 10) h1 rfl (fun hc h1 => ?_) (fun hc h1 => ?_)
 iterate 3 refine k1 ?_
 refine pkt (nx ?_)
 cases h1
 exact wk [0,1,2]
 refine pm1 ?_
 refine rp rfl (w1 rfl rfl rfl) rfl (vQ tok rfl rfl rfl) (rp rfl (w1 rfl rfl rfl) rfl (gO rfl rfl) (pkf (nx ?_)))
 cases h1
 exact wk [0,1,2]
 refine bP h0 rfl (fun hc h0 => ?_) (fun hc h0 => ?_)
 refine sq [0] (pa (nx (aD (aT ?_))))
 cases h0
 exact r0t 2 rfl
 refine sk ?_
 obtain ⟨v13x,h1,h0⟩ := bnd h0
 refine eN v13x (fun v13 => ⟨(fun _ => .dead),lks [.no, .no, .no]⟩) ?_ ?_
 refine sq [0,1,2,3] (pm ?_)
 obtain ⟨hq2,h1⟩ := dM h1
 refine rS rfl (aUs tok hq2 rfl rfl rfl rfl rfl rfl rfl) (rP rfl (aL tok rfl rfl rfl) (pm (nx (aG ?_))))
 refine aZ (fun s8 => ⟨aB (aB (aB ((fun _ => .dead)) 16 (dL cU8 (eA p0))) 17 (dI ((eA p0).length : Int))) 18 (dI s8),lks [.no, .no, .no]⟩) h1 ?_ (fun s8 y h2 => ?_)
 exact wk [0,1,2]
 refine sq [0] (rP rfl (bK rfl rfl) (nx (aE ?_)))
 refine bR h2 rfl (fun hc h2 => ?_) (fun hc h2 => ?_)
 refine sk (aE (aG (sq [0,1,2,3,4] (pm ?_))))
 obtain ⟨v9,hv9,h2⟩ := bnd h2
 refine rP rfl (cO tok hv9 rfl rfl rfl rfl rfl rfl) (lr tok ?_)
 refine pa ?_
 refine pa (nx ?_)
 obtain ⟨v10,h3,h2⟩ := bnd h2
 refine bC ⟨aB (aB (aB (aB (aB (aB ((fun _ => .dead)) 3 (dI s8)) 4 (.d (.v (.int .u8 v9)))) 5 (dB v10)) 16 (dL cU8 (eA p0))) 17 (dI ((eA p0).length : Int))) 18 (dI s8),lks [.no, .no, .no]⟩ ?_ ?_
 refine sr [0,1,2,3,4,5,6] (pm ?_)
 refine rP rfl (rF rfl rfl) (pm ?_)
 refine fI (u := 25) h3 rfl (fun hc h3 => ?_) (fun hc h3 => ?_)
 refine pm1 ?_
 refine rp rfl (w1 rfl rfl rfl) rfl (gR rfl rfl) (pkt ?_)
 refine pa (nx ?_)
 cases h3
 exact wk [0,1,2]
 refine k1 ?_
 refine k1 ?_
 refine pkf ?_
 refine pa (nx ?_)
 cases h3
 exact wk [0,1,2]
 obtain ⟨v11,h3,h2⟩ := bnd h2
 refine bC ⟨aB (aB (aB (aB (aB (aB ((fun _ => .dead)) 3 (dI s8)) 5 (dB v10)) 6 (dB v11)) 16 (dL cU8 (eA p0))) 17 (dI ((eA p0).length : Int))) 18 (dI s8),lks [.no, .no, .no]⟩ ?_ ?_
 refine sr [0,1,2,3,4,5,6,7,8,9,10] (pm ?_)
 refine rP rfl (rF rfl rfl) (pm ?_)
 refine fI (u := 31) h3 rfl (fun hc h3 => ?_) (fun hc h3 => ?_)
 refine pm1 ?_
 refine rp rfl (w1 rfl rfl rfl) rfl (gR rfl rfl) (pkt ?_)
 refine pm ?_
 refine fI (u := 35) h3 rfl (fun hc h3 => ?_) (fun hc h3 => ?_)
 refine k1 ?_
 refine k1 ?_
 refine pkt ?_
 refine pa (nx ?_)
 cases h3
 exact wk [0,1,2]
 refine pm1 ?_
 refine rp rfl (w1 rfl rfl rfl) rfl (iT rfl rfl) (pkf ?_)
 refine pa (nx ?_)
 cases h3
 exact wk [0,1,2]
 refine k1 ?_
 refine k1 ?_
 refine pkf ?_
 refine pm ?_
 refine pm1 ?_
 refine rp rfl (w1 rfl rfl rfl) rfl (iT rfl rfl) (pkf ?_)
 refine pa (nx ?_)
 cases h3
 exact wk [0,1,2]
 obtain ⟨v12,h3,h2⟩ := bnd h2
 refine bC ⟨aB (aB (aB (aB ((fun _ => .dead)) 16 (dL cU8 (eA p0))) 17 (dI ((eA p0).length : Int))) 18 (dI s8)) 48 (dB v12),lks [.no, .no, .no]⟩ ?_ ?_
 refine sr [0,1,2,3,4,5,6,7,8,9] (pm ?_)
 refine rP rfl (cE rfl) (pm ?_)
 refine dQ (u := 41) h3 rfl (fun hc h3 => ?_) (fun hc h3 => ?_)
 refine pm1 ?_
 refine rp rfl (w1 rfl rfl rfl) rfl (iT rfl rfl) (pm1 ?_)
 refine fI (u := 44) h3 rfl (fun hc h3 => ?_) (fun hc h3 => ?_)
 refine k1 ?_
 refine k1 ?_
 refine aUk ?_
 refine pkt (nx ?_)
 cases h3
 exact wk [0,1,2]
 refine pm1 ?_
 refine rp rfl (w1 rfl rfl rfl) rfl (cE rfl) (aR8 ?_)
 refine pkt (nx ?_)
 cases h3
 exact wk [0,1,2]
 iterate 6 refine k1 ?_
 refine pkf (nx ?_)
 cases h3
 exact wk [0,1,2]
 refine bP h2 rfl (fun hc h2 => ?_) (fun hc h2 => ?_)
 refine sq [0] (pa (nx (aD ?_)))
 refine bG (aT ?_)
 cases h2
 refine fC ⟨_,rfl,fun e => ?_⟩
 subst e
 refine bG ?_
 replace h0 := jF h0
 refine aT ?_
 cases h0
 exact r0t 2 rfl
 refine cW (bB (aH (sr [0,1] (rP rfl (bN rfl rfl) (pm (aX ?_))))))
 refine cB ?_
 cases h2
 refine ⟨_,rfl,?_⟩
 exact wk [0,1,2]
 refine bI (cC ?_)
 cases h2
 refine cD ⟨_,rfl,fun e => ?_⟩
 subst e
 refine aU (aH ?_)
 refine ⟨_,rfl,?_⟩
 exact wk [0,1,2]
 rintro v13 rfl
 replace h0 := lZ h0
 refine sq [0] (pa (nx (aD ?_)))
 cases h0
 exact r0t 2 rfl
theorem eE {p0 : Int} {p1 : Int} {p2 : Int} {r : Bool} (h0 : dO p0 p1 p2 = some r) : FnC Tryz.prog 42 [] [dI p0,(dI p1),(dI p2)] [] (dB r) := by
 refine fi 15 tok Tryz.func42 ?_
 unfold dO at h0
 refine sq [0] (pa (nx (sq [0,1,2,3,4,5,6,7,8] ?_)))
 refine pm ?_
 refine pm ?_
 refine rP rfl (rF rfl rfl) (pm ?_)
 refine fI (u := 10) h0 rfl (fun hc h0 => ?_) (fun hc h0 => ?_)
 refine pm1 ?_
 refine pm1 ?_
 refine rp rfl (w1 rfl rfl rfl) rfl (gR rfl rfl) (pkt ?_)
 refine pa (nx (aD ?_))
 cases h0
 exact r0t 6 rfl
 iterate 3 refine k1 ?_
 refine pkf ?_
 refine pa (nx (aD ?_))
 cases h0
 exact r0t 6 rfl
theorem wK {p0 : cA} {p1 : cA} {r : Bool} (h0 : jC p0 p1 = some r) : FnC Tryz.prog 137 [] [.agg [dS p0.Name,(dI p0.Days),(dI p0.Leap)], .ref (aY p1)] [] (dB r) := by
 refine fi 9 tok Tryz.func137 ?_
 unfold jC at h0
 refine sq [0,1] (bxx 3 ?_)
 refine pa (nx (sq [0,1,2,3,4,5] ?_))
 refine fa tok ?_
 refine ld tok ?_
 refine fr tok ?_
 refine lr tok ?_
 refine rP rfl (tQ rfl rfl) (pa (nx (aD ?_)))
 cases h0
 exact r0t 3 rfl
theorem gX {p0 : List cA} {p1_0 : cA} {r : Int} (h0 : cJ p0 p1_0 = some r) : FnC Tryz.prog 210 [] [dL aY p0, .fn 137 [.ref (aY p1_0)]] [] (dI r) := by
 refine fi 19 tok Tryz.func210 ?_
 unfold cJ at h0
 refine sq [0] (pa (nx ?_))
 obtain ⟨v7x,h1,h0⟩ := bnd h0
 refine eN v7x (fun v7 => ⟨(fun _ => .dead),lks [.no, .no, .no]⟩) ?_ ?_
 refine sq [0,1,2] (pm ?_)
 refine rP rfl (aL tok rfl rfl rfl) (pm (nx (aG ?_)))
 refine aZ (fun s4 => ⟨aB (aB (aB (aB ((fun _ => .dead)) 0 (dL aY p0)) 1 (.fn 137 [.ref (aY p1_0)])) 7 (dI (p0.length : Int))) 8 (dI s4),lks [.no, .no, .no]⟩) h1 ?_ (fun s4 y h2 => ?_)
 exact wk [0,1,2]
 refine sq [0] (rP rfl (bK rfl rfl) (nx (aE ?_)))
 refine bR h2 rfl (fun hc h2 => ?_) (fun hc h2 => ?_)
 refine sk (aE (aG (sq [0,1] (pm ?_))))
 refine pa (nx (sq [0,1,2,3,4,5] ?_))
 refine rP rfl (aF (r := .fn _ _) rfl) (pm ?_)
 refine pm ?_
 obtain ⟨v5,hv5,h2⟩ := bnd h2
 refine rP rfl (cO tok hv5 rfl rfl rfl rfl rfl rfl) (rP rfl (bU tok rfl rfl rfl (by repeat (first | exact lN.z _ | apply lN.t))) ?_)
 obtain ⟨v6,hv6,h2⟩ := bnd h2
 refine rS rfl (aM 3 (wK hv6) rfl rfl rfl) (nx ?_)
 refine bP h2 rfl (fun hc h2 => ?_) (fun hc h2 => ?_)
 refine sq [0,1] (pm ?_)
 refine pa (nx (aD ?_))
 refine bG (aT ?_)
 cases h2
 refine fC ⟨_,rfl,fun e => ?_⟩
 subst e
 refine bG ?_
 replace h0 := jF h0
 refine aT ?_
 cases h0
 exact r0t 4 rfl
 refine cW (bB (aH (sr [0,1] (rP rfl (bN rfl rfl) (pm (aX ?_))))))
 refine cB ?_
 cases h2
 refine ⟨_,rfl,?_⟩
 exact wk [0,1,2]
 refine bI (cC ?_)
 cases h2
 refine cD ⟨_,rfl,fun e => ?_⟩
 subst e
 refine aU (aH ?_)
 refine ⟨_,rfl,?_⟩
 exact wk [0,1,2]
 rintro v7 rfl
 replace h0 := lZ h0
 refine sq [0] (pa (nx (aD ?_)))
 cases h0
 exact r0t 4 rfl
theorem gH {p0 : List cA} {p1_0 : cA} {r : Bool} (h0 : bO p0 p1_0 = some r) : FnC Tryz.prog 136 [] [dL aY p0, .fn 137 [.ref (aY p1_0)]] [] (dB r) := by
 refine fi 9 tok Tryz.func136 ?_
 unfold bO at h0
 refine sq [0] (pa (nx (sq [0,1,2,3,4] ?_)))
 refine pm ?_
 refine rP rfl (aF (r := .fn _ _) rfl) ?_
 obtain ⟨v1,hv1,h0⟩ := bnd h0
 refine rS rfl (aM 3 (gX hv1) rfl rfl rfl) (rP rfl (rF rfl rfl) (pa (nx (aD ?_))))
 cases h0
 exact r0t 4 rfl
theorem aEx {p0 : Int} {p1 : Int} {r : Int} (h0 : tJ p0 p1 = some r) : FnC Tryz.prog 143 [] [dI p0,(dI p1)] [] (dI r) := by
 refine fi 16 tok Tryz.func143 ?_
 unfold tJ at h0
 refine sq [0] (pa (nx ?_))
 obtain ⟨v5,h1,h0⟩ := bnd h0
 refine bC ⟨aB ((fun _ => .dead)) 0 (dI v5),lks [.no, .no, .no]⟩ ?_ ?_
 refine aG ?_
 refine aZ (fun s3 => ⟨aB (aB ((fun _ => .dead)) 0 (dI s3.1)) 1 (dI s3.2),lks [.no, .no, .no]⟩) h1 ?_ (fun s3 y h2 => ?_)
 exact wk [0,1,2]
 refine aE (sq [0,1] (pm ?_))
 refine rP rfl (eB rfl rfl) (nx ?_)
 refine bR h2 rfl (fun hc h2 => ?_) (fun hc h2 => ?_)
 refine sk (aG (aK (is := [0,1,2,3,4,5]) [0,0,0,6,3,31] follows (by kernel_rfl) ?_))
 iterate 3 refine tpm ?_
 obtain ⟨hq4,h2⟩ := dM h2
 refine tP rfl (mB rfl rfl hq4) (tpa ?_)
 refine tpa ?_
 refine bS ?_
 refine ⟨by kernel_rfl,?_⟩
 refine bB (cB ?_)
 cases h2
 refine ⟨_,rfl,?_⟩
 exact wk [0,1,2]
 refine bI (cC ?_)
 cases h2
 refine cD ⟨_,rfl,fun e => ?_⟩
 subst e
 refine aU (aH ?_)
 exact wk [0,1,2]
 refine aE (sq [0,1] (pm ?_))
 refine rP rfl (bK rfl rfl) (nx ?_)
 refine bR h0 rfl (fun hc h0 => ?_) (fun hc h0 => ?_)
 refine sq [0,1,2] (pm ?_)
 refine rP rfl (uT rfl) (pa (nx (aD (aT ?_))))
 cases h0
 exact r0t 4 rfl
 refine sk (sq [0,1] (pm ?_))
 refine pa (nx (aD ?_))
 cases h0
 exact r0t 4 rfl
theorem sC {p0 : List bD} {r : Int} (h0 : iE p0 = some r) : FnC Tryz.prog 138 [] [dL aP p0] [] (dI r) := by
 refine fi 25 tok Tryz.func138 ?_
 unfold iE at h0
 refine sq [0] (pa (nx (sq [0] ?_)))
 refine pa (nx ?_)
 obtain ⟨v11,h1,h0⟩ := bnd h0
 refine bC ⟨aB ((fun _ => .dead)) 3 (dI v11),lks [.no, .no, .no]⟩ ?_ ?_
 refine sq [0,1,2] (pm ?_)
 refine rP rfl (aL tok rfl rfl rfl) (pm (nx (aG ?_)))
 refine aZ (fun s6 => ⟨aB (aB (aB (aB ((fun _ => .dead)) 3 (dI s6.1)) 6 (dL aP p0)) 7 (dI (p0.length : Int))) 8 (dI s6.2),lks [.no, .no, .no]⟩) h1 ?_ (fun s6 y h2 => ?_)
 exact wk [0,1,2]
 refine sq [0] (rP rfl (bK rfl rfl) (nx (aE ?_)))
 refine bR h2 rfl (fun hc h2 => ?_) (fun hc h2 => ?_)
 refine sk ?_
 obtain ⟨v10,h3,h2⟩ := bnd h2
 refine bC ⟨aB (aB (aB (aB ((fun _ => .dead)) 3 (dI v10)) 6 (dL aP p0)) 7 (dI (p0.length : Int))) 8 (dI s6.2),lks [.no, .no, .no]⟩ ?_ ?_
 refine aG (sq [0,1,2,3] ?_)
 obtain ⟨v7,hv7,h3⟩ := bnd h3
 refine rP rfl (cO tok hv7 rfl rfl rfl rfl rfl rfl) (rP rfl (bU tok rfl rfl rfl (by repeat (first | exact lN.z _ | apply lN.t))) (al 3 [z0,z0,(dB false)] tok ?_))
 refine bst tok (nx (sq [0,1] ?_))
 refine pm ?_
 refine rP rfl (gR rfl rfl) (nx ?_)
 refine bR h3 rfl (fun hc h3 => ?_) (fun hc h3 => ?_)
 refine aK (is := [0,1,2,3,6,7,4,5,8,9]) [0,0,0,4,14,31,0,64,255,511] follows (by kernel_rfl) (tpm ?_)
 refine tpm ?_
 refine tfa tok ?_
 refine tld tok ?_
 refine tfa tok ?_
 refine tld tok ?_
 obtain ⟨v8,hv8,h3⟩ := bnd h3
 refine mS rfl w0 rfl (dF 4 (aEx hv8) rfl rfl rfl) ?_
 obtain ⟨hq9,h3⟩ := dM h3
 refine tP rfl (sN rfl rfl hq9) (tP rfl (eG rfl rfl) (tpa ?_))
 refine bS ?_
 refine ⟨by kernel_rfl,?_⟩
 refine bB (aH ?_)
 cases h3
 exact wk [0,1,2]
 refine cW (bB (aH ?_))
 cases h3
 exact wk [0,1,2]
 refine sr [0,1] (rP rfl (bN rfl rfl) (pm (aX ?_)))
 refine cB ?_
 cases h2
 refine ⟨_,rfl,?_⟩
 exact wk [0,1,2]
 refine bI (cC ?_)
 cases h2
 refine cD ⟨_,rfl,fun e => ?_⟩
 subst e
 refine aU (aH ?_)
 exact wk [0,1,2]
 refine sq [0,1] (pm ?_)
 refine pa (nx (aD ?_))
 cases h0
 exact r0t 2 rfl
theorem oB {p0 : aI} {r : Bool} (h0 : fE p0 = some r) : FnC Tryz.prog 60 [] [.agg [dS p0.Name,(dL aY p0.Months),(dL aP p0.Rules),(dI p0.Week)]] [] (dB r) := by
 refine fi 91 tok Tryz.func60 ?_
 unfold fE at h0
 refine sq [0,1] (bxx 3 ?_)
 refine pa (nx (aE ?_))
 obtain ⟨v3,h1,h0⟩ := bnd h0
 refine bC ⟨aB (aB ((fun _ => .dead)) 1 (.ptr 3 0 1 0 0)) 34 (dB v3),lks [.no, .no, .no, .live [⟨31,4, .av [[dS p0.Name,(dL aY p0.Months),(dL aP p0.Rules),(dI p0.Week)]]⟩]]⟩ ?_ ?_
 refine sr [0,1,2,3,4,5,6,7,8,9,10,11,12,13,14,15,16,17,18,19,20,21,22,23,24,25,26,27] (fa tok ?_)
 refine ld tok ?_
 obtain ⟨v1,hv1,h1⟩ := bnd h1
 refine rS rfl (aM 4 (sH hv1) rfl rfl rfl) (rP rfl (cE rfl) (pm ?_))
 refine dQ (u := 11) h1 rfl (fun hc h1 => ?_) (fun hc h1 => ?_)
 iterate 4 refine k1 ?_
 refine pkt ?_
 refine pm ?_
 iterate 4 refine k1 ?_
 refine pkt ?_
 refine pm ?_
 iterate 4 refine k1 ?_
 refine pkt ?_
 refine pm ?_
 iterate 4 refine k1 ?_
 refine pkt (nx ?_)
 cases h1
 exact wk [0,1,2,3]
 refine fa1 tok ?_
 refine ld1 tok ?_
 refine rp rfl (w1 rfl rfl rfl) rfl (aL tok rfl rfl rfl) (rp rfl (w1 rfl rfl rfl) rfl (bK rfl rfl) (pkf ?_))
 refine pm ?_
 refine fI (u := 17) h1 rfl (fun hc h1 => ?_) (fun hc h1 => ?_)
 iterate 4 refine k1 ?_
 refine pkt ?_
 refine pm ?_
 iterate 4 refine k1 ?_
 refine pkt ?_
 refine pm ?_
 iterate 4 refine k1 ?_
 refine pkt (nx ?_)
 cases h1
 exact wk [0,1,2,3]
 refine fa1 tok ?_
 refine ld1 tok ?_
 refine rp rfl (w1 rfl rfl rfl) rfl (aL tok rfl rfl rfl) (rp rfl (w1 rfl rfl rfl) rfl (gO rfl rfl) (pkf ?_))
 refine pm ?_
 refine fI (u := 23) h1 rfl (fun hc h1 => ?_) (fun hc h1 => ?_)
 iterate 4 refine k1 ?_
 refine pkt ?_
 refine pm ?_
 iterate 4 refine k1 ?_
 refine pkt (nx ?_)
 cases h1
 exact wk [0,1,2,3]
 refine fa1 tok ?_
 refine ld1 tok ?_
 refine rp rfl (w1 rfl rfl rfl) rfl (aL tok rfl rfl rfl) (rp rfl (w1 rfl rfl rfl) rfl (gO rfl rfl) (pkf ?_))
 refine pm ?_
 refine fI (u := 29) h1 rfl (fun hc h1 => ?_) (fun hc h1 => ?_)
 iterate 4 refine k1 ?_
 refine pkt (nx ?_)
 cases h1
 exact wk [0,1,2,3]
 refine fa1 tok ?_
 refine ld1 tok ?_
 obtain ⟨v2,hv2,h1⟩ := bnd h1
 refine rs rfl (w1 rfl rfl rfl) rfl (aM 4 (eE hv2) rfl rfl rfl) (rp rfl (w1 rfl rfl rfl) rfl (cE rfl) (pkf (nx ?_)))
 cases h1
 exact wk [0,1,2,3]
 refine bP h0 rfl (fun hc h0 => ?_) (fun hc h0 => ?_)
 refine sq [0] (pa (nx (aD (aT ?_))))
 cases h0
 exact r0t 2 rfl
 refine sk ?_
 obtain ⟨v20x,h1,h0⟩ := bnd h0
 refine eN v20x (fun v20 => ⟨aB ((fun _ => .dead)) 1 (.ptr 3 0 1 0 0),lks [.no, .no, .no, .live [⟨31,4, .av [[dS p0.Name,(dL aY p0.Months),(dL aP p0.Rules),(dI p0.Week)]]⟩]]⟩) ?_ ?_
 refine sq [0,1,2,3] (fa tok ?_)
 refine ld tok ?_
 refine rP rfl (aL tok rfl rfl rfl) (pm (nx (aG ?_)))
 refine aZ (fun s12 => ⟨aB (aB (aB (aB ((fun _ => .dead)) 1 (.ptr 3 0 1 0 0)) 36 (dL aY p0.Months)) 37 (dI (p0.Months.length : Int))) 38 (dI s12),lks [.no, .no, .no, .live [⟨31,4, .av [[dS p0.Name,(dL aY p0.Months),(dL aP p0.Rules),(dI p0.Week)]]⟩]]⟩) h1 ?_ (fun s12 y h2 => ?_)
 exact wk [0,1,2,3]
 refine sq [0] (rP rfl (bK rfl rfl) (nx (aE ?_)))
 refine bR h2 rfl (fun hc h2 => ?_) (fun hc h2 => ?_)
 refine sk (aE (aG (sq [0,1,2,3,4,5] (pm ?_))))
 obtain ⟨v13,hv13,h2⟩ := bnd h2
 refine rP rfl (cO tok hv13 rfl rfl rfl rfl rfl rfl) (rP rfl (bU tok rfl rfl rfl (by repeat (first | exact lN.z _ | apply lN.t))) (al 4 [ze,z0,z0] tok ?_))
 refine pa ?_
 refine bst tok (nx (aE ?_))
 obtain ⟨v17,h3,h2⟩ := bnd h2
 refine bC ⟨aB (aB (aB (aB (aB (aB (aB ((fun _ => .dead)) 1 (.ptr 3 0 1 0 0)) 3 (dI s12)) 4 (.ptr 4 0 1 0 0)) 36 (dL aY p0.Months)) 37 (dI (p0.Months.length : Int))) 38 (dI s12)) 58 (dB v17),lks [.no, .no, .no, .live [⟨31,4, .av [[dS p0.Name,(dL aY p0.Months),(dL aP p0.Rules),(dI p0.Week)]]⟩], .live [⟨170,3, .av [[dS v13.Name,(dI v13.Days),(dI v13.Leap)]]⟩]]⟩ ?_ ?_
 refine sr [0,1,2,3,4,5,6,7,8,9,10,11,12,13,14,15] (fa tok ?_)
 refine ld tok ?_
 obtain ⟨v14,hv14,h3⟩ := bnd h3
 refine rS rfl (aM 5 (sH hv14) rfl rfl rfl) (rP rfl (cE rfl) (pm ?_))
 refine dQ (u := 47) h3 rfl (fun hc h3 => ?_) (fun hc h3 => ?_)
 iterate 4 refine k1 ?_
 refine pkt ?_
 refine pm ?_
 iterate 4 refine k1 ?_
 refine pkt (nx ?_)
 cases h3
 exact wk [0,1,2,3,4]
 refine fa1 tok ?_
 refine ld1 tok ?_
 obtain ⟨v15,hv15,h3⟩ := bnd h3
 refine rs rfl (w1 rfl rfl rfl) rfl (aM 5 (eE hv15) rfl rfl rfl) (rp rfl (w1 rfl rfl rfl) rfl (cE rfl) (pkf ?_))
 refine pm ?_
 refine dQ (u := 53) h3 rfl (fun hc h3 => ?_) (fun hc h3 => ?_)
 iterate 4 refine k1 ?_
 refine pkt (nx ?_)
 cases h3
 exact wk [0,1,2,3,4]
 refine fa1 tok ?_
 refine ld1 tok ?_
 obtain ⟨v16,hv16,h3⟩ := bnd h3
 refine rs rfl (w1 rfl rfl rfl) rfl (aM 5 (eE hv16) rfl rfl rfl) (rp rfl (w1 rfl rfl rfl) rfl (cE rfl) (pkf (nx ?_)))
 cases h3
 exact wk [0,1,2,3,4]
 refine bP h2 rfl (fun hc h2 => ?_) (fun hc h2 => ?_)
 refine sq [0] (pa (nx (aD (aT ?_))))
 refine bG (aT ?_)
 cases h2
 refine fC ⟨_,rfl,fun e => ?_⟩
 subst e
 refine bG ?_
 replace h0 := jF h0
 refine aT ?_
 cases h0
 exact r0t 2 rfl
 refine sk (sq [0,1,2,3,4,5] (fa tok ?_))
 refine ld tok ?_
 refine pm ?_
 obtain ⟨hq18,h2⟩ := dM h2
 refine rP rfl (tO tok hq18 rfl (.inl ⟨rfl,rfl⟩) (.inr ⟨_,_,rfl,rfl⟩) rfl rfl rfl (fun _ => rfl)) (rP rfl (aIu rfl) ?_)
 obtain ⟨v19,hv19,h2⟩ := bnd h2
 refine rS rfl (fU 5 (gH hv19) rfl rfl) (nx ?_)
 refine bP h2 rfl (fun hc h2 => ?_) (fun hc h2 => ?_)
 refine sq [0] (pa (nx (aD ?_)))
 refine bG (aT ?_)
 cases h2
 refine fC ⟨_,rfl,fun e => ?_⟩
 subst e
 refine bG ?_
 replace h0 := jF h0
 refine aT ?_
 cases h0
 exact r0t 2 rfl
 refine cW (bB (aH (sr [0,1] (rP rfl (bN rfl rfl) (pm (aX ?_))))))
 refine cB ?_
 cases h2
 refine ⟨_,rfl,?_⟩
 exact wk [0,1,2,3]
 refine bI (cC ?_)
 cases h2
 refine cD ⟨_,rfl,fun e => ?_⟩
 subst e
 refine aU (aH ?_)
 refine ⟨_,rfl,?_⟩
 exact wk [0,1,2,3]
 rintro v20 rfl
 replace h0 := lZ h0
 obtain ⟨v31x,h1,h0⟩ := bnd h0
 refine eN v31x (fun v31 => ⟨aB ((fun _ => .dead)) 1 (.ptr 3 0 1 0 0),lks [.no, .no, .no, .live [⟨31,4, .av [[dS p0.Name,(dL aY p0.Months),(dL aP p0.Rules),(dI p0.Week)]]⟩]]⟩) ?_ ?_
 refine sq [0,1,2,3] (fa tok ?_)
 refine ld tok ?_
 refine rP rfl (aL tok rfl rfl rfl) (pm (nx (aG ?_)))
 refine aZ (fun s26 => ⟨aB (aB (aB (aB ((fun _ => .dead)) 1 (.ptr 3 0 1 0 0)) 67 (dL aP p0.Rules)) 68 (dI (p0.Rules.length : Int))) 69 (dI s26),lks [.no, .no, .no, .live [⟨31,4, .av [[dS p0.Name,(dL aY p0.Months),(dL aP p0.Rules),(dI p0.Week)]]⟩]]⟩) h1 ?_ (fun s26 y h2 => ?_)
 exact wk [0,1,2,3]
 refine sq [0] (rP rfl (bK rfl rfl) (nx (aE ?_)))
 refine bR h2 rfl (fun hc h2 => ?_) (fun hc h2 => ?_)
 refine sk (aE (aG (sq [0,1,2,3] ?_)))
 obtain ⟨v27,hv27,h2⟩ := bnd h2
 refine rP rfl (cO tok hv27 rfl rfl rfl rfl rfl rfl) (rP rfl (bU tok rfl rfl rfl (by repeat (first | exact lN.z _ | apply lN.t))) (al 4 [z0,z0,(dB false)] tok ?_))
 refine bst tok (nx ?_)
 obtain ⟨v30,h3,h2⟩ := bnd h2
 refine bC ⟨aB (aB (aB (aB (aB ((fun _ => .dead)) 1 (.ptr 3 0 1 0 0)) 67 (dL aP p0.Rules)) 68 (dI (p0.Rules.length : Int))) 69 (dI s26)) 85 (dB v30),lks [.no, .no, .no, .live [⟨31,4, .av [[dS p0.Name,(dL aY p0.Months),(dL aP p0.Rules),(dI p0.Week)]]⟩]]⟩ ?_ ?_
 refine sr [0,1,2,3,4,5,6,7,8,9,10,11,12] (fa tok ?_)
 refine ld tok ?_
 obtain ⟨v28,hv28,h3⟩ := bnd h3
 refine rS rfl (aM 5 (eE hv28) rfl rfl rfl) (rP rfl (cE rfl) (pm ?_))
 refine dQ (u := 77) h3 rfl (fun hc h3 => ?_) (fun hc h3 => ?_)
 iterate 7 refine k1 ?_
 refine pkt (nx ?_)
 cases h3
 exact wk [0,1,2,3]
 refine fa1 tok ?_
 refine ld1 tok ?_
 refine fa1 tok ?_
 refine ld1 tok ?_
 refine rp rfl (w1 rfl rfl rfl) rfl (hY rfl rfl) ?_
 obtain ⟨v29,hv29,h3⟩ := bnd h3
 refine rs rfl (w1 rfl rfl rfl) rfl (aM 5 (eE hv29) rfl rfl rfl) (rp rfl (w1 rfl rfl rfl) rfl (cE rfl) (pkf (nx ?_)))
 cases h3
 exact wk [0,1,2,3]
 refine bP h2 rfl (fun hc h2 => ?_) (fun hc h2 => ?_)
 refine sq [0] (pa (nx (aD ?_)))
 refine bG (aT ?_)
 cases h2
 refine fC ⟨_,rfl,fun e => ?_⟩
 subst e
 refine bG ?_
 replace h0 := jF h0
 refine aT ?_
 cases h0
 exact r0t 2 rfl
 refine cW (bB (aH (sr [0,1] (rP rfl (bN rfl rfl) (pm (aX ?_))))))
 refine cB ?_
 cases h2
 refine ⟨_,rfl,?_⟩
 exact wk [0,1,2,3]
 refine bI (cC ?_)
 cases h2
 refine cD ⟨_,rfl,fun e => ?_⟩
 subst e
 refine aU (aH ?_)
 refine ⟨_,rfl,?_⟩
 exact wk [0,1,2,3]
 rintro v31 rfl
 replace h0 := lZ h0
 refine sq [0,1,2,3,4] (fa tok ?_)
 refine ld tok ?_
 obtain ⟨v32,hv32,h0⟩ := bnd h0
 refine rS rfl (aM 4 (sC hv32) rfl rfl rfl) (rP rfl (gR rfl rfl) (pa (nx (aD ?_))))
 cases h0
 exact r0t 2 rfl
theorem qX {p0 : Int} {r : Bool} (h0 : iF p0 = some r) : FnC Tryz.prog 66 [] [dI p0] [] (dB r) := by
 refine fi 5 tok Tryz.func66 ?_
 unfold iF at h0
 refine sq [0] (pa (nx (sq [0,1,2] ?_)))
 refine pm ?_
 obtain ⟨v1,hv1,h0⟩ := bnd h0
 refine rS rfl (aM 3 (eE hv1) rfl rfl rfl) (pa (nx (aD ?_)))
 cases h0
 exact r0t 2 rfl
theorem aIb {p0 : aI} {p1 : Int} {r : Bool} (h0 : tL p0 p1 = some r) : FnC Tryz.prog 142 [] [.agg [dS p0.Name,(dL aY p0.Months),(dL aP p0.Rules),(dI p0.Week)],(dI p1)] [] (dB r) := by
 refine fi 11 tok Tryz.func142 ?_
 unfold tL at h0
 refine sq [0,1] (bxx 3 ?_)
 refine pa (nx (sq [0,1,2,3,4,5,6] ?_))
 refine pm ?_
 refine fa tok ?_
 refine ld tok ?_
 refine rP rfl (aL tok rfl rfl rfl) ?_
 obtain ⟨hq1,h0⟩ := dM h0
 refine rP rfl (sN rfl rfl hq1) ?_
 obtain ⟨v2,hv2,h0⟩ := bnd h0
 refine rS rfl (aM 4 (eE hv2) rfl rfl rfl) (pa (nx (aD ?_)))
 cases h0
 exact r0t 4 rfl
theorem aDk {p0 : aI} {p1 : Int} {r : Bool} (h0 : mO p0 p1 = some r) : FnC Tryz.prog 134 [] [.agg [dS p0.Name,(dL aY p0.Months),(dL aP p0.Rules),(dI p0.Week)],(dI p1)] [] (dB r) := by
 refine fi 26 tok Tryz.func134 ?_
 unfold mO at h0
 refine sq [0,1] (bxx 3 ?_)
 refine pa (nx (sq [0] ?_))
 refine pa (nx ?_)
 obtain ⟨v9,h1,h0⟩ := bnd h0
 refine bC ⟨aB ((fun _ => .dead)) 5 (dB v9),lks [.no, .no, .no]⟩ ?_ ?_
 refine sq [0,1,2,3] (fa tok ?_)
 refine ld tok ?_
 refine rP rfl (aL tok rfl rfl rfl) (pm (nx (aG ?_)))
 refine aZ (fun s5 => ⟨aB (aB (aB (aB (aB ((fun _ => .dead)) 1 (dI p1)) 5 (dB s5.1)) 9 (dL aP p0.Rules)) 10 (dI (p0.Rules.length : Int))) 11 (dI s5.2),lks [.no, .no, .no]⟩) h1 ?_ (fun s5 y h2 => ?_)
 exact wk [0,1,2]
 refine sq [0] (rP rfl (bK rfl rfl) (nx (aE ?_)))
 refine bR h2 rfl (fun hc h2 => ?_) (fun hc h2 => ?_)
 refine sk ?_
 obtain ⟨v8,h3,h2⟩ := bnd h2
 refine bC ⟨aB (aB (aB (aB (aB ((fun _ => .dead)) 1 (dI p1)) 5 (dB v8)) 9 (dL aP p0.Rules)) 10 (dI (p0.Rules.length : Int))) 11 (dI s5.2),lks [.no, .no, .no]⟩ ?_ ?_
 refine aG (sq [0,1,2,3] ?_)
 obtain ⟨v6,hv6,h3⟩ := bnd h3
 refine rP rfl (cO tok hv6 rfl rfl rfl rfl rfl rfl) (rP rfl (bU tok rfl rfl rfl (by repeat (first | exact lN.z _ | apply lN.t))) (al 3 [z0,z0,(dB false)] tok ?_))
 refine bst tok (nx (aE ?_))
 refine aK (is := [0,1,2,3,4,5,6]) [0,0,2,7,0,16,63] follows (by kernel_rfl) (tpm ?_)
 refine tfa tok ?_
 refine tld tok ?_
 obtain ⟨hq7,h3⟩ := dM h3
 refine tP rfl (mB rfl rfl hq7) (tfa tok ?_)
 refine tld tok ?_
 refine tP rfl (iT rfl rfl) (bS ?_)
 refine ⟨by kernel_rfl,?_⟩
 refine aH ?_
 refine bR h3 rfl (fun hc h3 => ?_) (fun hc h3 => ?_)
 refine sr [0,1,2] (fa tok ?_)
 refine ld tok ?_
 refine pa (aX ?_)
 refine bB (aH ?_)
 cases h3
 exact wk [0,1,2]
 refine cW (bB (aH ?_))
 cases h3
 exact wk [0,1,2]
 refine sr [0,1] (rP rfl (bN rfl rfl) (pm (aX ?_)))
 refine cB ?_
 cases h2
 refine ⟨_,rfl,?_⟩
 exact wk [0,1,2]
 refine bI (cC ?_)
 cases h2
 refine cD ⟨_,rfl,fun e => ?_⟩
 subst e
 refine aU (aH ?_)
 exact wk [0,1,2]
 refine sq [0,1] (pm ?_)
 refine pa (nx (aD ?_))
 cases h0
 exact r0t 4 rfl
theorem wL {p0 : aI} {p1 : List Int} {r : Int} (h0 : kE p0 p1 = some r) : FnC Tryz.prog 79 [] [.agg [dS p0.Name,(dL aY p0.Months),(dL aP p0.Rules),(dI p0.Week)],(dL cI p1)] [] (dI r) := by
 refine fi 18 tok Tryz.func79 ?_
 unfold kE at h0
 refine sq [0,1] (bxx 3 ?_)
 refine pa (nx (aE (sq [0,1,2,3,4,5,6] ?_)))
 refine pm ?_
 refine rP rfl (aL tok rfl rfl rfl) (fa tok ?_)
 refine ld tok ?_
 refine rP rfl (aL tok rfl rfl rfl) ?_
 obtain ⟨hq1,h0⟩ := dM h0
 refine rP rfl (mB rfl rfl hq1) (rP rfl (eB rfl rfl) (nx ?_))
 refine bR h0 rfl (fun hc h0 => ?_) (fun hc h0 => ?_)
 refine sq [0] (pa (nx (aD (aT ?_))))
 cases h0
 exact r0t 4 rfl
 refine sk (sq [0,1,2,3,4,5,6] (pm ?_))
 refine rP rfl (aL tok rfl rfl rfl) (fa tok ?_)
 refine ld tok ?_
 refine rP rfl (aL tok rfl rfl rfl) ?_
 obtain ⟨hq2,h0⟩ := dM h0
 refine rP rfl (sN rfl rfl hq2) (pa (nx (aD ?_)))
 cases h0
 exact r0t 4 rfl
theorem aBo {p0 : aI} {p1 : Bool} {p2 : Int} {r : Int} (h0 : kF p0 p1 p2 = some r) : FnC Tryz.prog 135 [] [.agg [dS p0.Name,(dL aY p0.Months),(dL aP p0.Rules),(dI p0.Week)],(dB p1),(dI p2)] [] (dI r) := by
 refine fi 22 tok Tryz.func135 ?_
 unfold kF at h0
 refine sq [0,1] (bxx 3 ?_)
 refine pa (nx (aE (sq [0] ?_)))
 refine pm (nx ?_)
 refine bP h0 rfl (fun hc h0 => ?_) (fun hc h0 => ?_)
 refine sq [0,1,2,3,4,5,6,7] (fa tok ?_)
 refine ld tok ?_
 refine pm ?_
 refine rP rfl (hY rfl rfl) ?_
 obtain ⟨v1,hv1,h0⟩ := bnd h0
 refine rP rfl (cO tok hv1 rfl rfl rfl rfl rfl rfl) (fr tok ?_)
 refine lr tok ?_
 refine pa (nx (aD (aT ?_)))
 cases h0
 exact r0t 6 rfl
 refine sk (sq [0,1,2,3,4,5,6,7] (fa tok ?_))
 refine ld tok ?_
 refine pm ?_
 refine rP rfl (hY rfl rfl) ?_
 obtain ⟨v2,hv2,h0⟩ := bnd h0
 refine rP rfl (cO tok hv2 rfl rfl rfl rfl rfl rfl) (fr tok ?_)
 refine lr tok ?_
 refine pa (nx (aD ?_))
 cases h0
 exact r0t 6 rfl
theorem aGn {p0 : aI} {p1 : List Int} {p2 : Int} {r : List qQ} (h0 : pG p0 p1 p2 = some r) : FnC Tryz.prog 59 [] [.agg [dS p0.Name,(dL aY p0.Months),(dL aP p0.Rules),(dI p0.Week)],(dL cI p1),(dI p2)] [.live [⟨177,4, .data (List.map aBa r)⟩]] (.own 0 0 r.length) := by
 refine fi 57 tok Tryz.func59 ?_
 unfold pG at h0
 refine sq [0,1] (bxx 3 ?_)
 refine pa (nx (sq [0] ?_))
 refine pa (nx (sq [0,1,2,3] ?_))
 refine rL rfl (aW tok rfl rfl rfl rfl) (pm ?_)
 obtain ⟨v1,hv1,h0⟩ := bnd h0
 refine rS rfl (aM 4 (aDk hv1) rfl rfl rfl) (pa (nx (sq [0,1,2,3] ?_)))
 refine fa tok ?_
 refine ld tok ?_
 refine rP rfl (aL tok rfl rfl rfl) (pa (nx (sq [0,1,2,3,4,5,6,7,8,9] ?_)))
 refine pm ?_
 refine pm ?_
 refine rL rfl (aW tok rfl rfl rfl rfl) (pm ?_)
 obtain ⟨v2,hv2,h0⟩ := bnd h0
 refine rS rfl (aM 4 (wL hv2) rfl rfl rfl) ?_
 obtain ⟨hq3,h0⟩ := dM h0
 refine rP rfl (mB rfl rfl hq3) (pm ?_)
 refine rP rfl (eG rfl rfl) ?_
 obtain ⟨hq4,h0⟩ := dM h0
 refine rP rfl (tO tok hq4 rfl (.inr ⟨_,_,rfl,rfl⟩) (.inl ⟨rfl,rfl⟩) rfl rfl rfl (fun _ => rfl)) (pa (nx ?_))
 obtain ⟨v17,h1,h0⟩ := bnd h0
 refine bC ⟨aB ((fun _ => .dead)) 7 (.own 3 0 (v17).length),lks [.no, .no, .no, .live [⟨177,4, .data (List.map aBa v17)⟩]]⟩ ?_ ?_
 refine sq [0] (pa (nx (aG ?_)))
 refine aZ (fun s11 => ⟨aB (aB (aB (aB (aB (aB (aB ((fun _ => .dead)) 2 (dI p2)) 3 (.ptr 3 0 1 0 0)) 7 (.own 4 0 (s11.2).length)) 8 (dB v1)) 9 (dI (p0.Months.length : Int))) 10 (dL cI (wU p1 (w64 ((p2.tmod v2) * (p0.Months.length : Int))) (p1.length : Int)))) 11 (dI s11.1),lks [.no, .no, .no, .live [⟨31,4, .av [[dS p0.Name,(dL aY p0.Months),(dL aP p0.Rules),(dI p0.Week)]]⟩], .live [⟨177,4, .data (List.map aBa s11.2)⟩]]⟩) h1 ?_ (fun s11 y h2 => ?_)
 refine lO.trans_ (dE 4 rfl 177 4 (d := 7) rfl) ?_
 exact wk [0,1,2,3,4]
 refine aE (sq [0,1,2] (pm ?_))
 refine pm ?_
 refine rP rfl (gR rfl rfl) (nx ?_)
 refine bR h2 rfl (fun hc h2 => ?_) (fun hc h2 => ?_)
 refine sk ?_
 obtain ⟨v16,h3,h2⟩ := bnd h2
 refine bC ⟨aB (aB (aB (aB (aB (aB (aB ((fun _ => .dead)) 2 (dI p2)) 3 (.ptr 3 0 1 0 0)) 7 (.own 4 0 (v16).length)) 8 (dB v1)) 9 (dI (p0.Months.length : Int))) 10 (dL cI (wU p1 (w64 ((p2.tmod v2) * (p0.Months.length : Int))) (p1.length : Int)))) 11 (dI s11.1),lks [.no, .no, .no, .live [⟨31,4, .av [[dS p0.Name,(dL aY p0.Months),(dL aP p0.Rules),(dI p0.Week)]]⟩], .live [⟨177,4, .data (List.map aBa v16)⟩]]⟩ ?_ ?_
 refine aG (sq [0,1,2,3,4] (rL rfl (aW tok rfl rfl rfl rfl) (pm ?_)))
 refine pm ?_
 obtain ⟨v12,hv12,h3⟩ := bnd h3
 refine rS rfl (aM 5 (aBo hv12) rfl rfl rfl) (pa (nx (sq [0,1,2,3,4,5,6] ?_)))
 refine pm ?_
 refine pm ?_
 refine rP rfl (hY rfl rfl) ?_
 obtain ⟨v13,hv13,h3⟩ := bnd h3
 refine rP rfl (cO tok hv13 rfl rfl rfl rfl rfl rfl) (lr tok ?_)
 refine pm ?_
 refine rP rfl (eB rfl rfl) (nx ?_)
 refine bR h3 rfl (fun hc h3 => ?_) (fun hc h3 => ?_)
 refine sr [0,1,2,3,4,5,6,7,8,9,10,11,12] (rP rfl (aF (r := .own _ _ _) rfl) ?_)
 iterate 4 refine pm ?_
 refine rP rfl (hY rfl rfl) ?_
 obtain ⟨v14,hv14,h3⟩ := bnd h3
 refine rP rfl (cO tok hv14 rfl rfl rfl rfl rfl rfl) (lr tok ?_)
 refine pm ?_
 refine rP rfl (pbl (C0 := [z0,z0,z0,z0]) tok rfl rfl rfl) (rS rfl (jV tok aBa [(⟨p2,s11.1,v14,v12⟩ : qQ)] rfl rfl rfl (by repeat (first | exact Els.nil _ | apply Els.cons (cs := [.d _]) rfl rfl rfl | apply Els.cons (cs := _ :: _) rfl rfl rfl)) rfl rfl rfl (by repeat (first | exact cH.nil | (apply cH.cons; (repeat (first | exact fA.nil | apply fA.cons))))) rfl) ?_)
 obtain ⟨hq15,h3⟩ := dM h3
 refine rw1 rfl w0 rfl (fL tok hq15 rfl rfl rfl rfl rfl rfl rfl rfl rfl rfl rfl rfl (fun _ => rfl)) (rP rfl (aR (r := .own _ _ _) rfl) (aX (bB (aH ?_))))
 cases h3
 exact wk [0,1,2,3,4]
 refine cW (bB (aH ?_))
 cases h3
 exact wk [0,1,2,3,4]
 refine sr [0,1,2] (pm ?_)
 refine rP rfl (bN rfl rfl) (pa (aX ?_))
 refine cB ?_
 cases h2
 refine ⟨_,rfl,?_⟩
 exact wk [0,1,2,3,4]
 refine bI (cC ?_)
 cases h2
 refine cD ⟨_,rfl,fun e => ?_⟩
 subst e
 refine aU (aH ?_)
 exact wk [0,1,2,4]
 refine sq [0,1] (rP rfl (aF (r := .own _ _ _) rfl) (rP rfl (aR (r := .own _ _ _) rfl) (nx (aD ?_))))
 cases h0
 exact eK (rs := [.tmp 6]) [3] rfl
theorem aCx {p0 : aI} {p1 : List Int} {r : Int} (h0 : lF p0 p1 = some r) : FnC Tryz.prog 144 [] [.agg [dS p0.Name,(dL aY p0.Months),(dL aP p0.Rules),(dI p0.Week)],(dL cI p1)] [] (dI r) := by
 refine fi 36 tok Tryz.func144 ?_
 unfold lF at h0
 refine sq [0,1] (bxx 3 ?_)
 refine pa (nx (aE ?_))
 refine aK (is := [0,1,3,4,2,5,6,7]) [0,0,3,0,8,31,63,127] follows (by kernel_rfl) (dG rfl w0 rfl (aW tok rfl rfl rfl rfl) rfl rfl rfl (tpm ?_))
 refine tfa tok ?_
 refine tld tok ?_
 obtain ⟨v1,hv1,h0⟩ := bnd h0
 refine mS rfl w0 rfl (dF 4 (wL hv1) rfl rfl rfl) ?_
 obtain ⟨v2,hv2,h0⟩ := bnd h0
 refine mS rfl w0 rfl (dF 4 (sC hv2) rfl rfl rfl) (tpa ?_)
 refine tpa ?_
 refine bS ?_
 refine ⟨by kernel_rfl,?_⟩
 refine aH (sq [0,1,2,3,4,5,6,7] ?_)
 iterate 3 refine pm ?_
 obtain ⟨v3,hv3,h0⟩ := bnd h0
 refine rS rfl (aM 4 (aEx hv3) rfl rfl rfl) ?_
 obtain ⟨hq4,h0⟩ := dM h0
 refine rP rfl (sN rfl rfl hq4) (pm ?_)
 refine rP rfl (eG rfl rfl) (pa (nx (sq [0] ?_)))
 refine pa (nx ?_)
 obtain ⟨v9,h1,h0⟩ := bnd h0
 refine bC ⟨aB ((fun _ => .dead)) 8 (dI v9),lks [.no, .no, .no]⟩ ?_ ?_
 refine sq [0] (pa (nx (aG ?_)))
 refine aZ (fun s7 => ⟨aB (aB (aB (aB (aB ((fun _ => .dead)) 1 (dL cI p1)) 2 (.ptr 3 0 1 0 0)) 7 (dI (w64 ((w64 (v1.tdiv v3)) * v2)))) 8 (dI s7.1)) 9 (dI s7.2),lks [.no, .no, .no, .live [⟨31,4, .av [[dS p0.Name,(dL aY p0.Months),(dL aP p0.Rules),(dI p0.Week)]]⟩]]⟩) h1 ?_ (fun s7 y h2 => ?_)
 exact wk [0,1,2,3]
 refine aE (sq [0,1,2] (pm ?_))
 refine pm ?_
 refine rP rfl (bK rfl rfl) (nx ?_)
 refine bR h2 rfl (fun hc h2 => ?_) (fun hc h2 => ?_)
 refine sk (aE (aG (sr [0,1,2,3,4,5,6,7] (pm ?_))))
 refine rL rfl (aW tok rfl rfl rfl rfl) (pm ?_)
 refine pm ?_
 obtain ⟨v8,hv8,h2⟩ := bnd h2
 refine rS rfl (aM 4 (aGn hv8) rfl rfl rfl) (rL rfl (rC tok rfl rfl rfl rfl rfl) (rP rfl (bN rfl rfl) (pa (aX ?_))))
 refine bB (aH (sr [0,1,2] (pm ?_)))
 refine rP rfl (bN rfl rfl) (pa (aX ?_))
 refine cB ?_
 cases h2
 refine ⟨_,rfl,?_⟩
 exact wk [0,1,2,3]
 refine bI (cC ?_)
 cases h2
 refine cD ⟨_,rfl,fun e => ?_⟩
 subst e
 refine aU (aH ?_)
 exact wk [0,1,2]
 refine sq [0,1] (pm ?_)
 refine pa (nx (aD ?_))
 cases h0
 exact r0t 4 rfl
theorem aH8 {p0 : aI} {p1 : Int} {r : List Int × Int × Int} (h0 : qS p0 p1 = some r) : FnC Tryz.prog 67 [] [.agg [dS p0.Name,(dL aY p0.Months),(dL aP p0.Rules),(dI p0.Week)],(dI p1)] [.live [⟨2,1, .data (List.map cI r.1)⟩]] (.tup [.own 0 0 r.1.length,(dI r.2.1),(dI r.2.2)]) := by
 refine fi 115 tok Tryz.func67 ?_
 unfold qS at h0
 refine sq [0,1,2,3] (bxx 3 ?_)
 iterate 3 refine pa ?_
 refine nx (aE (sq [0,1,2] (rL rfl (aW tok rfl rfl rfl rfl) ?_)))
 obtain ⟨v1,hv1,h0⟩ := bnd h0
 refine rS rfl (aM 4 (oB hv1) rfl rfl rfl) (rP rfl (cE rfl) (nx ?_))
 refine bP h0 rfl (fun hc h0 => ?_) (fun hc h0 => ?_)
 refine sq [0,1,2] ?_
 iterate 3 refine pa ?_
 refine nx (cM (dE 4 rfl 2 1 (d := 4) rfl) (aD (aT ?_)))
 cases h0
 exact eK (rs := [.tmp 4, .tmp 5, .tmp 6]) [4] rfl
 refine sk (aE (sq [0,1,2,3] (rL rfl (aW tok rfl rfl rfl rfl) (pm ?_))))
 obtain ⟨v2,hv2,h0⟩ := bnd h0
 refine rS rfl (aM 4 (aIb hv2) rfl rfl rfl) (rP rfl (cE rfl) (nx ?_))
 refine bP h0 rfl (fun hc h0 => ?_) (fun hc h0 => ?_)
 refine sq [0,1,2] ?_
 iterate 3 refine pa ?_
 refine nx (cM (dE 4 rfl 2 1 (d := 4) rfl) (aD (aT ?_)))
 cases h0
 exact eK (rs := [.tmp 4, .tmp 5, .tmp 6]) [4] rfl
 refine sk (sq [0,1,2,3] (fa tok ?_))
 refine ld tok ?_
 obtain ⟨v3,hv3,h0⟩ := bnd h0
 refine rS rfl (aM 4 (sC hv3) rfl rfl rfl) (pa (nx (sq [0,1,2,3,4,5,6,7] ?_)))
 iterate 3 refine pm ?_
 obtain ⟨v4,hv4,h0⟩ := bnd h0
 refine rS rfl (aM 4 (aEx hv4) rfl rfl rfl) ?_
 obtain ⟨hq5,h0⟩ := dM h0
 refine rP rfl (sN rfl rfl hq5) (pm ?_)
 refine rP rfl (eG rfl rfl) (pa (nx (aE ?_)))
 refine aK (is := [0,2,1,4,3,5]) [0,1,0,4,3,31] follows (by kernel_rfl) (tpm ?_)
 refine tpm ?_
 obtain ⟨hq6,h0⟩ := dM h0
 refine aAx rfl w0 rfl rfl (fun hx hk => aNa 4 tok (c := cI) 0 hq6 rfl rfl rfl rfl rfl rfl rfl rfl rfl rfl rfl hk rfl) (tP rfl (aR (r := .own _ _ _) rfl) ?_)
 obtain ⟨hq7,h0⟩ := dM h0
 refine aAx rfl w0 rfl rfl (fun hx hk => aNa 5 tok (c := cI) 0 hq7 rfl rfl rfl rfl rfl rfl rfl rfl rfl rfl rfl hk rfl) (tP rfl (aR (r := .own _ _ _) rfl) (bS ?_))
 refine ⟨by kernel_rfl,?_⟩
 refine aH ?_
 obtain ⟨v26,h1,h0⟩ := bnd h0
 refine bC ⟨aB (aB (aB ((fun _ => .dead)) 2 (.ptr 3 0 1 0 0)) 9 (.own 4 0 (v26.1).length)) 10 (.own 5 0 (v26.2).length),lks [.no, .no, .no, .live [⟨31,4, .av [[dS p0.Name,(dL aY p0.Months),(dL aP p0.Rules),(dI p0.Week)]]⟩], .live [⟨2,1, .data (List.map cI v26.1)⟩], .live [⟨2,1, .data (List.map cI v26.2)⟩]]⟩ ?_ ?_
 refine sq [0] (pa (nx (aG ?_)))
 refine aZ (fun s17 => ⟨aB (aB (aB (aB (aB (aB ((fun _ => .dead)) 1 (dI p1)) 2 (.ptr 3 0 1 0 0)) 8 (dI (w64 ((w64 (p1.tdiv v4)) * v3)))) 9 (.own 4 0 (s17.2.1).length)) 10 (.own 5 0 (s17.2.2).length)) 11 (dI s17.1),lks [.no, .no, .no, .live [⟨31,4, .av [[dS p0.Name,(dL aY p0.Months),(dL aP p0.Rules),(dI p0.Week)]]⟩], .live [⟨2,1, .data (List.map cI s17.2.1)⟩], .live [⟨2,1, .data (List.map cI s17.2.2)⟩]]⟩) h1 ?_ (fun s17 y h2 => ?_)
 exact wk [0,1,2,3,4,5]
 refine aE (sq [0,1,2] (pm ?_))
 refine pm ?_
 refine rP rfl (bK rfl rfl) (nx ?_)
 refine bR h2 rfl (fun hc h2 => ?_) (fun hc h2 => ?_)
 refine sk ?_
 obtain ⟨v25,h3,h2⟩ := bnd h2
 refine bC ⟨aB (aB (aB (aB (aB (aB ((fun _ => .dead)) 1 (dI p1)) 2 (.ptr 3 0 1 0 0)) 8 (dI (w64 ((w64 (p1.tdiv v4)) * v3)))) 9 (.own 4 0 (v25.1).length)) 10 (.own 5 0 (v25.2).length)) 11 (dI s17.1),lks [.no, .no, .no, .live [⟨31,4, .av [[dS p0.Name,(dL aY p0.Months),(dL aP p0.Rules),(dI p0.Week)]]⟩], .live [⟨2,1, .data (List.map cI v25.1)⟩], .live [⟨2,1, .data (List.map cI v25.2)⟩]]⟩ ?_ ?_
 refine aG (sq [0,1,2] (rL rfl (aW tok rfl rfl rfl rfl) (pm ?_)))
 obtain ⟨v18,hv18,h3⟩ := bnd h3
 refine rS rfl (aM 6 (aDk hv18) rfl rfl rfl) (nx ?_)
 refine bP h3 rfl (fun hc h3 => ?_) (fun hc h3 => ?_)
 refine sr [0,1,2,3,4,5,6,7,8] (rP rfl (aF (r := .own _ _ _) rfl) (pm ?_))
 refine pm ?_
 obtain ⟨hq19,h3⟩ := dM h3
 refine rP rfl (mB rfl rfl hq19) ?_
 obtain ⟨v20,hv20,h3⟩ := bnd h3
 refine rL rfl (jU tok hv20 rfl rfl rfl rfl rfl rfl rfl rfl) (rL rfl (lK tok (gV hv20).2.1 rfl rfl rfl rfl rfl rfl) (rP rfl (bN rfl rfl) ?_))
 obtain ⟨v21,hv21,h3⟩ := bnd h3
 refine rL rfl (jU tok hv21 rfl rfl rfl rfl rfl rfl rfl rfl) (rw0 rfl w0 (aIx (cs := [.d _]) tok (w64 (v20 + 1)) (gV hv21).2.1 rfl rfl rfl rfl rfl rfl rfl rfl) (aX (bB (aH ?_))))
 cases h3
 exact wk [0,1,2,3,4,5]
 refine sr [0,1,2,3,4,5,6,7,8] (rP rfl (aF (r := .own _ _ _) rfl) (pm ?_))
 refine pm ?_
 obtain ⟨hq22,h3⟩ := dM h3
 refine rP rfl (mB rfl rfl hq22) ?_
 obtain ⟨v23,hv23,h3⟩ := bnd h3
 refine rL rfl (jU tok hv23 rfl rfl rfl rfl rfl rfl rfl rfl) (rL rfl (lK tok (gV hv23).2.1 rfl rfl rfl rfl rfl rfl) (rP rfl (bN rfl rfl) ?_))
 obtain ⟨v24,hv24,h3⟩ := bnd h3
 refine rL rfl (jU tok hv24 rfl rfl rfl rfl rfl rfl rfl rfl) (rw0 rfl w0 (aIx (cs := [.d _]) tok (w64 (v23 + 1)) (gV hv24).2.1 rfl rfl rfl rfl rfl rfl rfl rfl) (aX (bB (aH ?_))))
 cases h3
 exact wk [0,1,2,3,4,5]
 refine sr [0,1,2] (pm ?_)
 refine rP rfl (bN rfl rfl) (pa (aX ?_))
 refine cB ?_
 cases h2
 refine ⟨_,rfl,?_⟩
 exact wk [0,1,2,3,4,5]
 refine bI (cC ?_)
 cases h2
 refine cD ⟨_,rfl,fun e => ?_⟩
 subst e
 refine aU (aH ?_)
 exact wk [0,1,2,3,4,5]
 refine sq [0] (pa (nx ?_))
 obtain ⟨v67,h1,h0⟩ := bnd h0
 refine bC ⟨aB (aB ((fun _ => .dead)) 2 (.ptr 3 0 1 0 0)) 12 (.own 4 0 (v67).length),lks [.no, .no, .no, .live [⟨31,4, .av [[dS p0.Name,(dL aY p0.Months),(dL aP p0.Rules),(dI p0.Week)]]⟩], .live [⟨2,1, .data (List.map cI v67)⟩]]⟩ ?_ ?_
 refine sq [0,1,2] (rP rfl (aF (r := .own _ _ _) rfl) (rL rfl (rC tok rfl rfl rfl rfl rfl) (pm (nx (aG ?_)))))
 refine aZ (fun s47 => ⟨aB (aB (aB (aB (aB (aB ((fun _ => .dead)) 2 (.ptr 3 0 1 0 0)) 9 (.own 4 0 (v26.1).length)) 10 (.own 5 0 (v26.2).length)) 12 (.own 6 0 (s47.2).length)) 63 (dI (v26.1.length : Int))) 64 (dI s47.1),lks [.no, .no, .no, .live [⟨31,4, .av [[dS p0.Name,(dL aY p0.Months),(dL aP p0.Rules),(dI p0.Week)]]⟩], .live [⟨2,1, .data (List.map cI v26.1)⟩], .live [⟨2,1, .data (List.map cI v26.2)⟩], .live [⟨2,1, .data (List.map cI s47.2)⟩]]⟩) h1 ?_ (fun s47 y h2 => ?_)
 refine lO.trans_ (dE 6 rfl 2 1 (d := 12) rfl) ?_
 exact wk [0,1,2,3,4,5,6]
 refine sq [0] (rP rfl (bK rfl rfl) (nx (aE ?_)))
 refine bR h2 rfl (fun hc h2 => ?_) (fun hc h2 => ?_)
 refine sk ?_
 obtain ⟨v66,h3,h2⟩ := bnd h2
 refine bC ⟨aB (aB (aB (aB (aB (aB ((fun _ => .dead)) 2 (.ptr 3 0 1 0 0)) 9 (.own 4 0 (v26.1).length)) 10 (.own 5 0 (v26.2).length)) 12 (.own 6 0 (v66).length)) 63 (dI (v26.1.length : Int))) 64 (dI s47.1),lks [.no, .no, .no, .live [⟨31,4, .av [[dS p0.Name,(dL aY p0.Months),(dL aP p0.Rules),(dI p0.Week)]]⟩], .live [⟨2,1, .data (List.map cI v26.1)⟩], .live [⟨2,1, .data (List.map cI v26.2)⟩], .live [⟨2,1, .data (List.map cI v66)⟩]]⟩ ?_ ?_
 refine aG (sq [0,1] (pm ?_))
 refine pa (nx (sq [0,1,2,3] ?_))
 refine fa tok ?_
 refine ld tok ?_
 refine rP rfl (aL tok rfl rfl rfl) (pm (nx (aG ?_)))
 refine aZ (fun s57 => ⟨aB (aB (aB (aB (aB (aB (aB (aB (aB (aB ((fun _ => .dead)) 2 (.ptr 3 0 1 0 0)) 9 (.own 4 0 (v26.1).length)) 10 (.own 5 0 (v26.2).length)) 12 (.own 6 0 (s57.2).length)) 13 (dI s47.1)) 63 (dI (v26.1.length : Int))) 64 (dI s47.1)) 68 (dL aY p0.Months)) 69 (dI (p0.Months.length : Int))) 70 (dI s57.1),lks [.no, .no, .no, .live [⟨31,4, .av [[dS p0.Name,(dL aY p0.Months),(dL aP p0.Rules),(dI p0.Week)]]⟩], .live [⟨2,1, .data (List.map cI v26.1)⟩], .live [⟨2,1, .data (List.map cI v26.2)⟩], .live [⟨2,1, .data (List.map cI s57.2)⟩]]⟩) h3 ?_ (fun s57 y h4 => ?_)
 exact wk [0,1,2,3,4,5,6]
 refine sq [0] (rP rfl (bK rfl rfl) (nx (aE ?_)))
 refine bR h4 rfl (fun hc h4 => ?_) (fun hc h4 => ?_)
 refine sk (aE (aG (sq [0,1,2,3] ?_)))
 obtain ⟨v58,hv58,h4⟩ := bnd h4
 refine rP rfl (cO tok hv58 rfl rfl rfl rfl rfl rfl) (rP rfl (bU tok rfl rfl rfl (by repeat (first | exact lN.z _ | apply lN.t))) (al 7 [ze,z0,z0] tok ?_))
 refine bst tok (nx (sq [0,1,2] ?_))
 refine fa tok ?_
 refine ld tok ?_
 refine pa (nx ?_)
 obtain ⟨v64,h5,h4⟩ := bnd h4
 refine bC ⟨aB (aB (aB (aB (aB (aB (aB (aB (aB (aB (aB ((fun _ => .dead)) 2 (.ptr 3 0 1 0 0)) 9 (.own 4 0 (v26.1).length)) 10 (.own 5 0 (v26.2).length)) 12 (.own 6 0 (s57.2).length)) 13 (dI s47.1)) 16 (dI v64)) 63 (dI (v26.1.length : Int))) 64 (dI s47.1)) 68 (dL aY p0.Months)) 69 (dI (p0.Months.length : Int))) 70 (dI s57.1),lks [.no, .no, .no, .live [⟨31,4, .av [[dS p0.Name,(dL aY p0.Months),(dL aP p0.Rules),(dI p0.Week)]]⟩], .live [⟨2,1, .data (List.map cI v26.1)⟩], .live [⟨2,1, .data (List.map cI v26.2)⟩], .live [⟨2,1, .data (List.map cI s57.2)⟩]]⟩ ?_ ?_
 obtain ⟨v63,h6,h5⟩ := bnd h5
 refine bC ⟨aB (aB (aB (aB (aB (aB (aB (aB (aB (aB (aB (aB (aB ((fun _ => .dead)) 2 (.ptr 3 0 1 0 0)) 9 (.own 4 0 (v26.1).length)) 10 (.own 5 0 (v26.2).length)) 12 (.own 6 0 (s57.2).length)) 13 (dI s47.1)) 15 (.ptr 7 0 1 0 0)) 16 (dI v58.Days)) 63 (dI (v26.1.length : Int))) 64 (dI s47.1)) 68 (dL aY p0.Months)) 69 (dI (p0.Months.length : Int))) 70 (dI s57.1)) 102 (dB v63),lks [.no, .no, .no, .live [⟨31,4, .av [[dS p0.Name,(dL aY p0.Months),(dL aP p0.Rules),(dI p0.Week)]]⟩], .live [⟨2,1, .data (List.map cI v26.1)⟩], .live [⟨2,1, .data (List.map cI v26.2)⟩], .live [⟨2,1, .data (List.map cI s57.2)⟩], .live [⟨170,3, .av [[dS v58.Name,(dI v58.Days),(dI v58.Leap)]]⟩]]⟩ ?_ ?_
 refine aK (is := [0,1,2,3,4,5,6,7,8,9,10,11,12,13,14,15,16,17,18,19,20,21,22,23,24,25,26]) [0,0,3,7,0,0,48,112,255,511,1023,1023,4095,8191,1023,1023,50175,115711,262143,524287,1048575,2097151,1048575,5242879,16777215,33554431,67108863] follows (by kernel_rfl) (tP rfl (aF (r := .own _ _ _) rfl) (tpm ?_))
 obtain ⟨v59,hv59,h6⟩ := bnd h6
 refine dG rfl w0 rfl (jU tok hv59 rfl rfl rfl rfl rfl rfl rfl rfl) rfl rfl rfl (dG rfl w0 rfl (lK tok (gV hv59).2.1 rfl rfl rfl rfl rfl rfl) rfl rfl rfl (tP rfl (aF (r := .own _ _ _) rfl) (tpm ?_)))
 obtain ⟨v60,hv60,h6⟩ := bnd h6
 refine dG rfl w0 rfl (jU tok hv60 rfl rfl rfl rfl rfl rfl rfl rfl) rfl rfl rfl (dG rfl w0 rfl (lK tok (gV hv60).2.1 rfl rfl rfl rfl rfl rfl) rfl rfl rfl (tP rfl (gO rfl rfl) (tpm ?_)))
 refine aG4 (u := 85) h6 rfl (fun hc h6 => ?_) (fun hc h6 => ?_)
 iterate 16 refine k2 ?_
 refine aCn ?_
 refine bS ?_
 refine ⟨by kernel_rfl,?_⟩
 refine aH ?_
 cases h6
 exact wk [0,1,2,3,4,5,6,7]
 refine rQ rfl (w1 rfl rfl rfl) rfl (aF (r := .own _ _ _) rfl) (aF1 ?_)
 obtain ⟨v61,hv61,h6⟩ := bnd h6
 refine dG rfl (w1 rfl rfl rfl) rfl (jU tok hv61 rfl rfl rfl rfl rfl rfl rfl rfl) rfl rfl rfl (dG rfl (w1 rfl rfl rfl) rfl (lK tok (gV hv61).2.1 rfl rfl rfl rfl rfl rfl) rfl rfl rfl (rQ rfl (w1 rfl rfl rfl) rfl (aF (r := .own _ _ _) rfl) (aF1 ?_)))
 obtain ⟨v62,hv62,h6⟩ := bnd h6
 refine dG rfl (w1 rfl rfl rfl) rfl (jU tok hv62 rfl rfl rfl rfl rfl rfl rfl rfl) rfl rfl rfl (dG rfl (w1 rfl rfl rfl) rfl (lK tok (gV hv62).2.1 rfl rfl rfl rfl rfl rfl) rfl rfl rfl (rQ rfl (w1 rfl rfl rfl) rfl (iT rfl rfl) (aF1 ?_)))
 refine aG4 (u := 95) h6 rfl (fun hc h6 => ?_) (fun hc h6 => ?_)
 refine dG rfl (w1 rfl rfl rfl) rfl (aEb tok rfl rfl rfl rfl rfl rfl rfl) rfl rfl rfl (dG rfl (w1 rfl rfl rfl) rfl (xB tok rfl rfl rfl rfl rfl) rfl rfl rfl (dG rfl (w1 rfl rfl rfl) rfl (aEb tok rfl rfl rfl rfl rfl rfl rfl) rfl rfl rfl (dG rfl (w1 rfl rfl rfl) rfl (xB tok rfl rfl rfl rfl rfl) rfl rfl rfl (rQ rfl (w1 rfl rfl rfl) rfl (bK rfl rfl) (aU5 ?_)))))
 refine aFu ?_
 refine bS ?_
 refine ⟨by kernel_rfl,?_⟩
 refine aH ?_
 cases h6
 exact wk [0,1,2,3,4,5,6,7]
 iterate 5 refine k2 ?_
 refine aU4 ?_
 refine aFu ?_
 refine bS ?_
 refine ⟨by kernel_rfl,?_⟩
 refine aH ?_
 cases h6
 exact wk [0,1,2,3,4,5,6,7]
 refine bP h5 rfl (fun hc h5 => ?_) (fun hc h5 => ?_)
 refine sr [0,1,2] (fa tok ?_)
 refine ld tok ?_
 refine pa (nx ?_)
 cases h5
 exact wk [0,1,2,3,4,5,6]
 refine sk ?_
 cases h5
 exact wk [0,1,2,3,4,5,6]
 refine sr [0,1,2,3,4] (rP rfl (aF (r := .own _ _ _) rfl) (pm ?_))
 refine rS rfl (jV tok cI [v64] rfl rfl rfl (by repeat (first | exact Els.nil _ | apply Els.cons (cs := [.d _]) rfl rfl rfl | apply Els.cons (cs := _ :: _) rfl rfl rfl)) rfl rfl rfl (by repeat (first | exact cH.nil | (apply cH.cons; (repeat (first | exact fA.nil | apply fA.cons))))) rfl) ?_
 obtain ⟨hq65,h4⟩ := dM h4
 refine rw1 rfl w0 rfl (fL tok hq65 rfl rfl rfl rfl rfl rfl rfl rfl rfl rfl rfl rfl (fun _ => rfl)) (rP rfl (aR (r := .own _ _ _) rfl) (aX (bB (aH (sr [0,1] (rP rfl (bN rfl rfl) (pm (aX ?_))))))))
 refine cB ?_
 cases h4
 refine ⟨_,rfl,?_⟩
 exact wk [0,1,2,3,4,5,6]
 refine bI (cC ?_)
 cases h4
 refine cD ⟨_,rfl,fun e => ?_⟩
 subst e
 refine aU ?_
 refine bB (aH ?_)
 exact wk [0,1,2,3,4,5,6]
 refine sr [0,1] (rP rfl (bN rfl rfl) (pm (aX ?_)))
 refine cB ?_
 cases h2
 refine ⟨_,rfl,?_⟩
 exact wk [0,1,2,3,4,5,6]
 refine bI (cC ?_)
 cases h2
 refine cD ⟨_,rfl,fun e => ?_⟩
 subst e
 refine aU (aH ?_)
 exact wk [0,1,2,3,6]
 refine sq [0,1,2,3,4,5,6] (rP rfl (aF (r := .own _ _ _) rfl) (rL rfl (aW tok rfl rfl rfl rfl) (rP rfl (aF (r := .own _ _ _) rfl) ?_)))
 obtain ⟨v68,hv68,h0⟩ := bnd h0
 refine rS rfl (fU 5 (aCx hv68) rfl rfl) (rP rfl (aR (r := .own _ _ _) rfl) (pa ?_))
 refine pa (nx (aD ?_))
 cases h0
 exact eK (rs := [.tmp 4, .tmp 5, .tmp 6]) [4] rfl
theorem xK {p0 : Int} {r : Int} (h0 : kN p0 = some r) : FnC Tryz.prog 214 [] [dI p0] [] (.d (.v (.int .u64 r))) := by
 refine fi 10 tok Tryz.func214 ?_
 unfold kN at h0
 refine sq [0] (pa (nx (aE (sq [0,1] ?_))))
 refine pm ?_
 refine rP rfl (bK rfl rfl) (nx ?_)
 refine bR h0 rfl (fun hc h0 => ?_) (fun hc h0 => ?_)
 refine sq [0,1,2,3] (pm ?_)
 refine rP rfl (aG0 tok rfl rfl rfl rfl rfl) (rP rfl (aNv rfl) (pa (nx (aD (aT ?_)))))
 cases h0
 exact r0t 2 rfl
 refine sk (sq [0,1,2] (pm ?_))
 refine rP rfl (aG0 tok rfl rfl rfl rfl rfl) (pa (nx (aD ?_)))
 cases h0
 exact r0t 2 rfl
theorem aIc {p0 : Int} {p1 : Int} {r : aA × Bool} (h0 : qW p0 p1 = some r) : FnC Tryz.prog 145 [] [dI p0,(dI p1)] [] (.tup [.agg [dI r.1.Num,(dI r.1.Den)],(dB r.2)]) := by
 refine fi 51 tok Tryz.func145 ?_
 unfold qW at h0
 refine sq [0,1] (al 3 [z0,z0] tok ?_)
 refine pa (nx (sq [0,1,2,3,4,5] ?_))
 refine pm ?_
 obtain ⟨v1,hv1,h0⟩ := bnd h0
 refine rS rfl (aM 4 (xK hv1) rfl rfl rfl) (pm ?_)
 obtain ⟨v2,hv2,h0⟩ := bnd h0
 refine rS rfl (aM 4 (xK hv2) rfl rfl rfl) (pa ?_)
 refine pa (nx (sq [0,1,2,3] ?_))
 refine pm ?_
 refine pm ?_
 refine pa ?_
 refine pa (nx ?_)
 obtain ⟨v7,h1,h0⟩ := bnd h0
 refine bC ⟨aB (aB (aB (aB (aB (aB ((fun _ => .dead)) 0 (dI p0)) 1 (dI p1)) 4 (.ptr 3 0 1 0 0)) 6 (.d (.v (.int .u64 v1)))) 7 (.d (.v (.int .u64 v2)))) 8 (.d (.v (.int .u64 v7))),lks [.no, .no, .no, .live [⟨62,2, .av [[z0,z0]]⟩]]⟩ ?_ ?_
 refine aG ?_
 refine aZ (fun s5 => ⟨aB (aB (aB (aB (aB (aB (aB ((fun _ => .dead)) 0 (dI p0)) 1 (dI p1)) 4 (.ptr 3 0 1 0 0)) 6 (.d (.v (.int .u64 v1)))) 7 (.d (.v (.int .u64 v2)))) 8 (.d (.v (.int .u64 s5.1)))) 9 (.d (.v (.int .u64 s5.2))),lks [.no, .no, .no, .live [⟨62,2, .av [[z0,z0]]⟩]]⟩) h1 ?_ (fun s5 y h2 => ?_)
 exact wk [0,1,2,3]
 refine aE (sq [0,1] (pm ?_))
 refine rP rfl (eB rfl rfl) (nx ?_)
 refine bR h2 rfl (fun hc h2 => ?_) (fun hc h2 => ?_)
 refine sk (aG (aK (is := [0,1,2,3,4,5]) [0,0,0,6,3,31] follows (by kernel_rfl) ?_))
 iterate 3 refine tpm ?_
 obtain ⟨hq6,h2⟩ := dM h2
 refine tP rfl (mB rfl rfl hq6) (tpa ?_)
 refine tpa ?_
 refine bS ?_
 refine ⟨by kernel_rfl,?_⟩
 refine bB (cB ?_)
 cases h2
 refine ⟨_,rfl,?_⟩
 exact wk [0,1,2,3]
 refine bI (cC ?_)
 cases h2
 refine cD ⟨_,rfl,fun e => ?_⟩
 subst e
 refine aU (aH ?_)
 exact wk [0,1,2,3]
 refine aE (aK (is := [0,1,2,3,4,5,6,7]) [0,0,3,0,0,24,7,127] follows (by kernel_rfl) (tpm ?_))
 refine tpm ?_
 obtain ⟨hq8,h0⟩ := dM h0
 refine tP rfl (aB5 rfl rfl hq8) (tpm ?_)
 refine tpm ?_
 obtain ⟨hq9,h0⟩ := dM h0
 refine tP rfl (aB5 rfl rfl hq9) (tpa ?_)
 refine tpa ?_
 refine bS ?_
 refine ⟨by kernel_rfl,?_⟩
 refine aH (aE ?_)
 obtain ⟨v10,h1,h0⟩ := bnd h0
 refine bC ⟨aB (aB (aB (aB (aB (aB ((fun _ => .dead)) 0 (dI p0)) 1 (dI p1)) 4 (.ptr 3 0 1 0 0)) 6 (.d (.v (.int .u64 (IntKind.u64.wrap (v1.tdiv v7)))))) 7 (.d (.v (.int .u64 (IntKind.u64.wrap (v2.tdiv v7)))))) 34 (dB v10),lks [.no, .no, .no, .live [⟨62,2, .av [[z0,z0]]⟩]]⟩ ?_ ?_
 refine sr [0,1,2,3,4,5] (pm ?_)
 refine rP rfl (gO rfl rfl) (pm ?_)
 refine fI (u := 31) h1 rfl (fun hc h1 => ?_) (fun hc h1 => ?_)
 refine k1 ?_
 refine k1 ?_
 refine pkt (nx ?_)
 cases h1
 exact wk [0,1,2,3]
 refine pm1 ?_
 refine rp rfl (w1 rfl rfl rfl) rfl (gO rfl rfl) (pkf (nx ?_))
 cases h1
 exact wk [0,1,2,3]
 refine bP h0 rfl (fun hc h0 => ?_) (fun hc h0 => ?_)
 refine sq [0,1,2] (rP rfl (pbl (C0 := [z0,z0]) tok rfl rfl rfl) (bst tok ?_))
 refine pa (nx (aD (aT ?_)))
 cases h0
 exact eI (rs := [.cell 4 62, .tmp 5]) rfl
 refine sk (sq [0,1,2,3,4,5,6] (pm ?_))
 refine rP rfl (aG1 tok rfl rfl rfl rfl rfl) (pm ?_)
 refine rP rfl (aG1 tok rfl rfl rfl rfl rfl) (rP rfl (pbl (C0 := [z0,z0]) tok rfl rfl rfl) (al 4 [z0,z0] tok ?_))
 refine bst tok (nx ?_)
 obtain ⟨v11,h1,h0⟩ := bnd h0
 refine bC ⟨aB (aB ((fun _ => .dead)) 4 (.ptr 3 0 1 0 0)) 10 (.ptr 4 0 1 0 0),lks [.no, .no, .no, .live [⟨62,2, .av [[z0,z0]]⟩], .live [⟨62,2, .av [[dI v11.Num,(dI v11.Den)]]⟩]]⟩ ?_ ?_
 refine sq [0,1,2,3,4] (pm ?_)
 refine rP rfl (bK rfl rfl) (pm ?_)
 refine rP rfl (bK rfl rfl) (rP rfl (aNr tok rfl rfl rfl rfl) (nx ?_))
 refine bP h1 rfl (fun hc h1 => ?_) (fun hc h1 => ?_)
 refine sr [0,1,2,3,4] (fa tok ?_)
 refine ld tok ?_
 refine rP rfl (uT rfl) (fa tok ?_)
 refine bs1 tok (nx ?_)
 cases h1
 exact wk [0,1,2,3,4]
 refine sk ?_
 cases h1
 exact wk [0,1,2,3,4]
 refine sq [0,1,2] (rL rfl (aW tok rfl rfl rfl rfl) (bst tok ?_))
 refine pa (nx (aD ?_))
 cases h0
 exact eI (rs := [.cell 4 62, .tmp 5]) rfl
theorem jB {p0 : Int} {p1 : Int} {r : aA × Int} (h0 : dX p0 p1 = some r) : FnC Tryz.prog 68 [] [dI p0,(dI p1)] [] (.tup [.agg [dI r.1.Num,(dI r.1.Den)],(dI r.2)]) := by
 refine fi 21 tok Tryz.func68 ?_
 unfold dX at h0
 refine sq [0,1] (al 3 [z0,z0] tok ?_)
 refine pa (nx (aE (sq [0,1] ?_)))
 refine pm ?_
 refine rP rfl (iT rfl rfl) (nx ?_)
 refine bR h0 rfl (fun hc h0 => ?_) (fun hc h0 => ?_)
 refine sq [0,1,2] (rP rfl (pbl (C0 := [z0,z0]) tok rfl rfl rfl) (bst tok ?_))
 refine pa (nx (aD (aT ?_)))
 cases h0
 exact eI (rs := [.cell 4 62, .tmp 5]) rfl
 refine sk (sq [0,1,2,3,4,5,6,7,8] (pm ?_))
 refine pm ?_
 obtain ⟨v1,hv1,h0⟩ := bnd h0
 refine rS rfl (aM 4 (aIc hv1) rfl rfl rfl) (rP rfl (aF (r := .tup _) rfl) (rP rfl (aJ rfl rfl) (rP rfl (aJ rfl rfl) (al 4 [z0,z0] tok ?_))))
 refine bst tok ?_
 refine pa (nx (aE (sq [0,1] ?_)))
 refine pm ?_
 refine rP rfl (cE rfl) (nx ?_)
 refine bP h0 rfl (fun hc h0 => ?_) (fun hc h0 => ?_)
 refine sq [0,1,2] (rP rfl (pbl (C0 := [z0,z0]) tok rfl rfl rfl) (bst tok ?_))
 refine pa (nx (aD (aT ?_)))
 cases h0
 exact eI (rs := [.cell 4 62, .tmp 5]) rfl
 refine sk (sq [0,1,2] (rL rfl (aW tok rfl rfl rfl rfl) (bst tok ?_)))
 refine pa (nx (aD ?_))
 cases h0
 exact eI (rs := [.cell 4 62, .tmp 5]) rfl
theorem fH {p0 : aA} {r : Bool} (h0 : dV p0 = some r) : FnC Tryz.prog 152 [] [.agg [dI p0.Num,(dI p0.Den)]] [] (dB r) := by
 refine fi 19 tok Tryz.func152 ?_
 unfold dV at h0
 refine sq [0,1] (bxx 3 ?_)
 refine pa (nx (sq [0,1,2,3,4,5,6,7,8,9,10,11,12,13,14,15,16] ?_))
 refine fa tok ?_
 refine ld tok ?_
 obtain ⟨v1,hv1,h0⟩ := bnd h0
 refine rS rfl (aM 4 (eE hv1) rfl rfl rfl) (pm ?_)
 refine dQ (u := 6) h0 rfl (fun hc h0 => ?_) (fun hc h0 => ?_)
 refine fa1 tok ?_
 refine ld1 tok ?_
 obtain ⟨v2,hv2,h0⟩ := bnd h0
 refine rs rfl (w1 rfl rfl rfl) rfl (aM 4 (eE hv2) rfl rfl rfl) (pkt ?_)
 refine pm ?_
 refine dQ (u := 11) h0 rfl (fun hc h0 => ?_) (fun hc h0 => ?_)
 refine fa1 tok ?_
 refine ld1 tok ?_
 refine fa1 tok ?_
 refine ld1 tok ?_
 obtain ⟨v3,hv3,h0⟩ := bnd h0
 refine rs rfl (w1 rfl rfl rfl) rfl (aM 4 (aEx hv3) rfl rfl rfl) (rp rfl (w1 rfl rfl rfl) rfl (iT rfl rfl) (pkt ?_))
 refine pa (nx (aD ?_))
 cases h0
 exact r0t 2 rfl
 iterate 6 refine k1 ?_
 refine pkf ?_
 refine pa (nx (aD ?_))
 cases h0
 exact r0t 2 rfl
 iterate 3 refine k1 ?_
 refine pkf ?_
 refine pm ?_
 iterate 6 refine k1 ?_
 refine pkf ?_
 refine pa (nx (aD ?_))
 cases h0
 exact r0t 2 rfl
theorem xL {p0 : Int} {p1 : Int} {r : Bool} (h0 : qF p0 p1 = some r) : FnC Tryz.prog 257 [] [dI p0,(dI p1)] [] (dB r) := by
 refine fi 22 tok Tryz.func257 ?_
 unfold qF at h0
 refine sq [0] (pa (nx (sq [0,1,2,3,4,5,6,7,8,9,10,11,12,13,14,15,16,17] ?_)))
 refine pm ?_
 refine rP rfl (rF rfl rfl) (pm ?_)
 refine fI (u := 7) h0 rfl (fun hc h0 => ?_) (fun hc h0 => ?_)
 refine pm1 ?_
 refine rp rfl (w1 rfl rfl rfl) rfl (gR rfl rfl) (pkt ?_)
 refine pm ?_
 refine fI (u := 11) h0 rfl (fun hc h0 => ?_) (fun hc h0 => ?_)
 refine pm1 ?_
 refine pm1 ?_
 refine rp rfl (w1 rfl rfl rfl) rfl (gR rfl rfl) (pkt ?_)
 refine pm ?_
 refine fI (u := 16) h0 rfl (fun hc h0 => ?_) (fun hc h0 => ?_)
 refine pm1 ?_
 refine pm1 ?_
 refine rp rfl (w1 rfl rfl rfl) rfl (bN rfl rfl) (rp rfl (w1 rfl rfl rfl) rfl (gR rfl rfl) (pkt ?_))
 refine pa (nx (aD ?_))
 cases h0
 exact r0t 4 rfl
 iterate 4 refine k1 ?_
 refine pkf ?_
 refine pa (nx (aD ?_))
 cases h0
 exact r0t 4 rfl
 iterate 3 refine k1 ?_
 refine pkf ?_
 refine pm ?_
 iterate 4 refine k1 ?_
 refine pkf ?_
 refine pa (nx (aD ?_))
 cases h0
 exact r0t 4 rfl
 refine k1 ?_
 refine k1 ?_
 refine pkf ?_
 refine pm ?_
 iterate 3 refine k1 ?_
 refine pkf ?_
 refine pm ?_
 iterate 4 refine k1 ?_
 refine pkf ?_
 refine pa (nx (aD ?_))
 cases h0
 exact r0t 4 rfl
theorem aBm {p0 : iD} {r : Bool} (h0 : nG p0 = some r) : FnC Tryz.prog 215 [] [.agg [dI p0.LowDriver,(dI p0.HighDriver),(dI p0.LowDriven),(dI p0.HighDriven),(dI p0.Stages)]] [] (dB r) := by
 refine fi 20 tok Tryz.func215 ?_
 unfold nG at h0
 refine sq [0,1] (bxx 3 ?_)
 refine pa (nx (sq [0,1,2,3,4,5,6,7,8,9,10,11,12,13,14,15,16,17] ?_))
 refine fa tok ?_
 refine ld tok ?_
 refine fa tok ?_
 refine ld tok ?_
 obtain ⟨v1,hv1,h0⟩ := bnd h0
 refine rS rfl (aM 4 (xL hv1) rfl rfl rfl) (pm ?_)
 refine dQ (u := 8) h0 rfl (fun hc h0 => ?_) (fun hc h0 => ?_)
 refine fa1 tok ?_
 refine ld1 tok ?_
 refine fa1 tok ?_
 refine ld1 tok ?_
 obtain ⟨v2,hv2,h0⟩ := bnd h0
 refine rs rfl (w1 rfl rfl rfl) rfl (aM 4 (xL hv2) rfl rfl rfl) (pkt ?_)
 refine pm ?_
 refine dQ (u := 15) h0 rfl (fun hc h0 => ?_) (fun hc h0 => ?_)
 refine fa1 tok ?_
 refine ld1 tok ?_
 obtain ⟨v3,hv3,h0⟩ := bnd h0
 refine rs rfl (w1 rfl rfl rfl) rfl (aM 4 (eE hv3) rfl rfl rfl) (pkt ?_)
 refine pa (nx (aD ?_))
 cases h0
 exact r0t 2 rfl
 iterate 3 refine k1 ?_
 refine pkf ?_
 refine pa (nx (aD ?_))
 cases h0
 exact r0t 2 rfl
 iterate 5 refine k1 ?_
 refine pkf ?_
 refine pm ?_
 iterate 3 refine k1 ?_
 refine pkf ?_
 refine pa (nx (aD ?_))
 cases h0
 exact r0t 2 rfl
theorem aIa {p0 : aA} {p1 : iD} {r : Int} (h0 : tH p0 p1 = some r) : FnC Tryz.prog 146 [] [.agg [dI p0.Num,(dI p0.Den)], .agg [dI p1.LowDriver,(dI p1.HighDriver),(dI p1.LowDriven),(dI p1.HighDriven),(dI p1.Stages)]] [] (dI r) := by
 refine fi 28 tok Tryz.func146 ?_
 unfold tH at h0
 refine sq [0,1,2] (bxx 3 ?_)
 refine bxx 4 ?_
 refine pa (nx (aE (aG ?_)))
 obtain ⟨v3,h1,h0⟩ := bnd h0
 refine bC ⟨aB (aB ((fun _ => .dead)) 2 (.ptr 3 0 1 0 0)) 5 (dB v3),lks [.no, .no, .no, .live [⟨62,2, .av [[dI p0.Num,(dI p0.Den)]]⟩]]⟩ ?_ ?_
 refine sr [0,1,2,3,4,5,6,7,8] (rL rfl (aW tok rfl rfl rfl rfl) ?_)
 obtain ⟨v1,hv1,h1⟩ := bnd h1
 refine rS rfl (aM 5 (fH hv1) rfl rfl rfl) (rP rfl (cE rfl) (pm ?_))
 refine dQ (u := 9) h1 rfl (fun hc h1 => ?_) (fun hc h1 => ?_)
 iterate 3 refine k1 ?_
 refine pkt ?_
 refine pa (nx ?_)
 cases h1
 exact wk [0,1,2,3]
 refine rl rfl (w1 rfl rfl rfl) rfl (aW tok rfl rfl rfl rfl) ?_
 obtain ⟨v2,hv2,h1⟩ := bnd h1
 refine rs rfl (w1 rfl rfl rfl) rfl (aM 5 (aBm hv2) rfl rfl rfl) (rp rfl (w1 rfl rfl rfl) rfl (cE rfl) (pkf ?_))
 refine pa (nx ?_)
 cases h1
 exact wk [0,1,2,3]
 refine bP h0 rfl (fun hc h0 => ?_) (fun hc h0 => ?_)
 refine sq [0] (pa (nx (aD ?_)))
 refine bG (aT ?_)
 cases h0
 exact r0t 4 rfl
 obtain ⟨v4,h1,h0⟩ := bnd h0
 refine bC ⟨aB ((fun _ => .dead)) 14 (dB v4),lks [.no, .no, .no]⟩ ?_ ?_
 refine sr [0,1,2,3,4,5,6,7,8,9,10,11,12,13] (fa tok ?_)
 refine ld tok ?_
 refine rP rfl (gR rfl rfl) (pm ?_)
 refine fI (u := 18) h1 rfl (fun hc h1 => ?_) (fun hc h1 => ?_)
 iterate 3 refine k1 ?_
 refine pkt ?_
 refine pm ?_
 iterate 3 refine k1 ?_
 refine pkt ?_
 refine pa (nx ?_)
 cases h1
 exact wk [0,1,2]
 refine fa1 tok ?_
 refine ld1 tok ?_
 refine rp rfl (w1 rfl rfl rfl) rfl (gO rfl rfl) (pkf ?_)
 refine pm ?_
 refine fI (u := 23) h1 rfl (fun hc h1 => ?_) (fun hc h1 => ?_)
 iterate 3 refine k1 ?_
 refine pkt ?_
 refine pa (nx ?_)
 cases h1
 exact wk [0,1,2]
 refine fa1 tok ?_
 refine ld1 tok ?_
 refine rp rfl (w1 rfl rfl rfl) rfl (gO rfl rfl) (pkf ?_)
 refine pa (nx ?_)
 cases h1
 exact wk [0,1,2]
 refine bP h0 rfl (fun hc h0 => ?_) (fun hc h0 => ?_)
 refine sq [0] (pa (nx (aD ?_)))
 refine bG (aT ?_)
 cases h0
 exact r0t 4 rfl
 refine cW (bB (aH (sq [0] (pa (nx (aD ?_))))))
 cases h0
 exact r0t 4 rfl
theorem aDn {p0 p1 p2 : Int} {r : aDb} (h0 : oC p0 p1 p2 = some r) : FnC Tryz.prog 216 [] [dI p0,(dI p1),(dI p2)] [] (.agg [dL cI r.products, .d (.mp r.lists)]) := by
 obtain ⟨q0,h0⟩ := dM h0
 cases h0
 exact aT0 q0
theorem sF {p0 : Int} {r : Bool} (h0 : iO p0 = some r) : FnC Tryz.prog 259 [] [dI p0] [] (dB r) := by
 refine fi 6 tok Tryz.func259 ?_
 unfold iO at h0
 refine sq [0] (pa (nx (sq [0,1,2,3] ?_)))
 refine pm ?_
 refine pm ?_
 refine rP rfl (eB rfl rfl) (pa (nx (aD ?_)))
 cases h0
 exact r0t 2 rfl
theorem gM {p0 : Int} {p1 : Int} {r : Int} (h0 : dT p0 p1 = some r) : FnC Tryz.prog 219 [] [dI p0,(dI p1)] [] (dI r) := by
 refine fi 20 tok Tryz.func219 ?_
 unfold dT at h0
 refine sq [0] (pa (nx (sq [0,1,2] ?_)))
 refine pm ?_
 obtain ⟨v1,hv1,h0⟩ := bnd h0
 refine rS rfl (aM 3 (sF hv1) rfl rfl rfl) (pa (nx (sq [0,1,2] ?_)))
 refine pm ?_
 obtain ⟨v2,hv2,h0⟩ := bnd h0
 refine rS rfl (aM 3 (sF hv2) rfl rfl rfl) (pa (nx (aE (sq [0] ?_))))
 refine pm (nx ?_)
 refine bP h0 rfl (fun hc h0 => ?_) (fun hc h0 => ?_)
 refine aE (sq [0] (pm (nx ?_)))
 refine bP h0 rfl (fun hc h0 => ?_) (fun hc h0 => ?_)
 refine sq [0] (pa (nx (aD (aT (aT ?_)))))
 cases h0
 exact r0t 4 rfl
 refine sk (sq [0] (pa (nx (aD (aT ?_)))))
 cases h0
 exact r0t 4 rfl
 refine sk (aE (sq [0] (pm (nx ?_))))
 refine bP h0 rfl (fun hc h0 => ?_) (fun hc h0 => ?_)
 refine sq [0] (pa (nx (aD (aT ?_))))
 cases h0
 exact r0t 4 rfl
 refine sk (aE (sq [0,1,2] (pm ?_)))
 refine pm ?_
 refine rP rfl (bK rfl rfl) (nx ?_)
 refine bR h0 rfl (fun hc h0 => ?_) (fun hc h0 => ?_)
 refine sq [0] (pa (nx (aD (aT ?_))))
 cases h0
 exact r0t 4 rfl
 refine sk (aE (sq [0,1,2] (pm ?_)))
 refine pm ?_
 refine rP rfl (gO rfl rfl) (nx ?_)
 refine bR h0 rfl (fun hc h0 => ?_) (fun hc h0 => ?_)
 refine sq [0] (pa (nx (aD (aT ?_))))
 cases h0
 exact r0t 4 rfl
 refine sk (sq [0] (pa (nx (aD ?_))))
 cases h0
 exact r0t 4 rfl
theorem uO {p0 : Int} {p1 : Int} {p2 : aA} {r : Int} (h0 : iP p0 p1 p2 = some r) : FnC Tryz.prog 218 [] [dI p0,(dI p1), .ref (iM p2)] [] (dI r) := by
 refine fi 15 tok Tryz.func218 ?_
 unfold iP at h0
 refine sq [0] (pa (nx (sq [0,1,2,3,4,5,6,7,8,9] ?_)))
 refine pm ?_
 refine fr tok ?_
 refine lr tok ?_
 refine rP rfl (eG rfl rfl) (pm ?_)
 refine fr tok ?_
 refine lr tok ?_
 refine rP rfl (eG rfl rfl) ?_
 obtain ⟨v1,hv1,h0⟩ := bnd h0
 refine rS rfl (aM 3 (gM hv1) rfl rfl rfl) (pa (nx (aD ?_)))
 cases h0
 exact r0t 5 rfl
theorem fJ {p0 : List Int} {p1 : Int} {p2_0 : aA} {r : Int × Bool} (h0 : bH p0 p1 p2_0 = some r) : FnC Tryz.prog 217 [] [dL cI p0,(dI p1), .fn 218 [.ref (iM p2_0)]] [] (.tup [dI r.1,(dB r.2)]) := by
 refine fi 49 tok Tryz.func217 ?_
 unfold bH at h0
 refine sq [0,1] (pa ?_)
 refine pa (nx (sq [0,1,2] ?_))
 refine pm ?_
 refine rP rfl (aL tok rfl rfl rfl) (pa (nx (sq [0,1,2] ?_)))
 refine pm ?_
 refine pa ?_
 refine pa (nx ?_)
 obtain ⟨v9,h1,h0⟩ := bnd h0
 refine bC ⟨aB (aB (aB (aB (aB ((fun _ => .dead)) 0 (dL cI p0)) 1 (dI p1)) 2 (.fn 218 [.ref (iM p2_0)])) 8 (dI (p0.length : Int))) 9 (dI v9),lks [.no, .no, .no]⟩ ?_ ?_
 refine aG ?_
 refine aZ (fun s5 => ⟨aB (aB (aB (aB (aB (aB ((fun _ => .dead)) 0 (dL cI p0)) 1 (dI p1)) 2 (.fn 218 [.ref (iM p2_0)])) 8 (dI (p0.length : Int))) 9 (dI s5.1)) 10 (dI s5.2),lks [.no, .no, .no]⟩) h1 ?_ (fun s5 y h2 => ?_)
 exact wk [0,1,2]
 refine aE (sq [0,1,2] (pm ?_))
 refine pm ?_
 refine rP rfl (bK rfl rfl) (nx ?_)
 refine bR h2 rfl (fun hc h2 => ?_) (fun hc h2 => ?_)
 refine sk (aG (sq [0,1,2,3,4,5,6] (pm ?_)))
 refine pm ?_
 refine rP rfl (bN rfl rfl) (rP rfl (aG0 tok rfl rfl rfl rfl rfl) (rP rfl (aQ6 rfl rfl (by decide)) (rP rfl (aG1 tok rfl rfl rfl rfl rfl) (pa (nx (sq [0,1,2,3,4,5,6,7] ?_))))))
 refine rP rfl (aF (r := .fn _ _) rfl) (pm ?_)
 refine pm ?_
 obtain ⟨v7,hv7,h2⟩ := bnd h2
 refine rP rfl (cO tok hv7 rfl rfl rfl rfl rfl rfl) (lr tok ?_)
 refine pm ?_
 obtain ⟨v8,hv8,h2⟩ := bnd h2
 refine rS rfl (aM 3 (uO hv8) rfl rfl rfl) (rP rfl (bK rfl rfl) (nx ?_))
 refine bR h2 rfl (fun hc h2 => ?_) (fun hc h2 => ?_)
 refine sr [0,1,2] (pm ?_)
 refine rP rfl (bN rfl rfl) (pa (aX ?_))
 refine bB (cB ?_)
 cases h2
 refine ⟨_,rfl,?_⟩
 exact wk [0,1,2]
 refine sr [0,1] (pm ?_)
 refine pa (aX ?_)
 refine bB (cB ?_)
 cases h2
 refine ⟨_,rfl,?_⟩
 exact wk [0,1,2]
 refine bI (cC ?_)
 cases h2
 refine cD ⟨_,rfl,fun e => ?_⟩
 subst e
 refine aU (aH ?_)
 exact wk [0,1,2]
 refine sq [0,1,2,3,4,5,6,7,8,9,10,11,12,13,14,15] ?_
 iterate 3 refine pm ?_
 refine rP rfl (bK rfl rfl) (pm ?_)
 refine fI (u := 39) h0 rfl (fun hc h0 => ?_) (fun hc h0 => ?_)
 refine rp rfl (w1 rfl rfl rfl) rfl (aF (r := .fn _ _) rfl) (pm1 ?_)
 refine pm1 ?_
 obtain ⟨v10,hv10,h0⟩ := bnd h0
 refine rp rfl (w1 rfl rfl rfl) rfl (cO tok hv10 rfl rfl rfl rfl rfl rfl) (lr1 tok ?_)
 refine pm1 ?_
 obtain ⟨v11,hv11,h0⟩ := bnd h0
 refine rs rfl (w1 rfl rfl rfl) rfl (aM 3 (uO hv11) rfl rfl rfl) (rp rfl (w1 rfl rfl rfl) rfl (iT rfl rfl) (pkt ?_))
 refine pa ?_
 refine pa (nx (aD ?_))
 cases h0
 exact eI (rs := [.tmp 6, .tmp 7]) rfl
 iterate 8 refine k1 ?_
 refine pkf ?_
 refine pa ?_
 refine pa (nx (aD ?_))
 cases h0
 exact eI (rs := [.tmp 6, .tmp 7]) rfl
theorem aBn {p0 : Int} {r : Int} (h0 : tG p0 = some r) : FnC Tryz.prog 78 [] [dI p0] [] (dI r) := by
 refine fi 8 tok Tryz.func78 ?_
 unfold tG at h0
 refine sq [0] (pa (nx (aE (sq [0,1] ?_))))
 refine pm ?_
 refine rP rfl (bK rfl rfl) (nx ?_)
 refine bR h0 rfl (fun hc h0 => ?_) (fun hc h0 => ?_)
 refine sq [0,1,2] (pm ?_)
 refine rP rfl (uT rfl) (pa (nx (aD (aT ?_))))
 cases h0
 exact r0t 2 rfl
 refine sk (sq [0,1] (pm ?_))
 refine pa (nx (aD ?_))
 cases h0
 exact r0t 2 rfl
theorem aLa {p0 : Int} {p1 : Int} {p2 : aA} {r : kA} (h0 : vH p0 p1 p2 = some r) : FnC Tryz.prog 220 [] [dI p0,(dI p1), .agg [dI p2.Num,(dI p2.Den)]] [] (.agg [dI r.p,(dI r.q),(dI r.far)]) := by
 refine fi 20 tok Tryz.func220 ?_
 unfold vH at h0
 refine sq [0,1] (bxx 3 ?_)
 refine al 4 [z0,z0,z0] tok (nx (sq [0,1,2,3,4,5,6,7,8,9,10,11,12,13] ?_))
 iterate 3 refine pm ?_
 refine fa tok ?_
 refine ld tok ?_
 refine rP rfl (eG rfl rfl) (pm ?_)
 refine fa tok ?_
 refine ld tok ?_
 refine rP rfl (eG rfl rfl) (rP rfl (hY rfl rfl) ?_)
 obtain ⟨v1,hv1,h0⟩ := bnd h0
 refine rS rfl (aM 5 (aBn hv1) rfl rfl rfl) (rP rfl (pbl (C0 := [z0,z0,z0]) tok rfl rfl rfl) (bst tok (nx (aD ?_))))
 cases h0
 exact eI (rs := [.cell 6 252]) rfl
theorem wC {p0 : kA} {p1 : kA} {r : Int} (h0 : gB p0 p1 = some r) : FnC Tryz.prog 221 [] [.agg [dI p0.p,(dI p0.q),(dI p0.far)], .agg [dI p1.p,(dI p1.q),(dI p1.far)]] [] (dI r) := by
 refine fi 16 tok Tryz.func221 ?_
 unfold gB at h0
 refine sq [0,1,2] (bxx 3 ?_)
 refine bxx 4 ?_
 refine pa (nx (sq [0,1,2,3,4,5,6,7,8,9,10,11] ?_))
 refine fa tok ?_
 refine ld tok ?_
 refine fa tok ?_
 refine ld tok ?_
 refine rP rfl (eG rfl rfl) (fa tok ?_)
 refine ld tok ?_
 refine fa tok ?_
 refine ld tok ?_
 refine rP rfl (eG rfl rfl) ?_
 obtain ⟨v1,hv1,h0⟩ := bnd h0
 refine rS rfl (aM 5 (gM hv1) rfl rfl rfl) (pa (nx (aD ?_)))
 cases h0
 exact r0t 4 rfl
theorem gT {p0 : List Int} {r : List Int} (h0 : cN p0 = some r) : FnC Tryz.prog 130 [] [dL cI p0] [.live [⟨2,1, .data (List.map cI r)⟩]] (.own 0 0 r.length) := by
 refine fi 8 tok Tryz.func130 ?_
 unfold cN at h0
 obtain ⟨hq1,h0⟩ := dM h0
 cases h0
 refine aAl (d := 0) rfl rfl (fun hne => ?_) (fun he A k hk => ?_)
 ·skip
  refine aE (bT (is := [0]) rfl (rP rfl (aR (r := .d _) rfl) (aX (aH (aE (aE (bT (is := [0,1]) rfl (rP rfl (aF (r := .d _) rfl) (rP rfl (rE tok rfl hne rfl rfl rfl) (aX (aH (pA rfl (cW (aH (aE (bT (is := [0,1,2,3]) rfl (rS rfl (eM 3 tok rfl rfl rfl rfl) (rP rfl (aF (r := .d _) rfl) (rw1 rfl w0 rfl (fL tok hq1 rfl rfl rfl rfl rfl rfl rfl rfl rfl rfl rfl rfl (fun _ => rfl)) (rP rfl (aR (r := .own _ _ _) rfl) (aX (aH (aD ?_)))))))))))))))))))))))
  exact eK (rs := [.tmp 2]) [3] rfl
 ·skip
  have he : p0 = [] := List.map_eq_nil_iff.1 he
  subst he
  cases A with
  | none =>
   refine aE (bT (is := [0]) rfl (rP rfl (aR (r := .d _) rfl) (aX (aH (aE (aE (bT (is := [0,1]) rfl (rP rfl (aF (r := .d _) rfl) (rP rfl (kO tok rfl rfl rfl rfl) (aX (aH (wX rfl (aE (bT (is := [0]) rfl (rP rfl (aR (r := .d _) rfl) (aX (aH (cM (dE 3 rfl 2 1 (d := 2) rfl) (aD (aT ?_))))))))))))))))))))
   exact eK (rs := [.tmp 2]) [3] rfl
  | some a =>
   refine aE (bT (is := [0]) rfl (rP rfl (aR (r := .d _) rfl) (aX (aH (aE (aE (bT (is := [0,1]) rfl (rP rfl (aF (r := .d _) rfl) (rP rfl (kO tok rfl rfl rfl rfl) (aX (aH (pA rfl (cW (aH (cM (yN cI (d := 0) rfl hk) (aE (bT (is := [0,1,2,3]) rfl (rS rfl (eM 3 tok rfl rfl rfl rfl) (rP rfl (aF (r := .d _) rfl) (rw1 rfl w0 rfl (fL tok hq1 rfl rfl rfl rfl rfl rfl rfl rfl rfl rfl rfl rfl (fun _ => rfl)) (rP rfl (aR (r := .own _ _ _) rfl) (aX (aH (aD ?_))))))))))))))))))))))))
   exact eK (rs := [.tmp 2]) [3] rfl
theorem oQ {p0 : List Int} {r : List Int} (h0 : eF p0 = some r) : FnC Tryz.prog 260 [.live [⟨2,1, .data (List.map cI p0)⟩]] [.own 0 0 (p0).length] [.live [⟨2,1, .data (List.map cI r)⟩]] (.tup []) := by
 refine fi 28 tok Tryz.func260 ?_
 unfold eF at h0
 refine sq [0,1,2,3,4] (rP rfl (aF (r := .own _ _ _) rfl) (rL rfl (rC tok rfl rfl rfl rfl rfl) (rP rfl (hY rfl rfl) (pa ?_))))
 refine pa (nx (aG ?_))
 refine aZ (fun s6 => ⟨aB (aB (aB ((fun _ => .dead)) 0 (.own 0 0 (s6.2.2).length)) 2 (dI s6.1)) 3 (dI s6.2.1),lks [.live [⟨2,1, .data (List.map cI s6.2.2)⟩], .no, .no]⟩) h0 ?_ (fun s6 y h1 => ?_)
 exact wk [0,1,2]
 refine aE (sq [0,1,2] (pm ?_))
 refine pm ?_
 refine rP rfl (bK rfl rfl) (nx ?_)
 refine bR h1 rfl (fun hc h1 => ?_) (fun hc h1 => ?_)
 refine sk (aE (aG (aK (is := [0,1,2,3,4,5,6,7,8,9,10,11,12,13,14,15]) [0,0,0,0,0,0,48,112,0,0,768,1792,4083,8179,16383,32767] follows (by kernel_rfl) (tP rfl (aF (r := .own _ _ _) rfl) (tpm ?_)))))
 refine tP rfl (aF (r := .own _ _ _) rfl) (tpm ?_)
 refine tP rfl (aF (r := .own _ _ _) rfl) (tpm ?_)
 obtain ⟨v7,hv7,h1⟩ := bnd h1
 refine dG rfl w0 rfl (jU tok hv7 rfl rfl rfl rfl rfl rfl rfl rfl) rfl rfl rfl (dG rfl w0 rfl (lK tok (gV hv7).2.1 rfl rfl rfl rfl rfl rfl) rfl rfl rfl (tP rfl (aF (r := .own _ _ _) rfl) (tpm ?_)))
 obtain ⟨v8,hv8,h1⟩ := bnd h1
 refine dG rfl w0 rfl (jU tok hv8 rfl rfl rfl rfl rfl rfl rfl rfl) rfl rfl rfl (dG rfl w0 rfl (lK tok (gV hv8).2.1 rfl rfl rfl rfl rfl rfl) rfl rfl rfl ?_)
 obtain ⟨v9,hv9,h1⟩ := bnd h1
 refine dG rfl w0 rfl (jU tok hv9 rfl rfl rfl rfl rfl rfl rfl rfl) rfl rfl rfl (qH rfl w0 (aIx (cs := [.d _]) tok v7 (gV hv9).2.1 rfl rfl rfl rfl rfl rfl rfl rfl) ?_)
 obtain ⟨v10,hv10,h1⟩ := bnd h1
 refine dG rfl w0 rfl (jU tok hv10 rfl rfl rfl rfl rfl rfl (by first | (simp; done) | omega | (simp; omega)) rfl) rfl rfl rfl (qH rfl w0 (aIx (cs := [.d _]) tok v8 (gV hv10).2.1 rfl rfl rfl rfl rfl rfl rfl (by first | (simp; done) | omega | (simp; omega))) (bS ?_))
 refine ⟨by kernel_rfl,?_⟩
 refine bB (aH (sr [0,1,2,3,4,5] (pm ?_)))
 refine rP rfl (bN rfl rfl) (pm ?_)
 refine rP rfl (hY rfl rfl) (pa ?_)
 refine pa (aX ?_)
 refine cB ?_
 cases h1
 refine ⟨_,rfl,?_⟩
 exact wk [0,1,2]
 refine bI (cC ?_)
 cases h1
 refine cD ⟨_,rfl,fun e => ?_⟩
 subst e
 refine aU ?_
 exact aB7 (rs := []) 1 rfl rfl
theorem aLb {p0 : List Int} {p1 : List Int} {r : List bE} (h0 : vI p0 p1 = some r) : FnC Tryz.prog 261 [] [dL cI p0,(dL cI p1)] [.live [⟨121,2, .data (List.map bW r)⟩]] (.own 0 0 r.length) := by
 refine fi 26 tok Tryz.func261 ?_
 unfold vI at h0
 refine sq [0] (pa (nx (sq [0] ?_)))
 refine pa (nx ?_)
 obtain ⟨v9,h1,h0⟩ := bnd h0
 refine bC ⟨aB ((fun _ => .dead)) 5 (.own 3 0 (v9).length),lks [.no, .no, .no, .live [⟨121,2, .data (List.map bW v9)⟩]]⟩ ?_ ?_
 refine sq [0,1,2] (pm ?_)
 refine rP rfl (aL tok rfl rfl rfl) (pm (nx (aG ?_)))
 refine aZ (fun s5 => ⟨aB (aB (aB (aB (aB ((fun _ => .dead)) 0 (dL cI p0)) 1 (dL cI p1)) 5 (.own 3 0 (s5.2).length)) 8 (dI (p0.length : Int))) 9 (dI s5.1),lks [.no, .no, .no, .live [⟨121,2, .data (List.map bW s5.2)⟩]]⟩) h1 ?_ (fun s5 y h2 => ?_)
 refine lO.trans_ (dE 3 rfl 121 2 (d := 5) rfl) ?_
 exact wk [0,1,2,3]
 refine sq [0] (rP rfl (bK rfl rfl) (nx (aE ?_)))
 refine bR h2 rfl (fun hc h2 => ?_) (fun hc h2 => ?_)
 refine sk (aE (aG (sq [0,1] (pm ?_))))
 refine pa (nx ?_)
 refine aK (is := [0,1,2,3,4,5,6,7,8,9,10,11,12]) [0,0,0,6,14,0,0,96,224,510,1022,2047,4095] follows (by kernel_rfl) (tP rfl (aF (r := .own _ _ _) rfl) (tpm ?_))
 refine tpm ?_
 obtain ⟨v6,hv6,h2⟩ := bnd h2
 refine tP rfl (cO tok hv6 rfl rfl rfl rfl rfl rfl) (tlr tok ?_)
 refine tpm ?_
 refine tpm ?_
 obtain ⟨v7,hv7,h2⟩ := bnd h2
 refine tP rfl (cO tok hv7 rfl rfl rfl rfl rfl rfl) (tlr tok ?_)
 refine tP rfl (pbl (C0 := [z0,z0]) tok rfl rfl rfl) (aSh rfl w0 rfl (jV tok bW [(⟨v6,v7⟩ : bE)] rfl rfl rfl (by repeat (first | exact Els.nil _ | apply Els.cons (cs := [.d _]) rfl rfl rfl | apply Els.cons (cs := _ :: _) rfl rfl rfl)) rfl rfl rfl (by repeat (first | exact cH.nil | (apply cH.cons; (repeat (first | exact fA.nil | apply fA.cons))))) rfl) ?_)
 obtain ⟨hq8,h2⟩ := dM h2
 refine yB rfl w0 rfl (fL tok hq8 rfl rfl rfl rfl rfl rfl rfl rfl rfl rfl rfl rfl (fun _ => rfl)) (tP rfl (aR (r := .own _ _ _) rfl) (bS ?_))
 refine ⟨by kernel_rfl,?_⟩
 refine bB (aH (sr [0,1] (rP rfl (bN rfl rfl) (pm (aX ?_)))))
 refine cB ?_
 cases h2
 refine ⟨_,rfl,?_⟩
 exact wk [0,1,2,3]
 refine bI (cC ?_)
 cases h2
 refine cD ⟨_,rfl,fun e => ?_⟩
 subst e
 refine aU (aH ?_)
 exact wk [0,1,2,3]
 refine sq [0,1] (rP rfl (aF (r := .own _ _ _) rfl) (rP rfl (aR (r := .own _ _ _) rfl) (nx (aD ?_))))
 cases h0
 exact eK (rs := [.tmp 4]) [3] rfl
theorem aEt {p0 : List Int} {p1 : List Int} {r : List bE} (h0 : jD p0 p1 = some r) : FnC Tryz.prog 222 [] [dL cI p0,(dL cI p1)] [.live [⟨121,2, .data (List.map bW r)⟩]] (.own 0 0 r.length) := by
 refine fi 13 tok Tryz.func222 ?_
 unfold jD at h0
 refine sq [0] (pa (nx (sq [0,1,2] ?_)))
 refine pm ?_
 obtain ⟨v1,hv1,h0⟩ := bnd h0
 refine rS rfl (aM 3 (gT hv1) rfl rfl rfl) (rP rfl (aR (r := .own _ _ _) rfl) (nx (sq [0,1] (rP rfl (aF (r := .own _ _ _) rfl) ?_))))
 obtain ⟨v2,hv2,h0⟩ := bnd h0
 obtain ⟨hq3,h0⟩ := dM h0
 refine rw1 rfl w0 rfl (gK [3] 300 (oQ hv2) rfl rfl) (nx (sq [0,1,2,3] (rP rfl (aF (r := .own _ _ _) rfl) (pm ?_))))
 obtain ⟨v4,hv4,h0⟩ := bnd h0
 refine rS rfl (fU 4 (aLb hv4) rfl rfl) (rP rfl (aR (r := .own _ _ _) rfl) (nx (aD ?_)))
 cases h0
 exact eK (rs := [.tmp 4]) [4] rfl
theorem aBv {p0 : List bE} {r : Int} (h0 : lY p0 = some r) : FnC Tryz.prog 262 [] [dL bW p0] [] (dI r) := by
 refine fi 21 tok Tryz.func262 ?_
 unfold lY at h0
 refine sq [0] (pa (nx (sq [0] ?_)))
 refine pa (nx ?_)
 obtain ⟨v5,h1,h0⟩ := bnd h0
 refine bC ⟨aB ((fun _ => .dead)) 3 (dI v5),lks [.no, .no, .no]⟩ ?_ ?_
 refine sq [0,1,2] (pm ?_)
 refine rP rfl (aL tok rfl rfl rfl) (pm (nx (aG ?_)))
 refine aZ (fun s3 => ⟨aB (aB (aB (aB ((fun _ => .dead)) 3 (dI s3.1)) 6 (dL bW p0)) 7 (dI (p0.length : Int))) 8 (dI s3.2),lks [.no, .no, .no]⟩) h1 ?_ (fun s3 y h2 => ?_)
 exact wk [0,1,2]
 refine sq [0] (rP rfl (bK rfl rfl) (nx (aE ?_)))
 refine bR h2 rfl (fun hc h2 => ?_) (fun hc h2 => ?_)
 refine sk (aE (aG (sq [0,1,2,3] ?_)))
 obtain ⟨v4,hv4,h2⟩ := bnd h2
 refine rP rfl (cO tok hv4 rfl rfl rfl rfl rfl rfl) (rP rfl (bU tok rfl rfl rfl (by repeat (first | exact lN.z _ | apply lN.t))) (al 3 [z0,z0] tok ?_))
 refine bst tok (nx (sr [0,1,2,3,4,5,6,7] ?_))
 refine pm ?_
 refine fa tok ?_
 refine ld tok ?_
 refine fa tok ?_
 refine ld tok ?_
 refine rP rfl (bN rfl rfl) (rP rfl (bN rfl rfl) (pa (aX ?_)))
 refine bB (aH (sr [0,1] (rP rfl (bN rfl rfl) (pm (aX ?_)))))
 refine cB ?_
 cases h2
 refine ⟨_,rfl,?_⟩
 exact wk [0,1,2]
 refine bI (cC ?_)
 cases h2
 refine cD ⟨_,rfl,fun e => ?_⟩
 subst e
 refine aU (aH ?_)
 exact wk [0,1,2]
 refine sq [0,1] (pm ?_)
 refine pa (nx (aD ?_))
 cases h0
 exact r0t 2 rfl
theorem aGc {p0 : List Int} {r : Int} (h0 : mK p0 = some r) : FnC Tryz.prog 265 [] [dL cI p0] [] (dI r) := by
 refine fi 18 tok Tryz.func265 ?_
 unfold mK at h0
 refine sq [0] (pa (nx (sq [0] ?_)))
 refine pa (nx ?_)
 obtain ⟨v5x,h1,h0⟩ := bnd h0
 refine eN v5x (fun v5 => ⟨aB ((fun _ => .dead)) 3 (z0),lks [.no, .no, .no]⟩) ?_ ?_
 refine sq [0,1,2] (pm ?_)
 refine rP rfl (aL tok rfl rfl rfl) (pm (nx (aG ?_)))
 refine aZ (fun s3 => ⟨aB (aB (aB (aB ((fun _ => .dead)) 3 (z0)) 6 (dL cI p0)) 7 (dI (p0.length : Int))) 8 (dI s3),lks [.no, .no, .no]⟩) h1 ?_ (fun s3 y h2 => ?_)
 exact wk [0,1,2]
 refine sq [0] (rP rfl (bK rfl rfl) (nx (aE ?_)))
 refine bR h2 rfl (fun hc h2 => ?_) (fun hc h2 => ?_)
 refine sk (aE (aG (sq [0,1,2] ?_)))
 obtain ⟨v4,hv4,h2⟩ := bnd h2
 refine rP rfl (cO tok hv4 rfl rfl rfl rfl rfl rfl) (lr tok ?_)
 refine pa (nx (sq [0,1,2] ?_))
 refine pm ?_
 refine pm ?_
 refine rP rfl (eB rfl rfl) (nx ?_)
 refine bR h2 rfl (fun hc h2 => ?_) (fun hc h2 => ?_)
 refine sq [0,1] (pm ?_)
 refine pa (nx (aD ?_))
 refine bG (aT ?_)
 cases h2
 refine fC ⟨_,rfl,fun e => ?_⟩
 subst e
 refine bG ?_
 replace h0 := jF h0
 refine aT ?_
 cases h0
 exact r0t 2 rfl
 refine cW (bB (aH (sr [0,1] (rP rfl (bN rfl rfl) (pm (aX ?_))))))
 refine cB ?_
 cases h2
 refine ⟨_,rfl,?_⟩
 exact wk [0,1,2]
 refine bI (cC ?_)
 cases h2
 refine cD ⟨_,rfl,fun e => ?_⟩
 subst e
 refine aU (aH ?_)
 refine ⟨_,rfl,?_⟩
 exact wk [0,1,2]
 rintro v5 rfl
 replace h0 := lZ h0
 refine sq [0,1] (pm ?_)
 refine pa (nx (aD ?_))
 cases h0
 exact r0t 2 rfl
theorem wM {p0 : bE} {p1 : bE} {r : Int} (h0 : eO p0 p1 = some r) : FnC Tryz.prog 264 [] [.agg [dI p0.Driver,(dI p0.Driven)], .agg [dI p1.Driver,(dI p1.Driven)]] [] (dI r) := by
 refine fi 17 tok Tryz.func264 ?_
 unfold eO at h0
 refine sq [0,1,2] (bxx 3 ?_)
 refine bxx 4 ?_
 refine pa (nx (aE ?_))
 refine aK (is := [0,1,2,3,5,6,7,8,4,9,10,11,12]) [0,1,0,4,15,0,32,0,128,511,1023,2047,4095] follows (by kernel_rfl) (tfa tok ?_)
 refine tld tok ?_
 refine tfa tok ?_
 refine tld tok ?_
 refine tfa tok ?_
 refine tld tok ?_
 refine tfa tok ?_
 refine tld tok ?_
 obtain ⟨v1,hv1,h0⟩ := bnd h0
 refine mS rfl w0 rfl (dF 6 (gM hv1) rfl rfl rfl) ?_
 obtain ⟨v2,hv2,h0⟩ := bnd h0
 refine mS rfl w0 rfl (dF 6 (gM hv2) rfl rfl rfl) (aAx rfl w0 rfl rfl (fun hx hk => vY 5 tok cI [v1,v2] rfl rfl rfl (by repeat (first | exact Els.nil _ | apply Els.cons (cs := [.d _]) rfl rfl rfl | apply Els.cons (cs := _ :: _) rfl rfl rfl)) rfl rfl rfl (by repeat (first | exact cH.nil | (apply cH.cons; (repeat (first | exact fA.nil | apply fA.cons))))) rfl hk) ?_)
 obtain ⟨v3,hv3,h0⟩ := bnd h0
 refine mS rfl w0 rfl (dF 6 (aGc hv3) rfl rfl rfl) (tpa ?_)
 refine bS ?_
 refine ⟨by kernel_rfl,?_⟩
 refine aH (aD ?_)
 cases h0
 exact r0t 4 rfl
theorem fD {p0 : List bE} {p1 : List bE} {r : Int} (h0 : bA p0 p1 = some r) : FnC Tryz.prog 263 [] [dL bW p0,(dL bW p1), .fn 264 []] [] (dI r) := by
 refine fi 39 tok Tryz.func263 ?_
 unfold bA at h0
 refine sq [0] (pa (nx ?_))
 obtain ⟨v9x,h1,h0⟩ := bnd h0
 refine eN v9x (fun v9 => ⟨aB (aB ((fun _ => .dead)) 0 (dL bW p0)) 1 (dL bW p1),lks [.no, .no, .no]⟩) ?_ ?_
 refine sq [0,1,2] (pm ?_)
 refine rP rfl (aL tok rfl rfl rfl) (pm (nx (aG ?_)))
 refine aZ (fun s5 => ⟨aB (aB (aB (aB (aB (aB ((fun _ => .dead)) 0 (dL bW p0)) 1 (dL bW p1)) 2 (.fn 264 [])) 11 (dL bW p0)) 12 (dI (p0.length : Int))) 13 (dI s5),lks [.no, .no, .no]⟩) h1 ?_ (fun s5 y h2 => ?_)
 exact wk [0,1,2]
 refine sq [0] (rP rfl (bK rfl rfl) (nx (aE ?_)))
 refine bR h2 rfl (fun hc h2 => ?_) (fun hc h2 => ?_)
 refine sk (aE (aG (sq [0,1,2,3,4,5] (pm ?_))))
 obtain ⟨v6,hv6,h2⟩ := bnd h2
 refine rP rfl (cO tok hv6 rfl rfl rfl rfl rfl rfl) (rP rfl (bU tok rfl rfl rfl (by repeat (first | exact lN.z _ | apply lN.t))) (al 3 [z0,z0] tok ?_))
 refine pa ?_
 refine bst tok (nx (aE (sq [0,1,2,3] ?_)))
 refine pm ?_
 refine pm ?_
 refine rP rfl (aL tok rfl rfl rfl) (rP rfl (rF rfl rfl) (nx ?_))
 refine bR h2 rfl (fun hc h2 => ?_) (fun hc h2 => ?_)
 refine sq [0] (pa (nx (aD (aT ?_))))
 refine bG (aT ?_)
 cases h2
 refine fC ⟨_,rfl,fun e => ?_⟩
 subst e
 refine bG ?_
 replace h0 := jF h0
 refine aT ?_
 cases h0
 exact r0t 6 rfl
 refine sk (sq [0,1,2,3,4,5] (pm ?_))
 refine pm ?_
 obtain ⟨v7,hv7,h2⟩ := bnd h2
 refine rP rfl (cO tok hv7 rfl rfl rfl rfl rfl rfl) (rP rfl (bU tok rfl rfl rfl (by repeat (first | exact lN.z _ | apply lN.t))) (al 4 [z0,z0] tok ?_))
 refine bst tok (nx (sq [0,1,2,3,4] ?_))
 refine rP rfl (aF (r := .fn _ _) rfl) (rL rfl (aW tok rfl rfl rfl rfl) (rL rfl (aW tok rfl rfl rfl rfl) ?_))
 obtain ⟨v8,hv8,h2⟩ := bnd h2
 refine rS rfl (aM 5 (wM hv8) rfl rfl rfl) (pa (nx (sq [0,1] ?_)))
 refine pm ?_
 refine rP rfl (eB rfl rfl) (nx ?_)
 refine bR h2 rfl (fun hc h2 => ?_) (fun hc h2 => ?_)
 refine sq [0,1] (pm ?_)
 refine pa (nx (aD ?_))
 refine bG (aT ?_)
 cases h2
 refine fC ⟨_,rfl,fun e => ?_⟩
 subst e
 refine bG ?_
 replace h0 := jF h0
 refine aT ?_
 cases h0
 exact r0t 6 rfl
 refine cW (bB (aH (sr [0,1] (rP rfl (bN rfl rfl) (pm (aX ?_))))))
 refine cB ?_
 cases h2
 refine ⟨_,rfl,?_⟩
 exact wk [0,1,2]
 refine bI (cC ?_)
 cases h2
 refine cD ⟨_,rfl,fun e => ?_⟩
 subst e
 refine aU (aH ?_)
 refine ⟨_,rfl,?_⟩
 exact wk [0,1,2]
 rintro v9 rfl
 replace h0 := lZ h0
 refine aE (sq [0,1,2,3,4] (pm ?_))
 refine rP rfl (aL tok rfl rfl rfl) (pm ?_)
 refine rP rfl (aL tok rfl rfl rfl) (rP rfl (bK rfl rfl) (nx ?_))
 refine bR h0 rfl (fun hc h0 => ?_) (fun hc h0 => ?_)
 refine sq [0] (pa (nx (aD (aT ?_))))
 cases h0
 exact r0t 6 rfl
 refine sk (sq [0] (pa (nx (aD ?_))))
 cases h0
 exact r0t 6 rfl
theorem yX {p0 : List bE} {p1 : List bE} {r : Int} (h0 : iQ p0 p1 = some r) : FnC Tryz.prog 223 [] [dL bW p0,(dL bW p1)] [] (dI r) := by
 refine fi 17 tok Tryz.func223 ?_
 unfold iQ at h0
 refine sq [0] (pa (nx (aE (sq [0,1,2,3,4,5] ?_))))
 refine pm ?_
 obtain ⟨v1,hv1,h0⟩ := bnd h0
 refine rS rfl (aM 3 (aBv hv1) rfl rfl rfl) (pm ?_)
 obtain ⟨v2,hv2,h0⟩ := bnd h0
 refine rS rfl (aM 3 (aBv hv2) rfl rfl rfl) ?_
 obtain ⟨v3,hv3,h0⟩ := bnd h0
 refine rS rfl (aM 3 (gM hv3) rfl rfl rfl) (pa (nx (sq [0,1] ?_)))
 refine pm ?_
 refine rP rfl (eB rfl rfl) (nx ?_)
 refine bR h0 rfl (fun hc h0 => ?_) (fun hc h0 => ?_)
 refine sq [0,1] (pm ?_)
 refine pa (nx (aD (aT ?_)))
 cases h0
 exact r0t 4 rfl
 refine sk (sq [0,1,2,3] (pm ?_))
 refine pm ?_
 obtain ⟨v4,hv4,h0⟩ := bnd h0
 refine rS rfl (aM 3 (fD hv4) rfl rfl rfl) (pa (nx (aD ?_)))
 cases h0
 exact r0t 4 rfl
theorem aEs {p0 : aA} {p1 : iD} {r : List bE} (h0 : kM p0 p1 = some r) : FnC Tryz.prog 147 [] [.agg [dI p0.Num,(dI p0.Den)], .agg [dI p1.LowDriver,(dI p1.HighDriver),(dI p1.LowDriven),(dI p1.HighDriven),(dI p1.Stages)]] [] (dL bW r) := by
 refine fi 143 tok Tryz.func147 ?_
 unfold kM at h0
 refine sq [0,1,2] (bxx 3 ?_)
 refine bxx 4 ?_
 refine pa (nx (sq [0,1,2,3,4,5,6,7,8] ?_))
 refine fa tok ?_
 refine ld tok ?_
 refine fa tok ?_
 refine ld tok ?_
 refine fa tok ?_
 refine ld tok ?_
 obtain ⟨v1,hv1,h0⟩ := bnd h0
 refine rS rfl (aM 5 (aDn hv1) rfl rfl rfl) (al 5 [zl, .d (.v (.map none))] tok ?_)
 refine bst tok (nx (sq [0,1,2,3,4,5,6,7,8] ?_))
 refine fa tok ?_
 refine ld tok ?_
 refine fa tok ?_
 refine ld tok ?_
 refine fa tok ?_
 refine ld tok ?_
 obtain ⟨v2,hv2,h0⟩ := bnd h0
 refine rS rfl (aM 6 (aDn hv2) rfl rfl rfl) (al 6 [zl, .d (.v (.map none))] tok ?_)
 refine bst tok (nx (sq [0] ?_))
 refine pa (nx ?_)
 obtain ⟨v61,h1,h0⟩ := bnd h0
 refine bC ⟨aB (aB (aB ((fun _ => .dead)) 5 (.ptr 3 0 1 0 0)) 6 (.ptr 4 0 1 0 0)) 7 (.own 5 0 (v61).length),lks [.no, .no, .no, .live [⟨245,2, .av [[dL cI v1.products, .d (.mp v1.lists)]]⟩], .live [⟨245,2, .av [[dL cI v2.products, .d (.mp v2.lists)]]⟩], .live [⟨252,3, .data (List.map pC v61)⟩]]⟩ ?_ ?_
 refine sq [0,1,2,3] (fa tok ?_)
 refine ld tok ?_
 refine rP rfl (aL tok rfl rfl rfl) (pm (nx (aG ?_)))
 refine aZ (fun s31 => ⟨aB (aB (aB (aB (aB (aB (aB ((fun _ => .dead)) 2 (.ptr 3 0 1 0 0)) 5 (.ptr 4 0 1 0 0)) 6 (.ptr 5 0 1 0 0)) 7 (.own 6 0 (s31.2).length)) 37 (dL cI v1.products)) 38 (dI (v1.products.length : Int))) 39 (dI s31.1),lks [.no, .no, .no, .live [⟨62,2, .av [[dI p0.Num,(dI p0.Den)]]⟩], .live [⟨245,2, .av [[dL cI v1.products, .d (.mp v1.lists)]]⟩], .live [⟨245,2, .av [[dL cI v2.products, .d (.mp v2.lists)]]⟩], .live [⟨252,3, .data (List.map pC s31.2)⟩]]⟩) h1 ?_ (fun s31 y h2 => ?_)
 refine lO.trans_ (dE 7 rfl 252 3 (d := 7) rfl) ?_
 exact wk [0,1,2,3,5,6,7]
 refine sq [0] (rP rfl (bK rfl rfl) (nx (aE ?_)))
 refine bR h2 rfl (fun hc h2 => ?_) (fun hc h2 => ?_)
 refine sk ?_
 obtain ⟨v60,h3,h2⟩ := bnd h2
 refine bC ⟨aB (aB (aB (aB (aB (aB (aB ((fun _ => .dead)) 2 (.ptr 3 0 1 0 0)) 5 (.ptr 4 0 1 0 0)) 6 (.ptr 5 0 1 0 0)) 7 (.own 6 0 (v60).length)) 37 (dL cI v1.products)) 38 (dI (v1.products.length : Int))) 39 (dI s31.1),lks [.no, .no, .no, .live [⟨62,2, .av [[dI p0.Num,(dI p0.Den)]]⟩], .live [⟨245,2, .av [[dL cI v1.products, .d (.mp v1.lists)]]⟩], .live [⟨245,2, .av [[dL cI v2.products, .d (.mp v2.lists)]]⟩], .live [⟨252,3, .data (List.map pC v60)⟩]]⟩ ?_ ?_
 refine aG (sq [0,1,2] ?_)
 obtain ⟨v32,hv32,h3⟩ := bnd h3
 refine rP rfl (cO tok hv32 rfl rfl rfl rfl rfl rfl) (lr tok ?_)
 refine pa (nx (sq [0,1,2,3,4,5,6,7,8,9] ?_))
 refine fa tok ?_
 refine ld tok ?_
 refine pm ?_
 refine rP rfl (aIu rfl) ?_
 obtain ⟨v33,hv33,h3⟩ := bnd h3
 refine rS rfl (fU 7 (fJ hv33) rfl rfl) (rP rfl (aF (r := .tup _) rfl) (rP rfl (aJ rfl rfl) (rP rfl (aJ rfl rfl) (pa ?_))))
 refine pa (nx (sq [0,1,2,3] ?_))
 refine pm ?_
 refine rP rfl (hY rfl rfl) (rP rfl (aTs rfl rfl) (pa (nx (aG ?_))))
 refine aZ (fun s47 => ⟨aB (aB (aB (aB (aB (aB (aB (aB (aB (aB ((fun _ => .dead)) 2 (.ptr 3 0 1 0 0)) 5 (.ptr 4 0 1 0 0)) 6 (.ptr 5 0 1 0 0)) 7 (.own 6 0 (s47.2).length)) 9 (dI v32)) 10 (dI v33.1)) 12 (dI s47.1)) 37 (dL cI v1.products)) 38 (dI (v1.products.length : Int))) 39 (dI s31.1),lks [.no, .no, .no, .live [⟨62,2, .av [[dI p0.Num,(dI p0.Den)]]⟩], .live [⟨245,2, .av [[dL cI v1.products, .d (.mp v1.lists)]]⟩], .live [⟨245,2, .av [[dL cI v2.products, .d (.mp v2.lists)]]⟩], .live [⟨252,3, .data (List.map pC s47.2)⟩]]⟩) h3 ?_ (fun s47 y h4 => ?_)
 exact wk [0,1,2,3,4,5,6]
 refine aE ?_
 obtain ⟨v48,h5,h4⟩ := bnd h4
 refine bC ⟨aB (aB (aB (aB (aB (aB (aB (aB (aB (aB (aB ((fun _ => .dead)) 2 (.ptr 3 0 1 0 0)) 5 (.ptr 4 0 1 0 0)) 6 (.ptr 5 0 1 0 0)) 7 (.own 6 0 (s47.2).length)) 9 (dI v32)) 10 (dI v33.1)) 12 (dI s47.1)) 37 (dL cI v1.products)) 38 (dI (v1.products.length : Int))) 39 (dI s31.1)) 63 (dB v48),lks [.no, .no, .no, .live [⟨62,2, .av [[dI p0.Num,(dI p0.Den)]]⟩], .live [⟨245,2, .av [[dL cI v1.products, .d (.mp v1.lists)]]⟩], .live [⟨245,2, .av [[dL cI v2.products, .d (.mp v2.lists)]]⟩], .live [⟨252,3, .data (List.map pC s47.2)⟩]]⟩ ?_ ?_
 refine sr [0,1,2,3,4,5,6,7,8,9] (pm ?_)
 refine pm ?_
 refine rP rfl (gR rfl rfl) (pm ?_)
 refine fI (u := 57) h5 rfl (fun hc h5 => ?_) (fun hc h5 => ?_)
 refine pm1 ?_
 refine fa1 tok ?_
 refine ld1 tok ?_
 refine rp rfl (w1 rfl rfl rfl) rfl (aL tok rfl rfl rfl) (rp rfl (w1 rfl rfl rfl) rfl (bK rfl rfl) (pkt (nx ?_)))
 cases h5
 exact wk [0,1,2,3,4,5,6]
 iterate 5 refine k1 ?_
 refine pkf (nx ?_)
 cases h5
 exact wk [0,1,2,3,4,5,6]
 refine bP h4 rfl (fun hc h4 => ?_) (fun hc h4 => ?_)
 refine sk ?_
 obtain ⟨v59,h5,h4⟩ := bnd h4
 refine bC ⟨aB (aB (aB (aB (aB (aB (aB (aB (aB (aB ((fun _ => .dead)) 2 (.ptr 3 0 1 0 0)) 5 (.ptr 4 0 1 0 0)) 6 (.ptr 5 0 1 0 0)) 7 (.own 6 0 (v59).length)) 9 (dI v32)) 10 (dI v33.1)) 12 (dI s47.1)) 37 (dL cI v1.products)) 38 (dI (v1.products.length : Int))) 39 (dI s31.1),lks [.no, .no, .no, .live [⟨62,2, .av [[dI p0.Num,(dI p0.Den)]]⟩], .live [⟨245,2, .av [[dL cI v1.products, .d (.mp v1.lists)]]⟩], .live [⟨245,2, .av [[dL cI v2.products, .d (.mp v2.lists)]]⟩], .live [⟨252,3, .data (List.map pC v59)⟩]]⟩ ?_ ?_
 refine aG (aE (aK (is := [0,1,2,3,4,5,6,7,8,9]) [0,0,2,0,14,30,0,127,0,511] follows (by kernel_rfl) (tpm ?_)))
 refine tfa tok ?_
 refine tld tok ?_
 refine tpm ?_
 obtain ⟨v49,hv49,h5⟩ := bnd h5
 refine tP rfl (cO tok hv49 rfl rfl rfl rfl rfl rfl) (tlr tok ?_)
 refine dG rfl w0 rfl (aW tok rfl rfl rfl rfl) rfl rfl rfl ?_
 obtain ⟨v50,hv50,h5⟩ := bnd h5
 refine mS rfl w0 rfl (dF 8 (aLa hv50) rfl rfl rfl) (aAx rfl w0 rfl rfl (fun hx hk => nV 7 (cs := [z0,z0,z0]) tok rfl rfl hk) (qH rfl w0 (kY (cs := _ :: _) tok rfl rfl rfl rfl rfl rfl rfl) (bS ?_)))
 refine ⟨by kernel_rfl,?_⟩
 refine aH ?_
 obtain ⟨v54,h6,h5⟩ := bnd h5
 refine bC ⟨aB (aB (aB (aB (aB (aB (aB (aB (aB (aB (aB ((fun _ => .dead)) 2 (.ptr 3 0 1 0 0)) 5 (.ptr 4 0 1 0 0)) 6 (.ptr 5 0 1 0 0)) 7 (.own 6 0 (v54).length)) 9 (dI v32)) 10 (dI v33.1)) 12 (dI s47.1)) 13 (.ptr 7 0 1 0 0)) 37 (dL cI v1.products)) 38 (dI (v1.products.length : Int))) 39 (dI s31.1),lks [.no, .no, .no, .live [⟨62,2, .av [[dI p0.Num,(dI p0.Den)]]⟩], .live [⟨245,2, .av [[dL cI v1.products, .d (.mp v1.lists)]]⟩], .live [⟨245,2, .av [[dL cI v2.products, .d (.mp v2.lists)]]⟩], .live [⟨252,3, .data (List.map pC v54)⟩], .live [⟨252,3, .av [[dI v50.p,(dI v50.q),(dI v50.far)]]⟩]]⟩ ?_ ?_
 obtain ⟨v53,h7,h6⟩ := bnd h6
 refine bC ⟨aB (aB (aB (aB (aB (aB (aB (aB (aB (aB (aB (aB ((fun _ => .dead)) 2 (.ptr 3 0 1 0 0)) 5 (.ptr 4 0 1 0 0)) 6 (.ptr 5 0 1 0 0)) 7 (.own 6 0 (s47.2).length)) 9 (dI v32)) 10 (dI v33.1)) 12 (dI s47.1)) 13 (.ptr 7 0 1 0 0)) 37 (dL cI v1.products)) 38 (dI (v1.products.length : Int))) 39 (dI s31.1)) 84 (dB v53),lks [.no, .no, .no, .live [⟨62,2, .av [[dI p0.Num,(dI p0.Den)]]⟩], .live [⟨245,2, .av [[dL cI v1.products, .d (.mp v1.lists)]]⟩], .live [⟨245,2, .av [[dL cI v2.products, .d (.mp v2.lists)]]⟩], .live [⟨252,3, .data (List.map pC s47.2)⟩], .live [⟨252,3, .av [[dI v50.p,(dI v50.q),(dI v50.far)]]⟩]]⟩ ?_ ?_
 refine aK (is := [0,1,2,3,4,5,6,7,8,9,10]) [0,1,3,7,15,15,47,111,255,511,1023] follows (by kernel_rfl) (tP rfl (aF (r := .own _ _ _) rfl) (dG rfl w0 rfl (rC tok rfl rfl rfl rfl rfl) rfl rfl rfl (tP rfl (gO rfl rfl) (tpm ?_))))
 refine aG4 (u := 77) h7 rfl (fun hc h7 => ?_) (fun hc h7 => ?_)
 refine dG rfl (w1 rfl rfl rfl) rfl (aW tok rfl rfl rfl rfl) rfl rfl rfl (rQ rfl (w1 rfl rfl rfl) rfl (aF (r := .own _ _ _) rfl) ?_)
 obtain ⟨v51,hv51,h7⟩ := bnd h7
 refine dG rfl (w1 rfl rfl rfl) rfl (jU tok hv51 rfl rfl rfl rfl rfl rfl rfl rfl) rfl rfl rfl (dG rfl (w1 rfl rfl rfl) rfl (yD tok (gV hv51).2.1 rfl rfl rfl rfl rfl) rfl rfl rfl ?_)
 obtain ⟨v52,hv52,h7⟩ := bnd h7
 refine mS rfl (w1 rfl rfl rfl) rfl (dF 8 (wC hv52) rfl rfl rfl) (rQ rfl (w1 rfl rfl rfl) rfl (bK rfl rfl) (aCn ?_))
 refine bS ?_
 refine ⟨by kernel_rfl,?_⟩
 refine aH ?_
 cases h7
 exact wk [0,1,2,3,4,5,6,7]
 iterate 6 refine k2 ?_
 refine aFu ?_
 refine bS ?_
 refine ⟨by kernel_rfl,?_⟩
 refine aH ?_
 cases h7
 exact wk [0,1,2,3,4,5,6,7]
 refine bP h6 rfl (fun hc h6 => ?_) (fun hc h6 => ?_)
 refine sr [0] (pa (nx ?_))
 cases h6
 refine lO.trans_ (dE 8 rfl 252 3 (d := 7) rfl) ?_
 exact wk [0,1,2,3,4,5,8,7]
 refine sk ?_
 cases h6
 exact wk [0,1,2,3,4,5,6,7]
 obtain ⟨v57,h6,h5⟩ := bnd h5
 refine bC ⟨aB (aB (aB (aB (aB (aB (aB (aB (aB (aB (aB (aB ((fun _ => .dead)) 2 (.ptr 3 0 1 0 0)) 5 (.ptr 4 0 1 0 0)) 6 (.ptr 5 0 1 0 0)) 7 (.own 6 0 (v54).length)) 9 (dI v32)) 10 (dI v33.1)) 12 (dI s47.1)) 13 (.ptr 7 0 1 0 0)) 37 (dL cI v1.products)) 38 (dI (v1.products.length : Int))) 39 (dI s31.1)) 95 (dB v57),lks [.no, .no, .no, .live [⟨62,2, .av [[dI p0.Num,(dI p0.Den)]]⟩], .live [⟨245,2, .av [[dL cI v1.products, .d (.mp v1.lists)]]⟩], .live [⟨245,2, .av [[dL cI v2.products, .d (.mp v2.lists)]]⟩], .live [⟨252,3, .data (List.map pC v54)⟩], .live [⟨252,3, .av [[dI v50.p,(dI v50.q),(dI v50.far)]]⟩]]⟩ ?_ ?_
 refine aK (is := [0,1,2,3,4,5,6,7,8,9,10]) [0,1,3,7,15,15,47,111,255,511,1023] follows (by kernel_rfl) (tP rfl (aF (r := .own _ _ _) rfl) (dG rfl w0 rfl (rC tok rfl rfl rfl rfl rfl) rfl rfl rfl (tP rfl (iT rfl rfl) (tpm ?_))))
 refine aG4 (u := 88) h6 rfl (fun hc h6 => ?_) (fun hc h6 => ?_)
 iterate 6 refine k2 ?_
 refine aCn ?_
 refine bS ?_
 refine ⟨by kernel_rfl,?_⟩
 refine aH ?_
 cases h6
 exact wk [0,1,2,3,4,5,6,7]
 refine dG rfl (w1 rfl rfl rfl) rfl (aW tok rfl rfl rfl rfl) rfl rfl rfl (rQ rfl (w1 rfl rfl rfl) rfl (aF (r := .own _ _ _) rfl) ?_)
 obtain ⟨v55,hv55,h6⟩ := bnd h6
 refine dG rfl (w1 rfl rfl rfl) rfl (jU tok hv55 rfl rfl rfl rfl rfl rfl rfl rfl) rfl rfl rfl (dG rfl (w1 rfl rfl rfl) rfl (yD tok (gV hv55).2.1 rfl rfl rfl rfl rfl) rfl rfl rfl ?_)
 obtain ⟨v56,hv56,h6⟩ := bnd h6
 refine mS rfl (w1 rfl rfl rfl) rfl (dF 8 (wC hv56) rfl rfl rfl) (rQ rfl (w1 rfl rfl rfl) rfl (iT rfl rfl) (aFu ?_))
 refine bS ?_
 refine ⟨by kernel_rfl,?_⟩
 refine aH ?_
 cases h6
 exact wk [0,1,2,3,4,5,6,7]
 refine bP h5 rfl (fun hc h5 => ?_) (fun hc h5 => ?_)
 refine sr [0,1,2,3,4] (rP rfl (aF (r := .own _ _ _) rfl) (rL rfl (aW tok rfl rfl rfl rfl) (rS rfl (jV tok pC [v50] rfl rfl rfl (by repeat (first | exact Els.nil _ | apply Els.cons (cs := [.d _]) rfl rfl rfl | apply Els.cons (cs := _ :: _) rfl rfl rfl)) rfl rfl rfl (by repeat (first | exact cH.nil | (apply cH.cons; (repeat (first | exact fA.nil | apply fA.cons))))) rfl) ?_)))
 obtain ⟨hq58,h5⟩ := dM h5
 refine rw1 rfl w0 rfl (fL tok hq58 rfl rfl rfl rfl rfl rfl rfl rfl rfl rfl rfl rfl (fun _ => rfl)) (rP rfl (aR (r := .own _ _ _) rfl) (aX (bB (aH ?_))))
 cases h5
 exact wk [0,1,2,3,4,5,6]
 refine cW (bB (aH ?_))
 cases h5
 exact wk [0,1,2,3,4,5,6]
 refine sr [0,1,2] (pm ?_)
 refine rP rfl (bN rfl rfl) (pa (aX ?_))
 refine cB ?_
 cases h4
 refine ⟨_,rfl,?_⟩
 exact wk [0,1,2,3,4,5,6]
 refine bI (cC ?_)
 cases h4
 refine cD ⟨_,rfl,fun e => ?_⟩
 subst e
 refine aU ?_
 refine bB (aH ?_)
 exact wk [0,1,2,3,4,5,6]
 refine sr [0,1] (rP rfl (bN rfl rfl) (pm (aX ?_)))
 refine cB ?_
 cases h2
 refine ⟨_,rfl,?_⟩
 exact wk [0,1,2,3,4,5,6]
 refine bI (cC ?_)
 cases h2
 refine cD ⟨_,rfl,fun e => ?_⟩
 subst e
 refine aU (aH ?_)
 exact wk [0,1,2,4,5,6]
 refine sq [0] (pa ?_)
 refine mD (aSt bW (d := 14) rfl) (nx ?_)
 obtain ⟨v142,h1,h0⟩ := bnd h0
 refine bC ⟨aB ((fun _ => .dead)) 14 (aIi bW v142),lks [.no, .no, .no]⟩ ?_ ?_
 refine sq [0,1,2] (rP rfl (aF (r := .own _ _ _) rfl) (rL rfl (rC tok rfl rfl rfl rfl rfl) (pm (nx (aG ?_)))))
 refine aZ (fun s102 => ⟨aB (aB (aB (aB (aB (aB ((fun _ => .dead)) 5 (.ptr 3 0 1 0 0)) 6 (.ptr 4 0 1 0 0)) 14 (aIi bW s102.1)) 101 (.own 5 0 (v61).length)) 102 (dI (v61.length : Int))) 103 (dI s102.2),lks [.no, .no, .no, .live [⟨245,2, .av [[dL cI v1.products, .d (.mp v1.lists)]]⟩], .live [⟨245,2, .av [[dL cI v2.products, .d (.mp v2.lists)]]⟩], .live [⟨252,3, .data (List.map pC v61)⟩]]⟩) h1 ?_ (fun s102 y h2 => ?_)
 exact wk [0,1,2,3,4,5]
 refine sq [0] (rP rfl (bK rfl rfl) (nx (aE ?_)))
 refine bR h2 rfl (fun hc h2 => ?_) (fun hc h2 => ?_)
 refine sk ?_
 obtain ⟨v141,h3,h2⟩ := bnd h2
 refine bC ⟨aB (aB (aB (aB (aB (aB ((fun _ => .dead)) 5 (.ptr 3 0 1 0 0)) 6 (.ptr 4 0 1 0 0)) 14 (aIi bW v141)) 101 (.own 5 0 (v61).length)) 102 (dI (v61.length : Int))) 103 (dI s102.2),lks [.no, .no, .no, .live [⟨245,2, .av [[dL cI v1.products, .d (.mp v1.lists)]]⟩], .live [⟨245,2, .av [[dL cI v2.products, .d (.mp v2.lists)]]⟩], .live [⟨252,3, .data (List.map pC v61)⟩]]⟩ ?_ ?_
 refine aG (sq [0,1,2,3] ?_)
 obtain ⟨v103,hv103,h3⟩ := bnd h3
 refine rL rfl (jU tok hv103 rfl rfl rfl rfl rfl rfl rfl rfl) (rL rfl (yD tok (gV hv103).2.1 rfl rfl rfl rfl rfl) (al 6 [z0,z0,z0] tok ?_))
 refine bst tok (nx (sq [0,1,2,3,4,5,6] ?_))
 refine fa tok ?_
 refine ld tok ?_
 refine fa tok ?_
 refine ld tok ?_
 obtain ⟨hq104,h3⟩ := dM h3
 refine rP rfl (aNo tok rfl rfl rfl rfl rfl rfl rfl rfl hq104) (rP rfl (aL tok rfl rfl rfl) (pm (nx (aG ?_))))
 refine aZ (fun s123 => ⟨aB (aB (aB (aB (aB (aB (aB (aB (aB (aB ((fun _ => .dead)) 5 (.ptr 3 0 1 0 0)) 6 (.ptr 4 0 1 0 0)) 14 (aIi bW s123.1)) 16 (.ptr 5 0 1 0 0)) 101 (.own 6 0 (v61).length)) 102 (dI (v61.length : Int))) 103 (dI s102.2)) 111 (dL (cL cI) (v1.lists v103.p))) 112 (dI ((v1.lists v103.p).length : Int))) 113 (dI s123.2),lks [.no, .no, .no, .live [⟨245,2, .av [[dL cI v1.products, .d (.mp v1.lists)]]⟩], .live [⟨245,2, .av [[dL cI v2.products, .d (.mp v2.lists)]]⟩], .live [⟨252,3, .av [[dI v103.p,(dI v103.q),(dI v103.far)]]⟩], .live [⟨252,3, .data (List.map pC v61)⟩]]⟩) h3 ?_ (fun s123 y h4 => ?_)
 exact wk [0,1,2,3,4,6,5]
 refine sq [0] (rP rfl (bK rfl rfl) (nx (aE ?_)))
 refine bR h4 rfl (fun hc h4 => ?_) (fun hc h4 => ?_)
 refine sk ?_
 obtain ⟨v140,h5,h4⟩ := bnd h4
 refine bC ⟨aB (aB (aB (aB (aB (aB (aB (aB (aB (aB ((fun _ => .dead)) 5 (.ptr 3 0 1 0 0)) 6 (.ptr 4 0 1 0 0)) 14 (aIi bW v140)) 16 (.ptr 5 0 1 0 0)) 101 (.own 6 0 (v61).length)) 102 (dI (v61.length : Int))) 103 (dI s102.2)) 111 (dL (cL cI) (v1.lists v103.p))) 112 (dI ((v1.lists v103.p).length : Int))) 113 (dI s123.2),lks [.no, .no, .no, .live [⟨245,2, .av [[dL cI v1.products, .d (.mp v1.lists)]]⟩], .live [⟨245,2, .av [[dL cI v2.products, .d (.mp v2.lists)]]⟩], .live [⟨252,3, .av [[dI v103.p,(dI v103.q),(dI v103.far)]]⟩], .live [⟨252,3, .data (List.map pC v61)⟩]]⟩ ?_ ?_
 refine aG (sq [0,1,2] ?_)
 obtain ⟨v124,hv124,h5⟩ := bnd h5
 refine rP rfl (cO tok hv124 rfl rfl rfl rfl rfl rfl) (lr tok ?_)
 refine pa (nx (sq [0,1,2,3,4,5,6] ?_))
 refine fa tok ?_
 refine ld tok ?_
 refine fa tok ?_
 refine ld tok ?_
 obtain ⟨hq125,h5⟩ := dM h5
 refine rP rfl (aNo tok rfl rfl rfl rfl rfl rfl rfl rfl hq125) (rP rfl (aL tok rfl rfl rfl) (pm (nx (aG ?_))))
 refine aZ (fun s133 => ⟨aB (aB (aB (aB (aB (aB (aB (aB (aB (aB (aB (aB (aB (aB ((fun _ => .dead)) 5 (.ptr 3 0 1 0 0)) 6 (.ptr 4 0 1 0 0)) 14 (aIi bW s133.1)) 16 (.ptr 5 0 1 0 0)) 18 (dL cI v124)) 101 (.own 6 0 (v61).length)) 102 (dI (v61.length : Int))) 103 (dI s102.2)) 111 (dL (cL cI) (v1.lists v103.p))) 112 (dI ((v1.lists v103.p).length : Int))) 113 (dI s123.2)) 121 (dL (cL cI) (v2.lists v103.q))) 122 (dI ((v2.lists v103.q).length : Int))) 123 (dI s133.2),lks [.no, .no, .no, .live [⟨245,2, .av [[dL cI v1.products, .d (.mp v1.lists)]]⟩], .live [⟨245,2, .av [[dL cI v2.products, .d (.mp v2.lists)]]⟩], .live [⟨252,3, .av [[dI v103.p,(dI v103.q),(dI v103.far)]]⟩], .live [⟨252,3, .data (List.map pC v61)⟩]]⟩) h5 ?_ (fun s133 y h6 => ?_)
 exact wk [0,1,2,3,4,5,6]
 refine sq [0] (rP rfl (bK rfl rfl) (nx (aE ?_)))
 refine bR h6 rfl (fun hc h6 => ?_) (fun hc h6 => ?_)
 refine sk ?_
 obtain ⟨v139,h7,h6⟩ := bnd h6
 refine bC ⟨aB (aB (aB (aB (aB (aB (aB (aB (aB (aB (aB (aB (aB (aB ((fun _ => .dead)) 5 (.ptr 3 0 1 0 0)) 6 (.ptr 4 0 1 0 0)) 14 (aIi bW v139)) 16 (.ptr 5 0 1 0 0)) 18 (dL cI v124)) 101 (.own 6 0 (v61).length)) 102 (dI (v61.length : Int))) 103 (dI s102.2)) 111 (dL (cL cI) (v1.lists v103.p))) 112 (dI ((v1.lists v103.p).length : Int))) 113 (dI s123.2)) 121 (dL (cL cI) (v2.lists v103.q))) 122 (dI ((v2.lists v103.q).length : Int))) 123 (dI s133.2),lks [.no, .no, .no, .live [⟨245,2, .av [[dL cI v1.products, .d (.mp v1.lists)]]⟩], .live [⟨245,2, .av [[dL cI v2.products, .d (.mp v2.lists)]]⟩], .live [⟨252,3, .av [[dI v103.p,(dI v103.q),(dI v103.far)]]⟩], .live [⟨252,3, .data (List.map pC v61)⟩]]⟩ ?_ ?_
 refine aG (sq [0,1,2] ?_)
 obtain ⟨v134,hv134,h7⟩ := bnd h7
 refine rP rfl (cO tok hv134 rfl rfl rfl rfl rfl rfl) (lr tok ?_)
 refine pa (nx (sq [0,1,2,3] ?_))
 refine pm ?_
 refine pm ?_
 obtain ⟨v135,hv135,h7⟩ := bnd h7
 refine rS rfl (aM 7 (aEt hv135) rfl rfl rfl) (rP rfl (aR (r := .own _ _ _) rfl) (nx ?_))
 obtain ⟨v137,h8,h7⟩ := bnd h7
 refine bC ⟨aB (aB (aB (aB (aB (aB (aB (aB (aB (aB (aB (aB (aB (aB (aB (aB ((fun _ => .dead)) 5 (.ptr 3 0 1 0 0)) 6 (.ptr 4 0 1 0 0)) 14 (aIi bW s133.1)) 16 (.ptr 5 0 1 0 0)) 18 (dL cI v124)) 21 (.own 6 0 (v135).length)) 101 (.own 7 0 (v61).length)) 102 (dI (v61.length : Int))) 103 (dI s102.2)) 111 (dL (cL cI) (v1.lists v103.p))) 112 (dI ((v1.lists v103.p).length : Int))) 113 (dI s123.2)) 121 (dL (cL cI) (v2.lists v103.q))) 122 (dI ((v2.lists v103.q).length : Int))) 123 (dI s133.2)) 137 (dB v137),lks [.no, .no, .no, .live [⟨245,2, .av [[dL cI v1.products, .d (.mp v1.lists)]]⟩], .live [⟨245,2, .av [[dL cI v2.products, .d (.mp v2.lists)]]⟩], .live [⟨252,3, .av [[dI v103.p,(dI v103.q),(dI v103.far)]]⟩], .live [⟨121,2, .data (List.map bW v135)⟩], .live [⟨252,3, .data (List.map pC v61)⟩]]⟩ ?_ ?_
 refine sr [0,1,2,3,4,5,6,7] (rP rfl (aF (r := _) rfl) (rP rfl (aIt tok rfl rfl rfl rfl) (pm ?_)))
 refine fI (u := 132) h8 rfl (fun hc h8 => ?_) (fun hc h8 => ?_)
 iterate 4 refine k1 ?_
 refine pkt (nx ?_)
 cases h8
 exact wk [0,1,2,3,4,5,7,6]
 refine rp rfl (w1 rfl rfl rfl) rfl (aF (r := .own _ _ _) rfl) (rp rfl (w1 rfl rfl rfl) rfl (aF (r := _) rfl) ?_)
 obtain ⟨v136,hv136,h8⟩ := bnd h8
 refine mD (aOu bW (d := 134) rfl) (rs rfl (w1 rfl rfl rfl) rfl (fU 8 (yX hv136) rfl rfl) (rp rfl (w1 rfl rfl rfl) rfl (bK rfl rfl) (pkf (nx ?_))))
 cases h8
 exact wk [0,1,2,3,4,5,7,6]
 refine bP h7 rfl (fun hc h7 => ?_) (fun hc h7 => ?_)
 refine sr [0,1] (rP rfl (aF (r := .own _ _ _) rfl) ?_)
 obtain ⟨hq138,h7⟩ := dM h7
 refine mD (yP (k := 6) (t' := aB (aB (aB (aB (aB (aB (aB (aB (aB (aB (aB (aB (aB (aB ((fun _ => .dead)) 5 (.ptr 3 0 1 0 0)) 6 (.ptr 4 0 1 0 0)) 16 (.ptr 5 0 1 0 0)) 18 (dL cI v124)) 101 (.own 7 0 (v61).length)) 102 (dI (v61.length : Int))) 103 (dI s102.2)) 111 (dL (cL cI) (v1.lists v103.p))) 112 (dI ((v1.lists v103.p).length : Int))) 113 (dI s123.2)) 121 (dL (cL cI) (v2.lists v103.q))) 122 (dI ((v2.lists v103.q).length : Int))) 123 (dI s133.2)) 138 (dL bW v135)) rfl (FzL.nil)) (pa ?_)
 refine mD (aSu bW (d := 14) rfl hq138) (aX (bB (aH ?_)))
 cases h7
 exact wk [0,1,2,3,4,5,7]
 refine cW (bB (aH ?_))
 cases h7
 exact wk [0,1,2,3,4,5,7]
 refine sr [0,1] (rP rfl (bN rfl rfl) (pm (aX ?_)))
 refine cB ?_
 cases h6
 refine ⟨_,rfl,?_⟩
 exact wk [0,1,2,3,4,5,6]
 refine bI (cC ?_)
 cases h6
 refine cD ⟨_,rfl,fun e => ?_⟩
 subst e
 refine aU ?_
 refine bB (aH ?_)
 exact wk [0,1,2,3,4,5,6]
 refine sr [0,1] (rP rfl (bN rfl rfl) (pm (aX ?_)))
 refine cB ?_
 cases h4
 refine ⟨_,rfl,?_⟩
 exact wk [0,1,2,3,4,5,6]
 refine bI (cC ?_)
 cases h4
 refine cD ⟨_,rfl,fun e => ?_⟩
 subst e
 refine aU ?_
 refine bB (aH ?_)
 exact wk [0,1,2,3,4,6]
 refine sr [0,1] (rP rfl (bN rfl rfl) (pm (aX ?_)))
 refine cB ?_
 cases h2
 refine ⟨_,rfl,?_⟩
 exact wk [0,1,2,3,4,5]
 refine bI (cC ?_)
 cases h2
 refine cD ⟨_,rfl,fun e => ?_⟩
 subst e
 refine aU (aH ?_)
 exact wk [0,1,2]
 refine sq [0,1] (rP rfl (aF (r := _) rfl) (rP rfl (aR (r := _) rfl) (mD (aOu bW (d := 4) rfl) (nx (aD ?_)))))
 cases h0
 exact r0t 4 rfl
theorem aEr {p0 : bE} {r : Bool} (h0 : fY p0 = some r) : FnC Tryz.prog 266 [] [.agg [dI p0.Driver,(dI p0.Driven)]] [] (dB r) := by
 refine fi 11 tok Tryz.func266 ?_
 unfold fY at h0
 refine sq [0,1] (bxx 3 ?_)
 refine pa (nx (sq [0,1,2,3,4,5,6,7,8] ?_))
 refine fa tok ?_
 refine ld tok ?_
 obtain ⟨v1,hv1,h0⟩ := bnd h0
 refine rS rfl (aM 4 (qX hv1) rfl rfl rfl) (pm ?_)
 refine dQ (u := 6) h0 rfl (fun hc h0 => ?_) (fun hc h0 => ?_)
 refine fa1 tok ?_
 refine ld1 tok ?_
 obtain ⟨v2,hv2,h0⟩ := bnd h0
 refine rs rfl (w1 rfl rfl rfl) rfl (aM 4 (qX hv2) rfl rfl rfl) (pkt ?_)
 refine pa (nx (aD ?_))
 cases h0
 exact r0t 2 rfl
 iterate 3 refine k1 ?_
 refine pkf ?_
 refine pa (nx (aD ?_))
 cases h0
 exact r0t 2 rfl
theorem aCu {p0 : List bE} {r : Bool} (h0 : jO p0 = some r) : FnC Tryz.prog 224 [] [dL bW p0] [] (dB r) := by
 refine fi 18 tok Tryz.func224 ?_
 unfold jO at h0
 refine sq [0] (pa (nx ?_))
 obtain ⟨v7x,h1,h0⟩ := bnd h0
 refine eN v7x (fun v7 => ⟨aB ((fun _ => .dead)) 0 (dL bW p0),lks [.no, .no, .no]⟩) ?_ ?_
 refine sq [0,1,2] (pm ?_)
 refine rP rfl (aL tok rfl rfl rfl) (pm (nx (aG ?_)))
 refine aZ (fun s4 => ⟨aB (aB (aB (aB ((fun _ => .dead)) 0 (dL bW p0)) 5 (dL bW p0)) 6 (dI (p0.length : Int))) 7 (dI s4),lks [.no, .no, .no]⟩) h1 ?_ (fun s4 y h2 => ?_)
 exact wk [0,1,2]
 refine sq [0] (rP rfl (bK rfl rfl) (nx (aE ?_)))
 refine bR h2 rfl (fun hc h2 => ?_) (fun hc h2 => ?_)
 refine sk (aE (aG (sq [0,1,2,3] ?_)))
 obtain ⟨v5,hv5,h2⟩ := bnd h2
 refine rP rfl (cO tok hv5 rfl rfl rfl rfl rfl rfl) (rP rfl (bU tok rfl rfl rfl (by repeat (first | exact lN.z _ | apply lN.t))) (al 3 [z0,z0] tok ?_))
 refine bst tok (nx (sq [0,1,2] ?_))
 refine rL rfl (aW tok rfl rfl rfl rfl) ?_
 obtain ⟨v6,hv6,h2⟩ := bnd h2
 refine rS rfl (aM 4 (aEr hv6) rfl rfl rfl) (rP rfl (cE rfl) (nx ?_))
 refine bP h2 rfl (fun hc h2 => ?_) (fun hc h2 => ?_)
 refine sq [0] (pa (nx (aD ?_)))
 refine bG (aT ?_)
 cases h2
 refine fC ⟨_,rfl,fun e => ?_⟩
 subst e
 refine bG ?_
 replace h0 := jF h0
 refine aT ?_
 cases h0
 exact r0t 2 rfl
 refine cW (bB (aH (sr [0,1] (rP rfl (bN rfl rfl) (pm (aX ?_))))))
 refine cB ?_
 cases h2
 refine ⟨_,rfl,?_⟩
 exact wk [0,1,2]
 refine bI (cC ?_)
 cases h2
 refine cD ⟨_,rfl,fun e => ?_⟩
 subst e
 refine aU (aH ?_)
 refine ⟨_,rfl,?_⟩
 exact wk [0,1,2]
 rintro v7 rfl
 replace h0 := lZ h0
 refine sq [0,1,2,3] (pm ?_)
 refine rP rfl (aL tok rfl rfl rfl) (rP rfl (gR rfl rfl) (pa (nx (aD ?_))))
 cases h0
 exact r0t 2 rfl
theorem uK {p0 : aA} {p1 : aA} {r : aA × Int} (h0 : gA p0 p1 = some r) : FnC Tryz.prog 71 [] [.agg [dI p0.Num,(dI p0.Den)], .agg [dI p1.Num,(dI p1.Den)]] [] (.tup [.agg [dI r.1.Num,(dI r.1.Den)],(dI r.2)]) := by
 refine fi 28 tok Tryz.func71 ?_
 unfold gA at h0
 refine sq [0,1,2,3] (bxx 3 ?_)
 refine bxx 4 ?_
 refine al 5 [z0,z0] tok ?_
 refine pa (nx (aE ?_))
 obtain ⟨v3,h1,h0⟩ := bnd h0
 refine bC ⟨aB (aB (aB (aB ((fun _ => .dead)) 2 (.ptr 3 0 1 0 0)) 3 (.ptr 4 0 1 0 0)) 4 (.ptr 5 0 1 0 0)) 13 (dB v3),lks [.no, .no, .no, .live [⟨62,2, .av [[dI p0.Num,(dI p0.Den)]]⟩], .live [⟨62,2, .av [[dI p1.Num,(dI p1.Den)]]⟩], .live [⟨62,2, .av [[z0,z0]]⟩]]⟩ ?_ ?_
 refine sr [0,1,2,3,4,5,6,7] (rL rfl (aW tok rfl rfl rfl rfl) ?_)
 obtain ⟨v1,hv1,h1⟩ := bnd h1
 refine rS rfl (aM 6 (fH hv1) rfl rfl rfl) (rP rfl (cE rfl) (pm ?_))
 refine dQ (u := 9) h1 rfl (fun hc h1 => ?_) (fun hc h1 => ?_)
 iterate 3 refine k1 ?_
 refine pkt (nx ?_)
 cases h1
 exact wk [0,1,2,3,4,5]
 refine rl rfl (w1 rfl rfl rfl) rfl (aW tok rfl rfl rfl rfl) ?_
 obtain ⟨v2,hv2,h1⟩ := bnd h1
 refine rs rfl (w1 rfl rfl rfl) rfl (aM 6 (fH hv2) rfl rfl rfl) (rp rfl (w1 rfl rfl rfl) rfl (cE rfl) (pkf (nx ?_)))
 cases h1
 exact wk [0,1,2,3,4,5]
 refine bP h0 rfl (fun hc h0 => ?_) (fun hc h0 => ?_)
 refine sq [0,1,2] (rP rfl (pbl (C0 := [z0,z0]) tok rfl rfl rfl) (bst tok ?_))
 refine pa (nx (aD (aT ?_)))
 cases h0
 exact eI (rs := [.cell 4 62, .tmp 5]) rfl
 refine sk (sq [0,1,2,3,4,5,6,7,8,9,10,11,12,13,14] (fa tok ?_))
 refine ld tok ?_
 refine fa tok ?_
 refine ld tok ?_
 refine rP rfl (eG rfl rfl) (fa tok ?_)
 refine ld tok ?_
 refine fa tok ?_
 refine ld tok ?_
 refine rP rfl (eG rfl rfl) ?_
 obtain ⟨v4,hv4,h0⟩ := bnd h0
 refine rS rfl (aM 6 (jB hv4) rfl rfl rfl) (rP rfl (aJ rfl rfl) (rP rfl (aJ rfl rfl) (bst tok ?_)))
 refine pa (nx (aD ?_))
 cases h0
 exact eI (rs := [.cell 4 62, .tmp 5]) rfl
theorem aC0 {p0 : List bE} {r : aA × Int} (h0 : jQ p0 = some r) : FnC Tryz.prog 267 [] [dL bW p0] [] (.tup [.agg [dI r.1.Num,(dI r.1.Den)],(dI r.2)]) := by
 refine fi 40 tok Tryz.func267 ?_
 unfold jQ at h0
 refine sq [0,1] (al 3 [z0,z0] tok ?_)
 refine pa (nx (sq [0,1,2] ?_))
 refine rP rfl (pbl (C0 := [z0,z0]) tok rfl rfl rfl) (al 4 [z0,z0] tok ?_)
 refine bst tok (nx ?_)
 obtain ⟨v9x,h1,h0⟩ := bnd h0
 refine eN v9x (fun v9 => ⟨aB (aB ((fun _ => .dead)) 2 (.ptr 3 0 1 0 0)) 4 (.ptr 4 0 1 0 0),lks [.no, .no, .no, .live [⟨62,2, .av [[z0,z0]]⟩], .live [⟨62,2, .av [[dI v9.Num,(dI v9.Den)]]⟩]]⟩) ?_ ?_
 refine sq [0,1,2] (pm ?_)
 refine rP rfl (aL tok rfl rfl rfl) (pm (nx (aG ?_)))
 refine aZ (fun s5 => ⟨aB (aB (aB (aB (aB ((fun _ => .dead)) 2 (.ptr 3 0 1 0 0)) 4 (.ptr 4 0 1 0 0)) 12 (dL bW p0)) 13 (dI (p0.length : Int))) 14 (dI s5.1),lks [.no, .no, .no, .live [⟨62,2, .av [[z0,z0]]⟩], .live [⟨62,2, .av [[dI s5.2.Num,(dI s5.2.Den)]]⟩]]⟩) h1 ?_ (fun s5 y h2 => ?_)
 exact wk [0,1,2,3,4]
 refine sq [0] (rP rfl (bK rfl rfl) (nx (aE ?_)))
 refine bR h2 rfl (fun hc h2 => ?_) (fun hc h2 => ?_)
 refine sk (aE (aG (sq [0,1,2,3] ?_)))
 obtain ⟨v6,hv6,h2⟩ := bnd h2
 refine rP rfl (cO tok hv6 rfl rfl rfl rfl rfl rfl) (rP rfl (bU tok rfl rfl rfl (by repeat (first | exact lN.z _ | apply lN.t))) (al 5 [z0,z0] tok ?_))
 refine bst tok (nx (sq [0,1,2,3,4,5,6,7,8,9,10,11] ?_))
 refine fa tok ?_
 refine ld tok ?_
 refine rP rfl (uT rfl) (fa tok ?_)
 refine ld tok ?_
 obtain ⟨v7,hv7,h2⟩ := bnd h2
 refine rS rfl (aM 6 (jB hv7) rfl rfl rfl) (rP rfl (aF (r := .tup _) rfl) (rP rfl (aJ rfl rfl) (rP rfl (aJ rfl rfl) (al 6 [z0,z0] tok ?_))))
 refine bst tok ?_
 refine pa (nx (sq [0,1,2,3,4,5,6,7,8] ?_))
 refine rL rfl (aW tok rfl rfl rfl rfl) (rL rfl (aW tok rfl rfl rfl rfl) ?_)
 obtain ⟨v8,hv8,h2⟩ := bnd h2
 refine rS rfl (aM 7 (uK hv8) rfl rfl rfl) (rP rfl (aF (r := .tup _) rfl) (rP rfl (aJ rfl rfl) (rP rfl (aJ rfl rfl) (al 7 [z0,z0] tok ?_))))
 refine bst tok ?_
 refine pa (nx (aE (sq [0,1] ?_)))
 refine pm ?_
 refine rP rfl (eB rfl rfl) (nx ?_)
 refine bR h2 rfl (fun hc h2 => ?_) (fun hc h2 => ?_)
 refine sq [0,1,2,3] (rP rfl (pbl (C0 := [z0,z0]) tok rfl rfl rfl) (pm ?_))
 refine bst tok ?_
 refine pa (nx (aD (aT ?_)))
 refine bG (aT ?_)
 cases h2
 refine fC ⟨_,rfl,fun e => ?_⟩
 subst e
 refine bG ?_
 replace h0 := jF h0
 refine aT ?_
 cases h0
 exact eI (rs := [.cell 2 62, .tmp 3]) rfl
 refine sk (sr [0,1] (rL rfl (aW tok rfl rfl rfl rfl) (bst tok (aX ?_))))
 refine bB (aH (sr [0,1] (rP rfl (bN rfl rfl) (pm (aX ?_)))))
 refine cB ?_
 cases h2
 refine ⟨_,rfl,?_⟩
 exact wk [0,1,2,3,4]
 refine bI (cC ?_)
 cases h2
 refine cD ⟨_,rfl,fun e => ?_⟩
 subst e
 refine aU (aH ?_)
 refine ⟨_,rfl,?_⟩
 exact wk [0,1,2,3,4]
 rintro v9 rfl
 replace h0 := lZ h0
 refine sq [0,1,2] (rL rfl (aW tok rfl rfl rfl rfl) (bst tok ?_))
 refine pa (nx (aD ?_))
 cases h0
 exact eI (rs := [.cell 2 62, .tmp 3]) rfl
theorem zL {p0 : aA} {p1 : aA} {r : aA × Int} (h0 : kD p0 p1 = some r) : FnC Tryz.prog 72 [] [.agg [dI p0.Num,(dI p0.Den)], .agg [dI p1.Num,(dI p1.Den)]] [] (.tup [.agg [dI r.1.Num,(dI r.1.Den)],(dI r.2)]) := by
 refine fi 34 tok Tryz.func72 ?_
 unfold kD at h0
 refine sq [0,1,2,3] (bxx 3 ?_)
 refine bxx 4 ?_
 refine al 5 [z0,z0] tok ?_
 refine pa (nx (aE ?_))
 obtain ⟨v3,h1,h0⟩ := bnd h0
 refine bC ⟨aB (aB (aB (aB ((fun _ => .dead)) 2 (.ptr 3 0 1 0 0)) 3 (.ptr 4 0 1 0 0)) 4 (.ptr 5 0 1 0 0)) 13 (dB v3),lks [.no, .no, .no, .live [⟨62,2, .av [[dI p0.Num,(dI p0.Den)]]⟩], .live [⟨62,2, .av [[dI p1.Num,(dI p1.Den)]]⟩], .live [⟨62,2, .av [[z0,z0]]⟩]]⟩ ?_ ?_
 refine sr [0,1,2,3,4,5,6,7] (rL rfl (aW tok rfl rfl rfl rfl) ?_)
 obtain ⟨v1,hv1,h1⟩ := bnd h1
 refine rS rfl (aM 6 (fH hv1) rfl rfl rfl) (rP rfl (cE rfl) (pm ?_))
 refine dQ (u := 9) h1 rfl (fun hc h1 => ?_) (fun hc h1 => ?_)
 iterate 3 refine k1 ?_
 refine pkt (nx ?_)
 cases h1
 exact wk [0,1,2,3,4,5]
 refine rl rfl (w1 rfl rfl rfl) rfl (aW tok rfl rfl rfl rfl) ?_
 obtain ⟨v2,hv2,h1⟩ := bnd h1
 refine rs rfl (w1 rfl rfl rfl) rfl (aM 6 (fH hv2) rfl rfl rfl) (rp rfl (w1 rfl rfl rfl) rfl (cE rfl) (pkf (nx ?_)))
 cases h1
 exact wk [0,1,2,3,4,5]
 refine bP h0 rfl (fun hc h0 => ?_) (fun hc h0 => ?_)
 refine sq [0,1,2] (rP rfl (pbl (C0 := [z0,z0]) tok rfl rfl rfl) (bst tok ?_))
 refine pa (nx (aD (aT ?_)))
 cases h0
 exact eI (rs := [.cell 4 62, .tmp 5]) rfl
 refine sk (sq [0,1,2,3,4,5,6,7,8,9,10,11,12,13,14,15,16,17,18,19,20] (fa tok ?_))
 refine ld tok ?_
 refine fa tok ?_
 refine ld tok ?_
 refine rP rfl (eG rfl rfl) (fa tok ?_)
 refine ld tok ?_
 refine fa tok ?_
 refine ld tok ?_
 refine rP rfl (eG rfl rfl) (rP rfl (hY rfl rfl) (fa tok ?_))
 refine ld tok ?_
 refine fa tok ?_
 refine ld tok ?_
 refine rP rfl (eG rfl rfl) ?_
 obtain ⟨v4,hv4,h0⟩ := bnd h0
 refine rS rfl (aM 6 (jB hv4) rfl rfl rfl) (rP rfl (aJ rfl rfl) (rP rfl (aJ rfl rfl) (bst tok ?_)))
 refine pa (nx (aD ?_))
 cases h0
 exact eI (rs := [.cell 4 62, .tmp 5]) rfl
theorem aAf {p0 : List bE} {p1 : aA} {r : aA × Int} (h0 : lS p0 p1 = some r) : FnC Tryz.prog 225 [] [dL bW p0, .agg [dI p1.Num,(dI p1.Den)]] [] (.tup [.agg [dI r.1.Num,(dI r.1.Den)],(dI r.2)]) := by
 refine fi 27 tok Tryz.func225 ?_
 unfold lS at h0
 refine sq [0,1,2] (bxx 3 ?_)
 refine al 4 [z0,z0] tok ?_
 refine pa (nx (sq [0,1,2,3,4,5,6,7] ?_))
 refine pm ?_
 obtain ⟨v1,hv1,h0⟩ := bnd h0
 refine rS rfl (aM 5 (aC0 hv1) rfl rfl rfl) (rP rfl (aF (r := .tup _) rfl) (rP rfl (aJ rfl rfl) (rP rfl (aJ rfl rfl) (al 5 [z0,z0] tok ?_))))
 refine bst tok ?_
 refine pa (nx (aE (sq [0,1] ?_)))
 refine pm ?_
 refine rP rfl (eB rfl rfl) (nx ?_)
 refine bR h0 rfl (fun hc h0 => ?_) (fun hc h0 => ?_)
 refine sq [0,1,2,3] (rP rfl (pbl (C0 := [z0,z0]) tok rfl rfl rfl) (pm ?_))
 refine bst tok ?_
 refine pa (nx (aD (aT ?_)))
 cases h0
 exact eI (rs := [.cell 4 62, .tmp 5]) rfl
 refine sk (aE (aK (is := [0,1,3,4,6,2,5,7,8,9,10,11]) [0,1,3,0,8,31,0,127,255,255,1023,2047] follows (by kernel_rfl) (tfa tok ?_)))
 refine tld tok ?_
 refine tfa tok ?_
 refine tld tok ?_
 refine dG rfl w0 rfl (aW tok rfl rfl rfl rfl) rfl rfl rfl ?_
 obtain ⟨v2,hv2,h0⟩ := bnd h0
 refine mS rfl w0 rfl (dF 6 (aBn hv2) rfl rfl rfl) (tP rfl (pbl (C0 := [z0,z0]) tok rfl rfl rfl) ?_)
 obtain ⟨v3,hv3,h0⟩ := bnd h0
 refine mS rfl w0 rfl (dF 6 (zL hv3) rfl rfl rfl) (tP rfl (aJ rfl rfl) (tP rfl (aJ rfl rfl) (qH rfl w0 (kY (cs := _ :: _) tok rfl rfl rfl rfl rfl rfl rfl) (tpa ?_))))
 refine bS ?_
 refine ⟨by kernel_rfl,?_⟩
 refine aH (aD ?_)
 cases h0
 exact eI (rs := [.cell 4 62, .tmp 5]) rfl
theorem aH9 {p0 : List bE} {p1 : aA} {r : aA × Int} (h0 : qU p0 p1 = some r) : FnC Tryz.prog 148 [] [dL bW p0, .agg [dI p1.Num,(dI p1.Den)]] [] (.tup [.agg [dI r.1.Num,(dI r.1.Den)],(dI r.2)]) := by
 refine fi 30 tok Tryz.func148 ?_
 unfold qU at h0
 refine sq [0,1,2] (bxx 3 ?_)
 refine al 4 [z0,z0] tok ?_
 refine pa (nx (aE ?_))
 obtain ⟨v3,h1,h0⟩ := bnd h0
 refine bC ⟨aB (aB (aB (aB ((fun _ => .dead)) 0 (dL bW p0)) 3 (.ptr 3 0 1 0 0)) 4 (.ptr 4 0 1 0 0)) 15 (dB v3),lks [.no, .no, .no, .live [⟨62,2, .av [[dI p1.Num,(dI p1.Den)]]⟩], .live [⟨62,2, .av [[z0,z0]]⟩]]⟩ ?_ ?_
 refine sr [0,1,2,3,4,5,6,7] (pm ?_)
 obtain ⟨v1,hv1,h1⟩ := bnd h1
 refine rS rfl (aM 5 (aCu hv1) rfl rfl rfl) (rP rfl (cE rfl) (pm ?_))
 refine dQ (u := 11) h1 rfl (fun hc h1 => ?_) (fun hc h1 => ?_)
 iterate 3 refine k1 ?_
 refine pkt (nx ?_)
 cases h1
 exact wk [0,1,2,3,4]
 refine rl rfl (w1 rfl rfl rfl) rfl (aW tok rfl rfl rfl rfl) ?_
 obtain ⟨v2,hv2,h1⟩ := bnd h1
 refine rs rfl (w1 rfl rfl rfl) rfl (aM 5 (fH hv2) rfl rfl rfl) (rp rfl (w1 rfl rfl rfl) rfl (cE rfl) (pkf (nx ?_)))
 cases h1
 exact wk [0,1,2,3,4]
 refine bP h0 rfl (fun hc h0 => ?_) (fun hc h0 => ?_)
 refine sq [0,1,2] (rP rfl (pbl (C0 := [z0,z0]) tok rfl rfl rfl) (bst tok ?_))
 refine pa (nx (aD (aT ?_)))
 cases h0
 exact eI (rs := [.cell 4 62, .tmp 5]) rfl
 refine sk (sq [0,1,2,3,4,5,6,7,8] (pm ?_))
 refine rL rfl (aW tok rfl rfl rfl rfl) ?_
 obtain ⟨v4,hv4,h0⟩ := bnd h0
 refine rS rfl (aM 5 (aAf hv4) rfl rfl rfl) (rP rfl (aF (r := .tup _) rfl) (rP rfl (aJ rfl rfl) (rP rfl (aJ rfl rfl) (al 5 [z0,z0] tok ?_))))
 refine bst tok ?_
 refine pa (nx (aE ?_))
 refine aK (is := [0,1,3,4,6,2,5,7,8]) [0,1,3,0,8,31,0,63,255] follows (by kernel_rfl) (tfa tok ?_)
 refine tld tok ?_
 refine tfa tok ?_
 refine tld tok ?_
 refine tpm ?_
 obtain ⟨v5,hv5,h0⟩ := bnd h0
 refine mS rfl w0 rfl (dF 6 (aBn hv5) rfl rfl rfl) (tP rfl (pbl (C0 := [z0,z0]) tok rfl rfl rfl) (qH rfl w0 (kY (cs := _ :: _) tok rfl rfl rfl rfl rfl rfl rfl) (tpa ?_)))
 refine bS ?_
 refine ⟨by kernel_rfl,?_⟩
 refine aH (aD ?_)
 cases h0
 exact eI (rs := [.cell 4 62, .tmp 5]) rfl
theorem aEn {p0 : aA} {p1 : iD} {r : sE × Int} (h0 : nE p0 p1 = some r) : FnC Tryz.prog 69 [] [.agg [dI p0.Num,(dI p0.Den)], .agg [dI p1.LowDriver,(dI p1.HighDriver),(dI p1.LowDriven),(dI p1.HighDriven),(dI p1.Stages)]] [] (.tup [.agg [dL bW r.1.Train,(dI r.1.Error.Num),(dI r.1.Error.Den)],(dI r.2)]) := by
 refine fi 33 tok Tryz.func69 ?_
 unfold nE at h0
 refine sq [0,1,2,3] (bxx 3 ?_)
 refine bxx 4 ?_
 refine al 5 [zl,z0,z0] tok ?_
 refine pa (nx (aE (sq [0,1,2,3] ?_)))
 refine rL rfl (aW tok rfl rfl rfl rfl) (rL rfl (aW tok rfl rfl rfl rfl) ?_)
 obtain ⟨v1,hv1,h0⟩ := bnd h0
 refine rS rfl (aM 6 (aIa hv1) rfl rfl rfl) (pa (nx (sq [0,1] ?_)))
 refine pm ?_
 refine rP rfl (eB rfl rfl) (nx ?_)
 refine bR h0 rfl (fun hc h0 => ?_) (fun hc h0 => ?_)
 refine sq [0,1,2,3] (rP rfl (pbl (C0 := [zl,z0,z0]) tok rfl rfl rfl) (pm ?_))
 refine bst tok ?_
 refine pa (nx ?_)
 refine wa 6 121 2 5 0 ?_
 refine cM (yP (k := 6) (t' := aB (aB ((fun _ => .dead)) 4 (.ptr 5 0 1 0 0)) 5 (dI v1)) rfl (FzL.box (kb := 5) (ds := [dL bW ([] : List bE),z0,z0]) rfl rfl (by repeat (first | exact oZ.nil | apply oZ.cons | exact FzR.d _ | exact FzR.own rfl (by first | rfl | (simp; done) | (simp; omega)) | exact FzR.ptr rfl (by repeat (first | exact Drp.z _ | apply Drp.d)) | exact FzR.own' | exact FzR.ptr' | exact FzR.ref _ | apply FzR.agg | apply FzR.tup | apply FzR.fn | exact FzR.dead _)) (FzL.nil))) (aD (aT ?_))
 cases h0
 exact eI (rs := [.cell 4 115, .tmp 5]) rfl
 refine sk (sq [0,1,2,3] (rL rfl (aW tok rfl rfl rfl rfl) (rL rfl (aW tok rfl rfl rfl rfl) ?_)))
 obtain ⟨v2,hv2,h0⟩ := bnd h0
 refine rS rfl (aM 6 (aEs hv2) rfl rfl rfl) (pa (nx (sq [0,1,2,3,4,5,6,7,8] ?_)))
 refine pm ?_
 refine rL rfl (aW tok rfl rfl rfl rfl) ?_
 obtain ⟨v3,hv3,h0⟩ := bnd h0
 refine rS rfl (aM 6 (aH9 hv3) rfl rfl rfl) (rP rfl (aF (r := .tup _) rfl) (rP rfl (aJ rfl rfl) (rP rfl (aJ rfl rfl) (al 6 [z0,z0] tok ?_))))
 refine bst tok ?_
 refine pa (nx (aE (sq [0,1] ?_)))
 refine pm ?_
 refine rP rfl (eB rfl rfl) (nx ?_)
 refine bR h0 rfl (fun hc h0 => ?_) (fun hc h0 => ?_)
 refine sq [0,1,2,3] (rP rfl (pbl (C0 := [zl,z0,z0]) tok rfl rfl rfl) (pm ?_))
 refine bst tok ?_
 refine pa (nx ?_)
 refine wa 7 121 2 5 0 ?_
 refine cM (yP (k := 7) (t' := aB (aB ((fun _ => .dead)) 4 (.ptr 5 0 1 0 0)) 5 (dI v3.2)) rfl (FzL.box (kb := 5) (ds := [dL bW ([] : List bE),z0,z0]) rfl rfl (by repeat (first | exact oZ.nil | apply oZ.cons | exact FzR.d _ | exact FzR.own rfl (by first | rfl | (simp; done) | (simp; omega)) | exact FzR.ptr rfl (by repeat (first | exact Drp.z _ | apply Drp.d)) | exact FzR.own' | exact FzR.ptr' | exact FzR.ref _ | apply FzR.agg | apply FzR.tup | apply FzR.fn | exact FzR.dead _)) (FzL.nil))) (aD (aT ?_))
 cases h0
 exact eI (rs := [.cell 4 115, .tmp 5]) rfl
 refine sk (sq [0,1,2,3,4] (pm ?_))
 refine rL rfl (aW tok rfl rfl rfl rfl) (rP rfl (pbl (C0 := [zl,z0,z0]) tok rfl rfl rfl) (bst tok ?_))
 refine pa (nx (aD ?_))
 cases h0
 exact eI (rs := [.cell 4 115, .tmp 5]) rfl
theorem sD {p0 : List cY} {r : List cY} (h0 : fK p0 = some r) : FnC Tryz.prog 226 [] [dL cQ p0] [.live [⟨125,4, .data (List.map cQ r)⟩]] (.own 0 0 r.length) := by
 refine fi 8 tok Tryz.func226 ?_
 unfold fK at h0
 obtain ⟨hq1,h0⟩ := dM h0
 cases h0
 refine aAl (d := 0) rfl rfl (fun hne => ?_) (fun he A k hk => ?_)
 ·skip
  refine aE (bT (is := [0]) rfl (rP rfl (aR (r := .d _) rfl) (aX (aH (aE (aE (bT (is := [0,1]) rfl (rP rfl (aF (r := .d _) rfl) (rP rfl (rE tok rfl hne rfl rfl rfl) (aX (aH (pA rfl (cW (aH (aE (bT (is := [0,1,2,3]) rfl (rS rfl (eM 3 tok rfl rfl rfl rfl) (rP rfl (aF (r := .d _) rfl) (rw1 rfl w0 rfl (fL tok hq1 rfl rfl rfl rfl rfl rfl rfl rfl rfl rfl rfl rfl (fun _ => rfl)) (rP rfl (aR (r := .own _ _ _) rfl) (aX (aH (aD ?_)))))))))))))))))))))))
  exact eK (rs := [.tmp 2]) [3] rfl
 ·skip
  have he : p0 = [] := List.map_eq_nil_iff.1 he
  subst he
  cases A with
  | none =>
   refine aE (bT (is := [0]) rfl (rP rfl (aR (r := .d _) rfl) (aX (aH (aE (aE (bT (is := [0,1]) rfl (rP rfl (aF (r := .d _) rfl) (rP rfl (kO tok rfl rfl rfl rfl) (aX (aH (wX rfl (aE (bT (is := [0]) rfl (rP rfl (aR (r := .d _) rfl) (aX (aH (cM (dE 3 rfl 125 4 (d := 2) rfl) (aD (aT ?_))))))))))))))))))))
   exact eK (rs := [.tmp 2]) [3] rfl
  | some a =>
   refine aE (bT (is := [0]) rfl (rP rfl (aR (r := .d _) rfl) (aX (aH (aE (aE (bT (is := [0,1]) rfl (rP rfl (aF (r := .d _) rfl) (rP rfl (kO tok rfl rfl rfl rfl) (aX (aH (pA rfl (cW (aH (cM (yN cQ (d := 0) rfl hk) (aE (bT (is := [0,1,2,3]) rfl (rS rfl (eM 3 tok rfl rfl rfl rfl) (rP rfl (aF (r := .d _) rfl) (rw1 rfl w0 rfl (fL tok hq1 rfl rfl rfl rfl rfl rfl rfl rfl rfl rfl rfl rfl (fun _ => rfl)) (rP rfl (aR (r := .own _ _ _) rfl) (aX (aH (aD ?_))))))))))))))))))))))))
   exact eK (rs := [.tmp 2]) [3] rfl
theorem aEu {p0 : bJ} {r : bJ} (h0 : nH p0 = some r) : FnC Tryz.prog 149 [] [.agg [dL bF p0.Arbors,(dL cQ p0.Meshes)]] [.live [⟨123,2, .av (pK 1 bF r.Arbors)⟩], .live (aBf 2 1 bF r.Arbors), .live [⟨125,4, .data (List.map cQ r.Meshes)⟩]] (.agg [.own 0 0 r.Arbors.length, .own 2 0 r.Meshes.length]) := by
 refine fi 30 tok Tryz.func149 ?_
 unfold nH at h0
 refine sq [0,1] (bxx 3 ?_)
 refine al 4 [zl,zl] tok (nx (sq [0] ?_))
 refine al 5 [zl,zl] tok (nx ?_)
 obtain ⟨v9,h1,h0⟩ := bnd h0
 refine bC ⟨aB (aB (aB ((fun _ => .dead)) 1 (.ptr 3 0 1 0 0)) 2 (.ptr 4 0 1 0 0)) 3 (.ptr 5 0 1 0 0),lks [.no, .no, .no, .live [⟨27,2, .av [[dL bF p0.Arbors,(dL cQ p0.Meshes)]]⟩], .live [⟨27,2, .av [[zl,zl]]⟩], .live [⟨27,2, .av [[.own 6 0 (v9).length,zl]]⟩], .live [⟨123,2, .av (pK 7 bF v9)⟩], .live (aBf 2 1 bF v9)]⟩ ?_ ?_
 refine sq [0,1,2,3] (fa tok ?_)
 refine ld tok ?_
 refine rP rfl (aL tok rfl rfl rfl) (pm (nx (aG ?_)))
 refine aZ (fun s5 => ⟨aB (aB (aB (aB (aB (aB ((fun _ => .dead)) 1 (.ptr 3 0 1 0 0)) 2 (.ptr 4 0 1 0 0)) 3 (.ptr 5 0 1 0 0)) 7 (dL bF p0.Arbors)) 8 (dI (p0.Arbors.length : Int))) 9 (dI s5.1),lks [.no, .no, .no, .live [⟨27,2, .av [[dL bF p0.Arbors,(dL cQ p0.Meshes)]]⟩], .live [⟨27,2, .av [[zl,zl]]⟩], .live [⟨27,2, .av [[.own 6 0 (s5.2).length,zl]]⟩], .live [⟨123,2, .av (pK 7 bF s5.2)⟩], .live (aBf 2 1 bF s5.2)]⟩) h1 ?_ (fun s5 y h2 => ?_)
 refine lO.trans_ (sW 6 rfl 123 2 (kb := 5) (j := 0) rfl rfl (by repeat (first | exact Spl.z _ | apply Spl.t | apply Spl.d))) (lO.trans_ (gI 7 (k := 6) 2 1 bF rfl rfl) ?_)
 exact wk [0,1,2,3,4,5,6,7]
 refine sq [0] (rP rfl (bK rfl rfl) (nx (aE ?_)))
 refine bR h2 rfl (fun hc h2 => ?_) (fun hc h2 => ?_)
 refine sk (aE (aG (sq [0,1,2,3] ?_)))
 obtain ⟨v6,hv6,h2⟩ := bnd h2
 refine rP rfl (cO tok hv6 rfl rfl rfl rfl rfl rfl) (rP rfl (bU tok rfl rfl rfl (by repeat (first | exact lN.z _ | apply lN.t))) (al 8 [ze,zl] tok ?_))
 refine bst tok (nx ?_)
 refine aA7 (is := [0,1,2,3,4,5,6,7,8,9,10,11]) [0,1,0,4,0,16,48,124,252,511,1023,2047] follows (by kernel_rfl) (tfa tok ?_)
 refine tld tok ?_
 refine tfa tok ?_
 refine tld tok ?_
 refine tfa tok ?_
 refine tld tok ?_
 obtain ⟨v7,hv7,h2⟩ := bnd h2
 refine mS rfl w0 rfl (dF 10 (gT hv7) rfl rfl rfl) (tP rfl (pbl (C0 := [ze,zl]) tok rfl rfl rfl) (aSh rfl w0 rfl (aUr 11 tok rfl rfl rfl (by repeat (first | exact Els.nil _ | apply Els.cons (cs := [.d _]) rfl rfl rfl | apply Els.cons (cs := _ :: _) rfl rfl rfl)) rfl rfl rfl rfl) ?_))
 obtain ⟨hq8,h2⟩ := dM h2
 refine yB rfl w0 rfl (aR4 tok (⟨v6.Name,v7⟩ : dH) hq8 rfl rfl rfl rfl rfl rfl rfl rfl rfl rfl rfl rfl rfl rfl rfl) (tfa tok ?_)
 refine qH rfl w0 (kY (cs := [.own _ _ _]) tok rfl rfl rfl rfl rfl rfl rfl) (bS ?_)
 refine ⟨by kernel_rfl,_,lO.trans_ (aKz 12 (k := 6) (kf := 7) (k2 := 10) (⟨v6.Name,v7⟩ : dH) rfl rfl rfl rfl rfl rfl rfl (by repeat (first | exact aL1.nil | apply aL1.v | apply aL1.sl (by first | rfl | (simp; done)))) rfl rfl rfl) (lO.refl_),?_⟩
 refine bB (aH (sr [0,1] (rP rfl (bN rfl rfl) (pm (aX ?_)))))
 refine cB ?_
 cases h2
 refine ⟨_,rfl,?_⟩
 exact wk [0,1,2,3,4,5,6,12]
 refine bI (cC ?_)
 cases h2
 refine cD ⟨_,rfl,fun e => ?_⟩
 subst e
 refine aU (aH ?_)
 exact wk [0,1,2,3,4,5,6,7]
 refine sq [0,1,2,3,4] (fa tok ?_)
 refine ld tok ?_
 obtain ⟨v10,hv10,h0⟩ := bnd h0
 refine rS rfl (aM 8 (sD hv10) rfl rfl rfl) (fa tok ?_)
 refine rw0 rfl w0 (kY (cs := [.own _ _ _]) tok rfl rfl rfl rfl rfl rfl rfl) (nx (sq [0,1] (rL rfl (aW tok rfl rfl rfl rfl) (bst tok (nx (aD ?_))))))
 cases h0
 exact eK (rs := [.cell 2 27]) [6,7,8] rfl
theorem rM {p0 : List cA} {r : List cA} (h0 : eW p0 = some r) : FnC Tryz.prog 150 [] [dL aY p0] [.live [⟨170,3, .data (List.map aY r)⟩]] (.own 0 0 r.length) := by
 refine fi 8 tok Tryz.func150 ?_
 unfold eW at h0
 obtain ⟨hq1,h0⟩ := dM h0
 cases h0
 refine aAl (d := 0) rfl rfl (fun hne => ?_) (fun he A k hk => ?_)
 ·skip
  refine aE (bT (is := [0]) rfl (rP rfl (aR (r := .d _) rfl) (aX (aH (aE (aE (bT (is := [0,1]) rfl (rP rfl (aF (r := .d _) rfl) (rP rfl (rE tok rfl hne rfl rfl rfl) (aX (aH (pA rfl (cW (aH (aE (bT (is := [0,1,2,3]) rfl (rS rfl (eM 3 tok rfl rfl rfl rfl) (rP rfl (aF (r := .d _) rfl) (rw1 rfl w0 rfl (fL tok hq1 rfl rfl rfl rfl rfl rfl rfl rfl rfl rfl rfl rfl (fun _ => rfl)) (rP rfl (aR (r := .own _ _ _) rfl) (aX (aH (aD ?_)))))))))))))))))))))))
  exact eK (rs := [.tmp 2]) [3] rfl
 ·skip
  have he : p0 = [] := List.map_eq_nil_iff.1 he
  subst he
  cases A with
  | none =>
   refine aE (bT (is := [0]) rfl (rP rfl (aR (r := .d _) rfl) (aX (aH (aE (aE (bT (is := [0,1]) rfl (rP rfl (aF (r := .d _) rfl) (rP rfl (kO tok rfl rfl rfl rfl) (aX (aH (wX rfl (aE (bT (is := [0]) rfl (rP rfl (aR (r := .d _) rfl) (aX (aH (cM (dE 3 rfl 170 3 (d := 2) rfl) (aD (aT ?_))))))))))))))))))))
   exact eK (rs := [.tmp 2]) [3] rfl
  | some a =>
   refine aE (bT (is := [0]) rfl (rP rfl (aR (r := .d _) rfl) (aX (aH (aE (aE (bT (is := [0,1]) rfl (rP rfl (aF (r := .d _) rfl) (rP rfl (kO tok rfl rfl rfl rfl) (aX (aH (pA rfl (cW (aH (cM (yN aY (d := 0) rfl hk) (aE (bT (is := [0,1,2,3]) rfl (rS rfl (eM 3 tok rfl rfl rfl rfl) (rP rfl (aF (r := .d _) rfl) (rw1 rfl w0 rfl (fL tok hq1 rfl rfl rfl rfl rfl rfl rfl rfl rfl rfl rfl rfl (fun _ => rfl)) (rP rfl (aR (r := .own _ _ _) rfl) (aX (aH (aD ?_))))))))))))))))))))))))
   exact eK (rs := [.tmp 2]) [3] rfl
theorem nU {p0 : List bD} {r : List bD} (h0 : dY p0 = some r) : FnC Tryz.prog 151 [] [dL aP p0] [.live [⟨181,3, .data (List.map aP r)⟩]] (.own 0 0 r.length) := by
 refine fi 8 tok Tryz.func151 ?_
 unfold dY at h0
 obtain ⟨hq1,h0⟩ := dM h0
 cases h0
 refine aAl (d := 0) rfl rfl (fun hne => ?_) (fun he A k hk => ?_)
 ·skip
  refine aE (bT (is := [0]) rfl (rP rfl (aR (r := .d _) rfl) (aX (aH (aE (aE (bT (is := [0,1]) rfl (rP rfl (aF (r := .d _) rfl) (rP rfl (rE tok rfl hne rfl rfl rfl) (aX (aH (pA rfl (cW (aH (aE (bT (is := [0,1,2,3]) rfl (rS rfl (eM 3 tok rfl rfl rfl rfl) (rP rfl (aF (r := .d _) rfl) (rw1 rfl w0 rfl (fL tok hq1 rfl rfl rfl rfl rfl rfl rfl rfl rfl rfl rfl rfl (fun _ => rfl)) (rP rfl (aR (r := .own _ _ _) rfl) (aX (aH (aD ?_)))))))))))))))))))))))
  exact eK (rs := [.tmp 2]) [3] rfl
 ·skip
  have he : p0 = [] := List.map_eq_nil_iff.1 he
  subst he
  cases A with
  | none =>
   refine aE (bT (is := [0]) rfl (rP rfl (aR (r := .d _) rfl) (aX (aH (aE (aE (bT (is := [0,1]) rfl (rP rfl (aF (r := .d _) rfl) (rP rfl (kO tok rfl rfl rfl rfl) (aX (aH (wX rfl (aE (bT (is := [0]) rfl (rP rfl (aR (r := .d _) rfl) (aX (aH (cM (dE 3 rfl 181 3 (d := 2) rfl) (aD (aT ?_))))))))))))))))))))
   exact eK (rs := [.tmp 2]) [3] rfl
  | some a =>
   refine aE (bT (is := [0]) rfl (rP rfl (aR (r := .d _) rfl) (aX (aH (aE (aE (bT (is := [0,1]) rfl (rP rfl (aF (r := .d _) rfl) (rP rfl (kO tok rfl rfl rfl rfl) (aX (aH (pA rfl (cW (aH (cM (yN aP (d := 0) rfl hk) (aE (bT (is := [0,1,2,3]) rfl (rS rfl (eM 3 tok rfl rfl rfl rfl) (rP rfl (aF (r := .d _) rfl) (rw1 rfl w0 rfl (fL tok hq1 rfl rfl rfl rfl rfl rfl rfl rfl rfl rfl rfl rfl (fun _ => rfl)) (rP rfl (aR (r := .own _ _ _) rfl) (aX (aH (aD ?_))))))))))))))))))))))))
   exact eK (rs := [.tmp 2]) [3] rfl
theorem aAd {p0 : aV} {r : aV} (h0 : jL p0 = some r) : FnC Tryz.prog 70 [] [.agg [dS p0.Name,(dL bF p0.Works.Arbors),(dL cQ p0.Works.Meshes),(dI p0.Minute),(dI p0.Hour),(dI p0.Escape),(dI p0.Teeth),(dI p0.Beats),(dS p0.Calendar.Name),(dL aY p0.Calendar.Months),(dL aP p0.Calendar.Rules),(dI p0.Calendar.Week),(dL cI p0.Cam),(dI p0.Strike)]] [.live [⟨123,2, .av (pK 1 bF r.Works.Arbors)⟩], .live (aBf 2 1 bF r.Works.Arbors), .live [⟨125,4, .data (List.map cQ r.Works.Meshes)⟩], .live [⟨170,3, .data (List.map aY r.Calendar.Months)⟩], .live [⟨181,3, .data (List.map aP r.Calendar.Rules)⟩], .live [⟨2,1, .data (List.map cI r.Cam)⟩]] (.agg [dS r.Name, .own 0 0 r.Works.Arbors.length, .own 2 0 r.Works.Meshes.length,(dI r.Minute),(dI r.Hour),(dI r.Escape),(dI r.Teeth),(dI r.Beats),(dS r.Calendar.Name), .own 3 0 r.Calendar.Months.length, .own 4 0 r.Calendar.Rules.length,(dI r.Calendar.Week), .own 5 0 r.Cam.length,(dI r.Strike)]) := by
 refine fi 24 tok Tryz.func70 ?_
 unfold jL at h0
 refine sq [0,1] (bxx 3 ?_)
 refine al 4 [ze,zl,zl,z0,z0,z0,z0,z0,ze,zl,zl,z0,zl,z0] tok (nx (sq [0,1,2,3,4] ?_))
 refine fa tok ?_
 refine rL rfl (aW tok rfl rfl rfl rfl) ?_
 obtain ⟨v1,hv1,h0⟩ := bnd h0
 refine rS rfl (aM 5 (aEu hv1) rfl rfl rfl) (fa tok ?_)
 refine bst tok (nx (sq [0,1,2,3,4,5,6] ?_))
 refine fa tok ?_
 refine fa tok ?_
 refine ld tok ?_
 obtain ⟨v2,hv2,h0⟩ := bnd h0
 refine rS rfl (aM 8 (rM hv2) rfl rfl rfl) (fa tok ?_)
 refine fa tok ?_
 refine rw0 rfl w0 (kY (cs := [.own _ _ _]) tok rfl rfl rfl rfl rfl rfl rfl) (nx (sq [0,1,2,3,4,5,6] (fa tok ?_)))
 refine fa tok ?_
 refine ld tok ?_
 obtain ⟨v3,hv3,h0⟩ := bnd h0
 refine rS rfl (aM 9 (nU hv3) rfl rfl rfl) (fa tok ?_)
 refine fa tok ?_
 refine rw0 rfl w0 (kY (cs := [.own _ _ _]) tok rfl rfl rfl rfl rfl rfl rfl) (nx (sq [0,1,2,3,4] (fa tok ?_)))
 refine ld tok ?_
 obtain ⟨v4,hv4,h0⟩ := bnd h0
 refine rS rfl (aM 10 (gT hv4) rfl rfl rfl) (fa tok ?_)
 refine rw0 rfl w0 (kY (cs := [.own _ _ _]) tok rfl rfl rfl rfl rfl rfl rfl) (nx (sq [0,1] (rL rfl (aW tok rfl rfl rfl rfl) (bst tok (nx (aD ?_))))))
 cases h0
 exact eK (rs := [.cell 2 34]) [5,6,7,8,9,10] rfl
end Go.Proofs.YtgcdbbidmfdonaaGreat
