/- Texts of this claim, one behind the other (merged by a program of mine). -/
import Derived.Test.YtgcdbbidmfdonaaGreatProg
import Derived.Test.YtgcdbbidmfdonaaGreatGR4
set_option linter.unusedSimpArgs false
set_option linter.unusedVariables false
namespace Go.Proofs.YtgcdbbidmfdonaaGreat
open Go.RowKit
set_option linter.unusedVariables false
set_option maxRecDepth 100000
set_option maxHeartbeats 2000000
theorem aBe {p0 : List dX} {r : bE} (h0 : mB p0 = some r) : FnC Tryz.prog 96 [] [dL eT p0] [.live [⟨123, 2, .data (List.map aM r.Arbors)⟩], .live [⟨125, 4, .data (List.map bF r.Meshes)⟩]] (.agg [.own 0 0 r.Arbors.length, .own 1 0 r.Meshes.length]) := by
 refine fi 36 tok Tryz.func96 ?_
 unfold mB at h0
 refine sq [0] (al 3 [zl, zl] tok (nx (aD ?_)))
 refine aC (is := [0,1,2,3,6,7,8,9,10,11,12,13,16,17,18,19,27,28,29,30,4,5,14,15,20,21,22,23,24,25,26,31,32,33]) [0,1,3,7,15,31,0,64,192,448,0,1024,3072,7168,16320,32704,0,65536,196608,458752,983040,2031616,0,4194304,0,16777216,67108863,0,0,0,0,2013265920,4294967295,8589934591] follows (by kernel_rfl) (tpm ?_)
 obtain ⟨v1, hv1, h0⟩ := bnd h0
 refine tP rfl (cK tok hv1 rfl rfl rfl rfl rfl rfl) (tfr tok ?_)
 refine tlr tok ?_
 refine tpm ?_
 obtain ⟨v2, hv2, h0⟩ := bnd h0
 refine tP rfl (cK tok hv2 rfl rfl rfl rfl rfl rfl) (tfr tok ?_)
 refine tlr tok ?_
 refine tpm ?_
 obtain ⟨v3, hv3, h0⟩ := bnd h0
 refine tP rfl (cK tok hv3 rfl rfl rfl rfl rfl rfl) (tfr tok ?_)
 refine tlr tok ?_
 refine tpm ?_
 obtain ⟨v4, hv4, h0⟩ := bnd h0
 refine tP rfl (cK tok hv4 rfl rfl rfl rfl rfl rfl) (tfr tok ?_)
 refine tlr tok ?_
 iterate 4 refine tP rfl (pbl (C0 := [z0, z0, z0, z0]) tok rfl rfl rfl) ?_
 refine aAz rfl w0 rfl rfl (fun hx hk => xA 4 tok cI [v1.Driver, 12] rfl rfl rfl (by repeat (first | exact Els.nil _ | apply Els.cons (cs := [.d _]) rfl rfl rfl | apply Els.cons (cs := _ :: _) rfl rfl rfl)) rfl rfl rfl (by repeat (first | exact cZ.nil | (apply cZ.cons; (repeat (first | exact gA.nil | apply gA.cons))))) rfl hk) (tP rfl (pbl (C0 := [ze, zl]) tok rfl rfl rfl) (aAz rfl w0 rfl rfl (fun hx hk => xA 5 tok cI [v2.Driven, v3.Driver] rfl rfl rfl (by repeat (first | exact Els.nil _ | apply Els.cons (cs := [.d _]) rfl rfl rfl | apply Els.cons (cs := _ :: _) rfl rfl rfl)) rfl rfl rfl (by repeat (first | exact cZ.nil | (apply cZ.cons; (repeat (first | exact gA.nil | apply gA.cons))))) rfl hk) (tP rfl (pbl (C0 := [ze, zl]) tok rfl rfl rfl) (aAz rfl w0 rfl rfl (fun hx hk => xA 6 tok cI [v4.Driven] rfl rfl rfl (by repeat (first | exact Els.nil _ | apply Els.cons (cs := [.d _]) rfl rfl rfl | apply Els.cons (cs := _ :: _) rfl rfl rfl)) rfl rfl rfl (by repeat (first | exact cZ.nil | (apply cZ.cons; (repeat (first | exact gA.nil | apply gA.cons))))) rfl hk) (tP rfl (pbl (C0 := [ze, zl]) tok rfl rfl rfl) (aAz rfl w0 rfl rfl (fun hx hk => xA 7 tok cI [36,10] rfl rfl rfl (by repeat (first | exact Els.nil _ | apply Els.cons (cs := [.d _]) rfl rfl rfl | apply Els.cons (cs := _ :: _) rfl rfl rfl)) rfl rfl rfl (by repeat (first | exact cZ.nil | (apply cZ.cons; (repeat (first | exact gA.nil | apply gA.cons))))) rfl hk) (tP rfl (pbl (C0 := [ze, zl]) tok rfl rfl rfl) (aAz rfl w0 rfl rfl (fun hx hk => xA 8 tok cI [40] rfl rfl rfl (by repeat (first | exact Els.nil _ | apply Els.cons (cs := [.d _]) rfl rfl rfl | apply Els.cons (cs := _ :: _) rfl rfl rfl)) rfl rfl rfl (by repeat (first | exact cZ.nil | (apply cZ.cons; (repeat (first | exact gA.nil | apply gA.cons))))) rfl hk) (tP rfl (pbl (C0 := [ze, zl]) tok rfl rfl rfl) (aAz rfl w0 rfl rfl (fun hx hk => uH 9 tok aM [(⟨(⟨#[99,101,110,116,101,114]⟩ : ByteArray), [v1.Driver, 12]⟩ : cQ), (⟨(⟨#[116,104,105,114,100]⟩ : ByteArray), [v2.Driven, v3.Driver]⟩ : cQ), (⟨(⟨#[101,115,99,97,112,101]⟩ : ByteArray), [v4.Driven]⟩ : cQ), (⟨(⟨#[109,105,110,117,116,101]⟩ : ByteArray), [36,10]⟩ : cQ), (⟨(⟨#[104,111,117,114]⟩ : ByteArray), [40]⟩ : cQ)] rfl rfl rfl (by repeat (first | exact Els.nil _ | apply Els.cons (cs := [.d _]) rfl rfl rfl | apply Els.cons (cs := _ :: _) rfl rfl rfl)) rfl rfl rfl (by repeat (first | exact cZ.nil | (apply cZ.cons; (repeat (first | exact gA.nil | apply gA.cons))))) rfl hk) (aAz rfl w0 rfl rfl (fun hx hk => uH 10 tok bF [(⟨0, 0, 1, 0⟩ : cH), (⟨1, 1, 2, 0⟩ : cH), (⟨0, 1, 3, 0⟩ : cH), (⟨3, 1, 4, 0⟩ : cH)] rfl rfl rfl (by repeat (first | exact Els.nil _ | apply Els.cons (cs := [.d _]) rfl rfl rfl | apply Els.cons (cs := _ :: _) rfl rfl rfl)) rfl rfl rfl (by repeat (first | exact cZ.nil | (apply cZ.cons; (repeat (first | exact gA.nil | apply gA.cons))))) rfl hk) (tP rfl (pbl (C0 := [zl, zl]) tok rfl rfl rfl) (iN rfl w0 (fR (cs := _ :: _) tok rfl rfl rfl rfl rfl rfl rfl) (bC ?_))))))))))))))
 refine ⟨by kernel_rfl, ?_⟩
 refine aI (aA ?_)
 cases h0
 exact dG (rs := [.cell 2 27]) [9,10] rfl

theorem aEi {p0 : aB} {r : aB} (h0 : nQ p0 = some r) : FnC Tryz.prog 97 [] [.ref (bY p0)] [.live [⟨170, 3, .data (List.map aP r.Months)⟩], .live [⟨181, 3, .data (List.map aF r.Rules)⟩]] (.agg [dS r.Name, .own 0 0 r.Months.length, .own 1 0 r.Rules.length, (dI r.Week)]) := by
 refine fi 22 tok Tryz.func97 ?_
 unfold nQ at h0
 refine sq [0] (al 3 [ze, zl, zl, z0] tok (nx (sq [0,1,2,3,4] ?_)))
 refine pmr ?_
 refine nr ?_
 refine rP rfl (bK tok rfl rfl rfl (by repeat (first | exact iA.z _ | apply iA.t))) (al 4 [ze, zl, zl, z0] tok ?_)
 refine bst tok (nx (sq [0,1,2,3,4,5,6,7] ?_))
 refine rS rfl (eM 5 tok rfl rfl rfl rfl) (pmr ?_)
 refine nr ?_
 refine fr tok ?_
 refine lr tok ?_
 obtain ⟨hq1, h0⟩ := dP h0
 refine rw1 rfl w0 rfl (fQ tok hq1 rfl rfl rfl rfl rfl rfl rfl rfl rfl rfl rfl rfl (fun _ => rfl)) (fa tok ?_)
 refine rw0 rfl w0 (fR (cs := [.own _ _ _]) tok rfl rfl rfl rfl rfl rfl rfl) (nx (sq [0,1,2,3,4,5,6,7] (rS rfl (eM 6 tok rfl rfl rfl rfl) (pmr ?_))))
 refine nr ?_
 refine fr tok ?_
 refine lr tok ?_
 obtain ⟨hq2, h0⟩ := dP h0
 refine rw1 rfl w0 rfl (fQ tok hq2 rfl rfl rfl rfl rfl rfl rfl rfl rfl rfl rfl rfl (fun _ => rfl)) (fa tok ?_)
 refine rw0 rfl w0 (fR (cs := [.own _ _ _]) tok rfl rfl rfl rfl rfl rfl rfl) (nx (sq [0,1] (rL rfl (aT tok rfl rfl rfl rfl) (bst tok (nx (aA ?_))))))
 cases h0
 exact dG (rs := [.cell 2 31]) [5,6] rfl

theorem zR {p0 : ByteArray} {p1 : Int} {p2 : Int} {p3 : aB} {p4 : Int} {r : aU × Int} (h0 : gX p0 p1 p2 p3 p4 = some r) : FnC Tryz.prog 31 [] [dS p0, (dI p1), (dI p2), .agg [dS p3.Name, (dL aP p3.Months), (dL aF p3.Rules), (dI p3.Week)], (dI p4)] [.live [⟨125, 4, .data (List.map bF r.1.Works.Meshes)⟩], .live [⟨170, 3, .data (List.map aP r.1.Calendar.Months)⟩], .live [⟨181, 3, .data (List.map aF r.1.Calendar.Rules)⟩], .live [⟨2, 1, .data (List.map cI r.1.Cam)⟩]] (.tup [.agg [dS r.1.Name, (dL aM r.1.Works.Arbors), .own 0 0 r.1.Works.Meshes.length, (dI r.1.Minute), (dI r.1.Hour), (dI r.1.Escape), (dI r.1.Teeth), (dI r.1.Beats), (dS r.1.Calendar.Name), .own 1 0 r.1.Calendar.Months.length, .own 2 0 r.1.Calendar.Rules.length, (dI r.1.Calendar.Week), .own 3 0 r.1.Cam.length, (dI r.1.Strike)], (dI r.2)]) := by
 refine fi 76 tok Tryz.func31 ?_
 unfold gX at h0
 refine sq [0,1,2] (bxx 3 ?_)
 refine al 4 [ze, zl, zl, z0, z0, z0, z0, z0, ze, zl, zl, z0, zl, z0] tok ?_
 refine pa (nx (aD (sq [0,1] ?_)))
 obtain ⟨v1, hv1, h0⟩ := bnd h0
 refine rS rfl (dR 5 (uZ hv1) rfl rfl) (rP rfl (bQ rfl) (nx ?_))
 refine bM h0 rfl (fun hc h0 => ?_) (fun hc h0 => ?_)
 refine sq [0,1,2] (rP rfl (pbl (C0 := [ze, zl, zl, z0, z0, z0, z0, z0, ze, zl, zl, z0, zl, z0]) tok rfl rfl rfl) (bst tok ?_))
 refine pa (nx ?_)
 refine wa 5 123 2 4 1 ?_
 refine cJ (dT 6 (k := 5) 2 1 aM rfl rfl) (cJ (sL (k := 5) (kf := 6) rfl rfl (fun _ => rfl) rfl) (cJ (aDs (k := 5) (t' := aE (aE ((fun _ => .dead)) 10 (.ptr 4 0 1 0 0)) 11 (dI 1)) rfl (FzL.box (kb := 4) (ds := [ze, (dL aM ([] : List cQ)), zl, z0, z0, z0, z0, z0, ze, zl, zl, z0, zl, z0]) rfl rfl (by repeat (first | exact pM.nil | apply pM.cons | exact FzR.d _ | exact FzR.own rfl (by first | rfl | (simp; done) | (simp; omega)) | exact FzR.ptr rfl (by repeat (first | exact Drp.z _ | apply Drp.d)) | exact FzR.own' | exact FzR.ptr' | exact FzR.ref _ | apply FzR.agg | apply FzR.tup | apply FzR.fn | exact FzR.dead _)) (FzL.nil))) (wa 7 125 4 4 2 ?_)))
 refine wa 8 170 3 4 9 ?_
 refine wa 9 181 3 4 10 ?_
 refine wa 10 2 1 4 12 (aA (aR ?_))
 cases h0
 exact dG (rs := [.cell 10 34, .tmp 11]) [7,8,9,10] rfl
 refine sk (aD (sq [0,1,2] (pm ?_)))
 obtain ⟨v2, hv2, h0⟩ := bnd h0
 refine rS rfl (aO 5 (sN hv2) rfl rfl rfl) (rP rfl (bQ rfl) (nx ?_))
 refine bM h0 rfl (fun hc h0 => ?_) (fun hc h0 => ?_)
 refine sq [0,1,2] (rP rfl (pbl (C0 := [ze, zl, zl, z0, z0, z0, z0, z0, ze, zl, zl, z0, zl, z0]) tok rfl rfl rfl) (bst tok ?_))
 refine pa (nx ?_)
 refine wa 5 123 2 4 1 ?_
 refine cJ (dT 6 (k := 5) 2 1 aM rfl rfl) (cJ (sL (k := 5) (kf := 6) rfl rfl (fun _ => rfl) rfl) (cJ (aDs (k := 5) (t' := aE (aE ((fun _ => .dead)) 10 (.ptr 4 0 1 0 0)) 11 (dI 7)) rfl (FzL.box (kb := 4) (ds := [ze, (dL aM ([] : List cQ)), zl, z0, z0, z0, z0, z0, ze, zl, zl, z0, zl, z0]) rfl rfl (by repeat (first | exact pM.nil | apply pM.cons | exact FzR.d _ | exact FzR.own rfl (by first | rfl | (simp; done) | (simp; omega)) | exact FzR.ptr rfl (by repeat (first | exact Drp.z _ | apply Drp.d)) | exact FzR.own' | exact FzR.ptr' | exact FzR.ref _ | apply FzR.agg | apply FzR.tup | apply FzR.fn | exact FzR.dead _)) (FzL.nil))) (wa 7 125 4 4 2 ?_)))
 refine wa 8 170 3 4 9 ?_
 refine wa 9 181 3 4 10 ?_
 refine wa 10 2 1 4 12 (aA (aR ?_))
 cases h0
 exact dG (rs := [.cell 10 34, .tmp 11]) [7,8,9,10] rfl
 refine sk (aD ?_)
 obtain ⟨v5, h1, h0⟩ := bnd h0
 refine bH ⟨aE (aE (aE (aE (aE (aE (aE ((fun _ => .dead)) 0 (dS p0)) 1 (dI p1)) 2 (dI p2)) 4 (dI p4)) 8 (.ptr 3 0 1 0 0)) 10 (.ptr 4 0 1 0 0)) 32 (dB v5), lks [.no, .no, .no, .live [⟨31, 4, .av [[dS p3.Name, (dL aP p3.Months), (dL aF p3.Rules), (dI p3.Week)]]⟩], .live [⟨34, 14, .av [[ze, zl, zl, z0, z0, z0, z0, z0, ze, zl, zl, z0, zl, z0]]⟩]]⟩ ?_ ?_
 refine sr [0,1,2,3,4,5,6,7] (pm ?_)
 obtain ⟨v3, hv3, h1⟩ := bnd h1
 refine rS rfl (aO 5 (cW hv3) rfl rfl rfl) (rP rfl (bQ rfl) (pm ?_))
 refine cY (u := 28) h1 rfl (fun hc h1 => ?_) (fun hc h1 => ?_)
 iterate 3 refine k1 ?_
 refine pkt (nx ?_)
 cases h1
 exact wk [0,1,2,3,4]
 refine pm1 ?_
 obtain ⟨v4, hv4, h1⟩ := bnd h1
 refine rs rfl (w1 rfl rfl rfl) rfl (aO 5 (pH hv4) rfl rfl rfl) (rp rfl (w1 rfl rfl rfl) rfl (bQ rfl) (pkf (nx ?_)))
 cases h1
 exact wk [0,1,2,3,4]
 refine bM h0 rfl (fun hc h0 => ?_) (fun hc h0 => ?_)
 refine sq [0,1,2] (rP rfl (pbl (C0 := [ze, zl, zl, z0, z0, z0, z0, z0, ze, zl, zl, z0, zl, z0]) tok rfl rfl rfl) (bst tok ?_))
 refine pa (nx ?_)
 refine wa 5 123 2 4 1 ?_
 refine cJ (dT 6 (k := 5) 2 1 aM rfl rfl) (cJ (sL (k := 5) (kf := 6) rfl rfl (fun _ => rfl) rfl) (cJ (aDs (k := 5) (t' := aE (aE ((fun _ => .dead)) 10 (.ptr 4 0 1 0 0)) 11 (dI 2)) rfl (FzL.box (kb := 4) (ds := [ze, (dL aM ([] : List cQ)), zl, z0, z0, z0, z0, z0, ze, zl, zl, z0, zl, z0]) rfl rfl (by repeat (first | exact pM.nil | apply pM.cons | exact FzR.d _ | exact FzR.own rfl (by first | rfl | (simp; done) | (simp; omega)) | exact FzR.ptr rfl (by repeat (first | exact Drp.z _ | apply Drp.d)) | exact FzR.own' | exact FzR.ptr' | exact FzR.ref _ | apply FzR.agg | apply FzR.tup | apply FzR.fn | exact FzR.dead _)) (FzL.nil))) (wa 7 125 4 4 2 ?_)))
 refine wa 8 170 3 4 9 ?_
 refine wa 9 181 3 4 10 ?_
 refine wa 10 2 1 4 12 (aA (aR ?_))
 cases h0
 exact dG (rs := [.cell 10 34, .tmp 11]) [7,8,9,10] rfl
 refine sk (sq [0,1,2,3,4,5,6,7,8,9] (rL rfl (aT tok rfl rfl rfl rfl) (pm ?_)))
 obtain ⟨v6, hv6, h0⟩ := bnd h0
 refine rS rfl (aO 5 (aIy hv6) rfl rfl rfl) (rP rfl (aG (r := .tup _) rfl) ?_)
 iterate 3 refine rP rfl (aN rfl rfl) ?_
 refine rP rfl (aV (r := .own _ _ _) rfl) (pa ?_)
 refine pa (nx (aD (sq [0,1] ?_)))
 refine pm ?_
 refine rP rfl (dW rfl rfl) (nx ?_)
 refine bN h0 rfl (fun hc h0 => ?_) (fun hc h0 => ?_)
 refine sq [0,1,2,3] (rP rfl (pbl (C0 := [ze, zl, zl, z0, z0, z0, z0, z0, ze, zl, zl, z0, zl, z0]) tok rfl rfl rfl) (pm ?_))
 refine bst tok ?_
 refine pa (nx ?_)
 refine wa 6 123 2 4 1 ?_
 refine cJ (dT 7 (k := 6) 2 1 aM rfl rfl) (cJ (sL (k := 6) (kf := 7) rfl rfl (fun _ => rfl) rfl) (cJ (aDs (k := 6) (t' := aE (aE ((fun _ => .dead)) 10 (.ptr 4 0 1 0 0)) 11 (dI v6.2.2)) rfl (FzL.box (kb := 4) (ds := [ze, (dL aM ([] : List cQ)), zl, z0, z0, z0, z0, z0, ze, zl, zl, z0, zl, z0]) rfl rfl (by repeat (first | exact pM.nil | apply pM.cons | exact FzR.d _ | exact FzR.own rfl (by first | rfl | (simp; done) | (simp; omega)) | exact FzR.ptr rfl (by repeat (first | exact Drp.z _ | apply Drp.d)) | exact FzR.own' | exact FzR.ptr' | exact FzR.ref _ | apply FzR.agg | apply FzR.tup | apply FzR.fn | exact FzR.dead _)) (FzL.nil))) (wa 8 125 4 4 2 ?_)))
 refine wa 9 170 3 4 9 ?_
 refine wa 10 181 3 4 10 ?_
 refine wa 11 2 1 4 12 (aA (aR ?_))
 cases h0
 exact dG (rs := [.cell 10 34, .tmp 11]) [8,9,10,11] rfl
 refine sk (sq [0,1,2,3,4,5,6,7,8,9] (pm ?_))
 refine pm ?_
 refine rP rfl (fL rfl rfl) ?_
 obtain ⟨v7, hv7, h0⟩ := bnd h0
 refine rS rfl (aO 6 (nU hv7) rfl rfl rfl) (rP rfl (aG (r := .tup _) rfl) (rP rfl (aN rfl rfl) (rP rfl (aN rfl rfl) (al 6 [z0, z0] tok ?_))))
 refine bst tok ?_
 refine pa (nx (aD ?_))
 refine aC (is := [0,1,2,3,4,5,6,7,8]) [0,0,3,7,15,15,0,95,255] follows (by kernel_rfl) (bW rfl w0 rfl (aT tok rfl rfl rfl rfl) rfl rfl rfl ?_)
 obtain ⟨v8, hv8, h0⟩ := bnd h0
 refine iL rfl w0 rfl (cR 8 (aFr hv8) rfl rfl rfl) ?_
 obtain ⟨v9, hv9, h0⟩ := bnd h0
 refine iL rfl w0 rfl (cR 8 (aF7 hv9) rfl rfl rfl) (tP rfl (aG (r := .tup _) rfl) (tP rfl (aN rfl rfl) (tP rfl (aN rfl rfl) (aAz rfl w0 rfl rfl (fun hx hk => iQ 7 (cs := [zl, z0, z0]) tok rfl rfl hk) (iN rfl w0 (fR (cs := _ :: _) tok rfl rfl rfl rfl rfl rfl rfl) (tpa ?_))))))
 refine bC ?_
 refine ⟨by kernel_rfl, ?_⟩
 refine aI (aD ?_)
 obtain ⟨v10, h1, h0⟩ := bnd h0
 refine bH ⟨aE (aE (aE (aE (aE (aE (aE (aE ((fun _ => .dead)) 0 (dS p0)) 1 (dI p1)) 2 (dI p2)) 8 (.ptr 3 0 1 0 0)) 10 (.ptr 4 0 1 0 0)) 12 (.own 5 0 (v6.1).length)) 17 (.ptr 6 0 1 0 0)) 65 (dB v10), lks [.no, .no, .no, .live [⟨31, 4, .av [[dS p3.Name, (dL aP p3.Months), (dL aF p3.Rules), (dI p3.Week)]]⟩], .live [⟨34, 14, .av [[ze, zl, zl, z0, z0, z0, z0, z0, ze, zl, zl, z0, zl, z0]]⟩], .live [⟨2, 1, .data (List.map cI v6.1)⟩], .live [⟨115, 3, .av [[dL eT v9.1.Train, (dI v9.1.Error.Num), (dI v9.1.Error.Den)]]⟩]]⟩ ?_ ?_
 refine sr [0,1,2,3,4,5,6,7] (pm ?_)
 refine rP rfl (dW rfl rfl) (pm ?_)
 refine eP (u := 60) h1 rfl (fun hc h1 => ?_) (fun hc h1 => ?_)
 iterate 4 refine k1 ?_
 refine pkt (nx ?_)
 cases h1
 exact wk [0,1,2,3,4,5,7]
 refine fa1 tok ?_
 refine fa1 tok ?_
 refine ld1 tok ?_
 refine rp rfl (w1 rfl rfl rfl) rfl (dW rfl rfl) (pkf (nx ?_))
 cases h1
 exact wk [0,1,2,3,4,5,7]
 refine bM h0 rfl (fun hc h0 => ?_) (fun hc h0 => ?_)
 refine sq [0,1,2] (rP rfl (pbl (C0 := [ze, zl, zl, z0, z0, z0, z0, z0, ze, zl, zl, z0, zl, z0]) tok rfl rfl rfl) (bst tok ?_))
 refine pa (nx ?_)
 refine wa 7 123 2 4 1 ?_
 refine cJ (dT 8 (k := 7) 2 1 aM rfl rfl) (cJ (sL (k := 7) (kf := 8) rfl rfl (fun _ => rfl) rfl) (cJ (aDs (k := 7) (t' := aE (aE ((fun _ => .dead)) 10 (.ptr 4 0 1 0 0)) 11 (dI 3)) rfl (FzL.box (kb := 4) (ds := [ze, (dL aM ([] : List cQ)), zl, z0, z0, z0, z0, z0, ze, zl, zl, z0, zl, z0]) rfl rfl (by repeat (first | exact pM.nil | apply pM.cons | exact FzR.d _ | exact FzR.own rfl (by first | rfl | (simp; done) | (simp; omega)) | exact FzR.ptr rfl (by repeat (first | exact Drp.z _ | apply Drp.d)) | exact FzR.own' | exact FzR.ptr' | exact FzR.ref _ | apply FzR.agg | apply FzR.tup | apply FzR.fn | exact FzR.dead _)) (FzL.nil))) (wa 9 125 4 4 2 ?_)))
 refine wa 10 170 3 4 9 ?_
 refine wa 11 181 3 4 10 ?_
 refine wa 12 2 1 4 12 (aA (aR ?_))
 cases h0
 exact dG (rs := [.cell 10 34, .tmp 11]) [9,10,11,12] rfl
 refine sk (sq [0,1,2,3,4,5,6,7,8,9,10] (pm ?_))
 refine fa tok ?_
 refine ld tok ?_
 obtain ⟨v11, hv11, h0⟩ := bnd h0
 refine rS rfl (aO 7 (aBe hv11) rfl rfl rfl) (pm ?_)
 refine pm ?_
 obtain ⟨v12, hv12, h0⟩ := bnd h0
 refine rS rfl (dR 9 (aEi hv12) rfl rfl) (rP rfl (aG (r := .own _ _ _) rfl) (rP rfl (pbl (C0 := [ze, zl, zl, z0, z0, z0, z0, z0, ze, zl, zl, z0, zl, z0]) tok rfl rfl rfl) (bst tok ?_)))
 refine pa (nx ?_)
 refine cJ (aDs (k := 7) (t' := aE (aE ((fun _ => .dead)) 10 (.ptr 4 0 1 0 0)) 11 (z0)) rfl (FzL.box (kb := 4) (ds := [dS p0, (dL aM v11.Arbors), .own 8 0 (v11.Meshes).length, z0, (dI 4), (dI 2), (dI p2), (dI p1), (dS v12.Name), .own 9 0 (v12.Months).length, .own 10 0 (v12.Rules).length, (dI v12.Week), .own 5 0 (v6.1).length, (dI 2)]) rfl rfl (by repeat (first | exact pM.nil | apply pM.cons | exact FzR.d _ | exact FzR.own rfl (by first | rfl | (simp; done) | (simp; omega)) | exact FzR.ptr rfl (by repeat (first | exact Drp.z _ | apply Drp.d)) | exact FzR.own' | exact FzR.ptr' | exact FzR.ref _ | apply FzR.agg | apply FzR.tup | apply FzR.fn | exact FzR.dead _)) (FzL.nil))) (aA ?_)
 cases h0
 exact dG (rs := [.cell 10 34, .tmp 11]) [8,9,10,5] rfl

theorem aOv {p0 : aB} {p1 : Int} {p2 : Int} {r : List Int} (h0 : uX p0 p1 p2 = some r) : FnC Tryz.prog 141 [] [.ref (bY p0), (dI p1), (dI p2)] [.live [⟨2, 1, .data (List.map cI r)⟩]] (.own 0 0 r.length) := by
 refine fi 36 tok Tryz.func141 ?_
 unfold uX at h0
 refine sq [0] (pa (nx (sq [0,1] ?_)))
 refine rS rfl (eM 3 tok rfl rfl rfl rfl) (rP rfl (aV (r := .own _ _ _) rfl) (nx ?_))
 obtain ⟨v17, h1, h0⟩ := bnd h0
 refine bH ⟨aE ((fun _ => .dead)) 7 (.own 3 0 (v17).length), lks [.no, .no, .no, .live [⟨2, 1, .data (List.map cI v17)⟩]]⟩ ?_ ?_
 refine sq [0,1] (pm ?_)
 refine pa (nx (aK ?_))
 refine bD (fun s9 => ⟨aE (aE (aE (aE (aE ((fun _ => .dead)) 0 (.ref (bY p0))) 1 (dI p1)) 2 (dI p2)) 7 (.own 3 0 (s9.2).length)) 8 (dI s9.1), lks [.no, .no, .no, .live [⟨2, 1, .data (List.map cI s9.2)⟩]]⟩) h1 ?_ (fun s9 y h2 => ?_)
 exact wk [0,1,2,3]
 refine aD (sq [0,1,2,3,4] ?_)
 iterate 3 refine pm ?_
 refine rP rfl (bI rfl rfl) (rP rfl (bR rfl rfl) (nx ?_))
 refine bN h2 rfl (fun hc h2 => ?_) (fun hc h2 => ?_)
 refine sk ?_
 obtain ⟨v16, h3, h2⟩ := bnd h2
 refine bH ⟨aE (aE (aE (aE (aE ((fun _ => .dead)) 0 (.ref (bY p0))) 1 (dI p1)) 2 (dI p2)) 7 (.own 3 0 (v16).length)) 8 (dI s9.1), lks [.no, .no, .no, .live [⟨2, 1, .data (List.map cI v16)⟩]]⟩ ?_ ?_
 refine aK (sq [0] (pa (nx (aK ?_))))
 refine bD (fun s13 => ⟨aE (aE (aE (aE (aE (aE ((fun _ => .dead)) 0 (.ref (bY p0))) 1 (dI p1)) 2 (dI p2)) 7 (.own 3 0 (s13.2).length)) 8 (dI s9.1)) 9 (dI s13.1), lks [.no, .no, .no, .live [⟨2, 1, .data (List.map cI s13.2)⟩]]⟩) h3 ?_ (fun s13 y h4 => ?_)
 exact wk [0,1,2,3]
 refine aD (sq [0,1,2,3,4,5,6] (pm ?_))
 refine pmr ?_
 refine nr ?_
 refine fr tok ?_
 refine lr tok ?_
 refine rP rfl (aL tok rfl rfl rfl) (rP rfl (bR rfl rfl) (nx ?_))
 refine bN h4 rfl (fun hc h4 => ?_) (fun hc h4 => ?_)
 refine sk (aD (aK (sr [0,1,2,3,4,5,6,7] (rP rfl (aG (r := .own _ _ _) rfl) (pmr ?_)))))
 refine pm ?_
 refine pm ?_
 obtain ⟨v14, hv14, h4⟩ := bnd h4
 refine rS rfl (aO 4 (tE hv14) rfl rfl rfl) (rS rfl (jA tok cI [v14] rfl rfl rfl (by repeat (first | exact Els.nil _ | apply Els.cons (cs := [.d _]) rfl rfl rfl | apply Els.cons (cs := _ :: _) rfl rfl rfl)) rfl rfl rfl (by repeat (first | exact cZ.nil | (apply cZ.cons; (repeat (first | exact gA.nil | apply gA.cons))))) rfl) ?_)
 obtain ⟨hq15, h4⟩ := dP h4
 refine rw1 rfl w0 rfl (fQ tok hq15 rfl rfl rfl rfl rfl rfl rfl rfl rfl rfl rfl rfl (fun _ => rfl)) (rP rfl (aV (r := .own _ _ _) rfl) (bB (bG (aI (sr [0,1,2] (pm ?_))))))
 refine rP rfl (bI rfl rfl) (pa (bB ?_))
 refine cE ?_
 cases h4
 refine ⟨_, rfl, ?_⟩
 exact wk [0,1,2,3]
 refine bL (bZ ?_)
 cases h4
 refine cG ⟨_, rfl, fun e => ?_⟩
 subst e
 refine aX ?_
 refine bG (aI ?_)
 exact wk [0,1,2,3]
 refine sr [0,1,2] (pm ?_)
 refine rP rfl (bI rfl rfl) (pa (bB ?_))
 refine cE ?_
 cases h2
 refine ⟨_, rfl, ?_⟩
 exact wk [0,1,2,3]
 refine bL (bZ ?_)
 cases h2
 refine cG ⟨_, rfl, fun e => ?_⟩
 subst e
 refine aX (aI ?_)
 exact wk [0,1,2,3]
 refine sq [0,1] (rP rfl (aG (r := .own _ _ _) rfl) (rP rfl (aV (r := .own _ _ _) rfl) (nx (aA ?_))))
 cases h0
 exact dG (rs := [.tmp 6]) [3] rfl

theorem aFc {p0 : bP} {r : aU × bP} (h0 : kL p0 = some r) : FnC Tryz.prog 64 [.live [⟨157, 3, .av [[dL cU8 p0.code, (dI p0.at_), .d (.v (.int .u64 p0.seed))]]⟩]] [.ptr 0 0 1 0 0] [.live [⟨157, 3, .av [[dL cU8 r.2.code, (dI r.2.at_), .d (.v (.int .u64 r.2.seed))]]⟩], .live [⟨125, 4, .data (List.map bF r.1.Works.Meshes)⟩], .live [⟨2, 1, .data (List.map cI r.1.Cam)⟩]] (.agg [dS r.1.Name, (dL aM r.1.Works.Arbors), .own 1 0 r.1.Works.Meshes.length, (dI r.1.Minute), (dI r.1.Hour), (dI r.1.Escape), (dI r.1.Teeth), (dI r.1.Beats), (dS r.1.Calendar.Name), (dL aP r.1.Calendar.Months), (dL aF r.1.Calendar.Rules), (dI r.1.Calendar.Week), .own 2 0 r.1.Cam.length, (dI r.1.Strike)]) := by
 refine fi 41 tok Tryz.func64 ?_
 unfold kL at h0
 refine sq [0] (al 3 [ze, zl, zl, z0, z0, z0, z0, z0, ze, zl, zl, z0, zl, z0] tok (nx (sq [0,1,2,3] ?_)))
 refine rP rfl (aG (r := .ptr _ _ _ _ _) rfl) ?_
 obtain ⟨v1, hv1, h0⟩ := bnd h0
 refine rw1 rfl w0 rfl (eA [0,4,5] 300 (aKh 2 (aFh hv1)) rfl rfl) (al 6 [ze, zl, zl, z0] tok ?_)
 refine bst tok (nx (sq [0,1,2,3] ?_))
 refine rP rfl (aG (r := .ptr _ _ _ _ _) rfl) (rS rfl (jA tok cI [3600,7200,5400,18000,4800,3960] rfl rfl rfl (by repeat (first | exact Els.nil _ | apply Els.cons (cs := [.d _]) rfl rfl rfl | apply Els.cons (cs := _ :: _) rfl rfl rfl)) rfl rfl rfl (by repeat (first | exact cZ.nil | (apply cZ.cons; (repeat (first | exact gA.nil | apply gA.cons))))) rfl) ?_)
 obtain ⟨v2, hv2, h0⟩ := bnd h0
 refine rw1 rfl w0 rfl (eA [0] 300 (jC hv2) rfl rfl) (pa (nx (sq [0,1,2,3] ?_)))
 refine rP rfl (aG (r := .ptr _ _ _ _ _) rfl) (rS rfl (jA tok cI [30,15,36,20] rfl rfl rfl (by repeat (first | exact Els.nil _ | apply Els.cons (cs := [.d _]) rfl rfl rfl | apply Els.cons (cs := _ :: _) rfl rfl rfl)) rfl rfl rfl (by repeat (first | exact cZ.nil | (apply cZ.cons; (repeat (first | exact gA.nil | apply gA.cons))))) rfl) ?_)
 obtain ⟨v3, hv3, h0⟩ := bnd h0
 refine rw1 rfl w0 rfl (eA [0] 300 (jC hv3) rfl rfl) (pa (nx (aD ?_)))
 refine cJ (aDs (k := 4) (t' := aE (aE (aE (aE (aE ((fun _ => .dead)) 0 (.ptr 0 0 1 0 0)) 2 (.ptr 3 0 1 0 0)) 3 (.ptr 6 0 1 0 0)) 4 (dI v2.1)) 5 (dI v3.1)) rfl (FzL.box (kb := 6) (ds := [dS v1.1.Name, (dL aP v1.1.Months), .own 5 0 (v1.1.Rules).length, (dI v1.1.Week)]) rfl rfl (by repeat (first | exact pM.nil | apply pM.cons | exact FzR.d _ | exact FzR.own rfl (by first | rfl | (simp; done) | (simp; omega)) | exact FzR.ptr rfl (by repeat (first | exact Drp.z _ | apply Drp.d)) | exact FzR.own' | exact FzR.ptr' | exact FzR.ref _ | apply FzR.agg | apply FzR.tup | apply FzR.fn | exact FzR.dead _)) (FzL.nil))) (cJ (aDs (k := 5) (t' := aE (aE (aE (aE (aE ((fun _ => .dead)) 0 (.ptr 0 0 1 0 0)) 2 (.ptr 3 0 1 0 0)) 3 (.ptr 6 0 1 0 0)) 4 (dI v2.1)) 5 (dI v3.1)) rfl (FzL.box (kb := 6) (ds := [dS v1.1.Name, (dL aP v1.1.Months), (dL aF v1.1.Rules), (dI v1.1.Week)]) rfl rfl (by repeat (first | exact pM.nil | apply pM.cons | exact FzR.d _ | exact FzR.own rfl (by first | rfl | (simp; done) | (simp; omega)) | exact FzR.ptr rfl (by repeat (first | exact Drp.z _ | apply Drp.d)) | exact FzR.own' | exact FzR.ptr' | exact FzR.ref _ | apply FzR.agg | apply FzR.tup | apply FzR.fn | exact FzR.dead _)) (FzL.nil))) (aC (is := [0,1,2,3,4,5,6,7,8,9,10,11,12]) [0,0,0,0,8,24,63,127,255,255,0,1535,4095] follows (by kernel_rfl) (tpm ?_)))
 refine tpm ?_
 refine bW rfl w0 rfl (aT tok rfl rfl rfl rfl) rfl rfl rfl (tP rfl (aG (r := .ptr _ _ _ _ _) rfl) ?_)
 obtain ⟨v4, hv4, h0⟩ := bnd h0
 refine aLw rfl w0 rfl (by repeat (first | exact jQ _ | exact jR rfl | refine jN ?_ rfl)) (wL 0 (dE hv4) rfl rfl rfl) ?_
 refine tP rfl (bI rfl rfl) ?_
 obtain ⟨v5, hv5, h0⟩ := bnd h0
 refine iL rfl w0 rfl (cR 8 (zR hv5) rfl rfl rfl) (tP rfl (aG (r := .tup _) rfl) (tP rfl (aN rfl rfl) (tP rfl (aN rfl rfl) (aAz rfl w0 rfl rfl (fun hx hk => iQ 7 (cs := [ze, zl, zl, z0, z0, z0, z0, z0, ze, zl, zl, z0, zl, z0]) tok rfl rfl hk) (iN rfl w0 (fR (cs := _ :: _) tok rfl rfl rfl rfl rfl rfl rfl) (tpa ?_))))))
 refine bC ?_
 refine ⟨by kernel_rfl, ?_⟩
 refine aI ?_
 obtain ⟨v8, h1, h0⟩ := bnd h0
 refine bH ⟨aE (aE (aE ((fun _ => .dead)) 0 (.ptr 0 0 1 0 0)) 2 (.ptr 3 0 1 0 0)) 6 (.ptr 4 0 1 0 0), lks [.live [⟨157, 3, .av [[dL cU8 v4.2.code, (dI v4.2.at_), .d (.v (.int .u64 v4.2.seed))]]⟩], .no, .no, .live [⟨34, 14, .av [[ze, zl, zl, z0, z0, z0, z0, z0, ze, zl, zl, z0, zl, z0]]⟩], .live [⟨34, 14, .av [[dS v8.1, (dL aM v8.2.1), .own 5 0 (v8.2.2.2.2.2.2.2.2.2.1).length, (dI v8.2.2.1), (dI v8.2.2.2.1), (dI v8.2.2.2.2.1), (dI v8.2.2.2.2.2.1), (dI v8.2.2.2.2.2.2.1), (dS v8.2.2.2.2.2.2.2.1.Name), (dL aP v8.2.2.2.2.2.2.2.1.Months), (dL aF v8.2.2.2.2.2.2.2.1.Rules), (dI v8.2.2.2.2.2.2.2.1.Week), .own 6 0 (v8.2.2.2.2.2.2.2.2.2.2).length, (dI v8.2.2.2.2.2.2.2.2.1)]]⟩], .live [⟨125, 4, .data (List.map bF v8.2.2.2.2.2.2.2.2.2.1)⟩], .live [⟨2, 1, .data (List.map cI v8.2.2.2.2.2.2.2.2.2.2)⟩]]⟩ ?_ ?_
 refine sq [0,1] (pm ?_)
 refine rP rfl (dW rfl rfl) (nx ?_)
 refine bN h1 rfl (fun hc h1 => ?_) (fun hc h1 => ?_)
 refine aC (is := [0,1,4,2,3,5,6,7]) [0,0,3,7,0,15,63,127] follows (by kernel_rfl) (tP rfl (pbl (C0 := [z0, z0]) tok rfl rfl rfl) (tP rfl (pbl (C0 := [z0, z0]) tok rfl rfl rfl) (bW rfl w0 rfl (aT tok rfl rfl rfl rfl) rfl rfl rfl (aAz rfl w0 rfl rfl (fun hx hk => xA 12 tok eT [(⟨64, 8⟩ : dX), (⟨60, 8⟩ : dX)] rfl rfl rfl (by repeat (first | exact Els.nil _ | apply Els.cons (cs := [.d _]) rfl rfl rfl | apply Els.cons (cs := _ :: _) rfl rfl rfl)) rfl rfl rfl (by repeat (first | exact cZ.nil | (apply cZ.cons; (repeat (first | exact gA.nil | apply gA.cons))))) rfl hk) ?_))))
 obtain ⟨v6, hv6, h1⟩ := bnd h1
 refine iL rfl w0 rfl (cR 13 (aBe hv6) rfl rfl rfl) ?_
 obtain ⟨v7, hv7, h1⟩ := bnd h1
 refine iL rfl w0 rfl (aCn 15 (aOv hv7) rfl rfl) (tP rfl (pbl (C0 := [ze, zl, zl, z0, z0, z0, z0, z0, ze, zl, zl, z0, zl, z0]) tok rfl rfl rfl) (iN rfl w0 (fR (cs := _ :: _) tok rfl rfl rfl rfl rfl rfl rfl) (bC ?_)))
 refine ⟨by kernel_rfl, ?_⟩
 refine aI ?_
 cases h1
 refine lI.trans_ (aDs (k := 13) (t' := aE (aE (aE ((fun _ => .dead)) 0 (.ptr 0 0 1 0 0)) 2 (.ptr 3 0 1 0 0)) 6 (.ptr 7 0 1 0 0)) rfl (FzL.box (kb := 7) (ds := [dS (⟨#[112,108,97,105,110]⟩ : ByteArray), (dL aM v6.Arbors), .own 14 0 (v6.Meshes).length, z0, (dI 4), (dI 2), (dI 30), (dI 3600), (dS v1.1.Name), (dL aP v1.1.Months), (dL aF v1.1.Rules), (dI v1.1.Week), .own 15 0 (v7).length, z0]) rfl rfl (by repeat (first | exact pM.nil | apply pM.cons | exact FzR.d _ | exact FzR.own rfl (by first | rfl | (simp; done) | (simp; omega)) | exact FzR.ptr rfl (by repeat (first | exact Drp.z _ | apply Drp.d)) | exact FzR.own' | exact FzR.ptr' | exact FzR.ref _ | apply FzR.agg | apply FzR.tup | apply FzR.fn | exact FzR.dead _)) (FzL.nil))) ?_
 exact wk [0,1,2,3,7,14,15]
 refine sk ?_
 cases h1
 refine lI.trans_ (aDs (k := 9) (t' := aE (aE (aE ((fun _ => .dead)) 0 (.ptr 0 0 1 0 0)) 2 (.ptr 3 0 1 0 0)) 6 (.ptr 7 0 1 0 0)) rfl (FzL.box (kb := 7) (ds := [dS v5.1.Name, (dL aM v5.1.Works.Arbors), .own 8 0 (v5.1.Works.Meshes).length, (dI v5.1.Minute), (dI v5.1.Hour), (dI v5.1.Escape), (dI v5.1.Teeth), (dI v5.1.Beats), (dS v5.1.Calendar.Name), (dL aP v5.1.Calendar.Months), .own 10 0 (v5.1.Calendar.Rules).length, (dI v5.1.Calendar.Week), .own 11 0 (v5.1.Cam).length, (dI v5.1.Strike)]) rfl rfl (by repeat (first | exact pM.nil | apply pM.cons | exact FzR.d _ | exact FzR.own rfl (by first | rfl | (simp; done) | (simp; omega)) | exact FzR.ptr rfl (by repeat (first | exact Drp.z _ | apply Drp.d)) | exact FzR.own' | exact FzR.ptr' | exact FzR.ref _ | apply FzR.agg | apply FzR.tup | apply FzR.fn | exact FzR.dead _)) (FzL.nil))) (lI.trans_ (aDs (k := 10) (t' := aE (aE (aE ((fun _ => .dead)) 0 (.ptr 0 0 1 0 0)) 2 (.ptr 3 0 1 0 0)) 6 (.ptr 7 0 1 0 0)) rfl (FzL.box (kb := 7) (ds := [dS v5.1.Name, (dL aM v5.1.Works.Arbors), .own 8 0 (v5.1.Works.Meshes).length, (dI v5.1.Minute), (dI v5.1.Hour), (dI v5.1.Escape), (dI v5.1.Teeth), (dI v5.1.Beats), (dS v5.1.Calendar.Name), (dL aP v5.1.Calendar.Months), (dL aF v5.1.Calendar.Rules), (dI v5.1.Calendar.Week), .own 11 0 (v5.1.Cam).length, (dI v5.1.Strike)]) rfl rfl (by repeat (first | exact pM.nil | apply pM.cons | exact FzR.d _ | exact FzR.own rfl (by first | rfl | (simp; done) | (simp; omega)) | exact FzR.ptr rfl (by repeat (first | exact Drp.z _ | apply Drp.d)) | exact FzR.own' | exact FzR.ptr' | exact FzR.ref _ | apply FzR.agg | apply FzR.tup | apply FzR.fn | exact FzR.dead _)) (FzL.nil))) ?_)
 exact wk [0,1,2,3,7,8,11]
 obtain ⟨v11, h1, h0⟩ := bnd h0
 refine bH ⟨aE (aE ((fun _ => .dead)) 2 (.ptr 3 0 1 0 0)) 6 (.ptr 4 0 1 0 0), lks [.live [⟨157, 3, .av [[dL cU8 v11.1.code, (dI v11.1.at_), .d (.v (.int .u64 v11.1.seed))]]⟩], .no, .no, .live [⟨34, 14, .av [[ze, zl, zl, z0, z0, z0, z0, z0, ze, zl, zl, z0, zl, z0]]⟩], .live [⟨34, 14, .av [[dS v8.1, (dL aM v8.2.1), .own 5 0 (v8.2.2.2.2.2.2.2.2.2.1).length, (dI v8.2.2.1), (dI v8.2.2.2.1), (dI v8.2.2.2.2.1), (dI v8.2.2.2.2.2.1), (dI v8.2.2.2.2.2.2.1), (dS v8.2.2.2.2.2.2.2.1.Name), (dL aP v8.2.2.2.2.2.2.2.1.Months), (dL aF v8.2.2.2.2.2.2.2.1.Rules), (dI v8.2.2.2.2.2.2.2.1.Week), .own 6 0 (v8.2.2.2.2.2.2.2.2.2.2).length, (dI v11.2)]]⟩], .live [⟨125, 4, .data (List.map bF v8.2.2.2.2.2.2.2.2.2.1)⟩], .live [⟨2, 1, .data (List.map cI v8.2.2.2.2.2.2.2.2.2.2)⟩]]⟩ ?_ ?_
 refine sq [0,1] (rP rfl (aG (r := .ptr _ _ _ _ _) rfl) ?_)
 obtain ⟨v9, hv9, h1⟩ := bnd h1
 refine rw1 rfl w0 rfl (eA [0] 300 (jK hv9) rfl rfl) (nx ?_)
 refine bM h1 rfl (fun hc h1 => ?_) (fun hc h1 => ?_)
 refine sr [0,1,2,3] (rP rfl (aG (r := .ptr _ _ _ _ _) rfl) ?_)
 obtain ⟨v10, hv10, h1⟩ := bnd h1
 refine rw1 rfl w0 rfl (eA [0] 300 (dE hv10) rfl rfl) (fa tok ?_)
 refine bs1 tok (nx ?_)
 cases h1
 exact wk [0,1,2,3,4,5,6]
 refine sk ?_
 cases h1
 exact wk [0,1,2,3,4,5,6]
 refine sq [0,1] (rL rfl (aT tok rfl rfl rfl rfl) (bst tok (nx (aA ?_))))
 cases h0
 exact aP4 (rs := [.cell 2 34]) 1 [0,5,6] rfl

theorem aFm {p0 : bP} {p1 : aB} {r : cA × bP} (h0 : kV p0 p1 = some r) : FnC Tryz.prog 111 [.live [⟨157, 3, .av [[dL cU8 p0.code, (dI p0.at_), .d (.v (.int .u64 p0.seed))]]⟩]] [.ptr 0 0 1 0 0, .ref (bY p1)] [.live [⟨157, 3, .av [[dL cU8 r.2.code, (dI r.2.at_), .d (.v (.int .u64 r.2.seed))]]⟩]] (.agg [dI r.1.Year, (dI r.1.Month), (dI r.1.Day)]) := by
 refine fi 37 tok Tryz.func111 ?_
 unfold kV at h0
 refine sq [0] (al 3 [z0, z0, z0] tok (nx (sq [0,1,2,3,4,5] ?_)))
 refine rP rfl (aG (r := .ptr _ _ _ _ _) rfl) (rS rfl (jA tok cI [0,1900,2000,2023,2024,2100,9999,4,33] rfl rfl rfl (by repeat (first | exact Els.nil _ | apply Els.cons (cs := [.d _]) rfl rfl rfl | apply Els.cons (cs := _ :: _) rfl rfl rfl)) rfl rfl rfl (by repeat (first | exact cZ.nil | (apply cZ.cons; (repeat (first | exact gA.nil | apply gA.cons))))) rfl) ?_)
 obtain ⟨v1, hv1, h0⟩ := bnd h0
 refine rw1 rfl w0 rfl (eA [0] 300 (jC hv1) rfl rfl) (rP rfl (pbl (C0 := [z0, z0, z0]) tok rfl rfl rfl) (al 4 [z0, z0, z0] tok ?_))
 refine bst tok (nx (sq [0,1,2,3,4,5,6,7,8,9] ?_))
 refine rP rfl (aG (r := .ptr _ _ _ _ _) rfl) (pmr ?_)
 refine nr ?_
 refine fr tok ?_
 refine lr tok ?_
 refine rP rfl (aL tok rfl rfl rfl) ?_
 obtain ⟨v2, hv2, h0⟩ := bnd h0
 refine rw1 rfl w0 rfl (eA [0] 300 (dE hv2) rfl rfl) (rP rfl (bI rfl rfl) (fa tok ?_))
 refine bs1 tok (nx (sq [0,1,2,3,4,5,6,7] ?_))
 refine pmr ?_
 refine fa tok ?_
 refine ld tok ?_
 refine fa tok ?_
 refine ld tok ?_
 refine rP rfl (eZ rfl rfl) ?_
 obtain ⟨v3, hv3, h0⟩ := bnd h0
 refine rS rfl (aO 5 (tE hv3) rfl rfl rfl) (pa (nx (sq [0,1,2,3,4,5] ?_)))
 refine rP rfl (aG (r := .ptr _ _ _ _ _) rfl) (pm ?_)
 obtain ⟨v4, hv4, h0⟩ := bnd h0
 refine rw1 rfl w0 rfl (eA [0] 300 (dE hv4) rfl rfl) (rP rfl (bI rfl rfl) (fa tok ?_))
 refine bs1 tok (nx ?_)
 obtain ⟨v6, h1, h0⟩ := bnd h0
 refine bH ⟨aE (aE ((fun _ => .dead)) 4 (.ptr 3 0 1 0 0)) 5 (.ptr 4 0 1 0 0), lks [.live [⟨157, 3, .av [[dL cU8 v6.1.code, (dI v6.1.at_), .d (.v (.int .u64 v6.1.seed))]]⟩], .no, .no, .live [⟨36, 3, .av [[z0, z0, z0]]⟩], .live [⟨36, 3, .av [[dI v6.2.Year, (dI v6.2.Month), (dI v6.2.Day)]]⟩]]⟩ ?_ ?_
 refine sq [0,1] (rP rfl (aG (r := .ptr _ _ _ _ _) rfl) ?_)
 obtain ⟨v5, hv5, h1⟩ := bnd h1
 refine rw1 rfl w0 rfl (eA [0] 300 (jK hv5) rfl rfl) (nx ?_)
 refine bM h1 rfl (fun hc h1 => ?_) (fun hc h1 => ?_)
 refine sr [0,1,2] (pm ?_)
 refine fa tok ?_
 refine bs1 tok (nx ?_)
 cases h1
 exact wk [0,1,2,3,4]
 refine sk ?_
 cases h1
 exact wk [0,1,2,3,4]
 refine sq [0,1] (rL rfl (aT tok rfl rfl rfl rfl) (bst tok (nx (aA ?_))))
 cases h0
 exact qI (rs := [.cell 4 36]) 1 rfl rfl

theorem aHn {p0 : cQ} {r : Bool} (h0 : pQ p0 = some r) : FnC Tryz.prog 233 [] [.ref (aM p0)] [] (dB r) := by
 refine fi 35 tok Tryz.func233 ?_
 unfold pQ at h0
 refine sq [0] (pa (nx ?_))
 obtain ⟨v7x, h1, h0⟩ := bnd h0
 refine dZ v7x (fun v7 => ⟨aE ((fun _ => .dead)) 0 (.ref (aM p0)), lks [.no, .no, .no]⟩) ?_ ?_
 refine sq [0] (pa (nx (aK ?_)))
 refine bD (fun s4 => ⟨aE (aE ((fun _ => .dead)) 0 (.ref (aM p0))) 3 (dI s4), lks [.no, .no, .no]⟩) h1 ?_ (fun s4 y h2 => ?_)
 exact wk [0,1,2]
 refine aD (sq [0,1,2,3,4,5,6] (pm ?_))
 refine pmr ?_
 refine nr ?_
 refine fr tok ?_
 refine lr tok ?_
 refine rP rfl (aL tok rfl rfl rfl) (rP rfl (bR rfl rfl) (nx ?_))
 refine bN h2 rfl (fun hc h2 => ?_) (fun hc h2 => ?_)
 refine sk (aD (aK (sq [0,1,2,3,4,5,6,7,8] (pmr ?_))))
 refine nr ?_
 refine fr tok ?_
 refine lr tok ?_
 refine pm ?_
 obtain ⟨v5, hv5, h2⟩ := bnd h2
 refine rP rfl (cK tok hv5 rfl rfl rfl rfl rfl rfl) (lr tok ?_)
 obtain ⟨v6, hv6, h2⟩ := bnd h2
 refine rS rfl (aO 3 (pH hv6) rfl rfl rfl) (rP rfl (bQ rfl) (nx ?_))
 refine bM h2 rfl (fun hc h2 => ?_) (fun hc h2 => ?_)
 refine sq [0] (pa (nx (aA ?_)))
 refine bJ (aR ?_)
 cases h2
 refine eX ⟨_, rfl, fun e => ?_⟩
 subst e
 refine bJ ?_
 replace h0 := gF h0
 refine aR ?_
 cases h0
 exact r0t 2 rfl
 refine cV (bG (aI (sr [0,1,2] (pm ?_))))
 refine rP rfl (bI rfl rfl) (pa (bB ?_))
 refine cE ?_
 cases h2
 refine ⟨_, rfl, ?_⟩
 exact wk [0,1,2]
 refine bL (bZ ?_)
 cases h2
 refine cG ⟨_, rfl, fun e => ?_⟩
 subst e
 refine aX (aI ?_)
 refine ⟨_, rfl, ?_⟩
 exact wk [0,1,2]
 rintro v7 rfl
 replace h0 := iF h0
 refine sq [0,1,2,3,4,5,6,7,8,9,10,11,12,13] (pmr ?_)
 refine nr ?_
 refine fr tok ?_
 refine lr tok ?_
 obtain ⟨v8, hv8, h0⟩ := bnd h0
 refine rS rfl (aO 3 (sN hv8) rfl rfl rfl) (pm ?_)
 refine cY (u := 27) h0 rfl (fun hc h0 => ?_) (fun hc h0 => ?_)
 refine aEg ?_
 refine nr1 ?_
 refine fr1 tok ?_
 refine lr1 tok ?_
 refine rp rfl (w1 rfl rfl rfl) rfl (aL tok rfl rfl rfl) (rp rfl (w1 rfl rfl rfl) rfl (jU rfl rfl) (pkt ?_))
 refine pa (nx (aA ?_))
 cases h0
 exact r0t 2 rfl
 iterate 6 refine k1 ?_
 refine pkf ?_
 refine pa (nx (aA ?_))
 cases h0
 exact r0t 2 rfl

theorem aI9 {p0 : bE} {p1 : ByteArray} {r : Int} (h0 : qR p0 p1 = some r) : FnC Tryz.prog 234 [] [.ref (fM p0), (dS p1)] [] (dI r) := by
 refine fi 26 tok Tryz.func234 ?_
 unfold qR at h0
 refine sq [0] (pa (nx ?_))
 obtain ⟨v5x, h1, h0⟩ := bnd h0
 refine dZ v5x (fun v5 => ⟨(fun _ => .dead), lks [.no, .no, .no]⟩) ?_ ?_
 refine sq [0] (pa (nx (aK ?_)))
 refine bD (fun s3 => ⟨aE (aE (aE ((fun _ => .dead)) 0 (.ref (fM p0))) 1 (dS p1)) 5 (dI s3), lks [.no, .no, .no]⟩) h1 ?_ (fun s3 y h2 => ?_)
 exact wk [0,1,2]
 refine aD (sq [0,1,2,3,4,5,6] (pm ?_))
 refine pmr ?_
 refine nr ?_
 refine fr tok ?_
 refine lr tok ?_
 refine rP rfl (aL tok rfl rfl rfl) (rP rfl (bR rfl rfl) (nx ?_))
 refine bN h2 rfl (fun hc h2 => ?_) (fun hc h2 => ?_)
 refine sk (aD (aK (sq [0,1,2,3,4,5,6,7,8,9] (pmr ?_))))
 refine nr ?_
 refine fr tok ?_
 refine lr tok ?_
 refine pm ?_
 obtain ⟨v4, hv4, h2⟩ := bnd h2
 refine rP rfl (cK tok hv4 rfl rfl rfl rfl rfl rfl) (fr tok ?_)
 refine lr tok ?_
 refine pm ?_
 refine rP rfl (tM rfl rfl) (nx ?_)
 refine bN h2 rfl (fun hc h2 => ?_) (fun hc h2 => ?_)
 refine sq [0,1] (pm ?_)
 refine pa (nx (aA ?_))
 refine bJ (aR ?_)
 cases h2
 refine eX ⟨_, rfl, fun e => ?_⟩
 subst e
 refine bJ ?_
 replace h0 := gF h0
 refine aR ?_
 cases h0
 exact r0t 4 rfl
 refine cV (bG (aI (sr [0,1,2] (pm ?_))))
 refine rP rfl (bI rfl rfl) (pa (bB ?_))
 refine cE ?_
 cases h2
 refine ⟨_, rfl, ?_⟩
 exact wk [0,1,2]
 refine bL (bZ ?_)
 cases h2
 refine cG ⟨_, rfl, fun e => ?_⟩
 subst e
 refine aX (aI ?_)
 refine ⟨_, rfl, ?_⟩
 exact wk [0,1,2]
 rintro v5 rfl
 replace h0 := iF h0
 refine sq [0] (pa (nx (aA ?_)))
 cases h0
 exact r0t 4 rfl

theorem aAr {p0 : bE} {p1 : Int} {p2 : Int} {r : Bool} (h0 : mA p0 p1 p2 = some r) : FnC Tryz.prog 270 [] [.ref (fM p0), (dI p1), (dI p2)] [] (dB r) := by
 refine fi 29 tok Tryz.func270 ?_
 unfold mA at h0
 refine sq [0] (pa (nx (sq [0,1,2,3,4,5,6,7,8,9,10,11,12,13,14,15,16,17,18,19,20,21,22] ?_)))
 refine pm ?_
 refine pmr ?_
 refine nr ?_
 refine fr tok ?_
 refine lr tok ?_
 refine rP rfl (aL tok rfl rfl rfl) (rP rfl (eZ rfl rfl) ?_)
 obtain ⟨v1, hv1, h0⟩ := bnd h0
 refine rS rfl (aO 3 (cW hv1) rfl rfl rfl) (pm ?_)
 refine cY (u := 15) h0 rfl (fun hc h0 => ?_) (fun hc h0 => ?_)
 refine pm1 ?_
 refine aEg ?_
 refine nr1 ?_
 refine fr1 tok ?_
 refine lr1 tok ?_
 refine pm1 ?_
 obtain ⟨v2, hv2, h0⟩ := bnd h0
 refine rp rfl (w1 rfl rfl rfl) rfl (cK tok hv2 rfl rfl rfl rfl rfl rfl) (fr1 tok ?_)
 refine lr1 tok ?_
 refine rp rfl (w1 rfl rfl rfl) rfl (aL tok rfl rfl rfl) (rp rfl (w1 rfl rfl rfl) rfl (eZ rfl rfl) ?_)
 obtain ⟨v3, hv3, h0⟩ := bnd h0
 refine rs rfl (w1 rfl rfl rfl) rfl (aO 3 (cW hv3) rfl rfl rfl) (pkt ?_)
 refine pa (nx (aA ?_))
 cases h0
 exact r0t 6 rfl
 iterate 12 refine k1 ?_
 refine pkf ?_
 refine pa (nx (aA ?_))
 cases h0
 exact r0t 6 rfl

theorem aJ8 {p0 : bE} {p1 : cH} {r : Bool} (h0 : qH p0 p1 = some r) : FnC Tryz.prog 235 [] [.ref (fM p0), .agg [dI p1.A, (dI p1.WheelA), (dI p1.B), (dI p1.WheelB)]] [] (dB r) := by
 refine fi 26 tok Tryz.func235 ?_
 unfold qH at h0
 refine sq [0,1] (bxx 3 ?_)
 refine pa (nx (sq [0,1,2,3,4,5,6,7,8,9,10,11,12,13,14,15,16,17,18,19,20,21] ?_))
 refine fa tok ?_
 refine ld tok ?_
 refine fa tok ?_
 refine ld tok ?_
 refine rP rfl (dW rfl rfl) (pm ?_)
 refine eP (u := 10) h0 rfl (fun hc h0 => ?_) (fun hc h0 => ?_)
 refine aEg ?_
 refine fa1 tok ?_
 refine ld1 tok ?_
 refine fa1 tok ?_
 refine ld1 tok ?_
 obtain ⟨v1, hv1, h0⟩ := bnd h0
 refine rs rfl (w1 rfl rfl rfl) rfl (aO 4 (aAr hv1) rfl rfl rfl) (pkt ?_)
 refine pm ?_
 refine cY (u := 18) h0 rfl (fun hc h0 => ?_) (fun hc h0 => ?_)
 refine aEg ?_
 refine fa1 tok ?_
 refine ld1 tok ?_
 refine fa1 tok ?_
 refine ld1 tok ?_
 obtain ⟨v2, hv2, h0⟩ := bnd h0
 refine rs rfl (w1 rfl rfl rfl) rfl (aO 4 (aAr hv2) rfl rfl rfl) (pkt ?_)
 refine pa (nx (aA ?_))
 cases h0
 exact r0t 4 rfl
 iterate 6 refine k1 ?_
 refine pkf ?_
 refine pa (nx (aA ?_))
 cases h0
 exact r0t 4 rfl
 iterate 6 refine k1 ?_
 refine pkf ?_
 refine pm ?_
 iterate 6 refine k1 ?_
 refine pkf ?_
 refine pa (nx (aA ?_))
 cases h0
 exact r0t 4 rfl

theorem aH1 {p0 : cH} {p1 : cH} {r : Bool} (h0 : pB p0 p1 = some r) : FnC Tryz.prog 271 [] [.agg [dI p0.A, (dI p0.WheelA), (dI p0.B), (dI p0.WheelB)], .agg [dI p1.A, (dI p1.WheelA), (dI p1.B), (dI p1.WheelB)]] [] (dB r) := by
 refine fi 36 tok Tryz.func271 ?_
 unfold pB at h0
 refine sq [0,1,2] (bxx 3 ?_)
 refine bxx 4 ?_
 refine pa (nx (sq [0,1,2,3,4,5,6,7,8,9,10,11,12,13,14,15,16,17,18,19,20,21,22,23,24,25,26,27,28,29,30,31] ?_))
 refine rL rfl (aT tok rfl rfl rfl rfl) (rL rfl (aT tok rfl rfl rfl rfl) (rP rfl (vJ (a := p0) (b := p1) rfl rfl) (pm ?_)))
 refine eP (u := 8) h0 rfl (fun hc h0 => ?_) (fun hc h0 => ?_)
 iterate 26 refine k1 ?_
 refine pkt ?_
 refine pa (nx (aA ?_))
 cases h0
 exact r0t 4 rfl
 refine fa1 tok ?_
 refine ld1 tok ?_
 refine fa1 tok ?_
 refine ld1 tok ?_
 refine rp rfl (w1 rfl rfl rfl) rfl (dV rfl rfl) (pm1 ?_)
 refine eP (u := 14) h0 rfl (fun hc h0 => ?_) (fun hc h0 => ?_)
 refine fa1 tok ?_
 refine ld1 tok ?_
 refine fa1 tok ?_
 refine ld1 tok ?_
 refine rp rfl (w1 rfl rfl rfl) rfl (dV rfl rfl) (aUa ?_)
 refine pm1 ?_
 refine eP (u := 21) h0 rfl (fun hc h0 => ?_) (fun hc h0 => ?_)
 refine fa1 tok ?_
 refine ld1 tok ?_
 refine fa1 tok ?_
 refine ld1 tok ?_
 refine rp rfl (w1 rfl rfl rfl) rfl (dV rfl rfl) (aUa ?_)
 refine pm1 ?_
 refine eP (u := 28) h0 rfl (fun hc h0 => ?_) (fun hc h0 => ?_)
 refine fa1 tok ?_
 refine ld1 tok ?_
 refine fa1 tok ?_
 refine ld1 tok ?_
 refine rp rfl (w1 rfl rfl rfl) rfl (dV rfl rfl) (aUa ?_)
 refine pkf ?_
 refine pa (nx (aA ?_))
 cases h0
 exact r0t 4 rfl
 iterate 5 refine k1 ?_
 refine aR7 ?_
 refine pkf ?_
 refine pa (nx (aA ?_))
 cases h0
 exact r0t 4 rfl
 iterate 5 refine k1 ?_
 refine aR7 ?_
 refine pm1 ?_
 iterate 5 refine k1 ?_
 refine aR7 ?_
 refine pkf ?_
 refine pa (nx (aA ?_))
 cases h0
 exact r0t 4 rfl
 iterate 5 refine k1 ?_
 refine aR7 ?_
 refine pm1 ?_
 iterate 5 refine k1 ?_
 refine aR7 ?_
 refine pm1 ?_
 iterate 5 refine k1 ?_
 refine aR7 ?_
 refine pkf ?_
 refine pa (nx (aA ?_))
 cases h0
 exact r0t 4 rfl

theorem aIu {p0 : bE} {p1 : cH} {p2 : Int} {r : Bool} (h0 : oS p0 p1 p2 = some r) : FnC Tryz.prog 236 [] [.ref (fM p0), .agg [dI p1.A, (dI p1.WheelA), (dI p1.B), (dI p1.WheelB)], (dI p2)] [] (dB r) := by
 refine fi 22 tok Tryz.func236 ?_
 unfold oS at h0
 refine sq [0,1] (bxx 3 ?_)
 refine pa (nx ?_)
 obtain ⟨v7x, h1, h0⟩ := bnd h0
 refine dZ v7x (fun v7 => ⟨(fun _ => .dead), lks [.no, .no, .no]⟩) ?_ ?_
 refine sq [0] (pa (nx (aK ?_)))
 refine bD (fun s4 => ⟨aE (aE (aE (aE ((fun _ => .dead)) 0 (.ref (fM p0))) 2 (dI p2)) 4 (.ptr 3 0 1 0 0)) 7 (dI s4), lks [.no, .no, .no, .live [⟨125, 4, .av [[dI p1.A, (dI p1.WheelA), (dI p1.B), (dI p1.WheelB)]]⟩]]⟩) h1 ?_ (fun s4 y h2 => ?_)
 exact wk [0,1,2,3]
 refine aD (sq [0,1,2] (pm ?_))
 refine pm ?_
 refine rP rfl (bR rfl rfl) (nx ?_)
 refine bN h2 rfl (fun hc h2 => ?_) (fun hc h2 => ?_)
 refine sk (aD (aK (aD (aC (is := [0,1,2,3,4,5,6,7,8]) [0,1,3,7,0,31,63,0,255] follows (by kernel_rfl) (pR ?_)))))
 refine tnr ?_
 refine tfr tok ?_
 refine tlr tok ?_
 refine tpm ?_
 obtain ⟨v5, hv5, h2⟩ := bnd h2
 refine tP rfl (cK tok hv5 rfl rfl rfl rfl rfl rfl) (tP rfl (bK tok rfl rfl rfl (by repeat (first | exact iA.z _ | apply iA.t))) (bW rfl w0 rfl (aT tok rfl rfl rfl rfl) rfl rfl rfl ?_))
 obtain ⟨v6, hv6, h2⟩ := bnd h2
 refine iL rfl w0 rfl (cR 4 (aH1 hv6) rfl rfl rfl) (bC ?_)
 refine ⟨by kernel_rfl, ?_⟩
 refine aI ?_
 refine bM h2 rfl (fun hc h2 => ?_) (fun hc h2 => ?_)
 refine sq [0] (pa (nx (aA ?_)))
 refine bJ (aR ?_)
 cases h2
 refine eX ⟨_, rfl, fun e => ?_⟩
 subst e
 refine bJ ?_
 replace h0 := gF h0
 refine aR ?_
 cases h0
 exact r0t 6 rfl
 refine cV (bG (aI (sr [0,1,2] (pm ?_))))
 refine rP rfl (bI rfl rfl) (pa (bB ?_))
 refine cE ?_
 cases h2
 refine ⟨_, rfl, ?_⟩
 exact wk [0,1,2,3]
 refine bL (bZ ?_)
 cases h2
 refine cG ⟨_, rfl, fun e => ?_⟩
 subst e
 refine aX (aI ?_)
 refine ⟨_, rfl, ?_⟩
 exact wk [0,1,2]
 rintro v7 rfl
 replace h0 := iF h0
 refine sq [0] (pa (nx (aA ?_)))
 cases h0
 exact r0t 6 rfl

theorem aOj {p0 : bE} {r : Bool} (h0 : uT p0 = some r) : FnC Tryz.prog 160 [] [.ref (fM p0)] [] (dB r) := by
 refine fi 81 tok Tryz.func160 ?_
 unfold uT at h0
 refine sq [0] (pa (nx ?_))
 obtain ⟨v13x, h1, h0⟩ := bnd h0
 refine dZ v13x (fun v13 => ⟨aE ((fun _ => .dead)) 0 (.ref (fM p0)), lks [.no, .no, .no]⟩) ?_ ?_
 refine sq [0] (pa (nx (aK ?_)))
 refine bD (fun s7 => ⟨aE (aE ((fun _ => .dead)) 0 (.ref (fM p0))) 3 (dI s7), lks [.no, .no, .no]⟩) h1 ?_ (fun s7 y h2 => ?_)
 exact wk [0,1,2]
 refine aD (sq [0,1,2,3,4,5,6] (pm ?_))
 refine pmr ?_
 refine nr ?_
 refine fr tok ?_
 refine lr tok ?_
 refine rP rfl (aL tok rfl rfl rfl) (rP rfl (bR rfl rfl) (nx ?_))
 refine bN h2 rfl (fun hc h2 => ?_) (fun hc h2 => ?_)
 refine sk (aD (aK ?_))
 obtain ⟨v12, h3, h2⟩ := bnd h2
 refine bH ⟨aE (aE (aE ((fun _ => .dead)) 0 (.ref (fM p0))) 3 (dI s7)) 35 (dB v12), lks [.no, .no, .no]⟩ ?_ ?_
 refine sr [0,1,2,3,4,5,6,7,8,9,10,11,12,13,14,15,16,17,18,19,20,21] (pmr ?_)
 refine nr ?_
 refine fr tok ?_
 refine lr tok ?_
 refine pm ?_
 obtain ⟨v8, hv8, h3⟩ := bnd h3
 refine rP rfl (cK tok hv8 rfl rfl rfl rfl rfl rfl) ?_
 obtain ⟨v9, hv9, h3⟩ := bnd h3
 refine rS rfl (aO 3 (aHn hv9) rfl rfl rfl) (rP rfl (bQ rfl) (pm ?_))
 refine cY (u := 22) h3 rfl (fun hc h3 => ?_) (fun hc h3 => ?_)
 iterate 12 refine k1 ?_
 refine pkt (nx ?_)
 cases h3
 exact wk [0,1,2]
 refine aEg ?_
 refine aEg ?_
 refine nr1 ?_
 refine fr1 tok ?_
 refine lr1 tok ?_
 refine pm1 ?_
 obtain ⟨v10, hv10, h3⟩ := bnd h3
 refine rp rfl (w1 rfl rfl rfl) rfl (cK tok hv10 rfl rfl rfl rfl rfl rfl) (fr1 tok ?_)
 refine lr1 tok ?_
 obtain ⟨v11, hv11, h3⟩ := bnd h3
 refine rs rfl (w1 rfl rfl rfl) rfl (aO 3 (aI9 hv11) rfl rfl rfl) (pm1 ?_)
 refine rp rfl (w1 rfl rfl rfl) rfl (dW rfl rfl) (pkf (nx ?_))
 cases h3
 refine lI.trans_ (fX (d := 26) (ds := (cL aM) p0.Arbors) rfl (by repeat (first | exact Pre.z _ | apply Pre.t))) (lI.trans_ (fX (d := 30) (ds := cS v10.Name) rfl (by repeat (first | exact Pre.z _ | apply Pre.t))) ?_)
 exact wk [0,1,2]
 refine bM h2 rfl (fun hc h2 => ?_) (fun hc h2 => ?_)
 refine sq [0] (pa (nx (aA ?_)))
 refine bJ (aR ?_)
 cases h2
 refine eX ⟨_, rfl, fun e => ?_⟩
 subst e
 refine bJ ?_
 replace h0 := gF h0
 refine aR ?_
 cases h0
 exact r0t 2 rfl
 refine cV (bG (aI (sr [0,1,2] (pm ?_))))
 refine rP rfl (bI rfl rfl) (pa (bB ?_))
 refine cE ?_
 cases h2
 refine ⟨_, rfl, ?_⟩
 exact wk [0,1,2]
 refine bL (bZ ?_)
 cases h2
 refine cG ⟨_, rfl, fun e => ?_⟩
 subst e
 refine aX (aI ?_)
 refine ⟨_, rfl, ?_⟩
 exact wk [0,1,2]
 rintro v13 rfl
 replace h0 := iF h0
 obtain ⟨v26x, h1, h0⟩ := bnd h0
 refine dZ v26x (fun v26 => ⟨aE ((fun _ => .dead)) 0 (.ref (fM p0)), lks [.no, .no, .no]⟩) ?_ ?_
 refine sq [0] (pa (nx (aK ?_)))
 refine bD (fun s20 => ⟨aE (aE ((fun _ => .dead)) 0 (.ref (fM p0))) 4 (dI s20), lks [.no, .no, .no]⟩) h1 ?_ (fun s20 y h2 => ?_)
 exact wk [0,1,2]
 refine aD (sq [0,1,2,3,4,5,6] (pm ?_))
 refine pmr ?_
 refine nr ?_
 refine fr tok ?_
 refine lr tok ?_
 refine rP rfl (aL tok rfl rfl rfl) (rP rfl (bR rfl rfl) (nx ?_))
 refine bN h2 rfl (fun hc h2 => ?_) (fun hc h2 => ?_)
 refine sk (aD (aK ?_))
 obtain ⟨v25, h3, h2⟩ := bnd h2
 refine bH ⟨aE (aE (aE ((fun _ => .dead)) 0 (.ref (fM p0))) 4 (dI s20)) 66 (dB v25), lks [.no, .no, .no]⟩ ?_ ?_
 refine sr [0,1,2,3,4,5,6,7,8,9,10,11,12,13,14,15,16,17,18,19,20,21] (pmr ?_)
 refine pmr ?_
 refine nr ?_
 refine fr tok ?_
 refine lr tok ?_
 refine pm ?_
 obtain ⟨v21, hv21, h3⟩ := bnd h3
 refine rP rfl (cK tok hv21 rfl rfl rfl rfl rfl rfl) (rP rfl (bK tok rfl rfl rfl (by repeat (first | exact iA.z _ | apply iA.t))) ?_)
 obtain ⟨v22, hv22, h3⟩ := bnd h3
 refine rS rfl (aO 3 (aJ8 hv22) rfl rfl rfl) (rP rfl (bQ rfl) (pm ?_))
 refine cY (u := 55) h3 rfl (fun hc h3 => ?_) (fun hc h3 => ?_)
 iterate 10 refine k1 ?_
 refine pkt (nx ?_)
 cases h3
 exact wk [0,1,2]
 refine aEg ?_
 refine aEg ?_
 refine nr1 ?_
 refine fr1 tok ?_
 refine lr1 tok ?_
 refine pm1 ?_
 obtain ⟨v23, hv23, h3⟩ := bnd h3
 refine rp rfl (w1 rfl rfl rfl) rfl (cK tok hv23 rfl rfl rfl rfl rfl rfl) (rp rfl (w1 rfl rfl rfl) rfl (bK tok rfl rfl rfl (by repeat (first | exact iA.z _ | apply iA.t))) (pm1 ?_))
 obtain ⟨v24, hv24, h3⟩ := bnd h3
 refine rs rfl (w1 rfl rfl rfl) rfl (aO 3 (aIu hv24) rfl rfl rfl) (pkf (nx ?_))
 cases h3
 refine lI.trans_ (fX (d := 59) (ds := (cL bF) p0.Meshes) rfl (by repeat (first | exact Pre.z _ | apply Pre.t))) ?_
 exact wk [0,1,2]
 refine bM h2 rfl (fun hc h2 => ?_) (fun hc h2 => ?_)
 refine sq [0] (pa (nx (aA ?_)))
 refine bJ (aR ?_)
 cases h2
 refine eX ⟨_, rfl, fun e => ?_⟩
 subst e
 refine bJ ?_
 replace h0 := gF h0
 refine aR ?_
 cases h0
 exact r0t 2 rfl
 refine cV (bG (aI (sr [0,1,2] (pm ?_))))
 refine rP rfl (bI rfl rfl) (pa (bB ?_))
 refine cE ?_
 cases h2
 refine ⟨_, rfl, ?_⟩
 exact wk [0,1,2]
 refine bL (bZ ?_)
 cases h2
 refine cG ⟨_, rfl, fun e => ?_⟩
 subst e
 refine aX (aI ?_)
 refine ⟨_, rfl, ?_⟩
 exact wk [0,1,2]
 rintro v26 rfl
 replace h0 := iF h0
 refine sq [0,1,2,3,4,5,6,7,8,9,10,11,12,13,14] (pmr ?_)
 refine nr ?_
 refine fr tok ?_
 refine lr tok ?_
 refine rP rfl (aL tok rfl rfl rfl) (rP rfl (jU rfl rfl) (pm ?_))
 refine eP (u := 73) h0 rfl (fun hc h0 => ?_) (fun hc h0 => ?_)
 refine aEg ?_
 refine nr1 ?_
 refine fr1 tok ?_
 refine lr1 tok ?_
 refine rp rfl (w1 rfl rfl rfl) rfl (aL tok rfl rfl rfl) (rp rfl (w1 rfl rfl rfl) rfl (jU rfl rfl) (pkt ?_))
 refine pa (nx (aA ?_))
 cases h0
 exact r0t 2 rfl
 iterate 6 refine k1 ?_
 refine pkf ?_
 refine pa (nx (aA ?_))
 cases h0
 exact r0t 2 rfl

theorem tK {p0 : bE} {p1 : Int} {r : Bool} (h0 : kC p0 p1 = some r) : FnC Tryz.prog 161 [] [.ref (fM p0), (dI p1)] [] (dB r) := by
 refine fi 13 tok Tryz.func161 ?_
 unfold kC at h0
 refine sq [0] (pa (nx (sq [0,1,2,3,4,5,6,7,8] ?_)))
 refine pm ?_
 refine pmr ?_
 refine nr ?_
 refine fr tok ?_
 refine lr tok ?_
 refine rP rfl (aL tok rfl rfl rfl) (rP rfl (eZ rfl rfl) ?_)
 obtain ⟨v1, hv1, h0⟩ := bnd h0
 refine rS rfl (aO 3 (cW hv1) rfl rfl rfl) (pa (nx (aA ?_)))
 cases h0
 exact r0t 4 rfl

theorem aDj {p0 : List Int} {r : Bool} (h0 : qP p0 = some r) : FnC Tryz.prog 162 [] [dL cI p0] [] (dB r) := by
 refine fi 19 tok Tryz.func162 ?_
 unfold qP at h0
 refine sq [0] (pa (nx ?_))
 obtain ⟨v7x, h1, h0⟩ := bnd h0
 refine dZ v7x (fun v7 => ⟨aE ((fun _ => .dead)) 0 (dL cI p0), lks [.no, .no, .no]⟩) ?_ ?_
 refine sq [0] (pa (nx (aK ?_)))
 refine bD (fun s4 => ⟨aE (aE ((fun _ => .dead)) 0 (dL cI p0)) 3 (dI s4), lks [.no, .no, .no]⟩) h1 ?_ (fun s4 y h2 => ?_)
 exact wk [0,1,2]
 refine aD (sq [0,1,2,3] (pm ?_))
 refine pm ?_
 refine rP rfl (aL tok rfl rfl rfl) (rP rfl (bR rfl rfl) (nx ?_))
 refine bN h2 rfl (fun hc h2 => ?_) (fun hc h2 => ?_)
 refine sk (aD (aK (sq [0,1,2,3,4,5] (pm ?_))))
 refine pm ?_
 obtain ⟨v5, hv5, h2⟩ := bnd h2
 refine rP rfl (cK tok hv5 rfl rfl rfl rfl rfl rfl) (lr tok ?_)
 obtain ⟨v6, hv6, h2⟩ := bnd h2
 refine rS rfl (aO 3 (cW hv6) rfl rfl rfl) (rP rfl (bQ rfl) (nx ?_))
 refine bM h2 rfl (fun hc h2 => ?_) (fun hc h2 => ?_)
 refine sq [0] (pa (nx (aA ?_)))
 refine bJ (aR ?_)
 cases h2
 refine eX ⟨_, rfl, fun e => ?_⟩
 subst e
 refine bJ ?_
 replace h0 := gF h0
 refine aR ?_
 cases h0
 exact r0t 2 rfl
 refine cV (bG (aI (sr [0,1,2] (pm ?_))))
 refine rP rfl (bI rfl rfl) (pa (bB ?_))
 refine cE ?_
 cases h2
 refine ⟨_, rfl, ?_⟩
 exact wk [0,1,2]
 refine bL (bZ ?_)
 cases h2
 refine cG ⟨_, rfl, fun e => ?_⟩
 subst e
 refine aX (aI ?_)
 refine ⟨_, rfl, ?_⟩
 exact wk [0,1,2]
 rintro v7 rfl
 replace h0 := iF h0
 refine sq [0,1,2,3] (pm ?_)
 refine rP rfl (aL tok rfl rfl rfl) ?_
 obtain ⟨v8, hv8, h0⟩ := bnd h0
 refine rS rfl (aO 3 (cW hv8) rfl rfl rfl) (pa (nx (aA ?_)))
 cases h0
 exact r0t 2 rfl

theorem aIe {p0 : aU} {r : Bool} (h0 : sW p0 = some r) : FnC Tryz.prog 80 [] [.ref (fO p0)] [] (dB r) := by
 refine fi 81 tok Tryz.func80 ?_
 unfold sW at h0
 refine sq [0] (pa (nx (aD ?_)))
 obtain ⟨v6, h1, h0⟩ := bnd h0
 refine bH ⟨aE (aE ((fun _ => .dead)) 0 (.ref (fO p0))) 48 (dB v6), lks [.no, .no, .no]⟩ ?_ ?_
 refine aC (is := [0,1,2,3,4,5,6,7,8,9,10,11,12,13,14,15,16,17,18,19,20,21,22,23,24,25,26,27,28,29,30,31,32,33,34,35,36,37,38,39,40,41,42,43,44,45]) [0,1,3,7,15,31,63,127,255,511,1023,2047,4095,8191,16383,32767,65535,16383,147455,409599,933887,2097151,4194303,8388607,16777215,33554431,67108863,134217727,33554431,301989887,838860799,1912602623,4294967295,8589934591,17179869183,34359738367,68719476735,137438953471,274877906943,68719476735,618475290623,1717986918399,3917010173951,8796093022207,17592186044415,35184372088831] follows (by kernel_rfl) (pR ?_)
 refine tnr ?_
 refine tfr tok ?_
 refine tlr tok ?_
 obtain ⟨v1, hv1, h1⟩ := bnd h1
 refine iL rfl w0 rfl (cR 3 (sN hv1) rfl rfl rfl) (tP rfl (bQ rfl) (tpm ?_))
 refine nD (u := 9) h1 rfl (fun hc h1 => ?_) (fun hc h1 => ?_)
 iterate 5 refine k2 ?_
 refine rI ?_
 refine tpm ?_
 iterate 9 refine k2 ?_
 refine rI ?_
 refine tpm ?_
 iterate 9 refine k2 ?_
 refine rI ?_
 refine tpm ?_
 iterate 9 refine k2 ?_
 refine rI ?_
 refine bC ?_
 refine ⟨by kernel_rfl, ?_⟩
 refine aI ?_
 cases h1
 exact wk [0,1,2]
 refine lX ?_
 refine xP ?_
 refine sE tok ?_
 obtain ⟨v2, hv2, h1⟩ := bnd h1
 refine iL rfl (w1 rfl rfl rfl) rfl (cR 3 (nC (aOj hv2)) rfl rfl rfl) (mL rfl (w1 rfl rfl rfl) rfl (bQ rfl) (qN ?_))
 refine tpm ?_
 refine nD (u := 16) h1 rfl (fun hc h1 => ?_) (fun hc h1 => ?_)
 iterate 9 refine k2 ?_
 refine rI ?_
 refine tpm ?_
 iterate 9 refine k2 ?_
 refine rI ?_
 refine tpm ?_
 iterate 9 refine k2 ?_
 refine rI ?_
 refine bC ?_
 refine ⟨by kernel_rfl, ?_⟩
 refine aI ?_
 cases h1
 exact wk [0,1,2]
 refine lX ?_
 refine xP ?_
 refine sE tok ?_
 refine lX ?_
 refine xP ?_
 refine sE tok ?_
 refine uM tok ?_
 obtain ⟨v3, hv3, h1⟩ := bnd h1
 refine iL rfl (w1 rfl rfl rfl) rfl (cR 3 (nC (tK hv3)) rfl rfl rfl) (mL rfl (w1 rfl rfl rfl) rfl (bQ rfl) (qN ?_))
 refine tpm ?_
 refine nD (u := 27) h1 rfl (fun hc h1 => ?_) (fun hc h1 => ?_)
 iterate 9 refine k2 ?_
 refine rI ?_
 refine tpm ?_
 iterate 9 refine k2 ?_
 refine rI ?_
 refine bC ?_
 refine ⟨by kernel_rfl, ?_⟩
 refine aI ?_
 cases h1
 exact wk [0,1,2]
 refine lX ?_
 refine xP ?_
 refine sE tok ?_
 refine lX ?_
 refine xP ?_
 refine sE tok ?_
 refine uM tok ?_
 obtain ⟨v4, hv4, h1⟩ := bnd h1
 refine iL rfl (w1 rfl rfl rfl) rfl (cR 3 (nC (tK hv4)) rfl rfl rfl) (mL rfl (w1 rfl rfl rfl) rfl (bQ rfl) (qN ?_))
 refine tpm ?_
 refine nD (u := 38) h1 rfl (fun hc h1 => ?_) (fun hc h1 => ?_)
 iterate 9 refine k2 ?_
 refine rI ?_
 refine bC ?_
 refine ⟨by kernel_rfl, ?_⟩
 refine aI ?_
 cases h1
 exact wk [0,1,2]
 refine lX ?_
 refine xP ?_
 refine sE tok ?_
 refine lX ?_
 refine xP ?_
 refine sE tok ?_
 refine uM tok ?_
 obtain ⟨v5, hv5, h1⟩ := bnd h1
 refine iL rfl (w1 rfl rfl rfl) rfl (cR 3 (nC (tK hv5)) rfl rfl rfl) (mL rfl (w1 rfl rfl rfl) rfl (bQ rfl) (qN ?_))
 refine bC ?_
 refine ⟨by kernel_rfl, ?_⟩
 refine aI ?_
 cases h1
 exact wk [0,1,2]
 refine bM h0 rfl (fun hc h0 => ?_) (fun hc h0 => ?_)
 refine sq [0] (pa (nx (aA (aR ?_))))
 cases h0
 exact r0t 2 rfl
 refine sk (sq [0,1,2,3,4,5,6,7,8,9,10,11,12,13,14,15,16,17,18,19,20,21,22,23,24,25,26,27,28,29,30,31,32] (pmr ?_))
 refine nr ?_
 refine fr tok ?_
 refine lr tok ?_
 obtain ⟨v7, hv7, h0⟩ := bnd h0
 refine rS rfl (aO 3 (pH hv7) rfl rfl rfl) (pm ?_)
 refine cY (u := 54) h0 rfl (fun hc h0 => ?_) (fun hc h0 => ?_)
 refine aEg ?_
 refine nr1 ?_
 refine fr1 tok ?_
 refine lr1 tok ?_
 obtain ⟨v8, hv8, h0⟩ := bnd h0
 refine rs rfl (w1 rfl rfl rfl) rfl (aO 3 (cW hv8) rfl rfl rfl) (pkt ?_)
 refine pm ?_
 refine cY (u := 61) h0 rfl (fun hc h0 => ?_) (fun hc h0 => ?_)
 refine aEg ?_
 refine nr1 ?_
 refine fr1 tok ?_
 obtain ⟨v9, hv9, h0⟩ := bnd h0
 refine rs rfl (w1 rfl rfl rfl) rfl (aO 3 (nC (uZ hv9)) rfl rfl rfl) (pkt ?_)
 refine pm ?_
 refine cY (u := 67) h0 rfl (fun hc h0 => ?_) (fun hc h0 => ?_)
 refine aEg ?_
 refine nr1 ?_
 refine fr1 tok ?_
 refine lr1 tok ?_
 obtain ⟨v10, hv10, h0⟩ := bnd h0
 refine rs rfl (w1 rfl rfl rfl) rfl (aO 3 (aDj hv10) rfl rfl rfl) (pkt ?_)
 refine pm ?_
 refine cY (u := 74) h0 rfl (fun hc h0 => ?_) (fun hc h0 => ?_)
 refine aEg ?_
 refine nr1 ?_
 refine fr1 tok ?_
 refine lr1 tok ?_
 obtain ⟨v11, hv11, h0⟩ := bnd h0
 refine rs rfl (w1 rfl rfl rfl) rfl (aO 3 (cW hv11) rfl rfl rfl) (pkt ?_)
 refine pa (nx (aA ?_))
 cases h0
 exact r0t 2 rfl
 iterate 5 refine k1 ?_
 refine pkf ?_
 refine pa (nx (aA ?_))
 cases h0
 exact r0t 2 rfl
 iterate 5 refine k1 ?_
 refine pkf ?_
 refine pm ?_
 iterate 5 refine k1 ?_
 refine pkf ?_
 refine pa (nx (aA ?_))
 cases h0
 exact r0t 2 rfl
 iterate 4 refine k1 ?_
 refine pkf ?_
 refine pm ?_
 iterate 5 refine k1 ?_
 refine pkf ?_
 refine pm ?_
 iterate 5 refine k1 ?_
 refine pkf ?_
 refine pa (nx (aA ?_))
 cases h0
 exact r0t 2 rfl
 iterate 5 refine k1 ?_
 refine pkf ?_
 refine pm ?_
 iterate 4 refine k1 ?_
 refine pkf ?_
 refine pm ?_
 iterate 5 refine k1 ?_
 refine pkf ?_
 refine pm ?_
 iterate 5 refine k1 ?_
 refine pkf ?_
 refine pa (nx (aA ?_))
 cases h0
 exact r0t 2 rfl

theorem aDd {p0 : bE} {p1 : cH} {r : dX} (h0 : nN p0 p1 = some r) : FnC Tryz.prog 278 [] [.ref (fM p0), .agg [dI p1.A, (dI p1.WheelA), (dI p1.B), (dI p1.WheelB)]] [] (.agg [dI r.Driver, (dI r.Driven)]) := by
 refine fi 32 tok Tryz.func278 ?_
 unfold nN at h0
 refine sq [0,1] (bxx 3 ?_)
 refine al 4 [z0, z0] tok (nx (aD ?_))
 refine aC (is := [0,1,2,3,4,5,6,7,8,9,10,11,12,13,14,15,16,17,18,19,20,21,22,23,24,25,26,27]) [0,1,3,7,0,16,63,127,255,0,512,2047,4095,0,8192,24576,57344,0,131072,516096,1040384,2088960,0,4194304,16769024,33546240,67108863,134217727] follows (by kernel_rfl) (pR ?_)
 refine tnr ?_
 refine tfr tok ?_
 refine tlr tok ?_
 refine tfa tok ?_
 refine tld tok ?_
 obtain ⟨v1, hv1, h0⟩ := bnd h0
 refine tP rfl (cK tok hv1 rfl rfl rfl rfl rfl rfl) (tfr tok ?_)
 refine tlr tok ?_
 refine tfa tok ?_
 refine tld tok ?_
 obtain ⟨v2, hv2, h0⟩ := bnd h0
 refine tP rfl (cK tok hv2 rfl rfl rfl rfl rfl rfl) (tlr tok ?_)
 refine pR ?_
 refine tnr ?_
 refine tfr tok ?_
 refine tlr tok ?_
 refine tfa tok ?_
 refine tld tok ?_
 obtain ⟨v3, hv3, h0⟩ := bnd h0
 refine tP rfl (cK tok hv3 rfl rfl rfl rfl rfl rfl) (tfr tok ?_)
 refine tlr tok ?_
 refine tfa tok ?_
 refine tld tok ?_
 obtain ⟨v4, hv4, h0⟩ := bnd h0
 refine tP rfl (cK tok hv4 rfl rfl rfl rfl rfl rfl) (tlr tok ?_)
 refine tP rfl (pbl (C0 := [z0, z0]) tok rfl rfl rfl) (iN rfl w0 (fR (cs := _ :: _) tok rfl rfl rfl rfl rfl rfl rfl) (bC ?_))
 refine ⟨by kernel_rfl, ?_⟩
 refine aI (aA ?_)
 cases h0
 exact fV (rs := [.cell 4 121]) rfl

theorem aBu {p0 : bE} {p1 : List Bool} {p2 : List aJ} {r : Bool × Bool × List Bool × List aJ} (h0 : gR p0 p1 p2 = some r) : FnC Tryz.prog 252 [.live [⟨4, 1, .data (List.map cB p1)⟩], .live [⟨62, 2, .data (List.map eV p2)⟩]] [.ref (fM p0), .own 0 0 (p1).length, .own 1 0 (p2).length] [.live [⟨4, 1, .data (List.map cB r.2.2.1)⟩], .live [⟨62, 2, .data (List.map eV r.2.2.2)⟩]] (.tup [dB r.1, (dB r.2.1)]) := by
 refine fi 92 tok Tryz.func252 ?_
 unfold gR at h0
 refine sq [0,1] (pa ?_)
 refine pa (nx (sq [0] ?_))
 refine pa (nx ?_)
 obtain ⟨v27x, h1, h0⟩ := bnd h0
 refine dZ v27x (fun v27 => ⟨aE ((fun _ => .dead)) 8 (dB v27.1), lks [.live [⟨4, 1, .data (List.map cB v27.2.1)⟩], .live [⟨62, 2, .data (List.map eV v27.2.2)⟩], .no]⟩) ?_ ?_
 refine sq [0] (pa (nx (aK ?_)))
 refine bD (fun s14 => ⟨aE (aE (aE (aE (aE ((fun _ => .dead)) 0 (.ref (fM p0))) 1 (.own 0 0 (s14.2.2.1).length)) 2 (.own 1 0 (s14.2.2.2).length)) 8 (dB s14.1)) 9 (dI s14.2.1), lks [.live [⟨4, 1, .data (List.map cB s14.2.2.1)⟩], .live [⟨62, 2, .data (List.map eV s14.2.2.2)⟩], .no]⟩) h1 ?_ (fun s14 y h2 => ?_)
 exact wk [0,1,2]
 refine aD (sq [0,1,2,3,4,5,6] (pm ?_))
 refine pmr ?_
 refine nr ?_
 refine fr tok ?_
 refine lr tok ?_
 refine rP rfl (aL tok rfl rfl rfl) (rP rfl (bR rfl rfl) (nx ?_))
 refine bN h2 rfl (fun hc h2 => ?_) (fun hc h2 => ?_)
 refine sk ?_
 obtain ⟨v26x, h3, h2⟩ := bnd h2
 refine dZ v26x (fun v26 => ⟨aE (aE (aE (aE (aE ((fun _ => .dead)) 0 (.ref (fM p0))) 1 (.own 0 0 (v26.2.1).length)) 2 (.own 1 0 (v26.2.2).length)) 8 (dB v26.1)) 9 (dI s14.2.1), lks [.live [⟨4, 1, .data (List.map cB v26.2.1)⟩], .live [⟨62, 2, .data (List.map eV v26.2.2)⟩], .no]⟩) ?_ ?_
 refine aK (sq [0,1,2,3,4,5,6,7,8] (pmr ?_))
 refine nr ?_
 refine fr tok ?_
 refine lr tok ?_
 refine pm ?_
 obtain ⟨v15, hv15, h3⟩ := bnd h3
 refine rP rfl (cK tok hv15 rfl rfl rfl rfl rfl rfl) (rP rfl (bK tok rfl rfl rfl (by repeat (first | exact iA.z _ | apply iA.t))) (al 3 [z0, z0, z0, z0] tok ?_))
 refine bst tok (nx (sq [0,1,2,3,4] ?_))
 refine pmr ?_
 refine rL rfl (aT tok rfl rfl rfl rfl) ?_
 obtain ⟨v16, hv16, h3⟩ := bnd h3
 refine rS rfl (aO 4 (aDd hv16) rfl rfl rfl) (al 4 [z0, z0] tok ?_)
 refine bst tok (nx (aD (aD ?_)))
 refine aC (is := [0,1,2,3,4,5,6,7,8,9,10]) [0,0,2,7,15,0,0,64,224,480,1023] follows (by kernel_rfl) (tP rfl (aG (r := .own _ _ _) rfl) (tfa tok ?_))
 refine tld tok ?_
 obtain ⟨v17, hv17, h3⟩ := bnd h3
 refine bW rfl w0 rfl (lF tok hv17 rfl rfl rfl rfl rfl rfl rfl rfl) rfl rfl rfl (bW rfl w0 rfl (pC tok (iM hv17).2.1 rfl rfl rfl rfl rfl rfl) rfl rfl rfl (tP rfl (aG (r := .own _ _ _) rfl) (tfa tok ?_)))
 refine tld tok ?_
 obtain ⟨v18, hv18, h3⟩ := bnd h3
 refine bW rfl w0 rfl (lF tok hv18 rfl rfl rfl rfl rfl rfl rfl rfl) rfl rfl rfl (bW rfl w0 rfl (pC tok (iM hv18).2.1 rfl rfl rfl rfl rfl rfl) rfl rfl rfl (tP rfl (aR8 tok rfl rfl rfl rfl) (bC ?_)))
 refine ⟨by kernel_rfl, ?_⟩
 refine aI ?_
 refine bM h3 rfl (fun hc h3 => ?_) (fun hc h3 => ?_)
 refine bL (bZ (aX (aI ?_)))
 cases h3
 refine ⟨_, rfl, ?_⟩
 exact wk [0,1,2]
 refine sk ?_
 obtain ⟨v20, h4, h3⟩ := bnd h3
 refine bH ⟨aE (aE (aE (aE (aE (aE ((fun _ => .dead)) 0 (.ref (fM p0))) 1 (.own 0 0 (s14.2.2.1).length)) 2 (.own 1 0 (s14.2.2.2).length)) 9 (dI s14.2.1)) 10 (.ptr 3 0 1 0 0)) 11 (.ptr 4 0 1 0 0), lks [.live [⟨4, 1, .data (List.map cB s14.2.2.1)⟩], .live [⟨62, 2, .data (List.map eV s14.2.2.2)⟩], .no, .live [⟨125, 4, .av [[dI v20.1.A, (dI v20.1.WheelA), (dI v20.1.B), (dI v20.1.WheelB)]]⟩], .live [⟨121, 2, .av [[dI v20.2.Driver, (dI v20.2.Driven)]]⟩]]⟩ ?_ ?_
 refine sq [0,1,2,3,4] (rP rfl (aG (r := .own _ _ _) rfl) (fa tok ?_))
 refine ld tok ?_
 obtain ⟨v19, hv19, h4⟩ := bnd h4
 refine rL rfl (lF tok hv19 rfl rfl rfl rfl rfl rfl rfl rfl) (rL rfl (pC tok (iM hv19).2.1 rfl rfl rfl rfl rfl rfl) (nx ?_))
 refine bM h4 rfl (fun hc h4 => ?_) (fun hc h4 => ?_)
 refine sq [0,1,2,3,4,5] (fa tok ?_)
 refine ld tok ?_
 refine fa tok ?_
 refine ld tok ?_
 refine rP rfl (pbl (C0 := [z0, z0, z0, z0]) tok rfl rfl rfl) (bst tok (nx (sr [0,1,2,3,4,5] ?_)))
 refine fa tok ?_
 refine ld tok ?_
 refine fa tok ?_
 refine ld tok ?_
 refine rP rfl (pbl (C0 := [z0, z0]) tok rfl rfl rfl) (bst tok (nx ?_))
 cases h4
 exact wk [0,1,2,3,4]
 refine sk ?_
 cases h4
 exact wk [0,1,2,3,4]
 refine sq [0,1,2,3,4,5,6,7,8,9,10,11] (fa tok ?_)
 refine ld tok ?_
 refine rP rfl (uI rfl) (fa tok ?_)
 refine ld tok ?_
 obtain ⟨v21, hv21, h3⟩ := bnd h3
 refine rS rfl (aO 5 (nU hv21) rfl rfl rfl) (rP rfl (aG (r := .tup _) rfl) (rP rfl (aN rfl rfl) (rP rfl (aN rfl rfl) (al 5 [z0, z0] tok ?_))))
 refine bst tok ?_
 refine pa (nx (aD ?_))
 refine aC (is := [0,1,2,3,4,5,6,7,8,9,10,11,12]) [0,0,2,7,15,0,63,127,255,255,0,1535,4095] follows (by kernel_rfl) (tP rfl (aG (r := .own _ _ _) rfl) (tfa tok ?_))
 refine tld tok ?_
 obtain ⟨v22, hv22, h3⟩ := bnd h3
 refine bW rfl w0 rfl (lF tok hv22 rfl rfl rfl rfl rfl rfl rfl rfl) rfl rfl rfl (bW rfl w0 rfl (aBf tok (iM hv22).2.1 rfl rfl rfl rfl rfl) rfl rfl rfl (bW rfl w0 rfl (aT tok rfl rfl rfl rfl) rfl rfl rfl ?_))
 obtain ⟨v23, hv23, h3⟩ := bnd h3
 refine iL rfl w0 rfl (cR 7 (aAc hv23) rfl rfl rfl) (tP rfl (aG (r := .tup _) rfl) (tP rfl (aN rfl rfl) (tP rfl (aN rfl rfl) (aAz rfl w0 rfl rfl (fun hx hk => iQ 6 (cs := [z0, z0]) tok rfl rfl hk) (iN rfl w0 (fR (cs := _ :: _) tok rfl rfl rfl rfl rfl rfl rfl) (tpa ?_))))))
 refine bC ?_
 refine ⟨by kernel_rfl, ?_⟩
 refine aI (aD (sq [0,1] (pm ?_)))
 refine rP rfl (bQ rfl) (nx ?_)
 refine bM h3 rfl (fun hc h3 => ?_) (fun hc h3 => ?_)
 refine sq [0,1] (pa ?_)
 refine pa (nx (aA (aR ?_)))
 refine bJ ?_
 cases h3
 replace h2 := gF h2
 refine aR ?_
 cases h2
 refine eX ⟨_, rfl, fun e => ?_⟩
 subst e
 refine bJ ?_
 replace h0 := gF h0
 refine aR ?_
 cases h0
 exact qI (rs := [.tmp 6, .tmp 7]) 2 rfl rfl
 refine sk (sq [0,1,2,3,4,5] (rP rfl (aG (r := .own _ _ _) rfl) (fa tok ?_)))
 refine ld tok ?_
 refine rL rfl (aT tok rfl rfl rfl rfl) ?_
 obtain ⟨v24, hv24, h3⟩ := bnd h3
 refine rL rfl (lF tok hv24 rfl rfl rfl rfl rfl rfl rfl rfl) (rw0 rfl w0 (aKj (cs := _ :: _) tok v23.1 (iM hv24).2.1 rfl rfl rfl rfl rfl rfl rfl rfl) (nx (sq [0,1,2,3,4] (rP rfl (aG (r := .own _ _ _) rfl) (fa tok ?_)))))
 refine ld tok ?_
 obtain ⟨v25, hv25, h3⟩ := bnd h3
 refine rL rfl (lF tok hv25 rfl rfl rfl rfl rfl rfl rfl rfl) (rw0 rfl w0 (aKj (cs := [.d _]) tok true (iM hv25).2.1 rfl rfl rfl rfl rfl rfl rfl rfl) (nx (sr [0] (pa (bB ?_)))))
 refine bG (aI ?_)
 cases h3
 refine ⟨_, rfl, ?_⟩
 exact wk [0,1,2]
 rintro v26 rfl
 replace h2 := iF h2
 refine sr [0,1,2] (pm ?_)
 refine rP rfl (bI rfl rfl) (pa (bB ?_))
 refine cE ?_
 cases h2
 refine ⟨_, rfl, ?_⟩
 exact wk [0,1,2]
 refine bL (bZ ?_)
 cases h2
 refine cG ⟨_, rfl, fun e => ?_⟩
 subst e
 refine aX (aI ?_)
 refine ⟨_, rfl, ?_⟩
 exact wk [0,1,2]
 rintro v27 rfl
 replace h0 := iF h0
 refine sq [0,1,2] (pm ?_)
 refine pa ?_
 refine pa (nx (aA ?_))
 cases h0
 exact qI (rs := [.tmp 6, .tmp 7]) 2 rfl rfl

theorem aJe {p0 : bE} {p1 : cH} {p2 : List aJ} {r : Bool} (h0 : qO p0 p1 p2 = some r) : FnC Tryz.prog 253 [] [.ref (fM p0), .agg [dI p1.A, (dI p1.WheelA), (dI p1.B), (dI p1.WheelB)], (dL eV p2)] [] (dB r) := by
 refine fi 44 tok Tryz.func253 ?_
 unfold qO at h0
 refine sq [0,1] (bxx 3 ?_)
 refine pa (nx (sq [0,1,2,3,4] ?_))
 refine pmr ?_
 refine rL rfl (aT tok rfl rfl rfl rfl) ?_
 obtain ⟨v1, hv1, h0⟩ := bnd h0
 refine rS rfl (aO 4 (aDd hv1) rfl rfl rfl) (al 4 [z0, z0] tok ?_)
 refine bst tok (nx (sq [0,1,2,3,4,5,6,7,8,9,10,11] ?_))
 refine fa tok ?_
 refine ld tok ?_
 refine rP rfl (uI rfl) (fa tok ?_)
 refine ld tok ?_
 obtain ⟨v2, hv2, h0⟩ := bnd h0
 refine rS rfl (aO 5 (nU hv2) rfl rfl rfl) (rP rfl (aG (r := .tup _) rfl) (rP rfl (aN rfl rfl) (rP rfl (aN rfl rfl) (al 5 [z0, z0] tok ?_))))
 refine bst tok ?_
 refine pa (nx (aD ?_))
 refine aC (is := [0,1,2,3,4,5,6,7,8,9,10,11,12]) [0,0,2,7,15,0,63,127,255,255,0,1535,4095] follows (by kernel_rfl) (tpm ?_)
 refine tfa tok ?_
 refine tld tok ?_
 obtain ⟨v3, hv3, h0⟩ := bnd h0
 refine tP rfl (cK tok hv3 rfl rfl rfl rfl rfl rfl) (tP rfl (bK tok rfl rfl rfl (by repeat (first | exact iA.z _ | apply iA.t))) (bW rfl w0 rfl (aT tok rfl rfl rfl rfl) rfl rfl rfl ?_))
 obtain ⟨v4, hv4, h0⟩ := bnd h0
 refine iL rfl w0 rfl (cR 7 (aAc hv4) rfl rfl rfl) (tP rfl (aG (r := .tup _) rfl) (tP rfl (aN rfl rfl) (tP rfl (aN rfl rfl) (aAz rfl w0 rfl rfl (fun hx hk => iQ 6 (cs := [z0, z0]) tok rfl rfl hk) (iN rfl w0 (fR (cs := _ :: _) tok rfl rfl rfl rfl rfl rfl rfl) (tpa ?_))))))
 refine bC ?_
 refine ⟨by kernel_rfl, ?_⟩
 refine aI (aD (aC (is := [0,1,2,3,4,5,6,7,8,9,10]) [0,1,3,3,3,19,59,123,255,511,1023] follows (by kernel_rfl) (tpm ?_)))
 refine tpm ?_
 refine nD (u := 35) h0 rfl (fun hc h0 => ?_) (fun hc h0 => ?_)
 refine bW rfl (w1 rfl rfl rfl) rfl (aT tok rfl rfl rfl rfl) rfl rfl rfl (aGx ?_)
 refine bW rfl (w1 rfl rfl rfl) rfl (sH tok rfl rfl rfl rfl rfl rfl rfl) rfl rfl rfl (bW rfl (w1 rfl rfl rfl) rfl (lD tok rfl rfl rfl rfl rfl) rfl rfl rfl ?_)
 obtain ⟨v5, hv5, h0⟩ := bnd h0
 refine mL rfl (w1 rfl rfl rfl) rfl (cK tok hv5 rfl rfl rfl rfl rfl rfl) (mL rfl (w1 rfl rfl rfl) rfl (bK tok rfl rfl rfl (by repeat (first | exact iA.z _ | apply iA.t))) (mL rfl (w1 rfl rfl rfl) rfl (aGa (a := v4.1) (b := v5) rfl rfl) (rI ?_)))
 refine tpa ?_
 refine bC ?_
 refine ⟨by kernel_rfl, ?_⟩
 refine aI (aA ?_)
 cases h0
 exact r0t 6 rfl
 iterate 7 refine k2 ?_
 refine qN ?_
 refine tpa ?_
 refine bC ?_
 refine ⟨by kernel_rfl, ?_⟩
 refine aI (aA ?_)
 cases h0
 exact r0t 6 rfl

theorem aGk {p0 : bE} {p1 : Int} {r : List aJ × Int} (h0 : nG p0 p1 = some r) : FnC Tryz.prog 206 [] [.ref (fM p0), (dI p1)] [.live [⟨62, 2, .data (List.map eV r.1)⟩]] (.tup [.own 0 0 r.1.length, (dI r.2)]) := by
 refine fi 79 tok Tryz.func206 ?_
 unfold nG at h0
 refine sq [0,1] (pa ?_)
 refine pa (nx (aD (sq [0,1,2,3] ?_)))
 refine pmr ?_
 refine pm ?_
 obtain ⟨v1, hv1, h0⟩ := bnd h0
 refine rS rfl (aO 3 (tK hv1) rfl rfl rfl) (rP rfl (bQ rfl) (nx ?_))
 refine bM h0 rfl (fun hc h0 => ?_) (fun hc h0 => ?_)
 refine sq [0,1] (pa ?_)
 refine pa (nx ?_)
 refine cJ (eB 3 rfl 62 2 (d := 4) rfl) (aA (aR ?_))
 cases h0
 exact dG (rs := [.tmp 4, .tmp 5]) [3] rfl
 refine sk (sq [0,1,2,3,4,5,6] (pmr ?_))
 refine nr ?_
 refine fr tok ?_
 refine lr tok ?_
 refine rP rfl (aL tok rfl rfl rfl) ?_
 obtain ⟨hq2, h0⟩ := dP h0
 refine rS rfl (aNn 3 tok (c := cB) false hq2 rfl rfl rfl rfl rfl rfl rfl rfl rfl rfl rfl rfl rfl) (rP rfl (aV (r := .own _ _ _) rfl) (nx (sq [0,1,2,3,4,5,6] (pmr ?_))))
 refine nr ?_
 refine fr tok ?_
 refine lr tok ?_
 refine rP rfl (aL tok rfl rfl rfl) ?_
 obtain ⟨hq3, h0⟩ := dP h0
 refine rS rfl (aNn 4 tok (c := eV) (⟨0, 0⟩ : aJ) hq3 rfl rfl rfl rfl rfl rfl rfl rfl rfl rfl rfl rfl rfl) (rP rfl (aV (r := .own _ _ _) rfl) (nx (sq [0,1,2,3] (rP rfl (aG (r := .own _ _ _) rfl) (pm ?_)))))
 obtain ⟨v4, hv4, h0⟩ := bnd h0
 refine rL rfl (lF tok hv4 rfl rfl rfl rfl rfl rfl rfl rfl) (rw0 rfl w0 (aKj (cs := [.d _]) tok true (iM hv4).2.1 rfl rfl rfl rfl rfl rfl rfl rfl) (nx (sq [0,1,2,3,4] (rP rfl (aG (r := .own _ _ _) rfl) (pm ?_)))))
 obtain ⟨v5, hv5, h0⟩ := bnd h0
 refine rS rfl (aO 5 (sD hv5) rfl rfl rfl) ?_
 obtain ⟨v6, hv6, h0⟩ := bnd h0
 refine rL rfl (lF tok hv6 rfl rfl rfl rfl rfl rfl rfl rfl) (rw0 rfl w0 (aKj (cs := _ :: _) tok v5 (iM hv6).2.1 rfl rfl rfl rfl rfl rfl rfl rfl) (nx ?_))
 obtain ⟨v15x, h1, h0⟩ := bnd h0
 refine dZ v15x (fun v15 => ⟨aE (aE (aE ((fun _ => .dead)) 0 (.ref (fM p0))) 6 (.own 3 0 (v15.1).length)) 7 (.own 4 0 (v15.2).length), lks [.no, .no, .no, .live [⟨4, 1, .data (List.map cB v15.1)⟩], .live [⟨62, 2, .data (List.map eV v15.2)⟩]]⟩) ?_ ?_
 refine sq [0] (pa (nx (aK ?_)))
 refine bD (fun s11 => ⟨aE (aE (aE (aE ((fun _ => .dead)) 0 (.ref (fM p0))) 6 (.own 3 0 (s11.2.1).length)) 7 (.own 4 0 (s11.2.2).length)) 8 (dB s11.1), lks [.no, .no, .no, .live [⟨4, 1, .data (List.map cB s11.2.1)⟩], .live [⟨62, 2, .data (List.map eV s11.2.2)⟩]]⟩) h1 ?_ (fun s11 y h2 => ?_)
 exact wk [0,1,2,3,4]
 refine aD (sq [0] (pm (nx ?_)))
 refine bM h2 rfl (fun hc h2 => ?_) (fun hc h2 => ?_)
 refine sk (aK (sq [0,1,2,3,4,5,6,7,8] (pmr ?_)))
 refine rP rfl (aG (r := .own _ _ _) rfl) (rP rfl (aG (r := .own _ _ _) rfl) ?_)
 obtain ⟨v12, hv12, h2⟩ := bnd h2
 obtain ⟨hq13, h2⟩ := dP h2
 obtain ⟨hq14, h2⟩ := dP h2
 refine rw1 rfl w0 rfl (eA [3,4] 300 (aBu hv12) rfl rfl) (rP rfl (aG (r := .tup _) rfl) (rP rfl (aN rfl rfl) (rP rfl (aN rfl rfl) (pa ?_))))
 refine pa (nx (aD (sq [0,1] ?_)))
 refine pm ?_
 refine rP rfl (bQ rfl) (nx ?_)
 refine bM h2 rfl (fun hc h2 => ?_) (fun hc h2 => ?_)
 refine sq [0,1] (pa ?_)
 refine pa (nx ?_)
 refine cJ (eB 5 rfl 62 2 (d := 4) rfl) (aA (aR (bJ ?_)))
 cases h2
 refine eX ⟨_, rfl, fun e => ?_⟩
 subst e
 refine bJ ?_
 replace h0 := gF h0
 refine aR ?_
 cases h0
 exact dG (rs := [.tmp 4, .tmp 5]) [5] rfl
 refine sk (sr [0,1] (pm ?_))
 refine pa (bB ?_)
 refine bG (cE ?_)
 cases h2
 refine ⟨_, rfl, ?_⟩
 exact wk [0,1,2,3,4]
 refine bL (bZ ?_)
 cases h2
 refine cG ⟨_, rfl, fun e => ?_⟩
 subst e
 refine aX (aI ?_)
 refine ⟨_, rfl, ?_⟩
 exact wk [0,1,2,3,4]
 rintro v15 rfl
 replace h0 := iF h0
 obtain ⟨v20x, h1, h0⟩ := bnd h0
 refine dZ v20x (fun v20 => ⟨aE (aE ((fun _ => .dead)) 0 (.ref (fM p0))) 7 (.own 3 0 (v15.2).length), lks [.no, .no, .no, .live [⟨62, 2, .data (List.map eV v15.2)⟩]]⟩) ?_ ?_
 refine sq [0] (pa (nx (aK ?_)))
 refine bD (fun s18 => ⟨aE (aE (aE (aE ((fun _ => .dead)) 0 (.ref (fM p0))) 6 (.own 3 0 (v15.1).length)) 7 (.own 4 0 (v15.2).length)) 11 (dI s18), lks [.no, .no, .no, .live [⟨4, 1, .data (List.map cB v15.1)⟩], .live [⟨62, 2, .data (List.map eV v15.2)⟩]]⟩) h1 ?_ (fun s18 y h2 => ?_)
 exact wk [0,1,2,3,4]
 refine aD (sq [0,1,2,3] (pm ?_))
 refine rP rfl (aG (r := .own _ _ _) rfl) (rL rfl (pW tok rfl rfl rfl rfl rfl) (rP rfl (bR rfl rfl) (nx ?_)))
 refine bN h2 rfl (fun hc h2 => ?_) (fun hc h2 => ?_)
 refine sk (aD (aK (sq [0,1,2,3,4] (rP rfl (aG (r := .own _ _ _) rfl) (pm ?_)))))
 obtain ⟨v19, hv19, h2⟩ := bnd h2
 refine rL rfl (lF tok hv19 rfl rfl rfl rfl rfl rfl rfl rfl) (rL rfl (pC tok (iM hv19).2.1 rfl rfl rfl rfl rfl rfl) (rP rfl (bQ rfl) (nx ?_)))
 refine bM h2 rfl (fun hc h2 => ?_) (fun hc h2 => ?_)
 refine sq [0,1] (pa ?_)
 refine pa (nx ?_)
 refine cJ (eB 5 rfl 62 2 (d := 4) rfl) (aA (bJ (aR ?_)))
 cases h2
 refine eX ⟨_, rfl, fun e => ?_⟩
 subst e
 refine bJ ?_
 replace h0 := gF h0
 refine aR ?_
 cases h0
 exact dG (rs := [.tmp 4, .tmp 5]) [5] rfl
 refine cV (bG (aI (sr [0,1,2] (pm ?_))))
 refine rP rfl (bI rfl rfl) (pa (bB ?_))
 refine cE ?_
 cases h2
 refine ⟨_, rfl, ?_⟩
 exact wk [0,1,2,3,4]
 refine bL (bZ ?_)
 cases h2
 refine cG ⟨_, rfl, fun e => ?_⟩
 subst e
 refine aX (aI ?_)
 refine ⟨_, rfl, ?_⟩
 exact wk [0,1,2,4]
 rintro v20 rfl
 replace h0 := iF h0
 obtain ⟨v27x, h1, h0⟩ := bnd h0
 refine dZ v27x (fun v27 => ⟨aE ((fun _ => .dead)) 7 (.own 3 0 (v15.2).length), lks [.no, .no, .no, .live [⟨62, 2, .data (List.map eV v15.2)⟩]]⟩) ?_ ?_
 refine sq [0] (pa (nx (aK ?_)))
 refine bD (fun s24 => ⟨aE (aE (aE ((fun _ => .dead)) 0 (.ref (fM p0))) 7 (.own 3 0 (v15.2).length)) 12 (dI s24), lks [.no, .no, .no, .live [⟨62, 2, .data (List.map eV v15.2)⟩]]⟩) h1 ?_ (fun s24 y h2 => ?_)
 exact wk [0,1,2,3]
 refine aD (sq [0,1,2,3,4,5,6] (pm ?_))
 refine pmr ?_
 refine nr ?_
 refine fr tok ?_
 refine lr tok ?_
 refine rP rfl (aL tok rfl rfl rfl) (rP rfl (bR rfl rfl) (nx ?_))
 refine bN h2 rfl (fun hc h2 => ?_) (fun hc h2 => ?_)
 refine sk (aD (aK (sq [0,1,2,3,4,5,6,7,8,9,10] (pmr ?_))))
 refine pmr ?_
 refine nr ?_
 refine fr tok ?_
 refine lr tok ?_
 refine pm ?_
 obtain ⟨v25, hv25, h2⟩ := bnd h2
 refine rP rfl (cK tok hv25 rfl rfl rfl rfl rfl rfl) (rP rfl (bK tok rfl rfl rfl (by repeat (first | exact iA.z _ | apply iA.t))) (rP rfl (aG (r := .own _ _ _) rfl) ?_))
 obtain ⟨v26, hv26, h2⟩ := bnd h2
 refine rS rfl (dR 4 (aJe hv26) rfl rfl) (rP rfl (bQ rfl) (nx ?_))
 refine bM h2 rfl (fun hc h2 => ?_) (fun hc h2 => ?_)
 refine sq [0,1] (pa ?_)
 refine pa (nx ?_)
 refine cJ (eB 4 rfl 62 2 (d := 4) rfl) (aA (bJ (aR ?_)))
 cases h2
 refine eX ⟨_, rfl, fun e => ?_⟩
 subst e
 refine bJ ?_
 replace h0 := gF h0
 refine aR ?_
 cases h0
 exact dG (rs := [.tmp 4, .tmp 5]) [4] rfl
 refine cV (bG (aI (sr [0,1,2] (pm ?_))))
 refine rP rfl (bI rfl rfl) (pa (bB ?_))
 refine cE ?_
 cases h2
 refine ⟨_, rfl, ?_⟩
 exact wk [0,1,2,3]
 refine bL (bZ ?_)
 cases h2
 refine cG ⟨_, rfl, fun e => ?_⟩
 subst e
 refine aX (aI ?_)
 refine ⟨_, rfl, ?_⟩
 exact wk [0,1,2,3]
 rintro v27 rfl
 replace h0 := iF h0
 refine sq [0,1,2] (rP rfl (aG (r := .own _ _ _) rfl) (rP rfl (aV (r := .own _ _ _) rfl) (pa (nx (aA ?_)))))
 cases h0
 exact dG (rs := [.tmp 4, .tmp 5]) [3] rfl

theorem aG2 {p0 : aU} {p1 : aJ} {r : Bool} (h0 : rT p0 p1 = some r) : FnC Tryz.prog 207 [] [.ref (fO p0), .agg [dI p1.Num, (dI p1.Den)]] [] (dB r) := by
 refine fi 22 tok Tryz.func207 ?_
 unfold rT at h0
 refine sq [0,1] (bxx 3 ?_)
 refine pa (nx (aD ?_))
 refine aC (is := [0,1,2,3,4,5,6,9,10,11,12,13,14,15,7,8,16,17]) [0,1,3,7,15,0,32,96,255,0,512,1536,3584,0,8192,32256,65535,131071] follows (by kernel_rfl) (pR ?_)
 refine tnr ?_
 refine tfr tok ?_
 refine tlr tok ?_
 refine tP rfl (fL rfl rfl) (tfa tok ?_)
 refine tld tok ?_
 refine pR ?_
 refine tnr ?_
 refine tfr tok ?_
 refine tlr tok ?_
 refine tfa tok ?_
 refine tld tok ?_
 refine tP rfl (fL rfl rfl) ?_
 obtain ⟨v1, hv1, h0⟩ := bnd h0
 refine iL rfl w0 rfl (cR 4 (qU hv1) rfl rfl rfl) (tP rfl (fL rfl rfl) (tP rfl (dV rfl rfl) (tpa ?_)))
 refine bC ?_
 refine ⟨by kernel_rfl, ?_⟩
 refine aI (aA ?_)
 cases h0
 exact r0t 4 rfl

theorem aEx {p0 : aB} {p1 : List Int} {r : Int} (h0 : nM p0 p1 = some r) : FnC Tryz.prog 202 [] [.ref (bY p0), (dL cI p1)] [] (dI r) := by
 refine fi 22 tok Tryz.func202 ?_
 unfold nM at h0
 refine sq [0] (pa (nx (aD ?_)))
 obtain ⟨v3, h1, h0⟩ := bnd h0
 refine bH ⟨aE (aE (aE ((fun _ => .dead)) 0 (.ref (bY p0))) 1 (dL cI p1)) 12 (dB v3), lks [.no, .no, .no]⟩ ?_ ?_
 refine sr [0,1,2,3,4,5,6,7] (pmr ?_)
 obtain ⟨v1, hv1, h1⟩ := bnd h1
 refine rS rfl (aO 3 (uZ hv1) rfl rfl rfl) (rP rfl (bQ rfl) (pm ?_))
 refine cY (u := 8) h1 rfl (fun hc h1 => ?_) (fun hc h1 => ?_)
 iterate 3 refine k1 ?_
 refine pkt (nx ?_)
 cases h1
 exact wk [0,1,2]
 refine pm1 ?_
 obtain ⟨v2, hv2, h1⟩ := bnd h1
 refine rs rfl (w1 rfl rfl rfl) rfl (aO 3 (aDj hv2) rfl rfl rfl) (rp rfl (w1 rfl rfl rfl) rfl (bQ rfl) (pkf (nx ?_)))
 cases h1
 exact wk [0,1,2]
 refine bM h0 rfl (fun hc h0 => ?_) (fun hc h0 => ?_)
 refine sq [0] (pa (nx (aA (aR ?_))))
 cases h0
 exact r0t 4 rfl
 refine sk (aD (sq [0,1,2,3,4,5,6,7,8] (pm ?_)))
 refine rP rfl (aL tok rfl rfl rfl) (pmr ?_)
 refine nr ?_
 refine fr tok ?_
 refine lr tok ?_
 refine rP rfl (aL tok rfl rfl rfl) ?_
 obtain ⟨hq4, h0⟩ := dP h0
 refine rP rfl (fP rfl rfl hq4) (rP rfl (dW rfl rfl) (nx ?_))
 refine bN h0 rfl (fun hc h0 => ?_) (fun hc h0 => ?_)
 refine sq [0] (pa (nx (aA (aR ?_))))
 cases h0
 exact r0t 4 rfl
 refine sk (sq [0] (pa (nx (aA ?_))))
 cases h0
 exact r0t 4 rfl

theorem yB {p0 : aU} {r : List ByteArray} (h0 : kP p0 = some r) : FnC Tryz.prog 126 [] [.ref (fO p0)] [.live [⟨9, 1, .data (List.map cS r)⟩]] (.own 0 0 r.length) := by
 refine fi 61 tok Tryz.func126 ?_
 unfold kP at h0
 refine sq [0] (pa (nx (sq [0,1] ?_)))
 refine rS rfl (eM 3 tok rfl rfl rfl rfl) (rP rfl (aV (r := .own _ _ _) rfl) (nx (aD (aC (is := [0,1,2,3,4,5,6,7,8,9,10,11,12]) [0,1,3,0,8,24,56,127,255,511,511,1023,4095] follows (by kernel_rfl) (pR ?_)))))
 refine tnr ?_
 refine tfr tok ?_
 refine pR ?_
 refine tnr ?_
 refine tfr tok ?_
 refine tlr tok ?_
 obtain ⟨v1, hv1, h0⟩ := bnd h0
 refine iL rfl w0 rfl (cR 4 (nC (aGk hv1)) rfl rfl rfl) (tP rfl (aG (r := .tup _) rfl) (tP rfl (aN rfl rfl) (tP rfl (aN rfl rfl) (tP rfl (aV (r := .own _ _ _) rfl) (tpa ?_)))))
 refine bC ?_
 refine ⟨by kernel_rfl, ?_⟩
 refine aI ?_
 obtain ⟨v9, h1, h0⟩ := bnd h0
 refine bH ⟨aE (aE ((fun _ => .dead)) 0 (.ref (fO p0))) 3 (.own 3 0 (v9).length), lks [.no, .no, .no, .live [⟨9, 1, .data (List.map cS v9)⟩]]⟩ ?_ ?_
 refine sq [0,1] (pm ?_)
 refine rP rfl (dW rfl rfl) (nx ?_)
 refine bN h1 rfl (fun hc h1 => ?_) (fun hc h1 => ?_)
 refine sr [0,1,2,3] (rP rfl (aG (r := .own _ _ _) rfl) (rS rfl (jA tok cS [(⟨#[119,111,114,107,115]⟩ : ByteArray)] rfl rfl rfl (by repeat (first | exact Els.nil _ | apply Els.cons (cs := [.d _]) rfl rfl rfl | apply Els.cons (cs := _ :: _) rfl rfl rfl)) rfl rfl rfl (by repeat (first | exact cZ.nil | (apply cZ.cons; (repeat (first | exact gA.nil | apply gA.cons))))) rfl) ?_))
 obtain ⟨hq2, h1⟩ := dP h1
 refine rw1 rfl w0 rfl (fQ tok hq2 rfl rfl rfl rfl rfl rfl rfl rfl rfl rfl rfl rfl (fun _ => rfl)) (rP rfl (aV (r := .own _ _ _) rfl) (nx ?_))
 cases h1
 exact wk [0,1,2,3]
 obtain ⟨v5, h2, h1⟩ := bnd h1
 refine bH ⟨aE (aE (aE ((fun _ => .dead)) 0 (.ref (fO p0))) 3 (.own 3 0 (v5).length)) 4 (.own 4 0 (v1.1).length), lks [.no, .no, .no, .live [⟨9, 1, .data (List.map cS v5)⟩], .live [⟨62, 2, .data (List.map eV v1.1)⟩]]⟩ ?_ ?_
 refine sq [0,1,2,3,4,5,6,7,8] (rP rfl (aG (r := .own _ _ _) rfl) (pmr ?_))
 refine nr ?_
 refine fr tok ?_
 refine lr tok ?_
 obtain ⟨v3, hv3, h2⟩ := bnd h2
 refine rL rfl (lF tok hv3 rfl rfl rfl rfl rfl rfl rfl rfl) (rL rfl (aBf tok (iM hv3).2.1 rfl rfl rfl rfl rfl) (rP rfl (pbl (C0 := [z0, z0]) tok rfl rfl rfl) (rP rfl (tT (a := v3) (b := (⟨1, 12⟩ : aJ)) rfl rfl) (nx ?_))))
 refine bN h2 rfl (fun hc h2 => ?_) (fun hc h2 => ?_)
 refine sr [0,1,2,3] (rP rfl (aG (r := .own _ _ _) rfl) (rS rfl (jA tok cS [(⟨#[104,111,117,114]⟩ : ByteArray)] rfl rfl rfl (by repeat (first | exact Els.nil _ | apply Els.cons (cs := [.d _]) rfl rfl rfl | apply Els.cons (cs := _ :: _) rfl rfl rfl)) rfl rfl rfl (by repeat (first | exact cZ.nil | (apply cZ.cons; (repeat (first | exact gA.nil | apply gA.cons))))) rfl) ?_))
 obtain ⟨hq4, h2⟩ := dP h2
 refine rw1 rfl w0 rfl (fQ tok hq4 rfl rfl rfl rfl rfl rfl rfl rfl rfl rfl rfl rfl (fun _ => rfl)) (rP rfl (aV (r := .own _ _ _) rfl) (nx ?_))
 cases h2
 exact wk [0,1,2,3,4]
 refine sk ?_
 cases h2
 exact wk [0,1,2,3,4]
 refine sq [0,1,2,3,4,5,6,7,8,9] (pmr ?_)
 refine rP rfl (aG (r := .own _ _ _) rfl) (pmr ?_)
 refine nr ?_
 refine fr tok ?_
 refine lr tok ?_
 obtain ⟨v6, hv6, h1⟩ := bnd h1
 refine rL rfl (lF tok hv6 rfl rfl rfl rfl rfl rfl rfl rfl) (rL rfl (aBf tok (iM hv6).2.1 rfl rfl rfl rfl rfl) ?_)
 obtain ⟨v7, hv7, h1⟩ := bnd h1
 refine rS rfl (aO 5 (aG2 hv7) rfl rfl rfl) (rP rfl (bQ rfl) (nx ?_))
 refine bM h1 rfl (fun hc h1 => ?_) (fun hc h1 => ?_)
 refine sr [0,1,2,3] (rP rfl (aG (r := .own _ _ _) rfl) (rS rfl (jA tok cS [(⟨#[98,101,97,116,115]⟩ : ByteArray)] rfl rfl rfl (by repeat (first | exact Els.nil _ | apply Els.cons (cs := [.d _]) rfl rfl rfl | apply Els.cons (cs := _ :: _) rfl rfl rfl)) rfl rfl rfl (by repeat (first | exact cZ.nil | (apply cZ.cons; (repeat (first | exact gA.nil | apply gA.cons))))) rfl) ?_))
 obtain ⟨hq8, h1⟩ := dP h1
 refine rw1 rfl w0 rfl (fQ tok hq8 rfl rfl rfl rfl rfl rfl rfl rfl rfl rfl rfl rfl (fun _ => rfl)) (rP rfl (aV (r := .own _ _ _) rfl) (nx ?_))
 cases h1
 exact wk [0,1,2,3]
 refine sk ?_
 cases h1
 exact wk [0,1,2,3]
 obtain ⟨v12, h1, h0⟩ := bnd h0
 refine bH ⟨aE ((fun _ => .dead)) 3 (.own 3 0 (v12).length), lks [.no, .no, .no, .live [⟨9, 1, .data (List.map cS v12)⟩]]⟩ ?_ ?_
 refine aD (aC (is := [0,1,2,3,4,5,6,7,8]) [0,1,3,0,8,24,56,127,255] follows (by kernel_rfl) (pR ?_))
 refine tnr ?_
 refine tfr tok ?_
 refine pR ?_
 refine tnr ?_
 refine tfr tok ?_
 refine tlr tok ?_
 obtain ⟨v10, hv10, h1⟩ := bnd h1
 refine iL rfl w0 rfl (cR 4 (nC (aEx hv10)) rfl rfl rfl) (tP rfl (dW rfl rfl) (bC ?_))
 refine ⟨by kernel_rfl, ?_⟩
 refine aI ?_
 refine bN h1 rfl (fun hc h1 => ?_) (fun hc h1 => ?_)
 refine sr [0,1,2,3] (rP rfl (aG (r := .own _ _ _) rfl) (rS rfl (jA tok cS [(⟨#[99,97,109]⟩ : ByteArray)] rfl rfl rfl (by repeat (first | exact Els.nil _ | apply Els.cons (cs := [.d _]) rfl rfl rfl | apply Els.cons (cs := _ :: _) rfl rfl rfl)) rfl rfl rfl (by repeat (first | exact cZ.nil | (apply cZ.cons; (repeat (first | exact gA.nil | apply gA.cons))))) rfl) ?_))
 obtain ⟨hq11, h1⟩ := dP h1
 refine rw1 rfl w0 rfl (fQ tok hq11 rfl rfl rfl rfl rfl rfl rfl rfl rfl rfl rfl rfl (fun _ => rfl)) (rP rfl (aV (r := .own _ _ _) rfl) (nx ?_))
 cases h1
 exact wk [0,1,2,3]
 refine sk ?_
 cases h1
 exact wk [0,1,2,3]
 refine sq [0,1] (rP rfl (aG (r := .own _ _ _) rfl) (rP rfl (aV (r := .own _ _ _) rfl) (nx (aA ?_))))
 cases h0
 exact dG (rs := [.tmp 2]) [3] rfl

theorem aKc {p0 : Int} {r : Bool} (h0 : tF p0 = some r) : FnC Tryz.prog 250 [] [dI p0] [] (dB r) := by
 refine fi 5 tok Tryz.func250 ?_
 unfold tF at h0
 refine sq [0] (pa (nx (sq [0,1,2] ?_)))
 refine pm ?_
 obtain ⟨v1, hv1, h0⟩ := bnd h0
 refine rS rfl (aO 3 (cW hv1) rfl rfl rfl) (pa (nx (aA ?_)))
 cases h0
 exact r0t 2 rfl

theorem aM6 {p0 : aB} {p1 : cA} {r : Bool} (h0 : uQ p0 p1 = some r) : FnC Tryz.prog 203 [] [.ref (bY p0), .agg [dI p1.Year, (dI p1.Month), (dI p1.Day)]] [] (dB r) := by
 refine fi 30 tok Tryz.func203 ?_
 unfold uQ at h0
 refine sq [0,1] (bxx 3 ?_)
 refine pa (nx (aD ?_))
 obtain ⟨v3, h1, h0⟩ := bnd h0
 refine bH ⟨aE (aE (aE ((fun _ => .dead)) 0 (.ref (bY p0))) 3 (.ptr 3 0 1 0 0)) 19 (dB v3), lks [.no, .no, .no, .live [⟨36, 3, .av [[dI p1.Year, (dI p1.Month), (dI p1.Day)]]⟩]]⟩ ?_ ?_
 refine aC (is := [0,1,2,3,4,5,6,7,8,9,10,11,12,13,14]) [0,1,3,7,15,31,63,31,159,415,927,1951,4095,8191,16383] follows (by kernel_rfl) (tfa tok ?_)
 refine tld tok ?_
 obtain ⟨v1, hv1, h1⟩ := bnd h1
 refine iL rfl w0 rfl (cR 4 (aKc hv1) rfl rfl rfl) (tP rfl (bQ rfl) (tpm ?_))
 refine nD (u := 9) h1 rfl (fun hc h1 => ?_) (fun hc h1 => ?_)
 iterate 9 refine k2 ?_
 refine rI ?_
 refine bC ?_
 refine ⟨by kernel_rfl, ?_⟩
 refine aI ?_
 cases h1
 exact wk [0,1,2,3]
 refine bW rfl (w1 rfl rfl rfl) rfl (sH tok rfl rfl rfl rfl rfl rfl rfl) rfl rfl rfl (bW rfl (w1 rfl rfl rfl) rfl (lD tok rfl rfl rfl rfl rfl) rfl rfl rfl (lX ?_))
 refine xP ?_
 refine sE tok ?_
 refine uM tok ?_
 refine mL rfl (w1 rfl rfl rfl) rfl (aL tok rfl rfl rfl) ?_
 obtain ⟨v2, hv2, h1⟩ := bnd h1
 refine iL rfl (w1 rfl rfl rfl) rfl (cR 4 (cW hv2) rfl rfl rfl) (mL rfl (w1 rfl rfl rfl) rfl (bQ rfl) (qN ?_))
 refine bC ?_
 refine ⟨by kernel_rfl, ?_⟩
 refine aI ?_
 cases h1
 exact wk [0,1,2,3]
 refine bM h0 rfl (fun hc h0 => ?_) (fun hc h0 => ?_)
 refine sq [0] (pa (nx (aA (aR ?_))))
 cases h0
 exact r0t 4 rfl
 refine sk (aD (aC (is := [0,1,2,3,4,5,6,7,8,9,10]) [0,1,0,0,8,0,32,96,252,511,1023] follows (by kernel_rfl) (tfa tok ?_)))
 refine tld tok ?_
 refine pR ?_
 refine tfa tok ?_
 refine tld tok ?_
 refine tfa tok ?_
 refine tld tok ?_
 refine tP rfl (eZ rfl rfl) ?_
 obtain ⟨v4, hv4, h0⟩ := bnd h0
 refine iL rfl w0 rfl (cR 4 (tE hv4) rfl rfl rfl) ?_
 obtain ⟨v5, hv5, h0⟩ := bnd h0
 refine iL rfl w0 rfl (cR 4 (cW hv5) rfl rfl rfl) (tpa ?_)
 refine bC ?_
 refine ⟨by kernel_rfl, ?_⟩
 refine aI (aA ?_)
 cases h0
 exact r0t 4 rfl

theorem zU {p0 : Int} {p1 : Int} {r : Int} (h0 : jE p0 p1 = some r) : FnC Tryz.prog 205 [] [dI p0, (dI p1)] [] (dI r) := by
 refine fi 10 tok Tryz.func205 ?_
 unfold jE at h0
 refine sq [0] (pa (nx (aD (sq [0,1,2] ?_))))
 refine pm ?_
 refine pm ?_
 refine rP rfl (eQ rfl rfl) (nx ?_)
 refine bN h0 rfl (fun hc h0 => ?_) (fun hc h0 => ?_)
 refine sq [0,1] (pm ?_)
 refine pa (nx (aA (aR ?_)))
 cases h0
 exact r0t 4 rfl
 refine sk (sq [0,1] (pm ?_))
 refine pa (nx (aA ?_))
 cases h0
 exact r0t 4 rfl

theorem aBn {p0 : aB} {p1 : List Int} {p2 : cA} {p3 : Int} {r : aH × Int} (h0 : iV p0 p1 p2 p3 = some r) : FnC Tryz.prog 117 [] [.agg [dS p0.Name, (dL aP p0.Months), (dL aF p0.Rules), (dI p0.Week)], (dL cI p1), .agg [dI p2.Year, (dI p2.Month), (dI p2.Day)], (dI p3)] [.live [⟨2, 1, .data (List.map cI r.1.Cam)⟩]] (.tup [.agg [.own 0 0 r.1.Cam.length, (dI r.1.Months), (dI r.1.Teeth), (dI r.1.At), (dI r.1.Day), (dI r.1.Week), (dI r.1.Weekday)], (dI r.2)]) := by
 refine fi 97 tok Tryz.func117 ?_
 unfold iV at h0
 refine sq [0,1,2,3] (bxx 3 ?_)
 refine bxx 4 ?_
 refine al 5 [zl, z0, z0, z0, z0, z0, z0] tok ?_
 refine pa (nx (sq [0,1,2] ?_))
 refine pm ?_
 obtain ⟨v1, hv1, h0⟩ := bnd h0
 refine rS rfl (dR 6 (aEx hv1) rfl rfl) (pa (nx (aD (sq [0,1] ?_))))
 refine pm ?_
 refine rP rfl (dW rfl rfl) (nx ?_)
 refine bN h0 rfl (fun hc h0 => ?_) (fun hc h0 => ?_)
 refine sq [0,1,2,3] (rP rfl (pbl (C0 := [zl, z0, z0, z0, z0, z0, z0]) tok rfl rfl rfl) (pm ?_))
 refine bst tok ?_
 refine pa (nx ?_)
 refine wa 6 2 1 5 0 (aA (aR ?_))
 cases h0
 exact dG (rs := [.cell 8 38, .tmp 9]) [6] rfl
 refine sk (aD ?_)
 obtain ⟨v4, h1, h0⟩ := bnd h0
 refine bH ⟨aE (aE (aE (aE (aE (aE ((fun _ => .dead)) 1 (dL cI p1)) 3 (dI p3)) 4 (.ptr 3 0 1 0 0)) 6 (.ptr 4 0 1 0 0)) 8 (.ptr 5 0 1 0 0)) 30 (dB v4), lks [.no, .no, .no, .live [⟨31, 4, .av [[dS p0.Name, (dL aP p0.Months), (dL aF p0.Rules), (dI p0.Week)]]⟩], .live [⟨36, 3, .av [[dI p2.Year, (dI p2.Month), (dI p2.Day)]]⟩], .live [⟨38, 7, .av [[zl, z0, z0, z0, z0, z0, z0]]⟩]]⟩ ?_ ?_
 refine sr [0,1,2,3,4,5,6,7,8,9] (rL rfl (aT tok rfl rfl rfl rfl) ?_)
 obtain ⟨v2, hv2, h1⟩ := bnd h1
 refine rS rfl (dR 6 (aM6 hv2) rfl rfl) (rP rfl (bQ rfl) (pm ?_))
 refine cY (u := 24) h1 rfl (fun hc h1 => ?_) (fun hc h1 => ?_)
 iterate 5 refine k1 ?_
 refine pkt (nx ?_)
 cases h1
 exact wk [0,1,2,3,4,5]
 refine pm1 ?_
 refine fa1 tok ?_
 refine ld1 tok ?_
 obtain ⟨v3, hv3, h1⟩ := bnd h1
 refine rs rfl (w1 rfl rfl rfl) rfl (aO 6 (cW hv3) rfl rfl rfl) (rp rfl (w1 rfl rfl rfl) rfl (bQ rfl) (pkf (nx ?_)))
 cases h1
 exact wk [0,1,2,3,4,5]
 refine bM h0 rfl (fun hc h0 => ?_) (fun hc h0 => ?_)
 refine sq [0,1,2] (rP rfl (pbl (C0 := [zl, z0, z0, z0, z0, z0, z0]) tok rfl rfl rfl) (bst tok ?_))
 refine pa (nx ?_)
 refine wa 6 2 1 5 0 (aA (aR ?_))
 cases h0
 exact dG (rs := [.cell 8 38, .tmp 9]) [6] rfl
 refine sk (sq [0,1,2,3] (fa tok ?_))
 refine ld tok ?_
 refine rP rfl (aL tok rfl rfl rfl) (pa (nx (aD ?_)))
 refine aC (is := [0,2,3,4,5,6,7,1,8,9,10]) [0,1,0,0,8,0,32,0,255,0,1023] follows (by kernel_rfl) (tpm ?_)
 refine tpm ?_
 refine tfa tok ?_
 refine tld tok ?_
 refine tfa tok ?_
 refine tld tok ?_
 refine tpm ?_
 obtain ⟨v5, hv5, h0⟩ := bnd h0
 refine iL rfl w0 rfl (cR 7 (qA hv5) rfl rfl rfl) (tP rfl (pbl (C0 := [zl, z0, z0, z0, z0, z0, z0]) tok rfl rfl rfl) (aAz rfl w0 rfl rfl (fun hx hk => iQ 6 (cs := [zl, z0, z0, z0, z0, z0, z0]) tok rfl rfl hk) (iN rfl w0 (fR (cs := _ :: _) tok rfl rfl rfl rfl rfl rfl rfl) (bC ?_))))
 refine ⟨by kernel_rfl, ?_⟩
 refine aI (aD (aC (is := [0,1,2,3,4,5,6,7,8,9,10,11,12,13,14]) [0,1,0,4,0,28,63,0,255,0,512,2047,4095,8191,16383] follows (by kernel_rfl) (tfa tok ?_)))
 refine tld tok ?_
 refine tpm ?_
 refine tP rfl (aL tok rfl rfl rfl) (tpm ?_)
 obtain ⟨hq6, h0⟩ := dP h0
 refine tP rfl (kA rfl rfl hq6) ?_
 obtain ⟨hq7, h0⟩ := dP h0
 refine tP rfl (fP rfl rfl hq7) (tpm ?_)
 refine tP rfl (fL rfl rfl) (tfa tok ?_)
 refine tld tok ?_
 refine tP rfl (bI rfl rfl) (tP rfl (eZ rfl rfl) (tfa tok ?_))
 refine iN rfl w0 (fR (cs := [.d _]) tok rfl rfl rfl rfl rfl rfl rfl) (bC ?_)
 refine ⟨by kernel_rfl, ?_⟩
 refine aI ?_
 obtain ⟨v14, h1, h0⟩ := bnd h0
 refine bH ⟨aE (aE (aE ((fun _ => .dead)) 4 (.ptr 3 0 1 0 0)) 8 (.ptr 4 0 1 0 0)) 12 (.ptr 5 0 1 0 0), lks [.no, .no, .no, .live [⟨31, 4, .av [[dS p0.Name, (dL aP p0.Months), (dL aF p0.Rules), (dI p0.Week)]]⟩], .live [⟨38, 7, .av [[zl, z0, z0, z0, z0, z0, z0]]⟩], .live [⟨38, 7, .av [[.own 6 0 (v5).length, (dI (p0.Months.length : Int)), (dI v14), (dI (w64 ((w64 ((w64 ((p2.Year.tmod (w64 ((p1.length : Int).tdiv (p0.Months.length : Int)))) * (p0.Months.length : Int))) + p2.Month)) - 1))), (dI p2.Day), (dI p0.Week), (dI p3)]]⟩], .live [⟨2, 1, .data (List.map cI v5)⟩]]⟩ ?_ ?_
 refine sq [0] (pa (nx (aK ?_)))
 refine bD (fun s11 => ⟨aE (aE (aE (aE (aE ((fun _ => .dead)) 1 (dL cI p1)) 4 (.ptr 3 0 1 0 0)) 8 (.ptr 4 0 1 0 0)) 12 (.ptr 5 0 1 0 0)) 13 (dI s11.1), lks [.no, .no, .no, .live [⟨31, 4, .av [[dS p0.Name, (dL aP p0.Months), (dL aF p0.Rules), (dI p0.Week)]]⟩], .live [⟨38, 7, .av [[zl, z0, z0, z0, z0, z0, z0]]⟩], .live [⟨38, 7, .av [[.own 6 0 (v5).length, (dI (p0.Months.length : Int)), (dI s11.2), (dI (w64 ((w64 ((w64 ((p2.Year.tmod (w64 ((p1.length : Int).tdiv (p0.Months.length : Int)))) * (p0.Months.length : Int))) + p2.Month)) - 1))), (dI p2.Day), (dI p0.Week), (dI p3)]]⟩], .live [⟨2, 1, .data (List.map cI v5)⟩]]⟩) h1 ?_ (fun s11 y h2 => ?_)
 exact wk [0,1,2,3,5,6,7]
 refine aD (sq [0,1,2,3] (pm ?_))
 refine pm ?_
 refine rP rfl (aL tok rfl rfl rfl) (rP rfl (bR rfl rfl) (nx ?_))
 refine bN h2 rfl (fun hc h2 => ?_) (fun hc h2 => ?_)
 refine sk (aD (aK (aC (is := [0,1,2,3,4,5,6,7,8]) [0,1,0,0,12,28,63,127,255] follows (by kernel_rfl) (tfa tok ?_))))
 refine tld tok ?_
 refine tpm ?_
 refine tpm ?_
 obtain ⟨v12, hv12, h2⟩ := bnd h2
 refine tP rfl (cK tok hv12 rfl rfl rfl rfl rfl rfl) (tlr tok ?_)
 obtain ⟨v13, hv13, h2⟩ := bnd h2
 refine iL rfl w0 rfl (cR 7 (zU hv13) rfl rfl rfl) (tfa tok ?_)
 refine iN rfl w0 (fR (cs := [.d _]) tok rfl rfl rfl rfl rfl rfl rfl) (bC ?_)
 refine ⟨by kernel_rfl, ?_⟩
 refine bG (aI (sr [0,1,2] (pm ?_)))
 refine rP rfl (bI rfl rfl) (pa (bB ?_))
 refine cE ?_
 cases h2
 refine ⟨_, rfl, ?_⟩
 exact wk [0,1,2,3,4,5,6]
 refine bL (bZ ?_)
 cases h2
 refine cG ⟨_, rfl, fun e => ?_⟩
 subst e
 refine aX (aI ?_)
 exact wk [0,1,2,3,4,5,6]
 obtain ⟨v25, h1, h0⟩ := bnd h0
 refine bH ⟨aE (aE ((fun _ => .dead)) 8 (.ptr 3 0 1 0 0)) 12 (.ptr 4 0 1 0 0), lks [.no, .no, .no, .live [⟨38, 7, .av [[zl, z0, z0, z0, z0, z0, z0]]⟩], .live [⟨38, 7, .av [[.own 5 0 (v5).length, (dI (p0.Months.length : Int)), (dI v25), (dI (w64 ((w64 ((w64 ((p2.Year.tmod (w64 ((p1.length : Int).tdiv (p0.Months.length : Int)))) * (p0.Months.length : Int))) + p2.Month)) - 1))), (dI p2.Day), (dI p0.Week), (dI p3)]]⟩], .live [⟨2, 1, .data (List.map cI v5)⟩]]⟩ ?_ ?_
 refine sq [0] (pa (nx (aK ?_)))
 refine bD (fun s20 => ⟨aE (aE (aE (aE ((fun _ => .dead)) 4 (.ptr 3 0 1 0 0)) 8 (.ptr 4 0 1 0 0)) 12 (.ptr 5 0 1 0 0)) 14 (dI s20.1), lks [.no, .no, .no, .live [⟨31, 4, .av [[dS p0.Name, (dL aP p0.Months), (dL aF p0.Rules), (dI p0.Week)]]⟩], .live [⟨38, 7, .av [[zl, z0, z0, z0, z0, z0, z0]]⟩], .live [⟨38, 7, .av [[.own 6 0 (v5).length, (dI (p0.Months.length : Int)), (dI s20.2), (dI (w64 ((w64 ((w64 ((p2.Year.tmod (w64 ((p1.length : Int).tdiv (p0.Months.length : Int)))) * (p0.Months.length : Int))) + p2.Month)) - 1))), (dI p2.Day), (dI p0.Week), (dI p3)]]⟩], .live [⟨2, 1, .data (List.map cI v5)⟩]]⟩) h1 ?_ (fun s20 y h2 => ?_)
 exact wk [0,1,2,3,4,5,6]
 refine aD (sq [0,1,2,3,4] (pm ?_))
 refine fa tok ?_
 refine ld tok ?_
 refine rP rfl (aL tok rfl rfl rfl) (rP rfl (bR rfl rfl) (nx ?_))
 refine bN h2 rfl (fun hc h2 => ?_) (fun hc h2 => ?_)
 refine sk (aD (aK (aC (is := [0,1,2,3,4,5,6,7,8,9,10,11,12,13,14,15,16,17]) [0,1,0,4,0,28,60,124,0,256,0,1792,3840,7936,16380,32767,65535,131071] follows (by kernel_rfl) (tfa tok ?_))))
 refine tld tok ?_
 refine tfa tok ?_
 refine tld tok ?_
 refine tpm ?_
 obtain ⟨v21, hv21, h2⟩ := bnd h2
 refine tP rfl (cK tok hv21 rfl rfl rfl rfl rfl rfl) (tfr tok ?_)
 refine tlr tok ?_
 refine tfa tok ?_
 refine tld tok ?_
 refine tpm ?_
 obtain ⟨v22, hv22, h2⟩ := bnd h2
 refine tP rfl (cK tok hv22 rfl rfl rfl rfl rfl rfl) (tfr tok ?_)
 refine tlr tok ?_
 obtain ⟨v23, hv23, h2⟩ := bnd h2
 refine iL rfl w0 rfl (cR 7 (zU hv23) rfl rfl rfl) ?_
 obtain ⟨v24, hv24, h2⟩ := bnd h2
 refine iL rfl w0 rfl (cR 7 (zU hv24) rfl rfl rfl) (tfa tok ?_)
 refine iN rfl w0 (fR (cs := [.d _]) tok rfl rfl rfl rfl rfl rfl rfl) (bC ?_)
 refine ⟨by kernel_rfl, ?_⟩
 refine bG (aI (sr [0,1,2] (pm ?_)))
 refine rP rfl (bI rfl rfl) (pa (bB ?_))
 refine cE ?_
 cases h2
 refine ⟨_, rfl, ?_⟩
 exact wk [0,1,2,3,4,5,6]
 refine bL (bZ ?_)
 cases h2
 refine cG ⟨_, rfl, fun e => ?_⟩
 subst e
 refine aX (aI ?_)
 exact wk [0,1,2,4,5,6]
 refine sq [0,1,2] (rL rfl (aT tok rfl rfl rfl rfl) (bst tok ?_))
 refine pa (nx (aA ?_))
 cases h0
 exact dG (rs := [.cell 8 38, .tmp 9]) [5] rfl

theorem xH {p0 : aU} {p1 : cA} {p2 : Int} {r : aH × Int} (h0 : kB p0 p1 p2 = some r) : FnC Tryz.prog 40 [] [.ref (fO p0), .agg [dI p1.Year, (dI p1.Month), (dI p1.Day)], (dI p2)] [.live [⟨2, 1, .data (List.map cI r.1.Cam)⟩]] (.tup [.agg [.own 0 0 r.1.Cam.length, (dI r.1.Months), (dI r.1.Teeth), (dI r.1.At), (dI r.1.Day), (dI r.1.Week), (dI r.1.Weekday)], (dI r.2)]) := by
 refine fi 21 tok Tryz.func40 ?_
 unfold kB at h0
 refine sq [0,1,2] (bxx 3 ?_)
 refine al 4 [zl, z0, z0, z0, z0, z0, z0] tok ?_
 refine pa (nx (aD ?_))
 refine aC (is := [0,1,2,3,4,5,6,7,8,9,10,11,12,13,14]) [0,1,3,7,0,16,48,112,0,0,1023,2047,2047,8191,16383] follows (by kernel_rfl) (pR ?_)
 refine tnr ?_
 refine tfr tok ?_
 refine tP rfl (bK tok rfl rfl rfl (by repeat (first | exact iA.z _ | apply iA.t))) (pR ?_)
 refine tnr ?_
 refine tfr tok ?_
 refine tlr tok ?_
 refine bW rfl w0 rfl (aT tok rfl rfl rfl rfl) rfl rfl rfl (tpm ?_)
 obtain ⟨v1, hv1, h0⟩ := bnd h0
 refine iL rfl w0 rfl (cR 5 (aBn hv1) rfl rfl rfl) (tP rfl (aN rfl rfl) (tP rfl (aN rfl rfl) (iN rfl w0 (fR (cs := _ :: _) tok rfl rfl rfl rfl rfl rfl rfl) (tpa ?_))))
 refine bC ?_
 refine ⟨by kernel_rfl, ?_⟩
 refine aI (aA ?_)
 cases h0
 exact dG (rs := [.cell 6 38, .tmp 7]) [5] rfl

theorem aMj {p0 : bE} {r : bE} (h0 : sZ p0 = some r) : FnC Tryz.prog 245 [] [.ref (fM p0)] [.live [⟨123, 2, .av (eU 1 aM r.Arbors)⟩], .live (lT 2 1 aM r.Arbors), .live [⟨125, 4, .data (List.map bF r.Meshes)⟩]] (.agg [.own 0 0 r.Arbors.length, .own 2 0 r.Meshes.length]) := by
 refine fi 45 tok Tryz.func245 ?_
 unfold sZ at h0
 refine sq [0] (al 3 [zl, zl] tok (nx (sq [0,1,2,3,4,5,6,7,8] ?_)))
 refine rS rfl (eM 4 tok rfl rfl rfl rfl) (pmr ?_)
 refine nr ?_
 refine fr tok ?_
 refine lr tok ?_
 obtain ⟨hq1, h0⟩ := dP h0
 refine rw1 rfl w0 rfl (fQ tok hq1 rfl rfl rfl rfl rfl rfl rfl rfl rfl rfl rfl rfl (fun _ => rfl)) (rP rfl (pbl (C0 := [zl, zl]) tok rfl rfl rfl) (al 5 [zl, zl] tok ?_))
 refine bst tok (nx ?_)
 obtain ⟨v12, h1, h0⟩ := bnd h0
 refine bH ⟨aE (aE ((fun _ => .dead)) 2 (.ptr 3 0 1 0 0)) 3 (.ptr 4 0 1 0 0), lks [.no, .no, .no, .live [⟨27, 2, .av [[zl, zl]]⟩], .live [⟨27, 2, .av [[.own 5 0 (v12).length, .own 6 0 (([] : List cH) ++ p0.Meshes).length]]⟩], .live [⟨123, 2, .av (eU 7 aM v12)⟩], .live [⟨125, 4, .data (List.map bF (([] : List cH) ++ p0.Meshes))⟩], .live (lT 2 1 aM v12)]⟩ ?_ ?_
 refine sq [0] (pa (nx (aK ?_)))
 refine bD (fun s7 => ⟨aE (aE (aE (aE ((fun _ => .dead)) 0 (.ref (fM p0))) 2 (.ptr 3 0 1 0 0)) 3 (.ptr 4 0 1 0 0)) 4 (dI s7.1), lks [.no, .no, .no, .live [⟨27, 2, .av [[zl, zl]]⟩], .live [⟨27, 2, .av [[.own 5 0 (s7.2).length, .own 6 0 (([] : List cH) ++ p0.Meshes).length]]⟩], .live [⟨123, 2, .av (eU 7 aM s7.2)⟩], .live [⟨125, 4, .data (List.map bF (([] : List cH) ++ p0.Meshes))⟩], .live (lT 2 1 aM s7.2)]⟩) h1 ?_ (fun s7 y h2 => ?_)
 refine lI.trans_ (qC 6 rfl 123 2 (kb := 5) (j := 0) rfl rfl (by repeat (first | exact Spl.z _ | apply Spl.t | apply Spl.d))) (lI.trans_ (dT 7 (k := 6) 2 1 aM rfl rfl) ?_)
 exact wk [0,1,2,3,5,6,4,7]
 refine aD (sq [0,1,2,3,4,5,6] (pm ?_))
 refine pmr ?_
 refine nr ?_
 refine fr tok ?_
 refine lr tok ?_
 refine rP rfl (aL tok rfl rfl rfl) (rP rfl (bR rfl rfl) (nx ?_))
 refine bN h2 rfl (fun hc h2 => ?_) (fun hc h2 => ?_)
 refine sk (aD (aK (uY (is := [0,1,2,3,4,5,6,7,8,9,10,11,12,13,14,15,16,17,18,19,20,21,22,23]) [0,1,0,4,12,28,0,124,252,508,0,1024,3072,7168,0,31744,64512,130048,261120,524284,1048572,2097151,4194303,8388607] follows (by kernel_rfl) (tfa tok ?_))))
 refine tld tok ?_
 refine pR ?_
 refine tnr ?_
 refine tfr tok ?_
 refine tlr tok ?_
 refine tpm ?_
 obtain ⟨v8, hv8, h2⟩ := bnd h2
 refine tP rfl (cK tok hv8 rfl rfl rfl rfl rfl rfl) (tfr tok ?_)
 refine tlr tok ?_
 refine pR ?_
 refine tnr ?_
 refine tfr tok ?_
 refine tlr tok ?_
 refine tpm ?_
 obtain ⟨v9, hv9, h2⟩ := bnd h2
 refine tP rfl (cK tok hv9 rfl rfl rfl rfl rfl rfl) (tfr tok ?_)
 refine tlr tok ?_
 obtain ⟨v10, hv10, h2⟩ := bnd h2
 refine iL rfl w0 rfl (cR 9 (qA hv10) rfl rfl rfl) (tP rfl (pbl (C0 := [ze, zl]) tok rfl rfl rfl) (aSs rfl w0 rfl (aTy 10 tok rfl rfl rfl (by repeat (first | exact Els.nil _ | apply Els.cons (cs := [.d _]) rfl rfl rfl | apply Els.cons (cs := _ :: _) rfl rfl rfl)) rfl rfl rfl rfl) ?_))
 obtain ⟨hq11, h2⟩ := dP h2
 refine yL rfl w0 rfl (aO9 tok (⟨v8.Name, v10⟩ : cQ) hq11 rfl rfl rfl rfl rfl rfl rfl rfl rfl rfl rfl rfl rfl rfl rfl) (tfa tok ?_)
 refine iN rfl w0 (fR (cs := [.own _ _ _]) tok rfl rfl rfl rfl rfl rfl rfl) (bC ?_)
 refine ⟨by kernel_rfl, _, lI.trans_ (aEm 11 (k := 5) (kf := 7) (k2 := 9) (⟨v8.Name, v10⟩ : cQ) rfl rfl rfl rfl rfl rfl rfl (by repeat (first | exact aK6.nil | apply aK6.v | apply aK6.sl (by first | rfl | (simp; done)))) rfl rfl rfl) (lI.refl_), ?_⟩
 refine bG (aI (sr [0,1,2] (pm ?_)))
 refine rP rfl (bI rfl rfl) (pa (bB ?_))
 refine cE ?_
 cases h2
 refine ⟨_, rfl, ?_⟩
 exact wk [0,1,2,3,4,5,6,11]
 refine bL (bZ ?_)
 cases h2
 refine cG ⟨_, rfl, fun e => ?_⟩
 subst e
 refine aX (aI ?_)
 exact wk [0,1,2,3,4,5,6,7]
 refine sq [0,1] (rL rfl (aT tok rfl rfl rfl rfl) (bst tok (nx (aA ?_))))
 cases h0
 exact dG (rs := [.cell 2 27]) [5,7,6] rfl

theorem aEr {p0 : aU} {r : aU} (h0 : qG p0 = some r) : FnC Tryz.prog 192 [] [.ref (fO p0)] [.live [⟨123, 2, .av (eU 1 aM r.Works.Arbors)⟩], .live (lT 2 1 aM r.Works.Arbors), .live [⟨125, 4, .data (List.map bF r.Works.Meshes)⟩], .live [⟨170, 3, .data (List.map aP r.Calendar.Months)⟩], .live [⟨181, 3, .data (List.map aF r.Calendar.Rules)⟩], .live [⟨2, 1, .data (List.map cI r.Cam)⟩]] (.agg [dS r.Name, .own 0 0 r.Works.Arbors.length, .own 2 0 r.Works.Meshes.length, (dI r.Minute), (dI r.Hour), (dI r.Escape), (dI r.Teeth), (dI r.Beats), (dS r.Calendar.Name), .own 3 0 r.Calendar.Months.length, .own 4 0 r.Calendar.Rules.length, (dI r.Calendar.Week), .own 5 0 r.Cam.length, (dI r.Strike)]) := by
 refine fi 24 tok Tryz.func192 ?_
 unfold qG at h0
 refine sq [0] (al 3 [ze, zl, zl, z0, z0, z0, z0, z0, ze, zl, zl, z0, zl, z0] tok (nx (sq [0,1,2,3,4] ?_)))
 refine pmr ?_
 refine nr ?_
 refine rP rfl (bK tok rfl rfl rfl (by repeat (first | exact iA.z _ | apply iA.t))) (al 4 [ze, zl, zl, z0, z0, z0, z0, z0, ze, zl, zl, z0, zl, z0] tok ?_)
 refine bst tok (nx (sq [0,1,2,3,4,5] ?_))
 refine pmr ?_
 refine nr ?_
 refine fr tok ?_
 obtain ⟨v1, hv1, h0⟩ := bnd h0
 refine rS rfl (aO 5 (nC (aMj hv1)) rfl rfl rfl) (fa tok ?_)
 refine bst tok (nx (sq [0,1,2,3,4,5] ?_))
 refine pmr ?_
 refine nr ?_
 refine fr tok ?_
 obtain ⟨v2, hv2, h0⟩ := bnd h0
 refine rS rfl (aO 8 (nC (aEi hv2)) rfl rfl rfl) (fa tok ?_)
 refine bst tok (nx (sq [0,1,2,3,4,5,6] ?_))
 refine pmr ?_
 refine nr ?_
 refine fr tok ?_
 refine lr tok ?_
 obtain ⟨v3, hv3, h0⟩ := bnd h0
 refine rS rfl (aO 10 (qA hv3) rfl rfl rfl) (fa tok ?_)
 refine rw0 rfl w0 (fR (cs := [.own _ _ _]) tok rfl rfl rfl rfl rfl rfl rfl) (nx (sq [0,1] (rL rfl (aT tok rfl rfl rfl rfl) (bst tok (nx (aA ?_))))))
 cases h0
 exact dG (rs := [.cell 2 34]) [5,6,7,8,9,10] rfl

theorem aMa {p0 : aU} {p1 : cA} {p2 : Int} {r : dM × Int} (h0 : qB p0 p1 p2 = some r) : FnC Tryz.prog 112 [] [.agg [dS p0.Name, (dL aM p0.Works.Arbors), (dL bF p0.Works.Meshes), (dI p0.Minute), (dI p0.Hour), (dI p0.Escape), (dI p0.Teeth), (dI p0.Beats), (dS p0.Calendar.Name), (dL aP p0.Calendar.Months), (dL aF p0.Calendar.Rules), (dI p0.Calendar.Week), (dL cI p0.Cam), (dI p0.Strike)], .agg [dI p1.Year, (dI p1.Month), (dI p1.Day)], (dI p2)] [.live [⟨123, 2, .av (eU 1 aM r.1.Movement.Works.Arbors)⟩], .live (lT 2 1 aM r.1.Movement.Works.Arbors), .live [⟨125, 4, .data (List.map bF r.1.Movement.Works.Meshes)⟩], .live [⟨170, 3, .data (List.map aP r.1.Movement.Calendar.Months)⟩], .live [⟨181, 3, .data (List.map aF r.1.Movement.Calendar.Rules)⟩], .live [⟨2, 1, .data (List.map cI r.1.Movement.Cam)⟩], .live [⟨2, 1, .data (List.map cI r.1.Dial.Cam)⟩]] (.tup [.agg [dS r.1.Movement.Name, .own 0 0 r.1.Movement.Works.Arbors.length, .own 2 0 r.1.Movement.Works.Meshes.length, (dI r.1.Movement.Minute), (dI r.1.Movement.Hour), (dI r.1.Movement.Escape), (dI r.1.Movement.Teeth), (dI r.1.Movement.Beats), (dS r.1.Movement.Calendar.Name), .own 3 0 r.1.Movement.Calendar.Months.length, .own 4 0 r.1.Movement.Calendar.Rules.length, (dI r.1.Movement.Calendar.Week), .own 5 0 r.1.Movement.Cam.length, (dI r.1.Movement.Strike), (dI r.1.Start.Year), (dI r.1.Start.Month), (dI r.1.Start.Day), (dI r.1.First), (dI r.1.Clock), .own 6 0 r.1.Dial.Cam.length, (dI r.1.Dial.Months), (dI r.1.Dial.Teeth), (dI r.1.Dial.At), (dI r.1.Dial.Day), (dI r.1.Dial.Week), (dI r.1.Dial.Weekday)], (dI r.2)]) := by
 refine fi 32 tok Tryz.func112 ?_
 unfold qB at h0
 refine sq [0,1,2,3] (bxx 3 ?_)
 refine bxx 4 ?_
 refine al 5 [ze, zl, zl, z0, z0, z0, z0, z0, ze, zl, zl, z0, zl, z0, z0, z0, z0, z0, z0, zl, z0, z0, z0, z0, z0, z0] tok ?_
 refine pa (nx (aD (sq [0,1] ?_)))
 obtain ⟨v1, hv1, h0⟩ := bnd h0
 refine rS rfl (dR 6 (aIe hv1) rfl rfl) (rP rfl (bQ rfl) (nx ?_))
 refine bM h0 rfl (fun hc h0 => ?_) (fun hc h0 => ?_)
 refine sq [0,1,2] (rP rfl (pbl (C0 := [ze, zl, zl, z0, z0, z0, z0, z0, ze, zl, zl, z0, zl, z0, z0, z0, z0, z0, z0, zl, z0, z0, z0, z0, z0, z0]) tok rfl rfl rfl) (bst tok ?_))
 refine pa (nx ?_)
 refine wa 6 123 2 5 1 ?_
 refine cJ (dT 7 (k := 6) 2 1 aM rfl rfl) (wa 8 125 4 5 2 ?_)
 refine wa 9 170 3 5 9 ?_
 refine wa 10 181 3 5 10 ?_
 refine wa 11 2 1 5 12 ?_
 refine wa 12 2 1 5 19 (aA (aR ?_))
 cases h0
 exact dG (rs := [.cell 6 40, .tmp 7]) [6,7,8,9,10,11,12] rfl
 refine sk (aD (sq [0,1,2] ?_))
 obtain ⟨v2, hv2, h0⟩ := bnd h0
 refine rS rfl (dR 6 (yB hv2) rfl rfl) (rL rfl (pW tok rfl rfl rfl rfl rfl) (rP rfl (eQ rfl rfl) (nx ?_)))
 refine bN h0 rfl (fun hc h0 => ?_) (fun hc h0 => ?_)
 refine sq [0,1,2] (rP rfl (pbl (C0 := [ze, zl, zl, z0, z0, z0, z0, z0, ze, zl, zl, z0, zl, z0, z0, z0, z0, z0, z0, zl, z0, z0, z0, z0, z0, z0]) tok rfl rfl rfl) (bst tok ?_))
 refine pa (nx ?_)
 refine wa 7 123 2 5 1 ?_
 refine cJ (dT 8 (k := 7) 2 1 aM rfl rfl) (wa 9 125 4 5 2 ?_)
 refine wa 10 170 3 5 9 ?_
 refine wa 11 181 3 5 10 ?_
 refine wa 12 2 1 5 12 ?_
 refine wa 13 2 1 5 19 (aA (aR ?_))
 cases h0
 exact dG (rs := [.cell 6 40, .tmp 7]) [7,8,9,10,11,12,13] rfl
 refine sk (sq [0,1,2,3,4,5,6,7,8] (rL rfl (aT tok rfl rfl rfl rfl) (pm ?_)))
 obtain ⟨v3, hv3, h0⟩ := bnd h0
 refine rS rfl (dR 7 (xH hv3) rfl rfl) (rP rfl (aG (r := .tup _) rfl) (rP rfl (aN rfl rfl) (rP rfl (aN rfl rfl) (al 8 [zl, z0, z0, z0, z0, z0, z0] tok ?_))))
 refine bst tok ?_
 refine pa (nx (aD (sq [0,1] ?_)))
 refine pm ?_
 refine rP rfl (dW rfl rfl) (nx ?_)
 refine bN h0 rfl (fun hc h0 => ?_) (fun hc h0 => ?_)
 refine sq [0,1,2,3] (rP rfl (pbl (C0 := [ze, zl, zl, z0, z0, z0, z0, z0, ze, zl, zl, z0, zl, z0, z0, z0, z0, z0, z0, zl, z0, z0, z0, z0, z0, z0]) tok rfl rfl rfl) (pm ?_))
 refine bst tok ?_
 refine pa (nx ?_)
 refine wa 9 123 2 5 1 ?_
 refine cJ (dT 10 (k := 9) 2 1 aM rfl rfl) (wa 11 125 4 5 2 ?_)
 refine wa 12 170 3 5 9 ?_
 refine wa 13 181 3 5 10 ?_
 refine wa 14 2 1 5 12 ?_
 refine wa 15 2 1 5 19 (aA (aR ?_))
 cases h0
 exact dG (rs := [.cell 6 40, .tmp 7]) [9,10,11,12,13,14,15] rfl
 refine sk (aD (aC (is := [1,2,3,0,4,5,6]) [0,0,0,0,15,31,63] follows (by kernel_rfl) (bW rfl w0 rfl (aT tok rfl rfl rfl rfl) rfl rfl rfl (tpm ?_))))
 refine bW rfl w0 rfl (aT tok rfl rfl rfl rfl) rfl rfl rfl ?_
 obtain ⟨v4, hv4, h0⟩ := bnd h0
 refine iL rfl w0 rfl (aCn 9 (aEr hv4) rfl rfl) (tP rfl (pbl (C0 := [ze, zl, zl, z0, z0, z0, z0, z0, ze, zl, zl, z0, zl, z0, z0, z0, z0, z0, z0, zl, z0, z0, z0, z0, z0, z0]) tok rfl rfl rfl) (iN rfl w0 (fR (cs := _ :: _) tok rfl rfl rfl rfl rfl rfl rfl) (tpa ?_)))
 refine bC ?_
 refine ⟨by kernel_rfl, ?_⟩
 refine aI (aA ?_)
 cases h0
 exact dG (rs := [.cell 6 40, .tmp 7]) [9,10,11,12,13,14,7] rfl

theorem zP {p0 : aH} {r : Bool} (h0 : pE p0 = some r) : FnC Tryz.prog 127 [] [.ref (oC p0)] [] (dB r) := by
 refine fi 99 tok Tryz.func127 ?_
 unfold pE at h0
 refine sq [0] (pa (nx (aD ?_)))
 obtain ⟨v4, h1, h0⟩ := bnd h0
 refine bH ⟨aE (aE ((fun _ => .dead)) 0 (.ref (oC p0))) 37 (dB v4), lks [.no, .no, .no]⟩ ?_ ?_
 refine aC (is := [0,1,2,3,4,5,6,7,8,9,10,11,12,13,14,15,16,17,18,19,20,21,22,23,24,25,26,27,28,29,30,31,32,33]) [0,1,3,7,15,31,63,127,255,511,1023,2047,4095,8191,16383,32767,65535,131071,262143,16383,540671,1589247,3686399,8388607,16777215,33554431,67108863,134217727,268435455,536870911,1073741823,2147483647,4294967295,8589934591] follows (by kernel_rfl) (pR ?_)
 refine tnr ?_
 refine tfr tok ?_
 refine tlr tok ?_
 obtain ⟨v1, hv1, h1⟩ := bnd h1
 refine iL rfl w0 rfl (cR 3 (aDj hv1) rfl rfl rfl) (tP rfl (bQ rfl) (tpm ?_))
 refine nD (u := 10) h1 rfl (fun hc h1 => ?_) (fun hc h1 => ?_)
 iterate 5 refine k2 ?_
 refine rI ?_
 refine tpm ?_
 iterate 11 refine k2 ?_
 refine rI ?_
 refine tpm ?_
 iterate 6 refine k2 ?_
 refine rI ?_
 refine bC ?_
 refine ⟨by kernel_rfl, ?_⟩
 refine aI ?_
 cases h1
 exact wk [0,1,2]
 refine lX ?_
 refine xP ?_
 refine sE tok ?_
 refine uM tok ?_
 refine mL rfl (w1 rfl rfl rfl) rfl (bR rfl rfl) (qN ?_)
 refine tpm ?_
 refine zM (u := 17) h1 rfl (fun hc h1 => ?_) (fun hc h1 => ?_)
 iterate 11 refine k2 ?_
 refine rI ?_
 refine tpm ?_
 iterate 6 refine k2 ?_
 refine rI ?_
 refine bC ?_
 refine ⟨by kernel_rfl, ?_⟩
 refine aI ?_
 cases h1
 exact wk [0,1,2]
 refine lX ?_
 refine xP ?_
 refine sE tok ?_
 refine uM tok ?_
 refine mL rfl (w1 rfl rfl rfl) rfl (aL tok rfl rfl rfl) (lX ?_)
 refine xP ?_
 refine sE tok ?_
 refine uM tok ?_
 obtain ⟨hq2, h1⟩ := dP h1
 refine mL rfl (w1 rfl rfl rfl) rfl (fP rfl rfl hq2) (mL rfl (w1 rfl rfl rfl) rfl (dW rfl rfl) (qN ?_))
 refine tpm ?_
 refine zM (u := 30) h1 rfl (fun hc h1 => ?_) (fun hc h1 => ?_)
 iterate 6 refine k2 ?_
 refine rI ?_
 refine bC ?_
 refine ⟨by kernel_rfl, ?_⟩
 refine aI ?_
 cases h1
 exact wk [0,1,2]
 refine lX ?_
 refine xP ?_
 refine sE tok ?_
 refine uM tok ?_
 obtain ⟨v3, hv3, h1⟩ := bnd h1
 refine iL rfl (w1 rfl rfl rfl) rfl (cR 3 (cW hv3) rfl rfl rfl) (mL rfl (w1 rfl rfl rfl) rfl (bQ rfl) (qN ?_))
 refine bC ?_
 refine ⟨by kernel_rfl, ?_⟩
 refine aI ?_
 cases h1
 exact wk [0,1,2]
 refine bM h0 rfl (fun hc h0 => ?_) (fun hc h0 => ?_)
 refine sq [0] (pa (nx (aA (aR ?_))))
 cases h0
 exact r0t 2 rfl
 refine sk ?_
 obtain ⟨v9x, h1, h0⟩ := bnd h0
 refine dZ v9x (fun v9 => ⟨aE ((fun _ => .dead)) 0 (.ref (oC p0)), lks [.no, .no, .no]⟩) ?_ ?_
 refine sq [0] (pa (nx (aK ?_)))
 refine bD (fun s7 => ⟨aE (aE ((fun _ => .dead)) 0 (.ref (oC p0))) 3 (dI s7), lks [.no, .no, .no]⟩) h1 ?_ (fun s7 y h2 => ?_)
 exact wk [0,1,2]
 refine aD (sq [0,1,2,3,4,5,6] (pm ?_))
 refine pmr ?_
 refine nr ?_
 refine fr tok ?_
 refine lr tok ?_
 refine rP rfl (aL tok rfl rfl rfl) (rP rfl (bR rfl rfl) (nx ?_))
 refine bN h2 rfl (fun hc h2 => ?_) (fun hc h2 => ?_)
 refine sk (aD (aK (aD (aC (is := [0,1,2,3,4,5,6,7,8,9,10,11]) [0,1,3,7,0,31,63,0,128,384,896,2047] follows (by kernel_rfl) (pR ?_)))))
 refine tnr ?_
 refine tfr tok ?_
 refine tlr tok ?_
 refine tpm ?_
 obtain ⟨v8, hv8, h2⟩ := bnd h2
 refine tP rfl (cK tok hv8 rfl rfl rfl rfl rfl rfl) (tlr tok ?_)
 refine pR ?_
 refine tnr ?_
 refine tfr tok ?_
 refine tlr tok ?_
 refine tP rfl (eQ rfl rfl) (bC ?_)
 refine ⟨by kernel_rfl, ?_⟩
 refine aI ?_
 refine bN h2 rfl (fun hc h2 => ?_) (fun hc h2 => ?_)
 refine sq [0] (pa (nx (aA ?_)))
 refine bJ (aR ?_)
 cases h2
 refine eX ⟨_, rfl, fun e => ?_⟩
 subst e
 refine bJ ?_
 replace h0 := gF h0
 refine aR ?_
 cases h0
 exact r0t 2 rfl
 refine cV (bG (aI (sr [0,1,2] (pm ?_))))
 refine rP rfl (bI rfl rfl) (pa (bB ?_))
 refine cE ?_
 cases h2
 refine ⟨_, rfl, ?_⟩
 exact wk [0,1,2]
 refine bL (bZ ?_)
 cases h2
 refine cG ⟨_, rfl, fun e => ?_⟩
 subst e
 refine aX (aI ?_)
 refine ⟨_, rfl, ?_⟩
 exact wk [0,1,2]
 rintro v9 rfl
 replace h0 := iF h0
 refine aD (aC (is := [0,1,2,3,4,5,6,7,8,9,10,11,12,13,14,15,16,17,18,19,20,21,22,23,24,25,26,27,28,29,30,31,32,33,34,35,36,37,38,39,40]) [0,1,3,7,0,16,48,112,240,496,1023,2047,4095,8191,16383,32767,4095,69631,200703,462847,1048575,2097151,4194303,8388607,16777215,33554431,67108863,134217727,268435455,536870911,1073741823,2147483647,4294967295,8589934591,1073741823,18253611007,52613349375,121332826111,274877906943,549755813887,1099511627775] follows (by kernel_rfl) (pR ?_))
 refine tnr ?_
 refine tfr tok ?_
 refine tlr tok ?_
 refine pR ?_
 refine tnr ?_
 refine tfr tok ?_
 refine tlr tok ?_
 refine tP rfl (aL tok rfl rfl rfl) (tP rfl (eZ rfl rfl) ?_)
 obtain ⟨v10, hv10, h0⟩ := bnd h0
 refine iL rfl w0 rfl (cR 3 (cW hv10) rfl rfl rfl) (tpm ?_)
 refine nD (u := 70) h0 rfl (fun hc h0 => ?_) (fun hc h0 => ?_)
 refine lX ?_
 refine xP ?_
 refine sE tok ?_
 refine uM tok ?_
 refine lX ?_
 refine xP ?_
 refine sE tok ?_
 refine uM tok ?_
 obtain ⟨v11, hv11, h0⟩ := bnd h0
 refine iL rfl (w1 rfl rfl rfl) rfl (cR 3 (cW hv11) rfl rfl rfl) (rI ?_)
 refine tpm ?_
 refine nD (u := 81) h0 rfl (fun hc h0 => ?_) (fun hc h0 => ?_)
 refine lX ?_
 refine xP ?_
 refine sE tok ?_
 refine uM tok ?_
 obtain ⟨v12, hv12, h0⟩ := bnd h0
 refine iL rfl (w1 rfl rfl rfl) rfl (cR 3 (cW hv12) rfl rfl rfl) (rI ?_)
 refine tpm ?_
 refine nD (u := 88) h0 rfl (fun hc h0 => ?_) (fun hc h0 => ?_)
 refine lX ?_
 refine xP ?_
 refine sE tok ?_
 refine uM tok ?_
 refine lX ?_
 refine xP ?_
 refine sE tok ?_
 refine uM tok ?_
 obtain ⟨v13, hv13, h0⟩ := bnd h0
 refine iL rfl (w1 rfl rfl rfl) rfl (cR 3 (cW hv13) rfl rfl rfl) (rI ?_)
 refine tpa ?_
 refine bC ?_
 refine ⟨by kernel_rfl, ?_⟩
 refine aI (aA ?_)
 cases h0
 exact r0t 2 rfl
 iterate 9 refine k2 ?_
 refine qN ?_
 refine tpa ?_
 refine bC ?_
 refine ⟨by kernel_rfl, ?_⟩
 refine aI (aA ?_)
 cases h0
 exact r0t 2 rfl
 iterate 5 refine k2 ?_
 refine qN ?_
 refine tpm ?_
 iterate 9 refine k2 ?_
 refine qN ?_
 refine tpa ?_
 refine bC ?_
 refine ⟨by kernel_rfl, ?_⟩
 refine aI (aA ?_)
 cases h0
 exact r0t 2 rfl
 iterate 9 refine k2 ?_
 refine qN ?_
 refine tpm ?_
 iterate 5 refine k2 ?_
 refine qN ?_
 refine tpm ?_
 iterate 9 refine k2 ?_
 refine qN ?_
 refine tpa ?_
 refine bC ?_
 refine ⟨by kernel_rfl, ?_⟩
 refine aI (aA ?_)
 cases h0
 exact r0t 2 rfl

theorem tC {p0 : List Int} {p1 : List Int} {r : Bool} (h0 : hP p0 p1 = some r) : FnC Tryz.prog 125 [] [dL cI p0, (dL cI p1)] [] (dB r) := by
 refine fi 26 tok Tryz.func125 ?_
 unfold hP at h0
 refine sq [0] (pa (nx (aD (sq [0,1,2,3,4] ?_))))
 refine pm ?_
 refine rP rfl (aL tok rfl rfl rfl) (pm ?_)
 refine rP rfl (aL tok rfl rfl rfl) (rP rfl (dW rfl rfl) (nx ?_))
 refine bN h0 rfl (fun hc h0 => ?_) (fun hc h0 => ?_)
 refine sq [0] (pa (nx (aA (aR ?_))))
 cases h0
 exact r0t 4 rfl
 refine sk ?_
 obtain ⟨v7x, h1, h0⟩ := bnd h0
 refine dZ v7x (fun v7 => ⟨(fun _ => .dead), lks [.no, .no, .no]⟩) ?_ ?_
 refine sq [0] (pa (nx (aK ?_)))
 refine bD (fun s4 => ⟨aE (aE (aE ((fun _ => .dead)) 0 (dL cI p0)) 1 (dL cI p1)) 5 (dI s4), lks [.no, .no, .no]⟩) h1 ?_ (fun s4 y h2 => ?_)
 exact wk [0,1,2]
 refine aD (sq [0,1,2,3] (pm ?_))
 refine pm ?_
 refine rP rfl (aL tok rfl rfl rfl) (rP rfl (bR rfl rfl) (nx ?_))
 refine bN h2 rfl (fun hc h2 => ?_) (fun hc h2 => ?_)
 refine sk (aD (aK (aD (aC (is := [0,1,2,3,4,5,6,7,8]) [0,0,3,7,0,0,48,112,255] follows (by kernel_rfl) (tpm ?_)))))
 refine tpm ?_
 obtain ⟨v5, hv5, h2⟩ := bnd h2
 refine tP rfl (cK tok hv5 rfl rfl rfl rfl rfl rfl) (tlr tok ?_)
 refine tpm ?_
 refine tpm ?_
 obtain ⟨v6, hv6, h2⟩ := bnd h2
 refine tP rfl (cK tok hv6 rfl rfl rfl rfl rfl rfl) (tlr tok ?_)
 refine tP rfl (dW rfl rfl) (bC ?_)
 refine ⟨by kernel_rfl, ?_⟩
 refine aI ?_
 refine bN h2 rfl (fun hc h2 => ?_) (fun hc h2 => ?_)
 refine sq [0] (pa (nx (aA ?_)))
 refine bJ (aR ?_)
 cases h2
 refine eX ⟨_, rfl, fun e => ?_⟩
 subst e
 refine bJ ?_
 replace h0 := gF h0
 refine aR ?_
 cases h0
 exact r0t 4 rfl
 refine cV (bG (aI (sr [0,1,2] (pm ?_))))
 refine rP rfl (bI rfl rfl) (pa (bB ?_))
 refine cE ?_
 cases h2
 refine ⟨_, rfl, ?_⟩
 exact wk [0,1,2]
 refine bL (bZ ?_)
 cases h2
 refine cG ⟨_, rfl, fun e => ?_⟩
 subst e
 refine aX (aI ?_)
 refine ⟨_, rfl, ?_⟩
 exact wk [0,1,2]
 rintro v7 rfl
 replace h0 := iF h0
 refine sq [0] (pa (nx (aA ?_)))
 cases h0
 exact r0t 4 rfl

theorem aCe {p0 : dM} {r : Bool} (h0 : pD p0 = some r) : FnC Tryz.prog 51 [] [.ref (aRq p0)] [] (dB r) := by
 refine fi 90 tok Tryz.func51 ?_
 unfold pD at h0
 refine sq [0] (pa (nx (sq [0,1,2,3] ?_)))
 refine pmr ?_
 refine nr ?_
 refine fr tok ?_
 refine par (nx (aD ?_))
 obtain ⟨v5, h1, h0⟩ := bnd h0
 refine bH ⟨aE (aE (aE ((fun _ => .dead)) 0 (.ref (aRq p0))) 3 (.ref (fO p0.Movement))) 32 (dB v5), lks [.no, .no, .no]⟩ ?_ ?_
 refine sr [0,1,2,3,4,5,6,7,8,9,10,11,12,13,14,15,16,17,18,19,20,21,22,23] (pmr ?_)
 obtain ⟨v1, hv1, h1⟩ := bnd h1
 refine rS rfl (aO 3 (nC (aIe hv1)) rfl rfl rfl) (rP rfl (bQ rfl) (pm ?_))
 refine cY (u := 12) h1 rfl (fun hc h1 => ?_) (fun hc h1 => ?_)
 iterate 4 refine k1 ?_
 refine pkt ?_
 refine pm ?_
 iterate 6 refine k1 ?_
 refine pkt ?_
 refine pm ?_
 iterate 5 refine k1 ?_
 refine pkt (nx ?_)
 cases h1
 refine lI.trans_ (fX (d := 3) (ds := fO p0.Movement) rfl (by repeat (first | exact Pre.z _ | apply Pre.t))) ?_
 exact wk [0,1,2]
 refine aEg ?_
 obtain ⟨v2, hv2, h1⟩ := bnd h1
 refine rs rfl (w1 rfl rfl rfl) rfl (aO 3 (nC (yB hv2)) rfl rfl rfl) (rl rfl (w1 rfl rfl rfl) rfl (pW tok rfl rfl rfl rfl rfl) (rp rfl (w1 rfl rfl rfl) rfl (eQ rfl rfl) (pkf ?_)))
 refine pm ?_
 refine eP (u := 18) h1 rfl (fun hc h1 => ?_) (fun hc h1 => ?_)
 iterate 6 refine k1 ?_
 refine pkt ?_
 refine pm ?_
 iterate 5 refine k1 ?_
 refine pkt (nx ?_)
 cases h1
 refine lI.trans_ (fX (d := 3) (ds := fO p0.Movement) rfl (by repeat (first | exact Pre.z _ | apply Pre.t))) ?_
 exact wk [0,1,2]
 refine aEg ?_
 refine nr1 ?_
 refine fr1 tok ?_
 refine lr1 tok ?_
 obtain ⟨v3, hv3, h1⟩ := bnd h1
 refine rs rfl (w1 rfl rfl rfl) rfl (aO 4 (cW hv3) rfl rfl rfl) (rp rfl (w1 rfl rfl rfl) rfl (bQ rfl) (pkf ?_))
 refine pm ?_
 refine cY (u := 26) h1 rfl (fun hc h1 => ?_) (fun hc h1 => ?_)
 iterate 5 refine k1 ?_
 refine pkt (nx ?_)
 cases h1
 refine lI.trans_ (fX (d := 3) (ds := fO p0.Movement) rfl (by repeat (first | exact Pre.z _ | apply Pre.t))) ?_
 exact wk [0,1,2]
 refine aEg ?_
 refine nr1 ?_
 refine fr1 tok ?_
 obtain ⟨v4, hv4, h1⟩ := bnd h1
 refine rs rfl (w1 rfl rfl rfl) rfl (aO 4 (nC (zP hv4)) rfl rfl rfl) (rp rfl (w1 rfl rfl rfl) rfl (bQ rfl) (pkf (nx ?_)))
 cases h1
 refine lI.trans_ (fX (d := 3) (ds := fO p0.Movement) rfl (by repeat (first | exact Pre.z _ | apply Pre.t))) ?_
 exact wk [0,1,2]
 refine bM h0 rfl (fun hc h0 => ?_) (fun hc h0 => ?_)
 refine sq [0] (pa (nx (aA (aR ?_))))
 cases h0
 exact r0t 2 rfl
 refine sk (aD (aC (is := [0,1,2,3,4,5,6,7,8,9,10,11,12,13,14,15]) [0,0,2,6,14,0,32,96,224,511,1023,2047,2047,0,12287,32767] follows (by kernel_rfl) (pR ?_)))
 refine pR ?_
 refine tnr ?_
 refine tfr tok ?_
 refine tP rfl (bK tok rfl rfl rfl (by repeat (first | exact iA.z _ | apply iA.t))) (pR ?_)
 refine tnr ?_
 refine tfr tok ?_
 refine tlr tok ?_
 obtain ⟨v6, hv6, h0⟩ := bnd h0
 refine iL rfl w0 rfl (cR 4 (xH hv6) rfl rfl rfl) (tP rfl (aG (r := .tup _) rfl) (tP rfl (aN rfl rfl) (tP rfl (aN rfl rfl) (aAz rfl w0 rfl rfl (fun hx hk => iQ 3 (cs := [zl, z0, z0, z0, z0, z0, z0]) tok rfl rfl hk) (iN rfl w0 (fR (cs := _ :: _) tok rfl rfl rfl rfl rfl rfl rfl) (tpa ?_))))))
 refine bC ?_
 refine ⟨by kernel_rfl, ?_⟩
 refine aI (aD (aC (is := [0,1,2,3,4,5,6,7,8,9,10,11,12,13,14,15,16,17,18,19,20,21,22,23,24,25,26,27,28,29,30,31,32,33,34,35,36,37,38,39,40,41,42,43,44]) [0,1,3,7,15,31,63,127,7,263,775,1799,4095,8191,16383,32767,65535,131071,262143,524287,32767,1081343,4194303,8388607,16777215,33554431,67108863,134217727,268435455,536870911,33554431,1107296255,4294967295,8589934591,17179869183,34359738367,68719476735,137438953471,274877906943,549755813887,34359738367,1133871366143,4398046511103,8796093022207,17592186044415] follows (by kernel_rfl) (tpm ?_)))
 refine tP rfl (dV rfl rfl) (tpm ?_)
 refine zM (u := 48) h0 rfl (fun hc h0 => ?_) (fun hc h0 => ?_)
 refine lX ?_
 refine xP ?_
 refine sE tok ?_
 refine sE tok ?_
 refine uM tok ?_
 refine lX ?_
 refine xP ?_
 refine sE tok ?_
 refine uM tok ?_
 obtain ⟨v7, hv7, h0⟩ := bnd h0
 refine iL rfl (w1 rfl rfl rfl) rfl (cR 5 (tC hv7) rfl rfl rfl) (rI ?_)
 refine tpm ?_
 refine nD (u := 60) h0 rfl (fun hc h0 => ?_) (fun hc h0 => ?_)
 refine lX ?_
 refine xP ?_
 refine sE tok ?_
 refine sE tok ?_
 refine uM tok ?_
 refine bW rfl (w1 rfl rfl rfl) rfl (sH tok rfl rfl rfl rfl rfl rfl rfl) rfl rfl rfl (bW rfl (w1 rfl rfl rfl) rfl (lD tok rfl rfl rfl rfl rfl) rfl rfl rfl (mL rfl (w1 rfl rfl rfl) rfl (dV rfl rfl) (rI ?_)))
 refine tpm ?_
 refine zM (u := 70) h0 rfl (fun hc h0 => ?_) (fun hc h0 => ?_)
 refine lX ?_
 refine xP ?_
 refine sE tok ?_
 refine sE tok ?_
 refine uM tok ?_
 refine bW rfl (w1 rfl rfl rfl) rfl (sH tok rfl rfl rfl rfl rfl rfl rfl) rfl rfl rfl (bW rfl (w1 rfl rfl rfl) rfl (lD tok rfl rfl rfl rfl rfl) rfl rfl rfl (mL rfl (w1 rfl rfl rfl) rfl (dV rfl rfl) (rI ?_)))
 refine tpm ?_
 refine zM (u := 80) h0 rfl (fun hc h0 => ?_) (fun hc h0 => ?_)
 refine lX ?_
 refine xP ?_
 refine sE tok ?_
 refine sE tok ?_
 refine uM tok ?_
 refine bW rfl (w1 rfl rfl rfl) rfl (sH tok rfl rfl rfl rfl rfl rfl rfl) rfl rfl rfl (bW rfl (w1 rfl rfl rfl) rfl (lD tok rfl rfl rfl rfl rfl) rfl rfl rfl (mL rfl (w1 rfl rfl rfl) rfl (dV rfl rfl) (rI ?_)))
 refine tpa ?_
 refine bC ?_
 refine ⟨by kernel_rfl, ?_⟩
 refine aI (aA ?_)
 cases h0
 exact r0t 2 rfl
 iterate 8 refine k2 ?_
 refine qN ?_
 refine tpa ?_
 refine bC ?_
 refine ⟨by kernel_rfl, ?_⟩
 refine aI (aA ?_)
 cases h0
 exact r0t 2 rfl
 iterate 8 refine k2 ?_
 refine qN ?_
 refine tpm ?_
 iterate 8 refine k2 ?_
 refine qN ?_
 refine tpa ?_
 refine bC ?_
 refine ⟨by kernel_rfl, ?_⟩
 refine aI (aA ?_)
 cases h0
 exact r0t 2 rfl
 iterate 8 refine k2 ?_
 refine qN ?_
 refine tpm ?_
 iterate 8 refine k2 ?_
 refine qN ?_
 refine tpm ?_
 iterate 8 refine k2 ?_
 refine qN ?_
 refine tpa ?_
 refine bC ?_
 refine ⟨by kernel_rfl, ?_⟩
 refine aI (aA ?_)
 cases h0
 exact r0t 2 rfl
 iterate 10 refine k2 ?_
 refine qN ?_
 refine tpm ?_
 iterate 8 refine k2 ?_
 refine qN ?_
 refine tpm ?_
 iterate 8 refine k2 ?_
 refine qN ?_
 refine tpm ?_
 iterate 8 refine k2 ?_
 refine qN ?_
 refine tpa ?_
 refine bC ?_
 refine ⟨by kernel_rfl, ?_⟩
 refine aI (aA ?_)
 cases h0
 exact r0t 2 rfl

theorem vX {p0 : aH} {r : aH} (h0 : jL p0 = some r) : FnC Tryz.prog 246 [] [.ref (oC p0)] [.live [⟨2, 1, .data (List.map cI r.Cam)⟩]] (.agg [.own 0 0 r.Cam.length, (dI r.Months), (dI r.Teeth), (dI r.At), (dI r.Day), (dI r.Week), (dI r.Weekday)]) := by
 refine fi 14 tok Tryz.func246 ?_
 unfold jL at h0
 refine sq [0] (al 3 [zl, z0, z0, z0, z0, z0, z0] tok (nx (sq [0,1,2,3,4] ?_)))
 refine pmr ?_
 refine nr ?_
 refine rP rfl (bK tok rfl rfl rfl (by repeat (first | exact iA.z _ | apply iA.t))) (al 4 [zl, z0, z0, z0, z0, z0, z0] tok ?_)
 refine bst tok (nx (sq [0,1,2,3,4,5,6] ?_))
 refine pmr ?_
 refine nr ?_
 refine fr tok ?_
 refine lr tok ?_
 obtain ⟨v1, hv1, h0⟩ := bnd h0
 refine rS rfl (aO 5 (qA hv1) rfl rfl rfl) (fa tok ?_)
 refine rw0 rfl w0 (fR (cs := [.own _ _ _]) tok rfl rfl rfl rfl rfl rfl rfl) (nx (sq [0,1] (rL rfl (aT tok rfl rfl rfl rfl) (bst tok (nx (aA ?_))))))
 cases h0
 exact dG (rs := [.cell 2 38]) [5] rfl

theorem aEk {p0 : dM} {r : dM} (h0 : nZ p0 = some r) : FnC Tryz.prog 196 [] [.ref (aRq p0)] [.live [⟨123, 2, .av (eU 1 aM r.Movement.Works.Arbors)⟩], .live (lT 2 1 aM r.Movement.Works.Arbors), .live [⟨125, 4, .data (List.map bF r.Movement.Works.Meshes)⟩], .live [⟨170, 3, .data (List.map aP r.Movement.Calendar.Months)⟩], .live [⟨181, 3, .data (List.map aF r.Movement.Calendar.Rules)⟩], .live [⟨2, 1, .data (List.map cI r.Movement.Cam)⟩], .live [⟨2, 1, .data (List.map cI r.Dial.Cam)⟩]] (.agg [dS r.Movement.Name, .own 0 0 r.Movement.Works.Arbors.length, .own 2 0 r.Movement.Works.Meshes.length, (dI r.Movement.Minute), (dI r.Movement.Hour), (dI r.Movement.Escape), (dI r.Movement.Teeth), (dI r.Movement.Beats), (dS r.Movement.Calendar.Name), .own 3 0 r.Movement.Calendar.Months.length, .own 4 0 r.Movement.Calendar.Rules.length, (dI r.Movement.Calendar.Week), .own 5 0 r.Movement.Cam.length, (dI r.Movement.Strike), (dI r.Start.Year), (dI r.Start.Month), (dI r.Start.Day), (dI r.First), (dI r.Clock), .own 6 0 r.Dial.Cam.length, (dI r.Dial.Months), (dI r.Dial.Teeth), (dI r.Dial.At), (dI r.Dial.Day), (dI r.Dial.Week), (dI r.Dial.Weekday)]) := by
 refine fi 18 tok Tryz.func196 ?_
 unfold nZ at h0
 refine sq [0] (al 3 [ze, zl, zl, z0, z0, z0, z0, z0, ze, zl, zl, z0, zl, z0, z0, z0, z0, z0, z0, zl, z0, z0, z0, z0, z0, z0] tok (nx (sq [0,1,2,3,4] ?_)))
 refine pmr ?_
 refine nr ?_
 refine rP rfl (bK tok rfl rfl rfl (by repeat (first | exact iA.z _ | apply iA.t))) (al 4 [ze, zl, zl, z0, z0, z0, z0, z0, ze, zl, zl, z0, zl, z0, z0, z0, z0, z0, z0, zl, z0, z0, z0, z0, z0, z0] tok ?_)
 refine bst tok (nx (sq [0,1,2,3,4,5] ?_))
 refine pmr ?_
 refine nr ?_
 refine fr tok ?_
 obtain ⟨v1, hv1, h0⟩ := bnd h0
 refine rS rfl (aO 5 (nC (aEr hv1)) rfl rfl rfl) (fa tok ?_)
 refine bst tok (nx (sq [0,1,2,3,4,5] ?_))
 refine pmr ?_
 refine nr ?_
 refine fr tok ?_
 obtain ⟨v2, hv2, h0⟩ := bnd h0
 refine rS rfl (aO 11 (nC (vX hv2)) rfl rfl rfl) (fa tok ?_)
 refine bst tok (nx (sq [0,1] ?_))
 refine rL rfl (aT tok rfl rfl rfl rfl) (bst tok (nx (aA ?_)))
 cases h0
 exact dG (rs := [.cell 2 40]) [5,6,7,8,9,10,11] rfl

theorem aIc {p0 : aH} {r : Int} (h0 : pI p0 = some r) : FnC Tryz.prog 248 [] [.ref (oC p0)] [] (dI r) := by
 refine fi 28 tok Tryz.func248 ?_
 unfold pI at h0
 refine sq [0] (pa (nx (aD (aD ?_))))
 refine aC (is := [0,1,2,3,4,5,6,7,8,9,10,11,12,13,14]) [0,1,3,7,0,16,48,112,0,256,768,1792,4080,8176,16383] follows (by kernel_rfl) (pR ?_)
 refine tnr ?_
 refine tfr tok ?_
 refine tlr tok ?_
 refine pR ?_
 refine tnr ?_
 refine tfr tok ?_
 refine tlr tok ?_
 refine pR ?_
 refine tnr ?_
 refine tfr tok ?_
 refine tlr tok ?_
 obtain ⟨v1, hv1, h0⟩ := bnd h0
 refine tP rfl (cK tok hv1 rfl rfl rfl rfl rfl rfl) (tlr tok ?_)
 refine tP rfl (dV rfl rfl) (bC ?_)
 refine ⟨by kernel_rfl, ?_⟩
 refine aI ?_
 refine bN h0 rfl (fun hc h0 => ?_) (fun hc h0 => ?_)
 refine aD (aC (is := [0,1,2,3,4,5,6,7,8,9,10]) [0,1,3,7,15,0,32,96,224,511,1023] follows (by kernel_rfl) (pR ?_))
 refine tnr ?_
 refine tfr tok ?_
 refine tlr tok ?_
 refine tP rfl (bI rfl rfl) (pR ?_)
 refine tnr ?_
 refine tfr tok ?_
 refine tlr tok ?_
 refine tP rfl (eZ rfl rfl) (tpa ?_)
 refine bC ?_
 refine ⟨by kernel_rfl, ?_⟩
 refine aI (aA (aR ?_))
 cases h0
 exact r0t 2 rfl
 refine sk (sq [0] (pa (nx (aA ?_))))
 cases h0
 exact r0t 2 rfl

theorem aAm {p0 : dM} {p1 : Int} {r : dM} (h0 : iB p0 p1 = some r) : FnC Tryz.prog 247 [.live [⟨40, 26, .av [[dS p0.Movement.Name, .own 1 0 (p0.Movement.Works.Arbors).length, .own 3 0 (p0.Movement.Works.Meshes).length, (dI p0.Movement.Minute), (dI p0.Movement.Hour), (dI p0.Movement.Escape), (dI p0.Movement.Teeth), (dI p0.Movement.Beats), (dS p0.Movement.Calendar.Name), .own 4 0 (p0.Movement.Calendar.Months).length, .own 5 0 (p0.Movement.Calendar.Rules).length, (dI p0.Movement.Calendar.Week), .own 6 0 (p0.Movement.Cam).length, (dI p0.Movement.Strike), (dI p0.Start.Year), (dI p0.Start.Month), (dI p0.Start.Day), (dI p0.First), (dI p0.Clock), .own 7 0 (p0.Dial.Cam).length, (dI p0.Dial.Months), (dI p0.Dial.Teeth), (dI p0.Dial.At), (dI p0.Dial.Day), (dI p0.Dial.Week), (dI p0.Dial.Weekday)]]⟩], .live [⟨123, 2, .av (eU 2 aM p0.Movement.Works.Arbors)⟩], .live (lT 2 1 aM p0.Movement.Works.Arbors), .live [⟨125, 4, .data (List.map bF p0.Movement.Works.Meshes)⟩], .live [⟨170, 3, .data (List.map aP p0.Movement.Calendar.Months)⟩], .live [⟨181, 3, .data (List.map aF p0.Movement.Calendar.Rules)⟩], .live [⟨2, 1, .data (List.map cI p0.Movement.Cam)⟩], .live [⟨2, 1, .data (List.map cI p0.Dial.Cam)⟩]] [.ptr 0 0 1 0 19, (dI p1)] [.live [⟨40, 26, .av [[dS r.Movement.Name, .own 1 0 (r.Movement.Works.Arbors).length, .own 3 0 (r.Movement.Works.Meshes).length, (dI r.Movement.Minute), (dI r.Movement.Hour), (dI r.Movement.Escape), (dI r.Movement.Teeth), (dI r.Movement.Beats), (dS r.Movement.Calendar.Name), .own 4 0 (r.Movement.Calendar.Months).length, .own 5 0 (r.Movement.Calendar.Rules).length, (dI r.Movement.Calendar.Week), .own 6 0 (r.Movement.Cam).length, (dI r.Movement.Strike), (dI r.Start.Year), (dI r.Start.Month), (dI r.Start.Day), (dI r.First), (dI r.Clock), .own 7 0 (r.Dial.Cam).length, (dI r.Dial.Months), (dI r.Dial.Teeth), (dI r.Dial.At), (dI r.Dial.Day), (dI r.Dial.Week), (dI r.Dial.Weekday)]]⟩], .live [⟨123, 2, .av (eU 2 aM r.Movement.Works.Arbors)⟩], .live (lT 2 1 aM r.Movement.Works.Arbors), .live [⟨125, 4, .data (List.map bF r.Movement.Works.Meshes)⟩], .live [⟨170, 3, .data (List.map aP r.Movement.Calendar.Months)⟩], .live [⟨181, 3, .data (List.map aF r.Movement.Calendar.Rules)⟩], .live [⟨2, 1, .data (List.map cI r.Movement.Cam)⟩], .live [⟨2, 1, .data (List.map cI r.Dial.Cam)⟩]] (.tup []) := by
 refine nW (L := 8) (T := tt) (N := 46) tok Tryz.func247 rfl rfl (by kernel_rfl) rfl rfl ?_
 unfold iB at h0
 refine sq [0,1,2,3,4,5,6,7,8] (rP rfl (aG (r := .ptr _ _ _ _ _) rfl) (rL rfl (dQ rfl rfl) (fa tok ?_)))
 refine ld tok ?_
 refine pm ?_
 refine rP rfl (bI rfl rfl) (rL rfl (dQ rfl rfl) (fa tok ?_))
 refine bs1 tok (nx (aD ?_))
 refine aC (is := [0,1,2,3,4,5,6,7,8]) [0,1,3,7,0,16,48,112,255] follows (by kernel_rfl) (tP rfl (aG (r := .ptr _ _ _ _ _) rfl) (bW rfl w0 rfl (dQ rfl rfl) rfl rfl rfl (tfa tok ?_)))
 refine tld tok ?_
 refine tP rfl (aG (r := .ptr _ _ _ _ _) rfl) (bW rfl w0 rfl (dQ rfl rfl) rfl rfl rfl (tfa tok ?_))
 refine tld tok ?_
 refine tP rfl (eQ rfl rfl) (bC ?_)
 refine ⟨by kernel_rfl, ?_⟩
 refine aI ?_
 refine bN h0 rfl (fun hc h0 => ?_) (fun hc h0 => ?_)
 refine aD (aC (is := [0,1,2,3,4,5,6,7,8,9,10,11]) [0,1,3,7,0,16,48,112,255,511,1023,2047] follows (by kernel_rfl) (tP rfl (aG (r := .ptr _ _ _ _ _) rfl) (bW rfl w0 rfl (dQ rfl rfl) rfl rfl rfl (tfa tok ?_))))
 refine tld tok ?_
 refine tP rfl (aG (r := .ptr _ _ _ _ _) rfl) (bW rfl w0 rfl (dQ rfl rfl) rfl rfl rfl (tfa tok ?_))
 refine tld tok ?_
 refine tP rfl (eZ rfl rfl) (bW rfl w0 rfl (dQ rfl rfl) rfl rfl rfl (tfa tok ?_))
 refine iN rfl w0 (fR (cs := [.d _]) tok rfl rfl rfl rfl rfl rfl rfl) (bC ?_)
 refine ⟨by kernel_rfl, ?_⟩
 refine aI (aC (is := [0,1,2,3,4,5,6,7,8,9,10,11,12,13,14]) [0,0,2,6,14,30,0,64,192,448,960,2046,4095,8191,16383] follows (by kernel_rfl) (tP rfl (aG (r := .ptr _ _ _ _ _) rfl) (tP rfl (aG (r := .ptr _ _ _ _ _) rfl) (bW rfl w0 rfl (dQ rfl rfl) rfl rfl rfl (tfa tok ?_)))))
 refine tld tok ?_
 refine tP rfl (bI rfl rfl) (tP rfl (aG (r := .ptr _ _ _ _ _) rfl) (bW rfl w0 rfl (dQ rfl rfl) rfl rfl rfl (tfa tok ?_)))
 refine tld tok ?_
 refine bW rfl w0 rfl (pW tok rfl rfl rfl rfl rfl) rfl rfl rfl ?_
 obtain ⟨hq1, h0⟩ := dP h0
 refine tP rfl (fP rfl rfl hq1) (bW rfl w0 rfl (dQ rfl rfl) rfl rfl rfl (tfa tok ?_))
 refine iN rfl w0 (fR (cs := [.d _]) tok rfl rfl rfl rfl rfl rfl rfl) (bC ?_)
 refine ⟨by kernel_rfl, ?_⟩
 cases h0
 exact qI (rs := []) 8 rfl rfl
 refine cV ?_
 cases h0
 exact qI (rs := []) 8 rfl rfl

theorem zH {p0 : dM} {r : dM} (h0 : eR p0 = some r) : FnC Tryz.prog 197 [.live [⟨40, 26, .av [[dS p0.Movement.Name, .own 1 0 (p0.Movement.Works.Arbors).length, .own 3 0 (p0.Movement.Works.Meshes).length, (dI p0.Movement.Minute), (dI p0.Movement.Hour), (dI p0.Movement.Escape), (dI p0.Movement.Teeth), (dI p0.Movement.Beats), (dS p0.Movement.Calendar.Name), .own 4 0 (p0.Movement.Calendar.Months).length, .own 5 0 (p0.Movement.Calendar.Rules).length, (dI p0.Movement.Calendar.Week), .own 6 0 (p0.Movement.Cam).length, (dI p0.Movement.Strike), (dI p0.Start.Year), (dI p0.Start.Month), (dI p0.Start.Day), (dI p0.First), (dI p0.Clock), .own 7 0 (p0.Dial.Cam).length, (dI p0.Dial.Months), (dI p0.Dial.Teeth), (dI p0.Dial.At), (dI p0.Dial.Day), (dI p0.Dial.Week), (dI p0.Dial.Weekday)]]⟩], .live [⟨123, 2, .av (eU 2 aM p0.Movement.Works.Arbors)⟩], .live (lT 2 1 aM p0.Movement.Works.Arbors), .live [⟨125, 4, .data (List.map bF p0.Movement.Works.Meshes)⟩], .live [⟨170, 3, .data (List.map aP p0.Movement.Calendar.Months)⟩], .live [⟨181, 3, .data (List.map aF p0.Movement.Calendar.Rules)⟩], .live [⟨2, 1, .data (List.map cI p0.Movement.Cam)⟩], .live [⟨2, 1, .data (List.map cI p0.Dial.Cam)⟩]] [.ptr 0 0 1 0 19] [.live [⟨40, 26, .av [[dS r.Movement.Name, .own 1 0 (r.Movement.Works.Arbors).length, .own 3 0 (r.Movement.Works.Meshes).length, (dI r.Movement.Minute), (dI r.Movement.Hour), (dI r.Movement.Escape), (dI r.Movement.Teeth), (dI r.Movement.Beats), (dS r.Movement.Calendar.Name), .own 4 0 (r.Movement.Calendar.Months).length, .own 5 0 (r.Movement.Calendar.Rules).length, (dI r.Movement.Calendar.Week), .own 6 0 (r.Movement.Cam).length, (dI r.Movement.Strike), (dI r.Start.Year), (dI r.Start.Month), (dI r.Start.Day), (dI r.First), (dI r.Clock), .own 7 0 (r.Dial.Cam).length, (dI r.Dial.Months), (dI r.Dial.Teeth), (dI r.Dial.At), (dI r.Dial.Day), (dI r.Dial.Week), (dI r.Dial.Weekday)]]⟩], .live [⟨123, 2, .av (eU 2 aM r.Movement.Works.Arbors)⟩], .live (lT 2 1 aM r.Movement.Works.Arbors), .live [⟨125, 4, .data (List.map bF r.Movement.Works.Meshes)⟩], .live [⟨170, 3, .data (List.map aP r.Movement.Calendar.Months)⟩], .live [⟨181, 3, .data (List.map aF r.Movement.Calendar.Rules)⟩], .live [⟨2, 1, .data (List.map cI r.Movement.Cam)⟩], .live [⟨2, 1, .data (List.map cI r.Dial.Cam)⟩]] (.tup []) := by
 refine nW (L := 8) (T := tt) (N := 19) tok Tryz.func197 rfl rfl (by kernel_rfl) rfl rfl ?_
 unfold eR at h0
 refine sq [0,1,2,3] (rP rfl (aG (r := .ptr _ _ _ _ _) rfl) (rP rfl (aG (r := .ptr _ _ _ _ _) rfl) ?_))
 obtain ⟨v1, hv1, h0⟩ := bnd h0
 refine rS rfl (dR 8 (aIc hv1) rfl rfl) ?_
 obtain ⟨v2, hv2, h0⟩ := bnd h0
 refine rw1 rfl w0 rfl (eA [0,1,2,3,4,5,6,7] 300 (aAm hv2) rfl rfl) (nx (aC (is := [0,1,2,3,4,5,6,7,8,9,10,11,12,13]) [0,0,2,6,14,0,32,96,224,510,1022,2047,4095,8191] follows (by kernel_rfl) (tP rfl (aG (r := .ptr _ _ _ _ _) rfl) (tP rfl (aG (r := .ptr _ _ _ _ _) rfl) (bW rfl w0 rfl (dQ rfl rfl) rfl rfl rfl (tfa tok ?_))))))
 refine tld tok ?_
 refine tP rfl (aG (r := .ptr _ _ _ _ _) rfl) (bW rfl w0 rfl (dQ rfl rfl) rfl rfl rfl (tfa tok ?_))
 refine tld tok ?_
 obtain ⟨hq3, h0⟩ := dP h0
 refine tP rfl (fP rfl rfl hq3) (tP rfl (bI rfl rfl) (bW rfl w0 rfl (dQ rfl rfl) rfl rfl rfl (tfa tok ?_)))
 refine iN rfl w0 (fR (cs := [.d _]) tok rfl rfl rfl rfl rfl rfl rfl) (bC ?_)
 refine ⟨by kernel_rfl, ?_⟩
 cases h0
 exact qI (rs := []) 8 rfl rfl

theorem aBb {p0 : Int} {r : Int} (h0 : mF p0 = some r) : FnC Tryz.prog 249 [] [dI p0] [] (dI r) := by
 refine fi 15 tok Tryz.func249 ?_
 unfold mF at h0
 refine sq [0] (pa (nx (sq [0,1,2] ?_)))
 refine pm ?_
 refine rP rfl (fP rfl rfl (by decide)) (pa (nx (sq [0,1,2,3,4,5,6,7,8,9] ?_)))
 refine pm ?_
 refine rP rfl (kA rfl rfl (by decide)) (rP rfl (fL rfl rfl) (pm ?_))
 refine pm ?_
 refine rP rfl (bI rfl rfl) (rP rfl (fL rfl rfl) (rP rfl (kA rfl rfl (by decide)) (rP rfl (bI rfl rfl) (pa (nx (aA ?_))))))
 cases h0
 exact r0t 2 rfl

theorem aBo {p0 : Int} {p1 : Int} {p2 : Int} {r : Int × Int} (h0 : gQ p0 p1 p2 = some r) : FnC Tryz.prog 198 [] [dI p0, (dI p1), (dI p2)] [] (.tup [dI r.1, (dI r.2)]) := by
 refine fi 30 tok Tryz.func198 ?_
 unfold gQ at h0
 refine sq [0,1] (pa ?_)
 refine pa (nx (aD ?_))
 obtain ⟨v3, h1, h0⟩ := bnd h0
 refine bH ⟨aE (aE (aE (aE ((fun _ => .dead)) 0 (dI p0)) 1 (dI p1)) 2 (dI p2)) 20 (dB v3), lks [.no, .no, .no]⟩ ?_ ?_
 refine sr [0,1,2,3,4,5,6,7,8,9,10,11,12] (pm ?_)
 obtain ⟨v1, hv1, h1⟩ := bnd h1
 refine rS rfl (aO 3 (cW hv1) rfl rfl rfl) (rP rfl (bQ rfl) (pm ?_))
 refine cY (u := 11) h1 rfl (fun hc h1 => ?_) (fun hc h1 => ?_)
 iterate 4 refine k1 ?_
 refine pkt ?_
 refine pm ?_
 refine k1 ?_
 refine k1 ?_
 refine pkt (nx ?_)
 cases h1
 exact wk [0,1,2]
 refine pm1 ?_
 refine pm1 ?_
 obtain ⟨v2, hv2, h1⟩ := bnd h1
 refine rs rfl (w1 rfl rfl rfl) rfl (aO 3 (cW hv2) rfl rfl rfl) (rp rfl (w1 rfl rfl rfl) rfl (bQ rfl) (pkf ?_))
 refine pm ?_
 refine cY (u := 17) h1 rfl (fun hc h1 => ?_) (fun hc h1 => ?_)
 refine k1 ?_
 refine k1 ?_
 refine pkt (nx ?_)
 cases h1
 exact wk [0,1,2]
 refine pm1 ?_
 refine rp rfl (w1 rfl rfl rfl) rfl (eQ rfl rfl) (pkf (nx ?_))
 cases h1
 exact wk [0,1,2]
 refine bM h0 rfl (fun hc h0 => ?_) (fun hc h0 => ?_)
 refine sq [0,1] (pa ?_)
 refine pa (nx (aA (aR ?_)))
 cases h0
 exact fV (rs := [.tmp 6, .tmp 7]) rfl
 refine sk (aD (sq [0,1] (pm ?_)))
 refine rP rfl (dV rfl rfl) (nx ?_)
 refine bN h0 rfl (fun hc h0 => ?_) (fun hc h0 => ?_)
 refine sq [0,1] (pa ?_)
 refine pa (nx (aA (aR ?_)))
 cases h0
 exact fV (rs := [.tmp 6, .tmp 7]) rfl
 refine sk (sq [0,1,2,3,4,5,6,7,8] (pm ?_))
 refine rP rfl (kA rfl rfl (by decide)) ?_
 obtain ⟨v5, hv5, h0⟩ := bnd h0
 refine rS rfl (aO 3 (aBb hv5) rfl rfl rfl) (pm ?_)
 refine rP rfl (kA rfl rfl (by decide)) ?_
 obtain ⟨v7, hv7, h0⟩ := bnd h0
 refine rS rfl (aO 3 (aBb hv7) rfl rfl rfl) (rP rfl (eZ rfl rfl) (pa ?_))
 refine pa (nx (aA ?_))
 cases h0
 exact fV (rs := [.tmp 6, .tmp 7]) rfl

theorem aMf {p0 : dM} {p1 : Int} {r : dM × Int × Int} (h0 : qE p0 p1 = some r) : FnC Tryz.prog 114 [] [.agg [dS p0.Movement.Name, (dL aM p0.Movement.Works.Arbors), (dL bF p0.Movement.Works.Meshes), (dI p0.Movement.Minute), (dI p0.Movement.Hour), (dI p0.Movement.Escape), (dI p0.Movement.Teeth), (dI p0.Movement.Beats), (dS p0.Movement.Calendar.Name), (dL aP p0.Movement.Calendar.Months), (dL aF p0.Movement.Calendar.Rules), (dI p0.Movement.Calendar.Week), (dL cI p0.Movement.Cam), (dI p0.Movement.Strike), (dI p0.Start.Year), (dI p0.Start.Month), (dI p0.Start.Day), (dI p0.First), (dI p0.Clock), (dL cI p0.Dial.Cam), (dI p0.Dial.Months), (dI p0.Dial.Teeth), (dI p0.Dial.At), (dI p0.Dial.Day), (dI p0.Dial.Week), (dI p0.Dial.Weekday)], (dI p1)] [.live [⟨123, 2, .av (eU 1 aM r.1.Movement.Works.Arbors)⟩], .live (lT 2 1 aM r.1.Movement.Works.Arbors), .live [⟨125, 4, .data (List.map bF r.1.Movement.Works.Meshes)⟩], .live [⟨170, 3, .data (List.map aP r.1.Movement.Calendar.Months)⟩], .live [⟨181, 3, .data (List.map aF r.1.Movement.Calendar.Rules)⟩], .live [⟨2, 1, .data (List.map cI r.1.Movement.Cam)⟩], .live [⟨2, 1, .data (List.map cI r.1.Dial.Cam)⟩]] (.tup [.agg [dS r.1.Movement.Name, .own 0 0 r.1.Movement.Works.Arbors.length, .own 2 0 r.1.Movement.Works.Meshes.length, (dI r.1.Movement.Minute), (dI r.1.Movement.Hour), (dI r.1.Movement.Escape), (dI r.1.Movement.Teeth), (dI r.1.Movement.Beats), (dS r.1.Movement.Calendar.Name), .own 3 0 r.1.Movement.Calendar.Months.length, .own 4 0 r.1.Movement.Calendar.Rules.length, (dI r.1.Movement.Calendar.Week), .own 5 0 r.1.Movement.Cam.length, (dI r.1.Movement.Strike), (dI r.1.Start.Year), (dI r.1.Start.Month), (dI r.1.Start.Day), (dI r.1.First), (dI r.1.Clock), .own 6 0 r.1.Dial.Cam.length, (dI r.1.Dial.Months), (dI r.1.Dial.Teeth), (dI r.1.Dial.At), (dI r.1.Dial.Day), (dI r.1.Dial.Week), (dI r.1.Dial.Weekday)], (dI r.2.1), (dI r.2.2)]) := by
 refine fi 56 tok Tryz.func114 ?_
 unfold qE at h0
 refine sq [0,1,2,3] (bxx 3 ?_)
 refine al 4 [ze, zl, zl, z0, z0, z0, z0, z0, ze, zl, zl, z0, zl, z0, z0, z0, z0, z0, z0, zl, z0, z0, z0, z0, z0, z0] tok ?_
 refine pa ?_
 refine pa (nx (aD (sq [0,1] ?_)))
 obtain ⟨v1, hv1, h0⟩ := bnd h0
 refine rS rfl (dR 5 (aCe hv1) rfl rfl) (rP rfl (bQ rfl) (nx ?_))
 refine bM h0 rfl (fun hc h0 => ?_) (fun hc h0 => ?_)
 refine sq [0,1,2,3] (rP rfl (pbl (C0 := [ze, zl, zl, z0, z0, z0, z0, z0, ze, zl, zl, z0, zl, z0, z0, z0, z0, z0, z0, zl, z0, z0, z0, z0, z0, z0]) tok rfl rfl rfl) (bst tok ?_))
 refine pa ?_
 refine pa (nx ?_)
 refine wa 5 123 2 4 1 ?_
 refine cJ (dT 6 (k := 5) 2 1 aM rfl rfl) (wa 7 125 4 4 2 ?_)
 refine wa 8 170 3 4 9 ?_
 refine wa 9 181 3 4 10 ?_
 refine wa 10 2 1 4 12 ?_
 refine wa 11 2 1 4 19 (aA (aR ?_))
 cases h0
 exact dG (rs := [.cell 4 40, .tmp 5, .tmp 6]) [5,6,7,8,9,10,11] rfl
 refine sk (aD ?_)
 obtain ⟨v3, h1, h0⟩ := bnd h0
 refine bH ⟨aE (aE (aE (aE ((fun _ => .dead)) 1 (dI p1)) 2 (.ptr 3 0 1 0 0)) 4 (.ptr 4 0 1 0 0)) 23 (dB v3), lks [.no, .no, .no, .live [⟨40, 26, .av [[dS p0.Movement.Name, (dL aM p0.Movement.Works.Arbors), (dL bF p0.Movement.Works.Meshes), (dI p0.Movement.Minute), (dI p0.Movement.Hour), (dI p0.Movement.Escape), (dI p0.Movement.Teeth), (dI p0.Movement.Beats), (dS p0.Movement.Calendar.Name), (dL aP p0.Movement.Calendar.Months), (dL aF p0.Movement.Calendar.Rules), (dI p0.Movement.Calendar.Week), (dL cI p0.Movement.Cam), (dI p0.Movement.Strike), (dI p0.Start.Year), (dI p0.Start.Month), (dI p0.Start.Day), (dI p0.First), (dI p0.Clock), (dL cI p0.Dial.Cam), (dI p0.Dial.Months), (dI p0.Dial.Teeth), (dI p0.Dial.At), (dI p0.Dial.Day), (dI p0.Dial.Week), (dI p0.Dial.Weekday)]]⟩], .live [⟨40, 26, .av [[ze, zl, zl, z0, z0, z0, z0, z0, ze, zl, zl, z0, zl, z0, z0, z0, z0, z0, z0, zl, z0, z0, z0, z0, z0, z0]]⟩]]⟩ ?_ ?_
 refine sr [0,1,2,3,4,5,6,7,8,9] (pm ?_)
 obtain ⟨v2, hv2, h1⟩ := bnd h1
 refine rS rfl (aO 5 (cW hv2) rfl rfl rfl) (rP rfl (bQ rfl) (pm ?_))
 refine cY (u := 17) h1 rfl (fun hc h1 => ?_) (fun hc h1 => ?_)
 iterate 5 refine k1 ?_
 refine pkt (nx ?_)
 cases h1
 exact wk [0,1,2,3,4]
 refine fa1 tok ?_
 refine ld1 tok ?_
 refine pm1 ?_
 refine rp rfl (w1 rfl rfl rfl) rfl (bI rfl rfl) (rp rfl (w1 rfl rfl rfl) rfl (eQ rfl rfl) (pkf (nx ?_)))
 cases h1
 exact wk [0,1,2,3,4]
 refine bM h0 rfl (fun hc h0 => ?_) (fun hc h0 => ?_)
 refine sq [0,1,2,3] (rP rfl (pbl (C0 := [ze, zl, zl, z0, z0, z0, z0, z0, ze, zl, zl, z0, zl, z0, z0, z0, z0, z0, z0, zl, z0, z0, z0, z0, z0, z0]) tok rfl rfl rfl) (bst tok ?_))
 refine pa ?_
 refine pa (nx ?_)
 refine wa 5 123 2 4 1 ?_
 refine cJ (dT 6 (k := 5) 2 1 aM rfl rfl) (wa 7 125 4 4 2 ?_)
 refine wa 8 170 3 4 9 ?_
 refine wa 9 181 3 4 10 ?_
 refine wa 10 2 1 4 12 ?_
 refine wa 11 2 1 4 19 (aA (aR ?_))
 cases h0
 exact dG (rs := [.cell 4 40, .tmp 5, .tmp 6]) [5,6,7,8,9,10,11] rfl
 refine sk (sq [0,1,2] ?_)
 obtain ⟨v4, hv4, h0⟩ := bnd h0
 refine rS rfl (dR 5 (aEk hv4) rfl rfl) (al 12 [ze, zl, zl, z0, z0, z0, z0, z0, ze, zl, zl, z0, zl, z0, z0, z0, z0, z0, z0, zl, z0, z0, z0, z0, z0, z0] tok ?_)
 refine bst tok (nx (sq [0,1,2,3,4,5] ?_))
 refine fa tok ?_
 refine ld tok ?_
 refine pm ?_
 refine rP rfl (bI rfl rfl) (fa tok ?_)
 refine bs1 tok (nx ?_)
 obtain ⟨v12, h1, h0⟩ := bnd h0
 refine bH ⟨aE (aE (aE ((fun _ => .dead)) 2 (.ptr 3 0 1 0 0)) 4 (.ptr 4 0 1 0 0)) 7 (.ptr 5 0 1 0 0), lks [.no, .no, .no, .live [⟨40, 26, .av [[dS p0.Movement.Name, (dL aM p0.Movement.Works.Arbors), (dL bF p0.Movement.Works.Meshes), (dI p0.Movement.Minute), (dI p0.Movement.Hour), (dI p0.Movement.Escape), (dI p0.Movement.Teeth), (dI p0.Movement.Beats), (dS p0.Movement.Calendar.Name), (dL aP p0.Movement.Calendar.Months), (dL aF p0.Movement.Calendar.Rules), (dI p0.Movement.Calendar.Week), (dL cI p0.Movement.Cam), (dI p0.Movement.Strike), (dI p0.Start.Year), (dI p0.Start.Month), (dI p0.Start.Day), (dI p0.First), (dI p0.Clock), (dL cI p0.Dial.Cam), (dI p0.Dial.Months), (dI p0.Dial.Teeth), (dI p0.Dial.At), (dI p0.Dial.Day), (dI p0.Dial.Week), (dI p0.Dial.Weekday)]]⟩], .live [⟨40, 26, .av [[ze, zl, zl, z0, z0, z0, z0, z0, ze, zl, zl, z0, zl, z0, z0, z0, z0, z0, z0, zl, z0, z0, z0, z0, z0, z0]]⟩], .live [⟨40, 26, .av [[dS v12.1, .own 6 0 (v12.2.2.2.2.2.2.2.2.2.2.2.2.2.2.2.2.2.2.1).length, .own 7 0 (v12.2.2.2.2.2.2.2.2.2.2.2.2.2.2.2.2.2.2.2.1).length, (dI v12.2.1), (dI v12.2.2.1), (dI v12.2.2.2.1), (dI v12.2.2.2.2.1), (dI v12.2.2.2.2.2.1), (dS v12.2.2.2.2.2.2.1), .own 8 0 (v12.2.2.2.2.2.2.2.2.2.2.2.2.2.2.2.2.2.2.2.2.1).length, .own 9 0 (v12.2.2.2.2.2.2.2.2.2.2.2.2.2.2.2.2.2.2.2.2.2.1).length, (dI v12.2.2.2.2.2.2.2.1), .own 10 0 (v12.2.2.2.2.2.2.2.2.2.2.2.2.2.2.2.2.2.2.2.2.2.2.1).length, (dI v12.2.2.2.2.2.2.2.2.1), (dI v12.2.2.2.2.2.2.2.2.2.1.Year), (dI v12.2.2.2.2.2.2.2.2.2.1.Month), (dI v12.2.2.2.2.2.2.2.2.2.1.Day), (dI v12.2.2.2.2.2.2.2.2.2.2.1), (dI v12.2.2.2.2.2.2.2.2.2.2.2.1), .own 11 0 (v12.2.2.2.2.2.2.2.2.2.2.2.2.2.2.2.2.2.2.2.2.2.2.2).length, (dI v12.2.2.2.2.2.2.2.2.2.2.2.2.1), (dI v12.2.2.2.2.2.2.2.2.2.2.2.2.2.1), (dI v12.2.2.2.2.2.2.2.2.2.2.2.2.2.2.1), (dI v12.2.2.2.2.2.2.2.2.2.2.2.2.2.2.2.1), (dI v12.2.2.2.2.2.2.2.2.2.2.2.2.2.2.2.2.1), (dI v12.2.2.2.2.2.2.2.2.2.2.2.2.2.2.2.2.2.1)]]⟩], .live [⟨123, 2, .av (eU 12 aM v12.2.2.2.2.2.2.2.2.2.2.2.2.2.2.2.2.2.2.1)⟩], .live [⟨125, 4, .data (List.map bF v12.2.2.2.2.2.2.2.2.2.2.2.2.2.2.2.2.2.2.2.1)⟩], .live [⟨170, 3, .data (List.map aP v12.2.2.2.2.2.2.2.2.2.2.2.2.2.2.2.2.2.2.2.2.1)⟩], .live [⟨181, 3, .data (List.map aF v12.2.2.2.2.2.2.2.2.2.2.2.2.2.2.2.2.2.2.2.2.2.1)⟩], .live [⟨2, 1, .data (List.map cI v12.2.2.2.2.2.2.2.2.2.2.2.2.2.2.2.2.2.2.2.2.2.2.1)⟩], .live [⟨2, 1, .data (List.map cI v12.2.2.2.2.2.2.2.2.2.2.2.2.2.2.2.2.2.2.2.2.2.2.2)⟩], .live (lT 2 1 aM v12.2.2.2.2.2.2.2.2.2.2.2.2.2.2.2.2.2.2.1)]⟩ ?_ ?_
 refine sq [0,1,2,3] (fa tok ?_)
 refine ld tok ?_
 refine rP rfl (kA rfl rfl (by decide)) (pa (nx (aK ?_)))
 refine bD (fun s9 => ⟨aE (aE (aE (aE ((fun _ => .dead)) 2 (.ptr 3 0 1 0 0)) 4 (.ptr 4 0 1 0 0)) 7 (.ptr 5 0 1 0 0)) 8 (dI s9.1), lks [.no, .no, .no, .live [⟨40, 26, .av [[dS p0.Movement.Name, (dL aM p0.Movement.Works.Arbors), (dL bF p0.Movement.Works.Meshes), (dI p0.Movement.Minute), (dI p0.Movement.Hour), (dI p0.Movement.Escape), (dI p0.Movement.Teeth), (dI p0.Movement.Beats), (dS p0.Movement.Calendar.Name), (dL aP p0.Movement.Calendar.Months), (dL aF p0.Movement.Calendar.Rules), (dI p0.Movement.Calendar.Week), (dL cI p0.Movement.Cam), (dI p0.Movement.Strike), (dI p0.Start.Year), (dI p0.Start.Month), (dI p0.Start.Day), (dI p0.First), (dI p0.Clock), (dL cI p0.Dial.Cam), (dI p0.Dial.Months), (dI p0.Dial.Teeth), (dI p0.Dial.At), (dI p0.Dial.Day), (dI p0.Dial.Week), (dI p0.Dial.Weekday)]]⟩], .live [⟨40, 26, .av [[ze, zl, zl, z0, z0, z0, z0, z0, ze, zl, zl, z0, zl, z0, z0, z0, z0, z0, z0, zl, z0, z0, z0, z0, z0, z0]]⟩], .live [⟨40, 26, .av [[dS s9.2.1, .own 6 0 (s9.2.2.2.2.2.2.2.2.2.2.2.2.2.2.2.2.2.2.2.1).length, .own 7 0 (s9.2.2.2.2.2.2.2.2.2.2.2.2.2.2.2.2.2.2.2.2.1).length, (dI s9.2.2.1), (dI s9.2.2.2.1), (dI s9.2.2.2.2.1), (dI s9.2.2.2.2.2.1), (dI s9.2.2.2.2.2.2.1), (dS s9.2.2.2.2.2.2.2.1), .own 8 0 (s9.2.2.2.2.2.2.2.2.2.2.2.2.2.2.2.2.2.2.2.2.2.1).length, .own 9 0 (s9.2.2.2.2.2.2.2.2.2.2.2.2.2.2.2.2.2.2.2.2.2.2.1).length, (dI s9.2.2.2.2.2.2.2.2.1), .own 10 0 (s9.2.2.2.2.2.2.2.2.2.2.2.2.2.2.2.2.2.2.2.2.2.2.2.1).length, (dI s9.2.2.2.2.2.2.2.2.2.1), (dI s9.2.2.2.2.2.2.2.2.2.2.1.Year), (dI s9.2.2.2.2.2.2.2.2.2.2.1.Month), (dI s9.2.2.2.2.2.2.2.2.2.2.1.Day), (dI s9.2.2.2.2.2.2.2.2.2.2.2.1), (dI s9.2.2.2.2.2.2.2.2.2.2.2.2.1), .own 11 0 (s9.2.2.2.2.2.2.2.2.2.2.2.2.2.2.2.2.2.2.2.2.2.2.2.2).length, (dI s9.2.2.2.2.2.2.2.2.2.2.2.2.2.1), (dI s9.2.2.2.2.2.2.2.2.2.2.2.2.2.2.1), (dI s9.2.2.2.2.2.2.2.2.2.2.2.2.2.2.2.1), (dI s9.2.2.2.2.2.2.2.2.2.2.2.2.2.2.2.2.1), (dI s9.2.2.2.2.2.2.2.2.2.2.2.2.2.2.2.2.2.1), (dI s9.2.2.2.2.2.2.2.2.2.2.2.2.2.2.2.2.2.2.1)]]⟩], .live [⟨123, 2, .av (eU 12 aM s9.2.2.2.2.2.2.2.2.2.2.2.2.2.2.2.2.2.2.2.1)⟩], .live [⟨125, 4, .data (List.map bF s9.2.2.2.2.2.2.2.2.2.2.2.2.2.2.2.2.2.2.2.2.1)⟩], .live [⟨170, 3, .data (List.map aP s9.2.2.2.2.2.2.2.2.2.2.2.2.2.2.2.2.2.2.2.2.2.1)⟩], .live [⟨181, 3, .data (List.map aF s9.2.2.2.2.2.2.2.2.2.2.2.2.2.2.2.2.2.2.2.2.2.2.1)⟩], .live [⟨2, 1, .data (List.map cI s9.2.2.2.2.2.2.2.2.2.2.2.2.2.2.2.2.2.2.2.2.2.2.2.1)⟩], .live [⟨2, 1, .data (List.map cI s9.2.2.2.2.2.2.2.2.2.2.2.2.2.2.2.2.2.2.2.2.2.2.2.2)⟩], .live (lT 2 1 aM s9.2.2.2.2.2.2.2.2.2.2.2.2.2.2.2.2.2.2.2.1)]⟩) h1 ?_ (fun s9 y h2 => ?_)
 exact wk [0,1,2,3,4,12,5,7,8,9,10,11,6]
 refine aD (sq [0,1,2,3,4] (pm ?_))
 refine fa tok ?_
 refine ld tok ?_
 refine rP rfl (kA rfl rfl (by decide)) (rP rfl (bR rfl rfl) (nx ?_))
 refine bN h2 rfl (fun hc h2 => ?_) (fun hc h2 => ?_)
 refine sk (aD (aK (sr [0,1] (fa tok ?_))))
 obtain ⟨v11, hv11, h2⟩ := bnd h2
 refine rw1 rfl w0 rfl (eA [5,6,12,7,8,9,10,11] 300 (zH hv11) rfl rfl) (bB (bG (aI (sr [0,1,2] (pm ?_)))))
 refine rP rfl (bI rfl rfl) (pa (bB ?_))
 refine cE ?_
 cases h2
 refine ⟨_, rfl, ?_⟩
 exact wk [0,1,2,3,4,5,6,7,8,9,10,11,12]
 refine bL (bZ ?_)
 cases h2
 refine cG ⟨_, rfl, fun e => ?_⟩
 subst e
 refine aX (aI ?_)
 exact wk [0,1,2,3,4,5,6,7,8,9,10,11,12]
 refine sq [0,1,2,3,4,5,6,7,8,9,10,11,12] (fa tok ?_)
 refine fa tok ?_
 refine ld tok ?_
 refine fa tok ?_
 refine ld tok ?_
 refine fa tok ?_
 refine ld tok ?_
 obtain ⟨v13, hv13, h0⟩ := bnd h0
 refine rS rfl (aO 13 (aBo hv13) rfl rfl rfl) (rP rfl (aG (r := .tup _) rfl) (rP rfl (aN rfl rfl) (rP rfl (aN rfl rfl) (pa ?_))))
 refine pa (nx (sq [0,1,2,3,4] ?_))
 refine rL rfl (aT tok rfl rfl rfl rfl) (pm ?_)
 refine bst tok ?_
 refine pa ?_
 refine pa (nx (aA ?_))
 cases h0
 exact dG (rs := [.cell 4 40, .tmp 5, .tmp 6]) [6,12,7,8,9,10,11] rfl

theorem vS {p0 : aH} {p1 : Int} {r : aH} (h0 : gV p0 p1 = some r) : FnC Tryz.prog 247 [.live [⟨38, 7, .av [[.own 1 0 (p0.Cam).length, (dI p0.Months), (dI p0.Teeth), (dI p0.At), (dI p0.Day), (dI p0.Week), (dI p0.Weekday)]]⟩], .live [⟨2, 1, .data (List.map cI p0.Cam)⟩]] [.ptr 0 0 1 0 0, (dI p1)] [.live [⟨38, 7, .av [[.own 1 0 (r.Cam).length, (dI r.Months), (dI r.Teeth), (dI r.At), (dI r.Day), (dI r.Week), (dI r.Weekday)]]⟩], .live [⟨2, 1, .data (List.map cI r.Cam)⟩]] (.tup []) := by
 refine fi 46 tok Tryz.func247 ?_
 unfold gV at h0
 refine sq [0,1,2,3,4,5,6,7,8] (rP rfl (aG (r := .ptr _ _ _ _ _) rfl) (rL rfl (dQ rfl rfl) (fa tok ?_)))
 refine ld tok ?_
 refine pm ?_
 refine rP rfl (bI rfl rfl) (rL rfl (dQ rfl rfl) (fa tok ?_))
 refine bs1 tok (nx (aD ?_))
 refine aC (is := [0,1,2,3,4,5,6,7,8]) [0,1,3,7,0,16,48,112,255] follows (by kernel_rfl) (tP rfl (aG (r := .ptr _ _ _ _ _) rfl) (bW rfl w0 rfl (dQ rfl rfl) rfl rfl rfl (tfa tok ?_)))
 refine tld tok ?_
 refine tP rfl (aG (r := .ptr _ _ _ _ _) rfl) (bW rfl w0 rfl (dQ rfl rfl) rfl rfl rfl (tfa tok ?_))
 refine tld tok ?_
 refine tP rfl (eQ rfl rfl) (bC ?_)
 refine ⟨by kernel_rfl, ?_⟩
 refine aI ?_
 refine bN h0 rfl (fun hc h0 => ?_) (fun hc h0 => ?_)
 refine aD (aC (is := [0,1,2,3,4,5,6,7,8,9,10,11]) [0,1,3,7,0,16,48,112,255,511,1023,2047] follows (by kernel_rfl) (tP rfl (aG (r := .ptr _ _ _ _ _) rfl) (bW rfl w0 rfl (dQ rfl rfl) rfl rfl rfl (tfa tok ?_))))
 refine tld tok ?_
 refine tP rfl (aG (r := .ptr _ _ _ _ _) rfl) (bW rfl w0 rfl (dQ rfl rfl) rfl rfl rfl (tfa tok ?_))
 refine tld tok ?_
 refine tP rfl (eZ rfl rfl) (bW rfl w0 rfl (dQ rfl rfl) rfl rfl rfl (tfa tok ?_))
 refine iN rfl w0 (fR (cs := [.d _]) tok rfl rfl rfl rfl rfl rfl rfl) (bC ?_)
 refine ⟨by kernel_rfl, ?_⟩
 refine aI (aC (is := [0,1,2,3,4,5,6,7,8,9,10,11,12,13,14]) [0,0,2,6,14,30,0,64,192,448,960,2046,4095,8191,16383] follows (by kernel_rfl) (tP rfl (aG (r := .ptr _ _ _ _ _) rfl) (tP rfl (aG (r := .ptr _ _ _ _ _) rfl) (bW rfl w0 rfl (dQ rfl rfl) rfl rfl rfl (tfa tok ?_)))))
 refine tld tok ?_
 refine tP rfl (bI rfl rfl) (tP rfl (aG (r := .ptr _ _ _ _ _) rfl) (bW rfl w0 rfl (dQ rfl rfl) rfl rfl rfl (tfa tok ?_)))
 refine tld tok ?_
 refine bW rfl w0 rfl (pW tok rfl rfl rfl rfl rfl) rfl rfl rfl ?_
 obtain ⟨hq1, h0⟩ := dP h0
 refine tP rfl (fP rfl rfl hq1) (bW rfl w0 rfl (dQ rfl rfl) rfl rfl rfl (tfa tok ?_))
 refine iN rfl w0 (fR (cs := [.d _]) tok rfl rfl rfl rfl rfl rfl rfl) (bC ?_)
 refine ⟨by kernel_rfl, ?_⟩
 cases h0
 exact qI (rs := []) 2 rfl rfl
 refine cV ?_
 cases h0
 exact qI (rs := []) 2 rfl rfl

theorem aIf {p0 : aH} {r : aH × Int} (h0 : pL p0 = some r) : FnC Tryz.prog 199 [] [.agg [dL cI p0.Cam, (dI p0.Months), (dI p0.Teeth), (dI p0.At), (dI p0.Day), (dI p0.Week), (dI p0.Weekday)]] [.live [⟨2, 1, .data (List.map cI r.1.Cam)⟩]] (.tup [.agg [.own 0 0 r.1.Cam.length, (dI r.1.Months), (dI r.1.Teeth), (dI r.1.At), (dI r.1.Day), (dI r.1.Week), (dI r.1.Weekday)], (dI r.2)]) := by
 refine fi 11 tok Tryz.func199 ?_
 unfold pL at h0
 refine sq [0,1,2] (bxx 3 ?_)
 refine al 4 [zl, z0, z0, z0, z0, z0, z0] tok ?_
 refine pa (nx (aD (sq [0,1] ?_)))
 obtain ⟨v1, hv1, h0⟩ := bnd h0
 refine rS rfl (dR 5 (zP hv1) rfl rfl) (rP rfl (bQ rfl) (nx ?_))
 refine bM h0 rfl (fun hc h0 => ?_) (fun hc h0 => ?_)
 refine sq [0,1,2] (rP rfl (pbl (C0 := [zl, z0, z0, z0, z0, z0, z0]) tok rfl rfl rfl) (bst tok ?_))
 refine pa (nx ?_)
 refine wa 5 2 1 4 0 (aA (aR ?_))
 cases h0
 exact dG (rs := [.cell 2 38, .tmp 3]) [5] rfl
 refine sk (sq [0,1,2] ?_)
 obtain ⟨v2, hv2, h0⟩ := bnd h0
 refine rS rfl (dR 5 (vX hv2) rfl rfl) (al 6 [zl, z0, z0, z0, z0, z0, z0] tok ?_)
 refine bst tok (nx (sq [0] ?_))
 obtain ⟨v3, hv3, h0⟩ := bnd h0
 refine rw1 rfl w0 rfl (eA [6,5] 300 (vS hv3) rfl rfl) (nx (sq [0,1,2] (rL rfl (aT tok rfl rfl rfl rfl) (bst tok ?_))))
 refine pa (nx (aA ?_))
 cases h0
 exact dG (rs := [.cell 2 38, .tmp 3]) [5] rfl

theorem aGj {p0 : aH} {r : aH × Int} (h0 : nB p0 = some r) : FnC Tryz.prog 200 [] [.agg [dL cI p0.Cam, (dI p0.Months), (dI p0.Teeth), (dI p0.At), (dI p0.Day), (dI p0.Week), (dI p0.Weekday)]] [.live [⟨2, 1, .data (List.map cI r.1.Cam)⟩]] (.tup [.agg [.own 0 0 r.1.Cam.length, (dI r.1.Months), (dI r.1.Teeth), (dI r.1.At), (dI r.1.Day), (dI r.1.Week), (dI r.1.Weekday)], (dI r.2)]) := by
 refine fi 18 tok Tryz.func200 ?_
 unfold nB at h0
 refine sq [0,1,2] (bxx 3 ?_)
 refine al 4 [zl, z0, z0, z0, z0, z0, z0] tok ?_
 refine pa (nx (aD (sq [0,1] ?_)))
 obtain ⟨v1, hv1, h0⟩ := bnd h0
 refine rS rfl (dR 5 (zP hv1) rfl rfl) (rP rfl (bQ rfl) (nx ?_))
 refine bM h0 rfl (fun hc h0 => ?_) (fun hc h0 => ?_)
 refine sq [0,1,2] (rP rfl (pbl (C0 := [zl, z0, z0, z0, z0, z0, z0]) tok rfl rfl rfl) (bst tok ?_))
 refine pa (nx ?_)
 refine wa 5 2 1 4 0 (aA (aR ?_))
 cases h0
 exact dG (rs := [.cell 2 38, .tmp 3]) [5] rfl
 refine sk (sq [0,1,2] ?_)
 obtain ⟨v2, hv2, h0⟩ := bnd h0
 refine rS rfl (dR 5 (vX hv2) rfl rfl) (al 6 [zl, z0, z0, z0, z0, z0, z0] tok ?_)
 refine bst tok (nx (sq [0,1,2,3,4,5,6,7,8] ?_))
 refine fa tok ?_
 refine ld tok ?_
 refine rP rfl (bI rfl rfl) (fa tok ?_)
 refine ld tok ?_
 refine rL rfl (pW tok rfl rfl rfl rfl rfl) ?_
 obtain ⟨hq3, h0⟩ := dP h0
 refine rP rfl (fP rfl rfl hq3) (fa tok ?_)
 refine bs1 tok (nx (sq [0,1,2] ?_))
 refine rL rfl (aT tok rfl rfl rfl rfl) (bst tok ?_)
 refine pa (nx (aA ?_))
 cases h0
 exact dG (rs := [.cell 2 38, .tmp 3]) [5] rfl

end Go.Proofs.YtgcdbbidmfdonaaGreat
