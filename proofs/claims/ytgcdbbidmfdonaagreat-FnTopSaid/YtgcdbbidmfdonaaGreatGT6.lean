/- Texts of this claim, one behind the other (merged by a program of mine). -/
import Derived.Test.YtgcdbbidmfdonaaGreatProg
import Derived.Test.YtgcdbbidmfdonaaGreatGT5
set_option linter.unusedSimpArgs false
set_option linter.unusedVariables false
namespace Go.Proofs.YtgcdbbidmfdonaaGreat
open Go.RowKit
set_option linter.unusedVariables false
set_option maxRecDepth 100000
set_option maxHeartbeats 2000000
theorem aJx {p0 : dO} {p1 : Int} {r : dO × Int} (h0 : mF p0 p1 = some r) : FnC Tryz.prog 116 [] [.agg [dS p0.Movement.Name,(dL aL p0.Movement.Works.Arbors),(dL bC p0.Movement.Works.Meshes),(dI p0.Movement.Minute),(dI p0.Movement.Hour),(dI p0.Movement.Escape),(dI p0.Movement.Teeth),(dI p0.Movement.Beats),(dS p0.Movement.Calendar.Name),(dL aM p0.Movement.Calendar.Months),(dL aB p0.Movement.Calendar.Rules),(dI p0.Movement.Calendar.Week),(dL cI p0.Movement.Cam),(dI p0.Movement.Strike),(dI p0.Start.Year),(dI p0.Start.Month),(dI p0.Start.Day),(dI p0.First),(dI p0.Clock),(dL cI p0.Dial.Cam),(dI p0.Dial.Months),(dI p0.Dial.Teeth),(dI p0.Dial.At),(dI p0.Dial.Day),(dI p0.Dial.Week),(dI p0.Dial.Weekday)],(dI p1)] [.live [⟨123,2, .av (fC 1 aL r.1.Movement.Works.Arbors)⟩], .live (mW 2 1 aL r.1.Movement.Works.Arbors), .live [⟨125,4, .data (List.map bC r.1.Movement.Works.Meshes)⟩], .live [⟨170,3, .data (List.map aM r.1.Movement.Calendar.Months)⟩], .live [⟨181,3, .data (List.map aB r.1.Movement.Calendar.Rules)⟩], .live [⟨2,1, .data (List.map cI r.1.Movement.Cam)⟩], .live [⟨2,1, .data (List.map cI r.1.Dial.Cam)⟩]] (.tup [.agg [dS r.1.Movement.Name, .own 0 0 r.1.Movement.Works.Arbors.length, .own 2 0 r.1.Movement.Works.Meshes.length,(dI r.1.Movement.Minute),(dI r.1.Movement.Hour),(dI r.1.Movement.Escape),(dI r.1.Movement.Teeth),(dI r.1.Movement.Beats),(dS r.1.Movement.Calendar.Name), .own 3 0 r.1.Movement.Calendar.Months.length, .own 4 0 r.1.Movement.Calendar.Rules.length,(dI r.1.Movement.Calendar.Week), .own 5 0 r.1.Movement.Cam.length,(dI r.1.Movement.Strike),(dI r.1.Start.Year),(dI r.1.Start.Month),(dI r.1.Start.Day),(dI r.1.First),(dI r.1.Clock), .own 6 0 r.1.Dial.Cam.length,(dI r.1.Dial.Months),(dI r.1.Dial.Teeth),(dI r.1.Dial.At),(dI r.1.Dial.Day),(dI r.1.Dial.Week),(dI r.1.Dial.Weekday)],(dI r.2)]) := by
 refine fi 50 tok Tryz.func116 ?_
 unfold mF at h0
 refine sq [0,1,2] (bxx 3 ?_)
 refine al 4 [ze,zl,zl,z0,z0,z0,z0,z0,ze,zl,zl,z0,zl,z0,z0,z0,z0,z0,z0,zl,z0,z0,z0,z0,z0,z0] tok ?_
 refine pa (nx (aG (sq [0,1] ?_)))
 obtain ⟨v1,hv1,h0⟩ := bnd h0
 refine rS rfl (eE 5 (aDq hv1) rfl rfl) (rP rfl (bO rfl) (nx ?_))
 refine bL h0 rfl (fun hc h0 => ?_) (fun hc h0 => ?_)
 refine sq [0,1,2] (rP rfl (pbl (C0 := [ze,zl,zl,z0,z0,z0,z0,z0,ze,zl,zl,z0,zl,z0,z0,z0,z0,z0,z0,zl,z0,z0,z0,z0,z0,z0]) tok rfl rfl rfl) (bst tok ?_))
 refine pa (nx ?_)
 refine wa 5 123 2 4 1 ?_
 refine cJ (eU 6 (k := 5) 2 1 aL rfl rfl) (wa 7 125 4 4 2 ?_)
 refine wa 8 170 3 4 9 ?_
 refine wa 9 181 3 4 10 ?_
 refine wa 10 2 1 4 12 ?_
 refine wa 11 2 1 4 19 (aD (aS ?_))
 cases h0
 exact dJ (rs := [.cell 4 40, .tmp 5]) [5,6,7,8,9,10,11] rfl
 refine sk (sq [0,1,2] ?_)
 obtain ⟨v2,hv2,h0⟩ := bnd h0
 refine rS rfl (eE 5 (aFb hv2) rfl rfl) (al 12 [ze,zl,zl,z0,z0,z0,z0,z0,ze,zl,zl,z0,zl,z0,z0,z0,z0,z0,z0,zl,z0,z0,z0,z0,z0,z0] tok ?_)
 refine bst tok (nx ?_)
 obtain ⟨v6x,h1,h0⟩ := bnd h0
 refine dX v6x (fun v6 => ⟨aE (aE ((fun _ => .dead)) 4 (.ptr 3 0 1 0 0)) 6 (.ptr 4 0 1 0 0),lks [.no, .no, .no, .live [⟨40,26, .av [[ze,zl,zl,z0,z0,z0,z0,z0,ze,zl,zl,z0,zl,z0,z0,z0,z0,z0,z0,zl,z0,z0,z0,z0,z0,z0]]⟩], .live [⟨40,26, .av [[dS v2.Movement.Name, .own 5 0 (v2.Movement.Works.Arbors).length, .own 6 0 (v2.Movement.Works.Meshes).length,(dI v2.Movement.Minute),(dI v2.Movement.Hour),(dI v2.Movement.Escape),(dI v2.Movement.Teeth),(dI v2.Movement.Beats),(dS v2.Movement.Calendar.Name), .own 7 0 (v2.Movement.Calendar.Months).length, .own 8 0 (v2.Movement.Calendar.Rules).length,(dI v2.Movement.Calendar.Week), .own 9 0 (v2.Movement.Cam).length,(dI v2.Movement.Strike),(dI v2.Start.Year),(dI v2.Start.Month),(dI v2.Start.Day),(dI v2.First),(dI v2.Clock), .own 10 0 (v6.2.2.2.2.2.2).length,(dI v6.1),(dI v6.2.1),(dI v6.2.2.1),(dI v6.2.2.2.1),(dI v6.2.2.2.2.1),(dI v6.2.2.2.2.2.1)]]⟩], .live [⟨123,2, .av (fC 11 aL v2.Movement.Works.Arbors)⟩], .live [⟨125,4, .data (List.map bC v2.Movement.Works.Meshes)⟩], .live [⟨170,3, .data (List.map aM v2.Movement.Calendar.Months)⟩], .live [⟨181,3, .data (List.map aB v2.Movement.Calendar.Rules)⟩], .live [⟨2,1, .data (List.map cI v2.Movement.Cam)⟩], .live [⟨2,1, .data (List.map cI v6.2.2.2.2.2.2)⟩], .live (mW 2 1 aL v2.Movement.Works.Arbors)]⟩) ?_ ?_
 refine sq [0] (pm (nx (aK (sq [0,1] ?_))))
 refine rP rfl (eN rfl rfl) (pa (nx ?_))
 refine bM h1 rfl (fun hc h1 => ?_) (fun hc h1 => ?_)
 refine sq [0,1,2,3,4,5,6,7,8] (fa tok ?_)
 refine rL rfl (aU tok rfl rfl rfl rfl) ?_
 obtain ⟨v3,hv3,h1⟩ := bnd h1
 refine rS rfl (aO 13 (aHk hv3) rfl rfl rfl) (rP rfl (aH (r := .tup _) rfl) (rP rfl (aQ rfl rfl) (rP rfl (aQ rfl rfl) (al 14 [zl,z0,z0,z0,z0,z0,z0] tok ?_))))
 refine bst tok ?_
 refine pa (nx (sr [0,1,2] ?_))
 refine rL rfl (aU tok rfl rfl rfl rfl) (fa tok ?_)
 refine bst tok (bB ?_)
 refine bF (aI ?_)
 cases h1
 refine ⟨_,rfl,?_⟩
 exact wk [0,1,2,4,12,5,7,8,9,10,13,6]
 refine sq [0,1] (rP rfl (eN rfl rfl) (pa (nx ?_)))
 refine bM h1 rfl (fun hc h1 => ?_) (fun hc h1 => ?_)
 refine sq [0,1,2,3,4,5,6,7,8] (fa tok ?_)
 refine rL rfl (aU tok rfl rfl rfl rfl) ?_
 obtain ⟨v4,hv4,h1⟩ := bnd h1
 refine rS rfl (aO 13 (aFw hv4) rfl rfl rfl) (rP rfl (aH (r := .tup _) rfl) (rP rfl (aQ rfl rfl) (rP rfl (aQ rfl rfl) (al 14 [zl,z0,z0,z0,z0,z0,z0] tok ?_))))
 refine bst tok ?_
 refine pa (nx (sr [0,1,2] ?_))
 refine rL rfl (aU tok rfl rfl rfl rfl) (fa tok ?_)
 refine bst tok (bB ?_)
 refine bF (aI ?_)
 cases h1
 refine ⟨_,rfl,?_⟩
 exact wk [0,1,2,4,12,5,7,8,9,10,13,6]
 refine sq [0,1] (rP rfl (eN rfl rfl) (pa (nx ?_)))
 refine bM h1 rfl (fun hc h1 => ?_) (fun hc h1 => ?_)
 refine sq [0,1,2,3,4,5,6,7,8] (fa tok ?_)
 refine rL rfl (aU tok rfl rfl rfl rfl) ?_
 obtain ⟨v5,hv5,h1⟩ := bnd h1
 refine rS rfl (aO 13 (aC6 hv5) rfl rfl rfl) (rP rfl (aH (r := .tup _) rfl) (rP rfl (aQ rfl rfl) (rP rfl (aQ rfl rfl) (al 14 [zl,z0,z0,z0,z0,z0,z0] tok ?_))))
 refine bst tok ?_
 refine pa (nx (sr [0,1,2] ?_))
 refine rL rfl (aU tok rfl rfl rfl rfl) (fa tok ?_)
 refine bst tok (bB ?_)
 refine bF (aI ?_)
 cases h1
 refine ⟨_,rfl,?_⟩
 exact wk [0,1,2,4,12,5,7,8,9,10,13,6]
 refine sq [0,1,2] (rP rfl (pbl (C0 := [ze,zl,zl,z0,z0,z0,z0,z0,ze,zl,zl,z0,zl,z0,z0,z0,z0,z0,z0,zl,z0,z0,z0,z0,z0,z0]) tok rfl rfl rfl) (bst tok ?_))
 refine pa (nx ?_)
 refine wa 13 123 2 4 1 ?_
 refine cJ (eU 14 (k := 13) 2 1 aL rfl rfl) (wa 15 125 4 4 2 ?_)
 refine wa 16 170 3 4 9 ?_
 refine wa 17 181 3 4 10 ?_
 refine wa 18 2 1 4 12 ?_
 refine wa 19 2 1 4 19 (aD ?_)
 refine bH ?_
 cases h1
 replace h0 := gG h0
 refine aS ?_
 cases h0
 exact dJ (rs := [.cell 4 40, .tmp 5]) [13,14,15,16,17,18,19] rfl
 rintro v6 rfl
 replace h0 := iP h0
 refine sq [0,1,2] (rL rfl (aU tok rfl rfl rfl rfl) (bst tok ?_))
 refine pa (nx (aD ?_))
 cases h0
 exact dJ (rs := [.cell 4 40, .tmp 5]) [5,11,6,7,8,9,10] rfl
theorem aGd {p0 : bN} {r : dO × bN} (h0 : nF p0 = some r) : FnC Tryz.prog 39 [.live [⟨157,3, .av [[dL cU8 p0.code,(dI p0.at_), .d (.v (.int .u64 p0.seed))]]⟩]] [.ptr 0 0 1 0 0] [.live [⟨157,3, .av [[dL cU8 r.2.code,(dI r.2.at_), .d (.v (.int .u64 r.2.seed))]]⟩], .live [⟨123,2, .av (fC 2 aL r.1.Movement.Works.Arbors)⟩], .live (mW 2 1 aL r.1.Movement.Works.Arbors), .live [⟨125,4, .data (List.map bC r.1.Movement.Works.Meshes)⟩], .live [⟨170,3, .data (List.map aM r.1.Movement.Calendar.Months)⟩], .live [⟨181,3, .data (List.map aB r.1.Movement.Calendar.Rules)⟩], .live [⟨2,1, .data (List.map cI r.1.Movement.Cam)⟩], .live [⟨2,1, .data (List.map cI r.1.Dial.Cam)⟩]] (.agg [dS r.1.Movement.Name, .own 1 0 r.1.Movement.Works.Arbors.length, .own 3 0 r.1.Movement.Works.Meshes.length,(dI r.1.Movement.Minute),(dI r.1.Movement.Hour),(dI r.1.Movement.Escape),(dI r.1.Movement.Teeth),(dI r.1.Movement.Beats),(dS r.1.Movement.Calendar.Name), .own 4 0 r.1.Movement.Calendar.Months.length, .own 5 0 r.1.Movement.Calendar.Rules.length,(dI r.1.Movement.Calendar.Week), .own 6 0 r.1.Movement.Cam.length,(dI r.1.Movement.Strike),(dI r.1.Start.Year),(dI r.1.Start.Month),(dI r.1.Start.Day),(dI r.1.First),(dI r.1.Clock), .own 7 0 r.1.Dial.Cam.length,(dI r.1.Dial.Months),(dI r.1.Dial.Teeth),(dI r.1.Dial.At),(dI r.1.Dial.Day),(dI r.1.Dial.Week),(dI r.1.Dial.Weekday)]) := by
 refine fi 76 tok Tryz.func39 ?_
 unfold nF at h0
 refine sq [0] (al 3 [ze,zl,zl,z0,z0,z0,z0,z0,ze,zl,zl,z0,zl,z0,z0,z0,z0,z0,z0,zl,z0,z0,z0,z0,z0,z0] tok (nx (sq [0,1,2,3] ?_)))
 refine rP rfl (aH (r := .ptr _ _ _ _ _) rfl) ?_
 obtain ⟨v1,hv1,h0⟩ := bnd h0
 refine rw1 rfl w0 rfl (dU [0,4,5] 300 (aJ4 2 (aF5 hv1)) rfl rfl) (al 6 [ze,zl,zl,z0,z0,z0,z0,z0,ze,zl,zl,z0,zl,z0] tok ?_)
 refine bst tok (nx (sq [0,1,2,3,4] ?_))
 refine rP rfl (aH (r := .ptr _ _ _ _ _) rfl) (fa tok ?_)
 obtain ⟨v2,hv2,h0⟩ := bnd h0
 refine uM (tU (k := 4) (t' := aE (aE (aE (aE (aE ((fun _ => .dead)) 0 (.ptr 0 0 1 0 0)) 2 (.ptr 3 0 1 0 0)) 3 (.ptr 6 0 1 0 0)) 15 (.ptr 0 0 1 0 0)) 16 (.ptr 6 0 1 0 8)) rfl (FzL.box (kb := 6) (ds := [dS v1.1.Name,(dL aL v1.1.Works.Arbors),(dL bC v1.1.Works.Meshes),(dI v1.1.Minute),(dI v1.1.Hour),(dI v1.1.Escape),(dI v1.1.Teeth),(dI v1.1.Beats),(dS v1.1.Calendar.Name),(dL aM v1.1.Calendar.Months),(dL aB v1.1.Calendar.Rules),(dI v1.1.Calendar.Week), .own 5 0 (v1.1.Cam).length,(dI v1.1.Strike)]) rfl rfl (by repeat (first | exact fX.nil | apply fX.cons | exact FzR.d _ | exact FzR.own rfl (by first | rfl | (simp; done) | (simp; omega)) | exact FzR.ptr rfl (by repeat (first | exact Drp.z _ | apply Drp.d)) | exact FzR.own' | exact FzR.ptr' | exact FzR.ref _ | apply FzR.agg | apply FzR.tup | apply FzR.fn | exact FzR.dead _)) (FzL.nil))) (uM (tU (k := 5) (t' := aE (aE (aE (aE (aE ((fun _ => .dead)) 0 (.ptr 0 0 1 0 0)) 2 (.ptr 3 0 1 0 0)) 3 (.ptr 6 0 1 0 0)) 15 (.ptr 0 0 1 0 0)) 16 (.ptr 6 0 1 0 8)) rfl (FzL.box (kb := 6) (ds := [dS v1.1.Name,(dL aL v1.1.Works.Arbors),(dL bC v1.1.Works.Meshes),(dI v1.1.Minute),(dI v1.1.Hour),(dI v1.1.Escape),(dI v1.1.Teeth),(dI v1.1.Beats),(dS v1.1.Calendar.Name),(dL aM v1.1.Calendar.Months),(dL aB v1.1.Calendar.Rules),(dI v1.1.Calendar.Week),(dL cI v1.1.Cam),(dI v1.1.Strike)]) rfl rfl (by repeat (first | exact fX.nil | apply fX.cons | exact FzR.d _ | exact FzR.own rfl (by first | rfl | (simp; done) | (simp; omega)) | exact FzR.ptr rfl (by repeat (first | exact Drp.z _ | apply Drp.d)) | exact FzR.own' | exact FzR.ptr' | exact FzR.ref _ | apply FzR.agg | apply FzR.tup | apply FzR.fn | exact FzR.dead _)) (FzL.nil))) (uM (aV5 (k := 6) (t' := aE (aE (aE (aE (aE ((fun _ => .dead)) 0 (.ptr 0 0 1 0 0)) 2 (.ptr 3 0 1 0 0)) 3 (.ref (fY v1.1))) 15 (.ptr 0 0 1 0 0)) 16 (.ref (List.drop 8 (fY v1.1)))) rfl (FzL.nil)) (uM (gW (d := 16) (ds := dG v1.1.Calendar) rfl (by repeat (first | exact Pre.z _ | apply Pre.t))) (rw1 rfl w0 rfl (dU [0] 300 (aF0 hv2) rfl rfl) (al 7 [z0,z0,z0] tok ?_)))))
 refine bst tok (nx (aG ?_))
 refine aF (is := [0,1,2,3,4,5,6,7,8,9,10,11,12,13,14]) [0,0,0,0,8,24,60,124,255,511,1023,1023,0,6143,16383] follows (by kernel_rfl) (tP rfl (bT tok rfl rfl rfl (by repeat (first | exact kK.z _ | apply kK.t))) (bS rfl w0 rfl (aU tok rfl rfl rfl rfl) rfl rfl rfl (tP rfl (aH (r := .ptr _ _ _ _ _) rfl) (tfr tok ?_))))
 refine tfr tok ?_
 refine tlr tok ?_
 obtain ⟨v3,hv3,h0⟩ := bnd h0
 refine aMd rfl w0 rfl (by repeat (first | exact jZ _ | exact kA rfl | refine kD ?_ rfl)) (xE 0 (cY hv3) rfl rfl rfl) ?_
 refine tP rfl (bI rfl rfl) ?_
 obtain ⟨v4,hv4,h0⟩ := bnd h0
 refine jB rfl w0 rfl (cP 9 (aMt hv4) rfl rfl rfl) (tP rfl (aH (r := .tup _) rfl) (tP rfl (aQ rfl rfl) (tP rfl (aQ rfl rfl) (aBa rfl w0 rfl rfl (fun hx hk => jJ 8 (cs := [ze,zl,zl,z0,z0,z0,z0,z0,ze,zl,zl,z0,zl,z0,z0,z0,z0,z0,z0,zl,z0,z0,z0,z0,z0,z0]) tok rfl rfl hk) (iK rfl w0 (fQ (cs := _ :: _) tok rfl rfl rfl rfl rfl rfl rfl) (tpa ?_))))))
 refine bE ?_
 refine ⟨by kernel_rfl,?_⟩
 refine aI ?_
 obtain ⟨v7,h1,h0⟩ := bnd h0
 refine bG ⟨aE (aE (aE ((fun _ => .dead)) 0 (.ptr 0 0 1 0 0)) 2 (.ptr 3 0 1 0 0)) 5 (.ptr 4 0 1 0 0),lks [.live [⟨157,3, .av [[dL cU8 v3.2.code,(dI v3.2.at_), .d (.v (.int .u64 v3.2.seed))]]⟩], .no, .no, .live [⟨40,26, .av [[ze,zl,zl,z0,z0,z0,z0,z0,ze,zl,zl,z0,zl,z0,z0,z0,z0,z0,z0,zl,z0,z0,z0,z0,z0,z0]]⟩], .live [⟨40,26, .av [[dS v4.1.Movement.Name, .own 5 0 (v4.1.Movement.Works.Arbors).length, .own 6 0 (v4.1.Movement.Works.Meshes).length,(dI v4.1.Movement.Minute),(dI v4.1.Movement.Hour),(dI v4.1.Movement.Escape),(dI v4.1.Movement.Teeth),(dI v4.1.Movement.Beats),(dS v4.1.Movement.Calendar.Name), .own 7 0 (v4.1.Movement.Calendar.Months).length, .own 8 0 (v4.1.Movement.Calendar.Rules).length,(dI v4.1.Movement.Calendar.Week), .own 9 0 (v4.1.Movement.Cam).length,(dI v4.1.Movement.Strike),(dI v4.1.Start.Year),(dI v4.1.Start.Month),(dI v4.1.Start.Day),(dI v4.1.First),(dI v4.1.Clock), .own 10 0 (v4.1.Dial.Cam).length,(dI v4.1.Dial.Months),(dI v4.1.Dial.Teeth),(dI v4.1.Dial.At),(dI v4.1.Dial.Day),(dI v4.1.Dial.Week),(dI v4.1.Dial.Weekday)]]⟩], .live [⟨123,2, .av (fC 11 aL v4.1.Movement.Works.Arbors)⟩], .live [⟨125,4, .data (List.map bC v4.1.Movement.Works.Meshes)⟩], .live [⟨170,3, .data (List.map aM v4.1.Movement.Calendar.Months)⟩], .live [⟨181,3, .data (List.map aB v4.1.Movement.Calendar.Rules)⟩], .live [⟨2,1, .data (List.map cI v4.1.Movement.Cam)⟩], .live [⟨2,1, .data (List.map cI v4.1.Dial.Cam)⟩], .live (mW 2 1 aL v4.1.Movement.Works.Arbors)]⟩ ?_ ?_
 refine sq [0,1] (pm ?_)
 refine rP rfl (fA rfl rfl) (nx ?_)
 refine bM h1 rfl (fun hc h1 => ?_) (fun hc h1 => ?_)
 cases h1
 refine sk ?_
 cases h1
 exact wk [0,1,2,3,8,9,11,12,13,14,15,10]
 obtain ⟨v17,h1,h0⟩ := bnd h0
 refine bG ⟨aE (aE (aE ((fun _ => .dead)) 0 (.ptr 0 0 1 0 0)) 2 (.ptr 3 0 1 0 0)) 5 (.ptr 4 0 1 0 0),lks [.live [⟨157,3, .av [[dL cU8 v17.1.code,(dI v17.1.at_), .d (.v (.int .u64 v17.1.seed))]]⟩], .no, .no, .live [⟨40,26, .av [[ze,zl,zl,z0,z0,z0,z0,z0,ze,zl,zl,z0,zl,z0,z0,z0,z0,z0,z0,zl,z0,z0,z0,z0,z0,z0]]⟩], .live [⟨40,26, .av [[dS v17.2.1, .own 5 0 (v17.2.2.2.2.2.2.2.2.2.2.2.2.2.2.2.2.2.2.2.1).length, .own 6 0 (v17.2.2.2.2.2.2.2.2.2.2.2.2.2.2.2.2.2.2.2.2.1).length,(dI v17.2.2.1),(dI v17.2.2.2.1),(dI v17.2.2.2.2.1),(dI v17.2.2.2.2.2.1),(dI v17.2.2.2.2.2.2.1),(dS v17.2.2.2.2.2.2.2.1), .own 7 0 (v17.2.2.2.2.2.2.2.2.2.2.2.2.2.2.2.2.2.2.2.2.2.1).length, .own 8 0 (v17.2.2.2.2.2.2.2.2.2.2.2.2.2.2.2.2.2.2.2.2.2.2.1).length,(dI v17.2.2.2.2.2.2.2.2.1), .own 9 0 (v17.2.2.2.2.2.2.2.2.2.2.2.2.2.2.2.2.2.2.2.2.2.2.2.1).length,(dI v17.2.2.2.2.2.2.2.2.2.1),(dI v17.2.2.2.2.2.2.2.2.2.2.1.Year),(dI v17.2.2.2.2.2.2.2.2.2.2.1.Month),(dI v17.2.2.2.2.2.2.2.2.2.2.1.Day),(dI v17.2.2.2.2.2.2.2.2.2.2.2.1),(dI v17.2.2.2.2.2.2.2.2.2.2.2.2.1), .own 10 0 (v17.2.2.2.2.2.2.2.2.2.2.2.2.2.2.2.2.2.2.2.2.2.2.2.2).length,(dI v17.2.2.2.2.2.2.2.2.2.2.2.2.2.1),(dI v17.2.2.2.2.2.2.2.2.2.2.2.2.2.2.1),(dI v17.2.2.2.2.2.2.2.2.2.2.2.2.2.2.2.1),(dI v17.2.2.2.2.2.2.2.2.2.2.2.2.2.2.2.2.1),(dI v17.2.2.2.2.2.2.2.2.2.2.2.2.2.2.2.2.2.1),(dI v17.2.2.2.2.2.2.2.2.2.2.2.2.2.2.2.2.2.2.1)]]⟩], .live [⟨123,2, .av (fC 11 aL v17.2.2.2.2.2.2.2.2.2.2.2.2.2.2.2.2.2.2.2.1)⟩], .live [⟨125,4, .data (List.map bC v17.2.2.2.2.2.2.2.2.2.2.2.2.2.2.2.2.2.2.2.2.1)⟩], .live [⟨170,3, .data (List.map aM v17.2.2.2.2.2.2.2.2.2.2.2.2.2.2.2.2.2.2.2.2.2.1)⟩], .live [⟨181,3, .data (List.map aB v17.2.2.2.2.2.2.2.2.2.2.2.2.2.2.2.2.2.2.2.2.2.2.1)⟩], .live [⟨2,1, .data (List.map cI v17.2.2.2.2.2.2.2.2.2.2.2.2.2.2.2.2.2.2.2.2.2.2.2.1)⟩], .live [⟨2,1, .data (List.map cI v17.2.2.2.2.2.2.2.2.2.2.2.2.2.2.2.2.2.2.2.2.2.2.2.2)⟩], .live (mW 2 1 aL v17.2.2.2.2.2.2.2.2.2.2.2.2.2.2.2.2.2.2.2.1)]⟩ ?_ ?_
 refine sq [0,1,2] (rP rfl (aH (r := .ptr _ _ _ _ _) rfl) ?_)
 obtain ⟨v8,hv8,h1⟩ := bnd h1
 refine rw1 rfl w0 rfl (dU [0] 300 (cY hv8) rfl rfl) (pa (nx (aK ?_)))
 refine bD (fun s13 => ⟨aE (aE (aE (aE ((fun _ => .dead)) 0 (.ptr 0 0 1 0 0)) 2 (.ptr 3 0 1 0 0)) 5 (.ptr 4 0 1 0 0)) 9 (dI s13.1),lks [.live [⟨157,3, .av [[dL cU8 s13.2.1.code,(dI s13.2.1.at_), .d (.v (.int .u64 s13.2.1.seed))]]⟩], .no, .no, .live [⟨40,26, .av [[ze,zl,zl,z0,z0,z0,z0,z0,ze,zl,zl,z0,zl,z0,z0,z0,z0,z0,z0,zl,z0,z0,z0,z0,z0,z0]]⟩], .live [⟨40,26, .av [[dS s13.2.2.1, .own 5 0 (s13.2.2.2.2.2.2.2.2.2.2.2.2.2.2.2.2.2.2.2.2.1).length, .own 6 0 (s13.2.2.2.2.2.2.2.2.2.2.2.2.2.2.2.2.2.2.2.2.2.1).length,(dI s13.2.2.2.1),(dI s13.2.2.2.2.1),(dI s13.2.2.2.2.2.1),(dI s13.2.2.2.2.2.2.1),(dI s13.2.2.2.2.2.2.2.1),(dS s13.2.2.2.2.2.2.2.2.1), .own 7 0 (s13.2.2.2.2.2.2.2.2.2.2.2.2.2.2.2.2.2.2.2.2.2.2.1).length, .own 8 0 (s13.2.2.2.2.2.2.2.2.2.2.2.2.2.2.2.2.2.2.2.2.2.2.2.1).length,(dI s13.2.2.2.2.2.2.2.2.2.1), .own 9 0 (s13.2.2.2.2.2.2.2.2.2.2.2.2.2.2.2.2.2.2.2.2.2.2.2.2.1).length,(dI s13.2.2.2.2.2.2.2.2.2.2.1),(dI s13.2.2.2.2.2.2.2.2.2.2.2.1.Year),(dI s13.2.2.2.2.2.2.2.2.2.2.2.1.Month),(dI s13.2.2.2.2.2.2.2.2.2.2.2.1.Day),(dI s13.2.2.2.2.2.2.2.2.2.2.2.2.1),(dI s13.2.2.2.2.2.2.2.2.2.2.2.2.2.1), .own 10 0 (s13.2.2.2.2.2.2.2.2.2.2.2.2.2.2.2.2.2.2.2.2.2.2.2.2.2).length,(dI s13.2.2.2.2.2.2.2.2.2.2.2.2.2.2.1),(dI s13.2.2.2.2.2.2.2.2.2.2.2.2.2.2.2.1),(dI s13.2.2.2.2.2.2.2.2.2.2.2.2.2.2.2.2.1),(dI s13.2.2.2.2.2.2.2.2.2.2.2.2.2.2.2.2.2.1),(dI s13.2.2.2.2.2.2.2.2.2.2.2.2.2.2.2.2.2.2.1),(dI s13.2.2.2.2.2.2.2.2.2.2.2.2.2.2.2.2.2.2.2.1)]]⟩], .live [⟨123,2, .av (fC 11 aL s13.2.2.2.2.2.2.2.2.2.2.2.2.2.2.2.2.2.2.2.2.1)⟩], .live [⟨125,4, .data (List.map bC s13.2.2.2.2.2.2.2.2.2.2.2.2.2.2.2.2.2.2.2.2.2.1)⟩], .live [⟨170,3, .data (List.map aM s13.2.2.2.2.2.2.2.2.2.2.2.2.2.2.2.2.2.2.2.2.2.2.1)⟩], .live [⟨181,3, .data (List.map aB s13.2.2.2.2.2.2.2.2.2.2.2.2.2.2.2.2.2.2.2.2.2.2.2.1)⟩], .live [⟨2,1, .data (List.map cI s13.2.2.2.2.2.2.2.2.2.2.2.2.2.2.2.2.2.2.2.2.2.2.2.2.1)⟩], .live [⟨2,1, .data (List.map cI s13.2.2.2.2.2.2.2.2.2.2.2.2.2.2.2.2.2.2.2.2.2.2.2.2.2)⟩], .live (mW 2 1 aL s13.2.2.2.2.2.2.2.2.2.2.2.2.2.2.2.2.2.2.2.2.1)]⟩) h1 ?_ (fun s13 y h2 => ?_)
 exact wk [0,1,2,3,4,5,6,7,8,9,10,11]
 refine aG (sq [0,1] (pm ?_))
 refine rP rfl (eI rfl rfl) (nx ?_)
 refine bM h2 rfl (fun hc h2 => ?_) (fun hc h2 => ?_)
 refine sk ?_
 obtain ⟨v16,h3,h2⟩ := bnd h2
 refine bG ⟨aE (aE (aE (aE ((fun _ => .dead)) 0 (.ptr 0 0 1 0 0)) 2 (.ptr 3 0 1 0 0)) 5 (.ptr 4 0 1 0 0)) 9 (dI s13.1),lks [.live [⟨157,3, .av [[dL cU8 v16.1.code,(dI v16.1.at_), .d (.v (.int .u64 v16.1.seed))]]⟩], .no, .no, .live [⟨40,26, .av [[ze,zl,zl,z0,z0,z0,z0,z0,ze,zl,zl,z0,zl,z0,z0,z0,z0,z0,z0,zl,z0,z0,z0,z0,z0,z0]]⟩], .live [⟨40,26, .av [[dS v16.2.1, .own 5 0 (v16.2.2.2.2.2.2.2.2.2.2.2.2.2.2.2.2.2.2.2.1).length, .own 6 0 (v16.2.2.2.2.2.2.2.2.2.2.2.2.2.2.2.2.2.2.2.2.1).length,(dI v16.2.2.1),(dI v16.2.2.2.1),(dI v16.2.2.2.2.1),(dI v16.2.2.2.2.2.1),(dI v16.2.2.2.2.2.2.1),(dS v16.2.2.2.2.2.2.2.1), .own 7 0 (v16.2.2.2.2.2.2.2.2.2.2.2.2.2.2.2.2.2.2.2.2.2.1).length, .own 8 0 (v16.2.2.2.2.2.2.2.2.2.2.2.2.2.2.2.2.2.2.2.2.2.2.1).length,(dI v16.2.2.2.2.2.2.2.2.1), .own 9 0 (v16.2.2.2.2.2.2.2.2.2.2.2.2.2.2.2.2.2.2.2.2.2.2.2.1).length,(dI v16.2.2.2.2.2.2.2.2.2.1),(dI v16.2.2.2.2.2.2.2.2.2.2.1.Year),(dI v16.2.2.2.2.2.2.2.2.2.2.1.Month),(dI v16.2.2.2.2.2.2.2.2.2.2.1.Day),(dI v16.2.2.2.2.2.2.2.2.2.2.2.1),(dI v16.2.2.2.2.2.2.2.2.2.2.2.2.1), .own 10 0 (v16.2.2.2.2.2.2.2.2.2.2.2.2.2.2.2.2.2.2.2.2.2.2.2.2).length,(dI v16.2.2.2.2.2.2.2.2.2.2.2.2.2.1),(dI v16.2.2.2.2.2.2.2.2.2.2.2.2.2.2.1),(dI v16.2.2.2.2.2.2.2.2.2.2.2.2.2.2.2.1),(dI v16.2.2.2.2.2.2.2.2.2.2.2.2.2.2.2.2.1),(dI v16.2.2.2.2.2.2.2.2.2.2.2.2.2.2.2.2.2.1),(dI v16.2.2.2.2.2.2.2.2.2.2.2.2.2.2.2.2.2.2.1)]]⟩], .live [⟨123,2, .av (fC 11 aL v16.2.2.2.2.2.2.2.2.2.2.2.2.2.2.2.2.2.2.2.1)⟩], .live [⟨125,4, .data (List.map bC v16.2.2.2.2.2.2.2.2.2.2.2.2.2.2.2.2.2.2.2.2.1)⟩], .live [⟨170,3, .data (List.map aM v16.2.2.2.2.2.2.2.2.2.2.2.2.2.2.2.2.2.2.2.2.2.1)⟩], .live [⟨181,3, .data (List.map aB v16.2.2.2.2.2.2.2.2.2.2.2.2.2.2.2.2.2.2.2.2.2.2.1)⟩], .live [⟨2,1, .data (List.map cI v16.2.2.2.2.2.2.2.2.2.2.2.2.2.2.2.2.2.2.2.2.2.2.2.1)⟩], .live [⟨2,1, .data (List.map cI v16.2.2.2.2.2.2.2.2.2.2.2.2.2.2.2.2.2.2.2.2.2.2.2.2)⟩], .live (mW 2 1 aL v16.2.2.2.2.2.2.2.2.2.2.2.2.2.2.2.2.2.2.2.1)]⟩ ?_ ?_
 refine aK (aG (aF (is := [0,1,2,3,4,5,6,7,8,9,10,11,12]) [0,0,0,6,15,31,63,63,63,0,639,1791,4095] follows (by kernel_rfl) (bS rfl w0 rfl (aU tok rfl rfl rfl rfl) rfl rfl rfl (tP rfl (aH (r := .ptr _ _ _ _ _) rfl) (aBa rfl w0 rfl rfl (fun hx hk => xY 12 tok cI [0,1,3600,86399,86400,1000000,40000] rfl rfl rfl (by repeat (first | exact Els.nil _ | apply Els.cons (cs := [.d _]) rfl rfl rfl | apply Els.cons (cs := _ :: _) rfl rfl rfl)) rfl rfl rfl (by repeat (first | exact cX.nil | (apply cX.cons; (repeat (first | exact fZ.nil | apply fZ.cons))))) rfl hk) ?_)))))
 obtain ⟨v14,hv14,h3⟩ := bnd h3
 refine aMd rfl w0 rfl (by repeat (first | exact jZ _ | exact kA rfl | refine kD ?_ rfl)) (xE 0 (hM hv14) rfl rfl rfl) ?_
 obtain ⟨v15,hv15,h3⟩ := bnd h3
 refine jB rfl w0 rfl (aHb 14 (aM2 hv15) rfl rfl) (tP rfl (aH (r := .tup _) rfl) ?_)
 iterate 3 refine tP rfl (aQ rfl rfl) ?_
 refine aBa rfl w0 rfl rfl (fun hx hk => jJ 13 (cs := [ze,zl,zl,z0,z0,z0,z0,z0,ze,zl,zl,z0,zl,z0,z0,z0,z0,z0,z0,zl,z0,z0,z0,z0,z0,z0]) tok rfl rfl hk) (iK rfl w0 (fQ (cs := _ :: _) tok rfl rfl rfl rfl rfl rfl rfl) (tpa ?_))
 refine tpa ?_
 refine bE ?_
 refine ⟨by kernel_rfl,?_⟩
 refine aI (sq [0,1] (pm ?_))
 refine rP rfl (eN rfl rfl) (nx ?_)
 refine bM h3 rfl (fun hc h3 => ?_) (fun hc h3 => ?_)
 refine sr [0,1] (rL rfl (aU tok rfl rfl rfl rfl) (bst tok (bB ?_)))
 refine bF (aI ?_)
 cases h3
 exact wk [0,1,2,3,4,14,16,17,18,19,20,15]
 refine cU (bF (aI ?_))
 cases h3
 exact wk [0,1,2,3,4,5,6,7,8,9,10,11]
 refine sr [0,1,2] (pm ?_)
 refine rP rfl (eM rfl rfl) (pa (bB ?_))
 refine cA ?_
 cases h2
 refine ⟨_,rfl,?_⟩
 exact wk [0,1,2,3,4,5,6,7,8,9,10,11]
 refine bK (bY ?_)
 cases h2
 refine cC ⟨_,rfl,fun e => ?_⟩
 subst e
 refine aY (aI ?_)
 exact wk [0,1,2,3,4,5,6,7,8,9,10,11]
 obtain ⟨v21,h1,h0⟩ := bnd h0
 refine bG ⟨aE (aE ((fun _ => .dead)) 2 (.ptr 3 0 1 0 0)) 5 (.ptr 4 0 1 0 0),lks [.live [⟨157,3, .av [[dL cU8 v21.1.code,(dI v21.1.at_), .d (.v (.int .u64 v21.1.seed))]]⟩], .no, .no, .live [⟨40,26, .av [[ze,zl,zl,z0,z0,z0,z0,z0,ze,zl,zl,z0,zl,z0,z0,z0,z0,z0,z0,zl,z0,z0,z0,z0,z0,z0]]⟩], .live [⟨40,26, .av [[dS v21.2.1, .own 5 0 (v21.2.2.2.2.2.2.2.2.2.2.2.2.2.2.2.2.2.2.2.1).length, .own 6 0 (v21.2.2.2.2.2.2.2.2.2.2.2.2.2.2.2.2.2.2.2.2.1).length,(dI v21.2.2.1),(dI v21.2.2.2.1),(dI v21.2.2.2.2.1),(dI v21.2.2.2.2.2.1),(dI v21.2.2.2.2.2.2.1),(dS v21.2.2.2.2.2.2.2.1), .own 7 0 (v21.2.2.2.2.2.2.2.2.2.2.2.2.2.2.2.2.2.2.2.2.2.1).length, .own 8 0 (v21.2.2.2.2.2.2.2.2.2.2.2.2.2.2.2.2.2.2.2.2.2.2.1).length,(dI v21.2.2.2.2.2.2.2.2.1), .own 9 0 (v21.2.2.2.2.2.2.2.2.2.2.2.2.2.2.2.2.2.2.2.2.2.2.2.1).length,(dI v21.2.2.2.2.2.2.2.2.2.1),(dI v21.2.2.2.2.2.2.2.2.2.2.1.Year),(dI v21.2.2.2.2.2.2.2.2.2.2.1.Month),(dI v21.2.2.2.2.2.2.2.2.2.2.1.Day),(dI v21.2.2.2.2.2.2.2.2.2.2.2.1),(dI v21.2.2.2.2.2.2.2.2.2.2.2.2.1), .own 10 0 (v21.2.2.2.2.2.2.2.2.2.2.2.2.2.2.2.2.2.2.2.2.2.2.2.2).length,(dI v21.2.2.2.2.2.2.2.2.2.2.2.2.2.1),(dI v21.2.2.2.2.2.2.2.2.2.2.2.2.2.2.1),(dI v21.2.2.2.2.2.2.2.2.2.2.2.2.2.2.2.1),(dI v21.2.2.2.2.2.2.2.2.2.2.2.2.2.2.2.2.1),(dI v21.2.2.2.2.2.2.2.2.2.2.2.2.2.2.2.2.2.1),(dI v21.2.2.2.2.2.2.2.2.2.2.2.2.2.2.2.2.2.2.1)]]⟩], .live [⟨123,2, .av (fC 11 aL v21.2.2.2.2.2.2.2.2.2.2.2.2.2.2.2.2.2.2.2.1)⟩], .live [⟨125,4, .data (List.map bC v21.2.2.2.2.2.2.2.2.2.2.2.2.2.2.2.2.2.2.2.2.1)⟩], .live [⟨170,3, .data (List.map aM v21.2.2.2.2.2.2.2.2.2.2.2.2.2.2.2.2.2.2.2.2.2.1)⟩], .live [⟨181,3, .data (List.map aB v21.2.2.2.2.2.2.2.2.2.2.2.2.2.2.2.2.2.2.2.2.2.2.1)⟩], .live [⟨2,1, .data (List.map cI v21.2.2.2.2.2.2.2.2.2.2.2.2.2.2.2.2.2.2.2.2.2.2.2.1)⟩], .live [⟨2,1, .data (List.map cI v21.2.2.2.2.2.2.2.2.2.2.2.2.2.2.2.2.2.2.2.2.2.2.2.2)⟩], .live (mW 2 1 aL v21.2.2.2.2.2.2.2.2.2.2.2.2.2.2.2.2.2.2.2.1)]⟩ ?_ ?_
 refine sq [0,1] (rP rfl (aH (r := .ptr _ _ _ _ _) rfl) ?_)
 obtain ⟨v18,hv18,h1⟩ := bnd h1
 refine rw1 rfl w0 rfl (dU [0] 300 (jW hv18) rfl rfl) (nx ?_)
 refine bL h1 rfl (fun hc h1 => ?_) (fun hc h1 => ?_)
 refine aF (is := [0,1,2,3,4,5,6,7,8]) [0,0,2,6,15,31,63,63,127] follows (by kernel_rfl) (bS rfl w0 rfl (aU tok rfl rfl rfl rfl) rfl rfl rfl (tP rfl (aH (r := .ptr _ _ _ _ _) rfl) ?_))
 obtain ⟨v19,hv19,h1⟩ := bnd h1
 refine aMd rfl w0 rfl (by repeat (first | exact jZ _ | exact kA rfl | refine kD ?_ rfl)) (xE 0 (cY hv19) rfl rfl rfl) ?_
 refine tP rfl (bI rfl rfl) ?_
 obtain ⟨v20,hv20,h1⟩ := bnd h1
 refine jB rfl w0 rfl (aHb 12 (aJx hv20) rfl rfl) (tP rfl (aH (r := .tup _) rfl) (tP rfl (aQ rfl rfl) (tP rfl (aQ rfl rfl) (iK rfl w0 (fQ (cs := _ :: _) tok rfl rfl rfl rfl rfl rfl rfl) (bE ?_)))))
 refine ⟨by kernel_rfl,?_⟩
 refine aI ?_
 cases h1
 exact wk [0,1,2,3,4,12,14,15,16,17,18,13]
 refine sk ?_
 cases h1
 exact wk [0,1,2,3,4,5,6,7,8,9,10,11]
 refine sq [0,1] (rL rfl (aU tok rfl rfl rfl rfl) (bst tok (nx (aD ?_))))
 cases h0
 exact aQr (rs := [.cell 2 40]) 1 [0,5,11,6,7,8,9,10] rfl
theorem aNf {p0 : List Int} {r : dO} (h0 : wE p0 = some r) : FnC Tryz.prog 8 [] [dL cU8 p0] [.live [⟨123,2, .av (fC 1 aL r.Movement.Works.Arbors)⟩], .live (mW 2 1 aL r.Movement.Works.Arbors), .live [⟨125,4, .data (List.map bC r.Movement.Works.Meshes)⟩], .live [⟨170,3, .data (List.map aM r.Movement.Calendar.Months)⟩], .live [⟨181,3, .data (List.map aB r.Movement.Calendar.Rules)⟩], .live [⟨2,1, .data (List.map cI r.Movement.Cam)⟩], .live [⟨2,1, .data (List.map cI r.Dial.Cam)⟩]] (.agg [dS r.Movement.Name, .own 0 0 r.Movement.Works.Arbors.length, .own 2 0 r.Movement.Works.Meshes.length,(dI r.Movement.Minute),(dI r.Movement.Hour),(dI r.Movement.Escape),(dI r.Movement.Teeth),(dI r.Movement.Beats),(dS r.Movement.Calendar.Name), .own 3 0 r.Movement.Calendar.Months.length, .own 4 0 r.Movement.Calendar.Rules.length,(dI r.Movement.Calendar.Week), .own 5 0 r.Movement.Cam.length,(dI r.Movement.Strike),(dI r.Start.Year),(dI r.Start.Month),(dI r.Start.Day),(dI r.First),(dI r.Clock), .own 6 0 r.Dial.Cam.length,(dI r.Dial.Months),(dI r.Dial.Teeth),(dI r.Dial.At),(dI r.Dial.Day),(dI r.Dial.Week),(dI r.Dial.Weekday)]) := by
 refine fi 28 tok Tryz.func8 ?_
 unfold wE at h0
 refine sq [0] (al 3 [ze,zl,zl,z0,z0,z0,z0,z0,ze,zl,zl,z0,zl,z0,z0,z0,z0,z0,z0,zl,z0,z0,z0,z0,z0,z0] tok (nx (sq [0,1,2] ?_)))
 refine pm ?_
 obtain ⟨v1,hv1,h0⟩ := bnd h0
 refine rS rfl (aO 4 (aC2 hv1) rfl rfl rfl) (rP rfl (aR (r := .ptr _ _ _ _ _) rfl) (nx (sq [0,1,2,3] (rP rfl (aH (r := .ptr _ _ _ _ _) rfl) ?_))))
 obtain ⟨v2,hv2,h0⟩ := bnd h0
 refine rw1 rfl w0 rfl (dU [4,5,6,7,8,9,10,11] 300 (aJ4 7 (aGd hv2)) rfl rfl) (al 12 [ze,zl,zl,z0,z0,z0,z0,z0,ze,zl,zl,z0,zl,z0,z0,z0,z0,z0,z0,zl,z0,z0,z0,z0,z0,z0] tok ?_)
 refine bst tok (nx (sq [0,1,2,3,4,5,6,7,8,9,10,11] ?_))
 refine fa tok ?_
 refine fa tok ?_
 refine rL rfl (aU tok rfl rfl rfl rfl) (fa tok ?_)
 refine ld tok ?_
 obtain ⟨v3,hv3,h0⟩ := bnd h0
 refine rS rfl (eE 13 (yQ hv3) rfl rfl) (rP rfl (aH (r := .tup _) rfl) (rP rfl (aQ rfl rfl) (rP rfl (aQ rfl rfl) (al 14 [zl,z0,z0,z0,z0,z0,z0] tok ?_))))
 refine bst tok ?_
 refine pa (nx (sq [0,1,2,3,4,5,6,7,8] ?_))
 refine fa tok ?_
 refine rL rfl (aU tok rfl rfl rfl rfl) (fa tok ?_)
 refine rL rfl (aU tok rfl rfl rfl rfl) (fa tok ?_)
 refine ld tok ?_
 refine rL rfl (aU tok rfl rfl rfl rfl) (rP rfl (pbl (C0 := [ze,zl,zl,z0,z0,z0,z0,z0,ze,zl,zl,z0,zl,z0,z0,z0,z0,z0,z0,zl,z0,z0,z0,z0,z0,z0]) tok rfl rfl rfl) (bst tok (nx (aD ?_))))
 cases h0
 exact dJ (rs := [.cell 2 40]) [5,6,7,8,9,10,13] rfl
theorem aJ3 {p0 : List Int} {r : List Int} (h0 : rH p0 = some r) : FnC Tryz.prog 17 [] [dL cU8 p0] [.live [⟨2,1, .data (List.map cI r)⟩]] (.own 0 0 r.length) := by
 refine fi 23 tok Tryz.func17 ?_
 unfold rH at h0
 refine sq [0] (pa (nx (sq [0,1,2] ?_)))
 refine pm ?_
 obtain ⟨v1,hv1,h0⟩ := bnd h0
 refine rS rfl (aO 3 (aC2 hv1) rfl rfl rfl) (rP rfl (aR (r := .ptr _ _ _ _ _) rfl) (nx (sq [0,1] (rS rfl (eJ 4 tok rfl rfl rfl rfl) (rP rfl (aR (r := .own _ _ _) rfl) (nx ?_))))))
 obtain ⟨v9,h1,h0⟩ := bnd h0
 refine bG ⟨aE ((fun _ => .dead)) 4 (.own 3 0 (v9).length),lks [.no, .no, .no, .live [⟨2,1, .data (List.map cI v9)⟩]]⟩ ?_ ?_
 refine sq [0,1,2,3] (rP rfl (aH (r := .ptr _ _ _ _ _) rfl) ?_)
 obtain ⟨v2,hv2,h1⟩ := bnd h1
 refine rw1 rfl w0 rfl (dU [3] 300 (cY hv2) rfl rfl) (rP rfl (bI rfl rfl) (pa (nx (aK ?_))))
 refine bD (fun s6 => ⟨aE (aE (aE ((fun _ => .dead)) 3 (.ptr 3 0 1 0 0)) 4 (.own 4 0 (s6.2.2).length)) 5 (dI s6.1),lks [.no, .no, .no, .live [⟨157,3, .av [[dL cU8 s6.2.1.code,(dI s6.2.1.at_), .d (.v (.int .u64 s6.2.1.seed))]]⟩], .live [⟨2,1, .data (List.map cI s6.2.2)⟩]]⟩) h1 ?_ (fun s6 y h2 => ?_)
 exact wk [0,1,2,3,4]
 refine aG (sq [0,1] (pm ?_))
 refine rP rfl (eI rfl rfl) (nx ?_)
 refine bM h2 rfl (fun hc h2 => ?_) (fun hc h2 => ?_)
 refine sk (aG (aK (sr [0,1,2,3,4,5,6] (rP rfl (aH (r := .own _ _ _) rfl) (rP rfl (aH (r := .ptr _ _ _ _ _) rfl) (rS rfl (iL tok cI [0,1,3600,86400,86399,1000000,3000000,777777] rfl rfl rfl (by repeat (first | exact Els.nil _ | apply Els.cons (cs := [.d _]) rfl rfl rfl | apply Els.cons (cs := _ :: _) rfl rfl rfl)) rfl rfl rfl (by repeat (first | exact cX.nil | (apply cX.cons; (repeat (first | exact fZ.nil | apply fZ.cons))))) rfl) ?_))))))
 obtain ⟨v7,hv7,h2⟩ := bnd h2
 refine rw1 rfl w0 rfl (dU [3] 300 (hM hv7) rfl rfl) (rS rfl (iL tok cI [v7.1] rfl rfl rfl (by repeat (first | exact Els.nil _ | apply Els.cons (cs := [.d _]) rfl rfl rfl | apply Els.cons (cs := _ :: _) rfl rfl rfl)) rfl rfl rfl (by repeat (first | exact cX.nil | (apply cX.cons; (repeat (first | exact fZ.nil | apply fZ.cons))))) rfl) ?_)
 obtain ⟨hq8,h2⟩ := dM h2
 refine rw1 rfl w0 rfl (fP tok hq8 rfl rfl rfl rfl rfl rfl rfl rfl rfl rfl rfl rfl (fun _ => rfl)) (rP rfl (aR (r := .own _ _ _) rfl) (bB (bF (aI (sr [0,1,2] (pm ?_))))))
 refine rP rfl (eM rfl rfl) (pa (bB ?_))
 refine cA ?_
 cases h2
 refine ⟨_,rfl,?_⟩
 exact wk [0,1,2,3,4]
 refine bK (bY ?_)
 cases h2
 refine cC ⟨_,rfl,fun e => ?_⟩
 subst e
 refine aY (aI ?_)
 exact wk [0,1,2,4]
 refine sq [0,1] (rP rfl (aH (r := .own _ _ _) rfl) (rP rfl (aR (r := .own _ _ _) rfl) (nx (aD ?_))))
 cases h0
 exact dJ (rs := [.tmp 2]) [3] rfl
theorem dC {p0 : Int} {p1 : Int} {p2 : Int} {r : Bool} (h0 : cK p0 p1 p2 = some r) : FnC Tryz.prog 42 [] [dI p0,(dI p1),(dI p2)] [] (dB r) := by
 refine fi 15 tok Tryz.func42 ?_
 unfold cK at h0
 refine sq [0] (pa (nx (sq [0,1,2,3,4,5,6,7,8] ?_)))
 refine pm ?_
 refine pm ?_
 refine rP rfl (tN rfl rfl) (pm ?_)
 refine gT (u := 10) h0 rfl (fun hc h0 => ?_) (fun hc h0 => ?_)
 refine pm1 ?_
 refine pm1 ?_
 refine rp rfl (w1 rfl rfl rfl) rfl (iW rfl rfl) (pkt ?_)
 refine pa (nx (aD ?_))
 cases h0
 exact r0t 6 rfl
 iterate 3 refine k1 ?_
 refine pkf ?_
 refine pa (nx (aD ?_))
 cases h0
 exact r0t 6 rfl
theorem yS {p0 : bJ} {p1 : Int} {r : Bool} (h0 : mB p0 p1 = some r) : FnC Tryz.prog 76 [] [.agg [dL aL p0.Arbors,(dL bC p0.Meshes)],(dI p1)] [] (dB r) := by
 refine fi 11 tok Tryz.func76 ?_
 unfold mB at h0
 refine sq [0,1] (bxx 3 ?_)
 refine pa (nx (sq [0,1,2,3,4,5,6] ?_))
 refine pm ?_
 refine fa tok ?_
 refine ld tok ?_
 refine rP rfl (aN tok rfl rfl rfl) (rP rfl (eM rfl rfl) ?_)
 obtain ⟨v1,hv1,h0⟩ := bnd h0
 refine rS rfl (aO 4 (dC hv1) rfl rfl rfl) (pa (nx (aD ?_)))
 cases h0
 exact r0t 4 rfl
theorem aD6 {p0 : Int} {r : Bool} (h0 : oQ p0 = some r) : FnC Tryz.prog 66 [] [dI p0] [] (dB r) := by
 refine fi 5 tok Tryz.func66 ?_
 unfold oQ at h0
 refine sq [0] (pa (nx (sq [0,1,2] ?_)))
 refine pm ?_
 obtain ⟨v1,hv1,h0⟩ := bnd h0
 refine rS rfl (aO 3 (dC hv1) rfl rfl rfl) (pa (nx (aD ?_)))
 cases h0
 exact r0t 2 rfl
theorem wW {p0 : ByteArray} {r : Bool} (h0 : mK p0 = some r) : FnC Tryz.prog 65 [] [dS p0] [] (dB r) := by
 refine fi 50 tok Tryz.func65 ?_
 unfold mK at h0
 refine sq [0] (pa (nx (aG ?_)))
 obtain ⟨v1,h1,h0⟩ := bnd h0
 refine bG ⟨aE (aE ((fun _ => .dead)) 0 (dS p0)) 14 (dB v1),lks [.no, .no, .no]⟩ ?_ ?_
 refine sr [0,1,2,3,4,5,6,7] (pm ?_)
 refine rP rfl (xN tok rfl rfl rfl) (rP rfl (bX rfl rfl) (pm ?_))
 refine gT (u := 10) h1 rfl (fun hc h1 => ?_) (fun hc h1 => ?_)
 iterate 3 refine k1 ?_
 refine pkt (nx ?_)
 cases h1
 exact wk [0,1,2]
 refine pm1 ?_
 refine rp rfl (w1 rfl rfl rfl) rfl (xN tok rfl rfl rfl) (rp rfl (w1 rfl rfl rfl) rfl (eI rfl rfl) (pkf (nx ?_)))
 cases h1
 exact wk [0,1,2]
 refine bL h0 rfl (fun hc h0 => ?_) (fun hc h0 => ?_)
 refine sq [0] (pa (nx (aD (aS ?_))))
 cases h0
 exact r0t 2 rfl
 refine sk ?_
 obtain ⟨v13x,h1,h0⟩ := bnd h0
 refine dX v13x (fun v13 => ⟨(fun _ => .dead),lks [.no, .no, .no]⟩) ?_ ?_
 refine sq [0,1,2,3] (pm ?_)
 obtain ⟨hq2,h1⟩ := dM h1
 refine rS rfl (aU9 tok hq2 rfl rfl rfl rfl rfl rfl rfl) (rP rfl (aN tok rfl rfl rfl) (pm (nx (aK ?_))))
 refine bD (fun s8 => ⟨aE (aE (aE ((fun _ => .dead)) 16 (dL cU8 (eL p0))) 17 (dI ((eL p0).length : Int))) 18 (dI s8),lks [.no, .no, .no]⟩) h1 ?_ (fun s8 y h2 => ?_)
 exact wk [0,1,2]
 refine sq [0] (rP rfl (bX rfl rfl) (nx (aG ?_)))
 refine bM h2 rfl (fun hc h2 => ?_) (fun hc h2 => ?_)
 refine sk (aG (aK (sq [0,1,2,3,4] (pm ?_))))
 obtain ⟨v9,hv9,h2⟩ := bnd h2
 refine rP rfl (cV tok hv9 rfl rfl rfl rfl rfl rfl) (lr tok ?_)
 refine pa ?_
 refine pa (nx ?_)
 obtain ⟨v10,h3,h2⟩ := bnd h2
 refine bG ⟨aE (aE (aE (aE (aE (aE ((fun _ => .dead)) 3 (dI s8)) 4 (.d (.v (.int .u8 v9)))) 5 (dB v10)) 16 (dL cU8 (eL p0))) 17 (dI ((eL p0).length : Int))) 18 (dI s8),lks [.no, .no, .no]⟩ ?_ ?_
 refine sr [0,1,2,3,4,5,6] (pm ?_)
 refine rP rfl (tN rfl rfl) (pm ?_)
 refine gT (u := 25) h3 rfl (fun hc h3 => ?_) (fun hc h3 => ?_)
 refine pm1 ?_
 refine rp rfl (w1 rfl rfl rfl) rfl (iW rfl rfl) (pkt ?_)
 refine pa (nx ?_)
 cases h3
 exact wk [0,1,2]
 refine k1 ?_
 refine k1 ?_
 refine pkf ?_
 refine pa (nx ?_)
 cases h3
 exact wk [0,1,2]
 obtain ⟨v11,h3,h2⟩ := bnd h2
 refine bG ⟨aE (aE (aE (aE (aE (aE ((fun _ => .dead)) 3 (dI s8)) 5 (dB v10)) 6 (dB v11)) 16 (dL cU8 (eL p0))) 17 (dI ((eL p0).length : Int))) 18 (dI s8),lks [.no, .no, .no]⟩ ?_ ?_
 refine sr [0,1,2,3,4,5,6,7,8,9,10] (pm ?_)
 refine rP rfl (tN rfl rfl) (pm ?_)
 refine gT (u := 31) h3 rfl (fun hc h3 => ?_) (fun hc h3 => ?_)
 refine pm1 ?_
 refine rp rfl (w1 rfl rfl rfl) rfl (iW rfl rfl) (pkt ?_)
 refine pm ?_
 refine gT (u := 35) h3 rfl (fun hc h3 => ?_) (fun hc h3 => ?_)
 refine k1 ?_
 refine k1 ?_
 refine pkt ?_
 refine pa (nx ?_)
 cases h3
 exact wk [0,1,2]
 refine pm1 ?_
 refine rp rfl (w1 rfl rfl rfl) rfl (eN rfl rfl) (pkf ?_)
 refine pa (nx ?_)
 cases h3
 exact wk [0,1,2]
 refine k1 ?_
 refine k1 ?_
 refine pkf ?_
 refine pm ?_
 refine pm1 ?_
 refine rp rfl (w1 rfl rfl rfl) rfl (eN rfl rfl) (pkf ?_)
 refine pa (nx ?_)
 cases h3
 exact wk [0,1,2]
 obtain ⟨v12,h3,h2⟩ := bnd h2
 refine bG ⟨aE (aE (aE (aE ((fun _ => .dead)) 16 (dL cU8 (eL p0))) 17 (dI ((eL p0).length : Int))) 18 (dI s8)) 48 (dB v12),lks [.no, .no, .no]⟩ ?_ ?_
 refine sr [0,1,2,3,4,5,6,7,8,9] (pm ?_)
 refine rP rfl (bO rfl) (pm ?_)
 refine dH (u := 41) h3 rfl (fun hc h3 => ?_) (fun hc h3 => ?_)
 refine pm1 ?_
 refine rp rfl (w1 rfl rfl rfl) rfl (eN rfl rfl) (pm1 ?_)
 refine gT (u := 44) h3 rfl (fun hc h3 => ?_) (fun hc h3 => ?_)
 refine k1 ?_
 refine k1 ?_
 refine aUl ?_
 refine pkt (nx ?_)
 cases h3
 exact wk [0,1,2]
 refine pm1 ?_
 refine rp rfl (w1 rfl rfl rfl) rfl (bO rfl) (aR1 ?_)
 refine pkt (nx ?_)
 cases h3
 exact wk [0,1,2]
 iterate 6 refine k1 ?_
 refine pkf (nx ?_)
 cases h3
 exact wk [0,1,2]
 refine bL h2 rfl (fun hc h2 => ?_) (fun hc h2 => ?_)
 refine sq [0] (pa (nx (aD ?_)))
 refine bH (aS ?_)
 cases h2
 refine eV ⟨_,rfl,fun e => ?_⟩
 subst e
 refine bH ?_
 replace h0 := gG h0
 refine aS ?_
 cases h0
 exact r0t 2 rfl
 refine cU (bF (aI (sr [0,1] (rP rfl (bI rfl rfl) (pm (bB ?_))))))
 refine cA ?_
 cases h2
 refine ⟨_,rfl,?_⟩
 exact wk [0,1,2]
 refine bK (bY ?_)
 cases h2
 refine cC ⟨_,rfl,fun e => ?_⟩
 subst e
 refine aY (aI ?_)
 refine ⟨_,rfl,?_⟩
 exact wk [0,1,2]
 rintro v13 rfl
 replace h0 := iP h0
 refine sq [0] (pa (nx (aD ?_)))
 cases h0
 exact r0t 2 rfl
theorem aEj {p0 : cQ} {r : Bool} (h0 : lP p0 = some r) : FnC Tryz.prog 227 [] [.agg [dS p0.Name,(dL cI p0.Wheels)]] [] (dB r) := by
 refine fi 25 tok Tryz.func227 ?_
 unfold lP at h0
 refine sq [0,1] (bxx 3 ?_)
 refine pa (nx ?_)
 obtain ⟨v7x,h1,h0⟩ := bnd h0
 refine dX v7x (fun v7 => ⟨aE ((fun _ => .dead)) 1 (.ptr 3 0 1 0 0),lks [.no, .no, .no, .live [⟨123,2, .av [[dS p0.Name,(dL cI p0.Wheels)]]⟩]]⟩) ?_ ?_
 refine sq [0,1,2,3] (fa tok ?_)
 refine ld tok ?_
 refine rP rfl (aN tok rfl rfl rfl) (pm (nx (aK ?_)))
 refine bD (fun s4 => ⟨aE (aE (aE (aE ((fun _ => .dead)) 1 (.ptr 3 0 1 0 0)) 6 (dL cI p0.Wheels)) 7 (dI (p0.Wheels.length : Int))) 8 (dI s4),lks [.no, .no, .no, .live [⟨123,2, .av [[dS p0.Name,(dL cI p0.Wheels)]]⟩]]⟩) h1 ?_ (fun s4 y h2 => ?_)
 exact wk [0,1,2,3]
 refine sq [0] (rP rfl (bX rfl rfl) (nx (aG ?_)))
 refine bM h2 rfl (fun hc h2 => ?_) (fun hc h2 => ?_)
 refine sk (aG (aK (sq [0,1,2] ?_)))
 obtain ⟨v5,hv5,h2⟩ := bnd h2
 refine rP rfl (cV tok hv5 rfl rfl rfl rfl rfl rfl) (lr tok ?_)
 refine pa (nx (sq [0,1,2] ?_))
 refine pm ?_
 obtain ⟨v6,hv6,h2⟩ := bnd h2
 refine rS rfl (aO 4 (aD6 hv6) rfl rfl rfl) (rP rfl (bO rfl) (nx ?_))
 refine bL h2 rfl (fun hc h2 => ?_) (fun hc h2 => ?_)
 refine sq [0] (pa (nx (aD ?_)))
 refine bH (aS ?_)
 cases h2
 refine eV ⟨_,rfl,fun e => ?_⟩
 subst e
 refine bH ?_
 replace h0 := gG h0
 refine aS ?_
 cases h0
 exact r0t 2 rfl
 refine cU (bF (aI (sr [0,1] (rP rfl (bI rfl rfl) (pm (bB ?_))))))
 refine cA ?_
 cases h2
 refine ⟨_,rfl,?_⟩
 exact wk [0,1,2,3]
 refine bK (bY ?_)
 cases h2
 refine cC ⟨_,rfl,fun e => ?_⟩
 subst e
 refine aY (aI ?_)
 refine ⟨_,rfl,?_⟩
 exact wk [0,1,2,3]
 rintro v7 rfl
 replace h0 := iP h0
 refine sq [0,1,2,3,4,5,6,7,8,9] (fa tok ?_)
 refine ld tok ?_
 obtain ⟨v8,hv8,h0⟩ := bnd h0
 refine rS rfl (aO 4 (wW hv8) rfl rfl rfl) (pm ?_)
 refine dH (u := 19) h0 rfl (fun hc h0 => ?_) (fun hc h0 => ?_)
 refine fa1 tok ?_
 refine ld1 tok ?_
 refine rp rfl (w1 rfl rfl rfl) rfl (aN tok rfl rfl rfl) (rp rfl (w1 rfl rfl rfl) rfl (iW rfl rfl) (pkt ?_))
 refine pa (nx (aD ?_))
 cases h0
 exact r0t 2 rfl
 iterate 4 refine k1 ?_
 refine pkf ?_
 refine pa (nx (aD ?_))
 cases h0
 exact r0t 2 rfl
theorem aBb {p0 : bJ} {p1 : Int} {p2 : Int} {r : Bool} (h0 : mM p0 p1 p2 = some r) : FnC Tryz.prog 268 [] [.agg [dL aL p0.Arbors,(dL bC p0.Meshes)],(dI p1),(dI p2)] [] (dB r) := by
 refine fi 25 tok Tryz.func268 ?_
 unfold mM at h0
 refine sq [0,1] (bxx 3 ?_)
 refine pa (nx (sq [0,1,2,3,4,5,6,7,8,9,10,11,12,13,14,15,16,17,18] ?_))
 refine pm ?_
 refine fa tok ?_
 refine ld tok ?_
 refine rP rfl (aN tok rfl rfl rfl) (rP rfl (eM rfl rfl) ?_)
 obtain ⟨v1,hv1,h0⟩ := bnd h0
 refine rS rfl (aO 4 (dC hv1) rfl rfl rfl) (pm ?_)
 refine dH (u := 13) h0 rfl (fun hc h0 => ?_) (fun hc h0 => ?_)
 refine pm1 ?_
 refine fa1 tok ?_
 refine ld1 tok ?_
 refine pm1 ?_
 obtain ⟨v2,hv2,h0⟩ := bnd h0
 refine rp rfl (w1 rfl rfl rfl) rfl (cV tok hv2 rfl rfl rfl rfl rfl rfl) (fr1 tok ?_)
 refine lr1 tok ?_
 refine rp rfl (w1 rfl rfl rfl) rfl (aN tok rfl rfl rfl) (rp rfl (w1 rfl rfl rfl) rfl (eM rfl rfl) ?_)
 obtain ⟨v3,hv3,h0⟩ := bnd h0
 refine rs rfl (w1 rfl rfl rfl) rfl (aO 4 (dC hv3) rfl rfl rfl) (pkt ?_)
 refine pa (nx (aD ?_))
 cases h0
 exact r0t 6 rfl
 iterate 10 refine k1 ?_
 refine pkf ?_
 refine pa (nx (aD ?_))
 cases h0
 exact r0t 6 rfl
theorem aNg {p0 : bJ} {p1 : cH} {r : Bool} (h0 : wU p0 p1 = some r) : FnC Tryz.prog 228 [] [.agg [dL aL p0.Arbors,(dL bC p0.Meshes)], .agg [dI p1.A,(dI p1.WheelA),(dI p1.B),(dI p1.WheelB)]] [] (dB r) := by
 refine fi 26 tok Tryz.func228 ?_
 unfold wU at h0
 refine sq [0,1,2] (bxx 3 ?_)
 refine bxx 4 ?_
 refine pa (nx (sq [0,1,2,3,4,5,6,7,8,9,10,11,12,13,14,15,16,17,18,19,20,21] ?_))
 refine fa tok ?_
 refine ld tok ?_
 refine fa tok ?_
 refine ld tok ?_
 refine rP rfl (fA rfl rfl) (pm ?_)
 refine gT (u := 10) h0 rfl (fun hc h0 => ?_) (fun hc h0 => ?_)
 refine rl rfl (w1 rfl rfl rfl) rfl (aU tok rfl rfl rfl rfl) (fa1 tok ?_)
 refine ld1 tok ?_
 refine fa1 tok ?_
 refine ld1 tok ?_
 obtain ⟨v1,hv1,h0⟩ := bnd h0
 refine rs rfl (w1 rfl rfl rfl) rfl (aO 5 (aBb hv1) rfl rfl rfl) (pkt ?_)
 refine pm ?_
 refine dH (u := 18) h0 rfl (fun hc h0 => ?_) (fun hc h0 => ?_)
 refine rl rfl (w1 rfl rfl rfl) rfl (aU tok rfl rfl rfl rfl) (fa1 tok ?_)
 refine ld1 tok ?_
 refine fa1 tok ?_
 refine ld1 tok ?_
 obtain ⟨v2,hv2,h0⟩ := bnd h0
 refine rs rfl (w1 rfl rfl rfl) rfl (aO 5 (aBb hv2) rfl rfl rfl) (pkt ?_)
 refine pa (nx (aD ?_))
 cases h0
 exact r0t 4 rfl
 iterate 6 refine k1 ?_
 refine pkf ?_
 refine pa (nx (aD ?_))
 cases h0
 exact r0t 4 rfl
 iterate 6 refine k1 ?_
 refine pkf ?_
 refine pm ?_
 iterate 6 refine k1 ?_
 refine pkf ?_
 refine pa (nx (aD ?_))
 cases h0
 exact r0t 4 rfl
theorem aIg {p0 : cH} {p1 : cH} {r : Bool} (h0 : pF p0 p1 = some r) : FnC Tryz.prog 231 [] [.agg [dI p0.A,(dI p0.WheelA),(dI p0.B),(dI p0.WheelB)], .agg [dI p1.A,(dI p1.WheelA),(dI p1.B),(dI p1.WheelB)]] [] (dB r) := by
 refine fi 21 tok Tryz.func231 ?_
 unfold pF at h0
 refine sq [0,1,2] (bxx 3 ?_)
 refine bxx 4 ?_
 refine pa (nx (sq [0,1,2,3,4,5,6,7,8,9,10,11,12,13,14,15,16] ?_))
 refine rL rfl (aU tok rfl rfl rfl rfl) (rL rfl (aU tok rfl rfl rfl rfl) (rP rfl (wG (a := p0) (b := p1) rfl rfl) (pm ?_)))
 refine gT (u := 8) h0 rfl (fun hc h0 => ?_) (fun hc h0 => ?_)
 iterate 11 refine k1 ?_
 refine pkt ?_
 refine pa (nx (aD ?_))
 cases h0
 exact r0t 4 rfl
 refine rl rfl (w1 rfl rfl rfl) rfl (aU tok rfl rfl rfl rfl) (fa1 tok ?_)
 refine ld1 tok ?_
 refine fa1 tok ?_
 refine ld1 tok ?_
 refine fa1 tok ?_
 refine ld1 tok ?_
 refine fa1 tok ?_
 refine ld1 tok ?_
 refine rp rfl (w1 rfl rfl rfl) rfl (pbl (C0 := [z0,z0,z0,z0]) tok rfl rfl rfl) (rp rfl (w1 rfl rfl rfl) rfl (wG (a := p0) (b := (⟨p1.B,p1.WheelB,p1.A,p1.WheelA⟩ : cH)) rfl rfl) (pkf ?_))
 refine pa (nx (aD ?_))
 cases h0
 exact r0t 4 rfl
theorem aB0 {p0 : cH} {p1 : cH} {r : Bool} (h0 : lX p0 p1 = some r) : FnC Tryz.prog 230 [] [.agg [dI p0.A,(dI p0.WheelA),(dI p0.B),(dI p0.WheelB)], .ref (bC p1)] [] (dB r) := by
 refine fi 7 tok Tryz.func230 ?_
 unfold lX at h0
 refine sq [0,1] (bxx 3 ?_)
 refine pa (nx (sq [0,1,2,3] ?_))
 refine rP rfl (bT tok rfl rfl rfl (by repeat (first | exact kK.z _ | apply kK.t))) (rL rfl (aU tok rfl rfl rfl rfl) ?_)
 obtain ⟨v1,hv1,h0⟩ := bnd h0
 refine rS rfl (aO 4 (aIg hv1) rfl rfl rfl) (pa (nx (aD ?_)))
 cases h0
 exact r0t 3 rfl
theorem jD {p0 : List cH} {p1_0 : cH} {r : Int} (h0 : dF p0 p1_0 = some r) : FnC Tryz.prog 269 [] [dL bC p0, .fn 230 [.ref (bC p1_0)]] [] (dI r) := by
 refine fi 19 tok Tryz.func269 ?_
 unfold dF at h0
 refine sq [0] (pa (nx ?_))
 obtain ⟨v7x,h1,h0⟩ := bnd h0
 refine dX v7x (fun v7 => ⟨(fun _ => .dead),lks [.no, .no, .no]⟩) ?_ ?_
 refine sq [0,1,2] (pm ?_)
 refine rP rfl (aN tok rfl rfl rfl) (pm (nx (aK ?_)))
 refine bD (fun s4 => ⟨aE (aE (aE (aE ((fun _ => .dead)) 0 (dL bC p0)) 1 (.fn 230 [.ref (bC p1_0)])) 7 (dI (p0.length : Int))) 8 (dI s4),lks [.no, .no, .no]⟩) h1 ?_ (fun s4 y h2 => ?_)
 exact wk [0,1,2]
 refine sq [0] (rP rfl (bX rfl rfl) (nx (aG ?_)))
 refine bM h2 rfl (fun hc h2 => ?_) (fun hc h2 => ?_)
 refine sk (aG (aK (sq [0,1] (pm ?_))))
 refine pa (nx (sq [0,1,2,3,4,5] ?_))
 refine rP rfl (aH (r := .fn _ _) rfl) (pm ?_)
 refine pm ?_
 obtain ⟨v5,hv5,h2⟩ := bnd h2
 refine rP rfl (cV tok hv5 rfl rfl rfl rfl rfl rfl) (rP rfl (bT tok rfl rfl rfl (by repeat (first | exact kK.z _ | apply kK.t))) ?_)
 obtain ⟨v6,hv6,h2⟩ := bnd h2
 refine rS rfl (aO 3 (aB0 hv6) rfl rfl rfl) (nx ?_)
 refine bL h2 rfl (fun hc h2 => ?_) (fun hc h2 => ?_)
 refine sq [0,1] (pm ?_)
 refine pa (nx (aD ?_))
 refine bH (aS ?_)
 cases h2
 refine eV ⟨_,rfl,fun e => ?_⟩
 subst e
 refine bH ?_
 replace h0 := gG h0
 refine aS ?_
 cases h0
 exact r0t 4 rfl
 refine cU (bF (aI (sr [0,1] (rP rfl (bI rfl rfl) (pm (bB ?_))))))
 refine cA ?_
 cases h2
 refine ⟨_,rfl,?_⟩
 exact wk [0,1,2]
 refine bK (bY ?_)
 cases h2
 refine cC ⟨_,rfl,fun e => ?_⟩
 subst e
 refine aY (aI ?_)
 refine ⟨_,rfl,?_⟩
 exact wk [0,1,2]
 rintro v7 rfl
 replace h0 := iP h0
 refine sq [0] (pa (nx (aD ?_)))
 cases h0
 exact r0t 4 rfl
theorem iJ {p0 : List cH} {p1_0 : cH} {r : Bool} (h0 : cF p0 p1_0 = some r) : FnC Tryz.prog 229 [] [dL bC p0, .fn 230 [.ref (bC p1_0)]] [] (dB r) := by
 refine fi 9 tok Tryz.func229 ?_
 unfold cF at h0
 refine sq [0] (pa (nx (sq [0,1,2,3,4] ?_)))
 refine pm ?_
 refine rP rfl (aH (r := .fn _ _) rfl) ?_
 obtain ⟨v1,hv1,h0⟩ := bnd h0
 refine rS rfl (aO 3 (jD hv1) rfl rfl rfl) (rP rfl (tN rfl rfl) (pa (nx (aD ?_))))
 cases h0
 exact r0t 4 rfl
theorem yC {p0 : bJ} {r : Bool} (h0 : jV p0 = some r) : FnC Tryz.prog 154 [] [.agg [dL aL p0.Arbors,(dL bC p0.Meshes)]] [] (dB r) := by
 refine fi 67 tok Tryz.func154 ?_
 unfold jV at h0
 refine sq [0,1] (bxx 3 ?_)
 refine pa (nx (aG ?_))
 obtain ⟨v1,h1,h0⟩ := bnd h0
 refine bG ⟨aE (aE ((fun _ => .dead)) 1 (.ptr 3 0 1 0 0)) 18 (dB v1),lks [.no, .no, .no, .live [⟨27,2, .av [[dL aL p0.Arbors,(dL bC p0.Meshes)]]⟩]]⟩ ?_ ?_
 refine sr [0,1,2,3,4,5,6,7,8,9] (fa tok ?_)
 refine ld tok ?_
 refine rP rfl (aN tok rfl rfl rfl) (rP rfl (eI rfl rfl) (pm ?_))
 refine gT (u := 13) h1 rfl (fun hc h1 => ?_) (fun hc h1 => ?_)
 iterate 4 refine k1 ?_
 refine pkt (nx ?_)
 cases h1
 exact wk [0,1,2,3]
 refine fa1 tok ?_
 refine ld1 tok ?_
 refine rp rfl (w1 rfl rfl rfl) rfl (aN tok rfl rfl rfl) (rp rfl (w1 rfl rfl rfl) rfl (eI rfl rfl) (pkf (nx ?_)))
 cases h1
 exact wk [0,1,2,3]
 refine bL h0 rfl (fun hc h0 => ?_) (fun hc h0 => ?_)
 refine sq [0] (pa (nx (aD (aS ?_))))
 cases h0
 exact r0t 2 rfl
 refine sk ?_
 obtain ⟨v20x,h1,h0⟩ := bnd h0
 refine dX v20x (fun v20 => ⟨aE ((fun _ => .dead)) 1 (.ptr 3 0 1 0 0),lks [.no, .no, .no, .live [⟨27,2, .av [[dL aL p0.Arbors,(dL bC p0.Meshes)]]⟩]]⟩) ?_ ?_
 refine sq [0,1,2,3] (fa tok ?_)
 refine ld tok ?_
 refine rP rfl (aN tok rfl rfl rfl) (pm (nx (aK ?_)))
 refine bD (fun s11 => ⟨aE (aE (aE (aE ((fun _ => .dead)) 1 (.ptr 3 0 1 0 0)) 20 (dL aL p0.Arbors)) 21 (dI (p0.Arbors.length : Int))) 22 (dI s11),lks [.no, .no, .no, .live [⟨27,2, .av [[dL aL p0.Arbors,(dL bC p0.Meshes)]]⟩]]⟩) h1 ?_ (fun s11 y h2 => ?_)
 exact wk [0,1,2,3]
 refine sq [0] (rP rfl (bX rfl rfl) (nx (aG ?_)))
 refine bM h2 rfl (fun hc h2 => ?_) (fun hc h2 => ?_)
 refine sk ?_
 obtain ⟨v19x,h3,h2⟩ := bnd h2
 refine dX v19x (fun v19 => ⟨aE (aE (aE (aE ((fun _ => .dead)) 1 (.ptr 3 0 1 0 0)) 20 (dL aL p0.Arbors)) 21 (dI (p0.Arbors.length : Int))) 22 (dI s11),lks [.no, .no, .no, .live [⟨27,2, .av [[dL aL p0.Arbors,(dL bC p0.Meshes)]]⟩]]⟩) ?_ ?_
 refine aK (sq [0,1,2,3,4,5] (pm ?_))
 obtain ⟨v12,hv12,h3⟩ := bnd h3
 refine rP rfl (cV tok hv12 rfl rfl rfl rfl rfl rfl) (rP rfl (bT tok rfl rfl rfl (by repeat (first | exact kK.z _ | apply kK.t))) (al 4 [ze,zl] tok ?_))
 refine pa ?_
 refine bst tok (nx (aG (sq [0,1,2] ?_)))
 refine rL rfl (aU tok rfl rfl rfl rfl) ?_
 obtain ⟨v13,hv13,h3⟩ := bnd h3
 refine rS rfl (aO 5 (aEj hv13) rfl rfl rfl) (rP rfl (bO rfl) (nx ?_))
 refine bL h3 rfl (fun hc h3 => ?_) (fun hc h3 => ?_)
 refine sq [0] (pa (nx (aD (aS ?_))))
 refine bH ?_
 cases h3
 replace h2 := gG h2
 refine aS ?_
 cases h2
 refine eV ⟨_,rfl,fun e => ?_⟩
 subst e
 refine bH ?_
 replace h0 := gG h0
 refine aS ?_
 cases h0
 exact r0t 2 rfl
 refine sk (sq [0,1,2,3,4,5] (fa tok ?_))
 refine ld tok ?_
 refine pm ?_
 obtain ⟨hq14,h3⟩ := dM h3
 refine rP rfl (uO tok hq14 rfl (.inl ⟨rfl,rfl⟩) (.inr ⟨_,_,rfl,rfl⟩) rfl rfl rfl (fun _ => rfl)) (rP rfl (aN tok rfl rfl rfl) (pm (nx (aK ?_))))
 refine bD (fun s17 => ⟨aE (aE (aE (aE (aE (aE (aE (aE ((fun _ => .dead)) 1 (.ptr 3 0 1 0 0)) 4 (.ptr 4 0 1 0 0)) 20 (dL aL p0.Arbors)) 21 (dI (p0.Arbors.length : Int))) 22 (dI s11)) 33 (dL aL (xS p0.Arbors (0 : Int) s11))) 34 (dI ((xS p0.Arbors (0 : Int) s11).length : Int))) 35 (dI s17),lks [.no, .no, .no, .live [⟨27,2, .av [[dL aL p0.Arbors,(dL bC p0.Meshes)]]⟩], .live [⟨123,2, .av [[dS v12.Name,(dL cI v12.Wheels)]]⟩]]⟩) h3 ?_ (fun s17 y h4 => ?_)
 exact wk [0,1,2,3,4]
 refine sq [0] (rP rfl (bX rfl rfl) (nx (aG ?_)))
 refine bM h4 rfl (fun hc h4 => ?_) (fun hc h4 => ?_)
 refine sk (aG (aK (sq [0,1,2,3] ?_)))
 obtain ⟨v18,hv18,h4⟩ := bnd h4
 refine rP rfl (cV tok hv18 rfl rfl rfl rfl rfl rfl) (rP rfl (bT tok rfl rfl rfl (by repeat (first | exact kK.z _ | apply kK.t))) (al 5 [ze,zl] tok ?_))
 refine bst tok (nx (sq [0,1,2,3,4] ?_))
 refine fa tok ?_
 refine ld tok ?_
 refine fa tok ?_
 refine ld tok ?_
 refine rP rfl (uF rfl rfl) (nx ?_)
 refine bM h4 rfl (fun hc h4 => ?_) (fun hc h4 => ?_)
 refine sq [0] (pa (nx (aD ?_)))
 refine bH (aS ?_)
 cases h4
 refine eV ⟨_,rfl,fun e => ?_⟩
 subst e
 refine bH (bH ?_)
 replace h2 := gG h2
 refine aS ?_
 cases h2
 refine eV ⟨_,rfl,fun e => ?_⟩
 subst e
 refine bH ?_
 replace h0 := gG h0
 refine aS ?_
 cases h0
 exact r0t 2 rfl
 refine cU (bF (aI (sr [0,1] (rP rfl (bI rfl rfl) (pm (bB ?_))))))
 refine cA ?_
 cases h4
 refine ⟨_,rfl,?_⟩
 exact wk [0,1,2,3,4]
 refine bK (bY ?_)
 cases h4
 refine cC ⟨_,rfl,fun e => ?_⟩
 subst e
 refine aY ?_
 refine bF (aI ?_)
 refine ⟨_,rfl,?_⟩
 exact wk [0,1,2,3]
 rintro v19 rfl
 replace h2 := iP h2
 refine sr [0,1] (rP rfl (bI rfl rfl) (pm (bB ?_)))
 refine cA ?_
 cases h2
 refine ⟨_,rfl,?_⟩
 exact wk [0,1,2,3]
 refine bK (bY ?_)
 cases h2
 refine cC ⟨_,rfl,fun e => ?_⟩
 subst e
 refine aY (aI ?_)
 refine ⟨_,rfl,?_⟩
 exact wk [0,1,2,3]
 rintro v20 rfl
 replace h0 := iP h0
 obtain ⟨v33x,h1,h0⟩ := bnd h0
 refine dX v33x (fun v33 => ⟨(fun _ => .dead),lks [.no, .no, .no]⟩) ?_ ?_
 refine sq [0,1,2,3] (fa tok ?_)
 refine ld tok ?_
 refine rP rfl (aN tok rfl rfl rfl) (pm (nx (aK ?_)))
 refine bD (fun s27 => ⟨aE (aE (aE (aE ((fun _ => .dead)) 1 (.ptr 3 0 1 0 0)) 47 (dL bC p0.Meshes)) 48 (dI (p0.Meshes.length : Int))) 49 (dI s27),lks [.no, .no, .no, .live [⟨27,2, .av [[dL aL p0.Arbors,(dL bC p0.Meshes)]]⟩]]⟩) h1 ?_ (fun s27 y h2 => ?_)
 exact wk [0,1,2,3]
 refine sq [0] (rP rfl (bX rfl rfl) (nx (aG ?_)))
 refine bM h2 rfl (fun hc h2 => ?_) (fun hc h2 => ?_)
 refine sk (aG (aK (sq [0,1,2,3,4,5] (pm ?_))))
 obtain ⟨v28,hv28,h2⟩ := bnd h2
 refine rP rfl (cV tok hv28 rfl rfl rfl rfl rfl rfl) (rP rfl (bT tok rfl rfl rfl (by repeat (first | exact kK.z _ | apply kK.t))) (al 4 [z0,z0,z0,z0] tok ?_))
 refine pa ?_
 refine bst tok (nx ?_)
 obtain ⟨v32,h3,h2⟩ := bnd h2
 refine bG ⟨aE (aE (aE (aE (aE ((fun _ => .dead)) 1 (.ptr 3 0 1 0 0)) 47 (dL bC p0.Meshes)) 48 (dI (p0.Meshes.length : Int))) 49 (dI s27)) 65 (dB v32),lks [.no, .no, .no, .live [⟨27,2, .av [[dL aL p0.Arbors,(dL bC p0.Meshes)]]⟩]]⟩ ?_ ?_
 refine sr [0,1,2,3,4,5,6,7,8,9,10,11] (rL rfl (aU tok rfl rfl rfl rfl) (rL rfl (aU tok rfl rfl rfl rfl) ?_))
 obtain ⟨v29,hv29,h3⟩ := bnd h3
 refine rS rfl (aO 5 (aNg hv29) rfl rfl rfl) (rP rfl (bO rfl) (pm ?_))
 refine dH (u := 58) h3 rfl (fun hc h3 => ?_) (fun hc h3 => ?_)
 iterate 6 refine k1 ?_
 refine pkt (nx ?_)
 cases h3
 exact wk [0,1,2,3]
 refine fa1 tok ?_
 refine ld1 tok ?_
 refine pm1 ?_
 obtain ⟨hq30,h3⟩ := dM h3
 refine rp rfl (w1 rfl rfl rfl) rfl (uO tok hq30 rfl (.inl ⟨rfl,rfl⟩) (.inr ⟨_,_,rfl,rfl⟩) rfl rfl rfl (fun _ => rfl)) (rp rfl (w1 rfl rfl rfl) rfl (aPn rfl) ?_)
 obtain ⟨v31,hv31,h3⟩ := bnd h3
 refine rs rfl (w1 rfl rfl rfl) rfl (eE 5 (iJ hv31) rfl rfl) (pkf (nx ?_))
 cases h3
 exact wk [0,1,2,3]
 refine bL h2 rfl (fun hc h2 => ?_) (fun hc h2 => ?_)
 refine sq [0] (pa (nx (aD ?_)))
 refine bH (aS ?_)
 cases h2
 refine eV ⟨_,rfl,fun e => ?_⟩
 subst e
 refine bH ?_
 replace h0 := gG h0
 refine aS ?_
 cases h0
 exact r0t 2 rfl
 refine cU (bF (aI (sr [0,1] (rP rfl (bI rfl rfl) (pm (bB ?_))))))
 refine cA ?_
 cases h2
 refine ⟨_,rfl,?_⟩
 exact wk [0,1,2,3]
 refine bK (bY ?_)
 cases h2
 refine cC ⟨_,rfl,fun e => ?_⟩
 subst e
 refine aY (aI ?_)
 refine ⟨_,rfl,?_⟩
 exact wk [0,1,2]
 rintro v33 rfl
 replace h0 := iP h0
 refine sq [0] (pa (nx (aD ?_)))
 cases h0
 exact r0t 2 rfl
theorem yL {p0 : bP} {p1 : bP} {r : Bool} (h0 : jF p0 p1 = some r) : FnC Tryz.prog 137 [] [.agg [dS p0.Name,(dI p0.Days),(dI p0.Leap)], .ref (aM p1)] [] (dB r) := by
 refine fi 9 tok Tryz.func137 ?_
 unfold jF at h0
 refine sq [0,1] (bxx 3 ?_)
 refine pa (nx (sq [0,1,2,3,4,5] ?_))
 refine fa tok ?_
 refine ld tok ?_
 refine fr tok ?_
 refine lr tok ?_
 refine rP rfl (uF rfl rfl) (pa (nx (aD ?_)))
 cases h0
 exact r0t 3 rfl
theorem gY {p0 : List bP} {p1_0 : bP} {r : Int} (h0 : cR p0 p1_0 = some r) : FnC Tryz.prog 210 [] [dL aM p0, .fn 137 [.ref (aM p1_0)]] [] (dI r) := by
 refine fi 19 tok Tryz.func210 ?_
 unfold cR at h0
 refine sq [0] (pa (nx ?_))
 obtain ⟨v7x,h1,h0⟩ := bnd h0
 refine dX v7x (fun v7 => ⟨(fun _ => .dead),lks [.no, .no, .no]⟩) ?_ ?_
 refine sq [0,1,2] (pm ?_)
 refine rP rfl (aN tok rfl rfl rfl) (pm (nx (aK ?_)))
 refine bD (fun s4 => ⟨aE (aE (aE (aE ((fun _ => .dead)) 0 (dL aM p0)) 1 (.fn 137 [.ref (aM p1_0)])) 7 (dI (p0.length : Int))) 8 (dI s4),lks [.no, .no, .no]⟩) h1 ?_ (fun s4 y h2 => ?_)
 exact wk [0,1,2]
 refine sq [0] (rP rfl (bX rfl rfl) (nx (aG ?_)))
 refine bM h2 rfl (fun hc h2 => ?_) (fun hc h2 => ?_)
 refine sk (aG (aK (sq [0,1] (pm ?_))))
 refine pa (nx (sq [0,1,2,3,4,5] ?_))
 refine rP rfl (aH (r := .fn _ _) rfl) (pm ?_)
 refine pm ?_
 obtain ⟨v5,hv5,h2⟩ := bnd h2
 refine rP rfl (cV tok hv5 rfl rfl rfl rfl rfl rfl) (rP rfl (bT tok rfl rfl rfl (by repeat (first | exact kK.z _ | apply kK.t))) ?_)
 obtain ⟨v6,hv6,h2⟩ := bnd h2
 refine rS rfl (aO 3 (yL hv6) rfl rfl rfl) (nx ?_)
 refine bL h2 rfl (fun hc h2 => ?_) (fun hc h2 => ?_)
 refine sq [0,1] (pm ?_)
 refine pa (nx (aD ?_))
 refine bH (aS ?_)
 cases h2
 refine eV ⟨_,rfl,fun e => ?_⟩
 subst e
 refine bH ?_
 replace h0 := gG h0
 refine aS ?_
 cases h0
 exact r0t 4 rfl
 refine cU (bF (aI (sr [0,1] (rP rfl (bI rfl rfl) (pm (bB ?_))))))
 refine cA ?_
 cases h2
 refine ⟨_,rfl,?_⟩
 exact wk [0,1,2]
 refine bK (bY ?_)
 cases h2
 refine cC ⟨_,rfl,fun e => ?_⟩
 subst e
 refine aY (aI ?_)
 refine ⟨_,rfl,?_⟩
 exact wk [0,1,2]
 rintro v7 rfl
 replace h0 := iP h0
 refine sq [0] (pa (nx (aD ?_)))
 cases h0
 exact r0t 4 rfl
theorem gQ {p0 : List bP} {p1_0 : bP} {r : Bool} (h0 : bW p0 p1_0 = some r) : FnC Tryz.prog 136 [] [dL aM p0, .fn 137 [.ref (aM p1_0)]] [] (dB r) := by
 refine fi 9 tok Tryz.func136 ?_
 unfold bW at h0
 refine sq [0] (pa (nx (sq [0,1,2,3,4] ?_)))
 refine pm ?_
 refine rP rfl (aH (r := .fn _ _) rfl) ?_
 obtain ⟨v1,hv1,h0⟩ := bnd h0
 refine rS rfl (aO 3 (gY hv1) rfl rfl rfl) (rP rfl (tN rfl rfl) (pa (nx (aD ?_))))
 cases h0
 exact r0t 4 rfl
theorem aPr {p0 : Int} {p1 : Int} {r : Int} (h0 : yK p0 p1 = some r) : FnC Tryz.prog 143 [] [dI p0,(dI p1)] [] (dI r) := by
 refine fi 16 tok Tryz.func143 ?_
 unfold yK at h0
 refine sq [0] (pa (nx ?_))
 obtain ⟨v5,h1,h0⟩ := bnd h0
 refine bG ⟨aE ((fun _ => .dead)) 0 (dI v5),lks [.no, .no, .no]⟩ ?_ ?_
 refine aK ?_
 refine bD (fun s3 => ⟨aE (aE ((fun _ => .dead)) 0 (dI s3.1)) 1 (dI s3.2),lks [.no, .no, .no]⟩) h1 ?_ (fun s3 y h2 => ?_)
 exact wk [0,1,2]
 refine aG (sq [0,1] (pm ?_))
 refine rP rfl (fA rfl rfl) (nx ?_)
 refine bM h2 rfl (fun hc h2 => ?_) (fun hc h2 => ?_)
 refine sk (aK (aF (is := [0,1,2,3,4,5]) [0,0,0,6,3,31] follows (by kernel_rfl) ?_))
 iterate 3 refine tpm ?_
 obtain ⟨hq4,h2⟩ := dM h2
 refine tP rfl (fJ rfl rfl hq4) (tpa ?_)
 refine tpa ?_
 refine bE ?_
 refine ⟨by kernel_rfl,?_⟩
 refine bF (cA ?_)
 cases h2
 refine ⟨_,rfl,?_⟩
 exact wk [0,1,2]
 refine bK (bY ?_)
 cases h2
 refine cC ⟨_,rfl,fun e => ?_⟩
 subst e
 refine aY (aI ?_)
 exact wk [0,1,2]
 refine aG (sq [0,1] (pm ?_))
 refine rP rfl (bX rfl rfl) (nx ?_)
 refine bM h0 rfl (fun hc h0 => ?_) (fun hc h0 => ?_)
 refine sq [0,1,2] (pm ?_)
 refine rP rfl (vC rfl) (pa (nx (aD (aS ?_))))
 cases h0
 exact r0t 4 rfl
 refine sk (sq [0,1] (pm ?_))
 refine pa (nx (aD ?_))
 cases h0
 exact r0t 4 rfl
theorem aEw {p0 : List bA} {r : Int} (h0 : lM p0 = some r) : FnC Tryz.prog 138 [] [dL aB p0] [] (dI r) := by
 refine fi 25 tok Tryz.func138 ?_
 unfold lM at h0
 refine sq [0] (pa (nx (sq [0] ?_)))
 refine pa (nx ?_)
 obtain ⟨v11,h1,h0⟩ := bnd h0
 refine bG ⟨aE ((fun _ => .dead)) 3 (dI v11),lks [.no, .no, .no]⟩ ?_ ?_
 refine sq [0,1,2] (pm ?_)
 refine rP rfl (aN tok rfl rfl rfl) (pm (nx (aK ?_)))
 refine bD (fun s6 => ⟨aE (aE (aE (aE ((fun _ => .dead)) 3 (dI s6.1)) 6 (dL aB p0)) 7 (dI (p0.length : Int))) 8 (dI s6.2),lks [.no, .no, .no]⟩) h1 ?_ (fun s6 y h2 => ?_)
 exact wk [0,1,2]
 refine sq [0] (rP rfl (bX rfl rfl) (nx (aG ?_)))
 refine bM h2 rfl (fun hc h2 => ?_) (fun hc h2 => ?_)
 refine sk ?_
 obtain ⟨v10,h3,h2⟩ := bnd h2
 refine bG ⟨aE (aE (aE (aE ((fun _ => .dead)) 3 (dI v10)) 6 (dL aB p0)) 7 (dI (p0.length : Int))) 8 (dI s6.2),lks [.no, .no, .no]⟩ ?_ ?_
 refine aK (sq [0,1,2,3] ?_)
 obtain ⟨v7,hv7,h3⟩ := bnd h3
 refine rP rfl (cV tok hv7 rfl rfl rfl rfl rfl rfl) (rP rfl (bT tok rfl rfl rfl (by repeat (first | exact kK.z _ | apply kK.t))) (al 3 [z0,z0,(dB false)] tok ?_))
 refine bst tok (nx (sq [0,1] ?_))
 refine pm ?_
 refine rP rfl (iW rfl rfl) (nx ?_)
 refine bM h3 rfl (fun hc h3 => ?_) (fun hc h3 => ?_)
 refine aF (is := [0,1,2,3,6,7,4,5,8,9]) [0,0,0,4,14,31,0,64,255,511] follows (by kernel_rfl) (tpm ?_)
 refine tpm ?_
 refine tfa tok ?_
 refine tld tok ?_
 refine tfa tok ?_
 refine tld tok ?_
 obtain ⟨v8,hv8,h3⟩ := bnd h3
 refine jB rfl w0 rfl (cP 4 (aPr hv8) rfl rfl rfl) ?_
 obtain ⟨hq9,h3⟩ := dM h3
 refine tP rfl (kN rfl rfl hq9) (tP rfl (fO rfl rfl) (tpa ?_))
 refine bE ?_
 refine ⟨by kernel_rfl,?_⟩
 refine bF (aI ?_)
 cases h3
 exact wk [0,1,2]
 refine cU (bF (aI ?_))
 cases h3
 exact wk [0,1,2]
 refine sr [0,1] (rP rfl (bI rfl rfl) (pm (bB ?_)))
 refine cA ?_
 cases h2
 refine ⟨_,rfl,?_⟩
 exact wk [0,1,2]
 refine bK (bY ?_)
 cases h2
 refine cC ⟨_,rfl,fun e => ?_⟩
 subst e
 refine aY (aI ?_)
 exact wk [0,1,2]
 refine sq [0,1] (pm ?_)
 refine pa (nx (aD ?_))
 cases h0
 exact r0t 2 rfl
theorem iZ {p0 : aA} {r : Bool} (h0 : eT p0 = some r) : FnC Tryz.prog 60 [] [.agg [dS p0.Name,(dL aM p0.Months),(dL aB p0.Rules),(dI p0.Week)]] [] (dB r) := by
 refine fi 91 tok Tryz.func60 ?_
 unfold eT at h0
 refine sq [0,1] (bxx 3 ?_)
 refine pa (nx (aG ?_))
 obtain ⟨v3,h1,h0⟩ := bnd h0
 refine bG ⟨aE (aE ((fun _ => .dead)) 1 (.ptr 3 0 1 0 0)) 34 (dB v3),lks [.no, .no, .no, .live [⟨31,4, .av [[dS p0.Name,(dL aM p0.Months),(dL aB p0.Rules),(dI p0.Week)]]⟩]]⟩ ?_ ?_
 refine sr [0,1,2,3,4,5,6,7,8,9,10,11,12,13,14,15,16,17,18,19,20,21,22,23,24,25,26,27] (fa tok ?_)
 refine ld tok ?_
 obtain ⟨v1,hv1,h1⟩ := bnd h1
 refine rS rfl (aO 4 (wW hv1) rfl rfl rfl) (rP rfl (bO rfl) (pm ?_))
 refine dH (u := 11) h1 rfl (fun hc h1 => ?_) (fun hc h1 => ?_)
 iterate 4 refine k1 ?_
 refine pkt ?_
 refine pm ?_
 iterate 4 refine k1 ?_
 refine pkt ?_
 refine pm ?_
 iterate 4 refine k1 ?_
 refine pkt ?_
 refine pm ?_
 iterate 4 refine k1 ?_
 refine pkt (nx ?_)
 cases h1
 exact wk [0,1,2,3]
 refine fa1 tok ?_
 refine ld1 tok ?_
 refine rp rfl (w1 rfl rfl rfl) rfl (aN tok rfl rfl rfl) (rp rfl (w1 rfl rfl rfl) rfl (bX rfl rfl) (pkf ?_))
 refine pm ?_
 refine gT (u := 17) h1 rfl (fun hc h1 => ?_) (fun hc h1 => ?_)
 iterate 4 refine k1 ?_
 refine pkt ?_
 refine pm ?_
 iterate 4 refine k1 ?_
 refine pkt ?_
 refine pm ?_
 iterate 4 refine k1 ?_
 refine pkt (nx ?_)
 cases h1
 exact wk [0,1,2,3]
 refine fa1 tok ?_
 refine ld1 tok ?_
 refine rp rfl (w1 rfl rfl rfl) rfl (aN tok rfl rfl rfl) (rp rfl (w1 rfl rfl rfl) rfl (eI rfl rfl) (pkf ?_))
 refine pm ?_
 refine gT (u := 23) h1 rfl (fun hc h1 => ?_) (fun hc h1 => ?_)
 iterate 4 refine k1 ?_
 refine pkt ?_
 refine pm ?_
 iterate 4 refine k1 ?_
 refine pkt (nx ?_)
 cases h1
 exact wk [0,1,2,3]
 refine fa1 tok ?_
 refine ld1 tok ?_
 refine rp rfl (w1 rfl rfl rfl) rfl (aN tok rfl rfl rfl) (rp rfl (w1 rfl rfl rfl) rfl (eI rfl rfl) (pkf ?_))
 refine pm ?_
 refine gT (u := 29) h1 rfl (fun hc h1 => ?_) (fun hc h1 => ?_)
 iterate 4 refine k1 ?_
 refine pkt (nx ?_)
 cases h1
 exact wk [0,1,2,3]
 refine fa1 tok ?_
 refine ld1 tok ?_
 obtain ⟨v2,hv2,h1⟩ := bnd h1
 refine rs rfl (w1 rfl rfl rfl) rfl (aO 4 (dC hv2) rfl rfl rfl) (rp rfl (w1 rfl rfl rfl) rfl (bO rfl) (pkf (nx ?_)))
 cases h1
 exact wk [0,1,2,3]
 refine bL h0 rfl (fun hc h0 => ?_) (fun hc h0 => ?_)
 refine sq [0] (pa (nx (aD (aS ?_))))
 cases h0
 exact r0t 2 rfl
 refine sk ?_
 obtain ⟨v20x,h1,h0⟩ := bnd h0
 refine dX v20x (fun v20 => ⟨aE ((fun _ => .dead)) 1 (.ptr 3 0 1 0 0),lks [.no, .no, .no, .live [⟨31,4, .av [[dS p0.Name,(dL aM p0.Months),(dL aB p0.Rules),(dI p0.Week)]]⟩]]⟩) ?_ ?_
 refine sq [0,1,2,3] (fa tok ?_)
 refine ld tok ?_
 refine rP rfl (aN tok rfl rfl rfl) (pm (nx (aK ?_)))
 refine bD (fun s12 => ⟨aE (aE (aE (aE ((fun _ => .dead)) 1 (.ptr 3 0 1 0 0)) 36 (dL aM p0.Months)) 37 (dI (p0.Months.length : Int))) 38 (dI s12),lks [.no, .no, .no, .live [⟨31,4, .av [[dS p0.Name,(dL aM p0.Months),(dL aB p0.Rules),(dI p0.Week)]]⟩]]⟩) h1 ?_ (fun s12 y h2 => ?_)
 exact wk [0,1,2,3]
 refine sq [0] (rP rfl (bX rfl rfl) (nx (aG ?_)))
 refine bM h2 rfl (fun hc h2 => ?_) (fun hc h2 => ?_)
 refine sk (aG (aK (sq [0,1,2,3,4,5] (pm ?_))))
 obtain ⟨v13,hv13,h2⟩ := bnd h2
 refine rP rfl (cV tok hv13 rfl rfl rfl rfl rfl rfl) (rP rfl (bT tok rfl rfl rfl (by repeat (first | exact kK.z _ | apply kK.t))) (al 4 [ze,z0,z0] tok ?_))
 refine pa ?_
 refine bst tok (nx (aG ?_))
 obtain ⟨v17,h3,h2⟩ := bnd h2
 refine bG ⟨aE (aE (aE (aE (aE (aE (aE ((fun _ => .dead)) 1 (.ptr 3 0 1 0 0)) 3 (dI s12)) 4 (.ptr 4 0 1 0 0)) 36 (dL aM p0.Months)) 37 (dI (p0.Months.length : Int))) 38 (dI s12)) 58 (dB v17),lks [.no, .no, .no, .live [⟨31,4, .av [[dS p0.Name,(dL aM p0.Months),(dL aB p0.Rules),(dI p0.Week)]]⟩], .live [⟨170,3, .av [[dS v13.Name,(dI v13.Days),(dI v13.Leap)]]⟩]]⟩ ?_ ?_
 refine sr [0,1,2,3,4,5,6,7,8,9,10,11,12,13,14,15] (fa tok ?_)
 refine ld tok ?_
 obtain ⟨v14,hv14,h3⟩ := bnd h3
 refine rS rfl (aO 5 (wW hv14) rfl rfl rfl) (rP rfl (bO rfl) (pm ?_))
 refine dH (u := 47) h3 rfl (fun hc h3 => ?_) (fun hc h3 => ?_)
 iterate 4 refine k1 ?_
 refine pkt ?_
 refine pm ?_
 iterate 4 refine k1 ?_
 refine pkt (nx ?_)
 cases h3
 exact wk [0,1,2,3,4]
 refine fa1 tok ?_
 refine ld1 tok ?_
 obtain ⟨v15,hv15,h3⟩ := bnd h3
 refine rs rfl (w1 rfl rfl rfl) rfl (aO 5 (dC hv15) rfl rfl rfl) (rp rfl (w1 rfl rfl rfl) rfl (bO rfl) (pkf ?_))
 refine pm ?_
 refine dH (u := 53) h3 rfl (fun hc h3 => ?_) (fun hc h3 => ?_)
 iterate 4 refine k1 ?_
 refine pkt (nx ?_)
 cases h3
 exact wk [0,1,2,3,4]
 refine fa1 tok ?_
 refine ld1 tok ?_
 obtain ⟨v16,hv16,h3⟩ := bnd h3
 refine rs rfl (w1 rfl rfl rfl) rfl (aO 5 (dC hv16) rfl rfl rfl) (rp rfl (w1 rfl rfl rfl) rfl (bO rfl) (pkf (nx ?_)))
 cases h3
 exact wk [0,1,2,3,4]
 refine bL h2 rfl (fun hc h2 => ?_) (fun hc h2 => ?_)
 refine sq [0] (pa (nx (aD (aS ?_))))
 refine bH (aS ?_)
 cases h2
 refine eV ⟨_,rfl,fun e => ?_⟩
 subst e
 refine bH ?_
 replace h0 := gG h0
 refine aS ?_
 cases h0
 exact r0t 2 rfl
 refine sk (sq [0,1,2,3,4,5] (fa tok ?_))
 refine ld tok ?_
 refine pm ?_
 obtain ⟨hq18,h2⟩ := dM h2
 refine rP rfl (uO tok hq18 rfl (.inl ⟨rfl,rfl⟩) (.inr ⟨_,_,rfl,rfl⟩) rfl rfl rfl (fun _ => rfl)) (rP rfl (aPn rfl) ?_)
 obtain ⟨v19,hv19,h2⟩ := bnd h2
 refine rS rfl (eE 5 (gQ hv19) rfl rfl) (nx ?_)
 refine bL h2 rfl (fun hc h2 => ?_) (fun hc h2 => ?_)
 refine sq [0] (pa (nx (aD ?_)))
 refine bH (aS ?_)
 cases h2
 refine eV ⟨_,rfl,fun e => ?_⟩
 subst e
 refine bH ?_
 replace h0 := gG h0
 refine aS ?_
 cases h0
 exact r0t 2 rfl
 refine cU (bF (aI (sr [0,1] (rP rfl (bI rfl rfl) (pm (bB ?_))))))
 refine cA ?_
 cases h2
 refine ⟨_,rfl,?_⟩
 exact wk [0,1,2,3]
 refine bK (bY ?_)
 cases h2
 refine cC ⟨_,rfl,fun e => ?_⟩
 subst e
 refine aY (aI ?_)
 refine ⟨_,rfl,?_⟩
 exact wk [0,1,2,3]
 rintro v20 rfl
 replace h0 := iP h0
 obtain ⟨v31x,h1,h0⟩ := bnd h0
 refine dX v31x (fun v31 => ⟨aE ((fun _ => .dead)) 1 (.ptr 3 0 1 0 0),lks [.no, .no, .no, .live [⟨31,4, .av [[dS p0.Name,(dL aM p0.Months),(dL aB p0.Rules),(dI p0.Week)]]⟩]]⟩) ?_ ?_
 refine sq [0,1,2,3] (fa tok ?_)
 refine ld tok ?_
 refine rP rfl (aN tok rfl rfl rfl) (pm (nx (aK ?_)))
 refine bD (fun s26 => ⟨aE (aE (aE (aE ((fun _ => .dead)) 1 (.ptr 3 0 1 0 0)) 67 (dL aB p0.Rules)) 68 (dI (p0.Rules.length : Int))) 69 (dI s26),lks [.no, .no, .no, .live [⟨31,4, .av [[dS p0.Name,(dL aM p0.Months),(dL aB p0.Rules),(dI p0.Week)]]⟩]]⟩) h1 ?_ (fun s26 y h2 => ?_)
 exact wk [0,1,2,3]
 refine sq [0] (rP rfl (bX rfl rfl) (nx (aG ?_)))
 refine bM h2 rfl (fun hc h2 => ?_) (fun hc h2 => ?_)
 refine sk (aG (aK (sq [0,1,2,3] ?_)))
 obtain ⟨v27,hv27,h2⟩ := bnd h2
 refine rP rfl (cV tok hv27 rfl rfl rfl rfl rfl rfl) (rP rfl (bT tok rfl rfl rfl (by repeat (first | exact kK.z _ | apply kK.t))) (al 4 [z0,z0,(dB false)] tok ?_))
 refine bst tok (nx ?_)
 obtain ⟨v30,h3,h2⟩ := bnd h2
 refine bG ⟨aE (aE (aE (aE (aE ((fun _ => .dead)) 1 (.ptr 3 0 1 0 0)) 67 (dL aB p0.Rules)) 68 (dI (p0.Rules.length : Int))) 69 (dI s26)) 85 (dB v30),lks [.no, .no, .no, .live [⟨31,4, .av [[dS p0.Name,(dL aM p0.Months),(dL aB p0.Rules),(dI p0.Week)]]⟩]]⟩ ?_ ?_
 refine sr [0,1,2,3,4,5,6,7,8,9,10,11,12] (fa tok ?_)
 refine ld tok ?_
 obtain ⟨v28,hv28,h3⟩ := bnd h3
 refine rS rfl (aO 5 (dC hv28) rfl rfl rfl) (rP rfl (bO rfl) (pm ?_))
 refine dH (u := 77) h3 rfl (fun hc h3 => ?_) (fun hc h3 => ?_)
 iterate 7 refine k1 ?_
 refine pkt (nx ?_)
 cases h3
 exact wk [0,1,2,3]
 refine fa1 tok ?_
 refine ld1 tok ?_
 refine fa1 tok ?_
 refine ld1 tok ?_
 refine rp rfl (w1 rfl rfl rfl) rfl (eM rfl rfl) ?_
 obtain ⟨v29,hv29,h3⟩ := bnd h3
 refine rs rfl (w1 rfl rfl rfl) rfl (aO 5 (dC hv29) rfl rfl rfl) (rp rfl (w1 rfl rfl rfl) rfl (bO rfl) (pkf (nx ?_)))
 cases h3
 exact wk [0,1,2,3]
 refine bL h2 rfl (fun hc h2 => ?_) (fun hc h2 => ?_)
 refine sq [0] (pa (nx (aD ?_)))
 refine bH (aS ?_)
 cases h2
 refine eV ⟨_,rfl,fun e => ?_⟩
 subst e
 refine bH ?_
 replace h0 := gG h0
 refine aS ?_
 cases h0
 exact r0t 2 rfl
 refine cU (bF (aI (sr [0,1] (rP rfl (bI rfl rfl) (pm (bB ?_))))))
 refine cA ?_
 cases h2
 refine ⟨_,rfl,?_⟩
 exact wk [0,1,2,3]
 refine bK (bY ?_)
 cases h2
 refine cC ⟨_,rfl,fun e => ?_⟩
 subst e
 refine aY (aI ?_)
 refine ⟨_,rfl,?_⟩
 exact wk [0,1,2,3]
 rintro v31 rfl
 replace h0 := iP h0
 refine sq [0,1,2,3,4] (fa tok ?_)
 refine ld tok ?_
 obtain ⟨v32,hv32,h0⟩ := bnd h0
 refine rS rfl (aO 4 (aEw hv32) rfl rfl rfl) (rP rfl (iW rfl rfl) (pa (nx (aD ?_))))
 cases h0
 exact r0t 2 rfl
theorem wQ {p0 : List Int} {r : Bool} (h0 : kL p0 = some r) : FnC Tryz.prog 133 [] [dL cI p0] [] (dB r) := by
 refine fi 23 tok Tryz.func133 ?_
 unfold kL at h0
 refine sq [0] (pa (nx ?_))
 obtain ⟨v7x,h1,h0⟩ := bnd h0
 refine dX v7x (fun v7 => ⟨aE ((fun _ => .dead)) 0 (dL cI p0),lks [.no, .no, .no]⟩) ?_ ?_
 refine sq [0,1,2] (pm ?_)
 refine rP rfl (aN tok rfl rfl rfl) (pm (nx (aK ?_)))
 refine bD (fun s4 => ⟨aE (aE (aE (aE ((fun _ => .dead)) 0 (dL cI p0)) 5 (dL cI p0)) 6 (dI (p0.length : Int))) 7 (dI s4),lks [.no, .no, .no]⟩) h1 ?_ (fun s4 y h2 => ?_)
 exact wk [0,1,2]
 refine sq [0] (rP rfl (bX rfl rfl) (nx (aG ?_)))
 refine bM h2 rfl (fun hc h2 => ?_) (fun hc h2 => ?_)
 refine sk (aG (aK (sq [0,1,2] ?_)))
 obtain ⟨v5,hv5,h2⟩ := bnd h2
 refine rP rfl (cV tok hv5 rfl rfl rfl rfl rfl rfl) (lr tok ?_)
 refine pa (nx (sq [0,1,2] ?_))
 refine pm ?_
 obtain ⟨v6,hv6,h2⟩ := bnd h2
 refine rS rfl (aO 3 (dC hv6) rfl rfl rfl) (rP rfl (bO rfl) (nx ?_))
 refine bL h2 rfl (fun hc h2 => ?_) (fun hc h2 => ?_)
 refine sq [0] (pa (nx (aD ?_)))
 refine bH (aS ?_)
 cases h2
 refine eV ⟨_,rfl,fun e => ?_⟩
 subst e
 refine bH ?_
 replace h0 := gG h0
 refine aS ?_
 cases h0
 exact r0t 2 rfl
 refine cU (bF (aI (sr [0,1] (rP rfl (bI rfl rfl) (pm (bB ?_))))))
 refine cA ?_
 cases h2
 refine ⟨_,rfl,?_⟩
 exact wk [0,1,2]
 refine bK (bY ?_)
 cases h2
 refine cC ⟨_,rfl,fun e => ?_⟩
 subst e
 refine aY (aI ?_)
 refine ⟨_,rfl,?_⟩
 exact wk [0,1,2]
 rintro v7 rfl
 replace h0 := iP h0
 refine sq [0,1,2,3,4,5,6,7,8] (pm ?_)
 refine rP rfl (aN tok rfl rfl rfl) (rP rfl (tN rfl rfl) (pm ?_))
 refine gT (u := 18) h0 rfl (fun hc h0 => ?_) (fun hc h0 => ?_)
 refine pm1 ?_
 refine rp rfl (w1 rfl rfl rfl) rfl (aN tok rfl rfl rfl) (rp rfl (w1 rfl rfl rfl) rfl (iW rfl rfl) (pkt ?_))
 refine pa (nx (aD ?_))
 cases h0
 exact r0t 2 rfl
 iterate 3 refine k1 ?_
 refine pkf ?_
 refine pa (nx (aD ?_))
 cases h0
 exact r0t 2 rfl
theorem tG {p0 : aX} {r : Bool} (h0 : gO p0 = some r) : FnC Tryz.prog 74 [] [.agg [dS p0.Name,(dL aL p0.Works.Arbors),(dL bC p0.Works.Meshes),(dI p0.Minute),(dI p0.Hour),(dI p0.Escape),(dI p0.Teeth),(dI p0.Beats),(dS p0.Calendar.Name),(dL aM p0.Calendar.Months),(dL aB p0.Calendar.Rules),(dI p0.Calendar.Week),(dL cI p0.Cam),(dI p0.Strike)]] [] (dB r) := by
 refine fi 61 tok Tryz.func74 ?_
 unfold gO at h0
 refine sq [0,1] (bxx 3 ?_)
 refine pa (nx ?_)
 obtain ⟨v4,h1,h0⟩ := bnd h0
 refine bG ⟨aE (aE ((fun _ => .dead)) 1 (.ptr 3 0 1 0 0)) 3 (dB v4),lks [.no, .no, .no, .live [⟨34,14, .av [[dS p0.Name,(dL aL p0.Works.Arbors),(dL bC p0.Works.Meshes),(dI p0.Minute),(dI p0.Hour),(dI p0.Escape),(dI p0.Teeth),(dI p0.Beats),(dS p0.Calendar.Name),(dL aM p0.Calendar.Months),(dL aB p0.Calendar.Rules),(dI p0.Calendar.Week),(dL cI p0.Cam),(dI p0.Strike)]]⟩]]⟩ ?_ ?_
 refine sr [0,1,2,3,4,5,6,7,8,9,10,11,12,13,14,15,16,17,18,19] (fa tok ?_)
 refine rL rfl (aU tok rfl rfl rfl rfl) (fa tok ?_)
 refine ld tok ?_
 obtain ⟨v1,hv1,h1⟩ := bnd h1
 refine rS rfl (aO 4 (yS hv1) rfl rfl rfl) (pm ?_)
 refine dH (u := 10) h1 rfl (fun hc h1 => ?_) (fun hc h1 => ?_)
 refine fa1 tok ?_
 refine rl rfl (w1 rfl rfl rfl) rfl (aU tok rfl rfl rfl rfl) (fa1 tok ?_)
 refine ld1 tok ?_
 obtain ⟨v2,hv2,h1⟩ := bnd h1
 refine rs rfl (w1 rfl rfl rfl) rfl (aO 4 (yS hv2) rfl rfl rfl) (pkt ?_)
 refine pm ?_
 refine dH (u := 17) h1 rfl (fun hc h1 => ?_) (fun hc h1 => ?_)
 refine fa1 tok ?_
 refine rl rfl (w1 rfl rfl rfl) rfl (aU tok rfl rfl rfl rfl) (fa1 tok ?_)
 refine ld1 tok ?_
 obtain ⟨v3,hv3,h1⟩ := bnd h1
 refine rs rfl (w1 rfl rfl rfl) rfl (aO 4 (yS hv3) rfl rfl rfl) (pkt ?_)
 refine pa (nx ?_)
 cases h1
 exact wk [0,1,2,3]
 iterate 5 refine k1 ?_
 refine pkf ?_
 refine pa (nx ?_)
 cases h1
 exact wk [0,1,2,3]
 iterate 5 refine k1 ?_
 refine pkf ?_
 refine pm ?_
 iterate 5 refine k1 ?_
 refine pkf ?_
 refine pa (nx ?_)
 cases h1
 exact wk [0,1,2,3]
 obtain ⟨v8,h1,h0⟩ := bnd h0
 refine bG ⟨aE (aE (aE ((fun _ => .dead)) 1 (.ptr 3 0 1 0 0)) 3 (dB v4)) 4 (dB v8),lks [.no, .no, .no, .live [⟨34,14, .av [[dS p0.Name,(dL aL p0.Works.Arbors),(dL bC p0.Works.Meshes),(dI p0.Minute),(dI p0.Hour),(dI p0.Escape),(dI p0.Teeth),(dI p0.Beats),(dS p0.Calendar.Name),(dL aM p0.Calendar.Months),(dL aB p0.Calendar.Rules),(dI p0.Calendar.Week),(dL cI p0.Cam),(dI p0.Strike)]]⟩]]⟩ ?_ ?_
 refine sr [0,1,2,3,4,5,6,7,8,9,10,11,12,13] (fa tok ?_)
 refine ld tok ?_
 obtain ⟨v5,hv5,h1⟩ := bnd h1
 refine rS rfl (aO 4 (aD6 hv5) rfl rfl rfl) (pm ?_)
 refine dH (u := 27) h1 rfl (fun hc h1 => ?_) (fun hc h1 => ?_)
 refine fa1 tok ?_
 refine ld1 tok ?_
 obtain ⟨v6,hv6,h1⟩ := bnd h1
 refine rs rfl (w1 rfl rfl rfl) rfl (aO 4 (dC hv6) rfl rfl rfl) (pkt ?_)
 refine pm ?_
 refine dH (u := 32) h1 rfl (fun hc h1 => ?_) (fun hc h1 => ?_)
 refine fa1 tok ?_
 refine ld1 tok ?_
 obtain ⟨v7,hv7,h1⟩ := bnd h1
 refine rs rfl (w1 rfl rfl rfl) rfl (aO 4 (dC hv7) rfl rfl rfl) (pkt ?_)
 refine pa (nx ?_)
 cases h1
 exact wk [0,1,2,3]
 iterate 3 refine k1 ?_
 refine pkf ?_
 refine pa (nx ?_)
 cases h1
 exact wk [0,1,2,3]
 iterate 3 refine k1 ?_
 refine pkf ?_
 refine pm ?_
 iterate 3 refine k1 ?_
 refine pkf ?_
 refine pa (nx ?_)
 cases h1
 exact wk [0,1,2,3]
 refine sq [0,1,2,3,4,5,6,7,8,9,10,11,12,13,14,15,16,17,18,19,20,21,22,23,24] (pm ?_)
 refine pm ?_
 refine dH (u := 38) h0 rfl (fun hc h0 => ?_) (fun hc h0 => ?_)
 refine pm1 ?_
 refine pkt ?_
 refine pm ?_
 refine dH (u := 41) h0 rfl (fun hc h0 => ?_) (fun hc h0 => ?_)
 refine fa1 tok ?_
 refine ld1 tok ?_
 obtain ⟨v9,hv9,h0⟩ := bnd h0
 refine rs rfl (w1 rfl rfl rfl) rfl (aO 4 (wW hv9) rfl rfl rfl) (pkt ?_)
 refine pm ?_
 refine dH (u := 46) h0 rfl (fun hc h0 => ?_) (fun hc h0 => ?_)
 refine fa1 tok ?_
 refine rl rfl (w1 rfl rfl rfl) rfl (aU tok rfl rfl rfl rfl) ?_
 obtain ⟨v10,hv10,h0⟩ := bnd h0
 refine rs rfl (w1 rfl rfl rfl) rfl (aO 4 (yC hv10) rfl rfl rfl) (pkt ?_)
 refine pm ?_
 refine dH (u := 51) h0 rfl (fun hc h0 => ?_) (fun hc h0 => ?_)
 refine fa1 tok ?_
 refine rl rfl (w1 rfl rfl rfl) rfl (aU tok rfl rfl rfl rfl) ?_
 obtain ⟨v11,hv11,h0⟩ := bnd h0
 refine rs rfl (w1 rfl rfl rfl) rfl (aO 4 (iZ hv11) rfl rfl rfl) (pkt ?_)
 refine pm ?_
 refine dH (u := 56) h0 rfl (fun hc h0 => ?_) (fun hc h0 => ?_)
 refine fa1 tok ?_
 refine ld1 tok ?_
 obtain ⟨v12,hv12,h0⟩ := bnd h0
 refine rs rfl (w1 rfl rfl rfl) rfl (aO 4 (wQ hv12) rfl rfl rfl) (pkt ?_)
 refine pa (nx (aD ?_))
 cases h0
 exact r0t 2 rfl
 iterate 3 refine k1 ?_
 refine pkf ?_
 refine pa (nx (aD ?_))
 cases h0
 exact r0t 2 rfl
 iterate 3 refine k1 ?_
 refine pkf ?_
 refine pm ?_
 iterate 3 refine k1 ?_
 refine pkf ?_
 refine pa (nx (aD ?_))
 cases h0
 exact r0t 2 rfl
 iterate 3 refine k1 ?_
 refine pkf ?_
 refine pm ?_
 iterate 3 refine k1 ?_
 refine pkf ?_
 refine pm ?_
 iterate 3 refine k1 ?_
 refine pkf ?_
 refine pa (nx (aD ?_))
 cases h0
 exact r0t 2 rfl
 iterate 3 refine k1 ?_
 refine pkf ?_
 refine pm ?_
 iterate 3 refine k1 ?_
 refine pkf ?_
 refine pm ?_
 iterate 3 refine k1 ?_
 refine pkf ?_
 refine pm ?_
 iterate 3 refine k1 ?_
 refine pkf ?_
 refine pa (nx (aD ?_))
 cases h0
 exact r0t 2 rfl
 refine k1 ?_
 refine pkf ?_
 refine pm ?_
 iterate 3 refine k1 ?_
 refine pkf ?_
 refine pm ?_
 iterate 3 refine k1 ?_
 refine pkf ?_
 refine pm ?_
 iterate 3 refine k1 ?_
 refine pkf ?_
 refine pm ?_
 iterate 3 refine k1 ?_
 refine pkf ?_
 refine pa (nx (aD ?_))
 cases h0
 exact r0t 2 rfl
theorem aE9 {p0 : bJ} {p1 : cH} {r : dW} (h0 : mT p0 p1 = some r) : FnC Tryz.prog 158 [] [.agg [dL aL p0.Arbors,(dL bC p0.Meshes)], .agg [dI p1.A,(dI p1.WheelA),(dI p1.B),(dI p1.WheelB)]] [] (.agg [dI r.Driver,(dI r.Driven)]) := by
 refine fi 28 tok Tryz.func158 ?_
 unfold mT at h0
 refine sq [0,1,2] (bxx 3 ?_)
 refine bxx 4 ?_
 refine al 5 [z0,z0] tok (nx (aG ?_))
 refine aF (is := [0,1,2,3,4,5,6,7,8,9,10,11,12,13,14,15,16,17,18,19,20,21,22,23]) [0,1,0,4,15,31,63,0,128,511,1023,0,2048,0,8192,30720,63488,129024,0,262144,1046528,2095104,4194303,8388607] follows (by kernel_rfl) (tfa tok ?_)
 refine tld tok ?_
 refine tfa tok ?_
 refine tld tok ?_
 obtain ⟨v1,hv1,h0⟩ := bnd h0
 refine tP rfl (cV tok hv1 rfl rfl rfl rfl rfl rfl) (tfr tok ?_)
 refine tlr tok ?_
 refine tfa tok ?_
 refine tld tok ?_
 obtain ⟨v2,hv2,h0⟩ := bnd h0
 refine tP rfl (cV tok hv2 rfl rfl rfl rfl rfl rfl) (tlr tok ?_)
 refine tfa tok ?_
 refine tld tok ?_
 refine tfa tok ?_
 refine tld tok ?_
 obtain ⟨v3,hv3,h0⟩ := bnd h0
 refine tP rfl (cV tok hv3 rfl rfl rfl rfl rfl rfl) (tfr tok ?_)
 refine tlr tok ?_
 refine tfa tok ?_
 refine tld tok ?_
 obtain ⟨v4,hv4,h0⟩ := bnd h0
 refine tP rfl (cV tok hv4 rfl rfl rfl rfl rfl rfl) (tlr tok ?_)
 refine tP rfl (pbl (C0 := [z0,z0]) tok rfl rfl rfl) (iK rfl w0 (fQ (cs := _ :: _) tok rfl rfl rfl rfl rfl rfl rfl) (bE ?_))
 refine ⟨by kernel_rfl,?_⟩
 refine aI (aD ?_)
 cases h0
 exact fN (rs := [.cell 4 121]) rfl
theorem zT {p0 : Int} {r : Int} (h0 : lD p0 = some r) : FnC Tryz.prog 214 [] [dI p0] [] (.d (.v (.int .u64 r))) := by
 refine fi 10 tok Tryz.func214 ?_
 unfold lD at h0
 refine sq [0] (pa (nx (aG (sq [0,1] ?_))))
 refine pm ?_
 refine rP rfl (bX rfl rfl) (nx ?_)
 refine bM h0 rfl (fun hc h0 => ?_) (fun hc h0 => ?_)
 refine sq [0,1,2,3] (pm ?_)
 refine rP rfl (aKu tok rfl rfl rfl rfl rfl) (rP rfl (aO8 rfl) (pa (nx (aD (aS ?_)))))
 cases h0
 exact r0t 2 rfl
 refine sk (sq [0,1,2] (pm ?_))
 refine rP rfl (aKu tok rfl rfl rfl rfl rfl) (pa (nx (aD ?_)))
 cases h0
 exact r0t 2 rfl
theorem aKk {p0 : Int} {p1 : Int} {r : aJ × Bool} (h0 : rF p0 p1 = some r) : FnC Tryz.prog 145 [] [dI p0,(dI p1)] [] (.tup [.agg [dI r.1.Num,(dI r.1.Den)],(dB r.2)]) := by
 refine fi 51 tok Tryz.func145 ?_
 unfold rF at h0
 refine sq [0,1] (al 3 [z0,z0] tok ?_)
 refine pa (nx (sq [0,1,2,3,4,5] ?_))
 refine pm ?_
 obtain ⟨v1,hv1,h0⟩ := bnd h0
 refine rS rfl (aO 4 (zT hv1) rfl rfl rfl) (pm ?_)
 obtain ⟨v2,hv2,h0⟩ := bnd h0
 refine rS rfl (aO 4 (zT hv2) rfl rfl rfl) (pa ?_)
 refine pa (nx (sq [0,1,2,3] ?_))
 refine pm ?_
 refine pm ?_
 refine pa ?_
 refine pa (nx ?_)
 obtain ⟨v7,h1,h0⟩ := bnd h0
 refine bG ⟨aE (aE (aE (aE (aE (aE ((fun _ => .dead)) 0 (dI p0)) 1 (dI p1)) 4 (.ptr 3 0 1 0 0)) 6 (.d (.v (.int .u64 v1)))) 7 (.d (.v (.int .u64 v2)))) 8 (.d (.v (.int .u64 v7))),lks [.no, .no, .no, .live [⟨62,2, .av [[z0,z0]]⟩]]⟩ ?_ ?_
 refine aK ?_
 refine bD (fun s5 => ⟨aE (aE (aE (aE (aE (aE (aE ((fun _ => .dead)) 0 (dI p0)) 1 (dI p1)) 4 (.ptr 3 0 1 0 0)) 6 (.d (.v (.int .u64 v1)))) 7 (.d (.v (.int .u64 v2)))) 8 (.d (.v (.int .u64 s5.1)))) 9 (.d (.v (.int .u64 s5.2))),lks [.no, .no, .no, .live [⟨62,2, .av [[z0,z0]]⟩]]⟩) h1 ?_ (fun s5 y h2 => ?_)
 exact wk [0,1,2,3]
 refine aG (sq [0,1] (pm ?_))
 refine rP rfl (fA rfl rfl) (nx ?_)
 refine bM h2 rfl (fun hc h2 => ?_) (fun hc h2 => ?_)
 refine sk (aK (aF (is := [0,1,2,3,4,5]) [0,0,0,6,3,31] follows (by kernel_rfl) ?_))
 iterate 3 refine tpm ?_
 obtain ⟨hq6,h2⟩ := dM h2
 refine tP rfl (fJ rfl rfl hq6) (tpa ?_)
 refine tpa ?_
 refine bE ?_
 refine ⟨by kernel_rfl,?_⟩
 refine bF (cA ?_)
 cases h2
 refine ⟨_,rfl,?_⟩
 exact wk [0,1,2,3]
 refine bK (bY ?_)
 cases h2
 refine cC ⟨_,rfl,fun e => ?_⟩
 subst e
 refine aY (aI ?_)
 exact wk [0,1,2,3]
 refine aG (aF (is := [0,1,2,3,4,5,6,7]) [0,0,3,0,0,24,7,127] follows (by kernel_rfl) (tpm ?_))
 refine tpm ?_
 obtain ⟨hq8,h0⟩ := dM h0
 refine tP rfl (aD8 rfl rfl hq8) (tpm ?_)
 refine tpm ?_
 obtain ⟨hq9,h0⟩ := dM h0
 refine tP rfl (aD8 rfl rfl hq9) (tpa ?_)
 refine tpa ?_
 refine bE ?_
 refine ⟨by kernel_rfl,?_⟩
 refine aI (aG ?_)
 obtain ⟨v10,h1,h0⟩ := bnd h0
 refine bG ⟨aE (aE (aE (aE (aE (aE ((fun _ => .dead)) 0 (dI p0)) 1 (dI p1)) 4 (.ptr 3 0 1 0 0)) 6 (.d (.v (.int .u64 (IntKind.u64.wrap (v1.tdiv v7)))))) 7 (.d (.v (.int .u64 (IntKind.u64.wrap (v2.tdiv v7)))))) 34 (dB v10),lks [.no, .no, .no, .live [⟨62,2, .av [[z0,z0]]⟩]]⟩ ?_ ?_
 refine sr [0,1,2,3,4,5] (pm ?_)
 refine rP rfl (eI rfl rfl) (pm ?_)
 refine gT (u := 31) h1 rfl (fun hc h1 => ?_) (fun hc h1 => ?_)
 refine k1 ?_
 refine k1 ?_
 refine pkt (nx ?_)
 cases h1
 exact wk [0,1,2,3]
 refine pm1 ?_
 refine rp rfl (w1 rfl rfl rfl) rfl (eI rfl rfl) (pkf (nx ?_))
 cases h1
 exact wk [0,1,2,3]
 refine bL h0 rfl (fun hc h0 => ?_) (fun hc h0 => ?_)
 refine sq [0,1,2] (rP rfl (pbl (C0 := [z0,z0]) tok rfl rfl rfl) (bst tok ?_))
 refine pa (nx (aD (aS ?_)))
 cases h0
 exact fN (rs := [.cell 4 62, .tmp 5]) rfl
 refine sk (sq [0,1,2,3,4,5,6] (pm ?_))
 refine rP rfl (aMa tok rfl rfl rfl rfl rfl) (pm ?_)
 refine rP rfl (aMa tok rfl rfl rfl rfl rfl) (rP rfl (pbl (C0 := [z0,z0]) tok rfl rfl rfl) (al 4 [z0,z0] tok ?_))
 refine bst tok (nx ?_)
 obtain ⟨v11,h1,h0⟩ := bnd h0
 refine bG ⟨aE (aE ((fun _ => .dead)) 4 (.ptr 3 0 1 0 0)) 10 (.ptr 4 0 1 0 0),lks [.no, .no, .no, .live [⟨62,2, .av [[z0,z0]]⟩], .live [⟨62,2, .av [[dI v11.Num,(dI v11.Den)]]⟩]]⟩ ?_ ?_
 refine sq [0,1,2,3,4] (pm ?_)
 refine rP rfl (bX rfl rfl) (pm ?_)
 refine rP rfl (bX rfl rfl) (rP rfl (aNz tok rfl rfl rfl rfl) (nx ?_))
 refine bL h1 rfl (fun hc h1 => ?_) (fun hc h1 => ?_)
 refine sr [0,1,2,3,4] (fa tok ?_)
 refine ld tok ?_
 refine rP rfl (vC rfl) (fa tok ?_)
 refine bs1 tok (nx ?_)
 cases h1
 exact wk [0,1,2,3,4]
 refine sk ?_
 cases h1
 exact wk [0,1,2,3,4]
 refine sq [0,1,2] (rL rfl (aU tok rfl rfl rfl rfl) (bst tok ?_))
 refine pa (nx (aD ?_))
 cases h0
 exact fN (rs := [.cell 4 62, .tmp 5]) rfl
theorem yU {p0 : Int} {p1 : Int} {r : aJ × Int} (h0 : kY p0 p1 = some r) : FnC Tryz.prog 68 [] [dI p0,(dI p1)] [] (.tup [.agg [dI r.1.Num,(dI r.1.Den)],(dI r.2)]) := by
 refine fi 21 tok Tryz.func68 ?_
 unfold kY at h0
 refine sq [0,1] (al 3 [z0,z0] tok ?_)
 refine pa (nx (aG (sq [0,1] ?_)))
 refine pm ?_
 refine rP rfl (eN rfl rfl) (nx ?_)
 refine bM h0 rfl (fun hc h0 => ?_) (fun hc h0 => ?_)
 refine sq [0,1,2] (rP rfl (pbl (C0 := [z0,z0]) tok rfl rfl rfl) (bst tok ?_))
 refine pa (nx (aD (aS ?_)))
 cases h0
 exact fN (rs := [.cell 4 62, .tmp 5]) rfl
 refine sk (sq [0,1,2,3,4,5,6,7,8] (pm ?_))
 refine pm ?_
 obtain ⟨v1,hv1,h0⟩ := bnd h0
 refine rS rfl (aO 4 (aKk hv1) rfl rfl rfl) (rP rfl (aH (r := .tup _) rfl) (rP rfl (aQ rfl rfl) (rP rfl (aQ rfl rfl) (al 4 [z0,z0] tok ?_))))
 refine bst tok ?_
 refine pa (nx (aG (sq [0,1] ?_)))
 refine pm ?_
 refine rP rfl (bO rfl) (nx ?_)
 refine bL h0 rfl (fun hc h0 => ?_) (fun hc h0 => ?_)
 refine sq [0,1,2] (rP rfl (pbl (C0 := [z0,z0]) tok rfl rfl rfl) (bst tok ?_))
 refine pa (nx (aD (aS ?_)))
 cases h0
 exact fN (rs := [.cell 4 62, .tmp 5]) rfl
 refine sk (sq [0,1,2] (rL rfl (aU tok rfl rfl rfl rfl) (bst tok ?_)))
 refine pa (nx (aD ?_))
 cases h0
 exact fN (rs := [.cell 4 62, .tmp 5]) rfl
theorem xV {p0 : aJ} {r : Bool} (h0 : jX p0 = some r) : FnC Tryz.prog 152 [] [.agg [dI p0.Num,(dI p0.Den)]] [] (dB r) := by
 refine fi 19 tok Tryz.func152 ?_
 unfold jX at h0
 refine sq [0,1] (bxx 3 ?_)
 refine pa (nx (sq [0,1,2,3,4,5,6,7,8,9,10,11,12,13,14,15,16] ?_))
 refine fa tok ?_
 refine ld tok ?_
 obtain ⟨v1,hv1,h0⟩ := bnd h0
 refine rS rfl (aO 4 (dC hv1) rfl rfl rfl) (pm ?_)
 refine dH (u := 6) h0 rfl (fun hc h0 => ?_) (fun hc h0 => ?_)
 refine fa1 tok ?_
 refine ld1 tok ?_
 obtain ⟨v2,hv2,h0⟩ := bnd h0
 refine rs rfl (w1 rfl rfl rfl) rfl (aO 4 (dC hv2) rfl rfl rfl) (pkt ?_)
 refine pm ?_
 refine dH (u := 11) h0 rfl (fun hc h0 => ?_) (fun hc h0 => ?_)
 refine fa1 tok ?_
 refine ld1 tok ?_
 refine fa1 tok ?_
 refine ld1 tok ?_
 obtain ⟨v3,hv3,h0⟩ := bnd h0
 refine rs rfl (w1 rfl rfl rfl) rfl (aO 4 (aPr hv3) rfl rfl rfl) (rp rfl (w1 rfl rfl rfl) rfl (eN rfl rfl) (pkt ?_))
 refine pa (nx (aD ?_))
 cases h0
 exact r0t 2 rfl
 iterate 6 refine k1 ?_
 refine pkf ?_
 refine pa (nx (aD ?_))
 cases h0
 exact r0t 2 rfl
 iterate 3 refine k1 ?_
 refine pkf ?_
 refine pm ?_
 iterate 6 refine k1 ?_
 refine pkf ?_
 refine pa (nx (aD ?_))
 cases h0
 exact r0t 2 rfl
theorem aIu {p0 : aJ} {p1 : aJ} {r : aJ × Int} (h0 : pN p0 p1 = some r) : FnC Tryz.prog 71 [] [.agg [dI p0.Num,(dI p0.Den)], .agg [dI p1.Num,(dI p1.Den)]] [] (.tup [.agg [dI r.1.Num,(dI r.1.Den)],(dI r.2)]) := by
 refine fi 28 tok Tryz.func71 ?_
 unfold pN at h0
 refine sq [0,1,2,3] (bxx 3 ?_)
 refine bxx 4 ?_
 refine al 5 [z0,z0] tok ?_
 refine pa (nx (aG ?_))
 obtain ⟨v3,h1,h0⟩ := bnd h0
 refine bG ⟨aE (aE (aE (aE ((fun _ => .dead)) 2 (.ptr 3 0 1 0 0)) 3 (.ptr 4 0 1 0 0)) 4 (.ptr 5 0 1 0 0)) 13 (dB v3),lks [.no, .no, .no, .live [⟨62,2, .av [[dI p0.Num,(dI p0.Den)]]⟩], .live [⟨62,2, .av [[dI p1.Num,(dI p1.Den)]]⟩], .live [⟨62,2, .av [[z0,z0]]⟩]]⟩ ?_ ?_
 refine sr [0,1,2,3,4,5,6,7] (rL rfl (aU tok rfl rfl rfl rfl) ?_)
 obtain ⟨v1,hv1,h1⟩ := bnd h1
 refine rS rfl (aO 6 (xV hv1) rfl rfl rfl) (rP rfl (bO rfl) (pm ?_))
 refine dH (u := 9) h1 rfl (fun hc h1 => ?_) (fun hc h1 => ?_)
 iterate 3 refine k1 ?_
 refine pkt (nx ?_)
 cases h1
 exact wk [0,1,2,3,4,5]
 refine rl rfl (w1 rfl rfl rfl) rfl (aU tok rfl rfl rfl rfl) ?_
 obtain ⟨v2,hv2,h1⟩ := bnd h1
 refine rs rfl (w1 rfl rfl rfl) rfl (aO 6 (xV hv2) rfl rfl rfl) (rp rfl (w1 rfl rfl rfl) rfl (bO rfl) (pkf (nx ?_)))
 cases h1
 exact wk [0,1,2,3,4,5]
 refine bL h0 rfl (fun hc h0 => ?_) (fun hc h0 => ?_)
 refine sq [0,1,2] (rP rfl (pbl (C0 := [z0,z0]) tok rfl rfl rfl) (bst tok ?_))
 refine pa (nx (aD (aS ?_)))
 cases h0
 exact fN (rs := [.cell 4 62, .tmp 5]) rfl
 refine sk (sq [0,1,2,3,4,5,6,7,8,9,10,11,12,13,14] (fa tok ?_))
 refine ld tok ?_
 refine fa tok ?_
 refine ld tok ?_
 refine rP rfl (fO rfl rfl) (fa tok ?_)
 refine ld tok ?_
 refine fa tok ?_
 refine ld tok ?_
 refine rP rfl (fO rfl rfl) ?_
 obtain ⟨v4,hv4,h0⟩ := bnd h0
 refine rS rfl (aO 6 (yU hv4) rfl rfl rfl) (rP rfl (aQ rfl rfl) (rP rfl (aQ rfl rfl) (bst tok ?_)))
 refine pa (nx (aD ?_))
 cases h0
 exact fN (rs := [.cell 4 62, .tmp 5]) rfl
theorem aE2 {p0 : aJ} {p1 : Int} {p2 : Int} {r : aJ × Int} (h0 : mR p0 p1 p2 = some r) : FnC Tryz.prog 159 [] [.agg [dI p0.Num,(dI p0.Den)],(dI p1),(dI p2)] [] (.tup [.agg [dI r.1.Num,(dI r.1.Den)],(dI r.2)]) := by
 refine fi 22 tok Tryz.func159 ?_
 unfold mR at h0
 refine sq [0,1,2] (bxx 3 ?_)
 refine al 4 [z0,z0] tok ?_
 refine pa (nx (sq [0,1,2,3,4,5,6,7,8,9] ?_))
 refine pm ?_
 refine rP rfl (vC rfl) (pm ?_)
 obtain ⟨v1,hv1,h0⟩ := bnd h0
 refine rS rfl (aO 5 (yU hv1) rfl rfl rfl) (rP rfl (aH (r := .tup _) rfl) (rP rfl (aQ rfl rfl) (rP rfl (aQ rfl rfl) (al 5 [z0,z0] tok ?_))))
 refine bst tok ?_
 refine pa (nx (sq [0,1,2,3,4,5,6] ?_))
 refine rL rfl (aU tok rfl rfl rfl rfl) (rL rfl (aU tok rfl rfl rfl rfl) ?_)
 obtain ⟨v2,hv2,h0⟩ := bnd h0
 refine rS rfl (aO 6 (aIu hv2) rfl rfl rfl) (rP rfl (aQ rfl rfl) (rP rfl (aQ rfl rfl) (bst tok ?_)))
 refine pa (nx (aD ?_))
 cases h0
 exact fN (rs := [.cell 6 62, .tmp 7]) rfl
theorem aEh {p0 : bJ} {p1 : Int} {r : List aJ × Int} (h0 : lN p0 p1 = some r) : FnC Tryz.prog 155 [] [.agg [dL aL p0.Arbors,(dL bC p0.Meshes)],(dI p1)] [.live [⟨62,2, .data (List.map eZ r.1)⟩]] (.tup [.own 0 0 r.1.length,(dI r.2)]) := by
 refine fi 86 tok Tryz.func155 ?_
 unfold lN at h0
 refine sq [0,1,2] (bxx 3 ?_)
 refine pa ?_
 refine pa (nx (sq [0,1,2,3,4] ?_))
 refine fa tok ?_
 refine ld tok ?_
 refine rP rfl (aN tok rfl rfl rfl) ?_
 obtain ⟨hq1,h0⟩ := dM h0
 refine rS rfl (aNx 4 tok (c := eZ) (⟨0,0⟩ : aJ) hq1 rfl rfl rfl rfl rfl rfl rfl rfl rfl rfl rfl rfl rfl) (rP rfl (aR (r := .own _ _ _) rfl) (nx (sq [0,1,2,3,4] (rP rfl (aH (r := .own _ _ _) rfl) (pm ?_)))))
 refine rP rfl (pbl (C0 := [z0,z0]) tok rfl rfl rfl) ?_
 obtain ⟨v2,hv2,h0⟩ := bnd h0
 refine rL rfl (lI tok hv2 rfl rfl rfl rfl rfl rfl rfl rfl) (rw0 rfl w0 (aJh (cs := _ :: _) tok (⟨1,1⟩ : aJ) (iY hv2).2.1 rfl rfl rfl rfl rfl rfl rfl rfl) (nx ?_))
 obtain ⟨v53x,h1,h0⟩ := bnd h0
 refine dX v53x (fun v53 => ⟨aE ((fun _ => .dead)) 6 (.own 3 0 (v53).length),lks [.no, .no, .no, .live [⟨62,2, .data (List.map eZ v53)⟩]]⟩) ?_ ?_
 refine sq [0] (pa (nx (aK ?_)))
 refine bD (fun s28 => ⟨aE (aE (aE ((fun _ => .dead)) 2 (.ptr 3 0 1 0 0)) 6 (.own 4 0 (s28.2).length)) 7 (dB s28.1),lks [.no, .no, .no, .live [⟨27,2, .av [[dL aL p0.Arbors,(dL bC p0.Meshes)]]⟩], .live [⟨62,2, .data (List.map eZ s28.2)⟩]]⟩) h1 ?_ (fun s28 y h2 => ?_)
 exact wk [0,1,2,3,4]
 refine aG (sq [0] (pm (nx ?_)))
 refine bL h2 rfl (fun hc h2 => ?_) (fun hc h2 => ?_)
 refine sk (aK (sq [0] (pa (nx (sq [0,1,2,3] ?_)))))
 refine fa tok ?_
 refine ld tok ?_
 refine rP rfl (aN tok rfl rfl rfl) (pm (nx (aK ?_)))
 refine bD (fun s41 => ⟨aE (aE (aE (aE (aE (aE ((fun _ => .dead)) 2 (.ptr 3 0 1 0 0)) 6 (.own 4 0 (s41.2.2).length)) 7 (dB s41.1)) 25 (dL bC p0.Meshes)) 26 (dI (p0.Meshes.length : Int))) 27 (dI s41.2.1),lks [.no, .no, .no, .live [⟨27,2, .av [[dL aL p0.Arbors,(dL bC p0.Meshes)]]⟩], .live [⟨62,2, .data (List.map eZ s41.2.2)⟩]]⟩) h2 ?_ (fun s41 y h3 => ?_)
 exact wk [0,1,2,3,4]
 refine sq [0] (rP rfl (bX rfl rfl) (nx (aG ?_)))
 refine bM h3 rfl (fun hc h3 => ?_) (fun hc h3 => ?_)
 refine sk ?_
 obtain ⟨v52x,h4,h3⟩ := bnd h3
 refine dX v52x (fun v52 => ⟨aE (aE (aE (aE (aE (aE ((fun _ => .dead)) 2 (.ptr 3 0 1 0 0)) 6 (.own 4 0 (v52.2).length)) 7 (dB v52.1)) 25 (dL bC p0.Meshes)) 26 (dI (p0.Meshes.length : Int))) 27 (dI s41.2.1),lks [.no, .no, .no, .live [⟨27,2, .av [[dL aL p0.Arbors,(dL bC p0.Meshes)]]⟩], .live [⟨62,2, .data (List.map eZ v52.2)⟩]]⟩) ?_ ?_
 refine aK (sq [0,1,2,3] ?_)
 obtain ⟨v42,hv42,h4⟩ := bnd h4
 refine rP rfl (cV tok hv42 rfl rfl rfl rfl rfl rfl) (rP rfl (bT tok rfl rfl rfl (by repeat (first | exact kK.z _ | apply kK.t))) (al 5 [z0,z0,z0,z0] tok ?_))
 refine bst tok (nx (sq [0,1,2,3,4] ?_))
 refine rL rfl (aU tok rfl rfl rfl rfl) (rL rfl (aU tok rfl rfl rfl rfl) ?_)
 obtain ⟨v43,hv43,h4⟩ := bnd h4
 refine rS rfl (aO 6 (aE9 hv43) rfl rfl rfl) (al 6 [z0,z0] tok ?_)
 refine bst tok (nx (aG ?_))
 refine aF (is := [0,1,2,3,4,5]) [0,1,0,4,3,31] follows (by kernel_rfl) (tfa tok ?_)
 refine tld tok ?_
 refine tfa tok ?_
 refine tld tok ?_
 refine tpa ?_
 refine tpa ?_
 refine bE ?_
 refine ⟨by kernel_rfl,?_⟩
 refine aI ?_
 obtain ⟨v45,h5,h4⟩ := bnd h4
 refine bG ⟨aE (aE (aE (aE (aE (aE (aE (aE (aE ((fun _ => .dead)) 2 (.ptr 3 0 1 0 0)) 6 (.own 4 0 (s41.2.2).length)) 7 (dB s41.1)) 10 (.ptr 5 0 1 0 0)) 11 (dI v45.1)) 12 (dI v45.2.1)) 25 (dL bC p0.Meshes)) 26 (dI (p0.Meshes.length : Int))) 27 (dI s41.2.1),lks [.no, .no, .no, .live [⟨27,2, .av [[dL aL p0.Arbors,(dL bC p0.Meshes)]]⟩], .live [⟨62,2, .data (List.map eZ s41.2.2)⟩], .live [⟨121,2, .av [[dI v45.2.2.Driver,(dI v45.2.2.Driven)]]⟩]]⟩ ?_ ?_
 refine sq [0,1,2,3,4,5] (rP rfl (aH (r := .own _ _ _) rfl) (pm ?_))
 obtain ⟨v44,hv44,h5⟩ := bnd h5
 refine rL rfl (lI tok hv44 rfl rfl rfl rfl rfl rfl rfl rfl) (rL rfl (aQ9 tok (iY hv44).2.1 rfl rfl rfl rfl rfl rfl rfl rfl) (rL rfl (nY tok (iY hv44).2.1 rfl rfl rfl rfl rfl rfl) (rP rfl (eN rfl rfl) (nx ?_))))
 refine bM h5 rfl (fun hc h5 => ?_) (fun hc h5 => ?_)
 refine sq [0,1,2,3] (pm ?_)
 refine pm ?_
 refine pa ?_
 refine pa (nx (sr [0,1,2,3,4,5] ?_))
 refine fa tok ?_
 refine ld tok ?_
 refine fa tok ?_
 refine ld tok ?_
 refine rP rfl (pbl (C0 := [z0,z0]) tok rfl rfl rfl) (bst tok (nx ?_))
 cases h5
 exact wk [0,1,2,3,4,6]
 refine sk ?_
 cases h5
 exact wk [0,1,2,3,4,6]
 refine aG ?_
 obtain ⟨v48,h5,h4⟩ := bnd h4
 refine bG ⟨aE (aE (aE (aE (aE (aE (aE (aE (aE (aE ((fun _ => .dead)) 2 (.ptr 3 0 1 0 0)) 6 (.own 4 0 (s41.2.2).length)) 7 (dB s41.1)) 10 (.ptr 5 0 1 0 0)) 11 (dI v45.1)) 12 (dI v45.2.1)) 25 (dL bC p0.Meshes)) 26 (dI (p0.Meshes.length : Int))) 27 (dI s41.2.1)) 64 (dB v48),lks [.no, .no, .no, .live [⟨27,2, .av [[dL aL p0.Arbors,(dL bC p0.Meshes)]]⟩], .live [⟨62,2, .data (List.map eZ s41.2.2)⟩], .live [⟨121,2, .av [[dI v45.2.2.Driver,(dI v45.2.2.Driven)]]⟩]]⟩ ?_ ?_
 refine sr [0,1,2,3,4,5,6,7,8,9,10,11,12,13] (rP rfl (aH (r := .own _ _ _) rfl) (pm ?_))
 obtain ⟨v46,hv46,h5⟩ := bnd h5
 refine rL rfl (lI tok hv46 rfl rfl rfl rfl rfl rfl rfl rfl) (rL rfl (aQ9 tok (iY hv46).2.1 rfl rfl rfl rfl rfl rfl rfl rfl) (rL rfl (nY tok (iY hv46).2.1 rfl rfl rfl rfl rfl rfl) (rP rfl (eN rfl rfl) (pm ?_))))
 refine gT (u := 57) h5 rfl (fun hc h5 => ?_) (fun hc h5 => ?_)
 iterate 6 refine k1 ?_
 refine pkt (nx ?_)
 cases h5
 exact wk [0,1,2,3,4,5]
 refine rp rfl (w1 rfl rfl rfl) rfl (aH (r := .own _ _ _) rfl) (pm1 ?_)
 obtain ⟨v47,hv47,h5⟩ := bnd h5
 refine rl rfl (w1 rfl rfl rfl) rfl (lI tok hv47 rfl rfl rfl rfl rfl rfl rfl rfl) (rl rfl (w1 rfl rfl rfl) rfl (aQ9 tok (iY hv47).2.1 rfl rfl rfl rfl rfl rfl rfl rfl) (rl rfl (w1 rfl rfl rfl) rfl (nY tok (iY hv47).2.1 rfl rfl rfl rfl rfl rfl) (rp rfl (w1 rfl rfl rfl) rfl (fA rfl rfl) (pkf (nx ?_)))))
 cases h5
 exact wk [0,1,2,3,4,5]
 refine bL h4 rfl (fun hc h4 => ?_) (fun hc h4 => ?_)
 refine bK (bY (aY (aI ?_)))
 cases h4
 refine ⟨_,rfl,?_⟩
 exact wk [0,1,2,3,4]
 refine sk (aG (aF (is := [0,1,2,3,4,5,6,7,8,9,10,11,12,13,14]) [0,0,3,7,0,16,0,64,255,511,1023,1023,0,6143,16383] follows (by kernel_rfl) (tP rfl (aH (r := .own _ _ _) rfl) (tpm ?_))))
 obtain ⟨v49,hv49,h4⟩ := bnd h4
 refine bS rfl w0 rfl (lI tok hv49 rfl rfl rfl rfl rfl rfl rfl rfl) rfl rfl rfl (bS rfl w0 rfl (aBq tok (iY hv49).2.1 rfl rfl rfl rfl rfl) rfl rfl rfl (tfa tok ?_))
 refine tld tok ?_
 refine tfa tok ?_
 refine tld tok ?_
 obtain ⟨v50,hv50,h4⟩ := bnd h4
 refine jB rfl w0 rfl (cP 7 (aE2 hv50) rfl rfl rfl) (tP rfl (aH (r := .tup _) rfl) (tP rfl (aQ rfl rfl) (tP rfl (aQ rfl rfl) (aBa rfl w0 rfl rfl (fun hx hk => jJ 6 (cs := [z0,z0]) tok rfl rfl hk) (iK rfl w0 (fQ (cs := _ :: _) tok rfl rfl rfl rfl rfl rfl rfl) (tpa ?_))))))
 refine bE ?_
 refine ⟨by kernel_rfl,?_⟩
 refine aI (aG (sq [0,1] (pm ?_)))
 refine rP rfl (fA rfl rfl) (nx ?_)
 refine bM h4 rfl (fun hc h4 => ?_) (fun hc h4 => ?_)
 refine sq [0,1,2] (pm ?_)
 refine pa ?_
 refine pa (nx ?_)
 refine cJ (dD 7 rfl 62 2 (d := 4) rfl) (aD (aS (bH ?_)))
 cases h4
 replace h3 := gG h3
 refine aS ?_
 cases h3
 refine eV ⟨_,rfl,fun e => ?_⟩
 subst e
 refine bH (bH ?_)
 refine eV ⟨_,rfl,fun e => ?_⟩
 subst e
 refine bH ?_
 replace h0 := gG h0
 refine aS ?_
 cases h0
 exact dJ (rs := [.tmp 4, .tmp 5]) [7] rfl
 refine sk (sq [0,1,2,3,4] (rP rfl (aH (r := .own _ _ _) rfl) (pm ?_)))
 refine rL rfl (aU tok rfl rfl rfl rfl) ?_
 obtain ⟨v51,hv51,h4⟩ := bnd h4
 refine rL rfl (lI tok hv51 rfl rfl rfl rfl rfl rfl rfl rfl) (rw0 rfl w0 (aJh (cs := _ :: _) tok v50.1 (iY hv51).2.1 rfl rfl rfl rfl rfl rfl rfl rfl) (nx (sr [0] (pa (bB ?_)))))
 refine bF (aI ?_)
 cases h4
 refine ⟨_,rfl,?_⟩
 exact wk [0,1,2,3,4]
 rintro v52 rfl
 replace h3 := iP h3
 refine sr [0,1] (rP rfl (bI rfl rfl) (pm (bB ?_)))
 refine cA ?_
 cases h3
 refine ⟨_,rfl,?_⟩
 exact wk [0,1,2,3,4]
 refine bK (bY ?_)
 cases h3
 refine cC ⟨_,rfl,fun e => ?_⟩
 subst e
 refine aY ?_
 refine bF (cA ?_)
 refine ⟨_,rfl,?_⟩
 exact wk [0,1,2,3,4]
 refine bK (bY ?_)
 cases h2
 refine cC ⟨_,rfl,fun e => ?_⟩
 subst e
 refine aY (aI ?_)
 refine ⟨_,rfl,?_⟩
 exact wk [0,1,2,4]
 rintro v53 rfl
 replace h0 := iP h0
 refine sq [0,1,2] (rP rfl (aH (r := .own _ _ _) rfl) (rP rfl (aR (r := .own _ _ _) rfl) (pa (nx (aD ?_)))))
 cases h0
 exact dJ (rs := [.tmp 4, .tmp 5]) [3] rfl
theorem aEe {p0 : aJ} {r : Bool} (h0 : oY p0 = some r) : FnC Tryz.prog 157 [] [.agg [dI p0.Num,(dI p0.Den)]] [] (dB r) := by
 refine fi 6 tok Tryz.func157 ?_
 unfold oY at h0
 refine sq [0,1] (bxx 3 ?_)
 refine pa (nx (sq [0,1,2,3] ?_))
 refine fa tok ?_
 refine ld tok ?_
 refine rP rfl (eN rfl rfl) (pa (nx (aD ?_)))
 cases h0
 exact r0t 2 rfl
theorem jC {p0 : List aJ} {r : Int} (h0 : dE p0 = some r) : FnC Tryz.prog 232 [] [dL eZ p0, .fn 157 []] [] (dI r) := by
 refine fi 19 tok Tryz.func232 ?_
 unfold dE at h0
 refine sq [0] (pa (nx ?_))
 obtain ⟨v7x,h1,h0⟩ := bnd h0
 refine dX v7x (fun v7 => ⟨(fun _ => .dead),lks [.no, .no, .no]⟩) ?_ ?_
 refine sq [0,1,2] (pm ?_)
 refine rP rfl (aN tok rfl rfl rfl) (pm (nx (aK ?_)))
 refine bD (fun s4 => ⟨aE (aE (aE (aE ((fun _ => .dead)) 0 (dL eZ p0)) 1 (.fn 157 [])) 7 (dI (p0.length : Int))) 8 (dI s4),lks [.no, .no, .no]⟩) h1 ?_ (fun s4 y h2 => ?_)
 exact wk [0,1,2]
 refine sq [0] (rP rfl (bX rfl rfl) (nx (aG ?_)))
 refine bM h2 rfl (fun hc h2 => ?_) (fun hc h2 => ?_)
 refine sk (aG (aK (sq [0,1] (pm ?_))))
 refine pa (nx (sq [0,1,2,3,4,5] ?_))
 refine rP rfl (aH (r := .fn _ _) rfl) (pm ?_)
 refine pm ?_
 obtain ⟨v5,hv5,h2⟩ := bnd h2
 refine rP rfl (cV tok hv5 rfl rfl rfl rfl rfl rfl) (rP rfl (bT tok rfl rfl rfl (by repeat (first | exact kK.z _ | apply kK.t))) ?_)
 obtain ⟨v6,hv6,h2⟩ := bnd h2
 refine rS rfl (aO 3 (aEe hv6) rfl rfl rfl) (nx ?_)
 refine bL h2 rfl (fun hc h2 => ?_) (fun hc h2 => ?_)
 refine sq [0,1] (pm ?_)
 refine pa (nx (aD ?_))
 refine bH (aS ?_)
 cases h2
 refine eV ⟨_,rfl,fun e => ?_⟩
 subst e
 refine bH ?_
 replace h0 := gG h0
 refine aS ?_
 cases h0
 exact r0t 4 rfl
 refine cU (bF (aI (sr [0,1] (rP rfl (bI rfl rfl) (pm (bB ?_))))))
 refine cA ?_
 cases h2
 refine ⟨_,rfl,?_⟩
 exact wk [0,1,2]
 refine bK (bY ?_)
 cases h2
 refine cC ⟨_,rfl,fun e => ?_⟩
 subst e
 refine aY (aI ?_)
 refine ⟨_,rfl,?_⟩
 exact wk [0,1,2]
 rintro v7 rfl
 replace h0 := iP h0
 refine sq [0] (pa (nx (aD ?_)))
 cases h0
 exact r0t 4 rfl
theorem iH {p0 : List aJ} {r : Bool} (h0 : cD p0 = some r) : FnC Tryz.prog 156 [] [dL eZ p0, .fn 157 []] [] (dB r) := by
 refine fi 9 tok Tryz.func156 ?_
 unfold cD at h0
 refine sq [0] (pa (nx (sq [0,1,2,3,4] ?_)))
 refine pm ?_
 refine rP rfl (aH (r := .fn _ _) rfl) ?_
 obtain ⟨v1,hv1,h0⟩ := bnd h0
 refine rS rfl (aO 3 (jC hv1) rfl rfl rfl) (rP rfl (tN rfl rfl) (pa (nx (aD ?_))))
 cases h0
 exact r0t 4 rfl
theorem aH6 {p0 : bJ} {p1 : Int} {r : List aJ × Int} (h0 : pS p0 p1 = some r) : FnC Tryz.prog 75 [] [.agg [dL aL p0.Arbors,(dL bC p0.Meshes)],(dI p1)] [.live [⟨62,2, .data (List.map eZ r.1)⟩]] (.tup [.own 0 0 r.1.length,(dI r.2)]) := by
 refine fi 70 tok Tryz.func75 ?_
 unfold pS at h0
 refine sq [0,1,2] (bxx 3 ?_)
 refine pa ?_
 refine pa (nx (aG (sq [0,1,2] ?_)))
 refine rL rfl (aU tok rfl rfl rfl rfl) ?_
 obtain ⟨v1,hv1,h0⟩ := bnd h0
 refine rS rfl (aO 4 (yC hv1) rfl rfl rfl) (rP rfl (bO rfl) (nx ?_))
 refine bL h0 rfl (fun hc h0 => ?_) (fun hc h0 => ?_)
 refine sq [0,1] (pa ?_)
 refine pa (nx ?_)
 refine cJ (dD 4 rfl 62 2 (d := 4) rfl) (aD (aS ?_))
 cases h0
 exact dJ (rs := [.tmp 4, .tmp 5]) [4] rfl
 refine sk (aG (sq [0,1,2,3,4,5,6] (pm ?_)))
 refine fa tok ?_
 refine ld tok ?_
 refine rP rfl (aN tok rfl rfl rfl) (rP rfl (eM rfl rfl) ?_)
 obtain ⟨v2,hv2,h0⟩ := bnd h0
 refine rS rfl (aO 4 (dC hv2) rfl rfl rfl) (rP rfl (bO rfl) (nx ?_))
 refine bL h0 rfl (fun hc h0 => ?_) (fun hc h0 => ?_)
 refine sq [0,1] (pa ?_)
 refine pa (nx ?_)
 refine cJ (dD 4 rfl 62 2 (d := 4) rfl) (aD (aS ?_))
 cases h0
 exact dJ (rs := [.tmp 4, .tmp 5]) [4] rfl
 refine sk (sq [0,1,2,3,4,5,6,7] (rL rfl (aU tok rfl rfl rfl rfl) (pm ?_)))
 obtain ⟨v3,hv3,h0⟩ := bnd h0
 refine rS rfl (aO 4 (aEh hv3) rfl rfl rfl) (rP rfl (aH (r := .tup _) rfl) (rP rfl (aQ rfl rfl) (rP rfl (aQ rfl rfl) (rP rfl (aR (r := .own _ _ _) rfl) (pa (nx (aG (sq [0,1] ?_))))))))
 refine pm ?_
 refine rP rfl (fA rfl rfl) (nx ?_)
 refine bM h0 rfl (fun hc h0 => ?_) (fun hc h0 => ?_)
 refine sq [0,1,2] (pm ?_)
 refine pa ?_
 refine pa (nx ?_)
 refine cJ (dD 5 rfl 62 2 (d := 4) rfl) (aD (aS ?_))
 cases h0
 exact dJ (rs := [.tmp 4, .tmp 5]) [5] rfl
 refine sk (aG (sq [0,1] (rP rfl (aH (r := .own _ _ _) rfl) ?_)))
 obtain ⟨v4,hv4,h0⟩ := bnd h0
 refine rS rfl (eE 5 (iH hv4) rfl rfl) (nx ?_)
 refine bL h0 rfl (fun hc h0 => ?_) (fun hc h0 => ?_)
 refine sq [0,1] (pa ?_)
 refine pa (nx ?_)
 refine cJ (dD 5 rfl 62 2 (d := 4) rfl) (aD (aS ?_))
 cases h0
 exact dJ (rs := [.tmp 4, .tmp 5]) [5] rfl
 refine sk ?_
 obtain ⟨v19x,h1,h0⟩ := bnd h0
 refine dX v19x (fun v19 => ⟨aE ((fun _ => .dead)) 6 (.own 3 0 (v3.1).length),lks [.no, .no, .no, .live [⟨62,2, .data (List.map eZ v3.1)⟩]]⟩) ?_ ?_
 refine sq [0,1,2,3] (fa tok ?_)
 refine ld tok ?_
 refine rP rfl (aN tok rfl rfl rfl) (pm (nx (aK ?_)))
 refine bD (fun s12 => ⟨aE (aE (aE (aE (aE ((fun _ => .dead)) 2 (.ptr 3 0 1 0 0)) 6 (.own 4 0 (v3.1).length)) 35 (dL bC p0.Meshes)) 36 (dI (p0.Meshes.length : Int))) 37 (dI s12),lks [.no, .no, .no, .live [⟨27,2, .av [[dL aL p0.Arbors,(dL bC p0.Meshes)]]⟩], .live [⟨62,2, .data (List.map eZ v3.1)⟩]]⟩) h1 ?_ (fun s12 y h2 => ?_)
 exact wk [0,1,2,3,4]
 refine sq [0] (rP rfl (bX rfl rfl) (nx (aG ?_)))
 refine bM h2 rfl (fun hc h2 => ?_) (fun hc h2 => ?_)
 refine sk (aG (aK (sq [0,1,2,3] ?_)))
 obtain ⟨v13,hv13,h2⟩ := bnd h2
 refine rP rfl (cV tok hv13 rfl rfl rfl rfl rfl rfl) (rP rfl (bT tok rfl rfl rfl (by repeat (first | exact kK.z _ | apply kK.t))) (al 5 [z0,z0,z0,z0] tok ?_))
 refine bst tok (nx (sq [0,1,2,3,4] ?_))
 refine rL rfl (aU tok rfl rfl rfl rfl) (rL rfl (aU tok rfl rfl rfl rfl) ?_)
 obtain ⟨v14,hv14,h2⟩ := bnd h2
 refine rS rfl (aO 6 (aE9 hv14) rfl rfl rfl) (al 6 [z0,z0] tok ?_)
 refine bst tok (nx (aG ?_))
 refine aF (is := [0,1,2,3,4,5,6,7,8,9,10,11,12,13,14,15]) [0,0,2,7,15,0,32,0,128,511,1023,2047,2047,0,12287,32767] follows (by kernel_rfl) (tP rfl (aH (r := .own _ _ _) rfl) (tfa tok ?_))
 refine tld tok ?_
 obtain ⟨v15,hv15,h2⟩ := bnd h2
 refine bS rfl w0 rfl (lI tok hv15 rfl rfl rfl rfl rfl rfl rfl rfl) rfl rfl rfl (bS rfl w0 rfl (aBq tok (iY hv15).2.1 rfl rfl rfl rfl rfl) rfl rfl rfl (tfa tok ?_))
 refine tld tok ?_
 refine tfa tok ?_
 refine tld tok ?_
 obtain ⟨v16,hv16,h2⟩ := bnd h2
 refine jB rfl w0 rfl (cP 8 (aE2 hv16) rfl rfl rfl) (tP rfl (aH (r := .tup _) rfl) (tP rfl (aQ rfl rfl) (tP rfl (aQ rfl rfl) (aBa rfl w0 rfl rfl (fun hx hk => jJ 7 (cs := [z0,z0]) tok rfl rfl hk) (iK rfl w0 (fQ (cs := _ :: _) tok rfl rfl rfl rfl rfl rfl rfl) (tpa ?_))))))
 refine bE ?_
 refine ⟨by kernel_rfl,?_⟩
 refine aI ?_
 obtain ⟨v18,h3,h2⟩ := bnd h2
 refine bG ⟨aE (aE (aE (aE (aE (aE ((fun _ => .dead)) 2 (.ptr 3 0 1 0 0)) 6 (.own 4 0 (v3.1).length)) 35 (dL bC p0.Meshes)) 36 (dI (p0.Meshes.length : Int))) 37 (dI s12)) 67 (dB v18),lks [.no, .no, .no, .live [⟨27,2, .av [[dL aL p0.Arbors,(dL bC p0.Meshes)]]⟩], .live [⟨62,2, .data (List.map eZ v3.1)⟩]]⟩ ?_ ?_
 refine aF (is := [0,1,2,3,4,5,6,7,8,9,10]) [0,1,3,7,7,7,39,119,247,511,1023] follows (by kernel_rfl) (tpm ?_)
 refine tP rfl (fA rfl rfl) (tpm ?_)
 refine aEs (u := 59) h3 rfl (fun hc h3 => ?_) (fun hc h3 => ?_)
 iterate 7 refine k2 ?_
 refine vG ?_
 refine bE ?_
 refine ⟨by kernel_rfl,?_⟩
 refine aI ?_
 cases h3
 exact wk [0,1,2,3,4]
 refine bS rfl (w1 rfl rfl rfl) rfl (aU tok rfl rfl rfl rfl) rfl rfl rfl (qJ rfl (w1 rfl rfl rfl) rfl (aH (r := .own _ _ _) rfl) (bS rfl (w1 rfl rfl rfl) rfl (uL tok rfl rfl rfl rfl rfl rfl rfl) rfl rfl rfl (bS rfl (w1 rfl rfl rfl) rfl (nG tok rfl rfl rfl rfl rfl) rfl rfl rfl ?_)))
 obtain ⟨v17,hv17,h3⟩ := bnd h3
 refine bS rfl (w1 rfl rfl rfl) rfl (lI tok hv17 rfl rfl rfl rfl rfl rfl rfl rfl) rfl rfl rfl (bS rfl (w1 rfl rfl rfl) rfl (aBq tok (iY hv17).2.1 rfl rfl rfl rfl rfl) rfl rfl rfl (qJ rfl (w1 rfl rfl rfl) rfl (uN (a := v16.1) (b := v17) rfl rfl) (tA ?_)))
 refine bE ?_
 refine ⟨by kernel_rfl,?_⟩
 refine aI ?_
 cases h3
 exact wk [0,1,2,3,4]
 refine bL h2 rfl (fun hc h2 => ?_) (fun hc h2 => ?_)
 refine sq [0,1] (pa ?_)
 refine pa (nx ?_)
 refine cJ (dD 5 rfl 62 2 (d := 4) rfl) (aD (bH (aS ?_)))
 cases h2
 refine eV ⟨_,rfl,fun e => ?_⟩
 subst e
 refine bH ?_
 replace h0 := gG h0
 refine aS ?_
 cases h0
 exact dJ (rs := [.tmp 4, .tmp 5]) [5] rfl
 refine cU (bF (aI (sr [0,1] (rP rfl (bI rfl rfl) (pm (bB ?_))))))
 refine cA ?_
 cases h2
 refine ⟨_,rfl,?_⟩
 exact wk [0,1,2,3,4]
 refine bK (bY ?_)
 cases h2
 refine cC ⟨_,rfl,fun e => ?_⟩
 subst e
 refine aY (aI ?_)
 refine ⟨_,rfl,?_⟩
 exact wk [0,1,2,4]
 rintro v19 rfl
 replace h0 := iP h0
 refine sq [0,1,2] (rP rfl (aH (r := .own _ _ _) rfl) (rP rfl (aR (r := .own _ _ _) rfl) (pa (nx (aD ?_)))))
 cases h0
 exact dJ (rs := [.tmp 4, .tmp 5]) [3] rfl
theorem aSq {p0 : Int} {r : Int} (h0 : aDf p0 = some r) : FnC Tryz.prog 78 [] [dI p0] [] (dI r) := by
 refine fi 8 tok Tryz.func78 ?_
 unfold aDf at h0
 refine sq [0] (pa (nx (aG (sq [0,1] ?_))))
 refine pm ?_
 refine rP rfl (bX rfl rfl) (nx ?_)
 refine bM h0 rfl (fun hc h0 => ?_) (fun hc h0 => ?_)
 refine sq [0,1,2] (pm ?_)
 refine rP rfl (vC rfl) (pa (nx (aD (aS ?_))))
 cases h0
 exact r0t 2 rfl
 refine sk (sq [0,1] (pm ?_))
 refine pa (nx (aD ?_))
 cases h0
 exact r0t 2 rfl
theorem uW {p0 : aA} {p1 : List Int} {r : Int} (h0 : jI p0 p1 = some r) : FnC Tryz.prog 79 [] [.agg [dS p0.Name,(dL aM p0.Months),(dL aB p0.Rules),(dI p0.Week)],(dL cI p1)] [] (dI r) := by
 refine fi 18 tok Tryz.func79 ?_
 unfold jI at h0
 refine sq [0,1] (bxx 3 ?_)
 refine pa (nx (aG (sq [0,1,2,3,4,5,6] ?_)))
 refine pm ?_
 refine rP rfl (aN tok rfl rfl rfl) (fa tok ?_)
 refine ld tok ?_
 refine rP rfl (aN tok rfl rfl rfl) ?_
 obtain ⟨hq1,h0⟩ := dM h0
 refine rP rfl (fJ rfl rfl hq1) (rP rfl (fA rfl rfl) (nx ?_))
 refine bM h0 rfl (fun hc h0 => ?_) (fun hc h0 => ?_)
 refine sq [0] (pa (nx (aD (aS ?_))))
 cases h0
 exact r0t 4 rfl
 refine sk (sq [0,1,2,3,4,5,6] (pm ?_))
 refine rP rfl (aN tok rfl rfl rfl) (fa tok ?_)
 refine ld tok ?_
 refine rP rfl (aN tok rfl rfl rfl) ?_
 obtain ⟨hq2,h0⟩ := dM h0
 refine rP rfl (kN rfl rfl hq2) (pa (nx (aD ?_)))
 cases h0
 exact r0t 4 rfl
theorem yZ {p0 : aX} {r : List ByteArray} (h0 : iD p0 = some r) : FnC Tryz.prog 25 [] [.agg [dS p0.Name,(dL aL p0.Works.Arbors),(dL bC p0.Works.Meshes),(dI p0.Minute),(dI p0.Hour),(dI p0.Escape),(dI p0.Teeth),(dI p0.Beats),(dS p0.Calendar.Name),(dL aM p0.Calendar.Months),(dL aB p0.Calendar.Rules),(dI p0.Calendar.Week),(dL cI p0.Cam),(dI p0.Strike)]] [.live [⟨9,1, .data (List.map cS r)⟩]] (.own 0 0 r.length) := by
 refine fi 65 tok Tryz.func25 ?_
 unfold iD at h0
 refine sq [0,1] (bxx 3 ?_)
 refine pa (nx (aG (sq [0,1,2] ?_)))
 refine rL rfl (aU tok rfl rfl rfl rfl) ?_
 obtain ⟨v1,hv1,h0⟩ := bnd h0
 refine rS rfl (aO 4 (tG hv1) rfl rfl rfl) (rP rfl (bO rfl) (nx ?_))
 refine bL h0 rfl (fun hc h0 => ?_) (fun hc h0 => ?_)
 refine sq [0,1] (rS rfl (vE 4 tok cS [(⟨#[109,111,118,101,109,101,110,116]⟩ : ByteArray)] rfl rfl rfl (by repeat (first | exact Els.nil _ | apply Els.cons (cs := [.d _]) rfl rfl rfl | apply Els.cons (cs := _ :: _) rfl rfl rfl)) rfl rfl rfl (by repeat (first | exact cX.nil | (apply cX.cons; (repeat (first | exact fZ.nil | apply fZ.cons))))) rfl rfl) (rP rfl (aR (r := .own _ _ _) rfl) (nx (aD (aS ?_)))))
 cases h0
 exact dJ (rs := [.tmp 2]) [4] rfl
 refine sk (sq [0] (pa (nx (sq [0,1,2,3,4,5,6,7,8,9] ?_))))
 refine fa tok ?_
 refine rL rfl (aU tok rfl rfl rfl rfl) (fa tok ?_)
 refine ld tok ?_
 obtain ⟨v2,hv2,h0⟩ := bnd h0
 refine rS rfl (aO 4 (aH6 hv2) rfl rfl rfl) (rP rfl (aH (r := .tup _) rfl) (rP rfl (aQ rfl rfl) (rP rfl (aQ rfl rfl) (rP rfl (aR (r := .own _ _ _) rfl) (pa (nx ?_))))))
 obtain ⟨v10,h1,h0⟩ := bnd h0
 refine bG ⟨aE (aE ((fun _ => .dead)) 1 (.ptr 3 0 1 0 0)) 3 (.own 4 0 (v10).length),lks [.no, .no, .no, .live [⟨34,14, .av [[dS p0.Name,(dL aL p0.Works.Arbors),(dL bC p0.Works.Meshes),(dI p0.Minute),(dI p0.Hour),(dI p0.Escape),(dI p0.Teeth),(dI p0.Beats),(dS p0.Calendar.Name),(dL aM p0.Calendar.Months),(dL aB p0.Calendar.Rules),(dI p0.Calendar.Week),(dL cI p0.Cam),(dI p0.Strike)]]⟩], .live [⟨9,1, .data (List.map cS v10)⟩]]⟩ ?_ ?_
 refine sq [0,1] (pm ?_)
 refine rP rfl (fA rfl rfl) (nx ?_)
 refine bM h1 rfl (fun hc h1 => ?_) (fun hc h1 => ?_)
 refine sr [0,1,2,3] (pm ?_)
 refine rS rfl (iL tok cS [(⟨#[119,111,114,107,115]⟩ : ByteArray)] rfl rfl rfl (by repeat (first | exact Els.nil _ | apply Els.cons (cs := [.d _]) rfl rfl rfl | apply Els.cons (cs := _ :: _) rfl rfl rfl)) rfl rfl rfl (by repeat (first | exact cX.nil | (apply cX.cons; (repeat (first | exact fZ.nil | apply fZ.cons))))) rfl) ?_
 obtain ⟨hq3,h1⟩ := dM h1
 refine rS rfl (aRt 5 tok hq3 rfl rfl rfl rfl rfl rfl rfl rfl rfl rfl (fun _ => rfl)) (rP rfl (aR (r := .own _ _ _) rfl) (nx ?_))
 cases h1
 exact wk [0,1,2,3,5]
 obtain ⟨v6,h2,h1⟩ := bnd h1
 refine bG ⟨aE (aE (aE ((fun _ => .dead)) 1 (.ptr 3 0 1 0 0)) 3 (.own 4 0 (v6).length)) 4 (.own 5 0 (v2.1).length),lks [.no, .no, .no, .live [⟨34,14, .av [[dS p0.Name,(dL aL p0.Works.Arbors),(dL bC p0.Works.Meshes),(dI p0.Minute),(dI p0.Hour),(dI p0.Escape),(dI p0.Teeth),(dI p0.Beats),(dS p0.Calendar.Name),(dL aM p0.Calendar.Months),(dL aB p0.Calendar.Rules),(dI p0.Calendar.Week),(dL cI p0.Cam),(dI p0.Strike)]]⟩], .live [⟨9,1, .data (List.map cS v6)⟩], .live [⟨62,2, .data (List.map eZ v2.1)⟩]]⟩ ?_ ?_
 refine sq [0,1,2,3,4,5,6] (rP rfl (aH (r := .own _ _ _) rfl) (fa tok ?_))
 refine ld tok ?_
 obtain ⟨v4,hv4,h2⟩ := bnd h2
 refine rL rfl (lI tok hv4 rfl rfl rfl rfl rfl rfl rfl rfl) (rL rfl (aBq tok (iY hv4).2.1 rfl rfl rfl rfl rfl) (rP rfl (pbl (C0 := [z0,z0]) tok rfl rfl rfl) (rP rfl (uN (a := v4) (b := (⟨1,12⟩ : aJ)) rfl rfl) (nx ?_))))
 refine bM h2 rfl (fun hc h2 => ?_) (fun hc h2 => ?_)
 refine sr [0,1,2,3] (pm ?_)
 refine rS rfl (iL tok cS [(⟨#[104,111,117,114]⟩ : ByteArray)] rfl rfl rfl (by repeat (first | exact Els.nil _ | apply Els.cons (cs := [.d _]) rfl rfl rfl | apply Els.cons (cs := _ :: _) rfl rfl rfl)) rfl rfl rfl (by repeat (first | exact cX.nil | (apply cX.cons; (repeat (first | exact fZ.nil | apply fZ.cons))))) rfl) ?_
 obtain ⟨hq5,h2⟩ := dM h2
 refine rS rfl (aRt 5 tok hq5 rfl rfl rfl rfl rfl rfl rfl rfl rfl rfl (fun _ => rfl)) (rP rfl (aR (r := .own _ _ _) rfl) (nx ?_))
 cases h2
 exact wk [0,1,2,3,5,4]
 refine sk ?_
 cases h2
 refine iM.trans_ (dD 5 rfl 9 1 (d := 3) rfl) ?_
 exact wk [0,1,2,3,5,4]
 refine sq [0,1,2,3,4,5,6] (rP rfl (aH (r := .own _ _ _) rfl) (fa tok ?_))
 refine ld tok ?_
 obtain ⟨v7,hv7,h1⟩ := bnd h1
 refine rL rfl (lI tok hv7 rfl rfl rfl rfl rfl rfl rfl rfl) (rL rfl (aBq tok (iY hv7).2.1 rfl rfl rfl rfl rfl) (al 6 [z0,z0] tok ?_))
 refine bst tok (nx (aG ?_))
 refine aF (is := [0,1,2,3,4,7,8,9,10,11,5,6,12]) [0,1,3,0,8,24,63,0,128,0,512,1920,4095] follows (by kernel_rfl) (tfa tok ?_)
 refine tld tok ?_
 refine tP rfl (fO rfl rfl) (tfa tok ?_)
 refine tld tok ?_
 refine tfa tok ?_
 refine tld tok ?_
 refine tfa tok ?_
 refine tld tok ?_
 refine tP rfl (fO rfl rfl) ?_
 obtain ⟨v8,hv8,h1⟩ := bnd h1
 refine jB rfl w0 rfl (cP 7 (aSq hv8) rfl rfl rfl) (tP rfl (fO rfl rfl) (tP rfl (fA rfl rfl) (bE ?_)))
 refine ⟨by kernel_rfl,?_⟩
 refine aI ?_
 refine bM h1 rfl (fun hc h1 => ?_) (fun hc h1 => ?_)
 refine sr [0,1,2,3] (rP rfl (aH (r := .own _ _ _) rfl) (rS rfl (iL tok cS [(⟨#[98,101,97,116,115]⟩ : ByteArray)] rfl rfl rfl (by repeat (first | exact Els.nil _ | apply Els.cons (cs := [.d _]) rfl rfl rfl | apply Els.cons (cs := _ :: _) rfl rfl rfl)) rfl rfl rfl (by repeat (first | exact cX.nil | (apply cX.cons; (repeat (first | exact fZ.nil | apply fZ.cons))))) rfl) ?_))
 obtain ⟨hq9,h1⟩ := dM h1
 refine rw1 rfl w0 rfl (fP tok hq9 rfl rfl rfl rfl rfl rfl rfl rfl rfl rfl rfl rfl (fun _ => rfl)) (rP rfl (aR (r := .own _ _ _) rfl) (nx ?_))
 cases h1
 exact wk [0,1,2,3,4]
 refine sk ?_
 cases h1
 exact wk [0,1,2,3,4]
 obtain ⟨v13,h1,h0⟩ := bnd h0
 refine bG ⟨aE ((fun _ => .dead)) 3 (.own 3 0 (v13).length),lks [.no, .no, .no, .live [⟨9,1, .data (List.map cS v13)⟩]]⟩ ?_ ?_
 refine sq [0,1,2,3,4,5] (fa tok ?_)
 refine rL rfl (aU tok rfl rfl rfl rfl) (fa tok ?_)
 refine ld tok ?_
 obtain ⟨v11,hv11,h1⟩ := bnd h1
 refine rS rfl (aO 5 (uW hv11) rfl rfl rfl) (rP rfl (eN rfl rfl) (nx ?_))
 refine bM h1 rfl (fun hc h1 => ?_) (fun hc h1 => ?_)
 refine sr [0,1,2,3] (rP rfl (aH (r := .own _ _ _) rfl) (rS rfl (iL tok cS [(⟨#[99,97,109]⟩ : ByteArray)] rfl rfl rfl (by repeat (first | exact Els.nil _ | apply Els.cons (cs := [.d _]) rfl rfl rfl | apply Els.cons (cs := _ :: _) rfl rfl rfl)) rfl rfl rfl (by repeat (first | exact cX.nil | (apply cX.cons; (repeat (first | exact fZ.nil | apply fZ.cons))))) rfl) ?_))
 obtain ⟨hq12,h1⟩ := dM h1
 refine rw1 rfl w0 rfl (fP tok hq12 rfl rfl rfl rfl rfl rfl rfl rfl rfl rfl rfl rfl (fun _ => rfl)) (rP rfl (aR (r := .own _ _ _) rfl) (nx ?_))
 cases h1
 exact wk [0,1,2,4]
 refine sk ?_
 cases h1
 exact wk [0,1,2,4]
 refine sq [0,1] (rP rfl (aH (r := .own _ _ _) rfl) (rP rfl (aR (r := .own _ _ _) rfl) (nx (aD ?_))))
 cases h0
 exact dJ (rs := [.tmp 2]) [3] rfl
theorem aA6 {p0 : aA} {p1 : List Int} {r : Int} (h0 : mJ p0 p1 = some r) : FnC Tryz.prog 57 [] [.agg [dS p0.Name,(dL aM p0.Months),(dL aB p0.Rules),(dI p0.Week)],(dL cI p1)] [] (dI r) := by
 refine fi 19 tok Tryz.func57 ?_
 unfold mJ at h0
 refine sq [0,1] (bxx 3 ?_)
 refine pa (nx (aG (aK ?_)))
 obtain ⟨v3,h1,h0⟩ := bnd h0
 refine bG ⟨aE (aE (aE ((fun _ => .dead)) 1 (dL cI p1)) 2 (.ptr 3 0 1 0 0)) 5 (dB v3),lks [.no, .no, .no, .live [⟨31,4, .av [[dS p0.Name,(dL aM p0.Months),(dL aB p0.Rules),(dI p0.Week)]]⟩]]⟩ ?_ ?_
 refine sr [0,1,2,3,4,5,6,7,8] (rL rfl (aU tok rfl rfl rfl rfl) ?_)
 obtain ⟨v1,hv1,h1⟩ := bnd h1
 refine rS rfl (aO 4 (iZ hv1) rfl rfl rfl) (rP rfl (bO rfl) (pm ?_))
 refine dH (u := 9) h1 rfl (fun hc h1 => ?_) (fun hc h1 => ?_)
 iterate 3 refine k1 ?_
 refine pkt ?_
 refine pa (nx ?_)
 cases h1
 exact wk [0,1,2,3]
 refine pm1 ?_
 obtain ⟨v2,hv2,h1⟩ := bnd h1
 refine rs rfl (w1 rfl rfl rfl) rfl (aO 4 (wQ hv2) rfl rfl rfl) (rp rfl (w1 rfl rfl rfl) rfl (bO rfl) (pkf ?_))
 refine pa (nx ?_)
 cases h1
 exact wk [0,1,2,3]
 refine bL h0 rfl (fun hc h0 => ?_) (fun hc h0 => ?_)
 refine sq [0] (pa (nx (aD ?_)))
 refine bH (aS ?_)
 cases h0
 exact r0t 4 rfl
 refine sq [0,1,2,3,4] (rL rfl (aU tok rfl rfl rfl rfl) (pm ?_))
 obtain ⟨v4,hv4,h0⟩ := bnd h0
 refine rS rfl (aO 4 (uW hv4) rfl rfl rfl) (rP rfl (eN rfl rfl) (pa (nx ?_)))
 refine bM h0 rfl (fun hc h0 => ?_) (fun hc h0 => ?_)
 refine sq [0] (pa (nx (aD ?_)))
 refine bH (aS ?_)
 cases h0
 exact r0t 4 rfl
 refine cU (bF (aI (sq [0] (pa (nx (aD ?_))))))
 cases h0
 exact r0t 4 rfl
theorem xH {p0 : Int} {r : Bool} (h0 : kX p0 = some r) : FnC Tryz.prog 58 [] [dI p0] [] (dB r) := by
 refine fi 5 tok Tryz.func58 ?_
 unfold kX at h0
 refine sq [0] (pa (nx (sq [0,1,2] ?_)))
 refine pm ?_
 obtain ⟨v1,hv1,h0⟩ := bnd h0
 refine rS rfl (aO 3 (dC hv1) rfl rfl rfl) (pa (nx (aD ?_)))
 cases h0
 exact r0t 2 rfl
theorem aD1 {p0 : aA} {p1 : Int} {r : Bool} (h0 : mC p0 p1 = some r) : FnC Tryz.prog 139 [] [.agg [dS p0.Name,(dL aM p0.Months),(dL aB p0.Rules),(dI p0.Week)],(dI p1)] [] (dB r) := by
 refine fi 10 tok Tryz.func139 ?_
 unfold mC at h0
 refine sq [0,1] (bxx 3 ?_)
 refine pa (nx (sq [0,1,2,3,4,5] ?_))
 refine pm ?_
 refine fa tok ?_
 refine ld tok ?_
 refine rP rfl (aN tok rfl rfl rfl) ?_
 obtain ⟨v1,hv1,h0⟩ := bnd h0
 refine rS rfl (aO 4 (dC hv1) rfl rfl rfl) (pa (nx (aD ?_)))
 cases h0
 exact r0t 4 rfl
theorem oE {p0 : aA} {p1 : Int} {r : Bool} (h0 : gZ p0 p1 = some r) : FnC Tryz.prog 134 [] [.agg [dS p0.Name,(dL aM p0.Months),(dL aB p0.Rules),(dI p0.Week)],(dI p1)] [] (dB r) := by
 refine fi 26 tok Tryz.func134 ?_
 unfold gZ at h0
 refine sq [0,1] (bxx 3 ?_)
 refine pa (nx (sq [0] ?_))
 refine pa (nx ?_)
 obtain ⟨v9,h1,h0⟩ := bnd h0
 refine bG ⟨aE ((fun _ => .dead)) 5 (dB v9),lks [.no, .no, .no]⟩ ?_ ?_
 refine sq [0,1,2,3] (fa tok ?_)
 refine ld tok ?_
 refine rP rfl (aN tok rfl rfl rfl) (pm (nx (aK ?_)))
 refine bD (fun s5 => ⟨aE (aE (aE (aE (aE ((fun _ => .dead)) 1 (dI p1)) 5 (dB s5.1)) 9 (dL aB p0.Rules)) 10 (dI (p0.Rules.length : Int))) 11 (dI s5.2),lks [.no, .no, .no]⟩) h1 ?_ (fun s5 y h2 => ?_)
 exact wk [0,1,2]
 refine sq [0] (rP rfl (bX rfl rfl) (nx (aG ?_)))
 refine bM h2 rfl (fun hc h2 => ?_) (fun hc h2 => ?_)
 refine sk ?_
 obtain ⟨v8,h3,h2⟩ := bnd h2
 refine bG ⟨aE (aE (aE (aE (aE ((fun _ => .dead)) 1 (dI p1)) 5 (dB v8)) 9 (dL aB p0.Rules)) 10 (dI (p0.Rules.length : Int))) 11 (dI s5.2),lks [.no, .no, .no]⟩ ?_ ?_
 refine aK (sq [0,1,2,3] ?_)
 obtain ⟨v6,hv6,h3⟩ := bnd h3
 refine rP rfl (cV tok hv6 rfl rfl rfl rfl rfl rfl) (rP rfl (bT tok rfl rfl rfl (by repeat (first | exact kK.z _ | apply kK.t))) (al 3 [z0,z0,(dB false)] tok ?_))
 refine bst tok (nx (aG ?_))
 refine aF (is := [0,1,2,3,4,5,6]) [0,0,2,7,0,16,63] follows (by kernel_rfl) (tpm ?_)
 refine tfa tok ?_
 refine tld tok ?_
 obtain ⟨hq7,h3⟩ := dM h3
 refine tP rfl (fJ rfl rfl hq7) (tfa tok ?_)
 refine tld tok ?_
 refine tP rfl (eN rfl rfl) (bE ?_)
 refine ⟨by kernel_rfl,?_⟩
 refine aI ?_
 refine bM h3 rfl (fun hc h3 => ?_) (fun hc h3 => ?_)
 refine sr [0,1,2] (fa tok ?_)
 refine ld tok ?_
 refine pa (bB ?_)
 refine bF (aI ?_)
 cases h3
 exact wk [0,1,2]
 refine cU (bF (aI ?_))
 cases h3
 exact wk [0,1,2]
 refine sr [0,1] (rP rfl (bI rfl rfl) (pm (bB ?_)))
 refine cA ?_
 cases h2
 refine ⟨_,rfl,?_⟩
 exact wk [0,1,2]
 refine bK (bY ?_)
 cases h2
 refine cC ⟨_,rfl,fun e => ?_⟩
 subst e
 refine aY (aI ?_)
 exact wk [0,1,2]
 refine sq [0,1] (pm ?_)
 refine pa (nx (aD ?_))
 cases h0
 exact r0t 4 rfl
theorem iQ {p0 : aA} {p1 : Bool} {p2 : Int} {r : Int} (h0 : eB p0 p1 p2 = some r) : FnC Tryz.prog 135 [] [.agg [dS p0.Name,(dL aM p0.Months),(dL aB p0.Rules),(dI p0.Week)],(dB p1),(dI p2)] [] (dI r) := by
 refine fi 22 tok Tryz.func135 ?_
 unfold eB at h0
 refine sq [0,1] (bxx 3 ?_)
 refine pa (nx (aG (sq [0] ?_)))
 refine pm (nx ?_)
 refine bL h0 rfl (fun hc h0 => ?_) (fun hc h0 => ?_)
 refine sq [0,1,2,3,4,5,6,7] (fa tok ?_)
 refine ld tok ?_
 refine pm ?_
 refine rP rfl (eM rfl rfl) ?_
 obtain ⟨v1,hv1,h0⟩ := bnd h0
 refine rP rfl (cV tok hv1 rfl rfl rfl rfl rfl rfl) (fr tok ?_)
 refine lr tok ?_
 refine pa (nx (aD (aS ?_)))
 cases h0
 exact r0t 6 rfl
 refine sk (sq [0,1,2,3,4,5,6,7] (fa tok ?_))
 refine ld tok ?_
 refine pm ?_
 refine rP rfl (eM rfl rfl) ?_
 obtain ⟨v2,hv2,h0⟩ := bnd h0
 refine rP rfl (cV tok hv2 rfl rfl rfl rfl rfl rfl) (fr tok ?_)
 refine lr tok ?_
 refine pa (nx (aD ?_))
 cases h0
 exact r0t 6 rfl
theorem uT {p0 : aA} {p1 : bQ} {r : Bool} (h0 : jG p0 p1 = some r) : FnC Tryz.prog 62 [] [.agg [dS p0.Name,(dL aM p0.Months),(dL aB p0.Rules),(dI p0.Week)], .agg [dI p1.Year,(dI p1.Month),(dI p1.Day)]] [] (dB r) := by
 refine fi 31 tok Tryz.func62 ?_
 unfold jG at h0
 refine sq [0,1,2] (bxx 3 ?_)
 refine bxx 4 ?_
 refine pa (nx (aG ?_))
 refine aF (is := [0,1,2,3,4,5,6,7,8,9,10,11,12,13,14,15,16,17,18,19,21,22,20,23,24,25,26]) [0,1,3,7,15,31,63,127,255,255,767,2047,4095,8191,16383,32767,16383,16383,16383,278527,933887,16383,2113535,8339455,16777215,33554431,67108863] follows (by kernel_rfl) (bS rfl w0 rfl (aU tok rfl rfl rfl rfl) rfl rfl rfl ?_)
 obtain ⟨v1,hv1,h0⟩ := bnd h0
 refine jB rfl w0 rfl (cP 5 (iZ hv1) rfl rfl rfl) (tpm ?_)
 refine nT (u := 7) h0 rfl (fun hc h0 => ?_) (fun hc h0 => ?_)
 refine bS rfl (w1 rfl rfl rfl) rfl (uL tok rfl rfl rfl rfl rfl rfl rfl) rfl rfl rfl (bS rfl (w1 rfl rfl rfl) rfl (nG tok rfl rfl rfl rfl rfl) rfl rfl rfl ?_)
 obtain ⟨v2,hv2,h0⟩ := bnd h0
 refine jB rfl (w1 rfl rfl rfl) rfl (cP 5 (xH hv2) rfl rfl rfl) (vG ?_)
 refine tpm ?_
 refine nT (u := 12) h0 rfl (fun hc h0 => ?_) (fun hc h0 => ?_)
 refine bS rfl (w1 rfl rfl rfl) rfl (aU tok rfl rfl rfl rfl) rfl rfl rfl (bS rfl (w1 rfl rfl rfl) rfl (uL tok rfl rfl rfl rfl rfl rfl rfl) rfl rfl rfl (bS rfl (w1 rfl rfl rfl) rfl (nG tok rfl rfl rfl rfl rfl) rfl rfl rfl ?_))
 obtain ⟨v3,hv3,h0⟩ := bnd h0
 refine jB rfl (w1 rfl rfl rfl) rfl (cP 5 (aD1 hv3) rfl rfl rfl) (vG ?_)
 refine tpm ?_
 refine nT (u := 18) h0 rfl (fun hc h0 => ?_) (fun hc h0 => ?_)
 refine bS rfl (w1 rfl rfl rfl) rfl (uL tok rfl rfl rfl rfl rfl rfl rfl) rfl rfl rfl (bS rfl (w1 rfl rfl rfl) rfl (nG tok rfl rfl rfl rfl rfl) rfl rfl rfl (bS rfl (w1 rfl rfl rfl) rfl (aU tok rfl rfl rfl rfl) rfl rfl rfl (bS rfl (w1 rfl rfl rfl) rfl (aU tok rfl rfl rfl rfl) rfl rfl rfl (bS rfl (w1 rfl rfl rfl) rfl (uL tok rfl rfl rfl rfl rfl rfl rfl) rfl rfl rfl (bS rfl (w1 rfl rfl rfl) rfl (nG tok rfl rfl rfl rfl rfl) rfl rfl rfl (bS rfl (w1 rfl rfl rfl) rfl (uL tok rfl rfl rfl rfl rfl rfl rfl) rfl rfl rfl (bS rfl (w1 rfl rfl rfl) rfl (nG tok rfl rfl rfl rfl rfl) rfl rfl rfl ?_)))))))
 obtain ⟨v4,hv4,h0⟩ := bnd h0
 refine jB rfl (w1 rfl rfl rfl) rfl (cP 5 (oE hv4) rfl rfl rfl) ?_
 obtain ⟨v5,hv5,h0⟩ := bnd h0
 refine jB rfl (w1 rfl rfl rfl) rfl (cP 5 (iQ hv5) rfl rfl rfl) ?_
 obtain ⟨v6,hv6,h0⟩ := bnd h0
 refine jB rfl (w1 rfl rfl rfl) rfl (cP 5 (dC hv6) rfl rfl rfl) (vG ?_)
 refine tpa ?_
 refine bE ?_
 refine ⟨by kernel_rfl,?_⟩
 refine aI (aD ?_)
 cases h0
 exact r0t 4 rfl
 iterate 11 refine k2 ?_
 refine tA ?_
 refine tpa ?_
 refine bE ?_
 refine ⟨by kernel_rfl,?_⟩
 refine aI (aD ?_)
 cases h0
 exact r0t 4 rfl
 iterate 4 refine k2 ?_
 refine tA ?_
 refine tpm ?_
 iterate 11 refine k2 ?_
 refine tA ?_
 refine tpa ?_
 refine bE ?_
 refine ⟨by kernel_rfl,?_⟩
 refine aI (aD ?_)
 cases h0
 exact r0t 4 rfl
 iterate 3 refine k2 ?_
 refine tA ?_
 refine tpm ?_
 iterate 4 refine k2 ?_
 refine tA ?_
 refine tpm ?_
 iterate 11 refine k2 ?_
 refine tA ?_
 refine tpa ?_
 refine bE ?_
 refine ⟨by kernel_rfl,?_⟩
 refine aI (aD ?_)
 cases h0
 exact r0t 4 rfl
theorem lS {p0 : List Int} {r : Int} (h0 : eC p0 = some r) : FnC Tryz.prog 129 [] [dL cI p0] [] (dI r) := by
 refine fi 25 tok Tryz.func129 ?_
 unfold eC at h0
 refine sq [0] (pa (nx ?_))
 obtain ⟨v1,h1,h0⟩ := bnd h0
 refine bG ⟨aE ((fun _ => .dead)) 0 (dL cI p0),lks [.no, .no, .no]⟩ ?_ ?_
 refine sq [0,1,2] (pm ?_)
 refine rP rfl (aN tok rfl rfl rfl) (rP rfl (bX rfl rfl) (nx ?_))
 refine bM h1 rfl (fun hc h1 => ?_) (fun hc h1 => ?_)
 cases h1
 refine sk ?_
 cases h1
 exact wk [0,1,2]
 refine sq [0,1,2,3] (pm ?_)
 obtain ⟨v2,hv2,h0⟩ := bnd h0
 refine rP rfl (cV tok hv2 rfl rfl rfl rfl rfl rfl) (lr tok ?_)
 refine pa (nx ?_)
 obtain ⟨v7,h1,h0⟩ := bnd h0
 refine bG ⟨aE ((fun _ => .dead)) 3 (dI v7),lks [.no, .no, .no]⟩ ?_ ?_
 refine sq [0] (pa (nx (aK ?_)))
 refine bD (fun s5 => ⟨aE (aE (aE ((fun _ => .dead)) 0 (dL cI p0)) 3 (dI s5.1)) 4 (dI s5.2),lks [.no, .no, .no]⟩) h1 ?_ (fun s5 y h2 => ?_)
 exact wk [0,1,2]
 refine aG (sq [0,1,2,3] (pm ?_))
 refine pm ?_
 refine rP rfl (aN tok rfl rfl rfl) (rP rfl (bX rfl rfl) (nx ?_))
 refine bM h2 rfl (fun hc h2 => ?_) (fun hc h2 => ?_)
 refine sk (aG (aK (sr [0,1,2,3,4,5,6] ?_)))
 iterate 3 refine pm ?_
 obtain ⟨v6,hv6,h2⟩ := bnd h2
 refine rP rfl (cV tok hv6 rfl rfl rfl rfl rfl rfl) (lr tok ?_)
 refine rP rfl (aT6 rfl rfl) (pa (bB ?_))
 refine bF (aI (sr [0,1,2] (pm ?_)))
 refine rP rfl (bI rfl rfl) (pa (bB ?_))
 refine cA ?_
 cases h2
 refine ⟨_,rfl,?_⟩
 exact wk [0,1,2]
 refine bK (bY ?_)
 cases h2
 refine cC ⟨_,rfl,fun e => ?_⟩
 subst e
 refine aY (aI ?_)
 exact wk [0,1,2]
 refine sq [0,1] (pm ?_)
 refine pa (nx (aD ?_))
 cases h0
 exact r0t 2 rfl
theorem fL {p0 : List Int} {r : List Int} (h0 : cO p0 = some r) : FnC Tryz.prog 130 [] [dL cI p0] [.live [⟨2,1, .data (List.map cI r)⟩]] (.own 0 0 r.length) := by
 refine fi 8 tok Tryz.func130 ?_
 unfold cO at h0
 obtain ⟨hq1,h0⟩ := dM h0
 cases h0
 refine aCe (d := 0) rfl rfl (fun hne => ?_) (fun he A k hk => ?_)
 ·skip
  refine aG (bZ (is := [0]) rfl (rP rfl (aR (r := .d _) rfl) (bB (aI (aG (aG (bZ (is := [0,1]) rfl (rP rfl (aH (r := .d _) rfl) (rP rfl (uK tok rfl hne rfl rfl rfl) (bB (aI (qB rfl (cU (aI (aG (bZ (is := [0,1,2,3]) rfl (rS rfl (eJ 3 tok rfl rfl rfl rfl) (rP rfl (aH (r := .d _) rfl) (rw1 rfl w0 rfl (fP tok hq1 rfl rfl rfl rfl rfl rfl rfl rfl rfl rfl rfl rfl (fun _ => rfl)) (rP rfl (aR (r := .own _ _ _) rfl) (bB (aI (aD ?_)))))))))))))))))))))))
  exact dJ (rs := [.tmp 2]) [3] rfl
 ·skip
  have he : p0 = [] := List.map_eq_nil_iff.1 he
  subst he
  cases A with
  | none =>
   refine aG (bZ (is := [0]) rfl (rP rfl (aR (r := .d _) rfl) (bB (aI (aG (aG (bZ (is := [0,1]) rfl (rP rfl (aH (r := .d _) rfl) (rP rfl (mL tok rfl rfl rfl rfl) (bB (aI (zU rfl (aG (bZ (is := [0]) rfl (rP rfl (aR (r := .d _) rfl) (bB (aI (cJ (dD 3 rfl 2 1 (d := 2) rfl) (aD (aS ?_))))))))))))))))))))
   exact dJ (rs := [.tmp 2]) [3] rfl
  | some a =>
   refine aG (bZ (is := [0]) rfl (rP rfl (aR (r := .d _) rfl) (bB (aI (aG (aG (bZ (is := [0,1]) rfl (rP rfl (aH (r := .d _) rfl) (rP rfl (mL tok rfl rfl rfl rfl) (bB (aI (qB rfl (cU (aI (cJ (zD cI (d := 0) rfl hk) (aG (bZ (is := [0,1,2,3]) rfl (rS rfl (eJ 3 tok rfl rfl rfl rfl) (rP rfl (aH (r := .d _) rfl) (rw1 rfl w0 rfl (fP tok hq1 rfl rfl rfl rfl rfl rfl rfl rfl rfl rfl rfl rfl (fun _ => rfl)) (rP rfl (aR (r := .own _ _ _) rfl) (bB (aI (aD ?_))))))))))))))))))))))))
   exact dJ (rs := [.tmp 2]) [3] rfl
theorem aB6 {p0 : aA} {p1 : List Int} {p2 : bQ} {p3 : Int} {r : aC × Int} (h0 : hY p0 p1 p2 p3 = some r) : FnC Tryz.prog 53 [] [.agg [dS p0.Name,(dL aM p0.Months),(dL aB p0.Rules),(dI p0.Week)],(dL cI p1), .agg [dI p2.Year,(dI p2.Month),(dI p2.Day)],(dI p3)] [.live [⟨2,1, .data (List.map cI r.1.Cam)⟩]] (.tup [.agg [.own 0 0 r.1.Cam.length,(dI r.1.Months),(dI r.1.Teeth),(dI r.1.At),(dI r.1.Day),(dI r.1.Week),(dI r.1.Weekday)],(dI r.2)]) := by
 refine fi 75 tok Tryz.func53 ?_
 unfold hY at h0
 refine sq [0,1,2,3] (bxx 3 ?_)
 refine bxx 4 ?_
 refine al 5 [zl,z0,z0,z0,z0,z0,z0] tok ?_
 refine pa (nx (aG (sq [0,1,2,3] ?_)))
 refine rL rfl (aU tok rfl rfl rfl rfl) (pm ?_)
 obtain ⟨v1,hv1,h0⟩ := bnd h0
 refine rS rfl (aO 6 (aA6 hv1) rfl rfl rfl) (pa (nx (sq [0,1] ?_)))
 refine pm ?_
 refine rP rfl (fA rfl rfl) (nx ?_)
 refine bM h0 rfl (fun hc h0 => ?_) (fun hc h0 => ?_)
 refine sq [0,1,2,3] (rP rfl (pbl (C0 := [zl,z0,z0,z0,z0,z0,z0]) tok rfl rfl rfl) (pm ?_))
 refine bst tok ?_
 refine pa (nx ?_)
 refine wa 6 2 1 5 0 (aD (aS ?_))
 cases h0
 exact dJ (rs := [.cell 8 38, .tmp 9]) [6] rfl
 refine sk (aG ?_)
 obtain ⟨v4,h1,h0⟩ := bnd h0
 refine bG ⟨aE (aE (aE (aE (aE (aE ((fun _ => .dead)) 1 (dL cI p1)) 3 (dI p3)) 4 (.ptr 3 0 1 0 0)) 6 (.ptr 4 0 1 0 0)) 8 (.ptr 5 0 1 0 0)) 32 (dB v4),lks [.no, .no, .no, .live [⟨31,4, .av [[dS p0.Name,(dL aM p0.Months),(dL aB p0.Rules),(dI p0.Week)]]⟩], .live [⟨36,3, .av [[dI p2.Year,(dI p2.Month),(dI p2.Day)]]⟩], .live [⟨38,7, .av [[zl,z0,z0,z0,z0,z0,z0]]⟩]]⟩ ?_ ?_
 refine sr [0,1,2,3,4,5,6,7,8,9,10] (rL rfl (aU tok rfl rfl rfl rfl) (rL rfl (aU tok rfl rfl rfl rfl) ?_))
 obtain ⟨v2,hv2,h1⟩ := bnd h1
 refine rS rfl (aO 6 (uT hv2) rfl rfl rfl) (rP rfl (bO rfl) (pm ?_))
 refine dH (u := 26) h1 rfl (fun hc h1 => ?_) (fun hc h1 => ?_)
 iterate 5 refine k1 ?_
 refine pkt (nx ?_)
 cases h1
 exact wk [0,1,2,3,4,5]
 refine pm1 ?_
 refine fa1 tok ?_
 refine ld1 tok ?_
 obtain ⟨v3,hv3,h1⟩ := bnd h1
 refine rs rfl (w1 rfl rfl rfl) rfl (aO 6 (dC hv3) rfl rfl rfl) (rp rfl (w1 rfl rfl rfl) rfl (bO rfl) (pkf (nx ?_)))
 cases h1
 exact wk [0,1,2,3,4,5]
 refine bL h0 rfl (fun hc h0 => ?_) (fun hc h0 => ?_)
 refine sq [0,1,2] (rP rfl (pbl (C0 := [zl,z0,z0,z0,z0,z0,z0]) tok rfl rfl rfl) (bst tok ?_))
 refine pa (nx ?_)
 refine wa 6 2 1 5 0 (aD (aS ?_))
 cases h0
 exact dJ (rs := [.cell 8 38, .tmp 9]) [6] rfl
 refine sk (sq [0,1,2] (pm ?_))
 obtain ⟨v5,hv5,h0⟩ := bnd h0
 refine rS rfl (aO 6 (lS hv5) rfl rfl rfl) (pa (nx ?_))
 obtain ⟨v10,h1,h0⟩ := bnd h0
 refine bG ⟨aE (aE (aE (aE (aE (aE ((fun _ => .dead)) 1 (dL cI p1)) 3 (dI p3)) 4 (.ptr 3 0 1 0 0)) 6 (.ptr 4 0 1 0 0)) 8 (.ptr 5 0 1 0 0)) 11 (dI v10),lks [.no, .no, .no, .live [⟨31,4, .av [[dS p0.Name,(dL aM p0.Months),(dL aB p0.Rules),(dI p0.Week)]]⟩], .live [⟨36,3, .av [[dI p2.Year,(dI p2.Month),(dI p2.Day)]]⟩], .live [⟨38,7, .av [[zl,z0,z0,z0,z0,z0,z0]]⟩]]⟩ ?_ ?_
 refine sq [0,1,2,3] (fa tok ?_)
 refine ld tok ?_
 refine rP rfl (aN tok rfl rfl rfl) (pm (nx (aK ?_)))
 refine bD (fun s8 => ⟨aE (aE (aE (aE (aE (aE (aE (aE (aE ((fun _ => .dead)) 1 (dL cI p1)) 3 (dI p3)) 4 (.ptr 3 0 1 0 0)) 6 (.ptr 4 0 1 0 0)) 8 (.ptr 5 0 1 0 0)) 11 (dI s8.1)) 37 (dL aM p0.Months)) 38 (dI (p0.Months.length : Int))) 39 (dI s8.2),lks [.no, .no, .no, .live [⟨31,4, .av [[dS p0.Name,(dL aM p0.Months),(dL aB p0.Rules),(dI p0.Week)]]⟩], .live [⟨36,3, .av [[dI p2.Year,(dI p2.Month),(dI p2.Day)]]⟩], .live [⟨38,7, .av [[zl,z0,z0,z0,z0,z0,z0]]⟩]]⟩) h1 ?_ (fun s8 y h2 => ?_)
 exact wk [0,1,2,3,4,5]
 refine sq [0] (rP rfl (bX rfl rfl) (nx (aG ?_)))
 refine bM h2 rfl (fun hc h2 => ?_) (fun hc h2 => ?_)
 refine sk (aG (aK (sq [0,1,2,3] ?_)))
 obtain ⟨v9,hv9,h2⟩ := bnd h2
 refine rP rfl (cV tok hv9 rfl rfl rfl rfl rfl rfl) (rP rfl (bT tok rfl rfl rfl (by repeat (first | exact kK.z _ | apply kK.t))) (al 6 [ze,z0,z0] tok ?_))
 refine bst tok (nx (sr [0,1,2,3,4,5,6] ?_))
 refine pm ?_
 refine fa tok ?_
 refine ld tok ?_
 refine fa tok ?_
 refine ld tok ?_
 refine rP rfl (aSx rfl rfl rfl) (pa (bB ?_))
 refine bF (aI (sr [0,1] (rP rfl (bI rfl rfl) (pm (bB ?_)))))
 refine cA ?_
 cases h2
 refine ⟨_,rfl,?_⟩
 exact wk [0,1,2,3,4,5]
 refine bK (bY ?_)
 cases h2
 refine cC ⟨_,rfl,fun e => ?_⟩
 subst e
 refine aY (aI ?_)
 exact wk [0,1,2,3,4,5]
 refine sq [0,1,2,3] (fa tok ?_)
 refine ld tok ?_
 refine rP rfl (aN tok rfl rfl rfl) (pa (nx (aG ?_)))
 refine aF (is := [0,2,3,4,5,6,7,10,12,13,16,17,18,19,20,1,8,9,11,14,15,21,22,23]) [0,1,0,0,0,16,0,0,195,499,0,2035,0,4096,16371,32755,0,65536,0,262144,0,2097151,4194303,8388607] follows (by kernel_rfl) ?_
 iterate 3 refine tpm ?_
 refine tfa tok ?_
 refine tld tok ?_
 refine bS rfl w0 rfl (aU tok rfl rfl rfl rfl) rfl rfl rfl (tpm ?_)
 refine tpm ?_
 refine tfa tok ?_
 refine tld tok ?_
 refine tfa tok ?_
 refine tld tok ?_
 refine tfa tok ?_
 refine tld tok ?_
 refine tpm ?_
 obtain ⟨v11,hv11,h0⟩ := bnd h0
 refine jB rfl w0 rfl (cP 6 (fL hv11) rfl rfl rfl) ?_
 obtain ⟨v12,hv12,h0⟩ := bnd h0
 refine jB rfl w0 rfl (cP 7 (uW hv12) rfl rfl rfl) ?_
 obtain ⟨hq13,h0⟩ := dM h0
 refine tP rfl (fJ rfl rfl hq13) (tP rfl (fO rfl rfl) (tP rfl (bI rfl rfl) (tP rfl (eM rfl rfl) (tP rfl (pbl (C0 := [zl,z0,z0,z0,z0,z0,z0]) tok rfl rfl rfl) (iK rfl w0 (fQ (cs := _ :: _) tok rfl rfl rfl rfl rfl rfl rfl) (tpa ?_))))))
 refine bE ?_
 refine ⟨by kernel_rfl,?_⟩
 refine aI (aD ?_)
 cases h0
 exact dJ (rs := [.cell 8 38, .tmp 9]) [6] rfl
theorem sW {p0 : List cH} {r : List cH} (h0 : gC p0 = some r) : FnC Tryz.prog 226 [] [dL bC p0] [.live [⟨125,4, .data (List.map bC r)⟩]] (.own 0 0 r.length) := by
 refine fi 8 tok Tryz.func226 ?_
 unfold gC at h0
 obtain ⟨hq1,h0⟩ := dM h0
 cases h0
 refine aCe (d := 0) rfl rfl (fun hne => ?_) (fun he A k hk => ?_)
 ·skip
  refine aG (bZ (is := [0]) rfl (rP rfl (aR (r := .d _) rfl) (bB (aI (aG (aG (bZ (is := [0,1]) rfl (rP rfl (aH (r := .d _) rfl) (rP rfl (uK tok rfl hne rfl rfl rfl) (bB (aI (qB rfl (cU (aI (aG (bZ (is := [0,1,2,3]) rfl (rS rfl (eJ 3 tok rfl rfl rfl rfl) (rP rfl (aH (r := .d _) rfl) (rw1 rfl w0 rfl (fP tok hq1 rfl rfl rfl rfl rfl rfl rfl rfl rfl rfl rfl rfl (fun _ => rfl)) (rP rfl (aR (r := .own _ _ _) rfl) (bB (aI (aD ?_)))))))))))))))))))))))
  exact dJ (rs := [.tmp 2]) [3] rfl
 ·skip
  have he : p0 = [] := List.map_eq_nil_iff.1 he
  subst he
  cases A with
  | none =>
   refine aG (bZ (is := [0]) rfl (rP rfl (aR (r := .d _) rfl) (bB (aI (aG (aG (bZ (is := [0,1]) rfl (rP rfl (aH (r := .d _) rfl) (rP rfl (mL tok rfl rfl rfl rfl) (bB (aI (zU rfl (aG (bZ (is := [0]) rfl (rP rfl (aR (r := .d _) rfl) (bB (aI (cJ (dD 3 rfl 125 4 (d := 2) rfl) (aD (aS ?_))))))))))))))))))))
   exact dJ (rs := [.tmp 2]) [3] rfl
  | some a =>
   refine aG (bZ (is := [0]) rfl (rP rfl (aR (r := .d _) rfl) (bB (aI (aG (aG (bZ (is := [0,1]) rfl (rP rfl (aH (r := .d _) rfl) (rP rfl (mL tok rfl rfl rfl rfl) (bB (aI (qB rfl (cU (aI (cJ (zD bC (d := 0) rfl hk) (aG (bZ (is := [0,1,2,3]) rfl (rS rfl (eJ 3 tok rfl rfl rfl rfl) (rP rfl (aH (r := .d _) rfl) (rw1 rfl w0 rfl (fP tok hq1 rfl rfl rfl rfl rfl rfl rfl rfl rfl rfl rfl rfl (fun _ => rfl)) (rP rfl (aR (r := .own _ _ _) rfl) (bB (aI (aD ?_))))))))))))))))))))))))
   exact dJ (rs := [.tmp 2]) [3] rfl
theorem aF7 {p0 : bJ} {r : bJ} (h0 : nK p0 = some r) : FnC Tryz.prog 149 [] [.agg [dL aL p0.Arbors,(dL bC p0.Meshes)]] [.live [⟨123,2, .av (fC 1 aL r.Arbors)⟩], .live (mW 2 1 aL r.Arbors), .live [⟨125,4, .data (List.map bC r.Meshes)⟩]] (.agg [.own 0 0 r.Arbors.length, .own 2 0 r.Meshes.length]) := by
 refine fi 30 tok Tryz.func149 ?_
 unfold nK at h0
 refine sq [0,1] (bxx 3 ?_)
 refine al 4 [zl,zl] tok (nx (sq [0] ?_))
 refine al 5 [zl,zl] tok (nx ?_)
 obtain ⟨v9,h1,h0⟩ := bnd h0
 refine bG ⟨aE (aE (aE ((fun _ => .dead)) 1 (.ptr 3 0 1 0 0)) 2 (.ptr 4 0 1 0 0)) 3 (.ptr 5 0 1 0 0),lks [.no, .no, .no, .live [⟨27,2, .av [[dL aL p0.Arbors,(dL bC p0.Meshes)]]⟩], .live [⟨27,2, .av [[zl,zl]]⟩], .live [⟨27,2, .av [[.own 6 0 (v9).length,zl]]⟩], .live [⟨123,2, .av (fC 7 aL v9)⟩], .live (mW 2 1 aL v9)]⟩ ?_ ?_
 refine sq [0,1,2,3] (fa tok ?_)
 refine ld tok ?_
 refine rP rfl (aN tok rfl rfl rfl) (pm (nx (aK ?_)))
 refine bD (fun s5 => ⟨aE (aE (aE (aE (aE (aE ((fun _ => .dead)) 1 (.ptr 3 0 1 0 0)) 2 (.ptr 4 0 1 0 0)) 3 (.ptr 5 0 1 0 0)) 7 (dL aL p0.Arbors)) 8 (dI (p0.Arbors.length : Int))) 9 (dI s5.1),lks [.no, .no, .no, .live [⟨27,2, .av [[dL aL p0.Arbors,(dL bC p0.Meshes)]]⟩], .live [⟨27,2, .av [[zl,zl]]⟩], .live [⟨27,2, .av [[.own 6 0 (s5.2).length,zl]]⟩], .live [⟨123,2, .av (fC 7 aL s5.2)⟩], .live (mW 2 1 aL s5.2)]⟩) h1 ?_ (fun s5 y h2 => ?_)
 refine iM.trans_ (qS 6 rfl 123 2 (kb := 5) (j := 0) rfl rfl (by repeat (first | exact Spl.z _ | apply Spl.t | apply Spl.d))) (iM.trans_ (eU 7 (k := 6) 2 1 aL rfl rfl) ?_)
 exact wk [0,1,2,3,4,5,6,7]
 refine sq [0] (rP rfl (bX rfl rfl) (nx (aG ?_)))
 refine bM h2 rfl (fun hc h2 => ?_) (fun hc h2 => ?_)
 refine sk (aG (aK (sq [0,1,2,3] ?_)))
 obtain ⟨v6,hv6,h2⟩ := bnd h2
 refine rP rfl (cV tok hv6 rfl rfl rfl rfl rfl rfl) (rP rfl (bT tok rfl rfl rfl (by repeat (first | exact kK.z _ | apply kK.t))) (al 8 [ze,zl] tok ?_))
 refine bst tok (nx ?_)
 refine vP (is := [0,1,2,3,4,5,6,7,8,9,10,11]) [0,1,0,4,0,16,48,124,252,511,1023,2047] follows (by kernel_rfl) (tfa tok ?_)
 refine tld tok ?_
 refine tfa tok ?_
 refine tld tok ?_
 refine tfa tok ?_
 refine tld tok ?_
 obtain ⟨v7,hv7,h2⟩ := bnd h2
 refine jB rfl w0 rfl (cP 10 (fL hv7) rfl rfl rfl) (tP rfl (pbl (C0 := [ze,zl]) tok rfl rfl rfl) (aSt rfl w0 rfl (aTo 11 tok rfl rfl rfl (by repeat (first | exact Els.nil _ | apply Els.cons (cs := [.d _]) rfl rfl rfl | apply Els.cons (cs := _ :: _) rfl rfl rfl)) rfl rfl rfl rfl) ?_))
 obtain ⟨hq8,h2⟩ := dM h2
 refine zR rfl w0 rfl (aPm tok (⟨v6.Name,v7⟩ : cQ) hq8 rfl rfl rfl rfl rfl rfl rfl rfl rfl rfl rfl rfl rfl rfl rfl) (tfa tok ?_)
 refine iK rfl w0 (fQ (cs := [.own _ _ _]) tok rfl rfl rfl rfl rfl rfl rfl) (bE ?_)
 refine ⟨by kernel_rfl,_,iM.trans_ (aFu 12 (k := 6) (kf := 7) (k2 := 10) (⟨v6.Name,v7⟩ : cQ) rfl rfl rfl rfl rfl rfl rfl (by repeat (first | exact aLo.nil | apply aLo.v | apply aLo.sl (by first | rfl | (simp; done)))) rfl rfl rfl) (iM.refl_),?_⟩
 refine bF (aI (sr [0,1] (rP rfl (bI rfl rfl) (pm (bB ?_)))))
 refine cA ?_
 cases h2
 refine ⟨_,rfl,?_⟩
 exact wk [0,1,2,3,4,5,6,12]
 refine bK (bY ?_)
 cases h2
 refine cC ⟨_,rfl,fun e => ?_⟩
 subst e
 refine aY (aI ?_)
 exact wk [0,1,2,3,4,5,6,7]
 refine sq [0,1,2,3,4] (fa tok ?_)
 refine ld tok ?_
 obtain ⟨v10,hv10,h0⟩ := bnd h0
 refine rS rfl (aO 8 (sW hv10) rfl rfl rfl) (fa tok ?_)
 refine rw0 rfl w0 (fQ (cs := [.own _ _ _]) tok rfl rfl rfl rfl rfl rfl rfl) (nx (sq [0,1] (rL rfl (aU tok rfl rfl rfl rfl) (bst tok (nx (aD ?_))))))
 cases h0
 exact dJ (rs := [.cell 2 27]) [6,7,8] rfl
theorem rA {p0 : List bP} {r : List bP} (h0 : fI p0 = some r) : FnC Tryz.prog 150 [] [dL aM p0] [.live [⟨170,3, .data (List.map aM r)⟩]] (.own 0 0 r.length) := by
 refine fi 8 tok Tryz.func150 ?_
 unfold fI at h0
 obtain ⟨hq1,h0⟩ := dM h0
 cases h0
 refine aCe (d := 0) rfl rfl (fun hne => ?_) (fun he A k hk => ?_)
 ·skip
  refine aG (bZ (is := [0]) rfl (rP rfl (aR (r := .d _) rfl) (bB (aI (aG (aG (bZ (is := [0,1]) rfl (rP rfl (aH (r := .d _) rfl) (rP rfl (uK tok rfl hne rfl rfl rfl) (bB (aI (qB rfl (cU (aI (aG (bZ (is := [0,1,2,3]) rfl (rS rfl (eJ 3 tok rfl rfl rfl rfl) (rP rfl (aH (r := .d _) rfl) (rw1 rfl w0 rfl (fP tok hq1 rfl rfl rfl rfl rfl rfl rfl rfl rfl rfl rfl rfl (fun _ => rfl)) (rP rfl (aR (r := .own _ _ _) rfl) (bB (aI (aD ?_)))))))))))))))))))))))
  exact dJ (rs := [.tmp 2]) [3] rfl
 ·skip
  have he : p0 = [] := List.map_eq_nil_iff.1 he
  subst he
  cases A with
  | none =>
   refine aG (bZ (is := [0]) rfl (rP rfl (aR (r := .d _) rfl) (bB (aI (aG (aG (bZ (is := [0,1]) rfl (rP rfl (aH (r := .d _) rfl) (rP rfl (mL tok rfl rfl rfl rfl) (bB (aI (zU rfl (aG (bZ (is := [0]) rfl (rP rfl (aR (r := .d _) rfl) (bB (aI (cJ (dD 3 rfl 170 3 (d := 2) rfl) (aD (aS ?_))))))))))))))))))))
   exact dJ (rs := [.tmp 2]) [3] rfl
  | some a =>
   refine aG (bZ (is := [0]) rfl (rP rfl (aR (r := .d _) rfl) (bB (aI (aG (aG (bZ (is := [0,1]) rfl (rP rfl (aH (r := .d _) rfl) (rP rfl (mL tok rfl rfl rfl rfl) (bB (aI (qB rfl (cU (aI (cJ (zD aM (d := 0) rfl hk) (aG (bZ (is := [0,1,2,3]) rfl (rS rfl (eJ 3 tok rfl rfl rfl rfl) (rP rfl (aH (r := .d _) rfl) (rw1 rfl w0 rfl (fP tok hq1 rfl rfl rfl rfl rfl rfl rfl rfl rfl rfl rfl rfl (fun _ => rfl)) (rP rfl (aR (r := .own _ _ _) rfl) (bB (aI (aD ?_))))))))))))))))))))))))
   exact dJ (rs := [.tmp 2]) [3] rfl
theorem nC {p0 : List bA} {r : List bA} (h0 : eH p0 = some r) : FnC Tryz.prog 151 [] [dL aB p0] [.live [⟨181,3, .data (List.map aB r)⟩]] (.own 0 0 r.length) := by
 refine fi 8 tok Tryz.func151 ?_
 unfold eH at h0
 obtain ⟨hq1,h0⟩ := dM h0
 cases h0
 refine aCe (d := 0) rfl rfl (fun hne => ?_) (fun he A k hk => ?_)
 ·skip
  refine aG (bZ (is := [0]) rfl (rP rfl (aR (r := .d _) rfl) (bB (aI (aG (aG (bZ (is := [0,1]) rfl (rP rfl (aH (r := .d _) rfl) (rP rfl (uK tok rfl hne rfl rfl rfl) (bB (aI (qB rfl (cU (aI (aG (bZ (is := [0,1,2,3]) rfl (rS rfl (eJ 3 tok rfl rfl rfl rfl) (rP rfl (aH (r := .d _) rfl) (rw1 rfl w0 rfl (fP tok hq1 rfl rfl rfl rfl rfl rfl rfl rfl rfl rfl rfl rfl (fun _ => rfl)) (rP rfl (aR (r := .own _ _ _) rfl) (bB (aI (aD ?_)))))))))))))))))))))))
  exact dJ (rs := [.tmp 2]) [3] rfl
 ·skip
  have he : p0 = [] := List.map_eq_nil_iff.1 he
  subst he
  cases A with
  | none =>
   refine aG (bZ (is := [0]) rfl (rP rfl (aR (r := .d _) rfl) (bB (aI (aG (aG (bZ (is := [0,1]) rfl (rP rfl (aH (r := .d _) rfl) (rP rfl (mL tok rfl rfl rfl rfl) (bB (aI (zU rfl (aG (bZ (is := [0]) rfl (rP rfl (aR (r := .d _) rfl) (bB (aI (cJ (dD 3 rfl 181 3 (d := 2) rfl) (aD (aS ?_))))))))))))))))))))
   exact dJ (rs := [.tmp 2]) [3] rfl
  | some a =>
   refine aG (bZ (is := [0]) rfl (rP rfl (aR (r := .d _) rfl) (bB (aI (aG (aG (bZ (is := [0,1]) rfl (rP rfl (aH (r := .d _) rfl) (rP rfl (mL tok rfl rfl rfl rfl) (bB (aI (qB rfl (cU (aI (cJ (zD aB (d := 0) rfl hk) (aG (bZ (is := [0,1,2,3]) rfl (rS rfl (eJ 3 tok rfl rfl rfl rfl) (rP rfl (aH (r := .d _) rfl) (rw1 rfl w0 rfl (fP tok hq1 rfl rfl rfl rfl rfl rfl rfl rfl rfl rfl rfl rfl (fun _ => rfl)) (rP rfl (aR (r := .own _ _ _) rfl) (bB (aI (aD ?_))))))))))))))))))))))))
   exact dJ (rs := [.tmp 2]) [3] rfl
theorem uZ {p0 : aX} {r : aX} (h0 : hJ p0 = some r) : FnC Tryz.prog 70 [] [.agg [dS p0.Name,(dL aL p0.Works.Arbors),(dL bC p0.Works.Meshes),(dI p0.Minute),(dI p0.Hour),(dI p0.Escape),(dI p0.Teeth),(dI p0.Beats),(dS p0.Calendar.Name),(dL aM p0.Calendar.Months),(dL aB p0.Calendar.Rules),(dI p0.Calendar.Week),(dL cI p0.Cam),(dI p0.Strike)]] [.live [⟨123,2, .av (fC 1 aL r.Works.Arbors)⟩], .live (mW 2 1 aL r.Works.Arbors), .live [⟨125,4, .data (List.map bC r.Works.Meshes)⟩], .live [⟨170,3, .data (List.map aM r.Calendar.Months)⟩], .live [⟨181,3, .data (List.map aB r.Calendar.Rules)⟩], .live [⟨2,1, .data (List.map cI r.Cam)⟩]] (.agg [dS r.Name, .own 0 0 r.Works.Arbors.length, .own 2 0 r.Works.Meshes.length,(dI r.Minute),(dI r.Hour),(dI r.Escape),(dI r.Teeth),(dI r.Beats),(dS r.Calendar.Name), .own 3 0 r.Calendar.Months.length, .own 4 0 r.Calendar.Rules.length,(dI r.Calendar.Week), .own 5 0 r.Cam.length,(dI r.Strike)]) := by
 refine fi 24 tok Tryz.func70 ?_
 unfold hJ at h0
 refine sq [0,1] (bxx 3 ?_)
 refine al 4 [ze,zl,zl,z0,z0,z0,z0,z0,ze,zl,zl,z0,zl,z0] tok (nx (sq [0,1,2,3,4] ?_))
 refine fa tok ?_
 refine rL rfl (aU tok rfl rfl rfl rfl) ?_
 obtain ⟨v1,hv1,h0⟩ := bnd h0
 refine rS rfl (aO 5 (aF7 hv1) rfl rfl rfl) (fa tok ?_)
 refine bst tok (nx (sq [0,1,2,3,4,5,6] ?_))
 refine fa tok ?_
 refine fa tok ?_
 refine ld tok ?_
 obtain ⟨v2,hv2,h0⟩ := bnd h0
 refine rS rfl (aO 8 (rA hv2) rfl rfl rfl) (fa tok ?_)
 refine fa tok ?_
 refine rw0 rfl w0 (fQ (cs := [.own _ _ _]) tok rfl rfl rfl rfl rfl rfl rfl) (nx (sq [0,1,2,3,4,5,6] (fa tok ?_)))
 refine fa tok ?_
 refine ld tok ?_
 obtain ⟨v3,hv3,h0⟩ := bnd h0
 refine rS rfl (aO 9 (nC hv3) rfl rfl rfl) (fa tok ?_)
 refine fa tok ?_
 refine rw0 rfl w0 (fQ (cs := [.own _ _ _]) tok rfl rfl rfl rfl rfl rfl rfl) (nx (sq [0,1,2,3,4] (fa tok ?_)))
 refine ld tok ?_
 obtain ⟨v4,hv4,h0⟩ := bnd h0
 refine rS rfl (aO 10 (fL hv4) rfl rfl rfl) (fa tok ?_)
 refine rw0 rfl w0 (fQ (cs := [.own _ _ _]) tok rfl rfl rfl rfl rfl rfl rfl) (nx (sq [0,1] (rL rfl (aU tok rfl rfl rfl rfl) (bst tok (nx (aD ?_))))))
 cases h0
 exact dJ (rs := [.cell 2 34]) [5,6,7,8,9,10] rfl
theorem aMo {p0 : aX} {p1 : bQ} {p2 : Int} {r : dO × Int} (h0 : tJ p0 p1 p2 = some r) : FnC Tryz.prog 118 [] [.agg [dS p0.Name,(dL aL p0.Works.Arbors),(dL bC p0.Works.Meshes),(dI p0.Minute),(dI p0.Hour),(dI p0.Escape),(dI p0.Teeth),(dI p0.Beats),(dS p0.Calendar.Name),(dL aM p0.Calendar.Months),(dL aB p0.Calendar.Rules),(dI p0.Calendar.Week),(dL cI p0.Cam),(dI p0.Strike)], .agg [dI p1.Year,(dI p1.Month),(dI p1.Day)],(dI p2)] [.live [⟨123,2, .av (fC 1 aL r.1.Movement.Works.Arbors)⟩], .live (mW 2 1 aL r.1.Movement.Works.Arbors), .live [⟨125,4, .data (List.map bC r.1.Movement.Works.Meshes)⟩], .live [⟨170,3, .data (List.map aM r.1.Movement.Calendar.Months)⟩], .live [⟨181,3, .data (List.map aB r.1.Movement.Calendar.Rules)⟩], .live [⟨2,1, .data (List.map cI r.1.Movement.Cam)⟩], .live [⟨2,1, .data (List.map cI r.1.Dial.Cam)⟩]] (.tup [.agg [dS r.1.Movement.Name, .own 0 0 r.1.Movement.Works.Arbors.length, .own 2 0 r.1.Movement.Works.Meshes.length,(dI r.1.Movement.Minute),(dI r.1.Movement.Hour),(dI r.1.Movement.Escape),(dI r.1.Movement.Teeth),(dI r.1.Movement.Beats),(dS r.1.Movement.Calendar.Name), .own 3 0 r.1.Movement.Calendar.Months.length, .own 4 0 r.1.Movement.Calendar.Rules.length,(dI r.1.Movement.Calendar.Week), .own 5 0 r.1.Movement.Cam.length,(dI r.1.Movement.Strike),(dI r.1.Start.Year),(dI r.1.Start.Month),(dI r.1.Start.Day),(dI r.1.First),(dI r.1.Clock), .own 6 0 r.1.Dial.Cam.length,(dI r.1.Dial.Months),(dI r.1.Dial.Teeth),(dI r.1.Dial.At),(dI r.1.Dial.Day),(dI r.1.Dial.Week),(dI r.1.Dial.Weekday)],(dI r.2)]) := by
 refine fi 39 tok Tryz.func118 ?_
 unfold tJ at h0
 refine sq [0,1,2,3] (bxx 3 ?_)
 refine bxx 4 ?_
 refine al 5 [ze,zl,zl,z0,z0,z0,z0,z0,ze,zl,zl,z0,zl,z0,z0,z0,z0,z0,z0,zl,z0,z0,z0,z0,z0,z0] tok ?_
 refine pa (nx (aG (sq [0,1,2] ?_)))
 refine rL rfl (aU tok rfl rfl rfl rfl) ?_
 obtain ⟨v1,hv1,h0⟩ := bnd h0
 refine rS rfl (aO 6 (tG hv1) rfl rfl rfl) (rP rfl (bO rfl) (nx ?_))
 refine bL h0 rfl (fun hc h0 => ?_) (fun hc h0 => ?_)
 refine sq [0,1,2] (rP rfl (pbl (C0 := [ze,zl,zl,z0,z0,z0,z0,z0,ze,zl,zl,z0,zl,z0,z0,z0,z0,z0,z0,zl,z0,z0,z0,z0,z0,z0]) tok rfl rfl rfl) (bst tok ?_))
 refine pa (nx ?_)
 refine wa 6 123 2 5 1 ?_
 refine cJ (eU 7 (k := 6) 2 1 aL rfl rfl) (wa 8 125 4 5 2 ?_)
 refine wa 9 170 3 5 9 ?_
 refine wa 10 181 3 5 10 ?_
 refine wa 11 2 1 5 12 ?_
 refine wa 12 2 1 5 19 (aD (aS ?_))
 cases h0
 exact dJ (rs := [.cell 6 40, .tmp 7]) [6,7,8,9,10,11,12] rfl
 refine sk (aG (sq [0,1,2,3] (rL rfl (aU tok rfl rfl rfl rfl) ?_)))
 obtain ⟨v2,hv2,h0⟩ := bnd h0
 refine rS rfl (aO 6 (yZ hv2) rfl rfl rfl) (rL rfl (nO tok rfl rfl rfl rfl rfl) (rP rfl (eI rfl rfl) (nx ?_)))
 refine bM h0 rfl (fun hc h0 => ?_) (fun hc h0 => ?_)
 refine sq [0,1,2] (rP rfl (pbl (C0 := [ze,zl,zl,z0,z0,z0,z0,z0,ze,zl,zl,z0,zl,z0,z0,z0,z0,z0,z0,zl,z0,z0,z0,z0,z0,z0]) tok rfl rfl rfl) (bst tok ?_))
 refine pa (nx ?_)
 refine wa 7 123 2 5 1 ?_
 refine cJ (eU 8 (k := 7) 2 1 aL rfl rfl) (wa 9 125 4 5 2 ?_)
 refine wa 10 170 3 5 9 ?_
 refine wa 11 181 3 5 10 ?_
 refine wa 12 2 1 5 12 ?_
 refine wa 13 2 1 5 19 (aD (aS ?_))
 cases h0
 exact dJ (rs := [.cell 6 40, .tmp 7]) [7,8,9,10,11,12,13] rfl
 refine sk (sq [0,1,2,3,4,5,6,7,8,9,10,11,12] (fa tok ?_))
 refine rL rfl (aU tok rfl rfl rfl rfl) (fa tok ?_)
 refine ld tok ?_
 refine rL rfl (aU tok rfl rfl rfl rfl) (pm ?_)
 obtain ⟨v3,hv3,h0⟩ := bnd h0
 refine rS rfl (aO 7 (aB6 hv3) rfl rfl rfl) (rP rfl (aH (r := .tup _) rfl) (rP rfl (aQ rfl rfl) (rP rfl (aQ rfl rfl) (al 8 [zl,z0,z0,z0,z0,z0,z0] tok ?_))))
 refine bst tok ?_
 refine pa (nx (aG (sq [0,1] ?_)))
 refine pm ?_
 refine rP rfl (fA rfl rfl) (nx ?_)
 refine bM h0 rfl (fun hc h0 => ?_) (fun hc h0 => ?_)
 refine sq [0,1,2,3] (rP rfl (pbl (C0 := [ze,zl,zl,z0,z0,z0,z0,z0,ze,zl,zl,z0,zl,z0,z0,z0,z0,z0,z0,zl,z0,z0,z0,z0,z0,z0]) tok rfl rfl rfl) (pm ?_))
 refine bst tok ?_
 refine pa (nx ?_)
 refine wa 9 123 2 5 1 ?_
 refine cJ (eU 10 (k := 9) 2 1 aL rfl rfl) (wa 11 125 4 5 2 ?_)
 refine wa 12 170 3 5 9 ?_
 refine wa 13 181 3 5 10 ?_
 refine wa 14 2 1 5 12 ?_
 refine wa 15 2 1 5 19 (aD (aS ?_))
 cases h0
 exact dJ (rs := [.cell 6 40, .tmp 7]) [9,10,11,12,13,14,15] rfl
 refine sk (aG (aF (is := [0,2,3,4,1,5,6,7]) [0,1,0,0,0,31,63,127] follows (by kernel_rfl) (bS rfl w0 rfl (aU tok rfl rfl rfl rfl) rfl rfl rfl (bS rfl w0 rfl (aU tok rfl rfl rfl rfl) rfl rfl rfl (tpm ?_)))))
 refine bS rfl w0 rfl (aU tok rfl rfl rfl rfl) rfl rfl rfl ?_
 obtain ⟨v4,hv4,h0⟩ := bnd h0
 refine jB rfl w0 rfl (cP 9 (uZ hv4) rfl rfl rfl) (tP rfl (pbl (C0 := [ze,zl,zl,z0,z0,z0,z0,z0,ze,zl,zl,z0,zl,z0,z0,z0,z0,z0,z0,zl,z0,z0,z0,z0,z0,z0]) tok rfl rfl rfl) (iK rfl w0 (fQ (cs := _ :: _) tok rfl rfl rfl rfl rfl rfl rfl) (tpa ?_)))
 refine bE ?_
 refine ⟨by kernel_rfl,?_⟩
 refine aI (aD ?_)
 cases h0
 exact dJ (rs := [.cell 6 40, .tmp 7]) [9,10,11,12,13,14,7] rfl
end Go.Proofs.YtgcdbbidmfdonaaGreat
