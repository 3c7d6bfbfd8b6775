/- Texts of this claim, one behind the other (merged by a program of mine). -/
import Derived.Test.YtgcdbbidmfdonaaGreatProg
import Derived.Lib.ItoaLen
import Derived.Test.YtgcdbbidmfdonaaGreatGD6
set_option linter.unusedSimpArgs false
set_option linter.unusedVariables false
namespace Go.Proofs.YtgcdbbidmfdonaaGreat
open Go.RowKit
set_option linter.unusedVariables false
set_option maxRecDepth 100000
set_option maxHeartbeats 2000000
theorem xG {p0 : ByteArray} {p1 : Int} {p2 : Int} {p3 : aI} {p4 : Int} {r : aV × Int} (h0 : hJ p0 p1 p2 p3 p4 = some r) : FnC Tryz.prog 21 [] [dS p0,(dI p1),(dI p2), .agg [dS p3.Name,(dL aY p3.Months),(dL aP p3.Rules),(dI p3.Week)],(dI p4)] [.live [⟨123,2, .av (pK 1 bF r.1.Works.Arbors)⟩], .live (aBf 2 1 bF r.1.Works.Arbors), .live [⟨125,4, .data (List.map cQ r.1.Works.Meshes)⟩], .live [⟨170,3, .data (List.map aY r.1.Calendar.Months)⟩], .live [⟨181,3, .data (List.map aP r.1.Calendar.Rules)⟩], .live [⟨2,1, .data (List.map cI r.1.Cam)⟩]] (.tup [.agg [dS r.1.Name, .own 0 0 r.1.Works.Arbors.length, .own 2 0 r.1.Works.Meshes.length,(dI r.1.Minute),(dI r.1.Hour),(dI r.1.Escape),(dI r.1.Teeth),(dI r.1.Beats),(dS r.1.Calendar.Name), .own 3 0 r.1.Calendar.Months.length, .own 4 0 r.1.Calendar.Rules.length,(dI r.1.Calendar.Week), .own 5 0 r.1.Cam.length,(dI r.1.Strike)],(dI r.2)]) := by
 refine fi 118 tok Tryz.func21 ?_
 unfold hJ at h0
 refine sq [0,1,2] (bxx 3 ?_)
 refine al 4 [ze,zl,zl,z0,z0,z0,z0,z0,ze,zl,zl,z0,zl,z0] tok ?_
 refine pa (nx (aE (aG (sq [0,1,2,3] ?_))))
 refine rL rfl (aW tok rfl rfl rfl rfl) ?_
 obtain ⟨v1,hv1,h0⟩ := bnd h0
 refine rS rfl (aM 5 (oB hv1) rfl rfl rfl) (rP rfl (cE rfl) (pa (nx ?_)))
 refine bP h0 rfl (fun hc h0 => ?_) (fun hc h0 => ?_)
 refine sq [0,1,2] (rP rfl (pbl (C0 := [ze,zl,zl,z0,z0,z0,z0,z0,ze,zl,zl,z0,zl,z0]) tok rfl rfl rfl) (bst tok ?_))
 refine pa (nx ?_)
 refine wa 5 123 2 4 1 ?_
 refine cM (gI 6 (k := 5) 2 1 bF rfl rfl) (wa 7 125 4 4 2 ?_)
 refine wa 8 170 3 4 9 ?_
 refine wa 9 181 3 4 10 ?_
 refine wa 10 2 1 4 12 (aD ?_)
 refine bG (aT ?_)
 cases h0
 exact eK (rs := [.cell 10 34, .tmp 11]) [5,6,7,8,9,10] rfl
 refine sq [0,1,2,3] (pm ?_)
 obtain ⟨v2,hv2,h0⟩ := bnd h0
 refine rS rfl (aM 5 (sH hv2) rfl rfl rfl) (rP rfl (cE rfl) (pa (nx ?_)))
 refine bP h0 rfl (fun hc h0 => ?_) (fun hc h0 => ?_)
 refine sq [0,1,2] (rP rfl (pbl (C0 := [ze,zl,zl,z0,z0,z0,z0,z0,ze,zl,zl,z0,zl,z0]) tok rfl rfl rfl) (bst tok ?_))
 refine pa (nx ?_)
 refine wa 5 123 2 4 1 ?_
 refine cM (gI 6 (k := 5) 2 1 bF rfl rfl) (wa 7 125 4 4 2 ?_)
 refine wa 8 170 3 4 9 ?_
 refine wa 9 181 3 4 10 ?_
 refine wa 10 2 1 4 12 (aD ?_)
 refine bG (aT ?_)
 cases h0
 exact eK (rs := [.cell 10 34, .tmp 11]) [5,6,7,8,9,10] rfl
 obtain ⟨v5,h1,h0⟩ := bnd h0
 refine bC ⟨aB (aB (aB (aB (aB (aB (aB ((fun _ => .dead)) 0 (dS p0)) 1 (dI p1)) 2 (dI p2)) 4 (dI p4)) 8 (.ptr 3 0 1 0 0)) 10 (.ptr 4 0 1 0 0)) 30 (dB v5),lks [.no, .no, .no, .live [⟨31,4, .av [[dS p3.Name,(dL aY p3.Months),(dL aP p3.Rules),(dI p3.Week)]]⟩], .live [⟨34,14, .av [[ze,zl,zl,z0,z0,z0,z0,z0,ze,zl,zl,z0,zl,z0]]⟩]]⟩ ?_ ?_
 refine sr [0,1,2,3,4,5,6,7,8] (pm ?_)
 obtain ⟨v3,hv3,h1⟩ := bnd h1
 refine rS rfl (aM 5 (eE hv3) rfl rfl rfl) (rP rfl (cE rfl) (pm ?_))
 refine dQ (u := 34) h1 rfl (fun hc h1 => ?_) (fun hc h1 => ?_)
 iterate 3 refine k1 ?_
 refine pkt ?_
 refine pa (nx ?_)
 cases h1
 exact wk [0,1,2,3,4]
 refine pm1 ?_
 obtain ⟨v4,hv4,h1⟩ := bnd h1
 refine rs rfl (w1 rfl rfl rfl) rfl (aM 5 (qX hv4) rfl rfl rfl) (rp rfl (w1 rfl rfl rfl) rfl (cE rfl) (pkf ?_))
 refine pa (nx ?_)
 cases h1
 exact wk [0,1,2,3,4]
 refine bP h0 rfl (fun hc h0 => ?_) (fun hc h0 => ?_)
 refine sq [0,1,2] (rP rfl (pbl (C0 := [ze,zl,zl,z0,z0,z0,z0,z0,ze,zl,zl,z0,zl,z0]) tok rfl rfl rfl) (bst tok ?_))
 refine pa (nx ?_)
 refine wa 5 123 2 4 1 ?_
 refine cM (gI 6 (k := 5) 2 1 bF rfl rfl) (wa 7 125 4 4 2 ?_)
 refine wa 8 170 3 4 9 ?_
 refine wa 9 181 3 4 10 ?_
 refine wa 10 2 1 4 12 (aD ?_)
 refine bG (aT ?_)
 cases h0
 exact eK (rs := [.cell 10 34, .tmp 11]) [5,6,7,8,9,10] rfl
 refine cW (bB (aH (sq [0,1,2,3,4,5,6,7,8,9] (rL rfl (aW tok rfl rfl rfl rfl) (pm ?_)))))
 obtain ⟨v6,hv6,h0⟩ := bnd h0
 refine rS rfl (aM 5 (aH8 hv6) rfl rfl rfl) (rP rfl (aF (r := .tup _) rfl) ?_)
 iterate 3 refine rP rfl (aJ rfl rfl) ?_
 refine rP rfl (aR (r := .own _ _ _) rfl) (pa ?_)
 refine pa (nx (aE (sq [0,1] ?_)))
 refine pm ?_
 refine rP rfl (eB rfl rfl) (nx ?_)
 refine bR h0 rfl (fun hc h0 => ?_) (fun hc h0 => ?_)
 refine sq [0,1,2,3] (rP rfl (pbl (C0 := [ze,zl,zl,z0,z0,z0,z0,z0,ze,zl,zl,z0,zl,z0]) tok rfl rfl rfl) (pm ?_))
 refine bst tok ?_
 refine pa (nx ?_)
 refine wa 6 123 2 4 1 ?_
 refine cM (gI 7 (k := 6) 2 1 bF rfl rfl) (wa 8 125 4 4 2 ?_)
 refine wa 9 170 3 4 9 ?_
 refine wa 10 181 3 4 10 ?_
 refine wa 11 2 1 4 12 (aD (aT ?_))
 cases h0
 exact eK (rs := [.cell 10 34, .tmp 11]) [6,7,8,9,10,11] rfl
 refine sk (sq [0,1,2,3,4,5,6,7,8,9] (pm ?_))
 refine pm ?_
 refine rP rfl (eG rfl rfl) ?_
 obtain ⟨v7,hv7,h0⟩ := bnd h0
 refine rS rfl (aM 6 (jB hv7) rfl rfl rfl) (rP rfl (aF (r := .tup _) rfl) (rP rfl (aJ rfl rfl) (rP rfl (aJ rfl rfl) (al 6 [z0,z0] tok ?_))))
 refine bst tok ?_
 refine pa (nx (aE (sq [0,1] ?_)))
 refine pm ?_
 refine rP rfl (eB rfl rfl) (nx ?_)
 refine bR h0 rfl (fun hc h0 => ?_) (fun hc h0 => ?_)
 refine sq [0,1,2,3] (rP rfl (pbl (C0 := [ze,zl,zl,z0,z0,z0,z0,z0,ze,zl,zl,z0,zl,z0]) tok rfl rfl rfl) (pm ?_))
 refine bst tok ?_
 refine pa (nx ?_)
 refine wa 7 123 2 4 1 ?_
 refine cM (gI 8 (k := 7) 2 1 bF rfl rfl) (wa 9 125 4 4 2 ?_)
 refine wa 10 170 3 4 9 ?_
 refine wa 11 181 3 4 10 ?_
 refine wa 12 2 1 4 12 (aD (aT ?_))
 cases h0
 exact eK (rs := [.cell 10 34, .tmp 11]) [7,8,9,10,11,12] rfl
 refine sk (sq [0,1,2,3,4,5,6,7,8] (rL rfl (aW tok rfl rfl rfl rfl) (rP rfl (pbl (C0 := [z0,z0,z0,z0,z0]) tok rfl rfl rfl) ?_)))
 obtain ⟨v8,hv8,h0⟩ := bnd h0
 refine rS rfl (aM 7 (aEn hv8) rfl rfl rfl) (rP rfl (aF (r := .tup _) rfl) (rP rfl (aJ rfl rfl) (rP rfl (aJ rfl rfl) (al 7 [zl,z0,z0] tok ?_))))
 refine bst tok ?_
 refine pa (nx (aE (sq [0,1] ?_)))
 refine pm ?_
 refine rP rfl (eB rfl rfl) (nx ?_)
 refine bR h0 rfl (fun hc h0 => ?_) (fun hc h0 => ?_)
 refine sq [0,1,2,3] (rP rfl (pbl (C0 := [ze,zl,zl,z0,z0,z0,z0,z0,ze,zl,zl,z0,zl,z0]) tok rfl rfl rfl) (pm ?_))
 refine bst tok ?_
 refine pa (nx ?_)
 refine wa 8 123 2 4 1 ?_
 refine cM (gI 9 (k := 8) 2 1 bF rfl rfl) (wa 10 125 4 4 2 ?_)
 refine wa 11 170 3 4 9 ?_
 refine wa 12 181 3 4 10 ?_
 refine wa 13 2 1 4 12 (aD (aT ?_))
 cases h0
 exact eK (rs := [.cell 10 34, .tmp 11]) [8,9,10,11,12,13] rfl
 refine sk (aE (sq [0,1,2,3] (fa tok ?_)))
 refine fa tok ?_
 refine ld tok ?_
 refine rP rfl (eB rfl rfl) (nx ?_)
 refine bR h0 rfl (fun hc h0 => ?_) (fun hc h0 => ?_)
 refine sq [0,1,2] (rP rfl (pbl (C0 := [ze,zl,zl,z0,z0,z0,z0,z0,ze,zl,zl,z0,zl,z0]) tok rfl rfl rfl) (bst tok ?_))
 refine pa (nx ?_)
 refine wa 8 123 2 4 1 ?_
 refine cM (gI 9 (k := 8) 2 1 bF rfl rfl) (wa 10 125 4 4 2 ?_)
 refine wa 11 170 3 4 9 ?_
 refine wa 12 181 3 4 10 ?_
 refine wa 13 2 1 4 12 (aD (aT ?_))
 cases h0
 exact eK (rs := [.cell 10 34, .tmp 11]) [8,9,10,11,12,13] rfl
 refine sk (aE (aK (is := [0,1,2,3,4,5,6,7,8,9,10,11]) [0,1,3,7,0,16,48,112,0,0,783,2047] follows (by kernel_rfl) (tfa tok ?_)))
 refine tld tok ?_
 obtain ⟨v9,hv9,h0⟩ := bnd h0
 refine tP rfl (cO tok hv9 rfl rfl rfl rfl rfl rfl) (tP rfl (bU tok rfl rfl rfl (by repeat (first | exact lN.z _ | apply lN.t))) (tfa tok ?_))
 refine tld tok ?_
 obtain ⟨v10,hv10,h0⟩ := bnd h0
 refine tP rfl (cO tok hv10 rfl rfl rfl rfl rfl rfl) (tP rfl (bU tok rfl rfl rfl (by repeat (first | exact lN.z _ | apply lN.t))) (aAx rfl w0 rfl rfl (fun hx hk => nV 8 (cs := [z0,z0]) tok rfl rfl hk) (aAx rfl w0 rfl rfl (fun hx hk => nV 9 (cs := [z0,z0]) tok rfl rfl hk) (qH rfl w0 (kY (cs := _ :: _) tok rfl rfl rfl rfl rfl rfl rfl) (qH rfl w0 (kY (cs := _ :: _) tok rfl rfl rfl rfl rfl rfl rfl) (bS ?_))))))
 refine ⟨by kernel_rfl,?_⟩
 refine aH (sq [0,1,2,3,4,5,6,7,8,9,10,11,12,13,14,15,16,17,18,19,20,21,22,23,24,25,26] (fa tok ?_))
 refine ld tok ?_
 refine rS rfl (nB 10 tok cI [v9.Driver,12] rfl rfl rfl (by repeat (first | exact Els.nil _ | apply Els.cons (cs := [.d _]) rfl rfl rfl | apply Els.cons (cs := _ :: _) rfl rfl rfl)) rfl rfl rfl (by repeat (first | exact cH.nil | (apply cH.cons; (repeat (first | exact fA.nil | apply fA.cons))))) rfl rfl) (rP rfl (pbl (C0 := [ze,zl]) tok rfl rfl rfl) (fa tok ?_))
 refine ld tok ?_
 refine fa tok ?_
 refine ld tok ?_
 refine rS rfl (nB 11 tok cI [v9.Driven,v10.Driver] rfl rfl rfl (by repeat (first | exact Els.nil _ | apply Els.cons (cs := [.d _]) rfl rfl rfl | apply Els.cons (cs := _ :: _) rfl rfl rfl)) rfl rfl rfl (by repeat (first | exact cH.nil | (apply cH.cons; (repeat (first | exact fA.nil | apply fA.cons))))) rfl rfl) (rP rfl (pbl (C0 := [ze,zl]) tok rfl rfl rfl) (fa tok ?_))
 refine ld tok ?_
 refine rS rfl (nB 12 tok cI [v10.Driven] rfl rfl rfl (by repeat (first | exact Els.nil _ | apply Els.cons (cs := [.d _]) rfl rfl rfl | apply Els.cons (cs := _ :: _) rfl rfl rfl)) rfl rfl rfl (by repeat (first | exact cH.nil | (apply cH.cons; (repeat (first | exact fA.nil | apply fA.cons))))) rfl rfl) (rP rfl (pbl (C0 := [ze,zl]) tok rfl rfl rfl) (rS rfl (nB 13 tok cI [36,10] rfl rfl rfl (by repeat (first | exact Els.nil _ | apply Els.cons (cs := [.d _]) rfl rfl rfl | apply Els.cons (cs := _ :: _) rfl rfl rfl)) rfl rfl rfl (by repeat (first | exact cH.nil | (apply cH.cons; (repeat (first | exact fA.nil | apply fA.cons))))) rfl rfl) (rP rfl (pbl (C0 := [ze,zl]) tok rfl rfl rfl) (rS rfl (nB 14 tok cI [40] rfl rfl rfl (by repeat (first | exact Els.nil _ | apply Els.cons (cs := [.d _]) rfl rfl rfl | apply Els.cons (cs := _ :: _) rfl rfl rfl)) rfl rfl rfl (by repeat (first | exact cH.nil | (apply cH.cons; (repeat (first | exact fA.nil | apply fA.cons))))) rfl rfl) (rP rfl (pbl (C0 := [ze,zl]) tok rfl rfl rfl) (mD (yP (k := 10) (t' := aB (aB (aB (aB (aB (aB (aB (aB (aB (aB (aB ((fun _ => .dead)) 0 (dS p0)) 1 (dI p1)) 2 (dI p2)) 8 (.ptr 3 0 1 0 0)) 10 (.ptr 4 0 1 0 0)) 12 (.own 5 0 (v6.1).length)) 88 (.agg [dS (⟨#[99,101,110,116,101,114]⟩ : ByteArray),(dL cI [v9.Driver,12])])) 94 (.agg [dS (⟨#[116,104,105,114,100]⟩ : ByteArray), .own 11 0 ([v9.Driven,v10.Driver]).length])) 98 (.agg [dS (⟨#[101,115,99,97,112,101]⟩ : ByteArray), .own 12 0 ([v10.Driven]).length])) 100 (.agg [dS (⟨#[109,105,110,117,116,101]⟩ : ByteArray), .own 13 0 ([36,10]).length])) 102 (.agg [dS (⟨#[104,111,117,114]⟩ : ByteArray), .own 14 0 ([40]).length])) rfl (FzL.nil)) (mD (yP (k := 11) (t' := aB (aB (aB (aB (aB (aB (aB (aB (aB (aB (aB ((fun _ => .dead)) 0 (dS p0)) 1 (dI p1)) 2 (dI p2)) 8 (.ptr 3 0 1 0 0)) 10 (.ptr 4 0 1 0 0)) 12 (.own 5 0 (v6.1).length)) 88 (.agg [dS (⟨#[99,101,110,116,101,114]⟩ : ByteArray),(dL cI [v9.Driver,12])])) 94 (.agg [dS (⟨#[116,104,105,114,100]⟩ : ByteArray),(dL cI [v9.Driven,v10.Driver])])) 98 (.agg [dS (⟨#[101,115,99,97,112,101]⟩ : ByteArray), .own 12 0 ([v10.Driven]).length])) 100 (.agg [dS (⟨#[109,105,110,117,116,101]⟩ : ByteArray), .own 13 0 ([36,10]).length])) 102 (.agg [dS (⟨#[104,111,117,114]⟩ : ByteArray), .own 14 0 ([40]).length])) rfl (FzL.nil)) (mD (yP (k := 12) (t' := aB (aB (aB (aB (aB (aB (aB (aB (aB (aB (aB ((fun _ => .dead)) 0 (dS p0)) 1 (dI p1)) 2 (dI p2)) 8 (.ptr 3 0 1 0 0)) 10 (.ptr 4 0 1 0 0)) 12 (.own 5 0 (v6.1).length)) 88 (.agg [dS (⟨#[99,101,110,116,101,114]⟩ : ByteArray),(dL cI [v9.Driver,12])])) 94 (.agg [dS (⟨#[116,104,105,114,100]⟩ : ByteArray),(dL cI [v9.Driven,v10.Driver])])) 98 (.agg [dS (⟨#[101,115,99,97,112,101]⟩ : ByteArray),(dL cI [v10.Driven])])) 100 (.agg [dS (⟨#[109,105,110,117,116,101]⟩ : ByteArray), .own 13 0 ([36,10]).length])) 102 (.agg [dS (⟨#[104,111,117,114]⟩ : ByteArray), .own 14 0 ([40]).length])) rfl (FzL.nil)) (mD (yP (k := 13) (t' := aB (aB (aB (aB (aB (aB (aB (aB (aB (aB (aB ((fun _ => .dead)) 0 (dS p0)) 1 (dI p1)) 2 (dI p2)) 8 (.ptr 3 0 1 0 0)) 10 (.ptr 4 0 1 0 0)) 12 (.own 5 0 (v6.1).length)) 88 (.agg [dS (⟨#[99,101,110,116,101,114]⟩ : ByteArray),(dL cI [v9.Driver,12])])) 94 (.agg [dS (⟨#[116,104,105,114,100]⟩ : ByteArray),(dL cI [v9.Driven,v10.Driver])])) 98 (.agg [dS (⟨#[101,115,99,97,112,101]⟩ : ByteArray),(dL cI [v10.Driven])])) 100 (.agg [dS (⟨#[109,105,110,117,116,101]⟩ : ByteArray),(dL cI [36,10])])) 102 (.agg [dS (⟨#[104,111,117,114]⟩ : ByteArray), .own 14 0 ([40]).length])) rfl (FzL.nil)) (mD (yP (k := 14) (t' := aB (aB (aB (aB (aB (aB (aB (aB (aB (aB (aB ((fun _ => .dead)) 0 (dS p0)) 1 (dI p1)) 2 (dI p2)) 8 (.ptr 3 0 1 0 0)) 10 (.ptr 4 0 1 0 0)) 12 (.own 5 0 (v6.1).length)) 88 (.agg [dS (⟨#[99,101,110,116,101,114]⟩ : ByteArray),(dL cI [v9.Driver,12])])) 94 (.agg [dS (⟨#[116,104,105,114,100]⟩ : ByteArray),(dL cI [v9.Driven,v10.Driver])])) 98 (.agg [dS (⟨#[101,115,99,97,112,101]⟩ : ByteArray),(dL cI [v10.Driven])])) 100 (.agg [dS (⟨#[109,105,110,117,116,101]⟩ : ByteArray),(dL cI [36,10])])) 102 (.agg [dS (⟨#[104,111,117,114]⟩ : ByteArray),(dL cI [40])])) rfl (FzL.nil)) (rS rfl (nB 15 tok bF [(⟨(⟨#[99,101,110,116,101,114]⟩ : ByteArray),[v9.Driver,12]⟩ : dH),(⟨(⟨#[116,104,105,114,100]⟩ : ByteArray),[v9.Driven,v10.Driver]⟩ : dH),(⟨(⟨#[101,115,99,97,112,101]⟩ : ByteArray),[v10.Driven]⟩ : dH),(⟨(⟨#[109,105,110,117,116,101]⟩ : ByteArray),[36,10]⟩ : dH),(⟨(⟨#[104,111,117,114]⟩ : ByteArray),[40]⟩ : dH)] rfl rfl rfl (by repeat (first | exact Els.nil _ | apply Els.cons (cs := [.d _]) rfl rfl rfl | apply Els.cons (cs := _ :: _) rfl rfl rfl)) rfl rfl rfl (by repeat (first | exact cH.nil | (apply cH.cons; (repeat (first | exact fA.nil | apply fA.cons))))) rfl rfl) ?_)))))))))))
 iterate 4 refine rP rfl (pbl (C0 := [z0,z0,z0,z0]) tok rfl rfl rfl) ?_
 refine rS rfl (nB 16 tok cQ [(⟨0,0,1,0⟩ : cY),(⟨1,1,2,0⟩ : cY),(⟨0,1,3,0⟩ : cY),(⟨3,1,4,0⟩ : cY)] rfl rfl rfl (by repeat (first | exact Els.nil _ | apply Els.cons (cs := [.d _]) rfl rfl rfl | apply Els.cons (cs := _ :: _) rfl rfl rfl)) rfl rfl rfl (by repeat (first | exact cH.nil | (apply cH.cons; (repeat (first | exact fA.nil | apply fA.cons))))) rfl rfl) (rP rfl (pbl (C0 := [zl,zl]) tok rfl rfl rfl) (al 17 [zl,zl] tok ?_))
 refine bst tok (nx (sq [0,1,2,3,4,5,6,7,8,9] ?_))
 refine pm ?_
 refine rL rfl (aW tok rfl rfl rfl rfl) (pm ?_)
 refine pm ?_
 refine rL rfl (aW tok rfl rfl rfl rfl) (rP rfl (aF (r := .own _ _ _) rfl) (rP rfl (pbl (C0 := [ze,zl,zl,z0,z0,z0,z0,z0,ze,zl,zl,z0,zl,z0]) tok rfl rfl rfl) ?_))
 obtain ⟨v11,hv11,h0⟩ := bnd h0
 refine rS rfl (fU 18 (aAd hv11) rfl rfl) (bst tok ?_)
 refine pa (nx (aD ?_))
 cases h0
 exact eK (rs := [.cell 10 34, .tmp 11]) [18,19,20,21,22,23] rfl
theorem aPy {p0 : List Int} {p1 : Int} {p2 : Int} {r : Int} (h0 : xM p0 p1 p2 = some r) : FnC Tryz.prog 9 [] [dL cU8 p0,(dI p1),(dI p2)] [] (dI r) := by
 refine fi 22 tok Tryz.func9 ?_
 unfold xM at h0
 refine sq [0] (pa (nx (aE ?_)))
 obtain ⟨v1,h1,h0⟩ := bnd h0
 refine bC ⟨aB (aB (aB (aB ((fun _ => .dead)) 0 (dL cU8 p0)) 1 (dI p1)) 2 (dI p2)) 14 (dB v1),lks [.no, .no, .no]⟩ ?_ ?_
 refine sr [0,1,2,3,4,5,6,7] (pm ?_)
 refine pm ?_
 refine rP rfl (aL tok rfl rfl rfl) (rP rfl (rF rfl rfl) (pm ?_))
 refine fI (u := 11) h1 rfl (fun hc h1 => ?_) (fun hc h1 => ?_)
 refine k1 ?_
 refine k1 ?_
 refine pkt (nx ?_)
 cases h1
 exact wk [0,1,2]
 refine pm1 ?_
 refine rp rfl (w1 rfl rfl rfl) rfl (bK rfl rfl) (pkf (nx ?_))
 cases h1
 exact wk [0,1,2]
 refine bP h0 rfl (fun hc h0 => ?_) (fun hc h0 => ?_)
 refine sq [0] (pa (nx (aD (aT ?_))))
 cases h0
 exact r0t 6 rfl
 refine sk (sq [0,1,2,3,4,5,6,7] (pm ?_))
 refine pm ?_
 obtain ⟨v2,hv2,h0⟩ := bnd h0
 refine rP rfl (cO tok hv2 rfl rfl rfl rfl rfl rfl) (lr tok ?_)
 refine rP rfl (aG1 tok rfl rfl rfl rfl rfl) (pm ?_)
 obtain ⟨hq3,h0⟩ := dM h0
 refine rP rfl (mB rfl rfl hq3) (pa (nx (aD ?_)))
 cases h0
 exact r0t 6 rfl
theorem tK {p0 : bJ} {p1 : Int} {r : Bool} (h0 : kG p0 p1 = some r) : FnC Tryz.prog 76 [] [.agg [dL bF p0.Arbors,(dL cQ p0.Meshes)],(dI p1)] [] (dB r) := by
 refine fi 11 tok Tryz.func76 ?_
 unfold kG at h0
 refine sq [0,1] (bxx 3 ?_)
 refine pa (nx (sq [0,1,2,3,4,5,6] ?_))
 refine pm ?_
 refine fa tok ?_
 refine ld tok ?_
 refine rP rfl (aL tok rfl rfl rfl) (rP rfl (hY rfl rfl) ?_)
 obtain ⟨v1,hv1,h0⟩ := bnd h0
 refine rS rfl (aM 4 (eE hv1) rfl rfl rfl) (pa (nx (aD ?_)))
 cases h0
 exact r0t 4 rfl
theorem aC1 {p0 : dH} {r : Bool} (h0 : lH p0 = some r) : FnC Tryz.prog 227 [] [.agg [dS p0.Name,(dL cI p0.Wheels)]] [] (dB r) := by
 refine fi 25 tok Tryz.func227 ?_
 unfold lH at h0
 refine sq [0,1] (bxx 3 ?_)
 refine pa (nx ?_)
 obtain ⟨v7x,h1,h0⟩ := bnd h0
 refine eN v7x (fun v7 => ⟨aB ((fun _ => .dead)) 1 (.ptr 3 0 1 0 0),lks [.no, .no, .no, .live [⟨123,2, .av [[dS p0.Name,(dL cI p0.Wheels)]]⟩]]⟩) ?_ ?_
 refine sq [0,1,2,3] (fa tok ?_)
 refine ld tok ?_
 refine rP rfl (aL tok rfl rfl rfl) (pm (nx (aG ?_)))
 refine aZ (fun s4 => ⟨aB (aB (aB (aB ((fun _ => .dead)) 1 (.ptr 3 0 1 0 0)) 6 (dL cI p0.Wheels)) 7 (dI (p0.Wheels.length : Int))) 8 (dI s4),lks [.no, .no, .no, .live [⟨123,2, .av [[dS p0.Name,(dL cI p0.Wheels)]]⟩]]⟩) h1 ?_ (fun s4 y h2 => ?_)
 exact wk [0,1,2,3]
 refine sq [0] (rP rfl (bK rfl rfl) (nx (aE ?_)))
 refine bR h2 rfl (fun hc h2 => ?_) (fun hc h2 => ?_)
 refine sk (aE (aG (sq [0,1,2] ?_)))
 obtain ⟨v5,hv5,h2⟩ := bnd h2
 refine rP rfl (cO tok hv5 rfl rfl rfl rfl rfl rfl) (lr tok ?_)
 refine pa (nx (sq [0,1,2] ?_))
 refine pm ?_
 obtain ⟨v6,hv6,h2⟩ := bnd h2
 refine rS rfl (aM 4 (qX hv6) rfl rfl rfl) (rP rfl (cE rfl) (nx ?_))
 refine bP h2 rfl (fun hc h2 => ?_) (fun hc h2 => ?_)
 refine sq [0] (pa (nx (aD ?_)))
 refine bG (aT ?_)
 cases h2
 refine fC ⟨_,rfl,fun e => ?_⟩
 subst e
 refine bG ?_
 replace h0 := jF h0
 refine aT ?_
 cases h0
 exact r0t 2 rfl
 refine cW (bB (aH (sr [0,1] (rP rfl (bN rfl rfl) (pm (aX ?_))))))
 refine cB ?_
 cases h2
 refine ⟨_,rfl,?_⟩
 exact wk [0,1,2,3]
 refine bI (cC ?_)
 cases h2
 refine cD ⟨_,rfl,fun e => ?_⟩
 subst e
 refine aU (aH ?_)
 refine ⟨_,rfl,?_⟩
 exact wk [0,1,2,3]
 rintro v7 rfl
 replace h0 := lZ h0
 refine sq [0,1,2,3,4,5,6,7,8,9] (fa tok ?_)
 refine ld tok ?_
 obtain ⟨v8,hv8,h0⟩ := bnd h0
 refine rS rfl (aM 4 (sH hv8) rfl rfl rfl) (pm ?_)
 refine dQ (u := 19) h0 rfl (fun hc h0 => ?_) (fun hc h0 => ?_)
 refine fa1 tok ?_
 refine ld1 tok ?_
 refine rp rfl (w1 rfl rfl rfl) rfl (aL tok rfl rfl rfl) (rp rfl (w1 rfl rfl rfl) rfl (gR rfl rfl) (pkt ?_))
 refine pa (nx (aD ?_))
 cases h0
 exact r0t 2 rfl
 iterate 4 refine k1 ?_
 refine pkf ?_
 refine pa (nx (aD ?_))
 cases h0
 exact r0t 2 rfl
theorem zM {p0 : bJ} {p1 : Int} {p2 : Int} {r : Bool} (h0 : mN p0 p1 p2 = some r) : FnC Tryz.prog 268 [] [.agg [dL bF p0.Arbors,(dL cQ p0.Meshes)],(dI p1),(dI p2)] [] (dB r) := by
 refine fi 25 tok Tryz.func268 ?_
 unfold mN at h0
 refine sq [0,1] (bxx 3 ?_)
 refine pa (nx (sq [0,1,2,3,4,5,6,7,8,9,10,11,12,13,14,15,16,17,18] ?_))
 refine pm ?_
 refine fa tok ?_
 refine ld tok ?_
 refine rP rfl (aL tok rfl rfl rfl) (rP rfl (hY rfl rfl) ?_)
 obtain ⟨v1,hv1,h0⟩ := bnd h0
 refine rS rfl (aM 4 (eE hv1) rfl rfl rfl) (pm ?_)
 refine dQ (u := 13) h0 rfl (fun hc h0 => ?_) (fun hc h0 => ?_)
 refine pm1 ?_
 refine fa1 tok ?_
 refine ld1 tok ?_
 refine pm1 ?_
 obtain ⟨v2,hv2,h0⟩ := bnd h0
 refine rp rfl (w1 rfl rfl rfl) rfl (cO tok hv2 rfl rfl rfl rfl rfl rfl) (fr1 tok ?_)
 refine lr1 tok ?_
 refine rp rfl (w1 rfl rfl rfl) rfl (aL tok rfl rfl rfl) (rp rfl (w1 rfl rfl rfl) rfl (hY rfl rfl) ?_)
 obtain ⟨v3,hv3,h0⟩ := bnd h0
 refine rs rfl (w1 rfl rfl rfl) rfl (aM 4 (eE hv3) rfl rfl rfl) (pkt ?_)
 refine pa (nx (aD ?_))
 cases h0
 exact r0t 6 rfl
 iterate 10 refine k1 ?_
 refine pkf ?_
 refine pa (nx (aD ?_))
 cases h0
 exact r0t 6 rfl
theorem aMx {p0 : bJ} {p1 : cY} {r : Bool} (h0 : uP p0 p1 = some r) : FnC Tryz.prog 228 [] [.agg [dL bF p0.Arbors,(dL cQ p0.Meshes)], .agg [dI p1.A,(dI p1.WheelA),(dI p1.B),(dI p1.WheelB)]] [] (dB r) := by
 refine fi 26 tok Tryz.func228 ?_
 unfold uP at h0
 refine sq [0,1,2] (bxx 3 ?_)
 refine bxx 4 ?_
 refine pa (nx (sq [0,1,2,3,4,5,6,7,8,9,10,11,12,13,14,15,16,17,18,19,20,21] ?_))
 refine fa tok ?_
 refine ld tok ?_
 refine fa tok ?_
 refine ld tok ?_
 refine rP rfl (eB rfl rfl) (pm ?_)
 refine fI (u := 10) h0 rfl (fun hc h0 => ?_) (fun hc h0 => ?_)
 refine rl rfl (w1 rfl rfl rfl) rfl (aW tok rfl rfl rfl rfl) (fa1 tok ?_)
 refine ld1 tok ?_
 refine fa1 tok ?_
 refine ld1 tok ?_
 obtain ⟨v1,hv1,h0⟩ := bnd h0
 refine rs rfl (w1 rfl rfl rfl) rfl (aM 5 (zM hv1) rfl rfl rfl) (pkt ?_)
 refine pm ?_
 refine dQ (u := 18) h0 rfl (fun hc h0 => ?_) (fun hc h0 => ?_)
 refine rl rfl (w1 rfl rfl rfl) rfl (aW tok rfl rfl rfl rfl) (fa1 tok ?_)
 refine ld1 tok ?_
 refine fa1 tok ?_
 refine ld1 tok ?_
 obtain ⟨v2,hv2,h0⟩ := bnd h0
 refine rs rfl (w1 rfl rfl rfl) rfl (aM 5 (zM hv2) rfl rfl rfl) (pkt ?_)
 refine pa (nx (aD ?_))
 cases h0
 exact r0t 4 rfl
 iterate 6 refine k1 ?_
 refine pkf ?_
 refine pa (nx (aD ?_))
 cases h0
 exact r0t 4 rfl
 iterate 6 refine k1 ?_
 refine pkf ?_
 refine pm ?_
 iterate 6 refine k1 ?_
 refine pkf ?_
 refine pa (nx (aD ?_))
 cases h0
 exact r0t 4 rfl
theorem aGq {p0 : cY} {p1 : cY} {r : Bool} (h0 : pI p0 p1 = some r) : FnC Tryz.prog 231 [] [.agg [dI p0.A,(dI p0.WheelA),(dI p0.B),(dI p0.WheelB)], .agg [dI p1.A,(dI p1.WheelA),(dI p1.B),(dI p1.WheelB)]] [] (dB r) := by
 refine fi 21 tok Tryz.func231 ?_
 unfold pI at h0
 refine sq [0,1,2] (bxx 3 ?_)
 refine bxx 4 ?_
 refine pa (nx (sq [0,1,2,3,4,5,6,7,8,9,10,11,12,13,14,15,16] ?_))
 refine rL rfl (aW tok rfl rfl rfl rfl) (rL rfl (aW tok rfl rfl rfl rfl) (rP rfl (uS (a := p0) (b := p1) rfl rfl) (pm ?_)))
 refine fI (u := 8) h0 rfl (fun hc h0 => ?_) (fun hc h0 => ?_)
 iterate 11 refine k1 ?_
 refine pkt ?_
 refine pa (nx (aD ?_))
 cases h0
 exact r0t 4 rfl
 refine rl rfl (w1 rfl rfl rfl) rfl (aW tok rfl rfl rfl rfl) (fa1 tok ?_)
 refine ld1 tok ?_
 refine fa1 tok ?_
 refine ld1 tok ?_
 refine fa1 tok ?_
 refine ld1 tok ?_
 refine fa1 tok ?_
 refine ld1 tok ?_
 refine rp rfl (w1 rfl rfl rfl) rfl (pbl (C0 := [z0,z0,z0,z0]) tok rfl rfl rfl) (rp rfl (w1 rfl rfl rfl) rfl (uS (a := p0) (b := (⟨p1.B,p1.WheelB,p1.A,p1.WheelA⟩ : cY)) rfl rfl) (pkf ?_))
 refine pa (nx (aD ?_))
 cases h0
 exact r0t 4 rfl
theorem aAc {p0 : cY} {p1 : cY} {r : Bool} (h0 : lR p0 p1 = some r) : FnC Tryz.prog 230 [] [.agg [dI p0.A,(dI p0.WheelA),(dI p0.B),(dI p0.WheelB)], .ref (cQ p1)] [] (dB r) := by
 refine fi 7 tok Tryz.func230 ?_
 unfold lR at h0
 refine sq [0,1] (bxx 3 ?_)
 refine pa (nx (sq [0,1,2,3] ?_))
 refine rP rfl (bU tok rfl rfl rfl (by repeat (first | exact lN.z _ | apply lN.t))) (rL rfl (aW tok rfl rfl rfl rfl) ?_)
 obtain ⟨v1,hv1,h0⟩ := bnd h0
 refine rS rfl (aM 4 (aGq hv1) rfl rfl rfl) (pa (nx (aD ?_)))
 cases h0
 exact r0t 3 rfl
theorem iW {p0 : List cY} {p1_0 : cY} {r : Int} (h0 : cR p0 p1_0 = some r) : FnC Tryz.prog 269 [] [dL cQ p0, .fn 230 [.ref (cQ p1_0)]] [] (dI r) := by
 refine fi 19 tok Tryz.func269 ?_
 unfold cR at h0
 refine sq [0] (pa (nx ?_))
 obtain ⟨v7x,h1,h0⟩ := bnd h0
 refine eN v7x (fun v7 => ⟨(fun _ => .dead),lks [.no, .no, .no]⟩) ?_ ?_
 refine sq [0,1,2] (pm ?_)
 refine rP rfl (aL tok rfl rfl rfl) (pm (nx (aG ?_)))
 refine aZ (fun s4 => ⟨aB (aB (aB (aB ((fun _ => .dead)) 0 (dL cQ p0)) 1 (.fn 230 [.ref (cQ p1_0)])) 7 (dI (p0.length : Int))) 8 (dI s4),lks [.no, .no, .no]⟩) h1 ?_ (fun s4 y h2 => ?_)
 exact wk [0,1,2]
 refine sq [0] (rP rfl (bK rfl rfl) (nx (aE ?_)))
 refine bR h2 rfl (fun hc h2 => ?_) (fun hc h2 => ?_)
 refine sk (aE (aG (sq [0,1] (pm ?_))))
 refine pa (nx (sq [0,1,2,3,4,5] ?_))
 refine rP rfl (aF (r := .fn _ _) rfl) (pm ?_)
 refine pm ?_
 obtain ⟨v5,hv5,h2⟩ := bnd h2
 refine rP rfl (cO tok hv5 rfl rfl rfl rfl rfl rfl) (rP rfl (bU tok rfl rfl rfl (by repeat (first | exact lN.z _ | apply lN.t))) ?_)
 obtain ⟨v6,hv6,h2⟩ := bnd h2
 refine rS rfl (aM 3 (aAc hv6) rfl rfl rfl) (nx ?_)
 refine bP h2 rfl (fun hc h2 => ?_) (fun hc h2 => ?_)
 refine sq [0,1] (pm ?_)
 refine pa (nx (aD ?_))
 refine bG (aT ?_)
 cases h2
 refine fC ⟨_,rfl,fun e => ?_⟩
 subst e
 refine bG ?_
 replace h0 := jF h0
 refine aT ?_
 cases h0
 exact r0t 4 rfl
 refine cW (bB (aH (sr [0,1] (rP rfl (bN rfl rfl) (pm (aX ?_))))))
 refine cB ?_
 cases h2
 refine ⟨_,rfl,?_⟩
 exact wk [0,1,2]
 refine bI (cC ?_)
 cases h2
 refine cD ⟨_,rfl,fun e => ?_⟩
 subst e
 refine aU (aH ?_)
 refine ⟨_,rfl,?_⟩
 exact wk [0,1,2]
 rintro v7 rfl
 replace h0 := lZ h0
 refine sq [0] (pa (nx (aD ?_)))
 cases h0
 exact r0t 4 rfl
theorem iJ {p0 : List cY} {p1_0 : cY} {r : Bool} (h0 : bY p0 p1_0 = some r) : FnC Tryz.prog 229 [] [dL cQ p0, .fn 230 [.ref (cQ p1_0)]] [] (dB r) := by
 refine fi 9 tok Tryz.func229 ?_
 unfold bY at h0
 refine sq [0] (pa (nx (sq [0,1,2,3,4] ?_)))
 refine pm ?_
 refine rP rfl (aF (r := .fn _ _) rfl) ?_
 obtain ⟨v1,hv1,h0⟩ := bnd h0
 refine rS rfl (aM 3 (iW hv1) rfl rfl rfl) (rP rfl (rF rfl rfl) (pa (nx (aD ?_))))
 cases h0
 exact r0t 4 rfl
theorem vZ {p0 : bJ} {r : Bool} (h0 : jP p0 = some r) : FnC Tryz.prog 154 [] [.agg [dL bF p0.Arbors,(dL cQ p0.Meshes)]] [] (dB r) := by
 refine fi 67 tok Tryz.func154 ?_
 unfold jP at h0
 refine sq [0,1] (bxx 3 ?_)
 refine pa (nx (aE ?_))
 obtain ⟨v1,h1,h0⟩ := bnd h0
 refine bC ⟨aB (aB ((fun _ => .dead)) 1 (.ptr 3 0 1 0 0)) 18 (dB v1),lks [.no, .no, .no, .live [⟨27,2, .av [[dL bF p0.Arbors,(dL cQ p0.Meshes)]]⟩]]⟩ ?_ ?_
 refine sr [0,1,2,3,4,5,6,7,8,9] (fa tok ?_)
 refine ld tok ?_
 refine rP rfl (aL tok rfl rfl rfl) (rP rfl (gO rfl rfl) (pm ?_))
 refine fI (u := 13) h1 rfl (fun hc h1 => ?_) (fun hc h1 => ?_)
 iterate 4 refine k1 ?_
 refine pkt (nx ?_)
 cases h1
 exact wk [0,1,2,3]
 refine fa1 tok ?_
 refine ld1 tok ?_
 refine rp rfl (w1 rfl rfl rfl) rfl (aL tok rfl rfl rfl) (rp rfl (w1 rfl rfl rfl) rfl (gO rfl rfl) (pkf (nx ?_)))
 cases h1
 exact wk [0,1,2,3]
 refine bP h0 rfl (fun hc h0 => ?_) (fun hc h0 => ?_)
 refine sq [0] (pa (nx (aD (aT ?_))))
 cases h0
 exact r0t 2 rfl
 refine sk ?_
 obtain ⟨v20x,h1,h0⟩ := bnd h0
 refine eN v20x (fun v20 => ⟨aB ((fun _ => .dead)) 1 (.ptr 3 0 1 0 0),lks [.no, .no, .no, .live [⟨27,2, .av [[dL bF p0.Arbors,(dL cQ p0.Meshes)]]⟩]]⟩) ?_ ?_
 refine sq [0,1,2,3] (fa tok ?_)
 refine ld tok ?_
 refine rP rfl (aL tok rfl rfl rfl) (pm (nx (aG ?_)))
 refine aZ (fun s11 => ⟨aB (aB (aB (aB ((fun _ => .dead)) 1 (.ptr 3 0 1 0 0)) 20 (dL bF p0.Arbors)) 21 (dI (p0.Arbors.length : Int))) 22 (dI s11),lks [.no, .no, .no, .live [⟨27,2, .av [[dL bF p0.Arbors,(dL cQ p0.Meshes)]]⟩]]⟩) h1 ?_ (fun s11 y h2 => ?_)
 exact wk [0,1,2,3]
 refine sq [0] (rP rfl (bK rfl rfl) (nx (aE ?_)))
 refine bR h2 rfl (fun hc h2 => ?_) (fun hc h2 => ?_)
 refine sk ?_
 obtain ⟨v19x,h3,h2⟩ := bnd h2
 refine eN v19x (fun v19 => ⟨aB (aB (aB (aB ((fun _ => .dead)) 1 (.ptr 3 0 1 0 0)) 20 (dL bF p0.Arbors)) 21 (dI (p0.Arbors.length : Int))) 22 (dI s11),lks [.no, .no, .no, .live [⟨27,2, .av [[dL bF p0.Arbors,(dL cQ p0.Meshes)]]⟩]]⟩) ?_ ?_
 refine aG (sq [0,1,2,3,4,5] (pm ?_))
 obtain ⟨v12,hv12,h3⟩ := bnd h3
 refine rP rfl (cO tok hv12 rfl rfl rfl rfl rfl rfl) (rP rfl (bU tok rfl rfl rfl (by repeat (first | exact lN.z _ | apply lN.t))) (al 4 [ze,zl] tok ?_))
 refine pa ?_
 refine bst tok (nx (aE (sq [0,1,2] ?_)))
 refine rL rfl (aW tok rfl rfl rfl rfl) ?_
 obtain ⟨v13,hv13,h3⟩ := bnd h3
 refine rS rfl (aM 5 (aC1 hv13) rfl rfl rfl) (rP rfl (cE rfl) (nx ?_))
 refine bP h3 rfl (fun hc h3 => ?_) (fun hc h3 => ?_)
 refine sq [0] (pa (nx (aD (aT ?_))))
 refine bG ?_
 cases h3
 replace h2 := jF h2
 refine aT ?_
 cases h2
 refine fC ⟨_,rfl,fun e => ?_⟩
 subst e
 refine bG ?_
 replace h0 := jF h0
 refine aT ?_
 cases h0
 exact r0t 2 rfl
 refine sk (sq [0,1,2,3,4,5] (fa tok ?_))
 refine ld tok ?_
 refine pm ?_
 obtain ⟨hq14,h3⟩ := dM h3
 refine rP rfl (tO tok hq14 rfl (.inl ⟨rfl,rfl⟩) (.inr ⟨_,_,rfl,rfl⟩) rfl rfl rfl (fun _ => rfl)) (rP rfl (aL tok rfl rfl rfl) (pm (nx (aG ?_))))
 refine aZ (fun s17 => ⟨aB (aB (aB (aB (aB (aB (aB (aB ((fun _ => .dead)) 1 (.ptr 3 0 1 0 0)) 4 (.ptr 4 0 1 0 0)) 20 (dL bF p0.Arbors)) 21 (dI (p0.Arbors.length : Int))) 22 (dI s11)) 33 (dL bF (wU p0.Arbors (0 : Int) s11))) 34 (dI ((wU p0.Arbors (0 : Int) s11).length : Int))) 35 (dI s17),lks [.no, .no, .no, .live [⟨27,2, .av [[dL bF p0.Arbors,(dL cQ p0.Meshes)]]⟩], .live [⟨123,2, .av [[dS v12.Name,(dL cI v12.Wheels)]]⟩]]⟩) h3 ?_ (fun s17 y h4 => ?_)
 exact wk [0,1,2,3,4]
 refine sq [0] (rP rfl (bK rfl rfl) (nx (aE ?_)))
 refine bR h4 rfl (fun hc h4 => ?_) (fun hc h4 => ?_)
 refine sk (aE (aG (sq [0,1,2,3] ?_)))
 obtain ⟨v18,hv18,h4⟩ := bnd h4
 refine rP rfl (cO tok hv18 rfl rfl rfl rfl rfl rfl) (rP rfl (bU tok rfl rfl rfl (by repeat (first | exact lN.z _ | apply lN.t))) (al 5 [ze,zl] tok ?_))
 refine bst tok (nx (sq [0,1,2,3,4] ?_))
 refine fa tok ?_
 refine ld tok ?_
 refine fa tok ?_
 refine ld tok ?_
 refine rP rfl (tQ rfl rfl) (nx ?_)
 refine bR h4 rfl (fun hc h4 => ?_) (fun hc h4 => ?_)
 refine sq [0] (pa (nx (aD ?_)))
 refine bG (aT ?_)
 cases h4
 refine fC ⟨_,rfl,fun e => ?_⟩
 subst e
 refine bG (bG ?_)
 replace h2 := jF h2
 refine aT ?_
 cases h2
 refine fC ⟨_,rfl,fun e => ?_⟩
 subst e
 refine bG ?_
 replace h0 := jF h0
 refine aT ?_
 cases h0
 exact r0t 2 rfl
 refine cW (bB (aH (sr [0,1] (rP rfl (bN rfl rfl) (pm (aX ?_))))))
 refine cB ?_
 cases h4
 refine ⟨_,rfl,?_⟩
 exact wk [0,1,2,3,4]
 refine bI (cC ?_)
 cases h4
 refine cD ⟨_,rfl,fun e => ?_⟩
 subst e
 refine aU ?_
 refine bB (aH ?_)
 refine ⟨_,rfl,?_⟩
 exact wk [0,1,2,3]
 rintro v19 rfl
 replace h2 := lZ h2
 refine sr [0,1] (rP rfl (bN rfl rfl) (pm (aX ?_)))
 refine cB ?_
 cases h2
 refine ⟨_,rfl,?_⟩
 exact wk [0,1,2,3]
 refine bI (cC ?_)
 cases h2
 refine cD ⟨_,rfl,fun e => ?_⟩
 subst e
 refine aU (aH ?_)
 refine ⟨_,rfl,?_⟩
 exact wk [0,1,2,3]
 rintro v20 rfl
 replace h0 := lZ h0
 obtain ⟨v33x,h1,h0⟩ := bnd h0
 refine eN v33x (fun v33 => ⟨(fun _ => .dead),lks [.no, .no, .no]⟩) ?_ ?_
 refine sq [0,1,2,3] (fa tok ?_)
 refine ld tok ?_
 refine rP rfl (aL tok rfl rfl rfl) (pm (nx (aG ?_)))
 refine aZ (fun s27 => ⟨aB (aB (aB (aB ((fun _ => .dead)) 1 (.ptr 3 0 1 0 0)) 47 (dL cQ p0.Meshes)) 48 (dI (p0.Meshes.length : Int))) 49 (dI s27),lks [.no, .no, .no, .live [⟨27,2, .av [[dL bF p0.Arbors,(dL cQ p0.Meshes)]]⟩]]⟩) h1 ?_ (fun s27 y h2 => ?_)
 exact wk [0,1,2,3]
 refine sq [0] (rP rfl (bK rfl rfl) (nx (aE ?_)))
 refine bR h2 rfl (fun hc h2 => ?_) (fun hc h2 => ?_)
 refine sk (aE (aG (sq [0,1,2,3,4,5] (pm ?_))))
 obtain ⟨v28,hv28,h2⟩ := bnd h2
 refine rP rfl (cO tok hv28 rfl rfl rfl rfl rfl rfl) (rP rfl (bU tok rfl rfl rfl (by repeat (first | exact lN.z _ | apply lN.t))) (al 4 [z0,z0,z0,z0] tok ?_))
 refine pa ?_
 refine bst tok (nx ?_)
 obtain ⟨v32,h3,h2⟩ := bnd h2
 refine bC ⟨aB (aB (aB (aB (aB ((fun _ => .dead)) 1 (.ptr 3 0 1 0 0)) 47 (dL cQ p0.Meshes)) 48 (dI (p0.Meshes.length : Int))) 49 (dI s27)) 65 (dB v32),lks [.no, .no, .no, .live [⟨27,2, .av [[dL bF p0.Arbors,(dL cQ p0.Meshes)]]⟩]]⟩ ?_ ?_
 refine sr [0,1,2,3,4,5,6,7,8,9,10,11] (rL rfl (aW tok rfl rfl rfl rfl) (rL rfl (aW tok rfl rfl rfl rfl) ?_))
 obtain ⟨v29,hv29,h3⟩ := bnd h3
 refine rS rfl (aM 5 (aMx hv29) rfl rfl rfl) (rP rfl (cE rfl) (pm ?_))
 refine dQ (u := 58) h3 rfl (fun hc h3 => ?_) (fun hc h3 => ?_)
 iterate 6 refine k1 ?_
 refine pkt (nx ?_)
 cases h3
 exact wk [0,1,2,3]
 refine fa1 tok ?_
 refine ld1 tok ?_
 refine pm1 ?_
 obtain ⟨hq30,h3⟩ := dM h3
 refine rp rfl (w1 rfl rfl rfl) rfl (tO tok hq30 rfl (.inl ⟨rfl,rfl⟩) (.inr ⟨_,_,rfl,rfl⟩) rfl rfl rfl (fun _ => rfl)) (rp rfl (w1 rfl rfl rfl) rfl (aIu rfl) ?_)
 obtain ⟨v31,hv31,h3⟩ := bnd h3
 refine rs rfl (w1 rfl rfl rfl) rfl (fU 5 (iJ hv31) rfl rfl) (pkf (nx ?_))
 cases h3
 exact wk [0,1,2,3]
 refine bP h2 rfl (fun hc h2 => ?_) (fun hc h2 => ?_)
 refine sq [0] (pa (nx (aD ?_)))
 refine bG (aT ?_)
 cases h2
 refine fC ⟨_,rfl,fun e => ?_⟩
 subst e
 refine bG ?_
 replace h0 := jF h0
 refine aT ?_
 cases h0
 exact r0t 2 rfl
 refine cW (bB (aH (sr [0,1] (rP rfl (bN rfl rfl) (pm (aX ?_))))))
 refine cB ?_
 cases h2
 refine ⟨_,rfl,?_⟩
 exact wk [0,1,2,3]
 refine bI (cC ?_)
 cases h2
 refine cD ⟨_,rfl,fun e => ?_⟩
 subst e
 refine aU (aH ?_)
 refine ⟨_,rfl,?_⟩
 exact wk [0,1,2]
 rintro v33 rfl
 replace h0 := lZ h0
 refine sq [0] (pa (nx (aD ?_)))
 cases h0
 exact r0t 2 rfl
theorem aGl {p0 : List Int} {r : Bool} (h0 : pF p0 = some r) : FnC Tryz.prog 133 [] [dL cI p0] [] (dB r) := by
 refine fi 23 tok Tryz.func133 ?_
 unfold pF at h0
 refine sq [0] (pa (nx ?_))
 obtain ⟨v7x,h1,h0⟩ := bnd h0
 refine eN v7x (fun v7 => ⟨aB ((fun _ => .dead)) 0 (dL cI p0),lks [.no, .no, .no]⟩) ?_ ?_
 refine sq [0,1,2] (pm ?_)
 refine rP rfl (aL tok rfl rfl rfl) (pm (nx (aG ?_)))
 refine aZ (fun s4 => ⟨aB (aB (aB (aB ((fun _ => .dead)) 0 (dL cI p0)) 5 (dL cI p0)) 6 (dI (p0.length : Int))) 7 (dI s4),lks [.no, .no, .no]⟩) h1 ?_ (fun s4 y h2 => ?_)
 exact wk [0,1,2]
 refine sq [0] (rP rfl (bK rfl rfl) (nx (aE ?_)))
 refine bR h2 rfl (fun hc h2 => ?_) (fun hc h2 => ?_)
 refine sk (aE (aG (sq [0,1,2] ?_)))
 obtain ⟨v5,hv5,h2⟩ := bnd h2
 refine rP rfl (cO tok hv5 rfl rfl rfl rfl rfl rfl) (lr tok ?_)
 refine pa (nx (sq [0,1,2] ?_))
 refine pm ?_
 obtain ⟨v6,hv6,h2⟩ := bnd h2
 refine rS rfl (aM 3 (eE hv6) rfl rfl rfl) (rP rfl (cE rfl) (nx ?_))
 refine bP h2 rfl (fun hc h2 => ?_) (fun hc h2 => ?_)
 refine sq [0] (pa (nx (aD ?_)))
 refine bG (aT ?_)
 cases h2
 refine fC ⟨_,rfl,fun e => ?_⟩
 subst e
 refine bG ?_
 replace h0 := jF h0
 refine aT ?_
 cases h0
 exact r0t 2 rfl
 refine cW (bB (aH (sr [0,1] (rP rfl (bN rfl rfl) (pm (aX ?_))))))
 refine cB ?_
 cases h2
 refine ⟨_,rfl,?_⟩
 exact wk [0,1,2]
 refine bI (cC ?_)
 cases h2
 refine cD ⟨_,rfl,fun e => ?_⟩
 subst e
 refine aU (aH ?_)
 refine ⟨_,rfl,?_⟩
 exact wk [0,1,2]
 rintro v7 rfl
 replace h0 := lZ h0
 refine sq [0,1,2,3,4,5,6,7,8] (pm ?_)
 refine rP rfl (aL tok rfl rfl rfl) (rP rfl (rF rfl rfl) (pm ?_))
 refine fI (u := 18) h0 rfl (fun hc h0 => ?_) (fun hc h0 => ?_)
 refine pm1 ?_
 refine rp rfl (w1 rfl rfl rfl) rfl (aL tok rfl rfl rfl) (rp rfl (w1 rfl rfl rfl) rfl (gR rfl rfl) (pkt ?_))
 refine pa (nx (aD ?_))
 cases h0
 exact r0t 2 rfl
 iterate 3 refine k1 ?_
 refine pkf ?_
 refine pa (nx (aD ?_))
 cases h0
 exact r0t 2 rfl
theorem sI {p0 : aV} {r : Bool} (h0 : gF p0 = some r) : FnC Tryz.prog 74 [] [.agg [dS p0.Name,(dL bF p0.Works.Arbors),(dL cQ p0.Works.Meshes),(dI p0.Minute),(dI p0.Hour),(dI p0.Escape),(dI p0.Teeth),(dI p0.Beats),(dS p0.Calendar.Name),(dL aY p0.Calendar.Months),(dL aP p0.Calendar.Rules),(dI p0.Calendar.Week),(dL cI p0.Cam),(dI p0.Strike)]] [] (dB r) := by
 refine fi 61 tok Tryz.func74 ?_
 unfold gF at h0
 refine sq [0,1] (bxx 3 ?_)
 refine pa (nx ?_)
 obtain ⟨v4,h1,h0⟩ := bnd h0
 refine bC ⟨aB (aB ((fun _ => .dead)) 1 (.ptr 3 0 1 0 0)) 3 (dB v4),lks [.no, .no, .no, .live [⟨34,14, .av [[dS p0.Name,(dL bF p0.Works.Arbors),(dL cQ p0.Works.Meshes),(dI p0.Minute),(dI p0.Hour),(dI p0.Escape),(dI p0.Teeth),(dI p0.Beats),(dS p0.Calendar.Name),(dL aY p0.Calendar.Months),(dL aP p0.Calendar.Rules),(dI p0.Calendar.Week),(dL cI p0.Cam),(dI p0.Strike)]]⟩]]⟩ ?_ ?_
 refine sr [0,1,2,3,4,5,6,7,8,9,10,11,12,13,14,15,16,17,18,19] (fa tok ?_)
 refine rL rfl (aW tok rfl rfl rfl rfl) (fa tok ?_)
 refine ld tok ?_
 obtain ⟨v1,hv1,h1⟩ := bnd h1
 refine rS rfl (aM 4 (tK hv1) rfl rfl rfl) (pm ?_)
 refine dQ (u := 10) h1 rfl (fun hc h1 => ?_) (fun hc h1 => ?_)
 refine fa1 tok ?_
 refine rl rfl (w1 rfl rfl rfl) rfl (aW tok rfl rfl rfl rfl) (fa1 tok ?_)
 refine ld1 tok ?_
 obtain ⟨v2,hv2,h1⟩ := bnd h1
 refine rs rfl (w1 rfl rfl rfl) rfl (aM 4 (tK hv2) rfl rfl rfl) (pkt ?_)
 refine pm ?_
 refine dQ (u := 17) h1 rfl (fun hc h1 => ?_) (fun hc h1 => ?_)
 refine fa1 tok ?_
 refine rl rfl (w1 rfl rfl rfl) rfl (aW tok rfl rfl rfl rfl) (fa1 tok ?_)
 refine ld1 tok ?_
 obtain ⟨v3,hv3,h1⟩ := bnd h1
 refine rs rfl (w1 rfl rfl rfl) rfl (aM 4 (tK hv3) rfl rfl rfl) (pkt ?_)
 refine pa (nx ?_)
 cases h1
 exact wk [0,1,2,3]
 iterate 5 refine k1 ?_
 refine pkf ?_
 refine pa (nx ?_)
 cases h1
 exact wk [0,1,2,3]
 iterate 5 refine k1 ?_
 refine pkf ?_
 refine pm ?_
 iterate 5 refine k1 ?_
 refine pkf ?_
 refine pa (nx ?_)
 cases h1
 exact wk [0,1,2,3]
 obtain ⟨v8,h1,h0⟩ := bnd h0
 refine bC ⟨aB (aB (aB ((fun _ => .dead)) 1 (.ptr 3 0 1 0 0)) 3 (dB v4)) 4 (dB v8),lks [.no, .no, .no, .live [⟨34,14, .av [[dS p0.Name,(dL bF p0.Works.Arbors),(dL cQ p0.Works.Meshes),(dI p0.Minute),(dI p0.Hour),(dI p0.Escape),(dI p0.Teeth),(dI p0.Beats),(dS p0.Calendar.Name),(dL aY p0.Calendar.Months),(dL aP p0.Calendar.Rules),(dI p0.Calendar.Week),(dL cI p0.Cam),(dI p0.Strike)]]⟩]]⟩ ?_ ?_
 refine sr [0,1,2,3,4,5,6,7,8,9,10,11,12,13] (fa tok ?_)
 refine ld tok ?_
 obtain ⟨v5,hv5,h1⟩ := bnd h1
 refine rS rfl (aM 4 (qX hv5) rfl rfl rfl) (pm ?_)
 refine dQ (u := 27) h1 rfl (fun hc h1 => ?_) (fun hc h1 => ?_)
 refine fa1 tok ?_
 refine ld1 tok ?_
 obtain ⟨v6,hv6,h1⟩ := bnd h1
 refine rs rfl (w1 rfl rfl rfl) rfl (aM 4 (eE hv6) rfl rfl rfl) (pkt ?_)
 refine pm ?_
 refine dQ (u := 32) h1 rfl (fun hc h1 => ?_) (fun hc h1 => ?_)
 refine fa1 tok ?_
 refine ld1 tok ?_
 obtain ⟨v7,hv7,h1⟩ := bnd h1
 refine rs rfl (w1 rfl rfl rfl) rfl (aM 4 (eE hv7) rfl rfl rfl) (pkt ?_)
 refine pa (nx ?_)
 cases h1
 exact wk [0,1,2,3]
 iterate 3 refine k1 ?_
 refine pkf ?_
 refine pa (nx ?_)
 cases h1
 exact wk [0,1,2,3]
 iterate 3 refine k1 ?_
 refine pkf ?_
 refine pm ?_
 iterate 3 refine k1 ?_
 refine pkf ?_
 refine pa (nx ?_)
 cases h1
 exact wk [0,1,2,3]
 refine sq [0,1,2,3,4,5,6,7,8,9,10,11,12,13,14,15,16,17,18,19,20,21,22,23,24] (pm ?_)
 refine pm ?_
 refine dQ (u := 38) h0 rfl (fun hc h0 => ?_) (fun hc h0 => ?_)
 refine pm1 ?_
 refine pkt ?_
 refine pm ?_
 refine dQ (u := 41) h0 rfl (fun hc h0 => ?_) (fun hc h0 => ?_)
 refine fa1 tok ?_
 refine ld1 tok ?_
 obtain ⟨v9,hv9,h0⟩ := bnd h0
 refine rs rfl (w1 rfl rfl rfl) rfl (aM 4 (sH hv9) rfl rfl rfl) (pkt ?_)
 refine pm ?_
 refine dQ (u := 46) h0 rfl (fun hc h0 => ?_) (fun hc h0 => ?_)
 refine fa1 tok ?_
 refine rl rfl (w1 rfl rfl rfl) rfl (aW tok rfl rfl rfl rfl) ?_
 obtain ⟨v10,hv10,h0⟩ := bnd h0
 refine rs rfl (w1 rfl rfl rfl) rfl (aM 4 (vZ hv10) rfl rfl rfl) (pkt ?_)
 refine pm ?_
 refine dQ (u := 51) h0 rfl (fun hc h0 => ?_) (fun hc h0 => ?_)
 refine fa1 tok ?_
 refine rl rfl (w1 rfl rfl rfl) rfl (aW tok rfl rfl rfl rfl) ?_
 obtain ⟨v11,hv11,h0⟩ := bnd h0
 refine rs rfl (w1 rfl rfl rfl) rfl (aM 4 (oB hv11) rfl rfl rfl) (pkt ?_)
 refine pm ?_
 refine dQ (u := 56) h0 rfl (fun hc h0 => ?_) (fun hc h0 => ?_)
 refine fa1 tok ?_
 refine ld1 tok ?_
 obtain ⟨v12,hv12,h0⟩ := bnd h0
 refine rs rfl (w1 rfl rfl rfl) rfl (aM 4 (aGl hv12) rfl rfl rfl) (pkt ?_)
 refine pa (nx (aD ?_))
 cases h0
 exact r0t 2 rfl
 iterate 3 refine k1 ?_
 refine pkf ?_
 refine pa (nx (aD ?_))
 cases h0
 exact r0t 2 rfl
 iterate 3 refine k1 ?_
 refine pkf ?_
 refine pm ?_
 iterate 3 refine k1 ?_
 refine pkf ?_
 refine pa (nx (aD ?_))
 cases h0
 exact r0t 2 rfl
 iterate 3 refine k1 ?_
 refine pkf ?_
 refine pm ?_
 iterate 3 refine k1 ?_
 refine pkf ?_
 refine pm ?_
 iterate 3 refine k1 ?_
 refine pkf ?_
 refine pa (nx (aD ?_))
 cases h0
 exact r0t 2 rfl
 iterate 3 refine k1 ?_
 refine pkf ?_
 refine pm ?_
 iterate 3 refine k1 ?_
 refine pkf ?_
 refine pm ?_
 iterate 3 refine k1 ?_
 refine pkf ?_
 refine pm ?_
 iterate 3 refine k1 ?_
 refine pkf ?_
 refine pa (nx (aD ?_))
 cases h0
 exact r0t 2 rfl
 refine k1 ?_
 refine pkf ?_
 refine pm ?_
 iterate 3 refine k1 ?_
 refine pkf ?_
 refine pm ?_
 iterate 3 refine k1 ?_
 refine pkf ?_
 refine pm ?_
 iterate 3 refine k1 ?_
 refine pkf ?_
 refine pm ?_
 iterate 3 refine k1 ?_
 refine pkf ?_
 refine pa (nx (aD ?_))
 cases h0
 exact r0t 2 rfl
theorem aDm {p0 : bJ} {p1 : cY} {r : bE} (h0 : mQ p0 p1 = some r) : FnC Tryz.prog 158 [] [.agg [dL bF p0.Arbors,(dL cQ p0.Meshes)], .agg [dI p1.A,(dI p1.WheelA),(dI p1.B),(dI p1.WheelB)]] [] (.agg [dI r.Driver,(dI r.Driven)]) := by
 refine fi 28 tok Tryz.func158 ?_
 unfold mQ at h0
 refine sq [0,1,2] (bxx 3 ?_)
 refine bxx 4 ?_
 refine al 5 [z0,z0] tok (nx (aE ?_))
 refine aK (is := [0,1,2,3,4,5,6,7,8,9,10,11,12,13,14,15,16,17,18,19,20,21,22,23]) [0,1,0,4,15,31,63,0,128,511,1023,0,2048,0,8192,30720,63488,129024,0,262144,1046528,2095104,4194303,8388607] follows (by kernel_rfl) (tfa tok ?_)
 refine tld tok ?_
 refine tfa tok ?_
 refine tld tok ?_
 obtain ⟨v1,hv1,h0⟩ := bnd h0
 refine tP rfl (cO tok hv1 rfl rfl rfl rfl rfl rfl) (tfr tok ?_)
 refine tlr tok ?_
 refine tfa tok ?_
 refine tld tok ?_
 obtain ⟨v2,hv2,h0⟩ := bnd h0
 refine tP rfl (cO tok hv2 rfl rfl rfl rfl rfl rfl) (tlr tok ?_)
 refine tfa tok ?_
 refine tld tok ?_
 refine tfa tok ?_
 refine tld tok ?_
 obtain ⟨v3,hv3,h0⟩ := bnd h0
 refine tP rfl (cO tok hv3 rfl rfl rfl rfl rfl rfl) (tfr tok ?_)
 refine tlr tok ?_
 refine tfa tok ?_
 refine tld tok ?_
 obtain ⟨v4,hv4,h0⟩ := bnd h0
 refine tP rfl (cO tok hv4 rfl rfl rfl rfl rfl rfl) (tlr tok ?_)
 refine tP rfl (pbl (C0 := [z0,z0]) tok rfl rfl rfl) (qH rfl w0 (kY (cs := _ :: _) tok rfl rfl rfl rfl rfl rfl rfl) (bS ?_))
 refine ⟨by kernel_rfl,?_⟩
 refine aH (aD ?_)
 cases h0
 exact eI (rs := [.cell 4 121]) rfl
theorem aDl {p0 : aA} {p1 : Int} {p2 : Int} {r : aA × Int} (h0 : mP p0 p1 p2 = some r) : FnC Tryz.prog 159 [] [.agg [dI p0.Num,(dI p0.Den)],(dI p1),(dI p2)] [] (.tup [.agg [dI r.1.Num,(dI r.1.Den)],(dI r.2)]) := by
 refine fi 22 tok Tryz.func159 ?_
 unfold mP at h0
 refine sq [0,1,2] (bxx 3 ?_)
 refine al 4 [z0,z0] tok ?_
 refine pa (nx (sq [0,1,2,3,4,5,6,7,8,9] ?_))
 refine pm ?_
 refine rP rfl (uT rfl) (pm ?_)
 obtain ⟨v1,hv1,h0⟩ := bnd h0
 refine rS rfl (aM 5 (jB hv1) rfl rfl rfl) (rP rfl (aF (r := .tup _) rfl) (rP rfl (aJ rfl rfl) (rP rfl (aJ rfl rfl) (al 5 [z0,z0] tok ?_))))
 refine bst tok ?_
 refine pa (nx (sq [0,1,2,3,4,5,6] ?_))
 refine rL rfl (aW tok rfl rfl rfl rfl) (rL rfl (aW tok rfl rfl rfl rfl) ?_)
 obtain ⟨v2,hv2,h0⟩ := bnd h0
 refine rS rfl (aM 6 (uK hv2) rfl rfl rfl) (rP rfl (aJ rfl rfl) (rP rfl (aJ rfl rfl) (bst tok ?_)))
 refine pa (nx (aD ?_))
 cases h0
 exact eI (rs := [.cell 6 62, .tmp 7]) rfl
theorem aCz {p0 : bJ} {p1 : Int} {r : List aA × Int} (h0 : lG p0 p1 = some r) : FnC Tryz.prog 155 [] [.agg [dL bF p0.Arbors,(dL cQ p0.Meshes)],(dI p1)] [.live [⟨62,2, .data (List.map iM r.1)⟩]] (.tup [.own 0 0 r.1.length,(dI r.2)]) := by
 refine fi 86 tok Tryz.func155 ?_
 unfold lG at h0
 refine sq [0,1,2] (bxx 3 ?_)
 refine pa ?_
 refine pa (nx (sq [0,1,2,3,4] ?_))
 refine fa tok ?_
 refine ld tok ?_
 refine rP rfl (aL tok rfl rfl rfl) ?_
 obtain ⟨hq1,h0⟩ := dM h0
 refine rS rfl (aNa 4 tok (c := iM) (⟨0,0⟩ : aA) hq1 rfl rfl rfl rfl rfl rfl rfl rfl rfl rfl rfl rfl rfl) (rP rfl (aR (r := .own _ _ _) rfl) (nx (sq [0,1,2,3,4] (rP rfl (aF (r := .own _ _ _) rfl) (pm ?_)))))
 refine rP rfl (pbl (C0 := [z0,z0]) tok rfl rfl rfl) ?_
 obtain ⟨v2,hv2,h0⟩ := bnd h0
 refine rL rfl (jU tok hv2 rfl rfl rfl rfl rfl rfl rfl rfl) (rw0 rfl w0 (aIx (cs := _ :: _) tok (⟨1,1⟩ : aA) (gV hv2).2.1 rfl rfl rfl rfl rfl rfl rfl rfl) (nx ?_))
 obtain ⟨v53x,h1,h0⟩ := bnd h0
 refine eN v53x (fun v53 => ⟨aB ((fun _ => .dead)) 6 (.own 3 0 (v53).length),lks [.no, .no, .no, .live [⟨62,2, .data (List.map iM v53)⟩]]⟩) ?_ ?_
 refine sq [0] (pa (nx (aG ?_)))
 refine aZ (fun s28 => ⟨aB (aB (aB ((fun _ => .dead)) 2 (.ptr 3 0 1 0 0)) 6 (.own 4 0 (s28.2).length)) 7 (dB s28.1),lks [.no, .no, .no, .live [⟨27,2, .av [[dL bF p0.Arbors,(dL cQ p0.Meshes)]]⟩], .live [⟨62,2, .data (List.map iM s28.2)⟩]]⟩) h1 ?_ (fun s28 y h2 => ?_)
 exact wk [0,1,2,3,4]
 refine aE (sq [0] (pm (nx ?_)))
 refine bP h2 rfl (fun hc h2 => ?_) (fun hc h2 => ?_)
 refine sk (aG (sq [0] (pa (nx (sq [0,1,2,3] ?_)))))
 refine fa tok ?_
 refine ld tok ?_
 refine rP rfl (aL tok rfl rfl rfl) (pm (nx (aG ?_)))
 refine aZ (fun s41 => ⟨aB (aB (aB (aB (aB (aB ((fun _ => .dead)) 2 (.ptr 3 0 1 0 0)) 6 (.own 4 0 (s41.2.2).length)) 7 (dB s41.1)) 25 (dL cQ p0.Meshes)) 26 (dI (p0.Meshes.length : Int))) 27 (dI s41.2.1),lks [.no, .no, .no, .live [⟨27,2, .av [[dL bF p0.Arbors,(dL cQ p0.Meshes)]]⟩], .live [⟨62,2, .data (List.map iM s41.2.2)⟩]]⟩) h2 ?_ (fun s41 y h3 => ?_)
 exact wk [0,1,2,3,4]
 refine sq [0] (rP rfl (bK rfl rfl) (nx (aE ?_)))
 refine bR h3 rfl (fun hc h3 => ?_) (fun hc h3 => ?_)
 refine sk ?_
 obtain ⟨v52x,h4,h3⟩ := bnd h3
 refine eN v52x (fun v52 => ⟨aB (aB (aB (aB (aB (aB ((fun _ => .dead)) 2 (.ptr 3 0 1 0 0)) 6 (.own 4 0 (v52.2).length)) 7 (dB v52.1)) 25 (dL cQ p0.Meshes)) 26 (dI (p0.Meshes.length : Int))) 27 (dI s41.2.1),lks [.no, .no, .no, .live [⟨27,2, .av [[dL bF p0.Arbors,(dL cQ p0.Meshes)]]⟩], .live [⟨62,2, .data (List.map iM v52.2)⟩]]⟩) ?_ ?_
 refine aG (sq [0,1,2,3] ?_)
 obtain ⟨v42,hv42,h4⟩ := bnd h4
 refine rP rfl (cO tok hv42 rfl rfl rfl rfl rfl rfl) (rP rfl (bU tok rfl rfl rfl (by repeat (first | exact lN.z _ | apply lN.t))) (al 5 [z0,z0,z0,z0] tok ?_))
 refine bst tok (nx (sq [0,1,2,3,4] ?_))
 refine rL rfl (aW tok rfl rfl rfl rfl) (rL rfl (aW tok rfl rfl rfl rfl) ?_)
 obtain ⟨v43,hv43,h4⟩ := bnd h4
 refine rS rfl (aM 6 (aDm hv43) rfl rfl rfl) (al 6 [z0,z0] tok ?_)
 refine bst tok (nx (aE ?_))
 refine aK (is := [0,1,2,3,4,5]) [0,1,0,4,3,31] follows (by kernel_rfl) (tfa tok ?_)
 refine tld tok ?_
 refine tfa tok ?_
 refine tld tok ?_
 refine tpa ?_
 refine tpa ?_
 refine bS ?_
 refine ⟨by kernel_rfl,?_⟩
 refine aH ?_
 obtain ⟨v45,h5,h4⟩ := bnd h4
 refine bC ⟨aB (aB (aB (aB (aB (aB (aB (aB (aB ((fun _ => .dead)) 2 (.ptr 3 0 1 0 0)) 6 (.own 4 0 (s41.2.2).length)) 7 (dB s41.1)) 10 (.ptr 5 0 1 0 0)) 11 (dI v45.1)) 12 (dI v45.2.1)) 25 (dL cQ p0.Meshes)) 26 (dI (p0.Meshes.length : Int))) 27 (dI s41.2.1),lks [.no, .no, .no, .live [⟨27,2, .av [[dL bF p0.Arbors,(dL cQ p0.Meshes)]]⟩], .live [⟨62,2, .data (List.map iM s41.2.2)⟩], .live [⟨121,2, .av [[dI v45.2.2.Driver,(dI v45.2.2.Driven)]]⟩]]⟩ ?_ ?_
 refine sq [0,1,2,3,4,5] (rP rfl (aF (r := .own _ _ _) rfl) (pm ?_))
 obtain ⟨v44,hv44,h5⟩ := bnd h5
 refine rL rfl (jU tok hv44 rfl rfl rfl rfl rfl rfl rfl rfl) (rL rfl (aQh tok (gV hv44).2.1 rfl rfl rfl rfl rfl rfl rfl rfl) (rL rfl (lK tok (gV hv44).2.1 rfl rfl rfl rfl rfl rfl) (rP rfl (iT rfl rfl) (nx ?_))))
 refine bR h5 rfl (fun hc h5 => ?_) (fun hc h5 => ?_)
 refine sq [0,1,2,3] (pm ?_)
 refine pm ?_
 refine pa ?_
 refine pa (nx (sr [0,1,2,3,4,5] ?_))
 refine fa tok ?_
 refine ld tok ?_
 refine fa tok ?_
 refine ld tok ?_
 refine rP rfl (pbl (C0 := [z0,z0]) tok rfl rfl rfl) (bst tok (nx ?_))
 cases h5
 exact wk [0,1,2,3,4,6]
 refine sk ?_
 cases h5
 exact wk [0,1,2,3,4,6]
 refine aE ?_
 obtain ⟨v48,h5,h4⟩ := bnd h4
 refine bC ⟨aB (aB (aB (aB (aB (aB (aB (aB (aB (aB ((fun _ => .dead)) 2 (.ptr 3 0 1 0 0)) 6 (.own 4 0 (s41.2.2).length)) 7 (dB s41.1)) 10 (.ptr 5 0 1 0 0)) 11 (dI v45.1)) 12 (dI v45.2.1)) 25 (dL cQ p0.Meshes)) 26 (dI (p0.Meshes.length : Int))) 27 (dI s41.2.1)) 64 (dB v48),lks [.no, .no, .no, .live [⟨27,2, .av [[dL bF p0.Arbors,(dL cQ p0.Meshes)]]⟩], .live [⟨62,2, .data (List.map iM s41.2.2)⟩], .live [⟨121,2, .av [[dI v45.2.2.Driver,(dI v45.2.2.Driven)]]⟩]]⟩ ?_ ?_
 refine sr [0,1,2,3,4,5,6,7,8,9,10,11,12,13] (rP rfl (aF (r := .own _ _ _) rfl) (pm ?_))
 obtain ⟨v46,hv46,h5⟩ := bnd h5
 refine rL rfl (jU tok hv46 rfl rfl rfl rfl rfl rfl rfl rfl) (rL rfl (aQh tok (gV hv46).2.1 rfl rfl rfl rfl rfl rfl rfl rfl) (rL rfl (lK tok (gV hv46).2.1 rfl rfl rfl rfl rfl rfl) (rP rfl (iT rfl rfl) (pm ?_))))
 refine fI (u := 57) h5 rfl (fun hc h5 => ?_) (fun hc h5 => ?_)
 iterate 6 refine k1 ?_
 refine pkt (nx ?_)
 cases h5
 exact wk [0,1,2,3,4,5]
 refine rp rfl (w1 rfl rfl rfl) rfl (aF (r := .own _ _ _) rfl) (pm1 ?_)
 obtain ⟨v47,hv47,h5⟩ := bnd h5
 refine rl rfl (w1 rfl rfl rfl) rfl (jU tok hv47 rfl rfl rfl rfl rfl rfl rfl rfl) (rl rfl (w1 rfl rfl rfl) rfl (aQh tok (gV hv47).2.1 rfl rfl rfl rfl rfl rfl rfl rfl) (rl rfl (w1 rfl rfl rfl) rfl (lK tok (gV hv47).2.1 rfl rfl rfl rfl rfl rfl) (rp rfl (w1 rfl rfl rfl) rfl (eB rfl rfl) (pkf (nx ?_)))))
 cases h5
 exact wk [0,1,2,3,4,5]
 refine bP h4 rfl (fun hc h4 => ?_) (fun hc h4 => ?_)
 refine bI (cC (aU (aH ?_)))
 cases h4
 refine ⟨_,rfl,?_⟩
 exact wk [0,1,2,3,4]
 refine sk (aE (aK (is := [0,1,2,3,4,5,6,7,8,9,10,11,12,13,14]) [0,0,3,7,0,16,0,64,255,511,1023,1023,0,6143,16383] follows (by kernel_rfl) (tP rfl (aF (r := .own _ _ _) rfl) (tpm ?_))))
 obtain ⟨v49,hv49,h4⟩ := bnd h4
 refine dG rfl w0 rfl (jU tok hv49 rfl rfl rfl rfl rfl rfl rfl rfl) rfl rfl rfl (dG rfl w0 rfl (yD tok (gV hv49).2.1 rfl rfl rfl rfl rfl) rfl rfl rfl (tfa tok ?_))
 refine tld tok ?_
 refine tfa tok ?_
 refine tld tok ?_
 obtain ⟨v50,hv50,h4⟩ := bnd h4
 refine mS rfl w0 rfl (dF 7 (aDl hv50) rfl rfl rfl) (tP rfl (aF (r := .tup _) rfl) (tP rfl (aJ rfl rfl) (tP rfl (aJ rfl rfl) (aAx rfl w0 rfl rfl (fun hx hk => nV 6 (cs := [z0,z0]) tok rfl rfl hk) (qH rfl w0 (kY (cs := _ :: _) tok rfl rfl rfl rfl rfl rfl rfl) (tpa ?_))))))
 refine bS ?_
 refine ⟨by kernel_rfl,?_⟩
 refine aH (aE (sq [0,1] (pm ?_)))
 refine rP rfl (eB rfl rfl) (nx ?_)
 refine bR h4 rfl (fun hc h4 => ?_) (fun hc h4 => ?_)
 refine sq [0,1,2] (pm ?_)
 refine pa ?_
 refine pa (nx ?_)
 refine cM (dE 7 rfl 62 2 (d := 4) rfl) (aD (aT (bG ?_)))
 cases h4
 replace h3 := jF h3
 refine aT ?_
 cases h3
 refine fC ⟨_,rfl,fun e => ?_⟩
 subst e
 refine bG (bG ?_)
 refine fC ⟨_,rfl,fun e => ?_⟩
 subst e
 refine bG ?_
 replace h0 := jF h0
 refine aT ?_
 cases h0
 exact eK (rs := [.tmp 4, .tmp 5]) [7] rfl
 refine sk (sq [0,1,2,3,4] (rP rfl (aF (r := .own _ _ _) rfl) (pm ?_)))
 refine rL rfl (aW tok rfl rfl rfl rfl) ?_
 obtain ⟨v51,hv51,h4⟩ := bnd h4
 refine rL rfl (jU tok hv51 rfl rfl rfl rfl rfl rfl rfl rfl) (rw0 rfl w0 (aIx (cs := _ :: _) tok v50.1 (gV hv51).2.1 rfl rfl rfl rfl rfl rfl rfl rfl) (nx (sr [0] (pa (aX ?_)))))
 refine bB (aH ?_)
 cases h4
 refine ⟨_,rfl,?_⟩
 exact wk [0,1,2,3,4]
 rintro v52 rfl
 replace h3 := lZ h3
 refine sr [0,1] (rP rfl (bN rfl rfl) (pm (aX ?_)))
 refine cB ?_
 cases h3
 refine ⟨_,rfl,?_⟩
 exact wk [0,1,2,3,4]
 refine bI (cC ?_)
 cases h3
 refine cD ⟨_,rfl,fun e => ?_⟩
 subst e
 refine aU ?_
 refine bB (cB ?_)
 refine ⟨_,rfl,?_⟩
 exact wk [0,1,2,3,4]
 refine bI (cC ?_)
 cases h2
 refine cD ⟨_,rfl,fun e => ?_⟩
 subst e
 refine aU (aH ?_)
 refine ⟨_,rfl,?_⟩
 exact wk [0,1,2,4]
 rintro v53 rfl
 replace h0 := lZ h0
 refine sq [0,1,2] (rP rfl (aF (r := .own _ _ _) rfl) (rP rfl (aR (r := .own _ _ _) rfl) (pa (nx (aD ?_)))))
 cases h0
 exact eK (rs := [.tmp 4, .tmp 5]) [3] rfl
theorem aCt {p0 : aA} {r : Bool} (h0 : oT p0 = some r) : FnC Tryz.prog 157 [] [.agg [dI p0.Num,(dI p0.Den)]] [] (dB r) := by
 refine fi 6 tok Tryz.func157 ?_
 unfold oT at h0
 refine sq [0,1] (bxx 3 ?_)
 refine pa (nx (sq [0,1,2,3] ?_))
 refine fa tok ?_
 refine ld tok ?_
 refine rP rfl (iT rfl rfl) (pa (nx (aD ?_)))
 cases h0
 exact r0t 2 rfl
theorem iX {p0 : List aA} {r : Int} (h0 : cT p0 = some r) : FnC Tryz.prog 232 [] [dL iM p0, .fn 157 []] [] (dI r) := by
 refine fi 19 tok Tryz.func232 ?_
 unfold cT at h0
 refine sq [0] (pa (nx ?_))
 obtain ⟨v7x,h1,h0⟩ := bnd h0
 refine eN v7x (fun v7 => ⟨(fun _ => .dead),lks [.no, .no, .no]⟩) ?_ ?_
 refine sq [0,1,2] (pm ?_)
 refine rP rfl (aL tok rfl rfl rfl) (pm (nx (aG ?_)))
 refine aZ (fun s4 => ⟨aB (aB (aB (aB ((fun _ => .dead)) 0 (dL iM p0)) 1 (.fn 157 [])) 7 (dI (p0.length : Int))) 8 (dI s4),lks [.no, .no, .no]⟩) h1 ?_ (fun s4 y h2 => ?_)
 exact wk [0,1,2]
 refine sq [0] (rP rfl (bK rfl rfl) (nx (aE ?_)))
 refine bR h2 rfl (fun hc h2 => ?_) (fun hc h2 => ?_)
 refine sk (aE (aG (sq [0,1] (pm ?_))))
 refine pa (nx (sq [0,1,2,3,4,5] ?_))
 refine rP rfl (aF (r := .fn _ _) rfl) (pm ?_)
 refine pm ?_
 obtain ⟨v5,hv5,h2⟩ := bnd h2
 refine rP rfl (cO tok hv5 rfl rfl rfl rfl rfl rfl) (rP rfl (bU tok rfl rfl rfl (by repeat (first | exact lN.z _ | apply lN.t))) ?_)
 obtain ⟨v6,hv6,h2⟩ := bnd h2
 refine rS rfl (aM 3 (aCt hv6) rfl rfl rfl) (nx ?_)
 refine bP h2 rfl (fun hc h2 => ?_) (fun hc h2 => ?_)
 refine sq [0,1] (pm ?_)
 refine pa (nx (aD ?_))
 refine bG (aT ?_)
 cases h2
 refine fC ⟨_,rfl,fun e => ?_⟩
 subst e
 refine bG ?_
 replace h0 := jF h0
 refine aT ?_
 cases h0
 exact r0t 4 rfl
 refine cW (bB (aH (sr [0,1] (rP rfl (bN rfl rfl) (pm (aX ?_))))))
 refine cB ?_
 cases h2
 refine ⟨_,rfl,?_⟩
 exact wk [0,1,2]
 refine bI (cC ?_)
 cases h2
 refine cD ⟨_,rfl,fun e => ?_⟩
 subst e
 refine aU (aH ?_)
 refine ⟨_,rfl,?_⟩
 exact wk [0,1,2]
 rintro v7 rfl
 replace h0 := lZ h0
 refine sq [0] (pa (nx (aD ?_)))
 cases h0
 exact r0t 4 rfl
theorem iK {p0 : List aA} {r : Bool} (h0 : bZ p0 = some r) : FnC Tryz.prog 156 [] [dL iM p0, .fn 157 []] [] (dB r) := by
 refine fi 9 tok Tryz.func156 ?_
 unfold bZ at h0
 refine sq [0] (pa (nx (sq [0,1,2,3,4] ?_)))
 refine pm ?_
 refine rP rfl (aF (r := .fn _ _) rfl) ?_
 obtain ⟨v1,hv1,h0⟩ := bnd h0
 refine rS rfl (aM 3 (iX hv1) rfl rfl rfl) (rP rfl (rF rfl rfl) (pa (nx (aD ?_))))
 cases h0
 exact r0t 4 rfl
theorem zK {p0 : bJ} {p1 : Int} {r : List aA × Int} (h0 : mM p0 p1 = some r) : FnC Tryz.prog 75 [] [.agg [dL bF p0.Arbors,(dL cQ p0.Meshes)],(dI p1)] [.live [⟨62,2, .data (List.map iM r.1)⟩]] (.tup [.own 0 0 r.1.length,(dI r.2)]) := by
 refine fi 70 tok Tryz.func75 ?_
 unfold mM at h0
 refine sq [0,1,2] (bxx 3 ?_)
 refine pa ?_
 refine pa (nx (aE (sq [0,1,2] ?_)))
 refine rL rfl (aW tok rfl rfl rfl rfl) ?_
 obtain ⟨v1,hv1,h0⟩ := bnd h0
 refine rS rfl (aM 4 (vZ hv1) rfl rfl rfl) (rP rfl (cE rfl) (nx ?_))
 refine bP h0 rfl (fun hc h0 => ?_) (fun hc h0 => ?_)
 refine sq [0,1] (pa ?_)
 refine pa (nx ?_)
 refine cM (dE 4 rfl 62 2 (d := 4) rfl) (aD (aT ?_))
 cases h0
 exact eK (rs := [.tmp 4, .tmp 5]) [4] rfl
 refine sk (aE (sq [0,1,2,3,4,5,6] (pm ?_)))
 refine fa tok ?_
 refine ld tok ?_
 refine rP rfl (aL tok rfl rfl rfl) (rP rfl (hY rfl rfl) ?_)
 obtain ⟨v2,hv2,h0⟩ := bnd h0
 refine rS rfl (aM 4 (eE hv2) rfl rfl rfl) (rP rfl (cE rfl) (nx ?_))
 refine bP h0 rfl (fun hc h0 => ?_) (fun hc h0 => ?_)
 refine sq [0,1] (pa ?_)
 refine pa (nx ?_)
 refine cM (dE 4 rfl 62 2 (d := 4) rfl) (aD (aT ?_))
 cases h0
 exact eK (rs := [.tmp 4, .tmp 5]) [4] rfl
 refine sk (sq [0,1,2,3,4,5,6,7] (rL rfl (aW tok rfl rfl rfl rfl) (pm ?_)))
 obtain ⟨v3,hv3,h0⟩ := bnd h0
 refine rS rfl (aM 4 (aCz hv3) rfl rfl rfl) (rP rfl (aF (r := .tup _) rfl) (rP rfl (aJ rfl rfl) (rP rfl (aJ rfl rfl) (rP rfl (aR (r := .own _ _ _) rfl) (pa (nx (aE (sq [0,1] ?_))))))))
 refine pm ?_
 refine rP rfl (eB rfl rfl) (nx ?_)
 refine bR h0 rfl (fun hc h0 => ?_) (fun hc h0 => ?_)
 refine sq [0,1,2] (pm ?_)
 refine pa ?_
 refine pa (nx ?_)
 refine cM (dE 5 rfl 62 2 (d := 4) rfl) (aD (aT ?_))
 cases h0
 exact eK (rs := [.tmp 4, .tmp 5]) [5] rfl
 refine sk (aE (sq [0,1] (rP rfl (aF (r := .own _ _ _) rfl) ?_)))
 obtain ⟨v4,hv4,h0⟩ := bnd h0
 refine rS rfl (fU 5 (iK hv4) rfl rfl) (nx ?_)
 refine bP h0 rfl (fun hc h0 => ?_) (fun hc h0 => ?_)
 refine sq [0,1] (pa ?_)
 refine pa (nx ?_)
 refine cM (dE 5 rfl 62 2 (d := 4) rfl) (aD (aT ?_))
 cases h0
 exact eK (rs := [.tmp 4, .tmp 5]) [5] rfl
 refine sk ?_
 obtain ⟨v19x,h1,h0⟩ := bnd h0
 refine eN v19x (fun v19 => ⟨aB ((fun _ => .dead)) 6 (.own 3 0 (v3.1).length),lks [.no, .no, .no, .live [⟨62,2, .data (List.map iM v3.1)⟩]]⟩) ?_ ?_
 refine sq [0,1,2,3] (fa tok ?_)
 refine ld tok ?_
 refine rP rfl (aL tok rfl rfl rfl) (pm (nx (aG ?_)))
 refine aZ (fun s12 => ⟨aB (aB (aB (aB (aB ((fun _ => .dead)) 2 (.ptr 3 0 1 0 0)) 6 (.own 4 0 (v3.1).length)) 35 (dL cQ p0.Meshes)) 36 (dI (p0.Meshes.length : Int))) 37 (dI s12),lks [.no, .no, .no, .live [⟨27,2, .av [[dL bF p0.Arbors,(dL cQ p0.Meshes)]]⟩], .live [⟨62,2, .data (List.map iM v3.1)⟩]]⟩) h1 ?_ (fun s12 y h2 => ?_)
 exact wk [0,1,2,3,4]
 refine sq [0] (rP rfl (bK rfl rfl) (nx (aE ?_)))
 refine bR h2 rfl (fun hc h2 => ?_) (fun hc h2 => ?_)
 refine sk (aE (aG (sq [0,1,2,3] ?_)))
 obtain ⟨v13,hv13,h2⟩ := bnd h2
 refine rP rfl (cO tok hv13 rfl rfl rfl rfl rfl rfl) (rP rfl (bU tok rfl rfl rfl (by repeat (first | exact lN.z _ | apply lN.t))) (al 5 [z0,z0,z0,z0] tok ?_))
 refine bst tok (nx (sq [0,1,2,3,4] ?_))
 refine rL rfl (aW tok rfl rfl rfl rfl) (rL rfl (aW tok rfl rfl rfl rfl) ?_)
 obtain ⟨v14,hv14,h2⟩ := bnd h2
 refine rS rfl (aM 6 (aDm hv14) rfl rfl rfl) (al 6 [z0,z0] tok ?_)
 refine bst tok (nx (aE ?_))
 refine aK (is := [0,1,2,3,4,5,6,7,8,9,10,11,12,13,14,15]) [0,0,2,7,15,0,32,0,128,511,1023,2047,2047,0,12287,32767] follows (by kernel_rfl) (tP rfl (aF (r := .own _ _ _) rfl) (tfa tok ?_))
 refine tld tok ?_
 obtain ⟨v15,hv15,h2⟩ := bnd h2
 refine dG rfl w0 rfl (jU tok hv15 rfl rfl rfl rfl rfl rfl rfl rfl) rfl rfl rfl (dG rfl w0 rfl (yD tok (gV hv15).2.1 rfl rfl rfl rfl rfl) rfl rfl rfl (tfa tok ?_))
 refine tld tok ?_
 refine tfa tok ?_
 refine tld tok ?_
 obtain ⟨v16,hv16,h2⟩ := bnd h2
 refine mS rfl w0 rfl (dF 8 (aDl hv16) rfl rfl rfl) (tP rfl (aF (r := .tup _) rfl) (tP rfl (aJ rfl rfl) (tP rfl (aJ rfl rfl) (aAx rfl w0 rfl rfl (fun hx hk => nV 7 (cs := [z0,z0]) tok rfl rfl hk) (qH rfl w0 (kY (cs := _ :: _) tok rfl rfl rfl rfl rfl rfl rfl) (tpa ?_))))))
 refine bS ?_
 refine ⟨by kernel_rfl,?_⟩
 refine aH ?_
 obtain ⟨v18,h3,h2⟩ := bnd h2
 refine bC ⟨aB (aB (aB (aB (aB (aB ((fun _ => .dead)) 2 (.ptr 3 0 1 0 0)) 6 (.own 4 0 (v3.1).length)) 35 (dL cQ p0.Meshes)) 36 (dI (p0.Meshes.length : Int))) 37 (dI s12)) 67 (dB v18),lks [.no, .no, .no, .live [⟨27,2, .av [[dL bF p0.Arbors,(dL cQ p0.Meshes)]]⟩], .live [⟨62,2, .data (List.map iM v3.1)⟩]]⟩ ?_ ?_
 refine aK (is := [0,1,2,3,4,5,6,7,8,9,10]) [0,1,3,7,7,7,39,119,247,511,1023] follows (by kernel_rfl) (tpm ?_)
 refine tP rfl (eB rfl rfl) (tpm ?_)
 refine aG4 (u := 59) h3 rfl (fun hc h3 => ?_) (fun hc h3 => ?_)
 iterate 7 refine k2 ?_
 refine aCn ?_
 refine bS ?_
 refine ⟨by kernel_rfl,?_⟩
 refine aH ?_
 cases h3
 exact wk [0,1,2,3,4]
 refine dG rfl (w1 rfl rfl rfl) rfl (aW tok rfl rfl rfl rfl) rfl rfl rfl (rQ rfl (w1 rfl rfl rfl) rfl (aF (r := .own _ _ _) rfl) (dG rfl (w1 rfl rfl rfl) rfl (aEb tok rfl rfl rfl rfl rfl rfl rfl) rfl rfl rfl (dG rfl (w1 rfl rfl rfl) rfl (xB tok rfl rfl rfl rfl rfl) rfl rfl rfl ?_)))
 obtain ⟨v17,hv17,h3⟩ := bnd h3
 refine dG rfl (w1 rfl rfl rfl) rfl (jU tok hv17 rfl rfl rfl rfl rfl rfl rfl rfl) rfl rfl rfl (dG rfl (w1 rfl rfl rfl) rfl (yD tok (gV hv17).2.1 rfl rfl rfl rfl rfl) rfl rfl rfl (rQ rfl (w1 rfl rfl rfl) rfl (xU (a := v16.1) (b := v17) rfl rfl) (aFu ?_)))
 refine bS ?_
 refine ⟨by kernel_rfl,?_⟩
 refine aH ?_
 cases h3
 exact wk [0,1,2,3,4]
 refine bP h2 rfl (fun hc h2 => ?_) (fun hc h2 => ?_)
 refine sq [0,1] (pa ?_)
 refine pa (nx ?_)
 refine cM (dE 5 rfl 62 2 (d := 4) rfl) (aD (bG (aT ?_)))
 cases h2
 refine fC ⟨_,rfl,fun e => ?_⟩
 subst e
 refine bG ?_
 replace h0 := jF h0
 refine aT ?_
 cases h0
 exact eK (rs := [.tmp 4, .tmp 5]) [5] rfl
 refine cW (bB (aH (sr [0,1] (rP rfl (bN rfl rfl) (pm (aX ?_))))))
 refine cB ?_
 cases h2
 refine ⟨_,rfl,?_⟩
 exact wk [0,1,2,3,4]
 refine bI (cC ?_)
 cases h2
 refine cD ⟨_,rfl,fun e => ?_⟩
 subst e
 refine aU (aH ?_)
 refine ⟨_,rfl,?_⟩
 exact wk [0,1,2,4]
 rintro v19 rfl
 replace h0 := lZ h0
 refine sq [0,1,2] (rP rfl (aF (r := .own _ _ _) rfl) (rP rfl (aR (r := .own _ _ _) rfl) (pa (nx (aD ?_)))))
 cases h0
 exact eK (rs := [.tmp 4, .tmp 5]) [3] rfl
theorem wJ {p0 : aV} {p1 : Int} {r : aA × Int} (h0 : kC p0 p1 = some r) : FnC Tryz.prog 23 [] [.agg [dS p0.Name,(dL bF p0.Works.Arbors),(dL cQ p0.Works.Meshes),(dI p0.Minute),(dI p0.Hour),(dI p0.Escape),(dI p0.Teeth),(dI p0.Beats),(dS p0.Calendar.Name),(dL aY p0.Calendar.Months),(dL aP p0.Calendar.Rules),(dI p0.Calendar.Week),(dL cI p0.Cam),(dI p0.Strike)],(dI p1)] [] (.tup [.agg [dI r.1.Num,(dI r.1.Den)],(dI r.2)]) := by
 refine fi 33 tok Tryz.func23 ?_
 unfold kC at h0
 refine sq [0,1,2] (bxx 3 ?_)
 refine al 4 [z0,z0] tok ?_
 refine pa (nx (aE (sq [0,1,2] ?_)))
 refine rL rfl (aW tok rfl rfl rfl rfl) ?_
 obtain ⟨v1,hv1,h0⟩ := bnd h0
 refine rS rfl (aM 5 (sI hv1) rfl rfl rfl) (rP rfl (cE rfl) (nx ?_))
 refine bP h0 rfl (fun hc h0 => ?_) (fun hc h0 => ?_)
 refine sq [0,1,2] (rP rfl (pbl (C0 := [z0,z0]) tok rfl rfl rfl) (bst tok ?_))
 refine pa (nx (aD (aT ?_)))
 cases h0
 exact eI (rs := [.cell 4 62, .tmp 5]) rfl
 refine sk (sq [0,1,2,3,4,5,6,7,8,9] (fa tok ?_))
 refine rL rfl (aW tok rfl rfl rfl rfl) (fa tok ?_)
 refine ld tok ?_
 obtain ⟨v2,hv2,h0⟩ := bnd h0
 refine rS rfl (aM 5 (zK hv2) rfl rfl rfl) (rP rfl (aF (r := .tup _) rfl) (rP rfl (aJ rfl rfl) (rP rfl (aJ rfl rfl) (rP rfl (aR (r := .own _ _ _) rfl) (pa (nx (aE (sq [0,1] ?_))))))))
 refine pm ?_
 refine rP rfl (eB rfl rfl) (nx ?_)
 refine bR h0 rfl (fun hc h0 => ?_) (fun hc h0 => ?_)
 refine sq [0,1,2] (rP rfl (pbl (C0 := [z0,z0]) tok rfl rfl rfl) (bst tok ?_))
 refine pa (nx (aD (aT ?_)))
 cases h0
 exact eI (rs := [.cell 4 62, .tmp 5]) rfl
 refine sk (aE (sq [0,1,2,3,4] (fa tok ?_)))
 refine rL rfl (aW tok rfl rfl rfl rfl) (pm ?_)
 obtain ⟨v3,hv3,h0⟩ := bnd h0
 refine rS rfl (aM 6 (tK hv3) rfl rfl rfl) (rP rfl (cE rfl) (nx ?_))
 refine bP h0 rfl (fun hc h0 => ?_) (fun hc h0 => ?_)
 refine sq [0,1,2] (rP rfl (pbl (C0 := [z0,z0]) tok rfl rfl rfl) (bst tok ?_))
 refine pa (nx (aD (aT ?_)))
 cases h0
 exact eI (rs := [.cell 4 62, .tmp 5]) rfl
 refine sk (sq [0,1,2,3,4,5] (rP rfl (aF (r := .own _ _ _) rfl) (pm ?_)))
 obtain ⟨v4,hv4,h0⟩ := bnd h0
 refine rL rfl (jU tok hv4 rfl rfl rfl rfl rfl rfl rfl rfl) (rL rfl (yD tok (gV hv4).2.1 rfl rfl rfl rfl rfl) (bst tok ?_))
 refine pa (nx (aD ?_))
 cases h0
 exact eI (rs := [.cell 4 62, .tmp 5]) rfl
theorem aGo {p0 : Int} {p1 : Int} {r : Int} (h0 : pH p0 p1 = some r) : FnC Tryz.prog 153 [] [dI p0,(dI p1)] [] (dI r) := by
 refine fi 16 tok Tryz.func153 ?_
 unfold pH at h0
 refine sq [0] (pa (nx (sq [0,1,2,3] ?_)))
 refine pm ?_
 refine pm ?_
 obtain ⟨hq1,h0⟩ := dM h0
 refine rP rfl (sN rfl rfl hq1) (pa (nx ?_))
 obtain ⟨v3,h1,h0⟩ := bnd h0
 refine bC ⟨aB ((fun _ => .dead)) 5 (dI v3),lks [.no, .no, .no]⟩ ?_ ?_
 refine sq [0,1,2,3] (pm ?_)
 refine pm ?_
 obtain ⟨hq2,h1⟩ := dM h1
 refine rP rfl (mB rfl rfl hq2) (rP rfl (bK rfl rfl) (nx ?_))
 refine bR h1 rfl (fun hc h1 => ?_) (fun hc h1 => ?_)
 refine sr [0,1,2] (pm ?_)
 refine rP rfl (hY rfl rfl) (pa (nx ?_))
 cases h1
 exact wk [0,1,2]
 refine sk ?_
 cases h1
 exact wk [0,1,2]
 refine sq [0,1] (pm ?_)
 refine pa (nx (aD ?_))
 cases h0
 exact r0t 4 rfl
theorem aCs {p0 : aA} {r : Int} (h0 : lE p0 = some r) : FnC Tryz.prog 73 [] [.agg [dI p0.Num,(dI p0.Den)]] [] (dI r) := by
 refine fi 11 tok Tryz.func73 ?_
 unfold lE at h0
 refine sq [0,1] (bxx 3 ?_)
 refine pa (nx (aE (sq [0,1,2] ?_)))
 refine rL rfl (aW tok rfl rfl rfl rfl) ?_
 obtain ⟨v1,hv1,h0⟩ := bnd h0
 refine rS rfl (aM 4 (fH hv1) rfl rfl rfl) (rP rfl (cE rfl) (nx ?_))
 refine bP h0 rfl (fun hc h0 => ?_) (fun hc h0 => ?_)
 refine sq [0] (pa (nx (aD (aT ?_))))
 cases h0
 exact r0t 2 rfl
 refine sk (sq [0,1,2,3,4,5] (fa tok ?_))
 refine ld tok ?_
 refine fa tok ?_
 refine ld tok ?_
 obtain ⟨v2,hv2,h0⟩ := bnd h0
 refine rS rfl (aM 4 (aGo hv2) rfl rfl rfl) (pa (nx (aD ?_)))
 cases h0
 exact r0t 2 rfl
theorem aBk {p0 : aV} {p1 : Int} {p2 : Int} {r : aA × Int} (h0 : kB p0 p1 p2 = some r) : FnC Tryz.prog 22 [] [.agg [dS p0.Name,(dL bF p0.Works.Arbors),(dL cQ p0.Works.Meshes),(dI p0.Minute),(dI p0.Hour),(dI p0.Escape),(dI p0.Teeth),(dI p0.Beats),(dS p0.Calendar.Name),(dL aY p0.Calendar.Months),(dL aP p0.Calendar.Rules),(dI p0.Calendar.Week),(dL cI p0.Cam),(dI p0.Strike)],(dI p1),(dI p2)] [] (.tup [.agg [dI r.1.Num,(dI r.1.Den)],(dI r.2)]) := by
 refine fi 52 tok Tryz.func22 ?_
 unfold kB at h0
 refine sq [0,1,2] (bxx 3 ?_)
 refine al 4 [z0,z0] tok ?_
 refine pa (nx (sq [0,1,2,3,4,5,6,7,8] ?_))
 refine rL rfl (aW tok rfl rfl rfl rfl) (pm ?_)
 obtain ⟨v1,hv1,h0⟩ := bnd h0
 refine rS rfl (aM 5 (wJ hv1) rfl rfl rfl) (rP rfl (aF (r := .tup _) rfl) (rP rfl (aJ rfl rfl) (rP rfl (aJ rfl rfl) (al 5 [z0,z0] tok ?_))))
 refine bst tok ?_
 refine pa (nx (aE (sq [0,1] ?_)))
 refine pm ?_
 refine rP rfl (eB rfl rfl) (nx ?_)
 refine bR h0 rfl (fun hc h0 => ?_) (fun hc h0 => ?_)
 refine sq [0,1,2,3] (rP rfl (pbl (C0 := [z0,z0]) tok rfl rfl rfl) (pm ?_))
 refine bst tok ?_
 refine pa (nx (aD (aT ?_)))
 cases h0
 exact eI (rs := [.cell 6 62, .tmp 7]) rfl
 refine sk (aE (sq [0,1,2] (pm ?_)))
 obtain ⟨v2,hv2,h0⟩ := bnd h0
 refine rS rfl (aM 6 (eE hv2) rfl rfl rfl) (rP rfl (cE rfl) (nx ?_))
 refine bP h0 rfl (fun hc h0 => ?_) (fun hc h0 => ?_)
 refine sq [0,1,2] (rP rfl (pbl (C0 := [z0,z0]) tok rfl rfl rfl) (bst tok ?_))
 refine pa (nx (aD (aT ?_)))
 cases h0
 exact eI (rs := [.cell 6 62, .tmp 7]) rfl
 refine sk (sq [0,1,2,3,4,5,6,7] (pm ?_))
 obtain ⟨v3,hv3,h0⟩ := bnd h0
 refine rS rfl (aM 6 (jB hv3) rfl rfl rfl) (rP rfl (aF (r := .tup _) rfl) (rP rfl (aJ rfl rfl) (rP rfl (aJ rfl rfl) (al 6 [z0,z0] tok ?_))))
 refine bst tok ?_
 refine pa (nx (aE (sq [0,1] ?_)))
 refine pm ?_
 refine rP rfl (eB rfl rfl) (nx ?_)
 refine bR h0 rfl (fun hc h0 => ?_) (fun hc h0 => ?_)
 refine sq [0,1,2,3] (rP rfl (pbl (C0 := [z0,z0]) tok rfl rfl rfl) (pm ?_))
 refine bst tok ?_
 refine pa (nx (aD (aT ?_)))
 cases h0
 exact eI (rs := [.cell 6 62, .tmp 7]) rfl
 refine sk (sq [0,1,2,3,4,5,6,7,8] (rL rfl (aW tok rfl rfl rfl rfl) (rL rfl (aW tok rfl rfl rfl rfl) ?_)))
 obtain ⟨v4,hv4,h0⟩ := bnd h0
 refine rS rfl (aM 7 (uK hv4) rfl rfl rfl) (rP rfl (aF (r := .tup _) rfl) (rP rfl (aJ rfl rfl) (rP rfl (aJ rfl rfl) (al 7 [z0,z0] tok ?_))))
 refine bst tok ?_
 refine pa (nx (aE (sq [0,1] ?_)))
 refine pm ?_
 refine rP rfl (eB rfl rfl) (nx ?_)
 refine bR h0 rfl (fun hc h0 => ?_) (fun hc h0 => ?_)
 refine sq [0,1,2,3] (rP rfl (pbl (C0 := [z0,z0]) tok rfl rfl rfl) (pm ?_))
 refine bst tok ?_
 refine pa (nx (aD (aT ?_)))
 cases h0
 exact eI (rs := [.cell 6 62, .tmp 7]) rfl
 refine sk (aE (aK (is := [0,1,2,3,4,5,6,7,8]) [0,0,2,6,15,31,31,127,255] follows (by kernel_rfl) (dG rfl w0 rfl (aW tok rfl rfl rfl rfl) rfl rfl rfl (dG rfl w0 rfl (aW tok rfl rfl rfl rfl) rfl rfl rfl ?_))))
 obtain ⟨v5,hv5,h0⟩ := bnd h0
 refine mS rfl w0 rfl (dF 8 (aCs hv5) rfl rfl rfl) (tP rfl (pbl (C0 := [z0,z0]) tok rfl rfl rfl) ?_)
 obtain ⟨v6,hv6,h0⟩ := bnd h0
 refine mS rfl w0 rfl (dF 8 (zL hv6) rfl rfl rfl) (tP rfl (aJ rfl rfl) (tP rfl (aJ rfl rfl) (qH rfl w0 (kY (cs := _ :: _) tok rfl rfl rfl rfl rfl rfl rfl) (tpa ?_))))
 refine bS ?_
 refine ⟨by kernel_rfl,?_⟩
 refine aH (aD ?_)
 cases h0
 exact eI (rs := [.cell 6 62, .tmp 7]) rfl
theorem aGj {p0 : aA} {p1 : aA} {r : aA × Int} (h0 : pE p0 p1 = some r) : FnC Tryz.prog 77 [] [.agg [dI p0.Num,(dI p0.Den)], .agg [dI p1.Num,(dI p1.Den)]] [] (.tup [.agg [dI r.1.Num,(dI r.1.Den)],(dI r.2)]) := by
 refine fi 28 tok Tryz.func77 ?_
 unfold pE at h0
 refine sq [0,1,2,3] (bxx 3 ?_)
 refine bxx 4 ?_
 refine al 5 [z0,z0] tok ?_
 refine pa (nx (aE ?_))
 obtain ⟨v3,h1,h0⟩ := bnd h0
 refine bC ⟨aB (aB (aB (aB ((fun _ => .dead)) 2 (.ptr 3 0 1 0 0)) 3 (.ptr 4 0 1 0 0)) 4 (.ptr 5 0 1 0 0)) 13 (dB v3),lks [.no, .no, .no, .live [⟨62,2, .av [[dI p0.Num,(dI p0.Den)]]⟩], .live [⟨62,2, .av [[dI p1.Num,(dI p1.Den)]]⟩], .live [⟨62,2, .av [[z0,z0]]⟩]]⟩ ?_ ?_
 refine sr [0,1,2,3,4,5,6,7] (rL rfl (aW tok rfl rfl rfl rfl) ?_)
 obtain ⟨v1,hv1,h1⟩ := bnd h1
 refine rS rfl (aM 6 (fH hv1) rfl rfl rfl) (rP rfl (cE rfl) (pm ?_))
 refine dQ (u := 9) h1 rfl (fun hc h1 => ?_) (fun hc h1 => ?_)
 iterate 3 refine k1 ?_
 refine pkt (nx ?_)
 cases h1
 exact wk [0,1,2,3,4,5]
 refine rl rfl (w1 rfl rfl rfl) rfl (aW tok rfl rfl rfl rfl) ?_
 obtain ⟨v2,hv2,h1⟩ := bnd h1
 refine rs rfl (w1 rfl rfl rfl) rfl (aM 6 (fH hv2) rfl rfl rfl) (rp rfl (w1 rfl rfl rfl) rfl (cE rfl) (pkf (nx ?_)))
 cases h1
 exact wk [0,1,2,3,4,5]
 refine bP h0 rfl (fun hc h0 => ?_) (fun hc h0 => ?_)
 refine sq [0,1,2] (rP rfl (pbl (C0 := [z0,z0]) tok rfl rfl rfl) (bst tok ?_))
 refine pa (nx (aD (aT ?_)))
 cases h0
 exact eI (rs := [.cell 4 62, .tmp 5]) rfl
 refine sk (sq [0,1,2,3,4,5,6,7,8,9,10,11,12,13,14] (fa tok ?_))
 refine ld tok ?_
 refine fa tok ?_
 refine ld tok ?_
 refine rP rfl (eG rfl rfl) (fa tok ?_)
 refine ld tok ?_
 refine fa tok ?_
 refine ld tok ?_
 refine rP rfl (eG rfl rfl) ?_
 obtain ⟨v4,hv4,h0⟩ := bnd h0
 refine rS rfl (aM 6 (jB hv4) rfl rfl rfl) (rP rfl (aJ rfl rfl) (rP rfl (aJ rfl rfl) (bst tok ?_)))
 refine pa (nx (aD ?_))
 cases h0
 exact eI (rs := [.cell 4 62, .tmp 5]) rfl
theorem aGk {p0 : aV} {p1 : Int} {r : aA × Int} (h0 : mL p0 p1 = some r) : FnC Tryz.prog 24 [] [.agg [dS p0.Name,(dL bF p0.Works.Arbors),(dL cQ p0.Works.Meshes),(dI p0.Minute),(dI p0.Hour),(dI p0.Escape),(dI p0.Teeth),(dI p0.Beats),(dS p0.Calendar.Name),(dL aY p0.Calendar.Months),(dL aP p0.Calendar.Rules),(dI p0.Calendar.Week),(dL cI p0.Cam),(dI p0.Strike)],(dI p1)] [] (.tup [.agg [dI r.1.Num,(dI r.1.Den)],(dI r.2)]) := by
 refine fi 28 tok Tryz.func24 ?_
 unfold mL at h0
 refine sq [0,1,2] (bxx 3 ?_)
 refine al 4 [z0,z0] tok ?_
 refine pa (nx (sq [0,1,2,3,4,5,6,7,8] ?_))
 refine rL rfl (aW tok rfl rfl rfl rfl) (pm ?_)
 obtain ⟨v1,hv1,h0⟩ := bnd h0
 refine rS rfl (aM 5 (wJ hv1) rfl rfl rfl) (rP rfl (aF (r := .tup _) rfl) (rP rfl (aJ rfl rfl) (rP rfl (aJ rfl rfl) (al 5 [z0,z0] tok ?_))))
 refine bst tok ?_
 refine pa (nx (aE (sq [0,1] ?_)))
 refine pm ?_
 refine rP rfl (eB rfl rfl) (nx ?_)
 refine bR h0 rfl (fun hc h0 => ?_) (fun hc h0 => ?_)
 refine sq [0,1,2,3] (rP rfl (pbl (C0 := [z0,z0]) tok rfl rfl rfl) (pm ?_))
 refine bst tok ?_
 refine pa (nx (aD (aT ?_)))
 cases h0
 exact eI (rs := [.cell 4 62, .tmp 5]) rfl
 refine sk (aE (aK (is := [0,1,2,4,5,3,6,7,8,9,10,11]) [0,0,2,6,0,16,62,127,255,255,1023,2047] follows (by kernel_rfl) (tP rfl (pbl (C0 := [z0,z0]) tok rfl rfl rfl) (tfa tok ?_))))
 refine tld tok ?_
 refine tfa tok ?_
 refine tld tok ?_
 obtain ⟨v2,hv2,h0⟩ := bnd h0
 refine mS rfl w0 rfl (dF 6 (aBn hv2) rfl rfl rfl) (tP rfl (pbl (C0 := [z0,z0]) tok rfl rfl rfl) ?_)
 obtain ⟨v3,hv3,h0⟩ := bnd h0
 refine mS rfl w0 rfl (dF 6 (aGj hv3) rfl rfl rfl) (tP rfl (aJ rfl rfl) (tP rfl (aJ rfl rfl) (qH rfl w0 (kY (cs := _ :: _) tok rfl rfl rfl rfl rfl rfl rfl) (tpa ?_))))
 refine bS ?_
 refine ⟨by kernel_rfl,?_⟩
 refine aH (aD ?_)
 cases h0
 exact eI (rs := [.cell 4 62, .tmp 5]) rfl
theorem xH {p0 : aV} {r : List ByteArray} (h0 : fR p0 = some r) : FnC Tryz.prog 25 [] [.agg [dS p0.Name,(dL bF p0.Works.Arbors),(dL cQ p0.Works.Meshes),(dI p0.Minute),(dI p0.Hour),(dI p0.Escape),(dI p0.Teeth),(dI p0.Beats),(dS p0.Calendar.Name),(dL aY p0.Calendar.Months),(dL aP p0.Calendar.Rules),(dI p0.Calendar.Week),(dL cI p0.Cam),(dI p0.Strike)]] [.live [⟨9,1, .data (List.map cS r)⟩]] (.own 0 0 r.length) := by
 refine fi 65 tok Tryz.func25 ?_
 unfold fR at h0
 refine sq [0,1] (bxx 3 ?_)
 refine pa (nx (aE (sq [0,1,2] ?_)))
 refine rL rfl (aW tok rfl rfl rfl rfl) ?_
 obtain ⟨v1,hv1,h0⟩ := bnd h0
 refine rS rfl (aM 4 (sI hv1) rfl rfl rfl) (rP rfl (cE rfl) (nx ?_))
 refine bP h0 rfl (fun hc h0 => ?_) (fun hc h0 => ?_)
 refine sq [0,1] (rS rfl (nB 4 tok cS [(⟨#[109,111,118,101,109,101,110,116]⟩ : ByteArray)] rfl rfl rfl (by repeat (first | exact Els.nil _ | apply Els.cons (cs := [.d _]) rfl rfl rfl | apply Els.cons (cs := _ :: _) rfl rfl rfl)) rfl rfl rfl (by repeat (first | exact cH.nil | (apply cH.cons; (repeat (first | exact fA.nil | apply fA.cons))))) rfl rfl) (rP rfl (aR (r := .own _ _ _) rfl) (nx (aD (aT ?_)))))
 cases h0
 exact eK (rs := [.tmp 2]) [4] rfl
 refine sk (sq [0] (pa (nx (sq [0,1,2,3,4,5,6,7,8,9] ?_))))
 refine fa tok ?_
 refine rL rfl (aW tok rfl rfl rfl rfl) (fa tok ?_)
 refine ld tok ?_
 obtain ⟨v2,hv2,h0⟩ := bnd h0
 refine rS rfl (aM 4 (zK hv2) rfl rfl rfl) (rP rfl (aF (r := .tup _) rfl) (rP rfl (aJ rfl rfl) (rP rfl (aJ rfl rfl) (rP rfl (aR (r := .own _ _ _) rfl) (pa (nx ?_))))))
 obtain ⟨v10,h1,h0⟩ := bnd h0
 refine bC ⟨aB (aB ((fun _ => .dead)) 1 (.ptr 3 0 1 0 0)) 3 (.own 4 0 (v10).length),lks [.no, .no, .no, .live [⟨34,14, .av [[dS p0.Name,(dL bF p0.Works.Arbors),(dL cQ p0.Works.Meshes),(dI p0.Minute),(dI p0.Hour),(dI p0.Escape),(dI p0.Teeth),(dI p0.Beats),(dS p0.Calendar.Name),(dL aY p0.Calendar.Months),(dL aP p0.Calendar.Rules),(dI p0.Calendar.Week),(dL cI p0.Cam),(dI p0.Strike)]]⟩], .live [⟨9,1, .data (List.map cS v10)⟩]]⟩ ?_ ?_
 refine sq [0,1] (pm ?_)
 refine rP rfl (eB rfl rfl) (nx ?_)
 refine bR h1 rfl (fun hc h1 => ?_) (fun hc h1 => ?_)
 refine sr [0,1,2,3] (pm ?_)
 refine rS rfl (jV tok cS [(⟨#[119,111,114,107,115]⟩ : ByteArray)] rfl rfl rfl (by repeat (first | exact Els.nil _ | apply Els.cons (cs := [.d _]) rfl rfl rfl | apply Els.cons (cs := _ :: _) rfl rfl rfl)) rfl rfl rfl (by repeat (first | exact cH.nil | (apply cH.cons; (repeat (first | exact fA.nil | apply fA.cons))))) rfl) ?_
 obtain ⟨hq3,h1⟩ := dM h1
 refine rS rfl (aQx 5 tok hq3 rfl rfl rfl rfl rfl rfl rfl rfl rfl rfl (fun _ => rfl)) (rP rfl (aR (r := .own _ _ _) rfl) (nx ?_))
 cases h1
 exact wk [0,1,2,3,5]
 obtain ⟨v6,h2,h1⟩ := bnd h1
 refine bC ⟨aB (aB (aB ((fun _ => .dead)) 1 (.ptr 3 0 1 0 0)) 3 (.own 4 0 (v6).length)) 4 (.own 5 0 (v2.1).length),lks [.no, .no, .no, .live [⟨34,14, .av [[dS p0.Name,(dL bF p0.Works.Arbors),(dL cQ p0.Works.Meshes),(dI p0.Minute),(dI p0.Hour),(dI p0.Escape),(dI p0.Teeth),(dI p0.Beats),(dS p0.Calendar.Name),(dL aY p0.Calendar.Months),(dL aP p0.Calendar.Rules),(dI p0.Calendar.Week),(dL cI p0.Cam),(dI p0.Strike)]]⟩], .live [⟨9,1, .data (List.map cS v6)⟩], .live [⟨62,2, .data (List.map iM v2.1)⟩]]⟩ ?_ ?_
 refine sq [0,1,2,3,4,5,6] (rP rfl (aF (r := .own _ _ _) rfl) (fa tok ?_))
 refine ld tok ?_
 obtain ⟨v4,hv4,h2⟩ := bnd h2
 refine rL rfl (jU tok hv4 rfl rfl rfl rfl rfl rfl rfl rfl) (rL rfl (yD tok (gV hv4).2.1 rfl rfl rfl rfl rfl) (rP rfl (pbl (C0 := [z0,z0]) tok rfl rfl rfl) (rP rfl (xU (a := v4) (b := (⟨1,12⟩ : aA)) rfl rfl) (nx ?_))))
 refine bR h2 rfl (fun hc h2 => ?_) (fun hc h2 => ?_)
 refine sr [0,1,2,3] (pm ?_)
 refine rS rfl (jV tok cS [(⟨#[104,111,117,114]⟩ : ByteArray)] rfl rfl rfl (by repeat (first | exact Els.nil _ | apply Els.cons (cs := [.d _]) rfl rfl rfl | apply Els.cons (cs := _ :: _) rfl rfl rfl)) rfl rfl rfl (by repeat (first | exact cH.nil | (apply cH.cons; (repeat (first | exact fA.nil | apply fA.cons))))) rfl) ?_
 obtain ⟨hq5,h2⟩ := dM h2
 refine rS rfl (aQx 5 tok hq5 rfl rfl rfl rfl rfl rfl rfl rfl rfl rfl (fun _ => rfl)) (rP rfl (aR (r := .own _ _ _) rfl) (nx ?_))
 cases h2
 exact wk [0,1,2,3,5,4]
 refine sk ?_
 cases h2
 refine lO.trans_ (dE 5 rfl 9 1 (d := 3) rfl) ?_
 exact wk [0,1,2,3,5,4]
 refine sq [0,1,2,3,4,5,6] (rP rfl (aF (r := .own _ _ _) rfl) (fa tok ?_))
 refine ld tok ?_
 obtain ⟨v7,hv7,h1⟩ := bnd h1
 refine rL rfl (jU tok hv7 rfl rfl rfl rfl rfl rfl rfl rfl) (rL rfl (yD tok (gV hv7).2.1 rfl rfl rfl rfl rfl) (al 6 [z0,z0] tok ?_))
 refine bst tok (nx (aE ?_))
 refine aK (is := [0,1,2,3,4,7,8,9,10,11,5,6,12]) [0,1,3,0,8,24,63,0,128,0,512,1920,4095] follows (by kernel_rfl) (tfa tok ?_)
 refine tld tok ?_
 refine tP rfl (eG rfl rfl) (tfa tok ?_)
 refine tld tok ?_
 refine tfa tok ?_
 refine tld tok ?_
 refine tfa tok ?_
 refine tld tok ?_
 refine tP rfl (eG rfl rfl) ?_
 obtain ⟨v8,hv8,h1⟩ := bnd h1
 refine mS rfl w0 rfl (dF 7 (aBn hv8) rfl rfl rfl) (tP rfl (eG rfl rfl) (tP rfl (eB rfl rfl) (bS ?_)))
 refine ⟨by kernel_rfl,?_⟩
 refine aH ?_
 refine bR h1 rfl (fun hc h1 => ?_) (fun hc h1 => ?_)
 refine sr [0,1,2,3] (rP rfl (aF (r := .own _ _ _) rfl) (rS rfl (jV tok cS [(⟨#[98,101,97,116,115]⟩ : ByteArray)] rfl rfl rfl (by repeat (first | exact Els.nil _ | apply Els.cons (cs := [.d _]) rfl rfl rfl | apply Els.cons (cs := _ :: _) rfl rfl rfl)) rfl rfl rfl (by repeat (first | exact cH.nil | (apply cH.cons; (repeat (first | exact fA.nil | apply fA.cons))))) rfl) ?_))
 obtain ⟨hq9,h1⟩ := dM h1
 refine rw1 rfl w0 rfl (fL tok hq9 rfl rfl rfl rfl rfl rfl rfl rfl rfl rfl rfl rfl (fun _ => rfl)) (rP rfl (aR (r := .own _ _ _) rfl) (nx ?_))
 cases h1
 exact wk [0,1,2,3,4]
 refine sk ?_
 cases h1
 exact wk [0,1,2,3,4]
 obtain ⟨v13,h1,h0⟩ := bnd h0
 refine bC ⟨aB ((fun _ => .dead)) 3 (.own 3 0 (v13).length),lks [.no, .no, .no, .live [⟨9,1, .data (List.map cS v13)⟩]]⟩ ?_ ?_
 refine sq [0,1,2,3,4,5] (fa tok ?_)
 refine rL rfl (aW tok rfl rfl rfl rfl) (fa tok ?_)
 refine ld tok ?_
 obtain ⟨v11,hv11,h1⟩ := bnd h1
 refine rS rfl (aM 5 (wL hv11) rfl rfl rfl) (rP rfl (iT rfl rfl) (nx ?_))
 refine bR h1 rfl (fun hc h1 => ?_) (fun hc h1 => ?_)
 refine sr [0,1,2,3] (rP rfl (aF (r := .own _ _ _) rfl) (rS rfl (jV tok cS [(⟨#[99,97,109]⟩ : ByteArray)] rfl rfl rfl (by repeat (first | exact Els.nil _ | apply Els.cons (cs := [.d _]) rfl rfl rfl | apply Els.cons (cs := _ :: _) rfl rfl rfl)) rfl rfl rfl (by repeat (first | exact cH.nil | (apply cH.cons; (repeat (first | exact fA.nil | apply fA.cons))))) rfl) ?_))
 obtain ⟨hq12,h1⟩ := dM h1
 refine rw1 rfl w0 rfl (fL tok hq12 rfl rfl rfl rfl rfl rfl rfl rfl rfl rfl rfl rfl (fun _ => rfl)) (rP rfl (aR (r := .own _ _ _) rfl) (nx ?_))
 cases h1
 exact wk [0,1,2,4]
 refine sk ?_
 cases h1
 exact wk [0,1,2,4]
 refine sq [0,1] (rP rfl (aF (r := .own _ _ _) rfl) (rP rfl (aR (r := .own _ _ _) rfl) (nx (aD ?_))))
 cases h0
 exact eK (rs := [.tmp 2]) [3] rfl
theorem aHb {p0 : dH} {r : Bool} (h0 : pS p0 = some r) : FnC Tryz.prog 233 [] [.ref (bF p0)] [] (dB r) := by
 refine fi 35 tok Tryz.func233 ?_
 unfold pS at h0
 refine sq [0] (pa (nx ?_))
 obtain ⟨v7x,h1,h0⟩ := bnd h0
 refine eN v7x (fun v7 => ⟨aB ((fun _ => .dead)) 0 (.ref (bF p0)),lks [.no, .no, .no]⟩) ?_ ?_
 refine sq [0] (pa (nx (aG ?_)))
 refine aZ (fun s4 => ⟨aB (aB ((fun _ => .dead)) 0 (.ref (bF p0))) 3 (dI s4),lks [.no, .no, .no]⟩) h1 ?_ (fun s4 y h2 => ?_)
 exact wk [0,1,2]
 refine aE (sq [0,1,2,3,4,5,6] (pm ?_))
 refine pmr ?_
 refine nr ?_
 refine fr tok ?_
 refine lr tok ?_
 refine rP rfl (aL tok rfl rfl rfl) (rP rfl (bK rfl rfl) (nx ?_))
 refine bR h2 rfl (fun hc h2 => ?_) (fun hc h2 => ?_)
 refine sk (aE (aG (sq [0,1,2,3,4,5,6,7,8] (pmr ?_))))
 refine nr ?_
 refine fr tok ?_
 refine lr tok ?_
 refine pm ?_
 obtain ⟨v5,hv5,h2⟩ := bnd h2
 refine rP rfl (cO tok hv5 rfl rfl rfl rfl rfl rfl) (lr tok ?_)
 obtain ⟨v6,hv6,h2⟩ := bnd h2
 refine rS rfl (aM 3 (pN hv6) rfl rfl rfl) (rP rfl (cE rfl) (nx ?_))
 refine bP h2 rfl (fun hc h2 => ?_) (fun hc h2 => ?_)
 refine sq [0] (pa (nx (aD ?_)))
 refine bG (aT ?_)
 cases h2
 refine fC ⟨_,rfl,fun e => ?_⟩
 subst e
 refine bG ?_
 replace h0 := jF h0
 refine aT ?_
 cases h0
 exact r0t 2 rfl
 refine cW (bB (aH (sr [0,1,2] (pm ?_))))
 refine rP rfl (bN rfl rfl) (pa (aX ?_))
 refine cB ?_
 cases h2
 refine ⟨_,rfl,?_⟩
 exact wk [0,1,2]
 refine bI (cC ?_)
 cases h2
 refine cD ⟨_,rfl,fun e => ?_⟩
 subst e
 refine aU (aH ?_)
 refine ⟨_,rfl,?_⟩
 exact wk [0,1,2]
 rintro v7 rfl
 replace h0 := lZ h0
 refine sq [0,1,2,3,4,5,6,7,8,9,10,11,12,13] (pmr ?_)
 refine nr ?_
 refine fr tok ?_
 refine lr tok ?_
 obtain ⟨v8,hv8,h0⟩ := bnd h0
 refine rS rfl (aM 3 (sP hv8) rfl rfl rfl) (pm ?_)
 refine dQ (u := 27) h0 rfl (fun hc h0 => ?_) (fun hc h0 => ?_)
 refine aGz ?_
 refine nr1 ?_
 refine fr1 tok ?_
 refine lr1 tok ?_
 refine rp rfl (w1 rfl rfl rfl) rfl (aL tok rfl rfl rfl) (rp rfl (w1 rfl rfl rfl) rfl (gR rfl rfl) (pkt ?_))
 refine pa (nx (aD ?_))
 cases h0
 exact r0t 2 rfl
 iterate 6 refine k1 ?_
 refine pkf ?_
 refine pa (nx (aD ?_))
 cases h0
 exact r0t 2 rfl
theorem aI5 {p0 : bJ} {p1 : ByteArray} {r : Int} (h0 : rI p0 p1 = some r) : FnC Tryz.prog 234 [] [.ref (nC p0),(dS p1)] [] (dI r) := by
 refine fi 26 tok Tryz.func234 ?_
 unfold rI at h0
 refine sq [0] (pa (nx ?_))
 obtain ⟨v5x,h1,h0⟩ := bnd h0
 refine eN v5x (fun v5 => ⟨(fun _ => .dead),lks [.no, .no, .no]⟩) ?_ ?_
 refine sq [0] (pa (nx (aG ?_)))
 refine aZ (fun s3 => ⟨aB (aB (aB ((fun _ => .dead)) 0 (.ref (nC p0))) 1 (dS p1)) 5 (dI s3),lks [.no, .no, .no]⟩) h1 ?_ (fun s3 y h2 => ?_)
 exact wk [0,1,2]
 refine aE (sq [0,1,2,3,4,5,6] (pm ?_))
 refine pmr ?_
 refine nr ?_
 refine fr tok ?_
 refine lr tok ?_
 refine rP rfl (aL tok rfl rfl rfl) (rP rfl (bK rfl rfl) (nx ?_))
 refine bR h2 rfl (fun hc h2 => ?_) (fun hc h2 => ?_)
 refine sk (aE (aG (sq [0,1,2,3,4,5,6,7,8,9] (pmr ?_))))
 refine nr ?_
 refine fr tok ?_
 refine lr tok ?_
 refine pm ?_
 obtain ⟨v4,hv4,h2⟩ := bnd h2
 refine rP rfl (cO tok hv4 rfl rfl rfl rfl rfl rfl) (fr tok ?_)
 refine lr tok ?_
 refine pm ?_
 refine rP rfl (tQ rfl rfl) (nx ?_)
 refine bR h2 rfl (fun hc h2 => ?_) (fun hc h2 => ?_)
 refine sq [0,1] (pm ?_)
 refine pa (nx (aD ?_))
 refine bG (aT ?_)
 cases h2
 refine fC ⟨_,rfl,fun e => ?_⟩
 subst e
 refine bG ?_
 replace h0 := jF h0
 refine aT ?_
 cases h0
 exact r0t 4 rfl
 refine cW (bB (aH (sr [0,1,2] (pm ?_))))
 refine rP rfl (bN rfl rfl) (pa (aX ?_))
 refine cB ?_
 cases h2
 refine ⟨_,rfl,?_⟩
 exact wk [0,1,2]
 refine bI (cC ?_)
 cases h2
 refine cD ⟨_,rfl,fun e => ?_⟩
 subst e
 refine aU (aH ?_)
 refine ⟨_,rfl,?_⟩
 exact wk [0,1,2]
 rintro v5 rfl
 replace h0 := lZ h0
 refine sq [0] (pa (nx (aD ?_)))
 cases h0
 exact r0t 4 rfl
theorem zV {p0 : bJ} {p1 : Int} {p2 : Int} {r : Bool} (h0 : mX p0 p1 p2 = some r) : FnC Tryz.prog 270 [] [.ref (nC p0),(dI p1),(dI p2)] [] (dB r) := by
 refine fi 29 tok Tryz.func270 ?_
 unfold mX at h0
 refine sq [0] (pa (nx (sq [0,1,2,3,4,5,6,7,8,9,10,11,12,13,14,15,16,17,18,19,20,21,22] ?_)))
 refine pm ?_
 refine pmr ?_
 refine nr ?_
 refine fr tok ?_
 refine lr tok ?_
 refine rP rfl (aL tok rfl rfl rfl) (rP rfl (hY rfl rfl) ?_)
 obtain ⟨v1,hv1,h0⟩ := bnd h0
 refine rS rfl (aM 3 (eL hv1) rfl rfl rfl) (pm ?_)
 refine dQ (u := 15) h0 rfl (fun hc h0 => ?_) (fun hc h0 => ?_)
 refine pm1 ?_
 refine aGz ?_
 refine nr1 ?_
 refine fr1 tok ?_
 refine lr1 tok ?_
 refine pm1 ?_
 obtain ⟨v2,hv2,h0⟩ := bnd h0
 refine rp rfl (w1 rfl rfl rfl) rfl (cO tok hv2 rfl rfl rfl rfl rfl rfl) (fr1 tok ?_)
 refine lr1 tok ?_
 refine rp rfl (w1 rfl rfl rfl) rfl (aL tok rfl rfl rfl) (rp rfl (w1 rfl rfl rfl) rfl (hY rfl rfl) ?_)
 obtain ⟨v3,hv3,h0⟩ := bnd h0
 refine rs rfl (w1 rfl rfl rfl) rfl (aM 3 (eL hv3) rfl rfl rfl) (pkt ?_)
 refine pa (nx (aD ?_))
 cases h0
 exact r0t 6 rfl
 iterate 12 refine k1 ?_
 refine pkf ?_
 refine pa (nx (aD ?_))
 cases h0
 exact r0t 6 rfl
theorem aI6 {p0 : bJ} {p1 : cY} {r : Bool} (h0 : rJ p0 p1 = some r) : FnC Tryz.prog 235 [] [.ref (nC p0), .agg [dI p1.A,(dI p1.WheelA),(dI p1.B),(dI p1.WheelB)]] [] (dB r) := by
 refine fi 26 tok Tryz.func235 ?_
 unfold rJ at h0
 refine sq [0,1] (bxx 3 ?_)
 refine pa (nx (sq [0,1,2,3,4,5,6,7,8,9,10,11,12,13,14,15,16,17,18,19,20,21] ?_))
 refine fa tok ?_
 refine ld tok ?_
 refine fa tok ?_
 refine ld tok ?_
 refine rP rfl (eB rfl rfl) (pm ?_)
 refine fI (u := 10) h0 rfl (fun hc h0 => ?_) (fun hc h0 => ?_)
 refine aGz ?_
 refine fa1 tok ?_
 refine ld1 tok ?_
 refine fa1 tok ?_
 refine ld1 tok ?_
 obtain ⟨v1,hv1,h0⟩ := bnd h0
 refine rs rfl (w1 rfl rfl rfl) rfl (aM 4 (zV hv1) rfl rfl rfl) (pkt ?_)
 refine pm ?_
 refine dQ (u := 18) h0 rfl (fun hc h0 => ?_) (fun hc h0 => ?_)
 refine aGz ?_
 refine fa1 tok ?_
 refine ld1 tok ?_
 refine fa1 tok ?_
 refine ld1 tok ?_
 obtain ⟨v2,hv2,h0⟩ := bnd h0
 refine rs rfl (w1 rfl rfl rfl) rfl (aM 4 (zV hv2) rfl rfl rfl) (pkt ?_)
 refine pa (nx (aD ?_))
 cases h0
 exact r0t 4 rfl
 iterate 6 refine k1 ?_
 refine pkf ?_
 refine pa (nx (aD ?_))
 cases h0
 exact r0t 4 rfl
 iterate 6 refine k1 ?_
 refine pkf ?_
 refine pm ?_
 iterate 6 refine k1 ?_
 refine pkf ?_
 refine pa (nx (aD ?_))
 cases h0
 exact r0t 4 rfl
theorem aHc {p0 : cY} {p1 : cY} {r : Bool} (h0 : pU p0 p1 = some r) : FnC Tryz.prog 271 [] [.agg [dI p0.A,(dI p0.WheelA),(dI p0.B),(dI p0.WheelB)], .agg [dI p1.A,(dI p1.WheelA),(dI p1.B),(dI p1.WheelB)]] [] (dB r) := by
 refine fi 36 tok Tryz.func271 ?_
 unfold pU at h0
 refine sq [0,1,2] (bxx 3 ?_)
 refine bxx 4 ?_
 refine pa (nx (sq [0,1,2,3,4,5,6,7,8,9,10,11,12,13,14,15,16,17,18,19,20,21,22,23,24,25,26,27,28,29,30,31] ?_))
 refine rL rfl (aW tok rfl rfl rfl rfl) (rL rfl (aW tok rfl rfl rfl rfl) (rP rfl (uS (a := p0) (b := p1) rfl rfl) (pm ?_)))
 refine fI (u := 8) h0 rfl (fun hc h0 => ?_) (fun hc h0 => ?_)
 iterate 26 refine k1 ?_
 refine pkt ?_
 refine pa (nx (aD ?_))
 cases h0
 exact r0t 4 rfl
 refine fa1 tok ?_
 refine ld1 tok ?_
 refine fa1 tok ?_
 refine ld1 tok ?_
 refine rp rfl (w1 rfl rfl rfl) rfl (iT rfl rfl) (pm1 ?_)
 refine fI (u := 14) h0 rfl (fun hc h0 => ?_) (fun hc h0 => ?_)
 refine fa1 tok ?_
 refine ld1 tok ?_
 refine fa1 tok ?_
 refine ld1 tok ?_
 refine rp rfl (w1 rfl rfl rfl) rfl (iT rfl rfl) (aUk ?_)
 refine pm1 ?_
 refine fI (u := 21) h0 rfl (fun hc h0 => ?_) (fun hc h0 => ?_)
 refine fa1 tok ?_
 refine ld1 tok ?_
 refine fa1 tok ?_
 refine ld1 tok ?_
 refine rp rfl (w1 rfl rfl rfl) rfl (iT rfl rfl) (aUk ?_)
 refine pm1 ?_
 refine fI (u := 28) h0 rfl (fun hc h0 => ?_) (fun hc h0 => ?_)
 refine fa1 tok ?_
 refine ld1 tok ?_
 refine fa1 tok ?_
 refine ld1 tok ?_
 refine rp rfl (w1 rfl rfl rfl) rfl (iT rfl rfl) (aUk ?_)
 refine pkf ?_
 refine pa (nx (aD ?_))
 cases h0
 exact r0t 4 rfl
 iterate 5 refine k1 ?_
 refine aR8 ?_
 refine pkf ?_
 refine pa (nx (aD ?_))
 cases h0
 exact r0t 4 rfl
 iterate 5 refine k1 ?_
 refine aR8 ?_
 refine pm1 ?_
 iterate 5 refine k1 ?_
 refine aR8 ?_
 refine pkf ?_
 refine pa (nx (aD ?_))
 cases h0
 exact r0t 4 rfl
 iterate 5 refine k1 ?_
 refine aR8 ?_
 refine pm1 ?_
 iterate 5 refine k1 ?_
 refine aR8 ?_
 refine pm1 ?_
 iterate 5 refine k1 ?_
 refine aR8 ?_
 refine pkf ?_
 refine pa (nx (aD ?_))
 cases h0
 exact r0t 4 rfl
theorem aHe {p0 : bJ} {p1 : cY} {p2 : Int} {r : Bool} (h0 : pV p0 p1 p2 = some r) : FnC Tryz.prog 236 [] [.ref (nC p0), .agg [dI p1.A,(dI p1.WheelA),(dI p1.B),(dI p1.WheelB)],(dI p2)] [] (dB r) := by
 refine fi 22 tok Tryz.func236 ?_
 unfold pV at h0
 refine sq [0,1] (bxx 3 ?_)
 refine pa (nx ?_)
 obtain ⟨v7x,h1,h0⟩ := bnd h0
 refine eN v7x (fun v7 => ⟨(fun _ => .dead),lks [.no, .no, .no]⟩) ?_ ?_
 refine sq [0] (pa (nx (aG ?_)))
 refine aZ (fun s4 => ⟨aB (aB (aB (aB ((fun _ => .dead)) 0 (.ref (nC p0))) 2 (dI p2)) 4 (.ptr 3 0 1 0 0)) 7 (dI s4),lks [.no, .no, .no, .live [⟨125,4, .av [[dI p1.A,(dI p1.WheelA),(dI p1.B),(dI p1.WheelB)]]⟩]]⟩) h1 ?_ (fun s4 y h2 => ?_)
 exact wk [0,1,2,3]
 refine aE (sq [0,1,2] (pm ?_))
 refine pm ?_
 refine rP rfl (bK rfl rfl) (nx ?_)
 refine bR h2 rfl (fun hc h2 => ?_) (fun hc h2 => ?_)
 refine sk (aE (aG (aE (aK (is := [0,1,2,3,4,5,6,7,8]) [0,1,3,7,0,31,63,0,255] follows (by kernel_rfl) (aD3 ?_)))))
 refine tnr ?_
 refine tfr tok ?_
 refine tlr tok ?_
 refine tpm ?_
 obtain ⟨v5,hv5,h2⟩ := bnd h2
 refine tP rfl (cO tok hv5 rfl rfl rfl rfl rfl rfl) (tP rfl (bU tok rfl rfl rfl (by repeat (first | exact lN.z _ | apply lN.t))) (dG rfl w0 rfl (aW tok rfl rfl rfl rfl) rfl rfl rfl ?_))
 obtain ⟨v6,hv6,h2⟩ := bnd h2
 refine mS rfl w0 rfl (dF 4 (aHc hv6) rfl rfl rfl) (bS ?_)
 refine ⟨by kernel_rfl,?_⟩
 refine aH ?_
 refine bP h2 rfl (fun hc h2 => ?_) (fun hc h2 => ?_)
 refine sq [0] (pa (nx (aD ?_)))
 refine bG (aT ?_)
 cases h2
 refine fC ⟨_,rfl,fun e => ?_⟩
 subst e
 refine bG ?_
 replace h0 := jF h0
 refine aT ?_
 cases h0
 exact r0t 6 rfl
 refine cW (bB (aH (sr [0,1,2] (pm ?_))))
 refine rP rfl (bN rfl rfl) (pa (aX ?_))
 refine cB ?_
 cases h2
 refine ⟨_,rfl,?_⟩
 exact wk [0,1,2,3]
 refine bI (cC ?_)
 cases h2
 refine cD ⟨_,rfl,fun e => ?_⟩
 subst e
 refine aU (aH ?_)
 refine ⟨_,rfl,?_⟩
 exact wk [0,1,2]
 rintro v7 rfl
 replace h0 := lZ h0
 refine sq [0] (pa (nx (aD ?_)))
 cases h0
 exact r0t 6 rfl
theorem aN5 {p0 : bJ} {r : Bool} (h0 : uZ p0 = some r) : FnC Tryz.prog 160 [] [.ref (nC p0)] [] (dB r) := by
 refine fi 81 tok Tryz.func160 ?_
 unfold uZ at h0
 refine sq [0] (pa (nx ?_))
 obtain ⟨v13x,h1,h0⟩ := bnd h0
 refine eN v13x (fun v13 => ⟨aB ((fun _ => .dead)) 0 (.ref (nC p0)),lks [.no, .no, .no]⟩) ?_ ?_
 refine sq [0] (pa (nx (aG ?_)))
 refine aZ (fun s7 => ⟨aB (aB ((fun _ => .dead)) 0 (.ref (nC p0))) 3 (dI s7),lks [.no, .no, .no]⟩) h1 ?_ (fun s7 y h2 => ?_)
 exact wk [0,1,2]
 refine aE (sq [0,1,2,3,4,5,6] (pm ?_))
 refine pmr ?_
 refine nr ?_
 refine fr tok ?_
 refine lr tok ?_
 refine rP rfl (aL tok rfl rfl rfl) (rP rfl (bK rfl rfl) (nx ?_))
 refine bR h2 rfl (fun hc h2 => ?_) (fun hc h2 => ?_)
 refine sk (aE (aG ?_))
 obtain ⟨v12,h3,h2⟩ := bnd h2
 refine bC ⟨aB (aB (aB ((fun _ => .dead)) 0 (.ref (nC p0))) 3 (dI s7)) 35 (dB v12),lks [.no, .no, .no]⟩ ?_ ?_
 refine sr [0,1,2,3,4,5,6,7,8,9,10,11,12,13,14,15,16,17,18,19,20,21] (pmr ?_)
 refine nr ?_
 refine fr tok ?_
 refine lr tok ?_
 refine pm ?_
 obtain ⟨v8,hv8,h3⟩ := bnd h3
 refine rP rfl (cO tok hv8 rfl rfl rfl rfl rfl rfl) ?_
 obtain ⟨v9,hv9,h3⟩ := bnd h3
 refine rS rfl (aM 3 (aHb hv9) rfl rfl rfl) (rP rfl (cE rfl) (pm ?_))
 refine dQ (u := 22) h3 rfl (fun hc h3 => ?_) (fun hc h3 => ?_)
 iterate 12 refine k1 ?_
 refine pkt (nx ?_)
 cases h3
 exact wk [0,1,2]
 refine aGz ?_
 refine aGz ?_
 refine nr1 ?_
 refine fr1 tok ?_
 refine lr1 tok ?_
 refine pm1 ?_
 obtain ⟨v10,hv10,h3⟩ := bnd h3
 refine rp rfl (w1 rfl rfl rfl) rfl (cO tok hv10 rfl rfl rfl rfl rfl rfl) (fr1 tok ?_)
 refine lr1 tok ?_
 obtain ⟨v11,hv11,h3⟩ := bnd h3
 refine rs rfl (w1 rfl rfl rfl) rfl (aM 3 (aI5 hv11) rfl rfl rfl) (pm1 ?_)
 refine rp rfl (w1 rfl rfl rfl) rfl (eB rfl rfl) (pkf (nx ?_))
 cases h3
 refine lO.trans_ (kU (d := 26) (ds := (cL bF) p0.Arbors) rfl (by repeat (first | exact Pre.z _ | apply Pre.t))) (lO.trans_ (kU (d := 30) (ds := cS v10.Name) rfl (by repeat (first | exact Pre.z _ | apply Pre.t))) ?_)
 exact wk [0,1,2]
 refine bP h2 rfl (fun hc h2 => ?_) (fun hc h2 => ?_)
 refine sq [0] (pa (nx (aD ?_)))
 refine bG (aT ?_)
 cases h2
 refine fC ⟨_,rfl,fun e => ?_⟩
 subst e
 refine bG ?_
 replace h0 := jF h0
 refine aT ?_
 cases h0
 exact r0t 2 rfl
 refine cW (bB (aH (sr [0,1,2] (pm ?_))))
 refine rP rfl (bN rfl rfl) (pa (aX ?_))
 refine cB ?_
 cases h2
 refine ⟨_,rfl,?_⟩
 exact wk [0,1,2]
 refine bI (cC ?_)
 cases h2
 refine cD ⟨_,rfl,fun e => ?_⟩
 subst e
 refine aU (aH ?_)
 refine ⟨_,rfl,?_⟩
 exact wk [0,1,2]
 rintro v13 rfl
 replace h0 := lZ h0
 obtain ⟨v26x,h1,h0⟩ := bnd h0
 refine eN v26x (fun v26 => ⟨aB ((fun _ => .dead)) 0 (.ref (nC p0)),lks [.no, .no, .no]⟩) ?_ ?_
 refine sq [0] (pa (nx (aG ?_)))
 refine aZ (fun s20 => ⟨aB (aB ((fun _ => .dead)) 0 (.ref (nC p0))) 4 (dI s20),lks [.no, .no, .no]⟩) h1 ?_ (fun s20 y h2 => ?_)
 exact wk [0,1,2]
 refine aE (sq [0,1,2,3,4,5,6] (pm ?_))
 refine pmr ?_
 refine nr ?_
 refine fr tok ?_
 refine lr tok ?_
 refine rP rfl (aL tok rfl rfl rfl) (rP rfl (bK rfl rfl) (nx ?_))
 refine bR h2 rfl (fun hc h2 => ?_) (fun hc h2 => ?_)
 refine sk (aE (aG ?_))
 obtain ⟨v25,h3,h2⟩ := bnd h2
 refine bC ⟨aB (aB (aB ((fun _ => .dead)) 0 (.ref (nC p0))) 4 (dI s20)) 66 (dB v25),lks [.no, .no, .no]⟩ ?_ ?_
 refine sr [0,1,2,3,4,5,6,7,8,9,10,11,12,13,14,15,16,17,18,19,20,21] (pmr ?_)
 refine pmr ?_
 refine nr ?_
 refine fr tok ?_
 refine lr tok ?_
 refine pm ?_
 obtain ⟨v21,hv21,h3⟩ := bnd h3
 refine rP rfl (cO tok hv21 rfl rfl rfl rfl rfl rfl) (rP rfl (bU tok rfl rfl rfl (by repeat (first | exact lN.z _ | apply lN.t))) ?_)
 obtain ⟨v22,hv22,h3⟩ := bnd h3
 refine rS rfl (aM 3 (aI6 hv22) rfl rfl rfl) (rP rfl (cE rfl) (pm ?_))
 refine dQ (u := 55) h3 rfl (fun hc h3 => ?_) (fun hc h3 => ?_)
 iterate 10 refine k1 ?_
 refine pkt (nx ?_)
 cases h3
 exact wk [0,1,2]
 refine aGz ?_
 refine aGz ?_
 refine nr1 ?_
 refine fr1 tok ?_
 refine lr1 tok ?_
 refine pm1 ?_
 obtain ⟨v23,hv23,h3⟩ := bnd h3
 refine rp rfl (w1 rfl rfl rfl) rfl (cO tok hv23 rfl rfl rfl rfl rfl rfl) (rp rfl (w1 rfl rfl rfl) rfl (bU tok rfl rfl rfl (by repeat (first | exact lN.z _ | apply lN.t))) (pm1 ?_))
 obtain ⟨v24,hv24,h3⟩ := bnd h3
 refine rs rfl (w1 rfl rfl rfl) rfl (aM 3 (aHe hv24) rfl rfl rfl) (pkf (nx ?_))
 cases h3
 refine lO.trans_ (kU (d := 59) (ds := (cL cQ) p0.Meshes) rfl (by repeat (first | exact Pre.z _ | apply Pre.t))) ?_
 exact wk [0,1,2]
 refine bP h2 rfl (fun hc h2 => ?_) (fun hc h2 => ?_)
 refine sq [0] (pa (nx (aD ?_)))
 refine bG (aT ?_)
 cases h2
 refine fC ⟨_,rfl,fun e => ?_⟩
 subst e
 refine bG ?_
 replace h0 := jF h0
 refine aT ?_
 cases h0
 exact r0t 2 rfl
 refine cW (bB (aH (sr [0,1,2] (pm ?_))))
 refine rP rfl (bN rfl rfl) (pa (aX ?_))
 refine cB ?_
 cases h2
 refine ⟨_,rfl,?_⟩
 exact wk [0,1,2]
 refine bI (cC ?_)
 cases h2
 refine cD ⟨_,rfl,fun e => ?_⟩
 subst e
 refine aU (aH ?_)
 refine ⟨_,rfl,?_⟩
 exact wk [0,1,2]
 rintro v26 rfl
 replace h0 := lZ h0
 refine sq [0,1,2,3,4,5,6,7,8,9,10,11,12,13,14] (pmr ?_)
 refine nr ?_
 refine fr tok ?_
 refine lr tok ?_
 refine rP rfl (aL tok rfl rfl rfl) (rP rfl (gR rfl rfl) (pm ?_))
 refine fI (u := 73) h0 rfl (fun hc h0 => ?_) (fun hc h0 => ?_)
 refine aGz ?_
 refine nr1 ?_
 refine fr1 tok ?_
 refine lr1 tok ?_
 refine rp rfl (w1 rfl rfl rfl) rfl (aL tok rfl rfl rfl) (rp rfl (w1 rfl rfl rfl) rfl (gR rfl rfl) (pkt ?_))
 refine pa (nx (aD ?_))
 cases h0
 exact r0t 2 rfl
 iterate 6 refine k1 ?_
 refine pkf ?_
 refine pa (nx (aD ?_))
 cases h0
 exact r0t 2 rfl
theorem wP {p0 : bJ} {p1 : Int} {r : Bool} (h0 : mG p0 p1 = some r) : FnC Tryz.prog 161 [] [.ref (nC p0),(dI p1)] [] (dB r) := by
 refine fi 13 tok Tryz.func161 ?_
 unfold mG at h0
 refine sq [0] (pa (nx (sq [0,1,2,3,4,5,6,7,8] ?_)))
 refine pm ?_
 refine pmr ?_
 refine nr ?_
 refine fr tok ?_
 refine lr tok ?_
 refine rP rfl (aL tok rfl rfl rfl) (rP rfl (hY rfl rfl) ?_)
 obtain ⟨v1,hv1,h0⟩ := bnd h0
 refine rS rfl (aM 3 (eL hv1) rfl rfl rfl) (pa (nx (aD ?_)))
 cases h0
 exact r0t 4 rfl
theorem aN7 {p0 : List Int} {r : Bool} (h0 : vC p0 = some r) : FnC Tryz.prog 162 [] [dL cI p0] [] (dB r) := by
 refine fi 19 tok Tryz.func162 ?_
 unfold vC at h0
 refine sq [0] (pa (nx ?_))
 obtain ⟨v7x,h1,h0⟩ := bnd h0
 refine eN v7x (fun v7 => ⟨aB ((fun _ => .dead)) 0 (dL cI p0),lks [.no, .no, .no]⟩) ?_ ?_
 refine sq [0] (pa (nx (aG ?_)))
 refine aZ (fun s4 => ⟨aB (aB ((fun _ => .dead)) 0 (dL cI p0)) 3 (dI s4),lks [.no, .no, .no]⟩) h1 ?_ (fun s4 y h2 => ?_)
 exact wk [0,1,2]
 refine aE (sq [0,1,2,3] (pm ?_))
 refine pm ?_
 refine rP rfl (aL tok rfl rfl rfl) (rP rfl (bK rfl rfl) (nx ?_))
 refine bR h2 rfl (fun hc h2 => ?_) (fun hc h2 => ?_)
 refine sk (aE (aG (sq [0,1,2,3,4,5] (pm ?_))))
 refine pm ?_
 obtain ⟨v5,hv5,h2⟩ := bnd h2
 refine rP rfl (cO tok hv5 rfl rfl rfl rfl rfl rfl) (lr tok ?_)
 obtain ⟨v6,hv6,h2⟩ := bnd h2
 refine rS rfl (aM 3 (eL hv6) rfl rfl rfl) (rP rfl (cE rfl) (nx ?_))
 refine bP h2 rfl (fun hc h2 => ?_) (fun hc h2 => ?_)
 refine sq [0] (pa (nx (aD ?_)))
 refine bG (aT ?_)
 cases h2
 refine fC ⟨_,rfl,fun e => ?_⟩
 subst e
 refine bG ?_
 replace h0 := jF h0
 refine aT ?_
 cases h0
 exact r0t 2 rfl
 refine cW (bB (aH (sr [0,1,2] (pm ?_))))
 refine rP rfl (bN rfl rfl) (pa (aX ?_))
 refine cB ?_
 cases h2
 refine ⟨_,rfl,?_⟩
 exact wk [0,1,2]
 refine bI (cC ?_)
 cases h2
 refine cD ⟨_,rfl,fun e => ?_⟩
 subst e
 refine aU (aH ?_)
 refine ⟨_,rfl,?_⟩
 exact wk [0,1,2]
 rintro v7 rfl
 replace h0 := lZ h0
 refine sq [0,1,2,3] (pm ?_)
 refine rP rfl (aL tok rfl rfl rfl) ?_
 obtain ⟨v8,hv8,h0⟩ := bnd h0
 refine rS rfl (aM 3 (eL hv8) rfl rfl rfl) (pa (nx (aD ?_)))
 cases h0
 exact r0t 2 rfl
theorem aN8 {p0 : aV} {r : Bool} (h0 : vD p0 = some r) : FnC Tryz.prog 80 [] [.ref (aDf p0)] [] (dB r) := by
 refine fi 81 tok Tryz.func80 ?_
 unfold vD at h0
 refine sq [0] (pa (nx (aE ?_)))
 obtain ⟨v6,h1,h0⟩ := bnd h0
 refine bC ⟨aB (aB ((fun _ => .dead)) 0 (.ref (aDf p0))) 48 (dB v6),lks [.no, .no, .no]⟩ ?_ ?_
 refine aK (is := [0,1,2,3,4,5,6,7,8,9,10,11,12,13,14,15,16,17,18,19,20,21,22,23,24,25,26,27,28,29,30,31,32,33,34,35,36,37,38,39,40,41,42,43,44,45]) [0,1,3,7,15,31,63,127,255,511,1023,2047,4095,8191,16383,32767,65535,16383,147455,409599,933887,2097151,4194303,8388607,16777215,33554431,67108863,134217727,33554431,301989887,838860799,1912602623,4294967295,8589934591,17179869183,34359738367,68719476735,137438953471,274877906943,68719476735,618475290623,1717986918399,3917010173951,8796093022207,17592186044415,35184372088831] follows (by kernel_rfl) (aD3 ?_)
 refine tnr ?_
 refine tfr tok ?_
 refine tlr tok ?_
 obtain ⟨v1,hv1,h1⟩ := bnd h1
 refine mS rfl w0 rfl (dF 3 (sP hv1) rfl rfl rfl) (tP rfl (cE rfl) (tpm ?_))
 refine yA (u := 9) h1 rfl (fun hc h1 => ?_) (fun hc h1 => ?_)
 iterate 5 refine k2 ?_
 refine aCn ?_
 refine tpm ?_
 iterate 9 refine k2 ?_
 refine aCn ?_
 refine tpm ?_
 iterate 9 refine k2 ?_
 refine aCn ?_
 refine tpm ?_
 iterate 9 refine k2 ?_
 refine aCn ?_
 refine bS ?_
 refine ⟨by kernel_rfl,?_⟩
 refine aH ?_
 cases h1
 exact wk [0,1,2]
 refine aC8 ?_
 refine aO1 ?_
 refine aH0 tok ?_
 obtain ⟨v2,hv2,h1⟩ := bnd h1
 refine mS rfl (w1 rfl rfl rfl) rfl (dF 3 (aBh (aN5 hv2)) rfl rfl rfl) (rQ rfl (w1 rfl rfl rfl) rfl (cE rfl) (aFu ?_))
 refine tpm ?_
 refine yA (u := 16) h1 rfl (fun hc h1 => ?_) (fun hc h1 => ?_)
 iterate 9 refine k2 ?_
 refine aCn ?_
 refine tpm ?_
 iterate 9 refine k2 ?_
 refine aCn ?_
 refine tpm ?_
 iterate 9 refine k2 ?_
 refine aCn ?_
 refine bS ?_
 refine ⟨by kernel_rfl,?_⟩
 refine aH ?_
 cases h1
 exact wk [0,1,2]
 refine aC8 ?_
 refine aO1 ?_
 refine aH0 tok ?_
 refine aC8 ?_
 refine aO1 ?_
 refine aH0 tok ?_
 refine aLw tok ?_
 obtain ⟨v3,hv3,h1⟩ := bnd h1
 refine mS rfl (w1 rfl rfl rfl) rfl (dF 3 (aBh (wP hv3)) rfl rfl rfl) (rQ rfl (w1 rfl rfl rfl) rfl (cE rfl) (aFu ?_))
 refine tpm ?_
 refine yA (u := 27) h1 rfl (fun hc h1 => ?_) (fun hc h1 => ?_)
 iterate 9 refine k2 ?_
 refine aCn ?_
 refine tpm ?_
 iterate 9 refine k2 ?_
 refine aCn ?_
 refine bS ?_
 refine ⟨by kernel_rfl,?_⟩
 refine aH ?_
 cases h1
 exact wk [0,1,2]
 refine aC8 ?_
 refine aO1 ?_
 refine aH0 tok ?_
 refine aC8 ?_
 refine aO1 ?_
 refine aH0 tok ?_
 refine aLw tok ?_
 obtain ⟨v4,hv4,h1⟩ := bnd h1
 refine mS rfl (w1 rfl rfl rfl) rfl (dF 3 (aBh (wP hv4)) rfl rfl rfl) (rQ rfl (w1 rfl rfl rfl) rfl (cE rfl) (aFu ?_))
 refine tpm ?_
 refine yA (u := 38) h1 rfl (fun hc h1 => ?_) (fun hc h1 => ?_)
 iterate 9 refine k2 ?_
 refine aCn ?_
 refine bS ?_
 refine ⟨by kernel_rfl,?_⟩
 refine aH ?_
 cases h1
 exact wk [0,1,2]
 refine aC8 ?_
 refine aO1 ?_
 refine aH0 tok ?_
 refine aC8 ?_
 refine aO1 ?_
 refine aH0 tok ?_
 refine aLw tok ?_
 obtain ⟨v5,hv5,h1⟩ := bnd h1
 refine mS rfl (w1 rfl rfl rfl) rfl (dF 3 (aBh (wP hv5)) rfl rfl rfl) (rQ rfl (w1 rfl rfl rfl) rfl (cE rfl) (aFu ?_))
 refine bS ?_
 refine ⟨by kernel_rfl,?_⟩
 refine aH ?_
 cases h1
 exact wk [0,1,2]
 refine bP h0 rfl (fun hc h0 => ?_) (fun hc h0 => ?_)
 refine sq [0] (pa (nx (aD (aT ?_))))
 cases h0
 exact r0t 2 rfl
 refine sk (sq [0,1,2,3,4,5,6,7,8,9,10,11,12,13,14,15,16,17,18,19,20,21,22,23,24,25,26,27,28,29,30,31,32] (pmr ?_))
 refine nr ?_
 refine fr tok ?_
 refine lr tok ?_
 obtain ⟨v7,hv7,h0⟩ := bnd h0
 refine rS rfl (aM 3 (pN hv7) rfl rfl rfl) (pm ?_)
 refine dQ (u := 54) h0 rfl (fun hc h0 => ?_) (fun hc h0 => ?_)
 refine aGz ?_
 refine nr1 ?_
 refine fr1 tok ?_
 refine lr1 tok ?_
 obtain ⟨v8,hv8,h0⟩ := bnd h0
 refine rs rfl (w1 rfl rfl rfl) rfl (aM 3 (eL hv8) rfl rfl rfl) (pkt ?_)
 refine pm ?_
 refine dQ (u := 61) h0 rfl (fun hc h0 => ?_) (fun hc h0 => ?_)
 refine aGz ?_
 refine nr1 ?_
 refine fr1 tok ?_
 obtain ⟨v9,hv9,h0⟩ := bnd h0
 refine rs rfl (w1 rfl rfl rfl) rfl (aM 3 (aBh (yH hv9)) rfl rfl rfl) (pkt ?_)
 refine pm ?_
 refine dQ (u := 67) h0 rfl (fun hc h0 => ?_) (fun hc h0 => ?_)
 refine aGz ?_
 refine nr1 ?_
 refine fr1 tok ?_
 refine lr1 tok ?_
 obtain ⟨v10,hv10,h0⟩ := bnd h0
 refine rs rfl (w1 rfl rfl rfl) rfl (aM 3 (aN7 hv10) rfl rfl rfl) (pkt ?_)
 refine pm ?_
 refine dQ (u := 74) h0 rfl (fun hc h0 => ?_) (fun hc h0 => ?_)
 refine aGz ?_
 refine nr1 ?_
 refine fr1 tok ?_
 refine lr1 tok ?_
 obtain ⟨v11,hv11,h0⟩ := bnd h0
 refine rs rfl (w1 rfl rfl rfl) rfl (aM 3 (eL hv11) rfl rfl rfl) (pkt ?_)
 refine pa (nx (aD ?_))
 cases h0
 exact r0t 2 rfl
 iterate 5 refine k1 ?_
 refine pkf ?_
 refine pa (nx (aD ?_))
 cases h0
 exact r0t 2 rfl
 iterate 5 refine k1 ?_
 refine pkf ?_
 refine pm ?_
 iterate 5 refine k1 ?_
 refine pkf ?_
 refine pa (nx (aD ?_))
 cases h0
 exact r0t 2 rfl
 iterate 4 refine k1 ?_
 refine pkf ?_
 refine pm ?_
 iterate 5 refine k1 ?_
 refine pkf ?_
 refine pm ?_
 iterate 5 refine k1 ?_
 refine pkf ?_
 refine pa (nx (aD ?_))
 cases h0
 exact r0t 2 rfl
 iterate 5 refine k1 ?_
 refine pkf ?_
 refine pm ?_
 iterate 4 refine k1 ?_
 refine pkf ?_
 refine pm ?_
 iterate 5 refine k1 ?_
 refine pkf ?_
 refine pm ?_
 iterate 5 refine k1 ?_
 refine pkf ?_
 refine pa (nx (aD ?_))
 cases h0
 exact r0t 2 rfl
theorem zD {p0 : aV} {r : Bool} (h0 : gG p0 = some r) : FnC Tryz.prog 26 [] [.agg [dS p0.Name,(dL bF p0.Works.Arbors),(dL cQ p0.Works.Meshes),(dI p0.Minute),(dI p0.Hour),(dI p0.Escape),(dI p0.Teeth),(dI p0.Beats),(dS p0.Calendar.Name),(dL aY p0.Calendar.Months),(dL aP p0.Calendar.Rules),(dI p0.Calendar.Week),(dL cI p0.Cam),(dI p0.Strike)]] [] (dB r) := by
 refine fi 4 tok Tryz.func26 ?_
 unfold gG at h0
 refine sq [0,1] (bxx 3 ?_)
 refine pa (nx (sq [0,1] ?_))
 obtain ⟨v1,hv1,h0⟩ := bnd h0
 refine rS rfl (fU 4 (aN8 hv1) rfl rfl) (pa (nx (aD ?_)))
 cases h0
 exact r0t 2 rfl
theorem aCb {p0 : aA} {p1 : Bool} {r : aA × Int} (h0 : oI p0 p1 = some r) : FnC Tryz.prog 82 [] [.agg [dI p0.Num,(dI p0.Den)],(dB p1)] [] (.tup [.agg [dI r.1.Num,(dI r.1.Den)],(dI r.2)]) := by
 refine fi 10 tok Tryz.func82 ?_
 unfold oI at h0
 refine sq [0,1,2] (bxx 3 ?_)
 refine al 4 [z0,z0] tok ?_
 refine pa (nx (aE (sq [0,1] ?_)))
 refine pm ?_
 refine rP rfl (cE rfl) (nx ?_)
 refine bP h0 rfl (fun hc h0 => ?_) (fun hc h0 => ?_)
 refine sq [0,1,2] (rP rfl (pbl (C0 := [z0,z0]) tok rfl rfl rfl) (bst tok ?_))
 refine pa (nx (aD (aT ?_)))
 cases h0
 exact eI (rs := [.cell 4 62, .tmp 5]) rfl
 refine sk (sq [0,1,2] (rL rfl (aW tok rfl rfl rfl rfl) (bst tok ?_)))
 refine pa (nx (aD ?_))
 cases h0
 exact eI (rs := [.cell 4 62, .tmp 5]) rfl
theorem uU {p0 : aA} {p1 : aA} {r : aA × Int} (h0 : gC p0 p1 = some r) : FnC Tryz.prog 27 [] [.agg [dI p0.Num,(dI p0.Den)], .agg [dI p1.Num,(dI p1.Den)]] [] (.tup [.agg [dI r.1.Num,(dI r.1.Den)],(dI r.2)]) := by
 refine fi 23 tok Tryz.func27 ?_
 unfold gC at h0
 refine sq [0,1,2,3] (bxx 3 ?_)
 refine bxx 4 ?_
 refine al 5 [z0,z0] tok ?_
 refine pa (nx (aE ?_))
 obtain ⟨v3,h1,h0⟩ := bnd h0
 refine bC ⟨aB (aB (aB (aB ((fun _ => .dead)) 2 (.ptr 3 0 1 0 0)) 3 (.ptr 4 0 1 0 0)) 4 (.ptr 5 0 1 0 0)) 13 (dB v3),lks [.no, .no, .no, .live [⟨62,2, .av [[dI p0.Num,(dI p0.Den)]]⟩], .live [⟨62,2, .av [[dI p1.Num,(dI p1.Den)]]⟩], .live [⟨62,2, .av [[z0,z0]]⟩]]⟩ ?_ ?_
 refine sr [0,1,2,3,4,5,6,7] (rL rfl (aW tok rfl rfl rfl rfl) ?_)
 obtain ⟨v1,hv1,h1⟩ := bnd h1
 refine rS rfl (aM 6 (sS hv1) rfl rfl rfl) (rP rfl (cE rfl) (pm ?_))
 refine dQ (u := 9) h1 rfl (fun hc h1 => ?_) (fun hc h1 => ?_)
 iterate 3 refine k1 ?_
 refine pkt (nx ?_)
 cases h1
 exact wk [0,1,2,3,4,5]
 refine rl rfl (w1 rfl rfl rfl) rfl (aW tok rfl rfl rfl rfl) ?_
 obtain ⟨v2,hv2,h1⟩ := bnd h1
 refine rs rfl (w1 rfl rfl rfl) rfl (aM 6 (sS hv2) rfl rfl rfl) (rp rfl (w1 rfl rfl rfl) rfl (cE rfl) (pkf (nx ?_)))
 cases h1
 exact wk [0,1,2,3,4,5]
 refine bP h0 rfl (fun hc h0 => ?_) (fun hc h0 => ?_)
 refine sq [0,1,2] (rP rfl (pbl (C0 := [z0,z0]) tok rfl rfl rfl) (bst tok ?_))
 refine pa (nx (aD (aT ?_)))
 cases h0
 exact eI (rs := [.cell 4 62, .tmp 5]) rfl
 refine sk (sq [0,1,2,3,4,5,6,7,8,9] (rL rfl (aW tok rfl rfl rfl rfl) (rL rfl (aW tok rfl rfl rfl rfl) ?_)))
 obtain ⟨v4,hv4,h0⟩ := bnd h0
 refine rS rfl (aM 6 (aDw hv4) rfl rfl rfl) (rP rfl (aJ rfl rfl) (rP rfl (aJ rfl rfl) ?_))
 obtain ⟨v5,hv5,h0⟩ := bnd h0
 refine rS rfl (aM 6 (aCb hv5) rfl rfl rfl) (rP rfl (aJ rfl rfl) (rP rfl (aJ rfl rfl) (bst tok ?_)))
 refine pa (nx (aD ?_))
 cases h0
 exact eI (rs := [.cell 4 62, .tmp 5]) rfl
theorem aG5 {p0 : aA} {p1 : aA} {r : aA × Int} (h0 : mT p0 p1 = some r) : FnC Tryz.prog 28 [] [.agg [dI p0.Num,(dI p0.Den)], .agg [dI p1.Num,(dI p1.Den)]] [] (.tup [.agg [dI r.1.Num,(dI r.1.Den)],(dI r.2)]) := by
 refine fi 24 tok Tryz.func28 ?_
 unfold mT at h0
 refine sq [0,1,2,3] (bxx 3 ?_)
 refine bxx 4 ?_
 refine al 5 [z0,z0] tok ?_
 refine pa (nx (aE ?_))
 obtain ⟨v3,h1,h0⟩ := bnd h0
 refine bC ⟨aB (aB (aB (aB ((fun _ => .dead)) 2 (.ptr 3 0 1 0 0)) 3 (.ptr 4 0 1 0 0)) 4 (.ptr 5 0 1 0 0)) 13 (dB v3),lks [.no, .no, .no, .live [⟨62,2, .av [[dI p0.Num,(dI p0.Den)]]⟩], .live [⟨62,2, .av [[dI p1.Num,(dI p1.Den)]]⟩], .live [⟨62,2, .av [[z0,z0]]⟩]]⟩ ?_ ?_
 refine sr [0,1,2,3,4,5,6,7] (rL rfl (aW tok rfl rfl rfl rfl) ?_)
 obtain ⟨v1,hv1,h1⟩ := bnd h1
 refine rS rfl (aM 6 (sS hv1) rfl rfl rfl) (rP rfl (cE rfl) (pm ?_))
 refine dQ (u := 9) h1 rfl (fun hc h1 => ?_) (fun hc h1 => ?_)
 iterate 3 refine k1 ?_
 refine pkt (nx ?_)
 cases h1
 exact wk [0,1,2,3,4,5]
 refine rl rfl (w1 rfl rfl rfl) rfl (aW tok rfl rfl rfl rfl) ?_
 obtain ⟨v2,hv2,h1⟩ := bnd h1
 refine rs rfl (w1 rfl rfl rfl) rfl (aM 6 (sS hv2) rfl rfl rfl) (rp rfl (w1 rfl rfl rfl) rfl (cE rfl) (pkf (nx ?_)))
 cases h1
 exact wk [0,1,2,3,4,5]
 refine bP h0 rfl (fun hc h0 => ?_) (fun hc h0 => ?_)
 refine sq [0,1,2] (rP rfl (pbl (C0 := [z0,z0]) tok rfl rfl rfl) (bst tok ?_))
 refine pa (nx (aD (aT ?_)))
 cases h0
 exact eI (rs := [.cell 4 62, .tmp 5]) rfl
 refine sk (aE (aK (is := [0,1,2,3,4,5,6,7,8,9,10]) [0,0,2,7,15,15,63,127,127,511,1023] follows (by kernel_rfl) (dG rfl w0 rfl (aW tok rfl rfl rfl rfl) rfl rfl rfl (dG rfl w0 rfl (aW tok rfl rfl rfl rfl) rfl rfl rfl ?_))))
 obtain ⟨v4,hv4,h0⟩ := bnd h0
 refine mS rfl w0 rfl (dF 6 (aDx hv4) rfl rfl rfl) ?_
 obtain ⟨v5,hv5,h0⟩ := bnd h0
 refine mS rfl w0 rfl (dF 6 (aDv hv5) rfl rfl rfl) (tP rfl (aJ rfl rfl) (tP rfl (aJ rfl rfl) ?_))
 obtain ⟨v6,hv6,h0⟩ := bnd h0
 refine mS rfl w0 rfl (dF 6 (aCb hv6) rfl rfl rfl) (tP rfl (aJ rfl rfl) (tP rfl (aJ rfl rfl) (qH rfl w0 (kY (cs := _ :: _) tok rfl rfl rfl rfl rfl rfl rfl) (tpa ?_))))
 refine bS ?_
 refine ⟨by kernel_rfl,?_⟩
 refine aH (aD ?_)
 cases h0
 exact eI (rs := [.cell 4 62, .tmp 5]) rfl
theorem aDo {p0 : aA} {r : aA} (h0 : qM p0 = some r) : FnC Tryz.prog 29 [] [.agg [dI p0.Num,(dI p0.Den)]] [] (.agg [dI r.Num,(dI r.Den)]) := by
 refine fi 11 tok Tryz.func29 ?_
 unfold qM at h0
 refine sq [0,1] (bxx 3 ?_)
 refine al 4 [z0,z0] tok (nx ?_)
 obtain ⟨v1,h1,h0⟩ := bnd h0
 refine bC ⟨aB (aB ((fun _ => .dead)) 1 (.ptr 3 0 1 0 0)) 2 (.ptr 4 0 1 0 0),lks [.no, .no, .no, .live [⟨62,2, .av [[dI v1.Num,(dI v1.Den)]]⟩], .live [⟨62,2, .av [[z0,z0]]⟩]]⟩ ?_ ?_
 refine sq [0,1,2] (fa tok ?_)
 refine ld tok ?_
 refine rP rfl (bK rfl rfl) (nx ?_)
 refine bR h1 rfl (fun hc h1 => ?_) (fun hc h1 => ?_)
 refine sr [0,1,2,3,4] (fa tok ?_)
 refine ld tok ?_
 refine rP rfl (uT rfl) (fa tok ?_)
 refine bs1 tok (nx ?_)
 cases h1
 exact wk [0,1,2,3,4]
 refine sk ?_
 cases h1
 exact wk [0,1,2,3,4]
 refine sq [0,1] (rL rfl (aW tok rfl rfl rfl rfl) (bst tok (nx (aD ?_))))
 cases h0
 exact eI (rs := [.cell 2 62]) rfl
theorem aGs {p0 : List Int} {p1 : List Int} {r : Bool} (h0 : pJ p0 p1 = some r) : FnC Tryz.prog 5 [] [dL cU8 p0,(dL cU8 p1)] [] (dB r) := by
 refine fi 160 tok Tryz.func5 ?_
 unfold pJ at h0
 refine sq [0] (pa (nx (aE (sq [0,1,2] ?_))))
 refine pm ?_
 refine pm ?_
 obtain ⟨v1,hv1,h0⟩ := bnd h0
 refine rS rfl (aM 3 (aLf hv1) rfl rfl rfl) (nx ?_)
 refine bP h0 rfl (fun hc h0 => ?_) (fun hc h0 => ?_)
 refine sq [0] (pa (nx (aD (aT ?_))))
 cases h0
 exact r0t 4 rfl
 refine sk (sq [0,1,2,3] (pm ?_))
 obtain ⟨v2,hv2,h0⟩ := bnd h0
 refine rS rfl (aM 3 (aC4 hv2) rfl rfl rfl) (al 5 [ze,zl,zl,z0,z0,z0,z0,z0,ze,zl,zl,z0,zl,z0] tok ?_)
 refine bst tok (nx (sq [0,1,2,3,4,5,6,7,8,9,10,11,12] ?_))
 refine fa tok ?_
 refine ld tok ?_
 refine fa tok ?_
 refine ld tok ?_
 refine fa tok ?_
 refine rL rfl (aW tok rfl rfl rfl rfl) ?_
 obtain ⟨v3,hv3,h0⟩ := bnd h0
 refine rS rfl (aM 6 (xG hv3) rfl rfl rfl) (rP rfl (aF (r := .tup _) rfl) (rP rfl (aJ rfl rfl) (rP rfl (aJ rfl rfl) (al 12 [ze,zl,zl,z0,z0,z0,z0,z0,ze,zl,zl,z0,zl,z0] tok ?_))))
 refine bst tok ?_
 refine pa (nx (aE (sq [0,1] ?_)))
 refine pm ?_
 refine rP rfl (eB rfl rfl) (nx ?_)
 refine bR h0 rfl (fun hc h0 => ?_) (fun hc h0 => ?_)
 refine sq [0,1,2] (pm ?_)
 refine rP rfl (iT rfl rfl) (pa (nx (aD (aT ?_))))
 cases h0
 exact r0t 4 rfl
 refine sk (sq [0,1,2,3] (pm ?_))
 obtain ⟨v4,hv4,h0⟩ := bnd h0
 refine rS rfl (aM 13 (aPy hv4) rfl rfl rfl) (rP rfl (eG rfl rfl) (pa (nx (sq [0,1,2,3,4,5,6,7,8,9,10] ?_))))
 refine rL rfl (aW tok rfl rfl rfl rfl) (fa tok ?_)
 refine ld tok ?_
 refine pm ?_
 obtain ⟨v5,hv5,h0⟩ := bnd h0
 refine rS rfl (fU 13 (aBk hv5) rfl rfl) (rP rfl (aF (r := .tup _) rfl) (rP rfl (aJ rfl rfl) (rP rfl (aJ rfl rfl) (al 13 [z0,z0] tok ?_))))
 refine bst tok ?_
 refine pa (nx (sq [0,1,2,3,4,5,6,7,8,9,10] ?_))
 refine rL rfl (aW tok rfl rfl rfl rfl) (fa tok ?_)
 refine ld tok ?_
 refine pm ?_
 obtain ⟨v6,hv6,h0⟩ := bnd h0
 refine rS rfl (fU 14 (aBk hv6) rfl rfl) (rP rfl (aF (r := .tup _) rfl) (rP rfl (aJ rfl rfl) (rP rfl (aJ rfl rfl) (al 14 [z0,z0] tok ?_))))
 refine bst tok ?_
 refine pa (nx (sq [0,1,2,3,4,5,6,7,8,9] ?_))
 refine rL rfl (aW tok rfl rfl rfl rfl) (fa tok ?_)
 refine ld tok ?_
 obtain ⟨v7,hv7,h0⟩ := bnd h0
 refine rS rfl (fU 15 (wJ hv7) rfl rfl) (rP rfl (aF (r := .tup _) rfl) (rP rfl (aJ rfl rfl) (rP rfl (aJ rfl rfl) (al 15 [z0,z0] tok ?_))))
 refine bst tok ?_
 refine pa (nx (sq [0,1,2,3,4,5,6,7,8,9] ?_))
 refine rL rfl (aW tok rfl rfl rfl rfl) (fa tok ?_)
 refine ld tok ?_
 obtain ⟨v8,hv8,h0⟩ := bnd h0
 refine rS rfl (fU 16 (aGk hv8) rfl rfl) (rP rfl (aF (r := .tup _) rfl) (rP rfl (aJ rfl rfl) (rP rfl (aJ rfl rfl) (al 16 [z0,z0] tok ?_))))
 refine bst tok ?_
 refine pa (nx (aE ?_))
 obtain ⟨v11,h1,h0⟩ := bnd h0
 refine bC ⟨aB (aB (aB (aB (aB (aB ((fun _ => .dead)) 5 (.ptr 3 0 1 0 0)) 9 (.ptr 4 0 1 0 0)) 11 (.ptr 5 0 1 0 0)) 13 (.ptr 6 0 1 0 0)) 15 (.ptr 7 0 1 0 0)) 101 (dB v11),lks [.no, .no, .no, .live [⟨34,14, .av [[dS v2.Name,(dL bF v2.Works.Arbors), .own 8 0 (v2.Works.Meshes).length,(dI v2.Minute),(dI v2.Hour),(dI v2.Escape),(dI v2.Teeth),(dI v2.Beats),(dS v2.Calendar.Name),(dL aY v2.Calendar.Months),(dL aP v2.Calendar.Rules),(dI v2.Calendar.Week), .own 9 0 (v2.Cam).length,(dI v2.Strike)]]⟩], .live [⟨62,2, .av [[dI v5.1.Num,(dI v5.1.Den)]]⟩], .live [⟨62,2, .av [[dI v6.1.Num,(dI v6.1.Den)]]⟩], .live [⟨62,2, .av [[dI v7.1.Num,(dI v7.1.Den)]]⟩], .live [⟨62,2, .av [[dI v8.1.Num,(dI v8.1.Den)]]⟩], .live [⟨125,4, .data (List.map cQ v2.Works.Meshes)⟩], .live [⟨2,1, .data (List.map cI v2.Cam)⟩]]⟩ ?_ ?_
 refine sr [0,1,2,3,4,5,6,7,8,9,10,11,12,13,14,15,16,17,18,19,20,21,22,23,24] (rL rfl (aW tok rfl rfl rfl rfl) ?_)
 obtain ⟨v9,hv9,h1⟩ := bnd h1
 refine rS rfl (fU 17 (xH hv9) rfl rfl) (rL rfl (rC tok rfl rfl rfl rfl rfl) (rP rfl (eB rfl rfl) (pm ?_)))
 refine fI (u := 81) h1 rfl (fun hc h1 => ?_) (fun hc h1 => ?_)
 iterate 3 refine k1 ?_
 refine pkt ?_
 refine pm ?_
 refine k1 ?_
 refine k1 ?_
 refine pkt ?_
 refine pm ?_
 refine k1 ?_
 refine k1 ?_
 refine pkt ?_
 refine pm ?_
 refine k1 ?_
 refine k1 ?_
 refine pkt ?_
 refine pm ?_
 refine k1 ?_
 refine k1 ?_
 refine pkt (nx ?_)
 cases h1
 exact wk [0,1,2,5,13,14,15,16,3,4]
 refine rl rfl (w1 rfl rfl rfl) rfl (aW tok rfl rfl rfl rfl) ?_
 obtain ⟨v10,hv10,h1⟩ := bnd h1
 refine rs rfl (w1 rfl rfl rfl) rfl (fU 18 (zD hv10) rfl rfl) (rp rfl (w1 rfl rfl rfl) rfl (cE rfl) (pkf ?_))
 refine pm ?_
 refine dQ (u := 86) h1 rfl (fun hc h1 => ?_) (fun hc h1 => ?_)
 refine k1 ?_
 refine k1 ?_
 refine pkt ?_
 refine pm ?_
 refine k1 ?_
 refine k1 ?_
 refine pkt ?_
 refine pm ?_
 refine k1 ?_
 refine k1 ?_
 refine pkt ?_
 refine pm ?_
 refine k1 ?_
 refine k1 ?_
 refine pkt (nx ?_)
 cases h1
 exact wk [0,1,2,5,13,14,15,16,3,4]
 refine pm1 ?_
 refine rp rfl (w1 rfl rfl rfl) rfl (eB rfl rfl) (pkf ?_)
 refine pm ?_
 refine fI (u := 90) h1 rfl (fun hc h1 => ?_) (fun hc h1 => ?_)
 refine k1 ?_
 refine k1 ?_
 refine pkt ?_
 refine pm ?_
 refine k1 ?_
 refine k1 ?_
 refine pkt ?_
 refine pm ?_
 refine k1 ?_
 refine k1 ?_
 refine pkt (nx ?_)
 cases h1
 exact wk [0,1,2,5,13,14,15,16,3,4]
 refine pm1 ?_
 refine rp rfl (w1 rfl rfl rfl) rfl (eB rfl rfl) (pkf ?_)
 refine pm ?_
 refine fI (u := 94) h1 rfl (fun hc h1 => ?_) (fun hc h1 => ?_)
 refine k1 ?_
 refine k1 ?_
 refine pkt ?_
 refine pm ?_
 refine k1 ?_
 refine k1 ?_
 refine pkt (nx ?_)
 cases h1
 exact wk [0,1,2,5,13,14,15,16,3,4]
 refine pm1 ?_
 refine rp rfl (w1 rfl rfl rfl) rfl (eB rfl rfl) (pkf ?_)
 refine pm ?_
 refine fI (u := 98) h1 rfl (fun hc h1 => ?_) (fun hc h1 => ?_)
 refine k1 ?_
 refine k1 ?_
 refine pkt (nx ?_)
 cases h1
 exact wk [0,1,2,5,13,14,15,16,3,4]
 refine pm1 ?_
 refine rp rfl (w1 rfl rfl rfl) rfl (eB rfl rfl) (pkf (nx ?_))
 cases h1
 exact wk [0,1,2,5,13,14,15,16,3,4]
 refine bP h0 rfl (fun hc h0 => ?_) (fun hc h0 => ?_)
 refine sq [0] (pa (nx (aD (aT ?_))))
 cases h0
 exact r0t 4 rfl
 refine sk (sq [0,1,2,3,4,5,6,7,8] (rL rfl (aW tok rfl rfl rfl rfl) (rP rfl (pbl (C0 := [z0,z0]) tok rfl rfl rfl) ?_)))
 obtain ⟨v12,hv12,h0⟩ := bnd h0
 refine rS rfl (aM 10 (uU hv12) rfl rfl rfl) (rP rfl (aF (r := .tup _) rfl) (rP rfl (aJ rfl rfl) (rP rfl (aJ rfl rfl) (al 10 [z0,z0] tok ?_))))
 refine bst tok ?_
 refine pa (nx (sq [0,1,2,3,4,5,6,7,8] ?_))
 refine rL rfl (aW tok rfl rfl rfl rfl) (rL rfl (aW tok rfl rfl rfl rfl) ?_)
 obtain ⟨v13,hv13,h0⟩ := bnd h0
 refine rS rfl (aM 11 (aG5 hv13) rfl rfl rfl) (rP rfl (aF (r := .tup _) rfl) (rP rfl (aJ rfl rfl) (rP rfl (aJ rfl rfl) (al 11 [z0,z0] tok ?_))))
 refine bst tok ?_
 refine pa (nx (aE ?_))
 refine aK (is := [0,2,3,4,5,1,6,7,8,9,10,11,12]) [0,1,0,4,12,28,63,127,255,255,0,1535,4095] follows (by kernel_rfl) (dG rfl w0 rfl (aW tok rfl rfl rfl rfl) rfl rfl rfl (tfa tok ?_))
 refine tld tok ?_
 refine tP rfl (eG rfl rfl) (tP rfl (pbl (C0 := [z0,z0]) tok rfl rfl rfl) ?_)
 obtain ⟨v14,hv14,h0⟩ := bnd h0
 refine mS rfl w0 rfl (dF 13 (aDo hv14) rfl rfl rfl) ?_
 obtain ⟨v15,hv15,h0⟩ := bnd h0
 refine mS rfl w0 rfl (dF 13 (uU hv15) rfl rfl rfl) (tP rfl (aF (r := .tup _) rfl) (tP rfl (aJ rfl rfl) (tP rfl (aJ rfl rfl) (aAx rfl w0 rfl rfl (fun hx hk => nV 12 (cs := [z0,z0]) tok rfl rfl hk) (qH rfl w0 (kY (cs := _ :: _) tok rfl rfl rfl rfl rfl rfl rfl) (tpa ?_))))))
 refine bS ?_
 refine ⟨by kernel_rfl,?_⟩
 refine aH (aE (aK (is := [0,2,1,3,4,5,6,7,8,9]) [0,1,0,7,15,31,31,0,191,511] follows (by kernel_rfl) (dG rfl w0 rfl (aW tok rfl rfl rfl rfl) rfl rfl rfl (dG rfl w0 rfl (aW tok rfl rfl rfl rfl) rfl rfl rfl ?_))))
 obtain ⟨v16,hv16,h0⟩ := bnd h0
 refine mS rfl w0 rfl (dF 14 (aDo hv16) rfl rfl rfl) ?_
 obtain ⟨v17,hv17,h0⟩ := bnd h0
 refine mS rfl w0 rfl (dF 14 (uU hv17) rfl rfl rfl) (tP rfl (aF (r := .tup _) rfl) (tP rfl (aJ rfl rfl) (tP rfl (aJ rfl rfl) (aAx rfl w0 rfl rfl (fun hx hk => nV 13 (cs := [z0,z0]) tok rfl rfl hk) (qH rfl w0 (kY (cs := _ :: _) tok rfl rfl rfl rfl rfl rfl rfl) (tpa ?_))))))
 refine bS ?_
 refine ⟨by kernel_rfl,?_⟩
 refine aH (aE ?_)
 obtain ⟨v18,h1,h0⟩ := bnd h0
 refine bC ⟨aB (aB (aB (aB (aB ((fun _ => .dead)) 5 (.ptr 3 0 1 0 0)) 19 (.ptr 4 0 1 0 0)) 21 (.ptr 5 0 1 0 0)) 23 (.ptr 6 0 1 0 0)) 144 (dB v18),lks [.no, .no, .no, .live [⟨34,14, .av [[dS v2.Name,(dL bF v2.Works.Arbors), .own 7 0 (v2.Works.Meshes).length,(dI v2.Minute),(dI v2.Hour),(dI v2.Escape),(dI v2.Teeth),(dI v2.Beats),(dS v2.Calendar.Name),(dL aY v2.Calendar.Months),(dL aP v2.Calendar.Rules),(dI v2.Calendar.Week), .own 8 0 (v2.Cam).length,(dI v2.Strike)]]⟩], .live [⟨62,2, .av [[dI v13.1.Num,(dI v13.1.Den)]]⟩], .live [⟨62,2, .av [[dI v15.1.Num,(dI v15.1.Den)]]⟩], .live [⟨62,2, .av [[dI v17.1.Num,(dI v17.1.Den)]]⟩], .live [⟨125,4, .data (List.map cQ v2.Works.Meshes)⟩], .live [⟨2,1, .data (List.map cI v2.Cam)⟩]]⟩ ?_ ?_
 refine sr [0,1,2,3,4,5,6,7,8,9,10,11,12,13] (pm ?_)
 refine rP rfl (eB rfl rfl) (pm ?_)
 refine fI (u := 133) h1 rfl (fun hc h1 => ?_) (fun hc h1 => ?_)
 refine k1 ?_
 refine k1 ?_
 refine pkt ?_
 refine pm ?_
 refine k1 ?_
 refine k1 ?_
 refine pkt ?_
 refine pm ?_
 refine k1 ?_
 refine k1 ?_
 refine pkt (nx ?_)
 cases h1
 exact wk [0,1,2,3,11,12,13,8,9]
 refine pm1 ?_
 refine rp rfl (w1 rfl rfl rfl) rfl (eB rfl rfl) (pkf ?_)
 refine pm ?_
 refine fI (u := 137) h1 rfl (fun hc h1 => ?_) (fun hc h1 => ?_)
 refine k1 ?_
 refine k1 ?_
 refine pkt ?_
 refine pm ?_
 refine k1 ?_
 refine k1 ?_
 refine pkt (nx ?_)
 cases h1
 exact wk [0,1,2,3,11,12,13,8,9]
 refine pm1 ?_
 refine rp rfl (w1 rfl rfl rfl) rfl (eB rfl rfl) (pkf ?_)
 refine pm ?_
 refine fI (u := 141) h1 rfl (fun hc h1 => ?_) (fun hc h1 => ?_)
 refine k1 ?_
 refine k1 ?_
 refine pkt (nx ?_)
 cases h1
 exact wk [0,1,2,3,11,12,13,8,9]
 refine pm1 ?_
 refine rp rfl (w1 rfl rfl rfl) rfl (eB rfl rfl) (pkf (nx ?_))
 cases h1
 exact wk [0,1,2,3,11,12,13,8,9]
 refine bP h0 rfl (fun hc h0 => ?_) (fun hc h0 => ?_)
 refine sq [0] (pa (nx (aD (aT ?_))))
 cases h0
 exact r0t 4 rfl
 refine sk (sq [0,1,2,3,4,5,6,7,8,9,10,11,12,13,14,15] (fa tok ?_))
 refine ld tok ?_
 refine rP rfl (iT rfl rfl) (pm ?_)
 refine fI (u := 148) h0 rfl (fun hc h0 => ?_) (fun hc h0 => ?_)
 refine rl rfl (w1 rfl rfl rfl) rfl (aW tok rfl rfl rfl rfl) (fa1 tok ?_)
 refine ld1 tok ?_
 refine rp rfl (w1 rfl rfl rfl) rfl (pbl (C0 := [z0,z0]) tok rfl rfl rfl) (rp rfl (w1 rfl rfl rfl) rfl (xT (a := v15.1) (b := (⟨v2.Beats,1⟩ : aA)) rfl rfl) (pkt ?_))
 refine pm ?_
 refine fI (u := 155) h0 rfl (fun hc h0 => ?_) (fun hc h0 => ?_)
 refine rl rfl (w1 rfl rfl rfl) rfl (aW tok rfl rfl rfl rfl) (rp rfl (w1 rfl rfl rfl) rfl (pbl (C0 := [z0,z0]) tok rfl rfl rfl) (rp rfl (w1 rfl rfl rfl) rfl (xT (a := v17.1) (b := (⟨1,1⟩ : aA)) rfl rfl) (pkt ?_)))
 refine pa (nx (aD ?_))
 cases h0
 exact r0t 4 rfl
 iterate 3 refine k1 ?_
 refine pkf ?_
 refine pa (nx (aD ?_))
 cases h0
 exact r0t 4 rfl
 iterate 5 refine k1 ?_
 refine pkf ?_
 refine pm ?_
 iterate 3 refine k1 ?_
 refine pkf ?_
 refine pa (nx (aD ?_))
 cases h0
 exact r0t 4 rfl
end Go.Proofs.YtgcdbbidmfdonaaGreat
namespace Go.Proofs.YtgcdbbidmfdonaaGreat
set_option linter.unusedVariables false
theorem aOq (x : Int) : IntKind.u64.wrap x = x % 18446744073709551616 := by
 unfold IntKind.wrap
 simp [IntKind.signed,IntKind.bits]
theorem aHt {x : Int} (h0 : 0 ≤ x) (h1 : x < 18446744073709551616) : IntKind.u64.wrap x = x := by rw [aOq]; omega
theorem aOr {x : Int} (h0 : -18446744073709551616 < x) (h1 : x < 0) : IntKind.u64.wrap (-(IntKind.u64.wrap x)) = -x := by rw [aOq,aOq]; omega
def dD (x : Int) : Int := (x.natAbs : Int)
theorem pZ (x : Int) : 0 ≤ dD x := by unfold dD; omega
theorem zT {x : Int} (h : osI x) : oL x = some (dD x) := by
 obtain ⟨h0,h1⟩ := h
 unfold oL dD
 split
 ·rw [aOr (by omega) (by omega)]; congr 1; omega
 ·rw [aHt (by omega) (by omega)]; congr 1; omega
theorem wA {x : Int} (h : osI x) : kN x = some (dD x) := by
 obtain ⟨h0,h1⟩ := h
 unfold kN dD
 split
 ·rw [aOr (by omega) (by omega)]; congr 1; omega
 ·rw [aHt (by omega) (by omega)]; congr 1; omega
theorem aJx {a b : Int} : Int.gcd b (a.tmod b) = Int.gcd a b := by
 unfold Int.gcd
 rw [Int.natAbs_tmod,Nat.gcd_comm a.natAbs b.natAbs,Nat.gcd_comm, ← Nat.gcd_rec]
theorem aPu {step : Int × Int → Option ((Int × Int) ⊕ Int)} (hS : ∀ a b,b ≠ 0 → step (a,b) = some (.inl (b,a.tmod b))) (hE : ∀ a,step (a,0) = some (.inr a)) (a b : Int) (hb : b.natAbs ≤ 9223372036854775808) :
  ∃ g,cK step (a,b) = some g ∧ g.natAbs = Int.gcd a b ∧ (g = a ∨ g.natAbs ≤ b.natAbs) := by
 refine xQ (fun (s : Int × Int) => Int.gcd s.1 s.2 = Int.gcd a b ∧ s.2.natAbs ≤ b.natAbs ∧ (s.1 = a ∨ s.1.natAbs ≤ b.natAbs)) (fun (s : Int × Int) => s.2.natAbs) (fun g => g.natAbs = Int.gcd a b ∧ (g = a ∨ g.natAbs ≤ b.natAbs)) (fun s hI => ?_) (a,b) ⟨rfl,Nat.le_refl _, .inl rfl⟩ (by dsimp only; omega)
 obtain ⟨x,y⟩ := s
 obtain ⟨h1,h2,h3⟩ := hI
 dsimp only at h1 h2 h3 ⊢
 by_cases hy : y = 0
 ·right
  subst hy
  exact ⟨x,hE x,by rw [← h1]; simp,h3⟩
 ·left
  have hlt : (x.tmod y).natAbs < y.natAbs := by rw [Int.natAbs_tmod]; exact Nat.mod_lt _ (by omega)
  exact ⟨_,hS x y hy,⟨by rw [aJx]; exact h1,by dsimp only; omega, .inr h2⟩,hlt⟩
theorem aBj {step : Int × Int → Option ((Int × Int) ⊕ Int)} (hS : ∀ a b,0 ≤ a → 0 < b → step (a,b) = some (.inl (b,a.tmod b))) (hE : ∀ a,step (a,0) = some (.inr a)) {a b : Int} (ha : 0 ≤ a) (hb0 : 0 ≤ b) (hb : b ≤ 18446744073709551616) :
  cK step (a,b) = some (Int.gcd a b : Int) := by
 obtain ⟨g,h,h1,h2⟩ := xQ (step := step) (fun (s : Int × Int) => Int.gcd s.1 s.2 = Int.gcd a b ∧ 0 ≤ s.1 ∧ 0 ≤ s.2) (fun (s : Int × Int) => s.2.natAbs) (fun g => g.natAbs = Int.gcd a b ∧ 0 ≤ g) (fun s hI => by
  obtain ⟨x,y⟩ := s
  obtain ⟨h1,h2,h3⟩ := hI
  dsimp only at h1 h2 h3 ⊢
  by_cases hy : y = 0
  ·right
   subst hy
   exact ⟨x,hE x,by rw [← h1]; simp,h2⟩
  ·left
   have hlt : (x.tmod y).natAbs < y.natAbs := by rw [Int.natAbs_tmod]; exact Nat.mod_lt _ (by omega)
   exact ⟨_,hS x y h2 (by omega),⟨by rw [aJx]; exact h1,h3,Int.tmod_nonneg _ h2⟩,hlt⟩) (a,b) ⟨rfl,ha,hb0⟩ (by dsimp only; omega)
 rw [h]; congr 1; omega
theorem nD {n d : Int} (h : d ≠ 0) : 0 < Int.gcd n d := Int.gcd_pos_of_ne_zero_right n h
theorem aL4 (n d : Int) : Int.gcd (dD n) (dD d) = Int.gcd n d := by unfold dD Int.gcd; simp
theorem sO {a g : Int} (ha : 0 ≤ a) (hg : 0 < g) : 0 ≤ a / g ∧ a / g ≤ a := ⟨Int.ediv_nonneg ha (by omega),Int.ediv_le_self _ ha⟩
def mkR (n d : Int) : aA × Bool :=
 if 1000000000 < dD n / (Int.gcd n d : Int) ∨ 1000000000 < dD d / (Int.gcd n d : Int) then (⟨0,0⟩,false)
 else (⟨if (decide (n < 0) != decide (d < 0)) = true then -(dD n / (Int.gcd n d : Int)) else dD n / (Int.gcd n d : Int),dD d / (Int.gcd n d : Int)⟩,true)
theorem aGu {n d : Int} (hn : osI n) (hd : osI d) (h : d ≠ 0) {f : Int → Option (aA × Bool)} (hf : ∀ g,f g = (chk (g ≠ 0) (chk (g ≠ 0) ((((if 1000000000 < (IntKind.u64.wrap ((dD n).tdiv g)) then some true else some (decide (1000000000 < (IntKind.u64.wrap ((dD d).tdiv g))))) : Option Bool).bind fun v10 => (if v10 = true then some ((⟨0,0⟩ : aA),false) else (((if ((decide (n < 0)) != (decide (d < 0))) = true then some (⟨w64 (-(w64 (IntKind.u64.wrap ((dD n).tdiv g)))),w64 (IntKind.u64.wrap ((dD d).tdiv g))⟩ : aA) else some (⟨w64 (IntKind.u64.wrap ((dD n).tdiv g)),w64 (IntKind.u64.wrap ((dD d).tdiv g))⟩ : aA)) : Option aA).bind fun v11 => some (v11,true)))))))) :
  f (Int.gcd n d : Int) = some (mkR n d) := by
 have hg := nD (n := n) h
 have a0 := pZ n
 have b0 := pZ d
 have a1 : dD n ≤ 9223372036854775808 := by unfold dD; obtain ⟨_,_⟩ := hn; omega
 have b1 : dD d ≤ 9223372036854775808 := by unfold dD; obtain ⟨_,_⟩ := hd; omega
 have qa := sO (a := dD n) (g := (Int.gcd n d : Int)) a0 (by omega)
 have qb := sO (a := dD d) (g := (Int.gcd n d : Int)) b0 (by omega)
 rw [hf,iN (by omega),iN (by omega),Int.tdiv_eq_ediv_of_nonneg a0,Int.tdiv_eq_ediv_of_nonneg b0]
 unfold mkR
 generalize dD n / (Int.gcd n d : Int) = a at *
 generalize dD d / (Int.gcd n d : Int) = b at *
 rw [aHt qa.1 (by omega),aHt qb.1 (by omega)]
 by_cases c1 : 1000000000 < a
 ·simp [c1]
 ·by_cases c2 : 1000000000 < b
  ·simp [c1,c2]
  ·rw [aS (x := a) (by omega) (by omega),aS (x := b) (by omega) (by omega),aS (x := -a) (by omega) (by omega)]
   simp only [if_neg c1,decide_eq_false c2,Option.bind_some,Bool.false_eq_true,if_false,c1,c2,or_self]
   cases (decide (n < 0) != decide (d < 0)) <;> simp
theorem kI {n d : Int} (hn : osI n) (hd : osI d) (h : d ≠ 0) : eV n d = some (mkR n d) := by
 unfold eV
 have b1 : dD d ≤ 9223372036854775808 := by unfold dD; obtain ⟨_,_⟩ := hd; omega
 rw [zT hn,Option.bind_some,zT hd,Option.bind_some,aBj (fun a b h0 h1 => by simp only; rw [if_pos h1,iN (by omega)]) (fun a => by simp) (pZ n) (pZ d) (by omega),aL4,Option.bind_some]
 exact aGu hn hd h fun g => rfl
theorem aGp {n d : Int} (hn : osI n) (hd : osI d) (h : d ≠ 0) : qW n d = some (mkR n d) := by
 unfold qW
 have b1 : dD d ≤ 9223372036854775808 := by unfold dD; obtain ⟨_,_⟩ := hd; omega
 rw [wA hn,Option.bind_some,wA hd,Option.bind_some,aBj (fun a b h0 h1 => by simp only; rw [if_pos (by omega),iN (by omega)]) (fun a => by simp) (pZ n) (pZ d) (by omega),aL4,Option.bind_some]
 exact aGu hn hd h fun g => rfl
def qE (x : aA × Bool) : aA × Int := if x.2 = true then (x.1,0) else (⟨0,0⟩,2)
def vW (n d : Int) : aA × Int := if d = 0 then (⟨0,0⟩,6) else qE (mkR n d)
theorem fZ {n d : Int} (hn : osI n) (hd : osI d) : dX n d = some (vW n d) := by
 unfold dX vW qE
 by_cases h : d = 0
 ·rw [if_pos h,if_pos h]
 ·rw [if_neg h,if_neg h,aGp hn hd h,Option.bind_some]
  cases (mkR n d).2 <;> simp
theorem zS (r : aA) (b : Bool) : oI r b = some (qE (r,b)) := by
 unfold oI qE
 cases b <;> simp
theorem aAs {a b : Int} (ha : osI a) (ha' : -9223372036854775808 < a) (hb : osI b) (hb' : -9223372036854775808 < b) : tJ a b = some (Int.gcd a b : Int) := by
 unfold tJ
 obtain ⟨a0,a1⟩ := ha
 obtain ⟨b0,b1⟩ := hb
 obtain ⟨g,h,h1,h2⟩ := aPu (step := fun s3 => (if s3.2 ≠ 0 then (chk (s3.2 ≠ 0) (some (.inl (s3.2,s3.1.tmod s3.2)))) else some (.inr s3.1))) (fun a b h => by simp only; rw [if_pos h,iN h]) (fun a => by simp) a b (by omega)
 rw [h,Option.bind_some]
 split
 ·rw [aS (by omega) (by omega)]; congr 1; omega
 ·congr 1; omega
theorem tU {a b : Int} (ha : 0 ≤ a) (hb : 0 ≤ b) (hb1 : b ≤ 18446744073709551616) : oJ a b = some (Int.gcd a b : Int) := by
 unfold oJ
 rw [aBj (fun a b h0 h1 => by simp only; rw [if_pos (by omega),iN (by omega)]) (fun a => by simp) ha hb hb1]; rfl
theorem mW {a : Int} (h : -9223372036854775808 < a) (h1 : a ≤ 9223372036854775807) : jH a = some (dD a) := by
 unfold jH dD
 split
 ·rw [aS (by omega) (by omega)]; congr 1; omega
 ·congr 1; omega
theorem xJ {a : Int} (h : -9223372036854775808 < a) (h1 : a ≤ 9223372036854775807) : tG a = some (dD a) := by
 unfold tG dD
 split
 ·rw [aS (by omega) (by omega)]; congr 1; omega
 ·congr 1; omega
def qG (r : aA) : Bool := btw r.Den 1 1000000000 && (btw r.Num (-1000000000) 1000000000 && decide (Int.gcd r.Num r.Den = 1))
theorem jW {r : aA} : qG r = true ↔ (1 ≤ r.Den ∧ r.Den ≤ 1000000000) ∧ (-1000000000 ≤ r.Num ∧ r.Num ≤ 1000000000) ∧ Int.gcd r.Num r.Den = 1 := by
 unfold qG btw
 simp only [Bool.and_eq_true,decide_eq_true_eq]
theorem fM (r : aA) : dV r = some (qG r) := by
 unfold dV qG
 simp only [fV,Option.bind_some]
 by_cases h1 : btw r.Den 1 1000000000 = true
 ·by_cases h2 : btw r.Num (-1000000000) 1000000000 = true
  ·have g1 := of_decide_eq_true h1
   have g2 := of_decide_eq_true h2
   rw [if_pos h1,if_pos h2,aAs ⟨by omega,by omega⟩ (by omega) ⟨by omega,by omega⟩ (by omega),h1,h2]
   simp only [Option.bind_some,Bool.true_and]
   congr 1
   rw [decide_eq_decide]
   omega
  ·simp [h1,h2]
 ·simp [h1]
theorem mV (r : aA) : lM r = some (qG r) := by
 unfold lM qG
 simp only [eJ,Option.bind_some]
 by_cases h1 : btw r.Den 1 1000000000 = true
 ·by_cases h2 : btw r.Num (-1000000000) 1000000000 = true
  ·have g1 := of_decide_eq_true h1
   have g2 := of_decide_eq_true h2
   have e : Int.gcd (dD r.Num) r.Den = Int.gcd r.Num r.Den := by unfold dD Int.gcd; simp
   rw [if_pos h1,if_pos h2,mW (by omega) (by omega),Option.bind_some,tU (pZ _) (by omega) (by omega),h1,h2,e]
   simp only [Option.bind_some,Bool.true_and]
   congr 1
   rw [decide_eq_decide]
   omega
  ·simp [h1,h2]
 ·simp [h1]
end Go.Proofs.YtgcdbbidmfdonaaGreat
namespace Go.Proofs.YtgcdbbidmfdonaaGreat
set_option linter.unusedVariables false
def aNb (m : cA) : Bool := kH m.Name && (btw m.Days 1 60 && btw m.Leap 1 60)
def nY (r : bD) : Bool := btw r.Every 1 1000 && btw r.Rest 0 (r.Every - 1)
def aDg (y : Int) (r : bD) : Int := if y ≤ 2000 then y / (Int.gcd y r.Every : Int) * r.Every else y
def cyc (rs : List bD) : Int := rs.foldl aDg 1
def aAg (xs : List cA) : Bool := aHz xs fun i m => aNb m && !((xs.take i).any fun n => decide (n.Name = m.Name))
def sB (c : aI) : Bool := kH c.Name && (decide (1 ≤ c.Months.length ∧ c.Months.length ≤ 20) && (decide (c.Rules.length ≤ 6) && (btw c.Week 1 12 && (aAg c.Months && (c.Rules.all nY && decide (cyc c.Rules ≤ 2000))))))
theorem rG {r : bD} : nY r = true ↔ (1 ≤ r.Every ∧ r.Every ≤ 1000) ∧ 0 ≤ r.Rest ∧ r.Rest ≤ r.Every - 1 := by
 unfold nY btw
 simp only [Bool.and_eq_true,decide_eq_true_eq]
theorem vG {y e : Int} (y0 : 1 ≤ y) (y1 : y ≤ 2000) (e0 : 1 ≤ e) (e1 : e ≤ 1000) : 1 ≤ y / (Int.gcd y e : Int) ∧ y / (Int.gcd y e : Int) ≤ 2000 ∧ 1 ≤ y / (Int.gcd y e : Int) * e ∧ y / (Int.gcd y e : Int) * e ≤ 2000000 := by
 have hg := nD (n := y) (d := e) (by omega)
 have hd : (Int.gcd y e : Int) ∣ y := Int.gcd_dvd_left ..
 have h1 : 1 ≤ y / (Int.gcd y e : Int) := by
  have h2 : (Int.gcd y e : Int) ≤ y := Int.le_of_dvd (by omega) hd
  exact (Int.le_ediv_iff_mul_le (by omega)).2 (by omega)
 have h2 : y / (Int.gcd y e : Int) ≤ y := Int.ediv_le_self _ (by omega)
 refine ⟨h1,by omega,?_,?_⟩
 ·have := Int.mul_le_mul h1 e0 (by omega) (by omega); omega
 ·have := Int.mul_le_mul (show y / (Int.gcd y e : Int) ≤ 2000 by omega) e1 (by omega) (by omega); omega
theorem aRs {y : Int} {r : bD} (y0 : 1 ≤ y) (y1 : y ≤ 2000000) (h : nY r = true) : 1 ≤ aDg y r ∧ aDg y r ≤ 2000000 := by
 unfold aDg
 have hr := rG.1 h
 split
 ·have := vG y0 (by omega) hr.1.1 hr.1.2; omega
 ·omega
theorem aJt {rs : List bD} {y : Int} (h : 2000 < y) : rs.foldl aDg y = y := by
 induction rs generalizing y with
 | nil => rfl
 | cons r rs ih =>
  rw [List.foldl_cons]
  have e : aDg y r = y := by unfold aDg; rw [if_neg (by omega)]
  rw [e]; exact ih h
theorem qV {rs : List bD} (hl : rs.length ≤ 9223372036854775807) (h : rs.all nY = true) : iE rs = some (cyc rs) := by
 unfold iE
 have hr : ∀ (i : Nat) (hi : i < rs.length),nY rs[i] = true := fun i hi => (List.all_eq_true.1 h) _ (List.getElem_mem hi)
 have := aBy (xs := rs) (step := fun s6 => (if s6.2 < (rs.length : Int) then ((((atI rs s6.2).bind fun v7 => (if s6.1 ≤ 2000 then ((tJ s6.1 v7.Every).bind fun v8 => (chk (v8 ≠ 0) (some (w64 ((w64 (s6.1.tdiv v8)) * v7.Every))))) else some s6.1)) : Option Int).bind fun v10 => some (.inl (v10,w64 (s6.2 + 1)))) else some (.inr s6.1)))
  (fun i (y : Int) => (y,i)) (fun _ r y => some (.inl (aDg y r))) id (fun y => 1 ≤ y ∧ y ≤ 2000000) hl (fun i hi y hy => by
   have hi' : (i : Int) < rs.length := by omega
   have e1 : w64 ((i : Int) + 1) = i + 1 := aS (by omega) (by omega)
   have hq := rG.1 (hr i hi)
   simp only [if_pos hi',dP hi,Option.bind_some,e1]
   unfold aDg
   by_cases c : y ≤ 2000
   ·have hc := vG hy.1 c hq.1.1 hq.1.2
    have hg := nD (n := y) (d := rs[i].Every) (by omega)
    rw [if_pos c,if_pos c,aAs ⟨by omega,by omega⟩ (by omega) ⟨by omega,by omega⟩ (by omega),Option.bind_some,iN (by omega),Int.tdiv_eq_ediv_of_nonneg (by omega),aS (x := y / _) (by omega) (by omega),aS (by omega) (by omega)]
    rfl
   ·rw [if_neg c,if_neg c]; rfl) (fun i hi y y' hy e => by
   injection e with e; injection e with e; subst e
   exact aRs hy.1 hy.2 (hr i hi)) (fun y _ => by simp) 1 (by omega)
 rw [this,aBi aDg (fun _ _ _ => rfl)]
 rfl
theorem aI7 {X : Type} {e : X} {rs : List bD} : ∀ (k : Nat) (y : Int),1 ≤ y → y ≤ 2000 → aLz (X := X) (fun _ r y => if nY r = true then (if 2000 < y / (Int.gcd y r.Every : Int) * r.Every then some (.inr e) else some (.inl (y / (Int.gcd y r.Every : Int) * r.Every))) else some (.inr e)) rs k y = some (if rs.all nY = true ∧ rs.foldl aDg y ≤ 2000 then .inl (rs.foldl aDg y) else .inr e) := by
 induction rs with
 | nil => intro k y h0 h1; simp [aLz,h1]
 | cons r rs ih =>
  intro k y h0 h1
  show Option.bind (if nY r = true then _ else _) _ = _
  cases hr : nY r
  ·simp [hr]
  ·have hq := rG.1 hr
   have hc := vG h0 h1 hq.1.1 hq.1.2
   have e : aDg y r = y / (Int.gcd y r.Every : Int) * r.Every := by unfold aDg; rw [if_pos h1]
   rw [if_pos rfl,List.foldl_cons,List.all_cons,hr,e,Bool.true_and]
   by_cases c : 2000 < y / (Int.gcd y r.Every : Int) * r.Every
   ·rw [if_pos c,Option.bind_some,aJt c,if_neg (by omega)]
   ·rw [if_neg c,Option.bind_some]
    exact ih (k + 1) _ hc.2.2.1 (by omega)
theorem tY {rs : List bD} (hl : rs.length ≤ 9223372036854775807) : mY rs = some (if rs.all nY = true ∧ cyc rs ≤ 2000 then (cyc rs,decide (rs.length ≤ 6)) else (0,false)) := by
 unfold mY
 rw [aBy (xs := rs) (fun i (y : Int) => (y,i)) (fun _ r y => if nY r = true then (if 2000 < y / (Int.gcd y r.Every : Int) * r.Every then some (.inr (.inr (0,false))) else some (.inl (y / (Int.gcd y r.Every : Int) * r.Every))) else some (.inr (.inr (0,false)))) (fun y => .inl y) (fun y => 1 ≤ y ∧ y ≤ 2000) hl (fun i hi y hy => ?_) (fun i hi y y' hy e => ?_) (fun y _ => by simp) 1 (by omega)]
 ·have e : aLz (X := Int ⊕ (Int × Bool)) (fun _ r y => if nY r = true then (if 2000 < y / (Int.gcd y r.Every : Int) * r.Every then some (.inr (.inr (0,false))) else some (.inl (y / (Int.gcd y r.Every : Int) * r.Every))) else some (.inr (.inr (0,false)))) rs 0 1 = some (if rs.all nY = true ∧ cyc rs ≤ 2000 then .inl (cyc rs) else .inr (.inr (0,false))) := aI7 0 1 (by omega) (by omega)
  rw [e]
  by_cases c : rs.all nY = true ∧ cyc rs ≤ 2000
  ·simp only [if_pos c]
   simp [orE]
   omega
  ·simp only [if_neg c]; rfl
 ·have hi' : (i : Int) < rs.length := by omega
  have e1 : w64 ((i : Int) + 1) = i + 1 := aS (by omega) (by omega)
  simp only [if_pos hi',dP hi,Option.bind_some,e1,eJ]
  have e2 : nY rs[i] = (btw rs[i].Every 1 1000 && btw rs[i].Rest 0 (rs[i].Every - 1)) := rfl
  rw [e2]
  by_cases c1 : btw rs[i].Every 1 1000 = true
  ·have q := of_decide_eq_true c1
   rw [c1,aS (x := rs[i].Every - 1) (by omega) (by omega)]
   cases btw rs[i].Rest 0 (rs[i].Every - 1)
   ·rfl
   ·have hc := vG hy.1 hy.2 q.1 q.2
    have hg := nD (n := y) (d := rs[i].Every) (by omega)
    simp only [Bool.not_true,Bool.false_eq_true,if_false,Option.bind_some,Bool.and_self,if_true]
    rw [tU (by omega) (by omega) (by omega),Option.bind_some,iN (by omega),Int.tdiv_eq_ediv_of_nonneg (by omega),aS (x := y / _) (by omega) (by omega),aS (by omega) (by omega)]
    by_cases c : 2000 < y / (Int.gcd y rs[i].Every : Int) * rs[i].Every
    ·rw [if_pos c,if_pos c]; rfl
    ·rw [if_neg c,if_neg c]; rfl
  ·rw [Bool.not_eq_true] at c1
   rw [c1]; rfl
 ·split at e
  ·rename_i hr
   have hq := rG.1 hr
   have hc := vG hy.1 hy.2 hq.1.1 hq.1.2
   split at e
   ·cases e
   ·injection e with e; injection e with e; omega
  ·cases e
theorem aBr {xs : List cA} {m : cA} (hl : xs.length ≤ 9223372036854775807) : bO xs m = some (xs.any fun n => decide (n.Name = m.Name)) := by
 unfold bO cJ
 rw [aPp (fun n => decide (n.Name = m.Name)) hl fun i hi => by rw [dP hi,Option.bind_some,jC,Option.bind_some],Option.bind_some,aE6]
theorem nF {c : aI} (hm : c.Months.length ≤ 9223372036854775807) (hr : c.Rules.length ≤ 9223372036854775807) : fE c = some (sB c) := by
 unfold fE sB
 simp only [tE,fV,Option.bind_some,itO]
 simp only [aWl (p := (_ : Int) < _),itO,Option.bind_some]
 by_cases h : kH c.Name = true ∧ (1 ≤ c.Months.length ∧ c.Months.length ≤ 20) ∧ c.Rules.length ≤ 6 ∧ btw c.Week 1 12 = true
 ·obtain ⟨h1,h2,h3,h4⟩ := h
  rw [h1,h4,decide_eq_false (show ¬ (c.Months.length : Int) < 1 by omega),decide_eq_false (show ¬ 20 < (c.Months.length : Int) by omega),decide_eq_false (show ¬ 6 < (c.Rules.length : Int) by omega),decide_eq_true h2,decide_eq_true h3,if_neg (by decide),
   wQ (e := .inr false) (fun i m => aNb m && !((c.Months.take i).any fun n => decide (n.Name = m.Name))) hm fun i hi => ?_,Option.bind_some,
   wQ (e := .inr false) (fun _ r => nY r) hr fun i hi => ?_,Option.bind_some,qD]
  ·by_cases h5 : c.Rules.all nY = true
   ·rw [qV hr h5,Option.bind_some,h5]
    unfold aAg
    cases aHz c.Months (fun i m => aNb m && !((c.Months.take i).any fun n => decide (n.Name = m.Name))) <;> rfl
   ·rw [Bool.not_eq_true] at h5
    rw [h5]
    unfold aAg
    cases aHz c.Months (fun i m => aNb m && !((c.Months.take i).any fun n => decide (n.Name = m.Name))) <;> rfl
  ·rw [dP hi]
   simp only [Option.bind_some]
   by_cases q : btw c.Rules[i].Every 1 1000 = true
   ·have := of_decide_eq_true q
    unfold nY
    rw [q,aS (by omega) (by omega)]
    cases btw c.Rules[i].Rest 0 (c.Rules[i].Every - 1) <;> rfl
   ·rw [Bool.not_eq_true] at q
    unfold nY
    rw [q]; rfl
  ·rw [dP hi]
   simp only [Option.bind_some]
   rw [iN (aJd (by omega)),aOl,aBr (by rw [List.length_take]; omega),Option.bind_some]
   unfold aNb
   cases kH c.Months[i].Name <;> cases btw c.Months[i].Days 1 60 <;> cases btw c.Months[i].Leap 1 60 <;> cases ((c.Months.take i).any fun n => decide (n.Name = c.Months[i].Name)) <;> rfl
 ·have e : (!kH c.Name || (decide ((c.Months.length : Int) < 1) || (decide (20 < (c.Months.length : Int)) || (decide (6 < (c.Rules.length : Int)) || !btw c.Week 1 12)))) = true := by
   simp only [Bool.or_eq_true,Bool.not_eq_true',decide_eq_true_eq]
   by_cases h1 : kH c.Name = true
   ·by_cases h2 : 1 ≤ c.Months.length ∧ c.Months.length ≤ 20
    ·by_cases h3 : c.Rules.length ≤ 6
     ·have h4 : ¬ btw c.Week 1 12 = true := fun h4 => h ⟨h1,h2,h3,h4⟩
      simp [h4]
     ·omega
    ·omega
   ·simp [h1]
  rw [e,if_pos rfl]
  congr 1
  symm
  rw [← Bool.not_eq_true]
  simp only [Bool.and_eq_true,decide_eq_true_eq]
  rintro ⟨h1,h2,h3,h4,_⟩
  exact h ⟨h1,h2,h3,h4⟩
theorem aC7 {xs : List cA} (hl : xs.length ≤ 9223372036854775807) : nR xs = some (aAg xs && decide (1 ≤ xs.length ∧ xs.length ≤ 20)) := by
 unfold nR
 rw [wQ (e := .inr false) (fun i m => aNb m && !((xs.take i).any fun n => decide (n.Name = m.Name))) hl fun i hi => ?_,Option.bind_some]
 ·have e : btw (xs.length : Int) 1 20 = decide (1 ≤ xs.length ∧ xs.length ≤ 20) := by unfold btw; rw [decide_eq_decide]; omega
  rw [eJ,e]
  unfold aAg
  cases aHz xs (fun i m => aNb m && !((xs.take i).any fun n => decide (n.Name = m.Name))) <;> rfl
 ·simp only [dP hi,oF,eJ,Option.bind_some,itO]
  rw [aTz (xs := xs) i (fun _ (b : cA) => !decide (b.Name = xs[i].Name)) (by omega) (by omega) fun j hj _ => by
   rw [dP hj,Option.bind_some]
   by_cases q : xs[j].Name = xs[i].Name
   ·rw [if_pos q,decide_eq_true q]; rfl
   ·rw [if_neg q,decide_eq_false q]; rfl,qD]
  have e : ((xs.take i).all fun b => !decide (b.Name = xs[i].Name)) = !((xs.take i).any fun b => decide (b.Name = xs[i].Name)) := by rw [Bool.eq_iff_iff]; simp
  rw [e]
  unfold aNb
  cases kH xs[i].Name <;> cases btw xs[i].Days 1 60 <;> cases btw xs[i].Leap 1 60 <;> cases ((xs.take i).any fun n => decide (n.Name = xs[i].Name)) <;> rfl
theorem qO {c : aI} (hm : c.Months.length ≤ 9223372036854775807) (hr : c.Rules.length ≤ 9223372036854775807) : pW c = some (sB c) := by
 unfold pW sB
 rw [tY hr,Option.bind_some]
 simp only [oF,aC7 hm,eJ,Option.bind_some,itA]
 by_cases h : c.Rules.all nY = true ∧ cyc c.Rules ≤ 2000
 ·rw [if_pos h,h.1,decide_eq_true h.2]
  cases kH c.Name <;> cases aAg c.Months <;> cases btw c.Week 1 12 <;> cases decide (1 ≤ c.Months.length ∧ c.Months.length ≤ 20) <;> cases decide (c.Rules.length ≤ 6) <;> rfl
 ·rw [if_neg h]
  have e : (c.Rules.all nY && decide (cyc c.Rules ≤ 2000)) = false := by
   rw [← Bool.not_eq_true,Bool.and_eq_true,decide_eq_true_eq]; exact h
  rw [e]
  cases kH c.Name <;> cases aAg c.Months <;> cases btw c.Week 1 12 <;> cases decide (1 ≤ c.Months.length ∧ c.Months.length ≤ 20) <;> cases decide (c.Rules.length ≤ 6) <;> rfl
def aJn (xs : List Int) : Bool := xs.all (fun n => btw n 1 60) && decide (1 ≤ xs.length ∧ xs.length ≤ 260)
theorem aEq {xs : List Int} (hl : xs.length ≤ 9223372036854775807) : pF xs = some (aJn xs) := by
 unfold pF aJn
 rw [wQ (fun _ v => btw v 1 60) hl fun i hi => by rw [dP hi,Option.bind_some,fV,Option.bind_some]; cases btw xs[i] 1 60 <;> rfl,qD,Option.bind_some,aWk]
 have e : (decide (1 ≤ (xs.length : Int)) && decide ((xs.length : Int) ≤ 260)) = decide (1 ≤ xs.length ∧ xs.length ≤ 260) := by rw [← Bool.decide_and,decide_eq_decide]; omega
 rw [e]
 exact aKo rfl
theorem aLs {xs : List Int} (hl : xs.length ≤ 9223372036854775807) : vC xs = some (aJn xs) := by
 unfold vC aJn
 rw [wQ (fun _ v => btw v 1 60) hl fun i hi => by rw [dP hi,Option.bind_some,eJ,Option.bind_some]; cases btw xs[i] 1 60 <;> rfl,qD,Option.bind_some,eJ,Option.bind_some]
 have e : btw (xs.length : Int) 1 260 = decide (1 ≤ xs.length ∧ xs.length ≤ 260) := by unfold btw; rw [decide_eq_decide]; omega
 rw [e]
 exact aKo rfl
end Go.Proofs.YtgcdbbidmfdonaaGreat
namespace Go.Proofs.YtgcdbbidmfdonaaGreat
set_option linter.unusedVariables false
def smS (x : ByteArray) : Prop := x.size ≤ 1048576
def smL {α : Type} (sm : α → Prop) (xs : List α) : Prop := xs.length ≤ 1048576 ∧ ∀ m ∈ xs,sm m
end Go.Proofs.YtgcdbbidmfdonaaGreat
namespace Go.Proofs.YtgcdbbidmfdonaaGreat
open Go.RowKit
set_option linter.unusedVariables false
set_option maxRecDepth 100000
set_option maxHeartbeats 2000000
def aQm (x : dH) : Prop := smS x.Name ∧ (smL (fun _ => True)) x.Wheels
def aSl (x : cY) : Prop := (fun _ => True) x.A ∧ (fun _ => True) x.WheelA ∧ (fun _ => True) x.B ∧ (fun _ => True) x.WheelB
def aAz (x : bJ) : Prop := (smL aQm) x.Arbors ∧ (smL aSl) x.Meshes
def aQn (x : cA) : Prop := smS x.Name ∧ (fun _ => True) x.Days ∧ (fun _ => True) x.Leap
def aJc (x : bD) : Prop := (fun _ => True) x.Every ∧ (fun _ => True) x.Rest ∧ (fun _ => True) x.Leap
def rN (x : aI) : Prop := smS x.Name ∧ (smL aQn) x.Months ∧ (smL aJc) x.Rules ∧ (fun _ => True) x.Week
def eX (x : aV) : Prop := smS x.Name ∧ aAz x.Works ∧ (fun _ => True) x.Minute ∧ (fun _ => True) x.Hour ∧ (fun _ => True) x.Escape ∧ (fun _ => True) x.Teeth ∧ (fun _ => True) x.Beats ∧ rN x.Calendar ∧ (smL (fun _ => True)) x.Cam ∧ (fun _ => True) x.Strike
def aOg (x : aO2) : Prop := (fun _ => True) x.Year ∧ (fun _ => True) x.Month ∧ (fun _ => True) x.Day
def aAb (x : qK) : Prop := (smL (fun _ => True)) x.Cam ∧ (fun _ => True) x.Months ∧ (fun _ => True) x.Teeth ∧ (fun _ => True) x.At ∧ (fun _ => True) x.Day ∧ (fun _ => True) x.Week ∧ (fun _ => True) x.Weekday
def aRa (x : aV9) : Prop := eX x.Movement ∧ aOg x.Start ∧ (fun _ => True) x.First ∧ (fun _ => True) x.Clock ∧ aAb x.Dial
end Go.Proofs.YtgcdbbidmfdonaaGreat
namespace Go.Proofs.YtgcdbbidmfdonaaGreat
set_option linter.unusedVariables false
def sJ (w : bJ) (k : Int) : Bool := decide (0 ≤ k ∧ k < w.Arbors.length)
def wT (m : aV) : Bool := kH m.Name && (aCl m.Works && (sJ m.Works m.Minute && (sJ m.Works m.Hour && (sJ m.Works m.Escape && (gU m.Teeth && (btw m.Beats 1 36000 && (sB m.Calendar && (aJn m.Cam && btw m.Strike 0 2))))))))
theorem smW {w : bJ} (h : aAz w) : w.Arbors.length ≤ 9223372036854775807 ∧ (∀ b ∈ w.Arbors,b.Wheels.length ≤ 9223372036854775807) ∧ w.Meshes.length ≤ 9223372036854775807 := by
 have h1 := h.1.1
 have h2 := h.2.1
 exact ⟨by omega,fun b hb => by have := (h.1.2 b hb).2.1; omega,by omega⟩
theorem zN {w : bJ} (hl : w.Arbors.length ≤ 9223372036854775807) (k : Int) : kG w k = some (sJ w k) := by
 unfold kG; rw [fV,Option.bind_some,wF hl]; rfl
theorem aHg {w : bJ} (hl : w.Arbors.length ≤ 9223372036854775807) (k : Int) : mG w k = some (sJ w k) := by
 unfold mG; rw [eJ,Option.bind_some,wF hl]; rfl
theorem rU {m : aV} (h : eX m) : gF m = some (wT m) := by
 obtain ⟨_,h2,_,_,_,_,_,h8,h9,_⟩ := h
 obtain ⟨w1,w2,w3⟩ := smW h2
 have c1 := h8.2.1.1
 have c2 := h8.2.2.1.1
 have c3 := h9.1
 unfold gF wT
 simp only [zN w1,rV,fV,tE,uM w1 w2 w3,nF (c := m.Calendar) (by omega) (by omega),aEq (xs := m.Cam) (by omega),Option.bind_some,itA]
 congr 1
 ac_rfl
theorem aLt {m : aV} (h : eX m) : vD m = some (wT m) := by
 obtain ⟨_,h2,_,_,_,_,_,h8,h9,_⟩ := h
 obtain ⟨w1,w2,w3⟩ := smW h2
 have c1 := h8.2.1.1
 have c2 := h8.2.2.1.1
 have c3 := h9.1
 unfold vD wT
 simp only [aHg w1,kT,eJ,oF,aLq w1 w2 w3,qO (c := m.Calendar) (by omega) (by omega),aLs (xs := m.Cam) (by omega),Option.bind_some,itA,itO,itF,Bool.not_or,Bool.not_not]
 congr 1
 ac_rfl
theorem yF {m : aV} (h : eX m) : gG m = some (wT m) := by unfold gG; rw [aLt h]; rfl
end Go.Proofs.YtgcdbbidmfdonaaGreat
namespace Go.Proofs.YtgcdbbidmfdonaaGreat
set_option linter.unusedVariables false
def aR0 (y : Int) (b : Bool) (r : bD) : Bool := if y % r.Every = r.Rest then r.Leap else b
def jE (c : aI) (y : Int) : Bool := c.Rules.foldl (aR0 y) false
theorem fG {c : aI} (h : sB c = true) : kH c.Name = true ∧ (1 ≤ c.Months.length ∧ c.Months.length ≤ 20) ∧ c.Rules.length ≤ 6 ∧ (1 ≤ c.Week ∧ c.Week ≤ 12) ∧ aAg c.Months = true ∧ c.Rules.all nY = true ∧ cyc c.Rules ≤ 2000 := by
 unfold sB at h
 simp only [Bool.and_eq_true,decide_eq_true_eq] at h
 exact ⟨h.1,h.2.1,h.2.2.1,of_decide_eq_true h.2.2.2.1,h.2.2.2.2.1,h.2.2.2.2.2.1,h.2.2.2.2.2.2⟩
theorem aGt {c : aI} (h : sB c = true) {y : Int} (y0 : 0 ≤ y) {step : Bool × Int → Option ((Bool × Int) ⊕ Bool)} (hS : ∀ (i : Nat) (hi : i < c.Rules.length) b,c.Rules[i].Every ≠ 0 → step (b,(i : Int)) = some (.inl ((if y.tmod c.Rules[i].Every = c.Rules[i].Rest then c.Rules[i].Leap else b),w64 ((i : Int) + 1)))) (hE : ∀ b,step (b,(c.Rules.length : Int)) = some (.inr b)) :
  cK step (false,0) = some (jE c y) := by
 obtain ⟨_,_,hr,_,_,hb,_⟩ := fG h
 have := aE2 (xs := c.Rules) (step := step) (fun i b => (b,i)) (fun _ r b => some (.inl (aR0 y b r))) id (by omega) (fun i hi b => by
  have hq := rG.1 ((List.all_eq_true.1 hb) _ (List.getElem_mem hi))
  rw [hS i hi b (by omega),aS (by omega) (by omega),Int.tmod_eq_emod_of_nonneg y0]; rfl) (fun b => hE b) false
 rw [this,aBi (aR0 y) (fun _ _ _ => rfl)]; rfl
theorem aBq {c : aI} (h : sB c = true) {y : Int} (y0 : 0 ≤ y) : mO c y = some (jE c y) := by
 unfold mO
 rw [aGt h y0 (fun i hi b he => by
  have hi' : (i : Int) < c.Rules.length := by omega
  simp only [if_pos hi',dP hi,Option.bind_some,iN he]
  split <;> rfl) (fun b => by simp)]; rfl
theorem vA {c : aI} (h : sB c = true) {y : Int} (y0 : 0 ≤ y) : oP c y = some (jE c y) := by
 unfold oP
 rw [aGt h y0 (fun i hi b he => by
  have hi' : (i : Int) < c.Rules.length := by omega
  simp only [if_pos hi',dP hi,Option.bind_some,iN he]
  split <;> rfl) (fun b => by simp)]; rfl
def uE (c : aI) (k : Int) : cA := c.Months.getD k.toNat ⟨⟨#[]⟩,0,0⟩
def aM0 (c : aI) (leap : Bool) (k : Int) : Int := if leap = true then (uE c k).Leap else (uE c k).Days
theorem vM {c : aI} {k : Int} (h0 : 0 ≤ k) (h1 : k < c.Months.length) : atI c.Months k = some (uE c k) ∧ uE c k ∈ c.Months := by
 obtain ⟨e,he,hm,hg⟩ := sZ h0 h1
 have : uE c k = e := by unfold uE; rw [List.getD_eq_getElem?_getD,hg]; rfl
 rw [this]; exact ⟨he,hm⟩
theorem aQ3 {c : aI} (h : sB c = true) {m : cA} (hm : m ∈ c.Months) : (1 ≤ m.Days ∧ m.Days ≤ 60) ∧ 1 ≤ m.Leap ∧ m.Leap ≤ 60 := by
 obtain ⟨_,_,_,_,hb,_⟩ := fG h
 obtain ⟨i,hi,rfl⟩ := List.getElem_of_mem hm
 have := wW.1 hb i hi
 unfold aNb btw at this
 simp only [Bool.and_eq_true,decide_eq_true_eq] at this
 exact ⟨this.1.2.1,this.1.2.2⟩
theorem aM1 {c : aI} (h : sB c = true) (l : Bool) {k : Int} (h0 : 0 ≤ k) (h1 : k < c.Months.length) : 1 ≤ aM0 c l k ∧ aM0 c l k ≤ 60 := by
 have := aQ3 h (vM h0 h1).2
 unfold aM0
 cases l <;> simp <;> omega
theorem aAe {c : aI} (h : sB c = true) (l : Bool) {m : Int} (h0 : 1 ≤ m) (h1 : m ≤ c.Months.length) : kF c l m = some (aM0 c l (m - 1)) := by
 have hc := (fG h).2.1.2
 unfold kF aM0
 rw [aS (by omega) (by omega),(vM (c := c) (k := m - 1) (by omega) (by omega)).1]
 cases l <;> rfl
theorem zW {c : aI} (h : sB c = true) {y : Int} (y0 : 0 ≤ y) {k : Int} (h0 : 0 ≤ k) (h1 : k < c.Months.length) : oO c y k = some (aM0 c (jE c y) k) := by
 unfold oO aM0
 rw [vA h y0,Option.bind_some,(vM h0 h1).1]
 cases jE c y <;> rfl
theorem xC {xs : List Int} (h : aJn xs = true) : (∀ v ∈ xs,1 ≤ v ∧ v ≤ 60) ∧ 1 ≤ xs.length ∧ xs.length ≤ 260 := by
 unfold aJn at h
 simp only [Bool.and_eq_true,decide_eq_true_eq,List.all_eq_true] at h
 exact ⟨fun v hv => of_decide_eq_true (h.1 v hv),h.2⟩
def aFx (c : aI) (cam : List Int) : Int := if (sB c && aJn cam) = true then (if (cam.length : Int) % c.Months.length = 0 then 0 else 6) else 1
theorem sY {c : aI} {cam : List Int} (h : aFx c cam = 0) : sB c = true ∧ aJn cam = true ∧ (cam.length : Int) % c.Months.length = 0 ∧ 1 ≤ (cam.length : Int) / c.Months.length ∧ (cam.length : Int) / c.Months.length ≤ 260 := by
 unfold aFx at h
 split at h
 ·rename_i h1
  rw [Bool.and_eq_true] at h1
  split at h
  ·rename_i h2
   have a := (fG h1.1).2.1
   have b := (xC h1.2).2
   have e := Int.emod_add_mul_ediv (cam.length : Int) c.Months.length
   have q := sO (a := (cam.length : Int)) (g := (c.Months.length : Int)) (by omega) (by omega)
   refine ⟨h1.1,h1.2,h2,?_,by omega⟩
   rcases Int.lt_or_le 0 ((cam.length : Int) / c.Months.length) with h | h
   ·omega
   ·have : (cam.length : Int) / c.Months.length = 0 := by omega
    rw [this,h2] at e
    omega
  ·cases h
 ·cases h
theorem uN {c : aI} {cam : List Int} (h1 : 1 ≤ c.Months.length) (h2 : cam.length ≤ 9223372036854775807) : kE c cam = some (if (cam.length : Int) % c.Months.length = 0 then (cam.length : Int) / c.Months.length else 0) := by
 unfold kE
 have q := sO (a := (cam.length : Int)) (g := (c.Months.length : Int)) (by omega) (by omega)
 rw [iN (by omega),Int.tmod_eq_emod_of_nonneg (by omega),iN (by omega),Int.tdiv_eq_ediv_of_nonneg (by omega),aS (by omega) (by omega)]
 by_cases h : (cam.length : Int) % c.Months.length = 0
 ·rw [if_neg (by simp [h]),if_pos h]
 ·rw [if_pos h,if_neg h]
theorem aJy {xs : List Int} (hl : xs.length ≤ 1048576) : cN xs = some xs := by
 unfold cN
 rw [iN (by simp; omega),List.nil_append]
theorem aN9 {xs : List Int} (hl : xs.length ≤ 1048576) : qN xs = some xs := by
 unfold qN
 rw [iN (by simp; omega),List.nil_append]
end Go.Proofs.YtgcdbbidmfdonaaGreat
namespace Go.Proofs.YtgcdbbidmfdonaaGreat
set_option linter.unusedVariables false
def aF0 (g : Nat → Int) : Nat → Int
 | 0 => 0
 | n + 1 => aF0 g n + g n
theorem aJe {g : Nat → Int} {lo hi : Int} {n : Nat} (h : ∀ k,k < n → lo ≤ g k ∧ g k ≤ hi) : lo * n ≤ aF0 g n ∧ aF0 g n ≤ hi * n := by
 induction n with
 | zero => simp [aF0]
 | succ n ih =>
  have h1 := ih fun k hk => h k (by omega)
  have h2 := h n (by omega)
  have e1 : lo * ((n + 1 : Nat) : Int) = lo * n + lo := by push_cast; rw [Int.mul_add]; omega
  have e2 : hi * ((n + 1 : Nat) : Int) = hi * n + hi := by push_cast; rw [Int.mul_add]; omega
  rw [e1,e2]
  unfold aF0
  omega
theorem aKu (g : Nat → Int) (m : Nat) : ∀ n,aF0 g (m + n) = aF0 g m + aF0 (fun k => g (m + k)) n
 | 0 => by simp [aF0]
 | n + 1 => by
  show aF0 g (m + n) + g (m + n) = _
  rw [aKu g m n]
  simp only [aF0]; omega
theorem aOm {g : Nat → Int} (h : ∀ k,0 ≤ g k) {m n : Nat} (hm : m ≤ n) : aF0 g m ≤ aF0 g n := by
 obtain ⟨k,rfl⟩ : ∃ k,n = m + k := ⟨n - m,by omega⟩
 rw [aKu]
 have := (aJe (g := fun k => g (m + k)) (lo := 0) (hi := 0 + 1) (n := 0) fun k hk => by omega)
 have h2 : ∀ j,0 ≤ aF0 (fun k => g (m + k)) j := fun j => by
  induction j with
  | zero => simp [aF0]
  | succ j ih => have := h (m + j); simp only [aF0]; omega
 have := h2 k
 omega
def aUl (c : aI) (l : Bool) : Int := aF0 (fun k => aM0 c l (k : Int)) c.Months.length
def aUj (c : aI) (y : Nat) : Int := aUl c (jE c y)
def bef (c : aI) (y : Nat) : Int := aF0 (aUj c) y
theorem aSo {c : aI} (h : sB c = true) (l : Bool) : 1 ≤ aUl c l ∧ aUl c l ≤ 1200 := by
 have hc := (fG h).2.1
 have := aJe (g := fun k => aM0 c l (k : Int)) (lo := 1) (hi := 60) (n := c.Months.length) fun k hk => aM1 h l (by omega) (by omega)
 unfold aUl
 omega
theorem aM2 {c : aI} (h : sB c = true) (y : Nat) : 1 ≤ aUj c y ∧ aUj c y ≤ 1200 := aSo h _
theorem aQz {c : aI} (h : sB c = true) (y : Nat) : (y : Int) ≤ bef c y ∧ bef c y ≤ 1200 * y := by
 have := aJe (g := aUj c) (lo := 1) (hi := 1200) (n := y) fun k _ => aM2 h k
 unfold bef
 omega
theorem aPc {c : aI} (h : sB c = true) {m n : Nat} (hm : m ≤ n) : bef c m ≤ bef c n := aOm (fun k => by have := (aM2 h k).1; omega) hm
theorem aRt {rs : List bD} : ∀ {y : Int},1 ≤ y → y ≤ 2000 → rs.all nY = true → rs.foldl aDg y ≤ 2000 → y ∣ rs.foldl aDg y ∧ (∀ r ∈ rs,r.Every ∣ rs.foldl aDg y) ∧ 1 ≤ rs.foldl aDg y := by
 induction rs with
 | nil => intro y h0 h1 _ _; exact ⟨Int.dvd_refl _,fun r hr => by simp at hr,h0⟩
 | cons r rs ih =>
  intro y h0 h1 hb hc
  rw [List.all_cons,Bool.and_eq_true] at hb
  rw [List.foldl_cons] at hc ⊢
  have hq := rG.1 hb.1
  have hs := vG h0 h1 hq.1.1 hq.1.2
  have e : aDg y r = y / (Int.gcd y r.Every : Int) * r.Every := by unfold aDg; rw [if_pos h1]
  rw [e] at hc ⊢
  have hle : y / (Int.gcd y r.Every : Int) * r.Every ≤ 2000 := by
   refine Classical.byContradiction fun hn => ?_
   rw [aJt (Int.not_le.1 hn)] at hc
   exact hn hc
  obtain ⟨d1,d2,d3⟩ := ih hs.2.2.1 hle hb.2 hc
  have hy : y ∣ y / (Int.gcd y r.Every : Int) * r.Every := by
   obtain ⟨a,ha⟩ : (Int.gcd y r.Every : Int) ∣ y := Int.gcd_dvd_left ..
   obtain ⟨b,hb⟩ : (Int.gcd y r.Every : Int) ∣ r.Every := Int.gcd_dvd_right ..
   have hg := nD (n := y) (d := r.Every) (by omega)
   refine ⟨b,?_⟩
   have hg0 : (Int.gcd y r.Every : Int) ≠ 0 := by omega
   generalize (Int.gcd y r.Every : Int) = g at *
   have e1 : y / g = a := by rw [ha]; exact Int.mul_ediv_cancel_left a hg0
   rw [e1,hb,ha]
   grind
  refine ⟨Int.dvd_trans hy d1,fun r' hr' => ?_,d3⟩
  rcases List.mem_cons.1 hr' with rfl | hr'
  ·exact Int.dvd_trans (Int.dvd_mul_left ..) d1
  ·exact d2 r' hr'
def aSz (c : aI) : Nat := (cyc c.Rules).toNat
theorem aH4 {c : aI} (h : sB c = true) : (aSz c : Int) = cyc c.Rules ∧ 1 ≤ aSz c ∧ aSz c ≤ 2000 ∧ ∀ r ∈ c.Rules,r.Every ∣ (aSz c : Int) := by
 obtain ⟨_,_,_,_,_,hb,hc⟩ := fG h
 obtain ⟨_,d2,d3⟩ := aRt (y := 1) (by omega) (by omega) hb hc
 have e : (aSz c : Int) = cyc c.Rules := by unfold aSz; have : 1 ≤ cyc c.Rules := d3; omega
 refine ⟨e,?_,?_,fun r hr => by rw [e]; exact d2 r hr⟩
 ·have : 1 ≤ cyc c.Rules := d3; omega
 ·omega
end Go.Proofs.YtgcdbbidmfdonaaGreat
namespace Go.Proofs.YtgcdbbidmfdonaaGreat
set_option linter.unusedVariables false
theorem qZ {a b A B : Int} (h1 : -A ≤ a) (h2 : a ≤ A) (h3 : -B ≤ b) (h4 : b ≤ B) : -(A * B) ≤ a * b ∧ a * b ≤ A * B := by
 have h : (a * b).natAbs ≤ (A * B).natAbs := by
  rw [Int.natAbs_mul,Int.natAbs_mul]
  exact Nat.mul_le_mul (by omega) (by omega)
 have hp : 0 ≤ A * B := Int.mul_nonneg (by omega) (by omega)
 generalize a * b = x at *
 generalize A * B = y at *
 omega
theorem qB {n d : Int} (hd : d ≠ 0) (h : (mkR n d).2 = true) : qG (mkR n d).1 = true ∧ ((mkR n d).1.Num = 0 ↔ n = 0) := by
 unfold mkR at h ⊢
 split at h
 ·cases h
 ·rename_i hc
  rw [if_neg hc]
  have hg : 0 < Int.gcd n d := nD hd
  have ea : dD n / (Int.gcd n d : Int) = ((n.natAbs / Int.gcd n d : Nat) : Int) := rfl
  have eb : dD d / (Int.gcd n d : Int) = ((d.natAbs / Int.gcd n d : Nat) : Int) := rfl
  have hco : Nat.Coprime (n.natAbs / Int.gcd n d) (d.natAbs / Int.gcd n d) := Nat.coprime_div_gcd_div_gcd hg
  have hb0 : 0 < d.natAbs / Int.gcd n d := Nat.div_pos (Nat.le_of_dvd (by omega) (Nat.gcd_dvd_right ..)) hg
  have ha0 : n.natAbs / Int.gcd n d = 0 ↔ n = 0 := by
   constructor
   ·intro h0
    have := Nat.eq_mul_of_div_eq_right (Nat.gcd_dvd_left n.natAbs d.natAbs) h0
    omega
   ·rintro rfl; simp
  rw [ea,eb] at hc ⊢
  generalize n.natAbs / Int.gcd n d = a at *
  generalize d.natAbs / Int.gcd n d = b at *
  refine ⟨jW.2 ⟨⟨by show 1 ≤ (b : Int); omega,by show (b : Int) ≤ _; omega⟩,?_,?_⟩,?_⟩
  ·dsimp only; split <;> omega
  ·dsimp only
   unfold Int.gcd
   split
   ·rw [Int.natAbs_neg,Int.natAbs_natCast,Int.natAbs_natCast]; exact hco
   ·rw [Int.natAbs_natCast,Int.natAbs_natCast]; exact hco
  ·dsimp only
   rw [← ha0]
   split <;> omega
theorem lI {n d : Int} (hd : d ≠ 0) (n0 : -1000000000 ≤ n) (n1 : n ≤ 1000000000) (d0 : -1000000000 ≤ d) (d1 : d ≤ 1000000000) : (mkR n d).2 = true := by
 unfold mkR
 have hg := nD (n := n) hd
 have h1 := (sO (a := dD n) (g := (Int.gcd n d : Int)) (pZ n) (by omega)).2
 have h2 := (sO (a := dD d) (g := (Int.gcd n d : Int)) (pZ d) (by omega)).2
 have h3 : dD n ≤ 1000000000 := by unfold dD; omega
 have h4 : dD d ≤ 1000000000 := by unfold dD; omega
 rw [if_neg (by omega)]
theorem aJ6 {r : aA} (h : qG r = true) : mkR r.Num r.Den = (r,true) := by
 obtain ⟨⟨d0,d1⟩,⟨n0,n1⟩,hg⟩ := jW.1 h
 obtain ⟨n,d⟩ := r
 unfold mkR
 dsimp only at *
 rw [hg]
 have e1 : dD n / ((1 : Nat) : Int) = dD n := by simp
 have e2 : dD d / ((1 : Nat) : Int) = dD d := by simp
 rw [e1,e2,if_neg (by unfold dD; omega)]
 congr 2
 ·unfold dD
  by_cases hn : n < 0
  ·rw [decide_eq_true hn,decide_eq_false (show ¬ d < 0 by omega)]; simp; omega
  ·rw [decide_eq_false hn,decide_eq_false (show ¬ d < 0 by omega)]; simp; omega
 ·unfold dD; omega
def aFy (a b : aA) : aA × Bool := mkR (a.Num * b.Num) (a.Den * b.Den)
theorem gS {r : aA} (h : qG r = true) : 1 ≤ r.Den ∧ r.Den ≤ 1000000000 ∧ -1000000000 ≤ r.Num ∧ r.Num ≤ 1000000000 := by
 obtain ⟨⟨d0,d1⟩,⟨n0,n1⟩,_⟩ := jW.1 h; exact ⟨d0,d1,n0,n1⟩
theorem aNc {a b : aA} (ha : qG a = true) (hb : qG b = true) : osI (a.Num * b.Num) ∧ osI (a.Den * b.Den) ∧ a.Den * b.Den ≠ 0 := by
 obtain ⟨d0,d1,n0,n1⟩ := gS ha
 obtain ⟨e0,e1,m0,m1⟩ := gS hb
 have h1 := qZ n0 n1 m0 m1
 have h2 := qZ (a := a.Den) (b := b.Den) (A := 1000000000) (B := 1000000000) (by omega) d1 (by omega) e1
 have h3 : a.Den * b.Den ≠ 0 := Int.mul_ne_zero (by omega) (by omega)
 refine ⟨⟨by omega,by omega⟩,⟨by omega,by omega⟩,h3⟩
theorem aJ8 {a b : aA} (ha : qG a = true) (hb : qG b = true) (h : (aFy a b).2 = true) : qG (aFy a b).1 = true ∧ ((aFy a b).1.Num = 0 ↔ a.Num * b.Num = 0) := qB (aNc ha hb).2.2 h
theorem tF {a b : aA} (ha : qG a = true) (hb : qG b = true) : gA a b = some (qE (aFy a b)) := by
 unfold gA
 obtain ⟨h1,h2,h3⟩ := aNc ha hb
 simp only [fM,ha,hb,Option.bind_some,Bool.not_true,Bool.false_eq_true,if_false]
 rw [aS h1.1 h1.2,aS h2.1 h2.2,fZ h1 h2,Option.bind_some]
 unfold vW aFy
 rw [if_neg h3]
theorem aCc {a b : aA} (ha : qG a = true) (hb : qG b = true) : hH a b = some (aFy a b) := by
 unfold hH
 obtain ⟨h1,h2,h3⟩ := aNc ha hb
 rw [aS h1.1 h1.2,aS h2.1 h2.2,kI h1 h2 h3,Option.bind_some]; rfl
end Go.Proofs.YtgcdbbidmfdonaaGreat
namespace Go.Proofs.YtgcdbbidmfdonaaGreat
set_option linter.unusedVariables false
def zF (w : bJ) (a k : Int) : Int := (w.Arbors[a.toNat]?.bind fun b => b.Wheels[k.toNat]?).getD 0
def jZ (w : bJ) (m : cY) : bE := ⟨zF w m.A m.WheelA,zF w m.B m.WheelB⟩
theorem tZ {w : bJ} {a k : Int} (h : whB w a k = true) : 0 ≤ a ∧ a < w.Arbors.length ∧ ∃ b t,atI w.Arbors a = some b ∧ b ∈ w.Arbors ∧ atI b.Wheels k = some t ∧ t ∈ b.Wheels ∧ zF w a k = t := by
 unfold whB at h
 rw [Bool.and_eq_true,decide_eq_true_eq] at h
 obtain ⟨h1,h2⟩ := h
 obtain ⟨b,hb,hm,hg⟩ := sZ h1.1 h1.2
 rw [hg] at h2
 have h2 := of_decide_eq_true h2
 obtain ⟨t,ht,htm,htg⟩ := sZ h2.1 h2.2
 exact ⟨h1.1,h1.2,b,t,hb,hm,ht,htm,by unfold zF; rw [hg]; simp [htg]⟩
theorem nI {w : bJ} {m : cY} : tM w m = true ↔ m.A ≠ m.B ∧ whB w m.A m.WheelA = true ∧ whB w m.B m.WheelB = true := by
 unfold tM; simp only [Bool.and_eq_true,decide_eq_true_eq]
theorem qJ {w : bJ} : aCl w = true ↔ w.Arbors.length ≤ 16 ∧ w.Meshes.length ≤ 24 ∧ (∀ (i : Nat) (hi : i < w.Arbors.length),aDc w.Arbors[i] = true ∧ ((w.Arbors.take i).any fun b => decide (b.Name = w.Arbors[i].Name)) = false) ∧ ∀ (i : Nat) (hi : i < w.Meshes.length),tM w w.Meshes[i] = true ∧ ((w.Meshes.take i).any fun n => rK w.Meshes[i] n) = false := by
 unfold aCl
 simp only [Bool.and_eq_true,decide_eq_true_eq,wW,Bool.not_eq_true']
theorem vV {w : bJ} (h : aCl w = true) : ∀ m ∈ w.Meshes,tM w m = true := fun m hm => by
 obtain ⟨i,hi,rfl⟩ := List.getElem_of_mem hm
 exact ((qJ.1 h).2.2.2 i hi).1
theorem aOw {w : bJ} (h : aCl w = true) : ∀ a ∈ w.Arbors,aDc a = true := fun m hm => by
 obtain ⟨i,hi,rfl⟩ := List.getElem_of_mem hm
 exact ((qJ.1 h).2.2.1 i hi).1
theorem vT {w : bJ} (h : aCl w = true) {a k : Int} (hw : whB w a k = true) : 6 ≤ zF w a k ∧ zF w a k ≤ 240 := by
 obtain ⟨_,_,b,t,_,hb,_,ht,e⟩ := tZ hw
 have hb := aOw h b hb
 unfold aDc at hb
 rw [Bool.and_eq_true,List.all_eq_true] at hb
 have := hb.1 t ht
 unfold gU btw at this
 rw [e]
 exact of_decide_eq_true this
theorem aBt {w : bJ} {m : cY} (h : tM w m = true) : mQ w m = some (jZ w m) := by
 obtain ⟨_,h1,h2⟩ := nI.1 h
 obtain ⟨_,_,b,t,e1,_,e2,_,e3⟩ := tZ h1
 obtain ⟨_,_,b',t',f1,_,f2,_,f3⟩ := tZ h2
 unfold mQ jZ
 simp only [e1,e2,f1,f2,Option.bind_some,e3,f3]
def eS (v : aA) (t u : Int) : aA × Bool := aFy v (mkR (-t) u).1
theorem yJ {t u : Int} (t0 : 6 ≤ t) (t1 : t ≤ 240) (u0 : 6 ≤ u) (u1 : u ≤ 240) : (mkR (-t) u).2 = true ∧ qG (mkR (-t) u).1 = true ∧ (mkR (-t) u).1.Num ≠ 0 := by
 have h := lI (n := -t) (d := u) (by omega) (by omega) (by omega) (by omega) (by omega)
 have h2 := qB (n := -t) (d := u) (by omega) h
 exact ⟨h,h2.1,fun e => by have := h2.2.1 e; omega⟩
def KnR (r : aA) : Prop := qG r = true ∧ r.Num ≠ 0
theorem KnR.den {r : aA} (h : KnR r) : r.Den ≠ 0 := by have := gS h.1; omega
theorem gZ {v : aA} {t u : Int} (hv : KnR v) (t0 : 6 ≤ t) (t1 : t ≤ 240) (u0 : 6 ≤ u) (u1 : u ≤ 240) (h : (eS v t u).2 = true) : KnR (eS v t u).1 := by
 obtain ⟨_,h2,h3⟩ := yJ t0 t1 u0 u1
 obtain ⟨h4,h5⟩ := aJ8 hv.1 h2 h
 exact ⟨h4,fun e => by
  rcases Int.mul_eq_zero.1 (h5.1 e) with h | h
  ·exact hv.2 h
  ·exact h3 h⟩
theorem wN {v : aA} {t u : Int} (hv : KnR v) (t0 : 6 ≤ t) (t1 : t ≤ 240) (u0 : 6 ≤ u) (u1 : u ≤ 240) : mP v t u = some (qE (eS v t u)) := by
 unfold mP
 obtain ⟨h1,h2,h3⟩ := yJ t0 t1 u0 u1
 rw [aS (by omega) (by omega),fZ ⟨by omega,by omega⟩ ⟨by omega,by omega⟩,Option.bind_some]
 have e : (vW (-t) u).1 = (mkR (-t) u).1 := by unfold vW qE; rw [if_neg (by omega),if_pos h1]
 rw [e,tF hv.1 h2]; rfl
def SpI (w : bJ) (sp : List aA) : Prop := sp.length = w.Arbors.length ∧ ∀ r ∈ sp,r = ⟨0,0⟩ ∨ KnR r
def qL (sp : List aA) (i : Int) : aA := sp.getD i.toNat ⟨0,0⟩
theorem wH {sp : List aA} {i : Int} (h0 : 0 ≤ i) (h1 : i < sp.length) : atI sp i = some (qL sp i) ∧ qL sp i ∈ sp ∧ ∃ h : i.toNat < sp.length,sp[i.toNat] = qL sp i := by
 obtain ⟨e,he,hm,hg⟩ := sZ h0 h1
 have : qL sp i = e := by unfold qL; rw [List.getD_eq_getElem?_getD,hg]; rfl
 rw [this]
 exact ⟨he,hm,(List.getElem?_eq_some_iff.1 hg)⟩
def pL (w : bJ) (m : cY) (s : Bool × List aA) : (Bool × List aA) ⊕ Unit :=
 if decide ((qL s.2 m.A).Den = 0) = decide ((qL s.2 m.B).Den = 0) then .inl s
 else if (qL s.2 m.A).Den = 0 then (if (eS (qL s.2 m.B) (jZ w m).Driven (jZ w m).Driver).2 = true then .inl (true,s.2.set m.A.toNat (eS (qL s.2 m.B) (jZ w m).Driven (jZ w m).Driver).1) else .inr ())
 else (if (eS (qL s.2 m.A) (jZ w m).Driver (jZ w m).Driven).2 = true then .inl (true,s.2.set m.B.toNat (eS (qL s.2 m.A) (jZ w m).Driver (jZ w m).Driven).1) else .inr ())
def nO (w : bJ) : List cY → Bool × List aA → (Bool × List aA) ⊕ Unit
 | [],s => .inl s
 | m :: ms,s => match pL w m s with
  | .inl s' => nO w ms s'
  | .inr u => .inr u
def uC (sp : List aA) : Nat := sp.countP fun r => decide (r.Den = 0)
theorem SpI.den {w : bJ} {sp : List aA} (h : SpI w sp) {i : Int} (h0 : 0 ≤ i) (h1 : i < w.Arbors.length) (hd : (qL sp i).Den ≠ 0) : KnR (qL sp i) := by
 obtain ⟨_,hm,_⟩ := wH (sp := sp) h0 (by rw [h.1]; exact h1)
 rcases h.2 _ hm with e | e
 ·rw [e] at hd; exact absurd rfl hd
 ·exact e
theorem SpI.set {w : bJ} {sp : List aA} (h : SpI w sp) (i : Nat) {v : aA} (hv : KnR v) : SpI w (sp.set i v) := by
 refine ⟨by rw [List.length_set]; exact h.1,fun r hr => ?_⟩
 rcases List.mem_or_eq_of_mem_set hr with hr | rfl
 ·exact h.2 r hr
 ·exact .inr hv
theorem aJq {sp : List aA} {i : Int} (h0 : 0 ≤ i) (h1 : i < sp.length) (hd : (qL sp i).Den = 0) {v : aA} (hv : v.Den ≠ 0) : uC (sp.set i.toNat v) < uC sp := by
 obtain ⟨_,hm,hi,e⟩ := wH h0 h1
 unfold uC
 have hp : 0 < sp.countP fun r => decide (r.Den = 0) := List.countP_pos_iff.2 ⟨_,hm,decide_eq_true hd⟩
 rw [List.countP_set hi]
 rw [e,decide_eq_true hd,decide_eq_false hv]
 simp
 omega
theorem aKl {w : bJ} (hw : aCl w = true) {m : cY} (hm : tM w m = true) {s s' : Bool × List aA} (h : SpI w s.2) (e : pL w m s = .inl s') : SpI w s'.2 ∧ (s' = s ∨ (s'.1 = true ∧ uC s'.2 < uC s.2)) := by
 obtain ⟨_,j1,j2⟩ := nI.1 hm
 have a := tZ j1
 have b := tZ j2
 have ta := vT hw j1
 have tb := vT hw j2
 unfold pL at e
 split at e
 ·injection e with e; subst e; exact ⟨h, .inl rfl⟩
 ·rename_i hne
  split at e
  ·rename_i hA
   have hB : (qL s.2 m.B).Den ≠ 0 := fun hB => hne (by rw [decide_eq_true hA,decide_eq_true hB])
   split at e
   ·rename_i hv
    injection e with e; subst e
    have k := gZ (h.den b.1 b.2.1 hB) (t := (jZ w m).Driven) (u := (jZ w m).Driver) tb.1 tb.2 ta.1 ta.2 hv
    exact ⟨h.set _ k, .inr ⟨rfl,aJq a.1 (by rw [h.1]; exact a.2.1) hA k.den⟩⟩
   ·cases e
  ·rename_i hA
   have hB : (qL s.2 m.B).Den = 0 := Classical.byContradiction fun hB => hne (by rw [decide_eq_false hA,decide_eq_false hB])
   split at e
   ·rename_i hv
    injection e with e; subst e
    have k := gZ (h.den a.1 a.2.1 hA) (t := (jZ w m).Driver) (u := (jZ w m).Driven) ta.1 ta.2 tb.1 tb.2 hv
    exact ⟨h.set _ k, .inr ⟨rfl,aJq b.1 (by rw [h.1]; exact b.2.1) hB k.den⟩⟩
   ·cases e
theorem xY {w : bJ} (hw : aCl w = true) : ∀ {ms : List cY} (hm : ∀ m ∈ ms,tM w m = true) {s s' : Bool × List aA} (h : SpI w s.2) (e : nO w ms s = .inl s'),SpI w s'.2 ∧ uC s'.2 ≤ uC s.2 ∧ (s'.1 = true → s.1 = true ∨ uC s'.2 < uC s.2)
 | [],hm,s,s',h,e => by
  injection e with e; subst e
  exact ⟨h,Nat.le_refl _,fun h => .inl h⟩
 | m :: ms,hm,s,s',h,e => by
  unfold nO at e
  cases e1 : pL w m s with
  | inr u => rw [e1] at e; cases e
  | inl s1 =>
   rw [e1] at e
   obtain ⟨h1,h2⟩ := aKl hw (hm m (List.mem_cons_self ..)) h e1
   obtain ⟨h3,h4,h5⟩ := xY hw (fun m hm' => hm m (List.mem_cons_of_mem _ hm')) h1 e
   refine ⟨h3,?_,fun ht => ?_⟩
   ·rcases h2 with rfl | h2 <;> omega
   ·rcases h2 with rfl | h2
    ·exact h5 ht
    ·right; omega
theorem aDi {w : bJ} {X : Type} {g : Unit → X} {body : Nat → cY → Bool × List aA → Option ((Bool × List aA) ⊕ X)} (hb : ∀ i m s,body i m s = some (Sum.map id g (pL w m s))) : ∀ (ms : List cY) (k : Nat) (s : Bool × List aA),aLz body ms k s = some (Sum.map id g (nO w ms s))
 | [],k,s => rfl
 | m :: ms,k,s => by
  show (body k m s).bind _ = _
  rw [hb,Option.bind_some]
  unfold nO
  cases pL w m s with
  | inr u => rfl
  | inl s1 => exact aDi hb ms (k + 1) s1
def iV (w : bJ) : Nat → List aA → List aA ⊕ Unit
 | 0,sp => .inl sp
 | n + 1,sp => match nO w w.Meshes (false,sp) with
  | .inr u => .inr u
  | .inl (true,sp') => iV w n sp'
  | .inl (false,sp') => .inl sp'
theorem aCj {w : bJ} (hw : aCl w = true) : ∀ {n m : Nat} {sp : List aA},SpI w sp → uC sp < n → uC sp < m → iV w n sp = iV w m sp
 | 0,_,_,_,h,_ => by omega
 | _ + 1,0,_,_,_,h => by omega
 | n + 1,m + 1,sp,hs,h1,h2 => by
  unfold iV
  cases e : nO w w.Meshes (false,sp) with
  | inr u => rfl
  | inl s =>
   obtain ⟨b,sp'⟩ := s
   cases b with
   | false => rfl
   | true =>
    obtain ⟨h3,_,h5⟩ := xY hw (vV hw) (s := (false,sp)) hs e
    have h6 : uC sp' < uC sp := by
     rcases h5 rfl with h | h
     ·cases h
     ·exact h
    exact aCj hw h3 (by omega) (by omega)
def aSm (w : bJ) (s : Bool × List aA) : List aA ⊕ Unit := if s.1 = true then iV w (uC s.2 + 1) s.2 else .inl s.2
theorem aNx {w : bJ} (hw : aCl w = true) {S X : Type} {step : S → Option (S ⊕ X)} (mk : Bool × List aA → S) (un : S → Bool × List aA) (hun : ∀ s,un (mk s) = s) (good : List aA → X) (bad : List aA → X)
  (hbad : ∀ x y,bad x = bad y)
  (hT : ∀ sp,SpI w sp → step (mk (true,sp)) = some (match nO w w.Meshes (false,sp) with
   | .inr _ => .inr (bad sp)
   | .inl s' => .inl (mk s'))) (hF : ∀ sp,SpI w sp → step (mk (false,sp)) = some (.inr (good sp))) (sp : List aA) (h : SpI w sp) :
  cK step (mk (true,sp)) = some (match iV w (uC sp + 1) sp with
   | .inl sp' => good sp'
   | .inr _ => bad sp) := by
 refine aE1 (fun s => ∃ t : Bool × List aA,s = mk t ∧ SpI w t.2 ∧ aSm w t = iV w (uC sp + 1) sp) (fun s => 2 * uC (un s).2 + if (un s).1 = true then 1 else 0) (fun s hI => ?_) ⟨(true,sp),rfl,h,rfl⟩ ?_
 ·obtain ⟨⟨b,q⟩,rfl,hq,e⟩ := hI
  cases b with
  | false =>
   right
   rw [hF q hq]
   have e : Sum.inl q = iV w (uC sp + 1) sp := e
   rw [← e]
  | true =>
   rw [hT q hq]
   have e : iV w (uC q + 1) q = iV w (uC sp + 1) sp := e
   unfold iV at e
   cases er : nO w w.Meshes (false,q) with
   | inr u =>
    right
    rw [er] at e
    have e : Sum.inr u = iV w (uC sp + 1) sp := by unfold iV; exact e
    rw [← e]
    simp only [hbad q sp]
   | inl s' =>
    left
    obtain ⟨h3,h4,h5⟩ := xY hw (vV hw) (s := (false,q)) hq er
    refine ⟨_,rfl,⟨s',rfl,h3,?_⟩,?_⟩
    ·rw [er] at e
     obtain ⟨b,q'⟩ := s'
     cases b with
     | false => unfold iV; exact e
     | true =>
      have h6 : uC q' < uC q := by
       rcases h5 rfl with h | h
       ·cases h
       ·exact h
      have e : iV w (uC q) q' = iV w (uC sp + 1) sp := e.trans (by rw [iV])
      rw [← e]
      exact aCj hw h3 (by show uC q' < uC q' + 1; omega) h6
    ·simp only [hun]
     obtain ⟨b,q'⟩ := s'
     cases b with
     | false => dsimp only at h4 ⊢; simp; omega
     | true =>
      have h6 : uC q' < uC q := by
       rcases h5 rfl with h | h
       ·cases h
       ·exact h
      simp; omega
 ·simp only [hun]
  have : uC sp ≤ sp.length := List.countP_le_length
  have h1 := h.1
  have h2 := (qJ.1 hw).1
  simp; omega
def aS0 (w : bJ) (sp : List aA) (m : cY) : Bool := (eS (qL sp m.A) (jZ w m).Driver (jZ w m).Driven).2 && decide ((eS (qL sp m.A) (jZ w m).Driver (jZ w m).Driven).1 = qL sp m.B)
def start (w : bJ) (root : Int) : List aA := (List.replicate w.Arbors.length (⟨0,0⟩ : aA)).set root.toNat ⟨1,1⟩
def fW (w : bJ) (root : Int) : List aA × Int :=
 if sJ w root = true then (match iV w (uC (start w root) + 1) (start w root) with
  | .inr _ => ([],2)
  | .inl sp => if sp.any (fun r => decide (r.Den = 0)) = true then ([],6) else if w.Meshes.all (aS0 w sp) = true then (sp,0) else ([],10))
 else ([],2)
theorem aFr {w : bJ} (root : Int) : SpI w (start w root) := by
 refine SpI.set ⟨by simp,fun r hr => .inl (List.eq_of_mem_replicate hr)⟩ _ ⟨by decide,by decide⟩
theorem aCi {w : bJ} (hw : aCl w = true) : ∀ {n : Nat} {sp sp' : List aA},SpI w sp → iV w n sp = .inl sp' → SpI w sp'
 | 0,_,_,h,e => by injection e with e; subst e; exact h
 | n + 1,sp,sp',h,e => by
  unfold iV at e
  cases er : nO w w.Meshes (false,sp) with
  | inr u => rw [er] at e; cases e
  | inl s =>
   rw [er] at e
   obtain ⟨h3,_,_⟩ := xY hw (vV hw) (s := (false,sp)) h er
   obtain ⟨b,q⟩ := s
   cases b with
   | false => injection e with e; subst e; exact h3
   | true => exact aCi hw h3 e
theorem aLv {w : bJ} (hw : aCl w = true) {root : Int} (h : (fW w root).2 = 0) : (fW w root).1.length = w.Arbors.length ∧ ∀ r ∈ (fW w root).1,KnR r := by
 unfold fW at h ⊢
 split
 ·rename_i hr
  rw [if_pos hr] at h
  cases e : iV w (uC (start w root) + 1) (start w root) with
  | inr u => rw [e] at h; cases h
  | inl sp =>
   rw [e] at h
   have hs := aCi hw (aFr root) e
   dsimp only at h ⊢
   split
   ·rename_i hn; rw [if_pos hn] at h; cases h
   ·rename_i hn
    rw [if_neg hn] at h
    split
    ·refine ⟨hs.1,fun r hr => ?_⟩
     rcases hs.2 r hr with rfl | h
     ·exact absurd (List.any_eq_true.2 ⟨_,hr,decide_eq_true rfl⟩) hn
     ·exact h
    ·rename_i hf; rw [if_neg hf] at h; cases h
 ·rename_i hr; rw [if_neg hr] at h; cases h
end Go.Proofs.YtgcdbbidmfdonaaGreat
namespace Go.Proofs.YtgcdbbidmfdonaaGreat
set_option linter.unusedVariables false
theorem tB (x : aA × Bool) : (x.2 = true ∧ qE x = (x.1,0)) ∨ (x.2 = false ∧ qE x = (⟨0,0⟩,2)) := by
 unfold qE
 cases h : x.2
 ·exact .inr ⟨rfl,by simp⟩
 ·exact .inl ⟨rfl,by simp⟩
theorem aGr {w : bJ} {m : cY} {sp : List aA} (hm : tM w m = true) (h : SpI w sp) : 0 ≤ m.A ∧ m.A < sp.length ∧ 0 ≤ m.B ∧ m.B < sp.length := by
 obtain ⟨_,j1,j2⟩ := nI.1 hm
 have a := tZ j1
 have b := tZ j2
 rw [h.1]
 exact ⟨a.1,a.2.1,b.1,b.2.1⟩
theorem aS7 {n k : Nat} (h : n ≤ 16) (hk : k ≤ 2) : 0 ≤ (n : Int) ∧ (n : Int) = (n : Int) ∧ ((n : Int)).toNat * k * 64 ≤ 281474976710656 := by
 refine ⟨by omega,rfl,?_⟩
 have : (n : Int).toNat * k ≤ 16 * 2 := Nat.mul_le_mul (by omega) hk
 omega
theorem aLc {w : bJ} (hw : aCl w = true) (sp : List aA) (h : SpI w sp) :
  cK (S := Bool × Int × List aA) (X := (Bool × List aA) ⊕ ((List aA) ⊕ (List aA × Int))) (fun s41 =>
 (if s41.2.1 < (w.Meshes.length : Int) then
 ((((atI w.Meshes s41.2.1).bind fun v42 =>
 ((mQ w v42).bind fun v43 =>
 ((((atI s41.2.2 v42.A).bind fun v44 =>
 (if v44.Den = 0 then
 some (v42.B,v42.A,(⟨v43.Driven,v43.Driver⟩ : bE))
 else
 some (v42.A,v42.B,v43))) : Option (Int × Int × bE)).bind fun v45 =>
 ((((atI s41.2.2 v45.1).bind fun v46 =>
 (if v46.Den = 0 then
 some true
 else
 ((atI s41.2.2 v45.2.1).bind fun v47 =>
 some (decide (v47.Den ≠ 0))))) : Option Bool).bind fun v48 =>
 (if v48 = true then
 some (.inl (s41.1,s41.2.2))
 else
 ((atI s41.2.2 v45.1).bind fun v49 =>
 ((mP v49 v45.2.2.Driver v45.2.2.Driven).bind fun v50 =>
 (if v50.2 ≠ 0 then
 some (.inr (.inr (.inr (.inr (([] : List aA),v50.2)))))
 else
 ((atI s41.2.2 v45.2.1).bind fun v51 =>
 some (.inl (true,List.set s41.2.2 (v45.2.1).toNat v50.1))))))))))) : Option ((Bool × List aA) ⊕ ((Bool × Int × List aA) ⊕ ((Bool × List aA) ⊕ ((List aA) ⊕ (List aA × Int)))))).bind fun v52x => orE v52x fun v52 =>
 some (.inl (v52.1,w64 (s41.2.1 + 1),v52.2)))
 else
 some (.inr (.inl (s41.1,s41.2.2))))) (false,0,sp) = some (match nO w w.Meshes (false,sp) with
  | .inl s' => .inl s'
  | .inr _ => .inr (.inr ([],2))) := by
 have hl := (qJ.1 hw).2.1
 rw [aBy (xs := w.Meshes) (fun i (s : Bool × List aA) => (s.1,i,s.2)) (fun _ m s => some (Sum.map id (fun _ => .inr (.inr ([],2))) (pL w m s))) (fun s => .inl s) (fun s => SpI w s.2) (by omega) (fun i hi s hs => ?_) (fun i hi s s' hs e => ?_) (fun s hs => by simp) (false,sp) h]
 ·rw [aDi (w := w) (X := (Bool × List aA) ⊕ ((List aA) ⊕ (List aA × Int))) (g := fun _ => .inr (.inr ([],2))) (fun _ _ _ => rfl)]
  cases nO w w.Meshes (false,sp) <;> rfl
 ·have hi' : (i : Int) < w.Meshes.length := by omega
  have e1 : w64 ((i : Int) + 1) = i + 1 := aS (by omega) (by omega)
  have hj := vV hw _ (List.getElem_mem hi)
  simp only [if_pos hi',dP hi,Option.bind_some,e1,aBt hj]
  generalize w.Meshes[i] = m at hj
  obtain ⟨_,j1,j2⟩ := nI.1 hj
  have ta := vT hw j1
  have tb := vT hw j2
  obtain ⟨a0,a1,b0,b1⟩ := aGr hj hs
  obtain ⟨ga,_,_⟩ := wH a0 a1
  obtain ⟨gb,_,_⟩ := wH b0 b1
  have a1' : m.A < w.Arbors.length := by rw [← hs.1]; exact a1
  have b1' : m.B < w.Arbors.length := by rw [← hs.1]; exact b1
  unfold pL
  simp only [ga,Option.bind_some]
  by_cases dA : (qL s.2 m.A).Den = 0
  ·simp only [if_pos dA,Option.bind_some,gb]
   by_cases dB : (qL s.2 m.B).Den = 0
   ·simp only [if_pos dB,dA,dB,Option.bind_some,if_true]; rfl
   ·have k := hs.den b0 b1' dB
    simp only [if_neg dB,ga,gb,dA,dB,Option.bind_some]
    rw [wN k (t := (jZ w m).Driven) (u := (jZ w m).Driver) tb.1 tb.2 ta.1 ta.2]
    rcases tB (eS (qL s.2 m.B) (jZ w m).Driven (jZ w m).Driver) with ⟨h1,h2⟩ | ⟨h1,h2⟩ <;> simp [h1,h2,orE]
  ·simp only [if_neg dA,Option.bind_some,ga,gb]
   by_cases dB : (qL s.2 m.B).Den = 0
   ·have k := hs.den a0 a1' dA
    simp only [ga,gb,dA,dB,Option.bind_some,if_false,ne_eq,not_true_eq_false,decide_false,Bool.false_eq_true]
    rw [wN k (t := (jZ w m).Driver) (u := (jZ w m).Driven) ta.1 ta.2 tb.1 tb.2]
    rcases tB (eS (qL s.2 m.A) (jZ w m).Driver (jZ w m).Driven) with ⟨h1,h2⟩ | ⟨h1,h2⟩ <;> simp [h1,h2,orE]
   ·simp [dA,dB,orE]
 ·have e : pL w w.Meshes[i] s = .inl s' := by
   cases e2 : pL w w.Meshes[i] s with
   | inr u => rw [e2] at e; cases e
   | inl z => rw [e2] at e; injection e with e; injection e with e; rw [← e]; rfl
  exact (aKl hw (vV hw _ (List.getElem_mem hi)) hs e).1
theorem aBu {w : bJ} (hw : aCl w = true) {root : Int} (hr : sJ w root = true) : lG w root = some (match iV w (uC (start w root) + 1) (start w root) with
  | .inl sp => (sp,0)
  | .inr _ => ([],2)) := by
 have hl := (qJ.1 hw).1
 have hr := of_decide_eq_true hr
 unfold lG
 rw [iN (aS7 hl (by omega))]
 simp only [Int.toNat_natCast]
 obtain ⟨e,he,_,_⟩ := sZ (xs := List.replicate w.Arbors.length (⟨0,0⟩ : aA)) hr.1 (by rw [List.length_replicate]; exact hr.2)
 rw [he,Option.bind_some]
 have := aNx hw (S := Bool × List aA) (X := (List aA) ⊕ (List aA × Int)) (step := fun s28 => (if s28.1 = true then cK (S := Bool × Int × List aA) (X := (Bool × List aA) ⊕ ((List aA) ⊕ (List aA × Int))) (fun s41 =>
 (if s41.2.1 < (w.Meshes.length : Int) then
 ((((atI w.Meshes s41.2.1).bind fun v42 =>
 ((mQ w v42).bind fun v43 =>
 ((((atI s41.2.2 v42.A).bind fun v44 =>
 (if v44.Den = 0 then
 some (v42.B,v42.A,(⟨v43.Driven,v43.Driver⟩ : bE))
 else
 some (v42.A,v42.B,v43))) : Option (Int × Int × bE)).bind fun v45 =>
 ((((atI s41.2.2 v45.1).bind fun v46 =>
 (if v46.Den = 0 then
 some true
 else
 ((atI s41.2.2 v45.2.1).bind fun v47 =>
 some (decide (v47.Den ≠ 0))))) : Option Bool).bind fun v48 =>
 (if v48 = true then
 some (.inl (s41.1,s41.2.2))
 else
 ((atI s41.2.2 v45.1).bind fun v49 =>
 ((mP v49 v45.2.2.Driver v45.2.2.Driven).bind fun v50 =>
 (if v50.2 ≠ 0 then
 some (.inr (.inr (.inr (.inr (([] : List aA),v50.2)))))
 else
 ((atI s41.2.2 v45.2.1).bind fun v51 =>
 some (.inl (true,List.set s41.2.2 (v45.2.1).toNat v50.1))))))))))) : Option ((Bool × List aA) ⊕ ((Bool × Int × List aA) ⊕ ((Bool × List aA) ⊕ ((List aA) ⊕ (List aA × Int)))))).bind fun v52x => orE v52x fun v52 =>
 some (.inl (v52.1,w64 (s41.2.1 + 1),v52.2)))
 else
 some (.inr (.inl (s41.1,s41.2.2))))) (false,0,s28.2) else some (.inr (.inl s28.2)))) (fun s => s) (fun s => s) (fun _ => rfl) (fun sp => .inl sp) (fun _ => .inr ([],2)) (fun _ _ => rfl) (fun sp h => by
  simp only [if_true]
  rw [aLc hw sp h]
  cases nO w w.Meshes (false,sp) <;> rfl) (fun sp h => by simp) (start w root) (aFr root)
 unfold start at this
 unfold start
 rw [this,Option.bind_some]
 cases iV w (uC ((List.replicate w.Arbors.length (⟨0,0⟩ : aA)).set root.toNat ⟨1,1⟩) + 1) ((List.replicate w.Arbors.length (⟨0,0⟩ : aA)).set root.toNat ⟨1,1⟩) <;> rfl
theorem xI {w : bJ} (hl : w.Arbors.length ≤ 9223372036854775807) (hws : ∀ b ∈ w.Arbors,b.Wheels.length ≤ 9223372036854775807) (hm : w.Meshes.length ≤ 9223372036854775807) (root : Int) : mM w root = some (if aCl w = true then fW w root else ([],1)) := by
 unfold mM fW
 rw [uM hl hws hm,Option.bind_some]
 by_cases hw : aCl w = true
 ·have e0 : btw root 0 (w64 ((w.Arbors.length : Int) - 1)) = sJ w root := wF hl
  have hml := (qJ.1 hw).2.1
  rw [if_pos hw,hw,fV,e0,Option.bind_some]
  by_cases hr : sJ w root = true
  ·rw [if_pos hr,hr,aBu hw hr]
   cases e : iV w (uC (start w root) + 1) (start w root) with
   | inr u => rfl
   | inl sp =>
    have hs := aCi hw (aFr root) e
    have hsl := hs.1
    have hal := (qJ.1 hw).1
    simp only [Bool.not_true,Bool.false_eq_true,if_false,Option.bind_some,ne_eq,not_true_eq_false]
    have hc : bZ sp = some (sp.any fun r => decide (r.Den = 0)) := by
     unfold bZ cT
     rw [aPp (fun r => decide (r.Den = 0)) (by omega) fun i hi => by rw [dP hi,Option.bind_some,oT,Option.bind_some],Option.bind_some,aE6]
    rw [hc,Option.bind_some]
    by_cases hn : (sp.any fun r => decide (r.Den = 0)) = true
    ·rw [if_pos hn,if_pos hn]
    ·rw [if_neg hn,if_neg hn,wQ (e := .inr ([],10)) (fun _ m => aS0 w sp m) hm fun i hi => ?_,qD,Option.bind_some]
     ·cases w.Meshes.all (aS0 w sp) <;> rfl
     ·have hj := vV hw _ (List.getElem_mem hi)
      simp only [dP hi,Option.bind_some,aBt hj]
      generalize w.Meshes[i] = m at hj
      obtain ⟨_,j1,j2⟩ := nI.1 hj
      have ta := vT hw j1
      have tb := vT hw j2
      obtain ⟨a0,a1,b0,b1⟩ := aGr hj hs
      obtain ⟨ga,gm,_⟩ := wH a0 a1
      obtain ⟨gb,_,_⟩ := wH b0 b1
      have k : KnR (qL sp m.A) := by
       rcases hs.2 _ gm with e | h
       ·exact absurd (List.any_eq_true.2 ⟨_,gm,decide_eq_true (by rw [e])⟩) hn
       ·exact h
      rw [ga,Option.bind_some,wN k (t := (jZ w m).Driver) (u := (jZ w m).Driven) ta.1 ta.2 tb.1 tb.2,gb]
      unfold aS0
      rcases tB (eS (qL sp m.A) (jZ w m).Driver (jZ w m).Driven) with ⟨h1,h2⟩ | ⟨h1,h2⟩
      ·by_cases q : (eS (qL sp m.A) (jZ w m).Driver (jZ w m).Driven).1 = qL sp m.B <;> simp [h1,h2,q]
      ·simp [h1,h2]
  ·rw [if_neg hr,Bool.not_eq_true] at *
   rw [hr]; rfl
 ·rw [if_neg hw,Bool.not_eq_true] at *
  rw [hw]; rfl
def knS (sp : List aA) : List Bool := sp.map fun r => decide (r.Den ≠ 0)
end Go.Proofs.YtgcdbbidmfdonaaGreat
namespace Go.Proofs.YtgcdbbidmfdonaaGreat
set_option linter.unusedVariables false
def kX (m : aV) (k : Int) : aA × Int := if wT m = true then (if (fW m.Works m.Minute).2 = 0 then (if sJ m.Works k = true then (qL (fW m.Works m.Minute).1 k,0) else (⟨0,0⟩,2)) else (⟨0,0⟩,6)) else (⟨0,0⟩,1)
theorem aAv {m : aV} (h : wT m = true) : aCl m.Works = true ∧ sJ m.Works m.Minute = true ∧ sJ m.Works m.Hour = true ∧ sJ m.Works m.Escape = true := by
 unfold wT at h
 simp only [Bool.and_eq_true] at h
 exact ⟨h.2.1,h.2.2.1,h.2.2.2.1,h.2.2.2.2.1⟩
theorem vS {m : aV} {k : Int} (hw : aCl m.Works = true) (hs : (fW m.Works m.Minute).2 = 0) (hk : sJ m.Works k = true) : atI (fW m.Works m.Minute).1 k = some (qL (fW m.Works m.Minute).1 k) ∧ KnR (qL (fW m.Works m.Minute).1 k) := by
 have h1 := aLv hw hs
 have h2 := of_decide_eq_true hk
 obtain ⟨g,gm,_⟩ := wH (sp := (fW m.Works m.Minute).1) h2.1 (by rw [h1.1]; exact h2.2)
 exact ⟨g,h1.2 _ gm⟩
theorem uL {m : aV} (h : eX m) (k : Int) : kC m k = some (kX m k) := by
 unfold kC kX
 obtain ⟨w1,w2,w3⟩ := smW h.2.1
 rw [rU h,Option.bind_some]
 by_cases hv : wT m = true
 ·obtain ⟨hw,_⟩ := aAv hv
  rw [if_pos hv,hv,xI w1 w2 w3,if_pos hw]
  simp only [Bool.not_true,Bool.false_eq_true,if_false,Option.bind_some]
  by_cases hs : (fW m.Works m.Minute).2 = 0
  ·rw [if_neg (by simp [hs]),if_pos hs,zN w1,Option.bind_some]
   by_cases hk : sJ m.Works k = true
   ·rw [if_pos hk,hk,(vS hw hs hk).1]; rfl
   ·rw [if_neg hk,Bool.not_eq_true] at *
    rw [hk]; rfl
  ·rw [if_pos hs,if_neg hs]
 ·rw [if_neg hv,Bool.not_eq_true] at *
  rw [hv]; rfl
theorem aHo {m : aV} {k : Int} (h : (kX m k).2 = 0) : KnR (kX m k).1 := by
 unfold kX at h ⊢
 by_cases hv : wT m = true
 ·rw [if_pos hv] at h ⊢
  by_cases hs : (fW m.Works m.Minute).2 = 0
  ·rw [if_pos hs] at h ⊢
   by_cases hk : sJ m.Works k = true
   ·rw [if_pos hk]; exact (vS (aAv hv).1 hs hk).2
   ·rw [if_neg hk] at h; cases h
  ·rw [if_neg hs] at h; cases h
 ·rw [if_neg hv] at h; cases h
def aIn (m : aV) (k : Int) : aA × Int := if (kX m k).2 = 0 then (⟨(kX m k).1.Den,dD (kX m k).1.Num⟩,0) else (⟨0,0⟩,(kX m k).2)
theorem aEo {a b : aA} (ha : qG a = true) (hb : qG b = true) : pE a b = some (vW (a.Num * b.Den) (a.Den * b.Num)) := by
 unfold pE
 obtain ⟨d0,d1,n0,n1⟩ := gS ha
 obtain ⟨e0,e1,m0,m1⟩ := gS hb
 have h1 := qZ (a := a.Num) (b := b.Den) (A := 1000000000) (B := 1000000000) n0 n1 (by omega) e1
 have h2 := qZ (a := a.Den) (b := b.Num) (A := 1000000000) (B := 1000000000) (by omega) d1 m0 m1
 simp only [fM,ha,hb,Option.bind_some,Bool.not_true,Bool.false_eq_true,if_false]
 rw [aS (by omega) (by omega),aS (by omega) (by omega),fZ ⟨by omega,by omega⟩ ⟨by omega,by omega⟩,Option.bind_some]
theorem aEp {m : aV} (h : eX m) (k : Int) : mL m k = some (aIn m k) := by
 unfold mL aIn
 rw [uL h,Option.bind_some]
 by_cases hs : (kX m k).2 = 0
 ·rw [if_neg (by simp [hs]),if_pos hs]
  have hk := aHo hs
  generalize (kX m k).1 = v at hk
  obtain ⟨hv,hn⟩ := hk
  obtain ⟨d0,d1,n0,n1⟩ := gS hv
  have hg := (jW.1 hv).2.2
  have a0 : 1 ≤ dD v.Num ∧ dD v.Num ≤ 1000000000 := by unfold dD; omega
  have hb : qG ⟨dD v.Num,v.Den⟩ = true := jW.2 ⟨⟨d0,d1⟩,⟨by dsimp only; omega,a0.2⟩,by rw [← hg]; unfold dD Int.gcd; simp⟩
  have hc : qG ⟨v.Den,dD v.Num⟩ = true := jW.2 ⟨a0,⟨by dsimp only; omega,d1⟩,by rw [← hg]; unfold dD Int.gcd; simp [Nat.gcd_comm]⟩
  rw [xJ (by omega) (by omega),Option.bind_some,aEo (by decide) hb,Option.bind_some]
  dsimp only
  rw [Int.one_mul,Int.one_mul]
  unfold vW qE
  have e := aJ6 hc
  dsimp only at e
  rw [if_neg (by omega),e,if_pos rfl]
 ·rw [if_pos hs,if_neg hs]
def aMp (x : aA) : aA × Bool := mkR (x.Num - x.Num / x.Den * x.Den) x.Den
def atR (v : aA) (s : Int) : aA × Bool := if (aFy v (mkR s 3600).1).2 = true then aMp (aFy v (mkR s 3600).1).1 else (⟨0,0⟩,false)
def aAk (m : aV) (k s : Int) : aA × Int := if (kX m k).2 = 0 then (if btw s 0 1000000000 = true then qE (atR (kX m k).1 s) else (⟨0,0⟩,2)) else (⟨0,0⟩,(kX m k).2)
theorem aPq {x : aA} (h : qG x = true) : -1000000000 ≤ x.Num / x.Den ∧ x.Num / x.Den ≤ 1000000000 ∧ -1000000000000000000 ≤ x.Num / x.Den * x.Den ∧ x.Num / x.Den * x.Den ≤ 1000000000000000000 := by
 obtain ⟨d0,d1,n0,n1⟩ := gS h
 have h1 := aEj d0 (L := 1000000000) (by omega) n0 n1
 have h2 := qZ (a := x.Num / x.Den) (b := x.Den) (A := 1000000000) (B := 1000000000) h1.1 h1.2 (by omega) d1
 omega
theorem aBl {x : aA} (h : qG x = true) : lE x = some (x.Num / x.Den) := by
 obtain ⟨d0,d1,n0,n1⟩ := gS h
 unfold lE
 rw [fM,h,Option.bind_some,if_neg (by decide),aEw d0 (by omega) (by omega),Option.bind_some]
theorem aMw {x : aA} (h : qG x = true) : kD x ⟨x.Num / x.Den,1⟩ = some (qE (aMp x)) := by
 obtain ⟨d0,d1,n0,n1⟩ := gS h
 obtain ⟨f0,f1,f2,f3⟩ := aPq h
 have hb : qG ⟨x.Num / x.Den,1⟩ = true := jW.2 ⟨⟨by show (1 : Int) ≤ 1; omega,by show (1 : Int) ≤ 1000000000; omega⟩,⟨f0,f1⟩,by simp⟩
 unfold kD
 simp only [fM,h,hb,Option.bind_some,Bool.not_true,Bool.false_eq_true,if_false,Int.mul_one]
 rw [aS (x := x.Num) (by omega) (by omega),aS (x := x.Num / x.Den * x.Den) (by omega) (by omega),aS (x := x.Den) (by omega) (by omega),aS (by omega) (by omega),fZ ⟨by omega,by omega⟩ ⟨by omega,by omega⟩,Option.bind_some]
 unfold vW aMp
 rw [if_neg (by omega)]
theorem zJ {m : aV} (h : eX m) (k s : Int) : kB m k s = some (aAk m k s) := by
 unfold kB aAk
 rw [uL h,Option.bind_some]
 by_cases hs : (kX m k).2 = 0
 ·rw [if_neg (by simp [hs]),if_pos hs,fV,Option.bind_some]
  by_cases hb : btw s 0 1000000000 = true
  ·rw [if_pos hb,hb,if_neg (by decide)]
   have hk := aHo hs
   generalize (kX m k).1 = v at hk
   have hq := of_decide_eq_true hb
   have h2 := lI (n := s) (d := 3600) (by omega) (by omega) (by omega) (by omega) (by omega)
   have h3 := (qB (n := s) (d := 3600) (by omega) h2).1
   have e1 : vW s 3600 = ((mkR s 3600).1,0) := by unfold vW qE; rw [if_neg (by omega),if_pos h2]
   rw [fZ ⟨by omega,by omega⟩ ⟨by omega,by omega⟩,Option.bind_some,e1]
   simp only [ne_eq,not_true_eq_false,if_false]
   rw [tF hk.1 h3,Option.bind_some]
   unfold atR
   rcases tB (aFy v (mkR s 3600).1) with ⟨g1,g2⟩ | ⟨g1,g2⟩
   ·have hx := (aJ8 hk.1 h3 g1).1
    rw [g2,g1]
    simp only [ne_eq,not_true_eq_false,if_false,if_true]
    rw [aBl hx,Option.bind_some,aMw hx,Option.bind_some]
   ·rw [g2,g1]; rfl
  ·rw [if_neg hb,Bool.not_eq_true] at *
   rw [hb]; rfl
 ·rw [if_pos hs,if_neg hs]
end Go.Proofs.YtgcdbbidmfdonaaGreat
namespace Go.Proofs.YtgcdbbidmfdonaaGreat
set_option linter.unusedVariables false
def aNl : ByteArray := ⟨#[119,111,114,107,115]⟩
def aQ5 : ByteArray := ⟨#[104,111,117,114]⟩
def aNk : ByteArray := ⟨#[98,101,97,116,115]⟩
def aR3 : ByteArray := ⟨#[99,97,109]⟩
def aTn : ByteArray := ⟨#[109,111,118,101,109,101,110,116]⟩
def aJk (m : aV) (v : aA) : Bool := decide (w64 (w64 (2 * m.Teeth) * dD v.Num) = w64 (m.Beats * v.Den))
def tC (m : aV) : List ByteArray :=
 (if (fW m.Works m.Minute).2 = 0 then (if qL (fW m.Works m.Minute).1 m.Hour = ⟨1,12⟩ then [] else [aQ5]) ++ (if aJk m (qL (fW m.Works m.Minute).1 m.Escape) = true then [] else [aNk]) else [aNl]) ++ (if (m.Cam.length : Int) % m.Calendar.Months.length = 0 then [] else [aR3])
theorem aE3 {m : aV} (h : wT m = true) : sB m.Calendar = true ∧ aJn m.Cam = true := by
 unfold wT at h
 simp only [Bool.and_eq_true] at h
 exact ⟨h.2.2.2.2.2.2.2.1,h.2.2.2.2.2.2.2.2.1⟩
theorem aJj {c : aI} {cam : List Int} (h1 : sB c = true) (h2 : aJn cam = true) : aFx c cam = if (cam.length : Int) % c.Months.length = 0 then 0 else 6 := by
 unfold aFx; rw [h1,h2]; rfl
theorem wI {m : aV} (h : eX m) : fR m = some (if wT m = true then tC m else [aTn]) := by
 unfold fR tC
 obtain ⟨w1,w2,w3⟩ := smW h.2.1
 have hcl : m.Cam.length ≤ 1048576 := h.2.2.2.2.2.2.2.2.1.1
 rw [rU h,Option.bind_some]
 by_cases hv : wT m = true
 ·obtain ⟨hw,k1,k2,k3⟩ := aAv hv
  obtain ⟨c1,c2⟩ := aE3 hv
  have cm := (fG c1).2.1
  have hbel : ∀ (x y : Option (List ByteArray)),((kE m.Calendar m.Cam).bind fun v11 => if v11 = 0 then x else y) = if (m.Cam.length : Int) % m.Calendar.Months.length = 0 then y else x := by
   intro x y
   rw [uN cm.1 (by omega),Option.bind_some]
   by_cases h0 : (m.Cam.length : Int) % m.Calendar.Months.length = 0
   ·have := sY (c := m.Calendar) (cam := m.Cam) (by rw [aJj c1 c2,if_pos h0])
    rw [if_pos h0,if_neg (by omega),if_pos h0]
   ·rw [if_neg h0,if_pos rfl,if_neg h0]
  rw [if_pos hv,hv,xI w1 w2 w3,if_pos hw]
  simp only [Bool.not_true,Bool.false_eq_true,if_false,Option.bind_some,hbel]
  by_cases hs : (fW m.Works m.Minute).2 = 0
  ·have s2 := vS hw hs k2
   have s3 := vS hw hs k3
   have d3 := gS s3.2.1
   rw [if_neg (by simp [hs]),if_pos hs,s2.1,s3.1]
   simp only [Option.bind_some]
   rw [xJ (by omega) (by omega)]
   simp only [Option.bind_some]
   unfold aJk aQ5 aNk aR3
   by_cases b1 : qL (fW m.Works m.Minute).1 m.Hour = ⟨1,12⟩ <;> by_cases b2 : w64 (w64 (2 * m.Teeth) * dD (qL (fW m.Works m.Minute).1 m.Escape).Num) = w64 (m.Beats * (qL (fW m.Works m.Minute).1 m.Escape).Den) <;> by_cases b3 : (m.Cam.length : Int) % m.Calendar.Months.length = 0 <;> simp [b1,b2,b3,chk]
  ·rw [if_pos hs,if_neg hs]
   unfold aNl aR3
   by_cases b3 : (m.Cam.length : Int) % m.Calendar.Months.length = 0 <;> simp [b3,chk]
 ·rw [if_neg hv,Bool.not_eq_true] at *
  rw [hv]; rfl
theorem aAn {α : Type} {xs : List α} {k : Nat} (hl : xs.length ≤ 1048576) (hk : k ≤ 100) : (chk ((([] : List α).length + xs.length) * k * 64 ≤ 140737488355328) (some (([] : List α) ++ xs))) = some xs := by
 rw [iN ?_,List.nil_append]
 have : (([] : List α).length + xs.length) * k ≤ 1048576 * 100 := Nat.mul_le_mul (by simpa using hl) hk
 omega
theorem aCw {w : bJ} (h : aAz w) : nH w = some w := by
 unfold nH
 have hl := h.1.1
 rw [xA (xs := w.Arbors) (f := fun a => [a]) (c := 1) (fun v _ => by simp) (fun i hi ys hy => ?_) (fun ys => by simp) (by omega)]
 ·simp only [Option.bind_some]
  unfold fK
  rw [aAn h.2.1 (by omega)]
  simp
 ·have hi' : (i : Int) < w.Arbors.length := by omega
  have hw := (h.1.2 _ (List.getElem_mem hi)).2.1
  simp only [if_pos hi',dP hi,Option.bind_some,aS (x := (i : Int) + 1) (by omega) (by omega)]
  first | unfold cN | unfold slices_Clone_Lint64_int64_v_m
  rw [aAn hw (by omega),Option.bind_some,iN (by simp at hy ⊢; omega)]
theorem yY {m : aV} (h : eX m) : jL m = some m := by
 unfold jL
 rw [aCw h.2.1,Option.bind_some]
 unfold eW dY
 rw [aAn h.2.2.2.2.2.2.2.1.2.1.1 (by omega),Option.bind_some,aAn h.2.2.2.2.2.2.2.1.2.2.1.1 (by omega),Option.bind_some,aJy h.2.2.2.2.2.2.2.2.1.1,Option.bind_some]
def aFv : aV := ⟨⟨#[]⟩,⟨[],[]⟩,0,0,0,0,0,⟨⟨#[]⟩,[],[],0⟩,[],0⟩
def aUc : qK := ⟨[],0,0,0,0,0,0⟩
def aUd : aV9 := ⟨aFv,⟨0,0,0⟩,0,0,aUc⟩
end Go.Proofs.YtgcdbbidmfdonaaGreat
namespace Go.Proofs.YtgcdbbidmfdonaaGreat
set_option linter.unusedVariables false
def yrs (c : aI) : Nat := 10000 + 0 * c.Months.length
theorem aUb (c : aI) : yrs c = 10000 := by unfold yrs; omega
def aWa (c : aI) : Int := bef c (yrs c)
def aQu (c : aI) (day : Int) (s : Int × aO2) : Prop := s.2.Month = 1 ∧ s.2.Day = 0 ∧ 0 ≤ s.2.Year ∧ 0 ≤ s.1 ∧ bef c s.2.Year.toNat + s.1 = day
theorem aQu.bd {c : aI} (h : sB c = true) {day : Int} {s : Int × aO2} (hs : aQu c day s) (hd : day < aWa c) : s.2.Year ≤ 9999 ∧ s.1 ≤ 12000000 := by
 obtain ⟨_,_,h3,h4,h5⟩ := hs
 have f := (aQz h (yrs c)).2
 have g := (aQz h s.2.Year.toNat).1
 have y := aUb c
 unfold aWa at hd
 refine ⟨?_,by omega⟩
 refine Classical.byContradiction fun hn => ?_
 have := aPc h (m := yrs c) (n := s.2.Year.toNat) (by omega)
 omega
end Go.Proofs.YtgcdbbidmfdonaaGreat
namespace Go.Proofs.YtgcdbbidmfdonaaGreat
set_option linter.unusedVariables false
end Go.Proofs.YtgcdbbidmfdonaaGreat
namespace Go.Proofs.YtgcdbbidmfdonaaGreat
set_option linter.unusedVariables false
section
variable {α : Type} (f : Int → α → α × Int)
end
section
variable {α : Type} {f : Int → α → α × Int} {sm : α → Prop} {C : Int}
end
end Go.Proofs.YtgcdbbidmfdonaaGreat
namespace Go.Proofs.YtgcdbbidmfdonaaGreat
open Go.RowKit
set_option linter.unusedVariables false
set_option maxRecDepth 100000
set_option maxHeartbeats 2000000
end Go.Proofs.YtgcdbbidmfdonaaGreat
namespace Go.Proofs.YtgcdbbidmfdonaaGreat
set_option linter.unusedVariables false
theorem aQs : aRa aUd := by
 unfold aUd aFv aUc aRa eX aAz rN aAb aOg smL smS
 simp [ByteArray.size]
end Go.Proofs.YtgcdbbidmfdonaaGreat
namespace Go.Proofs.YtgcdbbidmfdonaaGreat
set_option linter.unusedVariables false
def aLe (p q : qK) : Prop := q.Cam = p.Cam ∧ q.Months = p.Months ∧ q.Teeth = p.Teeth ∧ q.Week = p.Week
theorem aLe.refl (p : qK) : aLe p p := ⟨rfl,rfl,rfl,rfl⟩
theorem aLe.trans {p q r : qK} (h : aLe p q) (k : aLe q r) : aLe p r := ⟨k.1.trans h.1,k.2.1.trans h.2.1,k.2.2.1.trans h.2.2.1,k.2.2.2.trans h.2.2.2⟩
theorem aIf {m : aV} (h : wT m = true) : 0 ≤ m.Strike ∧ m.Strike ≤ 2 := by
 unfold wT at h
 simp only [Bool.and_eq_true] at h
 exact of_decide_eq_true h.2.2.2.2.2.2.2.2.2
def aAh (c : aI) (cam : List Int) (y m : Int) : Int := y % ((cam.length : Int) / c.Months.length) * c.Months.length + m - 1
theorem aRr {c : aI} {cam : List Int} (ha : aFx c cam = 0) : (cam.length : Int) / c.Months.length * c.Months.length = cam.length := by
 obtain ⟨_,_,h,_⟩ := sY ha
 exact Int.ediv_mul_cancel (Int.dvd_of_emod_eq_zero h)
theorem aE4 {c : aI} {cam : List Int} (ha : aFx c cam = 0) {y m : Int} (h1 : 1 ≤ m) (h2 : m ≤ c.Months.length) : 0 ≤ aAh c cam y m ∧ aAh c cam y m < cam.length ∧ 0 ≤ y % ((cam.length : Int) / c.Months.length) * c.Months.length ∧ y % ((cam.length : Int) / c.Months.length) * c.Months.length ≤ cam.length - c.Months.length ∧ aAh c cam y m % c.Months.length = m - 1 := by
 obtain ⟨_,_,h,k1,k2⟩ := sY ha
 have e := aRr ha
 unfold aAh
 have a1 := Int.emod_nonneg y (show (cam.length : Int) / c.Months.length ≠ 0 by omega)
 have a2 := Int.emod_lt_of_pos y (show 0 < (cam.length : Int) / c.Months.length by omega)
 generalize y % ((cam.length : Int) / c.Months.length) = q at *
 generalize (cam.length : Int) / c.Months.length = k at *
 have b1 : 0 ≤ q * (c.Months.length : Int) := Int.mul_nonneg a1 (by omega)
 have b2 : q * (c.Months.length : Int) ≤ (k - 1) * c.Months.length := Int.mul_le_mul_of_nonneg_right (by omega) (by omega)
 rw [Int.sub_mul,e] at b2
 refine ⟨by omega,by omega,b1,by omega,?_⟩
 rw [show q * (c.Months.length : Int) + m - 1 = (m - 1) + q * (c.Months.length : Int) by omega,Int.add_mul_emod_self_right]
 exact Int.emod_eq_of_lt (by omega) (by omega)
end Go.Proofs.YtgcdbbidmfdonaaGreat
namespace Go.Proofs.YtgcdbbidmfdonaaGreat
set_option linter.unusedVariables false
end Go.Proofs.YtgcdbbidmfdonaaGreat
namespace Go.Proofs.YtgcdbbidmfdonaaGreat
set_option linter.unusedVariables false
set_option maxRecDepth 100000
def aOz (n : Int) : ByteArray := ⟨(Lib.itoa n).toArray⟩
theorem aMh {n : Int} (h : osI n) : (aOz n).size ≤ 21 := by
 have := Lib.itoa_length_le n h.1 h.2
 simpa [aOz,ByteArray.size] using this
def dgs (u : Nat) : List Int := if h : u = 0 then [] else dgs (u / 10) ++ [48 + ((u % 10 : Nat) : Int)]
termination_by u
decreasing_by omega
theorem xE : dgs 0 = [] := by rw [dgs,dif_pos rfl]
theorem aEi {u : Nat} (h : u ≠ 0) : dgs u = dgs (u / 10) ++ [48 + ((u % 10 : Nat) : Int)] := by rw [dgs,dif_neg h]
theorem aRf (d : Nat) (h : d < 10) : UInt8.ofNat (48 + (d : Int)).toNat = 48 + UInt8.ofNat d := by
 rw [show (48 + (d : Int)).toNat = 48 + d by omega,UInt8.ofNat_add]
 rfl
theorem aRu : ∀ (u : Nat),u ≠ 0 → (strOfNums (dgs u)).data.toList = Lib.decDigits u := by
 intro u
 induction u using Nat.strongRecOn with
 | _ u ih =>
  intro h
  rw [aEi h,Lib.decDigits]
  by_cases h1 : u < 10
  ·rw [dif_pos h1,show u / 10 = 0 by omega,xE,show u % 10 = u by omega]
   simp [strOfNums]
   exact aRf u (by omega)
  ·rw [dif_neg h1, ← ih (u / 10) (by omega) (by omega)]
   simp [strOfNums]
   exact aRf (u % 10) (by omega)
theorem aH5 : ∀ (k u : Nat),u < 10 ^ k → (dgs u).length ≤ k
 | 0,u,h => by
  have : u = 0 := by simpa using h
  subst this
  rw [xE]; exact Nat.le_refl _
 | k + 1,u,h => by
  by_cases h0 : u = 0
  ·subst h0; rw [xE]; exact Nat.zero_le _
  ·rw [aEi h0,List.length_append]
   have := aH5 k (u / 10) (by rw [Nat.pow_succ] at h; omega)
   simp; omega
theorem aCa {n : Int} (hn : osI n) : oG n = some (aOz n) := by
 obtain ⟨h0,h1⟩ := hn
 unfold oG
 rw [aE1 (x := dgs n.natAbs) (fun s : Int × List Int => osI s.1 ∧ dgs s.1.natAbs ++ s.2 = dgs n.natAbs) (fun s => s.1.natAbs) (fun s hs => ?_) (s0 := (n,[])) ⟨⟨h0,h1⟩,by simp⟩ (by dsimp only; omega)]
 ·simp only [Option.bind_some]
  by_cases hz : n = 0
  ·subst hz
   rw [Int.natAbs_zero,xE,if_pos (by simp)]
   simp [aOz,Lib.itoa,Lib.decDigits]
  ·have hp : n.natAbs ≠ 0 := by omega
   have hl : (dgs n.natAbs).length ≠ 0 := by rw [aEi hp]; simp
   have hL := aH5 19 n.natAbs (by omega)
   have e := aRu n.natAbs hp
   have es : strOfNums (dgs n.natAbs) = ⟨(Lib.decDigits n.natAbs).toArray⟩ := by rw [← e]
   rw [if_neg (by omega)]
   split
   ·rename_i hneg
    rw [iN (by simp [strOfNums,ByteArray.size]; omega),es]
    simp only [aOz,Lib.itoa,if_pos hneg]
    congr 1
   ·rename_i hneg
    rw [es]
    simp only [aOz,Lib.itoa,if_neg hneg]
    rw [show n.toNat = n.natAbs by omega]
 ·obtain ⟨k,out⟩ := s
  obtain ⟨⟨a0,a1⟩,a2⟩ := hs
  simp only at a0 a1 a2 ⊢
  by_cases hk : k = 0
  ·right
   subst hk
   rw [Int.natAbs_zero,xE] at a2
   simp at a2 ⊢
   exact a2
  ·left
   rw [if_pos hk]
   have hd : (if k.tmod 10 < 0 then some (w64 (-(k.tmod 10))) else some (k.tmod 10)) = some (((k.natAbs % 10 : Nat)) : Int) := by
    have e1 : ((k.tmod 10).natAbs) = k.natAbs % 10 := Int.natAbs_tmod _ _
    split
    ·rw [aS (by omega) (by omega)]; congr 1; omega
    ·congr 1; omega
   rw [hd]
   simp only [Option.bind_some]
   have hL : (dgs n.natAbs).length ≤ 19 := aH5 19 n.natAbs (by omega)
   have hle : out.length ≤ 19 := by rw [← a2] at hL; simp at hL; omega
   have ew : IntKind.u8.wrap (w64 (48 + ((k.natAbs % 10 : Nat) : Int))) = 48 + ((k.natAbs % 10 : Nat) : Int) := by
    rw [aS (by omega) (by omega)]
    exact IntWalk.u8_in _ ⟨by omega,by omega⟩
   have eq : (k.tdiv 10).natAbs = k.natAbs / 10 := Int.natAbs_tdiv _ _
   rw [iN (by simp; omega),ew,aS (by omega) (by omega)]
   refine ⟨_,rfl,⟨⟨by dsimp only; omega,by dsimp only; omega⟩,?_⟩,?_⟩
   ·dsimp only
    rw [eq, ← a2,aEi (u := k.natAbs) (by omega)]
    simp
   ·dsimp only
    omega
end Go.Proofs.YtgcdbbidmfdonaaGreat
namespace Go.Proofs.YtgcdbbidmfdonaaGreat
set_option linter.unusedVariables false
set_option maxRecDepth 100000
theorem aUz {α : Type} {m : Option α} {f : α → Bool} (h : (match m with | some x => f x | none => false) = true) : Ok m (fun x => f x = true) := by
 cases m with
 | none => cases h
 | some x => exact ⟨x,rfl,h⟩
theorem aP7 {v : ByteArray} (h : v ∈ [(⟨#[101,103,121,112,116,105,97,110]⟩ : ByteArray),(⟨#[102,105,120,101,100]⟩ : ByteArray),(⟨#[103,114,101,103,111,114,105,97,110]⟩ : ByteArray),(⟨#[106,117,108,105,97,110]⟩ : ByteArray)]) : Ok (kP v) (fun r => (sB r.1 && decide (r.1.Months.length ≤ 13) && decide (r.2 = 0)) = true) := by
 apply aUz
 simp only [List.mem_cons,List.not_mem_nil,or_false] at h
 rcases h with rfl | rfl | rfl | rfl <;> decide
def mNm (j : Nat) : ByteArray := (⟨#[109]⟩ : ByteArray) ++ aOz (j : Int)
theorem yV {n : Int} {b : ByteArray} (hn : osI n) (h : oG n = some b) : aOz n = b := by
 rw [aCa hn] at h; injection h
theorem aTj : mNm 1 = ⟨#[109,49]⟩ ∧ mNm 2 = ⟨#[109,50]⟩ ∧ mNm 3 = ⟨#[109,51]⟩ ∧ mNm 4 = ⟨#[109,52]⟩ ∧ mNm 5 = ⟨#[109,53]⟩ ∧ mNm 6 = ⟨#[109,54]⟩ := by
 unfold mNm
 refine ⟨?_,?_,?_,?_,?_,?_⟩
 ·rw [yV (n := ((1 : Nat) : Int)) (b := ⟨#[49]⟩) (by constructor <;> decide) (by decide)]; decide
 ·rw [yV (n := ((2 : Nat) : Int)) (b := ⟨#[50]⟩) (by constructor <;> decide) (by decide)]; decide
 ·rw [yV (n := ((3 : Nat) : Int)) (b := ⟨#[51]⟩) (by constructor <;> decide) (by decide)]; decide
 ·rw [yV (n := ((4 : Nat) : Int)) (b := ⟨#[52]⟩) (by constructor <;> decide) (by decide)]; decide
 ·rw [yV (n := ((5 : Nat) : Int)) (b := ⟨#[53]⟩) (by constructor <;> decide) (by decide)]; decide
 ·rw [yV (n := ((6 : Nat) : Int)) (b := ⟨#[54]⟩) (by constructor <;> decide) (by decide)]; decide
theorem aTl {j : Nat} (h1 : 1 ≤ j) (h2 : j ≤ 6) : kH (mNm j) = true := by
 obtain ⟨a1,a2,a3,a4,a5,a6⟩ := aTj
 have : j = 1 ∨ j = 2 ∨ j = 3 ∨ j = 4 ∨ j = 5 ∨ j = 6 := by omega
 rcases this with rfl | rfl | rfl | rfl | rfl | rfl
 ·rw [a1]; decide
 ·rw [a2]; decide
 ·rw [a3]; decide
 ·rw [a4]; decide
 ·rw [a5]; decide
 ·rw [a6]; decide
theorem aTk {i j : Nat} (h1 : 1 ≤ i) (h2 : i < j) (h3 : j ≤ 6) : mNm i ≠ mNm j := by
 obtain ⟨a1,a2,a3,a4,a5,a6⟩ := aTj
 have hi : i = 1 ∨ i = 2 ∨ i = 3 ∨ i = 4 ∨ i = 5 := by omega
 have hj : j = 2 ∨ j = 3 ∨ j = 4 ∨ j = 5 ∨ j = 6 := by omega
 rcases hi with rfl | rfl | rfl | rfl | rfl <;> rcases hj with rfl | rfl | rfl | rfl | rfl <;> first | omega | (simp only [a1,a2,a3,a4,a5,a6]; decide)
theorem aP5 {xs : List cA} (hl : xs.length ≤ 6) (hn : ∀ (i : Nat) (hi : i < xs.length),xs[i].Name = mNm (i + 1) ∧ (1 ≤ xs[i].Days ∧ xs[i].Days ≤ 60) ∧ 1 ≤ xs[i].Leap ∧ xs[i].Leap ≤ 60) : aAg xs = true := by
 unfold aAg
 rw [wW]
 intro i hi
 obtain ⟨h1,h2,h3⟩ := hn i hi
 rw [Bool.and_eq_true]
 constructor
 ·unfold aNb btw
  rw [h1,aTl (by omega) (by omega),decide_eq_true h2,decide_eq_true h3]; rfl
 ·rw [Bool.not_eq_true', ← Bool.not_eq_true,List.any_eq_true]
  rintro ⟨m,hm,he⟩
  obtain ⟨j,hj,rfl⟩ := List.getElem_of_mem hm
  have hj' : j < i := by have := hj; simp at this; omega
  rw [List.getElem_take] at he
  have := of_decide_eq_true he
  rw [(hn j (by omega)).1,h1] at this
  exact aTk (by omega) (by omega) (by omega) this
theorem aRq {c : aI} (hn : kH c.Name = true) (hl : 1 ≤ c.Months.length ∧ c.Months.length ≤ 20) (hr : c.Rules.length ≤ 6) (hw : 1 ≤ c.Week ∧ c.Week ≤ 12) (hm : aAg c.Months = true) (ha : c.Rules.all nY = true) (hc : cyc c.Rules ≤ 2000) : sB c = true := by
 unfold sB btw
 rw [hn,hm,ha,decide_eq_true hl,decide_eq_true hr,decide_eq_true hw,decide_eq_true hc]; rfl
theorem aK5 {n : Int} {s : cG} (h : qI n s) (hn : n ≤ 100000000) : Ok (nQ s) (fun r => (sB r.1 = true ∧ r.1.Months.length ≤ 13) ∧ qI (n + 100) r.2) := by
 unfold nQ
 refine aN (aKb h (by omega)) fun v1 h1 => bQ (fun _ => ?_) fun _ => ?_
 ·unfold kQ
  rw [Option.bind_some]
  refine aN (aSq h1 (by omega) (by simp)) fun v3 h3 => aN (aP7 h3.1) fun v4 h4 => aC ⟨?_,jX h3.2 (by omega)⟩
  simp only [Bool.and_eq_true,decide_eq_true_eq] at h4
  exact ⟨h4.1.1,h4.1.2⟩
 ·refine aN (rD h1 (by omega)) fun v5 h5 => aN (rD h5.2.2.2 (by omega)) fun v6 h6 => ?_
  have hk : v6.1 ≤ 5 := by rcases h6.2.1 with q | q <;> omega
  have hw : v5.1 ≤ 11 := by rcases h5.2.1 with q | q <;> omega
  have k0 := h6.1
  have w0 := h5.1
  rw [aS (x := 1 + v6.1) (by omega) (by omega),aS (x := 1 + v5.1) (by omega) (by omega)]
  refine aN (P := fun (r : cG × List cA) => ((r.2.length : Int) = 1 + v6.1 ∧ aAg r.2 = true) ∧ qI (n + 60) r.1) ?_ fun v23 h23 => ?_
  ·refine cV (I := fun (s : Int × cG × List cA) => 1 ≤ s.1 ∧ s.1 ≤ v6.1 + 2 ∧ ((s.2.2.length : Int) = s.1 - 1 ∧ ∀ (i : Nat) (hi : i < s.2.2.length),s.2.2[i].Name = mNm (i + 1) ∧ (1 ≤ s.2.2[i].Days ∧ s.2.2[i].Days ≤ 60) ∧ 1 ≤ s.2.2[i].Leap ∧ s.2.2[i].Leap ≤ 60) ∧ qI (n + 6 + 7 * (s.1 - 1)) s.2.1) (m := fun s => (7 - s.1).toNat) ?_ _ ⟨by dsimp only; omega,by dsimp only; omega,⟨by simp,fun i hi => absurd hi (by simp)⟩,jX h6.2.2.2 (by dsimp only; omega)⟩ (by dsimp only; omega)
   rintro ⟨k,src,ys⟩ ⟨i0,i1,⟨il,iv⟩,is⟩
   dsimp only at i0 i1 il iv is ⊢
   refine bQ (fun hi => ?_) fun hi => aC (.inr ⟨_,rfl,⟨by dsimp only; omega,aP5 (by dsimp only; omega) iv⟩,jX is (by omega)⟩)
   have hko : osI k := ⟨by omega,by omega⟩
   rw [aCa hko,Option.bind_some]
   have hds := aMh hko
   have h109 : (⟨#[109]⟩ : ByteArray).size = 1 := rfl
   refine fF (by omega) ?_
   refine aN (rD is (by omega)) fun v18 h18 => ?_
   have c1 := h18.1
   have c2 : v18.1 ≤ 39 := by rcases h18.2.1 with q | q <;> omega
   refine aN (P := fun (r : cG × cA) => (r.2.Name = (⟨#[109]⟩ : ByteArray) ++ aOz k ∧ (1 ≤ r.2.Days ∧ r.2.Days ≤ 60) ∧ 1 ≤ r.2.Leap ∧ r.2.Leap ≤ 60) ∧ qI (n + 6 + 7 * (k - 1) + 6) r.1) ?_ fun v21 h21 => ?_
   ·refine aN (aKb h18.2.2.2 (by omega)) fun v19 h19 => bQ (fun _ => ?_) fun _ => aC ⟨⟨rfl,by dsimp only; rw [aS (by omega) (by omega)]; omega,by dsimp only; rw [aS (by omega) (by omega)]; omega⟩,jX h19 (by omega)⟩
    refine aN (rD h19 (by omega)) fun v20 h20 => aC ⟨⟨rfl,by dsimp only; rw [aS (by omega) (by omega)]; omega,?_⟩,jX h20.2.2.2 (by omega)⟩
    have c3 := h20.1
    have c4 : v20.1 ≤ 39 := by rcases h20.2.1 with q | q <;> omega
    dsimp only; rw [aS (by omega) (by omega)]; omega
   ·refine fF (by simp; omega) (aC (.inl ⟨_,rfl,⟨?_,?_,⟨?_,?_⟩,?_⟩,?_⟩))
    all_goals (dsimp only; try rw [aS (x := k + 1) (by omega) (by omega)])
    ·omega
    ·omega
    ·simp; omega
    ·intro i hi
     rcases Nat.lt_or_ge i ys.length with q | q
     ·rw [List.getElem_append_left q]; exact iv i q
     ·have e : i = ys.length := by simp at hi; omega
      subst e
      rw [List.getElem_append_right (Nat.le_refl _)]
      simp only [Nat.sub_self,List.getElem_cons_zero]
      refine ⟨?_,h21.1.2⟩
      rw [h21.1.1]
      show _ = (⟨#[109]⟩ : ByteArray) ++ aOz ((ys.length + 1 : Nat) : Int)
      rw [show ((ys.length + 1 : Nat) : Int) = k by push_cast; omega]
    ·exact jX h21.2 (by omega)
    ·omega
  ·refine aN (P := fun (r : cG × List bD) => (r.2.length ≤ 3 ∧ ∀ q ∈ r.2,nY q = true) ∧ qI (n + 90) r.1) ?_ fun v35 h35 => ?_
   ·refine aN (rD h23.2 (by omega)) fun v24 h24 => ?_
    have d0 := h24.1
    have d1 : v24.1 ≤ 3 := by rcases h24.2.1 with q | q <;> omega
    refine cV (I := fun (s : Int × cG × List bD) => 0 ≤ s.1 ∧ s.1 ≤ 3 ∧ ((s.2.2.length : Int) + s.1 ≤ 3 ∧ ∀ q ∈ s.2.2,nY q = true) ∧ qI (n + 62 + 7 * (3 - s.1)) s.2.1) (m := fun s => s.1.toNat) ?_ _ ⟨d0,d1,⟨by simpa using d1,fun q hq => by cases hq⟩,jX h24.2.2.2 (by dsimp only; omega)⟩ (by dsimp only; omega)
    rintro ⟨k,src,ys⟩ ⟨i0,i1,⟨il,iv⟩,is⟩
    dsimp only at i0 i1 il iv is ⊢
    refine bQ (fun hi => ?_) fun hi => aC (.inr ⟨_,rfl,⟨by dsimp only; omega,iv⟩,jX is (by omega)⟩)
    refine aN (aD8 is (by omega) (by simp)) fun v31 h31 => aN (rD h31.2 (by omega)) fun v32 h32 => aN (aKb h32.2.2.2 (by omega)) fun v33 h33 => fF (by simp; omega) (aC (.inl ⟨_,rfl,⟨?_,?_,⟨?_,?_⟩,?_⟩,?_⟩))
    all_goals (dsimp only; try rw [aS (x := k - 1) (by omega) (by omega)])
    ·omega
    ·omega
    ·simp; omega
    ·intro q hq
     rcases List.mem_append.1 hq with hq | hq
     ·exact iv q hq
     ·rw [List.mem_singleton.1 hq]
      have hm := h31.1
      have e0 := h32.1
      simp only [List.mem_cons,List.not_mem_nil,or_false] at hm
      refine rG.2 ⟨by dsimp only; omega,e0,?_⟩
      dsimp only
      rcases h32.2.1 with q | q <;> omega
    ·exact jX h33 (by omega)
    ·omega
   ·have hm23 : 1 ≤ v23.2.length ∧ v23.2.length ≤ 6 := by have := h23.1.1; omega
    have base : ∀ rs : List bD,rs.length ≤ 6 → rs.all nY = true → cyc rs ≤ 2000 → sB ⟨⟨#[111,119,110]⟩,v23.2,rs,1 + v5.1⟩ = true := fun rs r1 r2 r3 => aRq (show kH ⟨#[111,119,110]⟩ = true by decide) (by dsimp only; omega) r1 (by dsimp only; omega) h23.1.2 r2 r3
    rw [qO (by dsimp only; omega) (by dsimp only; omega)]
    refine aN (P := fun (rs : List bD) => sB ⟨⟨#[111,119,110]⟩,v23.2,rs,1 + v5.1⟩ = true) ?_ fun v37 h37 => aC ⟨⟨h37,by dsimp only; omega⟩,jX h35.2 (by omega)⟩
    rw [Option.bind_some]
    refine bQ (fun _ => aC (base [] (by simp) rfl (by decide))) fun hb => aC ?_
    simpa using hb
end Go.Proofs.YtgcdbbidmfdonaaGreat
