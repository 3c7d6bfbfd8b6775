/- Texts of this claim, one behind the other (merged by a program of mine). -/
import Derived.Test.YtceknlcbfomdhaaGreatDoorProg
import Derived.Test.YtceknlcbfomdhaaGreatDoorGN4
set_option linter.unusedSimpArgs false
set_option linter.unusedVariables false
namespace Go.Proofs.YtceknlcbfomdhaaGreatDoor
open Go.RowKit
set_option linter.unusedVariables false
set_option maxRecDepth 100000
set_option maxHeartbeats 2000000
theorem aQo:Tryz.prog.eqGuardType Tryz.prog.depth 90=false:=by kernel_rfl
theorem aId {x y:Operand} (a b:bR) (w:World):(do eqGuard .eql 90 x y (.agg #[.int .i64 a.A, .int .i64 a.WheelA, .int .i64 a.B, .int .i64 a.WheelB]) (.agg #[.int .i64 b.A, .int .i64 b.WheelA, .int .i64 b.B, .int .i64 b.WheelB]);binOp .eql 90 (.agg #[.int .i64 a.A, .int .i64 a.WheelA, .int .i64 a.B, .int .i64 a.WheelB]) (.agg #[.int .i64 b.A, .int .i64 b.WheelA, .int .i64 b.B, .int .i64 b.WheelB]):Sem Value).run Tryz.prog w = .ok (.bool (decide (a=b))) w:=by
 have g:(eqGuard .eql 90 x y (.agg #[.int .i64 a.A, .int .i64 a.WheelA, .int .i64 a.B, .int .i64 a.WheelB]) (.agg #[.int .i64 b.A, .int .i64 b.WheelA, .int .i64 b.B, .int .i64 b.WheelB])).run Tryz.prog w = .ok () w:=by simp [eqGuard,aQo]
 rw [Sem.run_bind,g,Result.andThen_ok]
 obtain ⟨x0,x1,x2,x3⟩:=a
 obtain ⟨y0,y1,y2,y3⟩:=b
 simp [go_sem]
 (repeat' split) <;> simp_all [aDt]
theorem xE {N:Nat} {t:Nat→AV} {h:eB} {d:Tmp} {ty:TypeId} {pos:String} {aft:Array Edge} {g:Option (Nat × Bool)} {x y:Operand} {a b:bR} (hx:toV (evA N ⟨t,h⟩ x)=some (.agg #[.int .i64 a.A, .int .i64 a.WheelA, .int .i64 a.B, .int .i64 a.WheelB])) (hy:toV (evA N ⟨t,h⟩ y)=some (.agg #[.int .i64 b.A, .int .i64 b.WheelA, .int .i64 b.B, .int .i64 b.WheelB])):eV Tryz.prog N ⟨some d, .binOp .eql 90 x y 90,ty,pos,aft,g⟩ ⟨t,h⟩ (dB (decide (a=b))):=nP hx hy (fun w=>aId a b w)
theorem aGd:Tryz.prog.eqGuardType Tryz.prog.depth 75=false:=by kernel_rfl
theorem aFx {x y:Operand} (a b:aD) (w:World):(do eqGuard .eql 75 x y (.agg #[.int .i64 a.Num, .int .i64 a.Den]) (.agg #[.int .i64 b.Num, .int .i64 b.Den]);binOp .eql 75 (.agg #[.int .i64 a.Num, .int .i64 a.Den]) (.agg #[.int .i64 b.Num, .int .i64 b.Den]):Sem Value).run Tryz.prog w = .ok (.bool (decide (a=b))) w:=by
 have g:(eqGuard .eql 75 x y (.agg #[.int .i64 a.Num, .int .i64 a.Den]) (.agg #[.int .i64 b.Num, .int .i64 b.Den])).run Tryz.prog w = .ok () w:=by simp [eqGuard,aGd]
 rw [Sem.run_bind,g,Result.andThen_ok]
 obtain ⟨x0,x1⟩:=a
 obtain ⟨y0,y1⟩:=b
 simp [go_sem]
 (repeat' split) <;> simp_all [aDt]
theorem aH9 {N:Nat} {t:Nat→AV} {h:eB} {d:Tmp} {ty:TypeId} {pos:String} {aft:Array Edge} {g:Option (Nat × Bool)} {x y:Operand} {a b:aD} (hx:toV (evA N ⟨t,h⟩ x)=some (.agg #[.int .i64 a.Num, .int .i64 a.Den])) (hy:toV (evA N ⟨t,h⟩ y)=some (.agg #[.int .i64 b.Num, .int .i64 b.Den])):eV Tryz.prog N ⟨some d, .binOp .eql 75 x y 75,ty,pos,aft,g⟩ ⟨t,h⟩ (dB (decide (a=b))):=nP hx hy (fun w=>aFx a b w)
theorem aFy {x y:Operand} (a b:aD) (w:World):(do eqGuard .neq 75 x y (.agg #[.int .i64 a.Num, .int .i64 a.Den]) (.agg #[.int .i64 b.Num, .int .i64 b.Den]);binOp .neq 75 (.agg #[.int .i64 a.Num, .int .i64 a.Den]) (.agg #[.int .i64 b.Num, .int .i64 b.Den]):Sem Value).run Tryz.prog w = .ok (.bool (decide (a≠b))) w:=by
 have g:(eqGuard .neq 75 x y (.agg #[.int .i64 a.Num, .int .i64 a.Den]) (.agg #[.int .i64 b.Num, .int .i64 b.Den])).run Tryz.prog w = .ok () w:=by simp [eqGuard,aGd]
 rw [Sem.run_bind,g,Result.andThen_ok]
 obtain ⟨x0,x1⟩:=a
 obtain ⟨y0,y1⟩:=b
 simp [go_sem]
 (repeat' split) <;> simp_all [aDt]
theorem vR {N:Nat} {t:Nat→AV} {h:eB} {d:Tmp} {ty:TypeId} {pos:String} {aft:Array Edge} {g:Option (Nat × Bool)} {x y:Operand} {a b:aD} (hx:toV (evA N ⟨t,h⟩ x)=some (.agg #[.int .i64 a.Num, .int .i64 a.Den])) (hy:toV (evA N ⟨t,h⟩ y)=some (.agg #[.int .i64 b.Num, .int .i64 b.Den])):eV Tryz.prog N ⟨some d, .binOp .neq 75 x y 75,ty,pos,aft,g⟩ ⟨t,h⟩ (dB (decide (a≠b))):=nP hx hy (fun w=>aFy a b w)
theorem aPi {p0:Int} {r:ByteArray} (h0:aBq p0=some r):FnC Tryz.prog 52 [] [dI p0] [] (dS r):=by
 refine fi 34 tok Tryz.func52 ?_
 unfold aBq at h0
 refine sq [0] (pa (nx (sq [0,1] ?_)))
 refine rS rfl (eQ 3 tok rfl rfl rfl rfl) (rP rfl (aR (r := .own _ _ _) rfl) (nx ?_))
 obtain ⟨v11,h1,h0⟩:=bnd h0
 refine bI ⟨aC (aC ((fun _ => .dead)) 0 (dI p0)) 3 (.own 3 0 (v11).length),lks [.no, .no, .no, .live [⟨5,1, .data (List.map cU8 v11)⟩]]⟩ ?_ ?_
 refine sq [0,1] (pm ?_)
 refine pa (nx (aE ?_))
 refine aZ (fun s6=>⟨aC (aC (aC ((fun _ => .dead)) 0 (dI p0)) 3 (.own 3 0 (s6.2).length)) 4 (dI s6.1),lks [.no, .no, .no, .live [⟨5,1, .data (List.map cU8 s6.2)⟩]]⟩) h1 ?_ (fun s6 y h2 => ?_)
 exact wk [0,1,2,3]
 refine aB (sq [0,1] (pm ?_))
 refine rP rfl (cQ rfl rfl) (nx ?_)
 refine bC h2 rfl (fun hc h2 => ?_) (fun hc h2 => ?_)
 refine sk (aB (aE (sq [0,1,2] (pm ?_))))
 refine rP rfl (kU rfl rfl (by decide)) (pa (nx ?_))
 obtain ⟨v8,h3,h2⟩:=bnd h2
 refine bI ⟨aC (aC (aC (aC ((fun _ => .dead)) 0 (dI p0)) 3 (.own 3 0 (s6.2).length)) 4 (dI s6.1)) 5 (dI v8),lks [.no, .no, .no, .live [⟨5,1, .data (List.map cU8 s6.2)⟩]]⟩ ?_ ?_
 refine sq [0,1] (pm ?_)
 refine rP rfl (bK rfl rfl) (nx ?_)
 refine bC h3 rfl (fun hc h3 => ?_) (fun hc h3 => ?_)
 refine sr [0,1,2] (pm ?_)
 refine rP rfl (wH rfl) (pa (nx ?_))
 cases h3
 exact wk [0,1,2,3]
 refine sk ?_
 cases h3
 exact wk [0,1,2,3]
 refine sr [0,1,2,3,4,5,6] (pm ?_)
 refine rP rfl (bH rfl rfl) (rP rfl (aKe tok rfl rfl rfl rfl rfl) (rS rfl (mE 4 tok cU8 [IntKind.u8.wrap (w64 (48+v8))] rfl rfl rfl (by repeat (first | exact Els.nil _ | apply Els.cons (cs:=[.d _]) rfl rfl rfl | apply Els.cons (cs:=_ :: _) rfl rfl rfl)) rfl rfl rfl (by repeat (first | exact cR.nil | (apply cR.cons; (repeat (first | exact eZ.nil | apply eZ.cons))))) rfl rfl) (rP rfl (aL (r := .own _ _ _) rfl) ?_)))
 obtain ⟨hq9,h2⟩:=cO h2
 refine rw1 rfl w0 rfl (aYe tok hq9 rfl rfl rfl rfl rfl rfl rfl rfl rfl rfl rfl rfl rfl rfl rfl) (rP rfl (aR (r := .own _ _ _) rfl) (aY (bB (aG (sr [0,1,2] (pm ?_))))))
 refine rP rfl (tK rfl rfl (by decide)) (pa (aY ?_))
 refine bS ?_
 cases h2
 refine ⟨_,rfl,?_⟩
 exact wk [0,1,2,4]
 refine bF (bT ?_)
 cases h2
 refine bU ⟨_,rfl,fun e => ?_⟩
 subst e
 refine aQ (aG ?_)
 exact wk [0,1,2,3]
 refine aB (sq [0,1,2] (rP rfl (aL (r := .own _ _ _) rfl) (rL rfl (mF tok rfl rfl rfl rfl rfl) (rP rfl (iX rfl rfl) (nx ?_)))))
 refine bC h0 rfl (fun hc h0 => ?_) (fun hc h0 => ?_)
 refine sq [0] (pa (nx (aA (aI ?_))))
 cases h0
 exact r0t 2 rfl
 refine sk (aB (sq [0,1] (pm ?_)))
 refine rP rfl (bK rfl rfl) (nx ?_)
 refine bC h0 rfl (fun hc h0 => ?_) (fun hc h0 => ?_)
 refine sq [0,1,2,3] (rP rfl (aL (r := .own _ _ _) rfl) (rS rfl (aVj tok rfl rfl rfl rfl rfl rfl rfl rfl rfl rfl) ?_))
 obtain ⟨hq12,h0⟩:=cO h0
 refine rP rfl (aKd rfl rfl hq12) (pa (nx (aA (aI ?_))))
 cases h0
 exact r0t 2 rfl
 refine sk (sq [0,1,2] (rP rfl (aL (r := .own _ _ _) rfl) (rS rfl (aVj tok rfl rfl rfl rfl rfl rfl rfl rfl rfl rfl) (pa (nx (aA ?_))))))
 cases h0
 exact r0t 2 rfl
theorem aCe {p0:Int} {p1:Int} {r:List bE} (h0:tO p0 p1=some r):FnC Tryz.prog 26 [] [dI p0,(dI p1)] [.live [⟨62,3, .data (List.map aT r)⟩]] (.own 0 0 r.length):=by
 refine fi 23 tok Tryz.func26 ?_
 unfold tO at h0
 refine sq [0] (pa (nx (sq [0,1] ?_)))
 refine rS rfl (eQ 3 tok rfl rfl rfl rfl) (rP rfl (aR (r := .own _ _ _) rfl) (nx ?_))
 obtain ⟨v9,h1,h0⟩:=bnd h0
 refine bI ⟨aC ((fun _ => .dead)) 5 (.own 3 0 (v9).length),lks [.no, .no, .no, .live [⟨62,3, .data (List.map aT v9)⟩]]⟩ ?_ ?_
 refine sq [0] (pa (nx (aE ?_)))
 refine aZ (fun s5=>⟨aC (aC (aC (aC ((fun _ => .dead)) 0 (dI p0)) 1 (dI p1)) 5 (.own 3 0 (s5.2).length)) 6 (dI s5.1),lks [.no, .no, .no, .live [⟨62,3, .data (List.map aT s5.2)⟩]]⟩) h1 ?_ (fun s5 y h2 => ?_)
 exact wk [0,1,2,3]
 refine aB (sq [0,1,2] (pm ?_))
 refine pm ?_
 refine rP rfl (gW rfl rfl) (nx ?_)
 refine bC h2 rfl (fun hc h2 => ?_) (fun hc h2 => ?_)
 refine sk (aB (aE (sr [0,1,2,3,4,5,6,7,8,9] (rP rfl (aL (r := .own _ _ _) rfl) (pm ?_)))))
 obtain ⟨v6,hv6,h2⟩:=bnd h2
 refine rS rfl (aM 4 (aPi hv6) rfl rfl rfl) ?_
 obtain ⟨hq7,h2⟩:=cO h2
 refine rP rfl (aKd rfl rfl hq7) (pm ?_)
 refine pm ?_
 refine rP rfl (pbl (C0:=[ze,z0,z0]) tok rfl rfl rfl) (rS rfl (iZ tok aT [(⟨(⟨#[109]⟩:ByteArray)++v6,p1,p1⟩:bE)] rfl rfl rfl (by repeat (first | exact Els.nil _ | apply Els.cons (cs:=[.d _]) rfl rfl rfl | apply Els.cons (cs:=_ :: _) rfl rfl rfl)) rfl rfl rfl (by repeat (first | exact cR.nil | (apply cR.cons; (repeat (first | exact eZ.nil | apply eZ.cons))))) rfl) ?_)
 obtain ⟨hq8,h2⟩:=cO h2
 refine rw1 rfl w0 rfl (eU tok hq8 rfl rfl rfl rfl rfl rfl rfl rfl rfl rfl rfl rfl (fun _=>rfl)) (rP rfl (aR (r := .own _ _ _) rfl) (aY (bB (aG (sr [0,1,2] (pm ?_))))))
 refine rP rfl (bH rfl rfl) (pa (aY ?_))
 refine bS ?_
 cases h2
 refine ⟨_,rfl,?_⟩
 exact wk [0,1,2,3]
 refine bF (bT ?_)
 cases h2
 refine bU ⟨_,rfl,fun e => ?_⟩
 subst e
 refine aQ (aG ?_)
 exact wk [0,1,2,3]
 refine sq [0,1] (rP rfl (aL (r := .own _ _ _) rfl) (rP rfl (aR (r := .own _ _ _) rfl) (nx (aA ?_))))
 cases h0
 exact dG (rs:=[.tmp 4]) [3] rfl
theorem wJ  {r:List aO} (h0:mV  = some r):FnC Tryz.prog 27 [] [] [.live [⟨66,3, .data (List.map aK r)⟩]] (.own 0 0 r.length):=by
 refine fi 5 tok Tryz.func27 ?_
 unfold mV at h0
 refine sq [0] (pa (nx (sq [0,1,2,3,4] ?_)))
 iterate 3 refine rP rfl (pbl (C0:=[z0,z0,(dB false)]) tok rfl rfl rfl) ?_
 refine rS rfl (mE 3 tok aK [(⟨4,0,true⟩:aO),(⟨100,0,false⟩:aO),(⟨400,0,true⟩:aO)] rfl rfl rfl (by repeat (first | exact Els.nil _ | apply Els.cons (cs:=[.d _]) rfl rfl rfl | apply Els.cons (cs:=_ :: _) rfl rfl rfl)) rfl rfl rfl (by repeat (first | exact cR.nil | (apply cR.cons; (repeat (first | exact eZ.nil | apply eZ.cons))))) rfl rfl) (rP rfl (aR (r := .own _ _ _) rfl) (nx (aA ?_)))
 cases h0
 exact dG (rs:=[.tmp 0]) [3] rfl
theorem aCf  {r:List bE} (h0:tQ  = some r):FnC Tryz.prog 28 [] [] [.live [⟨62,3, .data (List.map aT r)⟩]] (.own 0 0 r.length):=by
 refine fi 32 tok Tryz.func28 ?_
 unfold tQ at h0
 refine sq [0] (pa (nx (sq [0,1] ?_)))
 refine rS rfl (mE 3 tok cS [(⟨#[106,97,110]⟩:ByteArray),(⟨#[102,101,98]⟩:ByteArray),(⟨#[109,97,114]⟩:ByteArray),(⟨#[97,112,114]⟩:ByteArray),(⟨#[109,97,121]⟩:ByteArray),(⟨#[106,117,110]⟩:ByteArray),(⟨#[106,117,108]⟩:ByteArray),(⟨#[97,117,103]⟩:ByteArray),(⟨#[115,101,112]⟩:ByteArray),(⟨#[111,99,116]⟩:ByteArray),(⟨#[110,111,118]⟩:ByteArray),(⟨#[100,101,99]⟩:ByteArray)] rfl rfl rfl (by repeat (first | exact Els.nil _ | apply Els.cons (cs:=[.d _]) rfl rfl rfl | apply Els.cons (cs:=_ :: _) rfl rfl rfl)) rfl rfl rfl (by repeat (first | exact cR.nil | (apply cR.cons; (repeat (first | exact eZ.nil | apply eZ.cons))))) rfl rfl) (rP rfl (aR (r := .own _ _ _) rfl) (nx (sq [0,1] (rS rfl (mE 4 tok cI [31,28,31,30,31,30,31,31,30,31,30,31] rfl rfl rfl (by repeat (first | exact Els.nil _ | apply Els.cons (cs:=[.d _]) rfl rfl rfl | apply Els.cons (cs:=_ :: _) rfl rfl rfl)) rfl rfl rfl (by repeat (first | exact cR.nil | (apply cR.cons; (repeat (first | exact eZ.nil | apply eZ.cons))))) rfl rfl) (rP rfl (aR (r := .own _ _ _) rfl) (nx (sq [0,1] (rS rfl (eQ 5 tok rfl rfl rfl rfl) (rP rfl (aR (r := .own _ _ _) rfl) (nx ?_))))))))))
 obtain ⟨v11,h1,h0⟩:=bnd h0
 refine bI ⟨aC ((fun _ => .dead)) 3 (.own 3 0 (v11).length),lks [.no, .no, .no, .live [⟨62,3, .data (List.map aT v11)⟩]]⟩ ?_ ?_
 refine sq [0] (pa (nx (aE ?_)))
 refine aZ (fun s6=>⟨aC (aC (aC (aC ((fun _ => .dead)) 1 (.own 3 0 ([(⟨#[106,97,110]⟩:ByteArray),(⟨#[102,101,98]⟩:ByteArray),(⟨#[109,97,114]⟩:ByteArray),(⟨#[97,112,114]⟩:ByteArray),(⟨#[109,97,121]⟩:ByteArray),(⟨#[106,117,110]⟩:ByteArray),(⟨#[106,117,108]⟩:ByteArray),(⟨#[97,117,103]⟩:ByteArray),(⟨#[115,101,112]⟩:ByteArray),(⟨#[111,99,116]⟩:ByteArray),(⟨#[110,111,118]⟩:ByteArray),(⟨#[100,101,99]⟩:ByteArray)]).length)) 2 (.own 4 0 ([31,28,31,30,31,30,31,31,30,31,30,31]).length)) 3 (.own 5 0 (s6.2).length)) 4 (dI s6.1),lks [.no, .no, .no, .live [⟨9,1, .data (List.map cS [(⟨#[106,97,110]⟩:ByteArray),(⟨#[102,101,98]⟩:ByteArray),(⟨#[109,97,114]⟩:ByteArray),(⟨#[97,112,114]⟩:ByteArray),(⟨#[109,97,121]⟩:ByteArray),(⟨#[106,117,110]⟩:ByteArray),(⟨#[106,117,108]⟩:ByteArray),(⟨#[97,117,103]⟩:ByteArray),(⟨#[115,101,112]⟩:ByteArray),(⟨#[111,99,116]⟩:ByteArray),(⟨#[110,111,118]⟩:ByteArray),(⟨#[100,101,99]⟩:ByteArray)])⟩], .live [⟨2,1, .data (List.map cI [31,28,31,30,31,30,31,31,30,31,30,31])⟩], .live [⟨62,3, .data (List.map aT s6.2)⟩]]⟩) h1 ?_ (fun s6 y h2 => ?_)
 exact wk [0,1,2,3,4,5]
 refine aB (sq [0,1] (pm ?_))
 refine rP rfl (bK rfl rfl) (nx ?_)
 refine bC h2 rfl (fun hc h2 => ?_) (fun hc h2 => ?_)
 refine sk (aB (aE (aH (is:=[0,1,2,3,4,5,6,7,8,9,10,11,12,13,14,15,16]) [0,0,0,6,14,0,0,96,224,0,0,1536,3584,8190,16382,32767,65535] follows (by kernel_rfl) (tP rfl (aL (r := .own _ _ _) rfl) (tP rfl (aL (r := .own _ _ _) rfl) (tpm ?_))))))
 obtain ⟨v7,hv7,h2⟩:=bnd h2
 refine cZ rfl w0 rfl (fB tok hv7 rfl rfl rfl rfl rfl rfl rfl rfl) rfl rfl rfl (cZ rfl w0 rfl (jK tok (dP hv7).2.1 rfl rfl rfl rfl rfl rfl) rfl rfl rfl (tP rfl (aL (r := .own _ _ _) rfl) (tpm ?_)))
 obtain ⟨v8,hv8,h2⟩:=bnd h2
 refine cZ rfl w0 rfl (fB tok hv8 rfl rfl rfl rfl rfl rfl rfl rfl) rfl rfl rfl (cZ rfl w0 rfl (jK tok (dP hv8).2.1 rfl rfl rfl rfl rfl rfl) rfl rfl rfl (tP rfl (aL (r := .own _ _ _) rfl) (tpm ?_)))
 obtain ⟨v9,hv9,h2⟩:=bnd h2
 refine cZ rfl w0 rfl (fB tok hv9 rfl rfl rfl rfl rfl rfl rfl rfl) rfl rfl rfl (cZ rfl w0 rfl (jK tok (dP hv9).2.1 rfl rfl rfl rfl rfl rfl) rfl rfl rfl (tP rfl (pbl (C0:=[ze,z0,z0]) tok rfl rfl rfl) (aU1 rfl w0 rfl (iZ tok aT [(⟨v7,v8,v9⟩:bE)] rfl rfl rfl (by repeat (first | exact Els.nil _ | apply Els.cons (cs:=[.d _]) rfl rfl rfl | apply Els.cons (cs:=_ :: _) rfl rfl rfl)) rfl rfl rfl (by repeat (first | exact cR.nil | (apply cR.cons; (repeat (first | exact eZ.nil | apply eZ.cons))))) rfl) ?_)))
 obtain ⟨hq10,h2⟩:=cO h2
 refine yX rfl w0 rfl (eU tok hq10 rfl rfl rfl rfl rfl rfl rfl rfl rfl rfl rfl rfl (fun _=>rfl)) (tP rfl (aR (r := .own _ _ _) rfl) (bN ?_))
 refine ⟨by kernel_rfl,?_⟩
 refine bB (aG (sr [0,1,2] (pm ?_)))
 refine rP rfl (bH rfl rfl) (pa (aY ?_))
 refine bS ?_
 cases h2
 refine ⟨_,rfl,?_⟩
 exact wk [0,1,2,3,4,5]
 refine bF (bT ?_)
 cases h2
 refine bU ⟨_,rfl,fun e => ?_⟩
 subst e
 refine aQ (aG ?_)
 exact wk [0,1,2,5]
 refine sq [0,1,2,3] (rP rfl (aL (r := .own _ _ _) rfl) ?_)
 obtain ⟨v12,hv12,h0⟩:=bnd h0
 refine rL rfl (fB tok hv12 rfl rfl rfl rfl rfl rfl rfl rfl) (rL rfl (zP tok (dP hv12).2.1 rfl rfl rfl rfl rfl rfl rfl rfl) (rw0 rfl w0 (sL (cs:=[.d _]) tok (⟨v12.Name,v12.Days,29⟩:bE) (dP hv12).2.1 rfl rfl rfl rfl rfl rfl rfl rfl) (nx (sq [0,1] (rP rfl (aL (r := .own _ _ _) rfl) (rP rfl (aR (r := .own _ _ _) rfl) (nx (aA ?_))))))))
 cases h0
 exact dG (rs:=[.tmp 0]) [3] rfl
theorem aBn {p0:ByteArray} {r:aF × Int} (h0:lW p0=some r):FnC Tryz.prog 14 [] [dS p0] [.live [⟨62,3, .data (List.map aT r.1.Months)⟩], .live [⟨66,3, .data (List.map aK r.1.Rules)⟩]] (.tup [.agg [dS r.1.Name, .own 0 0 r.1.Months.length, .own 1 0 r.1.Rules.length,(dI r.1.Week)],(dI r.2)]):=by
 refine fi 36 tok Tryz.func14 ?_
 unfold lW at h0
 refine sq [0,1] (al 3 [ze,zl,zl,z0] tok ?_)
 refine pa (nx (aB (sq [0] ?_)))
 refine pm (nx (aE (sq [0,1] ?_)))
 refine rP rfl (pH rfl rfl) (pa (nx ?_))
 refine bC h0 rfl (fun hc h0 => ?_) (fun hc h0 => ?_)
 refine sq [0,1,2,3,4,5,6,7] (pm ?_)
 obtain ⟨v1,hv1,h0⟩:=bnd h0
 refine rS rfl (aM 4 (aCe hv1) rfl rfl rfl) (rP rfl (pbl (C0:=[ze,z0,z0]) tok rfl rfl rfl) (rS rfl (iZ tok aT [(⟨(⟨#[109,49,51]⟩:ByteArray),5,5⟩:bE)] rfl rfl rfl (by repeat (first | exact Els.nil _ | apply Els.cons (cs:=[.d _]) rfl rfl rfl | apply Els.cons (cs:=_ :: _) rfl rfl rfl)) rfl rfl rfl (by repeat (first | exact cR.nil | (apply cR.cons; (repeat (first | exact eZ.nil | apply eZ.cons))))) rfl) ?_))
 obtain ⟨hq2,h0⟩:=cO h0
 refine rw1 rfl w0 rfl (eU tok hq2 rfl rfl rfl rfl rfl rfl rfl rfl rfl rfl rfl rfl (fun _=>rfl)) (rP rfl (pbl (C0:=[ze,zl,zl,z0]) tok rfl rfl rfl) (bst tok ?_))
 refine pa (nx ?_)
 refine wa 5 66 3 3 2 (aA ?_)
 refine aX (aI ?_)
 cases h0
 exact dG (rs:=[.cell 2 29, .tmp 3]) [4,5] rfl
 refine sq [0,1] (rP rfl (pH rfl rfl) (pa (nx ?_)))
 refine bC h0 rfl (fun hc h0 => ?_) (fun hc h0 => ?_)
 refine sq [0,1,2,3,4,5,6,7,8] (pm ?_)
 obtain ⟨v3,hv3,h0⟩:=bnd h0
 refine rS rfl (aM 4 (aCe hv3) rfl rfl rfl) (rP rfl (pbl (C0:=[ze,z0,z0]) tok rfl rfl rfl) (rS rfl (iZ tok aT [(⟨(⟨#[109,49,51]⟩:ByteArray),29,30⟩:bE)] rfl rfl rfl (by repeat (first | exact Els.nil _ | apply Els.cons (cs:=[.d _]) rfl rfl rfl | apply Els.cons (cs:=_ :: _) rfl rfl rfl)) rfl rfl rfl (by repeat (first | exact cR.nil | (apply cR.cons; (repeat (first | exact eZ.nil | apply eZ.cons))))) rfl) ?_))
 obtain ⟨hq4,h0⟩:=cO h0
 refine rw1 rfl w0 rfl (eU tok hq4 rfl rfl rfl rfl rfl rfl rfl rfl rfl rfl rfl rfl (fun _=>rfl)) ?_
 obtain ⟨v5,hv5,h0⟩:=bnd h0
 refine rS rfl (aM 5 (wJ hv5) rfl rfl rfl) (rP rfl (pbl (C0:=[ze,zl,zl,z0]) tok rfl rfl rfl) (bst tok ?_))
 refine pa (nx (aA ?_))
 refine aX (aI ?_)
 cases h0
 exact dG (rs:=[.cell 2 29, .tmp 3]) [4,5] rfl
 refine sq [0,1] (rP rfl (pH rfl rfl) (pa (nx ?_)))
 refine bC h0 rfl (fun hc h0 => ?_) (fun hc h0 => ?_)
 refine sq [0,1,2,3,4,5] (pm ?_)
 obtain ⟨v6,hv6,h0⟩:=bnd h0
 refine rS rfl (aM 4 (aCf hv6) rfl rfl rfl) ?_
 obtain ⟨v7,hv7,h0⟩:=bnd h0
 refine rS rfl (aM 5 (wJ hv7) rfl rfl rfl) (rP rfl (pbl (C0:=[ze,zl,zl,z0]) tok rfl rfl rfl) (bst tok ?_))
 refine pa (nx (aA ?_))
 refine aX (aI ?_)
 cases h0
 exact dG (rs:=[.cell 2 29, .tmp 3]) [4,5] rfl
 refine sq [0,1] (rP rfl (pH rfl rfl) (pa (nx ?_)))
 refine bC h0 rfl (fun hc h0 => ?_) (fun hc h0 => ?_)
 refine sq [0,1,2,3,4,5,6] (pm ?_)
 obtain ⟨v8,hv8,h0⟩:=bnd h0
 refine rS rfl (aM 4 (aCf hv8) rfl rfl rfl) (rP rfl (pbl (C0:=[z0,z0,(dB false)]) tok rfl rfl rfl) (rS rfl (mE 5 tok aK [(⟨4,0,true⟩:aO)] rfl rfl rfl (by repeat (first | exact Els.nil _ | apply Els.cons (cs:=[.d _]) rfl rfl rfl | apply Els.cons (cs:=_ :: _) rfl rfl rfl)) rfl rfl rfl (by repeat (first | exact cR.nil | (apply cR.cons; (repeat (first | exact eZ.nil | apply eZ.cons))))) rfl rfl) (rP rfl (pbl (C0:=[ze,zl,zl,z0]) tok rfl rfl rfl) (bst tok ?_))))
 refine pa (nx (aA ?_))
 refine aX (aI ?_)
 cases h0
 exact dG (rs:=[.cell 2 29, .tmp 3]) [4,5] rfl
 refine cX (bB (aG (sq [0,1,2] (rP rfl (pbl (C0:=[ze,zl,zl,z0]) tok rfl rfl rfl) (bst tok ?_)))))
 refine pa (nx ?_)
 refine wa 4 62 3 3 1 ?_
 refine wa 5 66 3 3 2 (aA ?_)
 cases h0
 exact dG (rs:=[.cell 2 29, .tmp 3]) [4,5] rfl
theorem eA {p0:Int} {p1:Int} {p2:Int} {r:Bool} (h0:dO p0 p1 p2=some r):FnC Tryz.prog 55 [] [dI p0,(dI p1),(dI p2)] [] (dB r):=by
 refine fi 15 tok Tryz.func55 ?_
 unfold dO at h0
 refine sq [0] (pa (nx (sq [0,1,2,3,4,5,6,7,8] ?_)))
 refine pm ?_
 refine pm ?_
 refine rP rfl (tH rfl rfl) (pm ?_)
 refine iT (u:=10) h0 rfl (fun hc h0 => ?_) (fun hc h0 => ?_)
 refine pm1 ?_
 refine pm1 ?_
 refine rp rfl (w1 rfl rfl rfl) rfl (gW rfl rfl) (pkt ?_)
 refine pa (nx (aA ?_))
 cases h0
 exact r0t 6 rfl
 iterate 3 refine k1 ?_
 refine pkf ?_
 refine pa (nx (aA ?_))
 cases h0
 exact r0t 6 rfl
theorem aBr {p0:Int} {p1:Int} {r:Int} (h0:pI p0 p1=some r):FnC Tryz.prog 161 [] [dI p0,(dI p1)] [] (dI r):=by
 refine fi 14 tok Tryz.func161 ?_
 unfold pI at h0
 refine sq [0] (pa (nx ?_))
 obtain ⟨v5,h1,h0⟩:=bnd h0
 refine bI ⟨aC ((fun _ => .dead)) 0 (dI v5),lks [.no, .no, .no]⟩ ?_ ?_
 refine aE ?_
 refine aZ (fun s3=>⟨aC (aC ((fun _ => .dead)) 0 (dI s3.1)) 1 (dI s3.2),lks [.no, .no, .no]⟩) h1 ?_ (fun s3 y h2 => ?_)
 exact wk [0,1,2]
 refine aB (sq [0,1] (pm ?_))
 refine rP rfl (gT rfl rfl) (nx ?_)
 refine bC h2 rfl (fun hc h2 => ?_) (fun hc h2 => ?_)
 refine sk (aE (sq [0,1,2,3] (pm ?_)))
 refine pm ?_
 obtain ⟨hq4,h2⟩:=cO h2
 refine rP rfl (kU rfl rfl hq4) (pa (nx (sq [0,1] ?_)))
 refine pm ?_
 refine pa (nx (sr [0,1] ?_))
 refine pm ?_
 refine pa (aY ?_)
 refine bB (bS ?_)
 cases h2
 refine ⟨_,rfl,?_⟩
 exact wk [0,1,2]
 refine bF (bT ?_)
 cases h2
 refine bU ⟨_,rfl,fun e => ?_⟩
 subst e
 refine aQ (aG ?_)
 exact wk [0,1,2]
 refine sq [0,1] (pm ?_)
 refine pa (nx (aA ?_))
 cases h0
 exact r0t 4 rfl
theorem aCg {p0:List aO} {r:Int × Bool} (h0:nU p0=some r):FnC Tryz.prog 104 [] [dL aK p0] [] (.tup [dI r.1,(dB r.2)]):=by
 refine fi 55 tok Tryz.func104 ?_
 unfold nU at h0
 refine sq [0,1] (pa ?_)
 refine pa (nx (sq [0] ?_))
 refine pa (nx ?_)
 obtain ⟨v23x,h1,h0⟩:=bnd h0
 refine dH v23x (fun v23=>⟨aC (aC ((fun _ => .dead)) 0 (dL aK p0)) 4 (dI v23),lks [.no, .no, .no]⟩) ?_ ?_
 refine sq [0] (pa (nx (aE ?_)))
 refine aZ (fun s12=>⟨aC (aC (aC ((fun _ => .dead)) 0 (dL aK p0)) 4 (dI s12.1)) 5 (dI s12.2),lks [.no, .no, .no]⟩) h1 ?_ (fun s12 y h2 => ?_)
 exact wk [0,1,2]
 refine aB (sq [0,1,2,3] (pm ?_))
 refine pm ?_
 refine rP rfl (aJ tok rfl rfl rfl) (rP rfl (bK rfl rfl) (nx ?_))
 refine bC h2 rfl (fun hc h2 => ?_) (fun hc h2 => ?_)
 refine sk (aB (aE (aB ?_)))
 obtain ⟨v18,h3,h2⟩:=bnd h2
 refine bI ⟨aC (aC (aC (aC ((fun _ => .dead)) 0 (dL aK p0)) 4 (dI s12.1)) 5 (dI s12.2)) 33 (dB v18),lks [.no, .no, .no]⟩ ?_ ?_
 refine aH (is:=[0,1,2,3,4,5,6,7,8,9,10,11,12,13,14,15,16,17,18,19,20,21]) [0,0,3,7,15,31,63,127,255,255,1023,2047,4095,255,255,24831,57599,123135,254207,524287,1048575,2097151] follows (by kernel_rfl) (tpm ?_)
 refine tpm ?_
 obtain ⟨v13,hv13,h3⟩:=bnd h3
 refine tP rfl (cE tok hv13 rfl rfl rfl rfl rfl rfl) (tfr tok ?_)
 refine tlr tok ?_
 obtain ⟨v14,hv14,h3⟩:=bnd h3
 refine jW rfl w0 rfl (cV 3 (eA hv14) rfl rfl rfl) (tP rfl (bW rfl) (tpm ?_))
 refine tL (u:=19) h3 rfl (fun hc h3 => ?_) (fun hc h3 => ?_)
 iterate 13 refine k2 ?_
 refine aBv ?_
 refine bN ?_
 refine ⟨by kernel_rfl,?_⟩
 refine aG ?_
 cases h3
 exact wk [0,1,2]
 refine aIv ?_
 refine aIv ?_
 obtain ⟨v15,hv15,h3⟩:=bnd h3
 refine rF rfl (w1 rfl rfl rfl) rfl (cE tok hv15 rfl rfl rfl rfl rfl rfl) (aK9 tok ?_)
 refine aOl tok ?_
 refine aIv ?_
 refine aIv ?_
 obtain ⟨v16,hv16,h3⟩:=bnd h3
 refine rF rfl (w1 rfl rfl rfl) rfl (cE tok hv16 rfl rfl rfl rfl rfl rfl) (aK9 tok ?_)
 refine aOl tok ?_
 refine rF rfl (w1 rfl rfl rfl) rfl (gX rfl rfl) ?_
 obtain ⟨v17,hv17,h3⟩:=bnd h3
 refine jW rfl (w1 rfl rfl rfl) rfl (cV 3 (eA hv17) rfl rfl rfl) (rF rfl (w1 rfl rfl rfl) rfl (bW rfl) (aBu ?_))
 refine bN ?_
 refine ⟨by kernel_rfl,?_⟩
 refine aG ?_
 cases h3
 refine mG.trans_ (mB (d:=23) (ds:=cI v15.Rest) rfl (by repeat (first | exact Pre.z _ | apply Pre.t))) (mG.trans_ (mB (d:=28) (ds:=cI v16.Every) rfl (by repeat (first | exact Pre.z _ | apply Pre.t))) ?_)
 exact wk [0,1,2]
 refine bM h2 rfl (fun hc h2 => ?_) (fun hc h2 => ?_)
 refine sq [0,1] (pa ?_)
 refine pa (nx (aA (aI ?_)))
 refine aX (aI ?_)
 cases h2
 refine dM ⟨_,rfl,fun e => ?_⟩
 subst e
 refine aX ?_
 replace h0:=eT h0
 refine aI ?_
 cases h0
 exact gU (rs:=[.tmp 2, .tmp 3]) rfl
 refine sk (aB (aH (is:=[0,1,2,3,4,5,6,9,10,11,12,13,7,8,14,15]) [0,0,0,0,12,28,60,126,255,0,0,1536,3584,7680,16383,32767] follows (by kernel_rfl) ?_))
 iterate 4 refine tpm ?_
 obtain ⟨v19,hv19,h2⟩:=bnd h2
 refine tP rfl (cE tok hv19 rfl rfl rfl rfl rfl rfl) (tfr tok ?_)
 refine tlr tok ?_
 refine tpm ?_
 refine tpm ?_
 obtain ⟨v20,hv20,h2⟩:=bnd h2
 refine tP rfl (cE tok hv20 rfl rfl rfl rfl rfl rfl) (tfr tok ?_)
 refine tlr tok ?_
 obtain ⟨v21,hv21,h2⟩:=bnd h2
 refine jW rfl w0 rfl (cV 3 (aBr hv21) rfl rfl rfl) ?_
 obtain ⟨hq22,h2⟩:=cO h2
 refine tP rfl (tK rfl rfl hq22) (tP rfl (eL rfl rfl) (tpa ?_))
 refine bN ?_
 refine ⟨by kernel_rfl,?_⟩
 refine aG (sq [0,1] (pm ?_))
 refine rP rfl (gT rfl rfl) (nx ?_)
 refine bC h2 rfl (fun hc h2 => ?_) (fun hc h2 => ?_)
 refine sq [0,1] (pa ?_)
 refine pa (nx (aA ?_))
 refine aX (aI ?_)
 cases h2
 refine dM ⟨_,rfl,fun e => ?_⟩
 subst e
 refine aX ?_
 replace h0:=eT h0
 refine aI ?_
 cases h0
 exact gU (rs:=[.tmp 2, .tmp 3]) rfl
 refine cX (bB (aG (sr [0,1,2] (pm ?_))))
 refine rP rfl (bH rfl rfl) (pa (aY ?_))
 refine bS ?_
 cases h2
 refine ⟨_,rfl,?_⟩
 exact wk [0,1,2]
 refine bF (bT ?_)
 cases h2
 refine bU ⟨_,rfl,fun e => ?_⟩
 subst e
 refine aQ (aG ?_)
 refine ⟨_,rfl,?_⟩
 exact wk [0,1,2]
 rintro v23 rfl
 replace h0:=gS h0
 refine sq [0,1,2,3,4,5] (pm ?_)
 refine pm ?_
 refine rP rfl (aJ tok rfl rfl rfl) (rP rfl (gW rfl rfl) (pa ?_))
 refine pa (nx (aA ?_))
 cases h0
 exact gU (rs:=[.tmp 2, .tmp 3]) rfl
theorem aB7 {p0:Int} {r:Bool} (h0:nQ p0=some r):FnC Tryz.prog 106 [] [.d (.v (.int .u8 p0))] [] (dB r):=by
 refine fi 9 tok Tryz.func106 ?_
 unfold nQ at h0
 refine sq [0] (pa (nx (sq [0,1,2,3,4,5,6] ?_)))
 refine pm ?_
 refine rP rfl (tH rfl rfl) (pm ?_)
 refine iT (u:=5) h0 rfl (fun hc h0 => ?_) (fun hc h0 => ?_)
 refine pm1 ?_
 refine rp rfl (w1 rfl rfl rfl) rfl (gW rfl rfl) (pkt ?_)
 refine pa (nx (aA ?_))
 cases h0
 exact r0t 2 rfl
 refine k1 ?_
 refine k1 ?_
 refine pkf ?_
 refine pa (nx (aA ?_))
 cases h0
 exact r0t 2 rfl
theorem aKi {p0:Int} {r:Bool} (h0:qO p0=some r):FnC Tryz.prog 107 [] [.d (.v (.int .u8 p0))] [] (dB r):=by
 refine fi 9 tok Tryz.func107 ?_
 unfold qO at h0
 refine sq [0] (pa (nx (sq [0,1,2,3,4,5,6] ?_)))
 refine pm ?_
 refine rP rfl (tH rfl rfl) (pm ?_)
 refine iT (u:=5) h0 rfl (fun hc h0 => ?_) (fun hc h0 => ?_)
 refine pm1 ?_
 refine rp rfl (w1 rfl rfl rfl) rfl (gW rfl rfl) (pkt ?_)
 refine pa (nx (aA ?_))
 cases h0
 exact r0t 2 rfl
 refine k1 ?_
 refine k1 ?_
 refine pkf ?_
 refine pa (nx (aA ?_))
 cases h0
 exact r0t 2 rfl
theorem uQ {p0:ByteArray} {r:Bool} (h0:lX p0=some r):FnC Tryz.prog 54 [] [dS p0] [] (dB r):=by
 refine fi 41 tok Tryz.func54 ?_
 unfold lX at h0
 refine sq [0] (pa (nx (aB ?_)))
 obtain ⟨v3,h1,h0⟩:=bnd h0
 refine bI ⟨aC (aC ((fun _ => .dead)) 0 (dS p0)) 16 (dB v3),lks [.no, .no, .no]⟩ ?_ ?_
 refine sr [0,1,2,3,4,5,6,7,8,9,10,11,12] (pm ?_)
 refine rP rfl (pH rfl rfl) (pm ?_)
 refine iT (u:=6) h1 rfl (fun hc h1 => ?_) (fun hc h1 => ?_)
 iterate 3 refine k1 ?_
 refine pkt ?_
 refine pm ?_
 iterate 4 refine k1 ?_
 refine pkt (nx ?_)
 cases h1
 exact wk [0,1,2]
 refine pm1 ?_
 refine rp rfl (w1 rfl rfl rfl) rfl (yF tok rfl rfl rfl) (rp rfl (w1 rfl rfl rfl) rfl (gT rfl rfl) (pkf ?_))
 refine pm ?_
 refine iT (u:=11) h1 rfl (fun hc h1 => ?_) (fun hc h1 => ?_)
 iterate 4 refine k1 ?_
 refine pkt (nx ?_)
 cases h1
 exact wk [0,1,2]
 refine pm1 ?_
 obtain ⟨v1,hv1,h1⟩:=bnd h1
 refine rp rfl (w1 rfl rfl rfl) rfl (aIb tok hv1 rfl rfl rfl rfl) ?_
 obtain ⟨v2,hv2,h1⟩:=bnd h1
 refine rs rfl (w1 rfl rfl rfl) rfl (aM 3 (aB7 hv2) rfl rfl rfl) (rp rfl (w1 rfl rfl rfl) rfl (bW rfl) (pkf (nx ?_)))
 cases h1
 exact wk [0,1,2]
 refine bM h0 rfl (fun hc h0 => ?_) (fun hc h0 => ?_)
 refine sq [0] (pa (nx (aA (aI ?_))))
 cases h0
 exact r0t 2 rfl
 refine sk ?_
 obtain ⟨v18x,h1,h0⟩:=bnd h0
 refine dH v18x (fun v18=>⟨(fun _ => .dead),lks [.no, .no, .no]⟩) ?_ ?_
 refine sq [0] (pa (nx (aE ?_)))
 refine aZ (fun s11=>⟨aC (aC ((fun _ => .dead)) 0 (dS p0)) 3 (dI s11),lks [.no, .no, .no]⟩) h1 ?_ (fun s11 y h2 => ?_)
 exact wk [0,1,2]
 refine aB (sq [0,1,2,3] (pm ?_))
 refine pm ?_
 refine rP rfl (yF tok rfl rfl rfl) (rP rfl (bK rfl rfl) (nx ?_))
 refine bC h2 rfl (fun hc h2 => ?_) (fun hc h2 => ?_)
 refine sk (aB (aE ?_))
 obtain ⟨v17,h3,h2⟩:=bnd h2
 refine bI ⟨aC (aC (aC ((fun _ => .dead)) 0 (dS p0)) 3 (dI s11)) 40 (dB v17),lks [.no, .no, .no]⟩ ?_ ?_
 refine sr [0,1,2,3,4,5,6,7,8,9,10,11,12,13,14,15,16,17] (pm ?_)
 refine pm ?_
 obtain ⟨v12,hv12,h3⟩:=bnd h3
 refine rP rfl (aIb tok hv12 rfl rfl rfl rfl) ?_
 obtain ⟨v13,hv13,h3⟩:=bnd h3
 refine rS rfl (aM 3 (aB7 hv13) rfl rfl rfl) (rP rfl (bW rfl) (pm ?_))
 refine dU (u:=28) h3 rfl (fun hc h3 => ?_) (fun hc h3 => ?_)
 refine pm1 ?_
 refine pm1 ?_
 obtain ⟨v14,hv14,h3⟩:=bnd h3
 refine rp rfl (w1 rfl rfl rfl) rfl (aIb tok hv14 rfl rfl rfl rfl) ?_
 obtain ⟨v15,hv15,h3⟩:=bnd h3
 refine rs rfl (w1 rfl rfl rfl) rfl (aM 3 (aKi hv15) rfl rfl rfl) (rp rfl (w1 rfl rfl rfl) rfl (bW rfl) (pkt ?_))
 refine pm ?_
 refine dU (u:=35) h3 rfl (fun hc h3 => ?_) (fun hc h3 => ?_)
 refine pm1 ?_
 refine pm1 ?_
 obtain ⟨v16,hv16,h3⟩:=bnd h3
 refine rp rfl (w1 rfl rfl rfl) rfl (aIb tok hv16 rfl rfl rfl rfl) (rp rfl (w1 rfl rfl rfl) rfl (cQ rfl rfl) (pkt (nx ?_)))
 cases h3
 exact wk [0,1,2]
 iterate 4 refine k1 ?_
 refine pkf (nx ?_)
 cases h3
 exact wk [0,1,2]
 iterate 5 refine k1 ?_
 refine pkf ?_
 refine pm ?_
 iterate 4 refine k1 ?_
 refine pkf (nx ?_)
 cases h3
 exact wk [0,1,2]
 refine bM h2 rfl (fun hc h2 => ?_) (fun hc h2 => ?_)
 refine sq [0] (pa (nx (aA ?_)))
 refine aX (aI ?_)
 cases h2
 refine dM ⟨_,rfl,fun e => ?_⟩
 subst e
 refine aX ?_
 replace h0:=eT h0
 refine aI ?_
 cases h0
 exact r0t 2 rfl
 refine cX (bB (aG (sr [0,1,2] (pm ?_))))
 refine rP rfl (bH rfl rfl) (pa (aY ?_))
 refine bS ?_
 cases h2
 refine ⟨_,rfl,?_⟩
 exact wk [0,1,2]
 refine bF (bT ?_)
 cases h2
 refine bU ⟨_,rfl,fun e => ?_⟩
 subst e
 refine aQ (aG ?_)
 refine ⟨_,rfl,?_⟩
 exact wk [0,1,2]
 rintro v18 rfl
 replace h0:=gS h0
 refine sq [0] (pa (nx (aA ?_)))
 cases h0
 exact r0t 2 rfl
theorem aIm {p0:List bE} {r:Bool} (h0:oR p0=some r):FnC Tryz.prog 105 [] [dL aT p0] [] (dB r):=by
 refine fi 55 tok Tryz.func105 ?_
 unfold oR at h0
 refine sq [0] (pa (nx ?_))
 obtain ⟨v31x,h1,h0⟩:=bnd h0
 refine dH v31x (fun v31=>⟨aC ((fun _ => .dead)) 0 (dL aT p0),lks [.no, .no, .no]⟩) ?_ ?_
 refine sq [0] (pa (nx (aE ?_)))
 refine aZ (fun s16=>⟨aC (aC ((fun _ => .dead)) 0 (dL aT p0)) 3 (dI s16),lks [.no, .no, .no]⟩) h1 ?_ (fun s16 y h2 => ?_)
 exact wk [0,1,2]
 refine aB (sq [0,1,2,3] (pm ?_))
 refine pm ?_
 refine rP rfl (aJ tok rfl rfl rfl) (rP rfl (bK rfl rfl) (nx ?_))
 refine bC h2 rfl (fun hc h2 => ?_) (fun hc h2 => ?_)
 refine sk ?_
 obtain ⟨v30x,h3,h2⟩:=bnd h2
 refine dH v30x (fun v30=>⟨aC (aC ((fun _ => .dead)) 0 (dL aT p0)) 3 (dI s16),lks [.no, .no, .no]⟩) ?_ ?_
 refine aE (aB ?_)
 obtain ⟨v23,h4,h3⟩:=bnd h3
 refine bI ⟨aC (aC (aC ((fun _ => .dead)) 0 (dL aT p0)) 3 (dI s16)) 35 (dB v23),lks [.no, .no, .no]⟩ ?_ ?_
 refine sr [0,1,2,3,4,5,6,7,8,9,10,11,12,13,14,15,16,17,18,19,20,21,22,23,24] (pm ?_)
 refine pm ?_
 obtain ⟨v17,hv17,h4⟩:=bnd h4
 refine rP rfl (cE tok hv17 rfl rfl rfl rfl rfl rfl) (fr tok ?_)
 refine lr tok ?_
 obtain ⟨v18,hv18,h4⟩:=bnd h4
 refine rS rfl (aM 3 (uQ hv18) rfl rfl rfl) (rP rfl (bW rfl) (pm ?_))
 refine dU (u:=18) h4 rfl (fun hc h4 => ?_) (fun hc h4 => ?_)
 iterate 7 refine k1 ?_
 refine pkt ?_
 refine pm ?_
 iterate 7 refine k1 ?_
 refine pkt (nx ?_)
 cases h4
 exact wk [0,1,2]
 refine pm1 ?_
 refine pm1 ?_
 obtain ⟨v19,hv19,h4⟩:=bnd h4
 refine rp rfl (w1 rfl rfl rfl) rfl (cE tok hv19 rfl rfl rfl rfl rfl rfl) (fr1 tok ?_)
 refine lr1 tok ?_
 obtain ⟨v20,hv20,h4⟩:=bnd h4
 refine rs rfl (w1 rfl rfl rfl) rfl (aM 3 (eA hv20) rfl rfl rfl) (rp rfl (w1 rfl rfl rfl) rfl (bW rfl) (pkf ?_))
 refine pm ?_
 refine dU (u:=27) h4 rfl (fun hc h4 => ?_) (fun hc h4 => ?_)
 iterate 7 refine k1 ?_
 refine pkt (nx ?_)
 cases h4
 refine mG.trans_ (mB (d:=22) (ds:=cI v19.Days) rfl (by repeat (first | exact Pre.z _ | apply Pre.t))) ?_
 exact wk [0,1,2]
 refine pm1 ?_
 refine pm1 ?_
 obtain ⟨v21,hv21,h4⟩:=bnd h4
 refine rp rfl (w1 rfl rfl rfl) rfl (cE tok hv21 rfl rfl rfl rfl rfl rfl) (fr1 tok ?_)
 refine lr1 tok ?_
 obtain ⟨v22,hv22,h4⟩:=bnd h4
 refine rs rfl (w1 rfl rfl rfl) rfl (aM 3 (eA hv22) rfl rfl rfl) (rp rfl (w1 rfl rfl rfl) rfl (bW rfl) (pkf (nx ?_)))
 cases h4
 refine mG.trans_ (mB (d:=22) (ds:=cI v19.Days) rfl (by repeat (first | exact Pre.z _ | apply Pre.t))) (mG.trans_ (mB (d:=31) (ds:=cI v21.Leap) rfl (by repeat (first | exact Pre.z _ | apply Pre.t))) ?_)
 exact wk [0,1,2]
 refine bM h3 rfl (fun hc h3 => ?_) (fun hc h3 => ?_)
 refine sq [0] (pa (nx (aA (aI ?_))))
 refine aX ?_
 cases h3
 replace h2:=eT h2
 refine aI ?_
 cases h2
 refine dM ⟨_,rfl,fun e => ?_⟩
 subst e
 refine aX ?_
 replace h0:=eT h0
 refine aI ?_
 cases h0
 exact r0t 2 rfl
 refine sk (sq [0] (pa (nx (aE ?_))))
 refine aZ (fun s27=>⟨aC (aC (aC ((fun _ => .dead)) 0 (dL aT p0)) 3 (dI s16)) 4 (dI s27),lks [.no, .no, .no]⟩) h3 ?_ (fun s27 y h4 => ?_)
 exact wk [0,1,2]
 refine aB (sq [0,1,2] (pm ?_))
 refine pm ?_
 refine rP rfl (bK rfl rfl) (nx ?_)
 refine bC h4 rfl (fun hc h4 => ?_) (fun hc h4 => ?_)
 refine sk (aB (aE (aB (aH (is:=[0,1,2,3,4,5,6,7,8,9,10]) [0,0,3,7,15,0,0,96,224,480,1023] follows (by kernel_rfl) (tpm ?_)))))
 refine tpm ?_
 obtain ⟨v28,hv28,h4⟩:=bnd h4
 refine tP rfl (cE tok hv28 rfl rfl rfl rfl rfl rfl) (tfr tok ?_)
 refine tlr tok ?_
 refine tpm ?_
 refine tpm ?_
 obtain ⟨v29,hv29,h4⟩:=bnd h4
 refine tP rfl (cE tok hv29 rfl rfl rfl rfl rfl rfl) (tfr tok ?_)
 refine tlr tok ?_
 refine tP rfl (pH rfl rfl) (bN ?_)
 refine ⟨by kernel_rfl,?_⟩
 refine aG ?_
 refine bC h4 rfl (fun hc h4 => ?_) (fun hc h4 => ?_)
 refine sq [0] (pa (nx (aA ?_)))
 refine aX (aI ?_)
 cases h4
 refine dM ⟨_,rfl,fun e => ?_⟩
 subst e
 refine aX (aX ?_)
 replace h2:=eT h2
 refine aI ?_
 cases h2
 refine dM ⟨_,rfl,fun e => ?_⟩
 subst e
 refine aX ?_
 replace h0:=eT h0
 refine aI ?_
 cases h0
 exact r0t 2 rfl
 refine cX (bB (aG (sr [0,1,2] (pm ?_))))
 refine rP rfl (bH rfl rfl) (pa (aY ?_))
 refine bS ?_
 cases h4
 refine ⟨_,rfl,?_⟩
 exact wk [0,1,2]
 refine bF (bT ?_)
 cases h4
 refine bU ⟨_,rfl,fun e => ?_⟩
 subst e
 refine aQ ?_
 refine bB (aG ?_)
 refine ⟨_,rfl,?_⟩
 exact wk [0,1,2]
 rintro v30 rfl
 replace h2:=gS h2
 refine sr [0,1,2] (pm ?_)
 refine rP rfl (bH rfl rfl) (pa (aY ?_))
 refine bS ?_
 cases h2
 refine ⟨_,rfl,?_⟩
 exact wk [0,1,2]
 refine bF (bT ?_)
 cases h2
 refine bU ⟨_,rfl,fun e => ?_⟩
 subst e
 refine aQ (aG ?_)
 refine ⟨_,rfl,?_⟩
 exact wk [0,1,2]
 rintro v31 rfl
 replace h0:=gS h0
 refine sq [0,1,2,3] (pm ?_)
 refine rP rfl (aJ tok rfl rfl rfl) ?_
 obtain ⟨v32,hv32,h0⟩:=bnd h0
 refine rS rfl (aM 3 (eA hv32) rfl rfl rfl) (pa (nx (aA ?_)))
 cases h0
 exact r0t 2 rfl
theorem aAy {p0:aF} {r:Bool} (h0:qX p0=some r):FnC Tryz.prog 53 [] [.ref (dW p0)] [] (dB r):=by
 refine fi 35 tok Tryz.func53 ?_
 unfold qX at h0
 refine sq [0] (pa (nx (sq [0,1,2,3,4,5,6,7,8,9] ?_)))
 refine pmr ?_
 refine nr ?_
 refine fr tok ?_
 refine lr tok ?_
 obtain ⟨v1,hv1,h0⟩:=bnd h0
 refine rS rfl (aM 3 (aCg hv1) rfl rfl rfl) (rP rfl (aL (r := .tup _) rfl) (rP rfl (aN rfl rfl) (rP rfl (aN rfl rfl) (pa ?_))))
 refine pa (nx (sq [0,1,2,3,4,5,6,7,8,9,10,11,12,13,14,15,16,17,18,19,20,21,22] ?_))
 refine pm ?_
 refine pm ?_
 refine dU (u:=14) h0 rfl (fun hc h0 => ?_) (fun hc h0 => ?_)
 refine aKc ?_
 refine nr1 ?_
 refine fr1 tok ?_
 refine lr1 tok ?_
 obtain ⟨v2,hv2,h0⟩:=bnd h0
 refine rs rfl (w1 rfl rfl rfl) rfl (aM 3 (uQ hv2) rfl rfl rfl) (pkt ?_)
 refine pm ?_
 refine dU (u:=21) h0 rfl (fun hc h0 => ?_) (fun hc h0 => ?_)
 refine aKc ?_
 refine nr1 ?_
 refine fr1 tok ?_
 refine lr1 tok ?_
 obtain ⟨v3,hv3,h0⟩:=bnd h0
 refine rs rfl (w1 rfl rfl rfl) rfl (aM 3 (aIm hv3) rfl rfl rfl) (pkt ?_)
 refine pm ?_
 refine dU (u:=28) h0 rfl (fun hc h0 => ?_) (fun hc h0 => ?_)
 refine aKc ?_
 refine nr1 ?_
 refine fr1 tok ?_
 refine lr1 tok ?_
 obtain ⟨v4,hv4,h0⟩:=bnd h0
 refine rs rfl (w1 rfl rfl rfl) rfl (aM 3 (eA hv4) rfl rfl rfl) (pkt ?_)
 refine pa (nx (aA ?_))
 cases h0
 exact r0t 2 rfl
 iterate 5 refine k1 ?_
 refine pkf ?_
 refine pa (nx (aA ?_))
 cases h0
 exact r0t 2 rfl
 iterate 5 refine k1 ?_
 refine pkf ?_
 refine pm ?_
 iterate 5 refine k1 ?_
 refine pkf ?_
 refine pa (nx (aA ?_))
 cases h0
 exact r0t 2 rfl
 iterate 5 refine k1 ?_
 refine pkf ?_
 refine pm ?_
 iterate 5 refine k1 ?_
 refine pkf ?_
 refine pm ?_
 iterate 5 refine k1 ?_
 refine pkf ?_
 refine pa (nx (aA ?_))
 cases h0
 exact r0t 2 rfl
theorem qQ {p0:Int} {r:Bool} (h0:iL p0=some r):FnC Tryz.prog 56 [] [dI p0] [] (dB r):=by
 refine fi 5 tok Tryz.func56 ?_
 unfold iL at h0
 refine sq [0] (pa (nx (sq [0,1,2] ?_)))
 refine pm ?_
 obtain ⟨v1,hv1,h0⟩:=bnd h0
 refine rS rfl (aM 3 (eA hv1) rfl rfl rfl) (pa (nx (aA ?_)))
 cases h0
 exact r0t 2 rfl
theorem aKy {p0:aF} {p1:Int} {r:Bool} (h0:qZ p0 p1=some r):FnC Tryz.prog 108 [] [.ref (dW p0),(dI p1)] [] (dB r):=by
 refine fi 17 tok Tryz.func108 ?_
 unfold qZ at h0
 refine sq [0] (pa (nx (sq [0,1,2,3,4,5,6,7,8,9,10,11,12] ?_)))
 refine pm ?_
 obtain ⟨v1,hv1,h0⟩:=bnd h0
 refine rS rfl (aM 3 (eA hv1) rfl rfl rfl) (pm ?_)
 refine dU (u:=7) h0 rfl (fun hc h0 => ?_) (fun hc h0 => ?_)
 refine pm1 ?_
 refine aKc ?_
 refine nr1 ?_
 refine fr1 tok ?_
 refine lr1 tok ?_
 refine rp rfl (w1 rfl rfl rfl) rfl (aJ tok rfl rfl rfl) (rp rfl (w1 rfl rfl rfl) rfl (eL rfl rfl) (rp rfl (w1 rfl rfl rfl) rfl (gW rfl rfl) (pkt ?_)))
 refine pa (nx (aA ?_))
 cases h0
 exact r0t 4 rfl
 iterate 8 refine k1 ?_
 refine pkf ?_
 refine pa (nx (aA ?_))
 cases h0
 exact r0t 4 rfl
theorem aIn {p0:aF} {p1:Int} {r:Int} (h0:jZ p0 p1=some r):FnC Tryz.prog 109 [] [.ref (dW p0),(dI p1)] [] (dI r):=by
 refine fi 22 tok Tryz.func109 ?_
 unfold jZ at h0
 refine sq [0] (pa (nx (sq [0,1,2,3,4,5,6,7,8,9] ?_)))
 refine pmr ?_
 refine nr ?_
 refine fr tok ?_
 refine lr tok ?_
 obtain ⟨v1,hv1,h0⟩:=bnd h0
 refine rS rfl (aM 3 (aCg hv1) rfl rfl rfl) (rP rfl (aL (r := .tup _) rfl) (rP rfl (aN rfl rfl) (rP rfl (aN rfl rfl) (pa ?_))))
 refine pa (nx (sq [0,1,2,3,4,5,6,7] ?_))
 iterate 3 refine pm ?_
 obtain ⟨v2,hv2,h0⟩:=bnd h0
 refine rS rfl (aM 3 (aBr hv2) rfl rfl rfl) ?_
 obtain ⟨hq3,h0⟩:=cO h0
 refine rP rfl (tK rfl rfl hq3) (pm ?_)
 refine rP rfl (eL rfl rfl) (pa (nx (aA ?_)))
 cases h0
 exact r0t 4 rfl
theorem aE0 {p0:aF} {p1:Int} {r:Bool} (h0:pR p0 p1=some r):FnC Tryz.prog 162 [] [.ref (dW p0),(dI p1)] [] (dB r):=by
 refine fi 44 tok Tryz.func162 ?_
 unfold pR at h0
 refine sq [0] (pa (nx (sq [0] ?_)))
 refine pa (nx ?_)
 obtain ⟨v13,h1,h0⟩:=bnd h0
 refine bI ⟨aC ((fun _ => .dead)) 5 (dB v13),lks [.no, .no, .no]⟩ ?_ ?_
 refine sq [0] (pa (nx (aE ?_)))
 refine aZ (fun s7=>⟨aC (aC (aC (aC ((fun _ => .dead)) 0 (.ref (dW p0))) 1 (dI p1)) 5 (dB s7.1)) 6 (dI s7.2),lks [.no, .no, .no]⟩) h1 ?_ (fun s7 y h2 => ?_)
 exact wk [0,1,2]
 refine aB (sq [0,1,2,3,4,5,6] (pm ?_))
 refine pmr ?_
 refine nr ?_
 refine fr tok ?_
 refine lr tok ?_
 refine rP rfl (aJ tok rfl rfl rfl) (rP rfl (bK rfl rfl) (nx ?_))
 refine bC h2 rfl (fun hc h2 => ?_) (fun hc h2 => ?_)
 refine sk ?_
 obtain ⟨v12,h3,h2⟩:=bnd h2
 refine bI ⟨aC (aC (aC (aC ((fun _ => .dead)) 0 (.ref (dW p0))) 1 (dI p1)) 5 (dB v12)) 6 (dI s7.2),lks [.no, .no, .no]⟩ ?_ ?_
 refine aE (aB (aH (is:=[0,1,2,3,4,5,6,7,8,9,10,11,12,13,14,15,16,17,18]) [0,0,2,6,14,0,62,126,254,511,0,1024,3072,7168,0,31744,64512,130048,262143] follows (by kernel_rfl) (tpm ?_)))
 refine yQ ?_
 refine tnr ?_
 refine tfr tok ?_
 refine tlr tok ?_
 refine tpm ?_
 obtain ⟨v8,hv8,h3⟩:=bnd h3
 refine tP rfl (cE tok hv8 rfl rfl rfl rfl rfl rfl) (tfr tok ?_)
 refine tlr tok ?_
 obtain ⟨hq9,h3⟩:=cO h3
 refine tP rfl (kU rfl rfl hq9) (yQ ?_)
 refine tnr ?_
 refine tfr tok ?_
 refine tlr tok ?_
 refine tpm ?_
 obtain ⟨v10,hv10,h3⟩:=bnd h3
 refine tP rfl (cE tok hv10 rfl rfl rfl rfl rfl rfl) (tfr tok ?_)
 refine tlr tok ?_
 refine tP rfl (iX rfl rfl) (bN ?_)
 refine ⟨by kernel_rfl,?_⟩
 refine aG ?_
 refine bC h3 rfl (fun hc h3 => ?_) (fun hc h3 => ?_)
 refine sr [0,1,2,3,4,5,6,7,8] (pmr ?_)
 refine nr ?_
 refine fr tok ?_
 refine lr tok ?_
 refine pm ?_
 obtain ⟨v11,hv11,h3⟩:=bnd h3
 refine rP rfl (cE tok hv11 rfl rfl rfl rfl rfl rfl) (fr tok ?_)
 refine lr tok ?_
 refine pa (aY ?_)
 refine bB (aG ?_)
 cases h3
 exact wk [0,1,2]
 refine cX (bB (aG ?_))
 cases h3
 exact wk [0,1,2]
 refine sr [0,1,2] (pm ?_)
 refine rP rfl (bH rfl rfl) (pa (aY ?_))
 refine bS ?_
 cases h2
 refine ⟨_,rfl,?_⟩
 exact wk [0,1,2]
 refine bF (bT ?_)
 cases h2
 refine bU ⟨_,rfl,fun e => ?_⟩
 subst e
 refine aQ (aG ?_)
 exact wk [0,1,2]
 refine sq [0,1] (pm ?_)
 refine pa (nx (aA ?_))
 cases h0
 exact r0t 4 rfl
theorem aPh {p0:Int} {p1:Int} {r:Int} (h0:uS p0 p1=some r):FnC Tryz.prog 163 [] [dI p0,(dI p1)] [] (dI r):=by
 refine fi 10 tok Tryz.func163 ?_
 unfold uS at h0
 refine sq [0] (pa (nx (aB (sq [0,1,2] ?_))))
 refine pm ?_
 refine pm ?_
 refine rP rfl (bK rfl rfl) (nx ?_)
 refine bC h0 rfl (fun hc h0 => ?_) (fun hc h0 => ?_)
 refine sq [0,1] (pm ?_)
 refine pa (nx (aA (aI ?_)))
 cases h0
 exact r0t 4 rfl
 refine sk (sq [0,1] (pm ?_))
 refine pa (nx (aA ?_))
 cases h0
 exact r0t 4 rfl
theorem aKw {p0:aF} {p1:Int} {p2:Int} {p3:Int} {p4:Int} {r:Int} (h0:gH p0 p1 p2 p3 p4=some r):FnC Tryz.prog 110 [] [.ref (dW p0),(dI p1),(dI p2),(dI p3),(dI p4)] [] (dI r):=by
 refine fi 62 tok Tryz.func110 ?_
 unfold gH at h0
 refine sq [0] (pa (nx (sq [0] ?_)))
 refine pa (nx (sq [0] ?_))
 refine pa (nx ?_)
 obtain ⟨v7,h1,h0⟩:=bnd h0
 refine bI ⟨aC (aC (aC (aC ((fun _ => .dead)) 0 (.ref (dW p0))) 4 (dI p4)) 11 (dI v7.1)) 12 (dI v7.2),lks [.no, .no, .no]⟩ ?_ ?_
 refine sq [0,1] (pm ?_)
 refine pa (nx (aE ?_))
 refine aZ (fun s4=>⟨aC (aC (aC (aC (aC (aC (aC ((fun _ => .dead)) 0 (.ref (dW p0))) 2 (dI p2)) 3 (dI p3)) 4 (dI p4)) 11 (dI s4.1)) 12 (dI s4.2.1)) 13 (dI s4.2.2),lks [.no, .no, .no]⟩) h1 ?_ (fun s4 y h2 => ?_)
 exact wk [0,1,2]
 refine aB (sq [0,1,2] (pm ?_))
 refine pm ?_
 refine rP rfl (bK rfl rfl) (nx ?_)
 refine bC h2 rfl (fun hc h2 => ?_) (fun hc h2 => ?_)
 refine sk ?_
 obtain ⟨v6,h3,h2⟩:=bnd h2
 refine bI ⟨aC (aC (aC (aC (aC (aC (aC ((fun _ => .dead)) 0 (.ref (dW p0))) 2 (dI p2)) 3 (dI p3)) 4 (dI p4)) 11 (dI v6)) 12 (dI (w64 (s4.2.1+1)))) 13 (dI s4.2.2),lks [.no, .no, .no]⟩ ?_ ?_
 refine aE (sq [0,1,2] (pm ?_))
 refine rP rfl (bH rfl rfl) (pa (nx (sq [0,1,2] ?_)))
 refine pmr ?_
 refine pm ?_
 obtain ⟨v5,hv5,h3⟩:=bnd h3
 refine rS rfl (aM 3 (aE0 hv5) rfl rfl rfl) (nx ?_)
 refine bM h3 rfl (fun hc h3 => ?_) (fun hc h3 => ?_)
 refine sr [0,1,2] (pm ?_)
 refine rP rfl (bH rfl rfl) (pa (aY ?_))
 refine bB (aG ?_)
 cases h3
 exact wk [0,1,2]
 refine cX (bB (aG ?_))
 cases h3
 exact wk [0,1,2]
 refine sr [0,1,2,3] (pm ?_)
 refine pm ?_
 refine rP rfl (bH rfl rfl) (pa (aY ?_))
 refine bS ?_
 cases h2
 refine ⟨_,rfl,?_⟩
 exact wk [0,1,2]
 refine bF (bT ?_)
 cases h2
 refine bU ⟨_,rfl,fun e => ?_⟩
 subst e
 refine aQ (aG ?_)
 exact wk [0,1,2]
 refine sq [0,1,2,3,4,5,6] (pmr ?_)
 refine nr ?_
 refine fr tok ?_
 refine lr tok ?_
 refine pm ?_
 obtain ⟨v8,hv8,h0⟩:=bnd h0
 refine rP rfl (cE tok hv8 rfl rfl rfl rfl rfl rfl) (par (nx (aB (aE (sq [0,1,2,3,4] ?_)))))
 refine pm ?_
 refine rP rfl (eL rfl rfl) (pm ?_)
 refine rP rfl (gT rfl rfl) (pa (nx ?_))
 refine bC h0 rfl (fun hc h0 => ?_) (fun hc h0 => ?_)
 refine sq [0,1,2,3,4] (pmr ?_)
 refine nr ?_
 refine fr tok ?_
 refine lr tok ?_
 refine pa (nx (aA ?_))
 refine aX (aI ?_)
 cases h0
 exact r0t 10 rfl
 refine sq [0,1,2,3,4] (pm ?_)
 refine rP rfl (eL rfl rfl) (pm ?_)
 refine rP rfl (bK rfl rfl) (pa (nx ?_))
 refine bC h0 rfl (fun hc h0 => ?_) (fun hc h0 => ?_)
 refine sq [0,1,2,3,4] (pmr ?_)
 refine nr ?_
 refine fr tok ?_
 refine lr tok ?_
 refine pa (nx (aA ?_))
 refine aX (aI ?_)
 cases h0
 exact r0t 10 rfl
 refine cX (bB (aG (aB (aH (is:=[0,1,2,3,4,5,6,7,8,9]) [0,1,3,7,0,16,48,112,255,511] follows (by kernel_rfl) (yQ ?_)))))
 refine tnr ?_
 refine tfr tok ?_
 refine tlr tok ?_
 refine yQ ?_
 refine tnr ?_
 refine tfr tok ?_
 refine tlr tok ?_
 obtain ⟨v9,hv9,h0⟩:=bnd h0
 refine jW rfl w0 rfl (cV 3 (aPh hv9) rfl rfl rfl) (tpa ?_)
 refine bN ?_
 refine ⟨by kernel_rfl,?_⟩
 refine aG (aA ?_)
 cases h0
 exact r0t 10 rfl
theorem aEz {p0:aF} {p1:Int} {p2:Int} {r:Int} (h0:pO p0 p1 p2=some r):FnC Tryz.prog 195 [] [.ref (dW p0),(dI p1),(dI p2)] [] (dI r):=by
 refine fi 26 tok Tryz.func195 ?_
 unfold pO at h0
 refine sq [0] (pa (nx (aB (sq [0,1,2] ?_))))
 refine pmr ?_
 refine pm ?_
 obtain ⟨v1,hv1,h0⟩:=bnd h0
 refine rS rfl (aM 3 (aE0 hv1) rfl rfl rfl) (nx ?_)
 refine bM h0 rfl (fun hc h0 => ?_) (fun hc h0 => ?_)
 refine sq [0,1,2,3,4,5,6,7,8] (pmr ?_)
 refine nr ?_
 refine fr tok ?_
 refine lr tok ?_
 refine pm ?_
 obtain ⟨v2,hv2,h0⟩:=bnd h0
 refine rP rfl (cE tok hv2 rfl rfl rfl rfl rfl rfl) (fr tok ?_)
 refine lr tok ?_
 refine pa (nx (aA (aI ?_)))
 cases h0
 exact r0t 6 rfl
 refine sk (sq [0,1,2,3,4,5,6,7,8] (pmr ?_))
 refine nr ?_
 refine fr tok ?_
 refine lr tok ?_
 refine pm ?_
 obtain ⟨v3,hv3,h0⟩:=bnd h0
 refine rP rfl (cE tok hv3 rfl rfl rfl rfl rfl rfl) (fr tok ?_)
 refine lr tok ?_
 refine pa (nx (aA ?_))
 cases h0
 exact r0t 6 rfl
theorem aKv {p0:aF} {p1:List Int} {p2:Int} {p3:Int} {r:rT × Bool} (h0:qY p0 p1 p2 p3=some r):FnC Tryz.prog 164 [] [.ref (dW p0),(dL cI p1),(dI p2),(dI p3)] [] (.tup [.agg [dI r.1.Year,(dI r.1.Month),(dI r.1.Shown),(dI r.1.Right)],(dB r.2)]):=by
 refine fi 49 tok Tryz.func164 ?_
 unfold qY at h0
 refine sq [0,1] (al 3 [z0,z0,z0,z0] tok ?_)
 refine pa (nx (sq [0,1,2,3,4,5,6,7,8] ?_))
 refine pm ?_
 refine rP rfl (aJ tok rfl rfl rfl) (pmr ?_)
 refine nr ?_
 refine fr tok ?_
 refine lr tok ?_
 refine rP rfl (aJ tok rfl rfl rfl) ?_
 obtain ⟨hq1,h0⟩:=cO h0
 refine rP rfl (tK rfl rfl hq1) (pa (nx (sq [0,1,2,3,4,5,6,7,8,9] ?_)))
 refine pm ?_
 refine pm ?_
 refine rP rfl (bH rfl rfl) (pmr ?_)
 refine pm ?_
 refine pm ?_
 obtain ⟨v2,hv2,h0⟩:=bnd h0
 refine rS rfl (aM 4 (aEz hv2) rfl rfl rfl) (rP rfl (pbl (C0:=[z0,z0,z0,z0]) tok rfl rfl rfl) (al 4 [z0,z0,z0,z0] tok ?_))
 refine bst tok (nx (aB ?_))
 refine aH (is:=[0,1,2,3,4,5,6,7,8,9,10,11,12,13,14,15]) [0,0,0,6,0,16,48,112,240,510,0,2046,4095,8191,16383,32767] follows (by kernel_rfl) ?_
 iterate 3 refine tpm ?_
 obtain ⟨hq3,h0⟩:=cO h0
 refine tP rfl (kU rfl rfl hq3) (yQ ?_)
 refine tnr ?_
 refine tfr tok ?_
 refine tlr tok ?_
 refine tP rfl (aJ tok rfl rfl rfl) (tP rfl (eL rfl rfl) (tpm ?_))
 refine tP rfl (bH rfl rfl) ?_
 obtain ⟨v4,hv4,h0⟩:=bnd h0
 refine tP rfl (cE tok hv4 rfl rfl rfl rfl rfl rfl) (tlr tok ?_)
 refine tfa tok ?_
 refine oN rfl w0 (jA (cs:=[.d _]) tok rfl rfl rfl rfl rfl rfl rfl) (bN ?_)
 refine ⟨by kernel_rfl,?_⟩
 refine aG (aB (aH (is:=[0,1,2,3,4,5,6,7]) [0,0,2,0,8,30,1,127] follows (by kernel_rfl) (cZ rfl w0 rfl (bA tok rfl rfl rfl rfl) rfl rfl rfl (tfa tok ?_))))
 refine tld tok ?_
 refine tfa tok ?_
 refine tld tok ?_
 refine tP rfl (cQ rfl rfl) (oN rfl w0 (jA (cs:=_ :: _) tok rfl rfl rfl rfl rfl rfl rfl) (tpa ?_))
 refine bN ?_
 refine ⟨by kernel_rfl,?_⟩
 refine aG (aA ?_)
 cases h0
 exact gU (rs:=[.cell 8 204, .tmp 9]) rfl
theorem aKu {p0:aF} {p1:List Int} {p2:Int} {r:Int} (h0:nV p0 p1 p2=some r):FnC Tryz.prog 111 [] [.ref (dW p0),(dL cI p1),(dI p2)] [] (dI r):=by
 refine fi 38 tok Tryz.func111 ?_
 unfold nV at h0
 refine sq [0] (pa (nx (sq [0] ?_)))
 refine pa (nx ?_)
 obtain ⟨v17,h1,h0⟩:=bnd h0
 refine bI ⟨aC ((fun _ => .dead)) 7 (dI v17),lks [.no, .no, .no]⟩ ?_ ?_
 refine sq [0] (pa (nx (aE ?_)))
 refine aZ (fun s9=>⟨aC (aC (aC (aC (aC ((fun _ => .dead)) 0 (.ref (dW p0))) 1 (dL cI p1)) 2 (dI p2)) 7 (dI s9.1)) 8 (dI s9.2),lks [.no, .no, .no]⟩) h1 ?_ (fun s9 y h2 => ?_)
 exact wk [0,1,2]
 refine aB (sq [0,1,2] (pm ?_))
 refine pm ?_
 refine rP rfl (bK rfl rfl) (nx ?_)
 refine bC h2 rfl (fun hc h2 => ?_) (fun hc h2 => ?_)
 refine sk ?_
 obtain ⟨v16,h3,h2⟩:=bnd h2
 refine bI ⟨aC (aC (aC (aC (aC ((fun _ => .dead)) 0 (.ref (dW p0))) 1 (dL cI p1)) 2 (dI p2)) 7 (dI v16)) 8 (dI s9.2),lks [.no, .no, .no]⟩ ?_ ?_
 refine aE (sq [0] (pa (nx (aE ?_))))
 refine aZ (fun s13=>⟨aC (aC (aC (aC (aC (aC ((fun _ => .dead)) 0 (.ref (dW p0))) 1 (dL cI p1)) 2 (dI p2)) 7 (dI s13.1)) 8 (dI s9.2)) 9 (dI s13.2),lks [.no, .no, .no]⟩) h3 ?_ (fun s13 y h4 => ?_)
 exact wk [0,1,2]
 refine aB (sq [0,1,2,3,4,5,6] (pm ?_))
 refine pmr ?_
 refine nr ?_
 refine fr tok ?_
 refine lr tok ?_
 refine rP rfl (aJ tok rfl rfl rfl) (rP rfl (bK rfl rfl) (nx ?_))
 refine bC h4 rfl (fun hc h4 => ?_) (fun hc h4 => ?_)
 refine sk ?_
 obtain ⟨v15,h5,h4⟩:=bnd h4
 refine bI ⟨aC (aC (aC (aC (aC (aC ((fun _ => .dead)) 0 (.ref (dW p0))) 1 (dL cI p1)) 2 (dI p2)) 7 (dI v15)) 8 (dI s9.2)) 9 (dI s13.2),lks [.no, .no, .no]⟩ ?_ ?_
 refine aE (sq [0,1,2,3,4,5,6,7,8,9,10] (pmr ?_))
 iterate 3 refine pm ?_
 obtain ⟨v14,hv14,h5⟩:=bnd h5
 refine rS rfl (aM 3 (aKv hv14) rfl rfl rfl) (rP rfl (aL (r := .tup _) rfl) (rP rfl (aN rfl rfl) (rP rfl (aN rfl rfl) (al 3 [z0,z0,z0,z0] tok ?_))))
 refine bst tok ?_
 refine pa (nx (sq [0] ?_))
 refine pm (nx ?_)
 refine bM h5 rfl (fun hc h5 => ?_) (fun hc h5 => ?_)
 refine sr [0,1,2] (pm ?_)
 refine rP rfl (bH rfl rfl) (pa (aY ?_))
 refine bB (aG ?_)
 cases h5
 exact wk [0,1,2]
 refine cX (bB (aG ?_))
 cases h5
 exact wk [0,1,2]
 refine sr [0,1,2] (pm ?_)
 refine rP rfl (bH rfl rfl) (pa (aY ?_))
 refine bS ?_
 cases h4
 refine ⟨_,rfl,?_⟩
 exact wk [0,1,2]
 refine bF (bT ?_)
 cases h4
 refine bU ⟨_,rfl,fun e => ?_⟩
 subst e
 refine aQ ?_
 refine bB (aG ?_)
 exact wk [0,1,2]
 refine sr [0,1,2] (pm ?_)
 refine rP rfl (bH rfl rfl) (pa (aY ?_))
 refine bS ?_
 cases h2
 refine ⟨_,rfl,?_⟩
 exact wk [0,1,2]
 refine bF (bT ?_)
 cases h2
 refine bU ⟨_,rfl,fun e => ?_⟩
 subst e
 refine aQ (aG ?_)
 exact wk [0,1,2]
 refine sq [0,1] (pm ?_)
 refine pa (nx (aA ?_))
 cases h0
 exact r0t 6 rfl
theorem aMt {p0:aF} {p1:Int} {r:List Int × Int × Int} (h0:nB p0 p1=some r):FnC Tryz.prog 57 [] [.agg [dS p0.Name,(dL aT p0.Months),(dL aK p0.Rules),(dI p0.Week)],(dI p1)] [.live [⟨2,1, .data (List.map cI r.1)⟩]] (.tup [.own 0 0 r.1.length,(dI r.2.1),(dI r.2.2)]):=by
 refine fi 43 tok Tryz.func57 ?_
 unfold nB at h0
 refine sq [0,1,2,3] (bxx 3 ?_)
 iterate 3 refine pa ?_
 refine nx (aB (sq [0,1] ?_))
 obtain ⟨v1,hv1,h0⟩:=bnd h0
 refine rS rfl (eW 4 (aAy hv1) rfl rfl) (rP rfl (bW rfl) (nx ?_))
 refine bM h0 rfl (fun hc h0 => ?_) (fun hc h0 => ?_)
 refine sq [0,1,2] ?_
 iterate 3 refine pa ?_
 refine nx (cN (cW 4 rfl 2 1 (d:=4) rfl) (aA (aI ?_)))
 cases h0
 exact dG (rs:=[.tmp 4, .tmp 5, .tmp 6]) [4] rfl
 refine sk (aB (sq [0,1,2] (pm ?_)))
 obtain ⟨v2,hv2,h0⟩:=bnd h0
 refine rS rfl (eW 4 (aKy hv2) rfl rfl) (rP rfl (bW rfl) (nx ?_))
 refine bM h0 rfl (fun hc h0 => ?_) (fun hc h0 => ?_)
 refine sq [0,1,2] ?_
 iterate 3 refine pa ?_
 refine nx (cN (cW 4 rfl 2 1 (d:=4) rfl) (aA (aI ?_)))
 cases h0
 exact dG (rs:=[.tmp 4, .tmp 5, .tmp 6]) [4] rfl
 refine sk (sq [0,1,2] (pm ?_))
 obtain ⟨v3,hv3,h0⟩:=bnd h0
 refine rS rfl (eW 4 (aIn hv3) rfl rfl) (pa (nx (sq [0,1] ?_)))
 refine rS rfl (eQ 4 tok rfl rfl rfl rfl) (rP rfl (aR (r := .own _ _ _) rfl) (nx ?_))
 obtain ⟨v20,h1,h0⟩:=bnd h0
 refine bI ⟨aC (aC (aC ((fun _ => .dead)) 2 (.ptr 3 0 1 0 0)) 7 (dI v3)) 8 (.own 4 0 (v20).length),lks [.no, .no, .no, .live [⟨29,4, .av [[dS p0.Name,(dL aT p0.Months),(dL aK p0.Rules),(dI p0.Week)]]⟩], .live [⟨2,1, .data (List.map cI v20)⟩]]⟩ ?_ ?_
 refine sq [0] (pa (nx (aE ?_)))
 refine aZ (fun s12=>⟨aC (aC (aC (aC (aC ((fun _ => .dead)) 1 (dI p1)) 2 (.ptr 3 0 1 0 0)) 7 (dI v3)) 8 (.own 4 0 (s12.2).length)) 9 (dI s12.1),lks [.no, .no, .no, .live [⟨29,4, .av [[dS p0.Name,(dL aT p0.Months),(dL aK p0.Rules),(dI p0.Week)]]⟩], .live [⟨2,1, .data (List.map cI s12.2)⟩]]⟩) h1 ?_ (fun s12 y h2 => ?_)
 exact wk [0,1,2,3,4]
 refine aB (sq [0,1,2] (pm ?_))
 refine pm ?_
 refine rP rfl (bK rfl rfl) (nx ?_)
 refine bC h2 rfl (fun hc h2 => ?_) (fun hc h2 => ?_)
 refine sk ?_
 obtain ⟨v19,h3,h2⟩:=bnd h2
 refine bI ⟨aC (aC (aC (aC (aC ((fun _ => .dead)) 1 (dI p1)) 2 (.ptr 3 0 1 0 0)) 7 (dI v3)) 8 (.own 4 0 (v19).length)) 9 (dI s12.1),lks [.no, .no, .no, .live [⟨29,4, .av [[dS p0.Name,(dL aT p0.Months),(dL aK p0.Rules),(dI p0.Week)]]⟩], .live [⟨2,1, .data (List.map cI v19)⟩]]⟩ ?_ ?_
 refine aE (sq [0] (pa (nx (aE ?_))))
 refine aZ (fun s16=>⟨aC (aC (aC (aC (aC (aC ((fun _ => .dead)) 1 (dI p1)) 2 (.ptr 3 0 1 0 0)) 7 (dI v3)) 8 (.own 4 0 (s16.2).length)) 9 (dI s12.1)) 10 (dI s16.1),lks [.no, .no, .no, .live [⟨29,4, .av [[dS p0.Name,(dL aT p0.Months),(dL aK p0.Rules),(dI p0.Week)]]⟩], .live [⟨2,1, .data (List.map cI s16.2)⟩]]⟩) h3 ?_ (fun s16 y h4 => ?_)
 exact wk [0,1,2,3,4]
 refine aB (sq [0,1,2,3,4] (pm ?_))
 refine fa tok ?_
 refine ld tok ?_
 refine rP rfl (aJ tok rfl rfl rfl) (rP rfl (bK rfl rfl) (nx ?_))
 refine bC h4 rfl (fun hc h4 => ?_) (fun hc h4 => ?_)
 refine sk (aB (aE (sr [0,1,2,3,4,5,6,7,8] (rP rfl (aL (r := .own _ _ _) rfl) ?_))))
 iterate 4 refine pm ?_
 obtain ⟨v17,hv17,h4⟩:=bnd h4
 refine rS rfl (eW 5 (aKw hv17) rfl rfl) (rS rfl (iZ tok cI [v17] rfl rfl rfl (by repeat (first | exact Els.nil _ | apply Els.cons (cs:=[.d _]) rfl rfl rfl | apply Els.cons (cs:=_ :: _) rfl rfl rfl)) rfl rfl rfl (by repeat (first | exact cR.nil | (apply cR.cons; (repeat (first | exact eZ.nil | apply eZ.cons))))) rfl) ?_)
 obtain ⟨hq18,h4⟩:=cO h4
 refine rw1 rfl w0 rfl (eU tok hq18 rfl rfl rfl rfl rfl rfl rfl rfl rfl rfl rfl rfl (fun _=>rfl)) (rP rfl (aR (r := .own _ _ _) rfl) (aY (bB (aG (sr [0,1,2] (pm ?_))))))
 refine rP rfl (bH rfl rfl) (pa (aY ?_))
 refine bS ?_
 cases h4
 refine ⟨_,rfl,?_⟩
 exact wk [0,1,2,3,4]
 refine bF (bT ?_)
 cases h4
 refine bU ⟨_,rfl,fun e => ?_⟩
 subst e
 refine aQ ?_
 refine bB (aG ?_)
 exact wk [0,1,2,3,4]
 refine sr [0,1,2] (pm ?_)
 refine rP rfl (bH rfl rfl) (pa (aY ?_))
 refine bS ?_
 cases h2
 refine ⟨_,rfl,?_⟩
 exact wk [0,1,2,3,4]
 refine bF (bT ?_)
 cases h2
 refine bU ⟨_,rfl,fun e => ?_⟩
 subst e
 refine aQ (aG ?_)
 exact wk [0,1,2,3,4]
 refine sq [0,1,2,3,4,5,6] (rP rfl (aL (r := .own _ _ _) rfl) (rP rfl (aL (r := .own _ _ _) rfl) (pm ?_)))
 obtain ⟨v21,hv21,h0⟩:=bnd h0
 refine rS rfl (eW 5 (aKu hv21) rfl rfl) (rP rfl (aR (r := .own _ _ _) rfl) (pa ?_))
 refine pa (nx (aA ?_))
 cases h0
 exact dG (rs:=[.tmp 4, .tmp 5, .tmp 6]) [4] rfl
theorem aEw {p0:Int} {r:Int} (h0:pK p0=some r):FnC Tryz.prog 112 [] [dI p0] [] (.d (.v (.int .u64 r))):=by
 refine fi 10 tok Tryz.func112 ?_
 unfold pK at h0
 refine sq [0] (pa (nx (aB (sq [0,1] ?_))))
 refine pm ?_
 refine rP rfl (bK rfl rfl) (nx ?_)
 refine bC h0 rfl (fun hc h0 => ?_) (fun hc h0 => ?_)
 refine sq [0,1,2,3] (pm ?_)
 refine rP rfl (aKe tok rfl rfl rfl rfl rfl) (rP rfl (aRu rfl) (pa (nx (aA (aI ?_)))))
 cases h0
 exact r0t 2 rfl
 refine sk (sq [0,1,2] (pm ?_))
 refine rP rfl (aKe tok rfl rfl rfl rfl rfl) (pa (nx (aA ?_)))
 cases h0
 exact r0t 2 rfl
theorem pJ {p0:Int} {p1:Int} {r:aD × Bool} (h0:fN p0 p1=some r):FnC Tryz.prog 58 [] [dI p0,(dI p1)] [] (.tup [.agg [dI r.1.Num,(dI r.1.Den)],(dB r.2)]):=by
 refine fi 53 tok Tryz.func58 ?_
 unfold fN at h0
 refine sq [0,1] (al 3 [z0,z0] tok ?_)
 refine pa (nx (sq [0,1,2] ?_))
 refine pm ?_
 obtain ⟨v1,hv1,h0⟩:=bnd h0
 refine rS rfl (aM 4 (aEw hv1) rfl rfl rfl) (pa (nx (sq [0,1,2] ?_)))
 refine pm ?_
 obtain ⟨v2,hv2,h0⟩:=bnd h0
 refine rS rfl (aM 4 (aEw hv2) rfl rfl rfl) (pa (nx (sq [0,1] ?_)))
 refine pm ?_
 refine pa (nx (sq [0,1] ?_))
 refine pm ?_
 refine pa (nx ?_)
 obtain ⟨v7,h1,h0⟩:=bnd h0
 refine bI ⟨aC (aC (aC (aC (aC (aC ((fun _ => .dead)) 0 (dI p0)) 1 (dI p1)) 4 (.ptr 3 0 1 0 0)) 6 (.d (.v (.int .u64 v1)))) 7 (.d (.v (.int .u64 v2)))) 8 (.d (.v (.int .u64 v7))),lks [.no, .no, .no, .live [⟨75,2, .av [[z0,z0]]⟩]]⟩ ?_ ?_
 refine aE ?_
 refine aZ (fun s5=>⟨aC (aC (aC (aC (aC (aC (aC ((fun _ => .dead)) 0 (dI p0)) 1 (dI p1)) 4 (.ptr 3 0 1 0 0)) 6 (.d (.v (.int .u64 v1)))) 7 (.d (.v (.int .u64 v2)))) 8 (.d (.v (.int .u64 s5.1)))) 9 (.d (.v (.int .u64 s5.2))),lks [.no, .no, .no, .live [⟨75,2, .av [[z0,z0]]⟩]]⟩) h1 ?_ (fun s5 y h2 => ?_)
 exact wk [0,1,2,3]
 refine aB (sq [0,1] (pm ?_))
 refine rP rfl (gT rfl rfl) (nx ?_)
 refine bC h2 rfl (fun hc h2 => ?_) (fun hc h2 => ?_)
 refine sk (aE (sq [0,1,2,3] (pm ?_)))
 refine pm ?_
 obtain ⟨hq6,h2⟩:=cO h2
 refine rP rfl (kU rfl rfl hq6) (pa (nx (sq [0,1] ?_)))
 refine pm ?_
 refine pa (nx (sr [0,1] ?_))
 refine pm ?_
 refine pa (aY ?_)
 refine bB (bS ?_)
 cases h2
 refine ⟨_,rfl,?_⟩
 exact wk [0,1,2,3]
 refine bF (bT ?_)
 cases h2
 refine bU ⟨_,rfl,fun e => ?_⟩
 subst e
 refine aQ (aG ?_)
 exact wk [0,1,2,3]
 refine sq [0,1,2,3] (pm ?_)
 refine pm ?_
 obtain ⟨hq8,h0⟩:=cO h0
 refine rP rfl (aEq rfl rfl hq8) (pa (nx (sq [0,1,2,3] ?_)))
 refine pm ?_
 refine pm ?_
 obtain ⟨hq9,h0⟩:=cO h0
 refine rP rfl (aEq rfl rfl hq9) (pa (nx (aB ?_)))
 obtain ⟨v10,h1,h0⟩:=bnd h0
 refine bI ⟨aC (aC (aC (aC (aC (aC ((fun _ => .dead)) 0 (dI p0)) 1 (dI p1)) 4 (.ptr 3 0 1 0 0)) 6 (.d (.v (.int .u64 (IntKind.u64.wrap (v1.tdiv v7)))))) 7 (.d (.v (.int .u64 (IntKind.u64.wrap (v2.tdiv v7)))))) 36 (dB v10),lks [.no, .no, .no, .live [⟨75,2, .av [[z0,z0]]⟩]]⟩ ?_ ?_
 refine sr [0,1,2,3,4,5] (pm ?_)
 refine rP rfl (gT rfl rfl) (pm ?_)
 refine iT (u:=33) h1 rfl (fun hc h1 => ?_) (fun hc h1 => ?_)
 refine k1 ?_
 refine k1 ?_
 refine pkt (nx ?_)
 cases h1
 exact wk [0,1,2,3]
 refine pm1 ?_
 refine rp rfl (w1 rfl rfl rfl) rfl (gT rfl rfl) (pkf (nx ?_))
 cases h1
 exact wk [0,1,2,3]
 refine bM h0 rfl (fun hc h0 => ?_) (fun hc h0 => ?_)
 refine sq [0,1,2] (rP rfl (pbl (C0:=[z0,z0]) tok rfl rfl rfl) (bst tok ?_))
 refine pa (nx (aA (aI ?_)))
 cases h0
 exact gU (rs:=[.cell 4 75, .tmp 5]) rfl
 refine sk (sq [0,1,2,3,4,5,6] (pm ?_))
 refine rP rfl (aRv tok rfl rfl rfl rfl rfl) (pm ?_)
 refine rP rfl (aRv tok rfl rfl rfl rfl rfl) (rP rfl (pbl (C0:=[z0,z0]) tok rfl rfl rfl) (al 4 [z0,z0] tok ?_))
 refine bst tok (nx ?_)
 obtain ⟨v11,h1,h0⟩:=bnd h0
 refine bI ⟨aC (aC ((fun _ => .dead)) 4 (.ptr 3 0 1 0 0)) 11 (.ptr 4 0 1 0 0),lks [.no, .no, .no, .live [⟨75,2, .av [[z0,z0]]⟩], .live [⟨75,2, .av [[dI v11.Num,(dI v11.Den)]]⟩]]⟩ ?_ ?_
 refine sq [0,1,2,3,4] (pm ?_)
 refine rP rfl (bK rfl rfl) (pm ?_)
 refine rP rfl (bK rfl rfl) (rP rfl (aIa tok rfl rfl rfl rfl) (nx ?_))
 refine bM h1 rfl (fun hc h1 => ?_) (fun hc h1 => ?_)
 refine sr [0,1,2,3,4] (fa tok ?_)
 refine ld tok ?_
 refine rP rfl (wH rfl) (fa tok ?_)
 refine bs1 tok (nx ?_)
 cases h1
 exact wk [0,1,2,3,4]
 refine sk ?_
 cases h1
 exact wk [0,1,2,3,4]
 refine sq [0,1,2] (rL rfl (bA tok rfl rfl rfl rfl) (bst tok ?_))
 refine pa (nx (aA ?_))
 cases h0
 exact gU (rs:=[.cell 4 75, .tmp 5]) rfl
theorem aIp  {r:iN} (h0:rK  = some r):FnC Tryz.prog 60 [] [] [] (.agg [dI r.LowDriver,(dI r.HighDriver),(dI r.LowDriven),(dI r.HighDriven),(dI r.Stages)]):=by
 refine fi 2 tok Tryz.func60 ?_
 unfold rK at h0
 refine sq [0] (al 3 [z0,z0,z0,z0,z0] tok (nx (sq [0,1] ?_)))
 refine rP rfl (pbl (C0:=[z0,z0,z0,z0,z0]) tok rfl rfl rfl) (bst tok (nx (aA ?_)))
 cases h0
 exact gU (rs:=[.cell 0 84]) rfl
theorem sP {p0:Int} {r:Int} (h0:jX p0=some r):FnC Tryz.prog 165 [] [dI p0] [] (dI r):=by
 refine fi 8 tok Tryz.func165 ?_
 unfold jX at h0
 refine sq [0] (pa (nx (aB (sq [0,1] ?_))))
 refine pm ?_
 refine rP rfl (bK rfl rfl) (nx ?_)
 refine bC h0 rfl (fun hc h0 => ?_) (fun hc h0 => ?_)
 refine sq [0,1,2] (pm ?_)
 refine rP rfl (wH rfl) (pa (nx (aA (aI ?_))))
 cases h0
 exact r0t 2 rfl
 refine sk (sq [0,1] (pm ?_))
 refine pa (nx (aA ?_))
 cases h0
 exact r0t 2 rfl
theorem aKj {p0:aD} {r:Bool} (h0:uU p0=some r):FnC Tryz.prog 113 [] [.agg [dI p0.Num,(dI p0.Den)]] [] (dB r):=by
 refine fi 20 tok Tryz.func113 ?_
 unfold uU at h0
 refine sq [0,1] (bxx 3 ?_)
 refine pa (nx (aB ?_))
 refine aH (is:=[0,1,2,3,4,5,6,7,8,9,10,12,13,11,14,15,16,17]) [0,1,3,7,15,31,63,127,255,511,1023,2047,511,4607,16383,32767,65535,131071] follows (by kernel_rfl) (tfa tok ?_)
 refine tld tok ?_
 obtain ⟨v1,hv1,h0⟩:=bnd h0
 refine jW rfl w0 rfl (cV 4 (eA hv1) rfl rfl rfl) (tpm ?_)
 refine tL (u:=6) h0 rfl (fun hc h0 => ?_) (fun hc h0 => ?_)
 refine cZ rfl (w1 rfl rfl rfl) rfl (yO tok rfl rfl rfl rfl rfl rfl rfl) rfl rfl rfl (cZ rfl (w1 rfl rfl rfl) rfl (rG tok rfl rfl rfl rfl rfl) rfl rfl rfl ?_)
 obtain ⟨v2,hv2,h0⟩:=bnd h0
 refine jW rfl (w1 rfl rfl rfl) rfl (cV 4 (eA hv2) rfl rfl rfl) (aBv ?_)
 refine tpm ?_
 refine tL (u:=11) h0 rfl (fun hc h0 => ?_) (fun hc h0 => ?_)
 refine cZ rfl (w1 rfl rfl rfl) rfl (yO tok rfl rfl rfl rfl rfl rfl rfl) rfl rfl rfl (cZ rfl (w1 rfl rfl rfl) rfl (rG tok rfl rfl rfl rfl rfl) rfl rfl rfl (cZ rfl (w1 rfl rfl rfl) rfl (yO tok rfl rfl rfl rfl rfl rfl rfl) rfl rfl rfl (cZ rfl (w1 rfl rfl rfl) rfl (rG tok rfl rfl rfl rfl rfl) rfl rfl rfl ?_)))
 obtain ⟨v3,hv3,h0⟩:=bnd h0
 refine jW rfl (w1 rfl rfl rfl) rfl (cV 4 (sP hv3) rfl rfl rfl) ?_
 obtain ⟨v4,hv4,h0⟩:=bnd h0
 refine jW rfl (w1 rfl rfl rfl) rfl (cV 4 (aBr hv4) rfl rfl rfl) (rF rfl (w1 rfl rfl rfl) rfl (iX rfl rfl) (aBv ?_))
 refine tpa ?_
 refine bN ?_
 refine ⟨by kernel_rfl,?_⟩
 refine aG (aA ?_)
 cases h0
 exact r0t 2 rfl
 iterate 7 refine k2 ?_
 refine aBu ?_
 refine tpa ?_
 refine bN ?_
 refine ⟨by kernel_rfl,?_⟩
 refine aG (aA ?_)
 cases h0
 exact r0t 2 rfl
 iterate 3 refine k2 ?_
 refine aBu ?_
 refine tpm ?_
 iterate 7 refine k2 ?_
 refine aBu ?_
 refine tpa ?_
 refine bN ?_
 refine ⟨by kernel_rfl,?_⟩
 refine aG (aA ?_)
 cases h0
 exact r0t 2 rfl
theorem aB9 {p0:Int} {p1:Int} {r:Bool} (h0:tN p0 p1=some r):FnC Tryz.prog 166 [] [dI p0,(dI p1)] [] (dB r):=by
 refine fi 18 tok Tryz.func166 ?_
 unfold tN at h0
 refine sq [0] (pa (nx (sq [0,1,2,3,4,5,6,7,8,9,10,11,12,13] ?_)))
 refine pm ?_
 refine rP rfl (tH rfl rfl) (pm ?_)
 refine iT (u:=7) h0 rfl (fun hc h0 => ?_) (fun hc h0 => ?_)
 refine pm1 ?_
 refine rp rfl (w1 rfl rfl rfl) rfl (gW rfl rfl) (pkt ?_)
 refine pm ?_
 refine iT (u:=11) h0 rfl (fun hc h0 => ?_) (fun hc h0 => ?_)
 iterate 3 refine pm1 ?_
 refine rp rfl (w1 rfl rfl rfl) rfl (bH rfl rfl) ?_
 obtain ⟨v1,hv1,h0⟩:=bnd h0
 refine rs rfl (w1 rfl rfl rfl) rfl (aM 3 (eA hv1) rfl rfl rfl) (pkt ?_)
 refine pa (nx (aA ?_))
 cases h0
 exact r0t 4 rfl
 iterate 5 refine k1 ?_
 refine pkf ?_
 refine pa (nx (aA ?_))
 cases h0
 exact r0t 4 rfl
 refine k1 ?_
 refine k1 ?_
 refine pkf ?_
 refine pm ?_
 iterate 5 refine k1 ?_
 refine pkf ?_
 refine pa (nx (aA ?_))
 cases h0
 exact r0t 4 rfl
theorem aR3 {p0:iN} {r:Bool} (h0:aAx p0=some r):FnC Tryz.prog 114 [] [.ref (aC3 p0)] [] (dB r):=by
 refine fi 30 tok Tryz.func114 ?_
 unfold aAx at h0
 refine sq [0] (pa (nx (aB ?_)))
 refine aH (is:=[0,1,2,3,4,5,6,7,8,9,10,11,12,13,14,15,16,17,18,19,20,21,22,23,24,25,26,27]) [0,1,3,7,0,16,48,112,255,511,1023,2047,4095,8191,1023,17407,50175,115711,262143,524287,1048575,2097151,4194303,8388607,16777215,33554431,67108863,134217727] follows (by kernel_rfl) (yQ ?_)
 refine tnr ?_
 refine tfr tok ?_
 refine tlr tok ?_
 refine yQ ?_
 refine tnr ?_
 refine tfr tok ?_
 refine tlr tok ?_
 obtain ⟨v1,hv1,h0⟩:=bnd h0
 refine jW rfl w0 rfl (cV 3 (aB9 hv1) rfl rfl rfl) (tpm ?_)
 refine tL (u:=12) h0 rfl (fun hc h0 => ?_) (fun hc h0 => ?_)
 refine aE8 ?_
 refine aSj ?_
 refine aK9 tok ?_
 refine aOl tok ?_
 refine aE8 ?_
 refine aSj ?_
 refine aK9 tok ?_
 refine aOl tok ?_
 obtain ⟨v2,hv2,h0⟩:=bnd h0
 refine jW rfl (w1 rfl rfl rfl) rfl (cV 3 (aB9 hv2) rfl rfl rfl) (aBv ?_)
 refine tpm ?_
 refine tL (u:=23) h0 rfl (fun hc h0 => ?_) (fun hc h0 => ?_)
 refine aE8 ?_
 refine aSj ?_
 refine aK9 tok ?_
 refine aOl tok ?_
 obtain ⟨v3,hv3,h0⟩:=bnd h0
 refine jW rfl (w1 rfl rfl rfl) rfl (cV 3 (eA hv3) rfl rfl rfl) (aBv ?_)
 refine tpa ?_
 refine bN ?_
 refine ⟨by kernel_rfl,?_⟩
 refine aG (aA ?_)
 cases h0
 exact r0t 2 rfl
 iterate 5 refine k2 ?_
 refine aBu ?_
 refine tpa ?_
 refine bN ?_
 refine ⟨by kernel_rfl,?_⟩
 refine aG (aA ?_)
 cases h0
 exact r0t 2 rfl
 iterate 9 refine k2 ?_
 refine aBu ?_
 refine tpm ?_
 iterate 5 refine k2 ?_
 refine aBu ?_
 refine tpa ?_
 refine bN ?_
 refine ⟨by kernel_rfl,?_⟩
 refine aG (aA ?_)
 cases h0
 exact r0t 2 rfl
theorem aPl {p0:aD} {r:Bool} (h0:yJ p0=some r):FnC Tryz.prog 115 [] [.agg [dI p0.Num,(dI p0.Den)]] [] (dB r):=by
 refine fi 11 tok Tryz.func115 ?_
 unfold yJ at h0
 refine sq [0,1] (bxx 3 ?_)
 refine pa (nx (sq [0,1,2,3,4,5,6,7,8] ?_))
 refine fa tok ?_
 refine ld tok ?_
 obtain ⟨v1,hv1,h0⟩:=bnd h0
 refine rS rfl (aM 4 (eA hv1) rfl rfl rfl) (pm ?_)
 refine dU (u:=6) h0 rfl (fun hc h0 => ?_) (fun hc h0 => ?_)
 refine fa1 tok ?_
 refine ld1 tok ?_
 refine rp rfl (w1 rfl rfl rfl) rfl (gW rfl rfl) (pkt ?_)
 refine pa (nx (aA ?_))
 cases h0
 exact r0t 2 rfl
 iterate 3 refine k1 ?_
 refine pkf ?_
 refine pa (nx (aA ?_))
 cases h0
 exact r0t 2 rfl
theorem uT {p0:List Int} {r:List Int} (h0:lY p0=some r):FnC Tryz.prog 125 [] [dL cI p0] [.live [⟨2,1, .data (List.map cI r)⟩]] (.own 0 0 r.length):=by
 refine fi 6 tok Tryz.func125 ?_
 unfold lY at h0
 refine sq [0] (pa (nx (sq [0,1,2,3] ?_)))
 refine rS rfl (eQ 3 tok rfl rfl rfl rfl) (pm ?_)
 obtain ⟨hq1,h0⟩:=cO h0
 refine rw1 rfl w0 rfl (eU tok hq1 rfl rfl rfl rfl rfl rfl rfl rfl rfl rfl rfl rfl (fun _=>rfl)) (rP rfl (aR (r := .own _ _ _) rfl) (nx (aA ?_)))
 cases h0
 exact dG (rs:=[.tmp 2]) [3] rfl
theorem xJ {p0:Int} {p1:Int} {p2:Int} {r:List aV} (h0:jL p0 p1 p2=some r):FnC Tryz.prog 196 [] [dI p0,(dI p1),(dI p2)] [] (dL aU r):=by
 refine fi 67 tok Tryz.func196 ?_
 unfold jL at h0
 refine sq [0] (pa (nx (sq [0,1,2] ?_)))
 refine rP rfl (pbl (C0:=[z0,zl]) tok rfl rfl rfl) (rS rfl (aVf tok aU [(⟨1,[]⟩:aV)] rfl rfl rfl (by repeat (first | exact Els.nil _ | apply Els.cons (cs:=[.d _]) rfl rfl rfl | apply Els.cons (cs:=_ :: _) rfl rfl rfl)) rfl rfl rfl (by repeat (first | exact aI3.nil | (apply aI3.cons; (repeat (first | exact aPy.nil | apply aPy.niln | apply aPy.cons))))) rfl) (pa (nx ?_)))
 obtain ⟨v75,h1,h0⟩:=bnd h0
 refine bI ⟨aC ((fun _ => .dead)) 7 (dL aU v75),lks [.no, .no, .no]⟩ ?_ ?_
 refine sq [0] (pa (nx (aE ?_)))
 refine aZ (fun s38=>⟨aC (aC (aC (aC (aC ((fun _ => .dead)) 0 (dI p0)) 1 (dI p1)) 2 (dI p2)) 7 (dL aU s38.1)) 8 (dI s38.2),lks [.no, .no, .no]⟩) h1 ?_ (fun s38 y h2 => ?_)
 exact wk [0,1,2]
 refine aB (sq [0,1,2] (pm ?_))
 refine pm ?_
 refine rP rfl (bK rfl rfl) (nx ?_)
 refine bC h2 rfl (fun hc h2 => ?_) (fun hc h2 => ?_)
 refine sk ?_
 obtain ⟨v74,h3,h2⟩:=bnd h2
 refine bI ⟨aC (aC (aC (aC (aC ((fun _ => .dead)) 0 (dI p0)) 1 (dI p1)) 2 (dI p2)) 7 (.own 3 0 (v74).length)) 8 (dI s38.2),lks [.no, .no, .no, .live [⟨240,2, .data (List.map aU v74)⟩]]⟩ ?_ ?_
 refine aE (sq [0,1] (rS rfl (eQ 3 tok rfl rfl rfl rfl) (rP rfl (aR (r := .own _ _ _) rfl) (nx ?_))))
 obtain ⟨v73,h4,h3⟩:=bnd h3
 refine bI ⟨aC (aC (aC (aC (aC ((fun _ => .dead)) 0 (dI p0)) 1 (dI p1)) 2 (dI p2)) 8 (dI s38.2)) 9 (.own 3 0 (v73).length),lks [.no, .no, .no, .live [⟨240,2, .data (List.map aU v73)⟩]]⟩ ?_ ?_
 refine sq [0] (pa (nx (aE ?_)))
 refine aZ (fun s56=>⟨aC (aC (aC (aC (aC (aC (aC ((fun _ => .dead)) 0 (dI p0)) 1 (dI p1)) 2 (dI p2)) 7 (dL aU s38.1)) 8 (dI s38.2)) 9 (.own 3 0 (s56.2).length)) 10 (dI s56.1),lks [.no, .no, .no, .live [⟨240,2, .data (List.map aU s56.2)⟩]]⟩) h4 ?_ (fun s56 y h5 => ?_)
 exact wk [0,1,2,3]
 refine aB (sq [0,1,2,3] (pm ?_))
 refine pm ?_
 refine rP rfl (aJ tok rfl rfl rfl) (rP rfl (bK rfl rfl) (nx ?_))
 refine bC h5 rfl (fun hc h5 => ?_) (fun hc h5 => ?_)
 refine sk ?_
 obtain ⟨v72,h6,h5⟩:=bnd h5
 refine bI ⟨aC (aC (aC (aC (aC (aC (aC ((fun _ => .dead)) 0 (dI p0)) 1 (dI p1)) 2 (dI p2)) 7 (dL aU s38.1)) 8 (dI s38.2)) 9 (.own 3 0 (v72).length)) 10 (dI s56.1),lks [.no, .no, .no, .live [⟨240,2, .data (List.map aU v72)⟩]]⟩ ?_ ?_
 refine aE (sq [0,1] (pm ?_))
 refine pa (nx ?_)
 obtain ⟨v59,h7,h6⟩:=bnd h6
 refine bI ⟨aC (aC (aC (aC (aC (aC (aC (aC ((fun _ => .dead)) 0 (dI p0)) 1 (dI p1)) 2 (dI p2)) 7 (dL aU s38.1)) 8 (dI s38.2)) 9 (.own 3 0 (s56.2).length)) 10 (dI s56.1)) 11 (dI v59),lks [.no, .no, .no, .live [⟨240,2, .data (List.map aU s56.2)⟩]]⟩ ?_ ?_
 refine sq [0,1] (pm ?_)
 refine rP rfl (gT rfl rfl) (nx ?_)
 refine bC h7 rfl (fun hc h7 => ?_) (fun hc h7 => ?_)
 refine sr [0,1,2,3,4,5,6,7,8,9] (pm ?_)
 refine pm ?_
 obtain ⟨v57,hv57,h7⟩:=bnd h7
 refine rP rfl (cE tok hv57 rfl rfl rfl rfl rfl rfl) (fr tok ?_)
 refine lr tok ?_
 refine pm ?_
 refine rP rfl (gX rfl rfl) ?_
 obtain ⟨v58,hv58,h7⟩:=bnd h7
 refine rP rfl (cE tok hv58 rfl rfl rfl rfl rfl rfl) (lr tok ?_)
 refine pa (nx ?_)
 cases h7
 exact wk [0,1,2,3]
 refine sk ?_
 cases h7
 exact wk [0,1,2,3]
 refine sq [0,1] (pm ?_)
 refine pa (nx (aE ?_))
 refine aZ (fun s66=>⟨aC (aC (aC (aC (aC (aC (aC (aC ((fun _ => .dead)) 0 (dI p0)) 1 (dI p1)) 2 (dI p2)) 7 (dL aU s38.1)) 8 (dI s38.2)) 9 (.own 3 0 (s66.2).length)) 10 (dI s56.1)) 12 (dI s66.1),lks [.no, .no, .no, .live [⟨240,2, .data (List.map aU s66.2)⟩]]⟩) h6 ?_ (fun s66 y h7 => ?_)
 exact wk [0,1,2,3]
 refine aB (sq [0,1,2] (pm ?_))
 refine pm ?_
 refine rP rfl (gW rfl rfl) (nx ?_)
 refine bC h7 rfl (fun hc h7 => ?_) (fun hc h7 => ?_)
 refine sk (aB (aE (aH (is:=[0,1,2,3,4,5,6,7,8,9,10,11,12,14,13,15,16,17,18,19,20]) [0,0,0,6,14,30,0,126,0,0,768,1792,3840,7936,0,16384,65280,131070,262142,524287,1048575] follows (by kernel_rfl) (tP rfl (aL (r := .own _ _ _) rfl) (tpm ?_)))))
 refine tpm ?_
 obtain ⟨v67,hv67,h7⟩:=bnd h7
 refine tP rfl (cE tok hv67 rfl rfl rfl rfl rfl rfl) (tfr tok ?_)
 refine tlr tok ?_
 refine tpm ?_
 refine tP rfl (eL rfl rfl) (tpm ?_)
 refine tpm ?_
 obtain ⟨v68,hv68,h7⟩:=bnd h7
 refine tP rfl (cE tok hv68 rfl rfl rfl rfl rfl rfl) (tfr tok ?_)
 refine tlr tok ?_
 refine tpm ?_
 obtain ⟨v69,hv69,h7⟩:=bnd h7
 refine jW rfl w0 rfl (cV 6 (uT hv69) rfl rfl rfl) (aEt rfl w0 rfl rfl (fun hx hk=>zX 4 tok cI [s66.1] rfl rfl rfl (by repeat (first | exact Els.nil _ | apply Els.cons (cs:=[.d _]) rfl rfl rfl | apply Els.cons (cs:=_ :: _) rfl rfl rfl)) rfl rfl rfl (by repeat (first | exact cR.nil | (apply cR.cons; (repeat (first | exact eZ.nil | apply eZ.cons))))) rfl hk) ?_)
 obtain ⟨hq70,h7⟩:=cO h7
 refine yX rfl w0 rfl (aZu (eU tok hq70 rfl rfl rfl rfl rfl rfl rfl rfl rfl rfl rfl rfl (fun _=>rfl))) (tP rfl (pbl (C0:=[z0,zl]) tok rfl rfl rfl) (aEt rfl w0 rfl rfl (fun hx hk=>zX 5 tok aU [(⟨w64 (v67.value*s66.1),v69++[s66.1]⟩:aV)] rfl rfl rfl (by repeat (first | exact Els.nil _ | apply Els.cons (cs:=[.d _]) rfl rfl rfl | apply Els.cons (cs:=_ :: _) rfl rfl rfl)) rfl rfl rfl (by repeat (first | exact cR.nil | (apply cR.cons; (repeat (first | exact eZ.nil | apply eZ.cons))))) rfl hk) ?_))
 obtain ⟨hq71,h7⟩:=cO h7
 refine yX rfl w0 rfl (eU tok hq71 rfl rfl rfl rfl rfl rfl rfl rfl rfl rfl rfl rfl (fun _=>rfl)) (tP rfl (aR (r := .own _ _ _) rfl) (bN ?_))
 refine ⟨by kernel_rfl,?_⟩
 refine bB (aG (sr [0,1,2] (pm ?_)))
 refine rP rfl (bH rfl rfl) (pa (aY ?_))
 refine bS ?_
 cases h7
 refine ⟨_,rfl,?_⟩
 exact wk [0,1,2,3]
 refine bF (bT ?_)
 cases h7
 refine bU ⟨_,rfl,fun e => ?_⟩
 subst e
 refine aQ ?_
 refine bB (aG ?_)
 exact wk [0,1,2,3]
 refine sr [0,1,2] (pm ?_)
 refine rP rfl (bH rfl rfl) (pa (aY ?_))
 refine bS ?_
 cases h5
 refine ⟨_,rfl,?_⟩
 exact wk [0,1,2,3]
 refine bF (bT ?_)
 cases h5
 refine bU ⟨_,rfl,fun e => ?_⟩
 subst e
 refine aQ (aG ?_)
 exact wk [0,1,2,3]
 refine sr [0,1] (rP rfl (aL (r := .own _ _ _) rfl) (rP rfl (aR (r := .own _ _ _) rfl) (aY (bB (aG ?_)))))
 cases h3
 exact wk [0,1,2,3]
 refine sr [0,1,2] (pm ?_)
 refine rP rfl (bH rfl rfl) (pa (aY ?_))
 refine bS ?_
 cases h2
 refine ⟨_,rfl,?_⟩
 refine mG.trans_ (aFa (k:=3) (t':=aC (aC (aC (aC (aC ((fun _ => .dead)) 0 (dI p0)) 1 (dI p1)) 2 (dI p2)) 7 (dL aU v74)) 8 (dI (w64 (s38.2+1)))) rfl (FzL.nil)) ?_
 exact wk [0,1,2]
 refine bF (bT ?_)
 cases h2
 refine bU ⟨_,rfl,fun e => ?_⟩
 subst e
 refine aQ (aG ?_)
 exact wk [0,1,2]
 refine sq [0,1] (pm ?_)
 refine pa (nx (aA ?_))
 cases h0
 exact r0t 6 rfl
theorem aKn {p0:List aV} {p1:List aV} {r:List aV} (h0:qS p0 p1=some r):FnC Tryz.prog 213 [] [dL aU p0,(dL aU p1)] [.live [⟨240,2, .data (List.map aU r)⟩]] (.own 0 0 r.length):=by
 refine fi 53 tok Tryz.func213 ?_
 unfold qS at h0
 refine sq [0] (pa (nx (sq [0,1] ?_)))
 refine rS rfl (eQ 3 tok rfl rfl rfl rfl) (rP rfl (aR (r := .own _ _ _) rfl) (nx (sq [0] (pa (nx ?_)))))
 obtain ⟨v35,h1,h0⟩:=bnd h0
 refine bI ⟨aC (aC (aC ((fun _ => .dead)) 0 (dL aU p0)) 5 (.own 3 0 (v35.2).length)) 6 (dI v35.1),lks [.no, .no, .no, .live [⟨240,2, .data (List.map aU v35.2)⟩]]⟩ ?_ ?_
 refine sq [0] (pa (nx (aE ?_)))
 refine aZ (fun s18=>⟨aC (aC (aC (aC (aC ((fun _ => .dead)) 0 (dL aU p0)) 1 (dL aU p1)) 5 (.own 3 0 (s18.2.2).length)) 6 (dI s18.1)) 7 (dI s18.2.1),lks [.no, .no, .no, .live [⟨240,2, .data (List.map aU s18.2.2)⟩]]⟩) h1 ?_ (fun s18 y h2 => ?_)
 exact wk [0,1,2,3]
 refine aB (sq [0,1,2,3] (pm ?_))
 refine pm ?_
 refine rP rfl (aJ tok rfl rfl rfl) (rP rfl (bK rfl rfl) (nx ?_))
 refine bC h2 rfl (fun hc h2 => ?_) (fun hc h2 => ?_)
 refine sk ?_
 obtain ⟨v34,h3,h2⟩:=bnd h2
 refine bI ⟨aC (aC (aC (aC (aC ((fun _ => .dead)) 0 (dL aU p0)) 1 (dL aU p1)) 5 (.own 3 0 (v34.2).length)) 6 (dI v34.1)) 7 (dI s18.2.1),lks [.no, .no, .no, .live [⟨240,2, .data (List.map aU v34.2)⟩]]⟩ ?_ ?_
 refine aE ?_
 obtain ⟨v31,h4,h3⟩:=bnd h3
 refine bI ⟨aC (aC (aC (aC (aC ((fun _ => .dead)) 0 (dL aU p0)) 1 (dL aU p1)) 5 (.own 3 0 (v31.2).length)) 6 (dI v31.1)) 7 (dI s18.2.1),lks [.no, .no, .no, .live [⟨240,2, .data (List.map aU v31.2)⟩]]⟩ ?_ ?_
 refine aE ?_
 refine aZ (fun s25=>⟨aC (aC (aC (aC (aC ((fun _ => .dead)) 0 (dL aU p0)) 1 (dL aU p1)) 5 (.own 3 0 (s25.2).length)) 6 (dI s25.1)) 7 (dI s18.2.1),lks [.no, .no, .no, .live [⟨240,2, .data (List.map aU s25.2)⟩]]⟩) h4 ?_ (fun s25 y h5 => ?_)
 exact wk [0,1,2,3]
 refine aB ?_
 obtain ⟨v28,h6,h5⟩:=bnd h5
 refine bI ⟨aC (aC (aC (aC (aC (aC ((fun _ => .dead)) 0 (dL aU p0)) 1 (dL aU p1)) 5 (.own 3 0 (s25.2).length)) 6 (dI s25.1)) 7 (dI s18.2.1)) 31 (dB v28),lks [.no, .no, .no, .live [⟨240,2, .data (List.map aU s25.2)⟩]]⟩ ?_ ?_
 refine aH (is:=[0,1,2,3,4,5,6,7,8,9,10,11,12,13,14,15,16]) [0,0,2,7,15,31,31,127,255,511,31,31,3103,7199,15391,32767,65535] follows (by kernel_rfl) (tpm ?_)
 refine tpm ?_
 refine tP rfl (aJ tok rfl rfl rfl) (tP rfl (bK rfl rfl) (tpm ?_))
 refine aKh (u:=19) h6 rfl (fun hc h6 => ?_) (fun hc h6 => ?_)
 refine aIv ?_
 refine aIv ?_
 obtain ⟨v26,hv26,h6⟩:=bnd h6
 refine rF rfl (w1 rfl rfl rfl) rfl (cE tok hv26 rfl rfl rfl rfl rfl rfl) (aK9 tok ?_)
 refine aOl tok ?_
 refine aIv ?_
 refine aIv ?_
 obtain ⟨v27,hv27,h6⟩:=bnd h6
 refine rF rfl (w1 rfl rfl rfl) rfl (cE tok hv27 rfl rfl rfl rfl rfl rfl) (aK9 tok ?_)
 refine aOl tok ?_
 refine rF rfl (w1 rfl rfl rfl) rfl (gW rfl rfl) (aBv ?_)
 refine bN ?_
 refine ⟨by kernel_rfl,?_⟩
 refine aG ?_
 cases h6
 refine mG.trans_ (mB (d:=23) (ds:=cI v26.value) rfl (by repeat (first | exact Pre.z _ | apply Pre.t))) (mG.trans_ (mB (d:=28) (ds:=cI v27.value) rfl (by repeat (first | exact Pre.z _ | apply Pre.t))) ?_)
 exact wk [0,1,2,3]
 iterate 11 refine k2 ?_
 refine aBu ?_
 refine bN ?_
 refine ⟨by kernel_rfl,?_⟩
 refine aG ?_
 cases h6
 exact wk [0,1,2,3]
 refine bM h5 rfl (fun hc h5 => ?_) (fun hc h5 => ?_)
 refine sk (aE (sq [0,1,2,3,4,5,6,7] (rP rfl (aL (r := .own _ _ _) rfl) (pm ?_))))
 refine pm ?_
 obtain ⟨v29,hv29,h5⟩:=bnd h5
 refine rP rfl (cE tok hv29 rfl rfl rfl rfl rfl rfl) (rP rfl (bJ tok rfl rfl rfl (by repeat (first | exact gV.z _ | apply gV.t))) (rS rfl (iZ tok aU [v29] rfl rfl rfl (by repeat (first | exact Els.nil _ | apply Els.cons (cs:=[.d _]) rfl rfl rfl | apply Els.cons (cs:=_ :: _) rfl rfl rfl)) rfl rfl rfl (by repeat (first | exact cR.nil | (apply cR.cons; (repeat (first | exact eZ.nil | apply eZ.cons))))) rfl) ?_))
 obtain ⟨hq30,h5⟩:=cO h5
 refine rw1 rfl w0 rfl (eU tok hq30 rfl rfl rfl rfl rfl rfl rfl rfl rfl rfl rfl rfl (fun _=>rfl)) (rP rfl (aR (r := .own _ _ _) rfl) (nx (sr [0,1,2] (pm ?_))))
 refine rP rfl (bH rfl rfl) (pa (aY ?_))
 refine bB (bS ?_)
 cases h5
 refine ⟨_,rfl,?_⟩
 exact wk [0,1,2,3]
 refine bF (bT ?_)
 cases h5
 refine bU ⟨_,rfl,fun e => ?_⟩
 subst e
 refine aQ (aG ?_)
 exact wk [0,1,2,3]
 refine sr [0,1,2,3,4,5,6,7] (rP rfl (aL (r := .own _ _ _) rfl) (pm ?_))
 refine pm ?_
 obtain ⟨v32,hv32,h3⟩:=bnd h3
 refine rP rfl (cE tok hv32 rfl rfl rfl rfl rfl rfl) (rP rfl (bJ tok rfl rfl rfl (by repeat (first | exact gV.z _ | apply gV.t))) (rS rfl (iZ tok aU [v32] rfl rfl rfl (by repeat (first | exact Els.nil _ | apply Els.cons (cs:=[.d _]) rfl rfl rfl | apply Els.cons (cs:=_ :: _) rfl rfl rfl)) rfl rfl rfl (by repeat (first | exact cR.nil | (apply cR.cons; (repeat (first | exact eZ.nil | apply eZ.cons))))) rfl) ?_))
 obtain ⟨hq33,h3⟩:=cO h3
 refine rw1 rfl w0 rfl (eU tok hq33 rfl rfl rfl rfl rfl rfl rfl rfl rfl rfl rfl rfl (fun _=>rfl)) (rP rfl (aR (r := .own _ _ _) rfl) (aY (bB (aG ?_))))
 cases h3
 exact wk [0,1,2,3]
 refine sr [0,1,2] (pm ?_)
 refine rP rfl (bH rfl rfl) (pa (aY ?_))
 refine bS ?_
 cases h2
 refine ⟨_,rfl,?_⟩
 exact wk [0,1,2,3]
 refine bF (bT ?_)
 cases h2
 refine bU ⟨_,rfl,fun e => ?_⟩
 subst e
 refine aQ (aG ?_)
 exact wk [0,1,2,3]
 refine sq [0,1,2,3,4,5] (rP rfl (aL (r := .own _ _ _) rfl) (pm ?_))
 refine pm ?_
 obtain ⟨hq36,h0⟩:=cO h0
 refine rP rfl (vS tok hq36 rfl (.inr ⟨_,_,rfl,rfl⟩) (.inl ⟨rfl,rfl⟩) rfl rfl rfl (fun _=>rfl)) ?_
 obtain ⟨hq37,h0⟩:=cO h0
 refine rw1 rfl w0 rfl (eU tok hq37 rfl rfl rfl rfl rfl rfl rfl rfl rfl rfl rfl rfl (fun _=>rfl)) (rP rfl (aR (r := .own _ _ _) rfl) (nx (aA ?_)))
 cases h0
 exact dG (rs:=[.tmp 4]) [3] rfl
theorem aM0 {n':Nat} {p0:List aV} {r:List aV} (h0:jY n' p0=some r):FnC Tryz.prog 197 [] [dL aU p0] [] (dL aU r):=by
 induction n' generalizing p0 r with
 | zero=>simp [jY] at h0
 | succ n' ih =>
 refine fi 20 tok Tryz.func197 ?_
 unfold jY at h0
 refine sq [0] (pa (nx (aB (sq [0,1,2] ?_))))
 refine pm ?_
 refine rP rfl (aJ tok rfl rfl rfl) (rP rfl (bK rfl rfl) (nx ?_))
 refine bC h0 rfl (fun hc h0 => ?_) (fun hc h0 => ?_)
 refine sq [0,1] (pm ?_)
 refine pa (nx (aA (aI ?_)))
 cases h0
 exact r0t 2 rfl
 refine sk (sq [0,1,2,3] (pm ?_))
 refine rP rfl (aJ tok rfl rfl rfl) (rP rfl (tK rfl rfl (by decide)) (pa (nx (aB ?_))))
 refine aH (is:=[0,1,2,4,5,6,3,7,8,9]) [0,0,3,7,0,0,48,127,255,511] follows (by kernel_rfl) (tpm ?_)
 refine tpm ?_
 obtain ⟨hq2,h0⟩:=cO h0
 refine tP rfl (vS tok hq2 rfl (.inl ⟨rfl,rfl⟩) (.inr ⟨_,_,rfl,rfl⟩) rfl rfl rfl (fun _=>rfl)) (tpm ?_)
 refine tpm ?_
 obtain ⟨hq3,h0⟩:=cO h0
 refine tP rfl (vS tok hq3 rfl (.inr ⟨_,_,rfl,rfl⟩) (.inl ⟨rfl,rfl⟩) rfl rfl rfl (fun _=>rfl)) ?_
 obtain ⟨v4,hv4,h0⟩:=bnd h0
 refine jW rfl w0 rfl (cV 3 (ih hv4) rfl rfl rfl) ?_
 obtain ⟨v5,hv5,h0⟩:=bnd h0
 refine jW rfl w0 rfl (cV 3 (ih hv5) rfl rfl rfl) ?_
 obtain ⟨v6,hv6,h0⟩:=bnd h0
 refine jW rfl w0 rfl (cV 3 (aKn hv6) rfl rfl rfl) (tP rfl (aR (r := .own _ _ _) rfl) (bN ?_))
 refine ⟨by kernel_rfl,?_⟩
 refine aG (cN (aFa (k:=3) (t':=aC ((fun _ => .dead)) 2 (dL aU v6)) rfl (FzL.nil)) (aA ?_))
 cases h0
 exact r0t 2 rfl
theorem aKm {p0:List aV} {p1:Int} {r:Int} (h0:qR p0 p1=some r):FnC Tryz.prog 198 [] [dL aU p0,(dI p1)] [] (dI r):=by
 refine fi 28 tok Tryz.func198 ?_
 unfold qR at h0
 refine sq [0] (pa (nx (sq [0] ?_)))
 refine pa (nx (sq [0,1,2] ?_))
 refine pm ?_
 refine rP rfl (aJ tok rfl rfl rfl) (pa (nx ?_))
 obtain ⟨v7,h1,h0⟩:=bnd h0
 refine bI ⟨aC ((fun _ => .dead)) 5 (dI v7),lks [.no, .no, .no]⟩ ?_ ?_
 refine aE ?_
 refine aZ (fun s4=>⟨aC (aC (aC (aC ((fun _ => .dead)) 0 (dL aU p0)) 1 (dI p1)) 5 (dI s4.1)) 6 (dI s4.2),lks [.no, .no, .no]⟩) h1 ?_ (fun s4 y h2 => ?_)
 exact wk [0,1,2]
 refine aB (sq [0,1,2] (pm ?_))
 refine pm ?_
 refine rP rfl (bK rfl rfl) (nx ?_)
 refine bC h2 rfl (fun hc h2 => ?_) (fun hc h2 => ?_)
 refine sk (aE (sq [0,1,2,3,4] (pm ?_)))
 refine pm ?_
 refine rP rfl (bH rfl rfl) (rP rfl (tK rfl rfl (by decide)) (pa (nx (sq [0,1,2,3,4,5,6] ?_))))
 refine pm ?_
 refine pm ?_
 obtain ⟨v6,hv6,h2⟩:=bnd h2
 refine rP rfl (cE tok hv6 rfl rfl rfl rfl rfl rfl) (fr tok ?_)
 refine lr tok ?_
 refine pm ?_
 refine rP rfl (bK rfl rfl) (nx ?_)
 refine bC h2 rfl (fun hc h2 => ?_) (fun hc h2 => ?_)
 refine sr [0,1,2] (pm ?_)
 refine rP rfl (bH rfl rfl) (pa (aY ?_))
 refine bB (bS ?_)
 cases h2
 refine ⟨_,rfl,?_⟩
 exact wk [0,1,2]
 refine sr [0,1] (pm ?_)
 refine pa (aY ?_)
 refine bB (bS ?_)
 cases h2
 refine ⟨_,rfl,?_⟩
 exact wk [0,1,2]
 refine bF (bT ?_)
 cases h2
 refine bU ⟨_,rfl,fun e => ?_⟩
 subst e
 refine aQ (aG ?_)
 exact wk [0,1,2]
 refine sq [0,1] (pm ?_)
 refine pa (nx (aA ?_))
 cases h0
 exact r0t 4 rfl
theorem aEx {p0:List Int} {r:List Int} (h0:pL p0=some r):FnC Tryz.prog 235 [] [dL cI p0] [.live [⟨2,1, .data (List.map cI r)⟩]] (.own 0 0 r.length):=by
 refine fi 48 tok Tryz.func235 ?_
 unfold pL at h0
 refine sq [0] (pa (nx (sq [0,1] ?_)))
 refine rS rfl (eQ 3 tok rfl rfl rfl rfl) (rP rfl (aR (r := .own _ _ _) rfl) (nx ?_))
 obtain ⟨v35,h1,h0⟩:=bnd h0
 refine bI ⟨aC ((fun _ => .dead)) 3 (.own 3 0 (v35).length),lks [.no, .no, .no, .live [⟨2,1, .data (List.map cI v35)⟩]]⟩ ?_ ?_
 refine sq [0] (pa (nx (aE ?_)))
 refine aZ (fun s18=>⟨aC (aC (aC ((fun _ => .dead)) 0 (dL cI p0)) 3 (.own 3 0 (s18.2).length)) 4 (dI s18.1),lks [.no, .no, .no, .live [⟨2,1, .data (List.map cI s18.2)⟩]]⟩) h1 ?_ (fun s18 y h2 => ?_)
 exact wk [0,1,2,3]
 refine aB (sq [0,1,2,3] (pm ?_))
 refine pm ?_
 refine rP rfl (aJ tok rfl rfl rfl) (rP rfl (bK rfl rfl) (nx ?_))
 refine bC h2 rfl (fun hc h2 => ?_) (fun hc h2 => ?_)
 refine sk ?_
 obtain ⟨v34,h3,h2⟩:=bnd h2
 refine bI ⟨aC (aC (aC ((fun _ => .dead)) 0 (dL cI p0)) 3 (.own 3 0 (v34).length)) 4 (dI s18.1),lks [.no, .no, .no, .live [⟨2,1, .data (List.map cI v34)⟩]]⟩ ?_ ?_
 refine aE (sq [0,1,2] (rP rfl (aL (r := .own _ _ _) rfl) (rL rfl (mF tok rfl rfl rfl rfl rfl) (pa (nx ?_)))))
 obtain ⟨v27,h4,h3⟩:=bnd h3
 refine bI ⟨aC (aC (aC (aC ((fun _ => .dead)) 0 (dL cI p0)) 3 (.own 3 0 (s18.2).length)) 4 (dI s18.1)) 5 (dI v27),lks [.no, .no, .no, .live [⟨2,1, .data (List.map cI s18.2)⟩]]⟩ ?_ ?_
 refine aE ?_
 refine aZ (fun s23=>⟨aC (aC (aC (aC ((fun _ => .dead)) 0 (dL cI p0)) 3 (.own 3 0 (s18.2).length)) 4 (dI s18.1)) 5 (dI s23),lks [.no, .no, .no, .live [⟨2,1, .data (List.map cI s18.2)⟩]]⟩) h4 ?_ (fun s23 y h5 => ?_)
 exact wk [0,1,2,3]
 refine aB ?_
 obtain ⟨v26,h6,h5⟩:=bnd h5
 refine bI ⟨aC (aC (aC (aC (aC ((fun _ => .dead)) 0 (dL cI p0)) 3 (.own 3 0 (s18.2).length)) 4 (dI s18.1)) 5 (dI s23)) 29 (dB v26),lks [.no, .no, .no, .live [⟨2,1, .data (List.map cI s18.2)⟩]]⟩ ?_ ?_
 refine aH (is:=[0,1,2,3,4,5,6,7,8,9,10,11,12,13]) [0,1,3,7,7,23,63,127,7,7,775,1799,4095,8191] follows (by kernel_rfl) (tpm ?_)
 refine tP rfl (gT rfl rfl) (tpm ?_)
 refine aKh (u:=18) h6 rfl (fun hc h6 => ?_) (fun hc h6 => ?_)
 refine rF rfl (w1 rfl rfl rfl) rfl (aL (r := .own _ _ _) rfl) (aIv ?_)
 refine rF rfl (w1 rfl rfl rfl) rfl (gX rfl rfl) ?_
 obtain ⟨v24,hv24,h6⟩:=bnd h6
 refine cZ rfl (w1 rfl rfl rfl) rfl (fB tok hv24 rfl rfl rfl rfl rfl rfl rfl rfl) rfl rfl rfl (cZ rfl (w1 rfl rfl rfl) rfl (jK tok (dP hv24).2.1 rfl rfl rfl rfl rfl rfl) rfl rfl rfl (aIv ?_))
 refine aIv ?_
 obtain ⟨v25,hv25,h6⟩:=bnd h6
 refine rF rfl (w1 rfl rfl rfl) rfl (cE tok hv25 rfl rfl rfl rfl rfl rfl) (aOl tok ?_)
 refine rF rfl (w1 rfl rfl rfl) rfl (gT rfl rfl) (aBv ?_)
 refine bN ?_
 refine ⟨by kernel_rfl,?_⟩
 refine aG ?_
 cases h6
 exact wk [0,1,2,3]
 iterate 10 refine k2 ?_
 refine aBu ?_
 refine bN ?_
 refine ⟨by kernel_rfl,?_⟩
 refine aG ?_
 cases h6
 exact wk [0,1,2,3]
 refine bM h5 rfl (fun hc h5 => ?_) (fun hc h5 => ?_)
 refine sk (aE (sr [0,1,2] (pm ?_)))
 refine rP rfl (gX rfl rfl) (pa (aY ?_))
 refine bB (bS ?_)
 cases h5
 refine ⟨_,rfl,?_⟩
 exact wk [0,1,2,3]
 refine bF (bT ?_)
 cases h5
 refine bU ⟨_,rfl,fun e => ?_⟩
 subst e
 refine aQ (aG ?_)
 exact wk [0,1,2,3]
 refine aB (cN (aFa (k:=3) (t':=aC (aC (aC (aC ((fun _ => .dead)) 0 (dL cI p0)) 3 (dL cI s18.2)) 4 (dI s18.1)) 5 (dI v27)) rfl (FzL.nil)) (aH (is:=[0,1,2,4,5,6,7,3,8,9,10]) [0,0,3,7,0,0,48,112,240,511,1023] follows (by kernel_rfl) (tpm ?_)))
 refine tpm ?_
 obtain ⟨hq28,h3⟩:=cO h3
 refine tP rfl (vS tok hq28 rfl (.inl ⟨rfl,rfl⟩) (.inr ⟨_,_,rfl,rfl⟩) rfl rfl rfl (fun _=>rfl)) (tpm ?_)
 refine tpm ?_
 obtain ⟨v29,hv29,h3⟩:=bnd h3
 refine tP rfl (cE tok hv29 rfl rfl rfl rfl rfl rfl) (tlr tok ?_)
 obtain ⟨v30,hv30,h3⟩:=bnd h3
 refine jW rfl w0 rfl (cV 5 (uT hv30) rfl rfl rfl) (aEt rfl w0 rfl rfl (fun hx hk=>zX 4 tok cI [v29] rfl rfl rfl (by repeat (first | exact Els.nil _ | apply Els.cons (cs:=[.d _]) rfl rfl rfl | apply Els.cons (cs:=_ :: _) rfl rfl rfl)) rfl rfl rfl (by repeat (first | exact cR.nil | (apply cR.cons; (repeat (first | exact eZ.nil | apply eZ.cons))))) rfl hk) ?_)
 obtain ⟨hq31,h3⟩:=cO h3
 refine yX rfl w0 rfl (eU tok hq31 rfl rfl rfl rfl rfl rfl rfl rfl rfl rfl rfl rfl (fun _=>rfl)) (tP rfl (aR (r := .own _ _ _) rfl) (bN ?_))
 refine ⟨by kernel_rfl,?_⟩
 refine aG (sr [0,1,2,3,4,5] (rP rfl (aL (r := .own _ _ _) rfl) (pm ?_)))
 refine pm ?_
 obtain ⟨hq32,h3⟩:=cO h3
 refine rP rfl (vS tok hq32 rfl (.inr ⟨_,_,rfl,rfl⟩) (.inl ⟨rfl,rfl⟩) rfl rfl rfl (fun _=>rfl)) ?_
 obtain ⟨hq33,h3⟩:=cO h3
 refine rw1 rfl w0 rfl (eU tok hq33 rfl rfl rfl rfl rfl rfl rfl rfl rfl rfl rfl rfl (fun _=>rfl)) (rP rfl (aR (r := .own _ _ _) rfl) (aY (bB (aG ?_))))
 cases h3
 exact wk [0,1,2,5]
 refine sr [0,1,2] (pm ?_)
 refine rP rfl (bH rfl rfl) (pa (aY ?_))
 refine bS ?_
 cases h2
 refine ⟨_,rfl,?_⟩
 exact wk [0,1,2,3]
 refine bF (bT ?_)
 cases h2
 refine bU ⟨_,rfl,fun e => ?_⟩
 subst e
 refine aQ (aG ?_)
 exact wk [0,1,2,3]
 refine sq [0,1] (rP rfl (aL (r := .own _ _ _) rfl) (rP rfl (aR (r := .own _ _ _) rfl) (nx (aA ?_))))
 cases h0
 exact dG (rs:=[.tmp 2]) [3] rfl
theorem aKk {p0:List Int} {p1:List Int} {r:List bQ} (h0:nR p0 p1=some r):FnC Tryz.prog 214 [] [dL cI p0,(dL cI p1)] [.live [⟨86,2, .data (List.map cM r)⟩]] (.own 0 0 r.length):=by
 refine fi 37 tok Tryz.func214 ?_
 unfold nR at h0
 refine sq [0] (pa (nx (sq [0,1,2] ?_)))
 refine pm ?_
 obtain ⟨v1,hv1,h0⟩:=bnd h0
 refine rS rfl (aM 3 (aEx hv1) rfl rfl rfl) (rP rfl (aR (r := .own _ _ _) rfl) (nx (sq [0,1,2] (pm ?_))))
 obtain ⟨v2,hv2,h0⟩:=bnd h0
 refine rS rfl (aM 4 (aEx hv2) rfl rfl rfl) (rP rfl (aR (r := .own _ _ _) rfl) (nx (sq [0,1] (rS rfl (eQ 5 tok rfl rfl rfl rfl) (rP rfl (aR (r := .own _ _ _) rfl) (nx ?_))))))
 obtain ⟨v11,h1,h0⟩:=bnd h0
 refine bI ⟨aC ((fun _ => .dead)) 7 (.own 3 0 (v11).length),lks [.no, .no, .no, .live [⟨86,2, .data (List.map cM v11)⟩]]⟩ ?_ ?_
 refine sq [0] (pa (nx (aE ?_)))
 refine aZ (fun s7=>⟨aC (aC (aC (aC ((fun _ => .dead)) 5 (.own 3 0 (v1).length)) 6 (.own 4 0 (v2).length)) 7 (.own 5 0 (s7.2).length)) 8 (dI s7.1),lks [.no, .no, .no, .live [⟨2,1, .data (List.map cI v1)⟩], .live [⟨2,1, .data (List.map cI v2)⟩], .live [⟨86,2, .data (List.map cM s7.2)⟩]]⟩) h1 ?_ (fun s7 y h2 => ?_)
 exact wk [0,1,2,3,4,5]
 refine aB (sq [0,1,2,3] (pm ?_))
 refine rP rfl (aL (r := .own _ _ _) rfl) (rL rfl (mF tok rfl rfl rfl rfl rfl) (rP rfl (bK rfl rfl) (nx ?_)))
 refine bC h2 rfl (fun hc h2 => ?_) (fun hc h2 => ?_)
 refine sk (aB (aE (aH (is:=[0,1,2,3,4,5,6,7,8,9,10,11,12,13,14,15,16]) [0,0,0,4,12,0,60,126,254,0,0,1536,3584,8190,16382,32767,65535] follows (by kernel_rfl) ?_)))
 iterate 3 refine tP rfl (aL (r := .own _ _ _) rfl) ?_
 refine cZ rfl w0 rfl (mF tok rfl rfl rfl rfl rfl) rfl rfl rfl (tP rfl (gX rfl rfl) (tpm ?_))
 refine tP rfl (gX rfl rfl) ?_
 obtain ⟨v8,hv8,h2⟩:=bnd h2
 refine cZ rfl w0 rfl (fB tok hv8 rfl rfl rfl rfl rfl rfl rfl rfl) rfl rfl rfl (cZ rfl w0 rfl (jK tok (dP hv8).2.1 rfl rfl rfl rfl rfl rfl) rfl rfl rfl (tP rfl (aL (r := .own _ _ _) rfl) (tpm ?_)))
 obtain ⟨v9,hv9,h2⟩:=bnd h2
 refine cZ rfl w0 rfl (fB tok hv9 rfl rfl rfl rfl rfl rfl rfl rfl) rfl rfl rfl (cZ rfl w0 rfl (jK tok (dP hv9).2.1 rfl rfl rfl rfl rfl rfl) rfl rfl rfl (tP rfl (pbl (C0:=[z0,z0]) tok rfl rfl rfl) (aU1 rfl w0 rfl (iZ tok cM [(⟨v8,v9⟩:bQ)] rfl rfl rfl (by repeat (first | exact Els.nil _ | apply Els.cons (cs:=[.d _]) rfl rfl rfl | apply Els.cons (cs:=_ :: _) rfl rfl rfl)) rfl rfl rfl (by repeat (first | exact cR.nil | (apply cR.cons; (repeat (first | exact eZ.nil | apply eZ.cons))))) rfl) ?_)))
 obtain ⟨hq10,h2⟩:=cO h2
 refine yX rfl w0 rfl (eU tok hq10 rfl rfl rfl rfl rfl rfl rfl rfl rfl rfl rfl rfl (fun _=>rfl)) (tP rfl (aR (r := .own _ _ _) rfl) (bN ?_))
 refine ⟨by kernel_rfl,?_⟩
 refine bB (aG (sr [0,1,2] (pm ?_)))
 refine rP rfl (bH rfl rfl) (pa (aY ?_))
 refine bS ?_
 cases h2
 refine ⟨_,rfl,?_⟩
 exact wk [0,1,2,3,4,5]
 refine bF (bT ?_)
 cases h2
 refine bU ⟨_,rfl,fun e => ?_⟩
 subst e
 refine aQ (aG ?_)
 exact wk [0,1,2,5]
 refine sq [0,1] (rP rfl (aL (r := .own _ _ _) rfl) (rP rfl (aR (r := .own _ _ _) rfl) (nx (aA ?_))))
 cases h0
 exact dG (rs:=[.tmp 4]) [3] rfl
theorem aGn {p0:List bQ} {r:Int} (h0:pM p0=some r):FnC Tryz.prog 236 [] [dL cM p0] [] (dI r):=by
 refine fi 25 tok Tryz.func236 ?_
 unfold pM at h0
 refine sq [0] (pa (nx (sq [0] ?_)))
 refine pa (nx ?_)
 obtain ⟨v7,h1,h0⟩:=bnd h0
 refine bI ⟨aC ((fun _ => .dead)) 3 (dI v7),lks [.no, .no, .no]⟩ ?_ ?_
 refine sq [0] (pa (nx (aE ?_)))
 refine aZ (fun s4=>⟨aC (aC (aC ((fun _ => .dead)) 0 (dL cM p0)) 3 (dI s4.1)) 4 (dI s4.2),lks [.no, .no, .no]⟩) h1 ?_ (fun s4 y h2 => ?_)
 exact wk [0,1,2]
 refine aB (sq [0,1,2,3] (pm ?_))
 refine pm ?_
 refine rP rfl (aJ tok rfl rfl rfl) (rP rfl (bK rfl rfl) (nx ?_))
 refine bC h2 rfl (fun hc h2 => ?_) (fun hc h2 => ?_)
 refine sk (aB (aE (aH (is:=[0,1,2,3,4,5,6,7,8,9,10,11,12,13]) [0,0,0,6,14,30,0,0,192,448,960,2046,4095,8191] follows (by kernel_rfl) ?_)))
 iterate 3 refine tpm ?_
 obtain ⟨v5,hv5,h2⟩:=bnd h2
 refine tP rfl (cE tok hv5 rfl rfl rfl rfl rfl rfl) (tfr tok ?_)
 refine tlr tok ?_
 refine tpm ?_
 refine tpm ?_
 obtain ⟨v6,hv6,h2⟩:=bnd h2
 refine tP rfl (cE tok hv6 rfl rfl rfl rfl rfl rfl) (tfr tok ?_)
 refine tlr tok ?_
 refine tP rfl (bH rfl rfl) (tP rfl (bH rfl rfl) (tpa ?_))
 refine bN ?_
 refine ⟨by kernel_rfl,?_⟩
 refine bB (aG (sr [0,1,2] (pm ?_)))
 refine rP rfl (bH rfl rfl) (pa (aY ?_))
 refine bS ?_
 cases h2
 refine ⟨_,rfl,?_⟩
 exact wk [0,1,2]
 refine bF (bT ?_)
 cases h2
 refine bU ⟨_,rfl,fun e => ?_⟩
 subst e
 refine aQ (aG ?_)
 exact wk [0,1,2]
 refine sq [0,1] (pm ?_)
 refine pa (nx (aA ?_))
 cases h0
 exact r0t 2 rfl
theorem tM {p0:Int} {r:aD} (h0:jP p0=some r):FnC Tryz.prog 173 [] [dI p0] [] (.agg [dI r.Num,(dI r.Den)]):=by
 refine fi 5 tok Tryz.func173 ?_
 unfold jP at h0
 refine sq [0] (al 3 [z0,z0] tok (nx (sq [0,1,2] ?_)))
 refine pm ?_
 refine rP rfl (pbl (C0:=[z0,z0]) tok rfl rfl rfl) (bst tok (nx (aA ?_)))
 cases h0
 exact gU (rs:=[.cell 2 75]) rfl
theorem aFz {p0:aD} {p1:aD} {r:Int} (h0:uB p0 p1=some r):FnC Tryz.prog 237 [] [.agg [dI p0.Num,(dI p0.Den)], .agg [dI p1.Num,(dI p1.Den)]] [] (dI r):=by
 refine fi 25 tok Tryz.func237 ?_
 unfold uB at h0
 refine sq [0,1,2] (bxx 3 ?_)
 refine bxx 4 ?_
 refine pa (nx (sq [0,1,2,3,4,5] ?_))
 refine fa tok ?_
 refine ld tok ?_
 refine fa tok ?_
 refine ld tok ?_
 refine rP rfl (eL rfl rfl) (pa (nx (sq [0,1,2,3,4,5] ?_)))
 refine fa tok ?_
 refine ld tok ?_
 refine fa tok ?_
 refine ld tok ?_
 refine rP rfl (eL rfl rfl) (pa (nx (aB (aE (sq [0,1,2,3] ?_)))))
 refine pm ?_
 refine pm ?_
 refine rP rfl (bK rfl rfl) (pa (nx ?_))
 refine bC h0 rfl (fun hc h0 => ?_) (fun hc h0 => ?_)
 refine sq [0] (pa (nx (aA ?_)))
 refine aX (aI ?_)
 cases h0
 exact r0t 4 rfl
 refine sq [0,1,2,3] (pm ?_)
 refine pm ?_
 refine rP rfl (gT rfl rfl) (pa (nx ?_))
 refine bC h0 rfl (fun hc h0 => ?_) (fun hc h0 => ?_)
 refine sq [0] (pa (nx (aA ?_)))
 refine aX (aI ?_)
 cases h0
 exact r0t 4 rfl
 refine cX (bB (aG (sq [0] (pa (nx (aA ?_))))))
 cases h0
 exact r0t 4 rfl
theorem aF0 {p0:List bQ} {p1:List bQ} {r:Int} (h0:mR p0 p1=some r):FnC Tryz.prog 215 [] [dL cM p0,(dL cM p1)] [] (dI r):=by
 refine fi 91 tok Tryz.func215 ?_
 unfold mR at h0
 refine sq [0] (pa (nx (sq [0,1,2,3] ?_)))
 refine pm ?_
 obtain ⟨v1,hv1,h0⟩:=bnd h0
 refine rS rfl (aM 3 (aGn hv1) rfl rfl rfl) (rS rfl (mE 3 tok cI [v1] rfl rfl rfl (by repeat (first | exact Els.nil _ | apply Els.cons (cs:=[.d _]) rfl rfl rfl | apply Els.cons (cs:=_ :: _) rfl rfl rfl)) rfl rfl rfl (by repeat (first | exact cR.nil | (apply cR.cons; (repeat (first | exact eZ.nil | apply eZ.cons))))) rfl rfl) (rP rfl (aR (r := .own _ _ _) rfl) (nx (sq [0,1,2,3] (pm ?_)))))
 obtain ⟨v2,hv2,h0⟩:=bnd h0
 refine rS rfl (aM 4 (aGn hv2) rfl rfl rfl) (rS rfl (mE 4 tok cI [v2] rfl rfl rfl (by repeat (first | exact Els.nil _ | apply Els.cons (cs:=[.d _]) rfl rfl rfl | apply Els.cons (cs:=_ :: _) rfl rfl rfl)) rfl rfl rfl (by repeat (first | exact cR.nil | (apply cR.cons; (repeat (first | exact eZ.nil | apply eZ.cons))))) rfl rfl) (rP rfl (aR (r := .own _ _ _) rfl) (nx ?_)))
 obtain ⟨v11,h1,h0⟩:=bnd h0
 refine bI ⟨aC (aC (aC ((fun _ => .dead)) 1 (dL cM p1)) 5 (.own 3 0 (v11).length)) 6 (.own 4 0 ([v2]).length),lks [.no, .no, .no, .live [⟨2,1, .data (List.map cI v11)⟩], .live [⟨2,1, .data (List.map cI [v2])⟩]]⟩ ?_ ?_
 refine sq [0] (pa (nx (aE ?_)))
 refine aZ (fun s7=>⟨aC (aC (aC (aC (aC ((fun _ => .dead)) 0 (dL cM p0)) 1 (dL cM p1)) 5 (.own 3 0 (s7.2).length)) 6 (.own 4 0 ([v2]).length)) 7 (dI s7.1),lks [.no, .no, .no, .live [⟨2,1, .data (List.map cI s7.2)⟩], .live [⟨2,1, .data (List.map cI [v2])⟩]]⟩) h1 ?_ (fun s7 y h2 => ?_)
 exact wk [0,1,2,3,4]
 refine aB (sq [0,1,2,3] (pm ?_))
 refine pm ?_
 refine rP rfl (aJ tok rfl rfl rfl) (rP rfl (bK rfl rfl) (nx ?_))
 refine bC h2 rfl (fun hc h2 => ?_) (fun hc h2 => ?_)
 refine sk (aB (aE (aH (is:=[0,1,2,3,4,5,6,7,8,9,10,11,12,13]) [0,0,0,6,14,30,0,0,192,448,960,2046,4095,8191] follows (by kernel_rfl) (tP rfl (aL (r := .own _ _ _) rfl) (tpm ?_)))))
 refine tpm ?_
 obtain ⟨v8,hv8,h2⟩:=bnd h2
 refine tP rfl (cE tok hv8 rfl rfl rfl rfl rfl rfl) (tfr tok ?_)
 refine tlr tok ?_
 refine tpm ?_
 refine tpm ?_
 obtain ⟨v9,hv9,h2⟩:=bnd h2
 refine tP rfl (cE tok hv9 rfl rfl rfl rfl rfl rfl) (tfr tok ?_)
 refine tlr tok ?_
 refine aU1 rfl w0 rfl (iZ tok cI [v8.Driver,v9.Driven] rfl rfl rfl (by repeat (first | exact Els.nil _ | apply Els.cons (cs:=[.d _]) rfl rfl rfl | apply Els.cons (cs:=_ :: _) rfl rfl rfl)) rfl rfl rfl (by repeat (first | exact cR.nil | (apply cR.cons; (repeat (first | exact eZ.nil | apply eZ.cons))))) rfl) ?_
 obtain ⟨hq10,h2⟩:=cO h2
 refine yX rfl w0 rfl (eU tok hq10 rfl rfl rfl rfl rfl rfl rfl rfl rfl rfl rfl rfl (fun _=>rfl)) (tP rfl (aR (r := .own _ _ _) rfl) (bN ?_))
 refine ⟨by kernel_rfl,?_⟩
 refine bB (aG (sr [0,1,2] (pm ?_)))
 refine rP rfl (bH rfl rfl) (pa (aY ?_))
 refine bS ?_
 cases h2
 refine ⟨_,rfl,?_⟩
 exact wk [0,1,2,3,4]
 refine bF (bT ?_)
 cases h2
 refine bU ⟨_,rfl,fun e => ?_⟩
 subst e
 refine aQ (aG ?_)
 exact wk [0,1,2,3,4]
 obtain ⟨v20,h1,h0⟩:=bnd h0
 refine bI ⟨aC (aC ((fun _ => .dead)) 5 (.own 3 0 (v11).length)) 6 (.own 4 0 (v20).length),lks [.no, .no, .no, .live [⟨2,1, .data (List.map cI v11)⟩], .live [⟨2,1, .data (List.map cI v20)⟩]]⟩ ?_ ?_
 refine sq [0] (pa (nx (aE ?_)))
 refine aZ (fun s16=>⟨aC (aC (aC (aC ((fun _ => .dead)) 1 (dL cM p1)) 5 (.own 3 0 (v11).length)) 6 (.own 4 0 (s16.2).length)) 8 (dI s16.1),lks [.no, .no, .no, .live [⟨2,1, .data (List.map cI v11)⟩], .live [⟨2,1, .data (List.map cI s16.2)⟩]]⟩) h1 ?_ (fun s16 y h2 => ?_)
 exact wk [0,1,2,3,4]
 refine aB (sq [0,1,2,3] (pm ?_))
 refine pm ?_
 refine rP rfl (aJ tok rfl rfl rfl) (rP rfl (bK rfl rfl) (nx ?_))
 refine bC h2 rfl (fun hc h2 => ?_) (fun hc h2 => ?_)
 refine sk (aB (aE (aH (is:=[0,1,2,3,4,5,6,7,8,9,10,11,12,13]) [0,0,0,6,14,30,0,0,192,448,960,2046,4095,8191] follows (by kernel_rfl) (tP rfl (aL (r := .own _ _ _) rfl) (tpm ?_)))))
 refine tpm ?_
 obtain ⟨v17,hv17,h2⟩:=bnd h2
 refine tP rfl (cE tok hv17 rfl rfl rfl rfl rfl rfl) (tfr tok ?_)
 refine tlr tok ?_
 refine tpm ?_
 refine tpm ?_
 obtain ⟨v18,hv18,h2⟩:=bnd h2
 refine tP rfl (cE tok hv18 rfl rfl rfl rfl rfl rfl) (tfr tok ?_)
 refine tlr tok ?_
 refine aU1 rfl w0 rfl (iZ tok cI [v17.Driver,v18.Driven] rfl rfl rfl (by repeat (first | exact Els.nil _ | apply Els.cons (cs:=[.d _]) rfl rfl rfl | apply Els.cons (cs:=_ :: _) rfl rfl rfl)) rfl rfl rfl (by repeat (first | exact cR.nil | (apply cR.cons; (repeat (first | exact eZ.nil | apply eZ.cons))))) rfl) ?_
 obtain ⟨hq19,h2⟩:=cO h2
 refine yX rfl w0 rfl (eU tok hq19 rfl rfl rfl rfl rfl rfl rfl rfl rfl rfl rfl rfl (fun _=>rfl)) (tP rfl (aR (r := .own _ _ _) rfl) (bN ?_))
 refine ⟨by kernel_rfl,?_⟩
 refine bB (aG (sr [0,1,2] (pm ?_)))
 refine rP rfl (bH rfl rfl) (pa (aY ?_))
 refine bS ?_
 cases h2
 refine ⟨_,rfl,?_⟩
 exact wk [0,1,2,3,4]
 refine bF (bT ?_)
 cases h2
 refine bU ⟨_,rfl,fun e => ?_⟩
 subst e
 refine aQ (aG ?_)
 exact wk [0,1,2,3,4]
 obtain ⟨v33x,h1,h0⟩:=bnd h0
 refine dH v33x (fun v33=>⟨aC (aC ((fun _ => .dead)) 5 (.own 3 0 (v11).length)) 6 (.own 4 0 (v20).length),lks [.no, .no, .no, .live [⟨2,1, .data (List.map cI v11)⟩], .live [⟨2,1, .data (List.map cI v20)⟩]]⟩) ?_ ?_
 refine sq [0] (pa (nx (aE ?_)))
 refine aZ (fun s27=>⟨aC (aC (aC ((fun _ => .dead)) 5 (.own 3 0 (v11).length)) 6 (.own 4 0 (v20).length)) 9 (dI s27),lks [.no, .no, .no, .live [⟨2,1, .data (List.map cI v11)⟩], .live [⟨2,1, .data (List.map cI v20)⟩]]⟩) h1 ?_ (fun s27 y h2 => ?_)
 exact wk [0,1,2,3,4]
 refine aB ?_
 obtain ⟨v28,h3,h2⟩:=bnd h2
 refine bI ⟨aC (aC (aC (aC ((fun _ => .dead)) 5 (.own 3 0 (v11).length)) 6 (.own 4 0 (v20).length)) 9 (dI s27)) 63 (dB v28),lks [.no, .no, .no, .live [⟨2,1, .data (List.map cI v11)⟩], .live [⟨2,1, .data (List.map cI v20)⟩]]⟩ ?_ ?_
 refine sr [0,1,2,3,4,5,6,7,8,9] (pm ?_)
 refine rP rfl (aL (r := .own _ _ _) rfl) (rL rfl (mF tok rfl rfl rfl rfl rfl) (rP rfl (bK rfl rfl) (pm ?_)))
 refine iT (u:=58) h3 rfl (fun hc h3 => ?_) (fun hc h3 => ?_)
 refine pm1 ?_
 refine rp rfl (w1 rfl rfl rfl) rfl (aL (r := .own _ _ _) rfl) (rl rfl (w1 rfl rfl rfl) rfl (mF tok rfl rfl rfl rfl rfl) (rp rfl (w1 rfl rfl rfl) rfl (bK rfl rfl) (pkt (nx ?_))))
 cases h3
 exact wk [0,1,2,3,4]
 iterate 4 refine k1 ?_
 refine pkf (nx ?_)
 cases h3
 exact wk [0,1,2,3,4]
 refine bM h2 rfl (fun hc h2 => ?_) (fun hc h2 => ?_)
 refine sk (aB (aE (aB (aB (aH (is:=[0,1,2,3,4,5,6,7,8]) [0,0,3,7,0,0,48,112,255] follows (by kernel_rfl) (tP rfl (aL (r := .own _ _ _) rfl) (tpm ?_)))))))
 obtain ⟨v29,hv29,h2⟩:=bnd h2
 refine cZ rfl w0 rfl (fB tok hv29 rfl rfl rfl rfl rfl rfl rfl rfl) rfl rfl rfl (cZ rfl w0 rfl (jK tok (dP hv29).2.1 rfl rfl rfl rfl rfl rfl) rfl rfl rfl (tP rfl (aL (r := .own _ _ _) rfl) (tpm ?_)))
 obtain ⟨v30,hv30,h2⟩:=bnd h2
 refine cZ rfl w0 rfl (fB tok hv30 rfl rfl rfl rfl rfl rfl rfl rfl) rfl rfl rfl (cZ rfl w0 rfl (jK tok (dP hv30).2.1 rfl rfl rfl rfl rfl rfl) rfl rfl rfl (tP rfl (bK rfl rfl) (bN ?_)))
 refine ⟨by kernel_rfl,?_⟩
 refine aG ?_
 refine bC h2 rfl (fun hc h2 => ?_) (fun hc h2 => ?_)
 refine sq [0] (pa (nx (aA (aI ?_))))
 refine aX (aI ?_)
 cases h2
 refine dM ⟨_,rfl,fun e => ?_⟩
 subst e
 refine aX ?_
 replace h0:=eT h0
 refine aI ?_
 cases h0
 exact r0t 4 rfl
 refine sk (aB (aH (is:=[0,1,2,3,4,5,6,7,8]) [0,0,3,7,0,0,48,112,255] follows (by kernel_rfl) (tP rfl (aL (r := .own _ _ _) rfl) (tpm ?_))))
 obtain ⟨v31,hv31,h2⟩:=bnd h2
 refine cZ rfl w0 rfl (fB tok hv31 rfl rfl rfl rfl rfl rfl rfl rfl) rfl rfl rfl (cZ rfl w0 rfl (jK tok (dP hv31).2.1 rfl rfl rfl rfl rfl rfl) rfl rfl rfl (tP rfl (aL (r := .own _ _ _) rfl) (tpm ?_)))
 obtain ⟨v32,hv32,h2⟩:=bnd h2
 refine cZ rfl w0 rfl (fB tok hv32 rfl rfl rfl rfl rfl rfl rfl rfl) rfl rfl rfl (cZ rfl w0 rfl (jK tok (dP hv32).2.1 rfl rfl rfl rfl rfl rfl) rfl rfl rfl (tP rfl (gT rfl rfl) (bN ?_)))
 refine ⟨by kernel_rfl,?_⟩
 refine aG ?_
 refine bC h2 rfl (fun hc h2 => ?_) (fun hc h2 => ?_)
 refine sq [0] (pa (nx (aA ?_)))
 refine aX (aI ?_)
 cases h2
 refine dM ⟨_,rfl,fun e => ?_⟩
 subst e
 refine aX ?_
 replace h0:=eT h0
 refine aI ?_
 cases h0
 exact r0t 4 rfl
 refine cX (bB (aG (sr [0,1,2] (pm ?_))))
 refine rP rfl (bH rfl rfl) (pa (aY ?_))
 refine bS ?_
 cases h2
 refine ⟨_,rfl,?_⟩
 exact wk [0,1,2,3,4]
 refine bF (bT ?_)
 cases h2
 refine bU ⟨_,rfl,fun e => ?_⟩
 subst e
 refine aQ (aG ?_)
 refine ⟨_,rfl,?_⟩
 exact wk [0,1,2,3,4]
 rintro v33 rfl
 replace h0:=gS h0
 refine sq [0,1,2,3,4,5,6,7] (rP rfl (aL (r := .own _ _ _) rfl) (rL rfl (mF tok rfl rfl rfl rfl rfl) ?_))
 obtain ⟨v34,hv34,h0⟩:=bnd h0
 refine rS rfl (aM 5 (tM hv34) rfl rfl rfl) (rP rfl (aL (r := .own _ _ _) rfl) (rL rfl (mF tok rfl rfl rfl rfl rfl) ?_))
 obtain ⟨v35,hv35,h0⟩:=bnd h0
 refine rS rfl (aM 5 (tM hv35) rfl rfl rfl) ?_
 obtain ⟨v36,hv36,h0⟩:=bnd h0
 refine rS rfl (aM 5 (aFz hv36) rfl rfl rfl) (pa (nx (aA ?_)))
 cases h0
 exact r0t 4 rfl
theorem wG {p0:eR} {p1:aD} {p2:aV} {p3:aV} {r:eR} (h0:hZ p0 p1 p2 p3=some r):FnC Tryz.prog 199 [.live [⟨238,4, .av [[dI p0.driver,(dI p0.driven),(dI p0.off),(dL cM p0.train)]]⟩]] [.ptr 0 0 1 0 0, .agg [dI p1.Num,(dI p1.Den)], .ref (aU p2), .ref (aU p3)] [.live [⟨238,4, .av [[dI r.driver,(dI r.driven),(dI r.off),(dL cM r.train)]]⟩]] (.tup []):=by
 refine fi 105 tok Tryz.func199 ?_
 unfold hZ at h0
 refine sq [0] (bxx 3 (nx (aB ?_)))
 refine aH (is:=[0,1,2,3,4,5,6,7,8,9,10,11,12,13,14,15,16]) [0,1,3,7,0,16,63,0,128,384,896,0,2048,8064,16383,32767,65535] follows (by kernel_rfl) (yQ ?_)
 refine tnr ?_
 refine tfr tok ?_
 refine tlr tok ?_
 refine tfa tok ?_
 refine tld tok ?_
 refine tP rfl (eL rfl rfl) (yQ ?_)
 refine tnr ?_
 refine tfr tok ?_
 refine tlr tok ?_
 refine tfa tok ?_
 refine tld tok ?_
 refine tP rfl (eL rfl rfl) (tP rfl (gX rfl rfl) ?_)
 obtain ⟨v1,hv1,h0⟩:=bnd h0
 refine jW rfl w0 rfl (cV 4 (sP hv1) rfl rfl rfl) (tpa ?_)
 refine bN ?_
 refine ⟨by kernel_rfl,?_⟩
 refine aG (sq [0,1,2,3,4,5,6] (pm ?_))
 refine rP rfl (aL (r := .ptr _ _ _ _ _) rfl) (rL rfl (yS rfl rfl) (fa tok ?_))
 refine ld tok ?_
 refine rP rfl (eL rfl rfl) (pa (nx (aB ?_)))
 refine aH (is:=[0,1,2,3,4,5,6,7,8,9]) [0,1,3,7,0,16,48,112,255,511] follows (by kernel_rfl) (tP rfl (aL (r := .ptr _ _ _ _ _) rfl) (cZ rfl w0 rfl (yS rfl rfl) rfl rfl rfl (tfa tok ?_)))
 refine tld tok ?_
 refine yQ ?_
 refine tnr ?_
 refine tfr tok ?_
 refine tlr tok ?_
 refine tP rfl (eL rfl rfl) (tpa ?_)
 refine bN ?_
 refine ⟨by kernel_rfl,?_⟩
 refine aG (aB ?_)
 obtain ⟨v2,h1,h0⟩:=bnd h0
 refine bI ⟨aC (aC (aC (aC (aC (aC (aC ((fun _ => .dead)) 0 (.ptr 0 0 1 0 0)) 2 (.ref (aU p2))) 3 (.ref (aU p3))) 8 (dI v1)) 9 (dI (w64 (v1*p0.driven)))) 10 (dI (w64 (p0.off*p3.value)))) 53 (dB v2),lks [.live [⟨238,4, .av [[dI p0.driver,(dI p0.driven),(dI p0.off),(dL cM p0.train)]]⟩], .no, .no]⟩ ?_ ?_
 refine sr [0,1,2,3,4,5,6,7,8,9,10] (rP rfl (aL (r := .ptr _ _ _ _ _) rfl) (rL rfl (yS rfl rfl) (fa tok ?_)))
 refine ld tok ?_
 refine rP rfl (aJ tok rfl rfl rfl) (rP rfl (gT rfl rfl) (pm ?_))
 refine iT (u:=49) h1 rfl (fun hc h1 => ?_) (fun hc h1 => ?_)
 refine pm1 ?_
 refine pm1 ?_
 refine rp rfl (w1 rfl rfl rfl) rfl (gT rfl rfl) (pkt (nx ?_))
 cases h1
 exact wk [0,1,2]
 iterate 3 refine k1 ?_
 refine pkf (nx ?_)
 cases h1
 exact wk [0,1,2]
 refine bM h0 rfl (fun hc h0 => ?_) (fun hc h0 => ?_)
 refine aA (aI ?_)
 cases h0
 exact xF (rs:=[]) 1 rfl rfl
 refine sk (aB (aH (is:=[0,1,2,3,4,5,6,7,8,9]) [0,1,3,7,0,16,48,112,255,511] follows (by kernel_rfl) (yQ ?_)))
 refine tnr ?_
 refine tfr tok ?_
 refine tlr tok ?_
 refine yQ ?_
 refine tnr ?_
 refine tfr tok ?_
 refine tlr tok ?_
 obtain ⟨v3,hv3,h0⟩:=bnd h0
 refine jW rfl w0 rfl (cV 3 (aKk hv3) rfl rfl rfl) (tP rfl (aR (r := .own _ _ _) rfl) (bN ?_))
 refine ⟨by kernel_rfl,?_⟩
 refine aG ?_
 obtain ⟨v5,h1,h0⟩:=bnd h0
 refine bI ⟨aC (aC (aC (aC (aC (aC ((fun _ => .dead)) 0 (.ptr 0 0 1 0 0)) 2 (.ref (aU p2))) 3 (.ref (aU p3))) 8 (dI v1)) 11 (.own 3 0 (v3).length)) 82 (dB v5),lks [.live [⟨238,4, .av [[dI p0.driver,(dI p0.driven),(dI p0.off),(dL cM p0.train)]]⟩], .no, .no, .live [⟨86,2, .data (List.map cM v3)⟩]]⟩ ?_ ?_
 refine sr [0,1,2,3,4,5,6,7,8,9,10,11,12,13,14,15,16,17,18,19] (rP rfl (aL (r := .ptr _ _ _ _ _) rfl) (rL rfl (yS rfl rfl) (fa tok ?_)))
 refine ld tok ?_
 refine rP rfl (aJ tok rfl rfl rfl) (rP rfl (iX rfl rfl) (pm ?_))
 refine iT (u:=69) h1 rfl (fun hc h1 => ?_) (fun hc h1 => ?_)
 iterate 3 refine k1 ?_
 refine pkt ?_
 refine pm ?_
 iterate 7 refine k1 ?_
 refine pkt (nx ?_)
 cases h1
 exact wk [0,1,2,3]
 refine pm1 ?_
 refine pm1 ?_
 refine rp rfl (w1 rfl rfl rfl) rfl (bK rfl rfl) (pkf ?_)
 refine pm ?_
 refine iT (u:=74) h1 rfl (fun hc h1 => ?_) (fun hc h1 => ?_)
 iterate 7 refine k1 ?_
 refine pkt (nx ?_)
 cases h1
 exact wk [0,1,2,3]
 refine rp rfl (w1 rfl rfl rfl) rfl (aL (r := .own _ _ _) rfl) (rp rfl (w1 rfl rfl rfl) rfl (aL (r := .ptr _ _ _ _ _) rfl) (rl rfl (w1 rfl rfl rfl) rfl (yS rfl rfl) (fa1 tok ?_)))
 refine ld1 tok ?_
 obtain ⟨v4,hv4,h1⟩:=bnd h1
 refine rs rfl (w1 rfl rfl rfl) rfl (eW 4 (aF0 hv4) rfl rfl) (rp rfl (w1 rfl rfl rfl) rfl (bK rfl rfl) (pkf (nx ?_)))
 cases h1
 exact wk [0,1,2,3]
 refine bM h0 rfl (fun hc h0 => ?_) (fun hc h0 => ?_)
 refine sq [0,1,2,3,4,5,6,7] (rP rfl (aL (r := .ptr _ _ _ _ _) rfl) (pmr ?_))
 refine nr ?_
 refine fr tok ?_
 refine lr tok ?_
 refine rL rfl (yS rfl rfl) (fa tok ?_)
 refine bs1 tok (nx (sq [0,1,2,3,4,5,6,7] ?_))
 refine rP rfl (aL (r := .ptr _ _ _ _ _) rfl) (pmr ?_)
 refine nr ?_
 refine fr tok ?_
 refine lr tok ?_
 refine rL rfl (yS rfl rfl) (fa tok ?_)
 refine bs1 tok (nx (sq [0,1,2,3,4] ?_))
 refine rP rfl (aL (r := .ptr _ _ _ _ _) rfl) (pm ?_)
 refine rL rfl (yS rfl rfl) (fa tok ?_)
 refine bs1 tok (nx (sr [0,1,2,3,4] ?_))
 refine rP rfl (aL (r := .ptr _ _ _ _ _) rfl) (rP rfl (aL (r := .own _ _ _) rfl) (rL rfl (yS rfl rfl) (fa tok ?_)))
 refine oK (aFa (k:=3) (t':=aC (aC ((fun _ => .dead)) 102 (dL cM v3)) 104 (.ptr 0 0 1 0 3)) rfl (FzL.nil)) (bs1 tok (aY ?_))
 cases h0
 exact xF (rs:=[]) 1 rfl rfl
 refine cX ?_
 cases h0
 exact xF (rs:=[]) 1 rfl rfl
theorem aIg {p0:aD} {p1:iN} {r:List bQ} (h0:lZ p0 p1=some r):FnC Tryz.prog 167 [] [.agg [dI p0.Num,(dI p0.Den)], .ref (aC3 p1)] [] (dL cM r):=by
 refine fi 129 tok Tryz.func167 ?_
 unfold lZ at h0
 refine sq [0,1] (bxx 3 ?_)
 refine pa (nx (aB ?_))
 refine aH (is:=[0,1,2,3,4,5,6,7,8,9,10,11,12,13]) [0,1,3,7,0,16,48,112,0,256,768,1792,4095,8191] follows (by kernel_rfl) (yQ ?_)
 refine tnr ?_
 refine tfr tok ?_
 refine tlr tok ?_
 refine yQ ?_
 refine tnr ?_
 refine tfr tok ?_
 refine tlr tok ?_
 refine yQ ?_
 refine tnr ?_
 refine tfr tok ?_
 refine tlr tok ?_
 obtain ⟨v1,hv1,h0⟩:=bnd h0
 refine jW rfl w0 rfl (cV 4 (xJ hv1) rfl rfl rfl) (tpa ?_)
 refine bN ?_
 refine ⟨by kernel_rfl,?_⟩
 refine aG (aB (aH (is:=[0,1,2,3,4,5,6,7,8,9,10,11,12,13,14]) [0,1,3,7,0,16,48,112,0,256,768,1792,4095,8191,16383] follows (by kernel_rfl) (yQ ?_)))
 refine tnr ?_
 refine tfr tok ?_
 refine tlr tok ?_
 refine yQ ?_
 refine tnr ?_
 refine tfr tok ?_
 refine tlr tok ?_
 refine yQ ?_
 refine tnr ?_
 refine tfr tok ?_
 refine tlr tok ?_
 obtain ⟨v2,hv2,h0⟩:=bnd h0
 refine jW rfl w0 rfl (cV 4 (xJ hv2) rfl rfl rfl) ?_
 obtain ⟨v3,hv3,h0⟩:=bnd h0
 refine jW rfl w0 rfl (cV 4 (aM0 hv3) rfl rfl rfl) (tpa ?_)
 refine bN ?_
 refine ⟨by kernel_rfl,?_⟩
 refine aG (sq [0,1,2] (rP rfl (pbl (C0:=[z0,z0,z0,zl]) tok rfl rfl rfl) (bxx 4 ?_)))
 refine oK (vA 5 rfl 86 2 (kb:=4) (j:=3) rfl rfl (by repeat (first | exact Spl.z _ | apply Spl.t | apply Spl.d))) (oK (aFa (k:=5) (t':=aC (aC (aC (aC (aC ((fun _ => .dead)) 2 (.ptr 3 0 1 0 0)) 5 (dL aU v1)) 6 (dL aU v3)) 41 (.agg [z0,z0,z0,zl])) 42 (.ptr 4 0 1 0 0)) rfl (FzL.box (kb:=4) (ds:=[z0,z0,z0,(dL cM ([]:List bQ))]) rfl rfl (by repeat (first | exact tW.nil | apply tW.cons | exact FzR.d _ | exact FzR.own rfl (by first | rfl | (simp;done) | (simp;omega)) | exact FzR.ptr rfl (by repeat (first | exact Drp.z _ | apply Drp.d)) | exact FzR.own' | exact FzR.ptr' | exact FzR.ref _ | apply FzR.agg | apply FzR.tup | apply FzR.fn | exact FzR.dead _)) (FzL.nil))) (rP rfl (aR (r := .ptr _ _ _ _ _) rfl) (nx ?_)))
 obtain ⟨v70,h1,h0⟩:=bnd h0
 refine bI ⟨aC ((fun _ => .dead)) 7 (.ptr 3 0 1 0 0),lks [.no, .no, .no, .live [⟨238,4, .av [[dI v70.driver,(dI v70.driven),(dI v70.off),(dL cM v70.train)]]⟩]]⟩ ?_ ?_
 refine sq [0] (pa (nx (aE ?_)))
 refine aZ (fun s37=>⟨aC (aC (aC (aC (aC ((fun _ => .dead)) 2 (.ptr 3 0 1 0 0)) 5 (dL aU v1)) 6 (dL aU v3)) 7 (.ptr 4 0 1 0 0)) 8 (dI s37.1),lks [.no, .no, .no, .live [⟨75,2, .av [[dI p0.Num,(dI p0.Den)]]⟩], .live [⟨238,4, .av [[dI s37.2.driver,(dI s37.2.driven),(dI s37.2.off),(dL cM s37.2.train)]]⟩]]⟩) h1 ?_ (fun s37 y h2 => ?_)
 exact wk [0,1,2,3,4]
 refine aB (sq [0,1,2,3] (pm ?_))
 refine pm ?_
 refine rP rfl (aJ tok rfl rfl rfl) (rP rfl (bK rfl rfl) (nx ?_))
 refine bC h2 rfl (fun hc h2 => ?_) (fun hc h2 => ?_)
 refine sk ?_
 obtain ⟨v69,h3,h2⟩:=bnd h2
 refine bI ⟨aC (aC (aC (aC (aC ((fun _ => .dead)) 2 (.ptr 3 0 1 0 0)) 5 (dL aU v1)) 6 (dL aU v3)) 7 (.ptr 4 0 1 0 0)) 8 (dI s37.1),lks [.no, .no, .no, .live [⟨75,2, .av [[dI p0.Num,(dI p0.Den)]]⟩], .live [⟨238,4, .av [[dI v69.driver,(dI v69.driven),(dI v69.off),(dL cM v69.train)]]⟩]]⟩ ?_ ?_
 refine aE (aB (aH (is:=[0,1,2,3,4,5,6,7,8,9,10,11]) [0,0,3,7,15,0,32,127,0,256,1023,2047] follows (by kernel_rfl) (tpm ?_)))
 refine tpm ?_
 obtain ⟨v38,hv38,h3⟩:=bnd h3
 refine tP rfl (cE tok hv38 rfl rfl rfl rfl rfl rfl) (tfr tok ?_)
 refine tlr tok ?_
 refine tfa tok ?_
 refine tld tok ?_
 refine tP rfl (eL rfl rfl) (tfa tok ?_)
 refine tld tok ?_
 obtain ⟨hq39,h3⟩:=cO h3
 refine tP rfl (tK rfl rfl hq39) (tpa ?_)
 refine bN ?_
 refine ⟨by kernel_rfl,?_⟩
 refine aG (sq [0,1,2,3,4] (pm ?_))
 refine pm ?_
 refine rP rfl (bH rfl rfl) ?_
 obtain ⟨v40,hv40,h3⟩:=bnd h3
 refine rS rfl (aM 5 (aKm hv40) rfl rfl rfl) (pa (nx ?_))
 obtain ⟨v54,h4,h3⟩:=bnd h3
 refine bI ⟨aC (aC (aC (aC (aC (aC ((fun _ => .dead)) 2 (.ptr 3 0 1 0 0)) 5 (dL aU v1)) 6 (dL aU v3)) 7 (.ptr 4 0 1 0 0)) 8 (dI s37.1)) 10 (dI v40),lks [.no, .no, .no, .live [⟨75,2, .av [[dI p0.Num,(dI p0.Den)]]⟩], .live [⟨238,4, .av [[dI v54.driver,(dI v54.driven),(dI v54.off),(dL cM v54.train)]]⟩]]⟩ ?_ ?_
 refine sq [0,1] (pm ?_)
 refine rP rfl (gT rfl rfl) (nx ?_)
 refine bC h4 rfl (fun hc h4 => ?_) (fun hc h4 => ?_)
 refine sq [0,1,2,3,4,5,6] (pm ?_)
 refine pm ?_
 refine rP rfl (gX rfl rfl) ?_
 obtain ⟨v41,hv41,h4⟩:=bnd h4
 refine rP rfl (cE tok hv41 rfl rfl rfl rfl rfl rfl) (fr tok ?_)
 refine lr tok ?_
 refine pa (nx (sq [0,1,2] ?_))
 refine pm ?_
 refine rP rfl (gX rfl rfl) (pa (nx (aE ?_)))
 refine aZ (fun s48=>⟨aC (aC (aC (aC (aC (aC (aC (aC ((fun _ => .dead)) 2 (.ptr 3 0 1 0 0)) 5 (dL aU v1)) 6 (dL aU v3)) 7 (.ptr 4 0 1 0 0)) 8 (dI s37.1)) 10 (dI v40)) 11 (dI v41.value)) 12 (dI s48.1),lks [.no, .no, .no, .live [⟨75,2, .av [[dI p0.Num,(dI p0.Den)]]⟩], .live [⟨238,4, .av [[dI s48.2.driver,(dI s48.2.driven),(dI s48.2.off),(dL cM s48.2.train)]]⟩]]⟩) h4 ?_ (fun s48 y h5 => ?_)
 exact wk [0,1,2,3,4]
 refine aB ?_
 obtain ⟨v50,h6,h5⟩:=bnd h5
 refine bI ⟨aC (aC (aC (aC (aC (aC (aC (aC (aC ((fun _ => .dead)) 2 (.ptr 3 0 1 0 0)) 5 (dL aU v1)) 6 (dL aU v3)) 7 (.ptr 4 0 1 0 0)) 8 (dI s37.1)) 10 (dI v40)) 11 (dI v41.value)) 12 (dI s48.1)) 84 (dB v50),lks [.no, .no, .no, .live [⟨75,2, .av [[dI p0.Num,(dI p0.Den)]]⟩], .live [⟨238,4, .av [[dI s48.2.driver,(dI s48.2.driven),(dI s48.2.off),(dL cM s48.2.train)]]⟩]]⟩ ?_ ?_
 refine sr [0,1,2,3,4,5,6,7,8,9,10] (pm ?_)
 refine rP rfl (tH rfl rfl) (pm ?_)
 refine iT (u:=76) h6 rfl (fun hc h6 => ?_) (fun hc h6 => ?_)
 refine pm1 ?_
 refine pm1 ?_
 obtain ⟨v49,hv49,h6⟩:=bnd h6
 refine rp rfl (w1 rfl rfl rfl) rfl (cE tok hv49 rfl rfl rfl rfl rfl rfl) (fr1 tok ?_)
 refine lr1 tok ?_
 refine pm1 ?_
 refine rp rfl (w1 rfl rfl rfl) rfl (iX rfl rfl) (pkt (nx ?_))
 cases h6
 refine mG.trans_ (mB (d:=80) (ds:=cI v49.value) rfl (by repeat (first | exact Pre.z _ | apply Pre.t))) ?_
 exact wk [0,1,2,3,4]
 iterate 7 refine k1 ?_
 refine pkf (nx ?_)
 cases h6
 exact wk [0,1,2,3,4]
 refine bM h5 rfl (fun hc h5 => ?_) (fun hc h5 => ?_)
 refine sk (aB (aE (aH (is:=[0,1,2,3,4,5,6,7,8]) [0,0,0,0,12,0,0,96,255] follows (by kernel_rfl) (tP rfl (aL (r := .ptr _ _ _ _ _) rfl) (cZ rfl w0 rfl (bA tok rfl rfl rfl rfl) rfl rfl rfl (tpm ?_))))))
 refine tpm ?_
 obtain ⟨v51,hv51,h5⟩:=bnd h5
 refine tP rfl (cE tok hv51 rfl rfl rfl rfl rfl rfl) (tpm ?_)
 refine tpm ?_
 obtain ⟨v52,hv52,h5⟩:=bnd h5
 refine tP rfl (cE tok hv52 rfl rfl rfl rfl rfl rfl) ?_
 obtain ⟨v53,hv53,h5⟩:=bnd h5
 refine aXq rfl w0 rfl (by repeat (first | exact oZ _ | exact oY rfl | refine pA ?_ rfl)) (aNn 4 (wG hv53) rfl rfl rfl) ?_
 refine bN ?_
 refine ⟨by kernel_rfl,?_⟩
 refine bB (aG (sr [0,1,2] (pm ?_)))
 refine rP rfl (gX rfl rfl) (pa (aY ?_))
 refine bS ?_
 cases h5
 refine ⟨_,rfl,?_⟩
 exact wk [0,1,2,3,4]
 refine bF (bT ?_)
 cases h5
 refine bU ⟨_,rfl,fun e => ?_⟩
 subst e
 refine aQ (aG ?_)
 exact wk [0,1,2,3,4]
 refine sk ?_
 cases h4
 exact wk [0,1,2,3,4]
 refine sq [0,1] (pm ?_)
 refine pa (nx (aE ?_))
 refine aZ (fun s62=>⟨aC (aC (aC (aC (aC (aC (aC ((fun _ => .dead)) 2 (.ptr 3 0 1 0 0)) 5 (dL aU v1)) 6 (dL aU v3)) 7 (.ptr 4 0 1 0 0)) 8 (dI s37.1)) 10 (dI v40)) 13 (dI s62.1),lks [.no, .no, .no, .live [⟨75,2, .av [[dI p0.Num,(dI p0.Den)]]⟩], .live [⟨238,4, .av [[dI s62.2.driver,(dI s62.2.driven),(dI s62.2.off),(dL cM s62.2.train)]]⟩]]⟩) h3 ?_ (fun s62 y h4 => ?_)
 exact wk [0,1,2,3,4]
 refine aB ?_
 obtain ⟨v65,h5,h4⟩:=bnd h4
 refine bI ⟨aC (aC (aC (aC (aC (aC (aC (aC ((fun _ => .dead)) 2 (.ptr 3 0 1 0 0)) 5 (dL aU v1)) 6 (dL aU v3)) 7 (.ptr 4 0 1 0 0)) 8 (dI s37.1)) 10 (dI v40)) 13 (dI s62.1)) 113 (dB v65),lks [.no, .no, .no, .live [⟨75,2, .av [[dI p0.Num,(dI p0.Den)]]⟩], .live [⟨238,4, .av [[dI s62.2.driver,(dI s62.2.driven),(dI s62.2.off),(dL cM s62.2.train)]]⟩]]⟩ ?_ ?_
 refine aH (is:=[0,1,2,3,4,5,6,7,8,9,10,11,12,13,14,15,16]) [0,0,2,7,15,31,31,127,255,511,31,31,3103,7199,15391,32767,65535] follows (by kernel_rfl) (tpm ?_)
 refine tpm ?_
 refine tP rfl (aJ tok rfl rfl rfl) (tP rfl (bK rfl rfl) (tpm ?_))
 refine aKh (u:=101) h5 rfl (fun hc h5 => ?_) (fun hc h5 => ?_)
 refine aIv ?_
 refine aIv ?_
 obtain ⟨v63,hv63,h5⟩:=bnd h5
 refine rF rfl (w1 rfl rfl rfl) rfl (cE tok hv63 rfl rfl rfl rfl rfl rfl) (aK9 tok ?_)
 refine aOl tok ?_
 refine aIv ?_
 refine aIv ?_
 obtain ⟨v64,hv64,h5⟩:=bnd h5
 refine rF rfl (w1 rfl rfl rfl) rfl (cE tok hv64 rfl rfl rfl rfl rfl rfl) (aK9 tok ?_)
 refine aOl tok ?_
 refine rF rfl (w1 rfl rfl rfl) rfl (iX rfl rfl) (aBv ?_)
 refine bN ?_
 refine ⟨by kernel_rfl,?_⟩
 refine aG ?_
 cases h5
 refine mG.trans_ (mB (d:=105) (ds:=cI v63.value) rfl (by repeat (first | exact Pre.z _ | apply Pre.t))) (mG.trans_ (mB (d:=110) (ds:=cI v64.value) rfl (by repeat (first | exact Pre.z _ | apply Pre.t))) ?_)
 exact wk [0,1,2,3,4]
 iterate 11 refine k2 ?_
 refine aBu ?_
 refine bN ?_
 refine ⟨by kernel_rfl,?_⟩
 refine aG ?_
 cases h5
 exact wk [0,1,2,3,4]
 refine bM h4 rfl (fun hc h4 => ?_) (fun hc h4 => ?_)
 refine sk (aB (aE (aH (is:=[0,1,2,3,4,5,6,7,8]) [0,0,0,0,12,0,0,96,255] follows (by kernel_rfl) (tP rfl (aL (r := .ptr _ _ _ _ _) rfl) (cZ rfl w0 rfl (bA tok rfl rfl rfl rfl) rfl rfl rfl (tpm ?_))))))
 refine tpm ?_
 obtain ⟨v66,hv66,h4⟩:=bnd h4
 refine tP rfl (cE tok hv66 rfl rfl rfl rfl rfl rfl) (tpm ?_)
 refine tpm ?_
 obtain ⟨v67,hv67,h4⟩:=bnd h4
 refine tP rfl (cE tok hv67 rfl rfl rfl rfl rfl rfl) ?_
 obtain ⟨v68,hv68,h4⟩:=bnd h4
 refine aXq rfl w0 rfl (by repeat (first | exact oZ _ | exact oY rfl | refine pA ?_ rfl)) (aNn 4 (wG hv68) rfl rfl rfl) ?_
 refine bN ?_
 refine ⟨by kernel_rfl,?_⟩
 refine bB (aG (sr [0,1,2] (pm ?_)))
 refine rP rfl (bH rfl rfl) (pa (aY ?_))
 refine bS ?_
 cases h4
 refine ⟨_,rfl,?_⟩
 exact wk [0,1,2,3,4]
 refine bF (bT ?_)
 cases h4
 refine bU ⟨_,rfl,fun e => ?_⟩
 subst e
 refine aQ ?_
 refine bB (aG ?_)
 exact wk [0,1,2,3,4]
 refine sr [0,1,2] (pm ?_)
 refine rP rfl (bH rfl rfl) (pa (aY ?_))
 refine bS ?_
 cases h2
 refine ⟨_,rfl,?_⟩
 exact wk [0,1,2,3,4]
 refine bF (bT ?_)
 cases h2
 refine bU ⟨_,rfl,fun e => ?_⟩
 subst e
 refine aQ (aG ?_)
 exact wk [0,1,2,4]
 refine sq [0,1,2,3,4] (rP rfl (aL (r := .ptr _ _ _ _ _) rfl) (rL rfl (yS rfl rfl) (fa tok ?_)))
 refine ld tok ?_
 refine pa (nx (aA ?_))
 cases h0
 exact r0t 4 rfl
theorem aMx {p0:bQ} {r:Bool} (h0:vV p0=some r):FnC Tryz.prog 216 [] [.agg [dI p0.Driver,(dI p0.Driven)]] [] (dB r):=by
 refine fi 11 tok Tryz.func216 ?_
 unfold vV at h0
 refine sq [0,1] (bxx 3 ?_)
 refine pa (nx (sq [0,1,2,3,4,5,6,7,8] ?_))
 refine fa tok ?_
 refine ld tok ?_
 obtain ⟨v1,hv1,h0⟩:=bnd h0
 refine rS rfl (aM 4 (qQ hv1) rfl rfl rfl) (pm ?_)
 refine dU (u:=6) h0 rfl (fun hc h0 => ?_) (fun hc h0 => ?_)
 refine fa1 tok ?_
 refine ld1 tok ?_
 obtain ⟨v2,hv2,h0⟩:=bnd h0
 refine rs rfl (w1 rfl rfl rfl) rfl (aM 4 (qQ hv2) rfl rfl rfl) (pkt ?_)
 refine pa (nx (aA ?_))
 cases h0
 exact r0t 2 rfl
 iterate 3 refine k1 ?_
 refine pkf ?_
 refine pa (nx (aA ?_))
 cases h0
 exact r0t 2 rfl
theorem aR2 {p0:List bQ} {r:Bool} (h0:xI p0=some r):FnC Tryz.prog 200 [] [dL cM p0] [] (dB r):=by
 refine fi 19 tok Tryz.func200 ?_
 unfold xI at h0
 refine sq [0] (pa (nx ?_))
 obtain ⟨v7x,h1,h0⟩:=bnd h0
 refine dH v7x (fun v7=>⟨aC ((fun _ => .dead)) 0 (dL cM p0),lks [.no, .no, .no]⟩) ?_ ?_
 refine sq [0] (pa (nx (aE ?_)))
 refine aZ (fun s4=>⟨aC (aC ((fun _ => .dead)) 0 (dL cM p0)) 3 (dI s4),lks [.no, .no, .no]⟩) h1 ?_ (fun s4 y h2 => ?_)
 exact wk [0,1,2]
 refine aB (sq [0,1,2,3] (pm ?_))
 refine pm ?_
 refine rP rfl (aJ tok rfl rfl rfl) (rP rfl (bK rfl rfl) (nx ?_))
 refine bC h2 rfl (fun hc h2 => ?_) (fun hc h2 => ?_)
 refine sk (aB (aE (sq [0,1,2,3,4,5] (pm ?_))))
 refine pm ?_
 obtain ⟨v5,hv5,h2⟩:=bnd h2
 refine rP rfl (cE tok hv5 rfl rfl rfl rfl rfl rfl) (rP rfl (bJ tok rfl rfl rfl (by repeat (first | exact gV.z _ | apply gV.t))) ?_)
 obtain ⟨v6,hv6,h2⟩:=bnd h2
 refine rS rfl (aM 3 (aMx hv6) rfl rfl rfl) (rP rfl (bW rfl) (nx ?_))
 refine bM h2 rfl (fun hc h2 => ?_) (fun hc h2 => ?_)
 refine sq [0] (pa (nx (aA ?_)))
 refine aX (aI ?_)
 cases h2
 refine dM ⟨_,rfl,fun e => ?_⟩
 subst e
 refine aX ?_
 replace h0:=eT h0
 refine aI ?_
 cases h0
 exact r0t 2 rfl
 refine cX (bB (aG (sr [0,1,2] (pm ?_))))
 refine rP rfl (bH rfl rfl) (pa (aY ?_))
 refine bS ?_
 cases h2
 refine ⟨_,rfl,?_⟩
 exact wk [0,1,2]
 refine bF (bT ?_)
 cases h2
 refine bU ⟨_,rfl,fun e => ?_⟩
 subst e
 refine aQ (aG ?_)
 refine ⟨_,rfl,?_⟩
 exact wk [0,1,2]
 rintro v7 rfl
 replace h0:=gS h0
 refine sq [0,1,2,3] (pm ?_)
 refine rP rfl (aJ tok rfl rfl rfl) (rP rfl (gW rfl rfl) (pa (nx (aA ?_))))
 cases h0
 exact r0t 2 rfl
theorem aBs {p0:aD} {p1:aD} {r:aD × Bool} (h0:kT p0 p1=some r):FnC Tryz.prog 205 [] [.agg [dI p0.Num,(dI p0.Den)], .agg [dI p1.Num,(dI p1.Den)]] [] (.tup [.agg [dI r.1.Num,(dI r.1.Den)],(dB r.2)]):=by
 refine fi 19 tok Tryz.func205 ?_
 unfold kT at h0
 refine sq [0,1,2,3] (bxx 3 ?_)
 refine bxx 4 ?_
 refine al 5 [z0,z0] tok ?_
 refine pa (nx (sq [0,1,2,3,4,5,6,7,8,9,10,11,12,13,14] ?_))
 refine fa tok ?_
 refine ld tok ?_
 refine fa tok ?_
 refine ld tok ?_
 refine rP rfl (eL rfl rfl) (fa tok ?_)
 refine ld tok ?_
 refine fa tok ?_
 refine ld tok ?_
 refine rP rfl (eL rfl rfl) ?_
 obtain ⟨v1,hv1,h0⟩:=bnd h0
 refine rS rfl (aM 6 (pJ hv1) rfl rfl rfl) (rP rfl (aN rfl rfl) (rP rfl (aN rfl rfl) (bst tok ?_)))
 refine pa (nx (aA ?_))
 cases h0
 exact gU (rs:=[.cell 4 75, .tmp 5]) rfl
theorem aKl {p0:List bQ} {r:aD × Bool} (h0:nS p0=some r):FnC Tryz.prog 217 [] [dL cM p0] [] (.tup [.agg [dI r.1.Num,(dI r.1.Den)],(dB r.2)]):=by
 refine fi 43 tok Tryz.func217 ?_
 unfold nS at h0
 refine sq [0,1] (al 3 [z0,z0] tok ?_)
 refine pa (nx (sq [0,1,2] ?_))
 obtain ⟨v1,hv1,h0⟩:=bnd h0
 refine rS rfl (aM 4 (tM hv1) rfl rfl rfl) (al 4 [z0,z0] tok ?_)
 refine bst tok (nx ?_)
 obtain ⟨v12x,h1,h0⟩:=bnd h0
 refine dH v12x (fun v12=>⟨aC (aC ((fun _ => .dead)) 2 (.ptr 3 0 1 0 0)) 4 (.ptr 4 0 1 0 0),lks [.no, .no, .no, .live [⟨75,2, .av [[z0,z0]]⟩], .live [⟨75,2, .av [[dI v12.Num,(dI v12.Den)]]⟩]]⟩) ?_ ?_
 refine sq [0] (pa (nx (aE ?_)))
 refine aZ (fun s7=>⟨aC (aC (aC (aC ((fun _ => .dead)) 0 (dL cM p0)) 2 (.ptr 3 0 1 0 0)) 4 (.ptr 4 0 1 0 0)) 5 (dI s7.1),lks [.no, .no, .no, .live [⟨75,2, .av [[z0,z0]]⟩], .live [⟨75,2, .av [[dI s7.2.Num,(dI s7.2.Den)]]⟩]]⟩) h1 ?_ (fun s7 y h2 => ?_)
 exact wk [0,1,2,3,4]
 refine aB (sq [0,1,2,3] (pm ?_))
 refine pm ?_
 refine rP rfl (aJ tok rfl rfl rfl) (rP rfl (bK rfl rfl) (nx ?_))
 refine bC h2 rfl (fun hc h2 => ?_) (fun hc h2 => ?_)
 refine sk (aB (aE (aB (aH (is:=[0,1,2,3,4,5,6,7,8,9,10,11,12,13,14,15,16,17]) [0,0,3,7,15,31,0,0,192,448,960,2047,4095,8191,8191,0,49151,131071] follows (by kernel_rfl) (tpm ?_)))))
 refine tpm ?_
 obtain ⟨v8,hv8,h2⟩:=bnd h2
 refine tP rfl (cE tok hv8 rfl rfl rfl rfl rfl rfl) (tfr tok ?_)
 refine tlr tok ?_
 refine tP rfl (wH rfl) (tpm ?_)
 refine tpm ?_
 obtain ⟨v9,hv9,h2⟩:=bnd h2
 refine tP rfl (cE tok hv9 rfl rfl rfl rfl rfl rfl) (tfr tok ?_)
 refine tlr tok ?_
 obtain ⟨v10,hv10,h2⟩:=bnd h2
 refine jW rfl w0 rfl (cV 6 (pJ hv10) rfl rfl rfl) (tP rfl (aL (r := .tup _) rfl) (tP rfl (aN rfl rfl) (tP rfl (aN rfl rfl) (aEt rfl w0 rfl rfl (fun hx hk=>oU 5 (cs:=[z0,z0]) tok rfl rfl hk) (oN rfl w0 (jA (cs:=_ :: _) tok rfl rfl rfl rfl rfl rfl rfl) (tpa ?_))))))
 refine bN ?_
 refine ⟨by kernel_rfl,?_⟩
 refine aG (sq [0,1,2,3,4,5,6,7,8] (rL rfl (bA tok rfl rfl rfl rfl) (rL rfl (bA tok rfl rfl rfl rfl) ?_)))
 obtain ⟨v11,hv11,h2⟩:=bnd h2
 refine rS rfl (aM 6 (aBs hv11) rfl rfl rfl) (rP rfl (aL (r := .tup _) rfl) (rP rfl (aN rfl rfl) (rP rfl (aN rfl rfl) (al 6 [z0,z0] tok ?_))))
 refine bst tok ?_
 refine pa (nx (aB (sq [0,1] ?_)))
 refine pm ?_
 refine rP rfl (bW rfl) (nx ?_)
 refine bM h2 rfl (fun hc h2 => ?_) (fun hc h2 => ?_)
 refine sq [0,1,2] (rP rfl (pbl (C0:=[z0,z0]) tok rfl rfl rfl) (bst tok ?_))
 refine pa (nx (aA (aI ?_)))
 refine aX (aI ?_)
 cases h2
 refine dM ⟨_,rfl,fun e => ?_⟩
 subst e
 refine aX ?_
 replace h0:=eT h0
 refine aI ?_
 cases h0
 exact gU (rs:=[.cell 2 75, .tmp 3]) rfl
 refine sk (sr [0,1] (rL rfl (bA tok rfl rfl rfl rfl) (bst tok (aY ?_))))
 refine bB (aG (sr [0,1,2] (pm ?_)))
 refine rP rfl (bH rfl rfl) (pa (aY ?_))
 refine bS ?_
 cases h2
 refine ⟨_,rfl,?_⟩
 exact wk [0,1,2,3,4]
 refine bF (bT ?_)
 cases h2
 refine bU ⟨_,rfl,fun e => ?_⟩
 subst e
 refine aQ (aG ?_)
 refine ⟨_,rfl,?_⟩
 exact wk [0,1,2,3,4]
 rintro v12 rfl
 replace h0:=gS h0
 refine sq [0,1,2] (rL rfl (bA tok rfl rfl rfl rfl) (bst tok ?_))
 refine pa (nx (aA ?_))
 cases h0
 exact gU (rs:=[.cell 2 75, .tmp 3]) rfl
theorem aPk {p0:aD} {r:aD} (h0:yI p0=some r):FnC Tryz.prog 219 [] [.agg [dI p0.Num,(dI p0.Den)]] [] (.agg [dI r.Num,(dI r.Den)]):=by
 refine fi 9 tok Tryz.func219 ?_
 unfold yI at h0
 refine sq [0,1] (bxx 3 ?_)
 refine al 4 [z0,z0] tok (nx (sq [0,1,2,3,4,5,6] ?_))
 refine fa tok ?_
 refine ld tok ?_
 refine rP rfl (wH rfl) (fa tok ?_)
 refine ld tok ?_
 refine rP rfl (pbl (C0:=[z0,z0]) tok rfl rfl rfl) (bst tok (nx (aA ?_)))
 cases h0
 exact gU (rs:=[.cell 2 75]) rfl
theorem aPj {p0:aD} {p1:aD} {r:aD × Bool} (h0:yH p0 p1=some r):FnC Tryz.prog 218 [] [.agg [dI p0.Num,(dI p0.Den)], .agg [dI p1.Num,(dI p1.Den)]] [] (.tup [.agg [dI r.1.Num,(dI r.1.Den)],(dB r.2)]):=by
 refine fi 25 tok Tryz.func218 ?_
 unfold yH at h0
 refine sq [0,1,2,3] (bxx 3 ?_)
 refine bxx 4 ?_
 refine al 5 [z0,z0] tok ?_
 refine pa (nx (sq [0,1,2,3,4,5,6,7,8,9,10,11,12,13,14,15,16,17,18,19,20] ?_))
 refine fa tok ?_
 refine ld tok ?_
 refine fa tok ?_
 refine ld tok ?_
 refine rP rfl (eL rfl rfl) (fa tok ?_)
 refine ld tok ?_
 refine fa tok ?_
 refine ld tok ?_
 refine rP rfl (eL rfl rfl) (rP rfl (bH rfl rfl) (fa tok ?_))
 refine ld tok ?_
 refine fa tok ?_
 refine ld tok ?_
 refine rP rfl (eL rfl rfl) ?_
 obtain ⟨v1,hv1,h0⟩:=bnd h0
 refine rS rfl (aM 6 (pJ hv1) rfl rfl rfl) (rP rfl (aN rfl rfl) (rP rfl (aN rfl rfl) (bst tok ?_)))
 refine pa (nx (aA ?_))
 cases h0
 exact gU (rs:=[.cell 4 75, .tmp 5]) rfl
theorem aMy {p0:List bQ} {p1:aD} {r:aD × Bool} (h0:vW p0 p1=some r):FnC Tryz.prog 201 [] [dL cM p0, .agg [dI p1.Num,(dI p1.Den)]] [] (.tup [.agg [dI r.1.Num,(dI r.1.Den)],(dB r.2)]):=by
 refine fi 26 tok Tryz.func201 ?_
 unfold vW at h0
 refine sq [0,1,2] (bxx 3 ?_)
 refine al 4 [z0,z0] tok ?_
 refine pa (nx (sq [0,1,2,3,4,5,6,7] ?_))
 refine pm ?_
 obtain ⟨v1,hv1,h0⟩:=bnd h0
 refine rS rfl (aM 5 (aKl hv1) rfl rfl rfl) (rP rfl (aL (r := .tup _) rfl) (rP rfl (aN rfl rfl) (rP rfl (aN rfl rfl) (al 5 [z0,z0] tok ?_))))
 refine bst tok ?_
 refine pa (nx (aB (sq [0,1] ?_)))
 refine pm ?_
 refine rP rfl (bW rfl) (nx ?_)
 refine bM h0 rfl (fun hc h0 => ?_) (fun hc h0 => ?_)
 refine sq [0,1,2] (rP rfl (pbl (C0:=[z0,z0]) tok rfl rfl rfl) (bst tok ?_))
 refine pa (nx (aA (aI ?_)))
 cases h0
 exact gU (rs:=[.cell 4 75, .tmp 5]) rfl
 refine sk (sq [0,1,2,3,4] (fa tok ?_))
 refine ld tok ?_
 obtain ⟨v2,hv2,h0⟩:=bnd h0
 refine rS rfl (aM 6 (sP hv2) rfl rfl rfl) (fa tok ?_)
 refine bs1 tok (nx (aB ?_))
 refine aH (is:=[0,1,2,3,4,5,6,7]) [0,0,2,7,15,15,63,127] follows (by kernel_rfl) (cZ rfl w0 rfl (bA tok rfl rfl rfl rfl) rfl rfl rfl (cZ rfl w0 rfl (bA tok rfl rfl rfl rfl) rfl rfl rfl ?_))
 obtain ⟨v3,hv3,h0⟩:=bnd h0
 refine jW rfl w0 rfl (cV 6 (aPk hv3) rfl rfl rfl) ?_
 obtain ⟨v4,hv4,h0⟩:=bnd h0
 refine jW rfl w0 rfl (cV 6 (aPj hv4) rfl rfl rfl) (tP rfl (aN rfl rfl) (tP rfl (aN rfl rfl) (oN rfl w0 (jA (cs:=_ :: _) tok rfl rfl rfl rfl rfl rfl rfl) (tpa ?_))))
 refine bN ?_
 refine ⟨by kernel_rfl,?_⟩
 refine aG (aA ?_)
 cases h0
 exact gU (rs:=[.cell 4 75, .tmp 5]) rfl
theorem aMu {p0:List bQ} {p1:aD} {r:aD × Int} (h0:sM p0 p1=some r):FnC Tryz.prog 168 [] [dL cM p0, .agg [dI p1.Num,(dI p1.Den)]] [] (.tup [.agg [dI r.1.Num,(dI r.1.Den)],(dI r.2)]):=by
 refine fi 31 tok Tryz.func168 ?_
 unfold sM at h0
 refine sq [0,1,2] (bxx 3 ?_)
 refine al 4 [z0,z0] tok ?_
 refine pa (nx (aB ?_))
 obtain ⟨v3,h1,h0⟩:=bnd h0
 refine bI ⟨aC (aC (aC (aC ((fun _ => .dead)) 0 (dL cM p0)) 3 (.ptr 3 0 1 0 0)) 4 (.ptr 4 0 1 0 0)) 15 (dB v3),lks [.no, .no, .no, .live [⟨75,2, .av [[dI p1.Num,(dI p1.Den)]]⟩], .live [⟨75,2, .av [[z0,z0]]⟩]]⟩ ?_ ?_
 refine sr [0,1,2,3,4,5,6,7] (pm ?_)
 obtain ⟨v1,hv1,h1⟩:=bnd h1
 refine rS rfl (aM 5 (aR2 hv1) rfl rfl rfl) (rP rfl (bW rfl) (pm ?_))
 refine dU (u:=11) h1 rfl (fun hc h1 => ?_) (fun hc h1 => ?_)
 iterate 3 refine k1 ?_
 refine pkt (nx ?_)
 cases h1
 exact wk [0,1,2,3,4]
 refine rl rfl (w1 rfl rfl rfl) rfl (bA tok rfl rfl rfl rfl) ?_
 obtain ⟨v2,hv2,h1⟩:=bnd h1
 refine rs rfl (w1 rfl rfl rfl) rfl (aM 5 (aKj hv2) rfl rfl rfl) (rp rfl (w1 rfl rfl rfl) rfl (bW rfl) (pkf (nx ?_)))
 cases h1
 exact wk [0,1,2,3,4]
 refine bM h0 rfl (fun hc h0 => ?_) (fun hc h0 => ?_)
 refine sq [0,1,2] (rP rfl (pbl (C0:=[z0,z0]) tok rfl rfl rfl) (bst tok ?_))
 refine pa (nx (aA (aI ?_)))
 cases h0
 exact gU (rs:=[.cell 4 75, .tmp 5]) rfl
 refine sk (sq [0,1,2,3,4,5,6,7,8] (pm ?_))
 refine rL rfl (bA tok rfl rfl rfl rfl) ?_
 obtain ⟨v4,hv4,h0⟩:=bnd h0
 refine rS rfl (aM 5 (aMy hv4) rfl rfl rfl) (rP rfl (aL (r := .tup _) rfl) (rP rfl (aN rfl rfl) (rP rfl (aN rfl rfl) (al 5 [z0,z0] tok ?_))))
 refine bst tok ?_
 refine pa (nx (aB (sq [0,1] ?_)))
 refine pm ?_
 refine rP rfl (bW rfl) (nx ?_)
 refine bM h0 rfl (fun hc h0 => ?_) (fun hc h0 => ?_)
 refine sq [0,1,2] (rP rfl (pbl (C0:=[z0,z0]) tok rfl rfl rfl) (bst tok ?_))
 refine pa (nx (aA (aI ?_)))
 cases h0
 exact gU (rs:=[.cell 4 75, .tmp 5]) rfl
 refine sk (sq [0,1,2,3,4] (fa tok ?_))
 refine ld tok ?_
 obtain ⟨v5,hv5,h0⟩:=bnd h0
 refine rS rfl (aM 6 (sP hv5) rfl rfl rfl) (fa tok ?_)
 refine bs1 tok (nx (sq [0,1,2] ?_))
 refine rL rfl (bA tok rfl rfl rfl rfl) (bst tok ?_)
 refine pa (nx (aA ?_))
 cases h0
 exact gU (rs:=[.cell 4 75, .tmp 5]) rfl
theorem aMz {p0:aD} {p1:iN} {r:uE × Int} (h0:vX p0 p1=some r):FnC Tryz.prog 116 [] [.agg [dI p0.Num,(dI p0.Den)], .ref (aC3 p1)] [] (.tup [.agg [dL cM r.1.Train,(dI r.1.Error.Num),(dI r.1.Error.Den)],(dI r.2)]):=by
 refine fi 25 tok Tryz.func116 ?_
 unfold vX at h0
 refine sq [0,1,2] (bxx 3 ?_)
 refine al 4 [zl,z0,z0] tok ?_
 refine pa (nx (sq [0,1,2,3] ?_))
 refine rL rfl (bA tok rfl rfl rfl rfl) (pmr ?_)
 obtain ⟨v1,hv1,h0⟩:=bnd h0
 refine rS rfl (aM 5 (aIg hv1) rfl rfl rfl) (pa (nx (sq [0,1,2,3,4,5,6,7,8] ?_)))
 refine pm ?_
 refine rL rfl (bA tok rfl rfl rfl rfl) ?_
 obtain ⟨v2,hv2,h0⟩:=bnd h0
 refine rS rfl (aM 5 (aMu hv2) rfl rfl rfl) (rP rfl (aL (r := .tup _) rfl) (rP rfl (aN rfl rfl) (rP rfl (aN rfl rfl) (al 5 [z0,z0] tok ?_))))
 refine bst tok ?_
 refine pa (nx (aB (sq [0,1] ?_)))
 refine pm ?_
 refine rP rfl (cQ rfl rfl) (nx ?_)
 refine bC h0 rfl (fun hc h0 => ?_) (fun hc h0 => ?_)
 refine sq [0,1,2,3] (rP rfl (pbl (C0:=[zl,z0,z0]) tok rfl rfl rfl) (pm ?_))
 refine bst tok ?_
 refine pa (nx ?_)
 refine wa 6 86 2 4 0 ?_
 refine cN (aFa (k:=6) (t':=aC (aC ((fun _ => .dead)) 4 (.ptr 4 0 1 0 0)) 5 (dI v2.2)) rfl (FzL.box (kb:=4) (ds:=[dL cM ([]:List bQ),z0,z0]) rfl rfl (by repeat (first | exact tW.nil | apply tW.cons | exact FzR.d _ | exact FzR.own rfl (by first | rfl | (simp;done) | (simp;omega)) | exact FzR.ptr rfl (by repeat (first | exact Drp.z _ | apply Drp.d)) | exact FzR.own' | exact FzR.ptr' | exact FzR.ref _ | apply FzR.agg | apply FzR.tup | apply FzR.fn | exact FzR.dead _)) (FzL.nil))) (aA (aI ?_))
 cases h0
 exact gU (rs:=[.cell 4 80, .tmp 5]) rfl
 refine sk (sq [0,1,2,3,4] (pm ?_))
 refine rL rfl (bA tok rfl rfl rfl rfl) (rP rfl (pbl (C0:=[zl,z0,z0]) tok rfl rfl rfl) (bst tok ?_))
 refine pa (nx (aA ?_))
 cases h0
 exact gU (rs:=[.cell 4 80, .tmp 5]) rfl
theorem aIe {p0:aD} {p1:iN} {r:uE × Int} (h0:oO p0 p1=some r):FnC Tryz.prog 59 [] [.agg [dI p0.Num,(dI p0.Den)], .agg [dI p1.LowDriver,(dI p1.HighDriver),(dI p1.LowDriven),(dI p1.HighDriven),(dI p1.Stages)]] [] (.tup [.agg [dL cM r.1.Train,(dI r.1.Error.Num),(dI r.1.Error.Den)],(dI r.2)]):=by
 refine fi 22 tok Tryz.func59 ?_
 unfold oO at h0
 refine sq [0,1,2,3] (bxx 3 ?_)
 refine bxx 4 ?_
 refine al 5 [zl,z0,z0] tok ?_
 refine pa (nx (aB ?_))
 obtain ⟨v3,h1,h0⟩:=bnd h0
 refine bI ⟨aC (aC (aC (aC ((fun _ => .dead)) 2 (.ptr 3 0 1 0 0)) 3 (.ptr 4 0 1 0 0)) 4 (.ptr 5 0 1 0 0)) 12 (dB v3),lks [.no, .no, .no, .live [⟨75,2, .av [[dI p0.Num,(dI p0.Den)]]⟩], .live [⟨84,5, .av [[dI p1.LowDriver,(dI p1.HighDriver),(dI p1.LowDriven),(dI p1.HighDriven),(dI p1.Stages)]]⟩], .live [⟨80,3, .av [[zl,z0,z0]]⟩]]⟩ ?_ ?_
 refine sr [0,1,2,3,4,5,6] (rL rfl (bA tok rfl rfl rfl rfl) ?_)
 obtain ⟨v1,hv1,h1⟩:=bnd h1
 refine rS rfl (aM 6 (aKj hv1) rfl rfl rfl) (rP rfl (bW rfl) (pm ?_))
 refine dU (u:=9) h1 rfl (fun hc h1 => ?_) (fun hc h1 => ?_)
 refine k1 ?_
 refine k1 ?_
 refine pkt (nx ?_)
 cases h1
 exact wk [0,1,2,3,4,5]
 obtain ⟨v2,hv2,h1⟩:=bnd h1
 refine rs rfl (w1 rfl rfl rfl) rfl (eW 6 (aR3 hv2) rfl rfl) (rp rfl (w1 rfl rfl rfl) rfl (bW rfl) (pkf (nx ?_)))
 cases h1
 exact wk [0,1,2,3,4,5]
 refine bM h0 rfl (fun hc h0 => ?_) (fun hc h0 => ?_)
 refine sq [0,1,2] (rP rfl (pbl (C0:=[zl,z0,z0]) tok rfl rfl rfl) (bst tok ?_))
 refine pa (nx ?_)
 refine wa 6 86 2 5 0 ?_
 refine cN (aFa (k:=6) (t':=aC (aC ((fun _ => .dead)) 4 (.ptr 5 0 1 0 0)) 5 (dI 1)) rfl (FzL.box (kb:=5) (ds:=[dL cM ([]:List bQ),z0,z0]) rfl rfl (by repeat (first | exact tW.nil | apply tW.cons | exact FzR.d _ | exact FzR.own rfl (by first | rfl | (simp;done) | (simp;omega)) | exact FzR.ptr rfl (by repeat (first | exact Drp.z _ | apply Drp.d)) | exact FzR.own' | exact FzR.ptr' | exact FzR.ref _ | apply FzR.agg | apply FzR.tup | apply FzR.fn | exact FzR.dead _)) (FzL.nil))) (aA (aI ?_))
 cases h0
 exact gU (rs:=[.cell 4 80, .tmp 5]) rfl
 refine sk (aB (sq [0,1,2] (rL rfl (bA tok rfl rfl rfl rfl) ?_)))
 obtain ⟨v4,hv4,h0⟩:=bnd h0
 refine rS rfl (aM 6 (aPl hv4) rfl rfl rfl) (rP rfl (bW rfl) (nx ?_))
 refine bM h0 rfl (fun hc h0 => ?_) (fun hc h0 => ?_)
 refine sq [0,1,2] (rP rfl (pbl (C0:=[zl,z0,z0]) tok rfl rfl rfl) (bst tok ?_))
 refine pa (nx ?_)
 refine wa 6 86 2 5 0 ?_
 refine cN (aFa (k:=6) (t':=aC (aC ((fun _ => .dead)) 4 (.ptr 5 0 1 0 0)) 5 (dI 2)) rfl (FzL.box (kb:=5) (ds:=[dL cM ([]:List bQ),z0,z0]) rfl rfl (by repeat (first | exact tW.nil | apply tW.cons | exact FzR.d _ | exact FzR.own rfl (by first | rfl | (simp;done) | (simp;omega)) | exact FzR.ptr rfl (by repeat (first | exact Drp.z _ | apply Drp.d)) | exact FzR.own' | exact FzR.ptr' | exact FzR.ref _ | apply FzR.agg | apply FzR.tup | apply FzR.fn | exact FzR.dead _)) (FzL.nil))) (aA (aI ?_))
 cases h0
 exact gU (rs:=[.cell 4 80, .tmp 5]) rfl
 refine sk (sq [0,1,2,3,4,5] (rL rfl (bA tok rfl rfl rfl rfl) ?_))
 obtain ⟨v5,hv5,h0⟩:=bnd h0
 refine oK (aZ1 (k:=4) (t':=aC (aC (aC ((fun _ => .dead)) 3 (.ref (aC3 p1))) 4 (.ptr 5 0 1 0 0)) 18 (.agg [dI p0.Num,(dI p0.Den)])) rfl (FzL.nil)) (rS rfl (aM 6 (aMz hv5) rfl rfl rfl) (rP rfl (aN rfl rfl) (rP rfl (aN rfl rfl) (bst tok ?_))))
 refine pa (nx (aA ?_))
 cases h0
 exact gU (rs:=[.cell 4 80, .tmp 5]) rfl
theorem aK0 {p0:List bQ} {r:bG} (h0:tT p0=some r):FnC Tryz.prog 61 [] [dL cM p0] [.live [⟨88,2, .data (List.map aS r.Arbors)⟩], .live [⟨90,4, .data (List.map bV r.Meshes)⟩]] (.agg [.own 0 0 r.Arbors.length, .own 1 0 r.Meshes.length]):=by
 refine fi 36 tok Tryz.func61 ?_
 unfold tT at h0
 refine sq [0] (al 3 [zl,zl] tok (nx (aB ?_)))
 refine aH (is:=[0,1,2,3,6,7,8,9,10,11,12,13,16,17,18,19,27,28,29,30,4,5,14,15,20,21,22,23,24,25,26,31,32,33]) [0,1,3,7,15,31,0,64,192,448,0,1024,3072,7168,16320,32704,0,65536,196608,458752,983040,2031616,0,4194304,0,16777216,67108863,0,0,0,0,2013265920,4294967295,8589934591] follows (by kernel_rfl) (tpm ?_)
 obtain ⟨v1,hv1,h0⟩:=bnd h0
 refine tP rfl (cE tok hv1 rfl rfl rfl rfl rfl rfl) (tfr tok ?_)
 refine tlr tok ?_
 refine tpm ?_
 obtain ⟨v2,hv2,h0⟩:=bnd h0
 refine tP rfl (cE tok hv2 rfl rfl rfl rfl rfl rfl) (tfr tok ?_)
 refine tlr tok ?_
 refine tpm ?_
 obtain ⟨v3,hv3,h0⟩:=bnd h0
 refine tP rfl (cE tok hv3 rfl rfl rfl rfl rfl rfl) (tfr tok ?_)
 refine tlr tok ?_
 refine tpm ?_
 obtain ⟨v4,hv4,h0⟩:=bnd h0
 refine tP rfl (cE tok hv4 rfl rfl rfl rfl rfl rfl) (tfr tok ?_)
 refine tlr tok ?_
 iterate 4 refine tP rfl (pbl (C0:=[z0,z0,z0,z0]) tok rfl rfl rfl) ?_
 refine aEt rfl w0 rfl rfl (fun hx hk=>zX 4 tok cI [v1.Driver,12] rfl rfl rfl (by repeat (first | exact Els.nil _ | apply Els.cons (cs:=[.d _]) rfl rfl rfl | apply Els.cons (cs:=_ :: _) rfl rfl rfl)) rfl rfl rfl (by repeat (first | exact cR.nil | (apply cR.cons; (repeat (first | exact eZ.nil | apply eZ.cons))))) rfl hk) (tP rfl (pbl (C0:=[ze,zl]) tok rfl rfl rfl) (aEt rfl w0 rfl rfl (fun hx hk=>zX 5 tok cI [v2.Driven,v3.Driver] rfl rfl rfl (by repeat (first | exact Els.nil _ | apply Els.cons (cs:=[.d _]) rfl rfl rfl | apply Els.cons (cs:=_ :: _) rfl rfl rfl)) rfl rfl rfl (by repeat (first | exact cR.nil | (apply cR.cons; (repeat (first | exact eZ.nil | apply eZ.cons))))) rfl hk) (tP rfl (pbl (C0:=[ze,zl]) tok rfl rfl rfl) (aEt rfl w0 rfl rfl (fun hx hk=>zX 6 tok cI [v4.Driven] rfl rfl rfl (by repeat (first | exact Els.nil _ | apply Els.cons (cs:=[.d _]) rfl rfl rfl | apply Els.cons (cs:=_ :: _) rfl rfl rfl)) rfl rfl rfl (by repeat (first | exact cR.nil | (apply cR.cons; (repeat (first | exact eZ.nil | apply eZ.cons))))) rfl hk) (tP rfl (pbl (C0:=[ze,zl]) tok rfl rfl rfl) (aEt rfl w0 rfl rfl (fun hx hk=>zX 7 tok cI [36,10] rfl rfl rfl (by repeat (first | exact Els.nil _ | apply Els.cons (cs:=[.d _]) rfl rfl rfl | apply Els.cons (cs:=_ :: _) rfl rfl rfl)) rfl rfl rfl (by repeat (first | exact cR.nil | (apply cR.cons; (repeat (first | exact eZ.nil | apply eZ.cons))))) rfl hk) (tP rfl (pbl (C0:=[ze,zl]) tok rfl rfl rfl) (aEt rfl w0 rfl rfl (fun hx hk=>zX 8 tok cI [40] rfl rfl rfl (by repeat (first | exact Els.nil _ | apply Els.cons (cs:=[.d _]) rfl rfl rfl | apply Els.cons (cs:=_ :: _) rfl rfl rfl)) rfl rfl rfl (by repeat (first | exact cR.nil | (apply cR.cons; (repeat (first | exact eZ.nil | apply eZ.cons))))) rfl hk) (tP rfl (pbl (C0:=[ze,zl]) tok rfl rfl rfl) (aEt rfl w0 rfl rfl (fun hx hk=>mE 9 tok aS [(⟨(⟨#[99,101,110,116,101,114]⟩:ByteArray),[v1.Driver,12]⟩:bO),(⟨(⟨#[116,104,105,114,100]⟩:ByteArray),[v2.Driven,v3.Driver]⟩:bO),(⟨(⟨#[101,115,99,97,112,101]⟩:ByteArray),[v4.Driven]⟩:bO),(⟨(⟨#[109,105,110,117,116,101]⟩:ByteArray),[36,10]⟩:bO),(⟨(⟨#[104,111,117,114]⟩:ByteArray),[40]⟩:bO)] rfl rfl rfl (by repeat (first | exact Els.nil _ | apply Els.cons (cs:=[.d _]) rfl rfl rfl | apply Els.cons (cs:=_ :: _) rfl rfl rfl)) rfl rfl rfl (by repeat (first | exact cR.nil | (apply cR.cons; (repeat (first | exact eZ.nil | apply eZ.cons))))) rfl hk) (aEt rfl w0 rfl rfl (fun hx hk=>mE 10 tok bV [(⟨0,0,1,0⟩:bR),(⟨1,1,2,0⟩:bR),(⟨0,1,3,0⟩:bR),(⟨3,1,4,0⟩:bR)] rfl rfl rfl (by repeat (first | exact Els.nil _ | apply Els.cons (cs:=[.d _]) rfl rfl rfl | apply Els.cons (cs:=_ :: _) rfl rfl rfl)) rfl rfl rfl (by repeat (first | exact cR.nil | (apply cR.cons; (repeat (first | exact eZ.nil | apply eZ.cons))))) rfl hk) (tP rfl (pbl (C0:=[zl,zl]) tok rfl rfl rfl) (oN rfl w0 (jA (cs:=_ :: _) tok rfl rfl rfl rfl rfl rfl rfl) (bN ?_))))))))))))))
 refine ⟨by kernel_rfl,?_⟩
 refine aG (aA ?_)
 cases h0
 exact dG (rs:=[.cell 2 25]) [9,10] rfl
theorem aGo {p0:aF} {r:aF} (h0:pS p0=some r):FnC Tryz.prog 62 [] [.ref (dW p0)] [.live [⟨62,3, .data (List.map aT r.Months)⟩], .live [⟨66,3, .data (List.map aK r.Rules)⟩]] (.agg [dS r.Name, .own 0 0 r.Months.length, .own 1 0 r.Rules.length,(dI r.Week)]):=by
 refine fi 22 tok Tryz.func62 ?_
 unfold pS at h0
 refine sq [0] (al 3 [ze,zl,zl,z0] tok (nx (sq [0,1,2,3,4] ?_)))
 refine pmr ?_
 refine nr ?_
 refine rP rfl (bJ tok rfl rfl rfl (by repeat (first | exact gV.z _ | apply gV.t))) (al 4 [ze,zl,zl,z0] tok ?_)
 refine bst tok (nx (sq [0,1,2,3,4,5,6,7] ?_))
 refine rS rfl (eQ 5 tok rfl rfl rfl rfl) (pmr ?_)
 refine nr ?_
 refine fr tok ?_
 refine lr tok ?_
 obtain ⟨hq1,h0⟩:=cO h0
 refine rw1 rfl w0 rfl (eU tok hq1 rfl rfl rfl rfl rfl rfl rfl rfl rfl rfl rfl rfl (fun _=>rfl)) (fa tok ?_)
 refine rw0 rfl w0 (jA (cs:=[.own _ _ _]) tok rfl rfl rfl rfl rfl rfl rfl) (nx (sq [0,1,2,3,4,5,6,7] (rS rfl (eQ 6 tok rfl rfl rfl rfl) (pmr ?_))))
 refine nr ?_
 refine fr tok ?_
 refine lr tok ?_
 obtain ⟨hq2,h0⟩:=cO h0
 refine rw1 rfl w0 rfl (eU tok hq2 rfl rfl rfl rfl rfl rfl rfl rfl rfl rfl rfl rfl (fun _=>rfl)) (fa tok ?_)
 refine rw0 rfl w0 (jA (cs:=[.own _ _ _]) tok rfl rfl rfl rfl rfl rfl rfl) (nx (sq [0,1] (rL rfl (bA tok rfl rfl rfl rfl) (bst tok (nx (aA ?_))))))
 cases h0
 exact dG (rs:=[.cell 2 29]) [5,6] rfl
theorem aAv {p0:ByteArray} {p1:Int} {p2:Int} {p3:aF} {p4:Int} {r:aW × Int} (h0:iK p0 p1 p2 p3 p4=some r):FnC Tryz.prog 29 [] [dS p0,(dI p1),(dI p2), .agg [dS p3.Name,(dL aT p3.Months),(dL aK p3.Rules),(dI p3.Week)],(dI p4)] [.live [⟨90,4, .data (List.map bV r.1.Works.Meshes)⟩], .live [⟨62,3, .data (List.map aT r.1.Calendar.Months)⟩], .live [⟨66,3, .data (List.map aK r.1.Calendar.Rules)⟩], .live [⟨2,1, .data (List.map cI r.1.Cam)⟩]] (.tup [.agg [dS r.1.Name,(dL aS r.1.Works.Arbors), .own 0 0 r.1.Works.Meshes.length,(dI r.1.Minute),(dI r.1.Hour),(dI r.1.Escape),(dI r.1.Teeth),(dI r.1.Beats),(dS r.1.Calendar.Name), .own 1 0 r.1.Calendar.Months.length, .own 2 0 r.1.Calendar.Rules.length,(dI r.1.Calendar.Week), .own 3 0 r.1.Cam.length,(dI r.1.Strike)],(dI r.2)]):=by
 refine fi 76 tok Tryz.func29 ?_
 unfold iK at h0
 refine sq [0,1,2] (bxx 3 ?_)
 refine al 4 [ze,zl,zl,z0,z0,z0,z0,z0,ze,zl,zl,z0,zl,z0] tok ?_
 refine pa (nx (aB (sq [0,1] ?_)))
 obtain ⟨v1,hv1,h0⟩:=bnd h0
 refine rS rfl (eW 5 (aAy hv1) rfl rfl) (rP rfl (bW rfl) (nx ?_))
 refine bM h0 rfl (fun hc h0 => ?_) (fun hc h0 => ?_)
 refine sq [0,1,2] (rP rfl (pbl (C0:=[ze,zl,zl,z0,z0,z0,z0,z0,ze,zl,zl,z0,zl,z0]) tok rfl rfl rfl) (bst tok ?_))
 refine pa (nx ?_)
 refine wa 5 88 2 4 1 ?_
 refine cN (dR 6 (k:=5) 2 1 aS rfl rfl) (cN (vB (k:=5) (kf:=6) rfl rfl (fun _=>rfl) rfl) (cN (aFa (k:=5) (t':=aC (aC ((fun _ => .dead)) 10 (.ptr 4 0 1 0 0)) 11 (dI 1)) rfl (FzL.box (kb:=4) (ds:=[ze,(dL aS ([]:List bO)),zl,z0,z0,z0,z0,z0,ze,zl,zl,z0,zl,z0]) rfl rfl (by repeat (first | exact tW.nil | apply tW.cons | exact FzR.d _ | exact FzR.own rfl (by first | rfl | (simp;done) | (simp;omega)) | exact FzR.ptr rfl (by repeat (first | exact Drp.z _ | apply Drp.d)) | exact FzR.own' | exact FzR.ptr' | exact FzR.ref _ | apply FzR.agg | apply FzR.tup | apply FzR.fn | exact FzR.dead _)) (FzL.nil))) (wa 7 90 4 4 2 ?_)))
 refine wa 8 62 3 4 9 ?_
 refine wa 9 66 3 4 10 ?_
 refine wa 10 2 1 4 12 (aA (aI ?_))
 cases h0
 exact dG (rs:=[.cell 10 32, .tmp 11]) [7,8,9,10] rfl
 refine sk (aB (sq [0,1,2] (pm ?_)))
 obtain ⟨v2,hv2,h0⟩:=bnd h0
 refine rS rfl (aM 5 (uQ hv2) rfl rfl rfl) (rP rfl (bW rfl) (nx ?_))
 refine bM h0 rfl (fun hc h0 => ?_) (fun hc h0 => ?_)
 refine sq [0,1,2] (rP rfl (pbl (C0:=[ze,zl,zl,z0,z0,z0,z0,z0,ze,zl,zl,z0,zl,z0]) tok rfl rfl rfl) (bst tok ?_))
 refine pa (nx ?_)
 refine wa 5 88 2 4 1 ?_
 refine cN (dR 6 (k:=5) 2 1 aS rfl rfl) (cN (vB (k:=5) (kf:=6) rfl rfl (fun _=>rfl) rfl) (cN (aFa (k:=5) (t':=aC (aC ((fun _ => .dead)) 10 (.ptr 4 0 1 0 0)) 11 (dI 7)) rfl (FzL.box (kb:=4) (ds:=[ze,(dL aS ([]:List bO)),zl,z0,z0,z0,z0,z0,ze,zl,zl,z0,zl,z0]) rfl rfl (by repeat (first | exact tW.nil | apply tW.cons | exact FzR.d _ | exact FzR.own rfl (by first | rfl | (simp;done) | (simp;omega)) | exact FzR.ptr rfl (by repeat (first | exact Drp.z _ | apply Drp.d)) | exact FzR.own' | exact FzR.ptr' | exact FzR.ref _ | apply FzR.agg | apply FzR.tup | apply FzR.fn | exact FzR.dead _)) (FzL.nil))) (wa 7 90 4 4 2 ?_)))
 refine wa 8 62 3 4 9 ?_
 refine wa 9 66 3 4 10 ?_
 refine wa 10 2 1 4 12 (aA (aI ?_))
 cases h0
 exact dG (rs:=[.cell 10 32, .tmp 11]) [7,8,9,10] rfl
 refine sk (aB ?_)
 obtain ⟨v5,h1,h0⟩:=bnd h0
 refine bI ⟨aC (aC (aC (aC (aC (aC (aC ((fun _ => .dead)) 0 (dS p0)) 1 (dI p1)) 2 (dI p2)) 4 (dI p4)) 8 (.ptr 3 0 1 0 0)) 10 (.ptr 4 0 1 0 0)) 32 (dB v5),lks [.no, .no, .no, .live [⟨29,4, .av [[dS p3.Name,(dL aT p3.Months),(dL aK p3.Rules),(dI p3.Week)]]⟩], .live [⟨32,14, .av [[ze,zl,zl,z0,z0,z0,z0,z0,ze,zl,zl,z0,zl,z0]]⟩]]⟩ ?_ ?_
 refine sr [0,1,2,3,4,5,6,7] (pm ?_)
 obtain ⟨v3,hv3,h1⟩:=bnd h1
 refine rS rfl (aM 5 (eA hv3) rfl rfl rfl) (rP rfl (bW rfl) (pm ?_))
 refine dU (u:=28) h1 rfl (fun hc h1 => ?_) (fun hc h1 => ?_)
 iterate 3 refine k1 ?_
 refine pkt (nx ?_)
 cases h1
 exact wk [0,1,2,3,4]
 refine pm1 ?_
 obtain ⟨v4,hv4,h1⟩:=bnd h1
 refine rs rfl (w1 rfl rfl rfl) rfl (aM 5 (qQ hv4) rfl rfl rfl) (rp rfl (w1 rfl rfl rfl) rfl (bW rfl) (pkf (nx ?_)))
 cases h1
 exact wk [0,1,2,3,4]
 refine bM h0 rfl (fun hc h0 => ?_) (fun hc h0 => ?_)
 refine sq [0,1,2] (rP rfl (pbl (C0:=[ze,zl,zl,z0,z0,z0,z0,z0,ze,zl,zl,z0,zl,z0]) tok rfl rfl rfl) (bst tok ?_))
 refine pa (nx ?_)
 refine wa 5 88 2 4 1 ?_
 refine cN (dR 6 (k:=5) 2 1 aS rfl rfl) (cN (vB (k:=5) (kf:=6) rfl rfl (fun _=>rfl) rfl) (cN (aFa (k:=5) (t':=aC (aC ((fun _ => .dead)) 10 (.ptr 4 0 1 0 0)) 11 (dI 2)) rfl (FzL.box (kb:=4) (ds:=[ze,(dL aS ([]:List bO)),zl,z0,z0,z0,z0,z0,ze,zl,zl,z0,zl,z0]) rfl rfl (by repeat (first | exact tW.nil | apply tW.cons | exact FzR.d _ | exact FzR.own rfl (by first | rfl | (simp;done) | (simp;omega)) | exact FzR.ptr rfl (by repeat (first | exact Drp.z _ | apply Drp.d)) | exact FzR.own' | exact FzR.ptr' | exact FzR.ref _ | apply FzR.agg | apply FzR.tup | apply FzR.fn | exact FzR.dead _)) (FzL.nil))) (wa 7 90 4 4 2 ?_)))
 refine wa 8 62 3 4 9 ?_
 refine wa 9 66 3 4 10 ?_
 refine wa 10 2 1 4 12 (aA (aI ?_))
 cases h0
 exact dG (rs:=[.cell 10 32, .tmp 11]) [7,8,9,10] rfl
 refine sk (sq [0,1,2,3,4,5,6,7,8,9] (rL rfl (bA tok rfl rfl rfl rfl) (pm ?_)))
 obtain ⟨v6,hv6,h0⟩:=bnd h0
 refine rS rfl (aM 5 (aMt hv6) rfl rfl rfl) (rP rfl (aL (r := .tup _) rfl) ?_)
 iterate 3 refine rP rfl (aN rfl rfl) ?_
 refine rP rfl (aR (r := .own _ _ _) rfl) (pa ?_)
 refine pa (nx (aB (sq [0,1] ?_)))
 refine pm ?_
 refine rP rfl (cQ rfl rfl) (nx ?_)
 refine bC h0 rfl (fun hc h0 => ?_) (fun hc h0 => ?_)
 refine sq [0,1,2,3] (rP rfl (pbl (C0:=[ze,zl,zl,z0,z0,z0,z0,z0,ze,zl,zl,z0,zl,z0]) tok rfl rfl rfl) (pm ?_))
 refine bst tok ?_
 refine pa (nx ?_)
 refine wa 6 88 2 4 1 ?_
 refine cN (dR 7 (k:=6) 2 1 aS rfl rfl) (cN (vB (k:=6) (kf:=7) rfl rfl (fun _=>rfl) rfl) (cN (aFa (k:=6) (t':=aC (aC ((fun _ => .dead)) 10 (.ptr 4 0 1 0 0)) 11 (dI v6.2.2)) rfl (FzL.box (kb:=4) (ds:=[ze,(dL aS ([]:List bO)),zl,z0,z0,z0,z0,z0,ze,zl,zl,z0,zl,z0]) rfl rfl (by repeat (first | exact tW.nil | apply tW.cons | exact FzR.d _ | exact FzR.own rfl (by first | rfl | (simp;done) | (simp;omega)) | exact FzR.ptr rfl (by repeat (first | exact Drp.z _ | apply Drp.d)) | exact FzR.own' | exact FzR.ptr' | exact FzR.ref _ | apply FzR.agg | apply FzR.tup | apply FzR.fn | exact FzR.dead _)) (FzL.nil))) (wa 8 90 4 4 2 ?_)))
 refine wa 9 62 3 4 9 ?_
 refine wa 10 66 3 4 10 ?_
 refine wa 11 2 1 4 12 (aA (aI ?_))
 cases h0
 exact dG (rs:=[.cell 10 32, .tmp 11]) [8,9,10,11] rfl
 refine sk (sq [0,1,2,3,4,5,6,7,8,9] (pm ?_))
 refine pm ?_
 refine rP rfl (eL rfl rfl) ?_
 obtain ⟨v7,hv7,h0⟩:=bnd h0
 refine rS rfl (aM 6 (pJ hv7) rfl rfl rfl) (rP rfl (aL (r := .tup _) rfl) (rP rfl (aN rfl rfl) (rP rfl (aN rfl rfl) (al 6 [z0,z0] tok ?_))))
 refine bst tok ?_
 refine pa (nx (aB ?_))
 refine aH (is:=[0,1,2,3,4,5,6,7,8]) [0,0,3,7,15,15,0,95,255] follows (by kernel_rfl) (cZ rfl w0 rfl (bA tok rfl rfl rfl rfl) rfl rfl rfl ?_)
 obtain ⟨v8,hv8,h0⟩:=bnd h0
 refine jW rfl w0 rfl (cV 8 (aIp hv8) rfl rfl rfl) ?_
 obtain ⟨v9,hv9,h0⟩:=bnd h0
 refine jW rfl w0 rfl (cV 8 (aIe hv9) rfl rfl rfl) (tP rfl (aL (r := .tup _) rfl) (tP rfl (aN rfl rfl) (tP rfl (aN rfl rfl) (aEt rfl w0 rfl rfl (fun hx hk=>oU 7 (cs:=[zl,z0,z0]) tok rfl rfl hk) (oN rfl w0 (jA (cs:=_ :: _) tok rfl rfl rfl rfl rfl rfl rfl) (tpa ?_))))))
 refine bN ?_
 refine ⟨by kernel_rfl,?_⟩
 refine aG (aB ?_)
 obtain ⟨v10,h1,h0⟩:=bnd h0
 refine bI ⟨aC (aC (aC (aC (aC (aC (aC (aC ((fun _ => .dead)) 0 (dS p0)) 1 (dI p1)) 2 (dI p2)) 8 (.ptr 3 0 1 0 0)) 10 (.ptr 4 0 1 0 0)) 12 (.own 5 0 (v6.1).length)) 17 (.ptr 6 0 1 0 0)) 65 (dB v10),lks [.no, .no, .no, .live [⟨29,4, .av [[dS p3.Name,(dL aT p3.Months),(dL aK p3.Rules),(dI p3.Week)]]⟩], .live [⟨32,14, .av [[ze,zl,zl,z0,z0,z0,z0,z0,ze,zl,zl,z0,zl,z0]]⟩], .live [⟨2,1, .data (List.map cI v6.1)⟩], .live [⟨80,3, .av [[dL cM v9.1.Train,(dI v9.1.Error.Num),(dI v9.1.Error.Den)]]⟩]]⟩ ?_ ?_
 refine sr [0,1,2,3,4,5,6,7] (pm ?_)
 refine rP rfl (cQ rfl rfl) (pm ?_)
 refine iT (u:=60) h1 rfl (fun hc h1 => ?_) (fun hc h1 => ?_)
 iterate 4 refine k1 ?_
 refine pkt (nx ?_)
 cases h1
 exact wk [0,1,2,3,4,5,7]
 refine fa1 tok ?_
 refine fa1 tok ?_
 refine ld1 tok ?_
 refine rp rfl (w1 rfl rfl rfl) rfl (cQ rfl rfl) (pkf (nx ?_))
 cases h1
 exact wk [0,1,2,3,4,5,7]
 refine bM h0 rfl (fun hc h0 => ?_) (fun hc h0 => ?_)
 refine sq [0,1,2] (rP rfl (pbl (C0:=[ze,zl,zl,z0,z0,z0,z0,z0,ze,zl,zl,z0,zl,z0]) tok rfl rfl rfl) (bst tok ?_))
 refine pa (nx ?_)
 refine wa 7 88 2 4 1 ?_
 refine cN (dR 8 (k:=7) 2 1 aS rfl rfl) (cN (vB (k:=7) (kf:=8) rfl rfl (fun _=>rfl) rfl) (cN (aFa (k:=7) (t':=aC (aC ((fun _ => .dead)) 10 (.ptr 4 0 1 0 0)) 11 (dI 3)) rfl (FzL.box (kb:=4) (ds:=[ze,(dL aS ([]:List bO)),zl,z0,z0,z0,z0,z0,ze,zl,zl,z0,zl,z0]) rfl rfl (by repeat (first | exact tW.nil | apply tW.cons | exact FzR.d _ | exact FzR.own rfl (by first | rfl | (simp;done) | (simp;omega)) | exact FzR.ptr rfl (by repeat (first | exact Drp.z _ | apply Drp.d)) | exact FzR.own' | exact FzR.ptr' | exact FzR.ref _ | apply FzR.agg | apply FzR.tup | apply FzR.fn | exact FzR.dead _)) (FzL.nil))) (wa 9 90 4 4 2 ?_)))
 refine wa 10 62 3 4 9 ?_
 refine wa 11 66 3 4 10 ?_
 refine wa 12 2 1 4 12 (aA (aI ?_))
 cases h0
 exact dG (rs:=[.cell 10 32, .tmp 11]) [9,10,11,12] rfl
 refine sk (sq [0,1,2,3,4,5,6,7,8,9,10] (pm ?_))
 refine fa tok ?_
 refine ld tok ?_
 obtain ⟨v11,hv11,h0⟩:=bnd h0
 refine rS rfl (aM 7 (aK0 hv11) rfl rfl rfl) (pm ?_)
 refine pm ?_
 obtain ⟨v12,hv12,h0⟩:=bnd h0
 refine rS rfl (eW 9 (aGo hv12) rfl rfl) (rP rfl (aL (r := .own _ _ _) rfl) (rP rfl (pbl (C0:=[ze,zl,zl,z0,z0,z0,z0,z0,ze,zl,zl,z0,zl,z0]) tok rfl rfl rfl) (bst tok ?_)))
 refine pa (nx ?_)
 refine cN (aFa (k:=7) (t':=aC (aC ((fun _ => .dead)) 10 (.ptr 4 0 1 0 0)) 11 (z0)) rfl (FzL.box (kb:=4) (ds:=[dS p0,(dL aS v11.Arbors), .own 8 0 (v11.Meshes).length,z0,(dI 4),(dI 2),(dI p2),(dI p1),(dS v12.Name), .own 9 0 (v12.Months).length, .own 10 0 (v12.Rules).length,(dI v12.Week), .own 5 0 (v6.1).length,(dI 2)]) rfl rfl (by repeat (first | exact tW.nil | apply tW.cons | exact FzR.d _ | exact FzR.own rfl (by first | rfl | (simp;done) | (simp;omega)) | exact FzR.ptr rfl (by repeat (first | exact Drp.z _ | apply Drp.d)) | exact FzR.own' | exact FzR.ptr' | exact FzR.ref _ | apply FzR.agg | apply FzR.tup | apply FzR.fn | exact FzR.dead _)) (FzL.nil))) (aA ?_)
 cases h0
 exact dG (rs:=[.cell 10 32, .tmp 11]) [8,9,10,5] rfl
theorem aKo {p0:bO} {r:Bool} (h0:qU p0=some r):FnC Tryz.prog 169 [] [.ref (aS p0)] [] (dB r):=by
 refine fi 35 tok Tryz.func169 ?_
 unfold qU at h0
 refine sq [0] (pa (nx ?_))
 obtain ⟨v7x,h1,h0⟩:=bnd h0
 refine dH v7x (fun v7=>⟨aC ((fun _ => .dead)) 0 (.ref (aS p0)),lks [.no, .no, .no]⟩) ?_ ?_
 refine sq [0] (pa (nx (aE ?_)))
 refine aZ (fun s4=>⟨aC (aC ((fun _ => .dead)) 0 (.ref (aS p0))) 3 (dI s4),lks [.no, .no, .no]⟩) h1 ?_ (fun s4 y h2 => ?_)
 exact wk [0,1,2]
 refine aB (sq [0,1,2,3,4,5,6] (pm ?_))
 refine pmr ?_
 refine nr ?_
 refine fr tok ?_
 refine lr tok ?_
 refine rP rfl (aJ tok rfl rfl rfl) (rP rfl (bK rfl rfl) (nx ?_))
 refine bC h2 rfl (fun hc h2 => ?_) (fun hc h2 => ?_)
 refine sk (aB (aE (sq [0,1,2,3,4,5,6,7,8] (pmr ?_))))
 refine nr ?_
 refine fr tok ?_
 refine lr tok ?_
 refine pm ?_
 obtain ⟨v5,hv5,h2⟩:=bnd h2
 refine rP rfl (cE tok hv5 rfl rfl rfl rfl rfl rfl) (lr tok ?_)
 obtain ⟨v6,hv6,h2⟩:=bnd h2
 refine rS rfl (aM 3 (qQ hv6) rfl rfl rfl) (rP rfl (bW rfl) (nx ?_))
 refine bM h2 rfl (fun hc h2 => ?_) (fun hc h2 => ?_)
 refine sq [0] (pa (nx (aA ?_)))
 refine aX (aI ?_)
 cases h2
 refine dM ⟨_,rfl,fun e => ?_⟩
 subst e
 refine aX ?_
 replace h0:=eT h0
 refine aI ?_
 cases h0
 exact r0t 2 rfl
 refine cX (bB (aG (sr [0,1,2] (pm ?_))))
 refine rP rfl (bH rfl rfl) (pa (aY ?_))
 refine bS ?_
 cases h2
 refine ⟨_,rfl,?_⟩
 exact wk [0,1,2]
 refine bF (bT ?_)
 cases h2
 refine bU ⟨_,rfl,fun e => ?_⟩
 subst e
 refine aQ (aG ?_)
 refine ⟨_,rfl,?_⟩
 exact wk [0,1,2]
 rintro v7 rfl
 replace h0:=gS h0
 refine sq [0,1,2,3,4,5,6,7,8,9,10,11,12,13] (pmr ?_)
 refine nr ?_
 refine fr tok ?_
 refine lr tok ?_
 obtain ⟨v8,hv8,h0⟩:=bnd h0
 refine rS rfl (aM 3 (uQ hv8) rfl rfl rfl) (pm ?_)
 refine dU (u:=27) h0 rfl (fun hc h0 => ?_) (fun hc h0 => ?_)
 refine aKc ?_
 refine nr1 ?_
 refine fr1 tok ?_
 refine lr1 tok ?_
 refine rp rfl (w1 rfl rfl rfl) rfl (aJ tok rfl rfl rfl) (rp rfl (w1 rfl rfl rfl) rfl (gW rfl rfl) (pkt ?_))
 refine pa (nx (aA ?_))
 cases h0
 exact r0t 2 rfl
 iterate 6 refine k1 ?_
 refine pkf ?_
 refine pa (nx (aA ?_))
 cases h0
 exact r0t 2 rfl
theorem aM1 {p0:bG} {p1:ByteArray} {r:Int} (h0:sR p0 p1=some r):FnC Tryz.prog 170 [] [.ref (fJ p0),(dS p1)] [] (dI r):=by
 refine fi 26 tok Tryz.func170 ?_
 unfold sR at h0
 refine sq [0] (pa (nx ?_))
 obtain ⟨v5x,h1,h0⟩:=bnd h0
 refine dH v5x (fun v5=>⟨(fun _ => .dead),lks [.no, .no, .no]⟩) ?_ ?_
 refine sq [0] (pa (nx (aE ?_)))
 refine aZ (fun s3=>⟨aC (aC (aC ((fun _ => .dead)) 0 (.ref (fJ p0))) 1 (dS p1)) 5 (dI s3),lks [.no, .no, .no]⟩) h1 ?_ (fun s3 y h2 => ?_)
 exact wk [0,1,2]
 refine aB (sq [0,1,2,3,4,5,6] (pm ?_))
 refine pmr ?_
 refine nr ?_
 refine fr tok ?_
 refine lr tok ?_
 refine rP rfl (aJ tok rfl rfl rfl) (rP rfl (bK rfl rfl) (nx ?_))
 refine bC h2 rfl (fun hc h2 => ?_) (fun hc h2 => ?_)
 refine sk (aB (aE (sq [0,1,2,3,4,5,6,7,8,9] (pmr ?_))))
 refine nr ?_
 refine fr tok ?_
 refine lr tok ?_
 refine pm ?_
 obtain ⟨v4,hv4,h2⟩:=bnd h2
 refine rP rfl (cE tok hv4 rfl rfl rfl rfl rfl rfl) (fr tok ?_)
 refine lr tok ?_
 refine pm ?_
 refine rP rfl (pH rfl rfl) (nx ?_)
 refine bC h2 rfl (fun hc h2 => ?_) (fun hc h2 => ?_)
 refine sq [0,1] (pm ?_)
 refine pa (nx (aA ?_))
 refine aX (aI ?_)
 cases h2
 refine dM ⟨_,rfl,fun e => ?_⟩
 subst e
 refine aX ?_
 replace h0:=eT h0
 refine aI ?_
 cases h0
 exact r0t 4 rfl
 refine cX (bB (aG (sr [0,1,2] (pm ?_))))
 refine rP rfl (bH rfl rfl) (pa (aY ?_))
 refine bS ?_
 cases h2
 refine ⟨_,rfl,?_⟩
 exact wk [0,1,2]
 refine bF (bT ?_)
 cases h2
 refine bU ⟨_,rfl,fun e => ?_⟩
 subst e
 refine aQ (aG ?_)
 refine ⟨_,rfl,?_⟩
 exact wk [0,1,2]
 rintro v5 rfl
 replace h0:=gS h0
 refine sq [0] (pa (nx (aA ?_)))
 cases h0
 exact r0t 4 rfl
theorem aCc {p0:bG} {p1:Int} {p2:Int} {r:Bool} (h0:nT p0 p1 p2=some r):FnC Tryz.prog 202 [] [.ref (fJ p0),(dI p1),(dI p2)] [] (dB r):=by
 refine fi 29 tok Tryz.func202 ?_
 unfold nT at h0
 refine sq [0] (pa (nx (sq [0,1,2,3,4,5,6,7,8,9,10,11,12,13,14,15,16,17,18,19,20,21,22] ?_)))
 refine pm ?_
 refine pmr ?_
 refine nr ?_
 refine fr tok ?_
 refine lr tok ?_
 refine rP rfl (aJ tok rfl rfl rfl) (rP rfl (gX rfl rfl) ?_)
 obtain ⟨v1,hv1,h0⟩:=bnd h0
 refine rS rfl (aM 3 (eA hv1) rfl rfl rfl) (pm ?_)
 refine dU (u:=15) h0 rfl (fun hc h0 => ?_) (fun hc h0 => ?_)
 refine pm1 ?_
 refine aKc ?_
 refine nr1 ?_
 refine fr1 tok ?_
 refine lr1 tok ?_
 refine pm1 ?_
 obtain ⟨v2,hv2,h0⟩:=bnd h0
 refine rp rfl (w1 rfl rfl rfl) rfl (cE tok hv2 rfl rfl rfl rfl rfl rfl) (fr1 tok ?_)
 refine lr1 tok ?_
 refine rp rfl (w1 rfl rfl rfl) rfl (aJ tok rfl rfl rfl) (rp rfl (w1 rfl rfl rfl) rfl (gX rfl rfl) ?_)
 obtain ⟨v3,hv3,h0⟩:=bnd h0
 refine rs rfl (w1 rfl rfl rfl) rfl (aM 3 (eA hv3) rfl rfl rfl) (pkt ?_)
 refine pa (nx (aA ?_))
 cases h0
 exact r0t 6 rfl
 iterate 12 refine k1 ?_
 refine pkf ?_
 refine pa (nx (aA ?_))
 cases h0
 exact r0t 6 rfl
theorem aM3 {p0:bG} {p1:bR} {r:Bool} (h0:sT p0 p1=some r):FnC Tryz.prog 171 [] [.ref (fJ p0), .agg [dI p1.A,(dI p1.WheelA),(dI p1.B),(dI p1.WheelB)]] [] (dB r):=by
 refine fi 26 tok Tryz.func171 ?_
 unfold sT at h0
 refine sq [0,1] (bxx 3 ?_)
 refine pa (nx (sq [0,1,2,3,4,5,6,7,8,9,10,11,12,13,14,15,16,17,18,19,20,21] ?_))
 refine fa tok ?_
 refine ld tok ?_
 refine fa tok ?_
 refine ld tok ?_
 refine rP rfl (cQ rfl rfl) (pm ?_)
 refine iT (u:=10) h0 rfl (fun hc h0 => ?_) (fun hc h0 => ?_)
 refine aKc ?_
 refine fa1 tok ?_
 refine ld1 tok ?_
 refine fa1 tok ?_
 refine ld1 tok ?_
 obtain ⟨v1,hv1,h0⟩:=bnd h0
 refine rs rfl (w1 rfl rfl rfl) rfl (aM 4 (aCc hv1) rfl rfl rfl) (pkt ?_)
 refine pm ?_
 refine dU (u:=18) h0 rfl (fun hc h0 => ?_) (fun hc h0 => ?_)
 refine aKc ?_
 refine fa1 tok ?_
 refine ld1 tok ?_
 refine fa1 tok ?_
 refine ld1 tok ?_
 obtain ⟨v2,hv2,h0⟩:=bnd h0
 refine rs rfl (w1 rfl rfl rfl) rfl (aM 4 (aCc hv2) rfl rfl rfl) (pkt ?_)
 refine pa (nx (aA ?_))
 cases h0
 exact r0t 4 rfl
 iterate 6 refine k1 ?_
 refine pkf ?_
 refine pa (nx (aA ?_))
 cases h0
 exact r0t 4 rfl
 iterate 6 refine k1 ?_
 refine pkf ?_
 refine pm ?_
 iterate 6 refine k1 ?_
 refine pkf ?_
 refine pa (nx (aA ?_))
 cases h0
 exact r0t 4 rfl
theorem aKp {p0:bR} {p1:bR} {r:Bool} (h0:qV p0 p1=some r):FnC Tryz.prog 203 [] [.agg [dI p0.A,(dI p0.WheelA),(dI p0.B),(dI p0.WheelB)], .agg [dI p1.A,(dI p1.WheelA),(dI p1.B),(dI p1.WheelB)]] [] (dB r):=by
 refine fi 36 tok Tryz.func203 ?_
 unfold qV at h0
 refine sq [0,1,2] (bxx 3 ?_)
 refine bxx 4 ?_
 refine pa (nx (sq [0,1,2,3,4,5,6,7,8,9,10,11,12,13,14,15,16,17,18,19,20,21,22,23,24,25,26,27,28,29,30,31] ?_))
 refine rL rfl (bA tok rfl rfl rfl rfl) (rL rfl (bA tok rfl rfl rfl rfl) (rP rfl (xE (a:=p0) (b:=p1) rfl rfl) (pm ?_)))
 refine iT (u:=8) h0 rfl (fun hc h0 => ?_) (fun hc h0 => ?_)
 iterate 26 refine k1 ?_
 refine pkt ?_
 refine pa (nx (aA ?_))
 cases h0
 exact r0t 4 rfl
 refine fa1 tok ?_
 refine ld1 tok ?_
 refine fa1 tok ?_
 refine ld1 tok ?_
 refine rp rfl (w1 rfl rfl rfl) rfl (iX rfl rfl) (pm1 ?_)
 refine iT (u:=14) h0 rfl (fun hc h0 => ?_) (fun hc h0 => ?_)
 refine fa1 tok ?_
 refine ld1 tok ?_
 refine fa1 tok ?_
 refine ld1 tok ?_
 refine rp rfl (w1 rfl rfl rfl) rfl (iX rfl rfl) (aYa ?_)
 refine pm1 ?_
 refine iT (u:=21) h0 rfl (fun hc h0 => ?_) (fun hc h0 => ?_)
 refine fa1 tok ?_
 refine ld1 tok ?_
 refine fa1 tok ?_
 refine ld1 tok ?_
 refine rp rfl (w1 rfl rfl rfl) rfl (iX rfl rfl) (aYa ?_)
 refine pm1 ?_
 refine iT (u:=28) h0 rfl (fun hc h0 => ?_) (fun hc h0 => ?_)
 refine fa1 tok ?_
 refine ld1 tok ?_
 refine fa1 tok ?_
 refine ld1 tok ?_
 refine rp rfl (w1 rfl rfl rfl) rfl (iX rfl rfl) (aYa ?_)
 refine pkf ?_
 refine pa (nx (aA ?_))
 cases h0
 exact r0t 4 rfl
 iterate 5 refine k1 ?_
 refine aV3 ?_
 refine pkf ?_
 refine pa (nx (aA ?_))
 cases h0
 exact r0t 4 rfl
 iterate 5 refine k1 ?_
 refine aV3 ?_
 refine pm1 ?_
 iterate 5 refine k1 ?_
 refine aV3 ?_
 refine pkf ?_
 refine pa (nx (aA ?_))
 cases h0
 exact r0t 4 rfl
 iterate 5 refine k1 ?_
 refine aV3 ?_
 refine pm1 ?_
 iterate 5 refine k1 ?_
 refine aV3 ?_
 refine pm1 ?_
 iterate 5 refine k1 ?_
 refine aV3 ?_
 refine pkf ?_
 refine pa (nx (aA ?_))
 cases h0
 exact r0t 4 rfl
end Go.Proofs.YtceknlcbfomdhaaGreatDoor
