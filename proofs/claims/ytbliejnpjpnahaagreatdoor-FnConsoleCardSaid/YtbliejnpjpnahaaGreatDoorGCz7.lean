/- Texts of this claim, one behind the other (merged by a program of mine). -/
import Derived.KernelRfl
import Derived.MapKept
import Derived.Maps.OwnOps
import Derived.Maps.AppendAt
import Derived.Maps.Views
import Derived.Below
import Derived.Test.YtbliejnpjpnahaaGreatDoorGCz6
set_option linter.unusedSimpArgs false
set_option linter.unusedVariables false
namespace Go.Proofs.YtbliejnpjpnahaaGreatDoor
open Go.RowKit
set_option linter.unusedVariables false
set_option maxRecDepth 100000
abbrev dI (x:Int):AV := .d (.v (.int .i64 x))
abbrev z0:AV:=dI 0
abbrev dB (x:Bool):AV := .d (.v (.bool x))
abbrev dS (x:ByteArray):AV := .d (.v (.string x))
abbrev dL {α:Type} (c:α→List DV) (x:List α):AV := .d (.sl (List.map c x))
abbrev zl:AV := .d (.v (.slice none 0 0))
abbrev ze:AV := .d (.v (.string (⟨#[]⟩:ByteArray)))
section
variable {P:Program} {T:Tab} {L N:Nat} {ops:Array Oper} {E:Env} {K:List (Nat × Cls)→AS→Prop} {i:Nat} {is:List Nat} {t:Nat→AV} {h h':dG} {d:Tmp} {dst:Option Tmp} {op:Op} {ty:TypeId} {pos:String} {aft:Array Edge} {g:Option (Nat × Bool)} {Q:qL→AS→Prop} {σ:AS} {c:Code} {x y:Operand}
theorem wa (k:Nat) (et:TypeId) (esz kb j:Nat) {bt:TypeId} {sz:Nat} {cells cells':List AV} (H:AW L P N c Q ⟨t,upd (upd h k (.live [⟨et,esz, .data []⟩])) kb (.live [⟨bt,sz, .av [cells']⟩])⟩) (hk:h k = .no:=by exact rfl) (hb:h kb = .live [⟨bt,sz, .av [cells]⟩]:=by exact rfl) (hj:cells[j]? = some (.d (.v (.slice none 0 0))):=by exact rfl) (hs:Spl j [.own k 0 0] cells cells':=by repeat (first | exact Spl.z _ | apply Spl.t | apply Spl.d)):AW L P N c Q ⟨t,h⟩:=bL (yF k hk et esz hb hj hs) H
theorem fi (N:Nat) (hT:TOk P T) {f:FuncId} {fn:Func} {body:Code} {hin hout:List fA} {as:List AV} {r:AV} (hf:P.funcs[f]? = some fn) (hw:AW 3 P N body (bDv T N fn hin.length hout r) ⟨aU7 as 0,lks hin⟩) (hb:fn.body=some body:=by exact rfl) (hN:fn.ntmps=N:=by exact rfl) (hc:aF2 P f=true:=by kernel_rfl) (hl:Nat.ble as.length N=true:=by exact rfl) (hm:Nat.ble hin.length 3=true:=by exact rfl):FnC P f hin as hout r:=aSo hT hf hb hN hc hl hm hw
theorem al (k:Nat) (cs:List AV) (hT:TOk P T) {bt:TypeId} {ti:TI} (H:RA L P N ops is Q ⟨aA t d (.ptr k 0 1 0 0),upd h k (.live [⟨bt,cs.length, .av [cs]⟩])⟩) (ho:ops[i]? = some ⟨some d, .alloc bt,ty,pos,aft,none⟩:=by exact rfl) (hd:Nat.blt d N=true:=by exact rfl) (h1:T bt=some ti:=by exact rfl) (hc:aAd ti.zero.cells.toList=cs:=by exact rfl) (hk:h k = .no:=by exact rfl):RA L P N ops (i :: is) Q ⟨t,h⟩:=rs ho w0 hd (gH k hT h1 hc hk) H
theorem bxx (k:Nat) {bt:TypeId} {c1:AV} {cs:List AV} (H:RA L P N ops is Q ⟨aA t d (.ptr k 0 1 0 0),upd h k (.live [⟨bt,(c1 :: cs).length, .av [c1 :: cs]⟩])⟩) (ho:ops[i]? = some ⟨some d, .box bt x,ty,pos,aft,none⟩:=by exact rfl) (hd:Nat.blt d N=true:=by exact rfl) (hc:aAc (evA N ⟨t,h⟩ x)=c1 :: cs:=by exact rfl) (hk1:okL (c1 :: cs)=true:=by exact rfl) (hk:h k = .no:=by exact rfl):RA L P N ops (i :: is) Q ⟨t,h⟩:=rs ho w0 hd (aYa k hc hk1 hk) H
theorem tfa (hT:TOk P T) {s bt:TypeId} {q kk e sz:Nat} {cells:List AV} {ti fj:TI} {fs:Array Field} {fld:Field} (H:RT P N ops is (fun l σ'=>K ((i, .lk kk) :: l) σ') ⟨aA t d (.ptr kk 0 1 0 (e+fld.offset)),h⟩) (ho:ops[i]? = some ⟨some d, .fieldAddr s x q,ty,pos,aft,none⟩:=by exact rfl) (hd:Nat.blt d N=true:=by exact rfl) (hx:evA N ⟨t,h⟩ x = .ptr kk 0 1 0 e:=by exact rfl) (h1:T s=some ti:=by exact rfl) (h2:ti.desc = .struct fs:=by exact rfl) (h3:fs[q]? = some fld:=by exact rfl) (h4:T fld.type=some fj:=by exact rfl) (h5:Nat.beq fj.size 0=false:=by exact rfl) (hk:h kk = .live [⟨bt,sz, .av [cells]⟩]:=by exact rfl):RT P N ops (i :: is) K ⟨t,h⟩:=jX ho w0 hd (aYm hT hx h1 h2 h3 h4 h5 hk) rfl (by rw [hx];rfl) (by simp only [Op.operands,List.all_cons,List.all_nil,hx];simp [AV.key]) H
theorem r0t {fn:Func} (i:Nat) {as:List AV} {r:AV} (hrs:fn.results.toList=[.tmp i])
  (R:qA T N ⟨t,h⟩ [.tmp i] as:=by repeat (first | exact qA.nil | apply qA.tmp (a := .d _) rfl | apply qA.tmp (a := .own _ _ _) rfl | apply qA.tmp (a := .agg _) rfl | apply qA.tmp (a := .ref _) rfl | apply qA.tmp (a := .fn _ _) rfl | apply qA.tmp (a := .ptr _ _ _ _ _) rfl | apply qA.cell1 rfl rfl rfl rfl (by first | rfl) (by first | rfl) rfl | apply qA.cellN rfl rfl rfl rfl (by first | rfl) (by first | rfl) (by repeat (first | exact Seg.z _ | apply Seg.t | apply Seg.d))))
  (hB:Abv h 300:=by repeat (first | exact mZ _ | exact mY rfl | refine nA ?_ rfl)) (e:aWm as=r:=by rfl) (hf:r.free=true:=by rfl):aF0 T N fn 0 [] r ⟨t,h⟩:=bFm 300 hrs R hB hf e
theorem rP {r:AV} (ho:(ops[i]?,Nat.blt d N)=(some ⟨some d,op,ty,pos,aft,none⟩,true)) (hp:eC P N ⟨some d,op,ty,pos,aft,none⟩ ⟨t,h⟩ r) (k:RA L P N ops is Q ⟨aA t d r,h⟩):RA L P N ops (i :: is) Q ⟨t,h⟩:=rp (Prod.mk.inj ho).1 w0 (Prod.mk.inj ho).2 hp k
theorem rL {r:AV} (ho:(ops[i]?,Nat.blt d N)=(some ⟨some d,op,ty,pos,aft,none⟩,true)) (hp:jJ P N ⟨some d,op,ty,pos,aft,none⟩ ⟨t,h⟩ r) (k:RA L P N ops is Q ⟨aA t d r,h⟩):RA L P N ops (i :: is) Q ⟨t,h⟩:=rl (Prod.mk.inj ho).1 w0 (Prod.mk.inj ho).2 hp k
theorem rS {r:AV} (ho:(ops[i]?,Nat.blt d N)=(some ⟨some d,op,ty,pos,aft,none⟩,true)) (hp:cQ P N ⟨some d,op,ty,pos,aft,none⟩ ⟨t,h⟩ r h' ∧ ∀ k,h k ≠ .no→h' k=h k) (k:RA L P N ops is Q ⟨aA t d r,h'⟩):RA L P N ops (i :: is) Q ⟨t,h⟩:=rs (Prod.mk.inj ho).1 w0 (Prod.mk.inj ho).2 hp k
theorem tP {r:AV} (ho:(ops[i]?,Nat.blt d N)=(some ⟨some d,op,ty,pos,aft,none⟩,true)) (hp:eC P N ⟨some d,op,ty,pos,aft,none⟩ ⟨t,h⟩ r) (k:RT P N ops is (fun l σ'=>K ((i, .pu) :: l) σ') ⟨aA t d r,h⟩):RT P N ops (i :: is) K ⟨t,h⟩:=aWp (Prod.mk.inj ho).1 w0 (Prod.mk.inj ho).2 hp k
theorem aif {α:Type} {o:Operand} {p:Prop} [Decidable p] {a b r:α} {x y:Code} (h:(if p then a else b)=r) (ht:p→a=r→AW L P N x Q σ) (hf : ¬ p→b=r→AW L P N y Q σ) (hb:evA N σ o = .d (.v (.bool (decide p))):=by exact rfl):AW L P N (.cond o x y) Q σ:=bC9 h hb ht hf
theorem aiB {α:Type} {o:Operand} {p:Bool} {a b r:α} {x y:Code} (h:(if p=true then a else b)=r) (ht:p=true→a=r→AW L P N x Q σ) (hf : ¬ p=true→b=r→AW L P N y Q σ) (hb:evA N σ o = .d (.v (.bool p)):=by exact rfl):AW L P N (.cond o x y) Q σ:=bAx h hb ht hf
theorem rif {α:Type} (u:Nat) {p:Prop} [Decidable p] {a b r:α} (hh:(if p then a else b)=r) (ht:p→a=r→RA L P N ops is Q ⟨aA t u (.d (.v (.bool true))),h⟩) (hf : ¬ p→b=r→RA L P N ops is Q ⟨aA t u (.d (.v (.bool false))),h⟩) (hb:t u = .d (.v (.bool (decide p))):=by exact rfl):RA L P N ops is Q ⟨t,h⟩:=bDt hh hb ht hf
theorem riB {α:Type} (u:Nat) {p:Bool} {a b r:α} (hh:(if p=true then a else b)=r) (ht:p=true→a=r→RA L P N ops is Q ⟨aA t u (.d (.v (.bool true))),h⟩) (hf : ¬ p=true→b=r→RA L P N ops is Q ⟨aA t u (.d (.v (.bool false))),h⟩) (hb:t u = .d (.v (.bool p)):=by exact rfl):RA L P N ops is Q ⟨t,h⟩:=bB0 hh hb ht hf
theorem lpx {S X:Type} {St:S→AS} {x x':X} {σ':AS} {j:Nat} (k:x'=x→Q (.exit j) σ'):aPy L N St (.inr x') x Q (.exit j) σ':=bBi ⟨_,rfl,k⟩
theorem lpr {S X:Type} {St:S→AS} {x x':X} {σ':AS} (k:x'=x→Q .ret σ'):aPy L N St (.inr x') x Q .ret σ':=bBh ⟨_,rfl,k⟩
theorem cll (B:Nat) {f:FuncId} {z:Operand} {args:Array Operand} {at_:Array TypeId} {caps as:List AV} {hs:List fA} {r r':AV} (hF:FnC P f [] as hs r) (H:RA L P N ops is Q ⟨aA t d r',h'⟩) (ho:ops[i]? = some ⟨some d, .call ⟨.value z,args,at_⟩,ty,pos,aft,none⟩:=by exact rfl) (hd:Nat.blt d N=true:=by exact rfl) (hx:evA N ⟨t,h⟩ z = .fn f caps:=by exact rfl) (ha:evL N ⟨t,h⟩ args.toList++caps=as:=by exact rfl) (hfr:AV.freeL as=true:=by exact rfl)
  (hB:Abv h B:=by repeat (first | exact mZ _ | exact mY rfl | refine nA ?_ rfl))
  (hr:cZ (B + ·) r r':=by repeat (first | exact gF.nil | apply gF.cons | exact cZ.d _ | apply cZ.agg | apply cZ.tup | exact cZ.own _ _ _ _ rfl | exact cZ.ptr _ _ _ _ _ _ rfl | exact cZ.ref _ | apply cZ.fn | exact cZ.dead))
  (hb:yW (B + ·) B hs h h':=by repeat (first | exact yW.nil _ _ | (apply yW.cons; (first | exact gR.no | exact gR.dead | exact gR.data _ _ _ | exact gR.nest rfl | exact gR.fam | exact gR.gen _)))):RA L P N ops (i :: is) Q ⟨t,h⟩:=rs ho w0 hd (aGu B hF hx ha hfr hB hr hb) H
theorem cl1 (B:Nat) {f:FuncId} {z:Operand} {args:Array Operand} {at_:Array TypeId} {caps as:List AV} {hs:List fA} {r r':AV} {j u:Nat} {b:Bool} (hF:FnC P f [] as hs r) (H:RA L P N ops is Q ⟨aA t d r',h'⟩) (ho:ops[i]? = some ⟨some d, .call ⟨.value z,args,at_⟩,ty,pos,aft,some (j,b)⟩:=by exact rfl) (hj:(ops[j]?).bind (·.dst)=some u:=by exact rfl) (hu:Nat.blt u N=true:=by exact rfl) (hv:t u = .d (.v (.bool b)):=by exact rfl) (hd:Nat.blt d N=true:=by exact rfl) (hx:evA N ⟨t,h⟩ z = .fn f caps:=by exact rfl) (ha:evL N ⟨t,h⟩ args.toList++caps=as:=by exact rfl) (hfr:AV.freeL as=true:=by exact rfl)
  (hB:Abv h B:=by repeat (first | exact mZ _ | exact mY rfl | refine nA ?_ rfl))
  (hr:cZ (B + ·) r r':=by repeat (first | exact gF.nil | apply gF.cons | exact cZ.d _ | apply cZ.agg | apply cZ.tup | exact cZ.own _ _ _ _ rfl | exact cZ.ptr _ _ _ _ _ _ rfl | exact cZ.ref _ | apply cZ.fn | exact cZ.dead))
  (hb:yW (B + ·) B hs h h':=by repeat (first | exact yW.nil _ _ | (apply yW.cons; (first | exact gR.no | exact gR.dead | exact gR.data _ _ _ | exact gR.nest rfl | exact gR.fam | exact gR.gen _)))):RA L P N ops (i :: is) Q ⟨t,h⟩:=rs ho (w1 hj hu hv) hd (aGu B hF hx ha hfr hB hr hb) H
theorem clt (B:Nat) {f:FuncId} {z:Operand} {args:Array Operand} {at_:Array TypeId} {caps as:List AV} {hs:List fA} {r r':AV} (hF:FnC P f [] as hs r) (H:RT P N ops is (fun l σ'=>K ((i, .sb B) :: l) σ') ⟨aA t d r',h'⟩) (ho:ops[i]? = some ⟨some d, .call ⟨.value z,args,at_⟩,ty,pos,aft,none⟩:=by exact rfl) (hd:Nat.blt d N=true:=by exact rfl) (hx:evA N ⟨t,h⟩ z = .fn f caps:=by exact rfl) (ha:evL N ⟨t,h⟩ args.toList++caps=as:=by exact rfl) (hfr:AV.freeL as=true:=by exact rfl)
  (hB:Abv h B:=by repeat (first | exact mZ _ | exact mY rfl | refine nA ?_ rfl))
  (hr:cZ (B + ·) r r':=by repeat (first | exact gF.nil | apply gF.cons | exact cZ.d _ | apply cZ.agg | apply cZ.tup | exact cZ.own _ _ _ _ rfl | exact cZ.ptr _ _ _ _ _ _ rfl | exact cZ.ref _ | apply cZ.fn | exact cZ.dead))
  (hb:yW (B + ·) B hs h h':=by repeat (first | exact yW.nil _ _ | (apply yW.cons; (first | exact gR.no | exact gR.dead | exact gR.data _ _ _ | exact gR.nest rfl | exact gR.fam | exact gR.gen _)))):RT P N ops (i :: is) K ⟨t,h⟩:=aDe ho w0 hd (kH B hF hx ha hfr hB hr hb) H
theorem bsv {α:Type} (hT:TOk P T) {bt e:TypeId} {len:Nat} {parts:Array (Nat × Operand)} {ti ei:TI} {es:List (List AV)} {ds:List (List DV)} (c:α→List DV) (xs:List α) (H:RA L P N ops is Q ⟨aA t d (.d (.sl (xs.map c))),h⟩) (ho:ops[i]? = some ⟨some d, .buildSlice bt len parts,ty,pos,aft,none⟩:=by exact rfl) (hd:Nat.blt d N=true:=by exact rfl) (h1:T bt=some ti:=by exact rfl) (h2:ti.desc = .slice e:=by exact rfl) (h3:T e=some ei:=by exact rfl)
  (hel:Els (evA N ⟨t,h⟩) ei.size 0 parts.toList es:=by repeat (first | exact Els.nil _ | apply Els.cons (cs:=[.d _]) rfl rfl rfl | apply Els.cons (cs:=_ :: _) rfl rfl rfl)) (hlen:Nat.beq es.length len=true:=by exact rfl) (hpos:Nat.blt 0 (len*ei.size)=true:=by exact rfl) (hsm:Nat.ble (len*ei.size) 16777216=true:=by exact rfl) (hcc:pH es ds:=by repeat (first | exact pH.nil | (apply pH.cons; (repeat (first | exact aC6.nil | apply aC6.cons))))) (hxs:ds=xs.map c:=by exact rfl):RA L P N ops (i :: is) Q ⟨t,h⟩:=rs ho w0 hd (aXn hT c xs h1 h2 h3 hel hlen hpos hsm hcc hxs) H
theorem bso {α:Type} (k:Nat) (hT:TOk P T) {bt e:TypeId} {len:Nat} {parts:Array (Nat × Operand)} {ti ei:TI} {es:List (List AV)} {ds:List (List DV)} (c:α→List DV) (xs:List α) (H:RA L P N ops is Q ⟨aA t d (.own k 0 xs.length),upd h k (.live [⟨e,ei.size, .data (xs.map c)⟩])⟩) (ho:ops[i]? = some ⟨some d, .buildSlice bt len parts,ty,pos,aft,none⟩:=by exact rfl) (hd:Nat.blt d N=true:=by exact rfl) (h1:T bt=some ti:=by exact rfl) (h2:ti.desc = .slice e:=by exact rfl) (h3:T e=some ei:=by exact rfl)
  (hel:Els (evA N ⟨t,h⟩) ei.size 0 parts.toList es:=by repeat (first | exact Els.nil _ | apply Els.cons (cs:=[.d _]) rfl rfl rfl | apply Els.cons (cs:=_ :: _) rfl rfl rfl)) (hlen:Nat.beq es.length len=true:=by exact rfl) (hpos:Nat.blt 0 (len*ei.size)=true:=by exact rfl) (hsm:Nat.ble (len*ei.size) 16777216=true:=by exact rfl) (hcc:pH es ds:=by repeat (first | exact pH.nil | (apply pH.cons; (repeat (first | exact aC6.nil | apply aC6.cons))))) (hxs:ds=xs.map c:=by exact rfl) (hk:h k = .no:=by exact rfl):RA L P N ops (i :: is) Q ⟨t,h⟩:=rs ho w0 hd (aXm k hT c xs h1 h2 h3 hel hlen hpos hsm hcc hxs hk) H
theorem tdr {id:Nat} (is:List Nat) (P0:P.follows .mixedOrders=true) (k:RT P N ops is (fun l s=>aJu ops (aMv ops.toList []) l=true∧Q .normal s) σ):AW L P N (.region id ops true) Q σ:=tB (is:=is) _ P0 rfl k
theorem rpb (hT:TOk P T) {bt:TypeId} {parts:Array (Nat × Operand)} {ti:TI} {fs:Array Field} {pl:List (Nat × Nat)} (C0:List AV) {C:List AV} (H:RA L P N ops is Q ⟨aA t d (.agg C),h⟩) (ho:ops[i]? = some ⟨some d, .build bt parts,ty,pos,aft,none⟩:=by exact rfl) (hd:Nat.blt d N=true:=by exact rfl) (h1:T bt=some ti:=by exact rfl) (h2:ti.desc = .struct fs:=by exact rfl) (h4:aAd ti.zero.cells.toList=C0:=by exact rfl)
  (h3:Plc T fs.toList pl:=by repeat (first | exact Plc.nil | apply Plc.cons rfl)) (h5:Bld (fun i=>pl[i]?) (evA N ⟨t,h⟩) C0 parts.toList C:=by repeat (first | exact Bld.nil _ | apply Bld.cons (cs:=[.d _]) rfl rfl rfl rfl (by repeat (first | exact Spl.z _ | apply Spl.t | apply Spl.d)) | apply Bld.cons (cs:=[.own _ _ _]) rfl rfl rfl rfl (by repeat (first | exact Spl.z _ | apply Spl.t | apply Spl.d)) | apply Bld.cons (cs:=[.ptr _ _ _ _ _]) rfl rfl rfl rfl (by repeat (first | exact Spl.z _ | apply Spl.t | apply Spl.d)) | apply Bld.cons (cs:=[.fn _ _]) rfl rfl rfl rfl (by repeat (first | exact Spl.z _ | apply Spl.t | apply Spl.d)) | apply Bld.cons (cs:=_ :: _) rfl rfl rfl rfl (by repeat (first | exact Spl.z _ | apply Spl.t | apply Spl.d)))):RA L P N ops (i :: is) Q ⟨t,h⟩:=rp ho w0 hd (pbl hT h1 h2 h4 h3 h5) H
end
abbrev aH:Nat→AV:=fun _ => .dead
abbrev lk3 (l:List fA):dG:=lks (.no :: .no :: .no :: l)
abbrev bA (k:Nat):AV := .ptr k 0 1 0 0
abbrev bI {α:Type} (k:Nat) (x:List α):AV := .own k 0 x.length
abbrev slD {α:Type} (a b:Nat) (c:α→List DV) (x:List α):fA := .live [⟨a,b, .data (List.map c x)⟩]
abbrev slN {α:Type} (a b k:Nat) (c:α→List DV) (x:List α):fA := .live [⟨a,b, .av (tM k c x)⟩]
abbrev slF {α:Type} (a b:Nat) (c:α→List DV) (x:List α):fA := .live (aJl a b c x)
abbrev slB (a b:Nat) (x:List AV):fA := .live [⟨a,b, .av [x]⟩]
end Go.Proofs.YtbliejnpjpnahaaGreatDoor
namespace Go.Proofs.YtbliejnpjpnahaaGreatDoor
open Go.RowKit
set_option linter.unusedVariables false
set_option maxRecDepth 100000
structure Go (n:Nat) (G:Prop):Prop where
 g:G
inductive Rg:Nat→List Oper→List Nat→Prop
 | z (i:Nat):Rg i [] []
 | s {i:Nat} {o:Oper} {os:List Oper} {is:List Nat} (h:Rg (i+1) os is):Rg i (o :: os) (i :: is)
theorem Rg.e {i:Nat} {os:List Oper} {is:List Nat} (h:Rg i os is):is=List.range' i os.length:=by
 induction h with
 | z=>rfl
 | s _ ih=>rw [ih];rfl
theorem Rg.r {ops:Array Oper} {is:List Nat} (h:Rg 0 ops.toList is):List.range ops.size=is:=by
 rw [h.e,List.range_eq_range'];simp
section
variable {P:Program} {T:Tab} {L N:Nat} {ops:Array Oper} {E:Env} {K:List (Nat × Cls)→AS→Prop} {i:Nat} {is:List Nat} {t:Nat→AV} {h h':dG} {d:Tmp} {dst:Option Tmp} {op:Op} {ty:TypeId} {pos:String} {aft:Array Edge} {g:Option (Nat × Bool)} {Q:qL→AS→Prop} {σ:AS} {c x y:Code} {m:Bool} {G:Cls→AS→Prop} {n id:Nat} {K':AS→Prop} {r:AV}
structure S1 (m:Bool) (P:Program) (N:Nat) (ops:Array Oper) (G:Cls→AS→Prop) (o:Oper) (σ:AS):Prop where
 g : ∃ cl σ1,gD P N ops o σ cl σ1∧G cl σ1
structure S2 (m:Bool) (P:Program) (N:Nat) (ops:Array Oper) (G:Cls→AS→Prop) (o:Oper) (σ:AS):Prop where
 g:yX N ops o σ → ∃ cl σ1,gD P N ops o σ cl σ1∧G cl σ1
theorem rx (ho:ops[i]? = some ⟨dst,op,ty,pos,aft,g⟩) (k:S1 false P N ops (fun _ s=>Go n (RA L P N ops is Q s)) ⟨dst,op,ty,pos,aft,g⟩ σ):Go (n+1) (RA L P N ops (i :: is) Q σ):=by
 obtain ⟨_,_,hs,k⟩:=k.g
 exact ⟨aT1 ho hs k.g⟩
theorem tx (ho:ops[i]? = some ⟨dst,op,ty,pos,aft,g⟩) (k:S1 true P N ops (fun c s=>Go n (RT P N ops is (fun l s'=>K ((i,c) :: l) s') s)) ⟨dst,op,ty,pos,aft,g⟩ σ):Go (n+1) (RT P N ops (i :: is) K σ):=by
 obtain ⟨_,_,hs,k⟩:=k.g
 exact ⟨qH ho hs k.g⟩
theorem gN (k:S2 m P N ops G ⟨dst,op,ty,pos,aft,none⟩ σ):S1 m P N ops G ⟨dst,op,ty,pos,aft,none⟩ σ:=⟨k.g w0⟩
theorem gW {j u:Nat} {b:Bool} (hj:(ops[j]?).bind (·.dst)=some u) (hu:Nat.blt u N=true) (hb:t u = .d (.v (.bool b))) (k:S2 m P N ops G ⟨dst,op,ty,pos,aft,some (j,b)⟩ ⟨t,h⟩):S1 m P N ops G ⟨dst,op,ty,pos,aft,some (j,b)⟩ ⟨t,h⟩:=⟨k.g (w1 hj hu hb)⟩
theorem gK {j u:Nat} {b:Bool} (hj:(ops[j]?).bind (·.dst)=some u) (hu:Nat.blt u N=true) (hb:t u = .d (.v (.bool !b))∨t u = .tup []) (hd:Nat.blt d N=true) (k:G .pu ⟨aA t d (.tup []),h⟩):S1 m P N ops G ⟨some d,op,ty,pos,aft,some (j,b)⟩ ⟨t,h⟩:=⟨_,_, .skip (dN hd) j b u rfl hj (oB hu) hb,k⟩
theorem gK0 {j u:Nat} {b:Bool} (hj:(ops[j]?).bind (·.dst)=some u) (hu:Nat.blt u N=true) (hb:t u = .d (.v (.bool !b))∨t u = .tup []) (k:G .pu ⟨t,h⟩):S1 m P N ops G ⟨none,op,ty,pos,aft,some (j,b)⟩ ⟨t,h⟩:=⟨_,_, .skip (fun d e=>by cases e) j b u rfl hj (oB hu) hb,k⟩
theorem xP (hp:eC P N ⟨some d,op,ty,pos,aft,g⟩ ⟨t,h⟩ r) (hd:Nat.blt d N=true) (k:G .pu ⟨aA t d r,h⟩):S2 m P N ops G ⟨some d,op,ty,pos,aft,g⟩ ⟨t,h⟩:=⟨fun hw=>⟨_,_, .pure (dN hd) hw r hp,k⟩⟩
theorem xL (hp:jJ P N ⟨some d,op,ty,pos,aft,g⟩ ⟨t,h⟩ r) (hd:Nat.blt d N=true) (k:G .li ⟨aA t d r,h⟩):S2 false P N ops G ⟨some d,op,ty,pos,aft,g⟩ ⟨t,h⟩:=⟨fun hw=>⟨_,_, .light (dN hd) hw r hp,k⟩⟩
theorem yL {k0:Nat} {x0:Operand} (hp:jJ P N ⟨some d,op,ty,pos,aft,g⟩ ⟨t,h⟩ r) (hd:Nat.blt d N=true) (hx0:op.operands.toList.head? = some x0) (h0:(evA N ⟨t,h⟩ x0).key=some k0) (hk:(op.operands.toList.all fun x=>match (evA N ⟨t,h⟩ x).key with | some k'=>Nat.beq k' k0 | none=>true)=true) (k:G (.lk k0) ⟨aA t d r,h⟩):S2 true P N ops G ⟨some d,op,ty,pos,aft,g⟩ ⟨t,h⟩:=⟨fun hw=>⟨_,_, .lk k0 (dN hd) hw r hp fun x hx k' hk'=>by
 have:=List.all_eq_true.1 hk x (by simpa using hx)
 rw [hk'] at this
 exact Nat.eq_of_beq_eq_true this,k⟩⟩
theorem xS {k0:Nat} {s:fA} (hp:cQ P N ⟨none,op,ty,pos,aft,g⟩ ⟨t,h⟩ r (upd h k0 s)) (k:G (.wk k0) ⟨t,upd h k0 s⟩):S2 m P N ops G ⟨none,op,ty,pos,aft,g⟩ ⟨t,h⟩:=⟨fun hw=>⟨_,_, .wk k0 (fun d e=>by cases e) hw r _ hp fun p hp=>dE _ _ hp,k⟩⟩
theorem gm {a1:Operand} (k:S2 m P N ops G ⟨dst, .move a1,ty,pos,aft,g⟩ σ):S2 m P N ops G ⟨dst, .move a1,ty,pos,aft,g⟩ σ:=k
theorem ga {a1:Operand} (k:S2 m P N ops G ⟨dst, .assign a1,ty,pos,aft,g⟩ σ):S2 m P N ops G ⟨dst, .assign a1,ty,pos,aft,g⟩ σ:=k
theorem gl {a1:TypeId} {a2:Operand} (k:S2 m P N ops G ⟨dst, .load a1 a2,ty,pos,aft,g⟩ σ):S2 m P N ops G ⟨dst, .load a1 a2,ty,pos,aft,g⟩ σ:=k
theorem gf {a1:TypeId} {a2:Operand} {a3:Nat} (k:S2 m P N ops G ⟨dst, .fieldAddr a1 a2 a3,ty,pos,aft,g⟩ σ):S2 m P N ops G ⟨dst, .fieldAddr a1 a2 a3,ty,pos,aft,g⟩ σ:=k
theorem gn {a1:Operand} (k:S2 m P N ops G ⟨dst, .nilCheck a1,ty,pos,aft,g⟩ σ):S2 m P N ops G ⟨dst, .nilCheck a1,ty,pos,aft,g⟩ σ:=k
theorem gp {a1 a2 a3:Operand} (k:S2 m P N ops G ⟨dst, .pick a1 a2 a3,ty,pos,aft,g⟩ σ):S2 m P N ops G ⟨dst, .pick a1 a2 a3,ty,pos,aft,g⟩ σ:=k
theorem gu {f:UnOp} {a1:TypeId} {a2:Operand} (k:S2 m P N ops G ⟨dst, .unOp f a1 a2,ty,pos,aft,g⟩ σ):S2 m P N ops G ⟨dst, .unOp f a1 a2,ty,pos,aft,g⟩ σ:=k
theorem gs {a1:TypeId} {a2 a3:Operand} (k:S2 m P N ops G ⟨dst, .store a1 a2 a3,ty,pos,aft,g⟩ σ):S2 m P N ops G ⟨dst, .store a1 a2 a3,ty,pos,aft,g⟩ σ:=k
theorem gc {a1:Operand} {a2:TypeId} (k:S2 m P N ops G ⟨dst, .call ⟨.builtin .len, #[a1], #[a2]⟩,ty,pos,aft,g⟩ σ):S2 m P N ops G ⟨dst, .call ⟨.builtin .len, #[a1], #[a2]⟩,ty,pos,aft,g⟩ σ:=k
theorem gb {f:BinOp} {a1 a4:TypeId} {a2 a3:Operand} (k:S2 m P N ops G ⟨dst, .binOp f a1 a2 a3 a4,ty,pos,aft,g⟩ σ):S2 m P N ops G ⟨dst, .binOp f a1 a2 a3 a4,ty,pos,aft,g⟩ σ:=k
theorem bF3 (k:Go n (K' σ)):Go (n+1) (RA L P N ops [] (zS K' Q) σ):=⟨nx k.g⟩
theorem bF4 (k:Go n (Q .normal σ)):Go (n+1) (RA L P N ops [] Q σ):=⟨aX3 k.g⟩
theorem bGa {D R:Prop} (e:K [] σ=(D∧R)) (hd:D) (k:Go n R):Go (n+1) (RT P N ops [] K σ):=⟨aCy (e ▸ ⟨hd,k.g⟩)⟩
theorem bF8 (his:Rg 0 ops.toList is) (k:Go n (RA L P N ops is (zS (fun s=>AW L P N x Q s) Q) σ)):Go (n+1) (AW L P N (.seq (.region id ops false) x) Q σ):=⟨aOd (aGs his.r k.g)⟩
theorem bF9 (his:Rg 0 ops.toList is) (k:Go n (RA L P N ops is Q σ)):Go (n+1) (AW L P N (.region id ops false) Q σ):=⟨aGs his.r k.g⟩
theorem bDh (k:Go n (AW L P N x (zS (fun s=>AW L P N y Q s) Q) σ)):Go (n+1) (AW L P N (.seq x y) Q σ):=⟨aOd k.g⟩
theorem bF7 (k:Go n (K' σ)):Go (n+1) (AW L P N .skip (zS K' Q) σ):=⟨sk k.g⟩
theorem bF6 (k:Go n (Q .normal σ)):Go (n+1) (AW L P N .skip Q σ):=⟨aR0 k.g⟩
theorem bF5 (k:Go n (Q .ret σ)):Go (n+1) (AW L P N .ret Q σ):=⟨bAy k.g⟩
theorem bF2 (k:Go n (Q (.exit i) σ)):Go (n+1) (AW L P N (.exit i) Q σ):=⟨aYj k.g⟩
theorem bFy (k:Go n (AW L P N c (yJ id Q) σ)):Go (n+1) (AW L P N (.block id c) Q σ):=⟨aVa k.g⟩
theorem g_n (k:Go n (K' σ)):Go (n+1) (zS K' Q .normal σ):=⟨k.g⟩
theorem g_e (k:Go n (Q (.exit i) σ)):Go (n+1) (zS K' Q (.exit i) σ):=⟨k.g⟩
theorem g_r (k:Go n (Q .ret σ)):Go (n+1) (zS K' Q .ret σ):=⟨k.g⟩
theorem bFz (k:Go n (Q .normal σ)):Go (n+1) (yJ id Q .normal σ):=⟨k.g⟩
theorem bF0 (k:Go n (Q .ret σ)):Go (n+1) (yJ id Q .ret σ):=⟨k.g⟩
theorem bFx (k:Go n (Q .normal σ)):Go (n+1) (yJ id Q (.exit id) σ):=⟨aR5 k.g⟩
theorem bF1 (P0:P.follows .mixedOrders=true) (his:Rg 0 ops.toList is) (k:Go n (RT P N ops is (fun l s=>aJu ops (aMv ops.toList []) l=true∧Q .normal s) σ)):Go (n+1) (AW L P N (.region id ops true) Q σ):=⟨tB (is:=is) _ P0 rfl k.g⟩
end
theorem au (n:Nat) {G G':Prop} (k:G') (h:G'→Go n G:=by
 intro k
 repeat (first
  | ((with_reducible apply rx); (case ho=>exact rfl);first | refine gN ?_ | refine gW rfl rfl rfl ?_ | refine gK rfl rfl (.inl rfl) rfl ?_ | refine gK rfl rfl (.inr rfl) rfl ?_ | refine gK0 rfl rfl (.inl rfl) ?_ | refine gK0 rfl rfl (.inr rfl) ?_)
  | ((with_reducible apply tx); (case ho=>exact rfl);first | refine gN ?_ | refine gW rfl rfl rfl ?_ | refine gK rfl rfl (.inl rfl) rfl ?_ | refine gK rfl rfl (.inr rfl) rfl ?_ | refine gK0 rfl rfl (.inl rfl) ?_ | refine gK0 rfl rfl (.inr rfl) ?_)
  | (refine gm ?_;first | refine xP (gZ (r := .d _) rfl) rfl ?_ | refine xP (gZ (r := .own _ _ _) rfl) rfl ?_ | refine xP (gZ (r := .tup _) rfl) rfl ?_ | refine xP (gZ (r := .ptr _ _ _ _ _) rfl) rfl ?_ | refine xP (gZ (r := .ref _) rfl) rfl ?_)
  | (refine ga ?_;first | refine xP (rV (r := .d _) rfl) rfl ?_ | refine xP (rV (r := .own _ _ _) rfl) rfl ?_ | refine xP (rV (r := .ref _) rfl) rfl ?_ | refine xP (rV (r := .ptr _ _ _ _ _) rfl) rfl ?_)
  | refine xP (aQ0 rfl rfl) rfl ?_
  | (refine gl ?_;first | refine xL (aXo tok rfl rfl rfl rfl rfl) rfl ?_ | refine xP (aKv tok rfl rfl rfl rfl) rfl ?_ | refine xL (aXp tok rfl rfl rfl rfl) rfl ?_ | refine xP (aKw tok rfl rfl rfl (by repeat (first | exact aXd.z _ | apply aXd.t))) rfl ?_ | refine yL (aXo tok rfl rfl rfl rfl rfl) rfl rfl rfl rfl ?_ | refine yL (aXp tok rfl rfl rfl rfl) rfl rfl rfl rfl ?_)
  | (refine gf ?_;first | refine xL (aYm tok rfl rfl rfl rfl rfl rfl rfl) rfl ?_ | refine xP (vZ tok rfl rfl rfl rfl rfl rfl (by repeat (first | exact Drp.z _ | apply Drp.d))) rfl ?_ | refine yL (aYm tok rfl rfl rfl rfl rfl rfl rfl) rfl rfl rfl rfl ?_)
  | (refine gn ?_;first | refine xP (aQ4 rfl) rfl ?_ | refine xL (aXq rfl rfl) rfl ?_ | refine yL (aXq rfl rfl) rfl rfl rfl rfl ?_)
  | (refine gs ?_;first | refine xS (aR8 (cs:=[.d _]) tok rfl rfl rfl rfl rfl rfl rfl) ?_ | refine xS (aR8 (cs:=[.own _ _ _]) tok rfl rfl rfl rfl rfl rfl rfl) ?_ | refine xS (aR8 (cs:=_ :: _) tok rfl rfl rfl rfl rfl rfl rfl) ?_)
  | (refine gp ?_;first | refine xP (aTz (r := .d _) rfl rfl) rfl ?_ | refine xP (aTy (r := .d _) rfl rfl) rfl ?_)
  | (refine gb ?_;first | refine xP (bBw rfl rfl) rfl ?_ | refine xP (bBs rfl rfl) rfl ?_ | refine xP (bBo rfl rfl) rfl ?_ | refine xP (aZm rfl rfl) rfl ?_ | refine xP (bBt rfl rfl) rfl ?_ | refine xP (bBz rfl rfl) rfl ?_ | refine xP (bBx rfl rfl) rfl ?_ | refine xP (bBq rfl rfl) rfl ?_ | refine xP (bBp rfl rfl) rfl ?_ | refine xP (bBr rfl rfl) rfl ?_)
  | (refine gu ?_;first | refine xP (bBu rfl) rfl ?_ | refine xP (bBy rfl) rfl ?_)
  | (refine gc ?_;first | refine xP (aQ1 tok rfl rfl rfl) rfl ?_ | refine xP (aQ3 tok rfl rfl rfl) rfl ?_ | refine xL (aTn tok rfl rfl rfl rfl rfl) rfl ?_ | refine yL (aTn tok rfl rfl rfl rfl rfl) rfl rfl rfl rfl ?_)
  | with_reducible refine bF3 ?_
  | with_reducible refine bF8 (by repeat (first | exact Rg.z _ | apply Rg.s)) ?_
  | with_reducible refine bDh ?_
  | with_reducible refine bF7 ?_
  | with_reducible refine g_n ?_
  | with_reducible refine bF5 ?_
  | with_reducible refine g_r ?_
  | with_reducible refine bFy ?_
  | with_reducible refine bF9 (by repeat (first | exact Rg.z _ | apply Rg.s)) ?_
  | with_reducible refine bF1 follows (by repeat (first | exact Rg.z _ | apply Rg.s)) ?_
  | (refine bGa rfl ?_ ?_;kernel_rfl)
  | with_reducible refine bF2 ?_
  | with_reducible refine g_e ?_
  | with_reducible refine bFx ?_
  | with_reducible refine bFz ?_
  | with_reducible refine bF0 ?_
  | with_reducible refine bF4 ?_
  | with_reducible refine bF6 ?_)
 exact ⟨k⟩):G:=(h k).g
end Go.Proofs.YtbliejnpjpnahaaGreatDoor
namespace Go.Proofs.YtbliejnpjpnahaaGreatDoor
open Go.RowKit
set_option linter.unusedVariables false
set_option maxRecDepth 100000
theorem aTj {α:Type} {c:α→List DV} {xs:List α} {w:World} {F:Nat→Prop} {μ:bJ} {h:dG} {v:Value} (r:eP w F μ h v (aM1 c xs)):eP w F μ h v (.d (.sl (List.map c xs))):=by
 cases xs with
 | nil=>exact aO4 r
 | cons x xs=>exact r
section
variable {P:Program} {T:Tab} {L N:Nat} {t:Nat→AV} {h:dG} {d:Tmp} {dst:Option Tmp} {ty:TypeId} {pos:String} {aft:Array Edge} {g:Option (Nat × Bool)} {x y:Operand}
theorem aN6 {d:Nat} {a:AV} (k : ∀ w F μ v,eP w F μ h v (t d)→eP w F μ h v a):lJ L N ⟨t,h⟩ ⟨aA t d a,h⟩:=by
 rintro E a' w ⟨F, μ,A⟩
 refine ⟨F, μ,A.H,A.df,A.sz,fun d' hd' => ?_,A.lim⟩
 by_cases e:d'=d
 ·subst e
  have h1:=A.tm d' hd'
  dsimp only at h1 ⊢
  rw [gC]
  exact k _ _ _ _ h1
 ·dsimp only;rw [kS _ _ e]
  exact A.tm d' hd'
theorem aUv {α:Type} (c:α→List DV) {d:Nat} {xs:List α} (hd:t d=aM1 c xs):lJ L N ⟨t,h⟩ ⟨aA t d (.d (.sl (List.map c xs))),h⟩:=aN6 fun w F μ v r=>by rw [hd] at r;exact aTj r
theorem bAh {α:Type} (c:α→List DV) {d:Nat} {xs:List α} (hd:t d = .d (.sl (List.map c xs))) (hx:xs≠[]):lJ L N ⟨t,h⟩ ⟨aA t d (aM1 c xs),h⟩:=aN6 fun w F μ v r=>by
 rw [hd] at r
 cases xs with
 | nil=>exact absurd rfl hx
 | cons x xs=>exact r
theorem bAg {α:Type} (c:α→List DV) {d:Nat} (hd:t d = .d (.v (.slice none 0 0))):lJ L N ⟨t,h⟩ ⟨aA t d (aM1 c []),h⟩:=aN6 fun w F μ v r=>by rw [hd] at r;exact r
theorem aNd {α:Type} {c:α→List DV} {xs:List α} [DecidableEq α] (hT:TOk P T) {xt e:TypeId} {ti:TI} {yt:TypeId} (hx:evA N ⟨t,h⟩ x=aM1 c xs) (h1:T xt=some ti) (h2:ti.desc = .slice e) (hy:evA N ⟨t,h⟩ y = .d (.v (.slice none 0 0))) :
  eC P N ⟨some d, .binOp .eql xt x y yt,ty,pos,aft,g⟩ ⟨t,h⟩ (.d (.v (.bool (decide (xs=[]))))):=by
 cases xs with
 | nil=>exact lE hT hx h1 h2 hy
 | cons a xs =>
  have:=rW (P:=P) (d:=d) (ty:=ty) (pos:=pos) (aft:=aft) (g:=g) (yt:=yt) hT (xt:=xt) (es:=List.map c (a :: xs)) hx (by simp) h1 h2 hy
  simpa using this
end
end Go.Proofs.YtbliejnpjpnahaaGreatDoor
namespace Go.Proofs.YtbliejnpjpnahaaGreatDoor
open Go.RowKit
set_option linter.unusedVariables false
set_option maxRecDepth 100000
theorem aPf {P:Program} {T K E:TypeId} (hu:P.underlying T=some (.map K E)) (hK:P.underlying K=some (.int .i64)) {w:World} (hz:(zeroValue E).run P w = .ok (.slice none 0 0) w) {b clock:Nat} {es:Array MapEntry} (hb:w.heap[b]? = some (.map es clock)) {k:Int} {v:Value} (h:bCl es k v) :
  (Instr.lookup T (.map (some b)) (.int .i64 k) false).run P w = .ok v w:=by
 have hc : ∀ e,(Instr.checkKey e 10000 K (.int .i64 k)).run P w = .ok () w:=fun e=>MapKept.run_checkKey hK (by simp [MapKept.IsKey]) e 9999
 rcases h with ⟨i,h⟩ | ⟨h,rfl⟩
 ·have h2:=MapKept.run_findKey (w:=w) (kt:=K) hK h
  simp [Instr.lookup,run_underlying hu,MapKept.run_getObj_map hb,hc,h2,Result.andThen]
 ·have h2:=MapKept.run_findKey (w:=w) (kt:=K) hK h
  simp [Instr.lookup,run_underlying hu,MapKept.run_getObj_map hb,hc,h2,hz,Result.andThen]
section
variable {P:Program} {T:Tab} {L N:Nat} {ops:Array Oper} {E:Env} {K:List (Nat × Cls)→AS→Prop} {i:Nat} {is:List Nat} {t:Nat→AV} {h h':dG} {d:Tmp} {dst:Option Tmp} {op:Op} {ty:TypeId} {pos:String} {aft:Array Edge} {g:Option (Nat × Bool)} {Q:qL→AS→Prop} {σ:AS} {c:Code} {x y:Operand}
theorem aZk {mt kt et:TypeId} {f:Int→List (List Int)} {k:Int} {ti ki:TI} (hT:TOk P T) (h1:T mt=some ti) (h2:ti.desc = .map kt et) (h3:T kt=some ki) (h4:ki.desc = .int .i64) (hz : ∀ w:World,(zeroValue et).run P w = .ok (.slice none 0 0) w)
  (hx:evA N ⟨t,h⟩ x = .d (.mp f)) (hy:evA N ⟨t,h⟩ y = .d (.v (.int .i64 k))) (hk : -9223372036854775808≤k∧k≤9223372036854775807):eC P N ⟨some d, .lookup mt x y false,ty,pos,aft,g⟩ ⟨t,h⟩ (.d (.sl (bB3 (f k)))):=fun w F μ hh ρ st=>by
 have hr:=st x (by simp [Op.operands])
 have e2:=gU (by have:=st y (by simp [Op.operands]);rw [hy] at this;exact this)
 rw [hx] at hr
 have hu:=(hT _ _ h1).1
 rw [h2] at hu
 have hu2:=(hT _ _ h3).1
 rw [h4] at hu2
 generalize hv:ρ x=v at hr
 cases hr with | d _ _ hd =>
 cases hd with | mp b clock es f gg hF hb hkk hr =>
 exact ⟨gg k,by simp [execOp,hv,e2,aPf hu hu2 (hz w) hb (hkk k hk.1 hk.2),Result.andThen], .d _ _ (hr k hk.1 hk.2)⟩
theorem aTq {mt kt et:TypeId} {f:Int→List (List Int)} {k:Int} {ti ki ei:TI} (hT:TOk P T) (h1:T mt=some ti) (h2:ti.desc = .map kt et) (h3:T kt=some ki) (h4:ki.desc = .int .i64) (h5:T et=some ei) (h6:ei.zero = .slice none 0 0)
  (hx:evA N ⟨t,h⟩ x = .d (.mp f)) (hy:evA N ⟨t,h⟩ y = .d (.v (.int .i64 k))) (hk : -9223372036854775808≤k∧k≤9223372036854775807):eC P N ⟨some d, .lookup mt x y false,ty,pos,aft,g⟩ ⟨t,h⟩ (.d (.sl (List.map (cL cI) (f k)))) :=
 aZk hT h1 h2 h3 h4 (fun w=>by rw [← h6];exact aI1 hT h5 w) hx hy hk
end
end Go.Proofs.YtbliejnpjpnahaaGreatDoor
namespace Go.Proofs.YtbliejnpjpnahaaGreatDoor
open Go.RowKit Go.Maps Go.ChangeMaps Go.MapKept Go.WideElems
set_option linter.unusedVariables false
set_option maxRecDepth 100000
def InK (k:Int):Prop := -9223372036854775808≤k∧k≤9223372036854775807
def rvV (v:Value):Option (DataW Value × List MemPlace):=some (.held v,[])
theorem aXw {k:Int} (h:InK k):(Lit.int .i64 k).wf=true:=WalkArith.wf_i64 (by unfold InK at h;omega)
section
variable {P:Program} {T K E:TypeId} {w:World} {b n:Nat} {val:Int→Value}
def AtV (P:Program) (K:TypeId) (w:World) (b n:Nat) (val:Int→Value):Prop := ∃ D:DataW Value,w.ownsMap P K rvV b n D ∧ ∀ k,InK k→D.atKey (.int .i64 k) (.held (.slice none 0 0)) = .held (val k)
theorem AtV.lt (h:AtV P K w b n val):b<w.heap.size:=let ⟨_,h,_⟩:=h;h.lt
theorem aU9 (w:World):AtV P K (w.alloc (.map #[] 0)) w.heap.size 0 (fun _ => .slice none 0 0):=⟨_,World.ownsMap_made w P K rvV,fun k _=>rfl⟩
theorem AtV.kept (h:AtV P K w b n val) {w':World} {row:Option Nat} (hg:w.grownBy w' row) (hne:some b≠row):AtV P K w' b n val:=let ⟨D,h,h2⟩:=h; ⟨D,h.kept hg hne,h2⟩
theorem AtV.same (h:AtV P K w b n val) {w':World} (hg:w'.heap[b]? = w.heap[b]?):AtV P K w' b n val:=by
 obtain ⟨D,⟨es,clock,h1,h2⟩,h3⟩:=h
 exact ⟨D,⟨es,clock,hg.trans h1,h2⟩,h3⟩
theorem AtV.look (h:AtV P K w b n val) (ht:P.underlying T=some (.map K E)) (hK:P.underlying K=some (.int .i64)) (hz:(zeroValue E).run P w = .ok (.slice none 0 0) w) {k:Int} (hk:InK k):(Instr.lookup T (.map (some b)) (.int .i64 k) false).run P w = .ok (val k) w:=by
 obtain ⟨D,h,h2⟩:=h
 obtain ⟨v,ps,hr,hv⟩:=h.lookup (int_keyed hK) ht hz (zd := .held (.slice none 0 0)) (zp:=[]) rfl (keyOf_int_mk hK (aXw hk))
 rw [h2 k hk] at hv
 simp only [rvV,Option.some.injEq,Prod.mk.injEq,DataW.held.injEq] at hv
 rw [hr,hv.1]
theorem AtV.put (h:AtV P K w b n val) (ht:P.underlying T=some (.map K E)) (hK:P.underlying K=some (.int .i64)) (hn:n<maxLen) {k:Int} (hk:InK k) (v:Value) :
  ∃ w',(Instr.mapUpdate T (.map (some b)) (.int .i64 k) v).run P w = .ok () w'∧AtV P K w' b (n+1) (fun k'=>if k'=k then v else val k')∧w.grownBy w' (some b):=by
 obtain ⟨D,h,h2⟩:=h
 obtain ⟨w',hr,ho,hg⟩:=h.update (int_keyed hK) ht hn (keyOf_int_mk hK (aXw hk)) (val:=v) (d := .held v) (ps:=[]) rfl
 have hm:IsMap D:=let ⟨_,_,_,_,_,e⟩:=h; ⟨_,e⟩
 refine ⟨w',hr,⟨_,ho,fun k' hk' => ?_⟩,hg⟩
 dsimp only
 by_cases e:k'=k
 ·subst e
  rw [if_pos rfl,atKey_put_same (k := .int .i64 k') hm (show WideAt.IsKeyLit (.int .i64 k') from trivial)]
 ·rw [if_neg e,atKey_put_other (fun q=>e (by simpa using q)),h2 k' hk']
theorem AtV.key (h:AtV P K w b n val) (ht:P.underlying T=some (.map K E)) (hK:P.underlying K=some (.int .i64)) (hz:(zeroValue E).run P w = .ok (.slice none 0 0) w) : ∃ clock es,w.heap[b]? = some (.map es clock) ∧ ∀ k,InK k→bCl es k (val k):=by
 have h0:=h
 obtain ⟨D,⟨es,clock,hb,F,_,_⟩,_⟩:=h
 refine ⟨clock,es,hb,fun k hk => ?_⟩
 have hrun:=h0.look ht hK hz hk
 have hks : ∀ y ∈ es.toList,IsKey (.int .i64) y.key:=fun y hy=>by
  obtain ⟨z,hy⟩:=F.reads y hy
  have hkk:=rd_key hy
  simp only [keyOf,hK,mapKey] at hkk
  cases hyk:y.key <;> rw [hyk] at hkk <;> simp at hkk
  exact hkk.1.1
 have : ∃ v,bCl es k v:=by
  rcases findNow_spec (d := .int .i64) (k := .int .i64 k) (by simp [IsKey]) es.toList 0 hks with ⟨h1,_⟩ | ⟨j,e0,h1,_⟩
  ·exact ⟨_, .inr ⟨h1,rfl⟩⟩
  ·exact ⟨_, .inl ⟨_,h1⟩⟩
 obtain ⟨v,hv⟩:=this
 have h1:=aPf ht hK hz hb hv
 rw [hrun] at h1
 cases h1
 exact hv
end
end Go.Proofs.YtbliejnpjpnahaaGreatDoor
namespace Go.Proofs.YtbliejnpjpnahaaGreatDoor
open Go.RowKit
set_option linter.unusedVariables false
set_option maxRecDepth 100000
section
variable {w w' wr w2 w3 w4:World} {base b:Nat} {e e':TypeId} {s s' n n':Nat} {v vc v1 v8 v2 x:Value} {xs xs' vals:List Value} {l r:List Int} {rows:List (List Int)} {tI tS:TypeId}
theorem fU (h:w.ownsRow base e s v n xs) (hb : ∀ g,v.ownBlock=some g→w'.heap[g]? = w.heap[g]?):w'.ownsRow base e s v n xs:=by
 refine ⟨h.1,?_⟩
 rcases h.2 with q | ⟨g,cap,cur,rfl,q1,q2,q3⟩
 ·exact .inl q
 ·exact .inr ⟨g,cap,cur,rfl,q1,(hb g rfl).trans q2,q3⟩
theorem mS (h:w.ownsRow base e s v n xs) (hb:b≤base):w.ownsRow b e s v n xs:=by
 refine ⟨h.1,?_⟩
 rcases h.2 with q | ⟨g,cap,cur,rfl,q1,q2⟩
 ·exact .inl q
 ·exact .inr ⟨g,cap,cur,rfl,Nat.le_trans hb q1,q2⟩
def bCn (tI:TypeId) (w:World) (base:Nat) (v:Value) (l:List Int):Prop:=w.ownsRow base tI 1 v l.length (l.map (Value.int .i64))
def aBi (tI tS:TypeId) (w:World) (base:Nat) (v:Value) (rows:List (List Int)) (vals:List Value):Prop:=w.ownsRow base tS 1 v rows.length vals ∧ ∀ (i:Nat) x r,vals[i]? = some x→rows[i]? = some r→bCn tI w base x r∧(x.ownBlock=none∨x.ownBlock≠v.ownBlock)∧(r=[]→x = .slice none 0 0)
def zU (tI tS:TypeId) (w:World) (base:Nat) (v:Value) (rows:List (List Int)):Prop := ∃ vals,aBi tI tS w base v rows vals
theorem zU.nil:zU tI tS w base (.slice none 0 0) []:=⟨[],World.ownsRow_nil _ _ _ _,fun i x r h=>by simp at h⟩
theorem aBi.of (h:aBi tI tS w base v rows vals) (hb : ∀ g,g<w.heap.size→base≤g→w'.heap[g]? = w.heap[g]?):aBi tI tS w' base v rows vals:=by
 refine ⟨fU h.1 fun g hg=>hb g (h.1.lt g hg).2 (h.1.lt g hg).1,fun i x r h1 h2 => ?_⟩
 obtain ⟨q1,q2⟩:=h.2 i x r h1 h2
 exact ⟨fU q1 fun g hg=>hb g (q1.lt g hg).2 (q1.lt g hg).1,q2⟩
theorem zU.of (h:zU tI tS w base v rows) (hb : ∀ g,g<w.heap.size→base≤g→w'.heap[g]? = w.heap[g]?):zU tI tS w' base v rows:=let ⟨vals,h⟩:=h; ⟨vals,h.of hb⟩
theorem zU.below (h:zU tI tS w base v rows) (hb:Below w.heap.size w w'):zU tI tS w' base v rows:=h.of fun g h1 _=>hb.block g h1
theorem zU.base_ (h:zU tI tS w base v rows) (hb:b≤base):zU tI tS w b v rows:=by
 obtain ⟨vals,h1,h2⟩:=h
 refine ⟨vals,mS h1 hb,fun i x r q1 q2=>⟨mS (h2 i x r q1 q2).1 hb,(h2 i x r q1 q2).2⟩⟩
theorem aBi.len (h:aBi tI tS w base v rows vals):vals.length=rows.length:=by have:=h.1.1;omega
theorem bFh {o:Obj} (hb2:Below wr.heap.size wr w2) (hvc:w2.ownsRow wr.heap.size e' s' vc n' xs') (hg:(w2.alloc o).grownBy w3 vc.ownBlock) {g:Nat} (hlt:g<wr.heap.size):w3.heap[g]? = wr.heap[g]? := by
 have h2:=hb2.size
 rw [hg.block g (by simp;omega) fun e=>by have:=(hvc.lt g e.symm).1;omega]
 rw [Below.heap_alloc w2 o g (by omega)]
 exact hb2.block g hlt
theorem bFk {o:Obj} {B:Nat} (h:wr.ownsRow base e s v n xs) (hb2:Below wr.heap.size wr w2) (hvc:w2.ownsRow wr.heap.size e' s' vc n' xs') (hg:(w2.alloc o).grownBy w3 vc.ownBlock):w3.ownsRow base e s v n xs:=fU h fun g hg'=>bFh hb2 hvc hg (h.lt g hg').2
theorem bB1 {o o':Obj} {t:Int} {wj:World} (hj:base=wj.heap.size) (hnx:Below base wj wr) (hbase:base≤wr.heap.size) (hv:aBi tI tS wr base v8 rows vals)
  (hb2:Below wr.heap.size wr w2) (hvc:w2.ownsRow wr.heap.size tI 1 vc l.length (l.map (Value.int .i64))) (hg1:(w2.alloc o).grownBy w3 vc.ownBlock) (ho1:w3.ownsRow wr.heap.size tI 1 v1 (l.length+1) (l.map (Value.int .i64)++[.int .i64 t]))
  (hg2:(w3.alloc o').grownBy w4 v8.ownBlock) (ho2:w4.ownsRow base tS 1 v2 (rows.length+1) (vals++[v1])) (hloc:v2.ownBlock=v8.ownBlock∨v2.ownBlock=some (w3.alloc o').heap.size) :
  zU tI tS w4 base v2 (rows++[l++[t]])∧Below base wj w4∧base≤w4.heap.size:=by
 have z2:=hb2.size
 have z3:=hg1.size
 have z4:=hg2.size
 have za : ∀ (w:World) (o:Obj),(w.alloc o).heap.size=w.heap.size+1:=fun w o=>by simp
 rw [za] at z3 z4
 have old : ∀ g,g<wr.heap.size→v8.ownBlock≠some g→w4.heap[g]? = wr.heap[g]? := fun g hlt hne=>by
  rw [hg2.block g (by simp;omega) fun e=>hne e.symm,Below.heap_alloc w3 o' g (by omega)]
  exact bFh hb2 hvc hg1 hlt
 have new1 : ∀ g,v1.ownBlock=some g→w4.heap[g]? = w3.heap[g]? := fun g hg=>by
  have:=ho1.lt g hg
  rw [hg2.block g (by simp;omega) fun e=>by have:=(hv.1.lt g e.symm).2;omega,Below.heap_alloc w3 o' g (by omega)]
 refine ⟨⟨vals++[v1],by simpa using ho2,fun i x r h1 h2 => ?_⟩,⟨?_,?_,?_,?_,?_⟩,by omega⟩
 ·have hl:=hv.len
  by_cases hi:i<rows.length
  ·rw [List.getElem?_append_left (by omega)] at h1
   rw [List.getElem?_append_left hi] at h2
   obtain ⟨q1,q2,q3⟩:=hv.2 i x r h1 h2
   refine ⟨fU q1 fun g hg=>old g (q1.lt g hg).2 fun e => ?_,?_,q3⟩
   ·rcases q2 with q2 | q2
    ·rw [q2] at hg;cases hg
    ·exact q2 (hg.trans e.symm)
   ·rcases hloc with hloc | hloc
    ·rw [hloc];exact q2
    ·cases hx:x.ownBlock with
     | none=>exact .inl rfl
     | some g =>
      right
      rw [hloc]
      intro e
      have:=(q1.lt g hx).2
      cases e
      simp at this;omega
  ·rw [List.getElem?_append_right (by omega)] at h1
   rw [List.getElem?_append_right (by omega)] at h2
   have hi0:i=rows.length:=by
    have:=(List.getElem?_eq_some_iff.1 h2).1
    simp at this;omega
   subst hi0
   simp [hl] at h1 h2
   subst h1 h2
   have q1:bCn tI w3 base v1 (l++[t]):=by
    unfold bCn
    have:=mS ho1 hbase
    simpa using this
   refine ⟨fU q1 new1,?_,fun e=>by simp at e⟩
   cases hx:v1.ownBlock with
   | none=>exact .inl rfl
   | some g =>
    right
    have h3:=ho1.lt g hx
    rcases hloc with hloc | hloc
    ·rw [hloc]
     intro e
     have:=(hv.1.lt g e.symm).2
     omega
    ·rw [hloc]
     intro e
     cases e
     have:=h3.2
     rw [za] at this
     omega
 ·rw [hg2.os,show (w3.alloc o').os=w3.os from rfl,hg1.os,show (w2.alloc o).os=w2.os from rfl,hb2.os];exact hnx.os
 ·rw [hg2.tape,show (w3.alloc o').tape=w3.tape from rfl,hg1.tape,show (w2.alloc o).tape=w2.tape from rfl,hb2.tape];exact hnx.tape
 ·rw [hg2.output,show (w3.alloc o').output=w3.output from rfl,hg1.output,show (w2.alloc o).output=w2.output from rfl,hb2.output];exact hnx.output
 ·have:=hnx.size;omega
 ·intro g hg
  rw [old g (by omega) fun e=>by have:=(hv.1.lt g e).1;omega]
  exact hnx.block g hg
end
end Go.Proofs.YtbliejnpjpnahaaGreatDoor
namespace Go.Proofs.YtbliejnpjpnahaaGreatDoor
open Go.RowKit
set_option linter.unusedVariables false
set_option maxRecDepth 100000
def oV (ls:List (List Int)) (vals:List Value) (p:Int):List Value:=((ls.zip vals).filter fun q=>decide (eK q.1=p)).map (·.2)
theorem aHa (ls:List (List Int)) (l:List Int):iY (ls++[l])=if eK l ∈ iY ls then iY ls else iY ls++[eK l]:=by
 unfold iY
 rw [List.foldl_append];rfl
theorem aRl {ls:List (List Int)} {vals:List Value} (h:ls.length=vals.length) (l:List Int) (x:Value) (p:Int):oV (ls++[l]) (vals++[x]) p=oV ls vals p++if eK l=p then [x] else []:=by
 unfold oV
 rw [List.zip_append h,List.filter_append,List.map_append]
 by_cases e:eK l=p <;> simp [e]
theorem aUe {p:Int} : ∀ (ls:List (List Int)) (acc:List Int),p ∈ ls.foldl (fun acc l=>if eK l ∈ acc then acc else acc++[eK l]) acc ↔ p ∈ acc ∨ ∃ l ∈ ls,eK l=p
 | [],acc=>by simp
 | l :: ls,acc=>by
  rw [List.foldl_cons,aUe ls]
  split
  ·rename_i hm
   constructor
   ·rintro (h | ⟨l',h1,h2⟩)
    ·exact .inl h
    ·exact .inr ⟨l',List.mem_cons_of_mem _ h1,h2⟩
   ·rintro (h | ⟨l',h1,h2⟩)
    ·exact .inl h
    ·rcases List.mem_cons.1 h1 with rfl | h1
     ·exact .inl (h2 ▸ hm)
     ·exact .inr ⟨l',h1,h2⟩
  ·constructor
   ·rintro (h | ⟨l',h1,h2⟩)
    ·rcases List.mem_append.1 h with h | h
     ·exact .inl h
     ·exact .inr ⟨l,List.mem_cons_self ..,(List.mem_singleton.1 h).symm⟩
    ·exact .inr ⟨l',List.mem_cons_of_mem _ h1,h2⟩
   ·rintro (h | ⟨l',h1,h2⟩)
    ·exact .inl (List.mem_append_left _ h)
    ·rcases List.mem_cons.1 h1 with rfl | h1
     ·exact .inl (by rw [h2];simp)
     ·exact .inr ⟨l',h1,h2⟩
theorem aLe {p:Int} {ls:List (List Int)}:p ∈ iY ls ↔ ∃ l ∈ ls,eK l=p:=by
 unfold iY
 rw [aUe]
 simp
theorem aLp {p:Int} {ls:List (List Int)} {vals:List Value} (h:ls.length=vals.length):oV ls vals p=[] ↔ p ∉ iY ls:=by
 rw [aLe]
 unfold oV
 rw [List.map_eq_nil_iff,List.filter_eq_nil_iff]
 constructor
 ·rintro h2 ⟨l,hl,hp⟩
  obtain ⟨i,hi,rfl⟩:=List.getElem_of_mem hl
  have:=h2 (ls[i],vals[i]) (by
   rw [List.mem_iff_getElem]
   exact ⟨i,by simp;omega,by simp⟩)
  simp [hp] at this
 ·rintro h2 ⟨l,x⟩ hq
  have:=(List.of_mem_zip hq).1
  simp only [decide_eq_true_eq]
  exact fun e=>h2 ⟨l,this,e⟩
section
variable {P:Program} {K tI tS T:TypeId} {ls:List (List Int)} {vals:List Value} {wB wr w5 w7 w8:World} {B kp k n:Nat} {vP vP' v' x:Value} {val:Int→Value} {p:Int} {l:List Int}
structure aJk (P:Program) (K tI tS T:TypeId) (ls:List (List Int)) (vals:List Value) (wB:World) (B kp k:Nat) (vP:Value) (val:Int→Value) (wr:World):Prop where
 bel:Below B wB wr
 sz:B+2≤wr.heap.size
 cel:wr.heap[B+1]? = some (.cells #[vP, .map (some B)] T (0,0))
 prd:wr.ownsRow (B+2) tI 1 vP (iY (ls.take kp)).length ((iY (ls.take kp)).map (Value.int .i64))
 map:AtV P K wr B k val
 row : ∀ p,wr.ownsRow (B+2) tS 1 (val p) (oV (ls.take k) (vals.take k) p).length (oV (ls.take k) (vals.take k) p)
 nil : ∀ p,oV (ls.take k) (vals.take k) p=[]→val p = .slice none 0 0
 sep : ∀ p q,p≠q→(val p).ownBlock=none∨(val p).ownBlock≠(val q).ownBlock
 sepP : ∀ p,(val p).ownBlock=none∨(val p).ownBlock≠vP.ownBlock
theorem aJk.c0 (h:aJk P K tI tS T ls vals wB B kp k vP val wr):wr.cell? ⟨B+1,0,none⟩=some vP:=by simp [World.cell?,h.cel]
theorem aJk.c1 (h:aJk P K tI tS T ls vals wB B kp k vP val wr):wr.cell? ⟨B+1,1,none⟩=some (.map (some B)):=by simp [World.cell?,h.cel]
theorem aJk.f0 (h:aJk P K tI tS T ls vals wB B kp k vP val wr):wr.frozen? ⟨B+1,0,none⟩=false:=by simp [World.frozen?,h.cel]
theorem aJk.seen (h:aJk P K tI tS T ls vals wB B k k vP val wr) (hk:k<ls.length) (hl:ls[k]? = some l) (hs:eK l ∈ iY (ls.take k)):aJk P K tI tS T ls vals wB B (k+1) k vP val wr:=by
 have he:ls[k]=l:=by rw [List.getElem?_eq_getElem hk] at hl;exact Option.some.inj hl
 have e:iY (ls.take (k+1))=iY (ls.take k):=by rw [List.take_succ_eq_append_getElem hk,he,aHa,if_pos hs]
 exact ⟨h.bel,h.sz,h.cel,by rw [e];exact h.prd,h.map,h.row,h.nil,h.sep,h.sepP⟩
theorem aJk.fresh {o:Obj} (h:aJk P K tI tS T ls vals wB B k k vP val wr) (hk:k<ls.length) (hl:ls[k]? = some l) (hs:eK l ∉ iY (ls.take k)) (ho:w5.ownsRow (B+2) tI 1 vP' ((iY (ls.take k)).length+1) ((iY (ls.take k)).map (Value.int .i64)++[.int .i64 (eK l)]))
  (hg:(wr.alloc o).grownBy w5 vP.ownBlock) (hloc:vP'.ownBlock=vP.ownBlock∨vP'.ownBlock=some (wr.alloc o).heap.size) (hw:w8.heap=w5.heap.setIfInBounds (B+1) (.cells #[vP', .map (some B)] T (0,0))) (hos:w8.os=w5.os) (htape:w8.tape=w5.tape) (hout:w8.output=w5.output) :
  aJk P K tI tS T ls vals wB B (k+1) k vP' val w8:=by
 have he:ls[k]=l:=by rw [List.getElem?_eq_getElem hk] at hl;exact Option.some.inj hl
 have e:iY (ls.take (k+1))=iY (ls.take k)++[eK l]:=by rw [List.take_succ_eq_append_getElem hk,he,aHa,if_neg hs]
 have za:(wr.alloc o).heap.size=wr.heap.size+1:=by simp
 have z5:=hg.size
 rw [za] at z5
 have hsz:=h.sz
 have old : ∀ g,g<wr.heap.size→g≠B+1→vP.ownBlock≠some g→w8.heap[g]? = wr.heap[g]? := fun g h1 h2 h3=>by
  rw [hw,Array.getElem?_setIfInBounds_ne (by omega),hg.block g (by omega) fun e=>h3 e.symm,Below.heap_alloc wr o g h1]
 have oldP : ∀ g,vP.ownBlock=some g→B+2≤g∧g<wr.heap.size:=fun g hg=>h.prd.lt g hg
 refine ⟨⟨?_,?_,?_,?_,fun g hgB => ?_⟩,?_,?_,?_,?_,fun p => ?_,h.nil,h.sep,fun p => ?_⟩
 ·rw [hos,hg.os];exact h.bel.os
 ·rw [htape,hg.tape];exact h.bel.tape
 ·rw [hout,hg.output];exact h.bel.output
 ·rw [hw,Array.size_setIfInBounds];have:=h.bel.size;omega
 ·rw [old g (by omega) (by omega) fun e=>by have:=(oldP g e).1;omega];exact h.bel.block g hgB
 ·rw [hw,Array.size_setIfInBounds];omega
 ·rw [hw,Array.getElem?_setIfInBounds_self_of_lt (by omega)]
 ·rw [e]
  have:w8.ownsRow (B+2) tI 1 vP' ((iY (ls.take k)).length+1) ((iY (ls.take k)).map (Value.int .i64)++[.int .i64 (eK l)]):=fU ho fun g hg'=>by
   have:=(ho.lt g hg').1
   rw [hw,Array.getElem?_setIfInBounds_ne (by omega)]
  simpa using this
 ·exact h.map.same (old B h.map.lt (by omega) fun e=>by have:=(oldP B e).1;omega)
 ·refine fU (h.row p) fun g hg' => ?_
  have h1:=(h.row p).lt g hg'
  exact old g h1.2 (by omega) fun e=>by
   rcases h.sepP p with q | q
   ·rw [q] at hg';cases hg'
   ·exact q (hg'.trans e.symm)
 ·rcases hloc with q | q
  ·rw [q];exact h.sepP p
  ·cases hv:(val p).ownBlock with
   | none=>exact .inl rfl
   | some g =>
    right
    rw [q]
    intro e
    have:=((h.row p).lt g hv).2
    cases e
    rw [za] at this
    omega
theorem aJk.join {o:Obj} (h:aJk P K tI tS T ls vals wB B kp k vP val wr) (hk:k<ls.length) (hl:ls[k]? = some l) (hx:vals[k]? = some x) (hlen:ls.length=vals.length) (ho:w7.ownsRow (B+2) tS 1 v' ((oV (ls.take k) (vals.take k) (eK l)).length+1) (oV (ls.take k) (vals.take k) (eK l)++[x]))
  (hg:(wr.alloc o).grownBy w7 (val (eK l)).ownBlock) (hloc:v'.ownBlock=(val (eK l)).ownBlock∨v'.ownBlock=some (wr.alloc o).heap.size) (hm:AtV P K w8 B (k+1) (fun q=>if q=eK l then v' else val q)) (hg8:w7.grownBy w8 (some B)) :
  aJk P K tI tS T ls vals wB B kp (k+1) vP (fun q=>if q=eK l then v' else val q) w8:=by
 have hkv:k<vals.length:=by omega
 have he:ls[k]=l:=by rw [List.getElem?_eq_getElem hk] at hl;exact Option.some.inj hl
 have hxe:vals[k]=x:=by rw [List.getElem?_eq_getElem hkv] at hx;exact Option.some.inj hx
 have ev : ∀ p,oV (ls.take (k+1)) (vals.take (k+1)) p=oV (ls.take k) (vals.take k) p++if eK l=p then [x] else []:=fun p=>by
  rw [List.take_succ_eq_append_getElem hk,List.take_succ_eq_append_getElem hkv,he,hxe,aRl (by simp;omega)]
 have za:(wr.alloc o).heap.size=wr.heap.size+1:=by simp
 have z7:=hg.size
 have z8:=hg8.size
 rw [za] at z7
 have hsz:=h.sz
 have hrl:=fun g hg=>(h.row (eK l)).lt g hg
 have old : ∀ g,g<wr.heap.size→g≠B→(val (eK l)).ownBlock≠some g→w8.heap[g]? = wr.heap[g]? := fun g h1 h2 h3=>by
  rw [hg8.block g (by omega) (by simpa using h2),hg.block g (by omega) fun e=>h3 e.symm,Below.heap_alloc wr o g h1]
 have hv':w8.ownsRow (B+2) tS 1 v' ((oV (ls.take k) (vals.take k) (eK l)).length+1) (oV (ls.take k) (vals.take k) (eK l)++[x]):=fU ho fun g hg'=>by
  have:=ho.lt g hg'
  exact hg8.block g this.2 (by simp;omega)
 have hne : ∀ q,q≠eK l→(val q).ownBlock=none∨(val q).ownBlock≠v'.ownBlock:=fun q hq=>by
  rcases hloc with e | e
  ·rw [e];exact h.sep q _ hq
  ·cases hv:(val q).ownBlock with
   | none=>exact .inl rfl
   | some g =>
    right
    rw [e]
    intro e
    have:=((h.row q).lt g hv).2
    cases e
    rw [za] at this
    omega
 refine ⟨⟨?_,?_,?_,?_,fun g hgB => ?_⟩,?_,?_,?_,hm,fun p => ?_,fun p hp => ?_,fun p q hpq => ?_,fun p => ?_⟩
 ·rw [hg8.os,hg.os];exact h.bel.os
 ·rw [hg8.tape,hg.tape];exact h.bel.tape
 ·rw [hg8.output,hg.output];exact h.bel.output
 ·have:=h.bel.size;omega
 ·rw [old g (by omega) (by omega) fun e=>by have:=(hrl g e).1;omega];exact h.bel.block g hgB
 ·omega
 ·rw [old (B+1) (by omega) (by omega) fun e=>by have:=(hrl _ e).1;omega];exact h.cel
 ·refine fU h.prd fun g hg' => ?_
  have h1:=h.prd.lt g hg'
  exact old g h1.2 (by omega) fun e=>by
   rcases h.sepP (eK l) with q | q
   ·rw [q] at e;cases e
   ·exact q (e.trans hg'.symm)
 ·try dsimp only
  rw [ev p]
  by_cases e:p=eK l
  ·subst e
   rw [if_pos rfl,if_pos rfl]
   simpa using hv'
  ·rw [if_neg e,if_neg fun q=>e q.symm,List.append_nil]
   refine fU (h.row p) fun g hg' => ?_
   have h1:=(h.row p).lt g hg'
   exact old g h1.2 (by omega) fun e2=>by
    rcases h.sep p (eK l) e with q | q
    ·rw [q] at hg';cases hg'
    ·exact q (hg'.trans e2.symm)
 ·try dsimp only
  rw [ev p] at hp
  by_cases e:p=eK l
  ·subst e;simp at hp
  ·rw [if_neg e]
   exact h.nil p (by simpa [fun q=>e (Eq.symm q)] using (List.append_eq_nil_iff.1 hp).1)
 ·try dsimp only
  by_cases e1:p=eK l
  ·rw [if_pos e1,if_neg fun q2=>hpq (e1.trans q2.symm)]
   have hq:q≠eK l:=fun q2=>hpq (e1.trans q2.symm)
   rcases hne q hq with h1 | h1
   ·cases hv:v'.ownBlock with
    | none=>exact .inl rfl
    | some g=>right;rw [h1];simp
   ·exact .inr fun e=>h1 e.symm
  ·rw [if_neg e1]
   by_cases e2:q=eK l
   ·rw [if_pos e2];exact hne p e1
   ·rw [if_neg e2];exact h.sep p q hpq
 ·try dsimp only
  by_cases e1:p=eK l
  ·rw [if_pos e1]
   rcases hloc with q | q
   ·rw [q];exact h.sepP _
   ·right
    rw [q]
    intro e
    have:=(h.prd.lt _ e.symm).2
    rw [za] at this
    omega
  ·rw [if_neg e1];exact h.sepP p
end
end Go.Proofs.YtbliejnpjpnahaaGreatDoor
namespace Go.Proofs.YtbliejnpjpnahaaGreatDoor
set_option linter.unusedVariables false
theorem qM {α:Type} {xs:List α} {i:Int} (h0:0≤i) (h1:i<xs.length) : ∃ e,atI xs i=some e∧e ∈ xs∧xs[i.toNat]? = some e:=by
 have hl:i.toNat<xs.length:=by omega
 refine ⟨xs[i.toNat],?_,List.getElem_mem hl,List.getElem?_eq_getElem hl⟩
 unfold atI;rw [if_pos h0];exact List.getElem?_eq_getElem hl
theorem aDm {α:Type} {k:Option α}:chk True k=k:=if_pos trivial
theorem aSn {X:Type} {n:Nat} {g:Nat→Bool} {d:X} {e:Nat→X} {step:Int→Option (Int ⊕ X)} (hS : ∀ i:Nat,i<n→step (i:Int)=some (if g i=true then .inl ((i:Int)+1) else .inr (e i))) (hE:step (n:Int)=some (.inr d)) (hn:n≤9223372036854775807) :
  ∃ x,bQ step 0=some x∧(((∀ j,j<n→g j=true)∧x=d) ∨ ∃ i,i<n∧g i=false∧(∀ j,j<i→g j=true)∧x=e i):=by
 refine sW (fun (s:Int)=>0≤s∧s≤n ∧ ∀ j:Nat,(j:Int)<s→g j=true) (fun (s:Int)=>((n:Int)-s).toNat) _ (fun s hI => ?_) 0 ⟨by omega,by omega,fun j hj=>by omega⟩ (by omega)
 obtain ⟨q0,q1,q2⟩:=hI
 obtain ⟨i,rfl⟩ : ∃ i:Nat,s=i:=⟨s.toNat,by omega⟩
 by_cases hs:i<n
 ·cases hg:g i
  ·right
   exact ⟨e i,by rw [hS i hs,hg];rfl, .inr ⟨i,hs,hg,fun j hj=>q2 j (by omega),rfl⟩⟩
  ·left
   refine ⟨(i:Int)+1,by rw [hS i hs,hg];rfl,⟨by omega,by omega,fun j hj => ?_⟩,by omega⟩
   rcases Nat.lt_or_ge j i with h | h
   ·exact q2 j (by omega)
   ·have:j=i:=by omega
    rw [this];exact hg
 ·right
  have:i=n:=by omega
  subst this
  exact ⟨d,hE, .inl ⟨fun j hj=>q2 j (by omega),rfl⟩⟩
theorem aNx {X:Type} {n:Nat} {g:Nat→Bool} {d e:X} {step:Int→Option (Int ⊕ X)} (hS : ∀ i:Nat,i<n→step (i:Int)=some (if g i=true then .inl ((i:Int)+1) else .inr e)) (hE:step (n:Int)=some (.inr d)) (hn:n≤9223372036854775807) :
  bQ step 0=some (if (List.range n).all g=true then d else e):=by
 obtain ⟨x,hx,⟨h,rfl⟩ | ⟨i,hi,hg,_,rfl⟩⟩:=aSn (e:=fun _=>e) hS hE hn
 ·rw [hx,if_pos (by simpa using h)]
 ·rw [hx,if_neg (by simp only [List.all_eq_true,List.mem_range];intro h;rw [h i hi] at hg;cases hg)]
theorem eL {α:Type} {xs:List α} {i:Nat} (h:i<xs.length):atI xs (i:Int)=some xs[i]:=by rw [aL2];exact List.getElem?_eq_getElem h
theorem aD8 {α:Type} {xs:List α} {f:α→Bool} {g:Nat→Bool} (h : ∀ (i:Nat) (hi:i<xs.length),g i=f xs[i]):(List.range xs.length).all g=xs.all f:=by
 rw [Bool.eq_iff_iff,List.all_eq_true,List.all_eq_true]
 constructor
 ·intro q v hv
  obtain ⟨i,hi,rfl⟩:=List.getElem_of_mem hv
  rw [← h i hi];exact q i (List.mem_range.2 hi)
 ·intro q i hi
  have hi:=List.mem_range.1 hi
  rw [h i hi];exact q _ (List.getElem_mem hi)
theorem aWs {α X:Type} {xs:List α} {f:α→Bool} {d e:X} {step:Int→Option (Int ⊕ X)} (hS : ∀ (i:Nat) (hi:i<xs.length),step (i:Int)=some (if f xs[i]=true then .inl ((i:Int)+1) else .inr e)) (hE:step (xs.length:Int)=some (.inr d)) (hn:xs.length≤9223372036854775807) :
  bQ step 0=some (if xs.all f=true then d else e):=by
 rw [aNx (n:=xs.length) (d:=d) (e:=e) (g:=fun i=>if hi:i<xs.length then f xs[i] else true) (fun i hi=>by rw [hS i hi];simp [hi]) hE hn,aD8 (f:=f) fun i hi=>by simp [hi]]
theorem aR7 {α β:Type} {xs:List α} {f:α→List β} {c:Nat} {init:List β} {step:Int × List β→Option ((Int × List β) ⊕ List β)} (hc : ∀ v ∈ xs,(f v).length≤c) (hS : ∀ (i:Nat) (hi:i<xs.length) ys,ys.length≤init.length+c*i→step ((i:Int),ys)=some (.inl ((i:Int)+1,ys++f xs[i]))) (hE : ∀ ys,step ((xs.length:Int),ys)=some (.inr ys)) (hn:xs.length≤9223372036854775807) :
  bQ step (0,init)=some (init++xs.flatMap f):=by
 refine aOz (fun (s:Int × List β)=>0≤s.1∧s.1≤xs.length∧s.2=init++(xs.take s.1.toNat).flatMap f∧s.2.length≤init.length+c*s.1.toNat) (fun (s:Int × List β)=>((xs.length:Int)-s.1).toNat) (fun s hI => ?_) (by simp) (by simp;omega)
 obtain ⟨i,ys⟩:=s
 obtain ⟨q0,q1,q2,q3⟩:=hI
 dsimp only at q0 q1 q2 q3 ⊢
 obtain ⟨j,rfl⟩ : ∃ j:Nat,i=j:=⟨i.toNat,by omega⟩
 have e2:((j:Int)).toNat=j:=by omega
 rw [e2] at q2 q3
 by_cases hs:j<xs.length
 ·left
  have e:((j:Int)+1).toNat=j+1:=by omega
  refine ⟨_,hS j hs ys q3,⟨by dsimp only;omega,by dsimp only;omega,?_,?_⟩,by dsimp only;omega⟩
  ·dsimp only
   rw [e,q2,List.take_succ_eq_append_getElem hs,List.flatMap_append, ← List.append_assoc];simp
  ·dsimp only
   rw [e,List.length_append,Nat.mul_add]
   have:=hc xs[j] (List.getElem_mem hs)
   omega
 ·right
  have:j=xs.length:=by omega
  subst this
  rw [hE ys,q2,List.take_length]
end Go.Proofs.YtbliejnpjpnahaaGreatDoor
namespace Go.Proofs.YtbliejnpjpnahaaGreatDoor
set_option linter.unusedVariables false
def btw (x a b:Int):Bool:=decide (a≤x∧x≤b)
theorem cN (x a b:Int):bB x a b=some (btw x a b):=by unfold bB btw;split <;> simp_all <;> omega
theorem eY (x a b:Int):cV x a b=some (btw x a b):=by unfold cV btw;split <;> simp_all <;> omega
theorem bCd {n d:Int} (hd:1≤d) (h:n.tmod d<0):n.tdiv d-1=n / d:=by
 have h1:=Int.mul_tdiv_add_tmod n d
 have h2 : -d<n.tmod d:=by
  have:=Int.lt_tmod_of_pos n (show 0<d by omega);omega
 have e:n=d*(n.tdiv d-1)+(n.tmod d+d):=by rw [Int.mul_sub];omega
 have:=Int.ediv_emod_unique (a:=n) (b:=d) (r:=n.tmod d+d) (q:=n.tdiv d-1) (by omega)
 exact (this.2 ⟨by omega,by omega,by omega⟩).1.symm
theorem bCf {n d:Int} (hd:1≤d) (h : ¬ n.tmod d<0):n.tdiv d=n / d:=by
 have h1:=Int.mul_tdiv_add_tmod n d
 have h2:n.tmod d<d:=Int.tmod_lt_of_pos n (by omega)
 have:=Int.ediv_emod_unique (a:=n) (b:=d) (r:=n.tmod d) (q:=n.tdiv d) (by omega)
 exact (this.2 ⟨by omega,by omega,by omega⟩).1.symm
theorem aHr {n d:Int} (hd:1≤d) {L:Int} (hL:0≤L) (h0 : -L≤n) (h1:n≤L) : -L≤n / d∧n / d≤L:=by
 constructor
 ·rw [Int.le_ediv_iff_mul_le (by omega)]
  have:L*1≤L*d:=Int.mul_le_mul_of_nonneg_left hd hL
  rw [Int.neg_mul];omega
 ·refine Int.le_trans (Int.ediv_le_ediv (by omega) h1) ?_
  exact Int.ediv_le_self _ hL
theorem bAa {n d:Int} (hd:1≤d) {L:Int} (hL:0≤L) (h0 : -L≤n) (h1:n≤L) : -L≤n.tdiv d∧n.tdiv d≤L:=by
 rcases Int.le_total 0 n with h | h
 ·rw [bCe h];exact aHr hd hL h0 h1
 ·have:=aHr (n := -n) hd hL (by omega) (by omega)
  have e:n.tdiv d = -((-n) / d):=by rw [← bCe (by omega),Int.neg_tdiv,Int.neg_neg]
  rw [e];omega
structure bFo (r k n:Int):Prop where
 p0:0≤2*k*(n-2*k)
 p1:2*k*(n-2*k)≤64000000
 r0:0≤r*16*(2*k*(n-2*k))
 r1:r*16*(2*k*(n-2*k))≤102400000000000
 n0:1≤5*n*n-4*(2*k*(n-2*k))
 n1:5*n*n≤1280000000
theorem aIa {n d:Int} (hd:1≤d) (n0 : -4000000000000000000≤n) (n1:n≤4000000000000000000):kO n d=some (n / d):=by
 have b:=bAa hd (L:=4000000000000000000) (by omega) n0 n1
 unfold kO
 rw [eA (by omega)]
 have w1:w64 (n.tdiv d)=n.tdiv d:=aQ (by omega) (by omega)
 by_cases h:n.tmod d<0
 ·have:=bCd hd h
  have e:=aHr hd (L:=4000000000000000000) (by omega) n0 n1
  simp [h,w1,aDm,this,show d≠0 by omega,aQ (x:=n / d) (by omega) (by omega)]
 ·have:=bCf hd h
  simp only [this] at w1 ⊢
  simp [h,w1,aDm,show d≠0 by omega]
end Go.Proofs.YtbliejnpjpnahaaGreatDoor
namespace Go.Proofs.YtbliejnpjpnahaaGreatDoor
set_option linter.unusedVariables false
def smB (c:Int):Bool:=decide (97≤c∧c≤122)
def dgB (c:Int):Bool:=decide (48≤c∧c≤57)
def okB (c:Int):Bool:=smB c || (dgB c || decide (c=45))
theorem aFr (s:ByteArray) (i:Int):aJf s i=atI (dC s) i:=by
 unfold aJf atI dC
 split
 ·rename_i h
  rw [List.getElem?_map]
  congr 1
  rw [Array.getElem?_toList]
  by_cases hi:i.toNat<s.size
  ·rw [getElem?_pos s i.toNat hi,getElem?_pos s.data i.toNat hi];rfl
  ·rw [getElem?_neg s i.toNat hi,getElem?_neg s.data i.toNat hi]
 ·rfl
def tZ (s:ByteArray):Bool:=decide (1≤s.size∧s.size≤12) && ((dC s).take 1).all smB && (dC s).all okB
theorem aA3 (c:Int):mU c=some (smB c):=by unfold mU smB;split <;> simp_all <;> omega
theorem aI3 (c:Int):pV c=some (dgB c):=by unfold pV dgB;split <;> simp_all <;> omega
theorem bFn {s:ByteArray}:s=⟨#[]⟩ ↔ s.size=0:=by
 constructor
 ·rintro rfl;rfl
 ·intro h
  cases s with | mk d =>
  have:d = #[]:=Array.eq_empty_of_size_eq_zero h
  rw [this]
theorem vO (s:ByteArray):mT s=some (tZ s):=by
 have hl:=aBk s
 unfold mT tZ
 by_cases h0:s=⟨#[]⟩
 ·have:=bFn.1 h0
  simp [h0]
  intro h;exact absurd h (by decide)
 ·have h1:s.size≠0:=fun h=>h0 (bFn.2 h)
  rw [if_neg h0]
  by_cases h2:12<(s.size:Int)
  ·rw [if_pos h2]
   simp
   intro a b;omega
  ·rw [if_neg h2]
   obtain ⟨c,cs,hc⟩ : ∃ c cs,dC s=c :: cs:=by
    cases hb:dC s with
    | nil=>rw [hb] at hl;simp at hl;omega
    | cons c cs=>exact ⟨c,cs,rfl⟩
   have e0:aJf s 0=some c:=by rw [aFr,hc];rfl
   rw [e0]
   simp only [Option.bind_some,aA3]
   have ht:((dC s).take 1).all smB=smB c:=by rw [hc];simp
   have hd:decide (1≤s.size∧s.size≤12)=true:=decide_eq_true ⟨by omega,by omega⟩
   rw [ht,hd]
   cases hs:smB c
   ·simp
   ·simp only [Bool.not_true,Bool.false_eq_true,if_false,Bool.true_and]
    have hz:(s.size:Int)=((dC s).length:Int):=by rw [hl]
    rw [hz,aWs (xs:=dC s) (f:=okB) (d := .inl ()) (e := .inr false) (fun i hi => ?_) (by simp) (by omega)]
    ·cases (dC s).all okB <;> simp [orE]
    ·have hi':(i:Int)<((dC s).length:Int):=by omega
     have e1:w64 ((i:Int)+1)=i+1:=aQ (by omega) (by omega)
     rw [if_pos hi',aFr,eL hi]
     simp only [Option.bind_some,aA3,aI3,e1,okB]
     generalize (dC s)[i]=c
     rcases Bool.eq_false_or_eq_true (smB c) with g1 | g1 <;> rcases Bool.eq_false_or_eq_true (dgB c) with g2 | g2 <;> by_cases h45:c=45 <;> simp [g1,g2,h45]
theorem zB (s:ByteArray):kW s=some (tZ s):=by
 have hl:=aBk s
 unfold kW tZ
 by_cases h1:(s.size:Int)<1
 ·rw [if_pos h1];simp
  intro a b;omega
 ·rw [if_neg h1]
  by_cases h2:12<(s.size:Int)
  ·simp [h2]
   intro a b;omega
  ·have hd:decide (1≤s.size∧s.size≤12)=true:=decide_eq_true ⟨by omega,by omega⟩
   simp only [h2,decide_false,Option.bind_some,Bool.false_eq_true,if_false,hd,Bool.true_and]
   rw [eA (by omega),aNx (n:=(dC s).length) (d := .inl ()) (e := .inr false) (g:=fun i=>smB ((dC s).getD i 0) || (decide (i≠0) && (dgB ((dC s).getD i 0) || decide ((dC s).getD i 0=45)))) (fun i hi => ?_) (by simp) (by omega)]
   ·obtain ⟨c,cs,hc⟩ : ∃ c cs,dC s=c :: cs:=by
     cases hb:dC s with
     | nil=>rw [hb] at hl;simp at hl;omega
     | cons c cs=>exact ⟨c,cs,rfl⟩
    have key:(List.range (dC s).length).all (fun i=>smB ((dC s).getD i 0) || (decide (i≠0) && (dgB ((dC s).getD i 0) || decide ((dC s).getD i 0=45))))=(((dC s).take 1).all smB && (dC s).all okB):=by
     rw [hc]
     simp only [List.length_cons,List.range_succ_eq_map,List.all_cons,List.all_map,List.take_succ_cons,List.take_zero,List.all_nil,Bool.and_true]
     have:(List.range cs.length).all ((fun i=>smB ((c :: cs).getD i 0) || (decide (i≠0) && (dgB ((c :: cs).getD i 0) || decide ((c :: cs).getD i 0=45)))) ∘ Nat.succ)=cs.all okB:=aD8 (f:=okB) fun i hi=>by simp [okB,hi]
     rw [this]
     simp [okB]
     cases smB c <;> simp
    rw [key]
    cases ((dC s).take 1).all smB && (dC s).all okB <;> simp [orE]
   ·have hi':(i:Int)<((dC s).length:Int):=by omega
    have e1:w64 ((i:Int)+1)=i+1:=aQ (by omega) (by omega)
    have e2:(dC s).getD i 0=(dC s)[i]:=by simp [hi]
    rw [if_pos hi',eL hi,e2]
    simp only [Option.bind_some,e1]
    generalize (dC s)[i]=c
    have A:(if 97≤c then some (decide (c≤122)) else some false)=some (smB c):=by unfold smB;split <;> simp_all <;> omega
    have B:(if 48≤c then (if c≤57 then some true else some (decide (c=45))) else some (decide (c=45)))=some (dgB c || decide (c=45)):=by
     unfold dgB
     split
     ·split <;> simp_all <;> omega
     ·simp_all;omega
    rw [A,B]
    simp only [Option.bind_some]
    have hz:((i:Int)=0) ↔ i=0:=by omega
    cases smB c <;> cases (dgB c || decide (c=45)) <;> by_cases h0:i=0 <;> simp [h0]
end Go.Proofs.YtbliejnpjpnahaaGreatDoor
namespace Go.Proofs.YtbliejnpjpnahaaGreatDoor
set_option linter.unusedVariables false
def aLy {α:Type} (xs:List α) (f:Nat→α→Bool):Bool:=(List.range xs.length).all fun i=>if hi:i<xs.length then f i xs[i] else true
theorem aDj {α:Type} {xs:List α} {f:Nat→α→Bool}:aLy xs f=true ↔ ∀ (i:Nat) (hi:i<xs.length),f i xs[i]=true:=by
 unfold aLy
 rw [List.all_eq_true]
 constructor
 ·intro h i hi
  have:=h i (List.mem_range.2 hi)
  rwa [dif_pos hi] at this
 ·intro h i hi
  have hi:=List.mem_range.1 hi
  rw [dif_pos hi]
  exact h i hi
theorem lW {α:Type} {xs:List α} {f:α→Bool}:aLy xs (fun _ v=>f v)=xs.all f:=aD8 fun i hi=>by simp [hi]
theorem wH {α X:Type} {xs:List α} {G:Int→Option (Int ⊕ X)} (f:Nat→α→Bool) {d e:X} (hl:xs.length≤9223372036854775807) (hG : ∀ (i:Nat) (hi:i<xs.length),G i=some (if f i xs[i]=true then .inl (w64 ((i:Int)+1)) else .inr e)) :
  bQ (fun s=>(if s<(xs.length:Int) then G s else some (.inr d))) 0=some (if aLy xs f=true then d else e):=by
 refine aNx (n:=xs.length) (g:=fun i=>if hi:i<xs.length then f i xs[i] else true) (fun i hi => ?_) (by simp) hl
 have hi':(i:Int)<xs.length:=by omega
 have e1:w64 ((i:Int)+1)=i+1:=aQ (by omega) (by omega)
 simp only [if_pos hi',hG i hi,hi,dite_true,e1]
theorem bB6 {α X:Type} {xs:List α} {G:Int→Option (Int ⊕ X)} (k:Nat) (f:Nat→α→Bool) {d e:X} (hk:k≤xs.length) (hl:xs.length≤9223372036854775807) (hG : ∀ (i:Nat) (hi:i<xs.length),i<k→G i=some (if f i xs[i]=true then .inl (w64 ((i:Int)+1)) else .inr e)) :
  bQ (fun s=>(if s<(k:Int) then G s else some (.inr d))) 0=some (if aLy (xs.take k) f=true then d else e):=by
 have hlen:(xs.take k).length=k:=by rw [List.length_take];omega
 have:=wH (xs:=xs.take k) (G:=G) f (d:=d) (e:=e) (by omega) (fun i hi=>by
  rw [List.getElem_take];exact hG i (by omega) (by omega))
 rwa [hlen] at this
def aM9 {α:Type} (xs:List α) (p:α→Bool):Int:=match xs.findIdx? p with
 | some i=>i
 | none => -1
theorem aVr {α:Type} {xs:List α} {G:Int→Option (Int ⊕ (Unit ⊕ Int))} (p:α→Bool) (hl:xs.length≤9223372036854775807) (hG : ∀ (i:Nat) (hi:i<xs.length),G i=(if p xs[i]=true then some (.inr (.inr (i:Int))) else some (.inl (w64 ((i:Int)+1))))) :
  ((bQ (fun s=>(if s<(xs.length:Int) then G s else some (.inr (.inl ())))) 0:Option (Unit ⊕ Int)).bind fun x=>orE x fun v=>some (-1))=some (aM9 xs p):=by
 obtain ⟨x,hx,h⟩:=aSn (X:=Unit ⊕ Int) (n:=xs.length) (step:=fun s=>(if s<(xs.length:Int) then G s else some (.inr (.inl ())))) (g:=fun i=>if hi:i<xs.length then !p xs[i] else true) (d := .inl ()) (e:=fun i => .inr (i:Int)) (fun i hi=>by
  have hi':(i:Int)<xs.length:=by omega
  have e1:w64 ((i:Int)+1)=i+1:=aQ (by omega) (by omega)
  simp only [if_pos hi',hG i hi,hi,dite_true,e1]
  cases p xs[i] <;> rfl) (by simp) hl
 rw [hx]
 unfold aM9
 rcases h with ⟨h,rfl⟩ | ⟨i,hi,hg,hj,rfl⟩
 ·have:xs.findIdx? p=none:=by
   rw [List.findIdx?_eq_none_iff]
   intro v hv
   obtain ⟨i,hi,rfl⟩:=List.getElem_of_mem hv
   have:=h i hi
   simpa [hi] using this
  rw [this];rfl
 ·have:xs.findIdx? p=some i:=by
   rw [List.findIdx?_eq_some_iff_getElem]
   refine ⟨hi,by simpa [hi] using hg,fun j hji => ?_⟩
   have:=hj j hji
   have hjl:j<xs.length:=by omega
   simpa [hjl] using this
  rw [this];rfl
theorem aIu {α:Type} {xs:List α} {p:α→Bool}:decide (0≤aM9 xs p)=xs.any p:=by
 unfold aM9
 cases h:xs.findIdx? p with
 | none =>
  rw [List.findIdx?_eq_none_iff] at h
  have e:xs.any p=false:=by
   rw [← Bool.not_eq_true,List.any_eq_true]
   rintro ⟨v,hv,hp⟩
   rw [h v hv] at hp;cases hp
  rw [e];rfl
 | some i =>
  rw [List.findIdx?_eq_some_iff_getElem] at h
  obtain ⟨hi,hp,_⟩:=h
  rw [List.any_eq_true.2 ⟨_,List.getElem_mem hi,hp⟩]
  exact decide_eq_true (by show (0:Int)≤(i:Int);omega)
theorem aQy {α:Type} {xs:List α} {p:α→Bool} {i:Nat} (hi:i<xs.length) (hp:p xs[i]=true):decide (aM9 xs p≠(i:Int))=(xs.take i).any p:=by
 unfold aM9
 cases h:xs.findIdx? p with
 | none =>
  rw [List.findIdx?_eq_none_iff] at h
  rw [h _ (List.getElem_mem hi)] at hp;cases hp
 | some j =>
  rw [List.findIdx?_eq_some_iff_getElem] at h
  obtain ⟨hj,hpj,hmin⟩:=h
  by_cases e:j=i
  ·subst e
   have e2:(xs.take j).any p=false:=by
    rw [← Bool.not_eq_true,List.any_eq_true]
    rintro ⟨v,hv,hq⟩
    obtain ⟨k,hk,rfl⟩:=List.getElem_of_mem hv
    rw [List.length_take] at hk
    rw [List.getElem_take] at hq
    exact hmin k (by omega) hq
   rw [e2]
   exact decide_eq_false (by simp)
  ·have hlt:j<i:=by
    rcases Nat.lt_trichotomy j i with h | h | h
    ·exact h
    ·exact absurd h e
    ·exact absurd hp (hmin i h)
   have e2:(xs.take i).any p=true:=List.any_eq_true.2 ⟨xs[j],by
    rw [List.mem_iff_getElem]
    exact ⟨j,by rw [List.length_take];omega,by rw [List.getElem_take]⟩,hpj⟩
   rw [e2]
   exact decide_eq_true (by show (j:Int)≠(i:Int);omega)
theorem aZ8 {α:Type} {xs:List α} {i:Nat}:aFu xs 0 (i:Int)=xs.take i:=by simp [aFu]
theorem aN1 {α:Type} {xs:List α} {i:Nat} (h:i≤xs.length):0≤(0:Int)∧(0:Int)≤(i:Int)∧(i:Int)≤(xs.length:Int):=by omega
def aSq {α σ X:Type} (body:Nat→α→σ→Option (σ ⊕ X)):List α→Nat→σ→Option (σ ⊕ X)
 | [],_,s=>some (.inl s)
 | x :: xs,i,s=>(body i x s).bind fun r=>match r with
  | .inl s'=>aSq body xs (i+1) s'
  | .inr y=>some (.inr y)
theorem qU {S X:Type} (step:S→Option (S ⊕ X)) (n:Nat) (s:S):tY step (n+1) s=(step s).bind fun r=>match r with
  | .inl s'=>tY step n s'
  | .inr y=>some y:=by
 cases h:step s with
 | none=>simp [tY,h]
 | some r=>cases r <;> simp [tY,h]
theorem aAu {α S σ X:Type} {xs:List α} {step:S→Option (S ⊕ X)} (mk:Int→σ→S) (body:Nat→α→σ→Option (σ ⊕ X)) (fin:σ→X) (hl:xs.length≤9223372036854775807)
  (hS : ∀ (i:Nat) (hi:i<xs.length) s,step (mk i s)=(body i xs[i] s).map (Sum.map (mk ((i:Int)+1)) id)) (hE : ∀ s,step (mk xs.length s)=some (.inr (fin s))) (s0:σ) :
  bQ step (mk 0 s0)=(aSq body xs 0 s0).map (Sum.elim fin id):=by
 have key : ∀ (k:Nat) (ys:List α) (n:Nat) s,ys.length+k=xs.length→ys=xs.drop k→ys.length<n→tY step n (mk (k:Int) s)=(aSq body ys k s).map (Sum.elim fin id):=by
  intro k ys
  induction ys generalizing k with
  | nil =>
   intro n s h1 h2 h3
   obtain ⟨n,rfl⟩ : ∃ m,n=m+1:=⟨n-1,by simp at h3;omega⟩
   have:k=xs.length:=by simpa using h1
   subst this
   rw [qU,hE];rfl
  | cons y ys ih =>
   intro n s h1 h2 h3
   obtain ⟨n,rfl⟩ : ∃ m,n=m+1:=⟨n-1,by simp at h3;omega⟩
   have hk:k<xs.length:=by simp at h1;omega
   rw [List.drop_eq_getElem_cons hk] at h2
   injection h2 with h2 h4
   rw [qU,hS k hk, ← h2]
   show _=((body k y s).bind _).map _
   cases body k y s with
   | none=>rfl
   | some r =>
    cases r with
    | inr z=>rfl
    | inl s'=>exact ih (k+1) n s' (by simp at h1;omega) h4 (by simp at h3;omega)
 exact key 0 xs aDp s0 (by simp) (by simp) (by unfold aDp;omega)
theorem aAv {α S σ X:Type} {xs:List α} {step:S→Option (S ⊕ X)} (mk:Int→σ→S) (body:Nat→α→σ→Option (σ ⊕ X)) (fin:σ→X) (I:σ→Prop) (hl:xs.length≤9223372036854775807)
  (hS : ∀ (i:Nat) (hi:i<xs.length) s,I s→step (mk i s)=(body i xs[i] s).map (Sum.map (mk ((i:Int)+1)) id)) (hI : ∀ (i:Nat) (hi:i<xs.length) s s',I s→body i xs[i] s=some (.inl s')→I s') (hE : ∀ s,I s→step (mk xs.length s)=some (.inr (fin s))) (s0:σ) (h0:I s0) :
  bQ step (mk 0 s0)=(aSq body xs 0 s0).map (Sum.elim fin id):=by
 have key : ∀ (k:Nat) (ys:List α) (n:Nat) s,I s→ys.length+k=xs.length→ys=xs.drop k→ys.length<n→tY step n (mk (k:Int) s)=(aSq body ys k s).map (Sum.elim fin id):=by
  intro k ys
  induction ys generalizing k with
  | nil =>
   intro n s hs h1 h2 h3
   obtain ⟨n,rfl⟩ : ∃ m,n=m+1:=⟨n-1,by simp at h3;omega⟩
   have:k=xs.length:=by simpa using h1
   subst this
   rw [qU,hE s hs];rfl
  | cons y ys ih =>
   intro n s hs h1 h2 h3
   obtain ⟨n,rfl⟩ : ∃ m,n=m+1:=⟨n-1,by simp at h3;omega⟩
   have hk:k<xs.length:=by simp at h1;omega
   rw [List.drop_eq_getElem_cons hk] at h2
   injection h2 with h2 h4
   rw [qU,hS k hk s hs, ← h2]
   show _=((body k y s).bind _).map _
   cases hb:body k y s with
   | none=>rfl
   | some r =>
    cases r with
    | inr z=>rfl
    | inl s'=>exact ih (k+1) n s' (hI k hk s s' hs (by rw [← h2];exact hb)) (by simp at h1;omega) h4 (by simp at h3;omega)
 exact key 0 xs aDp s0 h0 (by simp) (by simp) (by unfold aDp;omega)
theorem rD {α σ X:Type} {body:Nat→α→σ→Option (σ ⊕ X)} (f:σ→α→σ) (h : ∀ i x s,body i x s=some (.inl (f s x))) : ∀ (xs:List α) (k:Nat) (s:σ),aSq body xs k s=some (.inl (xs.foldl f s))
 | [],k,s=>rfl
 | x :: xs,k,s=>by
  show (body k x s).bind _=_
  rw [h]
  exact rD f h xs (k+1) (f s x)
theorem itA {a b:Bool}:(if a=true then some b else some false)=some (a && b):=by cases a <;> rfl
theorem itO {a b:Bool}:(if a=true then some true else some b)=some (a || b):=by cases a <;> rfl
theorem itF {a b:Bool}:(if a=true then some false else some b)=some (!a && b):=by cases a <;> rfl
theorem bDl {p:Prop} [Decidable p] {b:Bool}:(if p then some b else some false)=some (decide p && b):=by by_cases h:p <;> simp [h]
theorem bGb {p:Prop} [Decidable p] {b:Bool}:(if p then some true else some b)=some (decide p || b):=by by_cases h:p <;> simp [h]
theorem aPg {a b:Bool} {k:Option Bool} (h:k=some b):(orE (if a=true then (.inl ():Unit ⊕ Bool) else .inr false) fun _=>k)=some (a && b):=by cases a <;> simp [orE,h]
theorem aSg {S σ X:Type} {step:S→Option (S ⊕ X)} (mk:Int→σ→S) (a:Int) (n:Nat) (f:Nat→σ→σ) (fin:σ→X) (I:Nat→σ→Prop) (hn:n≤9223372036854775807)
  (hS : ∀ (i:Nat) s,i<n→I i s→step (mk (a+i) s)=some (.inl (mk (a+((i+1:Nat):Int)) (f i s)))) (hI : ∀ (i:Nat) s,i<n→I i s→I (i+1) (f i s)) (hE : ∀ s,I n s→step (mk (a+n) s)=some (.inr (fin s))) (s0:σ) (h0:I 0 s0) :
  bQ step (mk a s0)=some (fin ((List.range n).foldl (fun s i=>f i s) s0)):=by
 have key : ∀ (j i m:Nat) s,i+j=n→I i s→j<m→tY step m (mk (a+i) s)=some (fin ((List.range' i j).foldl (fun s i=>f i s) s)):=by
  intro j
  induction j with
  | zero =>
   intro i m s h1 h2 h3
   obtain ⟨m,rfl⟩ : ∃ q,m=q+1:=⟨m-1,by omega⟩
   have:i=n:=by omega
   subst this
   rw [qU,hE s h2];rfl
  | succ j ih =>
   intro i m s h1 h2 h3
   obtain ⟨m,rfl⟩ : ∃ q,m=q+1:=⟨m-1,by omega⟩
   rw [qU,hS i s (by omega) h2,Option.bind_some]
   exact ih (i+1) m (f i s) (by omega) (hI i s (by omega) h2) (by omega)
 have:=key n 0 aDp s0 (by omega) h0 (by unfold aDp;omega)
 rw [List.range_eq_range']
 show tY step aDp (mk a s0)=_
 simpa using this
end Go.Proofs.YtbliejnpjpnahaaGreatDoor
namespace Go.Proofs.YtbliejnpjpnahaaGreatDoor
set_option linter.unusedVariables false
def wD (t:Int):Bool:=btw t 6 240
theorem aCq (t:Int):jH t=some (wD t):=by unfold jH;rw [cN];rfl
theorem aA4 (t:Int):mV t=some (wD t):=by unfold mV;rw [eY];rfl
def aL1 (a:cD):Bool:=a.Wheels.all wD && (tZ a.Name && decide (a.Wheels.length≤5))
theorem aE3 {a:cD} (hl:a.Wheels.length≤9223372036854775807):lT a=some (aL1 a):=by
 unfold lT aL1
 rw [wH (fun _ v=>wD v) hl fun i hi=>by rw [eL hi,Option.bind_some,aCq,Option.bind_some];cases wD a.Wheels[i] <;> rfl,lW,Option.bind_some,zB]
 cases a.Wheels.all wD <;> cases tZ a.Name <;> simp [orE];omega
theorem aI4 {a:cD} (hl:a.Wheels.length≤9223372036854775807):pW a=some (aL1 a):=by
 unfold pW aL1
 rw [wH (fun _ v=>wD v) hl fun i hi=>by rw [eL hi,Option.bind_some,aA4,Option.bind_some];cases wD a.Wheels[i] <;> rfl,lW,Option.bind_some,vO]
 cases a.Wheels.all wD <;> cases tZ a.Name <;> simp [orE];omega
def whB (w:aP) (a k:Int):Bool:=decide (0≤a∧a<w.Arbors.length) && match w.Arbors[a.toNat]? with
 | some b=>decide (0≤k∧k<b.Wheels.length)
 | none=>false
theorem uM {α:Type} {l:List α} {a:Int} (hl:l.length≤9223372036854775807):btw a 0 (w64 ((l.length:Int)-1))=decide (0≤a∧a<l.length):=by
 rw [aQ (by omega) (by omega)]
 unfold btw
 rw [decide_eq_decide];omega
theorem aHe {w:aP} {a k:Int} (hl:w.Arbors.length≤9223372036854775807) (hw : ∀ b ∈ w.Arbors,b.Wheels.length≤9223372036854775807) {f:cD→Option Bool} (hf : ∀ b ∈ w.Arbors,f b=some (decide (0≤k∧k<b.Wheels.length))) :
  (if decide (0≤a∧a<w.Arbors.length)=true then ((atI w.Arbors a).bind f) else some false)=some (whB w a k):=by
 unfold whB
 by_cases h:0≤a∧a<w.Arbors.length
 ·obtain ⟨e,he,hm,hg⟩:=qM h.1 h.2
  rw [decide_eq_true h,if_pos rfl,he,Option.bind_some,hf e hm,hg];rfl
 ·rw [decide_eq_false h];rfl
theorem aIc {w:aP} (hl:w.Arbors.length≤9223372036854775807) (hw : ∀ b ∈ w.Arbors,b.Wheels.length≤9223372036854775807) (a k:Int):mO w a k=some (whB w a k):=by
 unfold mO
 rw [cN,Option.bind_some,uM hl]
 exact aHe hl hw fun b hb=>by rw [cN,Option.bind_some,uM (hw b hb)]
theorem aI8 {w:aP} (hl:w.Arbors.length≤9223372036854775807) (hw : ∀ b ∈ w.Arbors,b.Wheels.length≤9223372036854775807) (a k:Int):mW w a k=some (whB w a k):=by
 unfold mW
 rw [eY,Option.bind_some,uM hl]
 exact aHe hl hw fun b hb=>by rw [eY,Option.bind_some,uM (hw b hb)]
def sO (w:aP) (m:bM):Bool:=decide (m.A≠m.B) && (whB w m.A m.WheelA && whB w m.B m.WheelB)
theorem aQj {w:aP} (hl:w.Arbors.length≤9223372036854775807) (hw : ∀ b ∈ w.Arbors,b.Wheels.length≤9223372036854775807) (m:bM):xD w m=some (sO w m):=by
 unfold xD sO
 simp only [aIc hl hw,Option.bind_some]
 by_cases h:m.A=m.B <;> cases whB w m.A m.WheelA <;> simp [h]
theorem aK8 {w:aP} (hl:w.Arbors.length≤9223372036854775807) (hw : ∀ b ∈ w.Arbors,b.Wheels.length≤9223372036854775807) (m:bM):sD w m=some (sO w m):=by
 unfold sD sO
 simp only [aI8 hl hw,Option.bind_some]
 by_cases h:m.A=m.B <;> cases whB w m.A m.WheelA <;> simp [h]
def sH (m n:bM):Bool:=decide (m=n∨m=⟨n.B,n.WheelB,n.A,n.WheelA⟩)
theorem aRf (m n:bM):sH m n=sH n m:=by
 unfold sH
 rw [decide_eq_decide]
 obtain ⟨a,b,c,d⟩:=m
 obtain ⟨a',b',c',d'⟩:=n
 simp only [bM.mk.injEq]
 omega
theorem aIe (m n:bM):pP m n=some (sH m n):=by
 unfold pP sH
 by_cases h:m=n
 ·simp [h]
 ·rw [if_neg h];simp [h]
theorem aI5 (m n:bM):pX m n=some (sH m n):=by
 unfold pX sH
 by_cases h:m=n
 ·simp [h]
 ·rw [if_neg h]
  obtain ⟨a,b,c,d⟩:=m
  obtain ⟨a',b',c',d'⟩:=n
  have e:decide ((⟨a,b,c,d⟩:bM)=⟨a',b',c',d'⟩∨(⟨a,b,c,d⟩:bM)=⟨c',d',a',b'⟩)=decide (a=c'∧b=d'∧c=a'∧d=b'):=by
   rw [decide_eq_decide]
   simp only [h,false_or,bM.mk.injEq]
  dsimp only
  rw [e]
  by_cases h1:a=c' <;> by_cases h2:b=d' <;> by_cases h3:c=a' <;> simp [h1,h2,h3]
def aBh (w:aP):Bool:=decide (w.Arbors.length≤16) && (decide (w.Meshes.length≤24) && (aLy w.Arbors (fun i a=>aL1 a && !((w.Arbors.take i).any fun b=>decide (b.Name=a.Name))) && aLy w.Meshes (fun i m=>sO w m && !((w.Meshes.take i).any fun n=>sH m n))))
theorem aGd {xs:List bM} {m:bM} (hl:xs.length≤9223372036854775807):bF xs m=some (xs.any fun n=>sH m n):=by
 unfold bF cA
 rw [aVr (fun n=>sH m n) hl fun i hi=>by rw [eL hi,Option.bind_some,lX,aIe,Option.bind_some,Option.bind_some],Option.bind_some,aIu]
theorem wW {w:aP} (hl:w.Arbors.length≤9223372036854775807) (hw : ∀ b ∈ w.Arbors,b.Wheels.length≤9223372036854775807) (hm:w.Meshes.length≤9223372036854775807):jS w=some (aBh w):=by
 unfold jS aBh
 by_cases h1:w.Arbors.length≤16
 ·by_cases h2:w.Meshes.length≤24
  ·rw [if_neg (by omega),Option.bind_some,decide_eq_false (by omega),if_neg (by decide),decide_eq_true h1,decide_eq_true h2,
    wH (e := .inr false) (fun i a=>aL1 a && !((w.Arbors.take i).any fun b=>decide (b.Name=a.Name))) hl fun i hi => ?_,Option.bind_some,
    wH (e := .inr false) (fun i m=>sO w m && !((w.Meshes.take i).any fun n=>sH m n)) hm fun i hi => ?_,Option.bind_some]
   ·cases aLy w.Arbors (fun i a=>aL1 a && !((w.Arbors.take i).any fun b=>decide (b.Name=a.Name))) <;> cases aLy w.Meshes (fun i m=>sO w m && !((w.Meshes.take i).any fun n=>sH m n)) <;> rfl
   ·rw [eL hi,Option.bind_some,aQj hl hw,Option.bind_some,eA (aN1 (by omega)),aZ8,aGd (by rw [List.length_take];omega)]
    cases sO w w.Meshes[i] <;> cases ((w.Meshes.take i).any fun n=>sH w.Meshes[i] n) <;> rfl
   ·rw [eL hi,Option.bind_some,aE3 (hw _ (List.getElem_mem hi)),Option.bind_some,eA (aN1 (by omega)),aZ8,
     wH (fun _ b => !decide (b.Name=w.Arbors[i].Name)) (by rw [List.length_take];omega) fun j hj=>by
      rw [eL hj,Option.bind_some]
      by_cases q:w.Arbors[i].Name=(w.Arbors.take i)[j].Name
      ·rw [if_pos q,decide_eq_true q.symm];rfl
      ·rw [if_neg q,decide_eq_false (Ne.symm q)];rfl,lW]
    have e:((w.Arbors.take i).all fun b => !decide (b.Name=w.Arbors[i].Name)) = !((w.Arbors.take i).any fun b=>decide (b.Name=w.Arbors[i].Name)):=by rw [Bool.eq_iff_iff];simp
    rw [e]
    cases aL1 w.Arbors[i] <;> cases ((w.Arbors.take i).any fun b=>decide (b.Name=w.Arbors[i].Name)) <;> rfl
  ·rw [if_neg (by omega),Option.bind_some,decide_eq_true (by omega),if_pos rfl,decide_eq_false h2,decide_eq_true h1];rfl
 ·rw [if_pos (by omega),Option.bind_some,if_pos rfl,decide_eq_false h1];rfl
theorem aK5 {w:aP} (hl:w.Arbors.length≤9223372036854775807) (s:ByteArray):sB w s=some (aM9 w.Arbors fun a=>decide (a.Name=s)):=by
 unfold sB
 rw [aVr (fun a=>decide (a.Name=s)) hl fun i hi=>by rw [eL hi,Option.bind_some];by_cases q:w.Arbors[i].Name=s <;> simp [q]]
theorem aI6 {w:aP} (hm:w.Meshes.length≤9223372036854775807) (m:bM) {k:Nat} (hk:k≤w.Meshes.length):pY w m (k:Int)=some ((w.Meshes.take k).any fun n=>sH m n):=by
 unfold pY
 rw [bB6 k (fun _ n => !sH m n) hk hm fun i hi _=>by rw [eL hi,Option.bind_some,aI5,Option.bind_some,aRf];cases sH m w.Meshes[i] <;> rfl,lW,Option.bind_some]
 have e:((w.Meshes.take k).all fun n => !sH m n) = !((w.Meshes.take k).any fun n=>sH m n):=by rw [Bool.eq_iff_iff];simp
 rw [e]
 cases ((w.Meshes.take k).any fun n=>sH m n) <;> rfl
theorem aQ9 {w:aP} (hl:w.Arbors.length≤9223372036854775807) (hw : ∀ b ∈ w.Arbors,b.Wheels.length≤9223372036854775807) (hm:w.Meshes.length≤9223372036854775807):xM w=some (aBh w):=by
 unfold xM aBh
 rw [wH (e := .inr false) (fun i a=>aL1 a && !((w.Arbors.take i).any fun b=>decide (b.Name=a.Name))) hl fun i hi => ?_,Option.bind_some,
   wH (e := .inr false) (fun i m=>sO w m && !((w.Meshes.take i).any fun n=>sH m n)) hm fun i hi => ?_,Option.bind_some]
 ·have e1:decide ((w.Meshes.length:Int)≤24)=decide (w.Meshes.length≤24):=by rw [decide_eq_decide];omega
  have e2:(if (w.Arbors.length:Int)≤16 then some (decide ((w.Meshes.length:Int)≤24)) else some false)=some (decide (w.Arbors.length≤16) && decide (w.Meshes.length≤24)):=by
   rw [e1]
   by_cases h1:w.Arbors.length≤16
   ·rw [if_pos (by omega),decide_eq_true h1,Bool.true_and]
   ·rw [if_neg (by omega),decide_eq_false h1];rfl
  rw [e2]
  cases aLy w.Arbors (fun i a=>aL1 a && !((w.Arbors.take i).any fun b=>decide (b.Name=a.Name))) <;> cases aLy w.Meshes (fun i m=>sO w m && !((w.Meshes.take i).any fun n=>sH m n)) <;> cases decide (w.Arbors.length≤16) <;> cases decide (w.Meshes.length≤24) <;> rfl
 ·simp only [eL hi,Option.bind_some,aK8 hl hw,aI6 hm _ (Nat.le_of_lt hi)]
  cases sO w w.Meshes[i] <;> cases ((w.Meshes.take i).any fun n=>sH w.Meshes[i] n) <;> rfl
 ·simp only [eL hi,Option.bind_some,aI4 (hw _ (List.getElem_mem hi)),aK5 hl,aQy (p:=fun a=>decide (a.Name=w.Arbors[i].Name)) hi (decide_eq_true rfl)]
  cases aL1 w.Arbors[i] <;> cases ((w.Arbors.take i).any fun b=>decide (b.Name=w.Arbors[i].Name)) <;> rfl
end Go.Proofs.YtbliejnpjpnahaaGreatDoor
namespace Go.Proofs.YtbliejnpjpnahaaGreatDoor
set_option linter.unusedVariables false
def Ok {α:Type} (m:Option α) (P:α→Prop):Prop := ∃ x,m=some x∧P x
theorem aI {α:Type} {x:α} {P:α→Prop} (h:P x):Ok (some x) P:=⟨x,rfl,h⟩
theorem aO {α β:Type} {m:Option α} {f:α→Option β} {P:α→Prop} {Q:β→Prop} (h:Ok m P) (k : ∀ x,P x→Ok (f x) Q):Ok (m.bind f) Q:=by
 obtain ⟨x,rfl,hx⟩:=h
 exact k x hx
theorem cU {α:Type} {p:Prop} [Decidable p] {a b:Option α} {P:α→Prop} (h:p→Ok a P) (k : ¬ p→Ok b P):Ok (if p then a else b) P:=by
 split
 ·exact h ‹_›
 ·exact k ‹_›
theorem gX {α:Type} {p:Prop} [Decidable p] {a:Option α} {P:α→Prop} (hp:p) (h:Ok a P):Ok (chk p a) P:=by rw [eA hp];exact h
theorem aO6 {α:Type} {xs:List α} {i:Int} (h0:0≤i) (h1:i<xs.length):Ok (atI xs i) (fun e=>e ∈ xs∧xs[i.toNat]? = some e):=by
 obtain ⟨e,h,hm,hg⟩:=qM h0 h1
 exact ⟨e,h,hm,hg⟩
theorem vM {S X:Type} {step:S→Option (S ⊕ X)} {P:X→Prop} (I:S→Prop) (m:S→Nat) (hs : ∀ s,I s→Ok (step s) (fun y=>(∃ s',y = .inl s'∧I s'∧m s'<m s) ∨ ∃ x,y = .inr x∧P x)) (s0:S) (h0:I s0) (hm:m s0<1180591620717411303424):Ok (bQ step s0) P :=
 sW I m P (fun s hI=>by
  obtain ⟨y,e,⟨s',rfl,h1,h2⟩ | ⟨x,rfl,h1⟩⟩:=hs s hI
  ·exact .inl ⟨s',e,h1,h2⟩
  ·exact .inr ⟨x,e,h1⟩) s0 h0 hm
end Go.Proofs.YtbliejnpjpnahaaGreatDoor
namespace Go.Proofs.YtbliejnpjpnahaaGreatDoor
set_option linter.unusedVariables false
def aB7 (n:Int) (s:eM):Prop:=0≤s.at_∧s.at_≤n∧s.code.length≤1000000 ∧ ∀ b ∈ s.code,0≤b∧b≤255
theorem aXe (x:Int):0≤bAm .u64 x 255∧bAm .u64 x 255≤255:=by
 unfold bAm
 have h:(BitVec.ofInt IntKind.u64.bits x &&& BitVec.ofInt IntKind.u64.bits 255).toNat≤255:=by
  rw [BitVec.toNat_and]
  have:(BitVec.ofInt IntKind.u64.bits 255).toNat=255:=by decide
  rw [this]
  exact Nat.and_le_right
 generalize (BitVec.ofInt IntKind.u64.bits x &&& BitVec.ofInt IntKind.u64.bits 255).toNat=v at h
 have e:IntKind.u64.wrap (v:Int)=v:=by
  unfold IntKind.wrap
  simp [IntKind.bits,IntKind.signed]
  omega
 rw [e];omega
theorem aYy {c:List Int} (h1:c.length≤1000000) (h2 : ∀ b ∈ c,0≤b∧b≤255):Ok (vQ c) (aB7 0):=aI ⟨by simp,by simp,h1,h2⟩
theorem aTi {n:Int} {s:eM} (h:aB7 n s) (hn:n≤1000000000000):Ok (iW s) (fun r=>0≤r.1∧r.1≤255∧aB7 (n+1) r.2):=by
 obtain ⟨h0,h1,h2,h3⟩:=h
 unfold iW
 refine aO (P:=fun v=>0≤v∧v≤255) ?_ fun v hv => ?_
 ·refine cU (fun hc => ?_) fun _=>aI (by omega)
  refine aO (aO6 h0 hc) fun e he=>aI ?_
  have:=h3 e he.1
  rw [aQ (by omega) (by omega)];exact this
 ·have e1:w64 (s.at_+1)=s.at_+1:=aQ (by omega) (by omega)
  rw [e1]
  refine cU (fun _=>aI ⟨hv.1,hv.2,by dsimp only;omega,by dsimp only;omega,h2,h3⟩) fun _=>aI ⟨?_,?_,by dsimp only;omega,by dsimp only;omega,h2,h3⟩
  ·have:=aXe (aX7 .u64 (IntKind.u64.wrap ((IntKind.u64.wrap ((IntKind.u64.wrap (s.seed*6364136223846793005))+(IntKind.u64.wrap v)))+1442695040888963407)) 40)
   dsimp only
   rw [aQ (by omega) (by omega)];omega
  ·have:=aXe (aX7 .u64 (IntKind.u64.wrap ((IntKind.u64.wrap ((IntKind.u64.wrap (s.seed*6364136223846793005))+(IntKind.u64.wrap v)))+1442695040888963407)) 40)
   dsimp only
   rw [aQ (by omega) (by omega)];omega
theorem aPm {n m:Int} {s:eM} (h:aB7 n s) (hm:n≤m):aB7 m s:=⟨h.1,by have:=h.2.1;omega,h.2.2⟩
theorem aM8 {n:Int} {s:eM} {k:Int} (h:aB7 n s) (hn:n≤1000000000):Ok (gT s k) (fun r=>0≤r.1∧(r.1<k∨r.1=0)∧r.1≤65535∧aB7 (n+2) r.2):=by
 unfold gT
 refine cU (fun _=>aI ⟨by simp,by simp,by simp,aPm h (by omega)⟩) fun hk => ?_
 refine aO (aTi h (by omega)) fun v hv => ?_
 refine aO (P:=fun r=>0≤r.1∧r.1≤65535∧aB7 (n+2) r.2) ?_ fun r hr => ?_
 ·refine cU (fun _ => ?_) fun _=>aI ⟨hv.1,by have:=hv.2.1;dsimp only;omega,aPm hv.2.2 (by omega)⟩
  refine aO (aTi hv.2.2 (by omega)) fun u hu=>aI ?_
  have a:=hv.1;have b:=hv.2.1;have c:=hu.1;have d:=hu.2.1
  dsimp only
  rw [aQ (x:=v.1*256) (by omega) (by omega),aQ (by omega) (by omega)]
  exact ⟨by omega,by omega,by have:=hu.2.2;rwa [Int.add_assoc] at this⟩
 ·refine gX (by omega) (aI ?_)
  have e:r.1.tmod k=r.1 % k:=Int.tmod_eq_emod_of_nonneg hr.1
  have h1:=Int.emod_nonneg r.1 (show k≠0 by omega)
  have h2:=Int.emod_lt_of_pos r.1 (show 0<k by omega)
  have h3:r.1 % k≤r.1:=by
   have:=Int.mul_nonneg (show 0≤k by omega) (Int.ediv_nonneg hr.1 (show 0≤k by omega))
   rw [Int.emod_def];omega
  dsimp only
  rw [e]
  exact ⟨h1, .inl h2,by have:=hr.2.1;omega,hr.2.2⟩
theorem vV {n:Int} {s:eM} {xs:List ByteArray} (h:aB7 n s) (hn:n≤1000000000) (hx:0<xs.length):Ok (dJ s xs) (fun r=>r.1 ∈ xs∧aB7 (n+2) r.2):=by
 refine aO (aM8 h hn) fun r hr => ?_
 refine aO (aO6 hr.1 ?_) fun e he=>aI ⟨he.1,hr.2.2.2⟩
 rcases hr.2.1 with h1 | h1
 ·exact h1
 ·rw [h1];omega
end Go.Proofs.YtbliejnpjpnahaaGreatDoor
namespace Go.Proofs.YtbliejnpjpnahaaGreatDoor
set_option linter.unusedVariables false
set_option maxRecDepth 100000
def LN0:List ByteArray:=[⟨#[114,117,110,32,56,54,52,48,48]⟩,⟨#[114,117,110,32,51,54,48,48]⟩,⟨#[114,117,110,32,49]⟩,⟨#[114,117,110,32,51,48,48,48,48,48,48]⟩,⟨#[114,117,110,32,45,49]⟩,⟨#[114,117,110,32,120]⟩,⟨#[114,117,110,32,53,48,48,48,48]⟩]
def LN1:List ByteArray:=[⟨#[100,101,115,105,103,110,32,49,56,48,48,48,32,49,53,32,106,117,108,105,97,110,32,52]⟩,⟨#[100,101,115,105,103,110,32,51,54,48,48,32,51,48,32,102,105,120,101,100,32,49]⟩,⟨#[100,101,115,105,103,110,32,51,57,54,49,32,51,48,32,106,117,108,105,97,110,32,49]⟩,⟨#[100,101,115,105,103,110,32,55,50,48,48,32,49,53,32,110,111,110,101,32,49]⟩,⟨#[100,101,115,105,103,110,32,120,32,49,53,32,106,117,108,105,97,110,32,49]⟩,⟨#[100,101,115,105,103,110,32,51,54,48,48,32,51,48,32,101,103,121,112,116,105,97,110,32,48]⟩]
def LN2:List ByteArray:=[⟨#[115,101,116,32,50,49,48,48,45,50,45,50,55,32,49]⟩,⟨#[115,101,116,32,50,48,50,52,45,50,45,50,56,32,55]⟩,⟨#[115,101,116,32,50,48,50,51,45,50,45,50,57,32,49]⟩,⟨#[115,101,116,32,50,48,50,52,45,50,45,50,56,32,56]⟩,⟨#[115,101,116,32,120,32,49]⟩,⟨#[115,101,116,32,49,45,49,45,49,32,49]⟩]
def LN3:List ByteArray:=[⟨#[112,117,115,104,32,49]⟩,⟨#[112,117,115,104,32,50]⟩,⟨#[112,117,115,104,32,51]⟩,⟨#[112,117,115,104,32,52]⟩,⟨#[99,111,114,114,101,99,116]⟩,⟨#[99,111,114,114,101,99,116]⟩,⟨#[114,105,103,104,116]⟩]
def LN4:List ByteArray:=[⟨#[115,104,111,119]⟩,⟨#[104,97,110,100,115]⟩,⟨#[112,97,114,116,115]⟩,⟨#[115,112,101,101,100,115]⟩,⟨#[114,105,103,104,116]⟩]
def LN5:List ByteArray:=[⟨#[102,97,117,108,116,115,32,49,56,57,48,32,49,57,49,48]⟩,⟨#[102,97,117,108,116,115,32,48,32,51]⟩,⟨#[102,97,117,108,116,115,32,53,32,49]⟩,⟨#[102,97,117,108,116,115,32,48,32,57,57,57,57]⟩,⟨#[119,114,111,110,103,32,51,48,48,48]⟩,⟨#[119,114,111,110,103,32,52,48,48,48,48]⟩,⟨#[119,114,111,110,103,32,45,49]⟩]
def LN6:List ByteArray:=[⟨#[110,101,97,114,32,51,54,53,47,50,52,32,53]⟩,⟨#[110,101,97,114,32,45,49,47,51,32,48]⟩,⟨#[116,101,114,109,115,32,51,54,53,47,50,52]⟩,⟨#[116,101,114,109,115,32,45,53,47,51]⟩,⟨#[112,97,116,104,32,53,47,50]⟩,⟨#[112,97,116,104,32,48]⟩,⟨#[112,97,116,104,32,51,48,48]⟩,⟨#[116,101,114,109,115,32,50,47,52]⟩,⟨#[110,101,97,114,32,120,32,49]⟩]
def LN7:List ByteArray:=[⟨#[116,114,97,105,110,32,49,50,32,51,48,32,51,54,32,56,32,49,50,32,50]⟩,⟨#[116,114,97,105,110,32,50,57,47,49,50,32,50,48,32,52,48,32,56,32,49,50,32,49]⟩,⟨#[116,114,97,105,110,32,49,32,53,32,54,32,55,32,56,32,49]⟩,⟨#[116,114,97,105,110,32,48,32,51,48,32,51,54,32,56,32,49,50,32,49]⟩,⟨#[116,114,97,105,110,32,120,32,49,32,50,32,51,32,52,32,53]⟩]
def LN8:List ByteArray:=[⟨#[]⟩,⟨#[102,111,111]⟩,⟨#[115,104,111,119,32,49]⟩,⟨#[114,117,110]⟩,⟨#[116,114,97,105,110,32,49,50,32,51,48,32,51,54,32,56,32,49,50]⟩,⟨#[115,101,116,32,50,48,48,48,45,49,45,49]⟩,⟨#[110,101,97,114,32,49]⟩]
def LN:List ByteArray:=LN0++(LN1++(LN2++(LN3++(LN4++(LN5++(LN6++(LN7++LN8)))))))
theorem aY8 {n:Int} {s:eM} (h:aB7 n s) (hn:n≤1000):Ok (nR s) (fun r=>r.1 ∈ LN∧aB7 (n+4) r.2):=by
 unfold nR
 have ap : ∀ {a b:List ByteArray} {x:ByteArray},x ∈ b→x ∈ a++b:=fun h=>List.mem_append.2 (.inr h)
 have al : ∀ {a b:List ByteArray} {x:ByteArray},x ∈ a→x ∈ a++b:=fun h=>List.mem_append.2 (.inl h)
 refine aO (aM8 h (by omega)) fun v hv => ?_
 have hs:=hv.2.2.2
 have e:n+2+2=n+4:=by omega
 refine cU (fun _=>aO (vV (xs:=LN0) hs (by omega) (by decide)) fun r hr=>aI ⟨al hr.1,e ▸ hr.2⟩) fun _ => ?_
 refine cU (fun _=>aO (vV (xs:=LN1) hs (by omega) (by decide)) fun r hr=>aI ⟨ap (al hr.1),e ▸ hr.2⟩) fun _ => ?_
 refine cU (fun _=>aO (vV (xs:=LN2) hs (by omega) (by decide)) fun r hr=>aI ⟨ap (ap (al hr.1)),e ▸ hr.2⟩) fun _ => ?_
 refine cU (fun _=>aO (vV (xs:=LN3) hs (by omega) (by decide)) fun r hr=>aI ⟨ap (ap (ap (al hr.1))),e ▸ hr.2⟩) fun _ => ?_
 refine cU (fun _=>aO (vV (xs:=LN4) hs (by omega) (by decide)) fun r hr=>aI ⟨ap (ap (ap (ap (al hr.1)))),e ▸ hr.2⟩) fun _ => ?_
 refine cU (fun _=>aO (vV (xs:=LN5) hs (by omega) (by decide)) fun r hr=>aI ⟨ap (ap (ap (ap (ap (al hr.1))))),e ▸ hr.2⟩) fun _ => ?_
 refine cU (fun _=>aO (vV (xs:=LN6) hs (by omega) (by decide)) fun r hr=>aI ⟨ap (ap (ap (ap (ap (ap (al hr.1)))))),e ▸ hr.2⟩) fun _ => ?_
 refine cU (fun _=>aO (vV (xs:=LN7) hs (by omega) (by decide)) fun r hr=>aI ⟨ap (ap (ap (ap (ap (ap (ap (al hr.1))))))),e ▸ hr.2⟩) fun _ => ?_
 exact aO (vV (xs:=LN8) hs (by omega) (by decide)) fun r hr=>aI ⟨ap (ap (ap (ap (ap (ap (ap (ap (hr.1)))))))),e ▸ hr.2⟩
theorem aV7 {c:List Int} (h1:c.length≤1000000) (h2 : ∀ b ∈ c,0≤b∧b≤255):Ok (rY c) (fun xs=>1≤xs.length∧xs.length≤8 ∧ ∀ l ∈ xs,l ∈ LN):=by
 unfold rY
 refine aO (aYy h1 h2) fun s hs => ?_
 refine aO (aO (aM8 hs (by omega)) fun v hv => ?_) fun x hx=>aI hx
 obtain ⟨v0,v1,_,hv2⟩:=hv
 have vb:v.1≤6:=by rcases v1 with h | h <;> omega
 rw [aQ (by omega) (by omega)]
 refine vM (I:=fun (s:Int × eM × List ByteArray)=>0≤s.1∧s.1≤7∧aB7 (2+4*(1+v.1-s.1)) s.2.1∧(s.2.2.length:Int)=1+v.1-s.1 ∧ ∀ l ∈ s.2.2,l ∈ LN) (m:=fun s=>s.1.toNat) (fun s hI => ?_) _ ⟨by omega,by omega,by simpa using hv2,by simp,by simp⟩ (by dsimp only;omega)
 obtain ⟨i0,i1,i2,i3,i4⟩:=hI
 refine cU (fun hlt => ?_) fun hge=>aI (.inr ⟨_,rfl,by omega,by omega,i4⟩)
 refine aO (aY8 i2 (by omega)) fun r hr=>gX (by simp;omega) (aI (.inl ⟨_,rfl,⟨?_,?_,?_,?_,?_⟩,?_⟩))
 ·rw [aQ (by omega) (by omega)];omega
 ·rw [aQ (by omega) (by omega)];omega
 ·dsimp only
  rw [aQ (by omega) (by omega),show 2+4*(1+v.1-(s.1-1))=2+4*(1+v.1-s.1)+4 by omega]
  exact hr.2
 ·dsimp only
  rw [aQ (by omega) (by omega)]
  simp;omega
 ·intro l hl
  rcases List.mem_append.1 hl with h | h
  ·exact i4 l h
  ·rw [List.mem_singleton.1 h];exact hr.1
 ·dsimp only
  rw [aQ (by omega) (by omega)]
  omega
end Go.Proofs.YtbliejnpjpnahaaGreatDoor
