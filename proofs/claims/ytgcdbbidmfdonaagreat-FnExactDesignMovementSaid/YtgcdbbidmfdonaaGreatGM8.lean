/- Texts of this claim, one behind the other (merged by a program of mine). -/
import Derived.Test.YtgcdbbidmfdonaaGreatGM7
set_option linter.unusedSimpArgs false
set_option linter.unusedVariables false
namespace Go.Proofs.YtgcdbbidmfdonaaGreat
set_option linter.unusedVariables false
set_option maxRecDepth 100000
theorem vV {x B : Int} (h : eF x ≤ B) : -B ≤ x ∧ x ≤ B := by unfold eF at h; omega
theorem aLh {x B : Int} (h0 : -B ≤ x) (h1 : x ≤ B) : eF x ≤ B := by unfold eF; omega
theorem aBa {v : aM} (hv : KnR v) {t u A B T U : Int} (ht : tth t) (hu : tth u) (hA : eF v.Num ≤ A) (hB : v.Den ≤ B) (hT : t ≤ T) (hU : u ≤ U) (hAT : A * T ≤ 1000000000) (hBU : B * U ≤ 1000000000) : (nF v t u).2 = true ∧ KnR (nF v t u).1 ∧ eF (nF v t u).1.Num ≤ A * T ∧ (nF v t u).1.Den ≤ B * U := by
 obtain ⟨t0,t1⟩ := ht
 obtain ⟨u0,u1⟩ := hu
 obtain ⟨s1,s2,s3⟩ := yG t0 t1 u0 u1
 have sl := aJi (n := -t) (d := u) (by omega)
 obtain ⟨d0,d1,n0,n1⟩ := uG s2
 obtain ⟨e0,e1,m0,m1⟩ := uG hv.1
 have an : -A ≤ v.Num ∧ v.Num ≤ A := vV hA
 have st : eF (-t) = t := by unfold eF; omega
 have su : eF u = u := by unfold eF; omega
 rw [st,su] at sl
 have hn := vV sl.1
 have hd := vV sl.2
 have b1 := aFo (a := v.Num) (b := (mkR (-t) u).1.Num) (A := A) (B := T) (by omega) (by omega) (by omega) (by omega)
 have b2 := tO (a := v.Den) (b := (mkR (-t) u).1.Den) (A := B) (B := U) (by omega) hB (by omega) (by omega)
 have hm : (nF v t u).2 = true := uN (by omega) (by omega) (by omega) (by omega) (by omega)
 have hl := aJi (n := v.Num * (mkR (-t) u).1.Num) (d := v.Den * (mkR (-t) u).1.Den) (by omega)
 have hk := vU hv t0 t1 u0 u1 hm
 have q1 := aLh b1.1 b1.2
 have q2 : eF (v.Den * (mkR (-t) u).1.Den) ≤ B * U := aLh (by omega) b2.2
 refine ⟨hm,hk,Int.le_trans hl.1 q1,?_⟩
 exact (vV (Int.le_trans hl.2 q2)).2
theorem yX {v : aM} (hv : KnR v) {t u : Int} (ht : tth t) (hu : tth u) : ((dY (w64 (-t)) u).bind fun x => gX v x.1) = some (yY (nF v t u)) := by
 obtain ⟨t0,t1⟩ := ht
 obtain ⟨u0,u1⟩ := hu
 obtain ⟨h1,h2,h3⟩ := yG t0 t1 u0 u1
 rw [aU (x := -t) (by omega) (by omega),mQ ⟨by omega,by omega⟩ ⟨by omega,by omega⟩,Option.bind_some]
 have e : (aC7 (-t) u).1 = (mkR (-t) u).1 := by unfold aC7 yY; rw [if_neg (by omega),if_pos h1]
 rw [e,aC9 hv.1 h2]; rfl
theorem aIe {t : List bL} (h : fF t) : ∃ v,aMm t v ∧ eF v.Num ≤ 7056 ∧ v.Den ≤ 100 ∧ kN t = some (v,true) ∧ iV t = some (v,0) := by
 obtain ⟨a,b,c,d,rfl,⟨a1,a2,a3⟩,a4,a5,a6⟩ := h
 have ta : tth a := ⟨by omega,by omega⟩
 have tb : tth b := ⟨by omega,by omega⟩
 have tc : tth c := ⟨by omega,by omega⟩
 have td : tth d := ⟨by omega,by omega⟩
 have k0 : KnR ⟨1,1⟩ := ⟨by decide,by decide⟩
 obtain ⟨m1,k1,n1,e1⟩ := aBa k0 tb tc (A := 1) (B := 1) (T := 84) (U := 10) (by decide) (by decide) (by omega) (by omega) (by decide) (by decide)
 have k1 : KnR (v1T b c) := k1
 have n1 : eF (v1T b c).Num ≤ 84 := n1
 have e1 : (v1T b c).Den ≤ 10 := e1
 obtain ⟨m2,k2,n2,e2⟩ := aBa (v := v1T b c) k1 ta td (A := 84) (B := 10) (T := 84) (U := 10) (by omega) (by omega) (by omega) (by omega) (by decide) (by decide)
 refine ⟨v2T b c a d,⟨b,c,a,d,rfl,⟨tb,tc,ta,td⟩,m1,m2,rfl⟩,n2,e2,?_,?_⟩
 ·have key : Ok (kN [⟨b,c⟩,⟨a,d⟩]) (fun r => r = (v2T b c a d,true)) := by
   unfold kN kK
   rw [Option.bind_some]
   refine bN (P := fun x => x = .inl (v2T b c a d)) ?_ fun x hx => by subst hx; exact aH rfl
   refine dH (I := fun (s : Int × aM) => s = (0,⟨1,1⟩) ∨ s = (1,v1T b c) ∨ s = (2,v2T b c a d)) (m := fun s => (2 - s.1).toNat) ?_ _ (.inl rfl) (by show (2 - 0 : Int).toNat < 1180591620717411303424; decide)
   rintro s (rfl | rfl | rfl)
   ·show Ok ((fH (w64 (-b)) c).bind fun v10 => (kW ⟨1,1⟩ v10.1).bind fun v11 => if (!v11.2) = true then some (Sum.inr (Sum.inr ((⟨0,0⟩ : aM),false))) else some (Sum.inl (w64 (0 + 1),v11.1))) _
    rw [← Option.bind_assoc,aEk k0 tb tc,Option.bind_some,m1]
    exact aH (.inl ⟨_,rfl, .inr (.inl rfl),by show (2 - w64 (0 + 1)).toNat < (2 - 0 : Int).toNat; decide⟩)
   ·show Ok ((fH (w64 (-a)) d).bind fun v10 => (kW (v1T b c) v10.1).bind fun v11 => if (!v11.2) = true then some (Sum.inr (Sum.inr ((⟨0,0⟩ : aM),false))) else some (Sum.inl (w64 (1 + 1),v11.1))) _
    rw [← Option.bind_assoc,aEk k1 ta td,Option.bind_some,m2]
    exact aH (.inl ⟨_,rfl, .inr (.inr rfl),by show (2 - w64 (1 + 1)).toNat < (2 - 1 : Int).toNat; decide⟩)
   ·exact aH (.inr ⟨_,rfl,rfl⟩)
  obtain ⟨r,h,rfl⟩ := key
  exact h
 ·have key : Ok (iV [⟨b,c⟩,⟨a,d⟩]) (fun r => r = (v2T b c a d,0)) := by
   unfold iV
   refine bN (P := fun x => x = .inl (v2T b c a d)) ?_ fun x hx => by subst hx; exact aH rfl
   refine dH (I := fun (s : Int × aM) => s = (0,⟨1,1⟩) ∨ s = (1,v1T b c) ∨ s = (2,v2T b c a d)) (m := fun s => (2 - s.1).toNat) ?_ _ (.inl rfl) (by show (2 - 0 : Int).toNat < 1180591620717411303424; decide)
   have c1 : yY (nF ⟨1,1⟩ b c) = (v1T b c,0) := by unfold yY; rw [if_pos m1]; rfl
   have c2 : yY (nF (v1T b c) a d) = (v2T b c a d,0) := by unfold yY; rw [if_pos m2]; rfl
   rintro s (rfl | rfl | rfl)
   ·show Ok ((dY (w64 (-b)) c).bind fun v10 => (gX ⟨1,1⟩ v10.1).bind fun v11 => if v11.2 ≠ 0 then some (Sum.inr (Sum.inr ((⟨0,0⟩ : aM),v11.2))) else some (Sum.inl (w64 (0 + 1),v11.1))) _
    rw [← Option.bind_assoc,yX k0 tb tc,Option.bind_some,c1]
    exact aH (.inl ⟨_,rfl, .inr (.inl rfl),by show (2 - w64 (0 + 1)).toNat < (2 - 0 : Int).toNat; decide⟩)
   ·show Ok ((dY (w64 (-a)) d).bind fun v10 => (gX (v1T b c) v10.1).bind fun v11 => if v11.2 ≠ 0 then some (Sum.inr (Sum.inr ((⟨0,0⟩ : aM),v11.2))) else some (Sum.inl (w64 (1 + 1),v11.1))) _
    rw [← Option.bind_assoc,yX k1 ta td,Option.bind_some,c2]
    exact aH (.inl ⟨_,rfl, .inr (.inr rfl),by show (2 - w64 (1 + 1)).toNat < (2 - 1 : Int).toNat; decide⟩)
   ·exact aH (.inr ⟨_,rfl,rfl⟩)
  obtain ⟨r,h,rfl⟩ := key
  exact h
theorem aMa {t : List bL} (h : fF t) : trI t := by
 obtain ⟨a,b,c,d,rfl,⟨a1,a2,a3⟩,a4,a5,a6⟩ := h
 refine ⟨rfl,fun p hp => ?_⟩
 simp only [List.mem_cons,List.not_mem_nil,or_false] at hp
 rcases hp with rfl | rfl
 ·dsimp only; omega
 ·dsimp only; omega
theorem aIz {t : List bL} (h : fF t) : iQ t = some true := by
 obtain ⟨a,b,c,d,rfl,⟨a1,a2,a3⟩,a4,a5,a6⟩ := h
 have q : ∀ x : Int,6 ≤ x → x ≤ 240 → jH x = some true := fun x h0 h1 => by
  rw [wX]; exact congrArg some (decide_eq_true ⟨h0,h1⟩)
 have q1 : eW ⟨b,c⟩ = some true := by
  unfold eW
  rw [q b (by omega) (by omega),Option.bind_some,if_pos rfl,q c (by omega) (by omega)]; rfl
 have q2 : eW ⟨a,d⟩ = some true := by
  unfold eW
  rw [q a (by omega) (by omega),Option.bind_some,if_pos rfl,q d (by omega) (by omega)]; rfl
 have key : Ok (iQ [⟨b,c⟩,⟨a,d⟩]) (fun r => r = true) := by
  unfold iQ
  refine bN (P := fun x => x = .inl ()) ?_ fun x hx => by subst hx; exact aH rfl
  refine dH (I := fun (s : Int) => s = 0 ∨ s = 1 ∨ s = 2) (m := fun s => (2 - s).toNat) ?_ _ (.inl rfl) (by decide)
  rintro s (rfl | rfl | rfl)
  ·show Ok ((eW ⟨b,c⟩).bind fun v6 => if (!v6) = true then some (Sum.inr (Sum.inr false)) else some (Sum.inl (w64 (0 + 1)))) _
   rw [q1]
   exact aH (.inl ⟨_,rfl, .inr (.inl rfl),by decide⟩)
  ·show Ok ((eW ⟨a,d⟩).bind fun v6 => if (!v6) = true then some (Sum.inr (Sum.inr false)) else some (Sum.inl (w64 (1 + 1)))) _
   rw [q2]
   exact aH (.inl ⟨_,rfl, .inr (.inr rfl),by decide⟩)
  ·exact aH (.inr ⟨_,rfl,rfl⟩)
 obtain ⟨r,h,rfl⟩ := key
 exact h
theorem aIa {t : List bL} (h : fF t) {r : aM} (hr : yE r = true) (r0 : 1 ≤ r.Num ∧ r.Num ≤ 36000) (r1 : r.Den ≤ 480) : ∃ v e,aMm t v ∧ oG t r = some (e,0) ∧ oW t r = some (e,0) ∧ (e.Num = 0 → eF v.Num * r.Den = r.Num * v.Den) := by
 obtain ⟨v,hg,b1,b2,es,ei⟩ := aIe h
 have hv := aLn hg
 obtain ⟨v0,v1,v2,v3⟩ := uG hv.1
 obtain ⟨d0,d1,_,_⟩ := uG hr
 have ha : 0 ≤ eF v.Num := nS _
 have m1 : eF v.Num * r.Den ≤ 7056 * 480 := Int.mul_le_mul b1 r1 (by omega) (by omega)
 have m2 : 0 ≤ eF v.Num * r.Den := Int.mul_nonneg ha (by omega)
 have m3 : r.Num * v.Den ≤ 36000 * 100 := Int.mul_le_mul r0.2 b2 (by omega) (by omega)
 have m4 : 0 ≤ r.Num * v.Den := Int.mul_nonneg (by omega) (by omega)
 have m5 := tO (a := v.Den) (b := r.Den) (A := 100) (B := 480) (by omega) b2 (by omega) r1
 have hs := uN (n := eF v.Num * r.Den - r.Num * v.Den) (d := v.Den * r.Den) (by omega) (by omega) (by omega) (by omega) (by omega)
 have hx := aDb (n := eF v.Num * r.Den - r.Num * v.Den) (d := v.Den * r.Den) (by omega) hs
 obtain ⟨x,ex⟩ : ∃ x,mkR (eF v.Num * r.Den - r.Num * v.Den) (v.Den * r.Den) = (x,true) := ⟨_,Prod.ext rfl hs⟩
 rw [ex] at hx
 change yE x = true ∧ (x.Num = 0 ↔ _) at hx
 obtain ⟨x0,x1,x2,x3⟩ := uG hx.1
 have hav : yE ⟨eF v.Num,v.Den⟩ = true := by
  obtain ⟨q1,q2,q3⟩ := yL.1 hv.1
  refine yL.2 ⟨q1,⟨by dsimp only; omega,by dsimp only; omega⟩,?_⟩
  rw [← q3]; unfold eF; simp [Int.gcd]
 refine ⟨v,⟨eF x.Num,x.Den⟩,hg,?_,?_,fun h0 => ?_⟩
 ·unfold oG qX
  rw [aP3 (aMa h),Option.bind_some,aBf,hr,es]
  simp only [Bool.not_true,Bool.false_eq_true,if_false,Option.bind_some]
  rw [pR (by omega) (by omega),Option.bind_some]
  unfold sY tF
  rw [aU (x := -r.Num) (by omega) (by omega),Option.bind_some]
  dsimp only
  have en : -r.Num * v.Den = -(r.Num * v.Den) := Int.neg_mul ..
  rw [aU (x := eF v.Num * r.Den) (by omega) (by omega),en,aU (x := -(r.Num * v.Den)) (by omega) (by omega),aU (x := _ + _) (by omega) (by omega),aU (x := v.Den * r.Den) (by omega) (by omega),show eF v.Num * r.Den + -(r.Num * v.Den) = eF v.Num * r.Den - r.Num * v.Den by omega,pK ⟨by omega,by omega⟩ ⟨by omega,by omega⟩ (by omega),ex]
  simp only [Bool.not_true,Bool.false_eq_true,if_false,Option.bind_some]
  rw [pR (by omega) (by omega),Option.bind_some]
 ·unfold oW kD
  rw [aIz h,Option.bind_some,jF,hr,ei]
  simp only [Bool.not_true,Bool.false_eq_true,if_false,Option.bind_some,ne_eq,not_true_eq_false]
  rw [aC4 (by omega) (by omega),Option.bind_some]
  unfold pM
  rw [jF,hav,jF,hr]
  simp only [Bool.not_true,Bool.false_eq_true,if_false,Option.bind_some]
  rw [aU (x := eF v.Num * r.Den) (by omega) (by omega),aU (x := r.Num * v.Den) (by omega) (by omega),aU (x := _ - _) (by omega) (by omega),aU (x := v.Den * r.Den) (by omega) (by omega),mQ ⟨by omega,by omega⟩ ⟨by omega,by omega⟩]
  have em : aC7 (eF v.Num * r.Den - r.Num * v.Den) (v.Den * r.Den) = (x,0) := by unfold aC7 yY; rw [if_neg (by omega),ex]; rfl
  rw [em]
  simp only [Option.bind_some]
  rw [aC4 (by omega) (by omega),Option.bind_some]
 ·have : x.Num = 0 := by dsimp only at h0; unfold eF at h0; omega
  have := hx.2.1 this
  omega
theorem aJ4 {r : aM} (hr : yE r = true) (r0 : 1 ≤ r.Num ∧ r.Num ≤ 36000) (r1 : r.Den ≤ 480) : ∃ t v e,fF t ∧ aMm t v ∧ lI r ⟨60,84,7,10,2⟩ = some (⟨t,e⟩,0) ∧ lL r ⟨60,84,7,10,2⟩ = some (⟨t,e⟩,0) ∧ (e.Num = 0 → eF v.Num * r.Den = r.Num * v.Den) := by
 obtain ⟨d0,d1,_,_⟩ := uG hr
 obtain ⟨t,hc,hi,hs⟩ := aD4 (r := r) ⟨⟨by omega,by omega⟩,by omega,by omega⟩
 obtain ⟨v,e,hg,es,ei,hz⟩ := aIa hc hr r0 r1
 refine ⟨t,v,e,hc,hg,?_,?_,hz⟩
 ·have el : lR ⟨60,84,7,10,2⟩ = some true := by decide
  unfold lI rC
  rw [jF,hr,el]
  simp only [Bool.not_true,Bool.false_eq_true,if_false,Option.bind_some]
  rw [if_neg (by omega),if_neg (by omega),decide_eq_false (by omega)]
  simp only [Bool.false_eq_true,if_false,Option.bind_some,ne_eq,not_true_eq_false]
  rw [hi,Option.bind_some,ei]; rfl
 ·have el : vO ⟨60,84,7,10,2⟩ = some true := by decide
  have b1 : btw r.Num 1 1000000 = true := decide_eq_true ⟨by omega,by omega⟩
  unfold lL sW rH
  rw [aBf,hr,el,iW,b1]
  simp only [Bool.not_true,Bool.false_eq_true,if_false,if_true,Option.bind_some]
  rw [decide_eq_true (by omega)]
  simp only [Bool.not_true,Bool.false_eq_true,if_false,Option.bind_some]
  rw [hs,Option.bind_some,es]; rfl
def aR4 (nm : ByteArray) (beats teeth : Int) (c : aD) (m : bP) : Prop := ∃ p q s u cam,m = mvT nm p q s u teeth beats c cam 2 ∧ (tth p ∧ tth q ∧ tth s ∧ tth u) ∧ (nF ⟨1,1⟩ p q).2 = true ∧ (nF (v1T p q) s u).2 = true ∧ 2 * teeth * eF (v2T p q s u).Num = beats * (v2T p q s u).Den ∧ aFh c cam = 0
theorem aNf {c : aD} (h : gE c) (nm : ByteArray) (beats teeth y : Int) : ∃ r,eQ nm beats teeth c y = some r ∧ fZ nm beats teeth c y = some r ∧ iD r.1 ∧ (lX nm = true → 1 ≤ beats ∧ beats ≤ 36000 → tth teeth → sH c = true → y = 1 → r.2 = 3 ∨ (r.2 = 0 ∧ aR4 nm beats teeth c r.1)) := by
 have hz : iD aC2 := aM3.1
 have hm1 := h.2.1.1
 have hm2 := h.2.2.1.1
 unfold eQ fZ
 rw [pJ (by omega) (by omega),wF (by omega) (by omega),Option.bind_some,Option.bind_some]
 cases hv : sH c
 ·exact ⟨(aC2,1),rfl,rfl,hz,fun _ _ _ h => by cases h⟩
 simp only [Bool.not_true,Bool.false_eq_true,if_false]
 rw [zZ,uD,Option.bind_some,Option.bind_some]
 cases hn : lX nm
 ·exact ⟨(aC2,7),rfl,rfl,hz,fun h => by cases h⟩
 simp only [Bool.not_true,Bool.false_eq_true,if_false]
 rw [oM,iW,wX,rA]
 cases hb : btw beats 1 36000
 ·exact ⟨(aC2,2),rfl,rfl,hz,fun _ h => by rw [show btw beats 1 36000 = true from decide_eq_true h] at hb; cases hb⟩
 cases ht : jU teeth
 ·exact ⟨(aC2,2),rfl,rfl,hz,fun _ _ h => by rw [show jU teeth = true from decide_eq_true h] at ht; cases ht⟩
 have hb' : 1 ≤ beats ∧ beats ≤ 36000 := of_decide_eq_true hb
 have ht' : 6 ≤ teeth ∧ teeth ≤ 240 := of_decide_eq_true ht
 obtain ⟨t0,t1⟩ := ht'
 simp only [Bool.not_true,Bool.false_eq_true,if_false,Option.bind_some]
 obtain ⟨cam,code,n,n',e1,e2,k1,k2,k3⟩ := aEd hv y
 rw [e1,e2,Option.bind_some,Option.bind_some]
 rcases k2 with rfl | rfl
 ·have ha := k1 rfl
  have hs := uN (n := beats) (d := 2 * teeth) (by omega) (by omega) (by omega) (by omega) (by omega)
  have hr := (aDb (show 2 * teeth ≠ 0 by omega) hs).1
  have hx := aKu (n := beats) (d := 2 * teeth) (by omega) hs
  have hl := aJi (n := beats) (d := 2 * teeth) (by omega)
  obtain ⟨r,er⟩ : ∃ r,mkR beats (2 * teeth) = (r,true) := ⟨_,Prod.ext rfl hs⟩
  have em : aC7 beats (2 * teeth) = (r,0) := by unfold aC7 yY; rw [if_neg (by omega),er]; rfl
  rw [er] at hr hx hl
  change yE r = true at hr
  change r.Num * (2 * teeth) = beats * r.Den at hx
  change eF r.Num ≤ _ ∧ eF r.Den ≤ _ at hl
  obtain ⟨d0,d1,_,_⟩ := uG hr
  have ab : eF beats = beats := by unfold eF; omega
  have at' : eF (2 * teeth) = 2 * teeth := by unfold eF; omega
  rw [ab,at'] at hl
  have l1 := vV hl.1
  have l2 := vV hl.2
  have rn : 1 ≤ r.Num := by
   rcases Int.lt_or_le 0 r.Num with q | q
   ·omega
   ·exfalso
    have a1 := Int.mul_pos (show 0 < beats by omega) (show 0 < r.Den by omega)
    have a2 := Int.mul_nonneg (show 0 ≤ -r.Num by omega) (show 0 ≤ 2 * teeth by omega)
    rw [Int.neg_mul] at a2
    omega
  obtain ⟨t,v,e,hc,hg,bi,bs,hzr⟩ := aJ4 hr ⟨rn,by omega⟩ (by omega)
  have hlim : nX = some ⟨60,84,7,10,2⟩ := rfl
  simp only [ne_eq,not_true_eq_false,if_false]
  rw [aU (x := 2 * teeth) (by omega) (by omega),mQ ⟨by omega,by omega⟩ ⟨by omega,by omega⟩,em,pK ⟨by omega,by omega⟩ ⟨by omega,by omega⟩ (by omega),er,hlim,Option.bind_some,Option.bind_some,Option.bind_some]
  simp only [ne_eq,not_true_eq_false,if_false]
  rw [bi,bs,Option.bind_some,Option.bind_some]
  simp only [ne_eq,not_true_eq_false,if_false,Option.bind_some]
  by_cases he : e.Num = 0
  ·have hg' := hg
   obtain ⟨p,q,s,u,rfl,⟨hp,hq,hS,hu⟩,m1,m2,rfl⟩ := hg'
   have hv2 := hzr he
   have hq2 : 2 * teeth * eF (v2T p q s u).Num = beats * (v2T p q s u).Den := by
    refine Int.eq_of_mul_eq_mul_right (a := r.Den) (by omega) ?_
    grind
   have hmov := aQ0 hn hp hq hS hu ⟨t0,t1⟩ hb' ha (st := 2) (by omega)
   have hsm := aQ1 hmov
   have ew : pD [⟨p,q⟩,⟨s,u⟩] = some (wkT p q s u) := rfl
   rw [if_neg (by simp [he]),if_neg (by simp [he]),ew,Option.bind_some,aR6 h,Option.bind_some]
   have a0 : atI [(⟨p,q⟩ : bL),⟨s,u⟩] 0 = some ⟨p,q⟩ := rfl
   have a1 : atI [(⟨p,q⟩ : bL),⟨s,u⟩] 1 = some ⟨s,u⟩ := rfl
   rw [a0,a1,Option.bind_some,Option.bind_some]
   have ec := wI hsm
   refine ⟨(mvT nm p q s u teeth beats c cam 2,0),?_,rfl,hsm,fun _ _ _ _ _ => .inr ⟨rfl,p,q,s,u,cam,rfl,⟨hp,hq,hS,hu⟩,m1,m2,hq2,ha⟩⟩
   exact (congrArg (fun (x : Option bP) => x.bind fun v11 => some (v11,(0 : Int))) ec).trans rfl
  ·rw [if_pos he,if_pos (decide_eq_true he)]
   exact ⟨(aC2,3),rfl,rfl,hz,fun _ _ _ _ _ => .inl rfl⟩
 ·exact ⟨(aC2,2),rfl,rfl,hz,fun _ _ _ _ hy => by have := k3 hy; cases this⟩
end Go.Proofs.YtgcdbbidmfdonaaGreat
namespace Go.Proofs.YtgcdbbidmfdonaaGreat
set_option linter.unusedVariables false
set_option maxRecDepth 100000
theorem vH (p0 : ByteArray) (k0 : osS p0) (p1 : Int) (k1 : osI p1) (p2 : Int) (k2 : osI p2) (p3 : aD) (k3 : qW p3) (p4 : Int) (k4 : osI p4) : eI p0 p1 p2 p3 p4 = some true := by
 unfold eI
 by_cases h0 : 1048576 < (p0.size : Int)
 ·rw [if_pos h0]
 rw [if_neg h0]
 obtain ⟨r,e,l,s⟩ := aCy k3 1048576 (by omega) (by omega)
 rw [e,Option.bind_some]
 by_cases hr : r < 0
 ·rw [if_pos hr]
 ·rw [if_neg hr]
  have h0 := s (by omega)
  obtain ⟨x,hi,hs,h1,_⟩ := aNf h0 p0 p1 p2 p4
  have m0 := sN (x := p3) (k := 1) (by omega) (by omega) h0
  have m1 := zF (x := x.1) (k := 1) (by omega) (by omega) h1
  have d1 := zJ (x := x.1) (k := 1) (by omega) (by omega) h1
  have b1 := aE3 (k := 1) h1.2.1.1
  simp only [aB5 h0,hs,hi,rZ h0,zS h1,m0,m1,d1,Option.bind_some,Bool.not_true,Bool.false_eq_true,if_false,List.length_map,List.length_range,gI,yH,ne_eq,not_true_eq_false,decide_false]
  rw [if_neg (by omega)]
  simp only [Option.bind_some,Bool.false_eq_true,if_false]
  repeat rw [if_neg (by omega)]
end Go.Proofs.YtgcdbbidmfdonaaGreat
