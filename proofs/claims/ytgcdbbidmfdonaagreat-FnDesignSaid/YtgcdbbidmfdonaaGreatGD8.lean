/- Texts of this claim, one behind the other (merged by a program of mine). -/
import Derived.Test.YtgcdbbidmfdonaaGreatGD7
set_option linter.unusedSimpArgs false
set_option linter.unusedVariables false
namespace Go.Proofs.YtgcdbbidmfdonaaGreat
set_option linter.unusedVariables false
set_option maxRecDepth 100000
theorem aL9 {xs : List Int} (h : ∀ v ∈ xs,1 ≤ v ∧ v ≤ 60) (hl : 1 ≤ xs.length ∧ xs.length ≤ 260) : aJn xs = true := by
 unfold aJn btw
 rw [Bool.and_eq_true,decide_eq_true_eq,List.all_eq_true]
 exact ⟨fun v hv => decide_eq_true (h v hv),hl⟩
theorem aNm {c : aI} (hc : sB c = true) {a st ys m : Int} (a0 : 0 ≤ a) (a1 : a ≤ 260) (s0 : 1 ≤ st) (s1 : st ≤ 260) (y1 : ys ≤ 1000000) (m0 : 0 ≤ m) (m1 : m < c.Months.length) : Ok (gD c a st ys m) (fun r => 1 ≤ r ∧ r ≤ 60) := by
 have hm := vM (c := c) m0 m1
 have hq := aQ3 hc hm.2
 unfold gD
 refine aN (P := fun _ => True) ?_ fun v7 _ => ?_
 ·refine cV (I := fun (s : Int × Int × Int) => 0 ≤ s.2.2 ∧ s.2.2 ≤ 1000260) (m := fun s => (1000260 - s.2.2).toNat) ?_ _ ⟨a0,by dsimp only; omega⟩ (by dsimp only; omega)
  rintro ⟨l,al,y⟩ ⟨i0,i1⟩
  dsimp only at i0 i1 ⊢
  refine bQ (fun hy => ?_) fun _ => aC (.inr ⟨_,rfl,trivial⟩)
  rw [vA hc i0,Option.bind_some]
  refine aN (P := fun _ => True) (bQ (fun _ => aC trivial) fun _ => aC trivial) fun v6 _ => aC (.inl ⟨_,rfl,?_,?_⟩)
  ·dsimp only; rw [aS (x := y + st) (by omega) (by omega)]; omega
  ·dsimp only; rw [aS (x := y + st) (by omega) (by omega)]; omega
 ·rw [hm.1,Option.bind_some]
  refine bQ (fun _ => aC hq.2) fun _ => bQ (fun _ => aC hq.1) fun _ => ?_
  unfold sR
  refine aN (P := fun r => 1 ≤ r ∧ r ≤ 60) (bQ (fun _ => aC hq.2) fun _ => aC hq.1) fun v h => aC h
theorem aMg {c : aI} (hc : sB c = true) {y : Int} (y0 : 1 ≤ y) (y1 : y ≤ 260) : Ok (jJ c y) (fun r => 0 ≤ r ∧ r ≤ 520000) := by
 obtain ⟨_,_,hr,_,_,hb,hcy⟩ := fG hc
 obtain ⟨e,n0,n1,_⟩ := aH4 hc
 have hg := nD (n := cyc c.Rules) (d := y) (by omega)
 have hq := sO (a := cyc c.Rules) (g := (Int.gcd (cyc c.Rules) y : Int)) (by omega) (by omega)
 unfold jJ
 rw [tY (by omega),if_pos ⟨hb,hcy⟩,Option.bind_some,tU (by dsimp only; omega) (by omega) (by omega),Option.bind_some]
 refine fF (by dsimp only; omega) (aC ?_)
 dsimp only
 rw [Int.tdiv_eq_ediv_of_nonneg (by omega),aS (x := cyc c.Rules / _) (by omega) (by omega)]
 have h1 : 0 ≤ cyc c.Rules / (Int.gcd (cyc c.Rules) y : Int) * y := Int.mul_nonneg hq.1 (by omega)
 have h2 : cyc c.Rules / (Int.gcd (cyc c.Rules) y : Int) * y ≤ 2000 * 260 := Int.mul_le_mul (by omega) y1 (by omega) (by omega)
 rw [aS (by omega) (by omega)]
 omega
theorem aP6 {c : aI} {cam : List Int} (ha : aFx c cam = 0) {y m : Int} (y0 : 0 ≤ y) (m0 : 0 ≤ m) (m1 : m < c.Months.length) : pX c cam y m = some (⟨y,m + 1,cam.getD (aAh c cam y (m + 1)).toNat 0,aM0 c (jE c y) m⟩,decide (cam.getD (aAh c cam y (m + 1)).toNat 0 ≠ aM0 c (jE c y) m)) := by
 obtain ⟨hc,hm,h,k1,k2⟩ := sY ha
 have hl := (xC hm).2
 have hq := (fG hc).2.1
 have n := aE4 ha (y := y) (m := m + 1) (by omega) (by omega)
 unfold pX
 rw [iN (by omega),zW hc y0 m0 m1,Option.bind_some,Int.tdiv_eq_ediv_of_nonneg (by omega),aS (x := (cam.length : Int) / _) (by omega) (by omega),iN (by omega),Int.tmod_eq_emod_of_nonneg y0,aS (x := _ * _) (by omega) (by omega),aS (x := _ + m) (by omega) (by omega),aS (x := m + 1) (by omega) (by omega)]
 have e : y % ((cam.length : Int) / c.Months.length) * c.Months.length + m = aAh c cam y (m + 1) := by unfold aAh; omega
 rw [e]
 have h3 : atI cam (aAh c cam y (m + 1)) = some (cam.getD (aAh c cam y (m + 1)).toNat 0) := by
  unfold atI
  rw [if_pos n.1,List.getElem?_eq_getElem (by omega)]
  simp [List.getD_eq_getElem?_getD,List.getElem?_eq_getElem (show (aAh c cam y (m + 1)).toNat < cam.length by omega)]
 rw [h3,Option.bind_some]
theorem aPl {c : aI} {cam : List Int} (ha : aFx c cam = 0) {n : Int} (n1 : n ≤ 520000) : Ok (mZ c cam n) (fun _ => True) := by
 have hc := (sY ha).1
 have hq := (fG hc).2.1
 unfold mZ
 refine aN (P := fun _ => True) ?_ fun v _ => aC trivial
 refine cV (I := fun (s : Int × Int) => 0 ≤ s.2 ∧ s.2 ≤ 520000) (m := fun s => (520000 - s.2).toNat) ?_ _ ⟨by dsimp only; omega,by dsimp only; omega⟩ (by dsimp only; omega)
 rintro ⟨k,y⟩ ⟨i0,i1⟩
 dsimp only at i0 i1 ⊢
 refine bQ (fun hy => ?_) fun _ => aC (.inr ⟨_,rfl,trivial⟩)
 refine aN (P := fun _ => True) ?_ fun v16 _ => aC (.inl ⟨_,rfl,?_,?_⟩)
 ·refine cV (I := fun (s : Int × Int) => 0 ≤ s.2 ∧ s.2 ≤ c.Months.length) (m := fun s => (c.Months.length - s.2).toNat) ?_ _ ⟨by dsimp only; omega,by dsimp only; omega⟩ (by dsimp only; omega)
  rintro ⟨k2,m⟩ ⟨j0,j1⟩
  dsimp only at j0 j1 ⊢
  refine bQ (fun hm => ?_) fun _ => aC (.inr ⟨_,rfl,trivial⟩)
  rw [aP6 ha i0 j0 hm,Option.bind_some]
  refine aN (P := fun _ => True) (bQ (fun _ => aC trivial) fun _ => aC trivial) fun v15 _ => aC (.inl ⟨_,rfl,?_,?_⟩)
  ·dsimp only; rw [aS (x := m + 1) (by omega) (by omega)]; omega
  ·dsimp only; rw [aS (x := m + 1) (by omega) (by omega)]; omega
 ·dsimp only; rw [aS (x := y + 1) (by omega) (by omega)]; omega
 ·dsimp only; rw [aS (x := y + 1) (by omega) (by omega)]; omega
theorem aQy {c : aI} {cam : List Int} (hc : sB c = true) (hm : aJn cam = true) (hz : (cam.length : Int) % c.Months.length = 0) : aFx c cam = 0 := by
 rw [aJj hc hm,if_pos hz]
theorem aDd {c : aI} (hc : sB c = true) (y : Int) : Ok (mF c y) (fun r => r.2.2 = 0 → aFx c r.1 = 0) := by
 have hm := (fG hc).2.1
 obtain ⟨_,_,hr,_⟩ := fG hc
 unfold mF pY
 rw [qO (by omega) (by omega),hc,Option.bind_some,eJ,Option.bind_some]
 simp only [Bool.not_true,Bool.false_eq_true,if_false]
 refine aN (P := fun b => b = true → (1 ≤ y ∧ y ≤ 260) ∧ y * c.Months.length ≤ 260) (bQ (fun hb => ?_) fun hb => aC (by simp)) fun b hb => bQ (fun hn => aC (by simp)) fun hn => ?_
 ·have hy := of_decide_eq_true hb
  have h1 : 0 ≤ y * (c.Months.length : Int) := Int.mul_nonneg (by omega) (by omega)
  have h2 : y * (c.Months.length : Int) ≤ 260 * 20 := Int.mul_le_mul hy.2 (by omega) (by omega) (by omega)
  rw [aS (by omega) (by omega)]
  exact aC fun h => ⟨hy,of_decide_eq_true h⟩
 ·have hb' : b = true := by simpa using hn
  obtain ⟨⟨y0,y1⟩,y2⟩ := hb hb'
  refine aN (aMg hc y0 y1) fun v3 h3 => ?_
  refine aN (P := fun xs => (xs.length : Int) = y * c.Months.length ∧ ∀ v ∈ xs,1 ≤ v ∧ v ≤ 60) ?_ fun v20 h20 => ?_
  ·refine cV (I := fun (s : Int × List Int) => (0 ≤ s.1 ∧ s.1 ≤ y) ∧ (s.2.length : Int) = s.1 * c.Months.length ∧ ∀ v ∈ s.2,1 ≤ v ∧ v ≤ 60) (m := fun s => (y - s.1).toNat) ?_ _ ⟨⟨by dsimp only; omega,by dsimp only; omega⟩,by simp,fun v hv => by cases hv⟩ (by dsimp only; omega)
   rintro ⟨k,xs⟩ ⟨⟨i0,i1⟩,il,iv⟩
   dsimp only at i0 i1 il iv ⊢
   refine bQ (fun hk => ?_) fun hk => aC (.inr ⟨_,rfl,?_,iv⟩)
   ·have kb : k * (c.Months.length : Int) ≤ (y - 1) * c.Months.length := Int.mul_le_mul_of_nonneg_right (by omega) (by omega)
    have knS : 0 ≤ k * (c.Months.length : Int) := Int.mul_nonneg i0 (by omega)
    rw [Int.sub_mul] at kb
    refine aN (P := fun (zs : List Int) => (zs.length : Int) = k * c.Months.length + c.Months.length ∧ ∀ v ∈ zs,1 ≤ v ∧ v ≤ 60) ?_ fun v19 h19 => aC (.inl ⟨_,rfl,⟨⟨?_,?_⟩,?_,h19.2⟩,?_⟩)
    ·refine cV (I := fun (s : Int × List Int) => (0 ≤ s.1 ∧ s.1 ≤ c.Months.length) ∧ (s.2.length : Int) = k * c.Months.length + s.1 ∧ ∀ v ∈ s.2,1 ≤ v ∧ v ≤ 60) (m := fun s => (c.Months.length - s.1).toNat) ?_ _ ⟨⟨by dsimp only; omega,by dsimp only; omega⟩,by dsimp only; omega,iv⟩ (by dsimp only; omega)
     rintro ⟨m,zs⟩ ⟨⟨j0,j1⟩,jl,jv⟩
     dsimp only at j0 j1 jl jv ⊢
     refine bQ (fun hmm => ?_) fun hmm => aC (.inr ⟨_,rfl,by omega,jv⟩)
     refine aN (aNm hc i0 (by omega) y0 y1 (by omega) j0 hmm) fun v17 h17 => fF (by simp; omega) (aC (.inl ⟨_,rfl,⟨⟨?_,?_⟩,?_,?_⟩,?_⟩))
     all_goals (dsimp only; try rw [aS (x := m + 1) (by omega) (by omega)])
     ·omega
     ·omega
     ·simp; omega
     ·intro v hv
      rcases List.mem_append.1 hv with hv | hv
      ·exact jv v hv
      ·rw [List.mem_singleton.1 hv]; exact h17
     ·omega
    all_goals (dsimp only; try rw [aS (x := k + 1) (by omega) (by omega)])
    ·omega
    ·omega
    ·rw [Int.add_mul,Int.one_mul]; exact h19.1
    ·omega
   ·rw [il,show k = y by omega]
  ·have hp : 0 < y * (c.Months.length : Int) := Int.mul_pos (by omega) (by omega)
   have hcam := aL9 h20.2 (by omega)
   have ha : aFx c v20 = 0 := aQy hc hcam (by rw [h20.1,Int.mul_emod_left])
   exact aN (aPl ha h3.2) fun v21 _ => aC fun _ => ha
theorem aPf {c : aI} (hc : sB c = true) : Ok (vB c 0 1) (fun r => aFx c r = 0) := by
 have hm := (fG hc).2.1
 unfold vB
 rw [aS (x := (0 : Int) + 1) (by omega) (by omega)]
 refine aN (P := fun xs => (xs.length : Int) = c.Months.length ∧ ∀ v ∈ xs,1 ≤ v ∧ v ≤ 60) ?_ fun v20 h20 => aC (aQy hc (aL9 h20.2 (by omega)) (by rw [h20.1,Int.emod_self]))
 refine cV (I := fun (s : Int × List Int) => (0 ≤ s.1 ∧ s.1 ≤ 1) ∧ (s.2.length : Int) = s.1 * c.Months.length ∧ ∀ v ∈ s.2,1 ≤ v ∧ v ≤ 60) (m := fun s => (1 - s.1).toNat) ?_ _ ⟨⟨by dsimp only; omega,by dsimp only; omega⟩,by simp,fun v hv => by cases hv⟩ (by dsimp only; omega)
 rintro ⟨k,xs⟩ ⟨⟨i0,i1⟩,il,iv⟩
 dsimp only at i0 i1 il iv ⊢
 refine bQ (fun hk => ?_) fun hk => aC (.inr ⟨_,rfl,?_,iv⟩)
 ·have hk0 : k = 0 := by omega
  subst hk0
  have il' : xs.length = 0 := by omega
  refine aN (P := fun (zs : List Int) => (zs.length : Int) = c.Months.length ∧ ∀ v ∈ zs,1 ≤ v ∧ v ≤ 60) ?_ fun v19 h19 => aC (.inl ⟨_,rfl,⟨⟨?_,?_⟩,?_,h19.2⟩,?_⟩)
  ·refine cV (I := fun (s : Int × List Int) => (0 ≤ s.1 ∧ s.1 ≤ c.Months.length) ∧ (s.2.length : Int) = s.1 ∧ ∀ v ∈ s.2,1 ≤ v ∧ v ≤ 60) (m := fun s => (c.Months.length - s.1).toNat) ?_ _ ⟨⟨by dsimp only; omega,by dsimp only; omega⟩,by dsimp only; omega,iv⟩ (by dsimp only; omega)
   rintro ⟨m,zs⟩ ⟨⟨j0,j1⟩,jl,jv⟩
   dsimp only at j0 j1 jl jv ⊢
   refine bQ (fun hmm => ?_) fun hmm => aC (.inr ⟨_,rfl,by omega,jv⟩)
   have hl := aM1 hc (jE c 0) j0 hmm
   rw [zW hc (by omega) j0 hmm,Option.bind_some]
   refine fF (by simp; omega) (aC (.inl ⟨_,rfl,⟨⟨?_,?_⟩,?_,?_⟩,?_⟩))
   all_goals (dsimp only; try rw [aS (x := m + 1) (by omega) (by omega)])
   ·omega
   ·omega
   ·simp; omega
   ·intro v hv
    rcases List.mem_append.1 hv with hv | hv
    ·exact jv v hv
    ·rw [List.mem_singleton.1 hv]; exact hl
   ·omega
  all_goals (dsimp only; try rw [aS (x := (0 : Int) + 1) (by omega) (by omega)])
  ·omega
  ·omega
  ·rw [h19.1]; omega
  ·omega
 ·rw [il,show k = 1 by omega]; omega
end Go.Proofs.YtgcdbbidmfdonaaGreat
namespace Go.Proofs.YtgcdbbidmfdonaaGreat
set_option linter.unusedVariables false
set_option maxRecDepth 100000
theorem yK {α : Type} {xs : List α} {k : Nat} : wU xs (k : Int) (xs.length : Int) = xs.drop k := by
 unfold wU
 rw [List.take_of_length_le (by simp)]; simp
theorem sG {α : Type} {xs : List α} {k : Nat} (h : k < xs.length) : xs.drop k = xs[k] :: xs.drop (k + 1) := List.drop_eq_getElem_cons h
theorem sV {α : Type} {xs : List α} {k : Nat} (h : k < xs.length) : xs.take (k + 1) = xs.take k ++ [xs[k]] := by rw [List.take_succ_eq_append_getElem h]
theorem aQo {out : List Int} {x : Int} {k : Nat} (hs : out.Pairwise (· ≤ ·)) (h1 : ∀ a ∈ out.take k,a ≤ x) (h2 : ∀ b ∈ out.drop k,x < b) : ((out.take k ++ [x]) ++ out.drop k).Pairwise (· ≤ ·) ∧ ((out.take k ++ [x]) ++ out.drop k).Perm (out ++ [x]) := by
 have hs' := hs
 rw [← List.take_append_drop k out,List.pairwise_append] at hs'
 obtain ⟨p1,p2,p3⟩ := hs'
 constructor
 ·rw [List.pairwise_append,List.pairwise_append]
  refine ⟨⟨p1,by simp,fun a ha b hb => by rw [List.mem_singleton.1 hb]; exact h1 a ha⟩,p2,fun a ha b hb => ?_⟩
  rcases List.mem_append.1 ha with ha | ha
  ·exact p3 a ha b hb
  ·rw [List.mem_singleton.1 ha]; have := h2 b hb; omega
 ·rw [List.append_assoc]
  have e : (out.take k ++ ([x] ++ out.drop k)).Perm (out.take k ++ (out.drop k ++ [x])) := List.Perm.append_left _ List.perm_append_comm
  rw [← List.append_assoc (List.take k out) (List.drop k out),List.take_append_drop] at e
  exact e
theorem aFp {xs : List Int} (hl : xs.length ≤ 1000) : Ok (oM xs) (fun ys => ys.Perm xs ∧ ys.Pairwise (· ≤ ·)) := by
 unfold oM
 refine aN (P := fun (ys : List Int) => ys.Perm xs ∧ ys.Pairwise (· ≤ ·)) ?_ fun v h => aC h
 refine cV (I := fun (s : Int × List Int) => (0 ≤ s.1 ∧ s.1 ≤ xs.length) ∧ s.2.Perm (xs.take s.1.toNat) ∧ s.2.Pairwise (· ≤ ·)) (m := fun s => (xs.length - s.1).toNat) ?_ _ ⟨⟨by dsimp only; omega,by dsimp only; omega⟩,by simp, .nil⟩ (by dsimp only; omega)
 rintro ⟨i,out⟩ ⟨⟨i0,i1⟩,ip,is⟩
 dsimp only at i0 i1 ip is ⊢
 refine bQ (fun hi => ?_) fun hi => aC (.inr ⟨_,rfl,?_,is⟩)
 ·obtain ⟨n,rfl⟩ : ∃ n : Nat,i = n := ⟨i.toNat,by omega⟩
  have hn : n < xs.length := by omega
  rw [Int.toNat_natCast] at ip
  have hol : out.length = n := by have := ip.length_eq; simp at this; omega
  simp only [dP hn,Option.bind_some]
  refine aN (P := fun (zs : List Int) => zs.Perm (out ++ [xs[n]]) ∧ zs.Pairwise (· ≤ ·)) ?_ fun v34 h34 => aC (.inl ⟨_,rfl,⟨⟨?_,?_⟩,?_,h34.2⟩,?_⟩)
  ·refine aN (P := fun (k : Int) => (0 ≤ k ∧ k ≤ out.length) ∧ (∀ b ∈ out.drop k.toNat,xs[n] < b) ∧ ∀ a ∈ out.take k.toNat,a ≤ xs[n]) ?_ fun k hk => ?_
   ·refine cV (I := fun (k : Int) => (0 ≤ k ∧ k ≤ out.length) ∧ ∀ b ∈ out.drop k.toNat,xs[n] < b) (m := fun k => k.toNat) ?_ _ ⟨⟨by omega,by omega⟩,by simp⟩ (by omega)
    rintro k ⟨⟨k0,k1⟩,kd⟩
    refine aN (P := fun b => b = decide (0 < k ∧ xs[n] < out.getD (k - 1).toNat 0)) (bQ (fun hk => ?_) fun hk => aC (by symm; exact decide_eq_false fun h => hk h.1)) fun b hb => ?_
    ·rw [aS (x := k - 1) (by omega) (by omega),show k - 1 = ((k - 1).toNat : Int) by omega,dP (show (k - 1).toNat < out.length by omega),Option.bind_some]
     refine aC ?_
     rw [show ((k - 1).toNat : Int).toNat = (k - 1).toNat by omega,List.getD_eq_getElem?_getD,List.getElem?_eq_getElem (show (k - 1).toNat < out.length by omega),Option.getD_some,decide_eq_decide]
     omega
    ·subst hb
     refine bQ (fun hb => ?_) fun hb => aC (.inr ⟨_,rfl,⟨k0,k1⟩,kd,?_⟩)
     ·have hb' := of_decide_eq_true hb
      refine aC (.inl ⟨_,rfl,⟨⟨?_,?_⟩,?_⟩,?_⟩)
      all_goals try rw [aS (x := k - 1) (by omega) (by omega)]
      ·omega
      ·omega
      ·have hlt : (k - 1).toNat < out.length := by omega
       rw [sG hlt]
       intro b hb2
       rcases List.mem_cons.1 hb2 with rfl | hb2
       ·have := hb'.2
        rwa [List.getD_eq_getElem?_getD,List.getElem?_eq_getElem hlt,Option.getD_some] at this
       ·rw [show (k - 1).toNat + 1 = k.toNat by omega] at hb2; exact kd b hb2
      ·omega
     ·intro a ha
      have hk : k ≠ 0 := by
       intro e; subst e; simp at ha
      have hlt : (k - 1).toNat < out.length := by omega
      have hx : out[(k - 1).toNat] ≤ xs[n] := by
       have : ¬ (0 < k ∧ xs[n] < out.getD (k - 1).toNat 0) := by simpa using hb
       rw [List.getD_eq_getElem?_getD,List.getElem?_eq_getElem hlt,Option.getD_some] at this
       omega
      rw [show k.toNat = (k - 1).toNat + 1 by omega,sV hlt] at ha
      rcases List.mem_append.1 ha with ha | ha
      ·have hp := is
       rw [← List.take_append_drop (k - 1).toNat out,List.pairwise_append] at hp
       have := hp.2.2 a ha out[(k - 1).toNat] (by rw [sG hlt]; exact List.mem_cons_self ..)
       omega
      ·rw [List.mem_singleton.1 ha]; exact hx
   ·obtain ⟨⟨k0,k1⟩,kd,ka⟩ := hk
    obtain ⟨m,rfl⟩ : ∃ m : Nat,k = m := ⟨k.toNat,by omega⟩
    rw [Int.toNat_natCast] at kd ka
    refine fF (by omega) ?_
    rw [aOl,yK,aN9 (by rw [List.length_take]; omega),Option.bind_some]
    refine fF (by simp; omega) (fF (by omega) (fF (by simp; omega) (aC ?_)))
    have := aQo is ka kd
    exact ⟨this.2,this.1⟩
  all_goals (dsimp only; try rw [aS (x := (n : Int) + 1) (by omega) (by omega)])
  ·omega
  ·omega
  ·rw [show ((n : Int) + 1).toNat = n + 1 by omega,sV hn]
   exact h34.1.trans (ip.append_right _)
  ·omega
 ·rw [show i.toNat = xs.length by omega,List.take_length] at ip
  exact ip
end Go.Proofs.YtgcdbbidmfdonaaGreat
namespace Go.Proofs.YtgcdbbidmfdonaaGreat
set_option linter.unusedVariables false
set_option maxRecDepth 100000
abbrev mH (xs : List aO) : Prop := xs.Pairwise fun a b => a.value ≤ b.value
theorem iL {xs : List aO} (h : mH xs) {i j : Nat} (hij : i ≤ j) (hj : j < xs.length) : (xs[i]'(by omega)).value ≤ xs[j].value := by
 rcases Nat.lt_or_ge i j with q | q
 ·exact List.pairwise_iff_getElem.1 h i j (by omega) hj q
 ·have : i = j := by omega
  subst this; exact Int.le_refl _
theorem aAp {α : Type} {xs : List α} {k : Nat} {x : α} (h : x ∈ xs.drop k) : ∃ (j : Nat) (hj : j < xs.length),k ≤ j ∧ xs[j] = x := by
 obtain ⟨i,hi,rfl⟩ := List.getElem_of_mem h
 have hi' := hi
 rw [List.length_drop] at hi'
 exact ⟨k + i,by omega,by omega,by rw [List.getElem_drop]⟩
theorem aP4 {a b : List aO} (ha : mH a) (hb : mH b) (hl : a.length + b.length ≤ 100000) : Ok (pR a b) (fun r => r.Perm (a ++ b) ∧ mH r) := by
 unfold pR
 have grow : ∀ {out : List aO} {x : aO},mH out → (∀ y ∈ out,y.value ≤ x.value) → mH (out ++ [x]) := fun {out x} h1 h2 => by
  show List.Pairwise _ _
  rw [List.pairwise_append]
  exact ⟨h1,by simp,fun y hy z hz => by rw [List.mem_singleton.1 hz]; exact h2 y hy⟩
 refine aN (P := fun (r : Int × List aO) => (0 ≤ r.1 ∧ r.1 ≤ a.length) ∧ r.2.Perm (a.take r.1.toNat ++ b) ∧ mH r.2 ∧ ∀ y ∈ r.2, ∀ z ∈ a.drop r.1.toNat,y.value ≤ z.value) ?_ fun v35 h35 => ?_
 ·refine cV (I := fun (s : Int × Int × List aO) => ((0 ≤ s.1 ∧ s.1 ≤ a.length) ∧ 0 ≤ s.2.1 ∧ s.2.1 ≤ b.length) ∧ s.2.2.Perm (a.take s.1.toNat ++ b.take s.2.1.toNat) ∧ mH s.2.2 ∧ (∀ y ∈ s.2.2, ∀ z ∈ a.drop s.1.toNat,y.value ≤ z.value) ∧ ∀ y ∈ s.2.2, ∀ z ∈ b.drop s.2.1.toNat,y.value ≤ z.value) (m := fun s => (b.length - s.2.1).toNat) ?_ _ ⟨⟨⟨by dsimp only; omega,by dsimp only; omega⟩,by dsimp only; omega,by dsimp only; omega⟩,by simp, .nil,fun y hy => by simp at hy,fun y hy => by simp at hy⟩ (by dsimp only; omega)
  rintro ⟨i,k,out⟩ ⟨⟨⟨i0,i1⟩,k0,k1⟩,hp,hs,h1,h2⟩
  dsimp only at i0 i1 k0 k1 hp hs h1 h2 ⊢
  refine bQ (fun hk => ?_) fun hk => aC (.inr ⟨_,rfl,⟨i0,i1⟩,?_,hs,h1⟩)
  ·obtain ⟨m,rfl⟩ : ∃ m : Nat,k = m := ⟨k.toNat,by omega⟩
   have hm : m < b.length := by omega
   rw [Int.toNat_natCast] at hp h2
   simp only [dP hm,Option.bind_some]
   refine aN (P := fun (r : Int × List aO) => (0 ≤ r.1 ∧ r.1 ≤ a.length) ∧ r.2.Perm (a.take r.1.toNat ++ b.take (m + 1)) ∧ mH r.2 ∧ (∀ y ∈ r.2, ∀ z ∈ a.drop r.1.toNat,y.value ≤ z.value) ∧ ∀ y ∈ r.2, ∀ z ∈ b.drop (m + 1),y.value ≤ z.value) ?_ fun v34 h34 => aC (.inl ⟨_,rfl,⟨⟨h34.1,?_,?_⟩,?_,h34.2.2.1,h34.2.2.2.1,?_⟩,?_⟩)
   ·refine aN (P := fun (r : Int × List aO) => (0 ≤ r.1 ∧ r.1 ≤ a.length) ∧ r.2.Perm (a.take r.1.toNat ++ b.take m) ∧ mH r.2 ∧ (∀ y ∈ r.2, ∀ z ∈ a.drop r.1.toNat,y.value ≤ z.value) ∧ (∀ y ∈ r.2, ∀ z ∈ b.drop m,y.value ≤ z.value) ∧ ∀ z ∈ a.drop r.1.toNat,b[m].value ≤ z.value) ?_ fun v31 h31 => ?_
    ·refine cV (I := fun (s : Int × List aO) => (0 ≤ s.1 ∧ s.1 ≤ a.length) ∧ s.2.Perm (a.take s.1.toNat ++ b.take m) ∧ mH s.2 ∧ (∀ y ∈ s.2, ∀ z ∈ a.drop s.1.toNat,y.value ≤ z.value) ∧ ∀ y ∈ s.2, ∀ z ∈ b.drop m,y.value ≤ z.value) (m := fun s => (a.length - s.1).toNat) ?_ _ ⟨⟨i0,i1⟩,hp,hs,h1,h2⟩ (by dsimp only; omega)
     rintro ⟨i,out⟩ ⟨⟨i0,i1⟩,hp,hs,h1,h2⟩
     dsimp only at i0 i1 hp hs h1 h2 ⊢
     obtain ⟨n,rfl⟩ : ∃ n : Nat,i = n := ⟨i.toNat,by omega⟩
     rw [Int.toNat_natCast] at hp h1
     by_cases hi : n < a.length
     ·rw [if_pos (by omega)]
      simp only [dP hi,Option.bind_some]
      by_cases hc : a[n].value ≤ b[m].value
      ·rw [decide_eq_true hc,if_pos rfl]
       have hol : out.length = n + m := by
        have := hp.length_eq
        rw [List.length_append,List.length_take,List.length_take] at this
        omega
       refine fF (by simp; omega) (aC (.inl ⟨_,rfl,⟨⟨?_,?_⟩,?_,?_,?_,?_⟩,?_⟩))
       all_goals (dsimp only; (try rw [aS (x := (n : Int) + 1) (by omega) (by omega)]); (try rw [show ((n : Int) + 1).toNat = n + 1 by omega]))
       ·omega
       ·omega
       ·rw [sV hi]
        have e : (out ++ [a[n]]).Perm ((a.take n ++ b.take m) ++ [a[n]]) := hp.append_right _
        refine e.trans ?_
        rw [List.append_assoc,List.append_assoc]
        exact List.Perm.append_left _ List.perm_append_comm
       ·exact grow hs fun y hy => h1 y hy _ (by rw [sG hi]; exact List.mem_cons_self ..)
       ·intro y hy z hz
        obtain ⟨j,hj,hjn,rfl⟩ := aAp hz
        rcases List.mem_append.1 hy with hy | hy
        ·exact h1 y hy _ (by rw [sG hi]; exact List.mem_cons_of_mem _ hz)
        ·rw [List.mem_singleton.1 hy]; exact iL ha (by omega) hj
       ·intro y hy z hz
        rcases List.mem_append.1 hy with hy | hy
        ·exact h2 y hy z hz
        ·rw [List.mem_singleton.1 hy]
         obtain ⟨j,hj,hjn,rfl⟩ := aAp hz
         have := iL hb hjn hj
         omega
       ·omega
      ·rw [decide_eq_false hc,if_neg (by decide)]
       refine aC (.inr ⟨_,rfl,⟨i0,i1⟩,by rw [Int.toNat_natCast]; exact hp,hs,by rw [Int.toNat_natCast]; exact h1,h2,fun z hz => ?_⟩)
       rw [Int.toNat_natCast] at hz
       obtain ⟨j,hj,hjn,rfl⟩ := aAp hz
       have := iL ha hjn hj
       omega
     ·rw [if_neg (by omega)]
      refine aC (.inr ⟨_,rfl,⟨i0,i1⟩,by rw [Int.toNat_natCast]; exact hp,hs,by rw [Int.toNat_natCast]; exact h1,h2,fun z hz => ?_⟩)
      rw [Int.toNat_natCast,List.drop_of_length_le (by omega)] at hz
      cases hz
    ·obtain ⟨⟨q0,q1⟩,qp,qs,g1,g2,g3⟩ := h31
     have hol : v31.2.length = v31.1.toNat + m := by
      have := qp.length_eq
      rw [List.length_append,List.length_take,List.length_take] at this
      omega
     refine fF (by simp; omega) (aC ⟨⟨q0,q1⟩,?_,?_,?_,?_⟩)
     ·rw [sV hm, ← List.append_assoc]
      exact qp.append_right _
     ·exact grow qs fun y hy => g2 y hy _ (by rw [sG hm]; exact List.mem_cons_self ..)
     ·intro y hy z hz
      rcases List.mem_append.1 hy with hy | hy
      ·exact g1 y hy z hz
      ·rw [List.mem_singleton.1 hy]; exact g3 z hz
     ·intro y hy z hz
      rcases List.mem_append.1 hy with hy | hy
      ·exact g2 y hy z (by rw [sG hm]; exact List.mem_cons_of_mem _ hz)
      ·rw [List.mem_singleton.1 hy]
       obtain ⟨j,hj,hjn,rfl⟩ := aAp hz
       exact iL hb (by omega) hj
   all_goals (dsimp only; try rw [aS (x := (m : Int) + 1) (by omega) (by omega)])
   ·omega
   ·omega
   ·rw [show ((m : Int) + 1).toNat = m + 1 by omega]; exact h34.2.1
   ·rw [show ((m : Int) + 1).toNat = m + 1 by omega]; exact h34.2.2.2.2
   ·omega
  ·rw [show k.toNat = b.length by omega,List.take_length] at hp
   exact hp
 ·obtain ⟨⟨q0,q1⟩,qp,qs,g1⟩ := h35
  obtain ⟨n,hn⟩ : ∃ n : Nat,v35.1 = n := ⟨v35.1.toNat,by omega⟩
  rw [hn,Int.toNat_natCast] at qp g1
  have hol : v35.2.length = n + b.length := by
   have := qp.length_eq
   rw [List.length_append,List.length_take] at this
   omega
  rw [hn]
  refine fF (by omega) ?_
  rw [yK]
  refine fF (by simp; omega) (aC ⟨?_,?_⟩)
  ·have e : (v35.2 ++ a.drop n).Perm ((a.take n ++ b) ++ a.drop n) := qp.append_right _
   refine e.trans ?_
   rw [List.append_assoc]
   have e2 : (a.take n ++ (b ++ a.drop n)).Perm (a.take n ++ (a.drop n ++ b)) := List.Perm.append_left _ List.perm_append_comm
   rw [← List.append_assoc (a.take n) (a.drop n) b,List.take_append_drop] at e2
   exact e2
  ·show List.Pairwise _ _
   rw [List.pairwise_append]
   refine ⟨qs,?_,g1⟩
   have := ha
   unfold mH at this
   rw [← List.take_append_drop n a,List.pairwise_append] at this
   exact this.2.1
theorem aFo : ∀ (f : Nat) {xs : List aO},xs.length ≤ f → xs.length ≤ 100000 → Ok (jI (f + 1) xs) (fun r => r.Perm xs ∧ mH r)
 | f,xs,hf,hl => by
  unfold jI
  refine bQ (fun h2 => aC ⟨.refl _,?_⟩) fun h2 => ?_
  ·match xs,h2 with
   | [],_ => exact .nil
   | [x],_ => exact List.pairwise_singleton ..
   | x :: y :: r,h => simp at h; omega
  ·obtain ⟨m,hm⟩ : ∃ m : Nat,(xs.length : Int).tdiv 2 = m := ⟨xs.length / 2,by rw [Int.tdiv_eq_ediv_of_nonneg (by omega)]; omega⟩
   have hm2 : m = xs.length / 2 := by rw [Int.tdiv_eq_ediv_of_nonneg (by omega)] at hm; omega
   rw [hm,aS (x := (m : Int)) (by omega) (by omega)]
   refine fF (by omega) (fF (by omega) ?_)
   rw [aOl,yK]
   obtain ⟨g,rfl⟩ : ∃ g,f = g + 1 := ⟨f - 1,by omega⟩
   refine aN (aFo g (xs := xs.take m) (by rw [List.length_take]; omega) (by rw [List.length_take]; omega)) fun v4 h4 => ?_
   refine aN (aFo g (xs := xs.drop m) (by rw [List.length_drop]; omega) (by rw [List.length_drop]; omega)) fun v5 h5 => ?_
   have l4 := h4.1.length_eq
   have l5 := h5.1.length_eq
   rw [List.length_take] at l4
   rw [List.length_drop] at l5
   refine aN (aP4 h4.2 h5.2 (by omega)) fun v6 h6 => aC ⟨?_,h6.2⟩
   have := h6.1.trans ((h4.1.append h5.1))
   rwa [List.take_append_drop] at this
theorem aOh {xs : List aO} (hl : xs.length ≤ 100000) : Ok (jI aLn xs) (fun r => r.Perm xs ∧ mH r) := by
 have e : aLn = (aLn - 1) + 1 := by unfold aLn; rfl
 rw [e]
 exact aFo _ (by unfold aLn; omega) hl
theorem aJv {xs : List aO} (hs : mH xs) (hl : xs.length ≤ 100000) (v : Int) : Ok (pO xs v) (fun k => (0 ≤ k ∧ k ≤ xs.length) ∧ (∀ (i : Nat) (hi : i < xs.length),(i : Int) < k → xs[i].value < v) ∧ ∀ (i : Nat) (hi : i < xs.length),k ≤ (i : Int) → v ≤ xs[i].value) := by
 unfold pO
 refine aN (P := fun (k : Int) => (0 ≤ k ∧ k ≤ xs.length) ∧ (∀ (i : Nat) (hi : i < xs.length),(i : Int) < k → xs[i].value < v) ∧ ∀ (i : Nat) (hi : i < xs.length),k ≤ (i : Int) → v ≤ xs[i].value) ?_ fun k h => aC h
 refine cV (I := fun (s : Int × Int) => (0 ≤ s.1 ∧ s.1 ≤ s.2 ∧ s.2 ≤ xs.length) ∧ (∀ (i : Nat) (hi : i < xs.length),(i : Int) < s.1 → xs[i].value < v) ∧ ∀ (i : Nat) (hi : i < xs.length),s.2 ≤ (i : Int) → v ≤ xs[i].value) (m := fun s => (s.2 - s.1).toNat) ?_ _ ⟨⟨by dsimp only; omega,by dsimp only; omega,by dsimp only; omega⟩,fun i hi h => by dsimp only at h; omega,fun i hi h => by dsimp only at h; omega⟩ (by dsimp only; omega)
 rintro ⟨a,b⟩ ⟨⟨a0,ab,b1⟩,h1,h2⟩
 dsimp only at a0 ab b1 h1 h2 ⊢
 refine bQ (fun h => ?_) fun h => aC (.inr ⟨_,rfl,⟨a0,by omega⟩,h1,fun i hi hh => h2 i hi (by omega)⟩)
 have e : w64 ((w64 (a + b)).tdiv 2) = (a + b) / 2 := by
  rw [aS (x := a + b) (by omega) (by omega),Int.tdiv_eq_ediv_of_nonneg (by omega),aS (by omega) (by omega)]
 obtain ⟨m,hm⟩ : ∃ m : Nat,(a + b) / 2 = m := ⟨((a + b) / 2).toNat,by omega⟩
 rw [e,hm,dP (show m < xs.length by omega),Option.bind_some,aS (x := (m : Int) + 1) (by omega) (by omega)]
 refine bQ (fun hv => aC (.inl ⟨_,rfl,⟨⟨by dsimp only; omega,by dsimp only; omega,b1⟩,fun i hi hh => ?_,h2⟩,by dsimp only; omega⟩)) fun hv => aC (.inl ⟨_,rfl,⟨⟨a0,by dsimp only; omega,by dsimp only; omega⟩,h1,fun i hi hh => ?_⟩,by dsimp only; omega⟩)
 ·dsimp only at hh
  have := iL hs (i := i) (j := m) (by omega) (by omega)
  omega
 ·dsimp only at hh
  have := iL hs (i := m) (j := i) (by omega) hi
  omega
end Go.Proofs.YtgcdbbidmfdonaaGreat
namespace Go.Proofs.YtgcdbbidmfdonaaGreat
set_option linter.unusedVariables false
def gL (t : List bE) : Prop := ∃ a b c d : Int,t = [⟨b,c⟩,⟨a,d⟩] ∧ (60 ≤ a ∧ a ≤ b ∧ b ≤ 84) ∧ 7 ≤ c ∧ c ≤ d ∧ d ≤ 10
def pT : List bE → Int
 | [x,y] => y.Driver * x.Driver
 | _ => 1
def qT : List bE → Int
 | [x,y] => x.Driven * y.Driven
 | _ => 1
def nX (r : aA) (p q : Int) : Int := dD (p * r.Den - q * r.Num)
def aCr (r : aA) (t : List bE) : Int := nX r (pT t) (qT t)
def ltT : List bE → List bE → Prop
 | [x,y],[z,w] => x.Driver + x.Driven + y.Driver + y.Driven < z.Driver + z.Driven + w.Driver + w.Driven ∨ (x.Driver + x.Driven + y.Driver + y.Driven = z.Driver + z.Driven + w.Driver + w.Driven ∧ (x.Driver < z.Driver ∨ (x.Driver = z.Driver ∧ (x.Driven < z.Driven ∨ (x.Driven = z.Driven ∧ (y.Driver < w.Driver ∨ (y.Driver = w.Driver ∧ y.Driven < w.Driven)))))))
 | _,_ => False
def qY (r : aA) (t u : List bE) : Prop := aCr r t * qT u < aCr r u * qT t ∨ (aCr r t * qT u = aCr r u * qT t ∧ ltT t u)
theorem uR {a b : Int} {A B : Int} (ha : 0 < a) (hA : a ≤ A) (hb : 0 < b) (hB : b ≤ B) : 0 < a * b ∧ a * b ≤ A * B := by
 refine ⟨Int.mul_pos ha hb,?_⟩
 exact Int.mul_le_mul hA hB (by omega) (by omega)
theorem aBb {t : List bE} (h : gL t) : (0 < pT t ∧ pT t ≤ 7056) ∧ 0 < qT t ∧ qT t ≤ 100 := by
 obtain ⟨a,b,c,d,rfl,⟨h1,h2,h3⟩,h4,h5,h6⟩ := h
 have q1 := uR (a := a) (b := b) (A := 84) (B := 84) (by omega) (by omega) (by omega) h3
 have q2 := uR (a := c) (b := d) (A := 10) (B := 10) (by omega) (by omega) (by omega) h6
 exact ⟨⟨q1.1,by show a * b ≤ 7056; omega⟩,q2.1,by show c * d ≤ 100; omega⟩
theorem aGg {r : aA} {p q : Int} (hn : 0 ≤ r.Num ∧ r.Num ≤ 1000000) (hd : 0 ≤ r.Den ∧ r.Den ≤ 1000000) (hp : 0 < p ∧ p ≤ 7056) (hq : 0 < q ∧ q ≤ 100) : (0 ≤ p * r.Den ∧ p * r.Den ≤ 7056000000) ∧ (0 ≤ q * r.Num ∧ q * r.Num ≤ 100000000) ∧ 0 ≤ nX r p q ∧ nX r p q ≤ 8000000000 := by
 have h1 : p * r.Den ≤ 7056 * 1000000 := Int.mul_le_mul hp.2 hd.2 hd.1 (by omega)
 have h2 : q * r.Num ≤ 100 * 1000000 := Int.mul_le_mul hq.2 hn.2 hn.1 (by omega)
 have h3 := Int.mul_nonneg (show 0 ≤ p by omega) hd.1
 have h4 := Int.mul_nonneg (show 0 ≤ q by omega) hn.1
 refine ⟨⟨h3,by omega⟩,⟨h4,by omega⟩,?_⟩
 unfold nX dD
 omega
theorem aPs {a b c p q s : Int} (hp : 0 < p) (hq : 0 < q) (hs : 0 < s) (h1 : a * q ≤ b * p) (h2 : b * s ≤ c * q) : a * s ≤ c * p := by
 refine Int.le_of_mul_le_mul_right (a := q) ?_ hq
 have e1 := Int.mul_le_mul_of_nonneg_right h1 (show 0 ≤ s by omega)
 have e2 := Int.mul_le_mul_of_nonneg_right h2 (show 0 ≤ p by omega)
 have e3 : a * s * q = a * q * s := by rw [Int.mul_assoc,Int.mul_comm s q, ← Int.mul_assoc]
 have e4 : c * p * q = c * q * p := by rw [Int.mul_assoc,Int.mul_comm p q, ← Int.mul_assoc]
 have e5 : b * p * s = b * s * p := by rw [Int.mul_assoc,Int.mul_comm p s, ← Int.mul_assoc]
 rw [e3,e4]
 rw [e5] at e1
 omega
theorem aEk {a b c p q s : Int} (hp : 0 < p) (hq : 0 < q) (hs : 0 < s) (h1 : a * q ≤ b * p) (h2 : b * s ≤ c * q) (h : a * q < b * p ∨ b * s < c * q) : a * s < c * p := by
 refine Int.lt_of_mul_lt_mul_right (a := q) ?_ (by omega)
 have e1 := Int.mul_le_mul_of_nonneg_right h1 (show 0 ≤ s by omega)
 have e2 := Int.mul_le_mul_of_nonneg_right h2 (show 0 ≤ p by omega)
 have e3 : a * s * q = a * q * s := by rw [Int.mul_assoc,Int.mul_comm s q, ← Int.mul_assoc]
 have e4 : c * p * q = c * q * p := by rw [Int.mul_assoc,Int.mul_comm p q, ← Int.mul_assoc]
 have e5 : b * p * s = b * s * p := by rw [Int.mul_assoc,Int.mul_comm p s, ← Int.mul_assoc]
 rw [e3,e4]
 rcases h with h | h
 ·have := Int.mul_lt_mul_of_pos_right h hs
  omega
 ·have := Int.mul_lt_mul_of_pos_right h hp
  omega
theorem aM6 {t : List bE} (h : gL t) : ¬ ltT t t := by
 obtain ⟨a,b,c,d,rfl,_⟩ := h
 simp only [ltT]
 omega
theorem aTi {t u w : List bE} (ht : gL t) (hu : gL u) (hw : gL w) (h1 : ltT t u) (h2 : ltT u w) : ltT t w := by
 obtain ⟨a,b,c,d,rfl,_⟩ := ht
 obtain ⟨e,f,g,h,rfl,_⟩ := hu
 obtain ⟨i,j,k,l,rfl,_⟩ := hw
 simp only [ltT] at h1 h2 ⊢
 omega
theorem aTh {t u : List bE} (ht : gL t) (hu : gL u) (h1 : ¬ ltT t u) (h2 : ¬ ltT u t) : t = u := by
 obtain ⟨a,b,c,d,rfl,_⟩ := ht
 obtain ⟨e,f,g,h,rfl,_⟩ := hu
 simp only [ltT] at h1 h2
 have : b = f ∧ c = g ∧ a = e ∧ d = h := by omega
 obtain ⟨rfl,rfl,rfl,rfl⟩ := this
 rfl
theorem aM3 {r : aA} {t u w : List bE} (ht : gL t) (hu : gL u) (hw : gL w) (h1 : qY r t u) (h2 : qY r u w) : qY r t w := by
 have q1 := (aBb ht).2.1
 have q2 := (aBb hu).2.1
 have q3 := (aBb hw).2.1
 unfold qY at h1 h2 ⊢
 rcases h1 with h1 | ⟨h1,l1⟩
 ·rcases h2 with h2 | ⟨h2,l2⟩
  ·exact .inl (aEk q1 q2 q3 (by omega) (by omega) (.inl h1))
  ·exact .inl (aEk q1 q2 q3 (by omega) (by omega) (.inl h1))
 ·rcases h2 with h2 | ⟨h2,l2⟩
  ·exact .inl (aEk q1 q2 q3 (by omega) (by omega) (.inr h2))
  ·refine .inr ⟨?_,aTi ht hu hw l1 l2⟩
   have a1 := aPs q1 q2 q3 (a := aCr r t) (b := aCr r u) (c := aCr r w) (by omega) (by omega)
   have a2 := aPs q3 q2 q1 (a := aCr r w) (b := aCr r u) (c := aCr r t) (by omega) (by omega)
   omega
theorem aPz {r : aA} {t u : List bE} (ht : gL t) (hu : gL u) (h1 : ¬ qY r t u) (h2 : ¬ qY r u t) : t = u := by
 unfold qY at h1 h2
 refine aTh ht hu (fun h => h1 (.inr ⟨?_,h⟩)) fun h => h2 (.inr ⟨?_,h⟩) <;> omega
theorem aJ0 {r : aA} {t : List bE} (ht : gL t) : ¬ qY r t t := by
 rintro (h | ⟨_,h⟩)
 ·omega
 ·exact aM6 ht h
theorem aR1 {r : aA} {w u s : List bE} (hw : gL w) (hu : gL u) (hs : gL s) (h : qY r w u) (k : ¬ qY r w s) : ¬ qY r u s := fun h2 => k (aM3 hw hu hs h h2)
theorem aPd {r : aA} {t u : List bE} (ht : gL t) (hu : gL u) (h1 : ∀ w,gL w → ¬ qY r w t) (h2 : ∀ w,gL w → ¬ qY r w u) : t = u := aPz ht hu (h2 t ht) (h1 u hu)
theorem aJ5 {r : aA} {p q q' : Int} (hp : 0 < p * r.Den) (h0 : 0 ≤ r.Num) (hq : q < q') (h : q' * r.Num ≤ p * r.Den) : nX r p q' * q < nX r p q * q' := by
 have e1 : q * r.Num ≤ q' * r.Num := Int.mul_le_mul_of_nonneg_right (by omega) h0
 have e2 : nX r p q' = p * r.Den - q' * r.Num := by unfold nX dD; omega
 have e3 : nX r p q = p * r.Den - q * r.Num := by unfold nX dD; omega
 rw [e2,e3,Int.sub_mul,Int.sub_mul]
 have e4 : q * r.Num * q' = q' * r.Num * q := by rw [Int.mul_assoc,Int.mul_comm r.Num, ← Int.mul_assoc,Int.mul_comm q q',Int.mul_assoc,Int.mul_comm q, ← Int.mul_assoc]
 have e5 := Int.mul_lt_mul_of_pos_left hq hp
 omega
theorem aGx {r : aA} {p q q' : Int} (hp : 0 < p * r.Den) (h0 : 0 ≤ r.Num) (hq : q' < q) (h : p * r.Den ≤ q' * r.Num) : nX r p q' * q < nX r p q * q' := by
 have e1 : q' * r.Num ≤ q * r.Num := Int.mul_le_mul_of_nonneg_right (by omega) h0
 have e2 : nX r p q' = q' * r.Num - p * r.Den := by unfold nX dD; omega
 have e3 : nX r p q = q * r.Num - p * r.Den := by unfold nX dD; omega
 rw [e2,e3,Int.sub_mul,Int.sub_mul]
 have e4 : q * r.Num * q' = q' * r.Num * q := by rw [Int.mul_assoc,Int.mul_comm r.Num, ← Int.mul_assoc,Int.mul_comm q q',Int.mul_assoc,Int.mul_comm q, ← Int.mul_assoc]
 have e5 := Int.mul_lt_mul_of_pos_left hq hp
 omega
theorem aDp {lo hi : Int} {l : List Int} : l ∈ bX lo hi 2 ↔ ∃ a b : Int,l = [a,b] ∧ lo ≤ a ∧ a ≤ b ∧ b ≤ hi := by
 have ext : ∀ (x l : List Int),l ∈ xF lo hi x ↔ ∃ t : Int,l = x ++ [t] ∧ pD lo x ≤ t ∧ t ≤ hi := fun x l => by
  unfold xF
  rw [List.mem_map]
  constructor
  ·rintro ⟨i,hi,rfl⟩
   rw [List.mem_range] at hi
   exact ⟨_,rfl,by omega,by omega⟩
  ·rintro ⟨t,rfl,h1,h2⟩
   exact ⟨(t - pD lo x).toNat,by rw [List.mem_range]; omega,by congr 2; omega⟩
 unfold bX
 rw [List.mem_flatMap]
 constructor
 ·rintro ⟨x,hx,hl⟩
  unfold bX at hx
  rw [List.mem_flatMap] at hx
  obtain ⟨y,hy,hx⟩ := hx
  unfold bX at hy
  rw [List.mem_singleton] at hy
  subst hy
  obtain ⟨a,rfl,h1,h2⟩ := (ext _ _).1 hx
  obtain ⟨b,rfl,h3,h4⟩ := (ext _ _).1 hl
  simp [pD] at h1 h3
  exact ⟨a,b,rfl,h1,h3,h4⟩
 ·rintro ⟨a,b,rfl,h1,h2,h3⟩
  refine ⟨[a],?_,(ext _ _).2 ⟨b,rfl,by simpa [pD] using h2,h3⟩⟩
  unfold bX
  rw [List.mem_flatMap]
  exact ⟨[],by simp [bX],(ext _ _).2 ⟨a,rfl,by simpa [pD] using h1,by omega⟩⟩
end Go.Proofs.YtgcdbbidmfdonaaGreat
namespace Go.Proofs.YtgcdbbidmfdonaaGreat
set_option linter.unusedVariables false
set_option maxRecDepth 100000
def aFz (lo hi : Int) (n : Nat) (p : aO) : Prop := p.teeth.length = n ∧ ∀ t ∈ p.teeth,lo ≤ t ∧ t ≤ hi
def aJl (k : Int) : Nat := if k ≤ 0 then 1 else if k = 1 then 31 else if k = 2 then 961 else 29791
theorem aGa {k : Int} (h0 : 0 ≤ k) (h1 : k < 3) : aJl (k + 1) = 31 * aJl k ∧ aJl k ≤ 961 := by
 have : k = 0 ∨ k = 1 ∨ k = 2 := by omega
 rcases this with rfl | rfl | rfl <;> decide
theorem aKg {lo hi cnt : Int} (l0 : 1 ≤ lo) (lh : lo ≤ hi) (h1 : hi ≤ 120) (sp : hi ≤ lo + 30) (c0 : 0 ≤ cnt) (c1 : cnt ≤ 3) : Ok (fN lo hi cnt) (fun xs => (1 ≤ xs.length ∧ xs.length ≤ aJl cnt) ∧ ∀ p ∈ xs,aFz lo hi cnt.toNat p) := by
 unfold fN
 refine aN (P := fun (xs : List aO) => (1 ≤ xs.length ∧ xs.length ≤ aJl cnt) ∧ ∀ p ∈ xs,aFz lo hi cnt.toNat p) ?_ fun v h => aC h
 refine cV (I := fun (s : List aO × Int) => (0 ≤ s.2 ∧ s.2 ≤ cnt) ∧ (1 ≤ s.1.length ∧ s.1.length ≤ aJl s.2) ∧ ∀ p ∈ s.1,aFz lo hi s.2.toNat p) (m := fun s => (cnt - s.2).toNat) ?_ _ ⟨⟨by dsimp only; omega,by dsimp only; omega⟩,⟨by simp,by simp [aJl]⟩,fun p hp => by simp at hp; subst hp; exact ⟨rfl,fun t ht => by cases ht⟩⟩ (by dsimp only; omega)
 rintro ⟨xs,k⟩ ⟨⟨k0,k1⟩,⟨x0,x1⟩,xp⟩
 dsimp only at k0 k1 x0 x1 xp ⊢
 refine bQ (fun hk => ?_) fun hk => aC (.inr ⟨_,rfl,?_⟩)
 ·obtain ⟨bs,bb⟩ := aGa k0 (show k < 3 by omega)
  refine aN (P := fun (ys : List aO) => (1 ≤ ys.length ∧ ys.length ≤ aJl (k + 1)) ∧ ∀ p ∈ ys,aFz lo hi (k + 1).toNat p) ?_ fun v74 h74 => aC (.inl ⟨_,rfl,⟨⟨?_,?_⟩,?_,?_⟩,?_⟩)
  ·refine aN (P := fun (ys : List aO) => (1 ≤ ys.length ∧ ys.length ≤ aJl (k + 1)) ∧ ∀ p ∈ ys,aFz lo hi (k + 1).toNat p) ?_ fun v h => aC h
   refine cV (I := fun (s : Int × List aO) => (0 ≤ s.1 ∧ s.1 ≤ xs.length) ∧ ((s.2.length : Int) ≤ 31 * s.1 ∧ (0 < s.1 → 1 ≤ s.2.length)) ∧ ∀ p ∈ s.2,aFz lo hi (k + 1).toNat p) (m := fun s => (xs.length - s.1).toNat) ?_ _ ⟨⟨by dsimp only; omega,by dsimp only; omega⟩,⟨by simp,fun h => by simp at h⟩,fun p hp => by cases hp⟩ (by dsimp only; omega)
   rintro ⟨i,ys⟩ ⟨⟨i0,i1⟩,⟨y0,y1⟩,yp⟩
   dsimp only at i0 i1 y0 y1 yp ⊢
   refine bQ (fun hin => ?_) fun hin => aC (.inr ⟨_,rfl,⟨y1 (by omega),by omega⟩,yp⟩)
   obtain ⟨n,rfl⟩ : ∃ n : Nat,i = n := ⟨i.toNat,by omega⟩
   have hn : n < xs.length := by omega
   obtain ⟨pl,pt⟩ := xp _ (List.getElem_mem hn)
   simp only [dP hn,Option.bind_some]
   refine aN (P := fun (zs : List aO) => ((zs.length : Int) ≤ 31 * (n + 1) ∧ 1 ≤ zs.length) ∧ ∀ p ∈ zs,aFz lo hi (k + 1).toNat p) ?_ fun v72 h72 => aC (.inl ⟨_,rfl,⟨⟨?_,?_⟩,⟨?_,fun _ => h72.1.2⟩,h72.2⟩,?_⟩)
   ·refine aN (P := fun f => lo ≤ f ∧ f ≤ hi) (bQ (fun hk0 => ?_) fun _ => aC ⟨Int.le_refl _,lh⟩) fun f hf => ?_
    ·rw [aS (x := k - 1) (by omega) (by omega)]
     refine aN (nZ (i := k - 1) (by omega) (by rw [pl]; omega)) fun v58 h58 => aC (pt _ h58.1)
    ·refine cV (I := fun (s : Int × List aO) => (f ≤ s.1 ∧ s.1 ≤ hi + 1) ∧ ((s.2.length : Int) ≤ 31 * n + (s.1 - f) ∧ (f < s.1 → 1 ≤ s.2.length)) ∧ ∀ p ∈ s.2,aFz lo hi (k + 1).toNat p) (m := fun s => (hi + 1 - s.1).toNat) ?_ _ ⟨⟨by dsimp only; omega,by dsimp only; omega⟩,⟨by dsimp only; omega,fun h => by dsimp only at h; omega⟩,yp⟩ (by dsimp only; omega)
     rintro ⟨t,zs⟩ ⟨⟨t0,t1⟩,⟨z0,z1⟩,zp⟩
     dsimp only at t0 t1 z0 z1 zp ⊢
     refine bQ (fun ht => ?_) fun ht => aC (.inr ⟨_,rfl,⟨by omega,z1 (by omega)⟩,zp⟩)
     rw [aN9 (by omega),Option.bind_some]
     refine fF (by simp; omega) (fF (by simp; omega) (aC (.inl ⟨_,rfl,⟨⟨?_,?_⟩,⟨?_,fun _ => by simp⟩,?_⟩,?_⟩)))
     all_goals (dsimp only; try rw [aS (x := t + 1) (by omega) (by omega)])
     ·omega
     ·omega
     ·simp; omega
     ·intro p hp
      rcases List.mem_append.1 hp with hp | hp
      ·exact zp p hp
      ·rw [List.mem_singleton.1 hp]
       refine ⟨by simp [pl]; omega,fun u hu => ?_⟩
       rcases List.mem_append.1 hu with hu | hu
       ·exact pt u hu
       ·rw [List.mem_singleton.1 hu]; omega
     ·omega
   all_goals (dsimp only; try rw [aS (x := (n : Int) + 1) (by omega) (by omega)])
   ·omega
   ·omega
   ·exact h72.1.1
   ·omega
  all_goals (dsimp only; try rw [aS (x := k + 1) (by omega) (by omega)])
  ·omega
  ·omega
  ·exact h74.1
  ·exact h74.2
  ·omega
 ·rw [show k = cnt by omega] at x1 xp
  exact ⟨⟨x0,x1⟩,xp⟩
theorem aPi {a b : List Int} (ha : a.length ≤ 1000) (hab : a.length = b.length) : Ok (iZ a b) (fun t => t.length = b.length ∧ ∀ p ∈ t,p.Driver ∈ a ∧ p.Driven ∈ b) := by
 unfold iZ
 refine aN (aFp ha) fun v1 h1 => aN (aFp (show b.length ≤ 1000 by omega)) fun v2 h2 => ?_
 have l1 := h1.1.length_eq
 have l2 := h2.1.length_eq
 refine aN (P := fun (t : List bE) => t.length = b.length ∧ ∀ p ∈ t,p.Driver ∈ a ∧ p.Driven ∈ b) ?_ fun t h => aC h
 refine cV (I := fun (s : Int × List bE) => (0 ≤ s.1 ∧ s.1 ≤ v2.length) ∧ (s.2.length : Int) = s.1 ∧ ∀ p ∈ s.2,p.Driver ∈ a ∧ p.Driven ∈ b) (m := fun s => (v2.length - s.1).toNat) ?_ _ ⟨⟨by dsimp only; omega,by dsimp only; omega⟩,by simp,fun p hp => by cases hp⟩ (by dsimp only; omega)
 rintro ⟨i,out⟩ ⟨⟨i0,i1⟩,il,ip⟩
 dsimp only at i0 i1 il ip ⊢
 refine bQ (fun hi => ?_) fun hi => aC (.inr ⟨_,rfl,by omega,ip⟩)
 rw [aS (x := (v1.length : Int) - 1) (by omega) (by omega),aS (x := (v1.length : Int) - 1 - i) (by omega) (by omega)]
 refine aN (nZ (i := (v1.length : Int) - 1 - i) (by omega) (by omega)) fun v8 h8 => aN (nZ (i := i) i0 hi) fun v9 h9 => fF (by simp; omega) (aC (.inl ⟨_,rfl,⟨⟨?_,?_⟩,?_,?_⟩,?_⟩))
 all_goals (dsimp only; try rw [aS (x := i + 1) (by omega) (by omega)])
 ·omega
 ·omega
 ·simp; omega
 ·intro p hp
  rcases List.mem_append.1 hp with hp | hp
  ·exact ip p hp
  ·rw [List.mem_singleton.1 hp]
   exact ⟨h1.1.mem_iff.1 h8.1,h2.1.mem_iff.1 h9.1⟩
 ·omega
theorem aRb {t : List bE} (hl : t.length ≤ 1000) : Ok (kS t) (fun _ => True) := by
 unfold kS
 refine aN (P := fun _ => True) ?_ fun v _ => aC trivial
 refine cV (I := fun (s : Int × Int) => 0 ≤ s.2 ∧ s.2 ≤ t.length) (m := fun s => (t.length - s.2).toNat) ?_ _ ⟨by dsimp only; omega,by dsimp only; omega⟩ (by dsimp only; omega)
 rintro ⟨k,i⟩ ⟨i0,i1⟩
 dsimp only at i0 i1 ⊢
 refine bQ (fun hi => ?_) fun hi => aC (.inr ⟨_,rfl,trivial⟩)
 refine aN (nZ i0 hi) fun v5 _ => aN (nZ i0 hi) fun v6 _ => aC (.inl ⟨_,rfl,⟨?_,?_⟩,?_⟩)
 all_goals (dsimp only; rw [aS (x := i + 1) (by omega) (by omega)]; omega)
theorem aMm {t : List bE} (hl : t.length ≤ 1000) (v : Int) {step : Int × List Int → Option ((Int × List Int) ⊕ List Int)} (hstep : ∀ s,step s = if s.1 < (t.length : Int) then ((atI t s.1).bind fun v8 => ((atI t s.1).bind fun v9 => (chk ((s.2.length + [v8.Driver,v9.Driven].length) * 1 * 64 ≤ 140737488355328) (some (.inl (w64 (s.1 + 1),s.2 ++ [v8.Driver,v9.Driven])))))) else some (.inr s.2)) : Ok (cK step (0,[v])) (fun xs => xs.length ≤ 3000) := by
 refine cV (I := fun (s : Int × List Int) => (0 ≤ s.1 ∧ s.1 ≤ t.length) ∧ (s.2.length : Int) = 1 + 2 * s.1) (m := fun s => (t.length - s.1).toNat) ?_ _ ⟨⟨by dsimp only; omega,by dsimp only; omega⟩,by simp⟩ (by dsimp only; omega)
 rintro ⟨i,xs⟩ ⟨⟨i0,i1⟩,il⟩
 dsimp only at i0 i1 il ⊢
 rw [hstep]
 dsimp only
 refine bQ (fun hi => ?_) fun hi => aC (.inr ⟨_,rfl,by omega⟩)
 refine aN (nZ i0 hi) fun v5 _ => aN (nZ i0 hi) fun v6 _ => fF (by simp; omega) (aC (.inl ⟨_,rfl,⟨⟨?_,?_⟩,?_⟩,?_⟩))
 all_goals (dsimp only; try rw [aS (x := i + 1) (by omega) (by omega)])
 ·omega
 ·omega
 ·simp; omega
 ·omega
theorem aK3 {a b : List bE} (ha : a.length ≤ 1000) (hb : b.length ≤ 1000) : Ok (iH a b) (fun _ => True) := by
 unfold iH
 refine aN (aRb ha) fun v1 _ => aN (aRb hb) fun v2 _ => ?_
 refine aN (aMm ha v1 fun s => rfl) fun xs hx => aN (aMm hb v2 fun s => rfl) fun ys hy => ?_
 refine aN (P := fun _ => True) ?_ fun v33 _ => ?_
 ·refine cV (I := fun (s : Int) => 0 ≤ s ∧ s ≤ xs.length) (m := fun s => (xs.length - s).toNat) ?_ _ ⟨by omega,by omega⟩ (by omega)
  rintro i ⟨i0,i1⟩
  refine aN (P := fun b => b = true → i < xs.length ∧ i < ys.length) (bQ (fun h1 => aC fun h2 => ⟨h1,of_decide_eq_true h2⟩) fun _ => aC fun h => by cases h) fun b hb => bQ (fun hbt => ?_) fun _ => aC (.inr ⟨_,rfl,trivial⟩)
  obtain ⟨j1,j2⟩ := hb hbt
  refine aN (nZ i0 j1) fun v29 _ => aN (nZ i0 j2) fun v30 _ => bQ (fun _ => aC (.inr ⟨_,rfl,trivial⟩)) fun _ => ?_
  refine aN (nZ i0 j1) fun v31 _ => aN (nZ i0 j2) fun v32 _ => bQ (fun _ => aC (.inr ⟨_,rfl,trivial⟩)) fun _ => aC (.inl ⟨_,rfl,⟨?_,?_⟩,?_⟩)
  all_goals (rw [aS (x := i + 1) (by omega) (by omega)]; omega)
 ·cases v33 with
  | inr z => exact aC trivial
  | inl u =>
   unfold iY oX
   refine aN (P := fun _ => True) ?_ fun _ _ => aC trivial
   simp only [Option.bind_some]
   exact bQ (fun _ => aC trivial) fun _ => bQ (fun _ => aC trivial) fun _ => aC trivial
def trI (t : List bE) : Prop := t.length = 2 ∧ ∀ p ∈ t,(60 ≤ p.Driver ∧ p.Driver ≤ 84) ∧ 7 ≤ p.Driven ∧ p.Driven ≤ 10
theorem aOo {s : dK} (r : aA) {a b : aO} (ha : aFz 60 84 2 a) (hb : aFz 7 10 2 b) (hs : s.train = [] ∨ trI s.train) : Ok (eZ s r a b) (fun s' => trI s'.train) := by
 unfold eZ
 refine aN (P := fun _ => True) (by unfold jH; exact bQ (fun _ => aC trivial) fun _ => aC trivial) fun v1 _ => ?_
 have hg : s.train ≠ [] → trI s.train := fun h => hs.resolve_left h
 have hl : s.train.length ≤ 2 := by
  rcases hs with h | h
  ·rw [h]; simp
  ·rw [h.1]; omega
 refine aN (P := fun b => b = true → s.train ≠ []) (bQ (fun h => aC fun _ e => by rw [e] at h; simp at h) fun _ => aC fun h => by cases h) fun v2 h2 => bQ (fun h => aC (hg (h2 h))) fun _ => ?_
 refine aN (aPi (a := a.teeth) (b := b.teeth) (by rw [ha.1]; omega) (by rw [ha.1,hb.1])) fun t ht => ?_
 have hT : trI t := ⟨by rw [ht.1,hb.1],fun p hp => ⟨ha.2 _ (ht.2 p hp).1,hb.2 _ (ht.2 p hp).2⟩⟩
 refine aN (P := fun b => b = false → s.train ≠ []) ?_ fun v5 h5 => bQ (fun _ => aC hT) fun h => aC (hg (h5 (by simpa using h)))
 refine bQ (fun _ => aC fun h => by cases h) fun hne => ?_
 have hne' : s.train ≠ [] := fun e => hne (by rw [e]; rfl)
 refine bQ (fun _ => aC fun _ => hne') fun _ => aN (aK3 (by rw [hT.1]; omega) (by omega)) fun v4 _ => aC fun _ => hne'
theorem aOa {r : aA} (hr : r.Num ≠ 0) : Ok (iB r ⟨60,84,7,10,2⟩) trI := by
 unfold iB
 refine aN (aKg (lo := 60) (hi := 84) (cnt := 2) (by decide) (by decide) (by decide) (by decide) (by decide) (by decide)) fun v1 h1 => ?_
 refine aN (aKg (lo := 7) (hi := 10) (cnt := 2) (by decide) (by decide) (by decide) (by decide) (by decide) (by decide)) fun v2 h2 => ?_
 have e2 : aJl 2 = 961 := by decide
 rw [e2] at h1 h2
 refine aN (aOh (by omega)) fun v3 h3 => ?_
 have l3 := h3.1.length_eq
 have p3 : ∀ p ∈ v3,aFz 7 10 2 p := fun p hp => h2.2 p (h3.1.mem_iff.1 hp)
 have p1 : ∀ p ∈ v1,aFz 60 84 2 p := h1.2
 refine aN (P := fun (s : dK) => trI s.train) ?_ fun v70 h70 => aC h70
 refine cV (I := fun (s : Int × dK) => (0 ≤ s.1 ∧ s.1 ≤ v1.length) ∧ (s.2.train = [] ∨ trI s.2.train) ∧ (0 < s.1 → trI s.2.train)) (m := fun s => (v1.length - s.1).toNat) ?_ _ ⟨⟨by dsimp only; omega,by dsimp only; omega⟩, .inl rfl,fun h => by dsimp only at h; omega⟩ (by dsimp only; omega)
 rintro ⟨i,s⟩ ⟨⟨i0,i1⟩,hs,hp⟩
 dsimp only at i0 i1 hs hp ⊢
 refine bQ (fun hi => ?_) fun hi => aC (.inr ⟨_,rfl,hp (by omega)⟩)
 obtain ⟨n,rfl⟩ : ∃ n : Nat,i = n := ⟨i.toNat,by omega⟩
 have hn : n < v1.length := by omega
 have pn := p1 _ (List.getElem_mem hn)
 simp only [dP hn,Option.bind_some]
 refine aN (P := fun (s : dK) => trI s.train) ?_ fun v69 h69 => aC (.inl ⟨_,rfl,⟨⟨?_,?_⟩, .inr h69,fun _ => h69⟩,?_⟩)
 ·refine fF hr (aN (aJv h3.2 (by omega) _) fun k hk => ?_)
  obtain ⟨⟨k0,k1⟩,_⟩ := hk
  refine aN (P := fun (s : dK) => (s.train = [] ∨ trI s.train) ∧ (0 < k → trI s.train)) ?_ fun v54 h54 => ?_
  ·refine bQ (fun hk => ?_) fun hk => aC ⟨hs,fun h => absurd h hk⟩
   rw [aS (x := k - 1) (by omega) (by omega)]
   obtain ⟨q,hq⟩ : ∃ q : Nat,k - 1 = q := ⟨(k - 1).toNat,by omega⟩
   have hq1 : q < v3.length := by omega
   rw [hq,dP hq1,Option.bind_some]
   refine aB2 (P := fun (s : dK) => trI s.train) ?_ fun s h => ⟨.inr h,fun _ => h⟩
   refine cV (I := fun (x : Int × dK) => (-1 ≤ x.1 ∧ x.1 ≤ q) ∧ (x.2.train = [] ∨ trI x.2.train) ∧ (x.1 < q → trI x.2.train)) (m := fun x => (x.1 + 1).toNat) ?_ _ ⟨⟨by dsimp only; omega,by dsimp only; omega⟩,hs,fun h => by dsimp only at h; omega⟩ (by dsimp only; omega)
   rintro ⟨j,u⟩ ⟨⟨j0,j1⟩,hu,hg⟩
   dsimp only at j0 j1 hu hg ⊢
   by_cases hj : 0 ≤ j
   ·obtain ⟨m,rfl⟩ : ∃ m : Nat,j = m := ⟨j.toNat,by omega⟩
    have hm : m < v3.length := by omega
    rw [if_pos hj]
    simp only [dP hm,Option.bind_some]
    refine bQ (fun _ => aN (aOo r pn (p3 _ (List.getElem_mem hm)) hu) fun w hw => aC (.inl ⟨_,rfl,⟨⟨?_,?_⟩, .inr hw,fun _ => hw⟩,?_⟩)) fun hne => aC (.inr ⟨_,rfl,?_⟩)
    ·dsimp only; rw [aS (x := (m : Int) - 1) (by omega) (by omega)]; omega
    ·dsimp only; rw [aS (x := (m : Int) - 1) (by omega) (by omega)]; omega
    ·dsimp only; rw [aS (x := (m : Int) - 1) (by omega) (by omega)]; omega
    ·rcases Int.lt_or_le (m : Int) q with h | h
     ·exact hg h
     ·have : m = q := by omega
      subst this
      simp at hne
   ·rw [if_neg hj,Option.bind_some,if_neg (by decide)]
    exact aC (.inr ⟨_,rfl,hg (by omega)⟩)
  ·refine cV (I := fun (x : Int × dK) => (k ≤ x.1 ∧ x.1 ≤ v3.length) ∧ (x.2.train = [] ∨ trI x.2.train) ∧ (0 < k → trI x.2.train) ∧ (k < x.1 → trI x.2.train)) (m := fun x => (v3.length - x.1).toNat) ?_ _ ⟨⟨by dsimp only; omega,by dsimp only; omega⟩,h54.1,h54.2,fun h => by dsimp only at h; omega⟩ (by dsimp only; omega)
   rintro ⟨j,u⟩ ⟨⟨j0,j1⟩,hu,hg,hg2⟩
   dsimp only at j0 j1 hu hg hg2 ⊢
   by_cases hj : j < v3.length
   ·obtain ⟨m,rfl⟩ : ∃ m : Nat,j = m := ⟨j.toNat,by omega⟩
    obtain ⟨q,rfl⟩ : ∃ q : Nat,k = q := ⟨k.toNat,by omega⟩
    have hm : m < v3.length := by omega
    have hq : q < v3.length := by omega
    rw [if_pos hj]
    simp only [dP hm,dP hq,Option.bind_some]
    refine bQ (fun _ => aN (aOo r pn (p3 _ (List.getElem_mem hm)) hu) fun w hw => aC (.inl ⟨_,rfl,⟨⟨?_,?_⟩, .inr hw,fun _ => hw,fun _ => hw⟩,?_⟩)) fun hne => aC (.inr ⟨_,rfl,?_⟩)
    ·dsimp only; rw [aS (x := (m : Int) + 1) (by omega) (by omega)]; omega
    ·dsimp only; rw [aS (x := (m : Int) + 1) (by omega) (by omega)]; omega
    ·dsimp only; rw [aS (x := (m : Int) + 1) (by omega) (by omega)]; omega
    ·rcases Int.lt_or_le (q : Int) m with h | h
     ·exact hg2 h
     ·have : m = q := by omega
      subst this
      simp at hne
   ·rw [if_neg hj,Option.bind_some,if_neg (by decide)]
    refine aC (.inr ⟨_,rfl,?_⟩)
    rcases Int.lt_or_le k j with h | h
    ·exact hg2 h
    ·exact hg (by omega)
 all_goals (dsimp only; rw [aS (x := (n : Int) + 1) (by omega) (by omega)]; omega)
end Go.Proofs.YtgcdbbidmfdonaaGreat
namespace Go.Proofs.YtgcdbbidmfdonaaGreat
set_option linter.unusedVariables false
set_option maxRecDepth 100000
def aOy (k : Int) : Int := if k ≤ 0 then 1 else if k = 1 then 120 else 14400
theorem aMa {k : Int} (h0 : 0 ≤ k) (h1 : k < 2) : aOy (k + 1) = aOy k * 120 ∧ aOy k ≤ 120 := by
 have : k = 0 ∨ k = 1 := by omega
 rcases this with rfl | rfl <;> decide
theorem aLj (l : List Int) (t : Int) : cU (l ++ [t]) = cU l * t := by unfold cU; rw [List.foldl_append]; rfl
theorem aId (lo hi : Int) (k : Nat) : bX lo hi (k + 1) = (bX lo hi k).flatMap (xF lo hi) := rfl
theorem aKf {lo hi : Int} (l0 : 1 ≤ lo) (lh : lo ≤ hi) (h1 : hi ≤ 120) (sp : hi ≤ lo + 30) : Ok (fN lo hi 2) (fun xs => xs.length ≤ 961 ∧ xs.map (·.teeth) = bX lo hi 2 ∧ ∀ p ∈ xs,p.value = cU p.teeth) := by
 unfold fN
 refine aN (P := fun (xs : List aO) => xs.length ≤ 961 ∧ xs.map (·.teeth) = bX lo hi 2 ∧ ∀ p ∈ xs,p.value = cU p.teeth) ?_ fun v h => aC h
 refine cV (I := fun (s : List aO × Int) => (0 ≤ s.2 ∧ s.2 ≤ 2) ∧ s.1.length ≤ aJl s.2 ∧ s.1.map (·.teeth) = bX lo hi s.2.toNat ∧ ∀ p ∈ s.1,aFz lo hi s.2.toNat p ∧ p.value = cU p.teeth ∧ 1 ≤ p.value ∧ p.value ≤ aOy s.2) (m := fun s => (2 - s.2).toNat) ?_ _ ⟨⟨by dsimp only; omega,by dsimp only; omega⟩,by simp [aJl],by simp [bX],fun p hp => by simp at hp; subst hp; exact ⟨⟨rfl,fun t ht => by cases ht⟩,rfl,by decide,by decide⟩⟩ (by dsimp only; omega)
 rintro ⟨xs,k⟩ ⟨⟨k0,k1⟩,x1,xm,xp⟩
 dsimp only at k0 k1 x1 xm xp ⊢
 refine bQ (fun hk => ?_) fun hk => aC (.inr ⟨_,rfl,?_⟩)
 ·obtain ⟨bs,bb⟩ := aGa k0 (show k < 3 by omega)
  obtain ⟨cs,cb⟩ := aMa k0 (show k < 2 by omega)
  have kt : (k + 1).toNat = k.toNat + 1 := by omega
  refine aN (P := fun (ys : List aO) => ys.length ≤ aJl (k + 1) ∧ ys.map (·.teeth) = bX lo hi (k + 1).toNat ∧ ∀ p ∈ ys,aFz lo hi (k + 1).toNat p ∧ p.value = cU p.teeth ∧ 1 ≤ p.value ∧ p.value ≤ aOy (k + 1)) ?_ fun v74 h74 => aC (.inl ⟨_,rfl,?_⟩)
  ·refine aN (P := fun (ys : List aO) => ys.length ≤ aJl (k + 1) ∧ ys.map (·.teeth) = bX lo hi (k + 1).toNat ∧ ∀ p ∈ ys,aFz lo hi (k + 1).toNat p ∧ p.value = cU p.teeth ∧ 1 ≤ p.value ∧ p.value ≤ aOy (k + 1)) ?_ fun v h => aC h
   refine cV (I := fun (s : Int × List aO) => (0 ≤ s.1 ∧ s.1 ≤ xs.length) ∧ (s.2.length : Int) ≤ 31 * s.1 ∧ s.2.map (·.teeth) = ((xs.take s.1.toNat).map (·.teeth)).flatMap (xF lo hi) ∧ ∀ p ∈ s.2,aFz lo hi (k + 1).toNat p ∧ p.value = cU p.teeth ∧ 1 ≤ p.value ∧ p.value ≤ aOy (k + 1)) (m := fun s => (xs.length - s.1).toNat) ?_ _ ⟨⟨by dsimp only; omega,by dsimp only; omega⟩,by simp,by simp,fun p hp => by cases hp⟩ (by dsimp only; omega)
   rintro ⟨i,ys⟩ ⟨⟨i0,i1⟩,y0,ym,yp⟩
   dsimp only at i0 i1 y0 ym yp ⊢
   refine bQ (fun hin => ?_) fun hin => aC (.inr ⟨_,rfl,by omega,?_,yp⟩)
   ·obtain ⟨n,rfl⟩ : ∃ n : Nat,i = n := ⟨i.toNat,by omega⟩
    have hn : n < xs.length := by omega
    obtain ⟨⟨pl,pt⟩,pv,pv1,pv2⟩ := xp _ (List.getElem_mem hn)
    rw [Int.toNat_natCast] at ym
    simp only [dP hn,Option.bind_some]
    refine aN (P := fun (zs : List aO) => ((zs.length : Int) ≤ 31 * (n + 1)) ∧ zs.map (·.teeth) = ((xs.take (n + 1)).map (·.teeth)).flatMap (xF lo hi) ∧ ∀ p ∈ zs,aFz lo hi (k + 1).toNat p ∧ p.value = cU p.teeth ∧ 1 ≤ p.value ∧ p.value ≤ aOy (k + 1)) ?_ fun v72 h72 => aC (.inl ⟨_,rfl,?_⟩)
    ·refine aN (P := fun f => f = pD lo xs[n].teeth ∧ lo ≤ f ∧ f ≤ hi) (bQ (fun hk0 => ?_) fun hk0 => aC ⟨?_,Int.le_refl _,lh⟩) fun f hf => ?_
     ·rw [aS (x := k - 1) (by omega) (by omega)]
      refine aN (nZ (i := k - 1) (by omega) (by rw [pl]; omega)) fun v58 h58 => aC ⟨?_,pt _ h58.1⟩
      have e := h58.2
      unfold pD
      rw [List.getLast?_eq_getElem?,show xs[n].teeth.length - 1 = (k - 1).toNat by omega,e]
      rfl
     ·have : xs[n].teeth = [] := List.length_eq_zero_iff.1 (by omega)
      rw [this]; rfl
     ·obtain ⟨fe,f0,f1⟩ := hf
      refine cV (I := fun (s : Int × List aO) => (f ≤ s.1 ∧ s.1 ≤ hi + 1) ∧ ((s.2.length : Int) ≤ 31 * n + (s.1 - f)) ∧ s.2.map (·.teeth) = ((xs.take n).map (·.teeth)).flatMap (xF lo hi) ++ (List.range (s.1 - f).toNat).map (fun (j : Nat) => xs[n].teeth ++ [f + (j : Int)]) ∧ ∀ p ∈ s.2,aFz lo hi (k + 1).toNat p ∧ p.value = cU p.teeth ∧ 1 ≤ p.value ∧ p.value ≤ aOy (k + 1)) (m := fun s => (hi + 1 - s.1).toNat) ?_ _ ⟨⟨by dsimp only; omega,by dsimp only; omega⟩,by dsimp only; omega,by dsimp only; rw [Int.sub_self]; simpa using ym,yp⟩ (by dsimp only; omega)
      rintro ⟨t,zs⟩ ⟨⟨t0,t1⟩,z0,zm,zp⟩
      dsimp only at t0 t1 z0 zm zp ⊢
      refine bQ (fun ht => ?_) fun ht => aC (.inr ⟨_,rfl,by omega,?_,zp⟩)
      ·have hb := uR (a := xs[n].value) (b := t) (A := aOy k) (B := 120) (by omega) pv2 (by omega) (by omega)
       rw [aN9 (by omega),Option.bind_some,aS (x := xs[n].value * t) (by omega) (by omega)]
       refine fF (by simp; omega) (fF (by simp; omega) (aC (.inl ⟨_,rfl,?_⟩)))
       dsimp only
       rw [aS (x := t + 1) (by omega) (by omega)]
       refine ⟨⟨⟨by omega,by omega⟩,by simp; omega,?_,?_⟩,by omega⟩
       ·rw [show (t + 1 - f).toNat = (t - f).toNat + 1 by omega,List.range_succ,List.map_append,List.map_append,zm,List.append_assoc]
        simp only [List.map_cons,List.map_nil]
        congr 6
        omega
       ·intro p hp
        rcases List.mem_append.1 hp with hp | hp
        ·exact zp p hp
        ·rw [List.mem_singleton.1 hp]
         refine ⟨⟨by simp [pl]; omega,fun u hu => ?_⟩,?_,?_,?_⟩
         ·rcases List.mem_append.1 hu with hu | hu
          ·exact pt u hu
          ·rw [List.mem_singleton.1 hu]; omega
         ·rw [aLj, ← pv]
         ·dsimp only; omega
         ·dsimp only; omega
      ·have te : t = hi + 1 := by omega
       subst te
       rw [zm,sV hn,List.map_append,List.flatMap_append]
       congr 1
       simp only [List.map_cons,List.map_nil,List.flatMap_cons,List.flatMap_nil,List.append_nil]
       unfold xF
       rw [← fe]
    ·dsimp only
     rw [aS (x := (n : Int) + 1) (by omega) (by omega)]
     exact ⟨⟨⟨by omega,by omega⟩,h72.1,by rw [show ((n : Int) + 1).toNat = n + 1 by omega]; exact h72.2.1,h72.2.2⟩,by omega⟩
   ·rw [kt,aId, ← xm,ym,List.take_of_length_le (by omega)]
  ·dsimp only
   rw [aS (x := k + 1) (by omega) (by omega)]
   exact ⟨⟨⟨by omega,by omega⟩,h74.1,h74.2.1,h74.2.2⟩,by omega⟩
 ·have hk2 : k = 2 := by omega
  subst hk2
  exact ⟨x1,xm,fun p hp => (xp p hp).2.1⟩
def aRd (lo hi : Int) (p : aO) : Prop := ∃ x y : Int,p.teeth = [x,y] ∧ p.value = x * y ∧ lo ≤ x ∧ x ≤ y ∧ y ≤ hi
theorem aRe {lo hi : Int} {xs : List aO} (h : xs.map (·.teeth) = bX lo hi 2) (hv : ∀ p ∈ xs,p.value = cU p.teeth) : (∀ p ∈ xs,aRd lo hi p) ∧ ∀ x y : Int,lo ≤ x → x ≤ y → y ≤ hi → ∃ p ∈ xs,p.teeth = [x,y] := by
 constructor
 ·intro p hp
  have : p.teeth ∈ bX lo hi 2 := by rw [← h]; exact List.mem_map_of_mem hp
  obtain ⟨x,y,e,h1,h2,h3⟩ := aDp.1 this
  exact ⟨x,y,e,by rw [hv p hp,e]; simp [cU],h1,h2,h3⟩
 ·intro x y h1 h2 h3
  have : [x,y] ∈ xs.map (·.teeth) := by rw [h]; exact aDp.2 ⟨x,y,rfl,h1,h2,h3⟩
  obtain ⟨p,hp,e⟩ := List.mem_map.1 this
  exact ⟨p,hp,e⟩
def mJ : List Int → List Int → List bE
 | [x,y],[c,d] => [⟨y,c⟩,⟨x,d⟩]
 | _,_ => []
theorem aGb {p q : aO} (hp : aRd 60 84 p) (hq : aRd 7 10 q) : gL (mJ p.teeth q.teeth) ∧ pT (mJ p.teeth q.teeth) = p.value ∧ qT (mJ p.teeth q.teeth) = q.value := by
 obtain ⟨x,y,e,v,h1,h2,h3⟩ := hp
 obtain ⟨c,d,f,w,h4,h5,h6⟩ := hq
 rw [e,f]
 exact ⟨⟨x,y,c,d,rfl,⟨h1,h2,h3⟩,h4,h5,h6⟩,v.symm,w.symm⟩
theorem aD2 {x y : Int} (h : x ≤ y) {v : List Int} (hp : v.Perm [x,y]) (hs : v.Pairwise (· ≤ ·)) : v = [x,y] := by
 have hl := hp.length_eq
 match v,hl with
 | [a,b],_ =>
  have hab : a ≤ b := by simpa using hs
  have ha := hp.mem_iff (a := a)
  have hb := hp.mem_iff (a := b)
  have hx := hp.mem_iff (a := x)
  have hy := hp.mem_iff (a := y)
  simp at ha hb hx hy
  have : a = x ∧ b = y := by omega
  rw [this.1,this.2]
theorem aPh {p q : aO} (hp : aRd 60 84 p) (hq : aRd 7 10 q) : iZ p.teeth q.teeth = some (mJ p.teeth q.teeth) := by
 obtain ⟨x,y,e,v,h1,h2,h3⟩ := hp
 obtain ⟨c,d,f,w,h4,h5,h6⟩ := hq
 have key : Ok (iZ p.teeth q.teeth) (fun t => t = mJ p.teeth q.teeth) := by
  rw [e,f]
  unfold iZ
  refine aN (aFp (by simp)) fun v1 k1 => aN (aFp (by simp)) fun v2 k2 => ?_
  rw [aD2 h2 k1.1 k1.2,aD2 h5 k2.1 k2.2]
  refine aN (P := fun t => t = mJ [x,y] [c,d]) ?_ fun t h => aC h
  refine cV (I := fun (s : Int × List bE) => (0 ≤ s.1 ∧ s.1 ≤ 2) ∧ s.2 = (mJ [x,y] [c,d]).take s.1.toNat) (m := fun s => (2 - s.1).toNat) ?_ _ ⟨⟨by dsimp only; omega,by dsimp only; omega⟩,by simp⟩ (by dsimp only; omega)
  rintro ⟨i,out⟩ ⟨⟨i0,i1⟩,io⟩
  dsimp only at i0 i1 io ⊢
  subst io
  have : i = 0 ∨ i = 1 ∨ i = 2 := by omega
  rcases this with rfl | rfl | rfl
  ·exact aC (.inl ⟨_,rfl,⟨⟨by show 0 ≤ w64 (0 + 1); decide,by show w64 (0 + 1) ≤ 2; decide⟩,rfl⟩,by show (2 - w64 (0 + 1)).toNat < (2 - 0 : Int).toNat; decide⟩)
  ·exact aC (.inl ⟨_,rfl,⟨⟨by show 0 ≤ w64 (1 + 1); decide,by show w64 (1 + 1) ≤ 2; decide⟩,rfl⟩,by show (2 - w64 (1 + 1)).toNat < (2 - 1 : Int).toNat; decide⟩)
  ·exact aC (.inr ⟨_,rfl,rfl⟩)
 obtain ⟨t,ht,rfl⟩ := key
 exact ht
theorem aOn (x y : bE) (hx : 0 ≤ x.Driver ∧ x.Driver ≤ 240 ∧ 0 ≤ x.Driven ∧ x.Driven ≤ 240) (hy : 0 ≤ y.Driver ∧ y.Driver ≤ 240 ∧ 0 ≤ y.Driven ∧ y.Driven ≤ 240) : kS [x,y] = some (x.Driver + x.Driven + (y.Driver + y.Driven)) := by
 have key : Ok (kS [x,y]) (fun t => t = x.Driver + x.Driven + (y.Driver + y.Driven)) := by
  unfold kS
  refine aN (P := fun t => t = x.Driver + x.Driven + (y.Driver + y.Driven)) ?_ fun t h => aC h
  refine cV (I := fun (s : Int × Int) => (s.2 = 0 ∧ s.1 = 0) ∨ (s.2 = 1 ∧ s.1 = x.Driver + x.Driven) ∨ (s.2 = 2 ∧ s.1 = x.Driver + x.Driven + (y.Driver + y.Driven))) (m := fun s => (2 - s.2).toNat) ?_ _ (.inl ⟨rfl,rfl⟩) (by decide)
  rintro ⟨k,i⟩ h
  dsimp only at h ⊢
  rcases h with ⟨rfl,rfl⟩ | ⟨rfl,rfl⟩ | ⟨rfl,rfl⟩
  ·show Ok (some (Sum.inl (w64 (0 + w64 (x.Driver + x.Driven)),w64 (0 + 1)))) _
   rw [aS (x := x.Driver + x.Driven) (by omega) (by omega),aS (x := 0 + _) (by omega) (by omega)]
   exact aC (.inl ⟨_,rfl, .inr (.inl ⟨rfl,by dsimp only; omega⟩),by show (2 - w64 (0 + 1)).toNat < (2 - 0 : Int).toNat; decide⟩)
  ·show Ok (some (Sum.inl (w64 (x.Driver + x.Driven + w64 (y.Driver + y.Driven)),w64 (1 + 1)))) _
   rw [aS (x := y.Driver + y.Driven) (by omega) (by omega),aS (x := _ + (_ + _)) (by omega) (by omega)]
   exact aC (.inl ⟨_,rfl, .inr (.inr ⟨rfl,rfl⟩),by show (2 - w64 (1 + 1)).toNat < (2 - 1 : Int).toNat; decide⟩)
  ·exact aC (.inr ⟨_,rfl,rfl⟩)
 obtain ⟨t,ht,rfl⟩ := key
 exact ht
theorem aJw (x y : bE) (v : Int) {step : Int × List Int → Option ((Int × List Int) ⊕ List Int)} (hstep : ∀ s,step s = if s.1 < (([x,y] : List bE).length : Int) then ((atI [x,y] s.1).bind fun v8 => ((atI [x,y] s.1).bind fun v9 => (chk ((s.2.length + [v8.Driver,v9.Driven].length) * 1 * 64 ≤ 140737488355328) (some (.inl (w64 (s.1 + 1),s.2 ++ [v8.Driver,v9.Driven])))))) else some (.inr s.2)) : cK step (0,[v]) = some [v,x.Driver,x.Driven,y.Driver,y.Driven] := by
 have key : Ok (cK step (0,[v])) (fun t => t = [v,x.Driver,x.Driven,y.Driver,y.Driven]) := by
  refine cV (I := fun (s : Int × List Int) => (s.1 = 0 ∧ s.2 = [v]) ∨ (s.1 = 1 ∧ s.2 = [v,x.Driver,x.Driven]) ∨ (s.1 = 2 ∧ s.2 = [v,x.Driver,x.Driven,y.Driver,y.Driven])) (m := fun s => (2 - s.1).toNat) ?_ _ (.inl ⟨rfl,rfl⟩) (by show (2 - 0 : Int).toNat < 1180591620717411303424; decide)
  rintro ⟨i,s⟩ h
  dsimp only at h ⊢
  rw [hstep]
  rcases h with ⟨rfl,rfl⟩ | ⟨rfl,rfl⟩ | ⟨rfl,rfl⟩
  ·exact aC (.inl ⟨_,rfl, .inr (.inl ⟨rfl,rfl⟩),by show (2 - w64 (0 + 1)).toNat < (2 - 0 : Int).toNat; decide⟩)
  ·exact aC (.inl ⟨_,rfl, .inr (.inr ⟨rfl,rfl⟩),by show (2 - w64 (1 + 1)).toNat < (2 - 1 : Int).toNat; decide⟩)
  ·exact aC (.inr ⟨_,rfl,rfl⟩)
 obtain ⟨t,ht,rfl⟩ := key
 exact ht
end Go.Proofs.YtgcdbbidmfdonaaGreat
namespace Go.Proofs.YtgcdbbidmfdonaaGreat
set_option linter.unusedVariables false
set_option maxRecDepth 100000
def aCq : List (Int × Int) → Int
 | [] => 0
 | p :: r => if p.1 < p.2 then -1 else if p.2 < p.1 then 1 else aCq r
def aTv : List bE → List bE → List (Int × Int)
 | [x,y],[z,w] => [(x.Driver + x.Driven + (y.Driver + y.Driven),z.Driver + z.Driven + (w.Driver + w.Driven)),(x.Driver,z.Driver),(x.Driven,z.Driven),(y.Driver,w.Driver),(y.Driven,w.Driven)]
 | _,_ => []
theorem aMe {t u : List bE} (ht : gL t) (hu : gL u) : aCq (aTv t u) < 0 ↔ ltT t u := by
 obtain ⟨a,b,c,d,rfl,_⟩ := ht
 obtain ⟨e,f,g,h,rfl,_⟩ := hu
 simp only [ltT,aTv,aCq]
 constructor
 ·intro q
  repeat' split at q
  all_goals omega
 ·intro q
  repeat' split
  all_goals omega
theorem aK2 {t u : List bE} (ht : gL t) (hu : gL u) : iH t u = some (aCq (aTv t u)) := by
 obtain ⟨a,b,c,d,rfl,⟨a1,a2,a3⟩,a4,a5,a6⟩ := ht
 obtain ⟨e,f,g,h,rfl,⟨b1,b2,b3⟩,b4,b5,b6⟩ := hu
 unfold iH
 rw [aOn _ _ (by dsimp only; omega) (by dsimp only; omega),Option.bind_some,aOn _ _ (by dsimp only; omega) (by dsimp only; omega),Option.bind_some,aJw _ _ _ fun s => rfl,Option.bind_some,aJw _ _ _ fun s => rfl,Option.bind_some]
 show _ = some (aCq [(b + c + (a + d),f + g + (e + h)),(b,f),(c,g),(a,e),(d,h)])
 dsimp only
 generalize b + c + (a + d) = S
 generalize f + g + (e + h) = T
 have key := aE2 (xs := [(S,T),(b,f),(c,g),(a,e),(d,h)]) (X := Unit ⊕ Int) (S := Int) (step := fun s27 =>
 (((if s27 < ([S,b,c,a,d].length : Int) then
 some (decide (s27 < ([T,f,g,e,h].length : Int)))
 else
 some false) : Option Bool).bind fun v28 =>
 (if v28 = true then
 ((atI [S,b,c,a,d] s27).bind fun v29 =>
 ((atI [T,f,g,e,h] s27).bind fun v30 =>
 (if v29 < v30 then
 some (.inr (.inr (-1)))
 else
 ((atI [S,b,c,a,d] s27).bind fun v31 =>
 ((atI [T,f,g,e,h] s27).bind fun v32 =>
 (if v32 < v31 then
 some (.inr (.inr 1))
 else
 some (.inl (w64 (s27 + 1)))))))))
 else
 some (.inr (.inl ()))))) (fun i (_ : Unit) => i) (fun _ (p : Int × Int) _ => if p.1 < p.2 then some (.inr (.inr (-1))) else if p.2 < p.1 then some (.inr (.inr 1)) else some (.inl ())) (fun _ => .inl ()) (by simp) (fun i hi s => by
  have hi5 : i < 5 := hi
  have : i = 0 ∨ i = 1 ∨ i = 2 ∨ i = 3 ∨ i = 4 := by omega
  rcases this with rfl | rfl | rfl | rfl | rfl
  ·show (if S < T then some (Sum.inr (Sum.inr (-1))) else if T < S then some (Sum.inr (Sum.inr 1)) else some (Sum.inl (w64 (0 + 1)))) = _
   simp only [List.getElem_cons_zero,List.getElem_cons_succ]
   split
   ·rfl
   ·split <;> rfl
  ·show (if b < f then some (Sum.inr (Sum.inr (-1))) else if f < b then some (Sum.inr (Sum.inr 1)) else some (Sum.inl (w64 (1 + 1)))) = _
   simp only [List.getElem_cons_zero,List.getElem_cons_succ]
   split
   ·rfl
   ·split <;> rfl
  ·show (if c < g then some (Sum.inr (Sum.inr (-1))) else if g < c then some (Sum.inr (Sum.inr 1)) else some (Sum.inl (w64 (2 + 1)))) = _
   simp only [List.getElem_cons_zero,List.getElem_cons_succ]
   split
   ·rfl
   ·split <;> rfl
  ·show (if a < e then some (Sum.inr (Sum.inr (-1))) else if e < a then some (Sum.inr (Sum.inr 1)) else some (Sum.inl (w64 (3 + 1)))) = _
   simp only [List.getElem_cons_zero,List.getElem_cons_succ]
   split
   ·rfl
   ·split <;> rfl
  ·show (if d < h then some (Sum.inr (Sum.inr (-1))) else if h < d then some (Sum.inr (Sum.inr 1)) else some (Sum.inl (w64 (4 + 1)))) = _
   simp only [List.getElem_cons_zero,List.getElem_cons_succ]
   split
   ·rfl
   ·split <;> rfl) (fun s => rfl) ()
 refine (congrArg (fun (x : Option (Unit ⊕ Int)) => x.bind _) key).trans ?_
 simp only [aLz,aCq]
 by_cases h1 : S < T
 ·rw [if_pos h1,if_pos h1]; rfl
 rw [if_neg h1,if_neg h1]
 by_cases h2 : T < S
 ·rw [if_pos h2,if_pos h2]; rfl
 rw [if_neg h2,if_neg h2]
 simp only [Option.bind_some]
 by_cases h1 : b < f
 ·rw [if_pos h1,if_pos h1]; rfl
 rw [if_neg h1,if_neg h1]
 by_cases h2 : f < b
 ·rw [if_pos h2,if_pos h2]; rfl
 rw [if_neg h2,if_neg h2]
 simp only [Option.bind_some]
 by_cases h1 : c < g
 ·rw [if_pos h1,if_pos h1]; rfl
 rw [if_neg h1,if_neg h1]
 by_cases h2 : g < c
 ·rw [if_pos h2,if_pos h2]; rfl
 rw [if_neg h2,if_neg h2]
 simp only [Option.bind_some]
 by_cases h1 : a < e
 ·rw [if_pos h1,if_pos h1]; rfl
 rw [if_neg h1,if_neg h1]
 by_cases h2 : e < a
 ·rw [if_pos h2,if_pos h2]; rfl
 rw [if_neg h2,if_neg h2]
 simp only [Option.bind_some]
 by_cases h1 : d < h
 ·rw [if_pos h1,if_pos h1]; rfl
 rw [if_neg h1,if_neg h1]
 by_cases h2 : h < d
 ·rw [if_pos h2,if_pos h2]; rfl
 rw [if_neg h2,if_neg h2]
 rfl
def aO9 (r : aA) : Prop := (1 ≤ r.Num ∧ r.Num ≤ 1000000) ∧ 1 ≤ r.Den ∧ r.Den ≤ 1000000
def wE (r : aA) (U : List bE → Prop) (s : dK) : Prop := (s.train = [] ∧ ∀ u, ¬ U u) ∨ (gL s.train ∧ s.driven = qT s.train ∧ s.off = aCr r s.train ∧ ∀ u,U u → gL u → ¬ qY r u s.train)
theorem mI {r : aA} {U V : List bE → Prop} {s : dK} (h : wE r U s) (k : ∀ u,V u → U u) : wE r V s := by
 rcases h with ⟨h1,h2⟩ | ⟨h1,h2,h3,h4⟩
 ·exact .inl ⟨h1,fun u hu => h2 u (k u hu)⟩
 ·exact .inr ⟨h1,h2,h3,fun u hu => h4 u (k u hu)⟩
theorem aF7 {r : aA} {U V : List bE → Prop} {s : dK} (h : wE r U s) (k : ∀ u,V u → U u ∨ ∃ w,U w ∧ gL w ∧ qY r w u) : wE r V s := by
 rcases h with ⟨h1,h2⟩ | ⟨h1,h2,h3,h4⟩
 ·refine .inl ⟨h1,fun u hu => ?_⟩
  rcases k u hu with q | ⟨w,q,_⟩
  ·exact h2 u q
  ·exact h2 w q
 ·refine .inr ⟨h1,h2,h3,fun u hu hc => ?_⟩
  rcases k u hu with q | ⟨w,q,hw,hl⟩
  ·exact h4 u q hc
  ·exact aR1 hw hc h1 hl (h4 w q hw)
theorem aHr {s : dK} {r : aA} {a b : aO} {U : List bE → Prop} (hr : aO9 r) (ha : aRd 60 84 a) (hb : aRd 7 10 b) (hs : wE r U s) : Ok (eZ s r a b) (wE r fun u => U u ∨ u = mJ a.teeth b.teeth) := by
 obtain ⟨hC,hp,hq⟩ := aGb ha hb
 have cb := aBb hC
 obtain ⟨⟨p0,p1⟩,q0,q1⟩ := cb
 rw [hp] at p0 p1
 rw [hq] at q0 q1
 obtain ⟨⟨f0,f1⟩,⟨f2,f3⟩,f4,f5⟩ := aGg (r := r) (p := a.value) (q := b.value) (by unfold aO9 at hr; omega) (by unfold aO9 at hr; omega) ⟨p0,p1⟩ ⟨q0,q1⟩
 have hF : nX r a.value b.value = aCr r (mJ a.teeth b.teeth) := by unfold aCr; rw [hp,hq]
 unfold eZ
 rw [aS (x := a.value * r.Den) (by omega) (by omega),aS (x := b.value * r.Num) (by omega) (by omega),aS (x := a.value * r.Den - b.value * r.Num) (by omega) (by omega),mW (by omega) (by omega),Option.bind_some,aPh ha hb]
 have e0 : dD (a.value * r.Den - b.value * r.Num) = nX r a.value b.value := rfl
 rw [e0]
 generalize mJ a.teeth b.teeth = t at *
 rcases hs with ⟨h1,h2⟩ | ⟨h1,h2,h3,h4⟩
 ·rw [h1]
  simp only [List.length_nil,Int.natCast_zero,Int.lt_irrefl,if_false,Option.bind_some,Bool.false_eq_true,if_true]
  refine aC (.inr ⟨hC,hq.symm,hF,fun u hu hc => ?_⟩)
  rcases hu with hu | rfl
  ·exact absurd hu (h2 u)
  ·exact aJ0 hc
 ·have hl : s.train.length = 2 := by
   obtain ⟨_,_,_,_,e,_⟩ := h1
   rw [e]; rfl
  obtain ⟨⟨P0,P1⟩,Q0,Q1⟩ := aBb h1
  have F := (aGg (r := r) (p := pT s.train) (q := qT s.train) (by unfold aO9 at hr; omega) (by unfold aO9 at hr; omega) ⟨P0,P1⟩ ⟨Q0,Q1⟩).2.2
  have m1 : nX r a.value b.value * s.driven ≤ 8000000000 * 100 := Int.mul_le_mul f5 (by omega) (by omega) (by omega)
  have m2 : 0 ≤ nX r a.value b.value * s.driven := Int.mul_nonneg f4 (by omega)
  have hso : s.off = nX r (pT s.train) (qT s.train) := h3
  have m3 : s.off * b.value ≤ 8000000000 * 100 := Int.mul_le_mul (by omega) q1 (by omega) (by omega)
  have m4 : 0 ≤ s.off * b.value := Int.mul_nonneg (by omega) (by omega)
  rw [aS (x := s.off * b.value) (by omega) (by omega),aS (x := _ * s.driven) (by omega) (by omega),hl,if_pos (by decide),Option.bind_some]
  have Fe : nX r a.value b.value * s.driven = aCr r t * qT s.train := by rw [hF,h2]
  have Ge : s.off * b.value = aCr r s.train * qT t := by rw [h3,hq]
  have keep : ¬ qY r t s.train → wE r (fun u => U u ∨ u = t) s := fun hn => .inr ⟨h1,h2,h3,fun u hu hc => by
   rcases hu with hu | rfl
   ·exact h4 u hu hc
   ·exact hn⟩
  have new : qY r t s.train → wE r (fun u => U u ∨ u = t) ⟨a.value,b.value,nX r a.value b.value,t⟩ := fun hn => .inr ⟨hC,hq.symm,hF,fun u hu hc => by
   rcases hu with hu | rfl
   ·exact fun hx => h4 u hu hc (aM3 hc hC h1 hx hn)
   ·exact aJ0 hc⟩
  rw [Fe,Ge]
  refine bQ (fun h => aC (keep ?_)) fun h => ?_
  ·have h := of_decide_eq_true h
   unfold qY
   rintro (q | ⟨q,_⟩) <;> omega
  ·have h : ¬ aCr r s.train * qT t < aCr r t * qT s.train := fun q => h (decide_eq_true q)
   rw [Option.bind_some]
   refine aN (P := fun b => (b = true ↔ qY r t s.train)) (bQ (fun hx => absurd hx (by decide)) fun _ => bQ (fun hx => aC ⟨fun _ => .inl hx,fun _ => rfl⟩) fun hx => ?_) fun v5 h5 => bQ (fun q => aC (new (h5.1 q))) fun q => aC (keep fun z => q (h5.2 z))
   rw [aK2 hC h1,Option.bind_some]
   refine aC ?_
   rw [decide_eq_true_eq,aMe hC h1]
   constructor
   ·exact fun q => .inr ⟨by omega,q⟩
   ·rintro (q | ⟨_,q⟩)
    ·exact absurd q hx
    ·exact q
theorem aI9 {r : aA} (hr : aO9 r) : Ok (iB r ⟨60,84,7,10,2⟩) (fun t => gL t ∧ ∀ u,gL u → ¬ qY r u t) := by
 have hr' := hr
 obtain ⟨⟨n0,n1⟩,d0,d1⟩ := hr'
 unfold iB
 refine aN (aKf (lo := 60) (hi := 84) (by decide) (by decide) (by decide) (by decide)) fun v1 h1 => ?_
 refine aN (aKf (lo := 7) (hi := 10) (by decide) (by decide) (by decide) (by decide)) fun v2 h2 => ?_
 obtain ⟨p1,c1⟩ := aRe h1.2.1 h1.2.2
 obtain ⟨p2,c2⟩ := aRe h2.2.1 h2.2.2
 refine aN (aOh (by omega)) fun v3 h3 => ?_
 have l3 := h3.1.length_eq
 have p3 : ∀ p ∈ v3,aRd 7 10 p := fun p hp => p2 p (h3.1.mem_iff.1 hp)
 have hS := h3.2
 have full : ∀ u,gL u → ∃ (n : Nat) (hn : n < v1.length) (m : Nat) (hm : m < v3.length),u = mJ v1[n].teeth v3[m].teeth := by
  rintro u ⟨a,b,c,d,rfl,⟨u1,u2,u3⟩,u4,u5,u6⟩
  obtain ⟨p,hp,ep⟩ := c1 a b u1 u2 u3
  obtain ⟨q,hq,eq⟩ := c2 c d u4 u5 u6
  obtain ⟨n,hn,rfl⟩ := List.getElem_of_mem hp
  obtain ⟨m,hm,rfl⟩ := List.getElem_of_mem (h3.1.mem_iff.2 hq)
  exact ⟨n,hn,m,hm,by rw [ep,eq]; rfl⟩
 have c0 : gL [⟨60,7⟩,⟨60,7⟩] := ⟨60,60,7,7,rfl,by decide,by decide⟩
 refine aN (P := fun (s : dK) => wE r (fun u => ∃ (n : Nat) (hn : n < v1.length) (m : Nat) (hm : m < v3.length),u = mJ v1[n].teeth v3[m].teeth) s) ?_ fun v70 h70 => aC ?_
 ·refine cV (I := fun (s : Int × dK) => (0 ≤ s.1 ∧ s.1 ≤ v1.length) ∧ wE r (fun u => ∃ (n : Nat) (hn : n < v1.length),(n : Int) < s.1 ∧ ∃ (m : Nat) (hm : m < v3.length),u = mJ v1[n].teeth v3[m].teeth) s.2) (m := fun s => (v1.length - s.1).toNat) ?_ _ ⟨⟨by dsimp only; omega,by dsimp only; omega⟩, .inl ⟨rfl,fun u hu => by obtain ⟨n,_,hn,_⟩ := hu; dsimp only at hn; omega⟩⟩ (by dsimp only; omega)
  rintro ⟨i,s⟩ ⟨⟨i0,i1⟩,hs⟩
  dsimp only at i0 i1 hs ⊢
  refine bQ (fun hi => ?_) fun hi => aC (.inr ⟨_,rfl,mI hs fun u hu => ?_⟩)
  ·obtain ⟨n,rfl⟩ : ∃ n : Nat,i = n := ⟨i.toNat,by omega⟩
   have hn : n < v1.length := by omega
   have pn := p1 _ (List.getElem_mem hn)
   simp only [dP hn,Option.bind_some]
   -- the trains with this driver
   obtain ⟨U,hU⟩ : ∃ U : List bE → Prop,U = fun u => ∃ (k : Nat) (hk : k < v1.length),(k : Int) < n ∧ ∃ (m : Nat) (hm : m < v3.length),u = mJ v1[k].teeth v3[m].teeth := ⟨_,rfl⟩
   rw [← hU] at hs
   obtain ⟨a,ea⟩ : ∃ a,a = v1[n] := ⟨_,rfl⟩
   rw [← ea] at pn ⊢
   have av : 0 < a.value ∧ a.value ≤ 7056 := by
    obtain ⟨x,y,_,e,q⟩ := pn
    rw [e]; exact uR (A := 84) (B := 84) (by omega) (by omega) (by omega) (by omega)
   have qv : ∀ (m : Nat) (hm : m < v3.length),0 < v3[m].value ∧ v3[m].value ≤ 100 := fun m hm => by
    obtain ⟨x,y,_,e,q⟩ := p3 _ (List.getElem_mem hm)
    rw [e]; exact uR (A := 10) (B := 10) (by omega) (by omega) (by omega) (by omega)
   have ad : 0 < a.value * r.Den ∧ a.value * r.Den ≤ 7056 * 1000000 := uR av.1 av.2 d0 d1
   -- a nearer product on the same side is better
   have aUx : ∀ (m k : Nat) (hm : m < v3.length) (hk : k < v3.length),nX r a.value v3[k].value * v3[m].value < nX r a.value v3[m].value * v3[k].value → qY r (mJ a.teeth v3[k].teeth) (mJ a.teeth v3[m].teeth) := fun m k hm hk h => by
    obtain ⟨_,x1,x2⟩ := aGb pn (p3 _ (List.getElem_mem hk))
    obtain ⟨_,y1,y2⟩ := aGb pn (p3 _ (List.getElem_mem hm))
    refine .inl ?_
    unfold aCr
    rw [x1,x2,y1,y2]; exact h
   refine aN (P := fun (s : dK) => wE r (fun u => U u ∨ ∃ (m : Nat) (hm : m < v3.length),u = mJ a.teeth v3[m].teeth) s) ?_ fun v69 h69 => aC (.inl ⟨_,rfl,?_⟩)
   ·refine fF (by omega) ?_
    obtain ⟨w,hw⟩ : ∃ w : Int,w = a.value * r.Den / r.Num := ⟨_,rfl⟩
    have w0 : 0 ≤ w := by rw [hw]; exact Int.ediv_nonneg (by omega) (by omega)
    have w1 : w ≤ a.value * r.Den := by rw [hw]; exact Int.ediv_le_self _ (by omega)
    have wl : ∀ v : Int,v < w + 1 → v * r.Num ≤ a.value * r.Den := fun v hv => by
     have := Int.mul_le_of_le_ediv (show 0 < r.Num by omega) (show v ≤ a.value * r.Den / r.Num by omega)
     exact this
    have wh : ∀ v : Int,w + 1 ≤ v → a.value * r.Den ≤ v * r.Num := fun v hv => by
     have := Int.lt_mul_of_ediv_lt (show 0 < r.Num by omega) (show a.value * r.Den / r.Num < v by omega)
     omega
    rw [aS (x := a.value * r.Den) (by omega) (by omega),Int.tdiv_eq_ediv_of_nonneg (by omega), ← hw,aS (x := w) (by omega) (by omega),aS (x := w + 1) (by omega) (by omega)]
    refine aN (aJv hS (by omega) _) fun k hk => ?_
    obtain ⟨⟨k0,k1⟩,kl,kh⟩ := hk
    obtain ⟨k,rfl⟩ : ∃ j : Nat,k = j := ⟨k.toNat,by omega⟩
    refine aN (P := fun (s : dK) => wE r (fun u => U u ∨ ∃ (m : Nat) (hm : m < v3.length),m < k ∧ u = mJ a.teeth v3[m].teeth) s) ?_ fun v54 h54 => ?_
    ·refine bQ (fun hk => ?_) fun hk => aC (mI hs fun u hu => ?_)
     ·obtain ⟨q,hq⟩ : ∃ q : Nat,(k : Int) - 1 = q := ⟨k - 1,by omega⟩
      rw [aS (x := (k : Int) - 1) (by omega) (by omega),hq]
      have hq1 : q < v3.length := by omega
      rw [dP hq1,Option.bind_some]
      refine cV (I := fun (x : Int × dK) => (-1 ≤ x.1 ∧ x.1 ≤ q) ∧ wE r (fun u => U u ∨ ∃ (m : Nat) (hm : m < v3.length),x.1 < m ∧ m ≤ q ∧ u = mJ a.teeth v3[m].teeth) x.2) (m := fun x => (x.1 + 1).toNat) ?_ _ ⟨⟨by dsimp only; omega,by dsimp only; omega⟩,mI hs fun u hu => ?_⟩ (by dsimp only; omega)
      ·rintro ⟨j,u⟩ ⟨⟨j0,j1⟩,hu⟩
       dsimp only at j0 j1 hu ⊢
       have stop : (∀ (m : Nat) (hm : m < v3.length),(m : Int) ≤ j → v3[m].value < v3[q].value) → (j < q) → wE r (fun u => U u ∨ ∃ (m : Nat) (hm : m < v3.length),m < k ∧ u = mJ a.teeth v3[m].teeth) u := fun hlow hjq => aF7 hu fun x hx => by
        rcases hx with hx | ⟨m,hm,mk,rfl⟩
        ·exact .inl (.inl hx)
        ·rcases Int.lt_or_le j m with hjm | hjm
         ·exact .inl (.inr ⟨m,hm,hjm,by omega,rfl⟩)
         ·refine .inr ⟨mJ a.teeth v3[q].teeth, .inr ⟨q,hq1,hjq,Nat.le_refl _,rfl⟩,(aGb pn (p3 _ (List.getElem_mem hq1))).1,aUx m q hm hq1 ?_⟩
          exact aJ5 ad.1 (by omega) (hlow m hm hjm) (wl _ (kl q hq1 (by omega)))
       by_cases hj : 0 ≤ j
       ·obtain ⟨m,rfl⟩ : ∃ m : Nat,j = m := ⟨j.toNat,by omega⟩
        have hm : m < v3.length := by omega
        rw [if_pos hj]
        simp only [dP hm,Option.bind_some]
        refine bQ (fun _ => aN (aHr hr pn (p3 _ (List.getElem_mem hm)) hu) fun w hw => aC (.inl ⟨_,rfl,?_⟩)) fun hne => aC (.inr ⟨_,rfl,stop ?_ ?_⟩)
        ·dsimp only
         rw [aS (x := (m : Int) - 1) (by omega) (by omega)]
         refine ⟨⟨⟨by omega,by omega⟩,mI hw fun x hx => ?_⟩,by omega⟩
         rcases hx with hx | ⟨m',hm',g1,g2,rfl⟩
         ·exact .inl (.inl hx)
         ·rcases Nat.lt_or_ge m m' with g | g
          ·exact .inl (.inr ⟨m',hm',by omega,g2,rfl⟩)
          ·have : m' = m := by omega
           subst this
           exact .inr rfl
        ·intro m' hm' hle
         have a1 := iL hS (i := m') (j := m) (by omega) hm
         have a2 := iL hS (i := m) (j := q) (by omega) hq1
         have a3 : v3[m].value ≠ v3[q].value := fun e => hne (decide_eq_true e)
         omega
        ·rcases Nat.lt_or_ge m q with g | g
         ·omega
         ·have : m = q := by omega
          subst this
          exact absurd (decide_eq_true rfl) hne
       ·rw [if_neg hj,Option.bind_some,if_neg (by decide)]
        exact aC (.inr ⟨_,rfl,stop (fun m hm hle => by omega) (by omega)⟩)
      ·rcases hu with hu | ⟨m,hm,g1,g2,rfl⟩
       ·exact hu
       ·dsimp only at g1; omega
     ·rcases hu with hu | ⟨m,hm,g,rfl⟩
      ·exact hu
      ·omega
    ·refine cV (I := fun (x : Int × dK) => (k ≤ x.1 ∧ x.1 ≤ v3.length) ∧ wE r (fun u => U u ∨ ∃ (m : Nat) (hm : m < v3.length),(m : Int) < x.1 ∧ u = mJ a.teeth v3[m].teeth) x.2) (m := fun x => (v3.length - x.1).toNat) ?_ _ ⟨⟨by dsimp only; omega,by dsimp only; omega⟩,mI h54 fun u hu => ?_⟩ (by dsimp only; omega)
     ·rintro ⟨j,u⟩ ⟨⟨j0,j1⟩,hu⟩
      dsimp only at j0 j1 hu ⊢
      by_cases hj : j < v3.length
      ·obtain ⟨m,rfl⟩ : ∃ m : Nat,j = m := ⟨j.toNat,by omega⟩
       have hm : m < v3.length := by omega
       have hkl : k < v3.length := by omega
       rw [if_pos hj]
       simp only [dP hm,dP hkl,Option.bind_some]
       refine bQ (fun _ => aN (aHr hr pn (p3 _ (List.getElem_mem hm)) hu) fun w hw => aC (.inl ⟨_,rfl,?_⟩)) fun hne => aC (.inr ⟨_,rfl,?_⟩)
       ·dsimp only
        rw [aS (x := (m : Int) + 1) (by omega) (by omega)]
        refine ⟨⟨⟨by omega,by omega⟩,mI hw fun x hx => ?_⟩,by omega⟩
        rcases hx with hx | ⟨m',hm',g1,rfl⟩
        ·exact .inl (.inl hx)
        ·rcases Nat.lt_or_ge m' m with g | g
         ·exact .inl (.inr ⟨m',hm',by omega,rfl⟩)
         ·have : m' = m := by omega
          subst this
          exact .inr rfl
       ·have a3 : v3[m].value ≠ v3[k].value := fun e => hne (decide_eq_true e)
        have hkm : k < m := by
         rcases Nat.lt_or_ge k m with g | g
         ·exact g
         ·have : m = k := by omega
          subst this
          exact absurd rfl a3
        refine aF7 hu fun x hx => ?_
        rcases hx with hx | ⟨m',hm',rfl⟩
        ·exact .inl (.inl hx)
        ·rcases Nat.lt_or_ge m' m with g | g
         ·exact .inl (.inr ⟨m',hm',by omega,rfl⟩)
         ·refine .inr ⟨mJ a.teeth v3[k].teeth, .inr ⟨k,hkl,by omega,rfl⟩,(aGb pn (p3 _ (List.getElem_mem hkl))).1,aUx m' k hm' hkl ?_⟩
          have a1 := iL hS (i := k) (j := m) (by omega) hm
          have a2 := iL hS (i := m) (j := m') (by omega) hm'
          exact aGx ad.1 (by omega) (by omega) (wh _ (kh k hkl (Int.le_refl _)))
      ·rw [if_neg hj,Option.bind_some,if_neg (by decide)]
       refine aC (.inr ⟨_,rfl,mI hu fun x hx => ?_⟩)
       rcases hx with hx | ⟨m',hm',rfl⟩
       ·exact .inl hx
       ·exact .inr ⟨m',hm',by omega,rfl⟩
     ·rcases hu with hu | ⟨m,hm,g,rfl⟩
      ·exact .inl hu
      ·dsimp only at g; exact .inr ⟨m,hm,by omega,rfl⟩
   ·dsimp only
    rw [aS (x := (n : Int) + 1) (by omega) (by omega)]
    refine ⟨⟨⟨by omega,by omega⟩,mI h69 fun u hu => ?_⟩,by omega⟩
    obtain ⟨k,hk,g,m,hm,rfl⟩ := hu
    rcases Nat.lt_or_ge k n with q | q
    ·left; rw [hU]; exact ⟨k,hk,by omega,m,hm,rfl⟩
    ·have : k = n := by omega
     subst this
     right; exact ⟨m,hm,by rw [ea]⟩
  ·obtain ⟨n,hn,m,hm,rfl⟩ := hu
   exact ⟨n,hn,by omega,m,hm,rfl⟩
 ·rcases h70 with ⟨_,h⟩ | ⟨g1,_,_,g4⟩
  ·exact absurd (full _ c0) (h _)
  ·exact ⟨g1,fun u hu => g4 u (full u hu) hu⟩
end Go.Proofs.YtgcdbbidmfdonaaGreat
namespace Go.Proofs.YtgcdbbidmfdonaaGreat
set_option linter.unusedVariables false
set_option maxRecDepth 100000
def aBc (a b : Int) : Int := if a < b then -1 else if b < a then 1 else 0
theorem aEf {a b : Int} : aBc a b < 0 ↔ a < b := by
 unfold aBc
 repeat' split
 all_goals omega
theorem aEe {a b : Int} : aBc a b = 0 ↔ a = b := by
 unfold aBc
 repeat' split
 all_goals omega
theorem aGd (a b : Int) : dT a b = some (aBc a b) := by
 unfold dT iO aBc
 simp only [ne_eq,not_true_eq_false,decide_false,Option.bind_some,Bool.false_eq_true,if_false]
 repeat' split
 all_goals rfl
theorem aU1 (a b : Int) : mK [a,b] = some (if a ≠ 0 then a else b) := by
 have key : Ok (mK [a,b]) (fun r => r = if a ≠ 0 then a else b) := by
  unfold mK
  refine aN (P := fun (x : Unit ⊕ Int) => x = if a ≠ 0 then .inr a else if b ≠ 0 then .inr b else .inl ()) ?_ fun x hx => ?_
  ·refine cV (I := fun (s : Int) => s = 0 ∨ (s = 1 ∧ a = 0) ∨ (s = 2 ∧ a = 0 ∧ b = 0)) (m := fun s => (2 - s).toNat) ?_ _ (.inl rfl) (by decide)
   rintro s (rfl | ⟨rfl,rfl⟩ | ⟨rfl,rfl,rfl⟩)
   ·show Ok (if a ≠ 0 then some (Sum.inr (Sum.inr a)) else some (Sum.inl (w64 (0 + 1)))) _
    refine bQ (fun h => aC (.inr ⟨_,rfl,by rw [if_pos h]⟩)) fun h => aC (.inl ⟨_,rfl, .inr (.inl ⟨rfl,by omega⟩),by decide⟩)
   ·show Ok (if b ≠ 0 then some (Sum.inr (Sum.inr b)) else some (Sum.inl (w64 (1 + 1)))) _
    refine bQ (fun h => aC (.inr ⟨_,rfl,by rw [if_neg (by decide),if_pos h]⟩)) fun h => aC (.inl ⟨_,rfl, .inr (.inr ⟨rfl,rfl,by omega⟩),by decide⟩)
   ·exact aC (.inr ⟨_,rfl,rfl⟩)
  ·subst hx
   by_cases ha : a ≠ 0
   ·rw [if_pos ha,if_pos ha]; exact aC rfl
   ·rw [if_neg ha,if_neg ha]
    by_cases hb : b ≠ 0
    ·rw [if_pos hb]; exact aC rfl
    ·rw [if_neg hb]; exact aC (by show (0 : Int) = b; omega)
 obtain ⟨r,h,rfl⟩ := key
 exact h
theorem aKd (p q : bE) : eO p q = some (if aBc p.Driver q.Driver ≠ 0 then aBc p.Driver q.Driver else aBc p.Driven q.Driven) := by
 unfold eO
 rw [aGd,Option.bind_some,aGd,Option.bind_some,aU1,Option.bind_some]
theorem aHs (x y : bE) (hx : 0 ≤ x.Driver ∧ x.Driver ≤ 240 ∧ 0 ≤ x.Driven ∧ x.Driven ≤ 240) (hy : 0 ≤ y.Driver ∧ y.Driver ≤ 240 ∧ 0 ≤ y.Driven ∧ y.Driven ≤ 240) : lY [x,y] = some (x.Driver + x.Driven + (y.Driver + y.Driven)) := by
 have key : Ok (lY [x,y]) (fun t => t = x.Driver + x.Driven + (y.Driver + y.Driven)) := by
  unfold lY
  refine aN (P := fun t => t = x.Driver + x.Driven + (y.Driver + y.Driven)) ?_ fun t h => aC h
  refine cV (I := fun (s : Int × Int) => (s.2 = 0 ∧ s.1 = 0) ∨ (s.2 = 1 ∧ s.1 = x.Driver + x.Driven) ∨ (s.2 = 2 ∧ s.1 = x.Driver + x.Driven + (y.Driver + y.Driven))) (m := fun s => (2 - s.2).toNat) ?_ _ (.inl ⟨rfl,rfl⟩) (by decide)
  rintro ⟨k,i⟩ h
  dsimp only at h ⊢
  rcases h with ⟨rfl,rfl⟩ | ⟨rfl,rfl⟩ | ⟨rfl,rfl⟩
  ·show Ok (some (Sum.inl (w64 (0 + w64 (x.Driver + x.Driven)),w64 (0 + 1)))) _
   rw [aS (x := x.Driver + x.Driven) (by omega) (by omega),aS (x := 0 + _) (by omega) (by omega)]
   exact aC (.inl ⟨_,rfl, .inr (.inl ⟨rfl,by dsimp only; omega⟩),by show (2 - w64 (0 + 1)).toNat < (2 - 0 : Int).toNat; decide⟩)
  ·show Ok (some (Sum.inl (w64 (x.Driver + x.Driven + w64 (y.Driver + y.Driven)),w64 (1 + 1)))) _
   rw [aS (x := y.Driver + y.Driven) (by omega) (by omega),aS (x := _ + (_ + _)) (by omega) (by omega)]
   exact aC (.inl ⟨_,rfl, .inr (.inr ⟨rfl,rfl⟩),by show (2 - w64 (1 + 1)).toNat < (2 - 1 : Int).toNat; decide⟩)
  ·exact aC (.inr ⟨_,rfl,rfl⟩)
 obtain ⟨t,ht,rfl⟩ := key
 exact ht
theorem aSg (x y z w : bE) : bA [x,y] [z,w] = some (aCq [(x.Driver,z.Driver),(x.Driven,z.Driven),(y.Driver,w.Driver),(y.Driven,w.Driven)]) := by
 have key : Ok (bA [x,y] [z,w]) (fun r => r = aCq [(x.Driver,z.Driver),(x.Driven,z.Driven),(y.Driver,w.Driver),(y.Driven,w.Driven)]) := by
  have one : ∀ (p q : bE) (r : List (Int × Int)),(if aBc p.Driver q.Driver ≠ 0 then aBc p.Driver q.Driver else aBc p.Driven q.Driven) ≠ 0 → aCq ((p.Driver,q.Driver) :: (p.Driven,q.Driven) :: r) = if aBc p.Driver q.Driver ≠ 0 then aBc p.Driver q.Driver else aBc p.Driven q.Driven := fun p q r h => by
   unfold aBc at h ⊢
   simp only [aCq]
   repeat' split
   all_goals first | rfl | omega | (exfalso; revert h; repeat' split; all_goals omega)
  have two : ∀ (p q : bE) (r : List (Int × Int)), ¬ (if aBc p.Driver q.Driver ≠ 0 then aBc p.Driver q.Driver else aBc p.Driven q.Driven) ≠ 0 → aCq ((p.Driver,q.Driver) :: (p.Driven,q.Driven) :: r) = aCq r := fun p q r h => by
   have h1 : p.Driver = q.Driver ∧ p.Driven = q.Driven := by
    by_cases g : aBc p.Driver q.Driver ≠ 0
    ·rw [if_pos g] at h; exact absurd g h
    ·rw [if_neg g] at h
     exact ⟨aEe.1 (by omega),aEe.1 (by omega)⟩
   simp only [aCq,h1.1,h1.2,Int.lt_irrefl,if_false]
  unfold bA
  refine aN (P := fun (v : Unit ⊕ Int) => (∃ r,v = .inr r ∧ r = aCq [(x.Driver,z.Driver),(x.Driven,z.Driven),(y.Driver,w.Driver),(y.Driven,w.Driven)]) ∨ (v = .inl () ∧ 0 = aCq [(x.Driver,z.Driver),(x.Driven,z.Driven),(y.Driver,w.Driver),(y.Driven,w.Driven)])) ?_ fun v hv => ?_
  ·refine cV (I := fun (s : Int) => s = 0 ∨ (s = 1 ∧ aCq [(x.Driver,z.Driver),(x.Driven,z.Driven),(y.Driver,w.Driver),(y.Driven,w.Driven)] = aCq [(y.Driver,w.Driver),(y.Driven,w.Driven)]) ∨ (s = 2 ∧ aCq [(x.Driver,z.Driver),(x.Driven,z.Driven),(y.Driver,w.Driver),(y.Driven,w.Driven)] = 0)) (m := fun s => (2 - s).toNat) ?_ _ (.inl rfl) (by decide)
   rintro s (rfl | ⟨rfl,h⟩ | ⟨rfl,h⟩)
   ·show Ok ((eO x z).bind fun v8 => if v8 ≠ 0 then some (Sum.inr (Sum.inr v8)) else some (Sum.inl (w64 (0 + 1)))) _
    rw [aKd,Option.bind_some]
    refine bQ (fun h => aC (.inr ⟨_,rfl, .inl ⟨_,rfl,(one _ _ _ h).symm⟩⟩)) fun h => aC (.inl ⟨_,rfl, .inr (.inl ⟨rfl,two _ _ _ h⟩),by decide⟩)
   ·show Ok ((eO y w).bind fun v8 => if v8 ≠ 0 then some (Sum.inr (Sum.inr v8)) else some (Sum.inl (w64 (1 + 1)))) _
    rw [aKd,Option.bind_some]
    refine bQ (fun g => aC (.inr ⟨_,rfl, .inl ⟨_,rfl,?_⟩⟩)) fun g => aC (.inl ⟨_,rfl, .inr (.inr ⟨rfl,?_⟩),by decide⟩)
    ·rw [h]; exact (one _ _ _ g).symm
    ·rw [h]; exact two _ _ _ g
   ·exact aC (.inr ⟨_,rfl, .inr ⟨rfl,h.symm⟩⟩)
  ·rcases hv with ⟨r,rfl,rfl⟩ | ⟨rfl,h⟩
   ·exact aC rfl
   ·exact aC h
 obtain ⟨r,h,rfl⟩ := key
 exact h
theorem aGm {t u : List bE} (ht : gL t) (hu : gL u) : Ok (iQ t u) (fun r => r < 0 ↔ ltT t u) := by
 rw [show (fun r : Int => (r < 0 ↔ ltT t u)) = fun r => (r < 0 ↔ aCq (aTv t u) < 0) from funext fun r => by rw [aMe ht hu]]
 obtain ⟨a,b,c,d,rfl,⟨a1,a2,a3⟩,a4,a5,a6⟩ := ht
 obtain ⟨e,f,g,h,rfl,⟨b1,b2,b3⟩,b4,b5,b6⟩ := hu
 unfold iQ
 rw [aHs _ _ (by dsimp only; omega) (by dsimp only; omega),Option.bind_some,aHs _ _ (by dsimp only; omega) (by dsimp only; omega),Option.bind_some,aGd,Option.bind_some,aSg,Option.bind_some]
 have e1 : aCq (aTv [⟨b,c⟩,⟨a,d⟩] [⟨f,g⟩,⟨e,h⟩]) = if b + c + (a + d) < f + g + (e + h) then -1 else if f + g + (e + h) < b + c + (a + d) then 1 else aCq [(b,f),(c,g),(a,e),(d,h)] := rfl
 rw [e1]
 dsimp only
 unfold aBc
 repeat' split
 all_goals first | exact aC Iff.rfl | (exfalso; omega)
theorem aCv (x y c d : Int) : jD [x,y] [c,d] = some (mJ [x,y] [c,d]) := by
 have key : Ok (jD [x,y] [c,d]) (fun t => t = mJ [x,y] [c,d]) := by
  unfold jD
  rw [aJy (by simp),Option.bind_some]
  refine aN (P := fun v => v = [y,x]) ?_ fun v hv => ?_
  ·unfold eF
   refine cV (I := fun (s : Int × Int × List Int) => (s.1 = 0 ∧ s.2.1 = 1 ∧ s.2.2 = [x,y]) ∨ (s.1 = 1 ∧ s.2.1 = 0 ∧ s.2.2 = [y,x])) (m := fun s => (1 - s.1).toNat) ?_ _ (.inl ⟨rfl,rfl,rfl⟩) (by show (1 - 0 : Int).toNat < 1180591620717411303424; decide)
   rintro ⟨i,j,v⟩ h
   dsimp only at h
   rcases h with ⟨rfl,rfl,rfl⟩ | ⟨rfl,rfl,rfl⟩
   ·exact aC (.inl ⟨_,rfl, .inr ⟨rfl,rfl,rfl⟩,by show (1 - w64 (0 + 1)).toNat < (1 - 0 : Int).toNat; decide⟩)
   ·exact aC (.inr ⟨_,rfl,rfl⟩)
  ·subst hv
   refine fF rfl (aN (P := fun t => t = mJ [x,y] [c,d]) ?_ fun t h => aC h)
   unfold vI
   refine aN (P := fun t => t = mJ [x,y] [c,d]) ?_ fun t h => aC h
   refine cV (I := fun (s : Int × List bE) => (s.1 = 0 ∧ s.2 = []) ∨ (s.1 = 1 ∧ s.2 = [⟨y,c⟩]) ∨ (s.1 = 2 ∧ s.2 = [⟨y,c⟩,⟨x,d⟩])) (m := fun s => (2 - s.1).toNat) ?_ _ (.inl ⟨rfl,rfl⟩) (by show (2 - 0 : Int).toNat < 1180591620717411303424; decide)
   rintro ⟨i,v⟩ h
   dsimp only at h
   rcases h with ⟨rfl,rfl⟩ | ⟨rfl,rfl⟩ | ⟨rfl,rfl⟩
   ·exact aC (.inl ⟨_,rfl, .inr (.inl ⟨rfl,rfl⟩),by show (2 - w64 (0 + 1)).toNat < (2 - 0 : Int).toNat; decide⟩)
   ·exact aC (.inl ⟨_,rfl, .inr (.inr ⟨rfl,rfl⟩),by show (2 - w64 (1 + 1)).toNat < (2 - 1 : Int).toNat; decide⟩)
   ·exact aC (.inr ⟨_,rfl,rfl⟩)
 obtain ⟨t,h,rfl⟩ := key
 exact h
theorem aOc {ls : List (List Int)} : ∀ {acc : List Int} {p : Int},p ∈ ls.foldl (fun acc l => if cU l ∈ acc then acc else acc ++ [cU l]) acc ↔ p ∈ acc ∨ ∃ l ∈ ls,cU l = p := by
 induction ls with
 | nil => intro acc p; simp
 | cons l ls ih =>
  intro acc p
  rw [List.foldl_cons,ih]
  by_cases h : cU l ∈ acc
  ·rw [if_pos h]
   constructor
   ·rintro (q | ⟨m,hm,e⟩)
    ·exact .inl q
    ·exact .inr ⟨m,List.mem_cons_of_mem _ hm,e⟩
   ·rintro (q | ⟨m,hm,e⟩)
    ·exact .inl q
    ·rcases List.mem_cons.1 hm with rfl | hm
     ·exact .inl (e ▸ h)
     ·exact .inr ⟨m,hm,e⟩
  ·rw [if_neg h]
   constructor
   ·rintro (q | ⟨m,hm,e⟩)
    ·rcases List.mem_append.1 q with q | q
     ·exact .inl q
     ·exact .inr ⟨l,List.mem_cons_self ..,(List.mem_singleton.1 q).symm⟩
    ·exact .inr ⟨m,List.mem_cons_of_mem _ hm,e⟩
   ·rintro (q | ⟨m,hm,e⟩)
    ·exact .inl (List.mem_append.2 (.inl q))
    ·rcases List.mem_cons.1 hm with rfl | hm
     ·exact .inl (List.mem_append.2 (.inr (by rw [e]; exact List.mem_singleton.2 rfl)))
     ·exact .inr ⟨m,hm,e⟩
theorem aOb {ls : List (List Int)} : ∀ {acc : List Int},(ls.foldl (fun acc l => if cU l ∈ acc then acc else acc ++ [cU l]) acc).length ≤ acc.length + ls.length := by
 induction ls with
 | nil => intro acc; simp
 | cons l ls ih =>
  intro acc
  rw [List.foldl_cons]
  refine Nat.le_trans ih ?_
  split
  ·simp
  ·simp; omega
def aAi (ls : List (List Int)) : List Int := aAj (gW ls)
theorem vO {ls : List (List Int)} {p : Int} : p ∈ aAi ls ↔ ∃ l ∈ ls,cU l = p := by
 unfold aAi aAj gW
 rw [List.mem_mergeSort,aOc]
 simp
theorem aKe (ls : List (List Int)) : (aAi ls).length ≤ ls.length := by
 unfold aAi
 rw [aCh]
 have := aOb (ls := ls) (acc := [])
 unfold gW
 simpa using this
theorem aIp (ls : List (List Int)) : (aAi ls).Pairwise (· ≤ ·) := by
 unfold aAi aAj
 have := List.pairwise_mergeSort (le := fun (x y : Int) => decide (x ≤ y)) (fun a b c h1 h2 => by simp at *; omega) (fun a b => by simp; omega) (gW ls)
 exact this.imp fun h => by simpa using h
theorem aKh {xs : List Int} (h : xs.Pairwise (· ≤ ·)) {i j : Nat} (hij : i ≤ j) (hj : j < xs.length) : xs[i]'(by omega) ≤ xs[j] := by
 rcases Nat.lt_or_ge i j with q | q
 ·exact List.pairwise_iff_getElem.1 h i j (by omega) hj q
 ·have : i = j := by omega
  subst this; exact Int.le_refl _
theorem aS5 {r : aA} (hr : aO9 r) {xs : List Int} (hs : xs.Pairwise (· ≤ ·)) (hx : ∀ x ∈ xs,0 < x ∧ x ≤ 100) (hl : xs.length ≤ 1000) {p : Int} (hp : 0 < p ∧ p ≤ 7056) : Ok (bH xs p r) (fun k => (0 ≤ k.1 ∧ k.1 ≤ xs.length) ∧ (∀ (i : Nat) (hi : i < xs.length),(i : Int) < k.1 → xs[i] * r.Num ≤ p * r.Den) ∧ ∀ (i : Nat) (hi : i < xs.length),k.1 ≤ (i : Int) → p * r.Den ≤ xs[i] * r.Num) := by
 obtain ⟨⟨n0,n1⟩,d0,d1⟩ := hr
 have one : ∀ x,x ∈ xs → iP x p r = some (aBc (x * r.Num) (p * r.Den)) := fun x h => by
  obtain ⟨⟨f0,f1⟩,⟨f2,f3⟩,_⟩ := aGg (r := r) (p := p) (q := x) (by omega) (by omega) hp (hx x h)
  unfold iP
  rw [aS (x := x * r.Num) (by omega) (by omega),aS (x := p * r.Den) (by omega) (by omega),aGd,Option.bind_some]
 have mono : ∀ {a b : Int},a ≤ b → a * r.Num ≤ b * r.Num := fun h => Int.mul_le_mul_of_nonneg_right h (by omega)
 unfold bH
 refine aN (P := fun (k : Int) => (0 ≤ k ∧ k ≤ xs.length) ∧ (∀ (i : Nat) (hi : i < xs.length),(i : Int) < k → xs[i] * r.Num ≤ p * r.Den) ∧ ∀ (i : Nat) (hi : i < xs.length),k ≤ (i : Int) → p * r.Den ≤ xs[i] * r.Num) ?_ fun k hk => bQ (fun h => ?_) fun h => aC hk
 ·refine cV (I := fun (s : Int × Int) => (0 ≤ s.1 ∧ s.1 ≤ s.2 ∧ s.2 ≤ xs.length) ∧ (∀ (i : Nat) (hi : i < xs.length),(i : Int) < s.1 → xs[i] * r.Num ≤ p * r.Den) ∧ ∀ (i : Nat) (hi : i < xs.length),s.2 ≤ (i : Int) → p * r.Den ≤ xs[i] * r.Num) (m := fun s => (s.2 - s.1).toNat) ?_ _ ⟨⟨by dsimp only; omega,by dsimp only; omega,by dsimp only; omega⟩,fun i hi h => by dsimp only at h; omega,fun i hi h => by dsimp only at h; omega⟩ (by dsimp only; omega)
  rintro ⟨a,b⟩ ⟨⟨a0,ab,b1⟩,h1,h2⟩
  dsimp only at a0 ab b1 h1 h2 ⊢
  refine bQ (fun h => ?_) fun h => aC (.inr ⟨_,rfl,⟨a0,by omega⟩,h1,fun i hi hh => h2 i hi (by omega)⟩)
  have e : w64 (aOf .u64 (IntKind.u64.wrap (w64 (a + b))) 1) = (a + b) / 2 := by
   rw [aS (x := a + b) (by omega) (by omega),aHt (by omega) (by omega)]
   have : aOf .u64 (a + b) 1 = (a + b) / 2 := by
    unfold aOf
    exact Int.fdiv_eq_ediv_of_nonneg _ (by decide)
   rw [this,aS (by omega) (by omega)]
  obtain ⟨m,hm⟩ : ∃ m : Nat,(a + b) / 2 = m := ⟨((a + b) / 2).toNat,by omega⟩
  have hml : m < xs.length := by omega
  rw [e,hm,dP hml,Option.bind_some,one _ (List.getElem_mem hml),Option.bind_some,aS (x := (m : Int) + 1) (by omega) (by omega)]
  refine bQ (fun hv => aC (.inl ⟨_,rfl,⟨⟨by dsimp only; omega,by dsimp only; omega,b1⟩,fun i hi hh => ?_,h2⟩,by dsimp only; omega⟩)) fun hv => aC (.inl ⟨_,rfl,⟨⟨a0,by dsimp only; omega,by dsimp only; omega⟩,h1,fun i hi hh => ?_⟩,by dsimp only; omega⟩)
  ·dsimp only at hh
   have hv := aEf.1 hv
   have := mono (aKh hs (i := i) (j := m) (by omega) (by omega))
   omega
  ·dsimp only at hh
   have hv : ¬ xs[m] * r.Num < p * r.Den := fun q => hv (aEf.2 q)
   have := mono (aKh hs (i := m) (j := i) (by omega) hi)
   omega
 ·obtain ⟨j,rfl⟩ : ∃ j : Nat,k = j := ⟨k.toNat,by omega⟩
  have hj : j < xs.length := by omega
  rw [dP hj,Option.bind_some,one _ (List.getElem_mem hj),Option.bind_some]
  exact aC hk
end Go.Proofs.YtgcdbbidmfdonaaGreat
namespace Go.Proofs.YtgcdbbidmfdonaaGreat
set_option linter.unusedVariables false
set_option maxRecDepth 100000
def okM (r : aA) (P Q : List Int) (m : kA) : Prop := m.p ∈ P ∧ m.q ∈ Q ∧ m.far = nX r m.p m.q
def wY (r : aA) (P Q : List Int) (U : Int → Int → Prop) (B : List kA) : Prop :=
 (∀ m ∈ B,okM r P Q m) ∧ (∀ m ∈ B, ∀ m' ∈ B,m.far * m'.q = m'.far * m.q) ∧ ∀ p q,U p q → B ≠ [] ∧ (⟨p,q,nX r p q⟩ ∈ B ∨ ∀ m ∈ B,m.far * q < nX r p q * m.q)
theorem aL7 {r : aA} {P Q : List Int} {U : Int → Int → Prop} (h : ∀ p q, ¬ U p q) : wY r P Q U [] := ⟨fun m hm => (by cases hm),fun m hm => (by cases hm),fun p q hu => absurd hu (h p q)⟩
theorem yT {r : aA} {P Q : List Int} {U V : Int → Int → Prop} {B : List kA} (h : wY r P Q U B) (k : ∀ p q,V p q → U p q) : wY r P Q V B := ⟨h.1,h.2.1,fun p q hv => h.2.2 p q (k p q hv)⟩
theorem aL6 {r : aA} {P Q : List Int} (hQ : ∀ q ∈ Q,0 < q) {U V : Int → Int → Prop} {B : List kA} (h : wY r P Q U B) (k : ∀ p q,V p q → U p q ∨ (0 < q ∧ ∃ q',U p q' ∧ 0 < q' ∧ nX r p q' * q < nX r p q * q')) : wY r P Q V B := ⟨h.1,h.2.1,fun p q hv => by
 rcases k p q hv with q1 | ⟨q0,q',hu,h0,hl⟩
 ·exact h.2.2 p q q1
 ·obtain ⟨hne,hb⟩ := h.2.2 p q' hu
  refine ⟨hne, .inr fun m hm => ?_⟩
  have mq := hQ _ (h.1 m hm).2.1
  rcases hb with hb | hb
  ·have e := h.2.1 m hm _ hb
   dsimp only at e
   exact aEk mq h0 q0 (by omega) (by omega) (.inr hl)
  ·have e := hb m hm
   exact aEk mq h0 q0 (by omega) (by omega) (.inr hl)⟩
def aQv (m : kA) : List kA → List kA
 | [] => [m]
 | b :: r => if m.far * b.q < b.far * m.q then [m] else if m.far * b.q = b.far * m.q then (b :: r) ++ [m] else b :: r
theorem aRj {r : aA} {P Q : List Int} (hQ : ∀ q ∈ Q,0 < q) {U : Int → Int → Prop} {B : List kA} (h : wY r P Q U B) {p q : Int} (hp : p ∈ P) (hq : q ∈ Q) (hU : ∀ p q,U p q → 0 < q) : wY r P Q (fun p' q' => U p' q' ∨ (p' = p ∧ q' = q)) (aQv ⟨p,q,nX r p q⟩ B) := by
 have q0 := hQ q hq
 obtain ⟨h1,h2,h3⟩ := h
 have hm : okM r P Q ⟨p,q,nX r p q⟩ := ⟨hp,hq,rfl⟩
 match B,h1,h2,h3 with
 | [],h1,h2,h3 =>
  refine ⟨fun m hm' => ?_,fun m hm' m' hm'' => ?_,fun p' q' hu => ?_⟩
  ·rw [List.mem_singleton.1 hm']; exact hm
  ·rw [List.mem_singleton.1 hm',List.mem_singleton.1 hm'']
  ·rcases hu with hu | ⟨rfl,rfl⟩
   ·exact absurd rfl (h3 p' q' hu).1
   ·exact ⟨by simp [aQv], .inl (by simp [aQv])⟩
 | b :: B,h1,h2,h3 =>
  have bq := hQ _ (h1 b (List.mem_cons_self ..)).2.1
  unfold aQv
  dsimp only
  by_cases c1 : nX r p q * b.q < b.far * q
  ·rw [if_pos c1]
   refine ⟨fun m hm' => ?_,fun m hm' m' hm'' => ?_,fun p' q' hu => ⟨by simp,?_⟩⟩
   ·rw [List.mem_singleton.1 hm']; exact hm
   ·rw [List.mem_singleton.1 hm',List.mem_singleton.1 hm'']
   ·rcases hu with hu | ⟨rfl,rfl⟩
    ·right
     intro m hm'
     rw [List.mem_singleton.1 hm']
     dsimp only
     have q'0 := hU p' q' hu
     rcases (h3 p' q' hu).2 with e | e
     ·have e := h2 _ e b (List.mem_cons_self ..)
      dsimp only at e
      exact aEk q0 bq q'0 (by omega) (by omega) (.inl c1)
     ·have e := e b (List.mem_cons_self ..)
      exact aEk q0 bq q'0 (by omega) (by omega) (.inl c1)
    ·exact .inl (List.mem_singleton.2 rfl)
  ·rw [if_neg c1]
   by_cases c2 : nX r p q * b.q = b.far * q
   ·rw [if_pos c2]
    have eqb : ∀ m ∈ b :: B,nX r p q * m.q = m.far * q := fun m hm' => by
     have mq := hQ _ (h1 m hm').2.1
     have e := h2 m hm' b (List.mem_cons_self ..)
     have a1 := aPs q0 bq mq (a := nX r p q) (b := b.far) (c := m.far) (by omega) (by omega)
     have a2 := aPs mq bq q0 (a := m.far) (b := b.far) (c := nX r p q) (by omega) (by omega)
     omega
    refine ⟨fun m hm' => ?_,fun m hm' m' hm'' => ?_,fun p' q' hu => ⟨by simp,?_⟩⟩
    ·rcases List.mem_append.1 hm' with g | g
     ·exact h1 m g
     ·rw [List.mem_singleton.1 g]; exact hm
    ·rcases List.mem_append.1 hm' with g | g
     ·rcases List.mem_append.1 hm'' with g2 | g2
      ·exact h2 m g m' g2
      ·rw [List.mem_singleton.1 g2]; exact (eqb m g).symm
     ·rw [List.mem_singleton.1 g]
      rcases List.mem_append.1 hm'' with g2 | g2
      ·exact eqb m' g2
      ·rw [List.mem_singleton.1 g2]
    ·rcases hu with hu | ⟨rfl,rfl⟩
     ·rcases (h3 p' q' hu).2 with e | e
      ·exact .inl (List.mem_append.2 (.inl e))
      ·right
       intro m hm'
       rcases List.mem_append.1 hm' with g | g
       ·exact e m g
       ·rw [List.mem_singleton.1 g]
        have e := e b (List.mem_cons_self ..)
        exact aEk (a := nX r p q) (b := b.far) (c := nX r p' q') (p := q) (q := b.q) q0 bq (hU p' q' hu) (by omega) (by omega) (.inr e)
     ·exact .inl (List.mem_append.2 (.inr (List.mem_singleton.2 rfl)))
   ·rw [if_neg c2]
    refine ⟨h1,h2,fun p' q' hu => ⟨by simp,?_⟩⟩
    rcases hu with hu | ⟨rfl,rfl⟩
    ·exact (h3 p' q' hu).2
    ·right
     intro m hm'
     have mq := hQ _ (h1 m hm').2.1
     have e := h2 m hm' b (List.mem_cons_self ..)
     exact aEk (a := m.far) (b := b.far) (p := m.q) (q := b.q) mq bq q0 (by omega) (by omega) (.inr (by omega))
theorem aO6 (m : kA) (B : List kA) : (aQv m B).length ≤ B.length + 1 := by
 unfold aQv
 split
 ·simp
 ·split
  ·simp
  ·split <;> simp
def xO (W : List bE → Prop) (t : List bE) : Prop := (t = [] ∧ ∀ u, ¬ W u) ∨ (gL t ∧ W t ∧ ∀ u,W u → ¬ ltT u t)
theorem sL {W V : List bE → Prop} {t : List bE} (h : xO W t) (k : ∀ u,W u ↔ V u) : xO V t := by
 rcases h with ⟨h1,h2⟩ | ⟨h1,h2,h3⟩
 ·exact .inl ⟨h1,fun u hu => h2 u ((k u).2 hu)⟩
 ·exact .inr ⟨h1,(k t).1 h2,fun u hu => h3 u ((k u).2 hu)⟩
theorem aIk {α σ : Type} {xs : List α} {step : σ × Int → Option ((σ × Int) ⊕ σ)} (I : Nat → σ → Prop) (hl : xs.length ≤ 1000000) (hS : ∀ (n : Nat) (hn : n < xs.length) s,I n s → Ok (step (s,(n : Int))) (fun y => ∃ s',y = .inl (s',w64 ((n : Int) + 1)) ∧ I (n + 1) s')) (hE : ∀ s,step (s,(xs.length : Int)) = some (.inr s)) {s0 : σ} (h0 : I 0 s0) : Ok (cK step (s0,0)) (I xs.length) := by
 refine cV (I := fun (s : σ × Int) => (0 ≤ s.2 ∧ s.2 ≤ xs.length) ∧ I s.2.toNat s.1) (m := fun s => (xs.length - s.2).toNat) ?_ _ ⟨⟨by dsimp only; omega,by dsimp only; omega⟩,h0⟩ (by dsimp only; omega)
 rintro ⟨s,i⟩ ⟨⟨i0,i1⟩,hs⟩
 dsimp only at i0 i1 hs ⊢
 obtain ⟨n,rfl⟩ : ∃ n : Nat,i = n := ⟨i.toNat,by omega⟩
 rw [Int.toNat_natCast] at hs
 rcases Nat.lt_or_ge n xs.length with hn | hn
 ·refine aB2 (hS n hn s hs) fun y hy => ?_
  obtain ⟨s',rfl,h⟩ := hy
  rw [aS (x := (n : Int) + 1) (by omega) (by omega)]
  exact .inl ⟨_,rfl,⟨⟨by dsimp only; omega,by dsimp only; omega⟩,by rw [show ((n : Int) + 1).toNat = n + 1 by omega]; exact h⟩,by dsimp only; omega⟩
 ·have : n = xs.length := by omega
  subst this
  rw [hE]
  exact aC (.inr ⟨_,rfl,hs⟩)
theorem oY {α : Type} {xs : List α} {n : Nat} (hn : n < xs.length) {x : α} : x ∈ xs.take (n + 1) ↔ x ∈ xs.take n ∨ x = xs[n] := by
 rw [sV hn,List.mem_append,List.mem_singleton]
theorem aF9 {r : aA} (hr : aO9 r) : Ok (kM r ⟨60,84,7,10,2⟩) (fun t => gL t ∧ ∀ u,gL u → ¬ qY r u t) := by
  have hr' := hr
  obtain ⟨⟨n0,n1⟩,d0,d1⟩ := hr'
  obtain ⟨A,hA⟩ : ∃ A,A = bX 60 84 2 := ⟨_,rfl⟩
  obtain ⟨C,hC⟩ : ∃ C,C = bX 7 10 2 := ⟨_,rfl⟩
  have lA : A.length = 325 := by rw [hA]; decide
  have lC : C.length = 10 := by rw [hC]; decide
  have e1 : oC 60 84 2 = some ⟨aAi A,eY A⟩ := by rw [hA]; unfold oC; exact iN (by decide)
  have e2 : oC 7 10 2 = some ⟨aAi C,eY C⟩ := by rw [hC]; unfold oC; exact iN (by decide)
  have mA : ∀ l ∈ A, ∃ x y : Int,l = [x,y] ∧ 60 ≤ x ∧ x ≤ y ∧ y ≤ 84 := fun l h => aDp.1 (hA ▸ h)
  have mC : ∀ l ∈ C, ∃ x y : Int,l = [x,y] ∧ 7 ≤ x ∧ x ≤ y ∧ y ≤ 10 := fun l h => aDp.1 (hC ▸ h)
  have iA : ∀ x y : Int,60 ≤ x → x ≤ y → y ≤ 84 → [x,y] ∈ A := fun x y a b c => by rw [hA]; exact aDp.2 ⟨x,y,rfl,a,b,c⟩
  have iC : ∀ x y : Int,7 ≤ x → x ≤ y → y ≤ 10 → [x,y] ∈ C := fun x y a b c => by rw [hC]; exact aDp.2 ⟨x,y,rfl,a,b,c⟩
  clear hA hC
  have can : ∀ a ∈ A, ∀ b ∈ C,gL (mJ a b) ∧ pT (mJ a b) = cU a ∧ qT (mJ a b) = cU b ∧ jD a b = some (mJ a b) := fun a ha b hb => by
    obtain ⟨x,y,rfl,h1,h2,h3⟩ := mA a ha
    obtain ⟨c,d,rfl,h4,h5,h6⟩ := mC b hb
    exact ⟨⟨x,y,c,d,rfl,⟨h1,h2,h3⟩,h4,h5,h6⟩,by simp [mJ,pT,cU],by simp [mJ,qT,cU],aCv x y c d⟩
  have pP : ∀ p ∈ aAi A,0 < p ∧ p ≤ 7056 := fun p hp => by
    obtain ⟨l,hl,rfl⟩ := vO.1 hp
    obtain ⟨x,y,rfl,h1,h2,h3⟩ := mA l hl
    have := uR (a := x) (b := y) (A := 84) (B := 84) (by omega) (by omega) (by omega) (by omega)
    simpa [cU] using this
  have pQ : ∀ q ∈ aAi C,0 < q ∧ q ≤ 100 := fun p hp => by
    obtain ⟨l,hl,rfl⟩ := vO.1 hp
    obtain ⟨x,y,rfl,h1,h2,h3⟩ := mC l hl
    have := uR (a := x) (b := y) (A := 10) (B := 10) (by omega) (by omega) (by omega) (by omega)
    simpa [cU] using this
  have lP := aKe A
  have lQ := aKe C
  have sQ := aIp C
  obtain ⟨P,hP⟩ : ∃ P,P = aAi A := ⟨_,rfl⟩
  obtain ⟨Q,hQ⟩ : ∃ Q,Q = aAi C := ⟨_,rfl⟩
  have fP : ∀ l ∈ A,cU l ∈ P := fun l h => by rw [hP]; exact vO.2 ⟨l,h,rfl⟩
  have fQ : ∀ l ∈ C,cU l ∈ Q := fun l h => by rw [hQ]; exact vO.2 ⟨l,h,rfl⟩
  have gP : ∀ p ∈ P, ∃ l ∈ A,cU l = p := fun p h => vO.1 (hP ▸ h)
  have gQ : ∀ p ∈ Q, ∃ l ∈ C,cU l = p := fun p h => vO.1 (hQ ▸ h)
  unfold kM
  dsimp only
  rw [e1,Option.bind_some,e2,Option.bind_some]
  dsimp only
  rw [← hP] at pP lP ⊢
  rw [← hQ] at pQ lQ sQ ⊢
  clear hP hQ e1 e2
  have qpos : ∀ q ∈ Q,0 < q := fun q h => (pQ q h).1
  -- the least misses
  refine aN (P := fun (B : List kA) => B.length ≤ 1000000 ∧ wY r P Q (fun p q => p ∈ P ∧ q ∈ Q) B) ?_ fun B hB => ?_
  · refine cV (I := fun (s : Int × List kA) => (0 ≤ s.1 ∧ s.1 ≤ P.length) ∧ (s.2.length : Int) ≤ 20 * s.1 ∧ wY r P Q (fun p q => p ∈ P.take s.1.toNat ∧ q ∈ Q) s.2) (m := fun s => (P.length - s.1).toNat) ?_ _ ⟨⟨by dsimp only; omega,by dsimp only; omega⟩,by simp,aL7 fun p q h => by simp at h⟩ (by dsimp only; omega)
    rintro ⟨i,B⟩ ⟨⟨i0,i1⟩,bl,hB⟩
    dsimp only at i0 i1 bl hB ⊢
    refine bQ (fun hi => ?_) fun hi => aC (.inr ⟨_,rfl,by omega,?_⟩)
    · obtain ⟨n,rfl⟩ : ∃ n : Nat,i = n := ⟨i.toNat,by omega⟩
      have hn : n < P.length := by omega
      rw [Int.toNat_natCast] at hB
      rw [dP hn,Option.bind_some]
      have hpn := List.getElem_mem hn
      have bp := pP _ hpn
      obtain ⟨p,hp⟩ : ∃ p,p = P[n] := ⟨_,rfl⟩
      rw [← hp] at hpn bp ⊢
      have pd : 0 < p * r.Den := Int.mul_pos bp.1 (by omega)
      refine aN (P := fun (B : List kA) => (B.length : Int) ≤ 20 * (n + 1) ∧ wY r P Q (fun p' q => p' ∈ P.take (n + 1) ∧ q ∈ Q) B) ?_ fun B' hB' => aC (.inl ⟨_,rfl,?_⟩)
      · refine aN (aS5 hr sQ pQ (by omega) bp) fun k hk => ?_
        obtain ⟨⟨k0,k1⟩,kl,kh⟩ := hk
        obtain ⟨k,kb⟩ := k
        dsimp only at k0 k1 kl kh ⊢
        obtain ⟨k,rfl⟩ : ∃ j : Nat,k = j := ⟨k.toNat,by omega⟩
        obtain ⟨j0,hj0⟩ : ∃ j0 : Nat,max (w64 ((k : Int) - 1)) 0 = j0 ∧ j0 ≤ k ∧ (k ≤ j0 + 1) ∧ (0 < k → j0 + 1 = k) := by
          rw [aS (x := (k : Int) - 1) (by omega) (by omega)]
          exact ⟨k - 1,by omega,by omega,by omega,by omega⟩
        obtain ⟨hj,jk,kj,kj2⟩ := hj0
        rw [hj]
        -- what is not tried is worse
        have fin : ∀ (j : Nat),(k < j ∨ Q.length ≤ j) → ∀ B',wY r P Q (fun p' q => (p' ∈ P.take n ∧ q ∈ Q) ∨ (p' = p ∧ ∃ (m : Nat) (hm : m < Q.length),j0 ≤ m ∧ m < j ∧ q = Q[m])) B' → wY r P Q (fun p' q => p' ∈ P.take (n + 1) ∧ q ∈ Q) B' := fun j hjk B' h => by
          refine aL6 qpos h fun p' q hv => ?_
          obtain ⟨hv,hq⟩ := hv
          rcases (oY hn).1 hv with hv | hv
          · exact .inl (.inl ⟨hv,hq⟩)
          · rw [← hp] at hv
            subst hv
            obtain ⟨m,hm,rfl⟩ := List.getElem_of_mem hq
            have qm := pQ _ hq
            have dec : ∀ (m' : Nat) (hm' : m' < Q.length),j0 ≤ m' → m' < j → Q[m'] ≠ Q[m] → ((m' < k ∧ Q[m] < Q[m']) ∨ (k ≤ m' ∧ Q[m'] < Q[m])) → (0 < Q[m] ∧ ∃ q',((p' ∈ P.take n ∧ q' ∈ Q) ∨ (p' = p' ∧ ∃ (m : Nat) (hm : m < Q.length),j0 ≤ m ∧ m < j ∧ q' = Q[m])) ∧ 0 < q' ∧ nX r p' q' * Q[m] < nX r p' Q[m] * q') := fun m' hm' a1 a2 a3 a4 => by
              refine ⟨qm.1,Q[m'], .inr ⟨rfl,m',hm',a1,a2,rfl⟩,(pQ _ (List.getElem_mem hm')).1,?_⟩
              rcases a4 with ⟨b1,b2⟩ | ⟨b1,b2⟩
              · exact aJ5 pd (by omega) b2 (kl m' hm' (by omega))
              · exact aGx pd (by omega) b2 (kh m' hm' (by omega))
            by_cases t1 : j0 ≤ m ∧ m < j
            · exact .inl (.inr ⟨rfl,m,hm,t1.1,t1.2,rfl⟩)
            · by_cases t2 : m < j0
              · -- below: the one before k is nearer,or it is the same
                have hj0 : j0 < Q.length := by omega
                have le := aKh sQ (i := m) (j := j0) (by omega) hj0
                by_cases e : Q[j0] = Q[m]
                · exact .inl (.inr ⟨rfl,j0,hj0,Nat.le_refl _,by omega,e.symm⟩)
                · exact .inr (dec j0 hj0 (Nat.le_refl _) (by omega) e (.inl ⟨by omega,by omega⟩))
              · have hkm : k < m := by omega
                have hk : k < Q.length := by omega
                have le := aKh sQ (i := k) (j := m) (by omega) hm
                by_cases e : Q[k] = Q[m]
                · exact .inl (.inr ⟨rfl,k,hk,by omega,by omega,e.symm⟩)
                · exact .inr (dec k hk (by omega) (by omega) e (.inr ⟨by omega,by omega⟩))
        refine cV (I := fun (s : Int × List kA) => (j0 ≤ s.1 ∧ s.1 ≤ Q.length + 1 ∧ s.1 ≤ k + 1) ∧ (s.2.length : Int) ≤ 20 * n + (s.1 - j0) ∧ wY r P Q (fun p' q => (p' ∈ P.take n ∧ q ∈ Q) ∨ (p' = p ∧ ∃ (m : Nat) (hm : m < Q.length),j0 ≤ m ∧ (m : Int) < s.1 ∧ q = Q[m])) s.2) (m := fun s => (Q.length + 1 - s.1).toNat) ?_ _ ⟨⟨by dsimp only; omega,by dsimp only; omega,by dsimp only; omega⟩,by dsimp only; omega,yT hB fun p' q hv => ?_⟩ (by dsimp only; omega)
        · rintro ⟨j,B⟩ ⟨⟨a0,a1,a2⟩,bl,hB⟩
          dsimp only at a0 a1 a2 bl hB ⊢
          obtain ⟨j,rfl⟩ : ∃ m : Nat,j = m := ⟨j.toNat,by omega⟩
          by_cases hjj : j ≤ k ∧ j < Q.length
          · rw [if_pos (show (j : Int) ≤ k by omega),Option.bind_some,if_pos (decide_eq_true (show (j : Int) < Q.length by omega)),dP hjj.2,Option.bind_some]
            have hq := List.getElem_mem hjj.2
            have bq := pQ _ hq
            obtain ⟨⟨f0,f1⟩,⟨f2,f3⟩,f4,f5⟩ := aGg (r := r) (p := p) (q := Q[j]) (by omega) (by omega) bp bq
            unfold vH
            rw [aS (x := p * r.Den) (by omega) (by omega),aS (x := Q[j] * r.Num) (by omega) (by omega),aS (x := _ - _) (by omega) (by omega),xJ (by omega) (by omega),Option.bind_some,Option.bind_some]
            have e0 : dD (p * r.Den - Q[j] * r.Num) = nX r p Q[j] := rfl
            rw [e0]
            have hx := aRj qpos hB (p := p) (q := Q[j]) hpn hq (fun p' q' hv => by
              rcases hv with ⟨_,hv⟩ | ⟨_,m,hm,_,_,rfl⟩
              · exact qpos _ hv
              · exact qpos _ (List.getElem_mem hm))
            have hln := aO6 ⟨p,Q[j],nX r p Q[j]⟩ B
            have key : Ok ((((if 0 < (B.length : Int) then
  ((atI B 0).bind fun v51 =>
  ((gB ⟨p,Q[j],nX r p Q[j]⟩ v51).bind fun v52 =>
  some (decide (v52 < 0))))
  else
  some false) : Option Bool).bind fun v53 =>
  (if v53 = true then
  some ([] : List kA)
  else
  some B)).bind fun v54 =>
  (((if (v54.length : Int) = 0 then
  some true
  else
  ((atI v54 0).bind fun v55 =>
  ((gB ⟨p,Q[j],nX r p Q[j]⟩ v55).bind fun v56 =>
  some (decide (v56 = 0))))) : Option Bool).bind fun v57 =>
  (if v57 = true then
  (chk ((v54.length + [(⟨p,Q[j],nX r p Q[j]⟩ : kA)].length) * 3 * 64 ≤ 140737488355328) (
  some (v54 ++ [(⟨p,Q[j],nX r p Q[j]⟩ : kA)])))
  else
  some v54))) (fun B' => B' = aQv ⟨p,Q[j],nX r p Q[j]⟩ B) := by
              have cmpM : ∀ b ∈ B,gB ⟨p,Q[j],nX r p Q[j]⟩ b = some (aBc (nX r p Q[j] * b.q) (b.far * Q[j])) := fun b hb => by
                obtain ⟨o1,o2,o3⟩ := hB.1 b hb
                have b1 := pP _ o1
                have b2 := pQ _ o2
                have F := (aGg (r := r) (p := b.p) (q := b.q) (by omega) (by omega) b1 b2).2.2
                have m1 : nX r p Q[j] * b.q ≤ 8000000000 * 100 := Int.mul_le_mul f5 b2.2 (by omega) (by omega)
                have m2 : 0 ≤ nX r p Q[j] * b.q := Int.mul_nonneg f4 (by omega)
                have m3 : b.far * Q[j] ≤ 8000000000 * 100 := Int.mul_le_mul (by omega) bq.2 (by omega) (by omega)
                have m4 : 0 ≤ b.far * Q[j] := Int.mul_nonneg (by omega) (by omega)
                unfold gB
                dsimp only
                rw [aS (x := nX r p Q[j] * b.q) (by omega) (by omega),aS (x := b.far * Q[j]) (by omega) (by omega),aGd,Option.bind_some]
              match B,cmpM,bl with
              | [],_,_ => exact aC rfl
              | b :: B,cmpM,bl =>
                have e3 : atI (b :: B) 0 = some b := rfl
                have e4 : ¬ (((b :: B).length : Int) = 0) := by simp; omega
                rw [if_pos (by simp),e3,Option.bind_some,cmpM b (List.mem_cons_self ..),Option.bind_some,Option.bind_some]
                unfold aQv
                dsimp only
                by_cases c1 : nX r p Q[j] * b.q < b.far * Q[j]
                · rw [if_pos (decide_eq_true (aEf.2 c1)),if_pos c1]
                  exact aC rfl
                · rw [if_neg (fun q => c1 (aEf.1 (of_decide_eq_true q))),if_neg c1,Option.bind_some,if_neg e4,e3,Option.bind_some,cmpM b (List.mem_cons_self ..),Option.bind_some,Option.bind_some]
                  by_cases c2 : nX r p Q[j] * b.q = b.far * Q[j]
                  · rw [if_pos (decide_eq_true (aEe.2 c2)),if_pos c2]
                    refine fF ?_ (aC rfl)
                    simp only [List.length_cons,List.length_nil] at bl ⊢
                    omega
                  · rw [if_neg (fun q => c2 (aEe.1 (of_decide_eq_true q))),if_neg c2]
                    exact aC rfl
            refine aN key fun B' hB' => aC (.inl ⟨_,rfl,?_⟩)
            subst hB'
            dsimp only
            rw [aS (x := (j : Int) + 1) (by omega) (by omega)]
            refine ⟨⟨⟨by omega,by omega,by omega⟩,by omega,yT hx fun p' q hv => ?_⟩,by omega⟩
            rcases hv with hv | ⟨rfl,m,hm,g1,g2,rfl⟩
            · exact .inl (.inl hv)
            · rcases Nat.lt_or_ge m j with g | g
              · exact .inl (.inr ⟨rfl,m,hm,g1,by omega,rfl⟩)
              · have : m = j := by omega
                subst this
                exact .inr ⟨rfl,rfl⟩
          · have stop : wY r P Q (fun p' q => p' ∈ P.take (n + 1) ∧ q ∈ Q) B := fin j (by omega) B (yT hB fun p' q hv => by
              rcases hv with hv | ⟨rfl,m,hm,g1,g2,rfl⟩
              · exact .inl hv
              · exact .inr ⟨rfl,m,hm,g1,by omega,rfl⟩)
            by_cases h1 : j ≤ k
            · rw [if_pos (show (j : Int) ≤ k by omega),Option.bind_some,if_neg (fun q => by have := of_decide_eq_true q; omega)]
              exact aC (.inr ⟨_,rfl,by omega,stop⟩)
            · rw [if_neg (show ¬ (j : Int) ≤ k by omega),Option.bind_some,if_neg (by decide)]
              exact aC (.inr ⟨_,rfl,by omega,stop⟩)
        · rcases hv with hv | ⟨_,m,hm,g1,g2,_⟩
          · exact hv
          · dsimp only at g2; omega
      · dsimp only
        rw [aS (x := (n : Int) + 1) (by omega) (by omega)]
        exact ⟨⟨⟨by omega,by omega⟩,hB'.1,by rw [show ((n : Int) + 1).toNat = n + 1 by omega]; exact hB'.2⟩,by omega⟩
    · rw [List.take_of_length_le (by omega)] at hB
      exact hB
  · -- the least of their trains
    obtain ⟨bl,o1,o2,o3⟩ := hB
    have lw : ∀ (L : List (List Int)) (p : Int),(eY L p).length ≤ L.length := fun L p => List.length_filter_le ..
    have mw : ∀ {L : List (List Int)} {p : Int} {l : List Int},l ∈ eY L p ↔ l ∈ L ∧ cU l = p := fun {L p l} => by unfold eY; rw [List.mem_filter,decide_eq_true_eq]
    refine aN (P := xO fun u => ∃ m ∈ B, ∃ a ∈ eY A m.p, ∃ b ∈ eY C m.q,u = mJ a b) ?_ fun t ht => aC ?_
    · refine aB2 (aIk (xs := B) (I := fun i t => xO (fun u => ∃ m ∈ B.take i, ∃ a ∈ eY A m.p, ∃ b ∈ eY C m.q,u = mJ a b) t) bl (fun n hn s hs => ?_) (fun s => by simp) (.inl ⟨rfl,fun u hu => by simp at hu⟩)) fun t ht => by rw [List.take_length] at ht; exact ht
      dsimp only
      rw [if_pos (by omega),dP hn,Option.bind_some]
      have hm := o1 _ (List.getElem_mem hn)
      obtain ⟨m,em⟩ : ∃ m,m = B[n] := ⟨_,rfl⟩
      rw [← em] at hm ⊢
      have b1 := pP _ hm.1
      have b2 := pQ _ hm.2.1
      refine aN (P := xO fun u => (∃ m ∈ B.take n, ∃ a ∈ eY A m.p, ∃ b ∈ eY C m.q,u = mJ a b) ∨ ∃ a ∈ eY A m.p, ∃ b ∈ eY C m.q,u = mJ a b) ?_ fun t ht => aC ⟨_,rfl,sL ht fun u => ?_⟩
      · refine fF (by omega) ?_
        have lA' := lw A m.p
        refine aB2 (aIk (xs := eY A m.p) (I := fun i t => xO (fun u => (∃ m ∈ B.take n, ∃ a ∈ eY A m.p, ∃ b ∈ eY C m.q,u = mJ a b) ∨ ∃ a ∈ (eY A m.p).take i, ∃ b ∈ eY C m.q,u = mJ a b) t) (by omega) (fun n2 hn2 s hs => ?_) (fun s => by simp) (sL hs fun u => by simp)) fun t ht => by rw [List.take_length] at ht; exact ht
        dsimp only
        rw [if_pos (by omega),dP hn2,Option.bind_some]
        have ha := (mw.1 (List.getElem_mem hn2)).1
        obtain ⟨a,ea⟩ : ∃ a,a = (eY A m.p)[n2] := ⟨_,rfl⟩
        rw [← ea] at ha ⊢
        refine aN (P := xO fun u => ((∃ m ∈ B.take n, ∃ a ∈ eY A m.p, ∃ b ∈ eY C m.q,u = mJ a b) ∨ ∃ a ∈ (eY A m.p).take n2, ∃ b ∈ eY C m.q,u = mJ a b) ∨ ∃ b ∈ eY C m.q,u = mJ a b) ?_ fun t ht => aC ⟨_,rfl,sL ht fun u => ?_⟩
        · refine fF (by omega) ?_
          have lC' := lw C m.q
          refine aB2 (aIk (xs := eY C m.q) (I := fun i t => xO (fun u => ((∃ m ∈ B.take n, ∃ a ∈ eY A m.p, ∃ b ∈ eY C m.q,u = mJ a b) ∨ ∃ a ∈ (eY A m.p).take n2, ∃ b ∈ eY C m.q,u = mJ a b) ∨ ∃ b ∈ (eY C m.q).take i,u = mJ a b) t) (by omega) (fun n3 hn3 s hs => ?_) (fun s => by simp) (sL hs fun u => by simp)) fun t ht => by rw [List.take_length] at ht; exact ht
          dsimp only
          rw [if_pos (by omega),dP hn3,Option.bind_some]
          have hb := (mw.1 (List.getElem_mem hn3)).1
          obtain ⟨b,eb⟩ : ∃ b,b = (eY C m.q)[n3] := ⟨_,rfl⟩
          rw [← eb] at hb ⊢
          obtain ⟨cc,_,_,ce⟩ := can a ha b hb
          rw [ce,Option.bind_some]
          have wide : ∀ u,(((∃ m ∈ B.take n, ∃ a ∈ eY A m.p, ∃ b ∈ eY C m.q,u = mJ a b) ∨ ∃ a ∈ (eY A m.p).take n2, ∃ b ∈ eY C m.q,u = mJ a b) ∨ ∃ b ∈ (eY C m.q).take n3,u = mJ a b) ∨ u = mJ a b ↔ ((∃ m ∈ B.take n, ∃ a ∈ eY A m.p, ∃ b ∈ eY C m.q,u = mJ a b) ∨ ∃ a ∈ (eY A m.p).take n2, ∃ b ∈ eY C m.q,u = mJ a b) ∨ ∃ b ∈ (eY C m.q).take (n3 + 1),u = mJ a b := fun u => by
            constructor
            · rintro ((h | ⟨b',hb',e⟩) | e)
              · exact .inl h
              · exact .inr ⟨b',(oY hn3).2 (.inl hb'),e⟩
              · exact .inr ⟨b,(oY hn3).2 (.inr eb),e⟩
            · rintro (h | ⟨b',hb',e⟩)
              · exact .inl (.inl h)
              · rcases (oY hn3).1 hb' with h | h
                · exact .inl (.inr ⟨b',h,e⟩)
                · rw [← eb] at h; subst h; exact .inr e
          have candW : ∀ u,(((∃ m ∈ B.take n, ∃ a ∈ eY A m.p, ∃ b ∈ eY C m.q,u = mJ a b) ∨ ∃ a ∈ (eY A m.p).take n2, ∃ b ∈ eY C m.q,u = mJ a b) ∨ ∃ b ∈ (eY C m.q).take n3,u = mJ a b) → gL u := fun u hu => by
            rcases hu with (⟨m',_,a',ha',b',hb',rfl⟩ | ⟨a',ha',b',hb',rfl⟩) | ⟨b',hb',rfl⟩
            · exact (can a' (mw.1 ha').1 b' (mw.1 hb').1).1
            · exact (can a' (mw.1 (List.mem_of_mem_take ha')).1 b' (mw.1 hb').1).1
            · exact (can a ha b' (mw.1 (List.mem_of_mem_take hb')).1).1
          refine aN (P := fun t => xO (fun u => (((∃ m ∈ B.take n, ∃ a ∈ eY A m.p, ∃ b ∈ eY C m.q,u = mJ a b) ∨ ∃ a ∈ (eY A m.p).take n2, ∃ b ∈ eY C m.q,u = mJ a b) ∨ ∃ b ∈ (eY C m.q).take n3,u = mJ a b) ∨ u = mJ a b) t) ?_ fun t ht => aC ⟨_,rfl,sL ht wide⟩
          have hne : mJ a b ≠ [] := fun e => by rw [e] at cc; obtain ⟨_,_,_,_,q,_⟩ := cc; cases q
          generalize mJ a b = v at *
          rcases hs with ⟨s1,s2⟩ | ⟨s1,s2,s3⟩
          · rw [if_pos s1,Option.bind_some,if_pos rfl]
            refine fF hne (aC (.inr ⟨cc, .inr rfl,fun u hu => ?_⟩))
            rcases hu with hu | rfl
            · exact absurd hu (s2 u)
            · exact aM6 cc
          · have sne : s ≠ [] := fun e => by rw [e] at s1; obtain ⟨_,_,_,_,q,_⟩ := s1; cases q
            rw [if_neg sne]
            refine aN (P := fun b => (b = true ↔ ltT v s)) (aN (aGm cc s1) fun c hc => aC (by rw [decide_eq_true_eq]; exact hc)) fun x hx => bQ (fun hb => fF hne (aC (.inr ⟨cc, .inr rfl,fun u hu => ?_⟩))) fun hb => aC (.inr ⟨s1, .inl s2,fun u hu => ?_⟩)
            · rcases hu with hu | rfl
              · exact fun q => s3 u hu (aTi (candW u hu) cc s1 q (hx.1 hb))
              · exact aM6 cc
            · rcases hu with hu | rfl
              · exact s3 u hu
              · exact fun q => hb (hx.2 q)
        · constructor
          · rintro ((h | ⟨a',ha',h⟩) | h)
            · exact .inl h
            · exact .inr ⟨a',(oY hn2).2 (.inl ha'),h⟩
            · exact .inr ⟨a,(oY hn2).2 (.inr ea),h⟩
          · rintro (h | ⟨a',ha',h⟩)
            · exact .inl (.inl h)
            · rcases (oY hn2).1 ha' with g | g
              · exact .inl (.inr ⟨a',g,h⟩)
              · rw [← ea] at g; subst g; exact .inr h
      · constructor
        · rintro (⟨m',hm',h⟩ | h)
          · exact ⟨m',(oY hn).2 (.inl hm'),h⟩
          · exact ⟨m,(oY hn).2 (.inr em),h⟩
        · rintro ⟨m',hm',h⟩
          rcases (oY hn).1 hm' with g | g
          · exact .inl ⟨m',g,h⟩
          · rw [← em] at g; subst g; exact .inr h
    · -- it is the least of all
      have all : ∀ u,gL u → pT u ∈ P ∧ qT u ∈ Q ∧ (⟨pT u,qT u,nX r (pT u) (qT u)⟩ ∈ B → ∃ m ∈ B, ∃ a ∈ eY A m.p, ∃ b ∈ eY C m.q,u = mJ a b) := fun u hu => by
        obtain ⟨a,b,c,d,rfl,⟨u1,u2,u3⟩,u4,u5,u6⟩ := hu
        have ea := iA a b u1 u2 u3
        have ec := iC c d u4 u5 u6
        have pa : cU [a,b] = a * b := by simp [cU]
        have pc : cU [c,d] = c * d := by simp [cU]
        refine ⟨?_,?_,fun h => ⟨_,h,[a,b],mw.2 ⟨ea,pa⟩,[c,d],mw.2 ⟨ec,pc⟩,rfl⟩⟩
        · have := fP _ ea; rw [pa] at this; exact this
        · have := fQ _ ec; rw [pc] at this; exact this
      rcases ht with ⟨t1,t2⟩ | ⟨t1,t2,t3⟩
      · exfalso
        have c0 : gL [⟨60,7⟩,⟨60,7⟩] := ⟨60,60,7,7,rfl,by decide,by decide⟩
        obtain ⟨g1,g2,_⟩ := all _ c0
        have hne := (o3 _ _ ⟨g1,g2⟩).1
        match B,o1,t2,hne with
        | m :: B,o1,t2,_ =>
          obtain ⟨q1,q2,_⟩ := o1 m (List.mem_cons_self ..)
          obtain ⟨a,ha,pa⟩ := gP _ q1
          obtain ⟨b,hb,pb⟩ := gQ _ q2
          exact t2 _ ⟨m,List.mem_cons_self ..,a,mw.2 ⟨ha,pa⟩,b,mw.2 ⟨hb,pb⟩,rfl⟩
      · refine ⟨t1,fun u hu hl => ?_⟩
        obtain ⟨m,hm,a,ha,b,hb,et⟩ := t2
        obtain ⟨_,c1,c2,_⟩ := can a (mw.1 ha).1 b (mw.1 hb).1
        rw [← et] at c1 c2
        have c1 : pT t = m.p := c1.trans (mw.1 ha).2
        have c2 : qT t = m.q := c2.trans (mw.1 hb).2
        have ft : aCr r t = m.far := by unfold aCr; rw [c1,c2]; exact (o1 m hm).2.2.symm
        obtain ⟨g1,g2,g3⟩ := all u hu
        have fu : aCr r u = nX r (pT u) (qT u) := rfl
        unfold qY at hl
        rw [ft,c2,fu] at hl
        rcases (o3 _ _ ⟨g1,g2⟩).2 with e | e
        · have e2 := o2 m hm _ e
          dsimp only at e2
          rcases hl with hl | ⟨_,hl⟩
          · omega
          · exact t3 u (g3 e) hl
        · have e2 := e m hm
          rcases hl with hl | ⟨hl,_⟩ <;> omega
theorem aF8 {r : aA} (hr : aO9 r) : ∃ t,gL t ∧ kM r ⟨60,84,7,10,2⟩ = some t ∧ iB r ⟨60,84,7,10,2⟩ = some t := by
 obtain ⟨t,h1,h2,h3⟩ := aF9 hr
 obtain ⟨u,g1,g2,g3⟩ := aI9 hr
 have := aPd h2 g2 h3 g3
 subst this
 exact ⟨t,h2,h1,g1⟩
end Go.Proofs.YtgcdbbidmfdonaaGreat
namespace Go.Proofs.YtgcdbbidmfdonaaGreat
set_option linter.unusedVariables false
set_option maxRecDepth 100000
def uD (f : Nat → Bool) (st j : Nat) : Nat → Nat
 | 0 => 0
 | y + 1 => uD f st j y + if y % st = j ∧ f y = true then 1 else 0
theorem aBd (f : Nat → Bool) (st j : Nat) : ∀ y,uD f st j y ≤ y
 | 0 => Nat.le_refl _
 | y + 1 => by
  have := aBd f st j y
  unfold uD
  split <;> omega
theorem aAo {f : Nat → Bool} {st j y : Nat} (h : y % st = j) : ∀ i,i < st → uD f st j (y + 1 + i) = uD f st j (y + 1)
 | 0,_ => rfl
 | i + 1,hi => by
  have e : y + 1 + (i + 1) = (y + 1 + i) + 1 := by omega
  rw [e]
  conv => lhs; unfold uD
  have hne : ¬ ((y + 1 + i) % st = j ∧ f (y + 1 + i) = true) := by
   rintro ⟨q,_⟩
   have d := Nat.sub_mod_eq_zero_of_mod_eq (q.trans h.symm)
   have e2 : y + 1 + i - y = i + 1 := by omega
   rw [e2,Nat.mod_eq_of_lt hi] at d
   omega
  rw [if_neg hne,Nat.add_zero]
  exact aAo h i (by omega)
theorem uH {f : Nat → Bool} {st j : Nat} (hj : j < st) : ∀ y,y ≤ j → uD f st j y = 0
 | 0,_ => rfl
 | y + 1,hy => by
  unfold uD
  rw [uH hj y (by omega),if_neg]
  rintro ⟨q,_⟩
  rw [Nat.mod_eq_of_lt (by omega)] at q
  omega
theorem aJr (f : Nat → Bool) (st j : Nat) : ∀ y,uD (fun _ => true) st j y = uD f st j y + uD (fun n => !f n) st j y
 | 0 => rfl
 | y + 1 => by
  unfold uD
  rw [aJr f st j y]
  by_cases h : y % st = j
  ·cases hf : f y <;> simp [h,hf] <;> omega
  ·simp [h]
def aB1 (c : aI) (st Y j : Nat) (k : Int) : Int :=
 if uD (fun n => !jE c n) st j Y < uD (fun n => jE c n) st j Y ∨ (uD (fun n => jE c n) st j Y = uD (fun n => !jE c n) st j Y ∧ (uE c k).Leap < (uE c k).Days) then (uE c k).Leap else (uE c k).Days
theorem aP8 {c : aI} (hc : sB c = true) {st a Y : Nat} (ha : a < st) (s1 : st ≤ 260) (y1 : Y ≤ 1000000) {m : Int} (m0 : 0 ≤ m) (m1 : m < c.Months.length) : gD c a st Y m = some (aB1 c st Y a m) := by
 have hm := vM (c := c) m0 m1
 have key : Ok (gD c a st Y m) (fun r => r = aB1 c st Y a m) := by
  unfold gD
  refine aN (P := fun (r : Int × Int) => r.1 = uD (fun n => jE c n) st a Y ∧ r.2 = uD (fun _ => true) st a Y) ?_ fun v7 h7 => ?_
  ·refine cV (I := fun (s : Int × Int × Int) => ∃ n : Nat,s.2.2 = n ∧ n % st = a ∧ n ≤ 1000260 ∧ s.1 = uD (fun n => jE c n) st a n ∧ s.2.1 = uD (fun _ => true) st a n ∧ (n = a ∨ ∃ k,n = k + st ∧ k < Y ∧ k % st = a)) (m := fun s => (1000260 - s.2.2).toNat) ?_ _ ⟨a,rfl,Nat.mod_eq_of_lt ha,by omega,by rw [uH ha a (Nat.le_refl _)]; rfl,by rw [uH ha a (Nat.le_refl _)]; rfl, .inl rfl⟩ (by dsimp only; omega)
   rintro ⟨l,al,y⟩ ⟨n,hn,hmod,hn1,hl,hal,hk⟩
   dsimp only at hn hl hal ⊢
   subst hn hl hal
   refine bQ (fun hy => ?_) fun hy => aC (.inr ⟨_,rfl,?_⟩)
   ·have c1 := aBd (fun n => jE c n) st a n
    have c2 := aBd (fun _ => true) st a n
    have e1 : ∀ g : Nat → Bool,uD g st a (n + st) = uD g st a n + if g n = true then 1 else 0 := fun g => by
     have := aAo (f := g) hmod (st - 1) (by omega)
     rw [show n + 1 + (st - 1) = n + st by omega] at this
     rw [this]
     conv => lhs; unfold uD
     simp [hmod]
    rw [vA hc (by omega),Option.bind_some,aS (x := (uD (fun _ => true) st a n : Int) + 1) (by omega) (by omega),aS (x := (uD (fun n => jE c n) st a n : Int) + 1) (by omega) (by omega),aS (x := (n : Int) + st) (by omega) (by omega)]
    cases hL : jE c n with
    | true =>
     exact aC (.inl ⟨_,rfl,⟨n + st,by simp,by rw [Nat.add_mod_right]; exact hmod,by omega,by rw [e1]; simp [hL],by rw [e1]; simp, .inr ⟨n,rfl,by omega,hmod⟩⟩,by dsimp only; omega⟩)
    | false =>
     exact aC (.inl ⟨_,rfl,⟨n + st,by simp,by rw [Nat.add_mod_right]; exact hmod,by omega,by rw [e1]; simp [hL],by rw [e1]; simp, .inr ⟨n,rfl,by omega,hmod⟩⟩,by dsimp only; omega⟩)
   ·have e2 : ∀ g : Nat → Bool,uD g st a n = uD g st a Y := fun g => by
     rcases hk with rfl | ⟨k,rfl,k1,k2⟩
     ·rw [uH ha _ (Nat.le_refl _),uH ha Y (by omega)]
     ·have a1 := aAo (f := g) k2 (st - 1) (by omega)
      have a2 := aAo (f := g) k2 (Y - k - 1) (by omega)
      rw [show k + 1 + (st - 1) = k + st by omega] at a1
      rw [show k + 1 + (Y - k - 1) = Y by omega] at a2
      rw [a1,a2]
    exact ⟨by dsimp only; rw [e2],by dsimp only; rw [e2]⟩
  ·obtain ⟨h1,h2⟩ := h7
   have c1 := aBd (fun n => jE c n) st a Y
   have c2 := aJr (fun n => jE c n) st a Y
   have c3 := aBd (fun _ => true) st a Y
   rw [hm.1,Option.bind_some,h1,h2,aS (by omega) (by omega)]
   unfold aB1
   refine bQ (fun q => aC ?_) fun q => bQ (fun q2 => aC ?_) fun q2 => ?_
   ·rw [if_pos]; omega
   ·rw [if_neg]; omega
   ·unfold sR
    refine aN (P := fun r => r = min (uE c m).Leap (uE c m).Days) (bQ (fun _ => aC ?_) fun _ => aC ?_) fun v h => aC ?_
    ·omega
    ·omega
    ·rw [h]
     split <;> omega
 obtain ⟨x,e,rfl⟩ := key
 exact e
end Go.Proofs.YtgcdbbidmfdonaaGreat
namespace Go.Proofs.YtgcdbbidmfdonaaGreat
set_option linter.unusedVariables false
set_option maxRecDepth 100000
def aUh (c : aI) (n Y : Nat) : List Int := (List.range n).flatMap fun j => (List.range c.Months.length).flatMap fun (k : Nat) => [aB1 c n Y j (k : Int)]
theorem aKk {M : Nat} {g : Nat → Int} {xs : List Int} {step : Int × List Int → Option ((Int × List Int) ⊕ List Int)} (hS : ∀ (m : Nat) zs,m < M → zs.length ≤ xs.length + m → step ((m : Int),zs) = some (.inl ((m : Int) + 1,zs ++ [g m]))) (hE : ∀ zs,step ((M : Int),zs) = some (.inr zs)) (hM : M ≤ 1000000) : cK step (0,xs) = some (xs ++ (List.range M).flatMap fun k => [g k]) := by
 refine xA (xs := List.range M) (f := fun k => [g k]) (c := 1) (fun v _ => by simp) (fun i hi ys hy => ?_) (fun ys => by rw [List.length_range]; exact hE ys) (by rw [List.length_range]; omega)
 rw [List.length_range] at hi
 rw [List.getElem_range]
 exact hS i ys hi (by omega)
theorem aNy {M : Nat} {g : Nat → Int} : ((List.range M).flatMap fun k => [g k]).length = M := by
 have : ((List.range M).flatMap fun k => [g k]) = (List.range M).map g := by rw [List.map_eq_flatMap]
 rw [this]; simp
def aEg (f : Nat → Bool) (n y : Nat) : List Int := (List.range n).map fun j => (uD f n j y : Int)
theorem aEh {f : Nat → Bool} {n y j : Nat} (h : j < n) : atI (aEg f n y) (j : Int) = some (uD f n j y : Int) := by
 unfold aEg
 rw [dP (by simpa using h)]
 simp
theorem aJp {f : Nat → Bool} {n y : Nat} (hn : 0 < n) (hf : f y = true) : (aEg f n y).set (y % n) ((uD f n (y % n) y : Int) + 1) = aEg f n (y + 1) := by
 unfold aEg
 refine List.ext_getElem (by simp) fun i h1 h2 => ?_
 rw [List.getElem_set]
 simp only [List.getElem_map,List.getElem_range]
 conv => rhs; unfold uD
 by_cases h : y % n = i
 ·rw [if_pos h,if_pos ⟨h,hf⟩,h]; rfl
 ·rw [if_neg h,if_neg fun q => h q.1]; rfl
theorem aMf {f : Nat → Bool} {n y : Nat} (hf : f y = false) : aEg f n y = aEg f n (y + 1) := by
 unfold aEg
 refine List.map_congr_left fun j _ => ?_
 conv => rhs; unfold uD
 rw [if_neg (by rw [hf]; simp)]; rfl
theorem aGe (f : Nat → Bool) (n : Nat) : List.replicate n (0 : Int) = aEg f n 0 := by
 unfold aEg
 refine List.ext_getElem (by simp) fun i h1 h2 => ?_
 simp [uD]
theorem aEv {c : aI} {cam : List Int} (ha : aFx c cam = 0) {y : Int} (y0 : 0 ≤ y) : Ok (pG c cam y) (fun _ => True) := by
 obtain ⟨hc,hm,h,k1,k2⟩ := sY ha
 have hl := (xC hm).2
 obtain ⟨_,hq,_⟩ := fG hc
 have n1 := aE4 ha (y := y) (m := 1) (by omega) (by omega)
 have nM := aE4 ha (y := y) (m := c.Months.length) (by omega) (by omega)
 unfold aAh at n1 nM
 unfold pG
 rw [aBq hc y0,Option.bind_some,uN (by omega) (by omega),if_pos h,Option.bind_some,Int.tmod_eq_emod_of_nonneg y0]
 refine fF (by omega) ?_
 rw [aS (x := _ * _) (by omega) (by omega)]
 obtain ⟨o,ho⟩ : ∃ o : Nat,y % ((cam.length : Int) / c.Months.length) * c.Months.length = o := ⟨(y % ((cam.length : Int) / c.Months.length) * c.Months.length).toNat,by omega⟩
 rw [ho] at n1 nM ⊢
 refine fF (by omega) ?_
 rw [yK]
 refine aN (P := fun _ => True) ?_ fun v _ => aC trivial
 refine cV (I := fun (s : Int × List qQ) => (1 ≤ s.1 ∧ s.1 ≤ c.Months.length + 1) ∧ (s.2.length : Int) ≤ s.1) (m := fun s => (c.Months.length + 1 - s.1).toNat) ?_ _ ⟨⟨by dsimp only; omega,by dsimp only; omega⟩,by simp⟩ (by dsimp only; omega)
 rintro ⟨m,fs⟩ ⟨⟨m0,m1⟩,fl⟩
 dsimp only at m0 m1 fl ⊢
 refine bQ (fun hi => ?_) fun hi => aC (.inr ⟨_,rfl,trivial⟩)
 rw [aAe hc _ m0 hi,Option.bind_some,aS (x := m - 1) (by omega) (by omega)]
 refine aN (P := fun fs' => fs'.length ≤ fs.length + 1) ?_ fun v hv => aC (.inl ⟨_,rfl,?_⟩)
 ·refine aN (nZ (i := m - 1) (by omega) (by rw [List.length_drop]; omega)) fun v13 _ => bQ (fun _ => aN (nZ (i := m - 1) (by omega) (by rw [List.length_drop]; omega)) fun v14 _ => fF (by simp; omega) (aC (by simp))) fun _ => aC (by omega)
 ·dsimp only
  rw [aS (x := m + 1) (by omega) (by omega)]
  exact ⟨⟨⟨by omega,by omega⟩,by omega⟩,by omega⟩
theorem aBp {c : aI} {cam : List Int} (ha : aFx c cam = 0) : Ok (lF c cam) (fun _ => True) := by
 obtain ⟨hc,hm,h,k1,k2⟩ := sY ha
 have hl := (xC hm).2
 obtain ⟨_,hq,hr,_,_,hb,hcy⟩ := fG hc
 obtain ⟨e,c0,c1,_⟩ := aH4 hc
 have hg := nD (n := (cam.length : Int) / c.Months.length) (d := cyc c.Rules) (by omega)
 have hq := sO (a := (cam.length : Int) / c.Months.length) (g := (Int.gcd ((cam.length : Int) / c.Months.length) (cyc c.Rules) : Int)) (by omega) (by omega)
 unfold lF
 rw [uN (by omega) (by omega),if_pos h,Option.bind_some,qV (by omega) hb,Option.bind_some,aAs ⟨by omega,by omega⟩ (by omega) ⟨by omega,by omega⟩ (by omega),Option.bind_some]
 refine fF (by omega) ?_
 rw [Int.tdiv_eq_ediv_of_nonneg (by omega)]
 obtain ⟨q,hqe⟩ : ∃ q,q = (cam.length : Int) / c.Months.length / (Int.gcd ((cam.length : Int) / c.Months.length) (cyc c.Rules) : Int) := ⟨_,rfl⟩
 rw [← hqe] at hq ⊢
 have b1 : q * cyc c.Rules ≤ 260 * 2000 := Int.mul_le_mul (by omega) (by omega) (by omega) (by omega)
 have b0 : 0 ≤ q * cyc c.Rules := Int.mul_nonneg hq.1 (by omega)
 rw [aS (x := q) (by omega) (by omega),aS (x := q * _) (by omega) (by omega)]
 refine aN (P := fun _ => True) ?_ fun v _ => aC trivial
 refine cV (I := fun (s : Int × Int) => 0 ≤ s.2 ∧ s.2 ≤ 520000) (m := fun s => (520000 - s.2).toNat) ?_ _ ⟨by dsimp only; omega,by dsimp only; omega⟩ (by dsimp only; omega)
 rintro ⟨k,y⟩ ⟨i0,i1⟩
 dsimp only at i0 i1 ⊢
 refine bQ (fun hy => ?_) fun _ => aC (.inr ⟨_,rfl,trivial⟩)
 refine aN (aEv ha i0) fun v8 _ => aC (.inl ⟨_,rfl,?_⟩)
 dsimp only
 rw [aS (x := y + 1) (by omega) (by omega)]
 exact ⟨⟨by omega,by omega⟩,by omega⟩
theorem aQi {c : aI} (hc : sB c = true) {n Y : Nat} (n0 : 0 < n) (n1 : n ≤ 260) (y1 : Y ≤ 1000000) {X : Int} (hX : X = n) : cK (S := Int × List Int) (X := List Int) (fun s12 =>
 (if s12.1 < X then
 ((cK (S := Int × List Int) (X := List Int) (fun s16 =>
 (if s16.1 < (c.Months.length : Int) then
 ((gD c s12.1 X Y s16.1).bind fun v17 =>
 (chk ((s16.2.length + [v17].length) * 1 * 64 ≤ 140737488355328) (
 some (.inl (w64 (s16.1 + 1),s16.2 ++ [v17])))))
 else
 some (.inr s16.2))) (0,s12.2) : Option (List Int)).bind fun v19 =>
 some (.inl (w64 (s12.1 + 1),v19)))
 else
 some (.inr s12.2))) (0,([] : List Int)) = some (aUh c n Y) := by
 subst hX
 have hM := (fG hc).2.1
 have := xA (xs := List.range n) (init := ([] : List Int)) (f := fun j => (List.range c.Months.length).flatMap fun (k : Nat) => [aB1 c n Y j (k : Int)]) (c := 20) (step := (fun (s12 : Int × List Int) =>
 (if s12.1 < (n : Int) then
 ((cK (S := Int × List Int) (X := List Int) (fun s16 =>
 (if s16.1 < (c.Months.length : Int) then
 ((gD c s12.1 (n : Int) Y s16.1).bind fun v17 =>
 (chk ((s16.2.length + [v17].length) * 1 * 64 ≤ 140737488355328) (
 some (.inl (w64 (s16.1 + 1),s16.2 ++ [v17])))))
 else
 some (.inr s16.2))) (0,s12.2) : Option (List Int)).bind fun v19 =>
 some (.inl (w64 (s12.1 + 1),v19)))
 else
 some (.inr s12.2)))) (fun v _ => by rw [aNy (g := fun k => aB1 c n Y v (k : Int))]; omega) (fun i hi ys hy => by
  rw [List.length_range] at hi
  rw [List.getElem_range,if_pos (by omega),aKk (xs := ys) (g := fun (k : Nat) => aB1 c n Y i (k : Int)) (M := c.Months.length) (fun m zs hm hz => by
   simp only [List.length_nil] at hy
   rw [if_pos (by omega),aP8 hc hi n1 y1 (by omega) (by omega),Option.bind_some,iN (by simp; omega),aS (x := (m : Int) + 1) (by omega) (by omega)]) (fun zs => by simp) (by omega),Option.bind_some,aS (x := (i : Int) + 1) (by omega) (by omega)]) (fun ys => by simp) (by rw [List.length_range]; omega)
 rw [this]; rfl
theorem aPx {c : aI} (hc : sB c = true) {n Y : Nat} (n0 : 0 < n) (n1 : n ≤ 260) {a b : List Int} (ea : a = aEg (fun n => jE c n) n Y) (eb : b = aEg (fun n => !jE c n) n Y) : cK (S := Int × List Int) (X := List Int) (fun s47 =>
 (if s47.1 < (a.length : Int) then
 ((cK (S := Int × List Int) (X := List Int) (fun s57 =>
 (if s57.1 < (c.Months.length : Int) then
 ((atI c.Months s57.1).bind fun v58 =>
 ((((((atI a s47.1).bind fun v59 =>
 ((atI b s47.1).bind fun v60 =>
 (if v60 < v59 then
 some true
 else
 ((atI a s47.1).bind fun v61 =>
 ((atI b s47.1).bind fun v62 =>
 (if v61 = v62 then
 some (decide (v58.Leap < v58.Days))
 else
 some false)))))) : Option Bool).bind fun v63 =>
 (if v63 = true then
 some v58.Leap
 else
 some v58.Days)) : Option Int).bind fun v64 =>
 (chk ((s57.2.length + [v64].length) * 1 * 64 ≤ 140737488355328) (
 some (.inl (w64 (s57.1 + 1),s57.2 ++ [v64]))))))
 else
 some (.inr s57.2))) (0,s47.2) : Option (List Int)).bind fun v66 =>
 some (.inl (w64 (s47.1 + 1),v66)))
 else
 some (.inr s47.2))) (0,([] : List Int)) = some (aUh c n Y) := by
 have la : a.length = n := by rw [ea]; simp [aEg]
 have hM := (fG hc).2.1
 rw [la]
 have := xA (xs := List.range n) (init := ([] : List Int)) (f := fun j => (List.range c.Months.length).flatMap fun (k : Nat) => [aB1 c n Y j (k : Int)]) (c := 20) (step := (fun (s47 : Int × List Int) =>
 (if s47.1 < (n : Int) then
 ((cK (S := Int × List Int) (X := List Int) (fun s57 =>
 (if s57.1 < (c.Months.length : Int) then
 ((atI c.Months s57.1).bind fun v58 =>
 ((((((atI a s47.1).bind fun v59 =>
 ((atI b s47.1).bind fun v60 =>
 (if v60 < v59 then
 some true
 else
 ((atI a s47.1).bind fun v61 =>
 ((atI b s47.1).bind fun v62 =>
 (if v61 = v62 then
 some (decide (v58.Leap < v58.Days))
 else
 some false)))))) : Option Bool).bind fun v63 =>
 (if v63 = true then
 some v58.Leap
 else
 some v58.Days)) : Option Int).bind fun v64 =>
 (chk ((s57.2.length + [v64].length) * 1 * 64 ≤ 140737488355328) (
 some (.inl (w64 (s57.1 + 1),s57.2 ++ [v64]))))))
 else
 some (.inr s57.2))) (0,s47.2) : Option (List Int)).bind fun v66 =>
 some (.inl (w64 (s47.1 + 1),v66)))
 else
 some (.inr s47.2)))) (fun v _ => by rw [aNy (g := fun k => aB1 c n Y v (k : Int))]; omega) (fun i hi ys hy => by
  rw [List.length_range] at hi
  rw [List.getElem_range,if_pos (by omega),aKk (xs := ys) (g := fun (k : Nat) => aB1 c n Y i (k : Int)) (M := c.Months.length) (fun m zs hm hz => by
   simp only [List.length_nil] at hy
   have hmo := (vM (c := c) (k := (m : Int)) (by omega) (by omega)).1
   rw [if_pos (by omega),hmo,Option.bind_some,ea,eb,aEh hi,Option.bind_some,aEh hi,Option.bind_some]
   unfold aB1
   generalize uD (fun n => jE c n) n i Y = x
   generalize uD (fun n => !jE c n) n i Y = y
   have hb : (if (y : Int) < x then some true else (some (x : Int)).bind fun v61 => (some (y : Int)).bind fun v62 => if v61 = v62 then some (decide ((uE c m).Leap < (uE c m).Days)) else some false) = some (decide (y < x ∨ (x = y ∧ (uE c m).Leap < (uE c m).Days))) := by
    by_cases h1 : y < x
    ·rw [if_pos (by omega),decide_eq_true (.inl h1)]
    ·rw [if_neg (by omega),Option.bind_some,Option.bind_some]
     by_cases h2 : x = y
     ·rw [if_pos (by omega)]
      congr 1
      rw [Bool.eq_iff_iff,decide_eq_true_eq,decide_eq_true_eq]
      omega
     ·rw [if_neg (by omega)]
      congr 1
      exact (decide_eq_false (by omega)).symm
   rw [hb,Option.bind_some]
   by_cases h3 : y < x ∨ (x = y ∧ (uE c m).Leap < (uE c m).Days)
   ·rw [decide_eq_true h3,if_pos rfl,if_pos h3,Option.bind_some,iN (by simp; omega),aS (x := (m : Int) + 1) (by omega) (by omega)]
   ·rw [decide_eq_false h3,if_neg (by decide),if_neg h3,Option.bind_some,iN (by simp; omega),aS (x := (m : Int) + 1) (by omega) (by omega)]) (fun zs => by simp) (by omega),Option.bind_some,aS (x := (i : Int) + 1) (by omega) (by omega)]) (fun ys => by simp) (by rw [List.length_range]; omega)
 rw [this]; rfl
theorem aF6 {c : aI} (hc : sB c = true) (y : Int) : ∃ cam code n n',qS c y = some (cam,n,code) ∧ mF c y = some (cam,n',code) ∧ (code = 0 → aFx c cam = 0) ∧ (code = 0 ∨ code = 2) ∧ (y = 1 → code = 0) := by
  obtain ⟨_,hM,hr,_,_,hb,hcy⟩ := fG hc
  obtain ⟨e,c0,c1,_⟩ := aH4 hc
  have hbest := aDd hc y
  have hd : (y ≤ 260 / (c.Months.length : Int)) ↔ y * c.Months.length ≤ 260 := Int.le_ediv_iff_mul_le (by omega)
  have h26 : (260 : Int) / (c.Months.length : Int) ≤ 260 := Int.ediv_le_self _ (by decide)
  have h26' : 0 ≤ (260 : Int) / (c.Months.length : Int) := Int.ediv_nonneg (by decide) (by omega)
  unfold qS tL
  unfold mF pY at hbest ⊢
  rw [qO (by omega) (by omega),hc,Option.bind_some,eJ,Option.bind_some] at hbest ⊢
  rw [nF (by omega) (by omega),hc,Option.bind_some,iN (by omega),Int.tdiv_eq_ediv_of_nonneg (by decide),aS (x := 260 / _) (by omega) (by omega),fV,Option.bind_some,Option.bind_some]
  simp only [Bool.not_true,Bool.false_eq_true,if_false] at hbest ⊢
  by_cases hy : (1 ≤ y ∧ y ≤ 260) ∧ y * c.Months.length ≤ 260
  · obtain ⟨⟨y0,y1⟩,y2⟩ := hy
    have yn : 0 ≤ y * (c.Months.length : Int) := Int.mul_nonneg (by omega) (by omega)
    have b1 : btw y 1 (260 / (c.Months.length : Int)) = true := decide_eq_true ⟨y0,hd.2 y2⟩
    have b2 : btw y 1 260 = true := decide_eq_true ⟨y0,y1⟩
    have b3 : decide (w64 (y * (c.Months.length : Int)) ≤ 260) = true := by rw [aS (by omega) (by omega)]; exact decide_eq_true y2
    simp only [b2,b3,if_true,Option.bind_some,Bool.not_true,Bool.false_eq_true,if_false] at hbest
    simp only [b1,b2,b3,if_true,Option.bind_some,Bool.not_true,Bool.false_eq_true,if_false]
    rw [qV (by omega) hb,Option.bind_some,aAs ⟨by omega,by omega⟩ (by omega) ⟨by omega,by omega⟩ (by omega),Option.bind_some]
    have hg := nD (n := y) (d := cyc c.Rules) (by omega)
    obtain ⟨n,rfl⟩ : ∃ n : Nat,y = n := ⟨y.toNat,by omega⟩
    -- the years after which both end together
    obtain ⟨Y,hY1,hY2,hY3⟩ : ∃ Y : Nat,((n : Int) / (Int.gcd n (cyc c.Rules) : Int)) * cyc c.Rules = Y ∧ cyc c.Rules / (Int.gcd (cyc c.Rules) n : Int) * n = Y ∧ Y ≤ 520000 := by
      have q1 := sO (a := (n : Int)) (g := (Int.gcd n (cyc c.Rules) : Int)) (by omega) (by omega)
      have p0 : 0 ≤ ((n : Int) / (Int.gcd n (cyc c.Rules) : Int)) * cyc c.Rules := Int.mul_nonneg q1.1 (by omega)
      have p1 : ((n : Int) / (Int.gcd n (cyc c.Rules) : Int)) * cyc c.Rules ≤ 260 * 2000 := Int.mul_le_mul (by omega) (by omega) (by omega) (by omega)
      refine ⟨(((n : Int) / (Int.gcd n (cyc c.Rules) : Int)) * cyc c.Rules).toNat,by omega,?_,by omega⟩
      rw [Int.toNat_of_nonneg p0,Int.gcd_comm]
      obtain ⟨u,hu⟩ := Int.gcd_dvd_left (n : Int) (cyc c.Rules)
      obtain ⟨v,hv⟩ := Int.gcd_dvd_right (n : Int) (cyc c.Rules)
      generalize (Int.gcd (n : Int) (cyc c.Rules)) = g at *
      rw [hu,hv,Int.mul_ediv_cancel_left _ (by omega),Int.mul_ediv_cancel_left _ (by omega)]
      grind
    have q1 := sO (a := (n : Int)) (g := (Int.gcd n (cyc c.Rules) : Int)) (by omega) (by omega)
    have q2 := sO (a := cyc c.Rules) (g := (Int.gcd (cyc c.Rules) n : Int)) (by omega) (by have := nD (n := cyc c.Rules) (d := (n : Int)) (by omega); omega)
    have hcom : jJ c n = some (Y : Int) := by
      have hg2 := nD (n := cyc c.Rules) (d := (n : Int)) (by omega)
      unfold jJ
      rw [tY (by omega),if_pos ⟨hb,hcy⟩,Option.bind_some,tU (by dsimp only; omega) (by omega) (by omega),Option.bind_some]
      dsimp only
      rw [iN (by omega),Int.tdiv_eq_ediv_of_nonneg (by omega),aS (x := cyc c.Rules / _) (by omega) (by omega),hY2,aS (by omega) (by omega)]
    rw [hcom,Option.bind_some,aQi hc (by omega) (by omega) (by omega) rfl,Option.bind_some] at hbest ⊢
    have hz : 0 ≤ (n : Int) ∧ True ∧ (n : Int).toNat * 1 * 64 ≤ 281474976710656 := ⟨by omega,trivial,by rw [Int.toNat_natCast]; omega⟩
    rw [iN (show (Int.gcd (n : Int) (cyc c.Rules) : Int) ≠ 0 by omega),iN hz,iN hz,Int.tdiv_eq_ediv_of_nonneg (by omega),aS (x := (n : Int) / _) (by omega) (by omega),hY1,aS (x := (Y : Int)) (by omega) (by omega),Int.toNat_natCast]
    have loop : cK (S := Int × List Int × List Int) (X := List Int × List Int) (fun s17 =>
  (if s17.1 < (Y : Int) then
  ((((mO c s17.1).bind fun v18 =>
  (if v18 = true then
  (chk ((n : Int) ≠ 0) (
  ((atI s17.2.1 (s17.1.tmod (n : Int))).bind fun v20 =>
  ((atI s17.2.1 (s17.1.tmod (n : Int))).bind fun v21 =>
  some (List.set s17.2.1 (s17.1.tmod (n : Int)).toNat (w64 (v20 + 1)),s17.2.2)))))
  else
  (chk ((n : Int) ≠ 0) (
  ((atI s17.2.2 (s17.1.tmod (n : Int))).bind fun v23 =>
  ((atI s17.2.2 (s17.1.tmod (n : Int))).bind fun v24 =>
  some (s17.2.1,List.set s17.2.2 (s17.1.tmod (n : Int)).toNat (w64 (v23 + 1))))))))) : Option (List Int × List Int)).bind fun v25 =>
  some (.inl (w64 (s17.1 + 1),v25.1,v25.2)))
  else
  some (.inr (s17.2.1,s17.2.2)))) (0,List.replicate n 0,List.replicate n 0) = some (aEg (fun n => jE c n) n Y,aEg (fun n => !jE c n) n Y) := by
      have key : Ok (cK (S := Int × List Int × List Int) (X := List Int × List Int) (fun s17 =>
  (if s17.1 < (Y : Int) then
  ((((mO c s17.1).bind fun v18 =>
  (if v18 = true then
  (chk ((n : Int) ≠ 0) (
  ((atI s17.2.1 (s17.1.tmod (n : Int))).bind fun v20 =>
  ((atI s17.2.1 (s17.1.tmod (n : Int))).bind fun v21 =>
  some (List.set s17.2.1 (s17.1.tmod (n : Int)).toNat (w64 (v20 + 1)),s17.2.2)))))
  else
  (chk ((n : Int) ≠ 0) (
  ((atI s17.2.2 (s17.1.tmod (n : Int))).bind fun v23 =>
  ((atI s17.2.2 (s17.1.tmod (n : Int))).bind fun v24 =>
  some (s17.2.1,List.set s17.2.2 (s17.1.tmod (n : Int)).toNat (w64 (v23 + 1))))))))) : Option (List Int × List Int)).bind fun v25 =>
  some (.inl (w64 (s17.1 + 1),v25.1,v25.2)))
  else
  some (.inr (s17.2.1,s17.2.2)))) (0,List.replicate n 0,List.replicate n 0)) (fun r => r = (aEg (fun n => jE c n) n Y,aEg (fun n => !jE c n) n Y)) := by
        refine cV (I := fun (s : Int × List Int × List Int) => ∃ k : Nat,s.1 = k ∧ k ≤ Y ∧ s.2.1 = aEg (fun n => jE c n) n k ∧ s.2.2 = aEg (fun n => !jE c n) n k) (m := fun s => (Y - s.1).toNat) ?_ _ ⟨0,rfl,by omega,aGe _ _,aGe _ _⟩ (by dsimp only; omega)
        rintro ⟨i,a,b⟩ ⟨k,hk,hkY,ha,hb'⟩
        dsimp only at hk ha hb' ⊢
        subst hk ha hb'
        refine bQ (fun hlt => ?_) fun hge => aC (.inr ⟨_,rfl,by rw [show k = Y by omega]⟩)
        have hmod : (k : Int).tmod (n : Int) = ((k % n : Nat) : Int) := by rw [Int.tmod_eq_emod_of_nonneg (by omega)]; rfl
        have hlt2 : k % n < n := Nat.mod_lt _ (by omega)
        rw [aBq hc (by omega),Option.bind_some,hmod,iN (by omega),iN (by omega),aEh hlt2,aEh hlt2,Int.toNat_natCast,aS (x := (k : Int) + 1) (by omega) (by omega)]
        simp only [Option.bind_some]
        have l1 := aBd (fun n => jE c n) n (k % n) k
        have l2 := aBd (fun n => !jE c n) n (k % n) k
        rw [aS (x := (uD (fun n => jE c n) n (k % n) k : Int) + 1) (by omega) (by omega),aS (x := (uD (fun n => !jE c n) n (k % n) k : Int) + 1) (by omega) (by omega)]
        cases hL : jE c k with
        | true =>
          exact aC (.inl ⟨_,rfl,⟨k + 1,by simp,by omega,aJp (f := fun n => jE c n) (by omega) hL,aMf (f := fun n => !jE c n) (by simp [hL])⟩,by dsimp only; omega⟩)
        | false =>
          exact aC (.inl ⟨_,rfl,⟨k + 1,by simp,by omega,aMf (f := fun n => jE c n) hL,aJp (f := fun n => !jE c n) (by omega) (by simp [hL])⟩,by dsimp only; omega⟩)
      obtain ⟨r,h,rfl⟩ := key
      exact h
    rw [loop,Option.bind_some]
    dsimp only
    rw [aPx hc (by omega) (by omega) rfl rfl,Option.bind_some]
    obtain ⟨r,hr1,hr2⟩ := hbest
    cases hcnt : mZ c (aUh c n Y) Y with
    | none => rw [hcnt] at hr1; cases hr1
    | some w =>
      rw [hcnt,Option.bind_some] at hr1
      injection hr1 with hr1
      subst hr1
      have ha := hr2 rfl
      obtain ⟨w',hw',_⟩ := aBp ha
      rw [hw',Option.bind_some,Option.bind_some]
      exact ⟨aUh c n Y,0,w',w,rfl,rfl,fun _ => ha, .inl rfl,fun _ => rfl⟩
  · have b1 : btw y 1 (260 / (c.Months.length : Int)) = false := decide_eq_false fun q => hy ⟨⟨q.1,by omega⟩,hd.1 q.2⟩
    have s1 : (if btw y 1 260 = true then some (decide (w64 (y * (c.Months.length : Int)) ≤ 260)) else some false) = some false := by
      by_cases h1 : btw y 1 260 = true
      · have q := of_decide_eq_true h1
        have m1 : y * (c.Months.length : Int) ≤ 260 * 20 := Int.mul_le_mul q.2 (by omega) (by omega) (by omega)
        have m0 : 0 ≤ y * (c.Months.length : Int) := Int.mul_nonneg (by omega) (by omega)
        rw [if_pos h1,aS (by omega) (by omega),decide_eq_false fun z => hy ⟨q,z⟩]
      · rw [if_neg h1]
    rw [s1,b1]
    refine ⟨[],2,0,0,rfl,rfl,fun h => (by cases h), .inr rfl,fun h => ?_⟩
    exfalso
    subst h
    exact hy ⟨by decide,by omega⟩
end Go.Proofs.YtgcdbbidmfdonaaGreat
namespace Go.Proofs.YtgcdbbidmfdonaaGreat
set_option linter.unusedVariables false
set_option maxRecDepth 100000
def aNd : ByteArray := ⟨#[99,101,110,116,101,114]⟩
def aQ4 : ByteArray := ⟨#[116,104,105,114,100]⟩
def aNe : ByteArray := ⟨#[101,115,99,97,112,101]⟩
def aNf : ByteArray := ⟨#[109,105,110,117,116,101]⟩
def aTm : ByteArray := ⟨#[104,111,117,114]⟩
def wkT (a b c d : Int) : bJ := ⟨[⟨aNd,[a,12]⟩,⟨aQ4,[b,c]⟩,⟨aNe,[d]⟩,⟨aNf,[36,10]⟩,⟨aTm,[40]⟩],[⟨0,0,1,0⟩,⟨1,1,2,0⟩,⟨0,1,3,0⟩,⟨3,1,4,0⟩]⟩
def v1T (a b : Int) : aA := (eS ⟨1,1⟩ a b).1
def v2T (a b c d : Int) : aA := (eS (v1T a b) c d).1
def tth (t : Int) : Prop := 6 ≤ t ∧ t ≤ 240
theorem aUa {a b c d : Int} (ha : tth a) (hb : tth b) (hc : tth c) (hd : tth d) : aCl (wkT a b c d) = true := by
 have n1 : kH aNd = true := by decide
 have n2 : kH aQ4 = true := by decide
 have n3 : kH aNe = true := by decide
 have n4 : kH aNf = true := by decide
 have n5 : kH aTm = true := by decide
 have t : ∀ x,tth x → gU x = true := fun x h => decide_eq_true h
 have ta := t a ha
 have tb := t b hb
 have tc := t c hc
 have td := t d hd
 have q1 : gU 12 = true := by decide
 have q2 : gU 36 = true := by decide
 have q3 : gU 10 = true := by decide
 have q4 : gU 40 = true := by decide
 refine qJ.2 ⟨by simp [wkT],by simp [wkT],fun i hi => ?_,fun i hi => ?_⟩
 ·have : i = 0 ∨ i = 1 ∨ i = 2 ∨ i = 3 ∨ i = 4 := by simp [wkT] at hi; omega
  rcases this with rfl | rfl | rfl | rfl | rfl
  ·exact ⟨by simp [aDc,wkT,n1,ta,q1],rfl⟩
  ·exact ⟨by simp [aDc,wkT,n2,tb,tc],rfl⟩
  ·exact ⟨by simp [aDc,wkT,n3,td],rfl⟩
  ·exact ⟨by simp [aDc,wkT,n4,q2,q3],rfl⟩
  ·exact ⟨by simp [aDc,wkT,n5,q4],rfl⟩
 ·have : i = 0 ∨ i = 1 ∨ i = 2 ∨ i = 3 := by simp [wkT] at hi; omega
  rcases this with rfl | rfl | rfl | rfl
  ·exact ⟨nI.2 ⟨by simp [wkT],rfl,rfl⟩,rfl⟩
  ·exact ⟨nI.2 ⟨by simp [wkT],rfl,rfl⟩,rfl⟩
  ·exact ⟨nI.2 ⟨by simp [wkT],rfl,rfl⟩,rfl⟩
  ·exact ⟨nI.2 ⟨by simp [wkT],rfl,rfl⟩,rfl⟩
theorem aHp {a b c d : Int} (ha : tth a) (hb : tth b) (hc : tth c) (hd : tth d) (h1 : (eS ⟨1,1⟩ a b).2 = true) (h2 : (eS (v1T a b) c d).2 = true) : fW (wkT a b c d) 0 = ([⟨1,1⟩,v1T a b,v2T a b c d,⟨-1,3⟩,⟨1,12⟩],0) := by
 have k0 : KnR ⟨1,1⟩ := ⟨by decide,by decide⟩
 have k1 : KnR (v1T a b) := gZ k0 ha.1 ha.2 hb.1 hb.2 h1
 have k2 : KnR (v2T a b c d) := gZ k1 hc.1 hc.2 hd.1 hd.2 h2
 have d1 := k1.den
 have d2 := k2.den
 have e3 : eS ⟨1,1⟩ 12 36 = (⟨-1,3⟩,true) := by decide
 have e4 : eS ⟨-1,3⟩ 10 40 = (⟨1,12⟩,true) := by decide
 have f1 : eS ⟨1,1⟩ a b = (v1T a b,true) := Prod.ext rfl h1
 have f2 : eS (v1T a b) c d = (v2T a b c d,true) := Prod.ext rfl h2
 have hO : ((0 : Int) = 0) = True := by simp
 have p1 : jZ (wkT a b c d) ⟨0,0,1,0⟩ = ⟨a,b⟩ := rfl
 have p2 : jZ (wkT a b c d) ⟨1,1,2,0⟩ = ⟨c,d⟩ := rfl
 have p3 : jZ (wkT a b c d) ⟨0,1,3,0⟩ = ⟨12,36⟩ := rfl
 have p4 : jZ (wkT a b c d) ⟨3,1,4,0⟩ = ⟨10,40⟩ := rfl
 generalize hw : wkT a b c d = w at *
 generalize v1T a b = v1 at *
 generalize v2T a b c d = v2 at *
 have s1 : pL w ⟨0,0,1,0⟩ (false,[⟨1,1⟩,⟨0,0⟩,⟨0,0⟩,⟨0,0⟩,⟨0,0⟩]) = .inl (true,[⟨1,1⟩,v1,⟨0,0⟩,⟨0,0⟩,⟨0,0⟩]) := by simp [pL,qL,p1,f1]
 have s2 : pL w ⟨1,1,2,0⟩ (true,[⟨1,1⟩,v1,⟨0,0⟩,⟨0,0⟩,⟨0,0⟩]) = .inl (true,[⟨1,1⟩,v1,v2,⟨0,0⟩,⟨0,0⟩]) := by simp [pL,qL,p2,f2,d1]
 have s3 : pL w ⟨0,1,3,0⟩ (true,[⟨1,1⟩,v1,v2,⟨0,0⟩,⟨0,0⟩]) = .inl (true,[⟨1,1⟩,v1,v2,⟨-1,3⟩,⟨0,0⟩]) := by simp [pL,qL,p3,e3]
 have s4 : pL w ⟨3,1,4,0⟩ (true,[⟨1,1⟩,v1,v2,⟨-1,3⟩,⟨0,0⟩]) = .inl (true,[⟨1,1⟩,v1,v2,⟨-1,3⟩,⟨1,12⟩]) := by simp [pL,qL,p4,e4]
 have u1 : pL w ⟨0,0,1,0⟩ (false,[⟨1,1⟩,v1,v2,⟨-1,3⟩,⟨1,12⟩]) = .inl (false,[⟨1,1⟩,v1,v2,⟨-1,3⟩,⟨1,12⟩]) := by simp [pL,qL,d1]
 have u2 : pL w ⟨1,1,2,0⟩ (false,[⟨1,1⟩,v1,v2,⟨-1,3⟩,⟨1,12⟩]) = .inl (false,[⟨1,1⟩,v1,v2,⟨-1,3⟩,⟨1,12⟩]) := by simp [pL,qL,d1,d2]
 have u3 : pL w ⟨0,1,3,0⟩ (false,[⟨1,1⟩,v1,v2,⟨-1,3⟩,⟨1,12⟩]) = .inl (false,[⟨1,1⟩,v1,v2,⟨-1,3⟩,⟨1,12⟩]) := by simp [pL,qL]
 have u4 : pL w ⟨3,1,4,0⟩ (false,[⟨1,1⟩,v1,v2,⟨-1,3⟩,⟨1,12⟩]) = .inl (false,[⟨1,1⟩,v1,v2,⟨-1,3⟩,⟨1,12⟩]) := by simp [pL,qL]
 have wm : w.Meshes = [⟨0,0,1,0⟩,⟨1,1,2,0⟩,⟨0,1,3,0⟩,⟨3,1,4,0⟩] := by rw [← hw]; rfl
 have r1 : nO w w.Meshes (false,[⟨1,1⟩,⟨0,0⟩,⟨0,0⟩,⟨0,0⟩,⟨0,0⟩]) = .inl (true,[⟨1,1⟩,v1,v2,⟨-1,3⟩,⟨1,12⟩]) := by
  rw [wm]; simp only [nO,s1,s2,s3,s4]
 have r2 : nO w w.Meshes (false,[⟨1,1⟩,v1,v2,⟨-1,3⟩,⟨1,12⟩]) = .inl (false,[⟨1,1⟩,v1,v2,⟨-1,3⟩,⟨1,12⟩]) := by
  rw [wm]; simp only [nO,u1,u2,u3,u4]
 have hs : start w 0 = [⟨1,1⟩,⟨0,0⟩,⟨0,0⟩,⟨0,0⟩,⟨0,0⟩] := by rw [← hw]; rfl
 have hn : uC (start w 0) = 4 := by rw [hs]; rfl
 have hi : sJ w 0 = true := by rw [← hw]; rfl
 have hp : iV w (uC (start w 0) + 1) (start w 0) = .inl [⟨1,1⟩,v1,v2,⟨-1,3⟩,⟨1,12⟩] := by
  rw [hn,hs]
  show (match nO w w.Meshes (false,[⟨1,1⟩,⟨0,0⟩,⟨0,0⟩,⟨0,0⟩,⟨0,0⟩]) with
   | .inr u => .inr u
   | .inl (true,sp') => iV w 4 sp'
   | .inl (false,sp') => .inl sp' : List aA ⊕ Unit) = _
  rw [r1]
  show (match nO w w.Meshes (false,[⟨1,1⟩,v1,v2,⟨-1,3⟩,⟨1,12⟩]) with
   | .inr u => .inr u
   | .inl (true,sp') => iV w 3 sp'
   | .inl (false,sp') => .inl sp' : List aA ⊕ Unit) = _
  rw [r2]
 unfold fW
 rw [if_pos hi,hp]
 have hz : ([⟨1,1⟩,v1,v2,⟨-1,3⟩,⟨1,12⟩] : List aA).any (fun r => decide (r.Den = 0)) = false := by simp [d1,d2]
 have hf : w.Meshes.all (aS0 w [⟨1,1⟩,v1,v2,⟨-1,3⟩,⟨1,12⟩]) = true := by
  rw [wm]; simp [aS0,qL,p1,p2,p3,p4,f1,f2,e3,e4]
 dsimp only
 rw [hz,if_neg (by decide),if_pos hf]
theorem sM {n d : Int} (hd : 0 < d) (h : (mkR n d).2 = true) : (mkR n d).1.Num * d = n * (mkR n d).1.Den := by
 unfold mkR at h ⊢
 split at h
 ·cases h
 ·rename_i hc
  rw [if_neg hc]
  have hg : 0 < Int.gcd n d := nD (by omega)
  obtain ⟨x,hx⟩ := Int.gcd_dvd_left n d
  obtain ⟨y,hy⟩ := Int.gcd_dvd_right n d
  generalize (Int.gcd n d) = g at *
  have hg' : (g : Int) ≠ 0 := by omega
  have ed : dD d = (g : Int) * y := by unfold dD; omega
  dsimp only
  rw [ed,Int.mul_ediv_cancel_left _ hg',decide_eq_false (show ¬ d < 0 by omega)]
  by_cases hn : n < 0
  ·have en : dD n = (g : Int) * (-x) := by rw [Int.mul_neg]; unfold dD; omega
   rw [decide_eq_true hn,en,Int.mul_ediv_cancel_left _ hg']
   simp only [bne_iff_ne,ne_eq,Bool.true_eq_false,not_false_eq_true,if_true,Int.neg_neg]
   rw [hy,hx,Int.mul_comm (g : Int) x,Int.mul_comm (g : Int) y,Int.mul_assoc,Int.mul_comm (g : Int) y]
  ·have en : dD n = (g : Int) * x := by unfold dD; omega
   rw [decide_eq_false hn,en,Int.mul_ediv_cancel_left _ hg']
   simp only [bne_self_eq_false,Bool.false_eq_true,if_false]
   grind
def mvT (nm : ByteArray) (a b c d teeth beats : Int) (cal : aI) (cam : List Int) (st : Int) : aV := ⟨nm,wkT a b c d,0,4,2,teeth,beats,cal,cam,st⟩
theorem aJ7 {nm : ByteArray} {a b c d teeth beats : Int} {cal : aI} {cam : List Int} {st : Int} (hn : kH nm = true) (ha : tth a) (hb : tth b) (hc : tth c) (hd : tth d) (ht : tth teeth) (h0 : 1 ≤ beats ∧ beats ≤ 36000) (hk : aFx cal cam = 0) (hs : 0 ≤ st ∧ st ≤ 2) : wT (mvT nm a b c d teeth beats cal cam st) = true := by
 obtain ⟨k1,k2,k3,_⟩ := sY hk
 have e1 : gU teeth = true := decide_eq_true ht
 have e2 : btw beats 1 36000 = true := decide_eq_true h0
 have e3 : btw st 0 2 = true := decide_eq_true hs
 have e4 := aUa ha hb hc hd
 unfold wT mvT
 simp only [hn,e1,e2,e3,e4,k1,k2,Bool.and_true,Bool.true_and]
 rfl
theorem aBg {nm : ByteArray} {a b c d teeth beats : Int} {cal : aI} {cam : List Int} {st : Int} (ha : tth a) (hb : tth b) (hc : tth c) (hd : tth d) (ht : tth teeth) (h0 : 1 ≤ beats ∧ beats ≤ 36000) (hk : aFx cal cam = 0) (h1 : (eS ⟨1,1⟩ a b).2 = true) (h2 : (eS (v1T a b) c d).2 = true) (he : 2 * teeth * dD (v2T a b c d).Num = beats * (v2T a b c d).Den) : tC (mvT nm a b c d teeth beats cal cam st) = [] := by
 obtain ⟨k1,k2,k3,_⟩ := sY hk
 have k0 : KnR ⟨1,1⟩ := ⟨by decide,by decide⟩
 have kv1 : KnR (v1T a b) := gZ k0 ha.1 ha.2 hb.1 hb.2 h1
 have kv2 : KnR (v2T a b c d) := gZ kv1 hc.1 hc.2 hd.1 hd.2 h2
 obtain ⟨g0,g1,g2,g3⟩ := gS kv2.1
 have hsp := aHp ha hb hc hd h1 h2
 obtain ⟨t0,t1⟩ := ht
 obtain ⟨b0,b1⟩ := h0
 have hab : 0 ≤ dD (v2T a b c d).Num ∧ dD (v2T a b c d).Num ≤ 1000000000 := by unfold dD; omega
 have q1 : 0 ≤ beats * (v2T a b c d).Den := Int.mul_nonneg (by omega) (by omega)
 have q2 : beats * (v2T a b c d).Den ≤ 36000 * 1000000000 := Int.mul_le_mul b1 g1 (by omega) (by omega)
 unfold tC mvT
 dsimp only
 rw [hsp]
 dsimp only
 rw [if_pos rfl,if_pos k3]
 have hbe : aJk ⟨nm,wkT a b c d,0,4,2,teeth,beats,cal,cam,st⟩ (v2T a b c d) = true := by
  unfold aJk
  dsimp only
  rw [aS (x := 2 * teeth) (by omega) (by omega),he]
  exact decide_eq_true rfl
 have e1 : qL [⟨1,1⟩,v1T a b,v2T a b c d,⟨-1,3⟩,⟨1,12⟩] 4 = ⟨1,12⟩ := rfl
 have e2 : qL [⟨1,1⟩,v1T a b,v2T a b c d,⟨-1,3⟩,⟨1,12⟩] 2 = v2T a b c d := rfl
 rw [e1,e2,if_pos rfl,if_pos hbe]
 rfl
end Go.Proofs.YtgcdbbidmfdonaaGreat
namespace Go.Proofs.YtgcdbbidmfdonaaGreat
set_option linter.unusedVariables false
set_option maxRecDepth 100000
theorem aDs {n d : Int} (hd : d ≠ 0) : dD (mkR n d).1.Num ≤ dD n ∧ dD (mkR n d).1.Den ≤ dD d := by
 have hg := nD (n := n) hd
 have h1 := sO (a := dD n) (g := (Int.gcd n d : Int)) (pZ n) (by omega)
 have h2 := sO (a := dD d) (g := (Int.gcd n d : Int)) (pZ d) (by omega)
 have z : dD 0 = 0 := rfl
 unfold mkR
 generalize dD n / (Int.gcd n d : Int) = x at *
 generalize dD d / (Int.gcd n d : Int) = y at *
 have hx : dD x = x := by unfold dD; omega
 have hy : dD y = y := by unfold dD; omega
 have hxn : dD (-x) = x := by unfold dD; omega
 split
 ·dsimp only; rw [z]; omega
 ·dsimp only
  refine ⟨?_,by omega⟩
  split
  ·omega
  ·omega
theorem aBz {n d k : Int} (hd : 0 < d) (h : n = k * d) (k0 : -1000000000 ≤ k) (k1 : k ≤ 1000000000) : mkR n d = (⟨k,1⟩,true) := by
 subst h
 have hg : Int.gcd (k * d) d = d.natAbs := by rw [Int.gcd_comm]; unfold Int.gcd; rw [Int.natAbs_mul]; exact Nat.gcd_eq_left (Nat.dvd_mul_left ..)
 have hd' : (d.natAbs : Int) = d := by omega
 have e1 : dD d / ((d.natAbs : Nat) : Int) = 1 := by
  have : dD d = (d.natAbs : Int) := rfl
  rw [this]; exact Int.ediv_self (by omega)
 have e2 : dD (k * d) / ((d.natAbs : Nat) : Int) = dD k := by
  have : dD (k * d) = dD k * (d.natAbs : Int) := by unfold dD; rw [Int.natAbs_mul]; exact Int.natCast_mul ..
  rw [this]; exact Int.mul_ediv_cancel _ (by omega)
 have hk : dD k ≤ 1000000000 := by unfold dD; omega
 unfold mkR
 rw [hg,e1,e2,if_neg (by omega),decide_eq_false (show ¬ d < 0 by omega)]
 have hs : k * d < 0 ↔ k < 0 := by
  constructor
  ·intro h
   rcases Int.lt_or_le k 0 with q | q
   ·exact q
   ·have := Int.mul_nonneg q (show 0 ≤ d by omega); omega
  ·intro h; exact Int.mul_neg_of_neg_of_pos h hd
 by_cases hk0 : k < 0
 ·rw [decide_eq_true (hs.2 hk0)]
  simp only [bne_iff_ne,ne_eq,Bool.true_eq_false,not_false_eq_true,if_true]
  congr 2
  unfold dD; omega
 ·rw [decide_eq_false (fun h => hk0 (hs.1 h))]
  simp only [bne_self_eq_false,Bool.false_eq_true,if_false]
  congr 2
  unfold dD; omega
theorem aMq {x : aA} (h : qG x = true) {B : Int} (hB : x.Den ≤ B) (hB1 : B ≤ 1000000000) : ∃ y : aA,aMp x = (y,true) ∧ qG y = true ∧ (0 ≤ y.Num ∧ y.Num ≤ B) ∧ (1 ≤ y.Den ∧ y.Den ≤ B) ∧ y.Num * x.Den = (x.Num - x.Num / x.Den * x.Den) * y.Den := by
 obtain ⟨d0,d1,n0,n1⟩ := gS h
 have hm : x.Num - x.Num / x.Den * x.Den = x.Num % x.Den := by rw [Int.mul_comm]; exact (Int.emod_def x.Num x.Den).symm
 have m0 := Int.emod_nonneg x.Num (show x.Den ≠ 0 by omega)
 have m1 := Int.emod_lt_of_pos x.Num (show 0 < x.Den by omega)
 have hs := lI (n := x.Num % x.Den) (d := x.Den) (by omega) (by omega) (by omega) (by omega) (by omega)
 have hv := qB (show x.Den ≠ 0 by omega) hs
 have hc := sM (show 0 < x.Den by omega) hs
 have hl := aDs (n := x.Num % x.Den) (show x.Den ≠ 0 by omega)
 obtain ⟨y0,y1,y2,y3⟩ := gS hv.1
 have hn : 0 ≤ (mkR (x.Num % x.Den) x.Den).1.Num := by
  rcases Int.lt_or_le (mkR (x.Num % x.Den) x.Den).1.Num 0 with q | q
  ·have a1 := Int.mul_neg_of_neg_of_pos q (show 0 < x.Den by omega)
   have a2 := Int.mul_nonneg m0 (show 0 ≤ (mkR (x.Num % x.Den) x.Den).1.Den by omega)
   omega
  ·exact q
 refine ⟨(mkR (x.Num % x.Den) x.Den).1,?_,hv.1,⟨hn,?_⟩,⟨y0,?_⟩,?_⟩
 ·unfold aMp; rw [hm]; exact Prod.ext rfl hs
 ·have := hl.1; unfold dD at this; omega
 ·have := hl.2; unfold dD at this; omega
 ·rw [hm]; exact hc
def aWh (a b : aA) : aA × Bool := mkR (a.Num * b.Den + -b.Num * a.Den) (a.Den * b.Den)
theorem aPw {s : Int} (s0 : 0 ≤ s) (s1 : s ≤ 300000) : ∃ mn hr tw : aA,atR ⟨1,1⟩ s = (mn,true) ∧ atR ⟨1,12⟩ s = (hr,true) ∧ qG mn = true ∧ qG hr = true ∧ aFy hr ⟨12,1⟩ = (tw,true) ∧ qG tw = true ∧ ∃ k : Int,aWh tw mn = (⟨k,1⟩,true) := by
 have ts := lI (n := s) (d := 3600) (by omega) (by omega) (by omega) (by omega) (by omega)
 have tv := (qB (show (3600 : Int) ≠ 0 by omega) ts).1
 have tc := sM (show (0 : Int) < 3600 by omega) ts
 have tl := aDs (n := s) (show (3600 : Int) ≠ 0 by omega)
 obtain ⟨t,ht⟩ : ∃ t : aA,(mkR s 3600).1 = t := ⟨_,rfl⟩
 unfold atR
 rw [ht] at tv tc tl ⊢
 obtain ⟨D0,D1,N0,N1⟩ := gS tv
 have e36 : dD 3600 = 3600 := rfl
 have es : dD s = s := by unfold dD; omega
 rw [e36,es] at tl
 have tD : t.Den ≤ 3600 := by have := tl.2; unfold dD at this; omega
 have tN : 0 ≤ t.Num := by
  rcases Int.lt_or_le t.Num 0 with q | q
  ·have a2 := Int.mul_nonneg s0 (show 0 ≤ t.Den by omega)
   omega
  ·exact q
 have tN1 : t.Num ≤ 300000 := by have := tl.1; unfold dD at this; omega
 -- the minute hand
 have m1 : aFy ⟨1,1⟩ t = (t,true) := by
  unfold aFy
  dsimp only
  rw [Int.one_mul,Int.one_mul]
  exact aJ6 tv
 obtain ⟨mn,f1,f2,f3,f4,f5⟩ := aMq tv tD (by omega)
 -- the hour hand
 have hs := lI (n := t.Num) (d := 12 * t.Den) (by omega) (by omega) (by omega) (by omega) (by omega)
 have hv := (qB (show 12 * t.Den ≠ 0 by omega) hs).1
 have hc := sM (show 0 < 12 * t.Den by omega) hs
 have hl := aDs (n := t.Num) (show 12 * t.Den ≠ 0 by omega)
 have m2 : aFy ⟨1,12⟩ t = ((mkR t.Num (12 * t.Den)).1,true) := by
  unfold aFy
  dsimp only
  rw [Int.one_mul]
  exact Prod.ext rfl hs
 obtain ⟨x,hx⟩ : ∃ x : aA,(mkR t.Num (12 * t.Den)).1 = x := ⟨_,rfl⟩
 rw [hx] at hv hc hl m2
 obtain ⟨x0,x1,x2,x3⟩ := gS hv
 have xD : x.Den ≤ 43200 := by have := hl.2; unfold dD at this; omega
 have xN : 0 ≤ x.Num := by
  rcases Int.lt_or_le x.Num 0 with q | q
  ·have a1 := Int.mul_neg_of_neg_of_pos q (show 0 < 12 * t.Den by omega)
   have a2 := Int.mul_nonneg tN (show 0 ≤ x.Den by omega)
   omega
  ·exact q
 have xN1 : x.Num ≤ 300000 := by have := hl.1; unfold dD at this; omega
 obtain ⟨hr,g1,g2,g3,g4,g5⟩ := aMq hv xD (by omega)
 -- twelve times the hour hand
 have ws := lI (n := hr.Num * 12) (d := hr.Den * 1) (by omega) (by omega) (by omega) (by omega) (by omega)
 have wv := (qB (show hr.Den * 1 ≠ 0 by omega) ws).1
 have wc := sM (show 0 < hr.Den * 1 by omega) ws
 obtain ⟨tw,hw⟩ : ∃ w : aA,(mkR (hr.Num * 12) (hr.Den * 1)).1 = w := ⟨_,rfl⟩
 rw [hw] at wv wc
 obtain ⟨w0,w1,w2,w3⟩ := gS wv
 refine ⟨mn,hr,tw,?_,?_,f2,g2,Prod.ext hw ws,wv,t.Num / t.Den - 12 * (x.Num / x.Den),?_⟩
 ·rw [m1]; exact f1
 ·rw [m2]; exact g1
 ·have q1 := Int.ediv_le_self t.Den tN
  have q2 := Int.ediv_nonneg tN (show 0 ≤ t.Den by omega)
  have q3 := Int.ediv_le_self x.Den xN
  have q4 := Int.ediv_nonneg xN (show 0 ≤ x.Den by omega)
  refine aBz (Int.mul_pos (by omega) (by omega)) ?_ (by omega) (by omega)
  generalize t.Num / t.Den = j at *
  generalize x.Num / x.Den = q at *
  -- tw * t.Den = (t.Num - 12 q t.Den) * tw.Den
  have a1 : tw.Num * t.Den = (t.Num - 12 * q * t.Den) * tw.Den := by
   refine Int.eq_of_mul_eq_mul_right (a := hr.Den) (by omega) (Int.eq_of_mul_eq_mul_right (a := x.Den) (by omega) ?_)
   grind
  refine Int.eq_of_mul_eq_mul_right (a := t.Den) (by omega) ?_
  grind
end Go.Proofs.YtgcdbbidmfdonaaGreat
namespace Go.Proofs.YtgcdbbidmfdonaaGreat
set_option linter.unusedVariables false
set_option maxRecDepth 100000
theorem aAy {s : ByteArray} (h : kH s = true) : smS s := by
 unfold kH at h
 simp only [Bool.and_eq_true,decide_eq_true_eq] at h
 unfold smS; omega
theorem aFn {c : aI} (h : sB c = true) : rN c := by
 obtain ⟨h1,h2,h3,h4,h5,h6,h7⟩ := fG h
 refine ⟨aAy h1,⟨by omega,fun m hm => ⟨?_,trivial,trivial⟩⟩,⟨by omega,fun _ _ => ⟨trivial,trivial,trivial⟩⟩,trivial⟩
 obtain ⟨i,hi,rfl⟩ := List.getElem_of_mem hm
 have := wW.1 h5 i hi
 rw [Bool.and_eq_true] at this
 have q := this.1
 unfold aNb at q
 rw [Bool.and_eq_true] at q
 exact aAy q.1
theorem aT4 {m : aV} (h : wT m = true) : eX m := by
 have hc := aE3 h
 obtain ⟨hw,_⟩ := aAv h
 have hn : kH m.Name = true := by unfold wT at h; rw [Bool.and_eq_true] at h; exact h.1
 obtain ⟨w1,w2,w3,w4⟩ := qJ.1 hw
 refine ⟨aAy hn,⟨⟨by omega,fun a ha => ?_⟩,⟨by omega,fun _ _ => ⟨trivial,trivial,trivial,trivial⟩⟩⟩,trivial,trivial,trivial,trivial,trivial,aFn hc.1,⟨by have := (xC hc.2).2.2; omega,fun _ _ => trivial⟩,trivial⟩
 have q := aOw hw a ha
 unfold aDc at q
 simp only [Bool.and_eq_true,decide_eq_true_eq] at q
 exact ⟨aAy q.2.1,by have := q.2.2; omega,fun _ _ => trivial⟩
def aEm (t : List bE) (v : aA) : Prop := ∃ a b c d : Int,t = [⟨a,b⟩,⟨c,d⟩] ∧ (tth a ∧ tth b ∧ tth c ∧ tth d) ∧ (eS ⟨1,1⟩ a b).2 = true ∧ (eS (v1T a b) c d).2 = true ∧ v = v2T a b c d
theorem aOp {t : List bE} (h : trI t) : ∃ a b c d : Int,t = [⟨a,b⟩,⟨c,d⟩] ∧ tth a ∧ tth b ∧ tth c ∧ tth d := by
 obtain ⟨hl,hp⟩ := h
 match t,hl,hp with
 | [⟨a,b⟩,⟨c,d⟩],_,hp =>
  have h1 := hp ⟨a,b⟩ (by simp)
  have h2 := hp ⟨c,d⟩ (by simp)
  dsimp only at h1 h2
  exact ⟨a,b,c,d,rfl,⟨by omega,by omega⟩,⟨by omega,by omega⟩,⟨by omega,by omega⟩,⟨by omega,by omega⟩⟩
theorem xR {v : aA} (hv : KnR v) {t u : Int} (ht : tth t) (hu : tth u) : ((eV (w64 (-t)) u).bind fun x => hH v x.1) = some (eS v t u) := by
 obtain ⟨t0,t1⟩ := ht
 obtain ⟨u0,u1⟩ := hu
 obtain ⟨h1,h2,h3⟩ := yJ t0 t1 u0 u1
 rw [aS (x := -t) (by omega) (by omega),kI ⟨by omega,by omega⟩ ⟨by omega,by omega⟩ (by omega),Option.bind_some,aCc hv.1 h2]; rfl
theorem aQe {t : List bE} (h : trI t) : Ok (jA t) (fun r => r.2 = true → aEm t r.1) := by
 obtain ⟨a,b,c,d,rfl,ha,hb,hc,hd⟩ := aOp h
 have k0 : KnR ⟨1,1⟩ := ⟨by decide,by decide⟩
 unfold jA iY
 rw [Option.bind_some]
 have key := aE2 (xs := [(⟨a,b⟩ : bE),⟨c,d⟩]) (X := aA ⊕ (aA × Bool)) (S := Int × aA) (step := fun s7 : Int × aA =>
  (if s7.1 < (([(⟨a,b⟩ : bE),⟨c,d⟩]).length : Int) then ((atI [(⟨a,b⟩ : bE),⟨c,d⟩] s7.1).bind fun v8 => ((atI [(⟨a,b⟩ : bE),⟨c,d⟩] s7.1).bind fun v9 => ((eV (w64 (-v8.Driver)) v9.Driven).bind fun v10 => ((hH s7.2 v10.1).bind fun v11 => (if (!v11.2) = true then some (.inr (.inr ((⟨0,0⟩ : aA),false))) else some (.inl (w64 (s7.1 + 1),v11.1))))))) else some (.inr (.inl s7.2)))) (fun i s => (i,s)) (fun _ (p : bE) s => ((eV (w64 (-p.Driver)) p.Driven).bind fun x => hH s x.1).bind fun v11 => (if (!v11.2) = true then some (.inr (.inr ((⟨0,0⟩ : aA),false))) else some (.inl v11.1))) .inl (by simp) (fun i hi s => by
   have hi' : (i : Int) < (([(⟨a,b⟩ : bE),⟨c,d⟩]).length : Int) := by omega
   have hi2 : i < 2 := hi
   simp only [if_pos hi',dP hi,Option.bind_some,aS (x := (i : Int) + 1) (by omega) (by omega)]
   cases hm : eV (w64 (-[(⟨a,b⟩ : bE),⟨c,d⟩][i].Driver)) [(⟨a,b⟩ : bE),⟨c,d⟩][i].Driven with
   | none => rfl
   | some x =>
    simp only [Option.bind_some]
    cases hq : hH s x.1 with
    | none => rfl
    | some y => simp only [Option.bind_some]; split <;> rfl) (fun s => by simp) (⟨1,1⟩ : aA)
 rw [key]
 simp only [aLz,xR k0 ha hb,Option.bind_some]
 by_cases h1 : (eS ⟨1,1⟩ a b).2 = true
 ·rw [h1]
  simp only [Bool.not_true,Bool.false_eq_true,if_false,Option.bind_some]
  have k1 : KnR (v1T a b) := gZ k0 ha.1 ha.2 hb.1 hb.2 h1
  have e := xR k1 hc hd
  unfold v1T at e
  rw [e,Option.bind_some]
  by_cases h2 : (eS (eS ⟨1,1⟩ a b).1 c d).2 = true
  ·rw [h2]
   exact aC fun _ => ⟨a,b,c,d,rfl,⟨ha,hb,hc,hd⟩,h1,h2,rfl⟩
  ·rw [Bool.not_eq_true] at h2
   rw [h2]
   exact aC fun h => by cases h
 ·rw [Bool.not_eq_true] at h1
  rw [h1]
  exact aC fun h => by cases h
theorem aGi {t : List bE} {v : aA} (h : aEm t v) : KnR v := by
 obtain ⟨a,b,c,d,rfl,⟨ha,hb,hc,hd⟩,h1,h2,rfl⟩ := h
 exact gZ (gZ ⟨by decide,by decide⟩ ha.1 ha.2 hb.1 hb.2 h1) hc.1 hc.2 hd.1 hd.2 h2
theorem aRv {t : List bE} (h : trI t) {r : aA} (hr : qG r = true) : Ok (oN t r) (fun x => (x.2 = true → -1000000000 ≤ x.1.Num ∧ x.1.Num ≤ 1000000000) ∧ (x.2 = true → x.1.Num = 0 → ∃ v,aEm t v ∧ dD v.Num * r.Den = r.Num * v.Den)) := by
 unfold oN
 refine aN (aQe h) fun x hx => bQ (fun _ => aC ?_) fun hn => ?_
 ·exact ⟨fun h => (by cases h),fun h => (by cases h)⟩
 have hg := hx (by simpa using hn)
 have hv := aGi hg
 obtain ⟨v0,v1,v2,v3⟩ := gS hv.1
 obtain ⟨r0,r1,r2,r3⟩ := gS hr
 have ha : 0 ≤ dD x.1.Num ∧ dD x.1.Num ≤ 1000000000 := by unfold dD; omega
 rw [mW (by omega) (by omega),Option.bind_some]
 unfold oK oH
 rw [aS (x := -r.Num) (by omega) (by omega),Option.bind_some]
 dsimp only
 have b1 := qZ (a := dD x.1.Num) (b := r.Den) (A := 1000000000) (B := 1000000000) (by omega) (by omega) (by omega) (by omega)
 have b2 := qZ (a := -r.Num) (b := x.1.Den) (A := 1000000000) (B := 1000000000) (by omega) (by omega) (by omega) (by omega)
 have b3 := qZ (a := x.1.Den) (b := r.Den) (A := 1000000000) (B := 1000000000) (by omega) (by omega) (by omega) (by omega)
 have b4 : x.1.Den * r.Den ≠ 0 := Int.mul_ne_zero (by omega) (by omega)
 rw [aS (x := dD x.1.Num * r.Den) (by omega) (by omega),aS (x := -r.Num * x.1.Den) (by omega) (by omega),aS (x := _ + _) (by omega) (by omega),aS (x := x.1.Den * r.Den) (by omega) (by omega),kI ⟨by omega,by omega⟩ ⟨by omega,by omega⟩ b4,Option.bind_some,Option.bind_some]
 refine aC ⟨fun hm => ?_,fun hm h0 => ⟨x.1,hg,?_⟩⟩
 ·have := gS (qB b4 hm).1
  dsimp only; omega
 ·have := (qB b4 hm).2.1 h0
  rw [Int.neg_mul] at this
  omega
theorem aRc {t : List bE} (h : trI t) : uW t = some true := by
 obtain ⟨a,b,c,d,rfl,ha,hb,hc,hd⟩ := aOp h
 have q1 : gU a = true := decide_eq_true ha
 have q2 : gU b = true := decide_eq_true hb
 have q3 : gU c = true := decide_eq_true hc
 have q4 : gU d = true := decide_eq_true hd
 unfold uW
 rw [wQ (xs := [(⟨a,b⟩ : bE),⟨c,d⟩]) (e := .inr false) (fun _ p => gU p.Driver && gU p.Driven) (by simp) fun i hi => ?_]
 ·have : aHz [(⟨a,b⟩ : bE),⟨c,d⟩] (fun _ p => gU p.Driver && gU p.Driven) = true := by
   rw [wW]
   intro i hi
   have : i = 0 ∨ i = 1 := by simp at hi; omega
   rcases this with rfl | rfl
   ·simp [q1,q2]
   ·simp [q3,q4]
  rw [this]; rfl
 ·rw [dP hi,Option.bind_some]
  unfold tX
  rw [kT,kT]
  simp only [Option.bind_some]
  cases gU [(⟨a,b⟩ : bE),⟨c,d⟩][i].Driver <;> cases gU [(⟨a,b⟩ : bE),⟨c,d⟩][i].Driven <;> rfl
theorem aRo {r : aA} (hr : qG r = true) : Ok (jG r ⟨60,84,7,10,2⟩) (fun f => f.2 = 0 → f.1.Error.Num = 0 → ∃ v,aEm f.1.Train v ∧ dD v.Num * r.Den = r.Num * v.Den) := by
 have el : uX ⟨60,84,7,10,2⟩ = some true := by decide
 unfold jG sT
 rw [mV,Option.bind_some,hr,el]
 simp only [Bool.not_true,Bool.false_eq_true,if_false,Option.bind_some,eJ,itA]
 refine bQ (fun _ => aC fun h => by cases h) fun ha => ?_
 have ha : (btw r.Num 1 1000000 && decide (r.Den ≤ 1000000)) = true := by simpa using ha
 rw [Bool.and_eq_true] at ha
 have hn := of_decide_eq_true ha.1
 unfold rH
 refine aN (P := fun f => f.2 = 0 → f.1.Error.Num = 0 → ∃ v,aEm f.1.Train v ∧ dD v.Num * r.Den = r.Num * v.Den) ?_ fun f hf => aC hf
 refine aN (aOa (r := r) (by omega)) fun t ht => ?_
 unfold oE
 rw [aRc ht,Option.bind_some,mV,hr]
 simp only [Bool.not_true,Bool.false_eq_true,if_false,Option.bind_some]
 refine aN (P := fun e => e.2 = 0 → e.1.Num = 0 → ∃ v,aEm t v ∧ dD v.Num * r.Den = r.Num * v.Den) ?_ fun e he => bQ (fun hne => aC fun h => absurd h hne) fun h0 => aC fun _ hz => he (by omega) hz
 refine aN (aRv ht hr) fun x hx => bQ (fun _ => aC fun h => by cases h) fun hb => ?_
 have hb : x.2 = true := by simpa using hb
 have h1 := hx.1 hb
 rw [mW (by omega) (by omega),Option.bind_some]
 exact aC fun _ hz => hx.2 hb (by dsimp only at hz; unfold dD at hz; omega)
theorem aTq {c : aI} (h : rN c) : sU c = some c := by
 have h1 := h.2.1.1
 have h2 := h.2.2.1.1
 unfold sU
 rw [iN (by simp; omega),iN (by simp; omega)]
 simp
theorem aTa {nm : ByteArray} {beats teeth y : Int} {c : aI} (hn : kH nm = true) (hb : 1 ≤ beats ∧ beats ≤ 36000) (ht : tth teeth) (hc : sB c = true) : Ok (eU nm beats teeth c y) (fun r => r.2 = 0 → wT r.1 = true ∧ tC r.1 = [] ∧ r.1.Calendar = c) := by
 have hcm := (fG hc).2.1
 have hcr := (fG hc).2.2.1
 have e1 : btw beats 1 36000 = true := decide_eq_true hb
 have e2 : gU teeth = true := decide_eq_true ht
 have ht' := ht
 obtain ⟨t0,t1⟩ := ht'
 unfold eU
 rw [qO (by omega) (by omega),Option.bind_some,hc,oF,hn,eJ,e1,kT,e2]
 simp only [Bool.not_true,Bool.false_eq_true,if_false,Option.bind_some]
 refine aN (aDd hc y) fun k hk => bQ (fun hne => aC fun h => absurd h hne) fun h0 => ?_
 have hask := hk (by omega)
 rw [aS (x := 2 * teeth) (by omega) (by omega),kI ⟨by omega,by omega⟩ ⟨by omega,by omega⟩ (by omega),Option.bind_some]
 have hs := lI (n := beats) (d := 2 * teeth) (by omega) (by omega) (by omega) (by omega) (by omega)
 have hr := (qB (show 2 * teeth ≠ 0 by omega) hs).1
 have hx := sM (n := beats) (d := 2 * teeth) (by omega) hs
 have hl : nT = some ⟨60,84,7,10,2⟩ := rfl
 rw [hl,Option.bind_some]
 refine aN (aRo hr) fun f hf => ?_
 refine aN (P := fun b => b = false → f.2 = 0 ∧ f.1.Error.Num = 0) (bQ (fun _ => aC fun h => by cases h) fun h => aC fun h2 => ⟨by omega,by have := of_decide_eq_false h2; omega⟩) fun b hbb => bQ (fun _ => aC fun h => by cases h) fun hbf => ?_
 obtain ⟨f0,f1⟩ := hbb (by simpa using hbf)
 obtain ⟨v,⟨p,q,s,u,et,⟨hp,hq,hS,hu⟩,m1,m2,rfl⟩,hv⟩ := hf f0 f1
 have ew : kJ f.1.Train = some (wkT p q s u) := by rw [et]; rfl
 rw [ew,Option.bind_some,aTq (aFn hc),Option.bind_some]
 have hd := gS hr
 have he : 2 * teeth * dD (v2T p q s u).Num = beats * (v2T p q s u).Den := by
  refine Int.eq_of_mul_eq_mul_right (a := (mkR beats (2 * teeth)).1.Den) (by omega) ?_
  calc 2 * teeth * dD (v2T p q s u).Num * (mkR beats (2 * teeth)).1.Den = 2 * teeth * (dD (v2T p q s u).Num * (mkR beats (2 * teeth)).1.Den) := by rw [Int.mul_assoc]
   _ = 2 * teeth * ((mkR beats (2 * teeth)).1.Num * (v2T p q s u).Den) := by rw [hv]
   _ = ((mkR beats (2 * teeth)).1.Num * (2 * teeth)) * (v2T p q s u).Den := by rw [← Int.mul_assoc,Int.mul_comm (2 * teeth)]
   _ = (beats * (mkR beats (2 * teeth)).1.Den) * (v2T p q s u).Den := by rw [hx]
   _ = beats * (v2T p q s u).Den * (mkR beats (2 * teeth)).1.Den := by rw [Int.mul_assoc,Int.mul_assoc,Int.mul_comm (mkR beats (2 * teeth)).1.Den]
 exact aC fun _ => ⟨aJ7 hn hp hq hS hu ht hb hask (by omega),aBg hp hq hS hu ht hb hask m1 m2 he,rfl⟩
theorem aOk {m : aV} (h : wT m = true) {st : Int} (hs : 0 ≤ st ∧ st ≤ 2) : wT ⟨m.Name,m.Works,m.Minute,m.Hour,m.Escape,m.Teeth,m.Beats,m.Calendar,m.Cam,st⟩ = true := by
 have e : btw st 0 2 = true := decide_eq_true hs
 unfold wT at h ⊢
 simp only [Bool.and_eq_true] at h ⊢
 obtain ⟨h1,h2,h3,h4,h5,h6,h7,h8,h9,_⟩ := h
 exact ⟨h1,h2,h3,h4,h5,h6,h7,h8,h9,e⟩
theorem aK6 {n : Int} {s : cG} (h : qI n s) (hn : n ≤ 10000000) : Ok (nS s) (fun r => wT r.1 = true ∧ tC r.1 = [] ∧ qI (n + 120) r.2) := by
 unfold nS
 refine aN (aK5 h (by omega)) fun v1 h1 => aN (aD8 h1.2 (by omega) (by simp)) fun v2 h2 => aN (aD8 h2.2 (by omega) (by simp)) fun v3 h3 => aN (rD h3.2 (by omega)) fun v4 h4 => ?_
 have hc := h1.1.1
 have b := h2.1
 have t := h3.1
 simp only [List.mem_cons,List.not_mem_nil,or_false] at b t
 refine aN (aTa (nm := ⟨#[99,108,111,99,107]⟩) (beats := v2.1) (teeth := v3.1) (by decide) (by omega) ⟨by omega,by omega⟩ hc) fun v5 h5 => ?_
 refine aN (P := fun v8 : ByteArray × List dH × Int × Int × Int × Int × Int × aI × Int × List cY × List Int => wT ⟨v8.1,⟨v8.2.1,v8.2.2.2.2.2.2.2.2.2.1⟩,v8.2.2.1,v8.2.2.2.1,v8.2.2.2.2.1,v8.2.2.2.2.2.1,v8.2.2.2.2.2.2.1,v8.2.2.2.2.2.2.2.1,v8.2.2.2.2.2.2.2.2.2.2,v8.2.2.2.2.2.2.2.2.1⟩ = true ∧ tC ⟨v8.1,⟨v8.2.1,v8.2.2.2.2.2.2.2.2.2.1⟩,v8.2.2.1,v8.2.2.2.1,v8.2.2.2.2.1,v8.2.2.2.2.2.1,v8.2.2.2.2.2.2.1,v8.2.2.2.2.2.2.2.1,v8.2.2.2.2.2.2.2.2.2.2,v8.2.2.2.2.2.2.2.2.1⟩ = []) ?_ fun v8 h8 => ?_
 ·refine bQ (fun _ => ?_) fun h0 => aC ?_
  ·have ew : kJ [(⟨64,8⟩ : bE),⟨60,8⟩] = some (wkT 64 8 60 8) := rfl
   rw [ew,Option.bind_some]
   refine aN (aPf hc) fun v7 h7 => aC ?_
   have e60 : 2 * 30 * dD (v2T 64 8 60 8).Num = 3600 * (v2T 64 8 60 8).Den := by decide
   have q : ∀ x : Int,6 ≤ x → x ≤ 240 → tth x := fun x a b => ⟨a,b⟩
   exact ⟨aJ7 (nm := ⟨#[112,108,97,105,110]⟩) (st := 0) (by decide) (q 64 (by decide) (by decide)) (q 8 (by decide) (by decide)) (q 60 (by decide) (by decide)) (q 8 (by decide) (by decide)) (q 30 (by decide) (by decide)) (beats := 3600) (by decide) h7 (by decide),aBg (nm := ⟨#[112,108,97,105,110]⟩) (st := 0) (q 64 (by decide) (by decide)) (q 8 (by decide) (by decide)) (q 60 (by decide) (by decide)) (q 8 (by decide) (by decide)) (q 30 (by decide) (by decide)) (beats := 3600) (by decide) h7 (by decide) (by decide) e60⟩
  ·have := h5 (by omega)
   exact ⟨this.1,this.2.1⟩
 ·have hst := aIf h8.1
  refine aN (P := fun v : cG × Int => (0 ≤ v.2 ∧ v.2 ≤ 2) ∧ qI (n + 120) v.1) ?_ fun v11 h11 => aC ⟨aOk h8.1 h11.1,h8.2,h11.2⟩
  refine aN (aKb h4.2.2.2 (by omega)) fun v9 h9 => bQ (fun _ => aN (rD h9 (by omega)) fun v10 h10 => aC ⟨⟨h10.1,?_⟩,jX h10.2.2.2 (by omega)⟩) fun _ => aC ⟨hst,jX h9 (by omega)⟩
  have := h10.2.1
  dsimp only; omega
end Go.Proofs.YtgcdbbidmfdonaaGreat
namespace Go.Proofs.YtgcdbbidmfdonaaGreat
set_option linter.unusedVariables false
set_option maxRecDepth 100000
theorem yS {x B : Int} (h : dD x ≤ B) : -B ≤ x ∧ x ≤ B := by unfold dD at h; omega
theorem aL3 {x B : Int} (h0 : -B ≤ x) (h1 : x ≤ B) : dD x ≤ B := by unfold dD; omega
theorem aDr {v : aA} (hv : KnR v) {t u A B T U : Int} (ht : tth t) (hu : tth u) (hA : dD v.Num ≤ A) (hB : v.Den ≤ B) (hT : t ≤ T) (hU : u ≤ U) (hAT : A * T ≤ 1000000000) (hBU : B * U ≤ 1000000000) : (eS v t u).2 = true ∧ KnR (eS v t u).1 ∧ dD (eS v t u).1.Num ≤ A * T ∧ (eS v t u).1.Den ≤ B * U := by
 obtain ⟨t0,t1⟩ := ht
 obtain ⟨u0,u1⟩ := hu
 obtain ⟨s1,s2,s3⟩ := yJ t0 t1 u0 u1
 have sl := aDs (n := -t) (d := u) (by omega)
 obtain ⟨d0,d1,n0,n1⟩ := gS s2
 obtain ⟨e0,e1,m0,m1⟩ := gS hv.1
 have an : -A ≤ v.Num ∧ v.Num ≤ A := yS hA
 have st : dD (-t) = t := by unfold dD; omega
 have su : dD u = u := by unfold dD; omega
 rw [st,su] at sl
 have hn := yS sl.1
 have hd := yS sl.2
 have b1 := qZ (a := v.Num) (b := (mkR (-t) u).1.Num) (A := A) (B := T) (by omega) (by omega) (by omega) (by omega)
 have b2 := uR (a := v.Den) (b := (mkR (-t) u).1.Den) (A := B) (B := U) (by omega) hB (by omega) (by omega)
 have hm : (eS v t u).2 = true := lI (by omega) (by omega) (by omega) (by omega) (by omega)
 have hl := aDs (n := v.Num * (mkR (-t) u).1.Num) (d := v.Den * (mkR (-t) u).1.Den) (by omega)
 have hk := gZ hv t0 t1 u0 u1 hm
 have q1 := aL3 b1.1 b1.2
 have q2 : dD (v.Den * (mkR (-t) u).1.Den) ≤ B * U := aL3 (by omega) b2.2
 refine ⟨hm,hk,Int.le_trans hl.1 q1,?_⟩
 exact (yS (Int.le_trans hl.2 q2)).2
theorem aBs {v : aA} (hv : KnR v) {t u : Int} (ht : tth t) (hu : tth u) : ((dX (w64 (-t)) u).bind fun x => gA v x.1) = some (qE (eS v t u)) := by
 obtain ⟨t0,t1⟩ := ht
 obtain ⟨u0,u1⟩ := hu
 obtain ⟨h1,h2,h3⟩ := yJ t0 t1 u0 u1
 rw [aS (x := -t) (by omega) (by omega),fZ ⟨by omega,by omega⟩ ⟨by omega,by omega⟩,Option.bind_some]
 have e : (vW (-t) u).1 = (mkR (-t) u).1 := by unfold vW qE; rw [if_neg (by omega),if_pos h1]
 rw [e,tF hv.1 h2]; rfl
theorem aLl {t : List bE} (h : gL t) : ∃ v,aEm t v ∧ dD v.Num ≤ 7056 ∧ v.Den ≤ 100 ∧ jA t = some (v,true) ∧ jQ t = some (v,0) := by
 obtain ⟨a,b,c,d,rfl,⟨a1,a2,a3⟩,a4,a5,a6⟩ := h
 have ta : tth a := ⟨by omega,by omega⟩
 have tb : tth b := ⟨by omega,by omega⟩
 have tc : tth c := ⟨by omega,by omega⟩
 have td : tth d := ⟨by omega,by omega⟩
 have k0 : KnR ⟨1,1⟩ := ⟨by decide,by decide⟩
 obtain ⟨m1,k1,n1,e1⟩ := aDr k0 tb tc (A := 1) (B := 1) (T := 84) (U := 10) (by decide) (by decide) (by omega) (by omega) (by decide) (by decide)
 have k1 : KnR (v1T b c) := k1
 have n1 : dD (v1T b c).Num ≤ 84 := n1
 have e1 : (v1T b c).Den ≤ 10 := e1
 obtain ⟨m2,k2,n2,e2⟩ := aDr (v := v1T b c) k1 ta td (A := 84) (B := 10) (T := 84) (U := 10) (by omega) (by omega) (by omega) (by omega) (by decide) (by decide)
 refine ⟨v2T b c a d,⟨b,c,a,d,rfl,⟨tb,tc,ta,td⟩,m1,m2,rfl⟩,n2,e2,?_,?_⟩
 ·have key : Ok (jA [⟨b,c⟩,⟨a,d⟩]) (fun r => r = (v2T b c a d,true)) := by
   unfold jA iY
   rw [Option.bind_some]
   refine aN (P := fun x => x = .inl (v2T b c a d)) ?_ fun x hx => by subst hx; exact aC rfl
   refine cV (I := fun (s : Int × aA) => s = (0,⟨1,1⟩) ∨ s = (1,v1T b c) ∨ s = (2,v2T b c a d)) (m := fun s => (2 - s.1).toNat) ?_ _ (.inl rfl) (by show (2 - 0 : Int).toNat < 1180591620717411303424; decide)
   rintro s (rfl | rfl | rfl)
   ·show Ok ((eV (w64 (-b)) c).bind fun v10 => (hH ⟨1,1⟩ v10.1).bind fun v11 => if (!v11.2) = true then some (Sum.inr (Sum.inr ((⟨0,0⟩ : aA),false))) else some (Sum.inl (w64 (0 + 1),v11.1))) _
    rw [← Option.bind_assoc,xR k0 tb tc,Option.bind_some,m1]
    exact aC (.inl ⟨_,rfl, .inr (.inl rfl),by show (2 - w64 (0 + 1)).toNat < (2 - 0 : Int).toNat; decide⟩)
   ·show Ok ((eV (w64 (-a)) d).bind fun v10 => (hH (v1T b c) v10.1).bind fun v11 => if (!v11.2) = true then some (Sum.inr (Sum.inr ((⟨0,0⟩ : aA),false))) else some (Sum.inl (w64 (1 + 1),v11.1))) _
    rw [← Option.bind_assoc,xR k1 ta td,Option.bind_some,m2]
    exact aC (.inl ⟨_,rfl, .inr (.inr rfl),by show (2 - w64 (1 + 1)).toNat < (2 - 1 : Int).toNat; decide⟩)
   ·exact aC (.inr ⟨_,rfl,rfl⟩)
  obtain ⟨r,h,rfl⟩ := key
  exact h
 ·have key : Ok (jQ [⟨b,c⟩,⟨a,d⟩]) (fun r => r = (v2T b c a d,0)) := by
   unfold jQ
   refine aN (P := fun x => x = .inl (v2T b c a d)) ?_ fun x hx => by subst hx; exact aC rfl
   refine cV (I := fun (s : Int × aA) => s = (0,⟨1,1⟩) ∨ s = (1,v1T b c) ∨ s = (2,v2T b c a d)) (m := fun s => (2 - s.1).toNat) ?_ _ (.inl rfl) (by show (2 - 0 : Int).toNat < 1180591620717411303424; decide)
   have c1 : qE (eS ⟨1,1⟩ b c) = (v1T b c,0) := by unfold qE; rw [if_pos m1]; rfl
   have c2 : qE (eS (v1T b c) a d) = (v2T b c a d,0) := by unfold qE; rw [if_pos m2]; rfl
   rintro s (rfl | rfl | rfl)
   ·show Ok ((dX (w64 (-b)) c).bind fun v10 => (gA ⟨1,1⟩ v10.1).bind fun v11 => if v11.2 ≠ 0 then some (Sum.inr (Sum.inr ((⟨0,0⟩ : aA),v11.2))) else some (Sum.inl (w64 (0 + 1),v11.1))) _
    rw [← Option.bind_assoc,aBs k0 tb tc,Option.bind_some,c1]
    exact aC (.inl ⟨_,rfl, .inr (.inl rfl),by show (2 - w64 (0 + 1)).toNat < (2 - 0 : Int).toNat; decide⟩)
   ·show Ok ((dX (w64 (-a)) d).bind fun v10 => (gA (v1T b c) v10.1).bind fun v11 => if v11.2 ≠ 0 then some (Sum.inr (Sum.inr ((⟨0,0⟩ : aA),v11.2))) else some (Sum.inl (w64 (1 + 1),v11.1))) _
    rw [← Option.bind_assoc,aBs k1 ta td,Option.bind_some,c2]
    exact aC (.inl ⟨_,rfl, .inr (.inr rfl),by show (2 - w64 (1 + 1)).toNat < (2 - 1 : Int).toNat; decide⟩)
   ·exact aC (.inr ⟨_,rfl,rfl⟩)
  obtain ⟨r,h,rfl⟩ := key
  exact h
theorem aPg {t : List bE} (h : gL t) : trI t := by
 obtain ⟨a,b,c,d,rfl,⟨a1,a2,a3⟩,a4,a5,a6⟩ := h
 refine ⟨rfl,fun p hp => ?_⟩
 simp only [List.mem_cons,List.not_mem_nil,or_false] at hp
 rcases hp with rfl | rfl
 ·dsimp only; omega
 ·dsimp only; omega
theorem aLd {t : List bE} (h : gL t) : jO t = some true := by
 obtain ⟨a,b,c,d,rfl,⟨a1,a2,a3⟩,a4,a5,a6⟩ := h
 have q : ∀ x : Int,6 ≤ x → x ≤ 240 → iF x = some true := fun x h0 h1 => by
  rw [rV]; exact congrArg some (decide_eq_true ⟨h0,h1⟩)
 have q1 : fY ⟨b,c⟩ = some true := by
  unfold fY
  rw [q b (by omega) (by omega),Option.bind_some,if_pos rfl,q c (by omega) (by omega)]; rfl
 have q2 : fY ⟨a,d⟩ = some true := by
  unfold fY
  rw [q a (by omega) (by omega),Option.bind_some,if_pos rfl,q d (by omega) (by omega)]; rfl
 have key : Ok (jO [⟨b,c⟩,⟨a,d⟩]) (fun r => r = true) := by
  unfold jO
  refine aN (P := fun x => x = .inl ()) ?_ fun x hx => by subst hx; exact aC rfl
  refine cV (I := fun (s : Int) => s = 0 ∨ s = 1 ∨ s = 2) (m := fun s => (2 - s).toNat) ?_ _ (.inl rfl) (by decide)
  rintro s (rfl | rfl | rfl)
  ·show Ok ((fY ⟨b,c⟩).bind fun v6 => if (!v6) = true then some (Sum.inr (Sum.inr false)) else some (Sum.inl (w64 (0 + 1)))) _
   rw [q1]
   exact aC (.inl ⟨_,rfl, .inr (.inl rfl),by decide⟩)
  ·show Ok ((fY ⟨a,d⟩).bind fun v6 => if (!v6) = true then some (Sum.inr (Sum.inr false)) else some (Sum.inl (w64 (1 + 1)))) _
   rw [q2]
   exact aC (.inl ⟨_,rfl, .inr (.inr rfl),by decide⟩)
  ·exact aC (.inr ⟨_,rfl,rfl⟩)
 obtain ⟨r,h,rfl⟩ := key
 exact h
theorem aK7 {t : List bE} (h : gL t) {r : aA} (hr : qG r = true) (r0 : 1 ≤ r.Num ∧ r.Num ≤ 36000) (r1 : r.Den ≤ 480) : ∃ v e,aEm t v ∧ oE t r = some (e,0) ∧ qU t r = some (e,0) ∧ (e.Num = 0 → dD v.Num * r.Den = r.Num * v.Den) := by
 obtain ⟨v,hg,b1,b2,es,ei⟩ := aLl h
 have hv := aGi hg
 obtain ⟨v0,v1,v2,v3⟩ := gS hv.1
 obtain ⟨d0,d1,_,_⟩ := gS hr
 have ha : 0 ≤ dD v.Num := pZ _
 have m1 : dD v.Num * r.Den ≤ 7056 * 480 := Int.mul_le_mul b1 r1 (by omega) (by omega)
 have m2 : 0 ≤ dD v.Num * r.Den := Int.mul_nonneg ha (by omega)
 have m3 : r.Num * v.Den ≤ 36000 * 100 := Int.mul_le_mul r0.2 b2 (by omega) (by omega)
 have m4 : 0 ≤ r.Num * v.Den := Int.mul_nonneg (by omega) (by omega)
 have m5 := uR (a := v.Den) (b := r.Den) (A := 100) (B := 480) (by omega) b2 (by omega) r1
 have hs := lI (n := dD v.Num * r.Den - r.Num * v.Den) (d := v.Den * r.Den) (by omega) (by omega) (by omega) (by omega) (by omega)
 have hx := qB (n := dD v.Num * r.Den - r.Num * v.Den) (d := v.Den * r.Den) (by omega) hs
 obtain ⟨x,ex⟩ : ∃ x,mkR (dD v.Num * r.Den - r.Num * v.Den) (v.Den * r.Den) = (x,true) := ⟨_,Prod.ext rfl hs⟩
 rw [ex] at hx
 change qG x = true ∧ (x.Num = 0 ↔ _) at hx
 obtain ⟨x0,x1,x2,x3⟩ := gS hx.1
 have hav : qG ⟨dD v.Num,v.Den⟩ = true := by
  obtain ⟨q1,q2,q3⟩ := jW.1 hv.1
  refine jW.2 ⟨q1,⟨by dsimp only; omega,by dsimp only; omega⟩,?_⟩
  rw [← q3]; unfold dD; simp [Int.gcd]
 refine ⟨v,⟨dD x.Num,x.Den⟩,hg,?_,?_,fun h0 => ?_⟩
 ·unfold oE oN
  rw [aRc (aPg h),Option.bind_some,mV,hr,es]
  simp only [Bool.not_true,Bool.false_eq_true,if_false,Option.bind_some]
  rw [mW (by omega) (by omega),Option.bind_some]
  unfold oK oH
  rw [aS (x := -r.Num) (by omega) (by omega),Option.bind_some]
  dsimp only
  have en : -r.Num * v.Den = -(r.Num * v.Den) := Int.neg_mul ..
  rw [aS (x := dD v.Num * r.Den) (by omega) (by omega),en,aS (x := -(r.Num * v.Den)) (by omega) (by omega),aS (x := _ + _) (by omega) (by omega),aS (x := v.Den * r.Den) (by omega) (by omega),show dD v.Num * r.Den + -(r.Num * v.Den) = dD v.Num * r.Den - r.Num * v.Den by omega,kI ⟨by omega,by omega⟩ ⟨by omega,by omega⟩ (by omega),ex]
  simp only [Bool.not_true,Bool.false_eq_true,if_false,Option.bind_some]
  rw [mW (by omega) (by omega),Option.bind_some]
 ·unfold qU lS
  rw [aLd h,Option.bind_some,fM,hr,ei]
  simp only [Bool.not_true,Bool.false_eq_true,if_false,Option.bind_some,ne_eq,not_true_eq_false]
  rw [xJ (by omega) (by omega),Option.bind_some]
  unfold kD
  rw [fM,hav,fM,hr]
  simp only [Bool.not_true,Bool.false_eq_true,if_false,Option.bind_some]
  rw [aS (x := dD v.Num * r.Den) (by omega) (by omega),aS (x := r.Num * v.Den) (by omega) (by omega),aS (x := _ - _) (by omega) (by omega),aS (x := v.Den * r.Den) (by omega) (by omega),fZ ⟨by omega,by omega⟩ ⟨by omega,by omega⟩]
  have em : vW (dD v.Num * r.Den - r.Num * v.Den) (v.Den * r.Den) = (x,0) := by unfold vW qE; rw [if_neg (by omega),ex]; rfl
  rw [em]
  simp only [Option.bind_some]
  rw [xJ (by omega) (by omega),Option.bind_some]
 ·have : x.Num = 0 := by dsimp only at h0; unfold dD at h0; omega
  have := hx.2.1 this
  omega
theorem aL8 {r : aA} (hr : qG r = true) (r0 : 1 ≤ r.Num ∧ r.Num ≤ 36000) (r1 : r.Den ≤ 480) : ∃ t v e,gL t ∧ aEm t v ∧ nE r ⟨60,84,7,10,2⟩ = some (⟨t,e⟩,0) ∧ jG r ⟨60,84,7,10,2⟩ = some (⟨t,e⟩,0) ∧ (e.Num = 0 → dD v.Num * r.Den = r.Num * v.Den) := by
 obtain ⟨d0,d1,_,_⟩ := gS hr
 obtain ⟨t,hc,hi,hs⟩ := aF8 (r := r) ⟨⟨by omega,by omega⟩,by omega,by omega⟩
 obtain ⟨v,e,hg,es,ei,hz⟩ := aK7 hc hr r0 r1
 refine ⟨t,v,e,hc,hg,?_,?_,hz⟩
 ·have el : nG ⟨60,84,7,10,2⟩ = some true := by decide
  unfold nE tH
  rw [fM,hr,el]
  simp only [Bool.not_true,Bool.false_eq_true,if_false,Option.bind_some]
  rw [if_neg (by omega),if_neg (by omega),decide_eq_false (by omega)]
  simp only [Bool.false_eq_true,if_false,Option.bind_some,ne_eq,not_true_eq_false]
  rw [hi,Option.bind_some,ei]; rfl
 ·have el : uX ⟨60,84,7,10,2⟩ = some true := by decide
  have b1 : btw r.Num 1 1000000 = true := decide_eq_true ⟨by omega,by omega⟩
  unfold jG sT rH
  rw [mV,hr,el,eJ,b1]
  simp only [Bool.not_true,Bool.false_eq_true,if_false,if_true,Option.bind_some]
  rw [decide_eq_true (by omega)]
  simp only [Bool.not_true,Bool.false_eq_true,if_false,Option.bind_some]
  rw [hs,Option.bind_some,es]; rfl
def aS9 (nm : ByteArray) (beats teeth : Int) (c : aI) (m : aV) : Prop := ∃ p q s u cam,m = mvT nm p q s u teeth beats c cam 2 ∧ (tth p ∧ tth q ∧ tth s ∧ tth u) ∧ (eS ⟨1,1⟩ p q).2 = true ∧ (eS (v1T p q) s u).2 = true ∧ 2 * teeth * dD (v2T p q s u).Num = beats * (v2T p q s u).Den ∧ aFx c cam = 0
theorem aMi {nm : ByteArray} {beats teeth : Int} {c : aI} {m : aV} (hn : kH nm = true) (hb : 1 ≤ beats ∧ beats ≤ 36000) (ht : tth teeth) (h : aS9 nm beats teeth c m) : wT m = true ∧ tC m = [] := by
 obtain ⟨p,q,s,u,cam,rfl,⟨hp,hq,hs,hu⟩,m1,m2,he,ha⟩ := h
 exact ⟨aJ7 hn hp hq hs hu ht hb ha (by omega),aBg hp hq hs hu ht hb ha m1 m2 he⟩
theorem aPn {c : aI} (h : rN c) (nm : ByteArray) (beats teeth y : Int) : ∃ r,hJ nm beats teeth c y = some r ∧ eU nm beats teeth c y = some r ∧ eX r.1 ∧ (kH nm = true → 1 ≤ beats ∧ beats ≤ 36000 → tth teeth → sB c = true → y = 1 → r.2 = 3 ∨ (r.2 = 0 ∧ aS9 nm beats teeth c r.1)) := by
 have hz : eX aFv := aQs.1
 have hm1 := h.2.1.1
 have hm2 := h.2.2.1.1
 unfold hJ eU
 rw [nF (by omega) (by omega),qO (by omega) (by omega),Option.bind_some,Option.bind_some]
 cases hv : sB c
 ·exact ⟨(aFv,1),rfl,rfl,hz,fun _ _ _ h => by cases h⟩
 simp only [Bool.not_true,Bool.false_eq_true,if_false]
 rw [tE,oF,Option.bind_some,Option.bind_some]
 cases hn : kH nm
 ·exact ⟨(aFv,7),rfl,rfl,hz,fun h => by cases h⟩
 simp only [Bool.not_true,Bool.false_eq_true,if_false]
 rw [fV,eJ,rV,kT]
 cases hb : btw beats 1 36000
 ·exact ⟨(aFv,2),rfl,rfl,hz,fun _ h => by rw [show btw beats 1 36000 = true from decide_eq_true h] at hb; cases hb⟩
 cases ht : gU teeth
 ·exact ⟨(aFv,2),rfl,rfl,hz,fun _ _ h => by rw [show gU teeth = true from decide_eq_true h] at ht; cases ht⟩
 have hb' : 1 ≤ beats ∧ beats ≤ 36000 := of_decide_eq_true hb
 have ht' : 6 ≤ teeth ∧ teeth ≤ 240 := of_decide_eq_true ht
 obtain ⟨t0,t1⟩ := ht'
 simp only [Bool.not_true,Bool.false_eq_true,if_false,Option.bind_some]
 obtain ⟨cam,code,n,n',e1,e2,k1,k2,k3⟩ := aF6 hv y
 rw [e1,e2,Option.bind_some,Option.bind_some]
 rcases k2 with rfl | rfl
 ·have ha := k1 rfl
  have hs := lI (n := beats) (d := 2 * teeth) (by omega) (by omega) (by omega) (by omega) (by omega)
  have hr := (qB (show 2 * teeth ≠ 0 by omega) hs).1
  have hx := sM (n := beats) (d := 2 * teeth) (by omega) hs
  have hl := aDs (n := beats) (d := 2 * teeth) (by omega)
  obtain ⟨r,er⟩ : ∃ r,mkR beats (2 * teeth) = (r,true) := ⟨_,Prod.ext rfl hs⟩
  have em : vW beats (2 * teeth) = (r,0) := by unfold vW qE; rw [if_neg (by omega),er]; rfl
  rw [er] at hr hx hl
  change qG r = true at hr
  change r.Num * (2 * teeth) = beats * r.Den at hx
  change dD r.Num ≤ _ ∧ dD r.Den ≤ _ at hl
  obtain ⟨d0,d1,_,_⟩ := gS hr
  have ab : dD beats = beats := by unfold dD; omega
  have at' : dD (2 * teeth) = 2 * teeth := by unfold dD; omega
  rw [ab,at'] at hl
  have l1 := yS hl.1
  have l2 := yS hl.2
  have rn : 1 ≤ r.Num := by
   rcases Int.lt_or_le 0 r.Num with q | q
   ·omega
   ·exfalso
    have a1 := Int.mul_pos (show 0 < beats by omega) (show 0 < r.Den by omega)
    have a2 := Int.mul_nonneg (show 0 ≤ -r.Num by omega) (show 0 ≤ 2 * teeth by omega)
    rw [Int.neg_mul] at a2
    omega
  obtain ⟨t,v,e,hc,hg,bi,bs,hzr⟩ := aL8 hr ⟨rn,by omega⟩ (by omega)
  have hlim : nT = some ⟨60,84,7,10,2⟩ := rfl
  simp only [ne_eq,not_true_eq_false,if_false]
  rw [aS (x := 2 * teeth) (by omega) (by omega),fZ ⟨by omega,by omega⟩ ⟨by omega,by omega⟩,em,kI ⟨by omega,by omega⟩ ⟨by omega,by omega⟩ (by omega),er,hlim,Option.bind_some,Option.bind_some,Option.bind_some]
  simp only [ne_eq,not_true_eq_false,if_false]
  rw [bi,bs,Option.bind_some,Option.bind_some]
  simp only [ne_eq,not_true_eq_false,if_false,Option.bind_some]
  by_cases he : e.Num = 0
  ·have hg' := hg
   obtain ⟨p,q,s,u,rfl,⟨hp,hq,hS,hu⟩,m1,m2,rfl⟩ := hg'
   have hv2 := hzr he
   have hq2 : 2 * teeth * dD (v2T p q s u).Num = beats * (v2T p q s u).Den := by
    refine Int.eq_of_mul_eq_mul_right (a := r.Den) (by omega) ?_
    grind
   have hmov := aJ7 hn hp hq hS hu ⟨t0,t1⟩ hb' ha (st := 2) (by omega)
   have hsm := aT4 hmov
   have ew : kJ [⟨p,q⟩,⟨s,u⟩] = some (wkT p q s u) := rfl
   rw [if_neg (by simp [he]),if_neg (by simp [he]),ew,Option.bind_some,aTq h,Option.bind_some]
   have a0 : atI [(⟨p,q⟩ : bE),⟨s,u⟩] 0 = some ⟨p,q⟩ := rfl
   have a1 : atI [(⟨p,q⟩ : bE),⟨s,u⟩] 1 = some ⟨s,u⟩ := rfl
   rw [a0,a1,Option.bind_some,Option.bind_some]
   have ec := yY hsm
   refine ⟨(mvT nm p q s u teeth beats c cam 2,0),?_,rfl,hsm,fun _ _ _ _ _ => .inr ⟨rfl,p,q,s,u,cam,rfl,⟨hp,hq,hS,hu⟩,m1,m2,hq2,ha⟩⟩
   exact (congrArg (fun (x : Option aV) => x.bind fun v11 => some (v11,(0 : Int))) ec).trans rfl
  ·rw [if_pos he,if_pos (decide_eq_true he)]
   exact ⟨(aFv,3),rfl,rfl,hz,fun _ _ _ _ _ => .inl rfl⟩
 ·exact ⟨(aFv,2),rfl,rfl,hz,fun _ _ _ _ hy => by have := k3 hy; cases this⟩
end Go.Proofs.YtgcdbbidmfdonaaGreat
namespace Go.Proofs.YtgcdbbidmfdonaaGreat
set_option linter.unusedVariables false
set_option maxRecDepth 100000
theorem aUq {c : List Int} (h2 : ∀ b ∈ c,0 ≤ b ∧ b ≤ 255) {i n : Int} (hi : 0 ≤ i) (hn : 1 ≤ n) : Ok (xM c i n) (fun r => 0 ≤ r ∧ r ≤ n - 1 ∧ r ≤ 255) := by
 unfold xM
 refine aN (P := fun b => b = false → i < c.length) (bQ (fun _ => aC fun h => by cases h) fun h => aC fun _ => by omega) fun b hb => bQ (fun _ => aC ⟨by omega,by omega,by omega⟩) fun hf => ?_
 refine aN (nZ hi (hb (by simpa using hf))) fun v hv => fF (by omega) (aC ?_)
 have q := h2 v hv.1
 rw [aS (by omega) (by omega),Int.tmod_eq_emod_of_nonneg q.1]
 have h1 := Int.emod_nonneg v (show n ≠ 0 by omega)
 have h3 := Int.emod_lt_of_pos v (show 0 < n by omega)
 have h4 : v % n ≤ v := by
  have := Int.mul_nonneg (show 0 ≤ n by omega) (Int.ediv_nonneg q.1 (show 0 ≤ n by omega))
  rw [Int.emod_def]; omega
 exact ⟨h1,by omega,by omega⟩
end Go.Proofs.YtgcdbbidmfdonaaGreat
namespace Go.Proofs.YtgcdbbidmfdonaaGreat
set_option linter.unusedVariables false
set_option maxRecDepth 100000
theorem aO5 {c : List Int} (h1 : c.length ≤ 1000000) (h2 : ∀ b ∈ c,0 ≤ b ∧ b ≤ 255) : Ok (lL c) (fun m => wT m = true) := by
 unfold lL
 exact aN (aRy h1 h2) fun v1 q1 => aN (aK6 q1 (by omega)) fun v2 q2 => aC q2.1
theorem tR {a b : aA} (ha : qG a = true) (hb : qG b = true) : gC a b = some (qE (aFy a b)) := by
 unfold gC
 rw [mV,ha,mV,hb,aCc ha hb]
 simp only [Bool.not_true,Bool.false_eq_true,if_false,Option.bind_some,zS]
theorem aFb {a b : aA} (ha : qG a = true) (hb : qG b = true) : mT a b = some (qE (aWh a b)) := by
 obtain ⟨a0,a1,a2,a3⟩ := gS ha
 obtain ⟨b0,b1,b2,b3⟩ := gS hb
 have m1 := qZ (a := a.Num) (b := b.Den) (A := 1000000000) (B := 1000000000) (by omega) (by omega) (by omega) (by omega)
 have m2 := qZ (a := -b.Num) (b := a.Den) (A := 1000000000) (B := 1000000000) (by omega) (by omega) (by omega) (by omega)
 have m3 := uR (a := a.Den) (b := b.Den) (A := 1000000000) (B := 1000000000) (by omega) (by omega) (by omega) (by omega)
 unfold mT oK oH
 rw [mV,ha,mV,hb]
 simp only [Bool.not_true,Bool.false_eq_true,if_false,Option.bind_some]
 rw [aS (x := -b.Num) (by omega) (by omega),aS (x := a.Num * b.Den) (by omega) (by omega),aS (x := -b.Num * a.Den) (by omega) (by omega),aS (x := _ + _) (by omega) (by omega),aS (x := a.Den * b.Den) (by omega) (by omega),kI ⟨by omega,by omega⟩ ⟨by omega,by omega⟩ (by omega)]
 simp only [Option.bind_some,zS]
 rfl
theorem aSk {v : aA} (h : qG v = true) : qM v = some ⟨dD v.Num,v.Den⟩ ∧ qG ⟨dD v.Num,v.Den⟩ = true := by
 obtain ⟨a0,a1,a2,a3⟩ := gS h
 constructor
 ·unfold qM
  by_cases h0 : v.Num < 0
  ·rw [if_pos h0,Option.bind_some,aS (x := -v.Num) (by omega) (by omega),show -v.Num = dD v.Num by unfold dD; omega]
  ·rw [if_neg h0,Option.bind_some,show dD v.Num = v.Num by unfold dD; omega]
 ·obtain ⟨q1,q2,q3⟩ := jW.1 h
  refine jW.2 ⟨q1,⟨by dsimp only; unfold dD; omega,by dsimp only; unfold dD; omega⟩,?_⟩
  rw [← q3]; unfold dD; simp [Int.gcd]
theorem aLg (p0 : List Int) (k0 : osL aR7 p0) (p1 : List Int) (k1 : osL aR7 p1) : pJ p0 p1 = some true := by
 have b0 : ∀ b ∈ p0,0 ≤ b ∧ b ≤ 255 := k0.2
 have b1 : ∀ b ∈ p1,0 ≤ b ∧ b ≤ 255 := k1.2
 suffices h : Ok (pJ p0 p1) (fun b => b = true) by
  obtain ⟨x,e,hx⟩ := h
  rw [e,hx]
 unfold pJ vJ
 refine aN (P := fun b => b = false → p0.length ≤ 3000 ∧ p1.length ≤ 3000) (bQ (fun _ => aC fun h => by cases h) fun h => aC fun h2 => ⟨by omega,by have := of_decide_eq_false h2; omega⟩) fun b hb => bQ (fun _ => aC rfl) fun hf => ?_
 obtain ⟨n0,n1⟩ := hb (by simpa using hf)
 refine aN (aO5 (c := p0) (by omega) b0) fun m hm => ?_
 have hcal := (aE3 hm).1
 have hbt : btw m.Beats 1 36000 = true ∧ gU m.Teeth = true := by
  unfold wT at hm
  simp only [Bool.and_eq_true] at hm
  obtain ⟨_,_,_,_,_,h6,h7,_⟩ := hm
  exact ⟨h7,h6⟩
 have hbe : 1 ≤ m.Beats ∧ m.Beats ≤ 36000 := of_decide_eq_true hbt.1
 have hte : 6 ≤ m.Teeth ∧ m.Teeth ≤ 240 := of_decide_eq_true hbt.2
 obtain ⟨t0,t1⟩ := hte
 have hnm : kH ⟨#[99,108,111,99,107]⟩ = true := by decide
 obtain ⟨⟨x,code⟩,hi,_,hsm,hc⟩ := aPn (aFn hcal) ⟨#[99,108,111,99,107]⟩ m.Beats m.Teeth 1
 refine aN (P := fun r => r = (x,code)) ⟨_,hi,rfl⟩ fun r hr => ?_
 subst hr
 rcases hc hnm hbe ⟨t0,t1⟩ hcal rfl with h3 | ⟨h0,hd⟩
 ·change code = 3 at h3
  subst h3
  exact aC rfl
 ·change code = 0 at h0
  subst h0
  obtain ⟨hmv,hfa⟩ := aMi hnm hbe ⟨t0,t1⟩ hd
  obtain ⟨p,q,s,u,cam,hx,⟨hp,hq,hs,hu⟩,m1,m2,he,ha⟩ := hd
  change x = _ at hx
  change wT x = true at hmv
  change tC x = [] at hfa
  change eX x at hsm
  have k0 : KnR ⟨1,1⟩ := ⟨by decide,by decide⟩
  have kv1 : KnR (v1T p q) := gZ k0 hp.1 hp.2 hq.1 hq.2 m1
  have kv : KnR (v2T p q s u) := gZ kv1 hs.1 hs.2 hu.1 hu.2 m2
  have sp := aHp hp hq hs hu m1 m2
  have sw : fW x.Works x.Minute = ([⟨1,1⟩,v1T p q,v2T p q s u,⟨-1,3⟩,⟨1,12⟩],0) := by rw [hx]; exact sp
  have sp0 : kX x 0 = (⟨1,1⟩,0) := by
   have iw : sJ x.Works 0 = true := by rw [hx]; rfl
   unfold kX
   rw [if_pos hmv,sw,if_pos rfl,if_pos iw]; rfl
  have sp4 : kX x 4 = (⟨1,12⟩,0) := by
   have iw : sJ x.Works 4 = true := by rw [hx]; rfl
   unfold kX
   rw [if_pos hmv,sw,if_pos rfl,if_pos iw]; rfl
  have sp2 : kX x 2 = (v2T p q s u,0) := by
   have iw : sJ x.Works 2 = true := by rw [hx]; rfl
   unfold kX
   rw [if_pos hmv,sw,if_pos rfl,if_pos iw]; rfl
  have xm : x.Minute = 0 := by rw [hx]; rfl
  have xh : x.Hour = 4 := by rw [hx]; rfl
  have xe : x.Escape = 2 := by rw [hx]; rfl
  clear hx sp sw
  obtain ⟨v,hv⟩ : ∃ v,v = v2T p q s u := ⟨_,rfl⟩
  rw [← hv] at kv he sp2
  clear hv
  obtain ⟨d0,d1,g0,g1⟩ := gS kv.1
  refine bQ (fun h => absurd rfl h) fun _ => ?_
  refine aN (aUq b1 (i := 0) (n := 256) (by decide) (by decide)) fun v4 h4 => ?_
  dsimp only
  obtain ⟨sec,hsec⟩ : ∃ sec,sec = w64 (997 * v4) := ⟨_,rfl⟩
  have sb : 0 ≤ sec ∧ sec ≤ 300000 := by rw [hsec,aS (by omega) (by omega)]; omega
  rw [← hsec,xm,xh,xe]
  obtain ⟨mn,hr,tw,a1,a2,a3,a4,a5,a6,k,a7⟩ := aPw sb.1 sb.2
  have hbs : btw sec 0 1000000000 = true := decide_eq_true ⟨by omega,by omega⟩
  have e5 : kB x 0 sec = some (mn,0) := by rw [zJ hsm]; unfold aAk; rw [sp0,if_pos rfl,if_pos hbs,a1]; rfl
  have e6 : kB x 4 sec = some (hr,0) := by rw [zJ hsm]; unfold aAk; rw [sp4,if_pos rfl,if_pos hbs,a2]; rfl
  have e7 : kC x 2 = some (v,0) := by rw [uL hsm,sp2]
  have e8 : mL x 2 = some (⟨v.Den,dD v.Num⟩,0) := by rw [aEp hsm]; unfold aIn; rw [sp2,if_pos rfl]
  have e9 : fR x = some [] := by rw [wI hsm,if_pos hmv,hfa]
  have e10 : gG x = some true := by rw [yF hsm,hmv]
  obtain ⟨z1,z2⟩ := aSk kv.1
  have av : 1 ≤ dD v.Num ∧ dD v.Num ≤ 1000000000 := by have := kv.2; unfold dD; omega
  have pr : qG ⟨v.Den,dD v.Num⟩ = true := by
   obtain ⟨q1,q2,q3⟩ := jW.1 kv.1
   refine jW.2 ⟨av,⟨by dsimp only; omega,by dsimp only; omega⟩,?_⟩
   rw [← q3,Int.gcd_comm]; unfold dD; simp [Int.gcd]
  have tr : qG ⟨2 * m.Teeth,1⟩ = true := jW.2 ⟨⟨by dsimp only; omega,by dsimp only; omega⟩,⟨by dsimp only; omega,by dsimp only; omega⟩,by simp⟩
  have c12 : qG ⟨12,1⟩ = true := by decide
  have e12 : gC hr ⟨12,1⟩ = some (tw,0) := by rw [tR a4 c12,a5]; rfl
  have e13 : mT tw mn = some (⟨k,1⟩,0) := by rw [aFb a6 a3,a7]; rfl
  have w1 : aFy ⟨dD v.Num,v.Den⟩ ⟨2 * m.Teeth,1⟩ = (⟨m.Beats,1⟩,true) := aBz (by dsimp only; omega) (by dsimp only; rw [Int.mul_one, ← he,Int.mul_comm]) (by omega) (by omega)
  have w2 : aFy ⟨dD v.Num,v.Den⟩ ⟨v.Den,dD v.Num⟩ = (⟨1,1⟩,true) := aBz (Int.mul_pos (by dsimp only; omega) (by dsimp only; omega)) (by dsimp only; rw [Int.one_mul,Int.mul_comm]) (by omega) (by omega)
  have e15 : gC ⟨dD v.Num,v.Den⟩ ⟨2 * m.Teeth,1⟩ = some (⟨m.Beats,1⟩,0) := by rw [tR z2 tr,w1]; rfl
  have e17 : gC ⟨dD v.Num,v.Den⟩ ⟨v.Den,dD v.Num⟩ = some (⟨1,1⟩,0) := by rw [tR z2 pr,w2]; rfl
  rw [e5,e6,e7,e8,aS (x := 2 * m.Teeth) (by omega) (by omega)]
  simp only [Option.bind_some,e9,e10,e12,e13,z1,e15,e17,List.length_nil,Int.natCast_zero,ne_eq,not_true_eq_false,if_false,if_true,Bool.not_true,Bool.false_eq_true,decide_false,decide_true]
  exact aC rfl
end Go.Proofs.YtgcdbbidmfdonaaGreat
