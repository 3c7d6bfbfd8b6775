/- Texts of this claim, one behind the other (merged by a program of mine). -/
import Derived.Lib.ItoaLen
import Derived.Test.YtgcdbbidmfdonaaGreatGM6
set_option linter.unusedSimpArgs false
set_option linter.unusedVariables false
namespace Go.Proofs.YtgcdbbidmfdonaaGreat
set_option linter.unusedVariables false
def aLo (m : bG) : Bool := lX m.Name && (btw m.Days 1 60 && btw m.Leap 1 60)
def nW (r : aO) : Bool := btw r.Every 1 1000 && btw r.Rest 0 (r.Every - 1)
def aA3 (y : Int) (r : aO) : Int := if y ≤ 2000 then y / (Int.gcd y r.Every : Int) * r.Every else y
def cyc (rs : List aO) : Int := rs.foldl aA3 1
def aD1 (xs : List bG) : Bool := aI5 xs fun i m => aLo m && !((xs.take i).any fun n => decide (n.Name = m.Name))
def sH (c : aD) : Bool := lX c.Name && (decide (1 ≤ c.Months.length ∧ c.Months.length ≤ 20) && (decide (c.Rules.length ≤ 6) && (btw c.Week 1 12 && (aD1 c.Months && (c.Rules.all nW && decide (cyc c.Rules ≤ 2000))))))
theorem qG {r : aO} : nW r = true ↔ (1 ≤ r.Every ∧ r.Every ≤ 1000) ∧ 0 ≤ r.Rest ∧ r.Rest ≤ r.Every - 1 := by
 unfold nW btw
 simp only [Bool.and_eq_true,decide_eq_true_eq]
theorem tB {y e : Int} (y0 : 1 ≤ y) (y1 : y ≤ 2000) (e0 : 1 ≤ e) (e1 : e ≤ 1000) : 1 ≤ y / (Int.gcd y e : Int) ∧ y / (Int.gcd y e : Int) ≤ 2000 ∧ 1 ≤ y / (Int.gcd y e : Int) * e ∧ y / (Int.gcd y e : Int) * e ≤ 2000000 := by
 have hg := lK (n := y) (d := e) (by omega)
 have hd : (Int.gcd y e : Int) ∣ y := Int.gcd_dvd_left ..
 have h1 : 1 ≤ y / (Int.gcd y e : Int) := by
  have h2 : (Int.gcd y e : Int) ≤ y := Int.le_of_dvd (by omega) hd
  exact (Int.le_ediv_iff_mul_le (by omega)).2 (by omega)
 have h2 : y / (Int.gcd y e : Int) ≤ y := Int.ediv_le_self _ (by omega)
 refine ⟨h1,by omega,?_,?_⟩
 ·have := Int.mul_le_mul h1 e0 (by omega) (by omega); omega
 ·have := Int.mul_le_mul (show y / (Int.gcd y e : Int) ≤ 2000 by omega) e1 (by omega) (by omega); omega
theorem aPp {y : Int} {r : aO} (y0 : 1 ≤ y) (y1 : y ≤ 2000000) (h : nW r = true) : 1 ≤ aA3 y r ∧ aA3 y r ≤ 2000000 := by
 unfold aA3
 have hr := qG.1 h
 split
 ·have := tB y0 (by omega) hr.1.1 hr.1.2; omega
 ·omega
theorem aH6 {rs : List aO} {y : Int} (h : 2000 < y) : rs.foldl aA3 y = y := by
 induction rs generalizing y with
 | nil => rfl
 | cons r rs ih =>
  rw [List.foldl_cons]
  have e : aA3 y r = y := by unfold aA3; rw [if_neg (by omega)]
  rw [e]; exact ih h
theorem oQ {rs : List aO} (hl : rs.length ≤ 9223372036854775807) (h : rs.all nW = true) : gF rs = some (cyc rs) := by
 unfold gF
 have hr : ∀ (i : Nat) (hi : i < rs.length),nW rs[i] = true := fun i hi => (List.all_eq_true.1 h) _ (List.getElem_mem hi)
 have := aDx (xs := rs) (step := fun s6 => (if s6.2 < (rs.length : Int) then ((((atI rs s6.2).bind fun v7 => (if s6.1 ≤ 2000 then ((qY s6.1 v7.Every).bind fun v8 => (chk (v8 ≠ 0) (some (w64 ((w64 (s6.1.tdiv v8)) * v7.Every))))) else some s6.1)) : Option Int).bind fun v10 => some (.inl (v10,w64 (s6.2 + 1)))) else some (.inr s6.1)))
  (fun i (y : Int) => (y,i)) (fun _ r y => some (.inl (aA3 y r))) id (fun y => 1 ≤ y ∧ y ≤ 2000000) hl (fun i hi y hy => by
   have hi' : (i : Int) < rs.length := by omega
   have e1 : w64 ((i : Int) + 1) = i + 1 := aU (by omega) (by omega)
   have hq := qG.1 (hr i hi)
   simp only [if_pos hi',fB hi,Option.bind_some,e1]
   unfold aA3
   by_cases c : y ≤ 2000
   ·have hc := tB hy.1 c hq.1.1 hq.1.2
    have hg := lK (n := y) (d := rs[i].Every) (by omega)
    rw [if_pos c,if_pos c,yJ ⟨by omega,by omega⟩ (by omega) ⟨by omega,by omega⟩ (by omega),Option.bind_some,gW (by omega),Int.tdiv_eq_ediv_of_nonneg (by omega),aU (x := y / _) (by omega) (by omega),aU (by omega) (by omega)]
    rfl
   ·rw [if_neg c,if_neg c]; rfl) (fun i hi y y' hy e => by
   injection e with e; injection e with e; subst e
   exact aPp hy.1 hy.2 (hr i hi)) (fun y _ => by simp) 1 (by omega)
 rw [this,yV aA3 (fun _ _ _ => rfl)]
 rfl
theorem aGy {X : Type} {e : X} {rs : List aO} : ∀ (k : Nat) (y : Int),1 ≤ y → y ≤ 2000 → aLp (X := X) (fun _ r y => if nW r = true then (if 2000 < y / (Int.gcd y r.Every : Int) * r.Every then some (.inr e) else some (.inl (y / (Int.gcd y r.Every : Int) * r.Every))) else some (.inr e)) rs k y = some (if rs.all nW = true ∧ rs.foldl aA3 y ≤ 2000 then .inl (rs.foldl aA3 y) else .inr e) := by
 induction rs with
 | nil => intro k y h0 h1; simp [aLp,h1]
 | cons r rs ih =>
  intro k y h0 h1
  show Option.bind (if nW r = true then _ else _) _ = _
  cases hr : nW r
  ·simp [hr]
  ·have hq := qG.1 hr
   have hc := tB h0 h1 hq.1.1 hq.1.2
   have e : aA3 y r = y / (Int.gcd y r.Every : Int) * r.Every := by unfold aA3; rw [if_pos h1]
   rw [if_pos rfl,List.foldl_cons,List.all_cons,hr,e,Bool.true_and]
   by_cases c : 2000 < y / (Int.gcd y r.Every : Int) * r.Every
   ·rw [if_pos c,Option.bind_some,aH6 c,if_neg (by omega)]
   ·rw [if_neg c,Option.bind_some]
    exact ih (k + 1) _ hc.2.2.1 (by omega)
theorem rJ {rs : List aO} (hl : rs.length ≤ 9223372036854775807) : kL rs = some (if rs.all nW = true ∧ cyc rs ≤ 2000 then (cyc rs,decide (rs.length ≤ 6)) else (0,false)) := by
 unfold kL
 rw [aDx (xs := rs) (fun i (y : Int) => (y,i)) (fun _ r y => if nW r = true then (if 2000 < y / (Int.gcd y r.Every : Int) * r.Every then some (.inr (.inr (0,false))) else some (.inl (y / (Int.gcd y r.Every : Int) * r.Every))) else some (.inr (.inr (0,false)))) (fun y => .inl y) (fun y => 1 ≤ y ∧ y ≤ 2000) hl (fun i hi y hy => ?_) (fun i hi y y' hy e => ?_) (fun y _ => by simp) 1 (by omega)]
 ·have e : aLp (X := Int ⊕ (Int × Bool)) (fun _ r y => if nW r = true then (if 2000 < y / (Int.gcd y r.Every : Int) * r.Every then some (.inr (.inr (0,false))) else some (.inl (y / (Int.gcd y r.Every : Int) * r.Every))) else some (.inr (.inr (0,false)))) rs 0 1 = some (if rs.all nW = true ∧ cyc rs ≤ 2000 then .inl (cyc rs) else .inr (.inr (0,false))) := aGy 0 1 (by omega) (by omega)
  rw [e]
  by_cases c : rs.all nW = true ∧ cyc rs ≤ 2000
  ·simp only [if_pos c]
   simp [orE]
   omega
  ·simp only [if_neg c]; rfl
 ·have hi' : (i : Int) < rs.length := by omega
  have e1 : w64 ((i : Int) + 1) = i + 1 := aU (by omega) (by omega)
  simp only [if_pos hi',fB hi,Option.bind_some,e1,iW]
  have e2 : nW rs[i] = (btw rs[i].Every 1 1000 && btw rs[i].Rest 0 (rs[i].Every - 1)) := rfl
  rw [e2]
  by_cases c1 : btw rs[i].Every 1 1000 = true
  ·have q := of_decide_eq_true c1
   rw [c1,aU (x := rs[i].Every - 1) (by omega) (by omega)]
   cases btw rs[i].Rest 0 (rs[i].Every - 1)
   ·rfl
   ·have hc := tB hy.1 hy.2 q.1 q.2
    have hg := lK (n := y) (d := rs[i].Every) (by omega)
    simp only [Bool.not_true,Bool.false_eq_true,if_false,Option.bind_some,Bool.and_self,if_true]
    rw [rK (by omega) (by omega) (by omega),Option.bind_some,gW (by omega),Int.tdiv_eq_ediv_of_nonneg (by omega),aU (x := y / _) (by omega) (by omega),aU (by omega) (by omega)]
    by_cases c : 2000 < y / (Int.gcd y rs[i].Every : Int) * rs[i].Every
    ·rw [if_pos c,if_pos c]; rfl
    ·rw [if_neg c,if_neg c]; rfl
  ·rw [Bool.not_eq_true] at c1
   rw [c1]; rfl
 ·split at e
  ·rename_i hr
   have hq := qG.1 hr
   have hc := tB hy.1 hy.2 hq.1.1 hq.1.2
   split at e
   ·cases e
   ·injection e with e; injection e with e; omega
  ·cases e
theorem yS {xs : List bG} {m : bG} (hl : xs.length ≤ 9223372036854775807) : bM xs m = some (xs.any fun n => decide (n.Name = m.Name)) := by
 unfold bM cD
 rw [aRy (fun n => decide (n.Name = m.Name)) hl fun i hi => by rw [fB hi,Option.bind_some,iE,Option.bind_some],Option.bind_some,aNd]
theorem pJ {c : aD} (hm : c.Months.length ≤ 9223372036854775807) (hr : c.Rules.length ≤ 9223372036854775807) : fC c = some (sH c) := by
 unfold fC sH
 simp only [zZ,oM,Option.bind_some,itO]
 simp only [aT9 (p := (_ : Int) < _),itO,Option.bind_some]
 by_cases h : lX c.Name = true ∧ (1 ≤ c.Months.length ∧ c.Months.length ≤ 20) ∧ c.Rules.length ≤ 6 ∧ btw c.Week 1 12 = true
 ·obtain ⟨h1,h2,h3,h4⟩ := h
  rw [h1,h4,decide_eq_false (show ¬ (c.Months.length : Int) < 1 by omega),decide_eq_false (show ¬ 20 < (c.Months.length : Int) by omega),decide_eq_false (show ¬ 6 < (c.Rules.length : Int) by omega),decide_eq_true h2,decide_eq_true h3,if_neg (by decide),
   aJn (e := .inr false) (fun i m => aLo m && !((c.Months.take i).any fun n => decide (n.Name = m.Name))) hm fun i hi => ?_,Option.bind_some,
   aJn (e := .inr false) (fun _ r => nW r) hr fun i hi => ?_,Option.bind_some,aHw]
  ·by_cases h5 : c.Rules.all nW = true
   ·rw [oQ hr h5,Option.bind_some,h5]
    unfold aD1
    cases aI5 c.Months (fun i m => aLo m && !((c.Months.take i).any fun n => decide (n.Name = m.Name))) <;> rfl
   ·rw [Bool.not_eq_true] at h5
    rw [h5]
    unfold aD1
    cases aI5 c.Months (fun i m => aLo m && !((c.Months.take i).any fun n => decide (n.Name = m.Name))) <;> rfl
  ·rw [fB hi]
   simp only [Option.bind_some]
   by_cases q : btw c.Rules[i].Every 1 1000 = true
   ·have := of_decide_eq_true q
    unfold nW
    rw [q,aU (by omega) (by omega)]
    cases btw c.Rules[i].Rest 0 (c.Rules[i].Every - 1) <;> rfl
   ·rw [Bool.not_eq_true] at q
    unfold nW
    rw [q]; rfl
  ·rw [fB hi]
   simp only [Option.bind_some]
   rw [gW (aO2 (by omega)),aOm,yS (by rw [List.length_take]; omega),Option.bind_some]
   unfold aLo
   cases lX c.Months[i].Name <;> cases btw c.Months[i].Days 1 60 <;> cases btw c.Months[i].Leap 1 60 <;> cases ((c.Months.take i).any fun n => decide (n.Name = c.Months[i].Name)) <;> rfl
 ·have e : (!lX c.Name || (decide ((c.Months.length : Int) < 1) || (decide (20 < (c.Months.length : Int)) || (decide (6 < (c.Rules.length : Int)) || !btw c.Week 1 12)))) = true := by
   simp only [Bool.or_eq_true,Bool.not_eq_true',decide_eq_true_eq]
   by_cases h1 : lX c.Name = true
   ·by_cases h2 : 1 ≤ c.Months.length ∧ c.Months.length ≤ 20
    ·by_cases h3 : c.Rules.length ≤ 6
     ·have h4 : ¬ btw c.Week 1 12 = true := fun h4 => h ⟨h1,h2,h3,h4⟩
      simp [h4]
     ·omega
    ·omega
   ·simp [h1]
  rw [e,if_pos rfl]
  congr 1
  symm
  rw [← Bool.not_eq_true]
  simp only [Bool.and_eq_true,decide_eq_true_eq]
  rintro ⟨h1,h2,h3,h4,_⟩
  exact h ⟨h1,h2,h3,h4⟩
theorem aAj {xs : List bG} (hl : xs.length ≤ 9223372036854775807) : lS xs = some (aD1 xs && decide (1 ≤ xs.length ∧ xs.length ≤ 20)) := by
 unfold lS
 rw [aJn (e := .inr false) (fun i m => aLo m && !((xs.take i).any fun n => decide (n.Name = m.Name))) hl fun i hi => ?_,Option.bind_some]
 ·have e : btw (xs.length : Int) 1 20 = decide (1 ≤ xs.length ∧ xs.length ≤ 20) := by unfold btw; rw [decide_eq_decide]; omega
  rw [iW,e]
  unfold aD1
  cases aI5 xs (fun i m => aLo m && !((xs.take i).any fun n => decide (n.Name = m.Name))) <;> rfl
 ·simp only [fB hi,uD,iW,Option.bind_some,itO]
  rw [aS3 (xs := xs) i (fun _ (b : bG) => !decide (b.Name = xs[i].Name)) (by omega) (by omega) fun j hj _ => by
   rw [fB hj,Option.bind_some]
   by_cases q : xs[j].Name = xs[i].Name
   ·rw [if_pos q,decide_eq_true q]; rfl
   ·rw [if_neg q,decide_eq_false q]; rfl,aHw]
  have e : ((xs.take i).all fun b => !decide (b.Name = xs[i].Name)) = !((xs.take i).any fun b => decide (b.Name = xs[i].Name)) := by rw [Bool.eq_iff_iff]; simp
  rw [e]
  unfold aLo
  cases lX xs[i].Name <;> cases btw xs[i].Days 1 60 <;> cases btw xs[i].Leap 1 60 <;> cases ((xs.take i).any fun n => decide (n.Name = xs[i].Name)) <;> rfl
theorem wF {c : aD} (hm : c.Months.length ≤ 9223372036854775807) (hr : c.Rules.length ≤ 9223372036854775807) : qS c = some (sH c) := by
 unfold qS sH
 rw [rJ hr,Option.bind_some]
 simp only [uD,aAj hm,iW,Option.bind_some,itA]
 by_cases h : c.Rules.all nW = true ∧ cyc c.Rules ≤ 2000
 ·rw [if_pos h,h.1,decide_eq_true h.2]
  cases lX c.Name <;> cases aD1 c.Months <;> cases btw c.Week 1 12 <;> cases decide (1 ≤ c.Months.length ∧ c.Months.length ≤ 20) <;> cases decide (c.Rules.length ≤ 6) <;> rfl
 ·rw [if_neg h]
  have e : (c.Rules.all nW && decide (cyc c.Rules ≤ 2000)) = false := by
   rw [← Bool.not_eq_true,Bool.and_eq_true,decide_eq_true_eq]; exact h
  rw [e]
  cases lX c.Name <;> cases aD1 c.Months <;> cases btw c.Week 1 12 <;> cases decide (1 ≤ c.Months.length ∧ c.Months.length ≤ 20) <;> cases decide (c.Rules.length ≤ 6) <;> rfl
def aLr (xs : List Int) : Bool := xs.all (fun n => btw n 1 60) && decide (1 ≤ xs.length ∧ xs.length ≤ 260)
end Go.Proofs.YtgcdbbidmfdonaaGreat
namespace Go.Proofs.YtgcdbbidmfdonaaGreat
set_option linter.unusedVariables false
def smS (x : ByteArray) : Prop := x.size ≤ 1048576
def smL {α : Type} (sm : α → Prop) (xs : List α) : Prop := xs.length ≤ 1048576 ∧ ∀ m ∈ xs,sm m
theorem aLi (b : Int) : (strOfNums [b]).size = 1 := by simp [strOfNums,ByteArray.size]
theorem aB7 {k : Int} (h0 : 0 ≤ k) (h1 : k ≤ 1000000000000000000) : ∃ t,fA k = some t := by
 unfold fA
 by_cases hk : k ≤ 0
 ·exact ⟨_,if_pos hk⟩
 ·rw [if_neg hk]
  obtain ⟨x,hx,hp⟩ := rN (S := Int × ByteArray) (X := ByteArray) (step := fun s5 => (if 0 < s5.1 then (chk ((strOfNums [IntKind.u8.wrap (w64 (48 + (s5.1.tmod 10)))]).size + s5.2.size ≤ 9223372036854775807) (some (.inl (w64 (s5.1.tdiv 10),(strOfNums [IntKind.u8.wrap (w64 (48 + (s5.1.tmod 10)))]) ++ s5.2)))) else some (.inr s5.2)))
   (fun (s : Int × ByteArray) => 0 ≤ s.1 ∧ s.1 + s.2.size ≤ 1000000000000000000) (fun (s : Int × ByteArray) => s.1.toNat) (fun x => (x.size : Int) ≤ 1000000000000000000) (fun s hI => by
    obtain ⟨i,b⟩ := s
    obtain ⟨q0,q1⟩ := hI
    dsimp only at q0 q1 ⊢
    by_cases hi : 0 < i
    ·left
     have e1 : i.tdiv 10 = i / 10 := Int.tdiv_eq_ediv_of_nonneg q0
     have e2 : w64 (i / 10) = i / 10 := aU (by omega) (by omega)
     have e3 := aLi (IntKind.u8.wrap (w64 (48 + (i.tmod 10))))
     refine ⟨_,by rw [if_pos hi,gW (by rw [e3]; omega)],?_,?_⟩
     ·dsimp only
      rw [e1,e2,ByteArray.size_append,e3]
      push_cast
      omega
     ·dsimp only
      rw [e1,e2]; omega
    ·right; exact ⟨b,by rw [if_neg hi],by omega⟩) (k,⟨#[]⟩) ⟨h0,by show k + ((0 : Nat) : Int) ≤ _; omega⟩ (by dsimp only; omega)
  rw [hx]
  refine ⟨_,gW ?_⟩
  have : (⟨#[109]⟩ : ByteArray).size = 1 := rfl
  rw [this]; omega
def mkT (k : Int) : ByteArray := (fA k).getD ⟨#[]⟩
theorem qZ {k : Int} (h0 : 0 ≤ k) (h1 : k ≤ 1000000000000000000) : fA k = some (mkT k) := by
 obtain ⟨t,ht⟩ := aB7 h0 h1
 unfold mkT; rw [ht]; rfl
end Go.Proofs.YtgcdbbidmfdonaaGreat
namespace Go.Proofs.YtgcdbbidmfdonaaGreat
open Go.RowKit
set_option linter.unusedVariables false
set_option maxRecDepth 100000
set_option maxHeartbeats 2000000
def nU (x : bV) : Prop := smS x.Name ∧ (smL (fun _ => True)) x.Wheels
def aF0 (x : cV) : Prop := (fun _ => True) x.A ∧ (fun _ => True) x.WheelA ∧ (fun _ => True) x.B ∧ (fun _ => True) x.WheelB
def tJ (x : dE) : Prop := (smL nU) x.Arbors ∧ (smL aF0) x.Meshes
def pL (x : bG) : Prop := smS x.Name ∧ (fun _ => True) x.Days ∧ (fun _ => True) x.Leap
def kJ (x : aO) : Prop := (fun _ => True) x.Every ∧ (fun _ => True) x.Rest ∧ (fun _ => True) x.Leap
def gE (x : aD) : Prop := smS x.Name ∧ (smL pL) x.Months ∧ (smL kJ) x.Rules ∧ (fun _ => True) x.Week
def iD (x : bP) : Prop := smS x.Name ∧ tJ x.Works ∧ (fun _ => True) x.Minute ∧ (fun _ => True) x.Hour ∧ (fun _ => True) x.Escape ∧ (fun _ => True) x.Teeth ∧ (fun _ => True) x.Beats ∧ gE x.Calendar ∧ (smL (fun _ => True)) x.Cam ∧ (fun _ => True) x.Strike
theorem vD {x : List Int} (h : (smL (fun _ => True)) x) : kP x x = some true := by
 unfold kP
 rw [if_neg (by simp),aJ0 (by have := h.1; omega)]; rfl
theorem aD2 {x : bV} (h : nU x) : oV x x = some true := by
 unfold oV
 simp [vD h.2]
theorem aCz {x : List bV} (h : (smL nU) x) : nK x x = some true := by
 unfold nK
 rw [if_neg (by simp),xU (by have := h.1; omega) fun v hv => aD2 (h.2 v hv)]; rfl
theorem aF6 {x : cV} (h : aF0 x) : qK x x = some true := by
 unfold qK
 simp []
theorem aEo {x : List cV} (h : (smL aF0) x) : oE x x = some true := by
 unfold oE
 rw [if_neg (by simp),xU (by have := h.1; omega) fun v hv => aF6 (h.2 v hv)]; rfl
theorem aEu {x : dE} (h : tJ x) : oK x x = some true := by
 unfold oK
 simp [aCz h.1,aEo h.2]
theorem aDw {x : bG} (h : pL x) : oO x x = some true := by
 unfold oO
 simp []
theorem aB8 {x : List bG} (h : (smL pL) x) : nE x x = some true := by
 unfold nE
 rw [if_neg (by simp),xU (by have := h.1; omega) fun v hv => aDw (h.2 v hv)]; rfl
theorem zD {x : aO} (h : kJ x) : kB x x = some true := by
 unfold kB
 simp []
theorem xI {x : List aO} (h : (smL kJ) x) : jJ x x = some true := by
 unfold jJ
 rw [if_neg (by simp),xU (by have := h.1; omega) fun v hv => zD (h.2 v hv)]; rfl
theorem rZ {x : aD} (h : gE x) : iT x x = some true := by
 unfold iT
 simp [aB8 h.2.1,xI h.2.2.1]
theorem zS {x : bP} (h : iD x) : gH x x = some true := by
 unfold gH
 simp [aEu h.2.1,rZ h.2.2.2.2.2.2.2.1,vD h.2.2.2.2.2.2.2.2.1]
def mT (k : Int) : Int := k
theorem vK {x : List Int} {k : Int} (h0 : 0 ≤ k) (hk : k ≤ 100000000000000) (hl : x.length ≤ 1048576) : fY x k = some (k + 1 * x.length,(List.range x.length).map fun (j : Nat) => mT (k + 1 * (j : Int))) := by
 unfold fY
 rw [yA (c := 1) (B := 1000000000000000) (M := mT) (by omega) (fun k i ys a1 a2 a3 a4 a5 => ?_) (fun k i ys a => by simp [a]) h0 hl (by omega)]
 ·rfl
 ·obtain ⟨e,he,_,_⟩ := lM a3 a4
  have w : ∀ n : Int,0 ≤ n → n ≤ 2000000000000000 → w64 n = n := fun n p q => aU (by omega) (by omega)
  simp only [if_pos a4,he,Option.bind_some,List.set_set,aB1 a3 a4,w (k + 1) (by omega) (by omega),w (i + 1) (by omega) (by omega)]
  simp [mT,Int.add_assoc]
theorem uY {n : Nat} {k : Int} (h0 : 0 ≤ k) (hk : k ≤ 100000000000000) (hl : n ≤ 1048576) : iP ((List.range n).map fun (j : Nat) => mT (k + 1 * (j : Int))) k = some (k + 1 * n) := by
 unfold iP
 rw [xZ (c := 1) (B := 1000000000000000) (M := mT) (n := n) (by omega) (fun k' i a1 a2 a3 a4 a5 => ?_) (fun k i a => by simp [a]) h0 hl (by omega)]
 ·rfl
 ·have he := tE (M := mT) (k0 := k) (c := 1) a3 a4
  have w : ∀ n : Int,0 ≤ n → n ≤ 2000000000000000 → w64 n = n := fun n p q => aU (by omega) (by omega)
  rw [← a5] at he
  simp only [List.length_map,List.length_range,if_pos a4,he,Option.bind_some,w (k' + 1) (by omega) (by omega),w (i + 1) (by omega) (by omega)]
  simp [mT,Int.add_assoc]
def oU (k : Int) : cV := ⟨k,k + 1,k + 2,k + 3⟩
theorem aDp {x : List cV} {k : Int} (h0 : 0 ≤ k) (hk : k ≤ 100000000000000) (hl : x.length ≤ 1048576) : jO x k = some (k + 4 * x.length,(List.range x.length).map fun (j : Nat) => oU (k + 4 * (j : Int))) := by
 unfold jO
 rw [yA (c := 4) (B := 1000000000000000) (M := oU) (by omega) (fun k i ys a1 a2 a3 a4 a5 => ?_) (fun k i ys a => by simp [a]) h0 hl (by omega)]
 ·rfl
 ·obtain ⟨e,he,_,_⟩ := lM a3 a4
  have w : ∀ n : Int,0 ≤ n → n ≤ 2000000000000000 → w64 n = n := fun n p q => aU (by omega) (by omega)
  simp only [if_pos a4,he,Option.bind_some,List.set_set,aB1 a3 a4,w (k + 1) (by omega) (by omega),w (k + 1 + 1) (by omega) (by omega),w (k + 1 + 1 + 1) (by omega) (by omega),w (k + 1 + 1 + 1 + 1) (by omega) (by omega),w (i + 1) (by omega) (by omega)]
  simp [oU,Int.add_assoc]
theorem aD0 {n : Nat} {k : Int} (h0 : 0 ≤ k) (hk : k ≤ 100000000000000) (hl : n ≤ 1048576) : kZ ((List.range n).map fun (j : Nat) => oU (k + 4 * (j : Int))) k = some (k + 4 * n) := by
 unfold kZ
 rw [xZ (c := 4) (B := 1000000000000000) (M := oU) (n := n) (by omega) (fun k' i a1 a2 a3 a4 a5 => ?_) (fun k i a => by simp [a]) h0 hl (by omega)]
 ·rfl
 ·have he := tE (M := oU) (k0 := k) (c := 4) a3 a4
  have w : ∀ n : Int,0 ≤ n → n ≤ 2000000000000000 → w64 n = n := fun n p q => aU (by omega) (by omega)
  rw [← a5] at he
  simp only [List.length_map,List.length_range,if_pos a4,he,Option.bind_some,w (k' + 1) (by omega) (by omega),w (k' + 1 + 1) (by omega) (by omega),w (k' + 1 + 1 + 1) (by omega) (by omega),w (k' + 1 + 1 + 1 + 1) (by omega) (by omega),w (i + 1) (by omega) (by omega)]
  simp [oU,Int.add_assoc]
def lJ (k : Int) : bG := ⟨mkT k,k + 1,k + 2⟩
theorem aB3 {x : List bG} {k : Int} (h0 : 0 ≤ k) (hk : k ≤ 100000000000000) (hl : x.length ≤ 1048576) : iJ x k = some (k + 3 * x.length,(List.range x.length).map fun (j : Nat) => lJ (k + 3 * (j : Int))) := by
 unfold iJ
 rw [yA (c := 3) (B := 1000000000000000) (M := lJ) (by omega) (fun k i ys a1 a2 a3 a4 a5 => ?_) (fun k i ys a => by simp [a]) h0 hl (by omega)]
 ·rfl
 ·obtain ⟨e,he,_,_⟩ := lM a3 a4
  have w : ∀ n : Int,0 ≤ n → n ≤ 2000000000000000 → w64 n = n := fun n p q => aU (by omega) (by omega)
  simp only [if_pos a4,he,Option.bind_some,List.set_set,aB1 a3 a4,w (k + 1) (by omega) (by omega),w (k + 1 + 1) (by omega) (by omega),w (k + 1 + 1 + 1) (by omega) (by omega),w (i + 1) (by omega) (by omega),qZ (show 0 ≤ k by omega) (by omega)]
  simp [lJ,Int.add_assoc]
theorem aB9 {n : Nat} {k : Int} (h0 : 0 ≤ k) (hk : k ≤ 100000000000000) (hl : n ≤ 1048576) : jY ((List.range n).map fun (j : Nat) => lJ (k + 3 * (j : Int))) k = some (k + 3 * n) := by
 unfold jY
 rw [xZ (c := 3) (B := 1000000000000000) (M := lJ) (n := n) (by omega) (fun k' i a1 a2 a3 a4 a5 => ?_) (fun k i a => by simp [a]) h0 hl (by omega)]
 ·rfl
 ·have he := tE (M := lJ) (k0 := k) (c := 3) a3 a4
  have w : ∀ n : Int,0 ≤ n → n ≤ 2000000000000000 → w64 n = n := fun n p q => aU (by omega) (by omega)
  rw [← a5] at he
  simp only [List.length_map,List.length_range,if_pos a4,he,Option.bind_some,w (k' + 1) (by omega) (by omega),w (k' + 1 + 1) (by omega) (by omega),w (k' + 1 + 1 + 1) (by omega) (by omega),w (i + 1) (by omega) (by omega),qZ (show 0 ≤ k' by omega) (by omega)]
  simp [lJ,Int.add_assoc]
def fL (k : Int) : aO := ⟨k,k + 1,decide ((k + 2).tmod 3 = 0)⟩
theorem xG {x : List aO} {k : Int} (h0 : 0 ≤ k) (hk : k ≤ 100000000000000) (hl : x.length ≤ 1048576) : fM x k = some (k + 3 * x.length,(List.range x.length).map fun (j : Nat) => fL (k + 3 * (j : Int))) := by
 unfold fM
 rw [yA (c := 3) (B := 1000000000000000) (M := fL) (by omega) (fun k i ys a1 a2 a3 a4 a5 => ?_) (fun k i ys a => by simp [a]) h0 hl (by omega)]
 ·rfl
 ·obtain ⟨e,he,_,_⟩ := lM a3 a4
  have w : ∀ n : Int,0 ≤ n → n ≤ 2000000000000000 → w64 n = n := fun n p q => aU (by omega) (by omega)
  simp only [if_pos a4,he,Option.bind_some,List.set_set,aB1 a3 a4,w (k + 1) (by omega) (by omega),w (k + 1 + 1) (by omega) (by omega),w (k + 1 + 1 + 1) (by omega) (by omega),w (i + 1) (by omega) (by omega)]
  simp [fL,Int.add_assoc]
theorem xO {n : Nat} {k : Int} (h0 : 0 ≤ k) (hk : k ≤ 100000000000000) (hl : n ≤ 1048576) : gL ((List.range n).map fun (j : Nat) => fL (k + 3 * (j : Int))) k = some (k + 3 * n) := by
 unfold gL
 rw [xZ (c := 3) (B := 1000000000000000) (M := fL) (n := n) (by omega) (fun k' i a1 a2 a3 a4 a5 => ?_) (fun k i a => by simp [a]) h0 hl (by omega)]
 ·rfl
 ·have he := tE (M := fL) (k0 := k) (c := 3) a3 a4
  have w : ∀ n : Int,0 ≤ n → n ≤ 2000000000000000 → w64 n = n := fun n p q => aU (by omega) (by omega)
  rw [← a5] at he
  simp only [List.length_map,List.length_range,if_pos a4,he,Option.bind_some,w (k' + 1) (by omega) (by omega),w (k' + 1 + 1) (by omega) (by omega),w (k' + 1 + 1 + 1) (by omega) (by omega),w (i + 1) (by omega) (by omega)]
  simp [fL,Int.add_assoc]
theorem aIf {x : bG} (h : pL x) : rG x = some x := rfl
theorem aGk {x : List bG} (h : (smL pL) x) : nP x = some x := by
 unfold nP
 rw [gW (by have := h.1; omega),aOa (by have := h.1; omega) fun v hv => aIf (h.2 v hv)]; rfl
theorem aC6 {x : aO} (h : kJ x) : mX x = some x := rfl
theorem aAy {x : List aO} (h : (smL kJ) x) : jM x = some x := by
 unfold jM
 rw [gW (by have := h.1; omega),aOa (by have := h.1; omega) fun v hv => aC6 (h.2 v hv)]; rfl
theorem aB5 {x : aD} (h : gE x) : eY x = some x := by
 unfold eY
 simp only [aGk h.2.1,aAy h.2.2.1,Option.bind_some]
theorem aId {x : bG} (h : sS x) (l : Int) (h0 : 0 ≤ l) (h1 : l ≤ 1048576) : ∃ r,oL x l = some r ∧ r ≤ l ∧ (0 ≤ r → pL x) := by
 unfold oL
 have g0 := h.1
 unfold osS at g0
 rw [aU (x := l - (x.Name.size : Int)) (by omega) (by omega)]
 by_cases c0 : l - (x.Name.size : Int) < 0
 ·rw [if_pos c0]; exact ⟨-1,rfl,by omega,by omega⟩
 rw [if_neg c0]
 obtain ⟨r0,hr0⟩ : ∃ r : Int,r = l - (x.Name.size : Int) := ⟨_,rfl⟩
 rw [← hr0] at c0 ⊢
 exact ⟨_,rfl,by omega,fun _ => ⟨(show smS x.Name by unfold smS; omega),trivial,trivial⟩⟩
theorem aGp {x : List bG} (h : (osL sS) x) (l : Int) (h0 : 0 ≤ l) (h1 : l ≤ 1048576) : ∃ r,nL x l = some r ∧ r ≤ l ∧ (0 ≤ r → (smL pL) x) := by
 obtain ⟨hl,hm⟩ := h
 unfold nL
 by_cases hq : w64 (l - (x.length : Int)) < 0
 ·rw [if_pos hq]; exact ⟨-1,rfl,by omega,by omega⟩
 ·rw [if_neg hq]
  rw [aU (by omega) (by omega)] at hq ⊢
  obtain ⟨y,hy,hp⟩ := aQ3 hl (sm := pL) (fun v hv a b c => aId (hm v hv) a b c) (l - x.length) (by omega) (by omega)
  rw [hy]
  rcases hp with rfl | ⟨r,rfl,e1,e2,e3⟩
  ·exact ⟨-1,rfl,by omega,by omega⟩
  ·exact ⟨r,rfl,by omega,fun _ => ⟨by omega,e3⟩⟩
theorem aA2 {x : List aO} (h : (osL oY) x) (l : Int) (h0 : 0 ≤ l) (h1 : l ≤ 1048576) : ∃ r,jC x l = some r ∧ r ≤ l ∧ (0 ≤ r → (smL kJ) x) := by
 obtain ⟨hl,hm⟩ := h
 unfold jC
 rw [aU (by omega) (by omega)]
 split
 ·exact ⟨_,rfl,by omega,by omega⟩
 ·exact ⟨_,rfl,by omega,fun _ => ⟨by omega,fun _ _ => by simp [kJ]⟩⟩
theorem aCy {x : aD} (h : qW x) (l : Int) (h0 : 0 ≤ l) (h1 : l ≤ 1048576) : ∃ r,jX x l = some r ∧ r ≤ l ∧ (0 ≤ r → gE x) := by
 unfold jX
 have g0 := h.1
 unfold osS at g0
 rw [aU (x := l - (x.Name.size : Int)) (by omega) (by omega)]
 by_cases c0 : l - (x.Name.size : Int) < 0
 ·rw [if_pos c0]; exact ⟨-1,rfl,by omega,by omega⟩
 rw [if_neg c0]
 obtain ⟨r0,hr0⟩ : ∃ r : Int,r = l - (x.Name.size : Int) := ⟨_,rfl⟩
 rw [← hr0] at c0 ⊢
 obtain ⟨r1,e1,f1,s1⟩ := aGp h.2.1 r0 (by omega) (by omega)
 rw [e1]
 simp only [Option.bind_some]
 by_cases c1 : r1 < 0
 ·simp only [if_pos c1]; exact ⟨_,rfl,by omega,by omega⟩
 simp only [if_neg c1]
 obtain ⟨r2,e2,f2,s2⟩ := aA2 h.2.2.1 r1 (by omega) (by omega)
 rw [e2]
 simp only [Option.bind_some]
 by_cases c2 : r2 < 0
 ·simp only [if_pos c2]; exact ⟨_,rfl,by omega,by omega⟩
 simp only [if_neg c2]
 exact ⟨_,rfl,by omega,fun _ => ⟨(show smS x.Name by unfold smS; omega),s1 (by omega),s2 (by omega),trivial⟩⟩
theorem sN {x : aD} {k : Int} (h0 : 0 ≤ k) (hk : k ≤ 8000000000000) (h : gE x) : eP x k = some ((k + 3 * x.Months.length) + 3 * x.Rules.length,((List.range x.Months.length).map fun (j : Nat) => lJ (k + 3 * (j : Int))),((List.range x.Rules.length).map fun (j : Nat) => fL ((k + 3 * x.Months.length) + 3 * (j : Int)))) := by
 have g0 := (h.2.1).1
 have g1 := (h.2.2.1).1
 unfold eP
 simp only [aB3 (x := x.Months) (k := k) (by omega) (by omega) (h.2.1).1,xG (x := x.Rules) (k := k + 3 * x.Months.length) (by omega) (by omega) (h.2.2.1).1,Option.bind_some,List.length_map,List.length_range,yH]
theorem yT {x : aD} {k : Int} (h0 : 0 ≤ k) (hk : k ≤ 8000000000000) (h : gE x) : iO ⟨x.Name,((List.range x.Months.length).map fun (j : Nat) => lJ (k + 3 * (j : Int))),((List.range x.Rules.length).map fun (j : Nat) => fL ((k + 3 * x.Months.length) + 3 * (j : Int))),x.Week⟩ k = some ((k + 3 * x.Months.length) + 3 * x.Rules.length) := by
 have g0 := (h.2.1).1
 have g1 := (h.2.2.1).1
 unfold iO
 simp only [aB9 (n := x.Months.length) (k := k) (by omega) (by omega) (h.2.1).1,xO (n := x.Rules.length) (k := k + 3 * x.Months.length) (by omega) (by omega) (h.2.2.1).1,Option.bind_some,List.length_map,List.length_range,Int.not_lt.2 (show 0 ≤ k + 3 * x.Months.length by omega),Int.not_lt.2 (show 0 ≤ (k + 3 * x.Months.length) + 3 * x.Rules.length by omega),if_false]
def aKh (x : aNk) : Prop := (fun _ => True) x.Year ∧ (fun _ => True) x.Month ∧ (fun _ => True) x.Day
def wM (x : oC) : Prop := (smL (fun _ => True)) x.Cam ∧ (fun _ => True) x.Months ∧ (fun _ => True) x.Teeth ∧ (fun _ => True) x.At ∧ (fun _ => True) x.Day ∧ (fun _ => True) x.Week ∧ (fun _ => True) x.Weekday
def aN0 (x : aTg) : Prop := iD x.Movement ∧ aKh x.Start ∧ (fun _ => True) x.First ∧ (fun _ => True) x.Clock ∧ wM x.Dial
end Go.Proofs.YtgcdbbidmfdonaaGreat
namespace Go.Proofs.YtgcdbbidmfdonaaGreat
set_option linter.unusedVariables false
def aI0 (w : dE) (k : Int) : Bool := decide (0 ≤ k ∧ k < w.Arbors.length)
def aN2 (m : bP) : Bool := lX m.Name && (aPy m.Works && (aI0 m.Works m.Minute && (aI0 m.Works m.Hour && (aI0 m.Works m.Escape && (jU m.Teeth && (btw m.Beats 1 36000 && (sH m.Calendar && (aLr m.Cam && btw m.Strike 0 2))))))))
end Go.Proofs.YtgcdbbidmfdonaaGreat
namespace Go.Proofs.YtgcdbbidmfdonaaGreat
set_option linter.unusedVariables false
def aPq (y : Int) (b : Bool) (r : aO) : Bool := if y % r.Every = r.Rest then r.Leap else b
def iN (c : aD) (y : Int) : Bool := c.Rules.foldl (aPq y) false
theorem gA {c : aD} (h : sH c = true) : lX c.Name = true ∧ (1 ≤ c.Months.length ∧ c.Months.length ≤ 20) ∧ c.Rules.length ≤ 6 ∧ (1 ≤ c.Week ∧ c.Week ≤ 12) ∧ aD1 c.Months = true ∧ c.Rules.all nW = true ∧ cyc c.Rules ≤ 2000 := by
 unfold sH at h
 simp only [Bool.and_eq_true,decide_eq_true_eq] at h
 exact ⟨h.1,h.2.1,h.2.2.1,of_decide_eq_true h.2.2.2.1,h.2.2.2.2.1,h.2.2.2.2.2.1,h.2.2.2.2.2.2⟩
theorem aEt {c : aD} (h : sH c = true) {y : Int} (y0 : 0 ≤ y) {step : Bool × Int → Option ((Bool × Int) ⊕ Bool)} (hS : ∀ (i : Nat) (hi : i < c.Rules.length) b,c.Rules[i].Every ≠ 0 → step (b,(i : Int)) = some (.inl ((if y.tmod c.Rules[i].Every = c.Rules[i].Rest then c.Rules[i].Leap else b),w64 ((i : Int) + 1)))) (hE : ∀ b,step (b,(c.Rules.length : Int)) = some (.inr b)) :
  cE step (false,0) = some (iN c y) := by
 obtain ⟨_,_,hr,_,_,hb,_⟩ := gA h
 have := aH5 (xs := c.Rules) (step := step) (fun i b => (b,i)) (fun _ r b => some (.inl (aPq y b r))) id (by omega) (fun i hi b => by
  have hq := qG.1 ((List.all_eq_true.1 hb) _ (List.getElem_mem hi))
  rw [hS i hi b (by omega),aU (by omega) (by omega),Int.tmod_eq_emod_of_nonneg y0]; rfl) (fun b => hE b) false
 rw [this,yV (aPq y) (fun _ _ _ => rfl)]; rfl
theorem zA {c : aD} (h : sH c = true) {y : Int} (y0 : 0 ≤ y) : kU c y = some (iN c y) := by
 unfold kU
 rw [aEt h y0 (fun i hi b he => by
  have hi' : (i : Int) < c.Rules.length := by omega
  simp only [if_pos hi',fB hi,Option.bind_some,gW he]
  split <;> rfl) (fun b => by simp)]; rfl
theorem sK {c : aD} (h : sH c = true) {y : Int} (y0 : 0 ≤ y) : mB c y = some (iN c y) := by
 unfold mB
 rw [aEt h y0 (fun i hi b he => by
  have hi' : (i : Int) < c.Rules.length := by omega
  simp only [if_pos hi',fB hi,Option.bind_some,gW he]
  split <;> rfl) (fun b => by simp)]; rfl
def rW (c : aD) (k : Int) : bG := c.Months.getD k.toNat ⟨⟨#[]⟩,0,0⟩
def aK0 (c : aD) (leap : Bool) (k : Int) : Int := if leap = true then (rW c k).Leap else (rW c k).Days
theorem tD {c : aD} {k : Int} (h0 : 0 ≤ k) (h1 : k < c.Months.length) : atI c.Months k = some (rW c k) ∧ rW c k ∈ c.Months := by
 obtain ⟨e,he,hm,hg⟩ := lM h0 h1
 have : rW c k = e := by unfold rW; rw [List.getD_eq_getElem?_getD,hg]; rfl
 rw [this]; exact ⟨he,hm⟩
theorem aNu {c : aD} (h : sH c = true) {m : bG} (hm : m ∈ c.Months) : (1 ≤ m.Days ∧ m.Days ≤ 60) ∧ 1 ≤ m.Leap ∧ m.Leap ≤ 60 := by
 obtain ⟨_,_,_,_,hb,_⟩ := gA h
 obtain ⟨i,hi,rfl⟩ := List.getElem_of_mem hm
 have := xV.1 hb i hi
 unfold aLo btw at this
 simp only [Bool.and_eq_true,decide_eq_true_eq] at this
 exact ⟨this.1.2.1,this.1.2.2⟩
theorem aOs {c : aD} (h : sH c = true) (l : Bool) {k : Int} (h0 : 0 ≤ k) (h1 : k < c.Months.length) : 1 ≤ aK0 c l k ∧ aK0 c l k ≤ 60 := by
 have := aNu h (tD h0 h1).2
 unfold aK0
 cases l <;> simp <;> omega
theorem xB {c : aD} (h : sH c = true) (l : Bool) {m : Int} (h0 : 1 ≤ m) (h1 : m ≤ c.Months.length) : jN c l m = some (aK0 c l (m - 1)) := by
 have hc := (gA h).2.1.2
 unfold jN aK0
 rw [aU (by omega) (by omega),(tD (c := c) (k := m - 1) (by omega) (by omega)).1]
 cases l <;> rfl
theorem aDs {c : aD} (h : sH c = true) {y : Int} (y0 : 0 ≤ y) {k : Int} (h0 : 0 ≤ k) (h1 : k < c.Months.length) : oT c y k = some (aK0 c (iN c y) k) := by
 unfold oT aK0
 rw [sK h y0,Option.bind_some,(tD h0 h1).1]
 cases iN c y <;> rfl
theorem uV {xs : List Int} (h : aLr xs = true) : (∀ v ∈ xs,1 ≤ v ∧ v ≤ 60) ∧ 1 ≤ xs.length ∧ xs.length ≤ 260 := by
 unfold aLr at h
 simp only [Bool.and_eq_true,decide_eq_true_eq,List.all_eq_true] at h
 exact ⟨fun v hv => of_decide_eq_true (h.1 v hv),h.2⟩
def aFh (c : aD) (cam : List Int) : Int := if (sH c && aLr cam) = true then (if (cam.length : Int) % c.Months.length = 0 then 0 else 6) else 1
theorem tY {c : aD} {cam : List Int} (h : aFh c cam = 0) : sH c = true ∧ aLr cam = true ∧ (cam.length : Int) % c.Months.length = 0 ∧ 1 ≤ (cam.length : Int) / c.Months.length ∧ (cam.length : Int) / c.Months.length ≤ 260 := by
 unfold aFh at h
 split at h
 ·rename_i h1
  rw [Bool.and_eq_true] at h1
  split at h
  ·rename_i h2
   have a := (gA h1.1).2.1
   have b := (uV h1.2).2
   have e := Int.emod_add_mul_ediv (cam.length : Int) c.Months.length
   have q := qR (a := (cam.length : Int)) (g := (c.Months.length : Int)) (by omega) (by omega)
   refine ⟨h1.1,h1.2,h2,?_,by omega⟩
   rcases Int.lt_or_le 0 ((cam.length : Int) / c.Months.length) with h | h
   ·omega
   ·have : (cam.length : Int) / c.Months.length = 0 := by omega
    rw [this,h2] at e
    omega
  ·cases h
 ·cases h
theorem xA {c : aD} {cam : List Int} (h1 : 1 ≤ c.Months.length) (h2 : cam.length ≤ 9223372036854775807) : mK c cam = some (if (cam.length : Int) % c.Months.length = 0 then (cam.length : Int) / c.Months.length else 0) := by
 unfold mK
 have q := qR (a := (cam.length : Int)) (g := (c.Months.length : Int)) (by omega) (by omega)
 rw [gW (by omega),Int.tmod_eq_emod_of_nonneg (by omega),gW (by omega),Int.tdiv_eq_ediv_of_nonneg (by omega),aU (by omega) (by omega)]
 by_cases h : (cam.length : Int) % c.Months.length = 0
 ·rw [if_neg (by simp [h]),if_pos h]
 ·rw [if_pos h,if_neg h]
theorem aG7 {xs : List Int} (hl : xs.length ≤ 1048576) : cF xs = some xs := by
 unfold cF
 rw [gW (by simp; omega),List.nil_append]
theorem aNr {xs : List Int} (hl : xs.length ≤ 1048576) : oB xs = some xs := by
 unfold oB
 rw [gW (by simp; omega),List.nil_append]
end Go.Proofs.YtgcdbbidmfdonaaGreat
namespace Go.Proofs.YtgcdbbidmfdonaaGreat
set_option linter.unusedVariables false
def aDh (g : Nat → Int) : Nat → Int
 | 0 => 0
 | n + 1 => aDh g n + g n
theorem aFr {g : Nat → Int} {lo hi : Int} {n : Nat} (h : ∀ k,k < n → lo ≤ g k ∧ g k ≤ hi) : lo * n ≤ aDh g n ∧ aDh g n ≤ hi * n := by
 induction n with
 | zero => simp [aDh]
 | succ n ih =>
  have h1 := ih fun k hk => h k (by omega)
  have h2 := h n (by omega)
  have e1 : lo * ((n + 1 : Nat) : Int) = lo * n + lo := by push_cast; rw [Int.mul_add]; omega
  have e2 : hi * ((n + 1 : Nat) : Int) = hi * n + hi := by push_cast; rw [Int.mul_add]; omega
  rw [e1,e2]
  unfold aDh
  omega
theorem aHc (g : Nat → Int) (m : Nat) : ∀ n,aDh g (m + n) = aDh g m + aDh (fun k => g (m + k)) n
 | 0 => by simp [aDh]
 | n + 1 => by
  show aDh g (m + n) + g (m + n) = _
  rw [aHc g m n]
  simp only [aDh]; omega
theorem aKj {g : Nat → Int} (h : ∀ k,0 ≤ g k) {m n : Nat} (hm : m ≤ n) : aDh g m ≤ aDh g n := by
 obtain ⟨k,rfl⟩ : ∃ k,n = m + k := ⟨n - m,by omega⟩
 rw [aHc]
 have := (aFr (g := fun k => g (m + k)) (lo := 0) (hi := 0 + 1) (n := 0) fun k hk => by omega)
 have h2 : ∀ j,0 ≤ aDh (fun k => g (m + k)) j := fun j => by
  induction j with
  | zero => simp [aDh]
  | succ j ih => have := h (m + j); simp only [aDh]; omega
 have := h2 k
 omega
def aRe (c : aD) (l : Bool) : Int := aDh (fun k => aK0 c l (k : Int)) c.Months.length
def aRa (c : aD) (y : Nat) : Int := aRe c (iN c y)
def bef (c : aD) (y : Nat) : Int := aDh (aRa c) y
theorem aPj {c : aD} (h : sH c = true) (l : Bool) : 1 ≤ aRe c l ∧ aRe c l ≤ 1200 := by
 have hc := (gA h).2.1
 have := aFr (g := fun k => aK0 c l (k : Int)) (lo := 1) (hi := 60) (n := c.Months.length) fun k hk => aOs h l (by omega) (by omega)
 unfold aRe
 omega
theorem aJz {c : aD} (h : sH c = true) (y : Nat) : 1 ≤ aRa c y ∧ aRa c y ≤ 1200 := aPj h _
theorem aNv {c : aD} (h : sH c = true) (y : Nat) : (y : Int) ≤ bef c y ∧ bef c y ≤ 1200 * y := by
 have := aFr (g := aRa c) (lo := 1) (hi := 1200) (n := y) fun k _ => aJz h k
 unfold bef
 omega
theorem aNb {c : aD} (h : sH c = true) {m n : Nat} (hm : m ≤ n) : bef c m ≤ bef c n := aKj (fun k => by have := (aJz h k).1; omega) hm
theorem aO8 {rs : List aO} : ∀ {y : Int},1 ≤ y → y ≤ 2000 → rs.all nW = true → rs.foldl aA3 y ≤ 2000 → y ∣ rs.foldl aA3 y ∧ (∀ r ∈ rs,r.Every ∣ rs.foldl aA3 y) ∧ 1 ≤ rs.foldl aA3 y := by
 induction rs with
 | nil => intro y h0 h1 _ _; exact ⟨Int.dvd_refl _,fun r hr => by simp at hr,h0⟩
 | cons r rs ih =>
  intro y h0 h1 hb hc
  rw [List.all_cons,Bool.and_eq_true] at hb
  rw [List.foldl_cons] at hc ⊢
  have hq := qG.1 hb.1
  have hs := tB h0 h1 hq.1.1 hq.1.2
  have e : aA3 y r = y / (Int.gcd y r.Every : Int) * r.Every := by unfold aA3; rw [if_pos h1]
  rw [e] at hc ⊢
  have hle : y / (Int.gcd y r.Every : Int) * r.Every ≤ 2000 := by
   refine Classical.byContradiction fun hn => ?_
   rw [aH6 (Int.not_le.1 hn)] at hc
   exact hn hc
  obtain ⟨d1,d2,d3⟩ := ih hs.2.2.1 hle hb.2 hc
  have hy : y ∣ y / (Int.gcd y r.Every : Int) * r.Every := by
   obtain ⟨a,ha⟩ : (Int.gcd y r.Every : Int) ∣ y := Int.gcd_dvd_left ..
   obtain ⟨b,hb⟩ : (Int.gcd y r.Every : Int) ∣ r.Every := Int.gcd_dvd_right ..
   have hg := lK (n := y) (d := r.Every) (by omega)
   refine ⟨b,?_⟩
   have hg0 : (Int.gcd y r.Every : Int) ≠ 0 := by omega
   generalize (Int.gcd y r.Every : Int) = g at *
   have e1 : y / g = a := by rw [ha]; exact Int.mul_ediv_cancel_left a hg0
   rw [e1,hb,ha]
   grind
  refine ⟨Int.dvd_trans hy d1,fun r' hr' => ?_,d3⟩
  rcases List.mem_cons.1 hr' with rfl | hr'
  ·exact Int.dvd_trans (Int.dvd_mul_left ..) d1
  ·exact d2 r' hr'
def aPw (c : aD) : Nat := (cyc c.Rules).toNat
theorem aFk {c : aD} (h : sH c = true) : (aPw c : Int) = cyc c.Rules ∧ 1 ≤ aPw c ∧ aPw c ≤ 2000 ∧ ∀ r ∈ c.Rules,r.Every ∣ (aPw c : Int) := by
 obtain ⟨_,_,_,_,_,hb,hc⟩ := gA h
 obtain ⟨_,d2,d3⟩ := aO8 (y := 1) (by omega) (by omega) hb hc
 have e : (aPw c : Int) = cyc c.Rules := by unfold aPw; have : 1 ≤ cyc c.Rules := d3; omega
 refine ⟨e,?_,?_,fun r hr => by rw [e]; exact d2 r hr⟩
 ·have : 1 ≤ cyc c.Rules := d3; omega
 ·omega
end Go.Proofs.YtgcdbbidmfdonaaGreat
namespace Go.Proofs.YtgcdbbidmfdonaaGreat
set_option linter.unusedVariables false
theorem aFo {a b A B : Int} (h1 : -A ≤ a) (h2 : a ≤ A) (h3 : -B ≤ b) (h4 : b ≤ B) : -(A * B) ≤ a * b ∧ a * b ≤ A * B := by
 have h : (a * b).natAbs ≤ (A * B).natAbs := by
  rw [Int.natAbs_mul,Int.natAbs_mul]
  exact Nat.mul_le_mul (by omega) (by omega)
 have hp : 0 ≤ A * B := Int.mul_nonneg (by omega) (by omega)
 generalize a * b = x at *
 generalize A * B = y at *
 omega
theorem aDb {n d : Int} (hd : d ≠ 0) (h : (mkR n d).2 = true) : yE (mkR n d).1 = true ∧ ((mkR n d).1.Num = 0 ↔ n = 0) := by
 unfold mkR at h ⊢
 split at h
 ·cases h
 ·rename_i hc
  rw [if_neg hc]
  have hg : 0 < Int.gcd n d := lK hd
  have ea : eF n / (Int.gcd n d : Int) = ((n.natAbs / Int.gcd n d : Nat) : Int) := rfl
  have eb : eF d / (Int.gcd n d : Int) = ((d.natAbs / Int.gcd n d : Nat) : Int) := rfl
  have hco : Nat.Coprime (n.natAbs / Int.gcd n d) (d.natAbs / Int.gcd n d) := Nat.coprime_div_gcd_div_gcd hg
  have hb0 : 0 < d.natAbs / Int.gcd n d := Nat.div_pos (Nat.le_of_dvd (by omega) (Nat.gcd_dvd_right ..)) hg
  have ha0 : n.natAbs / Int.gcd n d = 0 ↔ n = 0 := by
   constructor
   ·intro h0
    have := Nat.eq_mul_of_div_eq_right (Nat.gcd_dvd_left n.natAbs d.natAbs) h0
    omega
   ·rintro rfl; simp
  rw [ea,eb] at hc ⊢
  generalize n.natAbs / Int.gcd n d = a at *
  generalize d.natAbs / Int.gcd n d = b at *
  refine ⟨yL.2 ⟨⟨by show 1 ≤ (b : Int); omega,by show (b : Int) ≤ _; omega⟩,?_,?_⟩,?_⟩
  ·dsimp only; split <;> omega
  ·dsimp only
   unfold Int.gcd
   split
   ·rw [Int.natAbs_neg,Int.natAbs_natCast,Int.natAbs_natCast]; exact hco
   ·rw [Int.natAbs_natCast,Int.natAbs_natCast]; exact hco
  ·dsimp only
   rw [← ha0]
   split <;> omega
theorem uN {n d : Int} (hd : d ≠ 0) (n0 : -1000000000 ≤ n) (n1 : n ≤ 1000000000) (d0 : -1000000000 ≤ d) (d1 : d ≤ 1000000000) : (mkR n d).2 = true := by
 unfold mkR
 have hg := lK (n := n) hd
 have h1 := (qR (a := eF n) (g := (Int.gcd n d : Int)) (nS n) (by omega)).2
 have h2 := (qR (a := eF d) (g := (Int.gcd n d : Int)) (nS d) (by omega)).2
 have h3 : eF n ≤ 1000000000 := by unfold eF; omega
 have h4 : eF d ≤ 1000000000 := by unfold eF; omega
 rw [if_neg (by omega)]
def aOx (a b : aM) : aM × Bool := mkR (a.Num * b.Num) (a.Den * b.Den)
theorem uG {r : aM} (h : yE r = true) : 1 ≤ r.Den ∧ r.Den ≤ 1000000000 ∧ -1000000000 ≤ r.Num ∧ r.Num ≤ 1000000000 := by
 obtain ⟨⟨d0,d1⟩,⟨n0,n1⟩,_⟩ := yL.1 h; exact ⟨d0,d1,n0,n1⟩
theorem aKy {a b : aM} (ha : yE a = true) (hb : yE b = true) : osI (a.Num * b.Num) ∧ osI (a.Den * b.Den) ∧ a.Den * b.Den ≠ 0 := by
 obtain ⟨d0,d1,n0,n1⟩ := uG ha
 obtain ⟨e0,e1,m0,m1⟩ := uG hb
 have h1 := aFo n0 n1 m0 m1
 have h2 := aFo (a := a.Den) (b := b.Den) (A := 1000000000) (B := 1000000000) (by omega) d1 (by omega) e1
 have h3 : a.Den * b.Den ≠ 0 := Int.mul_ne_zero (by omega) (by omega)
 refine ⟨⟨by omega,by omega⟩,⟨by omega,by omega⟩,h3⟩
theorem aNj {a b : aM} (ha : yE a = true) (hb : yE b = true) (h : (aOx a b).2 = true) : yE (aOx a b).1 = true ∧ ((aOx a b).1.Num = 0 ↔ a.Num * b.Num = 0) := aDb (aKy ha hb).2.2 h
theorem aC9 {a b : aM} (ha : yE a = true) (hb : yE b = true) : gX a b = some (yY (aOx a b)) := by
 unfold gX
 obtain ⟨h1,h2,h3⟩ := aKy ha hb
 simp only [jF,ha,hb,Option.bind_some,Bool.not_true,Bool.false_eq_true,if_false]
 rw [aU h1.1 h1.2,aU h2.1 h2.2,mQ h1 h2,Option.bind_some]
 unfold aC7 aOx
 rw [if_neg h3]
theorem aFx {a b : aM} (ha : yE a = true) (hb : yE b = true) : kW a b = some (aOx a b) := by
 unfold kW
 obtain ⟨h1,h2,h3⟩ := aKy ha hb
 rw [aU h1.1 h1.2,aU h2.1 h2.2,pK h1 h2 h3,Option.bind_some]; rfl
end Go.Proofs.YtgcdbbidmfdonaaGreat
namespace Go.Proofs.YtgcdbbidmfdonaaGreat
set_option linter.unusedVariables false
theorem vM {w : dE} {m : cV} : aMq w m = true ↔ m.A ≠ m.B ∧ whB w m.A m.WheelA = true ∧ whB w m.B m.WheelB = true := by
 unfold aMq; simp only [Bool.and_eq_true,decide_eq_true_eq]
theorem aBo {w : dE} : aPy w = true ↔ w.Arbors.length ≤ 16 ∧ w.Meshes.length ≤ 24 ∧ (∀ (i : Nat) (hi : i < w.Arbors.length),aMu w.Arbors[i] = true ∧ ((w.Arbors.take i).any fun b => decide (b.Name = w.Arbors[i].Name)) = false) ∧ ∀ (i : Nat) (hi : i < w.Meshes.length),aMq w w.Meshes[i] = true ∧ ((w.Meshes.take i).any fun n => aP5 w.Meshes[i] n) = false := by
 unfold aPy
 simp only [Bool.and_eq_true,decide_eq_true_eq,xV,Bool.not_eq_true']
theorem aO9 {w : dE} (h : aPy w = true) : ∀ a ∈ w.Arbors,aMu a = true := fun m hm => by
 obtain ⟨i,hi,rfl⟩ := List.getElem_of_mem hm
 exact ((aBo.1 h).2.2.1 i hi).1
def nF (v : aM) (t u : Int) : aM × Bool := aOx v (mkR (-t) u).1
theorem yG {t u : Int} (t0 : 6 ≤ t) (t1 : t ≤ 240) (u0 : 6 ≤ u) (u1 : u ≤ 240) : (mkR (-t) u).2 = true ∧ yE (mkR (-t) u).1 = true ∧ (mkR (-t) u).1.Num ≠ 0 := by
 have h := uN (n := -t) (d := u) (by omega) (by omega) (by omega) (by omega) (by omega)
 have h2 := aDb (n := -t) (d := u) (by omega) h
 exact ⟨h,h2.1,fun e => by have := h2.2.1 e; omega⟩
def KnR (r : aM) : Prop := yE r = true ∧ r.Num ≠ 0
theorem vU {v : aM} {t u : Int} (hv : KnR v) (t0 : 6 ≤ t) (t1 : t ≤ 240) (u0 : 6 ≤ u) (u1 : u ≤ 240) (h : (nF v t u).2 = true) : KnR (nF v t u).1 := by
 obtain ⟨_,h2,h3⟩ := yG t0 t1 u0 u1
 obtain ⟨h4,h5⟩ := aNj hv.1 h2 h
 exact ⟨h4,fun e => by
  rcases Int.mul_eq_zero.1 (h5.1 e) with h | h
  ·exact hv.2 h
  ·exact h3 h⟩
def SpI (w : dE) (sp : List aM) : Prop := sp.length = w.Arbors.length ∧ ∀ r ∈ sp,r = ⟨0,0⟩ ∨ KnR r
theorem SpI.set {w : dE} {sp : List aM} (h : SpI w sp) (i : Nat) {v : aM} (hv : KnR v) : SpI w (sp.set i v) := by
 refine ⟨by rw [List.length_set]; exact h.1,fun r hr => ?_⟩
 rcases List.mem_or_eq_of_mem_set hr with hr | rfl
 ·exact h.2 r hr
 ·exact .inr hv
def start (w : dE) (root : Int) : List aM := (List.replicate w.Arbors.length (⟨0,0⟩ : aM)).set root.toNat ⟨1,1⟩
end Go.Proofs.YtgcdbbidmfdonaaGreat
namespace Go.Proofs.YtgcdbbidmfdonaaGreat
set_option linter.unusedVariables false
def knS (sp : List aM) : List Bool := sp.map fun r => decide (r.Den ≠ 0)
end Go.Proofs.YtgcdbbidmfdonaaGreat
namespace Go.Proofs.YtgcdbbidmfdonaaGreat
set_option linter.unusedVariables false
theorem aMf {m : bP} (h : aN2 m = true) : aPy m.Works = true ∧ aI0 m.Works m.Minute = true ∧ aI0 m.Works m.Hour = true ∧ aI0 m.Works m.Escape = true := by
 unfold aN2 at h
 simp only [Bool.and_eq_true] at h
 exact ⟨h.2.1,h.2.2.1,h.2.2.2.1,h.2.2.2.2.1⟩
end Go.Proofs.YtgcdbbidmfdonaaGreat
namespace Go.Proofs.YtgcdbbidmfdonaaGreat
set_option linter.unusedVariables false
theorem aM2 {m : bP} (h : aN2 m = true) : sH m.Calendar = true ∧ aLr m.Cam = true := by
 unfold aN2 at h
 simp only [Bool.and_eq_true] at h
 exact ⟨h.2.2.2.2.2.2.2.1,h.2.2.2.2.2.2.2.2.1⟩
theorem aMx {c : aD} {cam : List Int} (h1 : sH c = true) (h2 : aLr cam = true) : aFh c cam = if (cam.length : Int) % c.Months.length = 0 then 0 else 6 := by
 unfold aFh; rw [h1,h2]; rfl
theorem xY {α : Type} {xs : List α} {k : Nat} (hl : xs.length ≤ 1048576) (hk : k ≤ 100) : (chk ((([] : List α).length + xs.length) * k * 64 ≤ 140737488355328) (some (([] : List α) ++ xs))) = some xs := by
 rw [gW ?_,List.nil_append]
 have : (([] : List α).length + xs.length) * k ≤ 1048576 * 100 := Nat.mul_le_mul (by simpa using hl) hk
 omega
theorem aAo {w : dE} (h : tJ w) : lE w = some w := by
 unfold lE
 have hl := h.1.1
 rw [uK (xs := w.Arbors) (f := fun a => [a]) (c := 1) (fun v _ => by simp) (fun i hi ys hy => ?_) (fun ys => by simp) (by omega)]
 ·simp only [Option.bind_some]
  unfold eK
  rw [xY h.2.1 (by omega)]
  simp
 ·have hi' : (i : Int) < w.Arbors.length := by omega
  have hw := (h.1.2 _ (List.getElem_mem hi)).2.1
  simp only [if_pos hi',fB hi,Option.bind_some,aU (x := (i : Int) + 1) (by omega) (by omega)]
  first | unfold cF | unfold slices_Clone_Lint64_int64_v_m
  rw [xY hw (by omega),Option.bind_some,gW (by simp at hy ⊢; omega)]
theorem wI {m : bP} (h : iD m) : iG m = some m := by
 unfold iG
 rw [aAo h.2.1,Option.bind_some]
 unfold dW dA
 rw [xY h.2.2.2.2.2.2.2.1.2.1.1 (by omega),Option.bind_some,xY h.2.2.2.2.2.2.2.1.2.2.1.1 (by omega),Option.bind_some,aG7 h.2.2.2.2.2.2.2.2.1.1,Option.bind_some]
def aC2 : bP := ⟨⟨#[]⟩,⟨[],[]⟩,0,0,0,0,0,⟨⟨#[]⟩,[],[],0⟩,[],0⟩
def aQl : oC := ⟨[],0,0,0,0,0,0⟩
def aQq : aTg := ⟨aC2,⟨0,0,0⟩,0,0,aQl⟩
end Go.Proofs.YtgcdbbidmfdonaaGreat
namespace Go.Proofs.YtgcdbbidmfdonaaGreat
set_option linter.unusedVariables false
def yrs (c : aD) : Nat := 10000 + 0 * c.Months.length
theorem aQp (c : aD) : yrs c = 10000 := by unfold yrs; omega
def aTc (c : aD) : Int := bef c (yrs c)
def aN6 (c : aD) (day : Int) (s : Int × aNk) : Prop := s.2.Month = 1 ∧ s.2.Day = 0 ∧ 0 ≤ s.2.Year ∧ 0 ≤ s.1 ∧ bef c s.2.Year.toNat + s.1 = day
theorem aN6.bd {c : aD} (h : sH c = true) {day : Int} {s : Int × aNk} (hs : aN6 c day s) (hd : day < aTc c) : s.2.Year ≤ 9999 ∧ s.1 ≤ 12000000 := by
 obtain ⟨_,_,h3,h4,h5⟩ := hs
 have f := (aNv h (yrs c)).2
 have g := (aNv h s.2.Year.toNat).1
 have y := aQp c
 unfold aTc at hd
 refine ⟨?_,by omega⟩
 refine Classical.byContradiction fun hn => ?_
 have := aNb h (m := yrs c) (n := s.2.Year.toNat) (by omega)
 omega
end Go.Proofs.YtgcdbbidmfdonaaGreat
namespace Go.Proofs.YtgcdbbidmfdonaaGreat
set_option linter.unusedVariables false
end Go.Proofs.YtgcdbbidmfdonaaGreat
namespace Go.Proofs.YtgcdbbidmfdonaaGreat
set_option linter.unusedVariables false
section
variable {α : Type} (f : Int → α → α × Int)
def aBg : Int → List α → List α
 | _,[] => []
 | k,a :: l => (f k a).1 :: aBg (f k a).2 l
def oA : Int → List α → Int
 | k,[] => k
 | k,a :: l => oA (f k a).2 l
theorem gI : ∀ (xs : List α) (k : Int),(aBg f k xs).length = xs.length
 | [],_ => rfl
 | a :: l,k => by simp [aBg,gI l]
theorem aCx : ∀ (xs ys : List α) (k : Int),oA f k (xs ++ ys) = oA f (oA f k xs) ys
 | [],_,_ => rfl
 | a :: l,ys,k => by simp [oA,aCx l ys]
theorem aBs : ∀ (xs ys : List α) (k : Int),aBg f k (xs ++ ys) = aBg f k xs ++ aBg f (oA f k xs) ys
 | [],_,_ => rfl
 | a :: l,ys,k => by simp [aBg,oA,aBs l ys]
end
section
variable {α : Type} {f : Int → α → α × Int} {sm : α → Prop} {C : Int}
theorem aJo (hC : 0 ≤ C) (hf : ∀ k a,sm a → k ≤ (f k a).2 ∧ (f k a).2 ≤ k + C) : ∀ {xs : List α} {k : Int},(∀ a ∈ xs,sm a) → k ≤ oA f k xs ∧ oA f k xs ≤ k + C * xs.length
 | [],k,_ => by simp [oA]
 | a :: l,k,h => by
  have h1 := hf k a (h a (by simp))
  have h2 := aJo hC hf (xs := l) (k := (f k a).2) fun b hb => h b (by simp [hb])
  simp only [oA,List.length_cons]
  have : C * ((l.length + 1 : Nat) : Int) = C * l.length + C := by push_cast; rw [Int.mul_add]; omega
  omega
theorem aHy (hC : 0 ≤ C) (hf : ∀ k a,sm a → k ≤ (f k a).2 ∧ (f k a).2 ≤ k + C) {xs pre : List α} {a : α} {suf : List α} {k0 B : Int} (hsm : ∀ a ∈ xs,sm a) (hB : k0 + C * xs.length ≤ B) (e : xs = pre ++ a :: suf) : k0 ≤ oA f k0 pre ∧ oA f k0 pre ≤ B := by
 have := aJo hC hf (xs := pre) (k := k0) fun b hb => hsm b (by rw [e]; simp [hb])
 have h2 : C * (pre.length : Int) ≤ C * xs.length := Int.mul_le_mul_of_nonneg_left (by rw [e]; simp; omega) hC
 omega
theorem aMr {B : Int} (hC : 0 ≤ C) (hf : ∀ k a,sm a → k ≤ (f k a).2 ∧ (f k a).2 ≤ k + C) {step : Int × Int × List α → Option ((Int × Int × List α) ⊕ (Int × List α))} {xs : List α} (hsm : ∀ a ∈ xs,sm a) (hl : xs.length ≤ 1048576)
  (hM : ∀ k (i : Nat) ys a,0 ≤ k → k ≤ B → ys[i]? = some a → sm a → ys.length = xs.length → step (k,(i : Int),ys) = some (.inl ((f k a).2,(i : Int) + 1,ys.set i (f k a).1))) (hE : ∀ k (i : Nat) ys,ys.length ≤ i → step (k,(i : Int),ys) = some (.inr (k,ys)))
  {k0 : Int} (h0 : 0 ≤ k0) (hB : k0 + C * xs.length ≤ B) : cE step (k0,0,xs) = some (oA f k0 xs,aBg f k0 xs) := by
 refine pU (fun (s : Int × Int × List α) => ∃ pre suf,xs = pre ++ suf ∧ s = (oA f k0 pre,(pre.length : Int),aBg f k0 pre ++ suf)) (fun (s : Int × Int × List α) => ((xs.length : Int) - s.2.1).toNat) (fun s hI => ?_) ⟨[],xs,rfl,rfl⟩ (by simp; omega)
 obtain ⟨pre,suf,e,rfl⟩ := hI
 cases suf with
 | nil =>
  right
  rw [List.append_nil] at e
  subst e
  rw [hE _ _ _ (by simp [gI]),List.append_nil]
 | cons a suf =>
  left
  have hb := aHy hC hf hsm hB e
  have hlen : (aBg f k0 pre ++ a :: suf).length = xs.length := by rw [e]; simp [gI]
  refine ⟨_,hM _ pre.length _ a (by omega) hb.2 (by rw [List.getElem?_append_right (by rw [gI]; exact Nat.le_refl _),gI]; simp) (hsm a (by rw [e]; simp)) hlen,⟨pre ++ [a],suf,by rw [e]; simp,?_⟩,?_⟩
  ·rw [aCx,aBs,List.set_append_right _ _ (by rw [gI]; exact Nat.le_refl _),gI,Nat.sub_self,List.set_cons_zero]
   simp [oA,aBg]
  ·have : pre.length < xs.length := by rw [e]; simp
   dsimp only
   omega
theorem aMk {B : Int} (hC : 0 ≤ C) (hf : ∀ k a,sm a → k ≤ (f k a).2 ∧ (f k a).2 ≤ k + C) {step : Int × Int → Option ((Int × Int) ⊕ (Int ⊕ Int))} {xs : List α} {k0 : Int} (hsm : ∀ a ∈ xs,sm a) (hl : xs.length ≤ 1048576)
  (hM : ∀ k (i : Nat) a,0 ≤ k → k ≤ B → (aBg f k0 xs)[i]? = some (f k a).1 → sm a → i < xs.length → step (k,(i : Int)) = some (.inl ((f k a).2,(i : Int) + 1))) (hE : ∀ k,step (k,(xs.length : Int)) = some (.inr (.inl k)))
  (h0 : 0 ≤ k0) (hB : k0 + C * xs.length ≤ B) : cE step (k0,0) = some (.inl (oA f k0 xs)) := by
 refine pU (fun (s : Int × Int) => ∃ pre suf,xs = pre ++ suf ∧ s = (oA f k0 pre,(pre.length : Int))) (fun (s : Int × Int) => ((xs.length : Int) - s.2).toNat) (fun s hI => ?_) ⟨[],xs,rfl,rfl⟩ (by simp; omega)
 obtain ⟨pre,suf,e,rfl⟩ := hI
 cases suf with
 | nil =>
  right
  rw [List.append_nil] at e
  subst e
  rw [hE]
 | cons a suf =>
  left
  have hb := aHy hC hf hsm hB e
  have hlt : pre.length < xs.length := by rw [e]; simp
  refine ⟨_,hM _ pre.length a (by omega) hb.2 ?_ (hsm a (by rw [e]; simp)) hlt,⟨pre ++ [a],suf,by rw [e]; simp,?_⟩,?_⟩
  ·rw [e,aBs,List.getElem?_append_right (by rw [gI]; exact Nat.le_refl _),gI]
   simp [aBg]
  ·rw [aCx]; simp [oA]
  ·dsimp only
   omega
end
def mkA (k : Int) (a : bV) : bV × Int := (⟨mkT k,(List.range a.Wheels.length).map fun (j : Nat) => mT (k + 1 + 1 * (j : Int))⟩,k + 1 + 1 * a.Wheels.length)
theorem aO0 : ∀ k a,nU a → k ≤ (mkA k a).2 ∧ (mkA k a).2 ≤ k + 1048577 := fun k a h => by
 have := h.2.1
 unfold mkA
 dsimp only
 omega
theorem aE3 {x : List bV} {k : Int} (h : smL nU x) : k ≤ oA mkA k x ∧ oA mkA k x ≤ k + 1099512676352 := by
 have := aJo (by omega) aO0 (k := k) h.2
 have := h.1
 omega
theorem aB0 {x : List bV} {k : Int} (h0 : 0 ≤ k) (hk : k ≤ 10000000000000) (h : smL nU x) : iM x k = some (oA mkA k x,aBg mkA k x) := by
 unfold iM
 have hl := h.1
 rw [aMr (f := mkA) (sm := nU) (C := 1048577) (B := 12000000000000) (by omega) aO0 h.2 h.1 (fun k i ys a a1 a2 a3 a4 a5 => ?_) (fun k i ys a => ?_) h0 (by omega)]
 ·rfl
 ·have hil := (List.getElem?_eq_some_iff.1 a3).1
  have hw := a4.2.1
  have e1 : atI ys (i : Int) = some a := by rw [aC1]; exact a3
  have e2 : ∀ b : bV,atI (ys.set i b) (i : Int) = some b := fun b => by rw [aC1]; exact List.getElem?_set_self hil
  have h7 := vK (x := a.Wheels) (k := k + 1) (by omega) (by omega) hw
  simp only [if_pos (show (i : Int) < (ys.length : Int) by omega),qZ a1 (show k ≤ 1000000000000000000 by omega),e1,e2,Option.bind_some,Int.toNat_natCast,aU (x := k + 1) (by omega) (by omega),h7,List.set_set,aU (x := (i : Int) + 1) (by omega) (by omega),mkA]
  rw [gW (by simp)]
 ·simp only [if_neg (show ¬ (i : Int) < (ys.length : Int) by omega)]
theorem aCw {x : List bV} {k : Int} (h0 : 0 ≤ k) (hk : k ≤ 10000000000000) (h : smL nU x) : jZ (aBg mkA k x) k = some (oA mkA k x) := by
 unfold jZ
 have hl := h.1
 rw [aMk (f := mkA) (sm := nU) (C := 1048577) (B := 12000000000000) (xs := x) (by omega) aO0 h.2 h.1 (fun k' i a a1 a2 a3 a4 a5 => ?_) (fun k' => ?_) h0 (by omega)]
 ·rfl
 ·have hw := a4.2.1
  have e1 : atI (aBg mkA k x) (i : Int) = some (mkA k' a).1 := by rw [aC1]; exact a3
  have h7 := uY (n := a.Wheels.length) (k := k' + 1) (by omega) (by omega) hw
  simp only [gI,if_pos (show (i : Int) < (x.length : Int) by omega),qZ a1 (show k' ≤ 1000000000000000000 by omega),e1,Option.bind_some,aU (x := k' + 1) (by omega) (by omega),mkA,ne_eq,not_true_eq_false,if_false,h7,Int.not_lt.2 (show 0 ≤ k' + 1 + 1 * (a.Wheels.length : Int) by omega),aU (x := (i : Int) + 1) (by omega) (by omega)]
 ·simp only [gI,if_neg (show ¬ (x.length : Int) < (x.length : Int) by omega)]
end Go.Proofs.YtgcdbbidmfdonaaGreat
namespace Go.Proofs.YtgcdbbidmfdonaaGreat
open Go.RowKit
set_option linter.unusedVariables false
set_option maxRecDepth 100000
set_option maxHeartbeats 2000000
theorem aEp {x : dE} {k : Int} (h0 : 0 ≤ k) (hk : k ≤ 8000000000000) (h : tJ x) : jE x k = some ((oA mkA (k) x.Arbors) + 4 * x.Meshes.length,(aBg mkA (k) x.Arbors),((List.range x.Meshes.length).map fun (j : Nat) => oU ((oA mkA (k) x.Arbors) + 4 * (j : Int)))) := by
 have g0 := (h.1).1
 have b0 := aE3 (k := k) (h.1)
 have g1 := (h.2).1
 unfold jE
 simp only [aB0 (x := x.Arbors) (k := k) (by omega) (by omega) (h.1),aDp (x := x.Meshes) (k := oA mkA (k) x.Arbors) (by omega) (by omega) (h.2).1,Option.bind_some,List.length_map,List.length_range,gI,yH]
theorem aEe {x : dE} {k : Int} (h0 : 0 ≤ k) (hk : k ≤ 8000000000000) (h : tJ x) : lO ⟨(aBg mkA (k) x.Arbors),((List.range x.Meshes.length).map fun (j : Nat) => oU ((oA mkA (k) x.Arbors) + 4 * (j : Int)))⟩ k = some ((oA mkA (k) x.Arbors) + 4 * x.Meshes.length) := by
 have g0 := (h.1).1
 have b0 := aE3 (k := k) (h.1)
 have g1 := (h.2).1
 unfold lO
 simp only [aCw (x := x.Arbors) (k := k) (by omega) (by omega) (h.1),aD0 (n := x.Meshes.length) (k := oA mkA (k) x.Arbors) (by omega) (by omega) (h.2).1,Option.bind_some,List.length_map,List.length_range,gI,Int.not_lt.2 (show 0 ≤ oA mkA (k) x.Arbors by omega),Int.not_lt.2 (show 0 ≤ (oA mkA (k) x.Arbors) + 4 * x.Meshes.length by omega),if_false]
theorem zF {x : bP} {k : Int} (h0 : 0 ≤ k) (hk : k ≤ 6000000000000) (h : iD x) : gB x k = some (((((oA mkA (k) x.Works.Arbors) + 4 * x.Works.Meshes.length) + 3 * x.Calendar.Months.length) + 3 * x.Calendar.Rules.length) + 1 * x.Cam.length,(aBg mkA (k) x.Works.Arbors),((List.range x.Works.Meshes.length).map fun (j : Nat) => oU ((oA mkA (k) x.Works.Arbors) + 4 * (j : Int))),((List.range x.Calendar.Months.length).map fun (j : Nat) => lJ (((oA mkA (k) x.Works.Arbors) + 4 * x.Works.Meshes.length) + 3 * (j : Int))),((List.range x.Calendar.Rules.length).map fun (j : Nat) => fL ((((oA mkA (k) x.Works.Arbors) + 4 * x.Works.Meshes.length) + 3 * x.Calendar.Months.length) + 3 * (j : Int))),((List.range x.Cam.length).map fun (j : Nat) => mT (((((oA mkA (k) x.Works.Arbors) + 4 * x.Works.Meshes.length) + 3 * x.Calendar.Months.length) + 3 * x.Calendar.Rules.length) + 1 * (j : Int)))) := by
 have g0 := (h.2.1.1).1
 have b0 := aE3 (k := k) (h.2.1.1)
 have g1 := (h.2.1.2).1
 have g2 := (h.2.2.2.2.2.2.2.1.2.1).1
 have g3 := (h.2.2.2.2.2.2.2.1.2.2.1).1
 have g4 := (h.2.2.2.2.2.2.2.2.1).1
 unfold gB
 simp only [aEp (x := x.Works) (k := k) (by omega) (by omega) (h.2.1),sN (x := x.Calendar) (k := (oA mkA (k) x.Works.Arbors) + 4 * x.Works.Meshes.length) (by omega) (by omega) (h.2.2.2.2.2.2.2.1),vK (x := x.Cam) (k := (((oA mkA (k) x.Works.Arbors) + 4 * x.Works.Meshes.length) + 3 * x.Calendar.Months.length) + 3 * x.Calendar.Rules.length) (by omega) (by omega) (h.2.2.2.2.2.2.2.2.1).1,Option.bind_some,List.length_map,List.length_range,gI,yH]
theorem zJ {x : bP} {k : Int} (h0 : 0 ≤ k) (hk : k ≤ 6000000000000) (h : iD x) : fW ⟨x.Name,⟨(aBg mkA (k) x.Works.Arbors),((List.range x.Works.Meshes.length).map fun (j : Nat) => oU ((oA mkA (k) x.Works.Arbors) + 4 * (j : Int)))⟩,x.Minute,x.Hour,x.Escape,x.Teeth,x.Beats,⟨x.Calendar.Name,((List.range x.Calendar.Months.length).map fun (j : Nat) => lJ (((oA mkA (k) x.Works.Arbors) + 4 * x.Works.Meshes.length) + 3 * (j : Int))),((List.range x.Calendar.Rules.length).map fun (j : Nat) => fL ((((oA mkA (k) x.Works.Arbors) + 4 * x.Works.Meshes.length) + 3 * x.Calendar.Months.length) + 3 * (j : Int))),x.Calendar.Week⟩,((List.range x.Cam.length).map fun (j : Nat) => mT (((((oA mkA (k) x.Works.Arbors) + 4 * x.Works.Meshes.length) + 3 * x.Calendar.Months.length) + 3 * x.Calendar.Rules.length) + 1 * (j : Int))),x.Strike⟩ k = some (((((oA mkA (k) x.Works.Arbors) + 4 * x.Works.Meshes.length) + 3 * x.Calendar.Months.length) + 3 * x.Calendar.Rules.length) + 1 * x.Cam.length) := by
 have g0 := (h.2.1.1).1
 have b0 := aE3 (k := k) (h.2.1.1)
 have g1 := (h.2.1.2).1
 have g2 := (h.2.2.2.2.2.2.2.1.2.1).1
 have g3 := (h.2.2.2.2.2.2.2.1.2.2.1).1
 have g4 := (h.2.2.2.2.2.2.2.2.1).1
 unfold fW
 simp only [aEe (x := x.Works) (k := k) (by omega) (by omega) (h.2.1),yT (x := x.Calendar) (k := (oA mkA (k) x.Works.Arbors) + 4 * x.Works.Meshes.length) (by omega) (by omega) (h.2.2.2.2.2.2.2.1),uY (n := x.Cam.length) (k := (((oA mkA (k) x.Works.Arbors) + 4 * x.Works.Meshes.length) + 3 * x.Calendar.Months.length) + 3 * x.Calendar.Rules.length) (by omega) (by omega) (h.2.2.2.2.2.2.2.2.1).1,Option.bind_some,List.length_map,List.length_range,gI,Int.not_lt.2 (show 0 ≤ (oA mkA (k) x.Works.Arbors) + 4 * x.Works.Meshes.length by omega),Int.not_lt.2 (show 0 ≤ (((oA mkA (k) x.Works.Arbors) + 4 * x.Works.Meshes.length) + 3 * x.Calendar.Months.length) + 3 * x.Calendar.Rules.length by omega),Int.not_lt.2 (show 0 ≤ ((((oA mkA (k) x.Works.Arbors) + 4 * x.Works.Meshes.length) + 3 * x.Calendar.Months.length) + 3 * x.Calendar.Rules.length) + 1 * x.Cam.length by omega),if_false]
end Go.Proofs.YtgcdbbidmfdonaaGreat
namespace Go.Proofs.YtgcdbbidmfdonaaGreat
set_option linter.unusedVariables false
theorem aM3 : aN0 aQq := by
 unfold aQq aC2 aQl aN0 iD tJ gE wM aKh smL smS
 simp [ByteArray.size]
end Go.Proofs.YtgcdbbidmfdonaaGreat
namespace Go.Proofs.YtgcdbbidmfdonaaGreat
set_option linter.unusedVariables false
def aH9 (p q : oC) : Prop := q.Cam = p.Cam ∧ q.Months = p.Months ∧ q.Teeth = p.Teeth ∧ q.Week = p.Week
theorem aH9.refl (p : oC) : aH9 p p := ⟨rfl,rfl,rfl,rfl⟩
theorem aH9.trans {p q r : oC} (h : aH9 p q) (k : aH9 q r) : aH9 p r := ⟨k.1.trans h.1,k.2.1.trans h.2.1,k.2.2.1.trans h.2.2.1,k.2.2.2.trans h.2.2.2⟩
def xK (c : aD) (cam : List Int) (y m : Int) : Int := y % ((cam.length : Int) / c.Months.length) * c.Months.length + m - 1
theorem aPd {c : aD} {cam : List Int} (ha : aFh c cam = 0) : (cam.length : Int) / c.Months.length * c.Months.length = cam.length := by
 obtain ⟨_,_,h,_⟩ := tY ha
 exact Int.ediv_mul_cancel (Int.dvd_of_emod_eq_zero h)
theorem aCv {c : aD} {cam : List Int} (ha : aFh c cam = 0) {y m : Int} (h1 : 1 ≤ m) (h2 : m ≤ c.Months.length) : 0 ≤ xK c cam y m ∧ xK c cam y m < cam.length ∧ 0 ≤ y % ((cam.length : Int) / c.Months.length) * c.Months.length ∧ y % ((cam.length : Int) / c.Months.length) * c.Months.length ≤ cam.length - c.Months.length ∧ xK c cam y m % c.Months.length = m - 1 := by
 obtain ⟨_,_,h,k1,k2⟩ := tY ha
 have e := aPd ha
 unfold xK
 have a1 := Int.emod_nonneg y (show (cam.length : Int) / c.Months.length ≠ 0 by omega)
 have a2 := Int.emod_lt_of_pos y (show 0 < (cam.length : Int) / c.Months.length by omega)
 generalize y % ((cam.length : Int) / c.Months.length) = q at *
 generalize (cam.length : Int) / c.Months.length = k at *
 have b1 : 0 ≤ q * (c.Months.length : Int) := Int.mul_nonneg a1 (by omega)
 have b2 : q * (c.Months.length : Int) ≤ (k - 1) * c.Months.length := Int.mul_le_mul_of_nonneg_right (by omega) (by omega)
 rw [Int.sub_mul,e] at b2
 refine ⟨by omega,by omega,b1,by omega,?_⟩
 rw [show q * (c.Months.length : Int) + m - 1 = (m - 1) + q * (c.Months.length : Int) by omega,Int.add_mul_emod_self_right]
 exact Int.emod_eq_of_lt (by omega) (by omega)
end Go.Proofs.YtgcdbbidmfdonaaGreat
namespace Go.Proofs.YtgcdbbidmfdonaaGreat
set_option linter.unusedVariables false
end Go.Proofs.YtgcdbbidmfdonaaGreat
namespace Go.Proofs.YtgcdbbidmfdonaaGreat
set_option linter.unusedVariables false
set_option maxRecDepth 100000
end Go.Proofs.YtgcdbbidmfdonaaGreat
namespace Go.Proofs.YtgcdbbidmfdonaaGreat
set_option linter.unusedVariables false
set_option maxRecDepth 100000
end Go.Proofs.YtgcdbbidmfdonaaGreat
namespace Go.Proofs.YtgcdbbidmfdonaaGreat
set_option linter.unusedVariables false
set_option maxRecDepth 100000
theorem aPf {xs : List Int} (h : ∀ v ∈ xs,1 ≤ v ∧ v ≤ 60) (hl : 1 ≤ xs.length ∧ xs.length ≤ 260) : aLr xs = true := by
 unfold aLr btw
 rw [Bool.and_eq_true,decide_eq_true_eq,List.all_eq_true]
 exact ⟨fun v hv => decide_eq_true (h v hv),hl⟩
theorem aKi {c : aD} (hc : sH c = true) {a st ys m : Int} (a0 : 0 ≤ a) (a1 : a ≤ 260) (s0 : 1 ≤ st) (s1 : st ≤ 260) (y1 : ys ≤ 1000000) (m0 : 0 ≤ m) (m1 : m < c.Months.length) : Ok (eZ c a st ys m) (fun r => 1 ≤ r ∧ r ≤ 60) := by
 have hm := tD (c := c) m0 m1
 have hq := aNu hc hm.2
 unfold eZ
 refine bN (P := fun _ => True) ?_ fun v7 _ => ?_
 ·refine dH (I := fun (s : Int × Int × Int) => 0 ≤ s.2.2 ∧ s.2.2 ≤ 1000260) (m := fun s => (1000260 - s.2.2).toNat) ?_ _ ⟨a0,by dsimp only; omega⟩ (by dsimp only; omega)
  rintro ⟨l,al,y⟩ ⟨i0,i1⟩
  dsimp only at i0 i1 ⊢
  refine dF (fun hy => ?_) fun _ => aH (.inr ⟨_,rfl,trivial⟩)
  rw [sK hc i0,Option.bind_some]
  refine bN (P := fun _ => True) (dF (fun _ => aH trivial) fun _ => aH trivial) fun v6 _ => aH (.inl ⟨_,rfl,?_,?_⟩)
  ·dsimp only; rw [aU (x := y + st) (by omega) (by omega)]; omega
  ·dsimp only; rw [aU (x := y + st) (by omega) (by omega)]; omega
 ·rw [hm.1,Option.bind_some]
  refine dF (fun _ => aH hq.2) fun _ => dF (fun _ => aH hq.1) fun _ => ?_
  unfold qH
  refine bN (P := fun r => 1 ≤ r ∧ r ≤ 60) (dF (fun _ => aH hq.2) fun _ => aH hq.1) fun v h => aH h
theorem aJr {c : aD} (hc : sH c = true) {y : Int} (y0 : 1 ≤ y) (y1 : y ≤ 260) : Ok (hH c y) (fun r => 0 ≤ r ∧ r ≤ 520000) := by
 obtain ⟨_,_,hr,_,_,hb,hcy⟩ := gA hc
 obtain ⟨e,n0,n1,_⟩ := aFk hc
 have hg := lK (n := cyc c.Rules) (d := y) (by omega)
 have hq := qR (a := cyc c.Rules) (g := (Int.gcd (cyc c.Rules) y : Int)) (by omega) (by omega)
 unfold hH
 rw [rJ (by omega),if_pos ⟨hb,hcy⟩,Option.bind_some,rK (by dsimp only; omega) (by omega) (by omega),Option.bind_some]
 refine iH (by dsimp only; omega) (aH ?_)
 dsimp only
 rw [Int.tdiv_eq_ediv_of_nonneg (by omega),aU (x := cyc c.Rules / _) (by omega) (by omega)]
 have h1 : 0 ≤ cyc c.Rules / (Int.gcd (cyc c.Rules) y : Int) * y := Int.mul_nonneg hq.1 (by omega)
 have h2 : cyc c.Rules / (Int.gcd (cyc c.Rules) y : Int) * y ≤ 2000 * 260 := Int.mul_le_mul (by omega) y1 (by omega) (by omega)
 rw [aU (by omega) (by omega)]
 omega
theorem aMy {c : aD} {cam : List Int} (ha : aFh c cam = 0) {y m : Int} (y0 : 0 ≤ y) (m0 : 0 ≤ m) (m1 : m < c.Months.length) : nA c cam y m = some (⟨y,m + 1,cam.getD (xK c cam y (m + 1)).toNat 0,aK0 c (iN c y) m⟩,decide (cam.getD (xK c cam y (m + 1)).toNat 0 ≠ aK0 c (iN c y) m)) := by
 obtain ⟨hc,hm,h,k1,k2⟩ := tY ha
 have hl := (uV hm).2
 have hq := (gA hc).2.1
 have n := aCv ha (y := y) (m := m + 1) (by omega) (by omega)
 unfold nA
 rw [gW (by omega),aDs hc y0 m0 m1,Option.bind_some,Int.tdiv_eq_ediv_of_nonneg (by omega),aU (x := (cam.length : Int) / _) (by omega) (by omega),gW (by omega),Int.tmod_eq_emod_of_nonneg y0,aU (x := _ * _) (by omega) (by omega),aU (x := _ + m) (by omega) (by omega),aU (x := m + 1) (by omega) (by omega)]
 have e : y % ((cam.length : Int) / c.Months.length) * c.Months.length + m = xK c cam y (m + 1) := by unfold xK; omega
 rw [e]
 have h3 : atI cam (xK c cam y (m + 1)) = some (cam.getD (xK c cam y (m + 1)).toNat 0) := by
  unfold atI
  rw [if_pos n.1,List.getElem?_eq_getElem (by omega)]
  simp [List.getD_eq_getElem?_getD,List.getElem?_eq_getElem (show (xK c cam y (m + 1)).toNat < cam.length by omega)]
 rw [h3,Option.bind_some]
theorem aMs {c : aD} {cam : List Int} (ha : aFh c cam = 0) {n : Int} (n1 : n ≤ 520000) : Ok (kM c cam n) (fun _ => True) := by
 have hc := (tY ha).1
 have hq := (gA hc).2.1
 unfold kM
 refine bN (P := fun _ => True) ?_ fun v _ => aH trivial
 refine dH (I := fun (s : Int × Int) => 0 ≤ s.2 ∧ s.2 ≤ 520000) (m := fun s => (520000 - s.2).toNat) ?_ _ ⟨by dsimp only; omega,by dsimp only; omega⟩ (by dsimp only; omega)
 rintro ⟨k,y⟩ ⟨i0,i1⟩
 dsimp only at i0 i1 ⊢
 refine dF (fun hy => ?_) fun _ => aH (.inr ⟨_,rfl,trivial⟩)
 refine bN (P := fun _ => True) ?_ fun v16 _ => aH (.inl ⟨_,rfl,?_,?_⟩)
 ·refine dH (I := fun (s : Int × Int) => 0 ≤ s.2 ∧ s.2 ≤ c.Months.length) (m := fun s => (c.Months.length - s.2).toNat) ?_ _ ⟨by dsimp only; omega,by dsimp only; omega⟩ (by dsimp only; omega)
  rintro ⟨k2,m⟩ ⟨j0,j1⟩
  dsimp only at j0 j1 ⊢
  refine dF (fun hm => ?_) fun _ => aH (.inr ⟨_,rfl,trivial⟩)
  rw [aMy ha i0 j0 hm,Option.bind_some]
  refine bN (P := fun _ => True) (dF (fun _ => aH trivial) fun _ => aH trivial) fun v15 _ => aH (.inl ⟨_,rfl,?_,?_⟩)
  ·dsimp only; rw [aU (x := m + 1) (by omega) (by omega)]; omega
  ·dsimp only; rw [aU (x := m + 1) (by omega) (by omega)]; omega
 ·dsimp only; rw [aU (x := y + 1) (by omega) (by omega)]; omega
 ·dsimp only; rw [aU (x := y + 1) (by omega) (by omega)]; omega
theorem aQh {c : aD} {cam : List Int} (hc : sH c = true) (hm : aLr cam = true) (hz : (cam.length : Int) % c.Months.length = 0) : aFh c cam = 0 := by
 rw [aMx hc hm,if_pos hz]
theorem aIj {c : aD} (hc : sH c = true) (y : Int) : Ok (kH c y) (fun r => r.2.2 = 0 → aFh c r.1 = 0) := by
 have hm := (gA hc).2.1
 obtain ⟨_,_,hr,_⟩ := gA hc
 unfold kH nJ
 rw [wF (by omega) (by omega),hc,Option.bind_some,iW,Option.bind_some]
 simp only [Bool.not_true,Bool.false_eq_true,if_false]
 refine bN (P := fun b => b = true → (1 ≤ y ∧ y ≤ 260) ∧ y * c.Months.length ≤ 260) (dF (fun hb => ?_) fun hb => aH (by simp)) fun b hb => dF (fun hn => aH (by simp)) fun hn => ?_
 ·have hy := of_decide_eq_true hb
  have h1 : 0 ≤ y * (c.Months.length : Int) := Int.mul_nonneg (by omega) (by omega)
  have h2 : y * (c.Months.length : Int) ≤ 260 * 20 := Int.mul_le_mul hy.2 (by omega) (by omega) (by omega)
  rw [aU (by omega) (by omega)]
  exact aH fun h => ⟨hy,of_decide_eq_true h⟩
 ·have hb' : b = true := by simpa using hn
  obtain ⟨⟨y0,y1⟩,y2⟩ := hb hb'
  refine bN (aJr hc y0 y1) fun v3 h3 => ?_
  refine bN (P := fun xs => (xs.length : Int) = y * c.Months.length ∧ ∀ v ∈ xs,1 ≤ v ∧ v ≤ 60) ?_ fun v20 h20 => ?_
  ·refine dH (I := fun (s : Int × List Int) => (0 ≤ s.1 ∧ s.1 ≤ y) ∧ (s.2.length : Int) = s.1 * c.Months.length ∧ ∀ v ∈ s.2,1 ≤ v ∧ v ≤ 60) (m := fun s => (y - s.1).toNat) ?_ _ ⟨⟨by dsimp only; omega,by dsimp only; omega⟩,by simp,fun v hv => by cases hv⟩ (by dsimp only; omega)
   rintro ⟨k,xs⟩ ⟨⟨i0,i1⟩,il,iv⟩
   dsimp only at i0 i1 il iv ⊢
   refine dF (fun hk => ?_) fun hk => aH (.inr ⟨_,rfl,?_,iv⟩)
   ·have kb : k * (c.Months.length : Int) ≤ (y - 1) * c.Months.length := Int.mul_le_mul_of_nonneg_right (by omega) (by omega)
    have knS : 0 ≤ k * (c.Months.length : Int) := Int.mul_nonneg i0 (by omega)
    rw [Int.sub_mul] at kb
    refine bN (P := fun (zs : List Int) => (zs.length : Int) = k * c.Months.length + c.Months.length ∧ ∀ v ∈ zs,1 ≤ v ∧ v ≤ 60) ?_ fun v19 h19 => aH (.inl ⟨_,rfl,⟨⟨?_,?_⟩,?_,h19.2⟩,?_⟩)
    ·refine dH (I := fun (s : Int × List Int) => (0 ≤ s.1 ∧ s.1 ≤ c.Months.length) ∧ (s.2.length : Int) = k * c.Months.length + s.1 ∧ ∀ v ∈ s.2,1 ≤ v ∧ v ≤ 60) (m := fun s => (c.Months.length - s.1).toNat) ?_ _ ⟨⟨by dsimp only; omega,by dsimp only; omega⟩,by dsimp only; omega,iv⟩ (by dsimp only; omega)
     rintro ⟨m,zs⟩ ⟨⟨j0,j1⟩,jl,jv⟩
     dsimp only at j0 j1 jl jv ⊢
     refine dF (fun hmm => ?_) fun hmm => aH (.inr ⟨_,rfl,by omega,jv⟩)
     refine bN (aKi hc i0 (by omega) y0 y1 (by omega) j0 hmm) fun v17 h17 => iH (by simp; omega) (aH (.inl ⟨_,rfl,⟨⟨?_,?_⟩,?_,?_⟩,?_⟩))
     all_goals (dsimp only; try rw [aU (x := m + 1) (by omega) (by omega)])
     ·omega
     ·omega
     ·simp; omega
     ·intro v hv
      rcases List.mem_append.1 hv with hv | hv
      ·exact jv v hv
      ·rw [List.mem_singleton.1 hv]; exact h17
     ·omega
    all_goals (dsimp only; try rw [aU (x := k + 1) (by omega) (by omega)])
    ·omega
    ·omega
    ·rw [Int.add_mul,Int.one_mul]; exact h19.1
    ·omega
   ·rw [il,show k = y by omega]
  ·have hp : 0 < y * (c.Months.length : Int) := Int.mul_pos (by omega) (by omega)
   have hcam := aPf h20.2 (by omega)
   have ha : aFh c v20 = 0 := aQh hc hcam (by rw [h20.1,Int.mul_emod_left])
   exact bN (aMs ha h3.2) fun v21 _ => aH fun _ => ha
end Go.Proofs.YtgcdbbidmfdonaaGreat
namespace Go.Proofs.YtgcdbbidmfdonaaGreat
set_option linter.unusedVariables false
set_option maxRecDepth 100000
theorem vA {α : Type} {xs : List α} {k : Nat} : xD xs (k : Int) (xs.length : Int) = xs.drop k := by
 unfold xD
 rw [List.take_of_length_le (by simp)]; simp
theorem qJ {α : Type} {xs : List α} {k : Nat} (h : k < xs.length) : xs.drop k = xs[k] :: xs.drop (k + 1) := List.drop_eq_getElem_cons h
theorem qM {α : Type} {xs : List α} {k : Nat} (h : k < xs.length) : xs.take (k + 1) = xs.take k ++ [xs[k]] := by rw [List.take_succ_eq_append_getElem h]
theorem aNm {out : List Int} {x : Int} {k : Nat} (hs : out.Pairwise (· ≤ ·)) (h1 : ∀ a ∈ out.take k,a ≤ x) (h2 : ∀ b ∈ out.drop k,x < b) : ((out.take k ++ [x]) ++ out.drop k).Pairwise (· ≤ ·) ∧ ((out.take k ++ [x]) ++ out.drop k).Perm (out ++ [x]) := by
 have hs' := hs
 rw [← List.take_append_drop k out,List.pairwise_append] at hs'
 obtain ⟨p1,p2,p3⟩ := hs'
 constructor
 ·rw [List.pairwise_append,List.pairwise_append]
  refine ⟨⟨p1,by simp,fun a ha b hb => by rw [List.mem_singleton.1 hb]; exact h1 a ha⟩,p2,fun a ha b hb => ?_⟩
  rcases List.mem_append.1 ha with ha | ha
  ·exact p3 a ha b hb
  ·rw [List.mem_singleton.1 ha]; have := h2 b hb; omega
 ·rw [List.append_assoc]
  have e : (out.take k ++ ([x] ++ out.drop k)).Perm (out.take k ++ (out.drop k ++ [x])) := List.Perm.append_left _ List.perm_append_comm
  rw [← List.append_assoc (List.take k out) (List.drop k out),List.take_append_drop] at e
  exact e
theorem aK7 {xs : List Int} (hl : xs.length ≤ 1000) : Ok (lZ xs) (fun ys => ys.Perm xs ∧ ys.Pairwise (· ≤ ·)) := by
 unfold lZ
 refine bN (P := fun (ys : List Int) => ys.Perm xs ∧ ys.Pairwise (· ≤ ·)) ?_ fun v h => aH h
 refine dH (I := fun (s : Int × List Int) => (0 ≤ s.1 ∧ s.1 ≤ xs.length) ∧ s.2.Perm (xs.take s.1.toNat) ∧ s.2.Pairwise (· ≤ ·)) (m := fun s => (xs.length - s.1).toNat) ?_ _ ⟨⟨by dsimp only; omega,by dsimp only; omega⟩,by simp, .nil⟩ (by dsimp only; omega)
 rintro ⟨i,out⟩ ⟨⟨i0,i1⟩,ip,is⟩
 dsimp only at i0 i1 ip is ⊢
 refine dF (fun hi => ?_) fun hi => aH (.inr ⟨_,rfl,?_,is⟩)
 ·obtain ⟨n,rfl⟩ : ∃ n : Nat,i = n := ⟨i.toNat,by omega⟩
  have hn : n < xs.length := by omega
  rw [Int.toNat_natCast] at ip
  have hol : out.length = n := by have := ip.length_eq; simp at this; omega
  simp only [fB hn,Option.bind_some]
  refine bN (P := fun (zs : List Int) => zs.Perm (out ++ [xs[n]]) ∧ zs.Pairwise (· ≤ ·)) ?_ fun v34 h34 => aH (.inl ⟨_,rfl,⟨⟨?_,?_⟩,?_,h34.2⟩,?_⟩)
  ·refine bN (P := fun (k : Int) => (0 ≤ k ∧ k ≤ out.length) ∧ (∀ b ∈ out.drop k.toNat,xs[n] < b) ∧ ∀ a ∈ out.take k.toNat,a ≤ xs[n]) ?_ fun k hk => ?_
   ·refine dH (I := fun (k : Int) => (0 ≤ k ∧ k ≤ out.length) ∧ ∀ b ∈ out.drop k.toNat,xs[n] < b) (m := fun k => k.toNat) ?_ _ ⟨⟨by omega,by omega⟩,by simp⟩ (by omega)
    rintro k ⟨⟨k0,k1⟩,kd⟩
    refine bN (P := fun b => b = decide (0 < k ∧ xs[n] < out.getD (k - 1).toNat 0)) (dF (fun hk => ?_) fun hk => aH (by symm; exact decide_eq_false fun h => hk h.1)) fun b hb => ?_
    ·rw [aU (x := k - 1) (by omega) (by omega),show k - 1 = ((k - 1).toNat : Int) by omega,fB (show (k - 1).toNat < out.length by omega),Option.bind_some]
     refine aH ?_
     rw [show ((k - 1).toNat : Int).toNat = (k - 1).toNat by omega,List.getD_eq_getElem?_getD,List.getElem?_eq_getElem (show (k - 1).toNat < out.length by omega),Option.getD_some,decide_eq_decide]
     omega
    ·subst hb
     refine dF (fun hb => ?_) fun hb => aH (.inr ⟨_,rfl,⟨k0,k1⟩,kd,?_⟩)
     ·have hb' := of_decide_eq_true hb
      refine aH (.inl ⟨_,rfl,⟨⟨?_,?_⟩,?_⟩,?_⟩)
      all_goals try rw [aU (x := k - 1) (by omega) (by omega)]
      ·omega
      ·omega
      ·have hlt : (k - 1).toNat < out.length := by omega
       rw [qJ hlt]
       intro b hb2
       rcases List.mem_cons.1 hb2 with rfl | hb2
       ·have := hb'.2
        rwa [List.getD_eq_getElem?_getD,List.getElem?_eq_getElem hlt,Option.getD_some] at this
       ·rw [show (k - 1).toNat + 1 = k.toNat by omega] at hb2; exact kd b hb2
      ·omega
     ·intro a ha
      have hk : k ≠ 0 := by
       intro e; subst e; simp at ha
      have hlt : (k - 1).toNat < out.length := by omega
      have hx : out[(k - 1).toNat] ≤ xs[n] := by
       have : ¬ (0 < k ∧ xs[n] < out.getD (k - 1).toNat 0) := by simpa using hb
       rw [List.getD_eq_getElem?_getD,List.getElem?_eq_getElem hlt,Option.getD_some] at this
       omega
      rw [show k.toNat = (k - 1).toNat + 1 by omega,qM hlt] at ha
      rcases List.mem_append.1 ha with ha | ha
      ·have hp := is
       rw [← List.take_append_drop (k - 1).toNat out,List.pairwise_append] at hp
       have := hp.2.2 a ha out[(k - 1).toNat] (by rw [qJ hlt]; exact List.mem_cons_self ..)
       omega
      ·rw [List.mem_singleton.1 ha]; exact hx
   ·obtain ⟨⟨k0,k1⟩,kd,ka⟩ := hk
    obtain ⟨m,rfl⟩ : ∃ m : Nat,k = m := ⟨k.toNat,by omega⟩
    rw [Int.toNat_natCast] at kd ka
    refine iH (by omega) ?_
    rw [aOm,vA,aNr (by rw [List.length_take]; omega),Option.bind_some]
    refine iH (by simp; omega) (iH (by omega) (iH (by simp; omega) (aH ?_)))
    have := aNm is ka kd
    exact ⟨this.2,this.1⟩
  all_goals (dsimp only; try rw [aU (x := (n : Int) + 1) (by omega) (by omega)])
  ·omega
  ·omega
  ·rw [show ((n : Int) + 1).toNat = n + 1 by omega,qM hn]
   exact h34.1.trans (ip.append_right _)
  ·omega
 ·rw [show i.toNat = xs.length by omega,List.take_length] at ip
  exact ip
end Go.Proofs.YtgcdbbidmfdonaaGreat
namespace Go.Proofs.YtgcdbbidmfdonaaGreat
set_option linter.unusedVariables false
set_option maxRecDepth 100000
abbrev kG (xs : List aP) : Prop := xs.Pairwise fun a b => a.value ≤ b.value
theorem gD {xs : List aP} (h : kG xs) {i j : Nat} (hij : i ≤ j) (hj : j < xs.length) : (xs[i]'(by omega)).value ≤ xs[j].value := by
 rcases Nat.lt_or_ge i j with q | q
 ·exact List.pairwise_iff_getElem.1 h i j (by omega) hj q
 ·have : i = j := by omega
  subst this; exact Int.le_refl _
theorem xR {α : Type} {xs : List α} {k : Nat} {x : α} (h : x ∈ xs.drop k) : ∃ (j : Nat) (hj : j < xs.length),k ≤ j ∧ xs[j] = x := by
 obtain ⟨i,hi,rfl⟩ := List.getElem_of_mem h
 have hi' := hi
 rw [List.length_drop] at hi'
 exact ⟨k + i,by omega,by omega,by rw [List.getElem_drop]⟩
theorem aMl {a b : List aP} (ha : kG a) (hb : kG b) (hl : a.length + b.length ≤ 100000) : Ok (nH a b) (fun r => r.Perm (a ++ b) ∧ kG r) := by
 unfold nH
 have grow : ∀ {out : List aP} {x : aP},kG out → (∀ y ∈ out,y.value ≤ x.value) → kG (out ++ [x]) := fun {out x} h1 h2 => by
  show List.Pairwise _ _
  rw [List.pairwise_append]
  exact ⟨h1,by simp,fun y hy z hz => by rw [List.mem_singleton.1 hz]; exact h2 y hy⟩
 refine bN (P := fun (r : Int × List aP) => (0 ≤ r.1 ∧ r.1 ≤ a.length) ∧ r.2.Perm (a.take r.1.toNat ++ b) ∧ kG r.2 ∧ ∀ y ∈ r.2, ∀ z ∈ a.drop r.1.toNat,y.value ≤ z.value) ?_ fun v35 h35 => ?_
 ·refine dH (I := fun (s : Int × Int × List aP) => ((0 ≤ s.1 ∧ s.1 ≤ a.length) ∧ 0 ≤ s.2.1 ∧ s.2.1 ≤ b.length) ∧ s.2.2.Perm (a.take s.1.toNat ++ b.take s.2.1.toNat) ∧ kG s.2.2 ∧ (∀ y ∈ s.2.2, ∀ z ∈ a.drop s.1.toNat,y.value ≤ z.value) ∧ ∀ y ∈ s.2.2, ∀ z ∈ b.drop s.2.1.toNat,y.value ≤ z.value) (m := fun s => (b.length - s.2.1).toNat) ?_ _ ⟨⟨⟨by dsimp only; omega,by dsimp only; omega⟩,by dsimp only; omega,by dsimp only; omega⟩,by simp, .nil,fun y hy => by simp at hy,fun y hy => by simp at hy⟩ (by dsimp only; omega)
  rintro ⟨i,k,out⟩ ⟨⟨⟨i0,i1⟩,k0,k1⟩,hp,hs,h1,h2⟩
  dsimp only at i0 i1 k0 k1 hp hs h1 h2 ⊢
  refine dF (fun hk => ?_) fun hk => aH (.inr ⟨_,rfl,⟨i0,i1⟩,?_,hs,h1⟩)
  ·obtain ⟨m,rfl⟩ : ∃ m : Nat,k = m := ⟨k.toNat,by omega⟩
   have hm : m < b.length := by omega
   rw [Int.toNat_natCast] at hp h2
   simp only [fB hm,Option.bind_some]
   refine bN (P := fun (r : Int × List aP) => (0 ≤ r.1 ∧ r.1 ≤ a.length) ∧ r.2.Perm (a.take r.1.toNat ++ b.take (m + 1)) ∧ kG r.2 ∧ (∀ y ∈ r.2, ∀ z ∈ a.drop r.1.toNat,y.value ≤ z.value) ∧ ∀ y ∈ r.2, ∀ z ∈ b.drop (m + 1),y.value ≤ z.value) ?_ fun v34 h34 => aH (.inl ⟨_,rfl,⟨⟨h34.1,?_,?_⟩,?_,h34.2.2.1,h34.2.2.2.1,?_⟩,?_⟩)
   ·refine bN (P := fun (r : Int × List aP) => (0 ≤ r.1 ∧ r.1 ≤ a.length) ∧ r.2.Perm (a.take r.1.toNat ++ b.take m) ∧ kG r.2 ∧ (∀ y ∈ r.2, ∀ z ∈ a.drop r.1.toNat,y.value ≤ z.value) ∧ (∀ y ∈ r.2, ∀ z ∈ b.drop m,y.value ≤ z.value) ∧ ∀ z ∈ a.drop r.1.toNat,b[m].value ≤ z.value) ?_ fun v31 h31 => ?_
    ·refine dH (I := fun (s : Int × List aP) => (0 ≤ s.1 ∧ s.1 ≤ a.length) ∧ s.2.Perm (a.take s.1.toNat ++ b.take m) ∧ kG s.2 ∧ (∀ y ∈ s.2, ∀ z ∈ a.drop s.1.toNat,y.value ≤ z.value) ∧ ∀ y ∈ s.2, ∀ z ∈ b.drop m,y.value ≤ z.value) (m := fun s => (a.length - s.1).toNat) ?_ _ ⟨⟨i0,i1⟩,hp,hs,h1,h2⟩ (by dsimp only; omega)
     rintro ⟨i,out⟩ ⟨⟨i0,i1⟩,hp,hs,h1,h2⟩
     dsimp only at i0 i1 hp hs h1 h2 ⊢
     obtain ⟨n,rfl⟩ : ∃ n : Nat,i = n := ⟨i.toNat,by omega⟩
     rw [Int.toNat_natCast] at hp h1
     by_cases hi : n < a.length
     ·rw [if_pos (by omega)]
      simp only [fB hi,Option.bind_some]
      by_cases hc : a[n].value ≤ b[m].value
      ·rw [decide_eq_true hc,if_pos rfl]
       have hol : out.length = n + m := by
        have := hp.length_eq
        rw [List.length_append,List.length_take,List.length_take] at this
        omega
       refine iH (by simp; omega) (aH (.inl ⟨_,rfl,⟨⟨?_,?_⟩,?_,?_,?_,?_⟩,?_⟩))
       all_goals (dsimp only; (try rw [aU (x := (n : Int) + 1) (by omega) (by omega)]); (try rw [show ((n : Int) + 1).toNat = n + 1 by omega]))
       ·omega
       ·omega
       ·rw [qM hi]
        have e : (out ++ [a[n]]).Perm ((a.take n ++ b.take m) ++ [a[n]]) := hp.append_right _
        refine e.trans ?_
        rw [List.append_assoc,List.append_assoc]
        exact List.Perm.append_left _ List.perm_append_comm
       ·exact grow hs fun y hy => h1 y hy _ (by rw [qJ hi]; exact List.mem_cons_self ..)
       ·intro y hy z hz
        obtain ⟨j,hj,hjn,rfl⟩ := xR hz
        rcases List.mem_append.1 hy with hy | hy
        ·exact h1 y hy _ (by rw [qJ hi]; exact List.mem_cons_of_mem _ hz)
        ·rw [List.mem_singleton.1 hy]; exact gD ha (by omega) hj
       ·intro y hy z hz
        rcases List.mem_append.1 hy with hy | hy
        ·exact h2 y hy z hz
        ·rw [List.mem_singleton.1 hy]
         obtain ⟨j,hj,hjn,rfl⟩ := xR hz
         have := gD hb hjn hj
         omega
       ·omega
      ·rw [decide_eq_false hc,if_neg (by decide)]
       refine aH (.inr ⟨_,rfl,⟨i0,i1⟩,by rw [Int.toNat_natCast]; exact hp,hs,by rw [Int.toNat_natCast]; exact h1,h2,fun z hz => ?_⟩)
       rw [Int.toNat_natCast] at hz
       obtain ⟨j,hj,hjn,rfl⟩ := xR hz
       have := gD ha hjn hj
       omega
     ·rw [if_neg (by omega)]
      refine aH (.inr ⟨_,rfl,⟨i0,i1⟩,by rw [Int.toNat_natCast]; exact hp,hs,by rw [Int.toNat_natCast]; exact h1,h2,fun z hz => ?_⟩)
      rw [Int.toNat_natCast,List.drop_of_length_le (by omega)] at hz
      cases hz
    ·obtain ⟨⟨q0,q1⟩,qp,qs,g1,g2,g3⟩ := h31
     have hol : v31.2.length = v31.1.toNat + m := by
      have := qp.length_eq
      rw [List.length_append,List.length_take,List.length_take] at this
      omega
     refine iH (by simp; omega) (aH ⟨⟨q0,q1⟩,?_,?_,?_,?_⟩)
     ·rw [qM hm, ← List.append_assoc]
      exact qp.append_right _
     ·exact grow qs fun y hy => g2 y hy _ (by rw [qJ hm]; exact List.mem_cons_self ..)
     ·intro y hy z hz
      rcases List.mem_append.1 hy with hy | hy
      ·exact g1 y hy z hz
      ·rw [List.mem_singleton.1 hy]; exact g3 z hz
     ·intro y hy z hz
      rcases List.mem_append.1 hy with hy | hy
      ·exact g2 y hy z (by rw [qJ hm]; exact List.mem_cons_of_mem _ hz)
      ·rw [List.mem_singleton.1 hy]
       obtain ⟨j,hj,hjn,rfl⟩ := xR hz
       exact gD hb (by omega) hj
   all_goals (dsimp only; try rw [aU (x := (m : Int) + 1) (by omega) (by omega)])
   ·omega
   ·omega
   ·rw [show ((m : Int) + 1).toNat = m + 1 by omega]; exact h34.2.1
   ·rw [show ((m : Int) + 1).toNat = m + 1 by omega]; exact h34.2.2.2.2
   ·omega
  ·rw [show k.toNat = b.length by omega,List.take_length] at hp
   exact hp
 ·obtain ⟨⟨q0,q1⟩,qp,qs,g1⟩ := h35
  obtain ⟨n,hn⟩ : ∃ n : Nat,v35.1 = n := ⟨v35.1.toNat,by omega⟩
  rw [hn,Int.toNat_natCast] at qp g1
  have hol : v35.2.length = n + b.length := by
   have := qp.length_eq
   rw [List.length_append,List.length_take] at this
   omega
  rw [hn]
  refine iH (by omega) ?_
  rw [vA]
  refine iH (by simp; omega) (aH ⟨?_,?_⟩)
  ·have e : (v35.2 ++ a.drop n).Perm ((a.take n ++ b) ++ a.drop n) := qp.append_right _
   refine e.trans ?_
   rw [List.append_assoc]
   have e2 : (a.take n ++ (b ++ a.drop n)).Perm (a.take n ++ (a.drop n ++ b)) := List.Perm.append_left _ List.perm_append_comm
   rw [← List.append_assoc (a.take n) (a.drop n) b,List.take_append_drop] at e2
   exact e2
  ·show List.Pairwise _ _
   rw [List.pairwise_append]
   refine ⟨qs,?_,g1⟩
   have := ha
   unfold kG at this
   rw [← List.take_append_drop n a,List.pairwise_append] at this
   exact this.2.1
theorem aCb : ∀ (f : Nat) {xs : List aP},xs.length ≤ f → xs.length ≤ 100000 → Ok (iB (f + 1) xs) (fun r => r.Perm xs ∧ kG r)
 | f,xs,hf,hl => by
  unfold iB
  refine dF (fun h2 => aH ⟨.refl _,?_⟩) fun h2 => ?_
  ·match xs,h2 with
   | [],_ => exact .nil
   | [x],_ => exact List.pairwise_singleton ..
   | x :: y :: r,h => simp at h; omega
  ·obtain ⟨m,hm⟩ : ∃ m : Nat,(xs.length : Int).tdiv 2 = m := ⟨xs.length / 2,by rw [Int.tdiv_eq_ediv_of_nonneg (by omega)]; omega⟩
   have hm2 : m = xs.length / 2 := by rw [Int.tdiv_eq_ediv_of_nonneg (by omega)] at hm; omega
   rw [hm,aU (x := (m : Int)) (by omega) (by omega)]
   refine iH (by omega) (iH (by omega) ?_)
   rw [aOm,vA]
   obtain ⟨g,rfl⟩ : ∃ g,f = g + 1 := ⟨f - 1,by omega⟩
   refine bN (aCb g (xs := xs.take m) (by rw [List.length_take]; omega) (by rw [List.length_take]; omega)) fun v4 h4 => ?_
   refine bN (aCb g (xs := xs.drop m) (by rw [List.length_drop]; omega) (by rw [List.length_drop]; omega)) fun v5 h5 => ?_
   have l4 := h4.1.length_eq
   have l5 := h5.1.length_eq
   rw [List.length_take] at l4
   rw [List.length_drop] at l5
   refine bN (aMl h4.2 h5.2 (by omega)) fun v6 h6 => aH ⟨?_,h6.2⟩
   have := h6.1.trans ((h4.1.append h5.1))
   rwa [List.take_append_drop] at this
theorem aOj {xs : List aP} (hl : xs.length ≤ 100000) : Ok (iB aIx xs) (fun r => r.Perm xs ∧ kG r) := by
 have e : aIx = (aIx - 1) + 1 := by unfold aIx; rfl
 rw [e]
 exact aCb _ (by unfold aIx; omega) hl
theorem aLy {xs : List aP} (hs : kG xs) (hl : xs.length ≤ 100000) (v : Int) : Ok (mZ xs v) (fun k => (0 ≤ k ∧ k ≤ xs.length) ∧ (∀ (i : Nat) (hi : i < xs.length),(i : Int) < k → xs[i].value < v) ∧ ∀ (i : Nat) (hi : i < xs.length),k ≤ (i : Int) → v ≤ xs[i].value) := by
 unfold mZ
 refine bN (P := fun (k : Int) => (0 ≤ k ∧ k ≤ xs.length) ∧ (∀ (i : Nat) (hi : i < xs.length),(i : Int) < k → xs[i].value < v) ∧ ∀ (i : Nat) (hi : i < xs.length),k ≤ (i : Int) → v ≤ xs[i].value) ?_ fun k h => aH h
 refine dH (I := fun (s : Int × Int) => (0 ≤ s.1 ∧ s.1 ≤ s.2 ∧ s.2 ≤ xs.length) ∧ (∀ (i : Nat) (hi : i < xs.length),(i : Int) < s.1 → xs[i].value < v) ∧ ∀ (i : Nat) (hi : i < xs.length),s.2 ≤ (i : Int) → v ≤ xs[i].value) (m := fun s => (s.2 - s.1).toNat) ?_ _ ⟨⟨by dsimp only; omega,by dsimp only; omega,by dsimp only; omega⟩,fun i hi h => by dsimp only at h; omega,fun i hi h => by dsimp only at h; omega⟩ (by dsimp only; omega)
 rintro ⟨a,b⟩ ⟨⟨a0,ab,b1⟩,h1,h2⟩
 dsimp only at a0 ab b1 h1 h2 ⊢
 refine dF (fun h => ?_) fun h => aH (.inr ⟨_,rfl,⟨a0,by omega⟩,h1,fun i hi hh => h2 i hi (by omega)⟩)
 have e : w64 ((w64 (a + b)).tdiv 2) = (a + b) / 2 := by
  rw [aU (x := a + b) (by omega) (by omega),Int.tdiv_eq_ediv_of_nonneg (by omega),aU (by omega) (by omega)]
 obtain ⟨m,hm⟩ : ∃ m : Nat,(a + b) / 2 = m := ⟨((a + b) / 2).toNat,by omega⟩
 rw [e,hm,fB (show m < xs.length by omega),Option.bind_some,aU (x := (m : Int) + 1) (by omega) (by omega)]
 refine dF (fun hv => aH (.inl ⟨_,rfl,⟨⟨by dsimp only; omega,by dsimp only; omega,b1⟩,fun i hi hh => ?_,h2⟩,by dsimp only; omega⟩)) fun hv => aH (.inl ⟨_,rfl,⟨⟨a0,by dsimp only; omega,by dsimp only; omega⟩,h1,fun i hi hh => ?_⟩,by dsimp only; omega⟩)
 ·dsimp only at hh
  have := gD hs (i := i) (j := m) (by omega) (by omega)
  omega
 ·dsimp only at hh
  have := gD hs (i := m) (j := i) (by omega) hi
  omega
end Go.Proofs.YtgcdbbidmfdonaaGreat
namespace Go.Proofs.YtgcdbbidmfdonaaGreat
set_option linter.unusedVariables false
def fF (t : List bL) : Prop := ∃ a b c d : Int,t = [⟨b,c⟩,⟨a,d⟩] ∧ (60 ≤ a ∧ a ≤ b ∧ b ≤ 84) ∧ 7 ≤ c ∧ c ≤ d ∧ d ≤ 10
def pT : List bL → Int
 | [x,y] => y.Driver * x.Driver
 | _ => 1
def qT : List bL → Int
 | [x,y] => x.Driven * y.Driven
 | _ => 1
def lT (r : aM) (p q : Int) : Int := eF (p * r.Den - q * r.Num)
def aA1 (r : aM) (t : List bL) : Int := lT r (pT t) (qT t)
def ltT : List bL → List bL → Prop
 | [x,y],[z,w] => x.Driver + x.Driven + y.Driver + y.Driven < z.Driver + z.Driven + w.Driver + w.Driven ∨ (x.Driver + x.Driven + y.Driver + y.Driven = z.Driver + z.Driven + w.Driver + w.Driven ∧ (x.Driver < z.Driver ∨ (x.Driver = z.Driver ∧ (x.Driven < z.Driven ∨ (x.Driven = z.Driven ∧ (y.Driver < w.Driver ∨ (y.Driver = w.Driver ∧ y.Driven < w.Driven)))))))
 | _,_ => False
def pA (r : aM) (t u : List bL) : Prop := aA1 r t * qT u < aA1 r u * qT t ∨ (aA1 r t * qT u = aA1 r u * qT t ∧ ltT t u)
theorem tO {a b : Int} {A B : Int} (ha : 0 < a) (hA : a ≤ A) (hb : 0 < b) (hB : b ≤ B) : 0 < a * b ∧ a * b ≤ A * B := by
 refine ⟨Int.mul_pos ha hb,?_⟩
 exact Int.mul_le_mul hA hB (by omega) (by omega)
theorem aAf {t : List bL} (h : fF t) : (0 < pT t ∧ pT t ≤ 7056) ∧ 0 < qT t ∧ qT t ≤ 100 := by
 obtain ⟨a,b,c,d,rfl,⟨h1,h2,h3⟩,h4,h5,h6⟩ := h
 have q1 := tO (a := a) (b := b) (A := 84) (B := 84) (by omega) (by omega) (by omega) h3
 have q2 := tO (a := c) (b := d) (A := 10) (B := 10) (by omega) (by omega) (by omega) h6
 exact ⟨⟨q1.1,by show a * b ≤ 7056; omega⟩,q2.1,by show c * d ≤ 100; omega⟩
theorem aFe {r : aM} {p q : Int} (hn : 0 ≤ r.Num ∧ r.Num ≤ 1000000) (hd : 0 ≤ r.Den ∧ r.Den ≤ 1000000) (hp : 0 < p ∧ p ≤ 7056) (hq : 0 < q ∧ q ≤ 100) : (0 ≤ p * r.Den ∧ p * r.Den ≤ 7056000000) ∧ (0 ≤ q * r.Num ∧ q * r.Num ≤ 100000000) ∧ 0 ≤ lT r p q ∧ lT r p q ≤ 8000000000 := by
 have h1 : p * r.Den ≤ 7056 * 1000000 := Int.mul_le_mul hp.2 hd.2 hd.1 (by omega)
 have h2 : q * r.Num ≤ 100 * 1000000 := Int.mul_le_mul hq.2 hn.2 hn.1 (by omega)
 have h3 := Int.mul_nonneg (show 0 ≤ p by omega) hd.1
 have h4 := Int.mul_nonneg (show 0 ≤ q by omega) hn.1
 refine ⟨⟨h3,by omega⟩,⟨h4,by omega⟩,?_⟩
 unfold lT eF
 omega
theorem aLz {a b c p q s : Int} (hp : 0 < p) (hq : 0 < q) (hs : 0 < s) (h1 : a * q ≤ b * p) (h2 : b * s ≤ c * q) : a * s ≤ c * p := by
 refine Int.le_of_mul_le_mul_right (a := q) ?_ hq
 have e1 := Int.mul_le_mul_of_nonneg_right h1 (show 0 ≤ s by omega)
 have e2 := Int.mul_le_mul_of_nonneg_right h2 (show 0 ≤ p by omega)
 have e3 : a * s * q = a * q * s := by rw [Int.mul_assoc,Int.mul_comm s q, ← Int.mul_assoc]
 have e4 : c * p * q = c * q * p := by rw [Int.mul_assoc,Int.mul_comm p q, ← Int.mul_assoc]
 have e5 : b * p * s = b * s * p := by rw [Int.mul_assoc,Int.mul_comm p s, ← Int.mul_assoc]
 rw [e3,e4]
 rw [e5] at e1
 omega
theorem aBy {a b c p q s : Int} (hp : 0 < p) (hq : 0 < q) (hs : 0 < s) (h1 : a * q ≤ b * p) (h2 : b * s ≤ c * q) (h : a * q < b * p ∨ b * s < c * q) : a * s < c * p := by
 refine Int.lt_of_mul_lt_mul_right (a := q) ?_ (by omega)
 have e1 := Int.mul_le_mul_of_nonneg_right h1 (show 0 ≤ s by omega)
 have e2 := Int.mul_le_mul_of_nonneg_right h2 (show 0 ≤ p by omega)
 have e3 : a * s * q = a * q * s := by rw [Int.mul_assoc,Int.mul_comm s q, ← Int.mul_assoc]
 have e4 : c * p * q = c * q * p := by rw [Int.mul_assoc,Int.mul_comm p q, ← Int.mul_assoc]
 have e5 : b * p * s = b * s * p := by rw [Int.mul_assoc,Int.mul_comm p s, ← Int.mul_assoc]
 rw [e3,e4]
 rcases h with h | h
 ·have := Int.mul_lt_mul_of_pos_right h hs
  omega
 ·have := Int.mul_lt_mul_of_pos_right h hp
  omega
theorem aK5 {t : List bL} (h : fF t) : ¬ ltT t t := by
 obtain ⟨a,b,c,d,rfl,_⟩ := h
 simp only [ltT]
 omega
theorem aQx {t u w : List bL} (ht : fF t) (hu : fF u) (hw : fF w) (h1 : ltT t u) (h2 : ltT u w) : ltT t w := by
 obtain ⟨a,b,c,d,rfl,_⟩ := ht
 obtain ⟨e,f,g,h,rfl,_⟩ := hu
 obtain ⟨i,j,k,l,rfl,_⟩ := hw
 simp only [ltT] at h1 h2 ⊢
 omega
theorem aQf {t u : List bL} (ht : fF t) (hu : fF u) (h1 : ¬ ltT t u) (h2 : ¬ ltT u t) : t = u := by
 obtain ⟨a,b,c,d,rfl,_⟩ := ht
 obtain ⟨e,f,g,h,rfl,_⟩ := hu
 simp only [ltT] at h1 h2
 have : b = f ∧ c = g ∧ a = e ∧ d = h := by omega
 obtain ⟨rfl,rfl,rfl,rfl⟩ := this
 rfl
theorem aJh {r : aM} {t u w : List bL} (ht : fF t) (hu : fF u) (hw : fF w) (h1 : pA r t u) (h2 : pA r u w) : pA r t w := by
 have q1 := (aAf ht).2.1
 have q2 := (aAf hu).2.1
 have q3 := (aAf hw).2.1
 unfold pA at h1 h2 ⊢
 rcases h1 with h1 | ⟨h1,l1⟩
 ·rcases h2 with h2 | ⟨h2,l2⟩
  ·exact .inl (aBy q1 q2 q3 (by omega) (by omega) (.inl h1))
  ·exact .inl (aBy q1 q2 q3 (by omega) (by omega) (.inl h1))
 ·rcases h2 with h2 | ⟨h2,l2⟩
  ·exact .inl (aBy q1 q2 q3 (by omega) (by omega) (.inr h2))
  ·refine .inr ⟨?_,aQx ht hu hw l1 l2⟩
   have a1 := aLz q1 q2 q3 (a := aA1 r t) (b := aA1 r u) (c := aA1 r w) (by omega) (by omega)
   have a2 := aLz q3 q2 q1 (a := aA1 r w) (b := aA1 r u) (c := aA1 r t) (by omega) (by omega)
   omega
theorem aMc {r : aM} {t u : List bL} (ht : fF t) (hu : fF u) (h1 : ¬ pA r t u) (h2 : ¬ pA r u t) : t = u := by
 unfold pA at h1 h2
 refine aQf ht hu (fun h => h1 (.inr ⟨?_,h⟩)) fun h => h2 (.inr ⟨?_,h⟩) <;> omega
theorem aG9 {r : aM} {t : List bL} (ht : fF t) : ¬ pA r t t := by
 rintro (h | ⟨_,h⟩)
 ·omega
 ·exact aK5 ht h
theorem aPk {r : aM} {w u s : List bL} (hw : fF w) (hu : fF u) (hs : fF s) (h : pA r w u) (k : ¬ pA r w s) : ¬ pA r u s := fun h2 => k (aJh hw hu hs h h2)
theorem aL7 {r : aM} {t u : List bL} (ht : fF t) (hu : fF u) (h1 : ∀ w,fF w → ¬ pA r w t) (h2 : ∀ w,fF w → ¬ pA r w u) : t = u := aMc ht hu (h2 t ht) (h1 u hu)
theorem aHj {r : aM} {p q q' : Int} (hp : 0 < p * r.Den) (h0 : 0 ≤ r.Num) (hq : q < q') (h : q' * r.Num ≤ p * r.Den) : lT r p q' * q < lT r p q * q' := by
 have e1 : q * r.Num ≤ q' * r.Num := Int.mul_le_mul_of_nonneg_right (by omega) h0
 have e2 : lT r p q' = p * r.Den - q' * r.Num := by unfold lT eF; omega
 have e3 : lT r p q = p * r.Den - q * r.Num := by unfold lT eF; omega
 rw [e2,e3,Int.sub_mul,Int.sub_mul]
 have e4 : q * r.Num * q' = q' * r.Num * q := by rw [Int.mul_assoc,Int.mul_comm r.Num, ← Int.mul_assoc,Int.mul_comm q q',Int.mul_assoc,Int.mul_comm q, ← Int.mul_assoc]
 have e5 := Int.mul_lt_mul_of_pos_left hq hp
 omega
theorem aFd {r : aM} {p q q' : Int} (hp : 0 < p * r.Den) (h0 : 0 ≤ r.Num) (hq : q' < q) (h : p * r.Den ≤ q' * r.Num) : lT r p q' * q < lT r p q * q' := by
 have e1 : q' * r.Num ≤ q * r.Num := Int.mul_le_mul_of_nonneg_right (by omega) h0
 have e2 : lT r p q' = q' * r.Num - p * r.Den := by unfold lT eF; omega
 have e3 : lT r p q = q * r.Num - p * r.Den := by unfold lT eF; omega
 rw [e2,e3,Int.sub_mul,Int.sub_mul]
 have e4 : q * r.Num * q' = q' * r.Num * q := by rw [Int.mul_assoc,Int.mul_comm r.Num, ← Int.mul_assoc,Int.mul_comm q q',Int.mul_assoc,Int.mul_comm q, ← Int.mul_assoc]
 have e5 := Int.mul_lt_mul_of_pos_left hq hp
 omega
theorem aBl {lo hi : Int} {l : List Int} : l ∈ bS lo hi 2 ↔ ∃ a b : Int,l = [a,b] ∧ lo ≤ a ∧ a ≤ b ∧ b ≤ hi := by
 have ext : ∀ (x l : List Int),l ∈ uP lo hi x ↔ ∃ t : Int,l = x ++ [t] ∧ nO lo x ≤ t ∧ t ≤ hi := fun x l => by
  unfold uP
  rw [List.mem_map]
  constructor
  ·rintro ⟨i,hi,rfl⟩
   rw [List.mem_range] at hi
   exact ⟨_,rfl,by omega,by omega⟩
  ·rintro ⟨t,rfl,h1,h2⟩
   exact ⟨(t - nO lo x).toNat,by rw [List.mem_range]; omega,by congr 2; omega⟩
 unfold bS
 rw [List.mem_flatMap]
 constructor
 ·rintro ⟨x,hx,hl⟩
  unfold bS at hx
  rw [List.mem_flatMap] at hx
  obtain ⟨y,hy,hx⟩ := hx
  unfold bS at hy
  rw [List.mem_singleton] at hy
  subst hy
  obtain ⟨a,rfl,h1,h2⟩ := (ext _ _).1 hx
  obtain ⟨b,rfl,h3,h4⟩ := (ext _ _).1 hl
  simp [nO] at h1 h3
  exact ⟨a,b,rfl,h1,h3,h4⟩
 ·rintro ⟨a,b,rfl,h1,h2,h3⟩
  refine ⟨[a],?_,(ext _ _).2 ⟨b,rfl,by simpa [nO] using h2,h3⟩⟩
  unfold bS
  rw [List.mem_flatMap]
  exact ⟨[],by simp [bS],(ext _ _).2 ⟨a,rfl,by simpa [nO] using h1,by omega⟩⟩
end Go.Proofs.YtgcdbbidmfdonaaGreat
namespace Go.Proofs.YtgcdbbidmfdonaaGreat
set_option linter.unusedVariables false
set_option maxRecDepth 100000
def aPt (lo hi : Int) (n : Nat) (p : aP) : Prop := p.teeth.length = n ∧ ∀ t ∈ p.teeth,lo ≤ t ∧ t ≤ hi
def aOt (k : Int) : Nat := if k ≤ 0 then 1 else if k = 1 then 31 else if k = 2 then 961 else 29791
theorem aJ5 {k : Int} (h0 : 0 ≤ k) (h1 : k < 3) : aOt (k + 1) = 31 * aOt k ∧ aOt k ≤ 961 := by
 have : k = 0 ∨ k = 1 ∨ k = 2 := by omega
 rcases this with rfl | rfl | rfl <;> decide
def trI (t : List bL) : Prop := t.length = 2 ∧ ∀ p ∈ t,(60 ≤ p.Driver ∧ p.Driver ≤ 84) ∧ 7 ≤ p.Driven ∧ p.Driven ≤ 10
end Go.Proofs.YtgcdbbidmfdonaaGreat
namespace Go.Proofs.YtgcdbbidmfdonaaGreat
set_option linter.unusedVariables false
set_option maxRecDepth 100000
def aLs (k : Int) : Int := if k ≤ 0 then 1 else if k = 1 then 120 else 14400
theorem aKp {k : Int} (h0 : 0 ≤ k) (h1 : k < 2) : aLs (k + 1) = aLs k * 120 ∧ aLs k ≤ 120 := by
 have : k = 0 ∨ k = 1 := by omega
 rcases this with rfl | rfl <;> decide
theorem aIh (l : List Int) (t : Int) : cH (l ++ [t]) = cH l * t := by unfold cH; rw [List.foldl_append]; rfl
theorem aGx (lo hi : Int) (k : Nat) : bS lo hi (k + 1) = (bS lo hi k).flatMap (uP lo hi) := rfl
theorem aHf {lo hi : Int} (l0 : 1 ≤ lo) (lh : lo ≤ hi) (h1 : hi ≤ 120) (sp : hi ≤ lo + 30) : Ok (gM lo hi 2) (fun xs => xs.length ≤ 961 ∧ xs.map (·.teeth) = bS lo hi 2 ∧ ∀ p ∈ xs,p.value = cH p.teeth) := by
 unfold gM
 refine bN (P := fun (xs : List aP) => xs.length ≤ 961 ∧ xs.map (·.teeth) = bS lo hi 2 ∧ ∀ p ∈ xs,p.value = cH p.teeth) ?_ fun v h => aH h
 refine dH (I := fun (s : List aP × Int) => (0 ≤ s.2 ∧ s.2 ≤ 2) ∧ s.1.length ≤ aOt s.2 ∧ s.1.map (·.teeth) = bS lo hi s.2.toNat ∧ ∀ p ∈ s.1,aPt lo hi s.2.toNat p ∧ p.value = cH p.teeth ∧ 1 ≤ p.value ∧ p.value ≤ aLs s.2) (m := fun s => (2 - s.2).toNat) ?_ _ ⟨⟨by dsimp only; omega,by dsimp only; omega⟩,by simp [aOt],by simp [bS],fun p hp => by simp at hp; subst hp; exact ⟨⟨rfl,fun t ht => by cases ht⟩,rfl,by decide,by decide⟩⟩ (by dsimp only; omega)
 rintro ⟨xs,k⟩ ⟨⟨k0,k1⟩,x1,xm,xp⟩
 dsimp only at k0 k1 x1 xm xp ⊢
 refine dF (fun hk => ?_) fun hk => aH (.inr ⟨_,rfl,?_⟩)
 ·obtain ⟨bs,bb⟩ := aJ5 k0 (show k < 3 by omega)
  obtain ⟨cs,cb⟩ := aKp k0 (show k < 2 by omega)
  have kt : (k + 1).toNat = k.toNat + 1 := by omega
  refine bN (P := fun (ys : List aP) => ys.length ≤ aOt (k + 1) ∧ ys.map (·.teeth) = bS lo hi (k + 1).toNat ∧ ∀ p ∈ ys,aPt lo hi (k + 1).toNat p ∧ p.value = cH p.teeth ∧ 1 ≤ p.value ∧ p.value ≤ aLs (k + 1)) ?_ fun v74 h74 => aH (.inl ⟨_,rfl,?_⟩)
  ·refine bN (P := fun (ys : List aP) => ys.length ≤ aOt (k + 1) ∧ ys.map (·.teeth) = bS lo hi (k + 1).toNat ∧ ∀ p ∈ ys,aPt lo hi (k + 1).toNat p ∧ p.value = cH p.teeth ∧ 1 ≤ p.value ∧ p.value ≤ aLs (k + 1)) ?_ fun v h => aH h
   refine dH (I := fun (s : Int × List aP) => (0 ≤ s.1 ∧ s.1 ≤ xs.length) ∧ (s.2.length : Int) ≤ 31 * s.1 ∧ s.2.map (·.teeth) = ((xs.take s.1.toNat).map (·.teeth)).flatMap (uP lo hi) ∧ ∀ p ∈ s.2,aPt lo hi (k + 1).toNat p ∧ p.value = cH p.teeth ∧ 1 ≤ p.value ∧ p.value ≤ aLs (k + 1)) (m := fun s => (xs.length - s.1).toNat) ?_ _ ⟨⟨by dsimp only; omega,by dsimp only; omega⟩,by simp,by simp,fun p hp => by cases hp⟩ (by dsimp only; omega)
   rintro ⟨i,ys⟩ ⟨⟨i0,i1⟩,y0,ym,yp⟩
   dsimp only at i0 i1 y0 ym yp ⊢
   refine dF (fun hin => ?_) fun hin => aH (.inr ⟨_,rfl,by omega,?_,yp⟩)
   ·obtain ⟨n,rfl⟩ : ∃ n : Nat,i = n := ⟨i.toNat,by omega⟩
    have hn : n < xs.length := by omega
    obtain ⟨⟨pl,pt⟩,pv,pv1,pv2⟩ := xp _ (List.getElem_mem hn)
    rw [Int.toNat_natCast] at ym
    simp only [fB hn,Option.bind_some]
    refine bN (P := fun (zs : List aP) => ((zs.length : Int) ≤ 31 * (n + 1)) ∧ zs.map (·.teeth) = ((xs.take (n + 1)).map (·.teeth)).flatMap (uP lo hi) ∧ ∀ p ∈ zs,aPt lo hi (k + 1).toNat p ∧ p.value = cH p.teeth ∧ 1 ≤ p.value ∧ p.value ≤ aLs (k + 1)) ?_ fun v72 h72 => aH (.inl ⟨_,rfl,?_⟩)
    ·refine bN (P := fun f => f = nO lo xs[n].teeth ∧ lo ≤ f ∧ f ≤ hi) (dF (fun hk0 => ?_) fun hk0 => aH ⟨?_,Int.le_refl _,lh⟩) fun f hf => ?_
     ·rw [aU (x := k - 1) (by omega) (by omega)]
      refine bN (aJd (i := k - 1) (by omega) (by rw [pl]; omega)) fun v58 h58 => aH ⟨?_,pt _ h58.1⟩
      have e := h58.2
      unfold nO
      rw [List.getLast?_eq_getElem?,show xs[n].teeth.length - 1 = (k - 1).toNat by omega,e]
      rfl
     ·have : xs[n].teeth = [] := List.length_eq_zero_iff.1 (by omega)
      rw [this]; rfl
     ·obtain ⟨fe,f0,f1⟩ := hf
      refine dH (I := fun (s : Int × List aP) => (f ≤ s.1 ∧ s.1 ≤ hi + 1) ∧ ((s.2.length : Int) ≤ 31 * n + (s.1 - f)) ∧ s.2.map (·.teeth) = ((xs.take n).map (·.teeth)).flatMap (uP lo hi) ++ (List.range (s.1 - f).toNat).map (fun (j : Nat) => xs[n].teeth ++ [f + (j : Int)]) ∧ ∀ p ∈ s.2,aPt lo hi (k + 1).toNat p ∧ p.value = cH p.teeth ∧ 1 ≤ p.value ∧ p.value ≤ aLs (k + 1)) (m := fun s => (hi + 1 - s.1).toNat) ?_ _ ⟨⟨by dsimp only; omega,by dsimp only; omega⟩,by dsimp only; omega,by dsimp only; rw [Int.sub_self]; simpa using ym,yp⟩ (by dsimp only; omega)
      rintro ⟨t,zs⟩ ⟨⟨t0,t1⟩,z0,zm,zp⟩
      dsimp only at t0 t1 z0 zm zp ⊢
      refine dF (fun ht => ?_) fun ht => aH (.inr ⟨_,rfl,by omega,?_,zp⟩)
      ·have hb := tO (a := xs[n].value) (b := t) (A := aLs k) (B := 120) (by omega) pv2 (by omega) (by omega)
       rw [aNr (by omega),Option.bind_some,aU (x := xs[n].value * t) (by omega) (by omega)]
       refine iH (by simp; omega) (iH (by simp; omega) (aH (.inl ⟨_,rfl,?_⟩)))
       dsimp only
       rw [aU (x := t + 1) (by omega) (by omega)]
       refine ⟨⟨⟨by omega,by omega⟩,by simp; omega,?_,?_⟩,by omega⟩
       ·rw [show (t + 1 - f).toNat = (t - f).toNat + 1 by omega,List.range_succ,List.map_append,List.map_append,zm,List.append_assoc]
        simp only [List.map_cons,List.map_nil]
        congr 6
        omega
       ·intro p hp
        rcases List.mem_append.1 hp with hp | hp
        ·exact zp p hp
        ·rw [List.mem_singleton.1 hp]
         refine ⟨⟨by simp [pl]; omega,fun u hu => ?_⟩,?_,?_,?_⟩
         ·rcases List.mem_append.1 hu with hu | hu
          ·exact pt u hu
          ·rw [List.mem_singleton.1 hu]; omega
         ·rw [aIh, ← pv]
         ·dsimp only; omega
         ·dsimp only; omega
      ·have te : t = hi + 1 := by omega
       subst te
       rw [zm,qM hn,List.map_append,List.flatMap_append]
       congr 1
       simp only [List.map_cons,List.map_nil,List.flatMap_cons,List.flatMap_nil,List.append_nil]
       unfold uP
       rw [← fe]
    ·dsimp only
     rw [aU (x := (n : Int) + 1) (by omega) (by omega)]
     exact ⟨⟨⟨by omega,by omega⟩,h72.1,by rw [show ((n : Int) + 1).toNat = n + 1 by omega]; exact h72.2.1,h72.2.2⟩,by omega⟩
   ·rw [kt,aGx, ← xm,ym,List.take_of_length_le (by omega)]
  ·dsimp only
   rw [aU (x := k + 1) (by omega) (by omega)]
   exact ⟨⟨⟨by omega,by omega⟩,h74.1,h74.2.1,h74.2.2⟩,by omega⟩
 ·have hk2 : k = 2 := by omega
  subst hk2
  exact ⟨x1,xm,fun p hp => (xp p hp).2.1⟩
def aOd (lo hi : Int) (p : aP) : Prop := ∃ x y : Int,p.teeth = [x,y] ∧ p.value = x * y ∧ lo ≤ x ∧ x ≤ y ∧ y ≤ hi
theorem aNw {lo hi : Int} {xs : List aP} (h : xs.map (·.teeth) = bS lo hi 2) (hv : ∀ p ∈ xs,p.value = cH p.teeth) : (∀ p ∈ xs,aOd lo hi p) ∧ ∀ x y : Int,lo ≤ x → x ≤ y → y ≤ hi → ∃ p ∈ xs,p.teeth = [x,y] := by
 constructor
 ·intro p hp
  have : p.teeth ∈ bS lo hi 2 := by rw [← h]; exact List.mem_map_of_mem hp
  obtain ⟨x,y,e,h1,h2,h3⟩ := aBl.1 this
  exact ⟨x,y,e,by rw [hv p hp,e]; simp [cH],h1,h2,h3⟩
 ·intro x y h1 h2 h3
  have : [x,y] ∈ xs.map (·.teeth) := by rw [h]; exact aBl.2 ⟨x,y,rfl,h1,h2,h3⟩
  obtain ⟨p,hp,e⟩ := List.mem_map.1 this
  exact ⟨p,hp,e⟩
def kT : List Int → List Int → List bL
 | [x,y],[c,d] => [⟨y,c⟩,⟨x,d⟩]
 | _,_ => []
theorem aDu {p q : aP} (hp : aOd 60 84 p) (hq : aOd 7 10 q) : fF (kT p.teeth q.teeth) ∧ pT (kT p.teeth q.teeth) = p.value ∧ qT (kT p.teeth q.teeth) = q.value := by
 obtain ⟨x,y,e,v,h1,h2,h3⟩ := hp
 obtain ⟨c,d,f,w,h4,h5,h6⟩ := hq
 rw [e,f]
 exact ⟨⟨x,y,c,d,rfl,⟨h1,h2,h3⟩,h4,h5,h6⟩,v.symm,w.symm⟩
theorem aA9 {x y : Int} (h : x ≤ y) {v : List Int} (hp : v.Perm [x,y]) (hs : v.Pairwise (· ≤ ·)) : v = [x,y] := by
 have hl := hp.length_eq
 match v,hl with
 | [a,b],_ =>
  have hab : a ≤ b := by simpa using hs
  have ha := hp.mem_iff (a := a)
  have hb := hp.mem_iff (a := b)
  have hx := hp.mem_iff (a := x)
  have hy := hp.mem_iff (a := y)
  simp at ha hb hx hy
  have : a = x ∧ b = y := by omega
  rw [this.1,this.2]
theorem aLx {p q : aP} (hp : aOd 60 84 p) (hq : aOd 7 10 q) : kQ p.teeth q.teeth = some (kT p.teeth q.teeth) := by
 obtain ⟨x,y,e,v,h1,h2,h3⟩ := hp
 obtain ⟨c,d,f,w,h4,h5,h6⟩ := hq
 have key : Ok (kQ p.teeth q.teeth) (fun t => t = kT p.teeth q.teeth) := by
  rw [e,f]
  unfold kQ
  refine bN (aK7 (by simp)) fun v1 k1 => bN (aK7 (by simp)) fun v2 k2 => ?_
  rw [aA9 h2 k1.1 k1.2,aA9 h5 k2.1 k2.2]
  refine bN (P := fun t => t = kT [x,y] [c,d]) ?_ fun t h => aH h
  refine dH (I := fun (s : Int × List bL) => (0 ≤ s.1 ∧ s.1 ≤ 2) ∧ s.2 = (kT [x,y] [c,d]).take s.1.toNat) (m := fun s => (2 - s.1).toNat) ?_ _ ⟨⟨by dsimp only; omega,by dsimp only; omega⟩,by simp⟩ (by dsimp only; omega)
  rintro ⟨i,out⟩ ⟨⟨i0,i1⟩,io⟩
  dsimp only at i0 i1 io ⊢
  subst io
  have : i = 0 ∨ i = 1 ∨ i = 2 := by omega
  rcases this with rfl | rfl | rfl
  ·exact aH (.inl ⟨_,rfl,⟨⟨by show 0 ≤ w64 (0 + 1); decide,by show w64 (0 + 1) ≤ 2; decide⟩,rfl⟩,by show (2 - w64 (0 + 1)).toNat < (2 - 0 : Int).toNat; decide⟩)
  ·exact aH (.inl ⟨_,rfl,⟨⟨by show 0 ≤ w64 (1 + 1); decide,by show w64 (1 + 1) ≤ 2; decide⟩,rfl⟩,by show (2 - w64 (1 + 1)).toNat < (2 - 1 : Int).toNat; decide⟩)
  ·exact aH (.inr ⟨_,rfl,rfl⟩)
 obtain ⟨t,ht,rfl⟩ := key
 exact ht
theorem aJ1 (x y : bL) (hx : 0 ≤ x.Driver ∧ x.Driver ≤ 240 ∧ 0 ≤ x.Driven ∧ x.Driven ≤ 240) (hy : 0 ≤ y.Driver ∧ y.Driver ≤ 240 ∧ 0 ≤ y.Driven ∧ y.Driven ≤ 240) : mH [x,y] = some (x.Driver + x.Driven + (y.Driver + y.Driven)) := by
 have key : Ok (mH [x,y]) (fun t => t = x.Driver + x.Driven + (y.Driver + y.Driven)) := by
  unfold mH
  refine bN (P := fun t => t = x.Driver + x.Driven + (y.Driver + y.Driven)) ?_ fun t h => aH h
  refine dH (I := fun (s : Int × Int) => (s.2 = 0 ∧ s.1 = 0) ∨ (s.2 = 1 ∧ s.1 = x.Driver + x.Driven) ∨ (s.2 = 2 ∧ s.1 = x.Driver + x.Driven + (y.Driver + y.Driven))) (m := fun s => (2 - s.2).toNat) ?_ _ (.inl ⟨rfl,rfl⟩) (by decide)
  rintro ⟨k,i⟩ h
  dsimp only at h ⊢
  rcases h with ⟨rfl,rfl⟩ | ⟨rfl,rfl⟩ | ⟨rfl,rfl⟩
  ·show Ok (some (Sum.inl (w64 (0 + w64 (x.Driver + x.Driven)),w64 (0 + 1)))) _
   rw [aU (x := x.Driver + x.Driven) (by omega) (by omega),aU (x := 0 + _) (by omega) (by omega)]
   exact aH (.inl ⟨_,rfl, .inr (.inl ⟨rfl,by dsimp only; omega⟩),by show (2 - w64 (0 + 1)).toNat < (2 - 0 : Int).toNat; decide⟩)
  ·show Ok (some (Sum.inl (w64 (x.Driver + x.Driven + w64 (y.Driver + y.Driven)),w64 (1 + 1)))) _
   rw [aU (x := y.Driver + y.Driven) (by omega) (by omega),aU (x := _ + (_ + _)) (by omega) (by omega)]
   exact aH (.inl ⟨_,rfl, .inr (.inr ⟨rfl,rfl⟩),by show (2 - w64 (1 + 1)).toNat < (2 - 1 : Int).toNat; decide⟩)
  ·exact aH (.inr ⟨_,rfl,rfl⟩)
 obtain ⟨t,ht,rfl⟩ := key
 exact ht
theorem aHk (x y : bL) (v : Int) {step : Int × List Int → Option ((Int × List Int) ⊕ List Int)} (hstep : ∀ s,step s = if s.1 < (([x,y] : List bL).length : Int) then ((atI [x,y] s.1).bind fun v8 => ((atI [x,y] s.1).bind fun v9 => (chk ((s.2.length + [v8.Driver,v9.Driven].length) * 1 * 64 ≤ 140737488355328) (some (.inl (w64 (s.1 + 1),s.2 ++ [v8.Driver,v9.Driven])))))) else some (.inr s.2)) : cE step (0,[v]) = some [v,x.Driver,x.Driven,y.Driver,y.Driven] := by
 have key : Ok (cE step (0,[v])) (fun t => t = [v,x.Driver,x.Driven,y.Driver,y.Driven]) := by
  refine dH (I := fun (s : Int × List Int) => (s.1 = 0 ∧ s.2 = [v]) ∨ (s.1 = 1 ∧ s.2 = [v,x.Driver,x.Driven]) ∨ (s.1 = 2 ∧ s.2 = [v,x.Driver,x.Driven,y.Driver,y.Driven])) (m := fun s => (2 - s.1).toNat) ?_ _ (.inl ⟨rfl,rfl⟩) (by show (2 - 0 : Int).toNat < 1180591620717411303424; decide)
  rintro ⟨i,s⟩ h
  dsimp only at h ⊢
  rw [hstep]
  rcases h with ⟨rfl,rfl⟩ | ⟨rfl,rfl⟩ | ⟨rfl,rfl⟩
  ·exact aH (.inl ⟨_,rfl, .inr (.inl ⟨rfl,rfl⟩),by show (2 - w64 (0 + 1)).toNat < (2 - 0 : Int).toNat; decide⟩)
  ·exact aH (.inl ⟨_,rfl, .inr (.inr ⟨rfl,rfl⟩),by show (2 - w64 (1 + 1)).toNat < (2 - 1 : Int).toNat; decide⟩)
  ·exact aH (.inr ⟨_,rfl,rfl⟩)
 obtain ⟨t,ht,rfl⟩ := key
 exact ht
end Go.Proofs.YtgcdbbidmfdonaaGreat
namespace Go.Proofs.YtgcdbbidmfdonaaGreat
set_option linter.unusedVariables false
set_option maxRecDepth 100000
def aAl : List (Int × Int) → Int
 | [] => 0
 | p :: r => if p.1 < p.2 then -1 else if p.2 < p.1 then 1 else aAl r
def aP6 : List bL → List bL → List (Int × Int)
 | [x,y],[z,w] => [(x.Driver + x.Driven + (y.Driver + y.Driven),z.Driver + z.Driven + (w.Driver + w.Driven)),(x.Driver,z.Driver),(x.Driven,z.Driven),(y.Driver,w.Driver),(y.Driven,w.Driven)]
 | _,_ => []
theorem aKv {t u : List bL} (ht : fF t) (hu : fF u) : aAl (aP6 t u) < 0 ↔ ltT t u := by
 obtain ⟨a,b,c,d,rfl,_⟩ := ht
 obtain ⟨e,f,g,h,rfl,_⟩ := hu
 simp only [ltT,aP6,aAl]
 constructor
 ·intro q
  repeat' split at q
  all_goals omega
 ·intro q
  repeat' split
  all_goals omega
theorem aI1 {t u : List bL} (ht : fF t) (hu : fF u) : kC t u = some (aAl (aP6 t u)) := by
 obtain ⟨a,b,c,d,rfl,⟨a1,a2,a3⟩,a4,a5,a6⟩ := ht
 obtain ⟨e,f,g,h,rfl,⟨b1,b2,b3⟩,b4,b5,b6⟩ := hu
 unfold kC
 rw [aJ1 _ _ (by dsimp only; omega) (by dsimp only; omega),Option.bind_some,aJ1 _ _ (by dsimp only; omega) (by dsimp only; omega),Option.bind_some,aHk _ _ _ fun s => rfl,Option.bind_some,aHk _ _ _ fun s => rfl,Option.bind_some]
 show _ = some (aAl [(b + c + (a + d),f + g + (e + h)),(b,f),(c,g),(a,e),(d,h)])
 dsimp only
 generalize b + c + (a + d) = S
 generalize f + g + (e + h) = T
 have key := aH5 (xs := [(S,T),(b,f),(c,g),(a,e),(d,h)]) (X := Unit ⊕ Int) (S := Int) (step := fun s27 =>
 (((if s27 < ([S,b,c,a,d].length : Int) then
 some (decide (s27 < ([T,f,g,e,h].length : Int)))
 else
 some false) : Option Bool).bind fun v28 =>
 (if v28 = true then
 ((atI [S,b,c,a,d] s27).bind fun v29 =>
 ((atI [T,f,g,e,h] s27).bind fun v30 =>
 (if v29 < v30 then
 some (.inr (.inr (-1)))
 else
 ((atI [S,b,c,a,d] s27).bind fun v31 =>
 ((atI [T,f,g,e,h] s27).bind fun v32 =>
 (if v32 < v31 then
 some (.inr (.inr 1))
 else
 some (.inl (w64 (s27 + 1)))))))))
 else
 some (.inr (.inl ()))))) (fun i (_ : Unit) => i) (fun _ (p : Int × Int) _ => if p.1 < p.2 then some (.inr (.inr (-1))) else if p.2 < p.1 then some (.inr (.inr 1)) else some (.inl ())) (fun _ => .inl ()) (by simp) (fun i hi s => by
  have hi5 : i < 5 := hi
  have : i = 0 ∨ i = 1 ∨ i = 2 ∨ i = 3 ∨ i = 4 := by omega
  rcases this with rfl | rfl | rfl | rfl | rfl
  ·show (if S < T then some (Sum.inr (Sum.inr (-1))) else if T < S then some (Sum.inr (Sum.inr 1)) else some (Sum.inl (w64 (0 + 1)))) = _
   simp only [List.getElem_cons_zero,List.getElem_cons_succ]
   split
   ·rfl
   ·split <;> rfl
  ·show (if b < f then some (Sum.inr (Sum.inr (-1))) else if f < b then some (Sum.inr (Sum.inr 1)) else some (Sum.inl (w64 (1 + 1)))) = _
   simp only [List.getElem_cons_zero,List.getElem_cons_succ]
   split
   ·rfl
   ·split <;> rfl
  ·show (if c < g then some (Sum.inr (Sum.inr (-1))) else if g < c then some (Sum.inr (Sum.inr 1)) else some (Sum.inl (w64 (2 + 1)))) = _
   simp only [List.getElem_cons_zero,List.getElem_cons_succ]
   split
   ·rfl
   ·split <;> rfl
  ·show (if a < e then some (Sum.inr (Sum.inr (-1))) else if e < a then some (Sum.inr (Sum.inr 1)) else some (Sum.inl (w64 (3 + 1)))) = _
   simp only [List.getElem_cons_zero,List.getElem_cons_succ]
   split
   ·rfl
   ·split <;> rfl
  ·show (if d < h then some (Sum.inr (Sum.inr (-1))) else if h < d then some (Sum.inr (Sum.inr 1)) else some (Sum.inl (w64 (4 + 1)))) = _
   simp only [List.getElem_cons_zero,List.getElem_cons_succ]
   split
   ·rfl
   ·split <;> rfl) (fun s => rfl) ()
 refine (congrArg (fun (x : Option (Unit ⊕ Int)) => x.bind _) key).trans ?_
 simp only [aLp,aAl]
 by_cases h1 : S < T
 ·rw [if_pos h1,if_pos h1]; rfl
 rw [if_neg h1,if_neg h1]
 by_cases h2 : T < S
 ·rw [if_pos h2,if_pos h2]; rfl
 rw [if_neg h2,if_neg h2]
 simp only [Option.bind_some]
 by_cases h1 : b < f
 ·rw [if_pos h1,if_pos h1]; rfl
 rw [if_neg h1,if_neg h1]
 by_cases h2 : f < b
 ·rw [if_pos h2,if_pos h2]; rfl
 rw [if_neg h2,if_neg h2]
 simp only [Option.bind_some]
 by_cases h1 : c < g
 ·rw [if_pos h1,if_pos h1]; rfl
 rw [if_neg h1,if_neg h1]
 by_cases h2 : g < c
 ·rw [if_pos h2,if_pos h2]; rfl
 rw [if_neg h2,if_neg h2]
 simp only [Option.bind_some]
 by_cases h1 : a < e
 ·rw [if_pos h1,if_pos h1]; rfl
 rw [if_neg h1,if_neg h1]
 by_cases h2 : e < a
 ·rw [if_pos h2,if_pos h2]; rfl
 rw [if_neg h2,if_neg h2]
 simp only [Option.bind_some]
 by_cases h1 : d < h
 ·rw [if_pos h1,if_pos h1]; rfl
 rw [if_neg h1,if_neg h1]
 by_cases h2 : h < d
 ·rw [if_pos h2,if_pos h2]; rfl
 rw [if_neg h2,if_neg h2]
 rfl
def aMe (r : aM) : Prop := (1 ≤ r.Num ∧ r.Num ≤ 1000000) ∧ 1 ≤ r.Den ∧ r.Den ≤ 1000000
def tX (r : aM) (U : List bL → Prop) (s : dO) : Prop := (s.train = [] ∧ ∀ u, ¬ U u) ∨ (fF s.train ∧ s.driven = qT s.train ∧ s.off = aA1 r s.train ∧ ∀ u,U u → fF u → ¬ pA r u s.train)
theorem kR {r : aM} {U V : List bL → Prop} {s : dO} (h : tX r U s) (k : ∀ u,V u → U u) : tX r V s := by
 rcases h with ⟨h1,h2⟩ | ⟨h1,h2,h3,h4⟩
 ·exact .inl ⟨h1,fun u hu => h2 u (k u hu)⟩
 ·exact .inr ⟨h1,h2,h3,fun u hu => h4 u (k u hu)⟩
theorem aE0 {r : aM} {U V : List bL → Prop} {s : dO} (h : tX r U s) (k : ∀ u,V u → U u ∨ ∃ w,U w ∧ fF w ∧ pA r w u) : tX r V s := by
 rcases h with ⟨h1,h2⟩ | ⟨h1,h2,h3,h4⟩
 ·refine .inl ⟨h1,fun u hu => ?_⟩
  rcases k u hu with q | ⟨w,q,_⟩
  ·exact h2 u q
  ·exact h2 w q
 ·refine .inr ⟨h1,h2,h3,fun u hu hc => ?_⟩
  rcases k u hu with q | ⟨w,q,hw,hl⟩
  ·exact h4 u q hc
  ·exact aPk hw hc h1 hl (h4 w q hw)
theorem aEl {s : dO} {r : aM} {a b : aP} {U : List bL → Prop} (hr : aMe r) (ha : aOd 60 84 a) (hb : aOd 7 10 b) (hs : tX r U s) : Ok (fX s r a b) (tX r fun u => U u ∨ u = kT a.teeth b.teeth) := by
 obtain ⟨hC,hp,hq⟩ := aDu ha hb
 have cb := aAf hC
 obtain ⟨⟨p0,p1⟩,q0,q1⟩ := cb
 rw [hp] at p0 p1
 rw [hq] at q0 q1
 obtain ⟨⟨f0,f1⟩,⟨f2,f3⟩,f4,f5⟩ := aFe (r := r) (p := a.value) (q := b.value) (by unfold aMe at hr; omega) (by unfold aMe at hr; omega) ⟨p0,p1⟩ ⟨q0,q1⟩
 have hF : lT r a.value b.value = aA1 r (kT a.teeth b.teeth) := by unfold aA1; rw [hp,hq]
 unfold fX
 rw [aU (x := a.value * r.Den) (by omega) (by omega),aU (x := b.value * r.Num) (by omega) (by omega),aU (x := a.value * r.Den - b.value * r.Num) (by omega) (by omega),pR (by omega) (by omega),Option.bind_some,aLx ha hb]
 have e0 : eF (a.value * r.Den - b.value * r.Num) = lT r a.value b.value := rfl
 rw [e0]
 generalize kT a.teeth b.teeth = t at *
 rcases hs with ⟨h1,h2⟩ | ⟨h1,h2,h3,h4⟩
 ·rw [h1]
  simp only [List.length_nil,Int.natCast_zero,Int.lt_irrefl,if_false,Option.bind_some,Bool.false_eq_true,if_true]
  refine aH (.inr ⟨hC,hq.symm,hF,fun u hu hc => ?_⟩)
  rcases hu with hu | rfl
  ·exact absurd hu (h2 u)
  ·exact aG9 hc
 ·have hl : s.train.length = 2 := by
   obtain ⟨_,_,_,_,e,_⟩ := h1
   rw [e]; rfl
  obtain ⟨⟨P0,P1⟩,Q0,Q1⟩ := aAf h1
  have F := (aFe (r := r) (p := pT s.train) (q := qT s.train) (by unfold aMe at hr; omega) (by unfold aMe at hr; omega) ⟨P0,P1⟩ ⟨Q0,Q1⟩).2.2
  have m1 : lT r a.value b.value * s.driven ≤ 8000000000 * 100 := Int.mul_le_mul f5 (by omega) (by omega) (by omega)
  have m2 : 0 ≤ lT r a.value b.value * s.driven := Int.mul_nonneg f4 (by omega)
  have hso : s.off = lT r (pT s.train) (qT s.train) := h3
  have m3 : s.off * b.value ≤ 8000000000 * 100 := Int.mul_le_mul (by omega) q1 (by omega) (by omega)
  have m4 : 0 ≤ s.off * b.value := Int.mul_nonneg (by omega) (by omega)
  rw [aU (x := s.off * b.value) (by omega) (by omega),aU (x := _ * s.driven) (by omega) (by omega),hl,if_pos (by decide),Option.bind_some]
  have Fe : lT r a.value b.value * s.driven = aA1 r t * qT s.train := by rw [hF,h2]
  have Ge : s.off * b.value = aA1 r s.train * qT t := by rw [h3,hq]
  have keep : ¬ pA r t s.train → tX r (fun u => U u ∨ u = t) s := fun hn => .inr ⟨h1,h2,h3,fun u hu hc => by
   rcases hu with hu | rfl
   ·exact h4 u hu hc
   ·exact hn⟩
  have new : pA r t s.train → tX r (fun u => U u ∨ u = t) ⟨a.value,b.value,lT r a.value b.value,t⟩ := fun hn => .inr ⟨hC,hq.symm,hF,fun u hu hc => by
   rcases hu with hu | rfl
   ·exact fun hx => h4 u hu hc (aJh hc hC h1 hx hn)
   ·exact aG9 hc⟩
  rw [Fe,Ge]
  refine dF (fun h => aH (keep ?_)) fun h => ?_
  ·have h := of_decide_eq_true h
   unfold pA
   rintro (q | ⟨q,_⟩) <;> omega
  ·have h : ¬ aA1 r s.train * qT t < aA1 r t * qT s.train := fun q => h (decide_eq_true q)
   rw [Option.bind_some]
   refine bN (P := fun b => (b = true ↔ pA r t s.train)) (dF (fun hx => absurd hx (by decide)) fun _ => dF (fun hx => aH ⟨fun _ => .inl hx,fun _ => rfl⟩) fun hx => ?_) fun v5 h5 => dF (fun q => aH (new (h5.1 q))) fun q => aH (keep fun z => q (h5.2 z))
   rw [aI1 hC h1,Option.bind_some]
   refine aH ?_
   rw [decide_eq_true_eq,aKv hC h1]
   constructor
   ·exact fun q => .inr ⟨by omega,q⟩
   ·rintro (q | ⟨_,q⟩)
    ·exact absurd q hx
    ·exact q
theorem aGh {r : aM} (hr : aMe r) : Ok (jR r ⟨60,84,7,10,2⟩) (fun t => fF t ∧ ∀ u,fF u → ¬ pA r u t) := by
 have hr' := hr
 obtain ⟨⟨n0,n1⟩,d0,d1⟩ := hr'
 unfold jR
 refine bN (aHf (lo := 60) (hi := 84) (by decide) (by decide) (by decide) (by decide)) fun v1 h1 => ?_
 refine bN (aHf (lo := 7) (hi := 10) (by decide) (by decide) (by decide) (by decide)) fun v2 h2 => ?_
 obtain ⟨p1,c1⟩ := aNw h1.2.1 h1.2.2
 obtain ⟨p2,c2⟩ := aNw h2.2.1 h2.2.2
 refine bN (aOj (by omega)) fun v3 h3 => ?_
 have l3 := h3.1.length_eq
 have p3 : ∀ p ∈ v3,aOd 7 10 p := fun p hp => p2 p (h3.1.mem_iff.1 hp)
 have hS := h3.2
 have full : ∀ u,fF u → ∃ (n : Nat) (hn : n < v1.length) (m : Nat) (hm : m < v3.length),u = kT v1[n].teeth v3[m].teeth := by
  rintro u ⟨a,b,c,d,rfl,⟨u1,u2,u3⟩,u4,u5,u6⟩
  obtain ⟨p,hp,ep⟩ := c1 a b u1 u2 u3
  obtain ⟨q,hq,eq⟩ := c2 c d u4 u5 u6
  obtain ⟨n,hn,rfl⟩ := List.getElem_of_mem hp
  obtain ⟨m,hm,rfl⟩ := List.getElem_of_mem (h3.1.mem_iff.2 hq)
  exact ⟨n,hn,m,hm,by rw [ep,eq]; rfl⟩
 have c0 : fF [⟨60,7⟩,⟨60,7⟩] := ⟨60,60,7,7,rfl,by decide,by decide⟩
 refine bN (P := fun (s : dO) => tX r (fun u => ∃ (n : Nat) (hn : n < v1.length) (m : Nat) (hm : m < v3.length),u = kT v1[n].teeth v3[m].teeth) s) ?_ fun v70 h70 => aH ?_
 ·refine dH (I := fun (s : Int × dO) => (0 ≤ s.1 ∧ s.1 ≤ v1.length) ∧ tX r (fun u => ∃ (n : Nat) (hn : n < v1.length),(n : Int) < s.1 ∧ ∃ (m : Nat) (hm : m < v3.length),u = kT v1[n].teeth v3[m].teeth) s.2) (m := fun s => (v1.length - s.1).toNat) ?_ _ ⟨⟨by dsimp only; omega,by dsimp only; omega⟩, .inl ⟨rfl,fun u hu => by obtain ⟨n,_,hn,_⟩ := hu; dsimp only at hn; omega⟩⟩ (by dsimp only; omega)
  rintro ⟨i,s⟩ ⟨⟨i0,i1⟩,hs⟩
  dsimp only at i0 i1 hs ⊢
  refine dF (fun hi => ?_) fun hi => aH (.inr ⟨_,rfl,kR hs fun u hu => ?_⟩)
  ·obtain ⟨n,rfl⟩ : ∃ n : Nat,i = n := ⟨i.toNat,by omega⟩
   have hn : n < v1.length := by omega
   have pn := p1 _ (List.getElem_mem hn)
   simp only [fB hn,Option.bind_some]
   -- the trains with this driver
   obtain ⟨U,hU⟩ : ∃ U : List bL → Prop,U = fun u => ∃ (k : Nat) (hk : k < v1.length),(k : Int) < n ∧ ∃ (m : Nat) (hm : m < v3.length),u = kT v1[k].teeth v3[m].teeth := ⟨_,rfl⟩
   rw [← hU] at hs
   obtain ⟨a,ea⟩ : ∃ a,a = v1[n] := ⟨_,rfl⟩
   rw [← ea] at pn ⊢
   have av : 0 < a.value ∧ a.value ≤ 7056 := by
    obtain ⟨x,y,_,e,q⟩ := pn
    rw [e]; exact tO (A := 84) (B := 84) (by omega) (by omega) (by omega) (by omega)
   have qv : ∀ (m : Nat) (hm : m < v3.length),0 < v3[m].value ∧ v3[m].value ≤ 100 := fun m hm => by
    obtain ⟨x,y,_,e,q⟩ := p3 _ (List.getElem_mem hm)
    rw [e]; exact tO (A := 10) (B := 10) (by omega) (by omega) (by omega) (by omega)
   have ad : 0 < a.value * r.Den ∧ a.value * r.Den ≤ 7056 * 1000000 := tO av.1 av.2 d0 d1
   -- a nearer product on the same side is better
   have aRz : ∀ (m k : Nat) (hm : m < v3.length) (hk : k < v3.length),lT r a.value v3[k].value * v3[m].value < lT r a.value v3[m].value * v3[k].value → pA r (kT a.teeth v3[k].teeth) (kT a.teeth v3[m].teeth) := fun m k hm hk h => by
    obtain ⟨_,x1,x2⟩ := aDu pn (p3 _ (List.getElem_mem hk))
    obtain ⟨_,y1,y2⟩ := aDu pn (p3 _ (List.getElem_mem hm))
    refine .inl ?_
    unfold aA1
    rw [x1,x2,y1,y2]; exact h
   refine bN (P := fun (s : dO) => tX r (fun u => U u ∨ ∃ (m : Nat) (hm : m < v3.length),u = kT a.teeth v3[m].teeth) s) ?_ fun v69 h69 => aH (.inl ⟨_,rfl,?_⟩)
   ·refine iH (by omega) ?_
    obtain ⟨w,hw⟩ : ∃ w : Int,w = a.value * r.Den / r.Num := ⟨_,rfl⟩
    have w0 : 0 ≤ w := by rw [hw]; exact Int.ediv_nonneg (by omega) (by omega)
    have w1 : w ≤ a.value * r.Den := by rw [hw]; exact Int.ediv_le_self _ (by omega)
    have wl : ∀ v : Int,v < w + 1 → v * r.Num ≤ a.value * r.Den := fun v hv => by
     have := Int.mul_le_of_le_ediv (show 0 < r.Num by omega) (show v ≤ a.value * r.Den / r.Num by omega)
     exact this
    have wh : ∀ v : Int,w + 1 ≤ v → a.value * r.Den ≤ v * r.Num := fun v hv => by
     have := Int.lt_mul_of_ediv_lt (show 0 < r.Num by omega) (show a.value * r.Den / r.Num < v by omega)
     omega
    rw [aU (x := a.value * r.Den) (by omega) (by omega),Int.tdiv_eq_ediv_of_nonneg (by omega), ← hw,aU (x := w) (by omega) (by omega),aU (x := w + 1) (by omega) (by omega)]
    refine bN (aLy hS (by omega) _) fun k hk => ?_
    obtain ⟨⟨k0,k1⟩,kl,kh⟩ := hk
    obtain ⟨k,rfl⟩ : ∃ j : Nat,k = j := ⟨k.toNat,by omega⟩
    refine bN (P := fun (s : dO) => tX r (fun u => U u ∨ ∃ (m : Nat) (hm : m < v3.length),m < k ∧ u = kT a.teeth v3[m].teeth) s) ?_ fun v54 h54 => ?_
    ·refine dF (fun hk => ?_) fun hk => aH (kR hs fun u hu => ?_)
     ·obtain ⟨q,hq⟩ : ∃ q : Nat,(k : Int) - 1 = q := ⟨k - 1,by omega⟩
      rw [aU (x := (k : Int) - 1) (by omega) (by omega),hq]
      have hq1 : q < v3.length := by omega
      rw [fB hq1,Option.bind_some]
      refine dH (I := fun (x : Int × dO) => (-1 ≤ x.1 ∧ x.1 ≤ q) ∧ tX r (fun u => U u ∨ ∃ (m : Nat) (hm : m < v3.length),x.1 < m ∧ m ≤ q ∧ u = kT a.teeth v3[m].teeth) x.2) (m := fun x => (x.1 + 1).toNat) ?_ _ ⟨⟨by dsimp only; omega,by dsimp only; omega⟩,kR hs fun u hu => ?_⟩ (by dsimp only; omega)
      ·rintro ⟨j,u⟩ ⟨⟨j0,j1⟩,hu⟩
       dsimp only at j0 j1 hu ⊢
       have stop : (∀ (m : Nat) (hm : m < v3.length),(m : Int) ≤ j → v3[m].value < v3[q].value) → (j < q) → tX r (fun u => U u ∨ ∃ (m : Nat) (hm : m < v3.length),m < k ∧ u = kT a.teeth v3[m].teeth) u := fun hlow hjq => aE0 hu fun x hx => by
        rcases hx with hx | ⟨m,hm,mk,rfl⟩
        ·exact .inl (.inl hx)
        ·rcases Int.lt_or_le j m with hjm | hjm
         ·exact .inl (.inr ⟨m,hm,hjm,by omega,rfl⟩)
         ·refine .inr ⟨kT a.teeth v3[q].teeth, .inr ⟨q,hq1,hjq,Nat.le_refl _,rfl⟩,(aDu pn (p3 _ (List.getElem_mem hq1))).1,aRz m q hm hq1 ?_⟩
          exact aHj ad.1 (by omega) (hlow m hm hjm) (wl _ (kl q hq1 (by omega)))
       by_cases hj : 0 ≤ j
       ·obtain ⟨m,rfl⟩ : ∃ m : Nat,j = m := ⟨j.toNat,by omega⟩
        have hm : m < v3.length := by omega
        rw [if_pos hj]
        simp only [fB hm,Option.bind_some]
        refine dF (fun _ => bN (aEl hr pn (p3 _ (List.getElem_mem hm)) hu) fun w hw => aH (.inl ⟨_,rfl,?_⟩)) fun hne => aH (.inr ⟨_,rfl,stop ?_ ?_⟩)
        ·dsimp only
         rw [aU (x := (m : Int) - 1) (by omega) (by omega)]
         refine ⟨⟨⟨by omega,by omega⟩,kR hw fun x hx => ?_⟩,by omega⟩
         rcases hx with hx | ⟨m',hm',g1,g2,rfl⟩
         ·exact .inl (.inl hx)
         ·rcases Nat.lt_or_ge m m' with g | g
          ·exact .inl (.inr ⟨m',hm',by omega,g2,rfl⟩)
          ·have : m' = m := by omega
           subst this
           exact .inr rfl
        ·intro m' hm' hle
         have a1 := gD hS (i := m') (j := m) (by omega) hm
         have a2 := gD hS (i := m) (j := q) (by omega) hq1
         have a3 : v3[m].value ≠ v3[q].value := fun e => hne (decide_eq_true e)
         omega
        ·rcases Nat.lt_or_ge m q with g | g
         ·omega
         ·have : m = q := by omega
          subst this
          exact absurd (decide_eq_true rfl) hne
       ·rw [if_neg hj,Option.bind_some,if_neg (by decide)]
        exact aH (.inr ⟨_,rfl,stop (fun m hm hle => by omega) (by omega)⟩)
      ·rcases hu with hu | ⟨m,hm,g1,g2,rfl⟩
       ·exact hu
       ·dsimp only at g1; omega
     ·rcases hu with hu | ⟨m,hm,g,rfl⟩
      ·exact hu
      ·omega
    ·refine dH (I := fun (x : Int × dO) => (k ≤ x.1 ∧ x.1 ≤ v3.length) ∧ tX r (fun u => U u ∨ ∃ (m : Nat) (hm : m < v3.length),(m : Int) < x.1 ∧ u = kT a.teeth v3[m].teeth) x.2) (m := fun x => (v3.length - x.1).toNat) ?_ _ ⟨⟨by dsimp only; omega,by dsimp only; omega⟩,kR h54 fun u hu => ?_⟩ (by dsimp only; omega)
     ·rintro ⟨j,u⟩ ⟨⟨j0,j1⟩,hu⟩
      dsimp only at j0 j1 hu ⊢
      by_cases hj : j < v3.length
      ·obtain ⟨m,rfl⟩ : ∃ m : Nat,j = m := ⟨j.toNat,by omega⟩
       have hm : m < v3.length := by omega
       have hkl : k < v3.length := by omega
       rw [if_pos hj]
       simp only [fB hm,fB hkl,Option.bind_some]
       refine dF (fun _ => bN (aEl hr pn (p3 _ (List.getElem_mem hm)) hu) fun w hw => aH (.inl ⟨_,rfl,?_⟩)) fun hne => aH (.inr ⟨_,rfl,?_⟩)
       ·dsimp only
        rw [aU (x := (m : Int) + 1) (by omega) (by omega)]
        refine ⟨⟨⟨by omega,by omega⟩,kR hw fun x hx => ?_⟩,by omega⟩
        rcases hx with hx | ⟨m',hm',g1,rfl⟩
        ·exact .inl (.inl hx)
        ·rcases Nat.lt_or_ge m' m with g | g
         ·exact .inl (.inr ⟨m',hm',by omega,rfl⟩)
         ·have : m' = m := by omega
          subst this
          exact .inr rfl
       ·have a3 : v3[m].value ≠ v3[k].value := fun e => hne (decide_eq_true e)
        have hkm : k < m := by
         rcases Nat.lt_or_ge k m with g | g
         ·exact g
         ·have : m = k := by omega
          subst this
          exact absurd rfl a3
        refine aE0 hu fun x hx => ?_
        rcases hx with hx | ⟨m',hm',rfl⟩
        ·exact .inl (.inl hx)
        ·rcases Nat.lt_or_ge m' m with g | g
         ·exact .inl (.inr ⟨m',hm',by omega,rfl⟩)
         ·refine .inr ⟨kT a.teeth v3[k].teeth, .inr ⟨k,hkl,by omega,rfl⟩,(aDu pn (p3 _ (List.getElem_mem hkl))).1,aRz m' k hm' hkl ?_⟩
          have a1 := gD hS (i := k) (j := m) (by omega) hm
          have a2 := gD hS (i := m) (j := m') (by omega) hm'
          exact aFd ad.1 (by omega) (by omega) (wh _ (kh k hkl (Int.le_refl _)))
      ·rw [if_neg hj,Option.bind_some,if_neg (by decide)]
       refine aH (.inr ⟨_,rfl,kR hu fun x hx => ?_⟩)
       rcases hx with hx | ⟨m',hm',rfl⟩
       ·exact .inl hx
       ·exact .inr ⟨m',hm',by omega,rfl⟩
     ·rcases hu with hu | ⟨m,hm,g,rfl⟩
      ·exact .inl hu
      ·dsimp only at g; exact .inr ⟨m,hm,by omega,rfl⟩
   ·dsimp only
    rw [aU (x := (n : Int) + 1) (by omega) (by omega)]
    refine ⟨⟨⟨by omega,by omega⟩,kR h69 fun u hu => ?_⟩,by omega⟩
    obtain ⟨k,hk,g,m,hm,rfl⟩ := hu
    rcases Nat.lt_or_ge k n with q | q
    ·left; rw [hU]; exact ⟨k,hk,by omega,m,hm,rfl⟩
    ·have : k = n := by omega
     subst this
     right; exact ⟨m,hm,by rw [ea]⟩
  ·obtain ⟨n,hn,m,hm,rfl⟩ := hu
   exact ⟨n,hn,by omega,m,hm,rfl⟩
 ·rcases h70 with ⟨_,h⟩ | ⟨g1,_,_,g4⟩
  ·exact absurd (full _ c0) (h _)
  ·exact ⟨g1,fun u hu => g4 u (full u hu) hu⟩
end Go.Proofs.YtgcdbbidmfdonaaGreat
namespace Go.Proofs.YtgcdbbidmfdonaaGreat
set_option linter.unusedVariables false
set_option maxRecDepth 100000
def zG (a b : Int) : Int := if a < b then -1 else if b < a then 1 else 0
theorem aB4 {a b : Int} : zG a b < 0 ↔ a < b := by
 unfold zG
 repeat' split
 all_goals omega
theorem aCe {a b : Int} : zG a b = 0 ↔ a = b := by
 unfold zG
 repeat' split
 all_goals omega
theorem aFf (a b : Int) : cU a b = some (zG a b) := by
 unfold cU gR zG
 simp only [ne_eq,not_true_eq_false,decide_false,Option.bind_some,Bool.false_eq_true,if_false]
 repeat' split
 all_goals rfl
theorem aRo (a b : Int) : kO [a,b] = some (if a ≠ 0 then a else b) := by
 have key : Ok (kO [a,b]) (fun r => r = if a ≠ 0 then a else b) := by
  unfold kO
  refine bN (P := fun (x : Unit ⊕ Int) => x = if a ≠ 0 then .inr a else if b ≠ 0 then .inr b else .inl ()) ?_ fun x hx => ?_
  ·refine dH (I := fun (s : Int) => s = 0 ∨ (s = 1 ∧ a = 0) ∨ (s = 2 ∧ a = 0 ∧ b = 0)) (m := fun s => (2 - s).toNat) ?_ _ (.inl rfl) (by decide)
   rintro s (rfl | ⟨rfl,rfl⟩ | ⟨rfl,rfl,rfl⟩)
   ·show Ok (if a ≠ 0 then some (Sum.inr (Sum.inr a)) else some (Sum.inl (w64 (0 + 1)))) _
    refine dF (fun h => aH (.inr ⟨_,rfl,by rw [if_pos h]⟩)) fun h => aH (.inl ⟨_,rfl, .inr (.inl ⟨rfl,by omega⟩),by decide⟩)
   ·show Ok (if b ≠ 0 then some (Sum.inr (Sum.inr b)) else some (Sum.inl (w64 (1 + 1)))) _
    refine dF (fun h => aH (.inr ⟨_,rfl,by rw [if_neg (by decide),if_pos h]⟩)) fun h => aH (.inl ⟨_,rfl, .inr (.inr ⟨rfl,rfl,by omega⟩),by decide⟩)
   ·exact aH (.inr ⟨_,rfl,rfl⟩)
  ·subst hx
   by_cases ha : a ≠ 0
   ·rw [if_pos ha,if_pos ha]; exact aH rfl
   ·rw [if_neg ha,if_neg ha]
    by_cases hb : b ≠ 0
    ·rw [if_pos hb]; exact aH rfl
    ·rw [if_neg hb]; exact aH (by show (0 : Int) = b; omega)
 obtain ⟨r,h,rfl⟩ := key
 exact h
theorem aHn (p q : bL) : dP p q = some (if zG p.Driver q.Driver ≠ 0 then zG p.Driver q.Driver else zG p.Driven q.Driven) := by
 unfold dP
 rw [aFf,Option.bind_some,aFf,Option.bind_some,aRo,Option.bind_some]
theorem aEj (x y : bL) (hx : 0 ≤ x.Driver ∧ x.Driver ≤ 240 ∧ 0 ≤ x.Driven ∧ x.Driven ≤ 240) (hy : 0 ≤ y.Driver ∧ y.Driver ≤ 240 ∧ 0 ≤ y.Driven ∧ y.Driven ≤ 240) : kI [x,y] = some (x.Driver + x.Driven + (y.Driver + y.Driven)) := by
 have key : Ok (kI [x,y]) (fun t => t = x.Driver + x.Driven + (y.Driver + y.Driven)) := by
  unfold kI
  refine bN (P := fun t => t = x.Driver + x.Driven + (y.Driver + y.Driven)) ?_ fun t h => aH h
  refine dH (I := fun (s : Int × Int) => (s.2 = 0 ∧ s.1 = 0) ∨ (s.2 = 1 ∧ s.1 = x.Driver + x.Driven) ∨ (s.2 = 2 ∧ s.1 = x.Driver + x.Driven + (y.Driver + y.Driven))) (m := fun s => (2 - s.2).toNat) ?_ _ (.inl ⟨rfl,rfl⟩) (by decide)
  rintro ⟨k,i⟩ h
  dsimp only at h ⊢
  rcases h with ⟨rfl,rfl⟩ | ⟨rfl,rfl⟩ | ⟨rfl,rfl⟩
  ·show Ok (some (Sum.inl (w64 (0 + w64 (x.Driver + x.Driven)),w64 (0 + 1)))) _
   rw [aU (x := x.Driver + x.Driven) (by omega) (by omega),aU (x := 0 + _) (by omega) (by omega)]
   exact aH (.inl ⟨_,rfl, .inr (.inl ⟨rfl,by dsimp only; omega⟩),by show (2 - w64 (0 + 1)).toNat < (2 - 0 : Int).toNat; decide⟩)
  ·show Ok (some (Sum.inl (w64 (x.Driver + x.Driven + w64 (y.Driver + y.Driven)),w64 (1 + 1)))) _
   rw [aU (x := y.Driver + y.Driven) (by omega) (by omega),aU (x := _ + (_ + _)) (by omega) (by omega)]
   exact aH (.inl ⟨_,rfl, .inr (.inr ⟨rfl,rfl⟩),by show (2 - w64 (1 + 1)).toNat < (2 - 1 : Int).toNat; decide⟩)
  ·exact aH (.inr ⟨_,rfl,rfl⟩)
 obtain ⟨t,ht,rfl⟩ := key
 exact ht
theorem aPo (x y z w : bL) : aX [x,y] [z,w] = some (aAl [(x.Driver,z.Driver),(x.Driven,z.Driven),(y.Driver,w.Driver),(y.Driven,w.Driven)]) := by
 have key : Ok (aX [x,y] [z,w]) (fun r => r = aAl [(x.Driver,z.Driver),(x.Driven,z.Driven),(y.Driver,w.Driver),(y.Driven,w.Driven)]) := by
  have one : ∀ (p q : bL) (r : List (Int × Int)),(if zG p.Driver q.Driver ≠ 0 then zG p.Driver q.Driver else zG p.Driven q.Driven) ≠ 0 → aAl ((p.Driver,q.Driver) :: (p.Driven,q.Driven) :: r) = if zG p.Driver q.Driver ≠ 0 then zG p.Driver q.Driver else zG p.Driven q.Driven := fun p q r h => by
   unfold zG at h ⊢
   simp only [aAl]
   repeat' split
   all_goals first | rfl | omega | (exfalso; revert h; repeat' split; all_goals omega)
  have two : ∀ (p q : bL) (r : List (Int × Int)), ¬ (if zG p.Driver q.Driver ≠ 0 then zG p.Driver q.Driver else zG p.Driven q.Driven) ≠ 0 → aAl ((p.Driver,q.Driver) :: (p.Driven,q.Driven) :: r) = aAl r := fun p q r h => by
   have h1 : p.Driver = q.Driver ∧ p.Driven = q.Driven := by
    by_cases g : zG p.Driver q.Driver ≠ 0
    ·rw [if_pos g] at h; exact absurd g h
    ·rw [if_neg g] at h
     exact ⟨aCe.1 (by omega),aCe.1 (by omega)⟩
   simp only [aAl,h1.1,h1.2,Int.lt_irrefl,if_false]
  unfold aX
  refine bN (P := fun (v : Unit ⊕ Int) => (∃ r,v = .inr r ∧ r = aAl [(x.Driver,z.Driver),(x.Driven,z.Driven),(y.Driver,w.Driver),(y.Driven,w.Driven)]) ∨ (v = .inl () ∧ 0 = aAl [(x.Driver,z.Driver),(x.Driven,z.Driven),(y.Driver,w.Driver),(y.Driven,w.Driven)])) ?_ fun v hv => ?_
  ·refine dH (I := fun (s : Int) => s = 0 ∨ (s = 1 ∧ aAl [(x.Driver,z.Driver),(x.Driven,z.Driven),(y.Driver,w.Driver),(y.Driven,w.Driven)] = aAl [(y.Driver,w.Driver),(y.Driven,w.Driven)]) ∨ (s = 2 ∧ aAl [(x.Driver,z.Driver),(x.Driven,z.Driven),(y.Driver,w.Driver),(y.Driven,w.Driven)] = 0)) (m := fun s => (2 - s).toNat) ?_ _ (.inl rfl) (by decide)
   rintro s (rfl | ⟨rfl,h⟩ | ⟨rfl,h⟩)
   ·show Ok ((dP x z).bind fun v8 => if v8 ≠ 0 then some (Sum.inr (Sum.inr v8)) else some (Sum.inl (w64 (0 + 1)))) _
    rw [aHn,Option.bind_some]
    refine dF (fun h => aH (.inr ⟨_,rfl, .inl ⟨_,rfl,(one _ _ _ h).symm⟩⟩)) fun h => aH (.inl ⟨_,rfl, .inr (.inl ⟨rfl,two _ _ _ h⟩),by decide⟩)
   ·show Ok ((dP y w).bind fun v8 => if v8 ≠ 0 then some (Sum.inr (Sum.inr v8)) else some (Sum.inl (w64 (1 + 1)))) _
    rw [aHn,Option.bind_some]
    refine dF (fun g => aH (.inr ⟨_,rfl, .inl ⟨_,rfl,?_⟩⟩)) fun g => aH (.inl ⟨_,rfl, .inr (.inr ⟨rfl,?_⟩),by decide⟩)
    ·rw [h]; exact (one _ _ _ g).symm
    ·rw [h]; exact two _ _ _ g
   ·exact aH (.inr ⟨_,rfl, .inr ⟨rfl,h.symm⟩⟩)
  ·rcases hv with ⟨r,rfl,rfl⟩ | ⟨rfl,h⟩
   ·exact aH rfl
   ·exact aH h
 obtain ⟨r,h,rfl⟩ := key
 exact h
theorem aFa {t u : List bL} (ht : fF t) (hu : fF u) : Ok (gO t u) (fun r => r < 0 ↔ ltT t u) := by
 rw [show (fun r : Int => (r < 0 ↔ ltT t u)) = fun r => (r < 0 ↔ aAl (aP6 t u) < 0) from funext fun r => by rw [aKv ht hu]]
 obtain ⟨a,b,c,d,rfl,⟨a1,a2,a3⟩,a4,a5,a6⟩ := ht
 obtain ⟨e,f,g,h,rfl,⟨b1,b2,b3⟩,b4,b5,b6⟩ := hu
 unfold gO
 rw [aEj _ _ (by dsimp only; omega) (by dsimp only; omega),Option.bind_some,aEj _ _ (by dsimp only; omega) (by dsimp only; omega),Option.bind_some,aFf,Option.bind_some,aPo,Option.bind_some]
 have e1 : aAl (aP6 [⟨b,c⟩,⟨a,d⟩] [⟨f,g⟩,⟨e,h⟩]) = if b + c + (a + d) < f + g + (e + h) then -1 else if f + g + (e + h) < b + c + (a + d) then 1 else aAl [(b,f),(c,g),(a,e),(d,h)] := rfl
 rw [e1]
 dsimp only
 unfold zG
 repeat' split
 all_goals first | exact aH Iff.rfl | (exfalso; omega)
theorem aAs (x y c d : Int) : hZ [x,y] [c,d] = some (kT [x,y] [c,d]) := by
 have key : Ok (hZ [x,y] [c,d]) (fun t => t = kT [x,y] [c,d]) := by
  unfold hZ
  rw [aG7 (by simp),Option.bind_some]
  refine bN (P := fun v => v = [y,x]) ?_ fun v hv => ?_
  ·unfold dK
   refine dH (I := fun (s : Int × Int × List Int) => (s.1 = 0 ∧ s.2.1 = 1 ∧ s.2.2 = [x,y]) ∨ (s.1 = 1 ∧ s.2.1 = 0 ∧ s.2.2 = [y,x])) (m := fun s => (1 - s.1).toNat) ?_ _ (.inl ⟨rfl,rfl,rfl⟩) (by show (1 - 0 : Int).toNat < 1180591620717411303424; decide)
   rintro ⟨i,j,v⟩ h
   dsimp only at h
   rcases h with ⟨rfl,rfl,rfl⟩ | ⟨rfl,rfl,rfl⟩
   ·exact aH (.inl ⟨_,rfl, .inr ⟨rfl,rfl,rfl⟩,by show (1 - w64 (0 + 1)).toNat < (1 - 0 : Int).toNat; decide⟩)
   ·exact aH (.inr ⟨_,rfl,rfl⟩)
  ·subst hv
   refine iH rfl (bN (P := fun t => t = kT [x,y] [c,d]) ?_ fun t h => aH h)
   unfold tA
   refine bN (P := fun t => t = kT [x,y] [c,d]) ?_ fun t h => aH h
   refine dH (I := fun (s : Int × List bL) => (s.1 = 0 ∧ s.2 = []) ∨ (s.1 = 1 ∧ s.2 = [⟨y,c⟩]) ∨ (s.1 = 2 ∧ s.2 = [⟨y,c⟩,⟨x,d⟩])) (m := fun s => (2 - s.1).toNat) ?_ _ (.inl ⟨rfl,rfl⟩) (by show (2 - 0 : Int).toNat < 1180591620717411303424; decide)
   rintro ⟨i,v⟩ h
   dsimp only at h
   rcases h with ⟨rfl,rfl⟩ | ⟨rfl,rfl⟩ | ⟨rfl,rfl⟩
   ·exact aH (.inl ⟨_,rfl, .inr (.inl ⟨rfl,rfl⟩),by show (2 - w64 (0 + 1)).toNat < (2 - 0 : Int).toNat; decide⟩)
   ·exact aH (.inl ⟨_,rfl, .inr (.inr ⟨rfl,rfl⟩),by show (2 - w64 (1 + 1)).toNat < (2 - 1 : Int).toNat; decide⟩)
   ·exact aH (.inr ⟨_,rfl,rfl⟩)
 obtain ⟨t,h,rfl⟩ := key
 exact h
theorem aLf {ls : List (List Int)} : ∀ {acc : List Int} {p : Int},p ∈ ls.foldl (fun acc l => if cH l ∈ acc then acc else acc ++ [cH l]) acc ↔ p ∈ acc ∨ ∃ l ∈ ls,cH l = p := by
 induction ls with
 | nil => intro acc p; simp
 | cons l ls ih =>
  intro acc p
  rw [List.foldl_cons,ih]
  by_cases h : cH l ∈ acc
  ·rw [if_pos h]
   constructor
   ·rintro (q | ⟨m,hm,e⟩)
    ·exact .inl q
    ·exact .inr ⟨m,List.mem_cons_of_mem _ hm,e⟩
   ·rintro (q | ⟨m,hm,e⟩)
    ·exact .inl q
    ·rcases List.mem_cons.1 hm with rfl | hm
     ·exact .inl (e ▸ h)
     ·exact .inr ⟨m,hm,e⟩
  ·rw [if_neg h]
   constructor
   ·rintro (q | ⟨m,hm,e⟩)
    ·rcases List.mem_append.1 q with q | q
     ·exact .inl q
     ·exact .inr ⟨l,List.mem_cons_self ..,(List.mem_singleton.1 q).symm⟩
    ·exact .inr ⟨m,List.mem_cons_of_mem _ hm,e⟩
   ·rintro (q | ⟨m,hm,e⟩)
    ·exact .inl (List.mem_append.2 (.inl q))
    ·rcases List.mem_cons.1 hm with rfl | hm
     ·exact .inl (List.mem_append.2 (.inr (by rw [e]; exact List.mem_singleton.2 rfl)))
     ·exact .inr ⟨m,hm,e⟩
theorem aLk {ls : List (List Int)} : ∀ {acc : List Int},(ls.foldl (fun acc l => if cH l ∈ acc then acc else acc ++ [cH l]) acc).length ≤ acc.length + ls.length := by
 induction ls with
 | nil => intro acc; simp
 | cons l ls ih =>
  intro acc
  rw [List.foldl_cons]
  refine Nat.le_trans ih ?_
  split
  ·simp
  ·simp; omega
def xJ (ls : List (List Int)) : List Int := xL (fS ls)
theorem tG {ls : List (List Int)} {p : Int} : p ∈ xJ ls ↔ ∃ l ∈ ls,cH l = p := by
 unfold xJ xL fS
 rw [List.mem_mergeSort,aLf]
 simp
theorem aHv (ls : List (List Int)) : (xJ ls).length ≤ ls.length := by
 unfold xJ
 rw [zN]
 have := aLk (ls := ls) (acc := [])
 unfold fS
 simpa using this
theorem aGv (ls : List (List Int)) : (xJ ls).Pairwise (· ≤ ·) := by
 unfold xJ xL
 have := List.pairwise_mergeSort (le := fun (x y : Int) => decide (x ≤ y)) (fun a b c h1 h2 => by simp at *; omega) (fun a b => by simp; omega) (fS ls)
 exact this.imp fun h => by simpa using h
theorem aH3 {xs : List Int} (h : xs.Pairwise (· ≤ ·)) {i j : Nat} (hij : i ≤ j) (hj : j < xs.length) : xs[i]'(by omega) ≤ xs[j] := by
 rcases Nat.lt_or_ge i j with q | q
 ·exact List.pairwise_iff_getElem.1 h i j (by omega) hj q
 ·have : i = j := by omega
  subst this; exact Int.le_refl _
theorem aQc {r : aM} (hr : aMe r) {xs : List Int} (hs : xs.Pairwise (· ≤ ·)) (hx : ∀ x ∈ xs,0 < x ∧ x ≤ 100) (hl : xs.length ≤ 1000) {p : Int} (hp : 0 < p ∧ p ≤ 7056) : Ok (bE xs p r) (fun k => (0 ≤ k.1 ∧ k.1 ≤ xs.length) ∧ (∀ (i : Nat) (hi : i < xs.length),(i : Int) < k.1 → xs[i] * r.Num ≤ p * r.Den) ∧ ∀ (i : Nat) (hi : i < xs.length),k.1 ≤ (i : Int) → p * r.Den ≤ xs[i] * r.Num) := by
 obtain ⟨⟨n0,n1⟩,d0,d1⟩ := hr
 have one : ∀ x,x ∈ xs → gK x p r = some (zG (x * r.Num) (p * r.Den)) := fun x h => by
  obtain ⟨⟨f0,f1⟩,⟨f2,f3⟩,_⟩ := aFe (r := r) (p := p) (q := x) (by omega) (by omega) hp (hx x h)
  unfold gK
  rw [aU (x := x * r.Num) (by omega) (by omega),aU (x := p * r.Den) (by omega) (by omega),aFf,Option.bind_some]
 have mono : ∀ {a b : Int},a ≤ b → a * r.Num ≤ b * r.Num := fun h => Int.mul_le_mul_of_nonneg_right h (by omega)
 unfold bE
 refine bN (P := fun (k : Int) => (0 ≤ k ∧ k ≤ xs.length) ∧ (∀ (i : Nat) (hi : i < xs.length),(i : Int) < k → xs[i] * r.Num ≤ p * r.Den) ∧ ∀ (i : Nat) (hi : i < xs.length),k ≤ (i : Int) → p * r.Den ≤ xs[i] * r.Num) ?_ fun k hk => dF (fun h => ?_) fun h => aH hk
 ·refine dH (I := fun (s : Int × Int) => (0 ≤ s.1 ∧ s.1 ≤ s.2 ∧ s.2 ≤ xs.length) ∧ (∀ (i : Nat) (hi : i < xs.length),(i : Int) < s.1 → xs[i] * r.Num ≤ p * r.Den) ∧ ∀ (i : Nat) (hi : i < xs.length),s.2 ≤ (i : Int) → p * r.Den ≤ xs[i] * r.Num) (m := fun s => (s.2 - s.1).toNat) ?_ _ ⟨⟨by dsimp only; omega,by dsimp only; omega,by dsimp only; omega⟩,fun i hi h => by dsimp only at h; omega,fun i hi h => by dsimp only at h; omega⟩ (by dsimp only; omega)
  rintro ⟨a,b⟩ ⟨⟨a0,ab,b1⟩,h1,h2⟩
  dsimp only at a0 ab b1 h1 h2 ⊢
  refine dF (fun h => ?_) fun h => aH (.inr ⟨_,rfl,⟨a0,by omega⟩,h1,fun i hi hh => h2 i hi (by omega)⟩)
  have e : w64 (aOb .u64 (IntKind.u64.wrap (w64 (a + b))) 1) = (a + b) / 2 := by
   rw [aU (x := a + b) (by omega) (by omega),aEh (by omega) (by omega)]
   have : aOb .u64 (a + b) 1 = (a + b) / 2 := by
    unfold aOb
    exact Int.fdiv_eq_ediv_of_nonneg _ (by decide)
   rw [this,aU (by omega) (by omega)]
  obtain ⟨m,hm⟩ : ∃ m : Nat,(a + b) / 2 = m := ⟨((a + b) / 2).toNat,by omega⟩
  have hml : m < xs.length := by omega
  rw [e,hm,fB hml,Option.bind_some,one _ (List.getElem_mem hml),Option.bind_some,aU (x := (m : Int) + 1) (by omega) (by omega)]
  refine dF (fun hv => aH (.inl ⟨_,rfl,⟨⟨by dsimp only; omega,by dsimp only; omega,b1⟩,fun i hi hh => ?_,h2⟩,by dsimp only; omega⟩)) fun hv => aH (.inl ⟨_,rfl,⟨⟨a0,by dsimp only; omega,by dsimp only; omega⟩,h1,fun i hi hh => ?_⟩,by dsimp only; omega⟩)
  ·dsimp only at hh
   have hv := aB4.1 hv
   have := mono (aH3 hs (i := i) (j := m) (by omega) (by omega))
   omega
  ·dsimp only at hh
   have hv : ¬ xs[m] * r.Num < p * r.Den := fun q => hv (aB4.2 q)
   have := mono (aH3 hs (i := m) (j := i) (by omega) hi)
   omega
 ·obtain ⟨j,rfl⟩ : ∃ j : Nat,k = j := ⟨k.toNat,by omega⟩
  have hj : j < xs.length := by omega
  rw [fB hj,Option.bind_some,one _ (List.getElem_mem hj),Option.bind_some]
  exact aH hk
end Go.Proofs.YtgcdbbidmfdonaaGreat
namespace Go.Proofs.YtgcdbbidmfdonaaGreat
set_option linter.unusedVariables false
set_option maxRecDepth 100000
def okM (r : aM) (P Q : List Int) (m : jI) : Prop := m.p ∈ P ∧ m.q ∈ Q ∧ m.far = lT r m.p m.q
def vC (r : aM) (P Q : List Int) (U : Int → Int → Prop) (B : List jI) : Prop :=
 (∀ m ∈ B,okM r P Q m) ∧ (∀ m ∈ B, ∀ m' ∈ B,m.far * m'.q = m'.far * m.q) ∧ ∀ p q,U p q → B ≠ [] ∧ (⟨p,q,lT r p q⟩ ∈ B ∨ ∀ m ∈ B,m.far * q < lT r p q * m.q)
theorem aJw {r : aM} {P Q : List Int} {U : Int → Int → Prop} (h : ∀ p q, ¬ U p q) : vC r P Q U [] := ⟨fun m hm => (by cases hm),fun m hm => (by cases hm),fun p q hu => absurd hu (h p q)⟩
theorem wG {r : aM} {P Q : List Int} {U V : Int → Int → Prop} {B : List jI} (h : vC r P Q U B) (k : ∀ p q,V p q → U p q) : vC r P Q V B := ⟨h.1,h.2.1,fun p q hv => h.2.2 p q (k p q hv)⟩
theorem aKc {r : aM} {P Q : List Int} (hQ : ∀ q ∈ Q,0 < q) {U V : Int → Int → Prop} {B : List jI} (h : vC r P Q U B) (k : ∀ p q,V p q → U p q ∨ (0 < q ∧ ∃ q',U p q' ∧ 0 < q' ∧ lT r p q' * q < lT r p q * q')) : vC r P Q V B := ⟨h.1,h.2.1,fun p q hv => by
 rcases k p q hv with q1 | ⟨q0,q',hu,h0,hl⟩
 ·exact h.2.2 p q q1
 ·obtain ⟨hne,hb⟩ := h.2.2 p q' hu
  refine ⟨hne, .inr fun m hm => ?_⟩
  have mq := hQ _ (h.1 m hm).2.1
  rcases hb with hb | hb
  ·have e := h.2.1 m hm _ hb
   dsimp only at e
   exact aBy mq h0 q0 (by omega) (by omega) (.inr hl)
  ·have e := hb m hm
   exact aBy mq h0 q0 (by omega) (by omega) (.inr hl)⟩
def aOe (m : jI) : List jI → List jI
 | [] => [m]
 | b :: r => if m.far * b.q < b.far * m.q then [m] else if m.far * b.q = b.far * m.q then (b :: r) ++ [m] else b :: r
theorem aPg {r : aM} {P Q : List Int} (hQ : ∀ q ∈ Q,0 < q) {U : Int → Int → Prop} {B : List jI} (h : vC r P Q U B) {p q : Int} (hp : p ∈ P) (hq : q ∈ Q) (hU : ∀ p q,U p q → 0 < q) : vC r P Q (fun p' q' => U p' q' ∨ (p' = p ∧ q' = q)) (aOe ⟨p,q,lT r p q⟩ B) := by
 have q0 := hQ q hq
 obtain ⟨h1,h2,h3⟩ := h
 have hm : okM r P Q ⟨p,q,lT r p q⟩ := ⟨hp,hq,rfl⟩
 match B,h1,h2,h3 with
 | [],h1,h2,h3 =>
  refine ⟨fun m hm' => ?_,fun m hm' m' hm'' => ?_,fun p' q' hu => ?_⟩
  ·rw [List.mem_singleton.1 hm']; exact hm
  ·rw [List.mem_singleton.1 hm',List.mem_singleton.1 hm'']
  ·rcases hu with hu | ⟨rfl,rfl⟩
   ·exact absurd rfl (h3 p' q' hu).1
   ·exact ⟨by simp [aOe], .inl (by simp [aOe])⟩
 | b :: B,h1,h2,h3 =>
  have bq := hQ _ (h1 b (List.mem_cons_self ..)).2.1
  unfold aOe
  dsimp only
  by_cases c1 : lT r p q * b.q < b.far * q
  ·rw [if_pos c1]
   refine ⟨fun m hm' => ?_,fun m hm' m' hm'' => ?_,fun p' q' hu => ⟨by simp,?_⟩⟩
   ·rw [List.mem_singleton.1 hm']; exact hm
   ·rw [List.mem_singleton.1 hm',List.mem_singleton.1 hm'']
   ·rcases hu with hu | ⟨rfl,rfl⟩
    ·right
     intro m hm'
     rw [List.mem_singleton.1 hm']
     dsimp only
     have q'0 := hU p' q' hu
     rcases (h3 p' q' hu).2 with e | e
     ·have e := h2 _ e b (List.mem_cons_self ..)
      dsimp only at e
      exact aBy q0 bq q'0 (by omega) (by omega) (.inl c1)
     ·have e := e b (List.mem_cons_self ..)
      exact aBy q0 bq q'0 (by omega) (by omega) (.inl c1)
    ·exact .inl (List.mem_singleton.2 rfl)
  ·rw [if_neg c1]
   by_cases c2 : lT r p q * b.q = b.far * q
   ·rw [if_pos c2]
    have eqb : ∀ m ∈ b :: B,lT r p q * m.q = m.far * q := fun m hm' => by
     have mq := hQ _ (h1 m hm').2.1
     have e := h2 m hm' b (List.mem_cons_self ..)
     have a1 := aLz q0 bq mq (a := lT r p q) (b := b.far) (c := m.far) (by omega) (by omega)
     have a2 := aLz mq bq q0 (a := m.far) (b := b.far) (c := lT r p q) (by omega) (by omega)
     omega
    refine ⟨fun m hm' => ?_,fun m hm' m' hm'' => ?_,fun p' q' hu => ⟨by simp,?_⟩⟩
    ·rcases List.mem_append.1 hm' with g | g
     ·exact h1 m g
     ·rw [List.mem_singleton.1 g]; exact hm
    ·rcases List.mem_append.1 hm' with g | g
     ·rcases List.mem_append.1 hm'' with g2 | g2
      ·exact h2 m g m' g2
      ·rw [List.mem_singleton.1 g2]; exact (eqb m g).symm
     ·rw [List.mem_singleton.1 g]
      rcases List.mem_append.1 hm'' with g2 | g2
      ·exact eqb m' g2
      ·rw [List.mem_singleton.1 g2]
    ·rcases hu with hu | ⟨rfl,rfl⟩
     ·rcases (h3 p' q' hu).2 with e | e
      ·exact .inl (List.mem_append.2 (.inl e))
      ·right
       intro m hm'
       rcases List.mem_append.1 hm' with g | g
       ·exact e m g
       ·rw [List.mem_singleton.1 g]
        have e := e b (List.mem_cons_self ..)
        exact aBy (a := lT r p q) (b := b.far) (c := lT r p' q') (p := q) (q := b.q) q0 bq (hU p' q' hu) (by omega) (by omega) (.inr e)
     ·exact .inl (List.mem_append.2 (.inr (List.mem_singleton.2 rfl)))
   ·rw [if_neg c2]
    refine ⟨h1,h2,fun p' q' hu => ⟨by simp,?_⟩⟩
    rcases hu with hu | ⟨rfl,rfl⟩
    ·exact (h3 p' q' hu).2
    ·right
     intro m hm'
     have mq := hQ _ (h1 m hm').2.1
     have e := h2 m hm' b (List.mem_cons_self ..)
     exact aBy (a := m.far) (b := b.far) (p := m.q) (q := b.q) mq bq q0 (by omega) (by omega) (.inr (by omega))
theorem aMw (m : jI) (B : List jI) : (aOe m B).length ≤ B.length + 1 := by
 unfold aOe
 split
 ·simp
 ·split
  ·simp
  ·split <;> simp
def vB (W : List bL → Prop) (t : List bL) : Prop := (t = [] ∧ ∀ u, ¬ W u) ∨ (fF t ∧ W t ∧ ∀ u,W u → ¬ ltT u t)
theorem qL {W V : List bL → Prop} {t : List bL} (h : vB W t) (k : ∀ u,W u ↔ V u) : vB V t := by
 rcases h with ⟨h1,h2⟩ | ⟨h1,h2,h3⟩
 ·exact .inl ⟨h1,fun u hu => h2 u ((k u).2 hu)⟩
 ·exact .inr ⟨h1,(k t).1 h2,fun u hu => h3 u ((k u).2 hu)⟩
theorem aGc {α σ : Type} {xs : List α} {step : σ × Int → Option ((σ × Int) ⊕ σ)} (I : Nat → σ → Prop) (hl : xs.length ≤ 1000000) (hS : ∀ (n : Nat) (hn : n < xs.length) s,I n s → Ok (step (s,(n : Int))) (fun y => ∃ s',y = .inl (s',w64 ((n : Int) + 1)) ∧ I (n + 1) s')) (hE : ∀ s,step (s,(xs.length : Int)) = some (.inr s)) {s0 : σ} (h0 : I 0 s0) : Ok (cE step (s0,0)) (I xs.length) := by
 refine dH (I := fun (s : σ × Int) => (0 ≤ s.2 ∧ s.2 ≤ xs.length) ∧ I s.2.toNat s.1) (m := fun s => (xs.length - s.2).toNat) ?_ _ ⟨⟨by dsimp only; omega,by dsimp only; omega⟩,h0⟩ (by dsimp only; omega)
 rintro ⟨s,i⟩ ⟨⟨i0,i1⟩,hs⟩
 dsimp only at i0 i1 hs ⊢
 obtain ⟨n,rfl⟩ : ∃ n : Nat,i = n := ⟨i.toNat,by omega⟩
 rw [Int.toNat_natCast] at hs
 rcases Nat.lt_or_ge n xs.length with hn | hn
 ·refine aBw (hS n hn s hs) fun y hy => ?_
  obtain ⟨s',rfl,h⟩ := hy
  rw [aU (x := (n : Int) + 1) (by omega) (by omega)]
  exact .inl ⟨_,rfl,⟨⟨by dsimp only; omega,by dsimp only; omega⟩,by rw [show ((n : Int) + 1).toNat = n + 1 by omega]; exact h⟩,by dsimp only; omega⟩
 ·have : n = xs.length := by omega
  subst this
  rw [hE]
  exact aH (.inr ⟨_,rfl,hs⟩)
theorem mO {α : Type} {xs : List α} {n : Nat} (hn : n < xs.length) {x : α} : x ∈ xs.take (n + 1) ↔ x ∈ xs.take n ∨ x = xs[n] := by
 rw [qM hn,List.mem_append,List.mem_singleton]
theorem aDk {r : aM} (hr : aMe r) : Ok (jT r ⟨60,84,7,10,2⟩) (fun t => fF t ∧ ∀ u,fF u → ¬ pA r u t) := by
  have hr' := hr
  obtain ⟨⟨n0,n1⟩,d0,d1⟩ := hr'
  obtain ⟨A,hA⟩ : ∃ A,A = bS 60 84 2 := ⟨_,rfl⟩
  obtain ⟨C,hC⟩ : ∃ C,C = bS 7 10 2 := ⟨_,rfl⟩
  have lA : A.length = 325 := by rw [hA]; decide
  have lC : C.length = 10 := by rw [hC]; decide
  have e1 : mN 60 84 2 = some ⟨xJ A,dX A⟩ := by rw [hA]; unfold mN; exact gW (by decide)
  have e2 : mN 7 10 2 = some ⟨xJ C,dX C⟩ := by rw [hC]; unfold mN; exact gW (by decide)
  have mA : ∀ l ∈ A, ∃ x y : Int,l = [x,y] ∧ 60 ≤ x ∧ x ≤ y ∧ y ≤ 84 := fun l h => aBl.1 (hA ▸ h)
  have mC : ∀ l ∈ C, ∃ x y : Int,l = [x,y] ∧ 7 ≤ x ∧ x ≤ y ∧ y ≤ 10 := fun l h => aBl.1 (hC ▸ h)
  have iA : ∀ x y : Int,60 ≤ x → x ≤ y → y ≤ 84 → [x,y] ∈ A := fun x y a b c => by rw [hA]; exact aBl.2 ⟨x,y,rfl,a,b,c⟩
  have iC : ∀ x y : Int,7 ≤ x → x ≤ y → y ≤ 10 → [x,y] ∈ C := fun x y a b c => by rw [hC]; exact aBl.2 ⟨x,y,rfl,a,b,c⟩
  clear hA hC
  have can : ∀ a ∈ A, ∀ b ∈ C,fF (kT a b) ∧ pT (kT a b) = cH a ∧ qT (kT a b) = cH b ∧ hZ a b = some (kT a b) := fun a ha b hb => by
    obtain ⟨x,y,rfl,h1,h2,h3⟩ := mA a ha
    obtain ⟨c,d,rfl,h4,h5,h6⟩ := mC b hb
    exact ⟨⟨x,y,c,d,rfl,⟨h1,h2,h3⟩,h4,h5,h6⟩,by simp [kT,pT,cH],by simp [kT,qT,cH],aAs x y c d⟩
  have pP : ∀ p ∈ xJ A,0 < p ∧ p ≤ 7056 := fun p hp => by
    obtain ⟨l,hl,rfl⟩ := tG.1 hp
    obtain ⟨x,y,rfl,h1,h2,h3⟩ := mA l hl
    have := tO (a := x) (b := y) (A := 84) (B := 84) (by omega) (by omega) (by omega) (by omega)
    simpa [cH] using this
  have pQ : ∀ q ∈ xJ C,0 < q ∧ q ≤ 100 := fun p hp => by
    obtain ⟨l,hl,rfl⟩ := tG.1 hp
    obtain ⟨x,y,rfl,h1,h2,h3⟩ := mC l hl
    have := tO (a := x) (b := y) (A := 10) (B := 10) (by omega) (by omega) (by omega) (by omega)
    simpa [cH] using this
  have lP := aHv A
  have lQ := aHv C
  have sQ := aGv C
  obtain ⟨P,hP⟩ : ∃ P,P = xJ A := ⟨_,rfl⟩
  obtain ⟨Q,hQ⟩ : ∃ Q,Q = xJ C := ⟨_,rfl⟩
  have fP : ∀ l ∈ A,cH l ∈ P := fun l h => by rw [hP]; exact tG.2 ⟨l,h,rfl⟩
  have fQ : ∀ l ∈ C,cH l ∈ Q := fun l h => by rw [hQ]; exact tG.2 ⟨l,h,rfl⟩
  have gP : ∀ p ∈ P, ∃ l ∈ A,cH l = p := fun p h => tG.1 (hP ▸ h)
  have gQ : ∀ p ∈ Q, ∃ l ∈ C,cH l = p := fun p h => tG.1 (hQ ▸ h)
  unfold jT
  dsimp only
  rw [e1,Option.bind_some,e2,Option.bind_some]
  dsimp only
  rw [← hP] at pP lP ⊢
  rw [← hQ] at pQ lQ sQ ⊢
  clear hP hQ e1 e2
  have qpos : ∀ q ∈ Q,0 < q := fun q h => (pQ q h).1
  -- the least misses
  refine bN (P := fun (B : List jI) => B.length ≤ 1000000 ∧ vC r P Q (fun p q => p ∈ P ∧ q ∈ Q) B) ?_ fun B hB => ?_
  · refine dH (I := fun (s : Int × List jI) => (0 ≤ s.1 ∧ s.1 ≤ P.length) ∧ (s.2.length : Int) ≤ 20 * s.1 ∧ vC r P Q (fun p q => p ∈ P.take s.1.toNat ∧ q ∈ Q) s.2) (m := fun s => (P.length - s.1).toNat) ?_ _ ⟨⟨by dsimp only; omega,by dsimp only; omega⟩,by simp,aJw fun p q h => by simp at h⟩ (by dsimp only; omega)
    rintro ⟨i,B⟩ ⟨⟨i0,i1⟩,bl,hB⟩
    dsimp only at i0 i1 bl hB ⊢
    refine dF (fun hi => ?_) fun hi => aH (.inr ⟨_,rfl,by omega,?_⟩)
    · obtain ⟨n,rfl⟩ : ∃ n : Nat,i = n := ⟨i.toNat,by omega⟩
      have hn : n < P.length := by omega
      rw [Int.toNat_natCast] at hB
      rw [fB hn,Option.bind_some]
      have hpn := List.getElem_mem hn
      have bp := pP _ hpn
      obtain ⟨p,hp⟩ : ∃ p,p = P[n] := ⟨_,rfl⟩
      rw [← hp] at hpn bp ⊢
      have pd : 0 < p * r.Den := Int.mul_pos bp.1 (by omega)
      refine bN (P := fun (B : List jI) => (B.length : Int) ≤ 20 * (n + 1) ∧ vC r P Q (fun p' q => p' ∈ P.take (n + 1) ∧ q ∈ Q) B) ?_ fun B' hB' => aH (.inl ⟨_,rfl,?_⟩)
      · refine bN (aQc hr sQ pQ (by omega) bp) fun k hk => ?_
        obtain ⟨⟨k0,k1⟩,kl,kh⟩ := hk
        obtain ⟨k,kb⟩ := k
        dsimp only at k0 k1 kl kh ⊢
        obtain ⟨k,rfl⟩ : ∃ j : Nat,k = j := ⟨k.toNat,by omega⟩
        obtain ⟨j0,hj0⟩ : ∃ j0 : Nat,max (w64 ((k : Int) - 1)) 0 = j0 ∧ j0 ≤ k ∧ (k ≤ j0 + 1) ∧ (0 < k → j0 + 1 = k) := by
          rw [aU (x := (k : Int) - 1) (by omega) (by omega)]
          exact ⟨k - 1,by omega,by omega,by omega,by omega⟩
        obtain ⟨hj,jk,kj,kj2⟩ := hj0
        rw [hj]
        -- what is not tried is worse
        have fin : ∀ (j : Nat),(k < j ∨ Q.length ≤ j) → ∀ B',vC r P Q (fun p' q => (p' ∈ P.take n ∧ q ∈ Q) ∨ (p' = p ∧ ∃ (m : Nat) (hm : m < Q.length),j0 ≤ m ∧ m < j ∧ q = Q[m])) B' → vC r P Q (fun p' q => p' ∈ P.take (n + 1) ∧ q ∈ Q) B' := fun j hjk B' h => by
          refine aKc qpos h fun p' q hv => ?_
          obtain ⟨hv,hq⟩ := hv
          rcases (mO hn).1 hv with hv | hv
          · exact .inl (.inl ⟨hv,hq⟩)
          · rw [← hp] at hv
            subst hv
            obtain ⟨m,hm,rfl⟩ := List.getElem_of_mem hq
            have qm := pQ _ hq
            have dec : ∀ (m' : Nat) (hm' : m' < Q.length),j0 ≤ m' → m' < j → Q[m'] ≠ Q[m] → ((m' < k ∧ Q[m] < Q[m']) ∨ (k ≤ m' ∧ Q[m'] < Q[m])) → (0 < Q[m] ∧ ∃ q',((p' ∈ P.take n ∧ q' ∈ Q) ∨ (p' = p' ∧ ∃ (m : Nat) (hm : m < Q.length),j0 ≤ m ∧ m < j ∧ q' = Q[m])) ∧ 0 < q' ∧ lT r p' q' * Q[m] < lT r p' Q[m] * q') := fun m' hm' a1 a2 a3 a4 => by
              refine ⟨qm.1,Q[m'], .inr ⟨rfl,m',hm',a1,a2,rfl⟩,(pQ _ (List.getElem_mem hm')).1,?_⟩
              rcases a4 with ⟨b1,b2⟩ | ⟨b1,b2⟩
              · exact aHj pd (by omega) b2 (kl m' hm' (by omega))
              · exact aFd pd (by omega) b2 (kh m' hm' (by omega))
            by_cases t1 : j0 ≤ m ∧ m < j
            · exact .inl (.inr ⟨rfl,m,hm,t1.1,t1.2,rfl⟩)
            · by_cases t2 : m < j0
              · -- below: the one before k is nearer,or it is the same
                have hj0 : j0 < Q.length := by omega
                have le := aH3 sQ (i := m) (j := j0) (by omega) hj0
                by_cases e : Q[j0] = Q[m]
                · exact .inl (.inr ⟨rfl,j0,hj0,Nat.le_refl _,by omega,e.symm⟩)
                · exact .inr (dec j0 hj0 (Nat.le_refl _) (by omega) e (.inl ⟨by omega,by omega⟩))
              · have hkm : k < m := by omega
                have hk : k < Q.length := by omega
                have le := aH3 sQ (i := k) (j := m) (by omega) hm
                by_cases e : Q[k] = Q[m]
                · exact .inl (.inr ⟨rfl,k,hk,by omega,by omega,e.symm⟩)
                · exact .inr (dec k hk (by omega) (by omega) e (.inr ⟨by omega,by omega⟩))
        refine dH (I := fun (s : Int × List jI) => (j0 ≤ s.1 ∧ s.1 ≤ Q.length + 1 ∧ s.1 ≤ k + 1) ∧ (s.2.length : Int) ≤ 20 * n + (s.1 - j0) ∧ vC r P Q (fun p' q => (p' ∈ P.take n ∧ q ∈ Q) ∨ (p' = p ∧ ∃ (m : Nat) (hm : m < Q.length),j0 ≤ m ∧ (m : Int) < s.1 ∧ q = Q[m])) s.2) (m := fun s => (Q.length + 1 - s.1).toNat) ?_ _ ⟨⟨by dsimp only; omega,by dsimp only; omega,by dsimp only; omega⟩,by dsimp only; omega,wG hB fun p' q hv => ?_⟩ (by dsimp only; omega)
        · rintro ⟨j,B⟩ ⟨⟨a0,a1,a2⟩,bl,hB⟩
          dsimp only at a0 a1 a2 bl hB ⊢
          obtain ⟨j,rfl⟩ : ∃ m : Nat,j = m := ⟨j.toNat,by omega⟩
          by_cases hjj : j ≤ k ∧ j < Q.length
          · rw [if_pos (show (j : Int) ≤ k by omega),Option.bind_some,if_pos (decide_eq_true (show (j : Int) < Q.length by omega)),fB hjj.2,Option.bind_some]
            have hq := List.getElem_mem hjj.2
            have bq := pQ _ hq
            obtain ⟨⟨f0,f1⟩,⟨f2,f3⟩,f4,f5⟩ := aFe (r := r) (p := p) (q := Q[j]) (by omega) (by omega) bp bq
            unfold tC
            rw [aU (x := p * r.Den) (by omega) (by omega),aU (x := Q[j] * r.Num) (by omega) (by omega),aU (x := _ - _) (by omega) (by omega),aC4 (by omega) (by omega),Option.bind_some,Option.bind_some]
            have e0 : eF (p * r.Den - Q[j] * r.Num) = lT r p Q[j] := rfl
            rw [e0]
            have hx := aPg qpos hB (p := p) (q := Q[j]) hpn hq (fun p' q' hv => by
              rcases hv with ⟨_,hv⟩ | ⟨_,m,hm,_,_,rfl⟩
              · exact qpos _ hv
              · exact qpos _ (List.getElem_mem hm))
            have hln := aMw ⟨p,Q[j],lT r p Q[j]⟩ B
            have key : Ok ((((if 0 < (B.length : Int) then
  ((atI B 0).bind fun v51 =>
  ((eX ⟨p,Q[j],lT r p Q[j]⟩ v51).bind fun v52 =>
  some (decide (v52 < 0))))
  else
  some false) : Option Bool).bind fun v53 =>
  (if v53 = true then
  some ([] : List jI)
  else
  some B)).bind fun v54 =>
  (((if (v54.length : Int) = 0 then
  some true
  else
  ((atI v54 0).bind fun v55 =>
  ((eX ⟨p,Q[j],lT r p Q[j]⟩ v55).bind fun v56 =>
  some (decide (v56 = 0))))) : Option Bool).bind fun v57 =>
  (if v57 = true then
  (chk ((v54.length + [(⟨p,Q[j],lT r p Q[j]⟩ : jI)].length) * 3 * 64 ≤ 140737488355328) (
  some (v54 ++ [(⟨p,Q[j],lT r p Q[j]⟩ : jI)])))
  else
  some v54))) (fun B' => B' = aOe ⟨p,Q[j],lT r p Q[j]⟩ B) := by
              have cmpM : ∀ b ∈ B,eX ⟨p,Q[j],lT r p Q[j]⟩ b = some (zG (lT r p Q[j] * b.q) (b.far * Q[j])) := fun b hb => by
                obtain ⟨o1,o2,o3⟩ := hB.1 b hb
                have b1 := pP _ o1
                have b2 := pQ _ o2
                have F := (aFe (r := r) (p := b.p) (q := b.q) (by omega) (by omega) b1 b2).2.2
                have m1 : lT r p Q[j] * b.q ≤ 8000000000 * 100 := Int.mul_le_mul f5 b2.2 (by omega) (by omega)
                have m2 : 0 ≤ lT r p Q[j] * b.q := Int.mul_nonneg f4 (by omega)
                have m3 : b.far * Q[j] ≤ 8000000000 * 100 := Int.mul_le_mul (by omega) bq.2 (by omega) (by omega)
                have m4 : 0 ≤ b.far * Q[j] := Int.mul_nonneg (by omega) (by omega)
                unfold eX
                dsimp only
                rw [aU (x := lT r p Q[j] * b.q) (by omega) (by omega),aU (x := b.far * Q[j]) (by omega) (by omega),aFf,Option.bind_some]
              match B,cmpM,bl with
              | [],_,_ => exact aH rfl
              | b :: B,cmpM,bl =>
                have e3 : atI (b :: B) 0 = some b := rfl
                have e4 : ¬ (((b :: B).length : Int) = 0) := by simp; omega
                rw [if_pos (by simp),e3,Option.bind_some,cmpM b (List.mem_cons_self ..),Option.bind_some,Option.bind_some]
                unfold aOe
                dsimp only
                by_cases c1 : lT r p Q[j] * b.q < b.far * Q[j]
                · rw [if_pos (decide_eq_true (aB4.2 c1)),if_pos c1]
                  exact aH rfl
                · rw [if_neg (fun q => c1 (aB4.1 (of_decide_eq_true q))),if_neg c1,Option.bind_some,if_neg e4,e3,Option.bind_some,cmpM b (List.mem_cons_self ..),Option.bind_some,Option.bind_some]
                  by_cases c2 : lT r p Q[j] * b.q = b.far * Q[j]
                  · rw [if_pos (decide_eq_true (aCe.2 c2)),if_pos c2]
                    refine iH ?_ (aH rfl)
                    simp only [List.length_cons,List.length_nil] at bl ⊢
                    omega
                  · rw [if_neg (fun q => c2 (aCe.1 (of_decide_eq_true q))),if_neg c2]
                    exact aH rfl
            refine bN key fun B' hB' => aH (.inl ⟨_,rfl,?_⟩)
            subst hB'
            dsimp only
            rw [aU (x := (j : Int) + 1) (by omega) (by omega)]
            refine ⟨⟨⟨by omega,by omega,by omega⟩,by omega,wG hx fun p' q hv => ?_⟩,by omega⟩
            rcases hv with hv | ⟨rfl,m,hm,g1,g2,rfl⟩
            · exact .inl (.inl hv)
            · rcases Nat.lt_or_ge m j with g | g
              · exact .inl (.inr ⟨rfl,m,hm,g1,by omega,rfl⟩)
              · have : m = j := by omega
                subst this
                exact .inr ⟨rfl,rfl⟩
          · have stop : vC r P Q (fun p' q => p' ∈ P.take (n + 1) ∧ q ∈ Q) B := fin j (by omega) B (wG hB fun p' q hv => by
              rcases hv with hv | ⟨rfl,m,hm,g1,g2,rfl⟩
              · exact .inl hv
              · exact .inr ⟨rfl,m,hm,g1,by omega,rfl⟩)
            by_cases h1 : j ≤ k
            · rw [if_pos (show (j : Int) ≤ k by omega),Option.bind_some,if_neg (fun q => by have := of_decide_eq_true q; omega)]
              exact aH (.inr ⟨_,rfl,by omega,stop⟩)
            · rw [if_neg (show ¬ (j : Int) ≤ k by omega),Option.bind_some,if_neg (by decide)]
              exact aH (.inr ⟨_,rfl,by omega,stop⟩)
        · rcases hv with hv | ⟨_,m,hm,g1,g2,_⟩
          · exact hv
          · dsimp only at g2; omega
      · dsimp only
        rw [aU (x := (n : Int) + 1) (by omega) (by omega)]
        exact ⟨⟨⟨by omega,by omega⟩,hB'.1,by rw [show ((n : Int) + 1).toNat = n + 1 by omega]; exact hB'.2⟩,by omega⟩
    · rw [List.take_of_length_le (by omega)] at hB
      exact hB
  · -- the least of their trains
    obtain ⟨bl,o1,o2,o3⟩ := hB
    have lw : ∀ (L : List (List Int)) (p : Int),(dX L p).length ≤ L.length := fun L p => List.length_filter_le ..
    have mw : ∀ {L : List (List Int)} {p : Int} {l : List Int},l ∈ dX L p ↔ l ∈ L ∧ cH l = p := fun {L p l} => by unfold dX; rw [List.mem_filter,decide_eq_true_eq]
    refine bN (P := vB fun u => ∃ m ∈ B, ∃ a ∈ dX A m.p, ∃ b ∈ dX C m.q,u = kT a b) ?_ fun t ht => aH ?_
    · refine aBw (aGc (xs := B) (I := fun i t => vB (fun u => ∃ m ∈ B.take i, ∃ a ∈ dX A m.p, ∃ b ∈ dX C m.q,u = kT a b) t) bl (fun n hn s hs => ?_) (fun s => by simp) (.inl ⟨rfl,fun u hu => by simp at hu⟩)) fun t ht => by rw [List.take_length] at ht; exact ht
      dsimp only
      rw [if_pos (by omega),fB hn,Option.bind_some]
      have hm := o1 _ (List.getElem_mem hn)
      obtain ⟨m,em⟩ : ∃ m,m = B[n] := ⟨_,rfl⟩
      rw [← em] at hm ⊢
      have b1 := pP _ hm.1
      have b2 := pQ _ hm.2.1
      refine bN (P := vB fun u => (∃ m ∈ B.take n, ∃ a ∈ dX A m.p, ∃ b ∈ dX C m.q,u = kT a b) ∨ ∃ a ∈ dX A m.p, ∃ b ∈ dX C m.q,u = kT a b) ?_ fun t ht => aH ⟨_,rfl,qL ht fun u => ?_⟩
      · refine iH (by omega) ?_
        have lA' := lw A m.p
        refine aBw (aGc (xs := dX A m.p) (I := fun i t => vB (fun u => (∃ m ∈ B.take n, ∃ a ∈ dX A m.p, ∃ b ∈ dX C m.q,u = kT a b) ∨ ∃ a ∈ (dX A m.p).take i, ∃ b ∈ dX C m.q,u = kT a b) t) (by omega) (fun n2 hn2 s hs => ?_) (fun s => by simp) (qL hs fun u => by simp)) fun t ht => by rw [List.take_length] at ht; exact ht
        dsimp only
        rw [if_pos (by omega),fB hn2,Option.bind_some]
        have ha := (mw.1 (List.getElem_mem hn2)).1
        obtain ⟨a,ea⟩ : ∃ a,a = (dX A m.p)[n2] := ⟨_,rfl⟩
        rw [← ea] at ha ⊢
        refine bN (P := vB fun u => ((∃ m ∈ B.take n, ∃ a ∈ dX A m.p, ∃ b ∈ dX C m.q,u = kT a b) ∨ ∃ a ∈ (dX A m.p).take n2, ∃ b ∈ dX C m.q,u = kT a b) ∨ ∃ b ∈ dX C m.q,u = kT a b) ?_ fun t ht => aH ⟨_,rfl,qL ht fun u => ?_⟩
        · refine iH (by omega) ?_
          have lC' := lw C m.q
          refine aBw (aGc (xs := dX C m.q) (I := fun i t => vB (fun u => ((∃ m ∈ B.take n, ∃ a ∈ dX A m.p, ∃ b ∈ dX C m.q,u = kT a b) ∨ ∃ a ∈ (dX A m.p).take n2, ∃ b ∈ dX C m.q,u = kT a b) ∨ ∃ b ∈ (dX C m.q).take i,u = kT a b) t) (by omega) (fun n3 hn3 s hs => ?_) (fun s => by simp) (qL hs fun u => by simp)) fun t ht => by rw [List.take_length] at ht; exact ht
          dsimp only
          rw [if_pos (by omega),fB hn3,Option.bind_some]
          have hb := (mw.1 (List.getElem_mem hn3)).1
          obtain ⟨b,eb⟩ : ∃ b,b = (dX C m.q)[n3] := ⟨_,rfl⟩
          rw [← eb] at hb ⊢
          obtain ⟨cc,_,_,ce⟩ := can a ha b hb
          rw [ce,Option.bind_some]
          have wide : ∀ u,(((∃ m ∈ B.take n, ∃ a ∈ dX A m.p, ∃ b ∈ dX C m.q,u = kT a b) ∨ ∃ a ∈ (dX A m.p).take n2, ∃ b ∈ dX C m.q,u = kT a b) ∨ ∃ b ∈ (dX C m.q).take n3,u = kT a b) ∨ u = kT a b ↔ ((∃ m ∈ B.take n, ∃ a ∈ dX A m.p, ∃ b ∈ dX C m.q,u = kT a b) ∨ ∃ a ∈ (dX A m.p).take n2, ∃ b ∈ dX C m.q,u = kT a b) ∨ ∃ b ∈ (dX C m.q).take (n3 + 1),u = kT a b := fun u => by
            constructor
            · rintro ((h | ⟨b',hb',e⟩) | e)
              · exact .inl h
              · exact .inr ⟨b',(mO hn3).2 (.inl hb'),e⟩
              · exact .inr ⟨b,(mO hn3).2 (.inr eb),e⟩
            · rintro (h | ⟨b',hb',e⟩)
              · exact .inl (.inl h)
              · rcases (mO hn3).1 hb' with h | h
                · exact .inl (.inr ⟨b',h,e⟩)
                · rw [← eb] at h; subst h; exact .inr e
          have candW : ∀ u,(((∃ m ∈ B.take n, ∃ a ∈ dX A m.p, ∃ b ∈ dX C m.q,u = kT a b) ∨ ∃ a ∈ (dX A m.p).take n2, ∃ b ∈ dX C m.q,u = kT a b) ∨ ∃ b ∈ (dX C m.q).take n3,u = kT a b) → fF u := fun u hu => by
            rcases hu with (⟨m',_,a',ha',b',hb',rfl⟩ | ⟨a',ha',b',hb',rfl⟩) | ⟨b',hb',rfl⟩
            · exact (can a' (mw.1 ha').1 b' (mw.1 hb').1).1
            · exact (can a' (mw.1 (List.mem_of_mem_take ha')).1 b' (mw.1 hb').1).1
            · exact (can a ha b' (mw.1 (List.mem_of_mem_take hb')).1).1
          refine bN (P := fun t => vB (fun u => (((∃ m ∈ B.take n, ∃ a ∈ dX A m.p, ∃ b ∈ dX C m.q,u = kT a b) ∨ ∃ a ∈ (dX A m.p).take n2, ∃ b ∈ dX C m.q,u = kT a b) ∨ ∃ b ∈ (dX C m.q).take n3,u = kT a b) ∨ u = kT a b) t) ?_ fun t ht => aH ⟨_,rfl,qL ht wide⟩
          have hne : kT a b ≠ [] := fun e => by rw [e] at cc; obtain ⟨_,_,_,_,q,_⟩ := cc; cases q
          generalize kT a b = v at *
          rcases hs with ⟨s1,s2⟩ | ⟨s1,s2,s3⟩
          · rw [if_pos s1,Option.bind_some,if_pos rfl]
            refine iH hne (aH (.inr ⟨cc, .inr rfl,fun u hu => ?_⟩))
            rcases hu with hu | rfl
            · exact absurd hu (s2 u)
            · exact aK5 cc
          · have sne : s ≠ [] := fun e => by rw [e] at s1; obtain ⟨_,_,_,_,q,_⟩ := s1; cases q
            rw [if_neg sne]
            refine bN (P := fun b => (b = true ↔ ltT v s)) (bN (aFa cc s1) fun c hc => aH (by rw [decide_eq_true_eq]; exact hc)) fun x hx => dF (fun hb => iH hne (aH (.inr ⟨cc, .inr rfl,fun u hu => ?_⟩))) fun hb => aH (.inr ⟨s1, .inl s2,fun u hu => ?_⟩)
            · rcases hu with hu | rfl
              · exact fun q => s3 u hu (aQx (candW u hu) cc s1 q (hx.1 hb))
              · exact aK5 cc
            · rcases hu with hu | rfl
              · exact s3 u hu
              · exact fun q => hb (hx.2 q)
        · constructor
          · rintro ((h | ⟨a',ha',h⟩) | h)
            · exact .inl h
            · exact .inr ⟨a',(mO hn2).2 (.inl ha'),h⟩
            · exact .inr ⟨a,(mO hn2).2 (.inr ea),h⟩
          · rintro (h | ⟨a',ha',h⟩)
            · exact .inl (.inl h)
            · rcases (mO hn2).1 ha' with g | g
              · exact .inl (.inr ⟨a',g,h⟩)
              · rw [← ea] at g; subst g; exact .inr h
      · constructor
        · rintro (⟨m',hm',h⟩ | h)
          · exact ⟨m',(mO hn).2 (.inl hm'),h⟩
          · exact ⟨m,(mO hn).2 (.inr em),h⟩
        · rintro ⟨m',hm',h⟩
          rcases (mO hn).1 hm' with g | g
          · exact .inl ⟨m',g,h⟩
          · rw [← em] at g; subst g; exact .inr h
    · -- it is the least of all
      have all : ∀ u,fF u → pT u ∈ P ∧ qT u ∈ Q ∧ (⟨pT u,qT u,lT r (pT u) (qT u)⟩ ∈ B → ∃ m ∈ B, ∃ a ∈ dX A m.p, ∃ b ∈ dX C m.q,u = kT a b) := fun u hu => by
        obtain ⟨a,b,c,d,rfl,⟨u1,u2,u3⟩,u4,u5,u6⟩ := hu
        have ea := iA a b u1 u2 u3
        have ec := iC c d u4 u5 u6
        have pa : cH [a,b] = a * b := by simp [cH]
        have pc : cH [c,d] = c * d := by simp [cH]
        refine ⟨?_,?_,fun h => ⟨_,h,[a,b],mw.2 ⟨ea,pa⟩,[c,d],mw.2 ⟨ec,pc⟩,rfl⟩⟩
        · have := fP _ ea; rw [pa] at this; exact this
        · have := fQ _ ec; rw [pc] at this; exact this
      rcases ht with ⟨t1,t2⟩ | ⟨t1,t2,t3⟩
      · exfalso
        have c0 : fF [⟨60,7⟩,⟨60,7⟩] := ⟨60,60,7,7,rfl,by decide,by decide⟩
        obtain ⟨g1,g2,_⟩ := all _ c0
        have hne := (o3 _ _ ⟨g1,g2⟩).1
        match B,o1,t2,hne with
        | m :: B,o1,t2,_ =>
          obtain ⟨q1,q2,_⟩ := o1 m (List.mem_cons_self ..)
          obtain ⟨a,ha,pa⟩ := gP _ q1
          obtain ⟨b,hb,pb⟩ := gQ _ q2
          exact t2 _ ⟨m,List.mem_cons_self ..,a,mw.2 ⟨ha,pa⟩,b,mw.2 ⟨hb,pb⟩,rfl⟩
      · refine ⟨t1,fun u hu hl => ?_⟩
        obtain ⟨m,hm,a,ha,b,hb,et⟩ := t2
        obtain ⟨_,c1,c2,_⟩ := can a (mw.1 ha).1 b (mw.1 hb).1
        rw [← et] at c1 c2
        have c1 : pT t = m.p := c1.trans (mw.1 ha).2
        have c2 : qT t = m.q := c2.trans (mw.1 hb).2
        have ft : aA1 r t = m.far := by unfold aA1; rw [c1,c2]; exact (o1 m hm).2.2.symm
        obtain ⟨g1,g2,g3⟩ := all u hu
        have fu : aA1 r u = lT r (pT u) (qT u) := rfl
        unfold pA at hl
        rw [ft,c2,fu] at hl
        rcases (o3 _ _ ⟨g1,g2⟩).2 with e | e
        · have e2 := o2 m hm _ e
          dsimp only at e2
          rcases hl with hl | ⟨_,hl⟩
          · omega
          · exact t3 u (g3 e) hl
        · have e2 := e m hm
          rcases hl with hl | ⟨hl,_⟩ <;> omega
theorem aD4 {r : aM} (hr : aMe r) : ∃ t,fF t ∧ jT r ⟨60,84,7,10,2⟩ = some t ∧ jR r ⟨60,84,7,10,2⟩ = some t := by
 obtain ⟨t,h1,h2,h3⟩ := aDk hr
 obtain ⟨u,g1,g2,g3⟩ := aGh hr
 have := aL7 h2 g2 h3 g3
 subst this
 exact ⟨t,h2,h1,g1⟩
end Go.Proofs.YtgcdbbidmfdonaaGreat
namespace Go.Proofs.YtgcdbbidmfdonaaGreat
set_option linter.unusedVariables false
set_option maxRecDepth 100000
def rV (f : Nat → Bool) (st j : Nat) : Nat → Nat
 | 0 => 0
 | y + 1 => rV f st j y + if y % st = j ∧ f y = true then 1 else 0
theorem aAd (f : Nat → Bool) (st j : Nat) : ∀ y,rV f st j y ≤ y
 | 0 => Nat.le_refl _
 | y + 1 => by
  have := aAd f st j y
  unfold rV
  split <;> omega
theorem xT {f : Nat → Bool} {st j y : Nat} (h : y % st = j) : ∀ i,i < st → rV f st j (y + 1 + i) = rV f st j (y + 1)
 | 0,_ => rfl
 | i + 1,hi => by
  have e : y + 1 + (i + 1) = (y + 1 + i) + 1 := by omega
  rw [e]
  conv => lhs; unfold rV
  have hne : ¬ ((y + 1 + i) % st = j ∧ f (y + 1 + i) = true) := by
   rintro ⟨q,_⟩
   have d := Nat.sub_mod_eq_zero_of_mod_eq (q.trans h.symm)
   have e2 : y + 1 + i - y = i + 1 := by omega
   rw [e2,Nat.mod_eq_of_lt hi] at d
   omega
  rw [if_neg hne,Nat.add_zero]
  exact xT h i (by omega)
theorem sD {f : Nat → Bool} {st j : Nat} (hj : j < st) : ∀ y,y ≤ j → rV f st j y = 0
 | 0,_ => rfl
 | y + 1,hy => by
  unfold rV
  rw [sD hj y (by omega),if_neg]
  rintro ⟨q,_⟩
  rw [Nat.mod_eq_of_lt (by omega)] at q
  omega
theorem aHh (f : Nat → Bool) (st j : Nat) : ∀ y,rV (fun _ => true) st j y = rV f st j y + rV (fun n => !f n) st j y
 | 0 => rfl
 | y + 1 => by
  unfold rV
  rw [aHh f st j y]
  by_cases h : y % st = j
  ·cases hf : f y <;> simp [h,hf] <;> omega
  ·simp [h]
def zB (c : aD) (st Y j : Nat) (k : Int) : Int :=
 if rV (fun n => !iN c n) st j Y < rV (fun n => iN c n) st j Y ∨ (rV (fun n => iN c n) st j Y = rV (fun n => !iN c n) st j Y ∧ (rW c k).Leap < (rW c k).Days) then (rW c k).Leap else (rW c k).Days
theorem aNh {c : aD} (hc : sH c = true) {st a Y : Nat} (ha : a < st) (s1 : st ≤ 260) (y1 : Y ≤ 1000000) {m : Int} (m0 : 0 ≤ m) (m1 : m < c.Months.length) : eZ c a st Y m = some (zB c st Y a m) := by
 have hm := tD (c := c) m0 m1
 have key : Ok (eZ c a st Y m) (fun r => r = zB c st Y a m) := by
  unfold eZ
  refine bN (P := fun (r : Int × Int) => r.1 = rV (fun n => iN c n) st a Y ∧ r.2 = rV (fun _ => true) st a Y) ?_ fun v7 h7 => ?_
  ·refine dH (I := fun (s : Int × Int × Int) => ∃ n : Nat,s.2.2 = n ∧ n % st = a ∧ n ≤ 1000260 ∧ s.1 = rV (fun n => iN c n) st a n ∧ s.2.1 = rV (fun _ => true) st a n ∧ (n = a ∨ ∃ k,n = k + st ∧ k < Y ∧ k % st = a)) (m := fun s => (1000260 - s.2.2).toNat) ?_ _ ⟨a,rfl,Nat.mod_eq_of_lt ha,by omega,by rw [sD ha a (Nat.le_refl _)]; rfl,by rw [sD ha a (Nat.le_refl _)]; rfl, .inl rfl⟩ (by dsimp only; omega)
   rintro ⟨l,al,y⟩ ⟨n,hn,hmod,hn1,hl,hal,hk⟩
   dsimp only at hn hl hal ⊢
   subst hn hl hal
   refine dF (fun hy => ?_) fun hy => aH (.inr ⟨_,rfl,?_⟩)
   ·have c1 := aAd (fun n => iN c n) st a n
    have c2 := aAd (fun _ => true) st a n
    have e1 : ∀ g : Nat → Bool,rV g st a (n + st) = rV g st a n + if g n = true then 1 else 0 := fun g => by
     have := xT (f := g) hmod (st - 1) (by omega)
     rw [show n + 1 + (st - 1) = n + st by omega] at this
     rw [this]
     conv => lhs; unfold rV
     simp [hmod]
    rw [sK hc (by omega),Option.bind_some,aU (x := (rV (fun _ => true) st a n : Int) + 1) (by omega) (by omega),aU (x := (rV (fun n => iN c n) st a n : Int) + 1) (by omega) (by omega),aU (x := (n : Int) + st) (by omega) (by omega)]
    cases hL : iN c n with
    | true =>
     exact aH (.inl ⟨_,rfl,⟨n + st,by simp,by rw [Nat.add_mod_right]; exact hmod,by omega,by rw [e1]; simp [hL],by rw [e1]; simp, .inr ⟨n,rfl,by omega,hmod⟩⟩,by dsimp only; omega⟩)
    | false =>
     exact aH (.inl ⟨_,rfl,⟨n + st,by simp,by rw [Nat.add_mod_right]; exact hmod,by omega,by rw [e1]; simp [hL],by rw [e1]; simp, .inr ⟨n,rfl,by omega,hmod⟩⟩,by dsimp only; omega⟩)
   ·have e2 : ∀ g : Nat → Bool,rV g st a n = rV g st a Y := fun g => by
     rcases hk with rfl | ⟨k,rfl,k1,k2⟩
     ·rw [sD ha _ (Nat.le_refl _),sD ha Y (by omega)]
     ·have a1 := xT (f := g) k2 (st - 1) (by omega)
      have a2 := xT (f := g) k2 (Y - k - 1) (by omega)
      rw [show k + 1 + (st - 1) = k + st by omega] at a1
      rw [show k + 1 + (Y - k - 1) = Y by omega] at a2
      rw [a1,a2]
    exact ⟨by dsimp only; rw [e2],by dsimp only; rw [e2]⟩
  ·obtain ⟨h1,h2⟩ := h7
   have c1 := aAd (fun n => iN c n) st a Y
   have c2 := aHh (fun n => iN c n) st a Y
   have c3 := aAd (fun _ => true) st a Y
   rw [hm.1,Option.bind_some,h1,h2,aU (by omega) (by omega)]
   unfold zB
   refine dF (fun q => aH ?_) fun q => dF (fun q2 => aH ?_) fun q2 => ?_
   ·rw [if_pos]; omega
   ·rw [if_neg]; omega
   ·unfold qH
    refine bN (P := fun r => r = min (rW c m).Leap (rW c m).Days) (dF (fun _ => aH ?_) fun _ => aH ?_) fun v h => aH ?_
    ·omega
    ·omega
    ·rw [h]
     split <;> omega
 obtain ⟨x,e,rfl⟩ := key
 exact e
end Go.Proofs.YtgcdbbidmfdonaaGreat
namespace Go.Proofs.YtgcdbbidmfdonaaGreat
set_option linter.unusedVariables false
set_option maxRecDepth 100000
def aQ9 (c : aD) (n Y : Nat) : List Int := (List.range n).flatMap fun j => (List.range c.Months.length).flatMap fun (k : Nat) => [zB c n Y j (k : Int)]
theorem aHd {M : Nat} {g : Nat → Int} {xs : List Int} {step : Int × List Int → Option ((Int × List Int) ⊕ List Int)} (hS : ∀ (m : Nat) zs,m < M → zs.length ≤ xs.length + m → step ((m : Int),zs) = some (.inl ((m : Int) + 1,zs ++ [g m]))) (hE : ∀ zs,step ((M : Int),zs) = some (.inr zs)) (hM : M ≤ 1000000) : cE step (0,xs) = some (xs ++ (List.range M).flatMap fun k => [g k]) := by
 refine uK (xs := List.range M) (f := fun k => [g k]) (c := 1) (fun v _ => by simp) (fun i hi ys hy => ?_) (fun ys => by rw [List.length_range]; exact hE ys) (by rw [List.length_range]; omega)
 rw [List.length_range] at hi
 rw [List.getElem_range]
 exact hS i ys hi (by omega)
theorem aI9 {M : Nat} {g : Nat → Int} : ((List.range M).flatMap fun k => [g k]).length = M := by
 have : ((List.range M).flatMap fun k => [g k]) = (List.range M).map g := by rw [List.map_eq_flatMap]
 rw [this]; simp
def aCh (f : Nat → Bool) (n y : Nat) : List Int := (List.range n).map fun j => (rV f n j y : Int)
theorem aBq {f : Nat → Bool} {n y j : Nat} (h : j < n) : atI (aCh f n y) (j : Int) = some (rV f n j y : Int) := by
 unfold aCh
 rw [fB (by simpa using h)]
 simp
theorem aHa {f : Nat → Bool} {n y : Nat} (hn : 0 < n) (hf : f y = true) : (aCh f n y).set (y % n) ((rV f n (y % n) y : Int) + 1) = aCh f n (y + 1) := by
 unfold aCh
 refine List.ext_getElem (by simp) fun i h1 h2 => ?_
 rw [List.getElem_set]
 simp only [List.getElem_map,List.getElem_range]
 conv => rhs; unfold rV
 by_cases h : y % n = i
 ·rw [if_pos h,if_pos ⟨h,hf⟩,h]; rfl
 ·rw [if_neg h,if_neg fun q => h q.1]; rfl
theorem aI7 {f : Nat → Bool} {n y : Nat} (hf : f y = false) : aCh f n y = aCh f n (y + 1) := by
 unfold aCh
 refine List.map_congr_left fun j _ => ?_
 conv => rhs; unfold rV
 rw [if_neg (by rw [hf]; simp)]; rfl
theorem aD8 (f : Nat → Bool) (n : Nat) : List.replicate n (0 : Int) = aCh f n 0 := by
 unfold aCh
 refine List.ext_getElem (by simp) fun i h1 h2 => ?_
 simp [rV]
theorem aCl {c : aD} {cam : List Int} (ha : aFh c cam = 0) {y : Int} (y0 : 0 ≤ y) : Ok (nB c cam y) (fun _ => True) := by
 obtain ⟨hc,hm,h,k1,k2⟩ := tY ha
 have hl := (uV hm).2
 obtain ⟨_,hq,_⟩ := gA hc
 have n1 := aCv ha (y := y) (m := 1) (by omega) (by omega)
 have nM := aCv ha (y := y) (m := c.Months.length) (by omega) (by omega)
 unfold xK at n1 nM
 unfold nB
 rw [zA hc y0,Option.bind_some,xA (by omega) (by omega),if_pos h,Option.bind_some,Int.tmod_eq_emod_of_nonneg y0]
 refine iH (by omega) ?_
 rw [aU (x := _ * _) (by omega) (by omega)]
 obtain ⟨o,ho⟩ : ∃ o : Nat,y % ((cam.length : Int) / c.Months.length) * c.Months.length = o := ⟨(y % ((cam.length : Int) / c.Months.length) * c.Months.length).toNat,by omega⟩
 rw [ho] at n1 nM ⊢
 refine iH (by omega) ?_
 rw [vA]
 refine bN (P := fun _ => True) ?_ fun v _ => aH trivial
 refine dH (I := fun (s : Int × List oJ) => (1 ≤ s.1 ∧ s.1 ≤ c.Months.length + 1) ∧ (s.2.length : Int) ≤ s.1) (m := fun s => (c.Months.length + 1 - s.1).toNat) ?_ _ ⟨⟨by dsimp only; omega,by dsimp only; omega⟩,by simp⟩ (by dsimp only; omega)
 rintro ⟨m,fs⟩ ⟨⟨m0,m1⟩,fl⟩
 dsimp only at m0 m1 fl ⊢
 refine dF (fun hi => ?_) fun hi => aH (.inr ⟨_,rfl,trivial⟩)
 rw [xB hc _ m0 hi,Option.bind_some,aU (x := m - 1) (by omega) (by omega)]
 refine bN (P := fun fs' => fs'.length ≤ fs.length + 1) ?_ fun v hv => aH (.inl ⟨_,rfl,?_⟩)
 ·refine bN (aJd (i := m - 1) (by omega) (by rw [List.length_drop]; omega)) fun v13 _ => dF (fun _ => bN (aJd (i := m - 1) (by omega) (by rw [List.length_drop]; omega)) fun v14 _ => iH (by simp; omega) (aH (by simp))) fun _ => aH (by omega)
 ·dsimp only
  rw [aU (x := m + 1) (by omega) (by omega)]
  exact ⟨⟨⟨by omega,by omega⟩,by omega⟩,by omega⟩
theorem yW {c : aD} {cam : List Int} (ha : aFh c cam = 0) : Ok (kA c cam) (fun _ => True) := by
 obtain ⟨hc,hm,h,k1,k2⟩ := tY ha
 have hl := (uV hm).2
 obtain ⟨_,hq,hr,_,_,hb,hcy⟩ := gA hc
 obtain ⟨e,c0,c1,_⟩ := aFk hc
 have hg := lK (n := (cam.length : Int) / c.Months.length) (d := cyc c.Rules) (by omega)
 have hq := qR (a := (cam.length : Int) / c.Months.length) (g := (Int.gcd ((cam.length : Int) / c.Months.length) (cyc c.Rules) : Int)) (by omega) (by omega)
 unfold kA
 rw [xA (by omega) (by omega),if_pos h,Option.bind_some,oQ (by omega) hb,Option.bind_some,yJ ⟨by omega,by omega⟩ (by omega) ⟨by omega,by omega⟩ (by omega),Option.bind_some]
 refine iH (by omega) ?_
 rw [Int.tdiv_eq_ediv_of_nonneg (by omega)]
 obtain ⟨q,hqe⟩ : ∃ q,q = (cam.length : Int) / c.Months.length / (Int.gcd ((cam.length : Int) / c.Months.length) (cyc c.Rules) : Int) := ⟨_,rfl⟩
 rw [← hqe] at hq ⊢
 have b1 : q * cyc c.Rules ≤ 260 * 2000 := Int.mul_le_mul (by omega) (by omega) (by omega) (by omega)
 have b0 : 0 ≤ q * cyc c.Rules := Int.mul_nonneg hq.1 (by omega)
 rw [aU (x := q) (by omega) (by omega),aU (x := q * _) (by omega) (by omega)]
 refine bN (P := fun _ => True) ?_ fun v _ => aH trivial
 refine dH (I := fun (s : Int × Int) => 0 ≤ s.2 ∧ s.2 ≤ 520000) (m := fun s => (520000 - s.2).toNat) ?_ _ ⟨by dsimp only; omega,by dsimp only; omega⟩ (by dsimp only; omega)
 rintro ⟨k,y⟩ ⟨i0,i1⟩
 dsimp only at i0 i1 ⊢
 refine dF (fun hy => ?_) fun _ => aH (.inr ⟨_,rfl,trivial⟩)
 refine bN (aCl ha i0) fun v8 _ => aH (.inl ⟨_,rfl,?_⟩)
 dsimp only
 rw [aU (x := y + 1) (by omega) (by omega)]
 exact ⟨⟨by omega,by omega⟩,by omega⟩
theorem aL5 {c : aD} (hc : sH c = true) {n Y : Nat} (n0 : 0 < n) (n1 : n ≤ 260) (y1 : Y ≤ 1000000) {X : Int} (hX : X = n) : cE (S := Int × List Int) (X := List Int) (fun s12 =>
 (if s12.1 < X then
 ((cE (S := Int × List Int) (X := List Int) (fun s16 =>
 (if s16.1 < (c.Months.length : Int) then
 ((eZ c s12.1 X Y s16.1).bind fun v17 =>
 (chk ((s16.2.length + [v17].length) * 1 * 64 ≤ 140737488355328) (
 some (.inl (w64 (s16.1 + 1),s16.2 ++ [v17])))))
 else
 some (.inr s16.2))) (0,s12.2) : Option (List Int)).bind fun v19 =>
 some (.inl (w64 (s12.1 + 1),v19)))
 else
 some (.inr s12.2))) (0,([] : List Int)) = some (aQ9 c n Y) := by
 subst hX
 have hM := (gA hc).2.1
 have := uK (xs := List.range n) (init := ([] : List Int)) (f := fun j => (List.range c.Months.length).flatMap fun (k : Nat) => [zB c n Y j (k : Int)]) (c := 20) (step := (fun (s12 : Int × List Int) =>
 (if s12.1 < (n : Int) then
 ((cE (S := Int × List Int) (X := List Int) (fun s16 =>
 (if s16.1 < (c.Months.length : Int) then
 ((eZ c s12.1 (n : Int) Y s16.1).bind fun v17 =>
 (chk ((s16.2.length + [v17].length) * 1 * 64 ≤ 140737488355328) (
 some (.inl (w64 (s16.1 + 1),s16.2 ++ [v17])))))
 else
 some (.inr s16.2))) (0,s12.2) : Option (List Int)).bind fun v19 =>
 some (.inl (w64 (s12.1 + 1),v19)))
 else
 some (.inr s12.2)))) (fun v _ => by rw [aI9 (g := fun k => zB c n Y v (k : Int))]; omega) (fun i hi ys hy => by
  rw [List.length_range] at hi
  rw [List.getElem_range,if_pos (by omega),aHd (xs := ys) (g := fun (k : Nat) => zB c n Y i (k : Int)) (M := c.Months.length) (fun m zs hm hz => by
   simp only [List.length_nil] at hy
   rw [if_pos (by omega),aNh hc hi n1 y1 (by omega) (by omega),Option.bind_some,gW (by simp; omega),aU (x := (m : Int) + 1) (by omega) (by omega)]) (fun zs => by simp) (by omega),Option.bind_some,aU (x := (i : Int) + 1) (by omega) (by omega)]) (fun ys => by simp) (by rw [List.length_range]; omega)
 rw [this]; rfl
theorem aNp {c : aD} (hc : sH c = true) {n Y : Nat} (n0 : 0 < n) (n1 : n ≤ 260) {a b : List Int} (ea : a = aCh (fun n => iN c n) n Y) (eb : b = aCh (fun n => !iN c n) n Y) : cE (S := Int × List Int) (X := List Int) (fun s47 =>
 (if s47.1 < (a.length : Int) then
 ((cE (S := Int × List Int) (X := List Int) (fun s57 =>
 (if s57.1 < (c.Months.length : Int) then
 ((atI c.Months s57.1).bind fun v58 =>
 ((((((atI a s47.1).bind fun v59 =>
 ((atI b s47.1).bind fun v60 =>
 (if v60 < v59 then
 some true
 else
 ((atI a s47.1).bind fun v61 =>
 ((atI b s47.1).bind fun v62 =>
 (if v61 = v62 then
 some (decide (v58.Leap < v58.Days))
 else
 some false)))))) : Option Bool).bind fun v63 =>
 (if v63 = true then
 some v58.Leap
 else
 some v58.Days)) : Option Int).bind fun v64 =>
 (chk ((s57.2.length + [v64].length) * 1 * 64 ≤ 140737488355328) (
 some (.inl (w64 (s57.1 + 1),s57.2 ++ [v64]))))))
 else
 some (.inr s57.2))) (0,s47.2) : Option (List Int)).bind fun v66 =>
 some (.inl (w64 (s47.1 + 1),v66)))
 else
 some (.inr s47.2))) (0,([] : List Int)) = some (aQ9 c n Y) := by
 have la : a.length = n := by rw [ea]; simp [aCh]
 have hM := (gA hc).2.1
 rw [la]
 have := uK (xs := List.range n) (init := ([] : List Int)) (f := fun j => (List.range c.Months.length).flatMap fun (k : Nat) => [zB c n Y j (k : Int)]) (c := 20) (step := (fun (s47 : Int × List Int) =>
 (if s47.1 < (n : Int) then
 ((cE (S := Int × List Int) (X := List Int) (fun s57 =>
 (if s57.1 < (c.Months.length : Int) then
 ((atI c.Months s57.1).bind fun v58 =>
 ((((((atI a s47.1).bind fun v59 =>
 ((atI b s47.1).bind fun v60 =>
 (if v60 < v59 then
 some true
 else
 ((atI a s47.1).bind fun v61 =>
 ((atI b s47.1).bind fun v62 =>
 (if v61 = v62 then
 some (decide (v58.Leap < v58.Days))
 else
 some false)))))) : Option Bool).bind fun v63 =>
 (if v63 = true then
 some v58.Leap
 else
 some v58.Days)) : Option Int).bind fun v64 =>
 (chk ((s57.2.length + [v64].length) * 1 * 64 ≤ 140737488355328) (
 some (.inl (w64 (s57.1 + 1),s57.2 ++ [v64]))))))
 else
 some (.inr s57.2))) (0,s47.2) : Option (List Int)).bind fun v66 =>
 some (.inl (w64 (s47.1 + 1),v66)))
 else
 some (.inr s47.2)))) (fun v _ => by rw [aI9 (g := fun k => zB c n Y v (k : Int))]; omega) (fun i hi ys hy => by
  rw [List.length_range] at hi
  rw [List.getElem_range,if_pos (by omega),aHd (xs := ys) (g := fun (k : Nat) => zB c n Y i (k : Int)) (M := c.Months.length) (fun m zs hm hz => by
   simp only [List.length_nil] at hy
   have hmo := (tD (c := c) (k := (m : Int)) (by omega) (by omega)).1
   rw [if_pos (by omega),hmo,Option.bind_some,ea,eb,aBq hi,Option.bind_some,aBq hi,Option.bind_some]
   unfold zB
   generalize rV (fun n => iN c n) n i Y = x
   generalize rV (fun n => !iN c n) n i Y = y
   have hb : (if (y : Int) < x then some true else (some (x : Int)).bind fun v61 => (some (y : Int)).bind fun v62 => if v61 = v62 then some (decide ((rW c m).Leap < (rW c m).Days)) else some false) = some (decide (y < x ∨ (x = y ∧ (rW c m).Leap < (rW c m).Days))) := by
    by_cases h1 : y < x
    ·rw [if_pos (by omega),decide_eq_true (.inl h1)]
    ·rw [if_neg (by omega),Option.bind_some,Option.bind_some]
     by_cases h2 : x = y
     ·rw [if_pos (by omega)]
      congr 1
      rw [Bool.eq_iff_iff,decide_eq_true_eq,decide_eq_true_eq]
      omega
     ·rw [if_neg (by omega)]
      congr 1
      exact (decide_eq_false (by omega)).symm
   rw [hb,Option.bind_some]
   by_cases h3 : y < x ∨ (x = y ∧ (rW c m).Leap < (rW c m).Days)
   ·rw [decide_eq_true h3,if_pos rfl,if_pos h3,Option.bind_some,gW (by simp; omega),aU (x := (m : Int) + 1) (by omega) (by omega)]
   ·rw [decide_eq_false h3,if_neg (by decide),if_neg h3,Option.bind_some,gW (by simp; omega),aU (x := (m : Int) + 1) (by omega) (by omega)]) (fun zs => by simp) (by omega),Option.bind_some,aU (x := (i : Int) + 1) (by omega) (by omega)]) (fun ys => by simp) (by rw [List.length_range]; omega)
 rw [this]; rfl
theorem aEd {c : aD} (hc : sH c = true) (y : Int) : ∃ cam code n n',oD c y = some (cam,n,code) ∧ kH c y = some (cam,n',code) ∧ (code = 0 → aFh c cam = 0) ∧ (code = 0 ∨ code = 2) ∧ (y = 1 → code = 0) := by
  obtain ⟨_,hM,hr,_,_,hb,hcy⟩ := gA hc
  obtain ⟨e,c0,c1,_⟩ := aFk hc
  have hbest := aIj hc y
  have hd : (y ≤ 260 / (c.Months.length : Int)) ↔ y * c.Months.length ≤ 260 := Int.le_ediv_iff_mul_le (by omega)
  have h26 : (260 : Int) / (c.Months.length : Int) ≤ 260 := Int.ediv_le_self _ (by decide)
  have h26' : 0 ≤ (260 : Int) / (c.Months.length : Int) := Int.ediv_nonneg (by decide) (by omega)
  unfold oD rI
  unfold kH nJ at hbest ⊢
  rw [wF (by omega) (by omega),hc,Option.bind_some,iW,Option.bind_some] at hbest ⊢
  rw [pJ (by omega) (by omega),hc,Option.bind_some,gW (by omega),Int.tdiv_eq_ediv_of_nonneg (by decide),aU (x := 260 / _) (by omega) (by omega),oM,Option.bind_some,Option.bind_some]
  simp only [Bool.not_true,Bool.false_eq_true,if_false] at hbest ⊢
  by_cases hy : (1 ≤ y ∧ y ≤ 260) ∧ y * c.Months.length ≤ 260
  · obtain ⟨⟨y0,y1⟩,y2⟩ := hy
    have yn : 0 ≤ y * (c.Months.length : Int) := Int.mul_nonneg (by omega) (by omega)
    have b1 : btw y 1 (260 / (c.Months.length : Int)) = true := decide_eq_true ⟨y0,hd.2 y2⟩
    have b2 : btw y 1 260 = true := decide_eq_true ⟨y0,y1⟩
    have b3 : decide (w64 (y * (c.Months.length : Int)) ≤ 260) = true := by rw [aU (by omega) (by omega)]; exact decide_eq_true y2
    simp only [b2,b3,if_true,Option.bind_some,Bool.not_true,Bool.false_eq_true,if_false] at hbest
    simp only [b1,b2,b3,if_true,Option.bind_some,Bool.not_true,Bool.false_eq_true,if_false]
    rw [oQ (by omega) hb,Option.bind_some,yJ ⟨by omega,by omega⟩ (by omega) ⟨by omega,by omega⟩ (by omega),Option.bind_some]
    have hg := lK (n := y) (d := cyc c.Rules) (by omega)
    obtain ⟨n,rfl⟩ : ∃ n : Nat,y = n := ⟨y.toNat,by omega⟩
    -- the years after which both end together
    obtain ⟨Y,hY1,hY2,hY3⟩ : ∃ Y : Nat,((n : Int) / (Int.gcd n (cyc c.Rules) : Int)) * cyc c.Rules = Y ∧ cyc c.Rules / (Int.gcd (cyc c.Rules) n : Int) * n = Y ∧ Y ≤ 520000 := by
      have q1 := qR (a := (n : Int)) (g := (Int.gcd n (cyc c.Rules) : Int)) (by omega) (by omega)
      have p0 : 0 ≤ ((n : Int) / (Int.gcd n (cyc c.Rules) : Int)) * cyc c.Rules := Int.mul_nonneg q1.1 (by omega)
      have p1 : ((n : Int) / (Int.gcd n (cyc c.Rules) : Int)) * cyc c.Rules ≤ 260 * 2000 := Int.mul_le_mul (by omega) (by omega) (by omega) (by omega)
      refine ⟨(((n : Int) / (Int.gcd n (cyc c.Rules) : Int)) * cyc c.Rules).toNat,by omega,?_,by omega⟩
      rw [Int.toNat_of_nonneg p0,Int.gcd_comm]
      obtain ⟨u,hu⟩ := Int.gcd_dvd_left (n : Int) (cyc c.Rules)
      obtain ⟨v,hv⟩ := Int.gcd_dvd_right (n : Int) (cyc c.Rules)
      generalize (Int.gcd (n : Int) (cyc c.Rules)) = g at *
      rw [hu,hv,Int.mul_ediv_cancel_left _ (by omega),Int.mul_ediv_cancel_left _ (by omega)]
      grind
    have q1 := qR (a := (n : Int)) (g := (Int.gcd n (cyc c.Rules) : Int)) (by omega) (by omega)
    have q2 := qR (a := cyc c.Rules) (g := (Int.gcd (cyc c.Rules) n : Int)) (by omega) (by have := lK (n := cyc c.Rules) (d := (n : Int)) (by omega); omega)
    have hcom : hH c n = some (Y : Int) := by
      have hg2 := lK (n := cyc c.Rules) (d := (n : Int)) (by omega)
      unfold hH
      rw [rJ (by omega),if_pos ⟨hb,hcy⟩,Option.bind_some,rK (by dsimp only; omega) (by omega) (by omega),Option.bind_some]
      dsimp only
      rw [gW (by omega),Int.tdiv_eq_ediv_of_nonneg (by omega),aU (x := cyc c.Rules / _) (by omega) (by omega),hY2,aU (by omega) (by omega)]
    rw [hcom,Option.bind_some,aL5 hc (by omega) (by omega) (by omega) rfl,Option.bind_some] at hbest ⊢
    have hz : 0 ≤ (n : Int) ∧ True ∧ (n : Int).toNat * 1 * 64 ≤ 281474976710656 := ⟨by omega,trivial,by rw [Int.toNat_natCast]; omega⟩
    rw [gW (show (Int.gcd (n : Int) (cyc c.Rules) : Int) ≠ 0 by omega),gW hz,gW hz,Int.tdiv_eq_ediv_of_nonneg (by omega),aU (x := (n : Int) / _) (by omega) (by omega),hY1,aU (x := (Y : Int)) (by omega) (by omega),Int.toNat_natCast]
    have loop : cE (S := Int × List Int × List Int) (X := List Int × List Int) (fun s17 =>
  (if s17.1 < (Y : Int) then
  ((((kU c s17.1).bind fun v18 =>
  (if v18 = true then
  (chk ((n : Int) ≠ 0) (
  ((atI s17.2.1 (s17.1.tmod (n : Int))).bind fun v20 =>
  ((atI s17.2.1 (s17.1.tmod (n : Int))).bind fun v21 =>
  some (List.set s17.2.1 (s17.1.tmod (n : Int)).toNat (w64 (v20 + 1)),s17.2.2)))))
  else
  (chk ((n : Int) ≠ 0) (
  ((atI s17.2.2 (s17.1.tmod (n : Int))).bind fun v23 =>
  ((atI s17.2.2 (s17.1.tmod (n : Int))).bind fun v24 =>
  some (s17.2.1,List.set s17.2.2 (s17.1.tmod (n : Int)).toNat (w64 (v23 + 1))))))))) : Option (List Int × List Int)).bind fun v25 =>
  some (.inl (w64 (s17.1 + 1),v25.1,v25.2)))
  else
  some (.inr (s17.2.1,s17.2.2)))) (0,List.replicate n 0,List.replicate n 0) = some (aCh (fun n => iN c n) n Y,aCh (fun n => !iN c n) n Y) := by
      have key : Ok (cE (S := Int × List Int × List Int) (X := List Int × List Int) (fun s17 =>
  (if s17.1 < (Y : Int) then
  ((((kU c s17.1).bind fun v18 =>
  (if v18 = true then
  (chk ((n : Int) ≠ 0) (
  ((atI s17.2.1 (s17.1.tmod (n : Int))).bind fun v20 =>
  ((atI s17.2.1 (s17.1.tmod (n : Int))).bind fun v21 =>
  some (List.set s17.2.1 (s17.1.tmod (n : Int)).toNat (w64 (v20 + 1)),s17.2.2)))))
  else
  (chk ((n : Int) ≠ 0) (
  ((atI s17.2.2 (s17.1.tmod (n : Int))).bind fun v23 =>
  ((atI s17.2.2 (s17.1.tmod (n : Int))).bind fun v24 =>
  some (s17.2.1,List.set s17.2.2 (s17.1.tmod (n : Int)).toNat (w64 (v23 + 1))))))))) : Option (List Int × List Int)).bind fun v25 =>
  some (.inl (w64 (s17.1 + 1),v25.1,v25.2)))
  else
  some (.inr (s17.2.1,s17.2.2)))) (0,List.replicate n 0,List.replicate n 0)) (fun r => r = (aCh (fun n => iN c n) n Y,aCh (fun n => !iN c n) n Y)) := by
        refine dH (I := fun (s : Int × List Int × List Int) => ∃ k : Nat,s.1 = k ∧ k ≤ Y ∧ s.2.1 = aCh (fun n => iN c n) n k ∧ s.2.2 = aCh (fun n => !iN c n) n k) (m := fun s => (Y - s.1).toNat) ?_ _ ⟨0,rfl,by omega,aD8 _ _,aD8 _ _⟩ (by dsimp only; omega)
        rintro ⟨i,a,b⟩ ⟨k,hk,hkY,ha,hb'⟩
        dsimp only at hk ha hb' ⊢
        subst hk ha hb'
        refine dF (fun hlt => ?_) fun hge => aH (.inr ⟨_,rfl,by rw [show k = Y by omega]⟩)
        have hmod : (k : Int).tmod (n : Int) = ((k % n : Nat) : Int) := by rw [Int.tmod_eq_emod_of_nonneg (by omega)]; rfl
        have hlt2 : k % n < n := Nat.mod_lt _ (by omega)
        rw [zA hc (by omega),Option.bind_some,hmod,gW (by omega),gW (by omega),aBq hlt2,aBq hlt2,Int.toNat_natCast,aU (x := (k : Int) + 1) (by omega) (by omega)]
        simp only [Option.bind_some]
        have l1 := aAd (fun n => iN c n) n (k % n) k
        have l2 := aAd (fun n => !iN c n) n (k % n) k
        rw [aU (x := (rV (fun n => iN c n) n (k % n) k : Int) + 1) (by omega) (by omega),aU (x := (rV (fun n => !iN c n) n (k % n) k : Int) + 1) (by omega) (by omega)]
        cases hL : iN c k with
        | true =>
          exact aH (.inl ⟨_,rfl,⟨k + 1,by simp,by omega,aHa (f := fun n => iN c n) (by omega) hL,aI7 (f := fun n => !iN c n) (by simp [hL])⟩,by dsimp only; omega⟩)
        | false =>
          exact aH (.inl ⟨_,rfl,⟨k + 1,by simp,by omega,aI7 (f := fun n => iN c n) hL,aHa (f := fun n => !iN c n) (by omega) (by simp [hL])⟩,by dsimp only; omega⟩)
      obtain ⟨r,h,rfl⟩ := key
      exact h
    rw [loop,Option.bind_some]
    dsimp only
    rw [aNp hc (by omega) (by omega) rfl rfl,Option.bind_some]
    obtain ⟨r,hr1,hr2⟩ := hbest
    cases hcnt : kM c (aQ9 c n Y) Y with
    | none => rw [hcnt] at hr1; cases hr1
    | some w =>
      rw [hcnt,Option.bind_some] at hr1
      injection hr1 with hr1
      subst hr1
      have ha := hr2 rfl
      obtain ⟨w',hw',_⟩ := yW ha
      rw [hw',Option.bind_some,Option.bind_some]
      exact ⟨aQ9 c n Y,0,w',w,rfl,rfl,fun _ => ha, .inl rfl,fun _ => rfl⟩
  · have b1 : btw y 1 (260 / (c.Months.length : Int)) = false := decide_eq_false fun q => hy ⟨⟨q.1,by omega⟩,hd.1 q.2⟩
    have s1 : (if btw y 1 260 = true then some (decide (w64 (y * (c.Months.length : Int)) ≤ 260)) else some false) = some false := by
      by_cases h1 : btw y 1 260 = true
      · have q := of_decide_eq_true h1
        have m1 : y * (c.Months.length : Int) ≤ 260 * 20 := Int.mul_le_mul q.2 (by omega) (by omega) (by omega)
        have m0 : 0 ≤ y * (c.Months.length : Int) := Int.mul_nonneg (by omega) (by omega)
        rw [if_pos h1,aU (by omega) (by omega),decide_eq_false fun z => hy ⟨q,z⟩]
      · rw [if_neg h1]
    rw [s1,b1]
    refine ⟨[],2,0,0,rfl,rfl,fun h => (by cases h), .inr rfl,fun h => ?_⟩
    exfalso
    subst h
    exact hy ⟨by decide,by omega⟩
end Go.Proofs.YtgcdbbidmfdonaaGreat
namespace Go.Proofs.YtgcdbbidmfdonaaGreat
set_option linter.unusedVariables false
set_option maxRecDepth 100000
def aK4 : ByteArray := ⟨#[99,101,110,116,101,114]⟩
def aNy : ByteArray := ⟨#[116,104,105,114,100]⟩
def aKq : ByteArray := ⟨#[101,115,99,97,112,101]⟩
def aJx : ByteArray := ⟨#[109,105,110,117,116,101]⟩
def aQb : ByteArray := ⟨#[104,111,117,114]⟩
def wkT (a b c d : Int) : dE := ⟨[⟨aK4,[a,12]⟩,⟨aNy,[b,c]⟩,⟨aKq,[d]⟩,⟨aJx,[36,10]⟩,⟨aQb,[40]⟩],[⟨0,0,1,0⟩,⟨1,1,2,0⟩,⟨0,1,3,0⟩,⟨3,1,4,0⟩]⟩
def v1T (a b : Int) : aM := (nF ⟨1,1⟩ a b).1
def v2T (a b c d : Int) : aM := (nF (v1T a b) c d).1
def tth (t : Int) : Prop := 6 ≤ t ∧ t ≤ 240
theorem aQd {a b c d : Int} (ha : tth a) (hb : tth b) (hc : tth c) (hd : tth d) : aPy (wkT a b c d) = true := by
 have n1 : lX aK4 = true := by decide
 have n2 : lX aNy = true := by decide
 have n3 : lX aKq = true := by decide
 have n4 : lX aJx = true := by decide
 have n5 : lX aQb = true := by decide
 have t : ∀ x,tth x → jU x = true := fun x h => decide_eq_true h
 have ta := t a ha
 have tb := t b hb
 have tc := t c hc
 have td := t d hd
 have q1 : jU 12 = true := by decide
 have q2 : jU 36 = true := by decide
 have q3 : jU 10 = true := by decide
 have q4 : jU 40 = true := by decide
 refine aBo.2 ⟨by simp [wkT],by simp [wkT],fun i hi => ?_,fun i hi => ?_⟩
 ·have : i = 0 ∨ i = 1 ∨ i = 2 ∨ i = 3 ∨ i = 4 := by simp [wkT] at hi; omega
  rcases this with rfl | rfl | rfl | rfl | rfl
  ·exact ⟨by simp [aMu,wkT,n1,ta,q1],rfl⟩
  ·exact ⟨by simp [aMu,wkT,n2,tb,tc],rfl⟩
  ·exact ⟨by simp [aMu,wkT,n3,td],rfl⟩
  ·exact ⟨by simp [aMu,wkT,n4,q2,q3],rfl⟩
  ·exact ⟨by simp [aMu,wkT,n5,q4],rfl⟩
 ·have : i = 0 ∨ i = 1 ∨ i = 2 ∨ i = 3 := by simp [wkT] at hi; omega
  rcases this with rfl | rfl | rfl | rfl
  ·exact ⟨vM.2 ⟨by simp [wkT],rfl,rfl⟩,rfl⟩
  ·exact ⟨vM.2 ⟨by simp [wkT],rfl,rfl⟩,rfl⟩
  ·exact ⟨vM.2 ⟨by simp [wkT],rfl,rfl⟩,rfl⟩
  ·exact ⟨vM.2 ⟨by simp [wkT],rfl,rfl⟩,rfl⟩
theorem aKu {n d : Int} (hd : 0 < d) (h : (mkR n d).2 = true) : (mkR n d).1.Num * d = n * (mkR n d).1.Den := by
 unfold mkR at h ⊢
 split at h
 ·cases h
 ·rename_i hc
  rw [if_neg hc]
  have hg : 0 < Int.gcd n d := lK (by omega)
  obtain ⟨x,hx⟩ := Int.gcd_dvd_left n d
  obtain ⟨y,hy⟩ := Int.gcd_dvd_right n d
  generalize (Int.gcd n d) = g at *
  have hg' : (g : Int) ≠ 0 := by omega
  have ed : eF d = (g : Int) * y := by unfold eF; omega
  dsimp only
  rw [ed,Int.mul_ediv_cancel_left _ hg',decide_eq_false (show ¬ d < 0 by omega)]
  by_cases hn : n < 0
  ·have en : eF n = (g : Int) * (-x) := by rw [Int.mul_neg]; unfold eF; omega
   rw [decide_eq_true hn,en,Int.mul_ediv_cancel_left _ hg']
   simp only [bne_iff_ne,ne_eq,Bool.true_eq_false,not_false_eq_true,if_true,Int.neg_neg]
   rw [hy,hx,Int.mul_comm (g : Int) x,Int.mul_comm (g : Int) y,Int.mul_assoc,Int.mul_comm (g : Int) y]
  ·have en : eF n = (g : Int) * x := by unfold eF; omega
   rw [decide_eq_false hn,en,Int.mul_ediv_cancel_left _ hg']
   simp only [bne_self_eq_false,Bool.false_eq_true,if_false]
   grind
def mvT (nm : ByteArray) (a b c d teeth beats : Int) (cal : aD) (cam : List Int) (st : Int) : bP := ⟨nm,wkT a b c d,0,4,2,teeth,beats,cal,cam,st⟩
theorem aQ0 {nm : ByteArray} {a b c d teeth beats : Int} {cal : aD} {cam : List Int} {st : Int} (hn : lX nm = true) (ha : tth a) (hb : tth b) (hc : tth c) (hd : tth d) (ht : tth teeth) (h0 : 1 ≤ beats ∧ beats ≤ 36000) (hk : aFh cal cam = 0) (hs : 0 ≤ st ∧ st ≤ 2) : aN2 (mvT nm a b c d teeth beats cal cam st) = true := by
 obtain ⟨k1,k2,k3,_⟩ := tY hk
 have e1 : jU teeth = true := decide_eq_true ht
 have e2 : btw beats 1 36000 = true := decide_eq_true h0
 have e3 : btw st 0 2 = true := decide_eq_true hs
 have e4 := aQd ha hb hc hd
 unfold aN2 mvT
 simp only [hn,e1,e2,e3,e4,k1,k2,Bool.and_true,Bool.true_and]
 rfl
end Go.Proofs.YtgcdbbidmfdonaaGreat
namespace Go.Proofs.YtgcdbbidmfdonaaGreat
set_option linter.unusedVariables false
set_option maxRecDepth 100000
theorem aJi {n d : Int} (hd : d ≠ 0) : eF (mkR n d).1.Num ≤ eF n ∧ eF (mkR n d).1.Den ≤ eF d := by
 have hg := lK (n := n) hd
 have h1 := qR (a := eF n) (g := (Int.gcd n d : Int)) (nS n) (by omega)
 have h2 := qR (a := eF d) (g := (Int.gcd n d : Int)) (nS d) (by omega)
 have z : eF 0 = 0 := rfl
 unfold mkR
 generalize eF n / (Int.gcd n d : Int) = x at *
 generalize eF d / (Int.gcd n d : Int) = y at *
 have hx : eF x = x := by unfold eF; omega
 have hy : eF y = y := by unfold eF; omega
 have hxn : eF (-x) = x := by unfold eF; omega
 split
 ·dsimp only; rw [z]; omega
 ·dsimp only
  refine ⟨?_,by omega⟩
  split
  ·omega
  ·omega
end Go.Proofs.YtgcdbbidmfdonaaGreat
namespace Go.Proofs.YtgcdbbidmfdonaaGreat
set_option linter.unusedVariables false
set_option maxRecDepth 100000
theorem xS {s : ByteArray} (h : lX s = true) : smS s := by
 unfold lX at h
 simp only [Bool.and_eq_true,decide_eq_true_eq] at h
 unfold smS; omega
theorem aMd {c : aD} (h : sH c = true) : gE c := by
 obtain ⟨h1,h2,h3,h4,h5,h6,h7⟩ := gA h
 refine ⟨xS h1,⟨by omega,fun m hm => ⟨?_,trivial,trivial⟩⟩,⟨by omega,fun _ _ => ⟨trivial,trivial,trivial⟩⟩,trivial⟩
 obtain ⟨i,hi,rfl⟩ := List.getElem_of_mem hm
 have := xV.1 h5 i hi
 rw [Bool.and_eq_true] at this
 have q := this.1
 unfold aLo at q
 rw [Bool.and_eq_true] at q
 exact xS q.1
theorem aQ1 {m : bP} (h : aN2 m = true) : iD m := by
 have hc := aM2 h
 obtain ⟨hw,_⟩ := aMf h
 have hn : lX m.Name = true := by unfold aN2 at h; rw [Bool.and_eq_true] at h; exact h.1
 obtain ⟨w1,w2,w3,w4⟩ := aBo.1 hw
 refine ⟨xS hn,⟨⟨by omega,fun a ha => ?_⟩,⟨by omega,fun _ _ => ⟨trivial,trivial,trivial,trivial⟩⟩⟩,trivial,trivial,trivial,trivial,trivial,aMd hc.1,⟨by have := (uV hc.2).2.2; omega,fun _ _ => trivial⟩,trivial⟩
 have q := aO9 hw a ha
 unfold aMu at q
 simp only [Bool.and_eq_true,decide_eq_true_eq] at q
 exact ⟨xS q.2.1,by have := q.2.2; omega,fun _ _ => trivial⟩
def aMm (t : List bL) (v : aM) : Prop := ∃ a b c d : Int,t = [⟨a,b⟩,⟨c,d⟩] ∧ (tth a ∧ tth b ∧ tth c ∧ tth d) ∧ (nF ⟨1,1⟩ a b).2 = true ∧ (nF (v1T a b) c d).2 = true ∧ v = v2T a b c d
theorem aOr {t : List bL} (h : trI t) : ∃ a b c d : Int,t = [⟨a,b⟩,⟨c,d⟩] ∧ tth a ∧ tth b ∧ tth c ∧ tth d := by
 obtain ⟨hl,hp⟩ := h
 match t,hl,hp with
 | [⟨a,b⟩,⟨c,d⟩],_,hp =>
  have h1 := hp ⟨a,b⟩ (by simp)
  have h2 := hp ⟨c,d⟩ (by simp)
  dsimp only at h1 h2
  exact ⟨a,b,c,d,rfl,⟨by omega,by omega⟩,⟨by omega,by omega⟩,⟨by omega,by omega⟩,⟨by omega,by omega⟩⟩
theorem aEk {v : aM} (hv : KnR v) {t u : Int} (ht : tth t) (hu : tth u) : ((fH (w64 (-t)) u).bind fun x => kW v x.1) = some (nF v t u) := by
 obtain ⟨t0,t1⟩ := ht
 obtain ⟨u0,u1⟩ := hu
 obtain ⟨h1,h2,h3⟩ := yG t0 t1 u0 u1
 rw [aU (x := -t) (by omega) (by omega),pK ⟨by omega,by omega⟩ ⟨by omega,by omega⟩ (by omega),Option.bind_some,aFx hv.1 h2]; rfl
theorem aLn {t : List bL} {v : aM} (h : aMm t v) : KnR v := by
 obtain ⟨a,b,c,d,rfl,⟨ha,hb,hc,hd⟩,h1,h2,rfl⟩ := h
 exact vU (vU ⟨by decide,by decide⟩ ha.1 ha.2 hb.1 hb.2 h1) hc.1 hc.2 hd.1 hd.2 h2
theorem aP3 {t : List bL} (h : trI t) : sA t = some true := by
 obtain ⟨a,b,c,d,rfl,ha,hb,hc,hd⟩ := aOr h
 have q1 : jU a = true := decide_eq_true ha
 have q2 : jU b = true := decide_eq_true hb
 have q3 : jU c = true := decide_eq_true hc
 have q4 : jU d = true := decide_eq_true hd
 unfold sA
 rw [aJn (xs := [(⟨a,b⟩ : bL),⟨c,d⟩]) (e := .inr false) (fun _ p => jU p.Driver && jU p.Driven) (by simp) fun i hi => ?_]
 ·have : aI5 [(⟨a,b⟩ : bL),⟨c,d⟩] (fun _ p => jU p.Driver && jU p.Driven) = true := by
   rw [xV]
   intro i hi
   have : i = 0 ∨ i = 1 := by simp at hi; omega
   rcases this with rfl | rfl
   ·simp [q1,q2]
   ·simp [q3,q4]
  rw [this]; rfl
 ·rw [fB hi,Option.bind_some]
  unfold rM
  rw [rA,rA]
  simp only [Option.bind_some]
  cases jU [(⟨a,b⟩ : bL),⟨c,d⟩][i].Driver <;> cases jU [(⟨a,b⟩ : bL),⟨c,d⟩][i].Driven <;> rfl
theorem aR6 {c : aD} (h : gE c) : qN c = some c := by
 have h1 := h.2.1.1
 have h2 := h.2.2.1.1
 unfold qN
 rw [gW (by simp; omega),gW (by simp; omega)]
 simp
end Go.Proofs.YtgcdbbidmfdonaaGreat
