/- Texts of this claim, one behind the other (merged by a program of mine). -/
import Derived.Lib.Join
import Derived.Test.YtgcdbbidmfdonaaGreatDoorTie
import Derived.Lib.LaidTab
import Derived.Stop.LaidErr
import Derived.SevenTiedAt
import Derived.Test.YtgcdbbidmfdonaaGreatDoorGP5
set_option linter.unusedSimpArgs false
set_option linter.unusedVariables false
namespace Go.Proofs.YtgcdbbidmfdonaaGreatDoor
set_option linter.unusedVariables false
theorem aA7 {a b : Int} : Int.gcd b (a.tmod b) = Int.gcd a b := by
 unfold Int.gcd
 rw [Int.natAbs_tmod,Nat.gcd_comm a.natAbs b.natAbs,Nat.gcd_comm, ← Nat.gcd_rec]
theorem aFb {step : Int × Int → Option ((Int × Int) ⊕ Int)} (hS : ∀ a b,b ≠ 0 → step (a,b) = some (.inl (b,a.tmod b))) (hE : ∀ a,step (a,0) = some (.inr a)) (a b : Int) (hb : b.natAbs ≤ 9223372036854775808) :
  ∃ g,bY step (a,b) = some g ∧ g.natAbs = Int.gcd a b ∧ (g = a ∨ g.natAbs ≤ b.natAbs) := by
 refine lY (fun (s : Int × Int) => Int.gcd s.1 s.2 = Int.gcd a b ∧ s.2.natAbs ≤ b.natAbs ∧ (s.1 = a ∨ s.1.natAbs ≤ b.natAbs)) (fun (s : Int × Int) => s.2.natAbs) (fun g => g.natAbs = Int.gcd a b ∧ (g = a ∨ g.natAbs ≤ b.natAbs)) (fun s hI => ?_) (a,b) ⟨rfl,Nat.le_refl _, .inl rfl⟩ (by dsimp only; omega)
 obtain ⟨x,y⟩ := s
 obtain ⟨h1,h2,h3⟩ := hI
 dsimp only at h1 h2 h3 ⊢
 by_cases hy : y = 0
 ·right
  subst hy
  exact ⟨x,hE x,by rw [← h1]; simp,h3⟩
 ·left
  have hlt : (x.tmod y).natAbs < y.natAbs := by rw [Int.natAbs_tmod]; exact Nat.mod_lt _ (by omega)
  exact ⟨_,hS x y hy,⟨by rw [aA7]; exact h1,by dsimp only; omega, .inr h2⟩,hlt⟩
theorem aDv {step : Int × Int → Option ((Int × Int) ⊕ Int)} (hS : ∀ a b,0 ≤ a → 0 < b → step (a,b) = some (.inl (b,a.tmod b))) (hE : ∀ a,step (a,0) = some (.inr a)) {a b : Int} (ha : 0 ≤ a) (hb0 : 0 ≤ b) (hb : b ≤ 18446744073709551616) :
  bY step (a,b) = some (Int.gcd a b : Int) := by
 obtain ⟨g,h,h1,h2⟩ := lY (step := step) (fun (s : Int × Int) => Int.gcd s.1 s.2 = Int.gcd a b ∧ 0 ≤ s.1 ∧ 0 ≤ s.2) (fun (s : Int × Int) => s.2.natAbs) (fun g => g.natAbs = Int.gcd a b ∧ 0 ≤ g) (fun s hI => by
  obtain ⟨x,y⟩ := s
  obtain ⟨h1,h2,h3⟩ := hI
  dsimp only at h1 h2 h3 ⊢
  by_cases hy : y = 0
  ·right
   subst hy
   exact ⟨x,hE x,by rw [← h1]; simp,h2⟩
  ·left
   have hlt : (x.tmod y).natAbs < y.natAbs := by rw [Int.natAbs_tmod]; exact Nat.mod_lt _ (by omega)
   exact ⟨_,hS x y h2 (by omega),⟨by rw [aA7]; exact h1,h3,Int.tmod_nonneg _ h2⟩,hlt⟩) (a,b) ⟨rfl,ha,hb0⟩ (by dsimp only; omega)
 rw [h]; congr 1; omega
theorem zS {n d : Int} (h : d ≠ 0) : 0 < Int.gcd n d := Int.gcd_pos_of_ne_zero_right n h
theorem aEg {a b : Int} (ha : osI a) (ha' : -9223372036854775808 < a) (hb : osI b) (hb' : -9223372036854775808 < b) : pR a b = some (Int.gcd a b : Int) := by
 unfold pR
 obtain ⟨a0,a1⟩ := ha
 obtain ⟨b0,b1⟩ := hb
 obtain ⟨g,h,h1,h2⟩ := aFb (step := fun s3 => (if s3.2 ≠ 0 then (chk (s3.2 ≠ 0) (some (.inl (s3.2,s3.1.tmod s3.2)))) else some (.inr s3.1))) (fun a b h => by simp only; rw [if_pos h,cW h]) (fun a => by simp) a b (by omega)
 rw [h,Option.bind_some]
 split
 ·rw [cG (by omega) (by omega)]; congr 1; omega
 ·congr 1; omega
theorem yT {a b : Int} (ha : 0 ≤ a) (hb : 0 ≤ b) (hb1 : b ≤ 18446744073709551616) : lP a b = some (Int.gcd a b : Int) := by
 unfold lP
 rw [aDv (fun a b h0 h1 => by simp only; rw [if_pos (by omega),cW (by omega)]) (fun a => by simp) ha hb hb1]; rfl
end Go.Proofs.YtgcdbbidmfdonaaGreatDoor
namespace Go.Proofs.YtgcdbbidmfdonaaGreatDoor
set_option linter.unusedVariables false
def aFq (m : aZ) : Bool := lX m.Name && (btw m.Days 1 60 && btw m.Leap 1 60)
def kR (r : aH) : Bool := btw r.Every 1 1000 && btw r.Rest 0 (r.Every - 1)
def aAr (y : Int) (r : aH) : Int := if y ≤ 2000 then y / (Int.gcd y r.Every : Int) * r.Every else y
def cyc (rs : List aH) : Int := rs.foldl aAr 1
def yY (xs : List aZ) : Bool := yU xs fun i m => aFq m && !((xs.take i).any fun n => decide (n.Name = m.Name))
def aHq (c : bP) : Bool := lX c.Name && (decide (1 ≤ c.Months.length ∧ c.Months.length ≤ 20) && (decide (c.Rules.length ≤ 6) && (btw c.Week 1 12 && (yY c.Months && (c.Rules.all kR && decide (cyc c.Rules ≤ 2000))))))
theorem oS {r : aH} : kR r = true ↔ (1 ≤ r.Every ∧ r.Every ≤ 1000) ∧ 0 ≤ r.Rest ∧ r.Rest ≤ r.Every - 1 := by
 unfold kR btw
 simp only [Bool.and_eq_true,decide_eq_true_eq]
theorem oT {y e : Int} (y0 : 1 ≤ y) (y1 : y ≤ 2000) (e0 : 1 ≤ e) (e1 : e ≤ 1000) : 1 ≤ y / (Int.gcd y e : Int) ∧ y / (Int.gcd y e : Int) ≤ 2000 ∧ 1 ≤ y / (Int.gcd y e : Int) * e ∧ y / (Int.gcd y e : Int) * e ≤ 2000000 := by
 have hg := zS (n := y) (d := e) (by omega)
 have hd : (Int.gcd y e : Int) ∣ y := Int.gcd_dvd_left ..
 have h1 : 1 ≤ y / (Int.gcd y e : Int) := by
  have h2 : (Int.gcd y e : Int) ≤ y := Int.le_of_dvd (by omega) hd
  exact (Int.le_ediv_iff_mul_le (by omega)).2 (by omega)
 have h2 : y / (Int.gcd y e : Int) ≤ y := Int.ediv_le_self _ (by omega)
 refine ⟨h1,by omega,?_,?_⟩
 ·have := Int.mul_le_mul h1 e0 (by omega) (by omega); omega
 ·have := Int.mul_le_mul (show y / (Int.gcd y e : Int) ≤ 2000 by omega) e1 (by omega) (by omega); omega
theorem aGq {y : Int} {r : aH} (y0 : 1 ≤ y) (y1 : y ≤ 2000000) (h : kR r = true) : 1 ≤ aAr y r ∧ aAr y r ≤ 2000000 := by
 unfold aAr
 have hr := oS.1 h
 split
 ·have := oT y0 (by omega) hr.1.1 hr.1.2; omega
 ·omega
theorem aD7 {rs : List aH} {y : Int} (h : 2000 < y) : rs.foldl aAr y = y := by
 induction rs generalizing y with
 | nil => rfl
 | cons r rs ih =>
  rw [List.foldl_cons]
  have e : aAr y r = y := by unfold aAr; rw [if_neg (by omega)]
  rw [e]; exact ih h
theorem sH {rs : List aH} (hl : rs.length ≤ 9223372036854775807) (h : rs.all kR = true) : fX rs = some (cyc rs) := by
 unfold fX
 have hr : ∀ (i : Nat) (hi : i < rs.length),kR rs[i] = true := fun i hi => (List.all_eq_true.1 h) _ (List.getElem_mem hi)
 have := xV (xs := rs) (step := fun s6 => (if s6.2 < (rs.length : Int) then ((((atI rs s6.2).bind fun v7 => (if s6.1 ≤ 2000 then ((pR s6.1 v7.Every).bind fun v8 => (chk (v8 ≠ 0) (some (w64 ((w64 (s6.1.tdiv v8)) * v7.Every))))) else some s6.1)) : Option Int).bind fun v10 => some (.inl (v10,w64 (s6.2 + 1)))) else some (.inr s6.1)))
  (fun i (y : Int) => (y,i)) (fun _ r y => some (.inl (aAr y r))) id (fun y => 1 ≤ y ∧ y ≤ 2000000) hl (fun i hi y hy => by
   have hi' : (i : Int) < rs.length := by omega
   have e1 : w64 ((i : Int) + 1) = i + 1 := cG (by omega) (by omega)
   have hq := oS.1 (hr i hi)
   simp only [if_pos hi',dX hi,Option.bind_some,e1]
   unfold aAr
   by_cases c : y ≤ 2000
   ·have hc := oT hy.1 c hq.1.1 hq.1.2
    have hg := zS (n := y) (d := rs[i].Every) (by omega)
    rw [if_pos c,if_pos c,aEg ⟨by omega,by omega⟩ (by omega) ⟨by omega,by omega⟩ (by omega),Option.bind_some,cW (by omega),Int.tdiv_eq_ediv_of_nonneg (by omega),cG (x := y / _) (by omega) (by omega),cG (by omega) (by omega)]
    rfl
   ·rw [if_neg c,if_neg c]; rfl) (fun i hi y y' hy e => by
   injection e with e; injection e with e; subst e
   exact aGq hy.1 hy.2 (hr i hi)) (fun y _ => by simp) 1 (by omega)
 rw [this,xW aAr (fun _ _ _ => rfl)]
 rfl
theorem zB {X : Type} {e : X} {rs : List aH} : ∀ (k : Nat) (y : Int),1 ≤ y → y ≤ 2000 → aGu (X := X) (fun _ r y => if kR r = true then (if 2000 < y / (Int.gcd y r.Every : Int) * r.Every then some (.inr e) else some (.inl (y / (Int.gcd y r.Every : Int) * r.Every))) else some (.inr e)) rs k y = some (if rs.all kR = true ∧ rs.foldl aAr y ≤ 2000 then .inl (rs.foldl aAr y) else .inr e) := by
 induction rs with
 | nil => intro k y h0 h1; simp [aGu,h1]
 | cons r rs ih =>
  intro k y h0 h1
  show Option.bind (if kR r = true then _ else _) _ = _
  cases hr : kR r
  ·simp [hr]
  ·have hq := oS.1 hr
   have hc := oT h0 h1 hq.1.1 hq.1.2
   have e : aAr y r = y / (Int.gcd y r.Every : Int) * r.Every := by unfold aAr; rw [if_pos h1]
   rw [if_pos rfl,List.foldl_cons,List.all_cons,hr,e,Bool.true_and]
   by_cases c : 2000 < y / (Int.gcd y r.Every : Int) * r.Every
   ·rw [if_pos c,Option.bind_some,aD7 c,if_neg (by omega)]
   ·rw [if_neg c,Option.bind_some]
    exact ih (k + 1) _ hc.2.2.1 (by omega)
theorem vN {rs : List aH} (hl : rs.length ≤ 9223372036854775807) : iT rs = some (if rs.all kR = true ∧ cyc rs ≤ 2000 then (cyc rs,decide (rs.length ≤ 6)) else (0,false)) := by
 unfold iT
 rw [xV (xs := rs) (fun i (y : Int) => (y,i)) (fun _ r y => if kR r = true then (if 2000 < y / (Int.gcd y r.Every : Int) * r.Every then some (.inr (.inr (0,false))) else some (.inl (y / (Int.gcd y r.Every : Int) * r.Every))) else some (.inr (.inr (0,false)))) (fun y => .inl y) (fun y => 1 ≤ y ∧ y ≤ 2000) hl (fun i hi y hy => ?_) (fun i hi y y' hy e => ?_) (fun y _ => by simp) 1 (by omega)]
 ·have e : aGu (X := Int ⊕ (Int × Bool)) (fun _ r y => if kR r = true then (if 2000 < y / (Int.gcd y r.Every : Int) * r.Every then some (.inr (.inr (0,false))) else some (.inl (y / (Int.gcd y r.Every : Int) * r.Every))) else some (.inr (.inr (0,false)))) rs 0 1 = some (if rs.all kR = true ∧ cyc rs ≤ 2000 then .inl (cyc rs) else .inr (.inr (0,false))) := zB 0 1 (by omega) (by omega)
  rw [e]
  by_cases c : rs.all kR = true ∧ cyc rs ≤ 2000
  ·simp only [if_pos c]
   simp [orE]
   omega
  ·simp only [if_neg c]; rfl
 ·have hi' : (i : Int) < rs.length := by omega
  have e1 : w64 ((i : Int) + 1) = i + 1 := cG (by omega) (by omega)
  simp only [if_pos hi',dX hi,Option.bind_some,e1,eF]
  have e2 : kR rs[i] = (btw rs[i].Every 1 1000 && btw rs[i].Rest 0 (rs[i].Every - 1)) := rfl
  rw [e2]
  by_cases c1 : btw rs[i].Every 1 1000 = true
  ·have q := of_decide_eq_true c1
   rw [c1,cG (x := rs[i].Every - 1) (by omega) (by omega)]
   cases btw rs[i].Rest 0 (rs[i].Every - 1)
   ·rfl
   ·have hc := oT hy.1 hy.2 q.1 q.2
    have hg := zS (n := y) (d := rs[i].Every) (by omega)
    simp only [Bool.not_true,Bool.false_eq_true,if_false,Option.bind_some,Bool.and_self,if_true]
    rw [yT (by omega) (by omega) (by omega),Option.bind_some,cW (by omega),Int.tdiv_eq_ediv_of_nonneg (by omega),cG (x := y / _) (by omega) (by omega),cG (by omega) (by omega)]
    by_cases c : 2000 < y / (Int.gcd y rs[i].Every : Int) * rs[i].Every
    ·rw [if_pos c,if_pos c]; rfl
    ·rw [if_neg c,if_neg c]; rfl
  ·rw [Bool.not_eq_true] at c1
   rw [c1]; rfl
 ·split at e
  ·rename_i hr
   have hq := oS.1 hr
   have hc := oT hy.1 hy.2 hq.1.1 hq.1.2
   split at e
   ·cases e
   ·injection e with e; injection e with e; omega
  ·cases e
theorem sB {xs : List aZ} {m : aZ} (hl : xs.length ≤ 9223372036854775807) : aO xs m = some (xs.any fun n => decide (n.Name = m.Name)) := by
 unfold aO bD
 rw [aFt (fun n => decide (n.Name = m.Name)) hl fun i hi => by rw [dX hi,Option.bind_some,eU,Option.bind_some],Option.bind_some,aAt]
theorem oK {c : bP} (hm : c.Months.length ≤ 9223372036854775807) (hr : c.Rules.length ≤ 9223372036854775807) : eJ c = some (aHq c) := by
 unfold eJ aHq
 simp only [nS,gK,Option.bind_some,itO]
 simp only [aKe (p := (_ : Int) < _),itO,Option.bind_some]
 by_cases h : lX c.Name = true ∧ (1 ≤ c.Months.length ∧ c.Months.length ≤ 20) ∧ c.Rules.length ≤ 6 ∧ btw c.Week 1 12 = true
 ·obtain ⟨h1,h2,h3,h4⟩ := h
  rw [h1,h4,decide_eq_false (show ¬ (c.Months.length : Int) < 1 by omega),decide_eq_false (show ¬ 20 < (c.Months.length : Int) by omega),decide_eq_false (show ¬ 6 < (c.Rules.length : Int) by omega),decide_eq_true h2,decide_eq_true h3,if_neg (by decide),
   pE (e := .inr false) (fun i m => aFq m && !((c.Months.take i).any fun n => decide (n.Name = m.Name))) hm fun i hi => ?_,Option.bind_some,
   pE (e := .inr false) (fun _ r => kR r) hr fun i hi => ?_,Option.bind_some,lE]
  ·by_cases h5 : c.Rules.all kR = true
   ·rw [sH hr h5,Option.bind_some,h5]
    unfold yY
    cases yU c.Months (fun i m => aFq m && !((c.Months.take i).any fun n => decide (n.Name = m.Name))) <;> rfl
   ·rw [Bool.not_eq_true] at h5
    rw [h5]
    unfold yY
    cases yU c.Months (fun i m => aFq m && !((c.Months.take i).any fun n => decide (n.Name = m.Name))) <;> rfl
  ·rw [dX hi]
   simp only [Option.bind_some]
   by_cases q : btw c.Rules[i].Every 1 1000 = true
   ·have := of_decide_eq_true q
    unfold kR
    rw [q,cG (by omega) (by omega)]
    cases btw c.Rules[i].Rest 0 (c.Rules[i].Every - 1) <;> rfl
   ·rw [Bool.not_eq_true] at q
    unfold kR
    rw [q]; rfl
  ·rw [dX hi]
   simp only [Option.bind_some]
   rw [cW (yO (by omega)),aEn,sB (by rw [List.length_take]; omega),Option.bind_some]
   unfold aFq
   cases lX c.Months[i].Name <;> cases btw c.Months[i].Days 1 60 <;> cases btw c.Months[i].Leap 1 60 <;> cases ((c.Months.take i).any fun n => decide (n.Name = c.Months[i].Name)) <;> rfl
 ·have e : (!lX c.Name || (decide ((c.Months.length : Int) < 1) || (decide (20 < (c.Months.length : Int)) || (decide (6 < (c.Rules.length : Int)) || !btw c.Week 1 12)))) = true := by
   simp only [Bool.or_eq_true,Bool.not_eq_true',decide_eq_true_eq]
   by_cases h1 : lX c.Name = true
   ·by_cases h2 : 1 ≤ c.Months.length ∧ c.Months.length ≤ 20
    ·by_cases h3 : c.Rules.length ≤ 6
     ·have h4 : ¬ btw c.Week 1 12 = true := fun h4 => h ⟨h1,h2,h3,h4⟩
      simp [h4]
     ·omega
    ·omega
   ·simp [h1]
  rw [e,if_pos rfl]
  congr 1
  symm
  rw [← Bool.not_eq_true]
  simp only [Bool.and_eq_true,decide_eq_true_eq]
  rintro ⟨h1,h2,h3,h4,_⟩
  exact h ⟨h1,h2,h3,h4⟩
theorem tT {xs : List aZ} (hl : xs.length ≤ 9223372036854775807) : iG xs = some (yY xs && decide (1 ≤ xs.length ∧ xs.length ≤ 20)) := by
 unfold iG
 rw [pE (e := .inr false) (fun i m => aFq m && !((xs.take i).any fun n => decide (n.Name = m.Name))) hl fun i hi => ?_,Option.bind_some]
 ·have e : btw (xs.length : Int) 1 20 = decide (1 ≤ xs.length ∧ xs.length ≤ 20) := by unfold btw; rw [decide_eq_decide]; omega
  rw [eF,e]
  unfold yY
  cases yU xs (fun i m => aFq m && !((xs.take i).any fun n => decide (n.Name = m.Name))) <;> rfl
 ·simp only [dX hi,mC,eF,Option.bind_some,itO]
  rw [aHb (xs := xs) i (fun _ (b : aZ) => !decide (b.Name = xs[i].Name)) (by omega) (by omega) fun j hj _ => by
   rw [dX hj,Option.bind_some]
   by_cases q : xs[j].Name = xs[i].Name
   ·rw [if_pos q,decide_eq_true q]; rfl
   ·rw [if_neg q,decide_eq_false q]; rfl,lE]
  have e : ((xs.take i).all fun b => !decide (b.Name = xs[i].Name)) = !((xs.take i).any fun b => decide (b.Name = xs[i].Name)) := by rw [Bool.eq_iff_iff]; simp
  rw [e]
  unfold aFq
  cases lX xs[i].Name <;> cases btw xs[i].Days 1 60 <;> cases btw xs[i].Leap 1 60 <;> cases ((xs.take i).any fun n => decide (n.Name = xs[i].Name)) <;> rfl
theorem aBi {c : bP} (hm : c.Months.length ≤ 9223372036854775807) (hr : c.Rules.length ≤ 9223372036854775807) : mP c = some (aHq c) := by
 unfold mP aHq
 rw [vN hr,Option.bind_some]
 simp only [mC,tT hm,eF,Option.bind_some,itA]
 by_cases h : c.Rules.all kR = true ∧ cyc c.Rules ≤ 2000
 ·rw [if_pos h,h.1,decide_eq_true h.2]
  cases lX c.Name <;> cases yY c.Months <;> cases btw c.Week 1 12 <;> cases decide (1 ≤ c.Months.length ∧ c.Months.length ≤ 20) <;> cases decide (c.Rules.length ≤ 6) <;> rfl
 ·rw [if_neg h]
  have e : (c.Rules.all kR && decide (cyc c.Rules ≤ 2000)) = false := by
   rw [← Bool.not_eq_true,Bool.and_eq_true,decide_eq_true_eq]; exact h
  rw [e]
  cases lX c.Name <;> cases yY c.Months <;> cases btw c.Week 1 12 <;> cases decide (1 ≤ c.Months.length ∧ c.Months.length ≤ 20) <;> cases decide (c.Rules.length ≤ 6) <;> rfl
def aBq (xs : List Int) : Bool := xs.all (fun n => btw n 1 60) && decide (1 ≤ xs.length ∧ xs.length ≤ 260)
theorem oY {xs : List Int} (hl : xs.length ≤ 9223372036854775807) : gV xs = some (aBq xs) := by
 unfold gV aBq
 rw [pE (fun _ v => btw v 1 60) hl fun i hi => by rw [dX hi,Option.bind_some,gK,Option.bind_some]; cases btw xs[i] 1 60 <;> rfl,lE,Option.bind_some,aJ5]
 have e : (decide (1 ≤ (xs.length : Int)) && decide ((xs.length : Int) ≤ 260)) = decide (1 ≤ xs.length ∧ xs.length ≤ 260) := by rw [← Bool.decide_and,decide_eq_decide]; omega
 rw [e]
 exact aBa rfl
theorem tY {xs : List Int} (hl : xs.length ≤ 9223372036854775807) : lQ xs = some (aBq xs) := by
 unfold lQ aBq
 rw [pE (fun _ v => btw v 1 60) hl fun i hi => by rw [dX hi,Option.bind_some,eF,Option.bind_some]; cases btw xs[i] 1 60 <;> rfl,lE,Option.bind_some,eF,Option.bind_some]
 have e : btw (xs.length : Int) 1 260 = decide (1 ≤ xs.length ∧ xs.length ≤ 260) := by unfold btw; rw [decide_eq_decide]; omega
 rw [e]
 exact aBa rfl
end Go.Proofs.YtgcdbbidmfdonaaGreatDoor
namespace Go.Proofs.YtgcdbbidmfdonaaGreatDoor
set_option linter.unusedVariables false
def smS (x : ByteArray) : Prop := x.size ≤ 1048576
def smL {α : Type} (sm : α → Prop) (xs : List α) : Prop := xs.length ≤ 1048576 ∧ ∀ m ∈ xs,sm m
theorem aDs (b : Int) : (strOfNums [b]).size = 1 := by simp [strOfNums,ByteArray.size]
theorem uX {k : Int} (h0 : 0 ≤ k) (h1 : k ≤ 1000000000000000000) : ∃ t,dH k = some t := by
 unfold dH
 by_cases hk : k ≤ 0
 ·exact ⟨_,if_pos hk⟩
 ·rw [if_neg hk]
  obtain ⟨x,hx,hp⟩ := lY (S := Int × ByteArray) (X := ByteArray) (step := fun s5 => (if 0 < s5.1 then (chk ((strOfNums [IntKind.u8.wrap (w64 (48 + (s5.1.tmod 10)))]).size + s5.2.size ≤ 9223372036854775807) (some (.inl (w64 (s5.1.tdiv 10),(strOfNums [IntKind.u8.wrap (w64 (48 + (s5.1.tmod 10)))]) ++ s5.2)))) else some (.inr s5.2)))
   (fun (s : Int × ByteArray) => 0 ≤ s.1 ∧ s.1 + s.2.size ≤ 1000000000000000000) (fun (s : Int × ByteArray) => s.1.toNat) (fun x => (x.size : Int) ≤ 1000000000000000000) (fun s hI => by
    obtain ⟨i,b⟩ := s
    obtain ⟨q0,q1⟩ := hI
    dsimp only at q0 q1 ⊢
    by_cases hi : 0 < i
    ·left
     have e1 : i.tdiv 10 = i / 10 := Int.tdiv_eq_ediv_of_nonneg q0
     have e2 : w64 (i / 10) = i / 10 := cG (by omega) (by omega)
     have e3 := aDs (IntKind.u8.wrap (w64 (48 + (i.tmod 10))))
     refine ⟨_,by rw [if_pos hi,cW (by rw [e3]; omega)],?_,?_⟩
     ·dsimp only
      rw [e1,e2,ByteArray.size_append,e3]
      push_cast
      omega
     ·dsimp only
      rw [e1,e2]; omega
    ·right; exact ⟨b,by rw [if_neg hi],by omega⟩) (k,⟨#[]⟩) ⟨h0,by show k + ((0 : Nat) : Int) ≤ _; omega⟩ (by dsimp only; omega)
  rw [hx]
  refine ⟨_,cW ?_⟩
  have : (⟨#[109]⟩ : ByteArray).size = 1 := rfl
  rw [this]; omega
def mkT (k : Int) : ByteArray := (dH k).getD ⟨#[]⟩
theorem lU {k : Int} (h0 : 0 ≤ k) (h1 : k ≤ 1000000000000000000) : dH k = some (mkT k) := by
 obtain ⟨t,ht⟩ := uX h0 h1
 unfold mkT; rw [ht]; rfl
end Go.Proofs.YtgcdbbidmfdonaaGreatDoor
namespace Go.Proofs.YtgcdbbidmfdonaaGreatDoor
open Go.RowKit
set_option linter.unusedVariables false
set_option maxRecDepth 100000
set_option maxHeartbeats 2000000
def gC (x : bH) : Prop := smS x.Name ∧ (smL (fun _ => True)) x.Wheels
def nW (x : bJ) : Prop := (fun _ => True) x.A ∧ (fun _ => True) x.WheelA ∧ (fun _ => True) x.B ∧ (fun _ => True) x.WheelB
def mY (x : bQ) : Prop := (smL gC) x.Arbors ∧ (smL nW) x.Meshes
def kW (x : aZ) : Prop := smS x.Name ∧ (fun _ => True) x.Days ∧ (fun _ => True) x.Leap
def gE (x : aH) : Prop := (fun _ => True) x.Every ∧ (fun _ => True) x.Rest ∧ (fun _ => True) x.Leap
def jU (x : bP) : Prop := smS x.Name ∧ (smL kW) x.Months ∧ (smL gE) x.Rules ∧ (fun _ => True) x.Week
def eS (x : aV) : Prop := smS x.Name ∧ mY x.Works ∧ (fun _ => True) x.Minute ∧ (fun _ => True) x.Hour ∧ (fun _ => True) x.Escape ∧ (fun _ => True) x.Teeth ∧ (fun _ => True) x.Beats ∧ jU x.Calendar ∧ (smL (fun _ => True)) x.Cam ∧ (fun _ => True) x.Strike
theorem rN {x : List Int} (h : (smL (fun _ => True)) x) : gQ x = some x := by
 unfold gQ
 rw [cW (by have := h.1; omega),aGw (by have := h.1; omega)]; rfl
theorem aBf {x : bH} (h : gC x) : kN x = some x := by
 unfold kN
 simp only [rN h.2,Option.bind_some]
theorem yW {x : List bH} (h : (smL gC) x) : jC x = some x := by
 unfold jC
 rw [cW (by have := h.1; omega),xD (by have := h.1; omega) fun v hv => aBf (h.2 v hv)]; rfl
theorem aCk {x : bJ} (h : nW x) : nF x = some x := rfl
theorem aBm {x : List bJ} (h : (smL nW) x) : kB x = some x := by
 unfold kB
 rw [cW (by have := h.1; omega),xD (by have := h.1; omega) fun v hv => aCk (h.2 v hv)]; rfl
theorem aBw {x : bQ} (h : mY x) : kL x = some x := by
 unfold kL
 simp only [yW h.1,aBm h.2,Option.bind_some]
theorem aBx {x : aZ} (h : kW x) : mD x = some x := rfl
theorem zH {x : List aZ} (h : (smL kW) x) : jE x = some x := by
 unfold jE
 rw [cW (by have := h.1; omega),xD (by have := h.1; omega) fun v hv => aBx (h.2 v hv)]; rfl
theorem vS {x : aH} (h : gE x) : iN x = some x := rfl
theorem tR {x : List aH} (h : (smL gE) x) : fL x = some x := by
 unfold fL
 rw [cW (by have := h.1; omega),xD (by have := h.1; omega) fun v hv => vS (h.2 v hv)]; rfl
theorem vU {x : bP} (h : jU x) : fU x = some x := by
 unfold fU
 simp only [zH h.2.1,tR h.2.2.1,Option.bind_some]
theorem vE {x : aV} (h : eS x) : dG x = some x := by
 unfold dG
 simp only [aBw h.2.1,vU h.2.2.2.2.2.2.2.1,rN h.2.2.2.2.2.2.2.2.1,Option.bind_some]
theorem sR {x : List Int} (h : (osL osI) x) (l : Int) (h0 : 0 ≤ l) (h1 : l ≤ 1048576) : ∃ r,gS x l = some r ∧ r ≤ l ∧ (0 ≤ r → (smL (fun _ => True)) x) := by
 obtain ⟨hl,hm⟩ := h
 unfold gS
 rw [cG (by omega) (by omega)]
 split
 ·exact ⟨_,rfl,by omega,by omega⟩
 ·exact ⟨_,rfl,by omega,fun _ => ⟨by omega,fun _ _ => trivial⟩⟩
theorem aBo {x : bH} (h : nA x) (l : Int) (h0 : 0 ≤ l) (h1 : l ≤ 1048576) : ∃ r,kE x l = some r ∧ r ≤ l ∧ (0 ≤ r → gC x) := by
 unfold kE
 have g0 := h.1
 unfold osS at g0
 rw [cG (x := l - (x.Name.size : Int)) (by omega) (by omega)]
 by_cases c0 : l - (x.Name.size : Int) < 0
 ·rw [if_pos c0]; exact ⟨-1,rfl,by omega,by omega⟩
 rw [if_neg c0]
 obtain ⟨r0,hr0⟩ : ∃ r : Int,r = l - (x.Name.size : Int) := ⟨_,rfl⟩
 rw [← hr0] at c0 ⊢
 obtain ⟨r1,e1,f1,s1⟩ := sR h.2 r0 (by omega) (by omega)
 rw [e1]
 simp only [Option.bind_some]
 by_cases c1 : r1 < 0
 ·simp only [if_pos c1]; exact ⟨_,rfl,by omega,by omega⟩
 simp only [if_neg c1]
 exact ⟨_,rfl,by omega,fun _ => ⟨(show smS x.Name by unfold smS; omega),s1 (by omega)⟩⟩
theorem zO {x : List bH} (h : (osL nA) x) (l : Int) (h0 : 0 ≤ l) (h1 : l ≤ 1048576) : ∃ r,jB x l = some r ∧ r ≤ l ∧ (0 ≤ r → (smL gC) x) := by
 obtain ⟨hl,hm⟩ := h
 unfold jB
 by_cases hq : w64 (l - (x.length : Int)) < 0
 ·rw [if_pos hq]; exact ⟨-1,rfl,by omega,by omega⟩
 ·rw [if_neg hq]
  rw [cG (by omega) (by omega)] at hq ⊢
  obtain ⟨y,hy,hp⟩ := aFo hl (sm := gC) (fun v hv a b c => aBo (hm v hv) a b c) (l - x.length) (by omega) (by omega)
  rw [hy]
  rcases hp with rfl | ⟨r,rfl,e1,e2,e3⟩
  ·exact ⟨-1,rfl,by omega,by omega⟩
  ·exact ⟨r,rfl,by omega,fun _ => ⟨by omega,e3⟩⟩
theorem aB6 {x : List bJ} (h : (osL rY) x) (l : Int) (h0 : 0 ≤ l) (h1 : l ≤ 1048576) : ∃ r,jT x l = some r ∧ r ≤ l ∧ (0 ≤ r → (smL nW) x) := by
 obtain ⟨hl,hm⟩ := h
 unfold jT
 rw [cG (by omega) (by omega)]
 split
 ·exact ⟨_,rfl,by omega,by omega⟩
 ·exact ⟨_,rfl,by omega,fun _ => ⟨by omega,fun _ _ => by simp [nW]⟩⟩
theorem aB7 {x : bQ} (h : uV x) (l : Int) (h0 : 0 ≤ l) (h1 : l ≤ 1048576) : ∃ r,kJ x l = some r ∧ r ≤ l ∧ (0 ≤ r → mY x) := by
 unfold kJ
 obtain ⟨r0,e0,f0,s0⟩ := zO h.1 l (by omega) (by omega)
 rw [e0]
 simp only [Option.bind_some]
 by_cases c0 : r0 < 0
 ·simp only [if_pos c0]; exact ⟨_,rfl,by omega,by omega⟩
 simp only [if_neg c0]
 obtain ⟨r1,e1,f1,s1⟩ := aB6 h.2 r0 (by omega) (by omega)
 rw [e1]
 simp only [Option.bind_some]
 by_cases c1 : r1 < 0
 ·simp only [if_pos c1]; exact ⟨_,rfl,by omega,by omega⟩
 simp only [if_neg c1]
 exact ⟨_,rfl,by omega,fun _ => ⟨s0 (by omega),s1 (by omega)⟩⟩
theorem aBr {x : aZ} (h : nB x) (l : Int) (h0 : 0 ≤ l) (h1 : l ≤ 1048576) : ∃ r,jW x l = some r ∧ r ≤ l ∧ (0 ≤ r → kW x) := by
 unfold jW
 have g0 := h.1
 unfold osS at g0
 rw [cG (x := l - (x.Name.size : Int)) (by omega) (by omega)]
 by_cases c0 : l - (x.Name.size : Int) < 0
 ·rw [if_pos c0]; exact ⟨-1,rfl,by omega,by omega⟩
 rw [if_neg c0]
 obtain ⟨r0,hr0⟩ : ∃ r : Int,r = l - (x.Name.size : Int) := ⟨_,rfl⟩
 rw [← hr0] at c0 ⊢
 exact ⟨_,rfl,by omega,fun _ => ⟨(show smS x.Name by unfold smS; omega),trivial,trivial⟩⟩
theorem zY {x : List aZ} (h : (osL nB) x) (l : Int) (h0 : 0 ≤ l) (h1 : l ≤ 1048576) : ∃ r,iZ x l = some r ∧ r ≤ l ∧ (0 ≤ r → (smL kW) x) := by
 obtain ⟨hl,hm⟩ := h
 unfold iZ
 by_cases hq : w64 (l - (x.length : Int)) < 0
 ·rw [if_pos hq]; exact ⟨-1,rfl,by omega,by omega⟩
 ·rw [if_neg hq]
  rw [cG (by omega) (by omega)] at hq ⊢
  obtain ⟨y,hy,hp⟩ := aFo hl (sm := kW) (fun v hv a b c => aBr (hm v hv) a b c) (l - x.length) (by omega) (by omega)
  rw [hy]
  rcases hp with rfl | ⟨r,rfl,e1,e2,e3⟩
  ·exact ⟨-1,rfl,by omega,by omega⟩
  ·exact ⟨r,rfl,by omega,fun _ => ⟨by omega,e3⟩⟩
theorem tI {x : List aH} (h : (osL kH) x) (l : Int) (h0 : 0 ≤ l) (h1 : l ≤ 1048576) : ∃ r,fF x l = some r ∧ r ≤ l ∧ (0 ≤ r → (smL gE) x) := by
 obtain ⟨hl,hm⟩ := h
 unfold fF
 rw [cG (by omega) (by omega)]
 split
 ·exact ⟨_,rfl,by omega,by omega⟩
 ·exact ⟨_,rfl,by omega,fun _ => ⟨by omega,fun _ _ => by simp [gE]⟩⟩
theorem vI {x : bP} (h : nO x) (l : Int) (h0 : 0 ≤ l) (h1 : l ≤ 1048576) : ∃ r,fS x l = some r ∧ r ≤ l ∧ (0 ≤ r → jU x) := by
 unfold fS
 have g0 := h.1
 unfold osS at g0
 rw [cG (x := l - (x.Name.size : Int)) (by omega) (by omega)]
 by_cases c0 : l - (x.Name.size : Int) < 0
 ·rw [if_pos c0]; exact ⟨-1,rfl,by omega,by omega⟩
 rw [if_neg c0]
 obtain ⟨r0,hr0⟩ : ∃ r : Int,r = l - (x.Name.size : Int) := ⟨_,rfl⟩
 rw [← hr0] at c0 ⊢
 obtain ⟨r1,e1,f1,s1⟩ := zY h.2.1 r0 (by omega) (by omega)
 rw [e1]
 simp only [Option.bind_some]
 by_cases c1 : r1 < 0
 ·simp only [if_pos c1]; exact ⟨_,rfl,by omega,by omega⟩
 simp only [if_neg c1]
 obtain ⟨r2,e2,f2,s2⟩ := tI h.2.2.1 r1 (by omega) (by omega)
 rw [e2]
 simp only [Option.bind_some]
 by_cases c2 : r2 < 0
 ·simp only [if_pos c2]; exact ⟨_,rfl,by omega,by omega⟩
 simp only [if_neg c2]
 exact ⟨_,rfl,by omega,fun _ => ⟨(show smS x.Name by unfold smS; omega),s1 (by omega),s2 (by omega),trivial⟩⟩
theorem vC {x : aV} (h : lW x) (l : Int) (h0 : 0 ≤ l) (h1 : l ≤ 1048576) : ∃ r,fQ x l = some r ∧ r ≤ l ∧ (0 ≤ r → eS x) := by
 unfold fQ
 have g0 := h.1
 unfold osS at g0
 rw [cG (x := l - (x.Name.size : Int)) (by omega) (by omega)]
 by_cases c0 : l - (x.Name.size : Int) < 0
 ·rw [if_pos c0]; exact ⟨-1,rfl,by omega,by omega⟩
 rw [if_neg c0]
 obtain ⟨r0,hr0⟩ : ∃ r : Int,r = l - (x.Name.size : Int) := ⟨_,rfl⟩
 rw [← hr0] at c0 ⊢
 obtain ⟨r1,e1,f1,s1⟩ := aB7 h.2.1 r0 (by omega) (by omega)
 rw [e1]
 simp only [Option.bind_some]
 by_cases c1 : r1 < 0
 ·simp only [if_pos c1]; exact ⟨_,rfl,by omega,by omega⟩
 simp only [if_neg c1]
 obtain ⟨r2,e2,f2,s2⟩ := vI h.2.2.2.2.2.2.2.1 r1 (by omega) (by omega)
 rw [e2]
 simp only [Option.bind_some]
 by_cases c2 : r2 < 0
 ·simp only [if_pos c2]; exact ⟨_,rfl,by omega,by omega⟩
 simp only [if_neg c2]
 obtain ⟨r3,e3,f3,s3⟩ := sR h.2.2.2.2.2.2.2.2.1 r2 (by omega) (by omega)
 rw [e3]
 simp only [Option.bind_some]
 by_cases c3 : r3 < 0
 ·simp only [if_pos c3]; exact ⟨_,rfl,by omega,by omega⟩
 simp only [if_neg c3]
 exact ⟨_,rfl,by omega,fun _ => ⟨(show smS x.Name by unfold smS; omega),s1 (by omega),trivial,trivial,trivial,trivial,trivial,s2 (by omega),s3 (by omega),trivial⟩⟩
theorem oQ {x : List Int} (h : (smL (fun _ => True)) x) : gW x x = some true := by
 unfold gW
 rw [if_neg (by simp),wX (by have := h.1; omega)]; rfl
theorem xQ {x : bH} (h : gC x) : jZ x x = some true := by
 unfold jZ
 simp [oQ h.2]
theorem wC {x : List bH} (h : (smL gC) x) : jG x x = some true := by
 unfold jG
 rw [if_neg (by simp),qP (by have := h.1; omega) fun v hv => xQ (h.2 v hv)]; rfl
theorem yR {x : bJ} (h : nW x) : lK x x = some true := by
 unfold lK
 simp []
theorem wU {x : List bJ} (h : (smL nW) x) : jY x x = some true := by
 unfold jY
 rw [if_neg (by simp),qP (by have := h.1; omega) fun v hv => yR (h.2 v hv)]; rfl
theorem wP {x : bQ} (h : mY x) : kG x x = some true := by
 unfold kG
 simp [wC h.1,wU h.2]
theorem wV {x : aZ} (h : kW x) : kM x x = some true := by
 unfold kM
 simp []
theorem uQ {x : List aZ} (h : (smL kW) x) : iY x x = some true := by
 unfold iY
 rw [if_neg (by simp),qP (by have := h.1; omega) fun v hv => wV (h.2 v hv)]; rfl
theorem rQ {x : aH} (h : gE x) : fR x x = some true := by
 unfold fR
 simp []
theorem qG {x : List aH} (h : (smL gE) x) : fE x x = some true := by
 unfold fE
 rw [if_neg (by simp),qP (by have := h.1; omega) fun v hv => rQ (h.2 v hv)]; rfl
theorem sD {x : bP} (h : jU x) : gA x x = some true := by
 unfold gA
 simp [uQ h.2.1,qG h.2.2.1]
theorem sC {x : aV} (h : eS x) : fZ x x = some true := by
 unfold fZ
 simp [wP h.2.1,sD h.2.2.2.2.2.2.2.1,oQ h.2.2.2.2.2.2.2.2.1]
def oZ (k : Int) : Int := k
theorem oR {x : List Int} {k : Int} (h0 : 0 ≤ k) (hk : k ≤ 100000000000000) (hl : x.length ≤ 1048576) : dT x k = some (k + 1 * x.length,(List.range x.length).map fun (j : Nat) => oZ (k + 1 * (j : Int))) := by
 unfold dT
 rw [oP (c := 1) (B := 1000000000000000) (M := oZ) (by omega) (fun k i ys a1 a2 a3 a4 a5 => ?_) (fun k i ys a => by simp [a]) h0 hl (by omega)]
 ·rfl
 ·obtain ⟨e,he,_,_⟩ := iE a3 a4
  have w : ∀ n : Int,0 ≤ n → n ≤ 2000000000000000 → w64 n = n := fun n p q => cG (by omega) (by omega)
  simp only [if_pos a4,he,Option.bind_some,List.set_set,rU a3 a4,w (k + 1) (by omega) (by omega),w (i + 1) (by omega) (by omega)]
  simp [oZ,Int.add_assoc]
def sK (k : Int) : bJ := ⟨k,k + 1,k + 2,k + 3⟩
theorem yB {x : List bJ} {k : Int} (h0 : 0 ≤ k) (hk : k ≤ 100000000000000) (hl : x.length ≤ 1048576) : fI x k = some (k + 4 * x.length,(List.range x.length).map fun (j : Nat) => sK (k + 4 * (j : Int))) := by
 unfold fI
 rw [oP (c := 4) (B := 1000000000000000) (M := sK) (by omega) (fun k i ys a1 a2 a3 a4 a5 => ?_) (fun k i ys a => by simp [a]) h0 hl (by omega)]
 ·rfl
 ·obtain ⟨e,he,_,_⟩ := iE a3 a4
  have w : ∀ n : Int,0 ≤ n → n ≤ 2000000000000000 → w64 n = n := fun n p q => cG (by omega) (by omega)
  simp only [if_pos a4,he,Option.bind_some,List.set_set,rU a3 a4,w (k + 1) (by omega) (by omega),w (k + 1 + 1) (by omega) (by omega),w (k + 1 + 1 + 1) (by omega) (by omega),w (k + 1 + 1 + 1 + 1) (by omega) (by omega),w (i + 1) (by omega) (by omega)]
  simp [sK,Int.add_assoc]
def nZ (k : Int) : aZ := ⟨mkT k,k + 1,k + 2⟩
theorem vO {x : List aZ} {k : Int} (h0 : 0 ≤ k) (hk : k ≤ 100000000000000) (hl : x.length ≤ 1048576) : eY x k = some (k + 3 * x.length,(List.range x.length).map fun (j : Nat) => nZ (k + 3 * (j : Int))) := by
 unfold eY
 rw [oP (c := 3) (B := 1000000000000000) (M := nZ) (by omega) (fun k i ys a1 a2 a3 a4 a5 => ?_) (fun k i ys a => by simp [a]) h0 hl (by omega)]
 ·rfl
 ·obtain ⟨e,he,_,_⟩ := iE a3 a4
  have w : ∀ n : Int,0 ≤ n → n ≤ 2000000000000000 → w64 n = n := fun n p q => cG (by omega) (by omega)
  simp only [if_pos a4,he,Option.bind_some,List.set_set,rU a3 a4,w (k + 1) (by omega) (by omega),w (k + 1 + 1) (by omega) (by omega),w (k + 1 + 1 + 1) (by omega) (by omega),w (i + 1) (by omega) (by omega),lU (show 0 ≤ k by omega) (by omega)]
  simp [nZ,Int.add_assoc]
def kP (k : Int) : aH := ⟨k,k + 1,decide ((k + 2).tmod 3 = 0)⟩
theorem qH {x : List aH} {k : Int} (h0 : 0 ≤ k) (hk : k ≤ 100000000000000) (hl : x.length ≤ 1048576) : dO x k = some (k + 3 * x.length,(List.range x.length).map fun (j : Nat) => kP (k + 3 * (j : Int))) := by
 unfold dO
 rw [oP (c := 3) (B := 1000000000000000) (M := kP) (by omega) (fun k i ys a1 a2 a3 a4 a5 => ?_) (fun k i ys a => by simp [a]) h0 hl (by omega)]
 ·rfl
 ·obtain ⟨e,he,_,_⟩ := iE a3 a4
  have w : ∀ n : Int,0 ≤ n → n ≤ 2000000000000000 → w64 n = n := fun n p q => cG (by omega) (by omega)
  simp only [if_pos a4,he,Option.bind_some,List.set_set,rU a3 a4,w (k + 1) (by omega) (by omega),w (k + 1 + 1) (by omega) (by omega),w (k + 1 + 1 + 1) (by omega) (by omega),w (i + 1) (by omega) (by omega)]
  simp [kP,Int.add_assoc]
def jV (k : Int) : ByteArray := mkT k
theorem tS {x : List ByteArray} {k : Int} (h0 : 0 ≤ k) (hk : k ≤ 100000000000000) (hl : x.length ≤ 1048576) : eM x k = some (k + 1 * x.length,(List.range x.length).map fun (j : Nat) => jV (k + 1 * (j : Int))) := by
 unfold eM
 rw [oP (c := 1) (B := 1000000000000000) (M := jV) (by omega) (fun k i ys a1 a2 a3 a4 a5 => ?_) (fun k i ys a => by simp [a]) h0 hl (by omega)]
 ·rfl
 ·obtain ⟨e,he,_,_⟩ := iE a3 a4
  have w : ∀ n : Int,0 ≤ n → n ≤ 2000000000000000 → w64 n = n := fun n p q => cG (by omega) (by omega)
  simp only [if_pos a4,he,Option.bind_some,List.set_set,rU a3 a4,w (k + 1) (by omega) (by omega),w (i + 1) (by omega) (by omega),lU (show 0 ≤ k by omega) (by omega)]
  simp [jV,Int.add_assoc]
theorem tM {n : Nat} {k : Int} (h0 : 0 ≤ k) (hk : k ≤ 100000000000000) (hl : n ≤ 1048576) : eK ((List.range n).map fun (j : Nat) => jV (k + 1 * (j : Int))) k = some (k + 1 * n) := by
 unfold eK
 rw [aEr (c := 1) (B := 1000000000000000) (M := jV) (n := n) (by omega) (fun k' i a1 a2 a3 a4 a5 => ?_) (fun k i a => by simp [a]) h0 hl (by omega)]
 ·rfl
 ·have he := aB4 (M := jV) (k0 := k) (c := 1) a3 a4
  have w : ∀ n : Int,0 ≤ n → n ≤ 2000000000000000 → w64 n = n := fun n p q => cG (by omega) (by omega)
  rw [← a5] at he
  simp only [List.length_map,List.length_range,if_pos a4,he,Option.bind_some,w (k' + 1) (by omega) (by omega),w (i + 1) (by omega) (by omega),lU (show 0 ≤ k' by omega) (by omega)]
  simp [jV,Int.add_assoc]
end Go.Proofs.YtgcdbbidmfdonaaGreatDoor
namespace Go.Proofs.YtgcdbbidmfdonaaGreatDoor
set_option linter.unusedVariables false
def aCg (w : bQ) (k : Int) : Bool := decide (0 ≤ k ∧ k < w.Arbors.length)
def aB2 (m : aV) : Bool := lX m.Name && (aGz m.Works && (aCg m.Works m.Minute && (aCg m.Works m.Hour && (aCg m.Works m.Escape && (mG m.Teeth && (btw m.Beats 1 36000 && (aHq m.Calendar && (aBq m.Cam && btw m.Strike 0 2))))))))
theorem smW {w : bQ} (h : mY w) : w.Arbors.length ≤ 9223372036854775807 ∧ (∀ b ∈ w.Arbors,b.Wheels.length ≤ 9223372036854775807) ∧ w.Meshes.length ≤ 9223372036854775807 := by
 have h1 := h.1.1
 have h2 := h.2.1
 exact ⟨by omega,fun b hb => by have := (h.1.2 b hb).2.1; omega,by omega⟩
theorem xF {w : bQ} (hl : w.Arbors.length ≤ 9223372036854775807) (k : Int) : gH w k = some (aCg w k) := by
 unfold gH; rw [gK,Option.bind_some,pG hl]; rfl
theorem xX {w : bQ} (hl : w.Arbors.length ≤ 9223372036854775807) (k : Int) : gJ w k = some (aCg w k) := by
 unfold gJ; rw [eF,Option.bind_some,pG hl]; rfl
theorem pB {m : aV} (h : eS m) : eG m = some (aB2 m) := by
 obtain ⟨_,h2,_,_,_,_,_,h8,h9,_⟩ := h
 obtain ⟨w1,w2,w3⟩ := smW h2
 have c1 := h8.2.1.1
 have c2 := h8.2.2.1.1
 have c3 := h9.1
 unfold eG aB2
 simp only [xF w1,qD,gK,nS,sQ w1 w2 w3,oK (c := m.Calendar) (by omega) (by omega),oY (xs := m.Cam) (by omega),Option.bind_some,itA]
 congr 1
 ac_rfl
theorem aBe {m : aV} (h : eS m) : mT m = some (aB2 m) := by
 obtain ⟨_,h2,_,_,_,_,_,h8,h9,_⟩ := h
 obtain ⟨w1,w2,w3⟩ := smW h2
 have c1 := h8.2.1.1
 have c2 := h8.2.2.1.1
 have c3 := h9.1
 unfold mT aB2
 simp only [xX w1,oW,eF,mC,aB5 w1 w2 w3,aBi (c := m.Calendar) (by omega) (by omega),tY (xs := m.Cam) (by omega),Option.bind_some,itA,itO,itF,Bool.not_or,Bool.not_not]
 congr 1
 ac_rfl
end Go.Proofs.YtgcdbbidmfdonaaGreatDoor
namespace Go.Proofs.YtgcdbbidmfdonaaGreatDoor
set_option linter.unusedVariables false
set_option maxRecDepth 100000
def fP : ByteArray := ⟨#[32]⟩
theorem aG7 (a b : ByteArray) : (a ++ b).size = a.size + b.size := ByteArray.size_append
theorem aGo {s : ByteArray} (h : lX s = true) : s.size ≤ 12 := by
 simp only [lX,Bool.and_eq_true,decide_eq_true_eq] at h
 exact h.1.1.2
end Go.Proofs.YtgcdbbidmfdonaaGreatDoor
namespace Go.Proofs.YtgcdbbidmfdonaaGreatDoor
set_option linter.unusedVariables false
section
variable {α : Type} (f : Int → α → α × Int)
def aAw : Int → List α → List α
 | _,[] => []
 | k,a :: l => (f k a).1 :: aAw (f k a).2 l
def oG : Int → List α → Int
 | k,[] => k
 | k,a :: l => oG (f k a).2 l
theorem iO : ∀ (xs : List α) (k : Int),(aAw f k xs).length = xs.length
 | [],_ => rfl
 | a :: l,k => by simp [aAw,iO l]
theorem aBb : ∀ (xs ys : List α) (k : Int),oG f k (xs ++ ys) = oG f (oG f k xs) ys
 | [],_,_ => rfl
 | a :: l,ys,k => by simp [oG,aBb l ys]
theorem aAn : ∀ (xs ys : List α) (k : Int),aAw f k (xs ++ ys) = aAw f k xs ++ aAw f (oG f k xs) ys
 | [],_,_ => rfl
 | a :: l,ys,k => by simp [aAw,oG,aAn l ys]
end
section
variable {α : Type} {f : Int → α → α × Int} {sm : α → Prop} {C : Int}
theorem aDp (hC : 0 ≤ C) (hf : ∀ k a,sm a → k ≤ (f k a).2 ∧ (f k a).2 ≤ k + C) : ∀ {xs : List α} {k : Int},(∀ a ∈ xs,sm a) → k ≤ oG f k xs ∧ oG f k xs ≤ k + C * xs.length
 | [],k,_ => by simp [oG]
 | a :: l,k,h => by
  have h1 := hf k a (h a (by simp))
  have h2 := aDp hC hf (xs := l) (k := (f k a).2) fun b hb => h b (by simp [hb])
  simp only [oG,List.length_cons]
  have : C * ((l.length + 1 : Nat) : Int) = C * l.length + C := by push_cast; rw [Int.mul_add]; omega
  omega
theorem aE6 (hC : 0 ≤ C) (hf : ∀ k a,sm a → k ≤ (f k a).2 ∧ (f k a).2 ≤ k + C) {xs pre : List α} {a : α} {suf : List α} {k0 B : Int} (hsm : ∀ a ∈ xs,sm a) (hB : k0 + C * xs.length ≤ B) (e : xs = pre ++ a :: suf) : k0 ≤ oG f k0 pre ∧ oG f k0 pre ≤ B := by
 have := aDp hC hf (xs := pre) (k := k0) fun b hb => hsm b (by rw [e]; simp [hb])
 have h2 : C * (pre.length : Int) ≤ C * xs.length := Int.mul_le_mul_of_nonneg_left (by rw [e]; simp; omega) hC
 omega
theorem aEf {B : Int} (hC : 0 ≤ C) (hf : ∀ k a,sm a → k ≤ (f k a).2 ∧ (f k a).2 ≤ k + C) {step : Int × Int × List α → Option ((Int × Int × List α) ⊕ (Int × List α))} {xs : List α} (hsm : ∀ a ∈ xs,sm a) (hl : xs.length ≤ 1048576)
  (hM : ∀ k (i : Nat) ys a,0 ≤ k → k ≤ B → ys[i]? = some a → sm a → ys.length = xs.length → step (k,(i : Int),ys) = some (.inl ((f k a).2,(i : Int) + 1,ys.set i (f k a).1))) (hE : ∀ k (i : Nat) ys,ys.length ≤ i → step (k,(i : Int),ys) = some (.inr (k,ys)))
  {k0 : Int} (h0 : 0 ≤ k0) (hB : k0 + C * xs.length ≤ B) : bY step (k0,0,xs) = some (oG f k0 xs,aAw f k0 xs) := by
 refine lB (fun (s : Int × Int × List α) => ∃ pre suf,xs = pre ++ suf ∧ s = (oG f k0 pre,(pre.length : Int),aAw f k0 pre ++ suf)) (fun (s : Int × Int × List α) => ((xs.length : Int) - s.2.1).toNat) (fun s hI => ?_) ⟨[],xs,rfl,rfl⟩ (by simp; omega)
 obtain ⟨pre,suf,e,rfl⟩ := hI
 cases suf with
 | nil =>
  right
  rw [List.append_nil] at e
  subst e
  rw [hE _ _ _ (by simp [iO]),List.append_nil]
 | cons a suf =>
  left
  have hb := aE6 hC hf hsm hB e
  have hlen : (aAw f k0 pre ++ a :: suf).length = xs.length := by rw [e]; simp [iO]
  refine ⟨_,hM _ pre.length _ a (by omega) hb.2 (by rw [List.getElem?_append_right (by rw [iO]; exact Nat.le_refl _),iO]; simp) (hsm a (by rw [e]; simp)) hlen,⟨pre ++ [a],suf,by rw [e]; simp,?_⟩,?_⟩
  ·rw [aBb,aAn,List.set_append_right _ _ (by rw [iO]; exact Nat.le_refl _),iO,Nat.sub_self,List.set_cons_zero]
   simp [oG,aAw]
  ·have : pre.length < xs.length := by rw [e]; simp
   dsimp only
   omega
end
def mkA (k : Int) (a : bH) : bH × Int := (⟨mkT k,(List.range a.Wheels.length).map fun (j : Nat) => oZ (k + 1 + 1 * (j : Int))⟩,k + 1 + 1 * a.Wheels.length)
theorem aHi : ∀ k a,gC a → k ≤ (mkA k a).2 ∧ (mkA k a).2 ≤ k + 1048577 := fun k a h => by
 have := h.2.1
 unfold mkA
 dsimp only
 omega
theorem aDn {x : List bH} {k : Int} (h : smL gC x) : k ≤ oG mkA k x ∧ oG mkA k x ≤ k + 1099512676352 := by
 have := aDp (by omega) aHi (k := k) h.2
 have := h.1
 omega
theorem vW {x : List bH} {k : Int} (h0 : 0 ≤ k) (hk : k ≤ 10000000000000) (h : smL gC x) : eV x k = some (oG mkA k x,aAw mkA k x) := by
 unfold eV
 have hl := h.1
 rw [aEf (f := mkA) (sm := gC) (C := 1048577) (B := 12000000000000) (by omega) aHi h.2 h.1 (fun k i ys a a1 a2 a3 a4 a5 => ?_) (fun k i ys a => ?_) h0 (by omega)]
 ·rfl
 ·have hil := (List.getElem?_eq_some_iff.1 a3).1
  have hw := a4.2.1
  have e1 : atI ys (i : Int) = some a := by rw [zT]; exact a3
  have e2 : ∀ b : bH,atI (ys.set i b) (i : Int) = some b := fun b => by rw [zT]; exact List.getElem?_set_self hil
  have h7 := oR (x := a.Wheels) (k := k + 1) (by omega) (by omega) hw
  simp only [if_pos (show (i : Int) < (ys.length : Int) by omega),lU a1 (show k ≤ 1000000000000000000 by omega),e1,e2,Option.bind_some,Int.toNat_natCast,cG (x := k + 1) (by omega) (by omega),h7,List.set_set,cG (x := (i : Int) + 1) (by omega) (by omega),mkA]
  rw [cW (by simp)]
 ·simp only [if_neg (show ¬ (i : Int) < (ys.length : Int) by omega)]
end Go.Proofs.YtgcdbbidmfdonaaGreatDoor
namespace Go.Proofs.YtgcdbbidmfdonaaGreatDoor
open Go.RowKit
set_option linter.unusedVariables false
set_option maxRecDepth 100000
set_option maxHeartbeats 2000000
theorem yA {x : bQ} {k : Int} (h0 : 0 ≤ k) (hk : k ≤ 8000000000000) (h : mY x) : fH x k = some ((oG mkA (k) x.Arbors) + 4 * x.Meshes.length,(aAw mkA (k) x.Arbors),((List.range x.Meshes.length).map fun (j : Nat) => sK ((oG mkA (k) x.Arbors) + 4 * (j : Int)))) := by
 have g0 := (h.1).1
 have b0 := aDn (k := k) (h.1)
 have g1 := (h.2).1
 unfold fH
 simp only [vW (x := x.Arbors) (k := k) (by omega) (by omega) (h.1),yB (x := x.Meshes) (k := oG mkA (k) x.Arbors) (by omega) (by omega) (h.2).1,Option.bind_some,List.length_map,List.length_range,iO,qS]
theorem qW {x : bP} {k : Int} (h0 : 0 ≤ k) (hk : k ≤ 8000000000000) (h : jU x) : eA x k = some ((k + 3 * x.Months.length) + 3 * x.Rules.length,((List.range x.Months.length).map fun (j : Nat) => nZ (k + 3 * (j : Int))),((List.range x.Rules.length).map fun (j : Nat) => kP ((k + 3 * x.Months.length) + 3 * (j : Int)))) := by
 have g0 := (h.2.1).1
 have g1 := (h.2.2.1).1
 unfold eA
 simp only [vO (x := x.Months) (k := k) (by omega) (by omega) (h.2.1).1,qH (x := x.Rules) (k := k + 3 * x.Months.length) (by omega) (by omega) (h.2.2.1).1,Option.bind_some,List.length_map,List.length_range,qS]
theorem sU {x : aV} {k : Int} (h0 : 0 ≤ k) (hk : k ≤ 6000000000000) (h : eS x) : dY x k = some (((((oG mkA (k) x.Works.Arbors) + 4 * x.Works.Meshes.length) + 3 * x.Calendar.Months.length) + 3 * x.Calendar.Rules.length) + 1 * x.Cam.length,(aAw mkA (k) x.Works.Arbors),((List.range x.Works.Meshes.length).map fun (j : Nat) => sK ((oG mkA (k) x.Works.Arbors) + 4 * (j : Int))),((List.range x.Calendar.Months.length).map fun (j : Nat) => nZ (((oG mkA (k) x.Works.Arbors) + 4 * x.Works.Meshes.length) + 3 * (j : Int))),((List.range x.Calendar.Rules.length).map fun (j : Nat) => kP ((((oG mkA (k) x.Works.Arbors) + 4 * x.Works.Meshes.length) + 3 * x.Calendar.Months.length) + 3 * (j : Int))),((List.range x.Cam.length).map fun (j : Nat) => oZ (((((oG mkA (k) x.Works.Arbors) + 4 * x.Works.Meshes.length) + 3 * x.Calendar.Months.length) + 3 * x.Calendar.Rules.length) + 1 * (j : Int)))) := by
 have g0 := (h.2.1.1).1
 have b0 := aDn (k := k) (h.2.1.1)
 have g1 := (h.2.1.2).1
 have g2 := (h.2.2.2.2.2.2.2.1.2.1).1
 have g3 := (h.2.2.2.2.2.2.2.1.2.2.1).1
 have g4 := (h.2.2.2.2.2.2.2.2.1).1
 unfold dY
 simp only [yA (x := x.Works) (k := k) (by omega) (by omega) (h.2.1),qW (x := x.Calendar) (k := (oG mkA (k) x.Works.Arbors) + 4 * x.Works.Meshes.length) (by omega) (by omega) (h.2.2.2.2.2.2.2.1),oR (x := x.Cam) (k := (((oG mkA (k) x.Works.Arbors) + 4 * x.Works.Meshes.length) + 3 * x.Calendar.Months.length) + 3 * x.Calendar.Rules.length) (by omega) (by omega) (h.2.2.2.2.2.2.2.2.1).1,Option.bind_some,List.length_map,List.length_range,iO,qS]
end Go.Proofs.YtgcdbbidmfdonaaGreatDoor
namespace Go.Proofs.YtgcdbbidmfdonaaGreatDoor
set_option linter.unusedVariables false
set_option maxRecDepth 100000
theorem pP (xs : List Int) : (eO xs).Perm xs := List.mergeSort_perm ..
theorem xS (xs : List Int) : (eO xs).Pairwise (· ≤ ·) := by
 have := List.pairwise_mergeSort (le := fun (x y : Int) => decide (x ≤ y)) (by intro a b c h1 h2; simp only [decide_eq_true_eq] at *; omega) (by intro a b; simp only [Bool.or_eq_true,decide_eq_true_eq]; omega) xs
 exact this.imp fun h => of_decide_eq_true h
theorem wW {xs : List Int} (hl : xs.length ≤ 1000) : iH xs = some (eO xs) := by
 obtain ⟨ys,e,h1,h2⟩ := aF8 hl
 rw [e,List.Perm.eq_of_pairwise (fun a b _ _ h1 h2 => by omega) h2 (xS xs) (h1.trans (pP xs).symm)]
theorem aH0 {l₁ l₂ : List Int} (h1 : l₁.Pairwise (· < ·)) (h2 : l₂.Pairwise (· < ·)) (h : ∀ y,y ∈ l₁ ↔ y ∈ l₂) : l₁ = l₂ := by
 have n1 : l₁.Nodup := h1.imp fun h => by omega
 have n2 : l₂.Nodup := h2.imp fun h => by omega
 exact List.Perm.eq_of_pairwise (fun a b _ _ h1 h2 => by omega) h1 h2 ((List.perm_ext_iff_of_nodup n1 n2).2 h)
theorem qV {d : Array Int} (hd : ∀ i j,i ≤ j → j < d.size → d[i]! ≤ d[j]!) : ∀ m,m ≤ d.size → (Lib.compactUpTo d m).Pairwise (· < ·) ∧ ∀ y,y ∈ Lib.compactUpTo d m ↔ ∃ j,j < m ∧ d[j]! = y
 | 0,_ => by simp [Lib.compactUpTo]
 | m + 1,hm => by
  obtain ⟨i1,i2⟩ := qV hd m (by omega)
  rw [Lib.compactUpTo_succ]
  cases hk : Lib.keeps d m
  ·simp only [Bool.false_eq_true,if_false,List.append_nil]
   refine ⟨i1,fun y => (i2 y).trans ⟨fun ⟨j,h1,h2⟩ => ⟨j,by omega,h2⟩,fun ⟨j,h1,h2⟩ => ?_⟩⟩
   by_cases hj : j < m
   ·exact ⟨j,hj,h2⟩
   ·have hjm : j = m := by omega
    subst hjm
    simp only [Lib.keeps,decide_eq_false_iff_not,not_or,ne_eq,Decidable.not_not] at hk
    exact ⟨j - 1,by omega,by rw [← hk.2]; exact h2⟩
  ·simp only [if_true]
   refine ⟨?_,fun y => ?_⟩
   ·rw [List.pairwise_append]
    refine ⟨i1,by simp,fun a ha b hb => ?_⟩
    rw [List.mem_singleton.1 hb]
    obtain ⟨j,h1,rfl⟩ := (i2 a).1 ha
    simp only [Lib.keeps,decide_eq_true_eq] at hk
    have k1 := hd j (m - 1) (by omega) (by omega)
    have k2 := hd (m - 1) m (by omega) (by omega)
    rcases hk with hk | hk
    ·omega
    ·omega
   ·rw [List.mem_append,i2 y,List.mem_singleton]
    constructor
    ·rintro (⟨j,h1,h2⟩ | rfl)
     ·exact ⟨j,by omega,h2⟩
     ·exact ⟨m,by omega,rfl⟩
    ·rintro ⟨j,h1,h2⟩
     by_cases hj : j < m
     ·exact .inl ⟨j,hj,h2⟩
     ·have hjm : j = m := by omega
      subst hjm
      exact .inr h2.symm
theorem nV (xs : List Int) : (fO xs).Pairwise (· < ·) ∧ ∀ y,y ∈ fO xs ↔ y ∈ xs := by
 have hs := xS xs
 have := qV (d := (eO xs).toArray) (fun i j h1 h2 => by
  simp only [List.size_toArray] at h2
  simp only [List.getElem!_toArray,getElem!_pos (eO xs) i (by omega),getElem!_pos (eO xs) j h2]
  rcases Nat.lt_or_ge i j with h | h
  ·exact List.pairwise_iff_getElem.1 hs i j (by omega) h2 h
  ·have : i = j := by omega
   subst this; omega) (eO xs).length (by simp)
 refine ⟨this.1,fun y => (this.2 y).trans ?_⟩
 rw [← (pP xs).mem_iff,List.mem_iff_getElem]
 constructor
 ·rintro ⟨j,h1,h2⟩
  refine ⟨j,h1,?_⟩
  rwa [List.getElem!_toArray,getElem!_pos (eO xs) j h1] at h2
 ·rintro ⟨j,h1,h2⟩
  refine ⟨j,h1,?_⟩
  rwa [List.getElem!_toArray,getElem!_pos (eO xs) j h1]
def yL (v : Int) : List Int → List Int
 | [] => [v]
 | x :: r => if v ≤ x then if v < x then v :: x :: r else x :: r else x :: yL v r
theorem vP {v y : Int} : ∀ {xs : List Int},y ∈ yL v xs ↔ y = v ∨ y ∈ xs
 | [] => by simp [yL]
 | x :: r => by
  unfold yL
  split
  ·split
   ·simp
   ·have : v = x := by omega
    subst this
    simp
  ·rw [List.mem_cons,vP (xs := r),List.mem_cons]
   constructor <;> intro h <;> rcases h with h | h | h <;> simp [h]
theorem aA1 {v : Int} : ∀ {xs : List Int},xs.Pairwise (· < ·) → (yL v xs).Pairwise (· < ·)
 | [],_ => by simp [yL]
 | x :: r,h => by
  have h' := List.pairwise_cons.1 h
  unfold yL
  split
  ·split
   ·refine List.pairwise_cons.2 ⟨fun a ha => ?_,h⟩
    rcases List.mem_cons.1 ha with rfl | ha
    ·assumption
    ·have := h'.1 a ha; omega
   ·exact h
  ·refine List.pairwise_cons.2 ⟨fun a ha => ?_,aA1 h'.2⟩
   rcases vP.1 ha with rfl | ha
   ·omega
   ·exact h'.1 a ha
theorem aAu {v : Int} : ∀ {xs : List Int},(yL v xs).length ≤ xs.length + 1
 | [] => by simp [yL]
 | x :: r => by
  have := aAu (v := v) (xs := r)
  unfold yL
  split
  ·split <;> simp
  ·simp; omega
theorem zZ {xs : List Int} {v : Int} (hl : xs.length ≤ 100000) : Ok (jR xs v) (fun ys => ys = yL v xs) := by
 unfold jR
 refine mS (P := fun (s : Bool × List Int) => (if s.1 = true then s.2 else s.2 ++ [v]) = yL v xs ∧ s.2.length ≤ xs.length + 1) ?_ fun s hs => ?_
 ·refine qY (I := fun (s : Bool × Int × List Int) => (0 ≤ s.2.1 ∧ s.2.1 ≤ xs.length) ∧ s.2.2 ++ (if s.1 = true then xs.drop s.2.1.toNat else yL v (xs.drop s.2.1.toNat)) = yL v xs ∧ s.2.2.length ≤ s.2.1.toNat + (if s.1 = true then 1 else 0)) (m := fun s => (xs.length - s.2.1).toNat) ?_ _ ⟨⟨by dsimp only; omega,by dsimp only; omega⟩,by simp,by simp⟩ (by dsimp only; omega)
  rintro ⟨b,i,acc⟩ ⟨⟨i0,i1⟩,ie,il⟩
  dsimp only at i0 i1 ie il ⊢
  refine sS (fun hi => ?_) fun hi => dR (.inr ⟨_,rfl,?_⟩)
  ·obtain ⟨n,rfl⟩ : ∃ n : Nat,i = n := ⟨i.toNat,by omega⟩
   have hn : n < xs.length := by omega
   rw [Int.toNat_natCast,List.drop_eq_getElem_cons hn] at ie
   rw [Int.toNat_natCast] at il
   have ew : w64 ((n : Int) + 1) = (n : Int) + 1 := cG (by omega) (by omega)
   have et : ((n : Int) + 1).toNat = n + 1 := by omega
   simp only [dX hn,Option.bind_some,ew]
   cases b
   ·simp only [Bool.not_false,if_true,Option.bind_some,decide_eq_true_eq]
    simp only [Bool.false_eq_true,if_false,yL] at ie il
    by_cases h1 : v ≤ xs[n]
    ·rw [if_pos h1]
     by_cases h2 : v < xs[n]
     ·rw [if_pos h1,if_pos h2] at ie
      rw [if_pos h2,cW (by simp; omega),Option.bind_some,cW (by simp; omega)]
      refine dR (.inl ⟨_,rfl,⟨⟨by dsimp only; omega,by dsimp only; omega⟩,?_,?_⟩,by dsimp only; omega⟩)
      ·dsimp only; rw [et,if_pos rfl, ← ie]; simp
      ·dsimp only; rw [et]; simp; omega
     ·rw [if_pos h1,if_neg h2] at ie
      rw [if_neg h2,Option.bind_some,cW (by simp; omega)]
      refine dR (.inl ⟨_,rfl,⟨⟨by dsimp only; omega,by dsimp only; omega⟩,?_,?_⟩,by dsimp only; omega⟩)
      ·dsimp only; rw [et,if_pos rfl, ← ie]; simp
      ·dsimp only; rw [et]; simp; omega
    ·rw [if_neg h1] at ie
     rw [if_neg h1,Option.bind_some,cW (by simp; omega)]
     refine dR (.inl ⟨_,rfl,⟨⟨by dsimp only; omega,by dsimp only; omega⟩,?_,?_⟩,by dsimp only; omega⟩)
     ·dsimp only; rw [et,if_neg (by simp), ← ie]; simp
     ·dsimp only; rw [et]; simp; omega
   ·simp only [Bool.not_true,Bool.false_eq_true,if_false,if_true,Option.bind_some] at ie il ⊢
    rw [cW (by simp; omega)]
    refine dR (.inl ⟨_,rfl,⟨⟨by dsimp only; omega,by dsimp only; omega⟩,?_,?_⟩,by dsimp only; omega⟩)
    ·dsimp only; rw [et,if_pos rfl, ← ie]; simp
    ·dsimp only; rw [et]; simp; omega
  ·have : i.toNat = xs.length := by omega
   rw [this,List.drop_length] at ie
   rw [this] at il
   dsimp only
   cases b <;> simp [yL] at ie il ⊢ <;> exact ⟨ie,by omega⟩
 ·obtain ⟨b,acc⟩ := s
  dsimp only at hs ⊢
  cases b
  ·simp only [Bool.false_eq_true,if_false] at hs
   simp only [Bool.not_false,if_true]
   rw [cW (by simp; omega),Option.bind_some]
   exact dR hs.1
  ·simp only [if_true] at hs
   simp only [Bool.not_true,Bool.false_eq_true,if_false,Option.bind_some]
   exact dR hs.1
theorem tO {xs : List Int} (hl : xs.length ≤ 1000) : iF xs = some (if aBq xs = true then (fO xs,0) else ([],1)) := by
 unfold iF
 rw [tY (by omega),Option.bind_some]
 cases aBq xs
 ·rfl
 simp only [Bool.not_true,Bool.false_eq_true,if_false,if_true]
 have key : Ok (bY (S := Int × List Int) (X := List Int) (fun s5 =>
   (if s5.1 < (xs.length : Int) then
   ((atI xs s5.1).bind fun v6 =>
   ((jR s5.2 v6).bind fun v7 =>
   some (.inl (w64 (s5.1 + 1),v7))))
   else
   some (.inr s5.2))) (0,([] : List Int)) : Option (List Int)) (fun ys => ys = fO xs) := by
  refine qY (I := fun (s : Int × List Int) => (0 ≤ s.1 ∧ s.1 ≤ xs.length) ∧ s.2.Pairwise (· < ·) ∧ (∀ y,y ∈ s.2 ↔ y ∈ xs.take s.1.toNat) ∧ s.2.length ≤ s.1.toNat) (m := fun s => (xs.length - s.1).toNat) ?_ _ ⟨⟨by dsimp only; omega,by dsimp only; omega⟩, .nil,by simp,by simp⟩ (by dsimp only; omega)
  rintro ⟨i,acc⟩ ⟨⟨i0,i1⟩,ip,im,il⟩
  dsimp only at i0 i1 ip im il ⊢
  refine sS (fun hi => ?_) fun hi => dR (.inr ⟨_,rfl,?_⟩)
  ·obtain ⟨n,rfl⟩ : ∃ n : Nat,i = n := ⟨i.toNat,by omega⟩
   have hn : n < xs.length := by omega
   rw [Int.toNat_natCast] at im il
   have ew : w64 ((n : Int) + 1) = (n : Int) + 1 := cG (by omega) (by omega)
   have et : ((n : Int) + 1).toNat = n + 1 := by omega
   simp only [dX hn,Option.bind_some,ew]
   refine mS (zZ (by omega)) fun ys hy => ?_
   subst hy
   refine dR (.inl ⟨_,rfl,⟨⟨by dsimp only; omega,by dsimp only; omega⟩,aA1 ip,fun y => ?_,?_⟩,by dsimp only; omega⟩)
   ·dsimp only
    rw [vP,im,et,oC hn,List.mem_append,List.mem_singleton]
    exact Or.comm
   ·dsimp only
    rw [et]
    exact Nat.le_trans aAu (by omega)
  ·rw [show i.toNat = xs.length by omega,List.take_length] at im
   have := nV xs
   exact aH0 ip this.1 fun y => (im y).trans (this.2 y).symm
 obtain ⟨ys,e,rfl⟩ := key
 rw [e,Option.bind_some]
theorem tV {xs : List Int} (hl : xs.length ≤ 1000) : hU xs = some (if aBq xs = true then (fO xs,0) else ([],1)) := by
 unfold hU
 rw [oY (by omega),Option.bind_some,cW ⟨by omega,fun h e => by subst e; simp [aBq] at h⟩]
 cases aBq xs <;> rfl
end Go.Proofs.YtgcdbbidmfdonaaGreatDoor
namespace Go.Proofs.YtgcdbbidmfdonaaGreatDoor
set_option linter.unusedVariables false
set_option maxRecDepth 100000
theorem rB (b : ByteArray) : jK [] b = ⟨#[]⟩ := rfl
theorem mO (x b : ByteArray) : jK [x] b = x := by
 unfold jK
 apply ByteArray.ext
 apply Array.ext'
 simp [Lib.join_one]
theorem iL (n x : ByteArray) (r : List ByteArray) (b : ByteArray) : jK (n :: x :: r) b = n ++ (b ++ jK (x :: r) b) := by
 unfold jK
 apply ByteArray.ext
 apply Array.ext'
 simp [Lib.join_cons,Lib.joinTail,ByteArray.data_append]
theorem uD (b y : ByteArray) : ∀ (x : ByteArray) (r : List ByteArray),jK (x :: (r ++ [y])) b = (jK (x :: r) b ++ b) ++ y
 | x,[] => by rw [List.nil_append,iL,mO,mO,ByteArray.append_assoc]
 | x,z :: r => by
  have := uD b y z r
  rw [List.cons_append,iL,this,iL x z]
  simp only [ByteArray.append_assoc]
theorem nD {b : ByteArray} (hb : b.size = 1) : ∀ {xs : List ByteArray},(∀ x ∈ xs,x.size ≤ 21) → (jK xs b).size ≤ 22 * xs.length
 | [],_ => by rw [rB]; exact Nat.zero_le _
 | [x],h => by rw [mO]; have := h x (by simp); simp; omega
 | x :: y :: r,h => by
  have h1 := nD hb (xs := y :: r) fun z hz => h z (List.mem_cons_of_mem _ hz)
  have := h x (by simp)
  rw [iL,aG7,aG7,hb]
  simp only [List.length_cons] at h1 ⊢
  omega
theorem xJ {xs : List Int} (hx : ∀ x ∈ xs,osI x) (hl : xs.length ≤ 1000) : iI xs = some (jK (xs.map oO) fP) := by
 have zb : fP.size = 1 := rfl
 have hd : ∀ x ∈ xs.map oO,x.size ≤ 21 := fun x h => by
  obtain ⟨y,hy,rfl⟩ := List.mem_map.1 h
  exact fT (hx y hy)
 have key : Ok (iI xs) (fun ys => ys = jK (xs.map oO) fP) := by
  unfold iI
  refine mS (P := fun ys => ys = jK (xs.map oO) fP) ?_ fun v h => dR h
  refine qY (I := fun (s : ByteArray × Int) => (0 ≤ s.2 ∧ s.2 ≤ xs.length) ∧ s.1 = jK ((xs.take s.2.toNat).map oO) fP) (m := fun s => (xs.length - s.2).toNat) ?_ _ ⟨⟨by dsimp only; omega,by dsimp only; omega⟩,by simp [rB]⟩ (by dsimp only; omega)
  rintro ⟨acc,i⟩ ⟨⟨i0,i1⟩,ie⟩
  dsimp only at i0 i1 ie ⊢
  refine sS (fun hi => ?_) fun hi => dR (.inr ⟨_,rfl,?_⟩)
  ·obtain ⟨n,rfl⟩ : ∃ n : Nat,i = n := ⟨i.toNat,by omega⟩
   have hn : n < xs.length := by omega
   rw [Int.toNat_natCast] at ie
   have ew : w64 ((n : Int) + 1) = (n : Int) + 1 := cG (by omega) (by omega)
   have et : ((n : Int) + 1).toNat = n + 1 := by omega
   have hsz : acc.size ≤ 22 * n := by
    rw [ie]
    have := nD zb (xs := (xs.take n).map oO) fun x h => hd x (by rw [List.map_take] at h; exact List.mem_of_mem_take h)
    rw [List.length_map,List.length_take] at this
    omega
   have hz := fT (hx _ (List.getElem_mem hn))
   refine mS (P := fun z => z.size ≤ acc.size + 1 ∧ z ++ oO xs[n] = jK ((xs.take (n + 1)).map oO) fP) ?_ fun z hz2 => ?_
   ·rw [oC hn,List.map_append]
    refine sS (fun h => ?_) fun h => dR ⟨by omega,?_⟩
    ·rw [show (⟨#[32]⟩ : ByteArray) = fP from rfl,cW (by omega)]
     refine dR ⟨by rw [aG7,zb]; omega,?_⟩
     obtain ⟨m,rfl⟩ : ∃ m,n = m + 1 := ⟨n - 1,by omega⟩
     obtain ⟨y,r,hyr⟩ : ∃ y r,(xs.take (m + 1)).map oO = y :: r := by
      cases hq : (xs.take (m + 1)).map oO with
      | nil => exact absurd (congrArg List.length hq) (by simp; intro e; subst e; simp at hn)
      | cons y r => exact ⟨y,r,rfl⟩
     rw [ie,hyr,List.cons_append]
     exact (uD fP _ y r).symm
    ·have : n = 0 := by omega
     subst this
     rw [ie]
     simp only [List.take_zero,List.map_nil,List.nil_append,List.map_cons,mO,rB]
     apply ByteArray.ext; simp
   ·simp only [dX hn,Option.bind_some,ew,lS (hx _ (List.getElem_mem hn))]
    rw [cW (by omega)]
    exact dR (.inl ⟨_,rfl,⟨⟨by dsimp only; omega,by dsimp only; omega⟩,by dsimp only; rw [et]; exact hz2.2⟩,by dsimp only; omega⟩)
  ·rw [show i.toNat = xs.length by omega,List.take_length] at ie
   exact ie
 obtain ⟨ys,e,rfl⟩ := key
 exact e
def aHh : ByteArray := ⟨#[97,114,98,111,114]⟩
def aHs : ByteArray := ⟨#[101,115,99,97,112,101,45,119,104,101,101,108,32]⟩
def aH7 : ByteArray := ⟨#[99,97,109,32]⟩
def aCb (a : bH) : ByteArray := jK (aHh :: a.Name :: (eO a.Wheels).map oO) fP
def wY (m : aV) : List ByteArray := (m.Works.Arbors.map aCb ++ [aHs ++ oO m.Teeth]) ++ [((aH7 ++ oO (m.Cam.length : Int)) ++ fP) ++ oO ((fO m.Cam).length : Int)]
theorem rE {a : bH} (h : aAi a = true) : a.Name.size ≤ 12 ∧ a.Wheels.length ≤ 5 ∧ ∀ x ∈ eO a.Wheels,osI x := by
 simp only [aAi,Bool.and_eq_true,List.all_eq_true,decide_eq_true_eq] at h
 refine ⟨aGo h.2.1,h.2.2,fun x hx => ?_⟩
 have := h.1 x ((pP _).mem_iff.1 hx)
 simp only [mG,btw,decide_eq_true_eq] at this
 exact ⟨by omega,by omega⟩
theorem wO {a : bH} (h : aAi a = true) : (aCb a).size ≤ 200 := by
 obtain ⟨h1,h2,h3⟩ := rE h
 have := nD (b := fP) rfl (xs := aHh :: a.Name :: (eO a.Wheels).map oO) fun x hx => by
  rcases List.mem_cons.1 hx with rfl | hx
  ·decide
  rcases List.mem_cons.1 hx with rfl | hx
  ·omega
  obtain ⟨y,hy,rfl⟩ := List.mem_map.1 hx
  exact fT (h3 y hy)
 simp [iA] at this
 unfold aCb
 omega
theorem aGa (a : bH) : aCb a = if 0 < ((eO a.Wheels).length : Int) then ((⟨#[97,114,98,111,114,32]⟩ : ByteArray) ++ a.Name) ++ ((⟨#[32]⟩ : ByteArray) ++ jK ((eO a.Wheels).map oO) fP) else (⟨#[97,114,98,111,114,32]⟩ : ByteArray) ++ a.Name := by
 have e : (⟨#[97,114,98,111,114,32]⟩ : ByteArray) = aHh ++ fP := rfl
 rw [e,show (⟨#[32]⟩ : ByteArray) = fP from rfl]
 unfold aCb
 cases hs : eO a.Wheels with
 | nil => rw [if_neg (by simp),List.map_nil,iL,mO,ByteArray.append_assoc]
 | cons x r =>
  rw [if_pos (by simp),List.map_cons,iL,iL]
  simp only [ByteArray.append_assoc]
theorem aAo {m : aV} (h : aB2 m = true) : (∀ a ∈ m.Works.Arbors,aAi a = true) ∧ osI m.Teeth ∧ aBq m.Cam = true := by
 simp only [aB2,Bool.and_eq_true] at h
 obtain ⟨h1,h2,h3,h4,h5,h6,h7,h8⟩ := h
 refine ⟨fun a ha => ?_,?_,?_⟩
 ·simp only [aGz,Bool.and_eq_true,decide_eq_true_eq] at h2
  obtain ⟨i,hi,rfl⟩ := List.getElem_of_mem ha
  have := (aD9.1 h2.2.2.1) i hi
  simp only [Bool.and_eq_true] at this
  exact this.1
 ·simp only [mG,btw,decide_eq_true_eq] at h6
  exact ⟨by omega,by omega⟩
 ·first | exact h8.2.2.1 | exact h8.2.1 | exact h8.2 | exact h8.1
theorem uB (xs : List Int) : (fO xs).length ≤ xs.length := by
 have h1 := (nV xs).1
 have h2 := (nV xs).2
 exact (List.Nodup.length_le_of_subset (h1.imp fun h => by omega) fun y hy => (h2 y).1 hy)
theorem yE {m : aV} (h : eS m) : iK m = some (if aB2 m = true then (wY m,0) else ([],1)) := by
 unfold iK
 rw [pB h,Option.bind_some]
 cases hb : aB2 m
 ·rfl
 simp only [Bool.not_true,Bool.false_eq_true,if_false,if_true]
 obtain ⟨ha,ht,hc⟩ := aAo hb
 have hal : m.Works.Arbors.length ≤ 1048576 := h.2.1.1.1
 have hcl : m.Cam.length ≤ 260 := by simp only [aBq,Bool.and_eq_true,decide_eq_true_eq] at hc; omega
 have zb : fP.size = 1 := rfl
 have zc : aH7.size = 4 := rfl
 have ze : aHs.size = 13 := rfl
 have hz1 := fT ht
 have o1 : osI (m.Cam.length : Int) := ⟨by omega,by omega⟩
 have hll := uB m.Cam
 have o2 : osI ((fO m.Cam).length : Int) := ⟨by omega,by omega⟩
 have hz2 := fT o1
 have hz3 := fT o2
 have z32 : (⟨#[32]⟩ : ByteArray) = fP := rfl
 rw [rI (xs := m.Works.Arbors) (f := fun a => [aCb a]) (c := 1) (init := []) (fun v _ => by simp) (fun i hi ys hy => by
   have hv := ha _ (List.getElem_mem hi)
   obtain ⟨w1,w2,w3⟩ := rE hv
   have hsz := wO hv
   simp only [List.length_nil,Nat.zero_add,Nat.one_mul] at hy
   dsimp only
   rw [if_pos (by omega),dX hi,Option.bind_some]
   unfold cN bB fB dF
   simp only [Option.bind_some]
   rw [cW (by omega),Option.bind_some,cW (by omega),Option.bind_some,cW (iA _),Option.bind_some]
   rw [rI (xs := eO m.Works.Arbors[i].Wheels) (f := fun w => [oO w]) (c := 1) (fun v _ => by simp) (fun j hj zs hz => by
     simp only [List.length_cons,List.length_nil] at hz
     have := iA m.Works.Arbors[i].Wheels
     dsimp only
     rw [if_pos (by omega),dX hj,Option.bind_some,kY (w3 _ (List.getElem_mem hj)),Option.bind_some,cW (by simp; omega),cG (x := (j : Int) + 1) (by omega) (by omega)]) (fun zs => by dsimp only; rw [if_neg (by omega)]) (by have := iA m.Works.Arbors[i].Wheels; omega),Option.bind_some]
   have e2 : ([(⟨#[97,114,98,111,114]⟩ : ByteArray),m.Works.Arbors[i].Name] ++ (eO m.Works.Arbors[i].Wheels).flatMap fun w => [oO w]) = aHh :: m.Works.Arbors[i].Name :: (eO m.Works.Arbors[i].Wheels).map oO := by
    rw [← List.map_eq_flatMap]; rfl
   rw [e2]
   unfold lH
   rw [z32,cW ⟨by simp [iA]; omega,by have : (jK (aHh :: m.Works.Arbors[i].Name :: (eO m.Works.Arbors[i].Wheels).map oO) fP).size ≤ 200 := hsz; omega⟩,Option.bind_some,cW (by simp; omega),Option.bind_some,cG (x := (i : Int) + 1) (by omega) (by omega)]
   rfl) (fun ys => by dsimp only; rw [if_neg (by omega)]) (by omega),Option.bind_some]
 have e3 : ([] ++ m.Works.Arbors.flatMap fun a => [aCb a]) = m.Works.Arbors.map aCb := by rw [← List.map_eq_flatMap,List.nil_append]
 rw [e3,tV (by omega),Option.bind_some,kY ht,Option.bind_some]
 simp only [hc,if_true]
 rw [kY o1,kY o2,z32,show (⟨#[99,97,109,32]⟩ : ByteArray) = aH7 from rfl,show (⟨#[101,115,99,97,112,101,45,119,104,101,101,108,32]⟩ : ByteArray) = aHs from rfl]
 simp only [Option.bind_some,aG7,zb,zc,ze,List.length_append,List.length_map,List.length_cons,List.length_nil]
 rw [cW (by omega),cW (by omega),cW (by omega),cW (by omega),cW (by omega),cW (by omega)]
 rfl
theorem wL {m : aV} (h : eS m) : kO m = some (if aB2 m = true then (wY m,0) else ([],1)) := by
 unfold kO
 rw [aBe h,Option.bind_some]
 cases hb : aB2 m
 ·rfl
 simp only [Bool.not_true,Bool.false_eq_true,if_false,if_true]
 obtain ⟨ha,ht,hc⟩ := aAo hb
 have hal : m.Works.Arbors.length ≤ 1048576 := h.2.1.1.1
 have hcl : m.Cam.length ≤ 260 := by simp only [aBq,Bool.and_eq_true,decide_eq_true_eq] at hc; omega
 have zb : fP.size = 1 := rfl
 have zc : aH7.size = 4 := rfl
 have ze : aHs.size = 13 := rfl
 have hz1 := fT ht
 have o1 : osI (m.Cam.length : Int) := ⟨by omega,by omega⟩
 have hll := uB m.Cam
 have o2 : osI ((fO m.Cam).length : Int) := ⟨by omega,by omega⟩
 have hz2 := fT o1
 have hz3 := fT o2
 have z32 : (⟨#[32]⟩ : ByteArray) = fP := rfl
 rw [rI (xs := m.Works.Arbors) (f := fun a => [aCb a]) (c := 1) (init := []) (fun v _ => by simp) (fun i hi ys hy => by
   have hv := ha _ (List.getElem_mem hi)
   obtain ⟨w1,w2,w3⟩ := rE hv
   have hsz := wO hv
   have z6 : (⟨#[97,114,98,111,114,32]⟩ : ByteArray).size = 6 := rfl
   have z1 : (⟨#[32]⟩ : ByteArray).size = 1 := rfl
   have hsl := iA m.Works.Arbors[i].Wheels
   have hjs := nD (b := fP) rfl (xs := (eO m.Works.Arbors[i].Wheels).map oO) fun x hx => by
    obtain ⟨y,hy,rfl⟩ := List.mem_map.1 hx
    exact fT (w3 y hy)
   rw [List.length_map] at hjs
   simp only [List.length_nil,Nat.zero_add,Nat.one_mul] at hy
   dsimp only
   rw [if_pos (by omega),dX hi,Option.bind_some,cW (by rw [z6]; omega),Option.bind_some,wW (by omega),Option.bind_some,xJ w3 (by omega)]
   have e4 : (if 0 < ((eO m.Works.Arbors[i].Wheels).length : Int) then (some (jK ((eO m.Works.Arbors[i].Wheels).map oO) fP)).bind fun v17 => chk ((⟨#[32]⟩ : ByteArray).size + v17.size ≤ 9223372036854775807) (chk (((⟨#[97,114,98,111,114,32]⟩ : ByteArray) ++ m.Works.Arbors[i].Name).size + ((⟨#[32]⟩ : ByteArray) ++ v17).size ≤ 9223372036854775807) (some (((⟨#[97,114,98,111,114,32]⟩ : ByteArray) ++ m.Works.Arbors[i].Name) ++ ((⟨#[32]⟩ : ByteArray) ++ v17)))) else some ((⟨#[97,114,98,111,114,32]⟩ : ByteArray) ++ m.Works.Arbors[i].Name)) = some (aCb m.Works.Arbors[i]) := by
    rw [Option.bind_some,cW (by rw [z1]; omega),cW (by simp only [aG7,z6,z1]; omega),aGa]
    split <;> rfl
   rw [e4,Option.bind_some,cW (by simp; omega),cG (x := (i : Int) + 1) (by omega) (by omega)]) (fun ys => by dsimp only; rw [if_neg (by omega)]) (by omega),Option.bind_some]
 have e3 : ([] ++ m.Works.Arbors.flatMap fun a => [aCb a]) = m.Works.Arbors.map aCb := by rw [← List.map_eq_flatMap,List.nil_append]
 rw [e3,tO (by omega),Option.bind_some,lS ht,Option.bind_some]
 simp only [hc,if_true]
 rw [lS o1,lS o2,z32,show (⟨#[99,97,109,32]⟩ : ByteArray) = aH7 from rfl,show (⟨#[101,115,99,97,112,101,45,119,104,101,101,108,32]⟩ : ByteArray) = aHs from rfl]
 simp only [Option.bind_some,aG7,zb,zc,ze,List.length_append,List.length_map,List.length_cons,List.length_nil]
 rw [cW (by omega),cW (by omega),cW (by omega),cW (by omega),cW (by omega),cW (by omega)]
 rfl
theorem aDm {m : aV} (h : eS m) : (if aB2 m = true then (wY m,(0 : Int)) else ([],1)).1.length ≤ 1048576 := by
 split
 ·rename_i hb
  have hl : m.Works.Arbors.length ≤ 1000 := by
   simp only [aB2,aGz,Bool.and_eq_true,decide_eq_true_eq] at hb
   omega
  simp [wY]; omega
 ·simp
theorem yP (p0 : aV) (k0 : lW p0) : fD p0 = some true := by
 unfold fD
 obtain ⟨r,e,l,s⟩ := vC k0 1048576 (by omega) (by omega)
 rw [e,Option.bind_some]
 by_cases hr : r < 0
 ·rw [if_pos hr]
 ·rw [if_neg hr]
  have h0 := s (by omega)
  have hl := aDm h0
  have hm := sU (x := p0) (k := 1) (by omega) (by omega) h0
  have hi := yE h0
  rw [vE h0,Option.bind_some,wL h0,Option.bind_some,Option.bind_some,hi,Option.bind_some]
  generalize (if aB2 p0 = true then (wY p0,(0 : Int)) else ([],1)) = fs at hl hi ⊢
  have he : eR fs.1 fs.1 = some true := by
   unfold eR
   rw [if_neg (by simp),wX (by omega)]; rfl
  have hk := tS (x := fs.1) (k := 1) (by omega) (by omega) hl
  have hh := tM (n := fs.1.length) (k := 1) (by omega) (by omega) hl
  have b0 := aDn (k := 1) h0.2.1.1
  obtain ⟨g1,g2,g3,g4⟩ : p0.Works.Meshes.length ≤ 1048576 ∧ p0.Calendar.Months.length ≤ 1048576 ∧ p0.Calendar.Rules.length ≤ 1048576 ∧ p0.Cam.length ≤ 1048576 := ⟨h0.2.1.2.1,h0.2.2.2.2.2.2.2.1.2.1.1,h0.2.2.2.2.2.2.2.1.2.2.1.1,h0.2.2.2.2.2.2.2.2.1.1⟩
  simp only [he,hi,hm,hk,hh,sC h0,Option.bind_some,Bool.not_true,Bool.false_eq_true,if_false,List.length_map,List.length_range,iO,qS,ne_eq,not_true_eq_false,decide_false]
  rw [if_neg (by omega)]
  simp only [Option.bind_some,Bool.false_eq_true,if_false]
  simp only [Int.not_lt.2 (show 0 ≤ 1 + 1 * (fs.1.length : Int) by omega),if_false,ne_eq,not_true_eq_false,hi,he,Option.bind_some,Bool.not_true,Bool.false_eq_true,decide_false]
end Go.Proofs.YtgcdbbidmfdonaaGreatDoor
namespace Go.Proofs.YtgcdbbidmfdonaaGreatDoor
open Go.ChangeShapes Go.WideShapes Go.ChangeAt Go.RowKit
set_option linter.unusedVariables false
set_option maxRecDepth 100000
theorem aCq {W : World} {n : String} {g : Nat} {cs : Array Value} (hg : Tryz.prog.globalNamed n = some g) (h : W.var? Tryz.prog n = some cs) : ∃ t f,W.heap[g]? = some (.cells cs t f) ∧ g < W.heap.size := by
 unfold World.var? at h
 rw [hg] at h
 simp only [Option.bind_some] at h
 split at h
 ·rename_i cs' t f hh
  cases h
  exact ⟨t,f,hh,(Array.getElem?_eq_some_iff.1 hh).1⟩
 ·cases h
def aKt : DataW Unit → Value
 | .lit (.int k z) => .int k z
 | _ => .bool false
def aCu : DataW Unit → Array Value
 | .agg l => (l.map aKt).toArray
 | _ => #[]
def aJk (cs : Array Value) : Obj → Obj
 | .cells _ t f => .cells cs t f
 | o => o
theorem aGr : (Rows.laid_internal_strconv_uint64pow10 : DataW Unit) = Lib.tabData .u64 Lib.pow10Tab := by kernel_rfl
def oD : List (String × DataW Unit) := [("math/bits.deBruijn32tab",Rows.laid_math_bits_deBruijn32tab),("math/bits.deBruijn64tab",Rows.laid_math_bits_deBruijn64tab),("internal/strconv.uint64pow10",Rows.laid_internal_strconv_uint64pow10)]
theorem wT : Tryz.prog.globalNamed "internal/strconv.uint64pow10" = some 0 := by kernel_rfl
theorem aEc {W : World} {rest : List (String × DataW Unit)} (h : laidMet Tryz.prog (("internal/strconv.uint64pow10",Rows.laid_internal_strconv_uint64pow10) :: rest) W) :
  (fun b => b < W.heap.size) 0 ∧ (aId 0 (Lib.pow10Tab.map fun z => Value.int .u64 z)).p W := by
 rw [aGr] at h
 have := Lib.tabIs_of_head (t := 194) (e := 178) (n := 20) wT (by kernel_rfl) Tryz.underlying194 Tryz.underlying178 (by kernel_rfl) (by kernel_rfl) h
 obtain ⟨t,f,h1,h2⟩ := aCq wT this
 exact ⟨h2,t,f,h1⟩
theorem wZ {W : World} (h : laidMet Tryz.prog oD W) : sV (fun b => b < W.heap.size) W := by
 intro x hx
 simp only [aD0,List.mem_cons,List.not_mem_nil,or_false] at hx
 subst hx
 exact aEc h.tail.tail
noncomputable def xC (os : Os) : World :=
 let w0 := World.holding Tryz.prog os ⟨#[], #[],[]⟩
 { w0 with heap := ((w0.heap.modify 2 (aJk (aCu Rows.laid_math_bits_deBruijn32tab))).modify 3 (aJk (aCu Rows.laid_math_bits_deBruijn64tab))).modify 0 (aJk (aCu Rows.laid_internal_strconv_uint64pow10)) }
theorem wB (os : Os) (args : Array Value) : laidMet Tryz.prog oD ((xC os).forCall (fun _ _ => 0) ⟨#[],args,[]⟩).memory :=
 laidMet_of_run' 8 (by kernel_rfl) (by kernel_rfl)
end Go.Proofs.YtgcdbbidmfdonaaGreatDoor
