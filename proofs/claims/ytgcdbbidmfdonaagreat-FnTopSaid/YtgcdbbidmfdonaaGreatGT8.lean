/- Texts of this claim, one behind the other (merged by a program of mine). -/
import Derived.Lib.ItoaLen
import Derived.Test.YtgcdbbidmfdonaaGreatGT7
set_option linter.unusedSimpArgs false
set_option linter.unusedVariables false
namespace Go.Proofs.YtgcdbbidmfdonaaGreat
set_option linter.unusedVariables false
theorem yP (x : aJ × Bool) : (x.2 = true ∧ aH1 x = (x.1,0)) ∨ (x.2 = false ∧ aH1 x = (⟨0,0⟩,2)) := by
 unfold aH1
 cases h : x.2
 ·exact .inr ⟨rfl,by simp⟩
 ·exact .inl ⟨rfl,by simp⟩
theorem vQ {w : bJ} {m : cH} {sp : List aJ} (hm : sE w m = true) (h : SpI w sp) : 0 ≤ m.A ∧ m.A < sp.length ∧ 0 ≤ m.B ∧ m.B < sp.length := by
 obtain ⟨_,j1,j2⟩ := jL.1 hm
 have a := qM j1
 have b := qM j2
 rw [h.1]
 exact ⟨a.1,a.2.1,b.1,b.2.1⟩
theorem aOo {n k : Nat} (h : n ≤ 16) (hk : k ≤ 2) : 0 ≤ (n : Int) ∧ (n : Int) = (n : Int) ∧ ((n : Int)).toNat * k * 64 ≤ 281474976710656 := by
 refine ⟨by omega,rfl,?_⟩
 have : (n : Int).toNat * k ≤ 16 * 2 := Nat.mul_le_mul (by omega) hk
 omega
theorem aMk {w : bJ} (hw : aAy w = true) (sp : List aJ) (h : SpI w sp) :
  cM (S := Bool × Int × List aJ) (X := (Bool × List aJ) ⊕ ((List aJ) ⊕ (List aJ × Int))) (fun s41 =>
 (if s41.2.1 < (w.Meshes.length : Int) then
 ((((atI w.Meshes s41.2.1).bind fun v42 =>
 ((mT w v42).bind fun v43 =>
 ((((atI s41.2.2 v42.A).bind fun v44 =>
 (if v44.Den = 0 then
 some (v42.B,v42.A,(⟨v43.Driven,v43.Driver⟩ : dW))
 else
 some (v42.A,v42.B,v43))) : Option (Int × Int × dW)).bind fun v45 =>
 ((((atI s41.2.2 v45.1).bind fun v46 =>
 (if v46.Den = 0 then
 some true
 else
 ((atI s41.2.2 v45.2.1).bind fun v47 =>
 some (decide (v47.Den ≠ 0))))) : Option Bool).bind fun v48 =>
 (if v48 = true then
 some (.inl (s41.1,s41.2.2))
 else
 ((atI s41.2.2 v45.1).bind fun v49 =>
 ((mR v49 v45.2.2.Driver v45.2.2.Driven).bind fun v50 =>
 (if v50.2 ≠ 0 then
 some (.inr (.inr (.inr (.inr (([] : List aJ),v50.2)))))
 else
 ((atI s41.2.2 v45.2.1).bind fun v51 =>
 some (.inl (true,List.set s41.2.2 (v45.2.1).toNat v50.1))))))))))) : Option ((Bool × List aJ) ⊕ ((Bool × Int × List aJ) ⊕ ((Bool × List aJ) ⊕ ((List aJ) ⊕ (List aJ × Int)))))).bind fun v52x => orE v52x fun v52 =>
 some (.inl (v52.1,w64 (s41.2.1 + 1),v52.2)))
 else
 some (.inr (.inl (s41.1,s41.2.2))))) (false,0,sp) = some (match jO w w.Meshes (false,sp) with
  | .inl s' => .inl s'
  | .inr _ => .inr (.inr ([],2))) := by
 have hl := (mA.1 hw).2.1
 rw [zI (xs := w.Meshes) (fun i (s : Bool × List aJ) => (s.1,i,s.2)) (fun _ m s => some (Sum.map id (fun _ => .inr (.inr ([],2))) (lA w m s))) (fun s => .inl s) (fun s => SpI w s.2) (by omega) (fun i hi s hs => ?_) (fun i hi s s' hs e => ?_) (fun s hs => by simp) (false,sp) h]
 ·rw [aE1 (w := w) (X := (Bool × List aJ) ⊕ ((List aJ) ⊕ (List aJ × Int))) (g := fun _ => .inr (.inr ([],2))) (fun _ _ _ => rfl)]
  cases jO w w.Meshes (false,sp) <;> rfl
 ·have hi' : (i : Int) < w.Meshes.length := by omega
  have e1 : w64 ((i : Int) + 1) = i + 1 := aT (by omega) (by omega)
  have hj := nB hw _ (List.getElem_mem hi)
  simp only [if_pos hi',eD hi,Option.bind_some,e1,aDl hj]
  generalize w.Meshes[i] = m at hj
  obtain ⟨_,j1,j2⟩ := jL.1 hj
  have ta := oW hw j1
  have tb := oW hw j2
  obtain ⟨a0,a1,b0,b1⟩ := vQ hj hs
  obtain ⟨ga,_,_⟩ := oG a0 a1
  obtain ⟨gb,_,_⟩ := oG b0 b1
  have a1' : m.A < w.Arbors.length := by rw [← hs.1]; exact a1
  have b1' : m.B < w.Arbors.length := by rw [← hs.1]; exact b1
  unfold lA
  simp only [ga,Option.bind_some]
  by_cases dA : (kH s.2 m.A).Den = 0
  ·simp only [if_pos dA,Option.bind_some,gb]
   by_cases dB : (kH s.2 m.B).Den = 0
   ·simp only [if_pos dB,dA,dB,Option.bind_some,if_true]; rfl
   ·have k := hs.den b0 b1' dB
    simp only [if_neg dB,ga,gb,dA,dB,Option.bind_some]
    rw [yO k (t := (eS w m).Driven) (u := (eS w m).Driver) tb.1 tb.2 ta.1 ta.2]
    rcases yP (gJ (kH s.2 m.B) (eS w m).Driven (eS w m).Driver) with ⟨h1,h2⟩ | ⟨h1,h2⟩ <;> simp [h1,h2,orE]
  ·simp only [if_neg dA,Option.bind_some,ga,gb]
   by_cases dB : (kH s.2 m.B).Den = 0
   ·have k := hs.den a0 a1' dA
    simp only [ga,gb,dA,dB,Option.bind_some,if_false,ne_eq,not_true_eq_false,decide_false,Bool.false_eq_true]
    rw [yO k (t := (eS w m).Driver) (u := (eS w m).Driven) ta.1 ta.2 tb.1 tb.2]
    rcases yP (gJ (kH s.2 m.A) (eS w m).Driver (eS w m).Driven) with ⟨h1,h2⟩ | ⟨h1,h2⟩ <;> simp [h1,h2,orE]
   ·simp [dA,dB,orE]
 ·have e : lA w w.Meshes[i] s = .inl s' := by
   cases e2 : lA w w.Meshes[i] s with
   | inr u => rw [e2] at e; cases e
   | inl z => rw [e2] at e; injection e with e; injection e with e; rw [← e]; rfl
  exact (aCg hw (nB hw _ (List.getElem_mem hi)) hs e).1
theorem aC7 {w : bJ} (hw : aAy w = true) {root : Int} (hr : yF w root = true) : lN w root = some (match iO w (vH (start w root) + 1) (start w root) with
  | .inl sp => (sp,0)
  | .inr _ => ([],2)) := by
 have hl := (mA.1 hw).1
 have hr := of_decide_eq_true hr
 unfold lN
 rw [gA (aOo hl (by omega))]
 simp only [Int.toNat_natCast]
 obtain ⟨e,he,_,_⟩ := qL (xs := List.replicate w.Arbors.length (⟨0,0⟩ : aJ)) hr.1 (by rw [List.length_replicate]; exact hr.2)
 rw [he,Option.bind_some]
 have := aHd hw (S := Bool × List aJ) (X := (List aJ) ⊕ (List aJ × Int)) (step := fun s28 => (if s28.1 = true then cM (S := Bool × Int × List aJ) (X := (Bool × List aJ) ⊕ ((List aJ) ⊕ (List aJ × Int))) (fun s41 =>
 (if s41.2.1 < (w.Meshes.length : Int) then
 ((((atI w.Meshes s41.2.1).bind fun v42 =>
 ((mT w v42).bind fun v43 =>
 ((((atI s41.2.2 v42.A).bind fun v44 =>
 (if v44.Den = 0 then
 some (v42.B,v42.A,(⟨v43.Driven,v43.Driver⟩ : dW))
 else
 some (v42.A,v42.B,v43))) : Option (Int × Int × dW)).bind fun v45 =>
 ((((atI s41.2.2 v45.1).bind fun v46 =>
 (if v46.Den = 0 then
 some true
 else
 ((atI s41.2.2 v45.2.1).bind fun v47 =>
 some (decide (v47.Den ≠ 0))))) : Option Bool).bind fun v48 =>
 (if v48 = true then
 some (.inl (s41.1,s41.2.2))
 else
 ((atI s41.2.2 v45.1).bind fun v49 =>
 ((mR v49 v45.2.2.Driver v45.2.2.Driven).bind fun v50 =>
 (if v50.2 ≠ 0 then
 some (.inr (.inr (.inr (.inr (([] : List aJ),v50.2)))))
 else
 ((atI s41.2.2 v45.2.1).bind fun v51 =>
 some (.inl (true,List.set s41.2.2 (v45.2.1).toNat v50.1))))))))))) : Option ((Bool × List aJ) ⊕ ((Bool × Int × List aJ) ⊕ ((Bool × List aJ) ⊕ ((List aJ) ⊕ (List aJ × Int)))))).bind fun v52x => orE v52x fun v52 =>
 some (.inl (v52.1,w64 (s41.2.1 + 1),v52.2)))
 else
 some (.inr (.inl (s41.1,s41.2.2))))) (false,0,s28.2) else some (.inr (.inl s28.2)))) (fun s => s) (fun s => s) (fun _ => rfl) (fun sp => .inl sp) (fun _ => .inr ([],2)) (fun _ _ => rfl) (fun sp h => by
  simp only [if_true]
  rw [aMk hw sp h]
  cases jO w w.Meshes (false,sp) <;> rfl) (fun sp h => by simp) (start w root) (yW root)
 unfold start at this
 unfold start
 rw [this,Option.bind_some]
 cases iO w (vH ((List.replicate w.Arbors.length (⟨0,0⟩ : aJ)).set root.toNat ⟨1,1⟩) + 1) ((List.replicate w.Arbors.length (⟨0,0⟩ : aJ)).set root.toNat ⟨1,1⟩) <;> rfl
theorem aGm {w : bJ} (hl : w.Arbors.length ≤ 9223372036854775807) (hws : ∀ b ∈ w.Arbors,b.Wheels.length ≤ 9223372036854775807) (hm : w.Meshes.length ≤ 9223372036854775807) (root : Int) : pS w root = some (if aAy w = true then gE w root else ([],1)) := by
 unfold pS gE
 rw [wM hl hws hm,Option.bind_some]
 by_cases hw : aAy w = true
 ·have e0 : btw root 0 (w64 ((w.Arbors.length : Int) - 1)) = yF w root := uQ hl
  have hml := (mA.1 hw).2.1
  rw [if_pos hw,hw,eF,e0,Option.bind_some]
  by_cases hr : yF w root = true
  ·rw [if_pos hr,hr,aC7 hw hr]
   cases e : iO w (vH (start w root) + 1) (start w root) with
   | inr u => rfl
   | inl sp =>
    have hs := zG hw (yW root) e
    have hsl := hs.1
    have hal := (mA.1 hw).1
    simp only [Bool.not_true,Bool.false_eq_true,if_false,Option.bind_some,ne_eq,not_true_eq_false]
    have hc : cD sp = some (sp.any fun r => decide (r.Den = 0)) := by
     unfold cD dE
     rw [aQm (fun r => decide (r.Den = 0)) (by omega) fun i hi => by rw [eD hi,Option.bind_some,oY,Option.bind_some],Option.bind_some,aF9]
    rw [hc,Option.bind_some]
    by_cases hn : (sp.any fun r => decide (r.Den = 0)) = true
    ·rw [if_pos hn,if_pos hn]
    ·rw [if_neg hn,if_neg hn,uS (e := .inr ([],10)) (fun _ m => aPw w sp m) hm fun i hi => ?_,lZ,Option.bind_some]
     ·cases w.Meshes.all (aPw w sp) <;> rfl
     ·have hj := nB hw _ (List.getElem_mem hi)
      simp only [eD hi,Option.bind_some,aDl hj]
      generalize w.Meshes[i] = m at hj
      obtain ⟨_,j1,j2⟩ := jL.1 hj
      have ta := oW hw j1
      have tb := oW hw j2
      obtain ⟨a0,a1,b0,b1⟩ := vQ hj hs
      obtain ⟨ga,gm,_⟩ := oG a0 a1
      obtain ⟨gb,_,_⟩ := oG b0 b1
      have k : KnR (kH sp m.A) := by
       rcases hs.2 _ gm with e | h
       ·exact absurd (List.any_eq_true.2 ⟨_,gm,decide_eq_true (by rw [e])⟩) hn
       ·exact h
      rw [ga,Option.bind_some,yO k (t := (eS w m).Driver) (u := (eS w m).Driven) ta.1 ta.2 tb.1 tb.2,gb]
      unfold aPw
      rcases yP (gJ (kH sp m.A) (eS w m).Driver (eS w m).Driven) with ⟨h1,h2⟩ | ⟨h1,h2⟩
      ·by_cases q : (gJ (kH sp m.A) (eS w m).Driver (eS w m).Driven).1 = kH sp m.B <;> simp [h1,h2,q]
      ·simp [h1,h2]
  ·rw [if_neg hr,Bool.not_eq_true] at *
   rw [hr]; rfl
 ·rw [if_neg hw,Bool.not_eq_true] at *
  rw [hw]; rfl
theorem aHe {w : bJ} (hw : aAy w = true) {sp : List aJ} (hs : SpI w sp) {m : cH} (hj : sE w m = true) (k : KnR (kH sp m.A)) : rJ w m sp = some (aPw w sp m) := by
 obtain ⟨_,j1,j2⟩ := jL.1 hj
 have ta := oW hw j1
 have tb := oW hw j2
 obtain ⟨a0,a1,b0,b1⟩ := vQ hj hs
 obtain ⟨ga,gm,_⟩ := oG a0 a1
 obtain ⟨gb,_,_⟩ := oG b0 b1
 have hv := xK (t := (eS w m).Driver) (u := (eS w m).Driven) ta.1 ta.2 tb.1 tb.2
 have t0 : 6 ≤ (eS w m).Driver := ta.1
 have t1 : (eS w m).Driver ≤ 240 := ta.2
 have u0 : 6 ≤ (eS w m).Driven := tb.1
 have u1 : (eS w m).Driven ≤ 240 := tb.2
 unfold rJ aPw gJ
 rw [aBr hj,Option.bind_some,aT (by omega) (by omega),kQ ⟨by omega,by omega⟩ ⟨by omega,by omega⟩ (by omega),Option.bind_some,ga,Option.bind_some,uP k.1 hv.2.1,Option.bind_some,gb]
 cases (aPx (kH sp m.A) (mkR (-(eS w m).Driver) (eS w m).Driven).1).2 <;> simp
def kn (sp : List aJ) : List Bool := sp.map fun r => decide (r.Den ≠ 0)
theorem aTg {sp : List aJ} {i : Int} (h0 : 0 ≤ i) (h1 : i < sp.length) : atI (kn sp) i = some (decide ((kH sp i).Den ≠ 0)) := by
 obtain ⟨_,_,hi,e⟩ := oG h0 h1
 unfold atI kn
 rw [if_pos h0,List.getElem?_map,List.getElem?_eq_getElem hi,e]; rfl
theorem aO5 {sp : List aJ} {i : Nat} {v : aJ} (hv : v.Den ≠ 0) : kn (sp.set i v) = (kn sp).set i true := by
 unfold kn
 rw [List.map_set,decide_eq_true hv]
theorem aCt {w : bJ} (hw : aAy w = true) {X : Type} (g : Bool × List aJ → X) : ∀ (ms : List cH) (hm : ∀ m ∈ ms,sE w m = true) (k : Nat) (s : Bool × List aJ),SpI w s.2 → ∃ f,SpI w f.2 ∧ aM7 (fun _ m s => some (match lA w m s with
  | .inl s' => .inl s'
  | .inr _ => .inr (g s))) ms k s = some (match jO w ms s with
  | .inl s' => .inl s'
  | .inr _ => .inr (g f))
 | [],_,k,s,h => ⟨s,h,rfl⟩
 | m :: ms,hm,k,s,h => by
  cases e : lA w m s with
  | inr u =>
   refine ⟨s,h,?_⟩
   show (some (match lA w m s with
    | .inl s' => _
    | .inr _ => _)).bind _ = _
   unfold jO
   rw [e]; rfl
  | inl s1 =>
   obtain ⟨f,hf,q⟩ := aCt hw g ms (fun m h => hm m (List.mem_cons_of_mem _ h)) (k + 1) s1 (aCg hw (hm m (List.mem_cons_self ..)) h e).1
   refine ⟨f,hf,?_⟩
   show (some (match lA w m s with
    | .inl s' => _
    | .inr _ => _)).bind _ = _
   unfold jO
   rw [e]
   exact q
theorem aMz {w : bJ} (hw : aAy w = true) (sp : List aJ) (h : SpI w sp) : ∃ f,SpI w f ∧ hP w (kn sp) sp = some (match jO w w.Meshes (false,sp) with
  | .inl s' => (s'.1,true,kn s'.2,s'.2)
  | .inr _ => (false,false,kn f,f)) := by
 have hl := (mA.1 hw).2.1
 unfold hP
 obtain ⟨f,hf,q⟩ := aCt hw (X := (Bool × List Bool × List aJ) ⊕ (Bool × Bool × List Bool × List aJ)) (fun s => .inr (false,false,kn s.2,s.2)) w.Meshes (nB hw) 0 (false,sp) h
 refine ⟨f.2,hf,?_⟩
 rw [zI (xs := w.Meshes) (fun i (s : Bool × List aJ) => (s.1,i,kn s.2,s.2)) (fun _ m s => some (match lA w m s with
  | .inl s' => .inl s'
  | .inr _ => .inr (.inr (false,false,kn s.2,s.2)))) (fun s => .inl (s.1,kn s.2,s.2)) (fun s => SpI w s.2) (by omega) (fun i hi s hs => ?_) (fun i hi s s' hs e => ?_) (fun s hs => by simp) (false,sp) h]
 ·rw [q]
  cases jO w w.Meshes (false,sp) <;> rfl
 ·have hi' : (i : Int) < w.Meshes.length := by omega
  have e1 : w64 ((i : Int) + 1) = i + 1 := aT (by omega) (by omega)
  have hj := nB hw _ (List.getElem_mem hi)
  simp only [if_pos hi',eD hi,Option.bind_some,e1,aBr hj]
  generalize w.Meshes[i] = m at hj
  obtain ⟨_,j1,j2⟩ := jL.1 hj
  have ta := oW hw j1
  have tb := oW hw j2
  have t0 : 6 ≤ (eS w m).Driver := ta.1
  have t1 : (eS w m).Driver ≤ 240 := ta.2
  have u0 : 6 ≤ (eS w m).Driven := tb.1
  have u1 : (eS w m).Driven ≤ 240 := tb.2
  obtain ⟨a0,a1,b0,b1⟩ := vQ hj hs
  obtain ⟨ga,_,_⟩ := oG a0 a1
  obtain ⟨gb,_,_⟩ := oG b0 b1
  have ka := aTg a0 a1
  have kb := aTg b0 b1
  have a1' : m.A < w.Arbors.length := by rw [← hs.1]; exact a1
  have b1' : m.B < w.Arbors.length := by rw [← hs.1]; exact b1
  unfold lA
  simp only [ka,kb,Option.bind_some]
  by_cases dA : (kH s.2 m.A).Den = 0
  ·by_cases dB : (kH s.2 m.B).Den = 0
   ·simp [dA,dB,orE]
   ·have k := hs.den b0 b1' dB
    have hv := xK (t := (eS w m).Driven) (u := (eS w m).Driver) u0 u1 t0 t1
    have e2 : (decide ((kH s.2 m.A).Den ≠ 0) == decide ((kH s.2 m.B).Den ≠ 0)) = false := by simp [dA,dB]
    have e3 : decide ((kH s.2 m.A).Den = 0) ≠ decide ((kH s.2 m.B).Den = 0) := by simp [dA,dB]
    have e4 : decide ((kH s.2 m.B).Den ≠ 0) = true := by simp [dB]
    rw [e2,if_neg (by decide),if_neg e3,if_pos dA,e4,if_pos rfl]
    simp only [Option.bind_some,ga,gb,ka,kb]
    rw [aT (by omega) (by omega),kQ ⟨by omega,by omega⟩ ⟨by omega,by omega⟩ (by omega)]
    simp only [Option.bind_some]
    rw [uP k.1 hv.2.1]
    have mv := iV k (t := (eS w m).Driven) (u := (eS w m).Driver) u0 u1 t0 t1
    have em : aPx (kH s.2 m.B) (mkR (-(eS w m).Driven) (eS w m).Driver).1 = gJ (kH s.2 m.B) (eS w m).Driven (eS w m).Driver := rfl
    rw [em]
    cases h2 : (gJ (kH s.2 m.B) (eS w m).Driven (eS w m).Driver).2
    ·simp [h2,orE]
    ·simp [h2,orE,aO5 (mv h2).den]
  ·by_cases dB : (kH s.2 m.B).Den = 0
   ·have k := hs.den a0 a1' dA
    have hv := xK (t := (eS w m).Driver) (u := (eS w m).Driven) t0 t1 u0 u1
    have e2 : (decide ((kH s.2 m.A).Den ≠ 0) == decide ((kH s.2 m.B).Den ≠ 0)) = false := by simp [dA,dB]
    have e3 : decide ((kH s.2 m.A).Den = 0) ≠ decide ((kH s.2 m.B).Den = 0) := by simp [dA,dB]
    have e4 : decide ((kH s.2 m.B).Den ≠ 0) = false := by simp [dB]
    rw [e2,if_neg (by decide),if_neg e3,if_neg dA,e4,if_neg (by decide)]
    simp only [Option.bind_some,ga,gb,ka,kb]
    rw [aT (by omega) (by omega),kQ ⟨by omega,by omega⟩ ⟨by omega,by omega⟩ (by omega)]
    simp only [Option.bind_some]
    rw [uP k.1 hv.2.1]
    have mv := iV k (t := (eS w m).Driver) (u := (eS w m).Driven) t0 t1 u0 u1
    have em : aPx (kH s.2 m.A) (mkR (-(eS w m).Driver) (eS w m).Driven).1 = gJ (kH s.2 m.A) (eS w m).Driver (eS w m).Driven := rfl
    rw [em]
    cases h2 : (gJ (kH s.2 m.A) (eS w m).Driver (eS w m).Driven).2
    ·simp [h2,orE]
    ·simp [h2,orE,aO5 (mv h2).den]
   ·simp [dA,dB,orE]
 ·have e : lA w w.Meshes[i] s = .inl s' := by
   cases e2 : lA w w.Meshes[i] s with
   | inr u => rw [e2] at e; cases e
   | inl z => rw [e2] at e; injection e with e; injection e with e; rw [← e]
  exact (aCg hw (nB hw _ (List.getElem_mem hi)) hs e).1
theorem aPb (sp : List aJ) : (kn sp).length = sp.length := by unfold kn; simp
theorem aEn {w : bJ} (hw : aAy w = true) (root : Int) : mX w root = some (gE w root) := by
 have hal := (mA.1 hw).1
 have hml := (mA.1 hw).2.1
 unfold mX gE
 rw [aBm (by omega),Option.bind_some]
 by_cases hr : yF w root = true
 ·rw [if_pos hr,hr,if_neg (by decide),gA (aOo hal (by omega)),gA (aOo hal (by omega))]
  simp only [Int.toNat_natCast]
  have hrr := of_decide_eq_true hr
  obtain ⟨e,he,_,_⟩ := qL (xs := List.replicate w.Arbors.length (⟨0,0⟩ : aJ)) hrr.1 (by rw [List.length_replicate]; exact hrr.2)
  obtain ⟨e',he',_,_⟩ := qL (xs := List.replicate w.Arbors.length false) hrr.1 (by rw [List.length_replicate]; exact hrr.2)
  rw [he',Option.bind_some,iC,Option.bind_some,he,Option.bind_some]
  have hk : kn (start w root) = (List.replicate w.Arbors.length false).set root.toNat true := by
   unfold start
   rw [aO5 (by decide)]
   congr 1
   unfold kn
   rw [List.map_replicate]; rfl
  have := aHd hw (S := Bool × List Bool × List aJ) (X := (List Bool × List aJ) ⊕ (List aJ × Int)) (step := fun s11 => (if s11.1 = true then ((hP w s11.2.1 s11.2.2).bind fun v12 => (chk (v12.2.2.1.length = s11.2.1.length) (chk (v12.2.2.2.length = s11.2.2.length) (if (!v12.2.1) = true then some (.inr (.inr (([] : List aJ),2))) else some (.inl (v12.1,v12.2.2.1,v12.2.2.2)))))) else some (.inr (.inl (s11.2.1,s11.2.2))))) (fun s => (s.1,kn s.2,s.2)) (fun s => (s.1,s.2.2)) (fun _ => rfl) (fun sp => .inl (kn sp,sp)) (fun _ => .inr ([],2)) (fun _ _ => rfl) (fun sp h => by
   obtain ⟨f,hf,q⟩ := aMz hw sp h
   simp only [if_true,q,Option.bind_some]
   cases er : jO w w.Meshes (false,sp) with
   | inr u =>
    simp only [aPb,hf.1,h.1,aLq]
    simp
   | inl s' =>
    have h3 := (vU hw (nB hw) (s := (false,sp)) h er).1
    simp only [aPb,h3.1,h.1,aLq]
    simp) (fun sp h => by simp) (start w root) (yW root)
  rw [hk] at this
  unfold start at this
  unfold start
  rw [this,Option.bind_some]
  cases e : iO w (vH ((List.replicate w.Arbors.length (⟨0,0⟩ : aJ)).set root.toNat ⟨1,1⟩) + 1) ((List.replicate w.Arbors.length (⟨0,0⟩ : aJ)).set root.toNat ⟨1,1⟩) with
  | inr u => rfl
  | inl sp =>
   have hs := zG hw (yW root) e
   have hsl := hs.1
   show (orE (.inl (kn sp,sp)) _) = _
   simp only [orE]
   rw [uS (xs := kn sp) (e := .inr ([],6)) (fun _ b => b) (by rw [aPb]; omega) fun i hi => by rw [eD hi,Option.bind_some]; cases (kn sp)[i] <;> rfl,lZ,Option.bind_some]
   have e5 : (kn sp).all (fun b => b) = !(sp.any fun r => decide (r.Den = 0)) := by
    unfold kn
    rw [Bool.eq_iff_iff]; simp
   rw [e5]
   by_cases hn : (sp.any fun r => decide (r.Den = 0)) = true
   ·rw [hn]; rfl
   ·rw [Bool.not_eq_true] at hn
    rw [hn]
    simp only [Bool.not_false,if_true,orE]
    rw [uS (xs := w.Meshes) (e := .inr ([],10)) (fun _ m => aPw w sp m) (by omega) fun i hi => ?_,lZ,Option.bind_some]
    ·cases w.Meshes.all (aPw w sp) <;> rfl
    ·have hj := nB hw _ (List.getElem_mem hi)
     obtain ⟨a0,a1,b0,b1⟩ := vQ hj hs
     obtain ⟨_,gm,_⟩ := oG a0 a1
     have k : KnR (kH sp w.Meshes[i].A) := by
      rcases hs.2 _ gm with e | h
      ·have q : (sp.any fun r => decide (r.Den = 0)) = true := List.any_eq_true.2 ⟨_,gm,decide_eq_true (by rw [e])⟩
       rw [hn] at q; cases q
      ·exact h
     rw [eD hi,Option.bind_some,aHe hw hs hj k,Option.bind_some]
     cases aPw w sp w.Meshes[i] <;> rfl
 ·rw [if_neg hr,Bool.not_eq_true] at *
  rw [hr]; rfl
end Go.Proofs.YtgcdbbidmfdonaaGreat
namespace Go.Proofs.YtgcdbbidmfdonaaGreat
set_option linter.unusedVariables false
theorem aF3 {m : aX} (h : vM m = true) : aAy m.Works = true ∧ yF m.Works m.Minute = true ∧ yF m.Works m.Hour = true ∧ yF m.Works m.Escape = true := by
 unfold vM at h
 simp only [Bool.and_eq_true] at h
 exact ⟨h.2.1,h.2.2.1,h.2.2.2.1,h.2.2.2.2.1⟩
theorem xD {m : aX} {k : Int} (hw : aAy m.Works = true) (hs : (gE m.Works m.Minute).2 = 0) (hk : yF m.Works k = true) : atI (gE m.Works m.Minute).1 k = some (kH (gE m.Works m.Minute).1 k) ∧ KnR (kH (gE m.Works m.Minute).1 k) := by
 have h1 := aLz hw hs
 have h2 := of_decide_eq_true hk
 obtain ⟨g,gm,_⟩ := oG (sp := (gE m.Works m.Minute).1) h2.1 (by rw [h1.1]; exact h2.2)
 exact ⟨g,h1.2 _ gm⟩
end Go.Proofs.YtgcdbbidmfdonaaGreat
namespace Go.Proofs.YtgcdbbidmfdonaaGreat
set_option linter.unusedVariables false
def aJ9 : ByteArray := ⟨#[119,111,114,107,115]⟩
def aO7 : ByteArray := ⟨#[104,111,117,114]⟩
def aJ1 : ByteArray := ⟨#[98,101,97,116,115]⟩
def aNv : ByteArray := ⟨#[99,97,109]⟩
def aTs : ByteArray := ⟨#[109,111,118,101,109,101,110,116]⟩
def aHp (m : aX) (v : aJ) : Bool := decide (w64 (w64 (2 * m.Teeth) * kJ v.Num) = w64 (m.Beats * v.Den))
def gR (m : aX) : List ByteArray :=
 (if (gE m.Works m.Minute).2 = 0 then (if kH (gE m.Works m.Minute).1 m.Hour = ⟨1,12⟩ then [] else [aO7]) ++ (if aHp m (kH (gE m.Works m.Minute).1 m.Escape) = true then [] else [aJ1]) else [aJ9]) ++ (if (m.Cam.length : Int) % m.Calendar.Months.length = 0 then [] else [aNv])
theorem sM {m : aX} (h : vM m = true) : mV m.Calendar = true ∧ aEa m.Cam = true := by
 unfold vM at h
 simp only [Bool.and_eq_true] at h
 exact ⟨h.2.2.2.2.2.2.2.1,h.2.2.2.2.2.2.2.2.1⟩
theorem aCa {c : aA} {cam : List Int} (h1 : mV c = true) (h2 : aEa cam = true) : vI c cam = if (cam.length : Int) % c.Months.length = 0 then 0 else 6 := by
 unfold vI; rw [h1,h2]; rfl
theorem yE {m : aX} (h : iG m) : iD m = some (if vM m = true then gR m else [aTs]) := by
 unfold iD gR
 obtain ⟨w1,w2,w3⟩ := smW h.2.1
 have hcl : m.Cam.length ≤ 1048576 := h.2.2.2.2.2.2.2.2.1.1
 rw [sK h,Option.bind_some]
 by_cases hv : vM m = true
 ·obtain ⟨hw,k1,k2,k3⟩ := aF3 hv
  obtain ⟨c1,c2⟩ := sM hv
  have cm := (dT c1).2.1
  have hbel : ∀ (x y : Option (List ByteArray)),((jI m.Calendar m.Cam).bind fun v11 => if v11 = 0 then x else y) = if (m.Cam.length : Int) % m.Calendar.Months.length = 0 then y else x := by
   intro x y
   rw [sT cm.1 (by omega),Option.bind_some]
   by_cases h0 : (m.Cam.length : Int) % m.Calendar.Months.length = 0
   ·have := kE (c := m.Calendar) (cam := m.Cam) (by rw [aCa c1 c2,if_pos h0])
    rw [if_pos h0,if_neg (by omega),if_pos h0]
   ·rw [if_neg h0,if_pos rfl,if_neg h0]
  rw [if_pos hv,hv,aGm w1 w2 w3,if_pos hw]
  simp only [Bool.not_true,Bool.false_eq_true,if_false,Option.bind_some,hbel]
  by_cases hs : (gE m.Works m.Minute).2 = 0
  ·have s2 := xD hw hs k2
   have s3 := xD hw hs k3
   have d3 := xX s3.2.1
   rw [if_neg (by simp [hs]),if_pos hs,s2.1,s3.1]
   simp only [Option.bind_some]
   rw [aQ4 (by omega) (by omega)]
   simp only [Option.bind_some]
   unfold aHp aO7 aJ1 aNv
   by_cases b1 : kH (gE m.Works m.Minute).1 m.Hour = ⟨1,12⟩ <;> by_cases b2 : w64 (w64 (2 * m.Teeth) * kJ (kH (gE m.Works m.Minute).1 m.Escape).Num) = w64 (m.Beats * (kH (gE m.Works m.Minute).1 m.Escape).Den) <;> by_cases b3 : (m.Cam.length : Int) % m.Calendar.Months.length = 0 <;> simp [b1,b2,b3,chk]
  ·rw [if_pos hs,if_neg hs]
   unfold aJ9 aNv
   by_cases b3 : (m.Cam.length : Int) % m.Calendar.Months.length = 0 <;> simp [b3,chk]
 ·rw [if_neg hv,Bool.not_eq_true] at *
  rw [hv]; rfl
theorem yA {m : aX} (h : iG m) (hv : vM m = true) : lG m = some (gR m) := by
 unfold lG gR
 have hcl : m.Cam.length ≤ 1048576 := h.2.2.2.2.2.2.2.2.1.1
 have hml : m.Calendar.Months.length ≤ 1048576 := h.2.2.2.2.2.2.2.1.2.1.1
 have hrl : m.Calendar.Rules.length ≤ 1048576 := h.2.2.2.2.2.2.2.1.2.2.1.1
 obtain ⟨hw,k1,k2,k3⟩ := aF3 hv
 obtain ⟨c1,c2⟩ := sM hv
 have hbel : ∀ (x y : Option (List ByteArray)),((oP m.Calendar m.Cam).bind fun v11 => if v11 ≠ 0 then x else y) = if (m.Cam.length : Int) % m.Calendar.Months.length = 0 then y else x := by
  intro x y
  rw [aDx (by omega) (by omega) (by omega),Option.bind_some,aCa c1 c2]
  by_cases h0 : (m.Cam.length : Int) % m.Calendar.Months.length = 0
  ·rw [if_pos h0,if_pos h0,if_neg (by decide)]
  ·rw [if_neg h0,if_neg h0,if_pos (by decide)]
 rw [aEn hw]
 simp only [Option.bind_some,hbel]
 by_cases hs : (gE m.Works m.Minute).2 = 0
 ·have s2 := xD hw hs k2
  have s3 := xD hw hs k3
  have d3 := xX s3.2.1
  rw [if_neg (by simp [hs]),if_pos hs,s2.1,s3.1]
  unfold sS
  simp only [Option.bind_some]
  rw [sG (by omega) (by omega)]
  simp only [Option.bind_some]
  unfold aHp aO7 aJ1 aNv
  by_cases b1 : kH (gE m.Works m.Minute).1 m.Hour = ⟨1,12⟩ <;> by_cases b2 : w64 (w64 (2 * m.Teeth) * kJ (kH (gE m.Works m.Minute).1 m.Escape).Num) = w64 (m.Beats * (kH (gE m.Works m.Minute).1 m.Escape).Den) <;> by_cases b3 : (m.Cam.length : Int) % m.Calendar.Months.length = 0 <;> simp [b1,b2,b3,chk]
 ·rw [if_pos hs,if_neg hs]
  unfold aJ9 aNv
  by_cases b3 : (m.Cam.length : Int) % m.Calendar.Months.length = 0 <;> simp [b3,chk]
theorem aCf {α : Type} {xs : List α} {k : Nat} (hl : xs.length ≤ 1048576) (hk : k ≤ 100) : (chk ((([] : List α).length + xs.length) * k * 64 ≤ 140737488355328) (some (([] : List α) ++ xs))) = some xs := by
 rw [gA ?_,List.nil_append]
 have : (([] : List α).length + xs.length) * k ≤ 1048576 * 100 := Nat.mul_le_mul (by simpa using hl) hk
 omega
theorem aEy {w : bJ} (h : aCl w) : nK w = some w := by
 unfold nK
 have hl := h.1.1
 rw [aIe (xs := w.Arbors) (f := fun a => [a]) (c := 1) (fun v _ => by simp) (fun i hi ys hy => ?_) (fun ys => by simp) (by omega)]
 ·simp only [Option.bind_some]
  unfold gC
  rw [aCf h.2.1 (by omega)]
  simp
 ·have hi' : (i : Int) < w.Arbors.length := by omega
  have hw := (h.1.2 _ (List.getElem_mem hi)).2.1
  simp only [if_pos hi',eD hi,Option.bind_some,aT (x := (i : Int) + 1) (by omega) (by omega)]
  first | unfold cO | unfold slices_Clone_Lint64_int64_v_m
  rw [aCf hw (by omega),Option.bind_some,gA (by simp at hy ⊢; omega)]
theorem tL {m : aX} (h : iG m) : hJ m = some m := by
 unfold hJ
 rw [aEy h.2.1,Option.bind_some]
 unfold fI eH
 rw [aCf h.2.2.2.2.2.2.2.1.2.1.1 (by omega),Option.bind_some,aCf h.2.2.2.2.2.2.2.1.2.2.1.1 (by omega),Option.bind_some,aF2 h.2.2.2.2.2.2.2.2.1.1,Option.bind_some]
def aVa : aX := ⟨⟨#[]⟩,⟨[],[]⟩,0,0,0,0,0,⟨⟨#[]⟩,[],[],0⟩,[],0⟩
def aUy : aC := ⟨[],0,0,0,0,0,0⟩
def aDg : dO := ⟨aVa,⟨0,0,0⟩,0,0,aUy⟩
def aUn (m : aX) (d : bQ) (wd : Int) : dO × Int :=
 if vM m = true then (if gR m = [] then (if (aA7 m.Calendar m.Cam d wd).2 = 0 then (⟨m,d,wd,0,(aA7 m.Calendar m.Cam d wd).1⟩,0) else (aDg,(aA7 m.Calendar m.Cam d wd).2)) else (aDg,6)) else (aDg,1)
theorem smC {m : aX} (h : iG m) : m.Calendar.Months.length ≤ 1048576 ∧ m.Calendar.Rules.length ≤ 1048576 ∧ m.Cam.length ≤ 1048576 := ⟨h.2.2.2.2.2.2.2.1.2.1.1,h.2.2.2.2.2.2.2.1.2.2.1.1,h.2.2.2.2.2.2.2.2.1.1⟩
theorem aPk {α : Type} {xs : List α} : (0 < (xs.length : Int)) ↔ ¬ xs = [] := by
 cases xs <;> simp
theorem aJo {m : aX} (h : iG m) (d : bQ) (wd : Int) : tJ m d wd = some (aUn m d wd) := by
 obtain ⟨c1,c2,c3⟩ := smC h
 unfold tJ aUn
 rw [sK h,Option.bind_some]
 cases hv : vM m
 ·rfl
 ·rw [yE h,hv]
  simp only [Bool.not_true,Bool.false_eq_true,if_false,if_true,Option.bind_some,aPk]
  by_cases hf : gR m = []
  ·rw [if_neg (by simp [hf]),if_pos hf,tB (by omega) (by omega) c3,Option.bind_some]
   by_cases hs : (aA7 m.Calendar m.Cam d wd).2 = 0
   ·rw [if_neg (by simp [hs]),if_pos hs,tL h,Option.bind_some]
   ·rw [if_pos hs,if_neg hs]; rfl
  ·rw [if_pos hf,if_neg hf]; rfl
def aAg (s : dO) : Bool := vM s.Movement && (decide (gR s.Movement = []) && (decide ((aA7 s.Movement.Calendar s.Movement.Cam s.Start s.First).2 = 0) && (btw s.Clock 0 1000000000 && (aEc s.Dial && (decide (s.Dial.Cam = s.Movement.Cam) && (decide (s.Dial.Months = (aA7 s.Movement.Calendar s.Movement.Cam s.Start s.First).1.Months) && (decide (s.Dial.Teeth = (aA7 s.Movement.Calendar s.Movement.Cam s.Start s.First).1.Teeth) && decide (s.Dial.Week = (aA7 s.Movement.Calendar s.Movement.Cam s.Start s.First).1.Week))))))))
theorem aQi {c : aA} {cam : List Int} {d : bQ} {wd : Int} (h : (aA7 c cam d wd).2 = 0) : (aA7 c cam d wd).1.Cam = cam := by
 unfold aA7 at h ⊢
 split
 ·rename_i h1
  rw [if_pos h1] at h
  split
  ·rfl
  ·rename_i h2; rw [if_neg h2] at h; cases h
 ·rename_i h1
  rw [if_neg h1] at h
  exact absurd h h1
theorem qK {s : dO} (h : qH s) : gM s = some (aAg s) := by
 obtain ⟨hm,_,_,_,hd⟩ := h
 have hdl := hd.1.1
 unfold gM aAg
 rw [aJo hm,Option.bind_some]
 unfold aUn
 cases hv : vM s.Movement
 ·rfl
 ·by_cases hf : gR s.Movement = []
  ·by_cases hs : (aA7 s.Movement.Calendar s.Movement.Cam s.Start s.First).2 = 0
   ·have hc := aQi hs
    rw [if_pos rfl,if_pos hf,if_pos hs,decide_eq_true hf,decide_eq_true hs]
    simp only [ne_eq,not_true_eq_false,if_false,eF,Option.bind_some,rT (p := s.Dial) (by omega),itO,hc,aVh (xs := s.Dial.Cam) (ys := s.Movement.Cam) (by omega),Bool.true_and]
    simp only [aVc,itA,Bool.decide_eq_true]
    cases btw s.Clock 0 1000000000
    ·rfl
    ·cases aEc s.Dial
     ·rfl
     ·simp only [Bool.not_true,Bool.or_self,Bool.false_eq_true,if_false,Bool.true_and]
   ·rw [if_pos rfl,if_pos hf,if_neg hs,if_pos hs,decide_eq_false hs,decide_eq_true hf]; rfl
  ·rw [if_pos rfl,if_neg hf,decide_eq_false hf]; rfl
theorem aAp {s : dO} (h : qH s) : pC s = some (aAg s) := by
 obtain ⟨hm,_,_,_,hd⟩ := h
 have hdl := hd.1.1
 obtain ⟨c1,c2,c3⟩ := smC hm
 unfold pC aAg kT
 rw [aFr hm,Option.bind_some]
 cases hv : vM s.Movement
 ·rfl
 ·rw [yA hm hv]
  simp only [Bool.not_true,Bool.false_eq_true,if_false,Option.bind_some,aPk]
  by_cases hf : gR s.Movement = []
  ·rw [if_neg (by simp [hf]),decide_eq_true hf]
   simp only [dZ,Option.bind_some,wY (p := s.Dial) (by omega),itO,oN (c := s.Movement.Calendar) (cam := s.Movement.Cam) (by omega) (by omega) c3,aVz (xs := s.Dial.Cam) (ys := s.Movement.Cam) (by omega),Bool.true_and]
   simp only [aVc,itA,Bool.decide_eq_true]
   cases btw s.Clock 0 1000000000
   ·cases decide ((aA7 s.Movement.Calendar s.Movement.Cam s.Start s.First).2 = 0) <;> rfl
   ·cases aEc s.Dial
    ·cases decide ((aA7 s.Movement.Calendar s.Movement.Cam s.Start s.First).2 = 0) <;> rfl
    ·simp only [Bool.not_true,Bool.or_self,Bool.false_eq_true,if_false,Bool.true_and]
     congr 1
     ac_rfl
  ·rw [if_pos hf,Option.bind_some,if_pos rfl,decide_eq_false hf]; rfl
end Go.Proofs.YtgcdbbidmfdonaaGreat
namespace Go.Proofs.YtgcdbbidmfdonaaGreat
set_option linter.unusedVariables false
def aGp (c : aA) (y : Int) (k : Nat) : Int := aAk (fun j => nX c (fR c y) (j : Int)) k
def nW (c : aA) (d : bQ) : Int := bef c d.Year.toNat + (d.Day - 1) + aGp c d.Year (d.Month - 1).toNat
theorem rR {c : aA} (h : mV c = true) (y : Int) {m n : Nat} (hm : m ≤ n) : aGp c y m ≤ aGp c y n := aIa (fun k => aSl h _ k) hm
theorem aCj {c : aA} (y : Int) (y0 : 0 ≤ y) : aGp c y c.Months.length = aEq c y.toNat := by
 unfold aGp aEq aLe
 rw [show ((y.toNat : Nat) : Int) = y by omega]
theorem tR (c : aA) (y : Int) (k : Nat) : aGp c y (k + 1) = aGp c y k + nX c (fR c y) k := rfl
theorem eO {c : aA} {d : bQ} : gK c d = true ↔ (0 ≤ d.Year ∧ d.Year ≤ 9999) ∧ (1 ≤ d.Month ∧ d.Month ≤ c.Months.length) ∧ 1 ≤ d.Day ∧ d.Day ≤ nX c (fR c d.Year) (d.Month - 1) := by
 unfold gK btw
 simp only [Bool.and_eq_true,decide_eq_true_eq]
theorem aOy {c : aA} (h : mV c = true) {d : bQ} (hd : gK c d = true) : 0 ≤ aGp c d.Year (d.Month - 1).toNat ∧ bef c d.Year.toNat ≤ nW c d ∧ nW c d < bef c (d.Year.toNat + 1) ∧ aGp c d.Year (d.Month - 1).toNat + d.Day ≤ aEq c d.Year.toNat := by
 obtain ⟨⟨y0,y1⟩,⟨m0,m1⟩,d0,d1⟩ := eO.1 hd
 have e : (((d.Month - 1).toNat : Nat) : Int) = d.Month - 1 := by omega
 have h1 := rR h d.Year (m := 0) (n := (d.Month - 1).toNat) (by omega)
 have h0 : aGp c d.Year 0 = 0 := rfl
 have h2 := rR h d.Year (m := (d.Month - 1).toNat + 1) (n := c.Months.length) (by omega)
 rw [tR,aCj d.Year y0,e] at h2
 rw [aCi]
 unfold nW
 omega
theorem aLt {c : aA} (h : mV c = true) {d e : bQ} (hd : gK c d = true) (he : gK c e = true) (hn : nW c d = nW c e) : d = e := by
 have key : ∀ {d e : bQ},gK c d = true → gK c e = true → nW c d = nW c e → ¬ d.Year < e.Year := by
  intro d e hd he hn hlt
  obtain ⟨⟨y0,y1⟩,_⟩ := eO.1 hd
  have a := aOy h hd
  have b := aOy h he
  have := aCm h (m := d.Year.toNat + 1) (n := e.Year.toNat) (by omega)
  omega
 have hy : d.Year = e.Year := by
  have h1 := key hd he hn
  have h2 := key he hd hn.symm
  omega
 have keyM : ∀ {d e : bQ},gK c d = true → gK c e = true → d.Year = e.Year → nW c d = nW c e → ¬ d.Month < e.Month := by
  intro d e hd he hy hn hlt
  obtain ⟨_,⟨m0,m1⟩,d0,d1⟩ := eO.1 hd
  obtain ⟨_,⟨n0,n1⟩,e0,e1⟩ := eO.1 he
  have := rR h d.Year (m := (d.Month - 1).toNat + 1) (n := (e.Month - 1).toNat) (by omega)
  rw [tR,show (((d.Month - 1).toNat : Nat) : Int) = d.Month - 1 by omega] at this
  unfold nW at hn
  rw [← hy] at hn
  omega
 have hm : d.Month = e.Month := by
  have h1 := keyM hd he hy hn
  have h2 := keyM he hd hy.symm hn.symm
  omega
 have hdd : d.Day = e.Day := by
  unfold nW at hn
  rw [← hy, ← hm] at hn
  omega
 obtain ⟨a,b,k⟩ := d
 obtain ⟨a',b',k'⟩ := e
 simp_all
def yrs (c : aA) : Nat := 10000 + 0 * c.Months.length
theorem aC8 (c : aA) : yrs c = 10000 := by unfold yrs; omega
def aGe (c : aA) : Int := bef c (yrs c)
theorem aG0 {c : aA} (h : mV c = true) {d : bQ} (hd : gK c d = true) : 0 ≤ nW c d ∧ nW c d < aGe c ∧ aGe c ≤ 12000000 := by
 obtain ⟨⟨y0,y1⟩,_⟩ := eO.1 hd
 have a := aOy h hd
 have b := (aC0 h d.Year.toNat).1
 have e := aCm h (m := d.Year.toNat + 1) (n := yrs c) (by rw [aC8]; omega)
 have f := (aC0 h (yrs c)).2
 have g := aC8 c
 unfold aGe
 omega
theorem aMv {c : aA} (h : mV c = true) {d : bQ} (hd : gK c d = true) : vO c d = some (nW c d) := by
 obtain ⟨⟨y0,y1⟩,⟨m0,m1⟩,d0,d1⟩ := eO.1 hd
 have hc := (dT h).2.1
 have b := aC0 h d.Year.toNat
 have hl := oC h (fR c d.Year) (k := d.Month - 1) (by omega) (by omega)
 unfold vO
 rw [vR h y0 (by omega),Option.bind_some,mD h y0,Option.bind_some,aT (x := bef c _ + _) (by omega) (by omega),aT (by omega) (by omega)]
 rw [aPe (fun i (s : Int) => (s,i)) 1 (d.Month - 1).toNat (fun k s => s + nX c (fR c d.Year) k) id (fun i s => 0 ≤ s ∧ s ≤ 12001000 + 60 * i) (by omega) (fun i s hi hs => ?_) (fun i s hi hs => ?_) (fun s hs => ?_) _ ⟨by omega,by simp; omega⟩]
 ·rw [aF4]
  unfold nW aGp
  simp only [id,Option.bind_some]
  congr 1; try omega
 ·have hi' : 1 + (i : Int) < d.Month := by omega
  have hq := oC h (fR c d.Year) (k := i) (by omega) (by omega)
  simp only [if_pos hi',jP h _ (m := 1 + (i : Int)) (by omega) (by omega),Option.bind_some]
  rw [show 1 + (i : Int) - 1 = i by omega,aT (by omega) (by omega),aT (by omega) (by omega)]
  congr 3; try omega
 ·have hq := oC h (fR c d.Year) (k := i) (by omega) (by omega)
  omega
 ·have : ¬ (1 + ((d.Month - 1).toNat : Int) < d.Month) := by omega
  simp only [if_neg this]; rfl
def aBt (c : aA) (day : Int) (s : Int × bQ) : Prop := s.2.Month = 1 ∧ s.2.Day = 0 ∧ 0 ≤ s.2.Year ∧ 0 ≤ s.1 ∧ bef c s.2.Year.toNat + s.1 = day
theorem aBt.bd {c : aA} (h : mV c = true) {day : Int} {s : Int × bQ} (hs : aBt c day s) (hd : day < aGe c) : s.2.Year ≤ 9999 ∧ s.1 ≤ 12000000 := by
 obtain ⟨_,_,h3,h4,h5⟩ := hs
 have f := (aC0 h (yrs c)).2
 have g := (aC0 h s.2.Year.toNat).1
 have y := aC8 c
 unfold aGe at hd
 refine ⟨?_,by omega⟩
 refine Classical.byContradiction fun hn => ?_
 have := aCm h (m := yrs c) (n := s.2.Year.toNat) (by omega)
 omega
theorem aO4 {c : aA} (h : mV c = true) {day : Int} (hd : day < aGe c) {step : Int × bQ → Option ((Int × bQ) ⊕ (Int × bQ))}
  (hS : ∀ s,aBt c day s → step s = some (if aEq c s.2.Year.toNat ≤ s.1 then .inl (s.1 - aEq c s.2.Year.toNat,⟨s.2.Year + 1,s.2.Month,s.2.Day⟩) else .inr (s.1,s.2))) (s0 : Int × bQ) (h0 : aBt c day s0) :
  ∃ x,cM step s0 = some x ∧ aBt c day x ∧ x.1 < aEq c x.2.Year.toNat := by
 refine uB (fun s => aBt c day s) (fun s => s.1.toNat) (fun x => aBt c day x ∧ x.1 < aEq c x.2.Year.toNat) (fun s hI => ?_) s0 h0 (by have := (h0.bd h hd).2; omega)
 rw [hS s hI]
 have hq := yJ h s.2.Year.toNat
 obtain ⟨h1,h2,h3,h4,h5⟩ := hI
 by_cases hc : aEq c s.2.Year.toNat ≤ s.1
 ·left
  refine ⟨(s.1 - aEq c s.2.Year.toNat,⟨s.2.Year + 1,s.2.Month,s.2.Day⟩),by rw [if_pos hc],⟨h1,h2,by dsimp only; omega,by dsimp only; omega,?_⟩,by dsimp only; omega⟩
  dsimp only
  rw [show (s.2.Year + 1).toNat = s.2.Year.toNat + 1 by omega,aCi]
  omega
 ·right
  exact ⟨(s.1,s.2),by rw [if_neg hc],⟨h1,h2,h3,h4,h5⟩,by dsimp only; omega⟩
def aMf (c : aA) (y r : Int) (s : Int × bQ) : Prop := s.2.Year = y ∧ 1 ≤ s.2.Month ∧ s.2.Month ≤ c.Months.length ∧ 0 ≤ s.1 ∧ aGp c y (s.2.Month - 1).toNat + s.1 = r
theorem aP4 {c : aA} (h : mV c = true) {y r : Int} (y0 : 0 ≤ y) (hr : r < aEq c y.toNat) {step : Int × bQ → Option ((Int × bQ) ⊕ (Int × bQ))}
  (hS : ∀ s,aMf c y r s → step s = some (if nX c (fR c y) (s.2.Month - 1) ≤ s.1 then .inl (s.1 - nX c (fR c y) (s.2.Month - 1),⟨s.2.Year,s.2.Month + 1,s.2.Day⟩) else .inr (s.1,s.2))) (s0 : Int × bQ) (h0 : aMf c y r s0) :
  ∃ x,cM step s0 = some x ∧ aMf c y r x ∧ x.1 < nX c (fR c y) (x.2.Month - 1) := by
 have hl := yJ h y.toNat
 have nn : ∀ k,0 ≤ aGp c y k := fun k => rR h y (m := 0) (n := k) (by omega)
 refine uB (fun s => aMf c y r s) (fun s => s.1.toNat) (fun x => aMf c y r x ∧ x.1 < nX c (fR c y) (x.2.Month - 1)) (fun s hI => ?_) s0 h0 (by obtain ⟨_,_,_,h4,h5⟩ := h0; have := nn (s0.2.Month - 1).toNat; omega)
 rw [hS s hI]
 obtain ⟨h1,h2,h3,h4,h5⟩ := hI
 have hq := oC h (fR c y) (k := s.2.Month - 1) (by omega) (by omega)
 by_cases hc : nX c (fR c y) (s.2.Month - 1) ≤ s.1
 ·left
  have e : (s.2.Month + 1 - 1).toNat = (s.2.Month - 1).toNat + 1 := by omega
  have e2 : (((s.2.Month - 1).toNat : Nat) : Int) = s.2.Month - 1 := by omega
  refine ⟨(s.1 - nX c (fR c y) (s.2.Month - 1),⟨s.2.Year,s.2.Month + 1,s.2.Day⟩),by rw [if_pos hc],⟨h1,by dsimp only; omega,?_,by dsimp only; omega,?_⟩,by dsimp only; omega⟩
  ·dsimp only
   refine Classical.byContradiction fun hn => ?_
   have e3 : (s.2.Month - 1).toNat + 1 = c.Months.length := by omega
   have := tR c y (s.2.Month - 1).toNat
   rw [e3,aCj y y0,e2] at this
   omega
  ·dsimp only
   rw [e,tR,e2]
   omega
 ·right
  exact ⟨(s.1,s.2),by rw [if_neg hc],⟨h1,h2,h3,h4,h5⟩,by dsimp only; omega⟩
theorem aP1 {c : aA} {day : Int} {x : Int × bQ} (hx : aBt c day x) (hy : x.2.Year ≤ 9999) {z : Int × bQ} (hz : aMf c x.2.Year x.1 z) (hl : z.1 < nX c (fR c x.2.Year) (z.2.Month - 1)) : gK c ⟨z.2.Year,z.2.Month,z.1 + 1⟩ = true ∧ nW c ⟨z.2.Year,z.2.Month,z.1 + 1⟩ = day := by
 obtain ⟨h1,h2,h3,h4,h5⟩ := hx
 obtain ⟨g1,g2,g3,g4,g5⟩ := hz
 refine ⟨eO.2 ⟨⟨?_,?_⟩,⟨g2,g3⟩,?_,?_⟩,?_⟩
 ·dsimp only; omega
 ·dsimp only; omega
 ·dsimp only; omega
 ·dsimp only; rw [g1]; omega
 ·unfold nW
  dsimp only
  rw [g1]; omega
theorem aKi {c : aA} (h : mV c = true) {day : Int} (h0 : 0 ≤ day) (h1 : day < aGe c) : ∃ d,tC c day = some d ∧ gK c d = true ∧ nW c d = day := by
 have hc := (dT h).2.1
 have hA : aGe c ≤ 12000000 := by have := (aC0 h (yrs c)).2; have := aC8 c; unfold aGe; omega
 unfold tC
 rw [vD h,Option.bind_some]
 obtain ⟨x,ex,hx,hxl⟩ := aO4 h h1 (step := fun (s5 : Int × bQ) => ((((gZ c s5.2.Year).bind fun v6 => (if v6 = true then some (aLe c true) else some (aLe c false))) : Option Int).bind fun v7 => (if s5.1 < v7 then some (.inr (s5.1,s5.2)) else some (.inl (w64 (s5.1 - v7),(⟨w64 (s5.2.Year + 1),s5.2.Month,s5.2.Day⟩ : bQ)))))) (fun s hs => by
  have hb := hs.bd h h1
  obtain ⟨_,_,y0,r0,_⟩ := hs
  have hq := yJ h s.2.Year.toNat
  have e : (if fR c s.2.Year = true then some (aLe c true) else some (aLe c false)) = some (aEq c s.2.Year.toNat) := by
   unfold aEq
   rw [show ((s.2.Year.toNat : Nat) : Int) = s.2.Year by omega]
   cases fR c s.2.Year <;> rfl
  simp only [mD h y0,Option.bind_some,e]
  by_cases hl : s.1 < aEq c s.2.Year.toNat
  ·rw [if_pos hl,if_neg (by omega)]
  ·rw [if_neg hl,if_pos (by omega),aT (by omega) (by omega),aT (by omega) (by omega)]) (day,⟨0,1,0⟩) ⟨rfl,rfl,by simp,h0,by simp [bef,aAk]⟩
 have hxb := hx.bd h h1
 have hx' := hx
 obtain ⟨x1,x2,x3,x4,x5⟩ := hx'
 rw [ex,Option.bind_some,mD h x3]
 simp only [Option.bind_some]
 obtain ⟨z,ez,hz,hzl⟩ := aP4 h x3 hxl (step := fun (s13 : Int × bQ) => ((eB c (fR c x.2.Year) s13.2.Month).bind fun v14 => (if v14 ≤ s13.1 then ((eB c (fR c x.2.Year) s13.2.Month).bind fun v15 => some (.inl (w64 (s13.1 - v15),(⟨s13.2.Year,w64 (s13.2.Month + 1),s13.2.Day⟩ : bQ)))) else some (.inr (s13.1,s13.2))))) (fun s hs => by
  obtain ⟨s1,s2,s3,s4,s5⟩ := hs
  have hq := oC h (fR c x.2.Year) (k := s.2.Month - 1) (by omega) (by omega)
  have nn : 0 ≤ aGp c x.2.Year (s.2.Month - 1).toNat := rR h x.2.Year (m := 0) (n := (s.2.Month - 1).toNat) (by omega)
  simp only [jP h (fR c x.2.Year) s2 s3,Option.bind_some]
  by_cases hl : nX c (fR c x.2.Year) (s.2.Month - 1) ≤ s.1
  ·rw [if_pos hl,if_pos hl,aT (by omega) (by omega),aT (by omega) (by omega)]
  ·rw [if_neg hl,if_neg hl]) (x.1,x.2) ⟨rfl,by dsimp only; omega,by dsimp only; omega,x4,by
   rw [x1]
   show aGp c x.2.Year 0 + x.1 = x.1
   have : aGp c x.2.Year 0 = 0 := rfl
   omega⟩
 rw [ez,Option.bind_some]
 obtain ⟨m1,m2,m3,m4,m5⟩ := hz
 have hq := oC h (fR c x.2.Year) (k := z.2.Month - 1) (by omega) (by omega)
 rw [aT (by omega) (by omega)]
 exact ⟨_,rfl,aP1 hx hxb.1 ⟨m1,m2,m3,m4,m5⟩ hzl⟩
theorem aH4 {c : aA} (h : mV c = true) : qX c = some (aGe c - 1) := by
 have hA := aC0 h (yrs c)
 have hy := aC8 c
 unfold qX
 have e : (10000 : Int).toNat = yrs c := by rw [aC8]; rfl
 have := vR h (y := 10000) (by omega) (by omega)
 rw [e] at this
 rw [this,Option.bind_some,aT (by omega) (by omega)]; rfl
end Go.Proofs.YtgcdbbidmfdonaaGreat
namespace Go.Proofs.YtgcdbbidmfdonaaGreat
set_option linter.unusedVariables false
theorem uR {s : dO} (h : aAg s = true) : vM s.Movement = true ∧ gR s.Movement = [] ∧ (aA7 s.Movement.Calendar s.Movement.Cam s.Start s.First).2 = 0 ∧ (0 ≤ s.Clock ∧ s.Clock ≤ 1000000000) ∧ aEc s.Dial = true := by
 unfold aAg at h
 simp only [Bool.and_eq_true,decide_eq_true_eq] at h
 exact ⟨h.1,h.2.1,h.2.2.1,of_decide_eq_true h.2.2.2.1,h.2.2.2.2.1⟩
theorem aPd {c : aA} {cam : List Int} {d : bQ} {wd : Int} (h : (aA7 c cam d wd).2 = 0) : vI c cam = 0 ∧ gK c d = true ∧ 1 ≤ wd ∧ wd ≤ c.Week := by
 unfold aA7 at h
 split at h
 ·rename_i h1
  split at h
  ·rename_i h2
   rw [Bool.and_eq_true] at h2
   exact ⟨h1,h2.1,of_decide_eq_true h2.2⟩
  ·cases h
 ·rename_i h1; exact absurd h h1
theorem yY {s : dO} (h : aAg s = true) : mV s.Movement.Calendar = true ∧ gK s.Movement.Calendar s.Start = true ∧ (1 ≤ s.First ∧ s.First ≤ s.Movement.Calendar.Week) ∧ (1 ≤ s.Movement.Calendar.Week ∧ s.Movement.Calendar.Week ≤ 12) ∧ (0 ≤ s.Clock ∧ s.Clock ≤ 1000000000) ∧ aEc s.Dial = true := by
 obtain ⟨h1,_,h3,h4,h5⟩ := uR h
 obtain ⟨_,g2,g3⟩ := aPd h3
 have hc := (sM h1).1
 exact ⟨hc,g2,g3,(dT hc).2.2.2.1,h4,h5⟩
def aRo (s : dO) (r : Option bQ) : Prop :=
 (nW s.Movement.Calendar s.Start + s.Clock / 86400 < aGe s.Movement.Calendar ∧ ∃ d,r = some d ∧ gK s.Movement.Calendar d = true ∧ nW s.Movement.Calendar d = nW s.Movement.Calendar s.Start + s.Clock / 86400) ∨ (¬ nW s.Movement.Calendar s.Start + s.Clock / 86400 < aGe s.Movement.Calendar ∧ r = none)
theorem aQh {s : dO} (h : aAg s = true) {a b : Option bQ} (ha : aRo s a) (hb : aRo s b) : a = b := by
 have hc := (yY h).1
 rcases ha with ⟨h1,d,rfl,d1,d2⟩ | ⟨h1,rfl⟩
 ·rcases hb with ⟨_,e,rfl,e1,e2⟩ | ⟨h2,rfl⟩
  ·rw [aLt hc d1 e1 (d2.trans e2.symm)]
  ·exact absurd h1 h2
 ·rcases hb with ⟨h2,_⟩ | ⟨_,rfl⟩
  ·exact absurd h2 h1
  ·rfl
def wdR (s : dO) : Int := w64 ((w64 (w64 (s.First - 1) + s.Clock / 86400)).tmod s.Movement.Calendar.Week + 1)
theorem yV {s : dO} (hs : qH s) (h : aAg s = true) : ∃ r,aRo s r ∧ kR s = some (match r with
  | some d => (d,wdR s,0)
  | none => (⟨0,0,0⟩,0,2)) := by
 obtain ⟨c1,c2,_⟩ := smC hs.1
 obtain ⟨hc,hd,hf,hw,hk,_⟩ := yY h
 have hb := aG0 hc hd
 have hq := tM (a := s.Clock) (g := 86400) hk.1 (by omega)
 unfold kR tY zM uY
 rw [Int.tdiv_eq_ediv_of_nonneg hk.1,aT (x := s.Clock / 86400) (by omega) (by omega),hZ (by omega) (by omega),hc]
 simp only [Bool.not_true,Bool.false_eq_true,if_false,Option.bind_some,sX (show s.Movement.Calendar.Months.length ≤ 9223372036854775807 by omega) (show s.Movement.Calendar.Rules.length ≤ 9223372036854775807 by omega),hc,hd,Bool.and_self,aMv hc hd,ne_eq,not_true_eq_false,aH4 hc,eF]
 rw [aT (x := -nW _ _) (by omega) (by omega),aT (x := aGe _ - 1 - nW _ _) (by omega) (by omega)]
 by_cases hl : nW s.Movement.Calendar s.Start + s.Clock / 86400 < aGe s.Movement.Calendar
 ·have e : btw (s.Clock / 86400) (-nW s.Movement.Calendar s.Start) (aGe s.Movement.Calendar - 1 - nW s.Movement.Calendar s.Start) = true := decide_eq_true (by omega)
  obtain ⟨d,e1,e2,e3⟩ := aKi hc (day := nW s.Movement.Calendar s.Start + s.Clock / 86400) (by omega) hl
  refine ⟨some d, .inl ⟨hl,d,rfl,e2,e3⟩,?_⟩
  rw [e,Bool.not_true,if_neg (by decide),aT (x := nW _ _ + _) (by omega) (by omega),e1]
  simp only [Option.bind_some,not_true_eq_false,if_false]
  rw [gA (by omega)]; rfl
 ·have e : btw (s.Clock / 86400) (-nW s.Movement.Calendar s.Start) (aGe s.Movement.Calendar - 1 - nW s.Movement.Calendar s.Start) = false := decide_eq_false (by omega)
  refine ⟨none, .inr ⟨hl,rfl⟩,?_⟩
  rw [e]; rfl
theorem aJ8 {p : aC} (h : aEc p = true) : 1 ≤ p.Months := by
 unfold aEc at h
 simp only [Bool.and_eq_true,decide_eq_true_eq] at h
 exact h.2.1
end Go.Proofs.YtgcdbbidmfdonaaGreat
namespace Go.Proofs.YtgcdbbidmfdonaaGreat
set_option linter.unusedVariables false
section
variable {α : Type} (f : Int → α → α × Int)
end
section
variable {α : Type} {f : Int → α → α × Int} {sm : α → Prop} {C : Int}
end
end Go.Proofs.YtgcdbbidmfdonaaGreat
namespace Go.Proofs.YtgcdbbidmfdonaaGreat
open Go.RowKit
set_option linter.unusedVariables false
set_option maxRecDepth 100000
set_option maxHeartbeats 2000000
end Go.Proofs.YtgcdbbidmfdonaaGreat
namespace Go.Proofs.YtgcdbbidmfdonaaGreat
set_option linter.unusedVariables false
def zX (p : aC) : Prop := (0 ≤ p.At ∧ p.At < p.Cam.length ∧ p.Cam.length ≤ 260) ∧ (1 ≤ p.Day ∧ p.Day ≤ p.Teeth ∧ p.Teeth ≤ 60) ∧ (1 ≤ p.Week ∧ p.Week ≤ 12) ∧ 1 ≤ p.Weekday ∧ p.Weekday ≤ p.Week
theorem vY {p : aC} (h : aEc p = true) : zX p := by
 unfold aEc at h
 simp only [Bool.and_eq_true,decide_eq_true_eq] at h
 obtain ⟨h1,h2,h3,h4,h5,h6,h7,h8,h9⟩ := h
 have hl := (lB h1).2.2
 unfold btw at h7 h8 h9
 simp only [decide_eq_true_eq] at h7 h8 h9
 exact ⟨⟨h6.1,h6.2,hl⟩,⟨h7.1,h7.2,h4⟩,⟨h8.1,h8.2⟩,h9.1,h9.2⟩
def pD (p : aC) (n : Int) : aC := if p.Teeth < p.Day + n then ⟨p.Cam,p.Months,p.Teeth,(p.At + 1).tmod p.Cam.length,p.Day + n - p.Teeth,p.Week,p.Weekday⟩ else ⟨p.Cam,p.Months,p.Teeth,p.At,p.Day + n,p.Week,p.Weekday⟩
def jE (p : aC) : Int := if p.Day = p.Cam.getD p.At.toNat 0 then p.Teeth + 1 - p.Day else 1
def aBs (p : aC) : aC := ⟨p.Cam,p.Months,p.Teeth,(p.At + 1).tmod p.Cam.length,p.Day,p.Week,p.Weekday⟩
def aAr (p : aC) : aC := ⟨p.Cam,p.Months,p.Teeth,p.At,p.Day,p.Week,p.Weekday.tmod p.Week + 1⟩
def qI (p : aC) : aC := aAr (pD p (jE p))
theorem vX {a n : Int} (h0 : 0 ≤ a) (hn : 0 < n) : 0 ≤ a.tmod n ∧ a.tmod n < n := by
 rw [Int.tmod_eq_emod_of_nonneg h0]
 exact ⟨Int.emod_nonneg _ (by omega),Int.emod_lt_of_pos _ hn⟩
theorem zY {p : aC} (h : zX p) : 1 ≤ jE p ∧ p.Day + jE p ≤ p.Teeth + 1 := by
 obtain ⟨_,h2,_⟩ := h
 unfold jE
 split <;> omega
theorem aDb {p : aC} {n : Int} (h : zX p) (h1 : 1 ≤ n) (h2 : p.Day + n ≤ p.Teeth + 1) : zX (pD p n) := by
 obtain ⟨⟨a1,a2,a3⟩,⟨b1,b2,b3⟩,hw⟩ := h
 have t := vX (a := p.At + 1) (n := p.Cam.length) (by omega) (by omega)
 unfold pD
 split
 ·exact ⟨⟨t.1,t.2,a3⟩,⟨by dsimp only; omega,by dsimp only; omega,b3⟩,hw⟩
 ·exact ⟨⟨a1,a2,a3⟩,⟨by dsimp only; omega,by dsimp only; omega,b3⟩,hw⟩
theorem aPa {p : aC} (h : zX p) : zX (aAr p) := by
 obtain ⟨ha,hb,hc,d1,d2⟩ := h
 have t := vX (a := p.Weekday) (n := p.Week) (by omega) (by omega)
 exact ⟨ha,hb,hc,by unfold aAr; dsimp only; omega,by unfold aAr; dsimp only; omega⟩
theorem aQy {p : aC} (h : zX p) : zX (aBs p) := by
 obtain ⟨⟨a1,a2,a3⟩,hb⟩ := h
 have t := vX (a := p.At + 1) (n := p.Cam.length) (by omega) (by omega)
 exact ⟨⟨t.1,t.2,a3⟩,hb⟩
theorem aCo {p : aC} (h : zX p) : zX (qI p) := by
 have s := zY h
 exact aPa (aDb h s.1 s.2)
def xQ (s : dO) (p : aC) : dO := ⟨s.Movement,s.Start,s.First,s.Clock,p⟩
theorem aK5 {p : aC} (h : zX p) : atI p.Cam p.At = some (p.Cam.getD p.At.toNat 0) := by
 obtain ⟨⟨a1,a2,a3⟩,_⟩ := h
 unfold atI
 rw [if_pos a1,List.getElem?_eq_getElem (by omega)]
 simp [List.getD_eq_getElem?_getD,List.getElem?_eq_getElem (show p.At.toNat < p.Cam.length by omega)]
theorem sN {p : aC} (h : zX p) : gP p = some (jE p) := by
 obtain ⟨_,⟨b1,b2,b3⟩,_⟩ := id h
 unfold gP jE
 rw [aK5 h,Option.bind_some,aT (x := p.Teeth + 1) (by omega) (by omega),aT (x := p.Teeth + 1 - p.Day) (by omega) (by omega)]
 split <;> rfl
theorem aGt {p : aC} (h : zX p) : pU p = some (jE p) := by
 obtain ⟨_,⟨b1,b2,b3⟩,_⟩ := id h
 unfold pU jE
 rw [aK5 h,Option.bind_some,aT (x := p.Teeth + 1) (by omega) (by omega),aT (x := p.Teeth + 1 - p.Day) (by omega) (by omega)]
 split <;> rfl
theorem xZ {s : dO} (h : 0 ≤ s.Dial.At ∧ s.Dial.At < s.Dial.Cam.length ∧ s.Dial.Cam.length ≤ 260) : dY s = some (xQ s (aBs s.Dial)) := by
 unfold dY xQ aBs
 rw [gA (by omega),aT (x := s.Dial.At + 1) (by omega) (by omega)]
theorem vF {s : dO} (h : zX s.Dial) : dR s = some (xQ s (aAr s.Dial)) := by
 obtain ⟨_,_,hc,d1,d2⟩ := h
 have t := vX (a := s.Dial.Weekday) (n := s.Dial.Week) (by omega) (by omega)
 unfold dR xQ aAr
 rw [gA (by omega),aT (by omega) (by omega)]
theorem zV {s : dO} {n : Int} (h : zX s.Dial) (h1 : 1 ≤ n) (h2 : s.Dial.Day + n ≤ s.Dial.Teeth + 1) : eA s n = some (xQ s (pD s.Dial n)) := by
 obtain ⟨ha,⟨b1,b2,b3⟩,hw⟩ := h
 unfold eA pD
 rw [aT (x := s.Dial.Day + n) (by omega) (by omega),aT (x := s.Dial.Day + n - s.Dial.Teeth) (by omega) (by omega)]
 split
 ·rw [xZ (by exact ha)]; rfl
 ·rfl
theorem aGn {s : dO} (h : zX s.Dial) : dQ s = some (xQ s (qI s.Dial)) := by
 have hs := zY h
 unfold dQ
 rw [sN h,Option.bind_some,zV h hs.1 hs.2,Option.bind_some,vF (by exact aDb h hs.1 hs.2)]; rfl
theorem aGh {s : dO} (h : zX s.Dial) : eW s = some (xQ s (qI s.Dial)) := by
 have hs := zY h
 obtain ⟨ha,⟨b1,b2,b3⟩,hw⟩ := id h
 have e : iT s (jE s.Dial) = some (xQ s (pD s.Dial (jE s.Dial))) := by
  unfold iT pD xQ
  rw [aT (x := s.Dial.Day + jE s.Dial) (by omega) (by omega),aT (x := s.Dial.Day + jE s.Dial - s.Dial.Teeth) (by omega) (by omega),gA (by omega),aT (x := s.Dial.At + 1) (by omega) (by omega)]
  split <;> rfl
 unfold eW
 have hI := aDb h hs.1 hs.2
 obtain ⟨_,_,hc,d1,d2⟩ := id hI
 have t := vX (a := (pD s.Dial (jE s.Dial)).Weekday) (n := (pD s.Dial (jE s.Dial)).Week) (by omega) (by omega)
 rw [aGt h,Option.bind_some,e,Option.bind_some]
 unfold qI aAr xQ
 dsimp only
 rw [gA (by omega),aT (by omega) (by omega)]
theorem aGo {p : aC} (h : aEc p = true) (hl : p.Cam.length ≤ 1048576) : pR p = some (pD p 1,0) := by
 have hI := vY h
 obtain ⟨ha,⟨b1,b2,b3⟩,hw⟩ := id hI
 unfold pR jU iE pD
 rw [wY (by omega),h,zS hl]
 simp only [Bool.not_true,Bool.false_eq_true,if_false,Option.bind_some]
 rw [aT (x := p.Day + 1) (by omega) (by omega),aT (x := p.Day + 1 - p.Teeth) (by omega) (by omega),gA (by omega),aT (x := p.At + 1) (by omega) (by omega)]
 split <;> rfl
theorem aEp {p : aC} (h : aEc p = true) (hl : p.Cam.length ≤ 1048576) : mZ p = some (aBs p,0) := by
 have hI := vY h
 obtain ⟨ha,⟨b1,b2,b3⟩,hw⟩ := id hI
 unfold mZ jU aBs
 rw [wY (by omega),h,zS hl]
 simp only [Bool.not_true,Bool.false_eq_true,if_false,Option.bind_some]
 rw [gA (by omega),aT (x := p.At + 1) (by omega) (by omega)]
theorem aB5 {p : aC} (h : aEc p = true) (hl : p.Cam.length ≤ 1048576) : kU p = some (aAr p,0) := by
 have hI := vY h
 obtain ⟨ha,hb,hc,d1,d2⟩ := id hI
 have t := vX (a := p.Weekday) (n := p.Week) (by omega) (by omega)
 unfold kU jU aAr
 rw [wY (by omega),h,zS hl]
 simp only [Bool.not_true,Bool.false_eq_true,if_false,Option.bind_some]
 rw [gA (by omega),aT (by omega) (by omega)]
theorem aKa {w : bJ} (h : aCl w) : tS w = some w := by
 unfold tS
 have hl := h.1.1
 have hm := h.2.1
 rw [gA (by simp; omega),aIe (xs := w.Arbors) (f := fun a => [a]) (c := 1) (fun v _ => by simp) (fun i hi ys hy => ?_) (fun ys => by simp) (by omega)]
 ·simp
 ·have hi' : (i : Int) < w.Arbors.length := by omega
  have hw := (h.1.2 _ (List.getElem_mem hi)).2.1
  simp only [if_pos hi',eD hi,Option.bind_some,aT (x := (i : Int) + 1) (by omega) (by omega)]
  rw [zS hw,Option.bind_some,gA (by simp at hy ⊢; omega)]
theorem aCr {m : aX} (h : iG m) : qT m = some m := by
 obtain ⟨c1,c2,c3⟩ := smC h
 unfold qT oI
 rw [aKa h.2.1,Option.bind_some,gA (by simp; omega),gA (by simp; omega),Option.bind_some,zS c3,Option.bind_some]
 simp
theorem aCv {s : dO} (h : qH s) : oJ s = some s := by
 have hd := h.2.2.2.2.1.1
 unfold oJ jU
 rw [aCr h.1,Option.bind_some,zS hd]; rfl
theorem vW {s : dO} (h : qH s) : kO s = some s := by
 have hd := h.2.2.2.2.1.1
 unfold kO nI
 rw [tL h.1,Option.bind_some,aF2 hd]; rfl
def aN7 (s : dO) (k : Int) : dO × Int :=
 if aAg s = true then (if k = 1 then (xQ s (pD s.Dial 1),0) else if k = 2 then (xQ s (aBs s.Dial),0) else if k = 3 then (xQ s (aAr s.Dial),0) else (aDg,2)) else (aDg,1)
theorem uJ {s : dO} (h : aAg s = true) : aEc s.Dial = true := (uR h).2.2.2.2
theorem aI6 {s : dO} (h : qH s) (k : Int) : yI s k = some (aN7 s k) := by
 unfold yI aN7
 rw [qK h,Option.bind_some]
 cases hv : aAg s
 ·rfl
 ·have hp := vY (uJ hv)
  have hb := hp.2.1
  rw [vW h]
  simp only [Bool.not_true,Bool.false_eq_true,if_false,if_true,Option.bind_some]
  by_cases h1 : k = 1
  ·rw [if_pos h1,if_pos h1,zV hp (by omega) (by omega)]; rfl
  ·rw [if_neg h1,if_neg h1]
   by_cases h2 : k = 2
   ·rw [if_pos h2,if_pos h2,xZ hp.1]; rfl
   ·rw [if_neg h2,if_neg h2]
    by_cases h3 : k = 3
    ·rw [if_pos h3,if_pos h3,vF hp]; rfl
    ·rw [if_neg h3,if_neg h3]; rfl
theorem aH3 {s : dO} (h : qH s) (k : Int) : mF s k = some (aN7 s k) := by
 have hd := h.2.2.2.2.1.1
 unfold mF aN7
 rw [aAp h,Option.bind_some]
 cases hv : aAg s
 ·rfl
 ·have hp := uJ hv
  rw [aCv h]
  simp only [Bool.not_true,Bool.false_eq_true,if_false,if_true,Option.bind_some]
  by_cases h1 : k = 1
  ·rw [if_pos h1,if_pos h1,aGo hp hd]; rfl
  ·rw [if_neg h1,if_neg h1]
   by_cases h2 : k = 2
   ·rw [if_pos h2,if_pos h2,aEp hp hd]; rfl
   ·rw [if_neg h2,if_neg h2]
    by_cases h3 : k = 3
    ·rw [if_pos h3,if_pos h3,aB5 hp hd]; rfl
    ·rw [if_neg h3,if_neg h3]; rfl
def aTx (s : dO) (r : Option bQ) : dO × Int :=
 if aAg s = true then (match r with | some d => (xQ s (aA7 s.Movement.Calendar s.Movement.Cam d (wdR s)).1,0) | none => (aDg,2)) else (aDg,1)
theorem aUf {s : dO} (h : aAg s = true) : 1 ≤ wdR s ∧ wdR s ≤ s.Movement.Calendar.Week := by
 obtain ⟨hc,hd,hf,hw,hk,_⟩ := yY h
 have hq := tM (a := s.Clock) (g := 86400) hk.1 (by omega)
 have e : w64 (w64 (s.First - 1) + s.Clock / 86400) = s.First - 1 + s.Clock / 86400 := by
  rw [aT (x := s.First - 1) (by omega) (by omega),aT (by omega) (by omega)]
 have t := vX (a := s.First - 1 + s.Clock / 86400) (n := s.Movement.Calendar.Week) (by omega) (by omega)
 unfold wdR
 rw [e,aT (x := _ + 1) (by omega) (by omega)]
 omega
theorem aQ7 {s : dO} (h : aAg s = true) {d : bQ} (hd : aRo s (some d)) : (aA7 s.Movement.Calendar s.Movement.Cam d (wdR s)).2 = 0 := by
 have hw := aUf h
 have ha := (aPd (uR h).2.2.1).1
 rcases hd with ⟨_,e,h1,h2,_⟩ | ⟨_,h1⟩
 ·injection h1 with h1
  subst h1
  unfold aA7
  rw [if_pos ha,h2,show btw (wdR s) 1 s.Movement.Calendar.Week = true from decide_eq_true hw]; rfl
 ·cases h1
def aIf (s : dO) : dO := xQ s (qI s.Dial)
def aM8 : Nat → dO → dO
 | 0,s => s
 | n + 1,s => aM8 n (aIf s)
abbrev aFe : Type := ByteArray × Int × Int × Int × Int × Int × ByteArray × Int × Int × bQ × Int × Int × Int × Int × Int × Int × Int × Int × List cQ × List cH × List bP × List bA × List Int × List Int
def aAh (s : dO) : aFe :=
 (s.Movement.Name,s.Movement.Minute,s.Movement.Hour,s.Movement.Escape,s.Movement.Teeth,s.Movement.Beats,s.Movement.Calendar.Name,s.Movement.Calendar.Week,s.Movement.Strike,s.Start,s.First,s.Clock,s.Dial.Months,s.Dial.Teeth,s.Dial.At,s.Dial.Day,s.Dial.Week,s.Dial.Weekday,s.Movement.Works.Arbors,s.Movement.Works.Meshes,s.Movement.Calendar.Months,s.Movement.Calendar.Rules,s.Movement.Cam,s.Dial.Cam)
def unS (x : aFe) : dO := ⟨⟨x.1,⟨x.2.2.2.2.2.2.2.2.2.2.2.2.2.2.2.2.2.2.1,x.2.2.2.2.2.2.2.2.2.2.2.2.2.2.2.2.2.2.2.1⟩,x.2.1,x.2.2.1,x.2.2.2.1,x.2.2.2.2.1,x.2.2.2.2.2.1,⟨x.2.2.2.2.2.2.1,x.2.2.2.2.2.2.2.2.2.2.2.2.2.2.2.2.2.2.2.2.1,x.2.2.2.2.2.2.2.2.2.2.2.2.2.2.2.2.2.2.2.2.2.1,x.2.2.2.2.2.2.2.1⟩,x.2.2.2.2.2.2.2.2.2.2.2.2.2.2.2.2.2.2.2.2.2.2.1,x.2.2.2.2.2.2.2.2.1⟩,x.2.2.2.2.2.2.2.2.2.1,x.2.2.2.2.2.2.2.2.2.2.1,x.2.2.2.2.2.2.2.2.2.2.2.1,⟨x.2.2.2.2.2.2.2.2.2.2.2.2.2.2.2.2.2.2.2.2.2.2.2,x.2.2.2.2.2.2.2.2.2.2.2.2.1,x.2.2.2.2.2.2.2.2.2.2.2.2.2.1,x.2.2.2.2.2.2.2.2.2.2.2.2.2.2.1,x.2.2.2.2.2.2.2.2.2.2.2.2.2.2.2.1,x.2.2.2.2.2.2.2.2.2.2.2.2.2.2.2.2.1,x.2.2.2.2.2.2.2.2.2.2.2.2.2.2.2.2.2.1⟩⟩
theorem aFg {X : Type} {f : dO → X} {C : Int} {c : Nat → Int} {step : Int × X → Option ((Int × X) ⊕ X)} (N : Nat) (hN : N < 1180591620717411303424) (hS : ∀ (j : Nat) s,j < N → zX s.Dial → s.Clock = C → step (c (j + 1),f s) = some (.inl (c j,f (aIf s)))) (hE : ∀ s,s.Clock = C → step (c 0,f s) = some (.inr (f s))) {s : dO} (hp : zX s.Dial) (hC : s.Clock = C) : cM step (c N,f s) = some (f (aM8 N s)) := by
 have key : ∀ (n m : Nat) (s : dO),n < m → n ≤ N → zX s.Dial → s.Clock = C → tH step m (c n,f s) = some (f (aM8 n s)) := by
  intro n
  induction n with
  | zero =>
   intro m s hm _ _ hC
   cases m with
   | zero => omega
   | succ m => simp only [tH,hE s hC]; rfl
  | succ n ih =>
   intro m s hm hn hp hC
   cases m with
   | zero => omega
   | succ m =>
    simp only [tH,hS n s (by omega) hp hC]
    exact ih m (aIf s) (by omega) (by omega) (aCo hp) hC
 exact key N aB9 s hN (Nat.le_refl _) hp hC
def wH (s : dO) (k : Int) : dO := ⟨s.Movement,s.Start,s.First,k,s.Dial⟩
def fS (s : dO) (k : Int) : Nat := ((s.Clock + k) / 86400 - s.Clock / 86400).toNat
def aUc (st : Int × aFe) : Option ((Int × aFe) ⊕ aFe) := if 0 < st.1 then (dQ (unS st.2)).bind fun v => some (.inl (w64 (st.1 - 1),aAh v)) else some (.inr st.2)
def aUb (st : Int × aFe) : Option ((Int × aFe) ⊕ aFe) := if st.1 < w64 ((unS st.2).Clock.tdiv 86400) then (eW (unS st.2)).bind fun v => some (.inl (w64 (st.1 + 1),aAh v)) else some (.inr st.2)
theorem aKd (s : dO) (k : Int) : qP s k = (gM s).bind fun v1 => if (!v1) = true then some (aDg,0,1) else ((cK k 0 3000000).bind fun v2 => if (!v2) = true then some true else some (decide (1000000000 < w64 (s.Clock + k)))).bind fun v3 => if v3 = true then some (aDg,0,2) else
  (kO s).bind fun v4 => (cM aUc (w64 (w64 ((w64 (v4.Clock + k)).tdiv 86400) - w64 (s.Clock.tdiv 86400)),aAh (wH v4 (w64 (v4.Clock + k))))).bind fun v11 => (jM (unS v11).Movement.Strike s.Clock (unS v11).Clock).bind fun v12 => some (unS v11,v12.1,0) := rfl
theorem aKf (s : dO) (k : Int) : qR s k = (pC s).bind fun v1 => if (!v1) = true then some (aDg,0,1) else ((cN k 0 3000000).bind fun v2 => if (!v2) = true then some true else some (decide (1000000000 < w64 (s.Clock + k)))).bind fun v3 => if v3 = true then some (aDg,0,2) else
  (oJ s).bind fun v4 => (cM aUb (w64 (s.Clock.tdiv 86400),aAh (wH v4 (w64 (v4.Clock + k))))).bind fun v12 => (hU s.Movement.Strike s.Clock (unS v12).Clock).bind fun v13 => some (unS v12,v13.1,0) := rfl
theorem aIk : ∀ (n : Nat) (s : dO),(aM8 n s).Clock = s.Clock ∧ (aM8 n s).Movement = s.Movement
 | 0,_ => ⟨rfl,rfl⟩
 | n + 1,s => aIk n (aIf s)
end Go.Proofs.YtgcdbbidmfdonaaGreat
namespace Go.Proofs.YtgcdbbidmfdonaaGreat
set_option linter.unusedVariables false
theorem aFy {p : aC} : aEc p = true ↔ aEa p.Cam = true ∧ 1 ≤ p.Months ∧ (p.Cam.length : Int) % p.Months = 0 ∧ p.Teeth ≤ 60 ∧ (∀ v ∈ p.Cam,v ≤ p.Teeth) ∧ (0 ≤ p.At ∧ p.At < p.Cam.length) ∧ (1 ≤ p.Day ∧ p.Day ≤ p.Teeth) ∧ (1 ≤ p.Week ∧ p.Week ≤ 12) ∧ (1 ≤ p.Weekday ∧ p.Weekday ≤ p.Week) := by
 unfold aEc btw
 simp only [Bool.and_eq_true,decide_eq_true_eq,List.all_eq_true]
def zH (p q : aC) : Prop := q.Cam = p.Cam ∧ q.Months = p.Months ∧ q.Teeth = p.Teeth ∧ q.Week = p.Week
theorem zH.refl (p : aC) : zH p p := ⟨rfl,rfl,rfl,rfl⟩
theorem zH.trans {p q r : aC} (h : zH p q) (k : zH q r) : zH p r := ⟨k.1.trans h.1,k.2.1.trans h.2.1,k.2.2.1.trans h.2.2.1,k.2.2.2.trans h.2.2.2⟩
theorem aNn {p q : aC} (h : aEc p = true) (k : zH p q) (i : zX q) : aEc q = true := by
 obtain ⟨h1,h2,h3,h4,h5,_,_,h8,_⟩ := aFy.1 h
 obtain ⟨k1,k2,k3,k4⟩ := k
 obtain ⟨⟨a1,a2,_⟩,⟨b1,b2,_⟩,_,d1,d2⟩ := i
 refine aFy.2 ⟨?_,?_,?_,?_,?_,⟨a1,a2⟩,⟨b1,b2⟩,?_,d1,d2⟩
 ·rw [k1]; exact h1
 ·rw [k2]; exact h2
 ·rw [k1,k2]; exact h3
 ·rw [k3]; exact h4
 ·rw [k1,k3]; exact h5
 ·rw [k4]; exact h8
theorem aI7 (p : aC) (n : Int) : zH p (pD p n) := by unfold pD; split <;> exact ⟨rfl,rfl,rfl,rfl⟩
theorem aMs (p : aC) : zH p (aBs p) := ⟨rfl,rfl,rfl,rfl⟩
theorem aIi (p : aC) : zH p (aAr p) := ⟨rfl,rfl,rfl,rfl⟩
theorem aFo (p : aC) : zH p (qI p) := (aI7 p _).trans (aIi _)
def kF : Nat → aC → aC
 | 0,p => p
 | n + 1,p => kF n (qI p)
theorem aGq : ∀ (n : Nat) {p : aC},zX p → zX (kF n p)
 | 0,_,h => h
 | n + 1,_,h => aGq n (aCo h)
theorem uX : ∀ (n : Nat) (p : aC),zH p (kF n p)
 | 0,p => .refl p
 | n + 1,p => (aFo p).trans (uX n _)
theorem aAu : ∀ (m n : Nat) (p : aC),kF (m + n) p = kF n (kF m p)
 | 0,n,p => by rw [Nat.zero_add]; rfl
 | m + 1,n,p => by rw [show m + 1 + n = (m + n) + 1 by omega]; exact aAu m n (qI p)
theorem tZ (n : Nat) (p : aC) : kF (n + 1) p = qI (kF n p) := aAu n 1 p
theorem aHh : ∀ (n : Nat) (s : dO),aM8 n s = xQ s (kF n s.Dial)
 | 0,s => rfl
 | n + 1,s => aHh n (aIf s)
def atS (s : dO) (c : Int) (p : aC) : dO := ⟨s.Movement,s.Start,s.First,c,p⟩
theorem aPh {s : dO} (h : aAg s = true) {c : Int} {p : aC} (h0 : 0 ≤ c) (h1 : c ≤ 1000000000) (k : zH s.Dial p) (i : zX p) : aAg (atS s c p) = true := by
 have hp := aNn (uJ h) k i
 obtain ⟨k1,k2,k3,k4⟩ := k
 unfold aAg at h ⊢
 simp only [Bool.and_eq_true,decide_eq_true_eq] at h ⊢
 obtain ⟨g1,g2,g3,g4,g5,g6,g7,g8,g9⟩ := h
 exact ⟨g1,g2,g3,decide_eq_true ⟨h0,h1⟩,hp,k1.trans g6,k2.trans g7,k3.trans g8,k4.trans g9⟩
theorem aRf {s : dO} (h : qH s) {c : Int} {p : aC} (hp : p.Cam.length ≤ 1048576) : qH (atS s c p) := by
 obtain ⟨h1,h2,h3,h4,h5⟩ := h
 exact ⟨h1,h2,h3,h4,⟨hp,fun _ _ => trivial⟩,trivial,trivial,trivial,trivial,trivial,trivial⟩
def vL (s : dO) (k : Int) : dO := atS s (s.Clock + k) (kF (fS s k) s.Dial)
theorem aSs (s : dO) (k : Int) : aM8 (fS s k) (wH s (s.Clock + k)) = vL s k := aHh _ _
theorem aAz {s : dO} (h : qH s) (k : Int) : qH (vL s k) := aRf h (by rw [(uX _ _).1]; exact h.2.2.2.2.1.1)
theorem aEz {s : dO} (h : aAg s = true) {k : Int} (h0 : 0 ≤ k) (h1 : s.Clock + k ≤ 1000000000) : aAg (vL s k) = true := by
 have hc := (uR h).2.2.2.1
 exact aPh h (by omega) h1 (uX _ _) (aGq _ (vY (uJ h)))
theorem aLv {s : dO} (hc : 0 ≤ s.Clock) {a b : Int} (ha : 0 ≤ a) (hb : 0 ≤ b) : vL (vL s a) b = vL s (a + b) := by
 have q1 : s.Clock / 86400 ≤ (s.Clock + a) / 86400 := Int.ediv_le_ediv (by omega) (by omega)
 have q2 : (s.Clock + a) / 86400 ≤ (s.Clock + a + b) / 86400 := Int.ediv_le_ediv (by omega) (by omega)
 have e : fS s (a + b) = fS s a + fS (vL s a) b := by
  have e1 : (vL s a).Clock = s.Clock + a := rfl
  unfold fS
  rw [e1, ← Int.add_assoc]
  omega
 have e2 : (vL s a).Clock + b = s.Clock + (a + b) := by show s.Clock + a + b = _; omega
 have e3 : kF (fS (vL s a) b) (vL s a).Dial = kF (fS s (a + b)) s.Dial := by rw [e,aAu]; rfl
 show atS (vL s a) ((vL s a).Clock + b) (kF (fS (vL s a) b) (vL s a).Dial) = _
 rw [e2,e3]; rfl
def aCp (h : Int) : Int := h / 12 * 78 + h % 12 * (h % 12 + 1) / 2
def aOd (st a b : Int) : Int := if st = 0 then 0 else aCp (b / 3600) - aCp (a / 3600)
theorem aCz {h : Int} (h0 : 0 ≤ h) (h1 : h ≤ 300000) : 0 ≤ aCp h ∧ aCp h ≤ 78 * 25000 + 66 := by
 unfold aCp
 have hr := Int.emod_nonneg h (show (12 : Int) ≠ 0 by omega)
 have hl := Int.emod_lt_of_pos h (show (0 : Int) < 12 by omega)
 have hp : 0 ≤ h % 12 * (h % 12 + 1) ∧ h % 12 * (h % 12 + 1) ≤ 11 * 12 := ⟨Int.mul_nonneg hr (by omega),Int.mul_le_mul (by omega) (by omega) (by omega) (by omega)⟩
 omega
theorem zF {h : Int} (h0 : 0 ≤ h) (h1 : h ≤ 300000) : mQ h = some (aCp h) := by
 have hr := Int.emod_nonneg h (show (12 : Int) ≠ 0 by omega)
 have hl := Int.emod_lt_of_pos h (show (0 : Int) < 12 by omega)
 have hp : 0 ≤ h % 12 * (h % 12 + 1) ∧ h % 12 * (h % 12 + 1) ≤ 11 * 12 := ⟨Int.mul_nonneg hr (by omega),Int.mul_le_mul (by omega) (by omega) (by omega) (by omega)⟩
 have hq := aCz h0 h1
 unfold mQ
 rw [Int.tdiv_eq_ediv_of_nonneg h0,Int.tmod_eq_emod_of_nonneg h0,aT (x := h / 12) (by omega) (by omega),aT (x := h / 12 * 78) (by omega) (by omega),aT (x := h % 12 + 1) (by omega) (by omega),aT (x := h % 12 * (h % 12 + 1)) (by omega) (by omega),Int.tdiv_eq_ediv_of_nonneg hp.1,aT (x := h % 12 * (h % 12 + 1) / 2) (by omega) (by omega)]
 unfold aCp at hq ⊢
 rw [aT (by omega) (by omega)]
theorem aM5 {st a b : Int} (hs : 0 ≤ st ∧ st ≤ 2) (h0 : 0 ≤ a) (h1 : a ≤ b) (h2 : b ≤ 1000000000) : hU st a b = some (aOd st a b,0) := by
 have e1 : btw st 0 2 = true := decide_eq_true hs
 have e2 : btw a 0 b = true := decide_eq_true ⟨h0,h1⟩
 have ha := aCz (h := a / 3600) (by omega) (by omega)
 have hb := aCz (h := b / 3600) (by omega) (by omega)
 unfold hU aOd
 simp only [dZ,Option.bind_some,e1,e2,Bool.not_true,Bool.false_eq_true,if_false]
 rw [Int.tdiv_eq_ediv_of_nonneg (show 0 ≤ b by omega),Int.tdiv_eq_ediv_of_nonneg h0,aT (x := b / 3600) (by omega) (by omega),aT (x := a / 3600) (by omega) (by omega),zF (by omega) (by omega),zF (by omega) (by omega)]
 have h3 : decide (1000000000 < b) = false := decide_eq_false (by omega)
 simp only [h3,Bool.false_eq_true,if_false,Option.bind_some]
 by_cases h : st = 0
 ·rw [if_pos h,if_pos h]
 ·rw [if_neg h,if_neg h,aT (by omega) (by omega)]
theorem aDr {m : aX} (h : vM m = true) : 0 ≤ m.Strike ∧ m.Strike ≤ 2 := by
 unfold vM at h
 simp only [Bool.and_eq_true] at h
 exact of_decide_eq_true h.2.2.2.2.2.2.2.2.2
theorem aOh {s : dO} (h : qH s) (hb : aAg s = true) {k : Int} (k0 : 0 ≤ k) (k1 : k ≤ 3000000) (k2 : s.Clock + k ≤ 1000000000) : qR s k = some (vL s k,aOd s.Movement.Strike s.Clock (s.Clock + k),0) ∧ qP s k = some (vL s k,aOd s.Movement.Strike s.Clock (s.Clock + k),0) := by
 rw [aKf,aKd,aAp h,qK h,Option.bind_some,Option.bind_some]
 rw [hb]
 simp only [dZ,eF,Option.bind_some,Bool.not_true,Bool.false_eq_true,if_false,aCv h,vW h]
 have h1 : btw k 0 3000000 = true := decide_eq_true ⟨k0,k1⟩
 obtain ⟨hc,hd,hf,hw,hk,hpb⟩ := yY hb
 have hp := vY hpb
 rw [h1,aT (x := s.Clock + k) (by omega) (by omega)]
 simp only [Bool.not_true,Bool.false_eq_true,if_false,Option.bind_some]
 have h2 : ¬ 1000000000 < s.Clock + k := by omega
 have q1 := tM (a := s.Clock) (g := 86400) hk.1 (by omega)
 have q2 := tM (a := s.Clock + k) (g := 86400) (by omega) (by omega)
 have q3 : s.Clock / 86400 ≤ (s.Clock + k) / 86400 := Int.ediv_le_ediv (by omega) (by omega)
 have e1 : s.Clock.tdiv 86400 = s.Clock / 86400 := Int.tdiv_eq_ediv_of_nonneg hk.1
 have e2 : (s.Clock + k).tdiv 86400 = (s.Clock + k) / 86400 := Int.tdiv_eq_ediv_of_nonneg (by omega)
 have w1 : w64 (s.Clock / 86400) = s.Clock / 86400 := aT (by omega) (by omega)
 have w2 : w64 ((s.Clock + k) / 86400) = (s.Clock + k) / 86400 := aT (by omega) (by omega)
 have hN : ((fS s k : Nat) : Int) = (s.Clock + k) / 86400 - s.Clock / 86400 := by unfold fS; omega
 have L1 : cM aUc ((fS s k : Nat),aAh (wH s (s.Clock + k))) = some (aAh (aM8 (fS s k) (wH s (s.Clock + k)))) := by
  refine aFg (f := aAh) (C := s.Clock + k) (c := fun j => (j : Int)) (fS s k) (by omega) (fun j u hj hu hc => ?_) (fun u hc => ?_) hp rfl
  ·show (if 0 < ((j + 1 : Nat) : Int) then (dQ u).bind fun v => some (.inl (w64 (((j + 1 : Nat) : Int) - 1),aAh v)) else some (.inr (aAh u)) : Option ((Int × aFe) ⊕ aFe)) = _
   rw [if_pos (by omega),aGn hu,Option.bind_some,aT (by omega) (by omega),show ((j + 1 : Nat) : Int) - 1 = (j : Int) by omega]; rfl
  ·rfl
 have L2 : cM aUb (s.Clock / 86400,aAh (wH s (s.Clock + k))) = some (aAh (aM8 (fS s k) (wH s (s.Clock + k)))) := by
  have e0 : s.Clock / 86400 = (s.Clock + k) / 86400 - ((fS s k : Nat) : Int) := by omega
  rw [e0]
  refine aFg (f := aAh) (C := s.Clock + k) (c := fun j => (s.Clock + k) / 86400 - (j : Int)) (fS s k) (by omega) (fun j u hj hu hc => ?_) (fun u hc => ?_) hp rfl
  ·show (if (s.Clock + k) / 86400 - ((j + 1 : Nat) : Int) < w64 (u.Clock.tdiv 86400) then (eW u).bind fun v => some (.inl (w64 ((s.Clock + k) / 86400 - ((j + 1 : Nat) : Int) + 1),aAh v)) else some (.inr (aAh u)) : Option ((Int × aFe) ⊕ aFe)) = _
   rw [hc,e2,w2,if_pos (by omega),aGh hu,Option.bind_some,aT (by omega) (by omega),show (s.Clock + k) / 86400 - ((j + 1 : Nat) : Int) + 1 = (s.Clock + k) / 86400 - (j : Int) by omega]; rfl
  ·show (if (s.Clock + k) / 86400 - ((0 : Nat) : Int) < w64 (u.Clock.tdiv 86400) then (eW u).bind fun v => some (.inl (w64 ((s.Clock + k) / 86400 - ((0 : Nat) : Int) + 1),aAh v)) else some (.inr (aAh u)) : Option ((Int × aFe) ⊕ aFe)) = _
   rw [hc,e2,w2,if_neg (by omega)]
 have hv := aM5 (aDr (uR hb).1) hk.1 (b := s.Clock + k) (by omega) k2
 have hiv : jM s.Movement.Strike s.Clock (s.Clock + k) = some (aOd s.Movement.Strike s.Clock (s.Clock + k),0) := hv
 have kp := aIk (fS s k) (wH s (s.Clock + k))
 have u1 : (unS (aAh (aM8 (fS s k) (wH s (s.Clock + k))))).Clock = s.Clock + k := kp.1
 have u2 : (unS (aAh (aM8 (fS s k) (wH s (s.Clock + k))))).Movement.Strike = s.Movement.Strike := by
  show (aM8 (fS s k) (wH s (s.Clock + k))).Movement.Strike = _
  rw [kp.2]; rfl
 simp only [decide_eq_false h2,Bool.false_eq_true,if_false,e1,e2,w1,w2]
 rw [aT (x := _ - _) (by omega) (by omega), ← hN,L1,L2,Option.bind_some,Option.bind_some,u1,u2,hv,hiv, ← aSs]
 exact ⟨rfl,rfl⟩
theorem aJ7 {ms : List bP} : ∀ {t : Int},t ≤ ms.foldl tI t ∧ (∀ m ∈ ms,m.Days ≤ ms.foldl tI t ∧ m.Leap ≤ ms.foldl tI t) ∧ (t ≤ 60 → (∀ m ∈ ms,m.Days ≤ 60 ∧ m.Leap ≤ 60) → ms.foldl tI t ≤ 60) := by
 induction ms with
 | nil => intro t; exact ⟨by simp,fun m hm => by simp at hm,fun h _ => h⟩
 | cons m ms ih =>
  intro t
  rw [List.foldl_cons]
  obtain ⟨h1,h2,h3⟩ := ih (t := tI t m)
  have e : tI t m = max (max t m.Days) m.Leap := rfl
  refine ⟨by omega,fun n hn => ?_,fun h0 hm => ?_⟩
  ·rcases List.mem_cons.1 hn with rfl | hn
   ·omega
   ·exact h2 n hn
  ·have := hm m (List.mem_cons_self ..)
   exact h3 (by omega) fun n hn => hm n (List.mem_cons_of_mem _ hn)
theorem aHj {c : aA} {cam : List Int} (hc : mV c = true) (hm : aEa cam = true) : (∀ v ∈ cam,v ≤ wT c cam) ∧ (∀ m ∈ c.Months,m.Days ≤ wT c cam ∧ m.Leap ≤ wT c cam) ∧ wT c cam ≤ 60 := by
 obtain ⟨h1,h2,h3⟩ := lB hm
 have g := vT (xs := cam) (a := 0)
 have hx : aMl cam ≤ 60 := by
  rcases g.2.2 with e | e
  ·show cam.foldl max 0 ≤ 60; rw [e]; decide
  ·exact (h1 _ e).2
 obtain ⟨t1,t2,t3⟩ := aJ7 (ms := c.Months) (t := aMl cam)
 refine ⟨fun v hv => ?_,t2,t3 hx fun m hm => ?_⟩
 ·have : v ≤ aMl cam := g.2.1 v hv
  exact Int.le_trans this t1
 ·have := aIz hc hm; omega
def lK (c : aA) (cam : List Int) (y m : Int) : Int := y % ((cam.length : Int) / c.Months.length) * c.Months.length + m - 1
theorem aOr {c : aA} {cam : List Int} (ha : vI c cam = 0) : (cam.length : Int) / c.Months.length * c.Months.length = cam.length := by
 obtain ⟨_,_,h,_⟩ := kE ha
 exact Int.ediv_mul_cancel (Int.dvd_of_emod_eq_zero h)
theorem uI {c : aA} {cam : List Int} (ha : vI c cam = 0) {y m : Int} (h1 : 1 ≤ m) (h2 : m ≤ c.Months.length) : 0 ≤ lK c cam y m ∧ lK c cam y m < cam.length ∧ 0 ≤ y % ((cam.length : Int) / c.Months.length) * c.Months.length ∧ y % ((cam.length : Int) / c.Months.length) * c.Months.length ≤ cam.length - c.Months.length ∧ lK c cam y m % c.Months.length = m - 1 := by
 obtain ⟨_,_,h,k1,k2⟩ := kE ha
 have e := aOr ha
 unfold lK
 have a1 := Int.emod_nonneg y (show (cam.length : Int) / c.Months.length ≠ 0 by omega)
 have a2 := Int.emod_lt_of_pos y (show 0 < (cam.length : Int) / c.Months.length by omega)
 generalize y % ((cam.length : Int) / c.Months.length) = q at *
 generalize (cam.length : Int) / c.Months.length = k at *
 have b1 : 0 ≤ q * (c.Months.length : Int) := Int.mul_nonneg a1 (by omega)
 have b2 : q * (c.Months.length : Int) ≤ (k - 1) * c.Months.length := Int.mul_le_mul_of_nonneg_right (by omega) (by omega)
 rw [Int.sub_mul,e] at b2
 refine ⟨by omega,by omega,b1,by omega,?_⟩
 rw [show q * (c.Months.length : Int) + m - 1 = (m - 1) + q * (c.Months.length : Int) by omega,Int.add_mul_emod_self_right]
 exact Int.emod_eq_of_lt (by omega) (by omega)
def aFp (c : aA) (cam : List Int) (d : bQ) (wd : Int) : aC := ⟨cam,c.Months.length,wT c cam,lK c cam d.Year d.Month,d.Day,c.Week,wd⟩
theorem aOe {c : aA} {cam : List Int} {d : bQ} {wd : Int} (ha : vI c cam = 0) (hd : gK c d = true) (h1 : 1 ≤ wd) (h2 : wd ≤ c.Week) : aA7 c cam d wd = (aFp c cam d wd,0) := by
 obtain ⟨hc,hm,_⟩ := kE ha
 obtain ⟨g1,g2,g3⟩ := eO.1 hd
 obtain ⟨n1,n2,n3,n4,_⟩ := uI ha (y := d.Year) g2.1 g2.2
 have hl := (lB hm).2.2
 have hw : btw wd 1 c.Week = true := decide_eq_true ⟨h1,h2⟩
 unfold aA7 aFp lK
 rw [if_pos ha,hd,hw,Bool.and_self,if_pos rfl,Int.tmod_eq_emod_of_nonneg g1.1,aT (x := _ * _) (by omega) (by omega),aT (x := _ + _) (by omega) (by omega),aT (x := _ - _) (by omega) (by omega)]
theorem aNi {c : aA} {cam : List Int} {d : bQ} {wd : Int} (ha : vI c cam = 0) (hd : gK c d = true) (h1 : 1 ≤ wd) (h2 : wd ≤ c.Week) : zX (aFp c cam d wd) ∧ aEc (aFp c cam d wd) = true := by
 obtain ⟨hc,hm,hz,_⟩ := kE ha
 obtain ⟨g1,g2,g3⟩ := eO.1 hd
 obtain ⟨n1,n2,n3,n4,_⟩ := uI ha (y := d.Year) g2.1 g2.2
 have hl := (lB hm).2.2
 obtain ⟨t1,t2,t3⟩ := aHj hc hm
 obtain ⟨_,m1,_,m2,_⟩ := dT hc
 have hq : nX c (fR c d.Year) (d.Month - 1) ≤ wT c cam := by
  have := t2 _ (sH (c := c) (k := d.Month - 1) (by omega) (by omega)).2
  unfold nX
  split
  ·exact this.2
  ·exact this.1
 refine ⟨⟨⟨n1,n2,hl⟩,⟨g3.1,by show d.Day ≤ wT c cam; omega,t3⟩,m2,h1,h2⟩,aFy.2 ⟨hm,by show (1 : Int) ≤ c.Months.length; omega,hz,t3,t1,⟨n1,n2⟩,⟨g3.1,by show d.Day ≤ wT c cam; omega⟩,m2,h1,h2⟩⟩
theorem aS1 {s : dO} (h : qH s) (hb : aAg s = true) {k : Int} (k0 : 1 ≤ k) (k1 : k ≤ 3) : ∃ p,yI s k = some (atS s s.Clock p,0) ∧ mF s k = some (atS s s.Clock p,0) ∧ zH s.Dial p ∧ zX p := by
 have hp := vY (uJ hb)
 rw [aI6 h,aH3 h]
 unfold aN7
 rw [if_pos hb]
 have hb := hp.2.1
 by_cases h1 : k = 1
 ·rw [if_pos h1]; exact ⟨pD s.Dial 1,rfl,rfl,aI7 _ _,aDb hp (by omega) (by omega)⟩
 ·rw [if_neg h1]
  by_cases h2 : k = 2
  ·rw [if_pos h2]; exact ⟨aBs s.Dial,rfl,rfl,aMs _,aQy hp⟩
  ·rw [if_neg h2,if_pos (by omega)]; exact ⟨aAr s.Dial,rfl,rfl,aIi _,aPa hp⟩
theorem aTn {s : dO} (h : qH s) (hb : aAg s = true) : ∃ r,aRo s r ∧ pZ s = some (match r with
  | some d => (d,0)
  | none => (⟨0,0,0⟩,2)) ∧ yB s = some (aTx s r) := by
 obtain ⟨c1,c2,c3⟩ := smC h.1
 obtain ⟨a,a1,a2⟩ := yV h hb
 refine ⟨a,a1,?_⟩
 unfold pZ yB aTx
 rw [qK h,Option.bind_some,hb,a2]
 cases a with
 | none => exact ⟨rfl,rfl⟩
 | some d =>
  have hz := aQ7 hb a1
  simp only [Bool.not_true,Bool.false_eq_true,if_false,Option.bind_some,if_true,vW h,tB (c := s.Movement.Calendar) (cam := s.Movement.Cam) (by omega) (by omega) c3,ne_eq,not_true_eq_false,hz]
  refine ⟨?_,?_⟩ <;> first | trivial | rfl
theorem aFf {s : dO} (h : qH s) (hb : aAg s = true) {d : bQ} (hd : aRo s (some d)) : iF s = some (decide (s.Dial.Day = d.Day ∧ s.Dial.At % s.Dial.Months + 1 = d.Month) && decide (s.Dial.Weekday = wdR s)) := by
 have hp := vY (uJ hb)
 have hm := aJ8 (uJ hb)
 obtain ⟨a,a1,a2⟩ := yV h hb
 have := aQh hb a1 hd
 subst this
 unfold iF
 rw [qK h,Option.bind_some,hb,a2]
 simp only [Bool.not_true,Bool.false_eq_true,if_false,Option.bind_some,if_true]
 unfold pE lR
 rw [gA (by omega),Int.tmod_eq_emod_of_nonneg hp.1.1]
 have hr := Int.emod_nonneg s.Dial.At (show s.Dial.Months ≠ 0 by omega)
 have hr2 : s.Dial.At % s.Dial.Months ≤ s.Dial.At := by
  by_cases q : s.Dial.At < s.Dial.Months
  ·rw [Int.emod_eq_of_lt hp.1.1 q]; omega
  ·have := Int.emod_lt_of_pos s.Dial.At (show 0 < s.Dial.Months by omega); omega
 have hl := hp.1
 rw [aT (by omega) (by omega)]
 by_cases e1 : s.Dial.Day = d.Day <;> by_cases e2 : s.Dial.At % s.Dial.Months + 1 = d.Month <;> simp [e1,e2]
end Go.Proofs.YtgcdbbidmfdonaaGreat
namespace Go.Proofs.YtgcdbbidmfdonaaGreat
set_option linter.unusedVariables false
def xR (c : aA) (d : bQ) : bQ := if d.Day < nX c (fR c d.Year) (d.Month - 1) then ⟨d.Year,d.Month,d.Day + 1⟩ else if d.Month < c.Months.length then ⟨d.Year,d.Month + 1,1⟩ else ⟨d.Year + 1,1,1⟩
def aB2 (c : aA) : Nat → bQ → bQ
 | 0,d => d
 | n + 1,d => xR c (aB2 c n d)
theorem aLf {c : aA} (hc : mV c = true) {d : bQ} (hd : gK c d = true) : (d.Year ≤ (xR c d).Year ∧ (xR c d).Year ≤ d.Year + 1) ∧ nW c (xR c d) = nW c d + 1 ∧ ((xR c d).Year ≤ 9999 → gK c (xR c d) = true) := by
 obtain ⟨⟨y0,y1⟩,⟨m0,m1⟩,⟨d0,d1⟩⟩ := eO.1 hd
 have hm := (dT hc).2.1
 unfold xR
 by_cases h1 : d.Day < nX c (fR c d.Year) (d.Month - 1)
 ·rw [if_pos h1]
  refine ⟨⟨Int.le_refl _,by dsimp only; omega⟩,?_,fun _ => eO.2 ⟨⟨y0,y1⟩,⟨m0,m1⟩,by dsimp only; omega⟩⟩
  unfold nW
  dsimp only
  omega
 ·rw [if_neg h1]
  have e : d.Day = nX c (fR c d.Year) (d.Month - 1) := by omega
  have es := tR c d.Year (d.Month - 1).toNat
  have en : (((d.Month - 1).toNat : Nat) : Int) = d.Month - 1 := by omega
  rw [en] at es
  by_cases h2 : d.Month < c.Months.length
  ·rw [if_pos h2]
   have hl := oC hc (fR c d.Year) (k := d.Month + 1 - 1) (by omega) (by omega)
   refine ⟨⟨Int.le_refl _,by dsimp only; omega⟩,?_,fun _ => eO.2 ⟨⟨y0,y1⟩,⟨by dsimp only; omega,by dsimp only; omega⟩,by dsimp only; omega⟩⟩
   unfold nW
   dsimp only
   rw [show (d.Month + 1 - 1).toNat = (d.Month - 1).toNat + 1 by omega,es]
   omega
  ·rw [if_neg h2]
   have hl := oC hc (fR c (d.Year + 1)) (k := 1 - 1) (by omega) (by omega)
   refine ⟨⟨by dsimp only; omega,Int.le_refl _⟩,?_,fun hy => eO.2 ⟨⟨by dsimp only; omega,hy⟩,⟨by dsimp only; omega,by dsimp only; omega⟩,by dsimp only; omega⟩⟩
   have ea := aCj (c := c) d.Year y0
   rw [show c.Months.length = (d.Month - 1).toNat + 1 by omega,es] at ea
   have eb := aCi c d.Year.toNat
   unfold nW
   dsimp only
   rw [show (d.Year + 1).toNat = d.Year.toNat + 1 by omega,eb]
   have e0 : aGp c (d.Year + 1) (1 - 1 : Int).toNat = 0 := rfl
   rw [e0]
   omega
theorem aIy {c : aA} (hc : mV c = true) {a b : bQ} (ha : gK c a = true) (hb : gK c b = true) (h : nW c a ≤ nW c b) : a.Year ≤ b.Year := by
 refine Classical.byContradiction fun hn => ?_
 obtain ⟨⟨y0,y1⟩,⟨m0,m1⟩,⟨d0,d1⟩⟩ := eO.1 ha
 obtain ⟨⟨y2,y3⟩,⟨m2,m3⟩,⟨d2,d3⟩⟩ := eO.1 hb
 have hm := (dT hc).2.1
 have e1 := aCm hc (m := b.Year.toNat + 1) (n := a.Year.toNat) (by omega)
 rw [aCi] at e1
 have es := tR c b.Year (b.Month - 1).toNat
 have en : (((b.Month - 1).toNat : Nat) : Int) = b.Month - 1 := by omega
 rw [en] at es
 have e2 := rR hc b.Year (m := (b.Month - 1).toNat + 1) (n := c.Months.length) (by omega)
 rw [aCj b.Year y2,es] at e2
 have e3 : 0 ≤ aGp c a.Year (a.Month - 1).toNat := rR hc a.Year (m := 0) (n := (a.Month - 1).toNat) (by omega)
 unfold nW at h
 omega
theorem aGu {c : aA} (hc : mV c = true) {d : bQ} (hd : gK c d = true) : ∀ n : Nat,nW c d + n < aGe c → gK c (aB2 c n d) = true ∧ nW c (aB2 c n d) = nW c d + n
 | 0,_ => ⟨hd,by show nW c d = _; simp⟩
 | n + 1,h => by
  obtain ⟨h1,h2⟩ := aGu hc hd n (by omega)
  obtain ⟨_,e,k⟩ := aLf hc h1
  have hy : (xR c (aB2 c n d)).Year ≤ 9999 := by
   refine Classical.byContradiction fun hn => ?_
   obtain ⟨⟨y0,y1⟩,_⟩ := eO.1 h1
   have en : xR c (aB2 c n d) = ⟨(aB2 c n d).Year + 1,1,1⟩ := by
    unfold xR at hn ⊢
    split at hn
    ·dsimp only at hn; omega
    ·split at hn
     ·dsimp only at hn; omega
     ·rename_i a1 a2; rw [if_neg a1,if_neg a2]
   rw [en] at e hn
   dsimp only at hn
   have et : ((aB2 c n d).Year + 1).toNat = yrs c := by rw [aC8]; omega
   have e' : nW c ⟨(aB2 c n d).Year + 1,1,1⟩ = bef c (yrs c) := by
    unfold nW
    have e0 : aGp c ((aB2 c n d).Year + 1) (1 - 1 : Int).toNat = 0 := rfl
    dsimp only
    rw [e0,et]; omega
   rw [e'] at e
   unfold aGe at h
   push_cast at h
   omega
  exact ⟨k hy,by show nW c (xR c (aB2 c n d)) = _; rw [e,h2]; push_cast; omega⟩
def aFm (c : aA) (cam : List Int) (p : aC) (d : bQ) : Prop := p.Cam = cam ∧ p.Months = c.Months.length ∧ p.At = lK c cam d.Year d.Month ∧ p.Day = d.Day ∧ p.Teeth = wT c cam
theorem aL3 {c : aA} {cam : List Int} (ha : vI c cam = 0) {y : Int} (hy : 0 ≤ y) : lK c cam (y + 1) 1 = (lK c cam y c.Months.length + 1) % cam.length := by
 obtain ⟨hc,hm,h,k1,k2⟩ := kE ha
 have e := aOr ha
 have hl := (lB hm).2.1
 have hq := (dT hc).2.1
 unfold lK
 have a1 := Int.emod_nonneg y (show (cam.length : Int) / c.Months.length ≠ 0 by omega)
 have a2 := Int.emod_lt_of_pos y (show 0 < (cam.length : Int) / c.Months.length by omega)
 have a3 : (y + 1) % ((cam.length : Int) / c.Months.length) = (y % ((cam.length : Int) / c.Months.length) + 1) % ((cam.length : Int) / c.Months.length) := (Int.emod_add_emod y _ 1).symm
 rw [a3]
 generalize y % ((cam.length : Int) / c.Months.length) = q at *
 generalize (cam.length : Int) / c.Months.length = k at *
 have e2 : q * (c.Months.length : Int) + c.Months.length = (q + 1) * c.Months.length := by rw [Int.add_mul]; omega
 by_cases hk : q + 1 = k
 ·rw [hk,Int.emod_self]
  rw [hk] at e2
  rw [show q * (c.Months.length : Int) + c.Months.length - 1 + 1 = cam.length by omega,Int.emod_self]
  omega
 ·have b2 : (q + 1) * (c.Months.length : Int) ≤ (k - 1) * c.Months.length := Int.mul_le_mul_of_nonneg_right (by omega) (by omega)
  have b1 : 0 ≤ (q + 1) * (c.Months.length : Int) := Int.mul_nonneg (by omega) (by omega)
  rw [Int.sub_mul,e] at b2
  rw [Int.emod_eq_of_lt (a := q + 1) (by omega) (by omega),Int.emod_eq_of_lt (b := (cam.length : Int)) (by omega) (by omega)]
  omega
theorem aMn {c : aA} {cam : List Int} (ha : vI c cam = 0) {d : bQ} (hd : gK c d = true) {p : aC} (hs : aFm c cam p d) (hg : cam.getD (lK c cam d.Year d.Month).toNat 0 = nX c (fR c d.Year) (d.Month - 1)) : aFm c cam (qI p) (xR c d) := by
 obtain ⟨hc,hm,h,k1,k2⟩ := kE ha
 obtain ⟨⟨y0,y1⟩,⟨m0,m1⟩,⟨d0,d1⟩⟩ := eO.1 hd
 obtain ⟨s1,s2,s3,s4,s5⟩ := hs
 obtain ⟨t1,t2,t3⟩ := aHj hc hm
 have hn := uI ha (y := d.Year) m0 m1
 have hq : nX c (fR c d.Year) (d.Month - 1) ≤ wT c cam := by
  have := t2 _ (sH (c := c) (k := d.Month - 1) (by omega) (by omega)).2
  unfold nX
  split
  ·exact this.2
  ·exact this.1
 have hst : jE p = if d.Day = nX c (fR c d.Year) (d.Month - 1) then p.Teeth + 1 - p.Day else 1 := by
  unfold jE
  rw [s1,s3,hg,s4]
 unfold qI aAr pD xR
 rw [hst]
 by_cases h1 : d.Day < nX c (fR c d.Year) (d.Month - 1)
 ·rw [if_neg (show ¬ d.Day = nX c (fR c d.Year) (d.Month - 1) by omega),if_pos h1,if_neg (by omega)]
  exact ⟨s1,s2,s3,by show p.Day + 1 = d.Day + 1; omega,s5⟩
 ·have e : d.Day = nX c (fR c d.Year) (d.Month - 1) := by omega
  rw [if_pos e,if_neg h1,if_pos (by omega)]
  have hmod : (p.At + 1).tmod p.Cam.length = (lK c cam d.Year d.Month + 1) % cam.length := by rw [s1,s3,Int.tmod_eq_emod_of_nonneg (by omega)]
  by_cases h2 : d.Month < c.Months.length
  ·rw [if_pos h2]
   refine ⟨s1,s2,?_,by dsimp only; omega,s5⟩
   show (p.At + 1).tmod p.Cam.length = lK c cam d.Year (d.Month + 1)
   have hn2 := uI ha (y := d.Year) (m := d.Month + 1) (by omega) (by omega)
   have en : lK c cam d.Year (d.Month + 1) = lK c cam d.Year d.Month + 1 := by unfold lK; omega
   rw [hmod,en,Int.emod_eq_of_lt (by omega) (by omega)]
  ·rw [if_neg h2]
   refine ⟨s1,s2,?_,by dsimp only; omega,s5⟩
   show (p.At + 1).tmod p.Cam.length = lK c cam (d.Year + 1) 1
   rw [hmod,aL3 ha y0,show d.Month = (c.Months.length : Int) by omega]
def aQt (c : aA) (cam : List Int) (a b : Int) : Prop := ∀ y m : Int,a ≤ y → y ≤ b → 1 ≤ m → m ≤ c.Months.length → cam.getD (lK c cam y m).toNat 0 = nX c (fR c y) (m - 1)
theorem zL {c : aA} {cam : List Int} (ha : vI c cam = 0) {d e : bQ} (hd : gK c d = true) (he : gK c e = true) {p : aC} (hs : aFm c cam p d) (hg : aQt c cam d.Year e.Year) : ∀ n : Nat,nW c d + n ≤ nW c e → aFm c cam (kF n p) (aB2 c n d)
 | 0,_ => hs
 | n + 1,h => by
  have hc := (kE ha).1
  have hb := aG0 hc he
  obtain ⟨h1,h2⟩ := aGu hc hd n (by omega)
  have ih := zL ha hd he hs hg n (by omega)
  rw [tZ]
  have y1 := aIy hc hd h1 (by omega)
  have y2 := aIy hc h1 he (by omega)
  obtain ⟨_,⟨m0,m1⟩,_⟩ := eO.1 h1
  exact aMn ha h1 ih (hg _ _ y1 y2 m0 m1)
theorem aLs : ∀ (n : Nat) {p : aC},zX p → (kF n p).Weekday = (p.Weekday - 1 + n) % p.Week + 1
 | 0,p,h => by
  obtain ⟨_,_,hc,d1,d2⟩ := h
  show p.Weekday = _
  rw [Int.emod_eq_of_lt (by simp; omega) (by simp; omega)]; simp
 | n + 1,p,h => by
  obtain ⟨_,_,hc,d1,d2⟩ := id h
  have e := aLs n (aCo h)
  have e1 : (qI p).Week = p.Week := (aFo p).2.2.2
  have e2 : (qI p).Weekday = p.Weekday % p.Week + 1 := by
   show (pD p (jE p)).Weekday.tmod (pD p (jE p)).Week + 1 = _
   have w1 : (pD p (jE p)).Weekday = p.Weekday := by unfold pD; split <;> rfl
   have w2 : (pD p (jE p)).Week = p.Week := by unfold pD; split <;> rfl
   rw [w1,w2,Int.tmod_eq_emod_of_nonneg (by omega)]
  show (kF n (qI p)).Weekday = _
  rw [e,e1,e2,show p.Weekday % p.Week + 1 - 1 + (n : Int) = p.Weekday % p.Week + n by omega,Int.emod_add_emod]
  congr 2
  push_cast; omega
end Go.Proofs.YtgcdbbidmfdonaaGreat
namespace Go.Proofs.YtgcdbbidmfdonaaGreat
set_option linter.unusedVariables false
set_option maxRecDepth 100000
def aPy (n : Int) : ByteArray := ⟨(Lib.itoa n).toArray⟩
theorem aOg {n : Int} (h : osI n) : (aPy n).size ≤ 21 := by
 have := Lib.itoa_length_le n h.1 h.2
 simpa [aPy,ByteArray.size] using this
def dgs (u : Nat) : List Int := if h : u = 0 then [] else dgs (u / 10) ++ [48 + ((u % 10 : Nat) : Int)]
termination_by u
decreasing_by omega
theorem zK : dgs 0 = [] := by rw [dgs,dif_pos rfl]
theorem aG3 {u : Nat} (h : u ≠ 0) : dgs u = dgs (u / 10) ++ [48 + ((u % 10 : Nat) : Int)] := by rw [dgs,dif_neg h]
theorem aRq (d : Nat) (h : d < 10) : UInt8.ofNat (48 + (d : Int)).toNat = 48 + UInt8.ofNat d := by
 rw [show (48 + (d : Int)).toNat = 48 + d by omega,UInt8.ofNat_add]
 rfl
theorem aR2 : ∀ (u : Nat),u ≠ 0 → (strOfNums (dgs u)).data.toList = Lib.decDigits u := by
 intro u
 induction u using Nat.strongRecOn with
 | _ u ih =>
  intro h
  rw [aG3 h,Lib.decDigits]
  by_cases h1 : u < 10
  ·rw [dif_pos h1,show u / 10 = 0 by omega,zK,show u % 10 = u by omega]
   simp [strOfNums]
   exact aRq u (by omega)
  ·rw [dif_neg h1, ← ih (u / 10) (by omega) (by omega)]
   simp [strOfNums]
   exact aRq (u % 10) (by omega)
theorem aKo : ∀ (k u : Nat),u < 10 ^ k → (dgs u).length ≤ k
 | 0,u,h => by
  have : u = 0 := by simpa using h
  subst this
  rw [zK]; exact Nat.le_refl _
 | k + 1,u,h => by
  by_cases h0 : u = 0
  ·subst h0; rw [zK]; exact Nat.zero_le _
  ·rw [aG3 h0,List.length_append]
   have := aKo k (u / 10) (by rw [Nat.pow_succ] at h; omega)
   simp; omega
theorem aCu {n : Int} (hn : osI n) : oO n = some (aPy n) := by
 obtain ⟨h0,h1⟩ := hn
 unfold oO
 rw [aGz (x := dgs n.natAbs) (fun s : Int × List Int => osI s.1 ∧ dgs s.1.natAbs ++ s.2 = dgs n.natAbs) (fun s => s.1.natAbs) (fun s hs => ?_) (s0 := (n,[])) ⟨⟨h0,h1⟩,by simp⟩ (by dsimp only; omega)]
 ·simp only [Option.bind_some]
  by_cases hz : n = 0
  ·subst hz
   rw [Int.natAbs_zero,zK,if_pos (by simp)]
   simp [aPy,Lib.itoa,Lib.decDigits]
  ·have hp : n.natAbs ≠ 0 := by omega
   have hl : (dgs n.natAbs).length ≠ 0 := by rw [aG3 hp]; simp
   have hL := aKo 19 n.natAbs (by omega)
   have e := aR2 n.natAbs hp
   have es : strOfNums (dgs n.natAbs) = ⟨(Lib.decDigits n.natAbs).toArray⟩ := by rw [← e]
   rw [if_neg (by omega)]
   split
   ·rename_i hneg
    rw [gA (by simp [strOfNums,ByteArray.size]; omega),es]
    simp only [aPy,Lib.itoa,if_pos hneg]
    congr 1
   ·rename_i hneg
    rw [es]
    simp only [aPy,Lib.itoa,if_neg hneg]
    rw [show n.toNat = n.natAbs by omega]
 ·obtain ⟨k,out⟩ := s
  obtain ⟨⟨a0,a1⟩,a2⟩ := hs
  simp only at a0 a1 a2 ⊢
  by_cases hk : k = 0
  ·right
   subst hk
   rw [Int.natAbs_zero,zK] at a2
   simp at a2 ⊢
   exact a2
  ·left
   rw [if_pos hk]
   have hd : (if k.tmod 10 < 0 then some (w64 (-(k.tmod 10))) else some (k.tmod 10)) = some (((k.natAbs % 10 : Nat)) : Int) := by
    have e1 : ((k.tmod 10).natAbs) = k.natAbs % 10 := Int.natAbs_tmod _ _
    split
    ·rw [aT (by omega) (by omega)]; congr 1; omega
    ·congr 1; omega
   rw [hd]
   simp only [Option.bind_some]
   have hL : (dgs n.natAbs).length ≤ 19 := aKo 19 n.natAbs (by omega)
   have hle : out.length ≤ 19 := by rw [← a2] at hL; simp at hL; omega
   have ew : IntKind.u8.wrap (w64 (48 + ((k.natAbs % 10 : Nat) : Int))) = 48 + ((k.natAbs % 10 : Nat) : Int) := by
    rw [aT (by omega) (by omega)]
    exact IntWalk.u8_in _ ⟨by omega,by omega⟩
   have eq : (k.tdiv 10).natAbs = k.natAbs / 10 := Int.natAbs_tdiv _ _
   rw [gA (by simp; omega),ew,aT (by omega) (by omega)]
   refine ⟨_,rfl,⟨⟨by dsimp only; omega,by dsimp only; omega⟩,?_⟩,?_⟩
   ·dsimp only
    rw [eq, ← a2,aG3 (u := k.natAbs) (by omega)]
    simp
   ·dsimp only
    omega
end Go.Proofs.YtgcdbbidmfdonaaGreat
namespace Go.Proofs.YtgcdbbidmfdonaaGreat
set_option linter.unusedVariables false
set_option maxRecDepth 100000
theorem aVy {α : Type} {m : Option α} {f : α → Bool} (h : (match m with | some x => f x | none => false) = true) : Ok m (fun x => f x = true) := by
 cases m with
 | none => cases h
 | some x => exact ⟨x,rfl,h⟩
theorem aQs {v : ByteArray} (h : v ∈ [(⟨#[101,103,121,112,116,105,97,110]⟩ : ByteArray),(⟨#[102,105,120,101,100]⟩ : ByteArray),(⟨#[103,114,101,103,111,114,105,97,110]⟩ : ByteArray),(⟨#[106,117,108,105,97,110]⟩ : ByteArray)]) : Ok (lF v) (fun r => (mV r.1 && decide (r.1.Months.length ≤ 13) && decide (r.2 = 0)) = true) := by
 apply aVy
 simp only [List.mem_cons,List.not_mem_nil,or_false] at h
 rcases h with rfl | rfl | rfl | rfl <;> decide
def mNm (j : Nat) : ByteArray := (⟨#[109]⟩ : ByteArray) ++ aPy (j : Int)
theorem aAj {n : Int} {b : ByteArray} (hn : osI n) (h : oO n = some b) : aPy n = b := by
 rw [aCu hn] at h; injection h
theorem aTq : mNm 1 = ⟨#[109,49]⟩ ∧ mNm 2 = ⟨#[109,50]⟩ ∧ mNm 3 = ⟨#[109,51]⟩ ∧ mNm 4 = ⟨#[109,52]⟩ ∧ mNm 5 = ⟨#[109,53]⟩ ∧ mNm 6 = ⟨#[109,54]⟩ := by
 unfold mNm
 refine ⟨?_,?_,?_,?_,?_,?_⟩
 ·rw [aAj (n := ((1 : Nat) : Int)) (b := ⟨#[49]⟩) (by constructor <;> decide) (by decide)]; decide
 ·rw [aAj (n := ((2 : Nat) : Int)) (b := ⟨#[50]⟩) (by constructor <;> decide) (by decide)]; decide
 ·rw [aAj (n := ((3 : Nat) : Int)) (b := ⟨#[51]⟩) (by constructor <;> decide) (by decide)]; decide
 ·rw [aAj (n := ((4 : Nat) : Int)) (b := ⟨#[52]⟩) (by constructor <;> decide) (by decide)]; decide
 ·rw [aAj (n := ((5 : Nat) : Int)) (b := ⟨#[53]⟩) (by constructor <;> decide) (by decide)]; decide
 ·rw [aAj (n := ((6 : Nat) : Int)) (b := ⟨#[54]⟩) (by constructor <;> decide) (by decide)]; decide
theorem aUh {j : Nat} (h1 : 1 ≤ j) (h2 : j ≤ 6) : mH (mNm j) = true := by
 obtain ⟨a1,a2,a3,a4,a5,a6⟩ := aTq
 have : j = 1 ∨ j = 2 ∨ j = 3 ∨ j = 4 ∨ j = 5 ∨ j = 6 := by omega
 rcases this with rfl | rfl | rfl | rfl | rfl | rfl
 ·rw [a1]; decide
 ·rw [a2]; decide
 ·rw [a3]; decide
 ·rw [a4]; decide
 ·rw [a5]; decide
 ·rw [a6]; decide
theorem aT2 {i j : Nat} (h1 : 1 ≤ i) (h2 : i < j) (h3 : j ≤ 6) : mNm i ≠ mNm j := by
 obtain ⟨a1,a2,a3,a4,a5,a6⟩ := aTq
 have hi : i = 1 ∨ i = 2 ∨ i = 3 ∨ i = 4 ∨ i = 5 := by omega
 have hj : j = 2 ∨ j = 3 ∨ j = 4 ∨ j = 5 ∨ j = 6 := by omega
 rcases hi with rfl | rfl | rfl | rfl | rfl <;> rcases hj with rfl | rfl | rfl | rfl | rfl <;> first | omega | (simp only [a1,a2,a3,a4,a5,a6]; decide)
theorem aRe {xs : List bP} (hl : xs.length ≤ 6) (hn : ∀ (i : Nat) (hi : i < xs.length),xs[i].Name = mNm (i + 1) ∧ (1 ≤ xs[i].Days ∧ xs[i].Days ≤ 60) ∧ 1 ≤ xs[i].Leap ∧ xs[i].Leap ≤ 60) : aB1 xs = true := by
 unfold aB1
 rw [xL]
 intro i hi
 obtain ⟨h1,h2,h3⟩ := hn i hi
 rw [Bool.and_eq_true]
 constructor
 ·unfold aNq btw
  rw [h1,aUh (by omega) (by omega),decide_eq_true h2,decide_eq_true h3]; rfl
 ·rw [Bool.not_eq_true', ← Bool.not_eq_true,List.any_eq_true]
  rintro ⟨m,hm,he⟩
  obtain ⟨j,hj,rfl⟩ := List.getElem_of_mem hm
  have hj' : j < i := by have := hj; simp at this; omega
  rw [List.getElem_take] at he
  have := of_decide_eq_true he
  rw [(hn j (by omega)).1,h1] at this
  exact aT2 (by omega) (by omega) (by omega) this
theorem aSv {c : aA} (hn : mH c.Name = true) (hl : 1 ≤ c.Months.length ∧ c.Months.length ≤ 20) (hr : c.Rules.length ≤ 6) (hw : 1 ≤ c.Week ∧ c.Week ≤ 12) (hm : aB1 c.Months = true) (ha : c.Rules.all nV = true) (hc : cyc c.Rules ≤ 2000) : mV c = true := by
 unfold mV btw
 rw [hn,hm,ha,decide_eq_true hl,decide_eq_true hr,decide_eq_true hw,decide_eq_true hc]; rfl
theorem aMu {n : Int} {s : bN} (h : lT n s) (hn : n ≤ 100000000) : Ok (nD s) (fun r => (mV r.1 = true ∧ r.1.Months.length ≤ 13) ∧ lT (n + 100) r.2) := by
 unfold nD
 refine aW (aFk h (by omega)) fun v1 h1 => cG (fun _ => ?_) fun _ => ?_
 ·unfold lC
  rw [Option.bind_some]
  refine aW (aSb h1 (by omega) (by simp)) fun v3 h3 => aW (aQs h3.1) fun v4 h4 => aP ⟨?_,gD h3.2 (by omega)⟩
  simp only [Bool.and_eq_true,decide_eq_true_eq] at h4
  exact ⟨h4.1.1,h4.1.2⟩
 ·refine aW (kM h1 (by omega)) fun v5 h5 => aW (kM h5.2.2.2 (by omega)) fun v6 h6 => ?_
  have hk : v6.1 ≤ 5 := by rcases h6.2.1 with q | q <;> omega
  have hw : v5.1 ≤ 11 := by rcases h5.2.1 with q | q <;> omega
  have k0 := h6.1
  have w0 := h5.1
  rw [aT (x := 1 + v6.1) (by omega) (by omega),aT (x := 1 + v5.1) (by omega) (by omega)]
  refine aW (P := fun (r : bN × List bP) => ((r.2.length : Int) = 1 + v6.1 ∧ aB1 r.2 = true) ∧ lT (n + 60) r.1) ?_ fun v23 h23 => ?_
  ·refine fB (I := fun (s : Int × bN × List bP) => 1 ≤ s.1 ∧ s.1 ≤ v6.1 + 2 ∧ ((s.2.2.length : Int) = s.1 - 1 ∧ ∀ (i : Nat) (hi : i < s.2.2.length),s.2.2[i].Name = mNm (i + 1) ∧ (1 ≤ s.2.2[i].Days ∧ s.2.2[i].Days ≤ 60) ∧ 1 ≤ s.2.2[i].Leap ∧ s.2.2[i].Leap ≤ 60) ∧ lT (n + 6 + 7 * (s.1 - 1)) s.2.1) (m := fun s => (7 - s.1).toNat) ?_ _ ⟨by dsimp only; omega,by dsimp only; omega,⟨by simp,fun i hi => absurd hi (by simp)⟩,gD h6.2.2.2 (by dsimp only; omega)⟩ (by dsimp only; omega)
   rintro ⟨k,src,ys⟩ ⟨i0,i1,⟨il,iv⟩,is⟩
   dsimp only at i0 i1 il iv is ⊢
   refine cG (fun hi => ?_) fun hi => aP (.inr ⟨_,rfl,⟨by dsimp only; omega,aRe (by dsimp only; omega) iv⟩,gD is (by omega)⟩)
   have hko : osI k := ⟨by omega,by omega⟩
   rw [aCu hko,Option.bind_some]
   have hds := aOg hko
   have h109 : (⟨#[109]⟩ : ByteArray).size = 1 := rfl
   refine jN (by omega) ?_
   refine aW (kM is (by omega)) fun v18 h18 => ?_
   have c1 := h18.1
   have c2 : v18.1 ≤ 39 := by rcases h18.2.1 with q | q <;> omega
   refine aW (P := fun (r : bN × bP) => (r.2.Name = (⟨#[109]⟩ : ByteArray) ++ aPy k ∧ (1 ≤ r.2.Days ∧ r.2.Days ≤ 60) ∧ 1 ≤ r.2.Leap ∧ r.2.Leap ≤ 60) ∧ lT (n + 6 + 7 * (k - 1) + 6) r.1) ?_ fun v21 h21 => ?_
   ·refine aW (aFk h18.2.2.2 (by omega)) fun v19 h19 => cG (fun _ => ?_) fun _ => aP ⟨⟨rfl,by dsimp only; rw [aT (by omega) (by omega)]; omega,by dsimp only; rw [aT (by omega) (by omega)]; omega⟩,gD h19 (by omega)⟩
    refine aW (kM h19 (by omega)) fun v20 h20 => aP ⟨⟨rfl,by dsimp only; rw [aT (by omega) (by omega)]; omega,?_⟩,gD h20.2.2.2 (by omega)⟩
    have c3 := h20.1
    have c4 : v20.1 ≤ 39 := by rcases h20.2.1 with q | q <;> omega
    dsimp only; rw [aT (by omega) (by omega)]; omega
   ·refine jN (by simp; omega) (aP (.inl ⟨_,rfl,⟨?_,?_,⟨?_,?_⟩,?_⟩,?_⟩))
    all_goals (dsimp only; try rw [aT (x := k + 1) (by omega) (by omega)])
    ·omega
    ·omega
    ·simp; omega
    ·intro i hi
     rcases Nat.lt_or_ge i ys.length with q | q
     ·rw [List.getElem_append_left q]; exact iv i q
     ·have e : i = ys.length := by simp at hi; omega
      subst e
      rw [List.getElem_append_right (Nat.le_refl _)]
      simp only [Nat.sub_self,List.getElem_cons_zero]
      refine ⟨?_,h21.1.2⟩
      rw [h21.1.1]
      show _ = (⟨#[109]⟩ : ByteArray) ++ aPy ((ys.length + 1 : Nat) : Int)
      rw [show ((ys.length + 1 : Nat) : Int) = k by push_cast; omega]
    ·exact gD h21.2 (by omega)
    ·omega
  ·refine aW (P := fun (r : bN × List bA) => (r.2.length ≤ 3 ∧ ∀ q ∈ r.2,nV q = true) ∧ lT (n + 90) r.1) ?_ fun v35 h35 => ?_
   ·refine aW (kM h23.2 (by omega)) fun v24 h24 => ?_
    have d0 := h24.1
    have d1 : v24.1 ≤ 3 := by rcases h24.2.1 with q | q <;> omega
    refine fB (I := fun (s : Int × bN × List bA) => 0 ≤ s.1 ∧ s.1 ≤ 3 ∧ ((s.2.2.length : Int) + s.1 ≤ 3 ∧ ∀ q ∈ s.2.2,nV q = true) ∧ lT (n + 62 + 7 * (3 - s.1)) s.2.1) (m := fun s => s.1.toNat) ?_ _ ⟨d0,d1,⟨by simpa using d1,fun q hq => by cases hq⟩,gD h24.2.2.2 (by dsimp only; omega)⟩ (by dsimp only; omega)
    rintro ⟨k,src,ys⟩ ⟨i0,i1,⟨il,iv⟩,is⟩
    dsimp only at i0 i1 il iv is ⊢
    refine cG (fun hi => ?_) fun hi => aP (.inr ⟨_,rfl,⟨by dsimp only; omega,iv⟩,gD is (by omega)⟩)
    refine aW (wZ is (by omega) (by simp)) fun v31 h31 => aW (kM h31.2 (by omega)) fun v32 h32 => aW (aFk h32.2.2.2 (by omega)) fun v33 h33 => jN (by simp; omega) (aP (.inl ⟨_,rfl,⟨?_,?_,⟨?_,?_⟩,?_⟩,?_⟩))
    all_goals (dsimp only; try rw [aT (x := k - 1) (by omega) (by omega)])
    ·omega
    ·omega
    ·simp; omega
    ·intro q hq
     rcases List.mem_append.1 hq with hq | hq
     ·exact iv q hq
     ·rw [List.mem_singleton.1 hq]
      have hm := h31.1
      have e0 := h32.1
      simp only [List.mem_cons,List.not_mem_nil,or_false] at hm
      refine rE.2 ⟨by dsimp only; omega,e0,?_⟩
      dsimp only
      rcases h32.2.1 with q | q <;> omega
    ·exact gD h33 (by omega)
    ·omega
   ·have hm23 : 1 ≤ v23.2.length ∧ v23.2.length ≤ 6 := by have := h23.1.1; omega
    have base : ∀ rs : List bA,rs.length ≤ 6 → rs.all nV = true → cyc rs ≤ 2000 → mV ⟨⟨#[111,119,110]⟩,v23.2,rs,1 + v5.1⟩ = true := fun rs r1 r2 r3 => aSv (show mH ⟨#[111,119,110]⟩ = true by decide) (by dsimp only; omega) r1 (by dsimp only; omega) h23.1.2 r2 r3
    rw [tQ (by dsimp only; omega) (by dsimp only; omega)]
    refine aW (P := fun (rs : List bA) => mV ⟨⟨#[111,119,110]⟩,v23.2,rs,1 + v5.1⟩ = true) ?_ fun v37 h37 => aP ⟨⟨h37,by dsimp only; omega⟩,gD h35.2 (by omega)⟩
    rw [Option.bind_some]
    refine cG (fun _ => aP (base [] (by simp) rfl (by decide))) fun hb => aP ?_
    simpa using hb
theorem aM4 {n : Int} {s : bN} (h : lT n s) (hn : n ≤ 100000000) {c : aA} (hc : mV c = true) : Ok (kV s c) (fun r => gK c r.1 = true ∧ lT (n + 12) r.2) := by
 have hm := (dT hc).2.1
 unfold kV
 refine aW (wZ h (by omega) (by simp)) fun v1 h1 => aW (kM h1.2 (by omega)) fun v2 h2 => ?_
 have y := h1.1
 simp only [List.mem_cons,List.not_mem_nil,or_false] at y
 have c1 := h2.1
 have c2 : v2.1 < c.Months.length := by rcases h2.2.1 with q | q <;> omega
 have hl := oC hc (fR c v1.1) c1 c2
 rw [aT (x := 1 + v2.1) (by omega) (by omega),aT (x := 1 + v2.1 - 1) (by omega) (by omega),show 1 + v2.1 - 1 = v2.1 by omega,sU hc (by omega) c1 c2,Option.bind_some]
 refine aW (kM h2.2.2.2 (by omega)) fun v4 h4 => ?_
 have d1 := h4.1
 have d2 : v4.1 < nX c (fR c v1.1) v2.1 := by rcases h4.2.1 with q | q <;> omega
 have e2 : (1 + v2.1) - 1 = v2.1 := by omega
 refine aW (P := fun (r : bN × bQ) => gK c r.2 = true ∧ lT (n + 12) r.1) ?_ fun v6 h6 => aP h6
 refine aW (aFk h4.2.2.2 (by omega)) fun v5 h5 => cG (fun _ => aP ⟨eO.2 ⟨by dsimp only; omega,by dsimp only; omega,?_⟩,gD h5 (by omega)⟩) fun _ => aP ⟨eO.2 ⟨by dsimp only; omega,by dsimp only; omega,?_⟩,gD h5 (by omega)⟩
 ·dsimp only; rw [e2]; omega
 ·dsimp only; rw [e2,aT (by omega) (by omega)]; omega
end Go.Proofs.YtgcdbbidmfdonaaGreat
namespace Go.Proofs.YtgcdbbidmfdonaaGreat
set_option linter.unusedVariables false
set_option maxRecDepth 100000
theorem aNh {xs : List Int} (h : ∀ v ∈ xs,1 ≤ v ∧ v ≤ 60) (hl : 1 ≤ xs.length ∧ xs.length ≤ 260) : aEa xs = true := by
 unfold aEa btw
 rw [Bool.and_eq_true,decide_eq_true_eq,List.all_eq_true]
 exact ⟨fun v hv => decide_eq_true (h v hv),hl⟩
theorem aNu {c : aA} (hc : mV c = true) {a st ys m : Int} (a0 : 0 ≤ a) (a1 : a ≤ 260) (s0 : 1 ≤ st) (s1 : st ≤ 260) (y1 : ys ≤ 1000000) (m0 : 0 ≤ m) (m1 : m < c.Months.length) : Ok (pH c a st ys m) (fun r => 1 ≤ r ∧ r ≤ 60) := by
 have hm := sH (c := c) m0 m1
 have hq := aIz hc hm.2
 unfold pH
 refine aW (P := fun _ => True) ?_ fun v7 _ => ?_
 ·refine fB (I := fun (s : Int × Int × Int) => 0 ≤ s.2.2 ∧ s.2.2 ≤ 1000260) (m := fun s => (1000260 - s.2.2).toNat) ?_ _ ⟨a0,by dsimp only; omega⟩ (by dsimp only; omega)
  rintro ⟨l,al,y⟩ ⟨i0,i1⟩
  dsimp only at i0 i1 ⊢
  refine cG (fun hy => ?_) fun _ => aP (.inr ⟨_,rfl,trivial⟩)
  rw [aA4 hc i0,Option.bind_some]
  refine aW (P := fun _ => True) (cG (fun _ => aP trivial) fun _ => aP trivial) fun v6 _ => aP (.inl ⟨_,rfl,?_,?_⟩)
  ·dsimp only; rw [aT (x := y + st) (by omega) (by omega)]; omega
  ·dsimp only; rw [aT (x := y + st) (by omega) (by omega)]; omega
 ·rw [hm.1,Option.bind_some]
  refine cG (fun _ => aP hq.2) fun _ => cG (fun _ => aP hq.1) fun _ => ?_
  unfold xA
  refine aW (P := fun r => 1 ≤ r ∧ r ≤ 60) (cG (fun _ => aP hq.2) fun _ => aP hq.1) fun v h => aP h
theorem aOw {c : aA} (hc : mV c = true) {y : Int} (y0 : 1 ≤ y) (y1 : y ≤ 260) : Ok (mY c y) (fun r => 0 ≤ r ∧ r ≤ 520000) := by
 obtain ⟨_,_,hr,_,_,hb,hcy⟩ := dT hc
 obtain ⟨e,n0,n1,_⟩ := aSw hc
 have hg := uG (n := cyc c.Rules) (d := y) (by omega)
 have hq := tM (a := cyc c.Rules) (g := (Int.gcd (cyc c.Rules) y : Int)) (by omega) (by omega)
 unfold mY
 rw [zW (by omega),if_pos ⟨hb,hcy⟩,Option.bind_some,yG (by dsimp only; omega) (by omega) (by omega),Option.bind_some]
 refine jN (by dsimp only; omega) (aP ?_)
 dsimp only
 rw [Int.tdiv_eq_ediv_of_nonneg (by omega),aT (x := cyc c.Rules / _) (by omega) (by omega)]
 have h1 : 0 ≤ cyc c.Rules / (Int.gcd (cyc c.Rules) y : Int) * y := Int.mul_nonneg hq.1 (by omega)
 have h2 : cyc c.Rules / (Int.gcd (cyc c.Rules) y : Int) * y ≤ 2000 * 260 := Int.mul_le_mul (by omega) y1 (by omega) (by omega)
 rw [aT (by omega) (by omega)]
 omega
theorem aQ5 {c : aA} {cam : List Int} (ha : vI c cam = 0) {y m : Int} (y0 : 0 ≤ y) (m0 : 0 ≤ m) (m1 : m < c.Months.length) : pX c cam y m = some (⟨y,m + 1,cam.getD (lK c cam y (m + 1)).toNat 0,nX c (fR c y) m⟩,decide (cam.getD (lK c cam y (m + 1)).toNat 0 ≠ nX c (fR c y) m)) := by
 obtain ⟨hc,hm,h,k1,k2⟩ := kE ha
 have hl := (lB hm).2
 have hq := (dT hc).2.1
 have n := uI ha (y := y) (m := m + 1) (by omega) (by omega)
 unfold pX
 rw [gA (by omega),sU hc y0 m0 m1,Option.bind_some,Int.tdiv_eq_ediv_of_nonneg (by omega),aT (x := (cam.length : Int) / _) (by omega) (by omega),gA (by omega),Int.tmod_eq_emod_of_nonneg y0,aT (x := _ * _) (by omega) (by omega),aT (x := _ + m) (by omega) (by omega),aT (x := m + 1) (by omega) (by omega)]
 have e : y % ((cam.length : Int) / c.Months.length) * c.Months.length + m = lK c cam y (m + 1) := by unfold lK; omega
 rw [e]
 have h3 : atI cam (lK c cam y (m + 1)) = some (cam.getD (lK c cam y (m + 1)).toNat 0) := by
  unfold atI
  rw [if_pos n.1,List.getElem?_eq_getElem (by omega)]
  simp [List.getD_eq_getElem?_getD,List.getElem?_eq_getElem (show (lK c cam y (m + 1)).toNat < cam.length by omega)]
 rw [h3,Option.bind_some]
theorem aP5 {c : aA} {cam : List Int} (ha : vI c cam = 0) {n : Int} (n1 : n ≤ 520000) : Ok (pY c cam n) (fun _ => True) := by
 have hc := (kE ha).1
 have hq := (dT hc).2.1
 unfold pY
 refine aW (P := fun _ => True) ?_ fun v _ => aP trivial
 refine fB (I := fun (s : Int × Int) => 0 ≤ s.2 ∧ s.2 ≤ 520000) (m := fun s => (520000 - s.2).toNat) ?_ _ ⟨by dsimp only; omega,by dsimp only; omega⟩ (by dsimp only; omega)
 rintro ⟨k,y⟩ ⟨i0,i1⟩
 dsimp only at i0 i1 ⊢
 refine cG (fun hy => ?_) fun _ => aP (.inr ⟨_,rfl,trivial⟩)
 refine aW (P := fun _ => True) ?_ fun v16 _ => aP (.inl ⟨_,rfl,?_,?_⟩)
 ·refine fB (I := fun (s : Int × Int) => 0 ≤ s.2 ∧ s.2 ≤ c.Months.length) (m := fun s => (c.Months.length - s.2).toNat) ?_ _ ⟨by dsimp only; omega,by dsimp only; omega⟩ (by dsimp only; omega)
  rintro ⟨k2,m⟩ ⟨j0,j1⟩
  dsimp only at j0 j1 ⊢
  refine cG (fun hm => ?_) fun _ => aP (.inr ⟨_,rfl,trivial⟩)
  rw [aQ5 ha i0 j0 hm,Option.bind_some]
  refine aW (P := fun _ => True) (cG (fun _ => aP trivial) fun _ => aP trivial) fun v15 _ => aP (.inl ⟨_,rfl,?_,?_⟩)
  ·dsimp only; rw [aT (x := m + 1) (by omega) (by omega)]; omega
  ·dsimp only; rw [aT (x := m + 1) (by omega) (by omega)]; omega
 ·dsimp only; rw [aT (x := y + 1) (by omega) (by omega)]; omega
 ·dsimp only; rw [aT (x := y + 1) (by omega) (by omega)]; omega
theorem aRg {c : aA} {cam : List Int} (hc : mV c = true) (hm : aEa cam = true) (hz : (cam.length : Int) % c.Months.length = 0) : vI c cam = 0 := by
 rw [aCa hc hm,if_pos hz]
theorem aL0 {c : aA} (hc : mV c = true) (y : Int) : Ok (qY c y) (fun r => r.2.2 = 0 → vI c r.1 = 0) := by
 have hm := (dT hc).2.1
 obtain ⟨_,_,hr,_⟩ := dT hc
 unfold qY sO
 rw [tQ (by omega) (by omega),hc,Option.bind_some,dZ,Option.bind_some]
 simp only [Bool.not_true,Bool.false_eq_true,if_false]
 refine aW (P := fun b => b = true → (1 ≤ y ∧ y ≤ 260) ∧ y * c.Months.length ≤ 260) (cG (fun hb => ?_) fun hb => aP (by simp)) fun b hb => cG (fun hn => aP (by simp)) fun hn => ?_
 ·have hy := of_decide_eq_true hb
  have h1 : 0 ≤ y * (c.Months.length : Int) := Int.mul_nonneg (by omega) (by omega)
  have h2 : y * (c.Months.length : Int) ≤ 260 * 20 := Int.mul_le_mul hy.2 (by omega) (by omega) (by omega)
  rw [aT (by omega) (by omega)]
  exact aP fun h => ⟨hy,of_decide_eq_true h⟩
 ·have hb' : b = true := by simpa using hn
  obtain ⟨⟨y0,y1⟩,y2⟩ := hb hb'
  refine aW (aOw hc y0 y1) fun v3 h3 => ?_
  refine aW (P := fun xs => (xs.length : Int) = y * c.Months.length ∧ ∀ v ∈ xs,1 ≤ v ∧ v ≤ 60) ?_ fun v20 h20 => ?_
  ·refine fB (I := fun (s : Int × List Int) => (0 ≤ s.1 ∧ s.1 ≤ y) ∧ (s.2.length : Int) = s.1 * c.Months.length ∧ ∀ v ∈ s.2,1 ≤ v ∧ v ≤ 60) (m := fun s => (y - s.1).toNat) ?_ _ ⟨⟨by dsimp only; omega,by dsimp only; omega⟩,by simp,fun v hv => by cases hv⟩ (by dsimp only; omega)
   rintro ⟨k,xs⟩ ⟨⟨i0,i1⟩,il,iv⟩
   dsimp only at i0 i1 il iv ⊢
   refine cG (fun hk => ?_) fun hk => aP (.inr ⟨_,rfl,?_,iv⟩)
   ·have kb : k * (c.Months.length : Int) ≤ (y - 1) * c.Months.length := Int.mul_le_mul_of_nonneg_right (by omega) (by omega)
    have kn : 0 ≤ k * (c.Months.length : Int) := Int.mul_nonneg i0 (by omega)
    rw [Int.sub_mul] at kb
    refine aW (P := fun (zs : List Int) => (zs.length : Int) = k * c.Months.length + c.Months.length ∧ ∀ v ∈ zs,1 ≤ v ∧ v ≤ 60) ?_ fun v19 h19 => aP (.inl ⟨_,rfl,⟨⟨?_,?_⟩,?_,h19.2⟩,?_⟩)
    ·refine fB (I := fun (s : Int × List Int) => (0 ≤ s.1 ∧ s.1 ≤ c.Months.length) ∧ (s.2.length : Int) = k * c.Months.length + s.1 ∧ ∀ v ∈ s.2,1 ≤ v ∧ v ≤ 60) (m := fun s => (c.Months.length - s.1).toNat) ?_ _ ⟨⟨by dsimp only; omega,by dsimp only; omega⟩,by dsimp only; omega,iv⟩ (by dsimp only; omega)
     rintro ⟨m,zs⟩ ⟨⟨j0,j1⟩,jl,jv⟩
     dsimp only at j0 j1 jl jv ⊢
     refine cG (fun hmm => ?_) fun hmm => aP (.inr ⟨_,rfl,by omega,jv⟩)
     refine aW (aNu hc i0 (by omega) y0 y1 (by omega) j0 hmm) fun v17 h17 => jN (by simp; omega) (aP (.inl ⟨_,rfl,⟨⟨?_,?_⟩,?_,?_⟩,?_⟩))
     all_goals (dsimp only; try rw [aT (x := m + 1) (by omega) (by omega)])
     ·omega
     ·omega
     ·simp; omega
     ·intro v hv
      rcases List.mem_append.1 hv with hv | hv
      ·exact jv v hv
      ·rw [List.mem_singleton.1 hv]; exact h17
     ·omega
    all_goals (dsimp only; try rw [aT (x := k + 1) (by omega) (by omega)])
    ·omega
    ·omega
    ·rw [Int.add_mul,Int.one_mul]; exact h19.1
    ·omega
   ·rw [il,show k = y by omega]
  ·have hp : 0 < y * (c.Months.length : Int) := Int.mul_pos (by omega) (by omega)
   have hcam := aNh h20.2 (by omega)
   have ha : vI c v20 = 0 := aRg hc hcam (by rw [h20.1,Int.mul_emod_left])
   exact aW (aP5 ha h3.2) fun v21 _ => aP fun _ => ha
theorem aQb {c : aA} (hc : mV c = true) : Ok (vV c 0 1) (fun r => vI c r = 0) := by
 have hm := (dT hc).2.1
 unfold vV
 rw [aT (x := (0 : Int) + 1) (by omega) (by omega)]
 refine aW (P := fun xs => (xs.length : Int) = c.Months.length ∧ ∀ v ∈ xs,1 ≤ v ∧ v ≤ 60) ?_ fun v20 h20 => aP (aRg hc (aNh h20.2 (by omega)) (by rw [h20.1,Int.emod_self]))
 refine fB (I := fun (s : Int × List Int) => (0 ≤ s.1 ∧ s.1 ≤ 1) ∧ (s.2.length : Int) = s.1 * c.Months.length ∧ ∀ v ∈ s.2,1 ≤ v ∧ v ≤ 60) (m := fun s => (1 - s.1).toNat) ?_ _ ⟨⟨by dsimp only; omega,by dsimp only; omega⟩,by simp,fun v hv => by cases hv⟩ (by dsimp only; omega)
 rintro ⟨k,xs⟩ ⟨⟨i0,i1⟩,il,iv⟩
 dsimp only at i0 i1 il iv ⊢
 refine cG (fun hk => ?_) fun hk => aP (.inr ⟨_,rfl,?_,iv⟩)
 ·have hk0 : k = 0 := by omega
  subst hk0
  have il' : xs.length = 0 := by omega
  refine aW (P := fun (zs : List Int) => (zs.length : Int) = c.Months.length ∧ ∀ v ∈ zs,1 ≤ v ∧ v ≤ 60) ?_ fun v19 h19 => aP (.inl ⟨_,rfl,⟨⟨?_,?_⟩,?_,h19.2⟩,?_⟩)
  ·refine fB (I := fun (s : Int × List Int) => (0 ≤ s.1 ∧ s.1 ≤ c.Months.length) ∧ (s.2.length : Int) = s.1 ∧ ∀ v ∈ s.2,1 ≤ v ∧ v ≤ 60) (m := fun s => (c.Months.length - s.1).toNat) ?_ _ ⟨⟨by dsimp only; omega,by dsimp only; omega⟩,by dsimp only; omega,iv⟩ (by dsimp only; omega)
   rintro ⟨m,zs⟩ ⟨⟨j0,j1⟩,jl,jv⟩
   dsimp only at j0 j1 jl jv ⊢
   refine cG (fun hmm => ?_) fun hmm => aP (.inr ⟨_,rfl,by omega,jv⟩)
   have hl := oC hc (fR c 0) j0 hmm
   rw [sU hc (by omega) j0 hmm,Option.bind_some]
   refine jN (by simp; omega) (aP (.inl ⟨_,rfl,⟨⟨?_,?_⟩,?_,?_⟩,?_⟩))
   all_goals (dsimp only; try rw [aT (x := m + 1) (by omega) (by omega)])
   ·omega
   ·omega
   ·simp; omega
   ·intro v hv
    rcases List.mem_append.1 hv with hv | hv
    ·exact jv v hv
    ·rw [List.mem_singleton.1 hv]; exact hl
   ·omega
  all_goals (dsimp only; try rw [aT (x := (0 : Int) + 1) (by omega) (by omega)])
  ·omega
  ·omega
  ·rw [h19.1]; omega
  ·omega
 ·rw [il,show k = 1 by omega]; omega
end Go.Proofs.YtgcdbbidmfdonaaGreat
namespace Go.Proofs.YtgcdbbidmfdonaaGreat
set_option linter.unusedVariables false
set_option maxRecDepth 100000
theorem aDe {α : Type} {xs : List α} {k : Nat} : xS xs (k : Int) (xs.length : Int) = xs.drop k := by
 unfold xS
 rw [List.take_of_length_le (by simp)]; simp
theorem tE {α : Type} {xs : List α} {k : Nat} (h : k < xs.length) : xs.drop k = xs[k] :: xs.drop (k + 1) := List.drop_eq_getElem_cons h
theorem aAc {α : Type} {xs : List α} {k : Nat} (h : k < xs.length) : xs.take (k + 1) = xs.take k ++ [xs[k]] := by rw [List.take_succ_eq_append_getElem h]
theorem aP3 {out : List Int} {x : Int} {k : Nat} (hs : out.Pairwise (· ≤ ·)) (h1 : ∀ a ∈ out.take k,a ≤ x) (h2 : ∀ b ∈ out.drop k,x < b) : ((out.take k ++ [x]) ++ out.drop k).Pairwise (· ≤ ·) ∧ ((out.take k ++ [x]) ++ out.drop k).Perm (out ++ [x]) := by
 have hs' := hs
 rw [← List.take_append_drop k out,List.pairwise_append] at hs'
 obtain ⟨p1,p2,p3⟩ := hs'
 constructor
 ·rw [List.pairwise_append,List.pairwise_append]
  refine ⟨⟨p1,by simp,fun a ha b hb => by rw [List.mem_singleton.1 hb]; exact h1 a ha⟩,p2,fun a ha b hb => ?_⟩
  rcases List.mem_append.1 ha with ha | ha
  ·exact p3 a ha b hb
  ·rw [List.mem_singleton.1 ha]; have := h2 b hb; omega
 ·rw [List.append_assoc]
  have e : (out.take k ++ ([x] ++ out.drop k)).Perm (out.take k ++ (out.drop k ++ [x])) := List.Perm.append_left _ List.perm_append_comm
  rw [← List.append_assoc (List.take k out) (List.drop k out),List.take_append_drop] at e
  exact e
theorem aOm {xs : List Int} (hl : xs.length ≤ 1000) : Ok (oK xs) (fun ys => ys.Perm xs ∧ ys.Pairwise (· ≤ ·)) := by
 unfold oK
 refine aW (P := fun (ys : List Int) => ys.Perm xs ∧ ys.Pairwise (· ≤ ·)) ?_ fun v h => aP h
 refine fB (I := fun (s : Int × List Int) => (0 ≤ s.1 ∧ s.1 ≤ xs.length) ∧ s.2.Perm (xs.take s.1.toNat) ∧ s.2.Pairwise (· ≤ ·)) (m := fun s => (xs.length - s.1).toNat) ?_ _ ⟨⟨by dsimp only; omega,by dsimp only; omega⟩,by simp, .nil⟩ (by dsimp only; omega)
 rintro ⟨i,out⟩ ⟨⟨i0,i1⟩,ip,is⟩
 dsimp only at i0 i1 ip is ⊢
 refine cG (fun hi => ?_) fun hi => aP (.inr ⟨_,rfl,?_,is⟩)
 ·obtain ⟨n,rfl⟩ : ∃ n : Nat,i = n := ⟨i.toNat,by omega⟩
  have hn : n < xs.length := by omega
  rw [Int.toNat_natCast] at ip
  have hol : out.length = n := by have := ip.length_eq; simp at this; omega
  simp only [eD hn,Option.bind_some]
  refine aW (P := fun (zs : List Int) => zs.Perm (out ++ [xs[n]]) ∧ zs.Pairwise (· ≤ ·)) ?_ fun v34 h34 => aP (.inl ⟨_,rfl,⟨⟨?_,?_⟩,?_,h34.2⟩,?_⟩)
  ·refine aW (P := fun (k : Int) => (0 ≤ k ∧ k ≤ out.length) ∧ (∀ b ∈ out.drop k.toNat,xs[n] < b) ∧ ∀ a ∈ out.take k.toNat,a ≤ xs[n]) ?_ fun k hk => ?_
   ·refine fB (I := fun (k : Int) => (0 ≤ k ∧ k ≤ out.length) ∧ ∀ b ∈ out.drop k.toNat,xs[n] < b) (m := fun k => k.toNat) ?_ _ ⟨⟨by omega,by omega⟩,by simp⟩ (by omega)
    rintro k ⟨⟨k0,k1⟩,kd⟩
    refine aW (P := fun b => b = decide (0 < k ∧ xs[n] < out.getD (k - 1).toNat 0)) (cG (fun hk => ?_) fun hk => aP (by symm; exact decide_eq_false fun h => hk h.1)) fun b hb => ?_
    ·rw [aT (x := k - 1) (by omega) (by omega),show k - 1 = ((k - 1).toNat : Int) by omega,eD (show (k - 1).toNat < out.length by omega),Option.bind_some]
     refine aP ?_
     rw [show ((k - 1).toNat : Int).toNat = (k - 1).toNat by omega,List.getD_eq_getElem?_getD,List.getElem?_eq_getElem (show (k - 1).toNat < out.length by omega),Option.getD_some,decide_eq_decide]
     omega
    ·subst hb
     refine cG (fun hb => ?_) fun hb => aP (.inr ⟨_,rfl,⟨k0,k1⟩,kd,?_⟩)
     ·have hb' := of_decide_eq_true hb
      refine aP (.inl ⟨_,rfl,⟨⟨?_,?_⟩,?_⟩,?_⟩)
      all_goals try rw [aT (x := k - 1) (by omega) (by omega)]
      ·omega
      ·omega
      ·have hlt : (k - 1).toNat < out.length := by omega
       rw [tE hlt]
       intro b hb2
       rcases List.mem_cons.1 hb2 with rfl | hb2
       ·have := hb'.2
        rwa [List.getD_eq_getElem?_getD,List.getElem?_eq_getElem hlt,Option.getD_some] at this
       ·rw [show (k - 1).toNat + 1 = k.toNat by omega] at hb2; exact kd b hb2
      ·omega
     ·intro a ha
      have hk : k ≠ 0 := by
       intro e; subst e; simp at ha
      have hlt : (k - 1).toNat < out.length := by omega
      have hx : out[(k - 1).toNat] ≤ xs[n] := by
       have : ¬ (0 < k ∧ xs[n] < out.getD (k - 1).toNat 0) := by simpa using hb
       rw [List.getD_eq_getElem?_getD,List.getElem?_eq_getElem hlt,Option.getD_some] at this
       omega
      rw [show k.toNat = (k - 1).toNat + 1 by omega,aAc hlt] at ha
      rcases List.mem_append.1 ha with ha | ha
      ·have hp := is
       rw [← List.take_append_drop (k - 1).toNat out,List.pairwise_append] at hp
       have := hp.2.2 a ha out[(k - 1).toNat] (by rw [tE hlt]; exact List.mem_cons_self ..)
       omega
      ·rw [List.mem_singleton.1 ha]; exact hx
   ·obtain ⟨⟨k0,k1⟩,kd,ka⟩ := hk
    obtain ⟨m,rfl⟩ : ∃ m : Nat,k = m := ⟨k.toNat,by omega⟩
    rw [Int.toNat_natCast] at kd ka
    refine jN (by omega) ?_
    rw [aN0,aDe,zS (by rw [List.length_take]; omega),Option.bind_some]
    refine jN (by simp; omega) (jN (by omega) (jN (by simp; omega) (aP ?_)))
    have := aP3 is ka kd
    exact ⟨this.2,this.1⟩
  all_goals (dsimp only; try rw [aT (x := (n : Int) + 1) (by omega) (by omega)])
  ·omega
  ·omega
  ·rw [show ((n : Int) + 1).toNat = n + 1 by omega,aAc hn]
   exact h34.1.trans (ip.append_right _)
  ·omega
 ·rw [show i.toNat = xs.length by omega,List.take_length] at ip
  exact ip
end Go.Proofs.YtgcdbbidmfdonaaGreat
namespace Go.Proofs.YtgcdbbidmfdonaaGreat
set_option linter.unusedVariables false
set_option maxRecDepth 100000
abbrev mG (xs : List aZ) : Prop := xs.Pairwise fun a b => a.value ≤ b.value
theorem oD {xs : List aZ} (h : mG xs) {i j : Nat} (hij : i ≤ j) (hj : j < xs.length) : (xs[i]'(by omega)).value ≤ xs[j].value := by
 rcases Nat.lt_or_ge i j with q | q
 ·exact List.pairwise_iff_getElem.1 h i j (by omega) hj q
 ·have : i = j := by omega
  subst this; exact Int.le_refl _
theorem aCh {α : Type} {xs : List α} {k : Nat} {x : α} (h : x ∈ xs.drop k) : ∃ (j : Nat) (hj : j < xs.length),k ≤ j ∧ xs[j] = x := by
 obtain ⟨i,hi,rfl⟩ := List.getElem_of_mem h
 have hi' := hi
 rw [List.length_drop] at hi'
 exact ⟨k + i,by omega,by omega,by rw [List.getElem_drop]⟩
theorem aQl {a b : List aZ} (ha : mG a) (hb : mG b) (hl : a.length + b.length ≤ 100000) : Ok (pG a b) (fun r => r.Perm (a ++ b) ∧ mG r) := by
 unfold pG
 have grow : ∀ {out : List aZ} {x : aZ},mG out → (∀ y ∈ out,y.value ≤ x.value) → mG (out ++ [x]) := fun {out x} h1 h2 => by
  show List.Pairwise _ _
  rw [List.pairwise_append]
  exact ⟨h1,by simp,fun y hy z hz => by rw [List.mem_singleton.1 hz]; exact h2 y hy⟩
 refine aW (P := fun (r : Int × List aZ) => (0 ≤ r.1 ∧ r.1 ≤ a.length) ∧ r.2.Perm (a.take r.1.toNat ++ b) ∧ mG r.2 ∧ ∀ y ∈ r.2, ∀ z ∈ a.drop r.1.toNat,y.value ≤ z.value) ?_ fun v35 h35 => ?_
 ·refine fB (I := fun (s : Int × Int × List aZ) => ((0 ≤ s.1 ∧ s.1 ≤ a.length) ∧ 0 ≤ s.2.1 ∧ s.2.1 ≤ b.length) ∧ s.2.2.Perm (a.take s.1.toNat ++ b.take s.2.1.toNat) ∧ mG s.2.2 ∧ (∀ y ∈ s.2.2, ∀ z ∈ a.drop s.1.toNat,y.value ≤ z.value) ∧ ∀ y ∈ s.2.2, ∀ z ∈ b.drop s.2.1.toNat,y.value ≤ z.value) (m := fun s => (b.length - s.2.1).toNat) ?_ _ ⟨⟨⟨by dsimp only; omega,by dsimp only; omega⟩,by dsimp only; omega,by dsimp only; omega⟩,by simp, .nil,fun y hy => by simp at hy,fun y hy => by simp at hy⟩ (by dsimp only; omega)
  rintro ⟨i,k,out⟩ ⟨⟨⟨i0,i1⟩,k0,k1⟩,hp,hs,h1,h2⟩
  dsimp only at i0 i1 k0 k1 hp hs h1 h2 ⊢
  refine cG (fun hk => ?_) fun hk => aP (.inr ⟨_,rfl,⟨i0,i1⟩,?_,hs,h1⟩)
  ·obtain ⟨m,rfl⟩ : ∃ m : Nat,k = m := ⟨k.toNat,by omega⟩
   have hm : m < b.length := by omega
   rw [Int.toNat_natCast] at hp h2
   simp only [eD hm,Option.bind_some]
   refine aW (P := fun (r : Int × List aZ) => (0 ≤ r.1 ∧ r.1 ≤ a.length) ∧ r.2.Perm (a.take r.1.toNat ++ b.take (m + 1)) ∧ mG r.2 ∧ (∀ y ∈ r.2, ∀ z ∈ a.drop r.1.toNat,y.value ≤ z.value) ∧ ∀ y ∈ r.2, ∀ z ∈ b.drop (m + 1),y.value ≤ z.value) ?_ fun v34 h34 => aP (.inl ⟨_,rfl,⟨⟨h34.1,?_,?_⟩,?_,h34.2.2.1,h34.2.2.2.1,?_⟩,?_⟩)
   ·refine aW (P := fun (r : Int × List aZ) => (0 ≤ r.1 ∧ r.1 ≤ a.length) ∧ r.2.Perm (a.take r.1.toNat ++ b.take m) ∧ mG r.2 ∧ (∀ y ∈ r.2, ∀ z ∈ a.drop r.1.toNat,y.value ≤ z.value) ∧ (∀ y ∈ r.2, ∀ z ∈ b.drop m,y.value ≤ z.value) ∧ ∀ z ∈ a.drop r.1.toNat,b[m].value ≤ z.value) ?_ fun v31 h31 => ?_
    ·refine fB (I := fun (s : Int × List aZ) => (0 ≤ s.1 ∧ s.1 ≤ a.length) ∧ s.2.Perm (a.take s.1.toNat ++ b.take m) ∧ mG s.2 ∧ (∀ y ∈ s.2, ∀ z ∈ a.drop s.1.toNat,y.value ≤ z.value) ∧ ∀ y ∈ s.2, ∀ z ∈ b.drop m,y.value ≤ z.value) (m := fun s => (a.length - s.1).toNat) ?_ _ ⟨⟨i0,i1⟩,hp,hs,h1,h2⟩ (by dsimp only; omega)
     rintro ⟨i,out⟩ ⟨⟨i0,i1⟩,hp,hs,h1,h2⟩
     dsimp only at i0 i1 hp hs h1 h2 ⊢
     obtain ⟨n,rfl⟩ : ∃ n : Nat,i = n := ⟨i.toNat,by omega⟩
     rw [Int.toNat_natCast] at hp h1
     by_cases hi : n < a.length
     ·rw [if_pos (by omega)]
      simp only [eD hi,Option.bind_some]
      by_cases hc : a[n].value ≤ b[m].value
      ·rw [decide_eq_true hc,if_pos rfl]
       have hol : out.length = n + m := by
        have := hp.length_eq
        rw [List.length_append,List.length_take,List.length_take] at this
        omega
       refine jN (by simp; omega) (aP (.inl ⟨_,rfl,⟨⟨?_,?_⟩,?_,?_,?_,?_⟩,?_⟩))
       all_goals (dsimp only; (try rw [aT (x := (n : Int) + 1) (by omega) (by omega)]); (try rw [show ((n : Int) + 1).toNat = n + 1 by omega]))
       ·omega
       ·omega
       ·rw [aAc hi]
        have e : (out ++ [a[n]]).Perm ((a.take n ++ b.take m) ++ [a[n]]) := hp.append_right _
        refine e.trans ?_
        rw [List.append_assoc,List.append_assoc]
        exact List.Perm.append_left _ List.perm_append_comm
       ·exact grow hs fun y hy => h1 y hy _ (by rw [tE hi]; exact List.mem_cons_self ..)
       ·intro y hy z hz
        obtain ⟨j,hj,hjn,rfl⟩ := aCh hz
        rcases List.mem_append.1 hy with hy | hy
        ·exact h1 y hy _ (by rw [tE hi]; exact List.mem_cons_of_mem _ hz)
        ·rw [List.mem_singleton.1 hy]; exact oD ha (by omega) hj
       ·intro y hy z hz
        rcases List.mem_append.1 hy with hy | hy
        ·exact h2 y hy z hz
        ·rw [List.mem_singleton.1 hy]
         obtain ⟨j,hj,hjn,rfl⟩ := aCh hz
         have := oD hb hjn hj
         omega
       ·omega
      ·rw [decide_eq_false hc,if_neg (by decide)]
       refine aP (.inr ⟨_,rfl,⟨i0,i1⟩,by rw [Int.toNat_natCast]; exact hp,hs,by rw [Int.toNat_natCast]; exact h1,h2,fun z hz => ?_⟩)
       rw [Int.toNat_natCast] at hz
       obtain ⟨j,hj,hjn,rfl⟩ := aCh hz
       have := oD ha hjn hj
       omega
     ·rw [if_neg (by omega)]
      refine aP (.inr ⟨_,rfl,⟨i0,i1⟩,by rw [Int.toNat_natCast]; exact hp,hs,by rw [Int.toNat_natCast]; exact h1,h2,fun z hz => ?_⟩)
      rw [Int.toNat_natCast,List.drop_of_length_le (by omega)] at hz
      cases hz
    ·obtain ⟨⟨q0,q1⟩,qp,qs,g1,g2,g3⟩ := h31
     have hol : v31.2.length = v31.1.toNat + m := by
      have := qp.length_eq
      rw [List.length_append,List.length_take,List.length_take] at this
      omega
     refine jN (by simp; omega) (aP ⟨⟨q0,q1⟩,?_,?_,?_,?_⟩)
     ·rw [aAc hm, ← List.append_assoc]
      exact qp.append_right _
     ·exact grow qs fun y hy => g2 y hy _ (by rw [tE hm]; exact List.mem_cons_self ..)
     ·intro y hy z hz
      rcases List.mem_append.1 hy with hy | hy
      ·exact g1 y hy z hz
      ·rw [List.mem_singleton.1 hy]; exact g3 z hz
     ·intro y hy z hz
      rcases List.mem_append.1 hy with hy | hy
      ·exact g2 y hy z (by rw [tE hm]; exact List.mem_cons_of_mem _ hz)
      ·rw [List.mem_singleton.1 hy]
       obtain ⟨j,hj,hjn,rfl⟩ := aCh hz
       exact oD hb (by omega) hj
   all_goals (dsimp only; try rw [aT (x := (m : Int) + 1) (by omega) (by omega)])
   ·omega
   ·omega
   ·rw [show ((m : Int) + 1).toNat = m + 1 by omega]; exact h34.2.1
   ·rw [show ((m : Int) + 1).toNat = m + 1 by omega]; exact h34.2.2.2.2
   ·omega
  ·rw [show k.toNat = b.length by omega,List.take_length] at hp
   exact hp
 ·obtain ⟨⟨q0,q1⟩,qp,qs,g1⟩ := h35
  obtain ⟨n,hn⟩ : ∃ n : Nat,v35.1 = n := ⟨v35.1.toNat,by omega⟩
  rw [hn,Int.toNat_natCast] at qp g1
  have hol : v35.2.length = n + b.length := by
   have := qp.length_eq
   rw [List.length_append,List.length_take] at this
   omega
  rw [hn]
  refine jN (by omega) ?_
  rw [aDe]
  refine jN (by simp; omega) (aP ⟨?_,?_⟩)
  ·have e : (v35.2 ++ a.drop n).Perm ((a.take n ++ b) ++ a.drop n) := qp.append_right _
   refine e.trans ?_
   rw [List.append_assoc]
   have e2 : (a.take n ++ (b ++ a.drop n)).Perm (a.take n ++ (a.drop n ++ b)) := List.Perm.append_left _ List.perm_append_comm
   rw [← List.append_assoc (a.take n) (a.drop n) b,List.take_append_drop] at e2
   exact e2
  ·show List.Pairwise _ _
   rw [List.pairwise_append]
   refine ⟨qs,?_,g1⟩
   have := ha
   unfold mG at this
   rw [← List.take_append_drop n a,List.pairwise_append] at this
   exact this.2.1
theorem aGr : ∀ (f : Nat) {xs : List aZ},xs.length ≤ f → xs.length ≤ 100000 → Ok (jH (f + 1) xs) (fun r => r.Perm xs ∧ mG r)
 | f,xs,hf,hl => by
  unfold jH
  refine cG (fun h2 => aP ⟨.refl _,?_⟩) fun h2 => ?_
  ·match xs,h2 with
   | [],_ => exact .nil
   | [x],_ => exact List.pairwise_singleton ..
   | x :: y :: r,h => simp at h; omega
  ·obtain ⟨m,hm⟩ : ∃ m : Nat,(xs.length : Int).tdiv 2 = m := ⟨xs.length / 2,by rw [Int.tdiv_eq_ediv_of_nonneg (by omega)]; omega⟩
   have hm2 : m = xs.length / 2 := by rw [Int.tdiv_eq_ediv_of_nonneg (by omega)] at hm; omega
   rw [hm,aT (x := (m : Int)) (by omega) (by omega)]
   refine jN (by omega) (jN (by omega) ?_)
   rw [aN0,aDe]
   obtain ⟨g,rfl⟩ : ∃ g,f = g + 1 := ⟨f - 1,by omega⟩
   refine aW (aGr g (xs := xs.take m) (by rw [List.length_take]; omega) (by rw [List.length_take]; omega)) fun v4 h4 => ?_
   refine aW (aGr g (xs := xs.drop m) (by rw [List.length_drop]; omega) (by rw [List.length_drop]; omega)) fun v5 h5 => ?_
   have l4 := h4.1.length_eq
   have l5 := h5.1.length_eq
   rw [List.length_take] at l4
   rw [List.length_drop] at l5
   refine aW (aQl h4.2 h5.2 (by omega)) fun v6 h6 => aP ⟨?_,h6.2⟩
   have := h6.1.trans ((h4.1.append h5.1))
   rwa [List.take_append_drop] at this
theorem aS3 {xs : List aZ} (hl : xs.length ≤ 100000) : Ok (jH aM6 xs) (fun r => r.Perm xs ∧ mG r) := by
 have e : aM6 = (aM6 - 1) + 1 := by unfold aM6; rfl
 rw [e]
 exact aGr _ (by unfold aM6; omega) hl
theorem aRd {xs : List aZ} (hs : mG xs) (hl : xs.length ≤ 100000) (v : Int) : Ok (pV xs v) (fun k => (0 ≤ k ∧ k ≤ xs.length) ∧ (∀ (i : Nat) (hi : i < xs.length),(i : Int) < k → xs[i].value < v) ∧ ∀ (i : Nat) (hi : i < xs.length),k ≤ (i : Int) → v ≤ xs[i].value) := by
 unfold pV
 refine aW (P := fun (k : Int) => (0 ≤ k ∧ k ≤ xs.length) ∧ (∀ (i : Nat) (hi : i < xs.length),(i : Int) < k → xs[i].value < v) ∧ ∀ (i : Nat) (hi : i < xs.length),k ≤ (i : Int) → v ≤ xs[i].value) ?_ fun k h => aP h
 refine fB (I := fun (s : Int × Int) => (0 ≤ s.1 ∧ s.1 ≤ s.2 ∧ s.2 ≤ xs.length) ∧ (∀ (i : Nat) (hi : i < xs.length),(i : Int) < s.1 → xs[i].value < v) ∧ ∀ (i : Nat) (hi : i < xs.length),s.2 ≤ (i : Int) → v ≤ xs[i].value) (m := fun s => (s.2 - s.1).toNat) ?_ _ ⟨⟨by dsimp only; omega,by dsimp only; omega,by dsimp only; omega⟩,fun i hi h => by dsimp only at h; omega,fun i hi h => by dsimp only at h; omega⟩ (by dsimp only; omega)
 rintro ⟨a,b⟩ ⟨⟨a0,ab,b1⟩,h1,h2⟩
 dsimp only at a0 ab b1 h1 h2 ⊢
 refine cG (fun h => ?_) fun h => aP (.inr ⟨_,rfl,⟨a0,by omega⟩,h1,fun i hi hh => h2 i hi (by omega)⟩)
 have e : w64 ((w64 (a + b)).tdiv 2) = (a + b) / 2 := by
  rw [aT (x := a + b) (by omega) (by omega),Int.tdiv_eq_ediv_of_nonneg (by omega),aT (by omega) (by omega)]
 obtain ⟨m,hm⟩ : ∃ m : Nat,(a + b) / 2 = m := ⟨((a + b) / 2).toNat,by omega⟩
 rw [e,hm,eD (show m < xs.length by omega),Option.bind_some,aT (x := (m : Int) + 1) (by omega) (by omega)]
 refine cG (fun hv => aP (.inl ⟨_,rfl,⟨⟨by dsimp only; omega,by dsimp only; omega,b1⟩,fun i hi hh => ?_,h2⟩,by dsimp only; omega⟩)) fun hv => aP (.inl ⟨_,rfl,⟨⟨a0,by dsimp only; omega,by dsimp only; omega⟩,h1,fun i hi hh => ?_⟩,by dsimp only; omega⟩)
 ·dsimp only at hh
  have := oD hs (i := i) (j := m) (by omega) (by omega)
  omega
 ·dsimp only at hh
  have := oD hs (i := m) (j := i) (by omega) hi
  omega
end Go.Proofs.YtgcdbbidmfdonaaGreat
namespace Go.Proofs.YtgcdbbidmfdonaaGreat
set_option linter.unusedVariables false
set_option maxRecDepth 100000
def aBz (lo hi : Int) (n : Nat) (p : aZ) : Prop := p.teeth.length = n ∧ ∀ t ∈ p.teeth,lo ≤ t ∧ t ≤ hi
def aP0 (k : Int) : Nat := if k ≤ 0 then 1 else if k = 1 then 31 else if k = 2 then 961 else 29791
theorem aPf {k : Int} (h0 : 0 ≤ k) (h1 : k < 3) : aP0 (k + 1) = 31 * aP0 k ∧ aP0 k ≤ 961 := by
 have : k = 0 ∨ k = 1 ∨ k = 2 := by omega
 rcases this with rfl | rfl | rfl <;> decide
theorem aLy {lo hi cnt : Int} (l0 : 1 ≤ lo) (lh : lo ≤ hi) (h1 : hi ≤ 120) (sp : hi ≤ lo + 30) (c0 : 0 ≤ cnt) (c1 : cnt ≤ 3) : Ok (jA lo hi cnt) (fun xs => (1 ≤ xs.length ∧ xs.length ≤ aP0 cnt) ∧ ∀ p ∈ xs,aBz lo hi cnt.toNat p) := by
 unfold jA
 refine aW (P := fun (xs : List aZ) => (1 ≤ xs.length ∧ xs.length ≤ aP0 cnt) ∧ ∀ p ∈ xs,aBz lo hi cnt.toNat p) ?_ fun v h => aP h
 refine fB (I := fun (s : List aZ × Int) => (0 ≤ s.2 ∧ s.2 ≤ cnt) ∧ (1 ≤ s.1.length ∧ s.1.length ≤ aP0 s.2) ∧ ∀ p ∈ s.1,aBz lo hi s.2.toNat p) (m := fun s => (cnt - s.2).toNat) ?_ _ ⟨⟨by dsimp only; omega,by dsimp only; omega⟩,⟨by simp,by simp [aP0]⟩,fun p hp => by simp at hp; subst hp; exact ⟨rfl,fun t ht => by cases ht⟩⟩ (by dsimp only; omega)
 rintro ⟨xs,k⟩ ⟨⟨k0,k1⟩,⟨x0,x1⟩,xp⟩
 dsimp only at k0 k1 x0 x1 xp ⊢
 refine cG (fun hk => ?_) fun hk => aP (.inr ⟨_,rfl,?_⟩)
 ·obtain ⟨bs,bb⟩ := aPf k0 (show k < 3 by omega)
  refine aW (P := fun (ys : List aZ) => (1 ≤ ys.length ∧ ys.length ≤ aP0 (k + 1)) ∧ ∀ p ∈ ys,aBz lo hi (k + 1).toNat p) ?_ fun v74 h74 => aP (.inl ⟨_,rfl,⟨⟨?_,?_⟩,?_,?_⟩,?_⟩)
  ·refine aW (P := fun (ys : List aZ) => (1 ≤ ys.length ∧ ys.length ≤ aP0 (k + 1)) ∧ ∀ p ∈ ys,aBz lo hi (k + 1).toNat p) ?_ fun v h => aP h
   refine fB (I := fun (s : Int × List aZ) => (0 ≤ s.1 ∧ s.1 ≤ xs.length) ∧ ((s.2.length : Int) ≤ 31 * s.1 ∧ (0 < s.1 → 1 ≤ s.2.length)) ∧ ∀ p ∈ s.2,aBz lo hi (k + 1).toNat p) (m := fun s => (xs.length - s.1).toNat) ?_ _ ⟨⟨by dsimp only; omega,by dsimp only; omega⟩,⟨by simp,fun h => by simp at h⟩,fun p hp => by cases hp⟩ (by dsimp only; omega)
   rintro ⟨i,ys⟩ ⟨⟨i0,i1⟩,⟨y0,y1⟩,yp⟩
   dsimp only at i0 i1 y0 y1 yp ⊢
   refine cG (fun hin => ?_) fun hin => aP (.inr ⟨_,rfl,⟨y1 (by omega),by omega⟩,yp⟩)
   obtain ⟨n,rfl⟩ : ∃ n : Nat,i = n := ⟨i.toNat,by omega⟩
   have hn : n < xs.length := by omega
   obtain ⟨pl,pt⟩ := xp _ (List.getElem_mem hn)
   simp only [eD hn,Option.bind_some]
   refine aW (P := fun (zs : List aZ) => ((zs.length : Int) ≤ 31 * (n + 1) ∧ 1 ≤ zs.length) ∧ ∀ p ∈ zs,aBz lo hi (k + 1).toNat p) ?_ fun v72 h72 => aP (.inl ⟨_,rfl,⟨⟨?_,?_⟩,⟨?_,fun _ => h72.1.2⟩,h72.2⟩,?_⟩)
   ·refine aW (P := fun f => lo ≤ f ∧ f ≤ hi) (cG (fun hk0 => ?_) fun _ => aP ⟨Int.le_refl _,lh⟩) fun f hf => ?_
    ·rw [aT (x := k - 1) (by omega) (by omega)]
     refine aW (rW (i := k - 1) (by omega) (by rw [pl]; omega)) fun v58 h58 => aP (pt _ h58.1)
    ·refine fB (I := fun (s : Int × List aZ) => (f ≤ s.1 ∧ s.1 ≤ hi + 1) ∧ ((s.2.length : Int) ≤ 31 * n + (s.1 - f) ∧ (f < s.1 → 1 ≤ s.2.length)) ∧ ∀ p ∈ s.2,aBz lo hi (k + 1).toNat p) (m := fun s => (hi + 1 - s.1).toNat) ?_ _ ⟨⟨by dsimp only; omega,by dsimp only; omega⟩,⟨by dsimp only; omega,fun h => by dsimp only at h; omega⟩,yp⟩ (by dsimp only; omega)
     rintro ⟨t,zs⟩ ⟨⟨t0,t1⟩,⟨z0,z1⟩,zp⟩
     dsimp only at t0 t1 z0 z1 zp ⊢
     refine cG (fun ht => ?_) fun ht => aP (.inr ⟨_,rfl,⟨by omega,z1 (by omega)⟩,zp⟩)
     rw [zS (by omega),Option.bind_some]
     refine jN (by simp; omega) (jN (by simp; omega) (aP (.inl ⟨_,rfl,⟨⟨?_,?_⟩,⟨?_,fun _ => by simp⟩,?_⟩,?_⟩)))
     all_goals (dsimp only; try rw [aT (x := t + 1) (by omega) (by omega)])
     ·omega
     ·omega
     ·simp; omega
     ·intro p hp
      rcases List.mem_append.1 hp with hp | hp
      ·exact zp p hp
      ·rw [List.mem_singleton.1 hp]
       refine ⟨by simp [pl]; omega,fun u hu => ?_⟩
       rcases List.mem_append.1 hu with hu | hu
       ·exact pt u hu
       ·rw [List.mem_singleton.1 hu]; omega
     ·omega
   all_goals (dsimp only; try rw [aT (x := (n : Int) + 1) (by omega) (by omega)])
   ·omega
   ·omega
   ·exact h72.1.1
   ·omega
  all_goals (dsimp only; try rw [aT (x := k + 1) (by omega) (by omega)])
  ·omega
  ·omega
  ·exact h74.1
  ·exact h74.2
  ·omega
 ·rw [show k = cnt by omega] at x1 xp
  exact ⟨⟨x0,x1⟩,xp⟩
theorem aQu {a b : List Int} (ha : a.length ≤ 1000) (hab : a.length = b.length) : Ok (pT a b) (fun t => t.length = b.length ∧ ∀ p ∈ t,p.Driver ∈ a ∧ p.Driven ∈ b) := by
 unfold pT
 refine aW (aOm ha) fun v1 h1 => aW (aOm (show b.length ≤ 1000 by omega)) fun v2 h2 => ?_
 have l1 := h1.1.length_eq
 have l2 := h2.1.length_eq
 refine aW (P := fun (t : List dW) => t.length = b.length ∧ ∀ p ∈ t,p.Driver ∈ a ∧ p.Driven ∈ b) ?_ fun t h => aP h
 refine fB (I := fun (s : Int × List dW) => (0 ≤ s.1 ∧ s.1 ≤ v2.length) ∧ (s.2.length : Int) = s.1 ∧ ∀ p ∈ s.2,p.Driver ∈ a ∧ p.Driven ∈ b) (m := fun s => (v2.length - s.1).toNat) ?_ _ ⟨⟨by dsimp only; omega,by dsimp only; omega⟩,by simp,fun p hp => by cases hp⟩ (by dsimp only; omega)
 rintro ⟨i,out⟩ ⟨⟨i0,i1⟩,il,ip⟩
 dsimp only at i0 i1 il ip ⊢
 refine cG (fun hi => ?_) fun hi => aP (.inr ⟨_,rfl,by omega,ip⟩)
 rw [aT (x := (v1.length : Int) - 1) (by omega) (by omega),aT (x := (v1.length : Int) - 1 - i) (by omega) (by omega)]
 refine aW (rW (i := (v1.length : Int) - 1 - i) (by omega) (by omega)) fun v8 h8 => aW (rW (i := i) i0 hi) fun v9 h9 => jN (by simp; omega) (aP (.inl ⟨_,rfl,⟨⟨?_,?_⟩,?_,?_⟩,?_⟩))
 all_goals (dsimp only; try rw [aT (x := i + 1) (by omega) (by omega)])
 ·omega
 ·omega
 ·simp; omega
 ·intro p hp
  rcases List.mem_append.1 hp with hp | hp
  ·exact ip p hp
  ·rw [List.mem_singleton.1 hp]
   exact ⟨h1.1.mem_iff.1 h8.1,h2.1.mem_iff.1 h9.1⟩
 ·omega
theorem aRm {t : List dW} (hl : t.length ≤ 1000) : Ok (qQ t) (fun _ => True) := by
 unfold qQ
 refine aW (P := fun _ => True) ?_ fun v _ => aP trivial
 refine fB (I := fun (s : Int × Int) => 0 ≤ s.2 ∧ s.2 ≤ t.length) (m := fun s => (t.length - s.2).toNat) ?_ _ ⟨by dsimp only; omega,by dsimp only; omega⟩ (by dsimp only; omega)
 rintro ⟨k,i⟩ ⟨i0,i1⟩
 dsimp only at i0 i1 ⊢
 refine cG (fun hi => ?_) fun hi => aP (.inr ⟨_,rfl,trivial⟩)
 refine aW (rW i0 hi) fun v5 _ => aW (rW i0 hi) fun v6 _ => aP (.inl ⟨_,rfl,⟨?_,?_⟩,?_⟩)
 all_goals (dsimp only; rw [aT (x := i + 1) (by omega) (by omega)]; omega)
theorem aO2 {t : List dW} (hl : t.length ≤ 1000) (v : Int) {step : Int × List Int → Option ((Int × List Int) ⊕ List Int)} (hstep : ∀ s,step s = if s.1 < (t.length : Int) then ((atI t s.1).bind fun v8 => ((atI t s.1).bind fun v9 => (chk ((s.2.length + [v8.Driver,v9.Driven].length) * 1 * 64 ≤ 140737488355328) (some (.inl (w64 (s.1 + 1),s.2 ++ [v8.Driver,v9.Driven])))))) else some (.inr s.2)) : Ok (cM step (0,[v])) (fun xs => xs.length ≤ 3000) := by
 refine fB (I := fun (s : Int × List Int) => (0 ≤ s.1 ∧ s.1 ≤ t.length) ∧ (s.2.length : Int) = 1 + 2 * s.1) (m := fun s => (t.length - s.1).toNat) ?_ _ ⟨⟨by dsimp only; omega,by dsimp only; omega⟩,by simp⟩ (by dsimp only; omega)
 rintro ⟨i,xs⟩ ⟨⟨i0,i1⟩,il⟩
 dsimp only at i0 i1 il ⊢
 rw [hstep]
 dsimp only
 refine cG (fun hi => ?_) fun hi => aP (.inr ⟨_,rfl,by omega⟩)
 refine aW (rW i0 hi) fun v5 _ => aW (rW i0 hi) fun v6 _ => jN (by simp; omega) (aP (.inl ⟨_,rfl,⟨⟨?_,?_⟩,?_⟩,?_⟩))
 all_goals (dsimp only; try rw [aT (x := i + 1) (by omega) (by omega)])
 ·omega
 ·omega
 ·simp; omega
 ·omega
theorem aMr {a b : List dW} (ha : a.length ≤ 1000) (hb : b.length ≤ 1000) : Ok (lU a b) (fun _ => True) := by
 unfold lU
 refine aW (aRm ha) fun v1 _ => aW (aRm hb) fun v2 _ => ?_
 refine aW (aO2 ha v1 fun s => rfl) fun xs hx => aW (aO2 hb v2 fun s => rfl) fun ys hy => ?_
 refine aW (P := fun _ => True) ?_ fun v33 _ => ?_
 ·refine fB (I := fun (s : Int) => 0 ≤ s ∧ s ≤ xs.length) (m := fun s => (xs.length - s).toNat) ?_ _ ⟨by omega,by omega⟩ (by omega)
  rintro i ⟨i0,i1⟩
  refine aW (P := fun b => b = true → i < xs.length ∧ i < ys.length) (cG (fun h1 => aP fun h2 => ⟨h1,of_decide_eq_true h2⟩) fun _ => aP fun h => by cases h) fun b hb => cG (fun hbt => ?_) fun _ => aP (.inr ⟨_,rfl,trivial⟩)
  obtain ⟨j1,j2⟩ := hb hbt
  refine aW (rW i0 j1) fun v29 _ => aW (rW i0 j2) fun v30 _ => cG (fun _ => aP (.inr ⟨_,rfl,trivial⟩)) fun _ => ?_
  refine aW (rW i0 j1) fun v31 _ => aW (rW i0 j2) fun v32 _ => cG (fun _ => aP (.inr ⟨_,rfl,trivial⟩)) fun _ => aP (.inl ⟨_,rfl,⟨?_,?_⟩,?_⟩)
  all_goals (rw [aT (x := i + 1) (by omega) (by omega)]; omega)
 ·cases v33 with
  | inr z => exact aP trivial
  | inl u =>
   unfold iC oX
   refine aW (P := fun _ => True) ?_ fun _ _ => aP trivial
   simp only [Option.bind_some]
   exact cG (fun _ => aP trivial) fun _ => cG (fun _ => aP trivial) fun _ => aP trivial
def trI (t : List dW) : Prop := t.length = 2 ∧ ∀ p ∈ t,(60 ≤ p.Driver ∧ p.Driver ≤ 84) ∧ 7 ≤ p.Driven ∧ p.Driven ≤ 10
theorem aN6 {s : fH} (r : aJ) {a b : aZ} (ha : aBz 60 84 2 a) (hb : aBz 7 10 2 b) (hs : s.train = [] ∨ trI s.train) : Ok (hH s r a b) (fun s' => trI s'.train) := by
 unfold hH
 refine aW (P := fun _ => True) (by unfold iI; exact cG (fun _ => aP trivial) fun _ => aP trivial) fun v1 _ => ?_
 have hg : s.train ≠ [] → trI s.train := fun h => hs.resolve_left h
 have hl : s.train.length ≤ 2 := by
  rcases hs with h | h
  ·rw [h]; simp
  ·rw [h.1]; omega
 refine aW (P := fun b => b = true → s.train ≠ []) (cG (fun h => aP fun _ e => by rw [e] at h; simp at h) fun _ => aP fun h => by cases h) fun v2 h2 => cG (fun h => aP (hg (h2 h))) fun _ => ?_
 refine aW (aQu (a := a.teeth) (b := b.teeth) (by rw [ha.1]; omega) (by rw [ha.1,hb.1])) fun t ht => ?_
 have hT : trI t := ⟨by rw [ht.1,hb.1],fun p hp => ⟨ha.2 _ (ht.2 p hp).1,hb.2 _ (ht.2 p hp).2⟩⟩
 refine aW (P := fun b => b = false → s.train ≠ []) ?_ fun v5 h5 => cG (fun _ => aP hT) fun h => aP (hg (h5 (by simpa using h)))
 refine cG (fun _ => aP fun h => by cases h) fun hne => ?_
 have hne' : s.train ≠ [] := fun e => hne (by rw [e]; rfl)
 refine cG (fun _ => aP fun _ => hne') fun _ => aW (aMr (by rw [hT.1]; omega) (by omega)) fun v4 _ => aP fun _ => hne'
theorem aN3 {r : aJ} (hr : r.Num ≠ 0) : Ok (nE r ⟨60,84,7,10,2⟩) trI := by
 unfold nE
 refine aW (aLy (lo := 60) (hi := 84) (cnt := 2) (by decide) (by decide) (by decide) (by decide) (by decide) (by decide)) fun v1 h1 => ?_
 refine aW (aLy (lo := 7) (hi := 10) (cnt := 2) (by decide) (by decide) (by decide) (by decide) (by decide) (by decide)) fun v2 h2 => ?_
 have e2 : aP0 2 = 961 := by decide
 rw [e2] at h1 h2
 refine aW (aS3 (by omega)) fun v3 h3 => ?_
 have l3 := h3.1.length_eq
 have p3 : ∀ p ∈ v3,aBz 7 10 2 p := fun p hp => h2.2 p (h3.1.mem_iff.1 hp)
 have p1 : ∀ p ∈ v1,aBz 60 84 2 p := h1.2
 refine aW (P := fun (s : fH) => trI s.train) ?_ fun v70 h70 => aP h70
 refine fB (I := fun (s : Int × fH) => (0 ≤ s.1 ∧ s.1 ≤ v1.length) ∧ (s.2.train = [] ∨ trI s.2.train) ∧ (0 < s.1 → trI s.2.train)) (m := fun s => (v1.length - s.1).toNat) ?_ _ ⟨⟨by dsimp only; omega,by dsimp only; omega⟩, .inl rfl,fun h => by dsimp only at h; omega⟩ (by dsimp only; omega)
 rintro ⟨i,s⟩ ⟨⟨i0,i1⟩,hs,hp⟩
 dsimp only at i0 i1 hs hp ⊢
 refine cG (fun hi => ?_) fun hi => aP (.inr ⟨_,rfl,hp (by omega)⟩)
 obtain ⟨n,rfl⟩ : ∃ n : Nat,i = n := ⟨i.toNat,by omega⟩
 have hn : n < v1.length := by omega
 have pn := p1 _ (List.getElem_mem hn)
 simp only [eD hn,Option.bind_some]
 refine aW (P := fun (s : fH) => trI s.train) ?_ fun v69 h69 => aP (.inl ⟨_,rfl,⟨⟨?_,?_⟩, .inr h69,fun _ => h69⟩,?_⟩)
 ·refine jN hr (aW (aRd h3.2 (by omega) _) fun k hk => ?_)
  obtain ⟨⟨k0,k1⟩,_⟩ := hk
  refine aW (P := fun (s : fH) => (s.train = [] ∨ trI s.train) ∧ (0 < k → trI s.train)) ?_ fun v54 h54 => ?_
  ·refine cG (fun hk => ?_) fun hk => aP ⟨hs,fun h => absurd h hk⟩
   rw [aT (x := k - 1) (by omega) (by omega)]
   obtain ⟨q,hq⟩ : ∃ q : Nat,k - 1 = q := ⟨(k - 1).toNat,by omega⟩
   have hq1 : q < v3.length := by omega
   rw [hq,eD hq1,Option.bind_some]
   refine aSy (P := fun (s : fH) => trI s.train) ?_ fun s h => ⟨.inr h,fun _ => h⟩
   refine fB (I := fun (x : Int × fH) => (-1 ≤ x.1 ∧ x.1 ≤ q) ∧ (x.2.train = [] ∨ trI x.2.train) ∧ (x.1 < q → trI x.2.train)) (m := fun x => (x.1 + 1).toNat) ?_ _ ⟨⟨by dsimp only; omega,by dsimp only; omega⟩,hs,fun h => by dsimp only at h; omega⟩ (by dsimp only; omega)
   rintro ⟨j,u⟩ ⟨⟨j0,j1⟩,hu,hg⟩
   dsimp only at j0 j1 hu hg ⊢
   by_cases hj : 0 ≤ j
   ·obtain ⟨m,rfl⟩ : ∃ m : Nat,j = m := ⟨j.toNat,by omega⟩
    have hm : m < v3.length := by omega
    rw [if_pos hj]
    simp only [eD hm,Option.bind_some]
    refine cG (fun _ => aW (aN6 r pn (p3 _ (List.getElem_mem hm)) hu) fun w hw => aP (.inl ⟨_,rfl,⟨⟨?_,?_⟩, .inr hw,fun _ => hw⟩,?_⟩)) fun hne => aP (.inr ⟨_,rfl,?_⟩)
    ·dsimp only; rw [aT (x := (m : Int) - 1) (by omega) (by omega)]; omega
    ·dsimp only; rw [aT (x := (m : Int) - 1) (by omega) (by omega)]; omega
    ·dsimp only; rw [aT (x := (m : Int) - 1) (by omega) (by omega)]; omega
    ·rcases Int.lt_or_le (m : Int) q with h | h
     ·exact hg h
     ·have : m = q := by omega
      subst this
      simp at hne
   ·rw [if_neg hj,Option.bind_some,if_neg (by decide)]
    exact aP (.inr ⟨_,rfl,hg (by omega)⟩)
  ·refine fB (I := fun (x : Int × fH) => (k ≤ x.1 ∧ x.1 ≤ v3.length) ∧ (x.2.train = [] ∨ trI x.2.train) ∧ (0 < k → trI x.2.train) ∧ (k < x.1 → trI x.2.train)) (m := fun x => (v3.length - x.1).toNat) ?_ _ ⟨⟨by dsimp only; omega,by dsimp only; omega⟩,h54.1,h54.2,fun h => by dsimp only at h; omega⟩ (by dsimp only; omega)
   rintro ⟨j,u⟩ ⟨⟨j0,j1⟩,hu,hg,hg2⟩
   dsimp only at j0 j1 hu hg hg2 ⊢
   by_cases hj : j < v3.length
   ·obtain ⟨m,rfl⟩ : ∃ m : Nat,j = m := ⟨j.toNat,by omega⟩
    obtain ⟨q,rfl⟩ : ∃ q : Nat,k = q := ⟨k.toNat,by omega⟩
    have hm : m < v3.length := by omega
    have hq : q < v3.length := by omega
    rw [if_pos hj]
    simp only [eD hm,eD hq,Option.bind_some]
    refine cG (fun _ => aW (aN6 r pn (p3 _ (List.getElem_mem hm)) hu) fun w hw => aP (.inl ⟨_,rfl,⟨⟨?_,?_⟩, .inr hw,fun _ => hw,fun _ => hw⟩,?_⟩)) fun hne => aP (.inr ⟨_,rfl,?_⟩)
    ·dsimp only; rw [aT (x := (m : Int) + 1) (by omega) (by omega)]; omega
    ·dsimp only; rw [aT (x := (m : Int) + 1) (by omega) (by omega)]; omega
    ·dsimp only; rw [aT (x := (m : Int) + 1) (by omega) (by omega)]; omega
    ·rcases Int.lt_or_le (q : Int) m with h | h
     ·exact hg2 h
     ·have : m = q := by omega
      subst this
      simp at hne
   ·rw [if_neg hj,Option.bind_some,if_neg (by decide)]
    refine aP (.inr ⟨_,rfl,?_⟩)
    rcases Int.lt_or_le k j with h | h
    ·exact hg2 h
    ·exact hg (by omega)
 all_goals (dsimp only; rw [aT (x := (n : Int) + 1) (by omega) (by omega)]; omega)
end Go.Proofs.YtgcdbbidmfdonaaGreat
namespace Go.Proofs.YtgcdbbidmfdonaaGreat
set_option linter.unusedVariables false
set_option maxRecDepth 100000
def aPt : ByteArray := ⟨#[99,101,110,116,101,114]⟩
def aRn : ByteArray := ⟨#[116,104,105,114,100]⟩
def aNy : ByteArray := ⟨#[101,115,99,97,112,101]⟩
def aO9 : ByteArray := ⟨#[109,105,110,117,116,101]⟩
def aTc : ByteArray := ⟨#[104,111,117,114]⟩
def wkT (a b c d : Int) : bJ := ⟨[⟨aPt,[a,12]⟩,⟨aRn,[b,c]⟩,⟨aNy,[d]⟩,⟨aO9,[36,10]⟩,⟨aTc,[40]⟩],[⟨0,0,1,0⟩,⟨1,1,2,0⟩,⟨0,1,3,0⟩,⟨3,1,4,0⟩]⟩
def v1T (a b : Int) : aJ := (gJ ⟨1,1⟩ a b).1
def v2T (a b c d : Int) : aJ := (gJ (v1T a b) c d).1
def tth (t : Int) : Prop := 6 ≤ t ∧ t ≤ 240
theorem aUa {a b c d : Int} (ha : tth a) (hb : tth b) (hc : tth c) (hd : tth d) : aAy (wkT a b c d) = true := by
 have n1 : mH aPt = true := by decide
 have n2 : mH aRn = true := by decide
 have n3 : mH aNy = true := by decide
 have n4 : mH aO9 = true := by decide
 have n5 : mH aTc = true := by decide
 have t : ∀ x,tth x → iN x = true := fun x h => decide_eq_true h
 have ta := t a ha
 have tb := t b hb
 have tc := t c hc
 have td := t d hd
 have q1 : iN 12 = true := by decide
 have q2 : iN 36 = true := by decide
 have q3 : iN 10 = true := by decide
 have q4 : iN 40 = true := by decide
 refine mA.2 ⟨by simp [wkT],by simp [wkT],fun i hi => ?_,fun i hi => ?_⟩
 ·have : i = 0 ∨ i = 1 ∨ i = 2 ∨ i = 3 ∨ i = 4 := by simp [wkT] at hi; omega
  rcases this with rfl | rfl | rfl | rfl | rfl
  ·exact ⟨by simp [aE4,wkT,n1,ta,q1],rfl⟩
  ·exact ⟨by simp [aE4,wkT,n2,tb,tc],rfl⟩
  ·exact ⟨by simp [aE4,wkT,n3,td],rfl⟩
  ·exact ⟨by simp [aE4,wkT,n4,q2,q3],rfl⟩
  ·exact ⟨by simp [aE4,wkT,n5,q4],rfl⟩
 ·have : i = 0 ∨ i = 1 ∨ i = 2 ∨ i = 3 := by simp [wkT] at hi; omega
  rcases this with rfl | rfl | rfl | rfl
  ·exact ⟨jL.2 ⟨by simp [wkT],rfl,rfl⟩,rfl⟩
  ·exact ⟨jL.2 ⟨by simp [wkT],rfl,rfl⟩,rfl⟩
  ·exact ⟨jL.2 ⟨by simp [wkT],rfl,rfl⟩,rfl⟩
  ·exact ⟨jL.2 ⟨by simp [wkT],rfl,rfl⟩,rfl⟩
theorem aPu {a b c d : Int} (ha : tth a) (hb : tth b) (hc : tth c) (hd : tth d) (h1 : (gJ ⟨1,1⟩ a b).2 = true) (h2 : (gJ (v1T a b) c d).2 = true) : gE (wkT a b c d) 0 = ([⟨1,1⟩,v1T a b,v2T a b c d,⟨-1,3⟩,⟨1,12⟩],0) := by
 have k0 : KnR ⟨1,1⟩ := ⟨by decide,by decide⟩
 have k1 : KnR (v1T a b) := iV k0 ha.1 ha.2 hb.1 hb.2 h1
 have k2 : KnR (v2T a b c d) := iV k1 hc.1 hc.2 hd.1 hd.2 h2
 have d1 := k1.den
 have d2 := k2.den
 have e3 : gJ ⟨1,1⟩ 12 36 = (⟨-1,3⟩,true) := by decide
 have e4 : gJ ⟨-1,3⟩ 10 40 = (⟨1,12⟩,true) := by decide
 have f1 : gJ ⟨1,1⟩ a b = (v1T a b,true) := Prod.ext rfl h1
 have f2 : gJ (v1T a b) c d = (v2T a b c d,true) := Prod.ext rfl h2
 have hO : ((0 : Int) = 0) = True := by simp
 have p1 : eS (wkT a b c d) ⟨0,0,1,0⟩ = ⟨a,b⟩ := rfl
 have p2 : eS (wkT a b c d) ⟨1,1,2,0⟩ = ⟨c,d⟩ := rfl
 have p3 : eS (wkT a b c d) ⟨0,1,3,0⟩ = ⟨12,36⟩ := rfl
 have p4 : eS (wkT a b c d) ⟨3,1,4,0⟩ = ⟨10,40⟩ := rfl
 generalize hw : wkT a b c d = w at *
 generalize v1T a b = v1 at *
 generalize v2T a b c d = v2 at *
 have s1 : lA w ⟨0,0,1,0⟩ (false,[⟨1,1⟩,⟨0,0⟩,⟨0,0⟩,⟨0,0⟩,⟨0,0⟩]) = .inl (true,[⟨1,1⟩,v1,⟨0,0⟩,⟨0,0⟩,⟨0,0⟩]) := by simp [lA,kH,p1,f1]
 have s2 : lA w ⟨1,1,2,0⟩ (true,[⟨1,1⟩,v1,⟨0,0⟩,⟨0,0⟩,⟨0,0⟩]) = .inl (true,[⟨1,1⟩,v1,v2,⟨0,0⟩,⟨0,0⟩]) := by simp [lA,kH,p2,f2,d1]
 have s3 : lA w ⟨0,1,3,0⟩ (true,[⟨1,1⟩,v1,v2,⟨0,0⟩,⟨0,0⟩]) = .inl (true,[⟨1,1⟩,v1,v2,⟨-1,3⟩,⟨0,0⟩]) := by simp [lA,kH,p3,e3]
 have s4 : lA w ⟨3,1,4,0⟩ (true,[⟨1,1⟩,v1,v2,⟨-1,3⟩,⟨0,0⟩]) = .inl (true,[⟨1,1⟩,v1,v2,⟨-1,3⟩,⟨1,12⟩]) := by simp [lA,kH,p4,e4]
 have u1 : lA w ⟨0,0,1,0⟩ (false,[⟨1,1⟩,v1,v2,⟨-1,3⟩,⟨1,12⟩]) = .inl (false,[⟨1,1⟩,v1,v2,⟨-1,3⟩,⟨1,12⟩]) := by simp [lA,kH,d1]
 have u2 : lA w ⟨1,1,2,0⟩ (false,[⟨1,1⟩,v1,v2,⟨-1,3⟩,⟨1,12⟩]) = .inl (false,[⟨1,1⟩,v1,v2,⟨-1,3⟩,⟨1,12⟩]) := by simp [lA,kH,d1,d2]
 have u3 : lA w ⟨0,1,3,0⟩ (false,[⟨1,1⟩,v1,v2,⟨-1,3⟩,⟨1,12⟩]) = .inl (false,[⟨1,1⟩,v1,v2,⟨-1,3⟩,⟨1,12⟩]) := by simp [lA,kH]
 have u4 : lA w ⟨3,1,4,0⟩ (false,[⟨1,1⟩,v1,v2,⟨-1,3⟩,⟨1,12⟩]) = .inl (false,[⟨1,1⟩,v1,v2,⟨-1,3⟩,⟨1,12⟩]) := by simp [lA,kH]
 have wm : w.Meshes = [⟨0,0,1,0⟩,⟨1,1,2,0⟩,⟨0,1,3,0⟩,⟨3,1,4,0⟩] := by rw [← hw]; rfl
 have r1 : jO w w.Meshes (false,[⟨1,1⟩,⟨0,0⟩,⟨0,0⟩,⟨0,0⟩,⟨0,0⟩]) = .inl (true,[⟨1,1⟩,v1,v2,⟨-1,3⟩,⟨1,12⟩]) := by
  rw [wm]; simp only [jO,s1,s2,s3,s4]
 have r2 : jO w w.Meshes (false,[⟨1,1⟩,v1,v2,⟨-1,3⟩,⟨1,12⟩]) = .inl (false,[⟨1,1⟩,v1,v2,⟨-1,3⟩,⟨1,12⟩]) := by
  rw [wm]; simp only [jO,u1,u2,u3,u4]
 have hs : start w 0 = [⟨1,1⟩,⟨0,0⟩,⟨0,0⟩,⟨0,0⟩,⟨0,0⟩] := by rw [← hw]; rfl
 have hn : vH (start w 0) = 4 := by rw [hs]; rfl
 have hi : yF w 0 = true := by rw [← hw]; rfl
 have hp : iO w (vH (start w 0) + 1) (start w 0) = .inl [⟨1,1⟩,v1,v2,⟨-1,3⟩,⟨1,12⟩] := by
  rw [hn,hs]
  show (match jO w w.Meshes (false,[⟨1,1⟩,⟨0,0⟩,⟨0,0⟩,⟨0,0⟩,⟨0,0⟩]) with
   | .inr u => .inr u
   | .inl (true,sp') => iO w 4 sp'
   | .inl (false,sp') => .inl sp' : List aJ ⊕ Unit) = _
  rw [r1]
  show (match jO w w.Meshes (false,[⟨1,1⟩,v1,v2,⟨-1,3⟩,⟨1,12⟩]) with
   | .inr u => .inr u
   | .inl (true,sp') => iO w 3 sp'
   | .inl (false,sp') => .inl sp' : List aJ ⊕ Unit) = _
  rw [r2]
 unfold gE
 rw [if_pos hi,hp]
 have hz : ([⟨1,1⟩,v1,v2,⟨-1,3⟩,⟨1,12⟩] : List aJ).any (fun r => decide (r.Den = 0)) = false := by simp [d1,d2]
 have hf : w.Meshes.all (aPw w [⟨1,1⟩,v1,v2,⟨-1,3⟩,⟨1,12⟩]) = true := by
  rw [wm]; simp [aPw,kH,p1,p2,p3,p4,f1,f2,e3,e4]
 dsimp only
 rw [hz,if_neg (by decide),if_pos hf]
theorem aNm {n d : Int} (hd : 0 < d) (h : (mkR n d).2 = true) : (mkR n d).1.Num * d = n * (mkR n d).1.Den := by
 unfold mkR at h ⊢
 split at h
 ·cases h
 ·rename_i hc
  rw [if_neg hc]
  have hg : 0 < Int.gcd n d := uG (by omega)
  obtain ⟨x,hx⟩ := Int.gcd_dvd_left n d
  obtain ⟨y,hy⟩ := Int.gcd_dvd_right n d
  generalize (Int.gcd n d) = g at *
  have hg' : (g : Int) ≠ 0 := by omega
  have ed : kJ d = (g : Int) * y := by unfold kJ; omega
  dsimp only
  rw [ed,Int.mul_ediv_cancel_left _ hg',decide_eq_false (show ¬ d < 0 by omega)]
  by_cases hn : n < 0
  ·have en : kJ n = (g : Int) * (-x) := by rw [Int.mul_neg]; unfold kJ; omega
   rw [decide_eq_true hn,en,Int.mul_ediv_cancel_left _ hg']
   simp only [bne_iff_ne,ne_eq,Bool.true_eq_false,not_false_eq_true,if_true,Int.neg_neg]
   rw [hy,hx,Int.mul_comm (g : Int) x,Int.mul_comm (g : Int) y,Int.mul_assoc,Int.mul_comm (g : Int) y]
  ·have en : kJ n = (g : Int) * x := by unfold kJ; omega
   rw [decide_eq_false hn,en,Int.mul_ediv_cancel_left _ hg']
   simp only [bne_self_eq_false,Bool.false_eq_true,if_false]
   grind
def mvT (nm : ByteArray) (a b c d teeth beats : Int) (cal : aA) (cam : List Int) (st : Int) : aX := ⟨nm,wkT a b c d,0,4,2,teeth,beats,cal,cam,st⟩
theorem aRh {nm : ByteArray} {a b c d teeth beats : Int} {cal : aA} {cam : List Int} {st : Int} (hn : mH nm = true) (ha : tth a) (hb : tth b) (hc : tth c) (hd : tth d) (ht : tth teeth) (h0 : 1 ≤ beats ∧ beats ≤ 36000) (hk : vI cal cam = 0) (hs : 0 ≤ st ∧ st ≤ 2) : vM (mvT nm a b c d teeth beats cal cam st) = true := by
 obtain ⟨k1,k2,k3,_⟩ := kE hk
 have e1 : iN teeth = true := decide_eq_true ht
 have e2 : btw beats 1 36000 = true := decide_eq_true h0
 have e3 : btw st 0 2 = true := decide_eq_true hs
 have e4 := aUa ha hb hc hd
 unfold vM mvT
 simp only [hn,e1,e2,e3,e4,k1,k2,Bool.and_true,Bool.true_and]
 rfl
theorem aHi {nm : ByteArray} {a b c d teeth beats : Int} {cal : aA} {cam : List Int} {st : Int} (ha : tth a) (hb : tth b) (hc : tth c) (hd : tth d) (ht : tth teeth) (h0 : 1 ≤ beats ∧ beats ≤ 36000) (hk : vI cal cam = 0) (h1 : (gJ ⟨1,1⟩ a b).2 = true) (h2 : (gJ (v1T a b) c d).2 = true) (he : 2 * teeth * kJ (v2T a b c d).Num = beats * (v2T a b c d).Den) : gR (mvT nm a b c d teeth beats cal cam st) = [] := by
 obtain ⟨k1,k2,k3,_⟩ := kE hk
 have k0 : KnR ⟨1,1⟩ := ⟨by decide,by decide⟩
 have kv1 : KnR (v1T a b) := iV k0 ha.1 ha.2 hb.1 hb.2 h1
 have kv2 : KnR (v2T a b c d) := iV kv1 hc.1 hc.2 hd.1 hd.2 h2
 obtain ⟨g0,g1,g2,g3⟩ := xX kv2.1
 have hsp := aPu ha hb hc hd h1 h2
 obtain ⟨t0,t1⟩ := ht
 obtain ⟨b0,b1⟩ := h0
 have hab : 0 ≤ kJ (v2T a b c d).Num ∧ kJ (v2T a b c d).Num ≤ 1000000000 := by unfold kJ; omega
 have q1 : 0 ≤ beats * (v2T a b c d).Den := Int.mul_nonneg (by omega) (by omega)
 have q2 : beats * (v2T a b c d).Den ≤ 36000 * 1000000000 := Int.mul_le_mul b1 g1 (by omega) (by omega)
 unfold gR mvT
 dsimp only
 rw [hsp]
 dsimp only
 rw [if_pos rfl,if_pos k3]
 have hbe : aHp ⟨nm,wkT a b c d,0,4,2,teeth,beats,cal,cam,st⟩ (v2T a b c d) = true := by
  unfold aHp
  dsimp only
  rw [aT (x := 2 * teeth) (by omega) (by omega),he]
  exact decide_eq_true rfl
 have e1 : kH [⟨1,1⟩,v1T a b,v2T a b c d,⟨-1,3⟩,⟨1,12⟩] 4 = ⟨1,12⟩ := rfl
 have e2 : kH [⟨1,1⟩,v1T a b,v2T a b c d,⟨-1,3⟩,⟨1,12⟩] 2 = v2T a b c d := rfl
 rw [e1,e2,if_pos rfl,if_pos hbe]
 rfl
end Go.Proofs.YtgcdbbidmfdonaaGreat
namespace Go.Proofs.YtgcdbbidmfdonaaGreat
set_option linter.unusedVariables false
set_option maxRecDepth 100000
theorem aCc {s : ByteArray} (h : mH s = true) : smS s := by
 unfold mH at h
 simp only [Bool.and_eq_true,decide_eq_true_eq] at h
 unfold smS; omega
theorem aLd {c : aA} (h : mV c = true) : yM c := by
 obtain ⟨h1,h2,h3,h4,h5,h6,h7⟩ := dT h
 refine ⟨aCc h1,⟨by omega,fun m hm => ⟨?_,trivial,trivial⟩⟩,⟨by omega,fun _ _ => ⟨trivial,trivial,trivial⟩⟩,trivial⟩
 obtain ⟨i,hi,rfl⟩ := List.getElem_of_mem hm
 have := xL.1 h5 i hi
 rw [Bool.and_eq_true] at this
 have q := this.1
 unfold aNq at q
 rw [Bool.and_eq_true] at q
 exact aCc q.1
theorem aPi {m : aX} (h : vM m = true) : iG m := by
 have hc := sM h
 obtain ⟨hw,_⟩ := aF3 h
 have hn : mH m.Name = true := by unfold vM at h; rw [Bool.and_eq_true] at h; exact h.1
 obtain ⟨w1,w2,w3,w4⟩ := mA.1 hw
 refine ⟨aCc hn,⟨⟨by omega,fun a ha => ?_⟩,⟨by omega,fun _ _ => ⟨trivial,trivial,trivial,trivial⟩⟩⟩,trivial,trivial,trivial,trivial,trivial,aLd hc.1,⟨by have := (lB hc.2).2.2; omega,fun _ _ => trivial⟩,trivial⟩
 have q := aPg hw a ha
 unfold aE4 at q
 simp only [Bool.and_eq_true,decide_eq_true_eq] at q
 exact ⟨aCc q.2.1,by have := q.2.2; omega,fun _ _ => trivial⟩
def aMg (t : List dW) (v : aJ) : Prop := ∃ a b c d : Int,t = [⟨a,b⟩,⟨c,d⟩] ∧ (tth a ∧ tth b ∧ tth c ∧ tth d) ∧ (gJ ⟨1,1⟩ a b).2 = true ∧ (gJ (v1T a b) c d).2 = true ∧ v = v2T a b c d
theorem aN2 {t : List dW} (h : trI t) : ∃ a b c d : Int,t = [⟨a,b⟩,⟨c,d⟩] ∧ tth a ∧ tth b ∧ tth c ∧ tth d := by
 obtain ⟨hl,hp⟩ := h
 match t,hl,hp with
 | [⟨a,b⟩,⟨c,d⟩],_,hp =>
  have h1 := hp ⟨a,b⟩ (by simp)
  have h2 := hp ⟨c,d⟩ (by simp)
  dsimp only at h1 h2
  exact ⟨a,b,c,d,rfl,⟨by omega,by omega⟩,⟨by omega,by omega⟩,⟨by omega,by omega⟩,⟨by omega,by omega⟩⟩
theorem aIw {v : aJ} (hv : KnR v) {t u : Int} (ht : tth t) (hu : tth u) : ((fM (w64 (-t)) u).bind fun x => iR v x.1) = some (gJ v t u) := by
 obtain ⟨t0,t1⟩ := ht
 obtain ⟨u0,u1⟩ := hu
 obtain ⟨h1,h2,h3⟩ := xK t0 t1 u0 u1
 rw [aT (x := -t) (by omega) (by omega),kQ ⟨by omega,by omega⟩ ⟨by omega,by omega⟩ (by omega),Option.bind_some,uP hv.1 h2]; rfl
theorem aQ6 {t : List dW} (h : trI t) : Ok (qA t) (fun r => r.2 = true → aMg t r.1) := by
 obtain ⟨a,b,c,d,rfl,ha,hb,hc,hd⟩ := aN2 h
 have k0 : KnR ⟨1,1⟩ := ⟨by decide,by decide⟩
 unfold qA iC
 rw [Option.bind_some]
 have key := xB (xs := [(⟨a,b⟩ : dW),⟨c,d⟩]) (X := aJ ⊕ (aJ × Bool)) (S := Int × aJ) (step := fun s7 : Int × aJ =>
  (if s7.1 < (([(⟨a,b⟩ : dW),⟨c,d⟩]).length : Int) then ((atI [(⟨a,b⟩ : dW),⟨c,d⟩] s7.1).bind fun v8 => ((atI [(⟨a,b⟩ : dW),⟨c,d⟩] s7.1).bind fun v9 => ((fM (w64 (-v8.Driver)) v9.Driven).bind fun v10 => ((iR s7.2 v10.1).bind fun v11 => (if (!v11.2) = true then some (.inr (.inr ((⟨0,0⟩ : aJ),false))) else some (.inl (w64 (s7.1 + 1),v11.1))))))) else some (.inr (.inl s7.2)))) (fun i s => (i,s)) (fun _ (p : dW) s => ((fM (w64 (-p.Driver)) p.Driven).bind fun x => iR s x.1).bind fun v11 => (if (!v11.2) = true then some (.inr (.inr ((⟨0,0⟩ : aJ),false))) else some (.inl v11.1))) .inl (by simp) (fun i hi s => by
   have hi' : (i : Int) < (([(⟨a,b⟩ : dW),⟨c,d⟩]).length : Int) := by omega
   have hi2 : i < 2 := hi
   simp only [if_pos hi',eD hi,Option.bind_some,aT (x := (i : Int) + 1) (by omega) (by omega)]
   cases hm : fM (w64 (-[(⟨a,b⟩ : dW),⟨c,d⟩][i].Driver)) [(⟨a,b⟩ : dW),⟨c,d⟩][i].Driven with
   | none => rfl
   | some x =>
    simp only [Option.bind_some]
    cases hq : iR s x.1 with
    | none => rfl
    | some y => simp only [Option.bind_some]; split <;> rfl) (fun s => by simp) (⟨1,1⟩ : aJ)
 rw [key]
 simp only [aM7,aIw k0 ha hb,Option.bind_some]
 by_cases h1 : (gJ ⟨1,1⟩ a b).2 = true
 ·rw [h1]
  simp only [Bool.not_true,Bool.false_eq_true,if_false,Option.bind_some]
  have k1 : KnR (v1T a b) := iV k0 ha.1 ha.2 hb.1 hb.2 h1
  have e := aIw k1 hc hd
  unfold v1T at e
  rw [e,Option.bind_some]
  by_cases h2 : (gJ (gJ ⟨1,1⟩ a b).1 c d).2 = true
  ·rw [h2]
   exact aP fun _ => ⟨a,b,c,d,rfl,⟨ha,hb,hc,hd⟩,h1,h2,rfl⟩
  ·rw [Bool.not_eq_true] at h2
   rw [h2]
   exact aP fun h => by cases h
 ·rw [Bool.not_eq_true] at h1
  rw [h1]
  exact aP fun h => by cases h
theorem aNt {t : List dW} {v : aJ} (h : aMg t v) : KnR v := by
 obtain ⟨a,b,c,d,rfl,⟨ha,hb,hc,hd⟩,h1,h2,rfl⟩ := h
 exact iV (iV ⟨by decide,by decide⟩ ha.1 ha.2 hb.1 hb.2 h1) hc.1 hc.2 hd.1 hd.2 h2
theorem aR6 {t : List dW} (h : trI t) {r : aJ} (hr : aEf r = true) : Ok (rX t r) (fun x => (x.2 = true → -1000000000 ≤ x.1.Num ∧ x.1.Num ≤ 1000000000) ∧ (x.2 = true → x.1.Num = 0 → ∃ v,aMg t v ∧ kJ v.Num * r.Den = r.Num * v.Den)) := by
 unfold rX
 refine aW (aQ6 h) fun x hx => cG (fun _ => aP ?_) fun hn => ?_
 ·exact ⟨fun h => (by cases h),fun h => (by cases h)⟩
 have hg := hx (by simpa using hn)
 have hv := aNt hg
 obtain ⟨v0,v1,v2,v3⟩ := xX hv.1
 obtain ⟨r0,r1,r2,r3⟩ := xX hr
 have ha : 0 ≤ kJ x.1.Num ∧ kJ x.1.Num ≤ 1000000000 := by unfold kJ; omega
 rw [sG (by omega) (by omega),Option.bind_some]
 unfold xC xP
 rw [aT (x := -r.Num) (by omega) (by omega),Option.bind_some]
 dsimp only
 have b1 := aDv (a := kJ x.1.Num) (b := r.Den) (A := 1000000000) (B := 1000000000) (by omega) (by omega) (by omega) (by omega)
 have b2 := aDv (a := -r.Num) (b := x.1.Den) (A := 1000000000) (B := 1000000000) (by omega) (by omega) (by omega) (by omega)
 have b3 := aDv (a := x.1.Den) (b := r.Den) (A := 1000000000) (B := 1000000000) (by omega) (by omega) (by omega) (by omega)
 have b4 : x.1.Den * r.Den ≠ 0 := Int.mul_ne_zero (by omega) (by omega)
 rw [aT (x := kJ x.1.Num * r.Den) (by omega) (by omega),aT (x := -r.Num * x.1.Den) (by omega) (by omega),aT (x := _ + _) (by omega) (by omega),aT (x := x.1.Den * r.Den) (by omega) (by omega),kQ ⟨by omega,by omega⟩ ⟨by omega,by omega⟩ b4,Option.bind_some,Option.bind_some]
 refine aP ⟨fun hm => ?_,fun hm h0 => ⟨x.1,hg,?_⟩⟩
 ·have := xX (aCq b4 hm).1
  dsimp only; omega
 ·have := (aCq b4 hm).2.1 h0
  rw [Int.neg_mul] at this
  omega
theorem aTi {t : List dW} (h : trI t) : wL t = some true := by
 obtain ⟨a,b,c,d,rfl,ha,hb,hc,hd⟩ := aN2 h
 have q1 : iN a = true := decide_eq_true ha
 have q2 : iN b = true := decide_eq_true hb
 have q3 : iN c = true := decide_eq_true hc
 have q4 : iN d = true := decide_eq_true hd
 unfold wL
 rw [uS (xs := [(⟨a,b⟩ : dW),⟨c,d⟩]) (e := .inr false) (fun _ p => iN p.Driver && iN p.Driven) (by simp) fun i hi => ?_]
 ·have : aIx [(⟨a,b⟩ : dW),⟨c,d⟩] (fun _ p => iN p.Driver && iN p.Driven) = true := by
   rw [xL]
   intro i hi
   have : i = 0 ∨ i = 1 := by simp at hi; omega
   rcases this with rfl | rfl
   ·simp [q1,q2]
   ·simp [q3,q4]
  rw [this]; rfl
 ·rw [eD hi,Option.bind_some]
  unfold tX
  rw [nH,nH]
  simp only [Option.bind_some]
  cases iN [(⟨a,b⟩ : dW),⟨c,d⟩][i].Driver <;> cases iN [(⟨a,b⟩ : dW),⟨c,d⟩][i].Driven <;> rfl
theorem aSu {r : aJ} (hr : aEf r = true) : Ok (nA r ⟨60,84,7,10,2⟩) (fun f => f.2 = 0 → f.1.Error.Num = 0 → ∃ v,aMg f.1.Train v ∧ kJ v.Num * r.Den = r.Num * v.Den) := by
 have el : zA ⟨60,84,7,10,2⟩ = some true := by decide
 unfold nA xG
 rw [aFh,Option.bind_some,hr,el]
 simp only [Bool.not_true,Bool.false_eq_true,if_false,Option.bind_some,dZ,itA]
 refine cG (fun _ => aP fun h => by cases h) fun ha => ?_
 have ha : (btw r.Num 1 1000000 && decide (r.Den ≤ 1000000)) = true := by simpa using ha
 rw [Bool.and_eq_true] at ha
 have hn := of_decide_eq_true ha.1
 unfold uA
 refine aW (P := fun f => f.2 = 0 → f.1.Error.Num = 0 → ∃ v,aMg f.1.Train v ∧ kJ v.Num * r.Den = r.Num * v.Den) ?_ fun f hf => aP hf
 refine aW (aN3 (r := r) (by omega)) fun t ht => ?_
 unfold uU
 rw [aTi ht,Option.bind_some,aFh,hr]
 simp only [Bool.not_true,Bool.false_eq_true,if_false,Option.bind_some]
 refine aW (P := fun e => e.2 = 0 → e.1.Num = 0 → ∃ v,aMg t v ∧ kJ v.Num * r.Den = r.Num * v.Den) ?_ fun e he => cG (fun hne => aP fun h => absurd h hne) fun h0 => aP fun _ hz => he (by omega) hz
 refine aW (aR6 ht hr) fun x hx => cG (fun _ => aP fun h => by cases h) fun hb => ?_
 have hb : x.2 = true := by simpa using hb
 have h1 := hx.1 hb
 rw [sG (by omega) (by omega),Option.bind_some]
 exact aP fun _ hz => hx.2 hb (by dsimp only at hz; unfold kJ at hz; omega)
theorem aV0 {c : aA} (h : yM c) : oI c = some c := by
 have h1 := h.2.1.1
 have h2 := h.2.2.1.1
 unfold oI
 rw [gA (by simp; omega),gA (by simp; omega)]
 simp
theorem aT1 {nm : ByteArray} {beats teeth y : Int} {c : aA} (hn : mH nm = true) (hb : 1 ≤ beats ∧ beats ≤ 36000) (ht : tth teeth) (hc : mV c = true) : Ok (iA nm beats teeth c y) (fun r => r.2 = 0 → vM r.1 = true ∧ gR r.1 = [] ∧ r.1.Calendar = c) := by
 have hcm := (dT hc).2.1
 have hcr := (dT hc).2.2.1
 have e1 : btw beats 1 36000 = true := decide_eq_true hb
 have e2 : iN teeth = true := decide_eq_true ht
 have ht' := ht
 obtain ⟨t0,t1⟩ := ht'
 unfold iA
 rw [tQ (by omega) (by omega),Option.bind_some,hc,rQ,hn,dZ,e1,nH,e2]
 simp only [Bool.not_true,Bool.false_eq_true,if_false,Option.bind_some]
 refine aW (aL0 hc y) fun k hk => cG (fun hne => aP fun h => absurd h hne) fun h0 => ?_
 have hask := hk (by omega)
 rw [aT (x := 2 * teeth) (by omega) (by omega),kQ ⟨by omega,by omega⟩ ⟨by omega,by omega⟩ (by omega),Option.bind_some]
 have hs := aIn (n := beats) (d := 2 * teeth) (by omega) (by omega) (by omega) (by omega) (by omega)
 have hr := (aCq (show 2 * teeth ≠ 0 by omega) hs).1
 have hx := aNm (n := beats) (d := 2 * teeth) (by omega) hs
 have hl : qN = some ⟨60,84,7,10,2⟩ := rfl
 rw [hl,Option.bind_some]
 refine aW (aSu hr) fun f hf => ?_
 refine aW (P := fun b => b = false → f.2 = 0 ∧ f.1.Error.Num = 0) (cG (fun _ => aP fun h => by cases h) fun h => aP fun h2 => ⟨by omega,by have := of_decide_eq_false h2; omega⟩) fun b hbb => cG (fun _ => aP fun h => by cases h) fun hbf => ?_
 obtain ⟨f0,f1⟩ := hbb (by simpa using hbf)
 obtain ⟨v,⟨p,q,s,u,et,⟨hp,hq,hS,hu⟩,m1,m2,rfl⟩,hv⟩ := hf f0 f1
 have ew : mI f.1.Train = some (wkT p q s u) := by rw [et]; rfl
 rw [ew,Option.bind_some,aV0 (aLd hc),Option.bind_some]
 have hd := xX hr
 have he : 2 * teeth * kJ (v2T p q s u).Num = beats * (v2T p q s u).Den := by
  refine Int.eq_of_mul_eq_mul_right (a := (mkR beats (2 * teeth)).1.Den) (by omega) ?_
  calc 2 * teeth * kJ (v2T p q s u).Num * (mkR beats (2 * teeth)).1.Den = 2 * teeth * (kJ (v2T p q s u).Num * (mkR beats (2 * teeth)).1.Den) := by rw [Int.mul_assoc]
   _ = 2 * teeth * ((mkR beats (2 * teeth)).1.Num * (v2T p q s u).Den) := by rw [hv]
   _ = ((mkR beats (2 * teeth)).1.Num * (2 * teeth)) * (v2T p q s u).Den := by rw [← Int.mul_assoc,Int.mul_comm (2 * teeth)]
   _ = (beats * (mkR beats (2 * teeth)).1.Den) * (v2T p q s u).Den := by rw [hx]
   _ = beats * (v2T p q s u).Den * (mkR beats (2 * teeth)).1.Den := by rw [Int.mul_assoc,Int.mul_assoc,Int.mul_comm (mkR beats (2 * teeth)).1.Den]
 exact aP fun _ => ⟨aRh hn hp hq hS hu ht hb hask (by omega),aHi hp hq hS hu ht hb hask m1 m2 he,rfl⟩
theorem aOj {m : aX} (h : vM m = true) {st : Int} (hs : 0 ≤ st ∧ st ≤ 2) : vM ⟨m.Name,m.Works,m.Minute,m.Hour,m.Escape,m.Teeth,m.Beats,m.Calendar,m.Cam,st⟩ = true := by
 have e : btw st 0 2 = true := decide_eq_true hs
 unfold vM at h ⊢
 simp only [Bool.and_eq_true] at h ⊢
 obtain ⟨h1,h2,h3,h4,h5,h6,h7,h8,h9,_⟩ := h
 exact ⟨h1,h2,h3,h4,h5,h6,h7,h8,h9,e⟩
theorem aL6 {n : Int} {s : bN} (h : lT n s) (hn : n ≤ 10000000) : Ok (lE s) (fun r => vM r.1 = true ∧ gR r.1 = [] ∧ lT (n + 120) r.2) := by
 unfold lE
 refine aW (aMu h (by omega)) fun v1 h1 => aW (wZ h1.2 (by omega) (by simp)) fun v2 h2 => aW (wZ h2.2 (by omega) (by simp)) fun v3 h3 => aW (kM h3.2 (by omega)) fun v4 h4 => ?_
 have hc := h1.1.1
 have b := h2.1
 have t := h3.1
 simp only [List.mem_cons,List.not_mem_nil,or_false] at b t
 refine aW (aT1 (nm := ⟨#[99,108,111,99,107]⟩) (beats := v2.1) (teeth := v3.1) (by decide) (by omega) ⟨by omega,by omega⟩ hc) fun v5 h5 => ?_
 refine aW (P := fun v8 : ByteArray × List cQ × Int × Int × Int × Int × Int × aA × Int × List cH × List Int => vM ⟨v8.1,⟨v8.2.1,v8.2.2.2.2.2.2.2.2.2.1⟩,v8.2.2.1,v8.2.2.2.1,v8.2.2.2.2.1,v8.2.2.2.2.2.1,v8.2.2.2.2.2.2.1,v8.2.2.2.2.2.2.2.1,v8.2.2.2.2.2.2.2.2.2.2,v8.2.2.2.2.2.2.2.2.1⟩ = true ∧ gR ⟨v8.1,⟨v8.2.1,v8.2.2.2.2.2.2.2.2.2.1⟩,v8.2.2.1,v8.2.2.2.1,v8.2.2.2.2.1,v8.2.2.2.2.2.1,v8.2.2.2.2.2.2.1,v8.2.2.2.2.2.2.2.1,v8.2.2.2.2.2.2.2.2.2.2,v8.2.2.2.2.2.2.2.2.1⟩ = []) ?_ fun v8 h8 => ?_
 ·refine cG (fun _ => ?_) fun h0 => aP ?_
  ·have ew : mI [(⟨64,8⟩ : dW),⟨60,8⟩] = some (wkT 64 8 60 8) := rfl
   rw [ew,Option.bind_some]
   refine aW (aQb hc) fun v7 h7 => aP ?_
   have e60 : 2 * 30 * kJ (v2T 64 8 60 8).Num = 3600 * (v2T 64 8 60 8).Den := by decide
   have q : ∀ x : Int,6 ≤ x → x ≤ 240 → tth x := fun x a b => ⟨a,b⟩
   exact ⟨aRh (nm := ⟨#[112,108,97,105,110]⟩) (st := 0) (by decide) (q 64 (by decide) (by decide)) (q 8 (by decide) (by decide)) (q 60 (by decide) (by decide)) (q 8 (by decide) (by decide)) (q 30 (by decide) (by decide)) (beats := 3600) (by decide) h7 (by decide),aHi (nm := ⟨#[112,108,97,105,110]⟩) (st := 0) (q 64 (by decide) (by decide)) (q 8 (by decide) (by decide)) (q 60 (by decide) (by decide)) (q 8 (by decide) (by decide)) (q 30 (by decide) (by decide)) (beats := 3600) (by decide) h7 (by decide) (by decide) e60⟩
  ·have := h5 (by omega)
   exact ⟨this.1,this.2.1⟩
 ·have hst := aDr h8.1
  refine aW (P := fun v : bN × Int => (0 ≤ v.2 ∧ v.2 ≤ 2) ∧ lT (n + 120) v.1) ?_ fun v11 h11 => aP ⟨aOj h8.1 h11.1,h8.2,h11.2⟩
  refine aW (aFk h4.2.2.2 (by omega)) fun v9 h9 => cG (fun _ => aW (kM h9 (by omega)) fun v10 h10 => aP ⟨⟨h10.1,?_⟩,gD h10.2.2.2 (by omega)⟩) fun _ => aP ⟨hst,gD h9 (by omega)⟩
  have := h10.2.1
  dsimp only; omega
end Go.Proofs.YtgcdbbidmfdonaaGreat
namespace Go.Proofs.YtgcdbbidmfdonaaGreat
set_option linter.unusedVariables false
set_option maxRecDepth 100000
def aR4 (s : Int × bN × aFe) : Option ((Int × bN × aFe) ⊕ (bN × aFe)) := if 0 < s.1 then
 ((eR s.2.1 [0,1,3600,86399,86400,1000000,40000]).bind fun v14 => (qR (unS s.2.2) v14.1).bind fun v15 => if v15.2.2 = 0 then some (v14.2,aAh v15.1) else some (v14.2,s.2.2)).bind fun v16 => some (.inl (w64 (s.1 - 1),v16))
 else some (.inr s.2)
theorem aI3 (p0 : bN) : nF p0 = (lE p0).bind fun v1 => (kV v1.2 v1.1.Calendar).bind fun v2 => (bR v2.2 v1.1.Calendar.Week).bind fun v3 => (qU v1.1 v2.1 (w64 (1 + v3.1))).bind fun v4 =>
 (if v4.2 ≠ 0 then none else some () : Option Unit).bind fun _ => ((bR v3.2 4).bind fun v8 => cM aR4 (v8.1,v8.2,aAh v4.1)).bind fun v17 =>
 ((fG v17.1 4).bind fun v18 => if v18.1 = true then (bR v18.2 3).bind fun v19 => (mF (unS v17.2) (w64 (1 + v19.1))).bind fun v20 => some (v19.2,aAh v20.1) else some (v18.2,v17.2)).bind fun v21 => some (unS v21.2,v21.1) := rfl
def ofM (m : aX) (d : bQ) (w : Int) (s : dO) : Prop := (qH s ∧ aAg s = true) ∧ s.Movement = m ∧ s.Start = d ∧ s.First = w
def wV (m : aX) (d : bQ) (w : Int) : dO := ⟨m,d,w,0,aFp m.Calendar m.Cam d w⟩
theorem yX {m : aX} (h : vM m = true) (hf : gR m = []) : vI m.Calendar m.Cam = 0 := by
 obtain ⟨c1,c2⟩ := sM h
 rw [aCa c1 c2]
 refine if_pos (Classical.byContradiction fun hn => ?_)
 unfold gR at hf
 rw [if_neg hn] at hf
 exact absurd (List.append_eq_nil_iff.1 hf).2 (by simp)
theorem aLc {m : aX} {d : bQ} {w : Int} (h : vM m = true) (hf : gR m = []) (hd : gK m.Calendar d = true) (h1 : 1 ≤ w) (h2 : w ≤ m.Calendar.Week) : ofM m d w (wV m d w) := by
 have ha := yX h hf
 have z := aOe (cam := m.Cam) ha hd h1 h2
 have i := aNi (cam := m.Cam) ha hd h1 h2
 have hm := aPi h
 refine ⟨⟨⟨hm,⟨trivial,trivial,trivial⟩,trivial,trivial,⟨⟨(smC hm).2.2,fun _ _ => trivial⟩,trivial,trivial,trivial,trivial,trivial,trivial⟩⟩,?_⟩,rfl,rfl,rfl⟩
 unfold aAg wV
 dsimp only
 rw [z]
 have q : btw (0 : Int) 0 1000000000 = true := by decide
 simp only [Bool.and_eq_true,decide_eq_true_eq]
 exact ⟨h,hf,trivial,q,i.2,rfl,trivial,trivial,trivial⟩
theorem aUd {m : aX} {d : bQ} {w : Int} (h : vM m = true) (hf : gR m = []) (hd : gK m.Calendar d = true) (h1 : 1 ≤ w) (h2 : w ≤ m.Calendar.Week) : qU m d w = some (wV m d w,0) := by
 have hm := aPi h
 have ha := yX h hf
 obtain ⟨c1,c2,c3⟩ := smC hm
 unfold qU kT
 rw [aFr hm,Option.bind_some,h,yA hm h,hf]
 simp only [Bool.not_true,Bool.false_eq_true,if_false,Option.bind_some]
 rw [if_neg (by simp),oN (by omega) (by omega) c3,aOe ha hd h1 h2,aCr hm]
 rfl
theorem aM1 {n : Int} {s : bN} (h : lT n s) (hn : n ≤ 1000000) : Ok (nF s) (fun r => ∃ m d w,vM m = true ∧ gR m = [] ∧ gK m.Calendar d = true ∧ (1 ≤ w ∧ w ≤ m.Calendar.Week) ∧ ofM m d w r.1) := by
 rw [aI3]
 refine aW (aL6 h (by omega)) fun v1 h1 => ?_
 obtain ⟨m1,m2,m3⟩ := h1
 have hcal := (sM m1).1
 have hwk := (dT hcal).2.2.2.1
 refine aW (aM4 m3 (by omega) hcal) fun v2 h2 => aW (kM h2.2 (by omega)) fun v3 h3 => ?_
 have w0 := h3.1
 have w1 : v3.1 < v1.1.Calendar.Week := by rcases h3.2.1 with q | q <;> omega
 rw [aT (x := 1 + v3.1) (by omega) (by omega),aUd m1 m2 h2.1 (by omega) (by omega),Option.bind_some,if_neg (by simp),Option.bind_some]
 have hb := aLc m1 m2 h2.1 (w := 1 + v3.1) (by omega) (by omega)
 have key : Ok ((bR v3.2 4).bind fun v8 => cM aR4 (v8.1,v8.2,aAh (wV v1.1 v2.1 (1 + v3.1)))) (fun r => (∃ u,r.2 = aAh u ∧ ofM v1.1 v2.1 (1 + v3.1) u) ∧ lT (n + 300) r.1) := by
  refine aW (kM h3.2.2.2 (by omega)) fun v8 h8 => ?_
  have k0 := h8.1
  have k1 : v8.1 < 4 := by rcases h8.2.1 with q | q <;> omega
  refine fB (I := fun s : Int × bN × aFe => (0 ≤ s.1 ∧ s.1 ≤ 3) ∧ (∃ u,s.2.2 = aAh u ∧ ofM v1.1 v2.1 (1 + v3.1) u ∧ u.Clock ≤ 1000000 * (3 - s.1)) ∧ lT (n + 200 + 4 * (3 - s.1)) s.2.1) (m := fun s => s.1.toNat) ?_ _ ⟨⟨by dsimp only; omega,by dsimp only; omega⟩,⟨_,rfl,hb,by show (0 : Int) ≤ 1000000 * (3 - v8.1); omega⟩,gD h8.2.2.2 (by dsimp only; omega)⟩ (by dsimp only; omega)
  rintro ⟨k,src,x⟩ ⟨⟨i0,i1⟩,⟨u,rfl,hu,hc⟩,is⟩
  dsimp only at i0 i1 hc is ⊢
  unfold aR4
  dsimp only
  refine cG (fun hk => ?_) fun _ => aP (.inr ⟨_,rfl,⟨u,rfl,hu⟩,gD is (by omega)⟩)
  refine aW (P := fun r : bN × aFe => (∃ u,r.2 = aAh u ∧ ofM v1.1 v2.1 (1 + v3.1) u ∧ u.Clock ≤ 1000000 * (3 - (k - 1))) ∧ lT (n + 200 + 4 * (3 - (k - 1))) r.1) ?_ fun v16 h16 => aP (.inl ⟨_,rfl,⟨⟨?_,?_⟩,?_,?_⟩,?_⟩)
  ·refine aW (wZ is (by omega) (by simp)) fun v14 h14 => ?_
   have hm := h14.1
   simp only [List.mem_cons,List.not_mem_nil,or_false] at hm
   obtain ⟨⟨u1,u2⟩,u3⟩ := hu
   have uc := (uR u2).2.2.2.1
   have hx : unS (aAh u) = u := rfl
   have he := (aOh u1 u2 (k := v14.1) (by omega) (by omega) (by omega)).1
   rw [hx,he,Option.bind_some]
   refine cG (fun _ => aP ⟨⟨_,rfl,⟨⟨aAz u1 _,aEz u2 (by omega) (by omega)⟩,u3⟩,?_⟩,gD h14.2 (by omega)⟩) fun hne => absurd rfl hne
   show u.Clock + v14.1 ≤ _
   omega
  all_goals (dsimp only; rw [aT (x := k - 1) (by omega) (by omega)])
  ·omega
  ·omega
  ·exact h16.1
  ·exact h16.2
  ·omega
 refine aW key fun v17 h17 => ?_
 obtain ⟨⟨u,e,hu⟩,hs⟩ := h17
 rw [e]
 refine aW (P := fun r : bN × aFe => ∃ u,r.2 = aAh u ∧ ofM v1.1 v2.1 (1 + v3.1) u) ?_ fun v21 h21 => aP ?_
 ·refine aW (aFk hs (by omega)) fun v18 h18 => cG (fun _ => aW (kM h18 (by omega)) fun v19 h19 => ?_) fun _ => aP ⟨u,rfl,hu⟩
  have p0 := h19.1
  have p1 : v19.1 < 3 := by rcases h19.2.1 with q | q <;> omega
  obtain ⟨⟨u1,u2⟩,u3⟩ := hu
  have uc := (uR u2).2.2.2.1
  have hx : unS (aAh u) = u := rfl
  obtain ⟨p,_,e2,kp,ip⟩ := aS1 u1 u2 (k := 1 + v19.1) (by omega) (by omega)
  rw [aT (x := 1 + v19.1) (by omega) (by omega),hx,e2,Option.bind_some]
  exact aP ⟨_,rfl,⟨aRf u1 (by rw [kp.1]; exact u1.2.2.2.2.1.1),aPh u2 uc.1 uc.2 kp ip⟩,u3⟩
 ·obtain ⟨u',e',hu'⟩ := h21
  rw [e']
  exact ⟨v1.1,v2.1,1 + v3.1,m1,m2,h2.1,⟨by omega,by omega⟩,hu'⟩
theorem aQv {c : List Int} (h1 : c.length ≤ 1000000) (h2 : ∀ b ∈ c,0 ≤ b ∧ b ≤ 255) : Ok (wE c) (fun s => ∃ m d w,vM m = true ∧ gR m = [] ∧ gK m.Calendar d = true ∧ (1 ≤ w ∧ w ≤ m.Calendar.Week) ∧ s = wV m d w) := by
 unfold wE
 refine aW (aN9 h1 h2) fun v1 q1 => aW (aM1 q1 (by omega)) fun v2 q2 => ?_
 obtain ⟨m,d,w,a1,a2,a3,⟨a4,a5⟩,⟨_,b1,b2,b3⟩⟩ := q2
 obtain ⟨c1,c2,c3⟩ := smC (aPi a1)
 rw [b1,b2,b3]
 unfold kT
 rw [oN (by omega) (by omega) c3,aOe (yX a1 a2) a3 a4 a5,Option.bind_some]
 exact aP ⟨m,d,w,a1,a2,a3,⟨a4,a5⟩,rfl⟩
end Go.Proofs.YtgcdbbidmfdonaaGreat
namespace Go.Proofs.YtgcdbbidmfdonaaGreat
set_option linter.unusedVariables false
set_option maxRecDepth 100000
theorem aL9 {c : aA} {cam : List Int} (ha : vI c cam = 0) {y : Int} (y0 : 0 ≤ y) (y1 : y ≤ 9999) : Ok (pP c cam y) (fun xs => xs.length ≤ 20 ∧ (xs = [] → ∀ m : Int,1 ≤ m → m ≤ c.Months.length → cam.getD (lK c cam y m).toNat 0 = nX c (fR c y) (m - 1))) := by
 obtain ⟨hc,hcam,hz,k1,k2⟩ := kE ha
 have hm := (dT hc).2.1
 have hl := (lB hcam).2
 unfold pP
 rw [mD hc y0,Option.bind_some,sT hm.1 (by omega),if_pos hz,Option.bind_some,gA (by omega)]
 obtain ⟨n1,n2,n3,n4,n5⟩ := uI ha (y := y) (m := 1) (by omega) (by omega)
 have e1 : y.tmod ((cam.length : Int) / c.Months.length) = y % ((cam.length : Int) / c.Months.length) := Int.tmod_eq_emod_of_nonneg y0
 rw [e1,aT (x := _ * _) (by omega) (by omega),gA (by omega)]
 have hsub : ∀ j : Int,1 ≤ j → j ≤ c.Months.length → atI (xS cam (y % ((cam.length : Int) / c.Months.length) * c.Months.length) (cam.length : Int)) (j - 1) = some (cam.getD (lK c cam y j).toNat 0) := by
  intro j j0 j1
  obtain ⟨q,hq⟩ : ∃ q : Nat,y % ((cam.length : Int) / c.Months.length) * c.Months.length = q := ⟨(y % ((cam.length : Int) / c.Months.length) * c.Months.length).toNat,by omega⟩
  obtain ⟨i,hi⟩ : ∃ i : Nat,j - 1 = i := ⟨(j - 1).toNat,by omega⟩
  have en : (lK c cam y j).toNat = q + i := by unfold lK; omega
  have hlt : q + i < cam.length := by omega
  rw [en,hq,hi]
  unfold atI xS
  rw [if_pos (by omega),List.getD_eq_getElem?_getD,List.getElem?_eq_getElem hlt]
  have e2 : ((i : Int)).toNat = i := by omega
  have e3 : ((q : Int)).toNat = q := by omega
  rw [e2,e3]
  simp [List.getElem?_drop,List.getElem?_take,hlt]
  omega
 refine aW (P := fun xs : List gX => xs.length ≤ 20 ∧ (xs = [] → ∀ m : Int,1 ≤ m → m ≤ c.Months.length → cam.getD (lK c cam y m).toNat 0 = nX c (fR c y) (m - 1))) ?_ fun v h => aP h
 refine fB (I := fun s : Int × List gX => (1 ≤ s.1 ∧ s.1 ≤ c.Months.length + 1) ∧ (s.2.length : Int) ≤ s.1 - 1 ∧ (s.2 = [] → ∀ m : Int,1 ≤ m → m < s.1 → cam.getD (lK c cam y m).toNat 0 = nX c (fR c y) (m - 1))) (m := fun s => (c.Months.length + 1 - s.1).toNat) ?_ _ ⟨⟨by dsimp only; omega,by dsimp only; omega⟩,by simp,fun _ m h1 h2 => by dsimp only at h2; omega⟩ (by dsimp only; omega)
 rintro ⟨j,xs⟩ ⟨⟨j0,j1⟩,jl,jv⟩
 dsimp only at j0 j1 jl jv ⊢
 refine cG (fun hj => ?_) fun hj => aP (.inr ⟨_,rfl,by omega,fun h m h1 h2 => jv h m h1 (by omega)⟩)
 rw [jP hc _ j0 hj,Option.bind_some,aT (x := j - 1) (by omega) (by omega),hsub j j0 hj,Option.bind_some,Option.bind_some]
 refine aW (P := fun zs : List gX => (zs.length : Int) ≤ j ∧ (zs = [] → xs = [] ∧ cam.getD (lK c cam y j).toNat 0 = nX c (fR c y) (j - 1))) ?_ fun zs hz => aP (.inl ⟨_,rfl,⟨⟨?_,?_⟩,?_,?_⟩,?_⟩)
 ·refine cG (fun _ => jN (by simp; omega) (aP ⟨by simp; omega,fun h => absurd h (by simp)⟩)) fun he => aP ⟨by omega,fun h => ⟨h,by simpa using he⟩⟩
 all_goals (dsimp only; rw [aT (x := j + 1) (by omega) (by omega)])
 ·omega
 ·omega
 ·omega
 ·intro h m h1 h2
  obtain ⟨g1,g2⟩ := hz.2 h
  by_cases hm : m = j
  ·rw [hm]; exact g2
  ·exact jv g1 m h1 (by omega)
 ·omega
theorem aDc (y : Int) : kX y = some (btw y 0 9999) := by unfold kX; rw [eF]; rfl
theorem aL8 (c : aA) (m : Int) : mC c m = some (btw m 1 c.Months.length) := by unfold mC; rw [eF]; rfl
theorem aI4 {c : aA} {cam : List Int} (ha : vI c cam = 0) (a b : Int) : Ok (nL c cam a b) (fun r => r.2 = 0 → r.1 = [] → aQt c cam a b) := by
 obtain ⟨hc,hcam,hz,k1,k2⟩ := kE ha
 have hm := (dT hc).2
 have hl := (lB hcam).2
 unfold nL
 rw [zO (by omega) (by omega) (by omega),Option.bind_some,ha,if_neg (by simp),aDc,aDc]
 simp only [Option.bind_some]
 refine aW (P := fun q => q = false → (0 ≤ a ∧ a ≤ 9999) ∧ (0 ≤ b ∧ b ≤ 9999) ∧ a ≤ b) ?_ fun q hq => cG (fun _ => aP fun h => by cases h) fun hn => ?_
 ·refine cG (fun _ => aP fun h => by cases h) fun h1 => cG (fun _ => aP fun h => by cases h) fun h2 => aP fun h3 => ⟨of_decide_eq_true (show btw a 0 9999 = true by simpa using h1),of_decide_eq_true (show btw b 0 9999 = true by simpa using h2),by have := of_decide_eq_false h3; omega⟩
 ·obtain ⟨⟨a0,a1⟩,⟨b0,b1⟩,hab⟩ := hq (by simpa using hn)
  refine aW (P := fun x => (∀ xs,x = .inl xs → xs = [] → aQt c cam a b) ∧ ∀ r : List gX × Int,x = .inr r → r.2 = 5) ?_ fun x hx => ?_
  ·refine fB (I := fun s : Int × List gX => (a ≤ s.1 ∧ s.1 ≤ b + 1) ∧ (s.2.length : Int) ≤ 40 ∧ (s.2 = [] → ∀ y m : Int,a ≤ y → y < s.1 → 1 ≤ m → m ≤ c.Months.length → cam.getD (lK c cam y m).toNat 0 = nX c (fR c y) (m - 1))) (m := fun s => (b + 1 - s.1).toNat) ?_ _ ⟨⟨by dsimp only; omega,by dsimp only; omega⟩,by simp,fun _ y m h1 h2 => by dsimp only at h2; omega⟩ (by dsimp only; omega)
   rintro ⟨y,xs⟩ ⟨⟨j0,j1⟩,jl,jv⟩
   dsimp only at j0 j1 jl jv ⊢
   refine cG (fun hy => ?_) fun hy => aP (.inr ⟨_,rfl,fun zs e h => ?_,fun r e => by cases e⟩)
   ·refine aW (aL9 ha (by omega) (by omega)) fun v hv => jN (by omega) (cG (fun _ => aP (.inr ⟨_,rfl,fun zs e => (by cases e),fun r e => (by cases e; rfl)⟩)) fun h40 => aP (.inl ⟨_,rfl,⟨⟨?_,?_⟩,?_,?_⟩,?_⟩))
    all_goals (dsimp only; try rw [aT (x := y + 1) (by omega) (by omega)])
    ·omega
    ·omega
    ·omega
    ·intro h z m h1 h2 h3 h4
     obtain ⟨g1,g2⟩ := List.append_eq_nil_iff.1 h
     by_cases hzy : z = y
     ·rw [hzy]; exact hv.2 g2 m h3 h4
     ·exact jv g1 z m h1 (by omega) h3 h4
    ·omega
   ·injection e with e
    subst e
    exact fun z m h1 h2 h3 h4 => jv h z m h1 (by omega) h3 h4
  ·cases x with
   | inl xs => exact aP fun _ h => hx.1 xs rfl h
   | inr r => exact aP fun h1 => by have := hx.2 r rfl; omega
theorem aJq {c : aA} (hc : mV c = true) {d : bQ} (hd : gK c d = true) : pB c d = some (xR c d) := by
 obtain ⟨⟨y0,y1⟩,⟨m0,m1⟩,⟨d0,d1⟩⟩ := eO.1 hd
 have hm := (dT hc).2.1
 have hl := oC hc (fR c d.Year) (k := d.Month - 1) (by omega) (by omega)
 unfold pB xR
 rw [mD hc y0,Option.bind_some,jP hc _ m0 m1,Option.bind_some,aT (x := d.Day + 1) (by omega) (by omega),aT (x := d.Month + 1) (by omega) (by omega)]
 simp only [aL8,Option.bind_some]
 by_cases h1 : d.Day < nX c (fR c d.Year) (d.Month - 1)
 ·rw [if_pos h1,if_neg (by omega)]
  have e : btw d.Month 1 c.Months.length = true := decide_eq_true (by omega)
  simp only [Option.bind_some,e]; rfl
 ·rw [if_neg h1,if_pos (by omega)]
  simp only [Option.bind_some]
  by_cases h2 : d.Month < c.Months.length
  ·have e : btw (d.Month + 1) 1 c.Months.length = true := decide_eq_true (by omega)
   rw [if_pos h2,e]; rfl
  ·have e : btw (d.Month + 1) 1 c.Months.length = false := decide_eq_false (by omega)
   rw [if_neg h2,e,aT (x := d.Year + 1) (by omega) (by omega)]; rfl
theorem aKs {p : aC} (h : zX p) : fV p = some (qI p) := by
 have hs := zY h
 obtain ⟨ha,⟨b1,b2,b3⟩,hw⟩ := id h
 have e : fU p (jE p) = some (pD p (jE p)) := by
  unfold fU gL pD
  rw [aT (x := p.Day + jE p) (by omega) (by omega),aT (x := p.Day + jE p - p.Teeth) (by omega) (by omega)]
  dsimp only
  rw [gA (by omega),aT (x := p.At + 1) (by omega) (by omega)]
  split <;> rfl
 have hI := aDb h hs.1 hs.2
 obtain ⟨_,_,hc,d1,d2⟩ := id hI
 have t := vX (a := (pD p (jE p)).Weekday) (n := (pD p (jE p)).Week) (by omega) (by omega)
 unfold fV gB
 rw [sN h,Option.bind_some,e,Option.bind_some,gA (by omega),aT (by omega) (by omega)]
 rfl
def shB (p : aC) (d : bQ) : Bool := decide (p.Day = d.Day ∧ p.At % p.Months + 1 = d.Month)
theorem aRj {p : aC} (hp : zX p) (hm : 1 ≤ p.Months) (d : bQ) : pE p d.Month d.Day = some (shB p d) := by
 unfold pE lR shB
 rw [gA (by omega),Int.tmod_eq_emod_of_nonneg hp.1.1]
 have hr := Int.emod_nonneg p.At (show p.Months ≠ 0 by omega)
 have hr2 : p.At % p.Months ≤ p.At := by
  by_cases q : p.At < p.Months
  ·rw [Int.emod_eq_of_lt hp.1.1 q]; omega
  ·have := Int.emod_lt_of_pos p.At (show 0 < p.Months by omega); omega
 have hl := hp.1
 rw [aT (by omega) (by omega)]
 by_cases e1 : p.Day = d.Day <;> by_cases e2 : p.At % p.Months + 1 = d.Month <;> simp [e1,e2]
theorem aKz {c : aA} {cam : List Int} (ha : vI c cam = 0) {d : bQ} (hd : gK c d = true) {p : aC} (hs : aFm c cam p d) : shB p d = true := by
 obtain ⟨_,⟨m0,m1⟩,_⟩ := eO.1 hd
 obtain ⟨s1,s2,s3,s4,s5⟩ := hs
 have hn := (uI ha (y := d.Year) m0 m1).2.2.2.2
 unfold shB
 rw [s2,s3,s4,hn]
 simp
theorem aHr (c : aA) (cam : List Int) (d : bQ) (w : Int) : aFm c cam (aFp c cam d w) d := ⟨rfl,rfl,rfl,rfl,rfl⟩
theorem aUe {s : dO} (h : aAg s = true) : wdR s = (s.First - 1 + s.Clock / 86400) % s.Movement.Calendar.Week + 1 := by
 obtain ⟨hc,hd,hf,hw,hk,_⟩ := yY h
 have hq := tM (a := s.Clock) (g := 86400) hk.1 (by omega)
 have e : w64 (w64 (s.First - 1) + s.Clock / 86400) = s.First - 1 + s.Clock / 86400 := by
  rw [aT (x := s.First - 1) (by omega) (by omega),aT (by omega) (by omega)]
 have t1 := Int.emod_nonneg (s.First - 1 + s.Clock / 86400) (show s.Movement.Calendar.Week ≠ 0 by omega)
 have t2 := Int.emod_lt_of_pos (s.First - 1 + s.Clock / 86400) (show 0 < s.Movement.Calendar.Week by omega)
 unfold wdR
 rw [e,Int.tmod_eq_emod_of_nonneg (by omega),aT (by omega) (by omega)]
theorem aPs {c : aA} {cam : List Int} (ha : vI c cam = 0) {d : bQ} {w : Int} (hd : gK c d = true) (h1 : 1 ≤ w) (h2 : w ≤ c.Week) : Ok (lO c (aFp c cam d w) d 3000) (fun r => (r.2 ≠ 0 → r.2 = 3) ∧ (r.2 = 0 → ∃ n : Nat,r.1 = n ∧ 1 ≤ n ∧ n ≤ 3000 ∧ ∃ e,gK c e = true ∧ nW c e = nW c d + n ∧ shB (kF n (aFp c cam d w)) e = false)) := by
 obtain ⟨hc,hcam,hz,k1,k2⟩ := kE ha
 have hm := (dT hc).2
 obtain ⟨i1,i2⟩ := aNi (cam := cam) ha hd h1 h2
 have hl : (aFp c cam d w).Cam.length ≤ 9223372036854775807 := by have := i1.1.2.2; omega
 have hmo : 1 ≤ (aFp c cam d w).Months := by show (1 : Int) ≤ c.Months.length; omega
 have q : btw (3000 : Int) 0 200000 = true := by decide
 unfold lO
 rw [hZ (by omega) (by omega),Option.bind_some,hc,rT hl,i2,sX (by omega) (by omega),hc,hd,eF,q]
 simp only [Bool.not_true,Bool.false_eq_true,if_false,Option.bind_some,Bool.and_self]
 rw [aRj i1 hmo,aKz ha hd (aHr c cam d w)]
 simp only [Bool.not_true,Bool.false_eq_true,if_false,Option.bind_some]
 refine aW (P := fun x : Unit ⊕ (Int × Int) => ∀ r,x = .inr r → r.2 = 0 ∧ ∃ n : Nat,r.1 = n ∧ 1 ≤ n ∧ n ≤ 3000 ∧ ∃ e,gK c e = true ∧ nW c e = nW c d + n ∧ shB (kF n (aFp c cam d w)) e = false) ?_ fun x hx => ?_
 ·refine fB (I := fun s : Int × aC × bQ => ∃ n : Nat,s.1 = n + 1 ∧ n ≤ 3000 ∧ s.2.1 = kF n (aFp c cam d w) ∧ gK c s.2.2 = true ∧ nW c s.2.2 = nW c d + n) (m := fun s => (3001 - s.1).toNat) ?_ _ ⟨0,rfl,by omega,rfl,hd,by simp⟩ (by dsimp only; omega)
  rintro ⟨k,p,e⟩ ⟨n,hk,hn,hp,he,hde⟩
  dsimp only at hk hn hp he hde ⊢
  subst hp
  have pI := aGq n i1
  refine cG (fun h3 => ?_) fun _ => aP (.inr ⟨_,rfl,fun r e => by cases e⟩)
  rw [aKs pI,Option.bind_some,aJq hc he,Option.bind_some,aDc,Option.bind_some]
  obtain ⟨⟨ny0,ny1⟩,nd,ng⟩ := aLf hc he
  obtain ⟨⟨y0,y1⟩,_⟩ := eO.1 he
  refine cG (fun _ => aP (.inr ⟨_,rfl,fun r e => by cases e⟩)) fun hy => ?_
  have hy := of_decide_eq_true (show btw (xR c e).Year 0 9999 = true by simpa using hy)
  have gd := ng hy.2
  have kI := aCo pI
  have km : 1 ≤ (qI (kF n (aFp c cam d w))).Months := by rw [← tZ,(uX (n + 1) _).2.1]; exact hmo
  rw [aRj kI km,Option.bind_some]
  refine cG (fun hs => aP (.inr ⟨_,rfl,fun r e => ?_⟩)) fun hs => aP (.inl ⟨_,rfl,⟨n + 1,?_,by omega,(tZ n _).symm,gd,by rw [nd,hde]; push_cast; omega⟩,?_⟩)
  ·injection e with e
   subst e
   refine ⟨rfl,n + 1,by dsimp only; push_cast; omega,by omega,by omega,_,gd,by rw [nd,hde]; push_cast; omega,?_⟩
   rw [tZ]; simpa using hs
  all_goals (dsimp only; rw [aT (x := k + 1) (by omega) (by omega)])
  ·push_cast; omega
  ·omega
 ·cases x with
  | inl u => exact aP ⟨fun _ => rfl,fun h => by cases h⟩
  | inr r => exact aP ⟨fun h => absurd (hx r rfl).1 h,fun _ => (hx r rfl).2⟩
end Go.Proofs.YtgcdbbidmfdonaaGreat
namespace Go.Proofs.YtgcdbbidmfdonaaGreat
set_option linter.unusedVariables false
set_option maxRecDepth 100000
theorem aI1 {m : aX} {d : bQ} {w C : Int} (m1 : vM m = true) (m2 : gR m = []) (m3 : gK m.Calendar d = true) (h1 : 1 ≤ w) (h2 : w ≤ m.Calendar.Week) (c0 : 0 ≤ C) (c1 : C ≤ 1000000000) {e : bQ} (hr : aRo (vL (wV m d w) C) (some e)) (hg : aQt m.Calendar m.Cam d.Year e.Year) : iF (vL (wV m d w) C) = some true := by
 have ha := yX m1 m2
 have hc := (sM m1).1
 obtain ⟨⟨s1,s2⟩,_⟩ := aLc m1 m2 m3 h1 h2
 have ck : (vL (wV m d w) C).Clock = C := by show (0 : Int) + C = C; omega
 have a1 := aAz s1 C
 have a2 := aEz s2 c0 (by show (0 : Int) + C ≤ _; omega)
 have hN : fS (wV m d w) C = (C / 86400).toNat := by
  unfold fS
  show ((0 + C) / 86400 - 0 / 86400).toNat = _
  rw [Int.zero_add]; simp
 have hq := tM (a := C) (g := 86400) c0 (by omega)
 have hD : (vL (wV m d w) C).Dial = kF (C / 86400).toNat (aFp m.Calendar m.Cam d w) := by rw [← hN]; rfl
 have i1 := (aNi (cam := m.Cam) ha m3 h1 h2).1
 have hcal : (vL (wV m d w) C).Movement.Calendar = m.Calendar := rfl
 have hst : (vL (wV m d w) C).Start = d := rfl
 rw [aFf a1 a2 hr,aUe a2]
 obtain ⟨_,e',ee,e2,e3⟩ | ⟨_,ee⟩ := hr
 ·injection ee with ee
  subst ee
  rw [hcal,hst,ck] at e3
  rw [hcal] at e2
  have hb := aG0 hc e2
  have hn : ((C / 86400).toNat : Int) = C / 86400 := by omega
  obtain ⟨g1,g2⟩ := aGu hc m3 (C / 86400).toNat (by omega)
  have eq : aB2 m.Calendar (C / 86400).toNat d = e := aLt hc g1 e2 (by omega)
  have hs := zL ha m3 e2 (aHr m.Calendar m.Cam d w) hg (C / 86400).toNat (by omega)
  rw [eq] at hs
  have hsh := aKz ha e2 hs
  have hw := aLs (C / 86400).toNat i1
  unfold shB at hsh
  have p1 : (aFp m.Calendar m.Cam d w).Weekday = w := rfl
  have p2 : (aFp m.Calendar m.Cam d w).Week = m.Calendar.Week := rfl
  have p3 : (vL (wV m d w) C).First = w := rfl
  rw [p1,p2,hn] at hw
  rw [hD,hsh,hw,ck,p3,hcal]
  simp
 ·cases ee
theorem aKq {m : aX} {d : bQ} {w : Int} (m1 : vM m = true) (m2 : gR m = []) (m3 : gK m.Calendar d = true) (h1 : 1 ≤ w) (h2 : w ≤ m.Calendar.Week) {n : Nat} (hn : n ≤ 3000) {e : bQ} (he : gK m.Calendar e = true) (hd : nW m.Calendar e = nW m.Calendar d + n) (hs : shB (kF n (aFp m.Calendar m.Cam d w)) e = false) : iF (vL (wV m d w) (86400 * n)) = some false := by
 have hc := (sM m1).1
 obtain ⟨⟨s1,s2⟩,_⟩ := aLc m1 m2 m3 h1 h2
 have ck : (vL (wV m d w) (86400 * n)).Clock = 86400 * n := by show (0 : Int) + 86400 * n = _; omega
 have a1 := aAz s1 (86400 * n)
 have a2 := aEz s2 (k := 86400 * n) (by omega) (by show (0 : Int) + 86400 * n ≤ _; omega)
 have hq : (86400 * (n : Int)) / 86400 = n := by omega
 have hN : fS (wV m d w) (86400 * n) = n := by
  unfold fS
  show ((0 + 86400 * (n : Int)) / 86400 - 0 / 86400).toNat = _
  omega
 have hD : (vL (wV m d w) (86400 * n)).Dial = kF n (aFp m.Calendar m.Cam d w) := by
  have : (vL (wV m d w) (86400 * n)).Dial = kF (fS (wV m d w) (86400 * n)) (aFp m.Calendar m.Cam d w) := rfl
  rw [this,hN]
 have hb := aG0 hc he
 have hr : aRo (vL (wV m d w) (86400 * n)) (some e) := by
  refine .inl ⟨?_,e,rfl,he,?_⟩
  ·rw [ck,hq]; show nW m.Calendar d + n < aGe m.Calendar; omega
  ·rw [ck,hq]; exact hd
 rw [aFf a1 a2 hr,hD]
 unfold shB at hs
 rw [hs]; rfl
theorem aQf {c : List Int} (h1 : c.length ≤ 1000000) (h2 : ∀ b ∈ c,0 ≤ b ∧ b ≤ 255) : Ok (rH c) (fun xs => xs.length ≤ 8 ∧ ∀ t ∈ xs,0 ≤ t ∧ t ≤ 3000000) := by
 unfold rH
 refine aW (aN9 h1 h2) fun v1 q1 => ?_
 refine aW (P := fun xs : List Int => xs.length ≤ 8 ∧ ∀ t ∈ xs,0 ≤ t ∧ t ≤ 3000000) ?_ fun v h => aP h
 refine aW (kM q1 (by omega)) fun v2 q2 => ?_
 have k0 := q2.1
 have k1 : v2.1 < 8 := by rcases q2.2.1 with q | q <;> omega
 rw [aT (x := 1 + v2.1) (by omega) (by omega)]
 refine fB (I := fun s : Int × bN × List Int => (0 ≤ s.1 ∧ s.1 ≤ 8) ∧ ((s.2.2.length : Int) + s.1 ≤ 8 ∧ ∀ t ∈ s.2.2,0 ≤ t ∧ t ≤ 3000000) ∧ lT (100 + 4 * (8 - s.1)) s.2.1) (m := fun s => s.1.toNat) ?_ _ ⟨⟨by dsimp only; omega,by dsimp only; omega⟩,⟨by dsimp only [List.length_nil]; omega,fun t ht => by cases ht⟩,gD q2.2.2.2 (by dsimp only; omega)⟩ (by dsimp only; omega)
 rintro ⟨k,src,xs⟩ ⟨⟨i0,i1⟩,⟨il,iv⟩,is⟩
 dsimp only at i0 i1 il iv is ⊢
 refine cG (fun hk => ?_) fun _ => aP (.inr ⟨_,rfl,by omega,iv⟩)
 refine aW (wZ is (by omega) (by simp)) fun v7 h7 => jN (by simp; omega) (aP (.inl ⟨_,rfl,⟨⟨?_,?_⟩,⟨?_,?_⟩,?_⟩,?_⟩))
 all_goals (dsimp only; try rw [aT (x := k - 1) (by omega) (by omega)])
 ·omega
 ·omega
 ·simp; omega
 ·intro t ht
  have hm := h7.1
  simp only [List.mem_cons,List.not_mem_nil,or_false] at hm
  rcases List.mem_append.1 ht with ht | ht
  ·exact iv t ht
  ·rw [List.mem_singleton.1 ht]; omega
 ·exact gD h7.2 (by omega)
 ·omega
theorem aS6 (p0 : List Int) (k0 : osL aSa p0) (p1 : List Int) (k1 : osL aSa p1) : vN p0 p1 = some true := by
 have b0 : ∀ b ∈ p0,0 ≤ b ∧ b ≤ 255 := k0.2
 have b1 : ∀ b ∈ p1,0 ≤ b ∧ b ≤ 255 := k1.2
 suffices h : Ok (vN p0 p1) (fun b => b = true) by
  obtain ⟨x,e,hx⟩ := h
  rw [e,hx]
 unfold vN xM
 refine aW (P := fun b => b = false → p0.length ≤ 3000 ∧ p1.length ≤ 3000) (cG (fun _ => aP fun h => by cases h) fun h => aP fun h2 => ⟨by omega,by have := of_decide_eq_false h2; omega⟩) fun b hb => cG (fun _ => aP rfl) fun hf => ?_
 obtain ⟨n0,n1⟩ := hb (by simpa using hf)
 refine aW (aQv (c := p0) (by omega) b0) fun s hs => aW (aQf (by omega) b1) fun ts ht => ?_
 obtain ⟨m,d,w,m1,m2,m3,⟨m4,m5⟩,rfl⟩ := hs
 have ha := yX m1 m2
 obtain ⟨⟨s1,s2⟩,_⟩ := aLc m1 m2 m3 m4 m5
 have ec : (wV m d w).Movement.Calendar = m.Calendar := rfl
 have em : (wV m d w).Movement.Cam = m.Cam := rfl
 have es : (wV m d w).Start = d := rfl
 have ed : (wV m d w).Dial = aFp m.Calendar m.Cam d w := rfl
 have e0 : wV m d w = vL (wV m d w) 0 := by
  have : fS (wV m d w) 0 = 0 := by unfold fS; show ((0 + 0) / 86400 - 0 / 86400 : Int).toNat = 0; decide
  unfold vL
  rw [this]; rfl
 have ck : ∀ C : Int,(vL (wV m d w) C).Clock = C := fun C => by show (0 : Int) + C = C; omega
 rw [ec,em,es,ed]
 refine aW (P := fun x : dO ⊕ Bool => ∀ r,x = .inr r → r = true) ?_ fun x hx => ?_
 ·refine fB (I := fun s : Int × dO => (0 ≤ s.1 ∧ s.1 ≤ ts.length) ∧ ∃ C : Int,(0 ≤ C ∧ C ≤ 3000000 * s.1) ∧ s.2 = vL (wV m d w) C) (m := fun s => (ts.length - s.1).toNat) ?_ _ ⟨⟨by dsimp only; omega,by dsimp only; omega⟩,0,⟨by omega,by dsimp only; omega⟩,e0⟩ (by dsimp only; omega)
  rintro ⟨i,u⟩ ⟨⟨i0,i1⟩,C,⟨c0,c1⟩,hu⟩
  dsimp only at i0 i1 c1 hu ⊢
  subst hu
  refine cG (fun hi => ?_) fun _ => aP (.inr ⟨_,rfl,fun r e => by cases e⟩)
  refine aW (P := fun x : dO ⊕ ((Int × dO) ⊕ (dO ⊕ Bool)) => (∃ C' : Int,(0 ≤ C' ∧ C' ≤ 3000000 * (i + 1)) ∧ x = .inl (vL (wV m d w) C')) ∨ x = .inr (.inr (.inr true))) ?_ fun x hx => ?_
  ·refine aW (rW i0 hi) fun t htt => ?_
   obtain ⟨t0,t1⟩ := ht.2 t htt.1
   have hl := ht.1
   have a1 := aAz s1 C
   have a2 := aEz s2 (k := C) (by omega) (by show (0 : Int) + C ≤ _; omega)
   have hr := (aOh a1 a2 (k := t) t0 t1 (by rw [ck]; omega)).2
   have ad := aLv (s := wV m d w) (by show (0 : Int) ≤ 0; omega) (a := C) (b := t) c0 t0
   rw [hr,Option.bind_some]
   dsimp only
   rw [ad]
   have z1 := aAz s1 (C + t)
   have z2 := aEz s2 (k := C + t) (by omega) (by show (0 : Int) + (C + t) ≤ _; omega)
   rw [if_neg (by omega),if_neg (by simp)]
   unfold sQ
   rw [aAp z1,z2]
   simp only [Option.bind_some,Bool.not_true,Bool.false_eq_true,if_false]
   obtain ⟨r,g1,g2,_⟩ := aTn z1 z2
   rw [g2]
   cases r with
   | none => exact aP (.inr rfl)
   | some e =>
    simp only [Option.bind_some]
    rw [if_neg (by simp)]
    refine aW (aI4 ha d.Year e.Year) fun cf hcf => ?_
    refine aW (P := fun b => b = false) ?_ fun b hb => ?_
    ·refine cG (fun h0 => cG (fun hl => ?_) fun _ => aP rfl) fun _ => aP rfl
     have hnil : cf.1 = [] := List.length_eq_zero_iff.1 (by omega)
     rw [aI1 m1 m2 m3 m4 m5 (C := C + t) (by omega) (by omega) g1 (hcf h0 hnil),Option.bind_some]
     exact aP rfl
    ·rw [hb,if_neg (by decide)]
     exact aP (.inl ⟨C + t,⟨by omega,by omega⟩,rfl⟩)
  ·rcases hx with ⟨C',hC,rfl⟩ | rfl
   ·refine aP (.inl ⟨_,rfl,⟨⟨?_,?_⟩,C',⟨hC.1,?_⟩,rfl⟩,?_⟩)
    all_goals (dsimp only; rw [aT (x := i + 1) (by omega) (by omega)]; omega)
   ·exact aP (.inr ⟨_,rfl,fun r e => (by cases e; rfl)⟩)
 ·cases x with
  | inr r => exact aP (hx r rfl)
  | inl u =>
   unfold orE
   dsimp only
   refine aW (aPs ha m3 m4 m5) fun f hf => cG (fun hne => aP (decide_eq_true (hf.1 hne))) fun h0 => ?_
   obtain ⟨n,hn,q0,q1,e,he,hde,hsh⟩ := hf.2 (by omega)
   rw [hn,if_neg (by omega),Option.bind_some]
   rw [if_neg (by simp; omega)]
   refine aW (P := fun x : dO ⊕ Bool => x = .inl (vL (wV m d w) (86400 * n))) ?_ fun x hx => ?_
   ·refine fB (I := fun s : Int × dO => ∃ j : Int,s.1 = n - j ∧ 0 ≤ j ∧ j ≤ n ∧ s.2 = vL (wV m d w) (86400 * j)) (m := fun s => s.1.toNat) ?_ _ ⟨0,by dsimp only; omega,by omega,by omega,e0⟩ (by dsimp only; omega)
    rintro ⟨k,u⟩ ⟨j,hk,j0,j1,hu⟩
    dsimp only at hk hu ⊢
    subst hu
    refine cG (fun h3 => ?_) fun h3 => aP (.inr ⟨_,rfl,by rw [show j = (n : Int) by omega]⟩)
    have a1 := aAz s1 (86400 * j)
    have a2 := aEz s2 (k := 86400 * j) (by omega) (by show (0 : Int) + 86400 * j ≤ _; omega)
    have b0 : 1 ≤ min k 30 ∧ min k 30 ≤ 30 ∧ min k 30 ≤ k := by omega
    generalize min k 30 = y at b0
    have hr := (aOh a1 a2 (k := 86400 * y) (by omega) (by omega) (by rw [ck]; omega)).2
    have ad := aLv (s := wV m d w) (by show (0 : Int) ≤ 0; omega) (a := 86400 * j) (b := 86400 * y) (by omega) (by omega)
    rw [aT (x := 86400 * y) (by omega) (by omega),hr,Option.bind_some]
    dsimp only
    rw [ad,if_neg (by simp)]
    refine aP (.inl ⟨_,rfl,⟨j + y,?_,by omega,by omega,by dsimp only; rw [Int.mul_add]⟩,?_⟩)
    all_goals (dsimp only; rw [aT (x := k - y) (by omega) (by omega)]; omega)
   ·rw [hx]
    dsimp only
    rw [aKq m1 m2 m3 m4 m5 (n := n) q1 he hde hsh,Option.bind_some]
    exact aP rfl
end Go.Proofs.YtgcdbbidmfdonaaGreat
