/- Texts of this claim, one behind the other (merged by a program of mine). -/
import Derived.Lib.ItoaLen
import Derived.Test.YtgcdbbidmfdonaaGreatGT7
set_option linter.unusedSimpArgs false
set_option linter.unusedVariables false
namespace Go.Proofs.YtgcdbbidmfdonaaGreat
set_option linter.unusedVariables false
theorem yN (x : aK × Bool) : (x.2 = true ∧ aIh x = (x.1,0)) ∨ (x.2 = false ∧ aIh x = (⟨0,0⟩,2)) := by
 unfold aIh
 cases h : x.2
 ·exact .inr ⟨rfl,by simp⟩
 ·exact .inl ⟨rfl,by simp⟩
theorem wE {w : bJ} {m : cH} {sp : List aK} (hm : sA w m = true) (h : SpI w sp) : 0 ≤ m.A ∧ m.A < sp.length ∧ 0 ≤ m.B ∧ m.B < sp.length := by
 obtain ⟨_,j1,j2⟩ := jM.1 hm
 have a := qK j1
 have b := qK j2
 rw [h.1]
 exact ⟨a.1,a.2.1,b.1,b.2.1⟩
theorem aPl {n k : Nat} (h : n ≤ 16) (hk : k ≤ 2) : 0 ≤ (n : Int) ∧ (n : Int) = (n : Int) ∧ ((n : Int)).toNat * k * 64 ≤ 281474976710656 := by
 refine ⟨by omega,rfl,?_⟩
 have : (n : Int).toNat * k ≤ 16 * 2 := Nat.mul_le_mul (by omega) hk
 omega
theorem aMo {w : bJ} (hw : aAo w = true) (sp : List aK) (h : SpI w sp) :
  cM (S := Bool × Int × List aK) (X := (Bool × List aK) ⊕ ((List aK) ⊕ (List aK × Int))) (fun s41 =>
 (if s41.2.1 < (w.Meshes.length : Int) then
 ((((atI w.Meshes s41.2.1).bind fun v42 =>
 ((mR w v42).bind fun v43 =>
 ((((atI s41.2.2 v42.A).bind fun v44 =>
 (if v44.Den = 0 then
 some (v42.B,v42.A,(⟨v43.Driven,v43.Driver⟩ : dW))
 else
 some (v42.A,v42.B,v43))) : Option (Int × Int × dW)).bind fun v45 =>
 ((((atI s41.2.2 v45.1).bind fun v46 =>
 (if v46.Den = 0 then
 some true
 else
 ((atI s41.2.2 v45.2.1).bind fun v47 =>
 some (decide (v47.Den ≠ 0))))) : Option Bool).bind fun v48 =>
 (if v48 = true then
 some (.inl (s41.1,s41.2.2))
 else
 ((atI s41.2.2 v45.1).bind fun v49 =>
 ((mP v49 v45.2.2.Driver v45.2.2.Driven).bind fun v50 =>
 (if v50.2 ≠ 0 then
 some (.inr (.inr (.inr (.inr (([] : List aK),v50.2)))))
 else
 ((atI s41.2.2 v45.2.1).bind fun v51 =>
 some (.inl (true,List.set s41.2.2 (v45.2.1).toNat v50.1))))))))))) : Option ((Bool × List aK) ⊕ ((Bool × Int × List aK) ⊕ ((Bool × List aK) ⊕ ((List aK) ⊕ (List aK × Int)))))).bind fun v52x => orE v52x fun v52 =>
 some (.inl (v52.1,w64 (s41.2.1 + 1),v52.2)))
 else
 some (.inr (.inl (s41.1,s41.2.2))))) (false,0,sp) = some (match jP w w.Meshes (false,sp) with
  | .inl s' => .inl s'
  | .inr _ => .inr (.inr ([],2))) := by
 have hl := (mA.1 hw).2.1
 rw [zL (xs := w.Meshes) (fun i (s : Bool × List aK) => (s.1,i,s.2)) (fun _ m s => some (Sum.map id (fun _ => .inr (.inr ([],2))) (lF w m s))) (fun s => .inl s) (fun s => SpI w s.2) (by omega) (fun i hi s hs => ?_) (fun i hi s s' hs e => ?_) (fun s hs => by simp) (false,sp) h]
 ·rw [aFn (w := w) (X := (Bool × List aK) ⊕ ((List aK) ⊕ (List aK × Int))) (g := fun _ => .inr (.inr ([],2))) (fun _ _ _ => rfl)]
  cases jP w w.Meshes (false,sp) <;> rfl
 ·have hi' : (i : Int) < w.Meshes.length := by omega
  have e1 : w64 ((i : Int) + 1) = i + 1 := aU (by omega) (by omega)
  have hj := nF hw _ (List.getElem_mem hi)
  simp only [if_pos hi',eD hi,Option.bind_some,e1,aDb hj]
  generalize w.Meshes[i] = m at hj
  obtain ⟨_,j1,j2⟩ := jM.1 hj
  have ta := oV hw j1
  have tb := oV hw j2
  obtain ⟨a0,a1,b0,b1⟩ := wE hj hs
  obtain ⟨ga,_,_⟩ := oS a0 a1
  obtain ⟨gb,_,_⟩ := oS b0 b1
  have a1' : m.A < w.Arbors.length := by rw [← hs.1]; exact a1
  have b1' : m.B < w.Arbors.length := by rw [← hs.1]; exact b1
  unfold lF
  simp only [ga,Option.bind_some]
  by_cases dA : (kH s.2 m.A).Den = 0
  ·simp only [if_pos dA,Option.bind_some,gb]
   by_cases dB : (kH s.2 m.B).Den = 0
   ·simp only [if_pos dB,dA,dB,Option.bind_some,if_true]; rfl
   ·have k := hs.den b0 b1' dB
    simp only [if_neg dB,ga,gb,dA,dB,Option.bind_some]
    rw [yI k (t := (eS w m).Driven) (u := (eS w m).Driver) tb.1 tb.2 ta.1 ta.2]
    rcases yN (gI (kH s.2 m.B) (eS w m).Driven (eS w m).Driver) with ⟨h1,h2⟩ | ⟨h1,h2⟩ <;> simp [h1,h2,orE]
  ·simp only [if_neg dA,Option.bind_some,ga,gb]
   by_cases dB : (kH s.2 m.B).Den = 0
   ·have k := hs.den a0 a1' dA
    simp only [ga,gb,dA,dB,Option.bind_some,if_false,ne_eq,not_true_eq_false,decide_false,Bool.false_eq_true]
    rw [yI k (t := (eS w m).Driver) (u := (eS w m).Driven) ta.1 ta.2 tb.1 tb.2]
    rcases yN (gI (kH s.2 m.A) (eS w m).Driver (eS w m).Driven) with ⟨h1,h2⟩ | ⟨h1,h2⟩ <;> simp [h1,h2,orE]
   ·simp [dA,dB,orE]
 ·have e : lF w w.Meshes[i] s = .inl s' := by
   cases e2 : lF w w.Meshes[i] s with
   | inr u => rw [e2] at e; cases e
   | inl z => rw [e2] at e; injection e with e; injection e with e; rw [← e]; rfl
  exact (aCk hw (nF hw _ (List.getElem_mem hi)) hs e).1
theorem aDr {w : bJ} (hw : aAo w = true) {root : Int} (hr : yP w root = true) : lM w root = some (match iM w (vE (start w root) + 1) (start w root) with
  | .inl sp => (sp,0)
  | .inr _ => ([],2)) := by
 have hl := (mA.1 hw).1
 have hr := of_decide_eq_true hr
 unfold lM
 rw [fZ (aPl hl (by omega))]
 simp only [Int.toNat_natCast]
 obtain ⟨e,he,_,_⟩ := qL (xs := List.replicate w.Arbors.length (⟨0,0⟩ : aK)) hr.1 (by rw [List.length_replicate]; exact hr.2)
 rw [he,Option.bind_some]
 have := aHn hw (S := Bool × List aK) (X := (List aK) ⊕ (List aK × Int)) (step := fun s28 => (if s28.1 = true then cM (S := Bool × Int × List aK) (X := (Bool × List aK) ⊕ ((List aK) ⊕ (List aK × Int))) (fun s41 =>
 (if s41.2.1 < (w.Meshes.length : Int) then
 ((((atI w.Meshes s41.2.1).bind fun v42 =>
 ((mR w v42).bind fun v43 =>
 ((((atI s41.2.2 v42.A).bind fun v44 =>
 (if v44.Den = 0 then
 some (v42.B,v42.A,(⟨v43.Driven,v43.Driver⟩ : dW))
 else
 some (v42.A,v42.B,v43))) : Option (Int × Int × dW)).bind fun v45 =>
 ((((atI s41.2.2 v45.1).bind fun v46 =>
 (if v46.Den = 0 then
 some true
 else
 ((atI s41.2.2 v45.2.1).bind fun v47 =>
 some (decide (v47.Den ≠ 0))))) : Option Bool).bind fun v48 =>
 (if v48 = true then
 some (.inl (s41.1,s41.2.2))
 else
 ((atI s41.2.2 v45.1).bind fun v49 =>
 ((mP v49 v45.2.2.Driver v45.2.2.Driven).bind fun v50 =>
 (if v50.2 ≠ 0 then
 some (.inr (.inr (.inr (.inr (([] : List aK),v50.2)))))
 else
 ((atI s41.2.2 v45.2.1).bind fun v51 =>
 some (.inl (true,List.set s41.2.2 (v45.2.1).toNat v50.1))))))))))) : Option ((Bool × List aK) ⊕ ((Bool × Int × List aK) ⊕ ((Bool × List aK) ⊕ ((List aK) ⊕ (List aK × Int)))))).bind fun v52x => orE v52x fun v52 =>
 some (.inl (v52.1,w64 (s41.2.1 + 1),v52.2)))
 else
 some (.inr (.inl (s41.1,s41.2.2))))) (false,0,s28.2) else some (.inr (.inl s28.2)))) (fun s => s) (fun s => s) (fun _ => rfl) (fun sp => .inl sp) (fun _ => .inr ([],2)) (fun _ _ => rfl) (fun sp h => by
  simp only [if_true]
  rw [aMo hw sp h]
  cases jP w w.Meshes (false,sp) <;> rfl) (fun sp h => by simp) (start w root) (zT root)
 unfold start at this
 unfold start
 rw [this,Option.bind_some]
 cases iM w (vE ((List.replicate w.Arbors.length (⟨0,0⟩ : aK)).set root.toNat ⟨1,1⟩) + 1) ((List.replicate w.Arbors.length (⟨0,0⟩ : aK)).set root.toNat ⟨1,1⟩) <;> rfl
theorem aGc {w : bJ} (hl : w.Arbors.length ≤ 9223372036854775807) (hws : ∀ b ∈ w.Arbors,b.Wheels.length ≤ 9223372036854775807) (hm : w.Meshes.length ≤ 9223372036854775807) (root : Int) : pT w root = some (if aAo w = true then gE w root else ([],1)) := by
 unfold pT gE
 rw [wD hl hws hm,Option.bind_some]
 by_cases hw : aAo w = true
 ·have e0 : btw root 0 (w64 ((w.Arbors.length : Int) - 1)) = yP w root := tW hl
  have hml := (mA.1 hw).2.1
  rw [if_pos hw,hw,eF,e0,Option.bind_some]
  by_cases hr : yP w root = true
  ·rw [if_pos hr,hr,aDr hw hr]
   cases e : iM w (vE (start w root) + 1) (start w root) with
   | inr u => rfl
   | inl sp =>
    have hs := zN hw (zT root) e
    have hsl := hs.1
    have hal := (mA.1 hw).1
    simp only [Bool.not_true,Bool.false_eq_true,if_false,Option.bind_some,ne_eq,not_true_eq_false]
    have hc : cF sp = some (sp.any fun r => decide (r.Den = 0)) := by
     unfold cF dF
     rw [aQu (fun r => decide (r.Den = 0)) (by omega) fun i hi => by rw [eD hi,Option.bind_some,oZ,Option.bind_some],Option.bind_some,aGb]
    rw [hc,Option.bind_some]
    by_cases hn : (sp.any fun r => decide (r.Den = 0)) = true
    ·rw [if_pos hn,if_pos hn]
    ·rw [if_neg hn,if_neg hn,uX (e := .inr ([],10)) (fun _ m => aPs w sp m) hm fun i hi => ?_,lZ,Option.bind_some]
     ·cases w.Meshes.all (aPs w sp) <;> rfl
     ·have hj := nF hw _ (List.getElem_mem hi)
      simp only [eD hi,Option.bind_some,aDb hj]
      generalize w.Meshes[i] = m at hj
      obtain ⟨_,j1,j2⟩ := jM.1 hj
      have ta := oV hw j1
      have tb := oV hw j2
      obtain ⟨a0,a1,b0,b1⟩ := wE hj hs
      obtain ⟨ga,gm,_⟩ := oS a0 a1
      obtain ⟨gb,_,_⟩ := oS b0 b1
      have k : KnR (kH sp m.A) := by
       rcases hs.2 _ gm with e | h
       ·exact absurd (List.any_eq_true.2 ⟨_,gm,decide_eq_true (by rw [e])⟩) hn
       ·exact h
      rw [ga,Option.bind_some,yI k (t := (eS w m).Driver) (u := (eS w m).Driven) ta.1 ta.2 tb.1 tb.2,gb]
      unfold aPs
      rcases yN (gI (kH sp m.A) (eS w m).Driver (eS w m).Driven) with ⟨h1,h2⟩ | ⟨h1,h2⟩
      ·by_cases q : (gI (kH sp m.A) (eS w m).Driver (eS w m).Driven).1 = kH sp m.B <;> simp [h1,h2,q]
      ·simp [h1,h2]
  ·rw [if_neg hr,Bool.not_eq_true] at *
   rw [hr]; rfl
 ·rw [if_neg hw,Bool.not_eq_true] at *
  rw [hw]; rfl
theorem aHx {w : bJ} (hw : aAo w = true) {sp : List aK} (hs : SpI w sp) {m : cH} (hj : sA w m = true) (k : KnR (kH sp m.A)) : rW w m sp = some (aPs w sp m) := by
 obtain ⟨_,j1,j2⟩ := jM.1 hj
 have ta := oV hw j1
 have tb := oV hw j2
 obtain ⟨a0,a1,b0,b1⟩ := wE hj hs
 obtain ⟨ga,gm,_⟩ := oS a0 a1
 obtain ⟨gb,_,_⟩ := oS b0 b1
 have hv := wV (t := (eS w m).Driver) (u := (eS w m).Driven) ta.1 ta.2 tb.1 tb.2
 have t0 : 6 ≤ (eS w m).Driver := ta.1
 have t1 : (eS w m).Driver ≤ 240 := ta.2
 have u0 : 6 ≤ (eS w m).Driven := tb.1
 have u1 : (eS w m).Driven ≤ 240 := tb.2
 unfold rW aPs gI
 rw [aBu hj,Option.bind_some,aU (by omega) (by omega),kQ ⟨by omega,by omega⟩ ⟨by omega,by omega⟩ (by omega),Option.bind_some,ga,Option.bind_some,uD k.1 hv.2.1,Option.bind_some,gb]
 cases (aP0 (kH sp m.A) (mkR (-(eS w m).Driver) (eS w m).Driven).1).2 <;> simp
def kn (sp : List aK) : List Bool := sp.map fun r => decide (r.Den ≠ 0)
theorem aTv {sp : List aK} {i : Int} (h0 : 0 ≤ i) (h1 : i < sp.length) : atI (kn sp) i = some (decide ((kH sp i).Den ≠ 0)) := by
 obtain ⟨_,_,hi,e⟩ := oS h0 h1
 unfold atI kn
 rw [if_pos h0,List.getElem?_map,List.getElem?_eq_getElem hi,e]; rfl
theorem aN1 {sp : List aK} {i : Nat} {v : aK} (hv : v.Den ≠ 0) : kn (sp.set i v) = (kn sp).set i true := by
 unfold kn
 rw [List.map_set,decide_eq_true hv]
theorem aDn {w : bJ} (hw : aAo w = true) {X : Type} (g : Bool × List aK → X) : ∀ (ms : List cH) (hm : ∀ m ∈ ms,sA w m = true) (k : Nat) (s : Bool × List aK),SpI w s.2 → ∃ f,SpI w f.2 ∧ aM7 (fun _ m s => some (match lF w m s with
  | .inl s' => .inl s'
  | .inr _ => .inr (g s))) ms k s = some (match jP w ms s with
  | .inl s' => .inl s'
  | .inr _ => .inr (g f))
 | [],_,k,s,h => ⟨s,h,rfl⟩
 | m :: ms,hm,k,s,h => by
  cases e : lF w m s with
  | inr u =>
   refine ⟨s,h,?_⟩
   show (some (match lF w m s with
    | .inl s' => _
    | .inr _ => _)).bind _ = _
   unfold jP
   rw [e]; rfl
  | inl s1 =>
   obtain ⟨f,hf,q⟩ := aDn hw g ms (fun m h => hm m (List.mem_cons_of_mem _ h)) (k + 1) s1 (aCk hw (hm m (List.mem_cons_self ..)) h e).1
   refine ⟨f,hf,?_⟩
   show (some (match lF w m s with
    | .inl s' => _
    | .inr _ => _)).bind _ = _
   unfold jP
   rw [e]
   exact q
theorem aL0 {w : bJ} (hw : aAo w = true) (sp : List aK) (h : SpI w sp) : ∃ f,SpI w f ∧ hJ w (kn sp) sp = some (match jP w w.Meshes (false,sp) with
  | .inl s' => (s'.1,true,kn s'.2,s'.2)
  | .inr _ => (false,false,kn f,f)) := by
 have hl := (mA.1 hw).2.1
 unfold hJ
 obtain ⟨f,hf,q⟩ := aDn hw (X := (Bool × List Bool × List aK) ⊕ (Bool × Bool × List Bool × List aK)) (fun s => .inr (false,false,kn s.2,s.2)) w.Meshes (nF hw) 0 (false,sp) h
 refine ⟨f.2,hf,?_⟩
 rw [zL (xs := w.Meshes) (fun i (s : Bool × List aK) => (s.1,i,kn s.2,s.2)) (fun _ m s => some (match lF w m s with
  | .inl s' => .inl s'
  | .inr _ => .inr (.inr (false,false,kn s.2,s.2)))) (fun s => .inl (s.1,kn s.2,s.2)) (fun s => SpI w s.2) (by omega) (fun i hi s hs => ?_) (fun i hi s s' hs e => ?_) (fun s hs => by simp) (false,sp) h]
 ·rw [q]
  cases jP w w.Meshes (false,sp) <;> rfl
 ·have hi' : (i : Int) < w.Meshes.length := by omega
  have e1 : w64 ((i : Int) + 1) = i + 1 := aU (by omega) (by omega)
  have hj := nF hw _ (List.getElem_mem hi)
  simp only [if_pos hi',eD hi,Option.bind_some,e1,aBu hj]
  generalize w.Meshes[i] = m at hj
  obtain ⟨_,j1,j2⟩ := jM.1 hj
  have ta := oV hw j1
  have tb := oV hw j2
  have t0 : 6 ≤ (eS w m).Driver := ta.1
  have t1 : (eS w m).Driver ≤ 240 := ta.2
  have u0 : 6 ≤ (eS w m).Driven := tb.1
  have u1 : (eS w m).Driven ≤ 240 := tb.2
  obtain ⟨a0,a1,b0,b1⟩ := wE hj hs
  obtain ⟨ga,_,_⟩ := oS a0 a1
  obtain ⟨gb,_,_⟩ := oS b0 b1
  have ka := aTv a0 a1
  have kb := aTv b0 b1
  have a1' : m.A < w.Arbors.length := by rw [← hs.1]; exact a1
  have b1' : m.B < w.Arbors.length := by rw [← hs.1]; exact b1
  unfold lF
  simp only [ka,kb,Option.bind_some]
  by_cases dA : (kH s.2 m.A).Den = 0
  ·by_cases dB : (kH s.2 m.B).Den = 0
   ·simp [dA,dB,orE]
   ·have k := hs.den b0 b1' dB
    have hv := wV (t := (eS w m).Driven) (u := (eS w m).Driver) u0 u1 t0 t1
    have e2 : (decide ((kH s.2 m.A).Den ≠ 0) == decide ((kH s.2 m.B).Den ≠ 0)) = false := by simp [dA,dB]
    have e3 : decide ((kH s.2 m.A).Den = 0) ≠ decide ((kH s.2 m.B).Den = 0) := by simp [dA,dB]
    have e4 : decide ((kH s.2 m.B).Den ≠ 0) = true := by simp [dB]
    rw [e2,if_neg (by decide),if_neg e3,if_pos dA,e4,if_pos rfl]
    simp only [Option.bind_some,ga,gb,ka,kb]
    rw [aU (by omega) (by omega),kQ ⟨by omega,by omega⟩ ⟨by omega,by omega⟩ (by omega)]
    simp only [Option.bind_some]
    rw [uD k.1 hv.2.1]
    have mv := iW k (t := (eS w m).Driven) (u := (eS w m).Driver) u0 u1 t0 t1
    have em : aP0 (kH s.2 m.B) (mkR (-(eS w m).Driven) (eS w m).Driver).1 = gI (kH s.2 m.B) (eS w m).Driven (eS w m).Driver := rfl
    rw [em]
    cases h2 : (gI (kH s.2 m.B) (eS w m).Driven (eS w m).Driver).2
    ·simp [h2,orE]
    ·simp [h2,orE,aN1 (mv h2).den]
  ·by_cases dB : (kH s.2 m.B).Den = 0
   ·have k := hs.den a0 a1' dA
    have hv := wV (t := (eS w m).Driver) (u := (eS w m).Driven) t0 t1 u0 u1
    have e2 : (decide ((kH s.2 m.A).Den ≠ 0) == decide ((kH s.2 m.B).Den ≠ 0)) = false := by simp [dA,dB]
    have e3 : decide ((kH s.2 m.A).Den = 0) ≠ decide ((kH s.2 m.B).Den = 0) := by simp [dA,dB]
    have e4 : decide ((kH s.2 m.B).Den ≠ 0) = false := by simp [dB]
    rw [e2,if_neg (by decide),if_neg e3,if_neg dA,e4,if_neg (by decide)]
    simp only [Option.bind_some,ga,gb,ka,kb]
    rw [aU (by omega) (by omega),kQ ⟨by omega,by omega⟩ ⟨by omega,by omega⟩ (by omega)]
    simp only [Option.bind_some]
    rw [uD k.1 hv.2.1]
    have mv := iW k (t := (eS w m).Driver) (u := (eS w m).Driven) t0 t1 u0 u1
    have em : aP0 (kH s.2 m.A) (mkR (-(eS w m).Driver) (eS w m).Driven).1 = gI (kH s.2 m.A) (eS w m).Driver (eS w m).Driven := rfl
    rw [em]
    cases h2 : (gI (kH s.2 m.A) (eS w m).Driver (eS w m).Driven).2
    ·simp [h2,orE]
    ·simp [h2,orE,aN1 (mv h2).den]
   ·simp [dA,dB,orE]
 ·have e : lF w w.Meshes[i] s = .inl s' := by
   cases e2 : lF w w.Meshes[i] s with
   | inr u => rw [e2] at e; cases e
   | inl z => rw [e2] at e; injection e with e; injection e with e; rw [← e]
  exact (aCk hw (nF hw _ (List.getElem_mem hi)) hs e).1
theorem aNf (sp : List aK) : (kn sp).length = sp.length := by unfold kn; simp
theorem aEt {w : bJ} (hw : aAo w = true) (root : Int) : nT w root = some (gE w root) := by
 have hal := (mA.1 hw).1
 have hml := (mA.1 hw).2.1
 unfold nT gE
 rw [aBw (by omega),Option.bind_some]
 by_cases hr : yP w root = true
 ·rw [if_pos hr,hr,if_neg (by decide),fZ (aPl hal (by omega)),fZ (aPl hal (by omega))]
  simp only [Int.toNat_natCast]
  have hrr := of_decide_eq_true hr
  obtain ⟨e,he,_,_⟩ := qL (xs := List.replicate w.Arbors.length (⟨0,0⟩ : aK)) hrr.1 (by rw [List.length_replicate]; exact hrr.2)
  obtain ⟨e',he',_,_⟩ := qL (xs := List.replicate w.Arbors.length false) hrr.1 (by rw [List.length_replicate]; exact hrr.2)
  rw [he',Option.bind_some,iB,Option.bind_some,he,Option.bind_some]
  have hk : kn (start w root) = (List.replicate w.Arbors.length false).set root.toNat true := by
   unfold start
   rw [aN1 (by decide)]
   congr 1
   unfold kn
   rw [List.map_replicate]; rfl
  have := aHn hw (S := Bool × List Bool × List aK) (X := (List Bool × List aK) ⊕ (List aK × Int)) (step := fun s11 => (if s11.1 = true then ((hJ w s11.2.1 s11.2.2).bind fun v12 => (chk (v12.2.2.1.length = s11.2.1.length) (chk (v12.2.2.2.length = s11.2.2.length) (if (!v12.2.1) = true then some (.inr (.inr (([] : List aK),2))) else some (.inl (v12.1,v12.2.2.1,v12.2.2.2)))))) else some (.inr (.inl (s11.2.1,s11.2.2))))) (fun s => (s.1,kn s.2,s.2)) (fun s => (s.1,s.2.2)) (fun _ => rfl) (fun sp => .inl (kn sp,sp)) (fun _ => .inr ([],2)) (fun _ _ => rfl) (fun sp h => by
   obtain ⟨f,hf,q⟩ := aL0 hw sp h
   simp only [if_true,q,Option.bind_some]
   cases er : jP w w.Meshes (false,sp) with
   | inr u =>
    simp only [aNf,hf.1,h.1,aLh]
    simp
   | inl s' =>
    have h3 := (wA hw (nF hw) (s := (false,sp)) h er).1
    simp only [aNf,h3.1,h.1,aLh]
    simp) (fun sp h => by simp) (start w root) (zT root)
  rw [hk] at this
  unfold start at this
  unfold start
  rw [this,Option.bind_some]
  cases e : iM w (vE ((List.replicate w.Arbors.length (⟨0,0⟩ : aK)).set root.toNat ⟨1,1⟩) + 1) ((List.replicate w.Arbors.length (⟨0,0⟩ : aK)).set root.toNat ⟨1,1⟩) with
  | inr u => rfl
  | inl sp =>
   have hs := zN hw (zT root) e
   have hsl := hs.1
   show (orE (.inl (kn sp,sp)) _) = _
   simp only [orE]
   rw [uX (xs := kn sp) (e := .inr ([],6)) (fun _ b => b) (by rw [aNf]; omega) fun i hi => by rw [eD hi,Option.bind_some]; cases (kn sp)[i] <;> rfl,lZ,Option.bind_some]
   have e5 : (kn sp).all (fun b => b) = !(sp.any fun r => decide (r.Den = 0)) := by
    unfold kn
    rw [Bool.eq_iff_iff]; simp
   rw [e5]
   by_cases hn : (sp.any fun r => decide (r.Den = 0)) = true
   ·rw [hn]; rfl
   ·rw [Bool.not_eq_true] at hn
    rw [hn]
    simp only [Bool.not_false,if_true,orE]
    rw [uX (xs := w.Meshes) (e := .inr ([],10)) (fun _ m => aPs w sp m) (by omega) fun i hi => ?_,lZ,Option.bind_some]
    ·cases w.Meshes.all (aPs w sp) <;> rfl
    ·have hj := nF hw _ (List.getElem_mem hi)
     obtain ⟨a0,a1,b0,b1⟩ := wE hj hs
     obtain ⟨_,gm,_⟩ := oS a0 a1
     have k : KnR (kH sp w.Meshes[i].A) := by
      rcases hs.2 _ gm with e | h
      ·have q : (sp.any fun r => decide (r.Den = 0)) = true := List.any_eq_true.2 ⟨_,gm,decide_eq_true (by rw [e])⟩
       rw [hn] at q; cases q
      ·exact h
     rw [eD hi,Option.bind_some,aHx hw hs hj k,Option.bind_some]
     cases aPs w sp w.Meshes[i] <;> rfl
 ·rw [if_neg hr,Bool.not_eq_true] at *
  rw [hr]; rfl
end Go.Proofs.YtgcdbbidmfdonaaGreat
namespace Go.Proofs.YtgcdbbidmfdonaaGreat
set_option linter.unusedVariables false
theorem aGh {m : aX} (h : vL m = true) : aAo m.Works = true ∧ yP m.Works m.Minute = true ∧ yP m.Works m.Hour = true ∧ yP m.Works m.Escape = true := by
 unfold vL at h
 simp only [Bool.and_eq_true] at h
 exact ⟨h.2.1,h.2.2.1,h.2.2.2.1,h.2.2.2.2.1⟩
theorem wW {m : aX} {k : Int} (hw : aAo m.Works = true) (hs : (gE m.Works m.Minute).2 = 0) (hk : yP m.Works k = true) : atI (gE m.Works m.Minute).1 k = some (kH (gE m.Works m.Minute).1 k) ∧ KnR (kH (gE m.Works m.Minute).1 k) := by
 have h1 := aMr hw hs
 have h2 := of_decide_eq_true hk
 obtain ⟨g,gm,_⟩ := oS (sp := (gE m.Works m.Minute).1) h2.1 (by rw [h1.1]; exact h2.2)
 exact ⟨g,h1.2 _ gm⟩
end Go.Proofs.YtgcdbbidmfdonaaGreat
namespace Go.Proofs.YtgcdbbidmfdonaaGreat
set_option linter.unusedVariables false
def aJn : ByteArray := ⟨#[119,111,114,107,115]⟩
def aPt : ByteArray := ⟨#[104,111,117,114]⟩
def aKj : ByteArray := ⟨#[98,101,97,116,115]⟩
def aNn : ByteArray := ⟨#[99,97,109]⟩
def aTt : ByteArray := ⟨#[109,111,118,101,109,101,110,116]⟩
def aHv (m : aX) (v : aK) : Bool := decide (w64 (w64 (2 * m.Teeth) * kJ v.Num) = w64 (m.Beats * v.Den))
def gV (m : aX) : List ByteArray :=
 (if (gE m.Works m.Minute).2 = 0 then (if kH (gE m.Works m.Minute).1 m.Hour = ⟨1,12⟩ then [] else [aPt]) ++ (if aHv m (kH (gE m.Works m.Minute).1 m.Escape) = true then [] else [aKj]) else [aJn]) ++ (if (m.Cam.length : Int) % m.Calendar.Months.length = 0 then [] else [aNn])
theorem sT {m : aX} (h : vL m = true) : mV m.Calendar = true ∧ aEa m.Cam = true := by
 unfold vL at h
 simp only [Bool.and_eq_true] at h
 exact ⟨h.2.2.2.2.2.2.2.1,h.2.2.2.2.2.2.2.2.1⟩
theorem aCo {c : aA} {cam : List Int} (h1 : mV c = true) (h2 : aEa cam = true) : vK c cam = if (cam.length : Int) % c.Months.length = 0 then 0 else 6 := by
 unfold vK; rw [h1,h2]; rfl
theorem yQ {m : aX} (h : iJ m) : iC m = some (if vL m = true then gV m else [aTt]) := by
 unfold iC gV
 obtain ⟨w1,w2,w3⟩ := smW h.2.1
 have hcl : m.Cam.length ≤ 1048576 := h.2.2.2.2.2.2.2.2.1.1
 rw [sR h,Option.bind_some]
 by_cases hv : vL m = true
 ·obtain ⟨hw,k1,k2,k3⟩ := aGh hv
  obtain ⟨c1,c2⟩ := sT hv
  have cm := (dT c1).2.1
  have hbel : ∀ (x y : Option (List ByteArray)),((jG m.Calendar m.Cam).bind fun v11 => if v11 = 0 then x else y) = if (m.Cam.length : Int) % m.Calendar.Months.length = 0 then y else x := by
   intro x y
   rw [sI cm.1 (by omega),Option.bind_some]
   by_cases h0 : (m.Cam.length : Int) % m.Calendar.Months.length = 0
   ·have := kD (c := m.Calendar) (cam := m.Cam) (by rw [aCo c1 c2,if_pos h0])
    rw [if_pos h0,if_neg (by omega),if_pos h0]
   ·rw [if_neg h0,if_pos rfl,if_neg h0]
  rw [if_pos hv,hv,aGc w1 w2 w3,if_pos hw]
  simp only [Bool.not_true,Bool.false_eq_true,if_false,Option.bind_some,hbel]
  by_cases hs : (gE m.Works m.Minute).2 = 0
  ·have s2 := wW hw hs k2
   have s3 := wW hw hs k3
   have d3 := xS s3.2.1
   rw [if_neg (by simp [hs]),if_pos hs,s2.1,s3.1]
   simp only [Option.bind_some]
   rw [aQs (by omega) (by omega)]
   simp only [Option.bind_some]
   unfold aHv aPt aKj aNn
   by_cases b1 : kH (gE m.Works m.Minute).1 m.Hour = ⟨1,12⟩ <;> by_cases b2 : w64 (w64 (2 * m.Teeth) * kJ (kH (gE m.Works m.Minute).1 m.Escape).Num) = w64 (m.Beats * (kH (gE m.Works m.Minute).1 m.Escape).Den) <;> by_cases b3 : (m.Cam.length : Int) % m.Calendar.Months.length = 0 <;> simp [b1,b2,b3,chk]
  ·rw [if_pos hs,if_neg hs]
   unfold aJn aNn
   by_cases b3 : (m.Cam.length : Int) % m.Calendar.Months.length = 0 <;> simp [b3,chk]
 ·rw [if_neg hv,Bool.not_eq_true] at *
  rw [hv]; rfl
theorem xV {m : aX} (h : iJ m) (hv : vL m = true) : kV m = some (gV m) := by
 unfold kV gV
 have hcl : m.Cam.length ≤ 1048576 := h.2.2.2.2.2.2.2.2.1.1
 have hml : m.Calendar.Months.length ≤ 1048576 := h.2.2.2.2.2.2.2.1.2.1.1
 have hrl : m.Calendar.Rules.length ≤ 1048576 := h.2.2.2.2.2.2.2.1.2.2.1.1
 obtain ⟨hw,k1,k2,k3⟩ := aGh hv
 obtain ⟨c1,c2⟩ := sT hv
 have hbel : ∀ (x y : Option (List ByteArray)),((oK m.Calendar m.Cam).bind fun v11 => if v11 ≠ 0 then x else y) = if (m.Cam.length : Int) % m.Calendar.Months.length = 0 then y else x := by
  intro x y
  rw [aDt (by omega) (by omega) (by omega),Option.bind_some,aCo c1 c2]
  by_cases h0 : (m.Cam.length : Int) % m.Calendar.Months.length = 0
  ·rw [if_pos h0,if_pos h0,if_neg (by decide)]
  ·rw [if_neg h0,if_neg h0,if_pos (by decide)]
 rw [aEt hw]
 simp only [Option.bind_some,hbel]
 by_cases hs : (gE m.Works m.Minute).2 = 0
 ·have s2 := wW hw hs k2
  have s3 := wW hw hs k3
  have d3 := xS s3.2.1
  rw [if_neg (by simp [hs]),if_pos hs,s2.1,s3.1]
  unfold sG
  simp only [Option.bind_some]
  rw [sH (by omega) (by omega)]
  simp only [Option.bind_some]
  unfold aHv aPt aKj aNn
  by_cases b1 : kH (gE m.Works m.Minute).1 m.Hour = ⟨1,12⟩ <;> by_cases b2 : w64 (w64 (2 * m.Teeth) * kJ (kH (gE m.Works m.Minute).1 m.Escape).Num) = w64 (m.Beats * (kH (gE m.Works m.Minute).1 m.Escape).Den) <;> by_cases b3 : (m.Cam.length : Int) % m.Calendar.Months.length = 0 <;> simp [b1,b2,b3,chk]
 ·rw [if_pos hs,if_neg hs]
  unfold aJn aNn
  by_cases b3 : (m.Cam.length : Int) % m.Calendar.Months.length = 0 <;> simp [b3,chk]
theorem aCf {α : Type} {xs : List α} {k : Nat} (hl : xs.length ≤ 1048576) (hk : k ≤ 100) : (chk ((([] : List α).length + xs.length) * k * 64 ≤ 140737488355328) (some (([] : List α) ++ xs))) = some xs := by
 rw [fZ ?_,List.nil_append]
 have : (([] : List α).length + xs.length) * k ≤ 1048576 * 100 := Nat.mul_le_mul (by simpa using hl) hk
 omega
theorem aEg {w : bJ} (h : aCe w) : nO w = some w := by
 unfold nO
 have hl := h.1.1
 rw [aJa (xs := w.Arbors) (f := fun a => [a]) (c := 1) (fun v _ => by simp) (fun i hi ys hy => ?_) (fun ys => by simp) (by omega)]
 ·simp only [Option.bind_some]
  unfold gD
  rw [aCf h.2.1 (by omega)]
  simp
 ·have hi' : (i : Int) < w.Arbors.length := by omega
  have hw := (h.1.2 _ (List.getElem_mem hi)).2.1
  simp only [if_pos hi',eD hi,Option.bind_some,aU (x := (i : Int) + 1) (by omega) (by omega)]
  first | unfold cO | unfold slices_Clone_Lint64_int64_v_m
  rw [aCf hw (by omega),Option.bind_some,fZ (by simp at hy ⊢; omega)]
theorem tB {m : aX} (h : iJ m) : hH m = some m := by
 unfold hH
 rw [aEg h.2.1,Option.bind_some]
 unfold fK eG
 rw [aCf h.2.2.2.2.2.2.2.1.2.1.1 (by omega),Option.bind_some,aCf h.2.2.2.2.2.2.2.1.2.2.1.1 (by omega),Option.bind_some,aG4 h.2.2.2.2.2.2.2.2.1.1,Option.bind_some]
def aVf : aX := ⟨⟨#[]⟩,⟨[],[]⟩,0,0,0,0,0,⟨⟨#[]⟩,[],[],0⟩,[],0⟩
def aVl : aC := ⟨[],0,0,0,0,0,0⟩
def aDq : dO := ⟨aVf,⟨0,0,0⟩,0,0,aVl⟩
def aU0 (m : aX) (d : bQ) (wd : Int) : dO × Int :=
 if vL m = true then (if gV m = [] then (if (aBp m.Calendar m.Cam d wd).2 = 0 then (⟨m,d,wd,0,(aBp m.Calendar m.Cam d wd).1⟩,0) else (aDq,(aBp m.Calendar m.Cam d wd).2)) else (aDq,6)) else (aDq,1)
theorem smC {m : aX} (h : iJ m) : m.Calendar.Months.length ≤ 1048576 ∧ m.Calendar.Rules.length ≤ 1048576 ∧ m.Cam.length ≤ 1048576 := ⟨h.2.2.2.2.2.2.2.1.2.1.1,h.2.2.2.2.2.2.2.1.2.2.1.1,h.2.2.2.2.2.2.2.2.1.1⟩
theorem aNd {α : Type} {xs : List α} : (0 < (xs.length : Int)) ↔ ¬ xs = [] := by
 cases xs <;> simp
theorem aKq {m : aX} (h : iJ m) (d : bQ) (wd : Int) : tT m d wd = some (aU0 m d wd) := by
 obtain ⟨c1,c2,c3⟩ := smC h
 unfold tT aU0
 rw [sR h,Option.bind_some]
 cases hv : vL m
 ·rfl
 ·rw [yQ h,hv]
  simp only [Bool.not_true,Bool.false_eq_true,if_false,if_true,Option.bind_some,aNd]
  by_cases hf : gV m = []
  ·rw [if_neg (by simp [hf]),if_pos hf,tI (by omega) (by omega) c3,Option.bind_some]
   by_cases hs : (aBp m.Calendar m.Cam d wd).2 = 0
   ·rw [if_neg (by simp [hs]),if_pos hs,tB h,Option.bind_some]
   ·rw [if_pos hs,if_neg hs]; rfl
  ·rw [if_pos hf,if_neg hf]; rfl
def aAg (s : dO) : Bool := vL s.Movement && (decide (gV s.Movement = []) && (decide ((aBp s.Movement.Calendar s.Movement.Cam s.Start s.First).2 = 0) && (btw s.Clock 0 1000000000 && (aEb s.Dial && (decide (s.Dial.Cam = s.Movement.Cam) && (decide (s.Dial.Months = (aBp s.Movement.Calendar s.Movement.Cam s.Start s.First).1.Months) && (decide (s.Dial.Teeth = (aBp s.Movement.Calendar s.Movement.Cam s.Start s.First).1.Teeth) && decide (s.Dial.Week = (aBp s.Movement.Calendar s.Movement.Cam s.Start s.First).1.Week))))))))
theorem aQn {c : aA} {cam : List Int} {d : bQ} {wd : Int} (h : (aBp c cam d wd).2 = 0) : (aBp c cam d wd).1.Cam = cam := by
 unfold aBp at h ⊢
 split
 ·rename_i h1
  rw [if_pos h1] at h
  split
  ·rfl
  ·rename_i h2; rw [if_neg h2] at h; cases h
 ·rename_i h1
  rw [if_neg h1] at h
  exact absurd h h1
theorem qM {s : dO} (h : qI s) : gM s = some (aAg s) := by
 obtain ⟨hm,_,_,_,hd⟩ := h
 have hdl := hd.1.1
 unfold gM aAg
 rw [aKq hm,Option.bind_some]
 unfold aU0
 cases hv : vL s.Movement
 ·rfl
 ·by_cases hf : gV s.Movement = []
  ·by_cases hs : (aBp s.Movement.Calendar s.Movement.Cam s.Start s.First).2 = 0
   ·have hc := aQn hs
    rw [if_pos rfl,if_pos hf,if_pos hs,decide_eq_true hf,decide_eq_true hs]
    simp only [ne_eq,not_true_eq_false,if_false,eF,Option.bind_some,rD (p := s.Dial) (by omega),itO,hc,aUs (xs := s.Dial.Cam) (ys := s.Movement.Cam) (by omega),Bool.true_and]
    simp only [aVd,itA,Bool.decide_eq_true]
    cases btw s.Clock 0 1000000000
    ·rfl
    ·cases aEb s.Dial
     ·rfl
     ·simp only [Bool.not_true,Bool.or_self,Bool.false_eq_true,if_false,Bool.true_and]
   ·rw [if_pos rfl,if_pos hf,if_neg hs,if_pos hs,decide_eq_false hs,decide_eq_true hf]; rfl
  ·rw [if_pos rfl,if_neg hf,decide_eq_false hf]; rfl
theorem aAq {s : dO} (h : qI s) : pB s = some (aAg s) := by
 obtain ⟨hm,_,_,_,hd⟩ := h
 have hdl := hd.1.1
 obtain ⟨c1,c2,c3⟩ := smC hm
 unfold pB aAg kS
 rw [aFh hm,Option.bind_some]
 cases hv : vL s.Movement
 ·rfl
 ·rw [xV hm hv]
  simp only [Bool.not_true,Bool.false_eq_true,if_false,Option.bind_some,aNd]
  by_cases hf : gV s.Movement = []
  ·rw [if_neg (by simp [hf]),decide_eq_true hf]
   simp only [eA,Option.bind_some,xJ (p := s.Dial) (by omega),itO,oO (c := s.Movement.Calendar) (cam := s.Movement.Cam) (by omega) (by omega) c3,aVb (xs := s.Dial.Cam) (ys := s.Movement.Cam) (by omega),Bool.true_and]
   simp only [aVd,itA,Bool.decide_eq_true]
   cases btw s.Clock 0 1000000000
   ·cases decide ((aBp s.Movement.Calendar s.Movement.Cam s.Start s.First).2 = 0) <;> rfl
   ·cases aEb s.Dial
    ·cases decide ((aBp s.Movement.Calendar s.Movement.Cam s.Start s.First).2 = 0) <;> rfl
    ·simp only [Bool.not_true,Bool.or_self,Bool.false_eq_true,if_false,Bool.true_and]
     congr 1
     ac_rfl
  ·rw [if_pos hf,Option.bind_some,if_pos rfl,decide_eq_false hf]; rfl
end Go.Proofs.YtgcdbbidmfdonaaGreat
namespace Go.Proofs.YtgcdbbidmfdonaaGreat
set_option linter.unusedVariables false
def aGy (c : aA) (y : Int) (k : Nat) : Int := aA1 (fun j => nY c (fR c y) (j : Int)) k
def nU (c : aA) (d : bQ) : Int := bef c d.Year.toNat + (d.Day - 1) + aGy c d.Year (d.Month - 1).toNat
theorem rF {c : aA} (h : mV c = true) (y : Int) {m n : Nat} (hm : m ≤ n) : aGy c y m ≤ aGy c y n := aIz (fun k => aSf h _ k) hm
theorem aCm {c : aA} (y : Int) (y0 : 0 ≤ y) : aGy c y c.Months.length = aEi c y.toNat := by
 unfold aGy aEi aKz
 rw [show ((y.toNat : Nat) : Int) = y by omega]
theorem tC (c : aA) (y : Int) (k : Nat) : aGy c y (k + 1) = aGy c y k + nY c (fR c y) k := rfl
theorem eN {c : aA} {d : bQ} : gK c d = true ↔ (0 ≤ d.Year ∧ d.Year ≤ 9999) ∧ (1 ≤ d.Month ∧ d.Month ≤ c.Months.length) ∧ 1 ≤ d.Day ∧ d.Day ≤ nY c (fR c d.Year) (d.Month - 1) := by
 unfold gK btw
 simp only [Bool.and_eq_true,decide_eq_true_eq]
theorem aOq {c : aA} (h : mV c = true) {d : bQ} (hd : gK c d = true) : 0 ≤ aGy c d.Year (d.Month - 1).toNat ∧ bef c d.Year.toNat ≤ nU c d ∧ nU c d < bef c (d.Year.toNat + 1) ∧ aGy c d.Year (d.Month - 1).toNat + d.Day ≤ aEi c d.Year.toNat := by
 obtain ⟨⟨y0,y1⟩,⟨m0,m1⟩,d0,d1⟩ := eN.1 hd
 have e : (((d.Month - 1).toNat : Nat) : Int) = d.Month - 1 := by omega
 have h1 := rF h d.Year (m := 0) (n := (d.Month - 1).toNat) (by omega)
 have h0 : aGy c d.Year 0 = 0 := rfl
 have h2 := rF h d.Year (m := (d.Month - 1).toNat + 1) (n := c.Months.length) (by omega)
 rw [tC,aCm d.Year y0,e] at h2
 rw [aCi]
 unfold nU
 omega
theorem aK8 {c : aA} (h : mV c = true) {d e : bQ} (hd : gK c d = true) (he : gK c e = true) (hn : nU c d = nU c e) : d = e := by
 have key : ∀ {d e : bQ},gK c d = true → gK c e = true → nU c d = nU c e → ¬ d.Year < e.Year := by
  intro d e hd he hn hlt
  obtain ⟨⟨y0,y1⟩,_⟩ := eN.1 hd
  have a := aOq h hd
  have b := aOq h he
  have := aCl h (m := d.Year.toNat + 1) (n := e.Year.toNat) (by omega)
  omega
 have hy : d.Year = e.Year := by
  have h1 := key hd he hn
  have h2 := key he hd hn.symm
  omega
 have keyM : ∀ {d e : bQ},gK c d = true → gK c e = true → d.Year = e.Year → nU c d = nU c e → ¬ d.Month < e.Month := by
  intro d e hd he hy hn hlt
  obtain ⟨_,⟨m0,m1⟩,d0,d1⟩ := eN.1 hd
  obtain ⟨_,⟨n0,n1⟩,e0,e1⟩ := eN.1 he
  have := rF h d.Year (m := (d.Month - 1).toNat + 1) (n := (e.Month - 1).toNat) (by omega)
  rw [tC,show (((d.Month - 1).toNat : Nat) : Int) = d.Month - 1 by omega] at this
  unfold nU at hn
  rw [← hy] at hn
  omega
 have hm : d.Month = e.Month := by
  have h1 := keyM hd he hy hn
  have h2 := keyM he hd hy.symm hn.symm
  omega
 have hdd : d.Day = e.Day := by
  unfold nU at hn
  rw [← hy,← hm] at hn
  omega
 obtain ⟨a,b,k⟩ := d
 obtain ⟨a',b',k'⟩ := e
 simp_all
def yrs (c : aA) : Nat := 10000 + 0 * c.Months.length
theorem aDc (c : aA) : yrs c = 10000 := by unfold yrs; omega
def aG7 (c : aA) : Int := bef c (yrs c)
theorem aGt {c : aA} (h : mV c = true) {d : bQ} (hd : gK c d = true) : 0 ≤ nU c d ∧ nU c d < aG7 c ∧ aG7 c ≤ 12000000 := by
 obtain ⟨⟨y0,y1⟩,_⟩ := eN.1 hd
 have a := aOq h hd
 have b := (aD5 h d.Year.toNat).1
 have e := aCl h (m := d.Year.toNat + 1) (n := yrs c) (by rw [aDc]; omega)
 have f := (aD5 h (yrs c)).2
 have g := aDc c
 unfold aG7
 omega
theorem aL7 {c : aA} (h : mV c = true) {d : bQ} (hd : gK c d = true) : wK c d = some (nU c d) := by
 obtain ⟨⟨y0,y1⟩,⟨m0,m1⟩,d0,d1⟩ := eN.1 hd
 have hc := (dT h).2.1
 have b := aD5 h d.Year.toNat
 have hl := oC h (fR c d.Year) (k := d.Month - 1) (by omega) (by omega)
 unfold wK
 rw [vU h y0 (by omega),Option.bind_some,mB h y0,Option.bind_some,aU (x := bef c _ + _) (by omega) (by omega),aU (by omega) (by omega)]
 rw [aN6 (fun i (s : Int) => (s,i)) 1 (d.Month - 1).toNat (fun k s => s + nY c (fR c d.Year) k) id (fun i s => 0 ≤ s ∧ s ≤ 12001000 + 60 * i) (by omega) (fun i s hi hs => ?_) (fun i s hi hs => ?_) (fun s hs => ?_) _ ⟨by omega,by simp; omega⟩]
 ·rw [aGe]
  unfold nU aGy
  simp only [id,Option.bind_some]
  congr 1; try omega
 ·have hi' : 1 + (i : Int) < d.Month := by omega
  have hq := oC h (fR c d.Year) (k := i) (by omega) (by omega)
  simp only [if_pos hi',jN h _ (m := 1 + (i : Int)) (by omega) (by omega),Option.bind_some]
  rw [show 1 + (i : Int) - 1 = i by omega,aU (by omega) (by omega),aU (by omega) (by omega)]
  congr 3; try omega
 ·have hq := oC h (fR c d.Year) (k := i) (by omega) (by omega)
  omega
 ·have : ¬ (1 + ((d.Month - 1).toNat : Int) < d.Month) := by omega
  simp only [if_neg this]; rfl
def aBv (c : aA) (day : Int) (s : Int × bQ) : Prop := s.2.Month = 1 ∧ s.2.Day = 0 ∧ 0 ≤ s.2.Year ∧ 0 ≤ s.1 ∧ bef c s.2.Year.toNat + s.1 = day
theorem aBv.bd {c : aA} (h : mV c = true) {day : Int} {s : Int × bQ} (hs : aBv c day s) (hd : day < aG7 c) : s.2.Year ≤ 9999 ∧ s.1 ≤ 12000000 := by
 obtain ⟨_,_,h3,h4,h5⟩ := hs
 have f := (aD5 h (yrs c)).2
 have g := (aD5 h s.2.Year.toNat).1
 have y := aDc c
 unfold aG7 at hd
 refine ⟨?_,by omega⟩
 refine Classical.byContradiction fun hn => ?_
 have := aCl h (m := yrs c) (n := s.2.Year.toNat) (by omega)
 omega
theorem aPq {c : aA} (h : mV c = true) {day : Int} (hd : day < aG7 c) {step : Int × bQ → Option ((Int × bQ) ⊕ (Int × bQ))}
  (hS : ∀ s,aBv c day s → step s = some (if aEi c s.2.Year.toNat ≤ s.1 then .inl (s.1 - aEi c s.2.Year.toNat,⟨s.2.Year + 1,s.2.Month,s.2.Day⟩) else .inr (s.1,s.2))) (s0 : Int × bQ) (h0 : aBv c day s0) :
  ∃ x,cM step s0 = some x ∧ aBv c day x ∧ x.1 < aEi c x.2.Year.toNat := by
 refine tY (fun s => aBv c day s) (fun s => s.1.toNat) (fun x => aBv c day x ∧ x.1 < aEi c x.2.Year.toNat) (fun s hI => ?_) s0 h0 (by have := (h0.bd h hd).2; omega)
 rw [hS s hI]
 have hq := yF h s.2.Year.toNat
 obtain ⟨h1,h2,h3,h4,h5⟩ := hI
 by_cases hc : aEi c s.2.Year.toNat ≤ s.1
 ·left
  refine ⟨(s.1 - aEi c s.2.Year.toNat,⟨s.2.Year + 1,s.2.Month,s.2.Day⟩),by rw [if_pos hc],⟨h1,h2,by dsimp only; omega,by dsimp only; omega,?_⟩,by dsimp only; omega⟩
  dsimp only
  rw [show (s.2.Year + 1).toNat = s.2.Year.toNat + 1 by omega,aCi]
  omega
 ·right
  exact ⟨(s.1,s.2),by rw [if_neg hc],⟨h1,h2,h3,h4,h5⟩,by dsimp only; omega⟩
def aL2 (c : aA) (y r : Int) (s : Int × bQ) : Prop := s.2.Year = y ∧ 1 ≤ s.2.Month ∧ s.2.Month ≤ c.Months.length ∧ 0 ≤ s.1 ∧ aGy c y (s.2.Month - 1).toNat + s.1 = r
theorem aP6 {c : aA} (h : mV c = true) {y r : Int} (y0 : 0 ≤ y) (hr : r < aEi c y.toNat) {step : Int × bQ → Option ((Int × bQ) ⊕ (Int × bQ))}
  (hS : ∀ s,aL2 c y r s → step s = some (if nY c (fR c y) (s.2.Month - 1) ≤ s.1 then .inl (s.1 - nY c (fR c y) (s.2.Month - 1),⟨s.2.Year,s.2.Month + 1,s.2.Day⟩) else .inr (s.1,s.2))) (s0 : Int × bQ) (h0 : aL2 c y r s0) :
  ∃ x,cM step s0 = some x ∧ aL2 c y r x ∧ x.1 < nY c (fR c y) (x.2.Month - 1) := by
 have hl := yF h y.toNat
 have nn : ∀ k,0 ≤ aGy c y k := fun k => rF h y (m := 0) (n := k) (by omega)
 refine tY (fun s => aL2 c y r s) (fun s => s.1.toNat) (fun x => aL2 c y r x ∧ x.1 < nY c (fR c y) (x.2.Month - 1)) (fun s hI => ?_) s0 h0 (by obtain ⟨_,_,_,h4,h5⟩ := h0; have := nn (s0.2.Month - 1).toNat; omega)
 rw [hS s hI]
 obtain ⟨h1,h2,h3,h4,h5⟩ := hI
 have hq := oC h (fR c y) (k := s.2.Month - 1) (by omega) (by omega)
 by_cases hc : nY c (fR c y) (s.2.Month - 1) ≤ s.1
 ·left
  have e : (s.2.Month + 1 - 1).toNat = (s.2.Month - 1).toNat + 1 := by omega
  have e2 : (((s.2.Month - 1).toNat : Nat) : Int) = s.2.Month - 1 := by omega
  refine ⟨(s.1 - nY c (fR c y) (s.2.Month - 1),⟨s.2.Year,s.2.Month + 1,s.2.Day⟩),by rw [if_pos hc],⟨h1,by dsimp only; omega,?_,by dsimp only; omega,?_⟩,by dsimp only; omega⟩
  ·dsimp only
   refine Classical.byContradiction fun hn => ?_
   have e3 : (s.2.Month - 1).toNat + 1 = c.Months.length := by omega
   have := tC c y (s.2.Month - 1).toNat
   rw [e3,aCm y y0,e2] at this
   omega
  ·dsimp only
   rw [e,tC,e2]
   omega
 ·right
  exact ⟨(s.1,s.2),by rw [if_neg hc],⟨h1,h2,h3,h4,h5⟩,by dsimp only; omega⟩
theorem aQ5 {c : aA} {day : Int} {x : Int × bQ} (hx : aBv c day x) (hy : x.2.Year ≤ 9999) {z : Int × bQ} (hz : aL2 c x.2.Year x.1 z) (hl : z.1 < nY c (fR c x.2.Year) (z.2.Month - 1)) : gK c ⟨z.2.Year,z.2.Month,z.1 + 1⟩ = true ∧ nU c ⟨z.2.Year,z.2.Month,z.1 + 1⟩ = day := by
 obtain ⟨h1,h2,h3,h4,h5⟩ := hx
 obtain ⟨g1,g2,g3,g4,g5⟩ := hz
 refine ⟨eN.2 ⟨⟨?_,?_⟩,⟨g2,g3⟩,?_,?_⟩,?_⟩
 ·dsimp only; omega
 ·dsimp only; omega
 ·dsimp only; omega
 ·dsimp only; rw [g1]; omega
 ·unfold nU
  dsimp only
  rw [g1]; omega
theorem aJ5 {c : aA} (h : mV c = true) {day : Int} (h0 : 0 ≤ day) (h1 : day < aG7 c) : ∃ d,tM c day = some d ∧ gK c d = true ∧ nU c d = day := by
 have hc := (dT h).2.1
 have hA : aG7 c ≤ 12000000 := by have := (aD5 h (yrs c)).2; have := aDc c; unfold aG7; omega
 unfold tM
 rw [vB h,Option.bind_some]
 obtain ⟨x,ex,hx,hxl⟩ := aPq h h1 (step := fun (s5 : Int × bQ) => ((((hM c s5.2.Year).bind fun v6 => (if v6 = true then some (aKz c true) else some (aKz c false))) : Option Int).bind fun v7 => (if s5.1 < v7 then some (.inr (s5.1,s5.2)) else some (.inl (w64 (s5.1 - v7),(⟨w64 (s5.2.Year + 1),s5.2.Month,s5.2.Day⟩ : bQ)))))) (fun s hs => by
  have hb := hs.bd h h1
  obtain ⟨_,_,y0,r0,_⟩ := hs
  have hq := yF h s.2.Year.toNat
  have e : (if fR c s.2.Year = true then some (aKz c true) else some (aKz c false)) = some (aEi c s.2.Year.toNat) := by
   unfold aEi
   rw [show ((s.2.Year.toNat : Nat) : Int) = s.2.Year by omega]
   cases fR c s.2.Year <;> rfl
  simp only [mB h y0,Option.bind_some,e]
  by_cases hl : s.1 < aEi c s.2.Year.toNat
  ·rw [if_pos hl,if_neg (by omega)]
  ·rw [if_neg hl,if_pos (by omega),aU (by omega) (by omega),aU (by omega) (by omega)]) (day,⟨0,1,0⟩) ⟨rfl,rfl,by simp,h0,by simp [bef,aA1]⟩
 have hxb := hx.bd h h1
 have hx' := hx
 obtain ⟨x1,x2,x3,x4,x5⟩ := hx'
 rw [ex,Option.bind_some,mB h x3]
 simp only [Option.bind_some]
 obtain ⟨z,ez,hz,hzl⟩ := aP6 h x3 hxl (step := fun (s13 : Int × bQ) => ((eB c (fR c x.2.Year) s13.2.Month).bind fun v14 => (if v14 ≤ s13.1 then ((eB c (fR c x.2.Year) s13.2.Month).bind fun v15 => some (.inl (w64 (s13.1 - v15),(⟨s13.2.Year,w64 (s13.2.Month + 1),s13.2.Day⟩ : bQ)))) else some (.inr (s13.1,s13.2))))) (fun s hs => by
  obtain ⟨s1,s2,s3,s4,s5⟩ := hs
  have hq := oC h (fR c x.2.Year) (k := s.2.Month - 1) (by omega) (by omega)
  have nn : 0 ≤ aGy c x.2.Year (s.2.Month - 1).toNat := rF h x.2.Year (m := 0) (n := (s.2.Month - 1).toNat) (by omega)
  simp only [jN h (fR c x.2.Year) s2 s3,Option.bind_some]
  by_cases hl : nY c (fR c x.2.Year) (s.2.Month - 1) ≤ s.1
  ·rw [if_pos hl,if_pos hl,aU (by omega) (by omega),aU (by omega) (by omega)]
  ·rw [if_neg hl,if_neg hl]) (x.1,x.2) ⟨rfl,by dsimp only; omega,by dsimp only; omega,x4,by
   rw [x1]
   show aGy c x.2.Year 0 + x.1 = x.1
   have : aGy c x.2.Year 0 = 0 := rfl
   omega⟩
 rw [ez,Option.bind_some]
 obtain ⟨m1,m2,m3,m4,m5⟩ := hz
 have hq := oC h (fR c x.2.Year) (k := z.2.Month - 1) (by omega) (by omega)
 rw [aU (by omega) (by omega)]
 exact ⟨_,rfl,aQ5 hx hxb.1 ⟨m1,m2,m3,m4,m5⟩ hzl⟩
theorem aHl {c : aA} (h : mV c = true) : rN c = some (aG7 c - 1) := by
 have hA := aD5 h (yrs c)
 have hy := aDc c
 unfold rN
 have e : (10000 : Int).toNat = yrs c := by rw [aDc]; rfl
 have := vU h (y := 10000) (by omega) (by omega)
 rw [e] at this
 rw [this,Option.bind_some,aU (by omega) (by omega)]; rfl
end Go.Proofs.YtgcdbbidmfdonaaGreat
namespace Go.Proofs.YtgcdbbidmfdonaaGreat
set_option linter.unusedVariables false
theorem uV {s : dO} (h : aAg s = true) : vL s.Movement = true ∧ gV s.Movement = [] ∧ (aBp s.Movement.Calendar s.Movement.Cam s.Start s.First).2 = 0 ∧ (0 ≤ s.Clock ∧ s.Clock ≤ 1000000000) ∧ aEb s.Dial = true := by
 unfold aAg at h
 simp only [Bool.and_eq_true,decide_eq_true_eq] at h
 exact ⟨h.1,h.2.1,h.2.2.1,of_decide_eq_true h.2.2.2.1,h.2.2.2.2.1⟩
theorem aPn {c : aA} {cam : List Int} {d : bQ} {wd : Int} (h : (aBp c cam d wd).2 = 0) : vK c cam = 0 ∧ gK c d = true ∧ 1 ≤ wd ∧ wd ≤ c.Week := by
 unfold aBp at h
 split at h
 ·rename_i h1
  split at h
  ·rename_i h2
   rw [Bool.and_eq_true] at h2
   exact ⟨h1,h2.1,of_decide_eq_true h2.2⟩
  ·cases h
 ·rename_i h1; exact absurd h h1
theorem zC {s : dO} (h : aAg s = true) : mV s.Movement.Calendar = true ∧ gK s.Movement.Calendar s.Start = true ∧ (1 ≤ s.First ∧ s.First ≤ s.Movement.Calendar.Week) ∧ (1 ≤ s.Movement.Calendar.Week ∧ s.Movement.Calendar.Week ≤ 12) ∧ (0 ≤ s.Clock ∧ s.Clock ≤ 1000000000) ∧ aEb s.Dial = true := by
 obtain ⟨h1,_,h3,h4,h5⟩ := uV h
 obtain ⟨_,g2,g3⟩ := aPn h3
 have hc := (sT h1).1
 exact ⟨hc,g2,g3,(dT hc).2.2.2.1,h4,h5⟩
def aRi (s : dO) (r : Option bQ) : Prop :=
 (nU s.Movement.Calendar s.Start + s.Clock / 86400 < aG7 s.Movement.Calendar ∧ ∃ d,r = some d ∧ gK s.Movement.Calendar d = true ∧ nU s.Movement.Calendar d = nU s.Movement.Calendar s.Start + s.Clock / 86400) ∨ (¬ nU s.Movement.Calendar s.Start + s.Clock / 86400 < aG7 s.Movement.Calendar ∧ r = none)
theorem aQo {s : dO} (h : aAg s = true) {a b : Option bQ} (ha : aRi s a) (hb : aRi s b) : a = b := by
 have hc := (zC h).1
 rcases ha with ⟨h1,d,rfl,d1,d2⟩ | ⟨h1,rfl⟩
 ·rcases hb with ⟨_,e,rfl,e1,e2⟩ | ⟨h2,rfl⟩
  ·rw [aK8 hc d1 e1 (d2.trans e2.symm)]
  ·exact absurd h1 h2
 ·rcases hb with ⟨h2,_⟩ | ⟨_,rfl⟩
  ·exact absurd h2 h1
  ·rfl
def wdR (s : dO) : Int := w64 ((w64 (w64 (s.First - 1) + s.Clock / 86400)).tmod s.Movement.Calendar.Week + 1)
theorem zM {s : dO} (hs : qI s) (h : aAg s = true) : ∃ r,aRi s r ∧ kP s = some (match r with
  | some d => (d,wdR s,0)
  | none => (⟨0,0,0⟩,0,2)) := by
 obtain ⟨c1,c2,_⟩ := smC hs.1
 obtain ⟨hc,hd,hf,hw,hk,_⟩ := zC h
 have hb := aGt hc hd
 have hq := tD (a := s.Clock) (g := 86400) hk.1 (by omega)
 unfold kP tX zS uF
 rw [Int.tdiv_eq_ediv_of_nonneg hk.1,aU (x := s.Clock / 86400) (by omega) (by omega),iD (by omega) (by omega),hc]
 simp only [Bool.not_true,Bool.false_eq_true,if_false,Option.bind_some,tA (show s.Movement.Calendar.Months.length ≤ 9223372036854775807 by omega) (show s.Movement.Calendar.Rules.length ≤ 9223372036854775807 by omega),hc,hd,Bool.and_self,aL7 hc hd,ne_eq,not_true_eq_false,aHl hc,eF]
 rw [aU (x := -nU _ _) (by omega) (by omega),aU (x := aG7 _ - 1 - nU _ _) (by omega) (by omega)]
 by_cases hl : nU s.Movement.Calendar s.Start + s.Clock / 86400 < aG7 s.Movement.Calendar
 ·have e : btw (s.Clock / 86400) (-nU s.Movement.Calendar s.Start) (aG7 s.Movement.Calendar - 1 - nU s.Movement.Calendar s.Start) = true := decide_eq_true (by omega)
  obtain ⟨d,e1,e2,e3⟩ := aJ5 hc (day := nU s.Movement.Calendar s.Start + s.Clock / 86400) (by omega) hl
  refine ⟨some d,.inl ⟨hl,d,rfl,e2,e3⟩,?_⟩
  rw [e,Bool.not_true,if_neg (by decide),aU (x := nU _ _ + _) (by omega) (by omega),e1]
  simp only [Option.bind_some,not_true_eq_false,if_false]
  rw [fZ (by omega)]; rfl
 ·have e : btw (s.Clock / 86400) (-nU s.Movement.Calendar s.Start) (aG7 s.Movement.Calendar - 1 - nU s.Movement.Calendar s.Start) = false := decide_eq_false (by omega)
  refine ⟨none,.inr ⟨hl,rfl⟩,?_⟩
  rw [e]; rfl
theorem aJv {p : aC} (h : aEb p = true) : 1 ≤ p.Months := by
 unfold aEb at h
 simp only [Bool.and_eq_true,decide_eq_true_eq] at h
 exact h.2.1
end Go.Proofs.YtgcdbbidmfdonaaGreat
namespace Go.Proofs.YtgcdbbidmfdonaaGreat
set_option linter.unusedVariables false
section
variable {α : Type} (f : Int → α → α × Int)
end
section
variable {α : Type} {f : Int → α → α × Int} {sm : α → Prop} {C : Int}
end
end Go.Proofs.YtgcdbbidmfdonaaGreat
namespace Go.Proofs.YtgcdbbidmfdonaaGreat
open Go.RowKit
set_option linter.unusedVariables false
set_option maxRecDepth 100000
set_option maxHeartbeats 2000000
end Go.Proofs.YtgcdbbidmfdonaaGreat
namespace Go.Proofs.YtgcdbbidmfdonaaGreat
set_option linter.unusedVariables false
def zX (p : aC) : Prop := (0 ≤ p.At ∧ p.At < p.Cam.length ∧ p.Cam.length ≤ 260) ∧ (1 ≤ p.Day ∧ p.Day ≤ p.Teeth ∧ p.Teeth ≤ 60) ∧ (1 ≤ p.Week ∧ p.Week ≤ 12) ∧ 1 ≤ p.Weekday ∧ p.Weekday ≤ p.Week
theorem wS {p : aC} (h : aEb p = true) : zX p := by
 unfold aEb at h
 simp only [Bool.and_eq_true,decide_eq_true_eq] at h
 obtain ⟨h1,h2,h3,h4,h5,h6,h7,h8,h9⟩ := h
 have hl := (lE h1).2.2
 unfold btw at h7 h8 h9
 simp only [decide_eq_true_eq] at h7 h8 h9
 exact ⟨⟨h6.1,h6.2,hl⟩,⟨h7.1,h7.2,h4⟩,⟨h8.1,h8.2⟩,h9.1,h9.2⟩
def qC (p : aC) (n : Int) : aC := if p.Teeth < p.Day + n then ⟨p.Cam,p.Months,p.Teeth,(p.At + 1).tmod p.Cam.length,p.Day + n - p.Teeth,p.Week,p.Weekday⟩ else ⟨p.Cam,p.Months,p.Teeth,p.At,p.Day + n,p.Week,p.Weekday⟩
def jE (p : aC) : Int := if p.Day = p.Cam.getD p.At.toNat 0 then p.Teeth + 1 - p.Day else 1
def aA8 (p : aC) : aC := ⟨p.Cam,p.Months,p.Teeth,(p.At + 1).tmod p.Cam.length,p.Day,p.Week,p.Weekday⟩
def aAj (p : aC) : aC := ⟨p.Cam,p.Months,p.Teeth,p.At,p.Day,p.Week,p.Weekday.tmod p.Week + 1⟩
def qJ (p : aC) : aC := aAj (qC p (jE p))
theorem vP {a n : Int} (h0 : 0 ≤ a) (hn : 0 < n) : 0 ≤ a.tmod n ∧ a.tmod n < n := by
 rw [Int.tmod_eq_emod_of_nonneg h0]
 exact ⟨Int.emod_nonneg _ (by omega),Int.emod_lt_of_pos _ hn⟩
theorem zG {p : aC} (h : zX p) : 1 ≤ jE p ∧ p.Day + jE p ≤ p.Teeth + 1 := by
 obtain ⟨_,h2,_⟩ := h
 unfold jE
 split <;> omega
theorem aD6 {p : aC} {n : Int} (h : zX p) (h1 : 1 ≤ n) (h2 : p.Day + n ≤ p.Teeth + 1) : zX (qC p n) := by
 obtain ⟨⟨a1,a2,a3⟩,⟨b1,b2,b3⟩,hw⟩ := h
 have t := vP (a := p.At + 1) (n := p.Cam.length) (by omega) (by omega)
 unfold qC
 split
 ·exact ⟨⟨t.1,t.2,a3⟩,⟨by dsimp only; omega,by dsimp only; omega,b3⟩,hw⟩
 ·exact ⟨⟨a1,a2,a3⟩,⟨by dsimp only; omega,by dsimp only; omega,b3⟩,hw⟩
theorem aOg {p : aC} (h : zX p) : zX (aAj p) := by
 obtain ⟨ha,hb,hc,d1,d2⟩ := h
 have t := vP (a := p.Weekday) (n := p.Week) (by omega) (by omega)
 exact ⟨ha,hb,hc,by unfold aAj; dsimp only; omega,by unfold aAj; dsimp only; omega⟩
theorem aQ6 {p : aC} (h : zX p) : zX (aA8 p) := by
 obtain ⟨⟨a1,a2,a3⟩,hb⟩ := h
 have t := vP (a := p.At + 1) (n := p.Cam.length) (by omega) (by omega)
 exact ⟨⟨t.1,t.2,a3⟩,hb⟩
theorem aB8 {p : aC} (h : zX p) : zX (qJ p) := by
 have s := zG h
 exact aOg (aD6 h s.1 s.2)
def xR (s : dO) (p : aC) : dO := ⟨s.Movement,s.Start,s.First,s.Clock,p⟩
theorem aLx {p : aC} (h : zX p) : atI p.Cam p.At = some (p.Cam.getD p.At.toNat 0) := by
 obtain ⟨⟨a1,a2,a3⟩,_⟩ := h
 unfold atI
 rw [if_pos a1,List.getElem?_eq_getElem (by omega)]
 simp [List.getD_eq_getElem?_getD,List.getElem?_eq_getElem (show p.At.toNat < p.Cam.length by omega)]
theorem sO {p : aC} (h : zX p) : gO p = some (jE p) := by
 obtain ⟨_,⟨b1,b2,b3⟩,_⟩ := id h
 unfold gO jE
 rw [aLx h,Option.bind_some,aU (x := p.Teeth + 1) (by omega) (by omega),aU (x := p.Teeth + 1 - p.Day) (by omega) (by omega)]
 split <;> rfl
theorem aFx {p : aC} (h : zX p) : qB p = some (jE p) := by
 obtain ⟨_,⟨b1,b2,b3⟩,_⟩ := id h
 unfold qB jE
 rw [aLx h,Option.bind_some,aU (x := p.Teeth + 1) (by omega) (by omega),aU (x := p.Teeth + 1 - p.Day) (by omega) (by omega)]
 split <;> rfl
theorem yC {s : dO} (h : 0 ≤ s.Dial.At ∧ s.Dial.At < s.Dial.Cam.length ∧ s.Dial.Cam.length ≤ 260) : dY s = some (xR s (aA8 s.Dial)) := by
 unfold dY xR aA8
 rw [fZ (by omega),aU (x := s.Dial.At + 1) (by omega) (by omega)]
theorem vC {s : dO} (h : zX s.Dial) : dR s = some (xR s (aAj s.Dial)) := by
 obtain ⟨_,_,hc,d1,d2⟩ := h
 have t := vP (a := s.Dial.Weekday) (n := s.Dial.Week) (by omega) (by omega)
 unfold dR xR aAj
 rw [fZ (by omega),aU (by omega) (by omega)]
theorem zU {s : dO} {n : Int} (h : zX s.Dial) (h1 : 1 ≤ n) (h2 : s.Dial.Day + n ≤ s.Dial.Teeth + 1) : dZ s n = some (xR s (qC s.Dial n)) := by
 obtain ⟨ha,⟨b1,b2,b3⟩,hw⟩ := h
 unfold dZ qC
 rw [aU (x := s.Dial.Day + n) (by omega) (by omega),aU (x := s.Dial.Day + n - s.Dial.Teeth) (by omega) (by omega)]
 split
 ·rw [yC (by exact ha)]; rfl
 ·rfl
theorem aGn {s : dO} (h : zX s.Dial) : dQ s = some (xR s (qJ s.Dial)) := by
 have hs := zG h
 unfold dQ
 rw [sO h,Option.bind_some,zU h hs.1 hs.2,Option.bind_some,vC (by exact aD6 h hs.1 hs.2)]; rfl
theorem aG2 {s : dO} (h : zX s.Dial) : eY s = some (xR s (qJ s.Dial)) := by
 have hs := zG h
 obtain ⟨ha,⟨b1,b2,b3⟩,hw⟩ := id h
 have e : iU s (jE s.Dial) = some (xR s (qC s.Dial (jE s.Dial))) := by
  unfold iU qC xR
  rw [aU (x := s.Dial.Day + jE s.Dial) (by omega) (by omega),aU (x := s.Dial.Day + jE s.Dial - s.Dial.Teeth) (by omega) (by omega),fZ (by omega),aU (x := s.Dial.At + 1) (by omega) (by omega)]
  split <;> rfl
 unfold eY
 have hI := aD6 h hs.1 hs.2
 obtain ⟨_,_,hc,d1,d2⟩ := id hI
 have t := vP (a := (qC s.Dial (jE s.Dial)).Weekday) (n := (qC s.Dial (jE s.Dial)).Week) (by omega) (by omega)
 rw [aFx h,Option.bind_some,e,Option.bind_some]
 unfold qJ aAj xR
 dsimp only
 rw [fZ (by omega),aU (by omega) (by omega)]
theorem aGg {p : aC} (h : aEb p = true) (hl : p.Cam.length ≤ 1048576) : pM p = some (qC p 1,0) := by
 have hI := wS h
 obtain ⟨ha,⟨b1,b2,b3⟩,hw⟩ := id hI
 unfold pM jW iF qC
 rw [xJ (by omega),h,zI hl]
 simp only [Bool.not_true,Bool.false_eq_true,if_false,Option.bind_some]
 rw [aU (x := p.Day + 1) (by omega) (by omega),aU (x := p.Day + 1 - p.Teeth) (by omega) (by omega),fZ (by omega),aU (x := p.At + 1) (by omega) (by omega)]
 split <;> rfl
theorem aEx {p : aC} (h : aEb p = true) (hl : p.Cam.length ≤ 1048576) : mY p = some (aA8 p,0) := by
 have hI := wS h
 obtain ⟨ha,⟨b1,b2,b3⟩,hw⟩ := id hI
 unfold mY jW aA8
 rw [xJ (by omega),h,zI hl]
 simp only [Bool.not_true,Bool.false_eq_true,if_false,Option.bind_some]
 rw [fZ (by omega),aU (x := p.At + 1) (by omega) (by omega)]
theorem aB4 {p : aC} (h : aEb p = true) (hl : p.Cam.length ≤ 1048576) : kL p = some (aAj p,0) := by
 have hI := wS h
 obtain ⟨ha,hb,hc,d1,d2⟩ := id hI
 have t := vP (a := p.Weekday) (n := p.Week) (by omega) (by omega)
 unfold kL jW aAj
 rw [xJ (by omega),h,zI hl]
 simp only [Bool.not_true,Bool.false_eq_true,if_false,Option.bind_some]
 rw [fZ (by omega),aU (by omega) (by omega)]
theorem aJo {w : bJ} (h : aCe w) : tE w = some w := by
 unfold tE
 have hl := h.1.1
 have hm := h.2.1
 rw [fZ (by simp; omega),aJa (xs := w.Arbors) (f := fun a => [a]) (c := 1) (fun v _ => by simp) (fun i hi ys hy => ?_) (fun ys => by simp) (by omega)]
 ·simp
 ·have hi' : (i : Int) < w.Arbors.length := by omega
  have hw := (h.1.2 _ (List.getElem_mem hi)).2.1
  simp only [if_pos hi',eD hi,Option.bind_some,aU (x := (i : Int) + 1) (by omega) (by omega)]
  rw [zI hw,Option.bind_some,fZ (by simp at hy ⊢; omega)]
theorem aD0 {m : aX} (h : iJ m) : qQ m = some m := by
 obtain ⟨c1,c2,c3⟩ := smC h
 unfold qQ oG
 rw [aJo h.2.1,Option.bind_some,fZ (by simp; omega),fZ (by simp; omega),Option.bind_some,zI c3,Option.bind_some]
 simp
theorem aDm {s : dO} (h : qI s) : oF s = some s := by
 have hd := h.2.2.2.2.1.1
 unfold oF jW
 rw [aD0 h.1,Option.bind_some,zI hd]; rfl
theorem wP {s : dO} (h : qI s) : kU s = some s := by
 have hd := h.2.2.2.2.1.1
 unfold kU nI
 rw [tB h.1,Option.bind_some,aG4 hd]; rfl
def aPv (s : dO) (k : Int) : dO × Int :=
 if aAg s = true then (if k = 1 then (xR s (qC s.Dial 1),0) else if k = 2 then (xR s (aA8 s.Dial),0) else if k = 3 then (xR s (aAj s.Dial),0) else (aDq,2)) else (aDq,1)
theorem uJ {s : dO} (h : aAg s = true) : aEb s.Dial = true := (uV h).2.2.2.2
theorem aH2 {s : dO} (h : qI s) (k : Int) : yL s k = some (aPv s k) := by
 unfold yL aPv
 rw [qM h,Option.bind_some]
 cases hv : aAg s
 ·rfl
 ·have hp := wS (uJ hv)
  have hb := hp.2.1
  rw [wP h]
  simp only [Bool.not_true,Bool.false_eq_true,if_false,if_true,Option.bind_some]
  by_cases h1 : k = 1
  ·rw [if_pos h1,if_pos h1,zU hp (by omega) (by omega)]; rfl
  ·rw [if_neg h1,if_neg h1]
   by_cases h2 : k = 2
   ·rw [if_pos h2,if_pos h2,yC hp.1]; rfl
   ·rw [if_neg h2,if_neg h2]
    by_cases h3 : k = 3
    ·rw [if_pos h3,if_pos h3,vC hp]; rfl
    ·rw [if_neg h3,if_neg h3]; rfl
theorem aH8 {s : dO} (h : qI s) (k : Int) : mC s k = some (aPv s k) := by
 have hd := h.2.2.2.2.1.1
 unfold mC aPv
 rw [aAq h,Option.bind_some]
 cases hv : aAg s
 ·rfl
 ·have hp := uJ hv
  rw [aDm h]
  simp only [Bool.not_true,Bool.false_eq_true,if_false,if_true,Option.bind_some]
  by_cases h1 : k = 1
  ·rw [if_pos h1,if_pos h1,aGg hp hd]; rfl
  ·rw [if_neg h1,if_neg h1]
   by_cases h2 : k = 2
   ·rw [if_pos h2,if_pos h2,aEx hp hd]; rfl
   ·rw [if_neg h2,if_neg h2]
    by_cases h3 : k = 3
    ·rw [if_pos h3,if_pos h3,aB4 hp hd]; rfl
    ·rw [if_neg h3,if_neg h3]; rfl
def aTc (s : dO) (r : Option bQ) : dO × Int :=
 if aAg s = true then (match r with | some d => (xR s (aBp s.Movement.Calendar s.Movement.Cam d (wdR s)).1,0) | none => (aDq,2)) else (aDq,1)
theorem aTr {s : dO} (h : aAg s = true) : 1 ≤ wdR s ∧ wdR s ≤ s.Movement.Calendar.Week := by
 obtain ⟨hc,hd,hf,hw,hk,_⟩ := zC h
 have hq := tD (a := s.Clock) (g := 86400) hk.1 (by omega)
 have e : w64 (w64 (s.First - 1) + s.Clock / 86400) = s.First - 1 + s.Clock / 86400 := by
  rw [aU (x := s.First - 1) (by omega) (by omega),aU (by omega) (by omega)]
 have t := vP (a := s.First - 1 + s.Clock / 86400) (n := s.Movement.Calendar.Week) (by omega) (by omega)
 unfold wdR
 rw [e,aU (x := _ + 1) (by omega) (by omega)]
 omega
theorem aQm {s : dO} (h : aAg s = true) {d : bQ} (hd : aRi s (some d)) : (aBp s.Movement.Calendar s.Movement.Cam d (wdR s)).2 = 0 := by
 have hw := aTr h
 have ha := (aPn (uV h).2.2.1).1
 rcases hd with ⟨_,e,h1,h2,_⟩ | ⟨_,h1⟩
 ·injection h1 with h1
  subst h1
  unfold aBp
  rw [if_pos ha,h2,show btw (wdR s) 1 s.Movement.Calendar.Week = true from decide_eq_true hw]; rfl
 ·cases h1
def aJb (s : dO) : dO := xR s (qJ s.Dial)
def aM8 : Nat → dO → dO
 | 0,s => s
 | n + 1,s => aM8 n (aJb s)
abbrev aFo : Type := ByteArray × Int × Int × Int × Int × Int × ByteArray × Int × Int × bQ × Int × Int × Int × Int × Int × Int × Int × Int × List cQ × List cH × List bP × List bA × List Int × List Int
def aAi (s : dO) : aFo :=
 (s.Movement.Name,s.Movement.Minute,s.Movement.Hour,s.Movement.Escape,s.Movement.Teeth,s.Movement.Beats,s.Movement.Calendar.Name,s.Movement.Calendar.Week,s.Movement.Strike,s.Start,s.First,s.Clock,s.Dial.Months,s.Dial.Teeth,s.Dial.At,s.Dial.Day,s.Dial.Week,s.Dial.Weekday,s.Movement.Works.Arbors,s.Movement.Works.Meshes,s.Movement.Calendar.Months,s.Movement.Calendar.Rules,s.Movement.Cam,s.Dial.Cam)
def unS (x : aFo) : dO := ⟨⟨x.1,⟨x.2.2.2.2.2.2.2.2.2.2.2.2.2.2.2.2.2.2.1,x.2.2.2.2.2.2.2.2.2.2.2.2.2.2.2.2.2.2.2.1⟩,x.2.1,x.2.2.1,x.2.2.2.1,x.2.2.2.2.1,x.2.2.2.2.2.1,⟨x.2.2.2.2.2.2.1,x.2.2.2.2.2.2.2.2.2.2.2.2.2.2.2.2.2.2.2.2.1,x.2.2.2.2.2.2.2.2.2.2.2.2.2.2.2.2.2.2.2.2.2.1,x.2.2.2.2.2.2.2.1⟩,x.2.2.2.2.2.2.2.2.2.2.2.2.2.2.2.2.2.2.2.2.2.2.1,x.2.2.2.2.2.2.2.2.1⟩,x.2.2.2.2.2.2.2.2.2.1,x.2.2.2.2.2.2.2.2.2.2.1,x.2.2.2.2.2.2.2.2.2.2.2.1,⟨x.2.2.2.2.2.2.2.2.2.2.2.2.2.2.2.2.2.2.2.2.2.2.2,x.2.2.2.2.2.2.2.2.2.2.2.2.1,x.2.2.2.2.2.2.2.2.2.2.2.2.2.1,x.2.2.2.2.2.2.2.2.2.2.2.2.2.2.1,x.2.2.2.2.2.2.2.2.2.2.2.2.2.2.2.1,x.2.2.2.2.2.2.2.2.2.2.2.2.2.2.2.2.1,x.2.2.2.2.2.2.2.2.2.2.2.2.2.2.2.2.2.1⟩⟩
theorem aFp {X : Type} {f : dO → X} {C : Int} {c : Nat → Int} {step : Int × X → Option ((Int × X) ⊕ X)} (N : Nat) (hN : N < 1180591620717411303424) (hS : ∀ (j : Nat) s,j < N → zX s.Dial → s.Clock = C → step (c (j + 1),f s) = some (.inl (c j,f (aJb s)))) (hE : ∀ s,s.Clock = C → step (c 0,f s) = some (.inr (f s))) {s : dO} (hp : zX s.Dial) (hC : s.Clock = C) : cM step (c N,f s) = some (f (aM8 N s)) := by
 have key : ∀ (n m : Nat) (s : dO),n < m → n ≤ N → zX s.Dial → s.Clock = C → tL step m (c n,f s) = some (f (aM8 n s)) := by
  intro n
  induction n with
  | zero =>
   intro m s hm _ _ hC
   cases m with
   | zero => omega
   | succ m => simp only [tL,hE s hC]; rfl
  | succ n ih =>
   intro m s hm hn hp hC
   cases m with
   | zero => omega
   | succ m =>
    simp only [tL,hS n s (by omega) hp hC]
    exact ih m (aJb s) (by omega) (by omega) (aB8 hp) hC
 exact key N aCg s hN (Nat.le_refl _) hp hC
def wO (s : dO) (k : Int) : dO := ⟨s.Movement,s.Start,s.First,k,s.Dial⟩
def fT (s : dO) (k : Int) : Nat := ((s.Clock + k) / 86400 - s.Clock / 86400).toNat
def aTi (st : Int × aFo) : Option ((Int × aFo) ⊕ aFo) := if 0 < st.1 then (dQ (unS st.2)).bind fun v => some (.inl (w64 (st.1 - 1),aAi v)) else some (.inr st.2)
def aT7 (st : Int × aFo) : Option ((Int × aFo) ⊕ aFo) := if st.1 < w64 ((unS st.2).Clock.tdiv 86400) then (eY (unS st.2)).bind fun v => some (.inl (w64 (st.1 + 1),aAi v)) else some (.inr st.2)
theorem aKr (s : dO) (k : Int) : qS s k = (gM s).bind fun v1 => if (!v1) = true then some (aDq,0,1) else ((cK k 0 3000000).bind fun v2 => if (!v2) = true then some true else some (decide (1000000000 < w64 (s.Clock + k)))).bind fun v3 => if v3 = true then some (aDq,0,2) else
  (kU s).bind fun v4 => (cM aTi (w64 (w64 ((w64 (v4.Clock + k)).tdiv 86400) - w64 (s.Clock.tdiv 86400)),aAi (wO v4 (w64 (v4.Clock + k))))).bind fun v11 => (jO (unS v11).Movement.Strike s.Clock (unS v11).Clock).bind fun v12 => some (unS v11,v12.1,0) := rfl
theorem aJp (s : dO) (k : Int) : qP s k = (pB s).bind fun v1 => if (!v1) = true then some (aDq,0,1) else ((cN k 0 3000000).bind fun v2 => if (!v2) = true then some true else some (decide (1000000000 < w64 (s.Clock + k)))).bind fun v3 => if v3 = true then some (aDq,0,2) else
  (oF s).bind fun v4 => (cM aT7 (w64 (s.Clock.tdiv 86400),aAi (wO v4 (w64 (v4.Clock + k))))).bind fun v12 => (gZ s.Movement.Strike s.Clock (unS v12).Clock).bind fun v13 => some (unS v12,v13.1,0) := rfl
theorem aHo : ∀ (n : Nat) (s : dO),(aM8 n s).Clock = s.Clock ∧ (aM8 n s).Movement = s.Movement
 | 0,_ => ⟨rfl,rfl⟩
 | n + 1,s => aHo n (aJb s)
end Go.Proofs.YtgcdbbidmfdonaaGreat
namespace Go.Proofs.YtgcdbbidmfdonaaGreat
set_option linter.unusedVariables false
theorem aG9 {p : aC} : aEb p = true ↔ aEa p.Cam = true ∧ 1 ≤ p.Months ∧ (p.Cam.length : Int) % p.Months = 0 ∧ p.Teeth ≤ 60 ∧ (∀ v ∈ p.Cam,v ≤ p.Teeth) ∧ (0 ≤ p.At ∧ p.At < p.Cam.length) ∧ (1 ≤ p.Day ∧ p.Day ≤ p.Teeth) ∧ (1 ≤ p.Week ∧ p.Week ≤ 12) ∧ (1 ≤ p.Weekday ∧ p.Weekday ≤ p.Week) := by
 unfold aEb btw
 simp only [Bool.and_eq_true,decide_eq_true_eq,List.all_eq_true]
def zK (p q : aC) : Prop := q.Cam = p.Cam ∧ q.Months = p.Months ∧ q.Teeth = p.Teeth ∧ q.Week = p.Week
theorem zK.refl (p : aC) : zK p p := ⟨rfl,rfl,rfl,rfl⟩
theorem zK.trans {p q r : aC} (h : zK p q) (k : zK q r) : zK p r := ⟨k.1.trans h.1,k.2.1.trans h.2.1,k.2.2.1.trans h.2.2.1,k.2.2.2.trans h.2.2.2⟩
theorem aNp {p q : aC} (h : aEb p = true) (k : zK p q) (i : zX q) : aEb q = true := by
 obtain ⟨h1,h2,h3,h4,h5,_,_,h8,_⟩ := aG9.1 h
 obtain ⟨k1,k2,k3,k4⟩ := k
 obtain ⟨⟨a1,a2,_⟩,⟨b1,b2,_⟩,_,d1,d2⟩ := i
 refine aG9.2 ⟨?_,?_,?_,?_,?_,⟨a1,a2⟩,⟨b1,b2⟩,?_,d1,d2⟩
 ·rw [k1]; exact h1
 ·rw [k2]; exact h2
 ·rw [k1,k2]; exact h3
 ·rw [k3]; exact h4
 ·rw [k1,k3]; exact h5
 ·rw [k4]; exact h8
theorem aIx (p : aC) (n : Int) : zK p (qC p n) := by unfold qC; split <;> exact ⟨rfl,rfl,rfl,rfl⟩
theorem aL6 (p : aC) : zK p (aA8 p) := ⟨rfl,rfl,rfl,rfl⟩
theorem aIu (p : aC) : zK p (aAj p) := ⟨rfl,rfl,rfl,rfl⟩
theorem aFi (p : aC) : zK p (qJ p) := (aIx p _).trans (aIu _)
def kG : Nat → aC → aC
 | 0,p => p
 | n + 1,p => kG n (qJ p)
theorem aGj : ∀ (n : Nat) {p : aC},zX p → zX (kG n p)
 | 0,_,h => h
 | n + 1,_,h => aGj n (aB8 h)
theorem uC : ∀ (n : Nat) (p : aC),zK p (kG n p)
 | 0,p => .refl p
 | n + 1,p => (aFi p).trans (uC n _)
theorem aAp : ∀ (m n : Nat) (p : aC),kG (m + n) p = kG n (kG m p)
 | 0,n,p => by rw [Nat.zero_add]; rfl
 | m + 1,n,p => by rw [show m + 1 + n = (m + n) + 1 by omega]; exact aAp m n (qJ p)
theorem uS (n : Nat) (p : aC) : kG (n + 1) p = qJ (kG n p) := aAp n 1 p
theorem aHe : ∀ (n : Nat) (s : dO),aM8 n s = xR s (kG n s.Dial)
 | 0,s => rfl
 | n + 1,s => aHe n (aJb s)
def atS (s : dO) (c : Int) (p : aC) : dO := ⟨s.Movement,s.Start,s.First,c,p⟩
theorem aNc {s : dO} (h : aAg s = true) {c : Int} {p : aC} (h0 : 0 ≤ c) (h1 : c ≤ 1000000000) (k : zK s.Dial p) (i : zX p) : aAg (atS s c p) = true := by
 have hp := aNp (uJ h) k i
 obtain ⟨k1,k2,k3,k4⟩ := k
 unfold aAg at h ⊢
 simp only [Bool.and_eq_true,decide_eq_true_eq] at h ⊢
 obtain ⟨g1,g2,g3,g4,g5,g6,g7,g8,g9⟩ := h
 exact ⟨g1,g2,g3,decide_eq_true ⟨h0,h1⟩,hp,k1.trans g6,k2.trans g7,k3.trans g8,k4.trans g9⟩
theorem aRv {s : dO} (h : qI s) {c : Int} {p : aC} (hp : p.Cam.length ≤ 1048576) : qI (atS s c p) := by
 obtain ⟨h1,h2,h3,h4,h5⟩ := h
 exact ⟨h1,h2,h3,h4,⟨hp,fun _ _ => trivial⟩,trivial,trivial,trivial,trivial,trivial,trivial⟩
def vM (s : dO) (k : Int) : dO := atS s (s.Clock + k) (kG (fT s k) s.Dial)
theorem aSy (s : dO) (k : Int) : aM8 (fT s k) (wO s (s.Clock + k)) = vM s k := aHe _ _
theorem aA2 {s : dO} (h : qI s) (k : Int) : qI (vM s k) := aRv h (by rw [(uC _ _).1]; exact h.2.2.2.2.1.1)
theorem aFm {s : dO} (h : aAg s = true) {k : Int} (h0 : 0 ≤ k) (h1 : s.Clock + k ≤ 1000000000) : aAg (vM s k) = true := by
 have hc := (uV h).2.2.2.1
 exact aNc h (by omega) h1 (uC _ _) (aGj _ (wS (uJ h)))
theorem aLr {s : dO} (hc : 0 ≤ s.Clock) {a b : Int} (ha : 0 ≤ a) (hb : 0 ≤ b) : vM (vM s a) b = vM s (a + b) := by
 have q1 : s.Clock / 86400 ≤ (s.Clock + a) / 86400 := Int.ediv_le_ediv (by omega) (by omega)
 have q2 : (s.Clock + a) / 86400 ≤ (s.Clock + a + b) / 86400 := Int.ediv_le_ediv (by omega) (by omega)
 have e : fT s (a + b) = fT s a + fT (vM s a) b := by
  have e1 : (vM s a).Clock = s.Clock + a := rfl
  unfold fT
  rw [e1,← Int.add_assoc]
  omega
 have e2 : (vM s a).Clock + b = s.Clock + (a + b) := by show s.Clock + a + b = _; omega
 have e3 : kG (fT (vM s a) b) (vM s a).Dial = kG (fT s (a + b)) s.Dial := by rw [e,aAp]; rfl
 show atS (vM s a) ((vM s a).Clock + b) (kG (fT (vM s a) b) (vM s a).Dial) = _
 rw [e2,e3]; rfl
def aDp (h : Int) : Int := h / 12 * 78 + h % 12 * (h % 12 + 1) / 2
def aNj (st a b : Int) : Int := if st = 0 then 0 else aDp (b / 3600) - aDp (a / 3600)
theorem aCs {h : Int} (h0 : 0 ≤ h) (h1 : h ≤ 300000) : 0 ≤ aDp h ∧ aDp h ≤ 78 * 25000 + 66 := by
 unfold aDp
 have hr := Int.emod_nonneg h (show (12 : Int) ≠ 0 by omega)
 have hl := Int.emod_lt_of_pos h (show (0 : Int) < 12 by omega)
 have hp : 0 ≤ h % 12 * (h % 12 + 1) ∧ h % 12 * (h % 12 + 1) ≤ 11 * 12 := ⟨Int.mul_nonneg hr (by omega),Int.mul_le_mul (by omega) (by omega) (by omega) (by omega)⟩
 omega
theorem zP {h : Int} (h0 : 0 ≤ h) (h1 : h ≤ 300000) : mJ h = some (aDp h) := by
 have hr := Int.emod_nonneg h (show (12 : Int) ≠ 0 by omega)
 have hl := Int.emod_lt_of_pos h (show (0 : Int) < 12 by omega)
 have hp : 0 ≤ h % 12 * (h % 12 + 1) ∧ h % 12 * (h % 12 + 1) ≤ 11 * 12 := ⟨Int.mul_nonneg hr (by omega),Int.mul_le_mul (by omega) (by omega) (by omega) (by omega)⟩
 have hq := aCs h0 h1
 unfold mJ
 rw [Int.tdiv_eq_ediv_of_nonneg h0,Int.tmod_eq_emod_of_nonneg h0,aU (x := h / 12) (by omega) (by omega),aU (x := h / 12 * 78) (by omega) (by omega),aU (x := h % 12 + 1) (by omega) (by omega),aU (x := h % 12 * (h % 12 + 1)) (by omega) (by omega),Int.tdiv_eq_ediv_of_nonneg hp.1,aU (x := h % 12 * (h % 12 + 1) / 2) (by omega) (by omega)]
 unfold aDp at hq ⊢
 rw [aU (by omega) (by omega)]
theorem aMq {st a b : Int} (hs : 0 ≤ st ∧ st ≤ 2) (h0 : 0 ≤ a) (h1 : a ≤ b) (h2 : b ≤ 1000000000) : gZ st a b = some (aNj st a b,0) := by
 have e1 : btw st 0 2 = true := decide_eq_true hs
 have e2 : btw a 0 b = true := decide_eq_true ⟨h0,h1⟩
 have ha := aCs (h := a / 3600) (by omega) (by omega)
 have hb := aCs (h := b / 3600) (by omega) (by omega)
 unfold gZ aNj
 simp only [eA,Option.bind_some,e1,e2,Bool.not_true,Bool.false_eq_true,if_false]
 rw [Int.tdiv_eq_ediv_of_nonneg (show 0 ≤ b by omega),Int.tdiv_eq_ediv_of_nonneg h0,aU (x := b / 3600) (by omega) (by omega),aU (x := a / 3600) (by omega) (by omega),zP (by omega) (by omega),zP (by omega) (by omega)]
 have h3 : decide (1000000000 < b) = false := decide_eq_false (by omega)
 simp only [h3,Bool.false_eq_true,if_false,Option.bind_some]
 by_cases h : st = 0
 ·rw [if_pos h,if_pos h]
 ·rw [if_neg h,if_neg h,aU (by omega) (by omega)]
theorem aCx {m : aX} (h : vL m = true) : 0 ≤ m.Strike ∧ m.Strike ≤ 2 := by
 unfold vL at h
 simp only [Bool.and_eq_true] at h
 exact of_decide_eq_true h.2.2.2.2.2.2.2.2.2
theorem aPa {s : dO} (h : qI s) (hb : aAg s = true) {k : Int} (k0 : 0 ≤ k) (k1 : k ≤ 3000000) (k2 : s.Clock + k ≤ 1000000000) : qP s k = some (vM s k,aNj s.Movement.Strike s.Clock (s.Clock + k),0) ∧ qS s k = some (vM s k,aNj s.Movement.Strike s.Clock (s.Clock + k),0) := by
 rw [aJp,aKr,aAq h,qM h,Option.bind_some,Option.bind_some]
 rw [hb]
 simp only [eA,eF,Option.bind_some,Bool.not_true,Bool.false_eq_true,if_false,aDm h,wP h]
 have h1 : btw k 0 3000000 = true := decide_eq_true ⟨k0,k1⟩
 obtain ⟨hc,hd,hf,hw,hk,hpb⟩ := zC hb
 have hp := wS hpb
 rw [h1,aU (x := s.Clock + k) (by omega) (by omega)]
 simp only [Bool.not_true,Bool.false_eq_true,if_false,Option.bind_some]
 have h2 : ¬ 1000000000 < s.Clock + k := by omega
 have q1 := tD (a := s.Clock) (g := 86400) hk.1 (by omega)
 have q2 := tD (a := s.Clock + k) (g := 86400) (by omega) (by omega)
 have q3 : s.Clock / 86400 ≤ (s.Clock + k) / 86400 := Int.ediv_le_ediv (by omega) (by omega)
 have e1 : s.Clock.tdiv 86400 = s.Clock / 86400 := Int.tdiv_eq_ediv_of_nonneg hk.1
 have e2 : (s.Clock + k).tdiv 86400 = (s.Clock + k) / 86400 := Int.tdiv_eq_ediv_of_nonneg (by omega)
 have w1 : w64 (s.Clock / 86400) = s.Clock / 86400 := aU (by omega) (by omega)
 have w2 : w64 ((s.Clock + k) / 86400) = (s.Clock + k) / 86400 := aU (by omega) (by omega)
 have hN : ((fT s k : Nat) : Int) = (s.Clock + k) / 86400 - s.Clock / 86400 := by unfold fT; omega
 have L1 : cM aTi ((fT s k : Nat),aAi (wO s (s.Clock + k))) = some (aAi (aM8 (fT s k) (wO s (s.Clock + k)))) := by
  refine aFp (f := aAi) (C := s.Clock + k) (c := fun j => (j : Int)) (fT s k) (by omega) (fun j u hj hu hc => ?_) (fun u hc => ?_) hp rfl
  ·show (if 0 < ((j + 1 : Nat) : Int) then (dQ u).bind fun v => some (.inl (w64 (((j + 1 : Nat) : Int) - 1),aAi v)) else some (.inr (aAi u)) : Option ((Int × aFo) ⊕ aFo)) = _
   rw [if_pos (by omega),aGn hu,Option.bind_some,aU (by omega) (by omega),show ((j + 1 : Nat) : Int) - 1 = (j : Int) by omega]; rfl
  ·rfl
 have L2 : cM aT7 (s.Clock / 86400,aAi (wO s (s.Clock + k))) = some (aAi (aM8 (fT s k) (wO s (s.Clock + k)))) := by
  have e0 : s.Clock / 86400 = (s.Clock + k) / 86400 - ((fT s k : Nat) : Int) := by omega
  rw [e0]
  refine aFp (f := aAi) (C := s.Clock + k) (c := fun j => (s.Clock + k) / 86400 - (j : Int)) (fT s k) (by omega) (fun j u hj hu hc => ?_) (fun u hc => ?_) hp rfl
  ·show (if (s.Clock + k) / 86400 - ((j + 1 : Nat) : Int) < w64 (u.Clock.tdiv 86400) then (eY u).bind fun v => some (.inl (w64 ((s.Clock + k) / 86400 - ((j + 1 : Nat) : Int) + 1),aAi v)) else some (.inr (aAi u)) : Option ((Int × aFo) ⊕ aFo)) = _
   rw [hc,e2,w2,if_pos (by omega),aG2 hu,Option.bind_some,aU (by omega) (by omega),show (s.Clock + k) / 86400 - ((j + 1 : Nat) : Int) + 1 = (s.Clock + k) / 86400 - (j : Int) by omega]; rfl
  ·show (if (s.Clock + k) / 86400 - ((0 : Nat) : Int) < w64 (u.Clock.tdiv 86400) then (eY u).bind fun v => some (.inl (w64 ((s.Clock + k) / 86400 - ((0 : Nat) : Int) + 1),aAi v)) else some (.inr (aAi u)) : Option ((Int × aFo) ⊕ aFo)) = _
   rw [hc,e2,w2,if_neg (by omega)]
 have hv := aMq (aCx (uV hb).1) hk.1 (b := s.Clock + k) (by omega) k2
 have hiv : jO s.Movement.Strike s.Clock (s.Clock + k) = some (aNj s.Movement.Strike s.Clock (s.Clock + k),0) := hv
 have kp := aHo (fT s k) (wO s (s.Clock + k))
 have u1 : (unS (aAi (aM8 (fT s k) (wO s (s.Clock + k))))).Clock = s.Clock + k := kp.1
 have u2 : (unS (aAi (aM8 (fT s k) (wO s (s.Clock + k))))).Movement.Strike = s.Movement.Strike := by
  show (aM8 (fT s k) (wO s (s.Clock + k))).Movement.Strike = _
  rw [kp.2]; rfl
 simp only [decide_eq_false h2,Bool.false_eq_true,if_false,e1,e2,w1,w2]
 rw [aU (x := _ - _) (by omega) (by omega),← hN,L1,L2,Option.bind_some,Option.bind_some,u1,u2,hv,hiv,← aSy]
 exact ⟨rfl,rfl⟩
theorem aKk {ms : List bP} : ∀ {t : Int},t ≤ ms.foldl tR t ∧ (∀ m ∈ ms,m.Days ≤ ms.foldl tR t ∧ m.Leap ≤ ms.foldl tR t) ∧ (t ≤ 60 → (∀ m ∈ ms,m.Days ≤ 60 ∧ m.Leap ≤ 60) → ms.foldl tR t ≤ 60) := by
 induction ms with
 | nil => intro t; exact ⟨by simp,fun m hm => by simp at hm,fun h _ => h⟩
 | cons m ms ih =>
  intro t
  rw [List.foldl_cons]
  obtain ⟨h1,h2,h3⟩ := ih (t := tR t m)
  have e : tR t m = max (max t m.Days) m.Leap := rfl
  refine ⟨by omega,fun n hn => ?_,fun h0 hm => ?_⟩
  ·rcases List.mem_cons.1 hn with rfl | hn
   ·omega
   ·exact h2 n hn
  ·have := hm m (List.mem_cons_self ..)
   exact h3 (by omega) fun n hn => hm n (List.mem_cons_of_mem _ hn)
theorem aIk {c : aA} {cam : List Int} (hc : mV c = true) (hm : aEa cam = true) : (∀ v ∈ cam,v ≤ vY c cam) ∧ (∀ m ∈ c.Months,m.Days ≤ vY c cam ∧ m.Leap ≤ vY c cam) ∧ vY c cam ≤ 60 := by
 obtain ⟨h1,h2,h3⟩ := lE hm
 have g := wB (xs := cam) (a := 0)
 have hx : aMm cam ≤ 60 := by
  rcases g.2.2 with e | e
  ·show cam.foldl max 0 ≤ 60; rw [e]; decide
  ·exact (h1 _ e).2
 obtain ⟨t1,t2,t3⟩ := aKk (ms := c.Months) (t := aMm cam)
 refine ⟨fun v hv => ?_,t2,t3 hx fun m hm => ?_⟩
 ·have : v ≤ aMm cam := g.2.1 v hv
  exact Int.le_trans this t1
 ·have := aIo hc hm; omega
def lL (c : aA) (cam : List Int) (y m : Int) : Int := y % ((cam.length : Int) / c.Months.length) * c.Months.length + m - 1
theorem aOf {c : aA} {cam : List Int} (ha : vK c cam = 0) : (cam.length : Int) / c.Months.length * c.Months.length = cam.length := by
 obtain ⟨_,_,h,_⟩ := kD ha
 exact Int.ediv_mul_cancel (Int.dvd_of_emod_eq_zero h)
theorem uR {c : aA} {cam : List Int} (ha : vK c cam = 0) {y m : Int} (h1 : 1 ≤ m) (h2 : m ≤ c.Months.length) : 0 ≤ lL c cam y m ∧ lL c cam y m < cam.length ∧ 0 ≤ y % ((cam.length : Int) / c.Months.length) * c.Months.length ∧ y % ((cam.length : Int) / c.Months.length) * c.Months.length ≤ cam.length - c.Months.length ∧ lL c cam y m % c.Months.length = m - 1 := by
 obtain ⟨_,_,h,k1,k2⟩ := kD ha
 have e := aOf ha
 unfold lL
 have a1 := Int.emod_nonneg y (show (cam.length : Int) / c.Months.length ≠ 0 by omega)
 have a2 := Int.emod_lt_of_pos y (show 0 < (cam.length : Int) / c.Months.length by omega)
 generalize y % ((cam.length : Int) / c.Months.length) = q at *
 generalize (cam.length : Int) / c.Months.length = k at *
 have b1 : 0 ≤ q * (c.Months.length : Int) := Int.mul_nonneg a1 (by omega)
 have b2 : q * (c.Months.length : Int) ≤ (k - 1) * c.Months.length := Int.mul_le_mul_of_nonneg_right (by omega) (by omega)
 rw [Int.sub_mul,e] at b2
 refine ⟨by omega,by omega,b1,by omega,?_⟩
 rw [show q * (c.Months.length : Int) + m - 1 = (m - 1) + q * (c.Months.length : Int) by omega,Int.add_mul_emod_self_right]
 exact Int.emod_eq_of_lt (by omega) (by omega)
def aFu (c : aA) (cam : List Int) (d : bQ) (wd : Int) : aC := ⟨cam,c.Months.length,vY c cam,lL c cam d.Year d.Month,d.Day,c.Week,wd⟩
theorem aPo {c : aA} {cam : List Int} {d : bQ} {wd : Int} (ha : vK c cam = 0) (hd : gK c d = true) (h1 : 1 ≤ wd) (h2 : wd ≤ c.Week) : aBp c cam d wd = (aFu c cam d wd,0) := by
 obtain ⟨hc,hm,_⟩ := kD ha
 obtain ⟨g1,g2,g3⟩ := eN.1 hd
 obtain ⟨n1,n2,n3,n4,_⟩ := uR ha (y := d.Year) g2.1 g2.2
 have hl := (lE hm).2.2
 have hw : btw wd 1 c.Week = true := decide_eq_true ⟨h1,h2⟩
 unfold aBp aFu lL
 rw [if_pos ha,hd,hw,Bool.and_self,if_pos rfl,Int.tmod_eq_emod_of_nonneg g1.1,aU (x := _ * _) (by omega) (by omega),aU (x := _ + _) (by omega) (by omega),aU (x := _ - _) (by omega) (by omega)]
theorem aNh {c : aA} {cam : List Int} {d : bQ} {wd : Int} (ha : vK c cam = 0) (hd : gK c d = true) (h1 : 1 ≤ wd) (h2 : wd ≤ c.Week) : zX (aFu c cam d wd) ∧ aEb (aFu c cam d wd) = true := by
 obtain ⟨hc,hm,hz,_⟩ := kD ha
 obtain ⟨g1,g2,g3⟩ := eN.1 hd
 obtain ⟨n1,n2,n3,n4,_⟩ := uR ha (y := d.Year) g2.1 g2.2
 have hl := (lE hm).2.2
 obtain ⟨t1,t2,t3⟩ := aIk hc hm
 obtain ⟨_,m1,_,m2,_⟩ := dT hc
 have hq : nY c (fR c d.Year) (d.Month - 1) ≤ vY c cam := by
  have := t2 _ (sF (c := c) (k := d.Month - 1) (by omega) (by omega)).2
  unfold nY
  split
  ·exact this.2
  ·exact this.1
 refine ⟨⟨⟨n1,n2,hl⟩,⟨g3.1,by show d.Day ≤ vY c cam; omega,t3⟩,m2,h1,h2⟩,aG9.2 ⟨hm,by show (1 : Int) ≤ c.Months.length; omega,hz,t3,t1,⟨n1,n2⟩,⟨g3.1,by show d.Day ≤ vY c cam; omega⟩,m2,h1,h2⟩⟩
theorem aSw {s : dO} (h : qI s) (hb : aAg s = true) {k : Int} (k0 : 1 ≤ k) (k1 : k ≤ 3) : ∃ p,yL s k = some (atS s s.Clock p,0) ∧ mC s k = some (atS s s.Clock p,0) ∧ zK s.Dial p ∧ zX p := by
 have hp := wS (uJ hb)
 rw [aH2 h,aH8 h]
 unfold aPv
 rw [if_pos hb]
 have hb := hp.2.1
 by_cases h1 : k = 1
 ·rw [if_pos h1]; exact ⟨qC s.Dial 1,rfl,rfl,aIx _ _,aD6 hp (by omega) (by omega)⟩
 ·rw [if_neg h1]
  by_cases h2 : k = 2
  ·rw [if_pos h2]; exact ⟨aA8 s.Dial,rfl,rfl,aL6 _,aQ6 hp⟩
  ·rw [if_neg h2,if_pos (by omega)]; exact ⟨aAj s.Dial,rfl,rfl,aIu _,aOg hp⟩
theorem aTs {s : dO} (h : qI s) (hb : aAg s = true) : ∃ r,aRi s r ∧ pE s = some (match r with
  | some d => (d,0)
  | none => (⟨0,0,0⟩,2)) ∧ xT s = some (aTc s r) := by
 obtain ⟨c1,c2,c3⟩ := smC h.1
 obtain ⟨a,a1,a2⟩ := zM h hb
 refine ⟨a,a1,?_⟩
 unfold pE xT aTc
 rw [qM h,Option.bind_some,hb,a2]
 cases a with
 | none => exact ⟨rfl,rfl⟩
 | some d =>
  have hz := aQm hb a1
  simp only [Bool.not_true,Bool.false_eq_true,if_false,Option.bind_some,if_true,wP h,tI (c := s.Movement.Calendar) (cam := s.Movement.Cam) (by omega) (by omega) c3,ne_eq,not_true_eq_false,hz]
  refine ⟨?_,?_⟩ <;> first | trivial | rfl
theorem aFl {s : dO} (h : qI s) (hb : aAg s = true) {d : bQ} (hd : aRi s (some d)) : iE s = some (decide (s.Dial.Day = d.Day ∧ s.Dial.At % s.Dial.Months + 1 = d.Month) && decide (s.Dial.Weekday = wdR s)) := by
 have hp := wS (uJ hb)
 have hm := aJv (uJ hb)
 obtain ⟨a,a1,a2⟩ := zM h hb
 have := aQo hb a1 hd
 subst this
 unfold iE
 rw [qM h,Option.bind_some,hb,a2]
 simp only [Bool.not_true,Bool.false_eq_true,if_false,Option.bind_some,if_true]
 unfold pX lQ
 rw [fZ (by omega),Int.tmod_eq_emod_of_nonneg hp.1.1]
 have hr := Int.emod_nonneg s.Dial.At (show s.Dial.Months ≠ 0 by omega)
 have hr2 : s.Dial.At % s.Dial.Months ≤ s.Dial.At := by
  by_cases q : s.Dial.At < s.Dial.Months
  ·rw [Int.emod_eq_of_lt hp.1.1 q]; omega
  ·have := Int.emod_lt_of_pos s.Dial.At (show 0 < s.Dial.Months by omega); omega
 have hl := hp.1
 rw [aU (by omega) (by omega)]
 by_cases e1 : s.Dial.Day = d.Day <;> by_cases e2 : s.Dial.At % s.Dial.Months + 1 = d.Month <;> simp [e1,e2]
end Go.Proofs.YtgcdbbidmfdonaaGreat
namespace Go.Proofs.YtgcdbbidmfdonaaGreat
set_option linter.unusedVariables false
def xQ (c : aA) (d : bQ) : bQ := if d.Day < nY c (fR c d.Year) (d.Month - 1) then ⟨d.Year,d.Month,d.Day + 1⟩ else if d.Month < c.Months.length then ⟨d.Year,d.Month + 1,1⟩ else ⟨d.Year + 1,1,1⟩
def aB7 (c : aA) : Nat → bQ → bQ
 | 0,d => d
 | n + 1,d => xQ c (aB7 c n d)
theorem aLq {c : aA} (hc : mV c = true) {d : bQ} (hd : gK c d = true) : (d.Year ≤ (xQ c d).Year ∧ (xQ c d).Year ≤ d.Year + 1) ∧ nU c (xQ c d) = nU c d + 1 ∧ ((xQ c d).Year ≤ 9999 → gK c (xQ c d) = true) := by
 obtain ⟨⟨y0,y1⟩,⟨m0,m1⟩,⟨d0,d1⟩⟩ := eN.1 hd
 have hm := (dT hc).2.1
 unfold xQ
 by_cases h1 : d.Day < nY c (fR c d.Year) (d.Month - 1)
 ·rw [if_pos h1]
  refine ⟨⟨Int.le_refl _,by dsimp only; omega⟩,?_,fun _ => eN.2 ⟨⟨y0,y1⟩,⟨m0,m1⟩,by dsimp only; omega⟩⟩
  unfold nU
  dsimp only
  omega
 ·rw [if_neg h1]
  have e : d.Day = nY c (fR c d.Year) (d.Month - 1) := by omega
  have es := tC c d.Year (d.Month - 1).toNat
  have en : (((d.Month - 1).toNat : Nat) : Int) = d.Month - 1 := by omega
  rw [en] at es
  by_cases h2 : d.Month < c.Months.length
  ·rw [if_pos h2]
   have hl := oC hc (fR c d.Year) (k := d.Month + 1 - 1) (by omega) (by omega)
   refine ⟨⟨Int.le_refl _,by dsimp only; omega⟩,?_,fun _ => eN.2 ⟨⟨y0,y1⟩,⟨by dsimp only; omega,by dsimp only; omega⟩,by dsimp only; omega⟩⟩
   unfold nU
   dsimp only
   rw [show (d.Month + 1 - 1).toNat = (d.Month - 1).toNat + 1 by omega,es]
   omega
  ·rw [if_neg h2]
   have hl := oC hc (fR c (d.Year + 1)) (k := 1 - 1) (by omega) (by omega)
   refine ⟨⟨by dsimp only; omega,Int.le_refl _⟩,?_,fun hy => eN.2 ⟨⟨by dsimp only; omega,hy⟩,⟨by dsimp only; omega,by dsimp only; omega⟩,by dsimp only; omega⟩⟩
   have ea := aCm (c := c) d.Year y0
   rw [show c.Months.length = (d.Month - 1).toNat + 1 by omega,es] at ea
   have eb := aCi c d.Year.toNat
   unfold nU
   dsimp only
   rw [show (d.Year + 1).toNat = d.Year.toNat + 1 by omega,eb]
   have e0 : aGy c (d.Year + 1) (1 - 1 : Int).toNat = 0 := rfl
   rw [e0]
   omega
theorem aI9 {c : aA} (hc : mV c = true) {a b : bQ} (ha : gK c a = true) (hb : gK c b = true) (h : nU c a ≤ nU c b) : a.Year ≤ b.Year := by
 refine Classical.byContradiction fun hn => ?_
 obtain ⟨⟨y0,y1⟩,⟨m0,m1⟩,⟨d0,d1⟩⟩ := eN.1 ha
 obtain ⟨⟨y2,y3⟩,⟨m2,m3⟩,⟨d2,d3⟩⟩ := eN.1 hb
 have hm := (dT hc).2.1
 have e1 := aCl hc (m := b.Year.toNat + 1) (n := a.Year.toNat) (by omega)
 rw [aCi] at e1
 have es := tC c b.Year (b.Month - 1).toNat
 have en : (((b.Month - 1).toNat : Nat) : Int) = b.Month - 1 := by omega
 rw [en] at es
 have e2 := rF hc b.Year (m := (b.Month - 1).toNat + 1) (n := c.Months.length) (by omega)
 rw [aCm b.Year y2,es] at e2
 have e3 : 0 ≤ aGy c a.Year (a.Month - 1).toNat := rF hc a.Year (m := 0) (n := (a.Month - 1).toNat) (by omega)
 unfold nU at h
 omega
theorem aF9 {c : aA} (hc : mV c = true) {d : bQ} (hd : gK c d = true) : ∀ n : Nat,nU c d + n < aG7 c → gK c (aB7 c n d) = true ∧ nU c (aB7 c n d) = nU c d + n
 | 0,_ => ⟨hd,by show nU c d = _; simp⟩
 | n + 1,h => by
  obtain ⟨h1,h2⟩ := aF9 hc hd n (by omega)
  obtain ⟨_,e,k⟩ := aLq hc h1
  have hy : (xQ c (aB7 c n d)).Year ≤ 9999 := by
   refine Classical.byContradiction fun hn => ?_
   obtain ⟨⟨y0,y1⟩,_⟩ := eN.1 h1
   have en : xQ c (aB7 c n d) = ⟨(aB7 c n d).Year + 1,1,1⟩ := by
    unfold xQ at hn ⊢
    split at hn
    ·dsimp only at hn; omega
    ·split at hn
     ·dsimp only at hn; omega
     ·rename_i a1 a2; rw [if_neg a1,if_neg a2]
   rw [en] at e hn
   dsimp only at hn
   have et : ((aB7 c n d).Year + 1).toNat = yrs c := by rw [aDc]; omega
   have e' : nU c ⟨(aB7 c n d).Year + 1,1,1⟩ = bef c (yrs c) := by
    unfold nU
    have e0 : aGy c ((aB7 c n d).Year + 1) (1 - 1 : Int).toNat = 0 := rfl
    dsimp only
    rw [e0,et]; omega
   rw [e'] at e
   unfold aG7 at h
   push_cast at h
   omega
  exact ⟨k hy,by show nU c (xQ c (aB7 c n d)) = _; rw [e,h2]; push_cast; omega⟩
def aE7 (c : aA) (cam : List Int) (p : aC) (d : bQ) : Prop := p.Cam = cam ∧ p.Months = c.Months.length ∧ p.At = lL c cam d.Year d.Month ∧ p.Day = d.Day ∧ p.Teeth = vY c cam
theorem aL5 {c : aA} {cam : List Int} (ha : vK c cam = 0) {y : Int} (hy : 0 ≤ y) : lL c cam (y + 1) 1 = (lL c cam y c.Months.length + 1) % cam.length := by
 obtain ⟨hc,hm,h,k1,k2⟩ := kD ha
 have e := aOf ha
 have hl := (lE hm).2.1
 have hq := (dT hc).2.1
 unfold lL
 have a1 := Int.emod_nonneg y (show (cam.length : Int) / c.Months.length ≠ 0 by omega)
 have a2 := Int.emod_lt_of_pos y (show 0 < (cam.length : Int) / c.Months.length by omega)
 have a3 : (y + 1) % ((cam.length : Int) / c.Months.length) = (y % ((cam.length : Int) / c.Months.length) + 1) % ((cam.length : Int) / c.Months.length) := (Int.emod_add_emod y _ 1).symm
 rw [a3]
 generalize y % ((cam.length : Int) / c.Months.length) = q at *
 generalize (cam.length : Int) / c.Months.length = k at *
 have e2 : q * (c.Months.length : Int) + c.Months.length = (q + 1) * c.Months.length := by rw [Int.add_mul]; omega
 by_cases hk : q + 1 = k
 ·rw [hk,Int.emod_self]
  rw [hk] at e2
  rw [show q * (c.Months.length : Int) + c.Months.length - 1 + 1 = cam.length by omega,Int.emod_self]
  omega
 ·have b2 : (q + 1) * (c.Months.length : Int) ≤ (k - 1) * c.Months.length := Int.mul_le_mul_of_nonneg_right (by omega) (by omega)
  have b1 : 0 ≤ (q + 1) * (c.Months.length : Int) := Int.mul_nonneg (by omega) (by omega)
  rw [Int.sub_mul,e] at b2
  rw [Int.emod_eq_of_lt (a := q + 1) (by omega) (by omega),Int.emod_eq_of_lt (b := (cam.length : Int)) (by omega) (by omega)]
  omega
theorem aMl {c : aA} {cam : List Int} (ha : vK c cam = 0) {d : bQ} (hd : gK c d = true) {p : aC} (hs : aE7 c cam p d) (hg : cam.getD (lL c cam d.Year d.Month).toNat 0 = nY c (fR c d.Year) (d.Month - 1)) : aE7 c cam (qJ p) (xQ c d) := by
 obtain ⟨hc,hm,h,k1,k2⟩ := kD ha
 obtain ⟨⟨y0,y1⟩,⟨m0,m1⟩,⟨d0,d1⟩⟩ := eN.1 hd
 obtain ⟨s1,s2,s3,s4,s5⟩ := hs
 obtain ⟨t1,t2,t3⟩ := aIk hc hm
 have hn := uR ha (y := d.Year) m0 m1
 have hq : nY c (fR c d.Year) (d.Month - 1) ≤ vY c cam := by
  have := t2 _ (sF (c := c) (k := d.Month - 1) (by omega) (by omega)).2
  unfold nY
  split
  ·exact this.2
  ·exact this.1
 have hst : jE p = if d.Day = nY c (fR c d.Year) (d.Month - 1) then p.Teeth + 1 - p.Day else 1 := by
  unfold jE
  rw [s1,s3,hg,s4]
 unfold qJ aAj qC xQ
 rw [hst]
 by_cases h1 : d.Day < nY c (fR c d.Year) (d.Month - 1)
 ·rw [if_neg (show ¬ d.Day = nY c (fR c d.Year) (d.Month - 1) by omega),if_pos h1,if_neg (by omega)]
  exact ⟨s1,s2,s3,by show p.Day + 1 = d.Day + 1; omega,s5⟩
 ·have e : d.Day = nY c (fR c d.Year) (d.Month - 1) := by omega
  rw [if_pos e,if_neg h1,if_pos (by omega)]
  have hmod : (p.At + 1).tmod p.Cam.length = (lL c cam d.Year d.Month + 1) % cam.length := by rw [s1,s3,Int.tmod_eq_emod_of_nonneg (by omega)]
  by_cases h2 : d.Month < c.Months.length
  ·rw [if_pos h2]
   refine ⟨s1,s2,?_,by dsimp only; omega,s5⟩
   show (p.At + 1).tmod p.Cam.length = lL c cam d.Year (d.Month + 1)
   have hn2 := uR ha (y := d.Year) (m := d.Month + 1) (by omega) (by omega)
   have en : lL c cam d.Year (d.Month + 1) = lL c cam d.Year d.Month + 1 := by unfold lL; omega
   rw [hmod,en,Int.emod_eq_of_lt (by omega) (by omega)]
  ·rw [if_neg h2]
   refine ⟨s1,s2,?_,by dsimp only; omega,s5⟩
   show (p.At + 1).tmod p.Cam.length = lL c cam (d.Year + 1) 1
   rw [hmod,aL5 ha y0,show d.Month = (c.Months.length : Int) by omega]
def aQj (c : aA) (cam : List Int) (a b : Int) : Prop := ∀ y m : Int,a ≤ y → y ≤ b → 1 ≤ m → m ≤ c.Months.length → cam.getD (lL c cam y m).toNat 0 = nY c (fR c y) (m - 1)
theorem yX {c : aA} {cam : List Int} (ha : vK c cam = 0) {d e : bQ} (hd : gK c d = true) (he : gK c e = true) {p : aC} (hs : aE7 c cam p d) (hg : aQj c cam d.Year e.Year) : ∀ n : Nat,nU c d + n ≤ nU c e → aE7 c cam (kG n p) (aB7 c n d)
 | 0,_ => hs
 | n + 1,h => by
  have hc := (kD ha).1
  have hb := aGt hc he
  obtain ⟨h1,h2⟩ := aF9 hc hd n (by omega)
  have ih := yX ha hd he hs hg n (by omega)
  rw [uS]
  have y1 := aI9 hc hd h1 (by omega)
  have y2 := aI9 hc h1 he (by omega)
  obtain ⟨_,⟨m0,m1⟩,_⟩ := eN.1 h1
  exact aMl ha h1 ih (hg _ _ y1 y2 m0 m1)
theorem aLy : ∀ (n : Nat) {p : aC},zX p → (kG n p).Weekday = (p.Weekday - 1 + n) % p.Week + 1
 | 0,p,h => by
  obtain ⟨_,_,hc,d1,d2⟩ := h
  show p.Weekday = _
  rw [Int.emod_eq_of_lt (by simp; omega) (by simp; omega)]; simp
 | n + 1,p,h => by
  obtain ⟨_,_,hc,d1,d2⟩ := id h
  have e := aLy n (aB8 h)
  have e1 : (qJ p).Week = p.Week := (aFi p).2.2.2
  have e2 : (qJ p).Weekday = p.Weekday % p.Week + 1 := by
   show (qC p (jE p)).Weekday.tmod (qC p (jE p)).Week + 1 = _
   have w1 : (qC p (jE p)).Weekday = p.Weekday := by unfold qC; split <;> rfl
   have w2 : (qC p (jE p)).Week = p.Week := by unfold qC; split <;> rfl
   rw [w1,w2,Int.tmod_eq_emod_of_nonneg (by omega)]
  show (kG n (qJ p)).Weekday = _
  rw [e,e1,e2,show p.Weekday % p.Week + 1 - 1 + (n : Int) = p.Weekday % p.Week + n by omega,Int.emod_add_emod]
  congr 2
  push_cast; omega
end Go.Proofs.YtgcdbbidmfdonaaGreat
namespace Go.Proofs.YtgcdbbidmfdonaaGreat
set_option linter.unusedVariables false
set_option maxRecDepth 100000
def aPz (n : Int) : ByteArray := ⟨(Lib.itoa n).toArray⟩
theorem aNk {n : Int} (h : osI n) : (aPz n).size ≤ 21 := by
 have := Lib.itoa_length_le n h.1 h.2
 simpa [aPz,ByteArray.size] using this
def dgs (u : Nat) : List Int := if h : u = 0 then [] else dgs (u / 10) ++ [48 + ((u % 10 : Nat) : Int)]
termination_by u
decreasing_by omega
theorem aAe : dgs 0 = [] := by rw [dgs,dif_pos rfl]
theorem aG1 {u : Nat} (h : u ≠ 0) : dgs u = dgs (u / 10) ++ [48 + ((u % 10 : Nat) : Int)] := by rw [dgs,dif_neg h]
theorem aRq (d : Nat) (h : d < 10) : UInt8.ofNat (48 + (d : Int)).toNat = 48 + UInt8.ofNat d := by
 rw [show (48 + (d : Int)).toNat = 48 + d by omega,UInt8.ofNat_add]
 rfl
theorem aSh : ∀ (u : Nat),u ≠ 0 → (strOfNums (dgs u)).data.toList = Lib.decDigits u := by
 intro u
 induction u using Nat.strongRecOn with
 | _ u ih =>
  intro h
  rw [aG1 h,Lib.decDigits]
  by_cases h1 : u < 10
  ·rw [dif_pos h1,show u / 10 = 0 by omega,aAe,show u % 10 = u by omega]
   simp [strOfNums]
   exact aRq u (by omega)
  ·rw [dif_neg h1,← ih (u / 10) (by omega) (by omega)]
   simp [strOfNums]
   exact aRq (u % 10) (by omega)
theorem aJf : ∀ (k u : Nat),u < 10 ^ k → (dgs u).length ≤ k
 | 0,u,h => by
  have : u = 0 := by simpa using h
  subst this
  rw [aAe]; exact Nat.le_refl _
 | k + 1,u,h => by
  by_cases h0 : u = 0
  ·subst h0; rw [aAe]; exact Nat.zero_le _
  ·rw [aG1 h0,List.length_append]
   have := aJf k (u / 10) (by rw [Nat.pow_succ] at h; omega)
   simp; omega
theorem aC5 {n : Int} (hn : osI n) : oJ n = some (aPz n) := by
 obtain ⟨h0,h1⟩ := hn
 unfold oJ
 rw [aFy (x := dgs n.natAbs) (fun s : Int × List Int => osI s.1 ∧ dgs s.1.natAbs ++ s.2 = dgs n.natAbs) (fun s => s.1.natAbs) (fun s hs => ?_) (s0 := (n,[])) ⟨⟨h0,h1⟩,by simp⟩ (by dsimp only; omega)]
 ·simp only [Option.bind_some]
  by_cases hz : n = 0
  ·subst hz
   rw [Int.natAbs_zero,aAe,if_pos (by simp)]
   simp [aPz,Lib.itoa,Lib.decDigits]
  ·have hp : n.natAbs ≠ 0 := by omega
   have hl : (dgs n.natAbs).length ≠ 0 := by rw [aG1 hp]; simp
   have hL := aJf 19 n.natAbs (by omega)
   have e := aSh n.natAbs hp
   have es : strOfNums (dgs n.natAbs) = ⟨(Lib.decDigits n.natAbs).toArray⟩ := by rw [← e]
   rw [if_neg (by omega)]
   split
   ·rename_i hneg
    rw [fZ (by simp [strOfNums,ByteArray.size]; omega),es]
    simp only [aPz,Lib.itoa,if_pos hneg]
    congr 1
   ·rename_i hneg
    rw [es]
    simp only [aPz,Lib.itoa,if_neg hneg]
    rw [show n.toNat = n.natAbs by omega]
 ·obtain ⟨k,out⟩ := s
  obtain ⟨⟨a0,a1⟩,a2⟩ := hs
  simp only at a0 a1 a2 ⊢
  by_cases hk : k = 0
  ·right
   subst hk
   rw [Int.natAbs_zero,aAe] at a2
   simp at a2 ⊢
   exact a2
  ·left
   rw [if_pos hk]
   have hd : (if k.tmod 10 < 0 then some (w64 (-(k.tmod 10))) else some (k.tmod 10)) = some (((k.natAbs % 10 : Nat)) : Int) := by
    have e1 : ((k.tmod 10).natAbs) = k.natAbs % 10 := Int.natAbs_tmod _ _
    split
    ·rw [aU (by omega) (by omega)]; congr 1; omega
    ·congr 1; omega
   rw [hd]
   simp only [Option.bind_some]
   have hL : (dgs n.natAbs).length ≤ 19 := aJf 19 n.natAbs (by omega)
   have hle : out.length ≤ 19 := by rw [← a2] at hL; simp at hL; omega
   have ew : IntKind.u8.wrap (w64 (48 + ((k.natAbs % 10 : Nat) : Int))) = 48 + ((k.natAbs % 10 : Nat) : Int) := by
    rw [aU (by omega) (by omega)]
    exact IntWalk.u8_in _ ⟨by omega,by omega⟩
   have eq : (k.tdiv 10).natAbs = k.natAbs / 10 := Int.natAbs_tdiv _ _
   rw [fZ (by simp; omega),ew,aU (by omega) (by omega)]
   refine ⟨_,rfl,⟨⟨by dsimp only; omega,by dsimp only; omega⟩,?_⟩,?_⟩
   ·dsimp only
    rw [eq,← a2,aG1 (u := k.natAbs) (by omega)]
    simp
   ·dsimp only
    omega
end Go.Proofs.YtgcdbbidmfdonaaGreat
namespace Go.Proofs.YtgcdbbidmfdonaaGreat
set_option linter.unusedVariables false
set_option maxRecDepth 100000
theorem aU4 {α : Type} {m : Option α} {f : α → Bool} (h : (match m with | some x => f x | none => false) = true) : Ok m (fun x => f x = true) := by
 cases m with
 | none => cases h
 | some x => exact ⟨x,rfl,h⟩
theorem aQb {v : ByteArray} (h : v ∈ [(⟨#[101,103,121,112,116,105,97,110]⟩ : ByteArray),(⟨#[102,105,120,101,100]⟩ : ByteArray),(⟨#[103,114,101,103,111,114,105,97,110]⟩ : ByteArray),(⟨#[106,117,108,105,97,110]⟩ : ByteArray)]) : Ok (kW v) (fun r => (mV r.1 && decide (r.1.Months.length ≤ 13) && decide (r.2 = 0)) = true) := by
 apply aU4
 simp only [List.mem_cons,List.not_mem_nil,or_false] at h
 rcases h with rfl | rfl | rfl | rfl <;> decide
def mNm (j : Nat) : ByteArray := (⟨#[109]⟩ : ByteArray) ++ aPz (j : Int)
theorem aAs {n : Int} {b : ByteArray} (hn : osI n) (h : oJ n = some b) : aPz n = b := by
 rw [aC5 hn] at h; injection h
theorem aTe : mNm 1 = ⟨#[109,49]⟩ ∧ mNm 2 = ⟨#[109,50]⟩ ∧ mNm 3 = ⟨#[109,51]⟩ ∧ mNm 4 = ⟨#[109,52]⟩ ∧ mNm 5 = ⟨#[109,53]⟩ ∧ mNm 6 = ⟨#[109,54]⟩ := by
 unfold mNm
 refine ⟨?_,?_,?_,?_,?_,?_⟩
 ·rw [aAs (n := ((1 : Nat) : Int)) (b := ⟨#[49]⟩) (by constructor <;> decide) (by decide)]; decide
 ·rw [aAs (n := ((2 : Nat) : Int)) (b := ⟨#[50]⟩) (by constructor <;> decide) (by decide)]; decide
 ·rw [aAs (n := ((3 : Nat) : Int)) (b := ⟨#[51]⟩) (by constructor <;> decide) (by decide)]; decide
 ·rw [aAs (n := ((4 : Nat) : Int)) (b := ⟨#[52]⟩) (by constructor <;> decide) (by decide)]; decide
 ·rw [aAs (n := ((5 : Nat) : Int)) (b := ⟨#[53]⟩) (by constructor <;> decide) (by decide)]; decide
 ·rw [aAs (n := ((6 : Nat) : Int)) (b := ⟨#[54]⟩) (by constructor <;> decide) (by decide)]; decide
theorem aUi {j : Nat} (h1 : 1 ≤ j) (h2 : j ≤ 6) : mH (mNm j) = true := by
 obtain ⟨a1,a2,a3,a4,a5,a6⟩ := aTe
 have : j = 1 ∨ j = 2 ∨ j = 3 ∨ j = 4 ∨ j = 5 ∨ j = 6 := by omega
 rcases this with rfl | rfl | rfl | rfl | rfl | rfl
 ·rw [a1]; decide
 ·rw [a2]; decide
 ·rw [a3]; decide
 ·rw [a4]; decide
 ·rw [a5]; decide
 ·rw [a6]; decide
theorem aT3 {i j : Nat} (h1 : 1 ≤ i) (h2 : i < j) (h3 : j ≤ 6) : mNm i ≠ mNm j := by
 obtain ⟨a1,a2,a3,a4,a5,a6⟩ := aTe
 have hi : i = 1 ∨ i = 2 ∨ i = 3 ∨ i = 4 ∨ i = 5 := by omega
 have hj : j = 2 ∨ j = 3 ∨ j = 4 ∨ j = 5 ∨ j = 6 := by omega
 rcases hi with rfl | rfl | rfl | rfl | rfl <;> rcases hj with rfl | rfl | rfl | rfl | rfl <;> first | omega | (simp only [a1,a2,a3,a4,a5,a6]; decide)
theorem aQ0 {xs : List bP} (hl : xs.length ≤ 6) (hn : ∀ (i : Nat) (hi : i < xs.length),xs[i].Name = mNm (i + 1) ∧ (1 ≤ xs[i].Days ∧ xs[i].Days ≤ 60) ∧ 1 ≤ xs[i].Leap ∧ xs[i].Leap ≤ 60) : aB0 xs = true := by
 unfold aB0
 rw [xC]
 intro i hi
 obtain ⟨h1,h2,h3⟩ := hn i hi
 rw [Bool.and_eq_true]
 constructor
 ·unfold aPe btw
  rw [h1,aUi (by omega) (by omega),decide_eq_true h2,decide_eq_true h3]; rfl
 ·rw [Bool.not_eq_true',← Bool.not_eq_true,List.any_eq_true]
  rintro ⟨m,hm,he⟩
  obtain ⟨j,hj,rfl⟩ := List.getElem_of_mem hm
  have hj' : j < i := by have := hj; simp at this; omega
  rw [List.getElem_take] at he
  have := of_decide_eq_true he
  rw [(hn j (by omega)).1,h1] at this
  exact aT3 (by omega) (by omega) (by omega) this
theorem aRz {c : aA} (hn : mH c.Name = true) (hl : 1 ≤ c.Months.length ∧ c.Months.length ≤ 20) (hr : c.Rules.length ≤ 6) (hw : 1 ≤ c.Week ∧ c.Week ≤ 12) (hm : aB0 c.Months = true) (ha : c.Rules.all nV = true) (hc : cyc c.Rules ≤ 2000) : mV c = true := by
 unfold mV btw
 rw [hn,hm,ha,decide_eq_true hl,decide_eq_true hr,decide_eq_true hw,decide_eq_true hc]; rfl
theorem aMp {n : Int} {s : bN} (h : lR n s) (hn : n ≤ 100000000) : Ok (mX s) (fun r => (mV r.1 = true ∧ r.1.Months.length ≤ 13) ∧ lR (n + 100) r.2) := by
 unfold mX
 refine aW (aE4 h (by omega)) fun v1 h1 => cG (fun _ => ?_) fun _ => ?_
 ·unfold kZ
  rw [Option.bind_some]
  refine aW (aR5 h1 (by omega) (by simp)) fun v3 h3 => aW (aQb h3.1) fun v4 h4 => aP ⟨?_,gC h3.2 (by omega)⟩
  simp only [Bool.and_eq_true,decide_eq_true_eq] at h4
  exact ⟨h4.1.1,h4.1.2⟩
 ·refine aW (kM h1 (by omega)) fun v5 h5 => aW (kM h5.2.2.2 (by omega)) fun v6 h6 => ?_
  have hk : v6.1 ≤ 5 := by rcases h6.2.1 with q | q <;> omega
  have hw : v5.1 ≤ 11 := by rcases h5.2.1 with q | q <;> omega
  have k0 := h6.1
  have w0 := h5.1
  rw [aU (x := 1 + v6.1) (by omega) (by omega),aU (x := 1 + v5.1) (by omega) (by omega)]
  refine aW (P := fun (r : bN × List bP) => ((r.2.length : Int) = 1 + v6.1 ∧ aB0 r.2 = true) ∧ lR (n + 60) r.1) ?_ fun v23 h23 => ?_
  ·refine fC (I := fun (s : Int × bN × List bP) => 1 ≤ s.1 ∧ s.1 ≤ v6.1 + 2 ∧ ((s.2.2.length : Int) = s.1 - 1 ∧ ∀ (i : Nat) (hi : i < s.2.2.length),s.2.2[i].Name = mNm (i + 1) ∧ (1 ≤ s.2.2[i].Days ∧ s.2.2[i].Days ≤ 60) ∧ 1 ≤ s.2.2[i].Leap ∧ s.2.2[i].Leap ≤ 60) ∧ lR (n + 6 + 7 * (s.1 - 1)) s.2.1) (m := fun s => (7 - s.1).toNat) ?_ _ ⟨by dsimp only; omega,by dsimp only; omega,⟨by simp,fun i hi => absurd hi (by simp)⟩,gC h6.2.2.2 (by dsimp only; omega)⟩ (by dsimp only; omega)
   rintro ⟨k,src,ys⟩ ⟨i0,i1,⟨il,iv⟩,is⟩
   dsimp only at i0 i1 il iv is ⊢
   refine cG (fun hi => ?_) fun hi => aP (.inr ⟨_,rfl,⟨by dsimp only; omega,aQ0 (by dsimp only; omega) iv⟩,gC is (by omega)⟩)
   have hko : osI k := ⟨by omega,by omega⟩
   rw [aC5 hko,Option.bind_some]
   have hds := aNk hko
   have h109 : (⟨#[109]⟩ : ByteArray).size = 1 := rfl
   refine jL (by omega) ?_
   refine aW (kM is (by omega)) fun v18 h18 => ?_
   have c1 := h18.1
   have c2 : v18.1 ≤ 39 := by rcases h18.2.1 with q | q <;> omega
   refine aW (P := fun (r : bN × bP) => (r.2.Name = (⟨#[109]⟩ : ByteArray) ++ aPz k ∧ (1 ≤ r.2.Days ∧ r.2.Days ≤ 60) ∧ 1 ≤ r.2.Leap ∧ r.2.Leap ≤ 60) ∧ lR (n + 6 + 7 * (k - 1) + 6) r.1) ?_ fun v21 h21 => ?_
   ·refine aW (aE4 h18.2.2.2 (by omega)) fun v19 h19 => cG (fun _ => ?_) fun _ => aP ⟨⟨rfl,by dsimp only; rw [aU (by omega) (by omega)]; omega,by dsimp only; rw [aU (by omega) (by omega)]; omega⟩,gC h19 (by omega)⟩
    refine aW (kM h19 (by omega)) fun v20 h20 => aP ⟨⟨rfl,by dsimp only; rw [aU (by omega) (by omega)]; omega,?_⟩,gC h20.2.2.2 (by omega)⟩
    have c3 := h20.1
    have c4 : v20.1 ≤ 39 := by rcases h20.2.1 with q | q <;> omega
    dsimp only; rw [aU (by omega) (by omega)]; omega
   ·refine jL (by simp; omega) (aP (.inl ⟨_,rfl,⟨?_,?_,⟨?_,?_⟩,?_⟩,?_⟩))
    all_goals (dsimp only; try rw [aU (x := k + 1) (by omega) (by omega)])
    ·omega
    ·omega
    ·simp; omega
    ·intro i hi
     rcases Nat.lt_or_ge i ys.length with q | q
     ·rw [List.getElem_append_left q]; exact iv i q
     ·have e : i = ys.length := by simp at hi; omega
      subst e
      rw [List.getElem_append_right (Nat.le_refl _)]
      simp only [Nat.sub_self,List.getElem_cons_zero]
      refine ⟨?_,h21.1.2⟩
      rw [h21.1.1]
      show _ = (⟨#[109]⟩ : ByteArray) ++ aPz ((ys.length + 1 : Nat) : Int)
      rw [show ((ys.length + 1 : Nat) : Int) = k by push_cast; omega]
    ·exact gC h21.2 (by omega)
    ·omega
  ·refine aW (P := fun (r : bN × List bA) => (r.2.length ≤ 3 ∧ ∀ q ∈ r.2,nV q = true) ∧ lR (n + 90) r.1) ?_ fun v35 h35 => ?_
   ·refine aW (kM h23.2 (by omega)) fun v24 h24 => ?_
    have d0 := h24.1
    have d1 : v24.1 ≤ 3 := by rcases h24.2.1 with q | q <;> omega
    refine fC (I := fun (s : Int × bN × List bA) => 0 ≤ s.1 ∧ s.1 ≤ 3 ∧ ((s.2.2.length : Int) + s.1 ≤ 3 ∧ ∀ q ∈ s.2.2,nV q = true) ∧ lR (n + 62 + 7 * (3 - s.1)) s.2.1) (m := fun s => s.1.toNat) ?_ _ ⟨d0,d1,⟨by simpa using d1,fun q hq => by cases hq⟩,gC h24.2.2.2 (by dsimp only; omega)⟩ (by dsimp only; omega)
    rintro ⟨k,src,ys⟩ ⟨i0,i1,⟨il,iv⟩,is⟩
    dsimp only at i0 i1 il iv is ⊢
    refine cG (fun hi => ?_) fun hi => aP (.inr ⟨_,rfl,⟨by dsimp only; omega,iv⟩,gC is (by omega)⟩)
    refine aW (xM is (by omega) (by simp)) fun v31 h31 => aW (kM h31.2 (by omega)) fun v32 h32 => aW (aE4 h32.2.2.2 (by omega)) fun v33 h33 => jL (by simp; omega) (aP (.inl ⟨_,rfl,⟨?_,?_,⟨?_,?_⟩,?_⟩,?_⟩))
    all_goals (dsimp only; try rw [aU (x := k - 1) (by omega) (by omega)])
    ·omega
    ·omega
    ·simp; omega
    ·intro q hq
     rcases List.mem_append.1 hq with hq | hq
     ·exact iv q hq
     ·rw [List.mem_singleton.1 hq]
      have hm := h31.1
      have e0 := h32.1
      simp only [List.mem_cons,List.not_mem_nil,or_false] at hm
      refine rH.2 ⟨by dsimp only; omega,e0,?_⟩
      dsimp only
      rcases h32.2.1 with q | q <;> omega
    ·exact gC h33 (by omega)
    ·omega
   ·have hm23 : 1 ≤ v23.2.length ∧ v23.2.length ≤ 6 := by have := h23.1.1; omega
    have base : ∀ rs : List bA,rs.length ≤ 6 → rs.all nV = true → cyc rs ≤ 2000 → mV ⟨⟨#[111,119,110]⟩,v23.2,rs,1 + v5.1⟩ = true := fun rs r1 r2 r3 => aRz (show mH ⟨#[111,119,110]⟩ = true by decide) (by dsimp only; omega) r1 (by dsimp only; omega) h23.1.2 r2 r3
    rw [tQ (by dsimp only; omega) (by dsimp only; omega)]
    refine aW (P := fun (rs : List bA) => mV ⟨⟨#[111,119,110]⟩,v23.2,rs,1 + v5.1⟩ = true) ?_ fun v37 h37 => aP ⟨⟨h37,by dsimp only; omega⟩,gC h35.2 (by omega)⟩
    rw [Option.bind_some]
    refine cG (fun _ => aP (base [] (by simp) rfl (by decide))) fun hb => aP ?_
    simpa using hb
theorem aM0 {n : Int} {s : bN} (h : lR n s) (hn : n ≤ 100000000) {c : aA} (hc : mV c = true) : Ok (lG s c) (fun r => gK c r.1 = true ∧ lR (n + 12) r.2) := by
 have hm := (dT hc).2.1
 unfold lG
 refine aW (xM h (by omega) (by simp)) fun v1 h1 => aW (kM h1.2 (by omega)) fun v2 h2 => ?_
 have y := h1.1
 simp only [List.mem_cons,List.not_mem_nil,or_false] at y
 have c1 := h2.1
 have c2 : v2.1 < c.Months.length := by rcases h2.2.1 with q | q <;> omega
 have hl := oC hc (fR c v1.1) c1 c2
 rw [aU (x := 1 + v2.1) (by omega) (by omega),aU (x := 1 + v2.1 - 1) (by omega) (by omega),show 1 + v2.1 - 1 = v2.1 by omega,sV hc (by omega) c1 c2,Option.bind_some]
 refine aW (kM h2.2.2.2 (by omega)) fun v4 h4 => ?_
 have d1 := h4.1
 have d2 : v4.1 < nY c (fR c v1.1) v2.1 := by rcases h4.2.1 with q | q <;> omega
 have e2 : (1 + v2.1) - 1 = v2.1 := by omega
 refine aW (P := fun (r : bN × bQ) => gK c r.2 = true ∧ lR (n + 12) r.1) ?_ fun v6 h6 => aP h6
 refine aW (aE4 h4.2.2.2 (by omega)) fun v5 h5 => cG (fun _ => aP ⟨eN.2 ⟨by dsimp only; omega,by dsimp only; omega,?_⟩,gC h5 (by omega)⟩) fun _ => aP ⟨eN.2 ⟨by dsimp only; omega,by dsimp only; omega,?_⟩,gC h5 (by omega)⟩
 ·dsimp only; rw [e2]; omega
 ·dsimp only; rw [e2,aU (by omega) (by omega)]; omega
end Go.Proofs.YtgcdbbidmfdonaaGreat
namespace Go.Proofs.YtgcdbbidmfdonaaGreat
set_option linter.unusedVariables false
set_option maxRecDepth 100000
theorem aNu {xs : List Int} (h : ∀ v ∈ xs,1 ≤ v ∧ v ≤ 60) (hl : 1 ≤ xs.length ∧ xs.length ≤ 260) : aEa xs = true := by
 unfold aEa btw
 rw [Bool.and_eq_true,decide_eq_true_eq,List.all_eq_true]
 exact ⟨fun v hv => decide_eq_true (h v hv),hl⟩
theorem aOm {c : aA} (hc : mV c = true) {a st ys m : Int} (a0 : 0 ≤ a) (a1 : a ≤ 260) (s0 : 1 ≤ st) (s1 : st ≤ 260) (y1 : ys ≤ 1000000) (m0 : 0 ≤ m) (m1 : m < c.Months.length) : Ok (pL c a st ys m) (fun r => 1 ≤ r ∧ r ≤ 60) := by
 have hm := sF (c := c) m0 m1
 have hq := aIo hc hm.2
 unfold pL
 refine aW (P := fun _ => True) ?_ fun v7 _ => ?_
 ·refine fC (I := fun (s : Int × Int × Int) => 0 ≤ s.2.2 ∧ s.2.2 ≤ 1000260) (m := fun s => (1000260 - s.2.2).toNat) ?_ _ ⟨a0,by dsimp only; omega⟩ (by dsimp only; omega)
  rintro ⟨l,al,y⟩ ⟨i0,i1⟩
  dsimp only at i0 i1 ⊢
  refine cG (fun hy => ?_) fun _ => aP (.inr ⟨_,rfl,trivial⟩)
  rw [aBg hc i0,Option.bind_some]
  refine aW (P := fun _ => True) (cG (fun _ => aP trivial) fun _ => aP trivial) fun v6 _ => aP (.inl ⟨_,rfl,?_,?_⟩)
  ·dsimp only; rw [aU (x := y + st) (by omega) (by omega)]; omega
  ·dsimp only; rw [aU (x := y + st) (by omega) (by omega)]; omega
 ·rw [hm.1,Option.bind_some]
  refine cG (fun _ => aP hq.2) fun _ => cG (fun _ => aP hq.1) fun _ => ?_
  unfold wZ
  refine aW (P := fun r => 1 ≤ r ∧ r ≤ 60) (cG (fun _ => aP hq.2) fun _ => aP hq.1) fun v h => aP h
theorem aOc {c : aA} (hc : mV c = true) {y : Int} (y0 : 1 ≤ y) (y1 : y ≤ 260) : Ok (nM c y) (fun r => 0 ≤ r ∧ r ≤ 520000) := by
 obtain ⟨_,_,hr,_,_,hb,hcy⟩ := dT hc
 obtain ⟨e,n0,n1,_⟩ := aSz hc
 have hg := uW (n := cyc c.Rules) (d := y) (by omega)
 have hq := tD (a := cyc c.Rules) (g := (Int.gcd (cyc c.Rules) y : Int)) (by omega) (by omega)
 unfold nM
 rw [zV (by omega),if_pos ⟨hb,hcy⟩,Option.bind_some,yE (by dsimp only; omega) (by omega) (by omega),Option.bind_some]
 refine jL (by dsimp only; omega) (aP ?_)
 dsimp only
 rw [Int.tdiv_eq_ediv_of_nonneg (by omega),aU (x := cyc c.Rules / _) (by omega) (by omega)]
 have h1 : 0 ≤ cyc c.Rules / (Int.gcd (cyc c.Rules) y : Int) * y := Int.mul_nonneg hq.1 (by omega)
 have h2 : cyc c.Rules / (Int.gcd (cyc c.Rules) y : Int) * y ≤ 2000 * 260 := Int.mul_le_mul (by omega) y1 (by omega) (by omega)
 rw [aU (by omega) (by omega)]
 omega
theorem aQp {c : aA} {cam : List Int} (ha : vK c cam = 0) {y m : Int} (y0 : 0 ≤ y) (m0 : 0 ≤ m) (m1 : m < c.Months.length) : pD c cam y m = some (⟨y,m + 1,cam.getD (lL c cam y (m + 1)).toNat 0,nY c (fR c y) m⟩,decide (cam.getD (lL c cam y (m + 1)).toNat 0 ≠ nY c (fR c y) m)) := by
 obtain ⟨hc,hm,h,k1,k2⟩ := kD ha
 have hl := (lE hm).2
 have hq := (dT hc).2.1
 have n := uR ha (y := y) (m := m + 1) (by omega) (by omega)
 unfold pD
 rw [fZ (by omega),sV hc y0 m0 m1,Option.bind_some,Int.tdiv_eq_ediv_of_nonneg (by omega),aU (x := (cam.length : Int) / _) (by omega) (by omega),fZ (by omega),Int.tmod_eq_emod_of_nonneg y0,aU (x := _ * _) (by omega) (by omega),aU (x := _ + m) (by omega) (by omega),aU (x := m + 1) (by omega) (by omega)]
 have e : y % ((cam.length : Int) / c.Months.length) * c.Months.length + m = lL c cam y (m + 1) := by unfold lL; omega
 rw [e]
 have h3 : atI cam (lL c cam y (m + 1)) = some (cam.getD (lL c cam y (m + 1)).toNat 0) := by
  unfold atI
  rw [if_pos n.1,List.getElem?_eq_getElem (by omega)]
  simp [List.getD_eq_getElem?_getD,List.getElem?_eq_getElem (show (lL c cam y (m + 1)).toNat < cam.length by omega)]
 rw [h3,Option.bind_some]
theorem aQd {c : aA} {cam : List Int} (ha : vK c cam = 0) {n : Int} (n1 : n ≤ 520000) : Ok (pQ c cam n) (fun _ => True) := by
 have hc := (kD ha).1
 have hq := (dT hc).2.1
 unfold pQ
 refine aW (P := fun _ => True) ?_ fun v _ => aP trivial
 refine fC (I := fun (s : Int × Int) => 0 ≤ s.2 ∧ s.2 ≤ 520000) (m := fun s => (520000 - s.2).toNat) ?_ _ ⟨by dsimp only; omega,by dsimp only; omega⟩ (by dsimp only; omega)
 rintro ⟨k,y⟩ ⟨i0,i1⟩
 dsimp only at i0 i1 ⊢
 refine cG (fun hy => ?_) fun _ => aP (.inr ⟨_,rfl,trivial⟩)
 refine aW (P := fun _ => True) ?_ fun v16 _ => aP (.inl ⟨_,rfl,?_,?_⟩)
 ·refine fC (I := fun (s : Int × Int) => 0 ≤ s.2 ∧ s.2 ≤ c.Months.length) (m := fun s => (c.Months.length - s.2).toNat) ?_ _ ⟨by dsimp only; omega,by dsimp only; omega⟩ (by dsimp only; omega)
  rintro ⟨k2,m⟩ ⟨j0,j1⟩
  dsimp only at j0 j1 ⊢
  refine cG (fun hm => ?_) fun _ => aP (.inr ⟨_,rfl,trivial⟩)
  rw [aQp ha i0 j0 hm,Option.bind_some]
  refine aW (P := fun _ => True) (cG (fun _ => aP trivial) fun _ => aP trivial) fun v15 _ => aP (.inl ⟨_,rfl,?_,?_⟩)
  ·dsimp only; rw [aU (x := m + 1) (by omega) (by omega)]; omega
  ·dsimp only; rw [aU (x := m + 1) (by omega) (by omega)]; omega
 ·dsimp only; rw [aU (x := y + 1) (by omega) (by omega)]; omega
 ·dsimp only; rw [aU (x := y + 1) (by omega) (by omega)]; omega
theorem aRh {c : aA} {cam : List Int} (hc : mV c = true) (hm : aEa cam = true) (hz : (cam.length : Int) % c.Months.length = 0) : vK c cam = 0 := by
 rw [aCo hc hm,if_pos hz]
theorem aMa {c : aA} (hc : mV c = true) (y : Int) : Ok (qX c y) (fun r => r.2.2 = 0 → vK c r.1 = 0) := by
 have hm := (dT hc).2.1
 obtain ⟨_,_,hr,_⟩ := dT hc
 unfold qX sK
 rw [tQ (by omega) (by omega),hc,Option.bind_some,eA,Option.bind_some]
 simp only [Bool.not_true,Bool.false_eq_true,if_false]
 refine aW (P := fun b => b = true → (1 ≤ y ∧ y ≤ 260) ∧ y * c.Months.length ≤ 260) (cG (fun hb => ?_) fun hb => aP (by simp)) fun b hb => cG (fun hn => aP (by simp)) fun hn => ?_
 ·have hy := of_decide_eq_true hb
  have h1 : 0 ≤ y * (c.Months.length : Int) := Int.mul_nonneg (by omega) (by omega)
  have h2 : y * (c.Months.length : Int) ≤ 260 * 20 := Int.mul_le_mul hy.2 (by omega) (by omega) (by omega)
  rw [aU (by omega) (by omega)]
  exact aP fun h => ⟨hy,of_decide_eq_true h⟩
 ·have hb' : b = true := by simpa using hn
  obtain ⟨⟨y0,y1⟩,y2⟩ := hb hb'
  refine aW (aOc hc y0 y1) fun v3 h3 => ?_
  refine aW (P := fun xs => (xs.length : Int) = y * c.Months.length ∧ ∀ v ∈ xs,1 ≤ v ∧ v ≤ 60) ?_ fun v20 h20 => ?_
  ·refine fC (I := fun (s : Int × List Int) => (0 ≤ s.1 ∧ s.1 ≤ y) ∧ (s.2.length : Int) = s.1 * c.Months.length ∧ ∀ v ∈ s.2,1 ≤ v ∧ v ≤ 60) (m := fun s => (y - s.1).toNat) ?_ _ ⟨⟨by dsimp only; omega,by dsimp only; omega⟩,by simp,fun v hv => by cases hv⟩ (by dsimp only; omega)
   rintro ⟨k,xs⟩ ⟨⟨i0,i1⟩,il,iv⟩
   dsimp only at i0 i1 il iv ⊢
   refine cG (fun hk => ?_) fun hk => aP (.inr ⟨_,rfl,?_,iv⟩)
   ·have kb : k * (c.Months.length : Int) ≤ (y - 1) * c.Months.length := Int.mul_le_mul_of_nonneg_right (by omega) (by omega)
    have kn : 0 ≤ k * (c.Months.length : Int) := Int.mul_nonneg i0 (by omega)
    rw [Int.sub_mul] at kb
    refine aW (P := fun (zs : List Int) => (zs.length : Int) = k * c.Months.length + c.Months.length ∧ ∀ v ∈ zs,1 ≤ v ∧ v ≤ 60) ?_ fun v19 h19 => aP (.inl ⟨_,rfl,⟨⟨?_,?_⟩,?_,h19.2⟩,?_⟩)
    ·refine fC (I := fun (s : Int × List Int) => (0 ≤ s.1 ∧ s.1 ≤ c.Months.length) ∧ (s.2.length : Int) = k * c.Months.length + s.1 ∧ ∀ v ∈ s.2,1 ≤ v ∧ v ≤ 60) (m := fun s => (c.Months.length - s.1).toNat) ?_ _ ⟨⟨by dsimp only; omega,by dsimp only; omega⟩,by dsimp only; omega,iv⟩ (by dsimp only; omega)
     rintro ⟨m,zs⟩ ⟨⟨j0,j1⟩,jl,jv⟩
     dsimp only at j0 j1 jl jv ⊢
     refine cG (fun hmm => ?_) fun hmm => aP (.inr ⟨_,rfl,by omega,jv⟩)
     refine aW (aOm hc i0 (by omega) y0 y1 (by omega) j0 hmm) fun v17 h17 => jL (by simp; omega) (aP (.inl ⟨_,rfl,⟨⟨?_,?_⟩,?_,?_⟩,?_⟩))
     all_goals (dsimp only; try rw [aU (x := m + 1) (by omega) (by omega)])
     ·omega
     ·omega
     ·simp; omega
     ·intro v hv
      rcases List.mem_append.1 hv with hv | hv
      ·exact jv v hv
      ·rw [List.mem_singleton.1 hv]; exact h17
     ·omega
    all_goals (dsimp only; try rw [aU (x := k + 1) (by omega) (by omega)])
    ·omega
    ·omega
    ·rw [Int.add_mul,Int.one_mul]; exact h19.1
    ·omega
   ·rw [il,show k = y by omega]
  ·have hp : 0 < y * (c.Months.length : Int) := Int.mul_pos (by omega) (by omega)
   have hcam := aNu h20.2 (by omega)
   have ha : vK c v20 = 0 := aRh hc hcam (by rw [h20.1,Int.mul_emod_left])
   exact aW (aQd ha h3.2) fun v21 _ => aP fun _ => ha
theorem aQf {c : aA} (hc : mV c = true) : Ok (vO c 0 1) (fun r => vK c r = 0) := by
 have hm := (dT hc).2.1
 unfold vO
 rw [aU (x := (0 : Int) + 1) (by omega) (by omega)]
 refine aW (P := fun xs => (xs.length : Int) = c.Months.length ∧ ∀ v ∈ xs,1 ≤ v ∧ v ≤ 60) ?_ fun v20 h20 => aP (aRh hc (aNu h20.2 (by omega)) (by rw [h20.1,Int.emod_self]))
 refine fC (I := fun (s : Int × List Int) => (0 ≤ s.1 ∧ s.1 ≤ 1) ∧ (s.2.length : Int) = s.1 * c.Months.length ∧ ∀ v ∈ s.2,1 ≤ v ∧ v ≤ 60) (m := fun s => (1 - s.1).toNat) ?_ _ ⟨⟨by dsimp only; omega,by dsimp only; omega⟩,by simp,fun v hv => by cases hv⟩ (by dsimp only; omega)
 rintro ⟨k,xs⟩ ⟨⟨i0,i1⟩,il,iv⟩
 dsimp only at i0 i1 il iv ⊢
 refine cG (fun hk => ?_) fun hk => aP (.inr ⟨_,rfl,?_,iv⟩)
 ·have hk0 : k = 0 := by omega
  subst hk0
  have il' : xs.length = 0 := by omega
  refine aW (P := fun (zs : List Int) => (zs.length : Int) = c.Months.length ∧ ∀ v ∈ zs,1 ≤ v ∧ v ≤ 60) ?_ fun v19 h19 => aP (.inl ⟨_,rfl,⟨⟨?_,?_⟩,?_,h19.2⟩,?_⟩)
  ·refine fC (I := fun (s : Int × List Int) => (0 ≤ s.1 ∧ s.1 ≤ c.Months.length) ∧ (s.2.length : Int) = s.1 ∧ ∀ v ∈ s.2,1 ≤ v ∧ v ≤ 60) (m := fun s => (c.Months.length - s.1).toNat) ?_ _ ⟨⟨by dsimp only; omega,by dsimp only; omega⟩,by dsimp only; omega,iv⟩ (by dsimp only; omega)
   rintro ⟨m,zs⟩ ⟨⟨j0,j1⟩,jl,jv⟩
   dsimp only at j0 j1 jl jv ⊢
   refine cG (fun hmm => ?_) fun hmm => aP (.inr ⟨_,rfl,by omega,jv⟩)
   have hl := oC hc (fR c 0) j0 hmm
   rw [sV hc (by omega) j0 hmm,Option.bind_some]
   refine jL (by simp; omega) (aP (.inl ⟨_,rfl,⟨⟨?_,?_⟩,?_,?_⟩,?_⟩))
   all_goals (dsimp only; try rw [aU (x := m + 1) (by omega) (by omega)])
   ·omega
   ·omega
   ·simp; omega
   ·intro v hv
    rcases List.mem_append.1 hv with hv | hv
    ·exact jv v hv
    ·rw [List.mem_singleton.1 hv]; exact hl
   ·omega
  all_goals (dsimp only; try rw [aU (x := (0 : Int) + 1) (by omega) (by omega)])
  ·omega
  ·omega
  ·rw [h19.1]; omega
  ·omega
 ·rw [il,show k = 1 by omega]; omega
end Go.Proofs.YtgcdbbidmfdonaaGreat
namespace Go.Proofs.YtgcdbbidmfdonaaGreat
set_option linter.unusedVariables false
set_option maxRecDepth 100000
theorem aCz {α : Type} {xs : List α} {k : Nat} : xW xs (k : Int) (xs.length : Int) = xs.drop k := by
 unfold xW
 rw [List.take_of_length_le (by simp)]; simp
theorem tO {α : Type} {xs : List α} {k : Nat} (h : k < xs.length) : xs.drop k = xs[k] :: xs.drop (k + 1) := List.drop_eq_getElem_cons h
theorem zY {α : Type} {xs : List α} {k : Nat} (h : k < xs.length) : xs.take (k + 1) = xs.take k ++ [xs[k]] := by rw [List.take_succ_eq_append_getElem h]
theorem aP7 {out : List Int} {x : Int} {k : Nat} (hs : out.Pairwise (· ≤ ·)) (h1 : ∀ a ∈ out.take k,a ≤ x) (h2 : ∀ b ∈ out.drop k,x < b) : ((out.take k ++ [x]) ++ out.drop k).Pairwise (· ≤ ·) ∧ ((out.take k ++ [x]) ++ out.drop k).Perm (out ++ [x]) := by
 have hs' := hs
 rw [← List.take_append_drop k out,List.pairwise_append] at hs'
 obtain ⟨p1,p2,p3⟩ := hs'
 constructor
 ·rw [List.pairwise_append,List.pairwise_append]
  refine ⟨⟨p1,by simp,fun a ha b hb => by rw [List.mem_singleton.1 hb]; exact h1 a ha⟩,p2,fun a ha b hb => ?_⟩
  rcases List.mem_append.1 ha with ha | ha
  ·exact p3 a ha b hb
  ·rw [List.mem_singleton.1 ha]; have := h2 b hb; omega
 ·rw [List.append_assoc]
  have e : (out.take k ++ ([x] ++ out.drop k)).Perm (out.take k ++ (out.drop k ++ [x])) := List.Perm.append_left _ List.perm_append_comm
  rw [← List.append_assoc (List.take k out) (List.drop k out),List.take_append_drop] at e
  exact e
theorem aOo {xs : List Int} (hl : xs.length ≤ 1000) : Ok (oQ xs) (fun ys => ys.Perm xs ∧ ys.Pairwise (· ≤ ·)) := by
 unfold oQ
 refine aW (P := fun (ys : List Int) => ys.Perm xs ∧ ys.Pairwise (· ≤ ·)) ?_ fun v h => aP h
 refine fC (I := fun (s : Int × List Int) => (0 ≤ s.1 ∧ s.1 ≤ xs.length) ∧ s.2.Perm (xs.take s.1.toNat) ∧ s.2.Pairwise (· ≤ ·)) (m := fun s => (xs.length - s.1).toNat) ?_ _ ⟨⟨by dsimp only; omega,by dsimp only; omega⟩,by simp,.nil⟩ (by dsimp only; omega)
 rintro ⟨i,out⟩ ⟨⟨i0,i1⟩,ip,is⟩
 dsimp only at i0 i1 ip is ⊢
 refine cG (fun hi => ?_) fun hi => aP (.inr ⟨_,rfl,?_,is⟩)
 ·obtain ⟨n,rfl⟩ : ∃ n : Nat,i = n := ⟨i.toNat,by omega⟩
  have hn : n < xs.length := by omega
  rw [Int.toNat_natCast] at ip
  have hol : out.length = n := by have := ip.length_eq; simp at this; omega
  simp only [eD hn,Option.bind_some]
  refine aW (P := fun (zs : List Int) => zs.Perm (out ++ [xs[n]]) ∧ zs.Pairwise (· ≤ ·)) ?_ fun v34 h34 => aP (.inl ⟨_,rfl,⟨⟨?_,?_⟩,?_,h34.2⟩,?_⟩)
  ·refine aW (P := fun (k : Int) => (0 ≤ k ∧ k ≤ out.length) ∧ (∀ b ∈ out.drop k.toNat,xs[n] < b) ∧ ∀ a ∈ out.take k.toNat,a ≤ xs[n]) ?_ fun k hk => ?_
   ·refine fC (I := fun (k : Int) => (0 ≤ k ∧ k ≤ out.length) ∧ ∀ b ∈ out.drop k.toNat,xs[n] < b) (m := fun k => k.toNat) ?_ _ ⟨⟨by omega,by omega⟩,by simp⟩ (by omega)
    rintro k ⟨⟨k0,k1⟩,kd⟩
    refine aW (P := fun b => b = decide (0 < k ∧ xs[n] < out.getD (k - 1).toNat 0)) (cG (fun hk => ?_) fun hk => aP (by symm; exact decide_eq_false fun h => hk h.1)) fun b hb => ?_
    ·rw [aU (x := k - 1) (by omega) (by omega),show k - 1 = ((k - 1).toNat : Int) by omega,eD (show (k - 1).toNat < out.length by omega),Option.bind_some]
     refine aP ?_
     rw [show ((k - 1).toNat : Int).toNat = (k - 1).toNat by omega,List.getD_eq_getElem?_getD,List.getElem?_eq_getElem (show (k - 1).toNat < out.length by omega),Option.getD_some,decide_eq_decide]
     omega
    ·subst hb
     refine cG (fun hb => ?_) fun hb => aP (.inr ⟨_,rfl,⟨k0,k1⟩,kd,?_⟩)
     ·have hb' := of_decide_eq_true hb
      refine aP (.inl ⟨_,rfl,⟨⟨?_,?_⟩,?_⟩,?_⟩)
      all_goals try rw [aU (x := k - 1) (by omega) (by omega)]
      ·omega
      ·omega
      ·have hlt : (k - 1).toNat < out.length := by omega
       rw [tO hlt]
       intro b hb2
       rcases List.mem_cons.1 hb2 with rfl | hb2
       ·have := hb'.2
        rwa [List.getD_eq_getElem?_getD,List.getElem?_eq_getElem hlt,Option.getD_some] at this
       ·rw [show (k - 1).toNat + 1 = k.toNat by omega] at hb2; exact kd b hb2
      ·omega
     ·intro a ha
      have hk : k ≠ 0 := by
       intro e; subst e; simp at ha
      have hlt : (k - 1).toNat < out.length := by omega
      have hx : out[(k - 1).toNat] ≤ xs[n] := by
       have : ¬ (0 < k ∧ xs[n] < out.getD (k - 1).toNat 0) := by simpa using hb
       rw [List.getD_eq_getElem?_getD,List.getElem?_eq_getElem hlt,Option.getD_some] at this
       omega
      rw [show k.toNat = (k - 1).toNat + 1 by omega,zY hlt] at ha
      rcases List.mem_append.1 ha with ha | ha
      ·have hp := is
       rw [← List.take_append_drop (k - 1).toNat out,List.pairwise_append] at hp
       have := hp.2.2 a ha out[(k - 1).toNat] (by rw [tO hlt]; exact List.mem_cons_self ..)
       omega
      ·rw [List.mem_singleton.1 ha]; exact hx
   ·obtain ⟨⟨k0,k1⟩,kd,ka⟩ := hk
    obtain ⟨m,rfl⟩ : ∃ m : Nat,k = m := ⟨k.toNat,by omega⟩
    rw [Int.toNat_natCast] at kd ka
    refine jL (by omega) ?_
    rw [aO2,aCz,zI (by rw [List.length_take]; omega),Option.bind_some]
    refine jL (by simp; omega) (jL (by omega) (jL (by simp; omega) (aP ?_)))
    have := aP7 is ka kd
    exact ⟨this.2,this.1⟩
  all_goals (dsimp only; try rw [aU (x := (n : Int) + 1) (by omega) (by omega)])
  ·omega
  ·omega
  ·rw [show ((n : Int) + 1).toNat = n + 1 by omega,zY hn]
   exact h34.1.trans (ip.append_right _)
  ·omega
 ·rw [show i.toNat = xs.length by omega,List.take_length] at ip
  exact ip
end Go.Proofs.YtgcdbbidmfdonaaGreat
namespace Go.Proofs.YtgcdbbidmfdonaaGreat
set_option linter.unusedVariables false
set_option maxRecDepth 100000
abbrev mG (xs : List aZ) : Prop := xs.Pairwise fun a b => a.value ≤ b.value
theorem oR {xs : List aZ} (h : mG xs) {i j : Nat} (hij : i ≤ j) (hj : j < xs.length) : (xs[i]'(by omega)).value ≤ xs[j].value := by
 rcases Nat.lt_or_ge i j with q | q
 ·exact List.pairwise_iff_getElem.1 h i j (by omega) hj q
 ·have : i = j := by omega
  subst this; exact Int.le_refl _
theorem aCn {α : Type} {xs : List α} {k : Nat} {x : α} (h : x ∈ xs.drop k) : ∃ (j : Nat) (hj : j < xs.length),k ≤ j ∧ xs[j] = x := by
 obtain ⟨i,hi,rfl⟩ := List.getElem_of_mem h
 have hi' := hi
 rw [List.length_drop] at hi'
 exact ⟨k + i,by omega,by omega,by rw [List.getElem_drop]⟩
theorem aQc {a b : List aZ} (ha : mG a) (hb : mG b) (hl : a.length + b.length ≤ 100000) : Ok (pZ a b) (fun r => r.Perm (a ++ b) ∧ mG r) := by
 unfold pZ
 have grow : ∀ {out : List aZ} {x : aZ},mG out → (∀ y ∈ out,y.value ≤ x.value) → mG (out ++ [x]) := fun {out x} h1 h2 => by
  show List.Pairwise _ _
  rw [List.pairwise_append]
  exact ⟨h1,by simp,fun y hy z hz => by rw [List.mem_singleton.1 hz]; exact h2 y hy⟩
 refine aW (P := fun (r : Int × List aZ) => (0 ≤ r.1 ∧ r.1 ≤ a.length) ∧ r.2.Perm (a.take r.1.toNat ++ b) ∧ mG r.2 ∧ ∀ y ∈ r.2,∀ z ∈ a.drop r.1.toNat,y.value ≤ z.value) ?_ fun v35 h35 => ?_
 ·refine fC (I := fun (s : Int × Int × List aZ) => ((0 ≤ s.1 ∧ s.1 ≤ a.length) ∧ 0 ≤ s.2.1 ∧ s.2.1 ≤ b.length) ∧ s.2.2.Perm (a.take s.1.toNat ++ b.take s.2.1.toNat) ∧ mG s.2.2 ∧ (∀ y ∈ s.2.2,∀ z ∈ a.drop s.1.toNat,y.value ≤ z.value) ∧ ∀ y ∈ s.2.2,∀ z ∈ b.drop s.2.1.toNat,y.value ≤ z.value) (m := fun s => (b.length - s.2.1).toNat) ?_ _ ⟨⟨⟨by dsimp only; omega,by dsimp only; omega⟩,by dsimp only; omega,by dsimp only; omega⟩,by simp,.nil,fun y hy => by simp at hy,fun y hy => by simp at hy⟩ (by dsimp only; omega)
  rintro ⟨i,k,out⟩ ⟨⟨⟨i0,i1⟩,k0,k1⟩,hp,hs,h1,h2⟩
  dsimp only at i0 i1 k0 k1 hp hs h1 h2 ⊢
  refine cG (fun hk => ?_) fun hk => aP (.inr ⟨_,rfl,⟨i0,i1⟩,?_,hs,h1⟩)
  ·obtain ⟨m,rfl⟩ : ∃ m : Nat,k = m := ⟨k.toNat,by omega⟩
   have hm : m < b.length := by omega
   rw [Int.toNat_natCast] at hp h2
   simp only [eD hm,Option.bind_some]
   refine aW (P := fun (r : Int × List aZ) => (0 ≤ r.1 ∧ r.1 ≤ a.length) ∧ r.2.Perm (a.take r.1.toNat ++ b.take (m + 1)) ∧ mG r.2 ∧ (∀ y ∈ r.2,∀ z ∈ a.drop r.1.toNat,y.value ≤ z.value) ∧ ∀ y ∈ r.2,∀ z ∈ b.drop (m + 1),y.value ≤ z.value) ?_ fun v34 h34 => aP (.inl ⟨_,rfl,⟨⟨h34.1,?_,?_⟩,?_,h34.2.2.1,h34.2.2.2.1,?_⟩,?_⟩)
   ·refine aW (P := fun (r : Int × List aZ) => (0 ≤ r.1 ∧ r.1 ≤ a.length) ∧ r.2.Perm (a.take r.1.toNat ++ b.take m) ∧ mG r.2 ∧ (∀ y ∈ r.2,∀ z ∈ a.drop r.1.toNat,y.value ≤ z.value) ∧ (∀ y ∈ r.2,∀ z ∈ b.drop m,y.value ≤ z.value) ∧ ∀ z ∈ a.drop r.1.toNat,b[m].value ≤ z.value) ?_ fun v31 h31 => ?_
    ·refine fC (I := fun (s : Int × List aZ) => (0 ≤ s.1 ∧ s.1 ≤ a.length) ∧ s.2.Perm (a.take s.1.toNat ++ b.take m) ∧ mG s.2 ∧ (∀ y ∈ s.2,∀ z ∈ a.drop s.1.toNat,y.value ≤ z.value) ∧ ∀ y ∈ s.2,∀ z ∈ b.drop m,y.value ≤ z.value) (m := fun s => (a.length - s.1).toNat) ?_ _ ⟨⟨i0,i1⟩,hp,hs,h1,h2⟩ (by dsimp only; omega)
     rintro ⟨i,out⟩ ⟨⟨i0,i1⟩,hp,hs,h1,h2⟩
     dsimp only at i0 i1 hp hs h1 h2 ⊢
     obtain ⟨n,rfl⟩ : ∃ n : Nat,i = n := ⟨i.toNat,by omega⟩
     rw [Int.toNat_natCast] at hp h1
     by_cases hi : n < a.length
     ·rw [if_pos (by omega)]
      simp only [eD hi,Option.bind_some]
      by_cases hc : a[n].value ≤ b[m].value
      ·rw [decide_eq_true hc,if_pos rfl]
       have hol : out.length = n + m := by
        have := hp.length_eq
        rw [List.length_append,List.length_take,List.length_take] at this
        omega
       refine jL (by simp; omega) (aP (.inl ⟨_,rfl,⟨⟨?_,?_⟩,?_,?_,?_,?_⟩,?_⟩))
       all_goals (dsimp only; (try rw [aU (x := (n : Int) + 1) (by omega) (by omega)]); (try rw [show ((n : Int) + 1).toNat = n + 1 by omega]))
       ·omega
       ·omega
       ·rw [zY hi]
        have e : (out ++ [a[n]]).Perm ((a.take n ++ b.take m) ++ [a[n]]) := hp.append_right _
        refine e.trans ?_
        rw [List.append_assoc,List.append_assoc]
        exact List.Perm.append_left _ List.perm_append_comm
       ·exact grow hs fun y hy => h1 y hy _ (by rw [tO hi]; exact List.mem_cons_self ..)
       ·intro y hy z hz
        obtain ⟨j,hj,hjn,rfl⟩ := aCn hz
        rcases List.mem_append.1 hy with hy | hy
        ·exact h1 y hy _ (by rw [tO hi]; exact List.mem_cons_of_mem _ hz)
        ·rw [List.mem_singleton.1 hy]; exact oR ha (by omega) hj
       ·intro y hy z hz
        rcases List.mem_append.1 hy with hy | hy
        ·exact h2 y hy z hz
        ·rw [List.mem_singleton.1 hy]
         obtain ⟨j,hj,hjn,rfl⟩ := aCn hz
         have := oR hb hjn hj
         omega
       ·omega
      ·rw [decide_eq_false hc,if_neg (by decide)]
       refine aP (.inr ⟨_,rfl,⟨i0,i1⟩,by rw [Int.toNat_natCast]; exact hp,hs,by rw [Int.toNat_natCast]; exact h1,h2,fun z hz => ?_⟩)
       rw [Int.toNat_natCast] at hz
       obtain ⟨j,hj,hjn,rfl⟩ := aCn hz
       have := oR ha hjn hj
       omega
     ·rw [if_neg (by omega)]
      refine aP (.inr ⟨_,rfl,⟨i0,i1⟩,by rw [Int.toNat_natCast]; exact hp,hs,by rw [Int.toNat_natCast]; exact h1,h2,fun z hz => ?_⟩)
      rw [Int.toNat_natCast,List.drop_of_length_le (by omega)] at hz
      cases hz
    ·obtain ⟨⟨q0,q1⟩,qp,qs,g1,g2,g3⟩ := h31
     have hol : v31.2.length = v31.1.toNat + m := by
      have := qp.length_eq
      rw [List.length_append,List.length_take,List.length_take] at this
      omega
     refine jL (by simp; omega) (aP ⟨⟨q0,q1⟩,?_,?_,?_,?_⟩)
     ·rw [zY hm,← List.append_assoc]
      exact qp.append_right _
     ·exact grow qs fun y hy => g2 y hy _ (by rw [tO hm]; exact List.mem_cons_self ..)
     ·intro y hy z hz
      rcases List.mem_append.1 hy with hy | hy
      ·exact g1 y hy z hz
      ·rw [List.mem_singleton.1 hy]; exact g3 z hz
     ·intro y hy z hz
      rcases List.mem_append.1 hy with hy | hy
      ·exact g2 y hy z (by rw [tO hm]; exact List.mem_cons_of_mem _ hz)
      ·rw [List.mem_singleton.1 hy]
       obtain ⟨j,hj,hjn,rfl⟩ := aCn hz
       exact oR hb (by omega) hj
   all_goals (dsimp only; try rw [aU (x := (m : Int) + 1) (by omega) (by omega)])
   ·omega
   ·omega
   ·rw [show ((m : Int) + 1).toNat = m + 1 by omega]; exact h34.2.1
   ·rw [show ((m : Int) + 1).toNat = m + 1 by omega]; exact h34.2.2.2.2
   ·omega
  ·rw [show k.toNat = b.length by omega,List.take_length] at hp
   exact hp
 ·obtain ⟨⟨q0,q1⟩,qp,qs,g1⟩ := h35
  obtain ⟨n,hn⟩ : ∃ n : Nat,v35.1 = n := ⟨v35.1.toNat,by omega⟩
  rw [hn,Int.toNat_natCast] at qp g1
  have hol : v35.2.length = n + b.length := by
   have := qp.length_eq
   rw [List.length_append,List.length_take] at this
   omega
  rw [hn]
  refine jL (by omega) ?_
  rw [aCz]
  refine jL (by simp; omega) (aP ⟨?_,?_⟩)
  ·have e : (v35.2 ++ a.drop n).Perm ((a.take n ++ b) ++ a.drop n) := qp.append_right _
   refine e.trans ?_
   rw [List.append_assoc]
   have e2 : (a.take n ++ (b ++ a.drop n)).Perm (a.take n ++ (a.drop n ++ b)) := List.Perm.append_left _ List.perm_append_comm
   rw [← List.append_assoc (a.take n) (a.drop n) b,List.take_append_drop] at e2
   exact e2
  ·show List.Pairwise _ _
   rw [List.pairwise_append]
   refine ⟨qs,?_,g1⟩
   have := ha
   unfold mG at this
   rw [← List.take_append_drop n a,List.pairwise_append] at this
   exact this.2.1
theorem aG6 : ∀ (f : Nat) {xs : List aZ},xs.length ≤ f → xs.length ≤ 100000 → Ok (jH (f + 1) xs) (fun r => r.Perm xs ∧ mG r)
 | f,xs,hf,hl => by
  unfold jH
  refine cG (fun h2 => aP ⟨.refl _,?_⟩) fun h2 => ?_
  ·match xs,h2 with
   | [],_ => exact .nil
   | [x],_ => exact List.pairwise_singleton ..
   | x :: y :: r,h => simp at h; omega
  ·obtain ⟨m,hm⟩ : ∃ m : Nat,(xs.length : Int).tdiv 2 = m := ⟨xs.length / 2,by rw [Int.tdiv_eq_ediv_of_nonneg (by omega)]; omega⟩
   have hm2 : m = xs.length / 2 := by rw [Int.tdiv_eq_ediv_of_nonneg (by omega)] at hm; omega
   rw [hm,aU (x := (m : Int)) (by omega) (by omega)]
   refine jL (by omega) (jL (by omega) ?_)
   rw [aO2,aCz]
   obtain ⟨g,rfl⟩ : ∃ g,f = g + 1 := ⟨f - 1,by omega⟩
   refine aW (aG6 g (xs := xs.take m) (by rw [List.length_take]; omega) (by rw [List.length_take]; omega)) fun v4 h4 => ?_
   refine aW (aG6 g (xs := xs.drop m) (by rw [List.length_drop]; omega) (by rw [List.length_drop]; omega)) fun v5 h5 => ?_
   have l4 := h4.1.length_eq
   have l5 := h5.1.length_eq
   rw [List.length_take] at l4
   rw [List.length_drop] at l5
   refine aW (aQc h4.2 h5.2 (by omega)) fun v6 h6 => aP ⟨?_,h6.2⟩
   have := h6.1.trans ((h4.1.append h5.1))
   rwa [List.take_append_drop] at this
theorem aSu {xs : List aZ} (hl : xs.length ≤ 100000) : Ok (jH aL8 xs) (fun r => r.Perm xs ∧ mG r) := by
 have e : aL8 = (aL8 - 1) + 1 := by unfold aL8; rfl
 rw [e]
 exact aG6 _ (by unfold aL8; omega) hl
theorem aRa {xs : List aZ} (hs : mG xs) (hl : xs.length ≤ 100000) (v : Int) : Ok (pH xs v) (fun k => (0 ≤ k ∧ k ≤ xs.length) ∧ (∀ (i : Nat) (hi : i < xs.length),(i : Int) < k → xs[i].value < v) ∧ ∀ (i : Nat) (hi : i < xs.length),k ≤ (i : Int) → v ≤ xs[i].value) := by
 unfold pH
 refine aW (P := fun (k : Int) => (0 ≤ k ∧ k ≤ xs.length) ∧ (∀ (i : Nat) (hi : i < xs.length),(i : Int) < k → xs[i].value < v) ∧ ∀ (i : Nat) (hi : i < xs.length),k ≤ (i : Int) → v ≤ xs[i].value) ?_ fun k h => aP h
 refine fC (I := fun (s : Int × Int) => (0 ≤ s.1 ∧ s.1 ≤ s.2 ∧ s.2 ≤ xs.length) ∧ (∀ (i : Nat) (hi : i < xs.length),(i : Int) < s.1 → xs[i].value < v) ∧ ∀ (i : Nat) (hi : i < xs.length),s.2 ≤ (i : Int) → v ≤ xs[i].value) (m := fun s => (s.2 - s.1).toNat) ?_ _ ⟨⟨by dsimp only; omega,by dsimp only; omega,by dsimp only; omega⟩,fun i hi h => by dsimp only at h; omega,fun i hi h => by dsimp only at h; omega⟩ (by dsimp only; omega)
 rintro ⟨a,b⟩ ⟨⟨a0,ab,b1⟩,h1,h2⟩
 dsimp only at a0 ab b1 h1 h2 ⊢
 refine cG (fun h => ?_) fun h => aP (.inr ⟨_,rfl,⟨a0,by omega⟩,h1,fun i hi hh => h2 i hi (by omega)⟩)
 have e : w64 ((w64 (a + b)).tdiv 2) = (a + b) / 2 := by
  rw [aU (x := a + b) (by omega) (by omega),Int.tdiv_eq_ediv_of_nonneg (by omega),aU (by omega) (by omega)]
 obtain ⟨m,hm⟩ : ∃ m : Nat,(a + b) / 2 = m := ⟨((a + b) / 2).toNat,by omega⟩
 rw [e,hm,eD (show m < xs.length by omega),Option.bind_some,aU (x := (m : Int) + 1) (by omega) (by omega)]
 refine cG (fun hv => aP (.inl ⟨_,rfl,⟨⟨by dsimp only; omega,by dsimp only; omega,b1⟩,fun i hi hh => ?_,h2⟩,by dsimp only; omega⟩)) fun hv => aP (.inl ⟨_,rfl,⟨⟨a0,by dsimp only; omega,by dsimp only; omega⟩,h1,fun i hi hh => ?_⟩,by dsimp only; omega⟩)
 ·dsimp only at hh
  have := oR hs (i := i) (j := m) (by omega) (by omega)
  omega
 ·dsimp only at hh
  have := oR hs (i := m) (j := i) (by omega) hi
  omega
end Go.Proofs.YtgcdbbidmfdonaaGreat
namespace Go.Proofs.YtgcdbbidmfdonaaGreat
set_option linter.unusedVariables false
set_option maxRecDepth 100000
def aB1 (lo hi : Int) (n : Nat) (p : aZ) : Prop := p.teeth.length = n ∧ ∀ t ∈ p.teeth,lo ≤ t ∧ t ≤ hi
def aPx (k : Int) : Nat := if k ≤ 0 then 1 else if k = 1 then 31 else if k = 2 then 961 else 29791
theorem aOl {k : Int} (h0 : 0 ≤ k) (h1 : k < 3) : aPx (k + 1) = 31 * aPx k ∧ aPx k ≤ 961 := by
 have : k = 0 ∨ k = 1 ∨ k = 2 := by omega
 rcases this with rfl | rfl | rfl <;> decide
theorem aLd {lo hi cnt : Int} (l0 : 1 ≤ lo) (lh : lo ≤ hi) (h1 : hi ≤ 120) (sp : hi ≤ lo + 30) (c0 : 0 ≤ cnt) (c1 : cnt ≤ 3) : Ok (iZ lo hi cnt) (fun xs => (1 ≤ xs.length ∧ xs.length ≤ aPx cnt) ∧ ∀ p ∈ xs,aB1 lo hi cnt.toNat p) := by
 unfold iZ
 refine aW (P := fun (xs : List aZ) => (1 ≤ xs.length ∧ xs.length ≤ aPx cnt) ∧ ∀ p ∈ xs,aB1 lo hi cnt.toNat p) ?_ fun v h => aP h
 refine fC (I := fun (s : List aZ × Int) => (0 ≤ s.2 ∧ s.2 ≤ cnt) ∧ (1 ≤ s.1.length ∧ s.1.length ≤ aPx s.2) ∧ ∀ p ∈ s.1,aB1 lo hi s.2.toNat p) (m := fun s => (cnt - s.2).toNat) ?_ _ ⟨⟨by dsimp only; omega,by dsimp only; omega⟩,⟨by simp,by simp [aPx]⟩,fun p hp => by simp at hp; subst hp; exact ⟨rfl,fun t ht => by cases ht⟩⟩ (by dsimp only; omega)
 rintro ⟨xs,k⟩ ⟨⟨k0,k1⟩,⟨x0,x1⟩,xp⟩
 dsimp only at k0 k1 x0 x1 xp ⊢
 refine cG (fun hk => ?_) fun hk => aP (.inr ⟨_,rfl,?_⟩)
 ·obtain ⟨bs,bb⟩ := aOl k0 (show k < 3 by omega)
  refine aW (P := fun (ys : List aZ) => (1 ≤ ys.length ∧ ys.length ≤ aPx (k + 1)) ∧ ∀ p ∈ ys,aB1 lo hi (k + 1).toNat p) ?_ fun v74 h74 => aP (.inl ⟨_,rfl,⟨⟨?_,?_⟩,?_,?_⟩,?_⟩)
  ·refine aW (P := fun (ys : List aZ) => (1 ≤ ys.length ∧ ys.length ≤ aPx (k + 1)) ∧ ∀ p ∈ ys,aB1 lo hi (k + 1).toNat p) ?_ fun v h => aP h
   refine fC (I := fun (s : Int × List aZ) => (0 ≤ s.1 ∧ s.1 ≤ xs.length) ∧ ((s.2.length : Int) ≤ 31 * s.1 ∧ (0 < s.1 → 1 ≤ s.2.length)) ∧ ∀ p ∈ s.2,aB1 lo hi (k + 1).toNat p) (m := fun s => (xs.length - s.1).toNat) ?_ _ ⟨⟨by dsimp only; omega,by dsimp only; omega⟩,⟨by simp,fun h => by simp at h⟩,fun p hp => by cases hp⟩ (by dsimp only; omega)
   rintro ⟨i,ys⟩ ⟨⟨i0,i1⟩,⟨y0,y1⟩,yp⟩
   dsimp only at i0 i1 y0 y1 yp ⊢
   refine cG (fun hin => ?_) fun hin => aP (.inr ⟨_,rfl,⟨y1 (by omega),by omega⟩,yp⟩)
   obtain ⟨n,rfl⟩ : ∃ n : Nat,i = n := ⟨i.toNat,by omega⟩
   have hn : n < xs.length := by omega
   obtain ⟨pl,pt⟩ := xp _ (List.getElem_mem hn)
   simp only [eD hn,Option.bind_some]
   refine aW (P := fun (zs : List aZ) => ((zs.length : Int) ≤ 31 * (n + 1) ∧ 1 ≤ zs.length) ∧ ∀ p ∈ zs,aB1 lo hi (k + 1).toNat p) ?_ fun v72 h72 => aP (.inl ⟨_,rfl,⟨⟨?_,?_⟩,⟨?_,fun _ => h72.1.2⟩,h72.2⟩,?_⟩)
   ·refine aW (P := fun f => lo ≤ f ∧ f ≤ hi) (cG (fun hk0 => ?_) fun _ => aP ⟨Int.le_refl _,lh⟩) fun f hf => ?_
    ·rw [aU (x := k - 1) (by omega) (by omega)]
     refine aW (rO (i := k - 1) (by omega) (by rw [pl]; omega)) fun v58 h58 => aP (pt _ h58.1)
    ·refine fC (I := fun (s : Int × List aZ) => (f ≤ s.1 ∧ s.1 ≤ hi + 1) ∧ ((s.2.length : Int) ≤ 31 * n + (s.1 - f) ∧ (f < s.1 → 1 ≤ s.2.length)) ∧ ∀ p ∈ s.2,aB1 lo hi (k + 1).toNat p) (m := fun s => (hi + 1 - s.1).toNat) ?_ _ ⟨⟨by dsimp only; omega,by dsimp only; omega⟩,⟨by dsimp only; omega,fun h => by dsimp only at h; omega⟩,yp⟩ (by dsimp only; omega)
     rintro ⟨t,zs⟩ ⟨⟨t0,t1⟩,⟨z0,z1⟩,zp⟩
     dsimp only at t0 t1 z0 z1 zp ⊢
     refine cG (fun ht => ?_) fun ht => aP (.inr ⟨_,rfl,⟨by omega,z1 (by omega)⟩,zp⟩)
     rw [zI (by omega),Option.bind_some]
     refine jL (by simp; omega) (jL (by simp; omega) (aP (.inl ⟨_,rfl,⟨⟨?_,?_⟩,⟨?_,fun _ => by simp⟩,?_⟩,?_⟩)))
     all_goals (dsimp only; try rw [aU (x := t + 1) (by omega) (by omega)])
     ·omega
     ·omega
     ·simp; omega
     ·intro p hp
      rcases List.mem_append.1 hp with hp | hp
      ·exact zp p hp
      ·rw [List.mem_singleton.1 hp]
       refine ⟨by simp [pl]; omega,fun u hu => ?_⟩
       rcases List.mem_append.1 hu with hu | hu
       ·exact pt u hu
       ·rw [List.mem_singleton.1 hu]; omega
     ·omega
   all_goals (dsimp only; try rw [aU (x := (n : Int) + 1) (by omega) (by omega)])
   ·omega
   ·omega
   ·exact h72.1.1
   ·omega
  all_goals (dsimp only; try rw [aU (x := k + 1) (by omega) (by omega)])
  ·omega
  ·omega
  ·exact h74.1
  ·exact h74.2
  ·omega
 ·rw [show k = cnt by omega] at x1 xp
  exact ⟨⟨x0,x1⟩,xp⟩
theorem aQ3 {a b : List Int} (ha : a.length ≤ 1000) (hab : a.length = b.length) : Ok (pU a b) (fun t => t.length = b.length ∧ ∀ p ∈ t,p.Driver ∈ a ∧ p.Driven ∈ b) := by
 unfold pU
 refine aW (aOo ha) fun v1 h1 => aW (aOo (show b.length ≤ 1000 by omega)) fun v2 h2 => ?_
 have l1 := h1.1.length_eq
 have l2 := h2.1.length_eq
 refine aW (P := fun (t : List dW) => t.length = b.length ∧ ∀ p ∈ t,p.Driver ∈ a ∧ p.Driven ∈ b) ?_ fun t h => aP h
 refine fC (I := fun (s : Int × List dW) => (0 ≤ s.1 ∧ s.1 ≤ v2.length) ∧ (s.2.length : Int) = s.1 ∧ ∀ p ∈ s.2,p.Driver ∈ a ∧ p.Driven ∈ b) (m := fun s => (v2.length - s.1).toNat) ?_ _ ⟨⟨by dsimp only; omega,by dsimp only; omega⟩,by simp,fun p hp => by cases hp⟩ (by dsimp only; omega)
 rintro ⟨i,out⟩ ⟨⟨i0,i1⟩,il,ip⟩
 dsimp only at i0 i1 il ip ⊢
 refine cG (fun hi => ?_) fun hi => aP (.inr ⟨_,rfl,by omega,ip⟩)
 rw [aU (x := (v1.length : Int) - 1) (by omega) (by omega),aU (x := (v1.length : Int) - 1 - i) (by omega) (by omega)]
 refine aW (rO (i := (v1.length : Int) - 1 - i) (by omega) (by omega)) fun v8 h8 => aW (rO (i := i) i0 hi) fun v9 h9 => jL (by simp; omega) (aP (.inl ⟨_,rfl,⟨⟨?_,?_⟩,?_,?_⟩,?_⟩))
 all_goals (dsimp only; try rw [aU (x := i + 1) (by omega) (by omega)])
 ·omega
 ·omega
 ·simp; omega
 ·intro p hp
  rcases List.mem_append.1 hp with hp | hp
  ·exact ip p hp
  ·rw [List.mem_singleton.1 hp]
   exact ⟨h1.1.mem_iff.1 h8.1,h2.1.mem_iff.1 h9.1⟩
 ·omega
theorem aRg {t : List dW} (hl : t.length ≤ 1000) : Ok (qT t) (fun _ => True) := by
 unfold qT
 refine aW (P := fun _ => True) ?_ fun v _ => aP trivial
 refine fC (I := fun (s : Int × Int) => 0 ≤ s.2 ∧ s.2 ≤ t.length) (m := fun s => (t.length - s.2).toNat) ?_ _ ⟨by dsimp only; omega,by dsimp only; omega⟩ (by dsimp only; omega)
 rintro ⟨k,i⟩ ⟨i0,i1⟩
 dsimp only at i0 i1 ⊢
 refine cG (fun hi => ?_) fun hi => aP (.inr ⟨_,rfl,trivial⟩)
 refine aW (rO i0 hi) fun v5 _ => aW (rO i0 hi) fun v6 _ => aP (.inl ⟨_,rfl,⟨?_,?_⟩,?_⟩)
 all_goals (dsimp only; rw [aU (x := i + 1) (by omega) (by omega)]; omega)
theorem aN5 {t : List dW} (hl : t.length ≤ 1000) (v : Int) {step : Int × List Int → Option ((Int × List Int) ⊕ List Int)} (hstep : ∀ s,step s = if s.1 < (t.length : Int) then ((atI t s.1).bind fun v8 => ((atI t s.1).bind fun v9 => (chk ((s.2.length + [v8.Driver,v9.Driven].length) * 1 * 64 ≤ 140737488355328) (some (.inl (w64 (s.1 + 1),s.2 ++ [v8.Driver,v9.Driven])))))) else some (.inr s.2)) : Ok (cM step (0,[v])) (fun xs => xs.length ≤ 3000) := by
 refine fC (I := fun (s : Int × List Int) => (0 ≤ s.1 ∧ s.1 ≤ t.length) ∧ (s.2.length : Int) = 1 + 2 * s.1) (m := fun s => (t.length - s.1).toNat) ?_ _ ⟨⟨by dsimp only; omega,by dsimp only; omega⟩,by simp⟩ (by dsimp only; omega)
 rintro ⟨i,xs⟩ ⟨⟨i0,i1⟩,il⟩
 dsimp only at i0 i1 il ⊢
 rw [hstep]
 dsimp only
 refine cG (fun hi => ?_) fun hi => aP (.inr ⟨_,rfl,by omega⟩)
 refine aW (rO i0 hi) fun v5 _ => aW (rO i0 hi) fun v6 _ => jL (by simp; omega) (aP (.inl ⟨_,rfl,⟨⟨?_,?_⟩,?_⟩,?_⟩))
 all_goals (dsimp only; try rw [aU (x := i + 1) (by omega) (by omega)])
 ·omega
 ·omega
 ·simp; omega
 ·omega
theorem aMw {a b : List dW} (ha : a.length ≤ 1000) (hb : b.length ≤ 1000) : Ok (lP a b) (fun _ => True) := by
 unfold lP
 refine aW (aRg ha) fun v1 _ => aW (aRg hb) fun v2 _ => ?_
 refine aW (aN5 ha v1 fun s => rfl) fun xs hx => aW (aN5 hb v2 fun s => rfl) fun ys hy => ?_
 refine aW (P := fun _ => True) ?_ fun v33 _ => ?_
 ·refine fC (I := fun (s : Int) => 0 ≤ s ∧ s ≤ xs.length) (m := fun s => (xs.length - s).toNat) ?_ _ ⟨by omega,by omega⟩ (by omega)
  rintro i ⟨i0,i1⟩
  refine aW (P := fun b => b = true → i < xs.length ∧ i < ys.length) (cG (fun h1 => aP fun h2 => ⟨h1,of_decide_eq_true h2⟩) fun _ => aP fun h => by cases h) fun b hb => cG (fun hbt => ?_) fun _ => aP (.inr ⟨_,rfl,trivial⟩)
  obtain ⟨j1,j2⟩ := hb hbt
  refine aW (rO i0 j1) fun v29 _ => aW (rO i0 j2) fun v30 _ => cG (fun _ => aP (.inr ⟨_,rfl,trivial⟩)) fun _ => ?_
  refine aW (rO i0 j1) fun v31 _ => aW (rO i0 j2) fun v32 _ => cG (fun _ => aP (.inr ⟨_,rfl,trivial⟩)) fun _ => aP (.inl ⟨_,rfl,⟨?_,?_⟩,?_⟩)
  all_goals (rw [aU (x := i + 1) (by omega) (by omega)]; omega)
 ·cases v33 with
  | inr z => exact aP trivial
  | inl u =>
   unfold iB oU
   refine aW (P := fun _ => True) ?_ fun _ _ => aP trivial
   simp only [Option.bind_some]
   exact cG (fun _ => aP trivial) fun _ => cG (fun _ => aP trivial) fun _ => aP trivial
def trI (t : List dW) : Prop := t.length = 2 ∧ ∀ p ∈ t,(60 ≤ p.Driver ∧ p.Driver ≤ 84) ∧ 7 ≤ p.Driven ∧ p.Driven ≤ 10
theorem aOx {s : fJ} (r : aK) {a b : aZ} (ha : aB1 60 84 2 a) (hb : aB1 7 10 2 b) (hs : s.train = [] ∨ trI s.train) : Ok (hP s r a b) (fun s' => trI s'.train) := by
 unfold hP
 refine aW (P := fun _ => True) (by unfold iG; exact cG (fun _ => aP trivial) fun _ => aP trivial) fun v1 _ => ?_
 have hg : s.train ≠ [] → trI s.train := fun h => hs.resolve_left h
 have hl : s.train.length ≤ 2 := by
  rcases hs with h | h
  ·rw [h]; simp
  ·rw [h.1]; omega
 refine aW (P := fun b => b = true → s.train ≠ []) (cG (fun h => aP fun _ e => by rw [e] at h; simp at h) fun _ => aP fun h => by cases h) fun v2 h2 => cG (fun h => aP (hg (h2 h))) fun _ => ?_
 refine aW (aQ3 (a := a.teeth) (b := b.teeth) (by rw [ha.1]; omega) (by rw [ha.1,hb.1])) fun t ht => ?_
 have hT : trI t := ⟨by rw [ht.1,hb.1],fun p hp => ⟨ha.2 _ (ht.2 p hp).1,hb.2 _ (ht.2 p hp).2⟩⟩
 refine aW (P := fun b => b = false → s.train ≠ []) ?_ fun v5 h5 => cG (fun _ => aP hT) fun h => aP (hg (h5 (by simpa using h)))
 refine cG (fun _ => aP fun h => by cases h) fun hne => ?_
 have hne' : s.train ≠ [] := fun e => hne (by rw [e]; rfl)
 refine cG (fun _ => aP fun _ => hne') fun _ => aW (aMw (by rw [hT.1]; omega) (by omega)) fun v4 _ => aP fun _ => hne'
theorem aPd {r : aK} (hr : r.Num ≠ 0) : Ok (nR r ⟨60,84,7,10,2⟩) trI := by
 unfold nR
 refine aW (aLd (lo := 60) (hi := 84) (cnt := 2) (by decide) (by decide) (by decide) (by decide) (by decide) (by decide)) fun v1 h1 => ?_
 refine aW (aLd (lo := 7) (hi := 10) (cnt := 2) (by decide) (by decide) (by decide) (by decide) (by decide) (by decide)) fun v2 h2 => ?_
 have e2 : aPx 2 = 961 := by decide
 rw [e2] at h1 h2
 refine aW (aSu (by omega)) fun v3 h3 => ?_
 have l3 := h3.1.length_eq
 have p3 : ∀ p ∈ v3,aB1 7 10 2 p := fun p hp => h2.2 p (h3.1.mem_iff.1 hp)
 have p1 : ∀ p ∈ v1,aB1 60 84 2 p := h1.2
 refine aW (P := fun (s : fJ) => trI s.train) ?_ fun v70 h70 => aP h70
 refine fC (I := fun (s : Int × fJ) => (0 ≤ s.1 ∧ s.1 ≤ v1.length) ∧ (s.2.train = [] ∨ trI s.2.train) ∧ (0 < s.1 → trI s.2.train)) (m := fun s => (v1.length - s.1).toNat) ?_ _ ⟨⟨by dsimp only; omega,by dsimp only; omega⟩,.inl rfl,fun h => by dsimp only at h; omega⟩ (by dsimp only; omega)
 rintro ⟨i,s⟩ ⟨⟨i0,i1⟩,hs,hp⟩
 dsimp only at i0 i1 hs hp ⊢
 refine cG (fun hi => ?_) fun hi => aP (.inr ⟨_,rfl,hp (by omega)⟩)
 obtain ⟨n,rfl⟩ : ∃ n : Nat,i = n := ⟨i.toNat,by omega⟩
 have hn : n < v1.length := by omega
 have pn := p1 _ (List.getElem_mem hn)
 simp only [eD hn,Option.bind_some]
 refine aW (P := fun (s : fJ) => trI s.train) ?_ fun v69 h69 => aP (.inl ⟨_,rfl,⟨⟨?_,?_⟩,.inr h69,fun _ => h69⟩,?_⟩)
 ·refine jL hr (aW (aRa h3.2 (by omega) _) fun k hk => ?_)
  obtain ⟨⟨k0,k1⟩,_⟩ := hk
  refine aW (P := fun (s : fJ) => (s.train = [] ∨ trI s.train) ∧ (0 < k → trI s.train)) ?_ fun v54 h54 => ?_
  ·refine cG (fun hk => ?_) fun hk => aP ⟨hs,fun h => absurd h hk⟩
   rw [aU (x := k - 1) (by omega) (by omega)]
   obtain ⟨q,hq⟩ : ∃ q : Nat,k - 1 = q := ⟨(k - 1).toNat,by omega⟩
   have hq1 : q < v3.length := by omega
   rw [hq,eD hq1,Option.bind_some]
   refine aR6 (P := fun (s : fJ) => trI s.train) ?_ fun s h => ⟨.inr h,fun _ => h⟩
   refine fC (I := fun (x : Int × fJ) => (-1 ≤ x.1 ∧ x.1 ≤ q) ∧ (x.2.train = [] ∨ trI x.2.train) ∧ (x.1 < q → trI x.2.train)) (m := fun x => (x.1 + 1).toNat) ?_ _ ⟨⟨by dsimp only; omega,by dsimp only; omega⟩,hs,fun h => by dsimp only at h; omega⟩ (by dsimp only; omega)
   rintro ⟨j,u⟩ ⟨⟨j0,j1⟩,hu,hg⟩
   dsimp only at j0 j1 hu hg ⊢
   by_cases hj : 0 ≤ j
   ·obtain ⟨m,rfl⟩ : ∃ m : Nat,j = m := ⟨j.toNat,by omega⟩
    have hm : m < v3.length := by omega
    rw [if_pos hj]
    simp only [eD hm,Option.bind_some]
    refine cG (fun _ => aW (aOx r pn (p3 _ (List.getElem_mem hm)) hu) fun w hw => aP (.inl ⟨_,rfl,⟨⟨?_,?_⟩,.inr hw,fun _ => hw⟩,?_⟩)) fun hne => aP (.inr ⟨_,rfl,?_⟩)
    ·dsimp only; rw [aU (x := (m : Int) - 1) (by omega) (by omega)]; omega
    ·dsimp only; rw [aU (x := (m : Int) - 1) (by omega) (by omega)]; omega
    ·dsimp only; rw [aU (x := (m : Int) - 1) (by omega) (by omega)]; omega
    ·rcases Int.lt_or_le (m : Int) q with h | h
     ·exact hg h
     ·have : m = q := by omega
      subst this
      simp at hne
   ·rw [if_neg hj,Option.bind_some,if_neg (by decide)]
    exact aP (.inr ⟨_,rfl,hg (by omega)⟩)
  ·refine fC (I := fun (x : Int × fJ) => (k ≤ x.1 ∧ x.1 ≤ v3.length) ∧ (x.2.train = [] ∨ trI x.2.train) ∧ (0 < k → trI x.2.train) ∧ (k < x.1 → trI x.2.train)) (m := fun x => (v3.length - x.1).toNat) ?_ _ ⟨⟨by dsimp only; omega,by dsimp only; omega⟩,h54.1,h54.2,fun h => by dsimp only at h; omega⟩ (by dsimp only; omega)
   rintro ⟨j,u⟩ ⟨⟨j0,j1⟩,hu,hg,hg2⟩
   dsimp only at j0 j1 hu hg hg2 ⊢
   by_cases hj : j < v3.length
   ·obtain ⟨m,rfl⟩ : ∃ m : Nat,j = m := ⟨j.toNat,by omega⟩
    obtain ⟨q,rfl⟩ : ∃ q : Nat,k = q := ⟨k.toNat,by omega⟩
    have hm : m < v3.length := by omega
    have hq : q < v3.length := by omega
    rw [if_pos hj]
    simp only [eD hm,eD hq,Option.bind_some]
    refine cG (fun _ => aW (aOx r pn (p3 _ (List.getElem_mem hm)) hu) fun w hw => aP (.inl ⟨_,rfl,⟨⟨?_,?_⟩,.inr hw,fun _ => hw,fun _ => hw⟩,?_⟩)) fun hne => aP (.inr ⟨_,rfl,?_⟩)
    ·dsimp only; rw [aU (x := (m : Int) + 1) (by omega) (by omega)]; omega
    ·dsimp only; rw [aU (x := (m : Int) + 1) (by omega) (by omega)]; omega
    ·dsimp only; rw [aU (x := (m : Int) + 1) (by omega) (by omega)]; omega
    ·rcases Int.lt_or_le (q : Int) m with h | h
     ·exact hg2 h
     ·have : m = q := by omega
      subst this
      simp at hne
   ·rw [if_neg hj,Option.bind_some,if_neg (by decide)]
    refine aP (.inr ⟨_,rfl,?_⟩)
    rcases Int.lt_or_le k j with h | h
    ·exact hg2 h
    ·exact hg (by omega)
 all_goals (dsimp only; rw [aU (x := (n : Int) + 1) (by omega) (by omega)]; omega)
end Go.Proofs.YtgcdbbidmfdonaaGreat
namespace Go.Proofs.YtgcdbbidmfdonaaGreat
set_option linter.unusedVariables false
set_option maxRecDepth 100000
def aPk : ByteArray := ⟨#[99,101,110,116,101,114]⟩
def aRn : ByteArray := ⟨#[116,104,105,114,100]⟩
def aN0 : ByteArray := ⟨#[101,115,99,97,112,101]⟩
def aN9 : ByteArray := ⟨#[109,105,110,117,116,101]⟩
def aUb : ByteArray := ⟨#[104,111,117,114]⟩
def wkT (a b c d : Int) : bJ := ⟨[⟨aPk,[a,12]⟩,⟨aRn,[b,c]⟩,⟨aN0,[d]⟩,⟨aN9,[36,10]⟩,⟨aUb,[40]⟩],[⟨0,0,1,0⟩,⟨1,1,2,0⟩,⟨0,1,3,0⟩,⟨3,1,4,0⟩]⟩
def v1T (a b : Int) : aK := (gI ⟨1,1⟩ a b).1
def v2T (a b c d : Int) : aK := (gI (v1T a b) c d).1
def tth (t : Int) : Prop := 6 ≤ t ∧ t ≤ 240
theorem aTn {a b c d : Int} (ha : tth a) (hb : tth b) (hc : tth c) (hd : tth d) : aAo (wkT a b c d) = true := by
 have n1 : mH aPk = true := by decide
 have n2 : mH aRn = true := by decide
 have n3 : mH aN0 = true := by decide
 have n4 : mH aN9 = true := by decide
 have n5 : mH aUb = true := by decide
 have t : ∀ x,tth x → iL x = true := fun x h => decide_eq_true h
 have ta := t a ha
 have tb := t b hb
 have tc := t c hc
 have td := t d hd
 have q1 : iL 12 = true := by decide
 have q2 : iL 36 = true := by decide
 have q3 : iL 10 = true := by decide
 have q4 : iL 40 = true := by decide
 refine mA.2 ⟨by simp [wkT],by simp [wkT],fun i hi => ?_,fun i hi => ?_⟩
 ·have : i = 0 ∨ i = 1 ∨ i = 2 ∨ i = 3 ∨ i = 4 := by simp [wkT] at hi; omega
  rcases this with rfl | rfl | rfl | rfl | rfl
  ·exact ⟨by simp [aFf,wkT,n1,ta,q1],rfl⟩
  ·exact ⟨by simp [aFf,wkT,n2,tb,tc],rfl⟩
  ·exact ⟨by simp [aFf,wkT,n3,td],rfl⟩
  ·exact ⟨by simp [aFf,wkT,n4,q2,q3],rfl⟩
  ·exact ⟨by simp [aFf,wkT,n5,q4],rfl⟩
 ·have : i = 0 ∨ i = 1 ∨ i = 2 ∨ i = 3 := by simp [wkT] at hi; omega
  rcases this with rfl | rfl | rfl | rfl
  ·exact ⟨jM.2 ⟨by simp [wkT],rfl,rfl⟩,rfl⟩
  ·exact ⟨jM.2 ⟨by simp [wkT],rfl,rfl⟩,rfl⟩
  ·exact ⟨jM.2 ⟨by simp [wkT],rfl,rfl⟩,rfl⟩
  ·exact ⟨jM.2 ⟨by simp [wkT],rfl,rfl⟩,rfl⟩
theorem aPw {a b c d : Int} (ha : tth a) (hb : tth b) (hc : tth c) (hd : tth d) (h1 : (gI ⟨1,1⟩ a b).2 = true) (h2 : (gI (v1T a b) c d).2 = true) : gE (wkT a b c d) 0 = ([⟨1,1⟩,v1T a b,v2T a b c d,⟨-1,3⟩,⟨1,12⟩],0) := by
 have k0 : KnR ⟨1,1⟩ := ⟨by decide,by decide⟩
 have k1 : KnR (v1T a b) := iW k0 ha.1 ha.2 hb.1 hb.2 h1
 have k2 : KnR (v2T a b c d) := iW k1 hc.1 hc.2 hd.1 hd.2 h2
 have d1 := k1.den
 have d2 := k2.den
 have e3 : gI ⟨1,1⟩ 12 36 = (⟨-1,3⟩,true) := by decide
 have e4 : gI ⟨-1,3⟩ 10 40 = (⟨1,12⟩,true) := by decide
 have f1 : gI ⟨1,1⟩ a b = (v1T a b,true) := Prod.ext rfl h1
 have f2 : gI (v1T a b) c d = (v2T a b c d,true) := Prod.ext rfl h2
 have hO : ((0 : Int) = 0) = True := by simp
 have p1 : eS (wkT a b c d) ⟨0,0,1,0⟩ = ⟨a,b⟩ := rfl
 have p2 : eS (wkT a b c d) ⟨1,1,2,0⟩ = ⟨c,d⟩ := rfl
 have p3 : eS (wkT a b c d) ⟨0,1,3,0⟩ = ⟨12,36⟩ := rfl
 have p4 : eS (wkT a b c d) ⟨3,1,4,0⟩ = ⟨10,40⟩ := rfl
 generalize hw : wkT a b c d = w at *
 generalize v1T a b = v1 at *
 generalize v2T a b c d = v2 at *
 have s1 : lF w ⟨0,0,1,0⟩ (false,[⟨1,1⟩,⟨0,0⟩,⟨0,0⟩,⟨0,0⟩,⟨0,0⟩]) = .inl (true,[⟨1,1⟩,v1,⟨0,0⟩,⟨0,0⟩,⟨0,0⟩]) := by simp [lF,kH,p1,f1]
 have s2 : lF w ⟨1,1,2,0⟩ (true,[⟨1,1⟩,v1,⟨0,0⟩,⟨0,0⟩,⟨0,0⟩]) = .inl (true,[⟨1,1⟩,v1,v2,⟨0,0⟩,⟨0,0⟩]) := by simp [lF,kH,p2,f2,d1]
 have s3 : lF w ⟨0,1,3,0⟩ (true,[⟨1,1⟩,v1,v2,⟨0,0⟩,⟨0,0⟩]) = .inl (true,[⟨1,1⟩,v1,v2,⟨-1,3⟩,⟨0,0⟩]) := by simp [lF,kH,p3,e3]
 have s4 : lF w ⟨3,1,4,0⟩ (true,[⟨1,1⟩,v1,v2,⟨-1,3⟩,⟨0,0⟩]) = .inl (true,[⟨1,1⟩,v1,v2,⟨-1,3⟩,⟨1,12⟩]) := by simp [lF,kH,p4,e4]
 have u1 : lF w ⟨0,0,1,0⟩ (false,[⟨1,1⟩,v1,v2,⟨-1,3⟩,⟨1,12⟩]) = .inl (false,[⟨1,1⟩,v1,v2,⟨-1,3⟩,⟨1,12⟩]) := by simp [lF,kH,d1]
 have u2 : lF w ⟨1,1,2,0⟩ (false,[⟨1,1⟩,v1,v2,⟨-1,3⟩,⟨1,12⟩]) = .inl (false,[⟨1,1⟩,v1,v2,⟨-1,3⟩,⟨1,12⟩]) := by simp [lF,kH,d1,d2]
 have u3 : lF w ⟨0,1,3,0⟩ (false,[⟨1,1⟩,v1,v2,⟨-1,3⟩,⟨1,12⟩]) = .inl (false,[⟨1,1⟩,v1,v2,⟨-1,3⟩,⟨1,12⟩]) := by simp [lF,kH]
 have u4 : lF w ⟨3,1,4,0⟩ (false,[⟨1,1⟩,v1,v2,⟨-1,3⟩,⟨1,12⟩]) = .inl (false,[⟨1,1⟩,v1,v2,⟨-1,3⟩,⟨1,12⟩]) := by simp [lF,kH]
 have wm : w.Meshes = [⟨0,0,1,0⟩,⟨1,1,2,0⟩,⟨0,1,3,0⟩,⟨3,1,4,0⟩] := by rw [← hw]; rfl
 have r1 : jP w w.Meshes (false,[⟨1,1⟩,⟨0,0⟩,⟨0,0⟩,⟨0,0⟩,⟨0,0⟩]) = .inl (true,[⟨1,1⟩,v1,v2,⟨-1,3⟩,⟨1,12⟩]) := by
  rw [wm]; simp only [jP,s1,s2,s3,s4]
 have r2 : jP w w.Meshes (false,[⟨1,1⟩,v1,v2,⟨-1,3⟩,⟨1,12⟩]) = .inl (false,[⟨1,1⟩,v1,v2,⟨-1,3⟩,⟨1,12⟩]) := by
  rw [wm]; simp only [jP,u1,u2,u3,u4]
 have hs : start w 0 = [⟨1,1⟩,⟨0,0⟩,⟨0,0⟩,⟨0,0⟩,⟨0,0⟩] := by rw [← hw]; rfl
 have hn : vE (start w 0) = 4 := by rw [hs]; rfl
 have hi : yP w 0 = true := by rw [← hw]; rfl
 have hp : iM w (vE (start w 0) + 1) (start w 0) = .inl [⟨1,1⟩,v1,v2,⟨-1,3⟩,⟨1,12⟩] := by
  rw [hn,hs]
  show (match jP w w.Meshes (false,[⟨1,1⟩,⟨0,0⟩,⟨0,0⟩,⟨0,0⟩,⟨0,0⟩]) with
   | .inr u => .inr u
   | .inl (true,sp') => iM w 4 sp'
   | .inl (false,sp') => .inl sp' : List aK ⊕ Unit) = _
  rw [r1]
  show (match jP w w.Meshes (false,[⟨1,1⟩,v1,v2,⟨-1,3⟩,⟨1,12⟩]) with
   | .inr u => .inr u
   | .inl (true,sp') => iM w 3 sp'
   | .inl (false,sp') => .inl sp' : List aK ⊕ Unit) = _
  rw [r2]
 unfold gE
 rw [if_pos hi,hp]
 have hz : ([⟨1,1⟩,v1,v2,⟨-1,3⟩,⟨1,12⟩] : List aK).any (fun r => decide (r.Den = 0)) = false := by simp [d1,d2]
 have hf : w.Meshes.all (aPs w [⟨1,1⟩,v1,v2,⟨-1,3⟩,⟨1,12⟩]) = true := by
  rw [wm]; simp [aPs,kH,p1,p2,p3,p4,f1,f2,e3,e4]
 dsimp only
 rw [hz,if_neg (by decide),if_pos hf]
theorem aNe {n d : Int} (hd : 0 < d) (h : (mkR n d).2 = true) : (mkR n d).1.Num * d = n * (mkR n d).1.Den := by
 unfold mkR at h ⊢
 split at h
 ·cases h
 ·rename_i hc
  rw [if_neg hc]
  have hg : 0 < Int.gcd n d := uW (by omega)
  obtain ⟨x,hx⟩ := Int.gcd_dvd_left n d
  obtain ⟨y,hy⟩ := Int.gcd_dvd_right n d
  generalize (Int.gcd n d) = g at *
  have hg' : (g : Int) ≠ 0 := by omega
  have ed : kJ d = (g : Int) * y := by unfold kJ; omega
  dsimp only
  rw [ed,Int.mul_ediv_cancel_left _ hg',decide_eq_false (show ¬ d < 0 by omega)]
  by_cases hn : n < 0
  ·have en : kJ n = (g : Int) * (-x) := by rw [Int.mul_neg]; unfold kJ; omega
   rw [decide_eq_true hn,en,Int.mul_ediv_cancel_left _ hg']
   simp only [bne_iff_ne,ne_eq,Bool.true_eq_false,not_false_eq_true,if_true,Int.neg_neg]
   rw [hy,hx,Int.mul_comm (g : Int) x,Int.mul_comm (g : Int) y,Int.mul_assoc,Int.mul_comm (g : Int) y]
  ·have en : kJ n = (g : Int) * x := by unfold kJ; omega
   rw [decide_eq_false hn,en,Int.mul_ediv_cancel_left _ hg']
   simp only [bne_self_eq_false,Bool.false_eq_true,if_false]
   grind
def mvT (nm : ByteArray) (a b c d teeth beats : Int) (cal : aA) (cam : List Int) (st : Int) : aX := ⟨nm,wkT a b c d,0,4,2,teeth,beats,cal,cam,st⟩
theorem aRk {nm : ByteArray} {a b c d teeth beats : Int} {cal : aA} {cam : List Int} {st : Int} (hn : mH nm = true) (ha : tth a) (hb : tth b) (hc : tth c) (hd : tth d) (ht : tth teeth) (h0 : 1 ≤ beats ∧ beats ≤ 36000) (hk : vK cal cam = 0) (hs : 0 ≤ st ∧ st ≤ 2) : vL (mvT nm a b c d teeth beats cal cam st) = true := by
 obtain ⟨k1,k2,k3,_⟩ := kD hk
 have e1 : iL teeth = true := decide_eq_true ht
 have e2 : btw beats 1 36000 = true := decide_eq_true h0
 have e3 : btw st 0 2 = true := decide_eq_true hs
 have e4 := aTn ha hb hc hd
 unfold vL mvT
 simp only [hn,e1,e2,e3,e4,k1,k2,Bool.and_true,Bool.true_and]
 rfl
theorem aHr {nm : ByteArray} {a b c d teeth beats : Int} {cal : aA} {cam : List Int} {st : Int} (ha : tth a) (hb : tth b) (hc : tth c) (hd : tth d) (ht : tth teeth) (h0 : 1 ≤ beats ∧ beats ≤ 36000) (hk : vK cal cam = 0) (h1 : (gI ⟨1,1⟩ a b).2 = true) (h2 : (gI (v1T a b) c d).2 = true) (he : 2 * teeth * kJ (v2T a b c d).Num = beats * (v2T a b c d).Den) : gV (mvT nm a b c d teeth beats cal cam st) = [] := by
 obtain ⟨k1,k2,k3,_⟩ := kD hk
 have k0 : KnR ⟨1,1⟩ := ⟨by decide,by decide⟩
 have kv1 : KnR (v1T a b) := iW k0 ha.1 ha.2 hb.1 hb.2 h1
 have kv2 : KnR (v2T a b c d) := iW kv1 hc.1 hc.2 hd.1 hd.2 h2
 obtain ⟨g0,g1,g2,g3⟩ := xS kv2.1
 have hsp := aPw ha hb hc hd h1 h2
 obtain ⟨t0,t1⟩ := ht
 obtain ⟨b0,b1⟩ := h0
 have hab : 0 ≤ kJ (v2T a b c d).Num ∧ kJ (v2T a b c d).Num ≤ 1000000000 := by unfold kJ; omega
 have q1 : 0 ≤ beats * (v2T a b c d).Den := Int.mul_nonneg (by omega) (by omega)
 have q2 : beats * (v2T a b c d).Den ≤ 36000 * 1000000000 := Int.mul_le_mul b1 g1 (by omega) (by omega)
 unfold gV mvT
 dsimp only
 rw [hsp]
 dsimp only
 rw [if_pos rfl,if_pos k3]
 have hbe : aHv ⟨nm,wkT a b c d,0,4,2,teeth,beats,cal,cam,st⟩ (v2T a b c d) = true := by
  unfold aHv
  dsimp only
  rw [aU (x := 2 * teeth) (by omega) (by omega),he]
  exact decide_eq_true rfl
 have e1 : kH [⟨1,1⟩,v1T a b,v2T a b c d,⟨-1,3⟩,⟨1,12⟩] 4 = ⟨1,12⟩ := rfl
 have e2 : kH [⟨1,1⟩,v1T a b,v2T a b c d,⟨-1,3⟩,⟨1,12⟩] 2 = v2T a b c d := rfl
 rw [e1,e2,if_pos rfl,if_pos hbe]
 rfl
end Go.Proofs.YtgcdbbidmfdonaaGreat
namespace Go.Proofs.YtgcdbbidmfdonaaGreat
set_option linter.unusedVariables false
set_option maxRecDepth 100000
theorem aCd {s : ByteArray} (h : mH s = true) : smS s := by
 unfold mH at h
 simp only [Bool.and_eq_true,decide_eq_true_eq] at h
 unfold smS; omega
theorem aLc {c : aA} (h : mV c = true) : yS c := by
 obtain ⟨h1,h2,h3,h4,h5,h6,h7⟩ := dT h
 refine ⟨aCd h1,⟨by omega,fun m hm => ⟨?_,trivial,trivial⟩⟩,⟨by omega,fun _ _ => ⟨trivial,trivial,trivial⟩⟩,trivial⟩
 obtain ⟨i,hi,rfl⟩ := List.getElem_of_mem hm
 have := xC.1 h5 i hi
 rw [Bool.and_eq_true] at this
 have q := this.1
 unfold aPe at q
 rw [Bool.and_eq_true] at q
 exact aCd q.1
theorem aO5 {m : aX} (h : vL m = true) : iJ m := by
 have hc := sT h
 obtain ⟨hw,_⟩ := aGh h
 have hn : mH m.Name = true := by unfold vL at h; rw [Bool.and_eq_true] at h; exact h.1
 obtain ⟨w1,w2,w3,w4⟩ := mA.1 hw
 refine ⟨aCd hn,⟨⟨by omega,fun a ha => ?_⟩,⟨by omega,fun _ _ => ⟨trivial,trivial,trivial,trivial⟩⟩⟩,trivial,trivial,trivial,trivial,trivial,aLc hc.1,⟨by have := (lE hc.2).2.2; omega,fun _ _ => trivial⟩,trivial⟩
 have q := aOs hw a ha
 unfold aFf at q
 simp only [Bool.and_eq_true,decide_eq_true_eq] at q
 exact ⟨aCd q.2.1,by have := q.2.2; omega,fun _ _ => trivial⟩
def aMg (t : List dW) (v : aK) : Prop := ∃ a b c d : Int,t = [⟨a,b⟩,⟨c,d⟩] ∧ (tth a ∧ tth b ∧ tth c ∧ tth d) ∧ (gI ⟨1,1⟩ a b).2 = true ∧ (gI (v1T a b) c d).2 = true ∧ v = v2T a b c d
theorem aOu {t : List dW} (h : trI t) : ∃ a b c d : Int,t = [⟨a,b⟩,⟨c,d⟩] ∧ tth a ∧ tth b ∧ tth c ∧ tth d := by
 obtain ⟨hl,hp⟩ := h
 match t,hl,hp with
 | [⟨a,b⟩,⟨c,d⟩],_,hp =>
  have h1 := hp ⟨a,b⟩ (by simp)
  have h2 := hp ⟨c,d⟩ (by simp)
  dsimp only at h1 h2
  exact ⟨a,b,c,d,rfl,⟨by omega,by omega⟩,⟨by omega,by omega⟩,⟨by omega,by omega⟩,⟨by omega,by omega⟩⟩
theorem aHc {v : aK} (hv : KnR v) {t u : Int} (ht : tth t) (hu : tth u) : ((fH (w64 (-t)) u).bind fun x => iQ v x.1) = some (gI v t u) := by
 obtain ⟨t0,t1⟩ := ht
 obtain ⟨u0,u1⟩ := hu
 obtain ⟨h1,h2,h3⟩ := wV t0 t1 u0 u1
 rw [aU (x := -t) (by omega) (by omega),kQ ⟨by omega,by omega⟩ ⟨by omega,by omega⟩ (by omega),Option.bind_some,uD hv.1 h2]; rfl
theorem aQ4 {t : List dW} (h : trI t) : Ok (pG t) (fun r => r.2 = true → aMg t r.1) := by
 obtain ⟨a,b,c,d,rfl,ha,hb,hc,hd⟩ := aOu h
 have k0 : KnR ⟨1,1⟩ := ⟨by decide,by decide⟩
 unfold pG iB
 rw [Option.bind_some]
 have key := xE (xs := [(⟨a,b⟩ : dW),⟨c,d⟩]) (X := aK ⊕ (aK × Bool)) (S := Int × aK) (step := fun s7 : Int × aK =>
  (if s7.1 < (([(⟨a,b⟩ : dW),⟨c,d⟩]).length : Int) then ((atI [(⟨a,b⟩ : dW),⟨c,d⟩] s7.1).bind fun v8 => ((atI [(⟨a,b⟩ : dW),⟨c,d⟩] s7.1).bind fun v9 => ((fH (w64 (-v8.Driver)) v9.Driven).bind fun v10 => ((iQ s7.2 v10.1).bind fun v11 => (if (!v11.2) = true then some (.inr (.inr ((⟨0,0⟩ : aK),false))) else some (.inl (w64 (s7.1 + 1),v11.1))))))) else some (.inr (.inl s7.2)))) (fun i s => (i,s)) (fun _ (p : dW) s => ((fH (w64 (-p.Driver)) p.Driven).bind fun x => iQ s x.1).bind fun v11 => (if (!v11.2) = true then some (.inr (.inr ((⟨0,0⟩ : aK),false))) else some (.inl v11.1))) .inl (by simp) (fun i hi s => by
   have hi' : (i : Int) < (([(⟨a,b⟩ : dW),⟨c,d⟩]).length : Int) := by omega
   have hi2 : i < 2 := hi
   simp only [if_pos hi',eD hi,Option.bind_some,aU (x := (i : Int) + 1) (by omega) (by omega)]
   cases hm : fH (w64 (-[(⟨a,b⟩ : dW),⟨c,d⟩][i].Driver)) [(⟨a,b⟩ : dW),⟨c,d⟩][i].Driven with
   | none => rfl
   | some x =>
    simp only [Option.bind_some]
    cases hq : iQ s x.1 with
    | none => rfl
    | some y => simp only [Option.bind_some]; split <;> rfl) (fun s => by simp) (⟨1,1⟩ : aK)
 rw [key]
 simp only [aM7,aHc k0 ha hb,Option.bind_some]
 by_cases h1 : (gI ⟨1,1⟩ a b).2 = true
 ·rw [h1]
  simp only [Bool.not_true,Bool.false_eq_true,if_false,Option.bind_some]
  have k1 : KnR (v1T a b) := iW k0 ha.1 ha.2 hb.1 hb.2 h1
  have e := aHc k1 hc hd
  unfold v1T at e
  rw [e,Option.bind_some]
  by_cases h2 : (gI (gI ⟨1,1⟩ a b).1 c d).2 = true
  ·rw [h2]
   exact aP fun _ => ⟨a,b,c,d,rfl,⟨ha,hb,hc,hd⟩,h1,h2,rfl⟩
  ·rw [Bool.not_eq_true] at h2
   rw [h2]
   exact aP fun h => by cases h
 ·rw [Bool.not_eq_true] at h1
  rw [h1]
  exact aP fun h => by cases h
theorem aPp {t : List dW} {v : aK} (h : aMg t v) : KnR v := by
 obtain ⟨a,b,c,d,rfl,⟨ha,hb,hc,hd⟩,h1,h2,rfl⟩ := h
 exact iW (iW ⟨by decide,by decide⟩ ha.1 ha.2 hb.1 hb.2 h1) hc.1 hc.2 hd.1 hd.2 h2
theorem aSa {t : List dW} (h : trI t) {r : aK} (hr : aEn r = true) : Ok (rB t r) (fun x => (x.2 = true → -1000000000 ≤ x.1.Num ∧ x.1.Num ≤ 1000000000) ∧ (x.2 = true → x.1.Num = 0 → ∃ v,aMg t v ∧ kJ v.Num * r.Den = r.Num * v.Den)) := by
 unfold rB
 refine aW (aQ4 h) fun x hx => cG (fun _ => aP ?_) fun hn => ?_
 ·exact ⟨fun h => (by cases h),fun h => (by cases h)⟩
 have hg := hx (by simpa using hn)
 have hv := aPp hg
 obtain ⟨v0,v1,v2,v3⟩ := xS hv.1
 obtain ⟨r0,r1,r2,r3⟩ := xS hr
 have ha : 0 ≤ kJ x.1.Num ∧ kJ x.1.Num ≤ 1000000000 := by unfold kJ; omega
 rw [sH (by omega) (by omega),Option.bind_some]
 unfold xL wX
 rw [aU (x := -r.Num) (by omega) (by omega),Option.bind_some]
 dsimp only
 have b1 := aDs (a := kJ x.1.Num) (b := r.Den) (A := 1000000000) (B := 1000000000) (by omega) (by omega) (by omega) (by omega)
 have b2 := aDs (a := -r.Num) (b := x.1.Den) (A := 1000000000) (B := 1000000000) (by omega) (by omega) (by omega) (by omega)
 have b3 := aDs (a := x.1.Den) (b := r.Den) (A := 1000000000) (B := 1000000000) (by omega) (by omega) (by omega) (by omega)
 have b4 : x.1.Den * r.Den ≠ 0 := Int.mul_ne_zero (by omega) (by omega)
 rw [aU (x := kJ x.1.Num * r.Den) (by omega) (by omega),aU (x := -r.Num * x.1.Den) (by omega) (by omega),aU (x := _ + _) (by omega) (by omega),aU (x := x.1.Den * r.Den) (by omega) (by omega),kQ ⟨by omega,by omega⟩ ⟨by omega,by omega⟩ b4,Option.bind_some,Option.bind_some]
 refine aP ⟨fun hm => ?_,fun hm h0 => ⟨x.1,hg,?_⟩⟩
 ·have := xS (aCv b4 hm).1
  dsimp only; omega
 ·have := (aCv b4 hm).2.1 h0
  rw [Int.neg_mul] at this
  omega
theorem aTz {t : List dW} (h : trI t) : wL t = some true := by
 obtain ⟨a,b,c,d,rfl,ha,hb,hc,hd⟩ := aOu h
 have q1 : iL a = true := decide_eq_true ha
 have q2 : iL b = true := decide_eq_true hb
 have q3 : iL c = true := decide_eq_true hc
 have q4 : iL d = true := decide_eq_true hd
 unfold wL
 rw [uX (xs := [(⟨a,b⟩ : dW),⟨c,d⟩]) (e := .inr false) (fun _ p => iL p.Driver && iL p.Driven) (by simp) fun i hi => ?_]
 ·have : aHj [(⟨a,b⟩ : dW),⟨c,d⟩] (fun _ p => iL p.Driver && iL p.Driven) = true := by
   rw [xC]
   intro i hi
   have : i = 0 ∨ i = 1 := by simp at hi; omega
   rcases this with rfl | rfl
   ·simp [q1,q2]
   ·simp [q3,q4]
  rw [this]; rfl
 ·rw [eD hi,Option.bind_some]
  unfold uU
  rw [nB,nB]
  simp only [Option.bind_some]
  cases iL [(⟨a,b⟩ : dW),⟨c,d⟩][i].Driver <;> cases iL [(⟨a,b⟩ : dW),⟨c,d⟩][i].Driven <;> rfl
theorem aR1 {r : aK} (hr : aEn r = true) : Ok (nK r ⟨60,84,7,10,2⟩) (fun f => f.2 = 0 → f.1.Error.Num = 0 → ∃ v,aMg f.1.Train v ∧ kJ v.Num * r.Den = r.Num * v.Den) := by
 have el : zR ⟨60,84,7,10,2⟩ = some true := by decide
 unfold nK xA
 rw [aFs,Option.bind_some,hr,el]
 simp only [Bool.not_true,Bool.false_eq_true,if_false,Option.bind_some,eA,itA]
 refine cG (fun _ => aP fun h => by cases h) fun ha => ?_
 have ha : (btw r.Num 1 1000000 && decide (r.Den ≤ 1000000)) = true := by simpa using ha
 rw [Bool.and_eq_true] at ha
 have hn := of_decide_eq_true ha.1
 unfold uA
 refine aW (P := fun f => f.2 = 0 → f.1.Error.Num = 0 → ∃ v,aMg f.1.Train v ∧ kJ v.Num * r.Den = r.Num * v.Den) ?_ fun f hf => aP hf
 refine aW (aPd (r := r) (by omega)) fun t ht => ?_
 unfold uO
 rw [aTz ht,Option.bind_some,aFs,hr]
 simp only [Bool.not_true,Bool.false_eq_true,if_false,Option.bind_some]
 refine aW (P := fun e => e.2 = 0 → e.1.Num = 0 → ∃ v,aMg t v ∧ kJ v.Num * r.Den = r.Num * v.Den) ?_ fun e he => cG (fun hne => aP fun h => absurd h hne) fun h0 => aP fun _ hz => he (by omega) hz
 refine aW (aSa ht hr) fun x hx => cG (fun _ => aP fun h => by cases h) fun hb => ?_
 have hb : x.2 = true := by simpa using hb
 have h1 := hx.1 hb
 rw [sH (by omega) (by omega),Option.bind_some]
 exact aP fun _ hz => hx.2 hb (by dsimp only at hz; unfold kJ at hz; omega)
theorem aUo {c : aA} (h : yS c) : oG c = some c := by
 have h1 := h.2.1.1
 have h2 := h.2.2.1.1
 unfold oG
 rw [fZ (by simp; omega),fZ (by simp; omega)]
 simp
theorem aTq {nm : ByteArray} {beats teeth y : Int} {c : aA} (hn : mH nm = true) (hb : 1 ≤ beats ∧ beats ≤ 36000) (ht : tth teeth) (hc : mV c = true) : Ok (hZ nm beats teeth c y) (fun r => r.2 = 0 → vL r.1 = true ∧ gV r.1 = [] ∧ r.1.Calendar = c) := by
 have hcm := (dT hc).2.1
 have hcr := (dT hc).2.2.1
 have e1 : btw beats 1 36000 = true := decide_eq_true hb
 have e2 : iL teeth = true := decide_eq_true ht
 have ht' := ht
 obtain ⟨t0,t1⟩ := ht'
 unfold hZ
 rw [tQ (by omega) (by omega),Option.bind_some,hc,rK,hn,eA,e1,nB,e2]
 simp only [Bool.not_true,Bool.false_eq_true,if_false,Option.bind_some]
 refine aW (aMa hc y) fun k hk => cG (fun hne => aP fun h => absurd h hne) fun h0 => ?_
 have hask := hk (by omega)
 rw [aU (x := 2 * teeth) (by omega) (by omega),kQ ⟨by omega,by omega⟩ ⟨by omega,by omega⟩ (by omega),Option.bind_some]
 have hs := aHi (n := beats) (d := 2 * teeth) (by omega) (by omega) (by omega) (by omega) (by omega)
 have hr := (aCv (show 2 * teeth ≠ 0 by omega) hs).1
 have hx := aNe (n := beats) (d := 2 * teeth) (by omega) hs
 have hl : qN = some ⟨60,84,7,10,2⟩ := rfl
 rw [hl,Option.bind_some]
 refine aW (aR1 hr) fun f hf => ?_
 refine aW (P := fun b => b = false → f.2 = 0 ∧ f.1.Error.Num = 0) (cG (fun _ => aP fun h => by cases h) fun h => aP fun h2 => ⟨by omega,by have := of_decide_eq_false h2; omega⟩) fun b hbb => cG (fun _ => aP fun h => by cases h) fun hbf => ?_
 obtain ⟨f0,f1⟩ := hbb (by simpa using hbf)
 obtain ⟨v,⟨p,q,s,u,et,⟨hp,hq,hS,hu⟩,m1,m2,rfl⟩,hv⟩ := hf f0 f1
 have ew : mM f.1.Train = some (wkT p q s u) := by rw [et]; rfl
 rw [ew,Option.bind_some,aUo (aLc hc),Option.bind_some]
 have hd := xS hr
 have he : 2 * teeth * kJ (v2T p q s u).Num = beats * (v2T p q s u).Den := by
  refine Int.eq_of_mul_eq_mul_right (a := (mkR beats (2 * teeth)).1.Den) (by omega) ?_
  calc 2 * teeth * kJ (v2T p q s u).Num * (mkR beats (2 * teeth)).1.Den = 2 * teeth * (kJ (v2T p q s u).Num * (mkR beats (2 * teeth)).1.Den) := by rw [Int.mul_assoc]
   _ = 2 * teeth * ((mkR beats (2 * teeth)).1.Num * (v2T p q s u).Den) := by rw [hv]
   _ = ((mkR beats (2 * teeth)).1.Num * (2 * teeth)) * (v2T p q s u).Den := by rw [← Int.mul_assoc,Int.mul_comm (2 * teeth)]
   _ = (beats * (mkR beats (2 * teeth)).1.Den) * (v2T p q s u).Den := by rw [hx]
   _ = beats * (v2T p q s u).Den * (mkR beats (2 * teeth)).1.Den := by rw [Int.mul_assoc,Int.mul_assoc,Int.mul_comm (mkR beats (2 * teeth)).1.Den]
 exact aP fun _ => ⟨aRk hn hp hq hS hu ht hb hask (by omega),aHr hp hq hS hu ht hb hask m1 m2 he,rfl⟩
theorem aOn {m : aX} (h : vL m = true) {st : Int} (hs : 0 ≤ st ∧ st ≤ 2) : vL ⟨m.Name,m.Works,m.Minute,m.Hour,m.Escape,m.Teeth,m.Beats,m.Calendar,m.Cam,st⟩ = true := by
 have e : btw st 0 2 = true := decide_eq_true hs
 unfold vL at h ⊢
 simp only [Bool.and_eq_true] at h ⊢
 obtain ⟨h1,h2,h3,h4,h5,h6,h7,h8,h9,_⟩ := h
 exact ⟨h1,h2,h3,h4,h5,h6,h7,h8,h9,e⟩
theorem aMi {n : Int} {s : bN} (h : lR n s) (hn : n ≤ 10000000) : Ok (lB s) (fun r => vL r.1 = true ∧ gV r.1 = [] ∧ lR (n + 120) r.2) := by
 unfold lB
 refine aW (aMp h (by omega)) fun v1 h1 => aW (xM h1.2 (by omega) (by simp)) fun v2 h2 => aW (xM h2.2 (by omega) (by simp)) fun v3 h3 => aW (kM h3.2 (by omega)) fun v4 h4 => ?_
 have hc := h1.1.1
 have b := h2.1
 have t := h3.1
 simp only [List.mem_cons,List.not_mem_nil,or_false] at b t
 refine aW (aTq (nm := ⟨#[99,108,111,99,107]⟩) (beats := v2.1) (teeth := v3.1) (by decide) (by omega) ⟨by omega,by omega⟩ hc) fun v5 h5 => ?_
 refine aW (P := fun v8 : ByteArray × List cQ × Int × Int × Int × Int × Int × aA × Int × List cH × List Int => vL ⟨v8.1,⟨v8.2.1,v8.2.2.2.2.2.2.2.2.2.1⟩,v8.2.2.1,v8.2.2.2.1,v8.2.2.2.2.1,v8.2.2.2.2.2.1,v8.2.2.2.2.2.2.1,v8.2.2.2.2.2.2.2.1,v8.2.2.2.2.2.2.2.2.2.2,v8.2.2.2.2.2.2.2.2.1⟩ = true ∧ gV ⟨v8.1,⟨v8.2.1,v8.2.2.2.2.2.2.2.2.2.1⟩,v8.2.2.1,v8.2.2.2.1,v8.2.2.2.2.1,v8.2.2.2.2.2.1,v8.2.2.2.2.2.2.1,v8.2.2.2.2.2.2.2.1,v8.2.2.2.2.2.2.2.2.2.2,v8.2.2.2.2.2.2.2.2.1⟩ = []) ?_ fun v8 h8 => ?_
 ·refine cG (fun _ => ?_) fun h0 => aP ?_
  ·have ew : mM [(⟨64,8⟩ : dW),⟨60,8⟩] = some (wkT 64 8 60 8) := rfl
   rw [ew,Option.bind_some]
   refine aW (aQf hc) fun v7 h7 => aP ?_
   have e60 : 2 * 30 * kJ (v2T 64 8 60 8).Num = 3600 * (v2T 64 8 60 8).Den := by decide
   have q : ∀ x : Int,6 ≤ x → x ≤ 240 → tth x := fun x a b => ⟨a,b⟩
   exact ⟨aRk (nm := ⟨#[112,108,97,105,110]⟩) (st := 0) (by decide) (q 64 (by decide) (by decide)) (q 8 (by decide) (by decide)) (q 60 (by decide) (by decide)) (q 8 (by decide) (by decide)) (q 30 (by decide) (by decide)) (beats := 3600) (by decide) h7 (by decide),aHr (nm := ⟨#[112,108,97,105,110]⟩) (st := 0) (q 64 (by decide) (by decide)) (q 8 (by decide) (by decide)) (q 60 (by decide) (by decide)) (q 8 (by decide) (by decide)) (q 30 (by decide) (by decide)) (beats := 3600) (by decide) h7 (by decide) (by decide) e60⟩
  ·have := h5 (by omega)
   exact ⟨this.1,this.2.1⟩
 ·have hst := aCx h8.1
  refine aW (P := fun v : bN × Int => (0 ≤ v.2 ∧ v.2 ≤ 2) ∧ lR (n + 120) v.1) ?_ fun v11 h11 => aP ⟨aOn h8.1 h11.1,h8.2,h11.2⟩
  refine aW (aE4 h4.2.2.2 (by omega)) fun v9 h9 => cG (fun _ => aW (kM h9 (by omega)) fun v10 h10 => aP ⟨⟨h10.1,?_⟩,gC h10.2.2.2 (by omega)⟩) fun _ => aP ⟨hst,gC h9 (by omega)⟩
  have := h10.2.1
  dsimp only; omega
end Go.Proofs.YtgcdbbidmfdonaaGreat
namespace Go.Proofs.YtgcdbbidmfdonaaGreat
set_option linter.unusedVariables false
set_option maxRecDepth 100000
def aSx (s : Int × bN × aFo) : Option ((Int × bN × aFo) ⊕ (bN × aFo)) := if 0 < s.1 then
 ((eR s.2.1 [0,1,3600,86399,86400,1000000,40000]).bind fun v14 => (qP (unS s.2.2) v14.1).bind fun v15 => if v15.2.2 = 0 then some (v14.2,aAi v15.1) else some (v14.2,s.2.2)).bind fun v16 => some (.inl (w64 (s.1 - 1),v16))
 else some (.inr s.2)
theorem aHq (p0 : bN) : nE p0 = (lB p0).bind fun v1 => (lG v1.2 v1.1.Calendar).bind fun v2 => (bR v2.2 v1.1.Calendar.Week).bind fun v3 => (qR v1.1 v2.1 (w64 (1 + v3.1))).bind fun v4 =>
 (if v4.2 ≠ 0 then none else some () : Option Unit).bind fun _ => ((bR v3.2 4).bind fun v8 => cM aSx (v8.1,v8.2,aAi v4.1)).bind fun v17 =>
 ((fG v17.1 4).bind fun v18 => if v18.1 = true then (bR v18.2 3).bind fun v19 => (mC (unS v17.2) (w64 (1 + v19.1))).bind fun v20 => some (v19.2,aAi v20.1) else some (v18.2,v17.2)).bind fun v21 => some (unS v21.2,v21.1) := rfl
def ofM (m : aX) (d : bQ) (w : Int) (s : dO) : Prop := (qI s ∧ aAg s = true) ∧ s.Movement = m ∧ s.Start = d ∧ s.First = w
def xP (m : aX) (d : bQ) (w : Int) : dO := ⟨m,d,w,0,aFu m.Calendar m.Cam d w⟩
theorem aAc {m : aX} (h : vL m = true) (hf : gV m = []) : vK m.Calendar m.Cam = 0 := by
 obtain ⟨c1,c2⟩ := sT h
 rw [aCo c1 c2]
 refine if_pos (Classical.byContradiction fun hn => ?_)
 unfold gV at hf
 rw [if_neg hn] at hf
 exact absurd (List.append_eq_nil_iff.1 hf).2 (by simp)
theorem aLt {m : aX} {d : bQ} {w : Int} (h : vL m = true) (hf : gV m = []) (hd : gK m.Calendar d = true) (h1 : 1 ≤ w) (h2 : w ≤ m.Calendar.Week) : ofM m d w (xP m d w) := by
 have ha := aAc h hf
 have z := aPo (cam := m.Cam) ha hd h1 h2
 have i := aNh (cam := m.Cam) ha hd h1 h2
 have hm := aO5 h
 refine ⟨⟨⟨hm,⟨trivial,trivial,trivial⟩,trivial,trivial,⟨⟨(smC hm).2.2,fun _ _ => trivial⟩,trivial,trivial,trivial,trivial,trivial,trivial⟩⟩,?_⟩,rfl,rfl,rfl⟩
 unfold aAg xP
 dsimp only
 rw [z]
 have q : btw (0 : Int) 0 1000000000 = true := by decide
 simp only [Bool.and_eq_true,decide_eq_true_eq]
 exact ⟨h,hf,trivial,q,i.2,rfl,trivial,trivial,trivial⟩
theorem aT2 {m : aX} {d : bQ} {w : Int} (h : vL m = true) (hf : gV m = []) (hd : gK m.Calendar d = true) (h1 : 1 ≤ w) (h2 : w ≤ m.Calendar.Week) : qR m d w = some (xP m d w,0) := by
 have hm := aO5 h
 have ha := aAc h hf
 obtain ⟨c1,c2,c3⟩ := smC hm
 unfold qR kS
 rw [aFh hm,Option.bind_some,h,xV hm h,hf]
 simp only [Bool.not_true,Bool.false_eq_true,if_false,Option.bind_some]
 rw [if_neg (by simp),oO (by omega) (by omega) c3,aPo ha hd h1 h2,aD0 hm]
 rfl
theorem aM2 {n : Int} {s : bN} (h : lR n s) (hn : n ≤ 1000000) : Ok (nE s) (fun r => ∃ m d w,vL m = true ∧ gV m = [] ∧ gK m.Calendar d = true ∧ (1 ≤ w ∧ w ≤ m.Calendar.Week) ∧ ofM m d w r.1) := by
 rw [aHq]
 refine aW (aMi h (by omega)) fun v1 h1 => ?_
 obtain ⟨m1,m2,m3⟩ := h1
 have hcal := (sT m1).1
 have hwk := (dT hcal).2.2.2.1
 refine aW (aM0 m3 (by omega) hcal) fun v2 h2 => aW (kM h2.2 (by omega)) fun v3 h3 => ?_
 have w0 := h3.1
 have w1 : v3.1 < v1.1.Calendar.Week := by rcases h3.2.1 with q | q <;> omega
 rw [aU (x := 1 + v3.1) (by omega) (by omega),aT2 m1 m2 h2.1 (by omega) (by omega),Option.bind_some,if_neg (by simp),Option.bind_some]
 have hb := aLt m1 m2 h2.1 (w := 1 + v3.1) (by omega) (by omega)
 have key : Ok ((bR v3.2 4).bind fun v8 => cM aSx (v8.1,v8.2,aAi (xP v1.1 v2.1 (1 + v3.1)))) (fun r => (∃ u,r.2 = aAi u ∧ ofM v1.1 v2.1 (1 + v3.1) u) ∧ lR (n + 300) r.1) := by
  refine aW (kM h3.2.2.2 (by omega)) fun v8 h8 => ?_
  have k0 := h8.1
  have k1 : v8.1 < 4 := by rcases h8.2.1 with q | q <;> omega
  refine fC (I := fun s : Int × bN × aFo => (0 ≤ s.1 ∧ s.1 ≤ 3) ∧ (∃ u,s.2.2 = aAi u ∧ ofM v1.1 v2.1 (1 + v3.1) u ∧ u.Clock ≤ 1000000 * (3 - s.1)) ∧ lR (n + 200 + 4 * (3 - s.1)) s.2.1) (m := fun s => s.1.toNat) ?_ _ ⟨⟨by dsimp only; omega,by dsimp only; omega⟩,⟨_,rfl,hb,by show (0 : Int) ≤ 1000000 * (3 - v8.1); omega⟩,gC h8.2.2.2 (by dsimp only; omega)⟩ (by dsimp only; omega)
  rintro ⟨k,src,x⟩ ⟨⟨i0,i1⟩,⟨u,rfl,hu,hc⟩,is⟩
  dsimp only at i0 i1 hc is ⊢
  unfold aSx
  dsimp only
  refine cG (fun hk => ?_) fun _ => aP (.inr ⟨_,rfl,⟨u,rfl,hu⟩,gC is (by omega)⟩)
  refine aW (P := fun r : bN × aFo => (∃ u,r.2 = aAi u ∧ ofM v1.1 v2.1 (1 + v3.1) u ∧ u.Clock ≤ 1000000 * (3 - (k - 1))) ∧ lR (n + 200 + 4 * (3 - (k - 1))) r.1) ?_ fun v16 h16 => aP (.inl ⟨_,rfl,⟨⟨?_,?_⟩,?_,?_⟩,?_⟩)
  ·refine aW (xM is (by omega) (by simp)) fun v14 h14 => ?_
   have hm := h14.1
   simp only [List.mem_cons,List.not_mem_nil,or_false] at hm
   obtain ⟨⟨u1,u2⟩,u3⟩ := hu
   have uc := (uV u2).2.2.2.1
   have hx : unS (aAi u) = u := rfl
   have he := (aPa u1 u2 (k := v14.1) (by omega) (by omega) (by omega)).1
   rw [hx,he,Option.bind_some]
   refine cG (fun _ => aP ⟨⟨_,rfl,⟨⟨aA2 u1 _,aFm u2 (by omega) (by omega)⟩,u3⟩,?_⟩,gC h14.2 (by omega)⟩) fun hne => absurd rfl hne
   show u.Clock + v14.1 ≤ _
   omega
  all_goals (dsimp only; rw [aU (x := k - 1) (by omega) (by omega)])
  ·omega
  ·omega
  ·exact h16.1
  ·exact h16.2
  ·omega
 refine aW key fun v17 h17 => ?_
 obtain ⟨⟨u,e,hu⟩,hs⟩ := h17
 rw [e]
 refine aW (P := fun r : bN × aFo => ∃ u,r.2 = aAi u ∧ ofM v1.1 v2.1 (1 + v3.1) u) ?_ fun v21 h21 => aP ?_
 ·refine aW (aE4 hs (by omega)) fun v18 h18 => cG (fun _ => aW (kM h18 (by omega)) fun v19 h19 => ?_) fun _ => aP ⟨u,rfl,hu⟩
  have p0 := h19.1
  have p1 : v19.1 < 3 := by rcases h19.2.1 with q | q <;> omega
  obtain ⟨⟨u1,u2⟩,u3⟩ := hu
  have uc := (uV u2).2.2.2.1
  have hx : unS (aAi u) = u := rfl
  obtain ⟨p,_,e2,kp,ip⟩ := aSw u1 u2 (k := 1 + v19.1) (by omega) (by omega)
  rw [aU (x := 1 + v19.1) (by omega) (by omega),hx,e2,Option.bind_some]
  exact aP ⟨_,rfl,⟨aRv u1 (by rw [kp.1]; exact u1.2.2.2.2.1.1),aNc u2 uc.1 uc.2 kp ip⟩,u3⟩
 ·obtain ⟨u',e',hu'⟩ := h21
  rw [e']
  exact ⟨v1.1,v2.1,1 + v3.1,m1,m2,h2.1,⟨by omega,by omega⟩,hu'⟩
theorem aQz {c : List Int} (h1 : c.length ≤ 1000000) (h2 : ∀ b ∈ c,0 ≤ b ∧ b ≤ 255) : Ok (wF c) (fun s => ∃ m d w,vL m = true ∧ gV m = [] ∧ gK m.Calendar d = true ∧ (1 ≤ w ∧ w ≤ m.Calendar.Week) ∧ s = xP m d w) := by
 unfold wF
 refine aW (aN8 h1 h2) fun v1 q1 => aW (aM2 q1 (by omega)) fun v2 q2 => ?_
 obtain ⟨m,d,w,a1,a2,a3,⟨a4,a5⟩,⟨_,b1,b2,b3⟩⟩ := q2
 obtain ⟨c1,c2,c3⟩ := smC (aO5 a1)
 rw [b1,b2,b3]
 unfold kS
 rw [oO (by omega) (by omega) c3,aPo (aAc a1 a2) a3 a4 a5,Option.bind_some]
 exact aP ⟨m,d,w,a1,a2,a3,⟨a4,a5⟩,rfl⟩
end Go.Proofs.YtgcdbbidmfdonaaGreat
namespace Go.Proofs.YtgcdbbidmfdonaaGreat
set_option linter.unusedVariables false
set_option maxRecDepth 100000
theorem aMe {c : aA} {cam : List Int} (ha : vK c cam = 0) {y : Int} (y0 : 0 ≤ y) (y1 : y ≤ 9999) : Ok (pA c cam y) (fun xs => xs.length ≤ 20 ∧ (xs = [] → ∀ m : Int,1 ≤ m → m ≤ c.Months.length → cam.getD (lL c cam y m).toNat 0 = nY c (fR c y) (m - 1))) := by
 obtain ⟨hc,hcam,hz,k1,k2⟩ := kD ha
 have hm := (dT hc).2.1
 have hl := (lE hcam).2
 unfold pA
 rw [mB hc y0,Option.bind_some,sI hm.1 (by omega),if_pos hz,Option.bind_some,fZ (by omega)]
 obtain ⟨n1,n2,n3,n4,n5⟩ := uR ha (y := y) (m := 1) (by omega) (by omega)
 have e1 : y.tmod ((cam.length : Int) / c.Months.length) = y % ((cam.length : Int) / c.Months.length) := Int.tmod_eq_emod_of_nonneg y0
 rw [e1,aU (x := _ * _) (by omega) (by omega),fZ (by omega)]
 have hsub : ∀ j : Int,1 ≤ j → j ≤ c.Months.length → atI (xW cam (y % ((cam.length : Int) / c.Months.length) * c.Months.length) (cam.length : Int)) (j - 1) = some (cam.getD (lL c cam y j).toNat 0) := by
  intro j j0 j1
  obtain ⟨q,hq⟩ : ∃ q : Nat,y % ((cam.length : Int) / c.Months.length) * c.Months.length = q := ⟨(y % ((cam.length : Int) / c.Months.length) * c.Months.length).toNat,by omega⟩
  obtain ⟨i,hi⟩ : ∃ i : Nat,j - 1 = i := ⟨(j - 1).toNat,by omega⟩
  have en : (lL c cam y j).toNat = q + i := by unfold lL; omega
  have hlt : q + i < cam.length := by omega
  rw [en,hq,hi]
  unfold atI xW
  rw [if_pos (by omega),List.getD_eq_getElem?_getD,List.getElem?_eq_getElem hlt]
  have e2 : ((i : Int)).toNat = i := by omega
  have e3 : ((q : Int)).toNat = q := by omega
  rw [e2,e3]
  simp [List.getElem?_drop,List.getElem?_take,hlt]
  omega
 refine aW (P := fun xs : List gX => xs.length ≤ 20 ∧ (xs = [] → ∀ m : Int,1 ≤ m → m ≤ c.Months.length → cam.getD (lL c cam y m).toNat 0 = nY c (fR c y) (m - 1))) ?_ fun v h => aP h
 refine fC (I := fun s : Int × List gX => (1 ≤ s.1 ∧ s.1 ≤ c.Months.length + 1) ∧ (s.2.length : Int) ≤ s.1 - 1 ∧ (s.2 = [] → ∀ m : Int,1 ≤ m → m < s.1 → cam.getD (lL c cam y m).toNat 0 = nY c (fR c y) (m - 1))) (m := fun s => (c.Months.length + 1 - s.1).toNat) ?_ _ ⟨⟨by dsimp only; omega,by dsimp only; omega⟩,by simp,fun _ m h1 h2 => by dsimp only at h2; omega⟩ (by dsimp only; omega)
 rintro ⟨j,xs⟩ ⟨⟨j0,j1⟩,jl,jv⟩
 dsimp only at j0 j1 jl jv ⊢
 refine cG (fun hj => ?_) fun hj => aP (.inr ⟨_,rfl,by omega,fun h m h1 h2 => jv h m h1 (by omega)⟩)
 rw [jN hc _ j0 hj,Option.bind_some,aU (x := j - 1) (by omega) (by omega),hsub j j0 hj,Option.bind_some,Option.bind_some]
 refine aW (P := fun zs : List gX => (zs.length : Int) ≤ j ∧ (zs = [] → xs = [] ∧ cam.getD (lL c cam y j).toNat 0 = nY c (fR c y) (j - 1))) ?_ fun zs hz => aP (.inl ⟨_,rfl,⟨⟨?_,?_⟩,?_,?_⟩,?_⟩)
 ·refine cG (fun _ => jL (by simp; omega) (aP ⟨by simp; omega,fun h => absurd h (by simp)⟩)) fun he => aP ⟨by omega,fun h => ⟨h,by simpa using he⟩⟩
 all_goals (dsimp only; rw [aU (x := j + 1) (by omega) (by omega)])
 ·omega
 ·omega
 ·omega
 ·intro h m h1 h2
  obtain ⟨g1,g2⟩ := hz.2 h
  by_cases hm : m = j
  ·rw [hm]; exact g2
  ·exact jv g1 m h1 (by omega)
 ·omega
theorem aDw (y : Int) : lD y = some (btw y 0 9999) := by unfold lD; rw [eF]; rfl
theorem aLz (c : aA) (m : Int) : mF c m = some (btw m 1 c.Months.length) := by unfold mF; rw [eF]; rfl
theorem aHs {c : aA} {cam : List Int} (ha : vK c cam = 0) (a b : Int) : Ok (mZ c cam a b) (fun r => r.2 = 0 → r.1 = [] → aQj c cam a b) := by
 obtain ⟨hc,hcam,hz,k1,k2⟩ := kD ha
 have hm := (dT hc).2
 have hl := (lE hcam).2
 unfold mZ
 rw [zF (by omega) (by omega) (by omega),Option.bind_some,ha,if_neg (by simp),aDw,aDw]
 simp only [Option.bind_some]
 refine aW (P := fun q => q = false → (0 ≤ a ∧ a ≤ 9999) ∧ (0 ≤ b ∧ b ≤ 9999) ∧ a ≤ b) ?_ fun q hq => cG (fun _ => aP fun h => by cases h) fun hn => ?_
 ·refine cG (fun _ => aP fun h => by cases h) fun h1 => cG (fun _ => aP fun h => by cases h) fun h2 => aP fun h3 => ⟨of_decide_eq_true (show btw a 0 9999 = true by simpa using h1),of_decide_eq_true (show btw b 0 9999 = true by simpa using h2),by have := of_decide_eq_false h3; omega⟩
 ·obtain ⟨⟨a0,a1⟩,⟨b0,b1⟩,hab⟩ := hq (by simpa using hn)
  refine aW (P := fun x => (∀ xs,x = .inl xs → xs = [] → aQj c cam a b) ∧ ∀ r : List gX × Int,x = .inr r → r.2 = 5) ?_ fun x hx => ?_
  ·refine fC (I := fun s : Int × List gX => (a ≤ s.1 ∧ s.1 ≤ b + 1) ∧ (s.2.length : Int) ≤ 40 ∧ (s.2 = [] → ∀ y m : Int,a ≤ y → y < s.1 → 1 ≤ m → m ≤ c.Months.length → cam.getD (lL c cam y m).toNat 0 = nY c (fR c y) (m - 1))) (m := fun s => (b + 1 - s.1).toNat) ?_ _ ⟨⟨by dsimp only; omega,by dsimp only; omega⟩,by simp,fun _ y m h1 h2 => by dsimp only at h2; omega⟩ (by dsimp only; omega)
   rintro ⟨y,xs⟩ ⟨⟨j0,j1⟩,jl,jv⟩
   dsimp only at j0 j1 jl jv ⊢
   refine cG (fun hy => ?_) fun hy => aP (.inr ⟨_,rfl,fun zs e h => ?_,fun r e => by cases e⟩)
   ·refine aW (aMe ha (by omega) (by omega)) fun v hv => jL (by omega) (cG (fun _ => aP (.inr ⟨_,rfl,fun zs e => (by cases e),fun r e => (by cases e; rfl)⟩)) fun h40 => aP (.inl ⟨_,rfl,⟨⟨?_,?_⟩,?_,?_⟩,?_⟩))
    all_goals (dsimp only; try rw [aU (x := y + 1) (by omega) (by omega)])
    ·omega
    ·omega
    ·omega
    ·intro h z m h1 h2 h3 h4
     obtain ⟨g1,g2⟩ := List.append_eq_nil_iff.1 h
     by_cases hzy : z = y
     ·rw [hzy]; exact hv.2 g2 m h3 h4
     ·exact jv g1 z m h1 (by omega) h3 h4
    ·omega
   ·injection e with e
    subst e
    exact fun z m h1 h2 h3 h4 => jv h z m h1 (by omega) h3 h4
  ·cases x with
   | inl xs => exact aP fun _ h => hx.1 xs rfl h
   | inr r => exact aP fun h1 => by have := hx.2 r rfl; omega
theorem aJi {c : aA} (hc : mV c = true) {d : bQ} (hd : gK c d = true) : pK c d = some (xQ c d) := by
 obtain ⟨⟨y0,y1⟩,⟨m0,m1⟩,⟨d0,d1⟩⟩ := eN.1 hd
 have hm := (dT hc).2.1
 have hl := oC hc (fR c d.Year) (k := d.Month - 1) (by omega) (by omega)
 unfold pK xQ
 rw [mB hc y0,Option.bind_some,jN hc _ m0 m1,Option.bind_some,aU (x := d.Day + 1) (by omega) (by omega),aU (x := d.Month + 1) (by omega) (by omega)]
 simp only [aLz,Option.bind_some]
 by_cases h1 : d.Day < nY c (fR c d.Year) (d.Month - 1)
 ·rw [if_pos h1,if_neg (by omega)]
  have e : btw d.Month 1 c.Months.length = true := decide_eq_true (by omega)
  simp only [Option.bind_some,e]; rfl
 ·rw [if_neg h1,if_pos (by omega)]
  simp only [Option.bind_some]
  by_cases h2 : d.Month < c.Months.length
  ·have e : btw (d.Month + 1) 1 c.Months.length = true := decide_eq_true (by omega)
   rw [if_pos h2,e]; rfl
  ·have e : btw (d.Month + 1) 1 c.Months.length = false := decide_eq_false (by omega)
   rw [if_neg h2,e,aU (x := d.Year + 1) (by omega) (by omega)]; rfl
theorem aJ0 {p : aC} (h : zX p) : fW p = some (qJ p) := by
 have hs := zG h
 obtain ⟨ha,⟨b1,b2,b3⟩,hw⟩ := id h
 have e : fV p (jE p) = some (qC p (jE p)) := by
  unfold fV gL qC
  rw [aU (x := p.Day + jE p) (by omega) (by omega),aU (x := p.Day + jE p - p.Teeth) (by omega) (by omega)]
  dsimp only
  rw [fZ (by omega),aU (x := p.At + 1) (by omega) (by omega)]
  split <;> rfl
 have hI := aD6 h hs.1 hs.2
 obtain ⟨_,_,hc,d1,d2⟩ := id hI
 have t := vP (a := (qC p (jE p)).Weekday) (n := (qC p (jE p)).Week) (by omega) (by omega)
 unfold fW gB
 rw [sO h,Option.bind_some,e,Option.bind_some,fZ (by omega),aU (by omega) (by omega)]
 rfl
def shB (p : aC) (d : bQ) : Bool := decide (p.Day = d.Day ∧ p.At % p.Months + 1 = d.Month)
theorem aRo {p : aC} (hp : zX p) (hm : 1 ≤ p.Months) (d : bQ) : pX p d.Month d.Day = some (shB p d) := by
 unfold pX lQ shB
 rw [fZ (by omega),Int.tmod_eq_emod_of_nonneg hp.1.1]
 have hr := Int.emod_nonneg p.At (show p.Months ≠ 0 by omega)
 have hr2 : p.At % p.Months ≤ p.At := by
  by_cases q : p.At < p.Months
  ·rw [Int.emod_eq_of_lt hp.1.1 q]; omega
  ·have := Int.emod_lt_of_pos p.At (show 0 < p.Months by omega); omega
 have hl := hp.1
 rw [aU (by omega) (by omega)]
 by_cases e1 : p.Day = d.Day <;> by_cases e2 : p.At % p.Months + 1 = d.Month <;> simp [e1,e2]
theorem aLe {c : aA} {cam : List Int} (ha : vK c cam = 0) {d : bQ} (hd : gK c d = true) {p : aC} (hs : aE7 c cam p d) : shB p d = true := by
 obtain ⟨_,⟨m0,m1⟩,_⟩ := eN.1 hd
 obtain ⟨s1,s2,s3,s4,s5⟩ := hs
 have hn := (uR ha (y := d.Year) m0 m1).2.2.2.2
 unfold shB
 rw [s2,s3,s4,hn]
 simp
theorem aIg (c : aA) (cam : List Int) (d : bQ) (w : Int) : aE7 c cam (aFu c cam d w) d := ⟨rfl,rfl,rfl,rfl,rfl⟩
theorem aT5 {s : dO} (h : aAg s = true) : wdR s = (s.First - 1 + s.Clock / 86400) % s.Movement.Calendar.Week + 1 := by
 obtain ⟨hc,hd,hf,hw,hk,_⟩ := zC h
 have hq := tD (a := s.Clock) (g := 86400) hk.1 (by omega)
 have e : w64 (w64 (s.First - 1) + s.Clock / 86400) = s.First - 1 + s.Clock / 86400 := by
  rw [aU (x := s.First - 1) (by omega) (by omega),aU (by omega) (by omega)]
 have t1 := Int.emod_nonneg (s.First - 1 + s.Clock / 86400) (show s.Movement.Calendar.Week ≠ 0 by omega)
 have t2 := Int.emod_lt_of_pos (s.First - 1 + s.Clock / 86400) (show 0 < s.Movement.Calendar.Week by omega)
 unfold wdR
 rw [e,Int.tmod_eq_emod_of_nonneg (by omega),aU (by omega) (by omega)]
theorem aPh {c : aA} {cam : List Int} (ha : vK c cam = 0) {d : bQ} {w : Int} (hd : gK c d = true) (h1 : 1 ≤ w) (h2 : w ≤ c.Week) : Ok (lS c (aFu c cam d w) d 3000) (fun r => (r.2 ≠ 0 → r.2 = 3) ∧ (r.2 = 0 → ∃ n : Nat,r.1 = n ∧ 1 ≤ n ∧ n ≤ 3000 ∧ ∃ e,gK c e = true ∧ nU c e = nU c d + n ∧ shB (kG n (aFu c cam d w)) e = false)) := by
 obtain ⟨hc,hcam,hz,k1,k2⟩ := kD ha
 have hm := (dT hc).2
 obtain ⟨i1,i2⟩ := aNh (cam := cam) ha hd h1 h2
 have hl : (aFu c cam d w).Cam.length ≤ 9223372036854775807 := by have := i1.1.2.2; omega
 have hmo : 1 ≤ (aFu c cam d w).Months := by show (1 : Int) ≤ c.Months.length; omega
 have q : btw (3000 : Int) 0 200000 = true := by decide
 unfold lS
 rw [iD (by omega) (by omega),Option.bind_some,hc,rD hl,i2,tA (by omega) (by omega),hc,hd,eF,q]
 simp only [Bool.not_true,Bool.false_eq_true,if_false,Option.bind_some,Bool.and_self]
 rw [aRo i1 hmo,aLe ha hd (aIg c cam d w)]
 simp only [Bool.not_true,Bool.false_eq_true,if_false,Option.bind_some]
 refine aW (P := fun x : Unit ⊕ (Int × Int) => ∀ r,x = .inr r → r.2 = 0 ∧ ∃ n : Nat,r.1 = n ∧ 1 ≤ n ∧ n ≤ 3000 ∧ ∃ e,gK c e = true ∧ nU c e = nU c d + n ∧ shB (kG n (aFu c cam d w)) e = false) ?_ fun x hx => ?_
 ·refine fC (I := fun s : Int × aC × bQ => ∃ n : Nat,s.1 = n + 1 ∧ n ≤ 3000 ∧ s.2.1 = kG n (aFu c cam d w) ∧ gK c s.2.2 = true ∧ nU c s.2.2 = nU c d + n) (m := fun s => (3001 - s.1).toNat) ?_ _ ⟨0,rfl,by omega,rfl,hd,by simp⟩ (by dsimp only; omega)
  rintro ⟨k,p,e⟩ ⟨n,hk,hn,hp,he,hde⟩
  dsimp only at hk hn hp he hde ⊢
  subst hp
  have pI := aGj n i1
  refine cG (fun h3 => ?_) fun _ => aP (.inr ⟨_,rfl,fun r e => by cases e⟩)
  rw [aJ0 pI,Option.bind_some,aJi hc he,Option.bind_some,aDw,Option.bind_some]
  obtain ⟨⟨ny0,ny1⟩,nd,ng⟩ := aLq hc he
  obtain ⟨⟨y0,y1⟩,_⟩ := eN.1 he
  refine cG (fun _ => aP (.inr ⟨_,rfl,fun r e => by cases e⟩)) fun hy => ?_
  have hy := of_decide_eq_true (show btw (xQ c e).Year 0 9999 = true by simpa using hy)
  have gd := ng hy.2
  have kI := aB8 pI
  have km : 1 ≤ (qJ (kG n (aFu c cam d w))).Months := by rw [← uS,(uC (n + 1) _).2.1]; exact hmo
  rw [aRo kI km,Option.bind_some]
  refine cG (fun hs => aP (.inr ⟨_,rfl,fun r e => ?_⟩)) fun hs => aP (.inl ⟨_,rfl,⟨n + 1,?_,by omega,(uS n _).symm,gd,by rw [nd,hde]; push_cast; omega⟩,?_⟩)
  ·injection e with e
   subst e
   refine ⟨rfl,n + 1,by dsimp only; push_cast; omega,by omega,by omega,_,gd,by rw [nd,hde]; push_cast; omega,?_⟩
   rw [uS]; simpa using hs
  all_goals (dsimp only; rw [aU (x := k + 1) (by omega) (by omega)])
  ·push_cast; omega
  ·omega
 ·cases x with
  | inl u => exact aP ⟨fun _ => rfl,fun h => by cases h⟩
  | inr r => exact aP ⟨fun h => absurd (hx r rfl).1 h,fun _ => (hx r rfl).2⟩
end Go.Proofs.YtgcdbbidmfdonaaGreat
namespace Go.Proofs.YtgcdbbidmfdonaaGreat
set_option linter.unusedVariables false
set_option maxRecDepth 100000
theorem aI1 {m : aX} {d : bQ} {w C : Int} (m1 : vL m = true) (m2 : gV m = []) (m3 : gK m.Calendar d = true) (h1 : 1 ≤ w) (h2 : w ≤ m.Calendar.Week) (c0 : 0 ≤ C) (c1 : C ≤ 1000000000) {e : bQ} (hr : aRi (vM (xP m d w) C) (some e)) (hg : aQj m.Calendar m.Cam d.Year e.Year) : iE (vM (xP m d w) C) = some true := by
 have ha := aAc m1 m2
 have hc := (sT m1).1
 obtain ⟨⟨s1,s2⟩,_⟩ := aLt m1 m2 m3 h1 h2
 have ck : (vM (xP m d w) C).Clock = C := by show (0 : Int) + C = C; omega
 have a1 := aA2 s1 C
 have a2 := aFm s2 c0 (by show (0 : Int) + C ≤ _; omega)
 have hN : fT (xP m d w) C = (C / 86400).toNat := by
  unfold fT
  show ((0 + C) / 86400 - 0 / 86400).toNat = _
  rw [Int.zero_add]; simp
 have hq := tD (a := C) (g := 86400) c0 (by omega)
 have hD : (vM (xP m d w) C).Dial = kG (C / 86400).toNat (aFu m.Calendar m.Cam d w) := by rw [← hN]; rfl
 have i1 := (aNh (cam := m.Cam) ha m3 h1 h2).1
 have hcal : (vM (xP m d w) C).Movement.Calendar = m.Calendar := rfl
 have hst : (vM (xP m d w) C).Start = d := rfl
 rw [aFl a1 a2 hr,aT5 a2]
 obtain ⟨_,e',ee,e2,e3⟩ | ⟨_,ee⟩ := hr
 ·injection ee with ee
  subst ee
  rw [hcal,hst,ck] at e3
  rw [hcal] at e2
  have hb := aGt hc e2
  have hn : ((C / 86400).toNat : Int) = C / 86400 := by omega
  obtain ⟨g1,g2⟩ := aF9 hc m3 (C / 86400).toNat (by omega)
  have eq : aB7 m.Calendar (C / 86400).toNat d = e := aK8 hc g1 e2 (by omega)
  have hs := yX ha m3 e2 (aIg m.Calendar m.Cam d w) hg (C / 86400).toNat (by omega)
  rw [eq] at hs
  have hsh := aLe ha e2 hs
  have hw := aLy (C / 86400).toNat i1
  unfold shB at hsh
  have p1 : (aFu m.Calendar m.Cam d w).Weekday = w := rfl
  have p2 : (aFu m.Calendar m.Cam d w).Week = m.Calendar.Week := rfl
  have p3 : (vM (xP m d w) C).First = w := rfl
  rw [p1,p2,hn] at hw
  rw [hD,hsh,hw,ck,p3,hcal]
  simp
 ·cases ee
theorem aJ1 {m : aX} {d : bQ} {w : Int} (m1 : vL m = true) (m2 : gV m = []) (m3 : gK m.Calendar d = true) (h1 : 1 ≤ w) (h2 : w ≤ m.Calendar.Week) {n : Nat} (hn : n ≤ 3000) {e : bQ} (he : gK m.Calendar e = true) (hd : nU m.Calendar e = nU m.Calendar d + n) (hs : shB (kG n (aFu m.Calendar m.Cam d w)) e = false) : iE (vM (xP m d w) (86400 * n)) = some false := by
 have hc := (sT m1).1
 obtain ⟨⟨s1,s2⟩,_⟩ := aLt m1 m2 m3 h1 h2
 have ck : (vM (xP m d w) (86400 * n)).Clock = 86400 * n := by show (0 : Int) + 86400 * n = _; omega
 have a1 := aA2 s1 (86400 * n)
 have a2 := aFm s2 (k := 86400 * n) (by omega) (by show (0 : Int) + 86400 * n ≤ _; omega)
 have hq : (86400 * (n : Int)) / 86400 = n := by omega
 have hN : fT (xP m d w) (86400 * n) = n := by
  unfold fT
  show ((0 + 86400 * (n : Int)) / 86400 - 0 / 86400).toNat = _
  omega
 have hD : (vM (xP m d w) (86400 * n)).Dial = kG n (aFu m.Calendar m.Cam d w) := by
  have : (vM (xP m d w) (86400 * n)).Dial = kG (fT (xP m d w) (86400 * n)) (aFu m.Calendar m.Cam d w) := rfl
  rw [this,hN]
 have hb := aGt hc he
 have hr : aRi (vM (xP m d w) (86400 * n)) (some e) := by
  refine .inl ⟨?_,e,rfl,he,?_⟩
  ·rw [ck,hq]; show nU m.Calendar d + n < aG7 m.Calendar; omega
  ·rw [ck,hq]; exact hd
 rw [aFl a1 a2 hr,hD]
 unfold shB at hs
 rw [hs]; rfl
theorem aP4 {c : List Int} (h1 : c.length ≤ 1000000) (h2 : ∀ b ∈ c,0 ≤ b ∧ b ≤ 255) : Ok (qW c) (fun xs => xs.length ≤ 8 ∧ ∀ t ∈ xs,0 ≤ t ∧ t ≤ 3000000) := by
 unfold qW
 refine aW (aN8 h1 h2) fun v1 q1 => ?_
 refine aW (P := fun xs : List Int => xs.length ≤ 8 ∧ ∀ t ∈ xs,0 ≤ t ∧ t ≤ 3000000) ?_ fun v h => aP h
 refine aW (kM q1 (by omega)) fun v2 q2 => ?_
 have k0 := q2.1
 have k1 : v2.1 < 8 := by rcases q2.2.1 with q | q <;> omega
 rw [aU (x := 1 + v2.1) (by omega) (by omega)]
 refine fC (I := fun s : Int × bN × List Int => (0 ≤ s.1 ∧ s.1 ≤ 8) ∧ ((s.2.2.length : Int) + s.1 ≤ 8 ∧ ∀ t ∈ s.2.2,0 ≤ t ∧ t ≤ 3000000) ∧ lR (100 + 4 * (8 - s.1)) s.2.1) (m := fun s => s.1.toNat) ?_ _ ⟨⟨by dsimp only; omega,by dsimp only; omega⟩,⟨by dsimp only [List.length_nil]; omega,fun t ht => by cases ht⟩,gC q2.2.2.2 (by dsimp only; omega)⟩ (by dsimp only; omega)
 rintro ⟨k,src,xs⟩ ⟨⟨i0,i1⟩,⟨il,iv⟩,is⟩
 dsimp only at i0 i1 il iv is ⊢
 refine cG (fun hk => ?_) fun _ => aP (.inr ⟨_,rfl,by omega,iv⟩)
 refine aW (xM is (by omega) (by simp)) fun v7 h7 => jL (by simp; omega) (aP (.inl ⟨_,rfl,⟨⟨?_,?_⟩,⟨?_,?_⟩,?_⟩,?_⟩))
 all_goals (dsimp only; try rw [aU (x := k - 1) (by omega) (by omega)])
 ·omega
 ·omega
 ·simp; omega
 ·intro t ht
  have hm := h7.1
  simp only [List.mem_cons,List.not_mem_nil,or_false] at hm
  rcases List.mem_append.1 ht with ht | ht
  ·exact iv t ht
  ·rw [List.mem_singleton.1 ht]; omega
 ·exact gC h7.2 (by omega)
 ·omega
theorem aSm (p0 : List Int) (k0 : osL aSs p0) (p1 : List Int) (k1 : osL aSs p1) : wN p0 p1 = some true := by
 have b0 : ∀ b ∈ p0,0 ≤ b ∧ b ≤ 255 := k0.2
 have b1 : ∀ b ∈ p1,0 ≤ b ∧ b ≤ 255 := k1.2
 suffices h : Ok (wN p0 p1) (fun b => b = true) by
  obtain ⟨x,e,hx⟩ := h
  rw [e,hx]
 unfold wN xO
 refine aW (P := fun b => b = false → p0.length ≤ 3000 ∧ p1.length ≤ 3000) (cG (fun _ => aP fun h => by cases h) fun h => aP fun h2 => ⟨by omega,by have := of_decide_eq_false h2; omega⟩) fun b hb => cG (fun _ => aP rfl) fun hf => ?_
 obtain ⟨n0,n1⟩ := hb (by simpa using hf)
 refine aW (aQz (c := p0) (by omega) b0) fun s hs => aW (aP4 (by omega) b1) fun ts ht => ?_
 obtain ⟨m,d,w,m1,m2,m3,⟨m4,m5⟩,rfl⟩ := hs
 have ha := aAc m1 m2
 obtain ⟨⟨s1,s2⟩,_⟩ := aLt m1 m2 m3 m4 m5
 have ec : (xP m d w).Movement.Calendar = m.Calendar := rfl
 have em : (xP m d w).Movement.Cam = m.Cam := rfl
 have es : (xP m d w).Start = d := rfl
 have ed : (xP m d w).Dial = aFu m.Calendar m.Cam d w := rfl
 have e0 : xP m d w = vM (xP m d w) 0 := by
  have : fT (xP m d w) 0 = 0 := by unfold fT; show ((0 + 0) / 86400 - 0 / 86400 : Int).toNat = 0; decide
  unfold vM
  rw [this]; rfl
 have ck : ∀ C : Int,(vM (xP m d w) C).Clock = C := fun C => by show (0 : Int) + C = C; omega
 rw [ec,em,es,ed]
 refine aW (P := fun x : dO ⊕ Bool => ∀ r,x = .inr r → r = true) ?_ fun x hx => ?_
 ·refine fC (I := fun s : Int × dO => (0 ≤ s.1 ∧ s.1 ≤ ts.length) ∧ ∃ C : Int,(0 ≤ C ∧ C ≤ 3000000 * s.1) ∧ s.2 = vM (xP m d w) C) (m := fun s => (ts.length - s.1).toNat) ?_ _ ⟨⟨by dsimp only; omega,by dsimp only; omega⟩,0,⟨by omega,by dsimp only; omega⟩,e0⟩ (by dsimp only; omega)
  rintro ⟨i,u⟩ ⟨⟨i0,i1⟩,C,⟨c0,c1⟩,hu⟩
  dsimp only at i0 i1 c1 hu ⊢
  subst hu
  refine cG (fun hi => ?_) fun _ => aP (.inr ⟨_,rfl,fun r e => by cases e⟩)
  refine aW (P := fun x : dO ⊕ ((Int × dO) ⊕ (dO ⊕ Bool)) => (∃ C' : Int,(0 ≤ C' ∧ C' ≤ 3000000 * (i + 1)) ∧ x = .inl (vM (xP m d w) C')) ∨ x = .inr (.inr (.inr true))) ?_ fun x hx => ?_
  ·refine aW (rO i0 hi) fun t htt => ?_
   obtain ⟨t0,t1⟩ := ht.2 t htt.1
   have hl := ht.1
   have a1 := aA2 s1 C
   have a2 := aFm s2 (k := C) (by omega) (by show (0 : Int) + C ≤ _; omega)
   have hr := (aPa a1 a2 (k := t) t0 t1 (by rw [ck]; omega)).2
   have ad := aLr (s := xP m d w) (by show (0 : Int) ≤ 0; omega) (a := C) (b := t) c0 t0
   rw [hr,Option.bind_some]
   dsimp only
   rw [ad]
   have z1 := aA2 s1 (C + t)
   have z2 := aFm s2 (k := C + t) (by omega) (by show (0 : Int) + (C + t) ≤ _; omega)
   rw [if_neg (by omega),if_neg (by simp)]
   unfold sJ
   rw [aAq z1,z2]
   simp only [Option.bind_some,Bool.not_true,Bool.false_eq_true,if_false]
   obtain ⟨r,g1,g2,_⟩ := aTs z1 z2
   rw [g2]
   cases r with
   | none => exact aP (.inr rfl)
   | some e =>
    simp only [Option.bind_some]
    rw [if_neg (by simp)]
    refine aW (aHs ha d.Year e.Year) fun cf hcf => ?_
    refine aW (P := fun b => b = false) ?_ fun b hb => ?_
    ·refine cG (fun h0 => cG (fun hl => ?_) fun _ => aP rfl) fun _ => aP rfl
     have hnil : cf.1 = [] := List.length_eq_zero_iff.1 (by omega)
     rw [aI1 m1 m2 m3 m4 m5 (C := C + t) (by omega) (by omega) g1 (hcf h0 hnil),Option.bind_some]
     exact aP rfl
    ·rw [hb,if_neg (by decide)]
     exact aP (.inl ⟨C + t,⟨by omega,by omega⟩,rfl⟩)
  ·rcases hx with ⟨C',hC,rfl⟩ | rfl
   ·refine aP (.inl ⟨_,rfl,⟨⟨?_,?_⟩,C',⟨hC.1,?_⟩,rfl⟩,?_⟩)
    all_goals (dsimp only; rw [aU (x := i + 1) (by omega) (by omega)]; omega)
   ·exact aP (.inr ⟨_,rfl,fun r e => (by cases e; rfl)⟩)
 ·cases x with
  | inr r => exact aP (hx r rfl)
  | inl u =>
   unfold orE
   dsimp only
   refine aW (aPh ha m3 m4 m5) fun f hf => cG (fun hne => aP (decide_eq_true (hf.1 hne))) fun h0 => ?_
   obtain ⟨n,hn,q0,q1,e,he,hde,hsh⟩ := hf.2 (by omega)
   rw [hn,if_neg (by omega),Option.bind_some]
   rw [if_neg (by simp; omega)]
   refine aW (P := fun x : dO ⊕ Bool => x = .inl (vM (xP m d w) (86400 * n))) ?_ fun x hx => ?_
   ·refine fC (I := fun s : Int × dO => ∃ j : Int,s.1 = n - j ∧ 0 ≤ j ∧ j ≤ n ∧ s.2 = vM (xP m d w) (86400 * j)) (m := fun s => s.1.toNat) ?_ _ ⟨0,by dsimp only; omega,by omega,by omega,e0⟩ (by dsimp only; omega)
    rintro ⟨k,u⟩ ⟨j,hk,j0,j1,hu⟩
    dsimp only at hk hu ⊢
    subst hu
    refine cG (fun h3 => ?_) fun h3 => aP (.inr ⟨_,rfl,by rw [show j = (n : Int) by omega]⟩)
    have a1 := aA2 s1 (86400 * j)
    have a2 := aFm s2 (k := 86400 * j) (by omega) (by show (0 : Int) + 86400 * j ≤ _; omega)
    have b0 : 1 ≤ min k 30 ∧ min k 30 ≤ 30 ∧ min k 30 ≤ k := by omega
    generalize min k 30 = y at b0
    have hr := (aPa a1 a2 (k := 86400 * y) (by omega) (by omega) (by rw [ck]; omega)).2
    have ad := aLr (s := xP m d w) (by show (0 : Int) ≤ 0; omega) (a := 86400 * j) (b := 86400 * y) (by omega) (by omega)
    rw [aU (x := 86400 * y) (by omega) (by omega),hr,Option.bind_some]
    dsimp only
    rw [ad,if_neg (by simp)]
    refine aP (.inl ⟨_,rfl,⟨j + y,?_,by omega,by omega,by dsimp only; rw [Int.mul_add]⟩,?_⟩)
    all_goals (dsimp only; rw [aU (x := k - y) (by omega) (by omega)]; omega)
   ·rw [hx]
    dsimp only
    rw [aJ1 m1 m2 m3 m4 m5 (n := n) q1 he hde hsh,Option.bind_some]
    exact aP rfl
end Go.Proofs.YtgcdbbidmfdonaaGreat
