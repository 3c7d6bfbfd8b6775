/- Texts of this claim, one behind the other (merged by a program of mine). -/
import Derived.Lib.ItoaLen
import Derived.Test.YtgcdbbidmfdonaaGreatGR7
set_option linter.unusedSimpArgs false
set_option linter.unusedVariables false
namespace Go.Proofs.YtgcdbbidmfdonaaGreat
set_option linter.unusedVariables false
def aJ6 : ByteArray := ⟨#[119, 111, 114, 107, 115]⟩
def aNo : ByteArray := ⟨#[104, 111, 117, 114]⟩
def aI7 : ByteArray := ⟨#[98, 101, 97, 116, 115]⟩
def aPl : ByteArray := ⟨#[99, 97, 109]⟩
def aTd : ByteArray := ⟨#[109, 111, 118, 101, 109, 101, 110, 116]⟩
def aHy (m : aU) (v : aJ) : Bool := decide (w64 (w64 (2 * m.Teeth) * jW v.Num) = w64 (m.Beats * v.Den))
def hH (m : aU) : List ByteArray :=
 (if (fT m.Works m.Minute).2 = 0 then (if jV (fT m.Works m.Minute).1 m.Hour = ⟨1, 12⟩ then [] else [aNo]) ++ (if aHy m (jV (fT m.Works m.Minute).1 m.Escape) = true then [] else [aI7]) else [aJ6]) ++ (if (m.Cam.length : Int) % m.Calendar.Months.length = 0 then [] else [aPl])
theorem wB {m : aU} (h : vY m = true) : nJ m.Calendar = true ∧ aDu m.Cam = true := by
 unfold vY at h
 simp only [Bool.and_eq_true] at h
 exact ⟨h.2.2.2.2.2.2.2.1, h.2.2.2.2.2.2.2.2.1⟩
theorem aB8 {c : aB} {cam : List Int} (h1 : nJ c = true) (h2 : aDu cam = true) : xZ c cam = if (cam.length : Int) % c.Months.length = 0 then 0 else 6 := by
 unfold xZ; rw [h1, h2]; rfl
theorem xG {m : aU} (h : gI m) : gW m = some (if vY m = true then hH m else [aTd]) := by
 unfold gW hH
 obtain ⟨w1, w2, w3⟩ := smW h.2.1
 have hcl : m.Cam.length ≤ 1048576 := h.2.2.2.2.2.2.2.2.1.1
 rw [rN h, Option.bind_some]
 by_cases hv : vY m = true
 ·obtain ⟨hw, k1, k2, k3⟩ := aGg hv
  obtain ⟨c1, c2⟩ := wB hv
  have cm := (eK c1).2.1
  have hbel : ∀ (x y : Option (List ByteArray)), ((kE m.Calendar m.Cam).bind fun v11 => if v11 = 0 then x else y) = if (m.Cam.length : Int) % m.Calendar.Months.length = 0 then y else x := by
   intro x y
   rw [vC cm.1 (by omega), Option.bind_some]
   by_cases h0 : (m.Cam.length : Int) % m.Calendar.Months.length = 0
   ·have := pS (c := m.Calendar) (cam := m.Cam) (by rw [aB8 c1 c2, if_pos h0])
    rw [if_pos h0, if_neg (by omega), if_pos h0]
   ·rw [if_neg h0, if_pos rfl, if_neg h0]
  rw [if_pos hv, hv, aFs w1 w2 w3, if_pos hw]
  simp only [Bool.not_true, Bool.false_eq_true, if_false, Option.bind_some, hbel]
  by_cases hs : (fT m.Works m.Minute).2 = 0
  ·have s2 := wH hw hs k2
   have s3 := wH hw hs k3
   have d3 := wV s3.2.1
   rw [if_neg (by simp [hs]), if_pos hs, s2.1, s3.1]
   simp only [Option.bind_some]
   rw [aQi (by omega) (by omega)]
   simp only [Option.bind_some]
   unfold aHy aNo aI7 aPl
   by_cases b1 : jV (fT m.Works m.Minute).1 m.Hour = ⟨1, 12⟩ <;> by_cases b2 : w64 (w64 (2 * m.Teeth) * jW (jV (fT m.Works m.Minute).1 m.Escape).Num) = w64 (m.Beats * (jV (fT m.Works m.Minute).1 m.Escape).Den) <;> by_cases b3 : (m.Cam.length : Int) % m.Calendar.Months.length = 0 <;> simp [b1, b2, b3, chk]
  ·rw [if_pos hs, if_neg hs]
   unfold aJ6 aPl
   by_cases b3 : (m.Cam.length : Int) % m.Calendar.Months.length = 0 <;> simp [b3, chk]
 ·rw [if_neg hv, Bool.not_eq_true] at *
  rw [hv]; rfl
theorem wT {m : aU} (h : gI m) (hv : vY m = true) : kP m = some (hH m) := by
 unfold kP hH
 have hcl : m.Cam.length ≤ 1048576 := h.2.2.2.2.2.2.2.2.1.1
 have hml : m.Calendar.Months.length ≤ 1048576 := h.2.2.2.2.2.2.2.1.2.1.1
 have hrl : m.Calendar.Rules.length ≤ 1048576 := h.2.2.2.2.2.2.2.1.2.2.1.1
 obtain ⟨hw, k1, k2, k3⟩ := aGg hv
 obtain ⟨c1, c2⟩ := wB hv
 have hbel : ∀ (x y : Option (List ByteArray)), ((nM m.Calendar m.Cam).bind fun v11 => if v11 ≠ 0 then x else y) = if (m.Cam.length : Int) % m.Calendar.Months.length = 0 then y else x := by
  intro x y
  rw [aCr (by omega) (by omega) (by omega), Option.bind_some, aB8 c1 c2]
  by_cases h0 : (m.Cam.length : Int) % m.Calendar.Months.length = 0
  ·rw [if_pos h0, if_pos h0, if_neg (by decide)]
  ·rw [if_neg h0, if_neg h0, if_pos (by decide)]
 rw [aDy hw]
 simp only [Option.bind_some, hbel]
 by_cases hs : (fT m.Works m.Minute).2 = 0
 ·have s2 := wH hw hs k2
  have s3 := wH hw hs k3
  have d3 := wV s3.2.1
  rw [if_neg (by simp [hs]), if_pos hs, s2.1, s3.1]
  unfold rT
  simp only [Option.bind_some]
  rw [sB (by omega) (by omega)]
  simp only [Option.bind_some]
  unfold aHy aNo aI7 aPl
  by_cases b1 : jV (fT m.Works m.Minute).1 m.Hour = ⟨1, 12⟩ <;> by_cases b2 : w64 (w64 (2 * m.Teeth) * jW (jV (fT m.Works m.Minute).1 m.Escape).Num) = w64 (m.Beats * (jV (fT m.Works m.Minute).1 m.Escape).Den) <;> by_cases b3 : (m.Cam.length : Int) % m.Calendar.Months.length = 0 <;> simp [b1, b2, b3, chk]
 ·rw [if_pos hs, if_neg hs]
  unfold aJ6 aPl
  by_cases b3 : (m.Cam.length : Int) % m.Calendar.Months.length = 0 <;> simp [b3, chk]
theorem aB7 {α : Type} {xs : List α} {k : Nat} (hl : xs.length ≤ 1048576) (hk : k ≤ 100) : (chk ((([] : List α).length + xs.length) * k * 64 ≤ 140737488355328) (some (([] : List α) ++ xs))) = some xs := by
 rw [gB ?_, List.nil_append]
 have : (([] : List α).length + xs.length) * k ≤ 1048576 * 100 := Nat.mul_le_mul (by simpa using hl) hk
 omega
theorem aEe {w : bE} (h : yX w) : mO w = some w := by
 unfold mO
 have hl := h.1.1
 rw [aHx (xs := w.Arbors) (f := fun a => [a]) (c := 1) (fun v _ => by simp) (fun i hi ys hy => ?_) (fun ys => by simp) (by omega)]
 ·simp only [Option.bind_some]
  unfold fS
  rw [aB7 h.2.1 (by omega)]
  simp
 ·have hi' : (i : Int) < w.Arbors.length := by omega
  have hw := (h.1.2 _ (List.getElem_mem hi)).2.1
  simp only [if_pos hi', eE hi, Option.bind_some, aW (x := (i : Int) + 1) (by omega) (by omega)]
  first | unfold cM | unfold slices_Clone_Lint64_int64_v_m
  rw [aB7 hw (by omega), Option.bind_some, gB (by simp at hy ⊢; omega)]
theorem sJ {m : aU} (h : gI m) : gN m = some m := by
 unfold gN
 rw [aEe h.2.1, Option.bind_some]
 unfold fG eH
 rw [aB7 h.2.2.2.2.2.2.2.1.2.1.1 (by omega), Option.bind_some, aB7 h.2.2.2.2.2.2.2.1.2.2.1.1 (by omega), Option.bind_some, aFw h.2.2.2.2.2.2.2.2.1.1, Option.bind_some]
def aU7 : aU := ⟨⟨#[]⟩, ⟨[], []⟩, 0, 0, 0, 0, 0, ⟨⟨#[]⟩, [], [], 0⟩, [], 0⟩
def aU1 : aH := ⟨[], 0, 0, 0, 0, 0, 0⟩
def aCw : dM := ⟨aU7, ⟨0, 0, 0⟩, 0, 0, aU1⟩
def aUr (m : aU) (d : cA) (wd : Int) : dM × Int :=
 if vY m = true then (if hH m = [] then (if (aAd m.Calendar m.Cam d wd).2 = 0 then (⟨m, d, wd, 0, (aAd m.Calendar m.Cam d wd).1⟩, 0) else (aCw, (aAd m.Calendar m.Cam d wd).2)) else (aCw, 6)) else (aCw, 1)
theorem smC {m : aU} (h : gI m) : m.Calendar.Months.length ≤ 1048576 ∧ m.Calendar.Rules.length ≤ 1048576 ∧ m.Cam.length ≤ 1048576 := ⟨h.2.2.2.2.2.2.2.1.2.1.1, h.2.2.2.2.2.2.2.1.2.2.1.1, h.2.2.2.2.2.2.2.2.1.1⟩
theorem aN4 {α : Type} {xs : List α} : (0 < (xs.length : Int)) ↔ ¬ xs = [] := by
 cases xs <;> simp
theorem aJz {m : aU} (h : gI m) (d : cA) (wd : Int) : sY m d wd = some (aUr m d wd) := by
 obtain ⟨c1, c2, c3⟩ := smC h
 unfold sY aUr
 rw [rN h, Option.bind_some]
 cases hv : vY m
 ·rfl
 ·rw [xG h, hv]
  simp only [Bool.not_true, Bool.false_eq_true, if_false, if_true, Option.bind_some, aN4]
  by_cases hf : hH m = []
  ·rw [if_neg (by simp [hf]), if_pos hf, sT (by omega) (by omega) c3, Option.bind_some]
   by_cases hs : (aAd m.Calendar m.Cam d wd).2 = 0
   ·rw [if_neg (by simp [hs]), if_pos hs, sJ h, Option.bind_some]
   ·rw [if_pos hs, if_neg hs]; rfl
  ·rw [if_pos hf, if_neg hf]; rfl
def yA (s : dM) : Bool := vY s.Movement && (decide (hH s.Movement = []) && (decide ((aAd s.Movement.Calendar s.Movement.Cam s.Start s.First).2 = 0) && (btw s.Clock 0 1000000000 && (aDt s.Dial && (decide (s.Dial.Cam = s.Movement.Cam) && (decide (s.Dial.Months = (aAd s.Movement.Calendar s.Movement.Cam s.Start s.First).1.Months) && (decide (s.Dial.Teeth = (aAd s.Movement.Calendar s.Movement.Cam s.Start s.First).1.Teeth) && decide (s.Dial.Week = (aAd s.Movement.Calendar s.Movement.Cam s.Start s.First).1.Week))))))))
theorem aP9 {c : aB} {cam : List Int} {d : cA} {wd : Int} (h : (aAd c cam d wd).2 = 0) : (aAd c cam d wd).1.Cam = cam := by
 unfold aAd at h ⊢
 split
 ·rename_i h1
  rw [if_pos h1] at h
  split
  ·rfl
  ·rename_i h2; rw [if_neg h2] at h; cases h
 ·rename_i h1
  rw [if_neg h1] at h
  exact absurd h h1
theorem pY {s : dM} (h : mI s) : gD s = some (yA s) := by
 obtain ⟨hm, _, _, _, hd⟩ := h
 have hdl := hd.1.1
 unfold gD yA
 rw [aJz hm, Option.bind_some]
 unfold aUr
 cases hv : vY s.Movement
 ·rfl
 ·by_cases hf : hH s.Movement = []
  ·by_cases hs : (aAd s.Movement.Calendar s.Movement.Cam s.Start s.First).2 = 0
   ·have hc := aP9 hs
    rw [if_pos rfl, if_pos hf, if_pos hs, decide_eq_true hf, decide_eq_true hs]
    simp only [ne_eq, not_true_eq_false, if_false, fB, Option.bind_some, xY (p := s.Dial) (by omega), itO, hc, aVb (xs := s.Dial.Cam) (ys := s.Movement.Cam) (by omega), Bool.true_and]
    simp only [aUm, itA, Bool.decide_eq_true]
    cases btw s.Clock 0 1000000000
    ·rfl
    ·cases aDt s.Dial
     ·rfl
     ·simp only [Bool.not_true, Bool.or_self, Bool.false_eq_true, if_false, Bool.true_and]
   ·rw [if_pos rfl, if_pos hf, if_neg hs, if_pos hs, decide_eq_false hs, decide_eq_true hf]; rfl
  ·rw [if_pos rfl, if_neg hf, decide_eq_false hf]; rfl
theorem zV {s : dM} (h : mI s) : pD s = some (yA s) := by
 obtain ⟨hm, _, _, _, hd⟩ := h
 have hdl := hd.1.1
 obtain ⟨c1, c2, c3⟩ := smC hm
 unfold pD yA kB
 rw [aEo hm, Option.bind_some]
 cases hv : vY s.Movement
 ·rfl
 ·rw [wT hm hv]
  simp only [Bool.not_true, Bool.false_eq_true, if_false, Option.bind_some, aN4]
  by_cases hf : hH s.Movement = []
  ·rw [if_neg (by simp [hf]), decide_eq_true hf]
   simp only [eC, Option.bind_some, wO (p := s.Dial) (by omega), itO, nV (c := s.Movement.Calendar) (cam := s.Movement.Cam) (by omega) (by omega) c3, aVa (xs := s.Dial.Cam) (ys := s.Movement.Cam) (by omega), Bool.true_and]
   simp only [aUm, itA, Bool.decide_eq_true]
   cases btw s.Clock 0 1000000000
   ·cases decide ((aAd s.Movement.Calendar s.Movement.Cam s.Start s.First).2 = 0) <;> rfl
   ·cases aDt s.Dial
    ·cases decide ((aAd s.Movement.Calendar s.Movement.Cam s.Start s.First).2 = 0) <;> rfl
    ·simp only [Bool.not_true, Bool.or_self, Bool.false_eq_true, if_false, Bool.true_and]
     congr 1
     ac_rfl
  ·rw [if_pos hf, Option.bind_some, if_pos rfl, decide_eq_false hf]; rfl
end Go.Proofs.YtgcdbbidmfdonaaGreat
namespace Go.Proofs.YtgcdbbidmfdonaaGreat
set_option linter.unusedVariables false
def aIw (c : aB) (y : Int) (k : Nat) : Int := aAb (fun j => tD c (jB c y) (j : Int)) k
def xL (c : aB) (d : cA) : Int := bef c d.Year.toNat + (d.Day - 1) + aIw c d.Year (d.Month - 1).toNat
theorem vT {c : aB} (h : nJ c = true) (y : Int) {m n : Nat} (hm : m ≤ n) : aIw c y m ≤ aIw c y n := aIi (fun k => aSl h _ k) hm
theorem aLh {c : aB} (y : Int) (y0 : 0 ≤ y) : aIw c y c.Months.length = aEd c y.toNat := by
 unfold aIw aEd aKt
 rw [show ((y.toNat : Nat) : Int) = y by omega]
theorem zS (c : aB) (y : Int) (k : Nat) : aIw c y (k + 1) = aIw c y k + tD c (jB c y) k := rfl
theorem iW {c : aB} {d : cA} : lQ c d = true ↔ (0 ≤ d.Year ∧ d.Year ≤ 9999) ∧ (1 ≤ d.Month ∧ d.Month ≤ c.Months.length) ∧ 1 ≤ d.Day ∧ d.Day ≤ tD c (jB c d.Year) (d.Month - 1) := by
 unfold lQ btw
 simp only [Bool.and_eq_true, decide_eq_true_eq]
theorem aPh {c : aB} (h : nJ c = true) {d : cA} (hd : lQ c d = true) : 0 ≤ aIw c d.Year (d.Month - 1).toNat ∧ bef c d.Year.toNat ≤ xL c d ∧ xL c d < bef c (d.Year.toNat + 1) ∧ aIw c d.Year (d.Month - 1).toNat + d.Day ≤ aEd c d.Year.toNat := by
 obtain ⟨⟨y0, y1⟩, ⟨m0, m1⟩, d0, d1⟩ := iW.1 hd
 have e : (((d.Month - 1).toNat : Nat) : Int) = d.Month - 1 := by omega
 have h1 := vT h d.Year (m := 0) (n := (d.Month - 1).toNat) (by omega)
 have h0 : aIw c d.Year 0 = 0 := rfl
 have h2 := vT h d.Year (m := (d.Month - 1).toNat + 1) (n := c.Months.length) (by omega)
 rw [zS, aLh d.Year y0, e] at h2
 rw [aKm]
 unfold xL
 omega
theorem aQ3 {c : aB} (h : nJ c = true) {d e : cA} (hd : lQ c d = true) (he : lQ c e = true) (hn : xL c d = xL c e) : d = e := by
 have key : ∀ {d e : cA}, lQ c d = true → lQ c e = true → xL c d = xL c e → ¬ d.Year < e.Year := by
  intro d e hd he hn hlt
  obtain ⟨⟨y0, y1⟩, _⟩ := iW.1 hd
  have a := aPh h hd
  have b := aPh h he
  have := aGh h (m := d.Year.toNat + 1) (n := e.Year.toNat) (by omega)
  omega
 have hy : d.Year = e.Year := by
  have h1 := key hd he hn
  have h2 := key he hd hn.symm
  omega
 have keyM : ∀ {d e : cA}, lQ c d = true → lQ c e = true → d.Year = e.Year → xL c d = xL c e → ¬ d.Month < e.Month := by
  intro d e hd he hy hn hlt
  obtain ⟨_, ⟨m0, m1⟩, d0, d1⟩ := iW.1 hd
  obtain ⟨_, ⟨n0, n1⟩, e0, e1⟩ := iW.1 he
  have := vT h d.Year (m := (d.Month - 1).toNat + 1) (n := (e.Month - 1).toNat) (by omega)
  rw [zS, show (((d.Month - 1).toNat : Nat) : Int) = d.Month - 1 by omega] at this
  unfold xL at hn
  rw [← hy] at hn
  omega
 have hm : d.Month = e.Month := by
  have h1 := keyM hd he hy hn
  have h2 := keyM he hd hy.symm hn.symm
  omega
 have hdd : d.Day = e.Day := by
  unfold xL at hn
  rw [← hy, ← hm] at hn
  omega
 obtain ⟨a, b, k⟩ := d
 obtain ⟨a', b', k'⟩ := e
 simp_all
def yrs (c : aB) : Nat := 10000 + 0 * c.Months.length
theorem aE1 (c : aB) : yrs c = 10000 := by unfold yrs; omega
def aIx (c : aB) : Int := bef c (yrs c)
theorem aRz {c : aB} (h : nJ c = true) {d : cA} (hd : lQ c d = true) : 0 ≤ xL c d ∧ xL c d < aIx c ∧ aIx c ≤ 12000000 := by
 obtain ⟨⟨y0, y1⟩, _⟩ := iW.1 hd
 have a := aPh h hd
 have b := (aDe h d.Year.toNat).1
 have e := aGh h (m := d.Year.toNat + 1) (n := yrs c) (by rw [aE1]; omega)
 have f := (aDe h (yrs c)).2
 have g := aE1 c
 unfold aIx
 omega
theorem aLr {c : aB} (h : nJ c = true) {d : cA} (hd : lQ c d = true) : uS c d = some (xL c d) := by
 obtain ⟨⟨y0, y1⟩, ⟨m0, m1⟩, d0, d1⟩ := iW.1 hd
 have hc := (eK h).2.1
 have b := aDe h d.Year.toNat
 have hl := sG h (jB c d.Year) (k := d.Month - 1) (by omega) (by omega)
 unfold uS
 rw [vE h y0 (by omega), Option.bind_some, rF h y0, Option.bind_some, aW (x := bef c _ + _) (by omega) (by omega), aW (by omega) (by omega)]
 rw [aNb (fun i (s : Int) => (s, i)) 1 (d.Month - 1).toNat (fun k s => s + tD c (jB c d.Year) k) id (fun i s => 0 ≤ s ∧ s ≤ 12001000 + 60 * i) (by omega) (fun i s hi hs => ?_) (fun i s hi hs => ?_) (fun s hs => ?_) _ ⟨by omega, by simp; omega⟩]
 ·rw [aF1]
  unfold xL aIw
  simp only [id, Option.bind_some]
  congr 1; try omega
 ·have hi' : 1 + (i : Int) < d.Month := by omega
  have hq := sG h (jB c d.Year) (k := i) (by omega) (by omega)
  simp only [if_pos hi', pU h _ (m := 1 + (i : Int)) (by omega) (by omega), Option.bind_some]
  rw [show 1 + (i : Int) - 1 = i by omega, aW (by omega) (by omega), aW (by omega) (by omega)]
  congr 3; try omega
 ·have hq := sG h (jB c d.Year) (k := i) (by omega) (by omega)
  omega
 ·have : ¬ (1 + ((d.Month - 1).toNat : Int) < d.Month) := by omega
  simp only [if_neg this]; rfl
def aAs (c : aB) (day : Int) (s : Int × cA) : Prop := s.2.Month = 1 ∧ s.2.Day = 0 ∧ 0 ≤ s.2.Year ∧ 0 ≤ s.1 ∧ bef c s.2.Year.toNat + s.1 = day
theorem aAs.bd {c : aB} (h : nJ c = true) {day : Int} {s : Int × cA} (hs : aAs c day s) (hd : day < aIx c) : s.2.Year ≤ 9999 ∧ s.1 ≤ 12000000 := by
 obtain ⟨_, _, h3, h4, h5⟩ := hs
 have f := (aDe h (yrs c)).2
 have g := (aDe h s.2.Year.toNat).1
 have y := aE1 c
 unfold aIx at hd
 refine ⟨?_, by omega⟩
 refine Classical.byContradiction fun hn => ?_
 have := aGh h (m := yrs c) (n := s.2.Year.toNat) (by omega)
 omega
theorem aN0 {c : aB} (h : nJ c = true) {day : Int} (hd : day < aIx c) {step : Int × cA → Option ((Int × cA) ⊕ (Int × cA))}
  (hS : ∀ s, aAs c day s → step s = some (if aEd c s.2.Year.toNat ≤ s.1 then .inl (s.1 - aEd c s.2.Year.toNat, ⟨s.2.Year + 1, s.2.Month, s.2.Day⟩) else .inr (s.1, s.2))) (s0 : Int × cA) (h0 : aAs c day s0) :
  ∃ x, cO step s0 = some x ∧ aAs c day x ∧ x.1 < aEd c x.2.Year.toNat := by
 refine tI (fun s => aAs c day s) (fun s => s.1.toNat) (fun x => aAs c day x ∧ x.1 < aEd c x.2.Year.toNat) (fun s hI => ?_) s0 h0 (by have := (h0.bd h hd).2; omega)
 rw [hS s hI]
 have hq := xS h s.2.Year.toNat
 obtain ⟨h1, h2, h3, h4, h5⟩ := hI
 by_cases hc : aEd c s.2.Year.toNat ≤ s.1
 ·left
  refine ⟨(s.1 - aEd c s.2.Year.toNat, ⟨s.2.Year + 1, s.2.Month, s.2.Day⟩), by rw [if_pos hc], ⟨h1, h2, by dsimp only; omega, by dsimp only; omega, ?_⟩, by dsimp only; omega⟩
  dsimp only
  rw [show (s.2.Year + 1).toNat = s.2.Year.toNat + 1 by omega, aKm]
  omega
 ·right
  exact ⟨(s.1, s.2), by rw [if_neg hc], ⟨h1, h2, h3, h4, h5⟩, by dsimp only; omega⟩
def aL7 (c : aB) (y r : Int) (s : Int × cA) : Prop := s.2.Year = y ∧ 1 ≤ s.2.Month ∧ s.2.Month ≤ c.Months.length ∧ 0 ≤ s.1 ∧ aIw c y (s.2.Month - 1).toNat + s.1 = r
theorem aQ1 {c : aB} (h : nJ c = true) {y r : Int} (y0 : 0 ≤ y) (hr : r < aEd c y.toNat) {step : Int × cA → Option ((Int × cA) ⊕ (Int × cA))}
  (hS : ∀ s, aL7 c y r s → step s = some (if tD c (jB c y) (s.2.Month - 1) ≤ s.1 then .inl (s.1 - tD c (jB c y) (s.2.Month - 1), ⟨s.2.Year, s.2.Month + 1, s.2.Day⟩) else .inr (s.1, s.2))) (s0 : Int × cA) (h0 : aL7 c y r s0) :
  ∃ x, cO step s0 = some x ∧ aL7 c y r x ∧ x.1 < tD c (jB c y) (x.2.Month - 1) := by
 have hl := xS h y.toNat
 have nn : ∀ k, 0 ≤ aIw c y k := fun k => vT h y (m := 0) (n := k) (by omega)
 refine tI (fun s => aL7 c y r s) (fun s => s.1.toNat) (fun x => aL7 c y r x ∧ x.1 < tD c (jB c y) (x.2.Month - 1)) (fun s hI => ?_) s0 h0 (by obtain ⟨_, _, _, h4, h5⟩ := h0; have := nn (s0.2.Month - 1).toNat; omega)
 rw [hS s hI]
 obtain ⟨h1, h2, h3, h4, h5⟩ := hI
 have hq := sG h (jB c y) (k := s.2.Month - 1) (by omega) (by omega)
 by_cases hc : tD c (jB c y) (s.2.Month - 1) ≤ s.1
 ·left
  have e : (s.2.Month + 1 - 1).toNat = (s.2.Month - 1).toNat + 1 := by omega
  have e2 : (((s.2.Month - 1).toNat : Nat) : Int) = s.2.Month - 1 := by omega
  refine ⟨(s.1 - tD c (jB c y) (s.2.Month - 1), ⟨s.2.Year, s.2.Month + 1, s.2.Day⟩), by rw [if_pos hc], ⟨h1, by dsimp only; omega, ?_, by dsimp only; omega, ?_⟩, by dsimp only; omega⟩
  ·dsimp only
   refine Classical.byContradiction fun hn => ?_
   have e3 : (s.2.Month - 1).toNat + 1 = c.Months.length := by omega
   have := zS c y (s.2.Month - 1).toNat
   rw [e3, aLh y y0, e2] at this
   omega
  ·dsimp only
   rw [e, zS, e2]
   omega
 ·right
  exact ⟨(s.1, s.2), by rw [if_neg hc], ⟨h1, h2, h3, h4, h5⟩, by dsimp only; omega⟩
theorem aQr {c : aB} {day : Int} {x : Int × cA} (hx : aAs c day x) (hy : x.2.Year ≤ 9999) {z : Int × cA} (hz : aL7 c x.2.Year x.1 z) (hl : z.1 < tD c (jB c x.2.Year) (z.2.Month - 1)) : lQ c ⟨z.2.Year, z.2.Month, z.1 + 1⟩ = true ∧ xL c ⟨z.2.Year, z.2.Month, z.1 + 1⟩ = day := by
 obtain ⟨h1, h2, h3, h4, h5⟩ := hx
 obtain ⟨g1, g2, g3, g4, g5⟩ := hz
 refine ⟨iW.2 ⟨⟨?_, ?_⟩, ⟨g2, g3⟩, ?_, ?_⟩, ?_⟩
 ·dsimp only; omega
 ·dsimp only; omega
 ·dsimp only; omega
 ·dsimp only; rw [g1]; omega
 ·unfold xL
  dsimp only
  rw [g1]; omega
theorem aKk {c : aB} (h : nJ c = true) {day : Int} (h0 : 0 ≤ day) (h1 : day < aIx c) : ∃ d, sP c day = some d ∧ lQ c d = true ∧ xL c d = day := by
 have hc := (eK h).2.1
 have hA : aIx c ≤ 12000000 := by have := (aDe h (yrs c)).2; have := aE1 c; unfold aIx; omega
 unfold sP
 rw [uE h, Option.bind_some]
 obtain ⟨x, ex, hx, hxl⟩ := aN0 h h1 (step := fun (s5 : Int × cA) => ((((jJ c s5.2.Year).bind fun v6 => (if v6 = true then some (aKt c true) else some (aKt c false))) : Option Int).bind fun v7 => (if s5.1 < v7 then some (.inr (s5.1, s5.2)) else some (.inl (w64 (s5.1 - v7), (⟨w64 (s5.2.Year + 1), s5.2.Month, s5.2.Day⟩ : cA)))))) (fun s hs => by
  have hb := hs.bd h h1
  obtain ⟨_, _, y0, r0, _⟩ := hs
  have hq := xS h s.2.Year.toNat
  have e : (if jB c s.2.Year = true then some (aKt c true) else some (aKt c false)) = some (aEd c s.2.Year.toNat) := by
   unfold aEd
   rw [show ((s.2.Year.toNat : Nat) : Int) = s.2.Year by omega]
   cases jB c s.2.Year <;> rfl
  simp only [rF h y0, Option.bind_some, e]
  by_cases hl : s.1 < aEd c s.2.Year.toNat
  ·rw [if_pos hl, if_neg (by omega)]
  ·rw [if_neg hl, if_pos (by omega), aW (by omega) (by omega), aW (by omega) (by omega)]) (day, ⟨0, 1, 0⟩) ⟨rfl, rfl, by simp, h0, by simp [bef, aAb]⟩
 have hxb := hx.bd h h1
 have hx' := hx
 obtain ⟨x1, x2, x3, x4, x5⟩ := hx'
 rw [ex, Option.bind_some, rF h x3]
 simp only [Option.bind_some]
 obtain ⟨z, ez, hz, hzl⟩ := aQ1 h x3 hxl (step := fun (s13 : Int × cA) => ((eW c (jB c x.2.Year) s13.2.Month).bind fun v14 => (if v14 ≤ s13.1 then ((eW c (jB c x.2.Year) s13.2.Month).bind fun v15 => some (.inl (w64 (s13.1 - v15), (⟨s13.2.Year, w64 (s13.2.Month + 1), s13.2.Day⟩ : cA)))) else some (.inr (s13.1, s13.2))))) (fun s hs => by
  obtain ⟨s1, s2, s3, s4, s5⟩ := hs
  have hq := sG h (jB c x.2.Year) (k := s.2.Month - 1) (by omega) (by omega)
  have nn : 0 ≤ aIw c x.2.Year (s.2.Month - 1).toNat := vT h x.2.Year (m := 0) (n := (s.2.Month - 1).toNat) (by omega)
  simp only [pU h (jB c x.2.Year) s2 s3, Option.bind_some]
  by_cases hl : tD c (jB c x.2.Year) (s.2.Month - 1) ≤ s.1
  ·rw [if_pos hl, if_pos hl, aW (by omega) (by omega), aW (by omega) (by omega)]
  ·rw [if_neg hl, if_neg hl]) (x.1, x.2) ⟨rfl, by dsimp only; omega, by dsimp only; omega, x4, by
   rw [x1]
   show aIw c x.2.Year 0 + x.1 = x.1
   have : aIw c x.2.Year 0 = 0 := rfl
   omega⟩
 rw [ez, Option.bind_some]
 obtain ⟨m1, m2, m3, m4, m5⟩ := hz
 have hq := sG h (jB c x.2.Year) (k := z.2.Month - 1) (by omega) (by omega)
 rw [aW (by omega) (by omega)]
 exact ⟨_, rfl, aQr hx hxb.1 ⟨m1, m2, m3, m4, m5⟩ hzl⟩
theorem aIj {c : aB} (h : nJ c = true) : qV c = some (aIx c - 1) := by
 have hA := aDe h (yrs c)
 have hy := aE1 c
 unfold qV
 have e : (10000 : Int).toNat = yrs c := by rw [aE1]; rfl
 have := vE h (y := 10000) (by omega) (by omega)
 rw [e] at this
 rw [this, Option.bind_some, aW (by omega) (by omega)]; rfl
end Go.Proofs.YtgcdbbidmfdonaaGreat
namespace Go.Proofs.YtgcdbbidmfdonaaGreat
set_option linter.unusedVariables false
theorem oO {s : dM} (h : yA s = true) : vY s.Movement = true ∧ hH s.Movement = [] ∧ (aAd s.Movement.Calendar s.Movement.Cam s.Start s.First).2 = 0 ∧ (0 ≤ s.Clock ∧ s.Clock ≤ 1000000000) ∧ aDt s.Dial = true := by
 unfold yA at h
 simp only [Bool.and_eq_true, decide_eq_true_eq] at h
 exact ⟨h.1, h.2.1, h.2.2.1, of_decide_eq_true h.2.2.2.1, h.2.2.2.2.1⟩
theorem aI6 {c : aB} {cam : List Int} {d : cA} {wd : Int} (h : (aAd c cam d wd).2 = 0) : xZ c cam = 0 ∧ lQ c d = true ∧ 1 ≤ wd ∧ wd ≤ c.Week := by
 unfold aAd at h
 split at h
 ·rename_i h1
  split at h
  ·rename_i h2
   rw [Bool.and_eq_true] at h2
   exact ⟨h1, h2.1, of_decide_eq_true h2.2⟩
  ·cases h
 ·rename_i h1; exact absurd h h1
theorem yJ {s : dM} (h : yA s = true) : nJ s.Movement.Calendar = true ∧ lQ s.Movement.Calendar s.Start = true ∧ (1 ≤ s.First ∧ s.First ≤ s.Movement.Calendar.Week) ∧ (1 ≤ s.Movement.Calendar.Week ∧ s.Movement.Calendar.Week ≤ 12) ∧ (0 ≤ s.Clock ∧ s.Clock ≤ 1000000000) ∧ aDt s.Dial = true := by
 obtain ⟨h1, _, h3, h4, h5⟩ := oO h
 obtain ⟨_, g2, g3⟩ := aI6 h3
 have hc := (wB h1).1
 exact ⟨hc, g2, g3, (eK hc).2.2.2.1, h4, h5⟩
def aRd (s : dM) (r : Option cA) : Prop :=
 (xL s.Movement.Calendar s.Start + s.Clock / 86400 < aIx s.Movement.Calendar ∧ ∃ d, r = some d ∧ lQ s.Movement.Calendar d = true ∧ xL s.Movement.Calendar d = xL s.Movement.Calendar s.Start + s.Clock / 86400) ∨ (¬ xL s.Movement.Calendar s.Start + s.Clock / 86400 < aIx s.Movement.Calendar ∧ r = none)
theorem aQb {s : dM} (h : yA s = true) {a b : Option cA} (ha : aRd s a) (hb : aRd s b) : a = b := by
 have hc := (yJ h).1
 rcases ha with ⟨h1, d, rfl, d1, d2⟩ | ⟨h1, rfl⟩
 ·rcases hb with ⟨_, e, rfl, e1, e2⟩ | ⟨h2, rfl⟩
  ·rw [aQ3 hc d1 e1 (d2.trans e2.symm)]
  ·exact absurd h1 h2
 ·rcases hb with ⟨h2, _⟩ | ⟨_, rfl⟩
  ·exact absurd h2 h1
  ·rfl
def wdR (s : dM) : Int := w64 ((w64 (w64 (s.First - 1) + s.Clock / 86400)).tmod s.Movement.Calendar.Week + 1)
theorem yN {s : dM} (hs : mI s) (h : yA s = true) : ∃ r, aRd s r ∧ kF s = some (match r with
  | some d => (d, wdR s, 0)
  | none => (⟨0, 0, 0⟩, 0, 2)) := by
 obtain ⟨c1, c2, _⟩ := smC hs.1
 obtain ⟨hc, hd, hf, hw, hk, _⟩ := yJ h
 have hb := aRz hc hd
 have hq := uR (a := s.Clock) (g := 86400) hk.1 (by omega)
 unfold kF tX zO tY
 rw [Int.tdiv_eq_ediv_of_nonneg hk.1, aW (x := s.Clock / 86400) (by omega) (by omega), jT (by omega) (by omega), hc]
 simp only [Bool.not_true, Bool.false_eq_true, if_false, Option.bind_some, wY (show s.Movement.Calendar.Months.length ≤ 9223372036854775807 by omega) (show s.Movement.Calendar.Rules.length ≤ 9223372036854775807 by omega), hc, hd, Bool.and_self, aLr hc hd, ne_eq, not_true_eq_false, aIj hc, fB]
 rw [aW (x := -xL _ _) (by omega) (by omega), aW (x := aIx _ - 1 - xL _ _) (by omega) (by omega)]
 by_cases hl : xL s.Movement.Calendar s.Start + s.Clock / 86400 < aIx s.Movement.Calendar
 ·have e : btw (s.Clock / 86400) (-xL s.Movement.Calendar s.Start) (aIx s.Movement.Calendar - 1 - xL s.Movement.Calendar s.Start) = true := decide_eq_true (by omega)
  obtain ⟨d, e1, e2, e3⟩ := aKk hc (day := xL s.Movement.Calendar s.Start + s.Clock / 86400) (by omega) hl
  refine ⟨some d, .inl ⟨hl, d, rfl, e2, e3⟩, ?_⟩
  rw [e, Bool.not_true, if_neg (by decide), aW (x := xL _ _ + _) (by omega) (by omega), e1]
  simp only [Option.bind_some, not_true_eq_false, if_false]
  rw [gB (by omega)]; rfl
 ·have e : btw (s.Clock / 86400) (-xL s.Movement.Calendar s.Start) (aIx s.Movement.Calendar - 1 - xL s.Movement.Calendar s.Start) = false := decide_eq_false (by omega)
  refine ⟨none, .inr ⟨hl, rfl⟩, ?_⟩
  rw [e]; rfl
theorem aJi {p : aH} (h : aDt p = true) : 1 ≤ p.Months := by
 unfold aDt at h
 simp only [Bool.and_eq_true, decide_eq_true_eq] at h
 exact h.2.1
end Go.Proofs.YtgcdbbidmfdonaaGreat
namespace Go.Proofs.YtgcdbbidmfdonaaGreat
set_option linter.unusedVariables false
section
variable {α : Type} (f : Int → α → α × Int)
end
section
variable {α : Type} {f : Int → α → α × Int} {sm : α → Prop} {C : Int}
end
end Go.Proofs.YtgcdbbidmfdonaaGreat
namespace Go.Proofs.YtgcdbbidmfdonaaGreat
open Go.RowKit
set_option linter.unusedVariables false
set_option maxRecDepth 100000
set_option maxHeartbeats 2000000
end Go.Proofs.YtgcdbbidmfdonaaGreat
namespace Go.Proofs.YtgcdbbidmfdonaaGreat
set_option linter.unusedVariables false
def aAx (p : aH) : Prop := (0 ≤ p.At ∧ p.At < p.Cam.length ∧ p.Cam.length ≤ 260) ∧ (1 ≤ p.Day ∧ p.Day ≤ p.Teeth ∧ p.Teeth ≤ 60) ∧ (1 ≤ p.Week ∧ p.Week ≤ 12) ∧ 1 ≤ p.Weekday ∧ p.Weekday ≤ p.Week
theorem uV {p : aH} (h : aDt p = true) : aAx p := by
 unfold aDt at h
 simp only [Bool.and_eq_true, decide_eq_true_eq] at h
 obtain ⟨h1, h2, h3, h4, h5, h6, h7, h8, h9⟩ := h
 have hl := (oE h1).2.2
 unfold btw at h7 h8 h9
 simp only [decide_eq_true_eq] at h7 h8 h9
 exact ⟨⟨h6.1, h6.2, hl⟩, ⟨h7.1, h7.2, h4⟩, ⟨h8.1, h8.2⟩, h9.1, h9.2⟩
def xQ (p : aH) (n : Int) : aH := if p.Teeth < p.Day + n then ⟨p.Cam, p.Months, p.Teeth, (p.At + 1).tmod p.Cam.length, p.Day + n - p.Teeth, p.Week, p.Weekday⟩ else ⟨p.Cam, p.Months, p.Teeth, p.At, p.Day + n, p.Week, p.Weekday⟩
def rR (p : aH) : Int := if p.Day = p.Cam.getD p.At.toNat 0 then p.Teeth + 1 - p.Day else 1
def aA8 (p : aH) : aH := ⟨p.Cam, p.Months, p.Teeth, (p.At + 1).tmod p.Cam.length, p.Day, p.Week, p.Weekday⟩
def aBv (p : aH) : aH := ⟨p.Cam, p.Months, p.Teeth, p.At, p.Day, p.Week, p.Weekday.tmod p.Week + 1⟩
def aA6 (p : aH) : aH := aBv (xQ p (rR p))
theorem xC {a n : Int} (h0 : 0 ≤ a) (hn : 0 < n) : 0 ≤ a.tmod n ∧ a.tmod n < n := by
 rw [Int.tmod_eq_emod_of_nonneg h0]
 exact ⟨Int.emod_nonneg _ (by omega), Int.emod_lt_of_pos _ hn⟩
theorem aDf {p : aH} (h : aAx p) : 1 ≤ rR p ∧ p.Day + rR p ≤ p.Teeth + 1 := by
 obtain ⟨_, h2, _⟩ := h
 unfold rR
 split <;> omega
theorem aFb {p : aH} {n : Int} (h : aAx p) (h1 : 1 ≤ n) (h2 : p.Day + n ≤ p.Teeth + 1) : aAx (xQ p n) := by
 obtain ⟨⟨a1, a2, a3⟩, ⟨b1, b2, b3⟩, hw⟩ := h
 have t := xC (a := p.At + 1) (n := p.Cam.length) (by omega) (by omega)
 unfold xQ
 split
 ·exact ⟨⟨t.1, t.2, a3⟩, ⟨by dsimp only; omega, by dsimp only; omega, b3⟩, hw⟩
 ·exact ⟨⟨a1, a2, a3⟩, ⟨by dsimp only; omega, by dsimp only; omega, b3⟩, hw⟩
theorem aPj {p : aH} (h : aAx p) : aAx (aBv p) := by
 obtain ⟨ha, hb, hc, d1, d2⟩ := h
 have t := xC (a := p.Weekday) (n := p.Week) (by omega) (by omega)
 exact ⟨ha, hb, hc, by unfold aBv; dsimp only; omega, by unfold aBv; dsimp only; omega⟩
theorem aQn {p : aH} (h : aAx p) : aAx (aA8 p) := by
 obtain ⟨⟨a1, a2, a3⟩, hb⟩ := h
 have t := xC (a := p.At + 1) (n := p.Cam.length) (by omega) (by omega)
 exact ⟨⟨t.1, t.2, a3⟩, hb⟩
theorem aLk {p : aH} (h : aAx p) : aAx (aA6 p) := by
 have s := aDf h
 exact aPj (aFb h s.1 s.2)
def vO (s : dM) (p : aH) : dM := ⟨s.Movement, s.Start, s.First, s.Clock, p⟩
theorem aLe {p : aH} (h : aAx p) : atI p.Cam p.At = some (p.Cam.getD p.At.toNat 0) := by
 obtain ⟨⟨a1, a2, a3⟩, _⟩ := h
 unfold atI
 rw [if_pos a1, List.getElem?_eq_getElem (by omega)]
 simp [List.getD_eq_getElem?_getD, List.getElem?_eq_getElem (show p.At.toNat < p.Cam.length by omega)]
theorem yH {p : aH} (h : aAx p) : iJ p = some (rR p) := by
 obtain ⟨_, ⟨b1, b2, b3⟩, _⟩ := id h
 unfold iJ rR
 rw [aLe h, Option.bind_some, aW (x := p.Teeth + 1) (by omega) (by omega), aW (x := p.Teeth + 1 - p.Day) (by omega) (by omega)]
 split <;> rfl
theorem aGq {p : aH} (h : aAx p) : pI p = some (rR p) := by
 obtain ⟨_, ⟨b1, b2, b3⟩, _⟩ := id h
 unfold pI rR
 rw [aLe h, Option.bind_some, aW (x := p.Teeth + 1) (by omega) (by omega), aW (x := p.Teeth + 1 - p.Day) (by omega) (by omega)]
 split <;> rfl
theorem wW {s : dM} (h : 0 ≤ s.Dial.At ∧ s.Dial.At < s.Dial.Cam.length ∧ s.Dial.Cam.length ≤ 260) : dY s = some (vO s (aA8 s.Dial)) := by
 unfold dY vO aA8
 rw [gB (by omega), aW (x := s.Dial.At + 1) (by omega) (by omega)]
theorem uG {s : dM} (h : aAx s.Dial) : dO s = some (vO s (aBv s.Dial)) := by
 obtain ⟨_, _, hc, d1, d2⟩ := h
 have t := xC (a := s.Dial.Weekday) (n := s.Dial.Week) (by omega) (by omega)
 unfold dO vO aBv
 rw [gB (by omega), aW (by omega) (by omega)]
theorem yK {s : dM} {n : Int} (h : aAx s.Dial) (h1 : 1 ≤ n) (h2 : s.Dial.Day + n ≤ s.Dial.Teeth + 1) : eD s n = some (vO s (xQ s.Dial n)) := by
 obtain ⟨ha, ⟨b1, b2, b3⟩, hw⟩ := h
 unfold eD xQ
 rw [aW (x := s.Dial.Day + n) (by omega) (by omega), aW (x := s.Dial.Day + n - s.Dial.Teeth) (by omega) (by omega)]
 split
 ·rw [wW (by exact ha)]; rfl
 ·rfl
theorem aGe {s : dM} (h : aAx s.Dial) : dK s = some (vO s (aA6 s.Dial)) := by
 have hs := aDf h
 unfold dK
 rw [yH h, Option.bind_some, yK h hs.1 hs.2, Option.bind_some, uG (by exact aFb h hs.1 hs.2)]; rfl
theorem aF6 {s : dM} (h : aAx s.Dial) : eR s = some (vO s (aA6 s.Dial)) := by
 have hs := aDf h
 obtain ⟨ha, ⟨b1, b2, b3⟩, hw⟩ := id h
 have e : iB s (rR s.Dial) = some (vO s (xQ s.Dial (rR s.Dial))) := by
  unfold iB xQ vO
  rw [aW (x := s.Dial.Day + rR s.Dial) (by omega) (by omega), aW (x := s.Dial.Day + rR s.Dial - s.Dial.Teeth) (by omega) (by omega), gB (by omega), aW (x := s.Dial.At + 1) (by omega) (by omega)]
  split <;> rfl
 unfold eR
 have hI := aFb h hs.1 hs.2
 obtain ⟨_, _, hc, d1, d2⟩ := id hI
 have t := xC (a := (xQ s.Dial (rR s.Dial)).Weekday) (n := (xQ s.Dial (rR s.Dial)).Week) (by omega) (by omega)
 rw [aGq h, Option.bind_some, e, Option.bind_some]
 unfold aA6 aBv vO
 dsimp only
 rw [gB (by omega), aW (by omega) (by omega)]
theorem aFq {p : aH} (h : aDt p = true) (hl : p.Cam.length ≤ 1048576) : pL p = some (xQ p 1, 0) := by
 have hI := uV h
 obtain ⟨ha, ⟨b1, b2, b3⟩, hw⟩ := id hI
 unfold pL jL gV xQ
 rw [wO (by omega), h, zN hl]
 simp only [Bool.not_true, Bool.false_eq_true, if_false, Option.bind_some]
 rw [aW (x := p.Day + 1) (by omega) (by omega), aW (x := p.Day + 1 - p.Teeth) (by omega) (by omega), gB (by omega), aW (x := p.At + 1) (by omega) (by omega)]
 split <;> rfl
theorem aD2 {p : aH} (h : aDt p = true) (hl : p.Cam.length ≤ 1048576) : nB p = some (aA8 p, 0) := by
 have hI := uV h
 obtain ⟨ha, ⟨b1, b2, b3⟩, hw⟩ := id hI
 unfold nB jL aA8
 rw [wO (by omega), h, zN hl]
 simp only [Bool.not_true, Bool.false_eq_true, if_false, Option.bind_some]
 rw [gB (by omega), aW (x := p.At + 1) (by omega) (by omega)]
theorem aBr {p : aH} (h : aDt p = true) (hl : p.Cam.length ≤ 1048576) : kH p = some (aBv p, 0) := by
 have hI := uV h
 obtain ⟨ha, hb, hc, d1, d2⟩ := id hI
 have t := xC (a := p.Weekday) (n := p.Week) (by omega) (by omega)
 unfold kH jL aBv
 rw [wO (by omega), h, zN hl]
 simp only [Bool.not_true, Bool.false_eq_true, if_false, Option.bind_some]
 rw [gB (by omega), aW (by omega) (by omega)]
theorem aI8 {w : bE} (h : yX w) : sZ w = some w := by
 unfold sZ
 have hl := h.1.1
 have hm := h.2.1
 rw [gB (by simp; omega), aHx (xs := w.Arbors) (f := fun a => [a]) (c := 1) (fun v _ => by simp) (fun i hi ys hy => ?_) (fun ys => by simp) (by omega)]
 ·simp
 ·have hi' : (i : Int) < w.Arbors.length := by omega
  have hw := (h.1.2 _ (List.getElem_mem hi)).2.1
  simp only [if_pos hi', eE hi, Option.bind_some, aW (x := (i : Int) + 1) (by omega) (by omega)]
  rw [zN hw, Option.bind_some, gB (by simp at hy ⊢; omega)]
theorem aCz {m : aU} (h : gI m) : qG m = some m := by
 obtain ⟨c1, c2, c3⟩ := smC h
 unfold qG nQ
 rw [aI8 h.2.1, Option.bind_some, gB (by simp; omega), gB (by simp; omega), Option.bind_some, zN c3, Option.bind_some]
 simp
theorem aCm {s : dM} (h : mI s) : nZ s = some s := by
 have hd := h.2.2.2.2.1.1
 unfold nZ jL
 rw [aCz h.1, Option.bind_some, zN hd]; rfl
theorem uN {s : dM} (h : mI s) : jY s = some s := by
 have hd := h.2.2.2.2.1.1
 unfold jY mR
 rw [sJ h.1, Option.bind_some, aFw hd]; rfl
def aO1 (s : dM) (k : Int) : dM × Int :=
 if yA s = true then (if k = 1 then (vO s (xQ s.Dial 1), 0) else if k = 2 then (vO s (aA8 s.Dial), 0) else if k = 3 then (vO s (aBv s.Dial), 0) else (aCw, 2)) else (aCw, 1)
theorem tN {s : dM} (h : yA s = true) : aDt s.Dial = true := (oO h).2.2.2.2
theorem aGy {s : dM} (h : mI s) (k : Int) : nO s k = some (aO1 s k) := by
 unfold nO aO1
 rw [pY h, Option.bind_some]
 cases hv : yA s
 ·rfl
 ·have hp := uV (tN hv)
  have hb := hp.2.1
  rw [uN h]
  simp only [Bool.not_true, Bool.false_eq_true, if_false, if_true, Option.bind_some]
  by_cases h1 : k = 1
  ·rw [if_pos h1, if_pos h1, yK hp (by omega) (by omega)]; rfl
  ·rw [if_neg h1, if_neg h1]
   by_cases h2 : k = 2
   ·rw [if_pos h2, if_pos h2, wW hp.1]; rfl
   ·rw [if_neg h2, if_neg h2]
    by_cases h3 : k = 3
    ·rw [if_pos h3, if_pos h3, uG hp]; rfl
    ·rw [if_neg h3, if_neg h3]; rfl
theorem aH7 {s : dM} (h : mI s) (k : Int) : lR s k = some (aO1 s k) := by
 have hd := h.2.2.2.2.1.1
 unfold lR aO1
 rw [zV h, Option.bind_some]
 cases hv : yA s
 ·rfl
 ·have hp := tN hv
  rw [aCm h]
  simp only [Bool.not_true, Bool.false_eq_true, if_false, if_true, Option.bind_some]
  by_cases h1 : k = 1
  ·rw [if_pos h1, if_pos h1, aFq hp hd]; rfl
  ·rw [if_neg h1, if_neg h1]
   by_cases h2 : k = 2
   ·rw [if_pos h2, if_pos h2, aD2 hp hd]; rfl
   ·rw [if_neg h2, if_neg h2]
    by_cases h3 : k = 3
    ·rw [if_pos h3, if_pos h3, aBr hp hd]; rfl
    ·rw [if_neg h3, if_neg h3]; rfl
def aKf (s : dM) (r : Option cA) : dM × Int :=
 if yA s = true then (match r with | some d => (vO s (aAd s.Movement.Calendar s.Movement.Cam d (wdR s)).1, 0) | none => (aCw, 2)) else (aCw, 1)
theorem aRa {s : dM} (h : yA s = true) : 1 ≤ wdR s ∧ wdR s ≤ s.Movement.Calendar.Week := by
 obtain ⟨hc, hd, hf, hw, hk, _⟩ := yJ h
 have hq := uR (a := s.Clock) (g := 86400) hk.1 (by omega)
 have e : w64 (w64 (s.First - 1) + s.Clock / 86400) = s.First - 1 + s.Clock / 86400 := by
  rw [aW (x := s.First - 1) (by omega) (by omega), aW (by omega) (by omega)]
 have t := xC (a := s.First - 1 + s.Clock / 86400) (n := s.Movement.Calendar.Week) (by omega) (by omega)
 unfold wdR
 rw [e, aW (x := _ + 1) (by omega) (by omega)]
 omega
theorem aQv {s : dM} (h : yA s = true) {d : cA} (hd : aRd s (some d)) : (aAd s.Movement.Calendar s.Movement.Cam d (wdR s)).2 = 0 := by
 have hw := aRa h
 have ha := (aI6 (oO h).2.2.1).1
 rcases hd with ⟨_, e, h1, h2, _⟩ | ⟨_, h1⟩
 ·injection h1 with h1
  subst h1
  unfold aAd
  rw [if_pos ha, h2, show btw (wdR s) 1 s.Movement.Calendar.Week = true from decide_eq_true hw]; rfl
 ·cases h1
def aHw (s : dM) : dM := vO s (aA6 s.Dial)
def aM0 : Nat → dM → dM
 | 0, s => s
 | n + 1, s => aM0 n (aHw s)
abbrev aE9 : Type := ByteArray × Int × Int × Int × Int × Int × ByteArray × Int × Int × cA × Int × Int × Int × Int × Int × Int × Int × Int × List cQ × List cH × List bO × List aY × List Int × List Int
def zT (s : dM) : aE9 :=
 (s.Movement.Name, s.Movement.Minute, s.Movement.Hour, s.Movement.Escape, s.Movement.Teeth, s.Movement.Beats, s.Movement.Calendar.Name, s.Movement.Calendar.Week, s.Movement.Strike, s.Start, s.First, s.Clock, s.Dial.Months, s.Dial.Teeth, s.Dial.At, s.Dial.Day, s.Dial.Week, s.Dial.Weekday, s.Movement.Works.Arbors, s.Movement.Works.Meshes, s.Movement.Calendar.Months, s.Movement.Calendar.Rules, s.Movement.Cam, s.Dial.Cam)
def unS (x : aE9) : dM := ⟨⟨x.1, ⟨x.2.2.2.2.2.2.2.2.2.2.2.2.2.2.2.2.2.2.1, x.2.2.2.2.2.2.2.2.2.2.2.2.2.2.2.2.2.2.2.1⟩, x.2.1, x.2.2.1, x.2.2.2.1, x.2.2.2.2.1, x.2.2.2.2.2.1, ⟨x.2.2.2.2.2.2.1, x.2.2.2.2.2.2.2.2.2.2.2.2.2.2.2.2.2.2.2.2.1, x.2.2.2.2.2.2.2.2.2.2.2.2.2.2.2.2.2.2.2.2.2.1, x.2.2.2.2.2.2.2.1⟩, x.2.2.2.2.2.2.2.2.2.2.2.2.2.2.2.2.2.2.2.2.2.2.1, x.2.2.2.2.2.2.2.2.1⟩, x.2.2.2.2.2.2.2.2.2.1, x.2.2.2.2.2.2.2.2.2.2.1, x.2.2.2.2.2.2.2.2.2.2.2.1, ⟨x.2.2.2.2.2.2.2.2.2.2.2.2.2.2.2.2.2.2.2.2.2.2.2, x.2.2.2.2.2.2.2.2.2.2.2.2.1, x.2.2.2.2.2.2.2.2.2.2.2.2.2.1, x.2.2.2.2.2.2.2.2.2.2.2.2.2.2.1, x.2.2.2.2.2.2.2.2.2.2.2.2.2.2.2.1, x.2.2.2.2.2.2.2.2.2.2.2.2.2.2.2.2.1, x.2.2.2.2.2.2.2.2.2.2.2.2.2.2.2.2.2.1⟩⟩
theorem aEl {X : Type} {f : dM → X} {C : Int} {c : Nat → Int} {step : Int × X → Option ((Int × X) ⊕ X)} (N : Nat) (hN : N < 1180591620717411303424) (hS : ∀ (j : Nat) s, j < N → aAx s.Dial → s.Clock = C → step (c (j + 1), f s) = some (.inl (c j, f (aHw s)))) (hE : ∀ s, s.Clock = C → step (c 0, f s) = some (.inr (f s))) {s : dM} (hp : aAx s.Dial) (hC : s.Clock = C) : cO step (c N, f s) = some (f (aM0 N s)) := by
 have key : ∀ (n m : Nat) (s : dM), n < m → n ≤ N → aAx s.Dial → s.Clock = C → sX step m (c n, f s) = some (f (aM0 n s)) := by
  intro n
  induction n with
  | zero =>
   intro m s hm _ _ hC
   cases m with
   | zero => omega
   | succ m => simp only [sX, hE s hC]; rfl
  | succ n ih =>
   intro m s hm hn hp hC
   cases m with
   | zero => omega
   | succ m =>
    simp only [sX, hS n s (by omega) hp hC]
    exact ih m (aHw s) (by omega) (by omega) (aLk hp) hC
 exact key N aBy s hN (Nat.le_refl _) hp hC
def vN (s : dM) (k : Int) : dM := ⟨s.Movement, s.Start, s.First, k, s.Dial⟩
def gZ (s : dM) (k : Int) : Nat := ((s.Clock + k) / 86400 - s.Clock / 86400).toNat
def aT2 (st : Int × aE9) : Option ((Int × aE9) ⊕ aE9) := if 0 < st.1 then (dK (unS st.2)).bind fun v => some (.inl (w64 (st.1 - 1), zT v)) else some (.inr st.2)
def aTg (st : Int × aE9) : Option ((Int × aE9) ⊕ aE9) := if st.1 < w64 ((unS st.2).Clock.tdiv 86400) then (eR (unS st.2)).bind fun v => some (.inl (w64 (st.1 + 1), zT v)) else some (.inr st.2)
theorem aJ3 (s : dM) (k : Int) : nP s k = (gD s).bind fun v1 => if (!v1) = true then some (aCw, 0, 1) else ((cP k 0 3000000).bind fun v2 => if (!v2) = true then some true else some (decide (1000000000 < w64 (s.Clock + k)))).bind fun v3 => if v3 = true then some (aCw, 0, 2) else
  (jY s).bind fun v4 => (cO aT2 (w64 (w64 ((w64 (v4.Clock + k)).tdiv 86400) - w64 (s.Clock.tdiv 86400)), zT (vN v4 (w64 (v4.Clock + k))))).bind fun v11 => (jD (unS v11).Movement.Strike s.Clock (unS v11).Clock).bind fun v12 => some (unS v11, v12.1, 0) := rfl
theorem aJv (s : dM) (k : Int) : qE s k = (pD s).bind fun v1 => if (!v1) = true then some (aCw, 0, 1) else ((cN k 0 3000000).bind fun v2 => if (!v2) = true then some true else some (decide (1000000000 < w64 (s.Clock + k)))).bind fun v3 => if v3 = true then some (aCw, 0, 2) else
  (nZ s).bind fun v4 => (cO aTg (w64 (s.Clock.tdiv 86400), zT (vN v4 (w64 (v4.Clock + k))))).bind fun v12 => (gQ s.Movement.Strike s.Clock (unS v12).Clock).bind fun v13 => some (unS v12, v13.1, 0) := rfl
theorem aHk : ∀ (n : Nat) (s : dM), (aM0 n s).Clock = s.Clock ∧ (aM0 n s).Movement = s.Movement
 | 0, _ => ⟨rfl, rfl⟩
 | n + 1, s => aHk n (aHw s)
end Go.Proofs.YtgcdbbidmfdonaaGreat
namespace Go.Proofs.YtgcdbbidmfdonaaGreat
set_option linter.unusedVariables false
theorem aF3 {p : aH} : aDt p = true ↔ aDu p.Cam = true ∧ 1 ≤ p.Months ∧ (p.Cam.length : Int) % p.Months = 0 ∧ p.Teeth ≤ 60 ∧ (∀ v ∈ p.Cam, v ≤ p.Teeth) ∧ (0 ≤ p.At ∧ p.At < p.Cam.length) ∧ (1 ≤ p.Day ∧ p.Day ≤ p.Teeth) ∧ (1 ≤ p.Week ∧ p.Week ≤ 12) ∧ (1 ≤ p.Weekday ∧ p.Weekday ≤ p.Week) := by
 unfold aDt btw
 simp only [Bool.and_eq_true, decide_eq_true_eq, List.all_eq_true]
def xJ (p q : aH) : Prop := q.Cam = p.Cam ∧ q.Months = p.Months ∧ q.Teeth = p.Teeth ∧ q.Week = p.Week
theorem xJ.refl (p : aH) : xJ p p := ⟨rfl, rfl, rfl, rfl⟩
theorem xJ.trans {p q r : aH} (h : xJ p q) (k : xJ q r) : xJ p r := ⟨k.1.trans h.1, k.2.1.trans h.2.1, k.2.2.1.trans h.2.2.1, k.2.2.2.trans h.2.2.2⟩
theorem aPd {p q : aH} (h : aDt p = true) (k : xJ p q) (i : aAx q) : aDt q = true := by
 obtain ⟨h1, h2, h3, h4, h5, _, _, h8, _⟩ := aF3.1 h
 obtain ⟨k1, k2, k3, k4⟩ := k
 obtain ⟨⟨a1, a2, _⟩, ⟨b1, b2, _⟩, _, d1, d2⟩ := i
 refine aF3.2 ⟨?_, ?_, ?_, ?_, ?_, ⟨a1, a2⟩, ⟨b1, b2⟩, ?_, d1, d2⟩
 ·rw [k1]; exact h1
 ·rw [k2]; exact h2
 ·rw [k1, k2]; exact h3
 ·rw [k3]; exact h4
 ·rw [k1, k3]; exact h5
 ·rw [k4]; exact h8
theorem aG4 (p : aH) (n : Int) : xJ p (xQ p n) := by unfold xQ; split <;> exact ⟨rfl, rfl, rfl, rfl⟩
theorem aMr (p : aH) : xJ p (aA8 p) := ⟨rfl, rfl, rfl, rfl⟩
theorem aIg (p : aH) : xJ p (aBv p) := ⟨rfl, rfl, rfl, rfl⟩
theorem aMw (p : aH) : xJ p (aA6 p) := (aG4 p _).trans (aIg _)
def vM : Nat → aH → aH
 | 0, p => p
 | n + 1, p => vM n (aA6 p)
theorem aK7 : ∀ (n : Nat) {p : aH}, aAx p → aAx (vM n p)
 | 0, _, h => h
 | n + 1, _, h => aK7 n (aLk h)
theorem xV : ∀ (n : Nat) (p : aH), xJ p (vM n p)
 | 0, p => .refl p
 | n + 1, p => (aMw p).trans (xV n _)
theorem aE2 : ∀ (m n : Nat) (p : aH), vM (m + n) p = vM n (vM m p)
 | 0, n, p => by rw [Nat.zero_add]; rfl
 | m + 1, n, p => by rw [show m + 1 + n = (m + n) + 1 by omega]; exact aE2 m n (aA6 p)
theorem aHj : ∀ (n : Nat) (s : dM), aM0 n s = vO s (vM n s.Dial)
 | 0, s => rfl
 | n + 1, s => aHj n (aHw s)
def atS (s : dM) (c : Int) (p : aH) : dM := ⟨s.Movement, s.Start, s.First, c, p⟩
theorem aFp {s : dM} (h : yA s = true) {c : Int} {p : aH} (h0 : 0 ≤ c) (h1 : c ≤ 1000000000) (k : xJ s.Dial p) (i : aAx p) : yA (atS s c p) = true := by
 have hp := aPd (tN h) k i
 obtain ⟨k1, k2, k3, k4⟩ := k
 unfold yA at h ⊢
 simp only [Bool.and_eq_true, decide_eq_true_eq] at h ⊢
 obtain ⟨g1, g2, g3, g4, g5, g6, g7, g8, g9⟩ := h
 exact ⟨g1, g2, g3, decide_eq_true ⟨h0, h1⟩, hp, k1.trans g6, k2.trans g7, k3.trans g8, k4.trans g9⟩
theorem aLl {s : dM} (h : mI s) {c : Int} {p : aH} (hp : p.Cam.length ≤ 1048576) : mI (atS s c p) := by
 obtain ⟨h1, h2, h3, h4, h5⟩ := h
 exact ⟨h1, h2, h3, h4, ⟨hp, fun _ _ => trivial⟩, trivial, trivial, trivial, trivial, trivial, trivial⟩
def aA5 (s : dM) (k : Int) : dM := atS s (s.Clock + k) (vM (gZ s k) s.Dial)
theorem aSv (s : dM) (k : Int) : aM0 (gZ s k) (vN s (s.Clock + k)) = aA5 s k := aHj _ _
theorem aJs {s : dM} (h : mI s) (k : Int) : mI (aA5 s k) := aLl h (by rw [(xV _ _).1]; exact h.2.2.2.2.1.1)
theorem aOl {s : dM} (h : yA s = true) {k : Int} (h0 : 0 ≤ k) (h1 : s.Clock + k ≤ 1000000000) : yA (aA5 s k) = true := by
 have hc := (oO h).2.2.2.1
 exact aFp h (by omega) h1 (xV _ _) (aK7 _ (uV (tN h)))
theorem aQk {s : dM} (hc : 0 ≤ s.Clock) {a b : Int} (ha : 0 ≤ a) (hb : 0 ≤ b) : aA5 (aA5 s a) b = aA5 s (a + b) := by
 have q1 : s.Clock / 86400 ≤ (s.Clock + a) / 86400 := Int.ediv_le_ediv (by omega) (by omega)
 have q2 : (s.Clock + a) / 86400 ≤ (s.Clock + a + b) / 86400 := Int.ediv_le_ediv (by omega) (by omega)
 have e : gZ s (a + b) = gZ s a + gZ (aA5 s a) b := by
  have e1 : (aA5 s a).Clock = s.Clock + a := rfl
  unfold gZ
  rw [e1, ← Int.add_assoc]
  omega
 have e2 : (aA5 s a).Clock + b = s.Clock + (a + b) := by show s.Clock + a + b = _; omega
 have e3 : vM (gZ (aA5 s a) b) (aA5 s a).Dial = vM (gZ s (a + b)) s.Dial := by rw [e, aE2]; rfl
 show atS (aA5 s a) ((aA5 s a).Clock + b) (vM (gZ (aA5 s a) b) (aA5 s a).Dial) = _
 rw [e2, e3]; rfl
def sA (h : Int) : Int := h / 12 * 78 + h % 12 * (h % 12 + 1) / 2
def yV (st a b : Int) : Int := if st = 0 then 0 else sA (b / 3600) - sA (a / 3600)
theorem vD {h : Int} (h0 : 0 ≤ h) (h1 : h ≤ 300000) : 0 ≤ sA h ∧ sA h ≤ 78 * 25000 + 66 := by
 unfold sA
 have hr := Int.emod_nonneg h (show (12 : Int) ≠ 0 by omega)
 have hl := Int.emod_lt_of_pos h (show (0 : Int) < 12 by omega)
 have hp : 0 ≤ h % 12 * (h % 12 + 1) ∧ h % 12 * (h % 12 + 1) ≤ 11 * 12 := ⟨Int.mul_nonneg hr (by omega), Int.mul_le_mul (by omega) (by omega) (by omega) (by omega)⟩
 omega
theorem aDo {a b : Int} (h0 : 0 ≤ a) (h1 : a ≤ b) : sA a ≤ sA b := by
 have step : ∀ x : Int, 0 ≤ x → sA x ≤ sA (x + 1) := fun x hx => by
  unfold sA
  have hr := Int.emod_nonneg x (show (12 : Int) ≠ 0 by omega)
  have hl := Int.emod_lt_of_pos x (show (0 : Int) < 12 by omega)
  generalize er : x % 12 = r at hr hl
  have e : (r = 11 ∧ (x + 1) % 12 = 0 ∧ (x + 1) / 12 = x / 12 + 1) ∨ ((x + 1) % 12 = r + 1 ∧ (x + 1) / 12 = x / 12) := by omega
  rcases e with ⟨e1, e2, e3⟩ | ⟨e2, e3⟩
  ·rw [e2, e3, e1]; omega
  ·rw [e2, e3]
   have : r = 0 ∨ r = 1 ∨ r = 2 ∨ r = 3 ∨ r = 4 ∨ r = 5 ∨ r = 6 ∨ r = 7 ∨ r = 8 ∨ r = 9 ∨ r = 10 ∨ r = 11 := by omega
   rcases this with rfl | rfl | rfl | rfl | rfl | rfl | rfl | rfl | rfl | rfl | rfl | rfl <;> omega
 obtain ⟨n, rfl⟩ : ∃ n : Nat, b = a + n := ⟨(b - a).toNat, by omega⟩
 clear h1
 induction n with
 | zero => simp
 | succ n ih =>
  have := step (a + n) (by omega)
  rw [show a + ((n + 1 : Nat) : Int) = a + n + 1 by push_cast; omega]
  omega
theorem aFo {st a b : Int} (h0 : 0 ≤ a) (h1 : a ≤ b) (h2 : b ≤ 1000000000) : 0 ≤ yV st a b ∧ yV st a b ≤ 78 * 25000 + 66 := by
 unfold yV
 split
 ·omega
 ·have ha := vD (h := a / 3600) (by omega) (by omega)
  have hb := vD (h := b / 3600) (by omega) (by omega)
  have hm := aDo (a := a / 3600) (b := b / 3600) (by omega) (by omega)
  omega
theorem aO0 {st a b c : Int} : yV st a b + yV st b c = yV st a c := by
 unfold yV; split <;> omega
theorem aJg {st a : Int} (h0 : 0 ≤ a) (h1 : a ≤ 204000) : yV st 0 a ≤ 10000 := by
 unfold yV
 split
 ·omega
 ·have hm := aDo (a := a / 3600) (b := 56) (by omega) (by omega)
  have e1 : sA 56 = 348 := by decide
  have e2 : sA (0 / 3600) = 0 := by decide
  omega
theorem zK {h : Int} (h0 : 0 ≤ h) (h1 : h ≤ 300000) : mF h = some (sA h) := by
 have hr := Int.emod_nonneg h (show (12 : Int) ≠ 0 by omega)
 have hl := Int.emod_lt_of_pos h (show (0 : Int) < 12 by omega)
 have hp : 0 ≤ h % 12 * (h % 12 + 1) ∧ h % 12 * (h % 12 + 1) ≤ 11 * 12 := ⟨Int.mul_nonneg hr (by omega), Int.mul_le_mul (by omega) (by omega) (by omega) (by omega)⟩
 have hq := vD h0 h1
 unfold mF
 rw [Int.tdiv_eq_ediv_of_nonneg h0, Int.tmod_eq_emod_of_nonneg h0, aW (x := h / 12) (by omega) (by omega), aW (x := h / 12 * 78) (by omega) (by omega), aW (x := h % 12 + 1) (by omega) (by omega), aW (x := h % 12 * (h % 12 + 1)) (by omega) (by omega), Int.tdiv_eq_ediv_of_nonneg hp.1, aW (x := h % 12 * (h % 12 + 1) / 2) (by omega) (by omega)]
 unfold sA at hq ⊢
 rw [aW (by omega) (by omega)]
theorem aMb {st a b : Int} (hs : 0 ≤ st ∧ st ≤ 2) (h0 : 0 ≤ a) (h1 : a ≤ b) (h2 : b ≤ 1000000000) : gQ st a b = some (yV st a b, 0) := by
 have e1 : btw st 0 2 = true := decide_eq_true hs
 have e2 : btw a 0 b = true := decide_eq_true ⟨h0, h1⟩
 have ha := vD (h := a / 3600) (by omega) (by omega)
 have hb := vD (h := b / 3600) (by omega) (by omega)
 unfold gQ yV
 simp only [eC, Option.bind_some, e1, e2, Bool.not_true, Bool.false_eq_true, if_false]
 rw [Int.tdiv_eq_ediv_of_nonneg (show 0 ≤ b by omega), Int.tdiv_eq_ediv_of_nonneg h0, aW (x := b / 3600) (by omega) (by omega), aW (x := a / 3600) (by omega) (by omega), zK (by omega) (by omega), zK (by omega) (by omega)]
 have h3 : decide (1000000000 < b) = false := decide_eq_false (by omega)
 simp only [h3, Bool.false_eq_true, if_false, Option.bind_some]
 by_cases h : st = 0
 ·rw [if_pos h, if_pos h]
 ·rw [if_neg h, if_neg h, aW (by omega) (by omega)]
theorem aCt {m : aU} (h : vY m = true) : 0 ≤ m.Strike ∧ m.Strike ≤ 2 := by
 unfold vY at h
 simp only [Bool.and_eq_true] at h
 exact of_decide_eq_true h.2.2.2.2.2.2.2.2.2
theorem aLm {s : dM} (h : mI s) (hb : yA s = true) {k : Int} (k0 : 0 ≤ k) (k1 : k ≤ 3000000) (k2 : s.Clock + k ≤ 1000000000) : qE s k = some (aA5 s k, yV s.Movement.Strike s.Clock (s.Clock + k), 0) ∧ nP s k = some (aA5 s k, yV s.Movement.Strike s.Clock (s.Clock + k), 0) := by
 rw [aJv, aJ3, zV h, pY h, Option.bind_some, Option.bind_some]
 rw [hb]
 simp only [eC, fB, Option.bind_some, Bool.not_true, Bool.false_eq_true, if_false, aCm h, uN h]
 have h1 : btw k 0 3000000 = true := decide_eq_true ⟨k0, k1⟩
 obtain ⟨hc, hd, hf, hw, hk, hpb⟩ := yJ hb
 have hp := uV hpb
 rw [h1, aW (x := s.Clock + k) (by omega) (by omega)]
 simp only [Bool.not_true, Bool.false_eq_true, if_false, Option.bind_some]
 have h2 : ¬ 1000000000 < s.Clock + k := by omega
 have q1 := uR (a := s.Clock) (g := 86400) hk.1 (by omega)
 have q2 := uR (a := s.Clock + k) (g := 86400) (by omega) (by omega)
 have q3 : s.Clock / 86400 ≤ (s.Clock + k) / 86400 := Int.ediv_le_ediv (by omega) (by omega)
 have e1 : s.Clock.tdiv 86400 = s.Clock / 86400 := Int.tdiv_eq_ediv_of_nonneg hk.1
 have e2 : (s.Clock + k).tdiv 86400 = (s.Clock + k) / 86400 := Int.tdiv_eq_ediv_of_nonneg (by omega)
 have w1 : w64 (s.Clock / 86400) = s.Clock / 86400 := aW (by omega) (by omega)
 have w2 : w64 ((s.Clock + k) / 86400) = (s.Clock + k) / 86400 := aW (by omega) (by omega)
 have hN : ((gZ s k : Nat) : Int) = (s.Clock + k) / 86400 - s.Clock / 86400 := by unfold gZ; omega
 have L1 : cO aT2 ((gZ s k : Nat), zT (vN s (s.Clock + k))) = some (zT (aM0 (gZ s k) (vN s (s.Clock + k)))) := by
  refine aEl (f := zT) (C := s.Clock + k) (c := fun j => (j : Int)) (gZ s k) (by omega) (fun j u hj hu hc => ?_) (fun u hc => ?_) hp rfl
  ·show (if 0 < ((j + 1 : Nat) : Int) then (dK u).bind fun v => some (.inl (w64 (((j + 1 : Nat) : Int) - 1), zT v)) else some (.inr (zT u)) : Option ((Int × aE9) ⊕ aE9)) = _
   rw [if_pos (by omega), aGe hu, Option.bind_some, aW (by omega) (by omega), show ((j + 1 : Nat) : Int) - 1 = (j : Int) by omega]; rfl
  ·rfl
 have L2 : cO aTg (s.Clock / 86400, zT (vN s (s.Clock + k))) = some (zT (aM0 (gZ s k) (vN s (s.Clock + k)))) := by
  have e0 : s.Clock / 86400 = (s.Clock + k) / 86400 - ((gZ s k : Nat) : Int) := by omega
  rw [e0]
  refine aEl (f := zT) (C := s.Clock + k) (c := fun j => (s.Clock + k) / 86400 - (j : Int)) (gZ s k) (by omega) (fun j u hj hu hc => ?_) (fun u hc => ?_) hp rfl
  ·show (if (s.Clock + k) / 86400 - ((j + 1 : Nat) : Int) < w64 (u.Clock.tdiv 86400) then (eR u).bind fun v => some (.inl (w64 ((s.Clock + k) / 86400 - ((j + 1 : Nat) : Int) + 1), zT v)) else some (.inr (zT u)) : Option ((Int × aE9) ⊕ aE9)) = _
   rw [hc, e2, w2, if_pos (by omega), aF6 hu, Option.bind_some, aW (by omega) (by omega), show (s.Clock + k) / 86400 - ((j + 1 : Nat) : Int) + 1 = (s.Clock + k) / 86400 - (j : Int) by omega]; rfl
  ·show (if (s.Clock + k) / 86400 - ((0 : Nat) : Int) < w64 (u.Clock.tdiv 86400) then (eR u).bind fun v => some (.inl (w64 ((s.Clock + k) / 86400 - ((0 : Nat) : Int) + 1), zT v)) else some (.inr (zT u)) : Option ((Int × aE9) ⊕ aE9)) = _
   rw [hc, e2, w2, if_neg (by omega)]
 have hv := aMb (aCt (oO hb).1) hk.1 (b := s.Clock + k) (by omega) k2
 have hiv : jD s.Movement.Strike s.Clock (s.Clock + k) = some (yV s.Movement.Strike s.Clock (s.Clock + k), 0) := hv
 have kp := aHk (gZ s k) (vN s (s.Clock + k))
 have u1 : (unS (zT (aM0 (gZ s k) (vN s (s.Clock + k))))).Clock = s.Clock + k := kp.1
 have u2 : (unS (zT (aM0 (gZ s k) (vN s (s.Clock + k))))).Movement.Strike = s.Movement.Strike := by
  show (aM0 (gZ s k) (vN s (s.Clock + k))).Movement.Strike = _
  rw [kp.2]; rfl
 simp only [decide_eq_false h2, Bool.false_eq_true, if_false, e1, e2, w1, w2]
 rw [aW (x := _ - _) (by omega) (by omega), ← hN, L1, L2, Option.bind_some, Option.bind_some, u1, u2, hv, hiv, ← aSv]
 exact ⟨rfl, rfl⟩
theorem aJd {ms : List bO} : ∀ {t : Int}, t ≤ ms.foldl sV t ∧ (∀ m ∈ ms, m.Days ≤ ms.foldl sV t ∧ m.Leap ≤ ms.foldl sV t) ∧ (t ≤ 60 → (∀ m ∈ ms, m.Days ≤ 60 ∧ m.Leap ≤ 60) → ms.foldl sV t ≤ 60) := by
 induction ms with
 | nil => intro t; exact ⟨by simp, fun m hm => by simp at hm, fun h _ => h⟩
 | cons m ms ih =>
  intro t
  rw [List.foldl_cons]
  obtain ⟨h1, h2, h3⟩ := ih (t := sV t m)
  have e : sV t m = max (max t m.Days) m.Leap := rfl
  refine ⟨by omega, fun n hn => ?_, fun h0 hm => ?_⟩
  ·rcases List.mem_cons.1 hn with rfl | hn
   ·omega
   ·exact h2 n hn
  ·have := hm m (List.mem_cons_self ..)
   exact h3 (by omega) fun n hn => hm n (List.mem_cons_of_mem _ hn)
theorem aNp {c : aB} {cam : List Int} (hc : nJ c = true) (hm : aDu cam = true) : (∀ v ∈ cam, v ≤ yQ c cam) ∧ (∀ m ∈ c.Months, m.Days ≤ yQ c cam ∧ m.Leap ≤ yQ c cam) ∧ yQ c cam ≤ 60 := by
 obtain ⟨h1, h2, h3⟩ := oE hm
 have g := vH (xs := cam) (a := 0)
 have hx : aMm cam ≤ 60 := by
  rcases g.2.2 with e | e
  ·show cam.foldl max 0 ≤ 60; rw [e]; decide
  ·exact (h1 _ e).2
 obtain ⟨t1, t2, t3⟩ := aJd (ms := c.Months) (t := aMm cam)
 refine ⟨fun v hv => ?_, t2, t3 hx fun m hm => ?_⟩
 ·have : v ≤ aMm cam := g.2.1 v hv
  exact Int.le_trans this t1
 ·have := aIn hc hm; omega
def yU (c : aB) (cam : List Int) (y m : Int) : Int := y % ((cam.length : Int) / c.Months.length) * c.Months.length + m - 1
theorem aRs {c : aB} {cam : List Int} (ha : xZ c cam = 0) : (cam.length : Int) / c.Months.length * c.Months.length = cam.length := by
 obtain ⟨_, _, h, _⟩ := pS ha
 exact Int.ediv_mul_cancel (Int.dvd_of_emod_eq_zero h)
theorem aBx {c : aB} {cam : List Int} (ha : xZ c cam = 0) {y m : Int} (h1 : 1 ≤ m) (h2 : m ≤ c.Months.length) : 0 ≤ yU c cam y m ∧ yU c cam y m < cam.length ∧ 0 ≤ y % ((cam.length : Int) / c.Months.length) * c.Months.length ∧ y % ((cam.length : Int) / c.Months.length) * c.Months.length ≤ cam.length - c.Months.length ∧ yU c cam y m % c.Months.length = m - 1 := by
 obtain ⟨_, _, h, k1, k2⟩ := pS ha
 have e := aRs ha
 unfold yU
 have a1 := Int.emod_nonneg y (show (cam.length : Int) / c.Months.length ≠ 0 by omega)
 have a2 := Int.emod_lt_of_pos y (show 0 < (cam.length : Int) / c.Months.length by omega)
 generalize y % ((cam.length : Int) / c.Months.length) = q at *
 generalize (cam.length : Int) / c.Months.length = k at *
 have b1 : 0 ≤ q * (c.Months.length : Int) := Int.mul_nonneg a1 (by omega)
 have b2 : q * (c.Months.length : Int) ≤ (k - 1) * c.Months.length := Int.mul_le_mul_of_nonneg_right (by omega) (by omega)
 rw [Int.sub_mul, e] at b2
 refine ⟨by omega, by omega, b1, by omega, ?_⟩
 rw [show q * (c.Months.length : Int) + m - 1 = (m - 1) + q * (c.Months.length : Int) by omega, Int.add_mul_emod_self_right]
 exact Int.emod_eq_of_lt (by omega) (by omega)
def aJn (c : aB) (cam : List Int) (d : cA) (wd : Int) : aH := ⟨cam, c.Months.length, yQ c cam, yU c cam d.Year d.Month, d.Day, c.Week, wd⟩
theorem aHi {c : aB} {cam : List Int} {d : cA} {wd : Int} (ha : xZ c cam = 0) (hd : lQ c d = true) (h1 : 1 ≤ wd) (h2 : wd ≤ c.Week) : aAd c cam d wd = (aJn c cam d wd, 0) := by
 obtain ⟨hc, hm, _⟩ := pS ha
 obtain ⟨g1, g2, g3⟩ := iW.1 hd
 obtain ⟨n1, n2, n3, n4, _⟩ := aBx ha (y := d.Year) g2.1 g2.2
 have hl := (oE hm).2.2
 have hw : btw wd 1 c.Week = true := decide_eq_true ⟨h1, h2⟩
 unfold aAd aJn yU
 rw [if_pos ha, hd, hw, Bool.and_self, if_pos rfl, Int.tmod_eq_emod_of_nonneg g1.1, aW (x := _ * _) (by omega) (by omega), aW (x := _ + _) (by omega) (by omega), aW (x := _ - _) (by omega) (by omega)]
theorem aRj {c : aB} {cam : List Int} {d : cA} {wd : Int} (ha : xZ c cam = 0) (hd : lQ c d = true) (h1 : 1 ≤ wd) (h2 : wd ≤ c.Week) : aAx (aJn c cam d wd) ∧ aDt (aJn c cam d wd) = true := by
 obtain ⟨hc, hm, hz, _⟩ := pS ha
 obtain ⟨g1, g2, g3⟩ := iW.1 hd
 obtain ⟨n1, n2, n3, n4, _⟩ := aBx ha (y := d.Year) g2.1 g2.2
 have hl := (oE hm).2.2
 obtain ⟨t1, t2, t3⟩ := aNp hc hm
 obtain ⟨_, m1, _, m2, _⟩ := eK hc
 have hq : tD c (jB c d.Year) (d.Month - 1) ≤ yQ c cam := by
  have := t2 _ (tW (c := c) (k := d.Month - 1) (by omega) (by omega)).2
  unfold tD
  split
  ·exact this.2
  ·exact this.1
 refine ⟨⟨⟨n1, n2, hl⟩, ⟨g3.1, by show d.Day ≤ yQ c cam; omega, t3⟩, m2, h1, h2⟩, aF3.2 ⟨hm, by show (1 : Int) ≤ c.Months.length; omega, hz, t3, t1, ⟨n1, n2⟩, ⟨g3.1, by show d.Day ≤ yQ c cam; omega⟩, m2, h1, h2⟩⟩
theorem aNs {s : dM} (h : mI s) (hb : yA s = true) {k : Int} (k0 : 1 ≤ k) (k1 : k ≤ 3) : ∃ p, nO s k = some (atS s s.Clock p, 0) ∧ lR s k = some (atS s s.Clock p, 0) ∧ xJ s.Dial p ∧ aAx p := by
 have hp := uV (tN hb)
 rw [aGy h, aH7 h]
 unfold aO1
 rw [if_pos hb]
 have hb := hp.2.1
 by_cases h1 : k = 1
 ·rw [if_pos h1]; exact ⟨xQ s.Dial 1, rfl, rfl, aG4 _ _, aFb hp (by omega) (by omega)⟩
 ·rw [if_neg h1]
  by_cases h2 : k = 2
  ·rw [if_pos h2]; exact ⟨aA8 s.Dial, rfl, rfl, aMr _, aQn hp⟩
  ·rw [if_neg h2, if_pos (by omega)]; exact ⟨aBv s.Dial, rfl, rfl, aIg _, aPj hp⟩
theorem aT8 {s : dM} (h : mI s) (hb : yA s = true) : ∃ r, aRd s r ∧ pF s = some (match r with
  | some d => (d, 0)
  | none => (⟨0, 0, 0⟩, 2)) ∧ lH s = some (aKf s r) := by
 obtain ⟨c1, c2, c3⟩ := smC h.1
 obtain ⟨a, a1, a2⟩ := yN h hb
 refine ⟨a, a1, ?_⟩
 unfold pF lH aKf
 rw [pY h, Option.bind_some, hb, a2]
 cases a with
 | none => exact ⟨rfl, rfl⟩
 | some d =>
  have hz := aQv hb a1
  simp only [Bool.not_true, Bool.false_eq_true, if_false, Option.bind_some, if_true, uN h, sT (c := s.Movement.Calendar) (cam := s.Movement.Cam) (by omega) (by omega) c3, ne_eq, not_true_eq_false, hz]
  refine ⟨?_, ?_⟩ <;> first | trivial | rfl
theorem aL8 {s : dM} (h : mI s) (hb : yA s = true) {d : cA} (hd : aRd s (some d)) : gS s = some (decide (s.Dial.Day = d.Day ∧ s.Dial.At % s.Dial.Months + 1 = d.Month) && decide (s.Dial.Weekday = wdR s)) := by
 have hp := uV (tN hb)
 have hm := aJi (tN hb)
 obtain ⟨a, a1, a2⟩ := yN h hb
 have := aQb hb a1 hd
 subst this
 unfold gS
 rw [pY h, Option.bind_some, hb, a2]
 simp only [Bool.not_true, Bool.false_eq_true, if_false, Option.bind_some, if_true]
 unfold zC oF
 rw [gB (by omega), Int.tmod_eq_emod_of_nonneg hp.1.1]
 have hr := Int.emod_nonneg s.Dial.At (show s.Dial.Months ≠ 0 by omega)
 have hr2 : s.Dial.At % s.Dial.Months ≤ s.Dial.At := by
  by_cases q : s.Dial.At < s.Dial.Months
  ·rw [Int.emod_eq_of_lt hp.1.1 q]; omega
  ·have := Int.emod_lt_of_pos s.Dial.At (show 0 < s.Dial.Months by omega); omega
 have hl := hp.1
 rw [aW (by omega) (by omega)]
 by_cases e1 : s.Dial.Day = d.Day <;> by_cases e2 : s.Dial.At % s.Dial.Months + 1 = d.Month <;> simp [e1, e2]
theorem aLt {s : dM} (h : mI s) (hb : yA s = true) {d : cA} (hd : aRd s (some d)) : gS (aKf s (some d)).1 = some true ∧ (aKf s (some d)).2 = 0 ∧ (aKf s (some d)).1.Clock = s.Clock := by
 obtain ⟨c1, c2, c3⟩ := smC h.1
 obtain ⟨f1, f2, f3, _⟩ := oO hb
 obtain ⟨hc, hst, hf, _⟩ := yJ hb
 have ha := (aI6 f3).1
 have hw := aRa hb
 obtain ⟨_, e, h1, h2, h3⟩ | ⟨_, h1⟩ := hd
 ·injection h1 with h1
  subst h1
  have z := aHi (cam := s.Movement.Cam) ha h2 hw.1 hw.2
  have z0 := aHi (cam := s.Movement.Cam) ha hst hf.1 hf.2
  have hI := aRj (cam := s.Movement.Cam) ha h2 hw.1 hw.2
  unfold aKf
  rw [if_pos hb]
  show gS (vO s (aAd s.Movement.Calendar s.Movement.Cam d (wdR s)).1) = some true ∧ (0 : Int) = 0 ∧ s.Clock = s.Clock
  rw [z]
  refine ⟨?_, rfl, rfl⟩
  have hk : xJ s.Dial (aJn s.Movement.Calendar s.Movement.Cam d (wdR s)) := by
   unfold yA at hb
   simp only [Bool.and_eq_true, decide_eq_true_eq] at hb
   obtain ⟨_, _, _, _, _, g6, g7, g8, g9⟩ := hb
   rw [z0] at g7 g8 g9
   exact ⟨g6.symm, g7.symm, g8.symm, g9.symm⟩
  have hc0 := (oO hb).2.2.2.1
  have hb' : yA (atS s s.Clock (aJn s.Movement.Calendar s.Movement.Cam d (wdR s))) = true := aFp hb hc0.1 hc0.2 hk hI.1
  have hs' : mI (atS s s.Clock (aJn s.Movement.Calendar s.Movement.Cam d (wdR s))) := aLl h c3
  have hd' : aRd (atS s s.Clock (aJn s.Movement.Calendar s.Movement.Cam d (wdR s))) (some d) := .inl ⟨by assumption, d, rfl, h2, h3⟩
  have := aL8 hs' hb' hd'
  obtain ⟨_, g2, _⟩ := iW.1 h2
  have hn := (aBx (y := d.Year) ha g2.1 g2.2).2.2.2.2
  show gS (atS s s.Clock (aJn s.Movement.Calendar s.Movement.Cam d (wdR s))) = some true
  rw [this]
  have e1 : (atS s s.Clock (aJn s.Movement.Calendar s.Movement.Cam d (wdR s))).Dial.At % (atS s s.Clock (aJn s.Movement.Calendar s.Movement.Cam d (wdR s))).Dial.Months + 1 = d.Month := by
   show yU s.Movement.Calendar s.Movement.Cam d.Year d.Month % (s.Movement.Calendar.Months.length : Int) + 1 = d.Month
   omega
  have e2 : (atS s s.Clock (aJn s.Movement.Calendar s.Movement.Cam d (wdR s))).Dial.Weekday = wdR (atS s s.Clock (aJn s.Movement.Calendar s.Movement.Cam d (wdR s))) := rfl
  have e3 : (atS s s.Clock (aJn s.Movement.Calendar s.Movement.Cam d (wdR s))).Dial.Day = d.Day := rfl
  simp [e1, e2, e3]
 ·cases h1
end Go.Proofs.YtgcdbbidmfdonaaGreat
namespace Go.Proofs.YtgcdbbidmfdonaaGreat
set_option linter.unusedVariables false
end Go.Proofs.YtgcdbbidmfdonaaGreat
namespace Go.Proofs.YtgcdbbidmfdonaaGreat
set_option linter.unusedVariables false
set_option maxRecDepth 100000
def aPo (n : Int) : ByteArray := ⟨(Lib.itoa n).toArray⟩
theorem aN6 {n : Int} (h : osI n) : (aPo n).size ≤ 21 := by
 have := Lib.itoa_length_le n h.1 h.2
 simpa [aPo, ByteArray.size] using this
def dgs (u : Nat) : List Int := if h : u = 0 then [] else dgs (u / 10) ++ [48 + ((u % 10 : Nat) : Int)]
termination_by u
decreasing_by omega
theorem yC : dgs 0 = [] := by rw [dgs, dif_pos rfl]
theorem aFk {u : Nat} (h : u ≠ 0) : dgs u = dgs (u / 10) ++ [48 + ((u % 10 : Nat) : Int)] := by rw [dgs, dif_neg h]
theorem aQ5 (d : Nat) (h : d < 10) : UInt8.ofNat (48 + (d : Int)).toNat = 48 + UInt8.ofNat d := by
 rw [show (48 + (d : Int)).toNat = 48 + d by omega, UInt8.ofNat_add]
 rfl
theorem aSg : ∀ (u : Nat), u ≠ 0 → (strOfNums (dgs u)).data.toList = Lib.decDigits u := by
 intro u
 induction u using Nat.strongRecOn with
 | _ u ih =>
  intro h
  rw [aFk h, Lib.decDigits]
  by_cases h1 : u < 10
  ·rw [dif_pos h1, show u / 10 = 0 by omega, yC, show u % 10 = u by omega]
   simp [strOfNums]
   exact aQ5 u (by omega)
  ·rw [dif_neg h1, ← ih (u / 10) (by omega) (by omega)]
   simp [strOfNums]
   exact aQ5 (u % 10) (by omega)
theorem aJb : ∀ (k u : Nat), u < 10 ^ k → (dgs u).length ≤ k
 | 0, u, h => by
  have : u = 0 := by simpa using h
  subst this
  rw [yC]; exact Nat.le_refl _
 | k + 1, u, h => by
  by_cases h0 : u = 0
  ·subst h0; rw [yC]; exact Nat.zero_le _
  ·rw [aFk h0, List.length_append]
   have := aJb k (u / 10) (by rw [Nat.pow_succ] at h; omega)
   simp; omega
theorem aDh {n : Int} (hn : osI n) : nL n = some (aPo n) := by
 obtain ⟨h0, h1⟩ := hn
 unfold nL
 rw [aB5 (x := dgs n.natAbs) (fun s : Int × List Int => osI s.1 ∧ dgs s.1.natAbs ++ s.2 = dgs n.natAbs) (fun s => s.1.natAbs) (fun s hs => ?_) (s0 := (n, [])) ⟨⟨h0, h1⟩, by simp⟩ (by dsimp only; omega)]
 ·simp only [Option.bind_some]
  by_cases hz : n = 0
  ·subst hz
   rw [Int.natAbs_zero, yC, if_pos (by simp)]
   simp [aPo, Lib.itoa, Lib.decDigits]
  ·have hp : n.natAbs ≠ 0 := by omega
   have hl : (dgs n.natAbs).length ≠ 0 := by rw [aFk hp]; simp
   have hL := aJb 19 n.natAbs (by omega)
   have e := aSg n.natAbs hp
   have es : strOfNums (dgs n.natAbs) = ⟨(Lib.decDigits n.natAbs).toArray⟩ := by rw [← e]
   rw [if_neg (by omega)]
   split
   ·rename_i hneg
    rw [gB (by simp [strOfNums, ByteArray.size]; omega), es]
    simp only [aPo, Lib.itoa, if_pos hneg]
    congr 1
   ·rename_i hneg
    rw [es]
    simp only [aPo, Lib.itoa, if_neg hneg]
    rw [show n.toNat = n.natAbs by omega]
 ·obtain ⟨k, out⟩ := s
  obtain ⟨⟨a0, a1⟩, a2⟩ := hs
  simp only at a0 a1 a2 ⊢
  by_cases hk : k = 0
  ·right
   subst hk
   rw [Int.natAbs_zero, yC] at a2
   simp at a2 ⊢
   exact a2
  ·left
   rw [if_pos hk]
   have hd : (if k.tmod 10 < 0 then some (w64 (-(k.tmod 10))) else some (k.tmod 10)) = some (((k.natAbs % 10 : Nat)) : Int) := by
    have e1 : ((k.tmod 10).natAbs) = k.natAbs % 10 := Int.natAbs_tmod _ _
    split
    ·rw [aW (by omega) (by omega)]; congr 1; omega
    ·congr 1; omega
   rw [hd]
   simp only [Option.bind_some]
   have hL : (dgs n.natAbs).length ≤ 19 := aJb 19 n.natAbs (by omega)
   have hle : out.length ≤ 19 := by rw [← a2] at hL; simp at hL; omega
   have ew : IntKind.u8.wrap (w64 (48 + ((k.natAbs % 10 : Nat) : Int))) = 48 + ((k.natAbs % 10 : Nat) : Int) := by
    rw [aW (by omega) (by omega)]
    exact IntWalk.u8_in _ ⟨by omega, by omega⟩
   have eq : (k.tdiv 10).natAbs = k.natAbs / 10 := Int.natAbs_tdiv _ _
   rw [gB (by simp; omega), ew, aW (by omega) (by omega)]
   refine ⟨_, rfl, ⟨⟨by dsimp only; omega, by dsimp only; omega⟩, ?_⟩, ?_⟩
   ·dsimp only
    rw [eq, ← a2, aFk (u := k.natAbs) (by omega)]
    simp
   ·dsimp only
    omega
end Go.Proofs.YtgcdbbidmfdonaaGreat
namespace Go.Proofs.YtgcdbbidmfdonaaGreat
set_option linter.unusedVariables false
set_option maxRecDepth 100000
theorem aVd {α : Type} {m : Option α} {f : α → Bool} (h : (match m with | some x => f x | none => false) = true) : Ok m (fun x => f x = true) := by
 cases m with
 | none => cases h
 | some x => exact ⟨x, rfl, h⟩
theorem aP1 {v : ByteArray} (h : v ∈ [(⟨#[101, 103, 121, 112, 116, 105, 97, 110]⟩ : ByteArray), (⟨#[102, 105, 120, 101, 100]⟩ : ByteArray), (⟨#[103, 114, 101, 103, 111, 114, 105, 97, 110]⟩ : ByteArray), (⟨#[106, 117, 108, 105, 97, 110]⟩ : ByteArray)]) : Ok (kQ v) (fun r => (nJ r.1 && decide (r.1.Months.length ≤ 13) && decide (r.2 = 0)) = true) := by
 apply aVd
 simp only [List.mem_cons, List.not_mem_nil, or_false] at h
 rcases h with rfl | rfl | rfl | rfl <;> decide
def mNm (j : Nat) : ByteArray := (⟨#[109]⟩ : ByteArray) ++ aPo (j : Int)
theorem zY {n : Int} {b : ByteArray} (hn : osI n) (h : nL n = some b) : aPo n = b := by
 rw [aDh hn] at h; injection h
theorem aT6 : mNm 1 = ⟨#[109, 49]⟩ ∧ mNm 2 = ⟨#[109, 50]⟩ ∧ mNm 3 = ⟨#[109, 51]⟩ ∧ mNm 4 = ⟨#[109, 52]⟩ ∧ mNm 5 = ⟨#[109, 53]⟩ ∧ mNm 6 = ⟨#[109, 54]⟩ := by
 unfold mNm
 refine ⟨?_, ?_, ?_, ?_, ?_, ?_⟩
 ·rw [zY (n := ((1 : Nat) : Int)) (b := ⟨#[49]⟩) (by constructor <;> decide) (by decide)]; decide
 ·rw [zY (n := ((2 : Nat) : Int)) (b := ⟨#[50]⟩) (by constructor <;> decide) (by decide)]; decide
 ·rw [zY (n := ((3 : Nat) : Int)) (b := ⟨#[51]⟩) (by constructor <;> decide) (by decide)]; decide
 ·rw [zY (n := ((4 : Nat) : Int)) (b := ⟨#[52]⟩) (by constructor <;> decide) (by decide)]; decide
 ·rw [zY (n := ((5 : Nat) : Int)) (b := ⟨#[53]⟩) (by constructor <;> decide) (by decide)]; decide
 ·rw [zY (n := ((6 : Nat) : Int)) (b := ⟨#[54]⟩) (by constructor <;> decide) (by decide)]; decide
theorem aTt {j : Nat} (h1 : 1 ≤ j) (h2 : j ≤ 6) : lV (mNm j) = true := by
 obtain ⟨a1, a2, a3, a4, a5, a6⟩ := aT6
 have : j = 1 ∨ j = 2 ∨ j = 3 ∨ j = 4 ∨ j = 5 ∨ j = 6 := by omega
 rcases this with rfl | rfl | rfl | rfl | rfl | rfl
 ·rw [a1]; decide
 ·rw [a2]; decide
 ·rw [a3]; decide
 ·rw [a4]; decide
 ·rw [a5]; decide
 ·rw [a6]; decide
theorem aTp {i j : Nat} (h1 : 1 ≤ i) (h2 : i < j) (h3 : j ≤ 6) : mNm i ≠ mNm j := by
 obtain ⟨a1, a2, a3, a4, a5, a6⟩ := aT6
 have hi : i = 1 ∨ i = 2 ∨ i = 3 ∨ i = 4 ∨ i = 5 := by omega
 have hj : j = 2 ∨ j = 3 ∨ j = 4 ∨ j = 5 ∨ j = 6 := by omega
 rcases hi with rfl | rfl | rfl | rfl | rfl <;> rcases hj with rfl | rfl | rfl | rfl | rfl <;> first | omega | (simp only [a1, a2, a3, a4, a5, a6]; decide)
theorem aPx {xs : List bO} (hl : xs.length ≤ 6) (hn : ∀ (i : Nat) (hi : i < xs.length), xs[i].Name = mNm (i + 1) ∧ (1 ≤ xs[i].Days ∧ xs[i].Days ≤ 60) ∧ 1 ≤ xs[i].Leap ∧ xs[i].Leap ≤ 60) : aBs xs = true := by
 unfold aBs
 rw [tV]
 intro i hi
 obtain ⟨h1, h2, h3⟩ := hn i hi
 rw [Bool.and_eq_true]
 constructor
 ·unfold aOq btw
  rw [h1, aTt (by omega) (by omega), decide_eq_true h2, decide_eq_true h3]; rfl
 ·rw [Bool.not_eq_true', ← Bool.not_eq_true, List.any_eq_true]
  rintro ⟨m, hm, he⟩
  obtain ⟨j, hj, rfl⟩ := List.getElem_of_mem hm
  have hj' : j < i := by have := hj; simp at this; omega
  rw [List.getElem_take] at he
  have := of_decide_eq_true he
  rw [(hn j (by omega)).1, h1] at this
  exact aTp (by omega) (by omega) (by omega) this
theorem aSp {c : aB} (hn : lV c.Name = true) (hl : 1 ≤ c.Months.length ∧ c.Months.length ≤ 20) (hr : c.Rules.length ≤ 6) (hw : 1 ≤ c.Week ∧ c.Week ≤ 12) (hm : aBs c.Months = true) (ha : c.Rules.all nI = true) (hc : cyc c.Rules ≤ 2000) : nJ c = true := by
 unfold nJ btw
 rw [hn, hm, ha, decide_eq_true hl, decide_eq_true hr, decide_eq_true hw, decide_eq_true hc]; rfl
theorem aMp {n : Int} {s : bP} (h : lU n s) (hn : n ≤ 100000000) : Ok (mU s) (fun r => (nJ r.1 = true ∧ r.1.Months.length ≤ 13) ∧ lU (n + 100) r.2) := by
 unfold mU
 refine bA (aE7 h (by omega)) fun v1 h1 => cX (fun _ => ?_) fun _ => ?_
 ·unfold kT
  rw [Option.bind_some]
  refine bA (aS0 h1 (by omega) (by simp)) fun v3 h3 => bA (aP1 h3.1) fun v4 h4 => aQ ⟨?_, gC h3.2 (by omega)⟩
  simp only [Bool.and_eq_true, decide_eq_true_eq] at h4
  exact ⟨h4.1.1, h4.1.2⟩
 ·refine bA (lA h1 (by omega)) fun v5 h5 => bA (lA h5.2.2.2 (by omega)) fun v6 h6 => ?_
  have hk : v6.1 ≤ 5 := by rcases h6.2.1 with q | q <;> omega
  have hw : v5.1 ≤ 11 := by rcases h5.2.1 with q | q <;> omega
  have k0 := h6.1
  have w0 := h5.1
  rw [aW (x := 1 + v6.1) (by omega) (by omega), aW (x := 1 + v5.1) (by omega) (by omega)]
  refine bA (P := fun (r : bP × List bO) => ((r.2.length : Int) = 1 + v6.1 ∧ aBs r.2 = true) ∧ lU (n + 60) r.1) ?_ fun v23 h23 => ?_
  ·refine fZ (I := fun (s : Int × bP × List bO) => 1 ≤ s.1 ∧ s.1 ≤ v6.1 + 2 ∧ ((s.2.2.length : Int) = s.1 - 1 ∧ ∀ (i : Nat) (hi : i < s.2.2.length), s.2.2[i].Name = mNm (i + 1) ∧ (1 ≤ s.2.2[i].Days ∧ s.2.2[i].Days ≤ 60) ∧ 1 ≤ s.2.2[i].Leap ∧ s.2.2[i].Leap ≤ 60) ∧ lU (n + 6 + 7 * (s.1 - 1)) s.2.1) (m := fun s => (7 - s.1).toNat) ?_ _ ⟨by dsimp only; omega, by dsimp only; omega, ⟨by simp, fun i hi => absurd hi (by simp)⟩, gC h6.2.2.2 (by dsimp only; omega)⟩ (by dsimp only; omega)
   rintro ⟨k, src, ys⟩ ⟨i0, i1, ⟨il, iv⟩, is⟩
   dsimp only at i0 i1 il iv is ⊢
   refine cX (fun hi => ?_) fun hi => aQ (.inr ⟨_, rfl, ⟨by dsimp only; omega, aPx (by dsimp only; omega) iv⟩, gC is (by omega)⟩)
   have hko : osI k := ⟨by omega, by omega⟩
   rw [aDh hko, Option.bind_some]
   have hds := aN6 hko
   have h109 : (⟨#[109]⟩ : ByteArray).size = 1 := rfl
   refine jZ (by omega) ?_
   refine bA (lA is (by omega)) fun v18 h18 => ?_
   have c1 := h18.1
   have c2 : v18.1 ≤ 39 := by rcases h18.2.1 with q | q <;> omega
   refine bA (P := fun (r : bP × bO) => (r.2.Name = (⟨#[109]⟩ : ByteArray) ++ aPo k ∧ (1 ≤ r.2.Days ∧ r.2.Days ≤ 60) ∧ 1 ≤ r.2.Leap ∧ r.2.Leap ≤ 60) ∧ lU (n + 6 + 7 * (k - 1) + 6) r.1) ?_ fun v21 h21 => ?_
   ·refine bA (aE7 h18.2.2.2 (by omega)) fun v19 h19 => cX (fun _ => ?_) fun _ => aQ ⟨⟨rfl, by dsimp only; rw [aW (by omega) (by omega)]; omega, by dsimp only; rw [aW (by omega) (by omega)]; omega⟩, gC h19 (by omega)⟩
    refine bA (lA h19 (by omega)) fun v20 h20 => aQ ⟨⟨rfl, by dsimp only; rw [aW (by omega) (by omega)]; omega, ?_⟩, gC h20.2.2.2 (by omega)⟩
    have c3 := h20.1
    have c4 : v20.1 ≤ 39 := by rcases h20.2.1 with q | q <;> omega
    dsimp only; rw [aW (by omega) (by omega)]; omega
   ·refine jZ (by simp; omega) (aQ (.inl ⟨_, rfl, ⟨?_, ?_, ⟨?_, ?_⟩, ?_⟩, ?_⟩))
    all_goals (dsimp only; try rw [aW (x := k + 1) (by omega) (by omega)])
    ·omega
    ·omega
    ·simp; omega
    ·intro i hi
     rcases Nat.lt_or_ge i ys.length with q | q
     ·rw [List.getElem_append_left q]; exact iv i q
     ·have e : i = ys.length := by simp at hi; omega
      subst e
      rw [List.getElem_append_right (Nat.le_refl _)]
      simp only [Nat.sub_self, List.getElem_cons_zero]
      refine ⟨?_, h21.1.2⟩
      rw [h21.1.1]
      show _ = (⟨#[109]⟩ : ByteArray) ++ aPo ((ys.length + 1 : Nat) : Int)
      rw [show ((ys.length + 1 : Nat) : Int) = k by push_cast; omega]
    ·exact gC h21.2 (by omega)
    ·omega
  ·refine bA (P := fun (r : bP × List aY) => (r.2.length ≤ 3 ∧ ∀ q ∈ r.2, nI q = true) ∧ lU (n + 90) r.1) ?_ fun v35 h35 => ?_
   ·refine bA (lA h23.2 (by omega)) fun v24 h24 => ?_
    have d0 := h24.1
    have d1 : v24.1 ≤ 3 := by rcases h24.2.1 with q | q <;> omega
    refine fZ (I := fun (s : Int × bP × List aY) => 0 ≤ s.1 ∧ s.1 ≤ 3 ∧ ((s.2.2.length : Int) + s.1 ≤ 3 ∧ ∀ q ∈ s.2.2, nI q = true) ∧ lU (n + 62 + 7 * (3 - s.1)) s.2.1) (m := fun s => s.1.toNat) ?_ _ ⟨d0, d1, ⟨by simpa using d1, fun q hq => by cases hq⟩, gC h24.2.2.2 (by dsimp only; omega)⟩ (by dsimp only; omega)
    rintro ⟨k, src, ys⟩ ⟨i0, i1, ⟨il, iv⟩, is⟩
    dsimp only at i0 i1 il iv is ⊢
    refine cX (fun hi => ?_) fun hi => aQ (.inr ⟨_, rfl, ⟨by dsimp only; omega, iv⟩, gC is (by omega)⟩)
    refine bA (yI is (by omega) (by simp)) fun v31 h31 => bA (lA h31.2 (by omega)) fun v32 h32 => bA (aE7 h32.2.2.2 (by omega)) fun v33 h33 => jZ (by simp; omega) (aQ (.inl ⟨_, rfl, ⟨?_, ?_, ⟨?_, ?_⟩, ?_⟩, ?_⟩))
    all_goals (dsimp only; try rw [aW (x := k - 1) (by omega) (by omega)])
    ·omega
    ·omega
    ·simp; omega
    ·intro q hq
     rcases List.mem_append.1 hq with hq | hq
     ·exact iv q hq
     ·rw [List.mem_singleton.1 hq]
      have hm := h31.1
      have e0 := h32.1
      simp only [List.mem_cons, List.not_mem_nil, or_false] at hm
      refine rG.2 ⟨by dsimp only; omega, e0, ?_⟩
      dsimp only
      rcases h32.2.1 with q | q <;> omega
    ·exact gC h33 (by omega)
    ·omega
   ·have hm23 : 1 ≤ v23.2.length ∧ v23.2.length ≤ 6 := by have := h23.1.1; omega
    have base : ∀ rs : List aY, rs.length ≤ 6 → rs.all nI = true → cyc rs ≤ 2000 → nJ ⟨⟨#[111, 119, 110]⟩, v23.2, rs, 1 + v5.1⟩ = true := fun rs r1 r2 r3 => aSp (show lV ⟨#[111, 119, 110]⟩ = true by decide) (by dsimp only; omega) r1 (by dsimp only; omega) h23.1.2 r2 r3
    rw [sS (by dsimp only; omega) (by dsimp only; omega)]
    refine bA (P := fun (rs : List aY) => nJ ⟨⟨#[111, 119, 110]⟩, v23.2, rs, 1 + v5.1⟩ = true) ?_ fun v37 h37 => aQ ⟨⟨h37, by dsimp only; omega⟩, gC h35.2 (by omega)⟩
    rw [Option.bind_some]
    refine cX (fun _ => aQ (base [] (by simp) rfl (by decide))) fun hb => aQ ?_
    simpa using hb
theorem aMg {n : Int} {s : bP} (h : lU n s) (hn : n ≤ 100000000) {c : aB} (hc : nJ c = true) : Ok (kV s c) (fun r => lQ c r.1 = true ∧ lU (n + 12) r.2) := by
 have hm := (eK hc).2.1
 unfold kV
 refine bA (yI h (by omega) (by simp)) fun v1 h1 => bA (lA h1.2 (by omega)) fun v2 h2 => ?_
 have y := h1.1
 simp only [List.mem_cons, List.not_mem_nil, or_false] at y
 have c1 := h2.1
 have c2 : v2.1 < c.Months.length := by rcases h2.2.1 with q | q <;> omega
 have hl := sG hc (jB c v1.1) c1 c2
 rw [aW (x := 1 + v2.1) (by omega) (by omega), aW (x := 1 + v2.1 - 1) (by omega) (by omega), show 1 + v2.1 - 1 = v2.1 by omega, rX hc (by omega) c1 c2, Option.bind_some]
 refine bA (lA h2.2.2.2 (by omega)) fun v4 h4 => ?_
 have d1 := h4.1
 have d2 : v4.1 < tD c (jB c v1.1) v2.1 := by rcases h4.2.1 with q | q <;> omega
 have e2 : (1 + v2.1) - 1 = v2.1 := by omega
 refine bA (P := fun (r : bP × cA) => lQ c r.2 = true ∧ lU (n + 12) r.1) ?_ fun v6 h6 => aQ h6
 refine bA (aE7 h4.2.2.2 (by omega)) fun v5 h5 => cX (fun _ => aQ ⟨iW.2 ⟨by dsimp only; omega, by dsimp only; omega, ?_⟩, gC h5 (by omega)⟩) fun _ => aQ ⟨iW.2 ⟨by dsimp only; omega, by dsimp only; omega, ?_⟩, gC h5 (by omega)⟩
 ·dsimp only; rw [e2]; omega
 ·dsimp only; rw [e2, aW (by omega) (by omega)]; omega
end Go.Proofs.YtgcdbbidmfdonaaGreat
namespace Go.Proofs.YtgcdbbidmfdonaaGreat
set_option linter.unusedVariables false
set_option maxRecDepth 100000
theorem aNg {xs : List Int} (h : ∀ v ∈ xs, 1 ≤ v ∧ v ≤ 60) (hl : 1 ≤ xs.length ∧ xs.length ≤ 260) : aDu xs = true := by
 unfold aDu btw
 rw [Bool.and_eq_true, decide_eq_true_eq, List.all_eq_true]
 exact ⟨fun v hv => decide_eq_true (h v hv), hl⟩
theorem aOd {c : aB} (hc : nJ c = true) {a st ys m : Int} (a0 : 0 ≤ a) (a1 : a ≤ 260) (s0 : 1 ≤ st) (s1 : st ≤ 260) (y1 : ys ≤ 1000000) (m0 : 0 ≤ m) (m1 : m < c.Months.length) : Ok (oZ c a st ys m) (fun r => 1 ≤ r ∧ r ≤ 60) := by
 have hm := tW (c := c) m0 m1
 have hq := aIn hc hm.2
 unfold oZ
 refine bA (P := fun _ => True) ?_ fun v7 _ => ?_
 ·refine fZ (I := fun (s : Int × Int × Int) => 0 ≤ s.2.2 ∧ s.2.2 ≤ 1000260) (m := fun s => (1000260 - s.2.2).toNat) ?_ _ ⟨a0, by dsimp only; omega⟩ (by dsimp only; omega)
  rintro ⟨l, al, y⟩ ⟨i0, i1⟩
  dsimp only at i0 i1 ⊢
  refine cX (fun hy => ?_) fun _ => aQ (.inr ⟨_, rfl, trivial⟩)
  rw [aA4 hc i0, Option.bind_some]
  refine bA (P := fun _ => True) (cX (fun _ => aQ trivial) fun _ => aQ trivial) fun v6 _ => aQ (.inl ⟨_, rfl, ?_, ?_⟩)
  ·dsimp only; rw [aW (x := y + st) (by omega) (by omega)]; omega
  ·dsimp only; rw [aW (x := y + st) (by omega) (by omega)]; omega
 ·rw [hm.1, Option.bind_some]
  refine cX (fun _ => aQ hq.2) fun _ => cX (fun _ => aQ hq.1) fun _ => ?_
  unfold wQ
  refine bA (P := fun r => 1 ≤ r ∧ r ≤ 60) (cX (fun _ => aQ hq.2) fun _ => aQ hq.1) fun v h => aQ h
theorem aOu {c : aB} (hc : nJ c = true) {y : Int} (y0 : 1 ≤ y) (y1 : y ≤ 260) : Ok (nA c y) (fun r => 0 ≤ r ∧ r ≤ 520000) := by
 obtain ⟨_, _, hr, _, _, hb, hcy⟩ := eK hc
 obtain ⟨e, n0, n1, _⟩ := aSo hc
 have hg := tR (n := cyc c.Rules) (d := y) (by omega)
 have hq := uR (a := cyc c.Rules) (g := (Int.gcd (cyc c.Rules) y : Int)) (by omega) (by omega)
 unfold nA
 rw [zD (by omega), if_pos ⟨hb, hcy⟩, Option.bind_some, xX (by dsimp only; omega) (by omega) (by omega), Option.bind_some]
 refine jZ (by dsimp only; omega) (aQ ?_)
 dsimp only
 rw [Int.tdiv_eq_ediv_of_nonneg (by omega), aW (x := cyc c.Rules / _) (by omega) (by omega)]
 have h1 : 0 ≤ cyc c.Rules / (Int.gcd (cyc c.Rules) y : Int) * y := Int.mul_nonneg hq.1 (by omega)
 have h2 : cyc c.Rules / (Int.gcd (cyc c.Rules) y : Int) * y ≤ 2000 * 260 := Int.mul_le_mul (by omega) y1 (by omega) (by omega)
 rw [aW (by omega) (by omega)]
 omega
theorem aPt {c : aB} {cam : List Int} (ha : xZ c cam = 0) {y m : Int} (y0 : 0 ≤ y) (m0 : 0 ≤ m) (m1 : m < c.Months.length) : pO c cam y m = some (⟨y, m + 1, cam.getD (yU c cam y (m + 1)).toNat 0, tD c (jB c y) m⟩, decide (cam.getD (yU c cam y (m + 1)).toNat 0 ≠ tD c (jB c y) m)) := by
 obtain ⟨hc, hm, h, k1, k2⟩ := pS ha
 have hl := (oE hm).2
 have hq := (eK hc).2.1
 have n := aBx ha (y := y) (m := m + 1) (by omega) (by omega)
 unfold pO
 rw [gB (by omega), rX hc y0 m0 m1, Option.bind_some, Int.tdiv_eq_ediv_of_nonneg (by omega), aW (x := (cam.length : Int) / _) (by omega) (by omega), gB (by omega), Int.tmod_eq_emod_of_nonneg y0, aW (x := _ * _) (by omega) (by omega), aW (x := _ + m) (by omega) (by omega), aW (x := m + 1) (by omega) (by omega)]
 have e : y % ((cam.length : Int) / c.Months.length) * c.Months.length + m = yU c cam y (m + 1) := by unfold yU; omega
 rw [e]
 have h3 : atI cam (yU c cam y (m + 1)) = some (cam.getD (yU c cam y (m + 1)).toNat 0) := by
  unfold atI
  rw [if_pos n.1, List.getElem?_eq_getElem (by omega)]
  simp [List.getD_eq_getElem?_getD, List.getElem?_eq_getElem (show (yU c cam y (m + 1)).toNat < cam.length by omega)]
 rw [h3, Option.bind_some]
theorem aQx {c : aB} {cam : List Int} (ha : xZ c cam = 0) {n : Int} (n1 : n ≤ 520000) : Ok (oU c cam n) (fun _ => True) := by
 have hc := (pS ha).1
 have hq := (eK hc).2.1
 unfold oU
 refine bA (P := fun _ => True) ?_ fun v _ => aQ trivial
 refine fZ (I := fun (s : Int × Int) => 0 ≤ s.2 ∧ s.2 ≤ 520000) (m := fun s => (520000 - s.2).toNat) ?_ _ ⟨by dsimp only; omega, by dsimp only; omega⟩ (by dsimp only; omega)
 rintro ⟨k, y⟩ ⟨i0, i1⟩
 dsimp only at i0 i1 ⊢
 refine cX (fun hy => ?_) fun _ => aQ (.inr ⟨_, rfl, trivial⟩)
 refine bA (P := fun _ => True) ?_ fun v16 _ => aQ (.inl ⟨_, rfl, ?_, ?_⟩)
 ·refine fZ (I := fun (s : Int × Int) => 0 ≤ s.2 ∧ s.2 ≤ c.Months.length) (m := fun s => (c.Months.length - s.2).toNat) ?_ _ ⟨by dsimp only; omega, by dsimp only; omega⟩ (by dsimp only; omega)
  rintro ⟨k2, m⟩ ⟨j0, j1⟩
  dsimp only at j0 j1 ⊢
  refine cX (fun hm => ?_) fun _ => aQ (.inr ⟨_, rfl, trivial⟩)
  rw [aPt ha i0 j0 hm, Option.bind_some]
  refine bA (P := fun _ => True) (cX (fun _ => aQ trivial) fun _ => aQ trivial) fun v15 _ => aQ (.inl ⟨_, rfl, ?_, ?_⟩)
  ·dsimp only; rw [aW (x := m + 1) (by omega) (by omega)]; omega
  ·dsimp only; rw [aW (x := m + 1) (by omega) (by omega)]; omega
 ·dsimp only; rw [aW (x := y + 1) (by omega) (by omega)]; omega
 ·dsimp only; rw [aW (x := y + 1) (by omega) (by omega)]; omega
theorem aRb {c : aB} {cam : List Int} (hc : nJ c = true) (hm : aDu cam = true) (hz : (cam.length : Int) % c.Months.length = 0) : xZ c cam = 0 := by
 rw [aB8 hc hm, if_pos hz]
theorem aMl {c : aB} (hc : nJ c = true) (y : Int) : Ok (qK c y) (fun r => r.2.2 = 0 → xZ c r.1 = 0) := by
 have hm := (eK hc).2.1
 obtain ⟨_, _, hr, _⟩ := eK hc
 unfold qK sC
 rw [sS (by omega) (by omega), hc, Option.bind_some, eC, Option.bind_some]
 simp only [Bool.not_true, Bool.false_eq_true, if_false]
 refine bA (P := fun b => b = true → (1 ≤ y ∧ y ≤ 260) ∧ y * c.Months.length ≤ 260) (cX (fun hb => ?_) fun hb => aQ (by simp)) fun b hb => cX (fun hn => aQ (by simp)) fun hn => ?_
 ·have hy := of_decide_eq_true hb
  have h1 : 0 ≤ y * (c.Months.length : Int) := Int.mul_nonneg (by omega) (by omega)
  have h2 : y * (c.Months.length : Int) ≤ 260 * 20 := Int.mul_le_mul hy.2 (by omega) (by omega) (by omega)
  rw [aW (by omega) (by omega)]
  exact aQ fun h => ⟨hy, of_decide_eq_true h⟩
 ·have hb' : b = true := by simpa using hn
  obtain ⟨⟨y0, y1⟩, y2⟩ := hb hb'
  refine bA (aOu hc y0 y1) fun v3 h3 => ?_
  refine bA (P := fun xs => (xs.length : Int) = y * c.Months.length ∧ ∀ v ∈ xs, 1 ≤ v ∧ v ≤ 60) ?_ fun v20 h20 => ?_
  ·refine fZ (I := fun (s : Int × List Int) => (0 ≤ s.1 ∧ s.1 ≤ y) ∧ (s.2.length : Int) = s.1 * c.Months.length ∧ ∀ v ∈ s.2, 1 ≤ v ∧ v ≤ 60) (m := fun s => (y - s.1).toNat) ?_ _ ⟨⟨by dsimp only; omega, by dsimp only; omega⟩, by simp, fun v hv => by cases hv⟩ (by dsimp only; omega)
   rintro ⟨k, xs⟩ ⟨⟨i0, i1⟩, il, iv⟩
   dsimp only at i0 i1 il iv ⊢
   refine cX (fun hk => ?_) fun hk => aQ (.inr ⟨_, rfl, ?_, iv⟩)
   ·have kb : k * (c.Months.length : Int) ≤ (y - 1) * c.Months.length := Int.mul_le_mul_of_nonneg_right (by omega) (by omega)
    have kn : 0 ≤ k * (c.Months.length : Int) := Int.mul_nonneg i0 (by omega)
    rw [Int.sub_mul] at kb
    refine bA (P := fun (zs : List Int) => (zs.length : Int) = k * c.Months.length + c.Months.length ∧ ∀ v ∈ zs, 1 ≤ v ∧ v ≤ 60) ?_ fun v19 h19 => aQ (.inl ⟨_, rfl, ⟨⟨?_, ?_⟩, ?_, h19.2⟩, ?_⟩)
    ·refine fZ (I := fun (s : Int × List Int) => (0 ≤ s.1 ∧ s.1 ≤ c.Months.length) ∧ (s.2.length : Int) = k * c.Months.length + s.1 ∧ ∀ v ∈ s.2, 1 ≤ v ∧ v ≤ 60) (m := fun s => (c.Months.length - s.1).toNat) ?_ _ ⟨⟨by dsimp only; omega, by dsimp only; omega⟩, by dsimp only; omega, iv⟩ (by dsimp only; omega)
     rintro ⟨m, zs⟩ ⟨⟨j0, j1⟩, jl, jv⟩
     dsimp only at j0 j1 jl jv ⊢
     refine cX (fun hmm => ?_) fun hmm => aQ (.inr ⟨_, rfl, by omega, jv⟩)
     refine bA (aOd hc i0 (by omega) y0 y1 (by omega) j0 hmm) fun v17 h17 => jZ (by simp; omega) (aQ (.inl ⟨_, rfl, ⟨⟨?_, ?_⟩, ?_, ?_⟩, ?_⟩))
     all_goals (dsimp only; try rw [aW (x := m + 1) (by omega) (by omega)])
     ·omega
     ·omega
     ·simp; omega
     ·intro v hv
      rcases List.mem_append.1 hv with hv | hv
      ·exact jv v hv
      ·rw [List.mem_singleton.1 hv]; exact h17
     ·omega
    all_goals (dsimp only; try rw [aW (x := k + 1) (by omega) (by omega)])
    ·omega
    ·omega
    ·rw [Int.add_mul, Int.one_mul]; exact h19.1
    ·omega
   ·rw [il, show k = y by omega]
  ·have hp : 0 < y * (c.Months.length : Int) := Int.mul_pos (by omega) (by omega)
   have hcam := aNg h20.2 (by omega)
   have ha : xZ c v20 = 0 := aRb hc hcam (by rw [h20.1, Int.mul_emod_left])
   exact bA (aQx ha h3.2) fun v21 _ => aQ fun _ => ha
theorem aPr {c : aB} (hc : nJ c = true) : Ok (uX c 0 1) (fun r => xZ c r = 0) := by
 have hm := (eK hc).2.1
 unfold uX
 rw [aW (x := (0 : Int) + 1) (by omega) (by omega)]
 refine bA (P := fun xs => (xs.length : Int) = c.Months.length ∧ ∀ v ∈ xs, 1 ≤ v ∧ v ≤ 60) ?_ fun v20 h20 => aQ (aRb hc (aNg h20.2 (by omega)) (by rw [h20.1, Int.emod_self]))
 refine fZ (I := fun (s : Int × List Int) => (0 ≤ s.1 ∧ s.1 ≤ 1) ∧ (s.2.length : Int) = s.1 * c.Months.length ∧ ∀ v ∈ s.2, 1 ≤ v ∧ v ≤ 60) (m := fun s => (1 - s.1).toNat) ?_ _ ⟨⟨by dsimp only; omega, by dsimp only; omega⟩, by simp, fun v hv => by cases hv⟩ (by dsimp only; omega)
 rintro ⟨k, xs⟩ ⟨⟨i0, i1⟩, il, iv⟩
 dsimp only at i0 i1 il iv ⊢
 refine cX (fun hk => ?_) fun hk => aQ (.inr ⟨_, rfl, ?_, iv⟩)
 ·have hk0 : k = 0 := by omega
  subst hk0
  have il' : xs.length = 0 := by omega
  refine bA (P := fun (zs : List Int) => (zs.length : Int) = c.Months.length ∧ ∀ v ∈ zs, 1 ≤ v ∧ v ≤ 60) ?_ fun v19 h19 => aQ (.inl ⟨_, rfl, ⟨⟨?_, ?_⟩, ?_, h19.2⟩, ?_⟩)
  ·refine fZ (I := fun (s : Int × List Int) => (0 ≤ s.1 ∧ s.1 ≤ c.Months.length) ∧ (s.2.length : Int) = s.1 ∧ ∀ v ∈ s.2, 1 ≤ v ∧ v ≤ 60) (m := fun s => (c.Months.length - s.1).toNat) ?_ _ ⟨⟨by dsimp only; omega, by dsimp only; omega⟩, by dsimp only; omega, iv⟩ (by dsimp only; omega)
   rintro ⟨m, zs⟩ ⟨⟨j0, j1⟩, jl, jv⟩
   dsimp only at j0 j1 jl jv ⊢
   refine cX (fun hmm => ?_) fun hmm => aQ (.inr ⟨_, rfl, by omega, jv⟩)
   have hl := sG hc (jB c 0) j0 hmm
   rw [rX hc (by omega) j0 hmm, Option.bind_some]
   refine jZ (by simp; omega) (aQ (.inl ⟨_, rfl, ⟨⟨?_, ?_⟩, ?_, ?_⟩, ?_⟩))
   all_goals (dsimp only; try rw [aW (x := m + 1) (by omega) (by omega)])
   ·omega
   ·omega
   ·simp; omega
   ·intro v hv
    rcases List.mem_append.1 hv with hv | hv
    ·exact jv v hv
    ·rw [List.mem_singleton.1 hv]; exact hl
   ·omega
  all_goals (dsimp only; try rw [aW (x := (0 : Int) + 1) (by omega) (by omega)])
  ·omega
  ·omega
  ·rw [h19.1]; omega
  ·omega
 ·rw [il, show k = 1 by omega]; omega
end Go.Proofs.YtgcdbbidmfdonaaGreat
namespace Go.Proofs.YtgcdbbidmfdonaaGreat
set_option linter.unusedVariables false
set_option maxRecDepth 100000
theorem aDa {α : Type} {xs : List α} {k : Nat} : aAv xs (k : Int) (xs.length : Int) = xs.drop k := by
 unfold aAv
 rw [List.take_of_length_le (by simp)]; simp
theorem sU {α : Type} {xs : List α} {k : Nat} (h : k < xs.length) : xs.drop k = xs[k] :: xs.drop (k + 1) := List.drop_eq_getElem_cons h
theorem yF {α : Type} {xs : List α} {k : Nat} (h : k < xs.length) : xs.take (k + 1) = xs.take k ++ [xs[k]] := by rw [List.take_succ_eq_append_getElem h]
theorem aQo {out : List Int} {x : Int} {k : Nat} (hs : out.Pairwise (· ≤ ·)) (h1 : ∀ a ∈ out.take k, a ≤ x) (h2 : ∀ b ∈ out.drop k, x < b) : ((out.take k ++ [x]) ++ out.drop k).Pairwise (· ≤ ·) ∧ ((out.take k ++ [x]) ++ out.drop k).Perm (out ++ [x]) := by
 have hs' := hs
 rw [← List.take_append_drop k out, List.pairwise_append] at hs'
 obtain ⟨p1, p2, p3⟩ := hs'
 constructor
 ·rw [List.pairwise_append, List.pairwise_append]
  refine ⟨⟨p1, by simp, fun a ha b hb => by rw [List.mem_singleton.1 hb]; exact h1 a ha⟩, p2, fun a ha b hb => ?_⟩
  rcases List.mem_append.1 ha with ha | ha
  ·exact p3 a ha b hb
  ·rw [List.mem_singleton.1 ha]; have := h2 b hb; omega
 ·rw [List.append_assoc]
  have e : (out.take k ++ ([x] ++ out.drop k)).Perm (out.take k ++ (out.drop k ++ [x])) := List.Perm.append_left _ List.perm_append_comm
  rw [← List.append_assoc (List.take k out) (List.drop k out), List.take_append_drop] at e
  exact e
theorem aNq {xs : List Int} (hl : xs.length ≤ 1000) : Ok (oA xs) (fun ys => ys.Perm xs ∧ ys.Pairwise (· ≤ ·)) := by
 unfold oA
 refine bA (P := fun (ys : List Int) => ys.Perm xs ∧ ys.Pairwise (· ≤ ·)) ?_ fun v h => aQ h
 refine fZ (I := fun (s : Int × List Int) => (0 ≤ s.1 ∧ s.1 ≤ xs.length) ∧ s.2.Perm (xs.take s.1.toNat) ∧ s.2.Pairwise (· ≤ ·)) (m := fun s => (xs.length - s.1).toNat) ?_ _ ⟨⟨by dsimp only; omega, by dsimp only; omega⟩, by simp, .nil⟩ (by dsimp only; omega)
 rintro ⟨i, out⟩ ⟨⟨i0, i1⟩, ip, is⟩
 dsimp only at i0 i1 ip is ⊢
 refine cX (fun hi => ?_) fun hi => aQ (.inr ⟨_, rfl, ?_, is⟩)
 ·obtain ⟨n, rfl⟩ : ∃ n : Nat, i = n := ⟨i.toNat, by omega⟩
  have hn : n < xs.length := by omega
  rw [Int.toNat_natCast] at ip
  have hol : out.length = n := by have := ip.length_eq; simp at this; omega
  simp only [eE hn, Option.bind_some]
  refine bA (P := fun (zs : List Int) => zs.Perm (out ++ [xs[n]]) ∧ zs.Pairwise (· ≤ ·)) ?_ fun v34 h34 => aQ (.inl ⟨_, rfl, ⟨⟨?_, ?_⟩, ?_, h34.2⟩, ?_⟩)
  ·refine bA (P := fun (k : Int) => (0 ≤ k ∧ k ≤ out.length) ∧ (∀ b ∈ out.drop k.toNat, xs[n] < b) ∧ ∀ a ∈ out.take k.toNat, a ≤ xs[n]) ?_ fun k hk => ?_
   ·refine fZ (I := fun (k : Int) => (0 ≤ k ∧ k ≤ out.length) ∧ ∀ b ∈ out.drop k.toNat, xs[n] < b) (m := fun k => k.toNat) ?_ _ ⟨⟨by omega, by omega⟩, by simp⟩ (by omega)
    rintro k ⟨⟨k0, k1⟩, kd⟩
    refine bA (P := fun b => b = decide (0 < k ∧ xs[n] < out.getD (k - 1).toNat 0)) (cX (fun hk => ?_) fun hk => aQ (by symm; exact decide_eq_false fun h => hk h.1)) fun b hb => ?_
    ·rw [aW (x := k - 1) (by omega) (by omega), show k - 1 = ((k - 1).toNat : Int) by omega, eE (show (k - 1).toNat < out.length by omega), Option.bind_some]
     refine aQ ?_
     rw [show ((k - 1).toNat : Int).toNat = (k - 1).toNat by omega, List.getD_eq_getElem?_getD, List.getElem?_eq_getElem (show (k - 1).toNat < out.length by omega), Option.getD_some, decide_eq_decide]
     omega
    ·subst hb
     refine cX (fun hb => ?_) fun hb => aQ (.inr ⟨_, rfl, ⟨k0, k1⟩, kd, ?_⟩)
     ·have hb' := of_decide_eq_true hb
      refine aQ (.inl ⟨_, rfl, ⟨⟨?_, ?_⟩, ?_⟩, ?_⟩)
      all_goals try rw [aW (x := k - 1) (by omega) (by omega)]
      ·omega
      ·omega
      ·have hlt : (k - 1).toNat < out.length := by omega
       rw [sU hlt]
       intro b hb2
       rcases List.mem_cons.1 hb2 with rfl | hb2
       ·have := hb'.2
        rwa [List.getD_eq_getElem?_getD, List.getElem?_eq_getElem hlt, Option.getD_some] at this
       ·rw [show (k - 1).toNat + 1 = k.toNat by omega] at hb2; exact kd b hb2
      ·omega
     ·intro a ha
      have hk : k ≠ 0 := by
       intro e; subst e; simp at ha
      have hlt : (k - 1).toNat < out.length := by omega
      have hx : out[(k - 1).toNat] ≤ xs[n] := by
       have : ¬ (0 < k ∧ xs[n] < out.getD (k - 1).toNat 0) := by simpa using hb
       rw [List.getD_eq_getElem?_getD, List.getElem?_eq_getElem hlt, Option.getD_some] at this
       omega
      rw [show k.toNat = (k - 1).toNat + 1 by omega, yF hlt] at ha
      rcases List.mem_append.1 ha with ha | ha
      ·have hp := is
       rw [← List.take_append_drop (k - 1).toNat out, List.pairwise_append] at hp
       have := hp.2.2 a ha out[(k - 1).toNat] (by rw [sU hlt]; exact List.mem_cons_self ..)
       omega
      ·rw [List.mem_singleton.1 ha]; exact hx
   ·obtain ⟨⟨k0, k1⟩, kd, ka⟩ := hk
    obtain ⟨m, rfl⟩ : ∃ m : Nat, k = m := ⟨k.toNat, by omega⟩
    rw [Int.toNat_natCast] at kd ka
    refine jZ (by omega) ?_
    rw [aOk, aDa, zN (by rw [List.length_take]; omega), Option.bind_some]
    refine jZ (by simp; omega) (jZ (by omega) (jZ (by simp; omega) (aQ ?_)))
    have := aQo is ka kd
    exact ⟨this.2, this.1⟩
  all_goals (dsimp only; try rw [aW (x := (n : Int) + 1) (by omega) (by omega)])
  ·omega
  ·omega
  ·rw [show ((n : Int) + 1).toNat = n + 1 by omega, yF hn]
   exact h34.1.trans (ip.append_right _)
  ·omega
 ·rw [show i.toNat = xs.length by omega, List.take_length] at ip
  exact ip
end Go.Proofs.YtgcdbbidmfdonaaGreat
namespace Go.Proofs.YtgcdbbidmfdonaaGreat
set_option linter.unusedVariables false
set_option maxRecDepth 100000
abbrev lS (xs : List aZ) : Prop := xs.Pairwise fun a b => a.value ≤ b.value
theorem nX {xs : List aZ} (h : lS xs) {i j : Nat} (hij : i ≤ j) (hj : j < xs.length) : (xs[i]'(by omega)).value ≤ xs[j].value := by
 rcases Nat.lt_or_ge i j with q | q
 ·exact List.pairwise_iff_getElem.1 h i j (by omega) hj q
 ·have : i = j := by omega
  subst this; exact Int.le_refl _
theorem aBw {α : Type} {xs : List α} {k : Nat} {x : α} (h : x ∈ xs.drop k) : ∃ (j : Nat) (hj : j < xs.length), k ≤ j ∧ xs[j] = x := by
 obtain ⟨i, hi, rfl⟩ := List.getElem_of_mem h
 have hi' := hi
 rw [List.length_drop] at hi'
 exact ⟨k + i, by omega, by omega, by rw [List.getElem_drop]⟩
theorem aQf {a b : List aZ} (ha : lS a) (hb : lS b) (hl : a.length + b.length ≤ 100000) : Ok (oT a b) (fun r => r.Perm (a ++ b) ∧ lS r) := by
 unfold oT
 have grow : ∀ {out : List aZ} {x : aZ}, lS out → (∀ y ∈ out, y.value ≤ x.value) → lS (out ++ [x]) := fun {out x} h1 h2 => by
  show List.Pairwise _ _
  rw [List.pairwise_append]
  exact ⟨h1, by simp, fun y hy z hz => by rw [List.mem_singleton.1 hz]; exact h2 y hy⟩
 refine bA (P := fun (r : Int × List aZ) => (0 ≤ r.1 ∧ r.1 ≤ a.length) ∧ r.2.Perm (a.take r.1.toNat ++ b) ∧ lS r.2 ∧ ∀ y ∈ r.2, ∀ z ∈ a.drop r.1.toNat, y.value ≤ z.value) ?_ fun v35 h35 => ?_
 ·refine fZ (I := fun (s : Int × Int × List aZ) => ((0 ≤ s.1 ∧ s.1 ≤ a.length) ∧ 0 ≤ s.2.1 ∧ s.2.1 ≤ b.length) ∧ s.2.2.Perm (a.take s.1.toNat ++ b.take s.2.1.toNat) ∧ lS s.2.2 ∧ (∀ y ∈ s.2.2, ∀ z ∈ a.drop s.1.toNat, y.value ≤ z.value) ∧ ∀ y ∈ s.2.2, ∀ z ∈ b.drop s.2.1.toNat, y.value ≤ z.value) (m := fun s => (b.length - s.2.1).toNat) ?_ _ ⟨⟨⟨by dsimp only; omega, by dsimp only; omega⟩, by dsimp only; omega, by dsimp only; omega⟩, by simp, .nil, fun y hy => by simp at hy, fun y hy => by simp at hy⟩ (by dsimp only; omega)
  rintro ⟨i, k, out⟩ ⟨⟨⟨i0, i1⟩, k0, k1⟩, hp, hs, h1, h2⟩
  dsimp only at i0 i1 k0 k1 hp hs h1 h2 ⊢
  refine cX (fun hk => ?_) fun hk => aQ (.inr ⟨_, rfl, ⟨i0, i1⟩, ?_, hs, h1⟩)
  ·obtain ⟨m, rfl⟩ : ∃ m : Nat, k = m := ⟨k.toNat, by omega⟩
   have hm : m < b.length := by omega
   rw [Int.toNat_natCast] at hp h2
   simp only [eE hm, Option.bind_some]
   refine bA (P := fun (r : Int × List aZ) => (0 ≤ r.1 ∧ r.1 ≤ a.length) ∧ r.2.Perm (a.take r.1.toNat ++ b.take (m + 1)) ∧ lS r.2 ∧ (∀ y ∈ r.2, ∀ z ∈ a.drop r.1.toNat, y.value ≤ z.value) ∧ ∀ y ∈ r.2, ∀ z ∈ b.drop (m + 1), y.value ≤ z.value) ?_ fun v34 h34 => aQ (.inl ⟨_, rfl, ⟨⟨h34.1, ?_, ?_⟩, ?_, h34.2.2.1, h34.2.2.2.1, ?_⟩, ?_⟩)
   ·refine bA (P := fun (r : Int × List aZ) => (0 ≤ r.1 ∧ r.1 ≤ a.length) ∧ r.2.Perm (a.take r.1.toNat ++ b.take m) ∧ lS r.2 ∧ (∀ y ∈ r.2, ∀ z ∈ a.drop r.1.toNat, y.value ≤ z.value) ∧ (∀ y ∈ r.2, ∀ z ∈ b.drop m, y.value ≤ z.value) ∧ ∀ z ∈ a.drop r.1.toNat, b[m].value ≤ z.value) ?_ fun v31 h31 => ?_
    ·refine fZ (I := fun (s : Int × List aZ) => (0 ≤ s.1 ∧ s.1 ≤ a.length) ∧ s.2.Perm (a.take s.1.toNat ++ b.take m) ∧ lS s.2 ∧ (∀ y ∈ s.2, ∀ z ∈ a.drop s.1.toNat, y.value ≤ z.value) ∧ ∀ y ∈ s.2, ∀ z ∈ b.drop m, y.value ≤ z.value) (m := fun s => (a.length - s.1).toNat) ?_ _ ⟨⟨i0, i1⟩, hp, hs, h1, h2⟩ (by dsimp only; omega)
     rintro ⟨i, out⟩ ⟨⟨i0, i1⟩, hp, hs, h1, h2⟩
     dsimp only at i0 i1 hp hs h1 h2 ⊢
     obtain ⟨n, rfl⟩ : ∃ n : Nat, i = n := ⟨i.toNat, by omega⟩
     rw [Int.toNat_natCast] at hp h1
     by_cases hi : n < a.length
     ·rw [if_pos (by omega)]
      simp only [eE hi, Option.bind_some]
      by_cases hc : a[n].value ≤ b[m].value
      ·rw [decide_eq_true hc, if_pos rfl]
       have hol : out.length = n + m := by
        have := hp.length_eq
        rw [List.length_append, List.length_take, List.length_take] at this
        omega
       refine jZ (by simp; omega) (aQ (.inl ⟨_, rfl, ⟨⟨?_, ?_⟩, ?_, ?_, ?_, ?_⟩, ?_⟩))
       all_goals (dsimp only; (try rw [aW (x := (n : Int) + 1) (by omega) (by omega)]); (try rw [show ((n : Int) + 1).toNat = n + 1 by omega]))
       ·omega
       ·omega
       ·rw [yF hi]
        have e : (out ++ [a[n]]).Perm ((a.take n ++ b.take m) ++ [a[n]]) := hp.append_right _
        refine e.trans ?_
        rw [List.append_assoc, List.append_assoc]
        exact List.Perm.append_left _ List.perm_append_comm
       ·exact grow hs fun y hy => h1 y hy _ (by rw [sU hi]; exact List.mem_cons_self ..)
       ·intro y hy z hz
        obtain ⟨j, hj, hjn, rfl⟩ := aBw hz
        rcases List.mem_append.1 hy with hy | hy
        ·exact h1 y hy _ (by rw [sU hi]; exact List.mem_cons_of_mem _ hz)
        ·rw [List.mem_singleton.1 hy]; exact nX ha (by omega) hj
       ·intro y hy z hz
        rcases List.mem_append.1 hy with hy | hy
        ·exact h2 y hy z hz
        ·rw [List.mem_singleton.1 hy]
         obtain ⟨j, hj, hjn, rfl⟩ := aBw hz
         have := nX hb hjn hj
         omega
       ·omega
      ·rw [decide_eq_false hc, if_neg (by decide)]
       refine aQ (.inr ⟨_, rfl, ⟨i0, i1⟩, by rw [Int.toNat_natCast]; exact hp, hs, by rw [Int.toNat_natCast]; exact h1, h2, fun z hz => ?_⟩)
       rw [Int.toNat_natCast] at hz
       obtain ⟨j, hj, hjn, rfl⟩ := aBw hz
       have := nX ha hjn hj
       omega
     ·rw [if_neg (by omega)]
      refine aQ (.inr ⟨_, rfl, ⟨i0, i1⟩, by rw [Int.toNat_natCast]; exact hp, hs, by rw [Int.toNat_natCast]; exact h1, h2, fun z hz => ?_⟩)
      rw [Int.toNat_natCast, List.drop_of_length_le (by omega)] at hz
      cases hz
    ·obtain ⟨⟨q0, q1⟩, qp, qs, g1, g2, g3⟩ := h31
     have hol : v31.2.length = v31.1.toNat + m := by
      have := qp.length_eq
      rw [List.length_append, List.length_take, List.length_take] at this
      omega
     refine jZ (by simp; omega) (aQ ⟨⟨q0, q1⟩, ?_, ?_, ?_, ?_⟩)
     ·rw [yF hm, ← List.append_assoc]
      exact qp.append_right _
     ·exact grow qs fun y hy => g2 y hy _ (by rw [sU hm]; exact List.mem_cons_self ..)
     ·intro y hy z hz
      rcases List.mem_append.1 hy with hy | hy
      ·exact g1 y hy z hz
      ·rw [List.mem_singleton.1 hy]; exact g3 z hz
     ·intro y hy z hz
      rcases List.mem_append.1 hy with hy | hy
      ·exact g2 y hy z (by rw [sU hm]; exact List.mem_cons_of_mem _ hz)
      ·rw [List.mem_singleton.1 hy]
       obtain ⟨j, hj, hjn, rfl⟩ := aBw hz
       exact nX hb (by omega) hj
   all_goals (dsimp only; try rw [aW (x := (m : Int) + 1) (by omega) (by omega)])
   ·omega
   ·omega
   ·rw [show ((m : Int) + 1).toNat = m + 1 by omega]; exact h34.2.1
   ·rw [show ((m : Int) + 1).toNat = m + 1 by omega]; exact h34.2.2.2.2
   ·omega
  ·rw [show k.toNat = b.length by omega, List.take_length] at hp
   exact hp
 ·obtain ⟨⟨q0, q1⟩, qp, qs, g1⟩ := h35
  obtain ⟨n, hn⟩ : ∃ n : Nat, v35.1 = n := ⟨v35.1.toNat, by omega⟩
  rw [hn, Int.toNat_natCast] at qp g1
  have hol : v35.2.length = n + b.length := by
   have := qp.length_eq
   rw [List.length_append, List.length_take] at this
   omega
  rw [hn]
  refine jZ (by omega) ?_
  rw [aDa]
  refine jZ (by simp; omega) (aQ ⟨?_, ?_⟩)
  ·have e : (v35.2 ++ a.drop n).Perm ((a.take n ++ b) ++ a.drop n) := qp.append_right _
   refine e.trans ?_
   rw [List.append_assoc]
   have e2 : (a.take n ++ (b ++ a.drop n)).Perm (a.take n ++ (a.drop n ++ b)) := List.Perm.append_left _ List.perm_append_comm
   rw [← List.append_assoc (a.take n) (a.drop n) b, List.take_append_drop] at e2
   exact e2
  ·show List.Pairwise _ _
   rw [List.pairwise_append]
   refine ⟨qs, ?_, g1⟩
   have := ha
   unfold lS at this
   rw [← List.take_append_drop n a, List.pairwise_append] at this
   exact this.2.1
theorem aFf : ∀ (f : Nat) {xs : List aZ}, xs.length ≤ f → xs.length ≤ 100000 → Ok (iP (f + 1) xs) (fun r => r.Perm xs ∧ lS r)
 | f, xs, hf, hl => by
  unfold iP
  refine cX (fun h2 => aQ ⟨.refl _, ?_⟩) fun h2 => ?_
  ·match xs, h2 with
   | [], _ => exact .nil
   | [x], _ => exact List.pairwise_singleton ..
   | x :: y :: r, h => simp at h; omega
  ·obtain ⟨m, hm⟩ : ∃ m : Nat, (xs.length : Int).tdiv 2 = m := ⟨xs.length / 2, by rw [Int.tdiv_eq_ediv_of_nonneg (by omega)]; omega⟩
   have hm2 : m = xs.length / 2 := by rw [Int.tdiv_eq_ediv_of_nonneg (by omega)] at hm; omega
   rw [hm, aW (x := (m : Int)) (by omega) (by omega)]
   refine jZ (by omega) (jZ (by omega) ?_)
   rw [aOk, aDa]
   obtain ⟨g, rfl⟩ : ∃ g, f = g + 1 := ⟨f - 1, by omega⟩
   refine bA (aFf g (xs := xs.take m) (by rw [List.length_take]; omega) (by rw [List.length_take]; omega)) fun v4 h4 => ?_
   refine bA (aFf g (xs := xs.drop m) (by rw [List.length_drop]; omega) (by rw [List.length_drop]; omega)) fun v5 h5 => ?_
   have l4 := h4.1.length_eq
   have l5 := h5.1.length_eq
   rw [List.length_take] at l4
   rw [List.length_drop] at l5
   refine bA (aQf h4.2 h5.2 (by omega)) fun v6 h6 => aQ ⟨?_, h6.2⟩
   have := h6.1.trans ((h4.1.append h5.1))
   rwa [List.take_append_drop] at this
theorem aSk {xs : List aZ} (hl : xs.length ≤ 100000) : Ok (iP aL5 xs) (fun r => r.Perm xs ∧ lS r) := by
 have e : aL5 = (aL5 - 1) + 1 := by unfold aL5; rfl
 rw [e]
 exact aFf _ (by unfold aL5; omega) hl
theorem aP3 {xs : List aZ} (hs : lS xs) (hl : xs.length ≤ 100000) (v : Int) : Ok (pP xs v) (fun k => (0 ≤ k ∧ k ≤ xs.length) ∧ (∀ (i : Nat) (hi : i < xs.length), (i : Int) < k → xs[i].value < v) ∧ ∀ (i : Nat) (hi : i < xs.length), k ≤ (i : Int) → v ≤ xs[i].value) := by
 unfold pP
 refine bA (P := fun (k : Int) => (0 ≤ k ∧ k ≤ xs.length) ∧ (∀ (i : Nat) (hi : i < xs.length), (i : Int) < k → xs[i].value < v) ∧ ∀ (i : Nat) (hi : i < xs.length), k ≤ (i : Int) → v ≤ xs[i].value) ?_ fun k h => aQ h
 refine fZ (I := fun (s : Int × Int) => (0 ≤ s.1 ∧ s.1 ≤ s.2 ∧ s.2 ≤ xs.length) ∧ (∀ (i : Nat) (hi : i < xs.length), (i : Int) < s.1 → xs[i].value < v) ∧ ∀ (i : Nat) (hi : i < xs.length), s.2 ≤ (i : Int) → v ≤ xs[i].value) (m := fun s => (s.2 - s.1).toNat) ?_ _ ⟨⟨by dsimp only; omega, by dsimp only; omega, by dsimp only; omega⟩, fun i hi h => by dsimp only at h; omega, fun i hi h => by dsimp only at h; omega⟩ (by dsimp only; omega)
 rintro ⟨a, b⟩ ⟨⟨a0, ab, b1⟩, h1, h2⟩
 dsimp only at a0 ab b1 h1 h2 ⊢
 refine cX (fun h => ?_) fun h => aQ (.inr ⟨_, rfl, ⟨a0, by omega⟩, h1, fun i hi hh => h2 i hi (by omega)⟩)
 have e : w64 ((w64 (a + b)).tdiv 2) = (a + b) / 2 := by
  rw [aW (x := a + b) (by omega) (by omega), Int.tdiv_eq_ediv_of_nonneg (by omega), aW (by omega) (by omega)]
 obtain ⟨m, hm⟩ : ∃ m : Nat, (a + b) / 2 = m := ⟨((a + b) / 2).toNat, by omega⟩
 rw [e, hm, eE (show m < xs.length by omega), Option.bind_some, aW (x := (m : Int) + 1) (by omega) (by omega)]
 refine cX (fun hv => aQ (.inl ⟨_, rfl, ⟨⟨by dsimp only; omega, by dsimp only; omega, b1⟩, fun i hi hh => ?_, h2⟩, by dsimp only; omega⟩)) fun hv => aQ (.inl ⟨_, rfl, ⟨⟨a0, by dsimp only; omega, by dsimp only; omega⟩, h1, fun i hi hh => ?_⟩, by dsimp only; omega⟩)
 ·dsimp only at hh
  have := nX hs (i := i) (j := m) (by omega) (by omega)
  omega
 ·dsimp only at hh
  have := nX hs (i := m) (j := i) (by omega) hi
  omega
end Go.Proofs.YtgcdbbidmfdonaaGreat
namespace Go.Proofs.YtgcdbbidmfdonaaGreat
set_option linter.unusedVariables false
set_option maxRecDepth 100000
def aBm (lo hi : Int) (n : Nat) (p : aZ) : Prop := p.teeth.length = n ∧ ∀ t ∈ p.teeth, lo ≤ t ∧ t ≤ hi
def aPm (k : Int) : Nat := if k ≤ 0 then 1 else if k = 1 then 31 else if k = 2 then 961 else 29791
theorem aO6 {k : Int} (h0 : 0 ≤ k) (h1 : k < 3) : aPm (k + 1) = 31 * aPm k ∧ aPm k ≤ 961 := by
 have : k = 0 ∨ k = 1 ∨ k = 2 := by omega
 rcases this with rfl | rfl | rfl <;> decide
theorem aKw {lo hi cnt : Int} (l0 : 1 ≤ lo) (lh : lo ≤ hi) (h1 : hi ≤ 120) (sp : hi ≤ lo + 30) (c0 : 0 ≤ cnt) (c1 : cnt ≤ 3) : Ok (iG lo hi cnt) (fun xs => (1 ≤ xs.length ∧ xs.length ≤ aPm cnt) ∧ ∀ p ∈ xs, aBm lo hi cnt.toNat p) := by
 unfold iG
 refine bA (P := fun (xs : List aZ) => (1 ≤ xs.length ∧ xs.length ≤ aPm cnt) ∧ ∀ p ∈ xs, aBm lo hi cnt.toNat p) ?_ fun v h => aQ h
 refine fZ (I := fun (s : List aZ × Int) => (0 ≤ s.2 ∧ s.2 ≤ cnt) ∧ (1 ≤ s.1.length ∧ s.1.length ≤ aPm s.2) ∧ ∀ p ∈ s.1, aBm lo hi s.2.toNat p) (m := fun s => (cnt - s.2).toNat) ?_ _ ⟨⟨by dsimp only; omega, by dsimp only; omega⟩, ⟨by simp, by simp [aPm]⟩, fun p hp => by simp at hp; subst hp; exact ⟨rfl, fun t ht => by cases ht⟩⟩ (by dsimp only; omega)
 rintro ⟨xs, k⟩ ⟨⟨k0, k1⟩, ⟨x0, x1⟩, xp⟩
 dsimp only at k0 k1 x0 x1 xp ⊢
 refine cX (fun hk => ?_) fun hk => aQ (.inr ⟨_, rfl, ?_⟩)
 ·obtain ⟨bs, bb⟩ := aO6 k0 (show k < 3 by omega)
  refine bA (P := fun (ys : List aZ) => (1 ≤ ys.length ∧ ys.length ≤ aPm (k + 1)) ∧ ∀ p ∈ ys, aBm lo hi (k + 1).toNat p) ?_ fun v74 h74 => aQ (.inl ⟨_, rfl, ⟨⟨?_, ?_⟩, ?_, ?_⟩, ?_⟩)
  ·refine bA (P := fun (ys : List aZ) => (1 ≤ ys.length ∧ ys.length ≤ aPm (k + 1)) ∧ ∀ p ∈ ys, aBm lo hi (k + 1).toNat p) ?_ fun v h => aQ h
   refine fZ (I := fun (s : Int × List aZ) => (0 ≤ s.1 ∧ s.1 ≤ xs.length) ∧ ((s.2.length : Int) ≤ 31 * s.1 ∧ (0 < s.1 → 1 ≤ s.2.length)) ∧ ∀ p ∈ s.2, aBm lo hi (k + 1).toNat p) (m := fun s => (xs.length - s.1).toNat) ?_ _ ⟨⟨by dsimp only; omega, by dsimp only; omega⟩, ⟨by simp, fun h => by simp at h⟩, fun p hp => by cases hp⟩ (by dsimp only; omega)
   rintro ⟨i, ys⟩ ⟨⟨i0, i1⟩, ⟨y0, y1⟩, yp⟩
   dsimp only at i0 i1 y0 y1 yp ⊢
   refine cX (fun hin => ?_) fun hin => aQ (.inr ⟨_, rfl, ⟨y1 (by omega), by omega⟩, yp⟩)
   obtain ⟨n, rfl⟩ : ∃ n : Nat, i = n := ⟨i.toNat, by omega⟩
   have hn : n < xs.length := by omega
   obtain ⟨pl, pt⟩ := xp _ (List.getElem_mem hn)
   simp only [eE hn, Option.bind_some]
   refine bA (P := fun (zs : List aZ) => ((zs.length : Int) ≤ 31 * (n + 1) ∧ 1 ≤ zs.length) ∧ ∀ p ∈ zs, aBm lo hi (k + 1).toNat p) ?_ fun v72 h72 => aQ (.inl ⟨_, rfl, ⟨⟨?_, ?_⟩, ⟨?_, fun _ => h72.1.2⟩, h72.2⟩, ?_⟩)
   ·refine bA (P := fun f => lo ≤ f ∧ f ≤ hi) (cX (fun hk0 => ?_) fun _ => aQ ⟨Int.le_refl _, lh⟩) fun f hf => ?_
    ·rw [aW (x := k - 1) (by omega) (by omega)]
     refine bA (qJ (i := k - 1) (by omega) (by rw [pl]; omega)) fun v58 h58 => aQ (pt _ h58.1)
    ·refine fZ (I := fun (s : Int × List aZ) => (f ≤ s.1 ∧ s.1 ≤ hi + 1) ∧ ((s.2.length : Int) ≤ 31 * n + (s.1 - f) ∧ (f < s.1 → 1 ≤ s.2.length)) ∧ ∀ p ∈ s.2, aBm lo hi (k + 1).toNat p) (m := fun s => (hi + 1 - s.1).toNat) ?_ _ ⟨⟨by dsimp only; omega, by dsimp only; omega⟩, ⟨by dsimp only; omega, fun h => by dsimp only at h; omega⟩, yp⟩ (by dsimp only; omega)
     rintro ⟨t, zs⟩ ⟨⟨t0, t1⟩, ⟨z0, z1⟩, zp⟩
     dsimp only at t0 t1 z0 z1 zp ⊢
     refine cX (fun ht => ?_) fun ht => aQ (.inr ⟨_, rfl, ⟨by omega, z1 (by omega)⟩, zp⟩)
     rw [zN (by omega), Option.bind_some]
     refine jZ (by simp; omega) (jZ (by simp; omega) (aQ (.inl ⟨_, rfl, ⟨⟨?_, ?_⟩, ⟨?_, fun _ => by simp⟩, ?_⟩, ?_⟩)))
     all_goals (dsimp only; try rw [aW (x := t + 1) (by omega) (by omega)])
     ·omega
     ·omega
     ·simp; omega
     ·intro p hp
      rcases List.mem_append.1 hp with hp | hp
      ·exact zp p hp
      ·rw [List.mem_singleton.1 hp]
       refine ⟨by simp [pl]; omega, fun u hu => ?_⟩
       rcases List.mem_append.1 hu with hu | hu
       ·exact pt u hu
       ·rw [List.mem_singleton.1 hu]; omega
     ·omega
   all_goals (dsimp only; try rw [aW (x := (n : Int) + 1) (by omega) (by omega)])
   ·omega
   ·omega
   ·exact h72.1.1
   ·omega
  all_goals (dsimp only; try rw [aW (x := k + 1) (by omega) (by omega)])
  ·omega
  ·omega
  ·exact h74.1
  ·exact h74.2
  ·omega
 ·rw [show k = cnt by omega] at x1 xp
  exact ⟨⟨x0, x1⟩, xp⟩
theorem aQy {a b : List Int} (ha : a.length ≤ 1000) (hab : a.length = b.length) : Ok (pG a b) (fun t => t.length = b.length ∧ ∀ p ∈ t, p.Driver ∈ a ∧ p.Driven ∈ b) := by
 unfold pG
 refine bA (aNq ha) fun v1 h1 => bA (aNq (show b.length ≤ 1000 by omega)) fun v2 h2 => ?_
 have l1 := h1.1.length_eq
 have l2 := h2.1.length_eq
 refine bA (P := fun (t : List dX) => t.length = b.length ∧ ∀ p ∈ t, p.Driver ∈ a ∧ p.Driven ∈ b) ?_ fun t h => aQ h
 refine fZ (I := fun (s : Int × List dX) => (0 ≤ s.1 ∧ s.1 ≤ v2.length) ∧ (s.2.length : Int) = s.1 ∧ ∀ p ∈ s.2, p.Driver ∈ a ∧ p.Driven ∈ b) (m := fun s => (v2.length - s.1).toNat) ?_ _ ⟨⟨by dsimp only; omega, by dsimp only; omega⟩, by simp, fun p hp => by cases hp⟩ (by dsimp only; omega)
 rintro ⟨i, out⟩ ⟨⟨i0, i1⟩, il, ip⟩
 dsimp only at i0 i1 il ip ⊢
 refine cX (fun hi => ?_) fun hi => aQ (.inr ⟨_, rfl, by omega, ip⟩)
 rw [aW (x := (v1.length : Int) - 1) (by omega) (by omega), aW (x := (v1.length : Int) - 1 - i) (by omega) (by omega)]
 refine bA (qJ (i := (v1.length : Int) - 1 - i) (by omega) (by omega)) fun v8 h8 => bA (qJ (i := i) i0 hi) fun v9 h9 => jZ (by simp; omega) (aQ (.inl ⟨_, rfl, ⟨⟨?_, ?_⟩, ?_, ?_⟩, ?_⟩))
 all_goals (dsimp only; try rw [aW (x := i + 1) (by omega) (by omega)])
 ·omega
 ·omega
 ·simp; omega
 ·intro p hp
  rcases List.mem_append.1 hp with hp | hp
  ·exact ip p hp
  ·rw [List.mem_singleton.1 hp]
   exact ⟨h1.1.mem_iff.1 h8.1, h2.1.mem_iff.1 h9.1⟩
 ·omega
theorem aQ8 {t : List dX} (hl : t.length ≤ 1000) : Ok (qD t) (fun _ => True) := by
 unfold qD
 refine bA (P := fun _ => True) ?_ fun v _ => aQ trivial
 refine fZ (I := fun (s : Int × Int) => 0 ≤ s.2 ∧ s.2 ≤ t.length) (m := fun s => (t.length - s.2).toNat) ?_ _ ⟨by dsimp only; omega, by dsimp only; omega⟩ (by dsimp only; omega)
 rintro ⟨k, i⟩ ⟨i0, i1⟩
 dsimp only at i0 i1 ⊢
 refine cX (fun hi => ?_) fun hi => aQ (.inr ⟨_, rfl, trivial⟩)
 refine bA (qJ i0 hi) fun v5 _ => bA (qJ i0 hi) fun v6 _ => aQ (.inl ⟨_, rfl, ⟨?_, ?_⟩, ?_⟩)
 all_goals (dsimp only; rw [aW (x := i + 1) (by omega) (by omega)]; omega)
theorem aNk {t : List dX} (hl : t.length ≤ 1000) (v : Int) {step : Int × List Int → Option ((Int × List Int) ⊕ List Int)} (hstep : ∀ s, step s = if s.1 < (t.length : Int) then ((atI t s.1).bind fun v8 => ((atI t s.1).bind fun v9 => (chk ((s.2.length + [v8.Driver, v9.Driven].length) * 1 * 64 ≤ 140737488355328) (some (.inl (w64 (s.1 + 1), s.2 ++ [v8.Driver, v9.Driven])))))) else some (.inr s.2)) : Ok (cO step (0, [v])) (fun xs => xs.length ≤ 3000) := by
 refine fZ (I := fun (s : Int × List Int) => (0 ≤ s.1 ∧ s.1 ≤ t.length) ∧ (s.2.length : Int) = 1 + 2 * s.1) (m := fun s => (t.length - s.1).toNat) ?_ _ ⟨⟨by dsimp only; omega, by dsimp only; omega⟩, by simp⟩ (by dsimp only; omega)
 rintro ⟨i, xs⟩ ⟨⟨i0, i1⟩, il⟩
 dsimp only at i0 i1 il ⊢
 rw [hstep]
 dsimp only
 refine cX (fun hi => ?_) fun hi => aQ (.inr ⟨_, rfl, by omega⟩)
 refine bA (qJ i0 hi) fun v5 _ => bA (qJ i0 hi) fun v6 _ => jZ (by simp; omega) (aQ (.inl ⟨_, rfl, ⟨⟨?_, ?_⟩, ?_⟩, ?_⟩))
 all_goals (dsimp only; try rw [aW (x := i + 1) (by omega) (by omega)])
 ·omega
 ·omega
 ·simp; omega
 ·omega
theorem aMx {a b : List dX} (ha : a.length ≤ 1000) (hb : b.length ≤ 1000) : Ok (lE a b) (fun _ => True) := by
 unfold lE
 refine bA (aQ8 ha) fun v1 _ => bA (aQ8 hb) fun v2 _ => ?_
 refine bA (aNk ha v1 fun s => rfl) fun xs hx => bA (aNk hb v2 fun s => rfl) fun ys hy => ?_
 refine bA (P := fun _ => True) ?_ fun v33 _ => ?_
 ·refine fZ (I := fun (s : Int) => 0 ≤ s ∧ s ≤ xs.length) (m := fun s => (xs.length - s).toNat) ?_ _ ⟨by omega, by omega⟩ (by omega)
  rintro i ⟨i0, i1⟩
  refine bA (P := fun b => b = true → i < xs.length ∧ i < ys.length) (cX (fun h1 => aQ fun h2 => ⟨h1, of_decide_eq_true h2⟩) fun _ => aQ fun h => by cases h) fun b hb => cX (fun hbt => ?_) fun _ => aQ (.inr ⟨_, rfl, trivial⟩)
  obtain ⟨j1, j2⟩ := hb hbt
  refine bA (qJ i0 j1) fun v29 _ => bA (qJ i0 j2) fun v30 _ => cX (fun _ => aQ (.inr ⟨_, rfl, trivial⟩)) fun _ => ?_
  refine bA (qJ i0 j1) fun v31 _ => bA (qJ i0 j2) fun v32 _ => cX (fun _ => aQ (.inr ⟨_, rfl, trivial⟩)) fun _ => aQ (.inl ⟨_, rfl, ⟨?_, ?_⟩, ?_⟩)
  all_goals (rw [aW (x := i + 1) (by omega) (by omega)]; omega)
 ·cases v33 with
  | inr z => exact aQ trivial
  | inl u =>
   unfold gY oK
   refine bA (P := fun _ => True) ?_ fun _ _ => aQ trivial
   simp only [Option.bind_some]
   exact cX (fun _ => aQ trivial) fun _ => cX (fun _ => aQ trivial) fun _ => aQ trivial
def trI (t : List dX) : Prop := t.length = 2 ∧ ∀ p ∈ t, (60 ≤ p.Driver ∧ p.Driver ≤ 84) ∧ 7 ≤ p.Driven ∧ p.Driven ≤ 10
theorem aNl {s : fI} (r : aJ) {a b : aZ} (ha : aBm 60 84 2 a) (hb : aBm 7 10 2 b) (hs : s.train = [] ∨ trI s.train) : Ok (gO s r a b) (fun s' => trI s'.train) := by
 unfold gO
 refine bA (P := fun _ => True) (by unfold hJ; exact cX (fun _ => aQ trivial) fun _ => aQ trivial) fun v1 _ => ?_
 have hg : s.train ≠ [] → trI s.train := fun h => hs.resolve_left h
 have hl : s.train.length ≤ 2 := by
  rcases hs with h | h
  ·rw [h]; simp
  ·rw [h.1]; omega
 refine bA (P := fun b => b = true → s.train ≠ []) (cX (fun h => aQ fun _ e => by rw [e] at h; simp at h) fun _ => aQ fun h => by cases h) fun v2 h2 => cX (fun h => aQ (hg (h2 h))) fun _ => ?_
 refine bA (aQy (a := a.teeth) (b := b.teeth) (by rw [ha.1]; omega) (by rw [ha.1, hb.1])) fun t ht => ?_
 have hT : trI t := ⟨by rw [ht.1, hb.1], fun p hp => ⟨ha.2 _ (ht.2 p hp).1, hb.2 _ (ht.2 p hp).2⟩⟩
 refine bA (P := fun b => b = false → s.train ≠ []) ?_ fun v5 h5 => cX (fun _ => aQ hT) fun h => aQ (hg (h5 (by simpa using h)))
 refine cX (fun _ => aQ fun h => by cases h) fun hne => ?_
 have hne' : s.train ≠ [] := fun e => hne (by rw [e]; rfl)
 refine cX (fun _ => aQ fun _ => hne') fun _ => bA (aMx (by rw [hT.1]; omega) (by omega)) fun v4 _ => aQ fun _ => hne'
theorem aNe {r : aJ} (hr : r.Num ≠ 0) : Ok (nE r ⟨60, 84, 7, 10, 2⟩) trI := by
 unfold nE
 refine bA (aKw (lo := 60) (hi := 84) (cnt := 2) (by decide) (by decide) (by decide) (by decide) (by decide) (by decide)) fun v1 h1 => ?_
 refine bA (aKw (lo := 7) (hi := 10) (cnt := 2) (by decide) (by decide) (by decide) (by decide) (by decide) (by decide)) fun v2 h2 => ?_
 have e2 : aPm 2 = 961 := by decide
 rw [e2] at h1 h2
 refine bA (aSk (by omega)) fun v3 h3 => ?_
 have l3 := h3.1.length_eq
 have p3 : ∀ p ∈ v3, aBm 7 10 2 p := fun p hp => h2.2 p (h3.1.mem_iff.1 hp)
 have p1 : ∀ p ∈ v1, aBm 60 84 2 p := h1.2
 refine bA (P := fun (s : fI) => trI s.train) ?_ fun v70 h70 => aQ h70
 refine fZ (I := fun (s : Int × fI) => (0 ≤ s.1 ∧ s.1 ≤ v1.length) ∧ (s.2.train = [] ∨ trI s.2.train) ∧ (0 < s.1 → trI s.2.train)) (m := fun s => (v1.length - s.1).toNat) ?_ _ ⟨⟨by dsimp only; omega, by dsimp only; omega⟩, .inl rfl, fun h => by dsimp only at h; omega⟩ (by dsimp only; omega)
 rintro ⟨i, s⟩ ⟨⟨i0, i1⟩, hs, hp⟩
 dsimp only at i0 i1 hs hp ⊢
 refine cX (fun hi => ?_) fun hi => aQ (.inr ⟨_, rfl, hp (by omega)⟩)
 obtain ⟨n, rfl⟩ : ∃ n : Nat, i = n := ⟨i.toNat, by omega⟩
 have hn : n < v1.length := by omega
 have pn := p1 _ (List.getElem_mem hn)
 simp only [eE hn, Option.bind_some]
 refine bA (P := fun (s : fI) => trI s.train) ?_ fun v69 h69 => aQ (.inl ⟨_, rfl, ⟨⟨?_, ?_⟩, .inr h69, fun _ => h69⟩, ?_⟩)
 ·refine jZ hr (bA (aP3 h3.2 (by omega) _) fun k hk => ?_)
  obtain ⟨⟨k0, k1⟩, _⟩ := hk
  refine bA (P := fun (s : fI) => (s.train = [] ∨ trI s.train) ∧ (0 < k → trI s.train)) ?_ fun v54 h54 => ?_
  ·refine cX (fun hk => ?_) fun hk => aQ ⟨hs, fun h => absurd h hk⟩
   rw [aW (x := k - 1) (by omega) (by omega)]
   obtain ⟨q, hq⟩ : ∃ q : Nat, k - 1 = q := ⟨(k - 1).toNat, by omega⟩
   have hq1 : q < v3.length := by omega
   rw [hq, eE hq1, Option.bind_some]
   refine aRt (P := fun (s : fI) => trI s.train) ?_ fun s h => ⟨.inr h, fun _ => h⟩
   refine fZ (I := fun (x : Int × fI) => (-1 ≤ x.1 ∧ x.1 ≤ q) ∧ (x.2.train = [] ∨ trI x.2.train) ∧ (x.1 < q → trI x.2.train)) (m := fun x => (x.1 + 1).toNat) ?_ _ ⟨⟨by dsimp only; omega, by dsimp only; omega⟩, hs, fun h => by dsimp only at h; omega⟩ (by dsimp only; omega)
   rintro ⟨j, u⟩ ⟨⟨j0, j1⟩, hu, hg⟩
   dsimp only at j0 j1 hu hg ⊢
   by_cases hj : 0 ≤ j
   ·obtain ⟨m, rfl⟩ : ∃ m : Nat, j = m := ⟨j.toNat, by omega⟩
    have hm : m < v3.length := by omega
    rw [if_pos hj]
    simp only [eE hm, Option.bind_some]
    refine cX (fun _ => bA (aNl r pn (p3 _ (List.getElem_mem hm)) hu) fun w hw => aQ (.inl ⟨_, rfl, ⟨⟨?_, ?_⟩, .inr hw, fun _ => hw⟩, ?_⟩)) fun hne => aQ (.inr ⟨_, rfl, ?_⟩)
    ·dsimp only; rw [aW (x := (m : Int) - 1) (by omega) (by omega)]; omega
    ·dsimp only; rw [aW (x := (m : Int) - 1) (by omega) (by omega)]; omega
    ·dsimp only; rw [aW (x := (m : Int) - 1) (by omega) (by omega)]; omega
    ·rcases Int.lt_or_le (m : Int) q with h | h
     ·exact hg h
     ·have : m = q := by omega
      subst this
      simp at hne
   ·rw [if_neg hj, Option.bind_some, if_neg (by decide)]
    exact aQ (.inr ⟨_, rfl, hg (by omega)⟩)
  ·refine fZ (I := fun (x : Int × fI) => (k ≤ x.1 ∧ x.1 ≤ v3.length) ∧ (x.2.train = [] ∨ trI x.2.train) ∧ (0 < k → trI x.2.train) ∧ (k < x.1 → trI x.2.train)) (m := fun x => (v3.length - x.1).toNat) ?_ _ ⟨⟨by dsimp only; omega, by dsimp only; omega⟩, h54.1, h54.2, fun h => by dsimp only at h; omega⟩ (by dsimp only; omega)
   rintro ⟨j, u⟩ ⟨⟨j0, j1⟩, hu, hg, hg2⟩
   dsimp only at j0 j1 hu hg hg2 ⊢
   by_cases hj : j < v3.length
   ·obtain ⟨m, rfl⟩ : ∃ m : Nat, j = m := ⟨j.toNat, by omega⟩
    obtain ⟨q, rfl⟩ : ∃ q : Nat, k = q := ⟨k.toNat, by omega⟩
    have hm : m < v3.length := by omega
    have hq : q < v3.length := by omega
    rw [if_pos hj]
    simp only [eE hm, eE hq, Option.bind_some]
    refine cX (fun _ => bA (aNl r pn (p3 _ (List.getElem_mem hm)) hu) fun w hw => aQ (.inl ⟨_, rfl, ⟨⟨?_, ?_⟩, .inr hw, fun _ => hw, fun _ => hw⟩, ?_⟩)) fun hne => aQ (.inr ⟨_, rfl, ?_⟩)
    ·dsimp only; rw [aW (x := (m : Int) + 1) (by omega) (by omega)]; omega
    ·dsimp only; rw [aW (x := (m : Int) + 1) (by omega) (by omega)]; omega
    ·dsimp only; rw [aW (x := (m : Int) + 1) (by omega) (by omega)]; omega
    ·rcases Int.lt_or_le (q : Int) m with h | h
     ·exact hg2 h
     ·have : m = q := by omega
      subst this
      simp at hne
   ·rw [if_neg hj, Option.bind_some, if_neg (by decide)]
    refine aQ (.inr ⟨_, rfl, ?_⟩)
    rcases Int.lt_or_le k j with h | h
    ·exact hg2 h
    ·exact hg (by omega)
 all_goals (dsimp only; rw [aW (x := (n : Int) + 1) (by omega) (by omega)]; omega)
end Go.Proofs.YtgcdbbidmfdonaaGreat
namespace Go.Proofs.YtgcdbbidmfdonaaGreat
set_option linter.unusedVariables false
set_option maxRecDepth 100000
def aO3 : ByteArray := ⟨#[99, 101, 110, 116, 101, 114]⟩
def aRe : ByteArray := ⟨#[116, 104, 105, 114, 100]⟩
def aNm : ByteArray := ⟨#[101, 115, 99, 97, 112, 101]⟩
def aNi : ByteArray := ⟨#[109, 105, 110, 117, 116, 101]⟩
def aTc : ByteArray := ⟨#[104, 111, 117, 114]⟩
def wkT (a b c d : Int) : bE := ⟨[⟨aO3, [a, 12]⟩, ⟨aRe, [b, c]⟩, ⟨aNm, [d]⟩, ⟨aNi, [36, 10]⟩, ⟨aTc, [40]⟩], [⟨0, 0, 1, 0⟩, ⟨1, 1, 2, 0⟩, ⟨0, 1, 3, 0⟩, ⟨3, 1, 4, 0⟩]⟩
def v1T (a b : Int) : aJ := (fY ⟨1, 1⟩ a b).1
def v2T (a b c d : Int) : aJ := (fY (v1T a b) c d).1
def tth (t : Int) : Prop := 6 ≤ t ∧ t ≤ 240
theorem aTv {a b c d : Int} (ha : tth a) (hb : tth b) (hc : tth c) (hd : tth d) : aAp (wkT a b c d) = true := by
 have n1 : lV aO3 = true := by decide
 have n2 : lV aRe = true := by decide
 have n3 : lV aNm = true := by decide
 have n4 : lV aNi = true := by decide
 have n5 : lV aTc = true := by decide
 have t : ∀ x, tth x → hZ x = true := fun x h => decide_eq_true h
 have ta := t a ha
 have tb := t b hb
 have tc := t c hc
 have td := t d hd
 have q1 : hZ 12 = true := by decide
 have q2 : hZ 36 = true := by decide
 have q3 : hZ 10 = true := by decide
 have q4 : hZ 40 = true := by decide
 refine lN.2 ⟨by simp [wkT], by simp [wkT], fun i hi => ?_, fun i hi => ?_⟩
 ·have : i = 0 ∨ i = 1 ∨ i = 2 ∨ i = 3 ∨ i = 4 := by simp [wkT] at hi; omega
  rcases this with rfl | rfl | rfl | rfl | rfl
  ·exact ⟨by simp [aE8, wkT, n1, ta, q1], rfl⟩
  ·exact ⟨by simp [aE8, wkT, n2, tb, tc], rfl⟩
  ·exact ⟨by simp [aE8, wkT, n3, td], rfl⟩
  ·exact ⟨by simp [aE8, wkT, n4, q2, q3], rfl⟩
  ·exact ⟨by simp [aE8, wkT, n5, q4], rfl⟩
 ·have : i = 0 ∨ i = 1 ∨ i = 2 ∨ i = 3 := by simp [wkT] at hi; omega
  rcases this with rfl | rfl | rfl | rfl
  ·exact ⟨iZ.2 ⟨by simp [wkT], rfl, rfl⟩, rfl⟩
  ·exact ⟨iZ.2 ⟨by simp [wkT], rfl, rfl⟩, rfl⟩
  ·exact ⟨iZ.2 ⟨by simp [wkT], rfl, rfl⟩, rfl⟩
  ·exact ⟨iZ.2 ⟨by simp [wkT], rfl, rfl⟩, rfl⟩
theorem aOg {a b c d : Int} (ha : tth a) (hb : tth b) (hc : tth c) (hd : tth d) (h1 : (fY ⟨1, 1⟩ a b).2 = true) (h2 : (fY (v1T a b) c d).2 = true) : fT (wkT a b c d) 0 = ([⟨1, 1⟩, v1T a b, v2T a b c d, ⟨-1, 3⟩, ⟨1, 12⟩], 0) := by
 have k0 : KnR ⟨1, 1⟩ := ⟨by decide, by decide⟩
 have k1 : KnR (v1T a b) := iH k0 ha.1 ha.2 hb.1 hb.2 h1
 have k2 : KnR (v2T a b c d) := iH k1 hc.1 hc.2 hd.1 hd.2 h2
 have d1 := k1.den
 have d2 := k2.den
 have e3 : fY ⟨1, 1⟩ 12 36 = (⟨-1, 3⟩, true) := by decide
 have e4 : fY ⟨-1, 3⟩ 10 40 = (⟨1, 12⟩, true) := by decide
 have f1 : fY ⟨1, 1⟩ a b = (v1T a b, true) := Prod.ext rfl h1
 have f2 : fY (v1T a b) c d = (v2T a b c d, true) := Prod.ext rfl h2
 have hO : ((0 : Int) = 0) = True := by simp
 have p1 : eO (wkT a b c d) ⟨0, 0, 1, 0⟩ = ⟨a, b⟩ := rfl
 have p2 : eO (wkT a b c d) ⟨1, 1, 2, 0⟩ = ⟨c, d⟩ := rfl
 have p3 : eO (wkT a b c d) ⟨0, 1, 3, 0⟩ = ⟨12, 36⟩ := rfl
 have p4 : eO (wkT a b c d) ⟨3, 1, 4, 0⟩ = ⟨10, 40⟩ := rfl
 generalize hw : wkT a b c d = w at *
 generalize v1T a b = v1 at *
 generalize v2T a b c d = v2 at *
 have s1 : kK w ⟨0, 0, 1, 0⟩ (false, [⟨1, 1⟩, ⟨0, 0⟩, ⟨0, 0⟩, ⟨0, 0⟩, ⟨0, 0⟩]) = .inl (true, [⟨1, 1⟩, v1, ⟨0, 0⟩, ⟨0, 0⟩, ⟨0, 0⟩]) := by simp [kK, jV, p1, f1]
 have s2 : kK w ⟨1, 1, 2, 0⟩ (true, [⟨1, 1⟩, v1, ⟨0, 0⟩, ⟨0, 0⟩, ⟨0, 0⟩]) = .inl (true, [⟨1, 1⟩, v1, v2, ⟨0, 0⟩, ⟨0, 0⟩]) := by simp [kK, jV, p2, f2, d1]
 have s3 : kK w ⟨0, 1, 3, 0⟩ (true, [⟨1, 1⟩, v1, v2, ⟨0, 0⟩, ⟨0, 0⟩]) = .inl (true, [⟨1, 1⟩, v1, v2, ⟨-1, 3⟩, ⟨0, 0⟩]) := by simp [kK, jV, p3, e3]
 have s4 : kK w ⟨3, 1, 4, 0⟩ (true, [⟨1, 1⟩, v1, v2, ⟨-1, 3⟩, ⟨0, 0⟩]) = .inl (true, [⟨1, 1⟩, v1, v2, ⟨-1, 3⟩, ⟨1, 12⟩]) := by simp [kK, jV, p4, e4]
 have u1 : kK w ⟨0, 0, 1, 0⟩ (false, [⟨1, 1⟩, v1, v2, ⟨-1, 3⟩, ⟨1, 12⟩]) = .inl (false, [⟨1, 1⟩, v1, v2, ⟨-1, 3⟩, ⟨1, 12⟩]) := by simp [kK, jV, d1]
 have u2 : kK w ⟨1, 1, 2, 0⟩ (false, [⟨1, 1⟩, v1, v2, ⟨-1, 3⟩, ⟨1, 12⟩]) = .inl (false, [⟨1, 1⟩, v1, v2, ⟨-1, 3⟩, ⟨1, 12⟩]) := by simp [kK, jV, d1, d2]
 have u3 : kK w ⟨0, 1, 3, 0⟩ (false, [⟨1, 1⟩, v1, v2, ⟨-1, 3⟩, ⟨1, 12⟩]) = .inl (false, [⟨1, 1⟩, v1, v2, ⟨-1, 3⟩, ⟨1, 12⟩]) := by simp [kK, jV]
 have u4 : kK w ⟨3, 1, 4, 0⟩ (false, [⟨1, 1⟩, v1, v2, ⟨-1, 3⟩, ⟨1, 12⟩]) = .inl (false, [⟨1, 1⟩, v1, v2, ⟨-1, 3⟩, ⟨1, 12⟩]) := by simp [kK, jV]
 have wm : w.Meshes = [⟨0, 0, 1, 0⟩, ⟨1, 1, 2, 0⟩, ⟨0, 1, 3, 0⟩, ⟨3, 1, 4, 0⟩] := by rw [← hw]; rfl
 have r1 : iS w w.Meshes (false, [⟨1, 1⟩, ⟨0, 0⟩, ⟨0, 0⟩, ⟨0, 0⟩, ⟨0, 0⟩]) = .inl (true, [⟨1, 1⟩, v1, v2, ⟨-1, 3⟩, ⟨1, 12⟩]) := by
  rw [wm]; simp only [iS, s1, s2, s3, s4]
 have r2 : iS w w.Meshes (false, [⟨1, 1⟩, v1, v2, ⟨-1, 3⟩, ⟨1, 12⟩]) = .inl (false, [⟨1, 1⟩, v1, v2, ⟨-1, 3⟩, ⟨1, 12⟩]) := by
  rw [wm]; simp only [iS, u1, u2, u3, u4]
 have hs : start w 0 = [⟨1, 1⟩, ⟨0, 0⟩, ⟨0, 0⟩, ⟨0, 0⟩, ⟨0, 0⟩] := by rw [← hw]; rfl
 have hn : uD (start w 0) = 4 := by rw [hs]; rfl
 have hi : xM w 0 = true := by rw [← hw]; rfl
 have hp : hY w (uD (start w 0) + 1) (start w 0) = .inl [⟨1, 1⟩, v1, v2, ⟨-1, 3⟩, ⟨1, 12⟩] := by
  rw [hn, hs]
  show (match iS w w.Meshes (false, [⟨1, 1⟩, ⟨0, 0⟩, ⟨0, 0⟩, ⟨0, 0⟩, ⟨0, 0⟩]) with
   | .inr u => .inr u
   | .inl (true, sp') => hY w 4 sp'
   | .inl (false, sp') => .inl sp' : List aJ ⊕ Unit) = _
  rw [r1]
  show (match iS w w.Meshes (false, [⟨1, 1⟩, v1, v2, ⟨-1, 3⟩, ⟨1, 12⟩]) with
   | .inr u => .inr u
   | .inl (true, sp') => hY w 3 sp'
   | .inl (false, sp') => .inl sp' : List aJ ⊕ Unit) = _
  rw [r2]
 unfold fT
 rw [if_pos hi, hp]
 have hz : ([⟨1, 1⟩, v1, v2, ⟨-1, 3⟩, ⟨1, 12⟩] : List aJ).any (fun r => decide (r.Den = 0)) = false := by simp [d1, d2]
 have hf : w.Meshes.all (aM8 w [⟨1, 1⟩, v1, v2, ⟨-1, 3⟩, ⟨1, 12⟩]) = true := by
  rw [wm]; simp [aM8, jV, p1, p2, p3, p4, f1, f2, e3, e4]
 dsimp only
 rw [hz, if_neg (by decide), if_pos hf]
theorem aOz {n d : Int} (hd : 0 < d) (h : (mkR n d).2 = true) : (mkR n d).1.Num * d = n * (mkR n d).1.Den := by
 unfold mkR at h ⊢
 split at h
 ·cases h
 ·rename_i hc
  rw [if_neg hc]
  have hg : 0 < Int.gcd n d := tR (by omega)
  obtain ⟨x, hx⟩ := Int.gcd_dvd_left n d
  obtain ⟨y, hy⟩ := Int.gcd_dvd_right n d
  generalize (Int.gcd n d) = g at *
  have hg' : (g : Int) ≠ 0 := by omega
  have ed : jW d = (g : Int) * y := by unfold jW; omega
  dsimp only
  rw [ed, Int.mul_ediv_cancel_left _ hg', decide_eq_false (show ¬ d < 0 by omega)]
  by_cases hn : n < 0
  ·have en : jW n = (g : Int) * (-x) := by rw [Int.mul_neg]; unfold jW; omega
   rw [decide_eq_true hn, en, Int.mul_ediv_cancel_left _ hg']
   simp only [bne_iff_ne, ne_eq, Bool.true_eq_false, not_false_eq_true, if_true, Int.neg_neg]
   rw [hy, hx, Int.mul_comm (g : Int) x, Int.mul_comm (g : Int) y, Int.mul_assoc, Int.mul_comm (g : Int) y]
  ·have en : jW n = (g : Int) * x := by unfold jW; omega
   rw [decide_eq_false hn, en, Int.mul_ediv_cancel_left _ hg']
   simp only [bne_self_eq_false, Bool.false_eq_true, if_false]
   grind
def mvT (nm : ByteArray) (a b c d teeth beats : Int) (cal : aB) (cam : List Int) (st : Int) : aU := ⟨nm, wkT a b c d, 0, 4, 2, teeth, beats, cal, cam, st⟩
theorem aRc {nm : ByteArray} {a b c d teeth beats : Int} {cal : aB} {cam : List Int} {st : Int} (hn : lV nm = true) (ha : tth a) (hb : tth b) (hc : tth c) (hd : tth d) (ht : tth teeth) (h0 : 1 ≤ beats ∧ beats ≤ 36000) (hk : xZ cal cam = 0) (hs : 0 ≤ st ∧ st ≤ 2) : vY (mvT nm a b c d teeth beats cal cam st) = true := by
 obtain ⟨k1, k2, k3, _⟩ := pS hk
 have e1 : hZ teeth = true := decide_eq_true ht
 have e2 : btw beats 1 36000 = true := decide_eq_true h0
 have e3 : btw st 0 2 = true := decide_eq_true hs
 have e4 := aTv ha hb hc hd
 unfold vY mvT
 simp only [hn, e1, e2, e3, e4, k1, k2, Bool.and_true, Bool.true_and]
 rfl
theorem aIp {nm : ByteArray} {a b c d teeth beats : Int} {cal : aB} {cam : List Int} {st : Int} (ha : tth a) (hb : tth b) (hc : tth c) (hd : tth d) (ht : tth teeth) (h0 : 1 ≤ beats ∧ beats ≤ 36000) (hk : xZ cal cam = 0) (h1 : (fY ⟨1, 1⟩ a b).2 = true) (h2 : (fY (v1T a b) c d).2 = true) (he : 2 * teeth * jW (v2T a b c d).Num = beats * (v2T a b c d).Den) : hH (mvT nm a b c d teeth beats cal cam st) = [] := by
 obtain ⟨k1, k2, k3, _⟩ := pS hk
 have k0 : KnR ⟨1, 1⟩ := ⟨by decide, by decide⟩
 have kv1 : KnR (v1T a b) := iH k0 ha.1 ha.2 hb.1 hb.2 h1
 have kv2 : KnR (v2T a b c d) := iH kv1 hc.1 hc.2 hd.1 hd.2 h2
 obtain ⟨g0, g1, g2, g3⟩ := wV kv2.1
 have hsp := aOg ha hb hc hd h1 h2
 obtain ⟨t0, t1⟩ := ht
 obtain ⟨b0, b1⟩ := h0
 have hab : 0 ≤ jW (v2T a b c d).Num ∧ jW (v2T a b c d).Num ≤ 1000000000 := by unfold jW; omega
 have q1 : 0 ≤ beats * (v2T a b c d).Den := Int.mul_nonneg (by omega) (by omega)
 have q2 : beats * (v2T a b c d).Den ≤ 36000 * 1000000000 := Int.mul_le_mul b1 g1 (by omega) (by omega)
 unfold hH mvT
 dsimp only
 rw [hsp]
 dsimp only
 rw [if_pos rfl, if_pos k3]
 have hbe : aHy ⟨nm, wkT a b c d, 0, 4, 2, teeth, beats, cal, cam, st⟩ (v2T a b c d) = true := by
  unfold aHy
  dsimp only
  rw [aW (x := 2 * teeth) (by omega) (by omega), he]
  exact decide_eq_true rfl
 have e1 : jV [⟨1, 1⟩, v1T a b, v2T a b c d, ⟨-1, 3⟩, ⟨1, 12⟩] 4 = ⟨1, 12⟩ := rfl
 have e2 : jV [⟨1, 1⟩, v1T a b, v2T a b c d, ⟨-1, 3⟩, ⟨1, 12⟩] 2 = v2T a b c d := rfl
 rw [e1, e2, if_pos rfl, if_pos hbe]
 rfl
end Go.Proofs.YtgcdbbidmfdonaaGreat
namespace Go.Proofs.YtgcdbbidmfdonaaGreat
set_option linter.unusedVariables false
set_option maxRecDepth 100000
theorem aBz {s : ByteArray} (h : lV s = true) : smS s := by
 unfold lV at h
 simp only [Bool.and_eq_true, decide_eq_true_eq] at h
 unfold smS; omega
theorem aKs {c : aB} (h : nJ c = true) : tO c := by
 obtain ⟨h1, h2, h3, h4, h5, h6, h7⟩ := eK h
 refine ⟨aBz h1, ⟨by omega, fun m hm => ⟨?_, trivial, trivial⟩⟩, ⟨by omega, fun _ _ => ⟨trivial, trivial, trivial⟩⟩, trivial⟩
 obtain ⟨i, hi, rfl⟩ := List.getElem_of_mem hm
 have := tV.1 h5 i hi
 rw [Bool.and_eq_true] at this
 have q := this.1
 unfold aOq at q
 rw [Bool.and_eq_true] at q
 exact aBz q.1
theorem aNy {m : aU} (h : vY m = true) : gI m := by
 have hc := wB h
 obtain ⟨hw, _⟩ := aGg h
 have hn : lV m.Name = true := by unfold vY at h; rw [Bool.and_eq_true] at h; exact h.1
 obtain ⟨w1, w2, w3, w4⟩ := lN.1 hw
 refine ⟨aBz hn, ⟨⟨by omega, fun a ha => ?_⟩, ⟨by omega, fun _ _ => ⟨trivial, trivial, trivial, trivial⟩⟩⟩, trivial, trivial, trivial, trivial, trivial, aKs hc.1, ⟨by have := (oE hc.2).2.2; omega, fun _ _ => trivial⟩, trivial⟩
 have q := aNj hw a ha
 unfold aE8 at q
 simp only [Bool.and_eq_true, decide_eq_true_eq] at q
 exact ⟨aBz q.2.1, by have := q.2.2; omega, fun _ _ => trivial⟩
def aL6 (t : List dX) (v : aJ) : Prop := ∃ a b c d : Int, t = [⟨a, b⟩, ⟨c, d⟩] ∧ (tth a ∧ tth b ∧ tth c ∧ tth d) ∧ (fY ⟨1, 1⟩ a b).2 = true ∧ (fY (v1T a b) c d).2 = true ∧ v = v2T a b c d
theorem aNx {t : List dX} (h : trI t) : ∃ a b c d : Int, t = [⟨a, b⟩, ⟨c, d⟩] ∧ tth a ∧ tth b ∧ tth c ∧ tth d := by
 obtain ⟨hl, hp⟩ := h
 match t, hl, hp with
 | [⟨a, b⟩, ⟨c, d⟩], _, hp =>
  have h1 := hp ⟨a, b⟩ (by simp)
  have h2 := hp ⟨c, d⟩ (by simp)
  dsimp only at h1 h2
  exact ⟨a, b, c, d, rfl, ⟨by omega, by omega⟩, ⟨by omega, by omega⟩, ⟨by omega, by omega⟩, ⟨by omega, by omega⟩⟩
theorem aIk {v : aJ} (hv : KnR v) {t u : Int} (ht : tth t) (hu : tth u) : ((fJ (w64 (-t)) u).bind fun x => iI v x.1) = some (fY v t u) := by
 obtain ⟨t0, t1⟩ := ht
 obtain ⟨u0, u1⟩ := hu
 obtain ⟨h1, h2, h3⟩ := wF t0 t1 u0 u1
 rw [aW (x := -t) (by omega) (by omega), kG ⟨by omega, by omega⟩ ⟨by omega, by omega⟩ (by omega), Option.bind_some, tU hv.1 h2]; rfl
theorem aQt {t : List dX} (h : trI t) : Ok (oP t) (fun r => r.2 = true → aL6 t r.1) := by
 obtain ⟨a, b, c, d, rfl, ha, hb, hc, hd⟩ := aNx h
 have k0 : KnR ⟨1, 1⟩ := ⟨by decide, by decide⟩
 unfold oP gY
 rw [Option.bind_some]
 have key := wI (xs := [(⟨a, b⟩ : dX), ⟨c, d⟩]) (X := aJ ⊕ (aJ × Bool)) (S := Int × aJ) (step := fun s7 : Int × aJ =>
  (if s7.1 < (([(⟨a, b⟩ : dX), ⟨c, d⟩]).length : Int) then ((atI [(⟨a, b⟩ : dX), ⟨c, d⟩] s7.1).bind fun v8 => ((atI [(⟨a, b⟩ : dX), ⟨c, d⟩] s7.1).bind fun v9 => ((fJ (w64 (-v8.Driver)) v9.Driven).bind fun v10 => ((iI s7.2 v10.1).bind fun v11 => (if (!v11.2) = true then some (.inr (.inr ((⟨0, 0⟩ : aJ), false))) else some (.inl (w64 (s7.1 + 1), v11.1))))))) else some (.inr (.inl s7.2)))) (fun i s => (i, s)) (fun _ (p : dX) s => ((fJ (w64 (-p.Driver)) p.Driven).bind fun x => iI s x.1).bind fun v11 => (if (!v11.2) = true then some (.inr (.inr ((⟨0, 0⟩ : aJ), false))) else some (.inl v11.1))) .inl (by simp) (fun i hi s => by
   have hi' : (i : Int) < (([(⟨a, b⟩ : dX), ⟨c, d⟩]).length : Int) := by omega
   have hi2 : i < 2 := hi
   simp only [if_pos hi', eE hi, Option.bind_some, aW (x := (i : Int) + 1) (by omega) (by omega)]
   cases hm : fJ (w64 (-[(⟨a, b⟩ : dX), ⟨c, d⟩][i].Driver)) [(⟨a, b⟩ : dX), ⟨c, d⟩][i].Driven with
   | none => rfl
   | some x =>
    simp only [Option.bind_some]
    cases hq : iI s x.1 with
    | none => rfl
    | some y => simp only [Option.bind_some]; split <;> rfl) (fun s => by simp) (⟨1, 1⟩ : aJ)
 rw [key]
 simp only [aM1, aIk k0 ha hb, Option.bind_some]
 by_cases h1 : (fY ⟨1, 1⟩ a b).2 = true
 ·rw [h1]
  simp only [Bool.not_true, Bool.false_eq_true, if_false, Option.bind_some]
  have k1 : KnR (v1T a b) := iH k0 ha.1 ha.2 hb.1 hb.2 h1
  have e := aIk k1 hc hd
  unfold v1T at e
  rw [e, Option.bind_some]
  by_cases h2 : (fY (fY ⟨1, 1⟩ a b).1 c d).2 = true
  ·rw [h2]
   exact aQ fun _ => ⟨a, b, c, d, rfl, ⟨ha, hb, hc, hd⟩, h1, h2, rfl⟩
  ·rw [Bool.not_eq_true] at h2
   rw [h2]
   exact aQ fun h => by cases h
 ·rw [Bool.not_eq_true] at h1
  rw [h1]
  exact aQ fun h => by cases h
theorem aOw {t : List dX} {v : aJ} (h : aL6 t v) : KnR v := by
 obtain ⟨a, b, c, d, rfl, ⟨ha, hb, hc, hd⟩, h1, h2, rfl⟩ := h
 exact iH (iH ⟨by decide, by decide⟩ ha.1 ha.2 hb.1 hb.2 h1) hc.1 hc.2 hd.1 hd.2 h2
theorem aRy {t : List dX} (h : trI t) {r : aJ} (hr : aDv r = true) : Ok (qM t r) (fun x => (x.2 = true → -1000000000 ≤ x.1.Num ∧ x.1.Num ≤ 1000000000) ∧ (x.2 = true → x.1.Num = 0 → ∃ v, aL6 t v ∧ jW v.Num * r.Den = r.Num * v.Den)) := by
 unfold qM
 refine bA (aQt h) fun x hx => cX (fun _ => aQ ?_) fun hn => ?_
 ·exact ⟨fun h => (by cases h), fun h => (by cases h)⟩
 have hg := hx (by simpa using hn)
 have hv := aOw hg
 obtain ⟨v0, v1, v2, v3⟩ := wV hv.1
 obtain ⟨r0, r1, r2, r3⟩ := wV hr
 have ha : 0 ≤ jW x.1.Num ∧ jW x.1.Num ≤ 1000000000 := by unfold jW; omega
 rw [sB (by omega) (by omega), Option.bind_some]
 unfold wD wM
 rw [aW (x := -r.Num) (by omega) (by omega), Option.bind_some]
 dsimp only
 have b1 := aC5 (a := jW x.1.Num) (b := r.Den) (A := 1000000000) (B := 1000000000) (by omega) (by omega) (by omega) (by omega)
 have b2 := aC5 (a := -r.Num) (b := x.1.Den) (A := 1000000000) (B := 1000000000) (by omega) (by omega) (by omega) (by omega)
 have b3 := aC5 (a := x.1.Den) (b := r.Den) (A := 1000000000) (B := 1000000000) (by omega) (by omega) (by omega) (by omega)
 have b4 : x.1.Den * r.Den ≠ 0 := Int.mul_ne_zero (by omega) (by omega)
 rw [aW (x := jW x.1.Num * r.Den) (by omega) (by omega), aW (x := -r.Num * x.1.Den) (by omega) (by omega), aW (x := _ + _) (by omega) (by omega), aW (x := x.1.Den * r.Den) (by omega) (by omega), kG ⟨by omega, by omega⟩ ⟨by omega, by omega⟩ b4, Option.bind_some, Option.bind_some]
 refine aQ ⟨fun hm => ?_, fun hm h0 => ⟨x.1, hg, ?_⟩⟩
 ·have := wV (aCk b4 hm).1
  dsimp only; omega
 ·have := (aCk b4 hm).2.1 h0
  rw [Int.neg_mul] at this
  omega
theorem aTs {t : List dX} (h : trI t) : vA t = some true := by
 obtain ⟨a, b, c, d, rfl, ha, hb, hc, hd⟩ := aNx h
 have q1 : hZ a = true := decide_eq_true ha
 have q2 : hZ b = true := decide_eq_true hb
 have q3 : hZ c = true := decide_eq_true hc
 have q4 : hZ d = true := decide_eq_true hd
 unfold vA
 rw [sR (xs := [(⟨a, b⟩ : dX), ⟨c, d⟩]) (e := .inr false) (fun _ p => hZ p.Driver && hZ p.Driven) (by simp) fun i hi => ?_]
 ·have : aGw [(⟨a, b⟩ : dX), ⟨c, d⟩] (fun _ p => hZ p.Driver && hZ p.Driven) = true := by
   rw [tV]
   intro i hi
   have : i = 0 ∨ i = 1 := by simp at hi; omega
   rcases this with rfl | rfl
   ·simp [q1, q2]
   ·simp [q3, q4]
  rw [this]; rfl
 ·rw [eE hi, Option.bind_some]
  unfold tZ
  rw [mX, mX]
  simp only [Option.bind_some]
  cases hZ [(⟨a, b⟩ : dX), ⟨c, d⟩][i].Driver <;> cases hZ [(⟨a, b⟩ : dX), ⟨c, d⟩][i].Driven <;> rfl
theorem aSd {r : aJ} (hr : aDv r = true) : Ok (mS r ⟨60, 84, 7, 10, 2⟩) (fun f => f.2 = 0 → f.1.Error.Num = 0 → ∃ v, aL6 f.1.Train v ∧ jW v.Num * r.Den = r.Num * v.Den) := by
 have el : yG ⟨60, 84, 7, 10, 2⟩ = some true := by decide
 unfold mS wN
 rw [aEy, Option.bind_some, hr, el]
 simp only [Bool.not_true, Bool.false_eq_true, if_false, Option.bind_some, eC, itA]
 refine cX (fun _ => aQ fun h => by cases h) fun ha => ?_
 have ha : (btw r.Num 1 1000000 && decide (r.Den ≤ 1000000)) = true := by simpa using ha
 rw [Bool.and_eq_true] at ha
 have hn := of_decide_eq_true ha.1
 unfold tS
 refine bA (P := fun f => f.2 = 0 → f.1.Error.Num = 0 → ∃ v, aL6 f.1.Train v ∧ jW v.Num * r.Den = r.Num * v.Den) ?_ fun f hf => aQ hf
 refine bA (aNe (r := r) (by omega)) fun t ht => ?_
 unfold tB
 rw [aTs ht, Option.bind_some, aEy, hr]
 simp only [Bool.not_true, Bool.false_eq_true, if_false, Option.bind_some]
 refine bA (P := fun e => e.2 = 0 → e.1.Num = 0 → ∃ v, aL6 t v ∧ jW v.Num * r.Den = r.Num * v.Den) ?_ fun e he => cX (fun hne => aQ fun h => absurd h hne) fun h0 => aQ fun _ hz => he (by omega) hz
 refine bA (aRy ht hr) fun x hx => cX (fun _ => aQ fun h => by cases h) fun hb => ?_
 have hb : x.2 = true := by simpa using hb
 have h1 := hx.1 hb
 rw [sB (by omega) (by omega), Option.bind_some]
 exact aQ fun _ hz => hx.2 hb (by dsimp only at hz; unfold jW at hz; omega)
theorem aUz {c : aB} (h : tO c) : nQ c = some c := by
 have h1 := h.2.1.1
 have h2 := h.2.2.1.1
 unfold nQ
 rw [gB (by simp; omega), gB (by simp; omega)]
 simp
theorem aT0 {nm : ByteArray} {beats teeth y : Int} {c : aB} (hn : lV nm = true) (hb : 1 ≤ beats ∧ beats ≤ 36000) (ht : tth teeth) (hc : nJ c = true) : Ok (gX nm beats teeth c y) (fun r => r.2 = 0 → vY r.1 = true ∧ hH r.1 = [] ∧ r.1.Calendar = c) := by
 have hcm := (eK hc).2.1
 have hcr := (eK hc).2.2.1
 have e1 : btw beats 1 36000 = true := decide_eq_true hb
 have e2 : hZ teeth = true := decide_eq_true ht
 have ht' := ht
 obtain ⟨t0, t1⟩ := ht'
 unfold gX
 rw [sS (by omega) (by omega), Option.bind_some, hc, qY, hn, eC, e1, mX, e2]
 simp only [Bool.not_true, Bool.false_eq_true, if_false, Option.bind_some]
 refine bA (aMl hc y) fun k hk => cX (fun hne => aQ fun h => absurd h hne) fun h0 => ?_
 have hask := hk (by omega)
 rw [aW (x := 2 * teeth) (by omega) (by omega), kG ⟨by omega, by omega⟩ ⟨by omega, by omega⟩ (by omega), Option.bind_some]
 have hs := aHm (n := beats) (d := 2 * teeth) (by omega) (by omega) (by omega) (by omega) (by omega)
 have hr := (aCk (show 2 * teeth ≠ 0 by omega) hs).1
 have hx := aOz (n := beats) (d := 2 * teeth) (by omega) hs
 have hl : pZ = some ⟨60, 84, 7, 10, 2⟩ := rfl
 rw [hl, Option.bind_some]
 refine bA (aSd hr) fun f hf => ?_
 refine bA (P := fun b => b = false → f.2 = 0 ∧ f.1.Error.Num = 0) (cX (fun _ => aQ fun h => by cases h) fun h => aQ fun h2 => ⟨by omega, by have := of_decide_eq_false h2; omega⟩) fun b hbb => cX (fun _ => aQ fun h => by cases h) fun hbf => ?_
 obtain ⟨f0, f1⟩ := hbb (by simpa using hbf)
 obtain ⟨v, ⟨p, q, s, u, et, ⟨hp, hq, hS, hu⟩, m1, m2, rfl⟩, hv⟩ := hf f0 f1
 have ew : mB f.1.Train = some (wkT p q s u) := by rw [et]; rfl
 rw [ew, Option.bind_some, aUz (aKs hc), Option.bind_some]
 have hd := wV hr
 have he : 2 * teeth * jW (v2T p q s u).Num = beats * (v2T p q s u).Den := by
  refine Int.eq_of_mul_eq_mul_right (a := (mkR beats (2 * teeth)).1.Den) (by omega) ?_
  calc 2 * teeth * jW (v2T p q s u).Num * (mkR beats (2 * teeth)).1.Den = 2 * teeth * (jW (v2T p q s u).Num * (mkR beats (2 * teeth)).1.Den) := by rw [Int.mul_assoc]
   _ = 2 * teeth * ((mkR beats (2 * teeth)).1.Num * (v2T p q s u).Den) := by rw [hv]
   _ = ((mkR beats (2 * teeth)).1.Num * (2 * teeth)) * (v2T p q s u).Den := by rw [← Int.mul_assoc, Int.mul_comm (2 * teeth)]
   _ = (beats * (mkR beats (2 * teeth)).1.Den) * (v2T p q s u).Den := by rw [hx]
   _ = beats * (v2T p q s u).Den * (mkR beats (2 * teeth)).1.Den := by rw [Int.mul_assoc, Int.mul_assoc, Int.mul_comm (mkR beats (2 * teeth)).1.Den]
 exact aQ fun _ => ⟨aRc hn hp hq hS hu ht hb hask (by omega), aIp hp hq hS hu ht hb hask m1 m2 he, rfl⟩
theorem aOe {m : aU} (h : vY m = true) {st : Int} (hs : 0 ≤ st ∧ st ≤ 2) : vY ⟨m.Name, m.Works, m.Minute, m.Hour, m.Escape, m.Teeth, m.Beats, m.Calendar, m.Cam, st⟩ = true := by
 have e : btw st 0 2 = true := decide_eq_true hs
 unfold vY at h ⊢
 simp only [Bool.and_eq_true] at h ⊢
 obtain ⟨h1, h2, h3, h4, h5, h6, h7, h8, h9, _⟩ := h
 exact ⟨h1, h2, h3, h4, h5, h6, h7, h8, h9, e⟩
theorem aLq {n : Int} {s : bP} (h : lU n s) (hn : n ≤ 10000000) : Ok (kL s) (fun r => vY r.1 = true ∧ hH r.1 = [] ∧ lU (n + 120) r.2) := by
 unfold kL
 refine bA (aMp h (by omega)) fun v1 h1 => bA (yI h1.2 (by omega) (by simp)) fun v2 h2 => bA (yI h2.2 (by omega) (by simp)) fun v3 h3 => bA (lA h3.2 (by omega)) fun v4 h4 => ?_
 have hc := h1.1.1
 have b := h2.1
 have t := h3.1
 simp only [List.mem_cons, List.not_mem_nil, or_false] at b t
 refine bA (aT0 (nm := ⟨#[99, 108, 111, 99, 107]⟩) (beats := v2.1) (teeth := v3.1) (by decide) (by omega) ⟨by omega, by omega⟩ hc) fun v5 h5 => ?_
 refine bA (P := fun v8 : ByteArray × List cQ × Int × Int × Int × Int × Int × aB × Int × List cH × List Int => vY ⟨v8.1, ⟨v8.2.1, v8.2.2.2.2.2.2.2.2.2.1⟩, v8.2.2.1, v8.2.2.2.1, v8.2.2.2.2.1, v8.2.2.2.2.2.1, v8.2.2.2.2.2.2.1, v8.2.2.2.2.2.2.2.1, v8.2.2.2.2.2.2.2.2.2.2, v8.2.2.2.2.2.2.2.2.1⟩ = true ∧ hH ⟨v8.1, ⟨v8.2.1, v8.2.2.2.2.2.2.2.2.2.1⟩, v8.2.2.1, v8.2.2.2.1, v8.2.2.2.2.1, v8.2.2.2.2.2.1, v8.2.2.2.2.2.2.1, v8.2.2.2.2.2.2.2.1, v8.2.2.2.2.2.2.2.2.2.2, v8.2.2.2.2.2.2.2.2.1⟩ = []) ?_ fun v8 h8 => ?_
 ·refine cX (fun _ => ?_) fun h0 => aQ ?_
  ·have ew : mB [(⟨64, 8⟩ : dX), ⟨60, 8⟩] = some (wkT 64 8 60 8) := rfl
   rw [ew, Option.bind_some]
   refine bA (aPr hc) fun v7 h7 => aQ ?_
   have e60 : 2 * 30 * jW (v2T 64 8 60 8).Num = 3600 * (v2T 64 8 60 8).Den := by decide
   have q : ∀ x : Int, 6 ≤ x → x ≤ 240 → tth x := fun x a b => ⟨a, b⟩
   exact ⟨aRc (nm := ⟨#[112, 108, 97, 105, 110]⟩) (st := 0) (by decide) (q 64 (by decide) (by decide)) (q 8 (by decide) (by decide)) (q 60 (by decide) (by decide)) (q 8 (by decide) (by decide)) (q 30 (by decide) (by decide)) (beats := 3600) (by decide) h7 (by decide), aIp (nm := ⟨#[112, 108, 97, 105, 110]⟩) (st := 0) (q 64 (by decide) (by decide)) (q 8 (by decide) (by decide)) (q 60 (by decide) (by decide)) (q 8 (by decide) (by decide)) (q 30 (by decide) (by decide)) (beats := 3600) (by decide) h7 (by decide) (by decide) e60⟩
  ·have := h5 (by omega)
   exact ⟨this.1, this.2.1⟩
 ·have hst := aCt h8.1
  refine bA (P := fun v : bP × Int => (0 ≤ v.2 ∧ v.2 ≤ 2) ∧ lU (n + 120) v.1) ?_ fun v11 h11 => aQ ⟨aOe h8.1 h11.1, h8.2, h11.2⟩
  refine bA (aE7 h4.2.2.2 (by omega)) fun v9 h9 => cX (fun _ => bA (lA h9 (by omega)) fun v10 h10 => aQ ⟨⟨h10.1, ?_⟩, gC h10.2.2.2 (by omega)⟩) fun _ => aQ ⟨hst, gC h9 (by omega)⟩
  have := h10.2.1
  dsimp only; omega
end Go.Proofs.YtgcdbbidmfdonaaGreat
namespace Go.Proofs.YtgcdbbidmfdonaaGreat
set_option linter.unusedVariables false
set_option maxRecDepth 100000
def aSm (s : Int × bP × aE9) : Option ((Int × bP × aE9) ⊕ (bP × aE9)) := if 0 < s.1 then
 ((fA s.2.1 [0, 1, 3600, 86399, 86400, 1000000, 40000]).bind fun v14 => (qE (unS s.2.2) v14.1).bind fun v15 => if v15.2.2 = 0 then some (v14.2, zT v15.1) else some (v14.2, s.2.2)).bind fun v16 => some (.inl (w64 (s.1 - 1), v16))
 else some (.inr s.2)
theorem aHo (p0 : bP) : mQ p0 = (kL p0).bind fun v1 => (kV v1.2 v1.1.Calendar).bind fun v2 => (bS v2.2 v1.1.Calendar.Week).bind fun v3 => (qB v1.1 v2.1 (w64 (1 + v3.1))).bind fun v4 =>
 (if v4.2 ≠ 0 then none else some () : Option Unit).bind fun _ => ((bS v3.2 4).bind fun v8 => cO aSm (v8.1, v8.2, zT v4.1)).bind fun v17 =>
 ((fE v17.1 4).bind fun v18 => if v18.1 = true then (bS v18.2 3).bind fun v19 => (lR (unS v17.2) (w64 (1 + v19.1))).bind fun v20 => some (v19.2, zT v20.1) else some (v18.2, v17.2)).bind fun v21 => some (unS v21.2, v21.1) := rfl
def ofM (m : aU) (d : cA) (w : Int) (s : dM) : Prop := (mI s ∧ yA s = true) ∧ s.Movement = m ∧ s.Start = d ∧ s.First = w
def aE3 (m : aU) (d : cA) (w : Int) : dM := ⟨m, d, w, 0, aJn m.Calendar m.Cam d w⟩
theorem aF9 {m : aU} (h : vY m = true) (hf : hH m = []) : xZ m.Calendar m.Cam = 0 := by
 obtain ⟨c1, c2⟩ := wB h
 rw [aB8 c1 c2]
 refine if_pos (Classical.byContradiction fun hn => ?_)
 unfold hH at hf
 rw [if_neg hn] at hf
 exact absurd (List.append_eq_nil_iff.1 hf).2 (by simp)
theorem aRl {m : aU} {d : cA} {w : Int} (h : vY m = true) (hf : hH m = []) (hd : lQ m.Calendar d = true) (h1 : 1 ≤ w) (h2 : w ≤ m.Calendar.Week) : ofM m d w (aE3 m d w) := by
 have ha := aF9 h hf
 have z := aHi (cam := m.Cam) ha hd h1 h2
 have i := aRj (cam := m.Cam) ha hd h1 h2
 have hm := aNy h
 refine ⟨⟨⟨hm, ⟨trivial, trivial, trivial⟩, trivial, trivial, ⟨⟨(smC hm).2.2, fun _ _ => trivial⟩, trivial, trivial, trivial, trivial, trivial, trivial⟩⟩, ?_⟩, rfl, rfl, rfl⟩
 unfold yA aE3
 dsimp only
 rw [z]
 have q : btw (0 : Int) 0 1000000000 = true := by decide
 simp only [Bool.and_eq_true, decide_eq_true_eq]
 exact ⟨h, hf, trivial, q, i.2, rfl, trivial, trivial, trivial⟩
theorem aT1 {m : aU} {d : cA} {w : Int} (h : vY m = true) (hf : hH m = []) (hd : lQ m.Calendar d = true) (h1 : 1 ≤ w) (h2 : w ≤ m.Calendar.Week) : qB m d w = some (aE3 m d w, 0) := by
 have hm := aNy h
 have ha := aF9 h hf
 obtain ⟨c1, c2, c3⟩ := smC hm
 unfold qB kB
 rw [aEo hm, Option.bind_some, h, wT hm h, hf]
 simp only [Bool.not_true, Bool.false_eq_true, if_false, Option.bind_some]
 rw [if_neg (by simp), nV (by omega) (by omega) c3, aHi ha hd h1 h2, aCz hm]
 rfl
theorem aL4 {n : Int} {s : bP} (h : lU n s) (hn : n ≤ 1000000) : Ok (mQ s) (fun r => ∃ m d w, vY m = true ∧ hH m = [] ∧ lQ m.Calendar d = true ∧ (1 ≤ w ∧ w ≤ m.Calendar.Week) ∧ ofM m d w r.1) := by
 rw [aHo]
 refine bA (aLq h (by omega)) fun v1 h1 => ?_
 obtain ⟨m1, m2, m3⟩ := h1
 have hcal := (wB m1).1
 have hwk := (eK hcal).2.2.2.1
 refine bA (aMg m3 (by omega) hcal) fun v2 h2 => bA (lA h2.2 (by omega)) fun v3 h3 => ?_
 have w0 := h3.1
 have w1 : v3.1 < v1.1.Calendar.Week := by rcases h3.2.1 with q | q <;> omega
 rw [aW (x := 1 + v3.1) (by omega) (by omega), aT1 m1 m2 h2.1 (by omega) (by omega), Option.bind_some, if_neg (by simp), Option.bind_some]
 have hb := aRl m1 m2 h2.1 (w := 1 + v3.1) (by omega) (by omega)
 have key : Ok ((bS v3.2 4).bind fun v8 => cO aSm (v8.1, v8.2, zT (aE3 v1.1 v2.1 (1 + v3.1)))) (fun r => (∃ u, r.2 = zT u ∧ ofM v1.1 v2.1 (1 + v3.1) u) ∧ lU (n + 300) r.1) := by
  refine bA (lA h3.2.2.2 (by omega)) fun v8 h8 => ?_
  have k0 := h8.1
  have k1 : v8.1 < 4 := by rcases h8.2.1 with q | q <;> omega
  refine fZ (I := fun s : Int × bP × aE9 => (0 ≤ s.1 ∧ s.1 ≤ 3) ∧ (∃ u, s.2.2 = zT u ∧ ofM v1.1 v2.1 (1 + v3.1) u ∧ u.Clock ≤ 1000000 * (3 - s.1)) ∧ lU (n + 200 + 4 * (3 - s.1)) s.2.1) (m := fun s => s.1.toNat) ?_ _ ⟨⟨by dsimp only; omega, by dsimp only; omega⟩, ⟨_, rfl, hb, by show (0 : Int) ≤ 1000000 * (3 - v8.1); omega⟩, gC h8.2.2.2 (by dsimp only; omega)⟩ (by dsimp only; omega)
  rintro ⟨k, src, x⟩ ⟨⟨i0, i1⟩, ⟨u, rfl, hu, hc⟩, is⟩
  dsimp only at i0 i1 hc is ⊢
  unfold aSm
  dsimp only
  refine cX (fun hk => ?_) fun _ => aQ (.inr ⟨_, rfl, ⟨u, rfl, hu⟩, gC is (by omega)⟩)
  refine bA (P := fun r : bP × aE9 => (∃ u, r.2 = zT u ∧ ofM v1.1 v2.1 (1 + v3.1) u ∧ u.Clock ≤ 1000000 * (3 - (k - 1))) ∧ lU (n + 200 + 4 * (3 - (k - 1))) r.1) ?_ fun v16 h16 => aQ (.inl ⟨_, rfl, ⟨⟨?_, ?_⟩, ?_, ?_⟩, ?_⟩)
  ·refine bA (yI is (by omega) (by simp)) fun v14 h14 => ?_
   have hm := h14.1
   simp only [List.mem_cons, List.not_mem_nil, or_false] at hm
   obtain ⟨⟨u1, u2⟩, u3⟩ := hu
   have uc := (oO u2).2.2.2.1
   have hx : unS (zT u) = u := rfl
   have he := (aLm u1 u2 (k := v14.1) (by omega) (by omega) (by omega)).1
   rw [hx, he, Option.bind_some]
   refine cX (fun _ => aQ ⟨⟨_, rfl, ⟨⟨aJs u1 _, aOl u2 (by omega) (by omega)⟩, u3⟩, ?_⟩, gC h14.2 (by omega)⟩) fun hne => absurd rfl hne
   show u.Clock + v14.1 ≤ _
   omega
  all_goals (dsimp only; rw [aW (x := k - 1) (by omega) (by omega)])
  ·omega
  ·omega
  ·exact h16.1
  ·exact h16.2
  ·omega
 refine bA key fun v17 h17 => ?_
 obtain ⟨⟨u, e, hu⟩, hs⟩ := h17
 rw [e]
 refine bA (P := fun r : bP × aE9 => ∃ u, r.2 = zT u ∧ ofM v1.1 v2.1 (1 + v3.1) u) ?_ fun v21 h21 => aQ ?_
 ·refine bA (aE7 hs (by omega)) fun v18 h18 => cX (fun _ => bA (lA h18 (by omega)) fun v19 h19 => ?_) fun _ => aQ ⟨u, rfl, hu⟩
  have p0 := h19.1
  have p1 : v19.1 < 3 := by rcases h19.2.1 with q | q <;> omega
  obtain ⟨⟨u1, u2⟩, u3⟩ := hu
  have uc := (oO u2).2.2.2.1
  have hx : unS (zT u) = u := rfl
  obtain ⟨p, _, e2, kp, ip⟩ := aNs u1 u2 (k := 1 + v19.1) (by omega) (by omega)
  rw [aW (x := 1 + v19.1) (by omega) (by omega), hx, e2, Option.bind_some]
  exact aQ ⟨_, rfl, ⟨aLl u1 (by rw [kp.1]; exact u1.2.2.2.2.1.1), aFp u2 uc.1 uc.2 kp ip⟩, u3⟩
 ·obtain ⟨u', e', hu'⟩ := h21
  rw [e']
  exact ⟨v1.1, v2.1, 1 + v3.1, m1, m2, h2.1, ⟨by omega, by omega⟩, hu'⟩
theorem aP7 {c : List Int} (h1 : c.length ≤ 1000000) (h2 : ∀ b ∈ c, 0 ≤ b ∧ b ≤ 255) : Ok (vP c) (fun s => ∃ m d w, vY m = true ∧ hH m = [] ∧ lQ m.Calendar d = true ∧ (1 ≤ w ∧ w ≤ m.Calendar.Week) ∧ s = aE3 m d w) := by
 unfold vP
 refine bA (aRv h1 h2) fun v1 q1 => bA (aL4 q1 (by omega)) fun v2 q2 => ?_
 obtain ⟨m, d, w, a1, a2, a3, ⟨a4, a5⟩, ⟨_, b1, b2, b3⟩⟩ := q2
 obtain ⟨c1, c2, c3⟩ := smC (aNy a1)
 rw [b1, b2, b3]
 unfold kB
 rw [nV (by omega) (by omega) c3, aHi (aF9 a1 a2) a3 a4 a5, Option.bind_some]
 exact aQ ⟨m, d, w, a1, a2, a3, ⟨a4, a5⟩, rfl⟩
theorem aSu {c : List Int} (h2 : ∀ b ∈ c, 0 ≤ b ∧ b ≤ 255) {i n : Int} (hi : 0 ≤ i) (hn : 1 ≤ n) : Ok (tL c i n) (fun r => 0 ≤ r ∧ r ≤ n - 1 ∧ r ≤ 255) := by
 unfold tL
 refine bA (P := fun b => b = false → i < c.length) (cX (fun _ => aQ fun h => by cases h) fun h => aQ fun _ => by omega) fun b hb => cX (fun _ => aQ ⟨by omega, by omega, by omega⟩) fun hf => ?_
 refine bA (qJ hi (hb (by simpa using hf))) fun v hv => jZ (by omega) (aQ ?_)
 have q := h2 v hv.1
 rw [aW (by omega) (by omega), Int.tmod_eq_emod_of_nonneg q.1]
 have h1 := Int.emod_nonneg v (show n ≠ 0 by omega)
 have h3 := Int.emod_lt_of_pos v (show 0 < n by omega)
 have h4 : v % n ≤ v := by
  have := Int.mul_nonneg (show 0 ≤ n by omega) (Int.ediv_nonneg q.1 (show 0 ≤ n by omega))
  rw [Int.emod_def]; omega
 exact ⟨h1, by omega, by omega⟩
end Go.Proofs.YtgcdbbidmfdonaaGreat
namespace Go.Proofs.YtgcdbbidmfdonaaGreat
set_option linter.unusedVariables false
set_option maxRecDepth 100000
theorem aCs {xs : List Int} (hl : xs.length ≤ 1048576) : hP xs xs = some true := by
 unfold hP
 rw [if_neg (by simp), yD (by omega)]; rfl
theorem aMe {w : bE} (h : yX w) : nH w w = some true := by
 unfold nH
 have h1 := h.1.1
 have h2 := h.2.1
 rw [if_neg (by simp)]
 simp only [Option.bind_some, ne_eq, not_true_eq_false, decide_false, Bool.false_eq_true, if_false]
 rw [sR (X := Unit ⊕ Bool) (xs := w.Arbors) (d := .inl ()) (e := .inr false) (fun _ _ => true) (by omega) fun i hi => ?_]
 ·have : aGw w.Arbors (fun _ _ => true) = true := by rw [tV]; intros; rfl
  rw [this, if_pos rfl, Option.bind_some]
  have := yD (xs := w.Meshes) (by omega)
  simp only [ne_eq] at this
  simp only [orE, this, Option.bind_some]
 ·have hw := (h.1.2 _ (List.getElem_mem hi)).2.1
  simp only [eE hi, Option.bind_some, not_true_eq_false, if_false, aCs hw, Bool.not_true, Bool.false_eq_true, if_true]
theorem aMz {c : aB} (h : tO c) : rA c c = some true := by
 unfold rA
 have h1 := h.2.1.1
 have h2 := h.2.2.1.1
 have e1 := yD (xs := c.Months) (by omega)
 have e2 := yD (xs := c.Rules) (by omega)
 simp only [ne_eq] at e1 e2
 simp only [Option.bind_some, ne_eq, not_true_eq_false, decide_false, Bool.false_eq_true, if_false, e1, orE, e2]
theorem aMi {m : aU} (h : gI m) : iX m m = some true := by
 unfold iX
 simp only [Option.bind_some, ne_eq, not_true_eq_false, decide_false, Bool.false_eq_true, if_false, aMe h.2.1, if_true, aMz h.2.2.2.2.2.2.2.1, aCs h.2.2.2.2.2.2.2.2.1.1]
theorem aMu {s : dM} (h : mI s) : qT s s = some true := by
 unfold qT kS
 simp only [aMi h.1, Option.bind_some, if_true, aCs h.2.2.2.2.1.1, decide_true]
theorem aRw (p0 : List Int) (k0 : osL aSc p0) (p1 : List Int) (k1 : osL aSc p1) : yW p0 p1 = some true := by
 have b0 : ∀ b ∈ p0, 0 ≤ b ∧ b ≤ 255 := k0.2
 have b1 : ∀ b ∈ p1, 0 ≤ b ∧ b ≤ 255 := k1.2
 unfold yW wJ
 by_cases h0 : 3000 < (p0.length : Int)
 ·rw [if_pos h0]; rfl
 ·by_cases h1 : 3000 < (p1.length : Int)
  ·rw [if_neg h0, decide_eq_true h1]; rfl
  ·rw [if_neg h0, decide_eq_false h1]
   simp only [Option.bind_some, Bool.false_eq_true, if_false]
   obtain ⟨s, e, m, d, w, m1, m2, m3, ⟨m4, m5⟩, rfl⟩ := aP7 (c := p0) (by omega) b0
   obtain ⟨x, ex, x0, x1, x2⟩ := aSu b1 (i := 0) (n := 256) (by omega) (by omega)
   obtain ⟨y, ey, y0, y1, y2⟩ := aSu b1 (i := 1) (n := 256) (by omega) (by omega)
   obtain ⟨z, ez, z0, z1, z2⟩ := aSu b1 (i := 2) (n := 3) (by omega) (by omega)
   obtain ⟨⟨s1, s2⟩, _⟩ := aRl m1 m2 m3 m4 m5
   rw [e, ex, ey, ez]
   simp only [Option.bind_some]
   rw [aW (x := 400 * x) (by omega) (by omega), aW (x := 400 * y) (by omega) (by omega), aW (x := 400 * x + 400 * y) (by omega) (by omega), aW (x := 1 + z) (by omega) (by omega)]
   have c0 : (aE3 m d w).Clock = 0 := rfl
   obtain ⟨_, r1⟩ := aLm s1 s2 (k := 400 * x) (by omega) (by omega) (by omega)
   have a1 := aJs s1 (400 * x)
   have a2 := aOl s2 (k := 400 * x) (by omega) (by omega)
   have a3 : (aA5 (aE3 m d w) (400 * x)).Clock = 400 * x := by show (aE3 m d w).Clock + 400 * x = _; omega
   obtain ⟨_, r2⟩ := aLm a1 a2 (k := 400 * y) (by omega) (by omega) (by omega)
   obtain ⟨_, r3⟩ := aLm s1 s2 (k := 400 * x + 400 * y) (by omega) (by omega) (by omega)
   have ad := aQk (s := aE3 m d w) (by omega) (a := 400 * x) (b := 400 * y) (by omega) (by omega)
   have q1 := aJs s1 (400 * x + 400 * y)
   have q2 := aOl s2 (k := 400 * x + 400 * y) (by omega) (by omega)
   have q3 : (aA5 (aE3 m d w) (400 * x + 400 * y)).Clock = 400 * x + 400 * y := by show (aE3 m d w).Clock + _ = _; omega
   have st : (aA5 (aE3 m d w) (400 * x)).Movement.Strike = (aE3 m d w).Movement.Strike := rfl
   rw [r1, r3]
   simp only [Option.bind_some]
   rw [r2]
   simp only [Option.bind_some]
   rw [ad, a3, st, c0]
   generalize (aE3 m d w).Movement.Strike = sk
   have w1 := aFo (st := sk) (a := 0) (b := 0 + 400 * x) (by omega) (by omega) (by omega)
   have w2 := aFo (st := sk) (a := 400 * x) (b := 400 * x + 400 * y) (by omega) (by omega) (by omega)
   have w3 := aFo (st := sk) (a := 0) (b := 400 * x + 400 * y) (by omega) (by omega) (by omega)
   have w4 := aO0 (st := sk) (a := 0) (b := 400 * x) (c := 400 * x + 400 * y)
   have w5 := aJg (st := sk) (a := 400 * x + 400 * y) (by omega) (by omega)
   rw [Int.zero_add] at w1 ⊢
   rw [Int.zero_add, aMu q1, aW (x := _ + _) (by omega) (by omega), w4]
   simp only [ne_eq, not_true_eq_false, if_false, Option.bind_some, Bool.not_true, Bool.false_eq_true, decide_false]
   rw [if_neg (by omega), if_neg (by omega), if_neg (by omega), if_neg (by omega)]
   simp only [Option.bind_some, Bool.false_eq_true, if_false]
   obtain ⟨p, ep, _, kp, ip⟩ := aNs q1 q2 (k := 1 + z) (by omega) (by omega)
   rw [ep]
   have qc := (oO q2).2.2.2.1
   have t1 : mI (atS (aA5 (aE3 m d w) (400 * x + 400 * y)) (aA5 (aE3 m d w) (400 * x + 400 * y)).Clock p) := aLl q1 (by rw [kp.1]; exact q1.2.2.2.2.1.1)
   have t2 := aFp q2 qc.1 qc.2 kp ip
   have t3 : (atS (aA5 (aE3 m d w) (400 * x + 400 * y)) (aA5 (aE3 m d w) (400 * x + 400 * y)).Clock p).Clock = 400 * x + 400 * y := q3
   generalize atS (aA5 (aE3 m d w) (400 * x + 400 * y)) (aA5 (aE3 m d w) (400 * x + 400 * y)).Clock p = u at t1 t2 t3
   unfold rV
   simp only [Option.bind_some, ne_eq, not_true_eq_false, if_false, zV t1, t2, Bool.not_true, Bool.false_eq_true]
   obtain ⟨r, g1, g2, g3⟩ := aT8 t1 t2
   rw [g2, g3]
   cases r with
   | none =>
    unfold aKf
    rw [if_pos t2]
    rfl
   | some dd =>
    obtain ⟨f1, f2, f3⟩ := aLt t1 t2 g1
    simp only [Option.bind_some]
    rw [f2, if_neg (by simp), f1, f3, t3]
    simp
end Go.Proofs.YtgcdbbidmfdonaaGreat
