/- SameDrawing. -/
import Derived.Test.YtplnohfjeilodaaShape
import Derived.Deep.QuietTactic
import Derived.BigQuiet
namespace Go.Proofs.Ytplnohfjeilodaa
open Go.RowKit
set_option linter.unusedVariables false
set_option maxRecDepth 100000
def sameS : List Shp → List Shp → Bool
  | [], [] => true
  | s :: r, t :: q => shpB s t && sameS r q
  | _, _ => false
theorem sameS_cons (s t : Shp) (r q : List Shp) : sameS (s :: r) (t :: q) = (shpB s t && sameS r q) := rfl
theorem sameS_len : ∀ {xs ys : List Shp}, xs.length ≠ ys.length → sameS xs ys = false := by
  intro xs
  induction xs with
  | nil => intro ys h; cases ys with
    | nil => exact absurd rfl h
    | cons t q => rfl
  | cons s r ih => intro ys h; cases ys with
    | nil => rfl
    | cons t q => unfold sameS; rw [ih (by simpa using h), Bool.and_false]
theorem sameS_self : ∀ xs : List Shp, sameS xs xs = true := by
  intro xs
  induction xs with
  | nil => rfl
  | cons s r ih => unfold sameS; rw [ih, shpB_self]; rfl
attribute [local go_sem ↓ high] run_neq_shp
set_option maxHeartbeats 1000000 in
theorem sSameDrawing_c (A B : Option Addr) (n m c d : Nat) (xs ys : List Shp) (w : World) (hx : Row w A (shpsV xs)) (hy : Row w B (shpsV ys)) (hn : xs.length = n) (hm : ys.length = m) (h1 : n ≤ 1048576000) (h2 : m ≤ 1048576000) :
    Calls Try.prog 15 #[drwV A n c, drwV B m d] w fun e w' => e = .returned (.bool (sameS xs ys)) ∧ Below w.heap.size w w' := by
  have HX := Lib.hid hx
  have HY := Lib.hid hy
  have HN := Lib.hid hn
  have HM := Lib.hid hm
  clear hx hy hn hm
  by_cases hnm : n = m
  · subst hnm
    go_enter Try.func15, Try.ntmps15
    go_wp2
    have hst : Below w.heap.size w ((w.alloc (.cells #[.slice A n c] 29)).alloc (.cells #[.slice B n d] 29)) := by (repeat (first | exact Below.refl _ _ | assumption | refine Below.drew ?_ | refine below_drewN ?_ _ | refine Below.setCell ?_ (by first | omega | (simp; done) | (simp; omega)) _ | refine Below.alloc ?_ (by first | omega | (simp; done) | (simp; omega)) _))
    have HST := Lib.hid hst
    clear hst
    obtain ⟨W0, hW0⟩ : ∃ W0, W0 = ((w.alloc (.cells #[.slice A n c] 29)).alloc (.cells #[.slice B n d] 29)) := ⟨_, rfl⟩
    have e0 : W0.cell? ⟨w.heap.size, 0, none⟩ = some (.slice A n c) := by rw [hW0]; go_simp
    have e1 : W0.cell? ⟨w.heap.size + 1, 0, none⟩ = some (.slice B n d) := by rw [hW0]; go_simp
    rw [← hW0] at HST ⊢
    clear hW0
    go_loopw [5] (fun i wr => ∃ (k q : Nat), k ≤ n ∧ i = .int .i64 k ∧ sameS xs ys = sameS (xs.drop k) (ys.drop k) ∧ wr = W0.drewN q) (fun i _ => n - (intOf i).toNat)
    case atStart => exact ⟨0, 0, by omega, rfl, rfl, rfl⟩
    case round =>
      obtain ⟨k, q, hk, rfl, he, rfl⟩ := hrel
      have HE := Lib.hid he
      clear he
      by_cases hlt : k < n
      · have hk2 : k < xs.length := by rw [HN.out]; exact hlt
        have hk3 : k < ys.length := by rw [HM.out]; exact hlt
        have hdx := List.drop_eq_getElem_cons hk2
        have hdy := List.drop_eq_getElem_cons hk3
        have HDX := Lib.hid hdx
        have HDY := Lib.hid hdy
        clear hdx hdy
        obtain ⟨b, off, rfl, hbl, hc⟩ := (HX.out.below HST.out).shp k hk2
        obtain ⟨b', off', rfl, hbl', hc'⟩ := (HY.out.below HST.out).shp k hk3
        generalize xs[k] = s at *
        generalize ys[k] = s' at *
        obtain ⟨K, AX, AY, BX, BY, R, N⟩ := s
        obtain ⟨K', AX', AY', BX', BY', R', N'⟩ := s'
        have HE2 := HE.out
        rw [HDX.out, HDY.out, sameS_cons] at HE2
        have HF := Lib.hid HE2
        clear HE2 HE
        have g0 := hc 0 (by omega)
        have g1 := hc 1 (by omega)
        have g2 := hc 2 (by omega)
        have g3 := hc 3 (by omega)
        have g4 := hc 4 (by omega)
        have g5 := hc 5 (by omega)
        have g6 := hc 6 (by omega)
        have f0 := hc' 0 (by omega)
        have f1 := hc' 1 (by omega)
        have f2 := hc' 2 (by omega)
        have f3 := hc' 3 (by omega)
        have f4 := hc' 4 (by omega)
        have f5 := hc' 5 (by omega)
        have f6 := hc' 6 (by omega)
        simp at g0 g1 g2 g3 g4 g5 g6 f0 f1 f2 f3 f4 f5 f6
        clear hc hc'
        have i0 : (0 : Int) ≤ (k : Int) := by omega
        have i1 : (k : Int) < (n : Int) := by omega
        cases hb : shpB ⟨K, AX, AY, BX, BY, R, N⟩ ⟨K', AX', AY', BX', BY', R', N'⟩
        · rw [hb, Bool.false_and] at HF
          go_wp2
          go_quiet (fail)
          go_wp2
          go_ret
          exact ⟨ret_bool HF.out.symm, below_drewN (below_drewN HST.out _) _⟩
        · rw [hb, Bool.true_and] at HF
          go_wp2
          go_quiet (fail)
          go_wp2
          go_roundw
          case rel => exact ⟨k + 1, _, by omega, by go_num, HF.out, rfl⟩
          case measure => simp [intOf]; omega
      · have hf : sameS (xs.drop k) (ys.drop k) = true := by
          rw [List.drop_of_length_le (by rw [HN.out]; omega), List.drop_of_length_le (by rw [HM.out]; omega)]; rfl
        have HF := Lib.hid (HE.out.trans hf)
        clear hf
        go_wp2
        go_ret
        exact ⟨ret_bool HF.out.symm, below_drewN HST.out _⟩
  · have hf : sameS xs ys = false := sameS_len (by rw [HN.out, HM.out]; exact hnm)
    have HF := Lib.hid hf
    have hb : ((n : Int) == (m : Int)) = false := by rw [beq_eq_false_iff_ne]; omega
    clear hf hnm
    go_enter Try.func15, Try.ntmps15
    go_wp2
    go_ret
    refine ⟨ret_bool HF.out.symm, ?_⟩
    (repeat (first | exact Below.refl _ _ | assumption | refine Below.drew ?_ | refine below_drewN ?_ _ | refine Below.setCell ?_ (by first | omega | (simp; done) | (simp; omega)) _ | refine Below.alloc ?_ (by first | omega | (simp; done) | (simp; omega)) _))
attribute [local go_sem ↓ high] run_neq_shp
set_option maxHeartbeats 1000000 in
theorem equalShapes_c (A B : Option Addr) (n m c d : Nat) (xs ys : List Shp) (w : World) (hx : Row w A (shpsV xs)) (hy : Row w B (shpsV ys)) (hn : xs.length = n) (hm : ys.length = m) (h1 : n ≤ 1048576000) (h2 : m ≤ 1048576000) :
    Calls Try.prog 51 #[.slice A n c, .slice B m d] w fun e w' => e = .returned (.bool (sameS xs ys)) ∧ Below w.heap.size w w' := by
  have HX := Lib.hid hx
  have HY := Lib.hid hy
  have HN := Lib.hid hn
  have HM := Lib.hid hm
  clear hx hy hn hm
  by_cases hnm : n = m
  · subst hnm
    go_enter Try.func51, Try.ntmps51
    go_wp2
    have HST : Hid (Below w.heap.size w w) := Below.refl _ _
    obtain ⟨W0, hW0⟩ : ∃ W0, W0 = w := ⟨_, rfl⟩
    rw [← hW0]
    have hst : Below w.heap.size w W0 := by rw [hW0]; exact Below.refl _ _
    clear HST
    have HST := Lib.hid hst
    clear hst hW0
    go_loopw [13] (fun i wr => ∃ (k q : Nat), k ≤ n ∧ i = .int .i64 k ∧ sameS xs ys = sameS (xs.drop k) (ys.drop k) ∧ wr = W0.drewN q) (fun i _ => n - (intOf i).toNat)
    case atStart => exact ⟨0, 0, by omega, rfl, rfl, rfl⟩
    case round =>
      obtain ⟨k, q, hk, rfl, he, rfl⟩ := hrel
      have HE := Lib.hid he
      clear he
      by_cases hlt : k < n
      · have hk2 : k < xs.length := by rw [HN.out]; exact hlt
        have hk3 : k < ys.length := by rw [HM.out]; exact hlt
        have hdx := List.drop_eq_getElem_cons hk2
        have hdy := List.drop_eq_getElem_cons hk3
        have HDX := Lib.hid hdx
        have HDY := Lib.hid hdy
        clear hdx hdy
        obtain ⟨b, off, rfl, hbl, hc⟩ := (HX.out.below HST.out).shp k hk2
        obtain ⟨b', off', rfl, hbl', hc'⟩ := (HY.out.below HST.out).shp k hk3
        generalize xs[k] = s at *
        generalize ys[k] = s' at *
        obtain ⟨K, AX, AY, BX, BY, R, N⟩ := s
        obtain ⟨K', AX', AY', BX', BY', R', N'⟩ := s'
        have HE2 := HE.out
        rw [HDX.out, HDY.out, sameS_cons] at HE2
        have HF := Lib.hid HE2
        clear HE2 HE
        have g0 := hc 0 (by omega)
        have g1 := hc 1 (by omega)
        have g2 := hc 2 (by omega)
        have g3 := hc 3 (by omega)
        have g4 := hc 4 (by omega)
        have g5 := hc 5 (by omega)
        have g6 := hc 6 (by omega)
        have f0 := hc' 0 (by omega)
        have f1 := hc' 1 (by omega)
        have f2 := hc' 2 (by omega)
        have f3 := hc' 3 (by omega)
        have f4 := hc' 4 (by omega)
        have f5 := hc' 5 (by omega)
        have f6 := hc' 6 (by omega)
        simp at g0 g1 g2 g3 g4 g5 g6 f0 f1 f2 f3 f4 f5 f6
        clear hc hc'
        have i0 : (0 : Int) ≤ (k : Int) := by omega
        have i1 : (k : Int) < (n : Int) := by omega
        cases hb : shpB ⟨K, AX, AY, BX, BY, R, N⟩ ⟨K', AX', AY', BX', BY', R', N'⟩
        · rw [hb, Bool.false_and] at HF
          go_wp2
          go_quiet (fail)
          go_wp2
          go_ret
          exact ⟨ret_bool HF.out.symm, below_drewN (below_drewN HST.out _) _⟩
        · rw [hb, Bool.true_and] at HF
          go_wp2
          go_quiet (fail)
          go_wp2
          go_roundw
          case rel => exact ⟨k + 1, _, by omega, by go_num, HF.out, rfl⟩
          case measure => simp [intOf]; omega
      · have hf : sameS (xs.drop k) (ys.drop k) = true := by
          rw [List.drop_of_length_le (by rw [HN.out]; omega), List.drop_of_length_le (by rw [HM.out]; omega)]; rfl
        have HF := Lib.hid (HE.out.trans hf)
        clear hf
        go_wp2
        go_ret
        exact ⟨ret_bool HF.out.symm, below_drewN HST.out _⟩
  · have hf : sameS xs ys = false := sameS_len (by rw [HN.out, HM.out]; exact hnm)
    have HF := Lib.hid hf
    have hb : ((n : Int) == (m : Int)) = false := by rw [beq_eq_false_iff_ne]; omega
    clear hf hnm
    go_enter Try.func51, Try.ntmps51
    go_wp2
    go_ret
    refine ⟨ret_bool HF.out.symm, ?_⟩
    (repeat (first | exact Below.refl _ _ | assumption | refine Below.drew ?_ | refine below_drewN ?_ _ | refine Below.setCell ?_ (by first | omega | (simp; done) | (simp; omega)) _ | refine Below.alloc ?_ (by first | omega | (simp; done) | (simp; omega)) _))
set_option maxHeartbeats 400000 in
theorem SameDrawing_c (A B : Option Addr) (n m c d : Nat) (xs ys : List Shp) (w : World) (hx : Row w A (shpsV xs)) (hy : Row w B (shpsV ys)) (hn : xs.length = n) (hm : ys.length = m) (h1 : n ≤ 1048576000) (h2 : m ≤ 1048576000) :
    Calls Try.prog 17 #[drwV A n c, drwV B m d] w fun e w' => e = .returned (.bool (sameS xs ys)) ∧ Below w.heap.size w w' := by
  have hst : Below w.heap.size w ((w.alloc (.cells #[.slice A n c] 29)).alloc (.cells #[.slice B m d] 29)) := by (repeat (first | exact Below.refl _ _ | assumption | refine Below.drew ?_ | refine below_drewN ?_ _ | refine Below.setCell ?_ (by first | omega | (simp; done) | (simp; omega)) _ | refine Below.alloc ?_ (by first | omega | (simp; done) | (simp; omega)) _))
  have HC := Lib.hid (equalShapes_c A B n m c d xs ys _ (hx.below hst) (hy.below hst) hn hm h1 h2)
  have HST := Lib.hid hst
  clear hx hy hn hm hst
  go_enter Try.func17, Try.ntmps17
  go_wp2_with fail
  refine HC.out.mono ?_
  rintro e w1 ⟨rfl, hb⟩
  have HB := Lib.hid hb
  clear hb
  go_wp2
  go_ret
  exact ⟨rfl, HST.out.trans (HB.out.mono (by simp; omega))⟩
end Go.Proofs.Ytplnohfjeilodaa
