/- Marks of shapes. -/
import Derived.Test.YtplnohfjeilodaaShape
import Derived.Test.YtplnohfjeilodaaMark
import Derived.Test.YtplnohfjeilodaaOwn
import Derived.Deep.RegionHeld3
namespace Go.Proofs.Ytplnohfjeilodaa
open Go.RowKit
set_option linter.unusedVariables false
set_option maxRecDepth 100000
def mkShp (k j : Nat) : Shp := ⟨(k : Int) + 7 * j, (k : Int) + 7 * j + 1, (k : Int) + 7 * j + 2, (k : Int) + 7 * j + 3, (k : Int) + 7 * j + 4, (k : Int) + 7 * j + 5, mkText (k + 7 * j + 6)⟩
def markedS (k n : Nat) : List Shp := (List.range n).map (mkShp k)
theorem markedS_len (k n : Nat) : (markedS k n).length = n := by simp [markedS]
theorem markedS_get (k n j : Nat) (h : j < (markedS k n).length) : (markedS k n)[j] = mkShp k j := by simp [markedS]
theorem markedS_snoc (k n : Nat) : markedS k (n + 1) = markedS k n ++ [mkShp k n] := by simp [markedS, List.range_succ]
theorem intv {a b : Int} (h : a = b) : Value.int .i64 a = .int .i64 b := by rw [h]
/-- cell j of the marks that stand, the rest as it was -/
theorem marks_put (k j : Nat) (xs : List Value) (h : j * 7 + 7 ≤ xs.length) :
    (shpsV (markedS k j) ++ xs.drop (j * 7)).take (j * 7) ++ (mkShp k j).arr.toList ++ (shpsV (markedS k j) ++ xs.drop (j * 7)).drop (j * 7 + 7) = shpsV (markedS k (j + 1)) ++ xs.drop ((j + 1) * 7) := by
  have hl : (shpsV (markedS k j)).length = j * 7 := by rw [shpsV_len, markedS_len]
  rw [List.take_left' hl, markedS_snoc, shpsV_snoc, List.append_assoc, List.append_assoc]
  congr 2
  rw [List.drop_append, hl]
  have e1 : (shpsV (markedS k j)).drop (j * 7 + 7) = [] := List.drop_of_length_le (by omega)
  rw [e1, List.nil_append, List.drop_drop]
  congr 1
  omega
set_option maxHeartbeats 2000000 in
theorem markShapeS_c (A : Option Addr) (n c k base : Nat) (kk : Int) (ek : kk = k) (xs : List Value) (w : World) (h : w.ownsRow base 80 7 (.slice A n c) n xs) (h0 : 0 < k) (h1 : k + 7 * n ≤ 1000000000) :
    Calls Try.prog 59 #[.slice A n c, .int .i64 kk] w fun e w' => e = .returned (.int .i64 ((k : Int) + 7 * n)) ∧ w'.ownsRow base 80 7 (.slice A n c) n (shpsV (markedS k n)) ∧ w.grownBy w' (Value.slice A n c).ownBlock := by
  subst ek
  have hl : xs.length = n * 7 := h.1
  have H := Lib.hid h
  have HL := Lib.hid hl
  clear h hl
  go_enter Try.func59, Try.ntmps59
  go_wp2
  go_loopw [1, 5] (fun s i wr => ∃ j : Nat, j ≤ n ∧ i = .int .i64 j ∧ s = .int .i64 ((k : Int) + 7 * j) ∧ wr.ownsRow base 80 7 (.slice A n c) n (shpsV (markedS k j) ++ xs.drop (j * 7)) ∧ w.grownBy wr (Value.slice A n c).ownBlock) (fun _ i _ => n - (intOf i).toNat)
  case atStart => exact ⟨0, by omega, rfl, by simp, by simpa [markedS] using H.out, World.grownBy.refl _ _⟩
  case round =>
    obtain ⟨j, hj, rfl, rfl, hr, hg⟩ := hrel
    by_cases hlt : j < n
    · obtain ⟨g, cap, hv, hgb, hgl⟩ := hr.form (by omega)
      injection hv with hA _ hc
      subst hA hc
      have HR := Lib.hid hr
      have HG := Lib.hid hg
      have hfz := hr.frozenAt
      have hll : (shpsV (markedS k j) ++ xs.drop (j * 7)).length = n * 7 := hr.1
      have hq : ∀ i, i < 7 → ∃ u, wr.cell? ⟨g, j * 7 + i, none⟩ = some u := fun i hi => ⟨_, (hr.cellAt (j * 7 + i) (by omega)).trans (List.getElem?_eq_getElem (by omega))⟩
      obtain ⟨u0, q0⟩ := hq 0 (by omega)
      obtain ⟨u1, q1⟩ := hq 1 (by omega)
      obtain ⟨u2, q2⟩ := hq 2 (by omega)
      obtain ⟨u3, q3⟩ := hq 3 (by omega)
      obtain ⟨u4, q4⟩ := hq 4 (by omega)
      obtain ⟨u5, q5⟩ := hq 5 (by omega)
      obtain ⟨u6, q6⟩ := hq 6 (by omega)
      rw [Nat.add_zero] at q0
      have HLL := Lib.hid hll
      clear hr hg hq hll
      go_wp2_with fail
      refine (markText_c (k + 7 * j + 6) _ (by omega) (by omega)).mono ?_
      rintro e w1 ⟨rfl, hb1⟩
      have p6 := kc hb1 (v := u6) (a := ⟨g, j * 7 + 6, none⟩) (by go_simp)
      have f6 := kf hb1 (v := u6) (a := ⟨g, j * 7 + 6, none⟩) (b := false) (by go_simp) (by go_simp)
      have hlt6 : g < w1.heap.size := cell_lt p6
      have HB1 := Lib.hid hb1
      clear hb1
      go_wp2
      go_roundw
      case rel =>
        have a1 := own_put [.int .i64 ((k : Int) + 7 * j), .int .i64 ((k : Int) + 7 * j + 1), .int .i64 ((k : Int) + 7 * j + 2), .int .i64 ((k : Int) + 7 * j + 3), .int .i64 ((k : Int) + 7 * j + 4), .int .i64 ((k : Int) + 7 * j + 5)] (j * 7) HR.out (by rw [HLL.out]; simp; omega)
        have a2 := own_below a1.1 HB1.out
        have a3 := own_put [.string (mkText (k + 7 * j + 6))] (j * 7 + 6) a2 (by rw [a2.1]; simp; omega)
        refine ⟨j + 1, by omega, by go_num, intv (by omega), ?_, (HG.out.trans a1.2).trans (World.grownBy.trans ?_ a3.2)⟩
        · have e := put_more (shpsV (markedS k j) ++ xs.drop (j * 7)) [.int .i64 ((k : Int) + 7 * j), .int .i64 ((k : Int) + 7 * j + 1), .int .i64 ((k : Int) + 7 * j + 2), .int .i64 ((k : Int) + 7 * j + 3), .int .i64 ((k : Int) + 7 * j + 4), .int .i64 ((k : Int) + 7 * j + 5)] (j * 7) (.string (mkText (k + 7 * j + 6))) (by rw [HLL.out]; simp; omega)
          exact Eq.mp (congrArg (fun L => World.ownsRow _ base 80 7 _ n L) (e.trans (marks_put k j xs (by rw [HL.out]; omega)))) a3.1
        · exact ⟨HB1.out.os, HB1.out.tape, HB1.out.output, HB1.out.size, fun i hi _ => HB1.out.block i hi⟩
      case measure => simp [intOf]; omega
    · have hjn : j = n := by omega
      subst hjn
      rw [List.drop_of_length_le (by rw [HL.out]; exact Nat.le_refl _), List.append_nil] at hr
      have HR := Lib.hid hr
      have HG := Lib.hid hg
      clear hr hg
      go_wp2
      go_ret
      exact ⟨rfl, HR.out, HG.out⟩
set_option maxHeartbeats 2000000 in
theorem heldShapeS_c (A : Option Addr) (n c k : Nat) (kk : Int) (ek : kk = k) (w : World) (h : Row w A (shpsV (markedS k n))) (hn : n ≤ 1000000000) (h0 : 0 < k) (h1 : k + 7 * n ≤ 1000000000) :
    Calls Try.prog 60 #[.slice A n c, .int .i64 kk] w fun e w' => e = .returned (.int .i64 ((k : Int) + 7 * n)) ∧ Below w.heap.size w w' := by
  subst ek
  have H := Lib.hid h
  clear h
  go_enter Try.func60, Try.ntmps60
  go_wp2
  go_loopw [1, 5] (fun s i wr => ∃ j : Nat, j ≤ n ∧ i = .int .i64 j ∧ s = .int .i64 ((k : Int) + 7 * j) ∧ Below w.heap.size w wr) (fun _ i _ => n - (intOf i).toNat)
  case atStart => exact ⟨0, by omega, rfl, by simp, Below.refl _ _⟩
  case round =>
    obtain ⟨j, hj, rfl, rfl, hb⟩ := hrel
    have HB := Lib.hid hb
    by_cases hlt : j < n
    · obtain ⟨b, off, rfl, hbl, hc⟩ := (H.out.below hb).shp j (by rw [markedS_len]; exact hlt)
      rw [markedS_get] at hc
      have g0 := hc 0 (by omega)
      have g1 := hc 1 (by omega)
      have g2 := hc 2 (by omega)
      have g3 := hc 3 (by omega)
      have g4 := hc 4 (by omega)
      have g5 := hc 5 (by omega)
      have g6 := hc 6 (by omega)
      simp [mkShp] at g0 g1 g2 g3 g4 g5 g6
      clear hc hb
      have i0 : (0 : Int) ≤ (j : Int) := by omega
      have i1 : (j : Int) < (n : Int) := by omega
      go_wp2
      go_region_held3 (fun w' => w'.cell? ⟨b, off + j * 7 + 6, none⟩ = some (.string (mkText (k + 7 * j + 6)))) (go_keep) (first | (go_at_call 100; refine (markText_c (k + 7 * j + 6) _ (by omega) (by omega)).mono ?_; rintro e w1 ⟨rfl, hb1⟩; have hc1 := kc hb1 g6))
      clear hc1
      have HB2 := Lib.hid hb1
      clear hb1
      go_wp2
      go_roundw
      case rel => exact ⟨j + 1, by omega, by go_num, intv (by omega), bthen HB.out.drew HB2.out⟩
      case measure => simp [intOf]; omega
    · have hjn : j = n := by omega
      subst hjn
      clear hb
      go_wp2
      go_ret
      exact ⟨rfl, HB.out⟩
set_option maxHeartbeats 400000 in
theorem markDrawing_c (A : Option Addr) (n c k base : Nat) (kk : Int) (ek : kk = k) (xs : List Value) (w : World) (h : w.ownsRow base 80 7 (.slice A n c) n xs) (h0 : 0 < k) (h1 : k + 7 * n ≤ 1000000000) :
    Calls Try.prog 21 #[drwV A n c, .int .i64 kk] w fun e w' => e = .returned (.int .i64 ((k : Int) + 7 * n)) ∧ w'.ownsRow base 80 7 (.slice A n c) n (shpsV (markedS k n)) ∧ w.grownBy w' (Value.slice A n c).ownBlock := by
  have C := Lib.hid (markShapeS_c A n c k base kk ek xs _ (h.alloc (.cells #[.slice A n c] 29)) h0 h1)
  clear h ek
  go_enter Try.func21, Try.ntmps21
  go_wp2_with fail
  refine C.out.mono ?_
  rintro e w1 ⟨rfl, ho, hg⟩
  have HO := Lib.hid ho
  have HG := Lib.hid hg
  clear ho hg
  go_wp2
  go_ret
  exact ⟨rfl, HO.out, (World.grownBy_alloc w _ _).trans HG.out⟩
set_option maxHeartbeats 400000 in
theorem heldDrawing_c (A : Option Addr) (n c k : Nat) (kk : Int) (ek : kk = k) (w : World) (h : Row w A (shpsV (markedS k n))) (hn : n ≤ 1000000000) (h0 : 0 < k) (h1 : k + 7 * n ≤ 1000000000) :
    Calls Try.prog 22 #[drwV A n c, .int .i64 kk] w fun e w' => e = .returned (.int .i64 ((k : Int) + 7 * n)) ∧ Below w.heap.size w w' := by
  have hst : Below w.heap.size w (w.alloc (.cells #[.slice A n c] 29)) := by (repeat (first | exact Below.refl _ _ | assumption | refine Below.drew ?_ | refine below_drewN ?_ _ | refine Below.setCell ?_ (by first | omega | (simp; done) | (simp; omega)) _ | refine Below.alloc ?_ (by first | omega | (simp; done) | (simp; omega)) _))
  have C := Lib.hid (heldShapeS_c A n c k kk ek _ (h.below hst) hn h0 h1)
  have HST := Lib.hid hst
  clear h ek hst
  go_enter Try.func22, Try.ntmps22
  go_wp2_with fail
  refine C.out.mono ?_
  rintro e w1 ⟨rfl, hb⟩
  have HB := Lib.hid (bthen HST.out hb)
  clear hb
  go_wp2
  go_ret
  exact ⟨rfl, HB.out⟩
end Go.Proofs.Ytplnohfjeilodaa
