/- Valid drawings. -/
import Derived.Test.YtplnohfjeilodaaValidS
namespace Go.Proofs.Ytplnohfjeilodaa
open Go.RowKit
set_option linter.unusedVariables false
set_option maxRecDepth 100000
def drwB (xs : List Shp) : Bool := decide (xs.length ≤ 1200) && xs.all shB
theorem drop_all {xs : List Shp} {k : Nat} (hk : k < xs.length) (h : xs.all shB = (xs.drop k).all shB) : xs.all shB = (shB xs[k] && (xs.drop (k + 1)).all shB) := by
  rw [h, List.drop_eq_getElem_cons hk, List.all_cons]
/-- the seven cells of shape k -/
theorem Row.shp7 {w : World} {A : Option Addr} {xs : List Shp} (h : Row w A (shpsV xs)) (k : Nat) (hk : k < xs.length) {K AX AY BX BY R : Int} {N : ByteArray} (hs : xs[k] = ⟨K, AX, AY, BX, BY, R, N⟩) :
    ∃ b off, A = some ⟨b, off, none⟩ ∧ w.cell? ⟨b, off + k * 7, none⟩ = some (.int .i64 K) ∧ w.cell? ⟨b, off + k * 7 + 1, none⟩ = some (.int .i64 AX) ∧ w.cell? ⟨b, off + k * 7 + 2, none⟩ = some (.int .i64 AY) ∧
      w.cell? ⟨b, off + k * 7 + 3, none⟩ = some (.int .i64 BX) ∧ w.cell? ⟨b, off + k * 7 + 4, none⟩ = some (.int .i64 BY) ∧ w.cell? ⟨b, off + k * 7 + 5, none⟩ = some (.int .i64 R) ∧ w.cell? ⟨b, off + k * 7 + 6, none⟩ = some (.string N) := by
  obtain ⟨b, off, hA, hb, hc⟩ := h.shp k hk
  rw [hs] at hc
  exact ⟨b, off, hA, hc 0 (by omega), hc 1 (by omega), hc 2 (by omega), hc 3 (by omega), hc 4 (by omega), hc 5 (by omega), hc 6 (by omega)⟩
set_option maxHeartbeats 1000000 in
theorem l25Ok_c (A : Option Addr) (n c : Nat) (xs : List Shp) (w : World) (h : Row w A (shpsV xs)) (hn : xs.length = n) (hN : ∀ s ∈ xs, s.N.size ≤ 9223372036854775807) (h1 : n ≤ 9223372036854775807) :
    Calls Try.prog 61 #[drwV A n c] w fun e w' => e = .returned (.bool (drwB xs)) ∧ Below w.heap.size w w' := by
  have H := Lib.hid h
  have HL := Lib.hid hn
  have HN := Lib.hid hN
  clear h hn hN
  go_enter Try.func61, Try.ntmps61
  go_wp2
  have hst : Below w.heap.size w (w.alloc (.cells #[.slice A n c] 29)) := by (repeat (first | exact Below.refl _ _ | assumption | refine Below.drew ?_ | refine below_drewN ?_ _ | refine Below.setCell ?_ (by first | omega | (simp; done) | (simp; omega)) _ | refine Below.alloc ?_ (by first | omega | (simp; done) | (simp; omega)) _))
  have HST := Lib.hid hst
  have hc0 : (w.alloc (.cells #[.slice A n c] 29)).cell? ⟨w.heap.size, 0, none⟩ = some (.slice A n c) := (Blk.new w 29 #[.slice A n c]).cell 0
  have HC0 := Lib.hid hc0
  clear hst hc0
  generalize w.alloc (.cells #[.slice A n c] 29) = W0 at *
  go_loopw [3] (fun i wr => ∃ k : Nat, k ≤ n ∧ i = .int .i64 k ∧ xs.all shB = (xs.drop k).all shB ∧ Below W0.heap.size W0 wr) (fun i _ => n - (intOf i).toNat)
  case atStart => exact ⟨0, by omega, rfl, rfl, Below.refl _ _⟩
  case round =>
    obtain ⟨k, hk, rfl, he, hb⟩ := hrel
    have q0 := kc hb HC0.out
    have HB := Lib.hid hb
    have HE := Lib.hid he
    clear he hb
    by_cases hlt : k < n
    · have hk2 : k < xs.length := by rw [HL.out]; exact hlt
      have HD := Lib.hid (drop_all hk2 HE.out)
      have HZ := Lib.hid (HN.out _ (List.getElem_mem hk2))
      cases hs : xs[k] with
      | mk K AX AY BX BY R N =>
      rw [hs] at HD HZ
      obtain ⟨b, off, rfl, g0, g1, g2, g3, g4, g5, g6⟩ := ((H.out.below HST.out).below HB.out).shp7 k hk2 hs
      clear hs HE
      cases hv : shB ⟨K, AX, AY, BX, BY, R, N⟩
      · rw [hv, Bool.false_and] at HD
        have hf : drwB xs = false := by unfold drwB; rw [HD.out, Bool.and_false]
        have C := Lib.hid (l25Shape_c ⟨K, AX, AY, BX, BY, R, N⟩ wr HZ.out)
        have HF := Lib.hid hf
        clear hf
        rw [hv] at C
        go_wp2_with fail
        refine C.out.mono ?_
        rintro e w1 ⟨rfl, hb1⟩
        have HB1 := Lib.hid hb1
        clear hb1
        go_wp2
        go_ret
        exact ⟨ret_bool HF.out.symm, bthen (HST.out.trans (HB.out.mono HST.out.size)) HB1.out⟩
      · rw [hv, Bool.true_and] at HD
        have C := Lib.hid (l25Shape_c ⟨K, AX, AY, BX, BY, R, N⟩ wr HZ.out)
        rw [hv] at C
        go_wp2_with fail
        refine C.out.mono ?_
        rintro e w1 ⟨rfl, hb1⟩
        have HB1 := Lib.hid hb1
        clear hb1
        go_wp2
        go_roundw
        case rel => exact ⟨k + 1, by omega, by go_num, HD.out, bthen HB.out HB1.out⟩
        case measure => simp [intOf]; omega
    · have hall : xs.all shB = true := by rw [HE.out, List.drop_of_length_le (by rw [HL.out]; omega)]; rfl
      have hf : drwB xs = decide ((n : Int) ≤ 1200) := by unfold drwB; rw [hall, HL.out, Bool.and_true]; congr 1; simp; omega
      have HF := Lib.hid hf
      clear hf hall HE
      go_wp2
      go_ret
      exact ⟨ret_bool (by rw [HF.out]), HST.out.trans (HB.out.mono HST.out.size)⟩
set_option maxHeartbeats 400000 in
theorem sValidDrawing_c (A : Option Addr) (n c : Nat) (xs : List Shp) (w : World) (h : Row w A (shpsV xs)) (hn : xs.length = n) (hN : ∀ s ∈ xs, s.N.size ≤ 9223372036854775807) (h1 : n ≤ 9223372036854775807) :
    Calls Try.prog 23 #[drwV A n c] w fun e w' => e = .returned (.bool (drwB xs)) ∧ Below w.heap.size w w' := by
  have C := Lib.hid (fun W (hb : Below w.heap.size w W) => l25Ok_c A n c xs W (h.below hb) hn hN h1)
  clear h hn hN
  go_enter Try.func23, Try.ntmps23
  go_wp2_with fail
  refine (C.out _ (by (repeat (first | exact Below.refl _ _ | assumption | refine Below.drew ?_ | refine below_drewN ?_ _ | refine Below.setCell ?_ (by first | omega | (simp; done) | (simp; omega)) _ | refine Below.alloc ?_ (by first | omega | (simp; done) | (simp; omega)) _)))).mono ?_
  rintro e w1 ⟨rfl, hb⟩
  have HB := Lib.hid (bthen ((Below.refl _ w).alloc (Nat.le_refl _) _) hb)
  clear hb
  go_wp2
  go_ret
  exact ⟨rfl, HB.out⟩
set_option maxHeartbeats 400000 in
theorem notValid_c (s : Shp) (w : World) (hz : s.N.size ≤ 9223372036854775807) :
    Calls Try.prog 63 #[s.val] w fun e w' => e = .returned (.bool (!shB s)) ∧ Below w.heap.size w w' := by
  have C := Lib.hid (fun W => validShape_c s W hz)
  obtain ⟨K, AX, AY, BX, BY, R, N⟩ := s
  go_enter Try.func63, Try.ntmps63
  go_wp2_with fail
  refine (C.out _).mono ?_
  rintro e w1 ⟨rfl, hb⟩
  have HB := Lib.hid (bthen ((Below.refl _ _).alloc (Nat.le_refl _) _) hb)
  clear hb
  go_wp2
  go_ret
  exact ⟨rfl, HB.out⟩
def IdxB (xs : List Shp) (w : World) (e : Ending) (w' : World) : Prop := ∃ r : Int, e = .returned (.int .i64 r) ∧ (xs.all shB = true → r = -1) ∧ (xs.all shB = false → 0 ≤ r) ∧ -1 ≤ r ∧ r ≤ 9223372036854775807 ∧ Below w.heap.size w w'
set_option maxHeartbeats 1000000 in
theorem indexShapes_c (A : Option Addr) (n c : Nat) (xs : List Shp) (w : World) (h : Row w A (shpsV xs)) (hn : xs.length = n) (hN : ∀ s ∈ xs, s.N.size ≤ 9223372036854775807) (h1 : n ≤ 9223372036854775807) :
    Calls Try.prog 102 #[.slice A n c, .func (.func 63) #[] #[]] w (IdxB xs w) := by
  have H := Lib.hid h
  have HL := Lib.hid hn
  have HN := Lib.hid hN
  clear h hn hN
  go_enter Try.func102, Try.ntmps102
  go_wp2
  go_loopw [8] (fun i wr => ∃ k : Nat, k ≤ n ∧ i = .int .i64 k ∧ xs.all shB = (xs.drop k).all shB ∧ Below w.heap.size w wr) (fun i _ => n - (intOf i).toNat)
  case atStart => exact ⟨0, by omega, rfl, rfl, Below.refl _ _⟩
  case round =>
    obtain ⟨k, hk, rfl, he, hb⟩ := hrel
    have HB := Lib.hid hb
    have HE := Lib.hid he
    clear he hb
    by_cases hlt : k < n
    · have hk2 : k < xs.length := by rw [HL.out]; exact hlt
      have HD := Lib.hid (drop_all hk2 HE.out)
      have HZ := Lib.hid (HN.out _ (List.getElem_mem hk2))
      cases hs : xs[k] with
      | mk K AX AY BX BY R N =>
      rw [hs] at HD HZ
      obtain ⟨b, off, rfl, g0, g1, g2, g3, g4, g5, g6⟩ := (H.out.below HB.out).shp7 k hk2 hs
      clear hs HE
      have C := Lib.hid (notValid_c ⟨K, AX, AY, BX, BY, R, N⟩ wr HZ.out)
      cases hv : shB ⟨K, AX, AY, BX, BY, R, N⟩
      · rw [hv, Bool.false_and] at HD
        rw [hv] at C
        go_wp2_with fail
        refine C.out.mono ?_
        rintro e w1 ⟨rfl, hb1⟩
        have HB1 := Lib.hid hb1
        clear hb1
        go_wp2
        go_ret
        exact ⟨k, rfl, (fun h => by rw [HD.out] at h; cases h), (fun _ => by omega), by omega, by omega, bthen HB.out HB1.out⟩
      · rw [hv, Bool.true_and] at HD
        rw [hv] at C
        go_wp2_with fail
        refine C.out.mono ?_
        rintro e w1 ⟨rfl, hb1⟩
        have HB1 := Lib.hid hb1
        clear hb1
        go_wp2
        go_roundw
        case rel => exact ⟨k + 1, by omega, by go_num, HD.out, bthen HB.out HB1.out⟩
        case measure => simp [intOf]; omega
    · have hall : xs.all shB = true := by rw [HE.out, List.drop_of_length_le (by rw [HL.out]; omega)]; rfl
      have HF := Lib.hid hall
      clear hall HE
      go_wp2
      go_ret
      exact ⟨-1, rfl, fun _ => rfl, (fun h => by rw [HF.out] at h; cases h), by omega, by omega, HB.out⟩
set_option maxHeartbeats 400000 in
theorem containsShapes_c (A : Option Addr) (n c : Nat) (xs : List Shp) (w : World) (h : Row w A (shpsV xs)) (hn : xs.length = n) (hN : ∀ s ∈ xs, s.N.size ≤ 9223372036854775807) (h1 : n ≤ 9223372036854775807) :
    Calls Try.prog 62 #[.slice A n c, .func (.func 63) #[] #[]] w fun e w' => e = .returned (.bool (!xs.all shB)) ∧ Below w.heap.size w w' := by
  have C := Lib.hid (indexShapes_c A n c xs w h hn hN h1)
  clear h hn hN
  go_enter Try.func62, Try.ntmps62
  go_wp2_with fail
  refine C.out.mono ?_
  rintro e w1 ⟨r, rfl, ht, hf, r0, r1, hb⟩
  have HB := Lib.hid hb
  have HT := Lib.hid ht
  have HF := Lib.hid hf
  clear hb ht hf C
  by_cases hr : 0 ≤ r
  · have ha : xs.all shB = false := by cases h : xs.all shB with
      | false => rfl
      | true => have := HT.out h; omega
    have HA := Lib.hid ha
    clear ha
    go_wp2
    go_ret
    exact ⟨ret_bool (by rw [HA.out]; simp; try omega), HB.out⟩
  · have ha : xs.all shB = true := by cases h : xs.all shB with
      | true => rfl
      | false => have := HF.out h; omega
    have HA := Lib.hid ha
    clear ha
    go_wp2
    go_ret
    exact ⟨ret_bool (by rw [HA.out]; simp; try omega), HB.out⟩
set_option maxHeartbeats 400000 in
theorem ValidDrawing_c (A : Option Addr) (n c : Nat) (xs : List Shp) (w : World) (h : Row w A (shpsV xs)) (hn : xs.length = n) (hN : ∀ s ∈ xs, s.N.size ≤ 9223372036854775807) (h1 : n ≤ 9223372036854775807) :
    Calls Try.prog 24 #[drwV A n c] w fun e w' => e = .returned (.bool (drwB xs)) ∧ Below w.heap.size w w' := by
  have hst : Below w.heap.size w (w.alloc (.cells #[.slice A n c] 29)) := by (repeat (first | exact Below.refl _ _ | assumption | refine Below.drew ?_ | refine below_drewN ?_ _ | refine Below.setCell ?_ (by first | omega | (simp; done) | (simp; omega)) _ | refine Below.alloc ?_ (by first | omega | (simp; done) | (simp; omega)) _))
  have C := Lib.hid (containsShapes_c A n c xs _ (h.below hst) hn hN h1)
  have HST := Lib.hid hst
  by_cases hc : n ≤ 1200
  · have e : drwB xs = xs.all shB := by unfold drwB; rw [hn, decide_eq_true hc, Bool.true_and]
    rw [e]
    clear h hn hN e hst
    go_enter Try.func24, Try.ntmps24
    go_wp2_with fail
    refine C.out.mono ?_
    rintro e w1 ⟨rfl, hb⟩
    have HB := Lib.hid (bthen HST.out hb)
    clear hb
    go_wp2
    go_ret
    exact ⟨ret_bool (by simp), HB.out⟩
  · have e : drwB xs = false := by unfold drwB; rw [hn, decide_eq_false hc, Bool.false_and]
    rw [e]
    clear h hn hN e hst
    go_enter Try.func24, Try.ntmps24
    go_wp2_with fail
    go_ret
    exact ⟨rfl, HST.out⟩
end Go.Proofs.Ytplnohfjeilodaa
