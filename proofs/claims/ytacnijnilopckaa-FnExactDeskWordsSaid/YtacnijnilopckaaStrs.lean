/- Contracts over slices of strings. -/
import Derived.Test.YtacnijnilopckaaRows
import Derived.Test.YtacnijnilopckaaMem
import Derived.Deep.QuietTactic
import Derived.BigQuiet
namespace Go.Proofs.Ytacnijnilopckaa
open Go.RowKit
set_option linter.unusedVariables false

def strsV (xs : List ByteArray) : List Value := xs.map Value.string
theorem strsV_len (xs : List ByteArray) : (strsV xs).length = xs.length := by simp [strsV]
theorem Row.str {w : World} {A : Option Addr} {xs : List ByteArray} (h : Row w A (strsV xs)) (hp : 0 < xs.length) :
    ∃ b off, A = some ⟨b, off, none⟩ ∧ b < w.heap.size ∧ ∀ j (h : j < xs.length), w.cell? ⟨b, off + j, none⟩ = some (.string xs[j]) := by
  obtain ⟨b, off, hA, hb, hc⟩ := h.at_ (by rw [strsV_len]; exact hp)
  exact ⟨b, off, hA, hb, fun j hj => by rw [hc j (by rw [strsV_len]; exact hj)]; simp [strsV]⟩
theorem take_step {α : Type} {xs ys : List α} {k : Nat} (hx : k < xs.length) (hy : k < ys.length) (h : xs.take k = ys.take k) (he : xs[k] = ys[k]) : xs.take (k + 1) = ys.take (k + 1) := by
  rw [List.take_succ_eq_append_getElem hx, List.take_succ_eq_append_getElem hy, h, he]

set_option maxHeartbeats 400000 in
theorem eqStringS_c (A B : Option Addr) (c d : Nat) (xs ys : List ByteArray) (w : World) (hx : Row w A (strsV xs)) (hy : Row w B (strsV ys))
    (lx : xs.length ≤ 9223372036854775807) (ly : ys.length ≤ 9223372036854775807) :
    Calls Try.prog 15 #[.slice A xs.length c, .slice B ys.length d] w fun e w' => e = .returned (.bool (decide (xs = ys))) ∧ ∃ n, w' = w.drewN n := by
  by_cases hl : xs.length = ys.length
  · obtain ⟨m, hm⟩ : ∃ m, m = ys.length := ⟨_, rfl⟩
    rw [hl, ← hm]
    have HX := Lib.hid hx
    have HY := Lib.hid hy
    have HL := Lib.hid hl
    have HM := Lib.hid hm
    rw [← hm] at ly
    clear hx hy hl hm lx
    go_enter Try.func15, Try.ntmps15
    go_wp2
    go_loopw [5] (fun i wr => ∃ k n : Nat, k ≤ m ∧ i = .int .i64 k ∧ xs.take k = ys.take k ∧ wr = w.drewN n) (fun i _ => m - (intOf i).toNat)
    case atStart => exact ⟨0, 0, by omega, rfl, rfl, rfl⟩
    case round =>
      obtain ⟨k, n, hk, rfl, ht, rfl⟩ := hrel
      have HT := Lib.hid ht
      clear ht
      by_cases hlt : k < m
      · obtain ⟨b, off, rfl, hb, hc⟩ := HX.out.str (by rw [HL.out, ← HM.out]; omega)
        obtain ⟨b', off', rfl, hb', hc'⟩ := HY.out.str (by rw [← HM.out]; omega)
        have g1 := hc k (by rw [HL.out, ← HM.out]; omega)
        have g2 := hc' k (by rw [← HM.out]; omega)
        clear hc hc'
        by_cases he : xs[k]'(by rw [HL.out, ← HM.out]; omega) = ys[k]'(by rw [← HM.out]; omega)
        · have ht2 := Lib.hid (take_step (by rw [HL.out, ← HM.out]; omega) (by rw [← HM.out]; omega) HT.out he)
          rw [he] at g1
          generalize ys[k]'(by rw [← HM.out]; omega) = s at *
          clear he
          go_wp2
          go_quiet (fail)
          go_wp2
          go_roundw
          case rel => exact ⟨k + 1, _, by omega, by go_num, ht2.out, rfl⟩
          case measure => simp [intOf]; omega
        · have hne : decide (xs = ys) = false := by
            rw [decide_eq_false_iff_not]; rintro rfl; exact he rfl
          have hf := Lib.hid hne
          clear hne
          generalize xs[k]'(by rw [HL.out, ← HM.out]; omega) = s at *
          generalize ys[k]'(by rw [← HM.out]; omega) = s' at *
          have e1 := str_ne he
          go_wp2
          go_quiet (fail)
          go_wp2
          go_ret
          exact ⟨ret_bool hf.out.symm, _, World.drewN_drewN ..⟩
      · have hk' : k = m := by omega
        have hT := HT.out
        have hd : decide (xs = ys) = true := by
          rw [decide_eq_true_eq]
          rwa [List.take_of_length_le (by rw [HL.out, ← HM.out]; omega), List.take_of_length_le (by rw [← HM.out]; omega)] at hT
        have hf := Lib.hid hd
        clear hd hT hk'
        go_wp2
        go_ret
        exact ⟨ret_bool hf.out.symm, _, rfl⟩
  · have hd : decide (xs = ys) = false := by
      rw [decide_eq_false_iff_not]; rintro rfl; exact hl rfl
    have hf := Lib.hid hd
    have h1 : ((xs.length : Int) == (ys.length : Int)) = false := by rw [beq_eq_false_iff_ne]; omega
    clear hd hx hy
    go_enter Try.func15, Try.ntmps15
    go_wp2
    go_ret
    exact ⟨ret_bool hf.out.symm, 0, rfl⟩
theorem eqStringS_t (A B : Option Addr) (n c d : Nat) (xs : List ByteArray) (w : World) (hx : Row w A (strsV xs)) (hy : Row w B (strsV xs)) (hn : n = xs.length) (ln : n ≤ 9223372036854775807) :
    Calls Try.prog 15 #[.slice A n c, .slice B n d] w fun e w' => e = .returned (.bool true) ∧ Below w.heap.size w w' := by
  subst hn
  refine (eqStringS_c A B c d xs xs w hx hy ln ln).mono ?_
  rintro e w' ⟨rfl, m, rfl⟩
  exact ⟨by simp, below_drewN_self _ _ _⟩
end Go.Proofs.Ytacnijnilopckaa
