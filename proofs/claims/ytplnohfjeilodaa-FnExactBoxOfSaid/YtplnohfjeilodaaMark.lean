/- Contracts of the marks' texts. -/
import Derived.Test.YtplnohfjeilodaaRows
import Derived.Test.YtplnohfjeilodaaMem
import Derived.Deep.QuietTactic
import Derived.BigQuiet
import Derived.Lib.SlBytesConst
import Derived.Deep.RegionHeld3
import Derived.Deep.RegionWith
namespace Go.Proofs.Ytplnohfjeilodaa
open Go.RowKit
set_option linter.unusedVariables false
set_option maxRecDepth 100000

def digs (k : Nat) (out : ByteArray) : ByteArray := if h : k = 0 then out else digs (k / 10) (⟨#[48 + UInt8.ofNat (k % 10)]⟩ ++ out)
decreasing_by omega
def mkText (k : Nat) : ByteArray := ⟨#[109]⟩ ++ digs k ⟨#[]⟩
theorem digs_step {k : Nat} (h : 0 < k) (out : ByteArray) : digs (k / 10) (⟨#[48 + UInt8.ofNat (k % 10)]⟩ ++ out) = digs k out := by
  conv => rhs; unfold digs
  rw [dif_neg (by omega)]
theorem digs_zero (out : ByteArray) : digs 0 out = out := by unfold digs; simp
theorem one_size (b : UInt8) (out : ByteArray) : ((⟨#[b]⟩ : ByteArray) ++ out).size = 1 + out.size := by rw [ByteArray.size_append]; rfl
theorem conv_one (W : World) (v : Int) : (convert 59 9 (.slice (some ⟨W.heap.size, 0, none⟩) 1 1)).run Try.prog (W.alloc (.cells #[.int .u8 v] 5)) =
    .ok (.string ⟨#[UInt8.ofNat v.toNat]⟩) (W.alloc (.cells #[.int .u8 v] 5)) := by
  rw [run_convert_bytes_string _ _ _ _ _ _ _ Try.underlying59 Try.underlying5 Try.underlying9]
  have hl := run_loadCells_list (P := Try.prog) (W.alloc (.cells #[.int .u8 v] 5)) ⟨W.heap.size, 0, none⟩ [.int .u8 v] (fun j u hj => by
    cases j with
    | zero => simp at hj; subst hj; exact (Blk.new W 5 #[.int .u8 v]).cell 0
    | succ j => simp at hj)
  have := run_bytesToString (P := Try.prog) _ _ 1 1 [v] (by simpa using hl)
  rw [this]
  rfl
set_option maxHeartbeats 400000 in
theorem markText_c (k : Nat) (w : World) (h0 : 0 < k) (h1 : k ≤ 1000000000000) :
    Calls Try.prog 100 #[.int .i64 k] w fun e w' => e = .returned (.string (mkText k)) ∧ Below w.heap.size w w' := by
  go_enter Try.func100, Try.ntmps100
  go_wp2
  go_loopw [0, 3] (fun i s wr => ∃ (j : Nat) (out : ByteArray), out.size + j ≤ k ∧ i = .int .i64 j ∧ s = .string out ∧ digs j out = digs k ⟨#[]⟩ ∧ Below w.heap.size w wr) (fun i _ _ => (intOf i).toNat)
  case atStart => exact ⟨k, _, by simp [ByteArray.size], rfl, rfl, rfl, Below.refl _ _⟩
  case round =>
    obtain ⟨j, out, hj, rfl, rfl, hd, hb⟩ := hrel
    have HD := Lib.hid hd
    clear hd
    rcases Nat.eq_zero_or_pos j with rfl | hz
    · go_wp2
      have hm : (⟨#[109]⟩ ++ out : ByteArray) = mkText k := by unfold mkText; rw [← HD.out, digs_zero]
      go_ret
      exact ⟨by rw [← hm]; rfl, hb⟩
    · have hst := Lib.hid (digs_step hz out)
      have kc := conv_one
      go_wp2
      go_roundw
      case rel => exact ⟨j / 10, _, by rw [one_size]; omega, by go_num, rfl, hst.out.trans HD.out, hb.alloc hb.size _⟩
      case measure => simp [intOf]; omega
/-- the marks from k on -/
def marksS (k n : Nat) : List Value := (List.range n).map fun j => .string (mkText (k + j))
theorem marksS_len (k n : Nat) : (marksS k n).length = n := by simp [marksS]
theorem marksS_get (k n j : Nat) (h : j < (marksS k n).length) : (marksS k n)[j] = .string (mkText (k + j)) := by simp [marksS]
theorem marksS_set {xs : List Value} (k j : Nat) (h : j < xs.length) : (marksS k j ++ xs.drop j).set j (.string (mkText (k + j))) = marksS k (j + 1) ++ xs.drop (j + 1) := by
  rw [List.set_append_right _ _ (by rw [marksS_len]; exact Nat.le_refl _), marksS_len, Nat.sub_self, List.drop_eq_getElem_cons h, List.set_cons_zero]
  unfold marksS
  rw [List.range_succ, List.map_append, List.append_assoc]
  rfl
end Go.Proofs.Ytplnohfjeilodaa
