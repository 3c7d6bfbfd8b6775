/- Contracts of the marks' texts. -/
import Derived.Test.YtacnijnilopckaaRows
import Derived.Test.YtacnijnilopckaaMem
import Derived.Deep.QuietTactic
import Derived.BigQuiet
import Derived.Lib.SlBytesConst
import Derived.Deep.RegionHeld3
import Derived.Deep.RegionWith
namespace Go.Proofs.Ytacnijnilopckaa
open Go.RowKit
set_option linter.unusedVariables false

def digs (k : Nat) (out : ByteArray) : ByteArray := if h : k = 0 then out else digs (k / 10) (⟨#[48 + UInt8.ofNat (k % 10)]⟩ ++ out)
decreasing_by omega
def mkText (k : Nat) : ByteArray := ⟨#[109]⟩ ++ digs k ⟨#[]⟩
theorem digs_step {k : Nat} (h : 0 < k) (out : ByteArray) : digs (k / 10) (⟨#[48 + UInt8.ofNat (k % 10)]⟩ ++ out) = digs k out := by
  conv => rhs; unfold digs
  rw [dif_neg (by omega)]
theorem digs_zero (out : ByteArray) : digs 0 out = out := by unfold digs; simp
theorem one_size (b : UInt8) (out : ByteArray) : ((⟨#[b]⟩ : ByteArray) ++ out).size = 1 + out.size := by rw [ByteArray.size_append]; rfl
theorem conv_one (W : World) (v : Int) : (convert 22 9 (.slice (some ⟨W.heap.size, 0, none⟩) 1 1)).run Try.prog (W.alloc (.cells #[.int .u8 v] 5)) =
    .ok (.string ⟨#[UInt8.ofNat v.toNat]⟩) (W.alloc (.cells #[.int .u8 v] 5)) := by
  rw [run_convert_bytes_string _ _ _ _ _ _ _ Try.underlying22 Try.underlying5 Try.underlying9]
  have hl := run_loadCells_list (P := Try.prog) (W.alloc (.cells #[.int .u8 v] 5)) ⟨W.heap.size, 0, none⟩ [.int .u8 v] (fun j u hj => by
    cases j with
    | zero => simp at hj; subst hj; exact (Blk.new W 5 #[.int .u8 v]).cell 0
    | succ j => simp at hj)
  have := run_bytesToString (P := Try.prog) _ _ 1 1 [v] (by simpa using hl)
  rw [this]
  rfl
set_option maxHeartbeats 400000 in
theorem markText_c (k : Nat) (w : World) (h0 : 0 < k) (h1 : k ≤ 1000000000000) :
    Calls Try.prog 34 #[.int .i64 k] w fun e w' => e = .returned (.string (mkText k)) ∧ Below w.heap.size w w' := by
  go_enter Try.func34, Try.ntmps34
  go_wp2
  go_loopw [0, 3] (fun i s wr => ∃ (j : Nat) (out : ByteArray), out.size + j ≤ k ∧ i = .int .i64 j ∧ s = .string out ∧ digs j out = digs k ⟨#[]⟩ ∧ Below w.heap.size w wr) (fun i _ _ => (intOf i).toNat)
  case atStart => exact ⟨k, _, by simp [ByteArray.size], rfl, rfl, rfl, Below.refl _ _⟩
  case round =>
    obtain ⟨j, out, hj, rfl, rfl, hd, hb⟩ := hrel
    have HD := Lib.hid hd
    clear hd
    rcases Nat.eq_zero_or_pos j with rfl | hz
    · go_wp2
      have hm : (⟨#[109]⟩ ++ out : ByteArray) = mkText k := by unfold mkText; rw [← HD.out, digs_zero]
      go_ret
      exact ⟨by rw [← hm]; rfl, hb⟩
    · have hst := Lib.hid (digs_step hz out)
      have kc := conv_one
      go_wp2
      go_roundw
      case rel => exact ⟨j / 10, _, by rw [one_size]; omega, by go_num, rfl, hst.out.trans HD.out, hb.alloc hb.size _⟩
      case measure => simp [intOf]; omega
/-- the marks from k on -/
def marksS (k n : Nat) : List Value := (List.range n).map fun j => .string (mkText (k + j))
theorem marksS_len (k n : Nat) : (marksS k n).length = n := by simp [marksS]
theorem marksS_get (k n j : Nat) (h : j < (marksS k n).length) : (marksS k n)[j] = .string (mkText (k + j)) := by simp [marksS]
theorem marksS_set {xs : List Value} (k j : Nat) (h : j < xs.length) : (marksS k j ++ xs.drop j).set j (.string (mkText (k + j))) = marksS k (j + 1) ++ xs.drop (j + 1) := by
  rw [List.set_append_right _ _ (by rw [marksS_len]; exact Nat.le_refl _), marksS_len, Nat.sub_self, List.drop_eq_getElem_cons h, List.set_cons_zero]
  unfold marksS
  rw [List.range_succ, List.map_append, List.append_assoc]
  rfl
set_option maxHeartbeats 400000 in
theorem markStringS_c (A : Option Addr) (n c k base : Nat) (kk : Int) (ek : kk = k) (xs : List Value) (w : World) (h : w.ownsRow base 9 1 (.slice A n c) n xs) (h0 : 0 < k) (h1 : k + n ≤ 1000000000) :
    Calls Try.prog 16 #[.slice A n c, .int .i64 kk] w fun e w' => e = .returned (.int .i64 (k + n)) ∧ w'.ownsRow base 9 1 (.slice A n c) n (marksS k n) ∧ w.grownBy w' (Value.slice A n c).ownBlock := by
  subst ek
  have hl : xs.length = n := by have := h.1; omega
  have H := Lib.hid h
  have HL := Lib.hid hl
  clear h hl
  go_enter Try.func16, Try.ntmps16
  go_wp2
  go_loopw [1, 5] (fun s i wr => ∃ j : Nat, j ≤ n ∧ i = .int .i64 j ∧ s = .int .i64 (k + j) ∧ wr.ownsRow base 9 1 (.slice A n c) n (marksS k j ++ xs.drop j) ∧ w.grownBy wr (Value.slice A n c).ownBlock) (fun _ i _ => n - (intOf i).toNat)
  case atStart => exact ⟨0, by omega, rfl, by simp, by simpa [marksS] using H.out, World.grownBy.refl _ _⟩
  case round =>
    obtain ⟨j, hj, rfl, rfl, hr, hg⟩ := hrel
    by_cases hlt : j < n
    · obtain ⟨g, cap, hv, hgb, hgl⟩ := hr.form (by omega)
      injection hv with hA _ hc
      subst hA hc
      have HR := Lib.hid hr
      have HG := Lib.hid hg
      have hcell := hr.cellAt j (by omega)
      have hx : (marksS k j ++ xs.drop j)[j]? = some (xs[j]'(by rw [HL.out]; exact hlt)) := by
        rw [List.getElem?_append_right (by rw [marksS_len]; exact Nat.le_refl _), marksS_len, Nat.sub_self, List.getElem?_drop, Nat.add_zero, List.getElem?_eq_getElem]
      rw [hx] at hcell
      have hfz := hr.frozenAt j
      clear hr hg hx
      go_wp2_with fail
      refine (markText_c (k + j) _ (by omega) (by omega)).mono ?_
      rintro e w1 ⟨rfl, hb1⟩
      have hc1 := (hb1.cell (p := ⟨g, j, none⟩) hgl).trans hcell
      have hf1 := (hb1.frozen (p := ⟨g, j, none⟩) hgl).trans hfz
      have hs1 : g < w1.heap.size := Nat.lt_of_lt_of_le hgl hb1.size
      have HB := Lib.hid hb1
      clear hb1 hcell hfz
      go_wp2
      go_roundw
      case rel =>
        have hst := (own_below HR.out HB.out).stored j (.string (mkText (k + j)))
        rw [marksS_set k j (by rw [HL.out]; exact hlt)] at hst
        refine ⟨j + 1, by omega, by go_num, by go_num, hst.1, (HG.out.trans ?_).trans hst.2⟩
        exact ⟨HB.out.os, HB.out.tape, HB.out.output, HB.out.size, fun i hi _ => HB.out.block i hi⟩
      case measure => simp [intOf]; omega
    · have hjn : j = n := by omega
      subst hjn
      rw [List.drop_of_length_le (by rw [HL.out]; exact Nat.le_refl _), List.append_nil] at hr
      have HR := Lib.hid hr
      have HG := Lib.hid hg
      clear hr hg
      go_wp2
      go_ret
      exact ⟨rfl, HR.out, HG.out⟩
set_option maxHeartbeats 400000 in
theorem heldStringS_c (A : Option Addr) (n c k : Nat) (kk : Int) (ek : kk = k) (w : World) (h : Row w A (marksS k n)) (hn : n ≤ 1000000000) (h0 : 0 < k) (h1 : k + n ≤ 1000000000) :
    Calls Try.prog 17 #[.slice A n c, .int .i64 kk] w fun e w' => e = .returned (.int .i64 (k + n)) ∧ Below w.heap.size w w' := by
  subst ek
  have H := Lib.hid h
  clear h
  go_enter Try.func17, Try.ntmps17
  go_wp2
  go_loopw [1, 5] (fun s i wr => ∃ j : Nat, j ≤ n ∧ i = .int .i64 j ∧ s = .int .i64 (k + j) ∧ Below w.heap.size w wr) (fun _ i _ => n - (intOf i).toNat)
  case atStart => exact ⟨0, by omega, rfl, by simp, Below.refl _ _⟩
  case round =>
    obtain ⟨j, hj, rfl, rfl, hb⟩ := hrel
    have HB := Lib.hid hb
    by_cases hlt : j < n
    · obtain ⟨b, off, rfl, hbl, hc⟩ := H.out.at_ (by rw [marksS_len]; omega)
      have hcj := hc j (by rw [marksS_len]; omega)
      rw [marksS_get] at hcj
      have hcw := (hb.cell (p := ⟨b, off + j, none⟩) hbl).trans hcj
      have hsz := hb.size
      clear hc hcj hb
      go_wp2
      go_region_held3 (fun w' => w'.cell? ⟨b, off + j, none⟩ = some (.string (mkText (k + j)))) (go_keep) ((go_at_call 34; refine (markText_c (k + j) _ (by omega) (by omega)).mono ?_; rintro e w1 ⟨rfl, hb1⟩; have hc1 := (hb1.cell (p := ⟨b, off + j, none⟩) (Nat.lt_of_lt_of_le hbl hsz)).trans hcw))
      clear hc1
      have HB2 := Lib.hid hb1
      clear hb1
      go_wp2
      go_roundw
      case rel =>
        refine ⟨j + 1, by omega, by go_num, by go_num, HB.out.drew.trans (HB2.out.mono ?_)⟩
        simpa using hsz
      case measure => simp [intOf]; omega
    · have hjn : j = n := by omega
      subst hjn
      clear hb
      go_wp2
      go_ret
      exact ⟨rfl, HB.out⟩
end Go.Proofs.Ytacnijnilopckaa
