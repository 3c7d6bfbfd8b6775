/- The words with which commands begin. -/
import Derived.Test.YtacnijnilopckaaStrs
namespace Go.Proofs.Ytacnijnilopckaa
open Go.RowKit
set_option linter.unusedVariables false

def deskWords : List ByteArray := [⟨#[99, 111, 114, 114, 101, 99, 116]⟩, ⟨#[100, 101, 115, 105, 103, 110]⟩, ⟨#[102, 97, 117, 108, 116, 115]⟩, ⟨#[104, 97, 110, 100, 115]⟩, ⟨#[110, 101, 97, 114]⟩, ⟨#[112, 97, 114, 116, 115]⟩, ⟨#[112, 97, 116, 104]⟩, ⟨#[112, 117, 115, 104]⟩, ⟨#[114, 105, 103, 104, 116]⟩, ⟨#[114, 117, 110]⟩, ⟨#[115, 101, 116]⟩, ⟨#[115, 104, 111, 119]⟩, ⟨#[115, 112, 101, 101, 100, 115]⟩, ⟨#[116, 101, 114, 109, 115]⟩, ⟨#[116, 114, 97, 105, 110]⟩, ⟨#[119, 114, 111, 110, 103]⟩]
/-- a new slice of strings -/
def NewStrs (xs : List ByteArray) (w : World) (e : Ending) (w' : World) : Prop :=
  ∃ A c, e = .returned (.slice A xs.length c) ∧ w'.ownsRow w.heap.size 9 1 (.slice A xs.length c) xs.length (strsV xs) ∧ Below w.heap.size w w'
theorem newStrs_of (xs : List ByteArray) (w : World) (hx : xs.length ≤ maxLen) : NewStrs xs w (.returned (.slice (some ⟨w.heap.size, 0, none⟩) xs.length xs.length)) (w.alloc (.cells (strsV xs).toArray 9)) := by
  refine ⟨_, _, rfl, ⟨by simp [strsV], .inr ⟨_, _, _, rfl, Nat.le_refl _, Blk.new w _ _, Nat.le_refl _, hx, by simp [strsV], ?_⟩⟩, (Below.refl _ _).alloc (Nat.le_refl _) _⟩
  rw [List.take_of_length_le (by simp [strsV])]
set_option maxHeartbeats 400000 in
theorem DeskWords_c (w : World) : Calls Try.prog 14 #[] w (NewStrs deskWords w) := by
  have h := newStrs_of deskWords w (by simp [deskWords, maxLen])
  have H := Lib.hid h
  clear h
  go_enter Try.func14, Try.ntmps14
  go_wp2
  go_ret
  exact H.out
set_option maxHeartbeats 400000 in
theorem l28Words_c (w : World) : Calls Try.prog 33 #[] w (NewStrs deskWords w) := by
  have h := newStrs_of deskWords w (by simp [deskWords, maxLen])
  have H := Lib.hid h
  clear h
  go_enter Try.func33, Try.ntmps33
  go_wp2
  go_ret
  exact H.out
set_option maxHeartbeats 400000 in
theorem sDeskWords_c (w : World) : Calls Try.prog 13 #[] w (NewStrs deskWords w) := by
  go_enter Try.func13, Try.ntmps13
  go_wp2_with fail
  refine (l28Words_c _).mono ?_
  rintro e w1 ⟨A, c, rfl, ho, hb⟩
  have H : Hid (w1.ownsRow w.heap.size 9 1 (.slice A deskWords.length c) deskWords.length (strsV deskWords) ∧ Below w.heap.size w w1) := ⟨ho, hb⟩
  clear ho hb
  go_wp2
  go_ret
  exact ⟨A, c, rfl, H.out.1, H.out.2⟩
end Go.Proofs.Ytacnijnilopckaa
