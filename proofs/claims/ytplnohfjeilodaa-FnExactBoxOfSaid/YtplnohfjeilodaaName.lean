/- Names: both IsName functions. -/
import Derived.Test.YtplnohfjeilodaaRows
import Derived.Test.YtplnohfjeilodaaMem
import Derived.Lib.ConvBytes
namespace Go.Proofs.Ytplnohfjeilodaa
open Go.RowKit
set_option linter.unusedVariables false
set_option maxRecDepth 100000

def smB (c : Int) : Bool := decide (97 ≤ c) && decide (c ≤ 122)
def dgB (c : Int) : Bool := decide (48 ≤ c) && decide (c ≤ 57)
/-- byte k of a text -/
def byt (s : ByteArray) (k : Nat) : Int := ((s.data.toList.getD k 0).toNat : Int)
theorem byt_get (s : ByteArray) (k : Nat) (h : k < s.size) : ((s[k]'h).toNat : Int) = byt s k := by
  unfold byt
  have : s.data.toList.getD k 0 = s[k] := by
    rw [List.getD_eq_getElem?_getD, List.getElem?_eq_getElem (by simpa using h)]; rfl
  rw [this]
theorem byt_bd (s : ByteArray) (k : Nat) : 0 ≤ byt s k ∧ byt s k ≤ 255 := by
  unfold byt
  have := (s.data.toList.getD k 0).toNat_lt
  omega
def okB (c : Int) : Bool := smB c || dgB c || c == 45
structure NameOk (s : ByteArray) : Prop where
  lo : 1 ≤ s.size
  hi : s.size ≤ 12
  first : smB (byt s 0) = true
  all : ∀ j, j < s.size → okB (byt s j) = true
set_option maxHeartbeats 400000 in
theorem l01Small_c (c : Int) (w : World) : Calls Try.prog 128 #[.int .u8 c] w fun e w' => e = .returned (.bool (smB c)) ∧ w = w' := by
  go_enter Try.func128, Try.ntmps128
  go_wp2
  all_goals
    go_ret
    exact ⟨ret_bool (by simp [smB, *]; try omega), rfl⟩
set_option maxHeartbeats 400000 in
theorem l01Digit_c (c : Int) (w : World) : Calls Try.prog 129 #[.int .u8 c] w fun e w' => e = .returned (.bool (dgB c)) ∧ w = w' := by
  go_enter Try.func129, Try.ntmps129
  go_wp2
  all_goals
    go_ret
    exact ⟨ret_bool (by simp [dgB, *]; try omega), rfl⟩
set_option maxHeartbeats 1000000 in
theorem sIsName_t (s : ByteArray) (w : World) (h : NameOk s) : Calls Try.prog 114 #[.string s] w fun e w' => e = .returned (.bool true) ∧ w = w' := by
  obtain ⟨l0, l1, hf, ha⟩ := h
  have hs := byt_get s 0 (by omega)
  have HA := Lib.hid ha
  have he : s.toList.isEmpty = false := by
    rw [ByteArray.toList_eq]
    cases hd : s.data.toList with
    | nil => have : s.size = 0 := by simpa using congrArg List.length hd
             omega
    | cons a r => rfl
  rw [← hs] at hf
  clear ha hs
  go_enter Try.func114, Try.ntmps114
  go_wp2_with (go_at_call 128; refine (l01Small_c _ _).mono ?_; rintro e w' ⟨rfl, rfl⟩)
  go_loop [3] (fun i => ∃ k : Nat, k ≤ s.size ∧ i = .int .i64 k) (fun i => s.size - (intOf i).toNat)
  case atStart => exact ⟨0, by omega, rfl⟩
  case round =>
    obtain ⟨k, hk, rfl⟩ := hrel
    by_cases hlt : k < s.size
    · have hok := HA.out k hlt
      rw [← byt_get s k hlt] at hok
      cases hs1 : smB ((s[k].toNat : Int))
      · cases hs2 : dgB ((s[k].toNat : Int))
        · have h45 : ((s[k].toNat : Int) == 45) = true := by simpa [okB, hs1, hs2] using hok
          clear hok
          go_wp2_with (first | (go_at_call 128; refine (l01Small_c _ _).mono ?_; rintro e w' ⟨rfl, rfl⟩) | (go_at_call 129; refine (l01Digit_c _ _).mono ?_; rintro e w' ⟨rfl, rfl⟩))
          go_round
          case rel => exact ⟨k + 1, by omega, by go_num⟩
          case measure => simp [intOf]; omega
        · clear hok
          go_wp2_with (first | (go_at_call 128; refine (l01Small_c _ _).mono ?_; rintro e w' ⟨rfl, rfl⟩) | (go_at_call 129; refine (l01Digit_c _ _).mono ?_; rintro e w' ⟨rfl, rfl⟩))
          go_round
          case rel => exact ⟨k + 1, by omega, by go_num⟩
          case measure => simp [intOf]; omega
      · clear hok
        go_wp2_with (first | (go_at_call 128; refine (l01Small_c _ _).mono ?_; rintro e w' ⟨rfl, rfl⟩) | (go_at_call 129; refine (l01Digit_c _ _).mono ?_; rintro e w' ⟨rfl, rfl⟩))
        go_round
        case rel => exact ⟨k + 1, by omega, by go_num⟩
        case measure => simp [intOf]; omega
    · go_wp2
      go_ret
      exact ⟨rfl, rfl⟩
theorem empty_of (s : ByteArray) : (s.size = 0 → s.toList.isEmpty = true) ∧ (1 ≤ s.size → s.toList.isEmpty = false) := by
  rw [ByteArray.toList_eq]
  have hl : s.data.toList.length = s.size := rfl
  cases hd : s.data.toList with
  | nil => rw [hd] at hl; simp at hl; exact ⟨fun _ => rfl, fun h => by omega⟩
  | cons a r => rw [hd] at hl; simp at hl; exact ⟨fun h => by omega, fun _ => rfl⟩
theorem not_nameOk {s : ByteArray} (h : ¬ NameOk s) : s.size = 0 ∨ (1 ≤ s.size ∧ 12 < s.size) ∨ (1 ≤ s.size ∧ s.size ≤ 12 ∧ smB (byt s 0) = false) ∨ (1 ≤ s.size ∧ s.size ≤ 12 ∧ smB (byt s 0) = true ∧ ∃ j, j < s.size ∧ okB (byt s j) = false) := by
  by_cases h0 : s.size = 0
  · exact .inl h0
  · by_cases h1 : 12 < s.size
    · exact .inr (.inl ⟨by omega, h1⟩)
    · cases h2 : smB (byt s 0)
      · exact .inr (.inr (.inl ⟨by omega, by omega, rfl⟩))
      · refine .inr (.inr (.inr ⟨by omega, by omega, rfl, ?_⟩))
        apply Classical.byContradiction
        intro hn
        apply h
        refine ⟨by omega, by omega, h2, fun j hj => ?_⟩
        cases hb : okB (byt s j)
        · exact absurd ⟨j, hj, hb⟩ hn
        · rfl
set_option maxHeartbeats 1000000 in
theorem sIsName_f (s : ByteArray) (w : World) (h : ¬ NameOk s) (hz : s.size ≤ 9223372036854775807) : Calls Try.prog 114 #[.string s] w fun e w' => e = .returned (.bool false) ∧ w = w' := by
  rcases not_nameOk h with h0 | ⟨h0, h1⟩ | ⟨h0, h1, h2⟩ | ⟨h0, h1, h2, jb, hj, hbad⟩
  · have he := (empty_of s).1 h0
    clear h h0
    go_enter Try.func114, Try.ntmps114
    go_wp2
    go_ret
    exact ⟨rfl, rfl⟩
  · have he := (empty_of s).2 h0
    clear h
    go_enter Try.func114, Try.ntmps114
    go_wp2
    go_ret
    exact ⟨rfl, rfl⟩
  · have he := (empty_of s).2 h0
    rw [← byt_get s 0 (by omega)] at h2
    clear h
    go_enter Try.func114, Try.ntmps114
    go_wp2_with (go_at_call 128; refine (l01Small_c _ _).mono ?_; rintro e w' ⟨rfl, rfl⟩)
    go_ret
    exact ⟨rfl, rfl⟩
  · have he := (empty_of s).2 h0
    rw [← byt_get s 0 (by omega)] at h2
    have HB := Lib.hid hbad
    clear h hbad
    go_enter Try.func114, Try.ntmps114
    go_wp2_with (go_at_call 128; refine (l01Small_c _ _).mono ?_; rintro e w' ⟨rfl, rfl⟩)
    go_loop [3] (fun i => ∃ k : Nat, k ≤ jb ∧ i = .int .i64 k) (fun i => s.size - (intOf i).toNat)
    case atStart => exact ⟨0, by omega, rfl⟩
    case round =>
      obtain ⟨k, hk, rfl⟩ := hrel
      have hlt : k < s.size := by omega
      cases hok : okB (byt s k)
      · rw [← byt_get s k hlt] at hok
        have hs1 : smB ((s[k].toNat : Int)) = false := by revert hok; unfold okB; cases smB ((s[k].toNat : Int)) <;> simp
        have hs2 : dgB ((s[k].toNat : Int)) = false := by revert hok; unfold okB; cases dgB ((s[k].toNat : Int)) <;> simp
        have h45 : ((s[k].toNat : Int) == 45) = false := by revert hok; unfold okB; cases ((s[k].toNat : Int) == 45) <;> simp
        clear hok
        go_wp2_with (first | (go_at_call 128; refine (l01Small_c _ _).mono ?_; rintro e w' ⟨rfl, rfl⟩) | (go_at_call 129; refine (l01Digit_c _ _).mono ?_; rintro e w' ⟨rfl, rfl⟩))
        go_ret
        exact ⟨rfl, rfl⟩
      · have hkj : k + 1 ≤ jb := by
          rcases Nat.lt_or_ge k jb with h | h
          · exact h
          · obtain rfl : k = jb := by omega
            rw [HB.out] at hok; cases hok
        rw [← byt_get s k hlt] at hok
        cases hs1 : smB ((s[k].toNat : Int))
        · cases hs2 : dgB ((s[k].toNat : Int))
          · have h45 : ((s[k].toNat : Int) == 45) = true := by simpa [okB, hs1, hs2] using hok
            clear hok
            go_wp2_with (first | (go_at_call 128; refine (l01Small_c _ _).mono ?_; rintro e w' ⟨rfl, rfl⟩) | (go_at_call 129; refine (l01Digit_c _ _).mono ?_; rintro e w' ⟨rfl, rfl⟩))
            go_round
            case rel => exact ⟨k + 1, by omega, by go_num⟩
            case measure => simp [intOf]; omega
          · clear hok
            go_wp2_with (first | (go_at_call 128; refine (l01Small_c _ _).mono ?_; rintro e w' ⟨rfl, rfl⟩) | (go_at_call 129; refine (l01Digit_c _ _).mono ?_; rintro e w' ⟨rfl, rfl⟩))
            go_round
            case rel => exact ⟨k + 1, by omega, by go_num⟩
            case measure => simp [intOf]; omega
        · clear hok
          go_wp2_with (first | (go_at_call 128; refine (l01Small_c _ _).mono ?_; rintro e w' ⟨rfl, rfl⟩) | (go_at_call 129; refine (l01Digit_c _ _).mono ?_; rintro e w' ⟨rfl, rfl⟩))
          go_round
          case rel => exact ⟨k + 1, by omega, by go_num⟩
          case measure => simp [intOf]; omega

theorem okB_iff {c : Int} : okB c = true ↔ (97 ≤ c ∧ c ≤ 122) ∨ (48 ≤ c ∧ c ≤ 57) ∨ c = 45 := by
  simp [okB, smB, dgB, or_assoc]
theorem smB_iff {c : Int} : smB c = true ↔ (97 ≤ c ∧ c ≤ 122) := by simp [smB]
theorem bytesWorld_below (w : World) (e : TypeId) (s : ByteArray) : Below w.heap.size w (Lib.bytesWorld w e s) :=
  ⟨rfl, rfl, rfl, by rw [Lib.bytesWorld_size]; omega, fun k hk => Lib.bytesWorld_at_old w e s k hk⟩
set_option maxHeartbeats 1000000 in
theorem IsName_t (s : ByteArray) (w : World) (h : NameOk s) : Calls Try.prog 103 #[.string s] w fun e w' => e = .returned (.bool true) ∧ Below w.heap.size w w' := by
  obtain ⟨l0, l1, hf, ha⟩ := h
  have HA := Lib.hid (fun j (hj : j < s.size) => okB_iff.1 (ha j hj))
  have HF := Lib.hid (smB_iff.1 hf)
  clear ha hf
  have kc := fun W => Lib.run_convert_string_bytes (P := Try.prog) W 9 59 5 s Try.underlying9 Try.underlying59 Try.underlying5
  go_enter Try.func103, Try.ntmps103
  go_wp2
  have hst := bytesWorld_below w 5 s
  have hce := Lib.hid (Lib.bytesWorld_cell w 5 s)
  have HST := Lib.hid hst
  clear hst kc
  generalize Lib.bytesWorld w 5 s = W0 at *
  go_loop [18] (fun i => ∃ k : Nat, k ≤ s.size ∧ i = .int .i64 k) (fun i => s.size - (intOf i).toNat)
  case atStart => exact ⟨0, by omega, rfl⟩
  case round =>
    obtain ⟨k, hk, rfl⟩ := hrel
    by_cases hlt : k < s.size
    · have hc := hce.out k hlt
      have hok := HA.out k hlt
      have hf := HF.out
      have hz : k = 0 → byt s k = byt s 0 := fun h => by rw [h]
      change W0.cell? ⟨w.heap.size, k, none⟩ = some (.int .u8 (byt s k)) at hc
      have HOK := Lib.hid hok
      have HFF := Lib.hid hf
      have HZ := Lib.hid hz
      clear hok hf hz
      generalize byt s k = c at *
      generalize byt s 0 = c0 at *
      go_wp2
      all_goals first
        | (go_round
           case rel => exact ⟨k + 1, by omega, by go_num⟩
           case measure => simp [intOf]; omega)
        | (exfalso
           have a := HOK.out
           have b := HFF.out
           have c := HZ.out
           simp at *
           omega)
    · go_wp2
      go_ret
      exact ⟨rfl, HST.out⟩
set_option maxHeartbeats 1000000 in
theorem IsName_f (s : ByteArray) (w : World) (h : ¬ NameOk s) (hz : s.size ≤ 9223372036854775807) : Calls Try.prog 103 #[.string s] w fun e w' => e = .returned (.bool false) ∧ Below w.heap.size w w' := by
  rcases not_nameOk h with h0 | ⟨h0, h1⟩ | h1
  · clear h
    go_enter Try.func103, Try.ntmps103
    go_wp2
    go_ret
    exact ⟨rfl, Below.refl _ _⟩
  · clear h
    go_enter Try.func103, Try.ntmps103
    go_wp2
    go_ret
    exact ⟨rfl, Below.refl _ _⟩
  · have hx : 1 ≤ s.size ∧ s.size ≤ 12 ∧ ∃ jb, jb < s.size ∧ (okB (byt s jb) = false ∨ (jb = 0 ∧ smB (byt s 0) = false)) := by
      rcases h1 with ⟨a, b, c⟩ | ⟨a, b, _, jb, hj, hb⟩
      · exact ⟨a, b, 0, by omega, .inr ⟨rfl, c⟩⟩
      · exact ⟨a, b, jb, hj, .inl hb⟩
    obtain ⟨l0, l1, jb, hj, hbad⟩ := hx
    have HB := Lib.hid hbad
    clear h h1 hbad
    have kc := fun W => Lib.run_convert_string_bytes (P := Try.prog) W 9 59 5 s Try.underlying9 Try.underlying59 Try.underlying5
    go_enter Try.func103, Try.ntmps103
    go_wp2
    have hst := bytesWorld_below w 5 s
    have hce := Lib.hid (Lib.bytesWorld_cell w 5 s)
    have HST := Lib.hid hst
    clear hst kc
    generalize Lib.bytesWorld w 5 s = W0 at *
    go_loop [18] (fun i => ∃ k : Nat, k ≤ jb ∧ i = .int .i64 k) (fun i => s.size - (intOf i).toNat)
    case atStart => exact ⟨0, by omega, rfl⟩
    case round =>
      obtain ⟨k, hk, rfl⟩ := hrel
      have hlt : k < s.size := by omega
      have hc := hce.out k hlt
      have hbad : k = jb → ¬ ((97 ≤ byt s k ∧ byt s k ≤ 122) ∨ (48 ≤ byt s k ∧ byt s k ≤ 57) ∨ byt s k = 45) ∨ (k = 0 ∧ ¬ (97 ≤ byt s k ∧ byt s k ≤ 122)) := by
        rintro rfl
        rcases HB.out with h | ⟨rfl, h⟩
        · exact .inl (fun h2 => by rw [okB_iff.2 h2] at h; cases h)
        · exact .inr ⟨rfl, fun h2 => by rw [smB_iff.2 h2] at h; cases h⟩
      change W0.cell? ⟨w.heap.size, k, none⟩ = some (.int .u8 (byt s k)) at hc
      have HBAD := Lib.hid hbad
      clear hbad
      generalize byt s k = c at *
      go_wp2
      all_goals first
        | (go_ret
           exact ⟨rfl, HST.out⟩)
        | (go_round
           case rel =>
             have a := HBAD.out
             refine ⟨k + 1, ?_, by go_num⟩
             simp at *
             omega
           case measure => simp [intOf]; omega)
end Go.Proofs.Ytplnohfjeilodaa
