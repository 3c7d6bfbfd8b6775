/- Valid shapes and drawings. -/
import Derived.Test.YtplnohfjeilodaaShape
import Derived.Test.YtplnohfjeilodaaName
import Derived.Test.YtplnohfjeilodaaAr
import Derived.Deep.RegionHeld3
import Derived.Deep.RegionWith
import Derived.Deep.DrawnRows
namespace Go.Proofs.Ytplnohfjeilodaa
open Go.RowKit
set_option linter.unusedVariables false
set_option maxRecDepth 100000

def spB (x y : Int) : Bool := inB x (-100000) 100000 && inB y (-100000) 100000
def nmB (s : ByteArray) : Bool := decide (1 ≤ s.size) && decide (s.size ≤ 12) && smB (byt s 0) && (List.range s.size).all fun j => okB (byt s j)
theorem nmB_iff {s : ByteArray} : nmB s = true ↔ NameOk s := by
  unfold nmB
  simp only [Bool.and_eq_true, decide_eq_true_eq, List.all_eq_true, List.mem_range]
  exact ⟨fun ⟨⟨⟨a, b⟩, c⟩, d⟩ => ⟨a, b, c, d⟩, fun ⟨a, b, c, d⟩ => ⟨⟨⟨a, b⟩, c⟩, d⟩⟩
def shB (s : Shp) : Bool :=
  spB s.AX s.AY && (if s.K = 1 then spB s.BX s.BY && s.R == 0 && s.N.toList.isEmpty
    else if s.K = 2 then (s.BX == 0 && s.BY == 0) && inB s.R 1 100000 && s.N.toList.isEmpty
    else if s.K = 3 then (s.BX == 0 && s.BY == 0) && s.R == 0 && nmB s.N
    else false)
theorem run_eql_spot (a b c d : Int) (w : World) :
    (binOp .eql 39 (.agg #[.int .i64 a, .int .i64 b]) (.agg #[.int .i64 c, .int .i64 d])).run Try.prog w = .ok (.bool (a == c && b == d)) w := by
  simp [go_sem]
  (repeat' split) <;> simp_all
theorem sIsName_c (s : ByteArray) (w : World) (hz : s.size ≤ 9223372036854775807) : Calls Try.prog 114 #[.string s] w fun e w' => e = .returned (.bool (nmB s)) ∧ w = w' := by
  cases h : nmB s
  · exact sIsName_f s w (fun hn => by rw [nmB_iff.2 hn] at h; cases h) hz
  · exact sIsName_t s w (nmB_iff.1 h)
theorem IsName_c (s : ByteArray) (w : World) (hz : s.size ≤ 9223372036854775807) : Calls Try.prog 103 #[.string s] w fun e w' => e = .returned (.bool (nmB s)) ∧ Below w.heap.size w w' := by
  cases h : nmB s
  · exact IsName_f s w (fun hn => by rw [nmB_iff.2 hn] at h; cases h) hz
  · exact IsName_t s w (nmB_iff.1 h)
set_option maxHeartbeats 400000 in
theorem l25Spot_c (x y : Int) (w : World) : Calls Try.prog 77 #[spotV x y] w fun e w' => e = .returned (.bool (spB x y)) ∧ w.alloc (.cells #[.int .i64 x, .int .i64 y] 39) = w' := by
  unfold spB
  cases h1 : inB x (-100000) 100000
  · go_enter Try.func77, Try.ntmps77
    go_wp2_with (go_at_call 53; refine (l00In_c _ _ _ _).mono ?_; rintro e w' ⟨rfl, rfl⟩)
    go_ret
    exact ⟨rfl, rfl⟩
  · cases h2 : inB y (-100000) 100000
    all_goals
      go_enter Try.func77, Try.ntmps77
      go_wp2_with (go_at_call 53; refine (l00In_c _ _ _ _).mono ?_; rintro e w' ⟨rfl, rfl⟩)
      go_ret
      exact ⟨rfl, rfl⟩
set_option maxHeartbeats 400000 in
theorem validSpot_c (x y : Int) (w : World) : Calls Try.prog 78 #[spotV x y] w fun e w' => e = .returned (.bool (spB x y)) ∧ w.alloc (.cells #[.int .i64 x, .int .i64 y] 39) = w' := by
  unfold spB
  cases h1 : inB x (-100000) 100000
  · go_enter Try.func78, Try.ntmps78
    go_wp2_with (go_at_call 55; refine (within_c _ _ _ _).mono ?_; rintro e w' ⟨rfl, rfl⟩)
    go_ret
    exact ⟨rfl, rfl⟩
  · cases h2 : inB y (-100000) 100000
    all_goals
      go_enter Try.func78, Try.ntmps78
      go_wp2_with (go_at_call 55; refine (within_c _ _ _ _).mono ?_; rintro e w' ⟨rfl, rfl⟩)
      go_ret
      exact ⟨rfl, rfl⟩
attribute [local go_sem ↓ high] run_eql_spot
set_option maxHeartbeats 1000000 in
theorem l25Shape_c (s : Shp) (w : World) (hz : s.N.size ≤ 9223372036854775807) : Calls Try.prog 101 #[s.val] w fun e w' => e = .returned (.bool (shB s)) ∧ Below w.heap.size w w' := by
  obtain ⟨K, AX, AY, BX, BY, R, N⟩ := s
  simp only at hz
  cases h1 : spB AX AY
  · have e : shB ⟨K, AX, AY, BX, BY, R, N⟩ = false := by simp [shB, h1]
    rw [e]
    clear e
    go_enter Try.func101, Try.ntmps101
    go_wp2_with (go_at_call 77; refine (l25Spot_c _ _ _).mono ?_; rintro e w' ⟨rfl, rfl⟩)
    go_ret
    refine ⟨rfl, ?_⟩
    (repeat (first | exact Below.refl _ _ | assumption | refine Below.drew ?_ | refine below_drewN ?_ _ | refine Below.setCell ?_ (by first | omega | (simp; done) | (simp; omega)) _ | refine Below.alloc ?_ (by first | omega | (simp; done) | (simp; omega)) _))
  · by_cases k1 : K = 1
    · subst k1
      have e : shB ⟨1, AX, AY, BX, BY, R, N⟩ = (spB BX BY && R == 0 && N.toList.isEmpty) := by simp [shB, h1]
      rw [e]
      clear e
      cases h2 : spB BX BY <;> cases h3 : (R == 0) <;> cases h4 : N.toList.isEmpty
      all_goals
        go_enter Try.func101, Try.ntmps101
        go_wp2_with (go_at_call 77; refine (l25Spot_c _ _ _).mono ?_; rintro e w' ⟨rfl, rfl⟩)
        go_ret
        refine ⟨rfl, ?_⟩
        (repeat (first | exact Below.refl _ _ | assumption | refine Below.drew ?_ | refine below_drewN ?_ _ | refine Below.setCell ?_ (by first | omega | (simp; done) | (simp; omega)) _ | refine Below.alloc ?_ (by first | omega | (simp; done) | (simp; omega)) _))
    · by_cases k2 : K = 2
      · subst k2
        have e : shB ⟨2, AX, AY, BX, BY, R, N⟩ = ((BX == 0 && BY == 0) && inB R 1 100000 && N.toList.isEmpty) := by simp [shB, h1]
        rw [e]
        clear e k1
        cases h2 : (BX == 0 && BY == 0) <;> cases h3 : inB R 1 100000 <;> cases h4 : N.toList.isEmpty
        all_goals
          go_enter Try.func101, Try.ntmps101
          go_wp2_with (first | (go_at_call 77; refine (l25Spot_c _ _ _).mono ?_; rintro e w' ⟨rfl, rfl⟩) | (go_at_call 53; refine (l00In_c _ _ _ _).mono ?_; rintro e w' ⟨rfl, rfl⟩))
          go_ret
          refine ⟨rfl, ?_⟩
          (repeat (first | exact Below.refl _ _ | assumption | refine Below.drew ?_ | refine below_drewN ?_ _ | refine Below.setCell ?_ (by first | omega | (simp; done) | (simp; omega)) _ | refine Below.alloc ?_ (by first | omega | (simp; done) | (simp; omega)) _))
      · by_cases k3 : K = 3
        · subst k3
          have e : shB ⟨3, AX, AY, BX, BY, R, N⟩ = ((BX == 0 && BY == 0) && R == 0 && nmB N) := by simp [shB, h1]
          rw [e]
          clear e k1 k2
          cases h2 : (BX == 0 && BY == 0) <;> cases h3 : (R == 0) <;> cases h4 : nmB N
          all_goals
            go_enter Try.func101, Try.ntmps101
            go_wp2_with (first | (go_at_call 77; refine (l25Spot_c _ _ _).mono ?_; rintro e w' ⟨rfl, rfl⟩) | (go_at_call 114; refine (sIsName_c _ _ hz).mono ?_; rintro e w' ⟨rfl, rfl⟩))
            go_ret
            refine ⟨rfl, ?_⟩
            (repeat (first | exact Below.refl _ _ | assumption | refine Below.drew ?_ | refine below_drewN ?_ _ | refine Below.setCell ?_ (by first | omega | (simp; done) | (simp; omega)) _ | refine Below.alloc ?_ (by first | omega | (simp; done) | (simp; omega)) _))
        · have e : shB ⟨K, AX, AY, BX, BY, R, N⟩ = false := by simp [shB, h1, k1, k2, k3]
          rw [e]
          clear e
          go_enter Try.func101, Try.ntmps101
          go_wp2_with (go_at_call 77; refine (l25Spot_c _ _ _).mono ?_; rintro e w' ⟨rfl, rfl⟩)
          go_ret
          refine ⟨rfl, ?_⟩
          (repeat (first | exact Below.refl _ _ | assumption | refine Below.drew ?_ | refine below_drewN ?_ _ | refine Below.setCell ?_ (by first | omega | (simp; done) | (simp; omega)) _ | refine Below.alloc ?_ (by first | omega | (simp; done) | (simp; omega)) _))
set_option maxHeartbeats 400000 in
theorem line_c (a b c d : Int) (w : World) : Calls Try.prog 57 #[spotV a b, spotV c d] w fun e w' => e = .returned (.agg #[.int .i64 1, .int .i64 a, .int .i64 b, .int .i64 c, .int .i64 d, .int .i64 0, .string ⟨#[]⟩]) ∧
    ((w.alloc (.cells #[.int .i64 a, .int .i64 b] 39)).alloc (.cells #[.int .i64 c, .int .i64 d] 39)).alloc (.cells #[.int .i64 1, .int .i64 a, .int .i64 b, .int .i64 c, .int .i64 d, .int .i64 0, .string ⟨#[]⟩] 80) = w' := by
  go_enter Try.func57, Try.ntmps57
  go_wp2
  exact bodyPost_ret (v := .agg #[.int .i64 1, .int .i64 a, .int .i64 b, .int .i64 c, .int .i64 d, .int .i64 0, .string ⟨#[]⟩]) (by simp [results, Try.results57, go_sem]) rfl ⟨rfl, rfl⟩
set_option maxHeartbeats 400000 in
theorem circle_c (a b r : Int) (w : World) : Calls Try.prog 56 #[spotV a b, .int .i64 r] w fun e w' => e = .returned (.agg #[.int .i64 2, .int .i64 a, .int .i64 b, .int .i64 0, .int .i64 0, .int .i64 r, .string ⟨#[]⟩]) ∧
    (w.alloc (.cells #[.int .i64 a, .int .i64 b] 39)).alloc (.cells #[.int .i64 2, .int .i64 a, .int .i64 b, .int .i64 0, .int .i64 0, .int .i64 r, .string ⟨#[]⟩] 80) = w' := by
  go_enter Try.func56, Try.ntmps56
  go_wp2
  exact bodyPost_ret (v := .agg #[.int .i64 2, .int .i64 a, .int .i64 b, .int .i64 0, .int .i64 0, .int .i64 r, .string ⟨#[]⟩]) (by simp [results, Try.results56, go_sem]) rfl ⟨rfl, rfl⟩
set_option maxHeartbeats 400000 in
theorem label_c (a b : Int) (n : ByteArray) (w : World) : Calls Try.prog 89 #[spotV a b, .string n] w fun e w' => e = .returned (.agg #[.int .i64 3, .int .i64 a, .int .i64 b, .int .i64 0, .int .i64 0, .int .i64 0, .string n]) ∧
    (w.alloc (.cells #[.int .i64 a, .int .i64 b] 39)).alloc (.cells #[.int .i64 3, .int .i64 a, .int .i64 b, .int .i64 0, .int .i64 0, .int .i64 0, .string n] 80) = w' := by
  go_enter Try.func89, Try.ntmps89
  go_wp2
  exact bodyPost_ret (v := .agg #[.int .i64 3, .int .i64 a, .int .i64 b, .int .i64 0, .int .i64 0, .int .i64 0, .string n]) (by simp [results, Try.results89, go_sem]) rfl ⟨rfl, rfl⟩
end Go.Proofs.Ytplnohfjeilodaa
