/- The contract of DrawRoundSpot: three integers. -/
import Derived.Test.YtacnijnilopckaaSrc
import Derived.Deep.DeepCutAuto
namespace Go.Proofs.Ytacnijnilopckaa
open Go.RowKit
set_option linter.unusedVariables false
theorem below_only {B g : Nat} {w0 w w' : World} (h : Below B w0 w) (hg : w.grownBy w' (some g)) (hB : B ≤ w.heap.size) (hgB : B ≤ g) : Below B w0 w' :=
  h.grown hg hB (fun k hk => by injection hk with hk; omega)
def ThreeB (w : World) (e : Ending) (w' : World) : Prop := ∃ r k n : Int, e = .returned (.tuple #[.int .i64 r, .int .i64 k, .int .i64 n]) ∧ Below w.heap.size w w'
set_option maxHeartbeats 1000000 in
theorem DrawRoundSpot_c (A : Option Addr) (n c : Nat) (zs : List Int) (w : World) (h : IsRow .u8 w A n c zs) :
    Calls Try.prog 22 #[.slice A n c] w (ThreeB w) := by
  have H := Lib.hid h
  clear h
  go_enter Try.func22, Try.ntmps22
  go_wp2_with fail
  refine (l00From_c A n c zs _ H.out).mono ?_
  rintro e w1 ⟨g, rfl, hg0, hs, hb⟩
  have hz0 := hb.size
  go_upto_if 16 with (first | ((go_at_call 39; refine (pick_c _ _ _ _ (by assumption) (by omega) (by omega)).mono ?_; rintro e w' ⟨x, i', rfl, x0, x1, -, j0, j1, hs, hg⟩; have hb := below_only hb hg hb.size hg0; clear hg)) | ((go_at_call 40; refine (one_c _ _ _ _ (by assumption) (by omega) (by omega)).mono ?_; rintro e w' ⟨b, i', rfl, j0, j1, hs, hg⟩; have hb := below_only hb hg hb.size hg0; clear hg)))
  go_cut [7] (fun s7 wx => ∃ (n i : Int), s7 = .int .i64 n ∧ -1 ≤ n ∧ n ≤ 100000000 ∧ i ≤ 10 ∧ Src wx g i ∧ Below w.heap.size w wx)
  case first =>
    go_wp2_with (first | ((go_at_call 39; refine (pick_c _ _ _ _ (by assumption) (by omega) (by omega)).mono ?_; rintro e w' ⟨x, i', rfl, x0, x1, -, j0, j1, hs, hg⟩; have hb := below_only hb hg hb.size hg0; clear hg)) | ((go_at_call 40; refine (one_c _ _ _ _ (by assumption) (by omega) (by omega)).mono ?_; rintro e w' ⟨b, i', rfl, j0, j1, hs, hg⟩; have hb := below_only hb hg hb.size hg0; clear hg)))
    all_goals
      go_meet
      exact ⟨_, _, rfl, by omega, by omega, by omega, hs, hb⟩
  case rest =>
    clear hs hb
    obtain ⟨n, i, rfl, n0, n1, i1, hs, hb⟩ := hcut
    go_upto_if 22 with (first | ((go_at_call 39; refine (pick_c _ _ _ _ (by assumption) (by omega) (by omega)).mono ?_; rintro e w' ⟨x, i', rfl, x0, x1, -, j0, j1, hs, hg⟩; have hb := below_only hb hg hb.size hg0; clear hg)) | ((go_at_call 40; refine (one_c _ _ _ _ (by assumption) (by omega) (by omega)).mono ?_; rintro e w' ⟨b, i', rfl, j0, j1, hs, hg⟩; have hb := below_only hb hg hb.size hg0; clear hg)))
    go_cut [6] (fun s6 wx => ∃ (r i : Int), s6 = .int .i64 r ∧ i ≤ 20 ∧ Src wx g i ∧ Below w.heap.size w wx)
    case first =>
      go_wp2_with (first | ((go_at_call 39; refine (pick_c _ _ _ _ (by assumption) (by omega) (by omega)).mono ?_; rintro e w' ⟨x, i', rfl, x0, x1, -, j0, j1, hs, hg⟩; have hb := below_only hb hg hb.size hg0; clear hg)) | ((go_at_call 40; refine (one_c _ _ _ _ (by assumption) (by omega) (by omega)).mono ?_; rintro e w' ⟨b, i', rfl, j0, j1, hs, hg⟩; have hb := below_only hb hg hb.size hg0; clear hg)) | ((go_at_call 41; refine (amongLit_c g _ 4 4 [-1, 0, 100000, 100001] _ hs (by omega) rfl (by omega) (by omega)).mono ?_; rintro e w' ⟨x, i', rfl, xm, j0, j1, hs, hg⟩; have hb := below_only (hb.alloc hb.size _) hg (by simp; have := hb.size; omega) hg0; clear hg; simp at xm)))
      all_goals
        go_meet
        exact ⟨_, _, rfl, by omega, hs, hb⟩
    case rest =>
      clear hs hb
      obtain ⟨r, i, rfl, i1, hs, hb⟩ := hcut
      go_upto_if 27 with (first | ((go_at_call 39; refine (pick_c _ _ _ _ (by assumption) (by omega) (by omega)).mono ?_; rintro e w' ⟨x, i', rfl, x0, x1, -, j0, j1, hs, hg⟩; have hb := below_only hb hg hb.size hg0; clear hg)) | ((go_at_call 40; refine (one_c _ _ _ _ (by assumption) (by omega) (by omega)).mono ?_; rintro e w' ⟨b, i', rfl, j0, j1, hs, hg⟩; have hb := below_only hb hg hb.size hg0; clear hg)))
      go_cut [7] (fun s7 wx => ∃ (n i : Int), s7 = .int .i64 n ∧ -1 ≤ n ∧ n ≤ 100000000 ∧ i ≤ 30 ∧ Src wx g i ∧ Below w.heap.size w wx)
      case first =>
        go_wp2_with (first | ((go_at_call 39; refine (pick_c _ _ _ _ (by assumption) (by omega) (by omega)).mono ?_; rintro e w' ⟨x, i', rfl, x0, x1, -, j0, j1, hs, hg⟩; have hb := below_only hb hg hb.size hg0; clear hg)) | ((go_at_call 40; refine (one_c _ _ _ _ (by assumption) (by omega) (by omega)).mono ?_; rintro e w' ⟨b, i', rfl, j0, j1, hs, hg⟩; have hb := below_only hb hg hb.size hg0; clear hg)) | ((go_at_call 41; refine (amongLit_c g _ 4 4 [0, 1, 2000, 2001] _ hs (by omega) rfl (by omega) (by omega)).mono ?_; rintro e w' ⟨x, i', rfl, xm, j0, j1, hs, hg⟩; have hb := below_only (hb.alloc hb.size _) hg (by simp; have := hb.size; omega) hg0; clear hg; simp at xm)))
        all_goals
          go_meet
          exact ⟨_, _, rfl, by omega, by omega, by omega, hs, hb⟩
      case rest =>
        clear hs hb
        obtain ⟨n, i, rfl, n0, n1, i1, hs, hb⟩ := hcut
        go_wp2_with (first | ((go_at_call 39; refine (pick_c _ _ _ _ (by assumption) (by omega) (by omega)).mono ?_; rintro e w' ⟨x, i', rfl, x0, x1, -, j0, j1, hs, hg⟩; have hb := below_only hb hg hb.size hg0; clear hg)) | ((go_at_call 40; refine (one_c _ _ _ _ (by assumption) (by omega) (by omega)).mono ?_; rintro e w' ⟨b, i', rfl, j0, j1, hs, hg⟩; have hb := below_only hb hg hb.size hg0; clear hg)))
        go_ret3
        exact ⟨_, _, _, rfl, hb⟩
end Go.Proofs.Ytacnijnilopckaa
