/- The drawing of a dial. -/
import Derived.Test.YtplnohfjeilodaaValid
import Derived.Test.YtplnohfjeilodaaRound
import Derived.Test.YtplnohfjeilodaaLast
import Derived.Test.YtplnohfjeilodaaOwn
import Derived.Deep.AppendLies
import Derived.ChangeShapes
import Derived.WideShapes
namespace Go.Proofs.Ytplnohfjeilodaa
open Go.RowKit
set_option linter.unusedVariables false
set_option maxRecDepth 100000
def mark (r n : Int) (k : Nat) : Shp := ⟨1, spotX (r * 9 / 10) k n, spotY (r * 9 / 10) k n, spotX r k n, spotY r k n, 0, ⟨#[]⟩⟩
def dialS (r n : Int) (k : Nat) : List Shp := ⟨2, 0, 0, 0, 0, r, ⟨#[]⟩⟩ :: (List.range k).map (mark r n)
theorem dialS_len (r n : Int) (k : Nat) : (dialS r n k).length = k + 1 := by simp [dialS]
theorem dialS_snoc (r n : Int) (k : Nat) : shpsV (dialS r n (k + 1)) = shpsV (dialS r n k) ++ (mark r n k).arr.toList := by
  unfold dialS
  rw [List.range_succ, List.map_append, ← List.cons_append]
  exact shpsV_snoc _ _
theorem news_at (w : World) (t : TypeId) (cs : Array Value) : ∀ j u, cs.toList[j]? = some u → (w.alloc (.cells cs t)).cell? ((⟨w.heap.size, 0, none⟩ : Addr).add j) = some u := by
  intro j u hu
  rw [Go.WideShapes.add_plain, Nat.zero_add, (Blk.new w t cs).cell j]
  simpa using hu
theorem shp_one (s : Shp) : ∀ u ∈ s.arr.toList, u.oneCell' = true := by
  intro u hu
  simp only [List.mem_cons, List.not_mem_nil, or_false] at hu
  rcases hu with rfl | rfl | rfl | rfl | rfl | rfl | rfl <;> rfl
def NewDrw2 (xs : List Shp) (code : Int) (w : World) (e : Ending) (w' : World) : Prop :=
  ∃ A c, e = .returned (.tuple #[drwV A xs.length c, .int .i64 code]) ∧ w'.ownsRow w.heap.size 80 7 (.slice A xs.length c) xs.length (shpsV xs) ∧ Below w.heap.size w w'
theorem line_d (a b c d : Int) (w : World) : Calls Try.prog 57 #[spotV a b, spotV c d] w fun e w' => e = .returned (.agg #[.int .i64 1, .int .i64 a, .int .i64 b, .int .i64 c, .int .i64 d, .int .i64 0, .string ⟨#[]⟩]) ∧ Below w.heap.size w w' :=
  (line_c a b c d w).mono fun _ _ ⟨h, h2⟩ => ⟨h, by rw [← h2]; exact (((Below.refl _ _).alloc (Nat.le_refl _) _).alloc (by simp) _).alloc (by simp; omega) _⟩
set_option maxHeartbeats 4000000 in
theorem sDialDrawing_t (r : Int) (n : Nat) (w : World) (r0 : 10 ≤ r) (r1 : r ≤ 100000) (n0 : 1 ≤ n) (n1 : n ≤ 240) :
    Calls Try.prog 19 #[.int .i64 r, .int .i64 n] w (NewDrw2 (dialS r n n) 0 w) := by
  obtain ⟨i0, hi, hz0, hz1, hz2⟩ := info_parts shp_info
  go_enter Try.func19, Try.ntmps19
  go_wp2_with (first | (go_at_call 53; refine (l00In_t _ _ _ _ (by omega) (by omega)).mono ?_; rintro e w' ⟨rfl, rfl⟩))
  go_loopw [7] (fun i wr => ∃ (k : Nat) (A : Option Addr) (c : Nat), k ≤ n ∧ i = .int .i64 k ∧ Blk wr (w.heap.size + 2) 29 #[.slice A (k + 1) c] ∧ Blk wr w.heap.size 29 #[.slice none 0 0] ∧
    wr.ownsRow w.heap.size 80 7 (.slice A (k + 1) c) (k + 1) (shpsV (dialS r n k)) ∧ Below w.heap.size w wr) (fun i _ => n - (intOf i).toNat)
  case atStart =>
    refine ⟨0, some ⟨w.heap.size + 1, 0, none⟩, 1, by omega, rfl, ?_, ?_, ?_, ?_⟩
    · exact Blk.new_at _ _ _ _ (by simp)
    · exact (((Blk.new w _ _).alloc _).alloc _)
    · exact (own_new (w.alloc (.cells #[.slice none 0 0] 29)) 80 (Shp.arr ⟨2, 0, 0, 0, 0, r, ⟨#[]⟩⟩) (w.heap.size + 1) w.heap.size 1 7 (by simp) (by omega) rfl (by unfold maxLen; omega)).alloc _
    · (repeat (first | exact Below.refl _ _ | assumption | refine Below.drew ?_ | refine below_drewN ?_ _ | refine Below.setCell ?_ (by first | omega | (simp; done) | (simp; omega)) _ | refine Below.alloc ?_ (by first | omega | (simp; done) | (simp; omega)) _))
  case round =>
    obtain ⟨k, A, c, hk, rfl, hbx, hrs, hown, hb⟩ := hrel
    by_cases hlt : k < n
    · have hS : wr.drew.cell? ⟨w.heap.size + 2, 0, none⟩ = some (.slice A (k + 1) c) := hbx.cell 0
      have HBX := Lib.hid hbx
      have HRS := Lib.hid hrs
      have HO := Lib.hid hown
      have HB := Lib.hid hb
      clear hbx hrs hown hb
      have e1 : IntKind.i64.wrap (r * 9) = r * 9 := IntWalk.i64_in _ ⟨by omega, by omega⟩
      have e2 : (r * 9).tdiv 10 = r * 9 / 10 := td_nn (by omega)
      have e3 : IntKind.i64.wrap (r * 9 / 10) = r * 9 / 10 := IntWalk.i64_in _ ⟨by omega, by omega⟩
      go_wp2
      refine wp_region_L (fun w' => w'.cell? ⟨w.heap.size + 2, 0, none⟩ = some (.slice A (k + 1) c)) 16 (by kernel_rfl) ?_
      refine wpAnyL_take (i := 0) (v := ?v1_0) rfl (by kernel_rfl) (by kernel_rfl) (by kernel_rfl) (by kernel_rfl) (fun _ _ _ h => h) (by rfl) (fun w' hS' => ?y1_0) hS ?r1_0
      case y1_0 =>
        first | (go_simp; done) | (go_simp; with_reducible rfl)
      refine wpAnyL_take (i := 1) (v := ?v1_1) rfl (by kernel_rfl) (by kernel_rfl) (by kernel_rfl) (by kernel_rfl) (fun _ _ _ h => h) (by rfl) (fun w' hS' => ?y1_1) hS ?r1_1
      case y1_1 =>
        first | (go_simp; done) | (go_simp; with_reducible rfl)
      refine wpAnyL_take (i := 2) (v := ?v1_2) rfl (by kernel_rfl) (by kernel_rfl) (by kernel_rfl) (by kernel_rfl) (fun _ _ _ h => h) (by rfl) (fun w' hS' => ?y1_2) hS ?r1_2
      case y1_2 =>
        first | (go_simp; done) | (go_simp; with_reducible rfl)
      refine wpAnyL_take (i := 3) (v := ?v1_3) rfl (by kernel_rfl) (by kernel_rfl) (by kernel_rfl) (by kernel_rfl) (fun _ _ _ h => h) (by rfl) (fun w' hS' => ?y1_3) hS ?r1_3
      case y1_3 =>
        first | (go_simp; done) | (go_simp; with_reducible rfl)
      refine wpAnyL_take (i := 4) (v := ?v1_4) rfl (by kernel_rfl) (by kernel_rfl) (by kernel_rfl) (by kernel_rfl) (fun _ _ _ h => h) (by rfl) (fun w' hS' => ?y1_4) hS ?r1_4
      case y1_4 =>
        first | (go_simp; done) | (go_simp; with_reducible rfl)
      refine wpAnyL_take (i := 5) (v := ?v1_5) rfl (by kernel_rfl) (by kernel_rfl) (by kernel_rfl) (by kernel_rfl) (fun _ _ _ h => h) (by rfl) (fun w' hS' => ?y1_5) hS ?r1_5
      case y1_5 =>
        first | (go_simp; done) | (go_simp; with_reducible rfl)
      refine wpAnyL_take (i := 6) (v := ?v1_6) rfl (by kernel_rfl) (by kernel_rfl) (by kernel_rfl) (by kernel_rfl) (fun _ _ _ h => h) (by rfl) (fun w' hS' => ?y1_6) hS ?r1_6
      case y1_6 =>
        first | (go_simp; done) | (go_simp; with_reducible rfl)
      refine wpAnyL_take (i := 8) (v := ?v1_8) rfl (by kernel_rfl) (by kernel_rfl) (by kernel_rfl) (by kernel_rfl) (fun _ _ _ h => h) (by rfl) (fun w' hS' => ?y1_8) hS ?r1_8
      case y1_8 =>
        first | (go_simp; done) | (go_simp; with_reducible rfl)
      refine wpAnyL_take (i := 9) (v := ?v1_9) rfl (by kernel_rfl) (by kernel_rfl) (by kernel_rfl) (by kernel_rfl) (fun _ _ _ h => h) (by rfl) (fun w' hS' => ?y1_9) hS ?r1_9
      case y1_9 =>
        first | (go_simp; done) | (go_simp; with_reducible rfl)
      refine wpAnyL_take (i := 10) (v := ?v1_10) rfl (by kernel_rfl) (by kernel_rfl) (by kernel_rfl) (by kernel_rfl) (fun _ _ _ h => h) (by rfl) (fun w' hS' => ?y1_10) hS ?r1_10
      case y1_10 =>
        first | (go_simp; done) | (go_simp; with_reducible rfl)
      refine wpAnyL_one (i := 7) (by kernel_rfl) rfl (fun K hK => ?_)
      go_simp
      refine (l25Round_c _ _ _ _ (by omega) (by omega) (by omega) (by omega) (by omega) (by omega)).mono ?_
      rintro e w1 ⟨rfl, hb1⟩
      refine hK _ _ (kc hb1 hS) (fun hS => ?_)
      clear hK K
      refine wpAnyL_one (i := 11) (by kernel_rfl) rfl (fun K hK => ?_)
      go_simp
      refine (l25Round_c _ _ _ _ (by omega) (by omega) (by omega) (by omega) (by omega) (by omega)).mono ?_
      rintro e w2 ⟨rfl, hb2⟩
      refine hK _ _ (kc hb2 hS) (fun hS => ?_)
      clear hK K
      refine wpAnyL_take (i := 12) (v := ?v1_12) rfl (by kernel_rfl) (by kernel_rfl) (by kernel_rfl) (by kernel_rfl) (fun _ _ _ h => h) (by rfl) (fun w' hS' => ?y1_12) hS ?r1_12
      case y1_12 =>
        first | (go_simp; done) | (go_simp; with_reducible rfl)
      refine wpAnyL_one (i := 13) (by kernel_rfl) rfl (fun K hK => ?_)
      go_simp
      refine hK _ _ (ka hS) (fun hS => ?_)
      clear hK K
      refine wpAnyL_one (i := 14) (by kernel_rfl) rfl (fun K hK => ?_)
      have hown2 := (own_below (own_below HO.out.drew hb1) hb2).alloc (.cells (mark r n k).arr 80)
      have hbx2 := (((HBX.out.drewN 1).below hb1 HBX.out.lt).below hb2 ((HBX.out.drewN 1).below hb1 HBX.out.lt).lt).alloc (.cells (mark r n k).arr 80)
      have hrs2 := (((HRS.out.drewN 1).below hb1 HRS.out.lt).below hb2 ((HRS.out.drewN 1).below hb1 HRS.out.lt).lt).alloc (.cells (mark r n k).arr 80)
      have hbb2 := bthen (bthen HB.out.drew hb1) hb2
      refine step_append_lies _ (by rfl) (.tmp 27) (.tmp 39) 27 (by rfl) w.heap.size 80 i0 _ 7 64 Try.underlying27 hi hz0 hz1 hz2 rfl (by omega) (.slice A (k + 1) c) (k + 1) (shpsV (dialS r n k)) (by rfl) hown2 ⟨w2.heap.size, 0, none⟩ 1 1 (mark r n k).arr.toList (by rfl) rfl (news_at _ _ _) (shp_one _) (by omega) (by unfold maxLen; omega) (by omega) (by have := hbb2.size; simp; omega) (w2.heap.size + 1) (by simp) ?_
      intro g cap w3 hown3 hgrow hat hlt3
      have hbx3 := blk_grown hbx2 hgrow (own_ne_blk hown2 hbx2 (by decide))
      have hrs3 := blk_grown hrs2 hgrow (own_ne_blk hown2 hrs2 (by decide))
      have hbb3 := below_own (hbb2.alloc hbb2.size (.cells (mark r n k).arr 80)) hown2 hgrow (Nat.le_refl _) (by have := hbb2.size; simp; omega)
      refine hK _ _ (hbx3.cell 0) (fun hS => ?_)
      clear hK K
      have HO3 := Lib.hid hown3
      have HBX3 := Lib.hid hbx3
      have HRS3 := Lib.hid hrs3
      have HBB3 := Lib.hid hbb3
      have hf3 := hbx3.frozen 0
      have hl3 : w.heap.size + 2 < w3.heap.size := hbx3.lt
      clear hown2 hbx2 hrs2 hbb2 hown3 hgrow hat hlt3 hbx3 hrs3 hbb3 hb1 hb2
      refine wpAnyL_take (i := 15) (v := ?v1_15) rfl (by kernel_rfl) (by kernel_rfl) (by kernel_rfl) (by kernel_rfl) (fun _ _ _ h => h) (by rfl) (fun w' hS' => ?y1_15) hS ?r1_15
      case y1_15 =>
        first | (go_simp; done) | (go_simp; with_reducible rfl)
      refine wpAnyL_last (by kernel_rfl) rfl (fun K hK => ?_)
      go_simp
      refine hK _ _ ?_
      clear hK K
      refine wpAnyL_done (by kernel_rfl) ?_
      go_wp2
      go_roundw
      case rel =>
        have hset := HBX3.out.set_ 0 (.slice (some ⟨g, 0, none⟩) (k + 1 + 1) cap)
        refine ⟨k + 1, some ⟨g, 0, none⟩, cap, by omega, by go_num, hset, HRS3.out.far (by show w.heap.size ≠ w.heap.size + 2; omega) _, ?_, HBB3.out.setCell (by show w.heap.size ≤ w.heap.size + 2; omega) _⟩
        rw [dialS_snoc]
        exact own_set HO3.out HBX3.out (by decide) _
      case measure => simp [intOf]; omega
    · have hkn : k = n := by omega
      subst hkn
      have hc6 := hbx.cell 0
      have hf6 := hbx.frozen 0
      have hc4 := hrs.cell 0
      have hf4 := hrs.frozen 0
      have hres : (wr.setCell ⟨w.heap.size, 0, none⟩ (.slice A (k + 1) c)).cell? ⟨w.heap.size, 0, none⟩ = some (.slice A (k + 1) c) := (hrs.set_ 0 (.slice A (k + 1) c)).cell 0
      have hz := hrs.lt
      have hz6 := hbx.lt
      simp at hc6 hc4
      have HO := Lib.hid hown
      have HB := Lib.hid hb
      have HRS := Lib.hid hrs
      clear hown hb hbx hrs
      go_wp2
      refine bodyPost_ret (v := .tuple #[drwV A (k + 1) c, .int .i64 0]) (by simp [results, Try.results19, go_sem, hres]) rfl ?_
      unfold NewDrw2
      rw [dialS_len]
      exact ⟨A, c, rfl, own_set HO.out HRS.out (by decide) _, HB.out.setCell (Nat.le_refl _) _⟩
set_option maxHeartbeats 4000000 in
theorem DialDrawing_t (r : Int) (n : Nat) (w : World) (r0 : 10 ≤ r) (r1 : r ≤ 100000) (n0 : 1 ≤ n) (n1 : n ≤ 240) :
    Calls Try.prog 20 #[.int .i64 r, .int .i64 n] w (NewDrw2 (dialS r n n) 0 w) := by
  obtain ⟨i0, hi, hz0, hz1, hz2⟩ := info_parts shp_info
  go_enter Try.func20, Try.ntmps20
  go_wp2_with (first | (go_at_call 55; refine (within_t _ _ _ _ (by omega) (by omega)).mono ?_; rintro e w' ⟨rfl, rfl⟩) | (go_at_call 56; refine (circle_c _ _ _ _).mono ?_; rintro e w' ⟨rfl, rfl⟩))
  go_loopw [7] (fun i wr => ∃ (k : Nat) (A : Option Addr) (c : Nat), k ≤ n ∧ i = .int .i64 k ∧ Blk wr (w.heap.size + 4) 29 #[.slice A (k + 1) c] ∧ Blk wr w.heap.size 29 #[.slice none 0 0] ∧
    wr.ownsRow w.heap.size 80 7 (.slice A (k + 1) c) (k + 1) (shpsV (dialS r n k)) ∧ Below w.heap.size w wr) (fun i _ => n - (intOf i).toNat)
  case atStart =>
    refine ⟨0, some ⟨w.heap.size + 3, 0, none⟩, 1, by omega, rfl, ?_, ?_, ?_, ?_⟩
    · exact Blk.new_at _ _ _ _ (by simp)
    · exact (((((Blk.new w _ _).alloc _).alloc _).alloc _).alloc _)
    · exact (own_new (((w.alloc (.cells #[.slice none 0 0] 29)).alloc (.cells #[.int .i64 0, .int .i64 0] 39)).alloc (.cells (Shp.arr ⟨2, 0, 0, 0, 0, r, ⟨#[]⟩⟩) 80)) 80 (Shp.arr ⟨2, 0, 0, 0, 0, r, ⟨#[]⟩⟩) (w.heap.size + 3) w.heap.size 1 7 (by simp) (by omega) rfl (by unfold maxLen; omega)).alloc _
    · (repeat (first | exact Below.refl _ _ | assumption | refine Below.drew ?_ | refine below_drewN ?_ _ | refine Below.setCell ?_ (by first | omega | (simp; done) | (simp; omega)) _ | refine Below.alloc ?_ (by first | omega | (simp; done) | (simp; omega)) _))
  case round =>
    obtain ⟨k, A, c, hk, rfl, hbx, hrs, hown, hb⟩ := hrel
    by_cases hlt : k < n
    · have hS : wr.drew.cell? ⟨w.heap.size + 4, 0, none⟩ = some (.slice A (k + 1) c) := hbx.cell 0
      have HBX := Lib.hid hbx
      have HRS := Lib.hid hrs
      have HO := Lib.hid hown
      have HB := Lib.hid hb
      clear hbx hrs hown hb
      have e1 : IntKind.i64.wrap (r * 9) = r * 9 := IntWalk.i64_in _ ⟨by omega, by omega⟩
      have e2 : (r * 9).tdiv 10 = r * 9 / 10 := td_nn (by omega)
      have e3 : IntKind.i64.wrap (r * 9 / 10) = r * 9 / 10 := IntWalk.i64_in _ ⟨by omega, by omega⟩
      go_wp2
      refine wp_region_L (fun w' => w'.cell? ⟨w.heap.size + 4, 0, none⟩ = some (.slice A (k + 1) c)) 16 (by kernel_rfl) ?_
      refine wpAnyL_take (i := 0) (v := ?v2_0) rfl (by kernel_rfl) (by kernel_rfl) (by kernel_rfl) (by kernel_rfl) (fun _ _ _ h => h) (by rfl) (fun w' hS' => ?y2_0) hS ?r2_0
      case y2_0 =>
        first | (go_simp; done) | (go_simp; with_reducible rfl)
      refine wpAnyL_take (i := 1) (v := ?v2_1) rfl (by kernel_rfl) (by kernel_rfl) (by kernel_rfl) (by kernel_rfl) (fun _ _ _ h => h) (by rfl) (fun w' hS' => ?y2_1) hS ?r2_1
      case y2_1 =>
        first | (go_simp; done) | (go_simp; with_reducible rfl)
      refine wpAnyL_take (i := 2) (v := ?v2_2) rfl (by kernel_rfl) (by kernel_rfl) (by kernel_rfl) (by kernel_rfl) (fun _ _ _ h => h) (by rfl) (fun w' hS' => ?y2_2) hS ?r2_2
      case y2_2 =>
        first | (go_simp; done) | (go_simp; with_reducible rfl)
      refine wpAnyL_take (i := 3) (v := ?v2_3) rfl (by kernel_rfl) (by kernel_rfl) (by kernel_rfl) (by kernel_rfl) (fun _ _ _ h => h) (by rfl) (fun w' hS' => ?y2_3) hS ?r2_3
      case y2_3 =>
        first | (go_simp; done) | (go_simp; with_reducible rfl)
      refine wpAnyL_take (i := 4) (v := ?v2_4) rfl (by kernel_rfl) (by kernel_rfl) (by kernel_rfl) (by kernel_rfl) (fun _ _ _ h => h) (by rfl) (fun w' hS' => ?y2_4) hS ?r2_4
      case y2_4 =>
        first | (go_simp; done) | (go_simp; with_reducible rfl)
      refine wpAnyL_take (i := 5) (v := ?v2_5) rfl (by kernel_rfl) (by kernel_rfl) (by kernel_rfl) (by kernel_rfl) (fun _ _ _ h => h) (by rfl) (fun w' hS' => ?y2_5) hS ?r2_5
      case y2_5 =>
        first | (go_simp; done) | (go_simp; with_reducible rfl)
      refine wpAnyL_take (i := 6) (v := ?v2_6) rfl (by kernel_rfl) (by kernel_rfl) (by kernel_rfl) (by kernel_rfl) (fun _ _ _ h => h) (by rfl) (fun w' hS' => ?y2_6) hS ?r2_6
      case y2_6 =>
        first | (go_simp; done) | (go_simp; with_reducible rfl)
      refine wpAnyL_take (i := 8) (v := ?v2_8) rfl (by kernel_rfl) (by kernel_rfl) (by kernel_rfl) (by kernel_rfl) (fun _ _ _ h => h) (by rfl) (fun w' hS' => ?y2_8) hS ?r2_8
      case y2_8 =>
        first | (go_simp; done) | (go_simp; with_reducible rfl)
      refine wpAnyL_take (i := 9) (v := ?v2_9) rfl (by kernel_rfl) (by kernel_rfl) (by kernel_rfl) (by kernel_rfl) (fun _ _ _ h => h) (by rfl) (fun w' hS' => ?y2_9) hS ?r2_9
      case y2_9 =>
        first | (go_simp; done) | (go_simp; with_reducible rfl)
      refine wpAnyL_take (i := 10) (v := ?v2_10) rfl (by kernel_rfl) (by kernel_rfl) (by kernel_rfl) (by kernel_rfl) (fun _ _ _ h => h) (by rfl) (fun w' hS' => ?y2_10) hS ?r2_10
      case y2_10 =>
        first | (go_simp; done) | (go_simp; with_reducible rfl)
      refine wpAnyL_one (i := 7) (by kernel_rfl) rfl (fun K hK => ?_)
      go_simp
      refine (roundSpot_c _ _ _ _ (by omega) (by omega) (by omega) (by omega) (by omega) (by omega)).mono ?_
      rintro e w1 ⟨rfl, hb1⟩
      refine hK _ _ (kc hb1 hS) (fun hS => ?_)
      clear hK K
      refine wpAnyL_one (i := 11) (by kernel_rfl) rfl (fun K hK => ?_)
      go_simp
      refine (roundSpot_c _ _ _ _ (by omega) (by omega) (by omega) (by omega) (by omega) (by omega)).mono ?_
      rintro e w2a ⟨rfl, hb2⟩
      refine hK _ _ (kc hb2 hS) (fun hS => ?_)
      clear hK K
      refine wpAnyL_one (i := 12) (by kernel_rfl) rfl (fun K hK => ?_)
      go_simp
      refine (line_d _ _ _ _ _).mono ?_
      rintro e w2 ⟨rfl, hb2b⟩
      refine hK _ _ (kc hb2b hS) (fun hS => ?_)
      clear hK K
      refine wpAnyL_one (i := 13) (by kernel_rfl) rfl (fun K hK => ?_)
      go_simp
      refine hK _ _ (ka hS) (fun hS => ?_)
      clear hK K
      refine wpAnyL_one (i := 14) (by kernel_rfl) rfl (fun K hK => ?_)
      have hown2 := (own_below (own_below (own_below HO.out.drew hb1) hb2) hb2b).alloc (.cells (mark r n k).arr 80)
      have hbx2 := ((((HBX.out.drewN 1).below hb1 HBX.out.lt).below hb2 ((HBX.out.drewN 1).below hb1 HBX.out.lt).lt).below hb2b (((HBX.out.drewN 1).below hb1 HBX.out.lt).below hb2 ((HBX.out.drewN 1).below hb1 HBX.out.lt).lt).lt).alloc (.cells (mark r n k).arr 80)
      have hrs2 := ((((HRS.out.drewN 1).below hb1 HRS.out.lt).below hb2 ((HRS.out.drewN 1).below hb1 HRS.out.lt).lt).below hb2b (((HRS.out.drewN 1).below hb1 HRS.out.lt).below hb2 ((HRS.out.drewN 1).below hb1 HRS.out.lt).lt).lt).alloc (.cells (mark r n k).arr 80)
      have hbb2 := bthen (bthen (bthen HB.out.drew hb1) hb2) hb2b
      refine step_append_lies _ (by rfl) (.tmp 28) (.tmp 40) 27 (by rfl) w.heap.size 80 i0 _ 7 64 Try.underlying27 hi hz0 hz1 hz2 rfl (by omega) (.slice A (k + 1) c) (k + 1) (shpsV (dialS r n k)) (by rfl) hown2 ⟨w2.heap.size, 0, none⟩ 1 1 (mark r n k).arr.toList (by rfl) rfl (news_at _ _ _) (shp_one _) (by omega) (by unfold maxLen; omega) (by omega) (by have := hbb2.size; simp; omega) (w2.heap.size + 1) (by simp) ?_
      intro g cap w3 hown3 hgrow hat hlt3
      have hbx3 := blk_grown hbx2 hgrow (own_ne_blk hown2 hbx2 (by decide))
      have hrs3 := blk_grown hrs2 hgrow (own_ne_blk hown2 hrs2 (by decide))
      have hbb3 := below_own (hbb2.alloc hbb2.size (.cells (mark r n k).arr 80)) hown2 hgrow (Nat.le_refl _) (by have := hbb2.size; simp; omega)
      refine hK _ _ (hbx3.cell 0) (fun hS => ?_)
      clear hK K
      have HO3 := Lib.hid hown3
      have HBX3 := Lib.hid hbx3
      have HRS3 := Lib.hid hrs3
      have HBB3 := Lib.hid hbb3
      have hf3 := hbx3.frozen 0
      have hl3 : w.heap.size + 4 < w3.heap.size := hbx3.lt
      clear hown2 hbx2 hrs2 hbb2 hown3 hgrow hat hlt3 hbx3 hrs3 hbb3 hb1 hb2 hb2b
      refine wpAnyL_take (i := 15) (v := ?v2_15) rfl (by kernel_rfl) (by kernel_rfl) (by kernel_rfl) (by kernel_rfl) (fun _ _ _ h => h) (by rfl) (fun w' hS' => ?y2_15) hS ?r2_15
      case y2_15 =>
        first | (go_simp; done) | (go_simp; with_reducible rfl)
      refine wpAnyL_last (by kernel_rfl) rfl (fun K hK => ?_)
      go_simp
      refine hK _ _ ?_
      clear hK K
      refine wpAnyL_done (by kernel_rfl) ?_
      go_wp2
      go_roundw
      case rel =>
        have hset := HBX3.out.set_ 0 (.slice (some ⟨g, 0, none⟩) (k + 1 + 1) cap)
        refine ⟨k + 1, some ⟨g, 0, none⟩, cap, by omega, by go_num, hset, HRS3.out.far (by show w.heap.size ≠ w.heap.size + 4; omega) _, ?_, HBB3.out.setCell (by show w.heap.size ≤ w.heap.size + 4; omega) _⟩
        rw [dialS_snoc]
        exact own_set HO3.out HBX3.out (by decide) _
      case measure => simp [intOf]; omega
    · have hkn : k = n := by omega
      subst hkn
      have hc6 := hbx.cell 0
      have hf6 := hbx.frozen 0
      have hc4 := hrs.cell 0
      have hf4 := hrs.frozen 0
      have hres : (wr.setCell ⟨w.heap.size, 0, none⟩ (.slice A (k + 1) c)).cell? ⟨w.heap.size, 0, none⟩ = some (.slice A (k + 1) c) := (hrs.set_ 0 (.slice A (k + 1) c)).cell 0
      have hz := hrs.lt
      have hz6 := hbx.lt
      simp at hc6 hc4
      have HO := Lib.hid hown
      have HB := Lib.hid hb
      have HRS := Lib.hid hrs
      clear hown hb hbx hrs
      go_wp2
      refine bodyPost_ret (v := .tuple #[drwV A (k + 1) c, .int .i64 0]) (by simp [results, Try.results20, go_sem, hres]) rfl ?_
      unfold NewDrw2
      rw [dialS_len]
      exact ⟨A, c, rfl, own_set HO.out HRS.out (by decide) _, HB.out.setCell (Nat.le_refl _) _⟩
def NoDrw2 (code : Int) (w : World) (e : Ending) (w' : World) : Prop := e = .returned (.tuple #[drwV none 0 0, .int .i64 code]) ∧ Below w.heap.size w w'
set_option maxHeartbeats 1000000 in
theorem sDialDrawing_f (r n : Int) (w : World) (h : ¬ ((10 ≤ r ∧ r ≤ 100000) ∧ 1 ≤ n ∧ n ≤ 240)) :
    Calls Try.prog 19 #[.int .i64 r, .int .i64 n] w (NoDrw2 2 w) := by
  by_cases c1 : 10 ≤ r ∧ r ≤ 100000
  · obtain ⟨r0, r1⟩ := c1
    have c2 : n < 1 ∨ 240 < n := by omega
    clear h
    go_enter Try.func19, Try.ntmps19
    go_wp2_with (first | (go_at_call 53; refine (l00In_t _ _ _ _ (by omega) (by omega)).mono ?_; rintro e w' ⟨rfl, rfl⟩) | (go_at_call 53; refine (l00In_f _ _ _ _ (by omega)).mono ?_; rintro e w' ⟨rfl, rfl⟩))
    exact bodyPost_ret (v := .tuple #[drwV none 0 0, .int .i64 2]) (by simp [results, Try.results19, go_sem]) rfl ⟨rfl, (Below.refl _ _).alloc (Nat.le_refl _) _⟩
  · have c2 : r < 10 ∨ 100000 < r := by omega
    clear h c1
    go_enter Try.func19, Try.ntmps19
    go_wp2_with (first | (go_at_call 53; refine (l00In_t _ _ _ _ (by omega) (by omega)).mono ?_; rintro e w' ⟨rfl, rfl⟩) | (go_at_call 53; refine (l00In_f _ _ _ _ (by omega)).mono ?_; rintro e w' ⟨rfl, rfl⟩))
    exact bodyPost_ret (v := .tuple #[drwV none 0 0, .int .i64 2]) (by simp [results, Try.results19, go_sem]) rfl ⟨rfl, (Below.refl _ _).alloc (Nat.le_refl _) _⟩
set_option maxHeartbeats 1000000 in
theorem DialDrawing_f (r n : Int) (w : World) (h : ¬ ((10 ≤ r ∧ r ≤ 100000) ∧ 1 ≤ n ∧ n ≤ 240)) :
    Calls Try.prog 20 #[.int .i64 r, .int .i64 n] w (NoDrw2 2 w) := by
  by_cases c1 : 10 ≤ r ∧ r ≤ 100000
  · obtain ⟨r0, r1⟩ := c1
    have c2 : n < 1 ∨ 240 < n := by omega
    clear h
    go_enter Try.func20, Try.ntmps20
    go_wp2_with (first | (go_at_call 55; refine (within_t _ _ _ _ (by omega) (by omega)).mono ?_; rintro e w' ⟨rfl, rfl⟩) | (go_at_call 55; refine (within_f _ _ _ _ (by omega)).mono ?_; rintro e w' ⟨rfl, rfl⟩))
    exact bodyPost_ret (v := .tuple #[drwV none 0 0, .int .i64 2]) (by simp [results, Try.results20, go_sem]) rfl ⟨rfl, (Below.refl _ _).alloc (Nat.le_refl _) _⟩
  · have c2 : r < 10 ∨ 100000 < r := by omega
    clear h c1
    go_enter Try.func20, Try.ntmps20
    go_wp2_with (first | (go_at_call 55; refine (within_t _ _ _ _ (by omega) (by omega)).mono ?_; rintro e w' ⟨rfl, rfl⟩) | (go_at_call 55; refine (within_f _ _ _ _ (by omega)).mono ?_; rintro e w' ⟨rfl, rfl⟩))
    exact bodyPost_ret (v := .tuple #[drwV none 0 0, .int .i64 2]) (by simp [results, Try.results20, go_sem]) rfl ⟨rfl, (Below.refl _ _).alloc (Nat.le_refl _) _⟩
end Go.Proofs.Ytplnohfjeilodaa
