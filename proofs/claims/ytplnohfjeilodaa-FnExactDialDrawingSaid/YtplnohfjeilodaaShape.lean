/- Shapes in the laws: copying, comparing, measuring. -/
import Derived.Test.YtplnohfjeilodaaOpen
import Derived.Test.YtplnohfjeilodaaMem
import Derived.Test.YtplnohfjeilodaaEqSpot
namespace Go.Proofs.Ytplnohfjeilodaa
open Go.RowKit
set_option linter.unusedVariables false
set_option maxRecDepth 100000

structure Shp where
  K : Int
  AX : Int
  AY : Int
  BX : Int
  BY : Int
  R : Int
  N : ByteArray
abbrev Shp.arr (s : Shp) : Array Value := #[.int .i64 s.K, .int .i64 s.AX, .int .i64 s.AY, .int .i64 s.BX, .int .i64 s.BY, .int .i64 s.R, .string s.N]
abbrev Shp.val (s : Shp) : Value := .agg s.arr
set_option maxHeartbeats 400000 in
theorem toSpot_c (x y : Int) (w : World) :
    Calls Try.prog 36 #[spotV x y] w fun e w' => e = .returned (spotV x y) ∧ Below w.heap.size w w' := by
  go_enter Try.func36, Try.ntmps36
  go_wp2
  refine bodyPost_ret (v := spotV x y) (by simp [results, Try.results36, go_sem]) rfl ⟨rfl, ?_⟩
  (repeat (first | exact Below.refl _ _ | assumption | refine Below.drew ?_ | refine below_drewN ?_ _ | refine Below.setCell ?_ (by first | omega | (simp; done) | (simp; omega)) _ | refine Below.alloc ?_ (by first | omega | (simp; done) | (simp; omega)) _))
set_option maxHeartbeats 400000 in
theorem toShape_c (s : Shp) (w : World) :
    Calls Try.prog 96 #[s.val] w fun e w' => e = .returned s.val ∧ Below w.heap.size w w' := by
  obtain ⟨K, AX, AY, BX, BY, R, N⟩ := s
  go_enter Try.func96, Try.ntmps96
  go_wp2
  refine bodyPost_ret (v := spotV AX AY) (by simp [results, Try.results36, go_sem]) rfl ?_
  go_wp2
  refine bodyPost_ret (v := spotV BX BY) (by simp [results, Try.results36, go_sem]) rfl ?_
  go_wp2
  refine bodyPost_ret (v := Shp.val ⟨K, AX, AY, BX, BY, R, N⟩) (by simp [results, Try.results96, go_sem]) rfl ⟨rfl, ?_⟩
  (repeat (first | exact Below.refl _ _ | assumption | refine Below.drew ?_ | refine below_drewN ?_ _ | refine Below.setCell ?_ (by first | omega | (simp; done) | (simp; omega)) _ | refine Below.alloc ?_ (by first | omega | (simp; done) | (simp; omega)) _))
set_option maxHeartbeats 400000 in
theorem eqShape_t (s : Shp) (w : World) :
    Calls Try.prog 97 #[s.val, s.val] w fun e w' => e = .returned (.bool true) ∧ Below w.heap.size w w' := by
  obtain ⟨K, AX, AY, BX, BY, R, N⟩ := s
  go_enter Try.func97, Try.ntmps97
  go_wp2
  go_ret
  refine ⟨rfl, ?_⟩
  (repeat (first | exact Below.refl _ _ | assumption | refine Below.drew ?_ | refine below_drewN ?_ _ | refine Below.setCell ?_ (by first | omega | (simp; done) | (simp; omega)) _ | refine Below.alloc ?_ (by first | omega | (simp; done) | (simp; omega)) _))
set_option maxHeartbeats 400000 in
theorem szShape_c (s : Shp) (l : Int) (w : World) (h : s.N.size ≤ 9223372036854775807) (l0 : -1 ≤ l) (l1 : l ≤ 1048576) :
    Calls Try.prog 95 #[s.val, .int .i64 l] w fun e w' => e = .returned (.int .i64 (if l < s.N.size then -1 else l - s.N.size)) ∧ Below w.heap.size w w' := by
  obtain ⟨K, AX, AY, BX, BY, R, N⟩ := s
  simp only at h ⊢
  by_cases c : l < N.size
  · rw [if_pos c]
    have c' : l - N.size < 0 := by omega
    go_enter Try.func95, Try.ntmps95
    go_wp2
    go_ret
    refine ⟨rfl, ?_⟩
    (repeat (first | exact Below.refl _ _ | assumption | refine Below.drew ?_ | refine below_drewN ?_ _ | refine Below.setCell ?_ (by first | omega | (simp; done) | (simp; omega)) _ | refine Below.alloc ?_ (by first | omega | (simp; done) | (simp; omega)) _))
  · rw [if_neg c]
    have c' : ¬ l - N.size < 0 := by omega
    go_enter Try.func95, Try.ntmps95
    go_wp2
    go_ret
    refine ⟨rfl, ?_⟩
    (repeat (first | exact Below.refl _ _ | assumption | refine Below.drew ?_ | refine below_drewN ?_ _ | refine Below.setCell ?_ (by first | omega | (simp; done) | (simp; omega)) _ | refine Below.alloc ?_ (by first | omega | (simp; done) | (simp; omega)) _))
abbrev shpsV (xs : List Shp) : List Value := xs.flatMap fun s => s.arr.toList
theorem Row.shp {w : World} {A : Option Addr} {xs : List Shp} (h : Row w A (shpsV xs)) (k : Nat) (hk : k < xs.length) :
    ∃ b off, A = some ⟨b, off, none⟩ ∧ b < w.heap.size ∧ ∀ j, j < 7 → w.cell? ⟨b, off + k * 7 + j, none⟩ = xs[k].arr[j]? := by
  obtain ⟨b, off, hA, hb, hc⟩ := Row.elem (sz := 7) h (fun a => rfl) (by omega) (by omega)
  exact ⟨b, off, hA, hb, fun j hj => by rw [hc k hk j hj]; simp⟩
/-- how much of a budget is left behind shapes -/
def szS : List Shp → Int → Int
  | [], l => l
  | s :: r, l => if l < s.N.size then -1 else szS r (l - s.N.size)
def szAll (xs : List Shp) (l : Int) : Int := if l < xs.length then -1 else szS xs (l - xs.length)
set_option maxHeartbeats 400000 in
theorem szShapeS_c (A : Option Addr) (n c : Nat) (xs : List Shp) (l : Int) (w : World) (h : Row w A (shpsV xs)) (hn : xs.length = n) (h1 : n ≤ 9223372036854775807)
    (hs : ∀ s ∈ xs, s.N.size ≤ 9223372036854775807) (l0 : 0 ≤ l) (l1 : l ≤ 1048576) :
    Calls Try.prog 49 #[.slice A n c, .int .i64 l] w fun e w' => e = .returned (.int .i64 (szAll xs l)) ∧ Below w.heap.size w w' := by
  have H := Lib.hid h
  have HN := Lib.hid hn
  have HS := Lib.hid hs
  clear h hn hs
  by_cases c0 : l < n
  · have e : szAll xs l = -1 := by unfold szAll; rw [if_pos (by rw [HN.out]; exact c0)]
    rw [e]
    clear e
    have c1 : l - n < 0 := by omega
    go_enter Try.func49, Try.ntmps49
    go_wp2
    go_ret
    exact ⟨rfl, Below.refl _ _⟩
  · have e : szAll xs l = szS xs (l - n) := by unfold szAll; rw [if_neg (by rw [HN.out]; exact c0), HN.out]
    rw [e]
    clear e
    have c1 : ¬ l - n < 0 := by omega
    go_enter Try.func49, Try.ntmps49
    go_wp2
    go_loopw [1, 5] (fun s i wr => ∃ (k : Nat) (m : Int), k ≤ n ∧ i = .int .i64 k ∧ s = .int .i64 m ∧ 0 ≤ m ∧ m ≤ 1048576 ∧ szS xs (l - n) = szS (xs.drop k) m ∧ Below w.heap.size w wr) (fun _ i _ => n - (intOf i).toNat)
    case atStart => exact ⟨0, l - n, by omega, rfl, rfl, by omega, by omega, rfl, Below.refl _ _⟩
    case round =>
      obtain ⟨k, m, hk, rfl, rfl, m0, m1, he, hb⟩ := hrel
      have HE := Lib.hid he
      clear he
      by_cases hlt : k < n
      · have hk2 : k < xs.length := by rw [HN.out]; exact hlt
        obtain ⟨b, off, rfl, hbl, hc⟩ := (H.out.below hb).shp k hk2
        have hd := List.drop_eq_getElem_cons hk2
        have HD := Lib.hid hd
        have hsz := HS.out _ (List.getElem_mem hk2)
        generalize xs[k] = s at *
        obtain ⟨K, AX, AY, BX, BY, R, N⟩ := s
        have g0 := hc 0 (by omega)
        have g1 := hc 1 (by omega)
        have g2 := hc 2 (by omega)
        have g3 := hc 3 (by omega)
        have g4 := hc 4 (by omega)
        have g5 := hc 5 (by omega)
        have g6 := hc 6 (by omega)
        simp at g0 g1 g2 g3 g4 g5 g6
        clear hc hd
        have HB := Lib.hid hb
        clear hb
        by_cases cc : m < N.size
        · have e1 : szS (⟨K, AX, AY, BX, BY, R, N⟩ :: xs.drop (k + 1)) m = -1 := by unfold szS; rw [if_pos cc]
          have HF := Lib.hid (HE.out.trans ((congrArg (szS · m) HD.out).trans e1))
          have C := szShape_c ⟨K, AX, AY, BX, BY, R, N⟩ m wr hsz (by omega) m1
          rw [if_pos cc] at C
          have HC := Lib.hid C
          clear C e1
          go_wp2_with fail
          refine HC.out.mono ?_
          rintro e w1 ⟨rfl, hb1⟩
          have HB1 := Lib.hid hb1
          have hz := HB.out.size
          clear hb1
          go_wp2
          go_ret
          exact ⟨ret_int HF.out.symm, HB.out.trans (HB1.out.mono hz)⟩
        · have e1 : szS (⟨K, AX, AY, BX, BY, R, N⟩ :: xs.drop (k + 1)) m = szS (xs.drop (k + 1)) (m - N.size) := by
            conv => lhs; unfold szS
            rw [if_neg cc]
          have HF := Lib.hid (HE.out.trans ((congrArg (szS · m) HD.out).trans e1))
          have C := szShape_c ⟨K, AX, AY, BX, BY, R, N⟩ m wr hsz (by omega) m1
          rw [if_neg cc] at C
          have HC := Lib.hid C
          clear C e1
          go_wp2_with fail
          refine HC.out.mono ?_
          rintro e w1 ⟨rfl, hb1⟩
          have HB1 := Lib.hid hb1
          have hz := HB.out.size
          clear hb1
          go_wp2
          go_roundw
          case rel => exact ⟨k + 1, m - N.size, by omega, by go_num, rfl, by omega, by omega, HF.out, HB.out.trans (HB1.out.mono hz)⟩
          case measure => simp [intOf]; omega
      · have hkn : k = n := by omega
        have HB := Lib.hid hb
        clear hb
        have hf : szS (xs.drop k) m = m := by rw [List.drop_of_length_le (by rw [HN.out]; omega)]; rfl
        have HF := Lib.hid (HE.out.trans hf)
        clear hf hkn
        go_wp2
        go_ret
        exact ⟨ret_int HF.out.symm, HB.out⟩
/-- two shapes are equal -/
def shpB (s t : Shp) : Bool := s.K == t.K && (s.AX == t.AX && s.AY == t.AY) && (s.BX == t.BX && s.BY == t.BY) && s.R == t.R && s.N.toList == t.N.toList
theorem shpB_self (s : Shp) : shpB s s = true := by simp [shpB]
theorem shpB_eq {s t : Shp} (h : shpB s t = true) : s = t := by
  obtain ⟨K, AX, AY, BX, BY, R, N⟩ := s
  obtain ⟨K', AX', AY', BX', BY', R', N'⟩ := t
  simp only [shpB, Bool.and_eq_true, beq_iff_eq] at h
  obtain ⟨⟨⟨⟨h1, h2, h3⟩, h4, h5⟩, h6⟩, h7⟩ := h
  have : N = N' := by
    rw [ByteArray.toList_eq, ByteArray.toList_eq] at h7
    cases N; cases N'; simp at h7; simp [h7]
  simp [h1, h2, h3, h4, h5, h6, this]
set_option maxHeartbeats 400000 in
theorem run_neq_shp (K AX AY BX BY R K' AX' AY' BX' BY' R' : Int) (N N' : ByteArray) (w : World) :
   (binOp .neq 80 (.agg #[.int .i64 K, .int .i64 AX, .int .i64 AY, .int .i64 BX, .int .i64 BY, .int .i64 R, .string N]) (.agg #[.int .i64 K', .int .i64 AX', .int .i64 AY', .int .i64 BX', .int .i64 BY', .int .i64 R', .string N'])).run Try.prog w =
    .ok (.bool (!shpB ⟨K, AX, AY, BX, BY, R, N⟩ ⟨K', AX', AY', BX', BY', R', N'⟩)) w := by
  unfold shpB
  simp [go_sem]
  (repeat' split) <;> simp_all
set_option maxHeartbeats 400000 in
theorem run_eql_shp (K AX AY BX BY R K' AX' AY' BX' BY' R' : Int) (N N' : ByteArray) (w : World) :
   (binOp .eql 80 (.agg #[.int .i64 K, .int .i64 AX, .int .i64 AY, .int .i64 BX, .int .i64 BY, .int .i64 R, .string N]) (.agg #[.int .i64 K', .int .i64 AX', .int .i64 AY', .int .i64 BX', .int .i64 BY', .int .i64 R', .string N'])).run Try.prog w =
    .ok (.bool (shpB ⟨K, AX, AY, BX, BY, R, N⟩ ⟨K', AX', AY', BX', BY', R', N'⟩)) w := by
  unfold shpB
  simp [go_sem]
  (repeat' split) <;> simp_all
theorem run_make_rowN {P : Program} (t e : TypeId) (i : TypeInfo) (z : Value) (ht : P.underlying t = some (.slice e)) (hi : P.info? e = some i) (hz : i.zero = some z)
    (kl kc : IntKind) (n c : Nat) (hnc : n ≤ c) (hbytes : i.bytes * c ≤ 281474976710656) (h63 : c ≤ 9223372036854775807) (w : World) :
    (Instr.makeSlice t (.int kl (n : Int)) (.int kc (c : Int))).run P w = .ok (.slice (some ⟨w.heap.size, 0, none⟩) n c) (w.alloc (.cells (madeCells z.cells (c * i.size)) e)) := by
  have hb : (i.bytes : Int) * (c : Int) ≤ 281474976710656 := by
    have h : ((i.bytes * c : Nat) : Int) ≤ 281474976710656 := by omega
    rwa [Int.natCast_mul] at h
  have hr := run_make (P := P) w t e i z ht hi hz kl kc n c (by omega) (by omega) hb (by omega)
  simp only [Int.toNat_natCast] at hr
  exact hr
theorem shp_info : (Try.prog.info? 80).map (fun i => (i.zero, i.size, i.bytes)) = some (some (Shp.val ⟨0, 0, 0, 0, 0, 0, ⟨#[]⟩⟩), 7, 64) := by kernel_rfl
theorem shpsV_len (xs : List Shp) : (shpsV xs).length = xs.length * 7 := flat_len _ 7 (fun _ => rfl) xs
theorem shpsV_snoc (xs : List Shp) (s : Shp) : shpsV (xs ++ [s]) = shpsV xs ++ s.arr.toList := by simp [shpsV]
theorem shps_made (n : Nat) (hn : n ≤ 1048576) : ∃ Z : List Value, Z.length = n * 7 ∧ ∀ w : World,
    (Instr.makeSlice 27 (.int .i64 (n : Int)) (.int .i64 (n : Int))).run Try.prog w = .ok (.slice (some ⟨w.heap.size, 0, none⟩) n n) (w.alloc (.cells Z.toArray 80)) := by
  obtain ⟨i, hi, hz, h1, h2⟩ := info_parts shp_info
  refine ⟨(madeCells (Shp.val ⟨0, 0, 0, 0, 0, 0, ⟨#[]⟩⟩).cells (n * i.size)).toList, by simp [size_madeCells, h1], fun w => ?_⟩
  have := run_make_rowN (P := Try.prog) 27 80 i _ Try.underlying27 hi hz .i64 .i64 n n (Nat.le_refl _) (by rw [h2]; omega) (by omega) w
  simpa using this
/-- a new slice of shapes -/
def NewShps (xs : List Shp) (w : World) (e : Ending) (w' : World) : Prop :=
  ∃ A c, e = .returned (.slice A xs.length c) ∧ w'.ownsRow w.heap.size 80 7 (.slice A xs.length c) xs.length (shpsV xs) ∧ Below w.heap.size w w'
set_option maxHeartbeats 1000000 in
theorem toShapeS_c (A : Option Addr) (n c : Nat) (xs : List Shp) (w : World) (h : Row w A (shpsV xs)) (hn : xs.length = n) (h1 : n ≤ 1048576) :
    Calls Try.prog 50 #[.slice A n c] w (NewShps xs w) := by
  obtain ⟨Z, hZ, hmk⟩ := shps_made n h1
  have H := Lib.hid h
  have HN := Lib.hid hn
  have HZ := Lib.hid hZ
  clear h hn hZ
  go_enter Try.func50, Try.ntmps50
  go_wp2
  clear hmk
  have hstart : Below w.heap.size w (w.alloc (.cells Z.toArray 80)) := (Below.refl _ _).alloc (Nat.le_refl _) _
  have HS := Lib.hid hstart
  clear hstart
  go_loopw [4] (fun i wr => ∃ (k : Nat), k ≤ n ∧ i = .int .i64 k ∧ Below w.heap.size w wr ∧ Blk wr w.heap.size 80 (filled Z (shpsV (xs.take k)))) (fun i _ => n - (intOf i).toNat)
  case atStart => exact ⟨0, by omega, rfl, HS.out, by simpa [filled_none] using Blk.new w 80 Z.toArray⟩
  case round =>
    obtain ⟨k, hk, rfl, hb, hblk⟩ := hrel
    have HB := Lib.hid hb
    have HK := Lib.hid hblk
    by_cases hlt : k < n
    · have hk2 : k < xs.length := by rw [HN.out]; exact hlt
      obtain ⟨b, off, rfl, hbl, hc⟩ := (H.out.below hb).shp k hk2
      have htk := List.take_succ_eq_append_getElem hk2
      have HT := Lib.hid htk
      have hsz := hb.size
      generalize xs[k] = s at *
      obtain ⟨K, AX, AY, BX, BY, R, N⟩ := s
      have g0 := hc 0 (by omega)
      have g1 := hc 1 (by omega)
      have g2 := hc 2 (by omega)
      have g3 := hc 3 (by omega)
      have g4 := hc 4 (by omega)
      have g5 := hc 5 (by omega)
      have g6 := hc 6 (by omega)
      simp at g0 g1 g2 g3 g4 g5 g6
      clear hc hb hblk htk
      go_wp2_with fail
      refine (toShape_c ⟨K, AX, AY, BX, BY, R, N⟩ _).mono ?_
      rintro e w1 ⟨rfl, hb1⟩
      clear g0 g1 g2 g3 g4 g5 g6
      have hblk := HK.out.below hb1 HK.out.lt
      have hfz := hblk.frozen
      have hlen : (shpsV (xs.take k)).length = k * 7 := by rw [shpsV_len, List.length_take, Nat.min_eq_left (by omega)]
      have hfs : (filled Z (shpsV (xs.take k))).size = n * 7 := by rw [filled_size (by rw [hlen, HZ.out]; omega), HZ.out]
      have hq : ∀ j, j < 7 → ∃ u, w1.cell? ⟨w.heap.size, k * 7 + j, none⟩ = some u := fun j hj => ⟨_, (hblk.cell _).trans (Array.getElem?_eq_getElem (by rw [hfs]; omega))⟩
      obtain ⟨u0, q0⟩ := hq 0 (by omega)
      obtain ⟨u1, q1⟩ := hq 1 (by omega)
      obtain ⟨u2, q2⟩ := hq 2 (by omega)
      obtain ⟨u3, q3⟩ := hq 3 (by omega)
      obtain ⟨u4, q4⟩ := hq 4 (by omega)
      obtain ⟨u5, q5⟩ := hq 5 (by omega)
      obtain ⟨u6, q6⟩ := hq 6 (by omega)
      have hlt1 : w.heap.size < w1.heap.size := hblk.lt
      have HB1 := Lib.hid hb1
      have HBL := Lib.hid hblk
      have HLEN := Lib.hid hlen
      clear hq hb1 hblk hlen hfs
      rw [Nat.add_zero] at q0
      go_wp2
      go_roundw
      case rel =>
        refine ⟨k + 1, by omega, by go_num, ?_, ?_⟩
        · exact putW_below (g := w.heap.size) [.int .i64 K, .int .i64 AX, .int .i64 AY, .int .i64 BX, .int .i64 BY, .int .i64 R, .string N] (k * 7) (HB.out.trans (HB1.out.mono hsz)) (Nat.le_refl _)
        · have hp := Blk.put [.int .i64 K, .int .i64 AX, .int .i64 AY, .int .i64 BX, .int .i64 BY, .int .i64 R, .string N] (k * 7) HBL.out
          have hl := HLEN.out
          rw [← hl, filled_put (by rw [hl, HZ.out]; simp; omega)] at hp
          rw [HT.out, shpsV_snoc]
          rw [hl] at hp
          exact hp
      case measure => simp [intOf]; omega
    · have hkn : k = n := by omega
      rw [List.take_of_length_le (by rw [HN.out]; omega)] at hblk
      have HK2 := Lib.hid hblk
      clear hb hblk hkn HK
      go_wp2
      go_ret
      have hf : (filled Z (shpsV xs)).toList = shpsV xs := filled_all (by rw [shpsV_len, HN.out, HZ.out])
      have hsz : (filled Z (shpsV xs)).size = n * 7 := by rw [filled_size (by rw [shpsV_len, HN.out, HZ.out]; exact Nat.le_refl _), HZ.out]
      rw [← HN.out] at hsz ⊢
      refine ⟨_, _, rfl, ⟨shpsV_len _, .inr ⟨_, _, _, rfl, Nat.le_refl _, HK2.out, Nat.le_refl _, by rw [HN.out]; unfold maxLen; omega, hsz, ?_⟩⟩, HB.out⟩
      rw [hf, List.take_of_length_le (by rw [shpsV_len]; exact Nat.le_refl _)]
set_option maxHeartbeats 1000000 in
theorem eqShapeS_t (A B : Option Addr) (n c d : Nat) (xs : List Shp) (w : World) (hx : Row w A (shpsV xs)) (hy : Row w B (shpsV xs)) (hn : xs.length = n) (h1 : n ≤ 1048576000) :
    Calls Try.prog 52 #[.slice A n c, .slice B n d] w fun e w' => e = .returned (.bool true) ∧ Below w.heap.size w w' := by
  have HX := Lib.hid hx
  have HY := Lib.hid hy
  have HN := Lib.hid hn
  clear hx hy hn
  go_enter Try.func52, Try.ntmps52
  go_wp2
  go_loopw [5] (fun i wr => ∃ (k : Nat), k ≤ n ∧ i = .int .i64 k ∧ Below w.heap.size w wr) (fun i _ => n - (intOf i).toNat)
  case atStart => exact ⟨0, by omega, rfl, Below.refl _ _⟩
  case round =>
    obtain ⟨k, hk, rfl, hb⟩ := hrel
    have HB := Lib.hid hb
    by_cases hlt : k < n
    · have hk2 : k < xs.length := by rw [HN.out]; exact hlt
      obtain ⟨b, off, rfl, hbl, hc⟩ := (HX.out.below hb).shp k hk2
      obtain ⟨b', off', rfl, hbl', hc'⟩ := (HY.out.below hb).shp k hk2
      have hsz := hb.size
      generalize xs[k] = s at *
      obtain ⟨K, AX, AY, BX, BY, R, N⟩ := s
      have g0 := hc 0 (by omega)
      have g1 := hc 1 (by omega)
      have g2 := hc 2 (by omega)
      have g3 := hc 3 (by omega)
      have g4 := hc 4 (by omega)
      have g5 := hc 5 (by omega)
      have g6 := hc 6 (by omega)
      have f0 := hc' 0 (by omega)
      have f1 := hc' 1 (by omega)
      have f2 := hc' 2 (by omega)
      have f3 := hc' 3 (by omega)
      have f4 := hc' 4 (by omega)
      have f5 := hc' 5 (by omega)
      have f6 := hc' 6 (by omega)
      simp at g0 g1 g2 g3 g4 g5 g6 f0 f1 f2 f3 f4 f5 f6
      clear hc hc' hb
      have i0 : (0 : Int) ≤ (k : Int) := by omega
      have i1 : (k : Int) < (n : Int) := by omega
      go_wp2
      refine still_tail 8 (by kernel_rfl) (by kernel_rfl) ?_
      simp only [List.take_succ_cons, List.take_zero, List.drop_succ_cons, List.drop_zero]
      repeat (first | still_step)
      refine wpStill_nil ?_
      go_wp2_with (go_at_call 97; refine (eqShape_t ⟨K, AX, AY, BX, BY, R, N⟩ _).mono ?_; rintro e w' ⟨rfl, hb1⟩)
      have HB1 := Lib.hid hb1
      clear hb1
      go_roundw
      case rel => exact ⟨k + 1, by omega, by go_num, HB.out.drew.trans (HB1.out.mono hsz)⟩
      case measure => simp [intOf]; omega
    · clear hb
      go_wp2
      go_ret
      exact ⟨rfl, HB.out⟩
abbrev drwV (A : Option Addr) (n c : Nat) : Value := .agg #[.slice A n c]
theorem szS_range (xs : List Shp) : ∀ l, 0 ≤ l → -1 ≤ szS xs l ∧ szS xs l ≤ l := by
  induction xs with
  | nil => intro l h; unfold szS; omega
  | cons s r ih =>
    intro l h
    unfold szS
    split
    · omega
    · have := ih (l - s.N.size) (by omega); omega
theorem szAll_range (xs : List Shp) (l : Int) (h : 0 ≤ l) : -1 ≤ szAll xs l ∧ szAll xs l ≤ l := by
  unfold szAll
  split
  · omega
  · have := szS_range xs (l - xs.length) (by omega); omega
theorem szAll_len {xs : List Shp} {l : Int} (h0 : 0 ≤ l) (h : 0 ≤ szAll xs l) : (xs.length : Int) ≤ l := by
  unfold szAll at h
  split at h <;> omega
theorem szS_names (xs : List Shp) : ∀ l, 0 ≤ l → 0 ≤ szS xs l → ∀ s ∈ xs, (s.N.size : Int) ≤ l := by
  induction xs with
  | nil => intro l _ _ s hs; simp at hs
  | cons s r ih =>
    intro l h h2 t ht
    unfold szS at h2
    split at h2
    · omega
    · rcases List.mem_cons.1 ht with rfl | ht
      · omega
      · have := ih _ (by omega) h2 t ht; omega
theorem szAll_names {xs : List Shp} {l : Int} (h0 : 0 ≤ l) (h : 0 ≤ szAll xs l) : ∀ s ∈ xs, (s.N.size : Int) ≤ l := by
  intro s hs
  unfold szAll at h
  split at h
  · omega
  · have := szS_names xs (l - xs.length) (by omega) h s hs; omega
set_option maxHeartbeats 400000 in
theorem szDrawing_c (A : Option Addr) (n c : Nat) (xs : List Shp) (l : Int) (w : World) (h : Row w A (shpsV xs)) (hn : xs.length = n) (h1 : n ≤ 9223372036854775807)
    (hs : ∀ s ∈ xs, s.N.size ≤ 9223372036854775807) (l0 : 0 ≤ l) (l1 : l ≤ 1048576) :
    Calls Try.prog 14 #[drwV A n c, .int .i64 l] w fun e w' => e = .returned (.int .i64 (szAll xs l)) ∧ Below w.heap.size w w' := by
  have hr := szAll_range xs l l0
  have hsz : Below w.heap.size w (w.alloc (.cells #[.slice A n c] 24)) := (Below.refl _ _).alloc (Nat.le_refl _) _
  have HC := Lib.hid (szShapeS_c A n c xs l _ (h.below hsz) hn h1 hs l0 l1)
  clear h hn hs hsz
  generalize szAll xs l = m at *
  by_cases c0 : m < 0
  · obtain rfl : m = -1 := by omega
    go_enter Try.func14, Try.ntmps14
    go_wp2_with fail
    refine HC.out.mono ?_
    rintro e w1 ⟨rfl, hb⟩
    have HB := Lib.hid hb
    clear hb
    go_wp2
    go_ret
    exact ⟨rfl, ((Below.refl _ _).alloc (Nat.le_refl _) _).trans (HB.out.mono (by simp))⟩
  · go_enter Try.func14, Try.ntmps14
    go_wp2_with fail
    refine HC.out.mono ?_
    rintro e w1 ⟨rfl, hb⟩
    have HB := Lib.hid hb
    clear hb
    go_wp2
    go_ret
    exact ⟨rfl, ((Below.refl _ _).alloc (Nat.le_refl _) _).trans (HB.out.mono (by simp))⟩
/-- a new drawing -/
def NewDrw (xs : List Shp) (w : World) (e : Ending) (w' : World) : Prop :=
  ∃ A c, e = .returned (drwV A xs.length c) ∧ w'.ownsRow w.heap.size 80 7 (.slice A xs.length c) xs.length (shpsV xs) ∧ Below w.heap.size w w'
set_option maxHeartbeats 400000 in
theorem toDrawing_c (A : Option Addr) (n c : Nat) (xs : List Shp) (w : World) (h : Row w A (shpsV xs)) (hn : xs.length = n) (h1 : n ≤ 1048576) :
    Calls Try.prog 16 #[drwV A n c] w (NewDrw xs w) := by
  have hsz : Below w.heap.size w (((w.alloc (.cells #[.slice A n c] 24)).alloc (.cells #[.slice none 0 0] 29)).alloc (.cells #[.slice none 0 0] 29)) := by (repeat (first | exact Below.refl _ _ | assumption | refine Below.drew ?_ | refine below_drewN ?_ _ | refine Below.setCell ?_ (by first | omega | (simp; done) | (simp; omega)) _ | refine Below.alloc ?_ (by first | omega | (simp; done) | (simp; omega)) _))
  have HC := Lib.hid (toShapeS_c A n c xs _ (h.below hsz) hn h1)
  have HS := Lib.hid hsz
  clear h hn hsz
  go_enter Try.func16, Try.ntmps16
  go_wp2_with fail
  refine HC.out.mono ?_
  rintro e w1 ⟨A1, c1, rfl, ho, hb⟩
  have hz := hb.size
  simp at hz
  have k1 := ((Blk.new (w.alloc (.cells #[.slice A n c] 24)) 29 #[.slice none 0 0]).alloc (.cells #[.slice none 0 0] 29)).below hb (by simp)
  have k2 := (Blk.new ((w.alloc (.cells #[.slice A n c] 24)).alloc (.cells #[.slice none 0 0] 29)) 29 #[.slice none 0 0]).below hb (by simp)
  simp only [World.size_alloc] at k1 k2
  have hc1 := k1.cell 0
  have hf1 := k1.frozen 0
  have hc2 := k2.cell 0
  have hf2 := k2.frozen 0
  simp at hc1 hc2 hf1 hf2
  have hz2 : w.heap.size + 1 < w1.heap.size := by omega
  have hz3 : w.heap.size + 2 < w1.heap.size := by omega
  have HO := Lib.hid ho
  have HB := Lib.hid hb
  clear ho hb k1 k2
  go_wp2
  refine bodyPost_ret (v := drwV A1 xs.length c1) (by simp [results, Try.results16, go_sem, hc1]) rfl ⟨A1, c1, rfl, ?_, ?_⟩
  · refine own_le (ownsRow_setCell_below (ownsRow_setCell_below HO.out ?_ _) ?_ _) ?_ <;> (simp; try omega)
  · have := HS.out.trans (HB.out.mono (by simp; omega))
    (repeat (first | exact Below.refl _ _ | assumption | refine Below.drew ?_ | refine below_drewN ?_ _ | refine Below.setCell ?_ (by first | omega | (simp; done) | (simp; omega)) _ | refine Below.alloc ?_ (by first | omega | (simp; done) | (simp; omega)) _))
set_option maxHeartbeats 400000 in
theorem eqDrawing_t (A B : Option Addr) (n c d : Nat) (xs : List Shp) (w : World) (hx : Row w A (shpsV xs)) (hy : Row w B (shpsV xs)) (hn : xs.length = n) (h1 : n ≤ 1048576000) :
    Calls Try.prog 18 #[drwV A n c, drwV B n d] w fun e w' => e = .returned (.bool true) ∧ Below w.heap.size w w' := by
  have hsz : Below w.heap.size w ((w.alloc (.cells #[.slice A n c] 29)).alloc (.cells #[.slice B n d] 29)) := by (repeat (first | exact Below.refl _ _ | assumption | refine Below.drew ?_ | refine below_drewN ?_ _ | refine Below.setCell ?_ (by first | omega | (simp; done) | (simp; omega)) _ | refine Below.alloc ?_ (by first | omega | (simp; done) | (simp; omega)) _))
  have HC := Lib.hid (eqShapeS_t A B n c d xs _ (hx.below hsz) (hy.below hsz) hn h1)
  have HS := Lib.hid hsz
  clear hx hy hn hsz
  go_enter Try.func18, Try.ntmps18
  go_wp2_with fail
  refine HC.out.mono ?_
  rintro e w1 ⟨rfl, hb⟩
  have HB := Lib.hid hb
  clear hb
  go_wp2
  go_ret
  exact ⟨rfl, HS.out.trans (HB.out.mono (by simp; omega))⟩
end Go.Proofs.Ytplnohfjeilodaa
