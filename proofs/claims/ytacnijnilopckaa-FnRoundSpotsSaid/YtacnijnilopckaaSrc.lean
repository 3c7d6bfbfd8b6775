/- Contracts of the source of choices. -/
import Derived.Test.YtacnijnilopckaaOpen
import Derived.Test.YtacnijnilopckaaMem
import Derived.Deep.QuietTactic
import Derived.BigQuiet
import Derived.Laws.BitsAllLaws
namespace Go.Proofs.Ytacnijnilopckaa
open Go.RowKit
set_option linter.unusedVariables false
def bytesV (zs : List Int) : List Value := zs.map (Value.int .u8)
structure SrcAt (w : World) (g : Nat) (i : Int) (A : Option Addr) (n c : Nat) (zs : List Int) (seed : Int) : Prop where
  row : Row w A (bytesV zs)
  len : zs.length = n
  max : n ≤ 9223372036854775807
  byt : ∀ j (h : j < zs.length), 0 ≤ zs[j] ∧ zs[j] ≤ 255
  ne : 0 < n → ∀ x, A = some x → x.block ≠ g
  blk : Blk w g 67 #[.slice A n c, .int .i64 i, .int .u64 seed]
/-- a source in block g from which i bytes have been taken -/
def Src (w : World) (g : Nat) (i : Int) : Prop := 0 ≤ i ∧ ∃ A n c zs seed, SrcAt w g i A n c zs seed
theorem Src.lt {w : World} {g : Nat} {i : Int} (h : Src w g i) : g < w.heap.size := by
  obtain ⟨_, A, n, c, zs, seed, h⟩ := h
  exact h.blk.lt
theorem Src.below {w w' : World} {g : Nat} {i : Int} (h : Src w g i) (hb : Below w.heap.size w w') : Src w' g i := by
  obtain ⟨h0, A, n, c, zs, seed, h⟩ := h
  exact ⟨h0, A, n, c, zs, seed, h.row.below hb, h.len, h.max, h.byt, h.ne, h.blk.below hb h.blk.lt⟩
theorem row_of_isRow {w : World} {A : Option Addr} {n c : Nat} {zs : List Int} (h : IsRow .u8 w A n c zs) : ∃ ys : List Int, Row w A (bytesV ys) ∧ ys.length = n ∧ n ≤ 9223372036854775807 ∧ ∀ j (h : j < ys.length), 0 ≤ ys[j] ∧ ys[j] ≤ 255 := by
  have hl := bytes_len h
  rcases h with ⟨rfl, rfl, rfl, rfl⟩ | ⟨x, rfl, hc, hm, hz, hcell, hwf⟩
  · exact ⟨[], Row.nil_, rfl, by omega, fun j hj => by simp at hj⟩
  · rcases Nat.eq_zero_or_pos n with h0 | h0
    · subst h0
      exact ⟨[], Row.nil_, rfl, by omega, fun j hj => by simp at hj⟩
    · obtain ⟨b, off, rfl, hc2⟩ := ints_at hcell (by omega)
      refine ⟨zs.take n, .inr ⟨b, off, rfl, fun j hj => ?_⟩, by simp; omega, hl, fun j hj => ?_⟩
      · have hj' : j < n := by simp [bytesV] at hj; omega
        rw [hc2 j (by omega)]
        simp [bytesV, List.getD_eq_getElem?_getD, List.getElem?_eq_getElem (show j < zs.length by omega)]
      · have hj' : j < zs.length := by simp at hj; omega
        rw [List.getElem_take]
        exact bounds_u8 (hwf _ (List.getElem_mem hj'))
def NewSrc (w : World) (e : Ending) (w' : World) : Prop := ∃ g, e = .returned (.pointer (some ⟨g, 0, none⟩)) ∧ w.heap.size ≤ g ∧ Src w' g 0 ∧ Below w.heap.size w w'
set_option maxHeartbeats 400000 in
theorem l00From_c (A : Option Addr) (n c : Nat) (zs : List Int) (w : World) (h : IsRow .u8 w A n c zs) :
    Calls Try.prog 38 #[.slice A n c] w (NewSrc w) := by
  obtain ⟨ys, hr, hl, hm, hb⟩ := row_of_isRow h
  have HR := Lib.hid hr
  have HB := Lib.hid hb
  have hne : 0 < n → ∀ x, A = some x → x.block ≠ w.heap.size := by
    rintro hn x rfl
    obtain ⟨b, off, hA, hlt, _⟩ := hr.at_ (by simp [bytesV]; omega)
    injection hA with hA
    subst hA
    show b ≠ _
    omega
  have HN := Lib.hid hne
  have HL := Lib.hid hl
  clear hr hb h hne hl
  go_enter Try.func38, Try.ntmps38
  go_wp2
  go_ret
  have hbel : Below w.heap.size w (w.alloc (.cells #[.slice A n c, .int .i64 0, .int .u64 0] 67)) := (Below.refl _ _).alloc (Nat.le_refl _) _
  exact ⟨w.heap.size, rfl, Nat.le_refl _, ⟨by omega, A, n, c, ys, 0, HR.out.below hbel, HL.out, hm, HB.out, HN.out, Blk.new w _ _⟩, hbel⟩
theorem low_byte (S : Int) (h0 : 0 ≤ S) (h1 : S < 18446744073709551616) : 0 ≤ wrap64 (bits .and .u64 (S / 1099511627776) 255) ∧ wrap64 (bits .and .u64 (S / 1099511627776) 255) ≤ 255 := by
  rw [u64_and _ _ (by omega) (by omega) (by omega) (by omega)]
  have : (S / 1099511627776).toNat &&& (255 : Int).toNat = (S / 1099511627776).toNat % 256 := Nat.and_two_pow_sub_one_eq_mod _ 8
  rw [this, wr64 (by omega) (by omega)]
  omega
theorem src_step {w : World} {g : Nat} {i : Int} {A : Option Addr} {n c : Nat} {zs : List Int} {seed : Int} (h : SrcAt w g i A n c zs seed) (i0 : 0 ≤ i) (a b : Nat) (S : Int) :
    Src ((((w.drewN a).setCell ⟨g, 1, none⟩ (.int .i64 (i + 1))).setCell ⟨g, 2, none⟩ (.int .u64 S)).drewN b) g (i + 1) ∧
    w.grownBy ((((w.drewN a).setCell ⟨g, 1, none⟩ (.int .i64 (i + 1))).setCell ⟨g, 2, none⟩ (.int .u64 S)).drewN b) (some g) := by
  have hb := (((h.blk.drewN a).set_ 1 (.int .i64 (i + 1))).set_ 2 (.int .u64 S)).drewN b
  have hg : w.grownBy ((((w.drewN a).setCell ⟨g, 1, none⟩ (.int .i64 (i + 1))).setCell ⟨g, 2, none⟩ (.int .u64 S)).drewN b) (some g) := by
    refine ⟨rfl, rfl, rfl, by simp [World.setCell], fun k hk hne => ?_⟩
    have hkg : k ≠ g := fun e => hne (by rw [e])
    exact (Below.heap_setCell ((w.drewN a).setCell ⟨g, 1, none⟩ (.int .i64 (i + 1))) ⟨g, 2, none⟩ (.int .u64 S) k hkg).trans (Below.heap_setCell (w.drewN a) ⟨g, 1, none⟩ (.int .i64 (i + 1)) k hkg)
  refine ⟨⟨by omega, A, n, c, zs, S, ?_, h.len, h.max, h.byt, h.ne, by simpa using hb⟩, hg⟩
  rcases Nat.eq_zero_or_pos (bytesV zs).length with h0 | h0
  · exact .inl (List.eq_nil_of_length_eq_zero h0)
  · obtain ⟨b', off, rfl, hlt, hc⟩ := h.row.at_ h0
    have hn := h.ne (by have := h.len; simp [bytesV] at h0; omega) _ rfl
    exact .inr ⟨b', off, rfl, fun j hj => (hg.cell_far ⟨b', off + j, none⟩ hlt (fun e => hn (by injection e))).trans (hc j hj)⟩
/-- what a choice does: block g alone has turned -/
def NextB (w : World) (g : Nat) (i : Int) (e : Ending) (w' : World) : Prop := ∃ x : Int, e = .returned (.int .i64 x) ∧ 0 ≤ x ∧ x ≤ 255 ∧ Src w' g (i + 1) ∧ w.grownBy w' (some g)
set_option maxHeartbeats 400000 in
theorem next_c (g : Nat) (i : Int) (w : World) (h : Src w g i) (hi : i ≤ 1000000000000) :
    Calls Try.prog 48 #[.pointer (some ⟨g, 0, none⟩)] w (NextB w g i) := by
  obtain ⟨i0, A, n, c, zs, seed, h⟩ := h
  have H := Lib.hid h
  have hc0 := h.blk.cell 0
  have hc1 := h.blk.cell 1
  have hc2 := h.blk.cell 2
  have hf0 := h.blk.frozen 0
  have hf1 := h.blk.frozen 1
  have hf2 := h.blk.frozen 2
  have hm := h.max
  simp at hc0 hc1 hc2
  clear h
  by_cases hlt : i < n
  · obtain ⟨k, rfl⟩ := Int.eq_ofNat_of_zero_le i0
    have hk : k < zs.length := by rw [H.out.len]; omega
    obtain ⟨b, off, rfl, hbl, hcc⟩ := H.out.row.at_ (by simp [bytesV]; omega)
    have hz := hcc k (by simp [bytesV]; omega)
    have hz' : w.cell? ⟨b, off + k, none⟩ = some (.int .u8 zs[k]) := by rw [hz]; simp [bytesV]
    obtain ⟨z0, z1⟩ := H.out.byt k hk
    have hlt' : k < n := by omega
    have hle : k + 1 ≤ n := by omega
    generalize zs[k] = z at *
    clear hcc hz hk
    go_enter Try.func48, Try.ntmps48
    go_wp2
    go_quiet (fail)
    go_wp2
    go_quiet (fail)
    go_wp2
    go_quiet (fail)
    go_wp2
    go_ret
    exact ⟨_, rfl, by omega, by omega, (src_step H.out i0 _ _ _).1, (src_step H.out i0 _ _ _).2⟩
  · go_enter Try.func48, Try.ntmps48
    go_wp2
    go_quiet (fail)
    go_wp2
    generalize hS : IntKind.u64.wrap (IntKind.u64.wrap (IntKind.u64.wrap (seed * 6364136223846793005)) + 1442695040888963407) = S
    have HS := Lib.hid hS
    clear hS
    go_quiet (fail)
    go_wp2
    go_ret
    have lb := low_byte S (by rw [← HS.out, IntKind.wrap_u64]; omega) (by rw [← HS.out, IntKind.wrap_u64]; omega)
    exact ⟨_, rfl, lb.1, lb.2, (src_step H.out i0 _ _ _).1, (src_step H.out i0 _ _ _).2⟩
/-- what a pick does -/
def PickB (w : World) (g : Nat) (i n : Int) (e : Ending) (w' : World) : Prop :=
  ∃ x i' : Int, e = .returned (.int .i64 x) ∧ 0 ≤ x ∧ x ≤ 65535 ∧ (x < n ∨ x = 0) ∧ i ≤ i' ∧ i' ≤ i + 2 ∧ Src w' g i' ∧ w.grownBy w' (some g)
set_option maxHeartbeats 400000 in
theorem pick_c (g : Nat) (i n : Int) (w : World) (h : Src w g i) (hi : i ≤ 1000000000) (n1 : n ≤ 1000000000000) :
    Calls Try.prog 39 #[.pointer (some ⟨g, 0, none⟩), .int .i64 n] w (PickB w g i n) := by
  have i0 := h.1
  have H := Lib.hid h
  clear h
  by_cases c1 : n ≤ 1
  · go_enter Try.func39, Try.ntmps39
    go_wp2
    go_ret
    exact ⟨0, i, rfl, by omega, by omega, .inr rfl, by omega, by omega, H.out, World.grownBy.refl _ _⟩
  · by_cases c2 : n ≤ 200
    · go_enter Try.func39, Try.ntmps39
      go_wp2_with fail
      refine (next_c g i _ H.out (by omega)).mono ?_
      rintro e w1 ⟨x, rfl, x0, x1, hs, hg⟩
      have m0 : 0 ≤ x % n := Int.emod_nonneg _ (by omega)
      have m1 : x % n < n := Int.emod_lt_of_pos _ (by omega)
      have m2 : x % n ≤ x := mod_le x0 (by omega)
      have S := Lib.hid hs
      have G := Lib.hid hg
      clear hs hg
      go_wp2
      go_ret
      exact ⟨_, i + 1, rfl, m0, by omega, .inl m1, by omega, by omega, S.out, G.out⟩
    · go_enter Try.func39, Try.ntmps39
      go_wp2_with fail
      refine (next_c g i _ H.out (by omega)).mono ?_
      rintro e w1 ⟨x, rfl, x0, x1, hs, hg⟩
      have S := Lib.hid hs
      have G := Lib.hid hg
      clear hs hg
      go_wp2_with fail
      refine (next_c g (i + 1) _ S.out (by omega)).mono ?_
      rintro e w2 ⟨y, rfl, y0, y1, hs, hg⟩
      have m0 : 0 ≤ (x * 256 + y) % n := Int.emod_nonneg _ (by omega)
      have m1 : (x * 256 + y) % n < n := Int.emod_lt_of_pos _ (by omega)
      have m2 : (x * 256 + y) % n ≤ x * 256 + y := mod_le (by omega) (by omega)
      have S2 := Lib.hid hs
      have G2 := Lib.hid hg
      clear hs hg
      go_wp2
      go_ret
      exact ⟨_, i + 1 + 1, rfl, m0, by omega, .inl m1, by omega, by omega, S2.out, G.out.trans G2.out⟩
def OneB (w : World) (g : Nat) (i : Int) (e : Ending) (w' : World) : Prop :=
  ∃ (b : Bool) (i' : Int), e = .returned (.bool b) ∧ i ≤ i' ∧ i' ≤ i + 2 ∧ Src w' g i' ∧ w.grownBy w' (some g)
set_option maxHeartbeats 400000 in
theorem one_c (g : Nat) (i n : Int) (w : World) (h : Src w g i) (hi : i ≤ 1000000000) (n1 : n ≤ 1000000000000) :
    Calls Try.prog 40 #[.pointer (some ⟨g, 0, none⟩), .int .i64 n] w (OneB w g i) := by
  have H := Lib.hid h
  clear h
  go_enter Try.func40, Try.ntmps40
  go_wp2_with fail
  refine (pick_c g i n _ H.out hi n1).mono ?_
  rintro e w1 ⟨x, i', rfl, x0, x1, x2, i1, i2, hs, hg⟩
  have S := Lib.hid hs
  have G := Lib.hid hg
  clear hs hg x2
  go_wp2
  go_ret
  exact ⟨_, i', rfl, by omega, by omega, S.out, G.out⟩
theorem Row.grown {w w' : World} {A : Option Addr} {xs : List Value} {g : Nat} (h : Row w A xs) (hg : w.grownBy w' (some g)) (hne : ∀ x, A = some x → x.block ≠ g) : Row w' A xs := by
  rcases Nat.eq_zero_or_pos xs.length with h0 | h0
  · exact .inl (List.eq_nil_of_length_eq_zero h0)
  · obtain ⟨b, off, rfl, hlt, hc⟩ := h.at_ h0
    have hn := hne _ rfl
    exact .inr ⟨b, off, rfl, fun j hj => (hg.cell_far ⟨b, off + j, none⟩ hlt (fun e => hn (by injection e))).trans (hc j hj)⟩
def intsV (zs : List Int) : List Value := zs.map (Value.int .i64)
theorem Row.ints {w : World} {A : Option Addr} {zs : List Int} (h : Row w A (intsV zs)) (hp : 0 < zs.length) :
    ∃ b off, A = some ⟨b, off, none⟩ ∧ b < w.heap.size ∧ ∀ j (h : j < zs.length), w.cell? ⟨b, off + j, none⟩ = some (.int .i64 zs[j]) := by
  obtain ⟨b, off, hA, hb, hc⟩ := h.at_ (by simpa [intsV] using hp)
  exact ⟨b, off, hA, hb, fun j hj => by rw [hc j (by simpa [intsV] using hj)]; simp [intsV]⟩
def AmongB (w : World) (g : Nat) (i : Int) (zs : List Int) (e : Ending) (w' : World) : Prop :=
  ∃ x i' : Int, e = .returned (.int .i64 x) ∧ x ∈ zs ∧ i ≤ i' ∧ i' ≤ i + 2 ∧ Src w' g i' ∧ w.grownBy w' (some g)
set_option maxHeartbeats 400000 in
theorem among_c (g : Nat) (i : Int) (A : Option Addr) (n c : Nat) (zs : List Int) (w : World) (h : Src w g i) (hi : i ≤ 1000000000) (hr : Row w A (intsV zs)) (hn : zs.length = n) (h0 : 0 < n) (h1 : n ≤ 1000) (hne : ∀ x, A = some x → x.block ≠ g) :
    Calls Try.prog 41 #[.pointer (some ⟨g, 0, none⟩), .slice A n c] w (AmongB w g i zs) := by
  have H := Lib.hid h
  have R := Lib.hid hr
  have L := Lib.hid hn
  have NE := Lib.hid hne
  clear h hr hn hne
  go_enter Try.func41, Try.ntmps41
  go_wp2_with fail
  refine (pick_c g i n _ H.out hi (by omega)).mono ?_
  rintro e w1 ⟨x, i', rfl, x0, x1, x2, i1, i2, hs, hg⟩
  obtain ⟨k, rfl⟩ := Int.eq_ofNat_of_zero_le x0
  have hk : k < n := by omega
  have hr1 := R.out.grown hg NE.out
  obtain ⟨b, off, rfl, hbl, hc⟩ := hr1.ints (by rw [L.out]; omega)
  have hck := hc k (by rw [L.out]; exact hk)
  have S := Lib.hid hs
  have G := Lib.hid hg
  have M := Lib.hid (List.getElem_mem (l := zs) (n := k) (by rw [L.out]; exact hk))
  clear hs hg x2 hr1 hc
  go_wp2
  go_ret
  exact ⟨_, i', rfl, M.out, by omega, by omega, S.out, G.out⟩
/-- 'among' over a list that is written out -/
theorem amongLit_c (g : Nat) (i : Int) (n c : Nat) (zs : List Int) (w : World) (h : Src w g i) (hi : i ≤ 1000000000) (hn : zs.length = n) (h0 : 0 < n) (h1 : n ≤ 1000) :
    Calls Try.prog 41 #[.pointer (some ⟨g, 0, none⟩), .slice (some ⟨w.heap.size, 0, none⟩) n c] (w.alloc (.cells (intsV zs).toArray 2)) (AmongB (w.alloc (.cells (intsV zs).toArray 2)) g i zs) := by
  have hlt := h.lt
  refine among_c g i _ n c zs _ (h.below ((Below.refl _ _).alloc (Nat.le_refl _) _)) hi ?_ hn h0 h1 ?_
  · have := (Blk.new w 2 (intsV zs).toArray).row
    simpa using this
  · intro x hx
    injection hx with hx
    subst hx
    show w.heap.size ≠ g
    omega
end Go.Proofs.Ytacnijnilopckaa
