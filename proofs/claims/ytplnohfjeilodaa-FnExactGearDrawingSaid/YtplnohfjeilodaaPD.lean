/- Plain laws on drawings: the laws' own helpers. No program. -/
import Derived.Test.YtplnohfjeilodaaPA
import Derived.Test.YtplnohfjeilodaaXM
import Derived.Test.YtplnohfjeilodaaXOK
namespace Go.Proofs.Ytplnohfjeilodaa
set_option linter.unusedVariables false
theorem strOf_one (b : Int) : (strOfNums [b]).size = 1 := by simp [strOfNums, ByteArray.size]
theorem markText_some {k : Int} (h0 : 0 ≤ k) (h1 : k ≤ 1000000000000) : ∃ t, l_markText_m k = some t := by
  unfold l_markText_m
  by_cases hk : k ≤ 0
  · exact ⟨_, if_pos hk⟩
  · rw [if_neg hk]
    obtain ⟨x, hx, hp⟩ := loopM_of (S := Int × ByteArray) (X := ByteArray) (step := fun s5 => (if 0 < s5.1 then (chk ((strOfNums [IntKind.u8.wrap (w64 (48 + (s5.1.tmod 10)))]).size + s5.2.size ≤ 9223372036854775807) (some (.inl (w64 (s5.1.tdiv 10), (strOfNums [IntKind.u8.wrap (w64 (48 + (s5.1.tmod 10)))]) ++ s5.2)))) else some (.inr s5.2)))
      (fun (s : Int × ByteArray) => 0 ≤ s.1 ∧ s.1 + s.2.size ≤ 1000000000000) (fun (s : Int × ByteArray) => s.1.toNat) (fun x => (x.size : Int) ≤ 1000000000000) (fun s hI => by
        obtain ⟨i, b⟩ := s
        obtain ⟨q0, q1⟩ := hI
        dsimp only at q0 q1 ⊢
        by_cases hi : 0 < i
        · left
          have e1 : i.tdiv 10 = i / 10 := Int.tdiv_eq_ediv_of_nonneg q0
          have e2 : w64 (i / 10) = i / 10 := w64_in (by omega) (by omega)
          have e3 := strOf_one (IntKind.u8.wrap (w64 (48 + (i.tmod 10))))
          refine ⟨_, by rw [if_pos hi, chk_t (by rw [e3]; omega)], ?_, ?_⟩
          · dsimp only
            rw [e1, e2, ByteArray.size_append, e3]
            push_cast
            omega
          · dsimp only
            rw [e1, e2]; omega
        · right; exact ⟨b, by rw [if_neg hi], by omega⟩) (k, ⟨#[]⟩) ⟨h0, by show k + ((0 : Nat) : Int) ≤ _; omega⟩ (by dsimp only; omega)
    rw [hx]
    refine ⟨_, chk_t ?_⟩
    have : (⟨#[109]⟩ : ByteArray).size = 1 := rfl
    rw [this]; omega
def mkT (k : Int) : ByteArray := (l_markText_m k).getD ⟨#[]⟩
theorem markText_eq {k : Int} (h0 : 0 ≤ k) (h1 : k ≤ 1000000000000) : l_markText_m k = some (mkT k) := by
  obtain ⟨t, ht⟩ := markText_some h0 h1
  unfold mkT; rw [ht]; rfl
def mkSh (k : Int) : Shape_ := ⟨k, ⟨k + 1, k + 2⟩, ⟨k + 3, k + 4⟩, k + 5, mkT (k + 6)⟩
theorem markShapeS_eq {xs : List Shape_} {k : Int} (h0 : 0 ≤ k) (hk : k ≤ 1000000) (hl : xs.length ≤ 1048576) : l_markShapeS_o_m xs k = some (k + 7 * xs.length, (List.range xs.length).map fun (j : Nat) => mkSh (k + 7 * (j : Int))) := by
  unfold l_markShapeS_o_m
  rw [markS_ok (c := 7) (B := 100000000) (M := mkSh) (by omega) (fun k i ys a1 a2 a3 a4 a5 => ?_) (fun k i ys a => by simp [a]) h0 hl (by omega)]
  · rfl
  · obtain ⟨e, he, _, _⟩ := atI_some a3 a4
    have w : ∀ n : Int, 0 ≤ n → n ≤ 200000000 → w64 n = n := fun n p q => w64_in (by omega) (by omega)
    simp only [if_pos a4, he, Option.bind_some, List.set_set, atI_set a3 a4, w (k + 1) (by omega) (by omega), w (k + 1 + 1) (by omega) (by omega), w (k + 1 + 1 + 1) (by omega) (by omega), w (k + 1 + 1 + 1 + 1) (by omega) (by omega), w (k + 1 + 1 + 1 + 1 + 1) (by omega) (by omega), w (k + 1 + 1 + 1 + 1 + 1 + 1) (by omega) (by omega), w (k + 1 + 1 + 1 + 1 + 1 + 1 + 1) (by omega) (by omega), w (i + 1) (by omega) (by omega),
      markText_eq (show 0 ≤ k + 1 + 1 + 1 + 1 + 1 + 1 by omega) (by omega)]
    simp [mkSh, Int.add_assoc]
theorem heldShapeS_eq {n : Nat} {k : Int} (h0 : 0 ≤ k) (hk : k ≤ 1000000) (hl : n ≤ 1048576) : l_heldShapeS_m ((List.range n).map fun (j : Nat) => mkSh (k + 7 * (j : Int))) k = some (k + 7 * n) := by
  unfold l_heldShapeS_m
  rw [heldS_ok (c := 7) (B := 100000000) (M := mkSh) (n := n) (by omega) (fun k' i a1 a2 a3 a4 a5 => ?_) (fun k i a => by simp [a]) h0 hl (by omega)]
  · rfl
  · have he := marked_get (M := mkSh) (k0 := k) (c := 7) a3 a4
    have w : ∀ n : Int, 0 ≤ n → n ≤ 200000000 → w64 n = n := fun n p q => w64_in (by omega) (by omega)
    rw [← a5] at he
    simp only [List.length_map, List.length_range, if_pos a4, he, Option.bind_some, w (k' + 1) (by omega) (by omega), w (k' + 1 + 1) (by omega) (by omega), w (k' + 1 + 1 + 1) (by omega) (by omega), w (k' + 1 + 1 + 1 + 1) (by omega) (by omega), w (k' + 1 + 1 + 1 + 1 + 1) (by omega) (by omega), w (k' + 1 + 1 + 1 + 1 + 1 + 1) (by omega) (by omega), w (k' + 1 + 1 + 1 + 1 + 1 + 1 + 1) (by omega) (by omega), w (i + 1) (by omega) (by omega),
      markText_eq (show 0 ≤ k' + 1 + 1 + 1 + 1 + 1 + 1 by omega) (by omega)]
    simp [mkSh, Int.add_assoc]
theorem markDrawing_ok {x : Drawing_} (hl : x.Shapes.length ≤ 1048576) : ∃ k ys, l_markDrawing_o_m x 1 = some (k, ys) ∧ l_heldDrawing_m ⟨ys⟩ 1 = some k ∧ 0 ≤ k ∧ ys.length = x.Shapes.length := by
  refine ⟨1 + 7 * x.Shapes.length, (List.range x.Shapes.length).map fun (j : Nat) => mkSh (1 + 7 * (j : Int)), ?_, ?_, by omega, ?_⟩
  · unfold l_markDrawing_o_m
    rw [markShapeS_eq (by omega) (by omega) hl]
    simp only [Option.bind_some, List.length_map, List.length_range]
    exact chk_t trivial
  · unfold l_heldDrawing_m
    simp only
    rw [heldShapeS_eq (by omega) (by omega) hl]
    simp only [Option.bind_some]
    rw [if_neg (by omega)]
  · simp
theorem toSpot_eq (x : Spot_) : l_toSpot_m x = some x := rfl
theorem toShape_eq (x : Shape_) : l_toShape_m x = some x := by simp [l_toShape_m, toSpot_eq]
theorem toShapeS_eq {xs : List Shape_} (hl : xs.length ≤ 1048576) : l_toShapeS_m xs = some xs := by
  unfold l_toShapeS_m
  rw [chk_t (by omega), toS_id (by omega) fun v _ => toShape_eq v]; rfl
theorem toDrawing_eq {x : Drawing_} (hl : x.Shapes.length ≤ 1048576) : l_toDrawing_m x = some x := by
  unfold l_toDrawing_m
  rw [toShapeS_eq hl]; rfl
theorem eqSpot_refl (x : Spot_) : l_eqSpot_m x x = some true := by simp [l_eqSpot_m]
theorem eqShape_refl (x : Shape_) : l_eqShape_m x x = some true := by simp [l_eqShape_m, eqSpot_refl]
theorem eqShapeS_refl {xs : List Shape_} (hl : xs.length ≤ 9223372036854775807) : l_eqShapeS_m xs xs = some true := by
  unfold l_eqShapeS_m
  rw [if_neg (by simp), eqS_refl hl fun v _ => eqShape_refl v]; rfl
theorem eqDrawing_refl {x : Drawing_} (hl : x.Shapes.length ≤ 9223372036854775807) : l_eqDrawing_m x x = some true := by
  unfold l_eqDrawing_m
  rw [eqShapeS_refl hl]; rfl
def smDrawing (x : Drawing_) : Prop := x.Shapes.length ≤ 1048576 ∧ ∀ s ∈ x.Shapes, s.Name.size ≤ 1048576
theorem szShape_ok {x : Shape_} (hn : x.Name.size ≤ 9223372036854775807) (l : Int) (h0 : 0 ≤ l) (h1 : l ≤ 1048576) : ∃ r, l_szShape_m x l = some r ∧ r ≤ l ∧ (0 ≤ r → x.Name.size ≤ 1048576) := by
  unfold l_szShape_m
  rw [w64_in (by omega) (by omega)]
  split
  · exact ⟨_, rfl, by omega, by omega⟩
  · exact ⟨_, rfl, by omega, by omega⟩
theorem szDrawing_ok {x : Drawing_} (hx : okDrawing_ x) : ∃ r, l_szDrawing_m x 1048576 = some r ∧ (0 ≤ r → smDrawing x) := by
  obtain ⟨hl, hm⟩ := hx
  unfold l_szDrawing_m l_szShapeS_m
  by_cases h : w64 (1048576 - (x.Shapes.length : Int)) < 0
  · rw [if_pos h]; exact ⟨-1, rfl, by omega⟩
  · rw [if_neg h]
    rw [w64_in (by omega) (by omega)] at h ⊢
    obtain ⟨y, hy, hp⟩ := szS_ok hl (f := l_szShape_m) (sm := fun s => s.Name.size ≤ 1048576) (fun v hv l a b => szShape_ok (hm v hv).2.2.2.2 l a b) (1048576 - x.Shapes.length) (by omega) (by omega)
    rw [hy]
    rcases hp with rfl | ⟨r, rfl, h1, h2, h3⟩
    · exact ⟨-1, rfl, by omega⟩
    · refine ⟨r, ?_, fun _ => ⟨by omega, h3⟩⟩
      simp [orE, Int.not_lt.2 h1]
end Go.Proofs.Ytplnohfjeilodaa
