/- Plain laws, T: texts of marks. No program. -/
import Derived.Test.YtjhadibjjldpdaaGreatPA
import Derived.Test.YtjhadibjjldpdaaGreatXM
import Derived.Test.YtjhadibjjldpdaaGreatXOK
namespace Go.Proofs.YtjhadibjjldpdaaGreat
set_option linter.unusedVariables false
def smS (x : ByteArray) : Prop := x.size ≤ 1048576
def smL {α : Type} (sm : α → Prop) (xs : List α) : Prop := xs.length ≤ 1048576 ∧ ∀ m ∈ xs, sm m
theorem strOf_one (b : Int) : (strOfNums [b]).size = 1 := by simp [strOfNums, ByteArray.size]
theorem markText_some {k : Int} (h0 : 0 ≤ k) (h1 : k ≤ 1000000000000000000) : ∃ t, l_markText_m k = some t := by
  unfold l_markText_m
  by_cases hk : k ≤ 0
  · exact ⟨_, if_pos hk⟩
  · rw [if_neg hk]
    obtain ⟨x, hx, hp⟩ := loopM_of (S := Int × ByteArray) (X := ByteArray) (step := fun s5 => (if 0 < s5.1 then (chk ((strOfNums [IntKind.u8.wrap (w64 (48 + (s5.1.tmod 10)))]).size + s5.2.size ≤ 9223372036854775807) (some (.inl (w64 (s5.1.tdiv 10), (strOfNums [IntKind.u8.wrap (w64 (48 + (s5.1.tmod 10)))]) ++ s5.2)))) else some (.inr s5.2)))
      (fun (s : Int × ByteArray) => 0 ≤ s.1 ∧ s.1 + s.2.size ≤ 1000000000000000000) (fun (s : Int × ByteArray) => s.1.toNat) (fun x => (x.size : Int) ≤ 1000000000000000000) (fun s hI => by
        obtain ⟨i, b⟩ := s
        obtain ⟨q0, q1⟩ := hI
        dsimp only at q0 q1 ⊢
        by_cases hi : 0 < i
        · left
          have e1 : i.tdiv 10 = i / 10 := Int.tdiv_eq_ediv_of_nonneg q0
          have e2 : w64 (i / 10) = i / 10 := w64_in (by omega) (by omega)
          have e3 := strOf_one (IntKind.u8.wrap (w64 (48 + (i.tmod 10))))
          refine ⟨_, by rw [if_pos hi, chk_t (by rw [e3]; omega)], ?_, ?_⟩
          · dsimp only
            rw [e1, e2, ByteArray.size_append, e3]
            push_cast
            omega
          · dsimp only
            rw [e1, e2]; omega
        · right; exact ⟨b, by rw [if_neg hi], by omega⟩) (k, ⟨#[]⟩) ⟨h0, by show k + ((0 : Nat) : Int) ≤ _; omega⟩ (by dsimp only; omega)
    rw [hx]
    refine ⟨_, chk_t ?_⟩
    have : (⟨#[109]⟩ : ByteArray).size = 1 := rfl
    rw [this]; omega
def mkT (k : Int) : ByteArray := (l_markText_m k).getD ⟨#[]⟩
theorem markText_eq {k : Int} (h0 : 0 ≤ k) (h1 : k ≤ 1000000000000000000) : l_markText_m k = some (mkT k) := by
  obtain ⟨t, ht⟩ := markText_some h0 h1
  unfold mkT; rw [ht]; rfl
end Go.Proofs.YtjhadibjjldpdaaGreat
