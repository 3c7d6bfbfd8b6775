/- How the arguments of a law read as typed values. -/
import Derived.Test.YtjhadibjjldpdaaGreatAmU
import Derived.Test.YtjhadibjjldpdaaGreatOpenA
namespace Go.Proofs.YtjhadibjjldpdaaGreat
open Go.ChangeShapes Go.WideShapes Go.ChangeAt Go.RowKit Go.Deep
set_option linter.unusedVariables false
set_option maxRecDepth 100000
def osI (x : Int) : Prop := -9223372036854775808 ≤ x ∧ x ≤ 9223372036854775807
def osU8 (x : Int) : Prop := 0 ≤ x ∧ x ≤ 255
def osS (x : ByteArray) : Prop := x.size ≤ 9223372036854775807
def osL {α : Type} (ok : α → Prop) (xs : List α) : Prop := xs.length ≤ 9223372036854775807 ∧ ∀ m ∈ xs, ok m
section
variable {H : Type} {enc : TypeId × Value → H} {W : World} {b0 : Nat} {spare : Nat → Bool} {held : Bool} {fuel : Nat} {cs : List Value} {x : DataW H × List MemPlace}
theorem sl_one {P : Program} {t e : TypeId} (ht : P.underlying t = some (.slice e)) (h : DataW.trod enc P W b0 spare held fuel t cs = some x) : ∃ v, cs = [v] := by
  rcases DataW.trod_slice ht h with ⟨h0, _⟩ | ⟨ad, len, cap, elems, rest, n', _, hcs, _⟩
  · exact ⟨_, h0⟩
  · exact ⟨_, hcs⟩
theorem sliceX {P : Program} {t e : TypeId} {α : Type} {a : Value} (f : α → List DV) (ok : α → Prop) (sz : Nat) (hf : ∀ a, (f a).length = sz) (hsz : 0 < sz) (ht : P.underlying t = some (.slice e)) (hC : P.cellsOf e = sz)
    (rd : ∀ (fuel : Nat) (cs : List Value) (x : DataW H × List MemPlace), DataW.trod enc P W b0 spare held fuel e cs = some x → ∃ m, RepL W cs (f m) ∧ ok m)
    (h : ∃ n y, DataW.trod enc P W b0 spare held n t [a] = some y) :
    ∃ xs : List α, DRep W (fun b => b < W.heap.size) a (.sl (xs.map f)) ∧ xs.length ≤ 9223372036854775807 ∧ ∀ m ∈ xs, ok m := by
  by_cases hne : Nonempty α
  · haveI : Inhabited α := ⟨Classical.choice hne⟩
    exact sliceA f ok sz hf hsz ht hC rd h
  · obtain ⟨n, y, h⟩ := h
    rcases DataW.trod_slice ht h with ⟨h0, _⟩ | ⟨ad, len, cap, elems, rest, n', _, hcs, _, hb, hl, hm, hel, hi, _, _⟩
    · simp at h0
      subst h0
      exact ⟨[], .nil, by simp, fun m hm => by simp at hm⟩
    · simp at hcs
      subst hcs
      rcases Nat.eq_zero_or_pos len with h0 | h0
      · subst h0
        exact ⟨[], .emp _ _ hm, by simp, fun m hm => by simp at hm⟩
      · exfalso
        have h1 := hi 0 h0
        rw [List.getElem?_eq_getElem (by omega)] at h1
        obtain ⟨cs', hc, htr⟩ := Option.bind_eq_some_iff.1 h1
        obtain ⟨m, _⟩ := rd _ _ _ htr
        exact hne ⟨m⟩
end
end Go.Proofs.YtjhadibjjldpdaaGreat
