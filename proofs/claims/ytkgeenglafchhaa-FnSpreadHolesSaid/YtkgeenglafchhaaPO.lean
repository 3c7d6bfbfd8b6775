/- Plain laws, O: what a model comes to. No program. -/
import Derived.Test.YtkgeenglafchhaaPA
namespace Go.Proofs.Ytkgeenglafchhaa
set_option linter.unusedVariables false
/-- a model gives a value, and of it P holds -/
def Ok {α : Type} (m : Option α) (P : α → Prop) : Prop := ∃ x, m = some x ∧ P x
theorem ok_some {α : Type} {x : α} {P : α → Prop} (h : P x) : Ok (some x) P := ⟨x, rfl, h⟩
theorem ok_bind {α β : Type} {m : Option α} {f : α → Option β} {P : α → Prop} {Q : β → Prop} (h : Ok m P) (k : ∀ x, P x → Ok (f x) Q) : Ok (m.bind f) Q := by
  obtain ⟨x, rfl, hx⟩ := h
  exact k x hx
theorem ok_ite {α : Type} {p : Prop} [Decidable p] {a b : Option α} {P : α → Prop} (h : p → Ok a P) (k : ¬ p → Ok b P) : Ok (if p then a else b) P := by
  split
  · exact h ‹_›
  · exact k ‹_›
theorem ok_chk {α : Type} {p : Prop} [Decidable p] {a : Option α} {P : α → Prop} (hp : p) (h : Ok a P) : Ok (chk p a) P := by rw [chk_t hp]; exact h
theorem ok_atI {α : Type} {xs : List α} {i : Int} (h0 : 0 ≤ i) (h1 : i < xs.length) : Ok (atI xs i) (fun e => e ∈ xs ∧ xs[i.toNat]? = some e) := by
  obtain ⟨e, h, hm, hg⟩ := atI_some h0 h1
  exact ⟨e, h, hm, hg⟩
theorem ok_mono {α : Type} {m : Option α} {P Q : α → Prop} (h : Ok m P) (k : ∀ x, P x → Q x) : Ok m Q := by
  obtain ⟨x, e, hx⟩ := h
  exact ⟨x, e, k x hx⟩
theorem ok_loop {S X : Type} {step : S → Option (S ⊕ X)} {P : X → Prop} (I : S → Prop) (m : S → Nat) (hs : ∀ s, I s → Ok (step s) (fun y => (∃ s', y = .inl s' ∧ I s' ∧ m s' < m s) ∨ ∃ x, y = .inr x ∧ P x)) (s0 : S) (h0 : I s0) (hm : m s0 < 1180591620717411303424) : Ok (loopM step s0) P :=
  loopM_of I m P (fun s hI => by
    obtain ⟨y, e, ⟨s', rfl, h1, h2⟩ | ⟨x, rfl, h1⟩⟩ := hs s hI
    · exact .inl ⟨s', e, h1, h2⟩
    · exact .inr ⟨x, e, h1⟩) s0 h0 hm
end Go.Proofs.Ytkgeenglafchhaa
