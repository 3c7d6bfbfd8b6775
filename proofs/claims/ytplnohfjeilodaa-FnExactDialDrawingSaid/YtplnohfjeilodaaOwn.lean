/- Rows that the call owns beside boxes. No program. -/
import Derived.Test.YtplnohfjeilodaaMem
import Derived.Maps.AppendAt
namespace Go.Proofs.Ytplnohfjeilodaa
open Go.RowKit
set_option linter.unusedVariables false
theorem own_ne_blk {w : World} {base s n g : Nat} {e t : TypeId} {v : Value} {xs : List Value} {cs : Array Value} (h : w.ownsRow base e s v n xs) (hb : Blk w g t cs) (hne : e ≠ t) : v.ownBlock ≠ some g := by
  rcases h.2 with ⟨rfl, _⟩ | ⟨g', cap, cur, rfl, _, hh, _⟩
  · simp [Value.ownBlock]
  · intro he
    have : g' = g := by simpa [Value.ownBlock] using he
    subst this
    unfold Blk at hb
    rw [hh] at hb
    injection hb with hb
    injection hb with _ ht
    exact hne ht
theorem blk_grown {w w' : World} {g : Nat} {t : TypeId} {cs : Array Value} {row : Option Nat} (h : Blk w g t cs) (hg : w.grownBy w' row) (hne : row ≠ some g) : Blk w' g t cs := (hg.block g h.lt (fun e => hne e.symm)).trans h
theorem only_set (w : World) (g o : Nat) (u : Value) : w.grownBy (w.setCell ⟨g, o, none⟩ u) (some g) :=
  ⟨rfl, rfl, rfl, by simp [World.setCell], fun i _ hne => Below.heap_setCell w ⟨g, o, none⟩ u i (fun e => hne (by rw [e]))⟩
theorem own_set {w : World} {base s n g o : Nat} {e t : TypeId} {v : Value} {xs : List Value} {cs : Array Value} (h : w.ownsRow base e s v n xs) (hb : Blk w g t cs) (hne : e ≠ t) (u : Value) : (w.setCell ⟨g, o, none⟩ u).ownsRow base e s v n xs :=
  h.kept (only_set w g o u) (.inr (own_ne_blk h hb hne))
theorem below_own {B : Nat} {w0 w w' : World} {b e s n : Nat} {v : Value} {xs : List Value} (h0 : Below B w0 w) (h : w.ownsRow b e s v n xs) (hg : w.grownBy w' v.ownBlock) (hB : B ≤ b) (hs : B ≤ w.heap.size) : Below B w0 w' := h0.trans (below_of_grown h hg hB hs)
theorem Blk.new_at (w : World) (t : TypeId) (cs : Array Value) (g : Nat) (h : g = w.heap.size) : Blk (w.alloc (.cells cs t)) g t cs := by subst h; exact Blk.new w t cs
theorem own_new (w : World) (t : TypeId) (cs : Array Value) (g base n sz : Nat) (h : g = w.heap.size) (hb : base ≤ g) (hs : cs.size = n * sz) (hn : n ≤ maxLen) :
    (w.alloc (.cells cs t)).ownsRow base t sz (.slice (some ⟨g, 0, none⟩) n n) n cs.toList :=
  ⟨by simpa using hs, .inr ⟨g, n, cs, rfl, hb, Blk.new_at w t cs g h, Nat.le_refl _, hn, hs, by rw [List.take_of_length_le (by simp; omega)]⟩⟩
/-- several cells of an owned row stored one behind the other -/
theorem own_put {base sz n g cap : Nat} {e : TypeId} (vs : List Value) : ∀ {w : World} {xs : List Value} (o : Nat), w.ownsRow base e sz (.slice (some ⟨g, 0, none⟩) n cap) n xs → o + vs.length ≤ xs.length →
    (putW w g o vs).ownsRow base e sz (.slice (some ⟨g, 0, none⟩) n cap) n (xs.take o ++ vs ++ xs.drop (o + vs.length)) ∧ w.grownBy (putW w g o vs) (some g) := by
  induction vs with
  | nil => intro w xs o h hl; refine ⟨?_, World.grownBy.refl _ _⟩; simpa [putW] using h
  | cons v vs ih =>
    intro w xs o h hl
    have h1 := h.stored o v
    have hl' : o < xs.length := by simp at hl; omega
    have h2 := ih (o + 1) h1.1 (by simp at hl ⊢; omega)
    refine ⟨?_, h1.2.trans h2.2⟩
    have e1 : (xs.set o v).take (o + 1) = xs.take o ++ [v] := by
      rw [List.take_set, List.take_succ_eq_append_getElem hl', List.set_append_right _ _ (by simp; omega)]
      have : o - (xs.take o).length = 0 := by simp; omega
      rw [this]; rfl
    have e2 : (xs.set o v).drop (o + 1 + vs.length) = xs.drop (o + (v :: vs).length) := by
      rw [List.drop_set_of_lt (by omega)]; simp [Nat.add_assoc, Nat.add_comm 1]
    have h3 := h2.1
    rw [e1, e2, show xs.take o ++ [v] ++ vs = xs.take o ++ v :: vs by simp] at h3
    exact h3
theorem put_more {α : Type} (L vs : List α) (o : Nat) (x : α) (h : o + vs.length < L.length) :
    (L.take o ++ vs ++ L.drop (o + vs.length)).take (o + vs.length) ++ [x] ++ (L.take o ++ vs ++ L.drop (o + vs.length)).drop (o + vs.length + 1) = L.take o ++ (vs ++ [x]) ++ L.drop (o + vs.length + 1) := by
  have hl : (L.take o ++ vs).length = o + vs.length := by simp; omega
  rw [List.take_left' hl, List.drop_append, hl]
  have e1 : (L.take o ++ vs).drop (o + vs.length + 1) = [] := List.drop_of_length_le (by omega)
  rw [e1, List.nil_append, List.drop_drop, show o + vs.length + (o + vs.length + 1 - (o + vs.length)) = o + vs.length + 1 by omega]
  simp
theorem kb {w w' : World} {g : Nat} {t : TypeId} {cs : Array Value} (hb : Below w.heap.size w w') (h : Blk w g t cs) : Blk w' g t cs := h.below hb h.lt
theorem apart_symm {a b : Option Nat} (h : a = none ∨ a ≠ b) : b = none ∨ b ≠ a := by
  rcases h with h | h
  · subst h
    cases b with
    | none => exact .inl rfl
    | some k => exact .inr (by simp)
  · exact .inr (Ne.symm h)
end Go.Proofs.Ytplnohfjeilodaa
