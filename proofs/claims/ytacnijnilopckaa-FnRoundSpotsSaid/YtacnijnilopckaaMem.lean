/- Words for memory: a slice that reads as a list; a block that is known whole. No program. -/
import Derived.Test.YtacnijnilopckaaBase
import Derived.Below
import Derived.StillTailTactics
import Derived.Laws.OwnMore
import Derived.Deep.AppendLies
import Derived.Deep.Draws
import Derived.Laws.Rows
namespace Go.Proofs.Ytacnijnilopckaa
open Go.RowKit
set_option linter.unusedVariables false

theorem str_ne {s s' : ByteArray} (h : ¬ s = s') : (s.toList == s'.toList) = false := by
  rw [beq_eq_false_iff_ne, ByteArray.toList_eq, ByteArray.toList_eq]
  intro e
  apply h
  cases s; cases s'; simp at e; simp [e]
theorem str_self (s : ByteArray) : (s.toList == s.toList) = true := by simp

/-- the slice at A holds the cells xs -/
def Row (w : World) (A : Option Addr) (xs : List Value) : Prop :=
  xs = [] ∨ ∃ b off, A = some ⟨b, off, none⟩ ∧ ∀ j (h : j < xs.length), w.cell? ⟨b, off + j, none⟩ = some xs[j]

section
variable {w w' : World} {A : Option Addr} {xs : List Value}
theorem Row.nil_ : Row w A [] := .inl rfl
theorem Row.at_ (h : Row w A xs) (hp : 0 < xs.length) : ∃ b off, A = some ⟨b, off, none⟩ ∧ b < w.heap.size ∧ ∀ j (h : j < xs.length), w.cell? ⟨b, off + j, none⟩ = some xs[j] := by
  rcases h with rfl | ⟨b, off, rfl, hc⟩
  · simp at hp
  · refine ⟨b, off, rfl, ?_, hc⟩
    have h0 := hc 0 hp
    rcases Nat.lt_or_ge b w.heap.size with hlt | hge
    · exact hlt
    · unfold World.cell? at h0
      simp [Array.getElem?_eq_none hge] at h0
theorem Row.keep (h : Row w A xs) (hk : ∀ b o, b < w.heap.size → w'.cell? ⟨b, o, none⟩ = w.cell? ⟨b, o, none⟩) : Row w' A xs := by
  rcases Nat.eq_zero_or_pos xs.length with h0 | h0
  · exact .inl (List.eq_nil_of_length_eq_zero h0)
  · obtain ⟨b, off, rfl, hb, hc⟩ := h.at_ h0
    exact .inr ⟨b, off, rfl, fun j hj => (hk _ _ hb).trans (hc j hj)⟩
theorem Row.below (h : Row w A xs) (hb : Below w.heap.size w w') : Row w' A xs := h.keep fun b o hlt => hb.cell (p := ⟨b, o, none⟩) hlt
theorem Row.drewN (h : Row w A xs) (n : Nat) : Row (w.drewN n) A xs := h
theorem Row.of_drewN {n : Nat} (h : Row (w.drewN n) A xs) : Row w A xs := h
end

theorem below_drewN {B : Nat} {a w : World} (h : Below B a w) (n : Nat) : Below B a (w.drewN n) := ⟨h.os, h.tape, h.output, h.size, h.block⟩
theorem below_drewN_self (B : Nat) (w : World) (n : Nat) : Below B w (w.drewN n) := below_drewN (Below.refl _ _) n

/-- block g holds just the cells cs of element type t -/
def Blk (w : World) (g : Nat) (t : TypeId) (cs : Array Value) : Prop := w.heap[g]? = some (.cells cs t (0, 0))
section
variable {w w' : World} {g : Nat} {t : TypeId} {cs : Array Value}
theorem Blk.lt (h : Blk w g t cs) : g < w.heap.size := by
  rcases Nat.lt_or_ge g w.heap.size with hlt | hge
  · exact hlt
  · unfold Blk at h; rw [Array.getElem?_eq_none hge] at h; cases h
theorem Blk.cell (h : Blk w g t cs) (i : Nat) : w.cell? ⟨g, i, none⟩ = cs[i]? := cell_of_row w g i cs t (0, 0) h
theorem Blk.frozen (h : Blk w g t cs) (i : Nat) : w.frozen? ⟨g, i, none⟩ = false := by
  unfold Blk at h
  simp [World.frozen?, h]
theorem Blk.new (w : World) (t : TypeId) (cs : Array Value) : Blk (w.alloc (.cells cs t)) w.heap.size t cs := heap_alloc_new w _
theorem Blk.drewN (h : Blk w g t cs) (n : Nat) : Blk (w.drewN n) g t cs := h
theorem Blk.alloc (h : Blk w g t cs) (o : Obj) : Blk (w.alloc o) g t cs := (Below.heap_alloc w o g h.lt).trans h
theorem Blk.set_ (h : Blk w g t cs) (i : Nat) (u : Value) : Blk (w.setCell ⟨g, i, none⟩ u) g t (cs.setIfInBounds i u) := by
  unfold Blk at h ⊢
  simp [World.setCell, Array.getElem?_modify, h]
theorem Blk.far (h : Blk w g t cs) {p : Addr} (hp : g ≠ p.block) (u : Value) : Blk (w.setCell p u) g t cs := (Below.heap_setCell w p u g hp).trans h
theorem Blk.below {B : Nat} (h : Blk w g t cs) (hb : Below B w w') (hg : g < B) : Blk w' g t cs := (hb.block g hg).trans h
theorem Blk.row (h : Blk w g t cs) : Row w (some ⟨g, 0, none⟩) cs.toList :=
  .inr ⟨g, 0, rfl, fun j hj => by rw [Nat.zero_add, h.cell, Array.getElem?_eq_getElem (by simpa using hj)]; simp⟩
end

section
variable {w w' : World} {base size n c : Nat} {e : TypeId} {A : Option Addr} {xs : List Value}
theorem own_row (h : w.ownsRow base e size (.slice A n c) n xs) : Row w A xs := by
  rcases Nat.eq_zero_or_pos xs.length with h0 | h0
  · exact .inl (List.eq_nil_of_length_eq_zero h0)
  · have hn : 0 < n := by
      rcases Nat.eq_zero_or_pos n with h1 | h1
      · have := h.1; rw [h1] at this; omega
      · exact h1
    obtain ⟨g, cap, hv, _, hlt⟩ := h.form hn
    injection hv with hA
    subst hA
    refine .inr ⟨g, 0, rfl, fun j hj => ?_⟩
    have := h.cells (g := g) rfl j xs[j] (List.getElem?_eq_getElem hj)
    rw [← this]
    congr 1
    unfold Addr.add; split
    · next h0 => subst h0; rfl
    · rfl
theorem own_max (h : w.ownsRow base e size (.slice A n c) n xs) : n ≤ 9223372036854775807 := by
  rcases h.2 with ⟨_, h1⟩ | ⟨g, cap, cur, _, _, _, h1, h2, _⟩
  · omega
  · unfold maxLen at h2; omega
theorem own_below (h : w.ownsRow base e size (.slice A n c) n xs) (hb : Below w.heap.size w w') : w'.ownsRow base e size (.slice A n c) n xs := by
  rcases h.2 with ⟨h1, h2⟩ | ⟨g, cap, cur, h1, h2, h3, h4⟩
  · exact ⟨h.1, .inl ⟨h1, h2⟩⟩
  · exact ⟨h.1, .inr ⟨g, cap, cur, h1, h2, (hb.block g (Blk.lt h3)).trans h3, h4⟩⟩
end
/-- two rows of which one was there before the other was made -/
theorem own_apart {w w1 : World} {b0 b1 : Nat} {e0 e1 : TypeId} {s0 s1 n0 n1 : Nat} {v0 v1 : Value} {xs ys : List Value}
    (h0 : w.ownsRow b0 e0 s0 v0 n0 xs) (h1 : w1.ownsRow b1 e1 s1 v1 n1 ys) (hb : w.heap.size ≤ b1) : v0.ownBlock = none ∨ v0.ownBlock ≠ v1.ownBlock := by
  cases hv : v0.ownBlock with
  | none => exact .inl rfl
  | some k =>
    refine .inr fun he => ?_
    have a := h0.lt k hv
    have b := h1.lt k he.symm
    omega
theorem below_of_grown {B : Nat} {w w' : World} {b e s n : Nat} {v : Value} {xs : List Value} (h : w.ownsRow b e s v n xs) (hg : w.grownBy w' v.ownBlock) (hB : B ≤ b) (hs : B ≤ w.heap.size) : Below B w w' :=
  ⟨hg.os, hg.tape, hg.output, hg.size, fun k hk => hg.block k (by omega) (fun he => by have := h.lt k he.symm; omega)⟩
theorem still_of {P : Program} {f : FuncId} {args : Array Value} {w : World} {v : Value} (h : Calls P f args w fun e w' => e = .returned v ∧ w = w') :
    Calls P f args w fun e w' => e = .returned v ∧ w' = w := h.mono fun _ _ ⟨a, b⟩ => ⟨a, b.symm⟩
/-- a region that draws its order: quiet operations first, the rest in the order of the text -/
theorem still_tail {P : Program} {id : Nat} {Q : Exit → Act → World → Prop} {a : Act} {w : World} {l : List Oper} (n : Nat) (hm : P.follows .mixedOrders = true) (hB : Region.lexTailB .any l.toArray n = true)
    (h : wpStill P l.toArray w.drew (fun a' => wpList P l.toArray Q (l.drop n) a' w.drew) (l.take n) a) : (Code.region id l.toArray true).wp P Q a w :=
  wp_region_still_tail n hm hB h
end Go.Proofs.Ytacnijnilopckaa
