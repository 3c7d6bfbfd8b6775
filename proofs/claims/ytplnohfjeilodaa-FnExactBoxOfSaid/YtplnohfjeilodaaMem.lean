/- Words for memory: a slice that reads as a list; a block that is known whole. No program. -/
import Derived.Test.YtplnohfjeilodaaBase
import Derived.Below
import Derived.StillTailTactics
import Derived.Laws.OwnMore
import Derived.Deep.AppendLies
import Derived.Deep.Draws
import Derived.Laws.Rows
namespace Go.Proofs.Ytplnohfjeilodaa
open Go.RowKit
set_option linter.unusedVariables false
set_option maxRecDepth 100000

theorem str_ne {s s' : ByteArray} (h : ¬ s = s') : (s.toList == s'.toList) = false := by
  rw [beq_eq_false_iff_ne, ByteArray.toList_eq, ByteArray.toList_eq]
  intro e
  apply h
  cases s; cases s'; simp at e; simp [e]
theorem str_self (s : ByteArray) : (s.toList == s.toList) = true := by simp

/-- the slice at A holds the cells xs -/
def Row (w : World) (A : Option Addr) (xs : List Value) : Prop :=
  xs = [] ∨ ∃ b off, A = some ⟨b, off, none⟩ ∧ ∀ j (h : j < xs.length), w.cell? ⟨b, off + j, none⟩ = some xs[j]

section
variable {w w' : World} {A : Option Addr} {xs : List Value}
theorem Row.nil_ : Row w A [] := .inl rfl
theorem Row.at_ (h : Row w A xs) (hp : 0 < xs.length) : ∃ b off, A = some ⟨b, off, none⟩ ∧ b < w.heap.size ∧ ∀ j (h : j < xs.length), w.cell? ⟨b, off + j, none⟩ = some xs[j] := by
  rcases h with rfl | ⟨b, off, rfl, hc⟩
  · simp at hp
  · refine ⟨b, off, rfl, ?_, hc⟩
    have h0 := hc 0 hp
    rcases Nat.lt_or_ge b w.heap.size with hlt | hge
    · exact hlt
    · unfold World.cell? at h0
      simp [Array.getElem?_eq_none hge] at h0
theorem Row.keep (h : Row w A xs) (hk : ∀ b o, b < w.heap.size → w'.cell? ⟨b, o, none⟩ = w.cell? ⟨b, o, none⟩) : Row w' A xs := by
  rcases Nat.eq_zero_or_pos xs.length with h0 | h0
  · exact .inl (List.eq_nil_of_length_eq_zero h0)
  · obtain ⟨b, off, rfl, hb, hc⟩ := h.at_ h0
    exact .inr ⟨b, off, rfl, fun j hj => (hk _ _ hb).trans (hc j hj)⟩
theorem Row.below (h : Row w A xs) (hb : Below w.heap.size w w') : Row w' A xs := h.keep fun b o hlt => hb.cell (p := ⟨b, o, none⟩) hlt
theorem Row.drewN (h : Row w A xs) (n : Nat) : Row (w.drewN n) A xs := h
theorem Row.of_drewN {n : Nat} (h : Row (w.drewN n) A xs) : Row w A xs := h
end

theorem below_drewN {B : Nat} {a w : World} (h : Below B a w) (n : Nat) : Below B a (w.drewN n) := ⟨h.os, h.tape, h.output, h.size, h.block⟩
theorem below_drewN_self (B : Nat) (w : World) (n : Nat) : Below B w (w.drewN n) := below_drewN (Below.refl _ _) n

/-- block g holds just the cells cs of element type t -/
def Blk (w : World) (g : Nat) (t : TypeId) (cs : Array Value) : Prop := w.heap[g]? = some (.cells cs t (0, 0))
section
variable {w w' : World} {g : Nat} {t : TypeId} {cs : Array Value}
theorem Blk.lt (h : Blk w g t cs) : g < w.heap.size := by
  rcases Nat.lt_or_ge g w.heap.size with hlt | hge
  · exact hlt
  · unfold Blk at h; rw [Array.getElem?_eq_none hge] at h; cases h
theorem Blk.cell (h : Blk w g t cs) (i : Nat) : w.cell? ⟨g, i, none⟩ = cs[i]? := cell_of_row w g i cs t (0, 0) h
theorem Blk.frozen (h : Blk w g t cs) (i : Nat) : w.frozen? ⟨g, i, none⟩ = false := by
  unfold Blk at h
  simp [World.frozen?, h]
theorem Blk.new (w : World) (t : TypeId) (cs : Array Value) : Blk (w.alloc (.cells cs t)) w.heap.size t cs := heap_alloc_new w _
theorem Blk.drewN (h : Blk w g t cs) (n : Nat) : Blk (w.drewN n) g t cs := h
theorem Blk.alloc (h : Blk w g t cs) (o : Obj) : Blk (w.alloc o) g t cs := (Below.heap_alloc w o g h.lt).trans h
theorem Blk.set_ (h : Blk w g t cs) (i : Nat) (u : Value) : Blk (w.setCell ⟨g, i, none⟩ u) g t (cs.setIfInBounds i u) := by
  unfold Blk at h ⊢
  simp [World.setCell, Array.getElem?_modify, h]
theorem Blk.far (h : Blk w g t cs) {p : Addr} (hp : g ≠ p.block) (u : Value) : Blk (w.setCell p u) g t cs := (Below.heap_setCell w p u g hp).trans h
theorem Blk.below {B : Nat} (h : Blk w g t cs) (hb : Below B w w') (hg : g < B) : Blk w' g t cs := (hb.block g hg).trans h
theorem Blk.row (h : Blk w g t cs) : Row w (some ⟨g, 0, none⟩) cs.toList :=
  .inr ⟨g, 0, rfl, fun j hj => by rw [Nat.zero_add, h.cell, Array.getElem?_eq_getElem (by simpa using hj)]; simp⟩
end

section
variable {w w' : World} {base size n c : Nat} {e : TypeId} {A : Option Addr} {xs : List Value}
theorem own_row (h : w.ownsRow base e size (.slice A n c) n xs) : Row w A xs := by
  rcases Nat.eq_zero_or_pos xs.length with h0 | h0
  · exact .inl (List.eq_nil_of_length_eq_zero h0)
  · have hn : 0 < n := by
      rcases Nat.eq_zero_or_pos n with h1 | h1
      · have := h.1; rw [h1] at this; omega
      · exact h1
    obtain ⟨g, cap, hv, _, hlt⟩ := h.form hn
    injection hv with hA
    subst hA
    refine .inr ⟨g, 0, rfl, fun j hj => ?_⟩
    have := h.cells (g := g) rfl j xs[j] (List.getElem?_eq_getElem hj)
    rw [← this]
    congr 1
    unfold Addr.add; split
    · next h0 => subst h0; rfl
    · rfl
theorem own_max (h : w.ownsRow base e size (.slice A n c) n xs) : n ≤ 9223372036854775807 := by
  rcases h.2 with ⟨_, h1⟩ | ⟨g, cap, cur, _, _, _, h1, h2, _⟩
  · omega
  · unfold maxLen at h2; omega
theorem own_below (h : w.ownsRow base e size (.slice A n c) n xs) (hb : Below w.heap.size w w') : w'.ownsRow base e size (.slice A n c) n xs := by
  rcases h.2 with ⟨h1, h2⟩ | ⟨g, cap, cur, h1, h2, h3, h4⟩
  · exact ⟨h.1, .inl ⟨h1, h2⟩⟩
  · exact ⟨h.1, .inr ⟨g, cap, cur, h1, h2, (hb.block g (Blk.lt h3)).trans h3, h4⟩⟩
end
/-- two rows of which one was there before the other was made -/
theorem own_apart {w w1 : World} {b0 b1 : Nat} {e0 e1 : TypeId} {s0 s1 n0 n1 : Nat} {v0 v1 : Value} {xs ys : List Value}
    (h0 : w.ownsRow b0 e0 s0 v0 n0 xs) (h1 : w1.ownsRow b1 e1 s1 v1 n1 ys) (hb : w.heap.size ≤ b1) : v0.ownBlock = none ∨ v0.ownBlock ≠ v1.ownBlock := by
  cases hv : v0.ownBlock with
  | none => exact .inl rfl
  | some k =>
    refine .inr fun he => ?_
    have a := h0.lt k hv
    have b := h1.lt k he.symm
    omega
theorem below_of_grown {B : Nat} {w w' : World} {b e s n : Nat} {v : Value} {xs : List Value} (h : w.ownsRow b e s v n xs) (hg : w.grownBy w' v.ownBlock) (hB : B ≤ b) (hs : B ≤ w.heap.size) : Below B w w' :=
  ⟨hg.os, hg.tape, hg.output, hg.size, fun k hk => hg.block k (by omega) (fun he => by have := h.lt k he.symm; omega)⟩
theorem still_of {P : Program} {f : FuncId} {args : Array Value} {w : World} {v : Value} (h : Calls P f args w fun e w' => e = .returned v ∧ w = w') :
    Calls P f args w fun e w' => e = .returned v ∧ w' = w := h.mono fun _ _ ⟨a, b⟩ => ⟨a, b.symm⟩
/-- a region that draws its order: quiet operations first, the rest in the order of the text -/
theorem still_tail {P : Program} {id : Nat} {Q : Exit → Act → World → Prop} {a : Act} {w : World} {l : List Oper} (n : Nat) (hm : P.follows .mixedOrders = true) (hB : Region.lexTailB .any l.toArray n = true)
    (h : wpStill P l.toArray w.drew (fun a' => wpList P l.toArray Q (l.drop n) a' w.drew) (l.take n) a) : (Code.region id l.toArray true).wp P Q a w :=
  wp_region_still_tail n hm hB h
/-! cells of elements of several cells -/
theorem flat_len {α : Type} (f : α → List Value) (sz : Nat) (hf : ∀ a, (f a).length = sz) (xs : List α) : (xs.flatMap f).length = xs.length * sz := by
  induction xs with
  | nil => simp
  | cons a xs ih => rw [List.flatMap_cons, List.length_append, ih, hf, List.length_cons, Nat.succ_mul]; omega
theorem flat_get {α : Type} (f : α → List Value) (sz : Nat) (hf : ∀ a, (f a).length = sz) (xs : List α) (k j : Nat) (hk : k < xs.length) (hj : j < sz) :
    (xs.flatMap f)[k * sz + j]? = (f xs[k])[j]? := by
  induction xs generalizing k with
  | nil => simp at hk
  | cons a xs ih =>
    rw [List.flatMap_cons]
    cases k with
    | zero => rw [Nat.zero_mul, Nat.zero_add, List.getElem?_append_left (by rw [hf]; exact hj)]; rfl
    | succ k =>
      rw [List.getElem?_append_right (by rw [hf, Nat.succ_mul]; omega), hf, Nat.succ_mul]
      rw [show k * sz + sz + j - sz = k * sz + j by omega, ih k (by simpa using hk)]; rfl
theorem Row.elem {α : Type} {w : World} {A : Option Addr} {f : α → List Value} {sz : Nat} {xs : List α} (h : Row w A (xs.flatMap f)) (hf : ∀ a, (f a).length = sz) (hp : 0 < xs.length) (hs : 0 < sz) :
    ∃ b off, A = some ⟨b, off, none⟩ ∧ b < w.heap.size ∧ ∀ k (h : k < xs.length) j, j < sz → w.cell? ⟨b, off + k * sz + j, none⟩ = (f xs[k])[j]? := by
  have hl := flat_len f sz hf xs
  have hpos : 0 < xs.length * sz := Nat.mul_pos hp hs
  obtain ⟨b, off, hA, hb, hc⟩ := h.at_ (by omega)
  refine ⟨b, off, hA, hb, fun k hk j hj => ?_⟩
  have hlt : k * sz + j < xs.length * sz := by
    have : (k + 1) * sz ≤ xs.length * sz := Nat.mul_le_mul_right sz hk
    rw [Nat.succ_mul] at this; omega
  have := hc (k * sz + j) (by omega)
  rw [Nat.add_assoc, this, ← flat_get f sz hf xs k j hk hj]
  exact (List.getElem?_eq_getElem (by omega)).symm
/-! several cells stored one behind the other -/
def putAt (cs : Array Value) (o : Nat) : List Value → Array Value
  | [] => cs
  | v :: vs => putAt (cs.setIfInBounds o v) (o + 1) vs
def putW (w : World) (g : Nat) (o : Nat) : List Value → World
  | [] => w
  | v :: vs => putW (w.setCell ⟨g, o, none⟩ v) g (o + 1) vs
theorem putAt_size (vs : List Value) : ∀ (cs : Array Value) (o : Nat), (putAt cs o vs).size = cs.size := by
  induction vs with
  | nil => intro cs o; rfl
  | cons v vs ih => intro cs o; unfold putAt; rw [ih]; simp
theorem putAt_list (vs : List Value) : ∀ (cs : Array Value) (o : Nat), o + vs.length ≤ cs.size → (putAt cs o vs).toList = cs.toList.take o ++ vs ++ cs.toList.drop (o + vs.length) := by
  induction vs with
  | nil => intro cs o h; simp [putAt]
  | cons v vs ih =>
    intro cs o h
    have h' : o + 1 + vs.length ≤ cs.size := by simp at h; omega
    unfold putAt
    rw [ih _ _ (by simpa using h'), Array.toList_setIfInBounds]
    have ho : o < cs.toList.length := by simp; omega
    rw [List.take_set, List.drop_set_of_lt (by omega), List.take_succ_eq_append_getElem ho]
    rw [List.set_append_right _ _ (by simp; omega)]
    have : o - (cs.toList.take o).length = 0 := by simp; omega
    rw [this]
    simp [List.length_cons, Nat.add_assoc, Nat.add_comm 1]
theorem Blk.put {g : Nat} {t : TypeId} (vs : List Value) : ∀ {w : World} {cs : Array Value} (o : Nat), Blk w g t cs → Blk (putW w g o vs) g t (putAt cs o vs) := by
  induction vs with
  | nil => intro w cs o h; exact h
  | cons v vs ih => intro w cs o h; exact ih (o + 1) (h.set_ o v)
theorem putW_below {B g : Nat} (vs : List Value) : ∀ {w0 w : World} (o : Nat), Below B w0 w → B ≤ g → Below B w0 (putW w g o vs) := by
  induction vs with
  | nil => intro w0 w o h _; exact h
  | cons v vs ih => intro w0 w o h hg; exact ih (o + 1) (h.setCell hg _) hg
theorem putW_only {g : Nat} (vs : List Value) : ∀ {w0 w : World} (o : Nat), w0.grownBy w (some g) → w0.grownBy (putW w g o vs) (some g) := by
  induction vs with
  | nil => intro w0 w o h; exact h
  | cons v vs ih =>
    intro w0 w o h
    refine ih (o + 1) ⟨h.os, h.tape, h.output, by simpa [World.setCell] using h.size, fun i hi hne => (Below.heap_setCell w ⟨g, o, none⟩ v i (fun e => hne (by rw [e]))).trans (h.block i hi hne)⟩
/-- a row that is filled from its head on -/
def filled (zs done : List Value) : Array Value := (done ++ zs.drop done.length).toArray
theorem filled_size {zs done : List Value} (h : done.length ≤ zs.length) : (filled zs done).size = zs.length := by
  simp [filled]; omega
theorem filled_put {zs done vs : List Value} (h : done.length + vs.length ≤ zs.length) : putAt (filled zs done) done.length vs = filled zs (done ++ vs) := by
  apply Array.toList_inj.1
  rw [putAt_list _ _ _ (by rw [filled_size (by omega)]; exact h)]
  simp [filled, List.drop_append, List.drop_drop]
theorem filled_all {zs done : List Value} (h : done.length = zs.length) : (filled zs done).toList = done := by
  simp [filled, h]
theorem filled_none (zs : List Value) : filled zs [] = zs.toArray := by simp [filled]
theorem own_le {w : World} {base base' size n : Nat} {e : TypeId} {v : Value} {xs : List Value} (h : w.ownsRow base e size v n xs) (hb : base' ≤ base) : w.ownsRow base' e size v n xs :=
  ⟨h.1, h.2.imp_right fun ⟨g, cap, cur, h1, h2, h3⟩ => ⟨g, cap, cur, h1, Nat.le_trans hb h2, h3⟩⟩
/-! keeping facts over calls -/
theorem cell_lt {w : World} {a : Addr} {v : Value} (h : w.cell? a = some v) : a.block < w.heap.size := by
  rcases Nat.lt_or_ge a.block w.heap.size with hlt | hge
  · exact hlt
  · unfold World.cell? at h
    simp [Array.getElem?_eq_none hge] at h
theorem kc {w w' : World} {a : Addr} {v : Value} (hb : Below w.heap.size w w') (h : w.cell? a = some v) : w'.cell? a = some v := (hb.cell (cell_lt h)).trans h
theorem kf {w w' : World} {a : Addr} {v : Value} {b : Bool} (hb : Below w.heap.size w w') (h : w.cell? a = some v) (hf : w.frozen? a = b) : w'.frozen? a = b := (hb.frozen (cell_lt h)).trans hf
theorem bthen {w0 w w' : World} (h : Below w0.heap.size w0 w) (hb : Below w.heap.size w w') : Below w0.heap.size w0 w' := h.trans (hb.mono h.size)
theorem ka {w : World} {a : Addr} {v : Value} {o : Obj} (h : w.cell? a = some v) : (w.alloc o).cell? a = some v := (World.cell?_alloc_lt w o a (cell_lt h)).trans h
theorem kn (w : World) (t : TypeId) (cs : Array Value) (i : Nat) (v : Value) (h : cs[i]? = some v) : (w.alloc (.cells cs t)).cell? ⟨w.heap.size, i, none⟩ = some v := ((Blk.new w t cs).cell i).trans h
end Go.Proofs.Ytplnohfjeilodaa
