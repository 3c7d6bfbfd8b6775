/- An abstract machine, A: data by value, memory of the call's own by keys; how a world stands to a state. No program. -/
import Derived.Test.YtjhadibjjldpdaaGreatGl
import Derived.Laws.AppendOwn
import Derived.Laws.MakeOwn
import Derived.Laws.CopyRow
import Derived.Orders
import Derived.Below
namespace Go.Proofs.YtjhadibjjldpdaaGreat
open Go.RowKit
set_option linter.unusedVariables false
set_option maxRecDepth 100000

/-- data: a value without memory, or a slice by what it holds -/
inductive DV where
  | v (x : Value)
  | sl (es : List (List DV))
/-- what a slot or a cell holds -/
inductive AV where
  | d (x : DV)
  | agg (cs : List AV)
  | tup (cs : List AV)
  | ref (cs : List DV)
  | ptr (k f n i j : Nat)
  | own (k f n : Nat)
  | fn (g : FuncId) (cap : List AV)
  | dead
inductive Cells where
  | data (es : List (List DV))
  | av (es : List (List AV))
def Cells.len : Cells → Nat
  | .data es => es.length
  | .av es => es.length
def Cells.get : Cells → Nat → Option (List AV)
  | .data es, i => (es[i]?).map (List.map AV.d)
  | .av es, i => es[i]?
structure AObj where
  ty : TypeId
  sz : Nat
  cs : Cells
inductive Slot where
  | no
  | dead
  | live (l : List AObj)
abbrev Heap := Nat → Slot
def lv (h : Heap) (k f : Nat) : Option AObj :=
  match h k with
  | .live l => l[f]?
  | _ => none
abbrev Places := Nat → Nat → Option Nat

inductive DRep (w : World) (F : Nat → Prop) : Value → DV → Prop
  | v (x : Value) (h1 : x.oneCell' = true) : DRep w F x (.v x)
  | nil : DRep w F (.slice none 0 0) (.sl [])
  | emp (A : Option Addr) (c : Nat) (hm : c ≤ maxLen) : DRep w F (.slice A 0 c) (.sl [])
  | sl (b off c sz : Nat) (es : List (List DV)) (g : Nat → Nat → Value) (hF : F b) (hc : es.length ≤ c) (hm : c ≤ maxLen)
      (hz : ∀ (i : Nat) (e : List DV), es[i]? = some e → e.length = sz)
      (hg : ∀ (i : Nat) (e : List DV) (j : Nat) (x : DV), es[i]? = some e → e[j]? = some x → w.cell? ⟨b, off + i * sz + j, none⟩ = some (g i j))
      (hr : ∀ (i : Nat) (e : List DV) (j : Nat) (x : DV), es[i]? = some e → e[j]? = some x → DRep w F (g i j) x) :
      DRep w F (.slice (some ⟨b, off, none⟩) es.length c) (.sl es)

theorem DRep.mono {w w' : World} {F F' : Nat → Prop} (hw : ∀ b, F b → w'.heap[b]? = w.heap[b]?) (hF : ∀ b, F b → F' b) {v : Value} {x : DV} (h : DRep w F v x) : DRep w' F' v x := by
  induction h with
  | v x h1 => exact .v x h1
  | nil => exact .nil
  | emp A c hm => exact .emp A c hm
  | sl b off c sz es g hb hc hm hz hg hr ih =>
    exact .sl b off c sz es g (hF b hb) hc hm hz (fun i e j x h1 h2 => (World.cell?_of_block (hw b hb)).trans (hg i e j x h1 h2)) ih

/-- how the handle of an own slice looks -/
def OwnV (w : World) (p : Option Nat) (o : AObj) (n : Nat) (v : Value) : Prop :=
  (p = none ∧ n = 0 ∧ v = .slice none 0 0) ∨
  ∃ b c cur, p = some b ∧ v = .slice (some ⟨b, 0, none⟩) n c ∧ w.heap[b]? = some (.cells cur o.ty (0, 0)) ∧ cur.size = c * o.sz ∧ n ≤ c ∧ c ≤ maxLen

inductive ARep (w : World) (F : Nat → Prop) (μ : Places) (h : Heap) : Value → AV → Prop
  | d (v : Value) (x : DV) (hd : DRep w F v x) : ARep w F μ h v (.d x)
  | agg (vs : Array Value) (cs : List AV) (hs : vs.size = cs.length) (hr : ∀ (i : Nat) (v : Value) (c : AV), vs[i]? = some v → cs[i]? = some c → ARep w F μ h v c) : ARep w F μ h (.agg vs) (.agg cs)
  | tup (vs : Array Value) (cs : List AV) (hs : vs.size = cs.length) (hr : ∀ (i : Nat) (v : Value) (c : AV), vs[i]? = some v → cs[i]? = some c → ARep w F μ h v c) : ARep w F μ h (.tuple vs) (.tup cs)
  | ref (b off : Nat) (cs : List DV) (g : Nat → Value) (hF : F b) (hg : ∀ (j : Nat) (x : DV), cs[j]? = some x → w.cell? ⟨b, off + j, none⟩ = some (g j)) (hr : ∀ (j : Nat) (x : DV), cs[j]? = some x → DRep w F (g j) x) :
      ARep w F μ h (.pointer (some ⟨b, off, none⟩)) (.ref cs)
  | ptr (v : Value) (k f n i j : Nat) (h1 : v.oneCell' = true) (hb : h k ≠ .no) (hv : ∀ o, lv h k f = some o → n ≤ o.cs.len ∧ (o.cs.len = n → ∃ b, μ k f = some b ∧ v = .pointer (some ⟨b, i * o.sz + j, none⟩))) :
      ARep w F μ h v (.ptr k f n i j)
  | own (v : Value) (k f n : Nat) (h1 : v.oneCell' = true) (hb : h k ≠ .no) (hv : ∀ o, lv h k f = some o → n ≤ o.cs.len ∧ (o.cs.len = n → OwnV w (μ k f) o n v)) : ARep w F μ h v (.own k f n)
  | fn (g : FuncId) (vs : Array Value) (cs : List AV) (hs : vs.size = cs.length) (hr : ∀ (i : Nat) (v : Value) (c : AV), vs[i]? = some v → cs[i]? = some c → ARep w F μ h v c) : ARep w F μ h (.func (.func g) #[] vs) (.fn g cs)
  | dead (v : Value) : ARep w F μ h v .dead

/-- how memory may change: what is frozen stays; an own object stays or grows -/
structure Evo (w : World) (F : Nat → Prop) (μ : Places) (h : Heap) (w' : World) (F' : Nat → Prop) (μ' : Places) (h' : Heap) : Prop where
  fr : ∀ b, F b → w'.heap[b]? = w.heap[b]?
  fs : ∀ b, F b → F' b
  born : ∀ k, h k ≠ .no → h' k ≠ .no
  live : ∀ k f o', h k ≠ .no → lv h' k f = some o' → ∃ o, lv h k f = some o ∧ (o.cs.len < o'.cs.len ∨
    (o.cs.len = o'.cs.len ∧ o.sz = o'.sz ∧ μ' k f = μ k f ∧ ∀ b cur, μ k f = some b → w.heap[b]? = some (.cells cur o.ty (0, 0)) → ∃ cur', w'.heap[b]? = some (.cells cur' o'.ty (0, 0)) ∧ cur'.size = cur.size))

theorem ARep.evo {w w' : World} {F F' : Nat → Prop} {μ μ' : Places} {h h' : Heap} (E : Evo w F μ h w' F' μ' h') {v : Value} {a : AV} (r : ARep w F μ h v a) : ARep w' F' μ' h' v a := by
  induction r with
  | d v x hd => exact .d v x (hd.mono E.fr E.fs)
  | agg vs cs hs hr ih => exact .agg vs cs hs ih
  | tup vs cs hs hr ih => exact .tup vs cs hs ih
  | ref b off cs g hF hg hr => exact .ref b off cs g (E.fs b hF) (fun j x hx => (World.cell?_of_block (E.fr b hF)).trans (hg j x hx)) (fun j x hx => (hr j x hx).mono E.fr E.fs)
  | ptr v k f n i j h1 hb hv =>
    refine .ptr v k f n i j h1 (E.born k hb) fun o' ho' => ?_
    obtain ⟨o, ho, hlt | ⟨hl, hz, hm, _⟩⟩ := E.live k f o' hb ho'
    · have := (hv o ho).1
      exact ⟨by omega, fun he => absurd he (by omega)⟩
    · rw [← hl, ← hz, hm]
      exact hv o ho
  | own v k f n h1 hb hv =>
    refine .own v k f n h1 (E.born k hb) fun o' ho' => ?_
    obtain ⟨o, ho, hlt | ⟨hl, hz, hm, hcur⟩⟩ := E.live k f o' hb ho'
    · have := (hv o ho).1
      exact ⟨by omega, fun he => absurd he (by omega)⟩
    · refine ⟨by rw [← hl]; exact (hv o ho).1, fun he => ?_⟩
      rcases (hv o ho).2 (hl.trans he) with ⟨h1, h2, h3⟩ | ⟨b, c, cur, h1, h2, h3, h4, h5, h6⟩
      · exact .inl ⟨hm.trans h1, h2, h3⟩
      · obtain ⟨cur', h7, h8⟩ := hcur b cur h1 h3
        exact .inr ⟨b, c, cur', hm.trans h1, h2, h7, by rw [h8, h4, hz], h5, h6⟩
  | fn g vs cs hs hr ih => exact .fn g vs cs hs ih
  | dead v => exact .dead v

/-- an own object lies in memory -/
def ObjRep (w : World) (F : Nat → Prop) (μ : Places) (h : Heap) (p : Option Nat) (o : AObj) : Prop :=
  (p = none ∧ o.cs.len = 0) ∨
  ∃ b cur, p = some b ∧ w.heap[b]? = some (.cells cur o.ty (0, 0)) ∧
    ∀ i cells, o.cs.get i = some cells → cells.length = o.sz ∧ ∀ (j : Nat) (c : AV), cells[j]? = some c → ∃ u, cur[i * o.sz + j]? = some u ∧ ARep w F μ h u c

theorem ObjRep.evo {w w' : World} {F F' : Nat → Prop} {μ μ' : Places} {h h' : Heap} (E : Evo w F μ h w' F' μ' h') {p : Option Nat} {o : AObj} (hk : ∀ b, p = some b → w'.heap[b]? = w.heap[b]?) (r : ObjRep w F μ h p o) : ObjRep w' F' μ' h' p o := by
  rcases r with r | ⟨b, cur, h1, h2, h3⟩
  · exact .inl r
  · refine .inr ⟨b, cur, h1, (hk b h1).trans h2, fun i cells hi => ⟨(h3 i cells hi).1, fun j c hj => ?_⟩⟩
    obtain ⟨u, hu, hr⟩ := (h3 i cells hi).2 j c hj
    exact ⟨u, hu, hr.evo E⟩

/-- what is known of package-level variables, as long as their blocks are frozen -/
def Glob (F : Nat → Prop) (w : World) : Prop := ∀ x ∈ globs, F x.g ∧ x.p w
theorem Glob.evo {F F' : Nat → Prop} {w w' : World} (gl : Glob F w) (hw : ∀ b, F b → w'.heap[b]? = w.heap[b]?) (hF : ∀ b, F b → F' b) : Glob F' w' := fun x hx => ⟨hF _ (gl x hx).1, x.stay w w' (hw _ (gl x hx).1) (gl x hx).2⟩
/-- what was there when the call began -/
structure Env where
  w0 : World
  F0 : Nat → Prop
  μ0 : Places
  h0 : Heap
  gl : Glob F0 w0
/-- the blocks of what is owned -/
def OwnB (μ : Places) (h : Heap) : Nat → Prop := fun b => ∃ k f o, lv h k f = some o ∧ μ k f = some b
def Env.O0 (E : Env) : Nat → Prop := OwnB E.μ0 E.h0

structure HInv (E : Env) (F : Nat → Prop) (μ : Places) (h : Heap) (w : World) : Prop where
  ob : ∀ k f o, lv h k f = some o → ObjRep w F μ h (μ k f) o
  inj : ∀ k f o k' f' o' b, lv h k f = some o → lv h k' f' = some o' → μ k f = some b → μ k' f' = some b → k = k' ∧ f = f'
  sep : ∀ k f o b, lv h k f = some o → μ k f = some b → ¬ F b
  src : ∀ k f o b, lv h k f = some o → μ k f = some b → E.O0 b ∨ E.w0.heap.size ≤ b
  fz : ∀ b, F b → b < w.heap.size
  fsrc : ∀ b, F b → E.F0 b ∨ E.O0 b ∨ E.w0.heap.size ≤ b
  ev : Evo E.w0 E.F0 E.μ0 E.h0 w F μ h
  os : w.os = E.w0.os
  tape : w.tape = E.w0.tape
  output : w.output = E.w0.output
  size : E.w0.heap.size ≤ w.heap.size
  keep : ∀ b, b < E.w0.heap.size → ¬ E.O0 b → w.heap[b]? = E.w0.heap[b]?

theorem HInv.glob {E : Env} {F : Nat → Prop} {μ : Places} {h : Heap} {w : World} (H : HInv E F μ h w) : Glob F w := E.gl.evo H.ev.fr H.ev.fs
theorem HInv.lt {E : Env} {F : Nat → Prop} {μ : Places} {h : Heap} {w : World} (H : HInv E F μ h w) {k f : Nat} {o : AObj} {b : Nat} (hl : lv h k f = some o) (hm : μ k f = some b) : b < w.heap.size := by
  rcases H.ob k f o hl with ⟨h1, _⟩ | ⟨b', cur, h1, h2, _⟩
  · rw [hm] at h1; cases h1
  · rw [hm] at h1
    injection h1 with h1
    subst h1
    exact (Array.getElem?_eq_some_iff.1 h2).1
end Go.Proofs.YtjhadibjjldpdaaGreat
