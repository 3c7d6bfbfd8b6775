/- An abstract machine, B: what each kind of step does to memory. No program. -/
import Derived.Test.YtjhadibjjldpdaaGreatAmA
namespace Go.Proofs.YtjhadibjjldpdaaGreat
open Go.RowKit
set_option linter.unusedVariables false
set_option maxRecDepth 100000

def upd (h : Heap) (k : Nat) (s : Slot) : Heap := fun k' => bif Nat.beq k' k then s else h k'
theorem upd_same (h : Heap) (k : Nat) (s : Slot) : upd h k s k = s := by simp [upd]
theorem upd_ne (h : Heap) {k k' : Nat} (s : Slot) (hne : k' ≠ k) : upd h k s k' = h k' := by
  have : Nat.beq k' k = false := by rw [← Bool.not_eq_true, Nat.beq_eq]; exact hne
  simp [upd, this]
def updP (μ : Places) (k f : Nat) (p : Option Nat) : Places := fun k' f' => if k' = k ∧ f' = f then p else μ k' f'
theorem updP_same (μ : Places) (k f : Nat) (p : Option Nat) : updP μ k f p k f = p := by simp [updP]
theorem updP_ne (μ : Places) {k f k' f' : Nat} (p : Option Nat) (hne : ¬ (k' = k ∧ f' = f)) : updP μ k f p k' f' = μ k' f' := by simp [updP, hne]
theorem lv_live {h : Heap} {k : Nat} {l : List AObj} (hk : h k = .live l) (f : Nat) : lv h k f = l[f]? := by simp [lv, hk]
theorem lv_some {h : Heap} {k f : Nat} {o : AObj} (hl : lv h k f = some o) : ∃ l, h k = .live l ∧ l[f]? = some o := by
  unfold lv at hl
  split at hl
  · rename_i l hk; exact ⟨l, hk, hl⟩
  · cases hl
theorem lv_born {h : Heap} {k f : Nat} {o : AObj} (hl : lv h k f = some o) : h k ≠ .no := by
  obtain ⟨l, hk, _⟩ := lv_some hl
  rw [hk]; intro e; cases e
theorem lv_upd_same (h : Heap) (k : Nat) (l : List AObj) (f : Nat) : lv (upd h k (.live l)) k f = l[f]? := by simp [lv, upd_same]
theorem lv_upd_ne (h : Heap) {k k' : Nat} (s : Slot) (f : Nat) (hne : k' ≠ k) : lv (upd h k s) k' f = lv h k' f := by simp [lv, upd_ne h s hne]

section
variable {E : Env} {F : Nat → Prop} {μ : Places} {h : Heap} {w w' : World}

theorem Evo.trans {w'' : World} {F' F'' : Nat → Prop} {μ' μ'' : Places} {h' h'' : Heap} (A : Evo w F μ h w' F' μ' h') (B : Evo w' F' μ' h' w'' F'' μ'' h'') : Evo w F μ h w'' F'' μ'' h'' := by
  refine ⟨fun b hb => (B.fr b (A.fs b hb)).trans (A.fr b hb), fun b hb => B.fs b (A.fs b hb), fun k hb => B.born k (A.born k hb), fun k f o'' hb ho'' => ?_⟩
  obtain ⟨o', ho', hB⟩ := B.live k f o'' (A.born k hb) ho''
  obtain ⟨o, ho, hA⟩ := A.live k f o' hb ho'
  refine ⟨o, ho, ?_⟩
  rcases hA with hA | ⟨a1, a2, a3, a4⟩
  · rcases hB with hB | ⟨b1, b2, b3, b4⟩
    · exact .inl (by omega)
    · exact .inl (by omega)
  · rcases hB with hB | ⟨b1, b2, b3, b4⟩
    · exact .inl (by omega)
    · refine .inr ⟨a1.trans b1, a2.trans b2, b3.trans a3, fun b cur hm hc => ?_⟩
      obtain ⟨c1, hc1, hs1⟩ := a4 b cur hm hc
      obtain ⟨c2, hc2, hs2⟩ := b4 b c1 (a3.trans hm) hc1
      exact ⟨c2, hc2, hs2.trans hs1⟩

/-- nothing changes but the tape's place -/
theorem HInv.same (H : HInv E F μ h w) (hh : w'.heap = w.heap) (ho : w'.os = w.os) (ht : w'.tape = w.tape) (hp : w'.output = w.output) : HInv E F μ h w' ∧ Evo w F μ h w' F μ h := by
  have V : Evo w F μ h w' F μ h := ⟨fun b _ => by rw [hh], fun _ hb => hb, fun _ hb => hb, fun k f o' hb ho' => ⟨o', ho', .inr ⟨rfl, rfl, rfl, fun b cur _ hc => ⟨cur, by rw [hh]; exact hc, rfl⟩⟩⟩⟩
  exact ⟨⟨fun k f o hl => (H.ob k f o hl).evo V (fun b _ => by rw [hh]), H.inj, H.sep, H.src, fun b hb => by rw [hh]; exact H.fz b hb, H.fsrc, (H.ev.trans V), ho.trans H.os, ht.trans H.tape, hp.trans H.output, by rw [hh]; exact H.size,
    fun b h1 h2 => by rw [hh]; exact H.keep b h1 h2⟩, V⟩
theorem HInv.drew (H : HInv E F μ h w) : HInv E F μ h w.drew ∧ Evo w F μ h w.drew F μ h := H.same rfl rfl rfl rfl

/-- a new block that becomes an own object -/
theorem HInv.alloc (H : HInv E F μ h w) (k : Nat) (hk : h k = .no) (o : AObj) (cs : Array Value)
    (hcs : ∀ i cells, o.cs.get i = some cells → cells.length = o.sz ∧ ∀ (j : Nat) (c : AV), cells[j]? = some c → ∃ u, cs[i * o.sz + j]? = some u ∧ ARep w F μ h u c) :
    HInv E F (updP μ k 0 (some w.heap.size)) (upd h k (.live [o])) (w.alloc (.cells cs o.ty)) ∧ Evo w F μ h (w.alloc (.cells cs o.ty)) F (updP μ k 0 (some w.heap.size)) (upd h k (.live [o])) := by
  have hold : ∀ b, b < w.heap.size → (w.alloc (.cells cs o.ty)).heap[b]? = w.heap[b]? := fun b hb => Below.heap_alloc w _ b hb
  have V : Evo w F μ h (w.alloc (.cells cs o.ty)) F (updP μ k 0 (some w.heap.size)) (upd h k (.live [o])) := by
    refine ⟨fun b hb => hold b (H.fz b hb), fun _ hb => hb, fun k' hb => ?_, fun k' f o' hb ho' => ?_⟩
    · by_cases e : k' = k
      · rw [e] at hb; exact absurd hk hb
      · rw [upd_ne _ _ e]; exact hb
    · have e : k' ≠ k := fun e => by rw [e] at hb; exact hb hk
      rw [lv_upd_ne _ _ _ e] at ho'
      refine ⟨o', ho', .inr ⟨rfl, rfl, updP_ne _ _ (fun ⟨e', _⟩ => e e'), fun b cur hm hc => ⟨cur, ?_, rfl⟩⟩⟩
      rw [hold b (H.lt ho' hm)]; exact hc
  have look : ∀ k' f' o', lv (upd h k (.live [o])) k' f' = some o' → (k' = k ∧ f' = 0 ∧ o' = o) ∨ (k' ≠ k ∧ lv h k' f' = some o') := fun k' f' o' hl => by
    by_cases e : k' = k
    · subst e
      rw [lv_upd_same] at hl
      cases f' with
      | zero => simp at hl; exact .inl ⟨rfl, rfl, hl.symm⟩
      | succ n => simp at hl
    · rw [lv_upd_ne _ _ _ e] at hl; exact .inr ⟨e, hl⟩
  have hne : ∀ {k' f'}, k' ≠ k → updP μ k 0 (some w.heap.size) k' f' = μ k' f' := fun e => updP_ne _ _ (fun ⟨e', _⟩ => e e')
  refine ⟨⟨fun k' f' o' hl => ?_, fun k1 f1 o1 k2 f2 o2 b h1 h2 m1 m2 => ?_, fun k' f' o' b hl hm => ?_, fun k' f' o' b hl hm => ?_, fun b hb => ?_, H.fsrc, (H.ev.trans V), H.os, H.tape, H.output, ?_, fun b h1 h2 => ?_⟩, V⟩
  · rcases look k' f' o' hl with ⟨rfl, rfl, rfl⟩ | ⟨e, hl⟩
    · rw [updP_same]
      refine .inr ⟨_, cs, rfl, Go.heap_alloc_new w _, fun i cells hi => ⟨(hcs i cells hi).1, fun j c hj => ?_⟩⟩
      obtain ⟨u, hu, hr⟩ := (hcs i cells hi).2 j c hj
      exact ⟨u, hu, hr.evo V⟩
    · rw [hne e]
      exact (H.ob k' f' o' hl).evo V fun b hm => hold b (H.lt hl hm)
  · rcases look _ _ _ h1 with ⟨rfl, rfl, rfl⟩ | ⟨e1, l1⟩
    · rcases look _ _ _ h2 with ⟨rfl, rfl, rfl⟩ | ⟨e2, l2⟩
      · exact ⟨rfl, rfl⟩
      · rw [updP_same] at m1; rw [hne e2] at m2
        injection m1 with m1
        have := H.lt l2 m2
        omega
    · rcases look _ _ _ h2 with ⟨rfl, rfl, rfl⟩ | ⟨e2, l2⟩
      · rw [updP_same] at m2; rw [hne e1] at m1
        injection m2 with m2
        have := H.lt l1 m1
        omega
      · rw [hne e1] at m1; rw [hne e2] at m2
        exact H.inj _ _ _ _ _ _ b l1 l2 m1 m2
  · rcases look _ _ _ hl with ⟨rfl, rfl, rfl⟩ | ⟨e, hl⟩
    · rw [updP_same] at hm
      injection hm with hm
      intro hb
      have := H.fz b hb
      omega
    · rw [hne e] at hm; exact H.sep _ _ _ b hl hm
  · rcases look _ _ _ hl with ⟨rfl, rfl, rfl⟩ | ⟨e, hl⟩
    · rw [updP_same] at hm
      injection hm with hm
      have := H.size
      exact .inr (by omega)
    · rw [hne e] at hm; exact H.src _ _ _ b hl hm
  · have := H.fz b hb
    simp; omega
  · have := H.size
    simp; omega
  · have := H.size
    exact (hold b (by omega)).trans (H.keep b h1 h2)

/-- a new block that is frozen at once -/
theorem HInv.ice (H : HInv E F μ h w) (ob : Obj) :
    HInv E (fun b => F b ∨ b = w.heap.size) μ h (w.alloc ob) ∧ Evo w F μ h (w.alloc ob) (fun b => F b ∨ b = w.heap.size) μ h := by
  have hold : ∀ b, b < w.heap.size → (w.alloc ob).heap[b]? = w.heap[b]? := fun b hb => Below.heap_alloc w _ b hb
  have V : Evo w F μ h (w.alloc ob) (fun b => F b ∨ b = w.heap.size) μ h := by
    refine ⟨fun b hb => hold b (H.fz b hb), fun _ hb => .inl hb, fun _ hb => hb, fun k f o' hb ho' => ⟨o', ho', .inr ⟨rfl, rfl, rfl, fun b cur hm hc => ⟨cur, ?_, rfl⟩⟩⟩⟩
    rw [hold b (H.lt ho' hm)]; exact hc
  refine ⟨⟨fun k f o hl => (H.ob k f o hl).evo V (fun b hm => hold b (H.lt hl hm)), H.inj, fun k f o b hl hm hb => ?_, H.src, fun b hb => ?_, fun b hb => ?_, (H.ev.trans V), H.os, H.tape, H.output, ?_, fun b h1 h2 => ?_⟩, V⟩
  · rcases hb with hb | hb
    · exact H.sep _ _ _ b hl hm hb
    · have := H.lt hl hm; omega
  · rcases hb with hb | hb
    · have := H.fz b hb; simp; omega
    · simp; omega
  · rcases hb with hb | hb
    · exact H.fsrc b hb
    · have := H.size; exact .inr (.inr (by omega))
  · have := H.size
    simp; omega
  · have := H.size
    exact (hold b (by omega)).trans (H.keep b h1 h2)

/-- an own object is written, or moves to a new block -/
theorem HInv.put (H : HInv E F μ h w) {k f : Nat} {l : List AObj} {o o' : AObj} (hk : h k = .live l) (hf : l[f]? = some o) (b' : Nat) (cur' : Array Value)
    (hsz : w.heap.size ≤ w'.heap.size) (hos : w'.os = w.os) (htp : w'.tape = w.tape) (hout : w'.output = w.output)
    (hoth : ∀ b, b < w.heap.size → μ k f ≠ some b → w'.heap[b]? = w.heap[b]?)
    (hnew : μ k f = some b' ∨ w.heap.size ≤ b') (hlt : b' < w'.heap.size) (hcur : w'.heap[b']? = some (.cells cur' o'.ty (0, 0)))
    (hlen : o.cs.len < o'.cs.len ∨ (o.cs.len = o'.cs.len ∧ o.sz = o'.sz ∧ o.ty = o'.ty ∧ μ k f = some b' ∧ ∀ cur, w.heap[b']? = some (.cells cur o.ty (0, 0)) → cur'.size = cur.size))
    (hcs : ∀ i cells, o'.cs.get i = some cells → cells.length = o'.sz ∧ ∀ (j : Nat) (c : AV), cells[j]? = some c → ∃ u, cur'[i * o'.sz + j]? = some u ∧ ARep w F μ h u c) :
    HInv E F (updP μ k f (some b')) (upd h k (.live (l.set f o'))) w' ∧ Evo w F μ h w' F (updP μ k f (some b')) (upd h k (.live (l.set f o'))) := by
  have hlo : lv h k f = some o := (lv_live hk f).trans hf
  have hfl : f < l.length := (List.getElem?_eq_some_iff.1 hf).1
  have look : ∀ k' f' o1, lv (upd h k (.live (l.set f o'))) k' f' = some o1 → (k' = k ∧ f' = f ∧ o1 = o') ∨ (¬ (k' = k ∧ f' = f) ∧ lv h k' f' = some o1) := fun k' f' o1 hl => by
    by_cases e : k' = k
    · subst e
      rw [lv_upd_same] at hl
      by_cases e2 : f' = f
      · subst e2
        rw [List.getElem?_set_self hfl] at hl
        injection hl with hl
        exact .inl ⟨rfl, rfl, hl.symm⟩
      · rw [List.getElem?_set_ne (fun e => e2 e.symm)] at hl
        exact .inr ⟨fun ⟨_, e3⟩ => e2 e3, (lv_live hk f').trans hl⟩
    · rw [lv_upd_ne _ _ _ e] at hl; exact .inr ⟨fun ⟨e3, _⟩ => e e3, hl⟩
  have other : ∀ {k' f' o1 b}, ¬ (k' = k ∧ f' = f) → lv h k' f' = some o1 → μ k' f' = some b → w'.heap[b]? = w.heap[b]? := fun hne hl hm =>
    hoth _ (H.lt hl hm) (fun e => hne (H.inj _ _ _ _ _ _ _ hl hlo hm e))
  have frz : ∀ b, F b → w'.heap[b]? = w.heap[b]? := fun b hb => hoth b (H.fz b hb) (fun e => H.sep _ _ _ b hlo e hb)
  have V : Evo w F μ h w' F (updP μ k f (some b')) (upd h k (.live (l.set f o'))) := by
    refine ⟨frz, fun _ hb => hb, fun k' hb => ?_, fun k' f' o1 hb ho1 => ?_⟩
    · by_cases e : k' = k
      · subst e; rw [upd_same]; intro e; cases e
      · rw [upd_ne _ _ e]; exact hb
    · rcases look _ _ _ ho1 with ⟨rfl, rfl, rfl⟩ | ⟨hne, hl⟩
      · refine ⟨o, hlo, hlen.imp id fun ⟨a1, a2, a3, a4, a5⟩ => ⟨a1, a2, by rw [updP_same, a4], fun b cur hm hc => ?_⟩⟩
        rw [a4] at hm
        injection hm with hm
        subst hm
        exact ⟨cur', hcur, a5 cur hc⟩
      · refine ⟨o1, hl, .inr ⟨rfl, rfl, updP_ne _ _ hne, fun b cur hm hc => ⟨cur, ?_, rfl⟩⟩⟩
        rw [other hne hl hm]; exact hc
  refine ⟨⟨fun k' f' o1 hl => ?_, fun k1 f1 o1 k2 f2 o2 b h1 h2 m1 m2 => ?_, fun k' f' o1 b hl hm => ?_, fun k' f' o1 b hl hm => ?_, fun b hb => ?_, H.fsrc, (H.ev.trans V), hos.trans H.os, htp.trans H.tape, hout.trans H.output, ?_, fun b h1 h2 => ?_⟩, V⟩
  · rcases look _ _ _ hl with ⟨rfl, rfl, rfl⟩ | ⟨hne, hl⟩
    · rw [updP_same]
      refine .inr ⟨b', cur', rfl, hcur, fun i cells hi => ⟨(hcs i cells hi).1, fun j c hj => ?_⟩⟩
      obtain ⟨u, hu, hr⟩ := (hcs i cells hi).2 j c hj
      exact ⟨u, hu, hr.evo V⟩
    · rw [updP_ne _ _ hne]
      exact (H.ob _ _ _ hl).evo V fun b hm => other hne hl hm
  · have two : ∀ {k' f' o1}, ¬ (k' = k ∧ f' = f) → lv h k' f' = some o1 → μ k' f' = some b → b ≠ b' := fun hne hl hm e => by
      rcases hnew with e2 | e2
      · subst e; exact hne (H.inj _ _ _ _ _ _ _ hl hlo hm e2)
      · have := H.lt hl hm; omega
    rcases look _ _ _ h1 with ⟨rfl, rfl, rfl⟩ | ⟨e1, l1⟩
    · rcases look _ _ _ h2 with ⟨rfl, rfl, rfl⟩ | ⟨e2, l2⟩
      · exact ⟨rfl, rfl⟩
      · rw [updP_same] at m1; rw [updP_ne _ _ e2] at m2
        injection m1 with m1
        exact absurd m1.symm (two e2 l2 m2)
    · rcases look _ _ _ h2 with ⟨rfl, rfl, rfl⟩ | ⟨e2, l2⟩
      · rw [updP_same] at m2; rw [updP_ne _ _ e1] at m1
        injection m2 with m2
        exact absurd m2.symm (two e1 l1 m1)
      · rw [updP_ne _ _ e1] at m1; rw [updP_ne _ _ e2] at m2
        exact H.inj _ _ _ _ _ _ b l1 l2 m1 m2
  · rcases look _ _ _ hl with ⟨rfl, rfl, rfl⟩ | ⟨hne, hl⟩
    · rw [updP_same] at hm
      injection hm with hm
      subst hm
      rcases hnew with e2 | e2
      · exact H.sep _ _ _ _ hlo e2
      · intro hb; have := H.fz _ hb; omega
    · rw [updP_ne _ _ hne] at hm; exact H.sep _ _ _ b hl hm
  · rcases look _ _ _ hl with ⟨rfl, rfl, rfl⟩ | ⟨hne, hl⟩
    · rw [updP_same] at hm
      injection hm with hm
      subst hm
      rcases hnew with e2 | e2
      · exact H.src _ _ _ _ hlo e2
      · have := H.size; exact .inr (by omega)
    · rw [updP_ne _ _ hne] at hm; exact H.src _ _ _ b hl hm
  · have := H.fz b hb; omega
  · have := H.size; omega
  · by_cases e : μ k f = some b
    · rcases H.src _ _ _ _ hlo e with h3 | h3
      · exact absurd h3 h2
      · omega
    · have := H.size
      exact (hoth b (by omega) e).trans (H.keep b h1 h2)

/-- an own object is given up -/
theorem HInv.drop (H : HInv E F μ h w) (k : Nat) (hk : h k ≠ .no) : HInv E F μ (upd h k .dead) w ∧ Evo w F μ h w F μ (upd h k .dead) := by
  have look : ∀ k' f' o1, lv (upd h k .dead) k' f' = some o1 → lv h k' f' = some o1 := fun k' f' o1 hl => by
    by_cases e : k' = k
    · subst e; simp [lv, upd_same] at hl
    · rwa [lv_upd_ne _ _ _ e] at hl
  have V : Evo w F μ h w F μ (upd h k .dead) := by
    refine ⟨fun _ _ => rfl, fun _ hb => hb, fun k' hb => ?_, fun k' f' o1 hb ho1 => ⟨o1, look _ _ _ ho1, .inr ⟨rfl, rfl, rfl, fun b cur _ hc => ⟨cur, hc, rfl⟩⟩⟩⟩
    by_cases e : k' = k
    · subst e; rw [upd_same]; intro e; cases e
    · rw [upd_ne _ _ e]; exact hb
  exact ⟨⟨fun k' f' o1 hl => (H.ob _ _ _ (look _ _ _ hl)).evo V (fun _ _ => rfl), fun k1 f1 o1 k2 f2 o2 b h1 h2 => H.inj _ _ _ _ _ _ b (look _ _ _ h1) (look _ _ _ h2), fun k' f' o1 b hl => H.sep _ _ _ b (look _ _ _ hl),
    fun k' f' o1 b hl => H.src _ _ _ b (look _ _ _ hl), H.fz, H.fsrc, (H.ev.trans V), H.os, H.tape, H.output, H.size, H.keep⟩, V⟩
/-- a virtual object: a nil slice -/
theorem HInv.adopt (H : HInv E F μ h w) (k : Nat) (hk : h k = .no) (o : AObj) (ho : o.cs.len = 0) : HInv E F (updP μ k 0 none) (upd h k (.live [o])) w ∧ Evo w F μ h w F (updP μ k 0 none) (upd h k (.live [o])) := by
  have look : ∀ k' f' o', lv (upd h k (.live [o])) k' f' = some o' → (k' = k ∧ f' = 0 ∧ o' = o) ∨ (k' ≠ k ∧ lv h k' f' = some o') := fun k' f' o' hl => by
    by_cases e : k' = k
    · subst e
      rw [lv_upd_same] at hl
      cases f' with
      | zero => simp at hl; exact .inl ⟨rfl, rfl, hl.symm⟩
      | succ n => simp at hl
    · rw [lv_upd_ne _ _ _ e] at hl; exact .inr ⟨e, hl⟩
  have hne : ∀ {k' f'}, k' ≠ k → updP μ k 0 none k' f' = μ k' f' := fun e => updP_ne _ _ (fun ⟨e', _⟩ => e e')
  have V : Evo w F μ h w F (updP μ k 0 none) (upd h k (.live [o])) := by
    refine ⟨fun _ _ => rfl, fun _ hb => hb, fun k' hb => ?_, fun k' f o' hb ho' => ?_⟩
    · by_cases e : k' = k
      · rw [e] at hb; exact absurd hk hb
      · rw [upd_ne _ _ e]; exact hb
    · have e : k' ≠ k := fun e => by rw [e] at hb; exact hb hk
      rw [lv_upd_ne _ _ _ e] at ho'
      exact ⟨o', ho', .inr ⟨rfl, rfl, hne e, fun b cur _ hc => ⟨cur, hc, rfl⟩⟩⟩
  have real : ∀ {k' f' o' b}, lv (upd h k (.live [o])) k' f' = some o' → updP μ k 0 none k' f' = some b → lv h k' f' = some o' ∧ μ k' f' = some b := fun hl hm => by
    rcases look _ _ _ hl with ⟨rfl, rfl, rfl⟩ | ⟨e, hl⟩
    · rw [updP_same] at hm; cases hm
    · rw [hne e] at hm; exact ⟨hl, hm⟩
  refine ⟨⟨fun k' f' o' hl => ?_, fun k1 f1 o1 k2 f2 o2 b h1 h2 m1 m2 => H.inj _ _ _ _ _ _ b (real h1 m1).1 (real h2 m2).1 (real h1 m1).2 (real h2 m2).2, fun k' f' o' b hl hm => H.sep _ _ _ b (real hl hm).1 (real hl hm).2,
    fun k' f' o' b hl hm => H.src _ _ _ b (real hl hm).1 (real hl hm).2, H.fz, H.fsrc, (H.ev.trans V), H.os, H.tape, H.output, H.size, H.keep⟩, V⟩
  rcases look _ _ _ hl with ⟨rfl, rfl, rfl⟩ | ⟨e, hl⟩
  · exact .inl ⟨updP_same _ _ _ _, ho⟩
  · rw [hne e]; exact (H.ob _ _ _ hl).evo V (fun _ _ => rfl)
end
end Go.Proofs.YtjhadibjjldpdaaGreat
