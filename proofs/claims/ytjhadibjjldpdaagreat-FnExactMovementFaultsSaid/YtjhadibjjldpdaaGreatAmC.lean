/- An abstract machine, C: keys renamed, handles seen as data, calls. No program. -/
import Derived.Test.YtjhadibjjldpdaaGreatAmB
namespace Go.Proofs.YtjhadibjjldpdaaGreat
open Go.RowKit
set_option linter.unusedVariables false
set_option maxRecDepth 100000

mutual
def AV.ren (ι : Nat → Nat) : AV → AV
  | .d x => .d x
  | .agg cs => .agg (AV.renL ι cs)
  | .tup cs => .tup (AV.renL ι cs)
  | .ref cs => .ref cs
  | .ptr k f n i j => .ptr (ι k) f n i j
  | .own k f n => .own (ι k) f n
  | .fn g cs => .fn g (AV.renL ι cs)
  | .dead => .dead
def AV.renL (ι : Nat → Nat) : List AV → List AV
  | [] => []
  | c :: cs => c.ren ι :: AV.renL ι cs
end
theorem renL_get (ι : Nat → Nat) : ∀ (cs : List AV) (i : Nat), (AV.renL ι cs)[i]? = (cs[i]?).map (AV.ren ι)
  | [], i => by simp [AV.renL]
  | c :: cs, 0 => by simp [AV.renL]
  | c :: cs, i + 1 => by simp [AV.renL, renL_get ι cs i]
theorem renL_len (ι : Nat → Nat) : ∀ (cs : List AV), (AV.renL ι cs).length = cs.length
  | [] => rfl
  | c :: cs => by simp [AV.renL, renL_len ι cs]
theorem renL_d (ι : Nat → Nat) : ∀ (xs : List DV), AV.renL ι (xs.map .d) = xs.map .d
  | [] => rfl
  | x :: xs => by simp [AV.renL, AV.ren, renL_d ι xs]
def Cells.ren (ι : Nat → Nat) : Cells → Cells
  | .data es => .data es
  | .av es => .av (es.map (AV.renL ι))
theorem Cells.ren_len (ι : Nat → Nat) (c : Cells) : (c.ren ι).len = c.len := by cases c <;> simp [Cells.ren, Cells.len]
theorem Cells.ren_get (ι : Nat → Nat) (c : Cells) (i : Nat) : (c.ren ι).get i = (c.get i).map (AV.renL ι) := by
  cases c with
  | data es => simp only [Cells.ren, Cells.get]; cases es[i]? <;> simp [renL_d]
  | av es => simp [Cells.ren, Cells.get]
def AObj.ren (ι : Nat → Nat) (o : AObj) : AObj := ⟨o.ty, o.sz, o.cs.ren ι⟩
def Slot.ren (ι : Nat → Nat) : Slot → Slot
  | .no => .no
  | .dead => .dead
  | .live l => .live (l.map (AObj.ren ι))

/-- heap 'h' under names ι -/
structure Ren (ι : Nat → Nat) (μ : Places) (h : Heap) (μ' : Places) (h' : Heap) : Prop where
  h : ∀ p, h' (ι p) = (h p).ren ι
  m : ∀ p f, μ' (ι p) f = μ p f
theorem Ren.lv_ {ι : Nat → Nat} {μ μ' : Places} {h h' : Heap} (R : Ren ι μ h μ' h') (p f : Nat) : lv h' (ι p) f = (lv h p f).map (AObj.ren ι) := by
  unfold lv
  rw [R.h p]
  cases h p <;> simp [Slot.ren]
theorem Ren.no_ {ι : Nat → Nat} {μ μ' : Places} {h h' : Heap} (R : Ren ι μ h μ' h') (p : Nat) : h' (ι p) = .no ↔ h p = .no := by
  rw [R.h p]
  cases h p <;> simp [Slot.ren]
theorem ARep.ren {ι : Nat → Nat} {μ μ' : Places} {h h' : Heap} (R : Ren ι μ h μ' h') {w : World} {F : Nat → Prop} {v : Value} {a : AV} (r : ARep w F μ h v a) : ARep w F μ' h' v (a.ren ι) := by
  induction r with
  | d v x hd => exact .d v x hd
  | agg vs cs hs hr ih =>
    refine .agg vs _ (by rw [hs, renL_len]) fun i v c hv hc => ?_
    rw [renL_get] at hc
    obtain ⟨c', hc', rfl⟩ := Option.map_eq_some_iff.1 hc
    exact ih i v c' hv hc'
  | tup vs cs hs hr ih =>
    refine .tup vs _ (by rw [hs, renL_len]) fun i v c hv hc => ?_
    rw [renL_get] at hc
    obtain ⟨c', hc', rfl⟩ := Option.map_eq_some_iff.1 hc
    exact ih i v c' hv hc'
  | ref b off cs g hF hg hr => exact .ref b off cs g hF hg hr
  | ptr v k f n i j h1 hb hv =>
    refine .ptr v _ f n i j h1 (fun e => hb ((R.no_ k).1 e)) fun o' ho' => ?_
    rw [R.lv_] at ho'
    obtain ⟨o, ho, rfl⟩ := Option.map_eq_some_iff.1 ho'
    rw [R.m]
    simpa [AObj.ren, Cells.ren_len] using hv o ho
  | own v k f n h1 hb hv =>
    refine .own v _ f n h1 (fun e => hb ((R.no_ k).1 e)) fun o' ho' => ?_
    rw [R.lv_] at ho'
    obtain ⟨o, ho, rfl⟩ := Option.map_eq_some_iff.1 ho'
    rw [R.m]
    simpa [AObj.ren, Cells.ren_len, OwnV] using hv o ho
  | fn g vs cs hs hr ih =>
    refine .fn g vs _ (by rw [hs, renL_len]) fun i v c hv hc => ?_
    rw [renL_get] at hc
    obtain ⟨c', hc', rfl⟩ := Option.map_eq_some_iff.1 hc
    exact ih i v c' hv hc'
  | dead v => exact .dead v
theorem ARep.unren {ι : Nat → Nat} {μ μ' : Places} {h h' : Heap} (R : Ren ι μ h μ' h') {w : World} {F : Nat → Prop} {v : Value} {b : AV} (r : ARep w F μ' h' v b) : ∀ a : AV, b = a.ren ι → ARep w F μ h v a := by
  induction r with
  | d v x hd => intro a e; cases a <;> simp [AV.ren] at e; subst e; exact .d v _ hd
  | agg vs cs hs hr ih =>
    intro a e
    cases a <;> simp [AV.ren] at e
    rename_i cs'
    subst e
    refine .agg vs _ (by rw [hs, renL_len]) fun i v c hv hc => ih i v _ hv (by rw [renL_get, hc]; rfl) c rfl
  | tup vs cs hs hr ih =>
    intro a e
    cases a <;> simp [AV.ren] at e
    rename_i cs'
    subst e
    refine .tup vs _ (by rw [hs, renL_len]) fun i v c hv hc => ih i v _ hv (by rw [renL_get, hc]; rfl) c rfl
  | ref b off cs g hF hg hr => intro a e; cases a <;> simp [AV.ren] at e; subst e; exact .ref b off _ g hF hg hr
  | ptr v k f n i j h1 hb hv =>
    intro a e
    cases a <;> simp [AV.ren] at e
    rename_i k' f' n' i' j'
    obtain ⟨rfl, rfl, rfl, rfl, rfl⟩ := e
    refine .ptr v k' _ _ _ _ h1 (fun e => hb ((R.no_ k').2 e)) fun o ho => ?_
    have := hv (o.ren ι) (by rw [R.lv_, ho]; rfl)
    rw [R.m] at this
    simpa [AObj.ren, Cells.ren_len] using this
  | own v k f n h1 hb hv =>
    intro a e
    cases a <;> simp [AV.ren] at e
    rename_i k' f' n'
    obtain ⟨rfl, rfl, rfl⟩ := e
    refine .own v k' _ _ h1 (fun e => hb ((R.no_ k').2 e)) fun o ho => ?_
    have := hv (o.ren ι) (by rw [R.lv_, ho]; rfl)
    rw [R.m] at this
    simpa [AObj.ren, Cells.ren_len, OwnV] using this
  | fn g vs cs hs hr ih =>
    intro a e
    cases a <;> simp [AV.ren] at e
    rename_i g' cs'
    obtain ⟨rfl, rfl⟩ := e
    refine .fn _ vs _ (by rw [hs, renL_len]) fun i v c hv hc => ih i v _ hv (by rw [renL_get, hc]; rfl) c rfl
  | dead v => intro a e; cases a <;> simp [AV.ren] at e; exact .dead v

/-! no by-value slices -/
def DV.flat : DV → Bool
  | .v _ => true
  | .sl _ => false
mutual
def AV.flat : AV → Bool
  | .d x => x.flat
  | .agg cs => AV.flatL cs
  | .tup cs => AV.flatL cs
  | .ref _ => false
  | .fn _ cs => AV.flatL cs
  | _ => true
def AV.flatL : List AV → Bool
  | [] => true
  | c :: cs => c.flat && AV.flatL cs
end
theorem flatL_get : ∀ {cs : List AV}, AV.flatL cs = true → ∀ {i : Nat} {c : AV}, cs[i]? = some c → c.flat = true
  | [], _, i, c, hc => by simp at hc
  | x :: cs, h, 0, c, hc => by simp [AV.flatL] at h hc; rw [← hc]; exact h.1
  | x :: cs, h, i + 1, c, hc => by simp [AV.flatL] at h hc; exact flatL_get h.2 hc
theorem ARep.reF {w : World} {F F' : Nat → Prop} {μ : Places} {h : Heap} {v : Value} {a : AV} (r : ARep w F μ h v a) : a.flat = true → ARep w F' μ h v a := by
  induction r with
  | d v x hd =>
    intro hf
    cases x with
    | v x => cases hd with | v _ h1 => exact .d _ _ (.v _ h1)
    | sl es => simp [AV.flat, DV.flat] at hf
  | agg vs cs hs hr ih => intro hf; exact .agg vs cs hs fun i v c hv hc => ih i v c hv hc (flatL_get (by simpa [AV.flat] using hf) hc)
  | tup vs cs hs hr ih => intro hf; exact .tup vs cs hs fun i v c hv hc => ih i v c hv hc (flatL_get (by simpa [AV.flat] using hf) hc)
  | ref b off cs g hF hg hr => intro hf; simp [AV.flat] at hf
  | ptr v k f n i j h1 hb hv => intro _; exact .ptr v k f n i j h1 hb hv
  | own v k f n h1 hb hv => intro _; exact .own v k f n h1 hb hv
  | fn g vs cs hs hr ih => intro hf; exact .fn g vs cs hs fun i v c hv hc => ih i v c hv hc (flatL_get (by simpa [AV.flat] using hf) hc)
  | dead v => intro _; exact .dead v
def Cells.flat : Cells → Prop
  | .data es => ∀ e ∈ es, ∀ x ∈ e, DV.flat x = true
  | .av es => ∀ e ∈ es, AV.flatL e = true
theorem aflat_get {c : Cells} (hf : c.flat) {i : Nat} {cells : List AV} (hi : c.get i = some cells) {j : Nat} {a : AV} (hj : cells[j]? = some a) : a.flat = true := by
  cases c with
  | data es =>
    simp only [Cells.get] at hi
    obtain ⟨e, he, rfl⟩ := Option.map_eq_some_iff.1 hi
    simp only [List.getElem?_map] at hj
    obtain ⟨x, hx, rfl⟩ := Option.map_eq_some_iff.1 hj
    exact hf e (List.mem_of_getElem? he) x (List.mem_of_getElem? hx)
  | av es => exact flatL_get (hf cells (List.mem_of_getElem? hi)) hj

/-! handles seen as data -/
inductive View (h : Heap) : AV → AV → Prop
  | d (x : DV) : View h (.d x) (.d x)
  | agg (cs ds : List AV) (hl : cs.length = ds.length) (hv : ∀ (i : Nat) (c d : AV), cs[i]? = some c → ds[i]? = some d → View h c d) : View h (.agg cs) (.agg ds)
  | tup (cs ds : List AV) (hl : cs.length = ds.length) (hv : ∀ (i : Nat) (c d : AV), cs[i]? = some c → ds[i]? = some d → View h c d) : View h (.tup cs) (.tup ds)
  | fn (g : FuncId) (cs ds : List AV) (hl : cs.length = ds.length) (hv : ∀ (i : Nat) (c d : AV), cs[i]? = some c → ds[i]? = some d → View h c d) : View h (.fn g cs) (.fn g ds)
  | ref (cs ds : List DV) (hp : ∀ (j : Nat) (x : DV), ds[j]? = some x → cs[j]? = some x) : View h (.ref cs) (.ref ds)
  | row (k f n : Nat) (o : AObj) (ds : List (List DV)) (ho : lv h k f = some o) (hn : o.cs.len = n) (hd : ds.length = n)
      (hc : ∀ (i : Nat) (e : List DV), ds[i]? = some e → ∃ cells, o.cs.get i = some cells ∧ cells.length = e.length)
      (hv : ∀ (i : Nat) (e : List DV) (cells : List AV) (j : Nat) (c : AV) (x : DV), ds[i]? = some e → o.cs.get i = some cells → cells[j]? = some c → e[j]? = some x → View h c (.d x)) :
      View h (.own k f n) (.d (.sl ds))
  | ptr (k f n i j : Nat) (o : AObj) (cells : List AV) (ds : List DV) (ho : lv h k f = some o) (hn : o.cs.len = n) (hi : o.cs.get i = some cells) (hl : ds.length ≤ cells.length - j)
      (hv : ∀ (t : Nat) (c : AV) (x : DV), cells[j + t]? = some c → ds[t]? = some x → View h c (.d x)) : View h (.ptr k f n i j) (.ref ds)
theorem View.data {h : Heap} {k f n : Nat} {o : AObj} {es : List (List DV)} (ho : lv h k f = some o) (hc : o.cs = .data es) (hn : es.length = n) : View h (.own k f n) (.d (.sl es)) := by
  refine .row k f n o es ho (by rw [hc]; exact hn) hn (fun i e he => ⟨e.map .d, by rw [hc]; simp [Cells.get, he], by simp⟩) fun i e cells j c x he hi hj hx => ?_
  rw [hc] at hi
  simp only [Cells.get, he, Option.map_some, Option.some.injEq] at hi
  subst hi
  simp only [List.getElem?_map, hx, Option.map_some, Option.some.injEq] at hj
  subst hj
  exact .d x
theorem ARep.view {E : Env} {F : Nat → Prop} {μ : Places} {h : Heap} {w : World} (H : HInv E F μ h w) {μ2 : Places} {h2 : Heap} {a a' : AV} (V : View h a a') :
    ∀ v, ARep w F μ h v a → ARep w (fun b => F b ∨ OwnB μ h b) μ2 h2 v a' := by
  induction V with
  | d x => intro v r; cases r with | d v x hd => exact .d v x (hd.mono (fun _ _ => rfl) (fun _ => .inl))
  | agg cs ds hl hv ih =>
    intro v r
    cases r with | agg vs cs hs hr =>
    refine .agg vs ds (hs.trans hl) fun i v d hi hd => ?_
    have hlt : i < ds.length := (List.getElem?_eq_some_iff.1 hd).1
    exact ih i _ d (List.getElem?_eq_getElem (by omega)) hd v (hr i v _ hi (List.getElem?_eq_getElem (by omega)))
  | tup cs ds hl hv ih =>
    intro v r
    cases r with | tup vs cs hs hr =>
    refine .tup vs ds (hs.trans hl) fun i v d hi hd => ?_
    have hlt : i < ds.length := (List.getElem?_eq_some_iff.1 hd).1
    exact ih i _ d (List.getElem?_eq_getElem (by omega)) hd v (hr i v _ hi (List.getElem?_eq_getElem (by omega)))
  | fn g cs ds hl hv ih =>
    intro v r
    cases r with | fn g vs cs hs hr =>
    refine .fn g vs ds (hs.trans hl) fun i v d hi hd => ?_
    have hlt : i < ds.length := (List.getElem?_eq_some_iff.1 hd).1
    exact ih i _ d (List.getElem?_eq_getElem (by omega)) hd v (hr i v _ hi (List.getElem?_eq_getElem (by omega)))
  | ref cs ds hp => intro v r; cases r with | ref b off cs g hF hg hr => exact .ref b off ds g (.inl hF) (fun j x hx => hg j x (hp j x hx)) fun j x hx => (hr j x (hp j x hx)).mono (fun _ _ => rfl) (fun _ => .inl)
  | row k f n o ds ho hn hd hc hv ih =>
    intro v r
    cases r with | own v k f n h10 hb hv' =>
    rcases (hv' o ho).2 hn with ⟨h1, h2, h3⟩ | ⟨b, c, cur, h1, h2, h3, h4, h5, h6⟩
    · subst h3
      have : ds = [] := List.eq_nil_of_length_eq_zero (by omega)
      subst this
      exact .d _ _ .nil
    · subst h2
      have hob := H.ob k f o ho
      rcases hob with ⟨h7, _⟩ | ⟨b', cur', h7, h8, h9⟩
      · rw [h1] at h7; cases h7
      · rw [h1] at h7
        injection h7 with h7
        subst h7
        rw [h3] at h8
        injection h8 with h8
        injection h8 with h8
        subst h8
        refine .d _ _ ?_
        rw [← hd]
        have cellAt : ∀ (i : Nat) (e : List DV) (j : Nat) (x : DV), ds[i]? = some e → e[j]? = some x → ∃ cells c u, o.cs.get i = some cells ∧ cells[j]? = some c ∧ cur[i * o.sz + j]? = some u ∧ ARep w F μ h u c := by
          intro i e j x he hx
          obtain ⟨cells, hci, hcl⟩ := hc i e he
          have hj : j < e.length := (List.getElem?_eq_some_iff.1 hx).1
          obtain ⟨u, hu, hr⟩ := (h9 i cells hci).2 j _ (List.getElem?_eq_getElem (show j < cells.length by omega))
          exact ⟨cells, _, u, hci, List.getElem?_eq_getElem (by omega), hu, hr⟩
        refine .sl b 0 c o.sz ds (fun i j => cur.getD (i * o.sz + j) undef) (.inr ⟨k, f, o, ho, h1⟩) (by omega) h6 (fun i e he => ?_) (fun i e j x he hx => ?_) (fun i e j x he hx => ?_)
        · obtain ⟨cells, hci, hcl⟩ := hc i e he
          exact hcl.symm.trans (h9 i cells hci).1
        · obtain ⟨cells, c', u, _, _, hu, _⟩ := cellAt i e j x he hx
          rw [Nat.zero_add, cell_of_row w b _ cur o.ty (0, 0) h3, hu]
          simp [hu]
        · obtain ⟨cells, c', u, hci, hcj, hu, hr⟩ := cellAt i e j x he hx
          have := ih i e cells j c' x he hci hcj hx u hr
          have e1 : cur.getD (i * o.sz + j) undef = u := by simp [hu]
          rw [e1]
          cases this with | d _ _ hd => exact hd
  | ptr k f n i j o cells ds ho hn hi hl hv ih =>
    intro v r
    cases r with | ptr v k f n i j h10 hb hv' =>
    obtain ⟨b, h1, rfl⟩ := (hv' o ho).2 hn
    rcases H.ob k f o ho with ⟨h7, _⟩ | ⟨b', cur, h7, h8, h9⟩
    · rw [h1] at h7; cases h7
    · rw [h1] at h7
      injection h7 with h7
      subst h7
      have cellAt : ∀ (t : Nat) (x : DV), ds[t]? = some x → ∃ c u, cells[j + t]? = some c ∧ cur[i * o.sz + (j + t)]? = some u ∧ ARep w F μ h u c := by
        intro t x hx
        have ht : t < ds.length := (List.getElem?_eq_some_iff.1 hx).1
        obtain ⟨u, hu, hr⟩ := (h9 i cells hi).2 (j + t) _ (List.getElem?_eq_getElem (show j + t < cells.length by omega))
        exact ⟨_, u, List.getElem?_eq_getElem (by omega), hu, hr⟩
      refine .ref b _ ds (fun t => cur.getD (i * o.sz + (j + t)) undef) (.inr ⟨k, f, o, ho, h1⟩) (fun t x hx => ?_) (fun t x hx => ?_)
      · obtain ⟨c, u, _, hu, _⟩ := cellAt t x hx
        rw [cell_of_row w b _ cur o.ty (0, 0) h8, Nat.add_assoc, hu]
        simp [hu]
      · obtain ⟨c, u, hcj, hu, hr⟩ := cellAt t x hx
        have := ih t c x hcj hx u hr
        have e1 : cur.getD (i * o.sz + (j + t)) undef = u := by simp [hu]
        rw [e1]
        cases this with | d _ _ hd => exact hd

/-! contracts -/
def lks (hs : List Slot) : Heap := fun p => hs.getD p .no
def FnG (P : Program) (f : FuncId) (hin : List Slot) (args : List AV) (hout : List Slot) (r : AV) : Prop :=
  ∀ (w : World) (F : Nat → Prop) (μ : Places) (vs : Array Value) (gl : Glob F w), HInv ⟨w, F, μ, lks hin, gl⟩ F μ (lks hin) w → vs.size = args.length →
    (∀ (i : Nat) v a, vs[i]? = some v → args[i]? = some a → ARep w F μ (lks hin) v a) →
    Calls P f vs w fun e w' => ∃ v F' μ', e = .returned v ∧ HInv ⟨w, F, μ, lks hin, gl⟩ F' μ' (lks hout) w' ∧ ARep w' F' μ' (lks hout) v r
abbrev Fn (P : Program) (f : FuncId) (args : List AV) (hout : List Slot) (r : AV) : Prop := FnG P f [] args hout r
end Go.Proofs.YtjhadibjjldpdaaGreat
