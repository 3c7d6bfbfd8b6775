/- An abstract machine, Z: rows whose elements hold own slices: their families. No program. -/
import Derived.Test.YtjhadibjjldpdaaGreatAmY
namespace Go.Proofs.YtjhadibjjldpdaaGreat
open Go.RowKit
set_option linter.unusedVariables false
set_option maxRecDepth 100000

theorem nestL_set {α : Type} {kf m : Nat} {c : α → List DV} {x : List α} {a : α} : (nestL kf c x).set m (nestC kf m (c a)) = nestL kf c (x.set m a) := by
  apply List.ext_getElem?
  intro i
  rw [nestL_get]
  by_cases e : i = m
  · subst e
    by_cases hl : i < x.length
    · rw [List.getElem?_set_self (by rw [nestL_len]; exact hl), List.getElem?_set_self hl]; rfl
    · rw [List.getElem?_eq_none (by simp [nestL_len]; omega), List.getElem?_eq_none (by simp; omega)]; rfl
  · rw [List.getElem?_set_ne (Ne.symm e), List.getElem?_set_ne (Ne.symm e), nestL_get]
theorem famL_same {α : Type} {ft : TypeId} {fz m : Nat} {c : α → List DV} {x : List α} {a a' : α} (he : x[m]? = some a) (hs : slOf (c a') = slOf (c a)) : famL ft fz c (x.set m a') = famL ft fz c x := by
  apply List.ext_getElem?
  intro i
  rw [famL_get, famL_get]
  by_cases e : i = m
  · subst e
    have hl := (List.getElem?_eq_some_iff.1 he).1
    rw [List.getElem?_set_self hl, he]; simp [hs]
  · rw [List.getElem?_set_ne (Ne.symm e)]
theorem nestL_same {α : Type} {kf m : Nat} {c : α → List DV} {x : List α} {a a' : α} (he : x[m]? = some a) (hs : nestC kf m (c a') = nestC kf m (c a)) : nestL kf c (x.set m a') = nestL kf c x := by
  rw [← nestL_set]
  apply List.ext_getElem?
  intro i
  by_cases e : i = m
  · subst e
    have hl := (List.getElem?_eq_some_iff.1 he).1
    rw [List.getElem?_set_self (by rw [nestL_len]; exact hl), nestL_get, he, hs]; rfl
  · rw [List.getElem?_set_ne (Ne.symm e)]
theorem famL_set {α : Type} {ft : TypeId} {fz m : Nat} {c : α → List DV} {x : List α} {a : α} : famL ft fz c (x.set m a) = (famL ft fz c x).set m ⟨ft, fz, .data (slOf (c a))⟩ := by simp [famL, List.map_set]
theorem upd_id (h : Heap) {k : Nat} {s : Slot} (hk : h k = s) : upd h k s = h := by
  funext p
  by_cases e : p = k
  · subst e; rw [upd_same, hk]
  · rw [upd_ne _ _ e]

section
variable {E : Env} {F F' : Nat → Prop} {μ μ' : Places} {h h' : Heap} {w : World}
/-- memory told anew: names and owners change, the world does not -/
theorem HInv.recast (H : HInv E F μ h w) (f1 : ∀ b, F b → F' b) (f2 : ∀ b, F' b → F b ∨ ∃ k f o, lv h k f = some o ∧ μ k f = some b) (born : ∀ k, h k ≠ .no → h' k ≠ .no)
    (old : ∀ k f o', h k ≠ .no → lv h' k f = some o' → ∃ o, lv h k f = some o ∧ o.cs.len = o'.cs.len ∧ o.sz = o'.sz ∧ o.ty = o'.ty ∧ μ' k f = μ k f)
    (g : Nat → Nat → Nat × Nat) (gs : ∀ k f o' b, lv h' k f = some o' → μ' k f = some b → ∃ o, lv h (g k f).1 (g k f).2 = some o ∧ μ (g k f).1 (g k f).2 = some b)
    (gi : ∀ k f k2 f2 o o2, lv h' k f = some o → lv h' k2 f2 = some o2 → g k f = g k2 f2 → k = k2 ∧ f = f2)
    (sep : ∀ k f o' b, lv h' k f = some o' → μ' k f = some b → ¬ F' b)
    (ob : Evo w F μ h w F' μ' h' → ∀ k f o', lv h' k f = some o' → ObjRep w F' μ' h' (μ' k f) o') : HInv E F' μ' h' w ∧ Evo w F μ h w F' μ' h' := by
  have V : Evo w F μ h w F' μ' h' := ⟨fun _ _ => rfl, f1, born, fun k f o' hk ho' => by
    obtain ⟨o, ho, a1, a2, a3, a4⟩ := old k f o' hk ho'
    exact ⟨o, ho, .inr ⟨a1, a2, a4, fun b cur hm hc => ⟨cur, by rw [← a3]; exact hc, rfl⟩⟩⟩⟩
  refine ⟨⟨ob V, fun k f o k2 f2 o2 b l1 l2 m1 m2 => ?_, sep, fun k f o' b hl hm => ?_, fun b hb => ?_, fun b hb => ?_, H.ev.trans V, H.os, H.tape, H.output, H.size, H.keep⟩, V⟩
  · obtain ⟨x1, y1, z1⟩ := gs _ _ _ _ l1 m1
    obtain ⟨x2, y2, z2⟩ := gs _ _ _ _ l2 m2
    have e := H.inj _ _ _ _ _ _ b y1 y2 z1 z2
    exact gi _ _ _ _ _ _ l1 l2 (Prod.ext e.1 e.2)
  · obtain ⟨x1, y1, z1⟩ := gs _ _ _ _ hl hm
    exact H.src _ _ _ b y1 z1
  · rcases f2 b hb with h1 | ⟨k, f, o, h1, h2⟩
    · exact H.fz b h1
    · exact H.lt h1 h2
  · rcases f2 b hb with h1 | ⟨k, f, o, h1, h2⟩
    · exact H.fsrc b h1
    · exact .inr (H.src _ _ _ b h1 h2)
end

section
variable {P : Program} {T : Tab} {L N : Nat} {ops : Array Oper} {E : Env} {K : List (Nat × Cls) → AS → Prop} {i : Nat} {is : List Nat} {t : Nat → AV} {h h' : Heap} {d : Tmp} {dst : Option Tmp} {op : Op} {ty : TypeId} {pos : String} {aft : Array Edge} {g : Option (Nat × Bool)} {Q : AExit → AS → Prop} {σ : AS} {c : Code} {x y : Operand}

theorem lv4 {k kf k2 kn : Nat} {s : Slot} {G' : List AObj} {p f : Nat} {o : AObj} (hl : lv (upd (upd (upd (upd h k s) kf .dead) k2 .dead) kn (.live G')) p f = some o) :
    (p = kn ∧ G'[f]? = some o) ∨ (p ≠ kn ∧ p ≠ k2 ∧ p ≠ kf ∧ p = k ∧ lv (upd h k s) k f = some o) ∨ (p ≠ kn ∧ p ≠ k2 ∧ p ≠ kf ∧ p ≠ k ∧ lv h p f = some o) := by
  by_cases e1 : p = kn
  · subst e1; rw [lv_upd_same] at hl; exact .inl ⟨rfl, hl⟩
  · rw [lv_upd_ne _ _ _ e1] at hl
    by_cases e2 : p = k2
    · subst e2; simp [lv, upd_same] at hl
    · rw [lv_upd_ne _ _ _ e2] at hl
      by_cases e3 : p = kf
      · subst e3; simp [lv, upd_same] at hl
      · rw [lv_upd_ne _ _ _ e3] at hl
        by_cases e4 : p = k
        · subst e4; exact .inr (.inl ⟨e1, e2, e3, rfl, hl⟩)
        · rw [lv_upd_ne _ _ _ e4] at hl; exact .inr (.inr ⟨e1, e2, e3, e4, hl⟩)
/-- an own object becomes a member of a family -/
theorem weak_absorb_ {k kf k2 kn m : Nat} {bt : TypeId} {sz : Nat} {R R' : List (List AV)} {G G' : List AObj} {o2 : AObj} (hk : h k = .live [⟨bt, sz, .av R⟩]) (hf : h kf = .live G) (h2 : h k2 = .live [o2]) (hn : h kn = .no) (hkf : k ≠ kf) (hk2 : k ≠ k2) (hkk : kf ≠ k2)
    (hG : ∀ (f : Nat) o, G'[f]? = some o → (f = m ∧ o = o2) ∨ (f ≠ m ∧ G[f]? = some o)) (hl : R'.length = R.length)
    (hR : ∀ (i : Nat) cells', R'[i]? = some cells' → ∃ cells, R[i]? = some cells ∧ cells'.length = cells.length ∧ ∀ (j : Nat) c', cells'[j]? = some c' → ∃ c, cells[j]? = some c ∧ (c = c' ∨ (∃ f n, f ≠ m ∧ c = .own kf f n ∧ c' = .own kn f n) ∨ ∃ n, c = .own k2 0 n ∧ c' = .own kn m n)) :
    Weak L N ⟨t, h⟩ ⟨t, upd (upd (upd (upd h k (.live [⟨bt, sz, .av R'⟩])) kf .dead) k2 .dead) kn (.live G')⟩ := by
  rintro E a w ⟨F, μ, A⟩
  have H := A.H
  dsimp only at H
  have n1 : kn ≠ k := fun e => by rw [e, hk] at hn; cases hn
  have n2 : kn ≠ kf := fun e => by rw [e, hf] at hn; cases hn
  have n3 : kn ≠ k2 := fun e => by rw [e, h2] at hn; cases hn
  have lk : ∀ {p f o}, lv (upd h k (.live [⟨bt, sz, .av R'⟩])) k f = some o → p = k → f = 0 ∧ o = ⟨bt, sz, .av R'⟩ := fun {p f o} hl _ => by
    rw [lv_upd_same] at hl
    cases f with
    | zero => simp at hl; exact ⟨rfl, hl.symm⟩
    | succ f => simp at hl
  have hGs : ∀ {f : Nat} {o}, G'[f]? = some o → ∃ o', lv h (if f = m then k2 else kf) (if f = m then 0 else f) = some o' ∧ o' = o := fun {f o} hg => by
    rcases hG f o hg with ⟨e, e2⟩ | ⟨e, e2⟩
    · rw [if_pos e, if_pos e]; exact ⟨o2, lv_of h2, e2.symm⟩
    · rw [if_neg e, if_neg e]; exact ⟨o, (lv_live hf f).trans e2, rfl⟩
  let μ' : Places := fun p f => if p = kn then μ (if f = m then k2 else kf) (if f = m then 0 else f) else μ p f
  have mkn : ∀ f, μ' kn f = μ (if f = m then k2 else kf) (if f = m then 0 else f) := fun f => if_pos rfl
  have mne : ∀ {p} f, p ≠ kn → μ' p f = μ p f := fun f e => if_neg e
  have bornn : ∀ p, h p ≠ .no → upd (upd (upd (upd h k (.live [⟨bt, sz, .av R'⟩])) kf .dead) k2 .dead) kn (.live G') p ≠ .no := fun p hp => by
    by_cases e1 : p = kn
    · rw [e1, upd_same]; intro e; cases e
    · rw [upd_ne _ _ e1]
      by_cases e2 : p = k2
      · rw [e2, upd_same]; intro e; cases e
      · rw [upd_ne _ _ e2]
        by_cases e3 : p = kf
        · rw [e3, upd_same]; intro e; cases e
        · rw [upd_ne _ _ e3]
          by_cases e4 : p = k
          · rw [e4, upd_same]; intro e; cases e
          · rw [upd_ne _ _ e4]; exact hp
  have bkn : upd (upd (upd (upd h k (.live [⟨bt, sz, .av R'⟩])) kf .dead) k2 .dead) kn (.live G') kn ≠ .no := by rw [upd_same]; intro e; cases e
  obtain ⟨H', V⟩ := H.recast (F' := F) (μ' := μ') (h' := upd (upd (upd (upd h k (.live [⟨bt, sz, .av R'⟩])) kf .dead) k2 .dead) kn (.live G')) (fun _ hb => hb) (fun _ hb => .inl hb) bornn
    (fun p f o' hp ho' => by
      rcases lv4 ho' with ⟨e, _⟩ | ⟨e1, _, _, e, hl⟩ | ⟨e1, _, _, _, hl⟩
      · rw [e] at hp; exact absurd hn hp
      · subst e
        obtain ⟨rfl, rfl⟩ := lk hl rfl
        exact ⟨_, lv_of hk, by simp [Cells.len, *], rfl, rfl, mne _ e1⟩
      · exact ⟨o', hl, rfl, rfl, rfl, mne _ e1⟩)
    (fun p f => if p = kn then (if f = m then k2 else kf, if f = m then 0 else f) else (p, f))
    (fun p f o' b ho' hm => by
      rcases lv4 ho' with ⟨e, hl⟩ | ⟨e1, _, _, e, hl⟩ | ⟨e1, _, _, _, hl⟩
      · subst e
        rw [mkn] at hm
        obtain ⟨o, ho, _⟩ := hGs hl
        simp only [if_pos]
        exact ⟨o, ho, hm⟩
      · subst e
        obtain ⟨rfl, rfl⟩ := lk hl rfl
        rw [mne _ e1] at hm
        simp only [if_neg e1]
        exact ⟨_, lv_of hk, hm⟩
      · rw [mne _ e1] at hm
        simp only [if_neg e1]
        exact ⟨o', hl, hm⟩)
    (fun p f p2 f2 o oo l1 l2 => by
      have d1 := lv4 l1
      have d2 := lv4 l2
      have c1 : p ≠ kn → p ≠ k2 ∧ p ≠ kf := fun e => by rcases d1 with ⟨e', _⟩ | ⟨_, a, b, _⟩ | ⟨_, a, b, _⟩ <;> first | exact absurd e' e | exact ⟨a, b⟩
      have c2 : p2 ≠ kn → p2 ≠ k2 ∧ p2 ≠ kf := fun e => by rcases d2 with ⟨e', _⟩ | ⟨_, a, b, _⟩ | ⟨_, a, b, _⟩ <;> first | exact absurd e' e | exact ⟨a, b⟩
      intro e
      by_cases q1 : p = kn <;> by_cases q2 : p2 = kn
      · rw [if_pos q1, if_pos q2] at e
        refine ⟨q1.trans q2.symm, ?_⟩
        by_cases r1 : f = m <;> by_cases r2 : f2 = m
        · rw [r1, r2]
        · rw [if_pos r1, if_neg r2] at e; exact absurd (Prod.ext_iff.1 e).1.symm hkk
        · rw [if_neg r1, if_pos r2] at e; exact absurd (Prod.ext_iff.1 e).1 hkk
        · simp only [if_neg r1, if_neg r2] at e; exact (Prod.ext_iff.1 e).2
      · rw [if_pos q1, if_neg q2] at e
        have := (Prod.ext_iff.1 e).1
        simp only at this
        obtain ⟨a, b⟩ := c2 q2
        split at this
        · exact absurd this.symm a
        · exact absurd this.symm b
      · rw [if_neg q1, if_pos q2] at e
        have := (Prod.ext_iff.1 e).1
        simp only at this
        obtain ⟨a, b⟩ := c1 q1
        split at this
        · exact absurd this a
        · exact absurd this b
      · rw [if_neg q1, if_neg q2] at e
        exact ⟨(Prod.ext_iff.1 e).1, (Prod.ext_iff.1 e).2⟩)
    (fun p f o' b ho' hm => by
      rcases lv4 ho' with ⟨e, hl⟩ | ⟨e1, _, _, e, hl⟩ | ⟨e1, _, _, _, hl⟩
      · subst e
        rw [mkn] at hm
        obtain ⟨o, ho, _⟩ := hGs hl
        exact H.sep _ _ _ b ho hm
      · subst e
        obtain ⟨rfl, rfl⟩ := lk hl rfl
        rw [mne _ e1] at hm
        exact H.sep _ _ _ b (lv_of hk) hm
      · rw [mne _ e1] at hm
        exact H.sep _ _ _ b hl hm)
    (fun V p f o' ho' => by
      rcases lv4 ho' with ⟨e, hl⟩ | ⟨e1, _, _, e, hl⟩ | ⟨e1, _, _, _, hl⟩
      · subst e
        rw [mkn]
        obtain ⟨o, ho, rfl⟩ := hGs hl
        exact (H.ob _ _ _ ho).evo V fun _ _ => rfl
      · subst e
        obtain ⟨rfl, rfl⟩ := lk hl rfl
        rw [mne _ e1]
        rcases H.ob p 0 _ (lv_of hk) with ⟨q1, q2⟩ | ⟨b, cur, q1, q2, q3⟩
        · exact .inl ⟨q1, by simpa [Cells.len, *] using q2⟩
        · refine .inr ⟨b, cur, q1, q2, fun i cells' hi => ?_⟩
          obtain ⟨cells, r1, r2, r3⟩ := hR i cells' hi
          obtain ⟨s1, s2⟩ := q3 i cells r1
          refine ⟨r2.trans s1, fun j c' hj => ?_⟩
          obtain ⟨c, hc, hcc⟩ := r3 j c' hj
          obtain ⟨u, hu, hr⟩ := s2 j c hc
          refine ⟨u, hu, ?_⟩
          rcases hcc with rfl | ⟨f, n, hfm, rfl, rfl⟩ | ⟨n, rfl, rfl⟩
          · exact hr.evo V
          · cases hr with | own _ _ _ _ g1 gb hv =>
            refine .own _ _ _ _ g1 bkn fun o ho => ?_
            rw [lv_upd_same] at ho
            rcases hG f o ho with ⟨e, _⟩ | ⟨_, e⟩
            · exact absurd e hfm
            · rw [mkn, if_neg hfm, if_neg hfm]
              exact hv o ((lv_live hf f).trans e)
          · cases hr with | own _ _ _ _ g1 gb hv =>
            refine .own _ _ _ _ g1 bkn fun o ho => ?_
            rw [lv_upd_same] at ho
            rcases hG m o ho with ⟨_, e⟩ | ⟨e, _⟩
            · rw [mkn, if_pos rfl, if_pos rfl, e]
              exact hv o2 (lv_of h2)
            · exact absurd rfl e
      · rw [mne _ e1]
        exact (H.ob _ _ _ hl).evo V fun _ _ => rfl)
  exact ⟨F, μ', H', A.df, A.sz, fun d hd => (A.tm d hd).evo V, A.lim⟩
/-- the cells of an element told by data -/
inductive NstC (kf i : Nat) : List AV → List DV → Prop
  | nil : NstC kf i [] []
  | v {x : Value} {cs : List AV} {ds : List DV} (q : NstC kf i cs ds) : NstC kf i (.d (.v x) :: cs) (.v x :: ds)
  | sl {n : Nat} {es : List (List DV)} {cs : List AV} {ds : List DV} (hn : n = es.length) (q : NstC kf i cs ds) : NstC kf i (.own kf i n :: cs) (.sl es :: ds)
theorem NstC.eq_ {kf i : Nat} {cs : List AV} {ds : List DV} (q : NstC kf i cs ds) : cs = nestC kf i ds := by
  induction q with
  | nil => rfl
  | v q ih => simp [nestC, ih]
  | sl hn q ih => simp [nestC, ih, hn]
theorem absorb_cells {α : Type} {kf kn k2 m i : Nat} {c : α → List DV} {a : α} (hi : i ≠ m) : ∀ (j : Nat) c', (nestC kn i (c a))[j]? = some c' → ∃ c0, (nestC kf i (c a))[j]? = some c0 ∧ (c0 = c' ∨ (∃ f n, f ≠ m ∧ c0 = .own kf f n ∧ c' = .own kn f n) ∨ ∃ n, c0 = .own k2 0 n ∧ c' = .own kn m n) := fun j c' hj => by
  rw [nestC_get] at hj
  obtain ⟨x, hx, rfl⟩ := Option.map_eq_some_iff.1 hj
  refine ⟨nestA kf i x, by rw [nestC_get, hx]; rfl, ?_⟩
  cases x with
  | v x => exact .inl rfl
  | sl es => exact .inr (.inl ⟨i, es.length, hi, rfl, rfl⟩)
theorem absorb_new {α : Type} {kf kn k2 m : Nat} {c : α → List DV} {a : α} : ∀ (j : Nat) c', (nestC kn m (c a))[j]? = some c' → ∃ c0, (nestC k2 0 (c a))[j]? = some c0 ∧ (c0 = c' ∨ (∃ f n, f ≠ m ∧ c0 = .own kf f n ∧ c' = .own kn f n) ∨ ∃ n, c0 = .own k2 0 n ∧ c' = .own kn m n) := fun j c' hj => by
  rw [nestC_get] at hj
  obtain ⟨x, hx, rfl⟩ := Option.map_eq_some_iff.1 hj
  refine ⟨nestA k2 0 x, by rw [nestC_get, hx]; rfl, ?_⟩
  cases x with
  | v x => exact .inl rfl
  | sl es => exact .inr (.inr ⟨es.length, rfl, rfl⟩)
/-- behind a store: the new element's slice joins the family -/
theorem absorb_set {α : Type} (kn : Nat) {k kf k2 m : Nat} {bt ft ft2 : TypeId} {sz fz fz2 : Nat} {c : α → List DV} {xs : List α} (a : α) {cs : List AV} {es2 : List (List DV)} (hk : h k = .live [⟨bt, sz, .av ((nestL kf c xs).set m cs)⟩]) (hf : h kf = .live (famL ft fz c xs)) (h2 : h k2 = .live [⟨ft2, fz2, .data es2⟩]) (hn : h kn = .no)
    (hkf : Nat.beq k kf = false) (hk2 : Nat.beq k k2 = false) (hkk : Nat.beq kf k2 = false) (hcs : NstC k2 0 cs (c a)) (hes : es2 = slOf (c a)) (hft : ft2 = ft) (hfz : fz2 = fz) (hm : m < xs.length) :
    Weak L N ⟨t, h⟩ ⟨t, upd (upd (upd (upd h k (.live [⟨bt, sz, .av (nestL kn c (xs.set m a))⟩])) kf .dead) k2 .dead) kn (.live (famL ft fz c (xs.set m a)))⟩ := by
  subst hft hfz hes
  rw [hcs.eq_] at hk
  refine weak_absorb_ (m := m) hk hf h2 hn (Nat.ne_of_beq_eq_false hkf) (Nat.ne_of_beq_eq_false hk2) (Nat.ne_of_beq_eq_false hkk) (fun f o ho => ?_) (by simp [nestL_len]) fun i cells' hi => ?_
  · rw [famL_get] at ho
    by_cases e : f = m
    · subst e
      rw [List.getElem?_set_self hm] at ho
      simp at ho
      exact .inl ⟨rfl, ho.symm⟩
    · rw [List.getElem?_set_ne (Ne.symm e)] at ho
      exact .inr ⟨e, by rw [famL_get]; exact ho⟩
  · rw [nestL_get] at hi
    by_cases e : i = m
    · subst e
      rw [List.getElem?_set_self hm] at hi
      simp at hi
      subst hi
      exact ⟨nestC k2 0 (c a), by rw [List.getElem?_set_self (by rw [nestL_len]; exact hm)], by rw [nestC_len, nestC_len], absorb_new⟩
    · rw [List.getElem?_set_ne (Ne.symm e)] at hi
      obtain ⟨b, hb, rfl⟩ := Option.map_eq_some_iff.1 hi
      exact ⟨nestC kf i (c b), by rw [List.getElem?_set_ne (Ne.symm e), nestL_get, hb]; rfl, by rw [nestC_len, nestC_len], absorb_cells e⟩
/-- behind an append -/
theorem absorb_app {α : Type} (kn : Nat) {k kf k2 : Nat} {bt ft ft2 : TypeId} {sz fz fz2 : Nat} {c : α → List DV} {xs : List α} (a : α) {cs : List AV} {es2 : List (List DV)} (hk : h k = .live [⟨bt, sz, .av (nestL kf c xs ++ [cs])⟩]) (hf : h kf = .live (famL ft fz c xs)) (h2 : h k2 = .live [⟨ft2, fz2, .data es2⟩]) (hn : h kn = .no)
    (hkf : Nat.beq k kf = false) (hk2 : Nat.beq k k2 = false) (hkk : Nat.beq kf k2 = false) (hcs : NstC k2 0 cs (c a)) (hes : es2 = slOf (c a)) (hft : ft2 = ft) (hfz : fz2 = fz) :
    Weak L N ⟨t, h⟩ ⟨t, upd (upd (upd (upd h k (.live [⟨bt, sz, .av (nestL kn c (xs ++ [a]))⟩])) kf .dead) k2 .dead) kn (.live (famL ft fz c (xs ++ [a])))⟩ := by
  subst hft hfz hes
  rw [hcs.eq_] at hk
  have split : ∀ (i : Nat) (b : α), (xs ++ [a])[i]? = some b → (i = xs.length ∧ b = a) ∨ (i ≠ xs.length ∧ xs[i]? = some b) := fun i b hb => by
    rcases Nat.lt_or_ge i xs.length with hlt | hge
    · rw [List.getElem?_append_left hlt] at hb; exact .inr ⟨by omega, hb⟩
    · rw [List.getElem?_append_right hge] at hb
      cases e : i - xs.length with
      | zero => rw [e] at hb; simp at hb; exact .inl ⟨by omega, hb.symm⟩
      | succ q => rw [e] at hb; simp at hb
  refine weak_absorb_ (m := xs.length) hk hf h2 hn (Nat.ne_of_beq_eq_false hkf) (Nat.ne_of_beq_eq_false hk2) (Nat.ne_of_beq_eq_false hkk) (fun f o ho => ?_) (by simp [nestL_len]) fun i cells' hi => ?_
  · rw [famL_get] at ho
    obtain ⟨b, hb, rfl⟩ := Option.map_eq_some_iff.1 ho
    rcases split f b hb with ⟨e, rfl⟩ | ⟨e, hb⟩
    · exact .inl ⟨e, rfl⟩
    · exact .inr ⟨e, by rw [famL_get, hb]; rfl⟩
  · rw [nestL_get] at hi
    obtain ⟨b, hb, rfl⟩ := Option.map_eq_some_iff.1 hi
    rcases split i b hb with ⟨rfl, rfl⟩ | ⟨e, hb⟩
    · exact ⟨nestC k2 0 (c b), by rw [List.getElem?_append_right (by rw [nestL_len]; exact Nat.le_refl _), nestL_len]; simp, by rw [nestC_len, nestC_len], absorb_new⟩
    · have hlt := (List.getElem?_eq_some_iff.1 hb).1
      exact ⟨nestC kf i (c b), by rw [List.getElem?_append_left (by rw [nestL_len]; exact hlt), nestL_get, hb]; rfl, by rw [nestC_len, nestC_len], absorb_cells e⟩
end
end Go.Proofs.YtjhadibjjldpdaaGreat
